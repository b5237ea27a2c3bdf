import Derived.Test.YtcifihepfadgfaaGreatDoorV
set_option linter.unusedVariables false
set_option linter.unusedVariables false
set_option maxRecDepth 100000
set_option maxHeartbeats 2000000
namespace Go.Proofs.YtcifihepfadgfaaGreatDoor
open Go Go.W
namespace enthymemeref07_BV
noncomputable abbrev X:Fx:=⟨Tryz.prog,Tryz.f25,[],[2]⟩
theorem okT (a:Int) (w:World) (R:Post) (h:newV [] w fun b c=>
 loc [b] c fun d=>R (.returned (.agg #[.i 0,.i a,.i 0])) d):Calls Tryz.prog n_enthymemeref07_BV #[.i a] w R:=callsX X [] h
end enthymemeref07_BV
namespace enthymemeref07_Strings
noncomputable abbrev X:Fx:=⟨Tryz.prog,Tryz.f75,[],[2]⟩
theorem okT (a:Int) (w:World) (R:Post) (h:newV [] w fun b c=>
 loc [b] c fun d=>R (.returned (.agg #[.i 1,.i a,.i 0])) d):Calls Tryz.prog n_enthymemeref07_Strings #[.i a] w R:=callsX X [] h
end enthymemeref07_Strings
namespace enthymemeref07_has
noncomputable abbrev X:Fx:=⟨Tryz.prog,Tryz.f53,[],[]⟩
theorem ok (b:Sl) (a:Int) (w:World) (R:Post) (h:ca0 n_enthymemeref01_Has #[b.v,.i a] w fun c d=>R (.returned (.bool c)) d):Calls Tryz.prog n_enthymemeref07_has #[b.v,.i a] w R:=callsX X [] h
end enthymemeref07_has
namespace enthymemeref07_Kids
noncomputable abbrev X:Fx:=⟨Tryz.prog,Tryz.f77,[],[]⟩
abbrev P0:Ps:=[]
abbrev S0 (w:World) (R:Post):Prop:=
 R (.returned (.i (-1))) w
noncomputable def eS0:=entS X [] (pth [0,1,1,1,1]) P0 S0
abbrev S1 (w:World) (R:Post):Prop:=
 R (.returned (.i 1)) w
noncomputable def eS1:=entS X [eS0] (pth [0,1,1,1,1,1,3]) P0 S1
abbrev S3 (w:World) (R:Post):Prop:=
 R (.returned (.i 3)) w
noncomputable def eS3:=entS X [eS1,eS0] (pth [0,1,3,1,1,1,3]) P0 S3
abbrev S4 (w:World) (R:Post):Prop:=
 R (.returned (.i 2)) w
noncomputable def eS4:=entS X [eS3,eS1,eS0] (pth [4]) P0 S4
abbrev P1:Ps:=[(11,.v [.I])]
abbrev S2 (a:Int) (w:World) (R:Post):Prop:=
 sel (a==19) (sel (a==19) (S3 w R) (S4 w R)) (sel (a==25) (sel (a==25) (S3 w R) (S4 w R)) (sel (a==30) (sel (a==30) (S3 w R) (S4 w R)) (sel (a==32) (S3 w R) (S4 w R))))
noncomputable def eS2:=entS X [eS4,eS3,eS1,eS0] (pth [2,1,1,1,3]) P1 S2
theorem ok (a:Int) (w:World) (R:Post) (h:sel (decide (a<0)) (S0 w R) (sel (decide (a>34)) (S0 w R) (sel (decide (a≤3)) (R (.returned (.i 0)) w) (sel (a==4) (sel (a==4) (S1 w R) (S2 a w R)) (sel (a==5) (sel (a==5) (S1 w R) (S2 a w R)) (sel (a==21) (sel (a==21) (S1 w R) (S2 a w R)) (sel (a==22) (sel (a==22) (S1 w R) (S2 a w R)) (sel (a==23) (sel (a==23) (S1 w R) (S2 a w R)) (sel (a==27) (sel (a==27) (S1 w R) (S2 a w R)) (sel (a==28) (sel (a==28) (S1 w R) (S2 a w R)) (sel (a==33) (sel (a==33) (S1 w R) (S2 a w R)) (sel (a==34) (S1 w R) (S2 a w R))))))))))))):Calls Tryz.prog n_enthymemeref07_Kids #[.i a] w R:=callsX X [eS2,eS4,eS3,eS1,eS0] h
end enthymemeref07_Kids
namespace enthymemeref07_Named
noncomputable abbrev X:Fx:=⟨Tryz.prog,Tryz.f86,[],[]⟩
abbrev P0:Ps:=[]
abbrev S0 (w:World) (R:Post):Prop:=
 R (.returned (.bool false)) w
noncomputable def eS0:=entS X [] (pth [0,1,1,1,1]) P0 S0
abbrev P1:Ps:=[(0,.v [.st]),(3,.v [.I])]
def L1 (b:ByteArray) (a:Int) (w:World) (R:Post):Prop:=mkCur P1 0 (X.Sem (pth [0,1,1,1,2])) b a w R
noncomputable def eL1:=entL X (pth [0,1,1,1,2]) P1 L1
abbrev S4 (b:ByteArray) (a:Int) (w:World) (R:Post):Prop:=
 L1 b (IntKind.wrap .i64 (a+1)) w R
noncomputable def eS4:=entS X [eL1,eS0] (pth [2,2,1,1,2]) P1 S4
abbrev P2:Ps:=[(0,.v [.st]),(3,.v [.I]),(4,.v [.b]),(5,.v [.b])]
abbrev S3 (d:ByteArray) (c:Int) (a b:Bool) (w:World) (R:Post):Prop:=
 sel (!a) (sel (!b) (R (.returned (.bool false)) w) (S4 d c w R)) (S4 d c w R)
noncomputable def eS3:=entS X [eS4,eL1,eS0] (pth [2,2,1,2,1,1,2]) P2 S3
abbrev P3:Ps:=[(0,.v [.st]),(3,.v [.I]),(4,.v [.b])]
abbrev S2 (d:ByteArray) (b:Int) (a:Bool) (w:World) (R:Post):Prop:=
 (0:Int)≤b∧∃e:UInt8,d[Int.toNat b]? =some e∧sel (decide (((e.toNat:Nat):Int)≥48)) ((0:Int)≤b∧∃f:UInt8,d[Int.toNat b]? =some f∧sel (decide (((f.toNat:Nat):Int)≤57)) (S3 d b a true w R) ((0:Int)≤b∧∃g:UInt8,d[Int.toNat b]? =some g∧S3 d b a (((g.toNat:Nat):Int)==45) w R)) ((0:Int)≤b∧∃c:UInt8,d[Int.toNat b]? =some c∧S3 d b a (((c.toNat:Nat):Int)==45) w R)
noncomputable def eS2:=entS X [eS3,eS4,eL1,eS0] (pth [1,2,1,2,1,1,2]) P3 S2
theorem L1_step:∀(d:ByteArray) (a:Int) (w:World) (R:Post) (h:sel (decide (a<((d.size:Nat):Int))) ((0:Int)≤a∧∃b:UInt8,d[Int.toNat a]? =some b∧sel (decide (((b.toNat:Nat):Int)≥97)) ((0:Int)≤a∧∃c:UInt8,d[Int.toNat a]? =some c∧S2 d a (decide (((c.toNat:Nat):Int)≤122)) w R) (S2 d a false w R)) (R (.returned (.bool true)) w)),L1 d a w R:=mp (stepL (X:=X) [eS2,eS3,eS4,eL1,eS0] (pth [0,1,1,1,2]) P1)
theorem ok (c:ByteArray) (w:World) (R:Post) (h:sel (decide (((c.size:Nat):Int)<1)) (S0 w R) (sel (decide (((c.size:Nat):Int)>16)) (S0 w R) ((0:Int)≤0∧∃a:UInt8,c[Int.toNat 0]? =some a∧sel (decide (((a.toNat:Nat):Int)<97)) (S0 w R) ((0:Int)≤0∧∃b:UInt8,c[Int.toNat 0]? =some b∧sel (decide (((b.toNat:Nat):Int)>122)) (S0 w R) (L1 c 0 w R))))):Calls Tryz.prog n_enthymemeref07_Named #[.string c] w R:=callsX X [eS2,eS3,eS4,eL1,eS0] h
end enthymemeref07_Named
namespace enthymemeref06_within
noncomputable abbrev X:Fx:=⟨Tryz.prog,Tryz.f118,[],[]⟩
theorem ok (c b a:Int) (w:World) (R:Post) (h:sel (decide (c≥b)) (R (.returned (.bool (decide (c≤a)))) w) (R (.returned (.bool false)) w)):Calls Tryz.prog n_enthymemeref06_within #[.i c,.i b,.i a] w R:=callsX X [] h
end enthymemeref06_within
namespace enthymemeref06_ValidSort
noncomputable abbrev X:Fx:=⟨Tryz.prog,Tryz.f87,[],[1]⟩
abbrev P0:Ps:=[(3,.v [.b])]
abbrev S0T (a:Bool) (w:World) (R:Post):Prop:=
 sel (!a) (R (.returned (.i 9)) w) (R (.returned (.i 0)) w)
noncomputable def eS0:=entS X [] (pth [3]) P0 S0T
theorem okT (a b c:Int) (w:World) (R:Post) (h:newV [] w fun d e=>
 sel (a==0) (cf0 [d] n_enthymemeref06_within #[.i b,.i 1,.i 64] e fun f n=>sel f (S0T (c==0) n R) (S0T false n R)) (sel (a==1) (cf0 [d] n_enthymemeref06_within #[.i b,.i 0,.i 64] e fun g o=>sel g (S0T (c==0) o R) (S0T false o R)) (sel (a==2) (cf0 [d] n_enthymemeref06_within #[.i b,.i 1,.i 64] e fun j p=>sel j (cf0 [d] n_enthymemeref06_within #[.i c,.i 1,.i 16] p fun k r=>S0T k r R) (S0T false p R)) (sel (a==3) (cf0 [d] n_enthymemeref06_within #[.i b,.i 0,.i 64] e fun l q=>sel l (cf0 [d] n_enthymemeref06_within #[.i c,.i 1,.i 16] q fun m s=>S0T m s R) (S0T false q R)) (S0T false e R))))):Calls Tryz.prog n_enthymemeref06_ValidSort #[.agg #[.i a,.i b,.i c]] w R:=callsX X [eS0] h
end enthymemeref06_ValidSort
namespace enthymemeref07_fields
noncomputable abbrev X:Fx:=⟨Tryz.prog,Tryz.f44,[(1,ls [0,1,3,4,5,2,6])],[3]⟩
abbrev P0:Ps:=[(0,.v [.s]),(3,.l [.I,.s,.I,.I,.U,.st,.I,.I,.I] ty_api_Node),(5,.v [.I])]
def L0T (k:Sl) (m:Nat) (a:Int) (b:Sl) (c d e:Int) (f:ByteArray) (g i j l:Int) (w:World) (R:Post):Prop:=mkCur P0 0 (X.Sem (pth [0,1,1,1,2])) k m a b c d e f g i j l w R
noncomputable def eL0:=entL X (pth [0,1,1,1,2]) P0 L0T
abbrev P1:Ps:=[]
abbrev S1T (w:World) (R:Post):Prop:=
 R (.returned (.i 1)) w
noncomputable def eS1:=entS X [eL0] (pth [0,1,1,2,1,2,1,1,2]) P1 S1T
abbrev S2T (w:World) (R:Post):Prop:=
 R (.returned (.i 1)) w
noncomputable def eS2:=entS X [eS1,eL0] (pth [0,1,1,1,5]) P1 S2T
abbrev S3T (w:World) (R:Post):Prop:=
 R (.returned (.i 0)) w
noncomputable def eS3:=entS X [eS2,eS1,eL0] (pth [6]) P1 S3T
theorem L0T_step:∀(v:Sl) (q:Nat) (c:Int) (e:Sl) (l k f:Int) (d:ByteArray) (m o p j:Int) (w:World) (R:Post) (h:sel (decide (j<((e.n:Nat):Int))) ((0:Int)≤j∧j<((e.n:Nat):Int)∧optP e.a fun r=>∃t:Int,w.cell? (r.add (Int.toNat j *1))=some (.i t)∧
 sel (decide (t<0)) (S1T w R) ((0:Int)≤j∧j<((e.n:Nat):Int)∧optP e.a fun s=>∃u:Int,w.cell? (s.add (Int.toNat j *1))=some (.i u)∧
 sel (decide (u≥((v.n:Nat):Int))) (S1T w R) (L0T v q c e l k f d m o p (IntKind.wrap .i64 (j+1)) w R))) (nwV w (.cells #[.i 21,.i 22,.i 23,.i 28] ty_int) fun z=>
 cf0 [q] n_enthymemeref07_has #[.slice (some (nb w)) 4 4,.i c] z fun x y=>nwV y (.cells #[.i 0,.i 2,.i 33] ty_int) fun w6=>
 cf0 [q] n_enthymemeref07_has #[.slice (some (nb y)) 3 3,.i c] w6 fun g b=>sel (!x) (sel (l !=0) (S2T b R) (sel (c !=21) (sel (k !=0) (S2T b R) (sel (c !=1) (sel (f !=0) (S2T b R) (sel (!g) (sel (!(d.toList==(ByteArray.mk #[]).toList)) (S2T b R) (S3T b R)) (S3T b R))) (sel (!g) (sel (!(d.toList==(ByteArray.mk #[]).toList)) (S2T b R) (S3T b R)) (S3T b R)))) (sel (c !=1) (sel (f !=0) (S2T b R) (sel (!g) (sel (!(d.toList==(ByteArray.mk #[]).toList)) (S2T b R) (S3T b R)) (S3T b R))) (sel (!g) (sel (!(d.toList==(ByteArray.mk #[]).toList)) (S2T b R) (S3T b R)) (S3T b R))))) (sel (c !=21) (sel (k !=0) (S2T b R) (sel (c !=1) (sel (f !=0) (S2T b R) (sel (!g) (sel (!(d.toList==(ByteArray.mk #[]).toList)) (S2T b R) (S3T b R)) (S3T b R))) (sel (!g) (sel (!(d.toList==(ByteArray.mk #[]).toList)) (S2T b R) (S3T b R)) (S3T b R)))) (sel (c !=1) (sel (f !=0) (S2T b R) (sel (!g) (sel (!(d.toList==(ByteArray.mk #[]).toList)) (S2T b R) (S3T b R)) (S3T b R))) (sel (!g) (sel (!(d.toList==(ByteArray.mk #[]).toList)) (S2T b R) (S3T b R)) (S3T b R)))))),L0T v q c e l k f d m o p j w R:=mp (stepL (X:=X) [eS3,eS2,eS1,eL0] (pth [0,1,1,1,2]) P0)
theorem okT (m:Sl) (a:Int) (b:Sl) (c d e:Int) (f:ByteArray) (g j k:Int) (w:World) (R:Post) (h:newV [] w fun l q=>
 loc [l] q fun r=>cf1 [l] n_enthymemeref07_Kids #[.i a] r fun o p=>sel (o !=((b.n:Nat):Int)) (R (.returned (.i 1)) p) (L0T m l a b c d e f g j k 0 p R)):Calls Tryz.prog n_enthymemeref07_fields #[m.v,.agg #[.i a,b.v,.i c,.i d,.u e,.string f,.i g,.i j,.i k]] w R:=callsX X [eS3,eS2,eS1,eL0] h
end enthymemeref07_fields
namespace enthymemeref07_leaf
noncomputable abbrev X:Fx:=⟨Tryz.prog,Tryz.f45,[(19,ls [0,1,2,3,4,5,6,7,8,9,10,11,12,13,14,15,16,17,18,19,20,21,22,23,24,25,26,27,28,29,30])],[3,4]⟩
abbrev P0:Ps:=[(4,.l [.I,.I,.I] ty_api_Sort)]
abbrev S2T (a:Nat) (b c d:Int) (w:World) (R:Post):Prop:=
 loc [a] w fun e=>R (.returned (.tuple #[.agg #[.i 0,.i 0,.i 0],.i 9])) e
noncomputable def eS2:=entS X [] (pth [0,1,1,1,7]) P0 S2T
abbrev P1:Ps:=[(0,.v [.s]),(3,.l [.I,.s,.I,.I,.U,.st,.I,.I,.I] ty_api_Node),(4,.l [.I,.I,.I] ty_api_Sort),(9,.v [.I])]
def L5T (n:Sl) (p:Nat) (a:Int) (b:Sl) (c d e:Int) (f:ByteArray) (g i j:Int) (q:Nat) (k l m o:Int) (w:World) (R:Post):Prop:=mkCur P1 0 (X.Sem (pth [0,1,1,1,9])) n p a b c d e f g i j q k l m o w R
noncomputable def eL5:=entL X (pth [0,1,1,1,9]) P1 L5T
abbrev S6T (n:Sl) (p:Nat) (a:Int) (b:Sl) (c d e:Int) (f:ByteArray) (g i j:Int) (q:Nat) (k l m o:Int) (w:World) (R:Post):Prop:=
 L5T n p a b c d e f g i j q k l m (IntKind.wrap .i64 (o+1)) w R
noncomputable def eS6:=entS X [eL5,eS2] (pth [2,2,1,1,9]) P1 S6T
theorem L5T_step:∀(j:Sl) (s:Nat) (f:Int) (k:Sl) (l m o:Int) (g:ByteArray) (c d e:Int) (t:Nat) (p q r b:Int) (w:World) (R:Post) (h:sel (decide (b<((j.n:Nat):Int))) (sel (f==0) ((0:Int)≤b∧b<((j.n:Nat):Int)∧optP j.a fun v=>loc [s,t] w fun u=>∃x:Int,u.cell? ((v.add (Int.toNat b *9)).add 0)=some (.i x)∧
 sel (x==0) ((0:Int)≤b∧b<((j.n:Nat):Int)∧optP j.a fun y=>∃z:ByteArray,u.cell? ((y.add (Int.toNat b *9)).add 5)=some (.string z)∧
 sel (z.toList==g.toList) ((0:Int)≤b∧b<((j.n:Nat):Int)∧optP j.a fun aa=>ld3_2 u ((aa.add (Int.toNat b *9)).add 6) fun ab ac ad=>sel (!((ab==c)&&((ac==d)&&((ad==e)&&true)))) (loc [s,t] u fun w4=>R (.returned (.tuple #[.agg #[.i 0,.i 0,.i 0],.i 8])) w4) (S6T j s f k l m o g c d e t p q r b u R)) (S6T j s f k l m o g c d e t p q r b u R)) (S6T j s f k l m o g c d e t p q r b u R)) (loc [s,t] w fun u=>S6T j s f k l m o g c d e t p q r b u R)) (loc [s,t] w fun w7=>R (.returned (.tuple #[.agg #[.i c,.i d,.i e],.i 0])) w7)),L5T j s f k l m o g c d e t p q r b w R:=mp (stepL (X:=X) [eS6,eL5,eS2] (pth [0,1,1,1,9]) P1)
abbrev P2:Ps:=[(0,.v [.s]),(3,.l [.I,.s,.I,.I,.U,.st,.I,.I,.I] ty_api_Node),(4,.l [.I,.I,.I] ty_api_Sort)]
abbrev S4T (n:Sl) (o:Nat) (a:Int) (b:Sl) (c d e:Int) (f:ByteArray) (g i j:Int) (p:Nat) (k l m:Int) (w:World) (R:Post):Prop:=
 L5T n o a b c d e f g i j p k l m 0 w R
noncomputable def eS4:=entS X [eS6,eL5,eS2] (pth [9]) P2 S4T
abbrev S3T (q:Sl) (o:Nat) (b:Int) (d:Sl) (e f c:Int) (g:ByteArray) (j a k:Int) (p:Nat) (l m n:Int) (w:World) (R:Post):Prop:=
 sel (b==1) (sel (decide (a<64)) (¬(IntKind.wrap .u64 a)<0∧sel (decide (c≥(IntKind.wrap .u64 (1 *2^(min (Int.toNat (IntKind.wrap .u64 a)) (IntKind.bits .u64)))))) (loc [o,p] w fun r=>R (.returned (.tuple #[.agg #[.i 0,.i 0,.i 0],.i 5])) r) (S4T q o b d e f c g j a k p l m n w R)) (S4T q o b d e f c g j a k p l m n w R)) (S4T q o b d e f c g j a k p l m n w R)
noncomputable def eS3:=entS X [eS4,eS6,eL5,eS2] (pth [8]) P2 S3T
abbrev P3:Ps:=[(0,.v [.s]),(3,.l [.I,.s,.I,.I,.U,.st,.I,.I,.I] ty_api_Node),(4,.l [.I,.I,.I] ty_api_Sort),(8,.v [.b])]
abbrev S1T (p:Sl) (q:Nat) (a:Int) (g:Sl) (i j k:Int) (l:ByteArray) (e m n:Int) (o:Nat) (b c d:Int) (f:Bool) (w:World) (R:Post):Prop:=
 sel (a==1) (sel (e !=0) (S2T o b c d w R) (sel (a==3) (sel (!f) (S2T o b c d w R) (S3T p q a g i j k l e m n o b c d w R)) (S3T p q a g i j k l e m n o b c d w R))) (sel (a==3) (sel (!f) (S2T o b c d w R) (S3T p q a g i j k l e m n o b c d w R)) (S3T p q a g i j k l e m n o b c d w R))
noncomputable def eS1:=entS X [eS3,eS4,eS6,eL5,eS2] (pth [7]) P3 S1T
abbrev P4:Ps:=[(0,.v [.s]),(3,.l [.I,.s,.I,.I,.U,.st,.I,.I,.I] ty_api_Node),(4,.l [.I,.I,.I] ty_api_Sort),(6,.v [.b])]
abbrev S0T (t:Sl) (d:Nat) (e:Int) (f:Sl) (g j k:Int) (l:ByteArray) (a b c:Int) (m:Nat) (n o p:Int) (q:Bool) (w:World) (R:Post):Prop:=
 sel (!q) (loc [d,m] w fun u=>R (.returned (.tuple #[.agg #[.i 0,.i 0,.i 0],.i 6])) u) (cf1 [d,m] n_enthymemeref06_ValidSort #[.agg #[.i a,.i b,.i c]] w fun r s=>sel (r !=0) (loc [d,m] s fun v=>R (.returned (.tuple #[.agg #[.i 0,.i 0,.i 0],.i r])) v) (sel (a==2) (S1T t d e f g j k l a b c m n o p true s R) (S1T t d e f g j k l a b c m n o p (a==3) s R)))
noncomputable def eS0:=entS X [eS1,eS3,eS4,eS6,eL5,eS2] (pth [3]) P4 S0T
theorem okT (r:Sl) (b:Int) (d:Sl) (e f g:Int) (a:ByteArray) (j k l:Int) (w:World) (R:Post) (h:newV [] w fun c x=>
 newV [c] x fun m q=>
 sel (b==2) (sel (decide (((a.size:Nat):Int)>64)) (loc [c,m] q fun y=>R (.returned (.tuple #[.agg #[.i 0,.i 0,.i 0],.i 5])) y) (cf17 [c,m] n_enthymemeref07_Strings #[.i ((a.size:Nat):Int)] q fun n o p z=>loc [c,m] z fun w9=>R (.returned (.tuple #[.agg #[.i n,.i o,.i p],.i 0])) w9)) (sel (b !=0) (S0T r c b d e f g a j k l m 0 0 0 true q R) (cf0 [c,m] n_enthymemeref07_Named #[.string a] q fun s t=>S0T r c b d e f g a j k l m 0 0 0 s t R))):Calls Tryz.prog n_enthymemeref07_leaf #[r.v,.agg #[.i b,d.v,.i e,.i f,.u g,.string a,.i j,.i k,.i l]] w R:=callsX X [eS0,eS1,eS3,eS4,eS6,eL5,eS2] h
end enthymemeref07_leaf
namespace enthymemeref07_Element
noncomputable abbrev X:Fx:=⟨Tryz.prog,Tryz.f88,[],[1,2]⟩
theorem okT (c a j:Int) (w:World) (R:Post) (h:newV [] w fun b p=>
 newV [b] p fun d o=>
 sel (c==2) (cf17 [b,d] n_enthymemeref07_BV #[.i a] o fun k l m q=>loc [b,d] q fun r=>R (.returned (.agg #[.i k,.i l,.i m])) r) (cf17 [b,d] n_enthymemeref07_Strings #[.i a] o fun e f g s=>loc [b,d] s fun n=>R (.returned (.agg #[.i e,.i f,.i g])) n)):Calls Tryz.prog n_enthymemeref07_Element #[.agg #[.i c,.i a,.i j]] w R:=callsX X [] h
end enthymemeref07_Element
namespace enthymemeref07_fit
noncomputable abbrev X:Fx:=⟨Tryz.prog,Tryz.f46,[(13,ls [0,1,2,3,4,5,6,7,8,9,10,11,12,13,14,15]),(15,ls [0,1,2,3,4,5,6,7,8,9,10,11,12,13,14,15,16,17,18,19,20,21,22,23,24,25,26]),(19,ls [0,1,2,3,4,5,6,7,8,9,10]),(21,ls [0,1,2,3,4,5,6,7,8,9,10]),(23,ls [0,1,2,3,4,5,6,7,8,9,10,11,12,13,14,15,16,17,18,19,20,21,22,23,24,25,26,27]),(25,ls [0,1,2,3,4,5,6,7,8]),(34,ls [0,1,2,3,4,5,6,7,8,9,10,11,12,13,14,15]),(38,ls [0,1,2,3]),(39,ls [0,1,2,3,4,5,6,7,8])],[5]⟩
abbrev P0:Ps:=[(6,.v [.b])]
abbrev S1T (a:Bool) (w:World) (R:Post):Prop:=
 R (.returned (.bool a)) w
noncomputable def eS1:=entS X [] (pth [0,1,1,1,1,1,5]) P0 S1T
abbrev P1:Ps:=[]
abbrev S3T (w:World) (R:Post):Prop:=
 R (.returned (.bool false)) w
noncomputable def eS3:=entS X [eS1] (pth [0,1,1,2,11,1,1,1,5]) P1 S3T
abbrev P2:Ps:=[(7,.v [.b])]
abbrev S4T (a:Bool) (w:World) (R:Post):Prop:=
 R (.returned (.bool a)) w
noncomputable def eS4:=entS X [eS3,eS1] (pth [0,1,15,1,1,1,5]) P2 S4T
abbrev P3:Ps:=[(1,.v [.s]),(7,.v [.b])]
abbrev S6T (e:Sl) (d:Bool) (w:World) (R:Post):Prop:=
 sel d ((0:Int)≤1∧1<((e.n:Nat):Int)∧optP e.a fun b=>∃c:Int,w.cell? ((b.add (Int.toNat 1 *3)).add 0)=some (.i c)∧
 R (.returned (.bool (c==1))) w) (R (.returned (.bool false)) w)
noncomputable def eS6:=entS X [eS4,eS3,eS1] (pth [0,1,17,1,1,1,5]) P3 S6T
abbrev P4:Ps:=[(1,.v [.s]),(5,.l [.I,.I,.I] ty_api_Sort),(6,.v [.b]),(7,.v [.b]),(26,.v [.I])]
abbrev S7T (b:Sl) (m:Nat) (ai aj ak:Int) (ao o:Bool) (ah:Int) (w:World) (R:Post):Prop:=
 sel (ah==30) (sel o ((0:Int)≤1∧1<((b.n:Nat):Int)∧optP b.a fun c=>loc [m] w fun w1=>ld3_2 w1 (c.add (Int.toNat 1 *3)) fun d e f=>cf17 [m] n_enthymemeref07_BV #[.i 7] w1 fun p q r w2=>hdW3 w2 (c.add (Int.toNat 1 *3)) (.i d) (.i e) (.i f) fun _=>sel ((d==p)&&((e==q)&&((f==r)&&true))) ((0:Int)≤2∧2<((b.n:Nat):Int)∧optP b.a fun g=>ld3_2 w2 (g.add (Int.toNat 2 *3)) fun j k l=>cf17 [m] n_enthymemeref07_BV #[.i 7] w2 fun s t u w3=>hdW3 w3 (g.add (Int.toNat 2 *3)) (.i j) (.i k) (.i l) fun _=>R (.returned (.bool ((j==s)&&((k==t)&&((l==u)&&true))))) w3) (R (.returned (.bool false)) w2)) (loc [m] w fun w1=>R (.returned (.bool false)) w1)) (sel (ah==32) (sel o ((0:Int)≤1∧1<((b.n:Nat):Int)∧optP b.a fun v=>∃x:Int,w.cell? ((v.add (Int.toNat 1 *3)).add 0)=some (.i x)∧
 sel (x==1) ((0:Int)≤2∧2<((b.n:Nat):Int)∧optP b.a fun y=>∃z:Int,w.cell? ((y.add (Int.toNat 2 *3)).add 0)=some (.i z)∧
 R (.returned (.bool (z==1))) w) (R (.returned (.bool false)) w)) (R (.returned (.bool false)) w)) (sel (ah==34) (loc [m] w fun w4=>cf17 [m] n_enthymemeref07_BV #[.i 8] w4 fun aa ab ac w5=>R (.returned (.bool ((ai==aa)&&((aj==ab)&&((ak==ac)&&true))))) w5) (sel ao ((0:Int)≤1∧1<((b.n:Nat):Int)∧optP b.a fun ad=>loc [m] w fun w6=>ld3_2 w6 (ad.add (Int.toNat 1 *3)) fun ae af ag=>R (.returned (.bool ((ai==ae)&&((aj==af)&&((ak==ag)&&true))))) w6) (loc [m] w fun w6=>R (.returned (.bool false)) w6))))
noncomputable def eS7:=entS X [eS6,eS4,eS3,eS1] (pth [18,1,1,1,5]) P4 S7T
abbrev S5T (f:Sl) (i:Nat) (c d e:Int) (g a:Bool) (b:Int) (w:World) (R:Post):Prop:=
 sel (b==29) (sel (b==29) (S6T f a w R) (S7T f i c d e g a b w R)) (sel (b==31) (S6T f a w R) (S7T f i c d e g a b w R))
noncomputable def eS5:=entS X [eS7,eS6,eS4,eS3,eS1] (pth [16,1,1,1,5]) P4 S5T
abbrev P5:Ps:=[(1,.v [.s]),(5,.l [.I,.I,.I] ty_api_Sort),(6,.v [.b]),(7,.v [.b]),(8,.v [.b]),(26,.v [.I])]
abbrev S2T (b:Sl) (g:Nat) (e f d:Int) (x j k:Bool) (c:Int) (w:World) (R:Post):Prop:=
 sel (c==18) ((0:Int)≤1∧1<((b.n:Nat):Int)∧optP b.a fun au=>loc [g] w fun w1=>ld3_2 w1 (au.add (Int.toNat 1 *3)) fun av aw ax=>sel ((e==av)&&((f==aw)&&((d==ax)&&true))) (R (.returned (.bool true)) w1) (sel j ((0:Int)≤1∧1<((b.n:Nat):Int)∧optP b.a fun ay=>∃bu:Int,w1.cell? ((ay.add (Int.toNat 1 *3)).add 0)=some (.i bu)∧
 R (.returned (.bool (bu==1))) w1) (R (.returned (.bool false)) w1))) (sel (c==19) (loc [g] w fun w2=>cf17 [g] n_enthymemeref07_BV #[.i 1] w2 fun az bb bc u=>sel ((e==az)&&((f==bb)&&((d==bc)&&true))) ((0:Int)≤1∧1<((b.n:Nat):Int)∧optP b.a fun bd=>ld3_2 u (bd.add (Int.toNat 1 *3)) fun be bf bg=>(0:Int)≤2∧2<((b.n:Nat):Int)∧optP b.a fun bh=>ld3_2 u (bh.add (Int.toNat 2 *3)) fun bi bj bk=>sel ((be==bi)&&((bf==bj)&&((bg==bk)&&true))) (R (.returned (.bool true)) u) ((0:Int)≤1∧1<((b.n:Nat):Int)∧optP b.a fun bm=>∃bv:Int,u.cell? ((bm.add (Int.toNat 1 *3)).add 0)=some (.i bv)∧
 sel (bv==1) ((0:Int)≤2∧2<((b.n:Nat):Int)∧optP b.a fun bn=>∃bw:Int,u.cell? ((bn.add (Int.toNat 2 *3)).add 0)=some (.i bw)∧
 R (.returned (.bool (bw==1))) u) (R (.returned (.bool false)) u))) (R (.returned (.bool false)) u)) (sel (c==20) (sel x ((0:Int)≤1∧1<((b.n:Nat):Int)∧optP b.a fun bo=>∃bx:Int,w.cell? ((bo.add (Int.toNat 1 *3)).add 0)=some (.i bx)∧
 R (.returned (.bool (bx==0))) w) (R (.returned (.bool false)) w)) (sel (c==24) (sel k ((0:Int)≤1∧1<((b.n:Nat):Int)∧optP b.a fun y=>loc [g] w fun w4=>ld3_2 w4 (y.add (Int.toNat 1 *3)) fun z aa ab=>cf17 [g] n_enthymemeref07_BV #[.i d] w4 fun bp bq br w5=>hdW3 w5 (y.add (Int.toNat 1 *3)) (.i z) (.i aa) (.i ab) fun _=>R (.returned (.bool ((z==bp)&&((aa==bq)&&((ab==br)&&true))))) w5) (loc [g] w fun w4=>R (.returned (.bool false)) w4)) (sel (c==25) (sel (!k) (loc [g] w fun w6=>S3T w6 R) ((0:Int)≤1∧1<((b.n:Nat):Int)∧optP b.a fun l=>loc [g] w fun w6=>ld3_2 w6 (l.add (Int.toNat 1 *3)) fun m o p=>cf17 [g] n_enthymemeref07_BV #[.i d] w6 fun ad ae af w7=>hdW3 w7 (l.add (Int.toNat 1 *3)) (.i m) (.i o) (.i p) fun _=>sel (!((m==ad)&&((o==ae)&&((p==af)&&true)))) (S3T w7 R) ((0:Int)≤2∧2<((b.n:Nat):Int)∧optP b.a fun q=>loc [g] w7 fun w8=>ld3_2 w8 (q.add (Int.toNat 2 *3)) fun r s t=>cf17 [g] n_enthymemeref07_Element #[.agg #[.i e,.i f,.i d]] w8 fun ag ah ai v=>hdW3 v (q.add (Int.toNat 2 *3)) (.i r) (.i s) (.i t) fun _=>sel ((r==ag)&&((s==ah)&&((t==ai)&&true))) (R (.returned (.bool true)) v) (sel (e==3) ((0:Int)≤2∧2<((b.n:Nat):Int)∧optP b.a fun aj=>∃ak:Int,v.cell? ((aj.add (Int.toNat 2 *3)).add 0)=some (.i ak)∧
 sel (ak==1) ((0:Int)≤2∧2<((b.n:Nat):Int)∧optP b.a fun al=>∃am:Int,v.cell? ((al.add (Int.toNat 2 *3)).add 1)=some (.i am)∧
 R (.returned (.bool (decide (am≤f)))) v) (R (.returned (.bool false)) v)) (R (.returned (.bool false)) v))))) (sel (c==26) (sel k ((0:Int)≤1∧1<((b.n:Nat):Int)∧optP b.a fun an=>loc [g] w fun ac=>ld3_2 ac (an.add (Int.toNat 1 *3)) fun ao ap aq=>R (.returned (.bool ((e==ao)&&((f==ap)&&((d==aq)&&true))))) ac) (loc [g] w fun ac=>R (.returned (.bool false)) ac)) (sel (c==27) (sel (c==27) (S4T j w R) (S5T b g e f d x j c w R)) (sel (c==28) (sel (c==28) (S4T j w R) (S5T b g e f d x j c w R)) (sel (c==33) (S4T j w R) (S5T b g e f d x j c w R)))))))))
noncomputable def eS2:=entS X [eS5,eS7,eS6,eS4,eS3,eS1] (pth [2,1,1,1,5]) P5 S2T
abbrev P6:Ps:=[(0,.v [.I]),(1,.v [.s]),(5,.l [.I,.I,.I] ty_api_Sort),(6,.v [.b]),(7,.v [.b]),(8,.v [.b])]
abbrev S0T (a:Int) (i:Sl) (j:Nat) (e f g:Int) (c d b:Bool) (w:World) (R:Post):Prop:=
 sel (a==4) (sel (a==4) (S1T c w R) (S2T i j e f g c d b a w R)) (sel (a==5) (sel (a==5) (S1T c w R) (S2T i j e f g c d b a w R)) (sel (a==21) (sel (a==21) (S1T c w R) (S2T i j e f g c d b a w R)) (sel (a==22) (sel (a==22) (S1T c w R) (S2T i j e f g c d b a w R)) (sel (a==23) (S1T c w R) (S2T i j e f g c d b a w R)))))
noncomputable def eS0:=entS X [eS2,eS5,eS7,eS6,eS4,eS3,eS1] (pth [5]) P6 S0T
theorem okT (f:Int) (e:Sl) (w:World) (R:Post) (h:(0:Int)≤0∧0<((e.n:Nat):Int)∧optP e.a fun j=>ld3_2 w (j.add (Int.toNat 0 *3)) fun b c d=>newV [] w fun g l=>
 sel (b==2) (loc [g] l fun k=>S0T f e g b c d (b==0) (b==1) true k R) (loc [g] l fun k=>S0T f e g b c d (b==0) (b==1) (b==3) k R)):Calls Tryz.prog n_enthymemeref07_fit #[.i f,e.v] w R:=callsX X [eS0,eS2,eS5,eS7,eS6,eS4,eS3,eS1] h
end enthymemeref07_fit
namespace enthymemeref07_result
noncomputable abbrev X:Fx:=⟨Tryz.prog,Tryz.f47,[(10,ls [0,1,2,3,4,5,6,7,8,9,10,11]),(13,ls [0,1,2,3,4,5,6,8,9,10,11,12,13,14,15,7,16,17]),(15,ls [0,1,2,3,4,5,7,8,9,6,10,11,12,13,14,15,16,17,18,19,20,21,22,23,24,25]),(18,ls [0,1,2,3,4,6,7,8,5,9,10,11,12,13,14,15,16,17,18]),(27,ls [1,2,3,0,4,5,6,7,8,9,10]),(29,ls [0,1,2,3,4,5,6,8,9,10,11,12,13,14,15,7,16,17]),(31,ls [0,1,2,3,4,5,6,8,9,10,11,12,13,14,15,7,16,17])],[2,4,6]⟩
abbrev P0:Ps:=[(4,.l [.I,.I,.I] ty_api_Sort)]
abbrev S0T (d:Nat) (e f g:Int) (w:World) (R:Post):Prop:=
 cf17 [d] n_enthymemeref07_BV #[.i 1] w fun a b c j=>loc [d] j fun k=>R (.returned (.tuple #[.agg #[.i a,.i b,.i c],.bool true])) k
noncomputable def eS0:=entS X [] (pth [0,1,1,1,1,1,2]) P0 S0T
abbrev P1:Ps:=[(2,.l [.I,.s,.I,.I,.U,.st,.I,.I,.I] ty_api_Node),(4,.l [.I,.I,.I] ty_api_Sort),(6,.l [.I,.I,.I] ty_api_Sort)]
abbrev S2T (f:Nat) (l:Int) (m:Sl) (a n o:Int) (p:ByteArray) (q r s:Int) (g:Nat) (t u v:Int) (j:Nat) (aa e ab:Int) (w:World) (R:Post):Prop:=
 loc [f,g,j] w fun x=>cf17 [f,g,j] n_enthymemeref07_BV #[.i (IntKind.wrap .i64 (e+a))] x fun b c d k=>sel (decide (a≥1)) (loc [f,g,j] k fun y=>R (.returned (.tuple #[.agg #[.i b,.i c,.i d],.bool (decide (a≤(IntKind.wrap .i64 (64 - e))))])) y) (loc [f,g,j] k fun z=>R (.returned (.tuple #[.agg #[.i b,.i c,.i d],.bool false])) z)
noncomputable def eS2:=entS X [eS0] (pth [0,1,9,1,1,1,2]) P1 S2T
abbrev S4T (d:Nat) (e f g:Int) (w:World) (R:Post):Prop:=
 cf17 [d] n_enthymemeref07_BV #[.i 7] w fun a b c j=>loc [d] j fun k=>R (.returned (.tuple #[.agg #[.i a,.i b,.i c],.bool true])) k
noncomputable def eS4:=entS X [eS2,eS0] (pth [0,1,15,1,1,1,2]) P0 S4T
abbrev P2:Ps:=[(1,.v [.s]),(2,.l [.I,.s,.I,.I,.U,.st,.I,.I,.I] ty_api_Node),(4,.l [.I,.I,.I] ty_api_Sort),(6,.l [.I,.I,.I] ty_api_Sort),(11,.v [.I])]
abbrev S5T (l:Sl) (b:Nat) (au:Int) (av:Sl) (r aw ax:Int) (ay:ByteArray) (az bb bc:Int) (c:Nat) (bd be bf:Int) (d:Nat) (am g an q:Int) (w:World) (R:Post):Prop:=
 sel (q==28) (loc [b,c,d] w fun w1=>cf17 [b,c,d] n_enthymemeref07_BV #[.i 8] w1 fun m o p w2=>sel (decide (r≥0)) (loc [b,c,d] w2 fun w5=>R (.returned (.tuple #[.agg #[.i m,.i o,.i p],.bool (decide (r≤63))])) w5) (loc [b,c,d] w2 fun w8=>R (.returned (.tuple #[.agg #[.i m,.i o,.i p],.bool false])) w8)) (sel (q==29) ((0:Int)≤1∧1<((l.n:Nat):Int)∧optP l.a fun s=>loc [b,c,d] w fun w9=>∃t:Int,w9.cell? ((s.add (Int.toNat 1 *3)).add 1)=some (.i t)∧
 (0:Int)≤1∧1<((l.n:Nat):Int)∧optP l.a fun e=>∃j:Int,w9.cell? ((e.add (Int.toNat 1 *3)).add 1)=some (.i j)∧
 cf17 [b,c,d] n_enthymemeref07_Strings #[.i (IntKind.wrap .i64 (g+t))] w9 fun u v x ah=>ah.cell? ((e.add (Int.toNat 1 *3)).add 1)=some (.i j)∧loc [b,c,d] ah fun ai=>ai.cell? ((e.add (Int.toNat 1 *3)).add 1)=some (.i j)∧R (.returned (.tuple #[.agg #[.i u,.i v,.i x],.bool (decide ((IntKind.wrap .i64 (g+j))≤64))])) ai) (sel (q==32) ((0:Int)≤2∧2<((l.n:Nat):Int)∧optP l.a fun y=>loc [b,c,d] w fun ag=>∃z:Int,ag.cell? ((y.add (Int.toNat 2 *3)).add 1)=some (.i z)∧
 (0:Int)≤2∧2<((l.n:Nat):Int)∧optP l.a fun f=>∃k:Int,ag.cell? ((f.add (Int.toNat 2 *3)).add 1)=some (.i k)∧
 cf17 [b,c,d] n_enthymemeref07_Strings #[.i (IntKind.wrap .i64 (g+z))] ag fun aa ab ac aj=>aj.cell? ((f.add (Int.toNat 2 *3)).add 1)=some (.i k)∧loc [b,c,d] aj fun ak=>ak.cell? ((f.add (Int.toNat 2 *3)).add 1)=some (.i k)∧R (.returned (.tuple #[.agg #[.i aa,.i ab,.i ac],.bool (decide ((IntKind.wrap .i64 (g+k))≤64))])) ak) (sel (q==34) (cf17 [b,c,d] n_enthymemeref07_Strings #[.i 1] w fun ad ae af ao=>loc [b,c,d] ao fun aq=>R (.returned (.tuple #[.agg #[.i ad,.i ae,.i af],.bool true])) aq) (loc [b,c,d] w fun ar=>R (.returned (.tuple #[.agg #[.i am,.i g,.i an],.bool true])) ar))))
noncomputable def eS5:=entS X [eS4,eS2,eS0] (pth [16,1,1,1,2]) P2 S5T
abbrev S3T (k1:Sl) (k:Nat) (m:Int) (n:Sl) (o p q:Int) (r:ByteArray) (s t u:Int) (f:Nat) (b c d:Int) (l:Nat) (g j e a:Int) (w:World) (R:Post):Prop:=
 sel (a==24) (cf17 [k,f,l] n_enthymemeref07_Element #[.agg #[.i g,.i j,.i e]] w fun v x y w1=>loc [k,f,l] w1 fun w4=>R (.returned (.tuple #[.agg #[.i v,.i x,.i y],.bool true])) w4) (sel (a==26) (cf17 [k,f,l] n_enthymemeref07_BV #[.i e] w fun z aa ab w5=>loc [k,f,l] w5 fun w8=>R (.returned (.tuple #[.agg #[.i z,.i aa,.i ab],.bool true])) w8) (sel (a==27) (sel (a==27) (S4T f b c d w R) (S5T k1 k m n o p q r s t u f b c d l g j e a w R)) (sel (a==31) (S4T f b c d w R) (S5T k1 k m n o p q r s t u f b c d l g j e a w R))))
noncomputable def eS3:=entS X [eS5,eS4,eS2,eS0] (pth [10,1,1,1,2]) P2 S3T
abbrev S1T (j:Sl) (b:Nat) (l:Int) (m:Sl) (e f o:Int) (p:ByteArray) (q r s:Int) (c:Nat) (t u v:Int) (d:Nat) (ab g ac k:Int) (w:World) (R:Post):Prop:=
 sel (k==19) ((0:Int)≤1∧1<((j.n:Nat):Int)∧optP j.a fun ah=>∃ax:Int,w.cell? ((ah.add (Int.toNat 1 *3)).add 0)=some (.i ax)∧
 sel (ax==1) ((0:Int)≤1∧1<((j.n:Nat):Int)∧optP j.a fun ai=>loc [b,c,d] w fun w1=>∃ae:Int,w1.cell? ((ai.add (Int.toNat 1 *3)).add 1)=some (.i ae)∧
 (0:Int)≤2∧2<((j.n:Nat):Int)∧optP j.a fun aj=>∃af:Int,w1.cell? ((aj.add (Int.toNat 2 *3)).add 1)=some (.i af)∧
 cf17 [b,c,d] n_enthymemeref07_Strings #[.i (if ae<af then af else ae)] w1 fun ak al am w2=>loc [b,c,d] w2 fun w5=>R (.returned (.tuple #[.agg #[.i ak,.i al,.i am],.bool true])) w5) ((0:Int)≤1∧1<((j.n:Nat):Int)∧optP j.a fun an=>ld3_2 w (an.add (Int.toNat 1 *3)) fun ao ap aq=>loc [b,c,d] w fun w8=>R (.returned (.tuple #[.agg #[.i ao,.i ap,.i aq],.bool true])) w8)) (sel (k==20) ((0:Int)≤1∧1<((j.n:Nat):Int)∧optP j.a fun ar=>loc [b,c,d] w fun w9=>∃ay:Int,w9.cell? ((ar.add (Int.toNat 1 *3)).add 1)=some (.i ay)∧
 (0:Int)≤1∧1<((j.n:Nat):Int)∧optP j.a fun x=>∃ad:Int,w9.cell? ((x.add (Int.toNat 1 *3)).add 1)=some (.i ad)∧
 cf17 [b,c,d] n_enthymemeref07_BV #[.i (IntKind.wrap .i64 (g+ay))] w9 fun au av aw az=>az.cell? ((x.add (Int.toNat 1 *3)).add 1)=some (.i ad)∧loc [b,c,d] az fun bb=>bb.cell? ((x.add (Int.toNat 1 *3)).add 1)=some (.i ad)∧R (.returned (.tuple #[.agg #[.i au,.i av,.i aw],.bool (decide ((IntKind.wrap .i64 (g+ad))≤64))])) bb) (sel (k==21) (loc [b,c,d] w fun be=>cf17 [b,c,d] n_enthymemeref07_BV #[.i (IntKind.wrap .i64 ((IntKind.wrap .i64 (e - f))+1))] be fun y z aa ag=>sel (decide (f≥0)) (sel (decide (f≤e)) (loc [b,c,d] ag fun bf=>R (.returned (.tuple #[.agg #[.i y,.i z,.i aa],.bool (decide (e<g))])) bf) (loc [b,c,d] ag fun bg=>R (.returned (.tuple #[.agg #[.i y,.i z,.i aa],.bool false])) bg)) (loc [b,c,d] ag fun bh=>R (.returned (.tuple #[.agg #[.i y,.i z,.i aa],.bool false])) bh)) (sel (k==22) (sel (k==22) (S2T b l m e f o p q r s c t u v d ab g ac w R) (S3T j b l m e f o p q r s c t u v d ab g ac k w R)) (sel (k==23) (S2T b l m e f o p q r s c t u v d ab g ac w R) (S3T j b l m e f o p q r s c t u v d ab g ac k w R)))))
noncomputable def eS1:=entS X [eS3,eS5,eS4,eS2,eS0] (pth [2,1,1,1,2]) P2 S1T
theorem okT (b:Int) (g:Sl) (j k l:Int) (m:ByteArray) (o p q:Int) (y:Sl) (w:World) (R:Post) (h:newV [] w fun e w1=>
 newV [e] w1 fun c w2=>
 (0:Int)≤0∧0<((y.n:Nat):Int)∧optP y.a fun z=>ld3_2 w2 (z.add (Int.toNat 0 *3)) fun r s t=>newV [e,c] w2 fun f x=>
 sel (b==16) (sel (b==16) (loc [e,c,f] x fun d=>S0T c 0 0 0 d R) (loc [e,c,f] x fun d=>S1T y e b g j k l m o p q c 0 0 0 f r s t b d R)) (sel (b==17) (sel (b==17) (loc [e,c,f] x fun d=>S0T c 0 0 0 d R) (loc [e,c,f] x fun d=>S1T y e b g j k l m o p q c 0 0 0 f r s t b d R)) (sel (b==18) (sel (b==18) (loc [e,c,f] x fun d=>S0T c 0 0 0 d R) (loc [e,c,f] x fun d=>S1T y e b g j k l m o p q c 0 0 0 f r s t b d R)) (sel (b==33) (loc [e,c,f] x fun d=>S0T c 0 0 0 d R) (loc [e,c,f] x fun d=>S1T y e b g j k l m o p q c 0 0 0 f r s t b d R))))):Calls Tryz.prog n_enthymemeref07_result #[.agg #[.i b,g.v,.i j,.i k,.u l,.string m,.i o,.i p,.i q],y.v] w R:=callsX X [eS1,eS3,eS5,eS4,eS2,eS0] h
end enthymemeref07_result
namespace enthymemeref07_SortOf
noncomputable abbrev X:Fx:=⟨Tryz.prog,Tryz.f13,[],[3,4,10]⟩
abbrev P0:Ps:=[(0,.v [.s]),(3,.l [.I,.s,.I,.I,.U,.st,.I,.I,.I] ty_api_Node),(4,.l [.I,.I,.I] ty_api_Sort),(7,.v [.s]),(8,.v [.I])]
def L0T (n:Sl) (q:Nat) (a:Int) (b:Sl) (c d e:Int) (f:ByteArray) (g i j:Int) (r:Nat) (k l m:Int) (p:Sl) (o:Int) (w:World) (R:Post):Prop:=mkCur P0 0 (X.Sem (pth [0,1,1,1,5])) n q a b c d e f g i j r k l m p o w R
noncomputable def eL0:=entL X (pth [0,1,1,1,5]) P0 L0T
abbrev P1:Ps:=[(4,.l [.I,.I,.I] ty_api_Sort),(10,.l [.I,.I,.I] ty_api_Sort),(12,.v [.b])]
abbrev S1T (f:Nat) (g j k:Int) (e:Nat) (b c d:Int) (a:Bool) (w:World) (R:Post):Prop:=
 sel (!a) (loc [f,e] w fun l=>R (.returned (.tuple #[.agg #[.i 0,.i 0,.i 0],.i 2])) l) (loc [f,e] w fun m=>R (.returned (.tuple #[.agg #[.i b,.i c,.i d],.i 0])) m)
noncomputable def eS1:=entS X [eL0] (pth [11]) P1 S1T
theorem L0T_step:∀(g0:Sl) (d:Nat) (e:Int) (b:Sl) (q r s:Int) (l:ByteArray) (t x y:Int) (c:Nat) (m o p:Int) (k7:Sl) (i8:Int) (w:World) (R:Post) (h:sel (decide (i8<((b.n:Nat):Int))) ((0:Int)≤i8∧i8<((b.n:Nat):Int)∧optP b.a fun ag=>∃z:Int,w.cell? (ag.add (Int.toNat i8 *1))=some (.i z)∧
 (0:Int)≤z∧z<((g0.n:Nat):Int)∧optP g0.a fun ah=>ld3_2 w ((ah.add (Int.toNat z *9)).add 6) fun ai aj ak=>nwV w (.cells #[.i ai,.i aj,.i ak] ty_api_Sort) fun an=>
 ∃(am:Sl) (ab:World),Sem.run Tryz.prog (Builtin.append_ #[ty_sl_api_Sort,ty_sl_api_Sort] ty_sl_api_Sort #[k7.v,.slice (some (nb w)) 1 1]) an=.ok (am.v) ab∧kept [d,c] an ab∧L0T g0 d e b q r s l t x y c m o p am (IntKind.wrap .i64 (i8+1)) ab R) (cf0 [d,c] n_enthymemeref07_fit #[.i e,k7.v] w fun ap ao=>sel (!ap) (loc [d,c] ao fun ar=>R (.returned (.tuple #[.agg #[.i 0,.i 0,.i 0],.i 9])) ar) (cf18 [d,c] n_enthymemeref07_result #[.agg #[.i e,b.v,.i q,.i r,.u s,.string l,.i t,.i x,.i y],k7.v] ao fun g j k al au=>newV [d,c] au fun f ac=>
 sel (!al) (loc [d,c,f] ac fun av=>R (.returned (.tuple #[.agg #[.i 0,.i 0,.i 0],.i 5])) av) (sel (e !=33) (loc [d,c,f] ac fun ad=>S1T c m o p f g j k true ad R) (loc [d,c,f] ac fun ad=>cf0 [d,c,f] n_enthymemeref04_Canonical #[.string l] ad fun aq aw=>S1T c m o p f g j k aq aw R))))),L0T g0 d e b q r s l t x y c m o p k7 i8 w R:=mp (stepL (X:=X) [eS1,eL0] (pth [0,1,1,1,5]) P0)
theorem okT (r:Sl) (b:Int) (a:Sl) (c d e:Int) (f:ByteArray) (g j k:Int) (w:World) (R:Post) (h:newV [] w fun l z=>
 newV [l] z fun q w2=>
 cf1 [l,q] n_enthymemeref07_fields #[r.v,.agg #[.i b,a.v,.i c,.i d,.u e,.string f,.i g,.i j,.i k]] w2 fun t x=>sel (t !=0) (loc [l,q] x fun w6=>R (.returned (.tuple #[.agg #[.i 0,.i 0,.i 0],.i t])) w6) (sel (((a.n:Nat):Int)==0) (cf19 [l,q] n_enthymemeref07_leaf #[r.v,.agg #[.i b,a.v,.i c,.i d,.u e,.string f,.i g,.i j,.i k]] x fun m o p s w7=>loc [l,q] w7 fun y=>R (.returned (.tuple #[.agg #[.i m,.i o,.i p],.i s])) y) (L0T r l b a c d e f g j k q 0 0 0 ⟨none,0,0⟩ 0 x R))):Calls Tryz.prog n_enthymemeref07_SortOf #[r.v,.agg #[.i b,a.v,.i c,.i d,.u e,.string f,.i g,.i j,.i k]] w R:=callsX X [eS1,eL0] h
end enthymemeref07_SortOf
namespace enthymemeref07_Same
noncomputable abbrev X:Fx:=⟨Tryz.prog,Tryz.f52,[],[2,3]⟩
theorem okT (b:Int) (c:Sl) (d e f:Int) (g:ByteArray) (j k l m:Int) (n:Sl) (o p q:Int) (r:ByteArray) (s t x:Int) (w:World) (R:Post) (h:newV [] w fun y w1=>
 newV [y] w1 fun b3 a=>
 sel (b==m) (sel (d==o) (sel (e==p) (sel (f==q) (sel (g.toList==r.toList) (sel ((j==s)&&((k==t)&&((l==x)&&true))) (cf0 [y,b3] n_enthymemeref01_SameInts #[c.v,n.v] a fun z w3=>R (.returned (.bool z)) w3) (R (.returned (.bool false)) a)) (R (.returned (.bool false)) a)) (R (.returned (.bool false)) a)) (R (.returned (.bool false)) a)) (R (.returned (.bool false)) a)) (R (.returned (.bool false)) a)):Calls Tryz.prog n_enthymemeref07_Same #[.agg #[.i b,c.v,.i d,.i e,.u f,.string g,.i j,.i k,.i l],.agg #[.i m,n.v,.i o,.i p,.u q,.string r,.i s,.i t,.i x]] w R:=callsX X [] h
end enthymemeref07_Same
namespace enthymemeref07_Index
noncomputable abbrev X:Fx:=⟨Tryz.prog,Tryz.f51,[(7,ls [0,1,2,3,4,5,6])],[3,5]⟩
abbrev P0:Ps:=[(0,.v [.s]),(3,.l [.I,.s,.I,.I,.U,.st,.I,.I,.I] ty_api_Node),(7,.v [.I])]
def L1T (k:Sl) (m:Nat) (a:Int) (b:Sl) (c d e:Int) (f:ByteArray) (g i j l:Int) (w:World) (R:Post):Prop:=mkCur P0 0 (X.Sem (pth [0,1,1,1,3])) k m a b c d e f g i j l w R
noncomputable def eL1:=entL X (pth [0,1,1,1,3]) P0 L1T
theorem L1T_step:∀(o:Sl) (p:Nat) (c:Int) (d:Sl) (e f g:Int) (j:ByteArray) (k l m b:Int) (w:World) (R:Post) (h:sel (decide (b<((o.n:Nat):Int))) ((0:Int)≤b∧b<((o.n:Nat):Int)∧optP o.a fun q=>loc [p] w fun w1=>ld9_3 w1 (q.add (Int.toNat b *9)) fun r s t x y z aa ab ac=>cf0 [p] n_enthymemeref07_Same #[.agg #[.i r,s.v,.i t,.i x,.u y,.string z,.i aa,.i ab,.i ac],.agg #[.i c,d.v,.i e,.i f,.u g,.string j,.i k,.i l,.i m]] w1 fun ad w2=>sel ad (R (.returned (.i b)) w2) (L1T o p c d e f g j k l m (IntKind.wrap .i64 (b+1)) w2 R)) (R (.returned (.i (-1))) w)),L1T o p c d e f g j k l m b w R:=mp (stepL (X:=X) [eL1] (pth [0,1,1,1,3]) P0)
abbrev P1:Ps:=[(0,.v [.s]),(3,.l [.I,.s,.I,.I,.U,.st,.I,.I,.I] ty_api_Node)]
abbrev S0T (k:Sl) (l:Nat) (a:Int) (b:Sl) (c d e:Int) (f:ByteArray) (g i j:Int) (w:World) (R:Post):Prop:=
 L1T k l a b c d e f g i j 0 w R
noncomputable def eS0:=entS X [eL1] (pth [3]) P1 S0T
theorem okT (p:Sl) (a:Int) (b:Sl) (c d e:Int) (f:ByteArray) (g j k:Int) (w:World) (R:Post) (h:newV [] w fun l t=>
 cf19 [l] n_enthymemeref07_SortOf #[p.v,.agg #[.i a,b.v,.i c,.i d,.u e,.string f,.i g,.i j,.i k]] t fun m n o q x=>newV [l] x fun r s=>
 sel (q==0) (loc [l,r] s fun z=>S0T p l a b c d e f m n o z R) (loc [l,r] s fun y=>S0T p l a b c d e f g j k y R)):Calls Tryz.prog n_enthymemeref07_Index #[p.v,.agg #[.i a,b.v,.i c,.i d,.u e,.string f,.i g,.i j,.i k]] w R:=callsX X [eS0,eL1] h
end enthymemeref07_Index
namespace enthymemeref07_Add
noncomputable abbrev X:Fx:=⟨Tryz.prog,Tryz.f15,[(10,(.sq [1,3,6,7] (.fork (.sq [0] (.fork (ls [2,4,5,8,9,10]) (ls [4,2,5,8,9,10]))) (ls [4,0,2,5,8,9,10]))))],[3,7]⟩
theorem okT (o:Sl) (e:Int) (f:Sl) (g j k:Int) (l:ByteArray) (ad ae af:Int) (w:World) (R:Post) (h:newV [] w fun d w1=>
 cf19 [d] n_enthymemeref07_SortOf #[o.v,.agg #[.i e,f.v,.i g,.i j,.u k,.string l,.i ad,.i ae,.i af]] w1 fun a b c x w2=>newV [d] w2 fun m w3=>
 sel (x !=0) (loc [d,m] w3 fun w6=>R (.returned (.tuple #[.slice none 0 0,.i 0,.i x])) w6) (loc [d,m] w3 fun w9=>cf1 [d,m] n_enthymemeref07_Index #[o.v,.agg #[.i e,f.v,.i g,.i j,.u k,.string l,.i a,.i b,.i c]] w9 fun aj y=>sel (decide (aj≥0)) (R (.returned (.tuple #[o.v,.i aj,.i 0])) y) (sel (decide (((o.n:Nat):Int)≥4096)) (R (.returned (.tuple #[.slice none 0 0,.i 0,.i 4])) y) (((loc [d,m] y fun p=>nwV p (.cells #[] ty_api_Node) fun z=>
 ((∃(ak:Sl) (aa:World),Sem.run Tryz.prog (Builtin.append_ #[ty_sl_api_Node,ty_sl_api_Node] ty_sl_api_Node #[.slice (some (nb p)) 0 0,o.v]) z=.ok (ak.v) aa∧kept [d,m] z aa∧nwV aa (.cells #[.i e,f.v,.i g,.i j,.u k,.string l,.i a,.i b,.i c] ty_api_Node) fun am=>
 ∃(al:Sl) (ag:World),Sem.run Tryz.prog (Builtin.append_ #[ty_sl_api_Node,ty_sl_api_Node] ty_sl_api_Node #[ak.v,.slice (some (nb aa)) 1 1]) am=.ok (al.v) ag∧kept [d,m] am ag∧R (.returned (.tuple #[al.v,.i ((o.n:Nat):Int),.i 0])) ag)∧(nwV z (.cells #[.i e,f.v,.i g,.i j,.u k,.string l,.i a,.i b,.i c] ty_api_Node) fun an=>
 ∃(q:Sl) (ab:World),Sem.run Tryz.prog (Builtin.append_ #[ty_sl_api_Node,ty_sl_api_Node] ty_sl_api_Node #[.slice (some (nb p)) 0 0,o.v]) an=.ok (q.v) ab∧kept [d,m] an ab∧∃(s:Sl) (ah:World),Sem.run Tryz.prog (Builtin.append_ #[ty_sl_api_Node,ty_sl_api_Node] ty_sl_api_Node #[q.v,.slice (some (nb z)) 1 1]) ab=.ok (s.v) ah∧kept [d,m] ab ah∧R (.returned (.tuple #[s.v,.i ((o.n:Nat):Int),.i 0])) ah)))∧(loc [d,m] y fun p=>nwV p (.cells #[.i e,f.v,.i g,.i j,.u k,.string l,.i a,.i b,.i c] ty_api_Node) fun ao=>
 nwV ao (.cells #[] ty_api_Node) fun ap=>
 ∃(r:Sl) (ac:World),Sem.run Tryz.prog (Builtin.append_ #[ty_sl_api_Node,ty_sl_api_Node] ty_sl_api_Node #[.slice (some (nb ao)) 0 0,o.v]) ap=.ok (r.v) ac∧kept [d,m] ap ac∧∃(t:Sl) (ai:World),Sem.run Tryz.prog (Builtin.append_ #[ty_sl_api_Node,ty_sl_api_Node] ty_sl_api_Node #[r.v,.slice (some (nb p)) 1 1]) ac=.ok (t.v) ai∧kept [d,m] ac ai∧R (.returned (.tuple #[t.v,.i ((o.n:Nat):Int),.i 0])) ai)))))):Calls Tryz.prog n_enthymemeref07_Add #[o.v,.agg #[.i e,f.v,.i g,.i j,.u k,.string l,.i ad,.i ae,.i af]] w R:=callsX X [] h
end enthymemeref07_Add
namespace enthymemeref07_start
noncomputable abbrev X:Fx:=⟨Tryz.prog,Tryz.f38,[],[]⟩
abbrev P0:Ps:=[(3,.v [.s])]
abbrev S1 (a:Sl) (w:World) (R:Post):Prop:=
 R (.returned (a.v)) w
noncomputable def eS1:=entS X [] (pth [4]) P0 S1
abbrev P1:Ps:=[(0,.v [.I]),(3,.v [.s])]
abbrev S0 (a:Int) (n:Sl) (w:World) (R:Post):Prop:=
 sel (decide (a>1)) (ca17 n_enthymemeref07_Strings #[.i 2] w fun b c d q=>ca17 n_enthymemeref07_Strings #[.i 1] q fun e f g r=>ca17 n_enthymemeref07_BV #[.i 7] r fun j k l o=>nwV o (.cells #[.i 0,.slice none 0 0,.i 0,.i 0,.u 0,.string (ByteArray.mk #[115]),.i b,.i c,.i d,.i 0,.slice none 0 0,.i 0,.i 0,.u 0,.string (ByteArray.mk #[116]),.i e,.i f,.i g,.i 0,.slice none 0 0,.i 0,.i 0,.u 0,.string (ByteArray.mk #[105]),.i j,.i k,.i l,.i 0,.slice none 0 0,.i 0,.i 0,.u 0,.string (ByteArray.mk #[122]),.i 3,.i 1,.i 1] ty_api_Node) fun s=>
 ∃(m:Sl) (p:World),Sem.run Tryz.prog (Builtin.append_ #[ty_sl_api_Node,ty_sl_api_Node] ty_sl_api_Node #[n.v,.slice (some (nb o)) 4 4]) s=.ok (m.v) p∧S1 m p R) (S1 n w R)
noncomputable def eS0:=entS X [eS1] (pth [3]) P1 S0
theorem ok (a:Int) (w:World) (R:Post) (h:ca17 n_enthymemeref07_BV #[.i 2] w fun f g j t=>ca17 n_enthymemeref07_BV #[.i 2] t fun k l m x=>ca17 n_enthymemeref07_BV #[.i 1] x fun n o p y=>ca17 n_enthymemeref07_BV #[.i 3] y fun b c d q=>nwV q (.cells #[.i 0,.slice none 0 0,.i 0,.i 0,.u 0,.string (ByteArray.mk #[97]),.i f,.i g,.i j,.i 0,.slice none 0 0,.i 0,.i 0,.u 0,.string (ByteArray.mk #[98]),.i k,.i l,.i m,.i 0,.slice none 0 0,.i 0,.i 0,.u 0,.string (ByteArray.mk #[99]),.i n,.i o,.i p,.i 0,.slice none 0 0,.i 0,.i 0,.u 0,.string (ByteArray.mk #[100]),.i b,.i c,.i d] ty_api_Node) fun r=>
 sel (decide (a>0)) (nwV r (.cells #[.i 0,.slice none 0 0,.i 0,.i 0,.u 0,.string (ByteArray.mk #[109]),.i 2,.i 2,.i 1,.i 0,.slice none 0 0,.i 0,.i 0,.u 0,.string (ByteArray.mk #[110]),.i 2,.i 2,.i 1] ty_api_Node) fun z=>
 ∃(e:Sl) (s:World),Sem.run Tryz.prog (Builtin.append_ #[ty_sl_api_Node,ty_sl_api_Node] ty_sl_api_Node #[.slice (some (nb q)) 4 4,.slice (some (nb r)) 2 2]) z=.ok (e.v) s∧S0 a e s R) (S0 a ⟨some (nb q),4,4⟩ r R)):Calls Tryz.prog n_enthymemeref07_start #[.i a] w R:=callsX X [eS0,eS1] h
end enthymemeref07_start
namespace enthymemeref07_Like
noncomputable abbrev X:Fx:=⟨Tryz.prog,Tryz.f78,[(5,ls [0,1,2,3,4,5,6])],[4]⟩
abbrev P0:Ps:=[(0,.v [.s]),(2,.v [.I]),(4,.l [.I,.I,.I] ty_api_Sort),(7,.v [.s]),(8,.v [.I])]
def L0T (d:Sl) (g:Int) (i:Nat) (a b c:Int) (f:Sl) (e:Int) (w:World) (R:Post):Prop:=mkCur P0 0 (X.Sem (pth [0,1,1,1,2])) d g i a b c f e w R
noncomputable def eL0:=entL X (pth [0,1,1,1,2]) P0 L0T
abbrev S1T (d:Sl) (g:Int) (i:Nat) (a b c:Int) (f:Sl) (e:Int) (w:World) (R:Post):Prop:=
 L0T d g i a b c f (IntKind.wrap .i64 (e+1)) w R
noncomputable def eS1:=entS X [eL0] (pth [2,2,1,1,2]) P0 S1T
theorem L0T_step:∀(g:Sl) (l:Int) (j:Nat) (b c d:Int) (f:Sl) (e:Int) (w:World) (R:Post) (h:sel (decide (e<((g.n:Nat):Int))) ((0:Int)≤e∧e<((g.n:Nat):Int)∧optP g.a fun m=>loc [j] w fun s=>ld3_2 s ((m.add (Int.toNat e *9)).add 6) fun o p q=>sel ((o==b)&&((p==c)&&((q==d)&&true))) (nwV s (.cells #[.i e] ty_int) fun y=>
 ∃(t:Sl) (x:World),Sem.run Tryz.prog (Builtin.append_ #[ty_sl_int,ty_sl_int] ty_sl_int #[f.v,.slice (some (nb s)) 1 1]) y=.ok (t.v) x∧kept [j] y x∧S1T g l j b c d t e x R) (S1T g l j b c d f e s R)) (sel (((f.n:Nat):Int)==0) (R (.returned (.i (-1))) w) (cf1 [j] n_enthymemeref01_Around #[.i l,.i ((f.n:Nat):Int)] w fun k z=>(0:Int)≤k∧k<((f.n:Nat):Int)∧optP f.a fun r=>∃u:Int,z.cell? (r.add (Int.toNat k *1))=some (.i u)∧
 R (.returned (.i u)) z))),L0T g l j b c d f e w R:=mp (stepL (X:=X) [eS1,eL0] (pth [0,1,1,1,2]) P0)
theorem okT (d:Sl) (a b c e:Int) (w:World) (R:Post) (h:newV [] w fun f g=>
 L0T d e f a b c ⟨none,0,0⟩ 0 g R):Calls Tryz.prog n_enthymemeref07_Like #[d.v,.agg #[.i a,.i b,.i c],.i e] w R:=callsX X [eS1,eL0] h
end enthymemeref07_Like
namespace enthymemeref07_wanted
noncomputable abbrev X:Fx:=⟨Tryz.prog,Tryz.f79,[],[10,11]⟩
abbrev P0:Ps:=[(4,.v [.I]),(10,.l [.I,.I,.I] ty_api_Sort)]
abbrev S0T (k:Int) (a:Nat) (f g j:Int) (w:World) (R:Post):Prop:=
 cf1 [a] n_enthymemeref01_Around #[.i k,.i 3] w fun e l=>cf17 [a] n_enthymemeref07_Strings #[.i e] l fun b c d m=>loc [a] m fun n=>R (.returned (.agg #[.i b,.i c,.i d])) n
noncomputable def eS0:=entS X [] (pth [0,1,11,1,1,1,2]) P0 S0T
abbrev P1:Ps:=[(10,.l [.I,.I,.I] ty_api_Sort),(11,.l [.I,.I,.I] ty_api_Sort)]
abbrev S1T (d:Nat) (f g j:Int) (e:Nat) (a b c:Int) (w:World) (R:Post):Prop:=
 loc [d,e] w fun k=>R (.returned (.agg #[.i a,.i b,.i c])) k
noncomputable def eS1:=entS X [eS0] (pth [3]) P1 S1T
theorem okT (m:Sl) (e g p o:Int) (w:World) (R:Post) (h:newV [] w fun b w1=>
 (0:Int)≤g∧g<((m.n:Nat):Int)∧optP m.a fun r=>ld3_2 w1 ((r.add (Int.toNat g *9)).add 6) fun k l f=>newV [b] w1 fun c j=>
 sel (e==19) (loc [b,c] j fun d=>cf1 [b,c] n_enthymemeref01_Around #[.i o,.i ((m.n:Nat):Int)] d fun q w6=>(0:Int)≤q∧q<((m.n:Nat):Int)∧optP m.a fun s=>ld3_2 w6 ((s.add (Int.toNat q *9)).add 6) fun t u x=>loc [b,c] w6 fun w9=>R (.returned (.agg #[.i t,.i u,.i x])) w9) (sel (e==20) (loc [b,c] j fun d=>cf1 [b,c] n_enthymemeref01_Around #[.i o,.i 3] d fun an ap=>cf17 [b,c] n_enthymemeref07_BV #[.i (IntKind.wrap .i64 (1+an))] ap fun y z aa aq=>loc [b,c] aq fun ar=>R (.returned (.agg #[.i y,.i z,.i aa])) ar) (sel (e==24) (loc [b,c] j fun d=>cf17 [b,c] n_enthymemeref07_BV #[.i f] d fun ab ac ad au=>loc [b,c] au fun av=>R (.returned (.agg #[.i ab,.i ac,.i ad])) av) (sel (e==25) (sel (p==1) (loc [b,c] j fun d=>cf17 [b,c] n_enthymemeref07_BV #[.i f] d fun ae af ag aw=>loc [b,c] aw fun ax=>R (.returned (.agg #[.i ae,.i af,.i ag])) ax) (loc [b,c] j fun d=>cf17 [b,c] n_enthymemeref07_Element #[.agg #[.i k,.i l,.i f]] d fun ah ai aj ay=>loc [b,c] ay fun az=>R (.returned (.agg #[.i ah,.i ai,.i aj])) az)) (sel (e==30) (loc [b,c] j fun d=>cf17 [b,c] n_enthymemeref07_BV #[.i 7] d fun ak al am bb=>loc [b,c] bb fun bc=>R (.returned (.agg #[.i ak,.i al,.i am])) bc) (sel (e==29) (sel (e==29) (loc [b,c] j fun d=>S0T o b 0 0 0 d R) (loc [b,c] j fun d=>S1T b 0 0 0 c k l f d R)) (sel (e==31) (sel (e==31) (loc [b,c] j fun d=>S0T o b 0 0 0 d R) (loc [b,c] j fun d=>S1T b 0 0 0 c k l f d R)) (sel (e==32) (loc [b,c] j fun d=>S0T o b 0 0 0 d R) (loc [b,c] j fun d=>S1T b 0 0 0 c k l f d R))))))))):Calls Tryz.prog n_enthymemeref07_wanted #[m.v,.i e,.i g,.i p,.i o] w R:=callsX X [eS1,eS0] h
end enthymemeref07_wanted
namespace enthymemeref07_node
noncomputable abbrev X:Fx:=⟨Tryz.prog,Tryz.f39,[(38,ls [0,1,2,3,4,5,6,7,8,9,10,11,12])],[8,10,16]⟩
abbrev P0:Ps:=[(0,.v [.s]),(2,.v [.I]),(3,.v [.I]),(8,.l [.I,.s,.I,.I,.U,.st,.I,.I,.I] ty_api_Node),(10,.l [.I,.s,.I,.I,.U,.st,.I,.I,.I] ty_api_Node),(11,.v [.I]),(13,.v [.I]),(14,.v [.I])]
def L5T (y:Sl) (m2 z:Int) (t8:Nat) (m:Int) (n:Sl) (o p q:Int) (r:ByteArray) (s t u:Int) (l:Nat) (a:Int) (b:Sl) (c d e:Int) (f:ByteArray) (g i j x k v:Int) (w:World) (R:Post):Prop:=mkCur P0 0 (X.Sem (pth [0,1,1,1,8])) y m2 z t8 m n o p q r s t u l a b c d e f g i j x k v w R
noncomputable def eL5:=entL X (pth [0,1,1,1,8]) P0 L5T
abbrev P1:Ps:=[(0,.v [.s]),(2,.v [.I]),(3,.v [.I]),(8,.l [.I,.s,.I,.I,.U,.st,.I,.I,.I] ty_api_Node),(10,.l [.I,.s,.I,.I,.U,.st,.I,.I,.I] ty_api_Node),(11,.v [.I]),(13,.v [.I]),(14,.v [.I]),(15,.v [.I])]
abbrev S7T (g0:Sl) (m2 k3:Int) (q:Nat) (s:Int) (t:Sl) (x y z:Int) (aa:ByteArray) (ab ac ad:Int) (a:Nat) (c:Int) (d:Sl) (e f g:Int) (j:ByteArray) (k l m ag n ae b:Int) (w:World) (R:Post):Prop:=
 sel (decide (b<0)) (loc [q,a] w fun w9=>R (.returned (.agg #[.i (-1),.slice none 0 0,.i 0,.i 0,.u 0,.s0,.i 0,.i 0,.i 0])) w9) (nwV w (.cells #[.i b] ty_int) fun r=>
 ∃(o:Sl) (p:World),Sem.run Tryz.prog (Builtin.append_ #[ty_sl_int,ty_sl_int] ty_sl_int #[d.v,.slice (some (nb w)) 1 1]) r=.ok (o.v) p∧kept [q,a] r p∧loc [q,a] p fun af=>L5T g0 m2 k3 q s t x y z aa ab ac ad a c o e f g j k l m ag n (IntKind.wrap .i64 (ae+1)) af R)
noncomputable def eS7:=entS X [eL5] (pth [2,2,1,2,1,1,8]) P1 S7T
abbrev P2:Ps:=[(0,.v [.s]),(2,.v [.I]),(3,.v [.I]),(8,.l [.I,.s,.I,.I,.U,.st,.I,.I,.I] ty_api_Node),(10,.l [.I,.s,.I,.I,.U,.st,.I,.I,.I] ty_api_Node),(11,.v [.I]),(13,.v [.I]),(14,.v [.I]),(16,.l [.I,.I,.I] ty_api_Sort)]
abbrev S6T (g0:Sl) (m2 k3:Int) (t:Nat) (u:Int) (x:Sl) (y z aa:Int) (ab:ByteArray) (ac ad ae:Int) (a:Nat) (c:Int) (d:Sl) (e f g:Int) (j:ByteArray) (k l m ai n b:Int) (r:Nat) (o p q:Int) (w:World) (R:Post):Prop:=
 (IntKind.wrap .i64 (1+(IntKind.wrap .i64 (5 *b))))≠0∧loc [t,a,r] w fun w1=>cf1 [t,a,r] n_enthymemeref07_Like #[g0.v,.agg #[.i o,.i p,.i q],.i (IntKind.wrap .i64 ((IntKind.wrap .i64 (Int.tdiv k3 (IntKind.wrap .i64 (1+(IntKind.wrap .i64 (5 *b))))))+(IntKind.wrap .i64 (b *m2))))] w1 fun s w2=>S7T g0 m2 k3 t u x y z aa ab ac ad ae a c d e f g j k l m ai n b s w2 R
noncomputable def eS6:=entS X [eS7,eL5] (pth [2,1,1,1,1,2,1,2,1,1,8]) P2 S6T
theorem L5T_step:∀(g0:Sl) (m2 k3:Int) (r:Nat) (s:Int) (t:Sl) (x y z:Int) (aa:ByteArray) (ab ac ad:Int) (b:Nat) (c:Int) (d:Sl) (e f g:Int) (j:ByteArray) (k l m q o p:Int) (w:World) (R:Post) (h:sel (decide (p<o)) (sel (decide (p>0)) (sel (decide (q≥0)) (cf17 [r,b] n_enthymemeref07_wanted #[g0.v,.i c,.i q,.i p,.i m2] w fun ah ai aj w1=>newV [r,b] w1 fun ae w2=>
 sel (c==19) (sel (p==2) ((0:Int)≤1∧1<((d.n:Nat):Int)∧optP d.a fun an=>loc [r,b,ae] w2 fun w5=>∃ag:Int,w5.cell? (an.add (Int.toNat 1 *1))=some (.i ag)∧
 (0:Int)≤ag∧ag<((g0.n:Nat):Int)∧optP g0.a fun ao=>ld3_2 w5 ((ao.add (Int.toNat ag *9)).add 6) fun ap aq ar=>loc [r,b,ae] w5 fun w8=>S6T g0 m2 k3 r s t x y z aa ab ac ad b c d e f g j k l m q o p ae ap aq ar w8 R) (loc [r,b,ae] w2 fun w5=>S6T g0 m2 k3 r s t x y z aa ab ac ad b c d e f g j k l m q o p ae ah ai aj w5 R)) (loc [r,b,ae] w2 fun w5=>S6T g0 m2 k3 r s t x y z aa ab ac ad b c d e f g j k l m q o p ae ah ai aj w5 R)) (S7T g0 m2 k3 r s t x y z aa ab ac ad b c d e f g j k l m q o p q w R)) (S7T g0 m2 k3 r s t x y z aa ab ac ad b c d e f g j k l m q o p q w R)) (loc [r,b] w fun av=>R (.returned (.agg #[.i c,d.v,.i e,.i f,.u g,.string j,.i k,.i l,.i m])) av)),L5T g0 m2 k3 r s t x y z aa ab ac ad b c d e f g j k l m q o p w R:=mp (stepL (X:=X) [eS6,eS7,eL5] (pth [0,1,1,1,8]) P0)
abbrev P3:Ps:=[(0,.v [.s]),(2,.v [.I]),(3,.v [.I]),(8,.l [.I,.s,.I,.I,.U,.st,.I,.I,.I] ty_api_Node),(10,.l [.I,.s,.I,.I,.U,.st,.I,.I,.I] ty_api_Node),(11,.v [.I]),(13,.v [.I])]
abbrev S4T (x:Sl) (z y:Int) (t8:Nat) (m:Int) (n:Sl) (o p q:Int) (r:ByteArray) (s t u:Int) (l:Nat) (a:Int) (b:Sl) (c d e:Int) (f:ByteArray) (g i j v k:Int) (w:World) (R:Post):Prop:=
 L5T x z y t8 m n o p q r s t u l a b c d e f g i j v k 0 w R
noncomputable def eS4:=entS X [eS6,eS7,eL5] (pth [8]) P3 S4T
abbrev P4:Ps:=[(0,.v [.s]),(1,.v [.I]),(2,.v [.I]),(3,.v [.I]),(8,.l [.I,.s,.I,.I,.U,.st,.I,.I,.I] ty_api_Node),(10,.l [.I,.s,.I,.I,.U,.st,.I,.I,.I] ty_api_Node),(11,.v [.I]),(13,.v [.I])]
abbrev S3T (g0:Sl) (n1 m2 k3:Int) (t8:Nat) (q:Int) (r:Sl) (s t u:Int) (x:ByteArray) (y z aa:Int) (b:Nat) (a:Int) (c:Sl) (d e f:Int) (g:ByteArray) (j k l ag m:Int) (w:World) (R:Post):Prop:=
 sel (a==34) (cf17 [t8,b] n_enthymemeref07_BV #[.i 8] w fun n o p w1=>cf1 [t8,b] n_enthymemeref07_Like #[g0.v,.agg #[.i n,.i o,.i p],.i (IntKind.wrap .i64 (Int.tdiv n1 64))] w1 fun ad w2=>S4T g0 m2 k3 t8 q r s t u x y z aa b a c d e f g j k l ad m w2 R) (S4T g0 m2 k3 t8 q r s t u x y z aa b a c d e f g j k l ag m w R)
noncomputable def eS3:=entS X [eS4,eS6,eS7,eL5] (pth [7]) P4 S3T
abbrev P5:Ps:=[(0,.v [.s]),(1,.v [.I]),(2,.v [.I]),(3,.v [.I]),(8,.l [.I,.s,.I,.I,.U,.st,.I,.I,.I] ty_api_Node),(10,.l [.I,.s,.I,.I,.U,.st,.I,.I,.I] ty_api_Node),(11,.v [.I])]
abbrev S2T (g0:Sl) (n1 m2 k3:Int) (q:Nat) (r:Int) (s:Sl) (t u x:Int) (y:ByteArray) (z aa ab:Int) (b:Nat) (a:Int) (c:Sl) (d e f:Int) (g:ByteArray) (j k l ai:Int) (w:World) (R:Post):Prop:=
 cf1 [q,b] n_enthymemeref07_Kids #[.i a] w fun m w1=>sel (a==19) (cf17 [q,b] n_enthymemeref07_BV #[.i 1] w1 fun n o p w2=>cf1 [q,b] n_enthymemeref07_Like #[g0.v,.agg #[.i n,.i o,.i p],.i (IntKind.wrap .i64 (Int.tdiv n1 64))] w2 fun ae w3=>S3T g0 n1 m2 k3 q r s t u x y z aa ab b a c d e f g j k l ae m w3 R) (S3T g0 n1 m2 k3 q r s t u x y z aa ab b a c d e f g j k l ai m w1 R)
noncomputable def eS2:=entS X [eS3,eS4,eS6,eS7,eL5] (pth [5]) P5 S2T
abbrev P6:Ps:=[(0,.v [.s]),(1,.v [.I]),(2,.v [.I]),(3,.v [.I]),(8,.l [.I,.s,.I,.I,.U,.st,.I,.I,.I] ty_api_Node),(10,.l [.I,.s,.I,.I,.U,.st,.I,.I,.I] ty_api_Node),(11,.v [.I]),(12,.v [.I])]
abbrev S1T (g0:Sl) (n1 m2 k3:Int) (j:Nat) (n:Int) (o:Sl) (p q r:Int) (s:ByteArray) (t u v:Int) (a:Nat) (c:Int) (d:Sl) (e f x:Int) (g:ByteArray) (y z aa ad b:Int) (w:World) (R:Post):Prop:=
 cf17 [j,a] n_enthymemeref07_BV #[.i b] w fun k l m w1=>¬(IntKind.wrap .u64 (if 3<b then 3 else b))<0∧loc [j,a] w1 fun w4=>cf1 [j,a] n_enthymemeref01_Around #[.i k3,.i (IntKind.wrap .i64 (1 *2^(min (Int.toNat (IntKind.wrap .u64 (if 3<b then 3 else b))) (IntKind.bits .i64))))] w4 fun ac w5=>loc [j,a] w5 fun w6=>S2T g0 n1 m2 k3 j n o p q r s t u v a c d e f (IntKind.wrap .u64 ac) g k l m ad w6 R
noncomputable def eS1:=entS X [eS2,eS3,eS4,eS6,eS7,eL5] (pth [2,1,1,1,1,1,4]) P6 S1T
abbrev S0T (y:Sl) (n1 z v:Int) (t8:Nat) (l:Int) (m:Sl) (n o p:Int) (q:ByteArray) (r s t:Int) (k:Nat) (a:Int) (b:Sl) (c d e:Int) (f:ByteArray) (g i j u x:Int) (w:World) (R:Post):Prop:=
 sel ((Int.tmod v 7)==0) (S1T y n1 z v t8 l m n o p q r s t k a b c d e f g i j u 7 w R) (S1T y n1 z v t8 l m n o p q r s t k a b c d e f g i j u x w R)
noncomputable def eS0:=entS X [eS1,eS2,eS3,eS4,eS6,eS7,eL5] (pth [1,1,1,1,1,1,4]) P6 S0T
abbrev S8T (g0:Sl) (n1 x k3:Int) (l:Nat) (m:Int) (n:Sl) (o p q:Int) (r:ByteArray) (s t u:Int) (a:Nat) (b:Int) (c:Sl) (v d e:Int) (f:ByteArray) (g j k z:Int) (w:World) (R:Post):Prop:=
 cf1 [l,a] n_enthymemeref01_Around #[.i x,.i 2] w fun y w1=>loc [l,a] w1 fun w2=>S2T g0 n1 x k3 l m n o p q r s t u a b c (IntKind.wrap .i64 (1+y)) d e f g j k z w2 R
noncomputable def eS8:=entS X [eS0,eS1,eS2,eS3,eS4,eS6,eS7,eL5] (pth [0,1,9,1,1,1,4]) P5 S8T
abbrev P7:Ps:=[(0,.v [.s]),(1,.v [.I]),(2,.v [.I]),(3,.v [.I]),(8,.l [.I,.s,.I,.I,.U,.st,.I,.I,.I] ty_api_Node),(10,.l [.I,.s,.I,.I,.U,.st,.I,.I,.I] ty_api_Node),(11,.v [.I]),(32,.v [.I])]
abbrev S9T (g0:Sl) (n1 x k3:Int) (m:Nat) (n:Int) (o:Sl) (p q r:Int) (s:ByteArray) (t u v:Int) (a:Nat) (b:Int) (c:Sl) (k d e:Int) (l:ByteArray) (f g j y z:Int) (w:World) (R:Post):Prop:=
 sel (z==28) (cf1 [m,a] n_enthymemeref01_Around #[.i x,.i 3] w fun ae w1=>loc [m,a] w1 fun w2=>S2T g0 n1 x k3 m n o p q r s t u v a b c ae d e l f g j y w2 R) (sel (z==33) (cf15 [m,a] n_enthymemeref04_Text #[.i x] w fun ad w3=>loc [m,a] w3 fun w4=>S2T g0 n1 x k3 m n o p q r s t u v a b c k d e ad f g j y w4 R) (S2T g0 n1 x k3 m n o p q r s t u v a b c k d e l f g j y w R))
noncomputable def eS9:=entS X [eS8,eS0,eS1,eS2,eS3,eS4,eS6,eS7,eL5] (pth [10,1,1,1,4]) P7 S9T
theorem okT (j:Sl) (k g l:Int) (w:World) (R:Post) (h:newV [] w fun d w1=>
 nwV w1 (.cells #[.i 4,.i 5,.i 6,.i 7,.i 8,.i 9,.i 10,.i 11,.i 12,.i 13,.i 14,.i 15,.i 16,.i 17,.i 18,.i 19,.i 20,.i 21,.i 22,.i 23,.i 24,.i 25,.i 26,.i 27,.i 28,.i 29,.i 30,.i 31,.i 32,.i 33,.i 34,.i 1,.i 2,.i 3,.i 18,.i 18,.i 16,.i 6,.i 24,.i 25] ty_int) fun w2=>
 cf1 [d] n_enthymemeref01_Around #[.i k,.i ((40:Nat):Int)] w2 fun m w3=>(0:Int)≤m∧m<((40:Nat):Int)∧optP (some (nb w1)) fun r=>∃c:Int,w3.cell? (r.add (Int.toNat m *1))=some (.i c)∧
 newV [d] w3 fun b w4=>
 loc [d,b] w4 fun ah=>cf1 [d,b] n_enthymemeref01_Around #[.i (IntKind.wrap .i64 (Int.tdiv k 64)),.i ((j.n:Nat):Int)] ah fun e f=>sel (c==1) (cf1 [d,b] n_enthymemeref01_Around #[.i g,.i 3] f fun ae ai=>S0T j k g l d 0 ⟨none,0,0⟩ 0 0 0 (ByteArray.mk #[]) 0 0 0 b c ⟨none,0,0⟩ 0 0 0 (ByteArray.mk #[]) 0 0 0 e (IntKind.wrap .i64 (1+ae)) ai R) (sel (c==2) (nwV f (.cells #[.s0,.string (ByteArray.mk #[97]),.string (ByteArray.mk #[97,98]),.string (ByteArray.mk #[98]),.string (ByteArray.mk #[0]),.string (ByteArray.mk #[97,97])] ty_string) fun aj=>
 cf1 [d,b] n_enthymemeref01_Around #[.i g,.i 6] aj fun o ac=>(0:Int)≤o∧o<((6:Nat):Int)∧optP (some (nb f)) fun s=>∃aa:ByteArray,ac.cell? (s.add (Int.toNat o *1))=some (.string aa)∧
 loc [d,b] ac fun ak=>S2T j k g l d 0 ⟨none,0,0⟩ 0 0 0 (ByteArray.mk #[]) 0 0 0 b c ⟨none,0,0⟩ 0 0 0 aa 0 0 0 e ak R) (sel (c==3) (nwV f (.cells #[.i 2,.i 2,.i 1,.i 3,.i 1,.i 1] ty_api_Sort) fun al=>
 cf1 [d,b] n_enthymemeref01_Around #[.i g,.i 2] al fun p ad=>(0:Int)≤p∧p<((2:Nat):Int)∧optP (some (nb f)) fun t=>ld3_2 ad (t.add (Int.toNat p *3)) fun u x y=>loc [d,b] ad fun am=>S2T j k g l d 0 ⟨none,0,0⟩ 0 0 0 (ByteArray.mk #[]) 0 0 0 b c ⟨none,0,0⟩ 0 0 0 (ByteArray.mk #[]) u x y e am R) (sel (c==21) ((0:Int)≤e∧e<((j.n:Nat):Int)∧optP j.a fun z=>∃q:Int,f.cell? (((z.add (Int.toNat e *9)).add 6).add 1)=some (.i q)∧
 cf1 [d,b] n_enthymemeref01_Around #[.i g,.i (if 1<q then q else 1)] f fun ab an=>loc [d,b] an fun ao=>cf1 [d,b] n_enthymemeref01_Around #[.i l,.i (IntKind.wrap .i64 (ab+1))] ao fun af ap=>loc [d,b] ap fun aq=>S2T j k g l d 0 ⟨none,0,0⟩ 0 0 0 (ByteArray.mk #[]) 0 0 0 b c ⟨none,0,0⟩ ab af 0 (ByteArray.mk #[]) 0 0 0 e aq R) (sel (c==22) (sel (c==22) (S8T j k g l d 0 ⟨none,0,0⟩ 0 0 0 (ByteArray.mk #[]) 0 0 0 b c ⟨none,0,0⟩ 0 0 0 (ByteArray.mk #[]) 0 0 0 e f R) (S9T j k g l d 0 ⟨none,0,0⟩ 0 0 0 (ByteArray.mk #[]) 0 0 0 b c ⟨none,0,0⟩ 0 0 0 (ByteArray.mk #[]) 0 0 0 e c f R)) (sel (c==23) (S8T j k g l d 0 ⟨none,0,0⟩ 0 0 0 (ByteArray.mk #[]) 0 0 0 b c ⟨none,0,0⟩ 0 0 0 (ByteArray.mk #[]) 0 0 0 e f R) (S9T j k g l d 0 ⟨none,0,0⟩ 0 0 0 (ByteArray.mk #[]) 0 0 0 b c ⟨none,0,0⟩ 0 0 0 (ByteArray.mk #[]) 0 0 0 e c f R))))))):Calls Tryz.prog n_enthymemeref07_node #[j.v,.i k,.i g,.i l] w R:=callsX X [eS9,eS8,eS0,eS1,eS2,eS3,eS4,eS6,eS7,eL5] h
end enthymemeref07_node
namespace enthymemeref07_size
noncomputable abbrev X:Fx:=⟨Tryz.prog,Tryz.f41,[],[]⟩
abbrev P0:Ps:=[(0,.v [.s]),(1,.v [.I]),(5,.v [.I]),(6,.v [.I])]
def L0 (a:Sl) (b d c:Int) (w:World) (R:Post):Prop:=mkCur P0 0 (X.Sem (pth [0,1,1,1,2])) a b d c w R
noncomputable def eL0:=entL X (pth [0,1,1,1,2]) P0 L0
abbrev S1 (a:Sl) (b d c:Int) (w:World) (R:Post):Prop:=
 L0 a b d (IntKind.wrap .i64 (c+1)) w R
noncomputable def eS1:=entS X [eL0] (pth [2,2,1,1,2]) P0 S1
theorem L0_step:∀(c:Sl) (b m d:Int) (w:World) (R:Post) (h:(0:Int)≤b∧b<((c.n:Nat):Int)∧optP c.a fun f=>∃k:Sl,w.cell? ((f.add (Int.toNat b *9)).add 1)=some (k.v)∧
 sel (decide (d<((k.n:Nat):Int))) ((0:Int)≤b∧b<((c.n:Nat):Int)∧optP c.a fun g=>∃e:Sl,w.cell? ((g.add (Int.toNat b *9)).add 1)=some (e.v)∧
 (0:Int)≤d∧d<((e.n:Nat):Int)∧optP e.a fun j=>∃l:Int,w.cell? (j.add (Int.toNat d *1))=some (.i l)∧
 ca1 n_enthymemeref07_size #[c.v,.i l] w fun o p=>S1 c b (IntKind.wrap .i64 (m+o)) d p R) (R (.returned (.i m)) w)),L0 c b m d w R:=mp (stepL (X:=X) [eS1,eL0] (pth [0,1,1,1,2]) P0)
theorem ok (a:Sl) (b:Int) (w:World) (R:Post) (h:L0 a b 1 0 w R):Calls Tryz.prog n_enthymemeref07_size #[a.v,.i b] w R:=callsX X [eS1,eL0] h
end enthymemeref07_size
namespace enthymemeref07_within
noncomputable abbrev X:Fx:=⟨Tryz.prog,Tryz.f40,[],[3]⟩
theorem okT (a b d e:Int) (w:World) (R:Post) (h:newV [] w fun f c=>
 sel (b==0) (R (.returned (.bool true)) c) (sel (decide (a>0)) (sel (b==2) (R (.returned (.bool true)) c) (R (.returned (.bool (decide (a>1)))) c)) (R (.returned (.bool (decide (a>1)))) c))):Calls Tryz.prog n_enthymemeref07_within #[.i a,.agg #[.i b,.i d,.i e]] w R:=callsX X [] h
end enthymemeref07_within
namespace enthymemeref07_Made
noncomputable abbrev X:Fx:=⟨Tryz.prog,Tryz.f9,[(5,(.sq [0,1,2,3,4,5,6,7,8,9,10,11,12,13,14] (.fork (ls [15,16,17]) (ls [16,15,17]))))],[9]⟩
abbrev P0:Ps:=[(0,.v [.s]),(1,.v [.I]),(2,.v [.I]),(7,.v [.s]),(8,.v [.I])]
def L0T (e:Sl) (a b:Int) (c:Sl) (d:Int) (w:World) (R:Post):Prop:=mkCur P0 0 (X.Sem (pth [0,1,1,1,2])) e a b c d w R
noncomputable def eL0:=entL X (pth [0,1,1,1,2]) P0 L0T
abbrev S2T (e:Sl) (a b:Int) (c:Sl) (d:Int) (w:World) (R:Post):Prop:=
 L0T e a b c (IntKind.wrap .i64 (d+3)) w R
noncomputable def eS2:=entS X [eL0] (pth [2,2,1,1,2]) P0 S2T
abbrev P1:Ps:=[(0,.v [.s]),(1,.v [.I]),(2,.v [.I]),(7,.v [.s]),(8,.v [.I]),(9,.l [.I,.s,.I,.I,.U,.st,.I,.I,.I] ty_api_Node)]
abbrev S1T (j:Sl) (c e:Int) (f:Sl) (g:Int) (t:Nat) (x:Int) (y:Sl) (z aa ab:Int) (ac:ByteArray) (ad ae af:Int) (w:World) (R:Post):Prop:=
 cf20 [t] n_enthymemeref07_Add #[f.v,.agg #[.i x,y.v,.i z,.i aa,.u ab,.string ac,.i ad,.i ae,.i af]] w fun d b k w1=>sel (k==0) ((0:Int)≤b∧b<((d.n:Nat):Int)∧optP d.a fun l=>ld3_2 w1 ((l.add (Int.toNat b *9)).add 6) fun m o p=>cf0 [t] n_enthymemeref07_within #[.i c,.agg #[.i m,.i o,.i p]] w1 fun ah r=>sel ah ((0:Int)≤b∧b<((d.n:Nat):Int)∧optP d.a fun q=>∃s:Int,r.cell? (((q.add (Int.toNat b *9)).add 6).add 1)=some (.i s)∧
 sel (decide (s≤16)) (cf1 [t] n_enthymemeref07_size #[d.v,.i b] r fun ai w3=>sel (decide (ai≤400)) (S2T j c e d g w3 R) (S2T j c e f g w3 R)) (S2T j c e f g r R)) (S2T j c e f g r R)) (S2T j c e f g w1 R)
noncomputable def eS1:=entS X [eS2,eL0] (pth [1,2,1,2,1,1,2]) P1 S1T
abbrev P2:Ps:=[(7,.v [.s])]
abbrev S3T (a:Sl) (w:World) (R:Post):Prop:=
 R (.returned (a.v)) w
noncomputable def eS3:=entS X [eS1,eS2,eL0] (pth [3]) P2 S3T
theorem L0T_step:∀(d:Sl) (e c:Int) (f:Sl) (b:Int) (w:World) (R:Post) (h:sel (decide ((IntKind.wrap .i64 (b+2))<((d.n:Nat):Int))) (sel (decide (b<(IntKind.wrap .i64 (3 *c)))) (drV w fun w2=>(0:Int)≤b∧b<((d.n:Nat):Int)∧optP d.a fun s=>∃t:Int,w2.cell? (s.add (Int.toNat b *1))=some (.i t)∧
 (0:Int)≤(IntKind.wrap .i64 (b+1))∧(IntKind.wrap .i64 (b+1))<((d.n:Nat):Int)∧optP d.a fun u=>∃x:Int,w2.cell? (u.add (Int.toNat (IntKind.wrap .i64 (b+1)) *1))=some (.i x)∧
 (0:Int)≤(IntKind.wrap .i64 (b+2))∧(IntKind.wrap .i64 (b+2))<((d.n:Nat):Int)∧optP d.a fun y=>∃z:Int,w2.cell? (y.add (Int.toNat (IntKind.wrap .i64 (b+2)) *1))=some (.i z)∧
 ((ca21 n_enthymemeref07_node #[f.v,.i t,.i x,.i z] w2 fun ad ae af ag ah ai aj ak al w3=>newV [] w3 fun b9 w4=>
 loc [b9] w4 fun an=>S1T d e c f b b9 ad ae af ag ah ai aj ak al an R)∧(newV [] w2 fun ab aa=>
 aa.cell? (y.add (Int.toNat (IntKind.wrap .i64 (b+2)) *1))=some (.i z)∧aa.cell? (u.add (Int.toNat (IntKind.wrap .i64 (b+1)) *1))=some (.i x)∧aa.cell? (s.add (Int.toNat b *1))=some (.i t)∧cf21 [ab] n_enthymemeref07_node #[f.v,.i t,.i x,.i z] aa fun g j k l m o p q r ao=>loc [ab] ao fun ap=>S1T d e c f b ab g j k l m o p q r ap R))) (S3T f w R)) (S3T f w R)),L0T d e c f b w R:=mp (stepL (X:=X) [eS3,eS1,eS2,eL0] (pth [0,1,1,1,2]) P0)
theorem okT (c:Sl) (a b:Int) (w:World) (R:Post) (h:ca3 n_enthymemeref07_start #[.i a] w fun d e=>L0T c a b d 0 e R):Calls Tryz.prog n_enthymemeref07_Made #[c.v,.i a,.i b] w R:=callsX X [eS3,eS1,eS2,eL0] h
end enthymemeref07_Made
end Go.Proofs.YtcifihepfadgfaaGreatDoor
set_option linter.unusedVariables false
set_option maxRecDepth 100000
set_option maxHeartbeats 2000000
namespace Go.Proofs.YtcifihepfadgfaaGreatDoor
open Go Go.W
namespace value_ValidSort
noncomputable abbrev X:Fx:=⟨Tryz.prog,Tryz.f109,[],[1]⟩
abbrev P0:Ps:=[]
abbrev S1T (w:World) (R:Post):Prop:=
 R (.returned (.i 9)) w
noncomputable def eS1:=entS X [] (pth [0,1,1,1,3]) P0 S1T
abbrev S2T (w:World) (R:Post):Prop:=
 R (.returned (.i 9)) w
noncomputable def eS2:=entS X [eS1] (pth [0,1,1,1,4]) P0 S2T
abbrev S3T (w:World) (R:Post):Prop:=
 R (.returned (.i 0)) w
noncomputable def eS3:=entS X [eS2,eS1] (pth [5]) P0 S3T
abbrev P1:Ps:=[(1,.l [.I,.I,.I] ty_api_Sort),(3,.v [.I]),(4,.v [.I]),(5,.v [.b])]
abbrev S0T (g:Nat) (f d b c e:Int) (a:Bool) (w:World) (R:Post):Prop:=
 sel (decide (d<c)) (S1T w R) (sel (decide (d>e)) (S1T w R) (sel a (sel (decide (b<1)) (S2T w R) (sel (decide (b>16)) (S2T w R) (sel (!a) (sel (b !=0) (S2T w R) (S3T w R)) (S3T w R)))) (sel (!a) (sel (b !=0) (S2T w R) (S3T w R)) (S3T w R))))
noncomputable def eS0:=entS X [eS3,eS2,eS1] (pth [3]) P1 S0T
theorem okT (a b c:Int) (w:World) (R:Post) (h:newV [] w fun e d=>
 sel (a==0) (S0T e a b c 1 64 false d R) (sel (a==1) (S0T e a b c 0 64 false d R) (sel (a==2) (S0T e a b c 1 64 true d R) (sel (a==3) (S0T e a b c 0 64 true d R) (R (.returned (.i 9)) d))))):Calls Tryz.prog n_value_ValidSort #[.agg #[.i a,.i b,.i c]] w R:=callsX X [eS0,eS3,eS2,eS1] h
end value_ValidSort
namespace term_isName
noncomputable abbrev X:Fx:=⟨Tryz.prog,Tryz.f108,[],[]⟩
abbrev P0:Ps:=[]
abbrev S0 (w:World) (R:Post):Prop:=
 R (.returned (.bool false)) w
noncomputable def eS0:=entS X [] (pth [0,1,1,1,1]) P0 S0
abbrev P1:Ps:=[(0,.v [.st]),(3,.v [.I])]
def L1 (b:ByteArray) (a:Int) (w:World) (R:Post):Prop:=mkCur P1 0 (X.Sem (pth [0,1,1,1,2])) b a w R
noncomputable def eL1:=entL X (pth [0,1,1,1,2]) P1 L1
abbrev S4 (w:World) (R:Post):Prop:=
 R (.returned (.bool false)) w
noncomputable def eS4:=entS X [eL1,eS0] (pth [0,1,3,2,1,2,1,1,2]) P0 S4
abbrev S5 (b:ByteArray) (a:Int) (w:World) (R:Post):Prop:=
 L1 b (IntKind.wrap .i64 (a+1)) w R
noncomputable def eS5:=entS X [eS4,eL1,eS0] (pth [2,2,1,1,2]) P1 S5
abbrev P2:Ps:=[(0,.v [.st]),(3,.v [.I]),(4,.v [.Y]),(5,.v [.b])]
abbrev S3 (d:ByteArray) (b c:Int) (a:Bool) (w:World) (R:Post):Prop:=
 sel (!a) (sel (b==0) (S4 w R) (sel (c !=45) (sel (decide (c<48)) (S4 w R) (sel (decide (c>57)) (S4 w R) (S5 d b w R))) (S5 d b w R))) (S5 d b w R)
noncomputable def eS3:=entS X [eS5,eS4,eL1,eS0] (pth [2,2,1,2,1,1,2]) P2 S3
abbrev P3:Ps:=[(0,.v [.st]),(3,.v [.I]),(4,.v [.Y])]
abbrev S2 (c:ByteArray) (b a:Int) (w:World) (R:Post):Prop:=
 sel (decide (a≥97)) (S3 c b a (decide (a≤122)) w R) (S3 c b a false w R)
noncomputable def eS2:=entS X [eS3,eS5,eS4,eL1,eS0] (pth [1,2,1,2,1,1,2]) P3 S2
theorem L1_step:∀(c:ByteArray) (b:Int) (w:World) (R:Post) (h:sel (decide (b<((c.size:Nat):Int))) ((0:Int)≤b∧∃a:UInt8,c[Int.toNat b]? =some a∧S2 c b ((a.toNat:Nat):Int) w R) (R (.returned (.bool true)) w)),L1 c b w R:=mp (stepL (X:=X) [eS2,eS3,eS5,eS4,eL1,eS0] (pth [0,1,1,1,2]) P1)
theorem ok (a:ByteArray) (w:World) (R:Post) (h:sel (decide (((a.size:Nat):Int)<1)) (S0 w R) (sel (decide (((a.size:Nat):Int)>16)) (S0 w R) (L1 a 0 w R))):Calls Tryz.prog n_term_isName #[.string a] w R:=callsX X [eS2,eS3,eS5,eS4,eL1,eS0] h
end term_isName
namespace term_fieldsFit
noncomputable abbrev X:Fx:=⟨Tryz.prog,Tryz.f80,[],[]⟩
abbrev P0:Ps:=[(0,.v [.r]),(3,.v [.b]),(4,.v [.b]),(5,.v [.b]),(6,.v [.b])]
abbrev S1 (b:Addr) (r q c a:Bool) (w:World) (R:Post):Prop:=
 sel r (sel q (sel c (sel a (R (.returned (.bool true)) w) (∃x:ByteArray,w.cell? (b.add 5)=some (.string x)∧
 R (.returned (.bool (x.toList==(ByteArray.mk #[]).toList))) w)) (∃v:Int,w.cell? (b.add 4)=some (.u v)∧
 sel (v==0) (sel a (R (.returned (.bool true)) w) (∃j:ByteArray,w.cell? (b.add 5)=some (.string j)∧
 R (.returned (.bool (j.toList==(ByteArray.mk #[]).toList))) w)) (R (.returned (.bool false)) w))) (∃t:Int,w.cell? (b.add 3)=some (.i t)∧
 sel (t==0) (sel c (sel a (R (.returned (.bool true)) w) (∃k:ByteArray,w.cell? (b.add 5)=some (.string k)∧
 R (.returned (.bool (k.toList==(ByteArray.mk #[]).toList))) w)) (∃e:Int,w.cell? (b.add 4)=some (.u e)∧
 sel (e==0) (sel a (R (.returned (.bool true)) w) (∃l:ByteArray,w.cell? (b.add 5)=some (.string l)∧
 R (.returned (.bool (l.toList==(ByteArray.mk #[]).toList))) w)) (R (.returned (.bool false)) w))) (R (.returned (.bool false)) w))) (∃s:Int,w.cell? (b.add 2)=some (.i s)∧
 sel (s==0) (sel q (sel c (sel a (R (.returned (.bool true)) w) (∃m:ByteArray,w.cell? (b.add 5)=some (.string m)∧
 R (.returned (.bool (m.toList==(ByteArray.mk #[]).toList))) w)) (∃f:Int,w.cell? (b.add 4)=some (.u f)∧
 sel (f==0) (sel a (R (.returned (.bool true)) w) (∃n:ByteArray,w.cell? (b.add 5)=some (.string n)∧
 R (.returned (.bool (n.toList==(ByteArray.mk #[]).toList))) w)) (R (.returned (.bool false)) w))) (∃d:Int,w.cell? (b.add 3)=some (.i d)∧
 sel (d==0) (sel c (sel a (R (.returned (.bool true)) w) (∃o:ByteArray,w.cell? (b.add 5)=some (.string o)∧
 R (.returned (.bool (o.toList==(ByteArray.mk #[]).toList))) w)) (∃g:Int,w.cell? (b.add 4)=some (.u g)∧
 sel (g==0) (sel a (R (.returned (.bool true)) w) (∃p:ByteArray,w.cell? (b.add 5)=some (.string p)∧
 R (.returned (.bool (p.toList==(ByteArray.mk #[]).toList))) w)) (R (.returned (.bool false)) w))) (R (.returned (.bool false)) w))) (R (.returned (.bool false)) w))
noncomputable def eS1:=entS X [] (pth [3]) P0 S1
abbrev P1:Ps:=[(0,.v [.r]),(3,.v [.b]),(4,.v [.b]),(5,.v [.b])]
abbrev S0 (d:Addr) (b a c:Bool) (w:World) (R:Post):Prop:=
 S1 d b a c true w R
noncomputable def eS0:=entS X [eS1] (pth [0,1,1,1,1,1,2]) P1 S0
abbrev P2:Ps:=[(0,.v [.r]),(4,.v [.b]),(5,.v [.b]),(6,.v [.b])]
abbrev S3 (d:Addr) (b c a:Bool) (w:World) (R:Post):Prop:=
 S1 d true b c a w R
noncomputable def eS3:=entS X [eS0,eS1] (pth [0,1,7,1,1,1,2]) P2 S3
abbrev P3:Ps:=[(0,.v [.r]),(3,.v [.b]),(4,.v [.b]),(5,.v [.b]),(6,.v [.b]),(10,.v [.I])]
abbrev S2 (f:Addr) (d b c a:Bool) (e:Int) (w:World) (R:Post):Prop:=
 sel (e==1) (S1 f d b true a w R) (sel (e==21) (S1 f true true c a w R) (sel (e==22) (sel (e==22) (S3 f b c a w R) (S1 f d b c a w R)) (sel (e==23) (sel (e==23) (S3 f b c a w R) (S1 f d b c a w R)) (sel (e==28) (S3 f b c a w R) (S1 f d b c a w R)))))
noncomputable def eS2:=entS X [eS3,eS0,eS1] (pth [2,1,1,1,2]) P3 S2
theorem ok (b:Addr) (w:World) (R:Post) (h:∃a:Int,w.cell? (b.add 0)=some (.i a)∧
 sel (a==0) (sel (a==0) (S0 b false false false w R) (S2 b false false false false a w R)) (sel (a==2) (sel (a==2) (S0 b false false false w R) (S2 b false false false false a w R)) (sel (a==33) (S0 b false false false w R) (S2 b false false false false a w R)))):Calls Tryz.prog n_term_fieldsFit #[.pointer (some b)] w R:=callsX X [eS2,eS3,eS0,eS1] h
end term_fieldsFit
namespace term_bv
noncomputable abbrev X:Fx:=⟨Tryz.prog,Tryz.f114,[],[2]⟩
theorem okT (a:Int) (w:World) (R:Post) (h:newV [] w fun b c=>
 loc [b] c fun d=>R (.returned (.agg #[.i 0,.i a,.i 0])) d):Calls Tryz.prog n_term_bv #[.i a] w R:=callsX X [] h
end term_bv
namespace term_str
noncomputable abbrev X:Fx:=⟨Tryz.prog,Tryz.f110,[],[2]⟩
theorem okT (a:Int) (w:World) (R:Post) (h:newV [] w fun b c=>
 loc [b] c fun d=>R (.returned (.agg #[.i 1,.i a,.i 0])) d):Calls Tryz.prog n_term_str #[.i a] w R:=callsX X [] h
end term_str
namespace term_isBV
noncomputable abbrev X:Fx:=⟨Tryz.prog,Tryz.f113,[],[1]⟩
theorem okT (a b c:Int) (w:World) (R:Post) (h:newV [] w fun e d=>
 R (.returned (.bool (a==0))) d):Calls Tryz.prog n_term_isBV #[.agg #[.i a,.i b,.i c]] w R:=callsX X [] h
end term_isBV
namespace term_isStr
noncomputable abbrev X:Fx:=⟨Tryz.prog,Tryz.f116,[],[1]⟩
theorem okT (a b c:Int) (w:World) (R:Post) (h:newV [] w fun e d=>
 R (.returned (.bool (a==1))) d):Calls Tryz.prog n_term_isStr #[.agg #[.i a,.i b,.i c]] w R:=callsX X [] h
end term_isStr
namespace term_isArray
noncomputable abbrev X:Fx:=⟨Tryz.prog,Tryz.f111,[],[1]⟩
theorem okT (a b c:Int) (w:World) (R:Post) (h:newV [] w fun e d=>
 sel (a==2) (R (.returned (.bool true)) d) (R (.returned (.bool (a==3))) d)):Calls Tryz.prog n_term_isArray #[.agg #[.i a,.i b,.i c]] w R:=callsX X [] h
end term_isArray
namespace term_alike
noncomputable abbrev X:Fx:=⟨Tryz.prog,Tryz.f115,[],[2,3]⟩
theorem okT (a b c d e f:Int) (w:World) (R:Post) (h:newV [] w fun g o=>
 newV [g] o fun j m=>
 sel ((a==d)&&((b==e)&&((c==f)&&true))) (R (.returned (.bool true)) m) (cf0 [g,j] n_term_isStr #[.agg #[.i a,.i b,.i c]] m fun k n=>sel k (cf0 [g,j] n_term_isStr #[.agg #[.i d,.i e,.i f]] n fun l p=>R (.returned (.bool l)) p) (R (.returned (.bool false)) n))):Calls Tryz.prog n_term_alike #[.agg #[.i a,.i b,.i c],.agg #[.i d,.i e,.i f]] w R:=callsX X [] h
end term_alike
namespace term_result
noncomputable abbrev X:Fx:=⟨Tryz.prog,Tryz.f112,[],[3,6]⟩
theorem okT (b c d:Int) (e a:Bool) (w:World) (R:Post) (h:newV [] w fun f l=>
 newV [f] l fun g j=>
 sel (!e) (loc [f,g] j fun m=>R (.returned (.tuple #[.agg #[.i b,.i c,.i d],.i 9])) m) (sel (!a) (loc [f,g] j fun n=>R (.returned (.tuple #[.agg #[.i b,.i c,.i d],.i 5])) n) (loc [f,g] j fun k=>R (.returned (.tuple #[.agg #[.i b,.i c,.i d],.i 0])) k))):Calls Tryz.prog n_term_result #[.agg #[.i b,.i c,.i d],.bool e,.bool a] w R:=callsX X [] h
end term_result
namespace term_sortOfVar
noncomputable abbrev X:Fx:=⟨Tryz.prog,Tryz.f81,[(7,ls [0,1,2,3,4,5,6,7,8])],[]⟩
abbrev P0:Ps:=[(0,.v [.r]),(4,.v [.r])]
abbrev S0 (k g:Addr) (w:World) (R:Post):Prop:=
 ld3_2 w (k.add 6) fun a b c=>stW3 w g (.i a) (.i b) (.i c) fun j=>ld3_2 j g fun d e f=>R (.returned (.tuple #[.agg #[.i d,.i e,.i f],.i 0])) j
noncomputable def eS0:=entS X [] (pth [4]) P0 S0
theorem ok (e:Addr) (a:Fv) (w:World) (R:Post) (h:nwV w (.cells #[.i 0,.i 0,.i 0] ty_api_Sort) fun w1=>
 ∃ak:ByteArray,w1.cell? (e.add 5)=some (.string ak)∧
 ca0 n_term_isName #[.string ak] w1 fun ao w2=>sel (!ao) (ld3_2 w2 (e.add 6) fun o p q=>stW3 w2 (nb w) (.i o) (.i p) (.i q) fun w5=>ld3_2 w5 (nb w) fun b c d=>R (.returned (.tuple #[.agg #[.i b,.i c,.i d],.i 6])) w5) (ld3_2 w2 (e.add 6) fun r s t=>ca1 n_value_ValidSort #[.agg #[.i r,.i s,.i t]] w2 fun al w6=>sel (al !=0) (ld3_2 w6 (e.add 6) fun u x y=>stW3 w6 (nb w) (.i u) (.i x) (.i y) fun w9=>ld3_2 w9 (nb w) fun b c d=>R (.returned (.tuple #[.agg #[.i b,.i c,.i d],.i al])) w9) (∃am:ByteArray,w6.cell? (e.add 5)=some (.string am)∧
 AndT (callable Tryz.prog a.n) (Calls Tryz.prog a.n (a.bs++#[.string am]++a.cs) w6 fun r_ m=>∃f:Int,∃g:Int,∃j:Int,∃l:Bool,r_=.returned (.tuple #[.agg #[.i f,.i g,.i j],.bool l])∧
 nwV m (.cells #[.i 0,.i 0,.i 0] ty_api_Sort) fun aq=>
 stW3 aq (nb m) (.i f) (.i g) (.i j) fun ar=>drV ar fun k=>sel l (ld3_2 k (nb m) fun z aa ab=>ld3_2 k (e.add 6) fun ac ad ae=>sel (!((z==ac)&&((aa==ad)&&((ab==ae)&&true)))) (ld3_2 k (e.add 6) fun af ag ah=>stW3 k (nb w) (.i af) (.i ag) (.i ah) fun an=>ld3_2 an (nb w) fun b c d=>R (.returned (.tuple #[.agg #[.i b,.i c,.i d],.i 8])) an) (S0 e (nb w) k R)) (S0 e (nb w) k R))))):Calls Tryz.prog n_term_sortOfVar #[.pointer (some e),a.v] w R:=callsX X [eS0] h
end term_sortOfVar
namespace term_sortOfLeaf
noncomputable abbrev X:Fx:=⟨Tryz.prog,Tryz.f82,[(14,ls [0,1,2,3,4,5,6,7,8,9,10,11,12,13,14,15,16,17,18])],[2]⟩
abbrev P0:Ps:=[(0,.v [.r]),(2,.l [.I,.I,.I] ty_api_Sort)]
abbrev S0T (d:Addr) (e:Nat) (f g j:Int) (w:World) (R:Post):Prop:=
 ld3_2 w (d.add 6) fun a b c=>loc [e] w fun k=>R (.returned (.tuple #[.agg #[.i a,.i b,.i c],.i 0])) k
noncomputable def eS0:=entS X [] (pth [6]) P0 S0T
theorem okT (a:Addr) (w:World) (R:Post) (h:newV [] w fun b e=>
 ∃t8:Int,e.cell? (a.add 0)=some (.i t8)∧
 sel (t8==2) (∃am:ByteArray,e.cell? (a.add 5)=some (.string am)∧
 sel (decide (((am.size:Nat):Int)>64)) (ld3_2 e (a.add 6) fun j k l=>loc [b] e fun w4=>R (.returned (.tuple #[.agg #[.i j,.i k,.i l],.i 5])) w4) (∃an:ByteArray,e.cell? (a.add 5)=some (.string an)∧
 cf17 [b] n_term_str #[.i ((an.size:Nat):Int)] e fun m n o w5=>loc [b] w5 fun w8=>R (.returned (.tuple #[.agg #[.i m,.i n,.i o],.i 0])) w8)) (ld3_2 e (a.add 6) fun p q r=>cf1 [b] n_value_ValidSort #[.agg #[.i p,.i q,.i r]] e fun ao d=>sel (ao !=0) (ld3_2 d (a.add 6) fun s t v=>loc [b] d fun ax=>R (.returned (.tuple #[.agg #[.i s,.i t,.i v],.i ao])) ax) (∃ap:Int,d.cell? (a.add 0)=some (.i ap)∧
 sel (ap==3) (ld3_2 d (a.add 6) fun x y z=>cf0 [b] n_term_isArray #[.agg #[.i x,.i y,.i z]] d fun av f=>sel (!av) (ld3_2 f (a.add 6) fun aa ab ac=>loc [b] f fun ay=>R (.returned (.tuple #[.agg #[.i aa,.i ab,.i ac],.i 9])) ay) (ld3_2 f (a.add 6) fun ad ae af=>loc [b] f fun az=>R (.returned (.tuple #[.agg #[.i ad,.i ae,.i af],.i 0])) az)) (∃aq:Int,d.cell? ((a.add 6).add 0)=some (.i aq)∧
 sel (aq !=0) (ld3_2 d (a.add 6) fun ag ah ai=>loc [b] d fun bb=>R (.returned (.tuple #[.agg #[.i ag,.i ah,.i ai],.i 9])) bb) (loc [b] d fun c=>∃ar:Int,c.cell? ((a.add 6).add 1)=some (.i ar)∧
 sel (decide (ar<64)) (∃au:Int,c.cell? (a.add 4)=some (.u au)∧
 ∃g:Int,c.cell? ((a.add 6).add 1)=some (.i g)∧
 ¬g<0∧sel ((Int.fdiv au (2^(min (Int.toNat g) (IntKind.bits .u64)))) !=0) (ld3_2 c (a.add 6) fun aj ak al=>loc [b] c fun bc=>R (.returned (.tuple #[.agg #[.i aj,.i ak,.i al],.i 5])) bc) (S0T a b 0 0 0 c R)) (S0T a b 0 0 0 c R)))))):Calls Tryz.prog n_term_sortOfLeaf #[.pointer (some a)] w R:=callsX X [eS0] h
end term_sortOfLeaf
namespace term_sortOfBits
noncomputable abbrev X:Fx:=⟨Tryz.prog,Tryz.f83,[(4,ls [0,1,2,3,4,5,6,7]),(7,ls [1,0,2,3,4,5,6,7,8,9,10,11,12]),(9,ls [1,2,0,3,4,5,6,7,8]),(14,ls [0,1,2,3,4,5,6,7,8,9,10,11,12,13]),(16,ls [0,1,2,3,4,6,12,13,14,15,16,17,5,7,8,9,10,11,18,19,20,21,22]),(18,ls [0,1,2,3,4,5,6,7,8,9,11,13,14,15,16,17,10,12,18,19,20,21,22,23,24,25,26,27,28,29,30,31,32,33,34,35,36,37,38,39,40,41,42]),(21,ls [0,1,2,3,4,5,6,8,10,11,12,13,14,7,9,15,16,17,18,19,20,21,22,23,24,25,26,27,28,29]),(22,ls [0,1,2,3,4,5,6,7,8,9,10,11,12])],[5,6,7,8,10]⟩
abbrev P0:Ps:=[(5,.l [.I,.I,.I] ty_api_Sort),(8,.l [.I,.I,.I] ty_api_Sort)]
abbrev S0T (k:Nat) (d e f:Int) (j:Nat) (m n o:Int) (w:World) (R:Post):Prop:=
 loc [k,j] w fun p=>cf0 [k,j] n_term_isBV #[.agg #[.i d,.i e,.i f]] p fun l q=>cf19 [k,j] n_term_result #[.agg #[.i d,.i e,.i f],.bool l,.bool true] q fun a b c g r=>loc [k,j] r fun s=>R (.returned (.tuple #[.agg #[.i a,.i b,.i c],.i g])) s
noncomputable def eS0:=entS X [] (pth [0,1,1,1,1,1,1]) P0 S0T
abbrev P1:Ps:=[(5,.l [.I,.I,.I] ty_api_Sort),(6,.l [.I,.I,.I] ty_api_Sort),(8,.l [.I,.I,.I] ty_api_Sort)]
abbrev S2T (f:Nat) (p q r:Int) (g:Nat) (t u v:Int) (e:Nat) (aa ab ac:Int) (w:World) (R:Post):Prop:=
 loc [f,g,e] w fun w1=>cf17 [f,g,e] n_term_bv #[.i 1] w1 fun j k l w2=>cf0 [f,g,e] n_term_isBV #[.agg #[.i p,.i q,.i r]] w2 fun x z=>sel x (cf19 [f,g,e] n_term_result #[.agg #[.i j,.i k,.i l],.bool ((p==t)&&((q==u)&&((r==v)&&true))),.bool true] z fun m n o s w4=>loc [f,g,e] w4 fun w7=>R (.returned (.tuple #[.agg #[.i m,.i n,.i o],.i s])) w7) (cf19 [f,g,e] n_term_result #[.agg #[.i j,.i k,.i l],.bool false,.bool true] z fun a b c d w8=>loc [f,g,e] w8 fun y=>R (.returned (.tuple #[.agg #[.i a,.i b,.i c],.i d])) y)
noncomputable def eS2:=entS X [eS0] (pth [0,1,3,1,1,1,1]) P1 S2T
abbrev P2:Ps:=[(5,.l [.I,.I,.I] ty_api_Sort),(6,.l [.I,.I,.I] ty_api_Sort),(7,.l [.I,.I,.I] ty_api_Sort),(8,.l [.I,.I,.I] ty_api_Sort),(10,.l [.I,.I,.I] ty_api_Sort)]
abbrev S4T (g:Nat) (v x y:Int) (j:Nat) (z aa ab:Int) (k:Nat) (ac ad ae:Int) (f:Nat) (ai aj ak:Int) (a:Nat) (l m n:Int) (w:World) (R:Post):Prop:=
 loc [g,j,k,f,a] w fun w1=>cf17 [g,j,k,f,a] n_term_bv #[.i 1] w1 fun r s t w2=>sel ((v==r)&&((x==s)&&((y==t)&&true))) (cf0 [g,j,k,f,a] n_term_alike #[.agg #[.i z,.i aa,.i ab],.agg #[.i ac,.i ad,.i ae]] w2 fun af w3=>cf19 [g,j,k,f,a] n_term_result #[.agg #[.i l,.i m,.i n],.bool af,.bool true] w3 fun o p q u w4=>loc [g,j,k,f,a] w4 fun w7=>R (.returned (.tuple #[.agg #[.i o,.i p,.i q],.i u])) w7) (cf19 [g,j,k,f,a] n_term_result #[.agg #[.i l,.i m,.i n],.bool false,.bool true] w2 fun b c d e w8=>loc [g,j,k,f,a] w8 fun ag=>R (.returned (.tuple #[.agg #[.i b,.i c,.i d],.i e])) ag)
noncomputable def eS4:=entS X [eS2,eS0] (pth [2,1,7,1,1,1,1]) P2 S4T
abbrev P3:Ps:=[(0,.v [.r]),(5,.l [.I,.I,.I] ty_api_Sort),(8,.l [.I,.I,.I] ty_api_Sort)]
abbrev S5T (q:Addr) (o:Nat) (y p z:Int) (n:Nat) (ac ad ae:Int) (w:World) (R:Post):Prop:=
 loc [o,n] w fun x=>∃r:Int,x.cell? (q.add 2)=some (.i r)∧
 ∃d:Int,x.cell? (q.add 2)=some (.i d)∧
 cf17 [o,n] n_term_bv #[.i (IntKind.wrap .i64 (p+r))] x fun e f g w2=>w2.cell? (q.add 2)=some (.i d)∧cf0 [o,n] n_term_isBV #[.agg #[.i y,.i p,.i z]] w2 fun s v=>v.cell? (q.add 2)=some (.i d)∧sel (decide (1≤d)) (∃t:Int,v.cell? (q.add 2)=some (.i t)∧
 cf19 [o,n] n_term_result #[.agg #[.i e,.i f,.i g],.bool s,.bool (decide (t≤(IntKind.wrap .i64 (64 - p))))] v fun k l m u w4=>loc [o,n] w4 fun w7=>R (.returned (.tuple #[.agg #[.i k,.i l,.i m],.i u])) w7) (cf19 [o,n] n_term_result #[.agg #[.i e,.i f,.i g],.bool s,.bool false] v fun a b c j w8=>loc [o,n] w8 fun aa=>R (.returned (.tuple #[.agg #[.i a,.i b,.i c],.i j])) aa)
noncomputable def eS5:=entS X [eS4,eS2,eS0] (pth [0,1,13,1,1,1,1]) P3 S5T
abbrev S6T (n:Nat) (d e f:Int) (o:Nat) (r s t:Int) (m:Nat) (x y z:Int) (w:World) (R:Post):Prop:=
 loc [n,o,m] w fun w1=>cf0 [n,o,m] n_term_isBV #[.agg #[.i d,.i e,.i f]] w1 fun q v=>sel q (cf19 [n,o,m] n_term_result #[.agg #[.i d,.i e,.i f],.bool ((d==r)&&((e==s)&&((f==t)&&true))),.bool true] v fun j k l p w3=>loc [n,o,m] w3 fun w6=>R (.returned (.tuple #[.agg #[.i j,.i k,.i l],.i p])) w6) (cf19 [n,o,m] n_term_result #[.agg #[.i d,.i e,.i f],.bool false,.bool true] v fun a b c g w7=>loc [n,o,m] w7 fun u=>R (.returned (.tuple #[.agg #[.i a,.i b,.i c],.i g])) u)
noncomputable def eS6:=entS X [eS5,eS4,eS2,eS0] (pth [2]) P1 S6T
abbrev P4:Ps:=[(0,.v [.r]),(5,.l [.I,.I,.I] ty_api_Sort),(6,.l [.I,.I,.I] ty_api_Sort),(7,.l [.I,.I,.I] ty_api_Sort),(8,.l [.I,.I,.I] ty_api_Sort),(14,.v [.I])]
abbrev S3T (x:Addr) (b:Nat) (g f j:Int) (c:Nat) (k d l:Int) (e:Nat) (ai p aj:Int) (a:Nat) (m n o u:Int) (w:World) (R:Post):Prop:=
 sel (u==18) (loc [b,c,e,a] w fun w1=>cf17 [b,c,e,a] n_term_bv #[.i 1] w1 fun bk bm bn w2=>cf0 [b,c,e,a] n_term_alike #[.agg #[.i g,.i f,.i j],.agg #[.i k,.i d,.i l]] w2 fun bx w3=>cf19 [b,c,e,a] n_term_result #[.agg #[.i bk,.i bm,.i bn],.bool bx,.bool true] w3 fun ax ay az bo w4=>loc [b,c,e,a] w4 fun w7=>R (.returned (.tuple #[.agg #[.i ax,.i ay,.i az],.i bo])) w7) (sel (u==19) (newV [b,c,e,a] w fun q w8=>
 loc [b,c,e,a,q] w8 fun cd=>cf0 [b,c,e,a,q] n_term_isStr #[.agg #[.i k,.i d,.i l]] cd fun bz bt=>sel bz (cf0 [b,c,e,a,q] n_term_isStr #[.agg #[.i ai,.i p,.i aj]] bt fun ca bu=>sel ca (cf17 [b,c,e,a,q] n_term_str #[.i (if d<p then p else d)] bu fun bp bq br ce=>loc [b,c,e,a,q] ce fun cf=>S4T b g f j c k d l e ai p aj a m n o q bp bq br cf R) (S4T b g f j c k d l e ai p aj a m n o q k d l bu R)) (S4T b g f j c k d l e ai p aj a m n o q k d l bt R)) (sel (u==20) (loc [b,c,e,a] w fun cg=>cf17 [b,c,e,a] n_term_bv #[.i (IntKind.wrap .i64 (f+d))] cg fun ar au av ch=>cf0 [b,c,e,a] n_term_isBV #[.agg #[.i g,.i f,.i j]] ch fun cb bv=>sel cb (cf0 [b,c,e,a] n_term_isBV #[.agg #[.i k,.i d,.i l]] bv fun cc ci=>cf19 [b,c,e,a] n_term_result #[.agg #[.i ar,.i au,.i av],.bool cc,.bool (decide ((IntKind.wrap .i64 (f+d))≤64))] ci fun bb bc bd bs cj=>loc [b,c,e,a] cj fun ck=>R (.returned (.tuple #[.agg #[.i bb,.i bc,.i bd],.i bs])) ck) (cf19 [b,c,e,a] n_term_result #[.agg #[.i ar,.i au,.i av],.bool false,.bool (decide ((IntKind.wrap .i64 (f+d))≤64))] bv fun af ag ah aq cl=>loc [b,c,e,a] cl fun cm=>R (.returned (.tuple #[.agg #[.i af,.i ag,.i ah],.i aq])) cm)) (sel (u==21) (loc [b,c,e,a] w fun aw=>∃be:Int,aw.cell? (x.add 2)=some (.i be)∧
 ∃bf:Int,aw.cell? (x.add 3)=some (.i bf)∧
 ∃ae:Int,aw.cell? (x.add 3)=some (.i ae)∧
 cf17 [b,c,e,a] n_term_bv #[.i (IntKind.wrap .i64 ((IntKind.wrap .i64 (be - bf))+1))] aw fun r s t bw=>bw.cell? (x.add 3)=some (.i ae)∧cf0 [b,c,e,a] n_term_isBV #[.agg #[.i g,.i f,.i j]] bw fun am v=>v.cell? (x.add 3)=some (.i ae)∧sel (decide (0≤ae)) (∃bg:Int,v.cell? (x.add 3)=some (.i bg)∧
 ∃bh:Int,v.cell? (x.add 2)=some (.i bh)∧
 sel (decide (bg≤bh)) (∃bi:Int,v.cell? (x.add 2)=some (.i bi)∧
 cf19 [b,c,e,a] n_term_result #[.agg #[.i r,.i s,.i t],.bool am,.bool (decide (bi<f))] v fun an ao ap bj cn=>loc [b,c,e,a] cn fun co=>R (.returned (.tuple #[.agg #[.i an,.i ao,.i ap],.i bj])) co) (cf19 [b,c,e,a] n_term_result #[.agg #[.i r,.i s,.i t],.bool am,.bool false] v fun y z aa ak cp=>loc [b,c,e,a] cp fun cq=>R (.returned (.tuple #[.agg #[.i y,.i z,.i aa],.i ak])) cq)) (cf19 [b,c,e,a] n_term_result #[.agg #[.i r,.i s,.i t],.bool am,.bool false] v fun ab ac ad al cr=>loc [b,c,e,a] cr fun cs=>R (.returned (.tuple #[.agg #[.i ab,.i ac,.i ad],.i al])) cs)) (sel (u==22) (sel (u==22) (S5T x b g f j a m n o w R) (S6T b g f j c k d l a m n o w R)) (sel (u==23) (S5T x b g f j a m n o w R) (S6T b g f j c k d l a m n o w R))))))
noncomputable def eS3:=entS X [eS6,eS5,eS4,eS2,eS0] (pth [4,1,1,1,1]) P4 S3T
abbrev S1T (r:Addr) (p:Nat) (d e f:Int) (q:Nat) (g i j:Int) (s:Nat) (l m n:Int) (o:Nat) (a b c k:Int) (w:World) (R:Post):Prop:=
 sel (k==16) (sel (k==16) (S2T p d e f q g i j o a b c w R) (S3T r p d e f q g i j s l m n o a b c k w R)) (sel (k==17) (S2T p d e f q g i j o a b c w R) (S3T r p d e f q g i j s l m n o a b c k w R))
noncomputable def eS1:=entS X [eS3,eS6,eS5,eS4,eS2,eS0] (pth [2,1,1,1,1]) P4 S1T
theorem okT (q:Addr) (a b c f g j k l m:Int) (w:World) (R:Post) (h:newV [] w fun e s=>
 newV [e] s fun o t=>
 newV [e,o] t fun r u=>
 newV [e,o,r] u fun p n=>
 ∃d:Int,n.cell? (q.add 0)=some (.i d)∧
 sel (d==4) (sel (d==4) (S0T e a b c p 0 0 0 n R) (S1T q e a b c o f g j r k l m p 0 0 0 d n R)) (sel (d==5) (S0T e a b c p 0 0 0 n R) (S1T q e a b c o f g j r k l m p 0 0 0 d n R))):Calls Tryz.prog n_term_sortOfBits #[.pointer (some q),.agg #[.i a,.i b,.i c],.agg #[.i f,.i g,.i j],.agg #[.i k,.i l,.i m]] w R:=callsX X [eS1,eS3,eS6,eS5,eS4,eS2,eS0] h
end term_sortOfBits
namespace term_sortOfArrays
noncomputable abbrev X:Fx:=⟨Tryz.prog,Tryz.f84,[(2,ls [0,1,3,2,4,5,6,7,8,9,10,11,12,13,14]),(6,ls [0,1,2,3,4,5,6,7,8,9]),(10,ls [0,1,2,3,4,5,6,7,8,9,10,11,12,13,14,15,16,17]),(11,ls [0,1,2,3,4,5,6,7,8,9,10,11])],[5,6,7,8,10]⟩
abbrev P0:Ps:=[(0,.v [.r]),(5,.l [.I,.I,.I] ty_api_Sort),(7,.l [.I,.I,.I] ty_api_Sort),(8,.l [.I,.I,.I] ty_api_Sort),(10,.l [.I,.I,.I] ty_api_Sort),(11,.v [.b])]
abbrev S1T (n0:Addr) (c:Nat) (j k m:Int) (d:Nat) (al aa am:Int) (b:Nat) (bh bi bj:Int) (a:Nat) (e f g:Int) (l:Bool) (w:World) (R:Post):Prop:=
 ∃aq:Int,w.cell? (n0.add 0)=some (.i aq)∧
 sel (aq==24) (cf19 [c,d,b,a] n_term_result #[.agg #[.i e,.i f,.i g],.bool l,.bool true] w fun ab ac ad an w1=>loc [c,d,b,a] w1 fun w4=>R (.returned (.tuple #[.agg #[.i ab,.i ac,.i ad],.i an])) w4) (sel (j==3) (sel l (loc [c,d,b,a] w fun w5=>cf0 [c,d,b,a] n_term_isStr #[.agg #[.i al,.i aa,.i am]] w5 fun au w6=>sel au (cf19 [c,d,b,a] n_term_result #[.agg #[.i j,.i k,.i m],.bool (decide (aa≤k)),.bool true] w6 fun ae af ag ao w7=>loc [c,d,b,a] w7 fun av=>R (.returned (.tuple #[.agg #[.i ae,.i af,.i ag],.i ao])) av) (cf19 [c,d,b,a] n_term_result #[.agg #[.i j,.i k,.i m],.bool false,.bool true] w6 fun n o p x aw=>loc [c,d,b,a] aw fun ax=>R (.returned (.tuple #[.agg #[.i n,.i o,.i p],.i x])) ax)) (loc [c,d,b,a] w fun w5=>cf19 [c,d,b,a] n_term_result #[.agg #[.i j,.i k,.i m],.bool false,.bool true] w5 fun q r s y ay=>loc [c,d,b,a] ay fun az=>R (.returned (.tuple #[.agg #[.i q,.i r,.i s],.i y])) az)) (sel l (loc [c,d,b,a] w fun ak=>cf19 [c,d,b,a] n_term_result #[.agg #[.i j,.i k,.i m],.bool ((al==e)&&((aa==f)&&((am==g)&&true))),.bool true] ak fun ah ai aj ap bb=>loc [c,d,b,a] bb fun bc=>R (.returned (.tuple #[.agg #[.i ah,.i ai,.i aj],.i ap])) bc) (loc [c,d,b,a] w fun ak=>cf19 [c,d,b,a] n_term_result #[.agg #[.i j,.i k,.i m],.bool false,.bool true] ak fun t u v z bd=>loc [c,d,b,a] bd fun be=>R (.returned (.tuple #[.agg #[.i t,.i u,.i v],.i z])) be)))
noncomputable def eS1:=entS X [] (pth [5]) P0 S1T
abbrev P1:Ps:=[(0,.v [.r]),(5,.l [.I,.I,.I] ty_api_Sort),(6,.l [.I,.I,.I] ty_api_Sort),(7,.l [.I,.I,.I] ty_api_Sort),(8,.l [.I,.I,.I] ty_api_Sort),(10,.l [.I,.I,.I] ty_api_Sort)]
abbrev S0T (n0:Addr) (n:Nat) (f g e:Int) (v:Nat) (x y z:Int) (o:Nat) (p q r:Int) (j:Nat) (k l m:Int) (a:Nat) (b c d:Int) (w:World) (R:Post):Prop:=
 loc [n,v,o,j,a] w fun w1=>cf0 [n,v,o,j,a] n_term_isArray #[.agg #[.i f,.i g,.i e]] w1 fun ab w2=>sel ab (cf17 [n,v,o,j,a] n_term_bv #[.i e] w2 fun s t u w3=>S1T n0 n f g e o p q r j k l m a b c d ((x==s)&&((y==t)&&((z==u)&&true))) w3 R) (S1T n0 n f g e o p q r j k l m a b c d false w2 R)
noncomputable def eS0:=entS X [eS1] (pth [4]) P1 S0T
theorem okT (n0:Addr) (f e g n o p r s t:Int) (w:World) (R:Post) (h:newV [] w fun a w1=>
 newV [a] w1 fun b w2=>
 newV [a,b] w2 fun c w3=>
 newV [a,b,c] w3 fun d w4=>
 ∃ak:Int,w4.cell? (n0.add 0)=some (.i ak)∧
 sel (ak==26) (loc [a,b,c,d] w4 fun w5=>cf17 [a,b,c,d] n_term_bv #[.i g] w5 fun u v x w6=>cf0 [a,b,c,d] n_term_isArray #[.agg #[.i f,.i e,.i g]] w6 fun an w7=>sel an (cf19 [a,b,c,d] n_term_result #[.agg #[.i u,.i v,.i x],.bool ((f==n)&&((e==o)&&((g==p)&&true))),.bool true] w7 fun y z aa ad w8=>loc [a,b,c,d] w8 fun ao=>R (.returned (.tuple #[.agg #[.i y,.i z,.i aa],.i ad])) ao) (cf19 [a,b,c,d] n_term_result #[.agg #[.i u,.i v,.i x],.bool false,.bool true] w7 fun k l m q ap=>loc [a,b,c,d] ap fun aq=>R (.returned (.tuple #[.agg #[.i k,.i l,.i m],.i q])) aq)) (cf17 [a,b,c,d] n_term_bv #[.i e] w4 fun ae af ag ar=>newV [a,b,c,d] ar fun j al=>
 sel (f==3) (loc [a,b,c,d,j] al fun ab=>cf17 [a,b,c,d,j] n_term_str #[.i e] ab fun ah ai aj au=>loc [a,b,c,d,j] au fun av=>S0T n0 a f e g b n o p c r s t d 0 0 0 j ah ai aj av R) (loc [a,b,c,d,j] al fun ab=>S0T n0 a f e g b n o p c r s t d 0 0 0 j ae af ag ab R))):Calls Tryz.prog n_term_sortOfArrays #[.pointer (some n0),.agg #[.i f,.i e,.i g],.agg #[.i n,.i o,.i p],.agg #[.i r,.i s,.i t]] w R:=callsX X [eS0,eS1] h
end term_sortOfArrays
namespace term_sortOfStrings
noncomputable abbrev X:Fx:=⟨Tryz.prog,Tryz.f85,[(3,ls [1,0,2,3,4,5,6,7]),(5,ls [1,3,4,5,6,7,0,2,8,9,10,11,12,13,14,15,16,17,18,19]),(7,ls [0,1,2,3,4,6,12,13,14,15,16,17,5,7,8,9,10,11,18,19,20,21,22]),(9,ls [0,1,2,3,4,5,6,7,8,9,10,11,12,13,14,15,16,17]),(11,ls [1,0,2,3,4,5,6,7,8,9,10,11]),(13,ls [0,1,2,3,4,6,16,17,18,19,20,21,5,7,8,9,10,11,12,13,14,15,22,23,24,25,26]),(15,ls [1,0,2,3,4,5,6,7,8])],[5,6,7,8]⟩
theorem okT (n0:Addr) (f e g p j q bf k bg:Int) (w:World) (R:Post) (h:newV [] w fun a w1=>
 newV [a] w1 fun b w2=>
 newV [a,b] w2 fun c w3=>
 newV [a,b,c] w3 fun d w4=>
 ∃l:Int,w4.cell? (n0.add 0)=some (.i l)∧
 sel (l==27) (loc [a,b,c,d] w4 fun w5=>cf17 [a,b,c,d] n_term_bv #[.i 7] w5 fun cw cx cy w6=>cf0 [a,b,c,d] n_term_isStr #[.agg #[.i f,.i e,.i g]] w6 fun eb w7=>cf19 [a,b,c,d] n_term_result #[.agg #[.i cw,.i cx,.i cy],.bool eb,.bool true] w7 fun bt bu bv cz w8=>loc [a,b,c,d] w8 fun eh=>R (.returned (.tuple #[.agg #[.i bt,.i bu,.i bv],.i cz])) eh) (sel (l==28) (loc [a,b,c,d] w4 fun dm=>∃bk:Int,dm.cell? (n0.add 2)=some (.i bk)∧
 cf17 [a,b,c,d] n_term_bv #[.i 8] dm fun bh bi bj dn=>dn.cell? (n0.add 2)=some (.i bk)∧cf0 [a,b,c,d] n_term_isStr #[.agg #[.i f,.i e,.i g]] dn fun dk bs=>bs.cell? (n0.add 2)=some (.i bk)∧sel (decide (0≤bk)) (∃dl:Int,bs.cell? (n0.add 2)=some (.i dl)∧
 cf19 [a,b,c,d] n_term_result #[.agg #[.i bh,.i bi,.i bj],.bool dk,.bool (decide (dl<64))] bs fun bw bx bz da ei=>loc [a,b,c,d] ei fun ej=>R (.returned (.tuple #[.agg #[.i bw,.i bx,.i bz],.i da])) ej) (cf19 [a,b,c,d] n_term_result #[.agg #[.i bh,.i bi,.i bj],.bool dk,.bool false] bs fun y z aa az ek=>loc [a,b,c,d] ek fun el=>R (.returned (.tuple #[.agg #[.i y,.i z,.i aa],.i az])) el)) (sel (l==29) (loc [a,b,c,d] w4 fun em=>cf17 [a,b,c,d] n_term_str #[.i (IntKind.wrap .i64 (e+j))] em fun bm bn bo en=>cf0 [a,b,c,d] n_term_isStr #[.agg #[.i f,.i e,.i g]] en fun ec dp=>sel ec (cf0 [a,b,c,d] n_term_isStr #[.agg #[.i p,.i j,.i q]] dp fun ed eo=>cf19 [a,b,c,d] n_term_result #[.agg #[.i bm,.i bn,.i bo],.bool ed,.bool (decide ((IntKind.wrap .i64 (e+j))≤64))] eo fun ca cb cc db ep=>loc [a,b,c,d] ep fun eq=>R (.returned (.tuple #[.agg #[.i ca,.i cb,.i cc],.i db])) eq) (cf19 [a,b,c,d] n_term_result #[.agg #[.i bm,.i bn,.i bo],.bool false,.bool (decide ((IntKind.wrap .i64 (e+j))≤64))] dp fun ab ac ad bb er=>loc [a,b,c,d] er fun es=>R (.returned (.tuple #[.agg #[.i ab,.i ac,.i ad],.i bb])) es)) (sel (l==30) (loc [a,b,c,d] w4 fun et=>cf0 [a,b,c,d] n_term_isStr #[.agg #[.i f,.i e,.i g]] et fun ee dq=>sel ee (cf17 [a,b,c,d] n_term_bv #[.i 7] dq fun dc dd de dr=>sel ((p==dc)&&((j==dd)&&((q==de)&&true))) (cf17 [a,b,c,d] n_term_bv #[.i 7] dr fun df dg dh eu=>cf19 [a,b,c,d] n_term_result #[.agg #[.i f,.i e,.i g],.bool ((bf==df)&&((k==dg)&&((bg==dh)&&true))),.bool true] eu fun cd ce cf di ev=>loc [a,b,c,d] ev fun ew=>R (.returned (.tuple #[.agg #[.i cd,.i ce,.i cf],.i di])) ew) (cf19 [a,b,c,d] n_term_result #[.agg #[.i f,.i e,.i g],.bool false,.bool true] dr fun ae af ag bc ex=>loc [a,b,c,d] ex fun ey=>R (.returned (.tuple #[.agg #[.i ae,.i af,.i ag],.i bc])) ey)) (cf19 [a,b,c,d] n_term_result #[.agg #[.i f,.i e,.i g],.bool false,.bool true] dq fun ah ai aj bd ez=>loc [a,b,c,d] ez fun fa=>R (.returned (.tuple #[.agg #[.i ah,.i ai,.i aj],.i bd])) fa)) (sel (l==31) (loc [a,b,c,d] w4 fun fb=>cf17 [a,b,c,d] n_term_bv #[.i 7] fb fun bp bq br fc=>cf0 [a,b,c,d] n_term_isStr #[.agg #[.i f,.i e,.i g]] fc fun ef ds=>sel ef (cf0 [a,b,c,d] n_term_isStr #[.agg #[.i p,.i j,.i q]] ds fun eg fd=>cf19 [a,b,c,d] n_term_result #[.agg #[.i bp,.i bq,.i br],.bool eg,.bool true] fd fun cg ch ci dj fe=>loc [a,b,c,d] fe fun ff=>R (.returned (.tuple #[.agg #[.i cg,.i ch,.i ci],.i dj])) ff) (cf19 [a,b,c,d] n_term_result #[.agg #[.i bp,.i bq,.i br],.bool false,.bool true] ds fun ak al am be fg=>loc [a,b,c,d] fg fun fh=>R (.returned (.tuple #[.agg #[.i ak,.i al,.i am],.i be])) fh)) (sel (l==32) (loc [a,b,c,d] w4 fun fi=>cf17 [a,b,c,d] n_term_str #[.i (IntKind.wrap .i64 (e+k))] fi fun m n o fj=>cf0 [a,b,c,d] n_term_isStr #[.agg #[.i f,.i e,.i g]] fj fun dw dt=>sel dw (cf0 [a,b,c,d] n_term_isStr #[.agg #[.i p,.i j,.i q]] dt fun dx du=>sel dx (cf0 [a,b,c,d] n_term_isStr #[.agg #[.i bf,.i k,.i bg]] du fun dy fk=>cf19 [a,b,c,d] n_term_result #[.agg #[.i m,.i n,.i o],.bool dy,.bool (decide ((IntKind.wrap .i64 (e+k))≤64))] fk fun ar au av cj fl=>loc [a,b,c,d] fl fun fm=>R (.returned (.tuple #[.agg #[.i ar,.i au,.i av],.i cj])) fm) (cf19 [a,b,c,d] n_term_result #[.agg #[.i m,.i n,.i o],.bool false,.bool (decide ((IntKind.wrap .i64 (e+k))≤64))] du fun r s t ao fn=>loc [a,b,c,d] fn fun fo=>R (.returned (.tuple #[.agg #[.i r,.i s,.i t],.i ao])) fo)) (cf19 [a,b,c,d] n_term_result #[.agg #[.i m,.i n,.i o],.bool false,.bool (decide ((IntKind.wrap .i64 (e+k))≤64))] dt fun u v x ap fp=>loc [a,b,c,d] fp fun fq=>R (.returned (.tuple #[.agg #[.i u,.i v,.i x],.i ap])) fq)) (sel (l==34) (loc [a,b,c,d] w4 fun fr=>cf17 [a,b,c,d] n_term_str #[.i 1] fr fun ck cl cm fs=>cf17 [a,b,c,d] n_term_bv #[.i 8] fs fun cn co cp ft=>cf19 [a,b,c,d] n_term_result #[.agg #[.i ck,.i cl,.i cm],.bool ((f==cn)&&((e==co)&&((g==cp)&&true))),.bool true] ft fun aw ax ay cq fu=>loc [a,b,c,d] fu fun fv=>R (.returned (.tuple #[.agg #[.i aw,.i ax,.i ay],.i cq])) fv) (cf0 [a,b,c,d] n_term_isStr #[.agg #[.i f,.i e,.i g]] w4 fun dz cv=>sel (!dz) (loc [a,b,c,d] cv fun fw=>R (.returned (.tuple #[.agg #[.i f,.i e,.i g],.i 9])) fw) (∃cr:ByteArray,cv.cell? (n0.add 5)=some (.string cr)∧
 cf0 [a,b,c,d] n_term_isNormal #[.string cr] cv fun ea dv=>sel (!ea) (loc [a,b,c,d] dv fun fx=>R (.returned (.tuple #[.agg #[.i f,.i e,.i g],.i 2])) fx) (cf17 [a,b,c,d] n_term_bv #[.i 1] dv fun cs ct cu fy=>loc [a,b,c,d] fy fun fz=>R (.returned (.tuple #[.agg #[.i cs,.i ct,.i cu],.i 0])) fz)))))))))):Calls Tryz.prog n_term_sortOfStrings #[.pointer (some n0),.agg #[.i f,.i e,.i g],.agg #[.i p,.i j,.i q],.agg #[.i bf,.i k,.i bg]] w R:=callsX X [] h
end term_sortOfStrings
namespace term_sortOf
noncomputable abbrev X:Fx:=⟨Tryz.prog,Tryz.f42,[(1,ls [0,1,2,3,4,5,6,7,8,9,10,11,12,13,14,15,16,17])],[6,11]⟩
abbrev P0:Ps:=[(6,.l [.I,.I,.I] ty_api_Sort)]
abbrev S0T (a:Nat) (b c d:Int) (w:World) (R:Post):Prop:=
 loc [a] w fun e=>R (.returned (.tuple #[.agg #[.i 0,.i 0,.i 0],.i 1])) e
noncomputable def eS0:=entS X [] (pth [0,1,1,1,1]) P0 S0T
abbrev P1:Ps:=[(0,.v [.s]),(2,.v [.f]),(4,.v [.r]),(6,.l [.I,.I,.I] ty_api_Sort),(8,.v [.r]),(34,.v [.I]),(35,.v [.I])]
def L1T (b:Sl) (a:Fv) (j:Addr) (k:Nat) (d e f:Int) (c:Addr) (g i:Int) (w:World) (R:Post):Prop:=mkCur P1 0 (X.Sem (pth [0,1,1,1,3])) b a j k d e f c g i w R
noncomputable def eL1:=entL X (pth [0,1,1,1,3]) P1 L1T
abbrev S2T (a:Nat) (b c d:Int) (w:World) (R:Post):Prop:=
 loc [a] w fun e=>R (.returned (.tuple #[.agg #[.i 0,.i 0,.i 0],.i 1])) e
noncomputable def eS2:=entS X [eL1,eS0] (pth [0,1,1,1,2,2,2,2,1,1,3]) P0 S2T
abbrev P2:Ps:=[(6,.l [.I,.I,.I] ty_api_Sort),(11,.l [.I,.I,.I] ty_api_Sort),(12,.v [.I])]
abbrev S3T (f:Nat) (g j k:Int) (e:Nat) (a b c d:Int) (w:World) (R:Post):Prop:=
 sel (d !=0) (loc [f,e] w fun l=>R (.returned (.tuple #[.agg #[.i 0,.i 0,.i 0],.i d])) l) (loc [f,e] w fun m=>R (.returned (.tuple #[.agg #[.i a,.i b,.i c],.i 0])) m)
noncomputable def eS3:=entS X [eS2,eL1,eS0] (pth [8]) P2 S3T
theorem L1T_step:∀(k:Sl) (m:Fv) (o:Addr) (d:Nat) (f g j:Int) (b:Addr) (ay l:Int) (w:World) (R:Post) (h:sel (decide (l<ay)) (∃az:Sl,w.cell? (o.add 1)=some (az.v)∧
 (0:Int)≤l∧l<((az.n:Nat):Int)∧optP az.a fun bb=>∃p:Int,w.cell? (bb.add (Int.toNat l *1))=some (.i p)∧
 sel (decide (p<0)) (S2T d f g j w R) (sel (decide (p≥((k.n:Nat):Int))) (S2T d f g j w R) ((0:Int)≤p∧p<((k.n:Nat):Int)∧optP k.a fun bc=>ld3_2 w ((bc.add (Int.toNat p *9)).add 6) fun bd be bf=>(0:Int)≤l∧l<((3:Nat):Int)∧stV w (b.add (Int.toNat l *3)) (.i bd) fun w5=>kept [d] w w5∧
 stV w5 ((b.add (Int.toNat l *3)).add 1) (.i be) fun w6=>kept [d] w5 w6∧
 stV w6 ((b.add (Int.toNat l *3)).add 2) (.i bf) fun w7=>kept [d] w6 w7∧
 L1T k m o d f g j b ay (IntKind.wrap .i64 (l+1)) w7 R))) (cf0 [d] n_term_fieldsFit #[.pointer (some o)] w fun cf w8=>sel (!cf) (loc [d] w8 fun cg=>R (.returned (.tuple #[.agg #[.i 0,.i 0,.i 0],.i 1])) cg) (newV [d] w8 fun e c=>
 ∃ca:Int,c.cell? (o.add 0)=some (.i ca)∧
 sel (ca==0) (cf19 [d,e] n_term_sortOfVar #[.pointer (some o),m.v] c fun ab ac ad br ch=>loc [d,e] ch fun ci=>S3T d f g j e ab ac ad br ci R) (∃cb:Int,c.cell? (o.add 0)=some (.i cb)∧
 sel (decide (cb≤3)) (cf19 [d,e] n_term_sortOfLeaf #[.pointer (some o)] c fun ae af ag bs cj=>loc [d,e] cj fun ck=>S3T d f g j e ae af ag bs ck R) (∃cc:Int,c.cell? (o.add 0)=some (.i cc)∧
 sel (decide (cc≤23)) ((0:Int)≤0∧0<((3:Nat):Int)∧ld3_2 c (b.add (Int.toNat 0 *3)) fun bt bu bv=>(0:Int)≤1∧1<((3:Nat):Int)∧ld3_2 c (b.add (Int.toNat 1 *3)) fun bw bx bz=>(0:Int)≤2∧2<((3:Nat):Int)∧ld3_2 c (b.add (Int.toNat 2 *3)) fun ah ai aj=>cf19 [d,e] n_term_sortOfBits #[.pointer (some o),.agg #[.i bt,.i bu,.i bv],.agg #[.i bw,.i bx,.i bz],.agg #[.i ah,.i ai,.i aj]] c fun q r s ak cl=>loc [d,e] cl fun cm=>S3T d f g j e q r s ak cm R) (∃al:Int,c.cell? (o.add 0)=some (.i al)∧
 sel (decide (al≤26)) ((0:Int)≤0∧0<((3:Nat):Int)∧ld3_2 c (b.add (Int.toNat 0 *3)) fun am an ao=>(0:Int)≤1∧1<((3:Nat):Int)∧ld3_2 c (b.add (Int.toNat 1 *3)) fun ap aq ar=>(0:Int)≤2∧2<((3:Nat):Int)∧ld3_2 c (b.add (Int.toNat 2 *3)) fun au av aw=>cf19 [d,e] n_term_sortOfArrays #[.pointer (some o),.agg #[.i am,.i an,.i ao],.agg #[.i ap,.i aq,.i ar],.agg #[.i au,.i av,.i aw]] c fun t u x ax cn=>loc [d,e] cn fun co=>S3T d f g j e t u x ax co R) ((0:Int)≤0∧0<((3:Nat):Int)∧ld3_2 c (b.add (Int.toNat 0 *3)) fun bg bh bi=>(0:Int)≤1∧1<((3:Nat):Int)∧ld3_2 c (b.add (Int.toNat 1 *3)) fun bj bk bm=>(0:Int)≤2∧2<((3:Nat):Int)∧ld3_2 c (b.add (Int.toNat 2 *3)) fun bn bo bp=>cf19 [d,e] n_term_sortOfStrings #[.pointer (some o),.agg #[.i bg,.i bh,.i bi],.agg #[.i bj,.i bk,.i bm],.agg #[.i bn,.i bo,.i bp]] c fun y z aa bq cp=>loc [d,e] cp fun cq=>S3T d f g j e y z aa bq cq R))))))),L1T k m o d f g j b ay l w R:=mp (stepL (X:=X) [eS3,eS2,eL1,eS0] (pth [0,1,1,1,3]) P1)
theorem okT (c:Sl) (f:Int) (g:Sl) (j k l:Int) (m:ByteArray) (o p q:Int) (b:Fv) (w:World) (R:Post) (h:nwV w (.cells #[.i f,g.v,.i j,.i k,.u l,.string m,.i o,.i p,.i q] ty_api_Node) fun w1=>
 newV [] w1 fun e w2=>
 loc [e] w2 fun a=>∃r:Int,a.cell? ((nb w).add 0)=some (.i r)∧
 sel (decide (r<0)) (S0T e 0 0 0 a R) (∃s:Int,a.cell? ((nb w).add 0)=some (.i s)∧
 sel (decide (s≥35)) (S0T e 0 0 0 a R) (∃t:Sl,a.cell? ((nb w).add 1)=some (t.v)∧
 ∃d:Int,a.cell? ((nb w).add 0)=some (.i d)∧
 (0:Int)≤d∧d<((35:Nat):Int)∧∃x:Int,a.cell? ((Addr.mk 0 0 none).add (Int.toNat d *1))=some (.i x)∧
 sel (((t.n:Nat):Int) !=x) (S0T e 0 0 0 a R) (nwV a (.cells #[.i 0,.i 0,.i 0,.i 0,.i 0,.i 0,.i 0,.i 0,.i 0] ty_3_api_Sort) fun z=>
 ∃y:Sl,z.cell? ((nb w).add 1)=some (y.v)∧
 L1T c b (nb w) e 0 0 0 (nb a) ((y.n:Nat):Int) 0 z R)))):Calls Tryz.prog n_term_sortOf #[c.v,.agg #[.i f,g.v,.i j,.i k,.u l,.string m,.i o,.i p,.i q],b.v] w R:=callsX X [eS3,eS2,eL1,eS0] h
end term_sortOf
namespace term_SortOf_1
noncomputable abbrev X:Fx:=⟨Tryz.prog,Tryz.f43,[],[3]⟩
abbrev P0:Ps:=[(0,.v [.st]),(1,.v [.r]),(3,.l [.I,.I,.I] ty_api_Sort),(8,.v [.I]),(9,.v [.I])]
def L0T (a:ByteArray) (e:Addr) (f:Nat) (b c d g i:Int) (w:World) (R:Post):Prop:=mkCur P0 0 (X.Sem (pth [0,1,1,1,1])) a e f b c d g i w R
noncomputable def eL0:=entL X (pth [0,1,1,1,1]) P0 L0T
abbrev S1T (a:ByteArray) (e:Addr) (f:Nat) (b c d g i:Int) (w:World) (R:Post):Prop:=
 L0T a e f b c d g (IntKind.wrap .i64 (i+1)) w R
noncomputable def eS1:=entS X [eL0] (pth [3,2,1,1,1]) P0 S1T
theorem L0T_step:∀(c:ByteArray) (g:Addr) (l:Nat) (d e f u b:Int) (w:World) (R:Post) (h:sel (decide (b<u)) (∃j:Sl,w.cell? (g.add 0)=some (j.v)∧
 (0:Int)≤b∧b<((j.n:Nat):Int)∧optP j.a fun o=>∃x:Int,w.cell? ((o.add (Int.toNat b *9)).add 0)=some (.i x)∧
 sel (x==0) (∃k:Sl,w.cell? (g.add 0)=some (k.v)∧
 (0:Int)≤b∧b<((k.n:Nat):Int)∧optP k.a fun p=>∃y:ByteArray,w.cell? ((p.add (Int.toNat b *9)).add 5)=some (.string y)∧
 sel (y.toList==c.toList) (∃m:Sl,w.cell? (g.add 0)=some (m.v)∧
 (0:Int)≤b∧b<((m.n:Nat):Int)∧optP m.a fun q=>ld3_2 w ((q.add (Int.toNat b *9)).add 6) fun r s t=>loc [l] w fun z=>R (.returned (.tuple #[.agg #[.i r,.i s,.i t],.bool true])) z) (S1T c g l d e f u b w R)) (S1T c g l d e f u b w R)) (loc [l] w fun w7=>R (.returned (.tuple #[.agg #[.i 0,.i 0,.i 0],.bool false])) w7)),L0T c g l d e f u b w R:=mp (stepL (X:=X) [eS1,eL0] (pth [0,1,1,1,1]) P0)
theorem okT (a:ByteArray) (b:Addr) (w:World) (R:Post) (h:newV [] w fun e d=>
 ∃c:Sl,d.cell? (b.add 0)=some (c.v)∧
 L0T a b e 0 0 0 ((c.n:Nat):Int) 0 d R):Calls Tryz.prog n_term_SortOf_1 #[.string a,.pointer (some b)] w R:=callsX X [eS1,eL0] h
end term_SortOf_1
namespace term_SortOf
noncomputable abbrev X:Fx:=⟨Tryz.prog,Tryz.f12,[],[3,4]⟩
theorem okT (d:Sl) (e:Int) (f:Sl) (g j k:Int) (l:ByteArray) (m n o:Int) (w:World) (R:Post) (h:nwV w (.cells #[d.v] ty_term_Graph) fun x=>
 newV [] x fun q y=>
 newV [q] y fun r t=>
 ∃s:Sl,t.cell? ((nb w).add 0)=some (s.v)∧
 cf19 [q,r] n_term_sortOf #[s.v,.agg #[.i e,f.v,.i g,.i j,.u k,.string l,.i m,.i n,.i o],.func (.func n_term_SortOf_1) #[] #[.pointer (some (nb w))]] t fun a b c p z=>loc [q,r] z fun w7=>R (.returned (.tuple #[.agg #[.i a,.i b,.i c],.i p])) w7):Calls Tryz.prog n_term_SortOf #[.agg #[d.v],.agg #[.i e,f.v,.i g,.i j,.u k,.string l,.i m,.i n,.i o]] w R:=callsX X [] h
end term_SortOf
namespace slices_Equal_sl_int_int
noncomputable abbrev X:Fx:=⟨Tryz.prog,Tryz.f128,[(6,ls [0,1,2,3,4,5,6,7,8])],[]⟩
abbrev P0:Ps:=[(0,.v [.s]),(1,.v [.s]),(12,.v [.I]),(13,.v [.I])]
def L0 (a b:Sl) (c d:Int) (w:World) (R:Post):Prop:=mkCur P0 0 (X.Sem (pth [0,1,1,1,2])) a b c d w R
noncomputable def eL0:=entL X (pth [0,1,1,1,2]) P0 L0
theorem L0_step:∀(c d:Sl) (e b:Int) (w:World) (R:Post) (h:sel (decide (b<e)) (drV w fun j=>(0:Int)≤b∧b<((c.n:Nat):Int)∧optP c.a fun f=>∃k:Int,j.cell? (f.add (Int.toNat b *1))=some (.i k)∧
 (0:Int)≤b∧b<((d.n:Nat):Int)∧optP d.a fun g=>∃l:Int,j.cell? (g.add (Int.toNat b *1))=some (.i l)∧
 sel (k !=l) (R (.returned (.bool false)) j) (L0 c d e (IntKind.wrap .i64 (b+1)) j R)) (R (.returned (.bool true)) w)),L0 c d e b w R:=mp (stepL (X:=X) [eL0] (pth [0,1,1,1,2]) P0)
theorem ok (a b:Sl) (w:World) (R:Post) (h:sel (((a.n:Nat):Int) !=((b.n:Nat):Int)) (R (.returned (.bool false)) w) (L0 a b ((a.n:Nat):Int) 0 w R)):Calls Tryz.prog n_slices_Equal_sl_int_int #[a.v,b.v] w R:=callsX X [eL0] h
end slices_Equal_sl_int_int
namespace term_sameNode
noncomputable abbrev X:Fx:=⟨Tryz.prog,Tryz.f92,[(1,ls [0,1,2,3,4,5,6,7,8,9,10,11,12,13,14,15,16,17,18,19,20,21,22,23,24,25,26,27,28,29,30,31,32,33,34,35,36,37,38,39,40,41,42,43,44,45,46,47,48,49,50,51,52,53,54,55,56,57,58,59,60,61,62,63,64,65,66,67,68,69,70,71,72,73,74,75])],[]⟩
theorem ok (b c:Addr) (w:World) (R:Post) (h:drV w fun a=>∃t8:Int,a.cell? (b.add 0)=some (.i t8)∧
 ∃e:Int,a.cell? (c.add 0)=some (.i e)∧
 sel (t8==e) (∃f:Int,a.cell? (b.add 2)=some (.i f)∧
 ∃g:Int,a.cell? (c.add 2)=some (.i g)∧
 sel (f==g) (∃j:Int,a.cell? (b.add 3)=some (.i j)∧
 ∃k:Int,a.cell? (c.add 3)=some (.i k)∧
 sel (j==k) (∃r:Int,a.cell? (b.add 4)=some (.u r)∧
 ∃s:Int,a.cell? (c.add 4)=some (.u s)∧
 sel (r==s) (ld3_2 a (b.add 6) fun l m n=>ld3_2 a (c.add 6) fun o p q=>sel ((l==o)&&((m==p)&&((n==q)&&true))) (∃t:Sl,a.cell? (b.add 1)=some (t.v)∧
 ∃x:Sl,a.cell? (c.add 1)=some (x.v)∧
 ca0 n_slices_Equal_sl_int_int #[t.v,x.v] a fun ab d=>d.cell? (c.add 3)=some (.i k)∧d.cell? (b.add 3)=some (.i j)∧d.cell? (c.add 2)=some (.i g)∧d.cell? (b.add 2)=some (.i f)∧d.cell? (c.add 0)=some (.i e)∧d.cell? (b.add 0)=some (.i t8)∧sel ab (∃y:ByteArray,d.cell? (b.add 5)=some (.string y)∧
 ∃z:ByteArray,d.cell? (c.add 5)=some (.string z)∧
 R (.returned (.bool (y.toList==z.toList))) d) (R (.returned (.bool false)) d)) (R (.returned (.bool false)) a)) (R (.returned (.bool false)) a)) (R (.returned (.bool false)) a)) (R (.returned (.bool false)) a)) (R (.returned (.bool false)) a)):Calls Tryz.prog n_term_sameNode #[.pointer (some b),.pointer (some c)] w R:=callsX X [] h
end term_sameNode
namespace term_search
noncomputable abbrev X:Fx:=⟨Tryz.prog,Tryz.f49,[],[2]⟩
abbrev P0:Ps:=[(1,.v [.r]),(2,.l [.s] ty_term_Graph),(8,.v [.I]),(9,.v [.I])]
def L0T (c:Addr) (b:Nat) (a:Sl) (d e:Int) (w:World) (R:Post):Prop:=mkCur P0 0 (X.Sem (pth [0,1,1,1,1])) c b a d e w R
noncomputable def eL0:=entL X (pth [0,1,1,1,1]) P0 L0T
theorem L0T_step:∀(f:Addr) (e:Nat) (b:Sl) (g c:Int) (w:World) (R:Post) (h:sel (decide (c<g)) ((0:Int)≤c∧c<((b.n:Nat):Int)∧optP b.a fun d=>cf0 [e] n_term_sameNode #[.pointer (some (d.add (Int.toNat c *9))),.pointer (some f)] w fun j k=>sel j (R (.returned (.i c)) k) (L0T f e b g (IntKind.wrap .i64 (c+1)) k R)) (R (.returned (.i (-1))) w)),L0T f e b g c w R:=mp (stepL (X:=X) [eL0] (pth [0,1,1,1,1]) P0)
theorem okT (a:Sl) (b:Addr) (w:World) (R:Post) (h:newV [] w fun c d=>
 L0T b c a ((a.n:Nat):Int) 0 d R):Calls Tryz.prog n_term_search #[.agg #[a.v],.pointer (some b)] w R:=callsX X [eL0] h
end term_search
namespace slices_Clone_sl_int_int
noncomputable abbrev X:Fx:=⟨Tryz.prog,Tryz.f50,[],[]⟩
theorem ok (b:Sl) (w:World) (R:Post) (h:sel b.a.isNone (R (.returned (.slice none 0 0)) w) (nwV w (.cells #[] ty_int) fun e=>
 ∃(c:Sl) (d:World),Sem.run Tryz.prog (Builtin.append_ #[ty_sl_int,ty_sl_int] ty_sl_int #[.slice (some (nb w)) 0 0,b.v]) e=.ok (c.v) d∧R (.returned (c.v)) d)):Calls Tryz.prog n_slices_Clone_sl_int_int #[b.v] w R:=callsX X [] h
end slices_Clone_sl_int_int
namespace term_Add
noncomputable abbrev X:Fx:=⟨Tryz.prog,Tryz.f14,[(14,ls [0,1,2,3,4,5,6,7])],[2,4,7]⟩
theorem okT (b:Sl) (s:Int) (t:Sl) (x y z:Int) (aa:ByteArray) (ab ac ad:Int) (w:World) (R:Post) (h:newV [] w fun c g=>
 nwV g (.cells #[.i s,t.v,.i x,.i y,.u z,.string aa,.i ab,.i ac,.i ad] ty_api_Node) fun w2=>
 newV [c] w2 fun d w3=>
 ld9_3 w3 (nb g) fun ap aq ar au av aw ax ay az=>cf19 [c,d] n_term_SortOf #[.agg #[b.v],.agg #[.i ap,aq.v,.i ar,.i au,.u av,.string aw,.i ax,.i ay,.i az]] w3 fun p q r l w4=>newV [c,d] w4 fun f w5=>
 sel (l !=0) (loc [c,d,f] w5 fun w9=>R (.returned (.tuple #[.agg #[.slice none 0 0],.i 0,.i l])) w9) (loc [c,d,f] w5 fun w8=>stV w8 ((nb g).add 6) (.i p) fun ae=>kept [c,d,f] w8 ae∧
 stV ae (((nb g).add 6).add 1) (.i q) fun af=>kept [c,d,f] ae af∧
 stV af (((nb g).add 6).add 2) (.i r) fun bn=>kept [c,d,f] af bn∧
 cf1 [c,d,f] n_term_search #[.agg #[b.v],.pointer (some (nb g))] bn fun bk m=>sel (decide (bk≥0)) (loc [c,d,f] m fun bs=>R (.returned (.tuple #[.agg #[b.v],.i bk,.i 0])) bs) (sel (decide (((b.n:Nat):Int)≥4096)) (loc [c,d,f] m fun bt=>R (.returned (.tuple #[.agg #[.slice none 0 0],.i 0,.i 4])) bt) (∃bm:Sl,m.cell? ((nb g).add 1)=some (bm.v)∧
 cf3 [c,d,f] n_slices_Clone_sl_int_int #[bm.v] m fun bq bo=>stV bo ((nb g).add 1) (bq.v) fun ag=>kept [c,d,f] bo ag∧
 ∃(j:Sl) (o:World),Sem.run Tryz.prog (Instr.makeSlice ty_sl_api_Node (.i (IntKind.wrap .i64 (((b.n:Nat):Int)+1))) (.i (IntKind.wrap .i64 (((b.n:Nat):Int)+1)))) ag=.ok (j.v) o∧kept [c,d,f] ag o∧∃(br:Int) (k:World),Sem.run Tryz.prog (Builtin.copy_ #[ty_sl_api_Node,ty_sl_api_Node] ty_int #[j.v,b.v]) o=.ok (.i br) k∧kept [c,d,f] o k∧ld9_3 k (nb g) fun bb bc bd be bf bg bh bi bj=>(0:Int)≤((b.n:Nat):Int)∧((b.n:Nat):Int)<((j.n:Nat):Int)∧optP j.a fun e=>stV k (e.add (Int.toNat ((b.n:Nat):Int) *9)) (.i bb) fun ah=>kept [c,d,f] k ah∧
 stV ah ((e.add (Int.toNat ((b.n:Nat):Int) *9)).add 1) (bc.v) fun ai=>kept [c,d,f] ah ai∧
 stV ai ((e.add (Int.toNat ((b.n:Nat):Int) *9)).add 2) (.i bd) fun aj=>kept [c,d,f] ai aj∧
 stV aj ((e.add (Int.toNat ((b.n:Nat):Int) *9)).add 3) (.i be) fun ak=>kept [c,d,f] aj ak∧
 stV ak ((e.add (Int.toNat ((b.n:Nat):Int) *9)).add 4) (.u bf) fun al=>kept [c,d,f] ak al∧
 stV al ((e.add (Int.toNat ((b.n:Nat):Int) *9)).add 5) (.string bg) fun am=>kept [c,d,f] al am∧
 stV am ((e.add (Int.toNat ((b.n:Nat):Int) *9)).add 6) (.i bh) fun an=>kept [c,d,f] am an∧
 stV an ((e.add (Int.toNat ((b.n:Nat):Int) *9)).add 7) (.i bi) fun ao=>kept [c,d,f] an ao∧
 stV ao ((e.add (Int.toNat ((b.n:Nat):Int) *9)).add 8) (.i bj) fun bp=>kept [c,d,f] ao bp∧
 loc [c,d,f] bp fun bv=>R (.returned (.tuple #[.agg #[j.v],.i ((b.n:Nat):Int),.i 0])) bv)))):Calls Tryz.prog n_term_Add #[.agg #[b.v],.agg #[.i s,t.v,.i x,.i y,.u z,.string aa,.i ab,.i ac,.i ad]] w R:=callsX X [] h
end term_Add
end Go.Proofs.YtcifihepfadgfaaGreatDoor
set_option linter.unusedVariables false
set_option maxRecDepth 100000
set_option maxHeartbeats 2000000
namespace Go.Proofs.YtcifihepfadgfaaGreatDoor
open Go Go.W
namespace regex_small
noncomputable abbrev X:Fx:=⟨Tryz.prog,Tryz.f184,[],[]⟩
theorem ok (a:Int) (w:World) (R:Post) (h:sel (decide (a≥97)) (R (.returned (.bool (decide (a≤122)))) w) (R (.returned (.bool false)) w)):Calls Tryz.prog n_regex_small #[.int .u8 a] w R:=callsX X [] h
end regex_small
namespace regex_plain
noncomputable abbrev X:Fx:=⟨Tryz.prog,Tryz.f199,[],[]⟩
theorem ok (a:Int) (w:World) (R:Post) (h:sel (decide (a≥32)) (sel (decide (a≤126)) (sel (a !=39) (R (.returned (.bool (a !=92))) w) (R (.returned (.bool false)) w)) (R (.returned (.bool false)) w)) (R (.returned (.bool false)) w)):Calls Tryz.prog n_regex_plain #[.int .u8 a] w R:=callsX X [] h
end regex_plain
namespace strings_IndexByte
noncomputable abbrev X:Fx:=⟨Tryz.prog,Tryz.f183,[],[]⟩
theorem ok (b:ByteArray) (a:Int) (w:World) (R:Post) (h:ca1 n_internal_stringslite_IndexByte #[.string b,.int .u8 a] w fun c d=>R (.returned (.i c)) d):Calls Tryz.prog n_strings_IndexByte #[.string b,.int .u8 a] w R:=callsX X [] h
end strings_IndexByte
namespace internal_stringslite_IndexByte
noncomputable abbrev X:Fx:=⟨Tryz.prog,Tryz.f198,[],[]⟩
theorem ok (b:ByteArray) (a:Int) (w:World) (R:Post) (h:∃c:Int,∃d:World,Sem.run Tryz.prog (callFunc n_internal_bytealg_IndexByteString #[.string b,.int .u8 a]) w=.ok (.value (.i c)) d∧
 R (.returned (.i c)) d):Calls Tryz.prog n_internal_stringslite_IndexByte #[.string b,.int .u8 a] w R:=callsX X [] h
end internal_stringslite_IndexByte
namespace regex_byteAt
noncomputable abbrev X:Fx:=⟨Tryz.prog,Tryz.f185,[(4,ls [0,1,2,3,5,6,7,8,4,9,10,11])],[]⟩
abbrev P0:Ps:=[]
abbrev S1 (w:World) (R:Post):Prop:=
 R (.returned (.tuple #[.int .u8 0,.i 0,.bool false])) w
noncomputable def eS1:=entS X [] (pth [3]) P0 S1
abbrev P1:Ps:=[(0,.v [.st]),(1,.v [.I])]
abbrev S0 (f:ByteArray) (a:Int) (w:World) (R:Post):Prop:=
 sel (decide ((IntKind.wrap .i64 (a+3))<((f.size:Nat):Int))) ((0:Int)≤a∧∃b:UInt8,f[Int.toNat a]? =some b∧sel (((b.toNat:Nat):Int)==92) ((0:Int)≤(IntKind.wrap .i64 (a+1))∧∃c:UInt8,f[Int.toNat (IntKind.wrap .i64 (a+1))]? =some c∧sel (((c.toNat:Nat):Int)==120) (drV w fun l=>(0:Int)≤(IntKind.wrap .i64 (a+2))∧∃d:UInt8,f[Int.toNat (IntKind.wrap .i64 (a+2))]? =some d∧(0:Int)≤(IntKind.wrap .i64 (a+3))∧∃e:UInt8,f[Int.toNat (IntKind.wrap .i64 (a+3))]? =some e∧ca1 n_strings_IndexByte #[.string (ByteArray.mk #[48,49,50,51,52,53,54,55,56,57,97,98,99,100,101,102]),.int .u8 ((d.toNat:Nat):Int)] l fun g m=>ca1 n_strings_IndexByte #[.string (ByteArray.mk #[48,49,50,51,52,53,54,55,56,57,97,98,99,100,101,102]),.int .u8 ((e.toNat:Nat):Int)] m fun j k=>sel (decide (g≥0)) (sel (decide (j≥0)) (R (.returned (.tuple #[.int .u8 (IntKind.wrap .u8 (bOr .i64 (IntKind.wrap .i64 (g *2^(4))) j)),.i 4,.bool true])) k) (S1 k R)) (S1 k R)) (S1 w R)) (S1 w R)) (S1 w R)
noncomputable def eS0:=entS X [eS1] (pth [2]) P1 S0
theorem ok (b:ByteArray) (a:Int) (w:World) (R:Post) (h:sel (decide ((IntKind.wrap .i64 (a+2))<((b.size:Nat):Int))) ((0:Int)≤a∧∃c:UInt8,b[Int.toNat a]? =some c∧sel (((c.toNat:Nat):Int)==39) ((0:Int)≤(IntKind.wrap .i64 (a+1))∧∃d:UInt8,b[Int.toNat (IntKind.wrap .i64 (a+1))]? =some d∧ca0 n_regex_plain #[.int .u8 ((d.toNat:Nat):Int)] w fun j g=>sel j ((0:Int)≤(IntKind.wrap .i64 (a+2))∧∃e:UInt8,b[Int.toNat (IntKind.wrap .i64 (a+2))]? =some e∧sel (((e.toNat:Nat):Int)==39) ((0:Int)≤(IntKind.wrap .i64 (a+1))∧∃f:UInt8,b[Int.toNat (IntKind.wrap .i64 (a+1))]? =some f∧R (.returned (.tuple #[.int .u8 ((f.toNat:Nat):Int),.i 3,.bool true])) g) (S0 b a g R)) (S0 b a g R)) (S0 b a w R)) (S0 b a w R)):Calls Tryz.prog n_regex_byteAt #[.string b,.i a] w R:=callsX X [eS0,eS1] h
end regex_byteAt
namespace regex_tokenAt
noncomputable abbrev X:Fx:=⟨Tryz.prog,Tryz.f156,[],[4]⟩
abbrev P0:Ps:=[(0,.v [.st]),(1,.v [.I]),(4,.l [.Y,.Y,.Y,.st,.I] ty_regex_token),(7,.v [.I])]
def L1T (i:ByteArray) (f:Int) (j:Nat) (a b c:Int) (d:ByteArray) (e g:Int) (w:World) (R:Post):Prop:=mkCur P0 0 (X.Sem (pth [0,2,1,1,3,2,2])) i f j a b c d e g w R
noncomputable def eL1:=entL X (pth [0,2,1,1,3,2,2]) P0 L1T
abbrev S2T (c:ByteArray) (a:Int) (d:Nat) (e f g:Int) (j:ByteArray) (k b:Int) (w:World) (R:Post):Prop:=
 (0:Int)≤b∧b≤((c.size:Nat):Int)∧(0:Int)≤a∧a≤(((Int.toNat b):Nat):Int)∧loc [d] w fun l=>R (.returned (.tuple #[.agg #[.int .u8 119,.int .u8 0,.int .u8 0,.string (c.extract (Int.toNat a) (Int.toNat b)),.i a],.i (IntKind.wrap .i64 (b - a))])) l
noncomputable def eS2:=entS X [eL1] (pth [2,1,3,2,2]) P0 S2T
theorem L1T_step:∀(i:ByteArray) (k:Int) (j:Nat) (a b c:Int) (d:ByteArray) (e f:Int) (w:World) (R:Post) (h:sel (decide (f<((i.size:Nat):Int))) ((0:Int)≤f∧∃g:UInt8,i[Int.toNat f]? =some g∧cf0 [j] n_regex_small #[.int .u8 ((g.toNat:Nat):Int)] w fun l m=>sel l (L1T i k j a b c d e (IntKind.wrap .i64 (f+1)) m R) (S2T i k j a b c d e f m R)) (S2T i k j a b c d e f w R)),L1T i k j a b c d e f w R:=mp (stepL (X:=X) [eS2,eL1] (pth [0,2,1,1,3,2,2]) P0)
abbrev P1:Ps:=[(1,.v [.I]),(4,.l [.Y,.Y,.Y,.st,.I] ty_regex_token)]
abbrev S4T (a:Int) (b:Nat) (c d e:Int) (f:ByteArray) (g:Int) (w:World) (R:Post):Prop:=
 loc [b] w fun j=>R (.returned (.tuple #[.agg #[.int .u8 63,.int .u8 0,.int .u8 0,.s0,.i a],.i 1])) j
noncomputable def eS4:=entS X [eS2,eL1] (pth [3]) P1 S4T
abbrev P2:Ps:=[(0,.v [.st]),(1,.v [.I]),(4,.l [.Y,.Y,.Y,.st,.I] ty_regex_token),(8,.v [.Y]),(10,.v [.b]),(11,.v [.I]),(12,.v [.Y])]
abbrev S5T (o:ByteArray) (j:Int) (l:Nat) (a b c:Int) (d:ByteArray) (e m:Int) (n:Bool) (g k:Int) (w:World) (R:Post):Prop:=
 sel (!n) (S4T j l a b c d e w R) (sel (decide (g≥((o.size:Nat):Int))) (S4T j l a b c d e w R) ((0:Int)≤g∧∃f:UInt8,o[Int.toNat g]? =some f∧sel (((f.toNat:Nat):Int) !=93) (S4T j l a b c d e w R) (sel (decide (m>k)) (S4T j l a b c d e w R) (loc [l] w fun p=>R (.returned (.tuple #[.agg #[.int .u8 114,.int .u8 m,.int .u8 k,.s0,.i j],.i (IntKind.wrap .i64 ((IntKind.wrap .i64 (g+1)) - j))])) p))))
noncomputable def eS5:=entS X [eS4,eS2,eL1] (pth [5,1,5,2,2]) P2 S5T
abbrev P3:Ps:=[(0,.v [.st]),(1,.v [.I]),(4,.l [.Y,.Y,.Y,.st,.I] ty_regex_token),(8,.v [.Y]),(10,.v [.b]),(11,.v [.I])]
abbrev S3T (l:ByteArray) (k:Int) (j:Nat) (a b c:Int) (d:ByteArray) (e q:Int) (p:Bool) (f:Int) (w:World) (R:Post):Prop:=
 sel (!p) (S4T k j a b c d e w R) (sel (decide (f≥((l.size:Nat):Int))) (S4T k j a b c d e w R) ((0:Int)≤f∧∃g:UInt8,l[Int.toNat f]? =some g∧sel (((g.toNat:Nat):Int) !=45) (S4T k j a b c d e w R) (cf7 [j] n_regex_byteAt #[.string l,.i (IntKind.wrap .i64 (f+1))] w fun m n o r=>S5T l k j a b c d e q o (IntKind.wrap .i64 (f+(IntKind.wrap .i64 (1+n)))) m r R)))
noncomputable def eS3:=entS X [eS5,eS4,eS2,eL1] (pth [2,1,5,2,2]) P3 S3T
abbrev P4:Ps:=[(0,.v [.st]),(1,.v [.I]),(4,.l [.Y,.Y,.Y,.st,.I] ty_regex_token),(6,.v [.Y])]
abbrev S0T (l:ByteArray) (a:Int) (b:Nat) (c d e:Int) (f:ByteArray) (g k:Int) (w:World) (R:Post):Prop:=
 cf1 [b] n_strings_IndexByte #[.string (ByteArray.mk #[40,41,44,124,38,33,42]),.int .u8 k] w fun t v=>sel (decide (t≥0)) (loc [b] v fun y=>R (.returned (.tuple #[.agg #[.int .u8 k,.int .u8 0,.int .u8 0,.s0,.i a],.i 1])) y) (cf0 [b] n_regex_small #[.int .u8 k] v fun u s=>sel u (L1T l a b c d e f g a s R) (sel (k==91) (cf7 [b] n_regex_byteAt #[.string l,.i (IntKind.wrap .i64 (a+1))] s fun o p q z=>S3T l a b c d e f g o q (IntKind.wrap .i64 ((IntKind.wrap .i64 (a+1))+p)) z R) (cf7 [b] n_regex_byteAt #[.string l,.i a] s fun j m n r=>sel n (loc [b] r fun x=>R (.returned (.tuple #[.agg #[.int .u8 114,.int .u8 j,.int .u8 j,.s0,.i a],.i m])) x) (S4T a b c d e f g r R))))
noncomputable def eS0:=entS X [eS3,eS5,eS4,eS2,eL1] (pth [2]) P4 S0T
theorem okT (c:ByteArray) (b:Int) (w:World) (R:Post) (h:newV [] w fun d e=>
 (0:Int)≤b∧∃a:UInt8,c[Int.toNat b]? =some a∧S0T c b d 0 0 0 (ByteArray.mk #[]) 0 ((a.toNat:Nat):Int) e R):Calls Tryz.prog n_regex_tokenAt #[.string c,.i b] w R:=callsX X [eS0,eS3,eS5,eS4,eS2,eL1] h
end regex_tokenAt
namespace regex_tokens_1
noncomputable def C0:Code:=(Tryz.f155.body).getD .skip
noncomputable def C1:=C0.fs
noncomputable def C2:=C1.sn
noncomputable def C3:=C2.fs
noncomputable def C4:=C3.fs
noncomputable def C5:=C0.sn
abbrev Q0 (R:Post):ExP:=(Exit.then (wpx Tryz.prog (cx 39) C5 (bodyPost Tryz.prog Tryz.f155 R)) (bodyPost Tryz.prog Tryz.f155 R))
abbrev Q1 (R:Post):ExP:=(Exit.inBlock 0 (Q0 R))
def L0 (a:Nat) (c:Addr) (b:Int) (w:World) (R:Post):Prop:=LP Tryz.prog (cx 39) C4 (Q1 R) [(0,.func (.yield a) #[] #[]),(1,.pointer (some c)),(3,.i b)] w
def KE_L0 (E:Env) (w:World) (R:Post):Prop:=W.asYield (Env.get? E 0) fun a=>W.asRef (Env.get? E 1) fun c=>W.asInt .i64 (Env.get? E 3) fun b=>L0 a c b w R
theorem KE_L0_ok:LOk Tryz.prog 39 KE_L0 C4 Q1:=by
 intro R E w h
 obtain ⟨yield0,hq0,h_1⟩:=W.asYield_elim h
 obtain ⟨t1,hq1,h_2⟩:=W.asRef_elim h_1
 obtain ⟨i3,hq3,h_3⟩:=W.asInt_elim h_2
 intro a ha
 exact h_3 a (ha.cons hq0 (ha.cons hq1 (ha.cons hq3 ha.nil)))
noncomputable def C6:=C4.fs
noncomputable def C7:=C4.sn
noncomputable def C8:=C7.fs
noncomputable def C9:=C8.fs
noncomputable def C10:=C9.sn
noncomputable def C11:=C10.fs
noncomputable def C12:=C8.sn
noncomputable def C13:=C12.sn
noncomputable def C14:=C13.fs
noncomputable def C15:=C13.sn
noncomputable def C16:=C6.sn
noncomputable def C17:=C16.fs
noncomputable def C18:=C11.sn
noncomputable def C19:=C10.sn
noncomputable def C20:=C14.sn
noncomputable def C21:=C20.fs
noncomputable def C22:=C20.sn
noncomputable def C23:=C16.sn
theorem L0_step (d:Nat) (g:Addr) (f:Int) (w:World) (R:Post) (h:∃t7:ByteArray,w.cell? g=some (.string t7)∧
 sel (decide (f<((t7.size:Nat):Int))) (∃z:ByteArray,w.cell? g=some (.string z)∧
 (0:Int)≤f∧∃j:UInt8,z[Int.toNat f]? =some j∧sel (((j.toNat:Nat):Int)==32) (L0 d g (IntKind.wrap .i64 (f+1)) w R) (∃aa:ByteArray,w.cell? g=some (.string aa)∧
 ca8 n_regex_tokenAt #[.string aa,.i f] w fun k l m o p q y=>nwV y (.cells #[.int .u8 0,.int .u8 0,.int .u8 0,.s0,.i 0] ty_regex_token) fun w2=>
 stW5 w2 (nb y) (.int .u8 k) (.int .u8 l) (.int .u8 m) (.string o) (.i p) fun w7=>ld5_1 w7 (nb y) fun r s t u x=>yieldB Tryz.prog d #[.agg #[.int .u8 r,.int .u8 s,.int .u8 t,.string u,.i x]] w7 fun (ad:Bool) w8=>sel (!ad) (R (.returned (.tuple #[])) w8) (∃ab:Int,w8.cell? ((nb y).add 0)=some (.int .u8 ab)∧
 sel (ab==63) (R (.returned (.tuple #[])) w8) (L0 d g (IntKind.wrap .i64 (f+q)) w8 R)))) (∃ac:ByteArray,w.cell? g=some (.string ac)∧
 yieldB Tryz.prog d #[.agg #[.int .u8 36,.int .u8 0,.int .u8 0,.s0,.i ((ac.size:Nat):Int)]] w fun (ah:Bool) w9=>R (.returned (.tuple #[])) w9)):L0 d g f w R:=
 LP.step (n:=(cx 39)) (c:=C4) (E:=[(0,.func (.yield d) #[] #[]),(1,.pointer (some g)),(3,.i f)]) (w:=w) (sq C4 (sr C6 (show (fun (E:Env) (w:World)=>srK Tryz.prog C6 (fun E w=>condK (Env.val E (.tmp 9)) (srK Tryz.prog C9 (fun E w=>condK (Env.val E (.tmp 13)) (srK Tryz.prog C11 (fun E w=>KE_L0 E w R) E w) (srK Tryz.prog C12 (fun E w=>srK Tryz.prog C14 (fun E w=>condK (Env.val E (.tmp 30)) (retVC Tryz.prog Tryz.f155 E w (fun v=>R (.returned v) w)) (rgK Tryz.prog C15 (fun E w=>KE_L0 E w R) E w)) E w) E w)) E w) (rgK Tryz.prog C5 (fun E w=>retVC Tryz.prog Tryz.f155 E w (fun v=>R (.returned v) w)) E w)) E w) [(0,.func (.yield d) #[] #[]),(1,.pointer (some g)),(3,.i f)] w from mp h) fun _ _ b=>(cn C16 b (fun b=>(sk C17 fun a e=>nx e (bk C7 1 (by kernel_rfl) (sq C8 (sr C9 b fun _ _ b=>(cn C10 b (fun b=>(sr C11 b fun _ _ b=>(xt C18 1 (by kernel_rfl) fun a e=>KE_L0_ok R _ _ b a e))) (fun b=>(sk C19 fun a e=>nx e (sr C12 b fun _ _ b=>(sq C13 (sr C14 b fun _ _ b=>(cn C20 b (fun b=>(rt C21 fun a e=>retVC_sound e b)) (fun b=>(sk C22 fun a e=>nx e (rg C15 (by kernel_rfl) b fun _ _ a e b=>KE_L0_ok R _ _ b a e))))))))))))))) (fun b=>(xt C23 0 (by kernel_rfl) fun a e=>nx e (rg C5 (by kernel_rfl) b fun _ _ a e b=>retVC_sound e b))))))
theorem ok (a:Nat) (b:Addr) (w:World) (R:Post) (h:L0 a b 0 w R):Calls Tryz.prog n_regex_tokens_1 #[.func (.yield a) #[] #[],.pointer (some b)] w R:=
 calls_of_WP' (R:=R) (fn:=Tryz.f155) (c:=C0) (args:=[.func (.yield a) #[] #[],.pointer (some b)]) (by kernel_rfl) (by kernel_rfl) (by kernel_rfl) (sq C0 (sr C1 (show (fun (E:Env) (w:World)=>srK Tryz.prog C1 (fun E w=>KE_L0 E w R) E w) (envOf 0 [.func (.yield a) #[] #[],.pointer (some b)]) w from mp h) fun _ _ d=>(bk C2 0 (by kernel_rfl) (lp C3 (by kernel_rfl) (KE_L0_ok R _ _ d)))))
end regex_tokens_1
namespace regex_tokens
noncomputable abbrev X:Fx:=⟨Tryz.prog,Tryz.f142,[],[]⟩
theorem ok (a:ByteArray) (w:World) (R:Post) (h:nwV w (.cells #[.string a] ty_string) fun b=>
 R (.returned (.func (.func n_regex_tokens_1) #[] #[.pointer (some (nb w))])) b):Calls Tryz.prog n_regex_tokens #[.string a] w R:=callsX X [] h
end regex_tokens
namespace regex_one
noncomputable abbrev X:Fx:=⟨Tryz.prog,Tryz.f163,[],[4]⟩
theorem okT (c:Int) (b:Sl) (w:World) (R:Post) (h:newV [] w fun l k=>
 sel (((b.n:Nat):Int)==1) ((0:Int)≤0∧0<((b.n:Nat):Int)∧optP b.a fun j=>ld4_0 k (j.add (Int.toNat 0 *4)) fun d e f g=>loc [l] k fun m=>R (.returned (.agg #[.i d,.int .u8 e,.int .u8 f,g.v])) m) (loc [l] k fun o=>R (.returned (.agg #[.i c,.int .u8 0,.int .u8 0,b.v])) o)):Calls Tryz.prog n_regex_one #[.i c,b.v] w R:=callsX X [] h
end regex_one
namespace regex_frame_endItem
noncomputable abbrev X:Fx:=⟨Tryz.prog,Tryz.f162,[(4,(.sq [0,1,2,3,4,5,6,7,8,10,11] (.fork (ls [9,12]) (ls [12,9]))))],[2]⟩
abbrev P0:Ps:=[(0,.v [.r]),(2,.l [.I,.Y,.Y,.s] ty_regex_Regex)]
def L0T (e:Addr) (f:Nat) (a b c:Int) (d:Sl) (w:World) (R:Post):Prop:=mkCur P0 0 (X.Sem (pth [0,2,1])) e f a b c d w R
noncomputable def eL0:=entL X (pth [0,2,1]) P0 L0T
theorem L0T_step:∀(f:Addr) (d:Nat) (g j k:Int) (l:Sl) (w:World) (R:Post) (h:∃ab:Int,w.cell? (f.add 5)=some (.i ab)∧
 sel (decide (ab>0)) (nwV w (.cells #[.i g,.int .u8 j,.int .u8 k,l.v] ty_regex_Regex) fun w6=>
 loc [d] w6 fun o=>∃ac:Int,o.cell? (f.add 5)=some (.i ac)∧
 stV o (f.add 5) (.i (IntKind.wrap .i64 (ac - 1))) fun ad=>kept [d] o ad∧
 L0T f d 6 0 0 ⟨some (nb w),1,1⟩ ad R) (loc [d] w fun p=>∃c:Sl,p.cell? (f.add 4)=some (c.v)∧
 nwV p (.cells #[.i 0,.int .u8 0,.int .u8 0,.slice none 0 0] ty_regex_Regex) fun q=>
 q.cell? (f.add 4)=some (c.v)∧∃(m:Sl) (e:World),Sem.run Tryz.prog (Builtin.append_ #[ty_sl_regex_Regex,ty_sl_regex_Regex] ty_sl_regex_Regex #[c.v,.slice (some (nb p)) 1 1]) q=.ok (m.v) e∧kept [d] q e∧(0:Int)≤((c.n:Nat):Int)∧((c.n:Nat):Int)<((m.n:Nat):Int)∧optP m.a fun b=>((stV e (b.add (Int.toNat ((c.n:Nat):Int) *4)) (.i g) fun r=>kept [d] e r∧
 stV r ((b.add (Int.toNat ((c.n:Nat):Int) *4)).add 1) (.int .u8 j) fun s=>kept [d] r s∧
 stV s ((b.add (Int.toNat ((c.n:Nat):Int) *4)).add 2) (.int .u8 k) fun t=>kept [d] s t∧
 stV t ((b.add (Int.toNat ((c.n:Nat):Int) *4)).add 3) (l.v) fun u=>kept [d] t u∧
 stV u (f.add 4) (m.v) fun ae=>kept [d] u ae∧
 R (.returned (.tuple #[])) ae)∧(stV e (f.add 4) (m.v) fun x=>kept [d] e x∧
 stV x (b.add (Int.toNat ((c.n:Nat):Int) *4)) (.i g) fun y=>kept [d] x y∧
 stV y ((b.add (Int.toNat ((c.n:Nat):Int) *4)).add 1) (.int .u8 j) fun z=>kept [d] y z∧
 stV z ((b.add (Int.toNat ((c.n:Nat):Int) *4)).add 2) (.int .u8 k) fun aa=>kept [d] z aa∧
 stV aa ((b.add (Int.toNat ((c.n:Nat):Int) *4)).add 3) (l.v) fun af=>kept [d] aa af∧
 R (.returned (.tuple #[])) af)))),L0T f d g j k l w R:=mp (stepL (X:=X) [eL0] (pth [0,2,1]) P0)
theorem okT (a:Addr) (w:World) (R:Post) (h:ld4_0 w (a.add 6) fun b c d e=>newV [] w fun f g=>
 loc [f] g fun i=>L0T a f b c d e i R):Calls Tryz.prog n_regex_frame_endItem #[.pointer (some a)] w R:=callsX X [eL0] h
end regex_frame_endItem
namespace regex_frame_endSeq
noncomputable abbrev X:Fx:=⟨Tryz.prog,Tryz.f160,[(1,(.sq [0,1,2,3,4,5,6,7,9] (.fork (.sq [8,10,11,12,14,15] (.fork (ls [13,16]) (ls [16,13]))) (.sq [10,8,11,12,14,15] (.fork (ls [13,16]) (ls [16,13]))))))],[]⟩
abbrev P0:Ps:=[(0,.v [.r])]
abbrev S0 (a:Addr) (w:World) (R:Post):Prop:=
 stV w (a.add 4) (.slice none 0 0) fun b=>
 R (.returned (.tuple #[])) b
noncomputable def eS0:=entS X [] (pth [2]) P0 S0
theorem ok (d:Addr) (w:World) (R:Post) (h:ca4 n_regex_frame_endItem #[.pointer (some d)] w fun w1=>drV w1 fun x=>∃c:Sl,x.cell? (d.add 3)=some (c.v)∧
 ∃o:Sl,x.cell? (d.add 4)=some (o.v)∧
 ((ca2 n_regex_one #[.i 3,o.v] x fun p q r s z=>z.cell? (d.add 3)=some (c.v)∧nwV z (.cells #[.i 0,.int .u8 0,.int .u8 0,.slice none 0 0] ty_regex_Regex) fun w4=>
 w4.cell? (d.add 3)=some (c.v)∧∃(m:Sl) (w5:World),Sem.run Tryz.prog (Builtin.append_ #[ty_sl_regex_Regex,ty_sl_regex_Regex] ty_sl_regex_Regex #[c.v,.slice (some (nb z)) 1 1]) w4=.ok (m.v) w5∧(0:Int)≤((c.n:Nat):Int)∧((c.n:Nat):Int)<((m.n:Nat):Int)∧optP m.a fun f=>((stW4 w5 (f.add (Int.toNat ((c.n:Nat):Int) *4)) (.i p) (.int .u8 q) (.int .u8 r) (s.v) fun w9=>stV w9 (d.add 3) (m.v) fun ab=>
 S0 d ab R)∧(stV w5 (d.add 3) (m.v) fun ac=>
 stV ac (f.add (Int.toNat ((c.n:Nat):Int) *4)) (.i p) fun ad=>
 stV ad ((f.add (Int.toNat ((c.n:Nat):Int) *4)).add 1) (.int .u8 q) fun ae=>
 stV ae ((f.add (Int.toNat ((c.n:Nat):Int) *4)).add 2) (.int .u8 r) fun af=>
 stV af ((f.add (Int.toNat ((c.n:Nat):Int) *4)).add 3) (s.v) fun ag=>
 S0 d ag R)))∧(nwV x (.cells #[.i 0,.int .u8 0,.int .u8 0,.slice none 0 0] ty_regex_Regex) fun t=>
 t.cell? (d.add 4)=some (o.v)∧t.cell? (d.add 3)=some (c.v)∧ca2 n_regex_one #[.i 3,o.v] t fun g j k l y=>y.cell? (d.add 3)=some (c.v)∧∃(e:Sl) (u:World),Sem.run Tryz.prog (Builtin.append_ #[ty_sl_regex_Regex,ty_sl_regex_Regex] ty_sl_regex_Regex #[c.v,.slice (some (nb x)) 1 1]) y=.ok (e.v) u∧(0:Int)≤((c.n:Nat):Int)∧((c.n:Nat):Int)<((e.n:Nat):Int)∧optP e.a fun b=>((stW4 u (b.add (Int.toNat ((c.n:Nat):Int) *4)) (.i g) (.int .u8 j) (.int .u8 k) (l.v) fun ah=>stV ah (d.add 3) (e.v) fun ai=>
 S0 d ai R)∧(stV u (d.add 3) (e.v) fun aj=>
 stV aj (b.add (Int.toNat ((c.n:Nat):Int) *4)) (.i g) fun ak=>
 stV ak ((b.add (Int.toNat ((c.n:Nat):Int) *4)).add 1) (.int .u8 j) fun al=>
 stV al ((b.add (Int.toNat ((c.n:Nat):Int) *4)).add 2) (.int .u8 k) fun am=>
 stV am ((b.add (Int.toNat ((c.n:Nat):Int) *4)).add 3) (l.v) fun an=>
 S0 d an R))))):Calls Tryz.prog n_regex_frame_endSeq #[.pointer (some d)] w R:=callsX X [eS0] h
end regex_frame_endSeq
namespace regex_frame_endConj
noncomputable abbrev X:Fx:=⟨Tryz.prog,Tryz.f161,[(1,(.sq [0,1,2,3,4,5,6,7,9] (.fork (.sq [8,10,11,12,14,15] (.fork (ls [13,16]) (ls [16,13]))) (.sq [10,8,11,12,14,15] (.fork (ls [13,16]) (ls [16,13]))))))],[]⟩
abbrev P0:Ps:=[(0,.v [.r])]
abbrev S0 (a:Addr) (w:World) (R:Post):Prop:=
 stV w (a.add 3) (.slice none 0 0) fun b=>
 R (.returned (.tuple #[])) b
noncomputable def eS0:=entS X [] (pth [2]) P0 S0
theorem ok (d:Addr) (w:World) (R:Post) (h:ca4 n_regex_frame_endSeq #[.pointer (some d)] w fun w1=>drV w1 fun x=>∃c:Sl,x.cell? (d.add 2)=some (c.v)∧
 ∃o:Sl,x.cell? (d.add 3)=some (o.v)∧
 ((ca2 n_regex_one #[.i 5,o.v] x fun p q r s z=>z.cell? (d.add 2)=some (c.v)∧nwV z (.cells #[.i 0,.int .u8 0,.int .u8 0,.slice none 0 0] ty_regex_Regex) fun w4=>
 w4.cell? (d.add 2)=some (c.v)∧∃(m:Sl) (w5:World),Sem.run Tryz.prog (Builtin.append_ #[ty_sl_regex_Regex,ty_sl_regex_Regex] ty_sl_regex_Regex #[c.v,.slice (some (nb z)) 1 1]) w4=.ok (m.v) w5∧(0:Int)≤((c.n:Nat):Int)∧((c.n:Nat):Int)<((m.n:Nat):Int)∧optP m.a fun f=>((stW4 w5 (f.add (Int.toNat ((c.n:Nat):Int) *4)) (.i p) (.int .u8 q) (.int .u8 r) (s.v) fun w9=>stV w9 (d.add 2) (m.v) fun ab=>
 S0 d ab R)∧(stV w5 (d.add 2) (m.v) fun ac=>
 stV ac (f.add (Int.toNat ((c.n:Nat):Int) *4)) (.i p) fun ad=>
 stV ad ((f.add (Int.toNat ((c.n:Nat):Int) *4)).add 1) (.int .u8 q) fun ae=>
 stV ae ((f.add (Int.toNat ((c.n:Nat):Int) *4)).add 2) (.int .u8 r) fun af=>
 stV af ((f.add (Int.toNat ((c.n:Nat):Int) *4)).add 3) (s.v) fun ag=>
 S0 d ag R)))∧(nwV x (.cells #[.i 0,.int .u8 0,.int .u8 0,.slice none 0 0] ty_regex_Regex) fun t=>
 t.cell? (d.add 3)=some (o.v)∧t.cell? (d.add 2)=some (c.v)∧ca2 n_regex_one #[.i 5,o.v] t fun g j k l y=>y.cell? (d.add 2)=some (c.v)∧∃(e:Sl) (u:World),Sem.run Tryz.prog (Builtin.append_ #[ty_sl_regex_Regex,ty_sl_regex_Regex] ty_sl_regex_Regex #[c.v,.slice (some (nb x)) 1 1]) y=.ok (e.v) u∧(0:Int)≤((c.n:Nat):Int)∧((c.n:Nat):Int)<((e.n:Nat):Int)∧optP e.a fun b=>((stW4 u (b.add (Int.toNat ((c.n:Nat):Int) *4)) (.i g) (.int .u8 j) (.int .u8 k) (l.v) fun ah=>stV ah (d.add 2) (e.v) fun ai=>
 S0 d ai R)∧(stV u (d.add 2) (e.v) fun aj=>
 stV aj (b.add (Int.toNat ((c.n:Nat):Int) *4)) (.i g) fun ak=>
 stV ak ((b.add (Int.toNat ((c.n:Nat):Int) *4)).add 1) (.int .u8 j) fun al=>
 stV al ((b.add (Int.toNat ((c.n:Nat):Int) *4)).add 2) (.int .u8 k) fun am=>
 stV am ((b.add (Int.toNat ((c.n:Nat):Int) *4)).add 3) (l.v) fun an=>
 S0 d an R))))):Calls Tryz.prog n_regex_frame_endConj #[.pointer (some d)] w R:=callsX X [eS0] h
end regex_frame_endConj
namespace regex_frame_endExpr
noncomputable abbrev X:Fx:=⟨Tryz.prog,Tryz.f145,[],[2,3]⟩
theorem okT (b:Addr) (w:World) (R:Post) (h:newV [] w fun a o=>
 cf4 [a] n_regex_frame_endConj #[.pointer (some b)] o fun l=>∃j:Sl,l.cell? (b.add 2)=some (j.v)∧
 cf2 [a] n_regex_one #[.i 4,j.v] l fun c d e f p=>newV [a] p fun g q=>
 loc [a,g] q fun m=>stV m (b.add 2) (.slice none 0 0) fun n=>kept [a,g] m n∧
 loc [a,g] n fun k=>R (.returned (.agg #[.i c,.int .u8 d,.int .u8 e,f.v])) k):Calls Tryz.prog n_regex_frame_endExpr #[.pointer (some b)] w R:=callsX X [] h
end regex_frame_endExpr
namespace regex_reader_top
noncomputable abbrev X:Fx:=⟨Tryz.prog,Tryz.f144,[(1,ls [0,1,2,3,4,5,6,7,8,9,10,11])],[]⟩
theorem ok (d:Addr) (w:World) (R:Post) (h:drV w fun f=>∃e:Sl,f.cell? (d.add 0)=some (e.v)∧
 ∃b:Sl,f.cell? (d.add 0)=some (b.v)∧
 (0:Int)≤(IntKind.wrap .i64 (((b.n:Nat):Int) - 1))∧(IntKind.wrap .i64 (((b.n:Nat):Int) - 1))<((e.n:Nat):Int)∧optP e.a fun c=>R (.returned (.pointer (some (c.add (Int.toNat (IntKind.wrap .i64 (((b.n:Nat):Int) - 1)) *10))))) f):Calls Tryz.prog n_regex_reader_top #[.pointer (some d)] w R:=callsX X [] h
end regex_reader_top
namespace regex_reader_push
noncomputable abbrev X:Fx:=⟨Tryz.prog,Tryz.f157,[],[]⟩
theorem ok (c:Addr) (b a:Int) (w:World) (R:Post) (h:∃d:Sl,w.cell? (c.add 0)=some (d.v)∧
 nwV w (.cells #[.i b,.slice none 0 0,.slice none 0 0,.slice none 0 0,.slice none 0 0,.i 0,.i 0,.int .u8 0,.int .u8 0,.slice none 0 0] ty_regex_frame) fun g=>
 ∃(e:Sl) (f:World),Sem.run Tryz.prog (Builtin.append_ #[ty_sl_regex_frame,ty_sl_regex_frame] ty_sl_regex_frame #[d.v,.slice (some (nb w)) 1 1]) g=.ok (e.v) f∧stV f (c.add 0) (e.v) fun j=>
 stV j (c.add 1) (.i a) fun k=>
 R (.returned (.bool true)) k):Calls Tryz.prog n_regex_reader_push #[.pointer (some c),.i b,.i a] w R:=callsX X [] h
end regex_reader_push
namespace regex_reader_atom
noncomputable abbrev X:Fx:=⟨Tryz.prog,Tryz.f186,[(1,ls [0,2,1,3,4,5])],[3]⟩
theorem okT (g:Addr) (c d e:Int) (f:Sl) (w:World) (R:Post) (h:newV [] w fun b q=>
 loc [b] q fun r=>cf9 [b] n_regex_reader_top #[.pointer (some g)] r fun p n=>optP p fun a=>stV n (a.add 6) (.i c) fun j=>kept [b] n j∧
 stV j ((a.add 6).add 1) (.int .u8 d) fun k=>kept [b] j k∧
 stV k ((a.add 6).add 2) (.int .u8 e) fun l=>kept [b] k l∧
 stV l ((a.add 6).add 3) (f.v) fun m=>kept [b] l m∧
 stV m (g.add 1) (.i 3) fun o=>kept [b] m o∧
 R (.returned (.bool true)) o):Calls Tryz.prog n_regex_reader_atom #[.pointer (some g),.agg #[.i c,.int .u8 d,.int .u8 e,f.v]] w R:=callsX X [] h
end regex_reader_atom
namespace regex_reader_close
noncomputable abbrev X:Fx:=⟨Tryz.prog,Tryz.f158,[(2,ls [0,1,2,3,4,5,6,7,8,9,10,11,12,13,14])],[]⟩
theorem ok (e:Addr) (b:Sl) (w:World) (R:Post) (h:ca9 n_regex_reader_top #[.pointer (some e)] w fun x u=>optP x fun p=>∃g:Int,u.cell? (p.add 0)=some (.i g)∧
 drV u fun q=>∃d:Sl,q.cell? (e.add 0)=some (d.v)∧
 ∃f:Sl,q.cell? (e.add 0)=some (f.v)∧
 (0:Int)≤(IntKind.wrap .i64 (((f.n:Nat):Int) - 1))∧(IntKind.wrap .i64 (((f.n:Nat):Int) - 1))≤((d.c:Nat):Int)∧stV q (e.add 0) (.slice (if d.c=0 then d.a else d.a.map (·.add (0 *10))) ((Int.toNat (IntKind.wrap .i64 (((f.n:Nat):Int) - 1))) - 0) (d.c - 0)) fun r=>
 sel (decide (g<0)) ((0:Int)≤0∧0<((b.n:Nat):Int)∧optP b.a fun j=>ld4_0 r (j.add (Int.toNat 0 *4)) fun k l m o=>ca0 n_regex_reader_atom #[.pointer (some e),.agg #[.i k,.int .u8 l,.int .u8 m,o.v]] r fun s y=>R (.returned (.bool s)) y) (ca0 n_regex_reader_atom #[.pointer (some e),.agg #[.i g,.int .u8 0,.int .u8 0,b.v]] r fun t z=>R (.returned (.bool t)) z)):Calls Tryz.prog n_regex_reader_close #[.pointer (some e),b.v] w R:=callsX X [] h
end regex_reader_close
namespace regex_reader_item
noncomputable abbrev X:Fx:=⟨Tryz.prog,Tryz.f159,[],[3]⟩
abbrev P0:Ps:=[]
abbrev S0T (w:World) (R:Post):Prop:=
 R (.returned (.bool true)) w
noncomputable def eS0:=entS X [] (pth [2,1,7,1,1,1,1]) P0 S0T
theorem okT (c:Addr) (d g j:Int) (a:ByteArray) (r:Int) (w:World) (R:Post) (h:newV [] w fun b f=>
 sel (d==33) (cf9 [b] n_regex_reader_top #[.pointer (some c)] f fun m s=>optP m fun k=>∃n:Int,s.cell? (k.add 5)=some (.i n)∧
 optP m fun l=>stV s (l.add 5) (.i (IntKind.wrap .i64 (n+1))) fun t=>kept [b] s t∧
 stV t (c.add 1) (.i 0) fun z=>kept [b] t z∧
 R (.returned (.bool true)) z) (sel (d==40) (cf0 [b] n_regex_reader_push #[.pointer (some c),.i (-1),.i 0] f fun u w5=>R (.returned (.bool u)) w5) (sel (d==114) (cf0 [b] n_regex_reader_atom #[.pointer (some c),.agg #[.i 2,.int .u8 g,.int .u8 j,.slice none 0 0]] f fun v w6=>R (.returned (.bool v)) w6) (sel (d==119) (stV f (c.add 1) (.i 2) fun e=>kept [b] f e∧
 sel (a.toList==(ByteArray.mk #[110,111,110,101]).toList) (cf0 [b] n_regex_reader_atom #[.pointer (some c),.agg #[.i 0,.int .u8 0,.int .u8 0,.slice none 0 0]] e fun x w8=>R (.returned (.bool x)) w8) (sel (a.toList==(ByteArray.mk #[101,109,112,116,121]).toList) (cf0 [b] n_regex_reader_atom #[.pointer (some c),.agg #[.i 1,.int .u8 0,.int .u8 0,.slice none 0 0]] e fun y w9=>R (.returned (.bool y)) w9) (sel (a.toList==(ByteArray.mk #[97,108,116]).toList) (stV e (c.add 2) (.i 4) fun o=>kept [b] e o∧
 S0T o R) (sel (a.toList==(ByteArray.mk #[97,108,108]).toList) (stV e (c.add 2) (.i 5) fun p=>kept [b] e p∧
 S0T p R) (sel (a.toList==(ByteArray.mk #[99,97,116]).toList) (stV e (c.add 2) (.i 3) fun q=>kept [b] e q∧
 S0T q R) (R (.returned (.bool false)) e)))))) (R (.returned (.bool false)) f))))):Calls Tryz.prog n_regex_reader_item #[.pointer (some c),.agg #[.int .u8 d,.int .u8 g,.int .u8 j,.string a,.i r]] w R:=callsX X [eS0] h
end regex_reader_item
namespace regex_reader_feed
noncomputable abbrev X:Fx:=⟨Tryz.prog,Tryz.f143,[(25,(.sq [0,1,2,3,4,6] (.fork (.sq [5,7,8,9,11,12] (.fork (ls [10,13]) (ls [13,10]))) (.sq [7,5,8,9,11,12] (.fork (ls [10,13]) (ls [13,10])))))),(28,ls [0,1,2,3,4,5,6,7,8,9,10,11,12,13,14,15,16,17,18])],[3]⟩
abbrev P0:Ps:=[]
abbrev S0T (w:World) (R:Post):Prop:=
 R (.returned (.bool true)) w
noncomputable def eS0:=entS X [] (pth [4]) P0 S0T
abbrev P1:Ps:=[(0,.v [.r])]
abbrev S1T (a:Addr) (w:World) (R:Post):Prop:=
 stV w (a.add 1) (.i 0) fun b=>
 S0T b R
noncomputable def eS1:=entS X [eS0] (pth [2,1,7,1,1,1,3]) P1 S1T
theorem okT (j:Addr) (e aa ab:Int) (ac:ByteArray) (ad:Int) (w:World) (R:Post) (h:newV [] w fun b w1=>
 cf9 [b] n_regex_reader_top #[.pointer (some j)] w1 fun m g=>∃af:Int,g.cell? (j.add 1)=some (.i af)∧
 sel (af==2) (sel (e==40) (∃cb:Int,g.cell? (j.add 2)=some (.i cb)∧
 cf0 [b] n_regex_reader_push #[.pointer (some j),.i cb,.i 1] g fun cr w3=>R (.returned (.bool cr)) w3) (R (.returned (.bool false)) g)) (sel (af==1) (sel (e==41) (cf0 [b] n_regex_reader_close #[.pointer (some j),.slice none 0 0] g fun cs w4=>R (.returned (.bool cs)) w4) (cf0 [b] n_regex_reader_item #[.pointer (some j),.agg #[.int .u8 e,.int .u8 aa,.int .u8 ab,.string ac,.i ad]] g fun ct w5=>R (.returned (.bool ct)) w5)) (sel (af==0) (cf0 [b] n_regex_reader_item #[.pointer (some j),.agg #[.int .u8 e,.int .u8 aa,.int .u8 ab,.string ac,.i ad]] g fun cu w6=>R (.returned (.bool cu)) w6) (sel (e==42) (optP m fun bu=>ld4_0 g (bu.add 6) fun bv bw bx bz=>nwV g (.cells #[.i bv,.int .u8 bw,.int .u8 bx,bz.v] ty_regex_Regex) fun w7=>
 optP m fun o=>stV w7 (o.add 6) (.i 7) fun w8=>kept [b] w7 w8∧
 stV w8 ((o.add 6).add 1) (.int .u8 0) fun w9=>kept [b] w8 w9∧
 stV w9 ((o.add 6).add 2) (.int .u8 0) fun av=>kept [b] w9 av∧
 stV av ((o.add 6).add 3) (.slice (some (nb g)) 1 1) fun ce=>kept [b] av ce∧
 S0T ce R) (sel (e==38) (cf4 [b] n_regex_frame_endSeq #[.pointer m] g fun cf=>stV cf (j.add 1) (.i 0) fun cg=>kept [b] cf cg∧
 S0T cg R) (sel (e==124) (cf4 [b] n_regex_frame_endConj #[.pointer m] g fun ch=>stV ch (j.add 1) (.i 0) fun ci=>kept [b] ch ci∧
 S0T ci R) (sel (e==44) (optP m fun ca=>∃cc:Int,g.cell? (ca.add 0)=some (.i cc)∧
 sel (decide (cc<0)) (R (.returned (.bool false)) g) (optP m fun l=>loc [b] g fun al=>∃c:Sl,al.cell? (l.add 1)=some (c.v)∧
 ((cf2 [b] n_regex_frame_endExpr #[.pointer m] al fun ag ah ai aj aw=>aw.cell? (l.add 1)=some (c.v)∧nwV aw (.cells #[.i 0,.int .u8 0,.int .u8 0,.slice none 0 0] ty_regex_Regex) fun ax=>
 ax.cell? (l.add 1)=some (c.v)∧∃(ae:Sl) (x:World),Sem.run Tryz.prog (Builtin.append_ #[ty_sl_regex_Regex,ty_sl_regex_Regex] ty_sl_regex_Regex #[c.v,.slice (some (nb aw)) 1 1]) ax=.ok (ae.v) x∧kept [b] ax x∧(0:Int)≤((c.n:Nat):Int)∧((c.n:Nat):Int)<((ae.n:Nat):Int)∧optP ae.a fun f=>optP m fun ak=>((stV x (f.add (Int.toNat ((c.n:Nat):Int) *4)) (.i ag) fun ay=>kept [b] x ay∧
 stV ay ((f.add (Int.toNat ((c.n:Nat):Int) *4)).add 1) (.int .u8 ah) fun az=>kept [b] ay az∧
 stV az ((f.add (Int.toNat ((c.n:Nat):Int) *4)).add 2) (.int .u8 ai) fun bb=>kept [b] az bb∧
 stV bb ((f.add (Int.toNat ((c.n:Nat):Int) *4)).add 3) (aj.v) fun bc=>kept [b] bb bc∧
 stV bc (ak.add 1) (ae.v) fun cj=>kept [b] bc cj∧
 S1T j cj R)∧(stV x (ak.add 1) (ae.v) fun bd=>kept [b] x bd∧
 stV bd (f.add (Int.toNat ((c.n:Nat):Int) *4)) (.i ag) fun be=>kept [b] bd be∧
 stV be ((f.add (Int.toNat ((c.n:Nat):Int) *4)).add 1) (.int .u8 ah) fun bf=>kept [b] be bf∧
 stV bf ((f.add (Int.toNat ((c.n:Nat):Int) *4)).add 2) (.int .u8 ai) fun bg=>kept [b] bf bg∧
 stV bg ((f.add (Int.toNat ((c.n:Nat):Int) *4)).add 3) (aj.v) fun ck=>kept [b] bg ck∧
 S1T j ck R)))∧(nwV al (.cells #[.i 0,.int .u8 0,.int .u8 0,.slice none 0 0] ty_regex_Regex) fun cl=>
 cl.cell? (l.add 1)=some (c.v)∧cf2 [b] n_regex_frame_endExpr #[.pointer m] cl fun q r s t bh=>bh.cell? (l.add 1)=some (c.v)∧∃(k:Sl) (y:World),Sem.run Tryz.prog (Builtin.append_ #[ty_sl_regex_Regex,ty_sl_regex_Regex] ty_sl_regex_Regex #[c.v,.slice (some (nb al)) 1 1]) bh=.ok (k.v) y∧kept [b] bh y∧(0:Int)≤((c.n:Nat):Int)∧((c.n:Nat):Int)<((k.n:Nat):Int)∧optP k.a fun d=>optP m fun u=>((stV y (d.add (Int.toNat ((c.n:Nat):Int) *4)) (.i q) fun bi=>kept [b] y bi∧
 stV bi ((d.add (Int.toNat ((c.n:Nat):Int) *4)).add 1) (.int .u8 r) fun bj=>kept [b] bi bj∧
 stV bj ((d.add (Int.toNat ((c.n:Nat):Int) *4)).add 2) (.int .u8 s) fun bk=>kept [b] bj bk∧
 stV bk ((d.add (Int.toNat ((c.n:Nat):Int) *4)).add 3) (t.v) fun bm=>kept [b] bk bm∧
 stV bm (u.add 1) (k.v) fun cm=>kept [b] bm cm∧
 S1T j cm R)∧(stV y (u.add 1) (k.v) fun bn=>kept [b] y bn∧
 stV bn (d.add (Int.toNat ((c.n:Nat):Int) *4)) (.i q) fun bo=>kept [b] bn bo∧
 stV bo ((d.add (Int.toNat ((c.n:Nat):Int) *4)).add 1) (.int .u8 r) fun bp=>kept [b] bo bp∧
 stV bp ((d.add (Int.toNat ((c.n:Nat):Int) *4)).add 2) (.int .u8 s) fun bq=>kept [b] bp bq∧
 stV bq ((d.add (Int.toNat ((c.n:Nat):Int) *4)).add 3) (t.v) fun cn=>kept [b] bq cn∧
 S1T j cn R)))))) (sel (e==41) (loc [b] g fun am=>∃cd:Sl,am.cell? (j.add 0)=some (cd.v)∧
 sel (decide (((cd.n:Nat):Int)>1)) (optP m fun p=>∃z:Sl,am.cell? (p.add 1)=some (z.v)∧
 cf2 [b] n_regex_frame_endExpr #[.pointer m] am fun an ao ap aq br=>br.cell? (p.add 1)=some (z.v)∧nwV br (.cells #[.i an,.int .u8 ao,.int .u8 ap,aq.v] ty_regex_Regex) fun bs=>
 bs.cell? (p.add 1)=some (z.v)∧∃(ar:Sl) (bt:World),Sem.run Tryz.prog (Builtin.append_ #[ty_sl_regex_Regex,ty_sl_regex_Regex] ty_sl_regex_Regex #[z.v,.slice (some (nb br)) 1 1]) bs=.ok (ar.v) bt∧kept [b] bs bt∧cf0 [b] n_regex_reader_close #[.pointer (some j),ar.v] bt fun co cw=>R (.returned (.bool co)) cw) (R (.returned (.bool false)) am)) (sel (e==36) (∃au:Sl,g.cell? (j.add 0)=some (au.v)∧
 R (.returned (.bool (((au.n:Nat):Int)==1))) g) (cf4 [b] n_regex_frame_endItem #[.pointer m] g fun cx=>cf0 [b] n_regex_reader_item #[.pointer (some j),.agg #[.int .u8 e,.int .u8 aa,.int .u8 ab,.string ac,.i ad]] cx fun cv cy=>R (.returned (.bool cv)) cy)))))))))):Calls Tryz.prog n_regex_reader_feed #[.pointer (some j),.agg #[.int .u8 e,.int .u8 aa,.int .u8 ab,.string ac,.i ad]] w R:=callsX X [eS1,eS0] h
end regex_reader_feed
namespace regex_Parse
noncomputable def C0:Code:=(Tryz.f130.body).getD .skip
noncomputable def C1:=C0.sn
noncomputable def C2:=C1.sn
noncomputable def C3:=C2.sn
noncomputable def C4:=C3.fs
noncomputable def C5:=C4.sn
noncomputable def C6:=C5.fs
noncomputable def C7:=W.Code.asn C6
noncomputable def C8:=W.Code.bdy C6
noncomputable def C9:=C8.fs
noncomputable def C10:=C9.sn
noncomputable def C11:=C10.fs
abbrev Q0 (a:Nat) (b:Loop) (R:Post):Exit→Act→World→Prop:=(roundPost Tryz.prog a R)
abbrev Q1 (b:Nat) (a:Loop) (R:Post):Exit→Act→World→Prop:=(Exit.inBlock 1 (Q0 b a R))
noncomputable def C12:=C11.fs
noncomputable def C13:=C11.sn
abbrev S3 (f:Nat) (b:LoopState→Option Code→Obj) (g j k c:Addr) (w:World) (R:Post):Prop:=
 drV w fun d=>∃a:Int,d.cell? (c.add 4)=some (.i a)∧
 stW4 d g (.i 0) (.int .u8 0) (.int .u8 0) (.slice none 0 0) fun e=>e.cell? (c.add 4)=some (.i a)∧stV e j (.i a) fun l=>
 stV l k (.i 2) fun m=>
 puV m f (b .busy none) (b .done (some .ret)) fun n=>R (.returned (.bool false)) n
def KE_S3 (a:Nat) (b:LoopState→Option Code→Obj) (E:Env) (w:World) (R:Post):Prop:=W.asRef (Env.get? E 2) fun c=>W.asRef (Env.get? E 3) fun d=>W.asRef (Env.get? E 4) fun e=>W.asRef (Env.get? E 6) fun f=>S3 a b c d e f w R
theorem KE_S3_ok (d:Nat) (b:Loop) (R:Post) (E:Env) (w:World) (h:KE_S3 d (lo b) E w R):WP Tryz.prog ⟨32,[],some d⟩ C11 (Q1 d b R) E w:=by
 obtain ⟨t2,hq2,h_1⟩:=W.asRef_elim h
 obtain ⟨t3,hq3,h_2⟩:=W.asRef_elim h_1
 obtain ⟨t4,hq4,h_3⟩:=W.asRef_elim h_2
 obtain ⟨t6,hq6,h_4⟩:=W.asRef_elim h_3
 exact fun a e=>WP.at (n:=⟨32,[],some d⟩) (E:=[(2,.pointer (some t2)),(3,.pointer (some t3)),(4,.pointer (some t4)),(6,.pointer (some t6))]) (WP.seq (c:=C11) (x:=C12) (y:=C13) (by kernel_rfl)<|WP.draw (c:=C12) [0,1,2,3,4,5] (fun E w=>puV w d ((lo b) .busy none) ((lo b) .done (some .ret)) fun i=>R (.returned (.bool false)) i) (by kernel_rfl) (mp h_4) fun _ _ a f g=>(WP.ret (c:=C13) (Q:=(Q1 d b R)) (by kernel_rfl) fun a f=>(show roundPost Tryz.prog d R .ret a _ from round_ret (a:=a) (g).1 (g).2)) a f) (e.cons hq2 (e.cons hq3 (e.cons hq4 (e.cons hq6 e.nil))))
noncomputable def C14:=C9.fs
noncomputable def C15:=C10.sn
abbrev S2 (g:Nat) (f:LoopState→Option Code→Obj) (n o p m k:Addr) (w:World) (R:Post):Prop:=
 ld5_1 w k fun a b c d e=>ca0 n_regex_reader_feed #[.pointer (some m),.agg #[.int .u8 a,.int .u8 b,.int .u8 c,.string d,.i e]] w fun j l=>sel (!j) (S3 g f n o p k l R) (puV l g (f .busy none) (f .ready none) fun q=>R (.returned (.bool true)) q)
def KE_S2 (a:Nat) (b:LoopState→Option Code→Obj) (E:Env) (w:World) (R:Post):Prop:=W.asRef (Env.get? E 2) fun d=>W.asRef (Env.get? E 3) fun e=>W.asRef (Env.get? E 4) fun f=>W.asRef (Env.get? E 5) fun c=>W.asRef (Env.get? E 6) fun g=>S2 a b d e f c g w R
theorem KE_S2_ok (d:Nat) (b:Loop) (R:Post) (E:Env) (w:World) (h:KE_S2 d (lo b) E w R):WP Tryz.prog ⟨32,[],some d⟩ C9 (Q1 d b R) E w:=by
 obtain ⟨t2,hq2,h_1⟩:=W.asRef_elim h
 obtain ⟨t3,hq3,h_2⟩:=W.asRef_elim h_1
 obtain ⟨t4,hq4,h_3⟩:=W.asRef_elim h_2
 obtain ⟨r5,hq5,h_4⟩:=W.asRef_elim h_3
 obtain ⟨t6,hq6,h_5⟩:=W.asRef_elim h_4
 exact fun a f=>WP.at (n:=⟨32,[],some d⟩) (E:=[(2,.pointer (some t2)),(3,.pointer (some t3)),(4,.pointer (some t4)),(5,.pointer (some r5)),(6,.pointer (some t6))]) (WP.seq (c:=C9) (x:=C14) (y:=C10) (by kernel_rfl)<|WP.reg (c:=C14) (fun E w=>condK (Env.val E (.tmp 20)) (KE_S3 d (lo b) E w R) (puV w d ((lo b) .busy none) ((lo b) .ready none) fun i=>R (.returned (.bool true)) i)) (by kernel_rfl) (mp h_5) fun _ _ a g e=>(WP.condK (c:=C10) (x:=C11) (y:=C15) (o:=.tmp 20) (by kernel_rfl) (fun e=>(KE_S3_ok d b R _ _ e)) (fun e=>(WP.skip (c:=C15) (by kernel_rfl) fun a g=>round_end (a:=a) (e).1 (e).2)) e) a g) (f.cons hq2 (f.cons hq3 (f.cons hq4 (f.cons hq5 (f.cons hq6 f.nil)))))
abbrev Q2 (b:Nat) (a:Loop) (R:Post):Exit→Act→World→Prop:=(QAssign Tryz.prog 32 b a C8 (roundPost Tryz.prog b R))
abbrev S1 (g:Nat) (f:LoopState→Option Code→Obj) (k l m j:Addr) (a b c:Int) (d:ByteArray) (e:Int) (w:World) (R:Post):Prop:=
 nwV w (.cells #[.int .u8 0,.int .u8 0,.int .u8 0,.s0,.i 0] ty_regex_token) fun n=>
 stW5 n (nb w) (.int .u8 a) (.int .u8 b) (.int .u8 c) (.string d) (.i e) fun o=>puV o g (f .ready none) (f .busy none) fun p=>S2 g f k l m j (nb w) p R
def KE_S1 (r:Nat) (s:LoopState→Option Code→Obj) (E:Env) (w:World) (R:Post):Prop:=W.asRef (Env.get? E 2) fun u=>W.asRef (Env.get? E 3) fun v=>W.asRef (Env.get? E 4) fun x=>W.asRef (Env.get? E 5) fun t=>W.asAgg (Env.get? E 17) fun a=>W.asCons a fun g b=>W.asInt .u8 (some g) fun m=>W.asCons b fun i c=>W.asInt .u8 (some i) fun n=>W.asCons c fun j d=>W.asInt .u8 (some j) fun o=>W.asCons d fun k e=>W.asStr (some k) fun p=>W.asCons e fun l f=>W.asInt .i64 (some l) fun q=>W.asNil f<|S1 r s u v x t m n o p q w R
theorem KE_S1_ok (d:Nat) (b:Loop) (R:Post) (E:Env) (w:World) (h:KE_S1 d (lo b) E w R):WP Tryz.prog ⟨32,[],some d⟩ C7 (Q2 d b R) E w:=by
 obtain ⟨t2,hq2,h_1⟩:=W.asRef_elim h
 obtain ⟨t3,hq3,h_2⟩:=W.asRef_elim h_1
 obtain ⟨t4,hq4,h_3⟩:=W.asRef_elim h_2
 obtain ⟨r5,hq5,h_4⟩:=W.asRef_elim h_3
 obtain ⟨t17_l0,hq17,h_5⟩:=W.asAgg_elim h_4
 obtain ⟨t17_v0,t17_l1,rfl,h_6⟩:=W.asCons_elim h_5
 obtain ⟨t17_0,ex,h_7⟩:=W.asInt_elim h_6
 obtain rfl:=Option.some.inj ex
 obtain ⟨t17_v1,t17_l2,rfl,h_8⟩:=W.asCons_elim h_7
 obtain ⟨t17_1,ex,h_9⟩:=W.asInt_elim h_8
 obtain rfl:=Option.some.inj ex
 obtain ⟨t17_v2,t17_l3,rfl,h_10⟩:=W.asCons_elim h_9
 obtain ⟨t17_2,ex,h_11⟩:=W.asInt_elim h_10
 obtain rfl:=Option.some.inj ex
 obtain ⟨t17_v3,t17_l4,rfl,h_12⟩:=W.asCons_elim h_11
 obtain ⟨t17_3,ex,h_13⟩:=W.asStr_elim h_12
 obtain rfl:=Option.some.inj ex
 obtain ⟨t17_v4,t17_l5,rfl,h_14⟩:=W.asCons_elim h_13
 obtain ⟨t17_4,ex,h_15⟩:=W.asInt_elim h_14
 obtain rfl:=Option.some.inj ex
 obtain ⟨rfl,h_16⟩:=W.asNil_elim h_15
 exact fun a e=>WP.at (n:=⟨32,[],some d⟩) (E:=[(2,.pointer (some t2)),(3,.pointer (some t3)),(4,.pointer (some t4)),(5,.pointer (some r5)),(17,.agg #[.int .u8 t17_0,.int .u8 t17_1,.int .u8 t17_2,.string t17_3,.i t17_4])]) (WP.reg (c:=C7) (fun E w=>w.heap[d]? =some (lo b .ready none)∧((fun w=>KE_S2 d (lo b) E w R) (w.putObj d (lo b .busy none)))) (by kernel_rfl) (mp h_16) fun _ _ a g f=>⟨(f).1,(WP.block (c:=C8) (x:=C9) (id:=1) (by kernel_rfl) (KE_S2_ok d b R _ _ (f).2)) a g⟩) (e.cons hq2 (e.cons hq3 (e.cons hq4 (e.cons hq5 (e.cons hq17 e.nil)))))
abbrev B_S0 (g:Nat) (i:LoopState→Option Code→Obj) (n:ByteArray) (k l m j f:Addr) (a b c:Int) (d:ByteArray) (e:Int) (w:World) (R:Post):Prop:=
 S1 g i k l m j a b c d e w R
theorem Y_S0 (j:Nat) (b:Loop) (l:ByteArray) (m n o k a:Addr) (c d e:Int) (f:ByteArray) (g:Int) (w:World) (R:Post) (h:B_S0 j (lo b) l m n o k a c d e f g w R):WP Tryz.prog ⟨32,[],some j⟩ C7 (QAssign Tryz.prog 32 j b C8 (roundPost Tryz.prog j R)) (putL [(0,.string l),(2,.pointer (some m)),(3,.pointer (some n)),(4,.pointer (some o)),(5,.pointer (some k)),(16,.func (.func n_regex_tokens_1) #[] #[.pointer (some a)])] [17] [.agg #[.int .u8 c,.int .u8 d,.int .u8 e,.string f,.i g]]) w:=
 (KE_S1_ok j b R _ _ (mp h))
noncomputable def C16:=C3.sn
noncomputable def C17:=C16.sn
noncomputable def C18:=C17.fs
noncomputable def C19:=C18.sn
noncomputable def C20:=C19.fs
noncomputable def C21:=C17.sn
abbrev Q3 (R:Post):ExP:=(Exit.then (wpx Tryz.prog (cx 32) C21 (bodyPostM Fence.wide 0 Tryz.prog Tryz.f130 R)) (bodyPostM Fence.wide 0 Tryz.prog Tryz.f130 R))
noncomputable def C22:=C20.fs
noncomputable def C23:=C20.sn
abbrev S6 (m:Nat) (n:ByteArray) (j k l:Addr) (w:World) (R:Post):Prop:=
 stW4 w j (.i 0) (.int .u8 0) (.int .u8 0) (.slice none 0 0) fun o=>stV o k (.i ((n.size:Nat):Int)) fun p=>
 stV p l (.i 4) fun q=>
 puV q m (.deferred (some [])) (.deferred none) fun a=>ld4_0 a j fun b c d e=>∃f:Int,a.cell? k=some (.i f)∧
 ∃g:Int,a.cell? l=some (.i g)∧
 R (.returned (.tuple #[.agg #[.i b,.int .u8 c,.int .u8 d,e.v],.i f,.i g])) a
def KE_S6 (a:Nat) (E:Env) (w:World) (R:Post):Prop:=W.asStr (Env.get? E 0) fun b=>W.asRef (Env.get? E 2) fun c=>W.asRef (Env.get? E 3) fun d=>W.asRef (Env.get? E 4) fun e=>S6 a b c d e w R
theorem KE_S6_ok (d:Nat) (R:Post) (E:Env) (w:World) (h:KE_S6 d E w R):WP Tryz.prog (marked 32 d) C20 (Q3 R) E w:=by
 obtain ⟨s0,hq0,h_1⟩:=W.asStr_elim h
 obtain ⟨t2,hq2,h_2⟩:=W.asRef_elim h_1
 obtain ⟨t3,hq3,h_3⟩:=W.asRef_elim h_2
 obtain ⟨t4,hq4,h_4⟩:=W.asRef_elim h_3
 exact fun a b=>WP.at (n:=(marked 32 d)) (E:=[(0,.string s0),(2,.pointer (some t2)),(3,.pointer (some t3)),(4,.pointer (some t4))]) (WP.seq (c:=C20) (x:=C22) (y:=C23) (by kernel_rfl)<|WP.reg (c:=C22) (fun E w=>retVCm Tryz.prog Tryz.f130 E w d R) (by kernel_rfl) (mp h_4) fun _ _ a e f=>(WP.ret (c:=C23) (by kernel_rfl) fun a e=>retVCm_sound e f) a e) (b.cons hq0 (b.cons hq2 (b.cons hq3 (b.cons hq4 b.nil))))
abbrev Q4 (R:Post):ExP:=(bodyPostM Fence.wide 0 Tryz.prog Tryz.f130 R)
noncomputable def C24:=C21.fs
noncomputable def C25:=C21.sn
abbrev S7 (q:Nat) (n o p u:Addr) (w:World) (R:Post):Prop:=
 ld4_0 w u fun a b c d=>stW4 w n (.i a) (.int .u8 b) (.int .u8 c) (d.v) fun r=>stV r o (.i 0) fun s=>
 stV s p (.i 0) fun t=>
 puV t q (.deferred (some [])) (.deferred none) fun e=>ld4_0 e n fun f g j k=>∃l:Int,e.cell? o=some (.i l)∧
 ∃m:Int,e.cell? p=some (.i m)∧
 R (.returned (.tuple #[.agg #[.i f,.int .u8 g,.int .u8 j,k.v],.i l,.i m])) e
def KE_S7 (a:Nat) (E:Env) (w:World) (R:Post):Prop:=W.asRef (Env.get? E 2) fun b=>W.asRef (Env.get? E 3) fun c=>W.asRef (Env.get? E 4) fun d=>W.asRef (Env.get? E 7) fun e=>S7 a b c d e w R
theorem KE_S7_ok (d:Nat) (R:Post) (E:Env) (w:World) (h:KE_S7 d E w R):WP Tryz.prog (marked 32 d) C21 (Q4 R) E w:=by
 obtain ⟨t2,hq2,h_1⟩:=W.asRef_elim h
 obtain ⟨t3,hq3,h_2⟩:=W.asRef_elim h_1
 obtain ⟨t4,hq4,h_3⟩:=W.asRef_elim h_2
 obtain ⟨x7,hq7,h_4⟩:=W.asRef_elim h_3
 exact fun a b=>WP.at (n:=(marked 32 d)) (E:=[(2,.pointer (some t2)),(3,.pointer (some t3)),(4,.pointer (some t4)),(7,.pointer (some x7))]) (WP.seq (c:=C21) (x:=C24) (y:=C25) (by kernel_rfl)<|WP.reg (c:=C24) (fun E w=>retVCm Tryz.prog Tryz.f130 E w d R) (by kernel_rfl) (mp h_4) fun _ _ a e f=>(WP.ret (c:=C25) (by kernel_rfl) fun a e=>retVCm_sound e f) a e) (b.cons hq2 (b.cons hq3 (b.cons hq4 (b.cons hq7 b.nil))))
noncomputable def C26:=C18.fs
noncomputable def C27:=C19.sn
abbrev S5 (e:Nat) (n:ByteArray) (f j k m:Addr) (w:World) (R:Post):Prop:=
 ld4_0 w m fun a b c d=>ca0 n_regex_tooLarge #[.agg #[.i a,.int .u8 b,.int .u8 c,d.v]] w fun g l=>sel g (S6 e n f j k l R) (S7 e f j k m l R)
def KE_S5 (a:Nat) (E:Env) (w:World) (R:Post):Prop:=W.asStr (Env.get? E 0) fun b=>W.asRef (Env.get? E 2) fun c=>W.asRef (Env.get? E 3) fun d=>W.asRef (Env.get? E 4) fun e=>W.asRef (Env.get? E 7) fun f=>S5 a b c d e f w R
theorem KE_S5_ok (b:Nat) (R:Post) (E:Env) (w:World) (h:KE_S5 b E w R):WP Tryz.prog (marked 32 b) C18 (Q3 R) E w:=by
 obtain ⟨s0,hq0,h_1⟩:=W.asStr_elim h
 obtain ⟨t2,hq2,h_2⟩:=W.asRef_elim h_1
 obtain ⟨t3,hq3,h_3⟩:=W.asRef_elim h_2
 obtain ⟨t4,hq4,h_4⟩:=W.asRef_elim h_3
 obtain ⟨x7,hq7,h_5⟩:=W.asRef_elim h_4
 exact fun a d=>WP.at (n:=(marked 32 b)) (E:=[(0,.string s0),(2,.pointer (some t2)),(3,.pointer (some t3)),(4,.pointer (some t4)),(7,.pointer (some x7))]) (WP.seq (c:=C18) (x:=C26) (y:=C19) (by kernel_rfl)<|WP.reg (c:=C26) (fun E w=>condK (Env.val E (.tmp 27)) (KE_S6 b E w R) (KE_S7 b E w R)) (by kernel_rfl) (mp h_5) fun _ _ a f e=>(WP.condK (c:=C19) (x:=C20) (y:=C27) (o:=.tmp 27) (by kernel_rfl) (fun e=>(KE_S6_ok b R _ _ e)) (fun e=>(WP.skip (c:=C27) (by kernel_rfl) fun a f=>(KE_S7_ok b R _ _ e) a f)) e) a f) (d.cons hq0 (d.cons hq2 (d.cons hq3 (d.cons hq4 (d.cons hq7 d.nil)))))
noncomputable def C28:=C16.fs
abbrev S4 (g:Nat) (k:ByteArray) (l m n j:Addr) (w:World) (R:Post):Prop:=
 ca9 n_regex_reader_top #[.pointer (some j)] w fun f o=>ca2 n_regex_frame_endExpr #[.pointer f] o fun a b c d e=>nwV e (.cells #[.i 0,.int .u8 0,.int .u8 0,.slice none 0 0] ty_regex_Regex) fun p=>
 stW4 p (nb e) (.i a) (.int .u8 b) (.int .u8 c) (d.v) fun q=>S5 g k l m n (nb e) q R
def KE_S4 (a:Nat) (E:Env) (w:World) (R:Post):Prop:=W.asStr (Env.get? E 0) fun c=>W.asRef (Env.get? E 2) fun d=>W.asRef (Env.get? E 3) fun e=>W.asRef (Env.get? E 4) fun f=>W.asRef (Env.get? E 5) fun b=>S4 a c d e f b w R
theorem KE_S4_ok (d:Nat) (R:Post) (E:Env) (w:World) (h:KE_S4 d E w R):WP Tryz.prog (marked 32 d) C16 (Q4 R) E w:=by
 obtain ⟨s0,hq0,h_1⟩:=W.asStr_elim h
 obtain ⟨t2,hq2,h_2⟩:=W.asRef_elim h_1
 obtain ⟨t3,hq3,h_3⟩:=W.asRef_elim h_2
 obtain ⟨t4,hq4,h_4⟩:=W.asRef_elim h_3
 obtain ⟨r5,hq5,h_5⟩:=W.asRef_elim h_4
 exact fun a b=>WP.at (n:=(marked 32 d)) (E:=[(0,.string s0),(2,.pointer (some t2)),(3,.pointer (some t3)),(4,.pointer (some t4)),(5,.pointer (some r5))]) (WP.seq (c:=C16) (x:=C28) (y:=C17) (by kernel_rfl)<|WP.reg (c:=C28) (fun E w=>KE_S5 d E w R) (by kernel_rfl) (mp h_5) fun _ _ a e f=>(WP.seq (c:=C17) (x:=C18) (y:=C21) (by kernel_rfl) (KE_S5_ok d R _ _ f)) a e) (b.cons hq0 (b.cons hq2 (b.cons hq3 (b.cons hq4 (b.cons hq5 b.nil)))))
abbrev S0 (s0:ByteArray) (q r s r5 a:Addr) (w:World) (R:Post):Prop:=
 ∀g:LoopState→Option Code→Obj,(∀(b c d:Int) (e:ByteArray) (f:Int) (t:World) (u:Bool→World→Prop),t.heap[w.heap.size+1]? =some (g .ready none)→B_S0 (w.heap.size+1) g s0 q r s r5 a b c d e f t (fun p w1=>∃x:Bool,p=.returned (.bool x)∧u x w1)→yieldB Tryz.prog (w.heap.size+1) #[.agg #[.int .u8 b,.int .u8 c,.int .u8 d,.string e,.i f]] t u)→
 Calls Tryz.prog n_regex_tokens_1 #[.func (.yield (w.heap.size+1)) #[] #[],.pointer (some a)] ((w.alloc (.deferred (some []))).alloc (g .ready none)) fun p w2=>(∃v_,p=.returned v_)∧RangeEnd w2 (w.heap.size+1) g (fun j=>S4 w.heap.size s0 q r s r5 j R) (fun ae j=>False) (fun j=>puV j w.heap.size (.deferred (some [])) (.deferred none) fun k=>ld4_0 k q fun l m n o=>∃y:Int,k.cell? r=some (.i y)∧
 ∃z:Int,k.cell? s=some (.i z)∧
 R (.returned (.tuple #[.agg #[.i l,.int .u8 m,.int .u8 n,o.v],.i y,.i z])) k)
abbrev Q5 (R:Post):ExP:=(Exit.then (wpx Tryz.prog (cx 32) C16 (bodyPostM Fence.wide 0 Tryz.prog Tryz.f130 R)) (bodyPostM Fence.wide 0 Tryz.prog Tryz.f130 R))
abbrev Q6 (R:Post):ExP:=(Exit.inBlock 0 (Q5 R))
def KE_S0 (E:Env) (w:World) (R:Post):Prop:=W.asStr (Env.get? E 0) fun g=>W.asRef (Env.get? E 2) fun i=>W.asRef (Env.get? E 3) fun j=>W.asRef (Env.get? E 4) fun k=>W.asRef (Env.get? E 5) fun f=>W.asFunc n_regex_tokens_1 (Env.get? E 16) fun c a=>W.asNil c<|W.asCons a fun d b=>W.asRef (some d) fun e=>W.asNil b<|S0 g i j k f e w R
theorem KE_S0_ok:KOk Tryz.prog 32 KE_S0 C6 Q6:=by
 intro R E w h
 obtain ⟨s0,hq0,h_1⟩:=W.asStr_elim h
 obtain ⟨t2,hq2,h_2⟩:=W.asRef_elim h_1
 obtain ⟨t3,hq3,h_3⟩:=W.asRef_elim h_2
 obtain ⟨t4,hq4,h_4⟩:=W.asRef_elim h_3
 obtain ⟨r5,hq5,h_5⟩:=W.asRef_elim h_4
 obtain ⟨t16_lf0,t16_lc0,hq16,h_6⟩:=W.asFunc_elim h_5
 obtain ⟨rfl,h_7⟩:=W.asNil_elim h_6
 obtain ⟨t16_vc0,t16_lc1,rfl,h_8⟩:=W.asCons_elim h_7
 obtain ⟨t16_c0,ex,h_9⟩:=W.asRef_elim h_8
 obtain rfl:=Option.some.inj ex
 obtain ⟨rfl,h_10⟩:=W.asNil_elim h_9
 exact fun a b=>WP.at (n:=(cx 32)) (E:=[(0,.string s0),(2,.pointer (some t2)),(3,.pointer (some t3)),(4,.pointer (some t4)),(5,.pointer (some r5)),(16,.func (.func n_regex_tokens_1) #[] #[.pointer (some t16_c0)])]) (WP.range (m:=32) (c:=C6) (g:=.tmp 16) (ps:=#[17]) (assign:=C7) (body:=C8) (gf:=n_regex_tokens_1) (lb:=#[.pointer (some t16_c0)]) (fun l=>S4 w.heap.size s0 t2 t3 t4 r5 l R) (fun ae l=>False) (fun l=>puV l w.heap.size (.deferred (some [])) (.deferred none) fun q=>ld4_0 q t2 fun s t u x=>∃r3:Int,q.cell? t3=some (.i r3)∧
 ∃r4:Int,q.cell? t4=some (.i r4)∧
 R (.returned (.tuple #[.agg #[.i s,.int .u8 t,.int .u8 u,x.v],.i r3,.i r4])) q) (by kernel_rfl) rfl (by kernel_rfl)
  (fun l o a r=>(KE_S4_ok w.heap.size R _ _ (mp o)) a r)
  (fun _ _ o=>o.elim)
  (fun l o a r=>retVCm_sound r (mp o))
  (fun p aa=>h_10 (lo p) (fun d e f j k w_ K_ z y=>yield_of (args:=[.agg #[.int .u8 d,.int .u8 e,.int .u8 f,.string j,.i k]]) aa z rfl (by kernel_rfl) (fun _ _ h=>h) (Y_S0 _ p s0 t2 t3 t4 r5 t16_c0 d e f j k w_ _ y)))) (b.cons hq0 (b.cons hq2 (b.cons hq3 (b.cons hq4 (b.cons hq5 (b.cons hq16 b.nil))))))
noncomputable def C29:=C1.fs
noncomputable def C30:=C29.sn
noncomputable def C31:=C30.fs
noncomputable def C32:=C31.sn
noncomputable def C33:=C30.sn
theorem ok (j:ByteArray) (w:World) (R:Post) (h:nwV w (.cells #[.i 0,.int .u8 0,.int .u8 0,.slice none 0 0] ty_regex_Regex) fun m=>
 nwV m (.cells #[.i 0] ty_int) fun n=>
 nwV n (.cells #[.i 0] ty_api_Errno) fun u=>
 sel (decide (((j.size:Nat):Int)>4096)) (stW4 u (nb w) (.i 0) (.int .u8 0) (.int .u8 0) (.slice none 0 0) fun w7=>stV w7 (nb m) (.i 4096) fun w8=>
 stV w8 (nb n) (.i 4) fun o=>
 ld4_0 o (nb w) fun q r s t=>∃x:Int,o.cell? (nb m)=some (.i x)∧
 ∃y:Int,o.cell? (nb n)=some (.i y)∧
 R (.returned (.tuple #[.agg #[.i q,.int .u8 r,.int .u8 s,t.v],.i x,.i y])) o) (nwV u (.cells #[.i (-1),.slice none 0 0,.slice none 0 0,.slice none 0 0,.slice none 0 0,.i 0,.i 0,.int .u8 0,.int .u8 0,.slice none 0 0] ty_regex_frame) fun l=>
 nwV l (.cells #[.slice none 0 0,.i 0,.i 0] ty_regex_reader) fun aa=>
 stW3 aa (nb l) (.slice (some (nb u)) 1 1) (.i 0) (.i 0) fun ab=>ca10 n_regex_tokens #[.string j] ab fun z ac=>W.asFunc n_regex_tokens_1 (some z) fun f d=>W.asNil f<|W.asCons d fun g e=>W.asRef (some g) fun k=>W.asNil e<|S0 j (nb w) (nb m) (nb n) (nb l) k ac R)):Calls Tryz.prog n_regex_Parse #[.string j] w R:=
 calls_of_WPM (R:=R) (fn:=Tryz.f130) (c:=C0) (args:=[.string j]) (by kernel_rfl) (by kernel_rfl) (by kernel_rfl) (sr C0 (show (fun (E:Env) (w:World)=>srK Tryz.prog C0 (fun E w=>srK Tryz.prog C29 (fun E w=>condK (Env.val E (.tmp 10)) (srK Tryz.prog C31 (fun E w=>retVC Tryz.prog Tryz.f130 E w (fun v=>R (.returned v) w)) E w) (srK Tryz.prog C2 (fun E w=>srK Tryz.prog C4 (fun E w=>KE_S0 E w R) E w) E w)) E w) E w) (envOf 0 [.string j]) w from mp h) fun _ _ b=>(sq C1 (sr C29 b fun _ _ b=>(cn C30 b (fun b=>(sr C31 b fun _ _ b=>(rt C32 fun a p=>retM_sound p b))) (fun b=>(sk C33 fun a p=>nx p (sr C2 b fun _ _ b=>(sq C3 (sr C4 b fun _ _ b=>(bk C5 0 (by kernel_rfl) (KE_S0_ok R _ _ b)))))))))))
end regex_Parse
end Go.Proofs.YtcifihepfadgfaaGreatDoor
set_option linter.unusedVariables false
set_option maxRecDepth 100000
set_option maxHeartbeats 2000000
namespace Go.Proofs.YtcifihepfadgfaaGreatDoor
open Go Go.W
namespace regex_byteText
noncomputable abbrev X:Fx:=⟨Tryz.prog,Tryz.f196,[(3,ls [0,1,2,3,4,5,6,7,8])],[]⟩
theorem ok (a:Int) (w:World) (R:Post) (h:ca0 n_regex_plain #[.int .u8 a] w fun k e=>sel k (nwV e (.cells #[.int .u8 39,.int .u8 a,.int .u8 39] ty_uint8) fun f=>
 ∃i:ByteArray,Sem.run Tryz.prog (Go.convert ty_sl_uint8 ty_string (.slice (some (nb e)) 3 3)) f=.ok (.string i) f∧R (.returned (.string i)) f) (drV e fun j=>(0:Int)≤(Int.fdiv a (2^(4)))∧∃b:UInt8,(ByteArray.mk #[48,49,50,51,52,53,54,55,56,57,97,98,99,100,101,102])[Int.toNat (Int.fdiv a (2^(4)))]? =some b∧(0:Int)≤(bAnd .u8 a 15)∧∃c:UInt8,(ByteArray.mk #[48,49,50,51,52,53,54,55,56,57,97,98,99,100,101,102])[Int.toNat (bAnd .u8 a 15)]? =some c∧nwV j (.cells #[.int .u8 92,.int .u8 120,.int .u8 ((b.toNat:Nat):Int),.int .u8 ((c.toNat:Nat):Int)] ty_uint8) fun g=>
 ∃d:ByteArray,Sem.run Tryz.prog (Go.convert ty_sl_uint8 ty_string (.slice (some (nb j)) 4 4)) g=.ok (.string d) g∧R (.returned (.string d)) g)):Calls Tryz.prog n_regex_byteText #[.int .u8 a] w R:=callsX X [] h
end regex_byteText
namespace regex_text
noncomputable abbrev X:Fx:=⟨Tryz.prog,Tryz.f151,[],[2]⟩
theorem okT (c d e:Int) (f:Sl) (b:Int) (w:World) (R:Post) (h:newV [] w fun k l=>
 cf24 [k] n_regex_bare #[.agg #[.i c,.int .u8 d,.int .u8 e,f.v]] l fun a g j=>sel (decide (g<b)) (¬((((ByteArray.mk #[40]).size+a.size:Nat):Int)>IntKind.i64.max)∧¬(((((ByteArray.mk #[40])++a).size+(ByteArray.mk #[41]).size:Nat):Int)>IntKind.i64.max)∧R (.returned (.string (((ByteArray.mk #[40])++a)++(ByteArray.mk #[41])))) j) (R (.returned (.string a)) j)):Calls Tryz.prog n_regex_text #[.agg #[.i c,.int .u8 d,.int .u8 e,f.v],.i b] w R:=callsX X [] h
end regex_text
namespace regex_bare
noncomputable abbrev X:Fx:=⟨Tryz.prog,Tryz.f179,[(9,ls [0,1,5,6,2,3,4,7,8,9,10,11])],[1,9]⟩
abbrev P0:Ps:=[(1,.l [.I,.Y,.Y,.s] ty_regex_Regex),(5,.v [.st]),(6,.v [.I]),(7,.v [.st]),(79,.v [.s]),(80,.v [.I]),(81,.v [.I])]
def L2T (k:Nat) (c d e:Int) (f:Sl) (b:ByteArray) (a:Int) (l:ByteArray) (g:Sl) (i j:Int) (w:World) (R:Post):Prop:=mkCur P0 0 (X.Sem (pth [0,1,1,1,7])) k c d e f b a l g i j w R
noncomputable def eL2:=entL X (pth [0,1,1,1,7]) P0 L2T
abbrev P1:Ps:=[(1,.l [.I,.Y,.Y,.s] ty_regex_Regex),(5,.v [.st]),(6,.v [.I]),(7,.v [.st]),(10,.v [.st]),(79,.v [.s]),(80,.v [.I]),(81,.v [.I])]
abbrev S3T (m:Nat) (d e f:Int) (g:Sl) (b:ByteArray) (a:Int) (i c:ByteArray) (j:Sl) (k l:Int) (w:World) (R:Post):Prop:=
 ¬(((i.size+c.size:Nat):Int)>IntKind.i64.max)∧L2T m d e f g b a (i++c) j k (IntKind.wrap .i64 (l+1)) w R
noncomputable def eS3:=entS X [eL2] (pth [3,2,2,2,1,1,7]) P1 S3T
theorem L2T_step:∀(m:Nat) (e f g:Int) (j:Sl) (b:ByteArray) (c:Int) (l:ByteArray) (k:Sl) (o d:Int) (w:World) (R:Post) (h:sel (decide (d<o)) ((0:Int)≤d∧d<((k.n:Nat):Int)∧optP k.a fun t=>ld4_0 w (t.add (Int.toNat d *4)) fun u x y z=>newV [m] w fun s w2=>
 loc [m,s] w2 fun w6=>cf15 [m,s] n_regex_text #[.agg #[.i u,.int .u8 x,.int .u8 y,z.v],.i (IntKind.wrap .i64 (c+1))] w6 fun p w7=>sel (decide (d>0)) (¬(((l.size+b.size:Nat):Int)>IntKind.i64.max)∧sel (e==3) ((0:Int)≤(IntKind.wrap .i64 ((((l++b).size:Nat):Int) - 1))∧∃q:UInt8,(l++b)[Int.toNat (IntKind.wrap .i64 ((((l++b).size:Nat):Int) - 1))]? =some q∧cf0 [m,s] n_regex_small #[.int .u8 ((q.toNat:Nat):Int)] w7 fun aa w8=>sel aa ((0:Int)≤0∧∃r:UInt8,p[Int.toNat 0]? =some r∧cf0 [m,s] n_regex_small #[.int .u8 ((r.toNat:Nat):Int)] w8 fun ab w9=>sel ab (¬((((l++b).size+(ByteArray.mk #[32]).size:Nat):Int)>IntKind.i64.max)∧S3T m e f g j b c ((l++b)++(ByteArray.mk #[32])) p k o d w9 R) (S3T m e f g j b c (l++b) p k o d w9 R)) (S3T m e f g j b c (l++b) p k o d w8 R)) (S3T m e f g j b c (l++b) p k o d w7 R)) (S3T m e f g j b c l p k o d w7 R)) (R (.returned (.tuple #[.string l,.i c])) w)),L2T m e f g j b c l k o d w R:=mp (stepL (X:=X) [eS3,eL2] (pth [0,1,1,1,7]) P0)
abbrev P2:Ps:=[(1,.l [.I,.Y,.Y,.s] ty_regex_Regex),(4,.v [.st]),(5,.v [.st]),(6,.v [.I])]
abbrev S1T (r:Nat) (o p q:Int) (c:Sl) (b f:ByteArray) (d:Int) (w:World) (R:Post):Prop:=
 sel (((c.n:Nat):Int)==0) (¬(((b.size+(ByteArray.mk #[40,41]).size:Nat):Int)>IntKind.i64.max)∧R (.returned (.tuple #[.string (b++(ByteArray.mk #[40,41])),.i 4])) w) (sel (((c.n:Nat):Int)==1) (¬(((b.size+(ByteArray.mk #[40]).size:Nat):Int)>IntKind.i64.max)∧(0:Int)≤0∧0<((c.n:Nat):Int)∧optP c.a fun g=>ld4_0 w (g.add (Int.toNat 0 *4)) fun j k l m=>cf15 [r] n_regex_text #[.agg #[.i j,.int .u8 k,.int .u8 l,m.v],.i 0] w fun e s=>¬((((b++(ByteArray.mk #[40])).size+e.size:Nat):Int)>IntKind.i64.max)∧¬(((((b++(ByteArray.mk #[40]))++e).size+(ByteArray.mk #[41]).size:Nat):Int)>IntKind.i64.max)∧R (.returned (.tuple #[.string (((b++(ByteArray.mk #[40]))++e)++(ByteArray.mk #[41])),.i 4])) s) (L2T r o p q c f d (ByteArray.mk #[]) c ((c.n:Nat):Int) 0 w R))
noncomputable def eS1:=entS X [eS3,eL2] (pth [4]) P2 S1T
abbrev S0T (i:Nat) (a b c:Int) (d:Sl) (g f:ByteArray) (e:Int) (w:World) (R:Post):Prop:=
 sel (a==4) (S1T i a b c d (ByteArray.mk #[97,108,116]) (ByteArray.mk #[124]) 0 w R) (sel (a==5) (S1T i a b c d (ByteArray.mk #[97,108,108]) (ByteArray.mk #[38]) 1 w R) (S1T i a b c d g f e w R))
noncomputable def eS0:=entS X [eS1,eS3,eL2] (pth [3]) P2 S0T
theorem okT (b d e:Int) (c:Sl) (w:World) (R:Post) (h:newV [] w fun j f=>
 sel (b==0) (R (.returned (.tuple #[.string (ByteArray.mk #[110,111,110,101]),.i 4])) f) (sel (b==1) (R (.returned (.tuple #[.string (ByteArray.mk #[101,109,112,116,121]),.i 4])) f) (sel (b==2) (sel (d==e) (cf15 [j] n_regex_byteText #[.int .u8 d] f fun aa w2=>R (.returned (.tuple #[.string aa,.i 4])) w2) (loc [j] f fun w3=>cf15 [j] n_regex_byteText #[.int .u8 d] w3 fun g w4=>¬((((ByteArray.mk #[91]).size+g.size:Nat):Int)>IntKind.i64.max)∧¬(((((ByteArray.mk #[91])++g).size+(ByteArray.mk #[45]).size:Nat):Int)>IntKind.i64.max)∧cf15 [j] n_regex_byteText #[.int .u8 e] w4 fun k w5=>¬((((((ByteArray.mk #[91])++g)++(ByteArray.mk #[45])).size+k.size:Nat):Int)>IntKind.i64.max)∧¬(((((((ByteArray.mk #[91])++g)++(ByteArray.mk #[45]))++k).size+(ByteArray.mk #[93]).size:Nat):Int)>IntKind.i64.max)∧R (.returned (.tuple #[.string (((((ByteArray.mk #[91])++g)++(ByteArray.mk #[45]))++k)++(ByteArray.mk #[93])),.i 4])) w5)) (sel (b==6) ((0:Int)≤0∧0<((c.n:Nat):Int)∧optP c.a fun l=>ld4_0 f (l.add (Int.toNat 0 *4)) fun m o p q=>cf15 [j] n_regex_text #[.agg #[.i m,.int .u8 o,.int .u8 p,q.v],.i 3] f fun y w6=>¬((((ByteArray.mk #[33]).size+y.size:Nat):Int)>IntKind.i64.max)∧R (.returned (.tuple #[.string ((ByteArray.mk #[33])++y),.i 3])) w6) (sel (b==7) ((0:Int)≤0∧0<((c.n:Nat):Int)∧optP c.a fun r=>ld4_0 f (r.add (Int.toNat 0 *4)) fun s t u x=>cf15 [j] n_regex_text #[.agg #[.i s,.int .u8 t,.int .u8 u,x.v],.i 4] f fun z w7=>¬(((z.size+(ByteArray.mk #[42]).size:Nat):Int)>IntKind.i64.max)∧R (.returned (.tuple #[.string (z++(ByteArray.mk #[42])),.i 4])) w7) (S0T j b d e c (ByteArray.mk #[99,97,116]) (ByteArray.mk #[]) 2 f R)))))):Calls Tryz.prog n_regex_bare #[.agg #[.i b,.int .u8 d,.int .u8 e,c.v]] w R:=callsX X [eS0,eS1,eS3,eL2] h
end regex_bare
namespace regex_Print
noncomputable abbrev X:Fx:=⟨Tryz.prog,Tryz.f132,[],[1]⟩
theorem okT (a b c:Int) (d:Sl) (w:World) (R:Post) (h:newV [] w fun e k=>
 cf1 [e] n_regex_Valid #[.agg #[.i a,.int .u8 b,.int .u8 c,d.v]] k fun g j=>sel (g !=0) (R (.returned (.tuple #[.s0,.i g])) j) (cf15 [e] n_regex_text #[.agg #[.i a,.int .u8 b,.int .u8 c,d.v],.i 0] j fun f l=>R (.returned (.tuple #[.string f,.i 0])) l)):Calls Tryz.prog n_regex_Print #[.agg #[.i a,.int .u8 b,.int .u8 c,d.v]] w R:=callsX X [] h
end regex_Print
namespace term_isNormal
noncomputable abbrev X:Fx:=⟨Tryz.prog,Tryz.f117,[],[3,6]⟩
theorem okT (s:ByteArray) (w:World) (R:Post) (h:ca16 n_regex_Parse #[.string s] w fun b c d e y m z=>newV [] z fun a u=>
 sel (m !=0) (loc [a] u fun t=>R (.returned (.bool false)) t) (loc [a] u fun t=>cf11 [a] n_regex_Normal #[.agg #[.i b,.int .u8 c,.int .u8 d,e.v]] t fun f g j k n w7=>newV [a] w7 fun r x=>
 sel (n !=0) (loc [a,r] x fun l=>R (.returned (.bool false)) l) (loc [a,r] x fun l=>cf24 [a,r] n_regex_Print #[.agg #[.i f,.int .u8 g,.int .u8 j,k.v]] l fun o p q=>sel (p==0) (R (.returned (.bool (o.toList==s.toList))) q) (R (.returned (.bool false)) q)))):Calls Tryz.prog n_term_isNormal #[.string s] w R:=callsX X [] h
end term_isNormal
end Go.Proofs.YtcifihepfadgfaaGreatDoor
set_option linter.unusedVariables false
set_option maxRecDepth 100000
set_option maxHeartbeats 2000000
namespace Go.Proofs.YtcifihepfadgfaaGreatDoor
open Go Go.W
namespace enthymemelaw07_lives
noncomputable abbrev X:Fx:=⟨Tryz.prog,Tryz.f18,[],[1,4,7,10,12]⟩
abbrev P0:Ps:=[]
abbrev S0T (w:World) (R:Post):Prop:=
 R (.returned (.bool false)) w
noncomputable def eS0:=entS X [] (pth [0,1,1,1,4]) P0 S0T
theorem okT (w:World) (R:Post) (h:ca22 n_term_Add #[.agg #[.slice none 0 0],.agg #[.i 0,.slice none 0 0,.i 0,.i 0,.u 0,.string (ByteArray.mk #[120]),.i 0,.i 8,.i 0]] w fun k an s w1=>newV [] w1 fun b w2=>
 loc [b] w2 fun w3=>nwV w3 (.cells #[.i 0] ty_int) fun w4=>
 cf22 [b] n_term_Add #[.agg #[k.v],.agg #[.i 4,.slice (some (nb w3)) 1 1,.i 0,.i 0,.u 0,.s0,.i 0,.i 0,.i 0]] w4 fun l t x w5=>newV [b] w5 fun c w6=>
 loc [b,c] w6 fun w7=>nwV w7 (.cells #[.i 0] ty_int) fun w8=>
 cf22 [b,c] n_term_Add #[.agg #[l.v],.agg #[.i 4,.slice (some (nb w7)) 1 1,.i 0,.i 0,.u 0,.s0,.i 0,.i 0,.i 0]] w8 fun e y z w9=>newV [b,c] w9 fun d f=>
 sel (s !=0) (loc [b,c,d] f fun a=>S0T a R) (sel (x !=0) (loc [b,c,d] f fun a=>S0T a R) (sel (z !=0) (loc [b,c,d] f fun a=>S0T a R) (sel (t !=1) (loc [b,c,d] f fun a=>S0T a R) (sel (y !=1) (loc [b,c,d] f fun a=>S0T a R) (sel (((e.n:Nat):Int) !=2) (loc [b,c,d] f fun a=>S0T a R) (loc [b,c,d] f fun a=>nwV a (.cells #[.i 0,.i 1] ty_int) fun ag=>
 cf19 [b,c,d] n_term_SortOf #[.agg #[e.v],.agg #[.i 20,.slice (some (nb a)) 2 2,.i 0,.i 0,.u 0,.s0,.i 0,.i 0,.i 0]] ag fun m o p aa ah=>newV [b,c,d] ah fun g ai=>
 loc [b,c,d,g] ai fun ac=>nwV ac (.cells #[.i 0] ty_int) fun aj=>
 cf19 [b,c,d,g] n_term_SortOf #[.agg #[e.v],.agg #[.i 21,.slice (some (nb ac)) 1 1,.i 8,.i 0,.u 0,.s0,.i 0,.i 0,.i 0]] aj fun ad ae af ab ak=>newV [b,c,d,g] ak fun q r=>
 sel (aa==0) (sel ((m==0)&&((o==16)&&((p==0)&&true))) (loc [b,c,d,g,q] r fun j=>R (.returned (.bool (ab==5))) j) (loc [b,c,d,g,q] r fun j=>R (.returned (.bool false)) j)) (loc [b,c,d,g,q] r fun j=>R (.returned (.bool false)) j)))))))):Calls Tryz.prog n_enthymemelaw07_lives #[] w R:=callsX X [eS0] h
end enthymemelaw07_lives
end Go.Proofs.YtcifihepfadgfaaGreatDoor
set_option linter.unusedVariables false
set_option maxRecDepth 100000
set_option maxHeartbeats 2000000
namespace Go.Proofs.YtcifihepfadgfaaGreatDoor
open Go Go.W
namespace term_Find
noncomputable abbrev X:Fx:=⟨Tryz.prog,Tryz.f17,[],[2,6]⟩
theorem okT (b:Sl) (j:Int) (k:Sl) (l m n:Int) (o:ByteArray) (p q r:Int) (w:World) (R:Post) (h:newV [] w fun a g=>
 nwV g (.cells #[.i j,k.v,.i l,.i m,.u n,.string o,.i p,.i q,.i r] ty_api_Node) fun w2=>
 ld9_3 w2 (nb g) fun s t x y z aa ab ac ad=>cf19 [a] n_term_SortOf #[.agg #[b.v],.agg #[.i s,t.v,.i x,.i y,.u z,.string aa,.i ab,.i ac,.i ad]] w2 fun d e f ae w3=>newV [a] w3 fun c w4=>
 sel (ae !=0) (loc [a,c] w4 fun w7=>R (.returned (.tuple #[.i 0,.bool false])) w7) (loc [a,c] w4 fun w7=>stV w7 ((nb g).add 6) (.i d) fun w8=>kept [a,c] w7 w8∧
 stV w8 (((nb g).add 6).add 1) (.i e) fun w9=>kept [a,c] w8 w9∧
 stV w9 (((nb g).add 6).add 2) (.i f) fun ah=>kept [a,c] w9 ah∧
 cf1 [a,c] n_term_search #[.agg #[b.v],.pointer (some (nb g))] ah fun ag ai=>sel (decide (ag≥0)) (R (.returned (.tuple #[.i ag,.bool true])) ai) (R (.returned (.tuple #[.i 0,.bool false])) ai))):Calls Tryz.prog n_term_Find #[.agg #[b.v],.agg #[.i j,k.v,.i l,.i m,.u n,.string o,.i p,.i q,.i r]] w R:=callsX X [] h
end term_Find
namespace enthymemeref07_Spoilt
noncomputable abbrev X:Fx:=⟨Tryz.prog,Tryz.f11,[(25,ls [0,1,2,3,4,5,6,7]),(7,ls [0,1,2,3,4,5,6,7,8,9])],[3,6]⟩
abbrev P0:Ps:=[(3,.l [.I,.s,.I,.I,.U,.st,.I,.I,.I] ty_api_Node),(6,.l [.I,.s,.I,.I,.U,.st,.I,.I,.I] ty_api_Node)]
abbrev S0T (l:Nat) (a:Int) (b:Sl) (c d e:Int) (f:ByteArray) (g j k:Int) (m:Nat) (n:Int) (o:Sl) (p q r:Int) (s:ByteArray) (t x y:Int) (w:World) (R:Post):Prop:=
 loc [l,m] w fun z=>R (.returned (.agg #[.i a,b.v,.i c,.i d,.u e,.string f,.i g,.i j,.i k])) z
noncomputable def eS0:=entS X [] (pth [4]) P0 S0T
abbrev P1:Ps:=[(2,.v [.I]),(3,.l [.I,.s,.I,.I,.U,.st,.I,.I,.I] ty_api_Node),(6,.l [.I,.s,.I,.I,.U,.st,.I,.I,.I] ty_api_Node),(8,.v [.I])]
def L1T (t:Int) (v:Nat) (a:Int) (b:Sl) (c d e:Int) (f:ByteArray) (g i j:Int) (x:Nat) (k:Int) (l:Sl) (m n o:Int) (p:ByteArray) (q r s u:Int) (w:World) (R:Post):Prop:=mkCur P1 0 (X.Sem (pth [0,1,19,1,1,1,3])) t v a b c d e f g i j x k l m n o p q r s u w R
noncomputable def eL1:=entL X (pth [0,1,19,1,1,1,3]) P1 L1T
theorem L1T_step:∀(aa:Int) (y:Nat) (d:Int) (b:Sl) (e f g:Int) (j:ByteArray) (k l m:Int) (z:Nat) (o:Int) (p:Sl) (q r s:Int) (t:ByteArray) (u v x c:Int) (w:World) (R:Post) (h:sel (decide (c<((b.n:Nat):Int))) ((IntKind.wrap .i64 (c+1))≠0∧loc [y,z] w fun af=>cf1 [y,z] n_enthymemeref01_Around #[.i (IntKind.wrap .i64 (Int.tdiv aa (IntKind.wrap .i64 (c+1)))),.i 12] af fun ae ac=>(0:Int)≤c∧c<((b.n:Nat):Int)∧optP b.a fun ab=>stV ac (ab.add (Int.toNat c *1)) (.i ae) fun ad=>kept [y,z] ac ad∧
 L1T aa y d b e f g j k l m z o p q r s t u v x (IntKind.wrap .i64 (c+1)) ad R) (S0T y d b e f g j k l m z o p q r s t u v x w R)),L1T aa y d b e f g j k l m z o p q r s t u v x c w R:=mp (stepL (X:=X) [eL1,eS0] (pth [0,1,19,1,1,1,3]) P1)
theorem okT (c:Int) (s:Sl) (d e f:Int) (g:ByteArray) (j k l r q:Int) (w:World) (R:Post) (h:newV [] w fun a w1=>
 newV [a] w1 fun b w2=>
 nwV w2 (.cells #[] ty_int) fun w3=>
 ∃(m:Sl) (w4:World),Sem.run Tryz.prog (Builtin.append_ #[ty_sl_int,ty_sl_int] ty_sl_int #[.slice (some (nb w2)) 0 0,s.v]) w3=.ok (m.v) w4∧kept [a,b] w3 w4∧loc [a,b] w4 fun w5=>nwV w5 (.cells #[.i q,.i (-1),.i 0,.i 1,.i 63,.i 64,.i 65,.i 1099511627776] ty_int) fun w6=>
 cf1 [a,b] n_enthymemeref01_Around #[.i q,.i 8] w6 fun t w7=>(0:Int)≤t∧t<((8:Nat):Int)∧optP (some (nb w5)) fun z=>∃o:Int,w7.cell? (z.add (Int.toNat t *1))=some (.i o)∧
 cf1 [a,b] n_enthymemeref01_Around #[.i r,.i 10] w7 fun n p=>sel (n==0) (loc [a,b] p fun w9=>S0T a o m d e f g j k l b 0 ⟨none,0,0⟩ 0 0 0 (ByteArray.mk #[]) 0 0 0 w9 R) (sel (n==1) (loc [a,b] p fun ai=>S0T a c m o e f g j k l b 0 ⟨none,0,0⟩ 0 0 0 (ByteArray.mk #[]) 0 0 0 ai R) (sel (n==2) (loc [a,b] p fun aj=>S0T a c m d o f g j k l b 0 ⟨none,0,0⟩ 0 0 0 (ByteArray.mk #[]) 0 0 0 aj R) (sel (n==3) (loc [a,b] p fun ak=>S0T a c m d e (IntKind.wrap .u64 o) g j k l b 0 ⟨none,0,0⟩ 0 0 0 (ByteArray.mk #[]) 0 0 0 ak R) (sel (n==4) (nwV p (.cells #[.s0,.string (ByteArray.mk #[97]),.string (ByteArray.mk #[65]),.string (ByteArray.mk #[115,101,118,101,110,116,101,101,110,45,108,101,116,116,101,114,115]),.string (ByteArray.mk #[97,45,49]),.string (ByteArray.mk #[45]),.string (ByteArray.mk #[40]),.string (ByteArray.mk #[122,122])] ty_string) fun al=>
 cf1 [a,b] n_enthymemeref01_Around #[.i q,.i 8] al fun x ad=>(0:Int)≤x∧x<((8:Nat):Int)∧optP (some (nb p)) fun aa=>∃ab:ByteArray,ad.cell? (aa.add (Int.toNat x *1))=some (.string ab)∧
 loc [a,b] ad fun am=>S0T a c m d e f ab j k l b 0 ⟨none,0,0⟩ 0 0 0 (ByteArray.mk #[]) 0 0 0 am R) (sel (n==5) (loc [a,b] p fun an=>S0T a c m d e f g o k l b 0 ⟨none,0,0⟩ 0 0 0 (ByteArray.mk #[]) 0 0 0 an R) (sel (n==6) (loc [a,b] p fun ao=>S0T a c m d e f g j o l b 0 ⟨none,0,0⟩ 0 0 0 (ByteArray.mk #[]) 0 0 0 ao R) (sel (n==7) (loc [a,b] p fun ap=>S0T a c m d e f g j k o b 0 ⟨none,0,0⟩ 0 0 0 (ByteArray.mk #[]) 0 0 0 ap R) (sel (n==8) (loc [a,b] p fun aq=>cf1 [a,b] n_enthymemeref01_Around #[.i q,.i 9] aq fun ah ae=>nwV ae (.cells #[.i ah] ty_int) fun af=>
 ∃(ac:Sl) (y:World),Sem.run Tryz.prog (Builtin.append_ #[ty_sl_int,ty_sl_int] ty_sl_int #[m.v,.slice (some (nb ae)) 1 1]) af=.ok (ac.v) y∧kept [a,b] af y∧loc [a,b] y fun au=>S0T a c ac d e f g j k l b 0 ⟨none,0,0⟩ 0 0 0 (ByteArray.mk #[]) 0 0 0 au R) (L1T q a c m d e f g j k l b 0 ⟨none,0,0⟩ 0 0 0 (ByteArray.mk #[]) 0 0 0 0 p R)))))))))):Calls Tryz.prog n_enthymemeref07_Spoilt #[.agg #[.i c,s.v,.i d,.i e,.u f,.string g,.i j,.i k,.i l],.i r,.i q] w R:=callsX X [eL1,eS0] h
end enthymemeref07_Spoilt
namespace enthymemeref07_SameGraph
noncomputable abbrev X:Fx:=⟨Tryz.prog,Tryz.f16,[(6,ls [0,1,2,3,4,5,6,7,8,9])],[]⟩
abbrev P0:Ps:=[(0,.v [.s]),(1,.v [.s]),(5,.v [.I])]
def L0 (a b:Sl) (c:Int) (w:World) (R:Post):Prop:=mkCur P0 0 (X.Sem (pth [0,1,1,1,2])) a b c w R
noncomputable def eL0:=entL X (pth [0,1,1,1,2]) P0 L0
theorem L0_step:∀(c d:Sl) (b:Int) (w:World) (R:Post) (h:sel (decide (b<((c.n:Nat):Int))) (drV w fun w1=>(0:Int)≤b∧b<((c.n:Nat):Int)∧optP c.a fun e=>ld9_3 w1 (e.add (Int.toNat b *9)) fun f g j k l m o p q=>(0:Int)≤b∧b<((d.n:Nat):Int)∧optP d.a fun r=>ld9_3 w1 (r.add (Int.toNat b *9)) fun s t x y z aa ab ac ad=>ca0 n_enthymemeref07_Same #[.agg #[.i f,g.v,.i j,.i k,.u l,.string m,.i o,.i p,.i q],.agg #[.i s,t.v,.i x,.i y,.u z,.string aa,.i ab,.i ac,.i ad]] w1 fun af w2=>sel (!af) (R (.returned (.bool false)) w2) (L0 c d (IntKind.wrap .i64 (b+1)) w2 R)) (R (.returned (.bool true)) w)),L0 c d b w R:=mp (stepL (X:=X) [eL0] (pth [0,1,1,1,2]) P0)
theorem ok (a b:Sl) (w:World) (R:Post) (h:sel (((a.n:Nat):Int) !=((b.n:Nat):Int)) (R (.returned (.bool false)) w) (L0 a b 0 w R)):Calls Tryz.prog n_enthymemeref07_SameGraph #[a.v,b.v] w R:=callsX X [eL0] h
end enthymemeref07_SameGraph
end Go.Proofs.YtcifihepfadgfaaGreatDoor
set_option linter.unusedVariables false
set_option maxRecDepth 100000
set_option maxHeartbeats 2000000
namespace Go.Proofs.YtcifihepfadgfaaGreatDoor
open Go Go.W
namespace enthymemelaw07_TermSorts
noncomputable abbrev X:Fx:=⟨Tryz.prog,Tryz.f3,[(7,ls [0,1,2,3,4,5,6,7,9,10,11,12,13,14,8,15,16]),(11,(.sq [0,1,2,3,4] (.fork (ls [5,6,7,8,9,10,11]) (ls [9,5,6,7,8,10,11])))),(13,(.sq [0,1,2,3,4] (.fork (ls [5,6,7,8,9,10,11,12,13]) (ls [10,5,6,7,8,9,11,12,13])))),(17,ls [0,1,2,3,4,5,6,7,8,9,10])],[12,13,14,15,19,21,23]⟩
abbrev P0:Ps:=[(11,.v [.s]),(12,.l [.s] ty_term_Graph),(17,.v [.s]),(18,.v [.I])]
def L0T (c:Sl) (e:Nat) (b a:Sl) (d:Int) (w:World) (R:Post):Prop:=mkCur P0 0 (X.Sem (pth [0,1,1,1,8])) c e b a d w R
noncomputable def eL0:=entL X (pth [0,1,1,1,8]) P0 L0T
abbrev P1:Ps:=[]
abbrev S3T (w:World) (R:Post):Prop:=
 R (.returned (.bool false)) w
noncomputable def eS3:=entS X [eL0] (pth [0,1,1,1,4,2,1,2,1,1,8]) P1 S3T
abbrev S4T (w:World) (R:Post):Prop:=
 R (.returned (.bool false)) w
noncomputable def eS4:=entS X [eS3,eL0] (pth [0,1,7,2,1,2,1,1,8]) P1 S4T
abbrev S5T (c:Sl) (e:Nat) (b a:Sl) (d:Int) (w:World) (R:Post):Prop:=
 L0T c e b a (IntKind.wrap .i64 (d+1)) w R
noncomputable def eS5:=entS X [eS4,eS3,eL0] (pth [2,2,1,1,8]) P0 S5T
abbrev P2:Ps:=[(11,.v [.s]),(12,.l [.s] ty_term_Graph),(17,.v [.s]),(18,.v [.I]),(19,.l [.I,.I,.I] ty_api_Sort),(20,.v [.I]),(21,.l [.I,.I,.I] ty_api_Sort),(22,.v [.I]),(23,.l [.s] ty_term_Graph),(24,.v [.I]),(25,.v [.I])]
abbrev S2T (k:Sl) (g:Nat) (d b:Sl) (e:Int) (s:Nat) (av aw ax bb:Int) (m:Nat) (p q r bc:Int) (t:Nat) (ay:Sl) (be bd:Int) (w:World) (R:Post):Prop:=
 (0:Int)≤e∧e<((b.n:Nat):Int)∧optP b.a fun x=>ld9_3 w (x.add (Int.toNat e *9)) fun y z aa ab ac ad ae af ag=>cf20 [g,s,m,t] n_enthymemeref07_Add #[k.v,.agg #[.i y,z.v,.i aa,.i ab,.u ac,.string ad,.i ae,.i af,.i ag]] w fun ah l o w1=>sel (!((av==p)&&((aw==q)&&((ax==r)&&true)))) (S3T w1 R) (sel (bb !=bc) (S3T w1 R) (sel (bd !=o) (S3T w1 R) (sel (be !=l) (S3T w1 R) (cf0 [g,s,m,t] n_enthymemeref07_SameGraph #[ay.v,ah.v] w1 fun az w2=>sel (!az) (S3T w2 R) ((0:Int)≤e∧e<((b.n:Nat):Int)∧optP b.a fun ai=>loc [g,s,m,t] w2 fun w3=>ld9_3 w3 (ai.add (Int.toNat e *9)) fun aj ak al am an ao ap aq ar=>cf6 [g,s,m,t] n_term_Find #[.agg #[d.v],.agg #[.i aj,ak.v,.i al,.i am,.u an,.string ao,.i ap,.i aq,.i ar]] w3 fun f c j=>sel (o==0) (sel (!(c==(decide (l<((k.n:Nat):Int))))) (S4T j R) (sel c (sel (f !=l) (S4T j R) (sel (!c) (sel (f !=0) (S4T j R) (S5T k g d b e j R)) (S5T k g d b e j R))) (sel (!c) (sel (f !=0) (S4T j R) (S5T k g d b e j R)) (S5T k g d b e j R)))) (sel (!(c==false)) (S4T j R) (sel c (sel (f !=l) (S4T j R) (sel (!c) (sel (f !=0) (S4T j R) (S5T k g d b e j R)) (S5T k g d b e j R))) (sel (!c) (sel (f !=0) (S4T j R) (S5T k g d b e j R)) (S5T k g d b e j R)))))))))
noncomputable def eS2:=entS X [eS5,eS4,eS3,eL0] (pth [3,2,1,2,1,1,8]) P2 S2T
abbrev P3:Ps:=[(11,.v [.s]),(12,.l [.s] ty_term_Graph),(17,.v [.s]),(18,.v [.I]),(19,.l [.I,.I,.I] ty_api_Sort),(20,.v [.I])]
abbrev S1T (aj:Sl) (c:Nat) (g d:Sl) (f:Int) (b:Nat) (af ag ah az:Int) (w:World) (R:Post):Prop:=
 (0:Int)≤f∧f<((d.n:Nat):Int)∧optP d.a fun am=>ld9_3 w (am.add (Int.toNat f *9)) fun an ao ap aq ar au av aw ax=>cf19 [c,b] n_enthymemeref07_SortOf #[aj.v,.agg #[.i an,ao.v,.i ap,.i aq,.u ar,.string au,.i av,.i aw,.i ax]] w fun x y z ai w1=>newV [c,b] w1 fun e w2=>
 (0:Int)≤f∧f<((d.n:Nat):Int)∧optP d.a fun aa=>loc [c,b,e] w2 fun w6=>ld9_3 w6 (aa.add (Int.toNat f *9)) fun j k l m o p q r s=>((cf22 [c,b,e] n_term_Add #[.agg #[g.v],.agg #[.i j,k.v,.i l,.i m,.u o,.string p,.i q,.i r,.i s]] w6 fun ae ak al w7=>newV [c,b,e] w7 fun ay w8=>
 loc [c,b,e,ay] w8 fun w9=>S2T aj c g d f b af ag ah az e x y z ai ay ae ak al w9 R)∧(newV [c,b,e] w6 fun ad bb=>
 hdW9 bb (aa.add (Int.toNat f *9)) (.i j) (k.v) (.i l) (.i m) (.u o) (.string p) (.i q) (.i r) (.i s) fun _=>cf22 [c,b,e,ad] n_term_Add #[.agg #[g.v],.agg #[.i j,k.v,.i l,.i m,.u o,.string p,.i q,.i r,.i s]] bb fun t ab ac bd=>loc [c,b,e,ad] bd fun be=>S2T aj c g d f b af ag ah az e x y z ai ad t ab ac be R))
noncomputable def eS1:=entS X [eS2,eS5,eS4,eS3,eL0] (pth [1,2,1,2,1,1,8]) P3 S1T
theorem L0T_step:∀(ad:Sl) (b:Nat) (d c:Sl) (e:Int) (w:World) (R:Post) (h:sel (decide (e<5)) ((0:Int)≤e∧e<((c.n:Nat):Int)∧optP c.a fun z=>loc [b] w fun ae=>ld9_3 ae (z.add (Int.toNat e *9)) fun f g j k l m o p q=>((cf19 [b] n_term_SortOf #[.agg #[d.v],.agg #[.i f,g.v,.i j,.i k,.u l,.string m,.i o,.i p,.i q]] ae fun aa ab ac af aj=>newV [b] aj fun ag ak=>
 loc [b,ag] ak fun al=>S1T ad b d c e ag aa ab ac af al R)∧(newV [b] ae fun x ah=>
 hdW9 ah (z.add (Int.toNat e *9)) (.i f) (g.v) (.i j) (.i k) (.u l) (.string m) (.i o) (.i p) (.i q) fun _=>cf19 [b,x] n_term_SortOf #[.agg #[d.v],.agg #[.i f,g.v,.i j,.i k,.u l,.string m,.i o,.i p,.i q]] ah fun r s t y am=>loc [b,x] am fun an=>S1T ad b d c e x r s t y an R))) (cf0 [b] n_enthymemelaw07_lives #[] w fun ai ao=>R (.returned (.bool ai)) ao)),L0T ad b d c e w R:=mp (stepL (X:=X) [eS1,eS2,eS5,eS4,eS3,eL0] (pth [0,1,1,1,8]) P0)
theorem okT (l0:Sl) (g br f y:Int) (w:World) (R:Post) (h:ca1 n_enthymemeref01_Around #[.i g,.i 3] w fun bu w1=>ca3 n_enthymemeref07_Made #[l0.v,.i bu,.i 12] w1 fun x w2=>newV [] w2 fun b w3=>
 loc [b] w3 fun w4=>cf1 [b] n_enthymemeref01_Around #[.i br,.i ((x.n:Nat):Int)] w4 fun au w5=>(0:Int)≤au∧au<((x.n:Nat):Int)∧optP x.a fun aw=>ld9_3 w5 (aw.add (Int.toNat au *9)) fun j k l m o p q r s=>newV [b] w5 fun c w6=>
 loc [b,c] w6 fun bw=>cf21 [b,c] n_enthymemeref07_Spoilt #[.agg #[.i j,k.v,.i l,.i m,.u o,.string p,.i q,.i r,.i s],.i f,.i y] bw fun z aa ab ac ad ae af ag ah bx=>newV [b,c] bx fun d bz=>
 loc [b,c,d] bz fun ca=>cf21 [b,c,d] n_enthymemeref07_Spoilt #[.agg #[.i z,aa.v,.i ab,.i ac,.u ad,.string ae,.i af,.i ag,.i ah],.i (IntKind.wrap .i64 (Int.tdiv f 10)),.i (IntKind.wrap .i64 (Int.tdiv y 8))] ca fun ax ay az bb bc bd be bf bg cb=>newV [b,c,d] cb fun t cc=>
 loc [b,c,d,t] cc fun cd=>cf1 [b,c,d,t] n_enthymemeref01_Around #[.i g,.i 3] cd fun bv ce=>cf3 [b,c,d,t] n_enthymemeref07_Made #[l0.v,.i bv,.i 13] ce fun e cf=>(0:Int)≤(IntKind.wrap .i64 (((e.n:Nat):Int) - 1))∧(IntKind.wrap .i64 (((e.n:Nat):Int) - 1))<((e.n:Nat):Int)∧optP e.a fun ai=>loc [b,c,d,t] cf fun bs=>ld9_3 bs (ai.add (Int.toNat (IntKind.wrap .i64 (((e.n:Nat):Int) - 1)) *9)) fun aj ak al am an ao ap aq ar=>cf21 [b,c,d,t] n_enthymemeref07_Spoilt #[.agg #[.i j,k.v,.i l,.i m,.u o,.string p,.i q,.i r,.i s],.i (IntKind.wrap .i64 (Int.tdiv f 100)),.i (IntKind.wrap .i64 (Int.tdiv y 64))] bs fun bh bi bj bk bm bn bo bp bq av=>hdW9 av (ai.add (Int.toNat (IntKind.wrap .i64 (((e.n:Nat):Int) - 1)) *9)) (.i aj) (ak.v) (.i al) (.i am) (.u an) (.string ao) (.i ap) (.i aq) (.i ar) fun _=>nwV av (.cells #[.i j,k.v,.i l,.i m,.u o,.string p,.i q,.i r,.i s,.i z,aa.v,.i ab,.i ac,.u ad,.string ae,.i af,.i ag,.i ah,.i ax,ay.v,.i az,.i bb,.u bc,.string bd,.i be,.i bf,.i bg,.i bh,bi.v,.i bj,.i bk,.u bm,.string bn,.i bo,.i bp,.i bq,.i aj,ak.v,.i al,.i am,.u an,.string ao,.i ap,.i aq,.i ar] ty_api_Node) fun cg=>
 L0T x b x ⟨some (nb av),5,5⟩ 0 cg R):Calls Tryz.prog n_enthymemelaw07_TermSorts #[l0.v,.i g,.i br,.i f,.i y] w R:=callsX X [eS1,eS2,eS5,eS4,eS3,eL0] h
end enthymemelaw07_TermSorts
end Go.Proofs.YtcifihepfadgfaaGreatDoor
