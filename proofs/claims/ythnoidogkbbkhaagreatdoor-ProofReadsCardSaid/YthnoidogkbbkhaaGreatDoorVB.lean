import Derived.Test.YthnoidogkbbkhaaGreatDoorV
set_option linter.unusedVariables false
set_option maxRecDepth 100000
set_option maxHeartbeats 2000000
namespace Go.Proofs.YthnoidogkbbkhaaGreatDoor
open Go Go.W
namespace enthymemeref07_BV
noncomputable abbrev X:Fx:=⟨Tryz.prog,Tryz.f57,[],[2]⟩
theorem okT (a:Int) (w:World) (R:Post) (h:newV [] w λb c=>
 loc [b] c λd=>R (.returned (.agg #[.i 0,.i a,.i 0])) d):Calls Tryz.prog n_enthymemeref07_BV #[.i a] w R:=callsX X [] h
end enthymemeref07_BV
namespace enthymemeref07_Strings
noncomputable abbrev X:Fx:=⟨Tryz.prog,Tryz.f58,[],[2]⟩
theorem okT (a:Int) (w:World) (R:Post) (h:newV [] w λb c=>
 loc [b] c λd=>R (.returned (.agg #[.i 1,.i a,.i 0])) d):Calls Tryz.prog n_enthymemeref07_Strings #[.i a] w R:=callsX X [] h
end enthymemeref07_Strings
namespace enthymemeref07_has
noncomputable abbrev X:Fx:=⟨Tryz.prog,Tryz.f122,[],[]⟩
theorem ok (b:Sl) (a:Int) (w:World) (R:Post) (h:ca0 n_enthymemeref01_Has #[b.v,.i a] w λc d=>R (.returned (.bool c)) d):Calls Tryz.prog n_enthymemeref07_has #[b.v,.i a] w R:=callsX X [] h
end enthymemeref07_has
namespace enthymemeref07_Kids
noncomputable abbrev X:Fx:=⟨Tryz.prog,Tryz.f60,[],[]⟩
abbrev P0:Ps:=[]
abbrev S0 (w:World) (R:Post):Prop:=
 R (.returned (.i (-1))) w
noncomputable def eS0:=entS X [] (pth [0,1,1,1,1]) P0 S0
abbrev S1 (w:World) (R:Post):Prop:=
 R (.returned (.i 1)) w
noncomputable def eS1:=entS X [eS0] (pth [0,1,1,1,1,1,3]) P0 S1
abbrev S3 (w:World) (R:Post):Prop:=
 R (.returned (.i 3)) w
noncomputable def eS3:=entS X [eS1,eS0] (pth [0,1,3,1,1,1,3]) P0 S3
abbrev S4 (w:World) (R:Post):Prop:=
 R (.returned (.i 2)) w
noncomputable def eS4:=entS X [eS3,eS1,eS0] (pth [4]) P0 S4
abbrev P1:Ps:=[(11,.v [.I])]
abbrev S2 (a:Int) (w:World) (R:Post):Prop:=
 sel (a==19) (sel (a==19) (S3 w R) (S4 w R)) (sel (a==25) (sel (a==25) (S3 w R) (S4 w R)) (sel (a==30) (sel (a==30) (S3 w R) (S4 w R)) (sel (a==32) (S3 w R) (S4 w R))))
noncomputable def eS2:=entS X [eS4,eS3,eS1,eS0] (pth [2,1,1,1,3]) P1 S2
theorem ok (a:Int) (w:World) (R:Post) (h:sel (decide (a<0)) (S0 w R) (sel (decide (a>34)) (S0 w R) (sel (decide (a<=3)) (R (.returned (.i 0)) w) (sel (a==4) (sel (a==4) (S1 w R) (S2 a w R)) (sel (a==5) (sel (a==5) (S1 w R) (S2 a w R)) (sel (a==21) (sel (a==21) (S1 w R) (S2 a w R)) (sel (a==22) (sel (a==22) (S1 w R) (S2 a w R)) (sel (a==23) (sel (a==23) (S1 w R) (S2 a w R)) (sel (a==27) (sel (a==27) (S1 w R) (S2 a w R)) (sel (a==28) (sel (a==28) (S1 w R) (S2 a w R)) (sel (a==33) (sel (a==33) (S1 w R) (S2 a w R)) (sel (a==34) (S1 w R) (S2 a w R))))))))))))):Calls Tryz.prog n_enthymemeref07_Kids #[.i a] w R:=callsX X [eS2,eS4,eS3,eS1,eS0] h
end enthymemeref07_Kids
namespace enthymemeref07_Named
noncomputable abbrev X:Fx:=⟨Tryz.prog,Tryz.f78,[],[]⟩
abbrev P0:Ps:=[]
abbrev S0 (w:World) (R:Post):Prop:=
 R (.returned (.bool false)) w
noncomputable def eS0:=entS X [] (pth [0,1,1,1,1]) P0 S0
abbrev P1:Ps:=[(0,.v [.st]),(3,.v [.I])]
def L1 (b:ByteArray) (a:Int) (w:World) (R:Post):Prop:=mkCur P1 0 (X.Sem (pth [0,1,1,1,2])) b a w R
noncomputable def eL1:=entL X (pth [0,1,1,1,2]) P1 L1
abbrev S4 (b:ByteArray) (a:Int) (w:World) (R:Post):Prop:=
 L1 b (IntKind.wrap .i64 (a+1)) w R
noncomputable def eS4:=entS X [eL1,eS0] (pth [2,2,1,1,2]) P1 S4
abbrev P2:Ps:=[(0,.v [.st]),(3,.v [.I]),(4,.v [.b]),(5,.v [.b])]
abbrev S3 (d:ByteArray) (c:Int) (a b:Bool) (w:World) (R:Post):Prop:=
 sel (!a) (sel (!b) (R (.returned (.bool false)) w) (S4 d c w R)) (S4 d c w R)
noncomputable def eS3:=entS X [eS4,eL1,eS0] (pth [2,2,1,2,1,1,2]) P2 S3
abbrev P3:Ps:=[(0,.v [.st]),(3,.v [.I]),(4,.v [.b])]
abbrev S2 (d:ByteArray) (b:Int) (a:Bool) (w:World) (R:Post):Prop:=
 (0:Int)<=b/\∃e:UInt8,d[Int.toNat b]? =some e/\sel (decide (((e.toNat:Nat):Int)>=48)) ((0:Int)<=b/\∃f:UInt8,d[Int.toNat b]? =some f/\sel (decide (((f.toNat:Nat):Int)<=57)) (S3 d b a true w R) ((0:Int)<=b/\∃g:UInt8,d[Int.toNat b]? =some g/\S3 d b a (((g.toNat:Nat):Int)==45) w R)) ((0:Int)<=b/\∃c:UInt8,d[Int.toNat b]? =some c/\S3 d b a (((c.toNat:Nat):Int)==45) w R)
noncomputable def eS2:=entS X [eS3,eS4,eL1,eS0] (pth [1,2,1,2,1,1,2]) P3 S2
theorem L1_step:∀(d:ByteArray) (a:Int) (w:World) (R:Post) (h:sel (decide (a<((d.size:Nat):Int))) ((0:Int)<=a/\∃b:UInt8,d[Int.toNat a]? =some b/\sel (decide (((b.toNat:Nat):Int)>=97)) ((0:Int)<=a/\∃c:UInt8,d[Int.toNat a]? =some c/\S2 d a (decide (((c.toNat:Nat):Int)<=122)) w R) (S2 d a false w R)) (R (.returned (.bool true)) w)),L1 d a w R:=mp (stepL (X:=X) [eS2,eS3,eS4,eL1,eS0] (pth [0,1,1,1,2]) P1)
theorem ok (c:ByteArray) (w:World) (R:Post) (h:sel (decide (((c.size:Nat):Int)<1)) (S0 w R) (sel (decide (((c.size:Nat):Int)>16)) (S0 w R) ((0:Int)<=0/\∃a:UInt8,c[Int.toNat 0]? =some a/\sel (decide (((a.toNat:Nat):Int)<97)) (S0 w R) ((0:Int)<=0/\∃b:UInt8,c[Int.toNat 0]? =some b/\sel (decide (((b.toNat:Nat):Int)>122)) (S0 w R) (L1 c 0 w R))))):Calls Tryz.prog n_enthymemeref07_Named #[.string c] w R:=callsX X [eS2,eS3,eS4,eL1,eS0] h
end enthymemeref07_Named
namespace enthymemeref06_within
noncomputable abbrev X:Fx:=⟨Tryz.prog,Tryz.f146,[],[]⟩
theorem ok (c b a:Int) (w:World) (R:Post) (h:sel (decide (c>=b)) (R (.returned (.bool (decide (c<=a)))) w) (R (.returned (.bool false)) w)):Calls Tryz.prog n_enthymemeref06_within #[.i c,.i b,.i a] w R:=callsX X [] h
end enthymemeref06_within
namespace enthymemeref06_ValidSort
noncomputable abbrev X:Fx:=⟨Tryz.prog,Tryz.f123,[],[1]⟩
abbrev P0:Ps:=[(3,.v [.b])]
abbrev S0T (a:Bool) (w:World) (R:Post):Prop:=
 sel (!a) (R (.returned (.i 9)) w) (R (.returned (.i 0)) w)
noncomputable def eS0:=entS X [] (pth [3]) P0 S0T
theorem okT (a b c:Int) (w:World) (R:Post) (h:newV [] w λd e=>
 sel (a==0) (cf0 [d] n_enthymemeref06_within #[.i b,.i 1,.i 64] e λf n=>sel f (S0T (c==0) n R) (S0T false n R)) (sel (a==1) (cf0 [d] n_enthymemeref06_within #[.i b,.i 0,.i 64] e λg o=>sel g (S0T (c==0) o R) (S0T false o R)) (sel (a==2) (cf0 [d] n_enthymemeref06_within #[.i b,.i 1,.i 64] e λj p=>sel j (cf0 [d] n_enthymemeref06_within #[.i c,.i 1,.i 16] p λk r=>S0T k r R) (S0T false p R)) (sel (a==3) (cf0 [d] n_enthymemeref06_within #[.i b,.i 0,.i 64] e λl q=>sel l (cf0 [d] n_enthymemeref06_within #[.i c,.i 1,.i 16] q λm s=>S0T m s R) (S0T false q R)) (S0T false e R))))):Calls Tryz.prog n_enthymemeref06_ValidSort #[.agg #[.i a,.i b,.i c]] w R:=callsX X [eS0] h
end enthymemeref06_ValidSort
namespace enthymemeref07_fields
noncomputable abbrev X:Fx:=⟨Tryz.prog,Tryz.f88,[(1,ls [0,1,3,4,5,2,6])],[3]⟩
abbrev P0:Ps:=[(0,.v [.s]),(3,.l [.I,.s,.I,.I,.U,.st,.I,.I,.I] ty_api_Node),(5,.v [.I])]
def L0T (k:Sl) (m:Nat) (a:Int) (b:Sl) (c d e:Int) (f:ByteArray) (g i j l:Int) (w:World) (R:Post):Prop:=mkCur P0 0 (X.Sem (pth [0,1,1,1,2])) k m a b c d e f g i j l w R
noncomputable def eL0:=entL X (pth [0,1,1,1,2]) P0 L0T
abbrev P1:Ps:=[]
abbrev S1T (w:World) (R:Post):Prop:=
 R (.returned (.i 1)) w
noncomputable def eS1:=entS X [eL0] (pth [0,1,1,2,1,2,1,1,2]) P1 S1T
abbrev S2T (w:World) (R:Post):Prop:=
 R (.returned (.i 1)) w
noncomputable def eS2:=entS X [eS1,eL0] (pth [0,1,1,1,5]) P1 S2T
abbrev S3T (w:World) (R:Post):Prop:=
 R (.returned (.i 0)) w
noncomputable def eS3:=entS X [eS2,eS1,eL0] (pth [6]) P1 S3T
theorem L0T_step:∀(v:Sl) (q:Nat) (c:Int) (e:Sl) (l k f:Int) (d:ByteArray) (m o p j:Int) (w:World) (R:Post) (h:sel (decide (j<((e.n:Nat):Int))) ((0:Int)<=j/\j<((e.n:Nat):Int)/\optP e.a λr=>∃t:Int,w.cell? (r.add (Int.toNat j *1))=some (.i t)/\
 sel (decide (t<0)) (S1T w R) ((0:Int)<=j/\j<((e.n:Nat):Int)/\optP e.a λs=>∃u:Int,w.cell? (s.add (Int.toNat j *1))=some (.i u)/\
 sel (decide (u>=((v.n:Nat):Int))) (S1T w R) (L0T v q c e l k f d m o p (IntKind.wrap .i64 (j+1)) w R))) (nwV w (.cells #[.i 21,.i 22,.i 23,.i 28] ty_int) λz=>
 cf0 [q] n_enthymemeref07_has #[.slice (some (nb w)) 4 4,.i c] z λx y=>nwV y (.cells #[.i 0,.i 2,.i 33] ty_int) λw6=>
 cf0 [q] n_enthymemeref07_has #[.slice (some (nb y)) 3 3,.i c] w6 λg b=>sel (!x) (sel (l !=0) (S2T b R) (sel (c !=21) (sel (k !=0) (S2T b R) (sel (c !=1) (sel (f !=0) (S2T b R) (sel (!g) (sel (!(d.toList==(ByteArray.mk #[]).toList)) (S2T b R) (S3T b R)) (S3T b R))) (sel (!g) (sel (!(d.toList==(ByteArray.mk #[]).toList)) (S2T b R) (S3T b R)) (S3T b R)))) (sel (c !=1) (sel (f !=0) (S2T b R) (sel (!g) (sel (!(d.toList==(ByteArray.mk #[]).toList)) (S2T b R) (S3T b R)) (S3T b R))) (sel (!g) (sel (!(d.toList==(ByteArray.mk #[]).toList)) (S2T b R) (S3T b R)) (S3T b R))))) (sel (c !=21) (sel (k !=0) (S2T b R) (sel (c !=1) (sel (f !=0) (S2T b R) (sel (!g) (sel (!(d.toList==(ByteArray.mk #[]).toList)) (S2T b R) (S3T b R)) (S3T b R))) (sel (!g) (sel (!(d.toList==(ByteArray.mk #[]).toList)) (S2T b R) (S3T b R)) (S3T b R)))) (sel (c !=1) (sel (f !=0) (S2T b R) (sel (!g) (sel (!(d.toList==(ByteArray.mk #[]).toList)) (S2T b R) (S3T b R)) (S3T b R))) (sel (!g) (sel (!(d.toList==(ByteArray.mk #[]).toList)) (S2T b R) (S3T b R)) (S3T b R)))))),L0T v q c e l k f d m o p j w R:=mp (stepL (X:=X) [eS3,eS2,eS1,eL0] (pth [0,1,1,1,2]) P0)
theorem okT (m:Sl) (a:Int) (b:Sl) (c d e:Int) (f:ByteArray) (g j k:Int) (w:World) (R:Post) (h:newV [] w λl q=>
 loc [l] q λr=>cf1 [l] n_enthymemeref07_Kids #[.i a] r λo p=>sel (o !=((b.n:Nat):Int)) (R (.returned (.i 1)) p) (L0T m l a b c d e f g j k 0 p R)):Calls Tryz.prog n_enthymemeref07_fields #[m.v,.agg #[.i a,b.v,.i c,.i d,.u e,.string f,.i g,.i j,.i k]] w R:=callsX X [eS3,eS2,eS1,eL0] h
end enthymemeref07_fields
namespace enthymemeref07_leaf
noncomputable abbrev X:Fx:=⟨Tryz.prog,Tryz.f89,[(19,ls [0,1,2,3,4,5,6,7,8,9,10,11,12,13,14,15,16,17,18,19,20,21,22,23,24,25,26,27,28,29,30])],[3,4]⟩
abbrev P0:Ps:=[(4,.l [.I,.I,.I] ty_api_Sort)]
abbrev S2T (a:Nat) (b c d:Int) (w:World) (R:Post):Prop:=
 loc [a] w λe=>R (.returned (.tuple #[.agg #[.i 0,.i 0,.i 0],.i 9])) e
noncomputable def eS2:=entS X [] (pth [0,1,1,1,7]) P0 S2T
abbrev P1:Ps:=[(0,.v [.s]),(3,.l [.I,.s,.I,.I,.U,.st,.I,.I,.I] ty_api_Node),(4,.l [.I,.I,.I] ty_api_Sort),(9,.v [.I])]
def L5T (n:Sl) (p:Nat) (a:Int) (b:Sl) (c d e:Int) (f:ByteArray) (g i j:Int) (q:Nat) (k l m o:Int) (w:World) (R:Post):Prop:=mkCur P1 0 (X.Sem (pth [0,1,1,1,9])) n p a b c d e f g i j q k l m o w R
noncomputable def eL5:=entL X (pth [0,1,1,1,9]) P1 L5T
abbrev S6T (n:Sl) (p:Nat) (a:Int) (b:Sl) (c d e:Int) (f:ByteArray) (g i j:Int) (q:Nat) (k l m o:Int) (w:World) (R:Post):Prop:=
 L5T n p a b c d e f g i j q k l m (IntKind.wrap .i64 (o+1)) w R
noncomputable def eS6:=entS X [eL5,eS2] (pth [2,2,1,1,9]) P1 S6T
theorem L5T_step:∀(j:Sl) (s:Nat) (f:Int) (k:Sl) (l m o:Int) (g:ByteArray) (c d e:Int) (t:Nat) (p q r b:Int) (w:World) (R:Post) (h:sel (decide (b<((j.n:Nat):Int))) (sel (f==0) ((0:Int)<=b/\b<((j.n:Nat):Int)/\optP j.a λv=>loc [s,t] w λu=>∃x:Int,u.cell? ((v.add (Int.toNat b *9)).add 0)=some (.i x)/\
 sel (x==0) ((0:Int)<=b/\b<((j.n:Nat):Int)/\optP j.a λy=>∃z:ByteArray,u.cell? ((y.add (Int.toNat b *9)).add 5)=some (.string z)/\
 sel (z.toList==g.toList) ((0:Int)<=b/\b<((j.n:Nat):Int)/\optP j.a λaa=>ld3_2 u ((aa.add (Int.toNat b *9)).add 6) λab ac ad=>sel (!((ab==c)&&((ac==d)&&((ad==e)&&true)))) (loc [s,t] u λw4=>R (.returned (.tuple #[.agg #[.i 0,.i 0,.i 0],.i 8])) w4) (S6T j s f k l m o g c d e t p q r b u R)) (S6T j s f k l m o g c d e t p q r b u R)) (S6T j s f k l m o g c d e t p q r b u R)) (loc [s,t] w λu=>S6T j s f k l m o g c d e t p q r b u R)) (loc [s,t] w λw7=>R (.returned (.tuple #[.agg #[.i c,.i d,.i e],.i 0])) w7)),L5T j s f k l m o g c d e t p q r b w R:=mp (stepL (X:=X) [eS6,eL5,eS2] (pth [0,1,1,1,9]) P1)
abbrev P2:Ps:=[(0,.v [.s]),(3,.l [.I,.s,.I,.I,.U,.st,.I,.I,.I] ty_api_Node),(4,.l [.I,.I,.I] ty_api_Sort)]
abbrev S4T (n:Sl) (o:Nat) (a:Int) (b:Sl) (c d e:Int) (f:ByteArray) (g i j:Int) (p:Nat) (k l m:Int) (w:World) (R:Post):Prop:=
 L5T n o a b c d e f g i j p k l m 0 w R
noncomputable def eS4:=entS X [eS6,eL5,eS2] (pth [9]) P2 S4T
abbrev S3T (q:Sl) (o:Nat) (b:Int) (d:Sl) (e f c:Int) (g:ByteArray) (j a k:Int) (p:Nat) (l m n:Int) (w:World) (R:Post):Prop:=
 sel (b==1) (sel (decide (a<64)) (¬(IntKind.wrap .u64 a)<0/\sel (decide (c>=(IntKind.wrap .u64 (1 *2^(min (Int.toNat (IntKind.wrap .u64 a)) (IntKind.bits .u64)))))) (loc [o,p] w λr=>R (.returned (.tuple #[.agg #[.i 0,.i 0,.i 0],.i 5])) r) (S4T q o b d e f c g j a k p l m n w R)) (S4T q o b d e f c g j a k p l m n w R)) (S4T q o b d e f c g j a k p l m n w R)
noncomputable def eS3:=entS X [eS4,eS6,eL5,eS2] (pth [8]) P2 S3T
abbrev P3:Ps:=[(0,.v [.s]),(3,.l [.I,.s,.I,.I,.U,.st,.I,.I,.I] ty_api_Node),(4,.l [.I,.I,.I] ty_api_Sort),(8,.v [.b])]
abbrev S1T (p:Sl) (q:Nat) (a:Int) (g:Sl) (i j k:Int) (l:ByteArray) (e m n:Int) (o:Nat) (b c d:Int) (f:Bool) (w:World) (R:Post):Prop:=
 sel (a==1) (sel (e !=0) (S2T o b c d w R) (sel (a==3) (sel (!f) (S2T o b c d w R) (S3T p q a g i j k l e m n o b c d w R)) (S3T p q a g i j k l e m n o b c d w R))) (sel (a==3) (sel (!f) (S2T o b c d w R) (S3T p q a g i j k l e m n o b c d w R)) (S3T p q a g i j k l e m n o b c d w R))
noncomputable def eS1:=entS X [eS3,eS4,eS6,eL5,eS2] (pth [7]) P3 S1T
abbrev P4:Ps:=[(0,.v [.s]),(3,.l [.I,.s,.I,.I,.U,.st,.I,.I,.I] ty_api_Node),(4,.l [.I,.I,.I] ty_api_Sort),(6,.v [.b])]
abbrev S0T (t:Sl) (d:Nat) (e:Int) (f:Sl) (g j k:Int) (l:ByteArray) (a b c:Int) (m:Nat) (n o p:Int) (q:Bool) (w:World) (R:Post):Prop:=
 sel (!q) (loc [d,m] w λu=>R (.returned (.tuple #[.agg #[.i 0,.i 0,.i 0],.i 6])) u) (cf1 [d,m] n_enthymemeref06_ValidSort #[.agg #[.i a,.i b,.i c]] w λr s=>sel (r !=0) (loc [d,m] s λv=>R (.returned (.tuple #[.agg #[.i 0,.i 0,.i 0],.i r])) v) (sel (a==2) (S1T t d e f g j k l a b c m n o p true s R) (S1T t d e f g j k l a b c m n o p (a==3) s R)))
noncomputable def eS0:=entS X [eS1,eS3,eS4,eS6,eL5,eS2] (pth [3]) P4 S0T
theorem okT (r:Sl) (b:Int) (d:Sl) (e f g:Int) (a:ByteArray) (j k l:Int) (w:World) (R:Post) (h:newV [] w λc x=>
 newV [c] x λm q=>
 sel (b==2) (sel (decide (((a.size:Nat):Int)>64)) (loc [c,m] q λy=>R (.returned (.tuple #[.agg #[.i 0,.i 0,.i 0],.i 5])) y) (cf17 [c,m] n_enthymemeref07_Strings #[.i ((a.size:Nat):Int)] q λn o p z=>loc [c,m] z λw9=>R (.returned (.tuple #[.agg #[.i n,.i o,.i p],.i 0])) w9)) (sel (b !=0) (S0T r c b d e f g a j k l m 0 0 0 true q R) (cf0 [c,m] n_enthymemeref07_Named #[.string a] q λs t=>S0T r c b d e f g a j k l m 0 0 0 s t R))):Calls Tryz.prog n_enthymemeref07_leaf #[r.v,.agg #[.i b,d.v,.i e,.i f,.u g,.string a,.i j,.i k,.i l]] w R:=callsX X [eS0,eS1,eS3,eS4,eS6,eL5,eS2] h
end enthymemeref07_leaf
namespace enthymemeref07_Element
noncomputable abbrev X:Fx:=⟨Tryz.prog,Tryz.f87,[],[1,2]⟩
theorem okT (c a j:Int) (w:World) (R:Post) (h:newV [] w λb p=>
 newV [b] p λd o=>
 sel (c==2) (cf17 [b,d] n_enthymemeref07_BV #[.i a] o λk l m q=>loc [b,d] q λr=>R (.returned (.agg #[.i k,.i l,.i m])) r) (cf17 [b,d] n_enthymemeref07_Strings #[.i a] o λe f g s=>loc [b,d] s λn=>R (.returned (.agg #[.i e,.i f,.i g])) n)):Calls Tryz.prog n_enthymemeref07_Element #[.agg #[.i c,.i a,.i j]] w R:=callsX X [] h
end enthymemeref07_Element
namespace enthymemeref07_fit
noncomputable abbrev X:Fx:=⟨Tryz.prog,Tryz.f90,[(13,ls [0,1,2,3,4,5,6,7,8,9,10,11,12,13,14,15]),(15,ls [0,1,2,3,4,5,6,7,8,9,10,11,12,13,14,15,16,17,18,19,20,21,22,23,24,25,26]),(19,ls [0,1,2,3,4,5,6,7,8,9,10]),(21,ls [0,1,2,3,4,5,6,7,8,9,10]),(23,ls [0,1,2,3,4,5,6,7,8,9,10,11,12,13,14,15,16,17,18,19,20,21,22,23,24,25,26,27]),(25,ls [0,1,2,3,4,5,6,7,8]),(34,ls [0,1,2,3,4,5,6,7,8,9,10,11,12,13,14,15]),(38,ls [0,1,2,3]),(39,ls [0,1,2,3,4,5,6,7,8])],[5]⟩
abbrev P0:Ps:=[(6,.v [.b])]
abbrev S1T (a:Bool) (w:World) (R:Post):Prop:=
 R (.returned (.bool a)) w
noncomputable def eS1:=entS X [] (pth [0,1,1,1,1,1,5]) P0 S1T
abbrev P1:Ps:=[]
abbrev S3T (w:World) (R:Post):Prop:=
 R (.returned (.bool false)) w
noncomputable def eS3:=entS X [eS1] (pth [0,1,1,2,11,1,1,1,5]) P1 S3T
abbrev P2:Ps:=[(7,.v [.b])]
abbrev S4T (a:Bool) (w:World) (R:Post):Prop:=
 R (.returned (.bool a)) w
noncomputable def eS4:=entS X [eS3,eS1] (pth [0,1,15,1,1,1,5]) P2 S4T
abbrev P3:Ps:=[(1,.v [.s]),(7,.v [.b])]
abbrev S6T (e:Sl) (d:Bool) (w:World) (R:Post):Prop:=
 sel d ((0:Int)<=1/\1<((e.n:Nat):Int)/\optP e.a λb=>∃c:Int,w.cell? ((b.add (Int.toNat 1 *3)).add 0)=some (.i c)/\
 R (.returned (.bool (c==1))) w) (R (.returned (.bool false)) w)
noncomputable def eS6:=entS X [eS4,eS3,eS1] (pth [0,1,17,1,1,1,5]) P3 S6T
abbrev P4:Ps:=[(1,.v [.s]),(5,.l [.I,.I,.I] ty_api_Sort),(6,.v [.b]),(7,.v [.b]),(26,.v [.I])]
abbrev S7T (b:Sl) (m:Nat) (ai aj ak:Int) (ao o:Bool) (ah:Int) (w:World) (R:Post):Prop:=
 sel (ah==30) (sel o ((0:Int)<=1/\1<((b.n:Nat):Int)/\optP b.a λc=>loc [m] w λw1=>ld3_2 w1 (c.add (Int.toNat 1 *3)) λd e f=>cf17 [m] n_enthymemeref07_BV #[.i 7] w1 λp q r w2=>hdW3 w2 (c.add (Int.toNat 1 *3)) (.i d) (.i e) (.i f) λ_=>sel ((d==p)&&((e==q)&&((f==r)&&true))) ((0:Int)<=2/\2<((b.n:Nat):Int)/\optP b.a λg=>ld3_2 w2 (g.add (Int.toNat 2 *3)) λj k l=>cf17 [m] n_enthymemeref07_BV #[.i 7] w2 λs t u w3=>hdW3 w3 (g.add (Int.toNat 2 *3)) (.i j) (.i k) (.i l) λ_=>R (.returned (.bool ((j==s)&&((k==t)&&((l==u)&&true))))) w3) (R (.returned (.bool false)) w2)) (loc [m] w λw1=>R (.returned (.bool false)) w1)) (sel (ah==32) (sel o ((0:Int)<=1/\1<((b.n:Nat):Int)/\optP b.a λv=>∃x:Int,w.cell? ((v.add (Int.toNat 1 *3)).add 0)=some (.i x)/\
 sel (x==1) ((0:Int)<=2/\2<((b.n:Nat):Int)/\optP b.a λy=>∃z:Int,w.cell? ((y.add (Int.toNat 2 *3)).add 0)=some (.i z)/\
 R (.returned (.bool (z==1))) w) (R (.returned (.bool false)) w)) (R (.returned (.bool false)) w)) (sel (ah==34) (loc [m] w λw4=>cf17 [m] n_enthymemeref07_BV #[.i 8] w4 λaa ab ac w5=>R (.returned (.bool ((ai==aa)&&((aj==ab)&&((ak==ac)&&true))))) w5) (sel ao ((0:Int)<=1/\1<((b.n:Nat):Int)/\optP b.a λad=>loc [m] w λw6=>ld3_2 w6 (ad.add (Int.toNat 1 *3)) λae af ag=>R (.returned (.bool ((ai==ae)&&((aj==af)&&((ak==ag)&&true))))) w6) (loc [m] w λw6=>R (.returned (.bool false)) w6))))
noncomputable def eS7:=entS X [eS6,eS4,eS3,eS1] (pth [18,1,1,1,5]) P4 S7T
abbrev S5T (f:Sl) (i:Nat) (c d e:Int) (g a:Bool) (b:Int) (w:World) (R:Post):Prop:=
 sel (b==29) (sel (b==29) (S6T f a w R) (S7T f i c d e g a b w R)) (sel (b==31) (S6T f a w R) (S7T f i c d e g a b w R))
noncomputable def eS5:=entS X [eS7,eS6,eS4,eS3,eS1] (pth [16,1,1,1,5]) P4 S5T
abbrev P5:Ps:=[(1,.v [.s]),(5,.l [.I,.I,.I] ty_api_Sort),(6,.v [.b]),(7,.v [.b]),(8,.v [.b]),(26,.v [.I])]
abbrev S2T (b:Sl) (g:Nat) (e f d:Int) (x j k:Bool) (c:Int) (w:World) (R:Post):Prop:=
 sel (c==18) ((0:Int)<=1/\1<((b.n:Nat):Int)/\optP b.a λau=>loc [g] w λw1=>ld3_2 w1 (au.add (Int.toNat 1 *3)) λav aw ax=>sel ((e==av)&&((f==aw)&&((d==ax)&&true))) (R (.returned (.bool true)) w1) (sel j ((0:Int)<=1/\1<((b.n:Nat):Int)/\optP b.a λay=>∃bu:Int,w1.cell? ((ay.add (Int.toNat 1 *3)).add 0)=some (.i bu)/\
 R (.returned (.bool (bu==1))) w1) (R (.returned (.bool false)) w1))) (sel (c==19) (loc [g] w λw2=>cf17 [g] n_enthymemeref07_BV #[.i 1] w2 λaz bb bc u=>sel ((e==az)&&((f==bb)&&((d==bc)&&true))) ((0:Int)<=1/\1<((b.n:Nat):Int)/\optP b.a λbd=>ld3_2 u (bd.add (Int.toNat 1 *3)) λbe bf bg=>(0:Int)<=2/\2<((b.n:Nat):Int)/\optP b.a λbh=>ld3_2 u (bh.add (Int.toNat 2 *3)) λbi bj bk=>sel ((be==bi)&&((bf==bj)&&((bg==bk)&&true))) (R (.returned (.bool true)) u) ((0:Int)<=1/\1<((b.n:Nat):Int)/\optP b.a λbm=>∃bv:Int,u.cell? ((bm.add (Int.toNat 1 *3)).add 0)=some (.i bv)/\
 sel (bv==1) ((0:Int)<=2/\2<((b.n:Nat):Int)/\optP b.a λbn=>∃bw:Int,u.cell? ((bn.add (Int.toNat 2 *3)).add 0)=some (.i bw)/\
 R (.returned (.bool (bw==1))) u) (R (.returned (.bool false)) u))) (R (.returned (.bool false)) u)) (sel (c==20) (sel x ((0:Int)<=1/\1<((b.n:Nat):Int)/\optP b.a λbo=>∃bx:Int,w.cell? ((bo.add (Int.toNat 1 *3)).add 0)=some (.i bx)/\
 R (.returned (.bool (bx==0))) w) (R (.returned (.bool false)) w)) (sel (c==24) (sel k ((0:Int)<=1/\1<((b.n:Nat):Int)/\optP b.a λy=>loc [g] w λw4=>ld3_2 w4 (y.add (Int.toNat 1 *3)) λz aa ab=>cf17 [g] n_enthymemeref07_BV #[.i d] w4 λbp bq br w5=>hdW3 w5 (y.add (Int.toNat 1 *3)) (.i z) (.i aa) (.i ab) λ_=>R (.returned (.bool ((z==bp)&&((aa==bq)&&((ab==br)&&true))))) w5) (loc [g] w λw4=>R (.returned (.bool false)) w4)) (sel (c==25) (sel (!k) (loc [g] w λw6=>S3T w6 R) ((0:Int)<=1/\1<((b.n:Nat):Int)/\optP b.a λl=>loc [g] w λw6=>ld3_2 w6 (l.add (Int.toNat 1 *3)) λm o p=>cf17 [g] n_enthymemeref07_BV #[.i d] w6 λad ae af w7=>hdW3 w7 (l.add (Int.toNat 1 *3)) (.i m) (.i o) (.i p) λ_=>sel (!((m==ad)&&((o==ae)&&((p==af)&&true)))) (S3T w7 R) ((0:Int)<=2/\2<((b.n:Nat):Int)/\optP b.a λq=>loc [g] w7 λw8=>ld3_2 w8 (q.add (Int.toNat 2 *3)) λr s t=>cf17 [g] n_enthymemeref07_Element #[.agg #[.i e,.i f,.i d]] w8 λag ah ai v=>hdW3 v (q.add (Int.toNat 2 *3)) (.i r) (.i s) (.i t) λ_=>sel ((r==ag)&&((s==ah)&&((t==ai)&&true))) (R (.returned (.bool true)) v) (sel (e==3) ((0:Int)<=2/\2<((b.n:Nat):Int)/\optP b.a λaj=>∃ak:Int,v.cell? ((aj.add (Int.toNat 2 *3)).add 0)=some (.i ak)/\
 sel (ak==1) ((0:Int)<=2/\2<((b.n:Nat):Int)/\optP b.a λal=>∃am:Int,v.cell? ((al.add (Int.toNat 2 *3)).add 1)=some (.i am)/\
 R (.returned (.bool (decide (am<=f)))) v) (R (.returned (.bool false)) v)) (R (.returned (.bool false)) v))))) (sel (c==26) (sel k ((0:Int)<=1/\1<((b.n:Nat):Int)/\optP b.a λan=>loc [g] w λac=>ld3_2 ac (an.add (Int.toNat 1 *3)) λao ap aq=>R (.returned (.bool ((e==ao)&&((f==ap)&&((d==aq)&&true))))) ac) (loc [g] w λac=>R (.returned (.bool false)) ac)) (sel (c==27) (sel (c==27) (S4T j w R) (S5T b g e f d x j c w R)) (sel (c==28) (sel (c==28) (S4T j w R) (S5T b g e f d x j c w R)) (sel (c==33) (S4T j w R) (S5T b g e f d x j c w R)))))))))
noncomputable def eS2:=entS X [eS5,eS7,eS6,eS4,eS3,eS1] (pth [2,1,1,1,5]) P5 S2T
abbrev P6:Ps:=[(0,.v [.I]),(1,.v [.s]),(5,.l [.I,.I,.I] ty_api_Sort),(6,.v [.b]),(7,.v [.b]),(8,.v [.b])]
abbrev S0T (a:Int) (i:Sl) (j:Nat) (e f g:Int) (c d b:Bool) (w:World) (R:Post):Prop:=
 sel (a==4) (sel (a==4) (S1T c w R) (S2T i j e f g c d b a w R)) (sel (a==5) (sel (a==5) (S1T c w R) (S2T i j e f g c d b a w R)) (sel (a==21) (sel (a==21) (S1T c w R) (S2T i j e f g c d b a w R)) (sel (a==22) (sel (a==22) (S1T c w R) (S2T i j e f g c d b a w R)) (sel (a==23) (S1T c w R) (S2T i j e f g c d b a w R)))))
noncomputable def eS0:=entS X [eS2,eS5,eS7,eS6,eS4,eS3,eS1] (pth [5]) P6 S0T
theorem okT (f:Int) (e:Sl) (w:World) (R:Post) (h:(0:Int)<=0/\0<((e.n:Nat):Int)/\optP e.a λj=>ld3_2 w (j.add (Int.toNat 0 *3)) λb c d=>newV [] w λg l=>
 sel (b==2) (loc [g] l λk=>S0T f e g b c d (b==0) (b==1) true k R) (loc [g] l λk=>S0T f e g b c d (b==0) (b==1) (b==3) k R)):Calls Tryz.prog n_enthymemeref07_fit #[.i f,e.v] w R:=callsX X [eS0,eS2,eS5,eS7,eS6,eS4,eS3,eS1] h
end enthymemeref07_fit
namespace enthymemeref07_result
noncomputable abbrev X:Fx:=⟨Tryz.prog,Tryz.f91,[(10,ls [0,1,2,3,4,5,6,7,8,9,10,11]),(13,ls [0,1,2,3,4,5,6,8,9,10,11,12,13,14,15,7,16,17]),(15,ls [0,1,2,3,4,5,7,8,9,6,10,11,12,13,14,15,16,17,18,19,20,21,22,23,24,25]),(18,ls [0,1,2,3,4,6,7,8,5,9,10,11,12,13,14,15,16,17,18]),(27,ls [1,2,3,0,4,5,6,7,8,9,10]),(29,ls [0,1,2,3,4,5,6,8,9,10,11,12,13,14,15,7,16,17]),(31,ls [0,1,2,3,4,5,6,8,9,10,11,12,13,14,15,7,16,17])],[2,4,6]⟩
abbrev P0:Ps:=[(4,.l [.I,.I,.I] ty_api_Sort)]
abbrev S0T (d:Nat) (e f g:Int) (w:World) (R:Post):Prop:=
 cf17 [d] n_enthymemeref07_BV #[.i 1] w λa b c j=>loc [d] j λk=>R (.returned (.tuple #[.agg #[.i a,.i b,.i c],.bool true])) k
noncomputable def eS0:=entS X [] (pth [0,1,1,1,1,1,2]) P0 S0T
abbrev P1:Ps:=[(2,.l [.I,.s,.I,.I,.U,.st,.I,.I,.I] ty_api_Node),(4,.l [.I,.I,.I] ty_api_Sort),(6,.l [.I,.I,.I] ty_api_Sort)]
abbrev S2T (f:Nat) (l:Int) (m:Sl) (a n o:Int) (p:ByteArray) (q r s:Int) (g:Nat) (t u v:Int) (j:Nat) (aa e ab:Int) (w:World) (R:Post):Prop:=
 loc [f,g,j] w λx=>cf17 [f,g,j] n_enthymemeref07_BV #[.i (IntKind.wrap .i64 (e+a))] x λb c d k=>sel (decide (a>=1)) (loc [f,g,j] k λy=>R (.returned (.tuple #[.agg #[.i b,.i c,.i d],.bool (decide (a<=(IntKind.wrap .i64 (64 - e))))])) y) (loc [f,g,j] k λz=>R (.returned (.tuple #[.agg #[.i b,.i c,.i d],.bool false])) z)
noncomputable def eS2:=entS X [eS0] (pth [0,1,9,1,1,1,2]) P1 S2T
abbrev S4T (d:Nat) (e f g:Int) (w:World) (R:Post):Prop:=
 cf17 [d] n_enthymemeref07_BV #[.i 7] w λa b c j=>loc [d] j λk=>R (.returned (.tuple #[.agg #[.i a,.i b,.i c],.bool true])) k
noncomputable def eS4:=entS X [eS2,eS0] (pth [0,1,15,1,1,1,2]) P0 S4T
abbrev P2:Ps:=[(1,.v [.s]),(2,.l [.I,.s,.I,.I,.U,.st,.I,.I,.I] ty_api_Node),(4,.l [.I,.I,.I] ty_api_Sort),(6,.l [.I,.I,.I] ty_api_Sort),(11,.v [.I])]
abbrev S5T (l:Sl) (b:Nat) (au:Int) (av:Sl) (r aw ax:Int) (ay:ByteArray) (az bb bc:Int) (c:Nat) (bd be bf:Int) (d:Nat) (am g an q:Int) (w:World) (R:Post):Prop:=
 sel (q==28) (loc [b,c,d] w λw1=>cf17 [b,c,d] n_enthymemeref07_BV #[.i 8] w1 λm o p w2=>sel (decide (r>=0)) (loc [b,c,d] w2 λw5=>R (.returned (.tuple #[.agg #[.i m,.i o,.i p],.bool (decide (r<=63))])) w5) (loc [b,c,d] w2 λw8=>R (.returned (.tuple #[.agg #[.i m,.i o,.i p],.bool false])) w8)) (sel (q==29) ((0:Int)<=1/\1<((l.n:Nat):Int)/\optP l.a λs=>loc [b,c,d] w λw9=>∃t:Int,w9.cell? ((s.add (Int.toNat 1 *3)).add 1)=some (.i t)/\
 (0:Int)<=1/\1<((l.n:Nat):Int)/\optP l.a λe=>∃j:Int,w9.cell? ((e.add (Int.toNat 1 *3)).add 1)=some (.i j)/\
 cf17 [b,c,d] n_enthymemeref07_Strings #[.i (IntKind.wrap .i64 (g+t))] w9 λu v x ah=>ah.cell? ((e.add (Int.toNat 1 *3)).add 1)=some (.i j)/\loc [b,c,d] ah λai=>ai.cell? ((e.add (Int.toNat 1 *3)).add 1)=some (.i j)/\R (.returned (.tuple #[.agg #[.i u,.i v,.i x],.bool (decide ((IntKind.wrap .i64 (g+j))<=64))])) ai) (sel (q==32) ((0:Int)<=2/\2<((l.n:Nat):Int)/\optP l.a λy=>loc [b,c,d] w λag=>∃z:Int,ag.cell? ((y.add (Int.toNat 2 *3)).add 1)=some (.i z)/\
 (0:Int)<=2/\2<((l.n:Nat):Int)/\optP l.a λf=>∃k:Int,ag.cell? ((f.add (Int.toNat 2 *3)).add 1)=some (.i k)/\
 cf17 [b,c,d] n_enthymemeref07_Strings #[.i (IntKind.wrap .i64 (g+z))] ag λaa ab ac aj=>aj.cell? ((f.add (Int.toNat 2 *3)).add 1)=some (.i k)/\loc [b,c,d] aj λak=>ak.cell? ((f.add (Int.toNat 2 *3)).add 1)=some (.i k)/\R (.returned (.tuple #[.agg #[.i aa,.i ab,.i ac],.bool (decide ((IntKind.wrap .i64 (g+k))<=64))])) ak) (sel (q==34) (cf17 [b,c,d] n_enthymemeref07_Strings #[.i 1] w λad ae af ao=>loc [b,c,d] ao λaq=>R (.returned (.tuple #[.agg #[.i ad,.i ae,.i af],.bool true])) aq) (loc [b,c,d] w λar=>R (.returned (.tuple #[.agg #[.i am,.i g,.i an],.bool true])) ar))))
noncomputable def eS5:=entS X [eS4,eS2,eS0] (pth [16,1,1,1,2]) P2 S5T
abbrev S3T (k1:Sl) (k:Nat) (m:Int) (n:Sl) (o p q:Int) (r:ByteArray) (s t u:Int) (f:Nat) (b c d:Int) (l:Nat) (g j e a:Int) (w:World) (R:Post):Prop:=
 sel (a==24) (cf17 [k,f,l] n_enthymemeref07_Element #[.agg #[.i g,.i j,.i e]] w λv x y w1=>loc [k,f,l] w1 λw4=>R (.returned (.tuple #[.agg #[.i v,.i x,.i y],.bool true])) w4) (sel (a==26) (cf17 [k,f,l] n_enthymemeref07_BV #[.i e] w λz aa ab w5=>loc [k,f,l] w5 λw8=>R (.returned (.tuple #[.agg #[.i z,.i aa,.i ab],.bool true])) w8) (sel (a==27) (sel (a==27) (S4T f b c d w R) (S5T k1 k m n o p q r s t u f b c d l g j e a w R)) (sel (a==31) (S4T f b c d w R) (S5T k1 k m n o p q r s t u f b c d l g j e a w R))))
noncomputable def eS3:=entS X [eS5,eS4,eS2,eS0] (pth [10,1,1,1,2]) P2 S3T
abbrev S1T (j:Sl) (b:Nat) (l:Int) (m:Sl) (e f o:Int) (p:ByteArray) (q r s:Int) (c:Nat) (t u v:Int) (d:Nat) (ab g ac k:Int) (w:World) (R:Post):Prop:=
 sel (k==19) ((0:Int)<=1/\1<((j.n:Nat):Int)/\optP j.a λah=>∃ax:Int,w.cell? ((ah.add (Int.toNat 1 *3)).add 0)=some (.i ax)/\
 sel (ax==1) ((0:Int)<=1/\1<((j.n:Nat):Int)/\optP j.a λai=>loc [b,c,d] w λw1=>∃ae:Int,w1.cell? ((ai.add (Int.toNat 1 *3)).add 1)=some (.i ae)/\
 (0:Int)<=2/\2<((j.n:Nat):Int)/\optP j.a λaj=>∃af:Int,w1.cell? ((aj.add (Int.toNat 2 *3)).add 1)=some (.i af)/\
 cf17 [b,c,d] n_enthymemeref07_Strings #[.i (if ae<af then af else ae)] w1 λak al am w2=>loc [b,c,d] w2 λw5=>R (.returned (.tuple #[.agg #[.i ak,.i al,.i am],.bool true])) w5) ((0:Int)<=1/\1<((j.n:Nat):Int)/\optP j.a λan=>ld3_2 w (an.add (Int.toNat 1 *3)) λao ap aq=>loc [b,c,d] w λw8=>R (.returned (.tuple #[.agg #[.i ao,.i ap,.i aq],.bool true])) w8)) (sel (k==20) ((0:Int)<=1/\1<((j.n:Nat):Int)/\optP j.a λar=>loc [b,c,d] w λw9=>∃ay:Int,w9.cell? ((ar.add (Int.toNat 1 *3)).add 1)=some (.i ay)/\
 (0:Int)<=1/\1<((j.n:Nat):Int)/\optP j.a λx=>∃ad:Int,w9.cell? ((x.add (Int.toNat 1 *3)).add 1)=some (.i ad)/\
 cf17 [b,c,d] n_enthymemeref07_BV #[.i (IntKind.wrap .i64 (g+ay))] w9 λau av aw az=>az.cell? ((x.add (Int.toNat 1 *3)).add 1)=some (.i ad)/\loc [b,c,d] az λbb=>bb.cell? ((x.add (Int.toNat 1 *3)).add 1)=some (.i ad)/\R (.returned (.tuple #[.agg #[.i au,.i av,.i aw],.bool (decide ((IntKind.wrap .i64 (g+ad))<=64))])) bb) (sel (k==21) (loc [b,c,d] w λbe=>cf17 [b,c,d] n_enthymemeref07_BV #[.i (IntKind.wrap .i64 ((IntKind.wrap .i64 (e - f))+1))] be λy z aa ag=>sel (decide (f>=0)) (sel (decide (f<=e)) (loc [b,c,d] ag λbf=>R (.returned (.tuple #[.agg #[.i y,.i z,.i aa],.bool (decide (e<g))])) bf) (loc [b,c,d] ag λbg=>R (.returned (.tuple #[.agg #[.i y,.i z,.i aa],.bool false])) bg)) (loc [b,c,d] ag λbh=>R (.returned (.tuple #[.agg #[.i y,.i z,.i aa],.bool false])) bh)) (sel (k==22) (sel (k==22) (S2T b l m e f o p q r s c t u v d ab g ac w R) (S3T j b l m e f o p q r s c t u v d ab g ac k w R)) (sel (k==23) (S2T b l m e f o p q r s c t u v d ab g ac w R) (S3T j b l m e f o p q r s c t u v d ab g ac k w R)))))
noncomputable def eS1:=entS X [eS3,eS5,eS4,eS2,eS0] (pth [2,1,1,1,2]) P2 S1T
theorem okT (b:Int) (g:Sl) (j k l:Int) (m:ByteArray) (o p q:Int) (y:Sl) (w:World) (R:Post) (h:newV [] w λe w1=>
 newV [e] w1 λc w2=>
 (0:Int)<=0/\0<((y.n:Nat):Int)/\optP y.a λz=>ld3_2 w2 (z.add (Int.toNat 0 *3)) λr s t=>newV [e,c] w2 λf x=>
 sel (b==16) (sel (b==16) (loc [e,c,f] x λd=>S0T c 0 0 0 d R) (loc [e,c,f] x λd=>S1T y e b g j k l m o p q c 0 0 0 f r s t b d R)) (sel (b==17) (sel (b==17) (loc [e,c,f] x λd=>S0T c 0 0 0 d R) (loc [e,c,f] x λd=>S1T y e b g j k l m o p q c 0 0 0 f r s t b d R)) (sel (b==18) (sel (b==18) (loc [e,c,f] x λd=>S0T c 0 0 0 d R) (loc [e,c,f] x λd=>S1T y e b g j k l m o p q c 0 0 0 f r s t b d R)) (sel (b==33) (loc [e,c,f] x λd=>S0T c 0 0 0 d R) (loc [e,c,f] x λd=>S1T y e b g j k l m o p q c 0 0 0 f r s t b d R))))):Calls Tryz.prog n_enthymemeref07_result #[.agg #[.i b,g.v,.i j,.i k,.u l,.string m,.i o,.i p,.i q],y.v] w R:=callsX X [eS1,eS3,eS5,eS4,eS2,eS0] h
end enthymemeref07_result
namespace enthymemeref07_SortOf
noncomputable abbrev X:Fx:=⟨Tryz.prog,Tryz.f63,[],[3,4,10]⟩
abbrev P0:Ps:=[(0,.v [.s]),(3,.l [.I,.s,.I,.I,.U,.st,.I,.I,.I] ty_api_Node),(4,.l [.I,.I,.I] ty_api_Sort),(7,.v [.s]),(8,.v [.I])]
def L0T (n:Sl) (q:Nat) (a:Int) (b:Sl) (c d e:Int) (f:ByteArray) (g i j:Int) (r:Nat) (k l m:Int) (p:Sl) (o:Int) (w:World) (R:Post):Prop:=mkCur P0 0 (X.Sem (pth [0,1,1,1,5])) n q a b c d e f g i j r k l m p o w R
noncomputable def eL0:=entL X (pth [0,1,1,1,5]) P0 L0T
abbrev P1:Ps:=[(4,.l [.I,.I,.I] ty_api_Sort),(10,.l [.I,.I,.I] ty_api_Sort),(12,.v [.b])]
abbrev S1T (f:Nat) (g j k:Int) (e:Nat) (b c d:Int) (a:Bool) (w:World) (R:Post):Prop:=
 sel (!a) (loc [f,e] w λl=>R (.returned (.tuple #[.agg #[.i 0,.i 0,.i 0],.i 2])) l) (loc [f,e] w λm=>R (.returned (.tuple #[.agg #[.i b,.i c,.i d],.i 0])) m)
noncomputable def eS1:=entS X [eL0] (pth [11]) P1 S1T
theorem L0T_step:∀(g0:Sl) (d:Nat) (e:Int) (b:Sl) (q r s:Int) (l:ByteArray) (t x y:Int) (c:Nat) (m o p:Int) (k7:Sl) (i8:Int) (w:World) (R:Post) (h:sel (decide (i8<((b.n:Nat):Int))) ((0:Int)<=i8/\i8<((b.n:Nat):Int)/\optP b.a λag=>∃z:Int,w.cell? (ag.add (Int.toNat i8 *1))=some (.i z)/\
 (0:Int)<=z/\z<((g0.n:Nat):Int)/\optP g0.a λah=>ld3_2 w ((ah.add (Int.toNat z *9)).add 6) λai aj ak=>nwV w (.cells #[.i ai,.i aj,.i ak] ty_api_Sort) λan=>
 ∃(am:Sl) (ab:World),Sem.run Tryz.prog (Builtin.append_ #[ty_sl_api_Sort,ty_sl_api_Sort] ty_sl_api_Sort #[k7.v,.slice (some (nb w)) 1 1]) an=.ok (am.v) ab/\kept [d,c] an ab/\L0T g0 d e b q r s l t x y c m o p am (IntKind.wrap .i64 (i8+1)) ab R) (cf0 [d,c] n_enthymemeref07_fit #[.i e,k7.v] w λap ao=>sel (!ap) (loc [d,c] ao λar=>R (.returned (.tuple #[.agg #[.i 0,.i 0,.i 0],.i 9])) ar) (cf18 [d,c] n_enthymemeref07_result #[.agg #[.i e,b.v,.i q,.i r,.u s,.string l,.i t,.i x,.i y],k7.v] ao λg j k al au=>newV [d,c] au λf ac=>
 sel (!al) (loc [d,c,f] ac λav=>R (.returned (.tuple #[.agg #[.i 0,.i 0,.i 0],.i 5])) av) (sel (e !=33) (loc [d,c,f] ac λad=>S1T c m o p f g j k true ad R) (loc [d,c,f] ac λad=>cf0 [d,c,f] n_enthymemeref04_Canonical #[.string l] ad λaq aw=>S1T c m o p f g j k aq aw R))))),L0T g0 d e b q r s l t x y c m o p k7 i8 w R:=mp (stepL (X:=X) [eS1,eL0] (pth [0,1,1,1,5]) P0)
theorem okT (r:Sl) (b:Int) (a:Sl) (c d e:Int) (f:ByteArray) (g j k:Int) (w:World) (R:Post) (h:newV [] w λl z=>
 newV [l] z λq w2=>
 cf1 [l,q] n_enthymemeref07_fields #[r.v,.agg #[.i b,a.v,.i c,.i d,.u e,.string f,.i g,.i j,.i k]] w2 λt x=>sel (t !=0) (loc [l,q] x λw6=>R (.returned (.tuple #[.agg #[.i 0,.i 0,.i 0],.i t])) w6) (sel (((a.n:Nat):Int)==0) (cf19 [l,q] n_enthymemeref07_leaf #[r.v,.agg #[.i b,a.v,.i c,.i d,.u e,.string f,.i g,.i j,.i k]] x λm o p s w7=>loc [l,q] w7 λy=>R (.returned (.tuple #[.agg #[.i m,.i o,.i p],.i s])) y) (L0T r l b a c d e f g j k q 0 0 0 ⟨none,0,0⟩ 0 x R))):Calls Tryz.prog n_enthymemeref07_SortOf #[r.v,.agg #[.i b,a.v,.i c,.i d,.u e,.string f,.i g,.i j,.i k]] w R:=callsX X [eS1,eL0] h
end enthymemeref07_SortOf
namespace enthymemeref07_Same
noncomputable abbrev X:Fx:=⟨Tryz.prog,Tryz.f93,[],[2,3]⟩
theorem okT (b:Int) (c:Sl) (d e f:Int) (g:ByteArray) (j k l m:Int) (n:Sl) (o p q:Int) (r:ByteArray) (s t x:Int) (w:World) (R:Post) (h:newV [] w λy w1=>
 newV [y] w1 λb3 a=>
 sel (b==m) (sel (d==o) (sel (e==p) (sel (f==q) (sel (g.toList==r.toList) (sel ((j==s)&&((k==t)&&((l==x)&&true))) (cf0 [y,b3] n_enthymemeref01_SameInts #[c.v,n.v] a λz w3=>R (.returned (.bool z)) w3) (R (.returned (.bool false)) a)) (R (.returned (.bool false)) a)) (R (.returned (.bool false)) a)) (R (.returned (.bool false)) a)) (R (.returned (.bool false)) a)) (R (.returned (.bool false)) a)):Calls Tryz.prog n_enthymemeref07_Same #[.agg #[.i b,c.v,.i d,.i e,.u f,.string g,.i j,.i k,.i l],.agg #[.i m,n.v,.i o,.i p,.u q,.string r,.i s,.i t,.i x]] w R:=callsX X [] h
end enthymemeref07_Same
namespace enthymemeref07_Index
noncomputable abbrev X:Fx:=⟨Tryz.prog,Tryz.f64,[(7,ls [0,1,2,3,4,5,6])],[3,5]⟩
abbrev P0:Ps:=[(0,.v [.s]),(3,.l [.I,.s,.I,.I,.U,.st,.I,.I,.I] ty_api_Node),(7,.v [.I])]
def L1T (k:Sl) (m:Nat) (a:Int) (b:Sl) (c d e:Int) (f:ByteArray) (g i j l:Int) (w:World) (R:Post):Prop:=mkCur P0 0 (X.Sem (pth [0,1,1,1,3])) k m a b c d e f g i j l w R
noncomputable def eL1:=entL X (pth [0,1,1,1,3]) P0 L1T
theorem L1T_step:∀(o:Sl) (p:Nat) (c:Int) (d:Sl) (e f g:Int) (j:ByteArray) (k l m b:Int) (w:World) (R:Post) (h:sel (decide (b<((o.n:Nat):Int))) ((0:Int)<=b/\b<((o.n:Nat):Int)/\optP o.a λq=>loc [p] w λw1=>ld9_3 w1 (q.add (Int.toNat b *9)) λr s t x y z aa ab ac=>cf0 [p] n_enthymemeref07_Same #[.agg #[.i r,s.v,.i t,.i x,.u y,.string z,.i aa,.i ab,.i ac],.agg #[.i c,d.v,.i e,.i f,.u g,.string j,.i k,.i l,.i m]] w1 λad w2=>sel ad (R (.returned (.i b)) w2) (L1T o p c d e f g j k l m (IntKind.wrap .i64 (b+1)) w2 R)) (R (.returned (.i (-1))) w)),L1T o p c d e f g j k l m b w R:=mp (stepL (X:=X) [eL1] (pth [0,1,1,1,3]) P0)
abbrev P1:Ps:=[(0,.v [.s]),(3,.l [.I,.s,.I,.I,.U,.st,.I,.I,.I] ty_api_Node)]
abbrev S0T (k:Sl) (l:Nat) (a:Int) (b:Sl) (c d e:Int) (f:ByteArray) (g i j:Int) (w:World) (R:Post):Prop:=
 L1T k l a b c d e f g i j 0 w R
noncomputable def eS0:=entS X [eL1] (pth [3]) P1 S0T
theorem okT (p:Sl) (a:Int) (b:Sl) (c d e:Int) (f:ByteArray) (g j k:Int) (w:World) (R:Post) (h:newV [] w λl t=>
 cf19 [l] n_enthymemeref07_SortOf #[p.v,.agg #[.i a,b.v,.i c,.i d,.u e,.string f,.i g,.i j,.i k]] t λm n o q x=>newV [l] x λr s=>
 sel (q==0) (loc [l,r] s λz=>S0T p l a b c d e f m n o z R) (loc [l,r] s λy=>S0T p l a b c d e f g j k y R)):Calls Tryz.prog n_enthymemeref07_Index #[p.v,.agg #[.i a,b.v,.i c,.i d,.u e,.string f,.i g,.i j,.i k]] w R:=callsX X [eS0,eL1] h
end enthymemeref07_Index
namespace enthymemeref07_Add
noncomputable abbrev X:Fx:=⟨Tryz.prog,Tryz.f30,[(10,(.sq [1,3,6,7] (.fork (.sq [0] (.fork (ls [2,4,5,8,9,10]) (ls [4,2,5,8,9,10]))) (ls [4,0,2,5,8,9,10]))))],[3,7]⟩
theorem okT (o:Sl) (e:Int) (f:Sl) (g j k:Int) (l:ByteArray) (ad ae af:Int) (w:World) (R:Post) (h:newV [] w λd w1=>
 cf19 [d] n_enthymemeref07_SortOf #[o.v,.agg #[.i e,f.v,.i g,.i j,.u k,.string l,.i ad,.i ae,.i af]] w1 λa b c x w2=>newV [d] w2 λm w3=>
 sel (x !=0) (loc [d,m] w3 λw6=>R (.returned (.tuple #[.slice none 0 0,.i 0,.i x])) w6) (loc [d,m] w3 λw9=>cf1 [d,m] n_enthymemeref07_Index #[o.v,.agg #[.i e,f.v,.i g,.i j,.u k,.string l,.i a,.i b,.i c]] w9 λaj y=>sel (decide (aj>=0)) (R (.returned (.tuple #[o.v,.i aj,.i 0])) y) (sel (decide (((o.n:Nat):Int)>=4096)) (R (.returned (.tuple #[.slice none 0 0,.i 0,.i 4])) y) (((loc [d,m] y λp=>nwV p (.cells #[] ty_api_Node) λz=>
 ((∃(ak:Sl) (aa:World),Sem.run Tryz.prog (Builtin.append_ #[ty_sl_api_Node,ty_sl_api_Node] ty_sl_api_Node #[.slice (some (nb p)) 0 0,o.v]) z=.ok (ak.v) aa/\kept [d,m] z aa/\nwV aa (.cells #[.i e,f.v,.i g,.i j,.u k,.string l,.i a,.i b,.i c] ty_api_Node) λam=>
 ∃(al:Sl) (ag:World),Sem.run Tryz.prog (Builtin.append_ #[ty_sl_api_Node,ty_sl_api_Node] ty_sl_api_Node #[ak.v,.slice (some (nb aa)) 1 1]) am=.ok (al.v) ag/\kept [d,m] am ag/\R (.returned (.tuple #[al.v,.i ((o.n:Nat):Int),.i 0])) ag)/\(nwV z (.cells #[.i e,f.v,.i g,.i j,.u k,.string l,.i a,.i b,.i c] ty_api_Node) λan=>
 ∃(q:Sl) (ab:World),Sem.run Tryz.prog (Builtin.append_ #[ty_sl_api_Node,ty_sl_api_Node] ty_sl_api_Node #[.slice (some (nb p)) 0 0,o.v]) an=.ok (q.v) ab/\kept [d,m] an ab/\∃(s:Sl) (ah:World),Sem.run Tryz.prog (Builtin.append_ #[ty_sl_api_Node,ty_sl_api_Node] ty_sl_api_Node #[q.v,.slice (some (nb z)) 1 1]) ab=.ok (s.v) ah/\kept [d,m] ab ah/\R (.returned (.tuple #[s.v,.i ((o.n:Nat):Int),.i 0])) ah)))/\(loc [d,m] y λp=>nwV p (.cells #[.i e,f.v,.i g,.i j,.u k,.string l,.i a,.i b,.i c] ty_api_Node) λao=>
 nwV ao (.cells #[] ty_api_Node) λap=>
 ∃(r:Sl) (ac:World),Sem.run Tryz.prog (Builtin.append_ #[ty_sl_api_Node,ty_sl_api_Node] ty_sl_api_Node #[.slice (some (nb ao)) 0 0,o.v]) ap=.ok (r.v) ac/\kept [d,m] ap ac/\∃(t:Sl) (ai:World),Sem.run Tryz.prog (Builtin.append_ #[ty_sl_api_Node,ty_sl_api_Node] ty_sl_api_Node #[r.v,.slice (some (nb p)) 1 1]) ac=.ok (t.v) ai/\kept [d,m] ac ai/\R (.returned (.tuple #[t.v,.i ((o.n:Nat):Int),.i 0])) ai)))))):Calls Tryz.prog n_enthymemeref07_Add #[o.v,.agg #[.i e,f.v,.i g,.i j,.u k,.string l,.i ad,.i ae,.i af]] w R:=callsX X [] h
end enthymemeref07_Add
namespace enthymemeref07_start
noncomputable abbrev X:Fx:=⟨Tryz.prog,Tryz.f28,[],[]⟩
abbrev P0:Ps:=[(3,.v [.s])]
abbrev S1 (a:Sl) (w:World) (R:Post):Prop:=
 R (.returned (a.v)) w
noncomputable def eS1:=entS X [] (pth [4]) P0 S1
abbrev P1:Ps:=[(0,.v [.I]),(3,.v [.s])]
abbrev S0 (a:Int) (n:Sl) (w:World) (R:Post):Prop:=
 sel (decide (a>1)) (ca17 n_enthymemeref07_Strings #[.i 2] w λb c d q=>ca17 n_enthymemeref07_Strings #[.i 1] q λe f g r=>ca17 n_enthymemeref07_BV #[.i 7] r λj k l o=>nwV o (.cells #[.i 0,.slice none 0 0,.i 0,.i 0,.u 0,.string (ByteArray.mk #[115]),.i b,.i c,.i d,.i 0,.slice none 0 0,.i 0,.i 0,.u 0,.string (ByteArray.mk #[116]),.i e,.i f,.i g,.i 0,.slice none 0 0,.i 0,.i 0,.u 0,.string (ByteArray.mk #[105]),.i j,.i k,.i l,.i 0,.slice none 0 0,.i 0,.i 0,.u 0,.string (ByteArray.mk #[122]),.i 3,.i 1,.i 1] ty_api_Node) λs=>
 ∃(m:Sl) (p:World),Sem.run Tryz.prog (Builtin.append_ #[ty_sl_api_Node,ty_sl_api_Node] ty_sl_api_Node #[n.v,.slice (some (nb o)) 4 4]) s=.ok (m.v) p/\S1 m p R) (S1 n w R)
noncomputable def eS0:=entS X [eS1] (pth [3]) P1 S0
theorem ok (a:Int) (w:World) (R:Post) (h:ca17 n_enthymemeref07_BV #[.i 2] w λf g j t=>ca17 n_enthymemeref07_BV #[.i 2] t λk l m x=>ca17 n_enthymemeref07_BV #[.i 1] x λn o p y=>ca17 n_enthymemeref07_BV #[.i 3] y λb c d q=>nwV q (.cells #[.i 0,.slice none 0 0,.i 0,.i 0,.u 0,.string (ByteArray.mk #[97]),.i f,.i g,.i j,.i 0,.slice none 0 0,.i 0,.i 0,.u 0,.string (ByteArray.mk #[98]),.i k,.i l,.i m,.i 0,.slice none 0 0,.i 0,.i 0,.u 0,.string (ByteArray.mk #[99]),.i n,.i o,.i p,.i 0,.slice none 0 0,.i 0,.i 0,.u 0,.string (ByteArray.mk #[100]),.i b,.i c,.i d] ty_api_Node) λr=>
 sel (decide (a>0)) (nwV r (.cells #[.i 0,.slice none 0 0,.i 0,.i 0,.u 0,.string (ByteArray.mk #[109]),.i 2,.i 2,.i 1,.i 0,.slice none 0 0,.i 0,.i 0,.u 0,.string (ByteArray.mk #[110]),.i 2,.i 2,.i 1] ty_api_Node) λz=>
 ∃(e:Sl) (s:World),Sem.run Tryz.prog (Builtin.append_ #[ty_sl_api_Node,ty_sl_api_Node] ty_sl_api_Node #[.slice (some (nb q)) 4 4,.slice (some (nb r)) 2 2]) z=.ok (e.v) s/\S0 a e s R) (S0 a ⟨some (nb q),4,4⟩ r R)):Calls Tryz.prog n_enthymemeref07_start #[.i a] w R:=callsX X [eS0,eS1] h
end enthymemeref07_start
namespace enthymemeref07_Like
noncomputable abbrev X:Fx:=⟨Tryz.prog,Tryz.f61,[(5,ls [0,1,2,3,4,5,6])],[4]⟩
abbrev P0:Ps:=[(0,.v [.s]),(2,.v [.I]),(4,.l [.I,.I,.I] ty_api_Sort),(7,.v [.s]),(8,.v [.I])]
def L0T (d:Sl) (g:Int) (i:Nat) (a b c:Int) (f:Sl) (e:Int) (w:World) (R:Post):Prop:=mkCur P0 0 (X.Sem (pth [0,1,1,1,2])) d g i a b c f e w R
noncomputable def eL0:=entL X (pth [0,1,1,1,2]) P0 L0T
abbrev S1T (d:Sl) (g:Int) (i:Nat) (a b c:Int) (f:Sl) (e:Int) (w:World) (R:Post):Prop:=
 L0T d g i a b c f (IntKind.wrap .i64 (e+1)) w R
noncomputable def eS1:=entS X [eL0] (pth [2,2,1,1,2]) P0 S1T
theorem L0T_step:∀(g:Sl) (l:Int) (j:Nat) (b c d:Int) (f:Sl) (e:Int) (w:World) (R:Post) (h:sel (decide (e<((g.n:Nat):Int))) ((0:Int)<=e/\e<((g.n:Nat):Int)/\optP g.a λm=>loc [j] w λs=>ld3_2 s ((m.add (Int.toNat e *9)).add 6) λo p q=>sel ((o==b)&&((p==c)&&((q==d)&&true))) (nwV s (.cells #[.i e] ty_int) λy=>
 ∃(t:Sl) (x:World),Sem.run Tryz.prog (Builtin.append_ #[ty_sl_int,ty_sl_int] ty_sl_int #[f.v,.slice (some (nb s)) 1 1]) y=.ok (t.v) x/\kept [j] y x/\S1T g l j b c d t e x R) (S1T g l j b c d f e s R)) (sel (((f.n:Nat):Int)==0) (R (.returned (.i (-1))) w) (cf1 [j] n_enthymemeref01_Around #[.i l,.i ((f.n:Nat):Int)] w λk z=>(0:Int)<=k/\k<((f.n:Nat):Int)/\optP f.a λr=>∃u:Int,z.cell? (r.add (Int.toNat k *1))=some (.i u)/\
 R (.returned (.i u)) z))),L0T g l j b c d f e w R:=mp (stepL (X:=X) [eS1,eL0] (pth [0,1,1,1,2]) P0)
theorem okT (d:Sl) (a b c e:Int) (w:World) (R:Post) (h:newV [] w λf g=>
 L0T d e f a b c ⟨none,0,0⟩ 0 g R):Calls Tryz.prog n_enthymemeref07_Like #[d.v,.agg #[.i a,.i b,.i c],.i e] w R:=callsX X [eS1,eL0] h
end enthymemeref07_Like
namespace enthymemeref07_wanted
noncomputable abbrev X:Fx:=⟨Tryz.prog,Tryz.f62,[],[10,11]⟩
abbrev P0:Ps:=[(4,.v [.I]),(10,.l [.I,.I,.I] ty_api_Sort)]
abbrev S0T (k:Int) (a:Nat) (f g j:Int) (w:World) (R:Post):Prop:=
 cf1 [a] n_enthymemeref01_Around #[.i k,.i 3] w λe l=>cf17 [a] n_enthymemeref07_Strings #[.i e] l λb c d m=>loc [a] m λn=>R (.returned (.agg #[.i b,.i c,.i d])) n
noncomputable def eS0:=entS X [] (pth [0,1,11,1,1,1,2]) P0 S0T
abbrev P1:Ps:=[(10,.l [.I,.I,.I] ty_api_Sort),(11,.l [.I,.I,.I] ty_api_Sort)]
abbrev S1T (d:Nat) (f g j:Int) (e:Nat) (a b c:Int) (w:World) (R:Post):Prop:=
 loc [d,e] w λk=>R (.returned (.agg #[.i a,.i b,.i c])) k
noncomputable def eS1:=entS X [eS0] (pth [3]) P1 S1T
theorem okT (m:Sl) (e g p o:Int) (w:World) (R:Post) (h:newV [] w λb w1=>
 (0:Int)<=g/\g<((m.n:Nat):Int)/\optP m.a λr=>ld3_2 w1 ((r.add (Int.toNat g *9)).add 6) λk l f=>newV [b] w1 λc j=>
 sel (e==19) (loc [b,c] j λd=>cf1 [b,c] n_enthymemeref01_Around #[.i o,.i ((m.n:Nat):Int)] d λq w6=>(0:Int)<=q/\q<((m.n:Nat):Int)/\optP m.a λs=>ld3_2 w6 ((s.add (Int.toNat q *9)).add 6) λt u x=>loc [b,c] w6 λw9=>R (.returned (.agg #[.i t,.i u,.i x])) w9) (sel (e==20) (loc [b,c] j λd=>cf1 [b,c] n_enthymemeref01_Around #[.i o,.i 3] d λan ap=>cf17 [b,c] n_enthymemeref07_BV #[.i (IntKind.wrap .i64 (1+an))] ap λy z aa aq=>loc [b,c] aq λar=>R (.returned (.agg #[.i y,.i z,.i aa])) ar) (sel (e==24) (loc [b,c] j λd=>cf17 [b,c] n_enthymemeref07_BV #[.i f] d λab ac ad au=>loc [b,c] au λav=>R (.returned (.agg #[.i ab,.i ac,.i ad])) av) (sel (e==25) (sel (p==1) (loc [b,c] j λd=>cf17 [b,c] n_enthymemeref07_BV #[.i f] d λae af ag aw=>loc [b,c] aw λax=>R (.returned (.agg #[.i ae,.i af,.i ag])) ax) (loc [b,c] j λd=>cf17 [b,c] n_enthymemeref07_Element #[.agg #[.i k,.i l,.i f]] d λah ai aj ay=>loc [b,c] ay λaz=>R (.returned (.agg #[.i ah,.i ai,.i aj])) az)) (sel (e==30) (loc [b,c] j λd=>cf17 [b,c] n_enthymemeref07_BV #[.i 7] d λak al am bb=>loc [b,c] bb λbc=>R (.returned (.agg #[.i ak,.i al,.i am])) bc) (sel (e==29) (sel (e==29) (loc [b,c] j λd=>S0T o b 0 0 0 d R) (loc [b,c] j λd=>S1T b 0 0 0 c k l f d R)) (sel (e==31) (sel (e==31) (loc [b,c] j λd=>S0T o b 0 0 0 d R) (loc [b,c] j λd=>S1T b 0 0 0 c k l f d R)) (sel (e==32) (loc [b,c] j λd=>S0T o b 0 0 0 d R) (loc [b,c] j λd=>S1T b 0 0 0 c k l f d R))))))))):Calls Tryz.prog n_enthymemeref07_wanted #[m.v,.i e,.i g,.i p,.i o] w R:=callsX X [eS1,eS0] h
end enthymemeref07_wanted
namespace enthymemeref07_node
noncomputable abbrev X:Fx:=⟨Tryz.prog,Tryz.f29,[(38,ls [0,1,2,3,4,5,6,7,8,9,10,11,12])],[8,10,16]⟩
abbrev P0:Ps:=[(0,.v [.s]),(2,.v [.I]),(3,.v [.I]),(8,.l [.I,.s,.I,.I,.U,.st,.I,.I,.I] ty_api_Node),(10,.l [.I,.s,.I,.I,.U,.st,.I,.I,.I] ty_api_Node),(11,.v [.I]),(13,.v [.I]),(14,.v [.I])]
def L5T (y:Sl) (m2 z:Int) (t8:Nat) (m:Int) (n:Sl) (o p q:Int) (r:ByteArray) (s t u:Int) (l:Nat) (a:Int) (b:Sl) (c d e:Int) (f:ByteArray) (g i j x k v:Int) (w:World) (R:Post):Prop:=mkCur P0 0 (X.Sem (pth [0,1,1,1,8])) y m2 z t8 m n o p q r s t u l a b c d e f g i j x k v w R
noncomputable def eL5:=entL X (pth [0,1,1,1,8]) P0 L5T
abbrev P1:Ps:=[(0,.v [.s]),(2,.v [.I]),(3,.v [.I]),(8,.l [.I,.s,.I,.I,.U,.st,.I,.I,.I] ty_api_Node),(10,.l [.I,.s,.I,.I,.U,.st,.I,.I,.I] ty_api_Node),(11,.v [.I]),(13,.v [.I]),(14,.v [.I]),(15,.v [.I])]
abbrev S7T (g0:Sl) (m2 k3:Int) (q:Nat) (s:Int) (t:Sl) (x y z:Int) (aa:ByteArray) (ab ac ad:Int) (a:Nat) (c:Int) (d:Sl) (e f g:Int) (j:ByteArray) (k l m ag n ae b:Int) (w:World) (R:Post):Prop:=
 sel (decide (b<0)) (loc [q,a] w λw9=>R (.returned (.agg #[.i (-1),.slice none 0 0,.i 0,.i 0,.u 0,.s0,.i 0,.i 0,.i 0])) w9) (nwV w (.cells #[.i b] ty_int) λr=>
 ∃(o:Sl) (p:World),Sem.run Tryz.prog (Builtin.append_ #[ty_sl_int,ty_sl_int] ty_sl_int #[d.v,.slice (some (nb w)) 1 1]) r=.ok (o.v) p/\kept [q,a] r p/\loc [q,a] p λaf=>L5T g0 m2 k3 q s t x y z aa ab ac ad a c o e f g j k l m ag n (IntKind.wrap .i64 (ae+1)) af R)
noncomputable def eS7:=entS X [eL5] (pth [2,2,1,2,1,1,8]) P1 S7T
abbrev P2:Ps:=[(0,.v [.s]),(2,.v [.I]),(3,.v [.I]),(8,.l [.I,.s,.I,.I,.U,.st,.I,.I,.I] ty_api_Node),(10,.l [.I,.s,.I,.I,.U,.st,.I,.I,.I] ty_api_Node),(11,.v [.I]),(13,.v [.I]),(14,.v [.I]),(16,.l [.I,.I,.I] ty_api_Sort)]
abbrev S6T (g0:Sl) (m2 k3:Int) (t:Nat) (u:Int) (x:Sl) (y z aa:Int) (ab:ByteArray) (ac ad ae:Int) (a:Nat) (c:Int) (d:Sl) (e f g:Int) (j:ByteArray) (k l m ai n b:Int) (r:Nat) (o p q:Int) (w:World) (R:Post):Prop:=
 (IntKind.wrap .i64 (1+(IntKind.wrap .i64 (5 *b))))≠0/\loc [t,a,r] w λw1=>cf1 [t,a,r] n_enthymemeref07_Like #[g0.v,.agg #[.i o,.i p,.i q],.i (IntKind.wrap .i64 ((IntKind.wrap .i64 (Int.tdiv k3 (IntKind.wrap .i64 (1+(IntKind.wrap .i64 (5 *b))))))+(IntKind.wrap .i64 (b *m2))))] w1 λs w2=>S7T g0 m2 k3 t u x y z aa ab ac ad ae a c d e f g j k l m ai n b s w2 R
noncomputable def eS6:=entS X [eS7,eL5] (pth [2,1,1,1,1,2,1,2,1,1,8]) P2 S6T
theorem L5T_step:∀(g0:Sl) (m2 k3:Int) (r:Nat) (s:Int) (t:Sl) (x y z:Int) (aa:ByteArray) (ab ac ad:Int) (b:Nat) (c:Int) (d:Sl) (e f g:Int) (j:ByteArray) (k l m q o p:Int) (w:World) (R:Post) (h:sel (decide (p<o)) (sel (decide (p>0)) (sel (decide (q>=0)) (cf17 [r,b] n_enthymemeref07_wanted #[g0.v,.i c,.i q,.i p,.i m2] w λah ai aj w1=>newV [r,b] w1 λae w2=>
 sel (c==19) (sel (p==2) ((0:Int)<=1/\1<((d.n:Nat):Int)/\optP d.a λan=>loc [r,b,ae] w2 λw5=>∃ag:Int,w5.cell? (an.add (Int.toNat 1 *1))=some (.i ag)/\
 (0:Int)<=ag/\ag<((g0.n:Nat):Int)/\optP g0.a λao=>ld3_2 w5 ((ao.add (Int.toNat ag *9)).add 6) λap aq ar=>loc [r,b,ae] w5 λw8=>S6T g0 m2 k3 r s t x y z aa ab ac ad b c d e f g j k l m q o p ae ap aq ar w8 R) (loc [r,b,ae] w2 λw5=>S6T g0 m2 k3 r s t x y z aa ab ac ad b c d e f g j k l m q o p ae ah ai aj w5 R)) (loc [r,b,ae] w2 λw5=>S6T g0 m2 k3 r s t x y z aa ab ac ad b c d e f g j k l m q o p ae ah ai aj w5 R)) (S7T g0 m2 k3 r s t x y z aa ab ac ad b c d e f g j k l m q o p q w R)) (S7T g0 m2 k3 r s t x y z aa ab ac ad b c d e f g j k l m q o p q w R)) (loc [r,b] w λav=>R (.returned (.agg #[.i c,d.v,.i e,.i f,.u g,.string j,.i k,.i l,.i m])) av)),L5T g0 m2 k3 r s t x y z aa ab ac ad b c d e f g j k l m q o p w R:=mp (stepL (X:=X) [eS6,eS7,eL5] (pth [0,1,1,1,8]) P0)
abbrev P3:Ps:=[(0,.v [.s]),(2,.v [.I]),(3,.v [.I]),(8,.l [.I,.s,.I,.I,.U,.st,.I,.I,.I] ty_api_Node),(10,.l [.I,.s,.I,.I,.U,.st,.I,.I,.I] ty_api_Node),(11,.v [.I]),(13,.v [.I])]
abbrev S4T (x:Sl) (z y:Int) (t8:Nat) (m:Int) (n:Sl) (o p q:Int) (r:ByteArray) (s t u:Int) (l:Nat) (a:Int) (b:Sl) (c d e:Int) (f:ByteArray) (g i j v k:Int) (w:World) (R:Post):Prop:=
 L5T x z y t8 m n o p q r s t u l a b c d e f g i j v k 0 w R
noncomputable def eS4:=entS X [eS6,eS7,eL5] (pth [8]) P3 S4T
abbrev P4:Ps:=[(0,.v [.s]),(1,.v [.I]),(2,.v [.I]),(3,.v [.I]),(8,.l [.I,.s,.I,.I,.U,.st,.I,.I,.I] ty_api_Node),(10,.l [.I,.s,.I,.I,.U,.st,.I,.I,.I] ty_api_Node),(11,.v [.I]),(13,.v [.I])]
abbrev S3T (g0:Sl) (n1 m2 k3:Int) (t8:Nat) (q:Int) (r:Sl) (s t u:Int) (x:ByteArray) (y z aa:Int) (b:Nat) (a:Int) (c:Sl) (d e f:Int) (g:ByteArray) (j k l ag m:Int) (w:World) (R:Post):Prop:=
 sel (a==34) (cf17 [t8,b] n_enthymemeref07_BV #[.i 8] w λn o p w1=>cf1 [t8,b] n_enthymemeref07_Like #[g0.v,.agg #[.i n,.i o,.i p],.i (IntKind.wrap .i64 (Int.tdiv n1 64))] w1 λad w2=>S4T g0 m2 k3 t8 q r s t u x y z aa b a c d e f g j k l ad m w2 R) (S4T g0 m2 k3 t8 q r s t u x y z aa b a c d e f g j k l ag m w R)
noncomputable def eS3:=entS X [eS4,eS6,eS7,eL5] (pth [7]) P4 S3T
abbrev P5:Ps:=[(0,.v [.s]),(1,.v [.I]),(2,.v [.I]),(3,.v [.I]),(8,.l [.I,.s,.I,.I,.U,.st,.I,.I,.I] ty_api_Node),(10,.l [.I,.s,.I,.I,.U,.st,.I,.I,.I] ty_api_Node),(11,.v [.I])]
abbrev S2T (g0:Sl) (n1 m2 k3:Int) (q:Nat) (r:Int) (s:Sl) (t u x:Int) (y:ByteArray) (z aa ab:Int) (b:Nat) (a:Int) (c:Sl) (d e f:Int) (g:ByteArray) (j k l ai:Int) (w:World) (R:Post):Prop:=
 cf1 [q,b] n_enthymemeref07_Kids #[.i a] w λm w1=>sel (a==19) (cf17 [q,b] n_enthymemeref07_BV #[.i 1] w1 λn o p w2=>cf1 [q,b] n_enthymemeref07_Like #[g0.v,.agg #[.i n,.i o,.i p],.i (IntKind.wrap .i64 (Int.tdiv n1 64))] w2 λae w3=>S3T g0 n1 m2 k3 q r s t u x y z aa ab b a c d e f g j k l ae m w3 R) (S3T g0 n1 m2 k3 q r s t u x y z aa ab b a c d e f g j k l ai m w1 R)
noncomputable def eS2:=entS X [eS3,eS4,eS6,eS7,eL5] (pth [5]) P5 S2T
abbrev P6:Ps:=[(0,.v [.s]),(1,.v [.I]),(2,.v [.I]),(3,.v [.I]),(8,.l [.I,.s,.I,.I,.U,.st,.I,.I,.I] ty_api_Node),(10,.l [.I,.s,.I,.I,.U,.st,.I,.I,.I] ty_api_Node),(11,.v [.I]),(12,.v [.I])]
abbrev S1T (g0:Sl) (n1 m2 k3:Int) (j:Nat) (n:Int) (o:Sl) (p q r:Int) (s:ByteArray) (t u v:Int) (a:Nat) (c:Int) (d:Sl) (e f x:Int) (g:ByteArray) (y z aa ad b:Int) (w:World) (R:Post):Prop:=
 cf17 [j,a] n_enthymemeref07_BV #[.i b] w λk l m w1=>¬(IntKind.wrap .u64 (if 3<b then 3 else b))<0/\loc [j,a] w1 λw4=>cf1 [j,a] n_enthymemeref01_Around #[.i k3,.i (IntKind.wrap .i64 (1 *2^(min (Int.toNat (IntKind.wrap .u64 (if 3<b then 3 else b))) (IntKind.bits .i64))))] w4 λac w5=>loc [j,a] w5 λw6=>S2T g0 n1 m2 k3 j n o p q r s t u v a c d e f (IntKind.wrap .u64 ac) g k l m ad w6 R
noncomputable def eS1:=entS X [eS2,eS3,eS4,eS6,eS7,eL5] (pth [2,1,1,1,1,1,4]) P6 S1T
abbrev S0T (y:Sl) (n1 z v:Int) (t8:Nat) (l:Int) (m:Sl) (n o p:Int) (q:ByteArray) (r s t:Int) (k:Nat) (a:Int) (b:Sl) (c d e:Int) (f:ByteArray) (g i j u x:Int) (w:World) (R:Post):Prop:=
 sel ((Int.tmod v 7)==0) (S1T y n1 z v t8 l m n o p q r s t k a b c d e f g i j u 7 w R) (S1T y n1 z v t8 l m n o p q r s t k a b c d e f g i j u x w R)
noncomputable def eS0:=entS X [eS1,eS2,eS3,eS4,eS6,eS7,eL5] (pth [1,1,1,1,1,1,4]) P6 S0T
abbrev S8T (g0:Sl) (n1 x k3:Int) (l:Nat) (m:Int) (n:Sl) (o p q:Int) (r:ByteArray) (s t u:Int) (a:Nat) (b:Int) (c:Sl) (v d e:Int) (f:ByteArray) (g j k z:Int) (w:World) (R:Post):Prop:=
 cf1 [l,a] n_enthymemeref01_Around #[.i x,.i 2] w λy w1=>loc [l,a] w1 λw2=>S2T g0 n1 x k3 l m n o p q r s t u a b c (IntKind.wrap .i64 (1+y)) d e f g j k z w2 R
noncomputable def eS8:=entS X [eS0,eS1,eS2,eS3,eS4,eS6,eS7,eL5] (pth [0,1,9,1,1,1,4]) P5 S8T
abbrev P7:Ps:=[(0,.v [.s]),(1,.v [.I]),(2,.v [.I]),(3,.v [.I]),(8,.l [.I,.s,.I,.I,.U,.st,.I,.I,.I] ty_api_Node),(10,.l [.I,.s,.I,.I,.U,.st,.I,.I,.I] ty_api_Node),(11,.v [.I]),(32,.v [.I])]
abbrev S9T (g0:Sl) (n1 x k3:Int) (m:Nat) (n:Int) (o:Sl) (p q r:Int) (s:ByteArray) (t u v:Int) (a:Nat) (b:Int) (c:Sl) (k d e:Int) (l:ByteArray) (f g j y z:Int) (w:World) (R:Post):Prop:=
 sel (z==28) (cf1 [m,a] n_enthymemeref01_Around #[.i x,.i 3] w λae w1=>loc [m,a] w1 λw2=>S2T g0 n1 x k3 m n o p q r s t u v a b c ae d e l f g j y w2 R) (sel (z==33) (cf15 [m,a] n_enthymemeref04_Text #[.i x] w λad w3=>loc [m,a] w3 λw4=>S2T g0 n1 x k3 m n o p q r s t u v a b c k d e ad f g j y w4 R) (S2T g0 n1 x k3 m n o p q r s t u v a b c k d e l f g j y w R))
noncomputable def eS9:=entS X [eS8,eS0,eS1,eS2,eS3,eS4,eS6,eS7,eL5] (pth [10,1,1,1,4]) P7 S9T
theorem okT (j:Sl) (k g l:Int) (w:World) (R:Post) (h:newV [] w λd w1=>
 nwV w1 (.cells #[.i 4,.i 5,.i 6,.i 7,.i 8,.i 9,.i 10,.i 11,.i 12,.i 13,.i 14,.i 15,.i 16,.i 17,.i 18,.i 19,.i 20,.i 21,.i 22,.i 23,.i 24,.i 25,.i 26,.i 27,.i 28,.i 29,.i 30,.i 31,.i 32,.i 33,.i 34,.i 1,.i 2,.i 3,.i 18,.i 18,.i 16,.i 6,.i 24,.i 25] ty_int) λw2=>
 cf1 [d] n_enthymemeref01_Around #[.i k,.i ((40:Nat):Int)] w2 λm w3=>(0:Int)<=m/\m<((40:Nat):Int)/\optP (some (nb w1)) λr=>∃c:Int,w3.cell? (r.add (Int.toNat m *1))=some (.i c)/\
 newV [d] w3 λb w4=>
 loc [d,b] w4 λah=>cf1 [d,b] n_enthymemeref01_Around #[.i (IntKind.wrap .i64 (Int.tdiv k 64)),.i ((j.n:Nat):Int)] ah λe f=>sel (c==1) (cf1 [d,b] n_enthymemeref01_Around #[.i g,.i 3] f λae ai=>S0T j k g l d 0 ⟨none,0,0⟩ 0 0 0 (ByteArray.mk #[]) 0 0 0 b c ⟨none,0,0⟩ 0 0 0 (ByteArray.mk #[]) 0 0 0 e (IntKind.wrap .i64 (1+ae)) ai R) (sel (c==2) (nwV f (.cells #[.s0,.string (ByteArray.mk #[97]),.string (ByteArray.mk #[97,98]),.string (ByteArray.mk #[98]),.string (ByteArray.mk #[0]),.string (ByteArray.mk #[97,97])] ty_string) λaj=>
 cf1 [d,b] n_enthymemeref01_Around #[.i g,.i 6] aj λo ac=>(0:Int)<=o/\o<((6:Nat):Int)/\optP (some (nb f)) λs=>∃aa:ByteArray,ac.cell? (s.add (Int.toNat o *1))=some (.string aa)/\
 loc [d,b] ac λak=>S2T j k g l d 0 ⟨none,0,0⟩ 0 0 0 (ByteArray.mk #[]) 0 0 0 b c ⟨none,0,0⟩ 0 0 0 aa 0 0 0 e ak R) (sel (c==3) (nwV f (.cells #[.i 2,.i 2,.i 1,.i 3,.i 1,.i 1] ty_api_Sort) λal=>
 cf1 [d,b] n_enthymemeref01_Around #[.i g,.i 2] al λp ad=>(0:Int)<=p/\p<((2:Nat):Int)/\optP (some (nb f)) λt=>ld3_2 ad (t.add (Int.toNat p *3)) λu x y=>loc [d,b] ad λam=>S2T j k g l d 0 ⟨none,0,0⟩ 0 0 0 (ByteArray.mk #[]) 0 0 0 b c ⟨none,0,0⟩ 0 0 0 (ByteArray.mk #[]) u x y e am R) (sel (c==21) ((0:Int)<=e/\e<((j.n:Nat):Int)/\optP j.a λz=>∃q:Int,f.cell? (((z.add (Int.toNat e *9)).add 6).add 1)=some (.i q)/\
 cf1 [d,b] n_enthymemeref01_Around #[.i g,.i (if 1<q then q else 1)] f λab an=>loc [d,b] an λao=>cf1 [d,b] n_enthymemeref01_Around #[.i l,.i (IntKind.wrap .i64 (ab+1))] ao λaf ap=>loc [d,b] ap λaq=>S2T j k g l d 0 ⟨none,0,0⟩ 0 0 0 (ByteArray.mk #[]) 0 0 0 b c ⟨none,0,0⟩ ab af 0 (ByteArray.mk #[]) 0 0 0 e aq R) (sel (c==22) (sel (c==22) (S8T j k g l d 0 ⟨none,0,0⟩ 0 0 0 (ByteArray.mk #[]) 0 0 0 b c ⟨none,0,0⟩ 0 0 0 (ByteArray.mk #[]) 0 0 0 e f R) (S9T j k g l d 0 ⟨none,0,0⟩ 0 0 0 (ByteArray.mk #[]) 0 0 0 b c ⟨none,0,0⟩ 0 0 0 (ByteArray.mk #[]) 0 0 0 e c f R)) (sel (c==23) (S8T j k g l d 0 ⟨none,0,0⟩ 0 0 0 (ByteArray.mk #[]) 0 0 0 b c ⟨none,0,0⟩ 0 0 0 (ByteArray.mk #[]) 0 0 0 e f R) (S9T j k g l d 0 ⟨none,0,0⟩ 0 0 0 (ByteArray.mk #[]) 0 0 0 b c ⟨none,0,0⟩ 0 0 0 (ByteArray.mk #[]) 0 0 0 e c f R))))))):Calls Tryz.prog n_enthymemeref07_node #[j.v,.i k,.i g,.i l] w R:=callsX X [eS9,eS8,eS0,eS1,eS2,eS3,eS4,eS6,eS7,eL5] h
end enthymemeref07_node
namespace enthymemeref07_size
noncomputable abbrev X:Fx:=⟨Tryz.prog,Tryz.f32,[],[]⟩
abbrev P0:Ps:=[(0,.v [.s]),(1,.v [.I]),(5,.v [.I]),(6,.v [.I])]
def L0 (a:Sl) (b d c:Int) (w:World) (R:Post):Prop:=mkCur P0 0 (X.Sem (pth [0,1,1,1,2])) a b d c w R
noncomputable def eL0:=entL X (pth [0,1,1,1,2]) P0 L0
abbrev S1 (a:Sl) (b d c:Int) (w:World) (R:Post):Prop:=
 L0 a b d (IntKind.wrap .i64 (c+1)) w R
noncomputable def eS1:=entS X [eL0] (pth [2,2,1,1,2]) P0 S1
theorem L0_step:∀(c:Sl) (b m d:Int) (w:World) (R:Post) (h:(0:Int)<=b/\b<((c.n:Nat):Int)/\optP c.a λf=>∃k:Sl,w.cell? ((f.add (Int.toNat b *9)).add 1)=some (k.v)/\
 sel (decide (d<((k.n:Nat):Int))) ((0:Int)<=b/\b<((c.n:Nat):Int)/\optP c.a λg=>∃e:Sl,w.cell? ((g.add (Int.toNat b *9)).add 1)=some (e.v)/\
 (0:Int)<=d/\d<((e.n:Nat):Int)/\optP e.a λj=>∃l:Int,w.cell? (j.add (Int.toNat d *1))=some (.i l)/\
 ca1 n_enthymemeref07_size #[c.v,.i l] w λo p=>S1 c b (IntKind.wrap .i64 (m+o)) d p R) (R (.returned (.i m)) w)),L0 c b m d w R:=mp (stepL (X:=X) [eS1,eL0] (pth [0,1,1,1,2]) P0)
theorem ok (a:Sl) (b:Int) (w:World) (R:Post) (h:L0 a b 1 0 w R):Calls Tryz.prog n_enthymemeref07_size #[a.v,.i b] w R:=callsX X [eS1,eL0] h
end enthymemeref07_size
namespace enthymemeref07_within
noncomputable abbrev X:Fx:=⟨Tryz.prog,Tryz.f31,[],[3]⟩
theorem okT (a b d e:Int) (w:World) (R:Post) (h:newV [] w λf c=>
 sel (b==0) (R (.returned (.bool true)) c) (sel (decide (a>0)) (sel (b==2) (R (.returned (.bool true)) c) (R (.returned (.bool (decide (a>1)))) c)) (R (.returned (.bool (decide (a>1)))) c))):Calls Tryz.prog n_enthymemeref07_within #[.i a,.agg #[.i b,.i d,.i e]] w R:=callsX X [] h
end enthymemeref07_within
namespace enthymemeref07_Made
noncomputable abbrev X:Fx:=⟨Tryz.prog,Tryz.f14,[(5,(.sq [0,1,2,3,4,5,6,7,8,9,10,11,12,13,14] (.fork (ls [15,16,17]) (ls [16,15,17]))))],[9]⟩
abbrev P0:Ps:=[(0,.v [.s]),(1,.v [.I]),(2,.v [.I]),(7,.v [.s]),(8,.v [.I])]
def L0T (e:Sl) (a b:Int) (c:Sl) (d:Int) (w:World) (R:Post):Prop:=mkCur P0 0 (X.Sem (pth [0,1,1,1,2])) e a b c d w R
noncomputable def eL0:=entL X (pth [0,1,1,1,2]) P0 L0T
abbrev S2T (e:Sl) (a b:Int) (c:Sl) (d:Int) (w:World) (R:Post):Prop:=
 L0T e a b c (IntKind.wrap .i64 (d+3)) w R
noncomputable def eS2:=entS X [eL0] (pth [2,2,1,1,2]) P0 S2T
abbrev P1:Ps:=[(0,.v [.s]),(1,.v [.I]),(2,.v [.I]),(7,.v [.s]),(8,.v [.I]),(9,.l [.I,.s,.I,.I,.U,.st,.I,.I,.I] ty_api_Node)]
abbrev S1T (j:Sl) (c e:Int) (f:Sl) (g:Int) (t:Nat) (x:Int) (y:Sl) (z aa ab:Int) (ac:ByteArray) (ad ae af:Int) (w:World) (R:Post):Prop:=
 cf20 [t] n_enthymemeref07_Add #[f.v,.agg #[.i x,y.v,.i z,.i aa,.u ab,.string ac,.i ad,.i ae,.i af]] w λd b k w1=>sel (k==0) ((0:Int)<=b/\b<((d.n:Nat):Int)/\optP d.a λl=>ld3_2 w1 ((l.add (Int.toNat b *9)).add 6) λm o p=>cf0 [t] n_enthymemeref07_within #[.i c,.agg #[.i m,.i o,.i p]] w1 λah r=>sel ah ((0:Int)<=b/\b<((d.n:Nat):Int)/\optP d.a λq=>∃s:Int,r.cell? (((q.add (Int.toNat b *9)).add 6).add 1)=some (.i s)/\
 sel (decide (s<=16)) (cf1 [t] n_enthymemeref07_size #[d.v,.i b] r λai w3=>sel (decide (ai<=400)) (S2T j c e d g w3 R) (S2T j c e f g w3 R)) (S2T j c e f g r R)) (S2T j c e f g r R)) (S2T j c e f g w1 R)
noncomputable def eS1:=entS X [eS2,eL0] (pth [1,2,1,2,1,1,2]) P1 S1T
abbrev P2:Ps:=[(7,.v [.s])]
abbrev S3T (a:Sl) (w:World) (R:Post):Prop:=
 R (.returned (a.v)) w
noncomputable def eS3:=entS X [eS1,eS2,eL0] (pth [3]) P2 S3T
theorem L0T_step:∀(d:Sl) (e c:Int) (f:Sl) (b:Int) (w:World) (R:Post) (h:sel (decide ((IntKind.wrap .i64 (b+2))<((d.n:Nat):Int))) (sel (decide (b<(IntKind.wrap .i64 (3 *c)))) (drV w λw2=>(0:Int)<=b/\b<((d.n:Nat):Int)/\optP d.a λs=>∃t:Int,w2.cell? (s.add (Int.toNat b *1))=some (.i t)/\
 (0:Int)<=(IntKind.wrap .i64 (b+1))/\(IntKind.wrap .i64 (b+1))<((d.n:Nat):Int)/\optP d.a λu=>∃x:Int,w2.cell? (u.add (Int.toNat (IntKind.wrap .i64 (b+1)) *1))=some (.i x)/\
 (0:Int)<=(IntKind.wrap .i64 (b+2))/\(IntKind.wrap .i64 (b+2))<((d.n:Nat):Int)/\optP d.a λy=>∃z:Int,w2.cell? (y.add (Int.toNat (IntKind.wrap .i64 (b+2)) *1))=some (.i z)/\
 ((ca21 n_enthymemeref07_node #[f.v,.i t,.i x,.i z] w2 λad ae af ag ah ai aj ak al w3=>newV [] w3 λb9 w4=>
 loc [b9] w4 λan=>S1T d e c f b b9 ad ae af ag ah ai aj ak al an R)/\(newV [] w2 λab aa=>
 aa.cell? (y.add (Int.toNat (IntKind.wrap .i64 (b+2)) *1))=some (.i z)/\aa.cell? (u.add (Int.toNat (IntKind.wrap .i64 (b+1)) *1))=some (.i x)/\aa.cell? (s.add (Int.toNat b *1))=some (.i t)/\cf21 [ab] n_enthymemeref07_node #[f.v,.i t,.i x,.i z] aa λg j k l m o p q r ao=>loc [ab] ao λap=>S1T d e c f b ab g j k l m o p q r ap R))) (S3T f w R)) (S3T f w R)),L0T d e c f b w R:=mp (stepL (X:=X) [eS3,eS1,eS2,eL0] (pth [0,1,1,1,2]) P0)
theorem okT (c:Sl) (a b:Int) (w:World) (R:Post) (h:ca3 n_enthymemeref07_start #[.i a] w λd e=>L0T c a b d 0 e R):Calls Tryz.prog n_enthymemeref07_Made #[c.v,.i a,.i b] w R:=callsX X [eS3,eS1,eS2,eL0] h
end enthymemeref07_Made
namespace enthymemeref01_Pick
noncomputable abbrev X:Fx:=⟨Tryz.prog,Tryz.f15,[],[]⟩
abbrev P0:Ps:=[]
abbrev S0 (w:World) (R:Post):Prop:=
 R (.returned (.i 0)) w
noncomputable def eS0:=entS X [] (pth [0,1,1,1,1]) P0 S0
theorem ok (d:Sl) (c b:Int) (w:World) (R:Post) (h:sel (decide (c<0)) (S0 w R) (sel (decide (c>=((d.n:Nat):Int))) (S0 w R) ((0:Int)<=c/\c<((d.n:Nat):Int)/\optP d.a λe=>∃f:Int,w.cell? (e.add (Int.toNat c *1))=some (.i f)/\
 ca1 n_enthymemeref01_Around #[.i f,.i b] w λg j=>R (.returned (.i g)) j))):Calls Tryz.prog n_enthymemeref01_Pick #[d.v,.i c,.i b] w R:=callsX X [eS0] h
end enthymemeref01_Pick
namespace enthymemeref01_Decimal
noncomputable abbrev X:Fx:=⟨Tryz.prog,Tryz.f33,[],[]⟩
abbrev P0:Ps:=[(0,.v [.I]),(3,.v [.st]),(4,.v [.st]),(5,.v [.I])]
def L1 (c:Int) (a d:ByteArray) (b:Int) (w:World) (R:Post):Prop:=mkCur P0 0 (X.Sem (pth [0,1,1,1,4])) c a d b w R
noncomputable def eL1:=entL X (pth [0,1,1,1,4]) P0 L1
abbrev S3 (c:Int) (a d:ByteArray) (b:Int) (w:World) (R:Post):Prop:=
 L1 c a d (IntKind.wrap .i64 (Int.tdiv b 10)) w R
noncomputable def eS3:=entS X [eL1] (pth [2,2,1,1,4]) P0 S3
abbrev P1:Ps:=[(0,.v [.I]),(3,.v [.st]),(4,.v [.st]),(5,.v [.I]),(6,.v [.I])]
abbrev S2 (e:Int) (a c:ByteArray) (d b:Int) (w:World) (R:Post):Prop:=
 (0:Int)<=(IntKind.wrap .i64 (b+1))/\(IntKind.wrap .i64 (b+1))<=((a.size:Nat):Int)/\(0:Int)<=b/\b<=(((Int.toNat (IntKind.wrap .i64 (b+1))):Nat):Int)/\¬((((a.extract (Int.toNat b) (Int.toNat (IntKind.wrap .i64 (b+1)))).size+c.size:Nat):Int)>IntKind.i64.max)/\S3 e a ((a.extract (Int.toNat b) (Int.toNat (IntKind.wrap .i64 (b+1))))++c) d w R
noncomputable def eS2:=entS X [eS3,eL1] (pth [2,2,1,2,1,1,4]) P1 S2
theorem L1_step:∀(d:Int) (a c:ByteArray) (b:Int) (w:World) (R:Post) (h:sel (b !=0) (sel (decide ((Int.tmod b 10)<0)) (S2 d a c b (IntKind.wrap .i64 (0 - (Int.tmod b 10))) w R) (S2 d a c b (Int.tmod b 10) w R)) (sel (decide (d<0)) (¬((((ByteArray.mk #[45]).size+c.size:Nat):Int)>IntKind.i64.max)/\R (.returned (.string ((ByteArray.mk #[45])++c))) w) (R (.returned (.string c)) w))),L1 d a c b w R:=mp (stepL (X:=X) [eS2,eS3,eL1] (pth [0,1,1,1,4]) P0)
abbrev P2:Ps:=[(0,.v [.I]),(3,.v [.st])]
abbrev S0 (b:Int) (a:ByteArray) (w:World) (R:Post):Prop:=
 L1 b a (ByteArray.mk #[]) b w R
noncomputable def eS0:=entS X [eS2,eS3,eL1] (pth [3]) P2 S0
theorem ok (a:Int) (w:World) (R:Post) (h:sel (a==0) (R (.returned (.string (ByteArray.mk #[48]))) w) (S0 a (ByteArray.mk #[48,49,50,51,52,53,54,55,56,57]) w R)):Calls Tryz.prog n_enthymemeref01_Decimal #[.i a] w R:=callsX X [eS0,eS2,eS3,eL1] h
end enthymemeref01_Decimal
namespace enthymemeref14_Var
noncomputable abbrev X:Fx:=⟨Tryz.prog,Tryz.f111,[],[]⟩
theorem ok (a:Int) (w:World) (R:Post) (h:sel (decide (a<0)) (R (.returned (.i (IntKind.wrap .i64 (0 - a)))) w) (R (.returned (.i a)) w)):Calls Tryz.prog n_enthymemeref14_Var #[.i a] w R:=callsX X [] h
end enthymemeref14_Var
namespace enthymemeref14_List
noncomputable abbrev X:Fx:=⟨Tryz.prog,Tryz.f110,[],[]⟩
abbrev P0:Ps:=[(0,.v [.s]),(3,.v [.I])]
def L0 (b:Sl) (a:Int) (w:World) (R:Post):Prop:=mkCur P0 0 (X.Sem (pth [0,1,1,1,2])) b a w R
noncomputable def eL0:=entL X (pth [0,1,1,1,2]) P0 L0
abbrev P1:Ps:=[]
abbrev S1 (w:World) (R:Post):Prop:=
 R (.returned (.i 1)) w
noncomputable def eS1:=entS X [eL0] (pth [0,1,1,2,1,2,1,1,2]) P1 S1
theorem L0_step:∀(c:Sl) (b:Int) (w:World) (R:Post) (h:sel (decide (b<((c.n:Nat):Int))) ((0:Int)<=b/\b<((c.n:Nat):Int)/\optP c.a λd=>∃g:Int,w.cell? (d.add (Int.toNat b *1))=some (.i g)/\
 sel (g==0) (S1 w R) ((0:Int)<=b/\b<((c.n:Nat):Int)/\optP c.a λe=>∃j:Int,w.cell? (e.add (Int.toNat b *1))=some (.i j)/\
 sel (decide (j>1073741824)) (S1 w R) ((0:Int)<=b/\b<((c.n:Nat):Int)/\optP c.a λf=>∃k:Int,w.cell? (f.add (Int.toNat b *1))=some (.i k)/\
 sel (decide (k<(-1073741824))) (S1 w R) (L0 c (IntKind.wrap .i64 (b+1)) w R)))) (R (.returned (.i 0)) w)),L0 c b w R:=mp (stepL (X:=X) [eS1,eL0] (pth [0,1,1,1,2]) P0)
theorem ok (a:Sl) (w:World) (R:Post) (h:sel (decide (((a.n:Nat):Int)>65536)) (R (.returned (.i 4)) w) (L0 a 0 w R)):Calls Tryz.prog n_enthymemeref14_List #[a.v] w R:=callsX X [eS1,eL0] h
end enthymemeref14_List
namespace enthymemeref14_Valid
noncomputable abbrev X:Fx:=⟨Tryz.prog,Tryz.f77,[(7,ls [0,1,2,3,4,6,7,8,9,5,10,11])],[]⟩
abbrev P0:Ps:=[(0,.v [.s]),(4,.v [.I])]
def L0 (a:Sl) (b:Int) (w:World) (R:Post):Prop:=mkCur P0 0 (X.Sem (pth [0,1,1,1,3])) a b w R
noncomputable def eL0:=entL X (pth [0,1,1,1,3]) P0 L0
theorem L0_step:∀(c:Sl) (b:Int) (w:World) (R:Post) (h:sel (decide (b<((c.n:Nat):Int))) (drV w λj=>(0:Int)<=(IntKind.wrap .i64 (b - 1))/\(IntKind.wrap .i64 (b - 1))<((c.n:Nat):Int)/\optP c.a λf=>∃g:Int,j.cell? (f.add (Int.toNat (IntKind.wrap .i64 (b - 1)) *1))=some (.i g)/\
 (0:Int)<=b/\b<((c.n:Nat):Int)/\optP c.a λd=>∃e:Int,j.cell? (d.add (Int.toNat b *1))=some (.i e)/\
 ca1 n_enthymemeref14_Var #[.i g] j λk m=>m.cell? (d.add (Int.toNat b *1))=some (.i e)/\ca1 n_enthymemeref14_Var #[.i e] m λl o=>sel (decide (k>=l)) (R (.returned (.i 10)) o) (L0 c (IntKind.wrap .i64 (b+1)) o R)) (R (.returned (.i 0)) w)),L0 c b w R:=mp (stepL (X:=X) [eL0] (pth [0,1,1,1,3]) P0)
theorem ok (a:Sl) (w:World) (R:Post) (h:ca1 n_enthymemeref14_List #[a.v] w λb c=>sel (b !=0) (R (.returned (.i b)) c) (L0 a 1 c R)):Calls Tryz.prog n_enthymemeref14_Valid #[a.v] w R:=callsX X [eL0] h
end enthymemeref14_Valid
namespace enthymemeref25_Step
noncomputable abbrev X:Fx:=⟨Tryz.prog,Tryz.f49,[],[3]⟩
abbrev P0:Ps:=[]
abbrev S0T (w:World) (R:Post):Prop:=
 R (.returned (.i 1)) w
noncomputable def eS0:=entS X [] (pth [0,1,1,1,1]) P0 S0T
abbrev P1:Ps:=[(1,.v [.I]),(2,.v [.I]),(3,.l [.I,.I,.I,.s,.st,.s,.s] ty_api_Step),(9,.v [.I])]
def L2T (j a:Int) (l:Nat) (b c d:Int) (e:Sl) (f:ByteArray) (g i:Sl) (k:Int) (w:World) (R:Post):Prop:=mkCur P1 0 (X.Sem (pth [0,1,1,1,6])) j a l b c d e f g i k w R
noncomputable def eL2:=entL X (pth [0,1,1,1,6]) P1 L2T
abbrev S3T (w:World) (R:Post):Prop:=
 R (.returned (.i 14)) w
noncomputable def eS3:=entS X [eL2,eS0] (pth [0,1,1,2,1,2,1,1,6]) P0 S3T
abbrev S4T (w:World) (R:Post):Prop:=
 R (.returned (.i 7)) w
noncomputable def eS4:=entS X [eS3,eL2,eS0] (pth [0,1,1,1,7]) P0 S4T
abbrev S5T (w:World) (R:Post):Prop:=
 R (.returned (.i 0)) w
noncomputable def eS5:=entS X [eS4,eS3,eL2,eS0] (pth [8]) P0 S5T
theorem L2T_step:∀(r c:Int) (s:Nat) (f e g:Int) (j:Sl) (k:ByteArray) (l b:Sl) (d:Int) (w:World) (R:Post) (h:sel (decide (d<((b.n:Nat):Int))) ((0:Int)<=d/\d<((b.n:Nat):Int)/\optP b.a λm=>∃p:Int,w.cell? (m.add (Int.toNat d *1))=some (.i p)/\
 sel (decide (p<0)) (S3T w R) ((0:Int)<=d/\d<((b.n:Nat):Int)/\optP b.a λo=>∃q:Int,w.cell? (o.add (Int.toNat d *1))=some (.i q)/\
 sel (decide (q>=r)) (S3T w R) (L2T r c s f e g j k l b (IntKind.wrap .i64 (d+1)) w R))) (sel (f==4) (sel (decide (e<0)) (S4T w R) (sel (decide (e>=c)) (S4T w R) (S5T w R))) (S5T w R))),L2T r c s f e g j k l b d w R:=mp (stepL (X:=X) [eS5,eS4,eS3,eL2,eS0] (pth [0,1,1,1,6]) P1)
abbrev P2:Ps:=[(1,.v [.I]),(2,.v [.I]),(3,.l [.I,.I,.I,.s,.st,.s,.s] ty_api_Step),(8,.v [.b])]
abbrev S1T (l a:Int) (m:Nat) (c d e:Int) (f:Sl) (g:ByteArray) (j k:Sl) (b:Bool) (w:World) (R:Post):Prop:=
 sel (!b) (R (.returned (.i 6)) w) (L2T l a m c d e f g j k 0 w R)
noncomputable def eS1:=entS X [eS5,eS4,eS3,eL2,eS0] (pth [5]) P2 S1T
theorem okT (b e f:Int) (g:Sl) (c:ByteArray) (d j:Sl) (m a:Int) (w:World) (R:Post) (h:newV [] w λk n=>
 sel (decide (b<0)) (S0T n R) (sel (decide (b>5)) (S0T n R) (cf1 [k] n_enthymemeref14_Valid #[d.v] n λl o=>sel (l !=0) (R (.returned (.i l)) o) (sel (c.toList==(ByteArray.mk #[]).toList) (S1T m a k b e f g c d j true o R) (cf0 [k] n_enthymemeref07_Named #[.string c] o λp q=>S1T m a k b e f g c d j p q R))))):Calls Tryz.prog n_enthymemeref25_Step #[.agg #[.i b,.i e,.i f,g.v,.string c,d.v,j.v],.i m,.i a] w R:=callsX X [eS1,eS5,eS4,eS3,eL2,eS0] h
end enthymemeref25_Step
namespace enthymemeref25_Valid
noncomputable abbrev X:Fx:=⟨Tryz.prog,Tryz.f24,[(12,ls [0,1,2,3,4,5,6,7,8,9,10])],[1]⟩
abbrev P0:Ps:=[]
abbrev S0T (w:World) (R:Post):Prop:=
 R (.returned (.i 4)) w
noncomputable def eS0:=entS X [] (pth [0,1,1,1,1]) P0 S0T
abbrev P1:Ps:=[(1,.l [.s,.s] ty_api_Proof),(3,.v [.I])]
def L1T (d:Nat) (a b:Sl) (c:Int) (w:World) (R:Post):Prop:=mkCur P1 0 (X.Sem (pth [0,1,1,1,2])) d a b c w R
noncomputable def eL1:=entL X (pth [0,1,1,1,2]) P1 L1T
abbrev P2:Ps:=[(1,.l [.s,.s] ty_api_Proof),(5,.v [.I])]
def L2T (d:Nat) (a b:Sl) (c:Int) (w:World) (R:Post):Prop:=mkCur P2 0 (X.Sem (pth [0,1,1,1,3])) d a b c w R
noncomputable def eL2:=entL X (pth [0,1,1,1,3]) P2 L2T
theorem L2T_step:∀(e:Nat) (d b:Sl) (c:Int) (w:World) (R:Post) (h:sel (decide (c<((b.n:Nat):Int))) ((0:Int)<=c/\c<((b.n:Nat):Int)/\optP b.a λf=>loc [e] w λr=>ld7_4 r (f.add (Int.toNat c *7)) λg j k l m o p=>cf1 [e] n_enthymemeref25_Step #[.agg #[.i g,.i j,.i k,l.v,.string m,o.v,p.v],.i c,.i ((d.n:Nat):Int)] r λq s=>sel (q !=0) (R (.returned (.i q)) s) (L2T e d b (IntKind.wrap .i64 (c+1)) s R)) (R (.returned (.i 0)) w)),L2T e d b c w R:=mp (stepL (X:=X) [eL2,eL1,eS0] (pth [0,1,1,1,3]) P2)
theorem L1T_step:∀(e:Nat) (b c:Sl) (d:Int) (w:World) (R:Post) (h:sel (decide (d<((b.n:Nat):Int))) ((0:Int)<=d/\d<((b.n:Nat):Int)/\optP b.a λf=>ld4_5 w (f.add (Int.toNat d *4)) λg j k l=>cf1 [e] n_enthymemeref25_Lemma #[.agg #[g.v,j.v,k.v,l.v]] w λm o=>sel (m !=0) (R (.returned (.i m)) o) (L1T e b c (IntKind.wrap .i64 (d+1)) o R)) (L2T e b c 0 w R)),L1T e b c d w R:=mp (stepL (X:=X) [eL2,eL1,eS0] (pth [0,1,1,1,2]) P1)
theorem okT (a b:Sl) (w:World) (R:Post) (h:newV [] w λd c=>
 sel (decide (((a.n:Nat):Int)>4096)) (S0T c R) (sel (decide (((b.n:Nat):Int)>1048576)) (S0T c R) (L1T d a b 0 c R))):Calls Tryz.prog n_enthymemeref25_Valid #[.agg #[a.v,b.v]] w R:=callsX X [eL2,eL1,eS0] h
end enthymemeref25_Valid
namespace enthymemeref02_Zigzag
noncomputable abbrev X:Fx:=⟨Tryz.prog,Tryz.f65,[],[]⟩
theorem ok (a:Int) (w:World) (R:Post) (h:sel (decide (a<0)) (R (.returned (.u (IntKind.wrap .u64 ((IntKind.wrap .u64 (2 *(IntKind.wrap .u64 (IntKind.wrap .i64 (0 - (IntKind.wrap .i64 (a+1)))))))+1)))) w) (R (.returned (.u (IntKind.wrap .u64 (2 *(IntKind.wrap .u64 a))))) w)):Calls Tryz.prog n_enthymemeref02_Zigzag #[.i a] w R:=callsX X [] h
end enthymemeref02_Zigzag
namespace enthymemeref02_Uint
noncomputable abbrev X:Fx:=⟨Tryz.prog,Tryz.f36,[],[]⟩
abbrev P0:Ps:=[(0,.v [.U]),(3,.v [.s])]
def L0 (b:Int) (a:Sl) (w:World) (R:Post):Prop:=mkCur P0 0 (X.Sem (pth [0,2,2])) b a w R
noncomputable def eL0:=entL X (pth [0,2,2]) P0 L0
theorem L0_step:∀(b:Int) (a:Sl) (w:World) (R:Post) (h:sel (decide (b>127)) (nwV w (.cells #[.int .u8 (IntKind.wrap .u8 (IntKind.wrap .u64 (128+(Int.tmod b 128))))] ty_uint8) λg=>
 ∃(c:Sl) (e:World),Sem.run Tryz.prog (Builtin.append_ #[ty_sl_uint8,ty_sl_uint8] ty_sl_uint8 #[a.v,.slice (some (nb w)) 1 1]) g=.ok (c.v) e/\L0 (IntKind.wrap .u64 (Int.tdiv b 128)) c e R) (nwV w (.cells #[.int .u8 (IntKind.wrap .u8 b)] ty_uint8) λi=>
 ∃(d:Sl) (f:World),Sem.run Tryz.prog (Builtin.append_ #[ty_sl_uint8,ty_sl_uint8] ty_sl_uint8 #[a.v,.slice (some (nb w)) 1 1]) i=.ok (d.v) f/\R (.returned (d.v)) f)),L0 b a w R:=mp (stepL (X:=X) [eL0] (pth [0,2,2]) P0)
theorem ok (a:Int) (w:World) (R:Post) (h:L0 a ⟨none,0,0⟩ w R):Calls Tryz.prog n_enthymemeref02_Uint #[.u a] w R:=callsX X [eL0] h
end enthymemeref02_Uint
namespace enthymemeref02_Int
noncomputable abbrev X:Fx:=⟨Tryz.prog,Tryz.f34,[],[]⟩
theorem ok (a:Int) (w:World) (R:Post) (h:ca33 n_enthymemeref02_Zigzag #[.i a] w λb d=>ca3 n_enthymemeref02_Uint #[.u b] d λc e=>R (.returned (c.v)) e):Calls Tryz.prog n_enthymemeref02_Int #[.i a] w R:=callsX X [] h
end enthymemeref02_Int
namespace enthymemeref02_Ints
noncomputable abbrev X:Fx:=⟨Tryz.prog,Tryz.f35,[],[]⟩
abbrev P0:Ps:=[(0,.v [.s]),(3,.v [.s]),(4,.v [.I])]
def L0 (c a:Sl) (b:Int) (w:World) (R:Post):Prop:=mkCur P0 0 (X.Sem (pth [0,1,1,1,2])) c a b w R
noncomputable def eL0:=entL X (pth [0,1,1,1,2]) P0 L0
theorem L0_step:∀(d b:Sl) (c:Int) (w:World) (R:Post) (h:sel (decide (c<((d.n:Nat):Int))) ((0:Int)<=c/\c<((d.n:Nat):Int)/\optP d.a λe=>∃f:Int,w.cell? (e.add (Int.toNat c *1))=some (.i f)/\
 ca3 n_enthymemeref02_Int #[.i f] w λj l=>∃(g:Sl) (k:World),Sem.run Tryz.prog (Builtin.append_ #[ty_sl_uint8,ty_sl_uint8] ty_sl_uint8 #[b.v,j.v]) l=.ok (g.v) k/\L0 d g (IntKind.wrap .i64 (c+1)) k R) (R (.returned (b.v)) w)),L0 d b c w R:=mp (stepL (X:=X) [eL0] (pth [0,1,1,1,2]) P0)
theorem ok (a:Sl) (w:World) (R:Post) (h:ca3 n_enthymemeref02_Uint #[.u (IntKind.wrap .u64 ((a.n:Nat):Int))] w λb c=>L0 a b 0 c R):Calls Tryz.prog n_enthymemeref02_Ints #[a.v] w R:=callsX X [eL0] h
end enthymemeref02_Ints
namespace enthymemeref02_Raw
noncomputable abbrev X:Fx:=⟨Tryz.prog,Tryz.f37,[],[]⟩
theorem ok (a:Sl) (w:World) (R:Post) (h:ca3 n_enthymemeref02_Uint #[.u (IntKind.wrap .u64 ((a.n:Nat):Int))] w λd e=>∃(b:Sl) (c:World),Sem.run Tryz.prog (Builtin.append_ #[ty_sl_uint8,ty_sl_uint8] ty_sl_uint8 #[d.v,a.v]) e=.ok (b.v) c/\R (.returned (b.v)) c):Calls Tryz.prog n_enthymemeref02_Raw #[a.v] w R:=callsX X [] h
end enthymemeref02_Raw
namespace enthymemeref25_steps
noncomputable abbrev X:Fx:=⟨Tryz.prog,Tryz.f51,[(6,ls [0,1,2,5,6,3,4,7,8,9]),(7,ls [0,1,2,5,6,3,4,7,8,9]),(8,ls [0,1,2,6,7,3,4,5,8,9,10])],[5]⟩
abbrev P0:Ps:=[(0,.v [.s]),(3,.v [.s]),(4,.v [.I])]
def L0T (c a:Sl) (b:Int) (w:World) (R:Post):Prop:=mkCur P0 0 (X.Sem (pth [0,1,1,1,2])) c a b w R
noncomputable def eL0:=entL X (pth [0,1,1,1,2]) P0 L0T
theorem L0T_step:∀(e c:Sl) (d:Int) (w:World) (R:Post) (h:sel (decide (d<((e.n:Nat):Int))) ((0:Int)<=d/\d<((e.n:Nat):Int)/\optP e.a λq=>ld7_4 w (q.add (Int.toNat d *7)) λr s t u x y z=>newV [] w λb w2=>
 loc [b] w2 λaz=>cf3 [b] n_enthymemeref02_Int #[.i r] az λaq ai=>∃(aa:Sl) (f:World),Sem.run Tryz.prog (Builtin.append_ #[ty_sl_uint8,ty_sl_uint8] ty_sl_uint8 #[c.v,aq.v]) ai=.ok (aa.v) f/\kept [b] ai f/\cf3 [b] n_enthymemeref02_Int #[.i s] f λar aj=>∃(ab:Sl) (g:World),Sem.run Tryz.prog (Builtin.append_ #[ty_sl_uint8,ty_sl_uint8] ty_sl_uint8 #[aa.v,ar.v]) aj=.ok (ab.v) g/\kept [b] aj g/\loc [b] g λbb=>cf3 [b] n_enthymemeref02_Int #[.i t] bb λau ak=>∃(ac:Sl) (j:World),Sem.run Tryz.prog (Builtin.append_ #[ty_sl_uint8,ty_sl_uint8] ty_sl_uint8 #[ab.v,au.v]) ak=.ok (ac.v) j/\kept [b] ak j/\cf3 [b] n_enthymemeref02_Ints #[u.v] j λav al=>∃(ad:Sl) (k:World),Sem.run Tryz.prog (Builtin.append_ #[ty_sl_uint8,ty_sl_uint8] ty_sl_uint8 #[ac.v,av.v]) al=.ok (ad.v) k/\kept [b] al k/\loc [b] k λam=>∃(ae:Sl) (l:World),Sem.run Tryz.prog (Go.convert ty_string ty_sl_uint8 (.string x)) am=.ok (ae.v) l/\kept [b] am l/\cf3 [b] n_enthymemeref02_Raw #[ae.v] l λaw an=>∃(af:Sl) (m:World),Sem.run Tryz.prog (Builtin.append_ #[ty_sl_uint8,ty_sl_uint8] ty_sl_uint8 #[ad.v,aw.v]) an=.ok (af.v) m/\kept [b] an m/\cf3 [b] n_enthymemeref02_Ints #[y.v] m λax ao=>∃(ag:Sl) (o:World),Sem.run Tryz.prog (Builtin.append_ #[ty_sl_uint8,ty_sl_uint8] ty_sl_uint8 #[af.v,ax.v]) ao=.ok (ag.v) o/\kept [b] ao o/\cf3 [b] n_enthymemeref02_Ints #[z.v] o λay ap=>∃(ah:Sl) (p:World),Sem.run Tryz.prog (Builtin.append_ #[ty_sl_uint8,ty_sl_uint8] ty_sl_uint8 #[ag.v,ay.v]) ap=.ok (ah.v) p/\kept [b] ap p/\L0T e ah (IntKind.wrap .i64 (d+1)) p R) (R (.returned (c.v)) w)),L0T e c d w R:=mp (stepL (X:=X) [eL0] (pth [0,1,1,1,2]) P0)
theorem okT (a:Sl) (w:World) (R:Post) (h:ca3 n_enthymemeref02_Int #[.i ((a.n:Nat):Int)] w λb c=>L0T a b 0 c R):Calls Tryz.prog n_enthymemeref25_steps #[a.v] w R:=callsX X [eL0] h
end enthymemeref25_steps
namespace enthymemeref25_Bytes
noncomputable abbrev X:Fx:=⟨Tryz.prog,Tryz.f26,[],[1]⟩
abbrev P0:Ps:=[(1,.l [.s,.s] ty_api_Proof),(3,.v [.s]),(4,.v [.I])]
def L0T (e:Nat) (b c a:Sl) (d:Int) (w:World) (R:Post):Prop:=mkCur P0 0 (X.Sem (pth [0,1,1,1,2])) e b c a d w R
noncomputable def eL0:=entL X (pth [0,1,1,1,2]) P0 L0T
theorem L0T_step:∀(d:Nat) (b e c:Sl) (f:Int) (w:World) (R:Post) (h:sel (decide (f<((b.n:Nat):Int))) ((0:Int)<=f/\f<((b.n:Nat):Int)/\optP b.a λg=>ld4_5 w (g.add (Int.toNat f *4)) λi j k l=>cf3 [d] n_enthymemeref25_LemmaBytes #[.agg #[i.v,j.v,k.v,l.v]] w λr y=>cf3 [d] n_enthymemeref02_Raw #[r.v] y λs u=>∃(m:Sl) (p:World),Sem.run Tryz.prog (Builtin.append_ #[ty_sl_uint8,ty_sl_uint8] ty_sl_uint8 #[c.v,s.v]) u=.ok (m.v) p/\kept [d] u p/\L0T d b e m (IntKind.wrap .i64 (f+1)) p R) (cf3 [d] n_enthymemeref25_steps #[e.v] w λt x=>∃(o:Sl) (q:World),Sem.run Tryz.prog (Builtin.append_ #[ty_sl_uint8,ty_sl_uint8] ty_sl_uint8 #[c.v,t.v]) x=.ok (o.v) q/\kept [d] x q/\R (.returned (o.v)) q)),L0T d b e c f w R:=mp (stepL (X:=X) [eL0] (pth [0,1,1,1,2]) P0)
theorem okT (a b:Sl) (w:World) (R:Post) (h:newV [] w λc e=>
 cf3 [c] n_enthymemeref02_Int #[.i ((a.n:Nat):Int)] e λd f=>L0T c a b d 0 f R):Calls Tryz.prog n_enthymemeref25_Bytes #[.agg #[a.v,b.v]] w R:=callsX X [eL0] h
end enthymemeref25_Bytes
namespace enthymemeref25_SameProof
noncomputable abbrev X:Fx:=⟨Tryz.prog,Tryz.f11,[(1,ls [0,2,1,3,4,5])],[2,3]⟩
theorem okT (a b c d:Sl) (w:World) (R:Post) (h:newV [] w λe k=>
 newV [e] k λf l=>
 loc [e,f] l λm=>cf3 [e,f] n_enthymemeref25_Bytes #[.agg #[a.v,b.v]] m λg n=>cf3 [e,f] n_enthymemeref25_Bytes #[.agg #[c.v,d.v]] n λi o=>cf0 [e,f] n_enthymemeref01_SameBytes #[g.v,i.v] o λj p=>R (.returned (.bool j)) p):Calls Tryz.prog n_enthymemeref25_SameProof #[.agg #[a.v,b.v],.agg #[c.v,d.v]] w R:=callsX X [] h
end enthymemeref25_SameProof
namespace enthymemeref25_list
noncomputable abbrev X:Fx:=⟨Tryz.prog,Tryz.f16,[],[]⟩
abbrev P0:Ps:=[(0,.v [.s]),(3,.v [.st]),(4,.v [.I])]
def L0 (c:Sl) (a:ByteArray) (b:Int) (w:World) (R:Post):Prop:=mkCur P0 0 (X.Sem (pth [0,1,1,1,2])) c a b w R
noncomputable def eL0:=entL X (pth [0,1,1,1,2]) P0 L0
abbrev S1 (g:Sl) (b:ByteArray) (c:Int) (w:World) (R:Post):Prop:=
 (0:Int)<=c/\c<((g.n:Nat):Int)/\optP g.a λd=>∃e:Int,w.cell? (d.add (Int.toNat c *1))=some (.i e)/\
 ca15 n_enthymemeref01_Decimal #[.i e] w λf j=>¬(((b.size+f.size:Nat):Int)>IntKind.i64.max)/\L0 g (b++f) (IntKind.wrap .i64 (c+1)) j R
noncomputable def eS1:=entS X [eL0] (pth [1,2,1,2,1,1,2]) P0 S1
theorem L0_step:∀(c:Sl) (a:ByteArray) (b:Int) (w:World) (R:Post) (h:sel (decide (b<((c.n:Nat):Int))) (sel (decide (b>0)) (¬(((a.size+(ByteArray.mk #[32]).size:Nat):Int)>IntKind.i64.max)/\S1 c (a++(ByteArray.mk #[32])) b w R) (S1 c a b w R)) (¬(((a.size+(ByteArray.mk #[41]).size:Nat):Int)>IntKind.i64.max)/\R (.returned (.string (a++(ByteArray.mk #[41])))) w)),L0 c a b w R:=mp (stepL (X:=X) [eS1,eL0] (pth [0,1,1,1,2]) P0)
theorem ok (a:Sl) (w:World) (R:Post) (h:L0 a (ByteArray.mk #[40]) 0 w R):Calls Tryz.prog n_enthymemeref25_list #[a.v] w R:=callsX X [eS1,eL0] h
end enthymemeref25_list
namespace enthymemeref25_words
noncomputable abbrev X:Fx:=⟨Tryz.prog,Tryz.f38,[],[]⟩
theorem ok (w:World) (R:Post) (h:nwV w (.cells #[.string (ByteArray.mk #[103,97,116,101]),.string (ByteArray.mk #[97,115,115,101,114,116]),.string (ByteArray.mk #[97,120,105,111,109]),.string (ByteArray.mk #[101,113,117,97,108]),.string (ByteArray.mk #[108,101,109,109,97]),.string (ByteArray.mk #[114,101,115,111,108,118,101])] ty_string) λa=>
 R (.returned (.slice (some (nb w)) 6 6)) a):Calls Tryz.prog n_enthymemeref25_words #[] w R:=callsX X [] h
end enthymemeref25_words
namespace enthymemeref25_Line
noncomputable abbrev X:Fx:=⟨Tryz.prog,Tryz.f19,[(4,ls [0,1,4,5,2,3,6,7,8]),(5,ls [1,2,6,9,12,13,17,18,22,23,0,3,4,5,7,8,10,11,14,15,16,19,20,21,24,25,26])],[1]⟩
abbrev P0:Ps:=[(1,.l [.I,.I,.I,.s,.st,.s,.s] ty_api_Step),(3,.v [.st]),(4,.v [.st])]
abbrev S1T (j:Nat) (e u x:Int) (m:Sl) (y:ByteArray) (o p:Sl) (d b:ByteArray) (w:World) (R:Post):Prop:=
 loc [j] w λz=>cf3 [j] n_enthymemeref25_words #[] z λk q=>(0:Int)<=e/\e<((k.n:Nat):Int)/\optP k.a λf=>∃c:ByteArray,q.cell? (f.add (Int.toNat e *1))=some (.string c)/\
 ¬(((c.size+(ByteArray.mk #[32]).size:Nat):Int)>IntKind.i64.max)/\¬((((c++(ByteArray.mk #[32])).size+b.size:Nat):Int)>IntKind.i64.max)/\¬(((((c++(ByteArray.mk #[32]))++b).size+(ByteArray.mk #[32]).size:Nat):Int)>IntKind.i64.max)/\¬((((((c++(ByteArray.mk #[32]))++b)++(ByteArray.mk #[32])).size+d.size:Nat):Int)>IntKind.i64.max)/\¬(((((((c++(ByteArray.mk #[32]))++b)++(ByteArray.mk #[32]))++d).size+(ByteArray.mk #[32]).size:Nat):Int)>IntKind.i64.max)/\cf15 [j] n_enthymemeref25_list #[m.v] q λg r=>r.cell? (f.add (Int.toNat e *1))=some (.string c)/\¬((((((((c++(ByteArray.mk #[32]))++b)++(ByteArray.mk #[32]))++d)++(ByteArray.mk #[32])).size+g.size:Nat):Int)>IntKind.i64.max)/\¬(((((((((c++(ByteArray.mk #[32]))++b)++(ByteArray.mk #[32]))++d)++(ByteArray.mk #[32]))++g).size+(ByteArray.mk #[32]).size:Nat):Int)>IntKind.i64.max)/\cf15 [j] n_enthymemeref25_list #[p.v] r λi s=>s.cell? (f.add (Int.toNat e *1))=some (.string c)/\¬((((((((((c++(ByteArray.mk #[32]))++b)++(ByteArray.mk #[32]))++d)++(ByteArray.mk #[32]))++g)++(ByteArray.mk #[32])).size+i.size:Nat):Int)>IntKind.i64.max)/\¬(((((((((((c++(ByteArray.mk #[32]))++b)++(ByteArray.mk #[32]))++d)++(ByteArray.mk #[32]))++g)++(ByteArray.mk #[32]))++i).size+(ByteArray.mk #[32]).size:Nat):Int)>IntKind.i64.max)/\cf15 [j] n_enthymemeref25_list #[o.v] s λl t=>t.cell? (f.add (Int.toNat e *1))=some (.string c)/\¬((((((((((((c++(ByteArray.mk #[32]))++b)++(ByteArray.mk #[32]))++d)++(ByteArray.mk #[32]))++g)++(ByteArray.mk #[32]))++i)++(ByteArray.mk #[32])).size+l.size:Nat):Int)>IntKind.i64.max)/\R (.returned (.string ((((((((((c++(ByteArray.mk #[32]))++b)++(ByteArray.mk #[32]))++d)++(ByteArray.mk #[32]))++g)++(ByteArray.mk #[32]))++i)++(ByteArray.mk #[32]))++l))) t
noncomputable def eS1:=entS X [] (pth [4]) P0 S1T
abbrev P1:Ps:=[(1,.l [.I,.I,.I,.s,.st,.s,.s] ty_api_Step),(3,.v [.st])]
abbrev S0T (e:Nat) (g a b:Int) (j:Sl) (k:ByteArray) (l m:Sl) (d:ByteArray) (w:World) (R:Post):Prop:=
 loc [e] w λn=>cf15 [e] n_enthymemeref01_Decimal #[.i a] n λc o=>¬(((c.size+(ByteArray.mk #[32]).size:Nat):Int)>IntKind.i64.max)/\cf15 [e] n_enthymemeref01_Decimal #[.i b] o λf p=>¬((((c++(ByteArray.mk #[32])).size+f.size:Nat):Int)>IntKind.i64.max)/\S1T e g a b j k l m d ((c++(ByteArray.mk #[32]))++f) p R
noncomputable def eS0:=entS X [eS1] (pth [3]) P1 S0T
theorem okT (b c d:Int) (e:Sl) (a:ByteArray) (f g:Sl) (w:World) (R:Post) (h:newV [] w λj k=>
 sel (a.toList==(ByteArray.mk #[]).toList) (S0T j b c d e a f g (ByteArray.mk #[45]) k R) (S0T j b c d e a f g a k R)):Calls Tryz.prog n_enthymemeref25_Line #[.agg #[.i b,.i c,.i d,e.v,.string a,f.v,g.v]] w R:=callsX X [eS0,eS1] h
end enthymemeref25_Line
namespace enthymemeref25_Lines
noncomputable abbrev X:Fx:=⟨Tryz.prog,Tryz.f5,[(6,ls [0,1,2,6,7,11,12,3,4,5,8,9,10,13,14,15,16,17,18])],[1,5]⟩
abbrev P0:Ps:=[(1,.l [.s,.s] ty_api_Proof),(3,.v [.s]),(4,.v [.I])]
def L0T (e:Nat) (b c a:Sl) (d:Int) (w:World) (R:Post):Prop:=mkCur P0 0 (X.Sem (pth [0,1,1,1,2])) e b c a d w R
noncomputable def eL0:=entL X (pth [0,1,1,1,2]) P0 L0T
abbrev P1:Ps:=[(1,.l [.s,.s] ty_api_Proof),(3,.v [.s]),(4,.v [.I]),(5,.l [.s,.s,.s,.s] ty_api_LemmaProof),(6,.v [.I])]
def L1T (l:Nat) (f g e:Sl) (i:Int) (k:Nat) (a b c d:Sl) (j:Int) (w:World) (R:Post):Prop:=mkCur P1 0 (X.Sem (pth [0,1,1,1,2,2,1,2,1,1,2])) l f g e i k a b c d j w R
noncomputable def eL1:=entL X (pth [0,1,1,1,2,2,1,2,1,1,2]) P1 L1T
abbrev P2:Ps:=[(1,.l [.s,.s] ty_api_Proof),(3,.v [.s]),(7,.v [.I])]
def L2T (e:Nat) (b c a:Sl) (d:Int) (w:World) (R:Post):Prop:=mkCur P2 0 (X.Sem (pth [0,1,1,1,3])) e b c a d w R
noncomputable def eL2:=entL X (pth [0,1,1,1,3]) P2 L2T
theorem L2T_step:∀(g:Nat) (e b c:Sl) (d:Int) (w:World) (R:Post) (h:sel (decide (d<((b.n:Nat):Int))) ((0:Int)<=d/\d<((b.n:Nat):Int)/\optP b.a λj=>ld7_4 w (j.add (Int.toNat d *7)) λk l m o p q r=>cf15 [g] n_enthymemeref25_Line #[.agg #[.i k,.i l,.i m,o.v,.string p,q.v,r.v]] w λx t=>nwV t (.cells #[.string x] ty_string) λu=>
 ∃(s:Sl) (f:World),Sem.run Tryz.prog (Builtin.append_ #[ty_sl_string,ty_sl_string] ty_sl_string #[c.v,.slice (some (nb t)) 1 1]) u=.ok (s.v) f/\kept [g] u f/\L2T g e b s (IntKind.wrap .i64 (d+1)) f R) (R (.returned (c.v)) w)),L2T g e b c d w R:=mp (stepL (X:=X) [eL2,eL1,eL0] (pth [0,1,1,1,3]) P2)
theorem L0T_step:∀(c:Nat) (b g f:Sl) (m:Int) (w:World) (R:Post) (h:sel (decide (m<((b.n:Nat):Int))) ((0:Int)<=m/\m<((b.n:Nat):Int)/\optP b.a λp=>ld4_5 w (p.add (Int.toNat m *4)) λi j k q=>newV [c] w λe z=>
 loc [c,e] z λw7=>cf15 [c,e] n_enthymemeref25_list #[j.v] w7 λd w8=>¬((((ByteArray.mk #[98,101,103,105,110,32]).size+d.size:Nat):Int)>IntKind.i64.max)/\¬(((((ByteArray.mk #[98,101,103,105,110,32])++d).size+(ByteArray.mk #[32]).size:Nat):Int)>IntKind.i64.max)/\cf15 [c,e] n_enthymemeref25_list #[k.v] w8 λl w9=>¬((((((ByteArray.mk #[98,101,103,105,110,32])++d)++(ByteArray.mk #[32])).size+l.size:Nat):Int)>IntKind.i64.max)/\¬(((((((ByteArray.mk #[98,101,103,105,110,32])++d)++(ByteArray.mk #[32]))++l).size+(ByteArray.mk #[32]).size:Nat):Int)>IntKind.i64.max)/\cf3 [c,e] n_enthymemeref07_Encode #[i.v] w9 λx y=>cf15 [c,e] n_enthymemeref25_hex #[x.v] y λr t=>¬((((((((ByteArray.mk #[98,101,103,105,110,32])++d)++(ByteArray.mk #[32]))++l)++(ByteArray.mk #[32])).size+r.size:Nat):Int)>IntKind.i64.max)/\nwV t (.cells #[.string ((((((ByteArray.mk #[98,101,103,105,110,32])++d)++(ByteArray.mk #[32]))++l)++(ByteArray.mk #[32]))++r)] ty_string) λu=>
 ∃(s:Sl) (o:World),Sem.run Tryz.prog (Builtin.append_ #[ty_sl_string,ty_sl_string] ty_sl_string #[f.v,.slice (some (nb t)) 1 1]) u=.ok (s.v) o/\kept [c,e] u o/\L1T c b g s m e i j k q 0 o R) (L2T c b g f 0 w R)),L0T c b g f m w R:=mp (stepL (X:=X) [eL2,eL1,eL0] (pth [0,1,1,1,2]) P0)
theorem okT (a b:Sl) (w:World) (R:Post) (h:newV [] w λc d=>
 L0T c a b ⟨none,0,0⟩ 0 d R):Calls Tryz.prog n_enthymemeref25_Lines #[.agg #[a.v,b.v]] w R:=callsX X [eL2,eL1,eL0] h
end enthymemeref25_Lines
namespace enthymemeref25_Text
noncomputable abbrev X:Fx:=⟨Tryz.prog,Tryz.f6,[],[]⟩
abbrev P0:Ps:=[(0,.v [.s]),(3,.v [.st]),(4,.v [.I])]
def L0 (c:Sl) (a:ByteArray) (b:Int) (w:World) (R:Post):Prop:=mkCur P0 0 (X.Sem (pth [0,1,1,1,2])) c a b w R
noncomputable def eL0:=entL X (pth [0,1,1,1,2]) P0 L0
abbrev S1 (c:Sl) (a:ByteArray) (b:Int) (w:World) (R:Post):Prop:=
 L0 c a (IntKind.wrap .i64 (b+1)) w R
noncomputable def eS1:=entS X [eL0] (pth [2,2,1,1,2]) P0 S1
theorem L0_step:∀(e:Sl) (b:ByteArray) (d:Int) (w:World) (R:Post) (h:sel (decide (d<((e.n:Nat):Int))) ((0:Int)<=d/\d<((e.n:Nat):Int)/\optP e.a λf=>∃c:ByteArray,w.cell? (f.add (Int.toNat d *1))=some (.string c)/\
 ¬(((b.size+c.size:Nat):Int)>IntKind.i64.max)/\¬((((b++c).size+(ByteArray.mk #[10]).size:Nat):Int)>IntKind.i64.max)/\S1 e ((b++c)++(ByteArray.mk #[10])) d w R) (R (.returned (.string b)) w)),L0 e b d w R:=mp (stepL (X:=X) [eS1,eL0] (pth [0,1,1,1,2]) P0)
theorem ok (a:Sl) (w:World) (R:Post) (h:L0 a (ByteArray.mk #[]) 0 w R):Calls Tryz.prog n_enthymemeref25_Text #[a.v] w R:=callsX X [eS1,eL0] h
end enthymemeref25_Text
namespace enthymemeref25_cursor_take
noncomputable abbrev X:Fx:=⟨Tryz.prog,Tryz.f45,[(0,ls [0,1,2,3,4,5,6,7,8,9,10,11,12,13,14,15,16,17,18,19,20,21,22,23,24,25,26,27,28,29,30,31,32,33,34,35,36,37,38])],[]⟩
abbrev P0:Ps:=[(0,.v [.r])]
abbrev S0 (a:Addr) (w:World) (R:Post):Prop:=
 stV w (a.add 2) (.bool true) λb=>
 R (.returned (.tuple #[])) b
noncomputable def eS0:=entS X [] (pth [0,1,1,1]) P0 S0
theorem ok (a:Addr) (c:ByteArray) (w:World) (R:Post) (h:drV w λb=>∃l:Bool,b.cell? (a.add 2)=some (.bool l)/\
 sel l (S0 a b R) (∃g:ByteArray,b.cell? (a.add 0)=some (.string g)/\
 ∃j:Int,b.cell? (a.add 1)=some (.i j)/\
 sel (decide (((g.size:Nat):Int)<(IntKind.wrap .i64 (j+((c.size:Nat):Int))))) (S0 a b R) (∃f:ByteArray,b.cell? (a.add 0)=some (.string f)/\
 ∃e:Int,b.cell? (a.add 1)=some (.i e)/\
 ∃d:Int,b.cell? (a.add 1)=some (.i d)/\
 (0:Int)<=(IntKind.wrap .i64 (d+((c.size:Nat):Int)))/\(IntKind.wrap .i64 (d+((c.size:Nat):Int)))<=((f.size:Nat):Int)/\(0:Int)<=e/\e<=(((Int.toNat (IntKind.wrap .i64 (d+((c.size:Nat):Int)))):Nat):Int)/\sel (!((f.extract (Int.toNat e) (Int.toNat (IntKind.wrap .i64 (d+((c.size:Nat):Int))))).toList==c.toList)) (S0 a b R) (∃k:Int,b.cell? (a.add 1)=some (.i k)/\
 stV b (a.add 1) (.i (IntKind.wrap .i64 (k+((c.size:Nat):Int)))) λm=>
 R (.returned (.tuple #[])) m)))):Calls Tryz.prog n_enthymemeref25_cursor_take #[.pointer (some a),.string c] w R:=callsX X [eS0] h
end enthymemeref25_cursor_take
namespace enthymemeref25_cursor_number
noncomputable abbrev X:Fx:=⟨Tryz.prog,Tryz.f46,[(2,ls [0,1,2,3,4,5,6,7,8,9,10,11,12,13,14,15,16,17,18,19,20,21,22,23,24,25,26,27,28,29,30,31,32,33,34,35,36,37,38,39,40,41,42,43,44,45,46,47,48,49,50,51,52,53]),(4,ls [0,1,2,3,4,5,6,7,8,9,10])],[]⟩
abbrev P0:Ps:=[(0,.v [.r]),(3,.v [.I])]
def L0 (b:Addr) (a:Int) (w:World) (R:Post):Prop:=mkCur P0 0 (X.Sem (pth [0,2,2])) b a w R
noncomputable def eL0:=entL X (pth [0,2,2]) P0 L0
abbrev S1 (c:Addr) (a:Int) (w:World) (R:Post):Prop:=
 ∃b:Int,w.cell? (c.add 1)=some (.i b)/\
 stV w (c.add 1) (.i (IntKind.wrap .i64 (b+1))) λd=>
 L0 c a d R
noncomputable def eS1:=entS X [eL0] (pth [1,3,2]) P0 S1
abbrev P1:Ps:=[(0,.v [.r]),(4,.v [.st]),(5,.v [.I]),(6,.v [.I])]
def L4 (b:Addr) (a:ByteArray) (d c:Int) (w:World) (R:Post):Prop:=mkCur P1 0 (X.Sem (pth [0,1,1,1,5])) b a d c w R
noncomputable def eL4:=entL X (pth [0,1,1,1,5]) P1 L4
abbrev S5 (b:Addr) (a:ByteArray) (d c:Int) (w:World) (R:Post):Prop:=
 L4 b a d (IntKind.wrap .i64 (c+1)) w R
noncomputable def eS5:=entS X [eL4,eS1,eL0] (pth [2,2,1,1,5]) P1 S5
abbrev P2:Ps:=[(5,.v [.I])]
abbrev S8 (a:Int) (w:World) (R:Post):Prop:=
 R (.returned (.i a)) w
noncomputable def eS8:=entS X [eS5,eL4,eS1,eL0] (pth [8]) P2 S8
abbrev P3:Ps:=[(0,.v [.r]),(4,.v [.st]),(5,.v [.I])]
abbrev S7 (e:Addr) (d:ByteArray) (a:Int) (w:World) (R:Post):Prop:=
 ca15 n_enthymemeref01_Decimal #[.i a] w λb c=>sel (!(b.toList==d.toList)) (stV c (e.add 2) (.bool true) λf=>
 S8 a f R) (S8 a c R)
noncomputable def eS7:=entS X [eS8,eS5,eL4,eS1,eL0] (pth [7]) P3 S7
abbrev S6 (c:Addr) (b:ByteArray) (d:Int) (w:World) (R:Post):Prop:=
 sel (decide (((b.size:Nat):Int)>0)) ((0:Int)<=0/\∃a:UInt8,b[Int.toNat 0]? =some a/\sel (((a.toNat:Nat):Int) !=45) (S7 c b (IntKind.wrap .i64 (0 - d)) w R) (S7 c b d w R)) (S7 c b d w R)
noncomputable def eS6:=entS X [eS7,eS8,eS5,eL4,eS1,eL0] (pth [6]) P3 S6
theorem L4_step:∀(e:Addr) (a:ByteArray) (f b:Int) (w:World) (R:Post) (h:sel (decide (b<((a.size:Nat):Int))) (sel (decide (((a.size:Nat):Int)<21)) ((0:Int)<=b/\∃d:UInt8,a[Int.toNat b]? =some d/\sel (((d.toNat:Nat):Int) !=45) ((0:Int)<=b/\∃c:UInt8,a[Int.toNat b]? =some c/\S5 e a (IntKind.wrap .i64 ((IntKind.wrap .i64 (10 *f)) - (IntKind.wrap .i64 (IntKind.wrap .u8 (((c.toNat:Nat):Int) - 48))))) b w R) (S5 e a f b w R)) (S6 e a f w R)) (S6 e a f w R)),L4 e a f b w R:=mp (stepL (X:=X) [eS6,eS7,eS8,eS5,eL4,eS1,eL0] (pth [0,1,1,1,5]) P1)
abbrev P4:Ps:=[(0,.v [.r]),(4,.v [.st])]
abbrev S3 (b:Addr) (a:ByteArray) (w:World) (R:Post):Prop:=
 L4 b a 0 0 w R
noncomputable def eS3:=entS X [eS6,eS7,eS8,eS5,eL4,eS1,eL0] (pth [4]) P4 S3
abbrev S2 (d:Addr) (a:Int) (w:World) (R:Post):Prop:=
 drV w λe=>∃c:ByteArray,e.cell? (d.add 0)=some (.string c)/\
 ∃b:Int,e.cell? (d.add 1)=some (.i b)/\
 (0:Int)<=b/\b<=((c.size:Nat):Int)/\(0:Int)<=a/\a<=(((Int.toNat b):Nat):Int)/\S3 d (c.extract (Int.toNat a) (Int.toNat b)) e R
noncomputable def eS2:=entS X [eS3,eS6,eS7,eS8,eS5,eL4,eS1,eL0] (pth [3]) P0 S2
theorem L0_step:∀(b:Addr) (a:Int) (w:World) (R:Post) (h:drV w λc=>∃p:Int,c.cell? (b.add 1)=some (.i p)/\
 ∃q:ByteArray,c.cell? (b.add 0)=some (.string q)/\
 sel (decide (p<((q.size:Nat):Int))) (∃r:ByteArray,c.cell? (b.add 0)=some (.string r)/\
 ∃m:Int,c.cell? (b.add 1)=some (.i m)/\
 (0:Int)<=m/\∃j:UInt8,r[Int.toNat m]? =some j/\sel (decide (((j.toNat:Nat):Int)>=48)) (∃s:ByteArray,c.cell? (b.add 0)=some (.string s)/\
 ∃n:Int,c.cell? (b.add 1)=some (.i n)/\
 (0:Int)<=n/\∃k:UInt8,s[Int.toNat n]? =some k/\sel (decide (((k.toNat:Nat):Int)<=57)) (S1 b a c R) (∃t:ByteArray,c.cell? (b.add 0)=some (.string t)/\
 ∃o:Int,c.cell? (b.add 1)=some (.i o)/\
 (0:Int)<=o/\∃l:UInt8,t[Int.toNat o]? =some l/\sel (((l.toNat:Nat):Int)==45) (∃u:Int,c.cell? (b.add 1)=some (.i u)/\
 sel (u==a) (S1 b a c R) (S2 b a c R)) (S2 b a c R))) (∃f:ByteArray,c.cell? (b.add 0)=some (.string f)/\
 ∃d:Int,c.cell? (b.add 1)=some (.i d)/\
 (0:Int)<=d/\∃e:UInt8,f[Int.toNat d]? =some e/\sel (((e.toNat:Nat):Int)==45) (∃g:Int,c.cell? (b.add 1)=some (.i g)/\
 sel (g==a) (S1 b a c R) (S2 b a c R)) (S2 b a c R))) (S2 b a c R)),L0 b a w R:=mp (stepL (X:=X) [eS2,eS3,eS6,eS7,eS8,eS5,eL4,eS1,eL0] (pth [0,2,2]) P0)
theorem ok (b:Addr) (w:World) (R:Post) (h:∃a:Int,w.cell? (b.add 1)=some (.i a)/\
 L0 b a w R):Calls Tryz.prog n_enthymemeref25_cursor_number #[.pointer (some b)] w R:=callsX X [eS2,eS3,eS6,eS7,eS8,eS5,eL4,eS1,eL0] h
end enthymemeref25_cursor_number
namespace enthymemeref25_cursor_list
noncomputable abbrev X:Fx:=⟨Tryz.prog,Tryz.f47,[(3,ls [0,1,2,3,4,5,6,7,8,9,10,11,12,13,14,15,16,17,18,19,20,21,22,23,24,25,26,27,28])],[]⟩
abbrev P0:Ps:=[(0,.v [.r]),(3,.v [.s])]
def L0 (b:Addr) (a:Sl) (w:World) (R:Post):Prop:=mkCur P0 0 (X.Sem (pth [0,2,3])) b a w R
noncomputable def eL0:=entL X (pth [0,2,3]) P0 L0
abbrev S1 (c:Addr) (b:Sl) (w:World) (R:Post):Prop:=
 ca1 n_enthymemeref25_cursor_number #[.pointer (some c)] w λd e=>nwV e (.cells #[.i d] ty_int) λg=>
 ∃(a:Sl) (f:World),Sem.run Tryz.prog (Builtin.append_ #[ty_sl_int,ty_sl_int] ty_sl_int #[b.v,.slice (some (nb e)) 1 1]) g=.ok (a.v) f/\L0 c a f R
noncomputable def eS1:=entS X [eL0] (pth [1,1,1,3,3]) P0 S1
abbrev S2 (b:Addr) (a:Sl) (w:World) (R:Post):Prop:=
 ca4 n_enthymemeref25_cursor_take #[.pointer (some b),.string (ByteArray.mk #[41])] w λc=>R (.returned (a.v)) c
noncomputable def eS2:=entS X [eS1,eL0] (pth [4]) P0 S2
theorem L0_step:∀(b:Addr) (a:Sl) (w:World) (R:Post) (h:drV w λc=>∃k:Bool,c.cell? (b.add 2)=some (.bool k)/\
 sel (!k) (∃f:Int,c.cell? (b.add 1)=some (.i f)/\
 ∃g:ByteArray,c.cell? (b.add 0)=some (.string g)/\
 sel (decide (f<((g.size:Nat):Int))) (∃j:ByteArray,c.cell? (b.add 0)=some (.string j)/\
 ∃e:Int,c.cell? (b.add 1)=some (.i e)/\
 (0:Int)<=e/\∃d:UInt8,j[Int.toNat e]? =some d/\sel (((d.toNat:Nat):Int) !=41) (sel (decide (((a.n:Nat):Int)>0)) (ca4 n_enthymemeref25_cursor_take #[.pointer (some b),.string (ByteArray.mk #[32])] c λl=>S1 b a l R) (S1 b a c R)) (S2 b a c R)) (S2 b a c R)) (S2 b a c R)),L0 b a w R:=mp (stepL (X:=X) [eS2,eS1,eL0] (pth [0,2,3]) P0)
theorem ok (a:Addr) (w:World) (R:Post) (h:ca4 n_enthymemeref25_cursor_take #[.pointer (some a),.string (ByteArray.mk #[40])] w λb=>L0 a ⟨none,0,0⟩ b R):Calls Tryz.prog n_enthymemeref25_cursor_list #[.pointer (some a)] w R:=callsX X [eS2,eS1,eL0] h
end enthymemeref25_cursor_list
namespace enthymemeref25_cursor_word
noncomputable abbrev X:Fx:=⟨Tryz.prog,Tryz.f44,[(2,ls [0,1,2,3,4,5,6,7,8,9,10,11,12,13,14,15,16,17,18,19,20,21]),(4,ls [0,1,2,3,4,5,6,7,8,9,10])],[]⟩
abbrev P0:Ps:=[(0,.v [.r]),(3,.v [.I])]
def L0 (b:Addr) (a:Int) (w:World) (R:Post):Prop:=mkCur P0 0 (X.Sem (pth [0,2,2])) b a w R
noncomputable def eL0:=entL X (pth [0,2,2]) P0 L0
abbrev S1 (e:Addr) (a:Int) (w:World) (R:Post):Prop:=
 drV w λd=>∃c:ByteArray,d.cell? (e.add 0)=some (.string c)/\
 ∃b:Int,d.cell? (e.add 1)=some (.i b)/\
 (0:Int)<=b/\b<=((c.size:Nat):Int)/\(0:Int)<=a/\a<=(((Int.toNat b):Nat):Int)/\R (.returned (.string (c.extract (Int.toNat a) (Int.toNat b)))) d
noncomputable def eS1:=entS X [eL0] (pth [3]) P0 S1
theorem L0_step:∀(b:Addr) (a:Int) (w:World) (R:Post) (h:drV w λc=>∃f:Int,c.cell? (b.add 1)=some (.i f)/\
 ∃g:ByteArray,c.cell? (b.add 0)=some (.string g)/\
 sel (decide (f<((g.size:Nat):Int))) (∃j:ByteArray,c.cell? (b.add 0)=some (.string j)/\
 ∃e:Int,c.cell? (b.add 1)=some (.i e)/\
 (0:Int)<=e/\∃d:UInt8,j[Int.toNat e]? =some d/\sel (((d.toNat:Nat):Int) !=32) (∃k:Int,c.cell? (b.add 1)=some (.i k)/\
 stV c (b.add 1) (.i (IntKind.wrap .i64 (k+1))) λl=>
 L0 b a l R) (S1 b a c R)) (S1 b a c R)),L0 b a w R:=mp (stepL (X:=X) [eS1,eL0] (pth [0,2,2]) P0)
theorem ok (a:Addr) (w:World) (R:Post) (h:∃b:Int,w.cell? (a.add 1)=some (.i b)/\
 L0 a b w R):Calls Tryz.prog n_enthymemeref25_cursor_word #[.pointer (some a)] w R:=callsX X [eS1,eL0] h
end enthymemeref25_cursor_word
namespace enthymemeref25_Read
noncomputable abbrev X:Fx:=⟨Tryz.prog,Tryz.f23,[],[2,5]⟩
abbrev P0:Ps:=[(0,.v [.st]),(2,.l [.I,.I,.I,.s,.st,.s,.s] ty_api_Step),(4,.v [.r]),(5,.l [.I,.I,.I,.s,.st,.s,.s] ty_api_Step),(6,.v [.st]),(7,.v [.I])]
def L0T (b:ByteArray) (u:Nat) (k l m:Int) (n:Sl) (o:ByteArray) (p q:Sl) (r:Addr) (t:Nat) (c d e:Int) (f:Sl) (g:ByteArray) (i j:Sl) (a:ByteArray) (s:Int) (w:World) (R:Post):Prop:=mkCur P0 0 (X.Sem (pth [0,1,1,1,4])) b u k l m n o p q r t c d e f g i j a s w R
noncomputable def eL0:=entL X (pth [0,1,1,1,4]) P0 L0T
abbrev S1T (b:ByteArray) (u:Nat) (k l m:Int) (n:Sl) (o:ByteArray) (p q:Sl) (r:Addr) (t:Nat) (c d e:Int) (f:Sl) (g:ByteArray) (i j:Sl) (a:ByteArray) (s:Int) (w:World) (R:Post):Prop:=
 L0T b u k l m n o p q r t c d e f g i j a (IntKind.wrap .i64 (s+1)) w R
noncomputable def eS1:=entS X [eL0] (pth [2,2,1,1,4]) P0 S1T
abbrev P1:Ps:=[(2,.l [.I,.I,.I,.s,.st,.s,.s] ty_api_Step),(5,.l [.I,.I,.I,.s,.st,.s,.s] ty_api_Step),(8,.v [.b])]
abbrev S3T (l:Nat) (m n o:Int) (p:Sl) (q:ByteArray) (r s:Sl) (k:Nat) (b c d:Int) (e:Sl) (f:ByteArray) (g j:Sl) (a:Bool) (w:World) (R:Post):Prop:=
 loc [l,k] w λt=>R (.returned (.tuple #[.agg #[.i b,.i c,.i d,e.v,.string f,g.v,j.v],.bool a])) t
noncomputable def eS3:=entS X [eS1,eL0] (pth [19]) P1 S3T
abbrev S2T (r:Nat) (j k l:Int) (m:Sl) (n:ByteArray) (o p:Sl) (q:Nat) (b c d:Int) (e:Sl) (f:ByteArray) (g i:Sl) (a:Bool) (w:World) (R:Post):Prop:=
 sel (f.toList==(ByteArray.mk #[45]).toList) (loc [r,q] w λs=>S3T r j k l m n o p q b c d e (ByteArray.mk #[]) g i a s R) (S3T r j k l m n o p q b c d e f g i a w R)
noncomputable def eS2:=entS X [eS3,eS1,eL0] (pth [18]) P1 S2T
theorem L0T_step:∀(q:ByteArray) (c:Nat) (f g j:Int) (k:Sl) (l:ByteArray) (m o:Sl) (d:Addr) (b:Nat) (e aa ab:Int) (ac:Sl) (ad:ByteArray) (ae af:Sl) (p:ByteArray) (t:Int) (w:World) (R:Post) (h:sel (decide (t<6)) (cf3 [c,b] n_enthymemeref25_words #[] w λaj ah=>(0:Int)<=t/\t<((aj.n:Nat):Int)/\optP aj.a λai=>∃ak:ByteArray,ah.cell? (ai.add (Int.toNat t *1))=some (.string ak)/\
 sel (ak.toList==p.toList) (loc [c,b] ah λan=>S1T q c f g j k l m o d b t aa ab ac ad ae af p t an R) (S1T q c f g j k l m o d b e aa ab ac ad ae af p t ah R)) (cf4 [c,b] n_enthymemeref25_cursor_take #[.pointer (some d),.string (ByteArray.mk #[32])] w λao=>cf1 [c,b] n_enthymemeref25_cursor_number #[.pointer (some d)] ao λu ap=>loc [c,b] ap λaq=>cf4 [c,b] n_enthymemeref25_cursor_take #[.pointer (some d),.string (ByteArray.mk #[32])] aq λar=>cf1 [c,b] n_enthymemeref25_cursor_number #[.pointer (some d)] ar λv au=>loc [c,b] au λav=>cf4 [c,b] n_enthymemeref25_cursor_take #[.pointer (some d),.string (ByteArray.mk #[32])] av λaw=>cf15 [c,b] n_enthymemeref25_cursor_word #[.pointer (some d)] aw λr ax=>loc [c,b] ax λay=>cf4 [c,b] n_enthymemeref25_cursor_take #[.pointer (some d),.string (ByteArray.mk #[32])] ay λaz=>cf3 [c,b] n_enthymemeref25_cursor_list #[.pointer (some d)] az λx bb=>loc [c,b] bb λbc=>cf4 [c,b] n_enthymemeref25_cursor_take #[.pointer (some d),.string (ByteArray.mk #[32])] bc λbd=>cf3 [c,b] n_enthymemeref25_cursor_list #[.pointer (some d)] bd λy be=>loc [c,b] be λbf=>cf4 [c,b] n_enthymemeref25_cursor_take #[.pointer (some d),.string (ByteArray.mk #[32])] bf λbg=>cf3 [c,b] n_enthymemeref25_cursor_list #[.pointer (some d)] bg λz bh=>loc [c,b] bh λs=>∃al:Bool,s.cell? (d.add 2)=some (.bool al)/\
 sel (!al) (∃am:Int,s.cell? (d.add 1)=some (.i am)/\
 sel (am==((q.size:Nat):Int)) (sel (decide (e>=0)) (sel (!(r.toList==(ByteArray.mk #[]).toList)) ((0:Int)<=0/\∃ag:UInt8,r[Int.toNat 0]? =some ag/\S2T c f g j k l m o b e u v x r z y (((ag.toNat:Nat):Int) !=40) s R) (S2T c f g j k l m o b e u v x r z y false s R)) (S2T c f g j k l m o b e u v x r z y false s R)) (S2T c f g j k l m o b e u v x r z y false s R)) (S2T c f g j k l m o b e u v x r z y false s R))),L0T q c f g j k l m o d b e aa ab ac ad ae af p t w R:=mp (stepL (X:=X) [eS2,eS3,eS1,eL0] (pth [0,1,1,1,4]) P0)
theorem okT (a:ByteArray) (w:World) (R:Post) (h:newV [] w λb d=>
 nwV d (.cells #[.string a,.i 0,.bool false] ty_enthymemeref25_cursor) λj=>
 newV [b] j λc k=>
 loc [b,c] k λf=>cf15 [b,c] n_enthymemeref25_cursor_word #[.pointer (some (nb d))] f λe g=>L0T a b 0 0 0 ⟨none,0,0⟩ (ByteArray.mk #[]) ⟨none,0,0⟩ ⟨none,0,0⟩ (nb d) c (-1) 0 0 ⟨none,0,0⟩ (ByteArray.mk #[]) ⟨none,0,0⟩ ⟨none,0,0⟩ e 0 g R):Calls Tryz.prog n_enthymemeref25_Read #[.string a] w R:=callsX X [eS2,eS3,eS1,eL0] h
end enthymemeref25_Read
namespace enthymemeref25_Parse
noncomputable abbrev X:Fx:=⟨Tryz.prog,Tryz.f9,[],[2,5,8]⟩
abbrev P0:Ps:=[(0,.v [.st]),(2,.l [.s,.s] ty_api_Proof),(5,.l [.s,.s] ty_api_Proof),(6,.v [.I])]
def L0T (g:ByteArray) (i:Nat) (d e:Sl) (c:Nat) (a b:Sl) (f:Int) (w:World) (R:Post):Prop:=mkCur P0 0 (X.Sem (pth [0,1,1,1,2])) g i d e c a b f w R
noncomputable def eL0:=entL X (pth [0,1,1,1,2]) P0 L0T
abbrev P1:Ps:=[(0,.v [.st]),(2,.l [.s,.s] ty_api_Proof),(5,.l [.s,.s] ty_api_Proof),(6,.v [.I]),(7,.v [.I])]
def L1T (i:ByteArray) (j:Nat) (e f:Sl) (d:Nat) (a b:Sl) (g c:Int) (w:World) (R:Post):Prop:=mkCur P1 0 (X.Sem (pth [0,2,1,1,1,2,1,1,2])) i j e f d a b g c w R
noncomputable def eL1:=entL X (pth [0,2,1,1,1,2,1,1,2]) P1 L1T
abbrev P2:Ps:=[(2,.l [.s,.s] ty_api_Proof),(6,.v [.I])]
abbrev S3T (b:Nat) (c d:Sl) (a:Int) (w:World) (R:Post):Prop:=
 loc [b] w λe=>R (.returned (.tuple #[.agg #[.slice none 0 0,.slice none 0 0],.i a,.i 2])) e
noncomputable def eS3:=entS X [eL1,eL0] (pth [0,1,1,1,3,1,1,2,1,1,2]) P2 S3T
abbrev S2T (u:ByteArray) (c:Nat) (e f:Sl) (a:Nat) (r s:Sl) (d b:Int) (w:World) (R:Post):Prop:=
 (0:Int)<=b/\b<=((u.size:Nat):Int)/\(0:Int)<=d/\d<=(((Int.toNat b):Nat):Int)/\cf31 [c,a] n_enthymemeref25_Read #[.string (u.extract (Int.toNat d) (Int.toNat b))] w λg j k l m n o x w1=>newV [c,a] w1 λq w2=>
 sel (!x) (loc [c,a,q] w2 λp=>S3T c e f d p R) (sel (b==((u.size:Nat):Int)) (loc [c,a,q] w2 λp=>S3T c e f d p R) (loc [c,a,q] w2 λp=>nwV p (.cells #[.i g,.i j,.i k,l.v,.string m,n.v,o.v] ty_api_Step) λz=>
 ∃(y:Sl) (t:World),Sem.run Tryz.prog (Builtin.append_ #[ty_sl_api_Step,ty_sl_api_Step] ty_sl_api_Step #[s.v,.slice (some (nb p)) 1 1]) z=.ok (y.v) t/\kept [c,a,q] z t/\loc [c,a,q] t λab=>L0T u c e f a r y (IntKind.wrap .i64 (b+1)) ab R))
noncomputable def eS2:=entS X [eS3,eL1,eL0] (pth [2,1,1,2,1,1,2]) P1 S2T
theorem L1T_step:∀(j:ByteArray) (k:Nat) (e f:Sl) (d:Nat) (b c:Sl) (g a:Int) (w:World) (R:Post) (h:sel (decide (a<((j.size:Nat):Int))) ((0:Int)<=a/\∃i:UInt8,j[Int.toNat a]? =some i/\sel (((i.toNat:Nat):Int) !=10) (L1T j k e f d b c g (IntKind.wrap .i64 (a+1)) w R) (S2T j k e f d b c g a w R)) (S2T j k e f d b c g a w R)),L1T j k e f d b c g a w R:=mp (stepL (X:=X) [eS2,eS3,eL1,eL0] (pth [0,2,1,1,1,2,1,1,2]) P1)
theorem L0T_step:∀(j:ByteArray) (e:Nat) (f g:Sl) (c:Nat) (a b:Sl) (d:Int) (w:World) (R:Post) (h:sel (decide (d<((j.size:Nat):Int))) (L1T j e f g c a b d d w R) (cf1 [e,c] n_enthymemeref25_Valid #[.agg #[a.v,b.v]] w λk l=>sel (k !=0) (loc [e,c] l λm=>R (.returned (.tuple #[.agg #[.slice none 0 0,.slice none 0 0],.i ((j.size:Nat):Int),.i k])) m) (loc [e,c] l λn=>R (.returned (.tuple #[.agg #[a.v,b.v],.i 0,.i 0])) n))),L0T j e f g c a b d w R:=mp (stepL (X:=X) [eS2,eS3,eL1,eL0] (pth [0,1,1,1,2]) P0)
theorem okT (c:ByteArray) (w:World) (R:Post) (h:newV [] w λa d=>
 newV [a] d λb e=>
 loc [a,b] e λf=>L0T c a ⟨none,0,0⟩ ⟨none,0,0⟩ b ⟨none,0,0⟩ ⟨none,0,0⟩ 0 f R):Calls Tryz.prog n_enthymemeref25_Parse #[.string c] w R:=callsX X [eS2,eS3,eL1,eL0] h
end enthymemeref25_Parse
namespace enthymemeref25_first
noncomputable def C0:Code:=(Tryz.f13.body).getD .skip
noncomputable def C1:=C0.sn
noncomputable def C2:=C1.sn
noncomputable def C3:=C2.fs
noncomputable def C4:=C3.sn
noncomputable def C5:=C4.fs
noncomputable def C6:=C5.fs
noncomputable def C7:=C2.sn
abbrev Q0 (R:Post):ExP:=(Exit.then (wpx Tryz.prog (cx 141) C7 (bodyPost Tryz.prog Tryz.f13 R)) (bodyPost Tryz.prog Tryz.f13 R))
abbrev Q1 (R:Post):ExP:=(Exit.inBlock 0 (Q0 R))
def L0 (d:Sl) (a:Int) (e b:Addr) (c:Int) (w:World) (R:Post):Prop:=LP Tryz.prog (cx 141) C6 (Q1 R) [(0,d.v),(1,.i a),(4,.pointer (some e)),(5,.pointer (some b)),(6,.i c)] w
def KE_L0 (E:Env) (w:World) (R:Post):Prop:=W.asSlice (Env.get? E 0) λd=>W.asInt .i64 (Env.get? E 1) λa=>W.asRef (Env.get? E 4) λe=>W.asRef (Env.get? E 5) λb=>W.asInt .i64 (Env.get? E 6) λc=>L0 d a e b c w R
theorem KE_L0_ok:LOk Tryz.prog 141 KE_L0 C6 Q1:=by
 intro R E w h
 obtain ⟨l0,hq0,h_1⟩:=W.asSlice_elim h
 obtain ⟨most1,hq1,h_2⟩:=W.asInt_elim h_1
 obtain ⟨t4,hq4,h_3⟩:=W.asRef_elim h_2
 obtain ⟨out5,hq5,h_4⟩:=W.asRef_elim h_3
 obtain ⟨i6,hq6,h_5⟩:=W.asInt_elim h_4
 intro a ha
 exact h_5 a (ha.cons hq0 (ha.cons hq1 (ha.cons hq4 (ha.cons hq5 (ha.cons hq6 ha.nil)))))
noncomputable def C8:=C6.sn
noncomputable def C9:=C8.sn
abbrev Q2 (R:Post):ExP:=(Exit.then (LoopWP Tryz.prog (cx 141) C6 (Q1 R)) (Q1 R))
abbrev S1 (d:Sl) (a:Int) (e b:Addr) (c:Int) (w:World) (R:Post):Prop:=
 L0 d a e b (IntKind.wrap .i64 (c+1)) w R
def KE_S1 (E:Env) (w:World) (R:Post):Prop:=W.asSlice (Env.get? E 0) λd=>W.asInt .i64 (Env.get? E 1) λa=>W.asRef (Env.get? E 4) λe=>W.asRef (Env.get? E 5) λb=>W.asInt .i64 (Env.get? E 6) λc=>S1 d a e b c w R
theorem KE_S1_ok:KOk Tryz.prog 141 KE_S1 C9 Q2:=by
 intro R E w h
 obtain ⟨l0,hq0,h_1⟩:=W.asSlice_elim h
 obtain ⟨most1,hq1,h_2⟩:=W.asInt_elim h_1
 obtain ⟨t4,hq4,h_3⟩:=W.asRef_elim h_2
 obtain ⟨out5,hq5,h_4⟩:=W.asRef_elim h_3
 obtain ⟨i6,hq6,h_5⟩:=W.asInt_elim h_4
 exact λa b=>WP.at (E:=[(0,l0.v),(1,.i most1),(4,.pointer (some t4)),(5,.pointer (some out5)),(6,.i i6)]) (rg C9 (K:=λE w=>KE_L0 E w R) (by kernel_rfl) (mp h_5) λ_ _ a c d=>KE_L0_ok R _ _ d a c) (b.cons hq0 (b.cons hq1 (b.cons hq4 (b.cons hq5 (b.cons hq6 b.nil)))))
noncomputable def C10:=C8.fs
noncomputable def C11:=C10.fs
noncomputable def C12:=C7.fs
noncomputable def C13:=C12.sn
noncomputable def C14:=C13.fs
noncomputable def C15:=C14.fs
noncomputable def C16:=C7.sn
abbrev Q3 (R:Post):ExP:=(Exit.then (wpx Tryz.prog (cx 141) C16 (bodyPost Tryz.prog Tryz.f13 R)) (bodyPost Tryz.prog Tryz.f13 R))
abbrev Q4 (R:Post):ExP:=(Exit.inBlock 2 (Q3 R))
def L2 (d:Sl) (a:Int) (e b:Addr) (c:Int) (w:World) (R:Post):Prop:=LP Tryz.prog (cx 141) C15 (Q4 R) [(0,d.v),(1,.i a),(4,.pointer (some e)),(5,.pointer (some b)),(7,.i c)] w
def KE_L2 (E:Env) (w:World) (R:Post):Prop:=W.asSlice (Env.get? E 0) λd=>W.asInt .i64 (Env.get? E 1) λa=>W.asRef (Env.get? E 4) λe=>W.asRef (Env.get? E 5) λb=>W.asInt .i64 (Env.get? E 7) λc=>L2 d a e b c w R
theorem KE_L2_ok:LOk Tryz.prog 141 KE_L2 C15 Q4:=by
 intro R E w h
 obtain ⟨l0,hq0,h_1⟩:=W.asSlice_elim h
 obtain ⟨most1,hq1,h_2⟩:=W.asInt_elim h_1
 obtain ⟨t4,hq4,h_3⟩:=W.asRef_elim h_2
 obtain ⟨out5,hq5,h_4⟩:=W.asRef_elim h_3
 obtain ⟨i7,hq7,h_5⟩:=W.asInt_elim h_4
 intro a ha
 exact h_5 a (ha.cons hq0 (ha.cons hq1 (ha.cons hq4 (ha.cons hq5 (ha.cons hq7 ha.nil)))))
noncomputable def C17:=C15.sn
noncomputable def C18:=C17.fs
noncomputable def C19:=C18.fs
noncomputable def C20:=C19.sn
noncomputable def C21:=C20.sn
noncomputable def C22:=C21.sn
noncomputable def C23:=C22.sn
noncomputable def C24:=C23.sn
noncomputable def C25:=C17.sn
abbrev Q5 (R:Post):ExP:=(Exit.then (wpx Tryz.prog (cx 141) C25 (Exit.then (LoopWP Tryz.prog (cx 141) C15 (Q4 R)) (Q4 R))) (Exit.then (LoopWP Tryz.prog (cx 141) C15 (Q4 R)) (Q4 R)))
abbrev Q6 (R:Post):ExP:=(Exit.inBlock 3 (Q5 R))
abbrev S6 (p:Sl) (m:Int) (r a:Addr) (o:Int) (q:Addr) (w:World) (R:Post):Prop:=
 ∃b:Sl,w.cell? (a.add 1)=some (b.v)/\
 ld7_4 w q λc d e f g j k=>nwV w (.cells #[.i c,.i d,.i e,f.v,.string g,j.v,k.v] ty_api_Step) λs=>
 ∃(l:Sl) (n:World),Sem.run Tryz.prog (Builtin.append_ #[ty_sl_api_Step,ty_sl_api_Step] ty_sl_api_Step #[b.v,.slice (some (nb w)) 1 1]) s=.ok (l.v) n/\stV n (a.add 1) (l.v) λt=>
 L2 p m r a (IntKind.wrap .i64 (o+1)) t R
def KE_S6 (E:Env) (w:World) (R:Post):Prop:=W.asSlice (Env.get? E 0) λd=>W.asInt .i64 (Env.get? E 1) λa=>W.asRef (Env.get? E 4) λf=>W.asRef (Env.get? E 5) λb=>W.asInt .i64 (Env.get? E 7) λc=>W.asRef (Env.get? E 9) λe=>S6 d a f b c e w R
theorem KE_S6_ok:KOk Tryz.prog 141 KE_S6 C24 Q6:=by
 intro R E w h
 obtain ⟨l0,hq0,h_1⟩:=W.asSlice_elim h
 obtain ⟨most1,hq1,h_2⟩:=W.asInt_elim h_1
 obtain ⟨t4,hq4,h_3⟩:=W.asRef_elim h_2
 obtain ⟨out5,hq5,h_4⟩:=W.asRef_elim h_3
 obtain ⟨i7,hq7,h_5⟩:=W.asInt_elim h_4
 obtain ⟨s9,hq9,h_6⟩:=W.asRef_elim h_5
 exact λa b=>WP.at (E:=[(0,l0.v),(1,.i most1),(4,.pointer (some t4)),(5,.pointer (some out5)),(7,.i i7),(9,.pointer (some s9))]) (rg C24 (K:=λE w=>rgK Tryz.prog C25 (λE w=>KE_L2 E w R) E w) (by kernel_rfl) (mp h_6) λ_ _ a c d=>nx c (rg C25 (by kernel_rfl) d λ_ _ a c d=>KE_L2_ok R _ _ d a c)) (b.cons hq0 (b.cons hq1 (b.cons hq4 (b.cons hq5 (b.cons hq7 (b.cons hq9 b.nil))))))
noncomputable def C26:=C23.fs
noncomputable def C27:=C26.sn
noncomputable def C28:=C27.fs
abbrev Q7 (R:Post):ExP:=(Exit.then (wpx Tryz.prog (cx 141) C24 (Exit.inBlock 3 (Q5 R))) (Exit.inBlock 3 (Q5 R)))
noncomputable def C29:=C28.sn
noncomputable def C30:=C29.sn
noncomputable def C31:=C30.fs
noncomputable def C32:=C30.sn
abbrev S5 (n:Sl) (d:Int) (o f:Addr) (e k:Int) (a:Addr) (w:World) (R:Post):Prop:=
 drV w λl=>∃b:Sl,l.cell? (a.add 6)=some (b.v)/\
 e≠0/\nwV l (.cells #[.i (Int.tmod (IntKind.wrap .i64 (Int.tdiv k 8)) e)] ty_int) λp=>
 p.cell? (a.add 6)=some (b.v)/\∃(g:Sl) (q:World),Sem.run Tryz.prog (Builtin.append_ #[ty_sl_int,ty_sl_int] ty_sl_int #[b.v,.slice (some (nb l)) 1 1]) p=.ok (g.v) q/\stV q (a.add 6) (g.v) λr=>
 sel (decide ((Int.tmod (IntKind.wrap .i64 (Int.tdiv k 64)) 3)>0)) (drV r λm=>∃c:Sl,m.cell? (a.add 6)=some (c.v)/\
 e≠0/\nwV m (.cells #[.i (Int.tmod (IntKind.wrap .i64 (Int.tdiv k 256)) e)] ty_int) λs=>
 s.cell? (a.add 6)=some (c.v)/\∃(j:Sl) (t:World),Sem.run Tryz.prog (Builtin.append_ #[ty_sl_int,ty_sl_int] ty_sl_int #[c.v,.slice (some (nb m)) 1 1]) s=.ok (j.v) t/\stV t (a.add 6) (j.v) λu=>
 S6 n d o f e a u R) (S6 n d o f e a r R)
def KE_S5 (E:Env) (w:World) (R:Post):Prop:=W.asSlice (Env.get? E 0) λd=>W.asInt .i64 (Env.get? E 1) λa=>W.asRef (Env.get? E 4) λg=>W.asRef (Env.get? E 5) λb=>W.asInt .i64 (Env.get? E 7) λc=>W.asInt .i64 (Env.get? E 8) λe=>W.asRef (Env.get? E 9) λf=>S5 d a g b c e f w R
theorem KE_S5_ok:KOk Tryz.prog 141 KE_S5 C28 Q7:=by
 intro R E w h
 obtain ⟨l0,hq0,h_1⟩:=W.asSlice_elim h
 obtain ⟨most1,hq1,h_2⟩:=W.asInt_elim h_1
 obtain ⟨t4,hq4,h_3⟩:=W.asRef_elim h_2
 obtain ⟨out5,hq5,h_4⟩:=W.asRef_elim h_3
 obtain ⟨i7,hq7,h_5⟩:=W.asInt_elim h_4
 obtain ⟨n8,hq8,h_6⟩:=W.asInt_elim h_5
 obtain ⟨s9,hq9,h_7⟩:=W.asRef_elim h_6
 exact λa c=>WP.at (E:=[(0,l0.v),(1,.i most1),(4,.pointer (some t4)),(5,.pointer (some out5)),(7,.i i7),(8,.i n8),(9,.pointer (some s9))]) (sd C28 (K:=λE w=>srK Tryz.prog C29 (λE w=>condK (Env.val E (.tmp 124)) (dgK Tryz.prog C31 [0,1,2,3,4,5,6,7,8,9] (λE w=>KE_S6 E w R) E w) (KE_S6 E w R)) E w) (l:=[0,1,2,3,4,5,6,7,8,9]) (by kernel_rfl) (mp h_7) λ_ _ b=>(sr C29 b λ_ _ b=>(cn C30 b (λb=>(dg C31 (by kernel_rfl) b λ_ _ a d b=>nx d (KE_S6_ok R _ _ b))) (λb=>(sk C32 λa d=>nx d (KE_S6_ok R _ _ b)))))) (c.cons hq0 (c.cons hq1 (c.cons hq4 (c.cons hq5 (c.cons hq7 (c.cons hq8 (c.cons hq9 c.nil)))))))
noncomputable def C33:=C27.sn
abbrev S4 (g:Sl) (a:Int) (j b:Addr) (d k:Int) (c:Addr) (w:World) (R:Post):Prop:=
 sel (decide (d>0)) (∃e:Int,w.cell? (c.add 0)=some (.i e)/\
 sel (e==5) (S5 g a j b d k c w R) (∃f:Int,w.cell? (c.add 0)=some (.i f)/\
 sel (f==4) (S5 g a j b d k c w R) (S6 g a j b d c w R))) (S6 g a j b d c w R)
def KE_S4 (E:Env) (w:World) (R:Post):Prop:=W.asSlice (Env.get? E 0) λd=>W.asInt .i64 (Env.get? E 1) λa=>W.asRef (Env.get? E 4) λg=>W.asRef (Env.get? E 5) λb=>W.asInt .i64 (Env.get? E 7) λc=>W.asInt .i64 (Env.get? E 8) λe=>W.asRef (Env.get? E 9) λf=>S4 d a g b c e f w R
theorem KE_S4_ok:KOk Tryz.prog 141 KE_S4 C26 Q7:=by
 intro R E w h
 obtain ⟨l0,hq0,h_1⟩:=W.asSlice_elim h
 obtain ⟨most1,hq1,h_2⟩:=W.asInt_elim h_1
 obtain ⟨t4,hq4,h_3⟩:=W.asRef_elim h_2
 obtain ⟨out5,hq5,h_4⟩:=W.asRef_elim h_3
 obtain ⟨i7,hq7,h_5⟩:=W.asInt_elim h_4
 obtain ⟨n8,hq8,h_6⟩:=W.asInt_elim h_5
 obtain ⟨s9,hq9,h_7⟩:=W.asRef_elim h_6
 exact λa b=>WP.at (E:=[(0,l0.v),(1,.i most1),(4,.pointer (some t4)),(5,.pointer (some out5)),(7,.i i7),(8,.i n8),(9,.pointer (some s9))]) (sr C26 (K:=λE w=>condK (Env.val E (.tmp 111)) (KE_S5 E w R) (KE_S6 E w R)) (mp h_7) λ_ _ c=>(cn C27 c (λc=>(KE_S5_ok R _ _ c)) (λc=>(sk C33 λa d=>nx d (KE_S6_ok R _ _ c))))) (b.cons hq0 (b.cons hq1 (b.cons hq4 (b.cons hq5 (b.cons hq7 (b.cons hq8 (b.cons hq9 b.nil)))))))
noncomputable def C34:=C22.fs
abbrev Q8 (R:Post):ExP:=(Exit.then (wpx Tryz.prog (cx 141) C23 (Exit.inBlock 3 (Q5 R))) (Exit.inBlock 3 (Q5 R)))
noncomputable def C35:=C34.sn
noncomputable def C36:=C35.fs
noncomputable def C37:=C36.sn
noncomputable def C38:=C37.fs
noncomputable def C39:=C37.sn
noncomputable def C40:=C39.sn
noncomputable def C41:=C40.fs
noncomputable def C42:=C41.sn
noncomputable def C43:=C40.sn
noncomputable def C44:=C43.sn
noncomputable def C45:=C44.fs
noncomputable def C46:=C45.sn
noncomputable def C47:=C46.fs
noncomputable def C48:=C46.sn
noncomputable def C49:=C44.sn
abbrev S3 (g:Sl) (b:Int) (j a:Addr) (f c:Int) (d:Addr) (w:World) (R:Post):Prop:=
 ∃e:Int,w.cell? (d.add 0)=some (.i e)/\
 sel (e==1) (nwV w (.cells #[.string (ByteArray.mk #[97]),.string (ByteArray.mk #[98]),.string (ByteArray.mk #[99]),.string (ByteArray.mk #[100,100])] ty_string) λp=>
 (0:Int)<=(Int.tmod c 4)/\(Int.tmod c 4)<((4:Nat):Int)/\optP (some (nb w)) λl=>∃m:ByteArray,p.cell? (l.add (Int.toNat (Int.tmod c 4) *1))=some (.string m)/\
 stV p (d.add 4) (.string m) λr=>
 S4 g b j a f c d r R) (sel (e==2) (stV w (d.add 2) (.i (Int.tmod c 2)) λq=>
 nwV q (.cells #[.i (Int.tmod (IntKind.wrap .i64 (Int.tdiv c 2)) 3)] ty_int) λs=>
 stV s (d.add 3) (.slice (some (nb q)) 1 1) λt=>
 S4 g b j a f c d t R) (sel (e==4) (∃o:Sl,w.cell? (a.add 0)=some (o.v)/\
 sel (((o.n:Nat):Int)==0) (stV w (d.add 0) (.i 0) λu=>
 S4 g b j a f c d u R) (∃k:Sl,w.cell? (a.add 0)=some (k.v)/\
 ((k.n:Nat):Int)≠0/\stV w (d.add 1) (.i (Int.tmod c ((k.n:Nat):Int))) λx=>
 S4 g b j a f c d x R)) (S4 g b j a f c d w R)))
def KE_S3 (E:Env) (w:World) (R:Post):Prop:=W.asSlice (Env.get? E 0) λd=>W.asInt .i64 (Env.get? E 1) λa=>W.asRef (Env.get? E 4) λg=>W.asRef (Env.get? E 5) λb=>W.asInt .i64 (Env.get? E 7) λc=>W.asInt .i64 (Env.get? E 8) λe=>W.asRef (Env.get? E 9) λf=>S3 d a g b c e f w R
theorem KE_S3_ok:KOk Tryz.prog 141 KE_S3 C34 Q8:=by
 intro R E w h
 obtain ⟨l0,hq0,h_1⟩:=W.asSlice_elim h
 obtain ⟨most1,hq1,h_2⟩:=W.asInt_elim h_1
 obtain ⟨t4,hq4,h_3⟩:=W.asRef_elim h_2
 obtain ⟨out5,hq5,h_4⟩:=W.asRef_elim h_3
 obtain ⟨i7,hq7,h_5⟩:=W.asInt_elim h_4
 obtain ⟨n8,hq8,h_6⟩:=W.asInt_elim h_5
 obtain ⟨s9,hq9,h_7⟩:=W.asRef_elim h_6
 exact λa d=>WP.at (E:=[(0,l0.v),(1,.i most1),(4,.pointer (some t4)),(5,.pointer (some out5)),(7,.i i7),(8,.i n8),(9,.pointer (some s9))]) (sr C34 (K:=λE w=>srK Tryz.prog C36 (λE w=>condK (Env.val E (.tmp 69)) (rgK Tryz.prog C38 (λE w=>KE_S4 E w R) E w) (srK Tryz.prog C39 (λE w=>condK (Env.val E (.tmp 77)) (srK Tryz.prog C41 (λE w=>rgK Tryz.prog C42 (λE w=>KE_S4 E w R) E w) E w) (srK Tryz.prog C43 (λE w=>condK (Env.val E (.tmp 87)) (srK Tryz.prog C45 (λE w=>condK (Env.val E (.tmp 92)) (rgK Tryz.prog C47 (λE w=>KE_S4 E w R) E w) (rgK Tryz.prog C48 (λE w=>KE_S4 E w R) E w)) E w) (KE_S4 E w R)) E w)) E w)) E w) (mp h_7) λ_ _ b=>(bk C35 4 (by kernel_rfl) (sr C36 b λ_ _ b=>(cn C37 b (λb=>(rg C38 (by kernel_rfl) b λ_ _ a c b=>nx c (sq C23 (KE_S4_ok R _ _ b)))) (λb=>(sr C39 b λ_ _ b=>(cn C40 b (λb=>(sr C41 b λ_ _ b=>(rg C42 (by kernel_rfl) b λ_ _ a c b=>nx c (sq C23 (KE_S4_ok R _ _ b))))) (λb=>(sr C43 b λ_ _ b=>(cn C44 b (λb=>(sr C45 b λ_ _ b=>(cn C46 b (λb=>(rg C47 (by kernel_rfl) b λ_ _ a c b=>nx c (sq C23 (KE_S4_ok R _ _ b)))) (λb=>(rg C48 (by kernel_rfl) b λ_ _ a c b=>nx c (sq C23 (KE_S4_ok R _ _ b))))))) (λb=>(sk C49 λa c=>nx c (sq C23 (KE_S4_ok R _ _ b)))))))))))))) (d.cons hq0 (d.cons hq1 (d.cons hq4 (d.cons hq5 (d.cons hq7 (d.cons hq8 (d.cons hq9 d.nil)))))))
abbrev Q9 (R:Post):ExP:=(bodyPost Tryz.prog Tryz.f13 R)
noncomputable def C50:=C16.sn
abbrev S7 (f c:Addr) (w:World) (R:Post):Prop:=
 ld2_7 w c λa b=>stV w f (a.v) λi=>
 stV i (f.add 1) (b.v) λg=>
 ld2_7 g f λd e=>R (.returned (.agg #[d.v,e.v])) g
def KE_S7 (E:Env) (w:World) (R:Post):Prop:=W.asRef (Env.get? E 4) λb=>W.asRef (Env.get? E 5) λa=>S7 b a w R
theorem KE_S7_ok:KOk Tryz.prog 141 KE_S7 C16 Q9:=by
 intro R E w h
 obtain ⟨t4,hq4,h_1⟩:=W.asRef_elim h
 obtain ⟨out5,hq5,h_2⟩:=W.asRef_elim h_1
 exact λa b=>WP.at (E:=[(4,.pointer (some t4)),(5,.pointer (some out5))]) (sr C16 (K:=λE w=>retVC Tryz.prog Tryz.f13 E w (λv=>R (.returned v) w)) (mp h_2) λ_ _ d=>(rt C50 λa c=>retVC_sound c d)) (b.cons hq4 (b.cons hq5 b.nil))
noncomputable def C51:=C15.fs
noncomputable def C52:=C51.sn
noncomputable def C53:=C52.fs
noncomputable def C54:=C52.sn
theorem L2_step (j:Sl) (b:Int) (k d:Addr) (g:Int) (w:World) (R:Post) (h:sel (decide (g<((j.n:Nat):Int))) (sel (decide (g<b)) ((0:Int)<=g/\g<((j.n:Nat):Int)/\optP j.a λl=>∃o:Int,w.cell? (l.add (Int.toNat g *1))=some (.i o)/\
 ca1 n_enthymemeref01_Around #[.i o,.i 1073741824] w λf u=>nwV u (.cells #[.i 2,.i (-2),.i 3,.i (-3)] ty_int) λr=>
 (0:Int)<=(Int.tmod (IntKind.wrap .i64 (Int.tdiv f 18)) 4)/\(Int.tmod (IntKind.wrap .i64 (Int.tdiv f 18)) 4)<((4:Nat):Int)/\optP (some (nb u)) λm=>∃p:Int,r.cell? (m.add (Int.toNat (Int.tmod (IntKind.wrap .i64 (Int.tdiv f 18)) 4) *1))=some (.i p)/\
 nwV r (.cells #[.i p] ty_int) λs=>
 nwV s (.cells #[.i 0,.i 0,.i 0,.slice none 0 0,.s0,.slice none 0 0,.slice none 0 0] ty_api_Step) λx=>
 stW7 x (nb s) (.i (Int.tmod f 6)) (.i (Int.tmod (IntKind.wrap .i64 (Int.tdiv f 6)) 3)) (.i 0) (.slice none 0 0) (.s0) (.slice (some (nb r)) 1 1) (.slice none 0 0) λt=>S3 j b k d g (IntKind.wrap .i64 (Int.tdiv f 72)) (nb s) t R) (S7 k d w R)) (S7 k d w R)):L2 j b k d g w R:=
 LP.step (n:=(cx 141)) (c:=C15) (E:=[(0,j.v),(1,.i b),(4,.pointer (some k)),(5,.pointer (some d)),(7,.i g)]) (w:=w) (sq C15 (sr C51 (show (λ(E:Env) (w:World)=>srK Tryz.prog C51 (λE w=>condK (Env.val E (.tmp 44)) (srK Tryz.prog C19 (λE w=>srK Tryz.prog C20 (λE w=>srK Tryz.prog C21 (λE w=>KE_S3 E w R) E w) E w) E w) (KE_S7 E w R)) E w) [(0,j.v),(1,.i b),(4,.pointer (some k)),(5,.pointer (some d)),(7,.i g)] w from mp h) λ_ _ e=>(cn C52 e (λe=>(sk C53 λa q=>nx q (sq C17 (bk C18 3 (by kernel_rfl) (sr C19 e λ_ _ e=>(sr C20 e λ_ _ e=>(sr C21 e λ_ _ e=>(sq C22 (KE_S3_ok R _ _ e))))))))) (λe=>(xt C54 2 (by kernel_rfl) λa q=>nx q (KE_S7_ok R _ _ e))))))
noncomputable def C55:=C6.fs
noncomputable def C56:=C55.sn
noncomputable def C57:=C56.fs
noncomputable def C58:=C56.sn
theorem L0_step (g:Sl) (b:Int) (l d:Addr) (f:Int) (w:World) (R:Post) (h:ca1 n_enthymemeref01_Pick #[g.v,.i 0,.i 3] w λk m=>sel (decide (f<k)) (igK Tryz.prog C11 (λE w=>KE_S1 E w R) [(14,.bool (decide (f<k))),(13,.i k),(12,g.v),(11,.i f),(0,g.v),(1,.i b),(4,.pointer (some l)),(5,.pointer (some d)),(6,.i f)] m) (L2 g b l d 0 m R)):L0 g b l d f w R:=
 LP.step (n:=(cx 141)) (c:=C6) (E:=[(0,g.v),(1,.i b),(4,.pointer (some l)),(5,.pointer (some d)),(6,.i f)]) (w:=w) (sq C6 (sr C55 (show (λ(E:Env) (w:World)=>srK Tryz.prog C55 (λE w=>condK (Env.val E (.tmp 14)) (igK Tryz.prog C11 (λE w=>KE_S1 E w R) E w) (srK Tryz.prog C12 (λE w=>KE_L2 E w R) E w)) E w) [(0,g.v),(1,.i b),(4,.pointer (some l)),(5,.pointer (some d)),(6,.i f)] w from mp h) λ_ _ e=>(cn C56 e (λe=>(sk C57 λa j=>nx j (sq C8 (bk C10 1 (by kernel_rfl) (ig C11 (by kernel_rfl) e λ_ _ a j e=>nx j (KE_S1_ok R _ _ e)))))) (λe=>(xt C58 0 (by kernel_rfl) λa j=>nx j (sq C7 (sr C12 e λ_ _ e=>(bk C13 2 (by kernel_rfl) (lp C14 (by kernel_rfl) (KE_L2_ok R _ _ e))))))))))
theorem ok (d:Sl) (a:Int) (w:World) (R:Post) (h:nwV w (.cells #[.slice none 0 0,.slice none 0 0] ty_api_Proof) λe=>
 nwV e (.cells #[.slice none 0 0,.slice none 0 0] ty_api_Proof) λf=>
 stV f (nb e) (.slice none 0 0) λg=>
 stV g ((nb e).add 1) (.slice none 0 0) λj=>
 L0 d a (nb w) (nb e) 0 j R):Calls Tryz.prog n_enthymemeref25_first #[d.v,.i a] w R:=
 calls_of_WP' (R:=R) (fn:=Tryz.f13) (c:=C0) (args:=[d.v,.i a]) (by kernel_rfl) (by kernel_rfl) (by kernel_rfl) (sr C0 (show (λ(E:Env) (w:World)=>srK Tryz.prog C0 (λE w=>srK Tryz.prog C1 (λE w=>srK Tryz.prog C3 (λE w=>KE_L0 E w R) E w) E w) E w) (envOf 0 [d.v,.i a]) w from mp h) λ_ _ b=>(sr C1 b λ_ _ b=>(sq C2 (sr C3 b λ_ _ b=>(bk C4 0 (by kernel_rfl) (lp C5 (by kernel_rfl) (KE_L0_ok R _ _ b)))))))
end enthymemeref25_first
namespace enthymemeref25_Some
noncomputable abbrev X:Fx:=⟨Tryz.prog,Tryz.f4,[(15,(.sq [0,1,2,3,4,5,6,7,8,11,12,13,14,16] (.fork (.sq [9] (.fork (ls [10,15,17,18,19]) (ls [15,10,17,18,19]))) (ls [15,9,10,17,18,19])))),(23,(.sq [0,1,2,4,5,6,7,8,9,11,12,13,15,16,17] (.fork (.sq [3] (.fork (ls [10,14,18,19,20,21,22,23,24]) (.sq [14,18,19] (.fork (ls [10,20,21,22,23,24]) (ls [20,10,21,22,23,24]))))) (.sq [14,18,19] (.fork (.sq [3] (.fork (ls [10,20,21,22,23,24]) (ls [20,10,21,22,23,24]))) (ls [20,3,10,21,22,23,24]))))))],[6,7,10,13]⟩
abbrev P0:Ps:=[(1,.v [.s]),(6,.l [.s,.s] ty_api_Proof),(7,.l [.s,.s] ty_api_Proof),(8,.v [.I])]
def L0T (f:Sl) (i:Nat) (c d:Sl) (g:Nat) (a b:Sl) (e:Int) (w:World) (R:Post):Prop:=mkCur P0 0 (X.Sem (pth [0,1,1,1,2])) f i c d g a b e w R
noncomputable def eL0:=entL X (pth [0,1,1,1,2]) P0 L0T
abbrev P1:Ps:=[(1,.v [.s]),(6,.l [.s,.s] ty_api_Proof),(7,.l [.s,.s] ty_api_Proof),(8,.v [.I]),(9,.v [.s]),(10,.l [.s,.s] ty_api_Proof),(11,.v [.s]),(12,.v [.I])]
def L1T (m:Sl) (o:Nat) (e f:Sl) (n:Nat) (c d:Sl) (l:Int) (k:Sl) (j:Nat) (a b i:Sl) (g:Int) (w:World) (R:Post):Prop:=mkCur P1 0 (X.Sem (pth [0,1,1,1,3,2,1,2,1,1,2])) m o e f n c d l k j a b i g w R
noncomputable def eL1:=entL X (pth [0,1,1,1,3,2,1,2,1,1,2]) P1 L1T
abbrev P2:Ps:=[(1,.v [.s]),(6,.l [.s,.s] ty_api_Proof),(7,.l [.s,.s] ty_api_Proof),(8,.v [.I]),(9,.v [.s]),(10,.l [.s,.s] ty_api_Proof),(11,.v [.s]),(12,.v [.I]),(13,.l [.I,.I,.I,.s,.st,.s,.s] ty_api_Step)]
abbrev S2T (m1:Sl) (x:Nat) (p q:Sl) (t:Nat) (n o:Sl) (i8:Int) (g9:Sl) (m:Nat) (a b u:Sl) (s:Int) (z:Nat) (c d e:Int) (f:Sl) (g:ByteArray) (j k:Sl) (w:World) (R:Post):Prop:=
 nwV w (.cells #[.i c,.i d,.i e,f.v,.string g,j.v,k.v] ty_api_Step) λy=>
 ∃(l:Sl) (r:World),Sem.run Tryz.prog (Builtin.append_ #[ty_sl_api_Step,ty_sl_api_Step] ty_sl_api_Step #[u.v,.slice (some (nb w)) 1 1]) y=.ok (l.v) r/\kept [x,t,m,z] y r/\L1T m1 x p q t n o i8 g9 m a b l (IntKind.wrap .i64 (s+1)) r R
noncomputable def eS2:=entS X [eL1,eL0] (pth [2,2,1,2,1,1,3,2,1,2,1,1,2]) P2 S2T
abbrev S3T (f:Sl) (i:Nat) (c d:Sl) (g:Nat) (a b:Sl) (e:Int) (w:World) (R:Post):Prop:=
 L0T f i c d g a b (IntKind.wrap .i64 (e+1)) w R
noncomputable def eS3:=entS X [eS2,eL1,eL0] (pth [2,2,1,1,2]) P0 S3T
theorem L1T_step:∀(u:Sl) (f:Nat) (m o:Sl) (d:Nat) (e l:Sl) (c:Int) (t:Sl) (b:Nat) (s k r:Sl) (q:Int) (w:World) (R:Post) (h:sel (decide (q<((k.n:Nat):Int))) ((0:Int)<=q/\q<((k.n:Nat):Int)/\optP k.a λar=>ld7_4 w (ar.add (Int.toNat q *7)) λy z aa ab ac ad ae=>newV [f,d,b] w λx av=>
 sel (y==4) (loc [f,d,b,x] av λbh=>S2T u f m o d e l c t b s k r q x 5 z aa ab ac ad ae bh R) (loc [f,d,b,x] av λbg=>S2T u f m o d e l c t b s k r q x y z aa ab ac ad ae bg R)) (((loc [f,d,b] w λaf=>cf1 [f,d,b] n_enthymemeref01_Pick #[u.v,.i (IntKind.wrap .i64 (1+c)),.i ((t.n:Nat):Int)] af λau ag=>((nwV ag (.cells #[.i au,.i 0] ty_int) λaw=>
 nwV aw (.cells #[.i (IntKind.wrap .i64 ((-2) - c)),.i (IntKind.wrap .i64 (7+c))] ty_int) λax=>
 (0:Int)<=c/\c<((e.n:Nat):Int)/\optP e.a λp=>stV ax (p.add (Int.toNat c *4)) (t.v) λai=>kept [f,d,b] ax ai/\
 stV ai ((p.add (Int.toNat c *4)).add 1) (.slice (some (nb ag)) 2 2) λaj=>kept [f,d,b] ai aj/\
 stV aj ((p.add (Int.toNat c *4)).add 2) (.slice (some (nb aw)) 2 2) λak=>kept [f,d,b] aj ak/\
 stV ak ((p.add (Int.toNat c *4)).add 3) (r.v) λay=>kept [f,d,b] ak ay/\
 S3T u f m o d e l c ay R)/\(nwV ag (.cells #[.i (IntKind.wrap .i64 ((-2) - c)),.i (IntKind.wrap .i64 (7+c))] ty_int) λaz=>
 nwV az (.cells #[.i au,.i 0] ty_int) λbb=>
 (0:Int)<=c/\c<((e.n:Nat):Int)/\optP e.a λg=>stV bb (g.add (Int.toNat c *4)) (t.v) λal=>kept [f,d,b] bb al/\
 stV al ((g.add (Int.toNat c *4)).add 1) (.slice (some (nb az)) 2 2) λam=>kept [f,d,b] al am/\
 stV am ((g.add (Int.toNat c *4)).add 2) (.slice (some (nb ag)) 2 2) λan=>kept [f,d,b] am an/\
 stV an ((g.add (Int.toNat c *4)).add 3) (r.v) λbc=>kept [f,d,b] an bc/\
 S3T u f m o d e l c bc R)))/\(loc [f,d,b] w λaf=>nwV af (.cells #[.i (IntKind.wrap .i64 ((-2) - c)),.i (IntKind.wrap .i64 (7+c))] ty_int) λbi=>
 cf1 [f,d,b] n_enthymemeref01_Pick #[u.v,.i (IntKind.wrap .i64 (1+c)),.i ((t.n:Nat):Int)] bi λah bd=>nwV bd (.cells #[.i ah,.i 0] ty_int) λbe=>
 (0:Int)<=c/\c<((e.n:Nat):Int)/\optP e.a λj=>stV be (j.add (Int.toNat c *4)) (t.v) λao=>kept [f,d,b] be ao/\
 stV ao ((j.add (Int.toNat c *4)).add 1) (.slice (some (nb bd)) 2 2) λap=>kept [f,d,b] ao ap/\
 stV ap ((j.add (Int.toNat c *4)).add 2) (.slice (some (nb af)) 2 2) λaq=>kept [f,d,b] ap aq/\
 stV aq ((j.add (Int.toNat c *4)).add 3) (r.v) λbf=>kept [f,d,b] aq bf/\
 S3T u f m o d e l c bf R)))),L1T u f m o d e l c t b s k r q w R:=mp (stepL (X:=X) [eS3,eS2,eL1,eL0] (pth [0,1,1,1,3,2,1,2,1,1,2]) P1)
abbrev P3:Ps:=[(1,.v [.s]),(6,.l [.s,.s] ty_api_Proof),(7,.l [.s,.s] ty_api_Proof),(14,.v [.I])]
def L4T (f:Sl) (i:Nat) (c d:Sl) (g:Nat) (a b:Sl) (e:Int) (w:World) (R:Post):Prop:=mkCur P3 0 (X.Sem (pth [0,1,1,1,3])) f i c d g a b e w R
noncomputable def eL4:=entL X (pth [0,1,1,1,3]) P3 L4T
abbrev S8T (f:Sl) (i:Nat) (c d:Sl) (g:Nat) (a b:Sl) (e:Int) (w:World) (R:Post):Prop:=
 L4T f i c d g a b (IntKind.wrap .i64 (e+1)) w R
noncomputable def eS8:=entS X [eL4,eS3,eS2,eL1,eL0] (pth [2,2,1,1,3]) P3 S8T
abbrev P4:Ps:=[(1,.v [.s]),(6,.l [.s,.s] ty_api_Proof),(7,.l [.s,.s] ty_api_Proof),(14,.v [.I]),(15,.v [.I])]
abbrev S7T (k:Sl) (j:Nat) (f g:Sl) (i:Nat) (d b:Sl) (c l:Int) (w:World) (R:Post):Prop:=
 sel ((Int.tmod l 11)==0) ((0:Int)<=c/\c<((b.n:Nat):Int)/\optP b.a λe=>stV w ((e.add (Int.toNat c *7)).add 5) (.slice none 0 0) λm=>kept [j,i] w m/\
 S8T k j f g i d b c m R) (S8T k j f g i d b c w R)
noncomputable def eS7:=entS X [eS8,eL4,eS3,eS2,eL1,eL0] (pth [4,2,1,2,1,1,3]) P4 S7T
abbrev S6T (m:Sl) (l:Nat) (g j:Sl) (k:Nat) (e b:Sl) (c d:Int) (w:World) (R:Post):Prop:=
 sel ((Int.tmod d 7)==0) ((0:Int)<=c/\c<((b.n:Nat):Int)/\optP b.a λf=>stV w ((f.add (Int.toNat c *7)).add 2) (.i (IntKind.wrap .i64 (0 - d))) λo=>kept [l,k] w o/\
 S7T m l g j k e b c d o R) (S7T m l g j k e b c d w R)
noncomputable def eS6:=entS X [eS7,eS8,eL4,eS3,eS2,eL1,eL0] (pth [3,2,1,2,1,1,3]) P4 S6T
abbrev S5T (m1:Sl) (j:Nat) (p q:Sl) (g:Nat) (o c:Sl) (b d:Int) (w:World) (R:Post):Prop:=
 sel ((Int.tmod d 5)==0) ((0:Int)<=b/\b<((c.n:Nat):Int)/\optP c.a λf=>loc [j,g] w λw1=>∃e:Sl,w1.cell? ((f.add (Int.toNat b *7)).add 3)=some (e.v)/\
 ((nwV w1 (.cells #[] ty_int) λw2=>
 w2.cell? ((f.add (Int.toNat b *7)).add 3)=some (e.v)/\((∃(az:Sl) (w3:World),Sem.run Tryz.prog (Builtin.append_ #[ty_sl_int,ty_sl_int] ty_sl_int #[.slice (some (nb w1)) 0 0,e.v]) w2=.ok (az.v) w3/\kept [j,g] w2 w3/\nwV w3 (.cells #[.i d,.i (IntKind.wrap .i64 (0 - d)),.i 9223372036854775807,.i (-9223372036854775808),.i 0] ty_int) λw4=>
 (0:Int)<=(Int.tmod (IntKind.wrap .i64 (Int.tdiv d 5)) 5)/\(Int.tmod (IntKind.wrap .i64 (Int.tdiv d 5)) 5)<((5:Nat):Int)/\optP (some (nb w3)) λbb=>∃bc:Int,w4.cell? (bb.add (Int.toNat (Int.tmod (IntKind.wrap .i64 (Int.tdiv d 5)) 5) *1))=some (.i bc)/\
 nwV w4 (.cells #[.i bc] ty_int) λw5=>
 ∃(bd:Sl) (w6:World),Sem.run Tryz.prog (Builtin.append_ #[ty_sl_int,ty_sl_int] ty_sl_int #[az.v,.slice (some (nb w4)) 1 1]) w5=.ok (bd.v) w6/\kept [j,g] w5 w6/\(0:Int)<=b/\b<((c.n:Nat):Int)/\optP c.a λbe=>stV w6 ((be.add (Int.toNat b *7)).add 3) (bd.v) λw7=>kept [j,g] w6 w7/\
 S6T m1 j p q g o c b d w7 R)/\(nwV w2 (.cells #[.i d,.i (IntKind.wrap .i64 (0 - d)),.i 9223372036854775807,.i (-9223372036854775808),.i 0] ty_int) λw8=>
 w8.cell? ((f.add (Int.toNat b *7)).add 3)=some (e.v)/\(0:Int)<=(Int.tmod (IntKind.wrap .i64 (Int.tdiv d 5)) 5)/\(Int.tmod (IntKind.wrap .i64 (Int.tdiv d 5)) 5)<((5:Nat):Int)/\optP (some (nb w2)) λr=>∃m:Int,w8.cell? (r.add (Int.toNat (Int.tmod (IntKind.wrap .i64 (Int.tdiv d 5)) 5) *1))=some (.i m)/\
 ((∃(t:Sl) (w9:World),Sem.run Tryz.prog (Builtin.append_ #[ty_sl_int,ty_sl_int] ty_sl_int #[.slice (some (nb w1)) 0 0,e.v]) w8=.ok (t.v) w9/\kept [j,g] w8 w9/\w9.cell? (r.add (Int.toNat (Int.tmod (IntKind.wrap .i64 (Int.tdiv d 5)) 5) *1))=some (.i m)/\nwV w9 (.cells #[.i m] ty_int) λbo=>
 ∃(aa:Sl) (ao:World),Sem.run Tryz.prog (Builtin.append_ #[ty_sl_int,ty_sl_int] ty_sl_int #[t.v,.slice (some (nb w9)) 1 1]) bo=.ok (aa.v) ao/\kept [j,g] bo ao/\(0:Int)<=b/\b<((c.n:Nat):Int)/\optP c.a λag=>stV ao ((ag.add (Int.toNat b *7)).add 3) (aa.v) λbp=>kept [j,g] ao bp/\
 S6T m1 j p q g o c b d bp R)/\(nwV w8 (.cells #[.i m] ty_int) λbf=>
 bf.cell? ((f.add (Int.toNat b *7)).add 3)=some (e.v)/\∃(u:Sl) (ap:World),Sem.run Tryz.prog (Builtin.append_ #[ty_sl_int,ty_sl_int] ty_sl_int #[.slice (some (nb w1)) 0 0,e.v]) bf=.ok (u.v) ap/\kept [j,g] bf ap/\∃(ab:Sl) (aq:World),Sem.run Tryz.prog (Builtin.append_ #[ty_sl_int,ty_sl_int] ty_sl_int #[u.v,.slice (some (nb w8)) 1 1]) ap=.ok (ab.v) aq/\kept [j,g] ap aq/\(0:Int)<=b/\b<((c.n:Nat):Int)/\optP c.a λah=>stV aq ((ah.add (Int.toNat b *7)).add 3) (ab.v) λbq=>kept [j,g] aq bq/\
 S6T m1 j p q g o c b d bq R)))))/\(nwV w1 (.cells #[.i d,.i (IntKind.wrap .i64 (0 - d)),.i 9223372036854775807,.i (-9223372036854775808),.i 0] ty_int) λs=>
 s.cell? ((f.add (Int.toNat b *7)).add 3)=some (e.v)/\(0:Int)<=(Int.tmod (IntKind.wrap .i64 (Int.tdiv d 5)) 5)/\(Int.tmod (IntKind.wrap .i64 (Int.tdiv d 5)) 5)<((5:Nat):Int)/\optP (some (nb w1)) λl=>∃k:Int,s.cell? (l.add (Int.toNat (Int.tmod (IntKind.wrap .i64 (Int.tdiv d 5)) 5) *1))=some (.i k)/\
 ((nwV s (.cells #[] ty_int) λaf=>
 af.cell? (l.add (Int.toNat (Int.tmod (IntKind.wrap .i64 (Int.tdiv d 5)) 5) *1))=some (.i k)/\af.cell? ((f.add (Int.toNat b *7)).add 3)=some (e.v)/\((∃(x:Sl) (al:World),Sem.run Tryz.prog (Builtin.append_ #[ty_sl_int,ty_sl_int] ty_sl_int #[.slice (some (nb s)) 0 0,e.v]) af=.ok (x.v) al/\kept [j,g] af al/\al.cell? (l.add (Int.toNat (Int.tmod (IntKind.wrap .i64 (Int.tdiv d 5)) 5) *1))=some (.i k)/\nwV al (.cells #[.i k] ty_int) λbr=>
 ∃(ac:Sl) (ar:World),Sem.run Tryz.prog (Builtin.append_ #[ty_sl_int,ty_sl_int] ty_sl_int #[x.v,.slice (some (nb al)) 1 1]) br=.ok (ac.v) ar/\kept [j,g] br ar/\(0:Int)<=b/\b<((c.n:Nat):Int)/\optP c.a λai=>stV ar ((ai.add (Int.toNat b *7)).add 3) (ac.v) λbs=>kept [j,g] ar bs/\
 S6T m1 j p q g o c b d bs R)/\(nwV af (.cells #[.i k] ty_int) λbh=>
 bh.cell? ((f.add (Int.toNat b *7)).add 3)=some (e.v)/\∃(y:Sl) (au:World),Sem.run Tryz.prog (Builtin.append_ #[ty_sl_int,ty_sl_int] ty_sl_int #[.slice (some (nb s)) 0 0,e.v]) bh=.ok (y.v) au/\kept [j,g] bh au/\∃(ad:Sl) (av:World),Sem.run Tryz.prog (Builtin.append_ #[ty_sl_int,ty_sl_int] ty_sl_int #[y.v,.slice (some (nb af)) 1 1]) au=.ok (ad.v) av/\kept [j,g] au av/\(0:Int)<=b/\b<((c.n:Nat):Int)/\optP c.a λaj=>stV av ((aj.add (Int.toNat b *7)).add 3) (ad.v) λbt=>kept [j,g] av bt/\
 S6T m1 j p q g o c b d bt R)))/\(nwV s (.cells #[.i k] ty_int) λbi=>
 bi.cell? ((f.add (Int.toNat b *7)).add 3)=some (e.v)/\nwV bi (.cells #[] ty_int) λbj=>
 bj.cell? ((f.add (Int.toNat b *7)).add 3)=some (e.v)/\∃(z:Sl) (aw:World),Sem.run Tryz.prog (Builtin.append_ #[ty_sl_int,ty_sl_int] ty_sl_int #[.slice (some (nb bi)) 0 0,e.v]) bj=.ok (z.v) aw/\kept [j,g] bj aw/\∃(ae:Sl) (ax:World),Sem.run Tryz.prog (Builtin.append_ #[ty_sl_int,ty_sl_int] ty_sl_int #[z.v,.slice (some (nb s)) 1 1]) aw=.ok (ae.v) ax/\kept [j,g] aw ax/\(0:Int)<=b/\b<((c.n:Nat):Int)/\optP c.a λak=>stV ax ((ak.add (Int.toNat b *7)).add 3) (ae.v) λbu=>kept [j,g] ax bu/\
 S6T m1 j p q g o c b d bu R))))) (S6T m1 j p q g o c b d w R)
noncomputable def eS5:=entS X [eS6,eS7,eS8,eL4,eS3,eS2,eL1,eL0] (pth [2,2,1,2,1,1,3]) P4 S5T
theorem L4T_step:∀(m:Sl) (k:Nat) (f g:Sl) (j:Nat) (d b:Sl) (c:Int) (w:World) (R:Post) (h:sel (decide (c<((b.n:Nat):Int))) (cf1 [k,j] n_enthymemeref01_Pick #[m.v,.i (IntKind.wrap .i64 (2+c)),.i 1048576] w λe l=>sel ((Int.tmod e 3)==0) (nwV l (.cells #[.i 2,.i (IntKind.wrap .i64 ((-3) - (Int.tmod e 4))),.i (IntKind.wrap .i64 (9+(Int.tmod e 1000)))] ty_int) λp=>
 (0:Int)<=c/\c<((b.n:Nat):Int)/\optP b.a λo=>stV p ((o.add (Int.toNat c *7)).add 5) (.slice (some (nb l)) 3 3) λq=>kept [k,j] p q/\
 S5T m k f g j d b c e q R) (S5T m k f g j d b c e l R)) (loc [k,j] w λr=>R (.returned (.agg #[d.v,b.v])) r)),L4T m k f g j d b c w R:=mp (stepL (X:=X) [eS5,eS6,eS7,eS8,eL4,eS3,eS2,eL1,eL0] (pth [0,1,1,1,3]) P3)
theorem L0T_step:∀(g:Sl) (c:Nat) (e f:Sl) (b:Nat) (a d:Sl) (j:Int) (w:World) (R:Post) (h:sel (decide (j<((a.n:Nat):Int))) (cf1 [c,b] n_enthymemeref01_Pick #[g.v,.i j,.i 3] w λo r=>cf3 [c,b] n_enthymemeref07_Made #[g.v,.i o,.i 4] r λp s=>cf34 [c,b] n_enthymemeref25_first #[g.v,.i 4] s λk l t=>newV [c,b] t λm u=>
 loc [c,b,m] u λq=>L1T g c e f b a d j p m k l ⟨none,0,0⟩ 0 q R) (L4T g c e f b a d 0 w R)),L0T g c e f b a d j w R:=mp (stepL (X:=X) [eS5,eS6,eS7,eS8,eL4,eS3,eS2,eL1,eL0] (pth [0,1,1,1,2]) P0)
theorem okT (f g:Sl) (a:Int) (w:World) (R:Post) (h:newV [] w λb j=>
 cf34 [b] n_enthymemeref25_first #[f.v,.i a] j λc d k=>newV [b] k λe l=>
 loc [b,e] l λm=>L0T g b ⟨none,0,0⟩ ⟨none,0,0⟩ e c d 0 m R):Calls Tryz.prog n_enthymemeref25_Some #[f.v,g.v,.i a] w R:=callsX X [eS5,eS6,eS7,eS8,eL4,eS3,eS2,eL1,eL0] h
end enthymemeref25_Some
end Go.Proofs.YthnoidogkbbkhaaGreatDoor
