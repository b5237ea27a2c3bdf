import Derived.Test.YtcifihepfadgfaaGreatDoorV
set_option linter.unusedVariables false
set_option maxRecDepth 100000
set_option maxHeartbeats 2000000
namespace Go.Proofs.YtcifihepfadgfaaGreatDoor
open Go Go.W
namespace enthymemeref07_BV
noncomputable abbrev X:Fx:=⟨Tryz.prog,Tryz.f25,[],[2]⟩
theorem cV (a:Int) (w:World) (R:aD) (h:bE [] w λb c=>
 loc [b] c λd=>R (.returned (.agg #[.i 0,.i a,.i 0])) d):Calls Tryz.prog aU #[.i a] w R:=aO X [] h
end enthymemeref07_BV
namespace enthymemeref07_Strings
noncomputable abbrev X:Fx:=⟨Tryz.prog,Tryz.f75,[],[2]⟩
theorem cV (a:Int) (w:World) (R:aD) (h:bE [] w λb c=>
 loc [b] c λd=>R (.returned (.agg #[.i 1,.i a,.i 0])) d):Calls Tryz.prog bS #[.i a] w R:=aO X [] h
end enthymemeref07_Strings
namespace enthymemeref07_has
noncomputable abbrev X:Fx:=⟨Tryz.prog,Tryz.f53,[],[]⟩
theorem ok (b:Sl) (a:Int) (w:World) (R:aD) (h:zY lg #[b.v,.i a] w λc d=>R (.returned (.bool c)) d):Calls Tryz.prog iV #[b.v,.i a] w R:=aO X [] h
end enthymemeref07_has
namespace enthymemeref07_Kids
noncomputable abbrev X:Fx:=⟨Tryz.prog,Tryz.f77,[],[]⟩
abbrev P0:Ps:=[]
abbrev S0 (w:World) (R:aD):Prop:=
 R (.returned (.i (-1))) w
noncomputable def eV:=bK X [] (bH [0,1,1,1,1]) P0 S0
abbrev S1 (w:World) (R:aD):Prop:=
 R (.returned (.i 1)) w
noncomputable def gn:=bK X [eV] (bH [0,1,1,1,1,1,3]) P0 S1
abbrev S3 (w:World) (R:aD):Prop:=
 R (.returned (.i 3)) w
noncomputable def hC:=bK X [gn,eV] (bH [0,1,3,1,1,1,3]) P0 S3
abbrev S4 (w:World) (R:aD):Prop:=
 R (.returned (.i 2)) w
noncomputable def kK:=bK X [hC,gn,eV] (bH [4]) P0 S4
abbrev P1:Ps:=[(11,.v [.I])]
abbrev S2 (a:Int) (w:World) (R:aD):Prop:=
 aF (a==19) (aF (a==19) (S3 w R) (S4 w R)) (aF (a==25) (aF (a==25) (S3 w R) (S4 w R)) (aF (a==30) (aF (a==30) (S3 w R) (S4 w R)) (aF (a==32) (S3 w R) (S4 w R))))
noncomputable def fL:=bK X [kK,hC,gn,eV] (bH [2,1,1,1,3]) P1 S2
theorem ok (a:Int) (w:World) (R:aD) (h:aF (decide (a<0)) (S0 w R) (aF (decide (a>34)) (S0 w R) (aF (decide (a<=3)) (R (.returned (.i 0)) w) (aF (a==4) (aF (a==4) (S1 w R) (S2 a w R)) (aF (a==5) (aF (a==5) (S1 w R) (S2 a w R)) (aF (a==21) (aF (a==21) (S1 w R) (S2 a w R)) (aF (a==22) (aF (a==22) (S1 w R) (S2 a w R)) (aF (a==23) (aF (a==23) (S1 w R) (S2 a w R)) (aF (a==27) (aF (a==27) (S1 w R) (S2 a w R)) (aF (a==28) (aF (a==28) (S1 w R) (S2 a w R)) (aF (a==33) (aF (a==33) (S1 w R) (S2 a w R)) (aF (a==34) (S1 w R) (S2 a w R))))))))))))):Calls Tryz.prog iz #[.i a] w R:=aO X [fL,kK,hC,gn,eV] h
end enthymemeref07_Kids
namespace enthymemeref07_Named
noncomputable abbrev X:Fx:=⟨Tryz.prog,Tryz.f86,[],[]⟩
abbrev P0:Ps:=[]
abbrev S0 (w:World) (R:aD):Prop:=
 R (.returned (.bool false)) w
noncomputable def eV:=bK X [] (bH [0,1,1,1,1]) P0 S0
abbrev P1:Ps:=[(0,.v [.st]),(3,.v [.I])]
def L1 (b:ByteArray) (a:Int) (w:World) (R:aD):Prop:=cJ P1 0 (X.Sem (bH [0,1,1,1,2])) b a w R
noncomputable def kX:=fZ X (bH [0,1,1,1,2]) P1 L1
abbrev S4 (b:ByteArray) (a:Int) (w:World) (R:aD):Prop:=
 L1 b (IntKind.wrap .i64 (a+1)) w R
noncomputable def kK:=bK X [kX,eV] (bH [2,2,1,1,2]) P1 S4
abbrev P2:Ps:=[(0,.v [.st]),(3,.v [.I]),(4,.v [.b]),(5,.v [.b])]
abbrev S3 (d:ByteArray) (c:Int) (a b:Bool) (w:World) (R:aD):Prop:=
 aF (!a) (aF (!b) (R (.returned (.bool false)) w) (S4 d c w R)) (S4 d c w R)
noncomputable def hC:=bK X [kK,kX,eV] (bH [2,2,1,2,1,1,2]) P2 S3
abbrev P3:Ps:=[(0,.v [.st]),(3,.v [.I]),(4,.v [.b])]
abbrev S2 (d:ByteArray) (b:Int) (a:Bool) (w:World) (R:aD):Prop:=
 (0:Int)<=b/\∃e:UInt8,d[Int.toNat b]? =some e/\aF (decide (((e.toNat:Nat):Int)>=48)) ((0:Int)<=b/\∃f:UInt8,d[Int.toNat b]? =some f/\aF (decide (((f.toNat:Nat):Int)<=57)) (S3 d b a true w R) ((0:Int)<=b/\∃g:UInt8,d[Int.toNat b]? =some g/\S3 d b a (((g.toNat:Nat):Int)==45) w R)) ((0:Int)<=b/\∃c:UInt8,d[Int.toNat b]? =some c/\S3 d b a (((c.toNat:Nat):Int)==45) w R)
noncomputable def fL:=bK X [hC,kK,kX,eV] (bH [1,2,1,2,1,1,2]) P3 S2
theorem nY:∀(d:ByteArray) (a:Int) (w:World) (R:aD) (h:aF (decide (a<((d.size:Nat):Int))) ((0:Int)<=a/\∃b:UInt8,d[Int.toNat a]? =some b/\aF (decide (((b.toNat:Nat):Int)>=97)) ((0:Int)<=a/\∃c:UInt8,d[Int.toNat a]? =some c/\S2 d a (decide (((c.toNat:Nat):Int)<=122)) w R) (S2 d a false w R)) (R (.returned (.bool true)) w)),L1 d a w R:=mp (dD (X:=X) [fL,hC,kK,kX,eV] (bH [0,1,1,1,2]) P1)
theorem ok (c:ByteArray) (w:World) (R:aD) (h:aF (decide (((c.size:Nat):Int)<1)) (S0 w R) (aF (decide (((c.size:Nat):Int)>16)) (S0 w R) ((0:Int)<=0/\∃a:UInt8,c[Int.toNat 0]? =some a/\aF (decide (((a.toNat:Nat):Int)<97)) (S0 w R) ((0:Int)<=0/\∃b:UInt8,c[Int.toNat 0]? =some b/\aF (decide (((b.toNat:Nat):Int)>122)) (S0 w R) (L1 c 0 w R))))):Calls Tryz.prog j8 #[.string c] w R:=aO X [fL,hC,kK,kX,eV] h
end enthymemeref07_Named
namespace enthymemeref06_within
noncomputable abbrev X:Fx:=⟨Tryz.prog,Tryz.f118,[],[]⟩
theorem ok (c b a:Int) (w:World) (R:aD) (h:aF (decide (c>=b)) (R (.returned (.bool (decide (c<=a)))) w) (R (.returned (.bool false)) w)):Calls Tryz.prog bZ #[.i c,.i b,.i a] w R:=aO X [] h
end enthymemeref06_within
namespace enthymemeref06_ValidSort
noncomputable abbrev X:Fx:=⟨Tryz.prog,Tryz.f87,[],[1]⟩
abbrev P0:Ps:=[(3,.v [.b])]
abbrev dV (a:Bool) (w:World) (R:aD):Prop:=
 aF (!a) (R (.returned (.i 9)) w) (R (.returned (.i 0)) w)
noncomputable def eV:=bK X [] (bH [3]) P0 dV
theorem cV (a b c:Int) (w:World) (R:aD) (h:bE [] w λd e=>
 aF (a==0) (jK [d] bZ #[.i b,.i 1,.i 64] e λf n=>aF f (dV (c==0) n R) (dV false n R)) (aF (a==1) (jK [d] bZ #[.i b,.i 0,.i 64] e λg o=>aF g (dV (c==0) o R) (dV false o R)) (aF (a==2) (jK [d] bZ #[.i b,.i 1,.i 64] e λj p=>aF j (jK [d] bZ #[.i c,.i 1,.i 16] p λk r=>dV k r R) (dV false p R)) (aF (a==3) (jK [d] bZ #[.i b,.i 0,.i 64] e λl q=>aF l (jK [d] bZ #[.i c,.i 1,.i 16] q λm s=>dV m s R) (dV false q R)) (dV false e R))))):Calls Tryz.prog im #[.agg #[.i a,.i b,.i c]] w R:=aO X [eV] h
end enthymemeref06_ValidSort
namespace enthymemeref07_fields
noncomputable abbrev X:Fx:=⟨Tryz.prog,Tryz.f44,[(1,ls [0,1,3,4,5,2,6])],[3]⟩
abbrev P0:Ps:=[(0,.v [.s]),(3,.l [.I,.s,.I,.I,.U,.st,.I,.I,.I] aG),(5,.v [.I])]
def eH (k:Sl) (m:Nat) (a:Int) (b:Sl) (c d e:Int) (f:ByteArray) (g i j l:Int) (w:World) (R:aD):Prop:=cJ P0 0 (X.Sem (bH [0,1,1,1,2])) k m a b c d e f g i j l w R
noncomputable def eC:=fZ X (bH [0,1,1,1,2]) P0 eH
abbrev P1:Ps:=[]
abbrev fY (w:World) (R:aD):Prop:=
 R (.returned (.i 1)) w
noncomputable def gn:=bK X [eC] (bH [0,1,1,2,1,2,1,1,2]) P1 fY
abbrev eY (w:World) (R:aD):Prop:=
 R (.returned (.i 1)) w
noncomputable def fL:=bK X [gn,eC] (bH [0,1,1,1,5]) P1 eY
abbrev gO (w:World) (R:aD):Prop:=
 R (.returned (.i 0)) w
noncomputable def hC:=bK X [fL,gn,eC] (bH [6]) P1 gO
theorem bA:∀(v:Sl) (q:Nat) (c:Int) (e:Sl) (l k f:Int) (d:ByteArray) (m o p j:Int) (w:World) (R:aD) (h:aF (decide (j<((e.n:Nat):Int))) ((0:Int)<=j/\j<((e.n:Nat):Int)/\aX e.a λr=>∃t:Int,w.cell? (r.add (Int.toNat j *1))=some (.i t)/\
 aF (decide (t<0)) (fY w R) ((0:Int)<=j/\j<((e.n:Nat):Int)/\aX e.a λs=>∃u:Int,w.cell? (s.add (Int.toNat j *1))=some (.i u)/\
 aF (decide (u>=((v.n:Nat):Int))) (fY w R) (eH v q c e l k f d m o p (IntKind.wrap .i64 (j+1)) w R))) (fJ w (.cells #[.i 21,.i 22,.i 23,.i 28] bW) λz=>
 jK [q] iV #[.slice (some (nb w)) 4 4,.i c] z λx y=>fJ y (.cells #[.i 0,.i 2,.i 33] bW) λw6=>
 jK [q] iV #[.slice (some (nb y)) 3 3,.i c] w6 λg b=>aF (!x) (aF (l !=0) (eY b R) (aF (c !=21) (aF (k !=0) (eY b R) (aF (c !=1) (aF (f !=0) (eY b R) (aF (!g) (aF (!(d.toList==(ByteArray.mk #[]).toList)) (eY b R) (gO b R)) (gO b R))) (aF (!g) (aF (!(d.toList==(ByteArray.mk #[]).toList)) (eY b R) (gO b R)) (gO b R)))) (aF (c !=1) (aF (f !=0) (eY b R) (aF (!g) (aF (!(d.toList==(ByteArray.mk #[]).toList)) (eY b R) (gO b R)) (gO b R))) (aF (!g) (aF (!(d.toList==(ByteArray.mk #[]).toList)) (eY b R) (gO b R)) (gO b R))))) (aF (c !=21) (aF (k !=0) (eY b R) (aF (c !=1) (aF (f !=0) (eY b R) (aF (!g) (aF (!(d.toList==(ByteArray.mk #[]).toList)) (eY b R) (gO b R)) (gO b R))) (aF (!g) (aF (!(d.toList==(ByteArray.mk #[]).toList)) (eY b R) (gO b R)) (gO b R)))) (aF (c !=1) (aF (f !=0) (eY b R) (aF (!g) (aF (!(d.toList==(ByteArray.mk #[]).toList)) (eY b R) (gO b R)) (gO b R))) (aF (!g) (aF (!(d.toList==(ByteArray.mk #[]).toList)) (eY b R) (gO b R)) (gO b R)))))),eH v q c e l k f d m o p j w R:=mp (dD (X:=X) [hC,fL,gn,eC] (bH [0,1,1,1,2]) P0)
theorem cV (m:Sl) (a:Int) (b:Sl) (c d e:Int) (f:ByteArray) (g j k:Int) (w:World) (R:aD) (h:bE [] w λl q=>
 loc [l] q λr=>mW [l] iz #[.i a] r λo p=>aF (o !=((b.n:Nat):Int)) (R (.returned (.i 1)) p) (eH m l a b c d e f g j k 0 p R)):Calls Tryz.prog jB #[m.v,.agg #[.i a,b.v,.i c,.i d,.u e,.string f,.i g,.i j,.i k]] w R:=aO X [hC,fL,gn,eC] h
end enthymemeref07_fields
namespace enthymemeref07_leaf
noncomputable abbrev X:Fx:=⟨Tryz.prog,Tryz.f45,[(19,ls [0,1,2,3,4,5,6,7,8,9,10,11,12,13,14,15,16,17,18,19,20,21,22,23,24,25,26,27,28,29,30])],[3,4]⟩
abbrev P0:Ps:=[(4,.l [.I,.I,.I] aR)]
abbrev eY (a:Nat) (b c d:Int) (w:World) (R:aD):Prop:=
 loc [a] w λe=>R (.returned (.tuple #[.agg #[.i 0,.i 0,.i 0],.i 9])) e
noncomputable def fL:=bK X [] (bH [0,1,1,1,7]) P0 eY
abbrev P1:Ps:=[(0,.v [.s]),(3,.l [.I,.s,.I,.I,.U,.st,.I,.I,.I] aG),(4,.l [.I,.I,.I] aR),(9,.v [.I])]
def wY (n:Sl) (p:Nat) (a:Int) (b:Sl) (c d e:Int) (f:ByteArray) (g i j:Int) (q:Nat) (k l m o:Int) (w:World) (R:aD):Prop:=cJ P1 0 (X.Sem (bH [0,1,1,1,9])) n p a b c d e f g i j q k l m o w R
noncomputable def rX:=fZ X (bH [0,1,1,1,9]) P1 wY
abbrev uz (n:Sl) (p:Nat) (a:Int) (b:Sl) (c d e:Int) (f:ByteArray) (g i j:Int) (q:Nat) (k l m o:Int) (w:World) (R:aD):Prop:=
 wY n p a b c d e f g i j q k l m (IntKind.wrap .i64 (o+1)) w R
noncomputable def qz:=bK X [rX,fL] (bH [2,2,1,1,9]) P1 uz
theorem ko:∀(j:Sl) (s:Nat) (f:Int) (k:Sl) (l m o:Int) (g:ByteArray) (c d e:Int) (t:Nat) (p q r b:Int) (w:World) (R:aD) (h:aF (decide (b<((j.n:Nat):Int))) (aF (f==0) ((0:Int)<=b/\b<((j.n:Nat):Int)/\aX j.a λv=>loc [s,t] w λu=>∃x:Int,u.cell? ((v.add (Int.toNat b *9)).add 0)=some (.i x)/\
 aF (x==0) ((0:Int)<=b/\b<((j.n:Nat):Int)/\aX j.a λy=>∃z:ByteArray,u.cell? ((y.add (Int.toNat b *9)).add 5)=some (.string z)/\
 aF (z.toList==g.toList) ((0:Int)<=b/\b<((j.n:Nat):Int)/\aX j.a λaa=>dK u ((aa.add (Int.toNat b *9)).add 6) λab ac ad=>aF (!((ab==c)&&((ac==d)&&((ad==e)&&true)))) (loc [s,t] u λw4=>R (.returned (.tuple #[.agg #[.i 0,.i 0,.i 0],.i 8])) w4) (uz j s f k l m o g c d e t p q r b u R)) (uz j s f k l m o g c d e t p q r b u R)) (uz j s f k l m o g c d e t p q r b u R)) (loc [s,t] w λu=>uz j s f k l m o g c d e t p q r b u R)) (loc [s,t] w λw7=>R (.returned (.tuple #[.agg #[.i c,.i d,.i e],.i 0])) w7)),wY j s f k l m o g c d e t p q r b w R:=mp (dD (X:=X) [qz,rX,fL] (bH [0,1,1,1,9]) P1)
abbrev P2:Ps:=[(0,.v [.s]),(3,.l [.I,.s,.I,.I,.U,.st,.I,.I,.I] aG),(4,.l [.I,.I,.I] aR)]
abbrev ox (n:Sl) (o:Nat) (a:Int) (b:Sl) (c d e:Int) (f:ByteArray) (g i j:Int) (p:Nat) (k l m:Int) (w:World) (R:aD):Prop:=
 wY n o a b c d e f g i j p k l m 0 w R
noncomputable def kK:=bK X [qz,rX,fL] (bH [9]) P2 ox
abbrev gO (q:Sl) (o:Nat) (b:Int) (d:Sl) (e f c:Int) (g:ByteArray) (j a k:Int) (p:Nat) (l m n:Int) (w:World) (R:aD):Prop:=
 aF (b==1) (aF (decide (a<64)) (¬(IntKind.wrap .u64 a)<0/\aF (decide (c>=(IntKind.wrap .u64 (1 *2^(min (Int.toNat (IntKind.wrap .u64 a)) (IntKind.bits .u64)))))) (loc [o,p] w λr=>R (.returned (.tuple #[.agg #[.i 0,.i 0,.i 0],.i 5])) r) (ox q o b d e f c g j a k p l m n w R)) (ox q o b d e f c g j a k p l m n w R)) (ox q o b d e f c g j a k p l m n w R)
noncomputable def hC:=bK X [kK,qz,rX,fL] (bH [8]) P2 gO
abbrev P3:Ps:=[(0,.v [.s]),(3,.l [.I,.s,.I,.I,.U,.st,.I,.I,.I] aG),(4,.l [.I,.I,.I] aR),(8,.v [.b])]
abbrev fY (p:Sl) (q:Nat) (a:Int) (g:Sl) (i j k:Int) (l:ByteArray) (e m n:Int) (o:Nat) (b c d:Int) (f:Bool) (w:World) (R:aD):Prop:=
 aF (a==1) (aF (e !=0) (eY o b c d w R) (aF (a==3) (aF (!f) (eY o b c d w R) (gO p q a g i j k l e m n o b c d w R)) (gO p q a g i j k l e m n o b c d w R))) (aF (a==3) (aF (!f) (eY o b c d w R) (gO p q a g i j k l e m n o b c d w R)) (gO p q a g i j k l e m n o b c d w R))
noncomputable def gn:=bK X [hC,kK,qz,rX,fL] (bH [7]) P3 fY
abbrev P4:Ps:=[(0,.v [.s]),(3,.l [.I,.s,.I,.I,.U,.st,.I,.I,.I] aG),(4,.l [.I,.I,.I] aR),(6,.v [.b])]
abbrev dV (t:Sl) (d:Nat) (e:Int) (f:Sl) (g j k:Int) (l:ByteArray) (a b c:Int) (m:Nat) (n o p:Int) (q:Bool) (w:World) (R:aD):Prop:=
 aF (!q) (loc [d,m] w λu=>R (.returned (.tuple #[.agg #[.i 0,.i 0,.i 0],.i 6])) u) (mW [d,m] im #[.agg #[.i a,.i b,.i c]] w λr s=>aF (r !=0) (loc [d,m] s λv=>R (.returned (.tuple #[.agg #[.i 0,.i 0,.i 0],.i r])) v) (aF (a==2) (fY t d e f g j k l a b c m n o p true s R) (fY t d e f g j k l a b c m n o p (a==3) s R)))
noncomputable def eV:=bK X [gn,hC,kK,qz,rX,fL] (bH [3]) P4 dV
theorem cV (r:Sl) (b:Int) (d:Sl) (e f g:Int) (a:ByteArray) (j k l:Int) (w:World) (R:aD) (h:bE [] w λc x=>
 bE [c] x λm q=>
 aF (b==2) (aF (decide (((a.size:Nat):Int)>64)) (loc [c,m] q λy=>R (.returned (.tuple #[.agg #[.i 0,.i 0,.i 0],.i 5])) y) (gM [c,m] bS #[.i ((a.size:Nat):Int)] q λn o p z=>loc [c,m] z λw9=>R (.returned (.tuple #[.agg #[.i n,.i o,.i p],.i 0])) w9)) (aF (b !=0) (dV r c b d e f g a j k l m 0 0 0 true q R) (jK [c,m] j8 #[.string a] q λs t=>dV r c b d e f g a j k l m 0 0 0 s t R))):Calls Tryz.prog kF #[r.v,.agg #[.i b,d.v,.i e,.i f,.u g,.string a,.i j,.i k,.i l]] w R:=aO X [eV,gn,hC,kK,qz,rX,fL] h
end enthymemeref07_leaf
namespace enthymemeref07_Element
noncomputable abbrev X:Fx:=⟨Tryz.prog,Tryz.f88,[],[1,2]⟩
theorem cV (c a j:Int) (w:World) (R:aD) (h:bE [] w λb p=>
 bE [b] p λd o=>
 aF (c==2) (gM [b,d] aU #[.i a] o λk l m q=>loc [b,d] q λr=>R (.returned (.agg #[.i k,.i l,.i m])) r) (gM [b,d] bS #[.i a] o λe f g s=>loc [b,d] s λn=>R (.returned (.agg #[.i e,.i f,.i g])) n)):Calls Tryz.prog fF #[.agg #[.i c,.i a,.i j]] w R:=aO X [] h
end enthymemeref07_Element
namespace enthymemeref07_fit
noncomputable abbrev X:Fx:=⟨Tryz.prog,Tryz.f46,[(13,ls [0,1,2,3,4,5,6,7,8,9,10,11,12,13,14,15]),(15,ls [0,1,2,3,4,5,6,7,8,9,10,11,12,13,14,15,16,17,18,19,20,21,22,23,24,25,26]),(19,ls [0,1,2,3,4,5,6,7,8,9,10]),(21,ls [0,1,2,3,4,5,6,7,8,9,10]),(23,ls [0,1,2,3,4,5,6,7,8,9,10,11,12,13,14,15,16,17,18,19,20,21,22,23,24,25,26,27]),(25,ls [0,1,2,3,4,5,6,7,8]),(34,ls [0,1,2,3,4,5,6,7,8,9,10,11,12,13,14,15]),(38,ls [0,1,2,3]),(39,ls [0,1,2,3,4,5,6,7,8])],[5]⟩
abbrev P0:Ps:=[(6,.v [.b])]
abbrev fY (a:Bool) (w:World) (R:aD):Prop:=
 R (.returned (.bool a)) w
noncomputable def gn:=bK X [] (bH [0,1,1,1,1,1,5]) P0 fY
abbrev P1:Ps:=[]
abbrev gO (w:World) (R:aD):Prop:=
 R (.returned (.bool false)) w
noncomputable def hC:=bK X [gn] (bH [0,1,1,2,11,1,1,1,5]) P1 gO
abbrev P2:Ps:=[(7,.v [.b])]
abbrev ox (a:Bool) (w:World) (R:aD):Prop:=
 R (.returned (.bool a)) w
noncomputable def kK:=bK X [hC,gn] (bH [0,1,15,1,1,1,5]) P2 ox
abbrev P3:Ps:=[(1,.v [.s]),(7,.v [.b])]
abbrev uz (e:Sl) (d:Bool) (w:World) (R:aD):Prop:=
 aF d ((0:Int)<=1/\1<((e.n:Nat):Int)/\aX e.a λb=>∃c:Int,w.cell? ((b.add (Int.toNat 1 *3)).add 0)=some (.i c)/\
 R (.returned (.bool (c==1))) w) (R (.returned (.bool false)) w)
noncomputable def qz:=bK X [kK,hC,gn] (bH [0,1,17,1,1,1,5]) P3 uz
abbrev P4:Ps:=[(1,.v [.s]),(5,.l [.I,.I,.I] aR),(6,.v [.b]),(7,.v [.b]),(26,.v [.I])]
abbrev CS (b:Sl) (m:Nat) (ai aj ak:Int) (ao o:Bool) (ah:Int) (w:World) (R:aD):Prop:=
 aF (ah==30) (aF o ((0:Int)<=1/\1<((b.n:Nat):Int)/\aX b.a λc=>loc [m] w λw1=>dK w1 (c.add (Int.toNat 1 *3)) λd e f=>gM [m] aU #[.i 7] w1 λp q r w2=>Mj w2 (c.add (Int.toNat 1 *3)) (.i d) (.i e) (.i f) λ_=>aF ((d==p)&&((e==q)&&((f==r)&&true))) ((0:Int)<=2/\2<((b.n:Nat):Int)/\aX b.a λg=>dK w2 (g.add (Int.toNat 2 *3)) λj k l=>gM [m] aU #[.i 7] w2 λs t u w3=>Mj w3 (g.add (Int.toNat 2 *3)) (.i j) (.i k) (.i l) λ_=>R (.returned (.bool ((j==s)&&((k==t)&&((l==u)&&true))))) w3) (R (.returned (.bool false)) w2)) (loc [m] w λw1=>R (.returned (.bool false)) w1)) (aF (ah==32) (aF o ((0:Int)<=1/\1<((b.n:Nat):Int)/\aX b.a λv=>∃x:Int,w.cell? ((v.add (Int.toNat 1 *3)).add 0)=some (.i x)/\
 aF (x==1) ((0:Int)<=2/\2<((b.n:Nat):Int)/\aX b.a λy=>∃z:Int,w.cell? ((y.add (Int.toNat 2 *3)).add 0)=some (.i z)/\
 R (.returned (.bool (z==1))) w) (R (.returned (.bool false)) w)) (R (.returned (.bool false)) w)) (aF (ah==34) (loc [m] w λw4=>gM [m] aU #[.i 8] w4 λaa ab ac w5=>R (.returned (.bool ((ai==aa)&&((aj==ab)&&((ak==ac)&&true))))) w5) (aF ao ((0:Int)<=1/\1<((b.n:Nat):Int)/\aX b.a λad=>loc [m] w λw6=>dK w6 (ad.add (Int.toNat 1 *3)) λae af ag=>R (.returned (.bool ((ai==ae)&&((aj==af)&&((ak==ag)&&true))))) w6) (loc [m] w λw6=>R (.returned (.bool false)) w6))))
noncomputable def sv:=bK X [qz,kK,hC,gn] (bH [18,1,1,1,5]) P4 CS
abbrev FG (f:Sl) (i:Nat) (c d e:Int) (g a:Bool) (b:Int) (w:World) (R:aD):Prop:=
 aF (b==29) (aF (b==29) (uz f a w R) (CS f i c d e g a b w R)) (aF (b==31) (uz f a w R) (CS f i c d e g a b w R))
noncomputable def vQ:=bK X [sv,qz,kK,hC,gn] (bH [16,1,1,1,5]) P4 FG
abbrev P5:Ps:=[(1,.v [.s]),(5,.l [.I,.I,.I] aR),(6,.v [.b]),(7,.v [.b]),(8,.v [.b]),(26,.v [.I])]
abbrev eY (b:Sl) (g:Nat) (e f d:Int) (x j k:Bool) (c:Int) (w:World) (R:aD):Prop:=
 aF (c==18) ((0:Int)<=1/\1<((b.n:Nat):Int)/\aX b.a λau=>loc [g] w λw1=>dK w1 (au.add (Int.toNat 1 *3)) λav aw ax=>aF ((e==av)&&((f==aw)&&((d==ax)&&true))) (R (.returned (.bool true)) w1) (aF j ((0:Int)<=1/\1<((b.n:Nat):Int)/\aX b.a λay=>∃bu:Int,w1.cell? ((ay.add (Int.toNat 1 *3)).add 0)=some (.i bu)/\
 R (.returned (.bool (bu==1))) w1) (R (.returned (.bool false)) w1))) (aF (c==19) (loc [g] w λw2=>gM [g] aU #[.i 1] w2 λaz bb bc u=>aF ((e==az)&&((f==bb)&&((d==bc)&&true))) ((0:Int)<=1/\1<((b.n:Nat):Int)/\aX b.a λbd=>dK u (bd.add (Int.toNat 1 *3)) λbe bf bg=>(0:Int)<=2/\2<((b.n:Nat):Int)/\aX b.a λbh=>dK u (bh.add (Int.toNat 2 *3)) λbi bj bk=>aF ((be==bi)&&((bf==bj)&&((bg==bk)&&true))) (R (.returned (.bool true)) u) ((0:Int)<=1/\1<((b.n:Nat):Int)/\aX b.a λbm=>∃bv:Int,u.cell? ((bm.add (Int.toNat 1 *3)).add 0)=some (.i bv)/\
 aF (bv==1) ((0:Int)<=2/\2<((b.n:Nat):Int)/\aX b.a λbn=>∃bw:Int,u.cell? ((bn.add (Int.toNat 2 *3)).add 0)=some (.i bw)/\
 R (.returned (.bool (bw==1))) u) (R (.returned (.bool false)) u))) (R (.returned (.bool false)) u)) (aF (c==20) (aF x ((0:Int)<=1/\1<((b.n:Nat):Int)/\aX b.a λbo=>∃bx:Int,w.cell? ((bo.add (Int.toNat 1 *3)).add 0)=some (.i bx)/\
 R (.returned (.bool (bx==0))) w) (R (.returned (.bool false)) w)) (aF (c==24) (aF k ((0:Int)<=1/\1<((b.n:Nat):Int)/\aX b.a λy=>loc [g] w λw4=>dK w4 (y.add (Int.toNat 1 *3)) λz aa ab=>gM [g] aU #[.i d] w4 λbp bq br w5=>Mj w5 (y.add (Int.toNat 1 *3)) (.i z) (.i aa) (.i ab) λ_=>R (.returned (.bool ((z==bp)&&((aa==bq)&&((ab==br)&&true))))) w5) (loc [g] w λw4=>R (.returned (.bool false)) w4)) (aF (c==25) (aF (!k) (loc [g] w λw6=>gO w6 R) ((0:Int)<=1/\1<((b.n:Nat):Int)/\aX b.a λl=>loc [g] w λw6=>dK w6 (l.add (Int.toNat 1 *3)) λm o p=>gM [g] aU #[.i d] w6 λad ae af w7=>Mj w7 (l.add (Int.toNat 1 *3)) (.i m) (.i o) (.i p) λ_=>aF (!((m==ad)&&((o==ae)&&((p==af)&&true)))) (gO w7 R) ((0:Int)<=2/\2<((b.n:Nat):Int)/\aX b.a λq=>loc [g] w7 λw8=>dK w8 (q.add (Int.toNat 2 *3)) λr s t=>gM [g] fF #[.agg #[.i e,.i f,.i d]] w8 λag ah ai v=>Mj v (q.add (Int.toNat 2 *3)) (.i r) (.i s) (.i t) λ_=>aF ((r==ag)&&((s==ah)&&((t==ai)&&true))) (R (.returned (.bool true)) v) (aF (e==3) ((0:Int)<=2/\2<((b.n:Nat):Int)/\aX b.a λaj=>∃ak:Int,v.cell? ((aj.add (Int.toNat 2 *3)).add 0)=some (.i ak)/\
 aF (ak==1) ((0:Int)<=2/\2<((b.n:Nat):Int)/\aX b.a λal=>∃am:Int,v.cell? ((al.add (Int.toNat 2 *3)).add 1)=some (.i am)/\
 R (.returned (.bool (decide (am<=f)))) v) (R (.returned (.bool false)) v)) (R (.returned (.bool false)) v))))) (aF (c==26) (aF k ((0:Int)<=1/\1<((b.n:Nat):Int)/\aX b.a λan=>loc [g] w λac=>dK ac (an.add (Int.toNat 1 *3)) λao ap aq=>R (.returned (.bool ((e==ao)&&((f==ap)&&((d==aq)&&true))))) ac) (loc [g] w λac=>R (.returned (.bool false)) ac)) (aF (c==27) (aF (c==27) (ox j w R) (FG b g e f d x j c w R)) (aF (c==28) (aF (c==28) (ox j w R) (FG b g e f d x j c w R)) (aF (c==33) (ox j w R) (FG b g e f d x j c w R)))))))))
noncomputable def fL:=bK X [vQ,sv,qz,kK,hC,gn] (bH [2,1,1,1,5]) P5 eY
abbrev P6:Ps:=[(0,.v [.I]),(1,.v [.s]),(5,.l [.I,.I,.I] aR),(6,.v [.b]),(7,.v [.b]),(8,.v [.b])]
abbrev dV (a:Int) (i:Sl) (j:Nat) (e f g:Int) (c d b:Bool) (w:World) (R:aD):Prop:=
 aF (a==4) (aF (a==4) (fY c w R) (eY i j e f g c d b a w R)) (aF (a==5) (aF (a==5) (fY c w R) (eY i j e f g c d b a w R)) (aF (a==21) (aF (a==21) (fY c w R) (eY i j e f g c d b a w R)) (aF (a==22) (aF (a==22) (fY c w R) (eY i j e f g c d b a w R)) (aF (a==23) (fY c w R) (eY i j e f g c d b a w R)))))
noncomputable def eV:=bK X [fL,vQ,sv,qz,kK,hC,gn] (bH [5]) P6 dV
theorem cV (f:Int) (e:Sl) (w:World) (R:aD) (h:(0:Int)<=0/\0<((e.n:Nat):Int)/\aX e.a λj=>dK w (j.add (Int.toNat 0 *3)) λb c d=>bE [] w λg l=>
 aF (b==2) (loc [g] l λk=>dV f e g b c d (b==0) (b==1) true k R) (loc [g] l λk=>dV f e g b c d (b==0) (b==1) (b==3) k R)):Calls Tryz.prog lq #[.i f,e.v] w R:=aO X [eV,fL,vQ,sv,qz,kK,hC,gn] h
end enthymemeref07_fit
namespace enthymemeref07_result
noncomputable abbrev X:Fx:=⟨Tryz.prog,Tryz.f47,[(10,ls [0,1,2,3,4,5,6,7,8,9,10,11]),(13,ls [0,1,2,3,4,5,6,8,9,10,11,12,13,14,15,7,16,17]),(15,ls [0,1,2,3,4,5,7,8,9,6,10,11,12,13,14,15,16,17,18,19,20,21,22,23,24,25]),(18,ls [0,1,2,3,4,6,7,8,5,9,10,11,12,13,14,15,16,17,18]),(27,ls [1,2,3,0,4,5,6,7,8,9,10]),(29,ls [0,1,2,3,4,5,6,8,9,10,11,12,13,14,15,7,16,17]),(31,ls [0,1,2,3,4,5,6,8,9,10,11,12,13,14,15,7,16,17])],[2,4,6]⟩
abbrev P0:Ps:=[(4,.l [.I,.I,.I] aR)]
abbrev dV (d:Nat) (e f g:Int) (w:World) (R:aD):Prop:=
 gM [d] aU #[.i 1] w λa b c j=>loc [d] j λk=>R (.returned (.tuple #[.agg #[.i a,.i b,.i c],.bool true])) k
noncomputable def eV:=bK X [] (bH [0,1,1,1,1,1,2]) P0 dV
abbrev P1:Ps:=[(2,.l [.I,.s,.I,.I,.U,.st,.I,.I,.I] aG),(4,.l [.I,.I,.I] aR),(6,.l [.I,.I,.I] aR)]
abbrev eY (f:Nat) (l:Int) (m:Sl) (a n o:Int) (p:ByteArray) (q r s:Int) (g:Nat) (t u v:Int) (j:Nat) (aa e ab:Int) (w:World) (R:aD):Prop:=
 loc [f,g,j] w λx=>gM [f,g,j] aU #[.i (IntKind.wrap .i64 (e+a))] x λb c d k=>aF (decide (a>=1)) (loc [f,g,j] k λy=>R (.returned (.tuple #[.agg #[.i b,.i c,.i d],.bool (decide (a<=(IntKind.wrap .i64 (64 - e))))])) y) (loc [f,g,j] k λz=>R (.returned (.tuple #[.agg #[.i b,.i c,.i d],.bool false])) z)
noncomputable def fL:=bK X [eV] (bH [0,1,9,1,1,1,2]) P1 eY
abbrev ox (d:Nat) (e f g:Int) (w:World) (R:aD):Prop:=
 gM [d] aU #[.i 7] w λa b c j=>loc [d] j λk=>R (.returned (.tuple #[.agg #[.i a,.i b,.i c],.bool true])) k
noncomputable def kK:=bK X [fL,eV] (bH [0,1,15,1,1,1,2]) P0 ox
abbrev P2:Ps:=[(1,.v [.s]),(2,.l [.I,.s,.I,.I,.U,.st,.I,.I,.I] aG),(4,.l [.I,.I,.I] aR),(6,.l [.I,.I,.I] aR),(11,.v [.I])]
abbrev FG (l:Sl) (b:Nat) (au:Int) (av:Sl) (r aw ax:Int) (ay:ByteArray) (az bb bc:Int) (c:Nat) (bd be bf:Int) (d:Nat) (am g an q:Int) (w:World) (R:aD):Prop:=
 aF (q==28) (loc [b,c,d] w λw1=>gM [b,c,d] aU #[.i 8] w1 λm o p w2=>aF (decide (r>=0)) (loc [b,c,d] w2 λw5=>R (.returned (.tuple #[.agg #[.i m,.i o,.i p],.bool (decide (r<=63))])) w5) (loc [b,c,d] w2 λw8=>R (.returned (.tuple #[.agg #[.i m,.i o,.i p],.bool false])) w8)) (aF (q==29) ((0:Int)<=1/\1<((l.n:Nat):Int)/\aX l.a λs=>loc [b,c,d] w λw9=>∃t:Int,w9.cell? ((s.add (Int.toNat 1 *3)).add 1)=some (.i t)/\
 (0:Int)<=1/\1<((l.n:Nat):Int)/\aX l.a λe=>∃j:Int,w9.cell? ((e.add (Int.toNat 1 *3)).add 1)=some (.i j)/\
 gM [b,c,d] bS #[.i (IntKind.wrap .i64 (g+t))] w9 λu v x ah=>ah.cell? ((e.add (Int.toNat 1 *3)).add 1)=some (.i j)/\loc [b,c,d] ah λai=>ai.cell? ((e.add (Int.toNat 1 *3)).add 1)=some (.i j)/\R (.returned (.tuple #[.agg #[.i u,.i v,.i x],.bool (decide ((IntKind.wrap .i64 (g+j))<=64))])) ai) (aF (q==32) ((0:Int)<=2/\2<((l.n:Nat):Int)/\aX l.a λy=>loc [b,c,d] w λag=>∃z:Int,ag.cell? ((y.add (Int.toNat 2 *3)).add 1)=some (.i z)/\
 (0:Int)<=2/\2<((l.n:Nat):Int)/\aX l.a λf=>∃k:Int,ag.cell? ((f.add (Int.toNat 2 *3)).add 1)=some (.i k)/\
 gM [b,c,d] bS #[.i (IntKind.wrap .i64 (g+z))] ag λaa ab ac aj=>aj.cell? ((f.add (Int.toNat 2 *3)).add 1)=some (.i k)/\loc [b,c,d] aj λak=>ak.cell? ((f.add (Int.toNat 2 *3)).add 1)=some (.i k)/\R (.returned (.tuple #[.agg #[.i aa,.i ab,.i ac],.bool (decide ((IntKind.wrap .i64 (g+k))<=64))])) ak) (aF (q==34) (gM [b,c,d] bS #[.i 1] w λad ae af ao=>loc [b,c,d] ao λaq=>R (.returned (.tuple #[.agg #[.i ad,.i ae,.i af],.bool true])) aq) (loc [b,c,d] w λar=>R (.returned (.tuple #[.agg #[.i am,.i g,.i an],.bool true])) ar))))
noncomputable def vQ:=bK X [kK,fL,eV] (bH [16,1,1,1,2]) P2 FG
abbrev gO (k1:Sl) (k:Nat) (m:Int) (n:Sl) (o p q:Int) (r:ByteArray) (s t u:Int) (f:Nat) (b c d:Int) (l:Nat) (g j e a:Int) (w:World) (R:aD):Prop:=
 aF (a==24) (gM [k,f,l] fF #[.agg #[.i g,.i j,.i e]] w λv x y w1=>loc [k,f,l] w1 λw4=>R (.returned (.tuple #[.agg #[.i v,.i x,.i y],.bool true])) w4) (aF (a==26) (gM [k,f,l] aU #[.i e] w λz aa ab w5=>loc [k,f,l] w5 λw8=>R (.returned (.tuple #[.agg #[.i z,.i aa,.i ab],.bool true])) w8) (aF (a==27) (aF (a==27) (ox f b c d w R) (FG k1 k m n o p q r s t u f b c d l g j e a w R)) (aF (a==31) (ox f b c d w R) (FG k1 k m n o p q r s t u f b c d l g j e a w R))))
noncomputable def hC:=bK X [vQ,kK,fL,eV] (bH [10,1,1,1,2]) P2 gO
abbrev fY (j:Sl) (b:Nat) (l:Int) (m:Sl) (e f o:Int) (p:ByteArray) (q r s:Int) (c:Nat) (t u v:Int) (d:Nat) (ab g ac k:Int) (w:World) (R:aD):Prop:=
 aF (k==19) ((0:Int)<=1/\1<((j.n:Nat):Int)/\aX j.a λah=>∃ax:Int,w.cell? ((ah.add (Int.toNat 1 *3)).add 0)=some (.i ax)/\
 aF (ax==1) ((0:Int)<=1/\1<((j.n:Nat):Int)/\aX j.a λai=>loc [b,c,d] w λw1=>∃ae:Int,w1.cell? ((ai.add (Int.toNat 1 *3)).add 1)=some (.i ae)/\
 (0:Int)<=2/\2<((j.n:Nat):Int)/\aX j.a λaj=>∃af:Int,w1.cell? ((aj.add (Int.toNat 2 *3)).add 1)=some (.i af)/\
 gM [b,c,d] bS #[.i (if ae<af then af else ae)] w1 λak al am w2=>loc [b,c,d] w2 λw5=>R (.returned (.tuple #[.agg #[.i ak,.i al,.i am],.bool true])) w5) ((0:Int)<=1/\1<((j.n:Nat):Int)/\aX j.a λan=>dK w (an.add (Int.toNat 1 *3)) λao ap aq=>loc [b,c,d] w λw8=>R (.returned (.tuple #[.agg #[.i ao,.i ap,.i aq],.bool true])) w8)) (aF (k==20) ((0:Int)<=1/\1<((j.n:Nat):Int)/\aX j.a λar=>loc [b,c,d] w λw9=>∃ay:Int,w9.cell? ((ar.add (Int.toNat 1 *3)).add 1)=some (.i ay)/\
 (0:Int)<=1/\1<((j.n:Nat):Int)/\aX j.a λx=>∃ad:Int,w9.cell? ((x.add (Int.toNat 1 *3)).add 1)=some (.i ad)/\
 gM [b,c,d] aU #[.i (IntKind.wrap .i64 (g+ay))] w9 λau av aw az=>az.cell? ((x.add (Int.toNat 1 *3)).add 1)=some (.i ad)/\loc [b,c,d] az λbb=>bb.cell? ((x.add (Int.toNat 1 *3)).add 1)=some (.i ad)/\R (.returned (.tuple #[.agg #[.i au,.i av,.i aw],.bool (decide ((IntKind.wrap .i64 (g+ad))<=64))])) bb) (aF (k==21) (loc [b,c,d] w λbe=>gM [b,c,d] aU #[.i (IntKind.wrap .i64 ((IntKind.wrap .i64 (e - f))+1))] be λy z aa ag=>aF (decide (f>=0)) (aF (decide (f<=e)) (loc [b,c,d] ag λbf=>R (.returned (.tuple #[.agg #[.i y,.i z,.i aa],.bool (decide (e<g))])) bf) (loc [b,c,d] ag λbg=>R (.returned (.tuple #[.agg #[.i y,.i z,.i aa],.bool false])) bg)) (loc [b,c,d] ag λbh=>R (.returned (.tuple #[.agg #[.i y,.i z,.i aa],.bool false])) bh)) (aF (k==22) (aF (k==22) (eY b l m e f o p q r s c t u v d ab g ac w R) (gO j b l m e f o p q r s c t u v d ab g ac k w R)) (aF (k==23) (eY b l m e f o p q r s c t u v d ab g ac w R) (gO j b l m e f o p q r s c t u v d ab g ac k w R)))))
noncomputable def gn:=bK X [hC,vQ,kK,fL,eV] (bH [2,1,1,1,2]) P2 fY
theorem cV (b:Int) (g:Sl) (j k l:Int) (m:ByteArray) (o p q:Int) (y:Sl) (w:World) (R:aD) (h:bE [] w λe w1=>
 bE [e] w1 λc w2=>
 (0:Int)<=0/\0<((y.n:Nat):Int)/\aX y.a λz=>dK w2 (z.add (Int.toNat 0 *3)) λr s t=>bE [e,c] w2 λf x=>
 aF (b==16) (aF (b==16) (loc [e,c,f] x λd=>dV c 0 0 0 d R) (loc [e,c,f] x λd=>fY y e b g j k l m o p q c 0 0 0 f r s t b d R)) (aF (b==17) (aF (b==17) (loc [e,c,f] x λd=>dV c 0 0 0 d R) (loc [e,c,f] x λd=>fY y e b g j k l m o p q c 0 0 0 f r s t b d R)) (aF (b==18) (aF (b==18) (loc [e,c,f] x λd=>dV c 0 0 0 d R) (loc [e,c,f] x λd=>fY y e b g j k l m o p q c 0 0 0 f r s t b d R)) (aF (b==33) (loc [e,c,f] x λd=>dV c 0 0 0 d R) (loc [e,c,f] x λd=>fY y e b g j k l m o p q c 0 0 0 f r s t b d R))))):Calls Tryz.prog jC #[.agg #[.i b,g.v,.i j,.i k,.u l,.string m,.i o,.i p,.i q],y.v] w R:=aO X [gn,hC,vQ,kK,fL,eV] h
end enthymemeref07_result
namespace enthymemeref07_SortOf
noncomputable abbrev X:Fx:=⟨Tryz.prog,Tryz.f13,[],[3,4,10]⟩
abbrev P0:Ps:=[(0,.v [.s]),(3,.l [.I,.s,.I,.I,.U,.st,.I,.I,.I] aG),(4,.l [.I,.I,.I] aR),(7,.v [.s]),(8,.v [.I])]
def eH (n:Sl) (q:Nat) (a:Int) (b:Sl) (c d e:Int) (f:ByteArray) (g i j:Int) (r:Nat) (k l m:Int) (p:Sl) (o:Int) (w:World) (R:aD):Prop:=cJ P0 0 (X.Sem (bH [0,1,1,1,5])) n q a b c d e f g i j r k l m p o w R
noncomputable def eC:=fZ X (bH [0,1,1,1,5]) P0 eH
abbrev P1:Ps:=[(4,.l [.I,.I,.I] aR),(10,.l [.I,.I,.I] aR),(12,.v [.b])]
abbrev fY (f:Nat) (g j k:Int) (e:Nat) (b c d:Int) (a:Bool) (w:World) (R:aD):Prop:=
 aF (!a) (loc [f,e] w λl=>R (.returned (.tuple #[.agg #[.i 0,.i 0,.i 0],.i 2])) l) (loc [f,e] w λm=>R (.returned (.tuple #[.agg #[.i b,.i c,.i d],.i 0])) m)
noncomputable def gn:=bK X [eC] (bH [11]) P1 fY
theorem bA:∀(g0:Sl) (d:Nat) (e:Int) (b:Sl) (q r s:Int) (l:ByteArray) (t x y:Int) (c:Nat) (m o p:Int) (k7:Sl) (i8:Int) (w:World) (R:aD) (h:aF (decide (i8<((b.n:Nat):Int))) ((0:Int)<=i8/\i8<((b.n:Nat):Int)/\aX b.a λag=>∃z:Int,w.cell? (ag.add (Int.toNat i8 *1))=some (.i z)/\
 (0:Int)<=z/\z<((g0.n:Nat):Int)/\aX g0.a λah=>dK w ((ah.add (Int.toNat z *9)).add 6) λai aj ak=>fJ w (.cells #[.i ai,.i aj,.i ak] aR) λan=>
 ∃(am:Sl) (ab:World),Sem.run Tryz.prog (Builtin.append_ #[nJ,nJ] nJ #[k7.v,.slice (some (nb w)) 1 1]) an=.ok (am.v) ab/\kept [d,c] an ab/\eH g0 d e b q r s l t x y c m o p am (IntKind.wrap .i64 (i8+1)) ab R) (jK [d,c] lq #[.i e,k7.v] w λap ao=>aF (!ap) (loc [d,c] ao λar=>R (.returned (.tuple #[.agg #[.i 0,.i 0,.i 0],.i 9])) ar) (YF [d,c] jC #[.agg #[.i e,b.v,.i q,.i r,.u s,.string l,.i t,.i x,.i y],k7.v] ao λg j k al au=>bE [d,c] au λf ac=>
 aF (!al) (loc [d,c,f] ac λav=>R (.returned (.tuple #[.agg #[.i 0,.i 0,.i 0],.i 5])) av) (aF (e !=33) (loc [d,c,f] ac λad=>fY c m o p f g j k true ad R) (loc [d,c,f] ac λad=>jK [d,c,f] il #[.string l] ad λaq aw=>fY c m o p f g j k aq aw R))))),eH g0 d e b q r s l t x y c m o p k7 i8 w R:=mp (dD (X:=X) [gn,eC] (bH [0,1,1,1,5]) P0)
theorem cV (r:Sl) (b:Int) (a:Sl) (c d e:Int) (f:ByteArray) (g j k:Int) (w:World) (R:aD) (h:bE [] w λl z=>
 bE [l] z λq w2=>
 mW [l,q] jB #[r.v,.agg #[.i b,a.v,.i c,.i d,.u e,.string f,.i g,.i j,.i k]] w2 λt x=>aF (t !=0) (loc [l,q] x λw6=>R (.returned (.tuple #[.agg #[.i 0,.i 0,.i 0],.i t])) w6) (aF (((a.n:Nat):Int)==0) (gU [l,q] kF #[r.v,.agg #[.i b,a.v,.i c,.i d,.u e,.string f,.i g,.i j,.i k]] x λm o p s w7=>loc [l,q] w7 λy=>R (.returned (.tuple #[.agg #[.i m,.i o,.i p],.i s])) y) (eH r l b a c d e f g j k q 0 0 0 ⟨none,0,0⟩ 0 x R))):Calls Tryz.prog gS #[r.v,.agg #[.i b,a.v,.i c,.i d,.u e,.string f,.i g,.i j,.i k]] w R:=aO X [gn,eC] h
end enthymemeref07_SortOf
namespace enthymemeref07_Same
noncomputable abbrev X:Fx:=⟨Tryz.prog,Tryz.f52,[],[2,3]⟩
theorem cV (b:Int) (c:Sl) (d e f:Int) (g:ByteArray) (j k l m:Int) (n:Sl) (o p q:Int) (r:ByteArray) (s t x:Int) (w:World) (R:aD) (h:bE [] w λy w1=>
 bE [y] w1 λb3 a=>
 aF (b==m) (aF (d==o) (aF (e==p) (aF (f==q) (aF (g.toList==r.toList) (aF ((j==s)&&((k==t)&&((l==x)&&true))) (jK [y,b3] iN #[c.v,n.v] a λz w3=>R (.returned (.bool z)) w3) (R (.returned (.bool false)) a)) (R (.returned (.bool false)) a)) (R (.returned (.bool false)) a)) (R (.returned (.bool false)) a)) (R (.returned (.bool false)) a)) (R (.returned (.bool false)) a)):Calls Tryz.prog iB #[.agg #[.i b,c.v,.i d,.i e,.u f,.string g,.i j,.i k,.i l],.agg #[.i m,n.v,.i o,.i p,.u q,.string r,.i s,.i t,.i x]] w R:=aO X [] h
end enthymemeref07_Same
namespace enthymemeref07_Index
noncomputable abbrev X:Fx:=⟨Tryz.prog,Tryz.f51,[(7,ls [0,1,2,3,4,5,6])],[3,5]⟩
abbrev P0:Ps:=[(0,.v [.s]),(3,.l [.I,.s,.I,.I,.U,.st,.I,.I,.I] aG),(7,.v [.I])]
def l4 (k:Sl) (m:Nat) (a:Int) (b:Sl) (c d e:Int) (f:ByteArray) (g i j l:Int) (w:World) (R:aD):Prop:=cJ P0 0 (X.Sem (bH [0,1,1,1,3])) k m a b c d e f g i j l w R
noncomputable def kX:=fZ X (bH [0,1,1,1,3]) P0 l4
theorem dJ:∀(o:Sl) (p:Nat) (c:Int) (d:Sl) (e f g:Int) (j:ByteArray) (k l m b:Int) (w:World) (R:aD) (h:aF (decide (b<((o.n:Nat):Int))) ((0:Int)<=b/\b<((o.n:Nat):Int)/\aX o.a λq=>loc [p] w λw1=>qL w1 (q.add (Int.toNat b *9)) λr s t x y z aa ab ac=>jK [p] iB #[.agg #[.i r,s.v,.i t,.i x,.u y,.string z,.i aa,.i ab,.i ac],.agg #[.i c,d.v,.i e,.i f,.u g,.string j,.i k,.i l,.i m]] w1 λad w2=>aF ad (R (.returned (.i b)) w2) (l4 o p c d e f g j k l m (IntKind.wrap .i64 (b+1)) w2 R)) (R (.returned (.i (-1))) w)),l4 o p c d e f g j k l m b w R:=mp (dD (X:=X) [kX] (bH [0,1,1,1,3]) P0)
abbrev P1:Ps:=[(0,.v [.s]),(3,.l [.I,.s,.I,.I,.U,.st,.I,.I,.I] aG)]
abbrev dV (k:Sl) (l:Nat) (a:Int) (b:Sl) (c d e:Int) (f:ByteArray) (g i j:Int) (w:World) (R:aD):Prop:=
 l4 k l a b c d e f g i j 0 w R
noncomputable def eV:=bK X [kX] (bH [3]) P1 dV
theorem cV (p:Sl) (a:Int) (b:Sl) (c d e:Int) (f:ByteArray) (g j k:Int) (w:World) (R:aD) (h:bE [] w λl t=>
 gU [l] gS #[p.v,.agg #[.i a,b.v,.i c,.i d,.u e,.string f,.i g,.i j,.i k]] t λm n o q x=>bE [l] x λr s=>
 aF (q==0) (loc [l,r] s λz=>dV p l a b c d e f m n o z R) (loc [l,r] s λy=>dV p l a b c d e f g j k y R)):Calls Tryz.prog jZ #[p.v,.agg #[.i a,b.v,.i c,.i d,.u e,.string f,.i g,.i j,.i k]] w R:=aO X [eV,kX] h
end enthymemeref07_Index
namespace enthymemeref07_Add
noncomputable abbrev X:Fx:=⟨Tryz.prog,Tryz.f15,[(10,(.sq [1,3,6,7] (.fork (.sq [0] (.fork (ls [2,4,5,8,9,10]) (ls [4,2,5,8,9,10]))) (ls [4,0,2,5,8,9,10]))))],[3,7]⟩
theorem cV (o:Sl) (e:Int) (f:Sl) (g j k:Int) (l:ByteArray) (ad ae af:Int) (w:World) (R:aD) (h:bE [] w λd w1=>
 gU [d] gS #[o.v,.agg #[.i e,f.v,.i g,.i j,.u k,.string l,.i ad,.i ae,.i af]] w1 λa b c x w2=>bE [d] w2 λm w3=>
 aF (x !=0) (loc [d,m] w3 λw6=>R (.returned (.tuple #[.slice none 0 0,.i 0,.i x])) w6) (loc [d,m] w3 λw9=>mW [d,m] jZ #[o.v,.agg #[.i e,f.v,.i g,.i j,.u k,.string l,.i a,.i b,.i c]] w9 λaj y=>aF (decide (aj>=0)) (R (.returned (.tuple #[o.v,.i aj,.i 0])) y) (aF (decide (((o.n:Nat):Int)>=4096)) (R (.returned (.tuple #[.slice none 0 0,.i 0,.i 4])) y) (((loc [d,m] y λp=>fJ p (.cells #[] aG) λz=>
 ((∃(ak:Sl) (aa:World),Sem.run Tryz.prog (Builtin.append_ #[bB,bB] bB #[.slice (some (nb p)) 0 0,o.v]) z=.ok (ak.v) aa/\kept [d,m] z aa/\fJ aa (.cells #[.i e,f.v,.i g,.i j,.u k,.string l,.i a,.i b,.i c] aG) λam=>
 ∃(al:Sl) (ag:World),Sem.run Tryz.prog (Builtin.append_ #[bB,bB] bB #[ak.v,.slice (some (nb aa)) 1 1]) am=.ok (al.v) ag/\kept [d,m] am ag/\R (.returned (.tuple #[al.v,.i ((o.n:Nat):Int),.i 0])) ag)/\(fJ z (.cells #[.i e,f.v,.i g,.i j,.u k,.string l,.i a,.i b,.i c] aG) λan=>
 ∃(q:Sl) (ab:World),Sem.run Tryz.prog (Builtin.append_ #[bB,bB] bB #[.slice (some (nb p)) 0 0,o.v]) an=.ok (q.v) ab/\kept [d,m] an ab/\∃(s:Sl) (ah:World),Sem.run Tryz.prog (Builtin.append_ #[bB,bB] bB #[q.v,.slice (some (nb z)) 1 1]) ab=.ok (s.v) ah/\kept [d,m] ab ah/\R (.returned (.tuple #[s.v,.i ((o.n:Nat):Int),.i 0])) ah)))/\(loc [d,m] y λp=>fJ p (.cells #[.i e,f.v,.i g,.i j,.u k,.string l,.i a,.i b,.i c] aG) λao=>
 fJ ao (.cells #[] aG) λap=>
 ∃(r:Sl) (ac:World),Sem.run Tryz.prog (Builtin.append_ #[bB,bB] bB #[.slice (some (nb ao)) 0 0,o.v]) ap=.ok (r.v) ac/\kept [d,m] ap ac/\∃(t:Sl) (ai:World),Sem.run Tryz.prog (Builtin.append_ #[bB,bB] bB #[r.v,.slice (some (nb p)) 1 1]) ac=.ok (t.v) ai/\kept [d,m] ac ai/\R (.returned (.tuple #[t.v,.i ((o.n:Nat):Int),.i 0])) ai)))))):Calls Tryz.prog ln #[o.v,.agg #[.i e,f.v,.i g,.i j,.u k,.string l,.i ad,.i ae,.i af]] w R:=aO X [] h
end enthymemeref07_Add
namespace enthymemeref07_start
noncomputable abbrev X:Fx:=⟨Tryz.prog,Tryz.f38,[],[]⟩
abbrev P0:Ps:=[(3,.v [.s])]
abbrev S1 (a:Sl) (w:World) (R:aD):Prop:=
 R (.returned (a.v)) w
noncomputable def gn:=bK X [] (bH [4]) P0 S1
abbrev P1:Ps:=[(0,.v [.I]),(3,.v [.s])]
abbrev S0 (a:Int) (n:Sl) (w:World) (R:aD):Prop:=
 aF (decide (a>1)) (FZ bS #[.i 2] w λb c d q=>FZ bS #[.i 1] q λe f g r=>FZ aU #[.i 7] r λj k l o=>fJ o (.cells #[.i 0,.slice none 0 0,.i 0,.i 0,.u 0,.string (ByteArray.mk #[115]),.i b,.i c,.i d,.i 0,.slice none 0 0,.i 0,.i 0,.u 0,.string (ByteArray.mk #[116]),.i e,.i f,.i g,.i 0,.slice none 0 0,.i 0,.i 0,.u 0,.string (ByteArray.mk #[105]),.i j,.i k,.i l,.i 0,.slice none 0 0,.i 0,.i 0,.u 0,.string (ByteArray.mk #[122]),.i 3,.i 1,.i 1] aG) λs=>
 ∃(m:Sl) (p:World),Sem.run Tryz.prog (Builtin.append_ #[bB,bB] bB #[n.v,.slice (some (nb o)) 4 4]) s=.ok (m.v) p/\S1 m p R) (S1 n w R)
noncomputable def eV:=bK X [gn] (bH [3]) P1 S0
theorem ok (a:Int) (w:World) (R:aD) (h:FZ aU #[.i 2] w λf g j t=>FZ aU #[.i 2] t λk l m x=>FZ aU #[.i 1] x λn o p y=>FZ aU #[.i 3] y λb c d q=>fJ q (.cells #[.i 0,.slice none 0 0,.i 0,.i 0,.u 0,.string (ByteArray.mk #[97]),.i f,.i g,.i j,.i 0,.slice none 0 0,.i 0,.i 0,.u 0,.string (ByteArray.mk #[98]),.i k,.i l,.i m,.i 0,.slice none 0 0,.i 0,.i 0,.u 0,.string (ByteArray.mk #[99]),.i n,.i o,.i p,.i 0,.slice none 0 0,.i 0,.i 0,.u 0,.string (ByteArray.mk #[100]),.i b,.i c,.i d] aG) λr=>
 aF (decide (a>0)) (fJ r (.cells #[.i 0,.slice none 0 0,.i 0,.i 0,.u 0,.string (ByteArray.mk #[109]),.i 2,.i 2,.i 1,.i 0,.slice none 0 0,.i 0,.i 0,.u 0,.string (ByteArray.mk #[110]),.i 2,.i 2,.i 1] aG) λz=>
 ∃(e:Sl) (s:World),Sem.run Tryz.prog (Builtin.append_ #[bB,bB] bB #[.slice (some (nb q)) 4 4,.slice (some (nb r)) 2 2]) z=.ok (e.v) s/\S0 a e s R) (S0 a ⟨some (nb q),4,4⟩ r R)):Calls Tryz.prog j9 #[.i a] w R:=aO X [eV,gn] h
end enthymemeref07_start
namespace enthymemeref07_Like
noncomputable abbrev X:Fx:=⟨Tryz.prog,Tryz.f78,[(5,ls [0,1,2,3,4,5,6])],[4]⟩
abbrev P0:Ps:=[(0,.v [.s]),(2,.v [.I]),(4,.l [.I,.I,.I] aR),(7,.v [.s]),(8,.v [.I])]
def eH (d:Sl) (g:Int) (i:Nat) (a b c:Int) (f:Sl) (e:Int) (w:World) (R:aD):Prop:=cJ P0 0 (X.Sem (bH [0,1,1,1,2])) d g i a b c f e w R
noncomputable def eC:=fZ X (bH [0,1,1,1,2]) P0 eH
abbrev fY (d:Sl) (g:Int) (i:Nat) (a b c:Int) (f:Sl) (e:Int) (w:World) (R:aD):Prop:=
 eH d g i a b c f (IntKind.wrap .i64 (e+1)) w R
noncomputable def gn:=bK X [eC] (bH [2,2,1,1,2]) P0 fY
theorem bA:∀(g:Sl) (l:Int) (j:Nat) (b c d:Int) (f:Sl) (e:Int) (w:World) (R:aD) (h:aF (decide (e<((g.n:Nat):Int))) ((0:Int)<=e/\e<((g.n:Nat):Int)/\aX g.a λm=>loc [j] w λs=>dK s ((m.add (Int.toNat e *9)).add 6) λo p q=>aF ((o==b)&&((p==c)&&((q==d)&&true))) (fJ s (.cells #[.i e] bW) λy=>
 ∃(t:Sl) (x:World),Sem.run Tryz.prog (Builtin.append_ #[gq,gq] gq #[f.v,.slice (some (nb s)) 1 1]) y=.ok (t.v) x/\kept [j] y x/\fY g l j b c d t e x R) (fY g l j b c d f e s R)) (aF (((f.n:Nat):Int)==0) (R (.returned (.i (-1))) w) (mW [j] aS #[.i l,.i ((f.n:Nat):Int)] w λk z=>(0:Int)<=k/\k<((f.n:Nat):Int)/\aX f.a λr=>∃u:Int,z.cell? (r.add (Int.toNat k *1))=some (.i u)/\
 R (.returned (.i u)) z))),eH g l j b c d f e w R:=mp (dD (X:=X) [gn,eC] (bH [0,1,1,1,2]) P0)
theorem cV (d:Sl) (a b c e:Int) (w:World) (R:aD) (h:bE [] w λf g=>
 eH d e f a b c ⟨none,0,0⟩ 0 g R):Calls Tryz.prog gE #[d.v,.agg #[.i a,.i b,.i c],.i e] w R:=aO X [gn,eC] h
end enthymemeref07_Like
namespace enthymemeref07_wanted
noncomputable abbrev X:Fx:=⟨Tryz.prog,Tryz.f79,[],[10,11]⟩
abbrev P0:Ps:=[(4,.v [.I]),(10,.l [.I,.I,.I] aR)]
abbrev dV (k:Int) (a:Nat) (f g j:Int) (w:World) (R:aD):Prop:=
 mW [a] aS #[.i k,.i 3] w λe l=>gM [a] bS #[.i e] l λb c d m=>loc [a] m λn=>R (.returned (.agg #[.i b,.i c,.i d])) n
noncomputable def eV:=bK X [] (bH [0,1,11,1,1,1,2]) P0 dV
abbrev P1:Ps:=[(10,.l [.I,.I,.I] aR),(11,.l [.I,.I,.I] aR)]
abbrev fY (d:Nat) (f g j:Int) (e:Nat) (a b c:Int) (w:World) (R:aD):Prop:=
 loc [d,e] w λk=>R (.returned (.agg #[.i a,.i b,.i c])) k
noncomputable def gn:=bK X [eV] (bH [3]) P1 fY
theorem cV (m:Sl) (e g p o:Int) (w:World) (R:aD) (h:bE [] w λb w1=>
 (0:Int)<=g/\g<((m.n:Nat):Int)/\aX m.a λr=>dK w1 ((r.add (Int.toNat g *9)).add 6) λk l f=>bE [b] w1 λc j=>
 aF (e==19) (loc [b,c] j λd=>mW [b,c] aS #[.i o,.i ((m.n:Nat):Int)] d λq w6=>(0:Int)<=q/\q<((m.n:Nat):Int)/\aX m.a λs=>dK w6 ((s.add (Int.toNat q *9)).add 6) λt u x=>loc [b,c] w6 λw9=>R (.returned (.agg #[.i t,.i u,.i x])) w9) (aF (e==20) (loc [b,c] j λd=>mW [b,c] aS #[.i o,.i 3] d λan ap=>gM [b,c] aU #[.i (IntKind.wrap .i64 (1+an))] ap λy z aa aq=>loc [b,c] aq λar=>R (.returned (.agg #[.i y,.i z,.i aa])) ar) (aF (e==24) (loc [b,c] j λd=>gM [b,c] aU #[.i f] d λab ac ad au=>loc [b,c] au λav=>R (.returned (.agg #[.i ab,.i ac,.i ad])) av) (aF (e==25) (aF (p==1) (loc [b,c] j λd=>gM [b,c] aU #[.i f] d λae af ag aw=>loc [b,c] aw λax=>R (.returned (.agg #[.i ae,.i af,.i ag])) ax) (loc [b,c] j λd=>gM [b,c] fF #[.agg #[.i k,.i l,.i f]] d λah ai aj ay=>loc [b,c] ay λaz=>R (.returned (.agg #[.i ah,.i ai,.i aj])) az)) (aF (e==30) (loc [b,c] j λd=>gM [b,c] aU #[.i 7] d λak al am bb=>loc [b,c] bb λbc=>R (.returned (.agg #[.i ak,.i al,.i am])) bc) (aF (e==29) (aF (e==29) (loc [b,c] j λd=>dV o b 0 0 0 d R) (loc [b,c] j λd=>fY b 0 0 0 c k l f d R)) (aF (e==31) (aF (e==31) (loc [b,c] j λd=>dV o b 0 0 0 d R) (loc [b,c] j λd=>fY b 0 0 0 c k l f d R)) (aF (e==32) (loc [b,c] j λd=>dV o b 0 0 0 d R) (loc [b,c] j λd=>fY b 0 0 0 c k l f d R))))))))):Calls Tryz.prog jD #[m.v,.i e,.i g,.i p,.i o] w R:=aO X [gn,eV] h
end enthymemeref07_wanted
namespace bM
noncomputable abbrev X:Fx:=⟨Tryz.prog,Tryz.f39,[(38,ls [0,1,2,3,4,5,6,7,8,9,10,11,12])],[8,10,16]⟩
abbrev P0:Ps:=[(0,.v [.s]),(2,.v [.I]),(3,.v [.I]),(8,.l [.I,.s,.I,.I,.U,.st,.I,.I,.I] aG),(10,.l [.I,.s,.I,.I,.U,.st,.I,.I,.I] aG),(11,.v [.I]),(13,.v [.I]),(14,.v [.I])]
def wY (y:Sl) (m2 z:Int) (t8:Nat) (m:Int) (n:Sl) (o p q:Int) (r:ByteArray) (s t u:Int) (l:Nat) (a:Int) (b:Sl) (c d e:Int) (f:ByteArray) (g i j x k v:Int) (w:World) (R:aD):Prop:=cJ P0 0 (X.Sem (bH [0,1,1,1,8])) y m2 z t8 m n o p q r s t u l a b c d e f g i j x k v w R
noncomputable def rX:=fZ X (bH [0,1,1,1,8]) P0 wY
abbrev P1:Ps:=[(0,.v [.s]),(2,.v [.I]),(3,.v [.I]),(8,.l [.I,.s,.I,.I,.U,.st,.I,.I,.I] aG),(10,.l [.I,.s,.I,.I,.U,.st,.I,.I,.I] aG),(11,.v [.I]),(13,.v [.I]),(14,.v [.I]),(15,.v [.I])]
abbrev CS (g0:Sl) (m2 k3:Int) (q:Nat) (s:Int) (t:Sl) (x y z:Int) (aa:ByteArray) (ab ac ad:Int) (a:Nat) (c:Int) (d:Sl) (e f g:Int) (j:ByteArray) (k l m ag n ae b:Int) (w:World) (R:aD):Prop:=
 aF (decide (b<0)) (loc [q,a] w λw9=>R (.returned (.agg #[.i (-1),.slice none 0 0,.i 0,.i 0,.u 0,.s0,.i 0,.i 0,.i 0])) w9) (fJ w (.cells #[.i b] bW) λr=>
 ∃(o:Sl) (p:World),Sem.run Tryz.prog (Builtin.append_ #[gq,gq] gq #[d.v,.slice (some (nb w)) 1 1]) r=.ok (o.v) p/\kept [q,a] r p/\loc [q,a] p λaf=>wY g0 m2 k3 q s t x y z aa ab ac ad a c o e f g j k l m ag n (IntKind.wrap .i64 (ae+1)) af R)
noncomputable def sv:=bK X [rX] (bH [2,2,1,2,1,1,8]) P1 CS
abbrev P2:Ps:=[(0,.v [.s]),(2,.v [.I]),(3,.v [.I]),(8,.l [.I,.s,.I,.I,.U,.st,.I,.I,.I] aG),(10,.l [.I,.s,.I,.I,.U,.st,.I,.I,.I] aG),(11,.v [.I]),(13,.v [.I]),(14,.v [.I]),(16,.l [.I,.I,.I] aR)]
abbrev uz (g0:Sl) (m2 k3:Int) (t:Nat) (u:Int) (x:Sl) (y z aa:Int) (ab:ByteArray) (ac ad ae:Int) (a:Nat) (c:Int) (d:Sl) (e f g:Int) (j:ByteArray) (k l m ai n b:Int) (r:Nat) (o p q:Int) (w:World) (R:aD):Prop:=
 (IntKind.wrap .i64 (1+(IntKind.wrap .i64 (5 *b))))≠0/\loc [t,a,r] w λw1=>mW [t,a,r] gE #[g0.v,.agg #[.i o,.i p,.i q],.i (IntKind.wrap .i64 ((IntKind.wrap .i64 (Int.tdiv k3 (IntKind.wrap .i64 (1+(IntKind.wrap .i64 (5 *b))))))+(IntKind.wrap .i64 (b *m2))))] w1 λs w2=>CS g0 m2 k3 t u x y z aa ab ac ad ae a c d e f g j k l m ai n b s w2 R
noncomputable def qz:=bK X [sv,rX] (bH [2,1,1,1,1,2,1,2,1,1,8]) P2 uz
theorem ko:∀(g0:Sl) (m2 k3:Int) (r:Nat) (s:Int) (t:Sl) (x y z:Int) (aa:ByteArray) (ab ac ad:Int) (b:Nat) (c:Int) (d:Sl) (e f g:Int) (j:ByteArray) (k l m q o p:Int) (w:World) (R:aD) (h:aF (decide (p<o)) (aF (decide (p>0)) (aF (decide (q>=0)) (gM [r,b] jD #[g0.v,.i c,.i q,.i p,.i m2] w λah ai aj w1=>bE [r,b] w1 λae w2=>
 aF (c==19) (aF (p==2) ((0:Int)<=1/\1<((d.n:Nat):Int)/\aX d.a λan=>loc [r,b,ae] w2 λw5=>∃ag:Int,w5.cell? (an.add (Int.toNat 1 *1))=some (.i ag)/\
 (0:Int)<=ag/\ag<((g0.n:Nat):Int)/\aX g0.a λao=>dK w5 ((ao.add (Int.toNat ag *9)).add 6) λap aq ar=>loc [r,b,ae] w5 λw8=>uz g0 m2 k3 r s t x y z aa ab ac ad b c d e f g j k l m q o p ae ap aq ar w8 R) (loc [r,b,ae] w2 λw5=>uz g0 m2 k3 r s t x y z aa ab ac ad b c d e f g j k l m q o p ae ah ai aj w5 R)) (loc [r,b,ae] w2 λw5=>uz g0 m2 k3 r s t x y z aa ab ac ad b c d e f g j k l m q o p ae ah ai aj w5 R)) (CS g0 m2 k3 r s t x y z aa ab ac ad b c d e f g j k l m q o p q w R)) (CS g0 m2 k3 r s t x y z aa ab ac ad b c d e f g j k l m q o p q w R)) (loc [r,b] w λav=>R (.returned (.agg #[.i c,d.v,.i e,.i f,.u g,.string j,.i k,.i l,.i m])) av)),wY g0 m2 k3 r s t x y z aa ab ac ad b c d e f g j k l m q o p w R:=mp (dD (X:=X) [qz,sv,rX] (bH [0,1,1,1,8]) P0)
abbrev P3:Ps:=[(0,.v [.s]),(2,.v [.I]),(3,.v [.I]),(8,.l [.I,.s,.I,.I,.U,.st,.I,.I,.I] aG),(10,.l [.I,.s,.I,.I,.U,.st,.I,.I,.I] aG),(11,.v [.I]),(13,.v [.I])]
abbrev ox (x:Sl) (z y:Int) (t8:Nat) (m:Int) (n:Sl) (o p q:Int) (r:ByteArray) (s t u:Int) (l:Nat) (a:Int) (b:Sl) (c d e:Int) (f:ByteArray) (g i j v k:Int) (w:World) (R:aD):Prop:=
 wY x z y t8 m n o p q r s t u l a b c d e f g i j v k 0 w R
noncomputable def kK:=bK X [qz,sv,rX] (bH [8]) P3 ox
abbrev P4:Ps:=[(0,.v [.s]),(1,.v [.I]),(2,.v [.I]),(3,.v [.I]),(8,.l [.I,.s,.I,.I,.U,.st,.I,.I,.I] aG),(10,.l [.I,.s,.I,.I,.U,.st,.I,.I,.I] aG),(11,.v [.I]),(13,.v [.I])]
abbrev gO (g0:Sl) (n1 m2 k3:Int) (t8:Nat) (q:Int) (r:Sl) (s t u:Int) (x:ByteArray) (y z aa:Int) (b:Nat) (a:Int) (c:Sl) (d e f:Int) (g:ByteArray) (j k l ag m:Int) (w:World) (R:aD):Prop:=
 aF (a==34) (gM [t8,b] aU #[.i 8] w λn o p w1=>mW [t8,b] gE #[g0.v,.agg #[.i n,.i o,.i p],.i (IntKind.wrap .i64 (Int.tdiv n1 64))] w1 λad w2=>ox g0 m2 k3 t8 q r s t u x y z aa b a c d e f g j k l ad m w2 R) (ox g0 m2 k3 t8 q r s t u x y z aa b a c d e f g j k l ag m w R)
noncomputable def hC:=bK X [kK,qz,sv,rX] (bH [7]) P4 gO
abbrev P5:Ps:=[(0,.v [.s]),(1,.v [.I]),(2,.v [.I]),(3,.v [.I]),(8,.l [.I,.s,.I,.I,.U,.st,.I,.I,.I] aG),(10,.l [.I,.s,.I,.I,.U,.st,.I,.I,.I] aG),(11,.v [.I])]
abbrev eY (g0:Sl) (n1 m2 k3:Int) (q:Nat) (r:Int) (s:Sl) (t u x:Int) (y:ByteArray) (z aa ab:Int) (b:Nat) (a:Int) (c:Sl) (d e f:Int) (g:ByteArray) (j k l ai:Int) (w:World) (R:aD):Prop:=
 mW [q,b] iz #[.i a] w λm w1=>aF (a==19) (gM [q,b] aU #[.i 1] w1 λn o p w2=>mW [q,b] gE #[g0.v,.agg #[.i n,.i o,.i p],.i (IntKind.wrap .i64 (Int.tdiv n1 64))] w2 λae w3=>gO g0 n1 m2 k3 q r s t u x y z aa ab b a c d e f g j k l ae m w3 R) (gO g0 n1 m2 k3 q r s t u x y z aa ab b a c d e f g j k l ai m w1 R)
noncomputable def fL:=bK X [hC,kK,qz,sv,rX] (bH [5]) P5 eY
abbrev P6:Ps:=[(0,.v [.s]),(1,.v [.I]),(2,.v [.I]),(3,.v [.I]),(8,.l [.I,.s,.I,.I,.U,.st,.I,.I,.I] aG),(10,.l [.I,.s,.I,.I,.U,.st,.I,.I,.I] aG),(11,.v [.I]),(12,.v [.I])]
abbrev fY (g0:Sl) (n1 m2 k3:Int) (j:Nat) (n:Int) (o:Sl) (p q r:Int) (s:ByteArray) (t u v:Int) (a:Nat) (c:Int) (d:Sl) (e f x:Int) (g:ByteArray) (y z aa ad b:Int) (w:World) (R:aD):Prop:=
 gM [j,a] aU #[.i b] w λk l m w1=>¬(IntKind.wrap .u64 (if 3<b then 3 else b))<0/\loc [j,a] w1 λw4=>mW [j,a] aS #[.i k3,.i (IntKind.wrap .i64 (1 *2^(min (Int.toNat (IntKind.wrap .u64 (if 3<b then 3 else b))) (IntKind.bits .i64))))] w4 λac w5=>loc [j,a] w5 λw6=>eY g0 n1 m2 k3 j n o p q r s t u v a c d e f (IntKind.wrap .u64 ac) g k l m ad w6 R
noncomputable def gn:=bK X [fL,hC,kK,qz,sv,rX] (bH [2,1,1,1,1,1,4]) P6 fY
abbrev dV (y:Sl) (n1 z v:Int) (t8:Nat) (l:Int) (m:Sl) (n o p:Int) (q:ByteArray) (r s t:Int) (k:Nat) (a:Int) (b:Sl) (c d e:Int) (f:ByteArray) (g i j u x:Int) (w:World) (R:aD):Prop:=
 aF ((Int.tmod v 7)==0) (fY y n1 z v t8 l m n o p q r s t k a b c d e f g i j u 7 w R) (fY y n1 z v t8 l m n o p q r s t k a b c d e f g i j u x w R)
noncomputable def eV:=bK X [gn,fL,hC,kK,qz,sv,rX] (bH [1,1,1,1,1,1,4]) P6 dV
abbrev Ku (g0:Sl) (n1 x k3:Int) (l:Nat) (m:Int) (n:Sl) (o p q:Int) (r:ByteArray) (s t u:Int) (a:Nat) (b:Int) (c:Sl) (v d e:Int) (f:ByteArray) (g j k z:Int) (w:World) (R:aD):Prop:=
 mW [l,a] aS #[.i x,.i 2] w λy w1=>loc [l,a] w1 λw2=>eY g0 n1 x k3 l m n o p q r s t u a b c (IntKind.wrap .i64 (1+y)) d e f g j k z w2 R
noncomputable def yI:=bK X [eV,gn,fL,hC,kK,qz,sv,rX] (bH [0,1,9,1,1,1,4]) P5 Ku
abbrev P7:Ps:=[(0,.v [.s]),(1,.v [.I]),(2,.v [.I]),(3,.v [.I]),(8,.l [.I,.s,.I,.I,.U,.st,.I,.I,.I] aG),(10,.l [.I,.s,.I,.I,.U,.st,.I,.I,.I] aG),(11,.v [.I]),(32,.v [.I])]
abbrev QS (g0:Sl) (n1 x k3:Int) (m:Nat) (n:Int) (o:Sl) (p q r:Int) (s:ByteArray) (t u v:Int) (a:Nat) (b:Int) (c:Sl) (k d e:Int) (l:ByteArray) (f g j y z:Int) (w:World) (R:aD):Prop:=
 aF (z==28) (mW [m,a] aS #[.i x,.i 3] w λae w1=>loc [m,a] w1 λw2=>eY g0 n1 x k3 m n o p q r s t u v a b c ae d e l f g j y w2 R) (aF (z==33) (pG [m,a] kE #[.i x] w λad w3=>loc [m,a] w3 λw4=>eY g0 n1 x k3 m n o p q r s t u v a b c k d e ad f g j y w4 R) (eY g0 n1 x k3 m n o p q r s t u v a b c k d e l f g j y w R))
noncomputable def AX:=bK X [yI,eV,gn,fL,hC,kK,qz,sv,rX] (bH [10,1,1,1,4]) P7 QS
theorem cV (j:Sl) (k g l:Int) (w:World) (R:aD) (h:bE [] w λd w1=>
 fJ w1 (.cells #[.i 4,.i 5,.i 6,.i 7,.i 8,.i 9,.i 10,.i 11,.i 12,.i 13,.i 14,.i 15,.i 16,.i 17,.i 18,.i 19,.i 20,.i 21,.i 22,.i 23,.i 24,.i 25,.i 26,.i 27,.i 28,.i 29,.i 30,.i 31,.i 32,.i 33,.i 34,.i 1,.i 2,.i 3,.i 18,.i 18,.i 16,.i 6,.i 24,.i 25] bW) λw2=>
 mW [d] aS #[.i k,.i ((40:Nat):Int)] w2 λm w3=>(0:Int)<=m/\m<((40:Nat):Int)/\aX (some (nb w1)) λr=>∃c:Int,w3.cell? (r.add (Int.toNat m *1))=some (.i c)/\
 bE [d] w3 λb w4=>
 loc [d,b] w4 λah=>mW [d,b] aS #[.i (IntKind.wrap .i64 (Int.tdiv k 64)),.i ((j.n:Nat):Int)] ah λe f=>aF (c==1) (mW [d,b] aS #[.i g,.i 3] f λae ai=>dV j k g l d 0 ⟨none,0,0⟩ 0 0 0 (ByteArray.mk #[]) 0 0 0 b c ⟨none,0,0⟩ 0 0 0 (ByteArray.mk #[]) 0 0 0 e (IntKind.wrap .i64 (1+ae)) ai R) (aF (c==2) (fJ f (.cells #[.s0,.string (ByteArray.mk #[97]),.string (ByteArray.mk #[97,98]),.string (ByteArray.mk #[98]),.string (ByteArray.mk #[0]),.string (ByteArray.mk #[97,97])] cI) λaj=>
 mW [d,b] aS #[.i g,.i 6] aj λo ac=>(0:Int)<=o/\o<((6:Nat):Int)/\aX (some (nb f)) λs=>∃aa:ByteArray,ac.cell? (s.add (Int.toNat o *1))=some (.string aa)/\
 loc [d,b] ac λak=>eY j k g l d 0 ⟨none,0,0⟩ 0 0 0 (ByteArray.mk #[]) 0 0 0 b c ⟨none,0,0⟩ 0 0 0 aa 0 0 0 e ak R) (aF (c==3) (fJ f (.cells #[.i 2,.i 2,.i 1,.i 3,.i 1,.i 1] aR) λal=>
 mW [d,b] aS #[.i g,.i 2] al λp ad=>(0:Int)<=p/\p<((2:Nat):Int)/\aX (some (nb f)) λt=>dK ad (t.add (Int.toNat p *3)) λu x y=>loc [d,b] ad λam=>eY j k g l d 0 ⟨none,0,0⟩ 0 0 0 (ByteArray.mk #[]) 0 0 0 b c ⟨none,0,0⟩ 0 0 0 (ByteArray.mk #[]) u x y e am R) (aF (c==21) ((0:Int)<=e/\e<((j.n:Nat):Int)/\aX j.a λz=>∃q:Int,f.cell? (((z.add (Int.toNat e *9)).add 6).add 1)=some (.i q)/\
 mW [d,b] aS #[.i g,.i (if 1<q then q else 1)] f λab an=>loc [d,b] an λao=>mW [d,b] aS #[.i l,.i (IntKind.wrap .i64 (ab+1))] ao λaf ap=>loc [d,b] ap λaq=>eY j k g l d 0 ⟨none,0,0⟩ 0 0 0 (ByteArray.mk #[]) 0 0 0 b c ⟨none,0,0⟩ ab af 0 (ByteArray.mk #[]) 0 0 0 e aq R) (aF (c==22) (aF (c==22) (Ku j k g l d 0 ⟨none,0,0⟩ 0 0 0 (ByteArray.mk #[]) 0 0 0 b c ⟨none,0,0⟩ 0 0 0 (ByteArray.mk #[]) 0 0 0 e f R) (QS j k g l d 0 ⟨none,0,0⟩ 0 0 0 (ByteArray.mk #[]) 0 0 0 b c ⟨none,0,0⟩ 0 0 0 (ByteArray.mk #[]) 0 0 0 e c f R)) (aF (c==23) (Ku j k g l d 0 ⟨none,0,0⟩ 0 0 0 (ByteArray.mk #[]) 0 0 0 b c ⟨none,0,0⟩ 0 0 0 (ByteArray.mk #[]) 0 0 0 e f R) (QS j k g l d 0 ⟨none,0,0⟩ 0 0 0 (ByteArray.mk #[]) 0 0 0 b c ⟨none,0,0⟩ 0 0 0 (ByteArray.mk #[]) 0 0 0 e c f R))))))):Calls Tryz.prog iC #[j.v,.i k,.i g,.i l] w R:=aO X [AX,yI,eV,gn,fL,hC,kK,qz,sv,rX] h
end bM
namespace enthymemeref07_size
noncomputable abbrev X:Fx:=⟨Tryz.prog,Tryz.f41,[],[]⟩
abbrev P0:Ps:=[(0,.v [.s]),(1,.v [.I]),(5,.v [.I]),(6,.v [.I])]
def L0 (a:Sl) (b d c:Int) (w:World) (R:aD):Prop:=cJ P0 0 (X.Sem (bH [0,1,1,1,2])) a b d c w R
noncomputable def eC:=fZ X (bH [0,1,1,1,2]) P0 L0
abbrev S1 (a:Sl) (b d c:Int) (w:World) (R:aD):Prop:=
 L0 a b d (IntKind.wrap .i64 (c+1)) w R
noncomputable def gn:=bK X [eC] (bH [2,2,1,1,2]) P0 S1
theorem cF:∀(c:Sl) (b m d:Int) (w:World) (R:aD) (h:(0:Int)<=b/\b<((c.n:Nat):Int)/\aX c.a λf=>∃k:Sl,w.cell? ((f.add (Int.toNat b *9)).add 1)=some (k.v)/\
 aF (decide (d<((k.n:Nat):Int))) ((0:Int)<=b/\b<((c.n:Nat):Int)/\aX c.a λg=>∃e:Sl,w.cell? ((g.add (Int.toNat b *9)).add 1)=some (e.v)/\
 (0:Int)<=d/\d<((e.n:Nat):Int)/\aX e.a λj=>∃l:Int,w.cell? (j.add (Int.toNat d *1))=some (.i l)/\
 BW iD #[c.v,.i l] w λo p=>S1 c b (IntKind.wrap .i64 (m+o)) d p R) (R (.returned (.i m)) w)),L0 c b m d w R:=mp (dD (X:=X) [gn,eC] (bH [0,1,1,1,2]) P0)
theorem ok (a:Sl) (b:Int) (w:World) (R:aD) (h:L0 a b 1 0 w R):Calls Tryz.prog iD #[a.v,.i b] w R:=aO X [gn,eC] h
end enthymemeref07_size
namespace enthymemeref07_within
noncomputable abbrev X:Fx:=⟨Tryz.prog,Tryz.f40,[],[3]⟩
theorem cV (a b d e:Int) (w:World) (R:aD) (h:bE [] w λf c=>
 aF (b==0) (R (.returned (.bool true)) c) (aF (decide (a>0)) (aF (b==2) (R (.returned (.bool true)) c) (R (.returned (.bool (decide (a>1)))) c)) (R (.returned (.bool (decide (a>1)))) c))):Calls Tryz.prog jE #[.i a,.agg #[.i b,.i d,.i e]] w R:=aO X [] h
end enthymemeref07_within
namespace enthymemeref07_Made
noncomputable abbrev X:Fx:=⟨Tryz.prog,Tryz.f9,[(5,(.sq [0,1,2,3,4,5,6,7,8,9,10,11,12,13,14] (.fork (ls [15,16,17]) (ls [16,15,17]))))],[9]⟩
abbrev P0:Ps:=[(0,.v [.s]),(1,.v [.I]),(2,.v [.I]),(7,.v [.s]),(8,.v [.I])]
def eH (e:Sl) (a b:Int) (c:Sl) (d:Int) (w:World) (R:aD):Prop:=cJ P0 0 (X.Sem (bH [0,1,1,1,2])) e a b c d w R
noncomputable def eC:=fZ X (bH [0,1,1,1,2]) P0 eH
abbrev eY (e:Sl) (a b:Int) (c:Sl) (d:Int) (w:World) (R:aD):Prop:=
 eH e a b c (IntKind.wrap .i64 (d+3)) w R
noncomputable def fL:=bK X [eC] (bH [2,2,1,1,2]) P0 eY
abbrev P1:Ps:=[(0,.v [.s]),(1,.v [.I]),(2,.v [.I]),(7,.v [.s]),(8,.v [.I]),(9,.l [.I,.s,.I,.I,.U,.st,.I,.I,.I] aG)]
abbrev fY (j:Sl) (c e:Int) (f:Sl) (g:Int) (t:Nat) (x:Int) (y:Sl) (z aa ab:Int) (ac:ByteArray) (ad ae af:Int) (w:World) (R:aD):Prop:=
 YG [t] ln #[f.v,.agg #[.i x,y.v,.i z,.i aa,.u ab,.string ac,.i ad,.i ae,.i af]] w λd b k w1=>aF (k==0) ((0:Int)<=b/\b<((d.n:Nat):Int)/\aX d.a λl=>dK w1 ((l.add (Int.toNat b *9)).add 6) λm o p=>jK [t] jE #[.i c,.agg #[.i m,.i o,.i p]] w1 λah r=>aF ah ((0:Int)<=b/\b<((d.n:Nat):Int)/\aX d.a λq=>∃s:Int,r.cell? (((q.add (Int.toNat b *9)).add 6).add 1)=some (.i s)/\
 aF (decide (s<=16)) (mW [t] iD #[d.v,.i b] r λai w3=>aF (decide (ai<=400)) (eY j c e d g w3 R) (eY j c e f g w3 R)) (eY j c e f g r R)) (eY j c e f g r R)) (eY j c e f g w1 R)
noncomputable def gn:=bK X [fL,eC] (bH [1,2,1,2,1,1,2]) P1 fY
abbrev P2:Ps:=[(7,.v [.s])]
abbrev gO (a:Sl) (w:World) (R:aD):Prop:=
 R (.returned (a.v)) w
noncomputable def hC:=bK X [gn,fL,eC] (bH [3]) P2 gO
theorem bA:∀(d:Sl) (e c:Int) (f:Sl) (b:Int) (w:World) (R:aD) (h:aF (decide ((IntKind.wrap .i64 (b+2))<((d.n:Nat):Int))) (aF (decide (b<(IntKind.wrap .i64 (3 *c)))) (uU w λw2=>(0:Int)<=b/\b<((d.n:Nat):Int)/\aX d.a λs=>∃t:Int,w2.cell? (s.add (Int.toNat b *1))=some (.i t)/\
 (0:Int)<=(IntKind.wrap .i64 (b+1))/\(IntKind.wrap .i64 (b+1))<((d.n:Nat):Int)/\aX d.a λu=>∃x:Int,w2.cell? (u.add (Int.toNat (IntKind.wrap .i64 (b+1)) *1))=some (.i x)/\
 (0:Int)<=(IntKind.wrap .i64 (b+2))/\(IntKind.wrap .i64 (b+2))<((d.n:Nat):Int)/\aX d.a λy=>∃z:Int,w2.cell? (y.add (Int.toNat (IntKind.wrap .i64 (b+2)) *1))=some (.i z)/\
 ((YC iC #[f.v,.i t,.i x,.i z] w2 λad ae af ag ah ai aj ak al w3=>bE [] w3 λb9 w4=>
 loc [b9] w4 λan=>fY d e c f b b9 ad ae af ag ah ai aj ak al an R)/\(bE [] w2 λab aa=>
 aa.cell? (y.add (Int.toNat (IntKind.wrap .i64 (b+2)) *1))=some (.i z)/\aa.cell? (u.add (Int.toNat (IntKind.wrap .i64 (b+1)) *1))=some (.i x)/\aa.cell? (s.add (Int.toNat b *1))=some (.i t)/\YH [ab] iC #[f.v,.i t,.i x,.i z] aa λg j k l m o p q r ao=>loc [ab] ao λap=>fY d e c f b ab g j k l m o p q r ap R))) (gO f w R)) (gO f w R)),eH d e c f b w R:=mp (dD (X:=X) [hC,gn,fL,eC] (bH [0,1,1,1,2]) P0)
theorem cV (c:Sl) (a b:Int) (w:World) (R:aD) (h:VC j9 #[.i a] w λd e=>eH c a b d 0 e R):Calls Tryz.prog iA #[c.v,.i a,.i b] w R:=aO X [hC,gn,fL,eC] h
end enthymemeref07_Made
namespace value_ValidSort
noncomputable abbrev X:Fx:=⟨Tryz.prog,Tryz.f109,[],[1]⟩
abbrev P0:Ps:=[]
abbrev fY (w:World) (R:aD):Prop:=
 R (.returned (.i 9)) w
noncomputable def gn:=bK X [] (bH [0,1,1,1,3]) P0 fY
abbrev eY (w:World) (R:aD):Prop:=
 R (.returned (.i 9)) w
noncomputable def fL:=bK X [gn] (bH [0,1,1,1,4]) P0 eY
abbrev gO (w:World) (R:aD):Prop:=
 R (.returned (.i 0)) w
noncomputable def hC:=bK X [fL,gn] (bH [5]) P0 gO
abbrev P1:Ps:=[(1,.l [.I,.I,.I] aR),(3,.v [.I]),(4,.v [.I]),(5,.v [.b])]
abbrev dV (g:Nat) (f d b c e:Int) (a:Bool) (w:World) (R:aD):Prop:=
 aF (decide (d<c)) (fY w R) (aF (decide (d>e)) (fY w R) (aF a (aF (decide (b<1)) (eY w R) (aF (decide (b>16)) (eY w R) (aF (!a) (aF (b !=0) (eY w R) (gO w R)) (gO w R)))) (aF (!a) (aF (b !=0) (eY w R) (gO w R)) (gO w R))))
noncomputable def eV:=bK X [hC,fL,gn] (bH [3]) P1 dV
theorem cV (a b c:Int) (w:World) (R:aD) (h:bE [] w λe d=>
 aF (a==0) (dV e a b c 1 64 false d R) (aF (a==1) (dV e a b c 0 64 false d R) (aF (a==2) (dV e a b c 1 64 true d R) (aF (a==3) (dV e a b c 0 64 true d R) (R (.returned (.i 9)) d))))):Calls Tryz.prog kR #[.agg #[.i a,.i b,.i c]] w R:=aO X [eV,hC,fL,gn] h
end value_ValidSort
namespace term_isName
noncomputable abbrev X:Fx:=⟨Tryz.prog,Tryz.f108,[],[]⟩
abbrev P0:Ps:=[]
abbrev S0 (w:World) (R:aD):Prop:=
 R (.returned (.bool false)) w
noncomputable def eV:=bK X [] (bH [0,1,1,1,1]) P0 S0
abbrev P1:Ps:=[(0,.v [.st]),(3,.v [.I])]
def L1 (b:ByteArray) (a:Int) (w:World) (R:aD):Prop:=cJ P1 0 (X.Sem (bH [0,1,1,1,2])) b a w R
noncomputable def kX:=fZ X (bH [0,1,1,1,2]) P1 L1
abbrev S4 (w:World) (R:aD):Prop:=
 R (.returned (.bool false)) w
noncomputable def kK:=bK X [kX,eV] (bH [0,1,3,2,1,2,1,1,2]) P0 S4
abbrev S5 (b:ByteArray) (a:Int) (w:World) (R:aD):Prop:=
 L1 b (IntKind.wrap .i64 (a+1)) w R
noncomputable def vQ:=bK X [kK,kX,eV] (bH [2,2,1,1,2]) P1 S5
abbrev P2:Ps:=[(0,.v [.st]),(3,.v [.I]),(4,.v [.Y]),(5,.v [.b])]
abbrev S3 (d:ByteArray) (b c:Int) (a:Bool) (w:World) (R:aD):Prop:=
 aF (!a) (aF (b==0) (S4 w R) (aF (c !=45) (aF (decide (c<48)) (S4 w R) (aF (decide (c>57)) (S4 w R) (S5 d b w R))) (S5 d b w R))) (S5 d b w R)
noncomputable def hC:=bK X [vQ,kK,kX,eV] (bH [2,2,1,2,1,1,2]) P2 S3
abbrev P3:Ps:=[(0,.v [.st]),(3,.v [.I]),(4,.v [.Y])]
abbrev S2 (c:ByteArray) (b a:Int) (w:World) (R:aD):Prop:=
 aF (decide (a>=97)) (S3 c b a (decide (a<=122)) w R) (S3 c b a false w R)
noncomputable def fL:=bK X [hC,vQ,kK,kX,eV] (bH [1,2,1,2,1,1,2]) P3 S2
theorem nY:∀(c:ByteArray) (b:Int) (w:World) (R:aD) (h:aF (decide (b<((c.size:Nat):Int))) ((0:Int)<=b/\∃a:UInt8,c[Int.toNat b]? =some a/\S2 c b ((a.toNat:Nat):Int) w R) (R (.returned (.bool true)) w)),L1 c b w R:=mp (dD (X:=X) [fL,hC,vQ,kK,kX,eV] (bH [0,1,1,1,2]) P1)
theorem ok (a:ByteArray) (w:World) (R:aD) (h:aF (decide (((a.size:Nat):Int)<1)) (S0 w R) (aF (decide (((a.size:Nat):Int)>16)) (S0 w R) (L1 a 0 w R))):Calls Tryz.prog qv #[.string a] w R:=aO X [fL,hC,vQ,kK,kX,eV] h
end term_isName
namespace term_fieldsFit
noncomputable abbrev X:Fx:=⟨Tryz.prog,Tryz.f80,[],[]⟩
abbrev P0:Ps:=[(0,.v [.r]),(3,.v [.b]),(4,.v [.b]),(5,.v [.b]),(6,.v [.b])]
abbrev S1 (b:Addr) (r q c a:Bool) (w:World) (R:aD):Prop:=
 aF r (aF q (aF c (aF a (R (.returned (.bool true)) w) (∃x:ByteArray,w.cell? (b.add 5)=some (.string x)/\
 R (.returned (.bool (x.toList==(ByteArray.mk #[]).toList))) w)) (∃v:Int,w.cell? (b.add 4)=some (.u v)/\
 aF (v==0) (aF a (R (.returned (.bool true)) w) (∃j:ByteArray,w.cell? (b.add 5)=some (.string j)/\
 R (.returned (.bool (j.toList==(ByteArray.mk #[]).toList))) w)) (R (.returned (.bool false)) w))) (∃t:Int,w.cell? (b.add 3)=some (.i t)/\
 aF (t==0) (aF c (aF a (R (.returned (.bool true)) w) (∃k:ByteArray,w.cell? (b.add 5)=some (.string k)/\
 R (.returned (.bool (k.toList==(ByteArray.mk #[]).toList))) w)) (∃e:Int,w.cell? (b.add 4)=some (.u e)/\
 aF (e==0) (aF a (R (.returned (.bool true)) w) (∃l:ByteArray,w.cell? (b.add 5)=some (.string l)/\
 R (.returned (.bool (l.toList==(ByteArray.mk #[]).toList))) w)) (R (.returned (.bool false)) w))) (R (.returned (.bool false)) w))) (∃s:Int,w.cell? (b.add 2)=some (.i s)/\
 aF (s==0) (aF q (aF c (aF a (R (.returned (.bool true)) w) (∃m:ByteArray,w.cell? (b.add 5)=some (.string m)/\
 R (.returned (.bool (m.toList==(ByteArray.mk #[]).toList))) w)) (∃f:Int,w.cell? (b.add 4)=some (.u f)/\
 aF (f==0) (aF a (R (.returned (.bool true)) w) (∃n:ByteArray,w.cell? (b.add 5)=some (.string n)/\
 R (.returned (.bool (n.toList==(ByteArray.mk #[]).toList))) w)) (R (.returned (.bool false)) w))) (∃d:Int,w.cell? (b.add 3)=some (.i d)/\
 aF (d==0) (aF c (aF a (R (.returned (.bool true)) w) (∃o:ByteArray,w.cell? (b.add 5)=some (.string o)/\
 R (.returned (.bool (o.toList==(ByteArray.mk #[]).toList))) w)) (∃g:Int,w.cell? (b.add 4)=some (.u g)/\
 aF (g==0) (aF a (R (.returned (.bool true)) w) (∃p:ByteArray,w.cell? (b.add 5)=some (.string p)/\
 R (.returned (.bool (p.toList==(ByteArray.mk #[]).toList))) w)) (R (.returned (.bool false)) w))) (R (.returned (.bool false)) w))) (R (.returned (.bool false)) w))
noncomputable def gn:=bK X [] (bH [3]) P0 S1
abbrev P1:Ps:=[(0,.v [.r]),(3,.v [.b]),(4,.v [.b]),(5,.v [.b])]
abbrev S0 (d:Addr) (b a c:Bool) (w:World) (R:aD):Prop:=
 S1 d b a c true w R
noncomputable def eV:=bK X [gn] (bH [0,1,1,1,1,1,2]) P1 S0
abbrev P2:Ps:=[(0,.v [.r]),(4,.v [.b]),(5,.v [.b]),(6,.v [.b])]
abbrev S3 (d:Addr) (b c a:Bool) (w:World) (R:aD):Prop:=
 S1 d true b c a w R
noncomputable def hC:=bK X [eV,gn] (bH [0,1,7,1,1,1,2]) P2 S3
abbrev P3:Ps:=[(0,.v [.r]),(3,.v [.b]),(4,.v [.b]),(5,.v [.b]),(6,.v [.b]),(10,.v [.I])]
abbrev S2 (f:Addr) (d b c a:Bool) (e:Int) (w:World) (R:aD):Prop:=
 aF (e==1) (S1 f d b true a w R) (aF (e==21) (S1 f true true c a w R) (aF (e==22) (aF (e==22) (S3 f b c a w R) (S1 f d b c a w R)) (aF (e==23) (aF (e==23) (S3 f b c a w R) (S1 f d b c a w R)) (aF (e==28) (S3 f b c a w R) (S1 f d b c a w R)))))
noncomputable def fL:=bK X [hC,eV,gn] (bH [2,1,1,1,2]) P3 S2
theorem ok (b:Addr) (w:World) (R:aD) (h:∃a:Int,w.cell? (b.add 0)=some (.i a)/\
 aF (a==0) (aF (a==0) (S0 b false false false w R) (S2 b false false false false a w R)) (aF (a==2) (aF (a==2) (S0 b false false false w R) (S2 b false false false false a w R)) (aF (a==33) (S0 b false false false w R) (S2 b false false false false a w R)))):Calls Tryz.prog nT #[.pointer (some b)] w R:=aO X [fL,hC,eV,gn] h
end term_fieldsFit
namespace term_bv
noncomputable abbrev X:Fx:=⟨Tryz.prog,Tryz.f114,[],[2]⟩
theorem cV (a:Int) (w:World) (R:aD) (h:bE [] w λb c=>
 loc [b] c λd=>R (.returned (.agg #[.i 0,.i a,.i 0])) d):Calls Tryz.prog fA #[.i a] w R:=aO X [] h
end term_bv
namespace term_str
noncomputable abbrev X:Fx:=⟨Tryz.prog,Tryz.f110,[],[2]⟩
theorem cV (a:Int) (w:World) (R:aD) (h:bE [] w λb c=>
 loc [b] c λd=>R (.returned (.agg #[.i 1,.i a,.i 0])) d):Calls Tryz.prog lD #[.i a] w R:=aO X [] h
end term_str
namespace term_isBV
noncomputable abbrev X:Fx:=⟨Tryz.prog,Tryz.f113,[],[1]⟩
theorem cV (a b c:Int) (w:World) (R:aD) (h:bE [] w λe d=>
 R (.returned (.bool (a==0))) d):Calls Tryz.prog iZ #[.agg #[.i a,.i b,.i c]] w R:=aO X [] h
end term_isBV
namespace term_isStr
noncomputable abbrev X:Fx:=⟨Tryz.prog,Tryz.f116,[],[1]⟩
theorem cV (a b c:Int) (w:World) (R:aD) (h:bE [] w λe d=>
 R (.returned (.bool (a==1))) d):Calls Tryz.prog cT #[.agg #[.i a,.i b,.i c]] w R:=aO X [] h
end term_isStr
namespace term_isArray
noncomputable abbrev X:Fx:=⟨Tryz.prog,Tryz.f111,[],[1]⟩
theorem cV (a b c:Int) (w:World) (R:aD) (h:bE [] w λe d=>
 aF (a==2) (R (.returned (.bool true)) d) (R (.returned (.bool (a==3))) d)):Calls Tryz.prog lB #[.agg #[.i a,.i b,.i c]] w R:=aO X [] h
end term_isArray
namespace term_alike
noncomputable abbrev X:Fx:=⟨Tryz.prog,Tryz.f115,[],[2,3]⟩
theorem cV (a b c d e f:Int) (w:World) (R:aD) (h:bE [] w λg o=>
 bE [g] o λj m=>
 aF ((a==d)&&((b==e)&&((c==f)&&true))) (R (.returned (.bool true)) m) (jK [g,j] cT #[.agg #[.i a,.i b,.i c]] m λk n=>aF k (jK [g,j] cT #[.agg #[.i d,.i e,.i f]] n λl p=>R (.returned (.bool l)) p) (R (.returned (.bool false)) n))):Calls Tryz.prog o7 #[.agg #[.i a,.i b,.i c],.agg #[.i d,.i e,.i f]] w R:=aO X [] h
end term_alike
namespace term_result
noncomputable abbrev X:Fx:=⟨Tryz.prog,Tryz.f112,[],[3,6]⟩
theorem cV (b c d:Int) (e a:Bool) (w:World) (R:aD) (h:bE [] w λf l=>
 bE [f] l λg j=>
 aF (!e) (loc [f,g] j λm=>R (.returned (.tuple #[.agg #[.i b,.i c,.i d],.i 9])) m) (aF (!a) (loc [f,g] j λn=>R (.returned (.tuple #[.agg #[.i b,.i c,.i d],.i 5])) n) (loc [f,g] j λk=>R (.returned (.tuple #[.agg #[.i b,.i c,.i d],.i 0])) k))):Calls Tryz.prog aV #[.agg #[.i b,.i c,.i d],.bool e,.bool a] w R:=aO X [] h
end term_result
namespace term_sortOfVar
noncomputable abbrev X:Fx:=⟨Tryz.prog,Tryz.f81,[(7,ls [0,1,2,3,4,5,6,7,8])],[]⟩
abbrev P0:Ps:=[(0,.v [.r]),(4,.v [.r])]
abbrev S0 (k g:Addr) (w:World) (R:aD):Prop:=
 dK w (k.add 6) λa b c=>Hc w g (.i a) (.i b) (.i c) λj=>dK j g λd e f=>R (.returned (.tuple #[.agg #[.i d,.i e,.i f],.i 0])) j
noncomputable def eV:=bK X [] (bH [4]) P0 S0
theorem ok (e:Addr) (a:Fv) (w:World) (R:aD) (h:fJ w (.cells #[.i 0,.i 0,.i 0] aR) λw1=>
 ∃ak:ByteArray,w1.cell? (e.add 5)=some (.string ak)/\
 zY qv #[.string ak] w1 λao w2=>aF (!ao) (dK w2 (e.add 6) λo p q=>Hc w2 (nb w) (.i o) (.i p) (.i q) λw5=>dK w5 (nb w) λb c d=>R (.returned (.tuple #[.agg #[.i b,.i c,.i d],.i 6])) w5) (dK w2 (e.add 6) λr s t=>BW kR #[.agg #[.i r,.i s,.i t]] w2 λal w6=>aF (al !=0) (dK w6 (e.add 6) λu x y=>Hc w6 (nb w) (.i u) (.i x) (.i y) λw9=>dK w9 (nb w) λb c d=>R (.returned (.tuple #[.agg #[.i b,.i c,.i d],.i al])) w9) (∃am:ByteArray,w6.cell? (e.add 5)=some (.string am)/\
 hG (fC Tryz.prog a.n) (Calls Tryz.prog a.n (a.bs++#[.string am]++a.cs) w6 λr_ m=>∃f:Int,∃g:Int,∃j:Int,∃l:Bool,r_=.returned (.tuple #[.agg #[.i f,.i g,.i j],.bool l])/\
 fJ m (.cells #[.i 0,.i 0,.i 0] aR) λaq=>
 Hc aq (nb m) (.i f) (.i g) (.i j) λar=>uU ar λk=>aF l (dK k (nb m) λz aa ab=>dK k (e.add 6) λac ad ae=>aF (!((z==ac)&&((aa==ad)&&((ab==ae)&&true)))) (dK k (e.add 6) λaf ag ah=>Hc k (nb w) (.i af) (.i ag) (.i ah) λan=>dK an (nb w) λb c d=>R (.returned (.tuple #[.agg #[.i b,.i c,.i d],.i 8])) an) (S0 e (nb w) k R)) (S0 e (nb w) k R))))):Calls Tryz.prog nU #[.pointer (some e),a.v] w R:=aO X [eV] h
end term_sortOfVar
namespace term_sortOfLeaf
noncomputable abbrev X:Fx:=⟨Tryz.prog,Tryz.f82,[(14,ls [0,1,2,3,4,5,6,7,8,9,10,11,12,13,14,15,16,17,18])],[2]⟩
abbrev P0:Ps:=[(0,.v [.r]),(2,.l [.I,.I,.I] aR)]
abbrev dV (d:Addr) (e:Nat) (f g j:Int) (w:World) (R:aD):Prop:=
 dK w (d.add 6) λa b c=>loc [e] w λk=>R (.returned (.tuple #[.agg #[.i a,.i b,.i c],.i 0])) k
noncomputable def eV:=bK X [] (bH [6]) P0 dV
theorem cV (a:Addr) (w:World) (R:aD) (h:bE [] w λb e=>
 ∃t8:Int,e.cell? (a.add 0)=some (.i t8)/\
 aF (t8==2) (∃am:ByteArray,e.cell? (a.add 5)=some (.string am)/\
 aF (decide (((am.size:Nat):Int)>64)) (dK e (a.add 6) λj k l=>loc [b] e λw4=>R (.returned (.tuple #[.agg #[.i j,.i k,.i l],.i 5])) w4) (∃an:ByteArray,e.cell? (a.add 5)=some (.string an)/\
 gM [b] lD #[.i ((an.size:Nat):Int)] e λm n o w5=>loc [b] w5 λw8=>R (.returned (.tuple #[.agg #[.i m,.i n,.i o],.i 0])) w8)) (dK e (a.add 6) λp q r=>mW [b] kR #[.agg #[.i p,.i q,.i r]] e λao d=>aF (ao !=0) (dK d (a.add 6) λs t v=>loc [b] d λax=>R (.returned (.tuple #[.agg #[.i s,.i t,.i v],.i ao])) ax) (∃ap:Int,d.cell? (a.add 0)=some (.i ap)/\
 aF (ap==3) (dK d (a.add 6) λx y z=>jK [b] lB #[.agg #[.i x,.i y,.i z]] d λav f=>aF (!av) (dK f (a.add 6) λaa ab ac=>loc [b] f λay=>R (.returned (.tuple #[.agg #[.i aa,.i ab,.i ac],.i 9])) ay) (dK f (a.add 6) λad ae af=>loc [b] f λaz=>R (.returned (.tuple #[.agg #[.i ad,.i ae,.i af],.i 0])) az)) (∃aq:Int,d.cell? ((a.add 6).add 0)=some (.i aq)/\
 aF (aq !=0) (dK d (a.add 6) λag ah ai=>loc [b] d λbb=>R (.returned (.tuple #[.agg #[.i ag,.i ah,.i ai],.i 9])) bb) (loc [b] d λc=>∃ar:Int,c.cell? ((a.add 6).add 1)=some (.i ar)/\
 aF (decide (ar<64)) (∃au:Int,c.cell? (a.add 4)=some (.u au)/\
 ∃g:Int,c.cell? ((a.add 6).add 1)=some (.i g)/\
 ¬g<0/\aF ((Int.fdiv au (2^(min (Int.toNat g) (IntKind.bits .u64)))) !=0) (dK c (a.add 6) λaj ak al=>loc [b] c λbc=>R (.returned (.tuple #[.agg #[.i aj,.i ak,.i al],.i 5])) bc) (dV a b 0 0 0 c R)) (dV a b 0 0 0 c R)))))):Calls Tryz.prog nC #[.pointer (some a)] w R:=aO X [eV] h
end term_sortOfLeaf
namespace term_sortOfBits
noncomputable abbrev X:Fx:=⟨Tryz.prog,Tryz.f83,[(4,ls [0,1,2,3,4,5,6,7]),(7,ls [1,0,2,3,4,5,6,7,8,9,10,11,12]),(9,ls [1,2,0,3,4,5,6,7,8]),(14,ls [0,1,2,3,4,5,6,7,8,9,10,11,12,13]),(16,ls [0,1,2,3,4,6,12,13,14,15,16,17,5,7,8,9,10,11,18,19,20,21,22]),(18,ls [0,1,2,3,4,5,6,7,8,9,11,13,14,15,16,17,10,12,18,19,20,21,22,23,24,25,26,27,28,29,30,31,32,33,34,35,36,37,38,39,40,41,42]),(21,ls [0,1,2,3,4,5,6,8,10,11,12,13,14,7,9,15,16,17,18,19,20,21,22,23,24,25,26,27,28,29]),(22,ls [0,1,2,3,4,5,6,7,8,9,10,11,12])],[5,6,7,8,10]⟩
abbrev P0:Ps:=[(5,.l [.I,.I,.I] aR),(8,.l [.I,.I,.I] aR)]
abbrev dV (k:Nat) (d e f:Int) (j:Nat) (m n o:Int) (w:World) (R:aD):Prop:=
 loc [k,j] w λp=>jK [k,j] iZ #[.agg #[.i d,.i e,.i f]] p λl q=>gU [k,j] aV #[.agg #[.i d,.i e,.i f],.bool l,.bool true] q λa b c g r=>loc [k,j] r λs=>R (.returned (.tuple #[.agg #[.i a,.i b,.i c],.i g])) s
noncomputable def eV:=bK X [] (bH [0,1,1,1,1,1,1]) P0 dV
abbrev P1:Ps:=[(5,.l [.I,.I,.I] aR),(6,.l [.I,.I,.I] aR),(8,.l [.I,.I,.I] aR)]
abbrev eY (f:Nat) (p q r:Int) (g:Nat) (t u v:Int) (e:Nat) (aa ab ac:Int) (w:World) (R:aD):Prop:=
 loc [f,g,e] w λw1=>gM [f,g,e] fA #[.i 1] w1 λj k l w2=>jK [f,g,e] iZ #[.agg #[.i p,.i q,.i r]] w2 λx z=>aF x (gU [f,g,e] aV #[.agg #[.i j,.i k,.i l],.bool ((p==t)&&((q==u)&&((r==v)&&true))),.bool true] z λm n o s w4=>loc [f,g,e] w4 λw7=>R (.returned (.tuple #[.agg #[.i m,.i n,.i o],.i s])) w7) (gU [f,g,e] aV #[.agg #[.i j,.i k,.i l],.bool false,.bool true] z λa b c d w8=>loc [f,g,e] w8 λy=>R (.returned (.tuple #[.agg #[.i a,.i b,.i c],.i d])) y)
noncomputable def fL:=bK X [eV] (bH [0,1,3,1,1,1,1]) P1 eY
abbrev P2:Ps:=[(5,.l [.I,.I,.I] aR),(6,.l [.I,.I,.I] aR),(7,.l [.I,.I,.I] aR),(8,.l [.I,.I,.I] aR),(10,.l [.I,.I,.I] aR)]
abbrev ox (g:Nat) (v x y:Int) (j:Nat) (z aa ab:Int) (k:Nat) (ac ad ae:Int) (f:Nat) (ai aj ak:Int) (a:Nat) (l m n:Int) (w:World) (R:aD):Prop:=
 loc [g,j,k,f,a] w λw1=>gM [g,j,k,f,a] fA #[.i 1] w1 λr s t w2=>aF ((v==r)&&((x==s)&&((y==t)&&true))) (jK [g,j,k,f,a] o7 #[.agg #[.i z,.i aa,.i ab],.agg #[.i ac,.i ad,.i ae]] w2 λaf w3=>gU [g,j,k,f,a] aV #[.agg #[.i l,.i m,.i n],.bool af,.bool true] w3 λo p q u w4=>loc [g,j,k,f,a] w4 λw7=>R (.returned (.tuple #[.agg #[.i o,.i p,.i q],.i u])) w7) (gU [g,j,k,f,a] aV #[.agg #[.i l,.i m,.i n],.bool false,.bool true] w2 λb c d e w8=>loc [g,j,k,f,a] w8 λag=>R (.returned (.tuple #[.agg #[.i b,.i c,.i d],.i e])) ag)
noncomputable def kK:=bK X [fL,eV] (bH [2,1,7,1,1,1,1]) P2 ox
abbrev P3:Ps:=[(0,.v [.r]),(5,.l [.I,.I,.I] aR),(8,.l [.I,.I,.I] aR)]
abbrev FG (q:Addr) (o:Nat) (y p z:Int) (n:Nat) (ac ad ae:Int) (w:World) (R:aD):Prop:=
 loc [o,n] w λx=>∃r:Int,x.cell? (q.add 2)=some (.i r)/\
 ∃d:Int,x.cell? (q.add 2)=some (.i d)/\
 gM [o,n] fA #[.i (IntKind.wrap .i64 (p+r))] x λe f g w2=>w2.cell? (q.add 2)=some (.i d)/\jK [o,n] iZ #[.agg #[.i y,.i p,.i z]] w2 λs v=>v.cell? (q.add 2)=some (.i d)/\aF (decide (1<=d)) (∃t:Int,v.cell? (q.add 2)=some (.i t)/\
 gU [o,n] aV #[.agg #[.i e,.i f,.i g],.bool s,.bool (decide (t<=(IntKind.wrap .i64 (64 - p))))] v λk l m u w4=>loc [o,n] w4 λw7=>R (.returned (.tuple #[.agg #[.i k,.i l,.i m],.i u])) w7) (gU [o,n] aV #[.agg #[.i e,.i f,.i g],.bool s,.bool false] v λa b c j w8=>loc [o,n] w8 λaa=>R (.returned (.tuple #[.agg #[.i a,.i b,.i c],.i j])) aa)
noncomputable def vQ:=bK X [kK,fL,eV] (bH [0,1,13,1,1,1,1]) P3 FG
abbrev uz (n:Nat) (d e f:Int) (o:Nat) (r s t:Int) (m:Nat) (x y z:Int) (w:World) (R:aD):Prop:=
 loc [n,o,m] w λw1=>jK [n,o,m] iZ #[.agg #[.i d,.i e,.i f]] w1 λq v=>aF q (gU [n,o,m] aV #[.agg #[.i d,.i e,.i f],.bool ((d==r)&&((e==s)&&((f==t)&&true))),.bool true] v λj k l p w3=>loc [n,o,m] w3 λw6=>R (.returned (.tuple #[.agg #[.i j,.i k,.i l],.i p])) w6) (gU [n,o,m] aV #[.agg #[.i d,.i e,.i f],.bool false,.bool true] v λa b c g w7=>loc [n,o,m] w7 λu=>R (.returned (.tuple #[.agg #[.i a,.i b,.i c],.i g])) u)
noncomputable def qz:=bK X [vQ,kK,fL,eV] (bH [2]) P1 uz
abbrev P4:Ps:=[(0,.v [.r]),(5,.l [.I,.I,.I] aR),(6,.l [.I,.I,.I] aR),(7,.l [.I,.I,.I] aR),(8,.l [.I,.I,.I] aR),(14,.v [.I])]
abbrev gO (x:Addr) (b:Nat) (g f j:Int) (c:Nat) (k d l:Int) (e:Nat) (ai p aj:Int) (a:Nat) (m n o u:Int) (w:World) (R:aD):Prop:=
 aF (u==18) (loc [b,c,e,a] w λw1=>gM [b,c,e,a] fA #[.i 1] w1 λbk bm bn w2=>jK [b,c,e,a] o7 #[.agg #[.i g,.i f,.i j],.agg #[.i k,.i d,.i l]] w2 λbx w3=>gU [b,c,e,a] aV #[.agg #[.i bk,.i bm,.i bn],.bool bx,.bool true] w3 λax ay az bo w4=>loc [b,c,e,a] w4 λw7=>R (.returned (.tuple #[.agg #[.i ax,.i ay,.i az],.i bo])) w7) (aF (u==19) (bE [b,c,e,a] w λq w8=>
 loc [b,c,e,a,q] w8 λcd=>jK [b,c,e,a,q] cT #[.agg #[.i k,.i d,.i l]] cd λbz bt=>aF bz (jK [b,c,e,a,q] cT #[.agg #[.i ai,.i p,.i aj]] bt λca bu=>aF ca (gM [b,c,e,a,q] lD #[.i (if d<p then p else d)] bu λbp bq br ce=>loc [b,c,e,a,q] ce λcf=>ox b g f j c k d l e ai p aj a m n o q bp bq br cf R) (ox b g f j c k d l e ai p aj a m n o q k d l bu R)) (ox b g f j c k d l e ai p aj a m n o q k d l bt R)) (aF (u==20) (loc [b,c,e,a] w λcg=>gM [b,c,e,a] fA #[.i (IntKind.wrap .i64 (f+d))] cg λar au av ch=>jK [b,c,e,a] iZ #[.agg #[.i g,.i f,.i j]] ch λcb bv=>aF cb (jK [b,c,e,a] iZ #[.agg #[.i k,.i d,.i l]] bv λcc ci=>gU [b,c,e,a] aV #[.agg #[.i ar,.i au,.i av],.bool cc,.bool (decide ((IntKind.wrap .i64 (f+d))<=64))] ci λbb bc bd bs cj=>loc [b,c,e,a] cj λck=>R (.returned (.tuple #[.agg #[.i bb,.i bc,.i bd],.i bs])) ck) (gU [b,c,e,a] aV #[.agg #[.i ar,.i au,.i av],.bool false,.bool (decide ((IntKind.wrap .i64 (f+d))<=64))] bv λaf ag ah aq cl=>loc [b,c,e,a] cl λcm=>R (.returned (.tuple #[.agg #[.i af,.i ag,.i ah],.i aq])) cm)) (aF (u==21) (loc [b,c,e,a] w λaw=>∃be:Int,aw.cell? (x.add 2)=some (.i be)/\
 ∃bf:Int,aw.cell? (x.add 3)=some (.i bf)/\
 ∃ae:Int,aw.cell? (x.add 3)=some (.i ae)/\
 gM [b,c,e,a] fA #[.i (IntKind.wrap .i64 ((IntKind.wrap .i64 (be - bf))+1))] aw λr s t bw=>bw.cell? (x.add 3)=some (.i ae)/\jK [b,c,e,a] iZ #[.agg #[.i g,.i f,.i j]] bw λam v=>v.cell? (x.add 3)=some (.i ae)/\aF (decide (0<=ae)) (∃bg:Int,v.cell? (x.add 3)=some (.i bg)/\
 ∃bh:Int,v.cell? (x.add 2)=some (.i bh)/\
 aF (decide (bg<=bh)) (∃bi:Int,v.cell? (x.add 2)=some (.i bi)/\
 gU [b,c,e,a] aV #[.agg #[.i r,.i s,.i t],.bool am,.bool (decide (bi<f))] v λan ao ap bj cn=>loc [b,c,e,a] cn λco=>R (.returned (.tuple #[.agg #[.i an,.i ao,.i ap],.i bj])) co) (gU [b,c,e,a] aV #[.agg #[.i r,.i s,.i t],.bool am,.bool false] v λy z aa ak cp=>loc [b,c,e,a] cp λcq=>R (.returned (.tuple #[.agg #[.i y,.i z,.i aa],.i ak])) cq)) (gU [b,c,e,a] aV #[.agg #[.i r,.i s,.i t],.bool am,.bool false] v λab ac ad al cr=>loc [b,c,e,a] cr λcs=>R (.returned (.tuple #[.agg #[.i ab,.i ac,.i ad],.i al])) cs)) (aF (u==22) (aF (u==22) (FG x b g f j a m n o w R) (uz b g f j c k d l a m n o w R)) (aF (u==23) (FG x b g f j a m n o w R) (uz b g f j c k d l a m n o w R))))))
noncomputable def hC:=bK X [qz,vQ,kK,fL,eV] (bH [4,1,1,1,1]) P4 gO
abbrev fY (r:Addr) (p:Nat) (d e f:Int) (q:Nat) (g i j:Int) (s:Nat) (l m n:Int) (o:Nat) (a b c k:Int) (w:World) (R:aD):Prop:=
 aF (k==16) (aF (k==16) (eY p d e f q g i j o a b c w R) (gO r p d e f q g i j s l m n o a b c k w R)) (aF (k==17) (eY p d e f q g i j o a b c w R) (gO r p d e f q g i j s l m n o a b c k w R))
noncomputable def gn:=bK X [hC,qz,vQ,kK,fL,eV] (bH [2,1,1,1,1]) P4 fY
theorem cV (q:Addr) (a b c f g j k l m:Int) (w:World) (R:aD) (h:bE [] w λe s=>
 bE [e] s λo t=>
 bE [e,o] t λr u=>
 bE [e,o,r] u λp n=>
 ∃d:Int,n.cell? (q.add 0)=some (.i d)/\
 aF (d==4) (aF (d==4) (dV e a b c p 0 0 0 n R) (fY q e a b c o f g j r k l m p 0 0 0 d n R)) (aF (d==5) (dV e a b c p 0 0 0 n R) (fY q e a b c o f g j r k l m p 0 0 0 d n R))):Calls Tryz.prog nB #[.pointer (some q),.agg #[.i a,.i b,.i c],.agg #[.i f,.i g,.i j],.agg #[.i k,.i l,.i m]] w R:=aO X [gn,hC,qz,vQ,kK,fL,eV] h
end term_sortOfBits
namespace term_sortOfArrays
noncomputable abbrev X:Fx:=⟨Tryz.prog,Tryz.f84,[(2,ls [0,1,3,2,4,5,6,7,8,9,10,11,12,13,14]),(6,ls [0,1,2,3,4,5,6,7,8,9]),(10,ls [0,1,2,3,4,5,6,7,8,9,10,11,12,13,14,15,16,17]),(11,ls [0,1,2,3,4,5,6,7,8,9,10,11])],[5,6,7,8,10]⟩
abbrev P0:Ps:=[(0,.v [.r]),(5,.l [.I,.I,.I] aR),(7,.l [.I,.I,.I] aR),(8,.l [.I,.I,.I] aR),(10,.l [.I,.I,.I] aR),(11,.v [.b])]
abbrev fY (n0:Addr) (c:Nat) (j k m:Int) (d:Nat) (al aa am:Int) (b:Nat) (bh bi bj:Int) (a:Nat) (e f g:Int) (l:Bool) (w:World) (R:aD):Prop:=
 ∃aq:Int,w.cell? (n0.add 0)=some (.i aq)/\
 aF (aq==24) (gU [c,d,b,a] aV #[.agg #[.i e,.i f,.i g],.bool l,.bool true] w λab ac ad an w1=>loc [c,d,b,a] w1 λw4=>R (.returned (.tuple #[.agg #[.i ab,.i ac,.i ad],.i an])) w4) (aF (j==3) (aF l (loc [c,d,b,a] w λw5=>jK [c,d,b,a] cT #[.agg #[.i al,.i aa,.i am]] w5 λau w6=>aF au (gU [c,d,b,a] aV #[.agg #[.i j,.i k,.i m],.bool (decide (aa<=k)),.bool true] w6 λae af ag ao w7=>loc [c,d,b,a] w7 λav=>R (.returned (.tuple #[.agg #[.i ae,.i af,.i ag],.i ao])) av) (gU [c,d,b,a] aV #[.agg #[.i j,.i k,.i m],.bool false,.bool true] w6 λn o p x aw=>loc [c,d,b,a] aw λax=>R (.returned (.tuple #[.agg #[.i n,.i o,.i p],.i x])) ax)) (loc [c,d,b,a] w λw5=>gU [c,d,b,a] aV #[.agg #[.i j,.i k,.i m],.bool false,.bool true] w5 λq r s y ay=>loc [c,d,b,a] ay λaz=>R (.returned (.tuple #[.agg #[.i q,.i r,.i s],.i y])) az)) (aF l (loc [c,d,b,a] w λak=>gU [c,d,b,a] aV #[.agg #[.i j,.i k,.i m],.bool ((al==e)&&((aa==f)&&((am==g)&&true))),.bool true] ak λah ai aj ap bb=>loc [c,d,b,a] bb λbc=>R (.returned (.tuple #[.agg #[.i ah,.i ai,.i aj],.i ap])) bc) (loc [c,d,b,a] w λak=>gU [c,d,b,a] aV #[.agg #[.i j,.i k,.i m],.bool false,.bool true] ak λt u v z bd=>loc [c,d,b,a] bd λbe=>R (.returned (.tuple #[.agg #[.i t,.i u,.i v],.i z])) be)))
noncomputable def gn:=bK X [] (bH [5]) P0 fY
abbrev P1:Ps:=[(0,.v [.r]),(5,.l [.I,.I,.I] aR),(6,.l [.I,.I,.I] aR),(7,.l [.I,.I,.I] aR),(8,.l [.I,.I,.I] aR),(10,.l [.I,.I,.I] aR)]
abbrev dV (n0:Addr) (n:Nat) (f g e:Int) (v:Nat) (x y z:Int) (o:Nat) (p q r:Int) (j:Nat) (k l m:Int) (a:Nat) (b c d:Int) (w:World) (R:aD):Prop:=
 loc [n,v,o,j,a] w λw1=>jK [n,v,o,j,a] lB #[.agg #[.i f,.i g,.i e]] w1 λab w2=>aF ab (gM [n,v,o,j,a] fA #[.i e] w2 λs t u w3=>fY n0 n f g e o p q r j k l m a b c d ((x==s)&&((y==t)&&((z==u)&&true))) w3 R) (fY n0 n f g e o p q r j k l m a b c d false w2 R)
noncomputable def eV:=bK X [gn] (bH [4]) P1 dV
theorem cV (n0:Addr) (f e g n o p r s t:Int) (w:World) (R:aD) (h:bE [] w λa w1=>
 bE [a] w1 λb w2=>
 bE [a,b] w2 λc w3=>
 bE [a,b,c] w3 λd w4=>
 ∃ak:Int,w4.cell? (n0.add 0)=some (.i ak)/\
 aF (ak==26) (loc [a,b,c,d] w4 λw5=>gM [a,b,c,d] fA #[.i g] w5 λu v x w6=>jK [a,b,c,d] lB #[.agg #[.i f,.i e,.i g]] w6 λan w7=>aF an (gU [a,b,c,d] aV #[.agg #[.i u,.i v,.i x],.bool ((f==n)&&((e==o)&&((g==p)&&true))),.bool true] w7 λy z aa ad w8=>loc [a,b,c,d] w8 λao=>R (.returned (.tuple #[.agg #[.i y,.i z,.i aa],.i ad])) ao) (gU [a,b,c,d] aV #[.agg #[.i u,.i v,.i x],.bool false,.bool true] w7 λk l m q ap=>loc [a,b,c,d] ap λaq=>R (.returned (.tuple #[.agg #[.i k,.i l,.i m],.i q])) aq)) (gM [a,b,c,d] fA #[.i e] w4 λae af ag ar=>bE [a,b,c,d] ar λj al=>
 aF (f==3) (loc [a,b,c,d,j] al λab=>gM [a,b,c,d,j] lD #[.i e] ab λah ai aj au=>loc [a,b,c,d,j] au λav=>dV n0 a f e g b n o p c r s t d 0 0 0 j ah ai aj av R) (loc [a,b,c,d,j] al λab=>dV n0 a f e g b n o p c r s t d 0 0 0 j ae af ag ab R))):Calls Tryz.prog lZ #[.pointer (some n0),.agg #[.i f,.i e,.i g],.agg #[.i n,.i o,.i p],.agg #[.i r,.i s,.i t]] w R:=aO X [eV,gn] h
end term_sortOfArrays
namespace term_sortOfStrings
noncomputable abbrev X:Fx:=⟨Tryz.prog,Tryz.f85,[(3,ls [1,0,2,3,4,5,6,7]),(5,ls [1,3,4,5,6,7,0,2,8,9,10,11,12,13,14,15,16,17,18,19]),(7,ls [0,1,2,3,4,6,12,13,14,15,16,17,5,7,8,9,10,11,18,19,20,21,22]),(9,ls [0,1,2,3,4,5,6,7,8,9,10,11,12,13,14,15,16,17]),(11,ls [1,0,2,3,4,5,6,7,8,9,10,11]),(13,ls [0,1,2,3,4,6,16,17,18,19,20,21,5,7,8,9,10,11,12,13,14,15,22,23,24,25,26]),(15,ls [1,0,2,3,4,5,6,7,8])],[5,6,7,8]⟩
theorem cV (n0:Addr) (f e g p j q bf k bg:Int) (w:World) (R:aD) (h:bE [] w λa w1=>
 bE [a] w1 λb w2=>
 bE [a,b] w2 λc w3=>
 bE [a,b,c] w3 λd w4=>
 ∃l:Int,w4.cell? (n0.add 0)=some (.i l)/\
 aF (l==27) (loc [a,b,c,d] w4 λw5=>gM [a,b,c,d] fA #[.i 7] w5 λcw cx cy w6=>jK [a,b,c,d] cT #[.agg #[.i f,.i e,.i g]] w6 λeb w7=>gU [a,b,c,d] aV #[.agg #[.i cw,.i cx,.i cy],.bool eb,.bool true] w7 λbt bu bv cz w8=>loc [a,b,c,d] w8 λeh=>R (.returned (.tuple #[.agg #[.i bt,.i bu,.i bv],.i cz])) eh) (aF (l==28) (loc [a,b,c,d] w4 λdm=>∃bk:Int,dm.cell? (n0.add 2)=some (.i bk)/\
 gM [a,b,c,d] fA #[.i 8] dm λbh bi bj dn=>dn.cell? (n0.add 2)=some (.i bk)/\jK [a,b,c,d] cT #[.agg #[.i f,.i e,.i g]] dn λdk bs=>bs.cell? (n0.add 2)=some (.i bk)/\aF (decide (0<=bk)) (∃dl:Int,bs.cell? (n0.add 2)=some (.i dl)/\
 gU [a,b,c,d] aV #[.agg #[.i bh,.i bi,.i bj],.bool dk,.bool (decide (dl<64))] bs λbw bx bz da ei=>loc [a,b,c,d] ei λej=>R (.returned (.tuple #[.agg #[.i bw,.i bx,.i bz],.i da])) ej) (gU [a,b,c,d] aV #[.agg #[.i bh,.i bi,.i bj],.bool dk,.bool false] bs λy z aa az ek=>loc [a,b,c,d] ek λel=>R (.returned (.tuple #[.agg #[.i y,.i z,.i aa],.i az])) el)) (aF (l==29) (loc [a,b,c,d] w4 λem=>gM [a,b,c,d] lD #[.i (IntKind.wrap .i64 (e+j))] em λbm bn bo en=>jK [a,b,c,d] cT #[.agg #[.i f,.i e,.i g]] en λec dp=>aF ec (jK [a,b,c,d] cT #[.agg #[.i p,.i j,.i q]] dp λed eo=>gU [a,b,c,d] aV #[.agg #[.i bm,.i bn,.i bo],.bool ed,.bool (decide ((IntKind.wrap .i64 (e+j))<=64))] eo λca cb cc db ep=>loc [a,b,c,d] ep λeq=>R (.returned (.tuple #[.agg #[.i ca,.i cb,.i cc],.i db])) eq) (gU [a,b,c,d] aV #[.agg #[.i bm,.i bn,.i bo],.bool false,.bool (decide ((IntKind.wrap .i64 (e+j))<=64))] dp λab ac ad bb er=>loc [a,b,c,d] er λes=>R (.returned (.tuple #[.agg #[.i ab,.i ac,.i ad],.i bb])) es)) (aF (l==30) (loc [a,b,c,d] w4 λet=>jK [a,b,c,d] cT #[.agg #[.i f,.i e,.i g]] et λee dq=>aF ee (gM [a,b,c,d] fA #[.i 7] dq λdc dd de dr=>aF ((p==dc)&&((j==dd)&&((q==de)&&true))) (gM [a,b,c,d] fA #[.i 7] dr λdf dg dh eu=>gU [a,b,c,d] aV #[.agg #[.i f,.i e,.i g],.bool ((bf==df)&&((k==dg)&&((bg==dh)&&true))),.bool true] eu λcd ce cf di ev=>loc [a,b,c,d] ev λew=>R (.returned (.tuple #[.agg #[.i cd,.i ce,.i cf],.i di])) ew) (gU [a,b,c,d] aV #[.agg #[.i f,.i e,.i g],.bool false,.bool true] dr λae af ag bc ex=>loc [a,b,c,d] ex λey=>R (.returned (.tuple #[.agg #[.i ae,.i af,.i ag],.i bc])) ey)) (gU [a,b,c,d] aV #[.agg #[.i f,.i e,.i g],.bool false,.bool true] dq λah ai aj bd ez=>loc [a,b,c,d] ez λfa=>R (.returned (.tuple #[.agg #[.i ah,.i ai,.i aj],.i bd])) fa)) (aF (l==31) (loc [a,b,c,d] w4 λfb=>gM [a,b,c,d] fA #[.i 7] fb λbp bq br fc=>jK [a,b,c,d] cT #[.agg #[.i f,.i e,.i g]] fc λef ds=>aF ef (jK [a,b,c,d] cT #[.agg #[.i p,.i j,.i q]] ds λeg fd=>gU [a,b,c,d] aV #[.agg #[.i bp,.i bq,.i br],.bool eg,.bool true] fd λcg ch ci dj fe=>loc [a,b,c,d] fe λff=>R (.returned (.tuple #[.agg #[.i cg,.i ch,.i ci],.i dj])) ff) (gU [a,b,c,d] aV #[.agg #[.i bp,.i bq,.i br],.bool false,.bool true] ds λak al am be fg=>loc [a,b,c,d] fg λfh=>R (.returned (.tuple #[.agg #[.i ak,.i al,.i am],.i be])) fh)) (aF (l==32) (loc [a,b,c,d] w4 λfi=>gM [a,b,c,d] lD #[.i (IntKind.wrap .i64 (e+k))] fi λm n o fj=>jK [a,b,c,d] cT #[.agg #[.i f,.i e,.i g]] fj λdw dt=>aF dw (jK [a,b,c,d] cT #[.agg #[.i p,.i j,.i q]] dt λdx du=>aF dx (jK [a,b,c,d] cT #[.agg #[.i bf,.i k,.i bg]] du λdy fk=>gU [a,b,c,d] aV #[.agg #[.i m,.i n,.i o],.bool dy,.bool (decide ((IntKind.wrap .i64 (e+k))<=64))] fk λar au av cj fl=>loc [a,b,c,d] fl λfm=>R (.returned (.tuple #[.agg #[.i ar,.i au,.i av],.i cj])) fm) (gU [a,b,c,d] aV #[.agg #[.i m,.i n,.i o],.bool false,.bool (decide ((IntKind.wrap .i64 (e+k))<=64))] du λr s t ao fn=>loc [a,b,c,d] fn λfo=>R (.returned (.tuple #[.agg #[.i r,.i s,.i t],.i ao])) fo)) (gU [a,b,c,d] aV #[.agg #[.i m,.i n,.i o],.bool false,.bool (decide ((IntKind.wrap .i64 (e+k))<=64))] dt λu v x ap fp=>loc [a,b,c,d] fp λfq=>R (.returned (.tuple #[.agg #[.i u,.i v,.i x],.i ap])) fq)) (aF (l==34) (loc [a,b,c,d] w4 λfr=>gM [a,b,c,d] lD #[.i 1] fr λck cl cm fs=>gM [a,b,c,d] fA #[.i 8] fs λcn co cp ft=>gU [a,b,c,d] aV #[.agg #[.i ck,.i cl,.i cm],.bool ((f==cn)&&((e==co)&&((g==cp)&&true))),.bool true] ft λaw ax ay cq fu=>loc [a,b,c,d] fu λfv=>R (.returned (.tuple #[.agg #[.i aw,.i ax,.i ay],.i cq])) fv) (jK [a,b,c,d] cT #[.agg #[.i f,.i e,.i g]] w4 λdz cv=>aF (!dz) (loc [a,b,c,d] cv λfw=>R (.returned (.tuple #[.agg #[.i f,.i e,.i g],.i 9])) fw) (∃cr:ByteArray,cv.cell? (n0.add 5)=some (.string cr)/\
 jK [a,b,c,d] mz #[.string cr] cv λea dv=>aF (!ea) (loc [a,b,c,d] dv λfx=>R (.returned (.tuple #[.agg #[.i f,.i e,.i g],.i 2])) fx) (gM [a,b,c,d] fA #[.i 1] dv λcs ct cu fy=>loc [a,b,c,d] fy λfz=>R (.returned (.tuple #[.agg #[.i cs,.i ct,.i cu],.i 0])) fz)))))))))):Calls Tryz.prog lC #[.pointer (some n0),.agg #[.i f,.i e,.i g],.agg #[.i p,.i j,.i q],.agg #[.i bf,.i k,.i bg]] w R:=aO X [] h
end term_sortOfStrings
namespace term_sortOf
noncomputable abbrev X:Fx:=⟨Tryz.prog,Tryz.f42,[(1,ls [0,1,2,3,4,5,6,7,8,9,10,11,12,13,14,15,16,17])],[6,11]⟩
abbrev P0:Ps:=[(6,.l [.I,.I,.I] aR)]
abbrev dV (a:Nat) (b c d:Int) (w:World) (R:aD):Prop:=
 loc [a] w λe=>R (.returned (.tuple #[.agg #[.i 0,.i 0,.i 0],.i 1])) e
noncomputable def eV:=bK X [] (bH [0,1,1,1,1]) P0 dV
abbrev P1:Ps:=[(0,.v [.s]),(2,.v [.f]),(4,.v [.r]),(6,.l [.I,.I,.I] aR),(8,.v [.r]),(34,.v [.I]),(35,.v [.I])]
def l4 (b:Sl) (a:Fv) (j:Addr) (k:Nat) (d e f:Int) (c:Addr) (g i:Int) (w:World) (R:aD):Prop:=cJ P1 0 (X.Sem (bH [0,1,1,1,3])) b a j k d e f c g i w R
noncomputable def kX:=fZ X (bH [0,1,1,1,3]) P1 l4
abbrev eY (a:Nat) (b c d:Int) (w:World) (R:aD):Prop:=
 loc [a] w λe=>R (.returned (.tuple #[.agg #[.i 0,.i 0,.i 0],.i 1])) e
noncomputable def fL:=bK X [kX,eV] (bH [0,1,1,1,2,2,2,2,1,1,3]) P0 eY
abbrev P2:Ps:=[(6,.l [.I,.I,.I] aR),(11,.l [.I,.I,.I] aR),(12,.v [.I])]
abbrev gO (f:Nat) (g j k:Int) (e:Nat) (a b c d:Int) (w:World) (R:aD):Prop:=
 aF (d !=0) (loc [f,e] w λl=>R (.returned (.tuple #[.agg #[.i 0,.i 0,.i 0],.i d])) l) (loc [f,e] w λm=>R (.returned (.tuple #[.agg #[.i a,.i b,.i c],.i 0])) m)
noncomputable def hC:=bK X [fL,kX,eV] (bH [8]) P2 gO
theorem dJ:∀(k:Sl) (m:Fv) (o:Addr) (d:Nat) (f g j:Int) (b:Addr) (ay l:Int) (w:World) (R:aD) (h:aF (decide (l<ay)) (∃az:Sl,w.cell? (o.add 1)=some (az.v)/\
 (0:Int)<=l/\l<((az.n:Nat):Int)/\aX az.a λbb=>∃p:Int,w.cell? (bb.add (Int.toNat l *1))=some (.i p)/\
 aF (decide (p<0)) (eY d f g j w R) (aF (decide (p>=((k.n:Nat):Int))) (eY d f g j w R) ((0:Int)<=p/\p<((k.n:Nat):Int)/\aX k.a λbc=>dK w ((bc.add (Int.toNat p *9)).add 6) λbd be bf=>(0:Int)<=l/\l<((3:Nat):Int)/\bX w (b.add (Int.toNat l *3)) (.i bd) λw5=>kept [d] w w5/\
 bX w5 ((b.add (Int.toNat l *3)).add 1) (.i be) λw6=>kept [d] w5 w6/\
 bX w6 ((b.add (Int.toNat l *3)).add 2) (.i bf) λw7=>kept [d] w6 w7/\
 l4 k m o d f g j b ay (IntKind.wrap .i64 (l+1)) w7 R))) (jK [d] nT #[.pointer (some o)] w λcf w8=>aF (!cf) (loc [d] w8 λcg=>R (.returned (.tuple #[.agg #[.i 0,.i 0,.i 0],.i 1])) cg) (bE [d] w8 λe c=>
 ∃ca:Int,c.cell? (o.add 0)=some (.i ca)/\
 aF (ca==0) (gU [d,e] nU #[.pointer (some o),m.v] c λab ac ad br ch=>loc [d,e] ch λci=>gO d f g j e ab ac ad br ci R) (∃cb:Int,c.cell? (o.add 0)=some (.i cb)/\
 aF (decide (cb<=3)) (gU [d,e] nC #[.pointer (some o)] c λae af ag bs cj=>loc [d,e] cj λck=>gO d f g j e ae af ag bs ck R) (∃cc:Int,c.cell? (o.add 0)=some (.i cc)/\
 aF (decide (cc<=23)) ((0:Int)<=0/\0<((3:Nat):Int)/\dK c (b.add (Int.toNat 0 *3)) λbt bu bv=>(0:Int)<=1/\1<((3:Nat):Int)/\dK c (b.add (Int.toNat 1 *3)) λbw bx bz=>(0:Int)<=2/\2<((3:Nat):Int)/\dK c (b.add (Int.toNat 2 *3)) λah ai aj=>gU [d,e] nB #[.pointer (some o),.agg #[.i bt,.i bu,.i bv],.agg #[.i bw,.i bx,.i bz],.agg #[.i ah,.i ai,.i aj]] c λq r s ak cl=>loc [d,e] cl λcm=>gO d f g j e q r s ak cm R) (∃al:Int,c.cell? (o.add 0)=some (.i al)/\
 aF (decide (al<=26)) ((0:Int)<=0/\0<((3:Nat):Int)/\dK c (b.add (Int.toNat 0 *3)) λam an ao=>(0:Int)<=1/\1<((3:Nat):Int)/\dK c (b.add (Int.toNat 1 *3)) λap aq ar=>(0:Int)<=2/\2<((3:Nat):Int)/\dK c (b.add (Int.toNat 2 *3)) λau av aw=>gU [d,e] lZ #[.pointer (some o),.agg #[.i am,.i an,.i ao],.agg #[.i ap,.i aq,.i ar],.agg #[.i au,.i av,.i aw]] c λt u x ax cn=>loc [d,e] cn λco=>gO d f g j e t u x ax co R) ((0:Int)<=0/\0<((3:Nat):Int)/\dK c (b.add (Int.toNat 0 *3)) λbg bh bi=>(0:Int)<=1/\1<((3:Nat):Int)/\dK c (b.add (Int.toNat 1 *3)) λbj bk bm=>(0:Int)<=2/\2<((3:Nat):Int)/\dK c (b.add (Int.toNat 2 *3)) λbn bo bp=>gU [d,e] lC #[.pointer (some o),.agg #[.i bg,.i bh,.i bi],.agg #[.i bj,.i bk,.i bm],.agg #[.i bn,.i bo,.i bp]] c λy z aa bq cp=>loc [d,e] cp λcq=>gO d f g j e y z aa bq cq R))))))),l4 k m o d f g j b ay l w R:=mp (dD (X:=X) [hC,fL,kX,eV] (bH [0,1,1,1,3]) P1)
theorem cV (c:Sl) (f:Int) (g:Sl) (j k l:Int) (m:ByteArray) (o p q:Int) (b:Fv) (w:World) (R:aD) (h:fJ w (.cells #[.i f,g.v,.i j,.i k,.u l,.string m,.i o,.i p,.i q] aG) λw1=>
 bE [] w1 λe w2=>
 loc [e] w2 λa=>∃r:Int,a.cell? ((nb w).add 0)=some (.i r)/\
 aF (decide (r<0)) (dV e 0 0 0 a R) (∃s:Int,a.cell? ((nb w).add 0)=some (.i s)/\
 aF (decide (s>=35)) (dV e 0 0 0 a R) (∃t:Sl,a.cell? ((nb w).add 1)=some (t.v)/\
 ∃d:Int,a.cell? ((nb w).add 0)=some (.i d)/\
 (0:Int)<=d/\d<((35:Nat):Int)/\∃x:Int,a.cell? ((Addr.mk 0 0 none).add (Int.toNat d *1))=some (.i x)/\
 aF (((t.n:Nat):Int) !=x) (dV e 0 0 0 a R) (fJ a (.cells #[.i 0,.i 0,.i 0,.i 0,.i 0,.i 0,.i 0,.i 0,.i 0] mn) λz=>
 ∃y:Sl,z.cell? ((nb w).add 1)=some (y.v)/\
 l4 c b (nb w) e 0 0 0 (nb a) ((y.n:Nat):Int) 0 z R)))):Calls Tryz.prog n9 #[c.v,.agg #[.i f,g.v,.i j,.i k,.u l,.string m,.i o,.i p,.i q],b.v] w R:=aO X [hC,fL,kX,eV] h
end term_sortOf
namespace term_SortOf_1
noncomputable abbrev X:Fx:=⟨Tryz.prog,Tryz.f43,[],[3]⟩
abbrev P0:Ps:=[(0,.v [.st]),(1,.v [.r]),(3,.l [.I,.I,.I] aR),(8,.v [.I]),(9,.v [.I])]
def eH (a:ByteArray) (e:Addr) (f:Nat) (b c d g i:Int) (w:World) (R:aD):Prop:=cJ P0 0 (X.Sem (bH [0,1,1,1,1])) a e f b c d g i w R
noncomputable def eC:=fZ X (bH [0,1,1,1,1]) P0 eH
abbrev fY (a:ByteArray) (e:Addr) (f:Nat) (b c d g i:Int) (w:World) (R:aD):Prop:=
 eH a e f b c d g (IntKind.wrap .i64 (i+1)) w R
noncomputable def gn:=bK X [eC] (bH [3,2,1,1,1]) P0 fY
theorem bA:∀(c:ByteArray) (g:Addr) (l:Nat) (d e f u b:Int) (w:World) (R:aD) (h:aF (decide (b<u)) (∃j:Sl,w.cell? (g.add 0)=some (j.v)/\
 (0:Int)<=b/\b<((j.n:Nat):Int)/\aX j.a λo=>∃x:Int,w.cell? ((o.add (Int.toNat b *9)).add 0)=some (.i x)/\
 aF (x==0) (∃k:Sl,w.cell? (g.add 0)=some (k.v)/\
 (0:Int)<=b/\b<((k.n:Nat):Int)/\aX k.a λp=>∃y:ByteArray,w.cell? ((p.add (Int.toNat b *9)).add 5)=some (.string y)/\
 aF (y.toList==c.toList) (∃m:Sl,w.cell? (g.add 0)=some (m.v)/\
 (0:Int)<=b/\b<((m.n:Nat):Int)/\aX m.a λq=>dK w ((q.add (Int.toNat b *9)).add 6) λr s t=>loc [l] w λz=>R (.returned (.tuple #[.agg #[.i r,.i s,.i t],.bool true])) z) (fY c g l d e f u b w R)) (fY c g l d e f u b w R)) (loc [l] w λw7=>R (.returned (.tuple #[.agg #[.i 0,.i 0,.i 0],.bool false])) w7)),eH c g l d e f u b w R:=mp (dD (X:=X) [gn,eC] (bH [0,1,1,1,1]) P0)
theorem cV (a:ByteArray) (b:Addr) (w:World) (R:aD) (h:bE [] w λe d=>
 ∃c:Sl,d.cell? (b.add 0)=some (c.v)/\
 eH a b e 0 0 0 ((c.n:Nat):Int) 0 d R):Calls Tryz.prog my #[.string a,.pointer (some b)] w R:=aO X [gn,eC] h
end term_SortOf_1
namespace term_SortOf
noncomputable abbrev X:Fx:=⟨Tryz.prog,Tryz.f12,[],[3,4]⟩
theorem cV (d:Sl) (e:Int) (f:Sl) (g j k:Int) (l:ByteArray) (m n o:Int) (w:World) (R:aD) (h:fJ w (.cells #[d.v] aW) λx=>
 bE [] x λq y=>
 bE [q] y λr t=>
 ∃s:Sl,t.cell? ((nb w).add 0)=some (s.v)/\
 gU [q,r] n9 #[s.v,.agg #[.i e,f.v,.i g,.i j,.u k,.string l,.i m,.i n,.i o],.func (.func my) #[] #[.pointer (some (nb w))]] t λa b c p z=>loc [q,r] z λw7=>R (.returned (.tuple #[.agg #[.i a,.i b,.i c],.i p])) w7):Calls Tryz.prog mj #[.agg #[d.v],.agg #[.i e,f.v,.i g,.i j,.u k,.string l,.i m,.i n,.i o]] w R:=aO X [] h
end term_SortOf
namespace slices_Equal_sl_int_int
noncomputable abbrev X:Fx:=⟨Tryz.prog,Tryz.f128,[(6,ls [0,1,2,3,4,5,6,7,8])],[]⟩
abbrev P0:Ps:=[(0,.v [.s]),(1,.v [.s]),(12,.v [.I]),(13,.v [.I])]
def L0 (a b:Sl) (c d:Int) (w:World) (R:aD):Prop:=cJ P0 0 (X.Sem (bH [0,1,1,1,2])) a b c d w R
noncomputable def eC:=fZ X (bH [0,1,1,1,2]) P0 L0
theorem cF:∀(c d:Sl) (e b:Int) (w:World) (R:aD) (h:aF (decide (b<e)) (uU w λj=>(0:Int)<=b/\b<((c.n:Nat):Int)/\aX c.a λf=>∃k:Int,j.cell? (f.add (Int.toNat b *1))=some (.i k)/\
 (0:Int)<=b/\b<((d.n:Nat):Int)/\aX d.a λg=>∃l:Int,j.cell? (g.add (Int.toNat b *1))=some (.i l)/\
 aF (k !=l) (R (.returned (.bool false)) j) (L0 c d e (IntKind.wrap .i64 (b+1)) j R)) (R (.returned (.bool true)) w)),L0 c d e b w R:=mp (dD (X:=X) [eC] (bH [0,1,1,1,2]) P0)
theorem ok (a b:Sl) (w:World) (R:aD) (h:aF (((a.n:Nat):Int) !=((b.n:Nat):Int)) (R (.returned (.bool false)) w) (L0 a b ((a.n:Nat):Int) 0 w R)):Calls Tryz.prog iP #[a.v,b.v] w R:=aO X [eC] h
end slices_Equal_sl_int_int
namespace term_sameNode
noncomputable abbrev X:Fx:=⟨Tryz.prog,Tryz.f92,[(1,ls [0,1,2,3,4,5,6,7,8,9,10,11,12,13,14,15,16,17,18,19,20,21,22,23,24,25,26,27,28,29,30,31,32,33,34,35,36,37,38,39,40,41,42,43,44,45,46,47,48,49,50,51,52,53,54,55,56,57,58,59,60,61,62,63,64,65,66,67,68,69,70,71,72,73,74,75])],[]⟩
theorem ok (b c:Addr) (w:World) (R:aD) (h:uU w λa=>∃t8:Int,a.cell? (b.add 0)=some (.i t8)/\
 ∃e:Int,a.cell? (c.add 0)=some (.i e)/\
 aF (t8==e) (∃f:Int,a.cell? (b.add 2)=some (.i f)/\
 ∃g:Int,a.cell? (c.add 2)=some (.i g)/\
 aF (f==g) (∃j:Int,a.cell? (b.add 3)=some (.i j)/\
 ∃k:Int,a.cell? (c.add 3)=some (.i k)/\
 aF (j==k) (∃r:Int,a.cell? (b.add 4)=some (.u r)/\
 ∃s:Int,a.cell? (c.add 4)=some (.u s)/\
 aF (r==s) (dK a (b.add 6) λl m n=>dK a (c.add 6) λo p q=>aF ((l==o)&&((m==p)&&((n==q)&&true))) (∃t:Sl,a.cell? (b.add 1)=some (t.v)/\
 ∃x:Sl,a.cell? (c.add 1)=some (x.v)/\
 zY iP #[t.v,x.v] a λab d=>d.cell? (c.add 3)=some (.i k)/\d.cell? (b.add 3)=some (.i j)/\d.cell? (c.add 2)=some (.i g)/\d.cell? (b.add 2)=some (.i f)/\d.cell? (c.add 0)=some (.i e)/\d.cell? (b.add 0)=some (.i t8)/\aF ab (∃y:ByteArray,d.cell? (b.add 5)=some (.string y)/\
 ∃z:ByteArray,d.cell? (c.add 5)=some (.string z)/\
 R (.returned (.bool (y.toList==z.toList))) d) (R (.returned (.bool false)) d)) (R (.returned (.bool false)) a)) (R (.returned (.bool false)) a)) (R (.returned (.bool false)) a)) (R (.returned (.bool false)) a)) (R (.returned (.bool false)) a)):Calls Tryz.prog oI #[.pointer (some b),.pointer (some c)] w R:=aO X [] h
end term_sameNode
namespace term_search
noncomputable abbrev X:Fx:=⟨Tryz.prog,Tryz.f49,[],[2]⟩
abbrev P0:Ps:=[(1,.v [.r]),(2,.l [.s] aW),(8,.v [.I]),(9,.v [.I])]
def eH (c:Addr) (b:Nat) (a:Sl) (d e:Int) (w:World) (R:aD):Prop:=cJ P0 0 (X.Sem (bH [0,1,1,1,1])) c b a d e w R
noncomputable def eC:=fZ X (bH [0,1,1,1,1]) P0 eH
theorem bA:∀(f:Addr) (e:Nat) (b:Sl) (g c:Int) (w:World) (R:aD) (h:aF (decide (c<g)) ((0:Int)<=c/\c<((b.n:Nat):Int)/\aX b.a λd=>jK [e] oI #[.pointer (some (d.add (Int.toNat c *9))),.pointer (some f)] w λj k=>aF j (R (.returned (.i c)) k) (eH f e b g (IntKind.wrap .i64 (c+1)) k R)) (R (.returned (.i (-1))) w)),eH f e b g c w R:=mp (dD (X:=X) [eC] (bH [0,1,1,1,1]) P0)
theorem cV (a:Sl) (b:Addr) (w:World) (R:aD) (h:bE [] w λc d=>
 eH b c a ((a.n:Nat):Int) 0 d R):Calls Tryz.prog qw #[.agg #[a.v],.pointer (some b)] w R:=aO X [eC] h
end term_search
namespace slices_Clone_sl_int_int
noncomputable abbrev X:Fx:=⟨Tryz.prog,Tryz.f50,[],[]⟩
theorem ok (b:Sl) (w:World) (R:aD) (h:aF b.a.isNone (R (.returned (.slice none 0 0)) w) (fJ w (.cells #[] bW) λe=>
 ∃(c:Sl) (d:World),Sem.run Tryz.prog (Builtin.append_ #[gq,gq] gq #[.slice (some (nb w)) 0 0,b.v]) e=.ok (c.v) d/\R (.returned (c.v)) d)):Calls Tryz.prog iO #[b.v] w R:=aO X [] h
end slices_Clone_sl_int_int
namespace term_Add
noncomputable abbrev X:Fx:=⟨Tryz.prog,Tryz.f14,[(14,ls [0,1,2,3,4,5,6,7])],[2,4,7]⟩
theorem cV (b:Sl) (s:Int) (t:Sl) (x y z:Int) (aa:ByteArray) (ab ac ad:Int) (w:World) (R:aD) (h:bE [] w λc g=>
 fJ g (.cells #[.i s,t.v,.i x,.i y,.u z,.string aa,.i ab,.i ac,.i ad] aG) λw2=>
 bE [c] w2 λd w3=>
 qL w3 (nb g) λap aq ar au av aw ax ay az=>gU [c,d] mj #[.agg #[b.v],.agg #[.i ap,aq.v,.i ar,.i au,.u av,.string aw,.i ax,.i ay,.i az]] w3 λp q r l w4=>bE [c,d] w4 λf w5=>
 aF (l !=0) (loc [c,d,f] w5 λw9=>R (.returned (.tuple #[.agg #[.slice none 0 0],.i 0,.i l])) w9) (loc [c,d,f] w5 λw8=>bX w8 ((nb g).add 6) (.i p) λae=>kept [c,d,f] w8 ae/\
 bX ae (((nb g).add 6).add 1) (.i q) λaf=>kept [c,d,f] ae af/\
 bX af (((nb g).add 6).add 2) (.i r) λbn=>kept [c,d,f] af bn/\
 mW [c,d,f] qw #[.agg #[b.v],.pointer (some (nb g))] bn λbk m=>aF (decide (bk>=0)) (loc [c,d,f] m λbs=>R (.returned (.tuple #[.agg #[b.v],.i bk,.i 0])) bs) (aF (decide (((b.n:Nat):Int)>=4096)) (loc [c,d,f] m λbt=>R (.returned (.tuple #[.agg #[.slice none 0 0],.i 0,.i 4])) bt) (∃bm:Sl,m.cell? ((nb g).add 1)=some (bm.v)/\
 Ti [c,d,f] iO #[bm.v] m λbq bo=>bX bo ((nb g).add 1) (bq.v) λag=>kept [c,d,f] bo ag/\
 ∃(j:Sl) (o:World),Sem.run Tryz.prog (Instr.makeSlice bB (.i (IntKind.wrap .i64 (((b.n:Nat):Int)+1))) (.i (IntKind.wrap .i64 (((b.n:Nat):Int)+1)))) ag=.ok (j.v) o/\kept [c,d,f] ag o/\∃(br:Int) (k:World),Sem.run Tryz.prog (Builtin.copy_ #[bB,bB] bW #[j.v,b.v]) o=.ok (.i br) k/\kept [c,d,f] o k/\qL k (nb g) λbb bc bd be bf bg bh bi bj=>(0:Int)<=((b.n:Nat):Int)/\((b.n:Nat):Int)<((j.n:Nat):Int)/\aX j.a λe=>bX k (e.add (Int.toNat ((b.n:Nat):Int) *9)) (.i bb) λah=>kept [c,d,f] k ah/\
 bX ah ((e.add (Int.toNat ((b.n:Nat):Int) *9)).add 1) (bc.v) λai=>kept [c,d,f] ah ai/\
 bX ai ((e.add (Int.toNat ((b.n:Nat):Int) *9)).add 2) (.i bd) λaj=>kept [c,d,f] ai aj/\
 bX aj ((e.add (Int.toNat ((b.n:Nat):Int) *9)).add 3) (.i be) λak=>kept [c,d,f] aj ak/\
 bX ak ((e.add (Int.toNat ((b.n:Nat):Int) *9)).add 4) (.u bf) λal=>kept [c,d,f] ak al/\
 bX al ((e.add (Int.toNat ((b.n:Nat):Int) *9)).add 5) (.string bg) λam=>kept [c,d,f] al am/\
 bX am ((e.add (Int.toNat ((b.n:Nat):Int) *9)).add 6) (.i bh) λan=>kept [c,d,f] am an/\
 bX an ((e.add (Int.toNat ((b.n:Nat):Int) *9)).add 7) (.i bi) λao=>kept [c,d,f] an ao/\
 bX ao ((e.add (Int.toNat ((b.n:Nat):Int) *9)).add 8) (.i bj) λbp=>kept [c,d,f] ao bp/\
 loc [c,d,f] bp λbv=>R (.returned (.tuple #[.agg #[j.v],.i ((b.n:Nat):Int),.i 0])) bv)))):Calls Tryz.prog fN #[.agg #[b.v],.agg #[.i s,t.v,.i x,.i y,.u z,.string aa,.i ab,.i ac,.i ad]] w R:=aO X [] h
end term_Add
namespace regex_small
noncomputable abbrev X:Fx:=⟨Tryz.prog,Tryz.f184,[],[]⟩
theorem ok (a:Int) (w:World) (R:aD) (h:aF (decide (a>=97)) (R (.returned (.bool (decide (a<=122)))) w) (R (.returned (.bool false)) w)):Calls Tryz.prog kB #[.int .u8 a] w R:=aO X [] h
end regex_small
namespace regex_plain
noncomputable abbrev X:Fx:=⟨Tryz.prog,Tryz.f199,[],[]⟩
theorem ok (a:Int) (w:World) (R:aD) (h:aF (decide (a>=32)) (aF (decide (a<=126)) (aF (a !=39) (R (.returned (.bool (a !=92))) w) (R (.returned (.bool false)) w)) (R (.returned (.bool false)) w)) (R (.returned (.bool false)) w)):Calls Tryz.prog n8 #[.int .u8 a] w R:=aO X [] h
end regex_plain
namespace strings_IndexByte
noncomputable abbrev X:Fx:=⟨Tryz.prog,Tryz.f183,[],[]⟩
theorem ok (b:ByteArray) (a:Int) (w:World) (R:aD) (h:BW gj #[.string b,.int .u8 a] w λc d=>R (.returned (.i c)) d):Calls Tryz.prog g8 #[.string b,.int .u8 a] w R:=aO X [] h
end strings_IndexByte
namespace internal_stringslite_IndexByte
noncomputable abbrev X:Fx:=⟨Tryz.prog,Tryz.f198,[],[]⟩
theorem ok (b:ByteArray) (a:Int) (w:World) (R:aD) (h:∃c:Int,∃d:World,Sem.run Tryz.prog (callFunc dY #[.string b,.int .u8 a]) w=.ok (.value (.i c)) d/\
 R (.returned (.i c)) d):Calls Tryz.prog gj #[.string b,.int .u8 a] w R:=aO X [] h
end internal_stringslite_IndexByte
namespace regex_byteAt
noncomputable abbrev X:Fx:=⟨Tryz.prog,Tryz.f185,[(4,ls [0,1,2,3,5,6,7,8,4,9,10,11])],[]⟩
abbrev P0:Ps:=[]
abbrev S1 (w:World) (R:aD):Prop:=
 R (.returned (.tuple #[.int .u8 0,.i 0,.bool false])) w
noncomputable def gn:=bK X [] (bH [3]) P0 S1
abbrev P1:Ps:=[(0,.v [.st]),(1,.v [.I])]
abbrev S0 (f:ByteArray) (a:Int) (w:World) (R:aD):Prop:=
 aF (decide ((IntKind.wrap .i64 (a+3))<((f.size:Nat):Int))) ((0:Int)<=a/\∃b:UInt8,f[Int.toNat a]? =some b/\aF (((b.toNat:Nat):Int)==92) ((0:Int)<=(IntKind.wrap .i64 (a+1))/\∃c:UInt8,f[Int.toNat (IntKind.wrap .i64 (a+1))]? =some c/\aF (((c.toNat:Nat):Int)==120) (uU w λl=>(0:Int)<=(IntKind.wrap .i64 (a+2))/\∃d:UInt8,f[Int.toNat (IntKind.wrap .i64 (a+2))]? =some d/\(0:Int)<=(IntKind.wrap .i64 (a+3))/\∃e:UInt8,f[Int.toNat (IntKind.wrap .i64 (a+3))]? =some e/\BW g8 #[.string (ByteArray.mk #[48,49,50,51,52,53,54,55,56,57,97,98,99,100,101,102]),.int .u8 ((d.toNat:Nat):Int)] l λg m=>BW g8 #[.string (ByteArray.mk #[48,49,50,51,52,53,54,55,56,57,97,98,99,100,101,102]),.int .u8 ((e.toNat:Nat):Int)] m λj k=>aF (decide (g>=0)) (aF (decide (j>=0)) (R (.returned (.tuple #[.int .u8 (IntKind.wrap .u8 (Vr .i64 (IntKind.wrap .i64 (g *2^(4))) j)),.i 4,.bool true])) k) (S1 k R)) (S1 k R)) (S1 w R)) (S1 w R)) (S1 w R)
noncomputable def eV:=bK X [gn] (bH [2]) P1 S0
theorem ok (b:ByteArray) (a:Int) (w:World) (R:aD) (h:aF (decide ((IntKind.wrap .i64 (a+2))<((b.size:Nat):Int))) ((0:Int)<=a/\∃c:UInt8,b[Int.toNat a]? =some c/\aF (((c.toNat:Nat):Int)==39) ((0:Int)<=(IntKind.wrap .i64 (a+1))/\∃d:UInt8,b[Int.toNat (IntKind.wrap .i64 (a+1))]? =some d/\zY n8 #[.int .u8 ((d.toNat:Nat):Int)] w λj g=>aF j ((0:Int)<=(IntKind.wrap .i64 (a+2))/\∃e:UInt8,b[Int.toNat (IntKind.wrap .i64 (a+2))]? =some e/\aF (((e.toNat:Nat):Int)==39) ((0:Int)<=(IntKind.wrap .i64 (a+1))/\∃f:UInt8,b[Int.toNat (IntKind.wrap .i64 (a+1))]? =some f/\R (.returned (.tuple #[.int .u8 ((f.toNat:Nat):Int),.i 3,.bool true])) g) (S0 b a g R)) (S0 b a g R)) (S0 b a w R)) (S0 b a w R)):Calls Tryz.prog lr #[.string b,.i a] w R:=aO X [eV,gn] h
end regex_byteAt
namespace regex_tokenAt
noncomputable abbrev X:Fx:=⟨Tryz.prog,Tryz.f156,[],[4]⟩
abbrev P0:Ps:=[(0,.v [.st]),(1,.v [.I]),(4,.l [.Y,.Y,.Y,.st,.I] fG),(7,.v [.I])]
def l4 (i:ByteArray) (f:Int) (j:Nat) (a b c:Int) (d:ByteArray) (e g:Int) (w:World) (R:aD):Prop:=cJ P0 0 (X.Sem (bH [0,2,1,1,3,2,2])) i f j a b c d e g w R
noncomputable def kX:=fZ X (bH [0,2,1,1,3,2,2]) P0 l4
abbrev eY (c:ByteArray) (a:Int) (d:Nat) (e f g:Int) (j:ByteArray) (k b:Int) (w:World) (R:aD):Prop:=
 (0:Int)<=b/\b<=((c.size:Nat):Int)/\(0:Int)<=a/\a<=(((Int.toNat b):Nat):Int)/\loc [d] w λl=>R (.returned (.tuple #[.agg #[.int .u8 119,.int .u8 0,.int .u8 0,.string (c.extract (Int.toNat a) (Int.toNat b)),.i a],.i (IntKind.wrap .i64 (b - a))])) l
noncomputable def fL:=bK X [kX] (bH [2,1,3,2,2]) P0 eY
theorem dJ:∀(i:ByteArray) (k:Int) (j:Nat) (a b c:Int) (d:ByteArray) (e f:Int) (w:World) (R:aD) (h:aF (decide (f<((i.size:Nat):Int))) ((0:Int)<=f/\∃g:UInt8,i[Int.toNat f]? =some g/\jK [j] kB #[.int .u8 ((g.toNat:Nat):Int)] w λl m=>aF l (l4 i k j a b c d e (IntKind.wrap .i64 (f+1)) m R) (eY i k j a b c d e f m R)) (eY i k j a b c d e f w R)),l4 i k j a b c d e f w R:=mp (dD (X:=X) [fL,kX] (bH [0,2,1,1,3,2,2]) P0)
abbrev P1:Ps:=[(1,.v [.I]),(4,.l [.Y,.Y,.Y,.st,.I] fG)]
abbrev ox (a:Int) (b:Nat) (c d e:Int) (f:ByteArray) (g:Int) (w:World) (R:aD):Prop:=
 loc [b] w λj=>R (.returned (.tuple #[.agg #[.int .u8 63,.int .u8 0,.int .u8 0,.s0,.i a],.i 1])) j
noncomputable def kK:=bK X [fL,kX] (bH [3]) P1 ox
abbrev P2:Ps:=[(0,.v [.st]),(1,.v [.I]),(4,.l [.Y,.Y,.Y,.st,.I] fG),(8,.v [.Y]),(10,.v [.b]),(11,.v [.I]),(12,.v [.Y])]
abbrev FG (o:ByteArray) (j:Int) (l:Nat) (a b c:Int) (d:ByteArray) (e m:Int) (n:Bool) (g k:Int) (w:World) (R:aD):Prop:=
 aF (!n) (ox j l a b c d e w R) (aF (decide (g>=((o.size:Nat):Int))) (ox j l a b c d e w R) ((0:Int)<=g/\∃f:UInt8,o[Int.toNat g]? =some f/\aF (((f.toNat:Nat):Int) !=93) (ox j l a b c d e w R) (aF (decide (m>k)) (ox j l a b c d e w R) (loc [l] w λp=>R (.returned (.tuple #[.agg #[.int .u8 114,.int .u8 m,.int .u8 k,.s0,.i j],.i (IntKind.wrap .i64 ((IntKind.wrap .i64 (g+1)) - j))])) p))))
noncomputable def vQ:=bK X [kK,fL,kX] (bH [5,1,5,2,2]) P2 FG
abbrev P3:Ps:=[(0,.v [.st]),(1,.v [.I]),(4,.l [.Y,.Y,.Y,.st,.I] fG),(8,.v [.Y]),(10,.v [.b]),(11,.v [.I])]
abbrev gO (l:ByteArray) (k:Int) (j:Nat) (a b c:Int) (d:ByteArray) (e q:Int) (p:Bool) (f:Int) (w:World) (R:aD):Prop:=
 aF (!p) (ox k j a b c d e w R) (aF (decide (f>=((l.size:Nat):Int))) (ox k j a b c d e w R) ((0:Int)<=f/\∃g:UInt8,l[Int.toNat f]? =some g/\aF (((g.toNat:Nat):Int) !=45) (ox k j a b c d e w R) (YI [j] lr #[.string l,.i (IntKind.wrap .i64 (f+1))] w λm n o r=>FG l k j a b c d e q o (IntKind.wrap .i64 (f+(IntKind.wrap .i64 (1+n)))) m r R)))
noncomputable def hC:=bK X [vQ,kK,fL,kX] (bH [2,1,5,2,2]) P3 gO
abbrev P4:Ps:=[(0,.v [.st]),(1,.v [.I]),(4,.l [.Y,.Y,.Y,.st,.I] fG),(6,.v [.Y])]
abbrev dV (l:ByteArray) (a:Int) (b:Nat) (c d e:Int) (f:ByteArray) (g k:Int) (w:World) (R:aD):Prop:=
 mW [b] g8 #[.string (ByteArray.mk #[40,41,44,124,38,33,42]),.int .u8 k] w λt v=>aF (decide (t>=0)) (loc [b] v λy=>R (.returned (.tuple #[.agg #[.int .u8 k,.int .u8 0,.int .u8 0,.s0,.i a],.i 1])) y) (jK [b] kB #[.int .u8 k] v λu s=>aF u (l4 l a b c d e f g a s R) (aF (k==91) (YI [b] lr #[.string l,.i (IntKind.wrap .i64 (a+1))] s λo p q z=>gO l a b c d e f g o q (IntKind.wrap .i64 ((IntKind.wrap .i64 (a+1))+p)) z R) (YI [b] lr #[.string l,.i a] s λj m n r=>aF n (loc [b] r λx=>R (.returned (.tuple #[.agg #[.int .u8 114,.int .u8 j,.int .u8 j,.s0,.i a],.i m])) x) (ox a b c d e f g r R))))
noncomputable def eV:=bK X [hC,vQ,kK,fL,kX] (bH [2]) P4 dV
theorem cV (c:ByteArray) (b:Int) (w:World) (R:aD) (h:bE [] w λd e=>
 (0:Int)<=b/\∃a:UInt8,c[Int.toNat b]? =some a/\dV c b d 0 0 0 (ByteArray.mk #[]) 0 ((a.toNat:Nat):Int) e R):Calls Tryz.prog oH #[.string c,.i b] w R:=aO X [eV,hC,vQ,kK,fL,kX] h
end regex_tokenAt
namespace regex_tokens_1
noncomputable def C0:Code:=(Tryz.f155.body).getD .skip
noncomputable def C1:=C0.fs
noncomputable def C2:=C1.sn
noncomputable def C3:=C2.fs
noncomputable def C4:=C3.fs
noncomputable def C5:=C0.sn
abbrev Q0 (R:aD):QG:=(Exit.then (Ac Tryz.prog (cx 39) C5 (bodyPost Tryz.prog Tryz.f155 R)) (bodyPost Tryz.prog Tryz.f155 R))
abbrev Q1 (R:aD):QG:=(Exit.inBlock 0 (Q0 R))
def L0 (a:Nat) (c:Addr) (b:Int) (w:World) (R:aD):Prop:=LP Tryz.prog (cx 39) C4 (Q1 R) [(0,.func (.yield a) #[] #[]),(1,.pointer (some c)),(3,.i b)] w
def Hm (E:Env) (w:World) (R:aD):Prop:=W.BN (Env.get? E 0) λa=>W.gB (Env.get? E 1) λc=>W.asInt .i64 (Env.get? E 3) λb=>L0 a c b w R
theorem yi:LOk Tryz.prog 39 Hm C4 Q1:=by
 intro R E w h
 obtain ⟨aap,JJ,DQ⟩:=W.BO h
 obtain ⟨t1,ZI,DR⟩:=W.bQ DQ
 obtain ⟨i3,D5,DS⟩:=W.pC DR
 intro a ha
 exact DS a (ha.cons JJ (ha.cons ZI (ha.cons D5 ha.nil)))
noncomputable def C6:=C4.fs
noncomputable def C7:=C4.sn
noncomputable def C8:=C7.fs
noncomputable def C9:=C8.fs
noncomputable def QD:=C9.sn
noncomputable def N9:=QD.fs
noncomputable def UJ:=C8.sn
noncomputable def UK:=UJ.sn
noncomputable def UL:=UK.fs
noncomputable def Vf:=UK.sn
noncomputable def N':=C6.sn
noncomputable def UM:=N'.fs
noncomputable def Sz:=N9.sn
noncomputable def UN:=QD.sn
noncomputable def Oa:=UL.sn
noncomputable def QE:=Oa.fs
noncomputable def Xq:=Oa.sn
noncomputable def Xr:=N'.sn
theorem cF (d:Nat) (g:Addr) (f:Int) (w:World) (R:aD) (h:∃t7:ByteArray,w.cell? g=some (.string t7)/\
 aF (decide (f<((t7.size:Nat):Int))) (∃z:ByteArray,w.cell? g=some (.string z)/\
 (0:Int)<=f/\∃j:UInt8,z[Int.toNat f]? =some j/\aF (((j.toNat:Nat):Int)==32) (L0 d g (IntKind.wrap .i64 (f+1)) w R) (∃aa:ByteArray,w.cell? g=some (.string aa)/\
 ca8 oH #[.string aa,.i f] w λk l m o p q y=>fJ y (.cells #[.int .u8 0,.int .u8 0,.int .u8 0,.s0,.i 0] fG) λw2=>
 W5 w2 (nb y) (.int .u8 k) (.int .u8 l) (.int .u8 m) (.string o) (.i p) λw7=>RB w7 (nb y) λr s t u x=>wW Tryz.prog d #[.agg #[.int .u8 r,.int .u8 s,.int .u8 t,.string u,.i x]] w7 λ(ad:Bool) w8=>aF (!ad) (R (.returned (.tuple #[])) w8) (∃ab:Int,w8.cell? ((nb y).add 0)=some (.int .u8 ab)/\
 aF (ab==63) (R (.returned (.tuple #[])) w8) (L0 d g (IntKind.wrap .i64 (f+q)) w8 R)))) (∃ac:ByteArray,w.cell? g=some (.string ac)/\
 wW Tryz.prog d #[.agg #[.int .u8 36,.int .u8 0,.int .u8 0,.s0,.i ((ac.size:Nat):Int)]] w λ(ah:Bool) w9=>R (.returned (.tuple #[])) w9)):L0 d g f w R:=
 LP.step (n:=(cx 39)) (c:=C4) (E:=[(0,.func (.yield d) #[] #[]),(1,.pointer (some g)),(3,.i f)]) (w:=w) (sq C4 (sr C6 (show (λ(E:Env) (w:World)=>xQ Tryz.prog C6 (λE w=>pH (Env.val E (.tmp 9)) (xQ Tryz.prog C9 (λE w=>pH (Env.val E (.tmp 13)) (xQ Tryz.prog N9 (λE w=>Hm E w R) E w) (xQ Tryz.prog UJ (λE w=>xQ Tryz.prog UL (λE w=>pH (Env.val E (.tmp 30)) (rJ Tryz.prog Tryz.f155 E w (λv=>R (.returned v) w)) (XZ Tryz.prog Vf (λE w=>Hm E w R) E w)) E w) E w)) E w) (XZ Tryz.prog C5 (λE w=>rJ Tryz.prog Tryz.f155 E w (λv=>R (.returned v) w)) E w)) E w) [(0,.func (.yield d) #[] #[]),(1,.pointer (some g)),(3,.i f)] w from mp h) λ_ _ b=>(cn N' b (λb=>(sk UM λa e=>nx e (bk C7 1 (by kernel_rfl) (sq C8 (sr C9 b λ_ _ b=>(cn QD b (λb=>(sr N9 b λ_ _ b=>(xt Sz 1 (by kernel_rfl) λa e=>yi R _ _ b a e))) (λb=>(sk UN λa e=>nx e (sr UJ b λ_ _ b=>(sq UK (sr UL b λ_ _ b=>(cn Oa b (λb=>(rt QE λa e=>qg e b)) (λb=>(sk Xq λa e=>nx e (rg Vf (by kernel_rfl) b λ_ _ a e b=>yi R _ _ b a e))))))))))))))) (λb=>(xt Xr 0 (by kernel_rfl) λa e=>nx e (rg C5 (by kernel_rfl) b λ_ _ a e b=>qg e b))))))
theorem ok (a:Nat) (b:Addr) (w:World) (R:aD) (h:L0 a b 0 w R):Calls Tryz.prog fP #[.func (.yield a) #[] #[],.pointer (some b)] w R:=
 oW (R:=R) (fn:=Tryz.f155) (c:=C0) (args:=[.func (.yield a) #[] #[],.pointer (some b)]) (by kernel_rfl) (by kernel_rfl) (by kernel_rfl) (sq C0 (sr C1 (show (λ(E:Env) (w:World)=>xQ Tryz.prog C1 (λE w=>Hm E w R) E w) (rF 0 [.func (.yield a) #[] #[],.pointer (some b)]) w from mp h) λ_ _ d=>(bk C2 0 (by kernel_rfl) (lp C3 (by kernel_rfl) (yi R _ _ d)))))
end regex_tokens_1
namespace regex_tokens
noncomputable abbrev X:Fx:=⟨Tryz.prog,Tryz.f142,[],[]⟩
theorem ok (a:ByteArray) (w:World) (R:aD) (h:fJ w (.cells #[.string a] cI) λb=>
 R (.returned (.func (.func fP) #[] #[.pointer (some (nb w))])) b):Calls Tryz.prog sK #[.string a] w R:=aO X [] h
end regex_tokens
namespace regex_one
noncomputable abbrev X:Fx:=⟨Tryz.prog,Tryz.f163,[],[4]⟩
theorem cV (c:Int) (b:Sl) (w:World) (R:aD) (h:bE [] w λl k=>
 aF (((b.n:Nat):Int)==1) ((0:Int)<=0/\0<((b.n:Nat):Int)/\aX b.a λj=>cB k (j.add (Int.toNat 0 *4)) λd e f g=>loc [l] k λm=>R (.returned (.agg #[.i d,.int .u8 e,.int .u8 f,g.v])) m) (loc [l] k λo=>R (.returned (.agg #[.i c,.int .u8 0,.int .u8 0,b.v])) o)):Calls Tryz.prog iY #[.i c,b.v] w R:=aO X [] h
end regex_one
namespace regex_frame_endItem
noncomputable abbrev X:Fx:=⟨Tryz.prog,Tryz.f162,[(4,(.sq [0,1,2,3,4,5,6,7,8,10,11] (.fork (ls [9,12]) (ls [12,9]))))],[2]⟩
abbrev P0:Ps:=[(0,.v [.r]),(2,.l [.I,.Y,.Y,.s] aB)]
def eH (e:Addr) (f:Nat) (a b c:Int) (d:Sl) (w:World) (R:aD):Prop:=cJ P0 0 (X.Sem (bH [0,2,1])) e f a b c d w R
noncomputable def eC:=fZ X (bH [0,2,1]) P0 eH
theorem bA:∀(f:Addr) (d:Nat) (g j k:Int) (l:Sl) (w:World) (R:aD) (h:∃ab:Int,w.cell? (f.add 5)=some (.i ab)/\
 aF (decide (ab>0)) (fJ w (.cells #[.i g,.int .u8 j,.int .u8 k,l.v] aB) λw6=>
 loc [d] w6 λo=>∃ac:Int,o.cell? (f.add 5)=some (.i ac)/\
 bX o (f.add 5) (.i (IntKind.wrap .i64 (ac - 1))) λad=>kept [d] o ad/\
 eH f d 6 0 0 ⟨some (nb w),1,1⟩ ad R) (loc [d] w λp=>∃c:Sl,p.cell? (f.add 4)=some (c.v)/\
 fJ p (.cells #[.i 0,.int .u8 0,.int .u8 0,.slice none 0 0] aB) λq=>
 q.cell? (f.add 4)=some (c.v)/\∃(m:Sl) (e:World),Sem.run Tryz.prog (Builtin.append_ #[aE,aE] aE #[c.v,.slice (some (nb p)) 1 1]) q=.ok (m.v) e/\kept [d] q e/\(0:Int)<=((c.n:Nat):Int)/\((c.n:Nat):Int)<((m.n:Nat):Int)/\aX m.a λb=>((bX e (b.add (Int.toNat ((c.n:Nat):Int) *4)) (.i g) λr=>kept [d] e r/\
 bX r ((b.add (Int.toNat ((c.n:Nat):Int) *4)).add 1) (.int .u8 j) λs=>kept [d] r s/\
 bX s ((b.add (Int.toNat ((c.n:Nat):Int) *4)).add 2) (.int .u8 k) λt=>kept [d] s t/\
 bX t ((b.add (Int.toNat ((c.n:Nat):Int) *4)).add 3) (l.v) λu=>kept [d] t u/\
 bX u (f.add 4) (m.v) λae=>kept [d] u ae/\
 R (.returned (.tuple #[])) ae)/\(bX e (f.add 4) (m.v) λx=>kept [d] e x/\
 bX x (b.add (Int.toNat ((c.n:Nat):Int) *4)) (.i g) λy=>kept [d] x y/\
 bX y ((b.add (Int.toNat ((c.n:Nat):Int) *4)).add 1) (.int .u8 j) λz=>kept [d] y z/\
 bX z ((b.add (Int.toNat ((c.n:Nat):Int) *4)).add 2) (.int .u8 k) λaa=>kept [d] z aa/\
 bX aa ((b.add (Int.toNat ((c.n:Nat):Int) *4)).add 3) (l.v) λaf=>kept [d] aa af/\
 R (.returned (.tuple #[])) af)))),eH f d g j k l w R:=mp (dD (X:=X) [eC] (bH [0,2,1]) P0)
theorem cV (a:Addr) (w:World) (R:aD) (h:cB w (a.add 6) λb c d e=>bE [] w λf g=>
 loc [f] g λi=>eH a f b c d e i R):Calls Tryz.prog iF #[.pointer (some a)] w R:=aO X [eC] h
end regex_frame_endItem
namespace regex_frame_endSeq
noncomputable abbrev X:Fx:=⟨Tryz.prog,Tryz.f160,[(1,(.sq [0,1,2,3,4,5,6,7,9] (.fork (.sq [8,10,11,12,14,15] (.fork (ls [13,16]) (ls [16,13]))) (.sq [10,8,11,12,14,15] (.fork (ls [13,16]) (ls [16,13]))))))],[]⟩
abbrev P0:Ps:=[(0,.v [.r])]
abbrev S0 (a:Addr) (w:World) (R:aD):Prop:=
 bX w (a.add 4) (.slice none 0 0) λb=>
 R (.returned (.tuple #[])) b
noncomputable def eV:=bK X [] (bH [2]) P0 S0
theorem ok (d:Addr) (w:World) (R:aD) (h:xI iF #[.pointer (some d)] w λw1=>uU w1 λx=>∃c:Sl,x.cell? (d.add 3)=some (c.v)/\
 ∃o:Sl,x.cell? (d.add 4)=some (o.v)/\
 ((NX iY #[.i 3,o.v] x λp q r s z=>z.cell? (d.add 3)=some (c.v)/\fJ z (.cells #[.i 0,.int .u8 0,.int .u8 0,.slice none 0 0] aB) λw4=>
 w4.cell? (d.add 3)=some (c.v)/\∃(m:Sl) (w5:World),Sem.run Tryz.prog (Builtin.append_ #[aE,aE] aE #[c.v,.slice (some (nb z)) 1 1]) w4=.ok (m.v) w5/\(0:Int)<=((c.n:Nat):Int)/\((c.n:Nat):Int)<((m.n:Nat):Int)/\aX m.a λf=>((qx w5 (f.add (Int.toNat ((c.n:Nat):Int) *4)) (.i p) (.int .u8 q) (.int .u8 r) (s.v) λw9=>bX w9 (d.add 3) (m.v) λab=>
 S0 d ab R)/\(bX w5 (d.add 3) (m.v) λac=>
 bX ac (f.add (Int.toNat ((c.n:Nat):Int) *4)) (.i p) λad=>
 bX ad ((f.add (Int.toNat ((c.n:Nat):Int) *4)).add 1) (.int .u8 q) λae=>
 bX ae ((f.add (Int.toNat ((c.n:Nat):Int) *4)).add 2) (.int .u8 r) λaf=>
 bX af ((f.add (Int.toNat ((c.n:Nat):Int) *4)).add 3) (s.v) λag=>
 S0 d ag R)))/\(fJ x (.cells #[.i 0,.int .u8 0,.int .u8 0,.slice none 0 0] aB) λt=>
 t.cell? (d.add 4)=some (o.v)/\t.cell? (d.add 3)=some (c.v)/\NX iY #[.i 3,o.v] t λg j k l y=>y.cell? (d.add 3)=some (c.v)/\∃(e:Sl) (u:World),Sem.run Tryz.prog (Builtin.append_ #[aE,aE] aE #[c.v,.slice (some (nb x)) 1 1]) y=.ok (e.v) u/\(0:Int)<=((c.n:Nat):Int)/\((c.n:Nat):Int)<((e.n:Nat):Int)/\aX e.a λb=>((qx u (b.add (Int.toNat ((c.n:Nat):Int) *4)) (.i g) (.int .u8 j) (.int .u8 k) (l.v) λah=>bX ah (d.add 3) (e.v) λai=>
 S0 d ai R)/\(bX u (d.add 3) (e.v) λaj=>
 bX aj (b.add (Int.toNat ((c.n:Nat):Int) *4)) (.i g) λak=>
 bX ak ((b.add (Int.toNat ((c.n:Nat):Int) *4)).add 1) (.int .u8 j) λal=>
 bX al ((b.add (Int.toNat ((c.n:Nat):Int) *4)).add 2) (.int .u8 k) λam=>
 bX am ((b.add (Int.toNat ((c.n:Nat):Int) *4)).add 3) (l.v) λan=>
 S0 d an R))))):Calls Tryz.prog iX #[.pointer (some d)] w R:=aO X [eV] h
end regex_frame_endSeq
namespace regex_frame_endConj
noncomputable abbrev X:Fx:=⟨Tryz.prog,Tryz.f161,[(1,(.sq [0,1,2,3,4,5,6,7,9] (.fork (.sq [8,10,11,12,14,15] (.fork (ls [13,16]) (ls [16,13]))) (.sq [10,8,11,12,14,15] (.fork (ls [13,16]) (ls [16,13]))))))],[]⟩
abbrev P0:Ps:=[(0,.v [.r])]
abbrev S0 (a:Addr) (w:World) (R:aD):Prop:=
 bX w (a.add 3) (.slice none 0 0) λb=>
 R (.returned (.tuple #[])) b
noncomputable def eV:=bK X [] (bH [2]) P0 S0
theorem ok (d:Addr) (w:World) (R:aD) (h:xI iX #[.pointer (some d)] w λw1=>uU w1 λx=>∃c:Sl,x.cell? (d.add 2)=some (c.v)/\
 ∃o:Sl,x.cell? (d.add 3)=some (o.v)/\
 ((NX iY #[.i 5,o.v] x λp q r s z=>z.cell? (d.add 2)=some (c.v)/\fJ z (.cells #[.i 0,.int .u8 0,.int .u8 0,.slice none 0 0] aB) λw4=>
 w4.cell? (d.add 2)=some (c.v)/\∃(m:Sl) (w5:World),Sem.run Tryz.prog (Builtin.append_ #[aE,aE] aE #[c.v,.slice (some (nb z)) 1 1]) w4=.ok (m.v) w5/\(0:Int)<=((c.n:Nat):Int)/\((c.n:Nat):Int)<((m.n:Nat):Int)/\aX m.a λf=>((qx w5 (f.add (Int.toNat ((c.n:Nat):Int) *4)) (.i p) (.int .u8 q) (.int .u8 r) (s.v) λw9=>bX w9 (d.add 2) (m.v) λab=>
 S0 d ab R)/\(bX w5 (d.add 2) (m.v) λac=>
 bX ac (f.add (Int.toNat ((c.n:Nat):Int) *4)) (.i p) λad=>
 bX ad ((f.add (Int.toNat ((c.n:Nat):Int) *4)).add 1) (.int .u8 q) λae=>
 bX ae ((f.add (Int.toNat ((c.n:Nat):Int) *4)).add 2) (.int .u8 r) λaf=>
 bX af ((f.add (Int.toNat ((c.n:Nat):Int) *4)).add 3) (s.v) λag=>
 S0 d ag R)))/\(fJ x (.cells #[.i 0,.int .u8 0,.int .u8 0,.slice none 0 0] aB) λt=>
 t.cell? (d.add 3)=some (o.v)/\t.cell? (d.add 2)=some (c.v)/\NX iY #[.i 5,o.v] t λg j k l y=>y.cell? (d.add 2)=some (c.v)/\∃(e:Sl) (u:World),Sem.run Tryz.prog (Builtin.append_ #[aE,aE] aE #[c.v,.slice (some (nb x)) 1 1]) y=.ok (e.v) u/\(0:Int)<=((c.n:Nat):Int)/\((c.n:Nat):Int)<((e.n:Nat):Int)/\aX e.a λb=>((qx u (b.add (Int.toNat ((c.n:Nat):Int) *4)) (.i g) (.int .u8 j) (.int .u8 k) (l.v) λah=>bX ah (d.add 2) (e.v) λai=>
 S0 d ai R)/\(bX u (d.add 2) (e.v) λaj=>
 bX aj (b.add (Int.toNat ((c.n:Nat):Int) *4)) (.i g) λak=>
 bX ak ((b.add (Int.toNat ((c.n:Nat):Int) *4)).add 1) (.int .u8 j) λal=>
 bX al ((b.add (Int.toNat ((c.n:Nat):Int) *4)).add 2) (.int .u8 k) λam=>
 bX am ((b.add (Int.toNat ((c.n:Nat):Int) *4)).add 3) (l.v) λan=>
 S0 d an R))))):Calls Tryz.prog iE #[.pointer (some d)] w R:=aO X [eV] h
end regex_frame_endConj
namespace regex_frame_endExpr
noncomputable abbrev X:Fx:=⟨Tryz.prog,Tryz.f145,[],[2,3]⟩
theorem cV (b:Addr) (w:World) (R:aD) (h:bE [] w λa o=>
 QW [a] iE #[.pointer (some b)] o λl=>∃j:Sl,l.cell? (b.add 2)=some (j.v)/\
 uA [a] iY #[.i 4,j.v] l λc d e f p=>bE [a] p λg q=>
 loc [a,g] q λm=>bX m (b.add 2) (.slice none 0 0) λn=>kept [a,g] m n/\
 loc [a,g] n λk=>R (.returned (.agg #[.i c,.int .u8 d,.int .u8 e,f.v])) k):Calls Tryz.prog e8 #[.pointer (some b)] w R:=aO X [] h
end regex_frame_endExpr
namespace regex_reader_top
noncomputable abbrev X:Fx:=⟨Tryz.prog,Tryz.f144,[(1,ls [0,1,2,3,4,5,6,7,8,9,10,11])],[]⟩
theorem ok (d:Addr) (w:World) (R:aD) (h:uU w λf=>∃e:Sl,f.cell? (d.add 0)=some (e.v)/\
 ∃b:Sl,f.cell? (d.add 0)=some (b.v)/\
 (0:Int)<=(IntKind.wrap .i64 (((b.n:Nat):Int) - 1))/\(IntKind.wrap .i64 (((b.n:Nat):Int) - 1))<((e.n:Nat):Int)/\aX e.a λc=>R (.returned (.pointer (some (c.add (Int.toNat (IntKind.wrap .i64 (((b.n:Nat):Int) - 1)) *10))))) f):Calls Tryz.prog eT #[.pointer (some d)] w R:=aO X [] h
end regex_reader_top
namespace regex_reader_push
noncomputable abbrev X:Fx:=⟨Tryz.prog,Tryz.f157,[],[]⟩
theorem ok (c:Addr) (b a:Int) (w:World) (R:aD) (h:∃d:Sl,w.cell? (c.add 0)=some (d.v)/\
 fJ w (.cells #[.i b,.slice none 0 0,.slice none 0 0,.slice none 0 0,.slice none 0 0,.i 0,.i 0,.int .u8 0,.int .u8 0,.slice none 0 0] cA) λg=>
 ∃(e:Sl) (f:World),Sem.run Tryz.prog (Builtin.append_ #[kU,kU] kU #[d.v,.slice (some (nb w)) 1 1]) g=.ok (e.v) f/\bX f (c.add 0) (e.v) λj=>
 bX j (c.add 1) (.i a) λk=>
 R (.returned (.bool true)) k):Calls Tryz.prog jr #[.pointer (some c),.i b,.i a] w R:=aO X [] h
end regex_reader_push
namespace regex_reader_atom
noncomputable abbrev X:Fx:=⟨Tryz.prog,Tryz.f186,[(1,ls [0,2,1,3,4,5])],[3]⟩
theorem cV (g:Addr) (c d e:Int) (f:Sl) (w:World) (R:aD) (h:bE [] w λb q=>
 loc [b] q λr=>Xy [b] eT #[.pointer (some g)] r λp n=>aX p λa=>bX n (a.add 6) (.i c) λj=>kept [b] n j/\
 bX j ((a.add 6).add 1) (.int .u8 d) λk=>kept [b] j k/\
 bX k ((a.add 6).add 2) (.int .u8 e) λl=>kept [b] k l/\
 bX l ((a.add 6).add 3) (f.v) λm=>kept [b] l m/\
 bX m (g.add 1) (.i 3) λo=>kept [b] m o/\
 R (.returned (.bool true)) o):Calls Tryz.prog eG #[.pointer (some g),.agg #[.i c,.int .u8 d,.int .u8 e,f.v]] w R:=aO X [] h
end regex_reader_atom
namespace regex_reader_close
noncomputable abbrev X:Fx:=⟨Tryz.prog,Tryz.f158,[(2,ls [0,1,2,3,4,5,6,7,8,9,10,11,12,13,14])],[]⟩
theorem ok (e:Addr) (b:Sl) (w:World) (R:aD) (h:ca9 eT #[.pointer (some e)] w λx u=>aX x λp=>∃g:Int,u.cell? (p.add 0)=some (.i g)/\
 uU u λq=>∃d:Sl,q.cell? (e.add 0)=some (d.v)/\
 ∃f:Sl,q.cell? (e.add 0)=some (f.v)/\
 (0:Int)<=(IntKind.wrap .i64 (((f.n:Nat):Int) - 1))/\(IntKind.wrap .i64 (((f.n:Nat):Int) - 1))<=((d.c:Nat):Int)/\bX q (e.add 0) (.slice (if d.c=0 then d.a else d.a.map (·.add (0 *10))) ((Int.toNat (IntKind.wrap .i64 (((f.n:Nat):Int) - 1))) - 0) (d.c - 0)) λr=>
 aF (decide (g<0)) ((0:Int)<=0/\0<((b.n:Nat):Int)/\aX b.a λj=>cB r (j.add (Int.toNat 0 *4)) λk l m o=>zY eG #[.pointer (some e),.agg #[.i k,.int .u8 l,.int .u8 m,o.v]] r λs y=>R (.returned (.bool s)) y) (zY eG #[.pointer (some e),.agg #[.i g,.int .u8 0,.int .u8 0,b.v]] r λt z=>R (.returned (.bool t)) z)):Calls Tryz.prog gN #[.pointer (some e),b.v] w R:=aO X [] h
end regex_reader_close
namespace regex_reader_item
noncomputable abbrev X:Fx:=⟨Tryz.prog,Tryz.f159,[],[3]⟩
abbrev P0:Ps:=[]
abbrev dV (w:World) (R:aD):Prop:=
 R (.returned (.bool true)) w
noncomputable def eV:=bK X [] (bH [2,1,7,1,1,1,1]) P0 dV
theorem cV (c:Addr) (d g j:Int) (a:ByteArray) (r:Int) (w:World) (R:aD) (h:bE [] w λb f=>
 aF (d==33) (Xy [b] eT #[.pointer (some c)] f λm s=>aX m λk=>∃n:Int,s.cell? (k.add 5)=some (.i n)/\
 aX m λl=>bX s (l.add 5) (.i (IntKind.wrap .i64 (n+1))) λt=>kept [b] s t/\
 bX t (c.add 1) (.i 0) λz=>kept [b] t z/\
 R (.returned (.bool true)) z) (aF (d==40) (jK [b] jr #[.pointer (some c),.i (-1),.i 0] f λu w5=>R (.returned (.bool u)) w5) (aF (d==114) (jK [b] eG #[.pointer (some c),.agg #[.i 2,.int .u8 g,.int .u8 j,.slice none 0 0]] f λv w6=>R (.returned (.bool v)) w6) (aF (d==119) (bX f (c.add 1) (.i 2) λe=>kept [b] f e/\
 aF (a.toList==(ByteArray.mk #[110,111,110,101]).toList) (jK [b] eG #[.pointer (some c),.agg #[.i 0,.int .u8 0,.int .u8 0,.slice none 0 0]] e λx w8=>R (.returned (.bool x)) w8) (aF (a.toList==(ByteArray.mk #[101,109,112,116,121]).toList) (jK [b] eG #[.pointer (some c),.agg #[.i 1,.int .u8 0,.int .u8 0,.slice none 0 0]] e λy w9=>R (.returned (.bool y)) w9) (aF (a.toList==(ByteArray.mk #[97,108,116]).toList) (bX e (c.add 2) (.i 4) λo=>kept [b] e o/\
 dV o R) (aF (a.toList==(ByteArray.mk #[97,108,108]).toList) (bX e (c.add 2) (.i 5) λp=>kept [b] e p/\
 dV p R) (aF (a.toList==(ByteArray.mk #[99,97,116]).toList) (bX e (c.add 2) (.i 3) λq=>kept [b] e q/\
 dV q R) (R (.returned (.bool false)) e)))))) (R (.returned (.bool false)) f))))):Calls Tryz.prog gp #[.pointer (some c),.agg #[.int .u8 d,.int .u8 g,.int .u8 j,.string a,.i r]] w R:=aO X [eV] h
end regex_reader_item
namespace regex_reader_feed
noncomputable abbrev X:Fx:=⟨Tryz.prog,Tryz.f143,[(25,(.sq [0,1,2,3,4,6] (.fork (.sq [5,7,8,9,11,12] (.fork (ls [10,13]) (ls [13,10]))) (.sq [7,5,8,9,11,12] (.fork (ls [10,13]) (ls [13,10])))))),(28,ls [0,1,2,3,4,5,6,7,8,9,10,11,12,13,14,15,16,17,18])],[3]⟩
abbrev P0:Ps:=[]
abbrev dV (w:World) (R:aD):Prop:=
 R (.returned (.bool true)) w
noncomputable def eV:=bK X [] (bH [4]) P0 dV
abbrev P1:Ps:=[(0,.v [.r])]
abbrev fY (a:Addr) (w:World) (R:aD):Prop:=
 bX w (a.add 1) (.i 0) λb=>
 dV b R
noncomputable def gn:=bK X [eV] (bH [2,1,7,1,1,1,3]) P1 fY
theorem cV (j:Addr) (e aa ab:Int) (ac:ByteArray) (ad:Int) (w:World) (R:aD) (h:bE [] w λb w1=>
 Xy [b] eT #[.pointer (some j)] w1 λm g=>∃af:Int,g.cell? (j.add 1)=some (.i af)/\
 aF (af==2) (aF (e==40) (∃cb:Int,g.cell? (j.add 2)=some (.i cb)/\
 jK [b] jr #[.pointer (some j),.i cb,.i 1] g λcr w3=>R (.returned (.bool cr)) w3) (R (.returned (.bool false)) g)) (aF (af==1) (aF (e==41) (jK [b] gN #[.pointer (some j),.slice none 0 0] g λcs w4=>R (.returned (.bool cs)) w4) (jK [b] gp #[.pointer (some j),.agg #[.int .u8 e,.int .u8 aa,.int .u8 ab,.string ac,.i ad]] g λct w5=>R (.returned (.bool ct)) w5)) (aF (af==0) (jK [b] gp #[.pointer (some j),.agg #[.int .u8 e,.int .u8 aa,.int .u8 ab,.string ac,.i ad]] g λcu w6=>R (.returned (.bool cu)) w6) (aF (e==42) (aX m λbu=>cB g (bu.add 6) λbv bw bx bz=>fJ g (.cells #[.i bv,.int .u8 bw,.int .u8 bx,bz.v] aB) λw7=>
 aX m λo=>bX w7 (o.add 6) (.i 7) λw8=>kept [b] w7 w8/\
 bX w8 ((o.add 6).add 1) (.int .u8 0) λw9=>kept [b] w8 w9/\
 bX w9 ((o.add 6).add 2) (.int .u8 0) λav=>kept [b] w9 av/\
 bX av ((o.add 6).add 3) (.slice (some (nb g)) 1 1) λce=>kept [b] av ce/\
 dV ce R) (aF (e==38) (QW [b] iX #[.pointer m] g λcf=>bX cf (j.add 1) (.i 0) λcg=>kept [b] cf cg/\
 dV cg R) (aF (e==124) (QW [b] iE #[.pointer m] g λch=>bX ch (j.add 1) (.i 0) λci=>kept [b] ch ci/\
 dV ci R) (aF (e==44) (aX m λca=>∃cc:Int,g.cell? (ca.add 0)=some (.i cc)/\
 aF (decide (cc<0)) (R (.returned (.bool false)) g) (aX m λl=>loc [b] g λal=>∃c:Sl,al.cell? (l.add 1)=some (c.v)/\
 ((uA [b] e8 #[.pointer m] al λag ah ai aj aw=>aw.cell? (l.add 1)=some (c.v)/\fJ aw (.cells #[.i 0,.int .u8 0,.int .u8 0,.slice none 0 0] aB) λax=>
 ax.cell? (l.add 1)=some (c.v)/\∃(ae:Sl) (x:World),Sem.run Tryz.prog (Builtin.append_ #[aE,aE] aE #[c.v,.slice (some (nb aw)) 1 1]) ax=.ok (ae.v) x/\kept [b] ax x/\(0:Int)<=((c.n:Nat):Int)/\((c.n:Nat):Int)<((ae.n:Nat):Int)/\aX ae.a λf=>aX m λak=>((bX x (f.add (Int.toNat ((c.n:Nat):Int) *4)) (.i ag) λay=>kept [b] x ay/\
 bX ay ((f.add (Int.toNat ((c.n:Nat):Int) *4)).add 1) (.int .u8 ah) λaz=>kept [b] ay az/\
 bX az ((f.add (Int.toNat ((c.n:Nat):Int) *4)).add 2) (.int .u8 ai) λbb=>kept [b] az bb/\
 bX bb ((f.add (Int.toNat ((c.n:Nat):Int) *4)).add 3) (aj.v) λbc=>kept [b] bb bc/\
 bX bc (ak.add 1) (ae.v) λcj=>kept [b] bc cj/\
 fY j cj R)/\(bX x (ak.add 1) (ae.v) λbd=>kept [b] x bd/\
 bX bd (f.add (Int.toNat ((c.n:Nat):Int) *4)) (.i ag) λbe=>kept [b] bd be/\
 bX be ((f.add (Int.toNat ((c.n:Nat):Int) *4)).add 1) (.int .u8 ah) λbf=>kept [b] be bf/\
 bX bf ((f.add (Int.toNat ((c.n:Nat):Int) *4)).add 2) (.int .u8 ai) λbg=>kept [b] bf bg/\
 bX bg ((f.add (Int.toNat ((c.n:Nat):Int) *4)).add 3) (aj.v) λck=>kept [b] bg ck/\
 fY j ck R)))/\(fJ al (.cells #[.i 0,.int .u8 0,.int .u8 0,.slice none 0 0] aB) λcl=>
 cl.cell? (l.add 1)=some (c.v)/\uA [b] e8 #[.pointer m] cl λq r s t bh=>bh.cell? (l.add 1)=some (c.v)/\∃(k:Sl) (y:World),Sem.run Tryz.prog (Builtin.append_ #[aE,aE] aE #[c.v,.slice (some (nb al)) 1 1]) bh=.ok (k.v) y/\kept [b] bh y/\(0:Int)<=((c.n:Nat):Int)/\((c.n:Nat):Int)<((k.n:Nat):Int)/\aX k.a λd=>aX m λu=>((bX y (d.add (Int.toNat ((c.n:Nat):Int) *4)) (.i q) λbi=>kept [b] y bi/\
 bX bi ((d.add (Int.toNat ((c.n:Nat):Int) *4)).add 1) (.int .u8 r) λbj=>kept [b] bi bj/\
 bX bj ((d.add (Int.toNat ((c.n:Nat):Int) *4)).add 2) (.int .u8 s) λbk=>kept [b] bj bk/\
 bX bk ((d.add (Int.toNat ((c.n:Nat):Int) *4)).add 3) (t.v) λbm=>kept [b] bk bm/\
 bX bm (u.add 1) (k.v) λcm=>kept [b] bm cm/\
 fY j cm R)/\(bX y (u.add 1) (k.v) λbn=>kept [b] y bn/\
 bX bn (d.add (Int.toNat ((c.n:Nat):Int) *4)) (.i q) λbo=>kept [b] bn bo/\
 bX bo ((d.add (Int.toNat ((c.n:Nat):Int) *4)).add 1) (.int .u8 r) λbp=>kept [b] bo bp/\
 bX bp ((d.add (Int.toNat ((c.n:Nat):Int) *4)).add 2) (.int .u8 s) λbq=>kept [b] bp bq/\
 bX bq ((d.add (Int.toNat ((c.n:Nat):Int) *4)).add 3) (t.v) λcn=>kept [b] bq cn/\
 fY j cn R)))))) (aF (e==41) (loc [b] g λam=>∃cd:Sl,am.cell? (j.add 0)=some (cd.v)/\
 aF (decide (((cd.n:Nat):Int)>1)) (aX m λp=>∃z:Sl,am.cell? (p.add 1)=some (z.v)/\
 uA [b] e8 #[.pointer m] am λan ao ap aq br=>br.cell? (p.add 1)=some (z.v)/\fJ br (.cells #[.i an,.int .u8 ao,.int .u8 ap,aq.v] aB) λbs=>
 bs.cell? (p.add 1)=some (z.v)/\∃(ar:Sl) (bt:World),Sem.run Tryz.prog (Builtin.append_ #[aE,aE] aE #[z.v,.slice (some (nb br)) 1 1]) bs=.ok (ar.v) bt/\kept [b] bs bt/\jK [b] gN #[.pointer (some j),ar.v] bt λco cw=>R (.returned (.bool co)) cw) (R (.returned (.bool false)) am)) (aF (e==36) (∃au:Sl,g.cell? (j.add 0)=some (au.v)/\
 R (.returned (.bool (((au.n:Nat):Int)==1))) g) (QW [b] iF #[.pointer m] g λcx=>jK [b] gp #[.pointer (some j),.agg #[.int .u8 e,.int .u8 aa,.int .u8 ab,.string ac,.i ad]] cx λcv cy=>R (.returned (.bool cv)) cy)))))))))):Calls Tryz.prog lV #[.pointer (some j),.agg #[.int .u8 e,.int .u8 aa,.int .u8 ab,.string ac,.i ad]] w R:=aO X [gn,eV] h
end regex_reader_feed
namespace regex_Parse
noncomputable def C0:Code:=(Tryz.f130.body).getD .skip
noncomputable def C1:=C0.sn
noncomputable def C2:=C1.sn
noncomputable def C3:=C2.sn
noncomputable def C4:=C3.fs
noncomputable def C5:=C4.sn
noncomputable def C6:=C5.fs
noncomputable def C7:=W.Code.asn C6
noncomputable def C8:=W.Code.bdy C6
noncomputable def C9:=C8.fs
noncomputable def QD:=C9.sn
noncomputable def N9:=QD.fs
abbrev Q0 (a:Nat) (b:Loop) (R:aD):Exit->Act->World->Prop:=(roundPost Tryz.prog a R)
abbrev Q1 (b:Nat) (a:Loop) (R:aD):Exit->Act->World->Prop:=(Exit.inBlock 1 (Q0 b a R))
noncomputable def UJ:=N9.fs
noncomputable def UK:=N9.sn
abbrev S3 (f:Nat) (b:LoopState->Option Code->Obj) (g j k c:Addr) (w:World) (R:aD):Prop:=
 uU w λd=>∃a:Int,d.cell? (c.add 4)=some (.i a)/\
 qx d g (.i 0) (.int .u8 0) (.int .u8 0) (.slice none 0 0) λe=>e.cell? (c.add 4)=some (.i a)/\bX e j (.i a) λl=>
 bX l k (.i 2) λm=>
 KE m f (b .busy none) (b .done (some .ret)) λn=>R (.returned (.bool false)) n
def QK (a:Nat) (b:LoopState->Option Code->Obj) (E:Env) (w:World) (R:aD):Prop:=W.gB (Env.get? E 2) λc=>W.gB (Env.get? E 3) λd=>W.gB (Env.get? E 4) λe=>W.gB (Env.get? E 6) λf=>S3 a b c d e f w R
theorem KN (d:Nat) (b:Loop) (R:aD) (E:Env) (w:World) (h:QK d (lo b) E w R):WP Tryz.prog ⟨32,[],some d⟩ N9 (Q1 d b R) E w:=by
 obtain ⟨t2,Gv,DQ⟩:=W.bQ h
 obtain ⟨t3,D5,DR⟩:=W.bQ DQ
 obtain ⟨t4,Gw,DS⟩:=W.bQ DR
 obtain ⟨t6,ZL,Gk⟩:=W.bQ DS
 exact λa e=>WP.at (n:=⟨32,[],some d⟩) (E:=[(2,.pointer (some t2)),(3,.pointer (some t3)),(4,.pointer (some t4)),(6,.pointer (some t6))]) (WP.seq (c:=N9) (x:=UJ) (y:=UK) (by kernel_rfl)<|WP.draw (c:=UJ) [0,1,2,3,4,5] (λE w=>KE w d ((lo b) .busy none) ((lo b) .done (some .ret)) λi=>R (.returned (.bool false)) i) (by kernel_rfl) (mp Gk) λ_ _ a f g=>(WP.ret (c:=UK) (Q:=(Q1 d b R)) (by kernel_rfl) λa f=>(show roundPost Tryz.prog d R .ret a _ from J7 (a:=a) (g).1 (g).2)) a f) (e.cons Gv (e.cons D5 (e.cons Gw (e.cons ZL e.nil))))
noncomputable def UL:=C9.fs
noncomputable def Vf:=QD.sn
abbrev S2 (g:Nat) (f:LoopState->Option Code->Obj) (n o p m k:Addr) (w:World) (R:aD):Prop:=
 RB w k λa b c d e=>zY lV #[.pointer (some m),.agg #[.int .u8 a,.int .u8 b,.int .u8 c,.string d,.i e]] w λj l=>aF (!j) (S3 g f n o p k l R) (KE l g (f .busy none) (f .ready none) λq=>R (.returned (.bool true)) q)
def QJ (a:Nat) (b:LoopState->Option Code->Obj) (E:Env) (w:World) (R:aD):Prop:=W.gB (Env.get? E 2) λd=>W.gB (Env.get? E 3) λe=>W.gB (Env.get? E 4) λf=>W.gB (Env.get? E 5) λc=>W.gB (Env.get? E 6) λg=>S2 a b d e f c g w R
theorem KM (d:Nat) (b:Loop) (R:aD) (E:Env) (w:World) (h:QJ d (lo b) E w R):WP Tryz.prog ⟨32,[],some d⟩ C9 (Q1 d b R) E w:=by
 obtain ⟨t2,Gv,DQ⟩:=W.bQ h
 obtain ⟨t3,D5,DR⟩:=W.bQ DQ
 obtain ⟨t4,Gw,DS⟩:=W.bQ DR
 obtain ⟨r5,TN,Gk⟩:=W.bQ DS
 obtain ⟨t6,ZL,OX⟩:=W.bQ Gk
 exact λa f=>WP.at (n:=⟨32,[],some d⟩) (E:=[(2,.pointer (some t2)),(3,.pointer (some t3)),(4,.pointer (some t4)),(5,.pointer (some r5)),(6,.pointer (some t6))]) (WP.seq (c:=C9) (x:=UL) (y:=QD) (by kernel_rfl)<|WP.RL (c:=UL) (λE w=>pH (Env.val E (.tmp 20)) (QK d (lo b) E w R) (KE w d ((lo b) .busy none) ((lo b) .ready none) λi=>R (.returned (.bool true)) i)) (by kernel_rfl) (mp OX) λ_ _ a g e=>(WP.pH (c:=QD) (x:=N9) (y:=Vf) (o:=.tmp 20) (by kernel_rfl) (λe=>(KN d b R _ _ e)) (λe=>(WP.skip (c:=Vf) (by kernel_rfl) λa g=>J6 (a:=a) (e).1 (e).2)) e) a g) (f.cons Gv (f.cons D5 (f.cons Gw (f.cons TN (f.cons ZL f.nil)))))
abbrev Q2 (b:Nat) (a:Loop) (R:aD):Exit->Act->World->Prop:=(BE Tryz.prog 32 b a C8 (roundPost Tryz.prog b R))
abbrev S1 (g:Nat) (f:LoopState->Option Code->Obj) (k l m j:Addr) (a b c:Int) (d:ByteArray) (e:Int) (w:World) (R:aD):Prop:=
 fJ w (.cells #[.int .u8 0,.int .u8 0,.int .u8 0,.s0,.i 0] fG) λn=>
 W5 n (nb w) (.int .u8 a) (.int .u8 b) (.int .u8 c) (.string d) (.i e) λo=>KE o g (f .ready none) (f .busy none) λp=>S2 g f k l m j (nb w) p R
def Vj (r:Nat) (s:LoopState->Option Code->Obj) (E:Env) (w:World) (R:aD):Prop:=W.gB (Env.get? E 2) λu=>W.gB (Env.get? E 3) λv=>W.gB (Env.get? E 4) λx=>W.gB (Env.get? E 5) λt=>W.asAgg (Env.get? E 17) λa=>W.sd a λg b=>W.asInt .u8 (some g) λm=>W.sd b λi c=>W.asInt .u8 (some i) λn=>W.sd c λj d=>W.asInt .u8 (some j) λo=>W.sd d λk e=>W.yk (some k) λp=>W.sd e λl f=>W.asInt .i64 (some l) λq=>W.AJ f<|S1 r s u v x t m n o p q w R
theorem KL (d:Nat) (b:Loop) (R:aD) (E:Env) (w:World) (h:Vj d (lo b) E w R):WP Tryz.prog ⟨32,[],some d⟩ C7 (Q2 d b R) E w:=by
 obtain ⟨t2,Gv,DQ⟩:=W.bQ h
 obtain ⟨t3,D5,DR⟩:=W.bQ DQ
 obtain ⟨t4,Gw,DS⟩:=W.bQ DR
 obtain ⟨r5,TN,Gk⟩:=W.bQ DS
 obtain ⟨aad,ZK,OX⟩:=W.FL Gk
 obtain ⟨aaj,aae,rfl,Y4⟩:=W.mR OX
 obtain ⟨IT,ex,Y5⟩:=W.pC Y4
 obtain rfl:=Option.some.inj ex
 obtain ⟨aak,aaf,rfl,Y6⟩:=W.mR Y5
 obtain ⟨IU,ex,Y7⟩:=W.pC Y6
 obtain rfl:=Option.some.inj ex
 obtain ⟨aal,aag,rfl,TB⟩:=W.mR Y7
 obtain ⟨IV,ex,YY⟩:=W.pC TB
 obtain rfl:=Option.some.inj ex
 obtain ⟨aam,aah,rfl,YZ⟩:=W.mR YY
 obtain ⟨IW,ex,Y0⟩:=W.pD YZ
 obtain rfl:=Option.some.inj ex
 obtain ⟨aan,aai,rfl,Y1⟩:=W.mR Y0
 obtain ⟨W',ex,Y2⟩:=W.pC Y1
 obtain rfl:=Option.some.inj ex
 obtain ⟨rfl,Y3⟩:=W.tS Y2
 exact λa e=>WP.at (n:=⟨32,[],some d⟩) (E:=[(2,.pointer (some t2)),(3,.pointer (some t3)),(4,.pointer (some t4)),(5,.pointer (some r5)),(17,.agg #[.int .u8 IT,.int .u8 IU,.int .u8 IV,.string IW,.i W'])]) (WP.RL (c:=C7) (λE w=>w.heap[d]? =some (lo b .ready none)/\((λw=>QJ d (lo b) E w R) (w.putObj d (lo b .busy none)))) (by kernel_rfl) (mp Y3) λ_ _ a g f=>⟨(f).1,(WP.block (c:=C8) (x:=C9) (id:=1) (by kernel_rfl) (KM d b R _ _ (f).2)) a g⟩) (e.cons Gv (e.cons D5 (e.cons Gw (e.cons TN (e.cons ZK e.nil)))))
abbrev Sy (g:Nat) (i:LoopState->Option Code->Obj) (n:ByteArray) (k l m j f:Addr) (a b c:Int) (d:ByteArray) (e:Int) (w:World) (R:aD):Prop:=
 S1 g i k l m j a b c d e w R
theorem Yu (j:Nat) (b:Loop) (l:ByteArray) (m n o k a:Addr) (c d e:Int) (f:ByteArray) (g:Int) (w:World) (R:aD) (h:Sy j (lo b) l m n o k a c d e f g w R):WP Tryz.prog ⟨32,[],some j⟩ C7 (BE Tryz.prog 32 j b C8 (roundPost Tryz.prog j R)) (EE [(0,.string l),(2,.pointer (some m)),(3,.pointer (some n)),(4,.pointer (some o)),(5,.pointer (some k)),(16,.func (.func fP) #[] #[.pointer (some a)])] [17] [.agg #[.int .u8 c,.int .u8 d,.int .u8 e,.string f,.i g]]) w:=
 (KL j b R _ _ (mp h))
noncomputable def N':=C3.sn
noncomputable def UM:=N'.sn
noncomputable def Sz:=UM.fs
noncomputable def UN:=Sz.sn
noncomputable def Oa:=UN.fs
noncomputable def QE:=UM.sn
abbrev Q3 (R:aD):QG:=(Exit.then (Ac Tryz.prog (cx 32) QE (bodyPostM Fence.wide 0 Tryz.prog Tryz.f130 R)) (bodyPostM Fence.wide 0 Tryz.prog Tryz.f130 R))
noncomputable def Xq:=Oa.fs
noncomputable def Xr:=Oa.sn
abbrev S6 (m:Nat) (n:ByteArray) (j k l:Addr) (w:World) (R:aD):Prop:=
 qx w j (.i 0) (.int .u8 0) (.int .u8 0) (.slice none 0 0) λo=>bX o k (.i ((n.size:Nat):Int)) λp=>
 bX p l (.i 4) λq=>
 KE q m (.deferred (some [])) (.deferred none) λa=>cB a j λb c d e=>∃f:Int,a.cell? k=some (.i f)/\
 ∃g:Int,a.cell? l=some (.i g)/\
 R (.returned (.tuple #[.agg #[.i b,.int .u8 c,.int .u8 d,e.v],.i f,.i g])) a
def QM (a:Nat) (E:Env) (w:World) (R:aD):Prop:=W.yk (Env.get? E 0) λb=>W.gB (Env.get? E 2) λc=>W.gB (Env.get? E 3) λd=>W.gB (Env.get? E 4) λe=>S6 a b c d e w R
theorem KR (d:Nat) (R:aD) (E:Env) (w:World) (h:QM d E w R):WP Tryz.prog (marked 32 d) Oa (Q3 R) E w:=by
 obtain ⟨s0,JJ,DQ⟩:=W.pD h
 obtain ⟨t2,Gv,DR⟩:=W.bQ DQ
 obtain ⟨t3,D5,DS⟩:=W.bQ DR
 obtain ⟨t4,Gw,Gk⟩:=W.bQ DS
 exact λa b=>WP.at (n:=(marked 32 d)) (E:=[(0,.string s0),(2,.pointer (some t2)),(3,.pointer (some t3)),(4,.pointer (some t4))]) (WP.seq (c:=Oa) (x:=Xq) (y:=Xr) (by kernel_rfl)<|WP.RL (c:=Xq) (λE w=>GX Tryz.prog Tryz.f130 E w d R) (by kernel_rfl) (mp Gk) λ_ _ a e f=>(WP.ret (c:=Xr) (by kernel_rfl) λa e=>rv e f) a e) (b.cons JJ (b.cons Gv (b.cons D5 (b.cons Gw b.nil))))
abbrev Q4 (R:aD):QG:=(bodyPostM Fence.wide 0 Tryz.prog Tryz.f130 R)
noncomputable def C24:=QE.fs
noncomputable def C25:=QE.sn
abbrev S7 (q:Nat) (n o p u:Addr) (w:World) (R:aD):Prop:=
 cB w u λa b c d=>qx w n (.i a) (.int .u8 b) (.int .u8 c) (d.v) λr=>bX r o (.i 0) λs=>
 bX s p (.i 0) λt=>
 KE t q (.deferred (some [])) (.deferred none) λe=>cB e n λf g j k=>∃l:Int,e.cell? o=some (.i l)/\
 ∃m:Int,e.cell? p=some (.i m)/\
 R (.returned (.tuple #[.agg #[.i f,.int .u8 g,.int .u8 j,k.v],.i l,.i m])) e
def QN (a:Nat) (E:Env) (w:World) (R:aD):Prop:=W.gB (Env.get? E 2) λb=>W.gB (Env.get? E 3) λc=>W.gB (Env.get? E 4) λd=>W.gB (Env.get? E 7) λe=>S7 a b c d e w R
theorem KS (d:Nat) (R:aD) (E:Env) (w:World) (h:QN d E w R):WP Tryz.prog (marked 32 d) QE (Q4 R) E w:=by
 obtain ⟨t2,Gv,DQ⟩:=W.bQ h
 obtain ⟨t3,D5,DR⟩:=W.bQ DQ
 obtain ⟨t4,Gw,DS⟩:=W.bQ DR
 obtain ⟨x7,ZM,Gk⟩:=W.bQ DS
 exact λa b=>WP.at (n:=(marked 32 d)) (E:=[(2,.pointer (some t2)),(3,.pointer (some t3)),(4,.pointer (some t4)),(7,.pointer (some x7))]) (WP.seq (c:=QE) (x:=C24) (y:=C25) (by kernel_rfl)<|WP.RL (c:=C24) (λE w=>GX Tryz.prog Tryz.f130 E w d R) (by kernel_rfl) (mp Gk) λ_ _ a e f=>(WP.ret (c:=C25) (by kernel_rfl) λa e=>rv e f) a e) (b.cons Gv (b.cons D5 (b.cons Gw (b.cons ZM b.nil))))
noncomputable def C26:=Sz.fs
noncomputable def C27:=UN.sn
abbrev S5 (e:Nat) (n:ByteArray) (f j k m:Addr) (w:World) (R:aD):Prop:=
 cB w m λa b c d=>zY jG #[.agg #[.i a,.int .u8 b,.int .u8 c,d.v]] w λg l=>aF g (S6 e n f j k l R) (S7 e f j k m l R)
def QL (a:Nat) (E:Env) (w:World) (R:aD):Prop:=W.yk (Env.get? E 0) λb=>W.gB (Env.get? E 2) λc=>W.gB (Env.get? E 3) λd=>W.gB (Env.get? E 4) λe=>W.gB (Env.get? E 7) λf=>S5 a b c d e f w R
theorem KP (b:Nat) (R:aD) (E:Env) (w:World) (h:QL b E w R):WP Tryz.prog (marked 32 b) Sz (Q3 R) E w:=by
 obtain ⟨s0,JJ,DQ⟩:=W.pD h
 obtain ⟨t2,Gv,DR⟩:=W.bQ DQ
 obtain ⟨t3,D5,DS⟩:=W.bQ DR
 obtain ⟨t4,Gw,Gk⟩:=W.bQ DS
 obtain ⟨x7,ZM,OX⟩:=W.bQ Gk
 exact λa d=>WP.at (n:=(marked 32 b)) (E:=[(0,.string s0),(2,.pointer (some t2)),(3,.pointer (some t3)),(4,.pointer (some t4)),(7,.pointer (some x7))]) (WP.seq (c:=Sz) (x:=C26) (y:=UN) (by kernel_rfl)<|WP.RL (c:=C26) (λE w=>pH (Env.val E (.tmp 27)) (QM b E w R) (QN b E w R)) (by kernel_rfl) (mp OX) λ_ _ a f e=>(WP.pH (c:=UN) (x:=Oa) (y:=C27) (o:=.tmp 27) (by kernel_rfl) (λe=>(KR b R _ _ e)) (λe=>(WP.skip (c:=C27) (by kernel_rfl) λa f=>(KS b R _ _ e) a f)) e) a f) (d.cons JJ (d.cons Gv (d.cons D5 (d.cons Gw (d.cons ZM d.nil)))))
noncomputable def C28:=N'.fs
abbrev S4 (g:Nat) (k:ByteArray) (l m n j:Addr) (w:World) (R:aD):Prop:=
 ca9 eT #[.pointer (some j)] w λf o=>NX e8 #[.pointer f] o λa b c d e=>fJ e (.cells #[.i 0,.int .u8 0,.int .u8 0,.slice none 0 0] aB) λp=>
 qx p (nb e) (.i a) (.int .u8 b) (.int .u8 c) (d.v) λq=>S5 g k l m n (nb e) q R
def Vk (a:Nat) (E:Env) (w:World) (R:aD):Prop:=W.yk (Env.get? E 0) λc=>W.gB (Env.get? E 2) λd=>W.gB (Env.get? E 3) λe=>W.gB (Env.get? E 4) λf=>W.gB (Env.get? E 5) λb=>S4 a c d e f b w R
theorem KO (d:Nat) (R:aD) (E:Env) (w:World) (h:Vk d E w R):WP Tryz.prog (marked 32 d) N' (Q4 R) E w:=by
 obtain ⟨s0,JJ,DQ⟩:=W.pD h
 obtain ⟨t2,Gv,DR⟩:=W.bQ DQ
 obtain ⟨t3,D5,DS⟩:=W.bQ DR
 obtain ⟨t4,Gw,Gk⟩:=W.bQ DS
 obtain ⟨r5,TN,OX⟩:=W.bQ Gk
 exact λa b=>WP.at (n:=(marked 32 d)) (E:=[(0,.string s0),(2,.pointer (some t2)),(3,.pointer (some t3)),(4,.pointer (some t4)),(5,.pointer (some r5))]) (WP.seq (c:=N') (x:=C28) (y:=UM) (by kernel_rfl)<|WP.RL (c:=C28) (λE w=>QL d E w R) (by kernel_rfl) (mp OX) λ_ _ a e f=>(WP.seq (c:=UM) (x:=Sz) (y:=QE) (by kernel_rfl) (KP d R _ _ f)) a e) (b.cons JJ (b.cons Gv (b.cons D5 (b.cons Gw (b.cons TN b.nil)))))
abbrev S0 (s0:ByteArray) (q r s r5 a:Addr) (w:World) (R:aD):Prop:=
 ∀g:LoopState->Option Code->Obj,(∀(b c d:Int) (e:ByteArray) (f:Int) (t:World) (u:Bool->World->Prop),t.heap[w.heap.size+1]? =some (g .ready none)->Sy (w.heap.size+1) g s0 q r s r5 a b c d e f t (λp w1=>∃x:Bool,p=.returned (.bool x)/\u x w1)->wW Tryz.prog (w.heap.size+1) #[.agg #[.int .u8 b,.int .u8 c,.int .u8 d,.string e,.i f]] t u)->
 Calls Tryz.prog fP #[.func (.yield (w.heap.size+1)) #[] #[],.pointer (some a)] ((w.alloc (.deferred (some []))).alloc (g .ready none)) λp w2=>(∃v_,p=.returned v_)/\uG w2 (w.heap.size+1) g (λj=>S4 w.heap.size s0 q r s r5 j R) (λae j=>False) (λj=>KE j w.heap.size (.deferred (some [])) (.deferred none) λk=>cB k q λl m n o=>∃y:Int,k.cell? r=some (.i y)/\
 ∃z:Int,k.cell? s=some (.i z)/\
 R (.returned (.tuple #[.agg #[.i l,.int .u8 m,.int .u8 n,o.v],.i y,.i z])) k)
abbrev Q5 (R:aD):QG:=(Exit.then (Ac Tryz.prog (cx 32) N' (bodyPostM Fence.wide 0 Tryz.prog Tryz.f130 R)) (bodyPostM Fence.wide 0 Tryz.prog Tryz.f130 R))
abbrev Q6 (R:aD):QG:=(Exit.inBlock 0 (Q5 R))
def QI (E:Env) (w:World) (R:aD):Prop:=W.yk (Env.get? E 0) λg=>W.gB (Env.get? E 2) λi=>W.gB (Env.get? E 3) λj=>W.gB (Env.get? E 4) λk=>W.gB (Env.get? E 5) λf=>W.BM fP (Env.get? E 16) λc a=>W.AJ c<|W.sd a λd b=>W.gB (some d) λe=>W.AJ b<|S0 g i j k f e w R
theorem KK:KOk Tryz.prog 32 QI C6 Q6:=by
 intro R E w h
 obtain ⟨s0,JJ,DQ⟩:=W.pD h
 obtain ⟨t2,Gv,DR⟩:=W.bQ DQ
 obtain ⟨t3,D5,DS⟩:=W.bQ DR
 obtain ⟨t4,Gw,Gk⟩:=W.bQ DS
 obtain ⟨r5,TN,OX⟩:=W.bQ Gk
 obtain ⟨X5,X3,ZJ,Y4⟩:=W.Dh OX
 obtain ⟨rfl,Y5⟩:=W.tS Y4
 obtain ⟨X6,X4,rfl,Y6⟩:=W.mR Y5
 obtain ⟨He,ex,Y7⟩:=W.bQ Y6
 obtain rfl:=Option.some.inj ex
 obtain ⟨rfl,TB⟩:=W.tS Y7
 exact λa b=>WP.at (n:=(cx 32)) (E:=[(0,.string s0),(2,.pointer (some t2)),(3,.pointer (some t3)),(4,.pointer (some t4)),(5,.pointer (some r5)),(16,.func (.func fP) #[] #[.pointer (some He)])]) (WP.range (m:=32) (c:=C6) (g:=.tmp 16) (ps:=#[17]) (assign:=C7) (body:=C8) (gf:=fP) (lb:=#[.pointer (some He)]) (λl=>S4 w.heap.size s0 t2 t3 t4 r5 l R) (λae l=>False) (λl=>KE l w.heap.size (.deferred (some [])) (.deferred none) λq=>cB q t2 λs t u x=>∃r3:Int,q.cell? t3=some (.i r3)/\
 ∃r4:Int,q.cell? t4=some (.i r4)/\
 R (.returned (.tuple #[.agg #[.i s,.int .u8 t,.int .u8 u,x.v],.i r3,.i r4])) q) (by kernel_rfl) rfl (by kernel_rfl)
  (λl o a r=>(KO w.heap.size R _ _ (mp o)) a r)
  (λ_ _ o=>o.elim)
  (λl o a r=>rv r (mp o))
  (λp aa=>TB (lo p) (λd e f j k w_ K_ z y=>NS (args:=[.agg #[.int .u8 d,.int .u8 e,.int .u8 f,.string j,.i k]]) aa z rfl (by kernel_rfl) (λ_ _ h=>h) (Yu _ p s0 t2 t3 t4 r5 He d e f j k w_ _ y)))) (b.cons JJ (b.cons Gv (b.cons D5 (b.cons Gw (b.cons TN (b.cons ZJ b.nil))))))
noncomputable def Ya:=C1.fs
noncomputable def Yb:=Ya.sn
noncomputable def Yc:=Yb.fs
noncomputable def C32:=Yc.sn
noncomputable def C33:=Yb.sn
theorem ok (j:ByteArray) (w:World) (R:aD) (h:fJ w (.cells #[.i 0,.int .u8 0,.int .u8 0,.slice none 0 0] aB) λm=>
 fJ m (.cells #[.i 0] bW) λn=>
 fJ n (.cells #[.i 0] vL) λu=>
 aF (decide (((j.size:Nat):Int)>4096)) (qx u (nb w) (.i 0) (.int .u8 0) (.int .u8 0) (.slice none 0 0) λw7=>bX w7 (nb m) (.i 4096) λw8=>
 bX w8 (nb n) (.i 4) λo=>
 cB o (nb w) λq r s t=>∃x:Int,o.cell? (nb m)=some (.i x)/\
 ∃y:Int,o.cell? (nb n)=some (.i y)/\
 R (.returned (.tuple #[.agg #[.i q,.int .u8 r,.int .u8 s,t.v],.i x,.i y])) o) (fJ u (.cells #[.i (-1),.slice none 0 0,.slice none 0 0,.slice none 0 0,.slice none 0 0,.i 0,.i 0,.int .u8 0,.int .u8 0,.slice none 0 0] cA) λl=>
 fJ l (.cells #[.slice none 0 0,.i 0,.i 0] gX) λaa=>
 Hc aa (nb l) (.slice (some (nb u)) 1 1) (.i 0) (.i 0) λab=>YA sK #[.string j] ab λz ac=>W.BM fP (some z) λf d=>W.AJ f<|W.sd d λg e=>W.gB (some g) λk=>W.AJ e<|S0 j (nb w) (nb m) (nb n) (nb l) k ac R)):Calls Tryz.prog qq #[.string j] w R:=
 BX (R:=R) (fn:=Tryz.f130) (c:=C0) (args:=[.string j]) (by kernel_rfl) (by kernel_rfl) (by kernel_rfl) (sr C0 (show (λ(E:Env) (w:World)=>xQ Tryz.prog C0 (λE w=>xQ Tryz.prog Ya (λE w=>pH (Env.val E (.tmp 10)) (xQ Tryz.prog Yc (λE w=>rJ Tryz.prog Tryz.f130 E w (λv=>R (.returned v) w)) E w) (xQ Tryz.prog C2 (λE w=>xQ Tryz.prog C4 (λE w=>QI E w R) E w) E w)) E w) E w) (rF 0 [.string j]) w from mp h) λ_ _ b=>(sq C1 (sr Ya b λ_ _ b=>(cn Yb b (λb=>(sr Yc b λ_ _ b=>(rt C32 λa p=>GW p b))) (λb=>(sk C33 λa p=>nx p (sr C2 b λ_ _ b=>(sq C3 (sr C4 b λ_ _ b=>(bk C5 0 (by kernel_rfl) (KK R _ _ b)))))))))))
end regex_Parse
namespace regex_byteText
noncomputable abbrev X:Fx:=⟨Tryz.prog,Tryz.f196,[(3,ls [0,1,2,3,4,5,6,7,8])],[]⟩
theorem ok (a:Int) (w:World) (R:aD) (h:zY n8 #[.int .u8 a] w λk e=>aF k (fJ e (.cells #[.int .u8 39,.int .u8 a,.int .u8 39] dE) λf=>
 ∃i:ByteArray,Sem.run Tryz.prog (Go.convert bL cI (.slice (some (nb e)) 3 3)) f=.ok (.string i) f/\R (.returned (.string i)) f) (uU e λj=>(0:Int)<=(Int.fdiv a (2^(4)))/\∃b:UInt8,(ByteArray.mk #[48,49,50,51,52,53,54,55,56,57,97,98,99,100,101,102])[Int.toNat (Int.fdiv a (2^(4)))]? =some b/\(0:Int)<=(Og .u8 a 15)/\∃c:UInt8,(ByteArray.mk #[48,49,50,51,52,53,54,55,56,57,97,98,99,100,101,102])[Int.toNat (Og .u8 a 15)]? =some c/\fJ j (.cells #[.int .u8 92,.int .u8 120,.int .u8 ((b.toNat:Nat):Int),.int .u8 ((c.toNat:Nat):Int)] dE) λg=>
 ∃d:ByteArray,Sem.run Tryz.prog (Go.convert bL cI (.slice (some (nb j)) 4 4)) g=.ok (.string d) g/\R (.returned (.string d)) g)):Calls Tryz.prog jF #[.int .u8 a] w R:=aO X [] h
end regex_byteText
namespace regex_text
noncomputable abbrev X:Fx:=⟨Tryz.prog,Tryz.f151,[],[2]⟩
theorem cV (c d e:Int) (f:Sl) (b:Int) (w:World) (R:aD) (h:bE [] w λk l=>
 Th [k] rk #[.agg #[.i c,.int .u8 d,.int .u8 e,f.v]] l λa g j=>aF (decide (g<b)) (¬((((ByteArray.mk #[40]).size+a.size:Nat):Int)>IntKind.i64.max)/\¬(((((ByteArray.mk #[40])++a).size+(ByteArray.mk #[41]).size:Nat):Int)>IntKind.i64.max)/\R (.returned (.string (((ByteArray.mk #[40])++a)++(ByteArray.mk #[41])))) j) (R (.returned (.string a)) j)):Calls Tryz.prog hU #[.agg #[.i c,.int .u8 d,.int .u8 e,f.v],.i b] w R:=aO X [] h
end regex_text
namespace regex_bare
noncomputable abbrev X:Fx:=⟨Tryz.prog,Tryz.f179,[(9,ls [0,1,5,6,2,3,4,7,8,9,10,11])],[1,9]⟩
abbrev P0:Ps:=[(1,.l [.I,.Y,.Y,.s] aB),(5,.v [.st]),(6,.v [.I]),(7,.v [.st]),(79,.v [.s]),(80,.v [.I]),(81,.v [.I])]
def Vl (k:Nat) (c d e:Int) (f:Sl) (b:ByteArray) (a:Int) (l:ByteArray) (g:Sl) (i j:Int) (w:World) (R:aD):Prop:=cJ P0 0 (X.Sem (bH [0,1,1,1,7])) k c d e f b a l g i j w R
noncomputable def LN:=fZ X (bH [0,1,1,1,7]) P0 Vl
abbrev P1:Ps:=[(1,.l [.I,.Y,.Y,.s] aB),(5,.v [.st]),(6,.v [.I]),(7,.v [.st]),(10,.v [.st]),(79,.v [.s]),(80,.v [.I]),(81,.v [.I])]
abbrev gO (m:Nat) (d e f:Int) (g:Sl) (b:ByteArray) (a:Int) (i c:ByteArray) (j:Sl) (k l:Int) (w:World) (R:aD):Prop:=
 ¬(((i.size+c.size:Nat):Int)>IntKind.i64.max)/\Vl m d e f g b a (i++c) j k (IntKind.wrap .i64 (l+1)) w R
noncomputable def hC:=bK X [LN] (bH [3,2,2,2,1,1,7]) P1 gO
theorem Db:∀(m:Nat) (e f g:Int) (j:Sl) (b:ByteArray) (c:Int) (l:ByteArray) (k:Sl) (o d:Int) (w:World) (R:aD) (h:aF (decide (d<o)) ((0:Int)<=d/\d<((k.n:Nat):Int)/\aX k.a λt=>cB w (t.add (Int.toNat d *4)) λu x y z=>bE [m] w λs w2=>
 loc [m,s] w2 λw6=>pG [m,s] hU #[.agg #[.i u,.int .u8 x,.int .u8 y,z.v],.i (IntKind.wrap .i64 (c+1))] w6 λp w7=>aF (decide (d>0)) (¬(((l.size+b.size:Nat):Int)>IntKind.i64.max)/\aF (e==3) ((0:Int)<=(IntKind.wrap .i64 ((((l++b).size:Nat):Int) - 1))/\∃q:UInt8,(l++b)[Int.toNat (IntKind.wrap .i64 ((((l++b).size:Nat):Int) - 1))]? =some q/\jK [m,s] kB #[.int .u8 ((q.toNat:Nat):Int)] w7 λaa w8=>aF aa ((0:Int)<=0/\∃r:UInt8,p[Int.toNat 0]? =some r/\jK [m,s] kB #[.int .u8 ((r.toNat:Nat):Int)] w8 λab w9=>aF ab (¬((((l++b).size+(ByteArray.mk #[32]).size:Nat):Int)>IntKind.i64.max)/\gO m e f g j b c ((l++b)++(ByteArray.mk #[32])) p k o d w9 R) (gO m e f g j b c (l++b) p k o d w9 R)) (gO m e f g j b c (l++b) p k o d w8 R)) (gO m e f g j b c (l++b) p k o d w7 R)) (gO m e f g j b c l p k o d w7 R)) (R (.returned (.tuple #[.string l,.i c])) w)),Vl m e f g j b c l k o d w R:=mp (dD (X:=X) [hC,LN] (bH [0,1,1,1,7]) P0)
abbrev P2:Ps:=[(1,.l [.I,.Y,.Y,.s] aB),(4,.v [.st]),(5,.v [.st]),(6,.v [.I])]
abbrev fY (r:Nat) (o p q:Int) (c:Sl) (b f:ByteArray) (d:Int) (w:World) (R:aD):Prop:=
 aF (((c.n:Nat):Int)==0) (¬(((b.size+(ByteArray.mk #[40,41]).size:Nat):Int)>IntKind.i64.max)/\R (.returned (.tuple #[.string (b++(ByteArray.mk #[40,41])),.i 4])) w) (aF (((c.n:Nat):Int)==1) (¬(((b.size+(ByteArray.mk #[40]).size:Nat):Int)>IntKind.i64.max)/\(0:Int)<=0/\0<((c.n:Nat):Int)/\aX c.a λg=>cB w (g.add (Int.toNat 0 *4)) λj k l m=>pG [r] hU #[.agg #[.i j,.int .u8 k,.int .u8 l,m.v],.i 0] w λe s=>¬((((b++(ByteArray.mk #[40])).size+e.size:Nat):Int)>IntKind.i64.max)/\¬(((((b++(ByteArray.mk #[40]))++e).size+(ByteArray.mk #[41]).size:Nat):Int)>IntKind.i64.max)/\R (.returned (.tuple #[.string (((b++(ByteArray.mk #[40]))++e)++(ByteArray.mk #[41])),.i 4])) s) (Vl r o p q c f d (ByteArray.mk #[]) c ((c.n:Nat):Int) 0 w R))
noncomputable def gn:=bK X [hC,LN] (bH [4]) P2 fY
abbrev dV (i:Nat) (a b c:Int) (d:Sl) (g f:ByteArray) (e:Int) (w:World) (R:aD):Prop:=
 aF (a==4) (fY i a b c d (ByteArray.mk #[97,108,116]) (ByteArray.mk #[124]) 0 w R) (aF (a==5) (fY i a b c d (ByteArray.mk #[97,108,108]) (ByteArray.mk #[38]) 1 w R) (fY i a b c d g f e w R))
noncomputable def eV:=bK X [gn,hC,LN] (bH [3]) P2 dV
theorem cV (b d e:Int) (c:Sl) (w:World) (R:aD) (h:bE [] w λj f=>
 aF (b==0) (R (.returned (.tuple #[.string (ByteArray.mk #[110,111,110,101]),.i 4])) f) (aF (b==1) (R (.returned (.tuple #[.string (ByteArray.mk #[101,109,112,116,121]),.i 4])) f) (aF (b==2) (aF (d==e) (pG [j] jF #[.int .u8 d] f λaa w2=>R (.returned (.tuple #[.string aa,.i 4])) w2) (loc [j] f λw3=>pG [j] jF #[.int .u8 d] w3 λg w4=>¬((((ByteArray.mk #[91]).size+g.size:Nat):Int)>IntKind.i64.max)/\¬(((((ByteArray.mk #[91])++g).size+(ByteArray.mk #[45]).size:Nat):Int)>IntKind.i64.max)/\pG [j] jF #[.int .u8 e] w4 λk w5=>¬((((((ByteArray.mk #[91])++g)++(ByteArray.mk #[45])).size+k.size:Nat):Int)>IntKind.i64.max)/\¬(((((((ByteArray.mk #[91])++g)++(ByteArray.mk #[45]))++k).size+(ByteArray.mk #[93]).size:Nat):Int)>IntKind.i64.max)/\R (.returned (.tuple #[.string (((((ByteArray.mk #[91])++g)++(ByteArray.mk #[45]))++k)++(ByteArray.mk #[93])),.i 4])) w5)) (aF (b==6) ((0:Int)<=0/\0<((c.n:Nat):Int)/\aX c.a λl=>cB f (l.add (Int.toNat 0 *4)) λm o p q=>pG [j] hU #[.agg #[.i m,.int .u8 o,.int .u8 p,q.v],.i 3] f λy w6=>¬((((ByteArray.mk #[33]).size+y.size:Nat):Int)>IntKind.i64.max)/\R (.returned (.tuple #[.string ((ByteArray.mk #[33])++y),.i 3])) w6) (aF (b==7) ((0:Int)<=0/\0<((c.n:Nat):Int)/\aX c.a λr=>cB f (r.add (Int.toNat 0 *4)) λs t u x=>pG [j] hU #[.agg #[.i s,.int .u8 t,.int .u8 u,x.v],.i 4] f λz w7=>¬(((z.size+(ByteArray.mk #[42]).size:Nat):Int)>IntKind.i64.max)/\R (.returned (.tuple #[.string (z++(ByteArray.mk #[42])),.i 4])) w7) (dV j b d e c (ByteArray.mk #[99,97,116]) (ByteArray.mk #[]) 2 f R)))))):Calls Tryz.prog rk #[.agg #[.i b,.int .u8 d,.int .u8 e,c.v]] w R:=aO X [eV,gn,hC,LN] h
end regex_bare
namespace regex_Print
noncomputable abbrev X:Fx:=⟨Tryz.prog,Tryz.f132,[],[1]⟩
theorem cV (a b c:Int) (d:Sl) (w:World) (R:aD) (h:bE [] w λe k=>
 mW [e] n7 #[.agg #[.i a,.int .u8 b,.int .u8 c,d.v]] k λg j=>aF (g !=0) (R (.returned (.tuple #[.s0,.i g])) j) (pG [e] hU #[.agg #[.i a,.int .u8 b,.int .u8 c,d.v],.i 0] j λf l=>R (.returned (.tuple #[.string f,.i 0])) l)):Calls Tryz.prog qt #[.agg #[.i a,.int .u8 b,.int .u8 c,d.v]] w R:=aO X [] h
end regex_Print
namespace term_isNormal
noncomputable abbrev X:Fx:=⟨Tryz.prog,Tryz.f117,[],[3,6]⟩
theorem cV (s:ByteArray) (w:World) (R:aD) (h:VB qq #[.string s] w λb c d e y m z=>bE [] z λa u=>
 aF (m !=0) (loc [a] u λt=>R (.returned (.bool false)) t) (loc [a] u λt=>Ly [a] nu #[.agg #[.i b,.int .u8 c,.int .u8 d,e.v]] t λf g j k n w7=>bE [a] w7 λr x=>
 aF (n !=0) (loc [a,r] x λl=>R (.returned (.bool false)) l) (loc [a,r] x λl=>Th [a,r] qt #[.agg #[.i f,.int .u8 g,.int .u8 j,k.v]] l λo p q=>aF (p==0) (R (.returned (.bool (o.toList==s.toList))) q) (R (.returned (.bool false)) q)))):Calls Tryz.prog mz #[.string s] w R:=aO X [] h
end term_isNormal
namespace enthymemelaw07_lives
noncomputable abbrev X:Fx:=⟨Tryz.prog,Tryz.f18,[],[1,4,7,10,12]⟩
abbrev P0:Ps:=[]
abbrev dV (w:World) (R:aD):Prop:=
 R (.returned (.bool false)) w
noncomputable def eV:=bK X [] (bH [0,1,1,1,4]) P0 dV
theorem cV (w:World) (R:aD) (h:YD fN #[.agg #[.slice none 0 0],.agg #[.i 0,.slice none 0 0,.i 0,.i 0,.u 0,.string (ByteArray.mk #[120]),.i 0,.i 8,.i 0]] w λk an s w1=>bE [] w1 λb w2=>
 loc [b] w2 λw3=>fJ w3 (.cells #[.i 0] bW) λw4=>
 xJ [b] fN #[.agg #[k.v],.agg #[.i 4,.slice (some (nb w3)) 1 1,.i 0,.i 0,.u 0,.s0,.i 0,.i 0,.i 0]] w4 λl t x w5=>bE [b] w5 λc w6=>
 loc [b,c] w6 λw7=>fJ w7 (.cells #[.i 0] bW) λw8=>
 xJ [b,c] fN #[.agg #[l.v],.agg #[.i 4,.slice (some (nb w7)) 1 1,.i 0,.i 0,.u 0,.s0,.i 0,.i 0,.i 0]] w8 λe y z w9=>bE [b,c] w9 λd f=>
 aF (s !=0) (loc [b,c,d] f λa=>dV a R) (aF (x !=0) (loc [b,c,d] f λa=>dV a R) (aF (z !=0) (loc [b,c,d] f λa=>dV a R) (aF (t !=1) (loc [b,c,d] f λa=>dV a R) (aF (y !=1) (loc [b,c,d] f λa=>dV a R) (aF (((e.n:Nat):Int) !=2) (loc [b,c,d] f λa=>dV a R) (loc [b,c,d] f λa=>fJ a (.cells #[.i 0,.i 1] bW) λag=>
 gU [b,c,d] mj #[.agg #[e.v],.agg #[.i 20,.slice (some (nb a)) 2 2,.i 0,.i 0,.u 0,.s0,.i 0,.i 0,.i 0]] ag λm o p aa ah=>bE [b,c,d] ah λg ai=>
 loc [b,c,d,g] ai λac=>fJ ac (.cells #[.i 0] bW) λaj=>
 gU [b,c,d,g] mj #[.agg #[e.v],.agg #[.i 21,.slice (some (nb ac)) 1 1,.i 8,.i 0,.u 0,.s0,.i 0,.i 0,.i 0]] aj λad ae af ab ak=>bE [b,c,d,g] ak λq r=>
 aF (aa==0) (aF ((m==0)&&((o==16)&&((p==0)&&true))) (loc [b,c,d,g,q] r λj=>R (.returned (.bool (ab==5))) j) (loc [b,c,d,g,q] r λj=>R (.returned (.bool false)) j)) (loc [b,c,d,g,q] r λj=>R (.returned (.bool false)) j)))))))):Calls Tryz.prog jW #[] w R:=aO X [eV] h
end enthymemelaw07_lives
namespace enthymemeref07_Spoilt
noncomputable abbrev X:Fx:=⟨Tryz.prog,Tryz.f11,[(25,ls [0,1,2,3,4,5,6,7]),(7,ls [0,1,2,3,4,5,6,7,8,9])],[3,6]⟩
abbrev P0:Ps:=[(3,.l [.I,.s,.I,.I,.U,.st,.I,.I,.I] aG),(6,.l [.I,.s,.I,.I,.U,.st,.I,.I,.I] aG)]
abbrev dV (l:Nat) (a:Int) (b:Sl) (c d e:Int) (f:ByteArray) (g j k:Int) (m:Nat) (n:Int) (o:Sl) (p q r:Int) (s:ByteArray) (t x y:Int) (w:World) (R:aD):Prop:=
 loc [l,m] w λz=>R (.returned (.agg #[.i a,b.v,.i c,.i d,.u e,.string f,.i g,.i j,.i k])) z
noncomputable def eV:=bK X [] (bH [4]) P0 dV
abbrev P1:Ps:=[(2,.v [.I]),(3,.l [.I,.s,.I,.I,.U,.st,.I,.I,.I] aG),(6,.l [.I,.s,.I,.I,.U,.st,.I,.I,.I] aG),(8,.v [.I])]
def l4 (t:Int) (v:Nat) (a:Int) (b:Sl) (c d e:Int) (f:ByteArray) (g i j:Int) (x:Nat) (k:Int) (l:Sl) (m n o:Int) (p:ByteArray) (q r s u:Int) (w:World) (R:aD):Prop:=cJ P1 0 (X.Sem (bH [0,1,19,1,1,1,3])) t v a b c d e f g i j x k l m n o p q r s u w R
noncomputable def kX:=fZ X (bH [0,1,19,1,1,1,3]) P1 l4
theorem dJ:∀(aa:Int) (y:Nat) (d:Int) (b:Sl) (e f g:Int) (j:ByteArray) (k l m:Int) (z:Nat) (o:Int) (p:Sl) (q r s:Int) (t:ByteArray) (u v x c:Int) (w:World) (R:aD) (h:aF (decide (c<((b.n:Nat):Int))) ((IntKind.wrap .i64 (c+1))≠0/\loc [y,z] w λaf=>mW [y,z] aS #[.i (IntKind.wrap .i64 (Int.tdiv aa (IntKind.wrap .i64 (c+1)))),.i 12] af λae ac=>(0:Int)<=c/\c<((b.n:Nat):Int)/\aX b.a λab=>bX ac (ab.add (Int.toNat c *1)) (.i ae) λad=>kept [y,z] ac ad/\
 l4 aa y d b e f g j k l m z o p q r s t u v x (IntKind.wrap .i64 (c+1)) ad R) (dV y d b e f g j k l m z o p q r s t u v x w R)),l4 aa y d b e f g j k l m z o p q r s t u v x c w R:=mp (dD (X:=X) [kX,eV] (bH [0,1,19,1,1,1,3]) P1)
theorem cV (c:Int) (s:Sl) (d e f:Int) (g:ByteArray) (j k l r q:Int) (w:World) (R:aD) (h:bE [] w λa w1=>
 bE [a] w1 λb w2=>
 fJ w2 (.cells #[] bW) λw3=>
 ∃(m:Sl) (w4:World),Sem.run Tryz.prog (Builtin.append_ #[gq,gq] gq #[.slice (some (nb w2)) 0 0,s.v]) w3=.ok (m.v) w4/\kept [a,b] w3 w4/\loc [a,b] w4 λw5=>fJ w5 (.cells #[.i q,.i (-1),.i 0,.i 1,.i 63,.i 64,.i 65,.i 1099511627776] bW) λw6=>
 mW [a,b] aS #[.i q,.i 8] w6 λt w7=>(0:Int)<=t/\t<((8:Nat):Int)/\aX (some (nb w5)) λz=>∃o:Int,w7.cell? (z.add (Int.toNat t *1))=some (.i o)/\
 mW [a,b] aS #[.i r,.i 10] w7 λn p=>aF (n==0) (loc [a,b] p λw9=>dV a o m d e f g j k l b 0 ⟨none,0,0⟩ 0 0 0 (ByteArray.mk #[]) 0 0 0 w9 R) (aF (n==1) (loc [a,b] p λai=>dV a c m o e f g j k l b 0 ⟨none,0,0⟩ 0 0 0 (ByteArray.mk #[]) 0 0 0 ai R) (aF (n==2) (loc [a,b] p λaj=>dV a c m d o f g j k l b 0 ⟨none,0,0⟩ 0 0 0 (ByteArray.mk #[]) 0 0 0 aj R) (aF (n==3) (loc [a,b] p λak=>dV a c m d e (IntKind.wrap .u64 o) g j k l b 0 ⟨none,0,0⟩ 0 0 0 (ByteArray.mk #[]) 0 0 0 ak R) (aF (n==4) (fJ p (.cells #[.s0,.string (ByteArray.mk #[97]),.string (ByteArray.mk #[65]),.string (ByteArray.mk #[115,101,118,101,110,116,101,101,110,45,108,101,116,116,101,114,115]),.string (ByteArray.mk #[97,45,49]),.string (ByteArray.mk #[45]),.string (ByteArray.mk #[40]),.string (ByteArray.mk #[122,122])] cI) λal=>
 mW [a,b] aS #[.i q,.i 8] al λx ad=>(0:Int)<=x/\x<((8:Nat):Int)/\aX (some (nb p)) λaa=>∃ab:ByteArray,ad.cell? (aa.add (Int.toNat x *1))=some (.string ab)/\
 loc [a,b] ad λam=>dV a c m d e f ab j k l b 0 ⟨none,0,0⟩ 0 0 0 (ByteArray.mk #[]) 0 0 0 am R) (aF (n==5) (loc [a,b] p λan=>dV a c m d e f g o k l b 0 ⟨none,0,0⟩ 0 0 0 (ByteArray.mk #[]) 0 0 0 an R) (aF (n==6) (loc [a,b] p λao=>dV a c m d e f g j o l b 0 ⟨none,0,0⟩ 0 0 0 (ByteArray.mk #[]) 0 0 0 ao R) (aF (n==7) (loc [a,b] p λap=>dV a c m d e f g j k o b 0 ⟨none,0,0⟩ 0 0 0 (ByteArray.mk #[]) 0 0 0 ap R) (aF (n==8) (loc [a,b] p λaq=>mW [a,b] aS #[.i q,.i 9] aq λah ae=>fJ ae (.cells #[.i ah] bW) λaf=>
 ∃(ac:Sl) (y:World),Sem.run Tryz.prog (Builtin.append_ #[gq,gq] gq #[m.v,.slice (some (nb ae)) 1 1]) af=.ok (ac.v) y/\kept [a,b] af y/\loc [a,b] y λau=>dV a c ac d e f g j k l b 0 ⟨none,0,0⟩ 0 0 0 (ByteArray.mk #[]) 0 0 0 au R) (l4 q a c m d e f g j k l b 0 ⟨none,0,0⟩ 0 0 0 (ByteArray.mk #[]) 0 0 0 0 p R)))))))))):Calls Tryz.prog mT #[.agg #[.i c,s.v,.i d,.i e,.u f,.string g,.i j,.i k,.i l],.i r,.i q] w R:=aO X [kX,eV] h
end enthymemeref07_Spoilt
namespace enthymemeref07_SameGraph
noncomputable abbrev X:Fx:=⟨Tryz.prog,Tryz.f16,[(6,ls [0,1,2,3,4,5,6,7,8,9])],[]⟩
abbrev P0:Ps:=[(0,.v [.s]),(1,.v [.s]),(5,.v [.I])]
def L0 (a b:Sl) (c:Int) (w:World) (R:aD):Prop:=cJ P0 0 (X.Sem (bH [0,1,1,1,2])) a b c w R
noncomputable def eC:=fZ X (bH [0,1,1,1,2]) P0 L0
theorem cF:∀(c d:Sl) (b:Int) (w:World) (R:aD) (h:aF (decide (b<((c.n:Nat):Int))) (uU w λw1=>(0:Int)<=b/\b<((c.n:Nat):Int)/\aX c.a λe=>qL w1 (e.add (Int.toNat b *9)) λf g j k l m o p q=>(0:Int)<=b/\b<((d.n:Nat):Int)/\aX d.a λr=>qL w1 (r.add (Int.toNat b *9)) λs t x y z aa ab ac ad=>zY iB #[.agg #[.i f,g.v,.i j,.i k,.u l,.string m,.i o,.i p,.i q],.agg #[.i s,t.v,.i x,.i y,.u z,.string aa,.i ab,.i ac,.i ad]] w1 λaf w2=>aF (!af) (R (.returned (.bool false)) w2) (L0 c d (IntKind.wrap .i64 (b+1)) w2 R)) (R (.returned (.bool true)) w)),L0 c d b w R:=mp (dD (X:=X) [eC] (bH [0,1,1,1,2]) P0)
theorem ok (a b:Sl) (w:World) (R:aD) (h:aF (((a.n:Nat):Int) !=((b.n:Nat):Int)) (R (.returned (.bool false)) w) (L0 a b 0 w R)):Calls Tryz.prog dP #[a.v,b.v] w R:=aO X [eC] h
end enthymemeref07_SameGraph
namespace slices_Clone_sl_byte_byte
noncomputable abbrev X:Fx:=⟨Tryz.prog,Tryz.f72,[],[]⟩
theorem ok (b:Sl) (w:World) (R:aD) (h:aF b.a.isNone (R (.returned (.slice none 0 0)) w) (fJ w (.cells #[] dE) λe=>
 ∃(c:Sl) (d:World),Sem.run Tryz.prog (Builtin.append_ #[bL,bL] bL #[.slice (some (nb w)) 0 0,b.v]) e=.ok (c.v) d/\R (.returned (c.v)) d)):Calls Tryz.prog ia #[b.v] w R:=aO X [] h
end slices_Clone_sl_byte_byte
namespace wire_Writer_Uint
noncomputable abbrev X:Fx:=⟨Tryz.prog,Tryz.f97,[],[]⟩
abbrev P0:Ps:=[(0,.v [.r]),(1,.v [.U])]
def L0 (a:Addr) (b:Int) (w:World) (R:aD):Prop:=cJ P0 0 (X.Sem (bH [0,2])) a b w R
noncomputable def eC:=fZ X (bH [0,2]) P0 L0
theorem cF:∀(a:Addr) (b:Int) (w:World) (R:aD) (h:aF (decide (b>=128)) (∃c:Sl,w.cell? (a.add 0)=some (c.v)/\
 fJ w (.cells #[.int .u8 (Vr .u8 (IntKind.wrap .u8 b) 128)] dE) λj=>
 ∃(d:Sl) (g:World),Sem.run Tryz.prog (Builtin.append_ #[bL,bL] bL #[c.v,.slice (some (nb w)) 1 1]) j=.ok (d.v) g/\bX g (a.add 0) (d.v) λk=>
 L0 a (Int.fdiv b (2^(7))) k R) (∃e:Sl,w.cell? (a.add 0)=some (e.v)/\
 fJ w (.cells #[.int .u8 (IntKind.wrap .u8 b)] dE) λl=>
 ∃(f:Sl) (i:World),Sem.run Tryz.prog (Builtin.append_ #[bL,bL] bL #[e.v,.slice (some (nb w)) 1 1]) l=.ok (f.v) i/\bX i (a.add 0) (f.v) λm=>
 R (.returned (.tuple #[])) m)),L0 a b w R:=mp (dD (X:=X) [eC] (bH [0,2]) P0)
theorem ok (a:Addr) (b:Int) (w:World) (R:aD) (h:L0 a b w R):Calls Tryz.prog gI #[.pointer (some a),.u b] w R:=aO X [eC] h
end wire_Writer_Uint
namespace wire_Writer_Int
noncomputable abbrev X:Fx:=⟨Tryz.prog,Tryz.f61,[],[]⟩
theorem ok (a:Addr) (b:Int) (w:World) (R:aD) (h:xI gI #[.pointer (some a),.u (Oh .u64 (IntKind.wrap .u64 ((IntKind.wrap .u64 b) *2^(1))) (IntKind.wrap .u64 (Int.fdiv b (2^(63)))))] w λc=>R (.returned (.tuple #[])) c):Calls Tryz.prog eM #[.pointer (some a),.i b] w R:=aO X [] h
end wire_Writer_Int
namespace wire_Writer_Ints
noncomputable abbrev X:Fx:=⟨Tryz.prog,Tryz.f98,[],[]⟩
abbrev P0:Ps:=[(0,.v [.r]),(11,.v [.s]),(12,.v [.I]),(13,.v [.I])]
def L0 (d:Addr) (a:Sl) (b c:Int) (w:World) (R:aD):Prop:=cJ P0 0 (X.Sem (bH [0,1,2])) d a b c w R
noncomputable def eC:=fZ X (bH [0,1,2]) P0 L0
theorem cF:∀(e:Addr) (c:Sl) (d b:Int) (w:World) (R:aD) (h:aF (decide (b<d)) ((0:Int)<=b/\b<((c.n:Nat):Int)/\aX c.a λf=>∃g:Int,w.cell? (f.add (Int.toNat b *1))=some (.i g)/\
 xI eM #[.pointer (some e),.i g] w λj=>L0 e c d (IntKind.wrap .i64 (b+1)) j R) (R (.returned (.tuple #[])) w)),L0 e c d b w R:=mp (dD (X:=X) [eC] (bH [0,1,2]) P0)
theorem ok (a:Addr) (b:Sl) (w:World) (R:aD) (h:xI gI #[.pointer (some a),.u (IntKind.wrap .u64 ((b.n:Nat):Int))] w λc=>L0 a b ((b.n:Nat):Int) 0 c R):Calls Tryz.prog kf #[.pointer (some a),b.v] w R:=aO X [eC] h
end wire_Writer_Ints
namespace wire_Writer_Text
noncomputable abbrev X:Fx:=⟨Tryz.prog,Tryz.f99,[],[]⟩
theorem ok (a:Addr) (d:ByteArray) (w:World) (R:aD) (h:xI gI #[.pointer (some a),.u (IntKind.wrap .u64 ((d.size:Nat):Int))] w λe=>∃b:Sl,e.cell? (a.add 0)=some (b.v)/\
 ∃(c:Sl) (f:World),Sem.run Tryz.prog (Builtin.append_ #[bL,cI] bL #[b.v,.string d]) e=.ok (c.v) f/\bX f (a.add 0) (c.v) λg=>
 R (.returned (.tuple #[])) g):Calls Tryz.prog mK #[.pointer (some a),.string d] w R:=aO X [] h
end wire_Writer_Text
namespace wire_Writer_Done
noncomputable abbrev X:Fx:=⟨Tryz.prog,Tryz.f63,[],[]⟩
theorem ok (a:Addr) (w:World) (R:aD) (h:∃b:Sl,w.cell? (a.add 0)=some (b.v)/\
 VC ia #[b.v] w λc d=>R (.returned (c.v)) d):Calls Tryz.prog mJ #[.pointer (some a)] w R:=aO X [] h
end wire_Writer_Done
namespace term_write
noncomputable abbrev X:Fx:=⟨Tryz.prog,Tryz.f62,[],[]⟩
theorem ok (a b:Addr) (w:World) (R:aD) (h:∃m:Int,w.cell? (b.add 0)=some (.i m)/\
 xI eM #[.pointer (some a),.i m] w λn=>∃c:Sl,n.cell? (b.add 1)=some (c.v)/\
 xI kf #[.pointer (some a),c.v] n λo=>∃d:Int,o.cell? (b.add 2)=some (.i d)/\
 xI eM #[.pointer (some a),.i d] o λp=>∃e:Int,p.cell? (b.add 3)=some (.i e)/\
 xI eM #[.pointer (some a),.i e] p λq=>∃f:Int,q.cell? (b.add 4)=some (.u f)/\
 xI gI #[.pointer (some a),.u f] q λr=>∃g:ByteArray,r.cell? (b.add 5)=some (.string g)/\
 xI mK #[.pointer (some a),.string g] r λs=>∃j:Int,s.cell? ((b.add 6).add 0)=some (.i j)/\
 xI eM #[.pointer (some a),.i j] s λt=>∃k:Int,t.cell? ((b.add 6).add 1)=some (.i k)/\
 xI eM #[.pointer (some a),.i k] t λx=>∃l:Int,x.cell? ((b.add 6).add 2)=some (.i l)/\
 xI eM #[.pointer (some a),.i l] x λy=>R (.returned (.tuple #[])) y):Calls Tryz.prog rm #[.pointer (some a),.pointer (some b)] w R:=aO X [] h
end term_write
namespace term_keyOf
noncomputable abbrev X:Fx:=⟨Tryz.prog,Tryz.f95,[],[]⟩
theorem ok (b:Addr) (w:World) (R:aD) (h:fJ w (.cells #[.slice none 0 0] iw) λe=>
 xI rm #[.pointer (some (nb w)),.pointer (some b)] e λf=>VC mJ #[.pointer (some (nb w))] f λd a=>∃c:ByteArray,Sem.run Tryz.prog (Go.convert bL cI (d.v)) a=.ok (.string c) a/\R (.returned (.string c)) a):Calls Tryz.prog o8 #[.pointer (some b)] w R:=aO X [] h
end term_keyOf
namespace term_builder_sortOf_1
noncomputable abbrev X:Fx:=⟨Tryz.prog,Tryz.f94,[],[3,5]⟩
theorem cV (d:ByteArray) (l:Addr) (w:World) (R:aD) (h:bE [] w λk f=>
 ∃m:Option Addr,f.cell? l=some (.pointer m)/\
 aX m λj=>∃g:Option Nat,f.cell? (j.add 2)=some (.map g)/\
 ∃a:Int,∃b:Int,∃c:Int,∃e:Bool,Sem.run Tryz.prog (Instr.lookup km (.map g) (.string d) true) f=.ok (.tuple #[.agg #[.i a,.i b,.i c],.bool e]) f/\bE [k] f λn o=>
 loc [k,n] o λp=>R (.returned (.tuple #[.agg #[.i a,.i b,.i c],.bool e])) p):Calls Tryz.prog gT #[.string d,.pointer (some l)] w R:=aO X [] h
end term_builder_sortOf_1
namespace term_builder_sortOf
noncomputable abbrev X:Fx:=⟨Tryz.prog,Tryz.f55,[(1,ls [0,1,2,3,4,5,6,7,8,9,10])],[3,4]⟩
theorem cV (t:Addr) (d:Int) (e:Sl) (f g j:Int) (k:ByteArray) (l m n:Int) (w:World) (R:aD) (h:fJ w (.cells #[.pointer (some t)] vM) λz=>
 bE [] z λo w2=>
 bE [o] w2 λq w3=>
 loc [o,q] w3 λs=>∃x:Option Addr,s.cell? (nb w)=some (.pointer x)/\
 aX x λr=>∃y:Sl,s.cell? (r.add 0)=some (y.v)/\
 gU [o,q] n9 #[y.v,.agg #[.i d,e.v,.i f,.i g,.u j,.string k,.i l,.i m,.i n],.func (.func gT) #[] #[.pointer (some (nb w))]] s λa b c p w5=>loc [o,q] w5 λw8=>R (.returned (.tuple #[.agg #[.i a,.i b,.i c],.i p])) w8):Calls Tryz.prog kH #[.pointer (some t),.agg #[.i d,e.v,.i f,.i g,.u j,.string k,.i l,.i m,.i n]] w R:=aO X [] h
end term_builder_sortOf
namespace term_builder_find
noncomputable abbrev X:Fx:=⟨Tryz.prog,Tryz.f56,[(1,ls [0,1,2,3,4,5,6,7,8,9,10])],[]⟩
theorem ok (p:Addr) (c:Int) (d:Sl) (e f g:Int) (j:ByteArray) (k l m:Int) (w:World) (R:aD) (h:fJ w (.cells #[.i c,d.v,.i e,.i f,.u g,.string j,.i k,.i l,.i m] aG) λs=>
 uU s λr=>∃n:Option Nat,r.cell? (p.add 1)=some (.map n)/\
 Lt o8 #[.pointer (some (nb w))] r λq o=>o.cell? (p.add 1)=some (.map n)/\∃a:Int,∃b:Bool,Sem.run Tryz.prog (Instr.lookup nI (.map n) (.string q) true) o=.ok (.tuple #[.i a,.bool b]) o/\R (.returned (.tuple #[.i a,.bool b])) o):Calls Tryz.prog lY #[.pointer (some p),.agg #[.i c,d.v,.i e,.i f,.u g,.string j,.i k,.i l,.i m]] w R:=aO X [] h
end term_builder_find
namespace term_builder_put
noncomputable abbrev X:Fx:=⟨Tryz.prog,Tryz.f57,[(1,ls [0,1,2,3,5,6,7,8,9,4,10]),(3,ls [0,1,2,3,4,5,6,7,8]),(4,ls [0,1,2,3,4,5,6,7,8,9,10])],[]⟩
abbrev P0:Ps:=[(0,.v [.r]),(3,.v [.r])]
abbrev S0 (b x:Addr) (w:World) (R:aD):Prop:=
 uU w λo=>∃a:Sl,o.cell? (b.add 0)=some (a.v)/\
 qL o x λc d e f g j k l m=>fJ o (.cells #[.i c,d.v,.i e,.i f,.u g,.string j,.i k,.i l,.i m] aG) λr=>
 r.cell? (b.add 0)=some (a.v)/\∃(p:Sl) (s:World),Sem.run Tryz.prog (Builtin.append_ #[bB,bB] bB #[a.v,.slice (some (nb o)) 1 1]) r=.ok (p.v) s/\bX s (b.add 0) (p.v) λt=>
 ∃q:Sl,t.cell? (b.add 0)=some (q.v)/\
 R (.returned (.i (IntKind.wrap .i64 (((q.n:Nat):Int) - 1)))) t
noncomputable def eV:=bK X [] (bH [3]) P0 S0
theorem ok (a:Addr) (b:Int) (c:Sl) (d e f:Int) (g:ByteArray) (j k l:Int) (w:World) (R:aD) (h:fJ w (.cells #[.i b,c.v,.i d,.i e,.u f,.string g,.i j,.i k,.i l] aG) λw1=>
 uU w1 λw2=>∃z:Option Nat,w2.cell? (a.add 1)=some (.map z)/\
 ∃m:Sl,w2.cell? (a.add 0)=some (m.v)/\
 Lt o8 #[.pointer (some (nb w))] w2 λt9 w3=>w3.cell? (a.add 0)=some (m.v)/\w3.cell? (a.add 1)=some (.map z)/\∃(r:World),Sem.run Tryz.prog (Instr.mapUpdate nI (.map z) (.string t9) (.i ((m.n:Nat):Int))) w3=.ok () r/\∃t:Int,r.cell? ((nb w).add 0)=some (.i t)/\
 aF (t==0) (uU r λs=>∃x:Option Nat,s.cell? (a.add 2)=some (.map x)/\
 ∃y:ByteArray,s.cell? ((nb w).add 5)=some (.string y)/\
 dK s ((nb w).add 6) λo p q=>∃(w6:World),Sem.run Tryz.prog (Instr.mapUpdate km (.map x) (.string y) (.agg #[.i o,.i p,.i q])) s=.ok () w6/\S0 a (nb w) w6 R) (S0 a (nb w) r R)):Calls Tryz.prog ke #[.pointer (some a),.agg #[.i b,c.v,.i d,.i e,.u f,.string g,.i j,.i k,.i l]] w R:=aO X [eV] h
end term_builder_put
namespace term_newBuilder
noncomputable abbrev X:Fx:=⟨Tryz.prog,Tryz.f54,[],[1,5]⟩
abbrev P0:Ps:=[(3,.v [.r]),(11,.v [.s]),(12,.v [.I]),(13,.v [.I])]
def eH (d:Addr) (a:Sl) (b c:Int) (w:World) (R:aD):Prop:=cJ P0 0 (X.Sem (bH [0,1,1,1,2])) d a b c w R
noncomputable def eC:=fZ X (bH [0,1,1,1,2]) P0 eH
theorem bA:∀(e:Addr) (c:Sl) (d b:Int) (w:World) (R:aD) (h:aF (decide (b<d)) ((0:Int)<=b/\b<((c.n:Nat):Int)/\aX c.a λf=>qL w (f.add (Int.toNat b *9)) λg j k l m o p q r=>bE [] w λs y=>
 loc [s] y λt=>mW [s] ke #[.pointer (some e),.agg #[.i g,j.v,.i k,.i l,.u m,.string o,.i p,.i q,.i r]] t λz x=>eH e c d (IntKind.wrap .i64 (b+1)) x R) (R (.returned (.pointer (some e))) w)),eH e c d b w R:=mp (dD (X:=X) [eC] (bH [0,1,1,1,2]) P0)
theorem cV (a:Sl) (w:World) (R:aD) (h:bE [] w λf b=>
 fJ b (.map #[] 0) λc=>
 fJ c (.map #[] 0) λd=>
 fJ d (.cells #[.slice none 0 0,.map (some b.heap.size),.map (some c.heap.size)] gY) λe=>
 eH (nb d) a ((a.n:Nat):Int) 0 e R):Calls Tryz.prog nA #[.agg #[a.v]] w R:=aO X [eC] h
end term_newBuilder
namespace term_Valid
noncomputable abbrev X:Fx:=⟨Tryz.prog,Tryz.f24,[],[1,5,6]⟩
abbrev P0:Ps:=[(3,.v [.p]),(17,.v [.s]),(18,.v [.I]),(19,.v [.I])]
def eH (d:Option Addr) (a:Sl) (b c:Int) (w:World) (R:aD):Prop:=cJ P0 0 (X.Sem (bH [0,1,1,1,3])) d a b c w R
noncomputable def eC:=fZ X (bH [0,1,1,1,3]) P0 eH
theorem bA:∀(y:Option Addr) (q:Sl) (aa e:Int) (w:World) (R:aD) (h:aF (decide (e<aa)) ((0:Int)<=e/\e<((q.n:Nat):Int)/\aX q.a λac=>qL w (ac.add (Int.toNat e *9)) λf g j k l m b c d=>bE [] w λo w3=>
 loc [o] w3 λaf=>gU [o] kH #[.pointer y,.agg #[.i f,g.v,.i j,.i k,.u l,.string m,.i b,.i c,.i d]] af λs t x r ag=>bE [o] ag λz ab=>
 aF (r !=0) (loc [o,z] ab λp=>R (.returned (.i r)) p) (aF (!((s==b)&&((t==c)&&((x==d)&&true)))) (loc [o,z] ab λp=>R (.returned (.i 9)) p) (loc [o,z] ab λp=>cf6 [o,z] lY #[.pointer y,.agg #[.i f,g.v,.i j,.i k,.u l,.string m,.i b,.i c,.i d]] p λai ad ae=>aF ad (R (.returned (.i 8)) ae) (mW [o,z] ke #[.pointer y,.agg #[.i f,g.v,.i j,.i k,.u l,.string m,.i b,.i c,.i d]] ae λak ah=>eH y q aa (IntKind.wrap .i64 (e+1)) ah R)))) (R (.returned (.i 0)) w)),eH y q aa e w R:=mp (dD (X:=X) [eC] (bH [0,1,1,1,3]) P0)
theorem cV (a:Sl) (w:World) (R:aD) (h:bE [] w λd c=>
 aF (decide (((a.n:Nat):Int)>4096)) (R (.returned (.i 4)) c) (Xy [d] nA #[.agg #[.slice none 0 0]] c λb e=>eH b a ((a.n:Nat):Int) 0 e R)):Calls Tryz.prog ny #[.agg #[a.v]] w R:=aO X [eC] h
end term_Valid
namespace enthymemelaw07_TermShared
noncomputable abbrev X:Fx:=⟨Tryz.prog,Tryz.f5,[(7,(.sq [0,1,2,3,4] (.fork (ls [5,6,7,8,9,10,11,12,13]) (ls [10,5,6,7,8,9,11,12,13])))),(8,(.sq [0,1,2,3,4] (.fork (ls [5,6,7,8,9,10,11,12,13]) (ls [10,5,6,7,8,9,11,12,13])))),(20,(.sq [0,1,2,3,4] (.fork (ls [5,6,7,8,9,10,11,12,13]) (ls [10,5,6,7,8,9,11,12,13])))),(21,(.sq [0,1,2,3,4,5,6,7,8] (.fork (ls [9,10,11,12,13,14,15,16,17]) (ls [14,9,10,11,12,13,15,16,17]))))],[9,11,14,17,18,19,21,24]⟩
abbrev P0:Ps:=[(7,.v [.s]),(8,.v [.s]),(9,.l [.s] aW),(10,.v [.I])]
def eH (c d:Sl) (e:Nat) (a:Sl) (b:Int) (w:World) (R:aD):Prop:=cJ P0 0 (X.Sem (bH [0,1,1,1,4])) c d e a b w R
noncomputable def eC:=fZ X (bH [0,1,1,1,4]) P0 eH
abbrev P1:Ps:=[]
abbrev gO (w:World) (R:aD):Prop:=
 R (.returned (.bool false)) w
noncomputable def hC:=bK X [eC] (bH [0,1,1,1,2,2,1,2,1,1,4]) P1 gO
abbrev P2:Ps:=[(7,.v [.s]),(8,.v [.s]),(9,.l [.s] aW),(10,.v [.I]),(11,.l [.s] aW),(12,.v [.I]),(13,.v [.I]),(14,.l [.s] aW),(15,.v [.I]),(16,.v [.I])]
abbrev eY (l m:Sl) (i:Nat) (p:Sl) (b:Int) (j:Nat) (a:Sl) (g d:Int) (k:Nat) (c:Sl) (f e:Int) (w:World) (R:aD):Prop:=
 aF (d !=0) (gO w R) (aF (e !=0) (gO w R) (aF (g !=b) (gO w R) (aF (f !=b) (gO w R) (aF (((c.n:Nat):Int) !=((a.n:Nat):Int)) (gO w R) (loc [i,j,k] w λo=>eH l m i a (IntKind.wrap .i64 (b+1)) o R)))))
noncomputable def fL:=bK X [hC,eC] (bH [2,2,1,2,1,1,4]) P2 eY
abbrev P3:Ps:=[(7,.v [.s]),(8,.v [.s]),(9,.l [.s] aW),(10,.v [.I]),(11,.l [.s] aW),(12,.v [.I]),(13,.v [.I])]
abbrev fY (g7 h8:Sl) (r:Nat) (aa:Sl) (d:Int) (b:Nat) (c:Sl) (ag af:Int) (w:World) (R:aD):Prop:=
 (0:Int)<=d/\d<((g7.n:Nat):Int)/\aX g7.a λy=>loc [r,b] w λw1=>qL w1 (y.add (Int.toNat d *9)) λe f g j k l m o p=>((xJ [r,b] fN #[.agg #[c.v],.agg #[.i e,f.v,.i g,.i j,.u k,.string l,.i m,.i o,.i p]] w1 λz ac ad w2=>bE [r,b] w2 λae w3=>
 loc [r,b,ae] w3 λw4=>eY g7 h8 r aa d b c ag af ae z ac ad w4 R)/\(bE [r,b] w1 λs w5=>
 Mk w5 (y.add (Int.toNat d *9)) (.i e) (f.v) (.i g) (.i j) (.u k) (.string l) (.i m) (.i o) (.i p) λ_=>xJ [r,b,s] fN #[.agg #[c.v],.agg #[.i e,f.v,.i g,.i j,.u k,.string l,.i m,.i o,.i p]] w5 λq t x w6=>loc [r,b,s] w6 λw7=>eY g7 h8 r aa d b c ag af s q t x w7 R))
noncomputable def gn:=bK X [fL,hC,eC] (bH [1,2,1,2,1,1,4]) P3 fY
abbrev ox (w:World) (R:aD):Prop:=
 R (.returned (.bool false)) w
noncomputable def kK:=bK X [gn,fL,hC,eC] (bH [0,1,1,1,5]) P1 ox
abbrev P4:Ps:=[(7,.v [.s]),(8,.v [.s]),(9,.l [.s] aW),(17,.l [.s] aW),(18,.l [.s] aW),(19,.l [.s] aW),(20,.v [.I])]
def wY (j k:Sl) (l:Nat) (g:Sl) (d:Nat) (a:Sl) (e:Nat) (b:Sl) (f:Nat) (c:Sl) (i:Int) (w:World) (R:aD):Prop:=cJ P4 0 (X.Sem (bH [0,1,1,1,9])) j k l g d a e b f c i w R
noncomputable def rX:=fZ X (bH [0,1,1,1,9]) P4 wY
abbrev P5:Ps:=[(7,.v [.s]),(8,.v [.s]),(9,.l [.s] aW),(17,.l [.s] aW),(18,.l [.s] aW),(19,.l [.s] aW),(20,.v [.I]),(21,.l [.s] aW)]
abbrev QS (m n:Sl) (l:Nat) (i:Sl) (a:Nat) (g:Sl) (b:Nat) (d:Sl) (c:Nat) (e:Sl) (k:Int) (j:Nat) (f:Sl) (w:World) (R:aD):Prop:=
 loc [l,a,b,c,j] w λo=>wY m n l i a f b d c e (IntKind.wrap .i64 (k+1)) o R
noncomputable def AX:=bK X [rX,kK,gn,fL,hC,eC] (bH [4,2,1,2,1,1,9]) P5 QS
abbrev P6:Ps:=[(7,.v [.s]),(8,.v [.s]),(9,.l [.s] aW),(17,.l [.s] aW),(18,.l [.s] aW),(19,.l [.s] aW),(20,.v [.I]),(21,.l [.s] aW),(24,.l [.s] aW),(26,.v [.I])]
abbrev Ku (p q:Sl) (m:Nat) (j:Sl) (a:Nat) (b:Sl) (d:Nat) (c:Sl) (e:Nat) (g:Sl) (l:Int) (i:Nat) (f:Sl) (n:Nat) (k:Sl) (o:Int) (w:World) (R:aD):Prop:=
 aF (o==0) (loc [m,a,d,e,i,n] w λr=>QS p q m j a b d c e k l i f r R) (QS p q m j a b d c e g l i f w R)
noncomputable def yI:=bK X [AX,rX,kK,gn,fL,hC,eC] (bH [3,2,1,2,1,1,9]) P6 Ku
abbrev P7:Ps:=[(7,.v [.s]),(8,.v [.s]),(9,.l [.s] aW),(17,.l [.s] aW),(18,.l [.s] aW),(19,.l [.s] aW),(20,.v [.I]),(21,.l [.s] aW),(23,.v [.I]),(24,.l [.s] aW),(26,.v [.I])]
abbrev CS (q r:Sl) (o:Nat) (l:Sl) (a:Nat) (b:Sl) (e:Nat) (i:Sl) (f:Nat) (c:Sl) (n:Int) (j:Nat) (d:Sl) (p:Int) (k:Nat) (g:Sl) (m:Int) (w:World) (R:aD):Prop:=
 aF (p==0) (loc [o,a,e,f,j,k] w λs=>Ku q r o l a b e d f c n j d k g m s R) (Ku q r o l a b e i f c n j d k g m w R)
noncomputable def sv:=bK X [yI,AX,rX,kK,gn,fL,hC,eC] (bH [2,2,1,2,1,1,9]) P7 CS
abbrev P8:Ps:=[(7,.v [.s]),(8,.v [.s]),(9,.l [.s] aW),(17,.l [.s] aW),(18,.l [.s] aW),(19,.l [.s] aW),(20,.v [.I]),(21,.l [.s] aW),(23,.v [.I])]
abbrev uz (g7 h8:Sl) (z:Nat) (ah:Sl) (b:Nat) (g:Sl) (c:Nat) (y:Sl) (d:Nat) (e:Sl) (x:Int) (f:Nat) (af:Sl) (aj:Int) (w:World) (R:aD):Prop:=
 (0:Int)<=(IntKind.wrap .i64 ((IntKind.wrap .i64 (((h8.n:Nat):Int) - 1)) - x))/\(IntKind.wrap .i64 ((IntKind.wrap .i64 (((h8.n:Nat):Int) - 1)) - x))<((h8.n:Nat):Int)/\aX h8.a λab=>loc [z,b,c,d,f] w λw1=>qL w1 (ab.add (Int.toNat (IntKind.wrap .i64 ((IntKind.wrap .i64 (((h8.n:Nat):Int) - 1)) - x)) *9)) λj k l m o p q r s=>((xJ [z,b,c,d,f] fN #[.agg #[e.v],.agg #[.i j,k.v,.i l,.i m,.u o,.string p,.i q,.i r,.i s]] w1 λae an ag w2=>bE [z,b,c,d,f] w2 λai w3=>
 loc [z,b,c,d,f,ai] w3 λw4=>CS g7 h8 z ah b g c y d e x f af aj ai ae ag w4 R)/\(bE [z,b,c,d,f] w1 λad w5=>
 Mk w5 (ab.add (Int.toNat (IntKind.wrap .i64 ((IntKind.wrap .i64 (((h8.n:Nat):Int) - 1)) - x)) *9)) (.i j) (k.v) (.i l) (.i m) (.u o) (.string p) (.i q) (.i r) (.i s) λ_=>xJ [z,b,c,d,f,ad] fN #[.agg #[e.v],.agg #[.i j,k.v,.i l,.i m,.u o,.string p,.i q,.i r,.i s]] w5 λt ak ac w6=>loc [z,b,c,d,f,ad] w6 λw7=>CS g7 h8 z ah b g c y d e x f af aj ad t ac w7 R))
noncomputable def qz:=bK X [sv,yI,AX,rX,kK,gn,fL,hC,eC] (bH [1,2,1,2,1,1,9]) P8 uz
theorem ko:∀(k h8:Sl) (l:Nat) (ab:Sl) (e:Nat) (j:Sl) (f:Nat) (b:Sl) (g:Nat) (d:Sl) (m:Int) (w:World) (R:aD) (h:aF (decide (m<((h8.n:Nat):Int))) ((0:Int)<=m/\m<((h8.n:Nat):Int)/\aX h8.a λac=>loc [l,e,f,g] w λai=>qL ai (ac.add (Int.toNat m *9)) λo p q r s t x y z=>((xJ [l,e,f,g] fN #[.agg #[b.v],.agg #[.i o,p.v,.i q,.i r,.u s,.string t,.i x,.i y,.i z]] ai λaf az ah bb=>bE [l,e,f,g] bb λaj bc=>
 loc [l,e,f,g,aj] bc λbd=>uz k h8 l ab e j f b g d m aj af ah bd R)/\(bE [l,e,f,g] ai λae al=>
 Mk al (ac.add (Int.toNat m *9)) (.i o) (p.v) (.i q) (.i r) (.u s) (.string t) (.i x) (.i y) (.i z) λ_=>xJ [l,e,f,g,ae] fN #[.agg #[b.v],.agg #[.i o,p.v,.i q,.i r,.u s,.string t,.i x,.i y,.i z]] al λaa ak ad be=>loc [l,e,f,g,ae] be λbf=>uz k h8 l ab e j f b g d m ae aa ad bf R))) (aF (decide (((j.n:Nat):Int)<=4096)) (jK [l,e,f,g] dP #[ab.v,k.v] w λar am=>aF ar ((0:Int)<=(if ((k.n:Nat):Int)<((b.n:Nat):Int) then ((k.n:Nat):Int) else ((b.n:Nat):Int))/\(if ((k.n:Nat):Int)<((b.n:Nat):Int) then ((k.n:Nat):Int) else ((b.n:Nat):Int))<=((b.c:Nat):Int)/\jK [l,e,f,g] dP #[.slice (if b.c=0 then b.a else b.a.map (·.add (0 *9))) ((Int.toNat (if ((k.n:Nat):Int)<((b.n:Nat):Int) then ((k.n:Nat):Int) else ((b.n:Nat):Int))) - 0) (b.c - 0),k.v] am λau an=>aF au ((0:Int)<=(if ((k.n:Nat):Int)<((d.n:Nat):Int) then ((k.n:Nat):Int) else ((d.n:Nat):Int))/\(if ((k.n:Nat):Int)<((d.n:Nat):Int) then ((k.n:Nat):Int) else ((d.n:Nat):Int))<=((d.c:Nat):Int)/\jK [l,e,f,g] dP #[.slice (if d.c=0 then d.a else d.a.map (·.add (0 *9))) ((Int.toNat (if ((k.n:Nat):Int)<((d.n:Nat):Int) then ((k.n:Nat):Int) else ((d.n:Nat):Int))) - 0) (d.c - 0),k.v] an λav ao=>aF av (mW [l,e,f,g] ny #[.agg #[b.v]] ao λaw ap=>aF (aw==0) (mW [l,e,f,g] ny #[.agg #[d.v]] ap λax aq=>aF (ax==0) (jK [l,e,f,g] jW #[] aq λay bg=>R (.returned (.bool ay)) bg) (R (.returned (.bool false)) aq)) (R (.returned (.bool false)) ap)) (R (.returned (.bool false)) ao)) (R (.returned (.bool false)) an)) (R (.returned (.bool false)) am)) (R (.returned (.bool false)) w))),wY k h8 l ab e j f b g d m w R:=mp (dD (X:=X) [qz,sv,yI,AX,rX,kK,gn,fL,hC,eC] (bH [0,1,1,1,9]) P4)
theorem bA:∀(r h8:Sl) (c:Nat) (b:Sl) (d:Int) (w:World) (R:aD) (h:aF (decide (d<((r.n:Nat):Int))) ((0:Int)<=d/\d<((r.n:Nat):Int)/\aX r.a λz=>loc [c] w λw6=>qL w6 (z.add (Int.toNat d *9)) λe f g j k l m o p=>((xJ [c] fN #[.agg #[b.v],.agg #[.i e,f.v,.i g,.i j,.u k,.string l,.i m,.i o,.i p]] w6 λaa ad ae w7=>bE [c] w7 λaf w8=>
 loc [c,af] w8 λw9=>fY r h8 c b d af aa ad ae w9 R)/\(bE [c] w6 λs ah=>
 Mk ah (z.add (Int.toNat d *9)) (.i e) (f.v) (.i g) (.i j) (.u k) (.string l) (.i m) (.i o) (.i p) λ_=>xJ [c,s] fN #[.agg #[b.v],.agg #[.i e,f.v,.i g,.i j,.u k,.string l,.i m,.i o,.i p]] ah λq t x an=>loc [c,s] an λao=>fY r h8 c b d s q t x ao R))) (jK [c] dP #[b.v,r.v] w λal ai=>aF (!al) (ox ai R) (mW [c] ny #[.agg #[b.v]] ai λam aj=>aF (am !=0) (ox aj R) (bE [c] aj λy ap=>
 bE [c,y] ap λab aq=>
 bE [c,y,ab] aq λag ar=>
 loc [c,y,ab,ag] ar λau=>wY r h8 c b y ⟨none,0,0⟩ ab b ag b 0 au R)))),eH r h8 c b d w R:=mp (dD (X:=X) [qz,sv,yI,AX,rX,kK,gn,fL,hC,eC] (bH [0,1,1,1,4]) P0)
theorem cV (b c:Sl) (a:Int) (w:World) (R:aD) (h:BW aS #[.i a,.i 3] w λd k=>VC iA #[b.v,.i d,.i 10] k λe l=>BW aS #[.i a,.i 3] l λf m=>VC iA #[c.v,.i f,.i 10] m λg n=>bE [] n λj o=>
 eH e g j ⟨none,0,0⟩ 0 o R):Calls Tryz.prog kP #[b.v,c.v,.i a] w R:=aO X [qz,sv,yI,AX,rX,kK,gn,fL,hC,eC] h
end enthymemelaw07_TermShared
end Go.Proofs.YtcifihepfadgfaaGreatDoor
