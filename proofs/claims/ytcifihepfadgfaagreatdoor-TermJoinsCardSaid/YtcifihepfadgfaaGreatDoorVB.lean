import Derived.Test.YtcifihepfadgfaaGreatDoorV
set_option linter.unusedVariables false
set_option maxRecDepth 100000
set_option maxHeartbeats 2000000
namespace Go.Proofs.YtcifihepfadgfaaGreatDoor
open Go Go.W
namespace enthymemeref07_BV
noncomputable abbrev X:Fx:=⟨Tryz.prog,Tryz.f25,[],[2]⟩
theorem cU (a:Int) (w:World) (R:aD) (h:bE [] w λb c=>
 loc [b] c λd=>R (.returned (.agg #[.i 0,.i a,.i 0])) d):Calls Tryz.prog aT #[.i a] w R:=aM X [] h
end enthymemeref07_BV
namespace enthymemeref07_Strings
noncomputable abbrev X:Fx:=⟨Tryz.prog,Tryz.f75,[],[2]⟩
theorem cU (a:Int) (w:World) (R:aD) (h:bE [] w λb c=>
 loc [b] c λd=>R (.returned (.agg #[.i 1,.i a,.i 0])) d):Calls Tryz.prog bS #[.i a] w R:=aM X [] h
end enthymemeref07_Strings
namespace enthymemeref07_has
noncomputable abbrev X:Fx:=⟨Tryz.prog,Tryz.f53,[],[]⟩
theorem ok (b:Sl) (a:Int) (w:World) (R:aD) (h:AR lI #[b.v,.i a] w λc d=>R (.returned (.bool c)) d):Calls Tryz.prog jh #[b.v,.i a] w R:=aM X [] h
end enthymemeref07_has
namespace enthymemeref07_Kids
noncomputable abbrev X:Fx:=⟨Tryz.prog,Tryz.f77,[],[]⟩
abbrev P0:Ps:=[]
abbrev S0 (w:World) (R:aD):Prop:=
 R (.returned (.i (-1))) w
noncomputable def fA:=bK X [] (bH [0,1,1,1,1]) P0 S0
abbrev S1 (w:World) (R:aD):Prop:=
 R (.returned (.i 1)) w
noncomputable def gG:=bK X [fA] (bH [0,1,1,1,1,1,3]) P0 S1
abbrev S3 (w:World) (R:aD):Prop:=
 R (.returned (.i 3)) w
noncomputable def jc:=bK X [gG,fA] (bH [0,1,3,1,1,1,3]) P0 S3
abbrev S4 (w:World) (R:aD):Prop:=
 R (.returned (.i 2)) w
noncomputable def mE:=bK X [jc,gG,fA] (bH [4]) P0 S4
abbrev P1:Ps:=[(11,.v [.I])]
abbrev S2 (a:Int) (w:World) (R:aD):Prop:=
 aG (a==19) (aG (a==19) (S3 w R) (S4 w R)) (aG (a==25) (aG (a==25) (S3 w R) (S4 w R)) (aG (a==30) (aG (a==30) (S3 w R) (S4 w R)) (aG (a==32) (S3 w R) (S4 w R))))
noncomputable def fX:=bK X [mE,jc,gG,fA] (bH [2,1,1,1,3]) P1 S2
theorem ok (a:Int) (w:World) (R:aD) (h:aG (decide (a<0)) (S0 w R) (aG (decide (a>34)) (S0 w R) (aG (decide (a<=3)) (R (.returned (.i 0)) w) (aG (a==4) (aG (a==4) (S1 w R) (S2 a w R)) (aG (a==5) (aG (a==5) (S1 w R) (S2 a w R)) (aG (a==21) (aG (a==21) (S1 w R) (S2 a w R)) (aG (a==22) (aG (a==22) (S1 w R) (S2 a w R)) (aG (a==23) (aG (a==23) (S1 w R) (S2 a w R)) (aG (a==27) (aG (a==27) (S1 w R) (S2 a w R)) (aG (a==28) (aG (a==28) (S1 w R) (S2 a w R)) (aG (a==33) (aG (a==33) (S1 w R) (S2 a w R)) (aG (a==34) (S1 w R) (S2 a w R))))))))))))):Calls Tryz.prog iH #[.i a] w R:=aM X [fX,mE,jc,gG,fA] h
end enthymemeref07_Kids
namespace enthymemeref07_Named
noncomputable abbrev X:Fx:=⟨Tryz.prog,Tryz.f86,[],[]⟩
abbrev P0:Ps:=[]
abbrev S0 (w:World) (R:aD):Prop:=
 R (.returned (.bool false)) w
noncomputable def fA:=bK X [] (bH [0,1,1,1,1]) P0 S0
abbrev P1:Ps:=[(0,.v [.st]),(3,.v [.I])]
def L1 (b:ByteArray) (a:Int) (w:World) (R:aD):Prop:=cG P1 0 (X.Sem (bH [0,1,1,1,2])) b a w R
noncomputable def lu:=fU X (bH [0,1,1,1,2]) P1 L1
abbrev S4 (b:ByteArray) (a:Int) (w:World) (R:aD):Prop:=
 L1 b (IntKind.wrap .i64 (a+1)) w R
noncomputable def mE:=bK X [lu,fA] (bH [2,2,1,1,2]) P1 S4
abbrev P2:Ps:=[(0,.v [.st]),(3,.v [.I]),(4,.v [.b]),(5,.v [.b])]
abbrev S3 (d:ByteArray) (c:Int) (a b:Bool) (w:World) (R:aD):Prop:=
 aG (!a) (aG (!b) (R (.returned (.bool false)) w) (S4 d c w R)) (S4 d c w R)
noncomputable def jc:=bK X [mE,lu,fA] (bH [2,2,1,2,1,1,2]) P2 S3
abbrev P3:Ps:=[(0,.v [.st]),(3,.v [.I]),(4,.v [.b])]
abbrev S2 (d:ByteArray) (b:Int) (a:Bool) (w:World) (R:aD):Prop:=
 (0:Int)<=b/\∃e:UInt8,d[Int.toNat b]? =some e/\aG (decide (((e.toNat:Nat):Int)>=48)) ((0:Int)<=b/\∃f:UInt8,d[Int.toNat b]? =some f/\aG (decide (((f.toNat:Nat):Int)<=57)) (S3 d b a true w R) ((0:Int)<=b/\∃g:UInt8,d[Int.toNat b]? =some g/\S3 d b a (((g.toNat:Nat):Int)==45) w R)) ((0:Int)<=b/\∃c:UInt8,d[Int.toNat b]? =some c/\S3 d b a (((c.toNat:Nat):Int)==45) w R)
noncomputable def fX:=bK X [jc,mE,lu,fA] (bH [1,2,1,2,1,1,2]) P3 S2
theorem oI:∀(d:ByteArray) (a:Int) (w:World) (R:aD) (h:aG (decide (a<((d.size:Nat):Int))) ((0:Int)<=a/\∃b:UInt8,d[Int.toNat a]? =some b/\aG (decide (((b.toNat:Nat):Int)>=97)) ((0:Int)<=a/\∃c:UInt8,d[Int.toNat a]? =some c/\S2 d a (decide (((c.toNat:Nat):Int)<=122)) w R) (S2 d a false w R)) (R (.returned (.bool true)) w)),L1 d a w R:=mp (cW (X:=X) [fX,jc,mE,lu,fA] (bH [0,1,1,1,2]) P1)
theorem ok (c:ByteArray) (w:World) (R:aD) (h:aG (decide (((c.size:Nat):Int)<1)) (S0 w R) (aG (decide (((c.size:Nat):Int)>16)) (S0 w R) ((0:Int)<=0/\∃a:UInt8,c[Int.toNat 0]? =some a/\aG (decide (((a.toNat:Nat):Int)<97)) (S0 w R) ((0:Int)<=0/\∃b:UInt8,c[Int.toNat 0]? =some b/\aG (decide (((b.toNat:Nat):Int)>122)) (S0 w R) (L1 c 0 w R))))):Calls Tryz.prog kn #[.string c] w R:=aM X [fX,jc,mE,lu,fA] h
end enthymemeref07_Named
namespace enthymemeref06_within
noncomputable abbrev X:Fx:=⟨Tryz.prog,Tryz.f118,[],[]⟩
theorem ok (c b a:Int) (w:World) (R:aD) (h:aG (decide (c>=b)) (R (.returned (.bool (decide (c<=a)))) w) (R (.returned (.bool false)) w)):Calls Tryz.prog bZ #[.i c,.i b,.i a] w R:=aM X [] h
end enthymemeref06_within
namespace enthymemeref06_ValidSort
noncomputable abbrev X:Fx:=⟨Tryz.prog,Tryz.f87,[],[1]⟩
abbrev P0:Ps:=[(3,.v [.b])]
abbrev dV (a:Bool) (w:World) (R:aD):Prop:=
 aG (!a) (R (.returned (.i 9)) w) (R (.returned (.i 0)) w)
noncomputable def fA:=bK X [] (bH [3]) P0 dV
theorem cU (a b c:Int) (w:World) (R:aD) (h:bE [] w λd e=>
 aG (a==0) (jW [d] bZ #[.i b,.i 1,.i 64] e λf n=>aG f (dV (c==0) n R) (dV false n R)) (aG (a==1) (jW [d] bZ #[.i b,.i 0,.i 64] e λg o=>aG g (dV (c==0) o R) (dV false o R)) (aG (a==2) (jW [d] bZ #[.i b,.i 1,.i 64] e λj p=>aG j (jW [d] bZ #[.i c,.i 1,.i 16] p λk r=>dV k r R) (dV false p R)) (aG (a==3) (jW [d] bZ #[.i b,.i 0,.i 64] e λl q=>aG l (jW [d] bZ #[.i c,.i 1,.i 16] q λm s=>dV m s R) (dV false q R)) (dV false e R))))):Calls Tryz.prog iA #[.agg #[.i a,.i b,.i c]] w R:=aM X [fA] h
end enthymemeref06_ValidSort
namespace enthymemeref07_fields
noncomputable abbrev X:Fx:=⟨Tryz.prog,Tryz.f44,[(1,ls [0,1,3,4,5,2,6])],[3]⟩
abbrev P0:Ps:=[(0,.v [.s]),(3,.l [.I,.s,.I,.I,.U,.st,.I,.I,.I] aE),(5,.v [.I])]
def eE (k:Sl) (m:Nat) (a:Int) (b:Sl) (c d e:Int) (f:ByteArray) (g i j l:Int) (w:World) (R:aD):Prop:=cG P0 0 (X.Sem (bH [0,1,1,1,2])) k m a b c d e f g i j l w R
noncomputable def eN:=fU X (bH [0,1,1,1,2]) P0 eE
abbrev P1:Ps:=[]
abbrev gm (w:World) (R:aD):Prop:=
 R (.returned (.i 1)) w
noncomputable def gG:=bK X [eN] (bH [0,1,1,2,1,2,1,1,2]) P1 gm
abbrev fB (w:World) (R:aD):Prop:=
 R (.returned (.i 1)) w
noncomputable def fX:=bK X [gG,eN] (bH [0,1,1,1,5]) P1 fB
abbrev ic (w:World) (R:aD):Prop:=
 R (.returned (.i 0)) w
noncomputable def jc:=bK X [fX,gG,eN] (bH [6]) P1 ic
theorem aY:∀(v:Sl) (q:Nat) (c:Int) (e:Sl) (l k f:Int) (d:ByteArray) (m o p j:Int) (w:World) (R:aD) (h:aG (decide (j<((e.n:Nat):Int))) ((0:Int)<=j/\j<((e.n:Nat):Int)/\aW e.a λr=>∃t:Int,w.cell? (r.add (Int.toNat j *1))=some (.i t)/\
 aG (decide (t<0)) (gm w R) ((0:Int)<=j/\j<((e.n:Nat):Int)/\aW e.a λs=>∃u:Int,w.cell? (s.add (Int.toNat j *1))=some (.i u)/\
 aG (decide (u>=((v.n:Nat):Int))) (gm w R) (eE v q c e l k f d m o p (IntKind.wrap .i64 (j+1)) w R))) (fH w (.cells #[.i 21,.i 22,.i 23,.i 28] bP) λz=>
 jW [q] jh #[.slice (some (nb w)) 4 4,.i c] z λx y=>fH y (.cells #[.i 0,.i 2,.i 33] bP) λw6=>
 jW [q] jh #[.slice (some (nb y)) 3 3,.i c] w6 λg b=>aG (!x) (aG (l !=0) (fB b R) (aG (c !=21) (aG (k !=0) (fB b R) (aG (c !=1) (aG (f !=0) (fB b R) (aG (!g) (aG (!(d.toList==(ByteArray.mk #[]).toList)) (fB b R) (ic b R)) (ic b R))) (aG (!g) (aG (!(d.toList==(ByteArray.mk #[]).toList)) (fB b R) (ic b R)) (ic b R)))) (aG (c !=1) (aG (f !=0) (fB b R) (aG (!g) (aG (!(d.toList==(ByteArray.mk #[]).toList)) (fB b R) (ic b R)) (ic b R))) (aG (!g) (aG (!(d.toList==(ByteArray.mk #[]).toList)) (fB b R) (ic b R)) (ic b R))))) (aG (c !=21) (aG (k !=0) (fB b R) (aG (c !=1) (aG (f !=0) (fB b R) (aG (!g) (aG (!(d.toList==(ByteArray.mk #[]).toList)) (fB b R) (ic b R)) (ic b R))) (aG (!g) (aG (!(d.toList==(ByteArray.mk #[]).toList)) (fB b R) (ic b R)) (ic b R)))) (aG (c !=1) (aG (f !=0) (fB b R) (aG (!g) (aG (!(d.toList==(ByteArray.mk #[]).toList)) (fB b R) (ic b R)) (ic b R))) (aG (!g) (aG (!(d.toList==(ByteArray.mk #[]).toList)) (fB b R) (ic b R)) (ic b R)))))),eE v q c e l k f d m o p j w R:=mp (cW (X:=X) [jc,fX,gG,eN] (bH [0,1,1,1,2]) P0)
theorem cU (m:Sl) (a:Int) (b:Sl) (c d e:Int) (f:ByteArray) (g j k:Int) (w:World) (R:aD) (h:bE [] w λl q=>
 loc [l] q λr=>nJ [l] iH #[.i a] r λo p=>aG (o !=((b.n:Nat):Int)) (R (.returned (.i 1)) p) (eE m l a b c d e f g j k 0 p R)):Calls Tryz.prog jM #[m.v,.agg #[.i a,b.v,.i c,.i d,.u e,.string f,.i g,.i j,.i k]] w R:=aM X [jc,fX,gG,eN] h
end enthymemeref07_fields
namespace enthymemeref07_leaf
noncomputable abbrev X:Fx:=⟨Tryz.prog,Tryz.f45,[(19,ls [0,1,2,3,4,5,6,7,8,9,10,11,12,13,14,15,16,17,18,19,20,21,22,23,24,25,26,27,28,29,30])],[3,4]⟩
abbrev P0:Ps:=[(4,.l [.I,.I,.I] aS)]
abbrev fB (a:Nat) (b c d:Int) (w:World) (R:aD):Prop:=
 loc [a] w λe=>R (.returned (.tuple #[.agg #[.i 0,.i 0,.i 0],.i 9])) e
noncomputable def fX:=bK X [] (bH [0,1,1,1,7]) P0 fB
abbrev P1:Ps:=[(0,.v [.s]),(3,.l [.I,.s,.I,.I,.U,.st,.I,.I,.I] aE),(4,.l [.I,.I,.I] aS),(9,.v [.I])]
def CA (n:Sl) (p:Nat) (a:Int) (b:Sl) (c d e:Int) (f:ByteArray) (g i j:Int) (q:Nat) (k l m o:Int) (w:World) (R:aD):Prop:=cG P1 0 (X.Sem (bH [0,1,1,1,9])) n p a b c d e f g i j q k l m o w R
noncomputable def wR:=fU X (bH [0,1,1,1,9]) P1 CA
abbrev x9 (n:Sl) (p:Nat) (a:Int) (b:Sl) (c d e:Int) (f:ByteArray) (g i j:Int) (q:Nat) (k l m o:Int) (w:World) (R:aD):Prop:=
 CA n p a b c d e f g i j q k l m (IntKind.wrap .i64 (o+1)) w R
noncomputable def sw:=bK X [wR,fX] (bH [2,2,1,1,9]) P1 x9
theorem nK:∀(j:Sl) (s:Nat) (f:Int) (k:Sl) (l m o:Int) (g:ByteArray) (c d e:Int) (t:Nat) (p q r b:Int) (w:World) (R:aD) (h:aG (decide (b<((j.n:Nat):Int))) (aG (f==0) ((0:Int)<=b/\b<((j.n:Nat):Int)/\aW j.a λv=>loc [s,t] w λu=>∃x:Int,u.cell? ((v.add (Int.toNat b *9)).add 0)=some (.i x)/\
 aG (x==0) ((0:Int)<=b/\b<((j.n:Nat):Int)/\aW j.a λy=>∃z:ByteArray,u.cell? ((y.add (Int.toNat b *9)).add 5)=some (.string z)/\
 aG (z.toList==g.toList) ((0:Int)<=b/\b<((j.n:Nat):Int)/\aW j.a λaa=>dN u ((aa.add (Int.toNat b *9)).add 6) λab ac ad=>aG (!((ab==c)&&((ac==d)&&((ad==e)&&true)))) (loc [s,t] u λw4=>R (.returned (.tuple #[.agg #[.i 0,.i 0,.i 0],.i 8])) w4) (x9 j s f k l m o g c d e t p q r b u R)) (x9 j s f k l m o g c d e t p q r b u R)) (x9 j s f k l m o g c d e t p q r b u R)) (loc [s,t] w λu=>x9 j s f k l m o g c d e t p q r b u R)) (loc [s,t] w λw7=>R (.returned (.tuple #[.agg #[.i c,.i d,.i e],.i 0])) w7)),CA j s f k l m o g c d e t p q r b w R:=mp (cW (X:=X) [sw,wR,fX] (bH [0,1,1,1,9]) P1)
abbrev P2:Ps:=[(0,.v [.s]),(3,.l [.I,.s,.I,.I,.U,.st,.I,.I,.I] aE),(4,.l [.I,.I,.I] aS)]
abbrev qb (n:Sl) (o:Nat) (a:Int) (b:Sl) (c d e:Int) (f:ByteArray) (g i j:Int) (p:Nat) (k l m:Int) (w:World) (R:aD):Prop:=
 CA n o a b c d e f g i j p k l m 0 w R
noncomputable def mE:=bK X [sw,wR,fX] (bH [9]) P2 qb
abbrev ic (q:Sl) (o:Nat) (b:Int) (d:Sl) (e f c:Int) (g:ByteArray) (j a k:Int) (p:Nat) (l m n:Int) (w:World) (R:aD):Prop:=
 aG (b==1) (aG (decide (a<64)) (¬(IntKind.wrap .u64 a)<0/\aG (decide (c>=(IntKind.wrap .u64 (1 *2^(min (Int.toNat (IntKind.wrap .u64 a)) (IntKind.bits .u64)))))) (loc [o,p] w λr=>R (.returned (.tuple #[.agg #[.i 0,.i 0,.i 0],.i 5])) r) (qb q o b d e f c g j a k p l m n w R)) (qb q o b d e f c g j a k p l m n w R)) (qb q o b d e f c g j a k p l m n w R)
noncomputable def jc:=bK X [mE,sw,wR,fX] (bH [8]) P2 ic
abbrev P3:Ps:=[(0,.v [.s]),(3,.l [.I,.s,.I,.I,.U,.st,.I,.I,.I] aE),(4,.l [.I,.I,.I] aS),(8,.v [.b])]
abbrev gm (p:Sl) (q:Nat) (a:Int) (g:Sl) (i j k:Int) (l:ByteArray) (e m n:Int) (o:Nat) (b c d:Int) (f:Bool) (w:World) (R:aD):Prop:=
 aG (a==1) (aG (e !=0) (fB o b c d w R) (aG (a==3) (aG (!f) (fB o b c d w R) (ic p q a g i j k l e m n o b c d w R)) (ic p q a g i j k l e m n o b c d w R))) (aG (a==3) (aG (!f) (fB o b c d w R) (ic p q a g i j k l e m n o b c d w R)) (ic p q a g i j k l e m n o b c d w R))
noncomputable def gG:=bK X [jc,mE,sw,wR,fX] (bH [7]) P3 gm
abbrev P4:Ps:=[(0,.v [.s]),(3,.l [.I,.s,.I,.I,.U,.st,.I,.I,.I] aE),(4,.l [.I,.I,.I] aS),(6,.v [.b])]
abbrev dV (t:Sl) (d:Nat) (e:Int) (f:Sl) (g j k:Int) (l:ByteArray) (a b c:Int) (m:Nat) (n o p:Int) (q:Bool) (w:World) (R:aD):Prop:=
 aG (!q) (loc [d,m] w λu=>R (.returned (.tuple #[.agg #[.i 0,.i 0,.i 0],.i 6])) u) (nJ [d,m] iA #[.agg #[.i a,.i b,.i c]] w λr s=>aG (r !=0) (loc [d,m] s λv=>R (.returned (.tuple #[.agg #[.i 0,.i 0,.i 0],.i r])) v) (aG (a==2) (gm t d e f g j k l a b c m n o p true s R) (gm t d e f g j k l a b c m n o p (a==3) s R)))
noncomputable def fA:=bK X [gG,jc,mE,sw,wR,fX] (bH [3]) P4 dV
theorem cU (r:Sl) (b:Int) (d:Sl) (e f g:Int) (a:ByteArray) (j k l:Int) (w:World) (R:aD) (h:bE [] w λc x=>
 bE [c] x λm q=>
 aG (b==2) (aG (decide (((a.size:Nat):Int)>64)) (loc [c,m] q λy=>R (.returned (.tuple #[.agg #[.i 0,.i 0,.i 0],.i 5])) y) (gX [c,m] bS #[.i ((a.size:Nat):Int)] q λn o p z=>loc [c,m] z λw9=>R (.returned (.tuple #[.agg #[.i n,.i o,.i p],.i 0])) w9)) (aG (b !=0) (dV r c b d e f g a j k l m 0 0 0 true q R) (jW [c,m] kn #[.string a] q λs t=>dV r c b d e f g a j k l m 0 0 0 s t R))):Calls Tryz.prog kQ #[r.v,.agg #[.i b,d.v,.i e,.i f,.u g,.string a,.i j,.i k,.i l]] w R:=aM X [fA,gG,jc,mE,sw,wR,fX] h
end enthymemeref07_leaf
namespace enthymemeref07_Element
noncomputable abbrev X:Fx:=⟨Tryz.prog,Tryz.f88,[],[1,2]⟩
theorem cU (c a j:Int) (w:World) (R:aD) (h:bE [] w λb p=>
 bE [b] p λd o=>
 aG (c==2) (gX [b,d] aT #[.i a] o λk l m q=>loc [b,d] q λr=>R (.returned (.agg #[.i k,.i l,.i m])) r) (gX [b,d] bS #[.i a] o λe f g s=>loc [b,d] s λn=>R (.returned (.agg #[.i e,.i f,.i g])) n)):Calls Tryz.prog fM #[.agg #[.i c,.i a,.i j]] w R:=aM X [] h
end enthymemeref07_Element
namespace enthymemeref07_fit
noncomputable abbrev X:Fx:=⟨Tryz.prog,Tryz.f46,[(13,ls [0,1,2,3,4,5,6,7,8,9,10,11,12,13,14,15]),(15,ls [0,1,2,3,4,5,6,7,8,9,10,11,12,13,14,15,16,17,18,19,20,21,22,23,24,25,26]),(19,ls [0,1,2,3,4,5,6,7,8,9,10]),(21,ls [0,1,2,3,4,5,6,7,8,9,10]),(23,ls [0,1,2,3,4,5,6,7,8,9,10,11,12,13,14,15,16,17,18,19,20,21,22,23,24,25,26,27]),(25,ls [0,1,2,3,4,5,6,7,8]),(34,ls [0,1,2,3,4,5,6,7,8,9,10,11,12,13,14,15]),(38,ls [0,1,2,3]),(39,ls [0,1,2,3,4,5,6,7,8])],[5]⟩
abbrev P0:Ps:=[(6,.v [.b])]
abbrev gm (a:Bool) (w:World) (R:aD):Prop:=
 R (.returned (.bool a)) w
noncomputable def gG:=bK X [] (bH [0,1,1,1,1,1,5]) P0 gm
abbrev P1:Ps:=[]
abbrev ic (w:World) (R:aD):Prop:=
 R (.returned (.bool false)) w
noncomputable def jc:=bK X [gG] (bH [0,1,1,2,11,1,1,1,5]) P1 ic
abbrev P2:Ps:=[(7,.v [.b])]
abbrev qb (a:Bool) (w:World) (R:aD):Prop:=
 R (.returned (.bool a)) w
noncomputable def mE:=bK X [jc,gG] (bH [0,1,15,1,1,1,5]) P2 qb
abbrev P3:Ps:=[(1,.v [.s]),(7,.v [.b])]
abbrev x9 (e:Sl) (d:Bool) (w:World) (R:aD):Prop:=
 aG d ((0:Int)<=1/\1<((e.n:Nat):Int)/\aW e.a λb=>∃c:Int,w.cell? ((b.add (Int.toNat 1 *3)).add 0)=some (.i c)/\
 R (.returned (.bool (c==1))) w) (R (.returned (.bool false)) w)
noncomputable def sw:=bK X [mE,jc,gG] (bH [0,1,17,1,1,1,5]) P3 x9
abbrev P4:Ps:=[(1,.v [.s]),(5,.l [.I,.I,.I] aS),(6,.v [.b]),(7,.v [.b]),(26,.v [.I])]
abbrev II (b:Sl) (m:Nat) (ai aj ak:Int) (ao o:Bool) (ah:Int) (w:World) (R:aD):Prop:=
 aG (ah==30) (aG o ((0:Int)<=1/\1<((b.n:Nat):Int)/\aW b.a λc=>loc [m] w λw1=>dN w1 (c.add (Int.toNat 1 *3)) λd e f=>gX [m] aT #[.i 7] w1 λp q r w2=>Nk w2 (c.add (Int.toNat 1 *3)) (.i d) (.i e) (.i f) λ_=>aG ((d==p)&&((e==q)&&((f==r)&&true))) ((0:Int)<=2/\2<((b.n:Nat):Int)/\aW b.a λg=>dN w2 (g.add (Int.toNat 2 *3)) λj k l=>gX [m] aT #[.i 7] w2 λs t u w3=>Nk w3 (g.add (Int.toNat 2 *3)) (.i j) (.i k) (.i l) λ_=>R (.returned (.bool ((j==s)&&((k==t)&&((l==u)&&true))))) w3) (R (.returned (.bool false)) w2)) (loc [m] w λw1=>R (.returned (.bool false)) w1)) (aG (ah==32) (aG o ((0:Int)<=1/\1<((b.n:Nat):Int)/\aW b.a λv=>∃x:Int,w.cell? ((v.add (Int.toNat 1 *3)).add 0)=some (.i x)/\
 aG (x==1) ((0:Int)<=2/\2<((b.n:Nat):Int)/\aW b.a λy=>∃z:Int,w.cell? ((y.add (Int.toNat 2 *3)).add 0)=some (.i z)/\
 R (.returned (.bool (z==1))) w) (R (.returned (.bool false)) w)) (R (.returned (.bool false)) w)) (aG (ah==34) (loc [m] w λw4=>gX [m] aT #[.i 8] w4 λaa ab ac w5=>R (.returned (.bool ((ai==aa)&&((aj==ab)&&((ak==ac)&&true))))) w5) (aG ao ((0:Int)<=1/\1<((b.n:Nat):Int)/\aW b.a λad=>loc [m] w λw6=>dN w6 (ad.add (Int.toNat 1 *3)) λae af ag=>R (.returned (.bool ((ai==ae)&&((aj==af)&&((ak==ag)&&true))))) w6) (loc [m] w λw6=>R (.returned (.bool false)) w6))))
noncomputable def vr:=bK X [sw,mE,jc,gG] (bH [18,1,1,1,5]) P4 II
abbrev CC (f:Sl) (i:Nat) (c d e:Int) (g a:Bool) (b:Int) (w:World) (R:aD):Prop:=
 aG (b==29) (aG (b==29) (x9 f a w R) (II f i c d e g a b w R)) (aG (b==31) (x9 f a w R) (II f i c d e g a b w R))
noncomputable def uk:=bK X [vr,sw,mE,jc,gG] (bH [16,1,1,1,5]) P4 CC
abbrev P5:Ps:=[(1,.v [.s]),(5,.l [.I,.I,.I] aS),(6,.v [.b]),(7,.v [.b]),(8,.v [.b]),(26,.v [.I])]
abbrev fB (b:Sl) (g:Nat) (e f d:Int) (x j k:Bool) (c:Int) (w:World) (R:aD):Prop:=
 aG (c==18) ((0:Int)<=1/\1<((b.n:Nat):Int)/\aW b.a λau=>loc [g] w λw1=>dN w1 (au.add (Int.toNat 1 *3)) λav aw ax=>aG ((e==av)&&((f==aw)&&((d==ax)&&true))) (R (.returned (.bool true)) w1) (aG j ((0:Int)<=1/\1<((b.n:Nat):Int)/\aW b.a λay=>∃bu:Int,w1.cell? ((ay.add (Int.toNat 1 *3)).add 0)=some (.i bu)/\
 R (.returned (.bool (bu==1))) w1) (R (.returned (.bool false)) w1))) (aG (c==19) (loc [g] w λw2=>gX [g] aT #[.i 1] w2 λaz bb bc u=>aG ((e==az)&&((f==bb)&&((d==bc)&&true))) ((0:Int)<=1/\1<((b.n:Nat):Int)/\aW b.a λbd=>dN u (bd.add (Int.toNat 1 *3)) λbe bf bg=>(0:Int)<=2/\2<((b.n:Nat):Int)/\aW b.a λbh=>dN u (bh.add (Int.toNat 2 *3)) λbi bj bk=>aG ((be==bi)&&((bf==bj)&&((bg==bk)&&true))) (R (.returned (.bool true)) u) ((0:Int)<=1/\1<((b.n:Nat):Int)/\aW b.a λbm=>∃bv:Int,u.cell? ((bm.add (Int.toNat 1 *3)).add 0)=some (.i bv)/\
 aG (bv==1) ((0:Int)<=2/\2<((b.n:Nat):Int)/\aW b.a λbn=>∃bw:Int,u.cell? ((bn.add (Int.toNat 2 *3)).add 0)=some (.i bw)/\
 R (.returned (.bool (bw==1))) u) (R (.returned (.bool false)) u))) (R (.returned (.bool false)) u)) (aG (c==20) (aG x ((0:Int)<=1/\1<((b.n:Nat):Int)/\aW b.a λbo=>∃bx:Int,w.cell? ((bo.add (Int.toNat 1 *3)).add 0)=some (.i bx)/\
 R (.returned (.bool (bx==0))) w) (R (.returned (.bool false)) w)) (aG (c==24) (aG k ((0:Int)<=1/\1<((b.n:Nat):Int)/\aW b.a λy=>loc [g] w λw4=>dN w4 (y.add (Int.toNat 1 *3)) λz aa ab=>gX [g] aT #[.i d] w4 λbp bq br w5=>Nk w5 (y.add (Int.toNat 1 *3)) (.i z) (.i aa) (.i ab) λ_=>R (.returned (.bool ((z==bp)&&((aa==bq)&&((ab==br)&&true))))) w5) (loc [g] w λw4=>R (.returned (.bool false)) w4)) (aG (c==25) (aG (!k) (loc [g] w λw6=>ic w6 R) ((0:Int)<=1/\1<((b.n:Nat):Int)/\aW b.a λl=>loc [g] w λw6=>dN w6 (l.add (Int.toNat 1 *3)) λm o p=>gX [g] aT #[.i d] w6 λad ae af w7=>Nk w7 (l.add (Int.toNat 1 *3)) (.i m) (.i o) (.i p) λ_=>aG (!((m==ad)&&((o==ae)&&((p==af)&&true)))) (ic w7 R) ((0:Int)<=2/\2<((b.n:Nat):Int)/\aW b.a λq=>loc [g] w7 λw8=>dN w8 (q.add (Int.toNat 2 *3)) λr s t=>gX [g] fM #[.agg #[.i e,.i f,.i d]] w8 λag ah ai v=>Nk v (q.add (Int.toNat 2 *3)) (.i r) (.i s) (.i t) λ_=>aG ((r==ag)&&((s==ah)&&((t==ai)&&true))) (R (.returned (.bool true)) v) (aG (e==3) ((0:Int)<=2/\2<((b.n:Nat):Int)/\aW b.a λaj=>∃ak:Int,v.cell? ((aj.add (Int.toNat 2 *3)).add 0)=some (.i ak)/\
 aG (ak==1) ((0:Int)<=2/\2<((b.n:Nat):Int)/\aW b.a λal=>∃am:Int,v.cell? ((al.add (Int.toNat 2 *3)).add 1)=some (.i am)/\
 R (.returned (.bool (decide (am<=f)))) v) (R (.returned (.bool false)) v)) (R (.returned (.bool false)) v))))) (aG (c==26) (aG k ((0:Int)<=1/\1<((b.n:Nat):Int)/\aW b.a λan=>loc [g] w λac=>dN ac (an.add (Int.toNat 1 *3)) λao ap aq=>R (.returned (.bool ((e==ao)&&((f==ap)&&((d==aq)&&true))))) ac) (loc [g] w λac=>R (.returned (.bool false)) ac)) (aG (c==27) (aG (c==27) (qb j w R) (CC b g e f d x j c w R)) (aG (c==28) (aG (c==28) (qb j w R) (CC b g e f d x j c w R)) (aG (c==33) (qb j w R) (CC b g e f d x j c w R)))))))))
noncomputable def fX:=bK X [uk,vr,sw,mE,jc,gG] (bH [2,1,1,1,5]) P5 fB
abbrev P6:Ps:=[(0,.v [.I]),(1,.v [.s]),(5,.l [.I,.I,.I] aS),(6,.v [.b]),(7,.v [.b]),(8,.v [.b])]
abbrev dV (a:Int) (i:Sl) (j:Nat) (e f g:Int) (c d b:Bool) (w:World) (R:aD):Prop:=
 aG (a==4) (aG (a==4) (gm c w R) (fB i j e f g c d b a w R)) (aG (a==5) (aG (a==5) (gm c w R) (fB i j e f g c d b a w R)) (aG (a==21) (aG (a==21) (gm c w R) (fB i j e f g c d b a w R)) (aG (a==22) (aG (a==22) (gm c w R) (fB i j e f g c d b a w R)) (aG (a==23) (gm c w R) (fB i j e f g c d b a w R)))))
noncomputable def fA:=bK X [fX,uk,vr,sw,mE,jc,gG] (bH [5]) P6 dV
theorem cU (f:Int) (e:Sl) (w:World) (R:aD) (h:(0:Int)<=0/\0<((e.n:Nat):Int)/\aW e.a λj=>dN w (j.add (Int.toNat 0 *3)) λb c d=>bE [] w λg l=>
 aG (b==2) (loc [g] l λk=>dV f e g b c d (b==0) (b==1) true k R) (loc [g] l λk=>dV f e g b c d (b==0) (b==1) (b==3) k R)):Calls Tryz.prog lM #[.i f,e.v] w R:=aM X [fA,fX,uk,vr,sw,mE,jc,gG] h
end enthymemeref07_fit
namespace enthymemeref07_result
noncomputable abbrev X:Fx:=⟨Tryz.prog,Tryz.f47,[(10,ls [0,1,2,3,4,5,6,7,8,9,10,11]),(13,ls [0,1,2,3,4,5,6,8,9,10,11,12,13,14,15,7,16,17]),(15,ls [0,1,2,3,4,5,7,8,9,6,10,11,12,13,14,15,16,17,18,19,20,21,22,23,24,25]),(18,ls [0,1,2,3,4,6,7,8,5,9,10,11,12,13,14,15,16,17,18]),(27,ls [1,2,3,0,4,5,6,7,8,9,10]),(29,ls [0,1,2,3,4,5,6,8,9,10,11,12,13,14,15,7,16,17]),(31,ls [0,1,2,3,4,5,6,8,9,10,11,12,13,14,15,7,16,17])],[2,4,6]⟩
abbrev P0:Ps:=[(4,.l [.I,.I,.I] aS)]
abbrev dV (d:Nat) (e f g:Int) (w:World) (R:aD):Prop:=
 gX [d] aT #[.i 1] w λa b c j=>loc [d] j λk=>R (.returned (.tuple #[.agg #[.i a,.i b,.i c],.bool true])) k
noncomputable def fA:=bK X [] (bH [0,1,1,1,1,1,2]) P0 dV
abbrev P1:Ps:=[(2,.l [.I,.s,.I,.I,.U,.st,.I,.I,.I] aE),(4,.l [.I,.I,.I] aS),(6,.l [.I,.I,.I] aS)]
abbrev fB (f:Nat) (l:Int) (m:Sl) (a n o:Int) (p:ByteArray) (q r s:Int) (g:Nat) (t u v:Int) (j:Nat) (aa e ab:Int) (w:World) (R:aD):Prop:=
 loc [f,g,j] w λx=>gX [f,g,j] aT #[.i (IntKind.wrap .i64 (e+a))] x λb c d k=>aG (decide (a>=1)) (loc [f,g,j] k λy=>R (.returned (.tuple #[.agg #[.i b,.i c,.i d],.bool (decide (a<=(IntKind.wrap .i64 (64 - e))))])) y) (loc [f,g,j] k λz=>R (.returned (.tuple #[.agg #[.i b,.i c,.i d],.bool false])) z)
noncomputable def fX:=bK X [fA] (bH [0,1,9,1,1,1,2]) P1 fB
abbrev qb (d:Nat) (e f g:Int) (w:World) (R:aD):Prop:=
 gX [d] aT #[.i 7] w λa b c j=>loc [d] j λk=>R (.returned (.tuple #[.agg #[.i a,.i b,.i c],.bool true])) k
noncomputable def mE:=bK X [fX,fA] (bH [0,1,15,1,1,1,2]) P0 qb
abbrev P2:Ps:=[(1,.v [.s]),(2,.l [.I,.s,.I,.I,.U,.st,.I,.I,.I] aE),(4,.l [.I,.I,.I] aS),(6,.l [.I,.I,.I] aS),(11,.v [.I])]
abbrev CC (l:Sl) (b:Nat) (au:Int) (av:Sl) (r aw ax:Int) (ay:ByteArray) (az bb bc:Int) (c:Nat) (bd be bf:Int) (d:Nat) (am g an q:Int) (w:World) (R:aD):Prop:=
 aG (q==28) (loc [b,c,d] w λw1=>gX [b,c,d] aT #[.i 8] w1 λm o p w2=>aG (decide (r>=0)) (loc [b,c,d] w2 λw5=>R (.returned (.tuple #[.agg #[.i m,.i o,.i p],.bool (decide (r<=63))])) w5) (loc [b,c,d] w2 λw8=>R (.returned (.tuple #[.agg #[.i m,.i o,.i p],.bool false])) w8)) (aG (q==29) ((0:Int)<=1/\1<((l.n:Nat):Int)/\aW l.a λs=>loc [b,c,d] w λw9=>∃t:Int,w9.cell? ((s.add (Int.toNat 1 *3)).add 1)=some (.i t)/\
 (0:Int)<=1/\1<((l.n:Nat):Int)/\aW l.a λe=>∃j:Int,w9.cell? ((e.add (Int.toNat 1 *3)).add 1)=some (.i j)/\
 gX [b,c,d] bS #[.i (IntKind.wrap .i64 (g+t))] w9 λu v x ah=>ah.cell? ((e.add (Int.toNat 1 *3)).add 1)=some (.i j)/\loc [b,c,d] ah λai=>ai.cell? ((e.add (Int.toNat 1 *3)).add 1)=some (.i j)/\R (.returned (.tuple #[.agg #[.i u,.i v,.i x],.bool (decide ((IntKind.wrap .i64 (g+j))<=64))])) ai) (aG (q==32) ((0:Int)<=2/\2<((l.n:Nat):Int)/\aW l.a λy=>loc [b,c,d] w λag=>∃z:Int,ag.cell? ((y.add (Int.toNat 2 *3)).add 1)=some (.i z)/\
 (0:Int)<=2/\2<((l.n:Nat):Int)/\aW l.a λf=>∃k:Int,ag.cell? ((f.add (Int.toNat 2 *3)).add 1)=some (.i k)/\
 gX [b,c,d] bS #[.i (IntKind.wrap .i64 (g+z))] ag λaa ab ac aj=>aj.cell? ((f.add (Int.toNat 2 *3)).add 1)=some (.i k)/\loc [b,c,d] aj λak=>ak.cell? ((f.add (Int.toNat 2 *3)).add 1)=some (.i k)/\R (.returned (.tuple #[.agg #[.i aa,.i ab,.i ac],.bool (decide ((IntKind.wrap .i64 (g+k))<=64))])) ak) (aG (q==34) (gX [b,c,d] bS #[.i 1] w λad ae af ao=>loc [b,c,d] ao λaq=>R (.returned (.tuple #[.agg #[.i ad,.i ae,.i af],.bool true])) aq) (loc [b,c,d] w λar=>R (.returned (.tuple #[.agg #[.i am,.i g,.i an],.bool true])) ar))))
noncomputable def uk:=bK X [mE,fX,fA] (bH [16,1,1,1,2]) P2 CC
abbrev ic (k1:Sl) (k:Nat) (m:Int) (n:Sl) (o p q:Int) (r:ByteArray) (s t u:Int) (f:Nat) (b c d:Int) (l:Nat) (g j e a:Int) (w:World) (R:aD):Prop:=
 aG (a==24) (gX [k,f,l] fM #[.agg #[.i g,.i j,.i e]] w λv x y w1=>loc [k,f,l] w1 λw4=>R (.returned (.tuple #[.agg #[.i v,.i x,.i y],.bool true])) w4) (aG (a==26) (gX [k,f,l] aT #[.i e] w λz aa ab w5=>loc [k,f,l] w5 λw8=>R (.returned (.tuple #[.agg #[.i z,.i aa,.i ab],.bool true])) w8) (aG (a==27) (aG (a==27) (qb f b c d w R) (CC k1 k m n o p q r s t u f b c d l g j e a w R)) (aG (a==31) (qb f b c d w R) (CC k1 k m n o p q r s t u f b c d l g j e a w R))))
noncomputable def jc:=bK X [uk,mE,fX,fA] (bH [10,1,1,1,2]) P2 ic
abbrev gm (j:Sl) (b:Nat) (l:Int) (m:Sl) (e f o:Int) (p:ByteArray) (q r s:Int) (c:Nat) (t u v:Int) (d:Nat) (ab g ac k:Int) (w:World) (R:aD):Prop:=
 aG (k==19) ((0:Int)<=1/\1<((j.n:Nat):Int)/\aW j.a λah=>∃ax:Int,w.cell? ((ah.add (Int.toNat 1 *3)).add 0)=some (.i ax)/\
 aG (ax==1) ((0:Int)<=1/\1<((j.n:Nat):Int)/\aW j.a λai=>loc [b,c,d] w λw1=>∃ae:Int,w1.cell? ((ai.add (Int.toNat 1 *3)).add 1)=some (.i ae)/\
 (0:Int)<=2/\2<((j.n:Nat):Int)/\aW j.a λaj=>∃af:Int,w1.cell? ((aj.add (Int.toNat 2 *3)).add 1)=some (.i af)/\
 gX [b,c,d] bS #[.i (if ae<af then af else ae)] w1 λak al am w2=>loc [b,c,d] w2 λw5=>R (.returned (.tuple #[.agg #[.i ak,.i al,.i am],.bool true])) w5) ((0:Int)<=1/\1<((j.n:Nat):Int)/\aW j.a λan=>dN w (an.add (Int.toNat 1 *3)) λao ap aq=>loc [b,c,d] w λw8=>R (.returned (.tuple #[.agg #[.i ao,.i ap,.i aq],.bool true])) w8)) (aG (k==20) ((0:Int)<=1/\1<((j.n:Nat):Int)/\aW j.a λar=>loc [b,c,d] w λw9=>∃ay:Int,w9.cell? ((ar.add (Int.toNat 1 *3)).add 1)=some (.i ay)/\
 (0:Int)<=1/\1<((j.n:Nat):Int)/\aW j.a λx=>∃ad:Int,w9.cell? ((x.add (Int.toNat 1 *3)).add 1)=some (.i ad)/\
 gX [b,c,d] aT #[.i (IntKind.wrap .i64 (g+ay))] w9 λau av aw az=>az.cell? ((x.add (Int.toNat 1 *3)).add 1)=some (.i ad)/\loc [b,c,d] az λbb=>bb.cell? ((x.add (Int.toNat 1 *3)).add 1)=some (.i ad)/\R (.returned (.tuple #[.agg #[.i au,.i av,.i aw],.bool (decide ((IntKind.wrap .i64 (g+ad))<=64))])) bb) (aG (k==21) (loc [b,c,d] w λbe=>gX [b,c,d] aT #[.i (IntKind.wrap .i64 ((IntKind.wrap .i64 (e - f))+1))] be λy z aa ag=>aG (decide (f>=0)) (aG (decide (f<=e)) (loc [b,c,d] ag λbf=>R (.returned (.tuple #[.agg #[.i y,.i z,.i aa],.bool (decide (e<g))])) bf) (loc [b,c,d] ag λbg=>R (.returned (.tuple #[.agg #[.i y,.i z,.i aa],.bool false])) bg)) (loc [b,c,d] ag λbh=>R (.returned (.tuple #[.agg #[.i y,.i z,.i aa],.bool false])) bh)) (aG (k==22) (aG (k==22) (fB b l m e f o p q r s c t u v d ab g ac w R) (ic j b l m e f o p q r s c t u v d ab g ac k w R)) (aG (k==23) (fB b l m e f o p q r s c t u v d ab g ac w R) (ic j b l m e f o p q r s c t u v d ab g ac k w R)))))
noncomputable def gG:=bK X [jc,uk,mE,fX,fA] (bH [2,1,1,1,2]) P2 gm
theorem cU (b:Int) (g:Sl) (j k l:Int) (m:ByteArray) (o p q:Int) (y:Sl) (w:World) (R:aD) (h:bE [] w λe w1=>
 bE [e] w1 λc w2=>
 (0:Int)<=0/\0<((y.n:Nat):Int)/\aW y.a λz=>dN w2 (z.add (Int.toNat 0 *3)) λr s t=>bE [e,c] w2 λf x=>
 aG (b==16) (aG (b==16) (loc [e,c,f] x λd=>dV c 0 0 0 d R) (loc [e,c,f] x λd=>gm y e b g j k l m o p q c 0 0 0 f r s t b d R)) (aG (b==17) (aG (b==17) (loc [e,c,f] x λd=>dV c 0 0 0 d R) (loc [e,c,f] x λd=>gm y e b g j k l m o p q c 0 0 0 f r s t b d R)) (aG (b==18) (aG (b==18) (loc [e,c,f] x λd=>dV c 0 0 0 d R) (loc [e,c,f] x λd=>gm y e b g j k l m o p q c 0 0 0 f r s t b d R)) (aG (b==33) (loc [e,c,f] x λd=>dV c 0 0 0 d R) (loc [e,c,f] x λd=>gm y e b g j k l m o p q c 0 0 0 f r s t b d R))))):Calls Tryz.prog jN #[.agg #[.i b,g.v,.i j,.i k,.u l,.string m,.i o,.i p,.i q],y.v] w R:=aM X [gG,jc,uk,mE,fX,fA] h
end enthymemeref07_result
namespace enthymemeref07_SortOf
noncomputable abbrev X:Fx:=⟨Tryz.prog,Tryz.f13,[],[3,4,10]⟩
abbrev P0:Ps:=[(0,.v [.s]),(3,.l [.I,.s,.I,.I,.U,.st,.I,.I,.I] aE),(4,.l [.I,.I,.I] aS),(7,.v [.s]),(8,.v [.I])]
def eE (n:Sl) (q:Nat) (a:Int) (b:Sl) (c d e:Int) (f:ByteArray) (g i j:Int) (r:Nat) (k l m:Int) (p:Sl) (o:Int) (w:World) (R:aD):Prop:=cG P0 0 (X.Sem (bH [0,1,1,1,5])) n q a b c d e f g i j r k l m p o w R
noncomputable def eN:=fU X (bH [0,1,1,1,5]) P0 eE
abbrev P1:Ps:=[(4,.l [.I,.I,.I] aS),(10,.l [.I,.I,.I] aS),(12,.v [.b])]
abbrev gm (f:Nat) (g j k:Int) (e:Nat) (b c d:Int) (a:Bool) (w:World) (R:aD):Prop:=
 aG (!a) (loc [f,e] w λl=>R (.returned (.tuple #[.agg #[.i 0,.i 0,.i 0],.i 2])) l) (loc [f,e] w λm=>R (.returned (.tuple #[.agg #[.i b,.i c,.i d],.i 0])) m)
noncomputable def gG:=bK X [eN] (bH [11]) P1 gm
theorem aY:∀(g0:Sl) (d:Nat) (e:Int) (b:Sl) (q r s:Int) (l:ByteArray) (t x y:Int) (c:Nat) (m o p:Int) (k7:Sl) (i8:Int) (w:World) (R:aD) (h:aG (decide (i8<((b.n:Nat):Int))) ((0:Int)<=i8/\i8<((b.n:Nat):Int)/\aW b.a λag=>∃z:Int,w.cell? (ag.add (Int.toNat i8 *1))=some (.i z)/\
 (0:Int)<=z/\z<((g0.n:Nat):Int)/\aW g0.a λah=>dN w ((ah.add (Int.toNat z *9)).add 6) λai aj ak=>fH w (.cells #[.i ai,.i aj,.i ak] aS) λan=>
 ∃(am:Sl) (ab:World),Sem.run Tryz.prog (Builtin.append_ #[og,og] og #[k7.v,.slice (some (nb w)) 1 1]) an=.ok (am.v) ab/\kept [d,c] an ab/\eE g0 d e b q r s l t x y c m o p am (IntKind.wrap .i64 (i8+1)) ab R) (jW [d,c] lM #[.i e,k7.v] w λap ao=>aG (!ap) (loc [d,c] ao λar=>R (.returned (.tuple #[.agg #[.i 0,.i 0,.i 0],.i 9])) ar) (Z5 [d,c] jN #[.agg #[.i e,b.v,.i q,.i r,.u s,.string l,.i t,.i x,.i y],k7.v] ao λg j k al au=>bE [d,c] au λf ac=>
 aG (!al) (loc [d,c,f] ac λav=>R (.returned (.tuple #[.agg #[.i 0,.i 0,.i 0],.i 5])) av) (aG (e !=33) (loc [d,c,f] ac λad=>gm c m o p f g j k true ad R) (loc [d,c,f] ac λad=>jW [d,c,f] iz #[.string l] ad λaq aw=>gm c m o p f g j k aq aw R))))),eE g0 d e b q r s l t x y c m o p k7 i8 w R:=mp (cW (X:=X) [gG,eN] (bH [0,1,1,1,5]) P0)
theorem cU (r:Sl) (b:Int) (a:Sl) (c d e:Int) (f:ByteArray) (g j k:Int) (w:World) (R:aD) (h:bE [] w λl z=>
 bE [l] z λq w2=>
 nJ [l,q] jM #[r.v,.agg #[.i b,a.v,.i c,.i d,.u e,.string f,.i g,.i j,.i k]] w2 λt x=>aG (t !=0) (loc [l,q] x λw6=>R (.returned (.tuple #[.agg #[.i 0,.i 0,.i 0],.i t])) w6) (aG (((a.n:Nat):Int)==0) (g7 [l,q] kQ #[r.v,.agg #[.i b,a.v,.i c,.i d,.u e,.string f,.i g,.i j,.i k]] x λm o p s w7=>loc [l,q] w7 λy=>R (.returned (.tuple #[.agg #[.i m,.i o,.i p],.i s])) y) (eE r l b a c d e f g j k q 0 0 0 ⟨none,0,0⟩ 0 x R))):Calls Tryz.prog hG #[r.v,.agg #[.i b,a.v,.i c,.i d,.u e,.string f,.i g,.i j,.i k]] w R:=aM X [gG,eN] h
end enthymemeref07_SortOf
namespace enthymemeref07_Same
noncomputable abbrev X:Fx:=⟨Tryz.prog,Tryz.f52,[],[2,3]⟩
theorem cU (b:Int) (c:Sl) (d e f:Int) (g:ByteArray) (j k l m:Int) (n:Sl) (o p q:Int) (r:ByteArray) (s t x:Int) (w:World) (R:aD) (h:bE [] w λy w1=>
 bE [y] w1 λb3 a=>
 aG (b==m) (aG (d==o) (aG (e==p) (aG (f==q) (aG (g.toList==r.toList) (aG ((j==s)&&((k==t)&&((l==x)&&true))) (jW [y,b3] gK #[c.v,n.v] a λz w3=>R (.returned (.bool z)) w3) (R (.returned (.bool false)) a)) (R (.returned (.bool false)) a)) (R (.returned (.bool false)) a)) (R (.returned (.bool false)) a)) (R (.returned (.bool false)) a)) (R (.returned (.bool false)) a)):Calls Tryz.prog iJ #[.agg #[.i b,c.v,.i d,.i e,.u f,.string g,.i j,.i k,.i l],.agg #[.i m,n.v,.i o,.i p,.u q,.string r,.i s,.i t,.i x]] w R:=aM X [] h
end enthymemeref07_Same
namespace enthymemeref07_Index
noncomputable abbrev X:Fx:=⟨Tryz.prog,Tryz.f51,[(7,ls [0,1,2,3,4,5,6])],[3,5]⟩
abbrev P0:Ps:=[(0,.v [.s]),(3,.l [.I,.s,.I,.I,.U,.st,.I,.I,.I] aE),(7,.v [.I])]
def mD (k:Sl) (m:Nat) (a:Int) (b:Sl) (c d e:Int) (f:ByteArray) (g i j l:Int) (w:World) (R:aD):Prop:=cG P0 0 (X.Sem (bH [0,1,1,1,3])) k m a b c d e f g i j l w R
noncomputable def lu:=fU X (bH [0,1,1,1,3]) P0 mD
theorem dM:∀(o:Sl) (p:Nat) (c:Int) (d:Sl) (e f g:Int) (j:ByteArray) (k l m b:Int) (w:World) (R:aD) (h:aG (decide (b<((o.n:Nat):Int))) ((0:Int)<=b/\b<((o.n:Nat):Int)/\aW o.a λq=>loc [p] w λw1=>tt w1 (q.add (Int.toNat b *9)) λr s t x y z aa ab ac=>jW [p] iJ #[.agg #[.i r,s.v,.i t,.i x,.u y,.string z,.i aa,.i ab,.i ac],.agg #[.i c,d.v,.i e,.i f,.u g,.string j,.i k,.i l,.i m]] w1 λad w2=>aG ad (R (.returned (.i b)) w2) (mD o p c d e f g j k l m (IntKind.wrap .i64 (b+1)) w2 R)) (R (.returned (.i (-1))) w)),mD o p c d e f g j k l m b w R:=mp (cW (X:=X) [lu] (bH [0,1,1,1,3]) P0)
abbrev P1:Ps:=[(0,.v [.s]),(3,.l [.I,.s,.I,.I,.U,.st,.I,.I,.I] aE)]
abbrev dV (k:Sl) (l:Nat) (a:Int) (b:Sl) (c d e:Int) (f:ByteArray) (g i j:Int) (w:World) (R:aD):Prop:=
 mD k l a b c d e f g i j 0 w R
noncomputable def fA:=bK X [lu] (bH [3]) P1 dV
theorem cU (p:Sl) (a:Int) (b:Sl) (c d e:Int) (f:ByteArray) (g j k:Int) (w:World) (R:aD) (h:bE [] w λl t=>
 g7 [l] hG #[p.v,.agg #[.i a,b.v,.i c,.i d,.u e,.string f,.i g,.i j,.i k]] t λm n o q x=>bE [l] x λr s=>
 aG (q==0) (loc [l,r] s λz=>dV p l a b c d e f m n o z R) (loc [l,r] s λy=>dV p l a b c d e f g j k y R)):Calls Tryz.prog km #[p.v,.agg #[.i a,b.v,.i c,.i d,.u e,.string f,.i g,.i j,.i k]] w R:=aM X [fA,lu] h
end enthymemeref07_Index
namespace enthymemeref07_Add
noncomputable abbrev X:Fx:=⟨Tryz.prog,Tryz.f15,[(10,(.sq [1,3,6,7] (.fork (.sq [0] (.fork (ls [2,4,5,8,9,10]) (ls [4,2,5,8,9,10]))) (ls [4,0,2,5,8,9,10]))))],[3,7]⟩
theorem cU (o:Sl) (e:Int) (f:Sl) (g j k:Int) (l:ByteArray) (ad ae af:Int) (w:World) (R:aD) (h:bE [] w λd w1=>
 g7 [d] hG #[o.v,.agg #[.i e,f.v,.i g,.i j,.u k,.string l,.i ad,.i ae,.i af]] w1 λa b c x w2=>bE [d] w2 λm w3=>
 aG (x !=0) (loc [d,m] w3 λw6=>R (.returned (.tuple #[.slice none 0 0,.i 0,.i x])) w6) (loc [d,m] w3 λw9=>nJ [d,m] km #[o.v,.agg #[.i e,f.v,.i g,.i j,.u k,.string l,.i a,.i b,.i c]] w9 λaj y=>aG (decide (aj>=0)) (R (.returned (.tuple #[o.v,.i aj,.i 0])) y) (aG (decide (((o.n:Nat):Int)>=4096)) (R (.returned (.tuple #[.slice none 0 0,.i 0,.i 4])) y) (((loc [d,m] y λp=>fH p (.cells #[] aE) λz=>
 ((∃(ak:Sl) (aa:World),Sem.run Tryz.prog (Builtin.append_ #[bB,bB] bB #[.slice (some (nb p)) 0 0,o.v]) z=.ok (ak.v) aa/\kept [d,m] z aa/\fH aa (.cells #[.i e,f.v,.i g,.i j,.u k,.string l,.i a,.i b,.i c] aE) λam=>
 ∃(al:Sl) (ag:World),Sem.run Tryz.prog (Builtin.append_ #[bB,bB] bB #[ak.v,.slice (some (nb aa)) 1 1]) am=.ok (al.v) ag/\kept [d,m] am ag/\R (.returned (.tuple #[al.v,.i ((o.n:Nat):Int),.i 0])) ag)/\(fH z (.cells #[.i e,f.v,.i g,.i j,.u k,.string l,.i a,.i b,.i c] aE) λan=>
 ∃(q:Sl) (ab:World),Sem.run Tryz.prog (Builtin.append_ #[bB,bB] bB #[.slice (some (nb p)) 0 0,o.v]) an=.ok (q.v) ab/\kept [d,m] an ab/\∃(s:Sl) (ah:World),Sem.run Tryz.prog (Builtin.append_ #[bB,bB] bB #[q.v,.slice (some (nb z)) 1 1]) ab=.ok (s.v) ah/\kept [d,m] ab ah/\R (.returned (.tuple #[s.v,.i ((o.n:Nat):Int),.i 0])) ah)))/\(loc [d,m] y λp=>fH p (.cells #[.i e,f.v,.i g,.i j,.u k,.string l,.i a,.i b,.i c] aE) λao=>
 fH ao (.cells #[] aE) λap=>
 ∃(r:Sl) (ac:World),Sem.run Tryz.prog (Builtin.append_ #[bB,bB] bB #[.slice (some (nb ao)) 0 0,o.v]) ap=.ok (r.v) ac/\kept [d,m] ap ac/\∃(t:Sl) (ai:World),Sem.run Tryz.prog (Builtin.append_ #[bB,bB] bB #[r.v,.slice (some (nb p)) 1 1]) ac=.ok (t.v) ai/\kept [d,m] ac ai/\R (.returned (.tuple #[t.v,.i ((o.n:Nat):Int),.i 0])) ai)))))):Calls Tryz.prog jg #[o.v,.agg #[.i e,f.v,.i g,.i j,.u k,.string l,.i ad,.i ae,.i af]] w R:=aM X [] h
end enthymemeref07_Add
namespace enthymemeref07_start
noncomputable abbrev X:Fx:=⟨Tryz.prog,Tryz.f38,[],[]⟩
abbrev P0:Ps:=[(3,.v [.s])]
abbrev S1 (a:Sl) (w:World) (R:aD):Prop:=
 R (.returned (a.v)) w
noncomputable def gG:=bK X [] (bH [4]) P0 S1
abbrev P1:Ps:=[(0,.v [.I]),(3,.v [.s])]
abbrev S0 (a:Int) (n:Sl) (w:World) (R:aD):Prop:=
 aG (decide (a>1)) (Eo bS #[.i 2] w λb c d q=>Eo bS #[.i 1] q λe f g r=>Eo aT #[.i 7] r λj k l o=>fH o (.cells #[.i 0,.slice none 0 0,.i 0,.i 0,.u 0,.string (ByteArray.mk #[115]),.i b,.i c,.i d,.i 0,.slice none 0 0,.i 0,.i 0,.u 0,.string (ByteArray.mk #[116]),.i e,.i f,.i g,.i 0,.slice none 0 0,.i 0,.i 0,.u 0,.string (ByteArray.mk #[105]),.i j,.i k,.i l,.i 0,.slice none 0 0,.i 0,.i 0,.u 0,.string (ByteArray.mk #[122]),.i 3,.i 1,.i 1] aE) λs=>
 ∃(m:Sl) (p:World),Sem.run Tryz.prog (Builtin.append_ #[bB,bB] bB #[n.v,.slice (some (nb o)) 4 4]) s=.ok (m.v) p/\S1 m p R) (S1 n w R)
noncomputable def fA:=bK X [gG] (bH [3]) P1 S0
theorem ok (a:Int) (w:World) (R:aD) (h:Eo aT #[.i 2] w λf g j t=>Eo aT #[.i 2] t λk l m x=>Eo aT #[.i 1] x λn o p y=>Eo aT #[.i 3] y λb c d q=>fH q (.cells #[.i 0,.slice none 0 0,.i 0,.i 0,.u 0,.string (ByteArray.mk #[97]),.i f,.i g,.i j,.i 0,.slice none 0 0,.i 0,.i 0,.u 0,.string (ByteArray.mk #[98]),.i k,.i l,.i m,.i 0,.slice none 0 0,.i 0,.i 0,.u 0,.string (ByteArray.mk #[99]),.i n,.i o,.i p,.i 0,.slice none 0 0,.i 0,.i 0,.u 0,.string (ByteArray.mk #[100]),.i b,.i c,.i d] aE) λr=>
 aG (decide (a>0)) (fH r (.cells #[.i 0,.slice none 0 0,.i 0,.i 0,.u 0,.string (ByteArray.mk #[109]),.i 2,.i 2,.i 1,.i 0,.slice none 0 0,.i 0,.i 0,.u 0,.string (ByteArray.mk #[110]),.i 2,.i 2,.i 1] aE) λz=>
 ∃(e:Sl) (s:World),Sem.run Tryz.prog (Builtin.append_ #[bB,bB] bB #[.slice (some (nb q)) 4 4,.slice (some (nb r)) 2 2]) z=.ok (e.v) s/\S0 a e s R) (S0 a ⟨some (nb q),4,4⟩ r R)):Calls Tryz.prog ko #[.i a] w R:=aM X [fA,gG] h
end enthymemeref07_start
namespace enthymemeref07_Like
noncomputable abbrev X:Fx:=⟨Tryz.prog,Tryz.f78,[(5,ls [0,1,2,3,4,5,6])],[4]⟩
abbrev P0:Ps:=[(0,.v [.s]),(2,.v [.I]),(4,.l [.I,.I,.I] aS),(7,.v [.s]),(8,.v [.I])]
def eE (d:Sl) (g:Int) (i:Nat) (a b c:Int) (f:Sl) (e:Int) (w:World) (R:aD):Prop:=cG P0 0 (X.Sem (bH [0,1,1,1,2])) d g i a b c f e w R
noncomputable def eN:=fU X (bH [0,1,1,1,2]) P0 eE
abbrev gm (d:Sl) (g:Int) (i:Nat) (a b c:Int) (f:Sl) (e:Int) (w:World) (R:aD):Prop:=
 eE d g i a b c f (IntKind.wrap .i64 (e+1)) w R
noncomputable def gG:=bK X [eN] (bH [2,2,1,1,2]) P0 gm
theorem aY:∀(g:Sl) (l:Int) (j:Nat) (b c d:Int) (f:Sl) (e:Int) (w:World) (R:aD) (h:aG (decide (e<((g.n:Nat):Int))) ((0:Int)<=e/\e<((g.n:Nat):Int)/\aW g.a λm=>loc [j] w λs=>dN s ((m.add (Int.toNat e *9)).add 6) λo p q=>aG ((o==b)&&((p==c)&&((q==d)&&true))) (fH s (.cells #[.i e] bP) λy=>
 ∃(t:Sl) (x:World),Sem.run Tryz.prog (Builtin.append_ #[dK,dK] dK #[f.v,.slice (some (nb s)) 1 1]) y=.ok (t.v) x/\kept [j] y x/\gm g l j b c d t e x R) (gm g l j b c d f e s R)) (aG (((f.n:Nat):Int)==0) (R (.returned (.i (-1))) w) (nJ [j] aR #[.i l,.i ((f.n:Nat):Int)] w λk z=>(0:Int)<=k/\k<((f.n:Nat):Int)/\aW f.a λr=>∃u:Int,z.cell? (r.add (Int.toNat k *1))=some (.i u)/\
 R (.returned (.i u)) z))),eE g l j b c d f e w R:=mp (cW (X:=X) [gG,eN] (bH [0,1,1,1,2]) P0)
theorem cU (d:Sl) (a b c e:Int) (w:World) (R:aD) (h:bE [] w λf g=>
 eE d e f a b c ⟨none,0,0⟩ 0 g R):Calls Tryz.prog gO #[d.v,.agg #[.i a,.i b,.i c],.i e] w R:=aM X [gG,eN] h
end enthymemeref07_Like
namespace enthymemeref07_wanted
noncomputable abbrev X:Fx:=⟨Tryz.prog,Tryz.f79,[],[10,11]⟩
abbrev P0:Ps:=[(4,.v [.I]),(10,.l [.I,.I,.I] aS)]
abbrev dV (k:Int) (a:Nat) (f g j:Int) (w:World) (R:aD):Prop:=
 nJ [a] aR #[.i k,.i 3] w λe l=>gX [a] bS #[.i e] l λb c d m=>loc [a] m λn=>R (.returned (.agg #[.i b,.i c,.i d])) n
noncomputable def fA:=bK X [] (bH [0,1,11,1,1,1,2]) P0 dV
abbrev P1:Ps:=[(10,.l [.I,.I,.I] aS),(11,.l [.I,.I,.I] aS)]
abbrev gm (d:Nat) (f g j:Int) (e:Nat) (a b c:Int) (w:World) (R:aD):Prop:=
 loc [d,e] w λk=>R (.returned (.agg #[.i a,.i b,.i c])) k
noncomputable def gG:=bK X [fA] (bH [3]) P1 gm
theorem cU (m:Sl) (e g p o:Int) (w:World) (R:aD) (h:bE [] w λb w1=>
 (0:Int)<=g/\g<((m.n:Nat):Int)/\aW m.a λr=>dN w1 ((r.add (Int.toNat g *9)).add 6) λk l f=>bE [b] w1 λc j=>
 aG (e==19) (loc [b,c] j λd=>nJ [b,c] aR #[.i o,.i ((m.n:Nat):Int)] d λq w6=>(0:Int)<=q/\q<((m.n:Nat):Int)/\aW m.a λs=>dN w6 ((s.add (Int.toNat q *9)).add 6) λt u x=>loc [b,c] w6 λw9=>R (.returned (.agg #[.i t,.i u,.i x])) w9) (aG (e==20) (loc [b,c] j λd=>nJ [b,c] aR #[.i o,.i 3] d λan ap=>gX [b,c] aT #[.i (IntKind.wrap .i64 (1+an))] ap λy z aa aq=>loc [b,c] aq λar=>R (.returned (.agg #[.i y,.i z,.i aa])) ar) (aG (e==24) (loc [b,c] j λd=>gX [b,c] aT #[.i f] d λab ac ad au=>loc [b,c] au λav=>R (.returned (.agg #[.i ab,.i ac,.i ad])) av) (aG (e==25) (aG (p==1) (loc [b,c] j λd=>gX [b,c] aT #[.i f] d λae af ag aw=>loc [b,c] aw λax=>R (.returned (.agg #[.i ae,.i af,.i ag])) ax) (loc [b,c] j λd=>gX [b,c] fM #[.agg #[.i k,.i l,.i f]] d λah ai aj ay=>loc [b,c] ay λaz=>R (.returned (.agg #[.i ah,.i ai,.i aj])) az)) (aG (e==30) (loc [b,c] j λd=>gX [b,c] aT #[.i 7] d λak al am bb=>loc [b,c] bb λbc=>R (.returned (.agg #[.i ak,.i al,.i am])) bc) (aG (e==29) (aG (e==29) (loc [b,c] j λd=>dV o b 0 0 0 d R) (loc [b,c] j λd=>gm b 0 0 0 c k l f d R)) (aG (e==31) (aG (e==31) (loc [b,c] j λd=>dV o b 0 0 0 d R) (loc [b,c] j λd=>gm b 0 0 0 c k l f d R)) (aG (e==32) (loc [b,c] j λd=>dV o b 0 0 0 d R) (loc [b,c] j λd=>gm b 0 0 0 c k l f d R))))))))):Calls Tryz.prog jO #[m.v,.i e,.i g,.i p,.i o] w R:=aM X [gG,fA] h
end enthymemeref07_wanted
namespace bM
noncomputable abbrev X:Fx:=⟨Tryz.prog,Tryz.f39,[(38,ls [0,1,2,3,4,5,6,7,8,9,10,11,12])],[8,10,16]⟩
abbrev P0:Ps:=[(0,.v [.s]),(2,.v [.I]),(3,.v [.I]),(8,.l [.I,.s,.I,.I,.U,.st,.I,.I,.I] aE),(10,.l [.I,.s,.I,.I,.U,.st,.I,.I,.I] aE),(11,.v [.I]),(13,.v [.I]),(14,.v [.I])]
def CA (y:Sl) (m2 z:Int) (t8:Nat) (m:Int) (n:Sl) (o p q:Int) (r:ByteArray) (s t u:Int) (l:Nat) (a:Int) (b:Sl) (c d e:Int) (f:ByteArray) (g i j x k v:Int) (w:World) (R:aD):Prop:=cG P0 0 (X.Sem (bH [0,1,1,1,8])) y m2 z t8 m n o p q r s t u l a b c d e f g i j x k v w R
noncomputable def wR:=fU X (bH [0,1,1,1,8]) P0 CA
abbrev P1:Ps:=[(0,.v [.s]),(2,.v [.I]),(3,.v [.I]),(8,.l [.I,.s,.I,.I,.U,.st,.I,.I,.I] aE),(10,.l [.I,.s,.I,.I,.U,.st,.I,.I,.I] aE),(11,.v [.I]),(13,.v [.I]),(14,.v [.I]),(15,.v [.I])]
abbrev II (g0:Sl) (m2 k3:Int) (q:Nat) (s:Int) (t:Sl) (x y z:Int) (aa:ByteArray) (ab ac ad:Int) (a:Nat) (c:Int) (d:Sl) (e f g:Int) (j:ByteArray) (k l m ag n ae b:Int) (w:World) (R:aD):Prop:=
 aG (decide (b<0)) (loc [q,a] w λw9=>R (.returned (.agg #[.i (-1),.slice none 0 0,.i 0,.i 0,.u 0,.s0,.i 0,.i 0,.i 0])) w9) (fH w (.cells #[.i b] bP) λr=>
 ∃(o:Sl) (p:World),Sem.run Tryz.prog (Builtin.append_ #[dK,dK] dK #[d.v,.slice (some (nb w)) 1 1]) r=.ok (o.v) p/\kept [q,a] r p/\loc [q,a] p λaf=>CA g0 m2 k3 q s t x y z aa ab ac ad a c o e f g j k l m ag n (IntKind.wrap .i64 (ae+1)) af R)
noncomputable def vr:=bK X [wR] (bH [2,2,1,2,1,1,8]) P1 II
abbrev P2:Ps:=[(0,.v [.s]),(2,.v [.I]),(3,.v [.I]),(8,.l [.I,.s,.I,.I,.U,.st,.I,.I,.I] aE),(10,.l [.I,.s,.I,.I,.U,.st,.I,.I,.I] aE),(11,.v [.I]),(13,.v [.I]),(14,.v [.I]),(16,.l [.I,.I,.I] aS)]
abbrev x9 (g0:Sl) (m2 k3:Int) (t:Nat) (u:Int) (x:Sl) (y z aa:Int) (ab:ByteArray) (ac ad ae:Int) (a:Nat) (c:Int) (d:Sl) (e f g:Int) (j:ByteArray) (k l m ai n b:Int) (r:Nat) (o p q:Int) (w:World) (R:aD):Prop:=
 (IntKind.wrap .i64 (1+(IntKind.wrap .i64 (5 *b))))≠0/\loc [t,a,r] w λw1=>nJ [t,a,r] gO #[g0.v,.agg #[.i o,.i p,.i q],.i (IntKind.wrap .i64 ((IntKind.wrap .i64 (Int.tdiv k3 (IntKind.wrap .i64 (1+(IntKind.wrap .i64 (5 *b))))))+(IntKind.wrap .i64 (b *m2))))] w1 λs w2=>II g0 m2 k3 t u x y z aa ab ac ad ae a c d e f g j k l m ai n b s w2 R
noncomputable def sw:=bK X [vr,wR] (bH [2,1,1,1,1,2,1,2,1,1,8]) P2 x9
theorem nK:∀(g0:Sl) (m2 k3:Int) (r:Nat) (s:Int) (t:Sl) (x y z:Int) (aa:ByteArray) (ab ac ad:Int) (b:Nat) (c:Int) (d:Sl) (e f g:Int) (j:ByteArray) (k l m q o p:Int) (w:World) (R:aD) (h:aG (decide (p<o)) (aG (decide (p>0)) (aG (decide (q>=0)) (gX [r,b] jO #[g0.v,.i c,.i q,.i p,.i m2] w λah ai aj w1=>bE [r,b] w1 λae w2=>
 aG (c==19) (aG (p==2) ((0:Int)<=1/\1<((d.n:Nat):Int)/\aW d.a λan=>loc [r,b,ae] w2 λw5=>∃ag:Int,w5.cell? (an.add (Int.toNat 1 *1))=some (.i ag)/\
 (0:Int)<=ag/\ag<((g0.n:Nat):Int)/\aW g0.a λao=>dN w5 ((ao.add (Int.toNat ag *9)).add 6) λap aq ar=>loc [r,b,ae] w5 λw8=>x9 g0 m2 k3 r s t x y z aa ab ac ad b c d e f g j k l m q o p ae ap aq ar w8 R) (loc [r,b,ae] w2 λw5=>x9 g0 m2 k3 r s t x y z aa ab ac ad b c d e f g j k l m q o p ae ah ai aj w5 R)) (loc [r,b,ae] w2 λw5=>x9 g0 m2 k3 r s t x y z aa ab ac ad b c d e f g j k l m q o p ae ah ai aj w5 R)) (II g0 m2 k3 r s t x y z aa ab ac ad b c d e f g j k l m q o p q w R)) (II g0 m2 k3 r s t x y z aa ab ac ad b c d e f g j k l m q o p q w R)) (loc [r,b] w λav=>R (.returned (.agg #[.i c,d.v,.i e,.i f,.u g,.string j,.i k,.i l,.i m])) av)),CA g0 m2 k3 r s t x y z aa ab ac ad b c d e f g j k l m q o p w R:=mp (cW (X:=X) [sw,vr,wR] (bH [0,1,1,1,8]) P0)
abbrev P3:Ps:=[(0,.v [.s]),(2,.v [.I]),(3,.v [.I]),(8,.l [.I,.s,.I,.I,.U,.st,.I,.I,.I] aE),(10,.l [.I,.s,.I,.I,.U,.st,.I,.I,.I] aE),(11,.v [.I]),(13,.v [.I])]
abbrev qb (x:Sl) (z y:Int) (t8:Nat) (m:Int) (n:Sl) (o p q:Int) (r:ByteArray) (s t u:Int) (l:Nat) (a:Int) (b:Sl) (c d e:Int) (f:ByteArray) (g i j v k:Int) (w:World) (R:aD):Prop:=
 CA x z y t8 m n o p q r s t u l a b c d e f g i j v k 0 w R
noncomputable def mE:=bK X [sw,vr,wR] (bH [8]) P3 qb
abbrev P4:Ps:=[(0,.v [.s]),(1,.v [.I]),(2,.v [.I]),(3,.v [.I]),(8,.l [.I,.s,.I,.I,.U,.st,.I,.I,.I] aE),(10,.l [.I,.s,.I,.I,.U,.st,.I,.I,.I] aE),(11,.v [.I]),(13,.v [.I])]
abbrev ic (g0:Sl) (n1 m2 k3:Int) (t8:Nat) (q:Int) (r:Sl) (s t u:Int) (x:ByteArray) (y z aa:Int) (b:Nat) (a:Int) (c:Sl) (d e f:Int) (g:ByteArray) (j k l ag m:Int) (w:World) (R:aD):Prop:=
 aG (a==34) (gX [t8,b] aT #[.i 8] w λn o p w1=>nJ [t8,b] gO #[g0.v,.agg #[.i n,.i o,.i p],.i (IntKind.wrap .i64 (Int.tdiv n1 64))] w1 λad w2=>qb g0 m2 k3 t8 q r s t u x y z aa b a c d e f g j k l ad m w2 R) (qb g0 m2 k3 t8 q r s t u x y z aa b a c d e f g j k l ag m w R)
noncomputable def jc:=bK X [mE,sw,vr,wR] (bH [7]) P4 ic
abbrev P5:Ps:=[(0,.v [.s]),(1,.v [.I]),(2,.v [.I]),(3,.v [.I]),(8,.l [.I,.s,.I,.I,.U,.st,.I,.I,.I] aE),(10,.l [.I,.s,.I,.I,.U,.st,.I,.I,.I] aE),(11,.v [.I])]
abbrev fB (g0:Sl) (n1 m2 k3:Int) (q:Nat) (r:Int) (s:Sl) (t u x:Int) (y:ByteArray) (z aa ab:Int) (b:Nat) (a:Int) (c:Sl) (d e f:Int) (g:ByteArray) (j k l ai:Int) (w:World) (R:aD):Prop:=
 nJ [q,b] iH #[.i a] w λm w1=>aG (a==19) (gX [q,b] aT #[.i 1] w1 λn o p w2=>nJ [q,b] gO #[g0.v,.agg #[.i n,.i o,.i p],.i (IntKind.wrap .i64 (Int.tdiv n1 64))] w2 λae w3=>ic g0 n1 m2 k3 q r s t u x y z aa ab b a c d e f g j k l ae m w3 R) (ic g0 n1 m2 k3 q r s t u x y z aa ab b a c d e f g j k l ai m w1 R)
noncomputable def fX:=bK X [jc,mE,sw,vr,wR] (bH [5]) P5 fB
abbrev P6:Ps:=[(0,.v [.s]),(1,.v [.I]),(2,.v [.I]),(3,.v [.I]),(8,.l [.I,.s,.I,.I,.U,.st,.I,.I,.I] aE),(10,.l [.I,.s,.I,.I,.U,.st,.I,.I,.I] aE),(11,.v [.I]),(12,.v [.I])]
abbrev gm (g0:Sl) (n1 m2 k3:Int) (j:Nat) (n:Int) (o:Sl) (p q r:Int) (s:ByteArray) (t u v:Int) (a:Nat) (c:Int) (d:Sl) (e f x:Int) (g:ByteArray) (y z aa ad b:Int) (w:World) (R:aD):Prop:=
 gX [j,a] aT #[.i b] w λk l m w1=>¬(IntKind.wrap .u64 (if 3<b then 3 else b))<0/\loc [j,a] w1 λw4=>nJ [j,a] aR #[.i k3,.i (IntKind.wrap .i64 (1 *2^(min (Int.toNat (IntKind.wrap .u64 (if 3<b then 3 else b))) (IntKind.bits .i64))))] w4 λac w5=>loc [j,a] w5 λw6=>fB g0 n1 m2 k3 j n o p q r s t u v a c d e f (IntKind.wrap .u64 ac) g k l m ad w6 R
noncomputable def gG:=bK X [fX,jc,mE,sw,vr,wR] (bH [2,1,1,1,1,1,4]) P6 gm
abbrev dV (y:Sl) (n1 z v:Int) (t8:Nat) (l:Int) (m:Sl) (n o p:Int) (q:ByteArray) (r s t:Int) (k:Nat) (a:Int) (b:Sl) (c d e:Int) (f:ByteArray) (g i j u x:Int) (w:World) (R:aD):Prop:=
 aG ((Int.tmod v 7)==0) (gm y n1 z v t8 l m n o p q r s t k a b c d e f g i j u 7 w R) (gm y n1 z v t8 l m n o p q r s t k a b c d e f g i j u x w R)
noncomputable def fA:=bK X [gG,fX,jc,mE,sw,vr,wR] (bH [1,1,1,1,1,1,4]) P6 dV
abbrev R8 (g0:Sl) (n1 x k3:Int) (l:Nat) (m:Int) (n:Sl) (o p q:Int) (r:ByteArray) (s t u:Int) (a:Nat) (b:Int) (c:Sl) (v d e:Int) (f:ByteArray) (g j k z:Int) (w:World) (R:aD):Prop:=
 nJ [l,a] aR #[.i x,.i 2] w λy w1=>loc [l,a] w1 λw2=>fB g0 n1 x k3 l m n o p q r s t u a b c (IntKind.wrap .i64 (1+y)) d e f g j k z w2 R
noncomputable def EE:=bK X [fA,gG,fX,jc,mE,sw,vr,wR] (bH [0,1,9,1,1,1,4]) P5 R8
abbrev P7:Ps:=[(0,.v [.s]),(1,.v [.I]),(2,.v [.I]),(3,.v [.I]),(8,.l [.I,.s,.I,.I,.U,.st,.I,.I,.I] aE),(10,.l [.I,.s,.I,.I,.U,.st,.I,.I,.I] aE),(11,.v [.I]),(32,.v [.I])]
abbrev ZP (g0:Sl) (n1 x k3:Int) (m:Nat) (n:Int) (o:Sl) (p q r:Int) (s:ByteArray) (t u v:Int) (a:Nat) (b:Int) (c:Sl) (k d e:Int) (l:ByteArray) (f g j y z:Int) (w:World) (R:aD):Prop:=
 aG (z==28) (nJ [m,a] aR #[.i x,.i 3] w λae w1=>loc [m,a] w1 λw2=>fB g0 n1 x k3 m n o p q r s t u v a b c ae d e l f g j y w2 R) (aG (z==33) (qj [m,a] kO #[.i x] w λad w3=>loc [m,a] w3 λw4=>fB g0 n1 x k3 m n o p q r s t u v a b c k d e ad f g j y w4 R) (fB g0 n1 x k3 m n o p q r s t u v a b c k d e l f g j y w R))
noncomputable def Kr:=bK X [EE,fA,gG,fX,jc,mE,sw,vr,wR] (bH [10,1,1,1,4]) P7 ZP
theorem cU (j:Sl) (k g l:Int) (w:World) (R:aD) (h:bE [] w λd w1=>
 fH w1 (.cells #[.i 4,.i 5,.i 6,.i 7,.i 8,.i 9,.i 10,.i 11,.i 12,.i 13,.i 14,.i 15,.i 16,.i 17,.i 18,.i 19,.i 20,.i 21,.i 22,.i 23,.i 24,.i 25,.i 26,.i 27,.i 28,.i 29,.i 30,.i 31,.i 32,.i 33,.i 34,.i 1,.i 2,.i 3,.i 18,.i 18,.i 16,.i 6,.i 24,.i 25] bP) λw2=>
 nJ [d] aR #[.i k,.i ((40:Nat):Int)] w2 λm w3=>(0:Int)<=m/\m<((40:Nat):Int)/\aW (some (nb w1)) λr=>∃c:Int,w3.cell? (r.add (Int.toNat m *1))=some (.i c)/\
 bE [d] w3 λb w4=>
 loc [d,b] w4 λah=>nJ [d,b] aR #[.i (IntKind.wrap .i64 (Int.tdiv k 64)),.i ((j.n:Nat):Int)] ah λe f=>aG (c==1) (nJ [d,b] aR #[.i g,.i 3] f λae ai=>dV j k g l d 0 ⟨none,0,0⟩ 0 0 0 (ByteArray.mk #[]) 0 0 0 b c ⟨none,0,0⟩ 0 0 0 (ByteArray.mk #[]) 0 0 0 e (IntKind.wrap .i64 (1+ae)) ai R) (aG (c==2) (fH f (.cells #[.s0,.string (ByteArray.mk #[97]),.string (ByteArray.mk #[97,98]),.string (ByteArray.mk #[98]),.string (ByteArray.mk #[0]),.string (ByteArray.mk #[97,97])] cJ) λaj=>
 nJ [d,b] aR #[.i g,.i 6] aj λo ac=>(0:Int)<=o/\o<((6:Nat):Int)/\aW (some (nb f)) λs=>∃aa:ByteArray,ac.cell? (s.add (Int.toNat o *1))=some (.string aa)/\
 loc [d,b] ac λak=>fB j k g l d 0 ⟨none,0,0⟩ 0 0 0 (ByteArray.mk #[]) 0 0 0 b c ⟨none,0,0⟩ 0 0 0 aa 0 0 0 e ak R) (aG (c==3) (fH f (.cells #[.i 2,.i 2,.i 1,.i 3,.i 1,.i 1] aS) λal=>
 nJ [d,b] aR #[.i g,.i 2] al λp ad=>(0:Int)<=p/\p<((2:Nat):Int)/\aW (some (nb f)) λt=>dN ad (t.add (Int.toNat p *3)) λu x y=>loc [d,b] ad λam=>fB j k g l d 0 ⟨none,0,0⟩ 0 0 0 (ByteArray.mk #[]) 0 0 0 b c ⟨none,0,0⟩ 0 0 0 (ByteArray.mk #[]) u x y e am R) (aG (c==21) ((0:Int)<=e/\e<((j.n:Nat):Int)/\aW j.a λz=>∃q:Int,f.cell? (((z.add (Int.toNat e *9)).add 6).add 1)=some (.i q)/\
 nJ [d,b] aR #[.i g,.i (if 1<q then q else 1)] f λab an=>loc [d,b] an λao=>nJ [d,b] aR #[.i l,.i (IntKind.wrap .i64 (ab+1))] ao λaf ap=>loc [d,b] ap λaq=>fB j k g l d 0 ⟨none,0,0⟩ 0 0 0 (ByteArray.mk #[]) 0 0 0 b c ⟨none,0,0⟩ ab af 0 (ByteArray.mk #[]) 0 0 0 e aq R) (aG (c==22) (aG (c==22) (R8 j k g l d 0 ⟨none,0,0⟩ 0 0 0 (ByteArray.mk #[]) 0 0 0 b c ⟨none,0,0⟩ 0 0 0 (ByteArray.mk #[]) 0 0 0 e f R) (ZP j k g l d 0 ⟨none,0,0⟩ 0 0 0 (ByteArray.mk #[]) 0 0 0 b c ⟨none,0,0⟩ 0 0 0 (ByteArray.mk #[]) 0 0 0 e c f R)) (aG (c==23) (R8 j k g l d 0 ⟨none,0,0⟩ 0 0 0 (ByteArray.mk #[]) 0 0 0 b c ⟨none,0,0⟩ 0 0 0 (ByteArray.mk #[]) 0 0 0 e f R) (ZP j k g l d 0 ⟨none,0,0⟩ 0 0 0 (ByteArray.mk #[]) 0 0 0 b c ⟨none,0,0⟩ 0 0 0 (ByteArray.mk #[]) 0 0 0 e c f R))))))):Calls Tryz.prog iK #[j.v,.i k,.i g,.i l] w R:=aM X [Kr,EE,fA,gG,fX,jc,mE,sw,vr,wR] h
end bM
namespace enthymemeref07_size
noncomputable abbrev X:Fx:=⟨Tryz.prog,Tryz.f41,[],[]⟩
abbrev P0:Ps:=[(0,.v [.s]),(1,.v [.I]),(5,.v [.I]),(6,.v [.I])]
def L0 (a:Sl) (b d c:Int) (w:World) (R:aD):Prop:=cG P0 0 (X.Sem (bH [0,1,1,1,2])) a b d c w R
noncomputable def eN:=fU X (bH [0,1,1,1,2]) P0 L0
abbrev S1 (a:Sl) (b d c:Int) (w:World) (R:aD):Prop:=
 L0 a b d (IntKind.wrap .i64 (c+1)) w R
noncomputable def gG:=bK X [eN] (bH [2,2,1,1,2]) P0 S1
theorem cC:∀(c:Sl) (b m d:Int) (w:World) (R:aD) (h:(0:Int)<=b/\b<((c.n:Nat):Int)/\aW c.a λf=>∃k:Sl,w.cell? ((f.add (Int.toNat b *9)).add 1)=some (k.v)/\
 aG (decide (d<((k.n:Nat):Int))) ((0:Int)<=b/\b<((c.n:Nat):Int)/\aW c.a λg=>∃e:Sl,w.cell? ((g.add (Int.toNat b *9)).add 1)=some (e.v)/\
 (0:Int)<=d/\d<((e.n:Nat):Int)/\aW e.a λj=>∃l:Int,w.cell? (j.add (Int.toNat d *1))=some (.i l)/\
 BF iL #[c.v,.i l] w λo p=>S1 c b (IntKind.wrap .i64 (m+o)) d p R) (R (.returned (.i m)) w)),L0 c b m d w R:=mp (cW (X:=X) [gG,eN] (bH [0,1,1,1,2]) P0)
theorem ok (a:Sl) (b:Int) (w:World) (R:aD) (h:L0 a b 1 0 w R):Calls Tryz.prog iL #[a.v,.i b] w R:=aM X [gG,eN] h
end enthymemeref07_size
namespace enthymemeref07_within
noncomputable abbrev X:Fx:=⟨Tryz.prog,Tryz.f40,[],[3]⟩
theorem cU (a b d e:Int) (w:World) (R:aD) (h:bE [] w λf c=>
 aG (b==0) (R (.returned (.bool true)) c) (aG (decide (a>0)) (aG (b==2) (R (.returned (.bool true)) c) (R (.returned (.bool (decide (a>1)))) c)) (R (.returned (.bool (decide (a>1)))) c))):Calls Tryz.prog jP #[.i a,.agg #[.i b,.i d,.i e]] w R:=aM X [] h
end enthymemeref07_within
namespace enthymemeref07_Made
noncomputable abbrev X:Fx:=⟨Tryz.prog,Tryz.f9,[(5,(.sq [0,1,2,3,4,5,6,7,8,9,10,11,12,13,14] (.fork (ls [15,16,17]) (ls [16,15,17]))))],[9]⟩
abbrev P0:Ps:=[(0,.v [.s]),(1,.v [.I]),(2,.v [.I]),(7,.v [.s]),(8,.v [.I])]
def eE (e:Sl) (a b:Int) (c:Sl) (d:Int) (w:World) (R:aD):Prop:=cG P0 0 (X.Sem (bH [0,1,1,1,2])) e a b c d w R
noncomputable def eN:=fU X (bH [0,1,1,1,2]) P0 eE
abbrev fB (e:Sl) (a b:Int) (c:Sl) (d:Int) (w:World) (R:aD):Prop:=
 eE e a b c (IntKind.wrap .i64 (d+3)) w R
noncomputable def fX:=bK X [eN] (bH [2,2,1,1,2]) P0 fB
abbrev P1:Ps:=[(0,.v [.s]),(1,.v [.I]),(2,.v [.I]),(7,.v [.s]),(8,.v [.I]),(9,.l [.I,.s,.I,.I,.U,.st,.I,.I,.I] aE)]
abbrev gm (j:Sl) (c e:Int) (f:Sl) (g:Int) (t:Nat) (x:Int) (y:Sl) (z aa ab:Int) (ac:ByteArray) (ad ae af:Int) (w:World) (R:aD):Prop:=
 Z6 [t] jg #[f.v,.agg #[.i x,y.v,.i z,.i aa,.u ab,.string ac,.i ad,.i ae,.i af]] w λd b k w1=>aG (k==0) ((0:Int)<=b/\b<((d.n:Nat):Int)/\aW d.a λl=>dN w1 ((l.add (Int.toNat b *9)).add 6) λm o p=>jW [t] jP #[.i c,.agg #[.i m,.i o,.i p]] w1 λah r=>aG ah ((0:Int)<=b/\b<((d.n:Nat):Int)/\aW d.a λq=>∃s:Int,r.cell? (((q.add (Int.toNat b *9)).add 6).add 1)=some (.i s)/\
 aG (decide (s<=16)) (nJ [t] iL #[d.v,.i b] r λai w3=>aG (decide (ai<=400)) (fB j c e d g w3 R) (fB j c e f g w3 R)) (fB j c e f g r R)) (fB j c e f g r R)) (fB j c e f g w1 R)
noncomputable def gG:=bK X [fX,eN] (bH [1,2,1,2,1,1,2]) P1 gm
abbrev P2:Ps:=[(7,.v [.s])]
abbrev ic (a:Sl) (w:World) (R:aD):Prop:=
 R (.returned (a.v)) w
noncomputable def jc:=bK X [gG,fX,eN] (bH [3]) P2 ic
theorem aY:∀(d:Sl) (e c:Int) (f:Sl) (b:Int) (w:World) (R:aD) (h:aG (decide ((IntKind.wrap .i64 (b+2))<((d.n:Nat):Int))) (aG (decide (b<(IntKind.wrap .i64 (3 *c)))) (vQ w λw2=>(0:Int)<=b/\b<((d.n:Nat):Int)/\aW d.a λs=>∃t:Int,w2.cell? (s.add (Int.toNat b *1))=some (.i t)/\
 (0:Int)<=(IntKind.wrap .i64 (b+1))/\(IntKind.wrap .i64 (b+1))<((d.n:Nat):Int)/\aW d.a λu=>∃x:Int,w2.cell? (u.add (Int.toNat (IntKind.wrap .i64 (b+1)) *1))=some (.i x)/\
 (0:Int)<=(IntKind.wrap .i64 (b+2))/\(IntKind.wrap .i64 (b+2))<((d.n:Nat):Int)/\aW d.a λy=>∃z:Int,w2.cell? (y.add (Int.toNat (IntKind.wrap .i64 (b+2)) *1))=some (.i z)/\
 ((WV iK #[f.v,.i t,.i x,.i z] w2 λad ae af ag ah ai aj ak al w3=>bE [] w3 λb9 w4=>
 loc [b9] w4 λan=>gm d e c f b b9 ad ae af ag ah ai aj ak al an R)/\(bE [] w2 λab aa=>
 aa.cell? (y.add (Int.toNat (IntKind.wrap .i64 (b+2)) *1))=some (.i z)/\aa.cell? (u.add (Int.toNat (IntKind.wrap .i64 (b+1)) *1))=some (.i x)/\aa.cell? (s.add (Int.toNat b *1))=some (.i t)/\Ut [ab] iK #[f.v,.i t,.i x,.i z] aa λg j k l m o p q r ao=>loc [ab] ao λap=>gm d e c f b ab g j k l m o p q r ap R))) (ic f w R)) (ic f w R)),eE d e c f b w R:=mp (cW (X:=X) [jc,gG,fX,eN] (bH [0,1,1,1,2]) P0)
theorem cU (c:Sl) (a b:Int) (w:World) (R:aD) (h:WW ko #[.i a] w λd e=>eE c a b d 0 e R):Calls Tryz.prog iI #[c.v,.i a,.i b] w R:=aM X [jc,gG,fX,eN] h
end enthymemeref07_Made
namespace value_ValidSort
noncomputable abbrev X:Fx:=⟨Tryz.prog,Tryz.f109,[],[1]⟩
abbrev P0:Ps:=[]
abbrev gm (w:World) (R:aD):Prop:=
 R (.returned (.i 9)) w
noncomputable def gG:=bK X [] (bH [0,1,1,1,3]) P0 gm
abbrev fB (w:World) (R:aD):Prop:=
 R (.returned (.i 9)) w
noncomputable def fX:=bK X [gG] (bH [0,1,1,1,4]) P0 fB
abbrev ic (w:World) (R:aD):Prop:=
 R (.returned (.i 0)) w
noncomputable def jc:=bK X [fX,gG] (bH [5]) P0 ic
abbrev P1:Ps:=[(1,.l [.I,.I,.I] aS),(3,.v [.I]),(4,.v [.I]),(5,.v [.b])]
abbrev dV (g:Nat) (f d b c e:Int) (a:Bool) (w:World) (R:aD):Prop:=
 aG (decide (d<c)) (gm w R) (aG (decide (d>e)) (gm w R) (aG a (aG (decide (b<1)) (fB w R) (aG (decide (b>16)) (fB w R) (aG (!a) (aG (b !=0) (fB w R) (ic w R)) (ic w R)))) (aG (!a) (aG (b !=0) (fB w R) (ic w R)) (ic w R))))
noncomputable def fA:=bK X [jc,fX,gG] (bH [3]) P1 dV
theorem cU (a b c:Int) (w:World) (R:aD) (h:bE [] w λe d=>
 aG (a==0) (dV e a b c 1 64 false d R) (aG (a==1) (dV e a b c 0 64 false d R) (aG (a==2) (dV e a b c 1 64 true d R) (aG (a==3) (dV e a b c 0 64 true d R) (R (.returned (.i 9)) d))))):Calls Tryz.prog kY #[.agg #[.i a,.i b,.i c]] w R:=aM X [fA,jc,fX,gG] h
end value_ValidSort
namespace term_isName
noncomputable abbrev X:Fx:=⟨Tryz.prog,Tryz.f108,[],[]⟩
abbrev P0:Ps:=[]
abbrev S0 (w:World) (R:aD):Prop:=
 R (.returned (.bool false)) w
noncomputable def fA:=bK X [] (bH [0,1,1,1,1]) P0 S0
abbrev P1:Ps:=[(0,.v [.st]),(3,.v [.I])]
def L1 (b:ByteArray) (a:Int) (w:World) (R:aD):Prop:=cG P1 0 (X.Sem (bH [0,1,1,1,2])) b a w R
noncomputable def lu:=fU X (bH [0,1,1,1,2]) P1 L1
abbrev S4 (w:World) (R:aD):Prop:=
 R (.returned (.bool false)) w
noncomputable def mE:=bK X [lu,fA] (bH [0,1,3,2,1,2,1,1,2]) P0 S4
abbrev S5 (b:ByteArray) (a:Int) (w:World) (R:aD):Prop:=
 L1 b (IntKind.wrap .i64 (a+1)) w R
noncomputable def uk:=bK X [mE,lu,fA] (bH [2,2,1,1,2]) P1 S5
abbrev P2:Ps:=[(0,.v [.st]),(3,.v [.I]),(4,.v [.Y]),(5,.v [.b])]
abbrev S3 (d:ByteArray) (b c:Int) (a:Bool) (w:World) (R:aD):Prop:=
 aG (!a) (aG (b==0) (S4 w R) (aG (c !=45) (aG (decide (c<48)) (S4 w R) (aG (decide (c>57)) (S4 w R) (S5 d b w R))) (S5 d b w R))) (S5 d b w R)
noncomputable def jc:=bK X [uk,mE,lu,fA] (bH [2,2,1,2,1,1,2]) P2 S3
abbrev P3:Ps:=[(0,.v [.st]),(3,.v [.I]),(4,.v [.Y])]
abbrev S2 (c:ByteArray) (b a:Int) (w:World) (R:aD):Prop:=
 aG (decide (a>=97)) (S3 c b a (decide (a<=122)) w R) (S3 c b a false w R)
noncomputable def fX:=bK X [jc,uk,mE,lu,fA] (bH [1,2,1,2,1,1,2]) P3 S2
theorem oI:∀(c:ByteArray) (b:Int) (w:World) (R:aD) (h:aG (decide (b<((c.size:Nat):Int))) ((0:Int)<=b/\∃a:UInt8,c[Int.toNat b]? =some a/\S2 c b ((a.toNat:Nat):Int) w R) (R (.returned (.bool true)) w)),L1 c b w R:=mp (cW (X:=X) [fX,jc,uk,mE,lu,fA] (bH [0,1,1,1,2]) P1)
theorem ok (a:ByteArray) (w:World) (R:aD) (h:aG (decide (((a.size:Nat):Int)<1)) (S0 w R) (aG (decide (((a.size:Nat):Int)>16)) (S0 w R) (L1 a 0 w R))):Calls Tryz.prog q6 #[.string a] w R:=aM X [fX,jc,uk,mE,lu,fA] h
end term_isName
namespace term_fieldsFit
noncomputable abbrev X:Fx:=⟨Tryz.prog,Tryz.f80,[],[]⟩
abbrev P0:Ps:=[(0,.v [.r]),(3,.v [.b]),(4,.v [.b]),(5,.v [.b]),(6,.v [.b])]
abbrev S1 (b:Addr) (r q c a:Bool) (w:World) (R:aD):Prop:=
 aG r (aG q (aG c (aG a (R (.returned (.bool true)) w) (∃x:ByteArray,w.cell? (b.add 5)=some (.string x)/\
 R (.returned (.bool (x.toList==(ByteArray.mk #[]).toList))) w)) (∃v:Int,w.cell? (b.add 4)=some (.u v)/\
 aG (v==0) (aG a (R (.returned (.bool true)) w) (∃j:ByteArray,w.cell? (b.add 5)=some (.string j)/\
 R (.returned (.bool (j.toList==(ByteArray.mk #[]).toList))) w)) (R (.returned (.bool false)) w))) (∃t:Int,w.cell? (b.add 3)=some (.i t)/\
 aG (t==0) (aG c (aG a (R (.returned (.bool true)) w) (∃k:ByteArray,w.cell? (b.add 5)=some (.string k)/\
 R (.returned (.bool (k.toList==(ByteArray.mk #[]).toList))) w)) (∃e:Int,w.cell? (b.add 4)=some (.u e)/\
 aG (e==0) (aG a (R (.returned (.bool true)) w) (∃l:ByteArray,w.cell? (b.add 5)=some (.string l)/\
 R (.returned (.bool (l.toList==(ByteArray.mk #[]).toList))) w)) (R (.returned (.bool false)) w))) (R (.returned (.bool false)) w))) (∃s:Int,w.cell? (b.add 2)=some (.i s)/\
 aG (s==0) (aG q (aG c (aG a (R (.returned (.bool true)) w) (∃m:ByteArray,w.cell? (b.add 5)=some (.string m)/\
 R (.returned (.bool (m.toList==(ByteArray.mk #[]).toList))) w)) (∃f:Int,w.cell? (b.add 4)=some (.u f)/\
 aG (f==0) (aG a (R (.returned (.bool true)) w) (∃n:ByteArray,w.cell? (b.add 5)=some (.string n)/\
 R (.returned (.bool (n.toList==(ByteArray.mk #[]).toList))) w)) (R (.returned (.bool false)) w))) (∃d:Int,w.cell? (b.add 3)=some (.i d)/\
 aG (d==0) (aG c (aG a (R (.returned (.bool true)) w) (∃o:ByteArray,w.cell? (b.add 5)=some (.string o)/\
 R (.returned (.bool (o.toList==(ByteArray.mk #[]).toList))) w)) (∃g:Int,w.cell? (b.add 4)=some (.u g)/\
 aG (g==0) (aG a (R (.returned (.bool true)) w) (∃p:ByteArray,w.cell? (b.add 5)=some (.string p)/\
 R (.returned (.bool (p.toList==(ByteArray.mk #[]).toList))) w)) (R (.returned (.bool false)) w))) (R (.returned (.bool false)) w))) (R (.returned (.bool false)) w))
noncomputable def gG:=bK X [] (bH [3]) P0 S1
abbrev P1:Ps:=[(0,.v [.r]),(3,.v [.b]),(4,.v [.b]),(5,.v [.b])]
abbrev S0 (d:Addr) (b a c:Bool) (w:World) (R:aD):Prop:=
 S1 d b a c true w R
noncomputable def fA:=bK X [gG] (bH [0,1,1,1,1,1,2]) P1 S0
abbrev P2:Ps:=[(0,.v [.r]),(4,.v [.b]),(5,.v [.b]),(6,.v [.b])]
abbrev S3 (d:Addr) (b c a:Bool) (w:World) (R:aD):Prop:=
 S1 d true b c a w R
noncomputable def jc:=bK X [fA,gG] (bH [0,1,7,1,1,1,2]) P2 S3
abbrev P3:Ps:=[(0,.v [.r]),(3,.v [.b]),(4,.v [.b]),(5,.v [.b]),(6,.v [.b]),(10,.v [.I])]
abbrev S2 (f:Addr) (d b c a:Bool) (e:Int) (w:World) (R:aD):Prop:=
 aG (e==1) (S1 f d b true a w R) (aG (e==21) (S1 f true true c a w R) (aG (e==22) (aG (e==22) (S3 f b c a w R) (S1 f d b c a w R)) (aG (e==23) (aG (e==23) (S3 f b c a w R) (S1 f d b c a w R)) (aG (e==28) (S3 f b c a w R) (S1 f d b c a w R)))))
noncomputable def fX:=bK X [jc,fA,gG] (bH [2,1,1,1,2]) P3 S2
theorem ok (b:Addr) (w:World) (R:aD) (h:∃a:Int,w.cell? (b.add 0)=some (.i a)/\
 aG (a==0) (aG (a==0) (S0 b false false false w R) (S2 b false false false false a w R)) (aG (a==2) (aG (a==2) (S0 b false false false w R) (S2 b false false false false a w R)) (aG (a==33) (S0 b false false false w R) (S2 b false false false false a w R)))):Calls Tryz.prog oD #[.pointer (some b)] w R:=aM X [fX,jc,fA,gG] h
end term_fieldsFit
namespace term_bv
noncomputable abbrev X:Fx:=⟨Tryz.prog,Tryz.f114,[],[2]⟩
theorem cU (a:Int) (w:World) (R:aD) (h:bE [] w λb c=>
 loc [b] c λd=>R (.returned (.agg #[.i 0,.i a,.i 0])) d):Calls Tryz.prog fJ #[.i a] w R:=aM X [] h
end term_bv
namespace term_str
noncomputable abbrev X:Fx:=⟨Tryz.prog,Tryz.f110,[],[2]⟩
theorem cU (a:Int) (w:World) (R:aD) (h:bE [] w λb c=>
 loc [b] c λd=>R (.returned (.agg #[.i 1,.i a,.i 0])) d):Calls Tryz.prog lT #[.i a] w R:=aM X [] h
end term_str
namespace term_isBV
noncomputable abbrev X:Fx:=⟨Tryz.prog,Tryz.f113,[],[1]⟩
theorem cU (a b c:Int) (w:World) (R:aD) (h:bE [] w λe d=>
 R (.returned (.bool (a==0))) d):Calls Tryz.prog jo #[.agg #[.i a,.i b,.i c]] w R:=aM X [] h
end term_isBV
namespace term_isStr
noncomputable abbrev X:Fx:=⟨Tryz.prog,Tryz.f116,[],[1]⟩
theorem cU (a b c:Int) (w:World) (R:aD) (h:bE [] w λe d=>
 R (.returned (.bool (a==1))) d):Calls Tryz.prog cV #[.agg #[.i a,.i b,.i c]] w R:=aM X [] h
end term_isStr
namespace term_isArray
noncomputable abbrev X:Fx:=⟨Tryz.prog,Tryz.f111,[],[1]⟩
theorem cU (a b c:Int) (w:World) (R:aD) (h:bE [] w λe d=>
 aG (a==2) (R (.returned (.bool true)) d) (R (.returned (.bool (a==3))) d)):Calls Tryz.prog lQ #[.agg #[.i a,.i b,.i c]] w R:=aM X [] h
end term_isArray
namespace term_alike
noncomputable abbrev X:Fx:=⟨Tryz.prog,Tryz.f115,[],[2,3]⟩
theorem cU (a b c d e f:Int) (w:World) (R:aD) (h:bE [] w λg o=>
 bE [g] o λj m=>
 aG ((a==d)&&((b==e)&&((c==f)&&true))) (R (.returned (.bool true)) m) (jW [g,j] cV #[.agg #[.i a,.i b,.i c]] m λk n=>aG k (jW [g,j] cV #[.agg #[.i d,.i e,.i f]] n λl p=>R (.returned (.bool l)) p) (R (.returned (.bool false)) n))):Calls Tryz.prog pU #[.agg #[.i a,.i b,.i c],.agg #[.i d,.i e,.i f]] w R:=aM X [] h
end term_alike
namespace term_result
noncomputable abbrev X:Fx:=⟨Tryz.prog,Tryz.f112,[],[3,6]⟩
theorem cU (b c d:Int) (e a:Bool) (w:World) (R:aD) (h:bE [] w λf l=>
 bE [f] l λg j=>
 aG (!e) (loc [f,g] j λm=>R (.returned (.tuple #[.agg #[.i b,.i c,.i d],.i 9])) m) (aG (!a) (loc [f,g] j λn=>R (.returned (.tuple #[.agg #[.i b,.i c,.i d],.i 5])) n) (loc [f,g] j λk=>R (.returned (.tuple #[.agg #[.i b,.i c,.i d],.i 0])) k))):Calls Tryz.prog aV #[.agg #[.i b,.i c,.i d],.bool e,.bool a] w R:=aM X [] h
end term_result
namespace term_sortOfVar
noncomputable abbrev X:Fx:=⟨Tryz.prog,Tryz.f81,[(7,ls [0,1,2,3,4,5,6,7,8])],[]⟩
abbrev P0:Ps:=[(0,.v [.r]),(4,.v [.r])]
abbrev S0 (k g:Addr) (w:World) (R:aD):Prop:=
 dN w (k.add 6) λa b c=>Iw w g (.i a) (.i b) (.i c) λj=>dN j g λd e f=>R (.returned (.tuple #[.agg #[.i d,.i e,.i f],.i 0])) j
noncomputable def fA:=bK X [] (bH [4]) P0 S0
theorem ok (e:Addr) (a:Fv) (w:World) (R:aD) (h:fH w (.cells #[.i 0,.i 0,.i 0] aS) λw1=>
 ∃ak:ByteArray,w1.cell? (e.add 5)=some (.string ak)/\
 AR q6 #[.string ak] w1 λao w2=>aG (!ao) (dN w2 (e.add 6) λo p q=>Iw w2 (nb w) (.i o) (.i p) (.i q) λw5=>dN w5 (nb w) λb c d=>R (.returned (.tuple #[.agg #[.i b,.i c,.i d],.i 6])) w5) (dN w2 (e.add 6) λr s t=>BF kY #[.agg #[.i r,.i s,.i t]] w2 λal w6=>aG (al !=0) (dN w6 (e.add 6) λu x y=>Iw w6 (nb w) (.i u) (.i x) (.i y) λw9=>dN w9 (nb w) λb c d=>R (.returned (.tuple #[.agg #[.i b,.i c,.i d],.i al])) w9) (∃am:ByteArray,w6.cell? (e.add 5)=some (.string am)/\
 hU (fK Tryz.prog a.n) (Calls Tryz.prog a.n (a.bs++#[.string am]++a.cs) w6 λr_ m=>∃f:Int,∃g:Int,∃j:Int,∃l:Bool,r_=.returned (.tuple #[.agg #[.i f,.i g,.i j],.bool l])/\
 fH m (.cells #[.i 0,.i 0,.i 0] aS) λaq=>
 Iw aq (nb m) (.i f) (.i g) (.i j) λar=>vQ ar λk=>aG l (dN k (nb m) λz aa ab=>dN k (e.add 6) λac ad ae=>aG (!((z==ac)&&((aa==ad)&&((ab==ae)&&true)))) (dN k (e.add 6) λaf ag ah=>Iw k (nb w) (.i af) (.i ag) (.i ah) λan=>dN an (nb w) λb c d=>R (.returned (.tuple #[.agg #[.i b,.i c,.i d],.i 8])) an) (S0 e (nb w) k R)) (S0 e (nb w) k R))))):Calls Tryz.prog oE #[.pointer (some e),a.v] w R:=aM X [fA] h
end term_sortOfVar
namespace term_sortOfLeaf
noncomputable abbrev X:Fx:=⟨Tryz.prog,Tryz.f82,[(14,ls [0,1,2,3,4,5,6,7,8,9,10,11,12,13,14,15,16,17,18])],[2]⟩
abbrev P0:Ps:=[(0,.v [.r]),(2,.l [.I,.I,.I] aS)]
abbrev dV (d:Addr) (e:Nat) (f g j:Int) (w:World) (R:aD):Prop:=
 dN w (d.add 6) λa b c=>loc [e] w λk=>R (.returned (.tuple #[.agg #[.i a,.i b,.i c],.i 0])) k
noncomputable def fA:=bK X [] (bH [6]) P0 dV
theorem cU (a:Addr) (w:World) (R:aD) (h:bE [] w λb e=>
 ∃t8:Int,e.cell? (a.add 0)=some (.i t8)/\
 aG (t8==2) (∃am:ByteArray,e.cell? (a.add 5)=some (.string am)/\
 aG (decide (((am.size:Nat):Int)>64)) (dN e (a.add 6) λj k l=>loc [b] e λw4=>R (.returned (.tuple #[.agg #[.i j,.i k,.i l],.i 5])) w4) (∃an:ByteArray,e.cell? (a.add 5)=some (.string an)/\
 gX [b] lT #[.i ((an.size:Nat):Int)] e λm n o w5=>loc [b] w5 λw8=>R (.returned (.tuple #[.agg #[.i m,.i n,.i o],.i 0])) w8)) (dN e (a.add 6) λp q r=>nJ [b] kY #[.agg #[.i p,.i q,.i r]] e λao d=>aG (ao !=0) (dN d (a.add 6) λs t v=>loc [b] d λax=>R (.returned (.tuple #[.agg #[.i s,.i t,.i v],.i ao])) ax) (∃ap:Int,d.cell? (a.add 0)=some (.i ap)/\
 aG (ap==3) (dN d (a.add 6) λx y z=>jW [b] lQ #[.agg #[.i x,.i y,.i z]] d λav f=>aG (!av) (dN f (a.add 6) λaa ab ac=>loc [b] f λay=>R (.returned (.tuple #[.agg #[.i aa,.i ab,.i ac],.i 9])) ay) (dN f (a.add 6) λad ae af=>loc [b] f λaz=>R (.returned (.tuple #[.agg #[.i ad,.i ae,.i af],.i 0])) az)) (∃aq:Int,d.cell? ((a.add 6).add 0)=some (.i aq)/\
 aG (aq !=0) (dN d (a.add 6) λag ah ai=>loc [b] d λbb=>R (.returned (.tuple #[.agg #[.i ag,.i ah,.i ai],.i 9])) bb) (loc [b] d λc=>∃ar:Int,c.cell? ((a.add 6).add 1)=some (.i ar)/\
 aG (decide (ar<64)) (∃au:Int,c.cell? (a.add 4)=some (.u au)/\
 ∃g:Int,c.cell? ((a.add 6).add 1)=some (.i g)/\
 ¬g<0/\aG ((Int.fdiv au (2^(min (Int.toNat g) (IntKind.bits .u64)))) !=0) (dN c (a.add 6) λaj ak al=>loc [b] c λbc=>R (.returned (.tuple #[.agg #[.i aj,.i ak,.i al],.i 5])) bc) (dV a b 0 0 0 c R)) (dV a b 0 0 0 c R)))))):Calls Tryz.prog nZ #[.pointer (some a)] w R:=aM X [fA] h
end term_sortOfLeaf
namespace term_sortOfBits
noncomputable abbrev X:Fx:=⟨Tryz.prog,Tryz.f83,[(4,ls [0,1,2,3,4,5,6,7]),(7,ls [1,0,2,3,4,5,6,7,8,9,10,11,12]),(9,ls [1,2,0,3,4,5,6,7,8]),(14,ls [0,1,2,3,4,5,6,7,8,9,10,11,12,13]),(16,ls [0,1,2,3,4,6,12,13,14,15,16,17,5,7,8,9,10,11,18,19,20,21,22]),(18,ls [0,1,2,3,4,5,6,7,8,9,11,13,14,15,16,17,10,12,18,19,20,21,22,23,24,25,26,27,28,29,30,31,32,33,34,35,36,37,38,39,40,41,42]),(21,ls [0,1,2,3,4,5,6,8,10,11,12,13,14,7,9,15,16,17,18,19,20,21,22,23,24,25,26,27,28,29]),(22,ls [0,1,2,3,4,5,6,7,8,9,10,11,12])],[5,6,7,8,10]⟩
abbrev P0:Ps:=[(5,.l [.I,.I,.I] aS),(8,.l [.I,.I,.I] aS)]
abbrev dV (k:Nat) (d e f:Int) (j:Nat) (m n o:Int) (w:World) (R:aD):Prop:=
 loc [k,j] w λp=>jW [k,j] jo #[.agg #[.i d,.i e,.i f]] p λl q=>g7 [k,j] aV #[.agg #[.i d,.i e,.i f],.bool l,.bool true] q λa b c g r=>loc [k,j] r λs=>R (.returned (.tuple #[.agg #[.i a,.i b,.i c],.i g])) s
noncomputable def fA:=bK X [] (bH [0,1,1,1,1,1,1]) P0 dV
abbrev P1:Ps:=[(5,.l [.I,.I,.I] aS),(6,.l [.I,.I,.I] aS),(8,.l [.I,.I,.I] aS)]
abbrev fB (f:Nat) (p q r:Int) (g:Nat) (t u v:Int) (e:Nat) (aa ab ac:Int) (w:World) (R:aD):Prop:=
 loc [f,g,e] w λw1=>gX [f,g,e] fJ #[.i 1] w1 λj k l w2=>jW [f,g,e] jo #[.agg #[.i p,.i q,.i r]] w2 λx z=>aG x (g7 [f,g,e] aV #[.agg #[.i j,.i k,.i l],.bool ((p==t)&&((q==u)&&((r==v)&&true))),.bool true] z λm n o s w4=>loc [f,g,e] w4 λw7=>R (.returned (.tuple #[.agg #[.i m,.i n,.i o],.i s])) w7) (g7 [f,g,e] aV #[.agg #[.i j,.i k,.i l],.bool false,.bool true] z λa b c d w8=>loc [f,g,e] w8 λy=>R (.returned (.tuple #[.agg #[.i a,.i b,.i c],.i d])) y)
noncomputable def fX:=bK X [fA] (bH [0,1,3,1,1,1,1]) P1 fB
abbrev P2:Ps:=[(5,.l [.I,.I,.I] aS),(6,.l [.I,.I,.I] aS),(7,.l [.I,.I,.I] aS),(8,.l [.I,.I,.I] aS),(10,.l [.I,.I,.I] aS)]
abbrev qb (g:Nat) (v x y:Int) (j:Nat) (z aa ab:Int) (k:Nat) (ac ad ae:Int) (f:Nat) (ai aj ak:Int) (a:Nat) (l m n:Int) (w:World) (R:aD):Prop:=
 loc [g,j,k,f,a] w λw1=>gX [g,j,k,f,a] fJ #[.i 1] w1 λr s t w2=>aG ((v==r)&&((x==s)&&((y==t)&&true))) (jW [g,j,k,f,a] pU #[.agg #[.i z,.i aa,.i ab],.agg #[.i ac,.i ad,.i ae]] w2 λaf w3=>g7 [g,j,k,f,a] aV #[.agg #[.i l,.i m,.i n],.bool af,.bool true] w3 λo p q u w4=>loc [g,j,k,f,a] w4 λw7=>R (.returned (.tuple #[.agg #[.i o,.i p,.i q],.i u])) w7) (g7 [g,j,k,f,a] aV #[.agg #[.i l,.i m,.i n],.bool false,.bool true] w2 λb c d e w8=>loc [g,j,k,f,a] w8 λag=>R (.returned (.tuple #[.agg #[.i b,.i c,.i d],.i e])) ag)
noncomputable def mE:=bK X [fX,fA] (bH [2,1,7,1,1,1,1]) P2 qb
abbrev P3:Ps:=[(0,.v [.r]),(5,.l [.I,.I,.I] aS),(8,.l [.I,.I,.I] aS)]
abbrev CC (q:Addr) (o:Nat) (y p z:Int) (n:Nat) (ac ad ae:Int) (w:World) (R:aD):Prop:=
 loc [o,n] w λx=>∃r:Int,x.cell? (q.add 2)=some (.i r)/\
 ∃d:Int,x.cell? (q.add 2)=some (.i d)/\
 gX [o,n] fJ #[.i (IntKind.wrap .i64 (p+r))] x λe f g w2=>w2.cell? (q.add 2)=some (.i d)/\jW [o,n] jo #[.agg #[.i y,.i p,.i z]] w2 λs v=>v.cell? (q.add 2)=some (.i d)/\aG (decide (1<=d)) (∃t:Int,v.cell? (q.add 2)=some (.i t)/\
 g7 [o,n] aV #[.agg #[.i e,.i f,.i g],.bool s,.bool (decide (t<=(IntKind.wrap .i64 (64 - p))))] v λk l m u w4=>loc [o,n] w4 λw7=>R (.returned (.tuple #[.agg #[.i k,.i l,.i m],.i u])) w7) (g7 [o,n] aV #[.agg #[.i e,.i f,.i g],.bool s,.bool false] v λa b c j w8=>loc [o,n] w8 λaa=>R (.returned (.tuple #[.agg #[.i a,.i b,.i c],.i j])) aa)
noncomputable def uk:=bK X [mE,fX,fA] (bH [0,1,13,1,1,1,1]) P3 CC
abbrev x9 (n:Nat) (d e f:Int) (o:Nat) (r s t:Int) (m:Nat) (x y z:Int) (w:World) (R:aD):Prop:=
 loc [n,o,m] w λw1=>jW [n,o,m] jo #[.agg #[.i d,.i e,.i f]] w1 λq v=>aG q (g7 [n,o,m] aV #[.agg #[.i d,.i e,.i f],.bool ((d==r)&&((e==s)&&((f==t)&&true))),.bool true] v λj k l p w3=>loc [n,o,m] w3 λw6=>R (.returned (.tuple #[.agg #[.i j,.i k,.i l],.i p])) w6) (g7 [n,o,m] aV #[.agg #[.i d,.i e,.i f],.bool false,.bool true] v λa b c g w7=>loc [n,o,m] w7 λu=>R (.returned (.tuple #[.agg #[.i a,.i b,.i c],.i g])) u)
noncomputable def sw:=bK X [uk,mE,fX,fA] (bH [2]) P1 x9
abbrev P4:Ps:=[(0,.v [.r]),(5,.l [.I,.I,.I] aS),(6,.l [.I,.I,.I] aS),(7,.l [.I,.I,.I] aS),(8,.l [.I,.I,.I] aS),(14,.v [.I])]
abbrev ic (x:Addr) (b:Nat) (g f j:Int) (c:Nat) (k d l:Int) (e:Nat) (ai p aj:Int) (a:Nat) (m n o u:Int) (w:World) (R:aD):Prop:=
 aG (u==18) (loc [b,c,e,a] w λw1=>gX [b,c,e,a] fJ #[.i 1] w1 λbk bm bn w2=>jW [b,c,e,a] pU #[.agg #[.i g,.i f,.i j],.agg #[.i k,.i d,.i l]] w2 λbx w3=>g7 [b,c,e,a] aV #[.agg #[.i bk,.i bm,.i bn],.bool bx,.bool true] w3 λax ay az bo w4=>loc [b,c,e,a] w4 λw7=>R (.returned (.tuple #[.agg #[.i ax,.i ay,.i az],.i bo])) w7) (aG (u==19) (bE [b,c,e,a] w λq w8=>
 loc [b,c,e,a,q] w8 λcd=>jW [b,c,e,a,q] cV #[.agg #[.i k,.i d,.i l]] cd λbz bt=>aG bz (jW [b,c,e,a,q] cV #[.agg #[.i ai,.i p,.i aj]] bt λca bu=>aG ca (gX [b,c,e,a,q] lT #[.i (if d<p then p else d)] bu λbp bq br ce=>loc [b,c,e,a,q] ce λcf=>qb b g f j c k d l e ai p aj a m n o q bp bq br cf R) (qb b g f j c k d l e ai p aj a m n o q k d l bu R)) (qb b g f j c k d l e ai p aj a m n o q k d l bt R)) (aG (u==20) (loc [b,c,e,a] w λcg=>gX [b,c,e,a] fJ #[.i (IntKind.wrap .i64 (f+d))] cg λar au av ch=>jW [b,c,e,a] jo #[.agg #[.i g,.i f,.i j]] ch λcb bv=>aG cb (jW [b,c,e,a] jo #[.agg #[.i k,.i d,.i l]] bv λcc ci=>g7 [b,c,e,a] aV #[.agg #[.i ar,.i au,.i av],.bool cc,.bool (decide ((IntKind.wrap .i64 (f+d))<=64))] ci λbb bc bd bs cj=>loc [b,c,e,a] cj λck=>R (.returned (.tuple #[.agg #[.i bb,.i bc,.i bd],.i bs])) ck) (g7 [b,c,e,a] aV #[.agg #[.i ar,.i au,.i av],.bool false,.bool (decide ((IntKind.wrap .i64 (f+d))<=64))] bv λaf ag ah aq cl=>loc [b,c,e,a] cl λcm=>R (.returned (.tuple #[.agg #[.i af,.i ag,.i ah],.i aq])) cm)) (aG (u==21) (loc [b,c,e,a] w λaw=>∃be:Int,aw.cell? (x.add 2)=some (.i be)/\
 ∃bf:Int,aw.cell? (x.add 3)=some (.i bf)/\
 ∃ae:Int,aw.cell? (x.add 3)=some (.i ae)/\
 gX [b,c,e,a] fJ #[.i (IntKind.wrap .i64 ((IntKind.wrap .i64 (be - bf))+1))] aw λr s t bw=>bw.cell? (x.add 3)=some (.i ae)/\jW [b,c,e,a] jo #[.agg #[.i g,.i f,.i j]] bw λam v=>v.cell? (x.add 3)=some (.i ae)/\aG (decide (0<=ae)) (∃bg:Int,v.cell? (x.add 3)=some (.i bg)/\
 ∃bh:Int,v.cell? (x.add 2)=some (.i bh)/\
 aG (decide (bg<=bh)) (∃bi:Int,v.cell? (x.add 2)=some (.i bi)/\
 g7 [b,c,e,a] aV #[.agg #[.i r,.i s,.i t],.bool am,.bool (decide (bi<f))] v λan ao ap bj cn=>loc [b,c,e,a] cn λco=>R (.returned (.tuple #[.agg #[.i an,.i ao,.i ap],.i bj])) co) (g7 [b,c,e,a] aV #[.agg #[.i r,.i s,.i t],.bool am,.bool false] v λy z aa ak cp=>loc [b,c,e,a] cp λcq=>R (.returned (.tuple #[.agg #[.i y,.i z,.i aa],.i ak])) cq)) (g7 [b,c,e,a] aV #[.agg #[.i r,.i s,.i t],.bool am,.bool false] v λab ac ad al cr=>loc [b,c,e,a] cr λcs=>R (.returned (.tuple #[.agg #[.i ab,.i ac,.i ad],.i al])) cs)) (aG (u==22) (aG (u==22) (CC x b g f j a m n o w R) (x9 b g f j c k d l a m n o w R)) (aG (u==23) (CC x b g f j a m n o w R) (x9 b g f j c k d l a m n o w R))))))
noncomputable def jc:=bK X [sw,uk,mE,fX,fA] (bH [4,1,1,1,1]) P4 ic
abbrev gm (r:Addr) (p:Nat) (d e f:Int) (q:Nat) (g i j:Int) (s:Nat) (l m n:Int) (o:Nat) (a b c k:Int) (w:World) (R:aD):Prop:=
 aG (k==16) (aG (k==16) (fB p d e f q g i j o a b c w R) (ic r p d e f q g i j s l m n o a b c k w R)) (aG (k==17) (fB p d e f q g i j o a b c w R) (ic r p d e f q g i j s l m n o a b c k w R))
noncomputable def gG:=bK X [jc,sw,uk,mE,fX,fA] (bH [2,1,1,1,1]) P4 gm
theorem cU (q:Addr) (a b c f g j k l m:Int) (w:World) (R:aD) (h:bE [] w λe s=>
 bE [e] s λo t=>
 bE [e,o] t λr u=>
 bE [e,o,r] u λp n=>
 ∃d:Int,n.cell? (q.add 0)=some (.i d)/\
 aG (d==4) (aG (d==4) (dV e a b c p 0 0 0 n R) (gm q e a b c o f g j r k l m p 0 0 0 d n R)) (aG (d==5) (dV e a b c p 0 0 0 n R) (gm q e a b c o f g j r k l m p 0 0 0 d n R))):Calls Tryz.prog nY #[.pointer (some q),.agg #[.i a,.i b,.i c],.agg #[.i f,.i g,.i j],.agg #[.i k,.i l,.i m]] w R:=aM X [gG,jc,sw,uk,mE,fX,fA] h
end term_sortOfBits
namespace term_sortOfArrays
noncomputable abbrev X:Fx:=⟨Tryz.prog,Tryz.f84,[(2,ls [0,1,3,2,4,5,6,7,8,9,10,11,12,13,14]),(6,ls [0,1,2,3,4,5,6,7,8,9]),(10,ls [0,1,2,3,4,5,6,7,8,9,10,11,12,13,14,15,16,17]),(11,ls [0,1,2,3,4,5,6,7,8,9,10,11])],[5,6,7,8,10]⟩
abbrev P0:Ps:=[(0,.v [.r]),(5,.l [.I,.I,.I] aS),(7,.l [.I,.I,.I] aS),(8,.l [.I,.I,.I] aS),(10,.l [.I,.I,.I] aS),(11,.v [.b])]
abbrev gm (n0:Addr) (c:Nat) (j k m:Int) (d:Nat) (al aa am:Int) (b:Nat) (bh bi bj:Int) (a:Nat) (e f g:Int) (l:Bool) (w:World) (R:aD):Prop:=
 ∃aq:Int,w.cell? (n0.add 0)=some (.i aq)/\
 aG (aq==24) (g7 [c,d,b,a] aV #[.agg #[.i e,.i f,.i g],.bool l,.bool true] w λab ac ad an w1=>loc [c,d,b,a] w1 λw4=>R (.returned (.tuple #[.agg #[.i ab,.i ac,.i ad],.i an])) w4) (aG (j==3) (aG l (loc [c,d,b,a] w λw5=>jW [c,d,b,a] cV #[.agg #[.i al,.i aa,.i am]] w5 λau w6=>aG au (g7 [c,d,b,a] aV #[.agg #[.i j,.i k,.i m],.bool (decide (aa<=k)),.bool true] w6 λae af ag ao w7=>loc [c,d,b,a] w7 λav=>R (.returned (.tuple #[.agg #[.i ae,.i af,.i ag],.i ao])) av) (g7 [c,d,b,a] aV #[.agg #[.i j,.i k,.i m],.bool false,.bool true] w6 λn o p x aw=>loc [c,d,b,a] aw λax=>R (.returned (.tuple #[.agg #[.i n,.i o,.i p],.i x])) ax)) (loc [c,d,b,a] w λw5=>g7 [c,d,b,a] aV #[.agg #[.i j,.i k,.i m],.bool false,.bool true] w5 λq r s y ay=>loc [c,d,b,a] ay λaz=>R (.returned (.tuple #[.agg #[.i q,.i r,.i s],.i y])) az)) (aG l (loc [c,d,b,a] w λak=>g7 [c,d,b,a] aV #[.agg #[.i j,.i k,.i m],.bool ((al==e)&&((aa==f)&&((am==g)&&true))),.bool true] ak λah ai aj ap bb=>loc [c,d,b,a] bb λbc=>R (.returned (.tuple #[.agg #[.i ah,.i ai,.i aj],.i ap])) bc) (loc [c,d,b,a] w λak=>g7 [c,d,b,a] aV #[.agg #[.i j,.i k,.i m],.bool false,.bool true] ak λt u v z bd=>loc [c,d,b,a] bd λbe=>R (.returned (.tuple #[.agg #[.i t,.i u,.i v],.i z])) be)))
noncomputable def gG:=bK X [] (bH [5]) P0 gm
abbrev P1:Ps:=[(0,.v [.r]),(5,.l [.I,.I,.I] aS),(6,.l [.I,.I,.I] aS),(7,.l [.I,.I,.I] aS),(8,.l [.I,.I,.I] aS),(10,.l [.I,.I,.I] aS)]
abbrev dV (n0:Addr) (n:Nat) (f g e:Int) (v:Nat) (x y z:Int) (o:Nat) (p q r:Int) (j:Nat) (k l m:Int) (a:Nat) (b c d:Int) (w:World) (R:aD):Prop:=
 loc [n,v,o,j,a] w λw1=>jW [n,v,o,j,a] lQ #[.agg #[.i f,.i g,.i e]] w1 λab w2=>aG ab (gX [n,v,o,j,a] fJ #[.i e] w2 λs t u w3=>gm n0 n f g e o p q r j k l m a b c d ((x==s)&&((y==t)&&((z==u)&&true))) w3 R) (gm n0 n f g e o p q r j k l m a b c d false w2 R)
noncomputable def fA:=bK X [gG] (bH [4]) P1 dV
theorem cU (n0:Addr) (f e g n o p r s t:Int) (w:World) (R:aD) (h:bE [] w λa w1=>
 bE [a] w1 λb w2=>
 bE [a,b] w2 λc w3=>
 bE [a,b,c] w3 λd w4=>
 ∃ak:Int,w4.cell? (n0.add 0)=some (.i ak)/\
 aG (ak==26) (loc [a,b,c,d] w4 λw5=>gX [a,b,c,d] fJ #[.i g] w5 λu v x w6=>jW [a,b,c,d] lQ #[.agg #[.i f,.i e,.i g]] w6 λan w7=>aG an (g7 [a,b,c,d] aV #[.agg #[.i u,.i v,.i x],.bool ((f==n)&&((e==o)&&((g==p)&&true))),.bool true] w7 λy z aa ad w8=>loc [a,b,c,d] w8 λao=>R (.returned (.tuple #[.agg #[.i y,.i z,.i aa],.i ad])) ao) (g7 [a,b,c,d] aV #[.agg #[.i u,.i v,.i x],.bool false,.bool true] w7 λk l m q ap=>loc [a,b,c,d] ap λaq=>R (.returned (.tuple #[.agg #[.i k,.i l,.i m],.i q])) aq)) (gX [a,b,c,d] fJ #[.i e] w4 λae af ag ar=>bE [a,b,c,d] ar λj al=>
 aG (f==3) (loc [a,b,c,d,j] al λab=>gX [a,b,c,d,j] lT #[.i e] ab λah ai aj au=>loc [a,b,c,d,j] au λav=>dV n0 a f e g b n o p c r s t d 0 0 0 j ah ai aj av R) (loc [a,b,c,d,j] al λab=>dV n0 a f e g b n o p c r s t d 0 0 0 j ae af ag ab R))):Calls Tryz.prog mB #[.pointer (some n0),.agg #[.i f,.i e,.i g],.agg #[.i n,.i o,.i p],.agg #[.i r,.i s,.i t]] w R:=aM X [fA,gG] h
end term_sortOfArrays
namespace term_sortOfStrings
noncomputable abbrev X:Fx:=⟨Tryz.prog,Tryz.f85,[(3,ls [1,0,2,3,4,5,6,7]),(5,ls [1,3,4,5,6,7,0,2,8,9,10,11,12,13,14,15,16,17,18,19]),(7,ls [0,1,2,3,4,6,12,13,14,15,16,17,5,7,8,9,10,11,18,19,20,21,22]),(9,ls [0,1,2,3,4,5,6,7,8,9,10,11,12,13,14,15,16,17]),(11,ls [1,0,2,3,4,5,6,7,8,9,10,11]),(13,ls [0,1,2,3,4,6,16,17,18,19,20,21,5,7,8,9,10,11,12,13,14,15,22,23,24,25,26]),(15,ls [1,0,2,3,4,5,6,7,8])],[5,6,7,8]⟩
theorem cU (n0:Addr) (f e g p j q bf k bg:Int) (w:World) (R:aD) (h:bE [] w λa w1=>
 bE [a] w1 λb w2=>
 bE [a,b] w2 λc w3=>
 bE [a,b,c] w3 λd w4=>
 ∃l:Int,w4.cell? (n0.add 0)=some (.i l)/\
 aG (l==27) (loc [a,b,c,d] w4 λw5=>gX [a,b,c,d] fJ #[.i 7] w5 λcw cx cy w6=>jW [a,b,c,d] cV #[.agg #[.i f,.i e,.i g]] w6 λeb w7=>g7 [a,b,c,d] aV #[.agg #[.i cw,.i cx,.i cy],.bool eb,.bool true] w7 λbt bu bv cz w8=>loc [a,b,c,d] w8 λeh=>R (.returned (.tuple #[.agg #[.i bt,.i bu,.i bv],.i cz])) eh) (aG (l==28) (loc [a,b,c,d] w4 λdm=>∃bk:Int,dm.cell? (n0.add 2)=some (.i bk)/\
 gX [a,b,c,d] fJ #[.i 8] dm λbh bi bj dn=>dn.cell? (n0.add 2)=some (.i bk)/\jW [a,b,c,d] cV #[.agg #[.i f,.i e,.i g]] dn λdk bs=>bs.cell? (n0.add 2)=some (.i bk)/\aG (decide (0<=bk)) (∃dl:Int,bs.cell? (n0.add 2)=some (.i dl)/\
 g7 [a,b,c,d] aV #[.agg #[.i bh,.i bi,.i bj],.bool dk,.bool (decide (dl<64))] bs λbw bx bz da ei=>loc [a,b,c,d] ei λej=>R (.returned (.tuple #[.agg #[.i bw,.i bx,.i bz],.i da])) ej) (g7 [a,b,c,d] aV #[.agg #[.i bh,.i bi,.i bj],.bool dk,.bool false] bs λy z aa az ek=>loc [a,b,c,d] ek λel=>R (.returned (.tuple #[.agg #[.i y,.i z,.i aa],.i az])) el)) (aG (l==29) (loc [a,b,c,d] w4 λem=>gX [a,b,c,d] lT #[.i (IntKind.wrap .i64 (e+j))] em λbm bn bo en=>jW [a,b,c,d] cV #[.agg #[.i f,.i e,.i g]] en λec dp=>aG ec (jW [a,b,c,d] cV #[.agg #[.i p,.i j,.i q]] dp λed eo=>g7 [a,b,c,d] aV #[.agg #[.i bm,.i bn,.i bo],.bool ed,.bool (decide ((IntKind.wrap .i64 (e+j))<=64))] eo λca cb cc db ep=>loc [a,b,c,d] ep λeq=>R (.returned (.tuple #[.agg #[.i ca,.i cb,.i cc],.i db])) eq) (g7 [a,b,c,d] aV #[.agg #[.i bm,.i bn,.i bo],.bool false,.bool (decide ((IntKind.wrap .i64 (e+j))<=64))] dp λab ac ad bb er=>loc [a,b,c,d] er λes=>R (.returned (.tuple #[.agg #[.i ab,.i ac,.i ad],.i bb])) es)) (aG (l==30) (loc [a,b,c,d] w4 λet=>jW [a,b,c,d] cV #[.agg #[.i f,.i e,.i g]] et λee dq=>aG ee (gX [a,b,c,d] fJ #[.i 7] dq λdc dd de dr=>aG ((p==dc)&&((j==dd)&&((q==de)&&true))) (gX [a,b,c,d] fJ #[.i 7] dr λdf dg dh eu=>g7 [a,b,c,d] aV #[.agg #[.i f,.i e,.i g],.bool ((bf==df)&&((k==dg)&&((bg==dh)&&true))),.bool true] eu λcd ce cf di ev=>loc [a,b,c,d] ev λew=>R (.returned (.tuple #[.agg #[.i cd,.i ce,.i cf],.i di])) ew) (g7 [a,b,c,d] aV #[.agg #[.i f,.i e,.i g],.bool false,.bool true] dr λae af ag bc ex=>loc [a,b,c,d] ex λey=>R (.returned (.tuple #[.agg #[.i ae,.i af,.i ag],.i bc])) ey)) (g7 [a,b,c,d] aV #[.agg #[.i f,.i e,.i g],.bool false,.bool true] dq λah ai aj bd ez=>loc [a,b,c,d] ez λfa=>R (.returned (.tuple #[.agg #[.i ah,.i ai,.i aj],.i bd])) fa)) (aG (l==31) (loc [a,b,c,d] w4 λfb=>gX [a,b,c,d] fJ #[.i 7] fb λbp bq br fc=>jW [a,b,c,d] cV #[.agg #[.i f,.i e,.i g]] fc λef ds=>aG ef (jW [a,b,c,d] cV #[.agg #[.i p,.i j,.i q]] ds λeg fd=>g7 [a,b,c,d] aV #[.agg #[.i bp,.i bq,.i br],.bool eg,.bool true] fd λcg ch ci dj fe=>loc [a,b,c,d] fe λff=>R (.returned (.tuple #[.agg #[.i cg,.i ch,.i ci],.i dj])) ff) (g7 [a,b,c,d] aV #[.agg #[.i bp,.i bq,.i br],.bool false,.bool true] ds λak al am be fg=>loc [a,b,c,d] fg λfh=>R (.returned (.tuple #[.agg #[.i ak,.i al,.i am],.i be])) fh)) (aG (l==32) (loc [a,b,c,d] w4 λfi=>gX [a,b,c,d] lT #[.i (IntKind.wrap .i64 (e+k))] fi λm n o fj=>jW [a,b,c,d] cV #[.agg #[.i f,.i e,.i g]] fj λdw dt=>aG dw (jW [a,b,c,d] cV #[.agg #[.i p,.i j,.i q]] dt λdx du=>aG dx (jW [a,b,c,d] cV #[.agg #[.i bf,.i k,.i bg]] du λdy fk=>g7 [a,b,c,d] aV #[.agg #[.i m,.i n,.i o],.bool dy,.bool (decide ((IntKind.wrap .i64 (e+k))<=64))] fk λar au av cj fl=>loc [a,b,c,d] fl λfm=>R (.returned (.tuple #[.agg #[.i ar,.i au,.i av],.i cj])) fm) (g7 [a,b,c,d] aV #[.agg #[.i m,.i n,.i o],.bool false,.bool (decide ((IntKind.wrap .i64 (e+k))<=64))] du λr s t ao fn=>loc [a,b,c,d] fn λfo=>R (.returned (.tuple #[.agg #[.i r,.i s,.i t],.i ao])) fo)) (g7 [a,b,c,d] aV #[.agg #[.i m,.i n,.i o],.bool false,.bool (decide ((IntKind.wrap .i64 (e+k))<=64))] dt λu v x ap fp=>loc [a,b,c,d] fp λfq=>R (.returned (.tuple #[.agg #[.i u,.i v,.i x],.i ap])) fq)) (aG (l==34) (loc [a,b,c,d] w4 λfr=>gX [a,b,c,d] lT #[.i 1] fr λck cl cm fs=>gX [a,b,c,d] fJ #[.i 8] fs λcn co cp ft=>g7 [a,b,c,d] aV #[.agg #[.i ck,.i cl,.i cm],.bool ((f==cn)&&((e==co)&&((g==cp)&&true))),.bool true] ft λaw ax ay cq fu=>loc [a,b,c,d] fu λfv=>R (.returned (.tuple #[.agg #[.i aw,.i ax,.i ay],.i cq])) fv) (jW [a,b,c,d] cV #[.agg #[.i f,.i e,.i g]] w4 λdz cv=>aG (!dz) (loc [a,b,c,d] cv λfw=>R (.returned (.tuple #[.agg #[.i f,.i e,.i g],.i 9])) fw) (∃cr:ByteArray,cv.cell? (n0.add 5)=some (.string cr)/\
 jW [a,b,c,d] mZ #[.string cr] cv λea dv=>aG (!ea) (loc [a,b,c,d] dv λfx=>R (.returned (.tuple #[.agg #[.i f,.i e,.i g],.i 2])) fx) (gX [a,b,c,d] fJ #[.i 1] dv λcs ct cu fy=>loc [a,b,c,d] fy λfz=>R (.returned (.tuple #[.agg #[.i cs,.i ct,.i cu],.i 0])) fz)))))))))):Calls Tryz.prog lS #[.pointer (some n0),.agg #[.i f,.i e,.i g],.agg #[.i p,.i j,.i q],.agg #[.i bf,.i k,.i bg]] w R:=aM X [] h
end term_sortOfStrings
namespace term_sortOf
noncomputable abbrev X:Fx:=⟨Tryz.prog,Tryz.f42,[(1,ls [0,1,2,3,4,5,6,7,8,9,10,11,12,13,14,15,16,17])],[6,11]⟩
abbrev P0:Ps:=[(6,.l [.I,.I,.I] aS)]
abbrev dV (a:Nat) (b c d:Int) (w:World) (R:aD):Prop:=
 loc [a] w λe=>R (.returned (.tuple #[.agg #[.i 0,.i 0,.i 0],.i 1])) e
noncomputable def fA:=bK X [] (bH [0,1,1,1,1]) P0 dV
abbrev P1:Ps:=[(0,.v [.s]),(2,.v [.f]),(4,.v [.r]),(6,.l [.I,.I,.I] aS),(8,.v [.r]),(34,.v [.I]),(35,.v [.I])]
def mD (b:Sl) (a:Fv) (j:Addr) (k:Nat) (d e f:Int) (c:Addr) (g i:Int) (w:World) (R:aD):Prop:=cG P1 0 (X.Sem (bH [0,1,1,1,3])) b a j k d e f c g i w R
noncomputable def lu:=fU X (bH [0,1,1,1,3]) P1 mD
abbrev fB (a:Nat) (b c d:Int) (w:World) (R:aD):Prop:=
 loc [a] w λe=>R (.returned (.tuple #[.agg #[.i 0,.i 0,.i 0],.i 1])) e
noncomputable def fX:=bK X [lu,fA] (bH [0,1,1,1,2,2,2,2,1,1,3]) P0 fB
abbrev P2:Ps:=[(6,.l [.I,.I,.I] aS),(11,.l [.I,.I,.I] aS),(12,.v [.I])]
abbrev ic (f:Nat) (g j k:Int) (e:Nat) (a b c d:Int) (w:World) (R:aD):Prop:=
 aG (d !=0) (loc [f,e] w λl=>R (.returned (.tuple #[.agg #[.i 0,.i 0,.i 0],.i d])) l) (loc [f,e] w λm=>R (.returned (.tuple #[.agg #[.i a,.i b,.i c],.i 0])) m)
noncomputable def jc:=bK X [fX,lu,fA] (bH [8]) P2 ic
theorem dM:∀(k:Sl) (m:Fv) (o:Addr) (d:Nat) (f g j:Int) (b:Addr) (ay l:Int) (w:World) (R:aD) (h:aG (decide (l<ay)) (∃az:Sl,w.cell? (o.add 1)=some (az.v)/\
 (0:Int)<=l/\l<((az.n:Nat):Int)/\aW az.a λbb=>∃p:Int,w.cell? (bb.add (Int.toNat l *1))=some (.i p)/\
 aG (decide (p<0)) (fB d f g j w R) (aG (decide (p>=((k.n:Nat):Int))) (fB d f g j w R) ((0:Int)<=p/\p<((k.n:Nat):Int)/\aW k.a λbc=>dN w ((bc.add (Int.toNat p *9)).add 6) λbd be bf=>(0:Int)<=l/\l<((3:Nat):Int)/\bT w (b.add (Int.toNat l *3)) (.i bd) λw5=>kept [d] w w5/\
 bT w5 ((b.add (Int.toNat l *3)).add 1) (.i be) λw6=>kept [d] w5 w6/\
 bT w6 ((b.add (Int.toNat l *3)).add 2) (.i bf) λw7=>kept [d] w6 w7/\
 mD k m o d f g j b ay (IntKind.wrap .i64 (l+1)) w7 R))) (jW [d] oD #[.pointer (some o)] w λcf w8=>aG (!cf) (loc [d] w8 λcg=>R (.returned (.tuple #[.agg #[.i 0,.i 0,.i 0],.i 1])) cg) (bE [d] w8 λe c=>
 ∃ca:Int,c.cell? (o.add 0)=some (.i ca)/\
 aG (ca==0) (g7 [d,e] oE #[.pointer (some o),m.v] c λab ac ad br ch=>loc [d,e] ch λci=>ic d f g j e ab ac ad br ci R) (∃cb:Int,c.cell? (o.add 0)=some (.i cb)/\
 aG (decide (cb<=3)) (g7 [d,e] nZ #[.pointer (some o)] c λae af ag bs cj=>loc [d,e] cj λck=>ic d f g j e ae af ag bs ck R) (∃cc:Int,c.cell? (o.add 0)=some (.i cc)/\
 aG (decide (cc<=23)) ((0:Int)<=0/\0<((3:Nat):Int)/\dN c (b.add (Int.toNat 0 *3)) λbt bu bv=>(0:Int)<=1/\1<((3:Nat):Int)/\dN c (b.add (Int.toNat 1 *3)) λbw bx bz=>(0:Int)<=2/\2<((3:Nat):Int)/\dN c (b.add (Int.toNat 2 *3)) λah ai aj=>g7 [d,e] nY #[.pointer (some o),.agg #[.i bt,.i bu,.i bv],.agg #[.i bw,.i bx,.i bz],.agg #[.i ah,.i ai,.i aj]] c λq r s ak cl=>loc [d,e] cl λcm=>ic d f g j e q r s ak cm R) (∃al:Int,c.cell? (o.add 0)=some (.i al)/\
 aG (decide (al<=26)) ((0:Int)<=0/\0<((3:Nat):Int)/\dN c (b.add (Int.toNat 0 *3)) λam an ao=>(0:Int)<=1/\1<((3:Nat):Int)/\dN c (b.add (Int.toNat 1 *3)) λap aq ar=>(0:Int)<=2/\2<((3:Nat):Int)/\dN c (b.add (Int.toNat 2 *3)) λau av aw=>g7 [d,e] mB #[.pointer (some o),.agg #[.i am,.i an,.i ao],.agg #[.i ap,.i aq,.i ar],.agg #[.i au,.i av,.i aw]] c λt u x ax cn=>loc [d,e] cn λco=>ic d f g j e t u x ax co R) ((0:Int)<=0/\0<((3:Nat):Int)/\dN c (b.add (Int.toNat 0 *3)) λbg bh bi=>(0:Int)<=1/\1<((3:Nat):Int)/\dN c (b.add (Int.toNat 1 *3)) λbj bk bm=>(0:Int)<=2/\2<((3:Nat):Int)/\dN c (b.add (Int.toNat 2 *3)) λbn bo bp=>g7 [d,e] lS #[.pointer (some o),.agg #[.i bg,.i bh,.i bi],.agg #[.i bj,.i bk,.i bm],.agg #[.i bn,.i bo,.i bp]] c λy z aa bq cp=>loc [d,e] cp λcq=>ic d f g j e y z aa bq cq R))))))),mD k m o d f g j b ay l w R:=mp (cW (X:=X) [jc,fX,lu,fA] (bH [0,1,1,1,3]) P1)
theorem cU (c:Sl) (f:Int) (g:Sl) (j k l:Int) (m:ByteArray) (o p q:Int) (b:Fv) (w:World) (R:aD) (h:fH w (.cells #[.i f,g.v,.i j,.i k,.u l,.string m,.i o,.i p,.i q] aE) λw1=>
 bE [] w1 λe w2=>
 loc [e] w2 λa=>∃r:Int,a.cell? ((nb w).add 0)=some (.i r)/\
 aG (decide (r<0)) (dV e 0 0 0 a R) (∃s:Int,a.cell? ((nb w).add 0)=some (.i s)/\
 aG (decide (s>=35)) (dV e 0 0 0 a R) (∃t:Sl,a.cell? ((nb w).add 1)=some (t.v)/\
 ∃d:Int,a.cell? ((nb w).add 0)=some (.i d)/\
 (0:Int)<=d/\d<((35:Nat):Int)/\∃x:Int,a.cell? ((Addr.mk 0 0 none).add (Int.toNat d *1))=some (.i x)/\
 aG (((t.n:Nat):Int) !=x) (dV e 0 0 0 a R) (fH a (.cells #[.i 0,.i 0,.i 0,.i 0,.i 0,.i 0,.i 0,.i 0,.i 0] mU) λz=>
 ∃y:Sl,z.cell? ((nb w).add 1)=some (y.v)/\
 mD c b (nb w) e 0 0 0 (nb a) ((y.n:Nat):Int) 0 z R)))):Calls Tryz.prog oN #[c.v,.agg #[.i f,g.v,.i j,.i k,.u l,.string m,.i o,.i p,.i q],b.v] w R:=aM X [jc,fX,lu,fA] h
end term_sortOf
namespace term_SortOf_1
noncomputable abbrev X:Fx:=⟨Tryz.prog,Tryz.f43,[],[3]⟩
abbrev P0:Ps:=[(0,.v [.st]),(1,.v [.r]),(3,.l [.I,.I,.I] aS),(8,.v [.I]),(9,.v [.I])]
def eE (a:ByteArray) (e:Addr) (f:Nat) (b c d g i:Int) (w:World) (R:aD):Prop:=cG P0 0 (X.Sem (bH [0,1,1,1,1])) a e f b c d g i w R
noncomputable def eN:=fU X (bH [0,1,1,1,1]) P0 eE
abbrev gm (a:ByteArray) (e:Addr) (f:Nat) (b c d g i:Int) (w:World) (R:aD):Prop:=
 eE a e f b c d g (IntKind.wrap .i64 (i+1)) w R
noncomputable def gG:=bK X [eN] (bH [3,2,1,1,1]) P0 gm
theorem aY:∀(c:ByteArray) (g:Addr) (l:Nat) (d e f u b:Int) (w:World) (R:aD) (h:aG (decide (b<u)) (∃j:Sl,w.cell? (g.add 0)=some (j.v)/\
 (0:Int)<=b/\b<((j.n:Nat):Int)/\aW j.a λo=>∃x:Int,w.cell? ((o.add (Int.toNat b *9)).add 0)=some (.i x)/\
 aG (x==0) (∃k:Sl,w.cell? (g.add 0)=some (k.v)/\
 (0:Int)<=b/\b<((k.n:Nat):Int)/\aW k.a λp=>∃y:ByteArray,w.cell? ((p.add (Int.toNat b *9)).add 5)=some (.string y)/\
 aG (y.toList==c.toList) (∃m:Sl,w.cell? (g.add 0)=some (m.v)/\
 (0:Int)<=b/\b<((m.n:Nat):Int)/\aW m.a λq=>dN w ((q.add (Int.toNat b *9)).add 6) λr s t=>loc [l] w λz=>R (.returned (.tuple #[.agg #[.i r,.i s,.i t],.bool true])) z) (gm c g l d e f u b w R)) (gm c g l d e f u b w R)) (loc [l] w λw7=>R (.returned (.tuple #[.agg #[.i 0,.i 0,.i 0],.bool false])) w7)),eE c g l d e f u b w R:=mp (cW (X:=X) [gG,eN] (bH [0,1,1,1,1]) P0)
theorem cU (a:ByteArray) (b:Addr) (w:World) (R:aD) (h:bE [] w λe d=>
 ∃c:Sl,d.cell? (b.add 0)=some (c.v)/\
 eE a b e 0 0 0 ((c.n:Nat):Int) 0 d R):Calls Tryz.prog mY #[.string a,.pointer (some b)] w R:=aM X [gG,eN] h
end term_SortOf_1
namespace term_SortOf
noncomputable abbrev X:Fx:=⟨Tryz.prog,Tryz.f12,[],[3,4]⟩
theorem cU (d:Sl) (e:Int) (f:Sl) (g j k:Int) (l:ByteArray) (m n o:Int) (w:World) (R:aD) (h:fH w (.cells #[d.v] eZ) λx=>
 bE [] x λq y=>
 bE [q] y λr t=>
 ∃s:Sl,t.cell? ((nb w).add 0)=some (s.v)/\
 g7 [q,r] oN #[s.v,.agg #[.i e,f.v,.i g,.i j,.u k,.string l,.i m,.i n,.i o],.func (.func mY) #[] #[.pointer (some (nb w))]] t λa b c p z=>loc [q,r] z λw7=>R (.returned (.tuple #[.agg #[.i a,.i b,.i c],.i p])) w7):Calls Tryz.prog kL #[.agg #[d.v],.agg #[.i e,f.v,.i g,.i j,.u k,.string l,.i m,.i n,.i o]] w R:=aM X [] h
end term_SortOf
namespace slices_Equal_sl_int_int
noncomputable abbrev X:Fx:=⟨Tryz.prog,Tryz.f128,[(6,ls [0,1,2,3,4,5,6,7,8])],[]⟩
abbrev P0:Ps:=[(0,.v [.s]),(1,.v [.s]),(12,.v [.I]),(13,.v [.I])]
def L0 (a b:Sl) (c d:Int) (w:World) (R:aD):Prop:=cG P0 0 (X.Sem (bH [0,1,1,1,2])) a b c d w R
noncomputable def eN:=fU X (bH [0,1,1,1,2]) P0 L0
theorem cC:∀(c d:Sl) (e b:Int) (w:World) (R:aD) (h:aG (decide (b<e)) (vQ w λj=>(0:Int)<=b/\b<((c.n:Nat):Int)/\aW c.a λf=>∃k:Int,j.cell? (f.add (Int.toNat b *1))=some (.i k)/\
 (0:Int)<=b/\b<((d.n:Nat):Int)/\aW d.a λg=>∃l:Int,j.cell? (g.add (Int.toNat b *1))=some (.i l)/\
 aG (k !=l) (R (.returned (.bool false)) j) (L0 c d e (IntKind.wrap .i64 (b+1)) j R)) (R (.returned (.bool true)) w)),L0 c d e b w R:=mp (cW (X:=X) [eN] (bH [0,1,1,1,2]) P0)
theorem ok (a b:Sl) (w:World) (R:aD) (h:aG (((a.n:Nat):Int) !=((b.n:Nat):Int)) (R (.returned (.bool false)) w) (L0 a b ((a.n:Nat):Int) 0 w R)):Calls Tryz.prog iW #[a.v,b.v] w R:=aM X [eN] h
end slices_Equal_sl_int_int
namespace term_sameNode
noncomputable abbrev X:Fx:=⟨Tryz.prog,Tryz.f92,[(1,ls [0,1,2,3,4,5,6,7,8,9,10,11,12,13,14,15,16,17,18,19,20,21,22,23,24,25,26,27,28,29,30,31,32,33,34,35,36,37,38,39,40,41,42,43,44,45,46,47,48,49,50,51,52,53,54,55,56,57,58,59,60,61,62,63,64,65,66,67,68,69,70,71,72,73,74,75])],[]⟩
theorem ok (b c:Addr) (w:World) (R:aD) (h:vQ w λa=>∃t8:Int,a.cell? (b.add 0)=some (.i t8)/\
 ∃e:Int,a.cell? (c.add 0)=some (.i e)/\
 aG (t8==e) (∃f:Int,a.cell? (b.add 2)=some (.i f)/\
 ∃g:Int,a.cell? (c.add 2)=some (.i g)/\
 aG (f==g) (∃j:Int,a.cell? (b.add 3)=some (.i j)/\
 ∃k:Int,a.cell? (c.add 3)=some (.i k)/\
 aG (j==k) (∃r:Int,a.cell? (b.add 4)=some (.u r)/\
 ∃s:Int,a.cell? (c.add 4)=some (.u s)/\
 aG (r==s) (dN a (b.add 6) λl m n=>dN a (c.add 6) λo p q=>aG ((l==o)&&((m==p)&&((n==q)&&true))) (∃t:Sl,a.cell? (b.add 1)=some (t.v)/\
 ∃x:Sl,a.cell? (c.add 1)=some (x.v)/\
 AR iW #[t.v,x.v] a λab d=>d.cell? (c.add 3)=some (.i k)/\d.cell? (b.add 3)=some (.i j)/\d.cell? (c.add 2)=some (.i g)/\d.cell? (b.add 2)=some (.i f)/\d.cell? (c.add 0)=some (.i e)/\d.cell? (b.add 0)=some (.i t8)/\aG ab (∃y:ByteArray,d.cell? (b.add 5)=some (.string y)/\
 ∃z:ByteArray,d.cell? (c.add 5)=some (.string z)/\
 R (.returned (.bool (y.toList==z.toList))) d) (R (.returned (.bool false)) d)) (R (.returned (.bool false)) a)) (R (.returned (.bool false)) a)) (R (.returned (.bool false)) a)) (R (.returned (.bool false)) a)) (R (.returned (.bool false)) a)):Calls Tryz.prog pw #[.pointer (some b),.pointer (some c)] w R:=aM X [] h
end term_sameNode
namespace term_search
noncomputable abbrev X:Fx:=⟨Tryz.prog,Tryz.f49,[],[2]⟩
abbrev P0:Ps:=[(1,.v [.r]),(2,.l [.s] eZ),(8,.v [.I]),(9,.v [.I])]
def eE (c:Addr) (b:Nat) (a:Sl) (d e:Int) (w:World) (R:aD):Prop:=cG P0 0 (X.Sem (bH [0,1,1,1,1])) c b a d e w R
noncomputable def eN:=fU X (bH [0,1,1,1,1]) P0 eE
theorem aY:∀(f:Addr) (e:Nat) (b:Sl) (g c:Int) (w:World) (R:aD) (h:aG (decide (c<g)) ((0:Int)<=c/\c<((b.n:Nat):Int)/\aW b.a λd=>jW [e] pw #[.pointer (some (d.add (Int.toNat c *9))),.pointer (some f)] w λj k=>aG j (R (.returned (.i c)) k) (eE f e b g (IntKind.wrap .i64 (c+1)) k R)) (R (.returned (.i (-1))) w)),eE f e b g c w R:=mp (cW (X:=X) [eN] (bH [0,1,1,1,1]) P0)
theorem cU (a:Sl) (b:Addr) (w:World) (R:aD) (h:bE [] w λc d=>
 eE b c a ((a.n:Nat):Int) 0 d R):Calls Tryz.prog oM #[.agg #[a.v],.pointer (some b)] w R:=aM X [eN] h
end term_search
namespace slices_Clone_sl_int_int
noncomputable abbrev X:Fx:=⟨Tryz.prog,Tryz.f50,[],[]⟩
theorem ok (b:Sl) (w:World) (R:aD) (h:aG b.a.isNone (R (.returned (.slice none 0 0)) w) (fH w (.cells #[] bP) λe=>
 ∃(c:Sl) (d:World),Sem.run Tryz.prog (Builtin.append_ #[dK,dK] dK #[.slice (some (nb w)) 0 0,b.v]) e=.ok (c.v) d/\R (.returned (c.v)) d)):Calls Tryz.prog iV #[b.v] w R:=aM X [] h
end slices_Clone_sl_int_int
namespace term_Add
noncomputable abbrev X:Fx:=⟨Tryz.prog,Tryz.f14,[(14,ls [0,1,2,3,4,5,6,7])],[2,4,7]⟩
theorem cU (b:Sl) (s:Int) (t:Sl) (x y z:Int) (aa:ByteArray) (ab ac ad:Int) (w:World) (R:aD) (h:bE [] w λc g=>
 fH g (.cells #[.i s,t.v,.i x,.i y,.u z,.string aa,.i ab,.i ac,.i ad] aE) λw2=>
 bE [c] w2 λd w3=>
 tt w3 (nb g) λap aq ar au av aw ax ay az=>g7 [c,d] kL #[.agg #[b.v],.agg #[.i ap,aq.v,.i ar,.i au,.u av,.string aw,.i ax,.i ay,.i az]] w3 λp q r l w4=>bE [c,d] w4 λf w5=>
 aG (l !=0) (loc [c,d,f] w5 λw9=>R (.returned (.tuple #[.agg #[.slice none 0 0],.i 0,.i l])) w9) (loc [c,d,f] w5 λw8=>bT w8 ((nb g).add 6) (.i p) λae=>kept [c,d,f] w8 ae/\
 bT ae (((nb g).add 6).add 1) (.i q) λaf=>kept [c,d,f] ae af/\
 bT af (((nb g).add 6).add 2) (.i r) λbn=>kept [c,d,f] af bn/\
 nJ [c,d,f] oM #[.agg #[b.v],.pointer (some (nb g))] bn λbk m=>aG (decide (bk>=0)) (loc [c,d,f] m λbs=>R (.returned (.tuple #[.agg #[b.v],.i bk,.i 0])) bs) (aG (decide (((b.n:Nat):Int)>=4096)) (loc [c,d,f] m λbt=>R (.returned (.tuple #[.agg #[.slice none 0 0],.i 0,.i 4])) bt) (∃bm:Sl,m.cell? ((nb g).add 1)=some (bm.v)/\
 Sd [c,d,f] iV #[bm.v] m λbq bo=>bT bo ((nb g).add 1) (bq.v) λag=>kept [c,d,f] bo ag/\
 ∃(j:Sl) (o:World),Sem.run Tryz.prog (Instr.makeSlice bB (.i (IntKind.wrap .i64 (((b.n:Nat):Int)+1))) (.i (IntKind.wrap .i64 (((b.n:Nat):Int)+1)))) ag=.ok (j.v) o/\kept [c,d,f] ag o/\∃(br:Int) (k:World),Sem.run Tryz.prog (Builtin.copy_ #[bB,bB] bP #[j.v,b.v]) o=.ok (.i br) k/\kept [c,d,f] o k/\tt k (nb g) λbb bc bd be bf bg bh bi bj=>(0:Int)<=((b.n:Nat):Int)/\((b.n:Nat):Int)<((j.n:Nat):Int)/\aW j.a λe=>bT k (e.add (Int.toNat ((b.n:Nat):Int) *9)) (.i bb) λah=>kept [c,d,f] k ah/\
 bT ah ((e.add (Int.toNat ((b.n:Nat):Int) *9)).add 1) (bc.v) λai=>kept [c,d,f] ah ai/\
 bT ai ((e.add (Int.toNat ((b.n:Nat):Int) *9)).add 2) (.i bd) λaj=>kept [c,d,f] ai aj/\
 bT aj ((e.add (Int.toNat ((b.n:Nat):Int) *9)).add 3) (.i be) λak=>kept [c,d,f] aj ak/\
 bT ak ((e.add (Int.toNat ((b.n:Nat):Int) *9)).add 4) (.u bf) λal=>kept [c,d,f] ak al/\
 bT al ((e.add (Int.toNat ((b.n:Nat):Int) *9)).add 5) (.string bg) λam=>kept [c,d,f] al am/\
 bT am ((e.add (Int.toNat ((b.n:Nat):Int) *9)).add 6) (.i bh) λan=>kept [c,d,f] am an/\
 bT an ((e.add (Int.toNat ((b.n:Nat):Int) *9)).add 7) (.i bi) λao=>kept [c,d,f] an ao/\
 bT ao ((e.add (Int.toNat ((b.n:Nat):Int) *9)).add 8) (.i bj) λbp=>kept [c,d,f] ao bp/\
 loc [c,d,f] bp λbv=>R (.returned (.tuple #[.agg #[j.v],.i ((b.n:Nat):Int),.i 0])) bv)))):Calls Tryz.prog qo #[.agg #[b.v],.agg #[.i s,t.v,.i x,.i y,.u z,.string aa,.i ab,.i ac,.i ad]] w R:=aM X [] h
end term_Add
namespace regex_small
noncomputable abbrev X:Fx:=⟨Tryz.prog,Tryz.f184,[],[]⟩
theorem ok (a:Int) (w:World) (R:aD) (h:aG (decide (a>=97)) (R (.returned (.bool (decide (a<=122)))) w) (R (.returned (.bool false)) w)):Calls Tryz.prog kK #[.int .u8 a] w R:=aM X [] h
end regex_small
namespace regex_plain
noncomputable abbrev X:Fx:=⟨Tryz.prog,Tryz.f199,[],[]⟩
theorem ok (a:Int) (w:World) (R:aD) (h:aG (decide (a>=32)) (aG (decide (a<=126)) (aG (a !=39) (R (.returned (.bool (a !=92))) w) (R (.returned (.bool false)) w)) (R (.returned (.bool false)) w)) (R (.returned (.bool false)) w)):Calls Tryz.prog oL #[.int .u8 a] w R:=aM X [] h
end regex_plain
namespace strings_IndexByte
noncomputable abbrev X:Fx:=⟨Tryz.prog,Tryz.f183,[],[]⟩
theorem ok (b:ByteArray) (a:Int) (w:World) (R:aD) (h:BF gB #[.string b,.int .u8 a] w λc d=>R (.returned (.i c)) d):Calls Tryz.prog ia #[.string b,.int .u8 a] w R:=aM X [] h
end strings_IndexByte
namespace internal_stringslite_IndexByte
noncomputable abbrev X:Fx:=⟨Tryz.prog,Tryz.f198,[],[]⟩
theorem ok (b:ByteArray) (a:Int) (w:World) (R:aD) (h:∃c:Int,∃d:World,Sem.run Tryz.prog (callFunc eD #[.string b,.int .u8 a]) w=.ok (.value (.i c)) d/\
 R (.returned (.i c)) d):Calls Tryz.prog gB #[.string b,.int .u8 a] w R:=aM X [] h
end internal_stringslite_IndexByte
namespace regex_byteAt
noncomputable abbrev X:Fx:=⟨Tryz.prog,Tryz.f185,[(4,ls [0,1,2,3,5,6,7,8,4,9,10,11])],[]⟩
abbrev P0:Ps:=[]
abbrev S1 (w:World) (R:aD):Prop:=
 R (.returned (.tuple #[.int .u8 0,.i 0,.bool false])) w
noncomputable def gG:=bK X [] (bH [3]) P0 S1
abbrev P1:Ps:=[(0,.v [.st]),(1,.v [.I])]
abbrev S0 (f:ByteArray) (a:Int) (w:World) (R:aD):Prop:=
 aG (decide ((IntKind.wrap .i64 (a+3))<((f.size:Nat):Int))) ((0:Int)<=a/\∃b:UInt8,f[Int.toNat a]? =some b/\aG (((b.toNat:Nat):Int)==92) ((0:Int)<=(IntKind.wrap .i64 (a+1))/\∃c:UInt8,f[Int.toNat (IntKind.wrap .i64 (a+1))]? =some c/\aG (((c.toNat:Nat):Int)==120) (vQ w λl=>(0:Int)<=(IntKind.wrap .i64 (a+2))/\∃d:UInt8,f[Int.toNat (IntKind.wrap .i64 (a+2))]? =some d/\(0:Int)<=(IntKind.wrap .i64 (a+3))/\∃e:UInt8,f[Int.toNat (IntKind.wrap .i64 (a+3))]? =some e/\BF ia #[.string (ByteArray.mk #[48,49,50,51,52,53,54,55,56,57,97,98,99,100,101,102]),.int .u8 ((d.toNat:Nat):Int)] l λg m=>BF ia #[.string (ByteArray.mk #[48,49,50,51,52,53,54,55,56,57,97,98,99,100,101,102]),.int .u8 ((e.toNat:Nat):Int)] m λj k=>aG (decide (g>=0)) (aG (decide (j>=0)) (R (.returned (.tuple #[.int .u8 (IntKind.wrap .u8 (WI .i64 (IntKind.wrap .i64 (g *2^(4))) j)),.i 4,.bool true])) k) (S1 k R)) (S1 k R)) (S1 w R)) (S1 w R)) (S1 w R)
noncomputable def fA:=bK X [gG] (bH [2]) P1 S0
theorem ok (b:ByteArray) (a:Int) (w:World) (R:aD) (h:aG (decide ((IntKind.wrap .i64 (a+2))<((b.size:Nat):Int))) ((0:Int)<=a/\∃c:UInt8,b[Int.toNat a]? =some c/\aG (((c.toNat:Nat):Int)==39) ((0:Int)<=(IntKind.wrap .i64 (a+1))/\∃d:UInt8,b[Int.toNat (IntKind.wrap .i64 (a+1))]? =some d/\AR oL #[.int .u8 ((d.toNat:Nat):Int)] w λj g=>aG j ((0:Int)<=(IntKind.wrap .i64 (a+2))/\∃e:UInt8,b[Int.toNat (IntKind.wrap .i64 (a+2))]? =some e/\aG (((e.toNat:Nat):Int)==39) ((0:Int)<=(IntKind.wrap .i64 (a+1))/\∃f:UInt8,b[Int.toNat (IntKind.wrap .i64 (a+1))]? =some f/\R (.returned (.tuple #[.int .u8 ((f.toNat:Nat):Int),.i 3,.bool true])) g) (S0 b a g R)) (S0 b a g R)) (S0 b a w R)) (S0 b a w R)):Calls Tryz.prog lN #[.string b,.i a] w R:=aM X [fA,gG] h
end regex_byteAt
namespace regex_tokenAt
noncomputable abbrev X:Fx:=⟨Tryz.prog,Tryz.f156,[],[4]⟩
abbrev P0:Ps:=[(0,.v [.st]),(1,.v [.I]),(4,.l [.Y,.Y,.Y,.st,.I] fN),(7,.v [.I])]
def mD (i:ByteArray) (f:Int) (j:Nat) (a b c:Int) (d:ByteArray) (e g:Int) (w:World) (R:aD):Prop:=cG P0 0 (X.Sem (bH [0,2,1,1,3,2,2])) i f j a b c d e g w R
noncomputable def lu:=fU X (bH [0,2,1,1,3,2,2]) P0 mD
abbrev fB (c:ByteArray) (a:Int) (d:Nat) (e f g:Int) (j:ByteArray) (k b:Int) (w:World) (R:aD):Prop:=
 (0:Int)<=b/\b<=((c.size:Nat):Int)/\(0:Int)<=a/\a<=(((Int.toNat b):Nat):Int)/\loc [d] w λl=>R (.returned (.tuple #[.agg #[.int .u8 119,.int .u8 0,.int .u8 0,.string (c.extract (Int.toNat a) (Int.toNat b)),.i a],.i (IntKind.wrap .i64 (b - a))])) l
noncomputable def fX:=bK X [lu] (bH [2,1,3,2,2]) P0 fB
theorem dM:∀(i:ByteArray) (k:Int) (j:Nat) (a b c:Int) (d:ByteArray) (e f:Int) (w:World) (R:aD) (h:aG (decide (f<((i.size:Nat):Int))) ((0:Int)<=f/\∃g:UInt8,i[Int.toNat f]? =some g/\jW [j] kK #[.int .u8 ((g.toNat:Nat):Int)] w λl m=>aG l (mD i k j a b c d e (IntKind.wrap .i64 (f+1)) m R) (fB i k j a b c d e f m R)) (fB i k j a b c d e f w R)),mD i k j a b c d e f w R:=mp (cW (X:=X) [fX,lu] (bH [0,2,1,1,3,2,2]) P0)
abbrev P1:Ps:=[(1,.v [.I]),(4,.l [.Y,.Y,.Y,.st,.I] fN)]
abbrev qb (a:Int) (b:Nat) (c d e:Int) (f:ByteArray) (g:Int) (w:World) (R:aD):Prop:=
 loc [b] w λj=>R (.returned (.tuple #[.agg #[.int .u8 63,.int .u8 0,.int .u8 0,.s0,.i a],.i 1])) j
noncomputable def mE:=bK X [fX,lu] (bH [3]) P1 qb
abbrev P2:Ps:=[(0,.v [.st]),(1,.v [.I]),(4,.l [.Y,.Y,.Y,.st,.I] fN),(8,.v [.Y]),(10,.v [.b]),(11,.v [.I]),(12,.v [.Y])]
abbrev CC (o:ByteArray) (j:Int) (l:Nat) (a b c:Int) (d:ByteArray) (e m:Int) (n:Bool) (g k:Int) (w:World) (R:aD):Prop:=
 aG (!n) (qb j l a b c d e w R) (aG (decide (g>=((o.size:Nat):Int))) (qb j l a b c d e w R) ((0:Int)<=g/\∃f:UInt8,o[Int.toNat g]? =some f/\aG (((f.toNat:Nat):Int) !=93) (qb j l a b c d e w R) (aG (decide (m>k)) (qb j l a b c d e w R) (loc [l] w λp=>R (.returned (.tuple #[.agg #[.int .u8 114,.int .u8 m,.int .u8 k,.s0,.i j],.i (IntKind.wrap .i64 ((IntKind.wrap .i64 (g+1)) - j))])) p))))
noncomputable def uk:=bK X [mE,fX,lu] (bH [5,1,5,2,2]) P2 CC
abbrev P3:Ps:=[(0,.v [.st]),(1,.v [.I]),(4,.l [.Y,.Y,.Y,.st,.I] fN),(8,.v [.Y]),(10,.v [.b]),(11,.v [.I])]
abbrev ic (l:ByteArray) (k:Int) (j:Nat) (a b c:Int) (d:ByteArray) (e q:Int) (p:Bool) (f:Int) (w:World) (R:aD):Prop:=
 aG (!p) (qb k j a b c d e w R) (aG (decide (f>=((l.size:Nat):Int))) (qb k j a b c d e w R) ((0:Int)<=f/\∃g:UInt8,l[Int.toNat f]? =some g/\aG (((g.toNat:Nat):Int) !=45) (qb k j a b c d e w R) (Z' [j] lN #[.string l,.i (IntKind.wrap .i64 (f+1))] w λm n o r=>CC l k j a b c d e q o (IntKind.wrap .i64 (f+(IntKind.wrap .i64 (1+n)))) m r R)))
noncomputable def jc:=bK X [uk,mE,fX,lu] (bH [2,1,5,2,2]) P3 ic
abbrev P4:Ps:=[(0,.v [.st]),(1,.v [.I]),(4,.l [.Y,.Y,.Y,.st,.I] fN),(6,.v [.Y])]
abbrev dV (l:ByteArray) (a:Int) (b:Nat) (c d e:Int) (f:ByteArray) (g k:Int) (w:World) (R:aD):Prop:=
 nJ [b] ia #[.string (ByteArray.mk #[40,41,44,124,38,33,42]),.int .u8 k] w λt v=>aG (decide (t>=0)) (loc [b] v λy=>R (.returned (.tuple #[.agg #[.int .u8 k,.int .u8 0,.int .u8 0,.s0,.i a],.i 1])) y) (jW [b] kK #[.int .u8 k] v λu s=>aG u (mD l a b c d e f g a s R) (aG (k==91) (Z' [b] lN #[.string l,.i (IntKind.wrap .i64 (a+1))] s λo p q z=>ic l a b c d e f g o q (IntKind.wrap .i64 ((IntKind.wrap .i64 (a+1))+p)) z R) (Z' [b] lN #[.string l,.i a] s λj m n r=>aG n (loc [b] r λx=>R (.returned (.tuple #[.agg #[.int .u8 114,.int .u8 j,.int .u8 j,.s0,.i a],.i m])) x) (qb a b c d e f g r R))))
noncomputable def fA:=bK X [jc,uk,mE,fX,lu] (bH [2]) P4 dV
theorem cU (c:ByteArray) (b:Int) (w:World) (R:aD) (h:bE [] w λd e=>
 (0:Int)<=b/\∃a:UInt8,c[Int.toNat b]? =some a/\dV c b d 0 0 0 (ByteArray.mk #[]) 0 ((a.toNat:Nat):Int) e R):Calls Tryz.prog pq #[.string c,.i b] w R:=aM X [fA,jc,uk,mE,fX,lu] h
end regex_tokenAt
namespace regex_tokens_1
noncomputable def C0:Code:=(Tryz.f155.body).getD .skip
noncomputable def C1:=C0.fs
noncomputable def C2:=C1.sn
noncomputable def C3:=C2.fs
noncomputable def C4:=C3.fs
noncomputable def C5:=C0.sn
abbrev Q0 (R:aD):Pb:=(Exit.then (AW Tryz.prog (cx 39) C5 (bodyPost Tryz.prog Tryz.f155 R)) (bodyPost Tryz.prog Tryz.f155 R))
abbrev Q1 (R:aD):Pb:=(Exit.inBlock 0 (Q0 R))
def L0 (a:Nat) (c:Addr) (b:Int) (w:World) (R:aD):Prop:=LP Tryz.prog (cx 39) C4 (Q1 R) [(0,.func (.yield a) #[] #[]),(1,.pointer (some c)),(3,.i b)] w
def IE (E:Env) (w:World) (R:aD):Prop:=W.CK (Env.get? E 0) λa=>W.gL (Env.get? E 1) λc=>W.asInt .i64 (Env.get? E 3) λb=>L0 a c b w R
theorem y5:LOk Tryz.prog 39 IE C4 Q1:=by
 intro R E w h
 obtain ⟨aa1,KL,De⟩:=W.CL h
 obtain ⟨t1,hq1,Df⟩:=W.bQ De
 obtain ⟨i3,Dk,EN⟩:=W.oy Df
 intro a ha
 exact EN a (ha.cons KL (ha.cons hq1 (ha.cons Dk ha.nil)))
noncomputable def C6:=C4.fs
noncomputable def C7:=C4.sn
noncomputable def C8:=C7.fs
noncomputable def C9:=C8.fs
noncomputable def RS:=C9.sn
noncomputable def O9:=RS.fs
noncomputable def V0:=C8.sn
noncomputable def V1:=V0.sn
noncomputable def V2:=V1.fs
noncomputable def Ww:=V1.sn
noncomputable def O':=C6.sn
noncomputable def V3:=O'.fs
noncomputable def T1:=O9.sn
noncomputable def V4:=RS.sn
noncomputable def Pa:=V2.sn
noncomputable def RT:=Pa.fs
noncomputable def YM:=Pa.sn
noncomputable def YN:=O'.sn
theorem cC (d:Nat) (g:Addr) (f:Int) (w:World) (R:aD) (h:∃t7:ByteArray,w.cell? g=some (.string t7)/\
 aG (decide (f<((t7.size:Nat):Int))) (∃z:ByteArray,w.cell? g=some (.string z)/\
 (0:Int)<=f/\∃j:UInt8,z[Int.toNat f]? =some j/\aG (((j.toNat:Nat):Int)==32) (L0 d g (IntKind.wrap .i64 (f+1)) w R) (∃aa:ByteArray,w.cell? g=some (.string aa)/\
 ca8 pq #[.string aa,.i f] w λk l m o p q y=>fH y (.cells #[.int .u8 0,.int .u8 0,.int .u8 0,.s0,.i 0] fN) λw2=>
 Yt w2 (nb y) (.int .u8 k) (.int .u8 l) (.int .u8 m) (.string o) (.i p) λw7=>SR w7 (nb y) λr s t u x=>xY Tryz.prog d #[.agg #[.int .u8 r,.int .u8 s,.int .u8 t,.string u,.i x]] w7 λ(ad:Bool) w8=>aG (!ad) (R (.returned (.tuple #[])) w8) (∃ab:Int,w8.cell? ((nb y).add 0)=some (.int .u8 ab)/\
 aG (ab==63) (R (.returned (.tuple #[])) w8) (L0 d g (IntKind.wrap .i64 (f+q)) w8 R)))) (∃ac:ByteArray,w.cell? g=some (.string ac)/\
 xY Tryz.prog d #[.agg #[.int .u8 36,.int .u8 0,.int .u8 0,.s0,.i ((ac.size:Nat):Int)]] w λ(ah:Bool) w9=>R (.returned (.tuple #[])) w9)):L0 d g f w R:=
 LP.step (n:=(cx 39)) (c:=C4) (E:=[(0,.func (.yield d) #[] #[]),(1,.pointer (some g)),(3,.i f)]) (w:=w) (sq C4 (sr C6 (show (λ(E:Env) (w:World)=>yL Tryz.prog C6 (λE w=>qk (Env.val E (.tmp 9)) (yL Tryz.prog C9 (λE w=>qk (Env.val E (.tmp 13)) (yL Tryz.prog O9 (λE w=>IE E w R) E w) (yL Tryz.prog V0 (λE w=>yL Tryz.prog V2 (λE w=>qk (Env.val E (.tmp 30)) (rC Tryz.prog Tryz.f155 E w (λv=>R (.returned v) w)) (Zn Tryz.prog Ww (λE w=>IE E w R) E w)) E w) E w)) E w) (Zn Tryz.prog C5 (λE w=>rC Tryz.prog Tryz.f155 E w (λv=>R (.returned v) w)) E w)) E w) [(0,.func (.yield d) #[] #[]),(1,.pointer (some g)),(3,.i f)] w from mp h) λ_ _ b=>(cn O' b (λb=>(sk V3 λa e=>nx e (bk C7 1 (by kernel_rfl) (sq C8 (sr C9 b λ_ _ b=>(cn RS b (λb=>(sr O9 b λ_ _ b=>(xt T1 1 (by kernel_rfl) λa e=>y5 R _ _ b a e))) (λb=>(sk V4 λa e=>nx e (sr V0 b λ_ _ b=>(sq V1 (sr V2 b λ_ _ b=>(cn Pa b (λb=>(rt RT λa e=>oY e b)) (λb=>(sk YM λa e=>nx e (rg Ww (by kernel_rfl) b λ_ _ a e b=>y5 R _ _ b a e))))))))))))))) (λb=>(xt YN 0 (by kernel_rfl) λa e=>nx e (rg C5 (by kernel_rfl) b λ_ _ a e b=>oY e b))))))
theorem ok (a:Nat) (b:Addr) (w:World) (R:aD) (h:L0 a b 0 w R):Calls Tryz.prog fW #[.func (.yield a) #[] #[],.pointer (some b)] w R:=
 pN (R:=R) (fn:=Tryz.f155) (c:=C0) (args:=[.func (.yield a) #[] #[],.pointer (some b)]) (by kernel_rfl) (by kernel_rfl) (by kernel_rfl) (sq C0 (sr C1 (show (λ(E:Env) (w:World)=>yL Tryz.prog C1 (λE w=>IE E w R) E w) (sy 0 [.func (.yield a) #[] #[],.pointer (some b)]) w from mp h) λ_ _ d=>(bk C2 0 (by kernel_rfl) (lp C3 (by kernel_rfl) (y5 R _ _ d)))))
end regex_tokens_1
namespace regex_tokens
noncomputable abbrev X:Fx:=⟨Tryz.prog,Tryz.f142,[],[]⟩
theorem ok (a:ByteArray) (w:World) (R:aD) (h:fH w (.cells #[.string a] cJ) λb=>
 R (.returned (.func (.func fW) #[] #[.pointer (some (nb w))])) b):Calls Tryz.prog tw #[.string a] w R:=aM X [] h
end regex_tokens
namespace regex_one
noncomputable abbrev X:Fx:=⟨Tryz.prog,Tryz.f163,[],[4]⟩
theorem cU (c:Int) (b:Sl) (w:World) (R:aD) (h:bE [] w λl k=>
 aG (((b.n:Nat):Int)==1) ((0:Int)<=0/\0<((b.n:Nat):Int)/\aW b.a λj=>bY k (j.add (Int.toNat 0 *4)) λd e f g=>loc [l] k λm=>R (.returned (.agg #[.i d,.int .u8 e,.int .u8 f,g.v])) m) (loc [l] k λo=>R (.returned (.agg #[.i c,.int .u8 0,.int .u8 0,b.v])) o)):Calls Tryz.prog jk #[.i c,b.v] w R:=aM X [] h
end regex_one
namespace regex_frame_endItem
noncomputable abbrev X:Fx:=⟨Tryz.prog,Tryz.f162,[(4,(.sq [0,1,2,3,4,5,6,7,8,10,11] (.fork (ls [9,12]) (ls [12,9]))))],[2]⟩
abbrev P0:Ps:=[(0,.v [.r]),(2,.l [.I,.Y,.Y,.s] aB)]
def eE (e:Addr) (f:Nat) (a b c:Int) (d:Sl) (w:World) (R:aD):Prop:=cG P0 0 (X.Sem (bH [0,2,1])) e f a b c d w R
noncomputable def eN:=fU X (bH [0,2,1]) P0 eE
theorem aY:∀(f:Addr) (d:Nat) (g j k:Int) (l:Sl) (w:World) (R:aD) (h:∃ab:Int,w.cell? (f.add 5)=some (.i ab)/\
 aG (decide (ab>0)) (fH w (.cells #[.i g,.int .u8 j,.int .u8 k,l.v] aB) λw6=>
 loc [d] w6 λo=>∃ac:Int,o.cell? (f.add 5)=some (.i ac)/\
 bT o (f.add 5) (.i (IntKind.wrap .i64 (ac - 1))) λad=>kept [d] o ad/\
 eE f d 6 0 0 ⟨some (nb w),1,1⟩ ad R) (loc [d] w λp=>∃c:Sl,p.cell? (f.add 4)=some (c.v)/\
 fH p (.cells #[.i 0,.int .u8 0,.int .u8 0,.slice none 0 0] aB) λq=>
 q.cell? (f.add 4)=some (c.v)/\∃(m:Sl) (e:World),Sem.run Tryz.prog (Builtin.append_ #[aF,aF] aF #[c.v,.slice (some (nb p)) 1 1]) q=.ok (m.v) e/\kept [d] q e/\(0:Int)<=((c.n:Nat):Int)/\((c.n:Nat):Int)<((m.n:Nat):Int)/\aW m.a λb=>((bT e (b.add (Int.toNat ((c.n:Nat):Int) *4)) (.i g) λr=>kept [d] e r/\
 bT r ((b.add (Int.toNat ((c.n:Nat):Int) *4)).add 1) (.int .u8 j) λs=>kept [d] r s/\
 bT s ((b.add (Int.toNat ((c.n:Nat):Int) *4)).add 2) (.int .u8 k) λt=>kept [d] s t/\
 bT t ((b.add (Int.toNat ((c.n:Nat):Int) *4)).add 3) (l.v) λu=>kept [d] t u/\
 bT u (f.add 4) (m.v) λae=>kept [d] u ae/\
 R (.returned (.tuple #[])) ae)/\(bT e (f.add 4) (m.v) λx=>kept [d] e x/\
 bT x (b.add (Int.toNat ((c.n:Nat):Int) *4)) (.i g) λy=>kept [d] x y/\
 bT y ((b.add (Int.toNat ((c.n:Nat):Int) *4)).add 1) (.int .u8 j) λz=>kept [d] y z/\
 bT z ((b.add (Int.toNat ((c.n:Nat):Int) *4)).add 2) (.int .u8 k) λaa=>kept [d] z aa/\
 bT aa ((b.add (Int.toNat ((c.n:Nat):Int) *4)).add 3) (l.v) λaf=>kept [d] aa af/\
 R (.returned (.tuple #[])) af)))),eE f d g j k l w R:=mp (cW (X:=X) [eN] (bH [0,2,1]) P0)
theorem cU (a:Addr) (w:World) (R:aD) (h:bY w (a.add 6) λb c d e=>bE [] w λf g=>
 loc [f] g λi=>eE a f b c d e i R):Calls Tryz.prog iN #[.pointer (some a)] w R:=aM X [eN] h
end regex_frame_endItem
namespace regex_frame_endSeq
noncomputable abbrev X:Fx:=⟨Tryz.prog,Tryz.f160,[(1,(.sq [0,1,2,3,4,5,6,7,9] (.fork (.sq [8,10,11,12,14,15] (.fork (ls [13,16]) (ls [16,13]))) (.sq [10,8,11,12,14,15] (.fork (ls [13,16]) (ls [16,13]))))))],[]⟩
abbrev P0:Ps:=[(0,.v [.r])]
abbrev S0 (a:Addr) (w:World) (R:aD):Prop:=
 bT w (a.add 4) (.slice none 0 0) λb=>
 R (.returned (.tuple #[])) b
noncomputable def fA:=bK X [] (bH [2]) P0 S0
theorem ok (d:Addr) (w:World) (R:aD) (h:yE iN #[.pointer (some d)] w λw1=>vQ w1 λx=>∃c:Sl,x.cell? (d.add 3)=some (c.v)/\
 ∃o:Sl,x.cell? (d.add 4)=some (o.v)/\
 ((MF jk #[.i 3,o.v] x λp q r s z=>z.cell? (d.add 3)=some (c.v)/\fH z (.cells #[.i 0,.int .u8 0,.int .u8 0,.slice none 0 0] aB) λw4=>
 w4.cell? (d.add 3)=some (c.v)/\∃(m:Sl) (w5:World),Sem.run Tryz.prog (Builtin.append_ #[aF,aF] aF #[c.v,.slice (some (nb z)) 1 1]) w4=.ok (m.v) w5/\(0:Int)<=((c.n:Nat):Int)/\((c.n:Nat):Int)<((m.n:Nat):Int)/\aW m.a λf=>((q7 w5 (f.add (Int.toNat ((c.n:Nat):Int) *4)) (.i p) (.int .u8 q) (.int .u8 r) (s.v) λw9=>bT w9 (d.add 3) (m.v) λab=>
 S0 d ab R)/\(bT w5 (d.add 3) (m.v) λac=>
 bT ac (f.add (Int.toNat ((c.n:Nat):Int) *4)) (.i p) λad=>
 bT ad ((f.add (Int.toNat ((c.n:Nat):Int) *4)).add 1) (.int .u8 q) λae=>
 bT ae ((f.add (Int.toNat ((c.n:Nat):Int) *4)).add 2) (.int .u8 r) λaf=>
 bT af ((f.add (Int.toNat ((c.n:Nat):Int) *4)).add 3) (s.v) λag=>
 S0 d ag R)))/\(fH x (.cells #[.i 0,.int .u8 0,.int .u8 0,.slice none 0 0] aB) λt=>
 t.cell? (d.add 4)=some (o.v)/\t.cell? (d.add 3)=some (c.v)/\MF jk #[.i 3,o.v] t λg j k l y=>y.cell? (d.add 3)=some (c.v)/\∃(e:Sl) (u:World),Sem.run Tryz.prog (Builtin.append_ #[aF,aF] aF #[c.v,.slice (some (nb x)) 1 1]) y=.ok (e.v) u/\(0:Int)<=((c.n:Nat):Int)/\((c.n:Nat):Int)<((e.n:Nat):Int)/\aW e.a λb=>((q7 u (b.add (Int.toNat ((c.n:Nat):Int) *4)) (.i g) (.int .u8 j) (.int .u8 k) (l.v) λah=>bT ah (d.add 3) (e.v) λai=>
 S0 d ai R)/\(bT u (d.add 3) (e.v) λaj=>
 bT aj (b.add (Int.toNat ((c.n:Nat):Int) *4)) (.i g) λak=>
 bT ak ((b.add (Int.toNat ((c.n:Nat):Int) *4)).add 1) (.int .u8 j) λal=>
 bT al ((b.add (Int.toNat ((c.n:Nat):Int) *4)).add 2) (.int .u8 k) λam=>
 bT am ((b.add (Int.toNat ((c.n:Nat):Int) *4)).add 3) (l.v) λan=>
 S0 d an R))))):Calls Tryz.prog jj #[.pointer (some d)] w R:=aM X [fA] h
end regex_frame_endSeq
namespace regex_frame_endConj
noncomputable abbrev X:Fx:=⟨Tryz.prog,Tryz.f161,[(1,(.sq [0,1,2,3,4,5,6,7,9] (.fork (.sq [8,10,11,12,14,15] (.fork (ls [13,16]) (ls [16,13]))) (.sq [10,8,11,12,14,15] (.fork (ls [13,16]) (ls [16,13]))))))],[]⟩
abbrev P0:Ps:=[(0,.v [.r])]
abbrev S0 (a:Addr) (w:World) (R:aD):Prop:=
 bT w (a.add 3) (.slice none 0 0) λb=>
 R (.returned (.tuple #[])) b
noncomputable def fA:=bK X [] (bH [2]) P0 S0
theorem ok (d:Addr) (w:World) (R:aD) (h:yE jj #[.pointer (some d)] w λw1=>vQ w1 λx=>∃c:Sl,x.cell? (d.add 2)=some (c.v)/\
 ∃o:Sl,x.cell? (d.add 3)=some (o.v)/\
 ((MF jk #[.i 5,o.v] x λp q r s z=>z.cell? (d.add 2)=some (c.v)/\fH z (.cells #[.i 0,.int .u8 0,.int .u8 0,.slice none 0 0] aB) λw4=>
 w4.cell? (d.add 2)=some (c.v)/\∃(m:Sl) (w5:World),Sem.run Tryz.prog (Builtin.append_ #[aF,aF] aF #[c.v,.slice (some (nb z)) 1 1]) w4=.ok (m.v) w5/\(0:Int)<=((c.n:Nat):Int)/\((c.n:Nat):Int)<((m.n:Nat):Int)/\aW m.a λf=>((q7 w5 (f.add (Int.toNat ((c.n:Nat):Int) *4)) (.i p) (.int .u8 q) (.int .u8 r) (s.v) λw9=>bT w9 (d.add 2) (m.v) λab=>
 S0 d ab R)/\(bT w5 (d.add 2) (m.v) λac=>
 bT ac (f.add (Int.toNat ((c.n:Nat):Int) *4)) (.i p) λad=>
 bT ad ((f.add (Int.toNat ((c.n:Nat):Int) *4)).add 1) (.int .u8 q) λae=>
 bT ae ((f.add (Int.toNat ((c.n:Nat):Int) *4)).add 2) (.int .u8 r) λaf=>
 bT af ((f.add (Int.toNat ((c.n:Nat):Int) *4)).add 3) (s.v) λag=>
 S0 d ag R)))/\(fH x (.cells #[.i 0,.int .u8 0,.int .u8 0,.slice none 0 0] aB) λt=>
 t.cell? (d.add 3)=some (o.v)/\t.cell? (d.add 2)=some (c.v)/\MF jk #[.i 5,o.v] t λg j k l y=>y.cell? (d.add 2)=some (c.v)/\∃(e:Sl) (u:World),Sem.run Tryz.prog (Builtin.append_ #[aF,aF] aF #[c.v,.slice (some (nb x)) 1 1]) y=.ok (e.v) u/\(0:Int)<=((c.n:Nat):Int)/\((c.n:Nat):Int)<((e.n:Nat):Int)/\aW e.a λb=>((q7 u (b.add (Int.toNat ((c.n:Nat):Int) *4)) (.i g) (.int .u8 j) (.int .u8 k) (l.v) λah=>bT ah (d.add 2) (e.v) λai=>
 S0 d ai R)/\(bT u (d.add 2) (e.v) λaj=>
 bT aj (b.add (Int.toNat ((c.n:Nat):Int) *4)) (.i g) λak=>
 bT ak ((b.add (Int.toNat ((c.n:Nat):Int) *4)).add 1) (.int .u8 j) λal=>
 bT al ((b.add (Int.toNat ((c.n:Nat):Int) *4)).add 2) (.int .u8 k) λam=>
 bT am ((b.add (Int.toNat ((c.n:Nat):Int) *4)).add 3) (l.v) λan=>
 S0 d an R))))):Calls Tryz.prog iM #[.pointer (some d)] w R:=aM X [fA] h
end regex_frame_endConj
namespace regex_frame_endExpr
noncomputable abbrev X:Fx:=⟨Tryz.prog,Tryz.f145,[],[2,3]⟩
theorem cU (b:Addr) (w:World) (R:aD) (h:bE [] w λa o=>
 Se [a] iM #[.pointer (some b)] o λl=>∃j:Sl,l.cell? (b.add 2)=some (j.v)/\
 vq [a] jk #[.i 4,j.v] l λc d e f p=>bE [a] p λg q=>
 loc [a,g] q λm=>bT m (b.add 2) (.slice none 0 0) λn=>kept [a,g] m n/\
 loc [a,g] n λk=>R (.returned (.agg #[.i c,.int .u8 d,.int .u8 e,f.v])) k):Calls Tryz.prog fI #[.pointer (some b)] w R:=aM X [] h
end regex_frame_endExpr
namespace regex_reader_top
noncomputable abbrev X:Fx:=⟨Tryz.prog,Tryz.f144,[(1,ls [0,1,2,3,4,5,6,7,8,9,10,11])],[]⟩
theorem ok (d:Addr) (w:World) (R:aD) (h:vQ w λf=>∃e:Sl,f.cell? (d.add 0)=some (e.v)/\
 ∃b:Sl,f.cell? (d.add 0)=some (b.v)/\
 (0:Int)<=(IntKind.wrap .i64 (((b.n:Nat):Int) - 1))/\(IntKind.wrap .i64 (((b.n:Nat):Int) - 1))<((e.n:Nat):Int)/\aW e.a λc=>R (.returned (.pointer (some (c.add (Int.toNat (IntKind.wrap .i64 (((b.n:Nat):Int) - 1)) *10))))) f):Calls Tryz.prog eY #[.pointer (some d)] w R:=aM X [] h
end regex_reader_top
namespace regex_reader_push
noncomputable abbrev X:Fx:=⟨Tryz.prog,Tryz.f157,[],[]⟩
theorem ok (c:Addr) (b a:Int) (w:World) (R:aD) (h:∃d:Sl,w.cell? (c.add 0)=some (d.v)/\
 fH w (.cells #[.i b,.slice none 0 0,.slice none 0 0,.slice none 0 0,.slice none 0 0,.i 0,.i 0,.int .u8 0,.int .u8 0,.slice none 0 0] cB) λg=>
 ∃(e:Sl) (f:World),Sem.run Tryz.prog (Builtin.append_ #[lj,lj] lj #[d.v,.slice (some (nb w)) 1 1]) g=.ok (e.v) f/\bT f (c.add 0) (e.v) λj=>
 bT j (c.add 1) (.i a) λk=>
 R (.returned (.bool true)) k):Calls Tryz.prog jD #[.pointer (some c),.i b,.i a] w R:=aM X [] h
end regex_reader_push
namespace regex_reader_atom
noncomputable abbrev X:Fx:=⟨Tryz.prog,Tryz.f186,[(1,ls [0,2,1,3,4,5])],[3]⟩
theorem cU (g:Addr) (c d e:Int) (f:Sl) (w:World) (R:aD) (h:bE [] w λb q=>
 loc [b] q λr=>YU [b] eY #[.pointer (some g)] r λp n=>aW p λa=>bT n (a.add 6) (.i c) λj=>kept [b] n j/\
 bT j ((a.add 6).add 1) (.int .u8 d) λk=>kept [b] j k/\
 bT k ((a.add 6).add 2) (.int .u8 e) λl=>kept [b] k l/\
 bT l ((a.add 6).add 3) (f.v) λm=>kept [b] l m/\
 bT m (g.add 1) (.i 3) λo=>kept [b] m o/\
 R (.returned (.bool true)) o):Calls Tryz.prog eL #[.pointer (some g),.agg #[.i c,.int .u8 d,.int .u8 e,f.v]] w R:=aM X [] h
end regex_reader_atom
namespace regex_reader_close
noncomputable abbrev X:Fx:=⟨Tryz.prog,Tryz.f158,[(2,ls [0,1,2,3,4,5,6,7,8,9,10,11,12,13,14])],[]⟩
theorem ok (e:Addr) (b:Sl) (w:World) (R:aD) (h:ca9 eY #[.pointer (some e)] w λx u=>aW x λp=>∃g:Int,u.cell? (p.add 0)=some (.i g)/\
 vQ u λq=>∃d:Sl,q.cell? (e.add 0)=some (d.v)/\
 ∃f:Sl,q.cell? (e.add 0)=some (f.v)/\
 (0:Int)<=(IntKind.wrap .i64 (((f.n:Nat):Int) - 1))/\(IntKind.wrap .i64 (((f.n:Nat):Int) - 1))<=((d.c:Nat):Int)/\bT q (e.add 0) (.slice (if d.c=0 then d.a else d.a.map (·.add (0 *10))) ((Int.toNat (IntKind.wrap .i64 (((f.n:Nat):Int) - 1))) - 0) (d.c - 0)) λr=>
 aG (decide (g<0)) ((0:Int)<=0/\0<((b.n:Nat):Int)/\aW b.a λj=>bY r (j.add (Int.toNat 0 *4)) λk l m o=>AR eL #[.pointer (some e),.agg #[.i k,.int .u8 l,.int .u8 m,o.v]] r λs y=>R (.returned (.bool s)) y) (AR eL #[.pointer (some e),.agg #[.i g,.int .u8 0,.int .u8 0,b.v]] r λt z=>R (.returned (.bool t)) z)):Calls Tryz.prog gZ #[.pointer (some e),b.v] w R:=aM X [] h
end regex_reader_close
namespace regex_reader_item
noncomputable abbrev X:Fx:=⟨Tryz.prog,Tryz.f159,[],[3]⟩
abbrev P0:Ps:=[]
abbrev dV (w:World) (R:aD):Prop:=
 R (.returned (.bool true)) w
noncomputable def fA:=bK X [] (bH [2,1,7,1,1,1,1]) P0 dV
theorem cU (c:Addr) (d g j:Int) (a:ByteArray) (r:Int) (w:World) (R:aD) (h:bE [] w λb f=>
 aG (d==33) (YU [b] eY #[.pointer (some c)] f λm s=>aW m λk=>∃n:Int,s.cell? (k.add 5)=some (.i n)/\
 aW m λl=>bT s (l.add 5) (.i (IntKind.wrap .i64 (n+1))) λt=>kept [b] s t/\
 bT t (c.add 1) (.i 0) λz=>kept [b] t z/\
 R (.returned (.bool true)) z) (aG (d==40) (jW [b] jD #[.pointer (some c),.i (-1),.i 0] f λu w5=>R (.returned (.bool u)) w5) (aG (d==114) (jW [b] eL #[.pointer (some c),.agg #[.i 2,.int .u8 g,.int .u8 j,.slice none 0 0]] f λv w6=>R (.returned (.bool v)) w6) (aG (d==119) (bT f (c.add 1) (.i 2) λe=>kept [b] f e/\
 aG (a.toList==(ByteArray.mk #[110,111,110,101]).toList) (jW [b] eL #[.pointer (some c),.agg #[.i 0,.int .u8 0,.int .u8 0,.slice none 0 0]] e λx w8=>R (.returned (.bool x)) w8) (aG (a.toList==(ByteArray.mk #[101,109,112,116,121]).toList) (jW [b] eL #[.pointer (some c),.agg #[.i 1,.int .u8 0,.int .u8 0,.slice none 0 0]] e λy w9=>R (.returned (.bool y)) w9) (aG (a.toList==(ByteArray.mk #[97,108,116]).toList) (bT e (c.add 2) (.i 4) λo=>kept [b] e o/\
 dV o R) (aG (a.toList==(ByteArray.mk #[97,108,108]).toList) (bT e (c.add 2) (.i 5) λp=>kept [b] e p/\
 dV p R) (aG (a.toList==(ByteArray.mk #[99,97,116]).toList) (bT e (c.add 2) (.i 3) λq=>kept [b] e q/\
 dV q R) (R (.returned (.bool false)) e)))))) (R (.returned (.bool false)) f))))):Calls Tryz.prog gF #[.pointer (some c),.agg #[.int .u8 d,.int .u8 g,.int .u8 j,.string a,.i r]] w R:=aM X [fA] h
end regex_reader_item
namespace regex_reader_feed
noncomputable abbrev X:Fx:=⟨Tryz.prog,Tryz.f143,[(25,(.sq [0,1,2,3,4,6] (.fork (.sq [5,7,8,9,11,12] (.fork (ls [10,13]) (ls [13,10]))) (.sq [7,5,8,9,11,12] (.fork (ls [10,13]) (ls [13,10])))))),(28,ls [0,1,2,3,4,5,6,7,8,9,10,11,12,13,14,15,16,17,18])],[3]⟩
abbrev P0:Ps:=[]
abbrev dV (w:World) (R:aD):Prop:=
 R (.returned (.bool true)) w
noncomputable def fA:=bK X [] (bH [4]) P0 dV
abbrev P1:Ps:=[(0,.v [.r])]
abbrev gm (a:Addr) (w:World) (R:aD):Prop:=
 bT w (a.add 1) (.i 0) λb=>
 dV b R
noncomputable def gG:=bK X [fA] (bH [2,1,7,1,1,1,3]) P1 gm
theorem cU (j:Addr) (e aa ab:Int) (ac:ByteArray) (ad:Int) (w:World) (R:aD) (h:bE [] w λb w1=>
 YU [b] eY #[.pointer (some j)] w1 λm g=>∃af:Int,g.cell? (j.add 1)=some (.i af)/\
 aG (af==2) (aG (e==40) (∃cb:Int,g.cell? (j.add 2)=some (.i cb)/\
 jW [b] jD #[.pointer (some j),.i cb,.i 1] g λcr w3=>R (.returned (.bool cr)) w3) (R (.returned (.bool false)) g)) (aG (af==1) (aG (e==41) (jW [b] gZ #[.pointer (some j),.slice none 0 0] g λcs w4=>R (.returned (.bool cs)) w4) (jW [b] gF #[.pointer (some j),.agg #[.int .u8 e,.int .u8 aa,.int .u8 ab,.string ac,.i ad]] g λct w5=>R (.returned (.bool ct)) w5)) (aG (af==0) (jW [b] gF #[.pointer (some j),.agg #[.int .u8 e,.int .u8 aa,.int .u8 ab,.string ac,.i ad]] g λcu w6=>R (.returned (.bool cu)) w6) (aG (e==42) (aW m λbu=>bY g (bu.add 6) λbv bw bx bz=>fH g (.cells #[.i bv,.int .u8 bw,.int .u8 bx,bz.v] aB) λw7=>
 aW m λo=>bT w7 (o.add 6) (.i 7) λw8=>kept [b] w7 w8/\
 bT w8 ((o.add 6).add 1) (.int .u8 0) λw9=>kept [b] w8 w9/\
 bT w9 ((o.add 6).add 2) (.int .u8 0) λav=>kept [b] w9 av/\
 bT av ((o.add 6).add 3) (.slice (some (nb g)) 1 1) λce=>kept [b] av ce/\
 dV ce R) (aG (e==38) (Se [b] jj #[.pointer m] g λcf=>bT cf (j.add 1) (.i 0) λcg=>kept [b] cf cg/\
 dV cg R) (aG (e==124) (Se [b] iM #[.pointer m] g λch=>bT ch (j.add 1) (.i 0) λci=>kept [b] ch ci/\
 dV ci R) (aG (e==44) (aW m λca=>∃cc:Int,g.cell? (ca.add 0)=some (.i cc)/\
 aG (decide (cc<0)) (R (.returned (.bool false)) g) (aW m λl=>loc [b] g λal=>∃c:Sl,al.cell? (l.add 1)=some (c.v)/\
 ((vq [b] fI #[.pointer m] al λag ah ai aj aw=>aw.cell? (l.add 1)=some (c.v)/\fH aw (.cells #[.i 0,.int .u8 0,.int .u8 0,.slice none 0 0] aB) λax=>
 ax.cell? (l.add 1)=some (c.v)/\∃(ae:Sl) (x:World),Sem.run Tryz.prog (Builtin.append_ #[aF,aF] aF #[c.v,.slice (some (nb aw)) 1 1]) ax=.ok (ae.v) x/\kept [b] ax x/\(0:Int)<=((c.n:Nat):Int)/\((c.n:Nat):Int)<((ae.n:Nat):Int)/\aW ae.a λf=>aW m λak=>((bT x (f.add (Int.toNat ((c.n:Nat):Int) *4)) (.i ag) λay=>kept [b] x ay/\
 bT ay ((f.add (Int.toNat ((c.n:Nat):Int) *4)).add 1) (.int .u8 ah) λaz=>kept [b] ay az/\
 bT az ((f.add (Int.toNat ((c.n:Nat):Int) *4)).add 2) (.int .u8 ai) λbb=>kept [b] az bb/\
 bT bb ((f.add (Int.toNat ((c.n:Nat):Int) *4)).add 3) (aj.v) λbc=>kept [b] bb bc/\
 bT bc (ak.add 1) (ae.v) λcj=>kept [b] bc cj/\
 gm j cj R)/\(bT x (ak.add 1) (ae.v) λbd=>kept [b] x bd/\
 bT bd (f.add (Int.toNat ((c.n:Nat):Int) *4)) (.i ag) λbe=>kept [b] bd be/\
 bT be ((f.add (Int.toNat ((c.n:Nat):Int) *4)).add 1) (.int .u8 ah) λbf=>kept [b] be bf/\
 bT bf ((f.add (Int.toNat ((c.n:Nat):Int) *4)).add 2) (.int .u8 ai) λbg=>kept [b] bf bg/\
 bT bg ((f.add (Int.toNat ((c.n:Nat):Int) *4)).add 3) (aj.v) λck=>kept [b] bg ck/\
 gm j ck R)))/\(fH al (.cells #[.i 0,.int .u8 0,.int .u8 0,.slice none 0 0] aB) λcl=>
 cl.cell? (l.add 1)=some (c.v)/\vq [b] fI #[.pointer m] cl λq r s t bh=>bh.cell? (l.add 1)=some (c.v)/\∃(k:Sl) (y:World),Sem.run Tryz.prog (Builtin.append_ #[aF,aF] aF #[c.v,.slice (some (nb al)) 1 1]) bh=.ok (k.v) y/\kept [b] bh y/\(0:Int)<=((c.n:Nat):Int)/\((c.n:Nat):Int)<((k.n:Nat):Int)/\aW k.a λd=>aW m λu=>((bT y (d.add (Int.toNat ((c.n:Nat):Int) *4)) (.i q) λbi=>kept [b] y bi/\
 bT bi ((d.add (Int.toNat ((c.n:Nat):Int) *4)).add 1) (.int .u8 r) λbj=>kept [b] bi bj/\
 bT bj ((d.add (Int.toNat ((c.n:Nat):Int) *4)).add 2) (.int .u8 s) λbk=>kept [b] bj bk/\
 bT bk ((d.add (Int.toNat ((c.n:Nat):Int) *4)).add 3) (t.v) λbm=>kept [b] bk bm/\
 bT bm (u.add 1) (k.v) λcm=>kept [b] bm cm/\
 gm j cm R)/\(bT y (u.add 1) (k.v) λbn=>kept [b] y bn/\
 bT bn (d.add (Int.toNat ((c.n:Nat):Int) *4)) (.i q) λbo=>kept [b] bn bo/\
 bT bo ((d.add (Int.toNat ((c.n:Nat):Int) *4)).add 1) (.int .u8 r) λbp=>kept [b] bo bp/\
 bT bp ((d.add (Int.toNat ((c.n:Nat):Int) *4)).add 2) (.int .u8 s) λbq=>kept [b] bp bq/\
 bT bq ((d.add (Int.toNat ((c.n:Nat):Int) *4)).add 3) (t.v) λcn=>kept [b] bq cn/\
 gm j cn R)))))) (aG (e==41) (loc [b] g λam=>∃cd:Sl,am.cell? (j.add 0)=some (cd.v)/\
 aG (decide (((cd.n:Nat):Int)>1)) (aW m λp=>∃z:Sl,am.cell? (p.add 1)=some (z.v)/\
 vq [b] fI #[.pointer m] am λan ao ap aq br=>br.cell? (p.add 1)=some (z.v)/\fH br (.cells #[.i an,.int .u8 ao,.int .u8 ap,aq.v] aB) λbs=>
 bs.cell? (p.add 1)=some (z.v)/\∃(ar:Sl) (bt:World),Sem.run Tryz.prog (Builtin.append_ #[aF,aF] aF #[z.v,.slice (some (nb br)) 1 1]) bs=.ok (ar.v) bt/\kept [b] bs bt/\jW [b] gZ #[.pointer (some j),ar.v] bt λco cw=>R (.returned (.bool co)) cw) (R (.returned (.bool false)) am)) (aG (e==36) (∃au:Sl,g.cell? (j.add 0)=some (au.v)/\
 R (.returned (.bool (((au.n:Nat):Int)==1))) g) (Se [b] iN #[.pointer m] g λcx=>jW [b] gF #[.pointer (some j),.agg #[.int .u8 e,.int .u8 aa,.int .u8 ab,.string ac,.i ad]] cx λcv cy=>R (.returned (.bool cv)) cy)))))))))):Calls Tryz.prog mw #[.pointer (some j),.agg #[.int .u8 e,.int .u8 aa,.int .u8 ab,.string ac,.i ad]] w R:=aM X [gG,fA] h
end regex_reader_feed
namespace regex_Parse
noncomputable def C0:Code:=(Tryz.f130.body).getD .skip
noncomputable def C1:=C0.sn
noncomputable def C2:=C1.sn
noncomputable def C3:=C2.sn
noncomputable def C4:=C3.fs
noncomputable def C5:=C4.sn
noncomputable def C6:=C5.fs
noncomputable def C7:=W.Code.asn C6
noncomputable def C8:=W.Code.bdy C6
noncomputable def C9:=C8.fs
noncomputable def RS:=C9.sn
noncomputable def O9:=RS.fs
abbrev Q0 (a:Nat) (b:Loop) (R:aD):Exit->Act->World->Prop:=(roundPost Tryz.prog a R)
abbrev Q1 (b:Nat) (a:Loop) (R:aD):Exit->Act->World->Prop:=(Exit.inBlock 1 (Q0 b a R))
noncomputable def V0:=O9.fs
noncomputable def V1:=O9.sn
abbrev S3 (f:Nat) (b:LoopState->Option Code->Obj) (g j k c:Addr) (w:World) (R:aD):Prop:=
 vQ w λd=>∃a:Int,d.cell? (c.add 4)=some (.i a)/\
 q7 d g (.i 0) (.int .u8 0) (.int .u8 0) (.slice none 0 0) λe=>e.cell? (c.add 4)=some (.i a)/\bT e j (.i a) λl=>
 bT l k (.i 2) λm=>
 LN m f (b .busy none) (b .done (some .ret)) λn=>R (.returned (.bool false)) n
def RX (a:Nat) (b:LoopState->Option Code->Obj) (E:Env) (w:World) (R:aD):Prop:=W.gL (Env.get? E 2) λc=>W.gL (Env.get? E 3) λd=>W.gL (Env.get? E 4) λe=>W.gL (Env.get? E 6) λf=>S3 a b c d e f w R
theorem LY (d:Nat) (b:Loop) (R:aD) (E:Env) (w:World) (h:RX d (lo b) E w R):WP Tryz.prog ⟨32,[],some d⟩ O9 (Q1 d b R) E w:=by
 obtain ⟨t2,E1,De⟩:=W.bQ h
 obtain ⟨t3,Dk,Df⟩:=W.bQ De
 obtain ⟨t4,HM,EN⟩:=W.bQ Df
 obtain ⟨t6,hq6,Hy⟩:=W.bQ EN
 exact λa e=>WP.at (n:=⟨32,[],some d⟩) (E:=[(2,.pointer (some t2)),(3,.pointer (some t3)),(4,.pointer (some t4)),(6,.pointer (some t6))]) (WP.seq (c:=O9) (x:=V0) (y:=V1) (by kernel_rfl)<|WP.draw (c:=V0) [0,1,2,3,4,5] (λE w=>LN w d ((lo b) .busy none) ((lo b) .done (some .ret)) λi=>R (.returned (.bool false)) i) (by kernel_rfl) (mp Hy) λ_ _ a f g=>(WP.ret (c:=V1) (Q:=(Q1 d b R)) (by kernel_rfl) λa f=>(show roundPost Tryz.prog d R .ret a _ from Lf (a:=a) (g).1 (g).2)) a f) (e.cons E1 (e.cons Dk (e.cons HM (e.cons hq6 e.nil))))
noncomputable def V2:=C9.fs
noncomputable def Ww:=RS.sn
abbrev S2 (g:Nat) (f:LoopState->Option Code->Obj) (n o p m k:Addr) (w:World) (R:aD):Prop:=
 SR w k λa b c d e=>AR mw #[.pointer (some m),.agg #[.int .u8 a,.int .u8 b,.int .u8 c,.string d,.i e]] w λj l=>aG (!j) (S3 g f n o p k l R) (LN l g (f .busy none) (f .ready none) λq=>R (.returned (.bool true)) q)
def RW (a:Nat) (b:LoopState->Option Code->Obj) (E:Env) (w:World) (R:aD):Prop:=W.gL (Env.get? E 2) λd=>W.gL (Env.get? E 3) λe=>W.gL (Env.get? E 4) λf=>W.gL (Env.get? E 5) λc=>W.gL (Env.get? E 6) λg=>S2 a b d e f c g w R
theorem LX (d:Nat) (b:Loop) (R:aD) (E:Env) (w:World) (h:RW d (lo b) E w R):WP Tryz.prog ⟨32,[],some d⟩ C9 (Q1 d b R) E w:=by
 obtain ⟨t2,E1,De⟩:=W.bQ h
 obtain ⟨t3,Dk,Df⟩:=W.bQ De
 obtain ⟨t4,HM,EN⟩:=W.bQ Df
 obtain ⟨r5,U2,Hy⟩:=W.bQ EN
 obtain ⟨t6,hq6,P8⟩:=W.bQ Hy
 exact λa f=>WP.at (n:=⟨32,[],some d⟩) (E:=[(2,.pointer (some t2)),(3,.pointer (some t3)),(4,.pointer (some t4)),(5,.pointer (some r5)),(6,.pointer (some t6))]) (WP.seq (c:=C9) (x:=V2) (y:=RS) (by kernel_rfl)<|WP.Tj (c:=V2) (λE w=>qk (Env.val E (.tmp 20)) (RX d (lo b) E w R) (LN w d ((lo b) .busy none) ((lo b) .ready none) λi=>R (.returned (.bool true)) i)) (by kernel_rfl) (mp P8) λ_ _ a g e=>(WP.qk (c:=RS) (x:=O9) (y:=Ww) (o:=.tmp 20) (by kernel_rfl) (λe=>(LY d b R _ _ e)) (λe=>(WP.skip (c:=Ww) (by kernel_rfl) λa g=>Le (a:=a) (e).1 (e).2)) e) a g) (f.cons E1 (f.cons Dk (f.cons HM (f.cons U2 (f.cons hq6 f.nil)))))
abbrev Q2 (b:Nat) (a:Loop) (R:aD):Exit->Act->World->Prop:=(CB Tryz.prog 32 b a C8 (roundPost Tryz.prog b R))
abbrev S1 (g:Nat) (f:LoopState->Option Code->Obj) (k l m j:Addr) (a b c:Int) (d:ByteArray) (e:Int) (w:World) (R:aD):Prop:=
 fH w (.cells #[.int .u8 0,.int .u8 0,.int .u8 0,.s0,.i 0] fN) λn=>
 Yt n (nb w) (.int .u8 a) (.int .u8 b) (.int .u8 c) (.string d) (.i e) λo=>LN o g (f .ready none) (f .busy none) λp=>S2 g f k l m j (nb w) p R
def Wz (r:Nat) (s:LoopState->Option Code->Obj) (E:Env) (w:World) (R:aD):Prop:=W.gL (Env.get? E 2) λu=>W.gL (Env.get? E 3) λv=>W.gL (Env.get? E 4) λx=>W.gL (Env.get? E 5) λt=>W.asAgg (Env.get? E 17) λa=>W.sX a λg b=>W.asInt .u8 (some g) λm=>W.sX b λi c=>W.asInt .u8 (some i) λn=>W.sX c λj d=>W.asInt .u8 (some j) λo=>W.sX d λk e=>W.y8 (some k) λp=>W.sX e λl f=>W.asInt .i64 (some l) λq=>W.Bv f<|S1 r s u v x t m n o p q w R
theorem LW (d:Nat) (b:Loop) (R:aD) (E:Env) (w:World) (h:Wz d (lo b) E w R):WP Tryz.prog ⟨32,[],some d⟩ C7 (Q2 d b R) E w:=by
 obtain ⟨t2,E1,De⟩:=W.bQ h
 obtain ⟨t3,Dk,Df⟩:=W.bQ De
 obtain ⟨t4,HM,EN⟩:=W.bQ Df
 obtain ⟨r5,U2,Hy⟩:=W.bQ EN
 obtain ⟨aaP,aaB,P8⟩:=W.G8 Hy
 obtain ⟨aaV,aaQ,rfl,h_6⟩:=W.nD P8
 obtain ⟨JZ,ex,h_7⟩:=W.oy h_6
 obtain rfl:=Option.some.inj ex
 obtain ⟨aaW,aaR,rfl,h_8⟩:=W.nD h_7
 obtain ⟨J0,ex,h_9⟩:=W.oy h_8
 obtain rfl:=Option.some.inj ex
 obtain ⟨aaX,aaS,rfl,UN⟩:=W.nD h_9
 obtain ⟨J1,ex,aaf⟩:=W.oy UN
 obtain rfl:=Option.some.inj ex
 obtain ⟨aaY,aaT,rfl,aag⟩:=W.nD aaf
 obtain ⟨J2,ex,aah⟩:=W.qh aag
 obtain rfl:=Option.some.inj ex
 obtain ⟨aaZ,aaU,rfl,aai⟩:=W.nD aah
 obtain ⟨Yx,ex,aaj⟩:=W.oy aai
 obtain rfl:=Option.some.inj ex
 obtain ⟨rfl,aak⟩:=W.uP aaj
 exact λa e=>WP.at (n:=⟨32,[],some d⟩) (E:=[(2,.pointer (some t2)),(3,.pointer (some t3)),(4,.pointer (some t4)),(5,.pointer (some r5)),(17,.agg #[.int .u8 JZ,.int .u8 J0,.int .u8 J1,.string J2,.i Yx])]) (WP.Tj (c:=C7) (λE w=>w.heap[d]? =some (lo b .ready none)/\((λw=>RW d (lo b) E w R) (w.putObj d (lo b .busy none)))) (by kernel_rfl) (mp aak) λ_ _ a g f=>⟨(f).1,(WP.block (c:=C8) (x:=C9) (id:=1) (by kernel_rfl) (LX d b R _ _ (f).2)) a g⟩) (e.cons E1 (e.cons Dk (e.cons HM (e.cons U2 (e.cons aaB e.nil)))))
abbrev T0 (g:Nat) (i:LoopState->Option Code->Obj) (n:ByteArray) (k l m j f:Addr) (a b c:Int) (d:ByteArray) (e:Int) (w:World) (R:aD):Prop:=
 S1 g i k l m j a b c d e w R
theorem ZT (j:Nat) (b:Loop) (l:ByteArray) (m n o k a:Addr) (c d e:Int) (f:ByteArray) (g:Int) (w:World) (R:aD) (h:T0 j (lo b) l m n o k a c d e f g w R):WP Tryz.prog ⟨32,[],some j⟩ C7 (CB Tryz.prog 32 j b C8 (roundPost Tryz.prog j R)) (FI [(0,.string l),(2,.pointer (some m)),(3,.pointer (some n)),(4,.pointer (some o)),(5,.pointer (some k)),(16,.func (.func fW) #[] #[.pointer (some a)])] [17] [.agg #[.int .u8 c,.int .u8 d,.int .u8 e,.string f,.i g]]) w:=
 (LW j b R _ _ (mp h))
noncomputable def O':=C3.sn
noncomputable def V3:=O'.sn
noncomputable def T1:=V3.fs
noncomputable def V4:=T1.sn
noncomputable def Pa:=V4.fs
noncomputable def RT:=V3.sn
abbrev Q3 (R:aD):Pb:=(Exit.then (AW Tryz.prog (cx 32) RT (bodyPostM Fence.wide 0 Tryz.prog Tryz.f130 R)) (bodyPostM Fence.wide 0 Tryz.prog Tryz.f130 R))
noncomputable def YM:=Pa.fs
noncomputable def YN:=Pa.sn
abbrev S6 (m:Nat) (n:ByteArray) (j k l:Addr) (w:World) (R:aD):Prop:=
 q7 w j (.i 0) (.int .u8 0) (.int .u8 0) (.slice none 0 0) λo=>bT o k (.i ((n.size:Nat):Int)) λp=>
 bT p l (.i 4) λq=>
 LN q m (.deferred (some [])) (.deferred none) λa=>bY a j λb c d e=>∃f:Int,a.cell? k=some (.i f)/\
 ∃g:Int,a.cell? l=some (.i g)/\
 R (.returned (.tuple #[.agg #[.i b,.int .u8 c,.int .u8 d,e.v],.i f,.i g])) a
def RZ (a:Nat) (E:Env) (w:World) (R:aD):Prop:=W.y8 (Env.get? E 0) λb=>W.gL (Env.get? E 2) λc=>W.gL (Env.get? E 3) λd=>W.gL (Env.get? E 4) λe=>S6 a b c d e w R
theorem L4 (d:Nat) (R:aD) (E:Env) (w:World) (h:RZ d E w R):WP Tryz.prog (marked 32 d) Pa (Q3 R) E w:=by
 obtain ⟨s0,KL,De⟩:=W.qh h
 obtain ⟨t2,E1,Df⟩:=W.bQ De
 obtain ⟨t3,Dk,EN⟩:=W.bQ Df
 obtain ⟨t4,HM,Hy⟩:=W.bQ EN
 exact λa b=>WP.at (n:=(marked 32 d)) (E:=[(0,.string s0),(2,.pointer (some t2)),(3,.pointer (some t3)),(4,.pointer (some t4))]) (WP.seq (c:=Pa) (x:=YM) (y:=YN) (by kernel_rfl)<|WP.Tj (c:=YM) (λE w=>Io Tryz.prog Tryz.f130 E w d R) (by kernel_rfl) (mp Hy) λ_ _ a e f=>(WP.ret (c:=YN) (by kernel_rfl) λa e=>r9 e f) a e) (b.cons KL (b.cons E1 (b.cons Dk (b.cons HM b.nil))))
abbrev Q4 (R:aD):Pb:=(bodyPostM Fence.wide 0 Tryz.prog Tryz.f130 R)
noncomputable def C24:=RT.fs
noncomputable def C25:=RT.sn
abbrev S7 (q:Nat) (n o p u:Addr) (w:World) (R:aD):Prop:=
 bY w u λa b c d=>q7 w n (.i a) (.int .u8 b) (.int .u8 c) (d.v) λr=>bT r o (.i 0) λs=>
 bT s p (.i 0) λt=>
 LN t q (.deferred (some [])) (.deferred none) λe=>bY e n λf g j k=>∃l:Int,e.cell? o=some (.i l)/\
 ∃m:Int,e.cell? p=some (.i m)/\
 R (.returned (.tuple #[.agg #[.i f,.int .u8 g,.int .u8 j,k.v],.i l,.i m])) e
def R0 (a:Nat) (E:Env) (w:World) (R:aD):Prop:=W.gL (Env.get? E 2) λb=>W.gL (Env.get? E 3) λc=>W.gL (Env.get? E 4) λd=>W.gL (Env.get? E 7) λe=>S7 a b c d e w R
theorem L5 (d:Nat) (R:aD) (E:Env) (w:World) (h:R0 d E w R):WP Tryz.prog (marked 32 d) RT (Q4 R) E w:=by
 obtain ⟨t2,E1,De⟩:=W.bQ h
 obtain ⟨t3,Dk,Df⟩:=W.bQ De
 obtain ⟨t4,HM,EN⟩:=W.bQ Df
 obtain ⟨x7,hq7,Hy⟩:=W.bQ EN
 exact λa b=>WP.at (n:=(marked 32 d)) (E:=[(2,.pointer (some t2)),(3,.pointer (some t3)),(4,.pointer (some t4)),(7,.pointer (some x7))]) (WP.seq (c:=RT) (x:=C24) (y:=C25) (by kernel_rfl)<|WP.Tj (c:=C24) (λE w=>Io Tryz.prog Tryz.f130 E w d R) (by kernel_rfl) (mp Hy) λ_ _ a e f=>(WP.ret (c:=C25) (by kernel_rfl) λa e=>r9 e f) a e) (b.cons E1 (b.cons Dk (b.cons HM (b.cons hq7 b.nil))))
noncomputable def C26:=T1.fs
noncomputable def C27:=V4.sn
abbrev S5 (e:Nat) (n:ByteArray) (f j k m:Addr) (w:World) (R:aD):Prop:=
 bY w m λa b c d=>AR jR #[.agg #[.i a,.int .u8 b,.int .u8 c,d.v]] w λg l=>aG g (S6 e n f j k l R) (S7 e f j k m l R)
def RY (a:Nat) (E:Env) (w:World) (R:aD):Prop:=W.y8 (Env.get? E 0) λb=>W.gL (Env.get? E 2) λc=>W.gL (Env.get? E 3) λd=>W.gL (Env.get? E 4) λe=>W.gL (Env.get? E 7) λf=>S5 a b c d e f w R
theorem L3 (b:Nat) (R:aD) (E:Env) (w:World) (h:RY b E w R):WP Tryz.prog (marked 32 b) T1 (Q3 R) E w:=by
 obtain ⟨s0,KL,De⟩:=W.qh h
 obtain ⟨t2,E1,Df⟩:=W.bQ De
 obtain ⟨t3,Dk,EN⟩:=W.bQ Df
 obtain ⟨t4,HM,Hy⟩:=W.bQ EN
 obtain ⟨x7,hq7,P8⟩:=W.bQ Hy
 exact λa d=>WP.at (n:=(marked 32 b)) (E:=[(0,.string s0),(2,.pointer (some t2)),(3,.pointer (some t3)),(4,.pointer (some t4)),(7,.pointer (some x7))]) (WP.seq (c:=T1) (x:=C26) (y:=V4) (by kernel_rfl)<|WP.Tj (c:=C26) (λE w=>qk (Env.val E (.tmp 27)) (RZ b E w R) (R0 b E w R)) (by kernel_rfl) (mp P8) λ_ _ a f e=>(WP.qk (c:=V4) (x:=Pa) (y:=C27) (o:=.tmp 27) (by kernel_rfl) (λe=>(L4 b R _ _ e)) (λe=>(WP.skip (c:=C27) (by kernel_rfl) λa f=>(L5 b R _ _ e) a f)) e) a f) (d.cons KL (d.cons E1 (d.cons Dk (d.cons HM (d.cons hq7 d.nil)))))
noncomputable def C28:=O'.fs
abbrev S4 (g:Nat) (k:ByteArray) (l m n j:Addr) (w:World) (R:aD):Prop:=
 ca9 eY #[.pointer (some j)] w λf o=>MF fI #[.pointer f] o λa b c d e=>fH e (.cells #[.i 0,.int .u8 0,.int .u8 0,.slice none 0 0] aB) λp=>
 q7 p (nb e) (.i a) (.int .u8 b) (.int .u8 c) (d.v) λq=>S5 g k l m n (nb e) q R
def WA (a:Nat) (E:Env) (w:World) (R:aD):Prop:=W.y8 (Env.get? E 0) λc=>W.gL (Env.get? E 2) λd=>W.gL (Env.get? E 3) λe=>W.gL (Env.get? E 4) λf=>W.gL (Env.get? E 5) λb=>S4 a c d e f b w R
theorem LZ (d:Nat) (R:aD) (E:Env) (w:World) (h:WA d E w R):WP Tryz.prog (marked 32 d) O' (Q4 R) E w:=by
 obtain ⟨s0,KL,De⟩:=W.qh h
 obtain ⟨t2,E1,Df⟩:=W.bQ De
 obtain ⟨t3,Dk,EN⟩:=W.bQ Df
 obtain ⟨t4,HM,Hy⟩:=W.bQ EN
 obtain ⟨r5,U2,P8⟩:=W.bQ Hy
 exact λa b=>WP.at (n:=(marked 32 d)) (E:=[(0,.string s0),(2,.pointer (some t2)),(3,.pointer (some t3)),(4,.pointer (some t4)),(5,.pointer (some r5))]) (WP.seq (c:=O') (x:=C28) (y:=V3) (by kernel_rfl)<|WP.Tj (c:=C28) (λE w=>RY d E w R) (by kernel_rfl) (mp P8) λ_ _ a e f=>(WP.seq (c:=V3) (x:=T1) (y:=RT) (by kernel_rfl) (L3 d R _ _ f)) a e) (b.cons KL (b.cons E1 (b.cons Dk (b.cons HM (b.cons U2 b.nil)))))
abbrev S0 (s0:ByteArray) (q r s r5 a:Addr) (w:World) (R:aD):Prop:=
 ∀g:LoopState->Option Code->Obj,(∀(b c d:Int) (e:ByteArray) (f:Int) (t:World) (u:Bool->World->Prop),t.heap[w.heap.size+1]? =some (g .ready none)->T0 (w.heap.size+1) g s0 q r s r5 a b c d e f t (λp w1=>∃x:Bool,p=.returned (.bool x)/\u x w1)->xY Tryz.prog (w.heap.size+1) #[.agg #[.int .u8 b,.int .u8 c,.int .u8 d,.string e,.i f]] t u)->
 Calls Tryz.prog fW #[.func (.yield (w.heap.size+1)) #[] #[],.pointer (some a)] ((w.alloc (.deferred (some []))).alloc (g .ready none)) λp w2=>(∃v_,p=.returned v_)/\vC w2 (w.heap.size+1) g (λj=>S4 w.heap.size s0 q r s r5 j R) (λae j=>False) (λj=>LN j w.heap.size (.deferred (some [])) (.deferred none) λk=>bY k q λl m n o=>∃y:Int,k.cell? r=some (.i y)/\
 ∃z:Int,k.cell? s=some (.i z)/\
 R (.returned (.tuple #[.agg #[.i l,.int .u8 m,.int .u8 n,o.v],.i y,.i z])) k)
abbrev Q5 (R:aD):Pb:=(Exit.then (AW Tryz.prog (cx 32) O' (bodyPostM Fence.wide 0 Tryz.prog Tryz.f130 R)) (bodyPostM Fence.wide 0 Tryz.prog Tryz.f130 R))
abbrev Q6 (R:aD):Pb:=(Exit.inBlock 0 (Q5 R))
def IF (E:Env) (w:World) (R:aD):Prop:=W.y8 (Env.get? E 0) λg=>W.gL (Env.get? E 2) λi=>W.gL (Env.get? E 3) λj=>W.gL (Env.get? E 4) λk=>W.gL (Env.get? E 5) λf=>W.CI fW (Env.get? E 16) λc a=>W.Bv c<|W.sX a λd b=>W.gL (some d) λe=>W.Bv b<|S0 g i j k f e w R
theorem D5:KOk Tryz.prog 32 IF C6 Q6:=by
 intro R E w h
 obtain ⟨s0,KL,De⟩:=W.qh h
 obtain ⟨t2,E1,Df⟩:=W.bQ De
 obtain ⟨t3,Dk,EN⟩:=W.bQ Df
 obtain ⟨t4,HM,Hy⟩:=W.bQ EN
 obtain ⟨r5,U2,P8⟩:=W.bQ Hy
 obtain ⟨Zt,Zr,aaA,h_6⟩:=W.Eb P8
 obtain ⟨rfl,h_7⟩:=W.uP h_6
 obtain ⟨Zu,Zs,rfl,h_8⟩:=W.nD h_7
 obtain ⟨Iy,ex,h_9⟩:=W.bQ h_8
 obtain rfl:=Option.some.inj ex
 obtain ⟨rfl,UN⟩:=W.uP h_9
 exact λa b=>WP.at (n:=(cx 32)) (E:=[(0,.string s0),(2,.pointer (some t2)),(3,.pointer (some t3)),(4,.pointer (some t4)),(5,.pointer (some r5)),(16,.func (.func fW) #[] #[.pointer (some Iy)])]) (WP.range (m:=32) (c:=C6) (g:=.tmp 16) (ps:=#[17]) (assign:=C7) (body:=C8) (gf:=fW) (lb:=#[.pointer (some Iy)]) (λl=>S4 w.heap.size s0 t2 t3 t4 r5 l R) (λae l=>False) (λl=>LN l w.heap.size (.deferred (some [])) (.deferred none) λq=>bY q t2 λs t u x=>∃r3:Int,q.cell? t3=some (.i r3)/\
 ∃r4:Int,q.cell? t4=some (.i r4)/\
 R (.returned (.tuple #[.agg #[.i s,.int .u8 t,.int .u8 u,x.v],.i r3,.i r4])) q) (by kernel_rfl) rfl (by kernel_rfl)
  (λl o a r=>(LZ w.heap.size R _ _ (mp o)) a r)
  (λ_ _ o=>o.elim)
  (λl o a r=>r9 r (mp o))
  (λp aa=>UN (lo p) (λd e f j k w_ K_ z y=>OT (args:=[.agg #[.int .u8 d,.int .u8 e,.int .u8 f,.string j,.i k]]) aa z rfl (by kernel_rfl) (λ_ _ h=>h) (ZT _ p s0 t2 t3 t4 r5 Iy d e f j k w_ _ y)))) (b.cons KL (b.cons E1 (b.cons Dk (b.cons HM (b.cons U2 (b.cons aaA b.nil))))))
noncomputable def Zy:=C1.fs
noncomputable def Zz:=Zy.sn
noncomputable def ZA:=Zz.fs
noncomputable def C32:=ZA.sn
noncomputable def C33:=Zz.sn
theorem ok (j:ByteArray) (w:World) (R:aD) (h:fH w (.cells #[.i 0,.int .u8 0,.int .u8 0,.slice none 0 0] aB) λm=>
 fH m (.cells #[.i 0] bP) λn=>
 fH n (.cells #[.i 0] wM) λu=>
 aG (decide (((j.size:Nat):Int)>4096)) (q7 u (nb w) (.i 0) (.int .u8 0) (.int .u8 0) (.slice none 0 0) λw7=>bT w7 (nb m) (.i 4096) λw8=>
 bT w8 (nb n) (.i 4) λo=>
 bY o (nb w) λq r s t=>∃x:Int,o.cell? (nb m)=some (.i x)/\
 ∃y:Int,o.cell? (nb n)=some (.i y)/\
 R (.returned (.tuple #[.agg #[.i q,.int .u8 r,.int .u8 s,t.v],.i x,.i y])) o) (fH u (.cells #[.i (-1),.slice none 0 0,.slice none 0 0,.slice none 0 0,.slice none 0 0,.i 0,.i 0,.int .u8 0,.int .u8 0,.slice none 0 0] cB) λl=>
 fH l (.cells #[.slice none 0 0,.i 0,.i 0] hO) λaa=>
 Iw aa (nb l) (.slice (some (nb u)) 1 1) (.i 0) (.i 0) λab=>ZZ tw #[.string j] ab λz ac=>W.CI fW (some z) λf d=>W.Bv f<|W.sX d λg e=>W.gL (some g) λk=>W.Bv e<|S0 j (nb w) (nb m) (nb n) (nb l) k ac R)):Calls Tryz.prog qY #[.string j] w R:=
 CT (R:=R) (fn:=Tryz.f130) (c:=C0) (args:=[.string j]) (by kernel_rfl) (by kernel_rfl) (by kernel_rfl) (sr C0 (show (λ(E:Env) (w:World)=>yL Tryz.prog C0 (λE w=>yL Tryz.prog Zy (λE w=>qk (Env.val E (.tmp 10)) (yL Tryz.prog ZA (λE w=>rC Tryz.prog Tryz.f130 E w (λv=>R (.returned v) w)) E w) (yL Tryz.prog C2 (λE w=>yL Tryz.prog C4 (λE w=>IF E w R) E w) E w)) E w) E w) (sy 0 [.string j]) w from mp h) λ_ _ b=>(sq C1 (sr Zy b λ_ _ b=>(cn Zz b (λb=>(sr ZA b λ_ _ b=>(rt C32 λa p=>Im p b))) (λb=>(sk C33 λa p=>nx p (sr C2 b λ_ _ b=>(sq C3 (sr C4 b λ_ _ b=>(bk C5 0 (by kernel_rfl) (D5 R _ _ b)))))))))))
end regex_Parse
namespace regex_byteText
noncomputable abbrev X:Fx:=⟨Tryz.prog,Tryz.f196,[(3,ls [0,1,2,3,4,5,6,7,8])],[]⟩
theorem ok (a:Int) (w:World) (R:aD) (h:AR oL #[.int .u8 a] w λk e=>aG k (fH e (.cells #[.int .u8 39,.int .u8 a,.int .u8 39] dF) λf=>
 ∃i:ByteArray,Sem.run Tryz.prog (Go.convert bJ cJ (.slice (some (nb e)) 3 3)) f=.ok (.string i) f/\R (.returned (.string i)) f) (vQ e λj=>(0:Int)<=(Int.fdiv a (2^(4)))/\∃b:UInt8,(ByteArray.mk #[48,49,50,51,52,53,54,55,56,57,97,98,99,100,101,102])[Int.toNat (Int.fdiv a (2^(4)))]? =some b/\(0:Int)<=(Ph .u8 a 15)/\∃c:UInt8,(ByteArray.mk #[48,49,50,51,52,53,54,55,56,57,97,98,99,100,101,102])[Int.toNat (Ph .u8 a 15)]? =some c/\fH j (.cells #[.int .u8 92,.int .u8 120,.int .u8 ((b.toNat:Nat):Int),.int .u8 ((c.toNat:Nat):Int)] dF) λg=>
 ∃d:ByteArray,Sem.run Tryz.prog (Go.convert bJ cJ (.slice (some (nb j)) 4 4)) g=.ok (.string d) g/\R (.returned (.string d)) g)):Calls Tryz.prog jQ #[.int .u8 a] w R:=aM X [] h
end regex_byteText
namespace regex_text
noncomputable abbrev X:Fx:=⟨Tryz.prog,Tryz.f151,[],[2]⟩
theorem cU (c d e:Int) (f:Sl) (b:Int) (w:World) (R:aD) (h:bE [] w λk l=>
 Uu [k] rW #[.agg #[.i c,.int .u8 d,.int .u8 e,f.v]] l λa g j=>aG (decide (g<b)) (¬((((ByteArray.mk #[40]).size+a.size:Nat):Int)>IntKind.i64.max)/\¬(((((ByteArray.mk #[40])++a).size+(ByteArray.mk #[41]).size:Nat):Int)>IntKind.i64.max)/\R (.returned (.string (((ByteArray.mk #[40])++a)++(ByteArray.mk #[41])))) j) (R (.returned (.string a)) j)):Calls Tryz.prog im #[.agg #[.i c,.int .u8 d,.int .u8 e,f.v],.i b] w R:=aM X [] h
end regex_text
namespace regex_bare
noncomputable abbrev X:Fx:=⟨Tryz.prog,Tryz.f179,[(9,ls [0,1,5,6,2,3,4,7,8,9,10,11])],[1,9]⟩
abbrev P0:Ps:=[(1,.l [.I,.Y,.Y,.s] aB),(5,.v [.st]),(6,.v [.I]),(7,.v [.st]),(79,.v [.s]),(80,.v [.I]),(81,.v [.I])]
def WB (k:Nat) (c d e:Int) (f:Sl) (b:ByteArray) (a:Int) (l:ByteArray) (g:Sl) (i j:Int) (w:World) (R:aD):Prop:=cG P0 0 (X.Sem (bH [0,1,1,1,7])) k c d e f b a l g i j w R
noncomputable def MU:=fU X (bH [0,1,1,1,7]) P0 WB
abbrev P1:Ps:=[(1,.l [.I,.Y,.Y,.s] aB),(5,.v [.st]),(6,.v [.I]),(7,.v [.st]),(10,.v [.st]),(79,.v [.s]),(80,.v [.I]),(81,.v [.I])]
abbrev ic (m:Nat) (d e f:Int) (g:Sl) (b:ByteArray) (a:Int) (i c:ByteArray) (j:Sl) (k l:Int) (w:World) (R:aD):Prop:=
 ¬(((i.size+c.size:Nat):Int)>IntKind.i64.max)/\WB m d e f g b a (i++c) j k (IntKind.wrap .i64 (l+1)) w R
noncomputable def jc:=bK X [MU] (bH [3,2,2,2,1,1,7]) P1 ic
theorem D6:∀(m:Nat) (e f g:Int) (j:Sl) (b:ByteArray) (c:Int) (l:ByteArray) (k:Sl) (o d:Int) (w:World) (R:aD) (h:aG (decide (d<o)) ((0:Int)<=d/\d<((k.n:Nat):Int)/\aW k.a λt=>bY w (t.add (Int.toNat d *4)) λu x y z=>bE [m] w λs w2=>
 loc [m,s] w2 λw6=>qj [m,s] im #[.agg #[.i u,.int .u8 x,.int .u8 y,z.v],.i (IntKind.wrap .i64 (c+1))] w6 λp w7=>aG (decide (d>0)) (¬(((l.size+b.size:Nat):Int)>IntKind.i64.max)/\aG (e==3) ((0:Int)<=(IntKind.wrap .i64 ((((l++b).size:Nat):Int) - 1))/\∃q:UInt8,(l++b)[Int.toNat (IntKind.wrap .i64 ((((l++b).size:Nat):Int) - 1))]? =some q/\jW [m,s] kK #[.int .u8 ((q.toNat:Nat):Int)] w7 λaa w8=>aG aa ((0:Int)<=0/\∃r:UInt8,p[Int.toNat 0]? =some r/\jW [m,s] kK #[.int .u8 ((r.toNat:Nat):Int)] w8 λab w9=>aG ab (¬((((l++b).size+(ByteArray.mk #[32]).size:Nat):Int)>IntKind.i64.max)/\ic m e f g j b c ((l++b)++(ByteArray.mk #[32])) p k o d w9 R) (ic m e f g j b c (l++b) p k o d w9 R)) (ic m e f g j b c (l++b) p k o d w8 R)) (ic m e f g j b c (l++b) p k o d w7 R)) (ic m e f g j b c l p k o d w7 R)) (R (.returned (.tuple #[.string l,.i c])) w)),WB m e f g j b c l k o d w R:=mp (cW (X:=X) [jc,MU] (bH [0,1,1,1,7]) P0)
abbrev P2:Ps:=[(1,.l [.I,.Y,.Y,.s] aB),(4,.v [.st]),(5,.v [.st]),(6,.v [.I])]
abbrev gm (r:Nat) (o p q:Int) (c:Sl) (b f:ByteArray) (d:Int) (w:World) (R:aD):Prop:=
 aG (((c.n:Nat):Int)==0) (¬(((b.size+(ByteArray.mk #[40,41]).size:Nat):Int)>IntKind.i64.max)/\R (.returned (.tuple #[.string (b++(ByteArray.mk #[40,41])),.i 4])) w) (aG (((c.n:Nat):Int)==1) (¬(((b.size+(ByteArray.mk #[40]).size:Nat):Int)>IntKind.i64.max)/\(0:Int)<=0/\0<((c.n:Nat):Int)/\aW c.a λg=>bY w (g.add (Int.toNat 0 *4)) λj k l m=>qj [r] im #[.agg #[.i j,.int .u8 k,.int .u8 l,m.v],.i 0] w λe s=>¬((((b++(ByteArray.mk #[40])).size+e.size:Nat):Int)>IntKind.i64.max)/\¬(((((b++(ByteArray.mk #[40]))++e).size+(ByteArray.mk #[41]).size:Nat):Int)>IntKind.i64.max)/\R (.returned (.tuple #[.string (((b++(ByteArray.mk #[40]))++e)++(ByteArray.mk #[41])),.i 4])) s) (WB r o p q c f d (ByteArray.mk #[]) c ((c.n:Nat):Int) 0 w R))
noncomputable def gG:=bK X [jc,MU] (bH [4]) P2 gm
abbrev dV (i:Nat) (a b c:Int) (d:Sl) (g f:ByteArray) (e:Int) (w:World) (R:aD):Prop:=
 aG (a==4) (gm i a b c d (ByteArray.mk #[97,108,116]) (ByteArray.mk #[124]) 0 w R) (aG (a==5) (gm i a b c d (ByteArray.mk #[97,108,108]) (ByteArray.mk #[38]) 1 w R) (gm i a b c d g f e w R))
noncomputable def fA:=bK X [gG,jc,MU] (bH [3]) P2 dV
theorem cU (b d e:Int) (c:Sl) (w:World) (R:aD) (h:bE [] w λj f=>
 aG (b==0) (R (.returned (.tuple #[.string (ByteArray.mk #[110,111,110,101]),.i 4])) f) (aG (b==1) (R (.returned (.tuple #[.string (ByteArray.mk #[101,109,112,116,121]),.i 4])) f) (aG (b==2) (aG (d==e) (qj [j] jQ #[.int .u8 d] f λaa w2=>R (.returned (.tuple #[.string aa,.i 4])) w2) (loc [j] f λw3=>qj [j] jQ #[.int .u8 d] w3 λg w4=>¬((((ByteArray.mk #[91]).size+g.size:Nat):Int)>IntKind.i64.max)/\¬(((((ByteArray.mk #[91])++g).size+(ByteArray.mk #[45]).size:Nat):Int)>IntKind.i64.max)/\qj [j] jQ #[.int .u8 e] w4 λk w5=>¬((((((ByteArray.mk #[91])++g)++(ByteArray.mk #[45])).size+k.size:Nat):Int)>IntKind.i64.max)/\¬(((((((ByteArray.mk #[91])++g)++(ByteArray.mk #[45]))++k).size+(ByteArray.mk #[93]).size:Nat):Int)>IntKind.i64.max)/\R (.returned (.tuple #[.string (((((ByteArray.mk #[91])++g)++(ByteArray.mk #[45]))++k)++(ByteArray.mk #[93])),.i 4])) w5)) (aG (b==6) ((0:Int)<=0/\0<((c.n:Nat):Int)/\aW c.a λl=>bY f (l.add (Int.toNat 0 *4)) λm o p q=>qj [j] im #[.agg #[.i m,.int .u8 o,.int .u8 p,q.v],.i 3] f λy w6=>¬((((ByteArray.mk #[33]).size+y.size:Nat):Int)>IntKind.i64.max)/\R (.returned (.tuple #[.string ((ByteArray.mk #[33])++y),.i 3])) w6) (aG (b==7) ((0:Int)<=0/\0<((c.n:Nat):Int)/\aW c.a λr=>bY f (r.add (Int.toNat 0 *4)) λs t u x=>qj [j] im #[.agg #[.i s,.int .u8 t,.int .u8 u,x.v],.i 4] f λz w7=>¬(((z.size+(ByteArray.mk #[42]).size:Nat):Int)>IntKind.i64.max)/\R (.returned (.tuple #[.string (z++(ByteArray.mk #[42])),.i 4])) w7) (dV j b d e c (ByteArray.mk #[99,97,116]) (ByteArray.mk #[]) 2 f R)))))):Calls Tryz.prog rW #[.agg #[.i b,.int .u8 d,.int .u8 e,c.v]] w R:=aM X [fA,gG,jc,MU] h
end regex_bare
namespace regex_Print
noncomputable abbrev X:Fx:=⟨Tryz.prog,Tryz.f132,[],[1]⟩
theorem cU (a b c:Int) (d:Sl) (w:World) (R:aD) (h:bE [] w λe k=>
 nJ [e] oK #[.agg #[.i a,.int .u8 b,.int .u8 c,d.v]] k λg j=>aG (g !=0) (R (.returned (.tuple #[.s0,.i g])) j) (qj [e] im #[.agg #[.i a,.int .u8 b,.int .u8 c,d.v],.i 0] j λf l=>R (.returned (.tuple #[.string f,.i 0])) l)):Calls Tryz.prog qZ #[.agg #[.i a,.int .u8 b,.int .u8 c,d.v]] w R:=aM X [] h
end regex_Print
namespace term_isNormal
noncomputable abbrev X:Fx:=⟨Tryz.prog,Tryz.f117,[],[3,6]⟩
theorem cU (s:ByteArray) (w:World) (R:aD) (h:WU qY #[.string s] w λb c d e y m z=>bE [] z λa u=>
 aG (m !=0) (loc [a] u λt=>R (.returned (.bool false)) t) (loc [a] u λt=>MJ [a] nV #[.agg #[.i b,.int .u8 c,.int .u8 d,e.v]] t λf g j k n w7=>bE [a] w7 λr x=>
 aG (n !=0) (loc [a,r] x λl=>R (.returned (.bool false)) l) (loc [a,r] x λl=>Uu [a,r] qZ #[.agg #[.i f,.int .u8 g,.int .u8 j,k.v]] l λo p q=>aG (p==0) (R (.returned (.bool (o.toList==s.toList))) q) (R (.returned (.bool false)) q)))):Calls Tryz.prog mZ #[.string s] w R:=aM X [] h
end term_isNormal
namespace enthymemelaw07_lives
noncomputable abbrev X:Fx:=⟨Tryz.prog,Tryz.f18,[],[1,4,7,10,12]⟩
abbrev P0:Ps:=[]
abbrev dV (w:World) (R:aD):Prop:=
 R (.returned (.bool false)) w
noncomputable def fA:=bK X [] (bH [0,1,1,1,4]) P0 dV
theorem cU (w:World) (R:aD) (h:Z2 qo #[.agg #[.slice none 0 0],.agg #[.i 0,.slice none 0 0,.i 0,.i 0,.u 0,.string (ByteArray.mk #[120]),.i 0,.i 8,.i 0]] w λk an s w1=>bE [] w1 λb w2=>
 loc [b] w2 λw3=>fH w3 (.cells #[.i 0] bP) λw4=>
 WZ [b] qo #[.agg #[k.v],.agg #[.i 4,.slice (some (nb w3)) 1 1,.i 0,.i 0,.u 0,.s0,.i 0,.i 0,.i 0]] w4 λl t x w5=>bE [b] w5 λc w6=>
 loc [b,c] w6 λw7=>fH w7 (.cells #[.i 0] bP) λw8=>
 WZ [b,c] qo #[.agg #[l.v],.agg #[.i 4,.slice (some (nb w7)) 1 1,.i 0,.i 0,.u 0,.s0,.i 0,.i 0,.i 0]] w8 λe y z w9=>bE [b,c] w9 λd f=>
 aG (s !=0) (loc [b,c,d] f λa=>dV a R) (aG (x !=0) (loc [b,c,d] f λa=>dV a R) (aG (z !=0) (loc [b,c,d] f λa=>dV a R) (aG (t !=1) (loc [b,c,d] f λa=>dV a R) (aG (y !=1) (loc [b,c,d] f λa=>dV a R) (aG (((e.n:Nat):Int) !=2) (loc [b,c,d] f λa=>dV a R) (loc [b,c,d] f λa=>fH a (.cells #[.i 0,.i 1] bP) λag=>
 g7 [b,c,d] kL #[.agg #[e.v],.agg #[.i 20,.slice (some (nb a)) 2 2,.i 0,.i 0,.u 0,.s0,.i 0,.i 0,.i 0]] ag λm o p aa ah=>bE [b,c,d] ah λg ai=>
 loc [b,c,d,g] ai λac=>fH ac (.cells #[.i 0] bP) λaj=>
 g7 [b,c,d,g] kL #[.agg #[e.v],.agg #[.i 21,.slice (some (nb ac)) 1 1,.i 8,.i 0,.u 0,.s0,.i 0,.i 0,.i 0]] aj λad ae af ab ak=>bE [b,c,d,g] ak λq r=>
 aG (aa==0) (aG ((m==0)&&((o==16)&&((p==0)&&true))) (loc [b,c,d,g,q] r λj=>R (.returned (.bool (ab==5))) j) (loc [b,c,d,g,q] r λj=>R (.returned (.bool false)) j)) (loc [b,c,d,g,q] r λj=>R (.returned (.bool false)) j)))))))):Calls Tryz.prog kg #[] w R:=aM X [fA] h
end enthymemelaw07_lives
namespace term_Find
noncomputable abbrev X:Fx:=⟨Tryz.prog,Tryz.f17,[],[2,6]⟩
theorem cU (b:Sl) (j:Int) (k:Sl) (l m n:Int) (o:ByteArray) (p q r:Int) (w:World) (R:aD) (h:bE [] w λa g=>
 fH g (.cells #[.i j,k.v,.i l,.i m,.u n,.string o,.i p,.i q,.i r] aE) λw2=>
 tt w2 (nb g) λs t x y z aa ab ac ad=>g7 [a] kL #[.agg #[b.v],.agg #[.i s,t.v,.i x,.i y,.u z,.string aa,.i ab,.i ac,.i ad]] w2 λd e f ae w3=>bE [a] w3 λc w4=>
 aG (ae !=0) (loc [a,c] w4 λw7=>R (.returned (.tuple #[.i 0,.bool false])) w7) (loc [a,c] w4 λw7=>bT w7 ((nb g).add 6) (.i d) λw8=>kept [a,c] w7 w8/\
 bT w8 (((nb g).add 6).add 1) (.i e) λw9=>kept [a,c] w8 w9/\
 bT w9 (((nb g).add 6).add 2) (.i f) λah=>kept [a,c] w9 ah/\
 nJ [a,c] oM #[.agg #[b.v],.pointer (some (nb g))] ah λag ai=>aG (decide (ag>=0)) (R (.returned (.tuple #[.i ag,.bool true])) ai) (R (.returned (.tuple #[.i 0,.bool false])) ai))):Calls Tryz.prog tz #[.agg #[b.v],.agg #[.i j,k.v,.i l,.i m,.u n,.string o,.i p,.i q,.i r]] w R:=aM X [] h
end term_Find
namespace enthymemeref07_Spoilt
noncomputable abbrev X:Fx:=⟨Tryz.prog,Tryz.f11,[(25,ls [0,1,2,3,4,5,6,7]),(7,ls [0,1,2,3,4,5,6,7,8,9])],[3,6]⟩
abbrev P0:Ps:=[(3,.l [.I,.s,.I,.I,.U,.st,.I,.I,.I] aE),(6,.l [.I,.s,.I,.I,.U,.st,.I,.I,.I] aE)]
abbrev dV (l:Nat) (a:Int) (b:Sl) (c d e:Int) (f:ByteArray) (g j k:Int) (m:Nat) (n:Int) (o:Sl) (p q r:Int) (s:ByteArray) (t x y:Int) (w:World) (R:aD):Prop:=
 loc [l,m] w λz=>R (.returned (.agg #[.i a,b.v,.i c,.i d,.u e,.string f,.i g,.i j,.i k])) z
noncomputable def fA:=bK X [] (bH [4]) P0 dV
abbrev P1:Ps:=[(2,.v [.I]),(3,.l [.I,.s,.I,.I,.U,.st,.I,.I,.I] aE),(6,.l [.I,.s,.I,.I,.U,.st,.I,.I,.I] aE),(8,.v [.I])]
def mD (t:Int) (v:Nat) (a:Int) (b:Sl) (c d e:Int) (f:ByteArray) (g i j:Int) (x:Nat) (k:Int) (l:Sl) (m n o:Int) (p:ByteArray) (q r s u:Int) (w:World) (R:aD):Prop:=cG P1 0 (X.Sem (bH [0,1,19,1,1,1,3])) t v a b c d e f g i j x k l m n o p q r s u w R
noncomputable def lu:=fU X (bH [0,1,19,1,1,1,3]) P1 mD
theorem dM:∀(aa:Int) (y:Nat) (d:Int) (b:Sl) (e f g:Int) (j:ByteArray) (k l m:Int) (z:Nat) (o:Int) (p:Sl) (q r s:Int) (t:ByteArray) (u v x c:Int) (w:World) (R:aD) (h:aG (decide (c<((b.n:Nat):Int))) ((IntKind.wrap .i64 (c+1))≠0/\loc [y,z] w λaf=>nJ [y,z] aR #[.i (IntKind.wrap .i64 (Int.tdiv aa (IntKind.wrap .i64 (c+1)))),.i 12] af λae ac=>(0:Int)<=c/\c<((b.n:Nat):Int)/\aW b.a λab=>bT ac (ab.add (Int.toNat c *1)) (.i ae) λad=>kept [y,z] ac ad/\
 mD aa y d b e f g j k l m z o p q r s t u v x (IntKind.wrap .i64 (c+1)) ad R) (dV y d b e f g j k l m z o p q r s t u v x w R)),mD aa y d b e f g j k l m z o p q r s t u v x c w R:=mp (cW (X:=X) [lu,fA] (bH [0,1,19,1,1,1,3]) P1)
theorem cU (c:Int) (s:Sl) (d e f:Int) (g:ByteArray) (j k l r q:Int) (w:World) (R:aD) (h:bE [] w λa w1=>
 bE [a] w1 λb w2=>
 fH w2 (.cells #[] bP) λw3=>
 ∃(m:Sl) (w4:World),Sem.run Tryz.prog (Builtin.append_ #[dK,dK] dK #[.slice (some (nb w2)) 0 0,s.v]) w3=.ok (m.v) w4/\kept [a,b] w3 w4/\loc [a,b] w4 λw5=>fH w5 (.cells #[.i q,.i (-1),.i 0,.i 1,.i 63,.i 64,.i 65,.i 1099511627776] bP) λw6=>
 nJ [a,b] aR #[.i q,.i 8] w6 λt w7=>(0:Int)<=t/\t<((8:Nat):Int)/\aW (some (nb w5)) λz=>∃o:Int,w7.cell? (z.add (Int.toNat t *1))=some (.i o)/\
 nJ [a,b] aR #[.i r,.i 10] w7 λn p=>aG (n==0) (loc [a,b] p λw9=>dV a o m d e f g j k l b 0 ⟨none,0,0⟩ 0 0 0 (ByteArray.mk #[]) 0 0 0 w9 R) (aG (n==1) (loc [a,b] p λai=>dV a c m o e f g j k l b 0 ⟨none,0,0⟩ 0 0 0 (ByteArray.mk #[]) 0 0 0 ai R) (aG (n==2) (loc [a,b] p λaj=>dV a c m d o f g j k l b 0 ⟨none,0,0⟩ 0 0 0 (ByteArray.mk #[]) 0 0 0 aj R) (aG (n==3) (loc [a,b] p λak=>dV a c m d e (IntKind.wrap .u64 o) g j k l b 0 ⟨none,0,0⟩ 0 0 0 (ByteArray.mk #[]) 0 0 0 ak R) (aG (n==4) (fH p (.cells #[.s0,.string (ByteArray.mk #[97]),.string (ByteArray.mk #[65]),.string (ByteArray.mk #[115,101,118,101,110,116,101,101,110,45,108,101,116,116,101,114,115]),.string (ByteArray.mk #[97,45,49]),.string (ByteArray.mk #[45]),.string (ByteArray.mk #[40]),.string (ByteArray.mk #[122,122])] cJ) λal=>
 nJ [a,b] aR #[.i q,.i 8] al λx ad=>(0:Int)<=x/\x<((8:Nat):Int)/\aW (some (nb p)) λaa=>∃ab:ByteArray,ad.cell? (aa.add (Int.toNat x *1))=some (.string ab)/\
 loc [a,b] ad λam=>dV a c m d e f ab j k l b 0 ⟨none,0,0⟩ 0 0 0 (ByteArray.mk #[]) 0 0 0 am R) (aG (n==5) (loc [a,b] p λan=>dV a c m d e f g o k l b 0 ⟨none,0,0⟩ 0 0 0 (ByteArray.mk #[]) 0 0 0 an R) (aG (n==6) (loc [a,b] p λao=>dV a c m d e f g j o l b 0 ⟨none,0,0⟩ 0 0 0 (ByteArray.mk #[]) 0 0 0 ao R) (aG (n==7) (loc [a,b] p λap=>dV a c m d e f g j k o b 0 ⟨none,0,0⟩ 0 0 0 (ByteArray.mk #[]) 0 0 0 ap R) (aG (n==8) (loc [a,b] p λaq=>nJ [a,b] aR #[.i q,.i 9] aq λah ae=>fH ae (.cells #[.i ah] bP) λaf=>
 ∃(ac:Sl) (y:World),Sem.run Tryz.prog (Builtin.append_ #[dK,dK] dK #[m.v,.slice (some (nb ae)) 1 1]) af=.ok (ac.v) y/\kept [a,b] af y/\loc [a,b] y λau=>dV a c ac d e f g j k l b 0 ⟨none,0,0⟩ 0 0 0 (ByteArray.mk #[]) 0 0 0 au R) (mD q a c m d e f g j k l b 0 ⟨none,0,0⟩ 0 0 0 (ByteArray.mk #[]) 0 0 0 0 p R)))))))))):Calls Tryz.prog nG #[.agg #[.i c,s.v,.i d,.i e,.u f,.string g,.i j,.i k,.i l],.i r,.i q] w R:=aM X [lu,fA] h
end enthymemeref07_Spoilt
namespace enthymemeref07_SameGraph
noncomputable abbrev X:Fx:=⟨Tryz.prog,Tryz.f16,[(6,ls [0,1,2,3,4,5,6,7,8,9])],[]⟩
abbrev P0:Ps:=[(0,.v [.s]),(1,.v [.s]),(5,.v [.I])]
def L0 (a b:Sl) (c:Int) (w:World) (R:aD):Prop:=cG P0 0 (X.Sem (bH [0,1,1,1,2])) a b c w R
noncomputable def eN:=fU X (bH [0,1,1,1,2]) P0 L0
theorem cC:∀(c d:Sl) (b:Int) (w:World) (R:aD) (h:aG (decide (b<((c.n:Nat):Int))) (vQ w λw1=>(0:Int)<=b/\b<((c.n:Nat):Int)/\aW c.a λe=>tt w1 (e.add (Int.toNat b *9)) λf g j k l m o p q=>(0:Int)<=b/\b<((d.n:Nat):Int)/\aW d.a λr=>tt w1 (r.add (Int.toNat b *9)) λs t x y z aa ab ac ad=>AR iJ #[.agg #[.i f,g.v,.i j,.i k,.u l,.string m,.i o,.i p,.i q],.agg #[.i s,t.v,.i x,.i y,.u z,.string aa,.i ab,.i ac,.i ad]] w1 λaf w2=>aG (!af) (R (.returned (.bool false)) w2) (L0 c d (IntKind.wrap .i64 (b+1)) w2 R)) (R (.returned (.bool true)) w)),L0 c d b w R:=mp (cW (X:=X) [eN] (bH [0,1,1,1,2]) P0)
theorem ok (a b:Sl) (w:World) (R:aD) (h:aG (((a.n:Nat):Int) !=((b.n:Nat):Int)) (R (.returned (.bool false)) w) (L0 a b 0 w R)):Calls Tryz.prog gA #[a.v,b.v] w R:=aM X [eN] h
end enthymemeref07_SameGraph
namespace enthymemeref07_Moved
noncomputable abbrev X:Fx:=⟨Tryz.prog,Tryz.f28,[],[2,4]⟩
abbrev P0:Ps:=[(1,.v [.s]),(2,.l [.I,.s,.I,.I,.U,.st,.I,.I,.I] aE),(4,.l [.I,.s,.I,.I,.U,.st,.I,.I,.I] aE),(5,.v [.s]),(6,.v [.I])]
def eE (t:Sl) (x:Nat) (a:Int) (b:Sl) (c d e:Int) (f:ByteArray) (g i j:Int) (y:Nat) (k:Int) (l:Sl) (m n o:Int) (p:ByteArray) (q r s:Int) (v:Sl) (u:Int) (w:World) (R:aD):Prop:=cG P0 0 (X.Sem (bH [0,1,1,1,2])) t x a b c d e f g i j y k l m n o p q r s v u w R
noncomputable def eN:=fU X (bH [0,1,1,1,2]) P0 eE
theorem aY:∀(o:Sl) (n2:Nat) (c:Int) (b:Sl) (d e f:Int) (g:ByteArray) (j k l:Int) (t4:Nat) (q:Int) (r:Sl) (s t x:Int) (y:ByteArray) (z aa ab:Int) (k5:Sl) (p:Int) (w:World) (R:aD) (h:aG (decide (p<((b.n:Nat):Int))) ((0:Int)<=p/\p<((b.n:Nat):Int)/\aW b.a λad=>∃m:Int,w.cell? (ad.add (Int.toNat p *1))=some (.i m)/\
 (0:Int)<=m/\m<((o.n:Nat):Int)/\aW o.a λae=>∃ag:Int,w.cell? (ae.add (Int.toNat m *1))=some (.i ag)/\
 fH w (.cells #[.i ag] bP) λw3=>
 ∃(ah:Sl) (w4:World),Sem.run Tryz.prog (Builtin.append_ #[dK,dK] dK #[k5.v,.slice (some (nb w)) 1 1]) w3=.ok (ah.v) w4/\kept [n2,t4] w3 w4/\eE o n2 c b d e f g j k l t4 q r s t x y z aa ab ah (IntKind.wrap .i64 (p+1)) w4 R) (loc [n2,t4] w λak=>R (.returned (.agg #[.i c,k5.v,.i d,.i e,.u f,.string g,.i j,.i k,.i l])) ak)),eE o n2 c b d e f g j k l t4 q r s t x y z aa ab k5 p w R:=mp (cW (X:=X) [eN] (bH [0,1,1,1,2]) P0)
theorem cU (a:Int) (b:Sl) (c d e:Int) (f:ByteArray) (g j k:Int) (l:Sl) (w:World) (R:aD) (h:bE [] w λm o=>
 bE [m] o λn p=>
 eE l m a b c d e f g j k n 0 ⟨none,0,0⟩ 0 0 0 (ByteArray.mk #[]) 0 0 0 ⟨none,0,0⟩ 0 p R):Calls Tryz.prog il #[.agg #[.i a,b.v,.i c,.i d,.u e,.string f,.i g,.i j,.i k],l.v] w R:=aM X [eN] h
end enthymemeref07_Moved
namespace enthymemeref07_Join
noncomputable abbrev X:Fx:=⟨Tryz.prog,Tryz.f27,[],[]⟩
abbrev P0:Ps:=[(0,.v [.s]),(1,.v [.s]),(7,.v [.s]),(8,.v [.I])]
def L0 (b c a:Sl) (d:Int) (w:World) (R:aD):Prop:=cG P0 0 (X.Sem (bH [0,1,1,1,2])) b c a d w R
noncomputable def eN:=fU X (bH [0,1,1,1,2]) P0 L0
theorem cC:∀(g0 e c:Sl) (d:Int) (w:World) (R:aD) (h:aG (decide (d<((e.n:Nat):Int))) ((0:Int)<=d/\d<((e.n:Nat):Int)/\aW e.a λf=>tt w (f.add (Int.toNat d *9)) λg j k l m o p q r=>WV il #[.agg #[.i g,j.v,.i k,.i l,.u m,.string o,.i p,.i q,.i r],c.v] w λs t x y z aa ab ac ad w1=>Z1 jg #[g0.v,.agg #[.i s,t.v,.i x,.i y,.u z,.string aa,.i ab,.i ac,.i ad]] w1 λae af b w2=>aG (b !=0) (R (.returned (.tuple #[.slice none 0 0,.slice none 0 0,.i b])) w2) (fH w2 (.cells #[.i af] bP) λw3=>
 ∃(ag:Sl) (w4:World),Sem.run Tryz.prog (Builtin.append_ #[dK,dK] dK #[c.v,.slice (some (nb w2)) 1 1]) w3=.ok (ag.v) w4/\L0 ae e ag (IntKind.wrap .i64 (d+1)) w4 R)) (R (.returned (.tuple #[g0.v,c.v,.i 0])) w)),L0 g0 e c d w R:=mp (cW (X:=X) [eN] (bH [0,1,1,1,2]) P0)
theorem ok (a b:Sl) (w:World) (R:aD) (h:L0 a b ⟨none,0,0⟩ 0 w R):Calls Tryz.prog kP #[a.v,b.v] w R:=aM X [eN] h
end enthymemeref07_Join
namespace slices_Clone_sl_byte_byte
noncomputable abbrev X:Fx:=⟨Tryz.prog,Tryz.f72,[],[]⟩
theorem ok (b:Sl) (w:World) (R:aD) (h:aG b.a.isNone (R (.returned (.slice none 0 0)) w) (fH w (.cells #[] dF) λe=>
 ∃(c:Sl) (d:World),Sem.run Tryz.prog (Builtin.append_ #[bJ,bJ] bJ #[.slice (some (nb w)) 0 0,b.v]) e=.ok (c.v) d/\R (.returned (c.v)) d)):Calls Tryz.prog iq #[b.v] w R:=aM X [] h
end slices_Clone_sl_byte_byte
namespace wire_Writer_Uint
noncomputable abbrev X:Fx:=⟨Tryz.prog,Tryz.f97,[],[]⟩
abbrev P0:Ps:=[(0,.v [.r]),(1,.v [.U])]
def L0 (a:Addr) (b:Int) (w:World) (R:aD):Prop:=cG P0 0 (X.Sem (bH [0,2])) a b w R
noncomputable def eN:=fU X (bH [0,2]) P0 L0
theorem cC:∀(a:Addr) (b:Int) (w:World) (R:aD) (h:aG (decide (b>=128)) (∃c:Sl,w.cell? (a.add 0)=some (c.v)/\
 fH w (.cells #[.int .u8 (WI .u8 (IntKind.wrap .u8 b) 128)] dF) λj=>
 ∃(d:Sl) (g:World),Sem.run Tryz.prog (Builtin.append_ #[bJ,bJ] bJ #[c.v,.slice (some (nb w)) 1 1]) j=.ok (d.v) g/\bT g (a.add 0) (d.v) λk=>
 L0 a (Int.fdiv b (2^(7))) k R) (∃e:Sl,w.cell? (a.add 0)=some (e.v)/\
 fH w (.cells #[.int .u8 (IntKind.wrap .u8 b)] dF) λl=>
 ∃(f:Sl) (i:World),Sem.run Tryz.prog (Builtin.append_ #[bJ,bJ] bJ #[e.v,.slice (some (nb w)) 1 1]) l=.ok (f.v) i/\bT i (a.add 0) (f.v) λm=>
 R (.returned (.tuple #[])) m)),L0 a b w R:=mp (cW (X:=X) [eN] (bH [0,2]) P0)
theorem ok (a:Addr) (b:Int) (w:World) (R:aD) (h:L0 a b w R):Calls Tryz.prog gT #[.pointer (some a),.u b] w R:=aM X [eN] h
end wire_Writer_Uint
namespace wire_Writer_Int
noncomputable abbrev X:Fx:=⟨Tryz.prog,Tryz.f61,[],[]⟩
theorem ok (a:Addr) (b:Int) (w:World) (R:aD) (h:yE gT #[.pointer (some a),.u (Pj .u64 (IntKind.wrap .u64 ((IntKind.wrap .u64 b) *2^(1))) (IntKind.wrap .u64 (Int.fdiv b (2^(63)))))] w λc=>R (.returned (.tuple #[])) c):Calls Tryz.prog eR #[.pointer (some a),.i b] w R:=aM X [] h
end wire_Writer_Int
namespace wire_Writer_Ints
noncomputable abbrev X:Fx:=⟨Tryz.prog,Tryz.f98,[],[]⟩
abbrev P0:Ps:=[(0,.v [.r]),(11,.v [.s]),(12,.v [.I]),(13,.v [.I])]
def L0 (d:Addr) (a:Sl) (b c:Int) (w:World) (R:aD):Prop:=cG P0 0 (X.Sem (bH [0,1,2])) d a b c w R
noncomputable def eN:=fU X (bH [0,1,2]) P0 L0
theorem cC:∀(e:Addr) (c:Sl) (d b:Int) (w:World) (R:aD) (h:aG (decide (b<d)) ((0:Int)<=b/\b<((c.n:Nat):Int)/\aW c.a λf=>∃g:Int,w.cell? (f.add (Int.toNat b *1))=some (.i g)/\
 yE eR #[.pointer (some e),.i g] w λj=>L0 e c d (IntKind.wrap .i64 (b+1)) j R) (R (.returned (.tuple #[])) w)),L0 e c d b w R:=mp (cW (X:=X) [eN] (bH [0,1,2]) P0)
theorem ok (a:Addr) (b:Sl) (w:World) (R:aD) (h:yE gT #[.pointer (some a),.u (IntKind.wrap .u64 ((b.n:Nat):Int))] w λc=>L0 a b ((b.n:Nat):Int) 0 c R):Calls Tryz.prog ku #[.pointer (some a),b.v] w R:=aM X [eN] h
end wire_Writer_Ints
namespace wire_Writer_Text
noncomputable abbrev X:Fx:=⟨Tryz.prog,Tryz.f99,[],[]⟩
theorem ok (a:Addr) (d:ByteArray) (w:World) (R:aD) (h:yE gT #[.pointer (some a),.u (IntKind.wrap .u64 ((d.size:Nat):Int))] w λe=>∃b:Sl,e.cell? (a.add 0)=some (b.v)/\
 ∃(c:Sl) (f:World),Sem.run Tryz.prog (Builtin.append_ #[bJ,cJ] bJ #[b.v,.string d]) e=.ok (c.v) f/\bT f (a.add 0) (c.v) λg=>
 R (.returned (.tuple #[])) g):Calls Tryz.prog nl #[.pointer (some a),.string d] w R:=aM X [] h
end wire_Writer_Text
namespace wire_Writer_Done
noncomputable abbrev X:Fx:=⟨Tryz.prog,Tryz.f63,[],[]⟩
theorem ok (a:Addr) (w:World) (R:aD) (h:∃b:Sl,w.cell? (a.add 0)=some (b.v)/\
 WW iq #[b.v] w λc d=>R (.returned (c.v)) d):Calls Tryz.prog nk #[.pointer (some a)] w R:=aM X [] h
end wire_Writer_Done
namespace term_write
noncomputable abbrev X:Fx:=⟨Tryz.prog,Tryz.f62,[],[]⟩
theorem ok (a b:Addr) (w:World) (R:aD) (h:∃m:Int,w.cell? (b.add 0)=some (.i m)/\
 yE eR #[.pointer (some a),.i m] w λn=>∃c:Sl,n.cell? (b.add 1)=some (c.v)/\
 yE ku #[.pointer (some a),c.v] n λo=>∃d:Int,o.cell? (b.add 2)=some (.i d)/\
 yE eR #[.pointer (some a),.i d] o λp=>∃e:Int,p.cell? (b.add 3)=some (.i e)/\
 yE eR #[.pointer (some a),.i e] p λq=>∃f:Int,q.cell? (b.add 4)=some (.u f)/\
 yE gT #[.pointer (some a),.u f] q λr=>∃g:ByteArray,r.cell? (b.add 5)=some (.string g)/\
 yE nl #[.pointer (some a),.string g] r λs=>∃j:Int,s.cell? ((b.add 6).add 0)=some (.i j)/\
 yE eR #[.pointer (some a),.i j] s λt=>∃k:Int,t.cell? ((b.add 6).add 1)=some (.i k)/\
 yE eR #[.pointer (some a),.i k] t λx=>∃l:Int,x.cell? ((b.add 6).add 2)=some (.i l)/\
 yE eR #[.pointer (some a),.i l] x λy=>R (.returned (.tuple #[])) y):Calls Tryz.prog rZ #[.pointer (some a),.pointer (some b)] w R:=aM X [] h
end term_write
namespace term_keyOf
noncomputable abbrev X:Fx:=⟨Tryz.prog,Tryz.f95,[],[]⟩
theorem ok (b:Addr) (w:World) (R:aD) (h:fH w (.cells #[.slice none 0 0] iF) λe=>
 yE rZ #[.pointer (some (nb w)),.pointer (some b)] e λf=>WW nk #[.pointer (some (nb w))] f λd a=>∃c:ByteArray,Sem.run Tryz.prog (Go.convert bJ cJ (d.v)) a=.ok (.string c) a/\R (.returned (.string c)) a):Calls Tryz.prog pV #[.pointer (some b)] w R:=aM X [] h
end term_keyOf
namespace term_builder_sortOf_1
noncomputable abbrev X:Fx:=⟨Tryz.prog,Tryz.f94,[],[3,5]⟩
theorem cU (d:ByteArray) (l:Addr) (w:World) (R:aD) (h:bE [] w λk f=>
 ∃m:Option Addr,f.cell? l=some (.pointer m)/\
 aW m λj=>∃g:Option Nat,f.cell? (j.add 2)=some (.map g)/\
 ∃a:Int,∃b:Int,∃c:Int,∃e:Bool,Sem.run Tryz.prog (Instr.lookup kB (.map g) (.string d) true) f=.ok (.tuple #[.agg #[.i a,.i b,.i c],.bool e]) f/\bE [k] f λn o=>
 loc [k,n] o λp=>R (.returned (.tuple #[.agg #[.i a,.i b,.i c],.bool e])) p):Calls Tryz.prog hM #[.string d,.pointer (some l)] w R:=aM X [] h
end term_builder_sortOf_1
namespace term_builder_sortOf
noncomputable abbrev X:Fx:=⟨Tryz.prog,Tryz.f55,[(1,ls [0,1,2,3,4,5,6,7,8,9,10])],[3,4]⟩
theorem cU (t:Addr) (d:Int) (e:Sl) (f g j:Int) (k:ByteArray) (l m n:Int) (w:World) (R:aD) (h:fH w (.cells #[.pointer (some t)] wN) λz=>
 bE [] z λo w2=>
 bE [o] w2 λq w3=>
 loc [o,q] w3 λs=>∃x:Option Addr,s.cell? (nb w)=some (.pointer x)/\
 aW x λr=>∃y:Sl,s.cell? (r.add 0)=some (y.v)/\
 g7 [o,q] oN #[y.v,.agg #[.i d,e.v,.i f,.i g,.u j,.string k,.i l,.i m,.i n],.func (.func hM) #[] #[.pointer (some (nb w))]] s λa b c p w5=>loc [o,q] w5 λw8=>R (.returned (.tuple #[.agg #[.i a,.i b,.i c],.i p])) w8):Calls Tryz.prog kS #[.pointer (some t),.agg #[.i d,e.v,.i f,.i g,.u j,.string k,.i l,.i m,.i n]] w R:=aM X [] h
end term_builder_sortOf
namespace term_builder_find
noncomputable abbrev X:Fx:=⟨Tryz.prog,Tryz.f56,[(1,ls [0,1,2,3,4,5,6,7,8,9,10])],[]⟩
theorem ok (p:Addr) (c:Int) (d:Sl) (e f g:Int) (j:ByteArray) (k l m:Int) (w:World) (R:aD) (h:fH w (.cells #[.i c,d.v,.i e,.i f,.u g,.string j,.i k,.i l,.i m] aE) λs=>
 vQ s λr=>∃n:Option Nat,r.cell? (p.add 1)=some (.map n)/\
 Km pV #[.pointer (some (nb w))] r λq o=>o.cell? (p.add 1)=some (.map n)/\∃a:Int,∃b:Bool,Sem.run Tryz.prog (Instr.lookup oe (.map n) (.string q) true) o=.ok (.tuple #[.i a,.bool b]) o/\R (.returned (.tuple #[.i a,.bool b])) o):Calls Tryz.prog mz #[.pointer (some p),.agg #[.i c,d.v,.i e,.i f,.u g,.string j,.i k,.i l,.i m]] w R:=aM X [] h
end term_builder_find
namespace term_builder_put
noncomputable abbrev X:Fx:=⟨Tryz.prog,Tryz.f57,[(1,ls [0,1,2,3,5,6,7,8,9,4,10]),(3,ls [0,1,2,3,4,5,6,7,8]),(4,ls [0,1,2,3,4,5,6,7,8,9,10])],[]⟩
abbrev P0:Ps:=[(0,.v [.r]),(3,.v [.r])]
abbrev S0 (b x:Addr) (w:World) (R:aD):Prop:=
 vQ w λo=>∃a:Sl,o.cell? (b.add 0)=some (a.v)/\
 tt o x λc d e f g j k l m=>fH o (.cells #[.i c,d.v,.i e,.i f,.u g,.string j,.i k,.i l,.i m] aE) λr=>
 r.cell? (b.add 0)=some (a.v)/\∃(p:Sl) (s:World),Sem.run Tryz.prog (Builtin.append_ #[bB,bB] bB #[a.v,.slice (some (nb o)) 1 1]) r=.ok (p.v) s/\bT s (b.add 0) (p.v) λt=>
 ∃q:Sl,t.cell? (b.add 0)=some (q.v)/\
 R (.returned (.i (IntKind.wrap .i64 (((q.n:Nat):Int) - 1)))) t
noncomputable def fA:=bK X [] (bH [3]) P0 S0
theorem ok (a:Addr) (b:Int) (c:Sl) (d e f:Int) (g:ByteArray) (j k l:Int) (w:World) (R:aD) (h:fH w (.cells #[.i b,c.v,.i d,.i e,.u f,.string g,.i j,.i k,.i l] aE) λw1=>
 vQ w1 λw2=>∃z:Option Nat,w2.cell? (a.add 1)=some (.map z)/\
 ∃m:Sl,w2.cell? (a.add 0)=some (m.v)/\
 Km pV #[.pointer (some (nb w))] w2 λt9 w3=>w3.cell? (a.add 0)=some (m.v)/\w3.cell? (a.add 1)=some (.map z)/\∃(r:World),Sem.run Tryz.prog (Instr.mapUpdate oe (.map z) (.string t9) (.i ((m.n:Nat):Int))) w3=.ok () r/\∃t:Int,r.cell? ((nb w).add 0)=some (.i t)/\
 aG (t==0) (vQ r λs=>∃x:Option Nat,s.cell? (a.add 2)=some (.map x)/\
 ∃y:ByteArray,s.cell? ((nb w).add 5)=some (.string y)/\
 dN s ((nb w).add 6) λo p q=>∃(w6:World),Sem.run Tryz.prog (Instr.mapUpdate kB (.map x) (.string y) (.agg #[.i o,.i p,.i q])) s=.ok () w6/\S0 a (nb w) w6 R) (S0 a (nb w) r R)):Calls Tryz.prog kr #[.pointer (some a),.agg #[.i b,c.v,.i d,.i e,.u f,.string g,.i j,.i k,.i l]] w R:=aM X [fA] h
end term_builder_put
namespace term_newBuilder
noncomputable abbrev X:Fx:=⟨Tryz.prog,Tryz.f54,[],[1,5]⟩
abbrev P0:Ps:=[(3,.v [.r]),(11,.v [.s]),(12,.v [.I]),(13,.v [.I])]
def eE (d:Addr) (a:Sl) (b c:Int) (w:World) (R:aD):Prop:=cG P0 0 (X.Sem (bH [0,1,1,1,2])) d a b c w R
noncomputable def eN:=fU X (bH [0,1,1,1,2]) P0 eE
theorem aY:∀(e:Addr) (c:Sl) (d b:Int) (w:World) (R:aD) (h:aG (decide (b<d)) ((0:Int)<=b/\b<((c.n:Nat):Int)/\aW c.a λf=>tt w (f.add (Int.toNat b *9)) λg j k l m o p q r=>bE [] w λs y=>
 loc [s] y λt=>nJ [s] kr #[.pointer (some e),.agg #[.i g,j.v,.i k,.i l,.u m,.string o,.i p,.i q,.i r]] t λz x=>eE e c d (IntKind.wrap .i64 (b+1)) x R) (R (.returned (.pointer (some e))) w)),eE e c d b w R:=mp (cW (X:=X) [eN] (bH [0,1,1,1,2]) P0)
theorem cU (a:Sl) (w:World) (R:aD) (h:bE [] w λf b=>
 fH b (.map #[] 0) λc=>
 fH c (.map #[] 0) λd=>
 fH d (.cells #[.slice none 0 0,.map (some b.heap.size),.map (some c.heap.size)] gJ) λe=>
 eE (nb d) a ((a.n:Nat):Int) 0 e R):Calls Tryz.prog nX #[.agg #[a.v]] w R:=aM X [eN] h
end term_newBuilder
namespace term_builder_add
noncomputable abbrev X:Fx:=⟨Tryz.prog,Tryz.f58,[],[3,6]⟩
theorem cU (p:Addr) (d:Int) (e:Sl) (f g j:Int) (k:ByteArray) (q r s:Int) (w:World) (R:aD) (h:bE [] w λo w1=>
 g7 [o] kS #[.pointer (some p),.agg #[.i d,e.v,.i f,.i g,.u j,.string k,.i q,.i r,.i s]] w1 λa b c l w2=>bE [o] w2 λt w3=>
 aG (l !=0) (loc [o,t] w3 λw6=>R (.returned (.tuple #[.i 0,.i l])) w6) (loc [o,t] w3 λw9=>cf6 [o,t] mz #[.pointer (some p),.agg #[.i d,e.v,.i f,.i g,.u j,.string k,.i a,.i b,.i c]] w9 λx y m=>aG y (R (.returned (.tuple #[.i x,.i 0])) m) (∃z:Sl,m.cell? (p.add 0)=some (z.v)/\
 aG (decide (((z.n:Nat):Int)>=4096)) (R (.returned (.tuple #[.i 0,.i 4])) m) (nJ [o,t] kr #[.pointer (some p),.agg #[.i d,e.v,.i f,.i g,.u j,.string k,.i a,.i b,.i c]] m λaa ab=>R (.returned (.tuple #[.i aa,.i 0])) ab)))):Calls Tryz.prog nj #[.pointer (some p),.agg #[.i d,e.v,.i f,.i g,.u j,.string k,.i q,.i r,.i s]] w R:=aM X [] h
end term_builder_add
namespace term_moved
noncomputable abbrev X:Fx:=⟨Tryz.prog,Tryz.f59,[],[2,4]⟩
abbrev P0:Ps:=[(1,.v [.s]),(2,.l [.I,.s,.I,.I,.U,.st,.I,.I,.I] aE),(4,.l [.I,.s,.I,.I,.U,.st,.I,.I,.I] aE),(5,.v [.s]),(13,.v [.I]),(14,.v [.I])]
def eE (x:Sl) (y:Nat) (b:Int) (c:Sl) (d e f:Int) (g:ByteArray) (i j k:Int) (z:Nat) (l:Int) (m:Sl) (n o p:Int) (q:ByteArray) (r s t:Int) (a:Sl) (u v:Int) (w:World) (R:aD):Prop:=cG P0 0 (X.Sem (bH [0,1,1,1,2])) x y b c d e f g i j k z l m n o p q r s t a u v w R
noncomputable def eN:=fU X (bH [0,1,1,1,2]) P0 eE
theorem aY:∀(q:Sl) (n2:Nat) (e:Int) (d:Sl) (f g j:Int) (k:ByteArray) (l m o:Int) (t4:Nat) (s:Int) (t:Sl) (x y z:Int) (aa:ByteArray) (ab ac ad:Int) (b:Sl) (r c:Int) (w:World) (R:aD) (h:aG (decide (c<r)) ((0:Int)<=c/\c<((d.n:Nat):Int)/\aW d.a λaf=>∃p:Int,w.cell? (af.add (Int.toNat c *1))=some (.i p)/\
 (0:Int)<=p/\p<((q.n:Nat):Int)/\aW q.a λag=>∃aj:Int,w.cell? (ag.add (Int.toNat p *1))=some (.i aj)/\
 (0:Int)<=c/\c<((b.n:Nat):Int)/\aW b.a λah=>bT w (ah.add (Int.toNat c *1)) (.i aj) λw4=>kept [n2,t4] w w4/\
 eE q n2 e d f g j k l m o t4 s t x y z aa ab ac ad b r (IntKind.wrap .i64 (c+1)) w4 R) (loc [n2,t4] w λak=>R (.returned (.agg #[.i e,b.v,.i f,.i g,.u j,.string k,.i l,.i m,.i o])) ak)),eE q n2 e d f g j k l m o t4 s t x y z aa ab ac ad b r c w R:=mp (cW (X:=X) [eN] (bH [0,1,1,1,2]) P0)
theorem cU (b:Int) (a:Sl) (c d e:Int) (f:ByteArray) (g j k:Int) (m:Sl) (w:World) (R:aD) (h:bE [] w λo s=>
 bE [o] s λq r=>
 ∃(l:Sl) (p:World),Sem.run Tryz.prog (Instr.makeSlice dK (.i ((a.n:Nat):Int)) (.i ((a.n:Nat):Int))) r=.ok (l.v) p/\kept [o,q] r p/\eE m o b a c d e f g j k q 0 ⟨none,0,0⟩ 0 0 0 (ByteArray.mk #[]) 0 0 0 l ((a.n:Nat):Int) 0 p R):Calls Tryz.prog rY #[.agg #[.i b,a.v,.i c,.i d,.u e,.string f,.i g,.i j,.i k],m.v] w R:=aM X [eN] h
end term_moved
namespace slices_Clip_sl_api_Node_api_Node
noncomputable abbrev X:Fx:=⟨Tryz.prog,Tryz.f96,[],[]⟩
theorem ok (b:Sl) (w:World) (R:aD) (h:(0:Int)<=((b.n:Nat):Int)/\((b.n:Nat):Int)<=((b.c:Nat):Int)/\(0:Int)<=((b.n:Nat):Int)/\((b.n:Nat):Int)<=(((Int.toNat ((b.n:Nat):Int)):Nat):Int)/\R (.returned (.slice (if (Int.toNat ((b.n:Nat):Int))=0 then b.a else b.a.map (·.add (0 *9))) ((Int.toNat ((b.n:Nat):Int)) - 0) ((Int.toNat ((b.n:Nat):Int)) - 0))) w):Calls Tryz.prog fT #[b.v] w R:=aM X [] h
end slices_Clip_sl_api_Node_api_Node
namespace term_builder_graph
noncomputable abbrev X:Fx:=⟨Tryz.prog,Tryz.f60,[(1,ls [0,1,2,3,4,5,6,7,8])],[3,4]⟩
theorem cU (f:Addr) (a:Sl) (w:World) (R:aD) (h:bE [] w λb j=>
 bE [b] j λc k=>
 loc [b,c] k λd=>∃i:Sl,d.cell? (f.add 0)=some (i.v)/\
 aG (((i.n:Nat):Int)==((a.n:Nat):Int)) (loc [b,c] d λl=>R (.returned (.agg #[a.v])) l) (∃e:Sl,d.cell? (f.add 0)=some (e.v)/\
 Sd [b,c] fT #[e.v] d λg m=>loc [b,c] m λo=>R (.returned (.agg #[g.v])) o)):Calls Tryz.prog lP #[.pointer (some f),.agg #[a.v]] w R:=aM X [] h
end term_builder_graph
namespace term_Join
noncomputable abbrev X:Fx:=⟨Tryz.prog,Tryz.f26,[],[2,3,4,10]⟩
abbrev P0:Ps:=[(2,.l [.s] eZ),(4,.l [.s] eZ),(7,.v [.p]),(8,.v [.s]),(20,.v [.s]),(21,.v [.I]),(22,.v [.I])]
def eE (i:Nat) (a:Sl) (j:Nat) (b:Sl) (g:Option Addr) (f c:Sl) (d e:Int) (w:World) (R:aD):Prop:=cG P0 0 (X.Sem (bH [0,1,1,1,3])) i a j b g f c d e w R
noncomputable def eN:=fU X (bH [0,1,1,1,3]) P0 eE
theorem aY:∀(c:Nat) (g:Sl) (d:Nat) (m:Sl) (p:Option Addr) (e j:Sl) (l b:Int) (w:World) (R:aD) (h:aG (decide (b<l)) ((0:Int)<=b/\b<((j.n:Nat):Int)/\aW j.a λq=>tt w (q.add (Int.toNat b *9)) λr s t x y z aa ab ac=>bE [c,d] w λf w6=>
 loc [c,d,f] w6 λaq=>Ut [c,d,f] rY #[.agg #[.i r,s.v,.i t,.i x,.u y,.string z,.i aa,.i ab,.i ac],e.v] aq λad ae af ag ah ai aj ak al ar=>cf5 [c,d,f] nj #[.pointer p,.agg #[.i ad,ae.v,.i af,.i ag,.u ah,.string ai,.i aj,.i ak,.i al]] ar λam k o=>aG (k !=0) (loc [c,d,f] o λau=>R (.returned (.tuple #[.agg #[.slice none 0 0],.slice none 0 0,.i k])) au) ((0:Int)<=b/\b<((e.n:Nat):Int)/\aW e.a λan=>bT o (an.add (Int.toNat b *1)) (.i am) λap=>kept [c,d,f] o ap/\
 eE c g d m p e j l (IntKind.wrap .i64 (b+1)) ap R)) (Z7 [c,d] lP #[.pointer p,.agg #[g.v]] w λao av=>loc [c,d] av λaw=>R (.returned (.tuple #[.agg #[ao.v],e.v,.i 0])) aw)),eE c g d m p e j l b w R:=mp (cW (X:=X) [eN] (bH [0,1,1,1,3]) P0)
theorem cU (b a:Sl) (w:World) (R:aD) (h:bE [] w λc l=>
 bE [c] l λe m=>
 bE [c,e] m λf o=>
 YU [c,e,f] nX #[.agg #[b.v]] o λj k=>∃(d:Sl) (g:World),Sem.run Tryz.prog (Instr.makeSlice dK (.i ((a.n:Nat):Int)) (.i ((a.n:Nat):Int))) k=.ok (d.v) g/\kept [c,e,f] k g/\eE c b f ⟨none,0,0⟩ j d a ((a.n:Nat):Int) 0 g R):Calls Tryz.prog qJ #[.agg #[b.v],.agg #[a.v]] w R:=aM X [eN] h
end term_Join
namespace enthymemelaw07_TermJoins
noncomputable abbrev X:Fx:=⟨Tryz.prog,Tryz.f6,[(21,ls [0,1,2,3,4,5,6,7,8,9,10,11,12])],[13,19,20]⟩
abbrev P0:Ps:=[]
abbrev gm (w:World) (R:aD):Prop:=
 R (.returned (.bool false)) w
noncomputable def gG:=bK X [] (bH [0,1,1,1,6]) P0 gm
abbrev fB (w:World) (R:aD):Prop:=
 R (.returned (.bool false)) w
noncomputable def fX:=bK X [gG] (bH [0,1,1,1,9]) P0 fB
abbrev P1:Ps:=[(12,.v [.s]),(13,.l [.s] eZ),(14,.v [.s]),(17,.v [.s]),(21,.v [.s]),(23,.v [.I])]
def y6 (e:Sl) (g:Nat) (c d b a:Sl) (f:Int) (w:World) (R:aD):Prop:=cG P1 0 (X.Sem (bH [0,1,1,1,10])) e g c d b a f w R
noncomputable def I3:=fU X (bH [0,1,1,1,10]) P1 y6
abbrev P2:Ps:=[(12,.v [.s]),(13,.l [.s] eZ),(14,.v [.s]),(17,.v [.s]),(24,.v [.I])]
def WC (d:Sl) (f:Nat) (b c a:Sl) (e:Int) (w:World) (R:aD):Prop:=cG P2 0 (X.Sem (bH [0,1,1,1,11])) d f b c a e w R
noncomputable def W6:=fU X (bH [0,1,1,1,11]) P2 WC
abbrev CC (w:World) (R:aD):Prop:=
 R (.returned (.bool false)) w
noncomputable def uk:=bK X [W6,I3,fX,gG] (bH [0,1,2,2,1,2,1,1,11]) P0 CC
theorem D7:∀(g:Sl) (e:Nat) (f c d:Sl) (b:Int) (w:World) (R:aD) (h:aG (decide (b<((c.n:Nat):Int))) ((0:Int)<=b/\b<((g.n:Nat):Int)/\aW g.a λk=>loc [e] w λal=>tt al (k.add (Int.toNat b *9)) λl m o p q r s t x=>Ut [e] il #[.agg #[.i l,m.v,.i o,.i p,.u q,.string r,.i s,.i t,.i x],d.v] al λy z aa ab ac ad ae af ag an=>cf6 [e] tz #[.agg #[f.v],.agg #[.i y,z.v,.i aa,.i ab,.u ac,.string ad,.i ae,.i af,.i ag]] an λah ai j=>aG (!ai) (CC j R) ((0:Int)<=b/\b<((c.n:Nat):Int)/\aW c.a λaj=>∃ak:Int,j.cell? (aj.add (Int.toNat b *1))=some (.i ak)/\
 aG (ah !=ak) (CC j R) (WC g e f c d (IntKind.wrap .i64 (b+1)) j R))) (jW [e] kg #[] w λam ao=>R (.returned (.bool am)) ao)),WC g e f c d b w R:=mp (cW (X:=X) [uk,W6,I3,fX,gG] (bH [0,1,1,1,11]) P2)
theorem mK:∀(g:Sl) (l:Nat) (e f d b:Sl) (c:Int) (w:World) (R:aD) (h:aG (decide (c<((b.n:Nat):Int))) ((0:Int)<=c/\c<((b.n:Nat):Int)/\aW b.a λj=>∃k:Int,w.cell? (j.add (Int.toNat c *1))=some (.i k)/\
 aG (k !=c) (R (.returned (.bool false)) w) (y6 g l e f d b (IntKind.wrap .i64 (c+1)) w R)) (WC g l e f d 0 w R)),y6 g l e f d b c w R:=mp (cW (X:=X) [uk,W6,I3,fX,gG] (bH [0,1,1,1,10]) P1)
abbrev P3:Ps:=[(3,.v [.I]),(11,.v [.s]),(12,.v [.s])]
abbrev dV (s:Int) (d q:Sl) (w:World) (R:aD):Prop:=
 Z3 qJ #[.agg #[d.v],.agg #[q.v]] w λf k t w1=>bE [] w1 λb w2=>
 loc [b] w2 λw3=>Z9 [b] kP #[d.v,q.v] w3 λu l x w4=>aG (t !=x) (gm w4 R) (jW [b] gA #[f.v,u.v] w4 λab w5=>aG (!ab) (gm w5 R) (jW [b] gK #[k.v,l.v] w5 λac w6=>aG (!ac) (gm w6 R) (nJ [b] aR #[.i s,.i (IntKind.wrap .i64 (((d.n:Nat):Int)+1))] w6 λm w7=>(0:Int)<=m/\m<=((d.c:Nat):Int)/\bE [b] w7 λe w8=>
 loc [b,e] w8 λw9=>Z8 [b,e] qJ #[.agg #[d.v],.agg #[.slice (if d.c=0 then d.a else d.a.map (·.add (0 *9))) ((Int.toNat m) - 0) (d.c - 0)]] w9 λp o y ad=>bE [b,e] ad λj r=>
 aG (y !=0) (loc [b,e,j] r λg=>fB g R) (aG (((o.n:Nat):Int) !=((((Int.toNat m) - 0):Nat):Int)) (loc [b,e,j] r λg=>fB g R) (loc [b,e,j] r λg=>jW [b,e,j] gA #[p.v,d.v] g λaa z=>aG (!aa) (fB z R) (y6 q b f k l o 0 z R))))))
noncomputable def fA:=bK X [uk,W6,I3,fX,gG] (bH [4]) P3 dV
theorem cU (j k:Sl) (a b c:Int) (w:World) (R:aD) (h:BF aR #[.i a,.i 3] w λl r=>WW iI #[j.v,.i l,.i 10] r λg s=>BF aR #[.i (IntKind.wrap .i64 (Int.tdiv a 3)),.i 3] s λm t=>WW iI #[k.v,.i m,.i 10] t λn p=>aG ((Int.tmod c 4)==0) (BF aR #[.i c,.i 4] p λo x=>Eo aT #[.i (IntKind.wrap .i64 (1+o))] x λd e f q=>fH q (.cells #[.i 0,.slice none 0 0,.i 0,.i 0,.u 0,.string (ByteArray.mk #[97]),.i d,.i e,.i f] aE) λy=>
 dV b g ⟨some (nb q),1,1⟩ y R) (dV b g n p R)):Calls Tryz.prog lH #[j.v,k.v,.i a,.i b,.i c] w R:=aM X [fA,uk,W6,I3,fX,gG] h
end enthymemelaw07_TermJoins
end Go.Proofs.YtcifihepfadgfaaGreatDoor
