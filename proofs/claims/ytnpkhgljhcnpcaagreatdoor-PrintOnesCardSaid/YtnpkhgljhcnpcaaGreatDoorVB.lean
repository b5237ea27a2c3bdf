import Derived.Test.YtnpkhgljhcnpcaaGreatDoorV
set_option linter.unusedVariables false
set_option maxRecDepth 100000
set_option maxHeartbeats 2000000
noncomputable section
set_option linter.defProp false
namespace Go.Proofs.YtnpkhgljhcnpcaaGreatDoor
open Go renaming World->aA,Calls->aH
open Go.IntKind renaming wrap->aC
open _root_.Int renaming toNat->aF
open _root_.ByteArray renaming mk->aE
open Go.Proofs.Tryz renaming prog->aB
open _root_.Decidable renaming decide->aR
open Go.Ending renaming returned->aJ
open Go Go.W
namespace enthymemeref07_BV
abbrev X:Fx:=⟨aB,Tryz.f34,[],[2]⟩
def dQ (a:Int) (w:aA) (R:aT) (h:cB [] w λb c=>
 loc [b] c λd=>R (aJ (.agg #[.i 0,.i a,.i 0])) d):aH aB bL #[.i a] w R:=aZ X [] h
end enthymemeref07_BV
namespace enthymemeref07_Strings
abbrev X:Fx:=⟨aB,Tryz.f35,[],[2]⟩
def dQ (a:Int) (w:aA) (R:aT) (h:cB [] w λb c=>
 loc [b] c λd=>R (aJ (.agg #[.i 1,.i a,.i 0])) d):aH aB cP #[.i a] w R:=aZ X [] h
end enthymemeref07_Strings
namespace enthymemeref07_has
abbrev X:Fx:=⟨aB,Tryz.f78,[],[]⟩
def ok (b:Sl) (a:Int) (w:aA) (R:aT) (h:Dj mP #[b.v,.i a] w λc d=>R (aJ (.bool c)) d):aH aB jU #[b.v,.i a] w R:=aZ X [] h
end enthymemeref07_has
namespace enthymemeref07_Kids
abbrev X:Fx:=⟨aB,Tryz.f37,[],[]⟩
abbrev P0:Ps:=[]
abbrev S0 (w:aA) (R:aT):Prop:=
 R (aJ (.i (-1))) w
def fH:=bX X [] (bV [0,1,1,1,1]) P0 S0
abbrev S1 (w:aA) (R:aT):Prop:=
 R (aJ (.i 1)) w
def gN:=bX X [fH] (bV [0,1,1,1,1,1,3]) P0 S1
abbrev S3 (w:aA) (R:aT):Prop:=
 R (aJ (.i 3)) w
def iG:=bX X [gN,fH] (bV [0,1,3,1,1,1,3]) P0 S3
abbrev S4 (w:aA) (R:aT):Prop:=
 R (aJ (.i 2)) w
def ny:=bX X [iG,gN,fH] (bV [4]) P0 S4
abbrev P1:Ps:=[(11,.v [.I])]
abbrev S2 (a:Int) (w:aA) (R:aT):Prop:=
 aW (a==19) (aW (a==19) (S3 w R) (S4 w R)) (aW (a==25) (aW (a==25) (S3 w R) (S4 w R)) (aW (a==30) (aW (a==30) (S3 w R) (S4 w R)) (aW (a==32) (S3 w R) (S4 w R))))
def fU:=bX X [ny,iG,gN,fH] (bV [2,1,1,1,3]) P1 S2
def ok (a:Int) (w:aA) (R:aT) (h:aW (aR (a<0)) (S0 w R) (aW (aR (a>34)) (S0 w R) (aW (aR (a<=3)) (R (aJ (.i 0)) w) (aW (a==4) (aW (a==4) (S1 w R) (S2 a w R)) (aW (a==5) (aW (a==5) (S1 w R) (S2 a w R)) (aW (a==21) (aW (a==21) (S1 w R) (S2 a w R)) (aW (a==22) (aW (a==22) (S1 w R) (S2 a w R)) (aW (a==23) (aW (a==23) (S1 w R) (S2 a w R)) (aW (a==27) (aW (a==27) (S1 w R) (S2 a w R)) (aW (a==28) (aW (a==28) (S1 w R) (S2 a w R)) (aW (a==33) (aW (a==33) (S1 w R) (S2 a w R)) (aW (a==34) (S1 w R) (S2 a w R))))))))))))):aH aB jz #[.i a] w R:=aZ X [fU,ny,iG,gN,fH] h
end enthymemeref07_Kids
namespace enthymemeref07_Named
abbrev X:Fx:=⟨aB,Tryz.f79,[],[]⟩
abbrev P0:Ps:=[]
abbrev S0 (w:aA) (R:aT):Prop:=
 R (aJ (.bool false)) w
def fH:=bX X [] (bV [0,1,1,1,1]) P0 S0
abbrev P1:Ps:=[(0,.v [.st]),(3,.v [.I])]
def L1 (b:ByteArray) (a:Int) (w:aA) (R:aT):Prop:=dD P1 0 (X.Sem (bV [0,1,1,1,2])) b a w R
def kA:=gI X (bV [0,1,1,1,2]) P1 L1
abbrev S4 (b:ByteArray) (a:Int) (w:aA) (R:aT):Prop:=
 L1 b (aC .i64 (a+1)) w R
def ny:=bX X [kA,fH] (bV [2,2,1,1,2]) P1 S4
abbrev P2:Ps:=[(0,.v [.st]),(3,.v [.I]),(4,.v [.b]),(5,.v [.b])]
abbrev S3 (d:ByteArray) (c:Int) (a b:Bool) (w:aA) (R:aT):Prop:=
 aW (!a) (aW (!b) (R (aJ (.bool false)) w) (S4 d c w R)) (S4 d c w R)
def iG:=bX X [ny,kA,fH] (bV [2,2,1,2,1,1,2]) P2 S3
abbrev P3:Ps:=[(0,.v [.st]),(3,.v [.I]),(4,.v [.b])]
abbrev S2 (d:ByteArray) (b:Int) (a:Bool) (w:aA) (R:aT):Prop:=
 (0:Int)<=b/\∃e:UInt8,d[aF b]? =some e/\aW (aR (((e.toNat:Nat):Int)>=48)) ((0:Int)<=b/\∃f:UInt8,d[aF b]? =some f/\aW (aR (((f.toNat:Nat):Int)<=57)) (S3 d b a true w R) ((0:Int)<=b/\∃g:UInt8,d[aF b]? =some g/\S3 d b a (((g.toNat:Nat):Int)==45) w R)) ((0:Int)<=b/\∃c:UInt8,d[aF b]? =some c/\S3 d b a (((c.toNat:Nat):Int)==45) w R)
def fU:=bX X [iG,ny,kA,fH] (bV [1,2,1,2,1,1,2]) P3 S2
def nk:∀(d:ByteArray) (a:Int) (w:aA) (R:aT) (h:aW (aR (a<((d.size:Nat):Int))) ((0:Int)<=a/\∃b:UInt8,d[aF a]? =some b/\aW (aR (((b.toNat:Nat):Int)>=97)) ((0:Int)<=a/\∃c:UInt8,d[aF a]? =some c/\S2 d a (aR (((c.toNat:Nat):Int)<=122)) w R) (S2 d a false w R)) (R (aJ (.bool true)) w)),L1 d a w R:=mp (dV (X:=X) [fU,iG,ny,kA,fH] (bV [0,1,1,1,2]) P1)
def ok (c:ByteArray) (w:aA) (R:aT) (h:aW (aR (((c.size:Nat):Int)<1)) (S0 w R) (aW (aR (((c.size:Nat):Int)>16)) (S0 w R) ((0:Int)<=0/\∃a:UInt8,c[aF 0]? =some a/\aW (aR (((a.toNat:Nat):Int)<97)) (S0 w R) ((0:Int)<=0/\∃b:UInt8,c[aF 0]? =some b/\aW (aR (((b.toNat:Nat):Int)>122)) (S0 w R) (L1 c 0 w R))))):aH aB lB #[.string c] w R:=aZ X [fU,iG,ny,kA,fH] h
end enthymemeref07_Named
namespace enthymemeref06_within
abbrev X:Fx:=⟨aB,Tryz.f32,[],[]⟩
def ok (c b a:Int) (w:aA) (R:aT) (h:aW (aR (c>=b)) (R (aJ (.bool (aR (c<=a)))) w) (R (aJ (.bool false)) w)):aH aB cW #[.i c,.i b,.i a] w R:=aZ X [] h
end enthymemeref06_within
namespace enthymemeref06_ValidSort
abbrev X:Fx:=⟨aB,Tryz.f15,[],[1]⟩
abbrev P0:Ps:=[(3,.v [.b])]
abbrev eX (a:Bool) (w:aA) (R:aT):Prop:=
 aW (!a) (R (aJ (.i 9)) w) (R (aJ (.i 0)) w)
def fH:=bX X [] (bV [3]) P0 eX
def dQ (a b c:Int) (w:aA) (R:aT) (h:cB [] w λd e=>
 aW (a==0) (lO [d] cW #[.i b,.i 1,.i 64] e λf n=>aW f (eX (c==0) n R) (eX false n R)) (aW (a==1) (lO [d] cW #[.i b,.i 0,.i 64] e λg o=>aW g (eX (c==0) o R) (eX false o R)) (aW (a==2) (lO [d] cW #[.i b,.i 1,.i 64] e λj p=>aW j (lO [d] cW #[.i c,.i 1,.i 16] p λk r=>eX k r R) (eX false p R)) (aW (a==3) (lO [d] cW #[.i b,.i 0,.i 64] e λl q=>aW l (lO [d] cW #[.i c,.i 1,.i 16] q λm s=>eX m s R) (eX false q R)) (eX false e R))))):aH aB jo #[.agg #[.i a,.i b,.i c]] w R:=aZ X [fH] h
end enthymemeref06_ValidSort
namespace enthymemeref07_fields
abbrev X:Fx:=⟨aB,Tryz.f58,[(1,ls [0,1,3,4,5,2,6])],[3]⟩
abbrev P0:Ps:=[(0,.v [.s]),(3,.l [.I,.s,.I,.I,.U,.st,.I,.I,.I] bE),(5,.v [.I])]
def fO (k:Sl) (m:Nat) (a:Int) (b:Sl) (c d e:Int) (f:ByteArray) (g i j l:Int) (w:aA) (R:aT):Prop:=dD P0 0 (X.Sem (bV [0,1,1,1,2])) k m a b c d e f g i j l w R
def fI:=gI X (bV [0,1,1,1,2]) P0 fO
abbrev P1:Ps:=[]
abbrev gW (w:aA) (R:aT):Prop:=
 R (aJ (.i 1)) w
def gN:=bX X [fI] (bV [0,1,1,2,1,2,1,1,2]) P1 gW
abbrev fN (w:aA) (R:aT):Prop:=
 R (aJ (.i 1)) w
def fU:=bX X [gN,fI] (bV [0,1,1,1,5]) P1 fN
abbrev ir (w:aA) (R:aT):Prop:=
 R (aJ (.i 0)) w
def iG:=bX X [fU,gN,fI] (bV [6]) P1 ir
def bT:∀(v:Sl) (q:Nat) (c:Int) (e:Sl) (l k f:Int) (d:ByteArray) (m o p j:Int) (w:aA) (R:aT) (h:aW (aR (j<((e.n:Nat):Int))) (bY e j λr=>∃t:Int,w.cell? (r.add (aF j *1))=some (.i t)/\
 aW (aR (t<0)) (gW w R) (bY e j λs=>∃u:Int,w.cell? (s.add (aF j *1))=some (.i u)/\
 aW (aR (u>=((v.n:Nat):Int))) (gW w R) (fO v q c e l k f d m o p (aC .i64 (j+1)) w R))) (gi w (.cells #[.i 21,.i 22,.i 23,.i 28] cT) λz=>
 lO [q] jU #[.slice (some (nb w)) 4 4,.i c] z λx y=>gi y (.cells #[.i 0,.i 2,.i 33] cT) λw6=>
 lO [q] jU #[.slice (some (nb y)) 3 3,.i c] w6 λg b=>aW (!x) (aW (l !=0) (fN b R) (aW (c !=21) (aW (k !=0) (fN b R) (aW (c !=1) (aW (f !=0) (fN b R) (aW (!g) (aW (!(d.toList==(aE #[]).toList)) (fN b R) (ir b R)) (ir b R))) (aW (!g) (aW (!(d.toList==(aE #[]).toList)) (fN b R) (ir b R)) (ir b R)))) (aW (c !=1) (aW (f !=0) (fN b R) (aW (!g) (aW (!(d.toList==(aE #[]).toList)) (fN b R) (ir b R)) (ir b R))) (aW (!g) (aW (!(d.toList==(aE #[]).toList)) (fN b R) (ir b R)) (ir b R))))) (aW (c !=21) (aW (k !=0) (fN b R) (aW (c !=1) (aW (f !=0) (fN b R) (aW (!g) (aW (!(d.toList==(aE #[]).toList)) (fN b R) (ir b R)) (ir b R))) (aW (!g) (aW (!(d.toList==(aE #[]).toList)) (fN b R) (ir b R)) (ir b R)))) (aW (c !=1) (aW (f !=0) (fN b R) (aW (!g) (aW (!(d.toList==(aE #[]).toList)) (fN b R) (ir b R)) (ir b R))) (aW (!g) (aW (!(d.toList==(aE #[]).toList)) (fN b R) (ir b R)) (ir b R)))))),fO v q c e l k f d m o p j w R:=mp (dV (X:=X) [iG,fU,gN,fI] (bV [0,1,1,1,2]) P0)
def dQ (m:Sl) (a:Int) (b:Sl) (c d e:Int) (f:ByteArray) (g j k:Int) (w:aA) (R:aT) (h:cB [] w λl q=>
 loc [l] q λr=>qf [l] jz #[.i a] r λo p=>aW (o !=((b.n:Nat):Int)) (R (aJ (.i 1)) p) (fO m l a b c d e f g j k 0 p R)):aH aB kF #[m.v,.agg #[.i a,b.v,.i c,.i d,.u e,.string f,.i g,.i j,.i k]] w R:=aZ X [iG,fU,gN,fI] h
end enthymemeref07_fields
namespace enthymemeref07_leaf
abbrev X:Fx:=⟨aB,Tryz.f59,[(19,ls [0,1,2,3,4,5,6,7,8,9,10,11,12,13,14,15,16,17,18,19,20,21,22,23,24,25,26,27,28,29,30])],[3,4]⟩
abbrev P0:Ps:=[(4,.l [.I,.I,.I] bI)]
abbrev fN (a:Nat) (b c d:Int) (w:aA) (R:aT):Prop:=
 loc [a] w λe=>R (aJ (.tuple #[.agg #[.i 0,.i 0,.i 0],.i 9])) e
def fU:=bX X [] (bV [0,1,1,1,7]) P0 fN
abbrev P1:Ps:=[(0,.v [.s]),(3,.l [.I,.s,.I,.I,.U,.st,.I,.I,.I] bE),(4,.l [.I,.I,.I] bI),(9,.v [.I])]
def EX (n:Sl) (p:Nat) (a:Int) (b:Sl) (c d e:Int) (f:ByteArray) (g i j:Int) (q:Nat) (k l m o:Int) (w:aA) (R:aT):Prop:=dD P1 0 (X.Sem (bV [0,1,1,1,9])) n p a b c d e f g i j q k l m o w R
def uK:=gI X (bV [0,1,1,1,9]) P1 EX
abbrev zY (n:Sl) (p:Nat) (a:Int) (b:Sl) (c d e:Int) (f:ByteArray) (g i j:Int) (q:Nat) (k l m o:Int) (w:aA) (R:aT):Prop:=
 EX n p a b c d e f g i j q k l m (aC .i64 (o+1)) w R
def sE:=bX X [uK,fU] (bV [2,2,1,1,9]) P1 zY
def oY:∀(j:Sl) (s:Nat) (f:Int) (k:Sl) (l m o:Int) (g:ByteArray) (c d e:Int) (t:Nat) (p q r b:Int) (w:aA) (R:aT) (h:aW (aR (b<((j.n:Nat):Int))) (aW (f==0) (bY j b λv=>loc [s,t] w λu=>∃x:Int,u.cell? ((v.add (aF b *9)).add 0)=some (.i x)/\
 aW (x==0) (bY j b λy=>∃z:ByteArray,u.cell? ((y.add (aF b *9)).add 5)=some (.string z)/\
 aW (z.toList==g.toList) (bY j b λaa=>eS u ((aa.add (aF b *9)).add 6) λab ac ad=>aW (!((ab==c)&&((ac==d)&&((ad==e)&&true)))) (loc [s,t] u λw4=>R (aJ (.tuple #[.agg #[.i 0,.i 0,.i 0],.i 8])) w4) (zY j s f k l m o g c d e t p q r b u R)) (zY j s f k l m o g c d e t p q r b u R)) (zY j s f k l m o g c d e t p q r b u R)) (loc [s,t] w λu=>zY j s f k l m o g c d e t p q r b u R)) (loc [s,t] w λw7=>R (aJ (.tuple #[.agg #[.i c,.i d,.i e],.i 0])) w7)),EX j s f k l m o g c d e t p q r b w R:=mp (dV (X:=X) [sE,uK,fU] (bV [0,1,1,1,9]) P1)
abbrev P2:Ps:=[(0,.v [.s]),(3,.l [.I,.s,.I,.I,.U,.st,.I,.I,.I] bE),(4,.l [.I,.I,.I] bI)]
abbrev rm (n:Sl) (o:Nat) (a:Int) (b:Sl) (c d e:Int) (f:ByteArray) (g i j:Int) (p:Nat) (k l m:Int) (w:aA) (R:aT):Prop:=
 EX n o a b c d e f g i j p k l m 0 w R
def ny:=bX X [sE,uK,fU] (bV [9]) P2 rm
abbrev ir (q:Sl) (o:Nat) (b:Int) (d:Sl) (e f c:Int) (g:ByteArray) (j a k:Int) (p:Nat) (l m n:Int) (w:aA) (R:aT):Prop:=
 aW (b==1) (aW (aR (a<64)) (¬(aC .u64 a)<0/\aW (aR (c>=(aC .u64 (1 *2^(min (aF (aC .u64 a)) (IntKind.bits .u64)))))) (loc [o,p] w λr=>R (aJ (.tuple #[.agg #[.i 0,.i 0,.i 0],.i 5])) r) (rm q o b d e f c g j a k p l m n w R)) (rm q o b d e f c g j a k p l m n w R)) (rm q o b d e f c g j a k p l m n w R)
def iG:=bX X [ny,sE,uK,fU] (bV [8]) P2 ir
abbrev P3:Ps:=[(0,.v [.s]),(3,.l [.I,.s,.I,.I,.U,.st,.I,.I,.I] bE),(4,.l [.I,.I,.I] bI),(8,.v [.b])]
abbrev gW (p:Sl) (q:Nat) (a:Int) (g:Sl) (i j k:Int) (l:ByteArray) (e m n:Int) (o:Nat) (b c d:Int) (f:Bool) (w:aA) (R:aT):Prop:=
 aW (a==1) (aW (e !=0) (fN o b c d w R) (aW (a==3) (aW (!f) (fN o b c d w R) (ir p q a g i j k l e m n o b c d w R)) (ir p q a g i j k l e m n o b c d w R))) (aW (a==3) (aW (!f) (fN o b c d w R) (ir p q a g i j k l e m n o b c d w R)) (ir p q a g i j k l e m n o b c d w R))
def gN:=bX X [iG,ny,sE,uK,fU] (bV [7]) P3 gW
abbrev P4:Ps:=[(0,.v [.s]),(3,.l [.I,.s,.I,.I,.U,.st,.I,.I,.I] bE),(4,.l [.I,.I,.I] bI),(6,.v [.b])]
abbrev eX (t:Sl) (d:Nat) (e:Int) (f:Sl) (g j k:Int) (l:ByteArray) (a b c:Int) (m:Nat) (n o p:Int) (q:Bool) (w:aA) (R:aT):Prop:=
 aW (!q) (loc [d,m] w λu=>R (aJ (.tuple #[.agg #[.i 0,.i 0,.i 0],.i 6])) u) (qf [d,m] jo #[.agg #[.i a,.i b,.i c]] w λr s=>aW (r !=0) (loc [d,m] s λv=>R (aJ (.tuple #[.agg #[.i 0,.i 0,.i 0],.i r])) v) (aW (a==2) (gW t d e f g j k l a b c m n o p true s R) (gW t d e f g j k l a b c m n o p (a==3) s R)))
def fH:=bX X [gN,iG,ny,sE,uK,fU] (bV [3]) P4 eX
def dQ (r:Sl) (b:Int) (d:Sl) (e f g:Int) (a:ByteArray) (j k l:Int) (w:aA) (R:aT) (h:cB [] w λc x=>
 cB [c] x λm q=>
 aW (b==2) (aW (aR (((a.size:Nat):Int)>64)) (loc [c,m] q λy=>R (aJ (.tuple #[.agg #[.i 0,.i 0,.i 0],.i 5])) y) (iF [c,m] cP #[.i ((a.size:Nat):Int)] q λn o p z=>loc [c,m] z λw9=>R (aJ (.tuple #[.agg #[.i n,.i o,.i p],.i 0])) w9)) (aW (b !=0) (eX r c b d e f g a j k l m 0 0 0 true q R) (lO [c,m] lB #[.string a] q λs t=>eX r c b d e f g a j k l m 0 0 0 s t R))):aH aB l8 #[r.v,.agg #[.i b,d.v,.i e,.i f,.u g,.string a,.i j,.i k,.i l]] w R:=aZ X [fH,gN,iG,ny,sE,uK,fU] h
end enthymemeref07_leaf
namespace enthymemeref07_Element
abbrev X:Fx:=⟨aB,Tryz.f57,[],[1,2]⟩
def dQ (c a j:Int) (w:aA) (R:aT) (h:cB [] w λb p=>
 cB [b] p λd o=>
 aW (c==2) (iF [b,d] bL #[.i a] o λk l m q=>loc [b,d] q λr=>R (aJ (.agg #[.i k,.i l,.i m])) r) (iF [b,d] cP #[.i a] o λe f g s=>loc [b,d] s λn=>R (aJ (.agg #[.i e,.i f,.i g])) n)):aH aB gA #[.agg #[.i c,.i a,.i j]] w R:=aZ X [] h
end enthymemeref07_Element
namespace enthymemeref07_fit
abbrev X:Fx:=⟨aB,Tryz.f60,[(13,ls [0,1,2,3,4,5,6,7,8,9,10,11,12,13,14,15]),(15,ls [0,1,2,3,4,5,6,7,8,9,10,11,12,13,14,15,16,17,18,19,20,21,22,23,24,25,26]),(19,ls [0,1,2,3,4,5,6,7,8,9,10]),(21,ls [0,1,2,3,4,5,6,7,8,9,10]),(23,ls [0,1,2,3,4,5,6,7,8,9,10,11,12,13,14,15,16,17,18,19,20,21,22,23,24,25,26,27]),(25,ls [0,1,2,3,4,5,6,7,8]),(34,ls [0,1,2,3,4,5,6,7,8,9,10,11,12,13,14,15]),(38,ls [0,1,2,3]),(39,ls [0,1,2,3,4,5,6,7,8])],[5]⟩
abbrev P0:Ps:=[(6,.v [.b])]
abbrev gW (a:Bool) (w:aA) (R:aT):Prop:=
 R (aJ (.bool a)) w
def gN:=bX X [] (bV [0,1,1,1,1,1,5]) P0 gW
abbrev P1:Ps:=[]
abbrev ir (w:aA) (R:aT):Prop:=
 R (aJ (.bool false)) w
def iG:=bX X [gN] (bV [0,1,1,2,11,1,1,1,5]) P1 ir
abbrev P2:Ps:=[(7,.v [.b])]
abbrev rm (a:Bool) (w:aA) (R:aT):Prop:=
 R (aJ (.bool a)) w
def ny:=bX X [iG,gN] (bV [0,1,15,1,1,1,5]) P2 rm
abbrev P3:Ps:=[(1,.v [.s]),(7,.v [.b])]
abbrev zY (e:Sl) (d:Bool) (w:aA) (R:aT):Prop:=
 aW d (bY e 1 λb=>∃c:Int,w.cell? ((b.add (aF 1 *3)).add 0)=some (.i c)/\
 R (aJ (.bool (c==1))) w) (R (aJ (.bool false)) w)
def sE:=bX X [ny,iG,gN] (bV [0,1,17,1,1,1,5]) P3 zY
abbrev P4:Ps:=[(1,.v [.s]),(5,.l [.I,.I,.I] bI),(6,.v [.b]),(7,.v [.b]),(26,.v [.I])]
abbrev Lp (b:Sl) (m:Nat) (ai aj ak:Int) (ao o:Bool) (ah:Int) (w:aA) (R:aT):Prop:=
 aW (ah==30) (aW o (bY b 1 λc=>loc [m] w λw1=>eS w1 (c.add (aF 1 *3)) λd e f=>iF [m] bL #[.i 7] w1 λp q r w2=>QM w2 (c.add (aF 1 *3)) (.i d) (.i e) (.i f) λ_=>aW ((d==p)&&((e==q)&&((f==r)&&true))) (bY b 2 λg=>eS w2 (g.add (aF 2 *3)) λj k l=>iF [m] bL #[.i 7] w2 λs t u w3=>QM w3 (g.add (aF 2 *3)) (.i j) (.i k) (.i l) λ_=>R (aJ (.bool ((j==s)&&((k==t)&&((l==u)&&true))))) w3) (R (aJ (.bool false)) w2)) (loc [m] w λw1=>R (aJ (.bool false)) w1)) (aW (ah==32) (aW o (bY b 1 λv=>∃x:Int,w.cell? ((v.add (aF 1 *3)).add 0)=some (.i x)/\
 aW (x==1) (bY b 2 λy=>∃z:Int,w.cell? ((y.add (aF 2 *3)).add 0)=some (.i z)/\
 R (aJ (.bool (z==1))) w) (R (aJ (.bool false)) w)) (R (aJ (.bool false)) w)) (aW (ah==34) (loc [m] w λw4=>iF [m] bL #[.i 8] w4 λaa ab ac w5=>R (aJ (.bool ((ai==aa)&&((aj==ab)&&((ak==ac)&&true))))) w5) (aW ao (bY b 1 λad=>loc [m] w λw6=>eS w6 (ad.add (aF 1 *3)) λae af ag=>R (aJ (.bool ((ai==ae)&&((aj==af)&&((ak==ag)&&true))))) w6) (loc [m] w λw6=>R (aJ (.bool false)) w6))))
def uC:=bX X [sE,ny,iG,gN] (bV [18,1,1,1,5]) P4 Lp
abbrev DQ (f:Sl) (i:Nat) (c d e:Int) (g a:Bool) (b:Int) (w:aA) (R:aT):Prop:=
 aW (b==29) (aW (b==29) (zY f a w R) (Lp f i c d e g a b w R)) (aW (b==31) (zY f a w R) (Lp f i c d e g a b w R))
def vQ:=bX X [uC,sE,ny,iG,gN] (bV [16,1,1,1,5]) P4 DQ
abbrev P5:Ps:=[(1,.v [.s]),(5,.l [.I,.I,.I] bI),(6,.v [.b]),(7,.v [.b]),(8,.v [.b]),(26,.v [.I])]
abbrev fN (b:Sl) (g:Nat) (e f d:Int) (x j k:Bool) (c:Int) (w:aA) (R:aT):Prop:=
 aW (c==18) (bY b 1 λau=>loc [g] w λw1=>eS w1 (au.add (aF 1 *3)) λav aw ax=>aW ((e==av)&&((f==aw)&&((d==ax)&&true))) (R (aJ (.bool true)) w1) (aW j (bY b 1 λay=>∃bu:Int,w1.cell? ((ay.add (aF 1 *3)).add 0)=some (.i bu)/\
 R (aJ (.bool (bu==1))) w1) (R (aJ (.bool false)) w1))) (aW (c==19) (loc [g] w λw2=>iF [g] bL #[.i 1] w2 λaz bb bc u=>aW ((e==az)&&((f==bb)&&((d==bc)&&true))) (bY b 1 λbd=>eS u (bd.add (aF 1 *3)) λbe bf bg=>bY b 2 λbh=>eS u (bh.add (aF 2 *3)) λbi bj bk=>aW ((be==bi)&&((bf==bj)&&((bg==bk)&&true))) (R (aJ (.bool true)) u) (bY b 1 λbm=>∃bv:Int,u.cell? ((bm.add (aF 1 *3)).add 0)=some (.i bv)/\
 aW (bv==1) (bY b 2 λbn=>∃bw:Int,u.cell? ((bn.add (aF 2 *3)).add 0)=some (.i bw)/\
 R (aJ (.bool (bw==1))) u) (R (aJ (.bool false)) u))) (R (aJ (.bool false)) u)) (aW (c==20) (aW x (bY b 1 λbo=>∃bx:Int,w.cell? ((bo.add (aF 1 *3)).add 0)=some (.i bx)/\
 R (aJ (.bool (bx==0))) w) (R (aJ (.bool false)) w)) (aW (c==24) (aW k (bY b 1 λy=>loc [g] w λw4=>eS w4 (y.add (aF 1 *3)) λz aa ab=>iF [g] bL #[.i d] w4 λbp bq br w5=>QM w5 (y.add (aF 1 *3)) (.i z) (.i aa) (.i ab) λ_=>R (aJ (.bool ((z==bp)&&((aa==bq)&&((ab==br)&&true))))) w5) (loc [g] w λw4=>R (aJ (.bool false)) w4)) (aW (c==25) (aW (!k) (loc [g] w λw6=>ir w6 R) (bY b 1 λl=>loc [g] w λw6=>eS w6 (l.add (aF 1 *3)) λm o p=>iF [g] bL #[.i d] w6 λad ae af w7=>QM w7 (l.add (aF 1 *3)) (.i m) (.i o) (.i p) λ_=>aW (!((m==ad)&&((o==ae)&&((p==af)&&true)))) (ir w7 R) (bY b 2 λq=>loc [g] w7 λw8=>eS w8 (q.add (aF 2 *3)) λr s t=>iF [g] gA #[.agg #[.i e,.i f,.i d]] w8 λag ah ai v=>QM v (q.add (aF 2 *3)) (.i r) (.i s) (.i t) λ_=>aW ((r==ag)&&((s==ah)&&((t==ai)&&true))) (R (aJ (.bool true)) v) (aW (e==3) (bY b 2 λaj=>∃ak:Int,v.cell? ((aj.add (aF 2 *3)).add 0)=some (.i ak)/\
 aW (ak==1) (bY b 2 λal=>∃am:Int,v.cell? ((al.add (aF 2 *3)).add 1)=some (.i am)/\
 R (aJ (.bool (aR (am<=f)))) v) (R (aJ (.bool false)) v)) (R (aJ (.bool false)) v))))) (aW (c==26) (aW k (bY b 1 λan=>loc [g] w λac=>eS ac (an.add (aF 1 *3)) λao ap aq=>R (aJ (.bool ((e==ao)&&((f==ap)&&((d==aq)&&true))))) ac) (loc [g] w λac=>R (aJ (.bool false)) ac)) (aW (c==27) (aW (c==27) (rm j w R) (DQ b g e f d x j c w R)) (aW (c==28) (aW (c==28) (rm j w R) (DQ b g e f d x j c w R)) (aW (c==33) (rm j w R) (DQ b g e f d x j c w R)))))))))
def fU:=bX X [vQ,uC,sE,ny,iG,gN] (bV [2,1,1,1,5]) P5 fN
abbrev P6:Ps:=[(0,.v [.I]),(1,.v [.s]),(5,.l [.I,.I,.I] bI),(6,.v [.b]),(7,.v [.b]),(8,.v [.b])]
abbrev eX (a:Int) (i:Sl) (j:Nat) (e f g:Int) (c d b:Bool) (w:aA) (R:aT):Prop:=
 aW (a==4) (aW (a==4) (gW c w R) (fN i j e f g c d b a w R)) (aW (a==5) (aW (a==5) (gW c w R) (fN i j e f g c d b a w R)) (aW (a==21) (aW (a==21) (gW c w R) (fN i j e f g c d b a w R)) (aW (a==22) (aW (a==22) (gW c w R) (fN i j e f g c d b a w R)) (aW (a==23) (gW c w R) (fN i j e f g c d b a w R)))))
def fH:=bX X [fU,vQ,uC,sE,ny,iG,gN] (bV [5]) P6 eX
def dQ (f:Int) (e:Sl) (w:aA) (R:aT) (h:bY e 0 λj=>eS w (j.add (aF 0 *3)) λb c d=>cB [] w λg l=>
 aW (b==2) (loc [g] l λk=>eX f e g b c d (b==0) (b==1) true k R) (loc [g] l λk=>eX f e g b c d (b==0) (b==1) (b==3) k R)):aH aB mT #[.i f,e.v] w R:=aZ X [fH,fU,vQ,uC,sE,ny,iG,gN] h
end enthymemeref07_fit
namespace enthymemeref07_result
abbrev X:Fx:=⟨aB,Tryz.f61,[(10,ls [0,1,2,3,4,5,6,7,8,9,10,11]),(13,ls [0,1,2,3,4,5,6,8,9,10,11,12,13,14,15,7,16,17]),(15,ls [0,1,2,3,4,5,7,8,9,6,10,11,12,13,14,15,16,17,18,19,20,21,22,23,24,25]),(18,ls [0,1,2,3,4,6,7,8,5,9,10,11,12,13,14,15,16,17,18]),(27,ls [1,2,3,0,4,5,6,7,8,9,10]),(29,ls [0,1,2,3,4,5,6,8,9,10,11,12,13,14,15,7,16,17]),(31,ls [0,1,2,3,4,5,6,8,9,10,11,12,13,14,15,7,16,17])],[2,4,6]⟩
abbrev P0:Ps:=[(4,.l [.I,.I,.I] bI)]
abbrev eX (d:Nat) (e f g:Int) (w:aA) (R:aT):Prop:=
 iF [d] bL #[.i 1] w λa b c j=>loc [d] j λk=>R (aJ (.tuple #[.agg #[.i a,.i b,.i c],.bool true])) k
def fH:=bX X [] (bV [0,1,1,1,1,1,2]) P0 eX
abbrev P1:Ps:=[(2,.l [.I,.s,.I,.I,.U,.st,.I,.I,.I] bE),(4,.l [.I,.I,.I] bI),(6,.l [.I,.I,.I] bI)]
abbrev fN (f:Nat) (l:Int) (m:Sl) (a n o:Int) (p:ByteArray) (q r s:Int) (g:Nat) (t u v:Int) (j:Nat) (aa e ab:Int) (w:aA) (R:aT):Prop:=
 loc [f,g,j] w λx=>iF [f,g,j] bL #[.i (aC .i64 (e+a))] x λb c d k=>aW (aR (a>=1)) (loc [f,g,j] k λy=>R (aJ (.tuple #[.agg #[.i b,.i c,.i d],.bool (aR (a<=(aC .i64 (64 - e))))])) y) (loc [f,g,j] k λz=>R (aJ (.tuple #[.agg #[.i b,.i c,.i d],.bool false])) z)
def fU:=bX X [fH] (bV [0,1,9,1,1,1,2]) P1 fN
abbrev rm (d:Nat) (e f g:Int) (w:aA) (R:aT):Prop:=
 iF [d] bL #[.i 7] w λa b c j=>loc [d] j λk=>R (aJ (.tuple #[.agg #[.i a,.i b,.i c],.bool true])) k
def ny:=bX X [fU,fH] (bV [0,1,15,1,1,1,2]) P0 rm
abbrev P2:Ps:=[(1,.v [.s]),(2,.l [.I,.s,.I,.I,.U,.st,.I,.I,.I] bE),(4,.l [.I,.I,.I] bI),(6,.l [.I,.I,.I] bI),(11,.v [.I])]
abbrev DQ (l:Sl) (b:Nat) (au:Int) (av:Sl) (r aw ax:Int) (ay:ByteArray) (az bb bc:Int) (c:Nat) (bd be bf:Int) (d:Nat) (am g an q:Int) (w:aA) (R:aT):Prop:=
 aW (q==28) (loc [b,c,d] w λw1=>iF [b,c,d] bL #[.i 8] w1 λm o p w2=>aW (aR (r>=0)) (loc [b,c,d] w2 λw5=>R (aJ (.tuple #[.agg #[.i m,.i o,.i p],.bool (aR (r<=63))])) w5) (loc [b,c,d] w2 λw8=>R (aJ (.tuple #[.agg #[.i m,.i o,.i p],.bool false])) w8)) (aW (q==29) (bY l 1 λs=>loc [b,c,d] w λw9=>∃t:Int,w9.cell? ((s.add (aF 1 *3)).add 1)=some (.i t)/\
 bY l 1 λe=>∃j:Int,w9.cell? ((e.add (aF 1 *3)).add 1)=some (.i j)/\
 iF [b,c,d] cP #[.i (aC .i64 (g+t))] w9 λu v x ah=>ah.cell? ((e.add (aF 1 *3)).add 1)=some (.i j)/\loc [b,c,d] ah λai=>ai.cell? ((e.add (aF 1 *3)).add 1)=some (.i j)/\R (aJ (.tuple #[.agg #[.i u,.i v,.i x],.bool (aR ((aC .i64 (g+j))<=64))])) ai) (aW (q==32) (bY l 2 λy=>loc [b,c,d] w λag=>∃z:Int,ag.cell? ((y.add (aF 2 *3)).add 1)=some (.i z)/\
 bY l 2 λf=>∃k:Int,ag.cell? ((f.add (aF 2 *3)).add 1)=some (.i k)/\
 iF [b,c,d] cP #[.i (aC .i64 (g+z))] ag λaa ab ac aj=>aj.cell? ((f.add (aF 2 *3)).add 1)=some (.i k)/\loc [b,c,d] aj λak=>ak.cell? ((f.add (aF 2 *3)).add 1)=some (.i k)/\R (aJ (.tuple #[.agg #[.i aa,.i ab,.i ac],.bool (aR ((aC .i64 (g+k))<=64))])) ak) (aW (q==34) (iF [b,c,d] cP #[.i 1] w λad ae af ao=>loc [b,c,d] ao λaq=>R (aJ (.tuple #[.agg #[.i ad,.i ae,.i af],.bool true])) aq) (loc [b,c,d] w λar=>R (aJ (.tuple #[.agg #[.i am,.i g,.i an],.bool true])) ar))))
def vQ:=bX X [ny,fU,fH] (bV [16,1,1,1,2]) P2 DQ
abbrev ir (k1:Sl) (k:Nat) (m:Int) (n:Sl) (o p q:Int) (r:ByteArray) (s t u:Int) (f:Nat) (b c d:Int) (l:Nat) (g j e a:Int) (w:aA) (R:aT):Prop:=
 aW (a==24) (iF [k,f,l] gA #[.agg #[.i g,.i j,.i e]] w λv x y w1=>loc [k,f,l] w1 λw4=>R (aJ (.tuple #[.agg #[.i v,.i x,.i y],.bool true])) w4) (aW (a==26) (iF [k,f,l] bL #[.i e] w λz aa ab w5=>loc [k,f,l] w5 λw8=>R (aJ (.tuple #[.agg #[.i z,.i aa,.i ab],.bool true])) w8) (aW (a==27) (aW (a==27) (rm f b c d w R) (DQ k1 k m n o p q r s t u f b c d l g j e a w R)) (aW (a==31) (rm f b c d w R) (DQ k1 k m n o p q r s t u f b c d l g j e a w R))))
def iG:=bX X [vQ,ny,fU,fH] (bV [10,1,1,1,2]) P2 ir
abbrev gW (j:Sl) (b:Nat) (l:Int) (m:Sl) (e f o:Int) (p:ByteArray) (q r s:Int) (c:Nat) (t u v:Int) (d:Nat) (ab g ac k:Int) (w:aA) (R:aT):Prop:=
 aW (k==19) (bY j 1 λah=>∃ax:Int,w.cell? ((ah.add (aF 1 *3)).add 0)=some (.i ax)/\
 aW (ax==1) (bY j 1 λai=>loc [b,c,d] w λw1=>∃ae:Int,w1.cell? ((ai.add (aF 1 *3)).add 1)=some (.i ae)/\
 bY j 2 λaj=>∃af:Int,w1.cell? ((aj.add (aF 2 *3)).add 1)=some (.i af)/\
 iF [b,c,d] cP #[.i (if ae<af then af else ae)] w1 λak al am w2=>loc [b,c,d] w2 λw5=>R (aJ (.tuple #[.agg #[.i ak,.i al,.i am],.bool true])) w5) (bY j 1 λan=>eS w (an.add (aF 1 *3)) λao ap aq=>loc [b,c,d] w λw8=>R (aJ (.tuple #[.agg #[.i ao,.i ap,.i aq],.bool true])) w8)) (aW (k==20) (bY j 1 λar=>loc [b,c,d] w λw9=>∃ay:Int,w9.cell? ((ar.add (aF 1 *3)).add 1)=some (.i ay)/\
 bY j 1 λx=>∃ad:Int,w9.cell? ((x.add (aF 1 *3)).add 1)=some (.i ad)/\
 iF [b,c,d] bL #[.i (aC .i64 (g+ay))] w9 λau av aw az=>az.cell? ((x.add (aF 1 *3)).add 1)=some (.i ad)/\loc [b,c,d] az λbb=>bb.cell? ((x.add (aF 1 *3)).add 1)=some (.i ad)/\R (aJ (.tuple #[.agg #[.i au,.i av,.i aw],.bool (aR ((aC .i64 (g+ad))<=64))])) bb) (aW (k==21) (loc [b,c,d] w λbe=>iF [b,c,d] bL #[.i (aC .i64 ((aC .i64 (e - f))+1))] be λy z aa ag=>aW (aR (f>=0)) (aW (aR (f<=e)) (loc [b,c,d] ag λbf=>R (aJ (.tuple #[.agg #[.i y,.i z,.i aa],.bool (aR (e<g))])) bf) (loc [b,c,d] ag λbg=>R (aJ (.tuple #[.agg #[.i y,.i z,.i aa],.bool false])) bg)) (loc [b,c,d] ag λbh=>R (aJ (.tuple #[.agg #[.i y,.i z,.i aa],.bool false])) bh)) (aW (k==22) (aW (k==22) (fN b l m e f o p q r s c t u v d ab g ac w R) (ir j b l m e f o p q r s c t u v d ab g ac k w R)) (aW (k==23) (fN b l m e f o p q r s c t u v d ab g ac w R) (ir j b l m e f o p q r s c t u v d ab g ac k w R)))))
def gN:=bX X [iG,vQ,ny,fU,fH] (bV [2,1,1,1,2]) P2 gW
def dQ (b:Int) (g:Sl) (j k l:Int) (m:ByteArray) (o p q:Int) (y:Sl) (w:aA) (R:aT) (h:cB [] w λe w1=>
 cB [e] w1 λc w2=>
 bY y 0 λz=>eS w2 (z.add (aF 0 *3)) λr s t=>cB [e,c] w2 λf x=>
 aW (b==16) (aW (b==16) (loc [e,c,f] x λd=>eX c 0 0 0 d R) (loc [e,c,f] x λd=>gW y e b g j k l m o p q c 0 0 0 f r s t b d R)) (aW (b==17) (aW (b==17) (loc [e,c,f] x λd=>eX c 0 0 0 d R) (loc [e,c,f] x λd=>gW y e b g j k l m o p q c 0 0 0 f r s t b d R)) (aW (b==18) (aW (b==18) (loc [e,c,f] x λd=>eX c 0 0 0 d R) (loc [e,c,f] x λd=>gW y e b g j k l m o p q c 0 0 0 f r s t b d R)) (aW (b==33) (loc [e,c,f] x λd=>eX c 0 0 0 d R) (loc [e,c,f] x λd=>gW y e b g j k l m o p q c 0 0 0 f r s t b d R))))):aH aB kG #[.agg #[.i b,g.v,.i j,.i k,.u l,.string m,.i o,.i p,.i q],y.v] w R:=aZ X [gN,iG,vQ,ny,fU,fH] h
end enthymemeref07_result
namespace enthymemeref07_SortOf
abbrev X:Fx:=⟨aB,Tryz.f40,[],[3,4,10]⟩
abbrev P0:Ps:=[(0,.v [.s]),(3,.l [.I,.s,.I,.I,.U,.st,.I,.I,.I] bE),(4,.l [.I,.I,.I] bI),(7,.v [.s]),(8,.v [.I])]
def fO (n:Sl) (q:Nat) (a:Int) (b:Sl) (c d e:Int) (f:ByteArray) (g i j:Int) (r:Nat) (k l m:Int) (p:Sl) (o:Int) (w:aA) (R:aT):Prop:=dD P0 0 (X.Sem (bV [0,1,1,1,5])) n q a b c d e f g i j r k l m p o w R
def fI:=gI X (bV [0,1,1,1,5]) P0 fO
abbrev P1:Ps:=[(4,.l [.I,.I,.I] bI),(10,.l [.I,.I,.I] bI),(12,.v [.b])]
abbrev gW (f:Nat) (g j k:Int) (e:Nat) (b c d:Int) (a:Bool) (w:aA) (R:aT):Prop:=
 aW (!a) (loc [f,e] w λl=>R (aJ (.tuple #[.agg #[.i 0,.i 0,.i 0],.i 2])) l) (loc [f,e] w λm=>R (aJ (.tuple #[.agg #[.i b,.i c,.i d],.i 0])) m)
def gN:=bX X [fI] (bV [11]) P1 gW
def bT:∀(g0:Sl) (d:Nat) (e:Int) (b:Sl) (q r s:Int) (l:ByteArray) (t x y:Int) (c:Nat) (m o p:Int) (k7:Sl) (i8:Int) (w:aA) (R:aT) (h:aW (aR (i8<((b.n:Nat):Int))) (bY b i8 λag=>∃z:Int,w.cell? (ag.add (aF i8 *1))=some (.i z)/\
 bY g0 z λah=>eS w ((ah.add (aF z *9)).add 6) λai aj ak=>gi w (.cells #[.i ai,.i aj,.i ak] bI) λan=>
 ∃(am:Sl) (ab:aA),Sem.run aB (Builtin.append_ #[pJ,pJ] pJ #[k7.v,.slice (some (nb w)) 1 1]) an=.ok (am.v) ab/\kept [d,c] an ab/\fO g0 d e b q r s l t x y c m o p am (aC .i64 (i8+1)) ab R) (lO [d,c] mT #[.i e,k7.v] w λap ao=>aW (!ap) (loc [d,c] ao λar=>R (aJ (.tuple #[.agg #[.i 0,.i 0,.i 0],.i 9])) ar) (ab' [d,c] kG #[.agg #[.i e,b.v,.i q,.i r,.u s,.string l,.i t,.i x,.i y],k7.v] ao λg j k al au=>cB [d,c] au λf ac=>
 aW (!al) (loc [d,c,f] ac λav=>R (aJ (.tuple #[.agg #[.i 0,.i 0,.i 0],.i 5])) av) (aW (e !=33) (loc [d,c,f] ac λad=>gW c m o p f g j k true ad R) (loc [d,c,f] ac λad=>lO [d,c,f] jl #[.string l] ad λaq aw=>gW c m o p f g j k aq aw R))))),fO g0 d e b q r s l t x y c m o p k7 i8 w R:=mp (dV (X:=X) [gN,fI] (bV [0,1,1,1,5]) P0)
def dQ (r:Sl) (b:Int) (a:Sl) (c d e:Int) (f:ByteArray) (g j k:Int) (w:aA) (R:aT) (h:cB [] w λl z=>
 cB [l] z λq w2=>
 qf [l,q] kF #[r.v,.agg #[.i b,a.v,.i c,.i d,.u e,.string f,.i g,.i j,.i k]] w2 λt x=>aW (t !=0) (loc [l,q] x λw6=>R (aJ (.tuple #[.agg #[.i 0,.i 0,.i 0],.i t])) w6) (aW (((a.n:Nat):Int)==0) (jh [l,q] l8 #[r.v,.agg #[.i b,a.v,.i c,.i d,.u e,.string f,.i g,.i j,.i k]] x λm o p s w7=>loc [l,q] w7 λy=>R (aJ (.tuple #[.agg #[.i m,.i o,.i p],.i s])) y) (fO r l b a c d e f g j k q 0 0 0 ⟨none,0,0⟩ 0 x R))):aH aB iS #[r.v,.agg #[.i b,a.v,.i c,.i d,.u e,.string f,.i g,.i j,.i k]] w R:=aZ X [gN,fI] h
end enthymemeref07_SortOf
namespace enthymemeref07_Same
abbrev X:Fx:=⟨aB,Tryz.f63,[],[2,3]⟩
def dQ (b:Int) (c:Sl) (d e f:Int) (g:ByteArray) (j k l m:Int) (n:Sl) (o p q:Int) (r:ByteArray) (s t x:Int) (w:aA) (R:aT) (h:cB [] w λy w1=>
 cB [y] w1 λb3 a=>
 aW (b==m) (aW (d==o) (aW (e==p) (aW (f==q) (aW (g.toList==r.toList) (aW ((j==s)&&((k==t)&&((l==x)&&true))) (lO [y,b3] jM #[c.v,n.v] a λz w3=>R (aJ (.bool z)) w3) (R (aJ (.bool false)) a)) (R (aJ (.bool false)) a)) (R (aJ (.bool false)) a)) (R (aJ (.bool false)) a)) (R (aJ (.bool false)) a)) (R (aJ (.bool false)) a)):aH aB l6 #[.agg #[.i b,c.v,.i d,.i e,.u f,.string g,.i j,.i k,.i l],.agg #[.i m,n.v,.i o,.i p,.u q,.string r,.i s,.i t,.i x]] w R:=aZ X [] h
end enthymemeref07_Same
namespace enthymemeref07_Index
abbrev X:Fx:=⟨aB,Tryz.f41,[(7,ls [0,1,2,3,4,5,6])],[3,5]⟩
abbrev P0:Ps:=[(0,.v [.s]),(3,.l [.I,.s,.I,.I,.U,.st,.I,.I,.I] bE),(7,.v [.I])]
def mC (k:Sl) (m:Nat) (a:Int) (b:Sl) (c d e:Int) (f:ByteArray) (g i j l:Int) (w:aA) (R:aT):Prop:=dD P0 0 (X.Sem (bV [0,1,1,1,3])) k m a b c d e f g i j l w R
def kA:=gI X (bV [0,1,1,1,3]) P0 mC
def dR:∀(o:Sl) (p:Nat) (c:Int) (d:Sl) (e f g:Int) (j:ByteArray) (k l m b:Int) (w:aA) (R:aT) (h:aW (aR (b<((o.n:Nat):Int))) (bY o b λq=>loc [p] w λw1=>Ah w1 (q.add (aF b *9)) λr s t x y z aa ab ac=>lO [p] l6 #[.agg #[.i r,s.v,.i t,.i x,.u y,.string z,.i aa,.i ab,.i ac],.agg #[.i c,d.v,.i e,.i f,.u g,.string j,.i k,.i l,.i m]] w1 λad w2=>aW ad (R (aJ (.i b)) w2) (mC o p c d e f g j k l m (aC .i64 (b+1)) w2 R)) (R (aJ (.i (-1))) w)),mC o p c d e f g j k l m b w R:=mp (dV (X:=X) [kA] (bV [0,1,1,1,3]) P0)
abbrev P1:Ps:=[(0,.v [.s]),(3,.l [.I,.s,.I,.I,.U,.st,.I,.I,.I] bE)]
abbrev eX (k:Sl) (l:Nat) (a:Int) (b:Sl) (c d e:Int) (f:ByteArray) (g i j:Int) (w:aA) (R:aT):Prop:=
 mC k l a b c d e f g i j 0 w R
def fH:=bX X [kA] (bV [3]) P1 eX
def dQ (p:Sl) (a:Int) (b:Sl) (c d e:Int) (f:ByteArray) (g j k:Int) (w:aA) (R:aT) (h:cB [] w λl t=>
 jh [l] iS #[p.v,.agg #[.i a,b.v,.i c,.i d,.u e,.string f,.i g,.i j,.i k]] t λm n o q x=>cB [l] x λr s=>
 aW (q==0) (loc [l,r] s λz=>eX p l a b c d e f m n o z R) (loc [l,r] s λy=>eX p l a b c d e f g j k y R)):aH aB lu #[p.v,.agg #[.i a,b.v,.i c,.i d,.u e,.string f,.i g,.i j,.i k]] w R:=aZ X [fH,kA] h
end enthymemeref07_Index
namespace enthymemeref07_Add
abbrev X:Fx:=⟨aB,Tryz.f19,[(10,(.sq [1,3,6,7] (.fork (.sq [0] (.fork (ls [2,4,5,8,9,10]) (ls [4,2,5,8,9,10]))) (ls [4,0,2,5,8,9,10]))))],[3,7]⟩
def dQ (o:Sl) (e:Int) (f:Sl) (g j k:Int) (l:ByteArray) (ad ae af:Int) (w:aA) (R:aT) (h:cB [] w λd w1=>
 jh [d] iS #[o.v,.agg #[.i e,f.v,.i g,.i j,.u k,.string l,.i ad,.i ae,.i af]] w1 λa b c x w2=>cB [d] w2 λm w3=>
 aW (x !=0) (loc [d,m] w3 λw6=>R (aJ (.tuple #[.slice none 0 0,.i 0,.i x])) w6) (loc [d,m] w3 λw9=>qf [d,m] lu #[o.v,.agg #[.i e,f.v,.i g,.i j,.u k,.string l,.i a,.i b,.i c]] w9 λaj y=>aW (aR (aj>=0)) (R (aJ (.tuple #[o.v,.i aj,.i 0])) y) (aW (aR (((o.n:Nat):Int)>=4096)) (R (aJ (.tuple #[.slice none 0 0,.i 0,.i 4])) y) (((loc [d,m] y λp=>gi p (.cells #[] bE) λz=>
 ((∃(ak:Sl) (aa:aA),Sem.run aB (Builtin.append_ #[cA,cA] cA #[.slice (some (nb p)) 0 0,o.v]) z=.ok (ak.v) aa/\kept [d,m] z aa/\gi aa (.cells #[.i e,f.v,.i g,.i j,.u k,.string l,.i a,.i b,.i c] bE) λam=>
 ∃(al:Sl) (ag:aA),Sem.run aB (Builtin.append_ #[cA,cA] cA #[ak.v,.slice (some (nb aa)) 1 1]) am=.ok (al.v) ag/\kept [d,m] am ag/\R (aJ (.tuple #[al.v,.i ((o.n:Nat):Int),.i 0])) ag)/\(gi z (.cells #[.i e,f.v,.i g,.i j,.u k,.string l,.i a,.i b,.i c] bE) λan=>
 ∃(q:Sl) (ab:aA),Sem.run aB (Builtin.append_ #[cA,cA] cA #[.slice (some (nb p)) 0 0,o.v]) an=.ok (q.v) ab/\kept [d,m] an ab/\∃(s:Sl) (ah:aA),Sem.run aB (Builtin.append_ #[cA,cA] cA #[q.v,.slice (some (nb z)) 1 1]) ab=.ok (s.v) ah/\kept [d,m] ab ah/\R (aJ (.tuple #[s.v,.i ((o.n:Nat):Int),.i 0])) ah)))/\(loc [d,m] y λp=>gi p (.cells #[.i e,f.v,.i g,.i j,.u k,.string l,.i a,.i b,.i c] bE) λao=>
 gi ao (.cells #[] bE) λap=>
 ∃(r:Sl) (ac:aA),Sem.run aB (Builtin.append_ #[cA,cA] cA #[.slice (some (nb ao)) 0 0,o.v]) ap=.ok (r.v) ac/\kept [d,m] ap ac/\∃(t:Sl) (ai:aA),Sem.run aB (Builtin.append_ #[cA,cA] cA #[r.v,.slice (some (nb p)) 1 1]) ac=.ok (t.v) ai/\kept [d,m] ac ai/\R (aJ (.tuple #[t.v,.i ((o.n:Nat):Int),.i 0])) ai)))))):aH aB mS #[o.v,.agg #[.i e,f.v,.i g,.i j,.u k,.string l,.i ad,.i ae,.i af]] w R:=aZ X [] h
end enthymemeref07_Add
namespace enthymemeref07_start
abbrev X:Fx:=⟨aB,Tryz.f17,[],[]⟩
abbrev P0:Ps:=[(3,.v [.s])]
abbrev S1 (a:Sl) (w:aA) (R:aT):Prop:=
 R (aJ (a.v)) w
def gN:=bX X [] (bV [4]) P0 S1
abbrev P1:Ps:=[(0,.v [.I]),(3,.v [.s])]
abbrev S0 (a:Int) (n:Sl) (w:aA) (R:aT):Prop:=
 aW (aR (a>1)) (Kd cP #[.i 2] w λb c d q=>Kd cP #[.i 1] q λe f g r=>Kd bL #[.i 7] r λj k l o=>gi o (.cells #[.i 0,.slice none 0 0,.i 0,.i 0,.u 0,.string (aE #[115]),.i b,.i c,.i d,.i 0,.slice none 0 0,.i 0,.i 0,.u 0,.string (aE #[116]),.i e,.i f,.i g,.i 0,.slice none 0 0,.i 0,.i 0,.u 0,.string (aE #[105]),.i j,.i k,.i l,.i 0,.slice none 0 0,.i 0,.i 0,.u 0,.string (aE #[122]),.i 3,.i 1,.i 1] bE) λs=>
 ∃(m:Sl) (p:aA),Sem.run aB (Builtin.append_ #[cA,cA] cA #[n.v,.slice (some (nb o)) 4 4]) s=.ok (m.v) p/\S1 m p R) (S1 n w R)
def fH:=bX X [gN] (bV [3]) P1 S0
def ok (a:Int) (w:aA) (R:aT) (h:Kd bL #[.i 2] w λf g j t=>Kd bL #[.i 2] t λk l m x=>Kd bL #[.i 1] x λn o p y=>Kd bL #[.i 3] y λb c d q=>gi q (.cells #[.i 0,.slice none 0 0,.i 0,.i 0,.u 0,.string (aE #[97]),.i f,.i g,.i j,.i 0,.slice none 0 0,.i 0,.i 0,.u 0,.string (aE #[98]),.i k,.i l,.i m,.i 0,.slice none 0 0,.i 0,.i 0,.u 0,.string (aE #[99]),.i n,.i o,.i p,.i 0,.slice none 0 0,.i 0,.i 0,.u 0,.string (aE #[100]),.i b,.i c,.i d] bE) λr=>
 aW (aR (a>0)) (gi r (.cells #[.i 0,.slice none 0 0,.i 0,.i 0,.u 0,.string (aE #[109]),.i 2,.i 2,.i 1,.i 0,.slice none 0 0,.i 0,.i 0,.u 0,.string (aE #[110]),.i 2,.i 2,.i 1] bE) λz=>
 ∃(e:Sl) (s:aA),Sem.run aB (Builtin.append_ #[cA,cA] cA #[.slice (some (nb q)) 4 4,.slice (some (nb r)) 2 2]) z=.ok (e.v) s/\S0 a e s R) (S0 a ⟨some (nb q),4,4⟩ r R)):aH aB lC #[.i a] w R:=aZ X [fH,gN] h
end enthymemeref07_start
namespace enthymemeref07_Like
abbrev X:Fx:=⟨aB,Tryz.f38,[(5,ls [0,1,2,3,4,5,6])],[4]⟩
abbrev P0:Ps:=[(0,.v [.s]),(2,.v [.I]),(4,.l [.I,.I,.I] bI),(7,.v [.s]),(8,.v [.I])]
def fO (d:Sl) (g:Int) (i:Nat) (a b c:Int) (f:Sl) (e:Int) (w:aA) (R:aT):Prop:=dD P0 0 (X.Sem (bV [0,1,1,1,2])) d g i a b c f e w R
def fI:=gI X (bV [0,1,1,1,2]) P0 fO
abbrev gW (d:Sl) (g:Int) (i:Nat) (a b c:Int) (f:Sl) (e:Int) (w:aA) (R:aT):Prop:=
 fO d g i a b c f (aC .i64 (e+1)) w R
def gN:=bX X [fI] (bV [2,2,1,1,2]) P0 gW
def bT:∀(g:Sl) (l:Int) (j:Nat) (b c d:Int) (f:Sl) (e:Int) (w:aA) (R:aT) (h:aW (aR (e<((g.n:Nat):Int))) (bY g e λm=>loc [j] w λs=>eS s ((m.add (aF e *9)).add 6) λo p q=>aW ((o==b)&&((p==c)&&((q==d)&&true))) (gi s (.cells #[.i e] cT) λy=>
 ∃(t:Sl) (x:aA),Sem.run aB (Builtin.append_ #[jj,jj] jj #[f.v,.slice (some (nb s)) 1 1]) y=.ok (t.v) x/\kept [j] y x/\gW g l j b c d t e x R) (gW g l j b c d f e s R)) (aW (((f.n:Nat):Int)==0) (R (aJ (.i (-1))) w) (qf [j] bN #[.i l,.i ((f.n:Nat):Int)] w λk z=>bY f k λr=>∃u:Int,z.cell? (r.add (aF k *1))=some (.i u)/\
 R (aJ (.i u)) z))),fO g l j b c d f e w R:=mp (dV (X:=X) [gN,fI] (bV [0,1,1,1,2]) P0)
def dQ (d:Sl) (a b c e:Int) (w:aA) (R:aT) (h:cB [] w λf g=>
 fO d e f a b c ⟨none,0,0⟩ 0 g R):aH aB im #[d.v,.agg #[.i a,.i b,.i c],.i e] w R:=aZ X [gN,fI] h
end enthymemeref07_Like
namespace enthymemeref07_wanted
abbrev X:Fx:=⟨aB,Tryz.f39,[],[10,11]⟩
abbrev P0:Ps:=[(4,.v [.I]),(10,.l [.I,.I,.I] bI)]
abbrev eX (k:Int) (a:Nat) (f g j:Int) (w:aA) (R:aT):Prop:=
 qf [a] bN #[.i k,.i 3] w λe l=>iF [a] cP #[.i e] l λb c d m=>loc [a] m λn=>R (aJ (.agg #[.i b,.i c,.i d])) n
def fH:=bX X [] (bV [0,1,11,1,1,1,2]) P0 eX
abbrev P1:Ps:=[(10,.l [.I,.I,.I] bI),(11,.l [.I,.I,.I] bI)]
abbrev gW (d:Nat) (f g j:Int) (e:Nat) (a b c:Int) (w:aA) (R:aT):Prop:=
 loc [d,e] w λk=>R (aJ (.agg #[.i a,.i b,.i c])) k
def gN:=bX X [fH] (bV [3]) P1 gW
def dQ (m:Sl) (e g p o:Int) (w:aA) (R:aT) (h:cB [] w λb w1=>
 bY m g λr=>eS w1 ((r.add (aF g *9)).add 6) λk l f=>cB [b] w1 λc j=>
 aW (e==19) (loc [b,c] j λd=>qf [b,c] bN #[.i o,.i ((m.n:Nat):Int)] d λq w6=>bY m q λs=>eS w6 ((s.add (aF q *9)).add 6) λt u x=>loc [b,c] w6 λw9=>R (aJ (.agg #[.i t,.i u,.i x])) w9) (aW (e==20) (loc [b,c] j λd=>qf [b,c] bN #[.i o,.i 3] d λan ap=>iF [b,c] bL #[.i (aC .i64 (1+an))] ap λy z aa aq=>loc [b,c] aq λar=>R (aJ (.agg #[.i y,.i z,.i aa])) ar) (aW (e==24) (loc [b,c] j λd=>iF [b,c] bL #[.i f] d λab ac ad au=>loc [b,c] au λav=>R (aJ (.agg #[.i ab,.i ac,.i ad])) av) (aW (e==25) (aW (p==1) (loc [b,c] j λd=>iF [b,c] bL #[.i f] d λae af ag aw=>loc [b,c] aw λax=>R (aJ (.agg #[.i ae,.i af,.i ag])) ax) (loc [b,c] j λd=>iF [b,c] gA #[.agg #[.i k,.i l,.i f]] d λah ai aj ay=>loc [b,c] ay λaz=>R (aJ (.agg #[.i ah,.i ai,.i aj])) az)) (aW (e==30) (loc [b,c] j λd=>iF [b,c] bL #[.i 7] d λak al am bb=>loc [b,c] bb λbc=>R (aJ (.agg #[.i ak,.i al,.i am])) bc) (aW (e==29) (aW (e==29) (loc [b,c] j λd=>eX o b 0 0 0 d R) (loc [b,c] j λd=>gW b 0 0 0 c k l f d R)) (aW (e==31) (aW (e==31) (loc [b,c] j λd=>eX o b 0 0 0 d R) (loc [b,c] j λd=>gW b 0 0 0 c k l f d R)) (aW (e==32) (loc [b,c] j λd=>eX o b 0 0 0 d R) (loc [b,c] j λd=>gW b 0 0 0 c k l f d R))))))))):aH aB kH #[m.v,.i e,.i g,.i p,.i o] w R:=aZ X [gN,fH] h
end enthymemeref07_wanted
namespace cH
abbrev X:Fx:=⟨aB,Tryz.f18,[(38,ls [0,1,2,3,4,5,6,7,8,9,10,11,12])],[8,10,16]⟩
abbrev P0:Ps:=[(0,.v [.s]),(2,.v [.I]),(3,.v [.I]),(8,.l [.I,.s,.I,.I,.U,.st,.I,.I,.I] bE),(10,.l [.I,.s,.I,.I,.U,.st,.I,.I,.I] bE),(11,.v [.I]),(13,.v [.I]),(14,.v [.I])]
def EX (y:Sl) (m2 z:Int) (t8:Nat) (m:Int) (n:Sl) (o p q:Int) (r:ByteArray) (s t u:Int) (l:Nat) (a:Int) (b:Sl) (c d e:Int) (f:ByteArray) (g i j x k v:Int) (w:aA) (R:aT):Prop:=dD P0 0 (X.Sem (bV [0,1,1,1,8])) y m2 z t8 m n o p q r s t u l a b c d e f g i j x k v w R
def uK:=gI X (bV [0,1,1,1,8]) P0 EX
abbrev P1:Ps:=[(0,.v [.s]),(2,.v [.I]),(3,.v [.I]),(8,.l [.I,.s,.I,.I,.U,.st,.I,.I,.I] bE),(10,.l [.I,.s,.I,.I,.U,.st,.I,.I,.I] bE),(11,.v [.I]),(13,.v [.I]),(14,.v [.I]),(15,.v [.I])]
abbrev Lp (g0:Sl) (m2 k3:Int) (q:Nat) (s:Int) (t:Sl) (x y z:Int) (aa:ByteArray) (ab ac ad:Int) (a:Nat) (c:Int) (d:Sl) (e f g:Int) (j:ByteArray) (k l m ag n ae b:Int) (w:aA) (R:aT):Prop:=
 aW (aR (b<0)) (loc [q,a] w λw9=>R (aJ (.agg #[.i (-1),.slice none 0 0,.i 0,.i 0,.u 0,.s0,.i 0,.i 0,.i 0])) w9) (gi w (.cells #[.i b] cT) λr=>
 ∃(o:Sl) (p:aA),Sem.run aB (Builtin.append_ #[jj,jj] jj #[d.v,.slice (some (nb w)) 1 1]) r=.ok (o.v) p/\kept [q,a] r p/\loc [q,a] p λaf=>EX g0 m2 k3 q s t x y z aa ab ac ad a c o e f g j k l m ag n (aC .i64 (ae+1)) af R)
def uC:=bX X [uK] (bV [2,2,1,2,1,1,8]) P1 Lp
abbrev P2:Ps:=[(0,.v [.s]),(2,.v [.I]),(3,.v [.I]),(8,.l [.I,.s,.I,.I,.U,.st,.I,.I,.I] bE),(10,.l [.I,.s,.I,.I,.U,.st,.I,.I,.I] bE),(11,.v [.I]),(13,.v [.I]),(14,.v [.I]),(16,.l [.I,.I,.I] bI)]
abbrev zY (g0:Sl) (m2 k3:Int) (t:Nat) (u:Int) (x:Sl) (y z aa:Int) (ab:ByteArray) (ac ad ae:Int) (a:Nat) (c:Int) (d:Sl) (e f g:Int) (j:ByteArray) (k l m ai n b:Int) (r:Nat) (o p q:Int) (w:aA) (R:aT):Prop:=
 (aC .i64 (1+(aC .i64 (5 *b))))≠0/\loc [t,a,r] w λw1=>qf [t,a,r] im #[g0.v,.agg #[.i o,.i p,.i q],.i (aC .i64 ((aC .i64 (Int.tdiv k3 (aC .i64 (1+(aC .i64 (5 *b))))))+(aC .i64 (b *m2))))] w1 λs w2=>Lp g0 m2 k3 t u x y z aa ab ac ad ae a c d e f g j k l m ai n b s w2 R
def sE:=bX X [uC,uK] (bV [2,1,1,1,1,2,1,2,1,1,8]) P2 zY
def oY:∀(g0:Sl) (m2 k3:Int) (r:Nat) (s:Int) (t:Sl) (x y z:Int) (aa:ByteArray) (ab ac ad:Int) (b:Nat) (c:Int) (d:Sl) (e f g:Int) (j:ByteArray) (k l m q o p:Int) (w:aA) (R:aT) (h:aW (aR (p<o)) (aW (aR (p>0)) (aW (aR (q>=0)) (iF [r,b] kH #[g0.v,.i c,.i q,.i p,.i m2] w λah ai aj w1=>cB [r,b] w1 λae w2=>
 aW (c==19) (aW (p==2) (bY d 1 λan=>loc [r,b,ae] w2 λw5=>∃ag:Int,w5.cell? (an.add (aF 1 *1))=some (.i ag)/\
 bY g0 ag λao=>eS w5 ((ao.add (aF ag *9)).add 6) λap aq ar=>loc [r,b,ae] w5 λw8=>zY g0 m2 k3 r s t x y z aa ab ac ad b c d e f g j k l m q o p ae ap aq ar w8 R) (loc [r,b,ae] w2 λw5=>zY g0 m2 k3 r s t x y z aa ab ac ad b c d e f g j k l m q o p ae ah ai aj w5 R)) (loc [r,b,ae] w2 λw5=>zY g0 m2 k3 r s t x y z aa ab ac ad b c d e f g j k l m q o p ae ah ai aj w5 R)) (Lp g0 m2 k3 r s t x y z aa ab ac ad b c d e f g j k l m q o p q w R)) (Lp g0 m2 k3 r s t x y z aa ab ac ad b c d e f g j k l m q o p q w R)) (loc [r,b] w λav=>R (aJ (.agg #[.i c,d.v,.i e,.i f,.u g,.string j,.i k,.i l,.i m])) av)),EX g0 m2 k3 r s t x y z aa ab ac ad b c d e f g j k l m q o p w R:=mp (dV (X:=X) [sE,uC,uK] (bV [0,1,1,1,8]) P0)
abbrev P3:Ps:=[(0,.v [.s]),(2,.v [.I]),(3,.v [.I]),(8,.l [.I,.s,.I,.I,.U,.st,.I,.I,.I] bE),(10,.l [.I,.s,.I,.I,.U,.st,.I,.I,.I] bE),(11,.v [.I]),(13,.v [.I])]
abbrev rm (x:Sl) (z y:Int) (t8:Nat) (m:Int) (n:Sl) (o p q:Int) (r:ByteArray) (s t u:Int) (l:Nat) (a:Int) (b:Sl) (c d e:Int) (f:ByteArray) (g i j v k:Int) (w:aA) (R:aT):Prop:=
 EX x z y t8 m n o p q r s t u l a b c d e f g i j v k 0 w R
def ny:=bX X [sE,uC,uK] (bV [8]) P3 rm
abbrev P4:Ps:=[(0,.v [.s]),(1,.v [.I]),(2,.v [.I]),(3,.v [.I]),(8,.l [.I,.s,.I,.I,.U,.st,.I,.I,.I] bE),(10,.l [.I,.s,.I,.I,.U,.st,.I,.I,.I] bE),(11,.v [.I]),(13,.v [.I])]
abbrev ir (g0:Sl) (n1 m2 k3:Int) (t8:Nat) (q:Int) (r:Sl) (s t u:Int) (x:ByteArray) (y z aa:Int) (b:Nat) (a:Int) (c:Sl) (d e f:Int) (g:ByteArray) (j k l ag m:Int) (w:aA) (R:aT):Prop:=
 aW (a==34) (iF [t8,b] bL #[.i 8] w λn o p w1=>qf [t8,b] im #[g0.v,.agg #[.i n,.i o,.i p],.i (aC .i64 (Int.tdiv n1 64))] w1 λad w2=>rm g0 m2 k3 t8 q r s t u x y z aa b a c d e f g j k l ad m w2 R) (rm g0 m2 k3 t8 q r s t u x y z aa b a c d e f g j k l ag m w R)
def iG:=bX X [ny,sE,uC,uK] (bV [7]) P4 ir
abbrev P5:Ps:=[(0,.v [.s]),(1,.v [.I]),(2,.v [.I]),(3,.v [.I]),(8,.l [.I,.s,.I,.I,.U,.st,.I,.I,.I] bE),(10,.l [.I,.s,.I,.I,.U,.st,.I,.I,.I] bE),(11,.v [.I])]
abbrev fN (g0:Sl) (n1 m2 k3:Int) (q:Nat) (r:Int) (s:Sl) (t u x:Int) (y:ByteArray) (z aa ab:Int) (b:Nat) (a:Int) (c:Sl) (d e f:Int) (g:ByteArray) (j k l ai:Int) (w:aA) (R:aT):Prop:=
 qf [q,b] jz #[.i a] w λm w1=>aW (a==19) (iF [q,b] bL #[.i 1] w1 λn o p w2=>qf [q,b] im #[g0.v,.agg #[.i n,.i o,.i p],.i (aC .i64 (Int.tdiv n1 64))] w2 λae w3=>ir g0 n1 m2 k3 q r s t u x y z aa ab b a c d e f g j k l ae m w3 R) (ir g0 n1 m2 k3 q r s t u x y z aa ab b a c d e f g j k l ai m w1 R)
def fU:=bX X [iG,ny,sE,uC,uK] (bV [5]) P5 fN
abbrev P6:Ps:=[(0,.v [.s]),(1,.v [.I]),(2,.v [.I]),(3,.v [.I]),(8,.l [.I,.s,.I,.I,.U,.st,.I,.I,.I] bE),(10,.l [.I,.s,.I,.I,.U,.st,.I,.I,.I] bE),(11,.v [.I]),(12,.v [.I])]
abbrev gW (g0:Sl) (n1 m2 k3:Int) (j:Nat) (n:Int) (o:Sl) (p q r:Int) (s:ByteArray) (t u v:Int) (a:Nat) (c:Int) (d:Sl) (e f x:Int) (g:ByteArray) (y z aa ad b:Int) (w:aA) (R:aT):Prop:=
 iF [j,a] bL #[.i b] w λk l m w1=>¬(aC .u64 (if 3<b then 3 else b))<0/\loc [j,a] w1 λw4=>qf [j,a] bN #[.i k3,.i (aC .i64 (1 *2^(min (aF (aC .u64 (if 3<b then 3 else b))) (IntKind.bits .i64))))] w4 λac w5=>loc [j,a] w5 λw6=>fN g0 n1 m2 k3 j n o p q r s t u v a c d e f (aC .u64 ac) g k l m ad w6 R
def gN:=bX X [fU,iG,ny,sE,uC,uK] (bV [2,1,1,1,1,1,4]) P6 gW
abbrev eX (y:Sl) (n1 z v:Int) (t8:Nat) (l:Int) (m:Sl) (n o p:Int) (q:ByteArray) (r s t:Int) (k:Nat) (a:Int) (b:Sl) (c d e:Int) (f:ByteArray) (g i j u x:Int) (w:aA) (R:aT):Prop:=
 aW ((Int.tmod v 7)==0) (gW y n1 z v t8 l m n o p q r s t k a b c d e f g i j u 7 w R) (gW y n1 z v t8 l m n o p q r s t k a b c d e f g i j u x w R)
def fH:=bX X [gN,fU,iG,ny,sE,uC,uK] (bV [1,1,1,1,1,1,4]) P6 eX
abbrev V7 (g0:Sl) (n1 x k3:Int) (l:Nat) (m:Int) (n:Sl) (o p q:Int) (r:ByteArray) (s t u:Int) (a:Nat) (b:Int) (c:Sl) (v d e:Int) (f:ByteArray) (g j k z:Int) (w:aA) (R:aT):Prop:=
 qf [l,a] bN #[.i x,.i 2] w λy w1=>loc [l,a] w1 λw2=>fN g0 n1 x k3 l m n o p q r s t u a b c (aC .i64 (1+y)) d e f g j k z w2 R
def BF:=bX X [fH,gN,fU,iG,ny,sE,uC,uK] (bV [0,1,9,1,1,1,4]) P5 V7
abbrev P7:Ps:=[(0,.v [.s]),(1,.v [.I]),(2,.v [.I]),(3,.v [.I]),(8,.l [.I,.s,.I,.I,.U,.st,.I,.I,.I] bE),(10,.l [.I,.s,.I,.I,.U,.st,.I,.I,.I] bE),(11,.v [.I]),(32,.v [.I])]
abbrev S9T (g0:Sl) (n1 x k3:Int) (m:Nat) (n:Int) (o:Sl) (p q r:Int) (s:ByteArray) (t u v:Int) (a:Nat) (b:Int) (c:Sl) (k d e:Int) (l:ByteArray) (f g j y z:Int) (w:aA) (R:aT):Prop:=
 aW (z==28) (qf [m,a] bN #[.i x,.i 3] w λae w1=>loc [m,a] w1 λw2=>fN g0 n1 x k3 m n o p q r s t u v a b c ae d e l f g j y w2 R) (aW (z==33) (oW [m,a] l5 #[.i x] w λad w3=>loc [m,a] w3 λw4=>fN g0 n1 x k3 m n o p q r s t u v a b c k d e ad f g j y w4 R) (fN g0 n1 x k3 m n o p q r s t u v a b c k d e l f g j y w R))
def NA:=bX X [BF,fH,gN,fU,iG,ny,sE,uC,uK] (bV [10,1,1,1,4]) P7 S9T
def dQ (j:Sl) (k g l:Int) (w:aA) (R:aT) (h:cB [] w λd w1=>
 gi w1 (.cells #[.i 4,.i 5,.i 6,.i 7,.i 8,.i 9,.i 10,.i 11,.i 12,.i 13,.i 14,.i 15,.i 16,.i 17,.i 18,.i 19,.i 20,.i 21,.i 22,.i 23,.i 24,.i 25,.i 26,.i 27,.i 28,.i 29,.i 30,.i 31,.i 32,.i 33,.i 34,.i 1,.i 2,.i 3,.i 18,.i 18,.i 16,.i 6,.i 24,.i 25] cT) λw2=>
 qf [d] bN #[.i k,.i ((40:Nat):Int)] w2 λm w3=>(0:Int)<=m/\m<((40:Nat):Int)/\gT (some (nb w1)) λr=>∃c:Int,w3.cell? (r.add (aF m *1))=some (.i c)/\
 cB [d] w3 λb w4=>
 loc [d,b] w4 λah=>qf [d,b] bN #[.i (aC .i64 (Int.tdiv k 64)),.i ((j.n:Nat):Int)] ah λe f=>aW (c==1) (qf [d,b] bN #[.i g,.i 3] f λae ai=>eX j k g l d 0 ⟨none,0,0⟩ 0 0 0 (aE #[]) 0 0 0 b c ⟨none,0,0⟩ 0 0 0 (aE #[]) 0 0 0 e (aC .i64 (1+ae)) ai R) (aW (c==2) (gi f (.cells #[.s0,.string (aE #[97]),.string (aE #[97,98]),.string (aE #[98]),.string (aE #[0]),.string (aE #[97,97])] cG) λaj=>
 qf [d,b] bN #[.i g,.i 6] aj λo ac=>(0:Int)<=o/\o<((6:Nat):Int)/\gT (some (nb f)) λs=>∃aa:ByteArray,ac.cell? (s.add (aF o *1))=some (.string aa)/\
 loc [d,b] ac λak=>fN j k g l d 0 ⟨none,0,0⟩ 0 0 0 (aE #[]) 0 0 0 b c ⟨none,0,0⟩ 0 0 0 aa 0 0 0 e ak R) (aW (c==3) (gi f (.cells #[.i 2,.i 2,.i 1,.i 3,.i 1,.i 1] bI) λal=>
 qf [d,b] bN #[.i g,.i 2] al λp ad=>(0:Int)<=p/\p<((2:Nat):Int)/\gT (some (nb f)) λt=>eS ad (t.add (aF p *3)) λu x y=>loc [d,b] ad λam=>fN j k g l d 0 ⟨none,0,0⟩ 0 0 0 (aE #[]) 0 0 0 b c ⟨none,0,0⟩ 0 0 0 (aE #[]) u x y e am R) (aW (c==21) (bY j e λz=>∃q:Int,f.cell? (((z.add (aF e *9)).add 6).add 1)=some (.i q)/\
 qf [d,b] bN #[.i g,.i (if 1<q then q else 1)] f λab an=>loc [d,b] an λao=>qf [d,b] bN #[.i l,.i (aC .i64 (ab+1))] ao λaf ap=>loc [d,b] ap λaq=>fN j k g l d 0 ⟨none,0,0⟩ 0 0 0 (aE #[]) 0 0 0 b c ⟨none,0,0⟩ ab af 0 (aE #[]) 0 0 0 e aq R) (aW (c==22) (aW (c==22) (V7 j k g l d 0 ⟨none,0,0⟩ 0 0 0 (aE #[]) 0 0 0 b c ⟨none,0,0⟩ 0 0 0 (aE #[]) 0 0 0 e f R) (S9T j k g l d 0 ⟨none,0,0⟩ 0 0 0 (aE #[]) 0 0 0 b c ⟨none,0,0⟩ 0 0 0 (aE #[]) 0 0 0 e c f R)) (aW (c==23) (V7 j k g l d 0 ⟨none,0,0⟩ 0 0 0 (aE #[]) 0 0 0 b c ⟨none,0,0⟩ 0 0 0 (aE #[]) 0 0 0 e f R) (S9T j k g l d 0 ⟨none,0,0⟩ 0 0 0 (aE #[]) 0 0 0 b c ⟨none,0,0⟩ 0 0 0 (aE #[]) 0 0 0 e c f R))))))):aH aB jA #[j.v,.i k,.i g,.i l] w R:=aZ X [NA,BF,fH,gN,fU,iG,ny,sE,uC,uK] h
end cH
namespace enthymemeref07_size
abbrev X:Fx:=⟨aB,Tryz.f21,[],[]⟩
abbrev P0:Ps:=[(0,.v [.s]),(1,.v [.I]),(5,.v [.I]),(6,.v [.I])]
def L0 (a:Sl) (b d c:Int) (w:aA) (R:aT):Prop:=dD P0 0 (X.Sem (bV [0,1,1,1,2])) a b d c w R
def fI:=gI X (bV [0,1,1,1,2]) P0 L0
abbrev S1 (a:Sl) (b d c:Int) (w:aA) (R:aT):Prop:=
 L0 a b d (aC .i64 (c+1)) w R
def gN:=bX X [fI] (bV [2,2,1,1,2]) P0 S1
def dE:∀(c:Sl) (b m d:Int) (w:aA) (R:aT) (h:bY c b λf=>∃k:Sl,w.cell? ((f.add (aF b *9)).add 1)=some (k.v)/\
 aW (aR (d<((k.n:Nat):Int))) (bY c b λg=>∃e:Sl,w.cell? ((g.add (aF b *9)).add 1)=some (e.v)/\
 bY e d λj=>∃l:Int,w.cell? (j.add (aF d *1))=some (.i l)/\
 Dv jB #[c.v,.i l] w λo p=>S1 c b (aC .i64 (m+o)) d p R) (R (aJ (.i m)) w)),L0 c b m d w R:=mp (dV (X:=X) [gN,fI] (bV [0,1,1,1,2]) P0)
def ok (a:Sl) (b:Int) (w:aA) (R:aT) (h:L0 a b 1 0 w R):aH aB jB #[a.v,.i b] w R:=aZ X [gN,fI] h
end enthymemeref07_size
namespace enthymemeref07_within
abbrev X:Fx:=⟨aB,Tryz.f20,[],[3]⟩
def dQ (a b d e:Int) (w:aA) (R:aT) (h:cB [] w λf c=>
 aW (b==0) (R (aJ (.bool true)) c) (aW (aR (a>0)) (aW (b==2) (R (aJ (.bool true)) c) (R (aJ (.bool (aR (a>1)))) c)) (R (aJ (.bool (aR (a>1)))) c))):aH aB kI #[.i a,.agg #[.i b,.i d,.i e]] w R:=aZ X [] h
end enthymemeref07_within
namespace enthymemeref07_Made
abbrev X:Fx:=⟨aB,Tryz.f10,[(5,(.sq [0,1,2,3,4,5,6,7,8,9,10,11,12,13,14] (.fork (ls [15,16,17]) (ls [16,15,17]))))],[9]⟩
abbrev P0:Ps:=[(0,.v [.s]),(1,.v [.I]),(2,.v [.I]),(7,.v [.s]),(8,.v [.I])]
def fO (e:Sl) (a b:Int) (c:Sl) (d:Int) (w:aA) (R:aT):Prop:=dD P0 0 (X.Sem (bV [0,1,1,1,2])) e a b c d w R
def fI:=gI X (bV [0,1,1,1,2]) P0 fO
abbrev fN (e:Sl) (a b:Int) (c:Sl) (d:Int) (w:aA) (R:aT):Prop:=
 fO e a b c (aC .i64 (d+3)) w R
def fU:=bX X [fI] (bV [2,2,1,1,2]) P0 fN
abbrev P1:Ps:=[(0,.v [.s]),(1,.v [.I]),(2,.v [.I]),(7,.v [.s]),(8,.v [.I]),(9,.l [.I,.s,.I,.I,.U,.st,.I,.I,.I] bE)]
abbrev gW (j:Sl) (c e:Int) (f:Sl) (g:Int) (t:Nat) (x:Int) (y:Sl) (z aa ab:Int) (ac:ByteArray) (ad ae af:Int) (w:aA) (R:aT):Prop:=
 aca [t] mS #[f.v,.agg #[.i x,y.v,.i z,.i aa,.u ab,.string ac,.i ad,.i ae,.i af]] w λd b k w1=>aW (k==0) (bY d b λl=>eS w1 ((l.add (aF b *9)).add 6) λm o p=>lO [t] kI #[.i c,.agg #[.i m,.i o,.i p]] w1 λah r=>aW ah (bY d b λq=>∃s:Int,r.cell? (((q.add (aF b *9)).add 6).add 1)=some (.i s)/\
 aW (aR (s<=16)) (qf [t] jB #[d.v,.i b] r λai w3=>aW (aR (ai<=400)) (fN j c e d g w3 R) (fN j c e f g w3 R)) (fN j c e f g r R)) (fN j c e f g r R)) (fN j c e f g w1 R)
def gN:=bX X [fU,fI] (bV [1,2,1,2,1,1,2]) P1 gW
abbrev P2:Ps:=[(7,.v [.s])]
abbrev ir (a:Sl) (w:aA) (R:aT):Prop:=
 R (aJ (a.v)) w
def iG:=bX X [gN,fU,fI] (bV [3]) P2 ir
def bT:∀(d:Sl) (e c:Int) (f:Sl) (b:Int) (w:aA) (R:aT) (h:aW (aR ((aC .i64 (b+2))<((d.n:Nat):Int))) (aW (aR (b<(aC .i64 (3 *c)))) (wy w λw2=>bY d b λs=>∃t:Int,w2.cell? (s.add (aF b *1))=some (.i t)/\
 bY d (aC .i64 (b+1)) λu=>∃x:Int,w2.cell? (u.add (aF (aC .i64 (b+1)) *1))=some (.i x)/\
 bY d (aC .i64 (b+2)) λy=>∃z:Int,w2.cell? (y.add (aF (aC .i64 (b+2)) *1))=some (.i z)/\
 ((ab6 jA #[f.v,.i t,.i x,.i z] w2 λad ae af ag ah ai aj ak al w3=>cB [] w3 λb9 w4=>
 loc [b9] w4 λan=>gW d e c f b b9 ad ae af ag ah ai aj ak al an R)/\(cB [] w2 λab aa=>
 aa.cell? (y.add (aF (aC .i64 (b+2)) *1))=some (.i z)/\aa.cell? (u.add (aF (aC .i64 (b+1)) *1))=some (.i x)/\aa.cell? (s.add (aF b *1))=some (.i t)/\aay [ab] jA #[f.v,.i t,.i x,.i z] aa λg j k l m o p q r ao=>loc [ab] ao λap=>gW d e c f b ab g j k l m o p q r ap R))) (ir f w R)) (ir f w R)),fO d e c f b w R:=mp (dV (X:=X) [iG,gN,fU,fI] (bV [0,1,1,1,2]) P0)
def dQ (c:Sl) (a b:Int) (w:aA) (R:aT) (h:ca3 lC #[.i a] w λd e=>fO c a b d 0 e R):aH aB iq #[c.v,.i a,.i b] w R:=aZ X [iG,gN,fU,fI] h
end enthymemeref07_Made
namespace value_ValidSort
abbrev X:Fx:=⟨aB,Tryz.f13,[],[1]⟩
abbrev P0:Ps:=[]
abbrev gW (w:aA) (R:aT):Prop:=
 R (aJ (.i 9)) w
def gN:=bX X [] (bV [0,1,1,1,3]) P0 gW
abbrev fN (w:aA) (R:aT):Prop:=
 R (aJ (.i 9)) w
def fU:=bX X [gN] (bV [0,1,1,1,4]) P0 fN
abbrev ir (w:aA) (R:aT):Prop:=
 R (aJ (.i 0)) w
def iG:=bX X [fU,gN] (bV [5]) P0 ir
abbrev P1:Ps:=[(1,.l [.I,.I,.I] bI),(3,.v [.I]),(4,.v [.I]),(5,.v [.b])]
abbrev eX (g:Nat) (f d b c e:Int) (a:Bool) (w:aA) (R:aT):Prop:=
 aW (aR (d<c)) (gW w R) (aW (aR (d>e)) (gW w R) (aW a (aW (aR (b<1)) (fN w R) (aW (aR (b>16)) (fN w R) (aW (!a) (aW (b !=0) (fN w R) (ir w R)) (ir w R)))) (aW (!a) (aW (b !=0) (fN w R) (ir w R)) (ir w R))))
def fH:=bX X [iG,fU,gN] (bV [3]) P1 eX
def dQ (a b c:Int) (w:aA) (R:aT) (h:cB [] w λe d=>
 aW (a==0) (eX e a b c 1 64 false d R) (aW (a==1) (eX e a b c 0 64 false d R) (aW (a==2) (eX e a b c 1 64 true d R) (aW (a==3) (eX e a b c 0 64 true d R) (R (aJ (.i 9)) d))))):aH aB mr #[.agg #[.i a,.i b,.i c]] w R:=aZ X [fH,iG,fU,gN] h
end value_ValidSort
namespace term_isName
abbrev X:Fx:=⟨aB,Tryz.f114,[],[]⟩
abbrev P0:Ps:=[]
abbrev S0 (w:aA) (R:aT):Prop:=
 R (aJ (.bool false)) w
def fH:=bX X [] (bV [0,1,1,1,1]) P0 S0
abbrev P1:Ps:=[(0,.v [.st]),(3,.v [.I])]
def L1 (b:ByteArray) (a:Int) (w:aA) (R:aT):Prop:=dD P1 0 (X.Sem (bV [0,1,1,1,2])) b a w R
def kA:=gI X (bV [0,1,1,1,2]) P1 L1
abbrev S4 (w:aA) (R:aT):Prop:=
 R (aJ (.bool false)) w
def ny:=bX X [kA,fH] (bV [0,1,3,2,1,2,1,1,2]) P0 S4
abbrev S5 (b:ByteArray) (a:Int) (w:aA) (R:aT):Prop:=
 L1 b (aC .i64 (a+1)) w R
def vQ:=bX X [ny,kA,fH] (bV [2,2,1,1,2]) P1 S5
abbrev P2:Ps:=[(0,.v [.st]),(3,.v [.I]),(4,.v [.Y]),(5,.v [.b])]
abbrev S3 (d:ByteArray) (b c:Int) (a:Bool) (w:aA) (R:aT):Prop:=
 aW (!a) (aW (b==0) (S4 w R) (aW (c !=45) (aW (aR (c<48)) (S4 w R) (aW (aR (c>57)) (S4 w R) (S5 d b w R))) (S5 d b w R))) (S5 d b w R)
def iG:=bX X [vQ,ny,kA,fH] (bV [2,2,1,2,1,1,2]) P2 S3
abbrev P3:Ps:=[(0,.v [.st]),(3,.v [.I]),(4,.v [.Y])]
abbrev S2 (c:ByteArray) (b a:Int) (w:aA) (R:aT):Prop:=
 aW (aR (a>=97)) (S3 c b a (aR (a<=122)) w R) (S3 c b a false w R)
def fU:=bX X [iG,vQ,ny,kA,fH] (bV [1,2,1,2,1,1,2]) P3 S2
def nk:∀(c:ByteArray) (b:Int) (w:aA) (R:aT) (h:aW (aR (b<((c.size:Nat):Int))) ((0:Int)<=b/\∃a:UInt8,c[aF b]? =some a/\S2 c b ((a.toNat:Nat):Int) w R) (R (aJ (.bool true)) w)),L1 c b w R:=mp (dV (X:=X) [fU,iG,vQ,ny,kA,fH] (bV [0,1,1,1,2]) P1)
def ok (a:ByteArray) (w:aA) (R:aT) (h:aW (aR (((a.size:Nat):Int)<1)) (S0 w R) (aW (aR (((a.size:Nat):Int)>16)) (S0 w R) (L1 a 0 w R))):aH aB sN #[.string a] w R:=aZ X [fU,iG,vQ,ny,kA,fH] h
end term_isName
namespace term_fieldsFit
abbrev X:Fx:=⟨aB,Tryz.f85,[],[]⟩
abbrev P0:Ps:=[(0,.v [.r]),(3,.v [.b]),(4,.v [.b]),(5,.v [.b]),(6,.v [.b])]
abbrev S1 (b:Addr) (r q c a:Bool) (w:aA) (R:aT):Prop:=
 aW r (aW q (aW c (aW a (R (aJ (.bool true)) w) (∃x:ByteArray,w.cell? (b.add 5)=some (.string x)/\
 R (aJ (.bool (x.toList==(aE #[]).toList))) w)) (∃v:Int,w.cell? (b.add 4)=some (.u v)/\
 aW (v==0) (aW a (R (aJ (.bool true)) w) (∃j:ByteArray,w.cell? (b.add 5)=some (.string j)/\
 R (aJ (.bool (j.toList==(aE #[]).toList))) w)) (R (aJ (.bool false)) w))) (∃t:Int,w.cell? (b.add 3)=some (.i t)/\
 aW (t==0) (aW c (aW a (R (aJ (.bool true)) w) (∃k:ByteArray,w.cell? (b.add 5)=some (.string k)/\
 R (aJ (.bool (k.toList==(aE #[]).toList))) w)) (∃e:Int,w.cell? (b.add 4)=some (.u e)/\
 aW (e==0) (aW a (R (aJ (.bool true)) w) (∃l:ByteArray,w.cell? (b.add 5)=some (.string l)/\
 R (aJ (.bool (l.toList==(aE #[]).toList))) w)) (R (aJ (.bool false)) w))) (R (aJ (.bool false)) w))) (∃s:Int,w.cell? (b.add 2)=some (.i s)/\
 aW (s==0) (aW q (aW c (aW a (R (aJ (.bool true)) w) (∃m:ByteArray,w.cell? (b.add 5)=some (.string m)/\
 R (aJ (.bool (m.toList==(aE #[]).toList))) w)) (∃f:Int,w.cell? (b.add 4)=some (.u f)/\
 aW (f==0) (aW a (R (aJ (.bool true)) w) (∃n:ByteArray,w.cell? (b.add 5)=some (.string n)/\
 R (aJ (.bool (n.toList==(aE #[]).toList))) w)) (R (aJ (.bool false)) w))) (∃d:Int,w.cell? (b.add 3)=some (.i d)/\
 aW (d==0) (aW c (aW a (R (aJ (.bool true)) w) (∃o:ByteArray,w.cell? (b.add 5)=some (.string o)/\
 R (aJ (.bool (o.toList==(aE #[]).toList))) w)) (∃g:Int,w.cell? (b.add 4)=some (.u g)/\
 aW (g==0) (aW a (R (aJ (.bool true)) w) (∃p:ByteArray,w.cell? (b.add 5)=some (.string p)/\
 R (aJ (.bool (p.toList==(aE #[]).toList))) w)) (R (aJ (.bool false)) w))) (R (aJ (.bool false)) w))) (R (aJ (.bool false)) w))
def gN:=bX X [] (bV [3]) P0 S1
abbrev P1:Ps:=[(0,.v [.r]),(3,.v [.b]),(4,.v [.b]),(5,.v [.b])]
abbrev S0 (d:Addr) (b a c:Bool) (w:aA) (R:aT):Prop:=
 S1 d b a c true w R
def fH:=bX X [gN] (bV [0,1,1,1,1,1,2]) P1 S0
abbrev P2:Ps:=[(0,.v [.r]),(4,.v [.b]),(5,.v [.b]),(6,.v [.b])]
abbrev S3 (d:Addr) (b c a:Bool) (w:aA) (R:aT):Prop:=
 S1 d true b c a w R
def iG:=bX X [fH,gN] (bV [0,1,7,1,1,1,2]) P2 S3
abbrev P3:Ps:=[(0,.v [.r]),(3,.v [.b]),(4,.v [.b]),(5,.v [.b]),(6,.v [.b]),(10,.v [.I])]
abbrev S2 (f:Addr) (d b c a:Bool) (e:Int) (w:aA) (R:aT):Prop:=
 aW (e==1) (S1 f d b true a w R) (aW (e==21) (S1 f true true c a w R) (aW (e==22) (aW (e==22) (S3 f b c a w R) (S1 f d b c a w R)) (aW (e==23) (aW (e==23) (S3 f b c a w R) (S1 f d b c a w R)) (aW (e==28) (S3 f b c a w R) (S1 f d b c a w R)))))
def fU:=bX X [iG,fH,gN] (bV [2,1,1,1,2]) P3 S2
def ok (b:Addr) (w:aA) (R:aT) (h:∃a:Int,w.cell? (b.add 0)=some (.i a)/\
 aW (a==0) (aW (a==0) (S0 b false false false w R) (S2 b false false false false a w R)) (aW (a==2) (aW (a==2) (S0 b false false false w R) (S2 b false false false false a w R)) (aW (a==33) (S0 b false false false w R) (S2 b false false false false a w R)))):aH aB p9 #[.pointer (some b)] w R:=aZ X [fU,iG,fH,gN] h
end term_fieldsFit
namespace term_bv
abbrev X:Fx:=⟨aB,Tryz.f119,[],[2]⟩
def dQ (a:Int) (w:aA) (R:aT) (h:cB [] w λb c=>
 loc [b] c λd=>R (aJ (.agg #[.i 0,.i a,.i 0])) d):aH aB gp #[.i a] w R:=aZ X [] h
end term_bv
namespace term_str
abbrev X:Fx:=⟨aB,Tryz.f115,[],[2]⟩
def dQ (a:Int) (w:aA) (R:aT) (h:cB [] w λb c=>
 loc [b] c λd=>R (aJ (.agg #[.i 1,.i a,.i 0])) d):aH aB m8 #[.i a] w R:=aZ X [] h
end term_str
namespace term_isBV
abbrev X:Fx:=⟨aB,Tryz.f118,[],[1]⟩
def dQ (a b c:Int) (w:aA) (R:aT) (h:cB [] w λe d=>
 R (aJ (.bool (a==0))) d):aH aB jY #[.agg #[.i a,.i b,.i c]] w R:=aZ X [] h
end term_isBV
namespace term_isStr
abbrev X:Fx:=⟨aB,Tryz.f121,[],[1]⟩
def dQ (a b c:Int) (w:aA) (R:aT) (h:cB [] w λe d=>
 R (aJ (.bool (a==1))) d):aH aB dU #[.agg #[.i a,.i b,.i c]] w R:=aZ X [] h
end term_isStr
namespace term_isArray
abbrev X:Fx:=⟨aB,Tryz.f116,[],[1]⟩
def dQ (a b c:Int) (w:aA) (R:aT) (h:cB [] w λe d=>
 aW (a==2) (R (aJ (.bool true)) d) (R (aJ (.bool (a==3))) d)):aH aB mY #[.agg #[.i a,.i b,.i c]] w R:=aZ X [] h
end term_isArray
namespace term_alike
abbrev X:Fx:=⟨aB,Tryz.f120,[],[2,3]⟩
def dQ (a b c d e f:Int) (w:aA) (R:aT) (h:cB [] w λg o=>
 cB [g] o λj m=>
 aW ((a==d)&&((b==e)&&((c==f)&&true))) (R (aJ (.bool true)) m) (lO [g,j] dU #[.agg #[.i a,.i b,.i c]] m λk n=>aW k (lO [g,j] dU #[.agg #[.i d,.i e,.i f]] n λl p=>R (aJ (.bool l)) p) (R (aJ (.bool false)) n))):aH aB q8 #[.agg #[.i a,.i b,.i c],.agg #[.i d,.i e,.i f]] w R:=aZ X [] h
end term_alike
namespace term_result
abbrev X:Fx:=⟨aB,Tryz.f117,[],[3,6]⟩
def dQ (b c d:Int) (e a:Bool) (w:aA) (R:aT) (h:cB [] w λf l=>
 cB [f] l λg j=>
 aW (!e) (loc [f,g] j λm=>R (aJ (.tuple #[.agg #[.i b,.i c,.i d],.i 9])) m) (aW (!a) (loc [f,g] j λn=>R (aJ (.tuple #[.agg #[.i b,.i c,.i d],.i 5])) n) (loc [f,g] j λk=>R (aJ (.tuple #[.agg #[.i b,.i c,.i d],.i 0])) k))):aH aB bM #[.agg #[.i b,.i c,.i d],.bool e,.bool a] w R:=aZ X [] h
end term_result
namespace term_sortOfVar
abbrev X:Fx:=⟨aB,Tryz.f86,[(7,ls [0,1,2,3,4,5,6,7,8])],[]⟩
abbrev P0:Ps:=[(0,.v [.r]),(4,.v [.r])]
abbrev S0 (k g:Addr) (w:aA) (R:aT):Prop:=
 eS w (k.add 6) λa b c=>Le w g (.i a) (.i b) (.i c) λj=>eS j g λd e f=>R (aJ (.tuple #[.agg #[.i d,.i e,.i f],.i 0])) j
def fH:=bX X [] (bV [4]) P0 S0
def ok (e:Addr) (a:Fv) (w:aA) (R:aT) (h:gi w (.cells #[.i 0,.i 0,.i 0] bI) λw1=>
 ∃ak:ByteArray,w1.cell? (e.add 5)=some (.string ak)/\
 Dj sN #[.string ak] w1 λao w2=>aW (!ao) (eS w2 (e.add 6) λo p q=>Le w2 (nb w) (.i o) (.i p) (.i q) λw5=>eS w5 (nb w) λb c d=>R (aJ (.tuple #[.agg #[.i b,.i c,.i d],.i 6])) w5) (eS w2 (e.add 6) λr s t=>Dv mr #[.agg #[.i r,.i s,.i t]] w2 λal w6=>aW (al !=0) (eS w6 (e.add 6) λu x y=>Le w6 (nb w) (.i u) (.i x) (.i y) λw9=>eS w9 (nb w) λb c d=>R (aJ (.tuple #[.agg #[.i b,.i c,.i d],.i al])) w9) (∃am:ByteArray,w6.cell? (e.add 5)=some (.string am)/\
 iW (gq aB a.n) (aH aB a.n (a.bs++#[.string am]++a.cs) w6 λr_ m=>∃f:Int,∃g:Int,∃j:Int,∃l:Bool,r_=aJ (.tuple #[.agg #[.i f,.i g,.i j],.bool l])/\
 gi m (.cells #[.i 0,.i 0,.i 0] bI) λaq=>
 Le aq (nb m) (.i f) (.i g) (.i j) λar=>wy ar λk=>aW l (eS k (nb m) λz aa ab=>eS k (e.add 6) λac ad ae=>aW (!((z==ac)&&((aa==ad)&&((ab==ae)&&true)))) (eS k (e.add 6) λaf ag ah=>Le k (nb w) (.i af) (.i ag) (.i ah) λan=>eS an (nb w) λb c d=>R (aJ (.tuple #[.agg #[.i b,.i c,.i d],.i 8])) an) (S0 e (nb w) k R)) (S0 e (nb w) k R))))):aH aB qa #[.pointer (some e),a.v] w R:=aZ X [fH] h
end term_sortOfVar
namespace term_sortOfLeaf
abbrev X:Fx:=⟨aB,Tryz.f87,[(14,ls [0,1,2,3,4,5,6,7,8,9,10,11,12,13,14,15,16,17,18])],[2]⟩
abbrev P0:Ps:=[(0,.v [.r]),(2,.l [.I,.I,.I] bI)]
abbrev eX (d:Addr) (e:Nat) (f g j:Int) (w:aA) (R:aT):Prop:=
 eS w (d.add 6) λa b c=>loc [e] w λk=>R (aJ (.tuple #[.agg #[.i a,.i b,.i c],.i 0])) k
def fH:=bX X [] (bV [6]) P0 eX
def dQ (a:Addr) (w:aA) (R:aT) (h:cB [] w λb e=>
 ∃t8:Int,e.cell? (a.add 0)=some (.i t8)/\
 aW (t8==2) (∃am:ByteArray,e.cell? (a.add 5)=some (.string am)/\
 aW (aR (((am.size:Nat):Int)>64)) (eS e (a.add 6) λj k l=>loc [b] e λw4=>R (aJ (.tuple #[.agg #[.i j,.i k,.i l],.i 5])) w4) (∃an:ByteArray,e.cell? (a.add 5)=some (.string an)/\
 iF [b] m8 #[.i ((an.size:Nat):Int)] e λm n o w5=>loc [b] w5 λw8=>R (aJ (.tuple #[.agg #[.i m,.i n,.i o],.i 0])) w8)) (eS e (a.add 6) λp q r=>qf [b] mr #[.agg #[.i p,.i q,.i r]] e λao d=>aW (ao !=0) (eS d (a.add 6) λs t v=>loc [b] d λax=>R (aJ (.tuple #[.agg #[.i s,.i t,.i v],.i ao])) ax) (∃ap:Int,d.cell? (a.add 0)=some (.i ap)/\
 aW (ap==3) (eS d (a.add 6) λx y z=>lO [b] mY #[.agg #[.i x,.i y,.i z]] d λav f=>aW (!av) (eS f (a.add 6) λaa ab ac=>loc [b] f λay=>R (aJ (.tuple #[.agg #[.i aa,.i ab,.i ac],.i 9])) ay) (eS f (a.add 6) λad ae af=>loc [b] f λaz=>R (aJ (.tuple #[.agg #[.i ad,.i ae,.i af],.i 0])) az)) (∃aq:Int,d.cell? ((a.add 6).add 0)=some (.i aq)/\
 aW (aq !=0) (eS d (a.add 6) λag ah ai=>loc [b] d λbb=>R (aJ (.tuple #[.agg #[.i ag,.i ah,.i ai],.i 9])) bb) (loc [b] d λc=>∃ar:Int,c.cell? ((a.add 6).add 1)=some (.i ar)/\
 aW (aR (ar<64)) (∃au:Int,c.cell? (a.add 4)=some (.u au)/\
 ∃g:Int,c.cell? ((a.add 6).add 1)=some (.i g)/\
 ¬g<0/\aW ((Int.fdiv au (2^(min (aF g) (IntKind.bits .u64)))) !=0) (eS c (a.add 6) λaj ak al=>loc [b] c λbc=>R (aJ (.tuple #[.agg #[.i aj,.i ak,.i al],.i 5])) bc) (eX a b 0 0 0 c R)) (eX a b 0 0 0 c R)))))):aH aB py #[.pointer (some a)] w R:=aZ X [fH] h
end term_sortOfLeaf
namespace term_sortOfBits
abbrev X:Fx:=⟨aB,Tryz.f88,[(4,ls [0,1,2,3,4,5,6,7]),(7,ls [1,0,2,3,4,5,6,7,8,9,10,11,12]),(9,ls [1,2,0,3,4,5,6,7,8]),(14,ls [0,1,2,3,4,5,6,7,8,9,10,11,12,13]),(16,ls [0,1,2,3,4,6,12,13,14,15,16,17,5,7,8,9,10,11,18,19,20,21,22]),(18,ls [0,1,2,3,4,5,6,7,8,9,11,13,14,15,16,17,10,12,18,19,20,21,22,23,24,25,26,27,28,29,30,31,32,33,34,35,36,37,38,39,40,41,42]),(21,ls [0,1,2,3,4,5,6,8,10,11,12,13,14,7,9,15,16,17,18,19,20,21,22,23,24,25,26,27,28,29]),(22,ls [0,1,2,3,4,5,6,7,8,9,10,11,12])],[5,6,7,8,10]⟩
abbrev P0:Ps:=[(5,.l [.I,.I,.I] bI),(8,.l [.I,.I,.I] bI)]
abbrev eX (k:Nat) (d e f:Int) (j:Nat) (m n o:Int) (w:aA) (R:aT):Prop:=
 loc [k,j] w λp=>lO [k,j] jY #[.agg #[.i d,.i e,.i f]] p λl q=>jh [k,j] bM #[.agg #[.i d,.i e,.i f],.bool l,.bool true] q λa b c g r=>loc [k,j] r λs=>R (aJ (.tuple #[.agg #[.i a,.i b,.i c],.i g])) s
def fH:=bX X [] (bV [0,1,1,1,1,1,1]) P0 eX
abbrev P1:Ps:=[(5,.l [.I,.I,.I] bI),(6,.l [.I,.I,.I] bI),(8,.l [.I,.I,.I] bI)]
abbrev fN (f:Nat) (p q r:Int) (g:Nat) (t u v:Int) (e:Nat) (aa ab ac:Int) (w:aA) (R:aT):Prop:=
 loc [f,g,e] w λw1=>iF [f,g,e] gp #[.i 1] w1 λj k l w2=>lO [f,g,e] jY #[.agg #[.i p,.i q,.i r]] w2 λx z=>aW x (jh [f,g,e] bM #[.agg #[.i j,.i k,.i l],.bool ((p==t)&&((q==u)&&((r==v)&&true))),.bool true] z λm n o s w4=>loc [f,g,e] w4 λw7=>R (aJ (.tuple #[.agg #[.i m,.i n,.i o],.i s])) w7) (jh [f,g,e] bM #[.agg #[.i j,.i k,.i l],.bool false,.bool true] z λa b c d w8=>loc [f,g,e] w8 λy=>R (aJ (.tuple #[.agg #[.i a,.i b,.i c],.i d])) y)
def fU:=bX X [fH] (bV [0,1,3,1,1,1,1]) P1 fN
abbrev P2:Ps:=[(5,.l [.I,.I,.I] bI),(6,.l [.I,.I,.I] bI),(7,.l [.I,.I,.I] bI),(8,.l [.I,.I,.I] bI),(10,.l [.I,.I,.I] bI)]
abbrev rm (g:Nat) (v x y:Int) (j:Nat) (z aa ab:Int) (k:Nat) (ac ad ae:Int) (f:Nat) (ai aj ak:Int) (a:Nat) (l m n:Int) (w:aA) (R:aT):Prop:=
 loc [g,j,k,f,a] w λw1=>iF [g,j,k,f,a] gp #[.i 1] w1 λr s t w2=>aW ((v==r)&&((x==s)&&((y==t)&&true))) (lO [g,j,k,f,a] q8 #[.agg #[.i z,.i aa,.i ab],.agg #[.i ac,.i ad,.i ae]] w2 λaf w3=>jh [g,j,k,f,a] bM #[.agg #[.i l,.i m,.i n],.bool af,.bool true] w3 λo p q u w4=>loc [g,j,k,f,a] w4 λw7=>R (aJ (.tuple #[.agg #[.i o,.i p,.i q],.i u])) w7) (jh [g,j,k,f,a] bM #[.agg #[.i l,.i m,.i n],.bool false,.bool true] w2 λb c d e w8=>loc [g,j,k,f,a] w8 λag=>R (aJ (.tuple #[.agg #[.i b,.i c,.i d],.i e])) ag)
def ny:=bX X [fU,fH] (bV [2,1,7,1,1,1,1]) P2 rm
abbrev P3:Ps:=[(0,.v [.r]),(5,.l [.I,.I,.I] bI),(8,.l [.I,.I,.I] bI)]
abbrev DQ (q:Addr) (o:Nat) (y p z:Int) (n:Nat) (ac ad ae:Int) (w:aA) (R:aT):Prop:=
 loc [o,n] w λx=>∃r:Int,x.cell? (q.add 2)=some (.i r)/\
 ∃d:Int,x.cell? (q.add 2)=some (.i d)/\
 iF [o,n] gp #[.i (aC .i64 (p+r))] x λe f g w2=>w2.cell? (q.add 2)=some (.i d)/\lO [o,n] jY #[.agg #[.i y,.i p,.i z]] w2 λs v=>v.cell? (q.add 2)=some (.i d)/\aW (aR (1<=d)) (∃t:Int,v.cell? (q.add 2)=some (.i t)/\
 jh [o,n] bM #[.agg #[.i e,.i f,.i g],.bool s,.bool (aR (t<=(aC .i64 (64 - p))))] v λk l m u w4=>loc [o,n] w4 λw7=>R (aJ (.tuple #[.agg #[.i k,.i l,.i m],.i u])) w7) (jh [o,n] bM #[.agg #[.i e,.i f,.i g],.bool s,.bool false] v λa b c j w8=>loc [o,n] w8 λaa=>R (aJ (.tuple #[.agg #[.i a,.i b,.i c],.i j])) aa)
def vQ:=bX X [ny,fU,fH] (bV [0,1,13,1,1,1,1]) P3 DQ
abbrev zY (n:Nat) (d e f:Int) (o:Nat) (r s t:Int) (m:Nat) (x y z:Int) (w:aA) (R:aT):Prop:=
 loc [n,o,m] w λw1=>lO [n,o,m] jY #[.agg #[.i d,.i e,.i f]] w1 λq v=>aW q (jh [n,o,m] bM #[.agg #[.i d,.i e,.i f],.bool ((d==r)&&((e==s)&&((f==t)&&true))),.bool true] v λj k l p w3=>loc [n,o,m] w3 λw6=>R (aJ (.tuple #[.agg #[.i j,.i k,.i l],.i p])) w6) (jh [n,o,m] bM #[.agg #[.i d,.i e,.i f],.bool false,.bool true] v λa b c g w7=>loc [n,o,m] w7 λu=>R (aJ (.tuple #[.agg #[.i a,.i b,.i c],.i g])) u)
def sE:=bX X [vQ,ny,fU,fH] (bV [2]) P1 zY
abbrev P4:Ps:=[(0,.v [.r]),(5,.l [.I,.I,.I] bI),(6,.l [.I,.I,.I] bI),(7,.l [.I,.I,.I] bI),(8,.l [.I,.I,.I] bI),(14,.v [.I])]
abbrev ir (x:Addr) (b:Nat) (g f j:Int) (c:Nat) (k d l:Int) (e:Nat) (ai p aj:Int) (a:Nat) (m n o u:Int) (w:aA) (R:aT):Prop:=
 aW (u==18) (loc [b,c,e,a] w λw1=>iF [b,c,e,a] gp #[.i 1] w1 λbk bm bn w2=>lO [b,c,e,a] q8 #[.agg #[.i g,.i f,.i j],.agg #[.i k,.i d,.i l]] w2 λbx w3=>jh [b,c,e,a] bM #[.agg #[.i bk,.i bm,.i bn],.bool bx,.bool true] w3 λax ay az bo w4=>loc [b,c,e,a] w4 λw7=>R (aJ (.tuple #[.agg #[.i ax,.i ay,.i az],.i bo])) w7) (aW (u==19) (cB [b,c,e,a] w λq w8=>
 loc [b,c,e,a,q] w8 λcd=>lO [b,c,e,a,q] dU #[.agg #[.i k,.i d,.i l]] cd λbz bt=>aW bz (lO [b,c,e,a,q] dU #[.agg #[.i ai,.i p,.i aj]] bt λca bu=>aW ca (iF [b,c,e,a,q] m8 #[.i (if d<p then p else d)] bu λbp bq br ce=>loc [b,c,e,a,q] ce λcf=>rm b g f j c k d l e ai p aj a m n o q bp bq br cf R) (rm b g f j c k d l e ai p aj a m n o q k d l bu R)) (rm b g f j c k d l e ai p aj a m n o q k d l bt R)) (aW (u==20) (loc [b,c,e,a] w λcg=>iF [b,c,e,a] gp #[.i (aC .i64 (f+d))] cg λar au av ch=>lO [b,c,e,a] jY #[.agg #[.i g,.i f,.i j]] ch λcb bv=>aW cb (lO [b,c,e,a] jY #[.agg #[.i k,.i d,.i l]] bv λcc ci=>jh [b,c,e,a] bM #[.agg #[.i ar,.i au,.i av],.bool cc,.bool (aR ((aC .i64 (f+d))<=64))] ci λbb bc bd bs cj=>loc [b,c,e,a] cj λck=>R (aJ (.tuple #[.agg #[.i bb,.i bc,.i bd],.i bs])) ck) (jh [b,c,e,a] bM #[.agg #[.i ar,.i au,.i av],.bool false,.bool (aR ((aC .i64 (f+d))<=64))] bv λaf ag ah aq cl=>loc [b,c,e,a] cl λcm=>R (aJ (.tuple #[.agg #[.i af,.i ag,.i ah],.i aq])) cm)) (aW (u==21) (loc [b,c,e,a] w λaw=>∃be:Int,aw.cell? (x.add 2)=some (.i be)/\
 ∃bf:Int,aw.cell? (x.add 3)=some (.i bf)/\
 ∃ae:Int,aw.cell? (x.add 3)=some (.i ae)/\
 iF [b,c,e,a] gp #[.i (aC .i64 ((aC .i64 (be - bf))+1))] aw λr s t bw=>bw.cell? (x.add 3)=some (.i ae)/\lO [b,c,e,a] jY #[.agg #[.i g,.i f,.i j]] bw λam v=>v.cell? (x.add 3)=some (.i ae)/\aW (aR (0<=ae)) (∃bg:Int,v.cell? (x.add 3)=some (.i bg)/\
 ∃bh:Int,v.cell? (x.add 2)=some (.i bh)/\
 aW (aR (bg<=bh)) (∃bi:Int,v.cell? (x.add 2)=some (.i bi)/\
 jh [b,c,e,a] bM #[.agg #[.i r,.i s,.i t],.bool am,.bool (aR (bi<f))] v λan ao ap bj cn=>loc [b,c,e,a] cn λco=>R (aJ (.tuple #[.agg #[.i an,.i ao,.i ap],.i bj])) co) (jh [b,c,e,a] bM #[.agg #[.i r,.i s,.i t],.bool am,.bool false] v λy z aa ak cp=>loc [b,c,e,a] cp λcq=>R (aJ (.tuple #[.agg #[.i y,.i z,.i aa],.i ak])) cq)) (jh [b,c,e,a] bM #[.agg #[.i r,.i s,.i t],.bool am,.bool false] v λab ac ad al cr=>loc [b,c,e,a] cr λcs=>R (aJ (.tuple #[.agg #[.i ab,.i ac,.i ad],.i al])) cs)) (aW (u==22) (aW (u==22) (DQ x b g f j a m n o w R) (zY b g f j c k d l a m n o w R)) (aW (u==23) (DQ x b g f j a m n o w R) (zY b g f j c k d l a m n o w R))))))
def iG:=bX X [sE,vQ,ny,fU,fH] (bV [4,1,1,1,1]) P4 ir
abbrev gW (r:Addr) (p:Nat) (d e f:Int) (q:Nat) (g i j:Int) (s:Nat) (l m n:Int) (o:Nat) (a b c k:Int) (w:aA) (R:aT):Prop:=
 aW (k==16) (aW (k==16) (fN p d e f q g i j o a b c w R) (ir r p d e f q g i j s l m n o a b c k w R)) (aW (k==17) (fN p d e f q g i j o a b c w R) (ir r p d e f q g i j s l m n o a b c k w R))
def gN:=bX X [iG,sE,vQ,ny,fU,fH] (bV [2,1,1,1,1]) P4 gW
def dQ (q:Addr) (a b c f g j k l m:Int) (w:aA) (R:aT) (h:cB [] w λe s=>
 cB [e] s λo t=>
 cB [e,o] t λr u=>
 cB [e,o,r] u λp n=>
 ∃d:Int,n.cell? (q.add 0)=some (.i d)/\
 aW (d==4) (aW (d==4) (eX e a b c p 0 0 0 n R) (gW q e a b c o f g j r k l m p 0 0 0 d n R)) (aW (d==5) (eX e a b c p 0 0 0 n R) (gW q e a b c o f g j r k l m p 0 0 0 d n R))):aH aB pw #[.pointer (some q),.agg #[.i a,.i b,.i c],.agg #[.i f,.i g,.i j],.agg #[.i k,.i l,.i m]] w R:=aZ X [gN,iG,sE,vQ,ny,fU,fH] h
end term_sortOfBits
namespace term_sortOfArrays
abbrev X:Fx:=⟨aB,Tryz.f89,[(2,ls [0,1,3,2,4,5,6,7,8,9,10,11,12,13,14]),(6,ls [0,1,2,3,4,5,6,7,8,9]),(10,ls [0,1,2,3,4,5,6,7,8,9,10,11,12,13,14,15,16,17]),(11,ls [0,1,2,3,4,5,6,7,8,9,10,11])],[5,6,7,8,10]⟩
abbrev P0:Ps:=[(0,.v [.r]),(5,.l [.I,.I,.I] bI),(7,.l [.I,.I,.I] bI),(8,.l [.I,.I,.I] bI),(10,.l [.I,.I,.I] bI),(11,.v [.b])]
abbrev gW (n0:Addr) (c:Nat) (j k m:Int) (d:Nat) (al aa am:Int) (b:Nat) (bh bi bj:Int) (a:Nat) (e f g:Int) (l:Bool) (w:aA) (R:aT):Prop:=
 ∃aq:Int,w.cell? (n0.add 0)=some (.i aq)/\
 aW (aq==24) (jh [c,d,b,a] bM #[.agg #[.i e,.i f,.i g],.bool l,.bool true] w λab ac ad an w1=>loc [c,d,b,a] w1 λw4=>R (aJ (.tuple #[.agg #[.i ab,.i ac,.i ad],.i an])) w4) (aW (j==3) (aW l (loc [c,d,b,a] w λw5=>lO [c,d,b,a] dU #[.agg #[.i al,.i aa,.i am]] w5 λau w6=>aW au (jh [c,d,b,a] bM #[.agg #[.i j,.i k,.i m],.bool (aR (aa<=k)),.bool true] w6 λae af ag ao w7=>loc [c,d,b,a] w7 λav=>R (aJ (.tuple #[.agg #[.i ae,.i af,.i ag],.i ao])) av) (jh [c,d,b,a] bM #[.agg #[.i j,.i k,.i m],.bool false,.bool true] w6 λn o p x aw=>loc [c,d,b,a] aw λax=>R (aJ (.tuple #[.agg #[.i n,.i o,.i p],.i x])) ax)) (loc [c,d,b,a] w λw5=>jh [c,d,b,a] bM #[.agg #[.i j,.i k,.i m],.bool false,.bool true] w5 λq r s y ay=>loc [c,d,b,a] ay λaz=>R (aJ (.tuple #[.agg #[.i q,.i r,.i s],.i y])) az)) (aW l (loc [c,d,b,a] w λak=>jh [c,d,b,a] bM #[.agg #[.i j,.i k,.i m],.bool ((al==e)&&((aa==f)&&((am==g)&&true))),.bool true] ak λah ai aj ap bb=>loc [c,d,b,a] bb λbc=>R (aJ (.tuple #[.agg #[.i ah,.i ai,.i aj],.i ap])) bc) (loc [c,d,b,a] w λak=>jh [c,d,b,a] bM #[.agg #[.i j,.i k,.i m],.bool false,.bool true] ak λt u v z bd=>loc [c,d,b,a] bd λbe=>R (aJ (.tuple #[.agg #[.i t,.i u,.i v],.i z])) be)))
def gN:=bX X [] (bV [5]) P0 gW
abbrev P1:Ps:=[(0,.v [.r]),(5,.l [.I,.I,.I] bI),(6,.l [.I,.I,.I] bI),(7,.l [.I,.I,.I] bI),(8,.l [.I,.I,.I] bI),(10,.l [.I,.I,.I] bI)]
abbrev eX (n0:Addr) (n:Nat) (f g e:Int) (v:Nat) (x y z:Int) (o:Nat) (p q r:Int) (j:Nat) (k l m:Int) (a:Nat) (b c d:Int) (w:aA) (R:aT):Prop:=
 loc [n,v,o,j,a] w λw1=>lO [n,v,o,j,a] mY #[.agg #[.i f,.i g,.i e]] w1 λab w2=>aW ab (iF [n,v,o,j,a] gp #[.i e] w2 λs t u w3=>gW n0 n f g e o p q r j k l m a b c d ((x==s)&&((y==t)&&((z==u)&&true))) w3 R) (gW n0 n f g e o p q r j k l m a b c d false w2 R)
def fH:=bX X [gN] (bV [4]) P1 eX
def dQ (n0:Addr) (f e g n o p r s t:Int) (w:aA) (R:aT) (h:cB [] w λa w1=>
 cB [a] w1 λb w2=>
 cB [a,b] w2 λc w3=>
 cB [a,b,c] w3 λd w4=>
 ∃ak:Int,w4.cell? (n0.add 0)=some (.i ak)/\
 aW (ak==26) (loc [a,b,c,d] w4 λw5=>iF [a,b,c,d] gp #[.i g] w5 λu v x w6=>lO [a,b,c,d] mY #[.agg #[.i f,.i e,.i g]] w6 λan w7=>aW an (jh [a,b,c,d] bM #[.agg #[.i u,.i v,.i x],.bool ((f==n)&&((e==o)&&((g==p)&&true))),.bool true] w7 λy z aa ad w8=>loc [a,b,c,d] w8 λao=>R (aJ (.tuple #[.agg #[.i y,.i z,.i aa],.i ad])) ao) (jh [a,b,c,d] bM #[.agg #[.i u,.i v,.i x],.bool false,.bool true] w7 λk l m q ap=>loc [a,b,c,d] ap λaq=>R (aJ (.tuple #[.agg #[.i k,.i l,.i m],.i q])) aq)) (iF [a,b,c,d] gp #[.i e] w4 λae af ag ar=>cB [a,b,c,d] ar λj al=>
 aW (f==3) (loc [a,b,c,d,j] al λab=>iF [a,b,c,d,j] m8 #[.i e] ab λah ai aj au=>loc [a,b,c,d,j] au λav=>eX n0 a f e g b n o p c r s t d 0 0 0 j ah ai aj av R) (loc [a,b,c,d,j] al λab=>eX n0 a f e g b n o p c r s t d 0 0 0 j ae af ag ab R))):aH aB nX #[.pointer (some n0),.agg #[.i f,.i e,.i g],.agg #[.i n,.i o,.i p],.agg #[.i r,.i s,.i t]] w R:=aZ X [fH,gN] h
end term_sortOfArrays
namespace term_sortOfStrings
abbrev X:Fx:=⟨aB,Tryz.f90,[(3,ls [1,0,2,3,4,5,6,7]),(5,ls [1,3,4,5,6,7,0,2,8,9,10,11,12,13,14,15,16,17,18,19]),(7,ls [0,1,2,3,4,6,12,13,14,15,16,17,5,7,8,9,10,11,18,19,20,21,22]),(9,ls [0,1,2,3,4,5,6,7,8,9,10,11,12,13,14,15,16,17]),(11,ls [1,0,2,3,4,5,6,7,8,9,10,11]),(13,ls [0,1,2,3,4,6,16,17,18,19,20,21,5,7,8,9,10,11,12,13,14,15,22,23,24,25,26]),(15,ls [1,0,2,3,4,5,6,7,8])],[5,6,7,8]⟩
def dQ (n0:Addr) (f e g p j q bf k bg:Int) (w:aA) (R:aT) (h:cB [] w λa w1=>
 cB [a] w1 λb w2=>
 cB [a,b] w2 λc w3=>
 cB [a,b,c] w3 λd w4=>
 ∃l:Int,w4.cell? (n0.add 0)=some (.i l)/\
 aW (l==27) (loc [a,b,c,d] w4 λw5=>iF [a,b,c,d] gp #[.i 7] w5 λcw cx cy w6=>lO [a,b,c,d] dU #[.agg #[.i f,.i e,.i g]] w6 λeb w7=>jh [a,b,c,d] bM #[.agg #[.i cw,.i cx,.i cy],.bool eb,.bool true] w7 λbt bu bv cz w8=>loc [a,b,c,d] w8 λeh=>R (aJ (.tuple #[.agg #[.i bt,.i bu,.i bv],.i cz])) eh) (aW (l==28) (loc [a,b,c,d] w4 λdm=>∃bk:Int,dm.cell? (n0.add 2)=some (.i bk)/\
 iF [a,b,c,d] gp #[.i 8] dm λbh bi bj dn=>dn.cell? (n0.add 2)=some (.i bk)/\lO [a,b,c,d] dU #[.agg #[.i f,.i e,.i g]] dn λdk bs=>bs.cell? (n0.add 2)=some (.i bk)/\aW (aR (0<=bk)) (∃dl:Int,bs.cell? (n0.add 2)=some (.i dl)/\
 jh [a,b,c,d] bM #[.agg #[.i bh,.i bi,.i bj],.bool dk,.bool (aR (dl<64))] bs λbw bx bz da ei=>loc [a,b,c,d] ei λej=>R (aJ (.tuple #[.agg #[.i bw,.i bx,.i bz],.i da])) ej) (jh [a,b,c,d] bM #[.agg #[.i bh,.i bi,.i bj],.bool dk,.bool false] bs λy z aa az ek=>loc [a,b,c,d] ek λel=>R (aJ (.tuple #[.agg #[.i y,.i z,.i aa],.i az])) el)) (aW (l==29) (loc [a,b,c,d] w4 λem=>iF [a,b,c,d] m8 #[.i (aC .i64 (e+j))] em λbm bn bo en=>lO [a,b,c,d] dU #[.agg #[.i f,.i e,.i g]] en λec dp=>aW ec (lO [a,b,c,d] dU #[.agg #[.i p,.i j,.i q]] dp λed eo=>jh [a,b,c,d] bM #[.agg #[.i bm,.i bn,.i bo],.bool ed,.bool (aR ((aC .i64 (e+j))<=64))] eo λca cb cc db ep=>loc [a,b,c,d] ep λeq=>R (aJ (.tuple #[.agg #[.i ca,.i cb,.i cc],.i db])) eq) (jh [a,b,c,d] bM #[.agg #[.i bm,.i bn,.i bo],.bool false,.bool (aR ((aC .i64 (e+j))<=64))] dp λab ac ad bb er=>loc [a,b,c,d] er λes=>R (aJ (.tuple #[.agg #[.i ab,.i ac,.i ad],.i bb])) es)) (aW (l==30) (loc [a,b,c,d] w4 λet=>lO [a,b,c,d] dU #[.agg #[.i f,.i e,.i g]] et λee dq=>aW ee (iF [a,b,c,d] gp #[.i 7] dq λdc dd de dr=>aW ((p==dc)&&((j==dd)&&((q==de)&&true))) (iF [a,b,c,d] gp #[.i 7] dr λdf dg dh eu=>jh [a,b,c,d] bM #[.agg #[.i f,.i e,.i g],.bool ((bf==df)&&((k==dg)&&((bg==dh)&&true))),.bool true] eu λcd ce cf di ev=>loc [a,b,c,d] ev λew=>R (aJ (.tuple #[.agg #[.i cd,.i ce,.i cf],.i di])) ew) (jh [a,b,c,d] bM #[.agg #[.i f,.i e,.i g],.bool false,.bool true] dr λae af ag bc ex=>loc [a,b,c,d] ex λey=>R (aJ (.tuple #[.agg #[.i ae,.i af,.i ag],.i bc])) ey)) (jh [a,b,c,d] bM #[.agg #[.i f,.i e,.i g],.bool false,.bool true] dq λah ai aj bd ez=>loc [a,b,c,d] ez λfa=>R (aJ (.tuple #[.agg #[.i ah,.i ai,.i aj],.i bd])) fa)) (aW (l==31) (loc [a,b,c,d] w4 λfb=>iF [a,b,c,d] gp #[.i 7] fb λbp bq br fc=>lO [a,b,c,d] dU #[.agg #[.i f,.i e,.i g]] fc λef ds=>aW ef (lO [a,b,c,d] dU #[.agg #[.i p,.i j,.i q]] ds λeg fd=>jh [a,b,c,d] bM #[.agg #[.i bp,.i bq,.i br],.bool eg,.bool true] fd λcg ch ci dj fe=>loc [a,b,c,d] fe λff=>R (aJ (.tuple #[.agg #[.i cg,.i ch,.i ci],.i dj])) ff) (jh [a,b,c,d] bM #[.agg #[.i bp,.i bq,.i br],.bool false,.bool true] ds λak al am be fg=>loc [a,b,c,d] fg λfh=>R (aJ (.tuple #[.agg #[.i ak,.i al,.i am],.i be])) fh)) (aW (l==32) (loc [a,b,c,d] w4 λfi=>iF [a,b,c,d] m8 #[.i (aC .i64 (e+k))] fi λm n o fj=>lO [a,b,c,d] dU #[.agg #[.i f,.i e,.i g]] fj λdw dt=>aW dw (lO [a,b,c,d] dU #[.agg #[.i p,.i j,.i q]] dt λdx du=>aW dx (lO [a,b,c,d] dU #[.agg #[.i bf,.i k,.i bg]] du λdy fk=>jh [a,b,c,d] bM #[.agg #[.i m,.i n,.i o],.bool dy,.bool (aR ((aC .i64 (e+k))<=64))] fk λar au av cj fl=>loc [a,b,c,d] fl λfm=>R (aJ (.tuple #[.agg #[.i ar,.i au,.i av],.i cj])) fm) (jh [a,b,c,d] bM #[.agg #[.i m,.i n,.i o],.bool false,.bool (aR ((aC .i64 (e+k))<=64))] du λr s t ao fn=>loc [a,b,c,d] fn λfo=>R (aJ (.tuple #[.agg #[.i r,.i s,.i t],.i ao])) fo)) (jh [a,b,c,d] bM #[.agg #[.i m,.i n,.i o],.bool false,.bool (aR ((aC .i64 (e+k))<=64))] dt λu v x ap fp=>loc [a,b,c,d] fp λfq=>R (aJ (.tuple #[.agg #[.i u,.i v,.i x],.i ap])) fq)) (aW (l==34) (loc [a,b,c,d] w4 λfr=>iF [a,b,c,d] m8 #[.i 1] fr λck cl cm fs=>iF [a,b,c,d] gp #[.i 8] fs λcn co cp ft=>jh [a,b,c,d] bM #[.agg #[.i ck,.i cl,.i cm],.bool ((f==cn)&&((e==co)&&((g==cp)&&true))),.bool true] ft λaw ax ay cq fu=>loc [a,b,c,d] fu λfv=>R (aJ (.tuple #[.agg #[.i aw,.i ax,.i ay],.i cq])) fv) (lO [a,b,c,d] dU #[.agg #[.i f,.i e,.i g]] w4 λdz cv=>aW (!dz) (loc [a,b,c,d] cv λfw=>R (aJ (.tuple #[.agg #[.i f,.i e,.i g],.i 9])) fw) (∃cr:ByteArray,cv.cell? (n0.add 5)=some (.string cr)/\
 lO [a,b,c,d] oz #[.string cr] cv λea dv=>aW (!ea) (loc [a,b,c,d] dv λfx=>R (aJ (.tuple #[.agg #[.i f,.i e,.i g],.i 2])) fx) (iF [a,b,c,d] gp #[.i 1] dv λcs ct cu fy=>loc [a,b,c,d] fy λfz=>R (aJ (.tuple #[.agg #[.i cs,.i ct,.i cu],.i 0])) fz)))))))))):aH aB mZ #[.pointer (some n0),.agg #[.i f,.i e,.i g],.agg #[.i p,.i j,.i q],.agg #[.i bf,.i k,.i bg]] w R:=aZ X [] h
end term_sortOfStrings
namespace term_sortOf
abbrev X:Fx:=⟨aB,Tryz.f65,[(1,ls [0,1,2,3,4,5,6,7,8,9,10,11,12,13,14,15,16,17])],[6,11]⟩
abbrev P0:Ps:=[(6,.l [.I,.I,.I] bI)]
abbrev eX (a:Nat) (b c d:Int) (w:aA) (R:aT):Prop:=
 loc [a] w λe=>R (aJ (.tuple #[.agg #[.i 0,.i 0,.i 0],.i 1])) e
def fH:=bX X [] (bV [0,1,1,1,1]) P0 eX
abbrev P1:Ps:=[(0,.v [.s]),(2,.v [.f]),(4,.v [.r]),(6,.l [.I,.I,.I] bI),(8,.v [.r]),(34,.v [.I]),(35,.v [.I])]
def mC (b:Sl) (a:Fv) (j:Addr) (k:Nat) (d e f:Int) (c:Addr) (g i:Int) (w:aA) (R:aT):Prop:=dD P1 0 (X.Sem (bV [0,1,1,1,3])) b a j k d e f c g i w R
def kA:=gI X (bV [0,1,1,1,3]) P1 mC
abbrev fN (a:Nat) (b c d:Int) (w:aA) (R:aT):Prop:=
 loc [a] w λe=>R (aJ (.tuple #[.agg #[.i 0,.i 0,.i 0],.i 1])) e
def fU:=bX X [kA,fH] (bV [0,1,1,1,2,2,2,2,1,1,3]) P0 fN
abbrev P2:Ps:=[(6,.l [.I,.I,.I] bI),(11,.l [.I,.I,.I] bI),(12,.v [.I])]
abbrev ir (f:Nat) (g j k:Int) (e:Nat) (a b c d:Int) (w:aA) (R:aT):Prop:=
 aW (d !=0) (loc [f,e] w λl=>R (aJ (.tuple #[.agg #[.i 0,.i 0,.i 0],.i d])) l) (loc [f,e] w λm=>R (aJ (.tuple #[.agg #[.i a,.i b,.i c],.i 0])) m)
def iG:=bX X [fU,kA,fH] (bV [8]) P2 ir
def dR:∀(k:Sl) (m:Fv) (o:Addr) (d:Nat) (f g j:Int) (b:Addr) (ay l:Int) (w:aA) (R:aT) (h:aW (aR (l<ay)) (∃az:Sl,w.cell? (o.add 1)=some (az.v)/\
 bY az l λbb=>∃p:Int,w.cell? (bb.add (aF l *1))=some (.i p)/\
 aW (aR (p<0)) (fN d f g j w R) (aW (aR (p>=((k.n:Nat):Int))) (fN d f g j w R) (bY k p λbc=>eS w ((bc.add (aF p *9)).add 6) λbd be bf=>(0:Int)<=l/\l<((3:Nat):Int)/\cY w (b.add (aF l *3)) (.i bd) λw5=>kept [d] w w5/\
 cY w5 ((b.add (aF l *3)).add 1) (.i be) λw6=>kept [d] w5 w6/\
 cY w6 ((b.add (aF l *3)).add 2) (.i bf) λw7=>kept [d] w6 w7/\
 mC k m o d f g j b ay (aC .i64 (l+1)) w7 R))) (lO [d] p9 #[.pointer (some o)] w λcf w8=>aW (!cf) (loc [d] w8 λcg=>R (aJ (.tuple #[.agg #[.i 0,.i 0,.i 0],.i 1])) cg) (cB [d] w8 λe c=>
 ∃ca:Int,c.cell? (o.add 0)=some (.i ca)/\
 aW (ca==0) (jh [d,e] qa #[.pointer (some o),m.v] c λab ac ad br ch=>loc [d,e] ch λci=>ir d f g j e ab ac ad br ci R) (∃cb:Int,c.cell? (o.add 0)=some (.i cb)/\
 aW (aR (cb<=3)) (jh [d,e] py #[.pointer (some o)] c λae af ag bs cj=>loc [d,e] cj λck=>ir d f g j e ae af ag bs ck R) (∃cc:Int,c.cell? (o.add 0)=some (.i cc)/\
 aW (aR (cc<=23)) ((0:Int)<=0/\0<((3:Nat):Int)/\eS c (b.add (aF 0 *3)) λbt bu bv=>(0:Int)<=1/\1<((3:Nat):Int)/\eS c (b.add (aF 1 *3)) λbw bx bz=>(0:Int)<=2/\2<((3:Nat):Int)/\eS c (b.add (aF 2 *3)) λah ai aj=>jh [d,e] pw #[.pointer (some o),.agg #[.i bt,.i bu,.i bv],.agg #[.i bw,.i bx,.i bz],.agg #[.i ah,.i ai,.i aj]] c λq r s ak cl=>loc [d,e] cl λcm=>ir d f g j e q r s ak cm R) (∃al:Int,c.cell? (o.add 0)=some (.i al)/\
 aW (aR (al<=26)) ((0:Int)<=0/\0<((3:Nat):Int)/\eS c (b.add (aF 0 *3)) λam an ao=>(0:Int)<=1/\1<((3:Nat):Int)/\eS c (b.add (aF 1 *3)) λap aq ar=>(0:Int)<=2/\2<((3:Nat):Int)/\eS c (b.add (aF 2 *3)) λau av aw=>jh [d,e] nX #[.pointer (some o),.agg #[.i am,.i an,.i ao],.agg #[.i ap,.i aq,.i ar],.agg #[.i au,.i av,.i aw]] c λt u x ax cn=>loc [d,e] cn λco=>ir d f g j e t u x ax co R) ((0:Int)<=0/\0<((3:Nat):Int)/\eS c (b.add (aF 0 *3)) λbg bh bi=>(0:Int)<=1/\1<((3:Nat):Int)/\eS c (b.add (aF 1 *3)) λbj bk bm=>(0:Int)<=2/\2<((3:Nat):Int)/\eS c (b.add (aF 2 *3)) λbn bo bp=>jh [d,e] mZ #[.pointer (some o),.agg #[.i bg,.i bh,.i bi],.agg #[.i bj,.i bk,.i bm],.agg #[.i bn,.i bo,.i bp]] c λy z aa bq cp=>loc [d,e] cp λcq=>ir d f g j e y z aa bq cq R))))))),mC k m o d f g j b ay l w R:=mp (dV (X:=X) [iG,fU,kA,fH] (bV [0,1,1,1,3]) P1)
def dQ (c:Sl) (f:Int) (g:Sl) (j k l:Int) (m:ByteArray) (o p q:Int) (b:Fv) (w:aA) (R:aT) (h:gi w (.cells #[.i f,g.v,.i j,.i k,.u l,.string m,.i o,.i p,.i q] bE) λw1=>
 cB [] w1 λe w2=>
 loc [e] w2 λa=>∃r:Int,a.cell? ((nb w).add 0)=some (.i r)/\
 aW (aR (r<0)) (eX e 0 0 0 a R) (∃s:Int,a.cell? ((nb w).add 0)=some (.i s)/\
 aW (aR (s>=35)) (eX e 0 0 0 a R) (∃t:Sl,a.cell? ((nb w).add 1)=some (t.v)/\
 ∃d:Int,a.cell? ((nb w).add 0)=some (.i d)/\
 (0:Int)<=d/\d<((35:Nat):Int)/\∃x:Int,a.cell? ((Addr.mk 0 0 none).add (aF d *1))=some (.i x)/\
 aW (((t.n:Nat):Int) !=x) (eX e 0 0 0 a R) (gi a (.cells #[.i 0,.i 0,.i 0,.i 0,.i 0,.i 0,.i 0,.i 0,.i 0] ot) λz=>
 ∃y:Sl,z.cell? ((nb w).add 1)=some (y.v)/\
 mC c b (nb w) e 0 0 0 (nb a) ((y.n:Nat):Int) 0 z R)))):aH aB sO #[c.v,.agg #[.i f,g.v,.i j,.i k,.u l,.string m,.i o,.i p,.i q],b.v] w R:=aZ X [iG,fU,kA,fH] h
end term_sortOf
namespace regex_small
abbrev X:Fx:=⟨aB,Tryz.f181,[],[]⟩
def ok (a:Int) (w:aA) (R:aT) (h:aW (aR (a>=97)) (R (aJ (.bool (aR (a<=122)))) w) (R (aJ (.bool false)) w)):aH aB lZ #[.int .u8 a] w R:=aZ X [] h
end regex_small
namespace regex_plain
abbrev X:Fx:=⟨aB,Tryz.f196,[],[]⟩
def ok (a:Int) (w:aA) (R:aT) (h:aW (aR (a>=32)) (aW (aR (a<=126)) (aW (a !=39) (R (aJ (.bool (a !=92))) w) (R (aJ (.bool false)) w)) (R (aJ (.bool false)) w)) (R (aJ (.bool false)) w)):aH aB qj #[.int .u8 a] w R:=aZ X [] h
end regex_plain
namespace strings_IndexByte
abbrev X:Fx:=⟨aB,Tryz.f180,[],[]⟩
def ok (b:ByteArray) (a:Int) (w:aA) (R:aT) (h:Dv g9 #[.string b,.int .u8 a] w λc d=>R (aJ (.i c)) d):aH aB iZ #[.string b,.int .u8 a] w R:=aZ X [] h
end strings_IndexByte
namespace internal_stringslite_IndexByte
abbrev X:Fx:=⟨aB,Tryz.f195,[],[]⟩
def ok (b:ByteArray) (a:Int) (w:aA) (R:aT) (h:∃c:Int,∃d:aA,Sem.run aB (callFunc eZ #[.string b,.int .u8 a]) w=.ok (.value (.i c)) d/\
 R (aJ (.i c)) d):aH aB g9 #[.string b,.int .u8 a] w R:=aZ X [] h
end internal_stringslite_IndexByte
namespace regex_byteAt
abbrev X:Fx:=⟨aB,Tryz.f182,[(4,ls [0,1,2,3,5,6,7,8,4,9,10,11])],[]⟩
abbrev P0:Ps:=[]
abbrev S1 (w:aA) (R:aT):Prop:=
 R (aJ (.tuple #[.int .u8 0,.i 0,.bool false])) w
def gN:=bX X [] (bV [3]) P0 S1
abbrev P1:Ps:=[(0,.v [.st]),(1,.v [.I])]
abbrev S0 (f:ByteArray) (a:Int) (w:aA) (R:aT):Prop:=
 aW (aR ((aC .i64 (a+3))<((f.size:Nat):Int))) ((0:Int)<=a/\∃b:UInt8,f[aF a]? =some b/\aW (((b.toNat:Nat):Int)==92) ((0:Int)<=(aC .i64 (a+1))/\∃c:UInt8,f[aF (aC .i64 (a+1))]? =some c/\aW (((c.toNat:Nat):Int)==120) (wy w λl=>(0:Int)<=(aC .i64 (a+2))/\∃d:UInt8,f[aF (aC .i64 (a+2))]? =some d/\(0:Int)<=(aC .i64 (a+3))/\∃e:UInt8,f[aF (aC .i64 (a+3))]? =some e/\Dv iZ #[.string (aE #[48,49,50,51,52,53,54,55,56,57,97,98,99,100,101,102]),.int .u8 ((d.toNat:Nat):Int)] l λg m=>Dv iZ #[.string (aE #[48,49,50,51,52,53,54,55,56,57,97,98,99,100,101,102]),.int .u8 ((e.toNat:Nat):Int)] m λj k=>aW (aR (g>=0)) (aW (aR (j>=0)) (R (aJ (.tuple #[.int .u8 (aC .u8 (bOr .i64 (aC .i64 (g *2^(4))) j)),.i 4,.bool true])) k) (S1 k R)) (S1 k R)) (S1 w R)) (S1 w R)) (S1 w R)
def fH:=bX X [gN] (bV [2]) P1 S0
def ok (b:ByteArray) (a:Int) (w:aA) (R:aT) (h:aW (aR ((aC .i64 (a+2))<((b.size:Nat):Int))) ((0:Int)<=a/\∃c:UInt8,b[aF a]? =some c/\aW (((c.toNat:Nat):Int)==39) ((0:Int)<=(aC .i64 (a+1))/\∃d:UInt8,b[aF (aC .i64 (a+1))]? =some d/\Dj qj #[.int .u8 ((d.toNat:Nat):Int)] w λj g=>aW j ((0:Int)<=(aC .i64 (a+2))/\∃e:UInt8,b[aF (aC .i64 (a+2))]? =some e/\aW (((e.toNat:Nat):Int)==39) ((0:Int)<=(aC .i64 (a+1))/\∃f:UInt8,b[aF (aC .i64 (a+1))]? =some f/\R (aJ (.tuple #[.int .u8 ((f.toNat:Nat):Int),.i 3,.bool true])) g) (S0 b a g R)) (S0 b a g R)) (S0 b a w R)) (S0 b a w R)):aH aB mU #[.string b,.i a] w R:=aZ X [fH,gN] h
end regex_byteAt
namespace regex_tokenAt
abbrev X:Fx:=⟨aB,Tryz.f155,[],[4]⟩
abbrev P0:Ps:=[(0,.v [.st]),(1,.v [.I]),(4,.l [.Y,.Y,.Y,.st,.I] gC),(7,.v [.I])]
def mC (i:ByteArray) (f:Int) (j:Nat) (a b c:Int) (d:ByteArray) (e g:Int) (w:aA) (R:aT):Prop:=dD P0 0 (X.Sem (bV [0,2,1,1,3,2,2])) i f j a b c d e g w R
def kA:=gI X (bV [0,2,1,1,3,2,2]) P0 mC
abbrev fN (c:ByteArray) (a:Int) (d:Nat) (e f g:Int) (j:ByteArray) (k b:Int) (w:aA) (R:aT):Prop:=
 (0:Int)<=b/\b<=((c.size:Nat):Int)/\(0:Int)<=a/\a<=(((aF b):Nat):Int)/\loc [d] w λl=>R (aJ (.tuple #[.agg #[.int .u8 119,.int .u8 0,.int .u8 0,.string (c.extract (aF a) (aF b)),.i a],.i (aC .i64 (b - a))])) l
def fU:=bX X [kA] (bV [2,1,3,2,2]) P0 fN
def dR:∀(i:ByteArray) (k:Int) (j:Nat) (a b c:Int) (d:ByteArray) (e f:Int) (w:aA) (R:aT) (h:aW (aR (f<((i.size:Nat):Int))) ((0:Int)<=f/\∃g:UInt8,i[aF f]? =some g/\lO [j] lZ #[.int .u8 ((g.toNat:Nat):Int)] w λl m=>aW l (mC i k j a b c d e (aC .i64 (f+1)) m R) (fN i k j a b c d e f m R)) (fN i k j a b c d e f w R)),mC i k j a b c d e f w R:=mp (dV (X:=X) [fU,kA] (bV [0,2,1,1,3,2,2]) P0)
abbrev P1:Ps:=[(1,.v [.I]),(4,.l [.Y,.Y,.Y,.st,.I] gC)]
abbrev rm (a:Int) (b:Nat) (c d e:Int) (f:ByteArray) (g:Int) (w:aA) (R:aT):Prop:=
 loc [b] w λj=>R (aJ (.tuple #[.agg #[.int .u8 63,.int .u8 0,.int .u8 0,.s0,.i a],.i 1])) j
def ny:=bX X [fU,kA] (bV [3]) P1 rm
abbrev P2:Ps:=[(0,.v [.st]),(1,.v [.I]),(4,.l [.Y,.Y,.Y,.st,.I] gC),(8,.v [.Y]),(10,.v [.b]),(11,.v [.I]),(12,.v [.Y])]
abbrev DQ (o:ByteArray) (j:Int) (l:Nat) (a b c:Int) (d:ByteArray) (e m:Int) (n:Bool) (g k:Int) (w:aA) (R:aT):Prop:=
 aW (!n) (rm j l a b c d e w R) (aW (aR (g>=((o.size:Nat):Int))) (rm j l a b c d e w R) ((0:Int)<=g/\∃f:UInt8,o[aF g]? =some f/\aW (((f.toNat:Nat):Int) !=93) (rm j l a b c d e w R) (aW (aR (m>k)) (rm j l a b c d e w R) (loc [l] w λp=>R (aJ (.tuple #[.agg #[.int .u8 114,.int .u8 m,.int .u8 k,.s0,.i j],.i (aC .i64 ((aC .i64 (g+1)) - j))])) p))))
def vQ:=bX X [ny,fU,kA] (bV [5,1,5,2,2]) P2 DQ
abbrev P3:Ps:=[(0,.v [.st]),(1,.v [.I]),(4,.l [.Y,.Y,.Y,.st,.I] gC),(8,.v [.Y]),(10,.v [.b]),(11,.v [.I])]
abbrev ir (l:ByteArray) (k:Int) (j:Nat) (a b c:Int) (d:ByteArray) (e q:Int) (p:Bool) (f:Int) (w:aA) (R:aT):Prop:=
 aW (!p) (rm k j a b c d e w R) (aW (aR (f>=((l.size:Nat):Int))) (rm k j a b c d e w R) ((0:Int)<=f/\∃g:UInt8,l[aF f]? =some g/\aW (((g.toNat:Nat):Int) !=45) (rm k j a b c d e w R) (cf7 [j] mU #[.string l,.i (aC .i64 (f+1))] w λm n o r=>DQ l k j a b c d e q o (aC .i64 (f+(aC .i64 (1+n)))) m r R)))
def iG:=bX X [vQ,ny,fU,kA] (bV [2,1,5,2,2]) P3 ir
abbrev P4:Ps:=[(0,.v [.st]),(1,.v [.I]),(4,.l [.Y,.Y,.Y,.st,.I] gC),(6,.v [.Y])]
abbrev eX (l:ByteArray) (a:Int) (b:Nat) (c d e:Int) (f:ByteArray) (g k:Int) (w:aA) (R:aT):Prop:=
 qf [b] iZ #[.string (aE #[40,41,44,124,38,33,42]),.int .u8 k] w λt v=>aW (aR (t>=0)) (loc [b] v λy=>R (aJ (.tuple #[.agg #[.int .u8 k,.int .u8 0,.int .u8 0,.s0,.i a],.i 1])) y) (lO [b] lZ #[.int .u8 k] v λu s=>aW u (mC l a b c d e f g a s R) (aW (k==91) (cf7 [b] mU #[.string l,.i (aC .i64 (a+1))] s λo p q z=>ir l a b c d e f g o q (aC .i64 ((aC .i64 (a+1))+p)) z R) (cf7 [b] mU #[.string l,.i a] s λj m n r=>aW n (loc [b] r λx=>R (aJ (.tuple #[.agg #[.int .u8 114,.int .u8 j,.int .u8 j,.s0,.i a],.i m])) x) (rm a b c d e f g r R))))
def fH:=bX X [iG,vQ,ny,fU,kA] (bV [2]) P4 eX
def dQ (c:ByteArray) (b:Int) (w:aA) (R:aT) (h:cB [] w λd e=>
 (0:Int)<=b/\∃a:UInt8,c[aF b]? =some a/\eX c b d 0 0 0 (aE #[]) 0 ((a.toNat:Nat):Int) e R):aH aB qH #[.string c,.i b] w R:=aZ X [fH,iG,vQ,ny,fU,kA] h
end regex_tokenAt
namespace regex_tokens_1
def C0:Code:=(Tryz.f154.body).getD .skip
def C1:=C0.fs
def C2:=C1.sn
def C3:=C2.fs
def C4:=C3.fs
def C5:=C0.sn
abbrev Q0 (R:aT):OQ:=(Exit.then (Dg aB (cx 39) C5 (bodyPost aB Tryz.f154 R)) (bodyPost aB Tryz.f154 R))
abbrev Q1 (R:aT):OQ:=(Exit.inBlock 0 (Q0 R))
def L0 (a:Nat) (c:Addr) (b:Int) (w:aA) (R:aT):Prop:=LP aB (cx 39) C4 (Q1 R) [(0,.func (.yield a) #[] #[]),(1,.pointer (some c)),(3,.i b)] w
def Lm (E:Env) (w:aA) (R:aT):Prop:=W.E7 (Env.get? E 0) λa=>W.gY (Env.get? E 1) λc=>W.asInt .i64 (Env.get? E 3) λb=>L0 a c b w R
def Bb:LOk aB 39 Lm C4 Q1:=by
 intro R E w h
 obtain ⟨adj,Mc,BV⟩:=W.E8 h
 obtain ⟨t1,hq1,BW⟩:=W.cJ BV
 obtain ⟨i3,FG,FA⟩:=W.mK BW
 intro a ha
 exact FA a (ha.cons Mc (ha.cons hq1 (ha.cons FG ha.nil)))
def C6:=C4.fs
def C7:=C4.sn
def C8:=C7.fs
def C9:=C8.fs
def Nb:=C9.sn
def JQ:=Nb.fs
def SJ:=C8.sn
def SK:=SJ.sn
def SM:=SK.fs
def VU:=SK.sn
def OP:=C6.sn
def SN:=OP.fs
def Th:=JQ.sn
def VV:=Nb.sn
def O5:=SM.sn
def VW:=O5.fs
def C22:=O5.sn
def C23:=OP.sn
def dE (d:Nat) (g:Addr) (f:Int) (w:aA) (R:aT) (h:∃t7:ByteArray,w.cell? g=some (.string t7)/\
 aW (aR (f<((t7.size:Nat):Int))) (∃z:ByteArray,w.cell? g=some (.string z)/\
 (0:Int)<=f/\∃j:UInt8,z[aF f]? =some j/\aW (((j.toNat:Nat):Int)==32) (L0 d g (aC .i64 (f+1)) w R) (∃aa:ByteArray,w.cell? g=some (.string aa)/\
 ca8 qH #[.string aa,.i f] w λk l m o p q y=>gi y (.cells #[.int .u8 0,.int .u8 0,.int .u8 0,.s0,.i 0] gC) λw2=>
 abq w2 (nb y) (.int .u8 k) (.int .u8 l) (.int .u8 m) (.string o) (.i p) λw7=>WI w7 (nb y) λr s t u x=>zV aB d #[.agg #[.int .u8 r,.int .u8 s,.int .u8 t,.string u,.i x]] w7 λ(ad:Bool) w8=>aW (!ad) (R (aJ (.tuple #[])) w8) (∃ab:Int,w8.cell? ((nb y).add 0)=some (.int .u8 ab)/\
 aW (ab==63) (R (aJ (.tuple #[])) w8) (L0 d g (aC .i64 (f+q)) w8 R)))) (∃ac:ByteArray,w.cell? g=some (.string ac)/\
 zV aB d #[.agg #[.int .u8 36,.int .u8 0,.int .u8 0,.s0,.i ((ac.size:Nat):Int)]] w λ(ah:Bool) w9=>R (aJ (.tuple #[])) w9)):L0 d g f w R:=
 LP.step (n:=(cx 39)) (c:=C4) (E:=[(0,.func (.yield d) #[] #[]),(1,.pointer (some g)),(3,.i f)]) (w:=w) (sq C4 (sr C6 (show (λ(E:Env) (w:aA)=>ue aB C6 (λE w=>nN (Env.val E (.tmp 9)) (ue aB C9 (λE w=>nN (Env.val E (.tmp 13)) (ue aB JQ (λE w=>Lm E w R) E w) (ue aB SJ (λE w=>ue aB SM (λE w=>nN (Env.val E (.tmp 30)) (pB aB Tryz.f154 E w (λv=>R (aJ v) w)) (W0 aB VU (λE w=>Lm E w R) E w)) E w) E w)) E w) (W0 aB C5 (λE w=>pB aB Tryz.f154 E w (λv=>R (aJ v) w)) E w)) E w) [(0,.func (.yield d) #[] #[]),(1,.pointer (some g)),(3,.i f)] w from mp h) λ_ _ b=>(cn OP b (λb=>(sk SN λa e=>nx e (bk C7 1 (by kernel_rfl) (sq C8 (sr C9 b λ_ _ b=>(cn Nb b (λb=>(sr JQ b λ_ _ b=>(xt Th 1 (by kernel_rfl) λa e=>Bb R _ _ b a e))) (λb=>(sk VV λa e=>nx e (sr SJ b λ_ _ b=>(sq SK (sr SM b λ_ _ b=>(cn O5 b (λb=>(rt VW λa e=>iM e b)) (λb=>(sk C22 λa e=>nx e (rg VU (by kernel_rfl) b λ_ _ a e b=>Bb R _ _ b a e))))))))))))))) (λb=>(xt C23 0 (by kernel_rfl) λa e=>nx e (rg C5 (by kernel_rfl) b λ_ _ a e b=>iM e b))))))
def ok (a:Nat) (b:Addr) (w:aA) (R:aT) (h:L0 a b 0 w R):aH aB gK #[.func (.yield a) #[] #[],.pointer (some b)] w R:=
 jR (R:=R) (fn:=Tryz.f154) (c:=C0) (args:=[.func (.yield a) #[] #[],.pointer (some b)]) (by kernel_rfl) (by kernel_rfl) (by kernel_rfl) (sq C0 (sr C1 (show (λ(E:Env) (w:aA)=>ue aB C1 (λE w=>Lm E w R) E w) (qN 0 [.func (.yield a) #[] #[],.pointer (some b)]) w from mp h) λ_ _ d=>(bk C2 0 (by kernel_rfl) (lp C3 (by kernel_rfl) (Bb R _ _ d)))))
end regex_tokens_1
namespace regex_tokens
abbrev X:Fx:=⟨aB,Tryz.f141,[],[]⟩
def ok (a:ByteArray) (w:aA) (R:aT) (h:gi w (.cells #[.string a] cG) λb=>
 R (aJ (.func (.func gK) #[] #[.pointer (some (nb w))])) b):aH aB vr #[.string a] w R:=aZ X [] h
end regex_tokens
namespace regex_one
abbrev X:Fx:=⟨aB,Tryz.f162,[],[4]⟩
def dQ (c:Int) (b:Sl) (w:aA) (R:aT) (h:cB [] w λl k=>
 aW (((b.n:Nat):Int)==1) (bY b 0 λj=>cV k (j.add (aF 0 *4)) λd e f g=>loc [l] k λm=>R (aJ (.agg #[.i d,.int .u8 e,.int .u8 f,g.v])) m) (loc [l] k λo=>R (aJ (.agg #[.i c,.int .u8 0,.int .u8 0,b.v])) o)):aH aB jX #[.i c,b.v] w R:=aZ X [] h
end regex_one
namespace regex_frame_endItem
abbrev X:Fx:=⟨aB,Tryz.f161,[(4,(.sq [0,1,2,3,4,5,6,7,8,10,11] (.fork (ls [9,12]) (ls [12,9]))))],[2]⟩
abbrev P0:Ps:=[(0,.v [.r]),(2,.l [.I,.Y,.Y,.s] aL)]
def fO (e:Addr) (f:Nat) (a b c:Int) (d:Sl) (w:aA) (R:aT):Prop:=dD P0 0 (X.Sem (bV [0,2,1])) e f a b c d w R
def fI:=gI X (bV [0,2,1]) P0 fO
def bT:∀(f:Addr) (d:Nat) (g j k:Int) (l:Sl) (w:aA) (R:aT) (h:∃ab:Int,w.cell? (f.add 5)=some (.i ab)/\
 aW (aR (ab>0)) (gi w (.cells #[.i g,.int .u8 j,.int .u8 k,l.v] aL) λw6=>
 loc [d] w6 λo=>∃ac:Int,o.cell? (f.add 5)=some (.i ac)/\
 cY o (f.add 5) (.i (aC .i64 (ac - 1))) λad=>kept [d] o ad/\
 fO f d 6 0 0 ⟨some (nb w),1,1⟩ ad R) (loc [d] w λp=>∃c:Sl,p.cell? (f.add 4)=some (c.v)/\
 gi p (.cells #[.i 0,.int .u8 0,.int .u8 0,.slice none 0 0] aL) λq=>
 q.cell? (f.add 4)=some (c.v)/\∃(m:Sl) (e:aA),Sem.run aB (Builtin.append_ #[aU,aU] aU #[c.v,.slice (some (nb p)) 1 1]) q=.ok (m.v) e/\kept [d] q e/\bY m ((c.n:Nat):Int) λb=>((cY e (b.add (aF ((c.n:Nat):Int) *4)) (.i g) λr=>kept [d] e r/\
 cY r ((b.add (aF ((c.n:Nat):Int) *4)).add 1) (.int .u8 j) λs=>kept [d] r s/\
 cY s ((b.add (aF ((c.n:Nat):Int) *4)).add 2) (.int .u8 k) λt=>kept [d] s t/\
 cY t ((b.add (aF ((c.n:Nat):Int) *4)).add 3) (l.v) λu=>kept [d] t u/\
 cY u (f.add 4) (m.v) λae=>kept [d] u ae/\
 R (aJ (.tuple #[])) ae)/\(cY e (f.add 4) (m.v) λx=>kept [d] e x/\
 cY x (b.add (aF ((c.n:Nat):Int) *4)) (.i g) λy=>kept [d] x y/\
 cY y ((b.add (aF ((c.n:Nat):Int) *4)).add 1) (.int .u8 j) λz=>kept [d] y z/\
 cY z ((b.add (aF ((c.n:Nat):Int) *4)).add 2) (.int .u8 k) λaa=>kept [d] z aa/\
 cY aa ((b.add (aF ((c.n:Nat):Int) *4)).add 3) (l.v) λaf=>kept [d] aa af/\
 R (aJ (.tuple #[])) af)))),fO f d g j k l w R:=mp (dV (X:=X) [fI] (bV [0,2,1]) P0)
def dQ (a:Addr) (w:aA) (R:aT) (h:cV w (a.add 6) λb c d e=>cB [] w λf g=>
 loc [f] g λi=>fO a f b c d e i R):aH aB jE #[.pointer (some a)] w R:=aZ X [fI] h
end regex_frame_endItem
namespace regex_frame_endSeq
abbrev X:Fx:=⟨aB,Tryz.f159,[(1,(.sq [0,1,2,3,4,5,6,7,9] (.fork (.sq [8,10,11,12,14,15] (.fork (ls [13,16]) (ls [16,13]))) (.sq [10,8,11,12,14,15] (.fork (ls [13,16]) (ls [16,13]))))))],[]⟩
abbrev P0:Ps:=[(0,.v [.r])]
abbrev S0 (a:Addr) (w:aA) (R:aT):Prop:=
 cY w (a.add 4) (.slice none 0 0) λb=>
 R (aJ (.tuple #[])) b
def fH:=bX X [] (bV [2]) P0 S0
def ok (d:Addr) (w:aA) (R:aT) (h:vO jE #[.pointer (some d)] w λw1=>wy w1 λx=>∃c:Sl,x.cell? (d.add 3)=some (c.v)/\
 ∃o:Sl,x.cell? (d.add 4)=some (o.v)/\
 ((PZ jX #[.i 3,o.v] x λp q r s z=>z.cell? (d.add 3)=some (c.v)/\gi z (.cells #[.i 0,.int .u8 0,.int .u8 0,.slice none 0 0] aL) λw4=>
 w4.cell? (d.add 3)=some (c.v)/\∃(m:Sl) (w5:aA),Sem.run aB (Builtin.append_ #[aU,aU] aU #[c.v,.slice (some (nb z)) 1 1]) w4=.ok (m.v) w5/\bY m ((c.n:Nat):Int) λf=>((sR w5 (f.add (aF ((c.n:Nat):Int) *4)) (.i p) (.int .u8 q) (.int .u8 r) (s.v) λw9=>cY w9 (d.add 3) (m.v) λab=>
 S0 d ab R)/\(cY w5 (d.add 3) (m.v) λac=>
 cY ac (f.add (aF ((c.n:Nat):Int) *4)) (.i p) λad=>
 cY ad ((f.add (aF ((c.n:Nat):Int) *4)).add 1) (.int .u8 q) λae=>
 cY ae ((f.add (aF ((c.n:Nat):Int) *4)).add 2) (.int .u8 r) λaf=>
 cY af ((f.add (aF ((c.n:Nat):Int) *4)).add 3) (s.v) λag=>
 S0 d ag R)))/\(gi x (.cells #[.i 0,.int .u8 0,.int .u8 0,.slice none 0 0] aL) λt=>
 t.cell? (d.add 4)=some (o.v)/\t.cell? (d.add 3)=some (c.v)/\PZ jX #[.i 3,o.v] t λg j k l y=>y.cell? (d.add 3)=some (c.v)/\∃(e:Sl) (u:aA),Sem.run aB (Builtin.append_ #[aU,aU] aU #[c.v,.slice (some (nb x)) 1 1]) y=.ok (e.v) u/\bY e ((c.n:Nat):Int) λb=>((sR u (b.add (aF ((c.n:Nat):Int) *4)) (.i g) (.int .u8 j) (.int .u8 k) (l.v) λah=>cY ah (d.add 3) (e.v) λai=>
 S0 d ai R)/\(cY u (d.add 3) (e.v) λaj=>
 cY aj (b.add (aF ((c.n:Nat):Int) *4)) (.i g) λak=>
 cY ak ((b.add (aF ((c.n:Nat):Int) *4)).add 1) (.int .u8 j) λal=>
 cY al ((b.add (aF ((c.n:Nat):Int) *4)).add 2) (.int .u8 k) λam=>
 cY am ((b.add (aF ((c.n:Nat):Int) *4)).add 3) (l.v) λan=>
 S0 d an R))))):aH aB jW #[.pointer (some d)] w R:=aZ X [fH] h
end regex_frame_endSeq
namespace regex_frame_endConj
abbrev X:Fx:=⟨aB,Tryz.f160,[(1,(.sq [0,1,2,3,4,5,6,7,9] (.fork (.sq [8,10,11,12,14,15] (.fork (ls [13,16]) (ls [16,13]))) (.sq [10,8,11,12,14,15] (.fork (ls [13,16]) (ls [16,13]))))))],[]⟩
abbrev P0:Ps:=[(0,.v [.r])]
abbrev S0 (a:Addr) (w:aA) (R:aT):Prop:=
 cY w (a.add 3) (.slice none 0 0) λb=>
 R (aJ (.tuple #[])) b
def fH:=bX X [] (bV [2]) P0 S0
def ok (d:Addr) (w:aA) (R:aT) (h:vO jW #[.pointer (some d)] w λw1=>wy w1 λx=>∃c:Sl,x.cell? (d.add 2)=some (c.v)/\
 ∃o:Sl,x.cell? (d.add 3)=some (o.v)/\
 ((PZ jX #[.i 5,o.v] x λp q r s z=>z.cell? (d.add 2)=some (c.v)/\gi z (.cells #[.i 0,.int .u8 0,.int .u8 0,.slice none 0 0] aL) λw4=>
 w4.cell? (d.add 2)=some (c.v)/\∃(m:Sl) (w5:aA),Sem.run aB (Builtin.append_ #[aU,aU] aU #[c.v,.slice (some (nb z)) 1 1]) w4=.ok (m.v) w5/\bY m ((c.n:Nat):Int) λf=>((sR w5 (f.add (aF ((c.n:Nat):Int) *4)) (.i p) (.int .u8 q) (.int .u8 r) (s.v) λw9=>cY w9 (d.add 2) (m.v) λab=>
 S0 d ab R)/\(cY w5 (d.add 2) (m.v) λac=>
 cY ac (f.add (aF ((c.n:Nat):Int) *4)) (.i p) λad=>
 cY ad ((f.add (aF ((c.n:Nat):Int) *4)).add 1) (.int .u8 q) λae=>
 cY ae ((f.add (aF ((c.n:Nat):Int) *4)).add 2) (.int .u8 r) λaf=>
 cY af ((f.add (aF ((c.n:Nat):Int) *4)).add 3) (s.v) λag=>
 S0 d ag R)))/\(gi x (.cells #[.i 0,.int .u8 0,.int .u8 0,.slice none 0 0] aL) λt=>
 t.cell? (d.add 3)=some (o.v)/\t.cell? (d.add 2)=some (c.v)/\PZ jX #[.i 5,o.v] t λg j k l y=>y.cell? (d.add 2)=some (c.v)/\∃(e:Sl) (u:aA),Sem.run aB (Builtin.append_ #[aU,aU] aU #[c.v,.slice (some (nb x)) 1 1]) y=.ok (e.v) u/\bY e ((c.n:Nat):Int) λb=>((sR u (b.add (aF ((c.n:Nat):Int) *4)) (.i g) (.int .u8 j) (.int .u8 k) (l.v) λah=>cY ah (d.add 2) (e.v) λai=>
 S0 d ai R)/\(cY u (d.add 2) (e.v) λaj=>
 cY aj (b.add (aF ((c.n:Nat):Int) *4)) (.i g) λak=>
 cY ak ((b.add (aF ((c.n:Nat):Int) *4)).add 1) (.int .u8 j) λal=>
 cY al ((b.add (aF ((c.n:Nat):Int) *4)).add 2) (.int .u8 k) λam=>
 cY am ((b.add (aF ((c.n:Nat):Int) *4)).add 3) (l.v) λan=>
 S0 d an R))))):aH aB jD #[.pointer (some d)] w R:=aZ X [fH] h
end regex_frame_endConj
namespace regex_frame_endExpr
abbrev X:Fx:=⟨aB,Tryz.f144,[],[2,3]⟩
def dQ (b:Addr) (w:aA) (R:aT) (h:cB [] w λa o=>
 Qc [a] jD #[.pointer (some b)] o λl=>∃j:Sl,l.cell? (b.add 2)=some (j.v)/\
 xK [a] jX #[.i 4,j.v] l λc d e f p=>cB [a] p λg q=>
 loc [a,g] q λm=>cY m (b.add 2) (.slice none 0 0) λn=>kept [a,g] m n/\
 loc [a,g] n λk=>R (aJ (.agg #[.i c,.int .u8 d,.int .u8 e,f.v])) k):aH aB gl #[.pointer (some b)] w R:=aZ X [] h
end regex_frame_endExpr
namespace regex_reader_top
abbrev X:Fx:=⟨aB,Tryz.f143,[(1,ls [0,1,2,3,4,5,6,7,8,9,10,11])],[]⟩
def ok (d:Addr) (w:aA) (R:aT) (h:wy w λf=>∃e:Sl,f.cell? (d.add 0)=some (e.v)/\
 ∃b:Sl,f.cell? (d.add 0)=some (b.v)/\
 (0:Int)<=(aC .i64 (((b.n:Nat):Int) - 1))/\(aC .i64 (((b.n:Nat):Int) - 1))<((e.n:Nat):Int)/\gT e.a λc=>R (aJ (.pointer (some (c.add (aF (aC .i64 (((b.n:Nat):Int) - 1)) *10))))) f):aH aB fR #[.pointer (some d)] w R:=aZ X [] h
end regex_reader_top
namespace regex_reader_push
abbrev X:Fx:=⟨aB,Tryz.f156,[],[]⟩
def ok (c:Addr) (b a:Int) (w:aA) (R:aT) (h:∃d:Sl,w.cell? (c.add 0)=some (d.v)/\
 gi w (.cells #[.i b,.slice none 0 0,.slice none 0 0,.slice none 0 0,.slice none 0 0,.i 0,.i 0,.int .u8 0,.int .u8 0,.slice none 0 0] c9) λg=>
 ∃(e:Sl) (f:aA),Sem.run aB (Builtin.append_ #[mz,mz] mz #[d.v,.slice (some (nb w)) 1 1]) g=.ok (e.v) f/\cY f (c.add 0) (e.v) λj=>
 cY j (c.add 1) (.i a) λk=>
 R (aJ (.bool true)) k):aH aB kq #[.pointer (some c),.i b,.i a] w R:=aZ X [] h
end regex_reader_push
namespace regex_reader_atom
abbrev X:Fx:=⟨aB,Tryz.f183,[(1,ls [0,2,1,3,4,5])],[3]⟩
def dQ (g:Addr) (c d e:Int) (f:Sl) (w:aA) (R:aT) (h:cB [] w λb q=>
 loc [b] q λr=>ZZ [b] fR #[.pointer (some g)] r λp n=>gT p λa=>cY n (a.add 6) (.i c) λj=>kept [b] n j/\
 cY j ((a.add 6).add 1) (.int .u8 d) λk=>kept [b] j k/\
 cY k ((a.add 6).add 2) (.int .u8 e) λl=>kept [b] k l/\
 cY l ((a.add 6).add 3) (f.v) λm=>kept [b] l m/\
 cY m (g.add 1) (.i 3) λo=>kept [b] m o/\
 R (aJ (.bool true)) o):aH aB fG #[.pointer (some g),.agg #[.i c,.int .u8 d,.int .u8 e,f.v]] w R:=aZ X [] h
end regex_reader_atom
namespace regex_reader_close
abbrev X:Fx:=⟨aB,Tryz.f157,[(2,ls [0,1,2,3,4,5,6,7,8,9,10,11,12,13,14])],[]⟩
def ok (e:Addr) (b:Sl) (w:aA) (R:aT) (h:ca9 fR #[.pointer (some e)] w λx u=>gT x λp=>∃g:Int,u.cell? (p.add 0)=some (.i g)/\
 wy u λq=>∃d:Sl,q.cell? (e.add 0)=some (d.v)/\
 ∃f:Sl,q.cell? (e.add 0)=some (f.v)/\
 (0:Int)<=(aC .i64 (((f.n:Nat):Int) - 1))/\(aC .i64 (((f.n:Nat):Int) - 1))<=((d.c:Nat):Int)/\cY q (e.add 0) (.slice (if d.c=0 then d.a else d.a.map (·.add (0 *10))) ((aF (aC .i64 (((f.n:Nat):Int) - 1))) - 0) (d.c - 0)) λr=>
 aW (aR (g<0)) (bY b 0 λj=>cV r (j.add (aF 0 *4)) λk l m o=>Dj fG #[.pointer (some e),.agg #[.i k,.int .u8 l,.int .u8 m,o.v]] r λs y=>R (aJ (.bool s)) y) (Dj fG #[.pointer (some e),.agg #[.i g,.int .u8 0,.int .u8 0,b.v]] r λt z=>R (aJ (.bool t)) z)):aH aB iK #[.pointer (some e),b.v] w R:=aZ X [] h
end regex_reader_close
namespace regex_reader_item
abbrev X:Fx:=⟨aB,Tryz.f158,[],[3]⟩
abbrev P0:Ps:=[]
abbrev eX (w:aA) (R:aT):Prop:=
 R (aJ (.bool true)) w
def fH:=bX X [] (bV [2,1,7,1,1,1,1]) P0 eX
def dQ (c:Addr) (d g j:Int) (a:ByteArray) (r:Int) (w:aA) (R:aT) (h:cB [] w λb f=>
 aW (d==33) (ZZ [b] fR #[.pointer (some c)] f λm s=>gT m λk=>∃n:Int,s.cell? (k.add 5)=some (.i n)/\
 gT m λl=>cY s (l.add 5) (.i (aC .i64 (n+1))) λt=>kept [b] s t/\
 cY t (c.add 1) (.i 0) λz=>kept [b] t z/\
 R (aJ (.bool true)) z) (aW (d==40) (lO [b] kq #[.pointer (some c),.i (-1),.i 0] f λu w5=>R (aJ (.bool u)) w5) (aW (d==114) (lO [b] fG #[.pointer (some c),.agg #[.i 2,.int .u8 g,.int .u8 j,.slice none 0 0]] f λv w6=>R (aJ (.bool v)) w6) (aW (d==119) (cY f (c.add 1) (.i 2) λe=>kept [b] f e/\
 aW (a.toList==(aE #[110,111,110,101]).toList) (lO [b] fG #[.pointer (some c),.agg #[.i 0,.int .u8 0,.int .u8 0,.slice none 0 0]] e λx w8=>R (aJ (.bool x)) w8) (aW (a.toList==(aE #[101,109,112,116,121]).toList) (lO [b] fG #[.pointer (some c),.agg #[.i 1,.int .u8 0,.int .u8 0,.slice none 0 0]] e λy w9=>R (aJ (.bool y)) w9) (aW (a.toList==(aE #[97,108,116]).toList) (cY e (c.add 2) (.i 4) λo=>kept [b] e o/\
 eX o R) (aW (a.toList==(aE #[97,108,108]).toList) (cY e (c.add 2) (.i 5) λp=>kept [b] e p/\
 eX p R) (aW (a.toList==(aE #[99,97,116]).toList) (cY e (c.add 2) (.i 3) λq=>kept [b] e q/\
 eX q R) (R (aJ (.bool false)) e)))))) (R (aJ (.bool false)) f))))):aH aB hO #[.pointer (some c),.agg #[.int .u8 d,.int .u8 g,.int .u8 j,.string a,.i r]] w R:=aZ X [fH] h
end regex_reader_item
namespace regex_reader_feed
abbrev X:Fx:=⟨aB,Tryz.f142,[(25,(.sq [0,1,2,3,4,6] (.fork (.sq [5,7,8,9,11,12] (.fork (ls [10,13]) (ls [13,10]))) (.sq [7,5,8,9,11,12] (.fork (ls [10,13]) (ls [13,10])))))),(28,ls [0,1,2,3,4,5,6,7,8,9,10,11,12,13,14,15,16,17,18])],[3]⟩
abbrev P0:Ps:=[]
abbrev eX (w:aA) (R:aT):Prop:=
 R (aJ (.bool true)) w
def fH:=bX X [] (bV [4]) P0 eX
abbrev P1:Ps:=[(0,.v [.r])]
abbrev gW (a:Addr) (w:aA) (R:aT):Prop:=
 cY w (a.add 1) (.i 0) λb=>
 eX b R
def gN:=bX X [fH] (bV [2,1,7,1,1,1,3]) P1 gW
def dQ (j:Addr) (e aa ab:Int) (ac:ByteArray) (ad:Int) (w:aA) (R:aT) (h:cB [] w λb w1=>
 ZZ [b] fR #[.pointer (some j)] w1 λm g=>∃af:Int,g.cell? (j.add 1)=some (.i af)/\
 aW (af==2) (aW (e==40) (∃cb:Int,g.cell? (j.add 2)=some (.i cb)/\
 lO [b] kq #[.pointer (some j),.i cb,.i 1] g λcr w3=>R (aJ (.bool cr)) w3) (R (aJ (.bool false)) g)) (aW (af==1) (aW (e==41) (lO [b] iK #[.pointer (some j),.slice none 0 0] g λcs w4=>R (aJ (.bool cs)) w4) (lO [b] hO #[.pointer (some j),.agg #[.int .u8 e,.int .u8 aa,.int .u8 ab,.string ac,.i ad]] g λct w5=>R (aJ (.bool ct)) w5)) (aW (af==0) (lO [b] hO #[.pointer (some j),.agg #[.int .u8 e,.int .u8 aa,.int .u8 ab,.string ac,.i ad]] g λcu w6=>R (aJ (.bool cu)) w6) (aW (e==42) (gT m λbu=>cV g (bu.add 6) λbv bw bx bz=>gi g (.cells #[.i bv,.int .u8 bw,.int .u8 bx,bz.v] aL) λw7=>
 gT m λo=>cY w7 (o.add 6) (.i 7) λw8=>kept [b] w7 w8/\
 cY w8 ((o.add 6).add 1) (.int .u8 0) λw9=>kept [b] w8 w9/\
 cY w9 ((o.add 6).add 2) (.int .u8 0) λav=>kept [b] w9 av/\
 cY av ((o.add 6).add 3) (.slice (some (nb g)) 1 1) λce=>kept [b] av ce/\
 eX ce R) (aW (e==38) (Qc [b] jW #[.pointer m] g λcf=>cY cf (j.add 1) (.i 0) λcg=>kept [b] cf cg/\
 eX cg R) (aW (e==124) (Qc [b] jD #[.pointer m] g λch=>cY ch (j.add 1) (.i 0) λci=>kept [b] ch ci/\
 eX ci R) (aW (e==44) (gT m λca=>∃cc:Int,g.cell? (ca.add 0)=some (.i cc)/\
 aW (aR (cc<0)) (R (aJ (.bool false)) g) (gT m λl=>loc [b] g λal=>∃c:Sl,al.cell? (l.add 1)=some (c.v)/\
 ((xK [b] gl #[.pointer m] al λag ah ai aj aw=>aw.cell? (l.add 1)=some (c.v)/\gi aw (.cells #[.i 0,.int .u8 0,.int .u8 0,.slice none 0 0] aL) λax=>
 ax.cell? (l.add 1)=some (c.v)/\∃(ae:Sl) (x:aA),Sem.run aB (Builtin.append_ #[aU,aU] aU #[c.v,.slice (some (nb aw)) 1 1]) ax=.ok (ae.v) x/\kept [b] ax x/\bY ae ((c.n:Nat):Int) λf=>gT m λak=>((cY x (f.add (aF ((c.n:Nat):Int) *4)) (.i ag) λay=>kept [b] x ay/\
 cY ay ((f.add (aF ((c.n:Nat):Int) *4)).add 1) (.int .u8 ah) λaz=>kept [b] ay az/\
 cY az ((f.add (aF ((c.n:Nat):Int) *4)).add 2) (.int .u8 ai) λbb=>kept [b] az bb/\
 cY bb ((f.add (aF ((c.n:Nat):Int) *4)).add 3) (aj.v) λbc=>kept [b] bb bc/\
 cY bc (ak.add 1) (ae.v) λcj=>kept [b] bc cj/\
 gW j cj R)/\(cY x (ak.add 1) (ae.v) λbd=>kept [b] x bd/\
 cY bd (f.add (aF ((c.n:Nat):Int) *4)) (.i ag) λbe=>kept [b] bd be/\
 cY be ((f.add (aF ((c.n:Nat):Int) *4)).add 1) (.int .u8 ah) λbf=>kept [b] be bf/\
 cY bf ((f.add (aF ((c.n:Nat):Int) *4)).add 2) (.int .u8 ai) λbg=>kept [b] bf bg/\
 cY bg ((f.add (aF ((c.n:Nat):Int) *4)).add 3) (aj.v) λck=>kept [b] bg ck/\
 gW j ck R)))/\(gi al (.cells #[.i 0,.int .u8 0,.int .u8 0,.slice none 0 0] aL) λcl=>
 cl.cell? (l.add 1)=some (c.v)/\xK [b] gl #[.pointer m] cl λq r s t bh=>bh.cell? (l.add 1)=some (c.v)/\∃(k:Sl) (y:aA),Sem.run aB (Builtin.append_ #[aU,aU] aU #[c.v,.slice (some (nb al)) 1 1]) bh=.ok (k.v) y/\kept [b] bh y/\bY k ((c.n:Nat):Int) λd=>gT m λu=>((cY y (d.add (aF ((c.n:Nat):Int) *4)) (.i q) λbi=>kept [b] y bi/\
 cY bi ((d.add (aF ((c.n:Nat):Int) *4)).add 1) (.int .u8 r) λbj=>kept [b] bi bj/\
 cY bj ((d.add (aF ((c.n:Nat):Int) *4)).add 2) (.int .u8 s) λbk=>kept [b] bj bk/\
 cY bk ((d.add (aF ((c.n:Nat):Int) *4)).add 3) (t.v) λbm=>kept [b] bk bm/\
 cY bm (u.add 1) (k.v) λcm=>kept [b] bm cm/\
 gW j cm R)/\(cY y (u.add 1) (k.v) λbn=>kept [b] y bn/\
 cY bn (d.add (aF ((c.n:Nat):Int) *4)) (.i q) λbo=>kept [b] bn bo/\
 cY bo ((d.add (aF ((c.n:Nat):Int) *4)).add 1) (.int .u8 r) λbp=>kept [b] bo bp/\
 cY bp ((d.add (aF ((c.n:Nat):Int) *4)).add 2) (.int .u8 s) λbq=>kept [b] bp bq/\
 cY bq ((d.add (aF ((c.n:Nat):Int) *4)).add 3) (t.v) λcn=>kept [b] bq cn/\
 gW j cn R)))))) (aW (e==41) (loc [b] g λam=>∃cd:Sl,am.cell? (j.add 0)=some (cd.v)/\
 aW (aR (((cd.n:Nat):Int)>1)) (gT m λp=>∃z:Sl,am.cell? (p.add 1)=some (z.v)/\
 xK [b] gl #[.pointer m] am λan ao ap aq br=>br.cell? (p.add 1)=some (z.v)/\gi br (.cells #[.i an,.int .u8 ao,.int .u8 ap,aq.v] aL) λbs=>
 bs.cell? (p.add 1)=some (z.v)/\∃(ar:Sl) (bt:aA),Sem.run aB (Builtin.append_ #[aU,aU] aU #[z.v,.slice (some (nb br)) 1 1]) bs=.ok (ar.v) bt/\kept [b] bs bt/\lO [b] iK #[.pointer (some j),ar.v] bt λco cw=>R (aJ (.bool co)) cw) (R (aJ (.bool false)) am)) (aW (e==36) (∃au:Sl,g.cell? (j.add 0)=some (au.v)/\
 R (aJ (.bool (((au.n:Nat):Int)==1))) g) (Qc [b] jE #[.pointer m] g λcx=>lO [b] hO #[.pointer (some j),.agg #[.int .u8 e,.int .u8 aa,.int .u8 ab,.string ac,.i ad]] cx λcv cy=>R (aJ (.bool cv)) cy)))))))))):aH aB nV #[.pointer (some j),.agg #[.int .u8 e,.int .u8 aa,.int .u8 ab,.string ac,.i ad]] w R:=aZ X [gN,fH] h
end regex_reader_feed
namespace regex_Parse
def C0:Code:=(Tryz.f133.body).getD .skip
def C1:=C0.sn
def C2:=C1.sn
def C3:=C2.sn
def C4:=C3.fs
def C5:=C4.sn
def C6:=C5.fs
def C7:=W.Code.asn C6
def C8:=W.Code.bdy C6
def C9:=C8.fs
def Nb:=C9.sn
def JQ:=Nb.fs
abbrev Q0 (a:Nat) (b:Loop) (R:aT):Exit->Act->aA->Prop:=(roundPost aB a R)
abbrev Q1 (b:Nat) (a:Loop) (R:aT):Exit->Act->aA->Prop:=(Exit.inBlock 1 (Q0 b a R))
def SJ:=JQ.fs
def SK:=JQ.sn
abbrev S3 (f:Nat) (b:LoopState->Option Code->Obj) (g j k c:Addr) (w:aA) (R:aT):Prop:=
 wy w λd=>∃a:Int,d.cell? (c.add 4)=some (.i a)/\
 sR d g (.i 0) (.int .u8 0) (.int .u8 0) (.slice none 0 0) λe=>e.cell? (c.add 4)=some (.i a)/\cY e j (.i a) λl=>
 cY l k (.i 2) λm=>
 O0 m f (b .busy none) (b .done (some .ret)) λn=>R (aJ (.bool false)) n
def VZ (a:Nat) (b:LoopState->Option Code->Obj) (E:Env) (w:aA) (R:aT):Prop:=W.gY (Env.get? E 2) λc=>W.gY (Env.get? E 3) λd=>W.gY (Env.get? E 4) λe=>W.gY (Env.get? E 6) λf=>S3 a b c d e f w R
def Pc (d:Nat) (b:Loop) (R:aT) (E:Env) (w:aA) (h:VZ d (lo b) E w R):WP aB ⟨32,[],some d⟩ JQ (Q1 d b R) E w:=by
 obtain ⟨t2,JI,BV⟩:=W.cJ h
 obtain ⟨t3,FG,BW⟩:=W.cJ BV
 obtain ⟨t4,FH,FA⟩:=W.cJ BW
 obtain ⟨t6,hq6,HN⟩:=W.cJ FA
 exact λa e=>WP.at (n:=⟨32,[],some d⟩) (E:=[(2,.pointer (some t2)),(3,.pointer (some t3)),(4,.pointer (some t4)),(6,.pointer (some t6))]) (WP.seq (c:=JQ) (x:=SJ) (y:=SK) (by kernel_rfl)<|WP.draw (c:=SJ) [0,1,2,3,4,5] (λE w=>O0 w d ((lo b) .busy none) ((lo b) .done (some .ret)) λi=>R (aJ (.bool false)) i) (by kernel_rfl) (mp HN) λ_ _ a f g=>(WP.ret (c:=SK) (Q:=(Q1 d b R)) (by kernel_rfl) λa f=>(show roundPost aB d R .ret a _ from On (a:=a) (g).1 (g).2)) a f) (e.cons JI (e.cons FG (e.cons FH (e.cons hq6 e.nil))))
def SM:=C9.fs
def VU:=Nb.sn
abbrev S2 (g:Nat) (f:LoopState->Option Code->Obj) (n o p m k:Addr) (w:aA) (R:aT):Prop:=
 WI w k λa b c d e=>Dj nV #[.pointer (some m),.agg #[.int .u8 a,.int .u8 b,.int .u8 c,.string d,.i e]] w λj l=>aW (!j) (S3 g f n o p k l R) (O0 l g (f .busy none) (f .ready none) λq=>R (aJ (.bool true)) q)
def VY (a:Nat) (b:LoopState->Option Code->Obj) (E:Env) (w:aA) (R:aT):Prop:=W.gY (Env.get? E 2) λd=>W.gY (Env.get? E 3) λe=>W.gY (Env.get? E 4) λf=>W.gY (Env.get? E 5) λc=>W.gY (Env.get? E 6) λg=>S2 a b d e f c g w R
def Pb (d:Nat) (b:Loop) (R:aT) (E:Env) (w:aA) (h:VY d (lo b) E w R):WP aB ⟨32,[],some d⟩ C9 (Q1 d b R) E w:=by
 obtain ⟨t2,JI,BV⟩:=W.cJ h
 obtain ⟨t3,FG,BW⟩:=W.cJ BV
 obtain ⟨t4,FH,FA⟩:=W.cJ BW
 obtain ⟨r5,Un,HN⟩:=W.cJ FA
 obtain ⟨t6,hq6,QK⟩:=W.cJ HN
 exact λa f=>WP.at (n:=⟨32,[],some d⟩) (E:=[(2,.pointer (some t2)),(3,.pointer (some t3)),(4,.pointer (some t4)),(5,.pointer (some r5)),(6,.pointer (some t6))]) (WP.seq (c:=C9) (x:=SM) (y:=Nb) (by kernel_rfl)<|WP.WZ (c:=SM) (λE w=>nN (Env.val E (.tmp 20)) (VZ d (lo b) E w R) (O0 w d ((lo b) .busy none) ((lo b) .ready none) λi=>R (aJ (.bool true)) i)) (by kernel_rfl) (mp QK) λ_ _ a g e=>(WP.nN (c:=Nb) (x:=JQ) (y:=VU) (o:=.tmp 20) (by kernel_rfl) (λe=>(Pc d b R _ _ e)) (λe=>(WP.skip (c:=VU) (by kernel_rfl) λa g=>Om (a:=a) (e).1 (e).2)) e) a g) (f.cons JI (f.cons FG (f.cons FH (f.cons Un (f.cons hq6 f.nil)))))
abbrev Q2 (b:Nat) (a:Loop) (R:aT):Exit->Act->aA->Prop:=(EZ aB 32 b a C8 (roundPost aB b R))
abbrev S1 (g:Nat) (f:LoopState->Option Code->Obj) (k l m j:Addr) (a b c:Int) (d:ByteArray) (e:Int) (w:aA) (R:aT):Prop:=
 gi w (.cells #[.int .u8 0,.int .u8 0,.int .u8 0,.s0,.i 0] gC) λn=>
 abq n (nb w) (.int .u8 a) (.int .u8 b) (.int .u8 c) (.string d) (.i e) λo=>O0 o g (f .ready none) (f .busy none) λp=>S2 g f k l m j (nb w) p R
def aad (r:Nat) (s:LoopState->Option Code->Obj) (E:Env) (w:aA) (R:aT):Prop:=W.gY (Env.get? E 2) λu=>W.gY (Env.get? E 3) λv=>W.gY (Env.get? E 4) λx=>W.gY (Env.get? E 5) λt=>W.asAgg (Env.get? E 17) λa=>W.uV a λg b=>W.asInt .u8 (some g) λm=>W.uV b λi c=>W.asInt .u8 (some i) λn=>W.uV c λj d=>W.asInt .u8 (some j) λo=>W.uV d λk e=>W.Bi (some k) λp=>W.uV e λl f=>W.asInt .i64 (some l) λq=>W.DU f<|S1 r s u v x t m n o p q w R
def Pa (d:Nat) (b:Loop) (R:aT) (E:Env) (w:aA) (h:aad d (lo b) E w R):WP aB ⟨32,[],some d⟩ C7 (Q2 d b R) E w:=by
 obtain ⟨t2,JI,BV⟩:=W.cJ h
 obtain ⟨t3,FG,BW⟩:=W.cJ BV
 obtain ⟨t4,FH,FA⟩:=W.cJ BW
 obtain ⟨r5,Un,HN⟩:=W.cJ FA
 obtain ⟨ac5,acM,QK⟩:=W.J1 HN
 obtain ⟨ada,ac6,rfl,h_6⟩:=W.oQ QK
 obtain ⟨MT,ex,h_7⟩:=W.mK h_6
 obtain rfl:=Option.some.inj ex
 obtain ⟨adb,ac7,rfl,h_8⟩:=W.oQ h_7
 obtain ⟨MU,ex,h_9⟩:=W.mK h_8
 obtain rfl:=Option.some.inj ex
 obtain ⟨ade,ac8,rfl,Yu⟩:=W.oQ h_9
 obtain ⟨MV,ex,acj⟩:=W.mK Yu
 obtain rfl:=Option.some.inj ex
 obtain ⟨adf,ac9,rfl,ack⟩:=W.oQ acj
 obtain ⟨MW,ex,acm⟩:=W.rz ack
 obtain rfl:=Option.some.inj ex
 obtain ⟨adg,ac',rfl,acn⟩:=W.oQ acm
 obtain ⟨abw,ex,aco⟩:=W.mK acn
 obtain rfl:=Option.some.inj ex
 obtain ⟨rfl,acp⟩:=W.wW aco
 exact λa e=>WP.at (n:=⟨32,[],some d⟩) (E:=[(2,.pointer (some t2)),(3,.pointer (some t3)),(4,.pointer (some t4)),(5,.pointer (some r5)),(17,.agg #[.int .u8 MT,.int .u8 MU,.int .u8 MV,.string MW,.i abw])]) (WP.WZ (c:=C7) (λE w=>w.heap[d]? =some (lo b .ready none)/\((λw=>VY d (lo b) E w R) (w.putObj d (lo b .busy none)))) (by kernel_rfl) (mp acp) λ_ _ a g f=>⟨(f).1,(WP.block (c:=C8) (x:=C9) (id:=1) (by kernel_rfl) (Pb d b R _ _ (f).2)) a g⟩) (e.cons JI (e.cons FG (e.cons FH (e.cons Un (e.cons acM e.nil)))))
abbrev XK (g:Nat) (i:LoopState->Option Code->Obj) (n:ByteArray) (k l m j f:Addr) (a b c:Int) (d:ByteArray) (e:Int) (w:aA) (R:aT):Prop:=
 S1 g i k l m j a b c d e w R
def ab2 (j:Nat) (b:Loop) (l:ByteArray) (m n o k a:Addr) (c d e:Int) (f:ByteArray) (g:Int) (w:aA) (R:aT) (h:XK j (lo b) l m n o k a c d e f g w R):WP aB ⟨32,[],some j⟩ C7 (EZ aB 32 j b C8 (roundPost aB j R)) (IQ [(0,.string l),(2,.pointer (some m)),(3,.pointer (some n)),(4,.pointer (some o)),(5,.pointer (some k)),(16,.func (.func gK) #[] #[.pointer (some a)])] [17] [.agg #[.int .u8 c,.int .u8 d,.int .u8 e,.string f,.i g]]) w:=
 (Pa j b R _ _ (mp h))
def OP:=C3.sn
def SN:=OP.sn
def Th:=SN.fs
def VV:=Th.sn
def O5:=VV.fs
def VW:=SN.sn
abbrev Q3 (R:aT):OQ:=(Exit.then (Dg aB (cx 32) VW (bodyPostM Fence.wide 0 aB Tryz.f133 R)) (bodyPostM Fence.wide 0 aB Tryz.f133 R))
def C22:=O5.fs
def C23:=O5.sn
abbrev S6 (m:Nat) (n:ByteArray) (j k l:Addr) (w:aA) (R:aT):Prop:=
 sR w j (.i 0) (.int .u8 0) (.int .u8 0) (.slice none 0 0) λo=>cY o k (.i ((n.size:Nat):Int)) λp=>
 cY p l (.i 4) λq=>
 O0 q m (.deferred (some [])) (.deferred none) λa=>cV a j λb c d e=>∃f:Int,a.cell? k=some (.i f)/\
 ∃g:Int,a.cell? l=some (.i g)/\
 R (aJ (.tuple #[.agg #[.i b,.int .u8 c,.int .u8 d,e.v],.i f,.i g])) a
def V1 (a:Nat) (E:Env) (w:aA) (R:aT):Prop:=W.Bi (Env.get? E 0) λb=>W.gY (Env.get? E 2) λc=>W.gY (Env.get? E 3) λd=>W.gY (Env.get? E 4) λe=>S6 a b c d e w R
def Pf (d:Nat) (R:aT) (E:Env) (w:aA) (h:V1 d E w R):WP aB (marked 32 d) O5 (Q3 R) E w:=by
 obtain ⟨s0,Mc,BV⟩:=W.rz h
 obtain ⟨t2,JI,BW⟩:=W.cJ BV
 obtain ⟨t3,FG,FA⟩:=W.cJ BW
 obtain ⟨t4,FH,HN⟩:=W.cJ FA
 exact λa b=>WP.at (n:=(marked 32 d)) (E:=[(0,.string s0),(2,.pointer (some t2)),(3,.pointer (some t3)),(4,.pointer (some t4))]) (WP.seq (c:=O5) (x:=C22) (y:=C23) (by kernel_rfl)<|WP.WZ (c:=C22) (λE w=>K5 aB Tryz.f133 E w d R) (by kernel_rfl) (mp HN) λ_ _ a e f=>(WP.ret (c:=C23) (by kernel_rfl) λa e=>ub e f) a e) (b.cons Mc (b.cons JI (b.cons FG (b.cons FH b.nil))))
abbrev Q4 (R:aT):OQ:=(bodyPostM Fence.wide 0 aB Tryz.f133 R)
def C24:=VW.fs
def C25:=VW.sn
abbrev S7 (q:Nat) (n o p u:Addr) (w:aA) (R:aT):Prop:=
 cV w u λa b c d=>sR w n (.i a) (.int .u8 b) (.int .u8 c) (d.v) λr=>cY r o (.i 0) λs=>
 cY s p (.i 0) λt=>
 O0 t q (.deferred (some [])) (.deferred none) λe=>cV e n λf g j k=>∃l:Int,e.cell? o=some (.i l)/\
 ∃m:Int,e.cell? p=some (.i m)/\
 R (aJ (.tuple #[.agg #[.i f,.int .u8 g,.int .u8 j,k.v],.i l,.i m])) e
def V2 (a:Nat) (E:Env) (w:aA) (R:aT):Prop:=W.gY (Env.get? E 2) λb=>W.gY (Env.get? E 3) λc=>W.gY (Env.get? E 4) λd=>W.gY (Env.get? E 7) λe=>S7 a b c d e w R
def Pg (d:Nat) (R:aT) (E:Env) (w:aA) (h:V2 d E w R):WP aB (marked 32 d) VW (Q4 R) E w:=by
 obtain ⟨t2,JI,BV⟩:=W.cJ h
 obtain ⟨t3,FG,BW⟩:=W.cJ BV
 obtain ⟨t4,FH,FA⟩:=W.cJ BW
 obtain ⟨x7,hq7,HN⟩:=W.cJ FA
 exact λa b=>WP.at (n:=(marked 32 d)) (E:=[(2,.pointer (some t2)),(3,.pointer (some t3)),(4,.pointer (some t4)),(7,.pointer (some x7))]) (WP.seq (c:=VW) (x:=C24) (y:=C25) (by kernel_rfl)<|WP.WZ (c:=C24) (λE w=>K5 aB Tryz.f133 E w d R) (by kernel_rfl) (mp HN) λ_ _ a e f=>(WP.ret (c:=C25) (by kernel_rfl) λa e=>ub e f) a e) (b.cons JI (b.cons FG (b.cons FH (b.cons hq7 b.nil))))
def C26:=Th.fs
def C27:=VV.sn
abbrev S5 (e:Nat) (n:ByteArray) (f j k m:Addr) (w:aA) (R:aT):Prop:=
 cV w m λa b c d=>Dj kL #[.agg #[.i a,.int .u8 b,.int .u8 c,d.v]] w λg l=>aW g (S6 e n f j k l R) (S7 e f j k m l R)
def V0 (a:Nat) (E:Env) (w:aA) (R:aT):Prop:=W.Bi (Env.get? E 0) λb=>W.gY (Env.get? E 2) λc=>W.gY (Env.get? E 3) λd=>W.gY (Env.get? E 4) λe=>W.gY (Env.get? E 7) λf=>S5 a b c d e f w R
def Pe (b:Nat) (R:aT) (E:Env) (w:aA) (h:V0 b E w R):WP aB (marked 32 b) Th (Q3 R) E w:=by
 obtain ⟨s0,Mc,BV⟩:=W.rz h
 obtain ⟨t2,JI,BW⟩:=W.cJ BV
 obtain ⟨t3,FG,FA⟩:=W.cJ BW
 obtain ⟨t4,FH,HN⟩:=W.cJ FA
 obtain ⟨x7,hq7,QK⟩:=W.cJ HN
 exact λa d=>WP.at (n:=(marked 32 b)) (E:=[(0,.string s0),(2,.pointer (some t2)),(3,.pointer (some t3)),(4,.pointer (some t4)),(7,.pointer (some x7))]) (WP.seq (c:=Th) (x:=C26) (y:=VV) (by kernel_rfl)<|WP.WZ (c:=C26) (λE w=>nN (Env.val E (.tmp 27)) (V1 b E w R) (V2 b E w R)) (by kernel_rfl) (mp QK) λ_ _ a f e=>(WP.nN (c:=VV) (x:=O5) (y:=C27) (o:=.tmp 27) (by kernel_rfl) (λe=>(Pf b R _ _ e)) (λe=>(WP.skip (c:=C27) (by kernel_rfl) λa f=>(Pg b R _ _ e) a f)) e) a f) (d.cons Mc (d.cons JI (d.cons FG (d.cons FH (d.cons hq7 d.nil)))))
def C28:=OP.fs
abbrev S4 (g:Nat) (k:ByteArray) (l m n j:Addr) (w:aA) (R:aT):Prop:=
 ca9 fR #[.pointer (some j)] w λf o=>PZ gl #[.pointer f] o λa b c d e=>gi e (.cells #[.i 0,.int .u8 0,.int .u8 0,.slice none 0 0] aL) λp=>
 sR p (nb e) (.i a) (.int .u8 b) (.int .u8 c) (d.v) λq=>S5 g k l m n (nb e) q R
def aae (a:Nat) (E:Env) (w:aA) (R:aT):Prop:=W.Bi (Env.get? E 0) λc=>W.gY (Env.get? E 2) λd=>W.gY (Env.get? E 3) λe=>W.gY (Env.get? E 4) λf=>W.gY (Env.get? E 5) λb=>S4 a c d e f b w R
def Pd (d:Nat) (R:aT) (E:Env) (w:aA) (h:aae d E w R):WP aB (marked 32 d) OP (Q4 R) E w:=by
 obtain ⟨s0,Mc,BV⟩:=W.rz h
 obtain ⟨t2,JI,BW⟩:=W.cJ BV
 obtain ⟨t3,FG,FA⟩:=W.cJ BW
 obtain ⟨t4,FH,HN⟩:=W.cJ FA
 obtain ⟨r5,Un,QK⟩:=W.cJ HN
 exact λa b=>WP.at (n:=(marked 32 d)) (E:=[(0,.string s0),(2,.pointer (some t2)),(3,.pointer (some t3)),(4,.pointer (some t4)),(5,.pointer (some r5))]) (WP.seq (c:=OP) (x:=C28) (y:=SN) (by kernel_rfl)<|WP.WZ (c:=C28) (λE w=>V0 d E w R) (by kernel_rfl) (mp QK) λ_ _ a e f=>(WP.seq (c:=SN) (x:=Th) (y:=VW) (by kernel_rfl) (Pe d R _ _ f)) a e) (b.cons Mc (b.cons JI (b.cons FG (b.cons FH (b.cons Un b.nil)))))
abbrev S0 (s0:ByteArray) (q r s r5 a:Addr) (w:aA) (R:aT):Prop:=
 ∀g:LoopState->Option Code->Obj,(∀(b c d:Int) (e:ByteArray) (f:Int) (t:aA) (u:Bool->aA->Prop),t.heap[w.heap.size+1]? =some (g .ready none)->XK (w.heap.size+1) g s0 q r s r5 a b c d e f t (λp w1=>∃x:Bool,p=aJ (.bool x)/\u x w1)->zV aB (w.heap.size+1) #[.agg #[.int .u8 b,.int .u8 c,.int .u8 d,.string e,.i f]] t u)->
 aH aB gK #[.func (.yield (w.heap.size+1)) #[] #[],.pointer (some a)] ((w.alloc (.deferred (some []))).alloc (g .ready none)) λp w2=>(∃v_,p=aJ v_)/\xR w2 (w.heap.size+1) g (λj=>S4 w.heap.size s0 q r s r5 j R) (λae j=>False) (λj=>O0 j w.heap.size (.deferred (some [])) (.deferred none) λk=>cV k q λl m n o=>∃y:Int,k.cell? r=some (.i y)/\
 ∃z:Int,k.cell? s=some (.i z)/\
 R (aJ (.tuple #[.agg #[.i l,.int .u8 m,.int .u8 n,o.v],.i y,.i z])) k)
abbrev Q5 (R:aT):OQ:=(Exit.then (Dg aB (cx 32) OP (bodyPostM Fence.wide 0 aB Tryz.f133 R)) (bodyPostM Fence.wide 0 aB Tryz.f133 R))
abbrev Q6 (R:aT):OQ:=(Exit.inBlock 0 (Q5 R))
def zW (E:Env) (w:aA) (R:aT):Prop:=W.Bi (Env.get? E 0) λg=>W.gY (Env.get? E 2) λi=>W.gY (Env.get? E 3) λj=>W.gY (Env.get? E 4) λk=>W.gY (Env.get? E 5) λf=>W.E6 gK (Env.get? E 16) λc a=>W.DU c<|W.uV a λd b=>W.gY (some d) λe=>W.DU b<|S0 g i j k f e w R
def xO:KOk aB 32 zW C6 Q6:=by
 intro R E w h
 obtain ⟨s0,Mc,BV⟩:=W.rz h
 obtain ⟨t2,JI,BW⟩:=W.cJ BV
 obtain ⟨t3,FG,FA⟩:=W.cJ BW
 obtain ⟨t4,FH,HN⟩:=W.cJ FA
 obtain ⟨r5,Un,QK⟩:=W.cJ HN
 obtain ⟨abP,abN,acL,h_6⟩:=W.G0 QK
 obtain ⟨rfl,h_7⟩:=W.wW h_6
 obtain ⟨abQ,abO,rfl,h_8⟩:=W.oQ h_7
 obtain ⟨Lg,ex,h_9⟩:=W.cJ h_8
 obtain rfl:=Option.some.inj ex
 obtain ⟨rfl,Yu⟩:=W.wW h_9
 exact λa b=>WP.at (n:=(cx 32)) (E:=[(0,.string s0),(2,.pointer (some t2)),(3,.pointer (some t3)),(4,.pointer (some t4)),(5,.pointer (some r5)),(16,.func (.func gK) #[] #[.pointer (some Lg)])]) (WP.range (m:=32) (c:=C6) (g:=.tmp 16) (ps:=#[17]) (assign:=C7) (body:=C8) (gf:=gK) (lb:=#[.pointer (some Lg)]) (λl=>S4 w.heap.size s0 t2 t3 t4 r5 l R) (λae l=>False) (λl=>O0 l w.heap.size (.deferred (some [])) (.deferred none) λq=>cV q t2 λs t u x=>∃r3:Int,q.cell? t3=some (.i r3)/\
 ∃r4:Int,q.cell? t4=some (.i r4)/\
 R (aJ (.tuple #[.agg #[.i s,.int .u8 t,.int .u8 u,x.v],.i r3,.i r4])) q) (by kernel_rfl) rfl (by kernel_rfl)
  (λl o a r=>(Pd w.heap.size R _ _ (mp o)) a r)
  (λ_ _ o=>o.elim)
  (λl o a r=>ub r (mp o))
  (λp aa=>Yu (lo p) (λd e f j k w_ K_ z y=>SI (args:=[.agg #[.int .u8 d,.int .u8 e,.int .u8 f,.string j,.i k]]) aa z rfl (by kernel_rfl) (λ_ _ h=>h) (ab2 _ p s0 t2 t3 t4 r5 Lg d e f j k w_ _ y)))) (b.cons Mc (b.cons JI (b.cons FG (b.cons FH (b.cons Un (b.cons acL b.nil))))))
def C29:=C1.fs
def C30:=C29.sn
def C31:=C30.fs
def C32:=C31.sn
def C33:=C30.sn
def ok (j:ByteArray) (w:aA) (R:aT) (h:gi w (.cells #[.i 0,.int .u8 0,.int .u8 0,.slice none 0 0] aL) λm=>
 gi m (.cells #[.i 0] cT) λn=>
 gi n (.cells #[.i 0] yV) λu=>
 aW (aR (((j.size:Nat):Int)>4096)) (sR u (nb w) (.i 0) (.int .u8 0) (.int .u8 0) (.slice none 0 0) λw7=>cY w7 (nb m) (.i 4096) λw8=>
 cY w8 (nb n) (.i 4) λo=>
 cV o (nb w) λq r s t=>∃x:Int,o.cell? (nb m)=some (.i x)/\
 ∃y:Int,o.cell? (nb n)=some (.i y)/\
 R (aJ (.tuple #[.agg #[.i q,.int .u8 r,.int .u8 s,t.v],.i x,.i y])) o) (gi u (.cells #[.i (-1),.slice none 0 0,.slice none 0 0,.slice none 0 0,.slice none 0 0,.i 0,.i 0,.int .u8 0,.int .u8 0,.slice none 0 0] c9) λl=>
 gi l (.cells #[.slice none 0 0,.i 0,.i 0] iV) λaa=>
 Le aa (nb l) (.slice (some (nb u)) 1 1) (.i 0) (.i 0) λab=>Yc vr #[.string j] ab λz ac=>W.E6 gK (some z) λf d=>W.DU f<|W.uV d λg e=>W.gY (some g) λk=>W.DU e<|S0 j (nb w) (nb m) (nb n) (nb l) k ac R)):aH aB sK #[.string j] w R:=
 Fh (R:=R) (fn:=Tryz.f133) (c:=C0) (args:=[.string j]) (by kernel_rfl) (by kernel_rfl) (by kernel_rfl) (sr C0 (show (λ(E:Env) (w:aA)=>ue aB C0 (λE w=>ue aB C29 (λE w=>nN (Env.val E (.tmp 10)) (ue aB C31 (λE w=>pB aB Tryz.f133 E w (λv=>R (aJ v) w)) E w) (ue aB C2 (λE w=>ue aB C4 (λE w=>zW E w R) E w) E w)) E w) E w) (qN 0 [.string j]) w from mp h) λ_ _ b=>(sq C1 (sr C29 b λ_ _ b=>(cn C30 b (λb=>(sr C31 b λ_ _ b=>(rt C32 λa p=>K4 p b))) (λb=>(sk C33 λa p=>nx p (sr C2 b λ_ _ b=>(sq C3 (sr C4 b λ_ _ b=>(bk C5 0 (by kernel_rfl) (xO R _ _ b)))))))))))
end regex_Parse
namespace regex_byteText
abbrev X:Fx:=⟨aB,Tryz.f193,[(3,ls [0,1,2,3,4,5,6,7,8])],[]⟩
def ok (a:Int) (w:aA) (R:aT) (h:Dj qj #[.int .u8 a] w λk e=>aW k (gi e (.cells #[.int .u8 39,.int .u8 a,.int .u8 39] bS) λf=>
 ∃i:ByteArray,Sem.run aB (Go.convert bB cG (.slice (some (nb e)) 3 3)) f=.ok (.string i) f/\R (aJ (.string i)) f) (wy e λj=>(0:Int)<=(Int.fdiv a (2^(4)))/\∃b:UInt8,(aE #[48,49,50,51,52,53,54,55,56,57,97,98,99,100,101,102])[aF (Int.fdiv a (2^(4)))]? =some b/\(0:Int)<=(za .u8 a 15)/\∃c:UInt8,(aE #[48,49,50,51,52,53,54,55,56,57,97,98,99,100,101,102])[aF (za .u8 a 15)]? =some c/\gi j (.cells #[.int .u8 92,.int .u8 120,.int .u8 ((b.toNat:Nat):Int),.int .u8 ((c.toNat:Nat):Int)] bS) λg=>
 ∃d:ByteArray,Sem.run aB (Go.convert bB cG (.slice (some (nb j)) 4 4)) g=.ok (.string d) g/\R (aJ (.string d)) g)):aH aB kK #[.int .u8 a] w R:=aZ X [] h
end regex_byteText
namespace regex_text
abbrev X:Fx:=⟨aB,Tryz.f150,[],[2]⟩
def dQ (c d e:Int) (f:Sl) (b:Int) (w:aA) (R:aT) (h:cB [] w λk l=>
 Ho [k] tT #[.agg #[.i c,.int .u8 d,.int .u8 e,f.v]] l λa g j=>aW (aR (g<b)) (¬((((aE #[40]).size+a.size:Nat):Int)>IntKind.i64.max)/\¬(((((aE #[40])++a).size+(aE #[41]).size:Nat):Int)>IntKind.i64.max)/\R (aJ (.string (((aE #[40])++a)++(aE #[41])))) j) (R (aJ (.string a)) j)):aH aB je #[.agg #[.i c,.int .u8 d,.int .u8 e,f.v],.i b] w R:=aZ X [] h
end regex_text
namespace regex_bare
abbrev X:Fx:=⟨aB,Tryz.f178,[(9,ls [0,1,5,6,2,3,4,7,8,9,10,11])],[1,9]⟩
abbrev P0:Ps:=[(1,.l [.I,.Y,.Y,.s] aL),(5,.v [.st]),(6,.v [.I]),(7,.v [.st]),(79,.v [.s]),(80,.v [.I]),(81,.v [.I])]
def OR (k:Nat) (c d e:Int) (f:Sl) (b:ByteArray) (a:Int) (l:ByteArray) (g:Sl) (i j:Int) (w:aA) (R:aT):Prop:=dD P0 0 (X.Sem (bV [0,1,1,1,7])) k c d e f b a l g i j w R
def Ea:=gI X (bV [0,1,1,1,7]) P0 OR
abbrev P1:Ps:=[(1,.l [.I,.Y,.Y,.s] aL),(5,.v [.st]),(6,.v [.I]),(7,.v [.st]),(10,.v [.st]),(79,.v [.s]),(80,.v [.I]),(81,.v [.I])]
abbrev ir (m:Nat) (d e f:Int) (g:Sl) (b:ByteArray) (a:Int) (i c:ByteArray) (j:Sl) (k l:Int) (w:aA) (R:aT):Prop:=
 ¬(((i.size+c.size:Nat):Int)>IntKind.i64.max)/\OR m d e f g b a (i++c) j k (aC .i64 (l+1)) w R
def iG:=bX X [Ea] (bV [3,2,2,2,1,1,7]) P1 ir
def uP:∀(m:Nat) (e f g:Int) (j:Sl) (b:ByteArray) (c:Int) (l:ByteArray) (k:Sl) (o d:Int) (w:aA) (R:aT) (h:aW (aR (d<o)) (bY k d λt=>cV w (t.add (aF d *4)) λu x y z=>cB [m] w λs w2=>
 loc [m,s] w2 λw6=>oW [m,s] je #[.agg #[.i u,.int .u8 x,.int .u8 y,z.v],.i (aC .i64 (c+1))] w6 λp w7=>aW (aR (d>0)) (¬(((l.size+b.size:Nat):Int)>IntKind.i64.max)/\aW (e==3) ((0:Int)<=(aC .i64 ((((l++b).size:Nat):Int) - 1))/\∃q:UInt8,(l++b)[aF (aC .i64 ((((l++b).size:Nat):Int) - 1))]? =some q/\lO [m,s] lZ #[.int .u8 ((q.toNat:Nat):Int)] w7 λaa w8=>aW aa ((0:Int)<=0/\∃r:UInt8,p[aF 0]? =some r/\lO [m,s] lZ #[.int .u8 ((r.toNat:Nat):Int)] w8 λab w9=>aW ab (¬((((l++b).size+(aE #[32]).size:Nat):Int)>IntKind.i64.max)/\ir m e f g j b c ((l++b)++(aE #[32])) p k o d w9 R) (ir m e f g j b c (l++b) p k o d w9 R)) (ir m e f g j b c (l++b) p k o d w8 R)) (ir m e f g j b c (l++b) p k o d w7 R)) (ir m e f g j b c l p k o d w7 R)) (R (aJ (.tuple #[.string l,.i c])) w)),OR m e f g j b c l k o d w R:=mp (dV (X:=X) [iG,Ea] (bV [0,1,1,1,7]) P0)
abbrev P2:Ps:=[(1,.l [.I,.Y,.Y,.s] aL),(4,.v [.st]),(5,.v [.st]),(6,.v [.I])]
abbrev gW (r:Nat) (o p q:Int) (c:Sl) (b f:ByteArray) (d:Int) (w:aA) (R:aT):Prop:=
 aW (((c.n:Nat):Int)==0) (¬(((b.size+(aE #[40,41]).size:Nat):Int)>IntKind.i64.max)/\R (aJ (.tuple #[.string (b++(aE #[40,41])),.i 4])) w) (aW (((c.n:Nat):Int)==1) (¬(((b.size+(aE #[40]).size:Nat):Int)>IntKind.i64.max)/\bY c 0 λg=>cV w (g.add (aF 0 *4)) λj k l m=>oW [r] je #[.agg #[.i j,.int .u8 k,.int .u8 l,m.v],.i 0] w λe s=>¬((((b++(aE #[40])).size+e.size:Nat):Int)>IntKind.i64.max)/\¬(((((b++(aE #[40]))++e).size+(aE #[41]).size:Nat):Int)>IntKind.i64.max)/\R (aJ (.tuple #[.string (((b++(aE #[40]))++e)++(aE #[41])),.i 4])) s) (OR r o p q c f d (aE #[]) c ((c.n:Nat):Int) 0 w R))
def gN:=bX X [iG,Ea] (bV [4]) P2 gW
abbrev eX (i:Nat) (a b c:Int) (d:Sl) (g f:ByteArray) (e:Int) (w:aA) (R:aT):Prop:=
 aW (a==4) (gW i a b c d (aE #[97,108,116]) (aE #[124]) 0 w R) (aW (a==5) (gW i a b c d (aE #[97,108,108]) (aE #[38]) 1 w R) (gW i a b c d g f e w R))
def fH:=bX X [gN,iG,Ea] (bV [3]) P2 eX
def dQ (b d e:Int) (c:Sl) (w:aA) (R:aT) (h:cB [] w λj f=>
 aW (b==0) (R (aJ (.tuple #[.string (aE #[110,111,110,101]),.i 4])) f) (aW (b==1) (R (aJ (.tuple #[.string (aE #[101,109,112,116,121]),.i 4])) f) (aW (b==2) (aW (d==e) (oW [j] kK #[.int .u8 d] f λaa w2=>R (aJ (.tuple #[.string aa,.i 4])) w2) (loc [j] f λw3=>oW [j] kK #[.int .u8 d] w3 λg w4=>¬((((aE #[91]).size+g.size:Nat):Int)>IntKind.i64.max)/\¬(((((aE #[91])++g).size+(aE #[45]).size:Nat):Int)>IntKind.i64.max)/\oW [j] kK #[.int .u8 e] w4 λk w5=>¬((((((aE #[91])++g)++(aE #[45])).size+k.size:Nat):Int)>IntKind.i64.max)/\¬(((((((aE #[91])++g)++(aE #[45]))++k).size+(aE #[93]).size:Nat):Int)>IntKind.i64.max)/\R (aJ (.tuple #[.string (((((aE #[91])++g)++(aE #[45]))++k)++(aE #[93])),.i 4])) w5)) (aW (b==6) (bY c 0 λl=>cV f (l.add (aF 0 *4)) λm o p q=>oW [j] je #[.agg #[.i m,.int .u8 o,.int .u8 p,q.v],.i 3] f λy w6=>¬((((aE #[33]).size+y.size:Nat):Int)>IntKind.i64.max)/\R (aJ (.tuple #[.string ((aE #[33])++y),.i 3])) w6) (aW (b==7) (bY c 0 λr=>cV f (r.add (aF 0 *4)) λs t u x=>oW [j] je #[.agg #[.i s,.int .u8 t,.int .u8 u,x.v],.i 4] f λz w7=>¬(((z.size+(aE #[42]).size:Nat):Int)>IntKind.i64.max)/\R (aJ (.tuple #[.string (z++(aE #[42])),.i 4])) w7) (eX j b d e c (aE #[99,97,116]) (aE #[]) 2 f R)))))):aH aB tT #[.agg #[.i b,.int .u8 d,.int .u8 e,c.v]] w R:=aZ X [fH,gN,iG,Ea] h
end regex_bare
namespace regex_Print
abbrev X:Fx:=⟨aB,Tryz.f135,[],[1]⟩
def dQ (a b c:Int) (d:Sl) (w:aA) (R:aT) (h:cB [] w λe k=>
 qf [e] qi #[.agg #[.i a,.int .u8 b,.int .u8 c,d.v]] k λg j=>aW (g !=0) (R (aJ (.tuple #[.s0,.i g])) j) (oW [e] je #[.agg #[.i a,.int .u8 b,.int .u8 c,d.v],.i 0] j λf l=>R (aJ (.tuple #[.string f,.i 0])) l)):aH aB sL #[.agg #[.i a,.int .u8 b,.int .u8 c,d.v]] w R:=aZ X [] h
end regex_Print
namespace term_isNormal
abbrev X:Fx:=⟨aB,Tryz.f122,[],[3,6]⟩
def dQ (s:ByteArray) (w:aA) (R:aT) (h:aau sK #[.string s] w λb c d e y m z=>cB [] z λa u=>
 aW (m !=0) (loc [a] u λt=>R (aJ (.bool false)) t) (loc [a] u λt=>Qb [a] po #[.agg #[.i b,.int .u8 c,.int .u8 d,e.v]] t λf g j k n w7=>cB [a] w7 λr x=>
 aW (n !=0) (loc [a,r] x λl=>R (aJ (.bool false)) l) (loc [a,r] x λl=>Ho [a,r] sL #[.agg #[.i f,.int .u8 g,.int .u8 j,k.v]] l λo p q=>aW (p==0) (R (aJ (.bool (o.toList==s.toList))) q) (R (aJ (.bool false)) q)))):aH aB oz #[.string s] w R:=aZ X [] h
end term_isNormal
namespace slices_Clone_sl_byte_byte
abbrev X:Fx:=⟨aB,Tryz.f113,[],[]⟩
def ok (b:Sl) (w:aA) (R:aT) (h:aW b.a.isNone (R (aJ (.slice none 0 0)) w) (gi w (.cells #[] bS) λe=>
 ∃(c:Sl) (d:aA),Sem.run aB (Builtin.append_ #[bB,bB] bB #[.slice (some (nb w)) 0 0,b.v]) e=.ok (c.v) d/\R (aJ (c.v)) d)):aH aB jf #[b.v] w R:=aZ X [] h
end slices_Clone_sl_byte_byte
namespace wire_Writer_Uint
abbrev X:Fx:=⟨aB,Tryz.f111,[],[]⟩
abbrev P0:Ps:=[(0,.v [.r]),(1,.v [.U])]
def L0 (a:Addr) (b:Int) (w:aA) (R:aT):Prop:=dD P0 0 (X.Sem (bV [0,2])) a b w R
def fI:=gI X (bV [0,2]) P0 L0
def dE:∀(a:Addr) (b:Int) (w:aA) (R:aT) (h:aW (aR (b>=128)) (∃c:Sl,w.cell? (a.add 0)=some (c.v)/\
 gi w (.cells #[.int .u8 (bOr .u8 (aC .u8 b) 128)] bS) λj=>
 ∃(d:Sl) (g:aA),Sem.run aB (Builtin.append_ #[bB,bB] bB #[c.v,.slice (some (nb w)) 1 1]) j=.ok (d.v) g/\cY g (a.add 0) (d.v) λk=>
 L0 a (Int.fdiv b (2^(7))) k R) (∃e:Sl,w.cell? (a.add 0)=some (e.v)/\
 gi w (.cells #[.int .u8 (aC .u8 b)] bS) λl=>
 ∃(f:Sl) (i:aA),Sem.run aB (Builtin.append_ #[bB,bB] bB #[e.v,.slice (some (nb w)) 1 1]) l=.ok (f.v) i/\cY i (a.add 0) (f.v) λm=>
 R (aJ (.tuple #[])) m)),L0 a b w R:=mp (dV (X:=X) [fI] (bV [0,2]) P0)
def ok (a:Addr) (b:Int) (w:aA) (R:aT) (h:L0 a b w R):aH aB iA #[.pointer (some a),.u b] w R:=aZ X [fI] h
end wire_Writer_Uint
namespace wire_Writer_Int
abbrev X:Fx:=⟨aB,Tryz.f109,[],[]⟩
def ok (a:Addr) (b:Int) (w:aA) (R:aT) (h:vO iA #[.pointer (some a),.u (Tn .u64 (aC .u64 ((aC .u64 b) *2^(1))) (aC .u64 (Int.fdiv b (2^(63)))))] w λc=>R (aJ (.tuple #[])) c):aH aB fL #[.pointer (some a),.i b] w R:=aZ X [] h
end wire_Writer_Int
namespace wire_Writer_Ints
abbrev X:Fx:=⟨aB,Tryz.f110,[],[]⟩
abbrev P0:Ps:=[(0,.v [.r]),(11,.v [.s]),(12,.v [.I]),(13,.v [.I])]
def L0 (d:Addr) (a:Sl) (b c:Int) (w:aA) (R:aT):Prop:=dD P0 0 (X.Sem (bV [0,1,2])) d a b c w R
def fI:=gI X (bV [0,1,2]) P0 L0
def dE:∀(e:Addr) (c:Sl) (d b:Int) (w:aA) (R:aT) (h:aW (aR (b<d)) (bY c b λf=>∃g:Int,w.cell? (f.add (aF b *1))=some (.i g)/\
 vO fL #[.pointer (some e),.i g] w λj=>L0 e c d (aC .i64 (b+1)) j R) (R (aJ (.tuple #[])) w)),L0 e c d b w R:=mp (dV (X:=X) [fI] (bV [0,1,2]) P0)
def ok (a:Addr) (b:Sl) (w:aA) (R:aT) (h:vO iA #[.pointer (some a),.u (aC .u64 ((b.n:Nat):Int))] w λc=>L0 a b ((b.n:Nat):Int) 0 c R):aH aB lH #[.pointer (some a),b.v] w R:=aZ X [fI] h
end wire_Writer_Ints
namespace wire_Writer_Text
abbrev X:Fx:=⟨aB,Tryz.f112,[],[]⟩
def ok (a:Addr) (d:ByteArray) (w:aA) (R:aT) (h:vO iA #[.pointer (some a),.u (aC .u64 ((d.size:Nat):Int))] w λe=>∃b:Sl,e.cell? (a.add 0)=some (b.v)/\
 ∃(c:Sl) (f:aA),Sem.run aB (Builtin.append_ #[bB,cG] bB #[b.v,.string d]) e=.ok (c.v) f/\cY f (a.add 0) (c.v) λg=>
 R (aJ (.tuple #[])) g):aH aB oI #[.pointer (some a),.string d] w R:=aZ X [] h
end wire_Writer_Text
namespace wire_Writer_Done
abbrev X:Fx:=⟨aB,Tryz.f84,[],[]⟩
def ok (a:Addr) (w:aA) (R:aT) (h:∃b:Sl,w.cell? (a.add 0)=some (b.v)/\
 ca3 jf #[b.v] w λc d=>R (aJ (c.v)) d):aH aB oH #[.pointer (some a)] w R:=aZ X [] h
end wire_Writer_Done
namespace term_write
abbrev X:Fx:=⟨aB,Tryz.f83,[],[]⟩
def ok (a b:Addr) (w:aA) (R:aT) (h:∃m:Int,w.cell? (b.add 0)=some (.i m)/\
 vO fL #[.pointer (some a),.i m] w λn=>∃c:Sl,n.cell? (b.add 1)=some (c.v)/\
 vO lH #[.pointer (some a),c.v] n λo=>∃d:Int,o.cell? (b.add 2)=some (.i d)/\
 vO fL #[.pointer (some a),.i d] o λp=>∃e:Int,p.cell? (b.add 3)=some (.i e)/\
 vO fL #[.pointer (some a),.i e] p λq=>∃f:Int,q.cell? (b.add 4)=some (.u f)/\
 vO iA #[.pointer (some a),.u f] q λr=>∃g:ByteArray,r.cell? (b.add 5)=some (.string g)/\
 vO oI #[.pointer (some a),.string g] r λs=>∃j:Int,s.cell? ((b.add 6).add 0)=some (.i j)/\
 vO fL #[.pointer (some a),.i j] s λt=>∃k:Int,t.cell? ((b.add 6).add 1)=some (.i k)/\
 vO fL #[.pointer (some a),.i k] t λx=>∃l:Int,x.cell? ((b.add 6).add 2)=some (.i l)/\
 vO fL #[.pointer (some a),.i l] x λy=>R (aJ (.tuple #[])) y):aH aB tX #[.pointer (some a),.pointer (some b)] w R:=aZ X [] h
end term_write
namespace term_keyOf
abbrev X:Fx:=⟨aB,Tryz.f64,[],[]⟩
def ok (b:Addr) (w:aA) (R:aT) (h:gi w (.cells #[.slice none 0 0] jv) λe=>
 vO tX #[.pointer (some (nb w)),.pointer (some b)] e λf=>ca3 oH #[.pointer (some (nb w))] f λd a=>∃c:ByteArray,Sem.run aB (Go.convert bB cG (d.v)) a=.ok (.string c) a/\R (aJ (.string c)) a):aH aB q9 #[.pointer (some b)] w R:=aZ X [] h
end term_keyOf
namespace term_builder_sortOf_1
abbrev X:Fx:=⟨aB,Tryz.f66,[],[3,5]⟩
def dQ (d:ByteArray) (l:Addr) (w:aA) (R:aT) (h:cB [] w λk f=>
 ∃m:Option Addr,f.cell? l=some (.pointer m)/\
 gT m λj=>∃g:Option Nat,f.cell? (j.add 2)=some (.map g)/\
 ∃a:Int,∃b:Int,∃c:Int,∃e:Bool,Sem.run aB (Instr.lookup lK (.map g) (.string d) true) f=.ok (.tuple #[.agg #[.i a,.i b,.i c],.bool e]) f/\cB [k] f λn o=>
 loc [k,n] o λp=>R (aJ (.tuple #[.agg #[.i a,.i b,.i c],.bool e])) p):aH aB iT #[.string d,.pointer (some l)] w R:=aZ X [] h
end term_builder_sortOf_1
namespace term_builder_sortOf
abbrev X:Fx:=⟨aB,Tryz.f43,[(1,ls [0,1,2,3,4,5,6,7,8,9,10])],[3,4]⟩
def dQ (t:Addr) (d:Int) (e:Sl) (f g j:Int) (k:ByteArray) (l m n:Int) (w:aA) (R:aT) (h:gi w (.cells #[.pointer (some t)] yW) λz=>
 cB [] z λo w2=>
 cB [o] w2 λq w3=>
 loc [o,q] w3 λs=>∃x:Option Addr,s.cell? (nb w)=some (.pointer x)/\
 gT x λr=>∃y:Sl,s.cell? (r.add 0)=some (y.v)/\
 jh [o,q] sO #[y.v,.agg #[.i d,e.v,.i f,.i g,.u j,.string k,.i l,.i m,.i n],.func (.func iT) #[] #[.pointer (some (nb w))]] s λa b c p w5=>loc [o,q] w5 λw8=>R (aJ (.tuple #[.agg #[.i a,.i b,.i c],.i p])) w8):aH aB jF #[.pointer (some t),.agg #[.i d,e.v,.i f,.i g,.u j,.string k,.i l,.i m,.i n]] w R:=aZ X [] h
end term_builder_sortOf
namespace term_builder_find
abbrev X:Fx:=⟨aB,Tryz.f44,[(1,ls [0,1,2,3,4,5,6,7,8,9,10])],[]⟩
def ok (p:Addr) (c:Int) (d:Sl) (e f g:Int) (j:ByteArray) (k l m:Int) (w:aA) (R:aT) (h:gi w (.cells #[.i c,d.v,.i e,.i f,.u g,.string j,.i k,.i l,.i m] bE) λs=>
 wy s λr=>∃n:Option Nat,r.cell? (p.add 1)=some (.map n)/\
 Dw q9 #[.pointer (some (nb w))] r λq o=>o.cell? (p.add 1)=some (.map n)/\∃a:Int,∃b:Bool,Sem.run aB (Instr.lookup pI (.map n) (.string q) true) o=.ok (.tuple #[.i a,.bool b]) o/\R (aJ (.tuple #[.i a,.bool b])) o):aH aB kr #[.pointer (some p),.agg #[.i c,d.v,.i e,.i f,.u g,.string j,.i k,.i l,.i m]] w R:=aZ X [] h
end term_builder_find
namespace term_builder_put
abbrev X:Fx:=⟨aB,Tryz.f42,[(1,ls [0,1,2,3,5,6,7,8,9,4,10]),(3,ls [0,1,2,3,4,5,6,7,8]),(4,ls [0,1,2,3,4,5,6,7,8,9,10])],[]⟩
abbrev P0:Ps:=[(0,.v [.r]),(3,.v [.r])]
abbrev S0 (b x:Addr) (w:aA) (R:aT):Prop:=
 wy w λo=>∃a:Sl,o.cell? (b.add 0)=some (a.v)/\
 Ah o x λc d e f g j k l m=>gi o (.cells #[.i c,d.v,.i e,.i f,.u g,.string j,.i k,.i l,.i m] bE) λr=>
 r.cell? (b.add 0)=some (a.v)/\∃(p:Sl) (s:aA),Sem.run aB (Builtin.append_ #[cA,cA] cA #[a.v,.slice (some (nb o)) 1 1]) r=.ok (p.v) s/\cY s (b.add 0) (p.v) λt=>
 ∃q:Sl,t.cell? (b.add 0)=some (q.v)/\
 R (aJ (.i (aC .i64 (((q.n:Nat):Int) - 1)))) t
def fH:=bX X [] (bV [3]) P0 S0
def ok (a:Addr) (b:Int) (c:Sl) (d e f:Int) (g:ByteArray) (j k l:Int) (w:aA) (R:aT) (h:gi w (.cells #[.i b,c.v,.i d,.i e,.u f,.string g,.i j,.i k,.i l] bE) λw1=>
 wy w1 λw2=>∃z:Option Nat,w2.cell? (a.add 1)=some (.map z)/\
 ∃m:Sl,w2.cell? (a.add 0)=some (m.v)/\
 Dw q9 #[.pointer (some (nb w))] w2 λt9 w3=>w3.cell? (a.add 0)=some (m.v)/\w3.cell? (a.add 1)=some (.map z)/\∃(r:aA),Sem.run aB (Instr.mapUpdate pI (.map z) (.string t9) (.i ((m.n:Nat):Int))) w3=.ok () r/\∃t:Int,r.cell? ((nb w).add 0)=some (.i t)/\
 aW (t==0) (wy r λs=>∃x:Option Nat,s.cell? (a.add 2)=some (.map x)/\
 ∃y:ByteArray,s.cell? ((nb w).add 5)=some (.string y)/\
 eS s ((nb w).add 6) λo p q=>∃(w6:aA),Sem.run aB (Instr.mapUpdate lK (.map x) (.string y) (.agg #[.i o,.i p,.i q])) s=.ok () w6/\S0 a (nb w) w6 R) (S0 a (nb w) r R)):aH aB jr #[.pointer (some a),.agg #[.i b,c.v,.i d,.i e,.u f,.string g,.i j,.i k,.i l]] w R:=aZ X [fH] h
end term_builder_put
namespace term_newBuilder
abbrev X:Fx:=⟨aB,Tryz.f22,[],[1,5]⟩
abbrev P0:Ps:=[(3,.v [.r]),(11,.v [.s]),(12,.v [.I]),(13,.v [.I])]
def fO (d:Addr) (a:Sl) (b c:Int) (w:aA) (R:aT):Prop:=dD P0 0 (X.Sem (bV [0,1,1,1,2])) d a b c w R
def fI:=gI X (bV [0,1,1,1,2]) P0 fO
def bT:∀(e:Addr) (c:Sl) (d b:Int) (w:aA) (R:aT) (h:aW (aR (b<d)) (bY c b λf=>Ah w (f.add (aF b *9)) λg j k l m o p q r=>cB [] w λs y=>
 loc [s] y λt=>qf [s] jr #[.pointer (some e),.agg #[.i g,j.v,.i k,.i l,.u m,.string o,.i p,.i q,.i r]] t λz x=>fO e c d (aC .i64 (b+1)) x R) (R (aJ (.pointer (some e))) w)),fO e c d b w R:=mp (dV (X:=X) [fI] (bV [0,1,1,1,2]) P0)
def dQ (a:Sl) (w:aA) (R:aT) (h:cB [] w λf b=>
 gi b (.map #[] 0) λc=>
 gi c (.map #[] 0) λd=>
 gi d (.cells #[.slice none 0 0,.map (some b.heap.size),.map (some c.heap.size)] ib) λe=>
 fO (nb d) a ((a.n:Nat):Int) 0 e R):aH aB mq #[.agg #[a.v]] w R:=aZ X [fI] h
end term_newBuilder
namespace term_builder_add
abbrev X:Fx:=⟨aB,Tryz.f23,[],[3,6]⟩
def dQ (p:Addr) (d:Int) (e:Sl) (f g j:Int) (k:ByteArray) (q r s:Int) (w:aA) (R:aT) (h:cB [] w λo w1=>
 jh [o] jF #[.pointer (some p),.agg #[.i d,e.v,.i f,.i g,.u j,.string k,.i q,.i r,.i s]] w1 λa b c l w2=>cB [o] w2 λt w3=>
 aW (l !=0) (loc [o,t] w3 λw6=>R (aJ (.tuple #[.i 0,.i l])) w6) (loc [o,t] w3 λw9=>cf6 [o,t] kr #[.pointer (some p),.agg #[.i d,e.v,.i f,.i g,.u j,.string k,.i a,.i b,.i c]] w9 λx y m=>aW y (R (aJ (.tuple #[.i x,.i 0])) m) (∃z:Sl,m.cell? (p.add 0)=some (z.v)/\
 aW (aR (((z.n:Nat):Int)>=4096)) (R (aJ (.tuple #[.i 0,.i 4])) m) (qf [o,t] jr #[.pointer (some p),.agg #[.i d,e.v,.i f,.i g,.u j,.string k,.i a,.i b,.i c]] m λaa ab=>R (aJ (.tuple #[.i aa,.i 0])) ab)))):aH aB oG #[.pointer (some p),.agg #[.i d,e.v,.i f,.i g,.u j,.string k,.i q,.i r,.i s]] w R:=aZ X [] h
end term_builder_add
namespace term_moved
abbrev X:Fx:=⟨aB,Tryz.f24,[],[2,4]⟩
abbrev P0:Ps:=[(1,.v [.s]),(2,.l [.I,.s,.I,.I,.U,.st,.I,.I,.I] bE),(4,.l [.I,.s,.I,.I,.U,.st,.I,.I,.I] bE),(5,.v [.s]),(13,.v [.I]),(14,.v [.I])]
def fO (x:Sl) (y:Nat) (b:Int) (c:Sl) (d e f:Int) (g:ByteArray) (i j k:Int) (z:Nat) (l:Int) (m:Sl) (n o p:Int) (q:ByteArray) (r s t:Int) (a:Sl) (u v:Int) (w:aA) (R:aT):Prop:=dD P0 0 (X.Sem (bV [0,1,1,1,2])) x y b c d e f g i j k z l m n o p q r s t a u v w R
def fI:=gI X (bV [0,1,1,1,2]) P0 fO
def bT:∀(q:Sl) (n2:Nat) (e:Int) (d:Sl) (f g j:Int) (k:ByteArray) (l m o:Int) (t4:Nat) (s:Int) (t:Sl) (x y z:Int) (aa:ByteArray) (ab ac ad:Int) (b:Sl) (r c:Int) (w:aA) (R:aT) (h:aW (aR (c<r)) (bY d c λaf=>∃p:Int,w.cell? (af.add (aF c *1))=some (.i p)/\
 bY q p λag=>∃aj:Int,w.cell? (ag.add (aF p *1))=some (.i aj)/\
 bY b c λah=>cY w (ah.add (aF c *1)) (.i aj) λw4=>kept [n2,t4] w w4/\
 fO q n2 e d f g j k l m o t4 s t x y z aa ab ac ad b r (aC .i64 (c+1)) w4 R) (loc [n2,t4] w λak=>R (aJ (.agg #[.i e,b.v,.i f,.i g,.u j,.string k,.i l,.i m,.i o])) ak)),fO q n2 e d f g j k l m o t4 s t x y z aa ab ac ad b r c w R:=mp (dV (X:=X) [fI] (bV [0,1,1,1,2]) P0)
def dQ (b:Int) (a:Sl) (c d e:Int) (f:ByteArray) (g j k:Int) (m:Sl) (w:aA) (R:aT) (h:cB [] w λo s=>
 cB [o] s λq r=>
 ∃(l:Sl) (p:aA),Sem.run aB (Instr.makeSlice jj (.i ((a.n:Nat):Int)) (.i ((a.n:Nat):Int))) r=.ok (l.v) p/\kept [o,q] r p/\fO m o b a c d e f g j k q 0 ⟨none,0,0⟩ 0 0 0 (aE #[]) 0 0 0 l ((a.n:Nat):Int) 0 p R):aH aB tW #[.agg #[.i b,a.v,.i c,.i d,.u e,.string f,.i g,.i j,.i k],m.v] w R:=aZ X [fI] h
end term_moved
namespace slices_Clip_sl_api_Node_api_Node
abbrev X:Fx:=⟨aB,Tryz.f45,[],[]⟩
def ok (b:Sl) (w:aA) (R:aT) (h:(0:Int)<=((b.n:Nat):Int)/\((b.n:Nat):Int)<=((b.c:Nat):Int)/\(0:Int)<=((b.n:Nat):Int)/\((b.n:Nat):Int)<=(((aF ((b.n:Nat):Int)):Nat):Int)/\R (aJ (.slice (if (aF ((b.n:Nat):Int))=0 then b.a else b.a.map (·.add (0 *9))) ((aF ((b.n:Nat):Int)) - 0) ((aF ((b.n:Nat):Int)) - 0))) w):aH aB gH #[b.v] w R:=aZ X [] h
end slices_Clip_sl_api_Node_api_Node
namespace term_builder_graph
abbrev X:Fx:=⟨aB,Tryz.f25,[(1,ls [0,1,2,3,4,5,6,7,8])],[3,4]⟩
def dQ (f:Addr) (a:Sl) (w:aA) (R:aT) (h:cB [] w λb j=>
 cB [b] j λc k=>
 loc [b,c] k λd=>∃i:Sl,d.cell? (f.add 0)=some (i.v)/\
 aW (((i.n:Nat):Int)==((a.n:Nat):Int)) (loc [b,c] d λl=>R (aJ (.agg #[a.v])) l) (∃e:Sl,d.cell? (f.add 0)=some (e.v)/\
 TK [b,c] gH #[e.v] d λg m=>loc [b,c] m λo=>R (aJ (.agg #[g.v])) o)):aH aB mX #[.pointer (some f),.agg #[a.v]] w R:=aZ X [] h
end term_builder_graph
namespace term_Valid
abbrev X:Fx:=⟨aB,Tryz.f26,[],[1,5,6]⟩
abbrev P0:Ps:=[(3,.v [.p]),(17,.v [.s]),(18,.v [.I]),(19,.v [.I])]
def fO (d:Option Addr) (a:Sl) (b c:Int) (w:aA) (R:aT):Prop:=dD P0 0 (X.Sem (bV [0,1,1,1,3])) d a b c w R
def fI:=gI X (bV [0,1,1,1,3]) P0 fO
def bT:∀(y:Option Addr) (q:Sl) (aa e:Int) (w:aA) (R:aT) (h:aW (aR (e<aa)) (bY q e λac=>Ah w (ac.add (aF e *9)) λf g j k l m b c d=>cB [] w λo w3=>
 loc [o] w3 λaf=>jh [o] jF #[.pointer y,.agg #[.i f,g.v,.i j,.i k,.u l,.string m,.i b,.i c,.i d]] af λs t x r ag=>cB [o] ag λz ab=>
 aW (r !=0) (loc [o,z] ab λp=>R (aJ (.i r)) p) (aW (!((s==b)&&((t==c)&&((x==d)&&true)))) (loc [o,z] ab λp=>R (aJ (.i 9)) p) (loc [o,z] ab λp=>cf6 [o,z] kr #[.pointer y,.agg #[.i f,g.v,.i j,.i k,.u l,.string m,.i b,.i c,.i d]] p λai ad ae=>aW ad (R (aJ (.i 8)) ae) (qf [o,z] jr #[.pointer y,.agg #[.i f,g.v,.i j,.i k,.u l,.string m,.i b,.i c,.i d]] ae λak ah=>fO y q aa (aC .i64 (e+1)) ah R)))) (R (aJ (.i 0)) w)),fO y q aa e w R:=mp (dV (X:=X) [fI] (bV [0,1,1,1,3]) P0)
def dQ (a:Sl) (w:aA) (R:aT) (h:cB [] w λd c=>
 aW (aR (((a.n:Nat):Int)>4096)) (R (aJ (.i 4)) c) (ZZ [d] mq #[.agg #[.slice none 0 0]] c λb e=>fO b a ((a.n:Nat):Int) 0 e R)):aH aB tV #[.agg #[a.v]] w R:=aZ X [fI] h
end term_Valid
namespace term_Join
abbrev X:Fx:=⟨aB,Tryz.f11,[],[2,3,4,10]⟩
abbrev P0:Ps:=[(2,.l [.s] cM),(4,.l [.s] cM),(7,.v [.p]),(8,.v [.s]),(20,.v [.s]),(21,.v [.I]),(22,.v [.I])]
def fO (i:Nat) (a:Sl) (j:Nat) (b:Sl) (g:Option Addr) (f c:Sl) (d e:Int) (w:aA) (R:aT):Prop:=dD P0 0 (X.Sem (bV [0,1,1,1,3])) i a j b g f c d e w R
def fI:=gI X (bV [0,1,1,1,3]) P0 fO
def bT:∀(c:Nat) (g:Sl) (d:Nat) (m:Sl) (p:Option Addr) (e j:Sl) (l b:Int) (w:aA) (R:aT) (h:aW (aR (b<l)) (bY j b λq=>Ah w (q.add (aF b *9)) λr s t x y z aa ab ac=>cB [c,d] w λf w6=>
 loc [c,d,f] w6 λaq=>aay [c,d,f] tW #[.agg #[.i r,s.v,.i t,.i x,.u y,.string z,.i aa,.i ab,.i ac],e.v] aq λad ae af ag ah ai aj ak al ar=>cf5 [c,d,f] oG #[.pointer p,.agg #[.i ad,ae.v,.i af,.i ag,.u ah,.string ai,.i aj,.i ak,.i al]] ar λam k o=>aW (k !=0) (loc [c,d,f] o λau=>R (aJ (.tuple #[.agg #[.slice none 0 0],.slice none 0 0,.i k])) au) (bY e b λan=>cY o (an.add (aF b *1)) (.i am) λap=>kept [c,d,f] o ap/\
 fO c g d m p e j l (aC .i64 (b+1)) ap R)) (TI [c,d] mX #[.pointer p,.agg #[g.v]] w λao av=>loc [c,d] av λaw=>R (aJ (.tuple #[.agg #[ao.v],e.v,.i 0])) aw)),fO c g d m p e j l b w R:=mp (dV (X:=X) [fI] (bV [0,1,1,1,3]) P0)
def dQ (b a:Sl) (w:aA) (R:aT) (h:cB [] w λc l=>
 cB [c] l λe m=>
 cB [c,e] m λf o=>
 ZZ [c,e,f] mq #[.agg #[b.v]] o λj k=>∃(d:Sl) (g:aA),Sem.run aB (Instr.makeSlice jj (.i ((a.n:Nat):Int)) (.i ((a.n:Nat):Int))) k=.ok (d.v) g/\kept [c,e,f] k g/\fO c b f ⟨none,0,0⟩ j d a ((a.n:Nat):Int) 0 g R):aH aB mW #[.agg #[b.v],.agg #[a.v]] w R:=aZ X [fI] h
end term_Join
namespace strings_Builder_copyCheck
def C0:Code:=(Tryz.f49.body).getD .skip
def C1:=C0.sn
def C2:=C1.fs
def C3:=C1.sn
def C4:=C3.sn
def C5:=C4.fs
def C6:=C4.sn
def ok (d:Addr) (w:aA) (R:aT) (h:∃l:Option Addr,w.cell? (d.add 0)=some (.pointer l)/\
 aW l.isNone (∃m:Option Addr,Sem.run aB (Go.convert j8 pK (.pointer (some d))) w=.ok (.pointer m) w/\∃f:Option Addr,∃e:aA,Sem.run aB (callFunc oT #[.pointer m]) w=.ok (.value (.pointer f)) e/\
 ∃g:Option Addr,Sem.run aB (Go.convert pK j8 (.pointer f)) e=.ok (.pointer g) e/\cY e (d.add 0) (.pointer g) λn=>
 R (aJ (.tuple #[])) n) (∃i:Option Addr,w.cell? (d.add 0)=some (.pointer i)/\
 ∃j:Bool,Sem.run aB (binOp .neq j8 (.pointer i) (.pointer (some d))) w=.ok (.bool j) w/\aW j (False) (R (aJ (.tuple #[])) w))):aH aB eJ #[.pointer (some d)] w R:=
 jR (R:=R) (fn:=Tryz.f49) (c:=C0) (args:=[.pointer (some d)]) (by kernel_rfl) (by kernel_rfl) (by kernel_rfl) (sr C0 (show (λ(E:Env) (w:aA)=>ue aB C0 (λE w=>nN (Env.val E (.tmp 6)) (W0 aB C2 (λE w=>pB aB Tryz.f49 E w (λv=>R (aJ v) w)) E w) (ue aB C3 (λE w=>nN (Env.val E (.tmp 19)) (False) (pB aB Tryz.f49 E w (λv=>R (aJ v) w))) E w)) E w) (qN 0 [.pointer (some d)]) w from mp h) λ_ _ b=>(cn C1 b (λb=>(rg C2 (by kernel_rfl) b λ_ _ a k b=>iM k b)) (λb=>(sr C3 b λ_ _ b=>(cn C4 b (λb=>(False.elim b)) (λb=>(sk C6 λa k=>iM k b)))))))
end strings_Builder_copyCheck
namespace strings_Builder_grow
abbrev X:Fx:=⟨aB,Tryz.f50,[(0,ls [0,1,2,3,4,5,6,7,9,10,11,12,13,8,14,15])],[]⟩
abbrev P0:Ps:=[(0,.v [.r]),(4,.v [.s])]
abbrev S0 (c:Addr) (a:Sl) (w:aA) (R:aT):Prop:=
 ∃b:Sl,w.cell? (c.add 1)=some (b.v)/\
 ∃(d:Int) (e:aA),Sem.run aB (Builtin.copy_ #[bB,bB] cT #[a.v,b.v]) w=.ok (.i d) e/\cY e (c.add 1) (a.v) λf=>
 R (aJ (.tuple #[])) f
def fH:=bX X [] (bV [1]) P0 S0
def ok (e:Addr) (j:Int) (w:aA) (R:aT) (h:wy w λf=>∃k:Sl,f.cell? (e.add 1)=some (k.v)/\
 ∃d:Sl,f.cell? (e.add 1)=some (d.v)/\
 ∃b:Sl,∃g:aA,Sem.run aB (callFunc kV #[.i (aC .i64 ((aC .i64 (2 *((k.c:Nat):Int)))+j))]) f=.ok (.value (b.v)) g/\
 g.cell? (e.add 1)=some (d.v)/\(0:Int)<=((d.n:Nat):Int)/\((d.n:Nat):Int)<=((b.c:Nat):Int)/\S0 e ⟨(if b.c=0 then b.a else b.a.map (·.add (0 *1))),((aF ((d.n:Nat):Int)) - 0),(b.c - 0)⟩ g R):aH aB lG #[.pointer (some e),.i j] w R:=aZ X [fH] h
end strings_Builder_grow
namespace strings_Builder_Grow
def C0:Code:=(Tryz.f28.body).getD .skip
def C1:=C0.sn
def C2:=C1.fs
def C3:=C1.sn
def C4:=C3.sn
def C5:=C4.fs
def C6:=C2.sn
def C7:=C6.fs
def C8:=C6.sn
def C9:=C4.sn
def ok (d:Addr) (e:Int) (w:aA) (R:aT) (h:vO eJ #[.pointer (some d)] w λl=>aW (aR (e<0)) (False) (wy l λg=>∃j:Sl,g.cell? (d.add 1)=some (j.v)/\
 ∃k:Sl,g.cell? (d.add 1)=some (k.v)/\
 aW (aR ((aC .i64 (((j.c:Nat):Int) - ((k.n:Nat):Int)))<e)) (vO lG #[.pointer (some d),.i e] g λm=>R (aJ (.tuple #[])) m) (R (aJ (.tuple #[])) g))):aH aB lF #[.pointer (some d),.i e] w R:=
 jR (R:=R) (fn:=Tryz.f28) (c:=C0) (args:=[.pointer (some d),.i e]) (by kernel_rfl) (by kernel_rfl) (by kernel_rfl) (sr C0 (show (λ(E:Env) (w:aA)=>ue aB C0 (λE w=>ue aB C2 (λE w=>nN (Env.val E (.tmp 7)) (False) (sdK aB C3 [0,1,2,3,4,5,6,7,8,9,10,11,12] (λE w=>nN (Env.val E (.tmp 21)) (W0 aB C5 (λE w=>pB aB Tryz.f28 E w (λv=>R (aJ v) w)) E w) (pB aB Tryz.f28 E w (λv=>R (aJ v) w))) E w)) E w) E w) (qN 0 [.pointer (some d),.i e]) w from mp h) λ_ _ b=>(sq C1 (sr C2 b λ_ _ b=>(cn C6 b (λb=>(False.elim b)) (λb=>(sk C8 λa f=>nx f (sd C3 (by kernel_rfl) b λ_ _ b=>(cn C4 b (λb=>(rg C5 (by kernel_rfl) b λ_ _ a f b=>iM f b)) (λb=>(sk C9 λa f=>iM f b))))))))))
end strings_Builder_Grow
namespace strings_Builder_WriteByte
abbrev X:Fx:=⟨aB,Tryz.f52,[],[]⟩
def ok (a:Addr) (e:Int) (w:aA) (R:aT) (h:vO eJ #[.pointer (some a)] w λd=>∃b:Sl,d.cell? (a.add 1)=some (b.v)/\
 gi d (.cells #[.int .u8 e] bS) λg=>
 ∃(c:Sl) (f:aA),Sem.run aB (Builtin.append_ #[bB,bB] bB #[b.v,.slice (some (nb d)) 1 1]) g=.ok (c.v) f/\cY f (a.add 1) (c.v) λi=>
 R (aJ (.nilIface)) i):aH aB gO #[.pointer (some a),.int .u8 e] w R:=aZ X [] h
end strings_Builder_WriteByte
namespace strings_Builder_WriteString
abbrev X:Fx:=⟨aB,Tryz.f51,[],[]⟩
def ok (a:Addr) (d:ByteArray) (w:aA) (R:aT) (h:vO eJ #[.pointer (some a)] w λe=>∃b:Sl,e.cell? (a.add 1)=some (b.v)/\
 ∃(c:Sl) (f:aA),Sem.run aB (Builtin.append_ #[bB,cG] bB #[b.v,.string d]) e=.ok (c.v) f/\cY f (a.add 1) (c.v) λg=>
 R (aJ (.tuple #[.i ((d.size:Nat):Int),.nilIface])) g):aH aB iL #[.pointer (some a),.string d] w R:=aZ X [] h
end strings_Builder_WriteString
namespace strings_Builder_String
abbrev X:Fx:=⟨aB,Tryz.f30,[(1,ls [0,1,2,3,5,6,7,8,9,4,10,11])],[]⟩
def ok (b:Addr) (w:aA) (R:aT) (h:wy w λd=>∃f:Sl,d.cell? (b.add 1)=some (f.v)/\
 ∃a:Sl,d.cell? (b.add 1)=some (a.v)/\
 ∃(g:Option Addr) (e:aA),Sem.run aB (Builtin.unsafeSliceData_ #[bB] CW #[f.v]) d=.ok (.pointer g) e/\e.cell? (b.add 1)=some (a.v)/\∃(c:ByteArray) (j:aA),Sem.run aB (Builtin.unsafeString_ #[CW,cT] cG #[.pointer g,.i ((a.n:Nat):Int)]) e=.ok (.string c) j/\R (aJ (.string c)) j):aH aB kh #[.pointer (some b)] w R:=aZ X [] h
end strings_Builder_String
namespace internal_strconv_small
abbrev X:Fx:=⟨aB,Tryz.f94,[],[]⟩
def ok (a:Int) (w:aA) (R:aT) (h:aW (aR (a<10)) ((0:Int)<=(aC .i64 (a+1))/\(aC .i64 (a+1))<=(((aE #[48,49,50,51,52,53,54,55,56,57,97,98,99,100,101,102,103,104,105,106,107,108,109,110,111,112,113,114,115,116,117,118,119,120,121,122]).size:Nat):Int)/\(0:Int)<=a/\a<=(((aF (aC .i64 (a+1))):Nat):Int)/\R (aJ (.string ((aE #[48,49,50,51,52,53,54,55,56,57,97,98,99,100,101,102,103,104,105,106,107,108,109,110,111,112,113,114,115,116,117,118,119,120,121,122]).extract (aF a) (aF (aC .i64 (a+1)))))) w) ((0:Int)<=(aC .i64 ((aC .i64 (a *2))+2))/\(aC .i64 ((aC .i64 (a *2))+2))<=(((aE #[48,48,48,49,48,50,48,51,48,52,48,53,48,54,48,55,48,56,48,57,49,48,49,49,49,50,49,51,49,52,49,53,49,54,49,55,49,56,49,57,50,48,50,49,50,50,50,51,50,52,50,53,50,54,50,55,50,56,50,57,51,48,51,49,51,50,51,51,51,52,51,53,51,54,51,55,51,56,51,57,52,48,52,49,52,50,52,51,52,52,52,53,52,54,52,55,52,56,52,57,53,48,53,49,53,50,53,51,53,52,53,53,53,54,53,55,53,56,53,57,54,48,54,49,54,50,54,51,54,52,54,53,54,54,54,55,54,56,54,57,55,48,55,49,55,50,55,51,55,52,55,53,55,54,55,55,55,56,55,57,56,48,56,49,56,50,56,51,56,52,56,53,56,54,56,55,56,56,56,57,57,48,57,49,57,50,57,51,57,52,57,53,57,54,57,55,57,56,57,57]).size:Nat):Int)/\(0:Int)<=(aC .i64 (a *2))/\(aC .i64 (a *2))<=(((aF (aC .i64 ((aC .i64 (a *2))+2))):Nat):Int)/\R (aJ (.string ((aE #[48,48,48,49,48,50,48,51,48,52,48,53,48,54,48,55,48,56,48,57,49,48,49,49,49,50,49,51,49,52,49,53,49,54,49,55,49,56,49,57,50,48,50,49,50,50,50,51,50,52,50,53,50,54,50,55,50,56,50,57,51,48,51,49,51,50,51,51,51,52,51,53,51,54,51,55,51,56,51,57,52,48,52,49,52,50,52,51,52,52,52,53,52,54,52,55,52,56,52,57,53,48,53,49,53,50,53,51,53,52,53,53,53,54,53,55,53,56,53,57,54,48,54,49,54,50,54,51,54,52,54,53,54,54,54,55,54,56,54,57,55,48,55,49,55,50,55,51,55,52,55,53,55,54,55,55,55,56,55,57,56,48,56,49,56,50,56,51,56,52,56,53,56,54,56,55,56,56,56,57,57,48,57,49,57,50,57,51,57,52,57,53,57,54,57,55,57,56,57,57]).extract (aF (aC .i64 (a *2))) (aF (aC .i64 ((aC .i64 (a *2))+2)))))) w)):aH aB kg #[.i a] w R:=aZ X [] h
end internal_strconv_small
namespace internal_strconv_FormatInt
def C0:Code:=(Tryz.f73.body).getD .skip
def C1:=C0.sn
def C2:=C1.fs
def C3:=C2.sn
def C4:=C3.fs
def C5:=C4.fs
def C6:=C5.sn
def C7:=C6.fs
def C8:=C7.sn
def C9:=C6.sn
def Nb:=C4.sn
def JQ:=C3.sn
def SJ:=C1.sn
def ok (e d:Int) (w:aA) (R:aT) (h:aW (d==10) (aW (aR (0<=e)) (aW (aR (e<100)) (Dw kg #[.i e] w λg j=>R (aJ (.string g)) j) (False)) (False)) (False)):aH aB lP #[.i e,.i d] w R:=
 jR (R:=R) (fn:=Tryz.f73) (c:=C0) (args:=[.i e,.i d]) (by kernel_rfl) (by kernel_rfl) (by kernel_rfl) (sr C0 (show (λ(E:Env) (w:aA)=>ue aB C0 (λE w=>ue aB C2 (λE w=>nN (Env.val E (.tmp 11)) (ue aB C5 (λE w=>nN (Env.val E (.tmp 17)) (ue aB C7 (λE w=>pB aB Tryz.f73 E w (λv=>R (aJ v) w)) E w) (False)) E w) (False)) E w) E w) (qN 0 [.i e,.i d]) w from mp h) λ_ _ b=>(sq C1 (sr C2 b λ_ _ b=>(cn C3 b (λb=>(sq C4 (sr C5 b λ_ _ b=>(cn C6 b (λb=>(sr C7 b λ_ _ b=>(rt C8 λa f=>iM f b))) (λb=>(sk C9 λa f=>nx f (False.elim b))))))) (λb=>(sk JQ λa f=>nx f (False.elim b)))))))
end internal_strconv_FormatInt
namespace internal_strconv_Itoa
abbrev X:Fx:=⟨aB,Tryz.f53,[],[]⟩
def ok (a:Int) (w:aA) (R:aT) (h:Dw lP #[.i a,.i 10] w λb c=>R (aJ (.string b)) c):aH aB oU #[.i a] w R:=aZ X [] h
end internal_strconv_Itoa
namespace strconv_Itoa
abbrev X:Fx:=⟨aB,Tryz.f31,[],[]⟩
def ok (a:Int) (w:aA) (R:aT) (h:Dw oU #[.i a] w λb c=>R (aJ (.string b)) c):aH aB jq #[.i a] w R:=aZ X [] h
end strconv_Itoa
namespace print_sortText
abbrev X:Fx:=⟨aB,Tryz.f14,[(1,ls [0,1,3,4,2,5,6,7])],[1]⟩
def dQ (c d e:Int) (w:aA) (R:aT) (h:cB [] w λg j=>
 loc [g] j λk=>oW [g] jq #[.i d] k λb l=>oW [g] jq #[.i e] l λa f=>aW (c==0) (¬((((aE #[40,98,118,32]).size+b.size:Nat):Int)>IntKind.i64.max)/\¬(((((aE #[40,98,118,32])++b).size+(aE #[41]).size:Nat):Int)>IntKind.i64.max)/\R (aJ (.string (((aE #[40,98,118,32])++b)++(aE #[41])))) f) (aW (c==1) (¬((((aE #[40,115,116,114,32]).size+b.size:Nat):Int)>IntKind.i64.max)/\¬(((((aE #[40,115,116,114,32])++b).size+(aE #[41]).size:Nat):Int)>IntKind.i64.max)/\R (aJ (.string (((aE #[40,115,116,114,32])++b)++(aE #[41])))) f) (aW (c==2) (¬((((aE #[40,97,114,114,32]).size+a.size:Nat):Int)>IntKind.i64.max)/\¬(((((aE #[40,97,114,114,32])++a).size+(aE #[32]).size:Nat):Int)>IntKind.i64.max)/\¬((((((aE #[40,97,114,114,32])++a)++(aE #[32])).size+b.size:Nat):Int)>IntKind.i64.max)/\¬(((((((aE #[40,97,114,114,32])++a)++(aE #[32]))++b).size+(aE #[41]).size:Nat):Int)>IntKind.i64.max)/\R (aJ (.string (((((aE #[40,97,114,114,32])++a)++(aE #[32]))++b)++(aE #[41])))) f) (¬((((aE #[40,97,114,115,32]).size+a.size:Nat):Int)>IntKind.i64.max)/\¬(((((aE #[40,97,114,115,32])++a).size+(aE #[32]).size:Nat):Int)>IntKind.i64.max)/\¬((((((aE #[40,97,114,115,32])++a)++(aE #[32])).size+b.size:Nat):Int)>IntKind.i64.max)/\¬(((((((aE #[40,97,114,115,32])++a)++(aE #[32]))++b).size+(aE #[41]).size:Nat):Int)>IntKind.i64.max)/\R (aJ (.string (((((aE #[40,97,114,115,32])++a)++(aE #[32]))++b)++(aE #[41])))) f)))):aH aB pZ #[.agg #[.i c,.i d,.i e]] w R:=aZ X [] h
end print_sortText
namespace print_capped
abbrev X:Fx:=⟨aB,Tryz.f70,[],[]⟩
def ok (a:Int) (w:aA) (R:aT) (h:R (aJ (.i (if 65537<a then 65537 else a))) w):aH aB rG #[.i a] w R:=aZ X [] h
end print_capped
namespace bits_mask
abbrev X:Fx:=⟨aB,Tryz.f92,[],[]⟩
def ok (a:Int) (w:aA) (R:aT) (h:¬(aC .i64 (64 - a))<0/\R (aJ (.u (Int.fdiv 18446744073709551615 (2^(min (aF (aC .i64 (64 - a))) (IntKind.bits .u64)))))) w):aH aB sj #[.i a] w R:=aZ X [] h
end bits_mask
namespace bits_Valid
abbrev X:Fx:=⟨aB,Tryz.f91,[],[]⟩
abbrev P0:Ps:=[]
abbrev S0 (w:aA) (R:aT):Prop:=
 R (aJ (.i 1)) w
def fH:=bX X [] (bV [0,1,1,1,1]) P0 S0
def ok (c a:Int) (w:aA) (R:aT) (h:aW (aR (a<1)) (S0 w R) (aW (aR (a>64)) (S0 w R) (aav sj #[.i a] w λb d=>aW (aR (c>b)) (R (aJ (.i 5)) d) (R (aJ (.i 0)) d)))):aH aB tS #[.u c,.i a] w R:=aZ X [fH] h
end bits_Valid
namespace bits_Text
abbrev X:Fx:=⟨aB,Tryz.f67,[(13,ls [0,1,2,3,4,5,6,7,8,9,10,11,12,13,14,15])],[]⟩
abbrev P0:Ps:=[(0,.v [.U]),(8,.v [.I]),(9,.v [.I]),(10,.v [.s]),(31,.v [.I]),(32,.v [.I])]
def L2 (f a e:Int) (b:Sl) (c d:Int) (w:aA) (R:aT):Prop:=dD P0 0 (X.Sem (bV [0,1,1,1,7])) f a e b c d w R
def Ea:=gI X (bV [0,1,1,1,7]) P0 L2
def xP:∀(g a e:Int) (d:Sl) (f b:Int) (w:aA) (R:aT) (h:aW (aR (b<f)) (wy w λo=>¬(aC .i64 ((aC .i64 ((aC .i64 (e - 1)) - b)) *a))<0/\aav sj #[.i a] o λj m=>(0:Int)<=(za .u64 (Int.fdiv g (2^(min (aF (aC .i64 ((aC .i64 ((aC .i64 (e - 1)) - b)) *a))) (IntKind.bits .u64)))) j)/\∃c:UInt8,(aE #[48,49,50,51,52,53,54,55,56,57,97,98,99,100,101,102])[aF (za .u64 (Int.fdiv g (2^(min (aF (aC .i64 ((aC .i64 ((aC .i64 (e - 1)) - b)) *a))) (IntKind.bits .u64)))) j)]? =some c/\gi m (.cells #[.int .u8 ((c.toNat:Nat):Int)] bS) λp=>
 ∃(k:Sl) (n:aA),Sem.run aB (Builtin.append_ #[bB,bB] bB #[d.v,.slice (some (nb m)) 1 1]) p=.ok (k.v) n/\L2 g a e k f (aC .i64 (b+1)) n R) (∃l:ByteArray,Sem.run aB (Go.convert bB cG (d.v)) w=.ok (.string l) w/\R (aJ (.tuple #[.string l,.i 0])) w)),L2 g a e d f b w R:=mp (dV (X:=X) [Ea] (bV [0,1,1,1,7]) P0)
abbrev P1:Ps:=[(0,.v [.U]),(7,.v [.Y]),(8,.v [.I]),(9,.v [.I])]
abbrev S1 (j a b e:Int) (w:aA) (R:aT):Prop:=
 ∃(c:Sl) (f:aA),Sem.run aB (Instr.makeSlice bB (.i 0) (.i (aC .i64 (e+2)))) w=.ok (c.v) f/\gi f (.cells #[.int .u8 35,.int .u8 a] bS) λk=>
 ∃(d:Sl) (g:aA),Sem.run aB (Builtin.append_ #[bB,bB] bB #[c.v,.slice (some (nb f)) 2 2]) k=.ok (d.v) g/\L2 j b e d e 0 g R
def gN:=bX X [Ea] (bV [5]) P1 S1
abbrev P2:Ps:=[(0,.v [.U]),(1,.v [.I]),(7,.v [.Y]),(8,.v [.I])]
abbrev S0 (d c b a:Int) (w:aA) (R:aT):Prop:=
 a≠0/\S1 d b a (aC .i64 (Int.tdiv c a)) w R
def fH:=bX X [gN,Ea] (bV [4]) P2 S0
def ok (b a:Int) (w:aA) (R:aT) (h:Dv tS #[.u b,.i a] w λc d=>aW (c !=0) (R (aJ (.tuple #[.s0,.i c])) d) (aW ((Int.tmod a 4)==0) (S0 b a 120 4 d R) (S0 b a 98 1 d R))):aH aB vq #[.u b,.i a] w R:=aZ X [fH,gN,Ea] h
end bits_Text
namespace lexer_bare
abbrev X:Fx:=⟨aB,Tryz.f93,[],[]⟩
def ok (a:Int) (w:aA) (R:aT) (h:aW (aR (a>=32)) (aW (aR (a<=126)) (aW (a !=34) (R (aJ (.bool (a !=92))) w) (R (aJ (.bool false)) w)) (R (aJ (.bool false)) w)) (R (aJ (.bool false)) w)):aH aB q7 #[.int .u8 a] w R:=aZ X [] h
end lexer_bare
namespace lexer_Quote
abbrev X:Fx:=⟨aB,Tryz.f68,[(19,ls [0,1,2,3,4,5,6,7,8,9])],[]⟩
abbrev P0:Ps:=[(0,.v [.st]),(4,.v [.I]),(5,.v [.I])]
def L0 (c:ByteArray) (b a:Int) (w:aA) (R:aT):Prop:=dD P0 0 (X.Sem (bV [0,1,1,1,2])) c b a w R
def fI:=gI X (bV [0,1,1,1,2]) P0 L0
abbrev S2 (c:ByteArray) (b a:Int) (w:aA) (R:aT):Prop:=
 L0 c b (aC .i64 (a+1)) w R
def fU:=bX X [fI] (bV [2,2,1,1,2]) P0 S2
abbrev S3 (c:ByteArray) (b a:Int) (w:aA) (R:aT):Prop:=
 S2 c (aC .i64 (b+2)) a w R
def iG:=bX X [fU,fI] (bV [0,1,3,1,1,2,1,2,1,1,2]) P0 S3
abbrev P1:Ps:=[(0,.v [.st]),(4,.v [.I]),(5,.v [.I]),(6,.v [.Y])]
abbrev S1 (c:ByteArray) (b a e:Int) (w:aA) (R:aT):Prop:=
 Dj q7 #[.int .u8 e] w λf d=>aW f (S2 c (aC .i64 (b+1)) a d R) (aW (e==34) (S3 c b a d R) (aW (e==92) (S3 c b a d R) (S2 c (aC .i64 (b+4)) a d R)))
def gN:=bX X [iG,fU,fI] (bV [1,2,1,2,1,1,2]) P1 S1
abbrev P2:Ps:=[(0,.v [.st]),(7,.v [.s]),(8,.v [.I])]
def L5 (c:ByteArray) (a:Sl) (b:Int) (w:aA) (R:aT):Prop:=dD P2 0 (X.Sem (bV [0,1,1,1,6])) c a b w R
def uK:=gI X (bV [0,1,1,1,6]) P2 L5
abbrev S7 (c:ByteArray) (a:Sl) (b:Int) (w:aA) (R:aT):Prop:=
 L5 c a (aC .i64 (b+1)) w R
def uC:=bX X [uK,gN,iG,fU,fI] (bV [2,2,1,1,6]) P2 S7
abbrev P3:Ps:=[(0,.v [.st]),(7,.v [.s]),(8,.v [.I]),(9,.v [.Y])]
abbrev S8 (f:ByteArray) (c:Sl) (e d:Int) (w:aA) (R:aT):Prop:=
 gi w (.cells #[.int .u8 92,.int .u8 d] bS) λg=>
 ∃(a:Sl) (b:aA),Sem.run aB (Builtin.append_ #[bB,bB] bB #[c.v,.slice (some (nb w)) 2 2]) g=.ok (a.v) b/\S7 f a e b R
def BF:=bX X [uC,uK,gN,iG,fU,fI] (bV [0,1,3,1,1,2,1,2,1,1,6]) P3 S8
abbrev S6 (g:ByteArray) (e:Sl) (f a:Int) (w:aA) (R:aT):Prop:=
 Dj q7 #[.int .u8 a] w λk d=>aW k (gi d (.cells #[.int .u8 a] bS) λo=>
 ∃(j:Sl) (l:aA),Sem.run aB (Builtin.append_ #[bB,bB] bB #[e.v,.slice (some (nb d)) 1 1]) o=.ok (j.v) l/\S7 g j f l R) (aW (a==34) (S8 g e f a d R) (aW (a==92) (S8 g e f a d R) (wy d λm=>(0:Int)<=(Int.fdiv a (2^(4)))/\∃b:UInt8,(aE #[48,49,50,51,52,53,54,55,56,57,97,98,99,100,101,102])[aF (Int.fdiv a (2^(4)))]? =some b/\(0:Int)<=(za .u8 a 15)/\∃c:UInt8,(aE #[48,49,50,51,52,53,54,55,56,57,97,98,99,100,101,102])[aF (za .u8 a 15)]? =some c/\gi m (.cells #[.int .u8 92,.int .u8 120,.int .u8 ((b.toNat:Nat):Int),.int .u8 ((c.toNat:Nat):Int)] bS) λp=>
 ∃(i:Sl) (n:aA),Sem.run aB (Builtin.append_ #[bB,bB] bB #[e.v,.slice (some (nb m)) 4 4]) p=.ok (i.v) n/\S7 g i f n R)))
def sE:=bX X [BF,uC,uK,gN,iG,fU,fI] (bV [1,2,1,2,1,1,6]) P3 S6
def Ln:∀(c:ByteArray) (g:Sl) (b:Int) (w:aA) (R:aT) (h:aW (aR (b<((c.size:Nat):Int))) ((0:Int)<=b/\∃a:UInt8,c[aF b]? =some a/\S6 c g b ((a.toNat:Nat):Int) w R) (gi w (.cells #[.int .u8 34] bS) λj=>
 ∃(e:Sl) (d:aA),Sem.run aB (Builtin.append_ #[bB,bB] bB #[g.v,.slice (some (nb w)) 1 1]) j=.ok (e.v) d/\∃f:ByteArray,Sem.run aB (Go.convert bB cG (e.v)) d=.ok (.string f) d/\R (aJ (.tuple #[.string f,.i 0])) d)),L5 c g b w R:=mp (dV (X:=X) [sE,BF,uC,uK,gN,iG,fU,fI] (bV [0,1,1,1,6]) P2)
abbrev P4:Ps:=[(0,.v [.st]),(4,.v [.I])]
abbrev S4 (f:ByteArray) (d:Int) (w:aA) (R:aT):Prop:=
 aW (aR (d>65536)) (R (aJ (.tuple #[.s0,.i 4])) w) (∃(a:Sl) (c:aA),Sem.run aB (Instr.makeSlice bB (.i 0) (.i d)) w=.ok (a.v) c/\gi c (.cells #[.int .u8 34] bS) λg=>
 ∃(b:Sl) (e:aA),Sem.run aB (Builtin.append_ #[bB,bB] bB #[a.v,.slice (some (nb c)) 1 1]) g=.ok (b.v) e/\L5 f b 0 e R)
def ny:=bX X [sE,BF,uC,uK,gN,iG,fU,fI] (bV [3]) P4 S4
def dE:∀(b:ByteArray) (d c:Int) (w:aA) (R:aT) (h:aW (aR (c<((b.size:Nat):Int))) (aW (aR (d<=65536)) ((0:Int)<=c/\∃a:UInt8,b[aF c]? =some a/\S1 b d c ((a.toNat:Nat):Int) w R) (S4 b d w R)) (S4 b d w R)),L0 b d c w R:=mp (dV (X:=X) [ny,sE,BF,uC,uK,gN,iG,fU,fI] (bV [0,1,1,1,2]) P0)
def ok (a:ByteArray) (w:aA) (R:aT) (h:L0 a 2 0 w R):aH aB qh #[.string a] w R:=aZ X [ny,sE,BF,uC,uK,gN,iG,fU,fI] h
end lexer_Quote
namespace print_operationWords
abbrev X:Fx:=⟨aB,Tryz.f46,[],[]⟩
def ok (w:aA) (R:aT) (h:gi w (.map #[] 0) λw1=>
 ∃(w2:aA),Sem.run aB (Instr.mapUpdate bJ (.map (some w.heap.size)) (.i 4) (.string (aE #[110,111,116]))) w1=.ok () w2/\∃(w3:aA),Sem.run aB (Instr.mapUpdate bJ (.map (some w.heap.size)) (.i 5) (.string (aE #[110,101,103]))) w2=.ok () w3/\∃(w4:aA),Sem.run aB (Instr.mapUpdate bJ (.map (some w.heap.size)) (.i 6) (.string (aE #[97,110,100]))) w3=.ok () w4/\∃(w5:aA),Sem.run aB (Instr.mapUpdate bJ (.map (some w.heap.size)) (.i 7) (.string (aE #[111,114]))) w4=.ok () w5/\∃(w6:aA),Sem.run aB (Instr.mapUpdate bJ (.map (some w.heap.size)) (.i 8) (.string (aE #[120,111,114]))) w5=.ok () w6/\∃(w7:aA),Sem.run aB (Instr.mapUpdate bJ (.map (some w.heap.size)) (.i 9) (.string (aE #[97,100,100]))) w6=.ok () w7/\∃(w8:aA),Sem.run aB (Instr.mapUpdate bJ (.map (some w.heap.size)) (.i 10) (.string (aE #[109,117,108]))) w7=.ok () w8/\∃(w9:aA),Sem.run aB (Instr.mapUpdate bJ (.map (some w.heap.size)) (.i 11) (.string (aE #[117,100,105,118]))) w8=.ok () w9/\∃(a:aA),Sem.run aB (Instr.mapUpdate bJ (.map (some w.heap.size)) (.i 12) (.string (aE #[117,114,101,109]))) w9=.ok () a/\∃(b:aA),Sem.run aB (Instr.mapUpdate bJ (.map (some w.heap.size)) (.i 13) (.string (aE #[115,104,108]))) a=.ok () b/\∃(c:aA),Sem.run aB (Instr.mapUpdate bJ (.map (some w.heap.size)) (.i 14) (.string (aE #[108,115,104,114]))) b=.ok () c/\∃(d:aA),Sem.run aB (Instr.mapUpdate bJ (.map (some w.heap.size)) (.i 15) (.string (aE #[97,115,104,114]))) c=.ok () d/\∃(e:aA),Sem.run aB (Instr.mapUpdate bJ (.map (some w.heap.size)) (.i 16) (.string (aE #[117,108,116]))) d=.ok () e/\∃(f:aA),Sem.run aB (Instr.mapUpdate bJ (.map (some w.heap.size)) (.i 17) (.string (aE #[115,108,116]))) e=.ok () f/\∃(g:aA),Sem.run aB (Instr.mapUpdate bJ (.map (some w.heap.size)) (.i 18) (.string (aE #[101,113]))) f=.ok () g/\∃(j:aA),Sem.run aB (Instr.mapUpdate bJ (.map (some w.heap.size)) (.i 19) (.string (aE #[105,116,101]))) g=.ok () j/\∃(k:aA),Sem.run aB (Instr.mapUpdate bJ (.map (some w.heap.size)) (.i 20) (.string (aE #[99,111,110,99,97,116]))) j=.ok () k/\∃(l:aA),Sem.run aB (Instr.mapUpdate bJ (.map (some w.heap.size)) (.i 21) (.string (aE #[101,120,116,114,97,99,116]))) k=.ok () l/\∃(m:aA),Sem.run aB (Instr.mapUpdate bJ (.map (some w.heap.size)) (.i 22) (.string (aE #[122,101,120,116]))) l=.ok () m/\∃(n:aA),Sem.run aB (Instr.mapUpdate bJ (.map (some w.heap.size)) (.i 23) (.string (aE #[115,101,120,116]))) m=.ok () n/\∃(o:aA),Sem.run aB (Instr.mapUpdate bJ (.map (some w.heap.size)) (.i 24) (.string (aE #[115,101,108,101,99,116]))) n=.ok () o/\∃(p:aA),Sem.run aB (Instr.mapUpdate bJ (.map (some w.heap.size)) (.i 25) (.string (aE #[115,116,111,114,101]))) o=.ok () p/\∃(q:aA),Sem.run aB (Instr.mapUpdate bJ (.map (some w.heap.size)) (.i 26) (.string (aE #[100,105,102,102]))) p=.ok () q/\∃(r:aA),Sem.run aB (Instr.mapUpdate bJ (.map (some w.heap.size)) (.i 27) (.string (aE #[108,101,110]))) q=.ok () r/\∃(s:aA),Sem.run aB (Instr.mapUpdate bJ (.map (some w.heap.size)) (.i 28) (.string (aE #[98,121,116,101]))) r=.ok () s/\∃(t:aA),Sem.run aB (Instr.mapUpdate bJ (.map (some w.heap.size)) (.i 29) (.string (aE #[99,97,116]))) s=.ok () t/\∃(u:aA),Sem.run aB (Instr.mapUpdate bJ (.map (some w.heap.size)) (.i 30) (.string (aE #[115,117,98]))) t=.ok () u/\∃(v:aA),Sem.run aB (Instr.mapUpdate bJ (.map (some w.heap.size)) (.i 31) (.string (aE #[102,105,110,100]))) u=.ok () v/\∃(x:aA),Sem.run aB (Instr.mapUpdate bJ (.map (some w.heap.size)) (.i 32) (.string (aE #[114,101,112,108,97,99,101]))) v=.ok () x/\∃(y:aA),Sem.run aB (Instr.mapUpdate bJ (.map (some w.heap.size)) (.i 33) (.string (aE #[105,110]))) x=.ok () y/\∃(z:aA),Sem.run aB (Instr.mapUpdate bJ (.map (some w.heap.size)) (.i 34) (.string (aE #[99,104,97,114]))) y=.ok () z/\R (aJ (.map (some w.heap.size))) z):aH aB lD #[] w R:=aZ X [] h
end print_operationWords
namespace print_nodeHead
abbrev X:Fx:=⟨aB,Tryz.f47,[(15,ls [0,1,2,6,7,3,4,5,8,9,10,11])],[2]⟩
abbrev P0:Ps:=[(9,.v [.st])]
abbrev gW (a:ByteArray) (w:aA) (R:aT):Prop:=
 R (aJ (.string a)) w
def gN:=bX X [] (bV [4]) P0 gW
abbrev P1:Ps:=[(2,.l [.I,.s,.I,.I,.U,.st,.I,.I,.I] bE),(9,.v [.st])]
abbrev fN (d:Nat) (e:Int) (f:Sl) (b g j:Int) (k:ByteArray) (l m n:Int) (c:ByteArray) (w:aA) (R:aT):Prop:=
 oW [d] jq #[.i b] w λa o=>¬((((aE #[32]).size+a.size:Nat):Int)>IntKind.i64.max)/\¬(((c.size+((aE #[32])++a).size:Nat):Int)>IntKind.i64.max)/\gW (c++((aE #[32])++a)) o R
def fU:=bX X [gN] (bV [0,1,3,1,1,1,3]) P1 fN
abbrev P2:Ps:=[(2,.l [.I,.s,.I,.I,.U,.st,.I,.I,.I] bE),(9,.v [.st]),(52,.v [.I])]
abbrev ir (f:Nat) (g:Int) (i:Sl) (j k l:Int) (b:ByteArray) (m n o:Int) (c:ByteArray) (d:Int) (w:aA) (R:aT):Prop:=
 aW (d==33) (Ho [f] qh #[.string b] w λa e p=>¬((((aE #[32]).size+a.size:Nat):Int)>IntKind.i64.max)/\¬(((c.size+((aE #[32])++a).size:Nat):Int)>IntKind.i64.max)/\gW (c++((aE #[32])++a)) p R) (gW c w R)
def iG:=bX X [fU,gN] (bV [4,1,1,1,3]) P2 ir
abbrev eX (l:Nat) (a:Int) (d:Sl) (b c e:Int) (f:ByteArray) (g j k:Int) (m:ByteArray) (w:aA) (R:aT):Prop:=
 aW (a==21) (loc [l] w λp=>oW [l] jq #[.i b] p λn q=>¬((((aE #[32]).size+n.size:Nat):Int)>IntKind.i64.max)/\¬(((((aE #[32])++n).size+(aE #[32]).size:Nat):Int)>IntKind.i64.max)/\oW [l] jq #[.i c] q λo r=>¬((((((aE #[32])++n)++(aE #[32])).size+o.size:Nat):Int)>IntKind.i64.max)/\¬(((m.size+((((aE #[32])++n)++(aE #[32]))++o).size:Nat):Int)>IntKind.i64.max)/\gW (m++((((aE #[32])++n)++(aE #[32]))++o)) r R) (aW (a==22) (aW (a==22) (fN l a d b c e f g j k m w R) (ir l a d b c e f g j k m a w R)) (aW (a==23) (aW (a==23) (fN l a d b c e f g j k m w R) (ir l a d b c e f g j k m a w R)) (aW (a==28) (fN l a d b c e f g j k m w R) (ir l a d b c e f g j k m a w R))))
def fH:=bX X [iG,fU,gN] (bV [3]) P1 eX
def dQ (a:Int) (k:Sl) (l m e:Int) (b:ByteArray) (f c g:Int) (d:Option Nat) (w:aA) (R:aT) (h:cB [] w λp j=>
 aW (a==0) (R (aJ (.string b)) j) (aW (a==1) (Ho [p] vq #[.u e,.i c] j λq s x=>R (aJ (.string q)) x) (aW (a==2) (Ho [p] qh #[.string b] j λr t y=>R (aJ (.string r)) y) (aW (a==3) (oW [p] pZ #[.agg #[.i f,.i c,.i g]] j λn z=>¬((((aE #[40,122,101,114,111,32]).size+n.size:Nat):Int)>IntKind.i64.max)/\¬(((((aE #[40,122,101,114,111,32])++n).size+(aE #[41]).size:Nat):Int)>IntKind.i64.max)/\R (aJ (.string (((aE #[40,122,101,114,111,32])++n)++(aE #[41])))) z) (∃o:ByteArray,Sem.run aB (Instr.lookup bJ (.map d) (.i a) false) j=.ok (.string o) j/\¬((((aE #[40]).size+o.size:Nat):Int)>IntKind.i64.max)/\eX p a k l m e b f c g ((aE #[40])++o) j R))))):aH aB pY #[.agg #[.i a,k.v,.i l,.i m,.u e,.string b,.i f,.i c,.i g],.map d] w R:=aZ X [fH,iG,fU,gN] h
end print_nodeHead
namespace print_printer_measure_1
abbrev X:Fx:=⟨aB,Tryz.f69,[],[]⟩
def ok (a c:Int) (b:Addr) (w:aA) (R:aT) (h:(0:Int)<=a/\a<((4:Nat):Int)/\∃e:Int,w.cell? (b.add (aF a *1))=some (.i e)/\
 Dv rG #[.i (aC .i64 (e+c))] w λd f=>(0:Int)<=a/\a<((4:Nat):Int)/\cY f (b.add (aF a *1)) (.i d) λg=>
 R (aJ (.tuple #[])) g):aH aB dC #[.i a,.i c,.pointer (some b)] w R:=aZ X [] h
end print_printer_measure_1
namespace print_printer_measure
abbrev X:Fx:=⟨aB,Tryz.f48,[],[5]⟩
abbrev P0:Ps:=[(0,.v [.r]),(1,.v [.I]),(11,.v [.I]),(78,.v [.a 4,.I,.I,.I,.I]),(79,.v [.I])]
def mC (i:Addr) (g a b c d e f:Int) (w:aA) (R:aT):Prop:=dD P0 0 (X.Sem (bV [0,1,1,1,6])) i g a b c d e f w R
def kA:=gI X (bV [0,1,1,1,6]) P0 mC
def dR:∀(o:Addr) (k c d e f g b:Int) (w:aA) (R:aT) (h:aW (aR (b<4)) ((0:Int)<=b/\b<((4:Nat):Int)/\∃j:Int,(#[.i d,.i e,.i f,.i g]:Array Value)[aF b]? =some (.i j)/\Dv rG #[.i (aC .i64 (c+j))] w λp q=>mC o k p d e f g (aC .i64 (b+1)) q R) (∃l:Sl,w.cell? (o.add 2)=some (l.v)/\
 bY l k λm=>cY w (m.add (aF k *1)) (.i c) λr=>
 R (aJ (.tuple #[])) r)),mC o k c d e f g b w R:=mp (dV (X:=X) [kA] (bV [0,1,1,1,6]) P0)
abbrev P1:Ps:=[(0,.v [.r]),(1,.v [.I]),(6,.v [.r])]
abbrev eX (g:Addr) (f:Int) (a:Addr) (w:aA) (R:aT):Prop:=
 aa2 w a λb c d e=>mC g f 0 b c d e 0 w R
def fH:=bX X [kA] (bV [5]) P1 eX
abbrev P2:Ps:=[(0,.v [.r]),(1,.v [.I]),(6,.v [.r]),(7,.v [.g dC 0 1,.r]),(8,.v [.I]),(41,.v [.s]),(42,.v [.I]),(43,.v [.I])]
def OR (i:Addr) (g:Int) (c a:Addr) (b:Int) (d:Sl) (e f:Int) (w:aA) (R:aT):Prop:=dD P2 0 (X.Sem (bV [0,1,1,1,1,1,3,2,4])) i g c a b d e f w R
def Ea:=gI X (bV [0,1,1,1,1,1,3,2,4]) P2 OR
abbrev ir (i:Addr) (g:Int) (c a:Addr) (b:Int) (d:Sl) (e f:Int) (w:aA) (R:aT):Prop:=
 OR i g c a b d e (aC .i64 (f+1)) w R
def iG:=bX X [Ea,fH,kA] (bV [3,2,1,1,1,1,3,2,4]) P2 ir
def uP:∀(k:Addr) (j:Int) (d b:Addr) (c:Int) (g:Sl) (l f:Int) (w:aA) (R:aT) (h:aW (aR (f<l)) (bY g f λr=>∃e:Int,w.cell? (r.add (aF f *1))=some (.i e)/\
 vO dC #[.i 1,.i 1,.pointer (some b)] w λy=>∃m:Sl,y.cell? (k.add 2)=some (m.v)/\
 bY m e λs=>∃x:Int,y.cell? (s.add (aF e *1))=some (.i x)/\
 vO dC #[.i 2,.i x,.pointer (some b)] y λz=>∃o:Sl,z.cell? (k.add 3)=some (o.v)/\
 bY o e λt=>∃p:Int,z.cell? (t.add (aF e *1))=some (.i p)/\
 ir k j d b (if c<p then p else c) g l f z R) (vO dC #[.i 3,.i 1,.pointer (some b)] w λw7=>∃q:Sl,w7.cell? (k.add 3)=some (q.v)/\
 bY q j λu=>cY w7 (u.add (aF j *1)) (.i (aC .i64 (c+1))) λw8=>
 eX k j d w8 R)),OR k j d b c g l f w R:=mp (dV (X:=X) [iG,Ea,fH,kA] (bV [0,1,1,1,1,1,3,2,4]) P2)
def dQ (o:Addr) (c d:Int) (b:Sl) (e f g:Int) (j:ByteArray) (k l m:Int) (w:aA) (R:aT) (h:cB [] w λb5 p=>
 gi p (.cells #[.i 0,.i 0,.i 0,.i 0] ng) λz=>
 ∃q:Sl,z.cell? (o.add 1)=some (q.v)/\
 bY q c λt=>∃y:ByteArray,z.cell? (t.add (aF c *1))=some (.string y)/\
 Qc [b5] dC #[.i 0,.i ((y.size:Nat):Int),.pointer (some (nb p))] z λs=>aW (d==3) (∃r:Sl,s.cell? (o.add 3)=some (r.v)/\
 bY r c λx=>cY s (x.add (aF c *1)) (.i 1) λw4=>kept [b5] s w4/\
 eX o c (nb p) w4 R) (aW (aR (((b.n:Nat):Int)>0)) (OR o c (nb p) (nb p) 0 b ((b.n:Nat):Int) 0 s R) (eX o c (nb p) s R))):aH aB kJ #[.pointer (some o),.i c,.agg #[.i d,b.v,.i e,.i f,.u g,.string j,.i k,.i l,.i m]] w R:=aZ X [iG,Ea,fH,kA] h
end print_printer_measure
namespace print_newPrinter
def C0:Code:=(Tryz.f27.body).getD .skip
def C1:=C0.sn
def C2:=C1.sn
def C3:=C2.sn
def C4:=C3.sn
def C5:=C4.fs
def C6:=C5.sn
def C7:=C6.fs
def C8:=C7.fs
def C9:=C4.sn
abbrev Q0 (R:aT):OQ:=(Exit.then (Dg aB (cx 47) C9 (bodyPost aB Tryz.f27 R)) (bodyPost aB Tryz.f27 R))
abbrev Q1 (R:aT):OQ:=(Exit.inBlock 0 (Q0 R))
def L1 (e:Option Addr) (a:Option Nat) (b:Sl) (c d:Int) (w:aA) (R:aT):Prop:=LP aB (cx 47) C8 (Q1 R) [(4,.pointer e),(5,.map a),(25,b.v),(26,.i c),(27,.i d)] w
def O' (E:Env) (w:aA) (R:aT):Prop:=W.G1 (Env.get? E 4) λe=>W.Pu (Env.get? E 5) λa=>W.asSlice (Env.get? E 25) λb=>W.asInt .i64 (Env.get? E 26) λc=>W.asInt .i64 (Env.get? E 27) λd=>L1 e a b c d w R
def GS:LOk aB 47 O' C8 Q1:=by
 intro R E w h
 obtain ⟨p4,FH,BV⟩:=W.Bh h
 obtain ⟨adi,Un,BW⟩:=W.J2 BV
 obtain ⟨t25,acN,FA⟩:=W.xV BW
 obtain ⟨t26,acO,HN⟩:=W.mK FA
 obtain ⟨t27,acP,QK⟩:=W.mK HN
 intro a ha
 exact QK a (ha.cons FH (ha.cons Un (ha.cons acN (ha.cons acO (ha.cons acP ha.nil)))))
def Nb:=C8.sn
def JQ:=Nb.sn
def SJ:=JQ.fs
def SK:=SJ.fs
def SM:=SK.sn
def VU:=SM.sn
def OP:=JQ.sn
def SN:=Nb.fs
def Th:=SN.fs
def VV:=SN.sn
def O5:=C9.sn
def nk (k:Option Addr) (d:Option Nat) (f:Sl) (j b:Int) (w:aA) (R:aT) (h:aW (aR (b<j)) (bY f b λp=>Ah w (p.add (aF b *9)) λq r s t x y z aa ab=>gi w (.cells #[.i 0,.slice none 0 0,.i 0,.i 0,.u 0,.s0,.i 0,.i 0,.i 0] bE) λw2=>
 abr w2 (nb w) (.i q) (r.v) (.i s) (.i t) (.u x) (.string y) (.i z) (.i aa) (.i ab) λbb=>wy bb λo=>gT k λl=>∃m:Sl,o.cell? (l.add 1)=some (m.v)/\
 Ah o (nb w) λac ad ae af ag ah ai aj ak=>Dw pY #[.agg #[.i ac,ad.v,.i ae,.i af,.u ag,.string ah,.i ai,.i aj,.i ak],.map d] o λaz ax=>ax.cell? (l.add 1)=some (m.v)/\bY m b λal=>cY ax (al.add (aF b *1)) (.string az) λay=>
 Ah ay (nb w) λam an ao ap aq ar au av aw=>vO kJ #[.pointer k,.i b,.agg #[.i am,an.v,.i ao,.i ap,.u aq,.string ar,.i au,.i av,.i aw]] ay λbc=>L1 k d f j (aC .i64 (b+1)) bc R) (R (aJ (.pointer k)) w)):L1 k d f j b w R:=
 LP.step (n:=(cx 47)) (c:=C8) (E:=[(4,.pointer k),(5,.map d),(25,f.v),(26,.i j),(27,.i b)]) (w:=w) (sr C8 (show (λ(E:Env) (w:aA)=>ue aB C8 (λE w=>nN (Env.val E (.tmp 28)) (ue aB SK (λE w=>sdK aB SM [0,1,2,3,4,5,6,7,8,9] (λE w=>W0 aB VU (λE w=>W0 aB OP (λE w=>O' E w R) E w) E w) E w) E w) (ue aB C9 (λE w=>pB aB Tryz.f27 E w (λv=>R (aJ v) w)) E w)) E w) [(4,.pointer k),(5,.map d),(25,f.v),(26,.i j),(27,.i b)] w from mp h) λ_ _ e=>(sq Nb (cn SN e (λe=>(sk Th λa g=>nx g (sq JQ (bk SJ 1 (by kernel_rfl) (sr SK e λ_ _ e=>(sd SM (by kernel_rfl) e λ_ _ e=>(rg VU (by kernel_rfl) e λ_ _ a g e=>nx g (rg OP (by kernel_rfl) e λ_ _ a g e=>GS R _ _ e a g)))))))) (λe=>(xt VV 0 (by kernel_rfl) λa g=>nx g (sr C9 e λ_ _ e=>(rt O5 λa g=>iM g e)))))))
abbrev Q2 (R:aT):OQ:=(bodyPost aB Tryz.f27 R)
abbrev S0 (d:Addr) (e:Option Addr) (w:aA) (R:aT):Prop:=
 ab5 lD #[] w λb c=>∃a:Sl,c.cell? (d.add 0)=some (a.v)/\
 L1 e b a ((a.n:Nat):Int) 0 c R
def zW (E:Env) (w:aA) (R:aT):Prop:=W.gY (Env.get? E 1) λa=>W.G1 (Env.get? E 4) λb=>S0 a b w R
def xO:KOk aB 47 zW C3 Q2:=by
 intro R E w h
 obtain ⟨g1,hq1,BV⟩:=W.cJ h
 obtain ⟨p4,FH,BW⟩:=W.Bh BV
 exact λa c=>WP.at (E:=[(1,.pointer (some g1)),(4,.pointer p4)]) (sr C3 (K:=λE w=>ue aB C5 (λE w=>O' E w R) E w) (mp BW) λ_ _ b=>(sq C4 (sr C5 b λ_ _ b=>(bk C6 0 (by kernel_rfl) (lp C7 (by kernel_rfl) (GS R _ _ b)))))) (c.cons hq1 (c.cons FH c.nil))
def ok (a:Sl) (w:aA) (R:aT) (h:gi w (.cells #[a.v] cM) λe=>
 ∃d:Sl,e.cell? ((nb w).add 0)=some (d.v)/\
 Zo aB C2 (λE w=>zW E w R) [(3,.i ((d.n:Nat):Int)),(10,.i ((d.n:Nat):Int)),(9,d.v),(8,.pointer (some ((nb w).add 0))),(2,.pointer none),(1,.pointer (some (nb w))),(0,.agg #[a.v])] e):aH aB oF #[.agg #[a.v]] w R:=
 jR (R:=R) (fn:=Tryz.f27) (c:=C0) (args:=[.agg #[a.v]]) (by kernel_rfl) (by kernel_rfl) (by kernel_rfl) (sr C0 (show (λ(E:Env) (w:aA)=>ue aB C0 (λE w=>ue aB C1 (λE w=>Zo aB C2 (λE w=>zW E w R) E w) E w) E w) (qN 0 [.agg #[a.v]]) w from mp h) λ_ _ b=>(sr C1 b λ_ _ b=>(si C2 (by kernel_rfl) b λ_ _ b=>(xO R _ _ b))))
end print_newPrinter
namespace print_printer_write
abbrev X:Fx:=⟨aB,Tryz.f29,[],[]⟩
abbrev P0:Ps:=[(0,.v [.r]),(1,.v [.r]),(6,.v [.s]),(27,.v [.s]),(28,.v [.I]),(29,.v [.I])]
def L0 (f e:Addr) (a b:Sl) (c d:Int) (w:aA) (R:aT):Prop:=dD P0 0 (X.Sem (bV [0,1,1,1,2])) f e a b c d w R
def fI:=gI X (bV [0,1,1,1,2]) P0 L0
def dE:∀(k e:Addr) (c d:Sl) (f b:Int) (w:aA) (R:aT) (h:aW (aR (b<f)) (bY d b λg=>∃j:Int,w.cell? (g.add (aF b *1))=some (.i j)/\
 Yc gO #[.pointer (some e),.int .u8 32] w λp l=>vO jC #[.pointer (some k),.pointer (some e),.i j] l λm=>L0 k e c d f (aC .i64 (b+1)) m R) (aW (aR (((c.n:Nat):Int)>0)) (Yc gO #[.pointer (some e),.int .u8 41] w λq o=>R (aJ (.tuple #[])) o) (R (aJ (.tuple #[])) w))),L0 k e c d f b w R:=mp (dV (X:=X) [fI] (bV [0,1,1,1,2]) P0)
def ok (f l:Addr) (b:Int) (w:aA) (R:aT) (h:∃d:Sl,w.cell? (f.add 1)=some (d.v)/\
 bY d b λg=>∃k:ByteArray,w.cell? (g.add (aF b *1))=some (.string k)/\
 ab8 iL #[.pointer (some l),.string k] w λo p m=>∃e:Sl,m.cell? ((f.add 0).add 0)=some (e.v)/\
 bY e b λj=>∃c:Sl,m.cell? ((j.add (aF b *9)).add 1)=some (c.v)/\
 L0 f l c c ((c.n:Nat):Int) 0 m R):aH aB jC #[.pointer (some f),.pointer (some l),.i b] w R:=aZ X [fI] h
end print_printer_write
namespace print_Term
abbrev X:Fx:=⟨aB,Tryz.f12,[],[2]⟩
abbrev P0:Ps:=[]
abbrev eX (w:aA) (R:aT):Prop:=
 R (aJ (.tuple #[.s0,.i 7])) w
def fH:=bX X [] (bV [0,1,1,1,2]) P0 eX
abbrev gW (w:aA) (R:aT):Prop:=
 R (aJ (.tuple #[.s0,.i 4])) w
def gN:=bX X [fH] (bV [0,1,1,1,4]) P0 gW
def dQ (d:Sl) (b:Int) (w:aA) (R:aT) (h:cB [] w λf w1=>
 qf [f] tV #[.agg #[d.v]] w1 λt s=>aW (t !=0) (R (aJ (.tuple #[.s0,.i t])) s) (aW (aR (b<0)) (eX s R) (aW (aR (b>=((d.n:Nat):Int))) (eX s R) (ZZ [f] oF #[.agg #[d.v]] s λe c=>gT e λl=>∃g:Sl,c.cell? (l.add 3)=some (g.v)/\
 bY g b λm=>∃u:Int,c.cell? (m.add (aF b *1))=some (.i u)/\
 aW (aR (u>64)) (gW c R) (gT e λo=>∃j:Sl,c.cell? (o.add 2)=some (j.v)/\
 bY j b λp=>∃x:Int,c.cell? (p.add (aF b *1))=some (.i x)/\
 aW (aR (x>65536)) (gW c R) (gi c (.cells #[.pointer none,.slice none 0 0] cF) λz=>
 gT e λq=>∃k:Sl,z.cell? (q.add 2)=some (k.v)/\
 bY k b λr=>∃y:Int,z.cell? (r.add (aF b *1))=some (.i y)/\
 Qc [f] lF #[.pointer (some (nb c)),.i y] z λw5=>Qc [f] jC #[.pointer e,.pointer (some (nb c)),.i b] w5 λw6=>oW [f] kh #[.pointer (some (nb c))] w6 λaa w7=>R (aJ (.tuple #[.string aa,.i 0])) w7)))))):aH aB nB #[.agg #[d.v],.i b] w R:=aZ X [gN,fH] h
end print_Term
namespace enthymemelaw11_graph
abbrev X:Fx:=⟨aB,Tryz.f9,[],[2]⟩
def dQ (a:Sl) (w:aA) (R:aT) (h:cB [] w λb c=>
 loc [b] c λd=>R (aJ (.agg #[a.v])) d):aH aB fW #[a.v] w R:=aZ X [] h
end enthymemelaw11_graph
namespace enthymemelaw11_lives
abbrev X:Fx:=⟨aB,Tryz.f8,[],[1,2]⟩
def dQ (w:aA) (R:aT) (h:cB [] w λa j=>
 loc [a] j λe=>gi e (.cells #[.i 0,.i 1] cT) λf=>
 gi f (.cells #[.i 0,.slice none 0 0,.i 0,.i 0,.u 0,.string (aE #[120]),.i 0,.i 4,.i 0,.i 1,.slice none 0 0,.i 0,.i 0,.u 5,.s0,.i 0,.i 4,.i 0,.i 6,.slice (some (nb e)) 2 2,.i 0,.i 0,.u 0,.s0,.i 0,.i 4,.i 0] bE) λk=>
 cB [a] k λd l=>
 loc [a,d] l λm=>Ho [a,d] nB #[.agg #[.slice (some (nb f)) 3 3],.i 2] m λb c g=>aW (c==0) (R (aJ (.bool (b.toList==(aE #[40,97,110,100,32,120,32,35,120,53,41]).toList))) g) (R (aJ (.bool false)) g)):aH aB ln #[] w R:=aZ X [] h
end enthymemelaw11_lives
namespace dA
abbrev X:Fx:=⟨aB,Tryz.f4,[(3,(.sq [0,1,2] (.fork (.sq [3] (.fork (.sq [4] (.fork (ls [5,6,7,8,9,10,11,12,13]) (ls [10,5,6,7,8,9,11,12,13]))) (ls [10,4,5,6,7,8,9,11,12,13]))) (ls [10,3,4,5,6,7,8,9,11,12,13]))))],[8,9]⟩
abbrev P0:Ps:=[(8,.l [.s] cM),(9,.l [.s] cM),(12,.v [.s]),(13,.v [.I])]
def mC (e:Nat) (b:Sl) (f:Nat) (c a:Sl) (d:Int) (w:aA) (R:aT):Prop:=dD P0 0 (X.Sem (bV [0,1,1,1,6])) e b f c a d w R
def kA:=gI X (bV [0,1,1,1,6]) P0 mC
abbrev P1:Ps:=[]
abbrev fN (w:aA) (R:aT):Prop:=
 R (aJ (.bool false)) w
def fU:=bX X [kA] (bV [0,1,1,1,2,2,1,2,1,1,6]) P1 fN
abbrev P2:Ps:=[(8,.l [.s] cM),(9,.l [.s] cM),(12,.v [.s]),(13,.v [.I]),(14,.v [.st]),(15,.v [.I]),(18,.v [.I])]
def L4T (i:Nat) (b:Sl) (j:Nat) (c a:Sl) (f:Int) (d:ByteArray) (e g:Int) (w:aA) (R:aT):Prop:=dD P2 0 (X.Sem (bV [0,1,1,1,3,2,1,2,1,1,6])) i b j c a f d e g w R
def Z1:=gI X (bV [0,1,1,1,3,2,1,2,1,1,6]) P2 L4T
abbrev P3:Ps:=[(8,.l [.s] cM),(9,.l [.s] cM),(12,.v [.s]),(13,.v [.I]),(14,.v [.st])]
abbrev DQ (g:Nat) (c:Sl) (i:Nat) (d a:Sl) (j:Int) (f:ByteArray) (w:aA) (R:aT):Prop:=
 gi w (.cells #[.string f] cG) λk=>
 ∃(b:Sl) (e:aA),Sem.run aB (Builtin.append_ #[nK,nK] nK #[a.v,.slice (some (nb w)) 1 1]) k=.ok (b.v) e/\kept [g,i] k e/\mC g c i d b (aC .i64 (j+1)) e R
def vQ:=bX X [Z1,fU,kA] (bV [4,2,1,2,1,1,6]) P3 DQ
def GV:∀(j:Nat) (d:Sl) (k:Nat) (e b:Sl) (g:Int) (f:ByteArray) (i c:Int) (w:aA) (R:aT) (h:aW (aR (c<((b.n:Nat):Int))) (aW (i==0) (bY b c λl=>∃m:ByteArray,w.cell? (l.add (aF c *1))=some (.string m)/\
 aW (m.toList==f.toList) (R (aJ (.bool false)) w) (L4T j d k e b g f i (aC .i64 (c+1)) w R)) (DQ j d k e b g f w R)) (DQ j d k e b g f w R)),L4T j d k e b g f i c w R:=mp (dV (X:=X) [vQ,Z1,fU,kA] (bV [0,1,1,1,3,2,1,2,1,1,6]) P2)
abbrev P4:Ps:=[(8,.l [.s] cM),(9,.l [.s] cM),(12,.v [.s]),(13,.v [.I]),(14,.v [.st]),(15,.v [.I])]
abbrev ir (g:Nat) (b:Sl) (i:Nat) (c a:Sl) (f:Int) (d:ByteArray) (e:Int) (w:aA) (R:aT):Prop:=
 L4T g b i c a f d e 0 w R
def iG:=bX X [vQ,Z1,fU,kA] (bV [3,2,1,2,1,1,6]) P4 ir
def dR:∀(g:Nat) (c:Sl) (j:Nat) (e b:Sl) (d:Int) (w:aA) (R:aT) (h:aW (aR (d<((c.n:Nat):Int))) (Ho [g,j] nB #[.agg #[c.v],.i d] w λf a p=>Ho [g,j] nB #[.agg #[e.v],.i d] p λl m k=>aW (a !=m) (fN k R) (aW (!(f.toList==l.toList)) (fN k R) (aW (a !=0) (aW (a !=4) (fN k R) (ir g c j e b d f a k R)) (ir g c j e b d f a k R)))) (lO [g,j] ln #[] w λo q=>R (aJ (.bool o)) q)),mC g c j e b d w R:=mp (dV (X:=X) [iG,vQ,Z1,fU,kA] (bV [0,1,1,1,6]) P0)
abbrev P5:Ps:=[(8,.l [.s] cM),(9,.l [.s] cM),(11,.v [.I])]
abbrev eX (d:Nat) (a:Sl) (e:Nat) (b:Sl) (c:Int) (w:aA) (R:aT):Prop:=
 aW (c !=0) (R (aJ (.bool false)) w) (mC d a e b ⟨none,0,0⟩ 0 w R)
def fH:=bX X [iG,vQ,Z1,fU,kA] (bV [4]) P5 eX
def dQ (l0 y:Sl) (o:Int) (w:aA) (R:aT) (h:Dv bN #[.i o,.i 3] w λs w1=>ca3 iq #[l0.v,.i s,.i 9] w1 λae w2=>ab7 fW #[ae.v] w2 λb w3=>cB [] w3 λa w4=>
 ((loc [a] w4 λw6=>TK [a] iq #[y.v,.i s,.i 9] w6 λx w7=>((TI [a] fW #[x.v] w7 λp w8=>((TJ [a] mW #[.agg #[b.v],.agg #[p.v]] w8 λq ay u w9=>cB [a] w9 λb9 af=>
 loc [a,b9] af λag=>eX a b b9 q u ag R)/\(cB [a] w8 λr ah=>
 TJ [a,r] mW #[.agg #[b.v],.agg #[p.v]] ah λe z l ai=>loc [a,r] ai λaj=>eX a b r e l aj R)))/\(cB [a] w7 λd ak=>
 TI [a,d] fW #[x.v] ak λj al=>TJ [a,d] mW #[.agg #[b.v],.agg #[j.v]] al λf aa m am=>loc [a,d] am λan=>eX a b d f m an R)))/\(cB [a] w4 λc ao=>
 TK [a,c] iq #[y.v,.i s,.i 9] ao λt ap=>TI [a,c] fW #[t.v] ap λk aq=>TJ [a,c] mW #[.agg #[b.v],.agg #[k.v]] aq λg ab n ar=>loc [a,c] ar λau=>eX a b c g n au R))):aH aB mO #[l0.v,y.v,.i o] w R:=aZ X [fH,iG,vQ,Z1,fU,kA] h
end dA
end Go.Proofs.YtnpkhgljhcnpcaaGreatDoor
end
