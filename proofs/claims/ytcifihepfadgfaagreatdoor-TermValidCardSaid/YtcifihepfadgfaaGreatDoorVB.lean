import Derived.Test.YtcifihepfadgfaaGreatDoorV
set_option linter.unusedVariables false
set_option maxRecDepth 100000
set_option maxHeartbeats 2000000
namespace Go.Proofs.YtcifihepfadgfaaGreatDoor
open Go Go.W
namespace enthymemeref07_BV
noncomputable abbrev X:Fx:=⟨Tryz.prog,Tryz.f25,[],[2]⟩
theorem cT (a:Int) (w:World) (R:aD) (h:bH [] w λb c=>
 loc [b] c λd=>R (.returned (.agg #[.i 0,.i a,.i 0])) d):Calls Tryz.prog aV #[.i a] w R:=aP X [] h
end enthymemeref07_BV
namespace enthymemeref07_Strings
noncomputable abbrev X:Fx:=⟨Tryz.prog,Tryz.f75,[],[2]⟩
theorem cT (a:Int) (w:World) (R:aD) (h:bH [] w λb c=>
 loc [b] c λd=>R (.returned (.agg #[.i 1,.i a,.i 0])) d):Calls Tryz.prog bS #[.i a] w R:=aP X [] h
end enthymemeref07_Strings
namespace enthymemeref07_has
noncomputable abbrev X:Fx:=⟨Tryz.prog,Tryz.f53,[],[]⟩
theorem ok (b:Sl) (a:Int) (w:World) (R:aD) (h:zY kZ #[b.v,.i a] w λc d=>R (.returned (.bool c)) d):Calls Tryz.prog iV #[b.v,.i a] w R:=aP X [] h
end enthymemeref07_has
namespace enthymemeref07_Kids
noncomputable abbrev X:Fx:=⟨Tryz.prog,Tryz.f77,[],[]⟩
abbrev P0:Ps:=[]
abbrev S0 (w:World) (R:aD):Prop:=
 R (.returned (.i (-1))) w
noncomputable def eT:=bK X [] (bG [0,1,1,1,1]) P0 S0
abbrev S1 (w:World) (R:aD):Prop:=
 R (.returned (.i 1)) w
noncomputable def gG:=bK X [eT] (bG [0,1,1,1,1,1,3]) P0 S1
abbrev S3 (w:World) (R:aD):Prop:=
 R (.returned (.i 3)) w
noncomputable def iH:=bK X [gG,eT] (bG [0,1,3,1,1,1,3]) P0 S3
abbrev S4 (w:World) (R:aD):Prop:=
 R (.returned (.i 2)) w
noncomputable def l8:=bK X [iH,gG,eT] (bG [4]) P0 S4
abbrev P1:Ps:=[(11,.v [.I])]
abbrev S2 (a:Int) (w:World) (R:aD):Prop:=
 aH (a==19) (aH (a==19) (S3 w R) (S4 w R)) (aH (a==25) (aH (a==25) (S3 w R) (S4 w R)) (aH (a==30) (aH (a==30) (S3 w R) (S4 w R)) (aH (a==32) (S3 w R) (S4 w R))))
noncomputable def fU:=bK X [l8,iH,gG,eT] (bG [2,1,1,1,3]) P1 S2
theorem ok (a:Int) (w:World) (R:aD) (h:aH (decide (a<0)) (S0 w R) (aH (decide (a>34)) (S0 w R) (aH (decide (a<=3)) (R (.returned (.i 0)) w) (aH (a==4) (aH (a==4) (S1 w R) (S2 a w R)) (aH (a==5) (aH (a==5) (S1 w R) (S2 a w R)) (aH (a==21) (aH (a==21) (S1 w R) (S2 a w R)) (aH (a==22) (aH (a==22) (S1 w R) (S2 a w R)) (aH (a==23) (aH (a==23) (S1 w R) (S2 a w R)) (aH (a==27) (aH (a==27) (S1 w R) (S2 a w R)) (aH (a==28) (aH (a==28) (S1 w R) (S2 a w R)) (aH (a==33) (aH (a==33) (S1 w R) (S2 a w R)) (aH (a==34) (S1 w R) (S2 a w R))))))))))))):Calls Tryz.prog iC #[.i a] w R:=aP X [fU,l8,iH,gG,eT] h
end enthymemeref07_Kids
namespace enthymemeref07_Named
noncomputable abbrev X:Fx:=⟨Tryz.prog,Tryz.f86,[],[]⟩
abbrev P0:Ps:=[]
abbrev S0 (w:World) (R:aD):Prop:=
 R (.returned (.bool false)) w
noncomputable def eT:=bK X [] (bG [0,1,1,1,1]) P0 S0
abbrev P1:Ps:=[(0,.v [.st]),(3,.v [.I])]
def L1 (b:ByteArray) (a:Int) (w:World) (R:aD):Prop:=cG P1 0 (X.Sem (bG [0,1,1,1,2])) b a w R
noncomputable def km:=fZ X (bG [0,1,1,1,2]) P1 L1
abbrev S4 (b:ByteArray) (a:Int) (w:World) (R:aD):Prop:=
 L1 b (IntKind.wrap .i64 (a+1)) w R
noncomputable def l8:=bK X [km,eT] (bG [2,2,1,1,2]) P1 S4
abbrev P2:Ps:=[(0,.v [.st]),(3,.v [.I]),(4,.v [.b]),(5,.v [.b])]
abbrev S3 (d:ByteArray) (c:Int) (a b:Bool) (w:World) (R:aD):Prop:=
 aH (!a) (aH (!b) (R (.returned (.bool false)) w) (S4 d c w R)) (S4 d c w R)
noncomputable def iH:=bK X [l8,km,eT] (bG [2,2,1,2,1,1,2]) P2 S3
abbrev P3:Ps:=[(0,.v [.st]),(3,.v [.I]),(4,.v [.b])]
abbrev S2 (d:ByteArray) (b:Int) (a:Bool) (w:World) (R:aD):Prop:=
 (0:Int)<=b/\∃e:UInt8,d[Int.toNat b]? =some e/\aH (decide (((e.toNat:Nat):Int)>=48)) ((0:Int)<=b/\∃f:UInt8,d[Int.toNat b]? =some f/\aH (decide (((f.toNat:Nat):Int)<=57)) (S3 d b a true w R) ((0:Int)<=b/\∃g:UInt8,d[Int.toNat b]? =some g/\S3 d b a (((g.toNat:Nat):Int)==45) w R)) ((0:Int)<=b/\∃c:UInt8,d[Int.toNat b]? =some c/\S3 d b a (((c.toNat:Nat):Int)==45) w R)
noncomputable def fU:=bK X [iH,l8,km,eT] (bG [1,2,1,2,1,1,2]) P3 S2
theorem lE:∀(d:ByteArray) (a:Int) (w:World) (R:aD) (h:aH (decide (a<((d.size:Nat):Int))) ((0:Int)<=a/\∃b:UInt8,d[Int.toNat a]? =some b/\aH (decide (((b.toNat:Nat):Int)>=97)) ((0:Int)<=a/\∃c:UInt8,d[Int.toNat a]? =some c/\S2 d a (decide (((c.toNat:Nat):Int)<=122)) w R) (S2 d a false w R)) (R (.returned (.bool true)) w)),L1 d a w R:=mp (dA (X:=X) [fU,iH,l8,km,eT] (bG [0,1,1,1,2]) P1)
theorem ok (c:ByteArray) (w:World) (R:aD) (h:aH (decide (((c.size:Nat):Int)<1)) (S0 w R) (aH (decide (((c.size:Nat):Int)>16)) (S0 w R) ((0:Int)<=0/\∃a:UInt8,c[Int.toNat 0]? =some a/\aH (decide (((a.toNat:Nat):Int)<97)) (S0 w R) ((0:Int)<=0/\∃b:UInt8,c[Int.toNat 0]? =some b/\aH (decide (((b.toNat:Nat):Int)>122)) (S0 w R) (L1 c 0 w R))))):Calls Tryz.prog jX #[.string c] w R:=aP X [fU,iH,l8,km,eT] h
end enthymemeref07_Named
namespace enthymemeref06_within
noncomputable abbrev X:Fx:=⟨Tryz.prog,Tryz.f118,[],[]⟩
theorem ok (c b a:Int) (w:World) (R:aD) (h:aH (decide (c>=b)) (R (.returned (.bool (decide (c<=a)))) w) (R (.returned (.bool false)) w)):Calls Tryz.prog bY #[.i c,.i b,.i a] w R:=aP X [] h
end enthymemeref06_within
namespace enthymemeref06_ValidSort
noncomputable abbrev X:Fx:=⟨Tryz.prog,Tryz.f87,[],[1]⟩
abbrev P0:Ps:=[(3,.v [.b])]
abbrev dU (a:Bool) (w:World) (R:aD):Prop:=
 aH (!a) (R (.returned (.i 9)) w) (R (.returned (.i 0)) w)
noncomputable def eT:=bK X [] (bG [3]) P0 dU
theorem cT (a b c:Int) (w:World) (R:aD) (h:bH [] w λd e=>
 aH (a==0) (kn [d] bY #[.i b,.i 1,.i 64] e λf n=>aH f (dU (c==0) n R) (dU false n R)) (aH (a==1) (kn [d] bY #[.i b,.i 0,.i 64] e λg o=>aH g (dU (c==0) o R) (dU false o R)) (aH (a==2) (kn [d] bY #[.i b,.i 1,.i 64] e λj p=>aH j (kn [d] bY #[.i c,.i 1,.i 16] p λk r=>dU k r R) (dU false p R)) (aH (a==3) (kn [d] bY #[.i b,.i 0,.i 64] e λl q=>aH l (kn [d] bY #[.i c,.i 1,.i 16] q λm s=>dU m s R) (dU false q R)) (dU false e R))))):Calls Tryz.prog iw #[.agg #[.i a,.i b,.i c]] w R:=aP X [eT] h
end enthymemeref06_ValidSort
namespace enthymemeref07_fields
noncomputable abbrev X:Fx:=⟨Tryz.prog,Tryz.f44,[(1,ls [0,1,3,4,5,2,6])],[3]⟩
abbrev P0:Ps:=[(0,.v [.s]),(3,.l [.I,.s,.I,.I,.U,.st,.I,.I,.I] aE),(5,.v [.I])]
def dY (k:Sl) (m:Nat) (a:Int) (b:Sl) (c d e:Int) (f:ByteArray) (g i j l:Int) (w:World) (R:aD):Prop:=cG P0 0 (X.Sem (bG [0,1,1,1,2])) k m a b c d e f g i j l w R
noncomputable def eK:=fZ X (bG [0,1,1,1,2]) P0 dY
abbrev P1:Ps:=[]
abbrev fY (w:World) (R:aD):Prop:=
 R (.returned (.i 1)) w
noncomputable def gG:=bK X [eK] (bG [0,1,1,2,1,2,1,1,2]) P1 fY
abbrev eY (w:World) (R:aD):Prop:=
 R (.returned (.i 1)) w
noncomputable def fU:=bK X [gG,eK] (bG [0,1,1,1,5]) P1 eY
abbrev hU (w:World) (R:aD):Prop:=
 R (.returned (.i 0)) w
noncomputable def iH:=bK X [fU,gG,eK] (bG [6]) P1 hU
theorem aY:∀(v:Sl) (q:Nat) (c:Int) (e:Sl) (l k f:Int) (d:ByteArray) (m o p j:Int) (w:World) (R:aD) (h:aH (decide (j<((e.n:Nat):Int))) ((0:Int)<=j/\j<((e.n:Nat):Int)/\aX e.a λr=>∃t:Int,w.cell? (r.add (Int.toNat j *1))=some (.i t)/\
 aH (decide (t<0)) (fY w R) ((0:Int)<=j/\j<((e.n:Nat):Int)/\aX e.a λs=>∃u:Int,w.cell? (s.add (Int.toNat j *1))=some (.i u)/\
 aH (decide (u>=((v.n:Nat):Int))) (fY w R) (dY v q c e l k f d m o p (IntKind.wrap .i64 (j+1)) w R))) (eV w (.cells #[.i 21,.i 22,.i 23,.i 28] bW) λz=>
 kn [q] iV #[.slice (some (nb w)) 4 4,.i c] z λx y=>eV y (.cells #[.i 0,.i 2,.i 33] bW) λw6=>
 kn [q] iV #[.slice (some (nb y)) 3 3,.i c] w6 λg b=>aH (!x) (aH (l !=0) (eY b R) (aH (c !=21) (aH (k !=0) (eY b R) (aH (c !=1) (aH (f !=0) (eY b R) (aH (!g) (aH (!(d.toList==(ByteArray.mk #[]).toList)) (eY b R) (hU b R)) (hU b R))) (aH (!g) (aH (!(d.toList==(ByteArray.mk #[]).toList)) (eY b R) (hU b R)) (hU b R)))) (aH (c !=1) (aH (f !=0) (eY b R) (aH (!g) (aH (!(d.toList==(ByteArray.mk #[]).toList)) (eY b R) (hU b R)) (hU b R))) (aH (!g) (aH (!(d.toList==(ByteArray.mk #[]).toList)) (eY b R) (hU b R)) (hU b R))))) (aH (c !=21) (aH (k !=0) (eY b R) (aH (c !=1) (aH (f !=0) (eY b R) (aH (!g) (aH (!(d.toList==(ByteArray.mk #[]).toList)) (eY b R) (hU b R)) (hU b R))) (aH (!g) (aH (!(d.toList==(ByteArray.mk #[]).toList)) (eY b R) (hU b R)) (hU b R)))) (aH (c !=1) (aH (f !=0) (eY b R) (aH (!g) (aH (!(d.toList==(ByteArray.mk #[]).toList)) (eY b R) (hU b R)) (hU b R))) (aH (!g) (aH (!(d.toList==(ByteArray.mk #[]).toList)) (eY b R) (hU b R)) (hU b R)))))),dY v q c e l k f d m o p j w R:=mp (dA (X:=X) [iH,fU,gG,eK] (bG [0,1,1,1,2]) P0)
theorem cT (m:Sl) (a:Int) (b:Sl) (c d e:Int) (f:ByteArray) (g j k:Int) (w:World) (R:aD) (h:bH [] w λl q=>
 loc [l] q λr=>mX [l] iC #[.i a] r λo p=>aH (o !=((b.n:Nat):Int)) (R (.returned (.i 1)) p) (dY m l a b c d e f g j k 0 p R)):Calls Tryz.prog jz #[m.v,.agg #[.i a,b.v,.i c,.i d,.u e,.string f,.i g,.i j,.i k]] w R:=aP X [iH,fU,gG,eK] h
end enthymemeref07_fields
namespace enthymemeref07_leaf
noncomputable abbrev X:Fx:=⟨Tryz.prog,Tryz.f45,[(19,ls [0,1,2,3,4,5,6,7,8,9,10,11,12,13,14,15,16,17,18,19,20,21,22,23,24,25,26,27,28,29,30])],[3,4]⟩
abbrev P0:Ps:=[(4,.l [.I,.I,.I] aR)]
abbrev eY (a:Nat) (b c d:Int) (w:World) (R:aD):Prop:=
 loc [a] w λe=>R (.returned (.tuple #[.agg #[.i 0,.i 0,.i 0],.i 9])) e
noncomputable def fU:=bK X [] (bG [0,1,1,1,7]) P0 eY
abbrev P1:Ps:=[(0,.v [.s]),(3,.l [.I,.s,.I,.I,.U,.st,.I,.I,.I] aE),(4,.l [.I,.I,.I] aR),(9,.v [.I])]
def BF (n:Sl) (p:Nat) (a:Int) (b:Sl) (c d e:Int) (f:ByteArray) (g i j:Int) (q:Nat) (k l m o:Int) (w:World) (R:aD):Prop:=cG P1 0 (X.Sem (bG [0,1,1,1,9])) n p a b c d e f g i j q k l m o w R
noncomputable def vT:=fZ X (bG [0,1,1,1,9]) P1 BF
abbrev xj (n:Sl) (p:Nat) (a:Int) (b:Sl) (c d e:Int) (f:ByteArray) (g i j:Int) (q:Nat) (k l m o:Int) (w:World) (R:aD):Prop:=
 BF n p a b c d e f g i j q k l m (IntKind.wrap .i64 (o+1)) w R
noncomputable def rH:=bK X [vT,fU] (bG [2,2,1,1,9]) P1 xj
theorem m8:∀(j:Sl) (s:Nat) (f:Int) (k:Sl) (l m o:Int) (g:ByteArray) (c d e:Int) (t:Nat) (p q r b:Int) (w:World) (R:aD) (h:aH (decide (b<((j.n:Nat):Int))) (aH (f==0) ((0:Int)<=b/\b<((j.n:Nat):Int)/\aX j.a λv=>loc [s,t] w λu=>∃x:Int,u.cell? ((v.add (Int.toNat b *9)).add 0)=some (.i x)/\
 aH (x==0) ((0:Int)<=b/\b<((j.n:Nat):Int)/\aX j.a λy=>∃z:ByteArray,u.cell? ((y.add (Int.toNat b *9)).add 5)=some (.string z)/\
 aH (z.toList==g.toList) ((0:Int)<=b/\b<((j.n:Nat):Int)/\aX j.a λaa=>dD u ((aa.add (Int.toNat b *9)).add 6) λab ac ad=>aH (!((ab==c)&&((ac==d)&&((ad==e)&&true)))) (loc [s,t] u λw4=>R (.returned (.tuple #[.agg #[.i 0,.i 0,.i 0],.i 8])) w4) (xj j s f k l m o g c d e t p q r b u R)) (xj j s f k l m o g c d e t p q r b u R)) (xj j s f k l m o g c d e t p q r b u R)) (loc [s,t] w λu=>xj j s f k l m o g c d e t p q r b u R)) (loc [s,t] w λw7=>R (.returned (.tuple #[.agg #[.i c,.i d,.i e],.i 0])) w7)),BF j s f k l m o g c d e t p q r b w R:=mp (dA (X:=X) [rH,vT,fU] (bG [0,1,1,1,9]) P1)
abbrev P2:Ps:=[(0,.v [.s]),(3,.l [.I,.s,.I,.I,.U,.st,.I,.I,.I] aE),(4,.l [.I,.I,.I] aR)]
abbrev pj (n:Sl) (o:Nat) (a:Int) (b:Sl) (c d e:Int) (f:ByteArray) (g i j:Int) (p:Nat) (k l m:Int) (w:World) (R:aD):Prop:=
 BF n o a b c d e f g i j p k l m 0 w R
noncomputable def l8:=bK X [rH,vT,fU] (bG [9]) P2 pj
abbrev hU (q:Sl) (o:Nat) (b:Int) (d:Sl) (e f c:Int) (g:ByteArray) (j a k:Int) (p:Nat) (l m n:Int) (w:World) (R:aD):Prop:=
 aH (b==1) (aH (decide (a<64)) (¬(IntKind.wrap .u64 a)<0/\aH (decide (c>=(IntKind.wrap .u64 (1 *2^(min (Int.toNat (IntKind.wrap .u64 a)) (IntKind.bits .u64)))))) (loc [o,p] w λr=>R (.returned (.tuple #[.agg #[.i 0,.i 0,.i 0],.i 5])) r) (pj q o b d e f c g j a k p l m n w R)) (pj q o b d e f c g j a k p l m n w R)) (pj q o b d e f c g j a k p l m n w R)
noncomputable def iH:=bK X [l8,rH,vT,fU] (bG [8]) P2 hU
abbrev P3:Ps:=[(0,.v [.s]),(3,.l [.I,.s,.I,.I,.U,.st,.I,.I,.I] aE),(4,.l [.I,.I,.I] aR),(8,.v [.b])]
abbrev fY (p:Sl) (q:Nat) (a:Int) (g:Sl) (i j k:Int) (l:ByteArray) (e m n:Int) (o:Nat) (b c d:Int) (f:Bool) (w:World) (R:aD):Prop:=
 aH (a==1) (aH (e !=0) (eY o b c d w R) (aH (a==3) (aH (!f) (eY o b c d w R) (hU p q a g i j k l e m n o b c d w R)) (hU p q a g i j k l e m n o b c d w R))) (aH (a==3) (aH (!f) (eY o b c d w R) (hU p q a g i j k l e m n o b c d w R)) (hU p q a g i j k l e m n o b c d w R))
noncomputable def gG:=bK X [iH,l8,rH,vT,fU] (bG [7]) P3 fY
abbrev P4:Ps:=[(0,.v [.s]),(3,.l [.I,.s,.I,.I,.U,.st,.I,.I,.I] aE),(4,.l [.I,.I,.I] aR),(6,.v [.b])]
abbrev dU (t:Sl) (d:Nat) (e:Int) (f:Sl) (g j k:Int) (l:ByteArray) (a b c:Int) (m:Nat) (n o p:Int) (q:Bool) (w:World) (R:aD):Prop:=
 aH (!q) (loc [d,m] w λu=>R (.returned (.tuple #[.agg #[.i 0,.i 0,.i 0],.i 6])) u) (mX [d,m] iw #[.agg #[.i a,.i b,.i c]] w λr s=>aH (r !=0) (loc [d,m] s λv=>R (.returned (.tuple #[.agg #[.i 0,.i 0,.i 0],.i r])) v) (aH (a==2) (fY t d e f g j k l a b c m n o p true s R) (fY t d e f g j k l a b c m n o p (a==3) s R)))
noncomputable def eT:=bK X [gG,iH,l8,rH,vT,fU] (bG [3]) P4 dU
theorem cT (r:Sl) (b:Int) (d:Sl) (e f g:Int) (a:ByteArray) (j k l:Int) (w:World) (R:aD) (h:bH [] w λc x=>
 bH [c] x λm q=>
 aH (b==2) (aH (decide (((a.size:Nat):Int)>64)) (loc [c,m] q λy=>R (.returned (.tuple #[.agg #[.i 0,.i 0,.i 0],.i 5])) y) (gP [c,m] bS #[.i ((a.size:Nat):Int)] q λn o p z=>loc [c,m] z λw9=>R (.returned (.tuple #[.agg #[.i n,.i o,.i p],.i 0])) w9)) (aH (b !=0) (dU r c b d e f g a j k l m 0 0 0 true q R) (kn [c,m] jX #[.string a] q λs t=>dU r c b d e f g a j k l m 0 0 0 s t R))):Calls Tryz.prog kG #[r.v,.agg #[.i b,d.v,.i e,.i f,.u g,.string a,.i j,.i k,.i l]] w R:=aP X [eT,gG,iH,l8,rH,vT,fU] h
end enthymemeref07_leaf
namespace enthymemeref07_Element
noncomputable abbrev X:Fx:=⟨Tryz.prog,Tryz.f88,[],[1,2]⟩
theorem cT (c a j:Int) (w:World) (R:aD) (h:bH [] w λb p=>
 bH [b] p λd o=>
 aH (c==2) (gP [b,d] aV #[.i a] o λk l m q=>loc [b,d] q λr=>R (.returned (.agg #[.i k,.i l,.i m])) r) (gP [b,d] bS #[.i a] o λe f g s=>loc [b,d] s λn=>R (.returned (.agg #[.i e,.i f,.i g])) n)):Calls Tryz.prog fH #[.agg #[.i c,.i a,.i j]] w R:=aP X [] h
end enthymemeref07_Element
namespace enthymemeref07_fit
noncomputable abbrev X:Fx:=⟨Tryz.prog,Tryz.f46,[(13,ls [0,1,2,3,4,5,6,7,8,9,10,11,12,13,14,15]),(15,ls [0,1,2,3,4,5,6,7,8,9,10,11,12,13,14,15,16,17,18,19,20,21,22,23,24,25,26]),(19,ls [0,1,2,3,4,5,6,7,8,9,10]),(21,ls [0,1,2,3,4,5,6,7,8,9,10]),(23,ls [0,1,2,3,4,5,6,7,8,9,10,11,12,13,14,15,16,17,18,19,20,21,22,23,24,25,26,27]),(25,ls [0,1,2,3,4,5,6,7,8]),(34,ls [0,1,2,3,4,5,6,7,8,9,10,11,12,13,14,15]),(38,ls [0,1,2,3]),(39,ls [0,1,2,3,4,5,6,7,8])],[5]⟩
abbrev P0:Ps:=[(6,.v [.b])]
abbrev fY (a:Bool) (w:World) (R:aD):Prop:=
 R (.returned (.bool a)) w
noncomputable def gG:=bK X [] (bG [0,1,1,1,1,1,5]) P0 fY
abbrev P1:Ps:=[]
abbrev hU (w:World) (R:aD):Prop:=
 R (.returned (.bool false)) w
noncomputable def iH:=bK X [gG] (bG [0,1,1,2,11,1,1,1,5]) P1 hU
abbrev P2:Ps:=[(7,.v [.b])]
abbrev pj (a:Bool) (w:World) (R:aD):Prop:=
 R (.returned (.bool a)) w
noncomputable def l8:=bK X [iH,gG] (bG [0,1,15,1,1,1,5]) P2 pj
abbrev P3:Ps:=[(1,.v [.s]),(7,.v [.b])]
abbrev xj (e:Sl) (d:Bool) (w:World) (R:aD):Prop:=
 aH d ((0:Int)<=1/\1<((e.n:Nat):Int)/\aX e.a λb=>∃c:Int,w.cell? ((b.add (Int.toNat 1 *3)).add 0)=some (.i c)/\
 R (.returned (.bool (c==1))) w) (R (.returned (.bool false)) w)
noncomputable def rH:=bK X [l8,iH,gG] (bG [0,1,17,1,1,1,5]) P3 xj
abbrev P4:Ps:=[(1,.v [.s]),(5,.l [.I,.I,.I] aR),(6,.v [.b]),(7,.v [.b]),(26,.v [.I])]
abbrev Hi (b:Sl) (m:Nat) (ai aj ak:Int) (ao o:Bool) (ah:Int) (w:World) (R:aD):Prop:=
 aH (ah==30) (aH o ((0:Int)<=1/\1<((b.n:Nat):Int)/\aX b.a λc=>loc [m] w λw1=>dD w1 (c.add (Int.toNat 1 *3)) λd e f=>gP [m] aV #[.i 7] w1 λp q r w2=>Md w2 (c.add (Int.toNat 1 *3)) (.i d) (.i e) (.i f) λ_=>aH ((d==p)&&((e==q)&&((f==r)&&true))) ((0:Int)<=2/\2<((b.n:Nat):Int)/\aX b.a λg=>dD w2 (g.add (Int.toNat 2 *3)) λj k l=>gP [m] aV #[.i 7] w2 λs t u w3=>Md w3 (g.add (Int.toNat 2 *3)) (.i j) (.i k) (.i l) λ_=>R (.returned (.bool ((j==s)&&((k==t)&&((l==u)&&true))))) w3) (R (.returned (.bool false)) w2)) (loc [m] w λw1=>R (.returned (.bool false)) w1)) (aH (ah==32) (aH o ((0:Int)<=1/\1<((b.n:Nat):Int)/\aX b.a λv=>∃x:Int,w.cell? ((v.add (Int.toNat 1 *3)).add 0)=some (.i x)/\
 aH (x==1) ((0:Int)<=2/\2<((b.n:Nat):Int)/\aX b.a λy=>∃z:Int,w.cell? ((y.add (Int.toNat 2 *3)).add 0)=some (.i z)/\
 R (.returned (.bool (z==1))) w) (R (.returned (.bool false)) w)) (R (.returned (.bool false)) w)) (aH (ah==34) (loc [m] w λw4=>gP [m] aV #[.i 8] w4 λaa ab ac w5=>R (.returned (.bool ((ai==aa)&&((aj==ab)&&((ak==ac)&&true))))) w5) (aH ao ((0:Int)<=1/\1<((b.n:Nat):Int)/\aX b.a λad=>loc [m] w λw6=>dD w6 (ad.add (Int.toNat 1 *3)) λae af ag=>R (.returned (.bool ((ai==ae)&&((aj==af)&&((ak==ag)&&true))))) w6) (loc [m] w λw6=>R (.returned (.bool false)) w6))))
noncomputable def uC:=bK X [rH,l8,iH,gG] (bG [18,1,1,1,5]) P4 Hi
abbrev Fu (f:Sl) (i:Nat) (c d e:Int) (g a:Bool) (b:Int) (w:World) (R:aD):Prop:=
 aH (b==29) (aH (b==29) (xj f a w R) (Hi f i c d e g a b w R)) (aH (b==31) (xj f a w R) (Hi f i c d e g a b w R))
noncomputable def vU:=bK X [uC,rH,l8,iH,gG] (bG [16,1,1,1,5]) P4 Fu
abbrev P5:Ps:=[(1,.v [.s]),(5,.l [.I,.I,.I] aR),(6,.v [.b]),(7,.v [.b]),(8,.v [.b]),(26,.v [.I])]
abbrev eY (b:Sl) (g:Nat) (e f d:Int) (x j k:Bool) (c:Int) (w:World) (R:aD):Prop:=
 aH (c==18) ((0:Int)<=1/\1<((b.n:Nat):Int)/\aX b.a λau=>loc [g] w λw1=>dD w1 (au.add (Int.toNat 1 *3)) λav aw ax=>aH ((e==av)&&((f==aw)&&((d==ax)&&true))) (R (.returned (.bool true)) w1) (aH j ((0:Int)<=1/\1<((b.n:Nat):Int)/\aX b.a λay=>∃bu:Int,w1.cell? ((ay.add (Int.toNat 1 *3)).add 0)=some (.i bu)/\
 R (.returned (.bool (bu==1))) w1) (R (.returned (.bool false)) w1))) (aH (c==19) (loc [g] w λw2=>gP [g] aV #[.i 1] w2 λaz bb bc u=>aH ((e==az)&&((f==bb)&&((d==bc)&&true))) ((0:Int)<=1/\1<((b.n:Nat):Int)/\aX b.a λbd=>dD u (bd.add (Int.toNat 1 *3)) λbe bf bg=>(0:Int)<=2/\2<((b.n:Nat):Int)/\aX b.a λbh=>dD u (bh.add (Int.toNat 2 *3)) λbi bj bk=>aH ((be==bi)&&((bf==bj)&&((bg==bk)&&true))) (R (.returned (.bool true)) u) ((0:Int)<=1/\1<((b.n:Nat):Int)/\aX b.a λbm=>∃bv:Int,u.cell? ((bm.add (Int.toNat 1 *3)).add 0)=some (.i bv)/\
 aH (bv==1) ((0:Int)<=2/\2<((b.n:Nat):Int)/\aX b.a λbn=>∃bw:Int,u.cell? ((bn.add (Int.toNat 2 *3)).add 0)=some (.i bw)/\
 R (.returned (.bool (bw==1))) u) (R (.returned (.bool false)) u))) (R (.returned (.bool false)) u)) (aH (c==20) (aH x ((0:Int)<=1/\1<((b.n:Nat):Int)/\aX b.a λbo=>∃bx:Int,w.cell? ((bo.add (Int.toNat 1 *3)).add 0)=some (.i bx)/\
 R (.returned (.bool (bx==0))) w) (R (.returned (.bool false)) w)) (aH (c==24) (aH k ((0:Int)<=1/\1<((b.n:Nat):Int)/\aX b.a λy=>loc [g] w λw4=>dD w4 (y.add (Int.toNat 1 *3)) λz aa ab=>gP [g] aV #[.i d] w4 λbp bq br w5=>Md w5 (y.add (Int.toNat 1 *3)) (.i z) (.i aa) (.i ab) λ_=>R (.returned (.bool ((z==bp)&&((aa==bq)&&((ab==br)&&true))))) w5) (loc [g] w λw4=>R (.returned (.bool false)) w4)) (aH (c==25) (aH (!k) (loc [g] w λw6=>hU w6 R) ((0:Int)<=1/\1<((b.n:Nat):Int)/\aX b.a λl=>loc [g] w λw6=>dD w6 (l.add (Int.toNat 1 *3)) λm o p=>gP [g] aV #[.i d] w6 λad ae af w7=>Md w7 (l.add (Int.toNat 1 *3)) (.i m) (.i o) (.i p) λ_=>aH (!((m==ad)&&((o==ae)&&((p==af)&&true)))) (hU w7 R) ((0:Int)<=2/\2<((b.n:Nat):Int)/\aX b.a λq=>loc [g] w7 λw8=>dD w8 (q.add (Int.toNat 2 *3)) λr s t=>gP [g] fH #[.agg #[.i e,.i f,.i d]] w8 λag ah ai v=>Md v (q.add (Int.toNat 2 *3)) (.i r) (.i s) (.i t) λ_=>aH ((r==ag)&&((s==ah)&&((t==ai)&&true))) (R (.returned (.bool true)) v) (aH (e==3) ((0:Int)<=2/\2<((b.n:Nat):Int)/\aX b.a λaj=>∃ak:Int,v.cell? ((aj.add (Int.toNat 2 *3)).add 0)=some (.i ak)/\
 aH (ak==1) ((0:Int)<=2/\2<((b.n:Nat):Int)/\aX b.a λal=>∃am:Int,v.cell? ((al.add (Int.toNat 2 *3)).add 1)=some (.i am)/\
 R (.returned (.bool (decide (am<=f)))) v) (R (.returned (.bool false)) v)) (R (.returned (.bool false)) v))))) (aH (c==26) (aH k ((0:Int)<=1/\1<((b.n:Nat):Int)/\aX b.a λan=>loc [g] w λac=>dD ac (an.add (Int.toNat 1 *3)) λao ap aq=>R (.returned (.bool ((e==ao)&&((f==ap)&&((d==aq)&&true))))) ac) (loc [g] w λac=>R (.returned (.bool false)) ac)) (aH (c==27) (aH (c==27) (pj j w R) (Fu b g e f d x j c w R)) (aH (c==28) (aH (c==28) (pj j w R) (Fu b g e f d x j c w R)) (aH (c==33) (pj j w R) (Fu b g e f d x j c w R)))))))))
noncomputable def fU:=bK X [vU,uC,rH,l8,iH,gG] (bG [2,1,1,1,5]) P5 eY
abbrev P6:Ps:=[(0,.v [.I]),(1,.v [.s]),(5,.l [.I,.I,.I] aR),(6,.v [.b]),(7,.v [.b]),(8,.v [.b])]
abbrev dU (a:Int) (i:Sl) (j:Nat) (e f g:Int) (c d b:Bool) (w:World) (R:aD):Prop:=
 aH (a==4) (aH (a==4) (fY c w R) (eY i j e f g c d b a w R)) (aH (a==5) (aH (a==5) (fY c w R) (eY i j e f g c d b a w R)) (aH (a==21) (aH (a==21) (fY c w R) (eY i j e f g c d b a w R)) (aH (a==22) (aH (a==22) (fY c w R) (eY i j e f g c d b a w R)) (aH (a==23) (fY c w R) (eY i j e f g c d b a w R)))))
noncomputable def eT:=bK X [fU,vU,uC,rH,l8,iH,gG] (bG [5]) P6 dU
theorem cT (f:Int) (e:Sl) (w:World) (R:aD) (h:(0:Int)<=0/\0<((e.n:Nat):Int)/\aX e.a λj=>dD w (j.add (Int.toNat 0 *3)) λb c d=>bH [] w λg l=>
 aH (b==2) (loc [g] l λk=>dU f e g b c d (b==0) (b==1) true k R) (loc [g] l λk=>dU f e g b c d (b==0) (b==1) (b==3) k R)):Calls Tryz.prog lh #[.i f,e.v] w R:=aP X [eT,fU,vU,uC,rH,l8,iH,gG] h
end enthymemeref07_fit
namespace enthymemeref07_result
noncomputable abbrev X:Fx:=⟨Tryz.prog,Tryz.f47,[(10,ls [0,1,2,3,4,5,6,7,8,9,10,11]),(13,ls [0,1,2,3,4,5,6,8,9,10,11,12,13,14,15,7,16,17]),(15,ls [0,1,2,3,4,5,7,8,9,6,10,11,12,13,14,15,16,17,18,19,20,21,22,23,24,25]),(18,ls [0,1,2,3,4,6,7,8,5,9,10,11,12,13,14,15,16,17,18]),(27,ls [1,2,3,0,4,5,6,7,8,9,10]),(29,ls [0,1,2,3,4,5,6,8,9,10,11,12,13,14,15,7,16,17]),(31,ls [0,1,2,3,4,5,6,8,9,10,11,12,13,14,15,7,16,17])],[2,4,6]⟩
abbrev P0:Ps:=[(4,.l [.I,.I,.I] aR)]
abbrev dU (d:Nat) (e f g:Int) (w:World) (R:aD):Prop:=
 gP [d] aV #[.i 1] w λa b c j=>loc [d] j λk=>R (.returned (.tuple #[.agg #[.i a,.i b,.i c],.bool true])) k
noncomputable def eT:=bK X [] (bG [0,1,1,1,1,1,2]) P0 dU
abbrev P1:Ps:=[(2,.l [.I,.s,.I,.I,.U,.st,.I,.I,.I] aE),(4,.l [.I,.I,.I] aR),(6,.l [.I,.I,.I] aR)]
abbrev eY (f:Nat) (l:Int) (m:Sl) (a n o:Int) (p:ByteArray) (q r s:Int) (g:Nat) (t u v:Int) (j:Nat) (aa e ab:Int) (w:World) (R:aD):Prop:=
 loc [f,g,j] w λx=>gP [f,g,j] aV #[.i (IntKind.wrap .i64 (e+a))] x λb c d k=>aH (decide (a>=1)) (loc [f,g,j] k λy=>R (.returned (.tuple #[.agg #[.i b,.i c,.i d],.bool (decide (a<=(IntKind.wrap .i64 (64 - e))))])) y) (loc [f,g,j] k λz=>R (.returned (.tuple #[.agg #[.i b,.i c,.i d],.bool false])) z)
noncomputable def fU:=bK X [eT] (bG [0,1,9,1,1,1,2]) P1 eY
abbrev pj (d:Nat) (e f g:Int) (w:World) (R:aD):Prop:=
 gP [d] aV #[.i 7] w λa b c j=>loc [d] j λk=>R (.returned (.tuple #[.agg #[.i a,.i b,.i c],.bool true])) k
noncomputable def l8:=bK X [fU,eT] (bG [0,1,15,1,1,1,2]) P0 pj
abbrev P2:Ps:=[(1,.v [.s]),(2,.l [.I,.s,.I,.I,.U,.st,.I,.I,.I] aE),(4,.l [.I,.I,.I] aR),(6,.l [.I,.I,.I] aR),(11,.v [.I])]
abbrev Fu (l:Sl) (b:Nat) (au:Int) (av:Sl) (r aw ax:Int) (ay:ByteArray) (az bb bc:Int) (c:Nat) (bd be bf:Int) (d:Nat) (am g an q:Int) (w:World) (R:aD):Prop:=
 aH (q==28) (loc [b,c,d] w λw1=>gP [b,c,d] aV #[.i 8] w1 λm o p w2=>aH (decide (r>=0)) (loc [b,c,d] w2 λw5=>R (.returned (.tuple #[.agg #[.i m,.i o,.i p],.bool (decide (r<=63))])) w5) (loc [b,c,d] w2 λw8=>R (.returned (.tuple #[.agg #[.i m,.i o,.i p],.bool false])) w8)) (aH (q==29) ((0:Int)<=1/\1<((l.n:Nat):Int)/\aX l.a λs=>loc [b,c,d] w λw9=>∃t:Int,w9.cell? ((s.add (Int.toNat 1 *3)).add 1)=some (.i t)/\
 (0:Int)<=1/\1<((l.n:Nat):Int)/\aX l.a λe=>∃j:Int,w9.cell? ((e.add (Int.toNat 1 *3)).add 1)=some (.i j)/\
 gP [b,c,d] bS #[.i (IntKind.wrap .i64 (g+t))] w9 λu v x ah=>ah.cell? ((e.add (Int.toNat 1 *3)).add 1)=some (.i j)/\loc [b,c,d] ah λai=>ai.cell? ((e.add (Int.toNat 1 *3)).add 1)=some (.i j)/\R (.returned (.tuple #[.agg #[.i u,.i v,.i x],.bool (decide ((IntKind.wrap .i64 (g+j))<=64))])) ai) (aH (q==32) ((0:Int)<=2/\2<((l.n:Nat):Int)/\aX l.a λy=>loc [b,c,d] w λag=>∃z:Int,ag.cell? ((y.add (Int.toNat 2 *3)).add 1)=some (.i z)/\
 (0:Int)<=2/\2<((l.n:Nat):Int)/\aX l.a λf=>∃k:Int,ag.cell? ((f.add (Int.toNat 2 *3)).add 1)=some (.i k)/\
 gP [b,c,d] bS #[.i (IntKind.wrap .i64 (g+z))] ag λaa ab ac aj=>aj.cell? ((f.add (Int.toNat 2 *3)).add 1)=some (.i k)/\loc [b,c,d] aj λak=>ak.cell? ((f.add (Int.toNat 2 *3)).add 1)=some (.i k)/\R (.returned (.tuple #[.agg #[.i aa,.i ab,.i ac],.bool (decide ((IntKind.wrap .i64 (g+k))<=64))])) ak) (aH (q==34) (gP [b,c,d] bS #[.i 1] w λad ae af ao=>loc [b,c,d] ao λaq=>R (.returned (.tuple #[.agg #[.i ad,.i ae,.i af],.bool true])) aq) (loc [b,c,d] w λar=>R (.returned (.tuple #[.agg #[.i am,.i g,.i an],.bool true])) ar))))
noncomputable def vU:=bK X [l8,fU,eT] (bG [16,1,1,1,2]) P2 Fu
abbrev hU (k1:Sl) (k:Nat) (m:Int) (n:Sl) (o p q:Int) (r:ByteArray) (s t u:Int) (f:Nat) (b c d:Int) (l:Nat) (g j e a:Int) (w:World) (R:aD):Prop:=
 aH (a==24) (gP [k,f,l] fH #[.agg #[.i g,.i j,.i e]] w λv x y w1=>loc [k,f,l] w1 λw4=>R (.returned (.tuple #[.agg #[.i v,.i x,.i y],.bool true])) w4) (aH (a==26) (gP [k,f,l] aV #[.i e] w λz aa ab w5=>loc [k,f,l] w5 λw8=>R (.returned (.tuple #[.agg #[.i z,.i aa,.i ab],.bool true])) w8) (aH (a==27) (aH (a==27) (pj f b c d w R) (Fu k1 k m n o p q r s t u f b c d l g j e a w R)) (aH (a==31) (pj f b c d w R) (Fu k1 k m n o p q r s t u f b c d l g j e a w R))))
noncomputable def iH:=bK X [vU,l8,fU,eT] (bG [10,1,1,1,2]) P2 hU
abbrev fY (j:Sl) (b:Nat) (l:Int) (m:Sl) (e f o:Int) (p:ByteArray) (q r s:Int) (c:Nat) (t u v:Int) (d:Nat) (ab g ac k:Int) (w:World) (R:aD):Prop:=
 aH (k==19) ((0:Int)<=1/\1<((j.n:Nat):Int)/\aX j.a λah=>∃ax:Int,w.cell? ((ah.add (Int.toNat 1 *3)).add 0)=some (.i ax)/\
 aH (ax==1) ((0:Int)<=1/\1<((j.n:Nat):Int)/\aX j.a λai=>loc [b,c,d] w λw1=>∃ae:Int,w1.cell? ((ai.add (Int.toNat 1 *3)).add 1)=some (.i ae)/\
 (0:Int)<=2/\2<((j.n:Nat):Int)/\aX j.a λaj=>∃af:Int,w1.cell? ((aj.add (Int.toNat 2 *3)).add 1)=some (.i af)/\
 gP [b,c,d] bS #[.i (if ae<af then af else ae)] w1 λak al am w2=>loc [b,c,d] w2 λw5=>R (.returned (.tuple #[.agg #[.i ak,.i al,.i am],.bool true])) w5) ((0:Int)<=1/\1<((j.n:Nat):Int)/\aX j.a λan=>dD w (an.add (Int.toNat 1 *3)) λao ap aq=>loc [b,c,d] w λw8=>R (.returned (.tuple #[.agg #[.i ao,.i ap,.i aq],.bool true])) w8)) (aH (k==20) ((0:Int)<=1/\1<((j.n:Nat):Int)/\aX j.a λar=>loc [b,c,d] w λw9=>∃ay:Int,w9.cell? ((ar.add (Int.toNat 1 *3)).add 1)=some (.i ay)/\
 (0:Int)<=1/\1<((j.n:Nat):Int)/\aX j.a λx=>∃ad:Int,w9.cell? ((x.add (Int.toNat 1 *3)).add 1)=some (.i ad)/\
 gP [b,c,d] aV #[.i (IntKind.wrap .i64 (g+ay))] w9 λau av aw az=>az.cell? ((x.add (Int.toNat 1 *3)).add 1)=some (.i ad)/\loc [b,c,d] az λbb=>bb.cell? ((x.add (Int.toNat 1 *3)).add 1)=some (.i ad)/\R (.returned (.tuple #[.agg #[.i au,.i av,.i aw],.bool (decide ((IntKind.wrap .i64 (g+ad))<=64))])) bb) (aH (k==21) (loc [b,c,d] w λbe=>gP [b,c,d] aV #[.i (IntKind.wrap .i64 ((IntKind.wrap .i64 (e - f))+1))] be λy z aa ag=>aH (decide (f>=0)) (aH (decide (f<=e)) (loc [b,c,d] ag λbf=>R (.returned (.tuple #[.agg #[.i y,.i z,.i aa],.bool (decide (e<g))])) bf) (loc [b,c,d] ag λbg=>R (.returned (.tuple #[.agg #[.i y,.i z,.i aa],.bool false])) bg)) (loc [b,c,d] ag λbh=>R (.returned (.tuple #[.agg #[.i y,.i z,.i aa],.bool false])) bh)) (aH (k==22) (aH (k==22) (eY b l m e f o p q r s c t u v d ab g ac w R) (hU j b l m e f o p q r s c t u v d ab g ac k w R)) (aH (k==23) (eY b l m e f o p q r s c t u v d ab g ac w R) (hU j b l m e f o p q r s c t u v d ab g ac k w R)))))
noncomputable def gG:=bK X [iH,vU,l8,fU,eT] (bG [2,1,1,1,2]) P2 fY
theorem cT (b:Int) (g:Sl) (j k l:Int) (m:ByteArray) (o p q:Int) (y:Sl) (w:World) (R:aD) (h:bH [] w λe w1=>
 bH [e] w1 λc w2=>
 (0:Int)<=0/\0<((y.n:Nat):Int)/\aX y.a λz=>dD w2 (z.add (Int.toNat 0 *3)) λr s t=>bH [e,c] w2 λf x=>
 aH (b==16) (aH (b==16) (loc [e,c,f] x λd=>dU c 0 0 0 d R) (loc [e,c,f] x λd=>fY y e b g j k l m o p q c 0 0 0 f r s t b d R)) (aH (b==17) (aH (b==17) (loc [e,c,f] x λd=>dU c 0 0 0 d R) (loc [e,c,f] x λd=>fY y e b g j k l m o p q c 0 0 0 f r s t b d R)) (aH (b==18) (aH (b==18) (loc [e,c,f] x λd=>dU c 0 0 0 d R) (loc [e,c,f] x λd=>fY y e b g j k l m o p q c 0 0 0 f r s t b d R)) (aH (b==33) (loc [e,c,f] x λd=>dU c 0 0 0 d R) (loc [e,c,f] x λd=>fY y e b g j k l m o p q c 0 0 0 f r s t b d R))))):Calls Tryz.prog jA #[.agg #[.i b,g.v,.i j,.i k,.u l,.string m,.i o,.i p,.i q],y.v] w R:=aP X [gG,iH,vU,l8,fU,eT] h
end enthymemeref07_result
namespace enthymemeref07_SortOf
noncomputable abbrev X:Fx:=⟨Tryz.prog,Tryz.f13,[],[3,4,10]⟩
abbrev P0:Ps:=[(0,.v [.s]),(3,.l [.I,.s,.I,.I,.U,.st,.I,.I,.I] aE),(4,.l [.I,.I,.I] aR),(7,.v [.s]),(8,.v [.I])]
def dY (n:Sl) (q:Nat) (a:Int) (b:Sl) (c d e:Int) (f:ByteArray) (g i j:Int) (r:Nat) (k l m:Int) (p:Sl) (o:Int) (w:World) (R:aD):Prop:=cG P0 0 (X.Sem (bG [0,1,1,1,5])) n q a b c d e f g i j r k l m p o w R
noncomputable def eK:=fZ X (bG [0,1,1,1,5]) P0 dY
abbrev P1:Ps:=[(4,.l [.I,.I,.I] aR),(10,.l [.I,.I,.I] aR),(12,.v [.b])]
abbrev fY (f:Nat) (g j k:Int) (e:Nat) (b c d:Int) (a:Bool) (w:World) (R:aD):Prop:=
 aH (!a) (loc [f,e] w λl=>R (.returned (.tuple #[.agg #[.i 0,.i 0,.i 0],.i 2])) l) (loc [f,e] w λm=>R (.returned (.tuple #[.agg #[.i b,.i c,.i d],.i 0])) m)
noncomputable def gG:=bK X [eK] (bG [11]) P1 fY
theorem aY:∀(g0:Sl) (d:Nat) (e:Int) (b:Sl) (q r s:Int) (l:ByteArray) (t x y:Int) (c:Nat) (m o p:Int) (k7:Sl) (i8:Int) (w:World) (R:aD) (h:aH (decide (i8<((b.n:Nat):Int))) ((0:Int)<=i8/\i8<((b.n:Nat):Int)/\aX b.a λag=>∃z:Int,w.cell? (ag.add (Int.toNat i8 *1))=some (.i z)/\
 (0:Int)<=z/\z<((g0.n:Nat):Int)/\aX g0.a λah=>dD w ((ah.add (Int.toNat z *9)).add 6) λai aj ak=>eV w (.cells #[.i ai,.i aj,.i ak] aR) λan=>
 ∃(am:Sl) (ab:World),Sem.run Tryz.prog (Builtin.append_ #[nJ,nJ] nJ #[k7.v,.slice (some (nb w)) 1 1]) an=.ok (am.v) ab/\kept [d,c] an ab/\dY g0 d e b q r s l t x y c m o p am (IntKind.wrap .i64 (i8+1)) ab R) (kn [d,c] lh #[.i e,k7.v] w λap ao=>aH (!ap) (loc [d,c] ao λar=>R (.returned (.tuple #[.agg #[.i 0,.i 0,.i 0],.i 9])) ar) (YA [d,c] jA #[.agg #[.i e,b.v,.i q,.i r,.u s,.string l,.i t,.i x,.i y],k7.v] ao λg j k al au=>bH [d,c] au λf ac=>
 aH (!al) (loc [d,c,f] ac λav=>R (.returned (.tuple #[.agg #[.i 0,.i 0,.i 0],.i 5])) av) (aH (e !=33) (loc [d,c,f] ac λad=>fY c m o p f g j k true ad R) (loc [d,c,f] ac λad=>kn [d,c,f] iu #[.string l] ad λaq aw=>fY c m o p f g j k aq aw R))))),dY g0 d e b q r s l t x y c m o p k7 i8 w R:=mp (dA (X:=X) [gG,eK] (bG [0,1,1,1,5]) P0)
theorem cT (r:Sl) (b:Int) (a:Sl) (c d e:Int) (f:ByteArray) (g j k:Int) (w:World) (R:aD) (h:bH [] w λl z=>
 bH [l] z λq w2=>
 mX [l,q] jz #[r.v,.agg #[.i b,a.v,.i c,.i d,.u e,.string f,.i g,.i j,.i k]] w2 λt x=>aH (t !=0) (loc [l,q] x λw6=>R (.returned (.tuple #[.agg #[.i 0,.i 0,.i 0],.i t])) w6) (aH (((a.n:Nat):Int)==0) (gU [l,q] kG #[r.v,.agg #[.i b,a.v,.i c,.i d,.u e,.string f,.i g,.i j,.i k]] x λm o p s w7=>loc [l,q] w7 λy=>R (.returned (.tuple #[.agg #[.i m,.i o,.i p],.i s])) y) (dY r l b a c d e f g j k q 0 0 0 ⟨none,0,0⟩ 0 x R))):Calls Tryz.prog eN #[r.v,.agg #[.i b,a.v,.i c,.i d,.u e,.string f,.i g,.i j,.i k]] w R:=aP X [gG,eK] h
end enthymemeref07_SortOf
namespace enthymemeref07_Same
noncomputable abbrev X:Fx:=⟨Tryz.prog,Tryz.f52,[],[2,3]⟩
theorem cT (b:Int) (c:Sl) (d e f:Int) (g:ByteArray) (j k l m:Int) (n:Sl) (o p q:Int) (r:ByteArray) (s t x:Int) (w:World) (R:aD) (h:bH [] w λy w1=>
 bH [y] w1 λb3 a=>
 aH (b==m) (aH (d==o) (aH (e==p) (aH (f==q) (aH (g.toList==r.toList) (aH ((j==s)&&((k==t)&&((l==x)&&true))) (kn [y,b3] iM #[c.v,n.v] a λz w3=>R (.returned (.bool z)) w3) (R (.returned (.bool false)) a)) (R (.returned (.bool false)) a)) (R (.returned (.bool false)) a)) (R (.returned (.bool false)) a)) (R (.returned (.bool false)) a)) (R (.returned (.bool false)) a)):Calls Tryz.prog kF #[.agg #[.i b,c.v,.i d,.i e,.u f,.string g,.i j,.i k,.i l],.agg #[.i m,n.v,.i o,.i p,.u q,.string r,.i s,.i t,.i x]] w R:=aP X [] h
end enthymemeref07_Same
namespace enthymemeref07_Index
noncomputable abbrev X:Fx:=⟨Tryz.prog,Tryz.f51,[(7,ls [0,1,2,3,4,5,6])],[3,5]⟩
abbrev P0:Ps:=[(0,.v [.s]),(3,.l [.I,.s,.I,.I,.U,.st,.I,.I,.I] aE),(7,.v [.I])]
def l6 (k:Sl) (m:Nat) (a:Int) (b:Sl) (c d e:Int) (f:ByteArray) (g i j l:Int) (w:World) (R:aD):Prop:=cG P0 0 (X.Sem (bG [0,1,1,1,3])) k m a b c d e f g i j l w R
noncomputable def km:=fZ X (bG [0,1,1,1,3]) P0 l6
theorem dI:∀(o:Sl) (p:Nat) (c:Int) (d:Sl) (e f g:Int) (j:ByteArray) (k l m b:Int) (w:World) (R:aD) (h:aH (decide (b<((o.n:Nat):Int))) ((0:Int)<=b/\b<((o.n:Nat):Int)/\aX o.a λq=>loc [p] w λw1=>tG w1 (q.add (Int.toNat b *9)) λr s t x y z aa ab ac=>kn [p] kF #[.agg #[.i r,s.v,.i t,.i x,.u y,.string z,.i aa,.i ab,.i ac],.agg #[.i c,d.v,.i e,.i f,.u g,.string j,.i k,.i l,.i m]] w1 λad w2=>aH ad (R (.returned (.i b)) w2) (l6 o p c d e f g j k l m (IntKind.wrap .i64 (b+1)) w2 R)) (R (.returned (.i (-1))) w)),l6 o p c d e f g j k l m b w R:=mp (dA (X:=X) [km] (bG [0,1,1,1,3]) P0)
abbrev P1:Ps:=[(0,.v [.s]),(3,.l [.I,.s,.I,.I,.U,.st,.I,.I,.I] aE)]
abbrev dU (k:Sl) (l:Nat) (a:Int) (b:Sl) (c d e:Int) (f:ByteArray) (g i j:Int) (w:World) (R:aD):Prop:=
 l6 k l a b c d e f g i j 0 w R
noncomputable def eT:=bK X [km] (bG [3]) P1 dU
theorem cT (p:Sl) (a:Int) (b:Sl) (c d e:Int) (f:ByteArray) (g j k:Int) (w:World) (R:aD) (h:bH [] w λl t=>
 gU [l] eN #[p.v,.agg #[.i a,b.v,.i c,.i d,.u e,.string f,.i g,.i j,.i k]] t λm n o q x=>bH [l] x λr s=>
 aH (q==0) (loc [l,r] s λz=>dU p l a b c d e f m n o z R) (loc [l,r] s λy=>dU p l a b c d e f g j k y R)):Calls Tryz.prog ic #[p.v,.agg #[.i a,b.v,.i c,.i d,.u e,.string f,.i g,.i j,.i k]] w R:=aP X [eT,km] h
end enthymemeref07_Index
namespace enthymemeref07_Add
noncomputable abbrev X:Fx:=⟨Tryz.prog,Tryz.f15,[(10,(.sq [1,3,6,7] (.fork (.sq [0] (.fork (ls [2,4,5,8,9,10]) (ls [4,2,5,8,9,10]))) (ls [4,0,2,5,8,9,10]))))],[3,7]⟩
theorem cT (o:Sl) (e:Int) (f:Sl) (g j k:Int) (l:ByteArray) (ad ae af:Int) (w:World) (R:aD) (h:bH [] w λd w1=>
 gU [d] eN #[o.v,.agg #[.i e,f.v,.i g,.i j,.u k,.string l,.i ad,.i ae,.i af]] w1 λa b c x w2=>bH [d] w2 λm w3=>
 aH (x !=0) (loc [d,m] w3 λw6=>R (.returned (.tuple #[.slice none 0 0,.i 0,.i x])) w6) (loc [d,m] w3 λw9=>mX [d,m] ic #[o.v,.agg #[.i e,f.v,.i g,.i j,.u k,.string l,.i a,.i b,.i c]] w9 λaj y=>aH (decide (aj>=0)) (R (.returned (.tuple #[o.v,.i aj,.i 0])) y) (aH (decide (((o.n:Nat):Int)>=4096)) (R (.returned (.tuple #[.slice none 0 0,.i 0,.i 4])) y) (((loc [d,m] y λp=>eV p (.cells #[] aE) λz=>
 ((∃(ak:Sl) (aa:World),Sem.run Tryz.prog (Builtin.append_ #[aG,aG] aG #[.slice (some (nb p)) 0 0,o.v]) z=.ok (ak.v) aa/\kept [d,m] z aa/\eV aa (.cells #[.i e,f.v,.i g,.i j,.u k,.string l,.i a,.i b,.i c] aE) λam=>
 ∃(al:Sl) (ag:World),Sem.run Tryz.prog (Builtin.append_ #[aG,aG] aG #[ak.v,.slice (some (nb aa)) 1 1]) am=.ok (al.v) ag/\kept [d,m] am ag/\R (.returned (.tuple #[al.v,.i ((o.n:Nat):Int),.i 0])) ag)/\(eV z (.cells #[.i e,f.v,.i g,.i j,.u k,.string l,.i a,.i b,.i c] aE) λan=>
 ∃(q:Sl) (ab:World),Sem.run Tryz.prog (Builtin.append_ #[aG,aG] aG #[.slice (some (nb p)) 0 0,o.v]) an=.ok (q.v) ab/\kept [d,m] an ab/\∃(s:Sl) (ah:World),Sem.run Tryz.prog (Builtin.append_ #[aG,aG] aG #[q.v,.slice (some (nb z)) 1 1]) ab=.ok (s.v) ah/\kept [d,m] ab ah/\R (.returned (.tuple #[s.v,.i ((o.n:Nat):Int),.i 0])) ah)))/\(loc [d,m] y λp=>eV p (.cells #[.i e,f.v,.i g,.i j,.u k,.string l,.i a,.i b,.i c] aE) λao=>
 eV ao (.cells #[] aE) λap=>
 ∃(r:Sl) (ac:World),Sem.run Tryz.prog (Builtin.append_ #[aG,aG] aG #[.slice (some (nb ao)) 0 0,o.v]) ap=.ok (r.v) ac/\kept [d,m] ap ac/\∃(t:Sl) (ai:World),Sem.run Tryz.prog (Builtin.append_ #[aG,aG] aG #[r.v,.slice (some (nb p)) 1 1]) ac=.ok (t.v) ai/\kept [d,m] ac ai/\R (.returned (.tuple #[t.v,.i ((o.n:Nat):Int),.i 0])) ai)))))):Calls Tryz.prog lg #[o.v,.agg #[.i e,f.v,.i g,.i j,.u k,.string l,.i ad,.i ae,.i af]] w R:=aP X [] h
end enthymemeref07_Add
namespace enthymemeref07_start
noncomputable abbrev X:Fx:=⟨Tryz.prog,Tryz.f38,[],[]⟩
abbrev P0:Ps:=[(3,.v [.s])]
abbrev S1 (a:Sl) (w:World) (R:aD):Prop:=
 R (.returned (a.v)) w
noncomputable def gG:=bK X [] (bG [4]) P0 S1
abbrev P1:Ps:=[(0,.v [.I]),(3,.v [.s])]
abbrev S0 (a:Int) (n:Sl) (w:World) (R:aD):Prop:=
 aH (decide (a>1)) (FN bS #[.i 2] w λb c d q=>FN bS #[.i 1] q λe f g r=>FN aV #[.i 7] r λj k l o=>eV o (.cells #[.i 0,.slice none 0 0,.i 0,.i 0,.u 0,.string (ByteArray.mk #[115]),.i b,.i c,.i d,.i 0,.slice none 0 0,.i 0,.i 0,.u 0,.string (ByteArray.mk #[116]),.i e,.i f,.i g,.i 0,.slice none 0 0,.i 0,.i 0,.u 0,.string (ByteArray.mk #[105]),.i j,.i k,.i l,.i 0,.slice none 0 0,.i 0,.i 0,.u 0,.string (ByteArray.mk #[122]),.i 3,.i 1,.i 1] aE) λs=>
 ∃(m:Sl) (p:World),Sem.run Tryz.prog (Builtin.append_ #[aG,aG] aG #[n.v,.slice (some (nb o)) 4 4]) s=.ok (m.v) p/\S1 m p R) (S1 n w R)
noncomputable def eT:=bK X [gG] (bG [3]) P1 S0
theorem ok (a:Int) (w:World) (R:aD) (h:FN aV #[.i 2] w λf g j t=>FN aV #[.i 2] t λk l m x=>FN aV #[.i 1] x λn o p y=>FN aV #[.i 3] y λb c d q=>eV q (.cells #[.i 0,.slice none 0 0,.i 0,.i 0,.u 0,.string (ByteArray.mk #[97]),.i f,.i g,.i j,.i 0,.slice none 0 0,.i 0,.i 0,.u 0,.string (ByteArray.mk #[98]),.i k,.i l,.i m,.i 0,.slice none 0 0,.i 0,.i 0,.u 0,.string (ByteArray.mk #[99]),.i n,.i o,.i p,.i 0,.slice none 0 0,.i 0,.i 0,.u 0,.string (ByteArray.mk #[100]),.i b,.i c,.i d] aE) λr=>
 aH (decide (a>0)) (eV r (.cells #[.i 0,.slice none 0 0,.i 0,.i 0,.u 0,.string (ByteArray.mk #[109]),.i 2,.i 2,.i 1,.i 0,.slice none 0 0,.i 0,.i 0,.u 0,.string (ByteArray.mk #[110]),.i 2,.i 2,.i 1] aE) λz=>
 ∃(e:Sl) (s:World),Sem.run Tryz.prog (Builtin.append_ #[aG,aG] aG #[.slice (some (nb q)) 4 4,.slice (some (nb r)) 2 2]) z=.ok (e.v) s/\S0 a e s R) (S0 a ⟨some (nb q),4,4⟩ r R)):Calls Tryz.prog jZ #[.i a] w R:=aP X [eT,gG] h
end enthymemeref07_start
namespace enthymemeref07_Like
noncomputable abbrev X:Fx:=⟨Tryz.prog,Tryz.f78,[(5,ls [0,1,2,3,4,5,6])],[4]⟩
abbrev P0:Ps:=[(0,.v [.s]),(2,.v [.I]),(4,.l [.I,.I,.I] aR),(7,.v [.s]),(8,.v [.I])]
def dY (d:Sl) (g:Int) (i:Nat) (a b c:Int) (f:Sl) (e:Int) (w:World) (R:aD):Prop:=cG P0 0 (X.Sem (bG [0,1,1,1,2])) d g i a b c f e w R
noncomputable def eK:=fZ X (bG [0,1,1,1,2]) P0 dY
abbrev fY (d:Sl) (g:Int) (i:Nat) (a b c:Int) (f:Sl) (e:Int) (w:World) (R:aD):Prop:=
 dY d g i a b c f (IntKind.wrap .i64 (e+1)) w R
noncomputable def gG:=bK X [eK] (bG [2,2,1,1,2]) P0 fY
theorem aY:∀(g:Sl) (l:Int) (j:Nat) (b c d:Int) (f:Sl) (e:Int) (w:World) (R:aD) (h:aH (decide (e<((g.n:Nat):Int))) ((0:Int)<=e/\e<((g.n:Nat):Int)/\aX g.a λm=>loc [j] w λs=>dD s ((m.add (Int.toNat e *9)).add 6) λo p q=>aH ((o==b)&&((p==c)&&((q==d)&&true))) (eV s (.cells #[.i e] bW) λy=>
 ∃(t:Sl) (x:World),Sem.run Tryz.prog (Builtin.append_ #[gv,gv] gv #[f.v,.slice (some (nb s)) 1 1]) y=.ok (t.v) x/\kept [j] y x/\fY g l j b c d t e x R) (fY g l j b c d f e s R)) (aH (((f.n:Nat):Int)==0) (R (.returned (.i (-1))) w) (mX [j] aT #[.i l,.i ((f.n:Nat):Int)] w λk z=>(0:Int)<=k/\k<((f.n:Nat):Int)/\aX f.a λr=>∃u:Int,z.cell? (r.add (Int.toNat k *1))=some (.i u)/\
 R (.returned (.i u)) z))),dY g l j b c d f e w R:=mp (dA (X:=X) [gG,eK] (bG [0,1,1,1,2]) P0)
theorem cT (d:Sl) (a b c e:Int) (w:World) (R:aD) (h:bH [] w λf g=>
 dY d e f a b c ⟨none,0,0⟩ 0 g R):Calls Tryz.prog gF #[d.v,.agg #[.i a,.i b,.i c],.i e] w R:=aP X [gG,eK] h
end enthymemeref07_Like
namespace enthymemeref07_wanted
noncomputable abbrev X:Fx:=⟨Tryz.prog,Tryz.f79,[],[10,11]⟩
abbrev P0:Ps:=[(4,.v [.I]),(10,.l [.I,.I,.I] aR)]
abbrev dU (k:Int) (a:Nat) (f g j:Int) (w:World) (R:aD):Prop:=
 mX [a] aT #[.i k,.i 3] w λe l=>gP [a] bS #[.i e] l λb c d m=>loc [a] m λn=>R (.returned (.agg #[.i b,.i c,.i d])) n
noncomputable def eT:=bK X [] (bG [0,1,11,1,1,1,2]) P0 dU
abbrev P1:Ps:=[(10,.l [.I,.I,.I] aR),(11,.l [.I,.I,.I] aR)]
abbrev fY (d:Nat) (f g j:Int) (e:Nat) (a b c:Int) (w:World) (R:aD):Prop:=
 loc [d,e] w λk=>R (.returned (.agg #[.i a,.i b,.i c])) k
noncomputable def gG:=bK X [eT] (bG [3]) P1 fY
theorem cT (m:Sl) (e g p o:Int) (w:World) (R:aD) (h:bH [] w λb w1=>
 (0:Int)<=g/\g<((m.n:Nat):Int)/\aX m.a λr=>dD w1 ((r.add (Int.toNat g *9)).add 6) λk l f=>bH [b] w1 λc j=>
 aH (e==19) (loc [b,c] j λd=>mX [b,c] aT #[.i o,.i ((m.n:Nat):Int)] d λq w6=>(0:Int)<=q/\q<((m.n:Nat):Int)/\aX m.a λs=>dD w6 ((s.add (Int.toNat q *9)).add 6) λt u x=>loc [b,c] w6 λw9=>R (.returned (.agg #[.i t,.i u,.i x])) w9) (aH (e==20) (loc [b,c] j λd=>mX [b,c] aT #[.i o,.i 3] d λan ap=>gP [b,c] aV #[.i (IntKind.wrap .i64 (1+an))] ap λy z aa aq=>loc [b,c] aq λar=>R (.returned (.agg #[.i y,.i z,.i aa])) ar) (aH (e==24) (loc [b,c] j λd=>gP [b,c] aV #[.i f] d λab ac ad au=>loc [b,c] au λav=>R (.returned (.agg #[.i ab,.i ac,.i ad])) av) (aH (e==25) (aH (p==1) (loc [b,c] j λd=>gP [b,c] aV #[.i f] d λae af ag aw=>loc [b,c] aw λax=>R (.returned (.agg #[.i ae,.i af,.i ag])) ax) (loc [b,c] j λd=>gP [b,c] fH #[.agg #[.i k,.i l,.i f]] d λah ai aj ay=>loc [b,c] ay λaz=>R (.returned (.agg #[.i ah,.i ai,.i aj])) az)) (aH (e==30) (loc [b,c] j λd=>gP [b,c] aV #[.i 7] d λak al am bb=>loc [b,c] bb λbc=>R (.returned (.agg #[.i ak,.i al,.i am])) bc) (aH (e==29) (aH (e==29) (loc [b,c] j λd=>dU o b 0 0 0 d R) (loc [b,c] j λd=>fY b 0 0 0 c k l f d R)) (aH (e==31) (aH (e==31) (loc [b,c] j λd=>dU o b 0 0 0 d R) (loc [b,c] j λd=>fY b 0 0 0 c k l f d R)) (aH (e==32) (loc [b,c] j λd=>dU o b 0 0 0 d R) (loc [b,c] j λd=>fY b 0 0 0 c k l f d R))))))))):Calls Tryz.prog jB #[m.v,.i e,.i g,.i p,.i o] w R:=aP X [gG,eT] h
end enthymemeref07_wanted
namespace bL
noncomputable abbrev X:Fx:=⟨Tryz.prog,Tryz.f39,[(38,ls [0,1,2,3,4,5,6,7,8,9,10,11,12])],[8,10,16]⟩
abbrev P0:Ps:=[(0,.v [.s]),(2,.v [.I]),(3,.v [.I]),(8,.l [.I,.s,.I,.I,.U,.st,.I,.I,.I] aE),(10,.l [.I,.s,.I,.I,.U,.st,.I,.I,.I] aE),(11,.v [.I]),(13,.v [.I]),(14,.v [.I])]
def BF (y:Sl) (m2 z:Int) (t8:Nat) (m:Int) (n:Sl) (o p q:Int) (r:ByteArray) (s t u:Int) (l:Nat) (a:Int) (b:Sl) (c d e:Int) (f:ByteArray) (g i j x k v:Int) (w:World) (R:aD):Prop:=cG P0 0 (X.Sem (bG [0,1,1,1,8])) y m2 z t8 m n o p q r s t u l a b c d e f g i j x k v w R
noncomputable def vT:=fZ X (bG [0,1,1,1,8]) P0 BF
abbrev P1:Ps:=[(0,.v [.s]),(2,.v [.I]),(3,.v [.I]),(8,.l [.I,.s,.I,.I,.U,.st,.I,.I,.I] aE),(10,.l [.I,.s,.I,.I,.U,.st,.I,.I,.I] aE),(11,.v [.I]),(13,.v [.I]),(14,.v [.I]),(15,.v [.I])]
abbrev Hi (g0:Sl) (m2 k3:Int) (q:Nat) (s:Int) (t:Sl) (x y z:Int) (aa:ByteArray) (ab ac ad:Int) (a:Nat) (c:Int) (d:Sl) (e f g:Int) (j:ByteArray) (k l m ag n ae b:Int) (w:World) (R:aD):Prop:=
 aH (decide (b<0)) (loc [q,a] w λw9=>R (.returned (.agg #[.i (-1),.slice none 0 0,.i 0,.i 0,.u 0,.s0,.i 0,.i 0,.i 0])) w9) (eV w (.cells #[.i b] bW) λr=>
 ∃(o:Sl) (p:World),Sem.run Tryz.prog (Builtin.append_ #[gv,gv] gv #[d.v,.slice (some (nb w)) 1 1]) r=.ok (o.v) p/\kept [q,a] r p/\loc [q,a] p λaf=>BF g0 m2 k3 q s t x y z aa ab ac ad a c o e f g j k l m ag n (IntKind.wrap .i64 (ae+1)) af R)
noncomputable def uC:=bK X [vT] (bG [2,2,1,2,1,1,8]) P1 Hi
abbrev P2:Ps:=[(0,.v [.s]),(2,.v [.I]),(3,.v [.I]),(8,.l [.I,.s,.I,.I,.U,.st,.I,.I,.I] aE),(10,.l [.I,.s,.I,.I,.U,.st,.I,.I,.I] aE),(11,.v [.I]),(13,.v [.I]),(14,.v [.I]),(16,.l [.I,.I,.I] aR)]
abbrev xj (g0:Sl) (m2 k3:Int) (t:Nat) (u:Int) (x:Sl) (y z aa:Int) (ab:ByteArray) (ac ad ae:Int) (a:Nat) (c:Int) (d:Sl) (e f g:Int) (j:ByteArray) (k l m ai n b:Int) (r:Nat) (o p q:Int) (w:World) (R:aD):Prop:=
 (IntKind.wrap .i64 (1+(IntKind.wrap .i64 (5 *b))))≠0/\loc [t,a,r] w λw1=>mX [t,a,r] gF #[g0.v,.agg #[.i o,.i p,.i q],.i (IntKind.wrap .i64 ((IntKind.wrap .i64 (Int.tdiv k3 (IntKind.wrap .i64 (1+(IntKind.wrap .i64 (5 *b))))))+(IntKind.wrap .i64 (b *m2))))] w1 λs w2=>Hi g0 m2 k3 t u x y z aa ab ac ad ae a c d e f g j k l m ai n b s w2 R
noncomputable def rH:=bK X [uC,vT] (bG [2,1,1,1,1,2,1,2,1,1,8]) P2 xj
theorem m8:∀(g0:Sl) (m2 k3:Int) (r:Nat) (s:Int) (t:Sl) (x y z:Int) (aa:ByteArray) (ab ac ad:Int) (b:Nat) (c:Int) (d:Sl) (e f g:Int) (j:ByteArray) (k l m q o p:Int) (w:World) (R:aD) (h:aH (decide (p<o)) (aH (decide (p>0)) (aH (decide (q>=0)) (gP [r,b] jB #[g0.v,.i c,.i q,.i p,.i m2] w λah ai aj w1=>bH [r,b] w1 λae w2=>
 aH (c==19) (aH (p==2) ((0:Int)<=1/\1<((d.n:Nat):Int)/\aX d.a λan=>loc [r,b,ae] w2 λw5=>∃ag:Int,w5.cell? (an.add (Int.toNat 1 *1))=some (.i ag)/\
 (0:Int)<=ag/\ag<((g0.n:Nat):Int)/\aX g0.a λao=>dD w5 ((ao.add (Int.toNat ag *9)).add 6) λap aq ar=>loc [r,b,ae] w5 λw8=>xj g0 m2 k3 r s t x y z aa ab ac ad b c d e f g j k l m q o p ae ap aq ar w8 R) (loc [r,b,ae] w2 λw5=>xj g0 m2 k3 r s t x y z aa ab ac ad b c d e f g j k l m q o p ae ah ai aj w5 R)) (loc [r,b,ae] w2 λw5=>xj g0 m2 k3 r s t x y z aa ab ac ad b c d e f g j k l m q o p ae ah ai aj w5 R)) (Hi g0 m2 k3 r s t x y z aa ab ac ad b c d e f g j k l m q o p q w R)) (Hi g0 m2 k3 r s t x y z aa ab ac ad b c d e f g j k l m q o p q w R)) (loc [r,b] w λav=>R (.returned (.agg #[.i c,d.v,.i e,.i f,.u g,.string j,.i k,.i l,.i m])) av)),BF g0 m2 k3 r s t x y z aa ab ac ad b c d e f g j k l m q o p w R:=mp (dA (X:=X) [rH,uC,vT] (bG [0,1,1,1,8]) P0)
abbrev P3:Ps:=[(0,.v [.s]),(2,.v [.I]),(3,.v [.I]),(8,.l [.I,.s,.I,.I,.U,.st,.I,.I,.I] aE),(10,.l [.I,.s,.I,.I,.U,.st,.I,.I,.I] aE),(11,.v [.I]),(13,.v [.I])]
abbrev pj (x:Sl) (z y:Int) (t8:Nat) (m:Int) (n:Sl) (o p q:Int) (r:ByteArray) (s t u:Int) (l:Nat) (a:Int) (b:Sl) (c d e:Int) (f:ByteArray) (g i j v k:Int) (w:World) (R:aD):Prop:=
 BF x z y t8 m n o p q r s t u l a b c d e f g i j v k 0 w R
noncomputable def l8:=bK X [rH,uC,vT] (bG [8]) P3 pj
abbrev P4:Ps:=[(0,.v [.s]),(1,.v [.I]),(2,.v [.I]),(3,.v [.I]),(8,.l [.I,.s,.I,.I,.U,.st,.I,.I,.I] aE),(10,.l [.I,.s,.I,.I,.U,.st,.I,.I,.I] aE),(11,.v [.I]),(13,.v [.I])]
abbrev hU (g0:Sl) (n1 m2 k3:Int) (t8:Nat) (q:Int) (r:Sl) (s t u:Int) (x:ByteArray) (y z aa:Int) (b:Nat) (a:Int) (c:Sl) (d e f:Int) (g:ByteArray) (j k l ag m:Int) (w:World) (R:aD):Prop:=
 aH (a==34) (gP [t8,b] aV #[.i 8] w λn o p w1=>mX [t8,b] gF #[g0.v,.agg #[.i n,.i o,.i p],.i (IntKind.wrap .i64 (Int.tdiv n1 64))] w1 λad w2=>pj g0 m2 k3 t8 q r s t u x y z aa b a c d e f g j k l ad m w2 R) (pj g0 m2 k3 t8 q r s t u x y z aa b a c d e f g j k l ag m w R)
noncomputable def iH:=bK X [l8,rH,uC,vT] (bG [7]) P4 hU
abbrev P5:Ps:=[(0,.v [.s]),(1,.v [.I]),(2,.v [.I]),(3,.v [.I]),(8,.l [.I,.s,.I,.I,.U,.st,.I,.I,.I] aE),(10,.l [.I,.s,.I,.I,.U,.st,.I,.I,.I] aE),(11,.v [.I])]
abbrev eY (g0:Sl) (n1 m2 k3:Int) (q:Nat) (r:Int) (s:Sl) (t u x:Int) (y:ByteArray) (z aa ab:Int) (b:Nat) (a:Int) (c:Sl) (d e f:Int) (g:ByteArray) (j k l ai:Int) (w:World) (R:aD):Prop:=
 mX [q,b] iC #[.i a] w λm w1=>aH (a==19) (gP [q,b] aV #[.i 1] w1 λn o p w2=>mX [q,b] gF #[g0.v,.agg #[.i n,.i o,.i p],.i (IntKind.wrap .i64 (Int.tdiv n1 64))] w2 λae w3=>hU g0 n1 m2 k3 q r s t u x y z aa ab b a c d e f g j k l ae m w3 R) (hU g0 n1 m2 k3 q r s t u x y z aa ab b a c d e f g j k l ai m w1 R)
noncomputable def fU:=bK X [iH,l8,rH,uC,vT] (bG [5]) P5 eY
abbrev P6:Ps:=[(0,.v [.s]),(1,.v [.I]),(2,.v [.I]),(3,.v [.I]),(8,.l [.I,.s,.I,.I,.U,.st,.I,.I,.I] aE),(10,.l [.I,.s,.I,.I,.U,.st,.I,.I,.I] aE),(11,.v [.I]),(12,.v [.I])]
abbrev fY (g0:Sl) (n1 m2 k3:Int) (j:Nat) (n:Int) (o:Sl) (p q r:Int) (s:ByteArray) (t u v:Int) (a:Nat) (c:Int) (d:Sl) (e f x:Int) (g:ByteArray) (y z aa ad b:Int) (w:World) (R:aD):Prop:=
 gP [j,a] aV #[.i b] w λk l m w1=>¬(IntKind.wrap .u64 (if 3<b then 3 else b))<0/\loc [j,a] w1 λw4=>mX [j,a] aT #[.i k3,.i (IntKind.wrap .i64 (1 *2^(min (Int.toNat (IntKind.wrap .u64 (if 3<b then 3 else b))) (IntKind.bits .i64))))] w4 λac w5=>loc [j,a] w5 λw6=>eY g0 n1 m2 k3 j n o p q r s t u v a c d e f (IntKind.wrap .u64 ac) g k l m ad w6 R
noncomputable def gG:=bK X [fU,iH,l8,rH,uC,vT] (bG [2,1,1,1,1,1,4]) P6 fY
abbrev dU (y:Sl) (n1 z v:Int) (t8:Nat) (l:Int) (m:Sl) (n o p:Int) (q:ByteArray) (r s t:Int) (k:Nat) (a:Int) (b:Sl) (c d e:Int) (f:ByteArray) (g i j u x:Int) (w:World) (R:aD):Prop:=
 aH ((Int.tmod v 7)==0) (fY y n1 z v t8 l m n o p q r s t k a b c d e f g i j u 7 w R) (fY y n1 z v t8 l m n o p q r s t k a b c d e f g i j u x w R)
noncomputable def eT:=bK X [gG,fU,iH,l8,rH,uC,vT] (bG [1,1,1,1,1,1,4]) P6 dU
abbrev QI (g0:Sl) (n1 x k3:Int) (l:Nat) (m:Int) (n:Sl) (o p q:Int) (r:ByteArray) (s t u:Int) (a:Nat) (b:Int) (c:Sl) (v d e:Int) (f:ByteArray) (g j k z:Int) (w:World) (R:aD):Prop:=
 mX [l,a] aT #[.i x,.i 2] w λy w1=>loc [l,a] w1 λw2=>eY g0 n1 x k3 l m n o p q r s t u a b c (IntKind.wrap .i64 (1+y)) d e f g j k z w2 R
noncomputable def DA:=bK X [eT,gG,fU,iH,l8,rH,uC,vT] (bG [0,1,9,1,1,1,4]) P5 QI
abbrev P7:Ps:=[(0,.v [.s]),(1,.v [.I]),(2,.v [.I]),(3,.v [.I]),(8,.l [.I,.s,.I,.I,.U,.st,.I,.I,.I] aE),(10,.l [.I,.s,.I,.I,.U,.st,.I,.I,.I] aE),(11,.v [.I]),(32,.v [.I])]
abbrev Yk (g0:Sl) (n1 x k3:Int) (m:Nat) (n:Int) (o:Sl) (p q r:Int) (s:ByteArray) (t u v:Int) (a:Nat) (b:Int) (c:Sl) (k d e:Int) (l:ByteArray) (f g j y z:Int) (w:World) (R:aD):Prop:=
 aH (z==28) (mX [m,a] aT #[.i x,.i 3] w λae w1=>loc [m,a] w1 λw2=>eY g0 n1 x k3 m n o p q r s t u v a b c ae d e l f g j y w2 R) (aH (z==33) (pE [m,a] kD #[.i x] w λad w3=>loc [m,a] w3 λw4=>eY g0 n1 x k3 m n o p q r s t u v a b c k d e ad f g j y w4 R) (eY g0 n1 x k3 m n o p q r s t u v a b c k d e l f g j y w R))
noncomputable def Jk:=bK X [DA,eT,gG,fU,iH,l8,rH,uC,vT] (bG [10,1,1,1,4]) P7 Yk
theorem cT (j:Sl) (k g l:Int) (w:World) (R:aD) (h:bH [] w λd w1=>
 eV w1 (.cells #[.i 4,.i 5,.i 6,.i 7,.i 8,.i 9,.i 10,.i 11,.i 12,.i 13,.i 14,.i 15,.i 16,.i 17,.i 18,.i 19,.i 20,.i 21,.i 22,.i 23,.i 24,.i 25,.i 26,.i 27,.i 28,.i 29,.i 30,.i 31,.i 32,.i 33,.i 34,.i 1,.i 2,.i 3,.i 18,.i 18,.i 16,.i 6,.i 24,.i 25] bW) λw2=>
 mX [d] aT #[.i k,.i ((40:Nat):Int)] w2 λm w3=>(0:Int)<=m/\m<((40:Nat):Int)/\aX (some (nb w1)) λr=>∃c:Int,w3.cell? (r.add (Int.toNat m *1))=some (.i c)/\
 bH [d] w3 λb w4=>
 loc [d,b] w4 λah=>mX [d,b] aT #[.i (IntKind.wrap .i64 (Int.tdiv k 64)),.i ((j.n:Nat):Int)] ah λe f=>aH (c==1) (mX [d,b] aT #[.i g,.i 3] f λae ai=>dU j k g l d 0 ⟨none,0,0⟩ 0 0 0 (ByteArray.mk #[]) 0 0 0 b c ⟨none,0,0⟩ 0 0 0 (ByteArray.mk #[]) 0 0 0 e (IntKind.wrap .i64 (1+ae)) ai R) (aH (c==2) (eV f (.cells #[.s0,.string (ByteArray.mk #[97]),.string (ByteArray.mk #[97,98]),.string (ByteArray.mk #[98]),.string (ByteArray.mk #[0]),.string (ByteArray.mk #[97,97])] cF) λaj=>
 mX [d,b] aT #[.i g,.i 6] aj λo ac=>(0:Int)<=o/\o<((6:Nat):Int)/\aX (some (nb f)) λs=>∃aa:ByteArray,ac.cell? (s.add (Int.toNat o *1))=some (.string aa)/\
 loc [d,b] ac λak=>eY j k g l d 0 ⟨none,0,0⟩ 0 0 0 (ByteArray.mk #[]) 0 0 0 b c ⟨none,0,0⟩ 0 0 0 aa 0 0 0 e ak R) (aH (c==3) (eV f (.cells #[.i 2,.i 2,.i 1,.i 3,.i 1,.i 1] aR) λal=>
 mX [d,b] aT #[.i g,.i 2] al λp ad=>(0:Int)<=p/\p<((2:Nat):Int)/\aX (some (nb f)) λt=>dD ad (t.add (Int.toNat p *3)) λu x y=>loc [d,b] ad λam=>eY j k g l d 0 ⟨none,0,0⟩ 0 0 0 (ByteArray.mk #[]) 0 0 0 b c ⟨none,0,0⟩ 0 0 0 (ByteArray.mk #[]) u x y e am R) (aH (c==21) ((0:Int)<=e/\e<((j.n:Nat):Int)/\aX j.a λz=>∃q:Int,f.cell? (((z.add (Int.toNat e *9)).add 6).add 1)=some (.i q)/\
 mX [d,b] aT #[.i g,.i (if 1<q then q else 1)] f λab an=>loc [d,b] an λao=>mX [d,b] aT #[.i l,.i (IntKind.wrap .i64 (ab+1))] ao λaf ap=>loc [d,b] ap λaq=>eY j k g l d 0 ⟨none,0,0⟩ 0 0 0 (ByteArray.mk #[]) 0 0 0 b c ⟨none,0,0⟩ ab af 0 (ByteArray.mk #[]) 0 0 0 e aq R) (aH (c==22) (aH (c==22) (QI j k g l d 0 ⟨none,0,0⟩ 0 0 0 (ByteArray.mk #[]) 0 0 0 b c ⟨none,0,0⟩ 0 0 0 (ByteArray.mk #[]) 0 0 0 e f R) (Yk j k g l d 0 ⟨none,0,0⟩ 0 0 0 (ByteArray.mk #[]) 0 0 0 b c ⟨none,0,0⟩ 0 0 0 (ByteArray.mk #[]) 0 0 0 e c f R)) (aH (c==23) (QI j k g l d 0 ⟨none,0,0⟩ 0 0 0 (ByteArray.mk #[]) 0 0 0 b c ⟨none,0,0⟩ 0 0 0 (ByteArray.mk #[]) 0 0 0 e f R) (Yk j k g l d 0 ⟨none,0,0⟩ 0 0 0 (ByteArray.mk #[]) 0 0 0 b c ⟨none,0,0⟩ 0 0 0 (ByteArray.mk #[]) 0 0 0 e c f R))))))):Calls Tryz.prog iD #[j.v,.i k,.i g,.i l] w R:=aP X [Jk,DA,eT,gG,fU,iH,l8,rH,uC,vT] h
end bL
namespace enthymemeref07_size
noncomputable abbrev X:Fx:=⟨Tryz.prog,Tryz.f41,[],[]⟩
abbrev P0:Ps:=[(0,.v [.s]),(1,.v [.I]),(5,.v [.I]),(6,.v [.I])]
def L0 (a:Sl) (b d c:Int) (w:World) (R:aD):Prop:=cG P0 0 (X.Sem (bG [0,1,1,1,2])) a b d c w R
noncomputable def eK:=fZ X (bG [0,1,1,1,2]) P0 L0
abbrev S1 (a:Sl) (b d c:Int) (w:World) (R:aD):Prop:=
 L0 a b d (IntKind.wrap .i64 (c+1)) w R
noncomputable def gG:=bK X [eK] (bG [2,2,1,1,2]) P0 S1
theorem cO:∀(c:Sl) (b m d:Int) (w:World) (R:aD) (h:(0:Int)<=b/\b<((c.n:Nat):Int)/\aX c.a λf=>∃k:Sl,w.cell? ((f.add (Int.toNat b *9)).add 1)=some (k.v)/\
 aH (decide (d<((k.n:Nat):Int))) ((0:Int)<=b/\b<((c.n:Nat):Int)/\aX c.a λg=>∃e:Sl,w.cell? ((g.add (Int.toNat b *9)).add 1)=some (e.v)/\
 (0:Int)<=d/\d<((e.n:Nat):Int)/\aX e.a λj=>∃l:Int,w.cell? (j.add (Int.toNat d *1))=some (.i l)/\
 zZ iE #[c.v,.i l] w λo p=>S1 c b (IntKind.wrap .i64 (m+o)) d p R) (R (.returned (.i m)) w)),L0 c b m d w R:=mp (dA (X:=X) [gG,eK] (bG [0,1,1,1,2]) P0)
theorem ok (a:Sl) (b:Int) (w:World) (R:aD) (h:L0 a b 1 0 w R):Calls Tryz.prog iE #[a.v,.i b] w R:=aP X [gG,eK] h
end enthymemeref07_size
namespace enthymemeref07_within
noncomputable abbrev X:Fx:=⟨Tryz.prog,Tryz.f40,[],[3]⟩
theorem cT (a b d e:Int) (w:World) (R:aD) (h:bH [] w λf c=>
 aH (b==0) (R (.returned (.bool true)) c) (aH (decide (a>0)) (aH (b==2) (R (.returned (.bool true)) c) (R (.returned (.bool (decide (a>1)))) c)) (R (.returned (.bool (decide (a>1)))) c))):Calls Tryz.prog jC #[.i a,.agg #[.i b,.i d,.i e]] w R:=aP X [] h
end enthymemeref07_within
namespace enthymemeref07_Made
noncomputable abbrev X:Fx:=⟨Tryz.prog,Tryz.f9,[(5,(.sq [0,1,2,3,4,5,6,7,8,9,10,11,12,13,14] (.fork (ls [15,16,17]) (ls [16,15,17]))))],[9]⟩
abbrev P0:Ps:=[(0,.v [.s]),(1,.v [.I]),(2,.v [.I]),(7,.v [.s]),(8,.v [.I])]
def dY (e:Sl) (a b:Int) (c:Sl) (d:Int) (w:World) (R:aD):Prop:=cG P0 0 (X.Sem (bG [0,1,1,1,2])) e a b c d w R
noncomputable def eK:=fZ X (bG [0,1,1,1,2]) P0 dY
abbrev eY (e:Sl) (a b:Int) (c:Sl) (d:Int) (w:World) (R:aD):Prop:=
 dY e a b c (IntKind.wrap .i64 (d+3)) w R
noncomputable def fU:=bK X [eK] (bG [2,2,1,1,2]) P0 eY
abbrev P1:Ps:=[(0,.v [.s]),(1,.v [.I]),(2,.v [.I]),(7,.v [.s]),(8,.v [.I]),(9,.l [.I,.s,.I,.I,.U,.st,.I,.I,.I] aE)]
abbrev fY (j:Sl) (c e:Int) (f:Sl) (g:Int) (t:Nat) (x:Int) (y:Sl) (z aa ab:Int) (ac:ByteArray) (ad ae af:Int) (w:World) (R:aD):Prop:=
 YB [t] lg #[f.v,.agg #[.i x,y.v,.i z,.i aa,.u ab,.string ac,.i ad,.i ae,.i af]] w λd b k w1=>aH (k==0) ((0:Int)<=b/\b<((d.n:Nat):Int)/\aX d.a λl=>dD w1 ((l.add (Int.toNat b *9)).add 6) λm o p=>kn [t] jC #[.i c,.agg #[.i m,.i o,.i p]] w1 λah r=>aH ah ((0:Int)<=b/\b<((d.n:Nat):Int)/\aX d.a λq=>∃s:Int,r.cell? (((q.add (Int.toNat b *9)).add 6).add 1)=some (.i s)/\
 aH (decide (s<=16)) (mX [t] iE #[d.v,.i b] r λai w3=>aH (decide (ai<=400)) (eY j c e d g w3 R) (eY j c e f g w3 R)) (eY j c e f g r R)) (eY j c e f g r R)) (eY j c e f g w1 R)
noncomputable def gG:=bK X [fU,eK] (bG [1,2,1,2,1,1,2]) P1 fY
abbrev P2:Ps:=[(7,.v [.s])]
abbrev hU (a:Sl) (w:World) (R:aD):Prop:=
 R (.returned (a.v)) w
noncomputable def iH:=bK X [gG,fU,eK] (bG [3]) P2 hU
theorem aY:∀(d:Sl) (e c:Int) (f:Sl) (b:Int) (w:World) (R:aD) (h:aH (decide ((IntKind.wrap .i64 (b+2))<((d.n:Nat):Int))) (aH (decide (b<(IntKind.wrap .i64 (3 *c)))) (tZ w λw2=>(0:Int)<=b/\b<((d.n:Nat):Int)/\aX d.a λs=>∃t:Int,w2.cell? (s.add (Int.toNat b *1))=some (.i t)/\
 (0:Int)<=(IntKind.wrap .i64 (b+1))/\(IntKind.wrap .i64 (b+1))<((d.n:Nat):Int)/\aX d.a λu=>∃x:Int,w2.cell? (u.add (Int.toNat (IntKind.wrap .i64 (b+1)) *1))=some (.i x)/\
 (0:Int)<=(IntKind.wrap .i64 (b+2))/\(IntKind.wrap .i64 (b+2))<((d.n:Nat):Int)/\aX d.a λy=>∃z:Int,w2.cell? (y.add (Int.toNat (IntKind.wrap .i64 (b+2)) *1))=some (.i z)/\
 ((Vp iD #[f.v,.i t,.i x,.i z] w2 λad ae af ag ah ai aj ak al w3=>bH [] w3 λb9 w4=>
 loc [b9] w4 λan=>fY d e c f b b9 ad ae af ag ah ai aj ak al an R)/\(bH [] w2 λab aa=>
 aa.cell? (y.add (Int.toNat (IntKind.wrap .i64 (b+2)) *1))=some (.i z)/\aa.cell? (u.add (Int.toNat (IntKind.wrap .i64 (b+1)) *1))=some (.i x)/\aa.cell? (s.add (Int.toNat b *1))=some (.i t)/\YC [ab] iD #[f.v,.i t,.i x,.i z] aa λg j k l m o p q r ao=>loc [ab] ao λap=>fY d e c f b ab g j k l m o p q r ap R))) (hU f w R)) (hU f w R)),dY d e c f b w R:=mp (dA (X:=X) [iH,gG,fU,eK] (bG [0,1,1,1,2]) P0)
theorem cT (c:Sl) (a b:Int) (w:World) (R:aD) (h:Xo jZ #[.i a] w λd e=>dY c a b d 0 e R):Calls Tryz.prog kE #[c.v,.i a,.i b] w R:=aP X [iH,gG,fU,eK] h
end enthymemeref07_Made
namespace value_ValidSort
noncomputable abbrev X:Fx:=⟨Tryz.prog,Tryz.f109,[],[1]⟩
abbrev P0:Ps:=[]
abbrev fY (w:World) (R:aD):Prop:=
 R (.returned (.i 9)) w
noncomputable def gG:=bK X [] (bG [0,1,1,1,3]) P0 fY
abbrev eY (w:World) (R:aD):Prop:=
 R (.returned (.i 9)) w
noncomputable def fU:=bK X [gG] (bG [0,1,1,1,4]) P0 eY
abbrev hU (w:World) (R:aD):Prop:=
 R (.returned (.i 0)) w
noncomputable def iH:=bK X [fU,gG] (bG [5]) P0 hU
abbrev P1:Ps:=[(1,.l [.I,.I,.I] aR),(3,.v [.I]),(4,.v [.I]),(5,.v [.b])]
abbrev dU (g:Nat) (f d b c e:Int) (a:Bool) (w:World) (R:aD):Prop:=
 aH (decide (d<c)) (fY w R) (aH (decide (d>e)) (fY w R) (aH a (aH (decide (b<1)) (eY w R) (aH (decide (b>16)) (eY w R) (aH (!a) (aH (b !=0) (eY w R) (hU w R)) (hU w R)))) (aH (!a) (aH (b !=0) (eY w R) (hU w R)) (hU w R))))
noncomputable def eT:=bK X [iH,fU,gG] (bG [3]) P1 dU
theorem cT (a b c:Int) (w:World) (R:aD) (h:bH [] w λe d=>
 aH (a==0) (dU e a b c 1 64 false d R) (aH (a==1) (dU e a b c 0 64 false d R) (aH (a==2) (dU e a b c 1 64 true d R) (aH (a==3) (dU e a b c 0 64 true d R) (R (.returned (.i 9)) d))))):Calls Tryz.prog kP #[.agg #[.i a,.i b,.i c]] w R:=aP X [eT,iH,fU,gG] h
end value_ValidSort
namespace term_isName
noncomputable abbrev X:Fx:=⟨Tryz.prog,Tryz.f108,[],[]⟩
abbrev P0:Ps:=[]
abbrev S0 (w:World) (R:aD):Prop:=
 R (.returned (.bool false)) w
noncomputable def eT:=bK X [] (bG [0,1,1,1,1]) P0 S0
abbrev P1:Ps:=[(0,.v [.st]),(3,.v [.I])]
def L1 (b:ByteArray) (a:Int) (w:World) (R:aD):Prop:=cG P1 0 (X.Sem (bG [0,1,1,1,2])) b a w R
noncomputable def km:=fZ X (bG [0,1,1,1,2]) P1 L1
abbrev S4 (w:World) (R:aD):Prop:=
 R (.returned (.bool false)) w
noncomputable def l8:=bK X [km,eT] (bG [0,1,3,2,1,2,1,1,2]) P0 S4
abbrev S5 (b:ByteArray) (a:Int) (w:World) (R:aD):Prop:=
 L1 b (IntKind.wrap .i64 (a+1)) w R
noncomputable def vU:=bK X [l8,km,eT] (bG [2,2,1,1,2]) P1 S5
abbrev P2:Ps:=[(0,.v [.st]),(3,.v [.I]),(4,.v [.Y]),(5,.v [.b])]
abbrev S3 (d:ByteArray) (b c:Int) (a:Bool) (w:World) (R:aD):Prop:=
 aH (!a) (aH (b==0) (S4 w R) (aH (c !=45) (aH (decide (c<48)) (S4 w R) (aH (decide (c>57)) (S4 w R) (S5 d b w R))) (S5 d b w R))) (S5 d b w R)
noncomputable def iH:=bK X [vU,l8,km,eT] (bG [2,2,1,2,1,1,2]) P2 S3
abbrev P3:Ps:=[(0,.v [.st]),(3,.v [.I]),(4,.v [.Y])]
abbrev S2 (c:ByteArray) (b a:Int) (w:World) (R:aD):Prop:=
 aH (decide (a>=97)) (S3 c b a (decide (a<=122)) w R) (S3 c b a false w R)
noncomputable def fU:=bK X [iH,vU,l8,km,eT] (bG [1,2,1,2,1,1,2]) P3 S2
theorem lE:∀(c:ByteArray) (b:Int) (w:World) (R:aD) (h:aH (decide (b<((c.size:Nat):Int))) ((0:Int)<=b/\∃a:UInt8,c[Int.toNat b]? =some a/\S2 c b ((a.toNat:Nat):Int) w R) (R (.returned (.bool true)) w)),L1 c b w R:=mp (dA (X:=X) [fU,iH,vU,l8,km,eT] (bG [0,1,1,1,2]) P1)
theorem ok (a:ByteArray) (w:World) (R:aD) (h:aH (decide (((a.size:Nat):Int)<1)) (S0 w R) (aH (decide (((a.size:Nat):Int)>16)) (S0 w R) (L1 a 0 w R))):Calls Tryz.prog qy #[.string a] w R:=aP X [fU,iH,vU,l8,km,eT] h
end term_isName
namespace term_fieldsFit
noncomputable abbrev X:Fx:=⟨Tryz.prog,Tryz.f80,[],[]⟩
abbrev P0:Ps:=[(0,.v [.r]),(3,.v [.b]),(4,.v [.b]),(5,.v [.b]),(6,.v [.b])]
abbrev S1 (b:Addr) (r q c a:Bool) (w:World) (R:aD):Prop:=
 aH r (aH q (aH c (aH a (R (.returned (.bool true)) w) (∃x:ByteArray,w.cell? (b.add 5)=some (.string x)/\
 R (.returned (.bool (x.toList==(ByteArray.mk #[]).toList))) w)) (∃v:Int,w.cell? (b.add 4)=some (.u v)/\
 aH (v==0) (aH a (R (.returned (.bool true)) w) (∃j:ByteArray,w.cell? (b.add 5)=some (.string j)/\
 R (.returned (.bool (j.toList==(ByteArray.mk #[]).toList))) w)) (R (.returned (.bool false)) w))) (∃t:Int,w.cell? (b.add 3)=some (.i t)/\
 aH (t==0) (aH c (aH a (R (.returned (.bool true)) w) (∃k:ByteArray,w.cell? (b.add 5)=some (.string k)/\
 R (.returned (.bool (k.toList==(ByteArray.mk #[]).toList))) w)) (∃e:Int,w.cell? (b.add 4)=some (.u e)/\
 aH (e==0) (aH a (R (.returned (.bool true)) w) (∃l:ByteArray,w.cell? (b.add 5)=some (.string l)/\
 R (.returned (.bool (l.toList==(ByteArray.mk #[]).toList))) w)) (R (.returned (.bool false)) w))) (R (.returned (.bool false)) w))) (∃s:Int,w.cell? (b.add 2)=some (.i s)/\
 aH (s==0) (aH q (aH c (aH a (R (.returned (.bool true)) w) (∃m:ByteArray,w.cell? (b.add 5)=some (.string m)/\
 R (.returned (.bool (m.toList==(ByteArray.mk #[]).toList))) w)) (∃f:Int,w.cell? (b.add 4)=some (.u f)/\
 aH (f==0) (aH a (R (.returned (.bool true)) w) (∃n:ByteArray,w.cell? (b.add 5)=some (.string n)/\
 R (.returned (.bool (n.toList==(ByteArray.mk #[]).toList))) w)) (R (.returned (.bool false)) w))) (∃d:Int,w.cell? (b.add 3)=some (.i d)/\
 aH (d==0) (aH c (aH a (R (.returned (.bool true)) w) (∃o:ByteArray,w.cell? (b.add 5)=some (.string o)/\
 R (.returned (.bool (o.toList==(ByteArray.mk #[]).toList))) w)) (∃g:Int,w.cell? (b.add 4)=some (.u g)/\
 aH (g==0) (aH a (R (.returned (.bool true)) w) (∃p:ByteArray,w.cell? (b.add 5)=some (.string p)/\
 R (.returned (.bool (p.toList==(ByteArray.mk #[]).toList))) w)) (R (.returned (.bool false)) w))) (R (.returned (.bool false)) w))) (R (.returned (.bool false)) w))
noncomputable def gG:=bK X [] (bG [3]) P0 S1
abbrev P1:Ps:=[(0,.v [.r]),(3,.v [.b]),(4,.v [.b]),(5,.v [.b])]
abbrev S0 (d:Addr) (b a c:Bool) (w:World) (R:aD):Prop:=
 S1 d b a c true w R
noncomputable def eT:=bK X [gG] (bG [0,1,1,1,1,1,2]) P1 S0
abbrev P2:Ps:=[(0,.v [.r]),(4,.v [.b]),(5,.v [.b]),(6,.v [.b])]
abbrev S3 (d:Addr) (b c a:Bool) (w:World) (R:aD):Prop:=
 S1 d true b c a w R
noncomputable def iH:=bK X [eT,gG] (bG [0,1,7,1,1,1,2]) P2 S3
abbrev P3:Ps:=[(0,.v [.r]),(3,.v [.b]),(4,.v [.b]),(5,.v [.b]),(6,.v [.b]),(10,.v [.I])]
abbrev S2 (f:Addr) (d b c a:Bool) (e:Int) (w:World) (R:aD):Prop:=
 aH (e==1) (S1 f d b true a w R) (aH (e==21) (S1 f true true c a w R) (aH (e==22) (aH (e==22) (S3 f b c a w R) (S1 f d b c a w R)) (aH (e==23) (aH (e==23) (S3 f b c a w R) (S1 f d b c a w R)) (aH (e==28) (S3 f b c a w R) (S1 f d b c a w R)))))
noncomputable def fU:=bK X [iH,eT,gG] (bG [2,1,1,1,2]) P3 S2
theorem ok (b:Addr) (w:World) (R:aD) (h:∃a:Int,w.cell? (b.add 0)=some (.i a)/\
 aH (a==0) (aH (a==0) (S0 b false false false w R) (S2 b false false false false a w R)) (aH (a==2) (aH (a==2) (S0 b false false false w R) (S2 b false false false false a w R)) (aH (a==33) (S0 b false false false w R) (S2 b false false false false a w R)))):Calls Tryz.prog nW #[.pointer (some b)] w R:=aP X [fU,iH,eT,gG] h
end term_fieldsFit
namespace term_bv
noncomputable abbrev X:Fx:=⟨Tryz.prog,Tryz.f114,[],[2]⟩
theorem cT (a:Int) (w:World) (R:aD) (h:bH [] w λb c=>
 loc [b] c λd=>R (.returned (.agg #[.i 0,.i a,.i 0])) d):Calls Tryz.prog fA #[.i a] w R:=aP X [] h
end term_bv
namespace term_str
noncomputable abbrev X:Fx:=⟨Tryz.prog,Tryz.f110,[],[2]⟩
theorem cT (a:Int) (w:World) (R:aD) (h:bH [] w λb c=>
 loc [b] c λd=>R (.returned (.agg #[.i 1,.i a,.i 0])) d):Calls Tryz.prog lu #[.i a] w R:=aP X [] h
end term_str
namespace term_isBV
noncomputable abbrev X:Fx:=⟨Tryz.prog,Tryz.f113,[],[1]⟩
theorem cT (a b c:Int) (w:World) (R:aD) (h:bH [] w λe d=>
 R (.returned (.bool (a==0))) d):Calls Tryz.prog iZ #[.agg #[.i a,.i b,.i c]] w R:=aP X [] h
end term_isBV
namespace term_isStr
noncomputable abbrev X:Fx:=⟨Tryz.prog,Tryz.f116,[],[1]⟩
theorem cT (a b c:Int) (w:World) (R:aD) (h:bH [] w λe d=>
 R (.returned (.bool (a==1))) d):Calls Tryz.prog cS #[.agg #[.i a,.i b,.i c]] w R:=aP X [] h
end term_isStr
namespace term_isArray
noncomputable abbrev X:Fx:=⟨Tryz.prog,Tryz.f111,[],[1]⟩
theorem cT (a b c:Int) (w:World) (R:aD) (h:bH [] w λe d=>
 aH (a==2) (R (.returned (.bool true)) d) (R (.returned (.bool (a==3))) d)):Calls Tryz.prog lq #[.agg #[.i a,.i b,.i c]] w R:=aP X [] h
end term_isArray
namespace term_alike
noncomputable abbrev X:Fx:=⟨Tryz.prog,Tryz.f115,[],[2,3]⟩
theorem cT (a b c d e f:Int) (w:World) (R:aD) (h:bH [] w λg o=>
 bH [g] o λj m=>
 aH ((a==d)&&((b==e)&&((c==f)&&true))) (R (.returned (.bool true)) m) (kn [g,j] cS #[.agg #[.i a,.i b,.i c]] m λk n=>aH k (kn [g,j] cS #[.agg #[.i d,.i e,.i f]] n λl p=>R (.returned (.bool l)) p) (R (.returned (.bool false)) n))):Calls Tryz.prog o0 #[.agg #[.i a,.i b,.i c],.agg #[.i d,.i e,.i f]] w R:=aP X [] h
end term_alike
namespace term_result
noncomputable abbrev X:Fx:=⟨Tryz.prog,Tryz.f112,[],[3,6]⟩
theorem cT (b c d:Int) (e a:Bool) (w:World) (R:aD) (h:bH [] w λf l=>
 bH [f] l λg j=>
 aH (!e) (loc [f,g] j λm=>R (.returned (.tuple #[.agg #[.i b,.i c,.i d],.i 9])) m) (aH (!a) (loc [f,g] j λn=>R (.returned (.tuple #[.agg #[.i b,.i c,.i d],.i 5])) n) (loc [f,g] j λk=>R (.returned (.tuple #[.agg #[.i b,.i c,.i d],.i 0])) k))):Calls Tryz.prog aW #[.agg #[.i b,.i c,.i d],.bool e,.bool a] w R:=aP X [] h
end term_result
namespace term_sortOfVar
noncomputable abbrev X:Fx:=⟨Tryz.prog,Tryz.f81,[(7,ls [0,1,2,3,4,5,6,7,8])],[]⟩
abbrev P0:Ps:=[(0,.v [.r]),(4,.v [.r])]
abbrev S0 (k g:Addr) (w:World) (R:aD):Prop:=
 dD w (k.add 6) λa b c=>GY w g (.i a) (.i b) (.i c) λj=>dD j g λd e f=>R (.returned (.tuple #[.agg #[.i d,.i e,.i f],.i 0])) j
noncomputable def eT:=bK X [] (bG [4]) P0 S0
theorem ok (e:Addr) (a:Fv) (w:World) (R:aD) (h:eV w (.cells #[.i 0,.i 0,.i 0] aR) λw1=>
 ∃ak:ByteArray,w1.cell? (e.add 5)=some (.string ak)/\
 zY qy #[.string ak] w1 λao w2=>aH (!ao) (dD w2 (e.add 6) λo p q=>GY w2 (nb w) (.i o) (.i p) (.i q) λw5=>dD w5 (nb w) λb c d=>R (.returned (.tuple #[.agg #[.i b,.i c,.i d],.i 6])) w5) (dD w2 (e.add 6) λr s t=>zZ kP #[.agg #[.i r,.i s,.i t]] w2 λal w6=>aH (al !=0) (dD w6 (e.add 6) λu x y=>GY w6 (nb w) (.i u) (.i x) (.i y) λw9=>dD w9 (nb w) λb c d=>R (.returned (.tuple #[.agg #[.i b,.i c,.i d],.i al])) w9) (∃am:ByteArray,w6.cell? (e.add 5)=some (.string am)/\
 hO (fD Tryz.prog a.n) (Calls Tryz.prog a.n (a.bs++#[.string am]++a.cs) w6 λr_ m=>∃f:Int,∃g:Int,∃j:Int,∃l:Bool,r_=.returned (.tuple #[.agg #[.i f,.i g,.i j],.bool l])/\
 eV m (.cells #[.i 0,.i 0,.i 0] aR) λaq=>
 GY aq (nb m) (.i f) (.i g) (.i j) λar=>tZ ar λk=>aH l (dD k (nb m) λz aa ab=>dD k (e.add 6) λac ad ae=>aH (!((z==ac)&&((aa==ad)&&((ab==ae)&&true)))) (dD k (e.add 6) λaf ag ah=>GY k (nb w) (.i af) (.i ag) (.i ah) λan=>dD an (nb w) λb c d=>R (.returned (.tuple #[.agg #[.i b,.i c,.i d],.i 8])) an) (S0 e (nb w) k R)) (S0 e (nb w) k R))))):Calls Tryz.prog nX #[.pointer (some e),a.v] w R:=aP X [eT] h
end term_sortOfVar
namespace term_sortOfLeaf
noncomputable abbrev X:Fx:=⟨Tryz.prog,Tryz.f82,[(14,ls [0,1,2,3,4,5,6,7,8,9,10,11,12,13,14,15,16,17,18])],[2]⟩
abbrev P0:Ps:=[(0,.v [.r]),(2,.l [.I,.I,.I] aR)]
abbrev dU (d:Addr) (e:Nat) (f g j:Int) (w:World) (R:aD):Prop:=
 dD w (d.add 6) λa b c=>loc [e] w λk=>R (.returned (.tuple #[.agg #[.i a,.i b,.i c],.i 0])) k
noncomputable def eT:=bK X [] (bG [6]) P0 dU
theorem cT (a:Addr) (w:World) (R:aD) (h:bH [] w λb e=>
 ∃t8:Int,e.cell? (a.add 0)=some (.i t8)/\
 aH (t8==2) (∃am:ByteArray,e.cell? (a.add 5)=some (.string am)/\
 aH (decide (((am.size:Nat):Int)>64)) (dD e (a.add 6) λj k l=>loc [b] e λw4=>R (.returned (.tuple #[.agg #[.i j,.i k,.i l],.i 5])) w4) (∃an:ByteArray,e.cell? (a.add 5)=some (.string an)/\
 gP [b] lu #[.i ((an.size:Nat):Int)] e λm n o w5=>loc [b] w5 λw8=>R (.returned (.tuple #[.agg #[.i m,.i n,.i o],.i 0])) w8)) (dD e (a.add 6) λp q r=>mX [b] kP #[.agg #[.i p,.i q,.i r]] e λao d=>aH (ao !=0) (dD d (a.add 6) λs t v=>loc [b] d λax=>R (.returned (.tuple #[.agg #[.i s,.i t,.i v],.i ao])) ax) (∃ap:Int,d.cell? (a.add 0)=some (.i ap)/\
 aH (ap==3) (dD d (a.add 6) λx y z=>kn [b] lq #[.agg #[.i x,.i y,.i z]] d λav f=>aH (!av) (dD f (a.add 6) λaa ab ac=>loc [b] f λay=>R (.returned (.tuple #[.agg #[.i aa,.i ab,.i ac],.i 9])) ay) (dD f (a.add 6) λad ae af=>loc [b] f λaz=>R (.returned (.tuple #[.agg #[.i ad,.i ae,.i af],.i 0])) az)) (∃aq:Int,d.cell? ((a.add 6).add 0)=some (.i aq)/\
 aH (aq !=0) (dD d (a.add 6) λag ah ai=>loc [b] d λbb=>R (.returned (.tuple #[.agg #[.i ag,.i ah,.i ai],.i 9])) bb) (loc [b] d λc=>∃ar:Int,c.cell? ((a.add 6).add 1)=some (.i ar)/\
 aH (decide (ar<64)) (∃au:Int,c.cell? (a.add 4)=some (.u au)/\
 ∃g:Int,c.cell? ((a.add 6).add 1)=some (.i g)/\
 ¬g<0/\aH ((Int.fdiv au (2^(min (Int.toNat g) (IntKind.bits .u64)))) !=0) (dD c (a.add 6) λaj ak al=>loc [b] c λbc=>R (.returned (.tuple #[.agg #[.i aj,.i ak,.i al],.i 5])) bc) (dU a b 0 0 0 c R)) (dU a b 0 0 0 c R)))))):Calls Tryz.prog nB #[.pointer (some a)] w R:=aP X [eT] h
end term_sortOfLeaf
namespace term_sortOfBits
noncomputable abbrev X:Fx:=⟨Tryz.prog,Tryz.f83,[(4,ls [0,1,2,3,4,5,6,7]),(7,ls [1,0,2,3,4,5,6,7,8,9,10,11,12]),(9,ls [1,2,0,3,4,5,6,7,8]),(14,ls [0,1,2,3,4,5,6,7,8,9,10,11,12,13]),(16,ls [0,1,2,3,4,6,12,13,14,15,16,17,5,7,8,9,10,11,18,19,20,21,22]),(18,ls [0,1,2,3,4,5,6,7,8,9,11,13,14,15,16,17,10,12,18,19,20,21,22,23,24,25,26,27,28,29,30,31,32,33,34,35,36,37,38,39,40,41,42]),(21,ls [0,1,2,3,4,5,6,8,10,11,12,13,14,7,9,15,16,17,18,19,20,21,22,23,24,25,26,27,28,29]),(22,ls [0,1,2,3,4,5,6,7,8,9,10,11,12])],[5,6,7,8,10]⟩
abbrev P0:Ps:=[(5,.l [.I,.I,.I] aR),(8,.l [.I,.I,.I] aR)]
abbrev dU (k:Nat) (d e f:Int) (j:Nat) (m n o:Int) (w:World) (R:aD):Prop:=
 loc [k,j] w λp=>kn [k,j] iZ #[.agg #[.i d,.i e,.i f]] p λl q=>gU [k,j] aW #[.agg #[.i d,.i e,.i f],.bool l,.bool true] q λa b c g r=>loc [k,j] r λs=>R (.returned (.tuple #[.agg #[.i a,.i b,.i c],.i g])) s
noncomputable def eT:=bK X [] (bG [0,1,1,1,1,1,1]) P0 dU
abbrev P1:Ps:=[(5,.l [.I,.I,.I] aR),(6,.l [.I,.I,.I] aR),(8,.l [.I,.I,.I] aR)]
abbrev eY (f:Nat) (p q r:Int) (g:Nat) (t u v:Int) (e:Nat) (aa ab ac:Int) (w:World) (R:aD):Prop:=
 loc [f,g,e] w λw1=>gP [f,g,e] fA #[.i 1] w1 λj k l w2=>kn [f,g,e] iZ #[.agg #[.i p,.i q,.i r]] w2 λx z=>aH x (gU [f,g,e] aW #[.agg #[.i j,.i k,.i l],.bool ((p==t)&&((q==u)&&((r==v)&&true))),.bool true] z λm n o s w4=>loc [f,g,e] w4 λw7=>R (.returned (.tuple #[.agg #[.i m,.i n,.i o],.i s])) w7) (gU [f,g,e] aW #[.agg #[.i j,.i k,.i l],.bool false,.bool true] z λa b c d w8=>loc [f,g,e] w8 λy=>R (.returned (.tuple #[.agg #[.i a,.i b,.i c],.i d])) y)
noncomputable def fU:=bK X [eT] (bG [0,1,3,1,1,1,1]) P1 eY
abbrev P2:Ps:=[(5,.l [.I,.I,.I] aR),(6,.l [.I,.I,.I] aR),(7,.l [.I,.I,.I] aR),(8,.l [.I,.I,.I] aR),(10,.l [.I,.I,.I] aR)]
abbrev pj (g:Nat) (v x y:Int) (j:Nat) (z aa ab:Int) (k:Nat) (ac ad ae:Int) (f:Nat) (ai aj ak:Int) (a:Nat) (l m n:Int) (w:World) (R:aD):Prop:=
 loc [g,j,k,f,a] w λw1=>gP [g,j,k,f,a] fA #[.i 1] w1 λr s t w2=>aH ((v==r)&&((x==s)&&((y==t)&&true))) (kn [g,j,k,f,a] o0 #[.agg #[.i z,.i aa,.i ab],.agg #[.i ac,.i ad,.i ae]] w2 λaf w3=>gU [g,j,k,f,a] aW #[.agg #[.i l,.i m,.i n],.bool af,.bool true] w3 λo p q u w4=>loc [g,j,k,f,a] w4 λw7=>R (.returned (.tuple #[.agg #[.i o,.i p,.i q],.i u])) w7) (gU [g,j,k,f,a] aW #[.agg #[.i l,.i m,.i n],.bool false,.bool true] w2 λb c d e w8=>loc [g,j,k,f,a] w8 λag=>R (.returned (.tuple #[.agg #[.i b,.i c,.i d],.i e])) ag)
noncomputable def l8:=bK X [fU,eT] (bG [2,1,7,1,1,1,1]) P2 pj
abbrev P3:Ps:=[(0,.v [.r]),(5,.l [.I,.I,.I] aR),(8,.l [.I,.I,.I] aR)]
abbrev Fu (q:Addr) (o:Nat) (y p z:Int) (n:Nat) (ac ad ae:Int) (w:World) (R:aD):Prop:=
 loc [o,n] w λx=>∃r:Int,x.cell? (q.add 2)=some (.i r)/\
 ∃d:Int,x.cell? (q.add 2)=some (.i d)/\
 gP [o,n] fA #[.i (IntKind.wrap .i64 (p+r))] x λe f g w2=>w2.cell? (q.add 2)=some (.i d)/\kn [o,n] iZ #[.agg #[.i y,.i p,.i z]] w2 λs v=>v.cell? (q.add 2)=some (.i d)/\aH (decide (1<=d)) (∃t:Int,v.cell? (q.add 2)=some (.i t)/\
 gU [o,n] aW #[.agg #[.i e,.i f,.i g],.bool s,.bool (decide (t<=(IntKind.wrap .i64 (64 - p))))] v λk l m u w4=>loc [o,n] w4 λw7=>R (.returned (.tuple #[.agg #[.i k,.i l,.i m],.i u])) w7) (gU [o,n] aW #[.agg #[.i e,.i f,.i g],.bool s,.bool false] v λa b c j w8=>loc [o,n] w8 λaa=>R (.returned (.tuple #[.agg #[.i a,.i b,.i c],.i j])) aa)
noncomputable def vU:=bK X [l8,fU,eT] (bG [0,1,13,1,1,1,1]) P3 Fu
abbrev xj (n:Nat) (d e f:Int) (o:Nat) (r s t:Int) (m:Nat) (x y z:Int) (w:World) (R:aD):Prop:=
 loc [n,o,m] w λw1=>kn [n,o,m] iZ #[.agg #[.i d,.i e,.i f]] w1 λq v=>aH q (gU [n,o,m] aW #[.agg #[.i d,.i e,.i f],.bool ((d==r)&&((e==s)&&((f==t)&&true))),.bool true] v λj k l p w3=>loc [n,o,m] w3 λw6=>R (.returned (.tuple #[.agg #[.i j,.i k,.i l],.i p])) w6) (gU [n,o,m] aW #[.agg #[.i d,.i e,.i f],.bool false,.bool true] v λa b c g w7=>loc [n,o,m] w7 λu=>R (.returned (.tuple #[.agg #[.i a,.i b,.i c],.i g])) u)
noncomputable def rH:=bK X [vU,l8,fU,eT] (bG [2]) P1 xj
abbrev P4:Ps:=[(0,.v [.r]),(5,.l [.I,.I,.I] aR),(6,.l [.I,.I,.I] aR),(7,.l [.I,.I,.I] aR),(8,.l [.I,.I,.I] aR),(14,.v [.I])]
abbrev hU (x:Addr) (b:Nat) (g f j:Int) (c:Nat) (k d l:Int) (e:Nat) (ai p aj:Int) (a:Nat) (m n o u:Int) (w:World) (R:aD):Prop:=
 aH (u==18) (loc [b,c,e,a] w λw1=>gP [b,c,e,a] fA #[.i 1] w1 λbk bm bn w2=>kn [b,c,e,a] o0 #[.agg #[.i g,.i f,.i j],.agg #[.i k,.i d,.i l]] w2 λbx w3=>gU [b,c,e,a] aW #[.agg #[.i bk,.i bm,.i bn],.bool bx,.bool true] w3 λax ay az bo w4=>loc [b,c,e,a] w4 λw7=>R (.returned (.tuple #[.agg #[.i ax,.i ay,.i az],.i bo])) w7) (aH (u==19) (bH [b,c,e,a] w λq w8=>
 loc [b,c,e,a,q] w8 λcd=>kn [b,c,e,a,q] cS #[.agg #[.i k,.i d,.i l]] cd λbz bt=>aH bz (kn [b,c,e,a,q] cS #[.agg #[.i ai,.i p,.i aj]] bt λca bu=>aH ca (gP [b,c,e,a,q] lu #[.i (if d<p then p else d)] bu λbp bq br ce=>loc [b,c,e,a,q] ce λcf=>pj b g f j c k d l e ai p aj a m n o q bp bq br cf R) (pj b g f j c k d l e ai p aj a m n o q k d l bu R)) (pj b g f j c k d l e ai p aj a m n o q k d l bt R)) (aH (u==20) (loc [b,c,e,a] w λcg=>gP [b,c,e,a] fA #[.i (IntKind.wrap .i64 (f+d))] cg λar au av ch=>kn [b,c,e,a] iZ #[.agg #[.i g,.i f,.i j]] ch λcb bv=>aH cb (kn [b,c,e,a] iZ #[.agg #[.i k,.i d,.i l]] bv λcc ci=>gU [b,c,e,a] aW #[.agg #[.i ar,.i au,.i av],.bool cc,.bool (decide ((IntKind.wrap .i64 (f+d))<=64))] ci λbb bc bd bs cj=>loc [b,c,e,a] cj λck=>R (.returned (.tuple #[.agg #[.i bb,.i bc,.i bd],.i bs])) ck) (gU [b,c,e,a] aW #[.agg #[.i ar,.i au,.i av],.bool false,.bool (decide ((IntKind.wrap .i64 (f+d))<=64))] bv λaf ag ah aq cl=>loc [b,c,e,a] cl λcm=>R (.returned (.tuple #[.agg #[.i af,.i ag,.i ah],.i aq])) cm)) (aH (u==21) (loc [b,c,e,a] w λaw=>∃be:Int,aw.cell? (x.add 2)=some (.i be)/\
 ∃bf:Int,aw.cell? (x.add 3)=some (.i bf)/\
 ∃ae:Int,aw.cell? (x.add 3)=some (.i ae)/\
 gP [b,c,e,a] fA #[.i (IntKind.wrap .i64 ((IntKind.wrap .i64 (be - bf))+1))] aw λr s t bw=>bw.cell? (x.add 3)=some (.i ae)/\kn [b,c,e,a] iZ #[.agg #[.i g,.i f,.i j]] bw λam v=>v.cell? (x.add 3)=some (.i ae)/\aH (decide (0<=ae)) (∃bg:Int,v.cell? (x.add 3)=some (.i bg)/\
 ∃bh:Int,v.cell? (x.add 2)=some (.i bh)/\
 aH (decide (bg<=bh)) (∃bi:Int,v.cell? (x.add 2)=some (.i bi)/\
 gU [b,c,e,a] aW #[.agg #[.i r,.i s,.i t],.bool am,.bool (decide (bi<f))] v λan ao ap bj cn=>loc [b,c,e,a] cn λco=>R (.returned (.tuple #[.agg #[.i an,.i ao,.i ap],.i bj])) co) (gU [b,c,e,a] aW #[.agg #[.i r,.i s,.i t],.bool am,.bool false] v λy z aa ak cp=>loc [b,c,e,a] cp λcq=>R (.returned (.tuple #[.agg #[.i y,.i z,.i aa],.i ak])) cq)) (gU [b,c,e,a] aW #[.agg #[.i r,.i s,.i t],.bool am,.bool false] v λab ac ad al cr=>loc [b,c,e,a] cr λcs=>R (.returned (.tuple #[.agg #[.i ab,.i ac,.i ad],.i al])) cs)) (aH (u==22) (aH (u==22) (Fu x b g f j a m n o w R) (xj b g f j c k d l a m n o w R)) (aH (u==23) (Fu x b g f j a m n o w R) (xj b g f j c k d l a m n o w R))))))
noncomputable def iH:=bK X [rH,vU,l8,fU,eT] (bG [4,1,1,1,1]) P4 hU
abbrev fY (r:Addr) (p:Nat) (d e f:Int) (q:Nat) (g i j:Int) (s:Nat) (l m n:Int) (o:Nat) (a b c k:Int) (w:World) (R:aD):Prop:=
 aH (k==16) (aH (k==16) (eY p d e f q g i j o a b c w R) (hU r p d e f q g i j s l m n o a b c k w R)) (aH (k==17) (eY p d e f q g i j o a b c w R) (hU r p d e f q g i j s l m n o a b c k w R))
noncomputable def gG:=bK X [iH,rH,vU,l8,fU,eT] (bG [2,1,1,1,1]) P4 fY
theorem cT (q:Addr) (a b c f g j k l m:Int) (w:World) (R:aD) (h:bH [] w λe s=>
 bH [e] s λo t=>
 bH [e,o] t λr u=>
 bH [e,o,r] u λp n=>
 ∃d:Int,n.cell? (q.add 0)=some (.i d)/\
 aH (d==4) (aH (d==4) (dU e a b c p 0 0 0 n R) (fY q e a b c o f g j r k l m p 0 0 0 d n R)) (aH (d==5) (dU e a b c p 0 0 0 n R) (fY q e a b c o f g j r k l m p 0 0 0 d n R))):Calls Tryz.prog nA #[.pointer (some q),.agg #[.i a,.i b,.i c],.agg #[.i f,.i g,.i j],.agg #[.i k,.i l,.i m]] w R:=aP X [gG,iH,rH,vU,l8,fU,eT] h
end term_sortOfBits
namespace term_sortOfArrays
noncomputable abbrev X:Fx:=⟨Tryz.prog,Tryz.f84,[(2,ls [0,1,3,2,4,5,6,7,8,9,10,11,12,13,14]),(6,ls [0,1,2,3,4,5,6,7,8,9]),(10,ls [0,1,2,3,4,5,6,7,8,9,10,11,12,13,14,15,16,17]),(11,ls [0,1,2,3,4,5,6,7,8,9,10,11])],[5,6,7,8,10]⟩
abbrev P0:Ps:=[(0,.v [.r]),(5,.l [.I,.I,.I] aR),(7,.l [.I,.I,.I] aR),(8,.l [.I,.I,.I] aR),(10,.l [.I,.I,.I] aR),(11,.v [.b])]
abbrev fY (n0:Addr) (c:Nat) (j k m:Int) (d:Nat) (al aa am:Int) (b:Nat) (bh bi bj:Int) (a:Nat) (e f g:Int) (l:Bool) (w:World) (R:aD):Prop:=
 ∃aq:Int,w.cell? (n0.add 0)=some (.i aq)/\
 aH (aq==24) (gU [c,d,b,a] aW #[.agg #[.i e,.i f,.i g],.bool l,.bool true] w λab ac ad an w1=>loc [c,d,b,a] w1 λw4=>R (.returned (.tuple #[.agg #[.i ab,.i ac,.i ad],.i an])) w4) (aH (j==3) (aH l (loc [c,d,b,a] w λw5=>kn [c,d,b,a] cS #[.agg #[.i al,.i aa,.i am]] w5 λau w6=>aH au (gU [c,d,b,a] aW #[.agg #[.i j,.i k,.i m],.bool (decide (aa<=k)),.bool true] w6 λae af ag ao w7=>loc [c,d,b,a] w7 λav=>R (.returned (.tuple #[.agg #[.i ae,.i af,.i ag],.i ao])) av) (gU [c,d,b,a] aW #[.agg #[.i j,.i k,.i m],.bool false,.bool true] w6 λn o p x aw=>loc [c,d,b,a] aw λax=>R (.returned (.tuple #[.agg #[.i n,.i o,.i p],.i x])) ax)) (loc [c,d,b,a] w λw5=>gU [c,d,b,a] aW #[.agg #[.i j,.i k,.i m],.bool false,.bool true] w5 λq r s y ay=>loc [c,d,b,a] ay λaz=>R (.returned (.tuple #[.agg #[.i q,.i r,.i s],.i y])) az)) (aH l (loc [c,d,b,a] w λak=>gU [c,d,b,a] aW #[.agg #[.i j,.i k,.i m],.bool ((al==e)&&((aa==f)&&((am==g)&&true))),.bool true] ak λah ai aj ap bb=>loc [c,d,b,a] bb λbc=>R (.returned (.tuple #[.agg #[.i ah,.i ai,.i aj],.i ap])) bc) (loc [c,d,b,a] w λak=>gU [c,d,b,a] aW #[.agg #[.i j,.i k,.i m],.bool false,.bool true] ak λt u v z bd=>loc [c,d,b,a] bd λbe=>R (.returned (.tuple #[.agg #[.i t,.i u,.i v],.i z])) be)))
noncomputable def gG:=bK X [] (bG [5]) P0 fY
abbrev P1:Ps:=[(0,.v [.r]),(5,.l [.I,.I,.I] aR),(6,.l [.I,.I,.I] aR),(7,.l [.I,.I,.I] aR),(8,.l [.I,.I,.I] aR),(10,.l [.I,.I,.I] aR)]
abbrev dU (n0:Addr) (n:Nat) (f g e:Int) (v:Nat) (x y z:Int) (o:Nat) (p q r:Int) (j:Nat) (k l m:Int) (a:Nat) (b c d:Int) (w:World) (R:aD):Prop:=
 loc [n,v,o,j,a] w λw1=>kn [n,v,o,j,a] lq #[.agg #[.i f,.i g,.i e]] w1 λab w2=>aH ab (gP [n,v,o,j,a] fA #[.i e] w2 λs t u w3=>fY n0 n f g e o p q r j k l m a b c d ((x==s)&&((y==t)&&((z==u)&&true))) w3 R) (fY n0 n f g e o p q r j k l m a b c d false w2 R)
noncomputable def eT:=bK X [gG] (bG [4]) P1 dU
theorem cT (n0:Addr) (f e g n o p r s t:Int) (w:World) (R:aD) (h:bH [] w λa w1=>
 bH [a] w1 λb w2=>
 bH [a,b] w2 λc w3=>
 bH [a,b,c] w3 λd w4=>
 ∃ak:Int,w4.cell? (n0.add 0)=some (.i ak)/\
 aH (ak==26) (loc [a,b,c,d] w4 λw5=>gP [a,b,c,d] fA #[.i g] w5 λu v x w6=>kn [a,b,c,d] lq #[.agg #[.i f,.i e,.i g]] w6 λan w7=>aH an (gU [a,b,c,d] aW #[.agg #[.i u,.i v,.i x],.bool ((f==n)&&((e==o)&&((g==p)&&true))),.bool true] w7 λy z aa ad w8=>loc [a,b,c,d] w8 λao=>R (.returned (.tuple #[.agg #[.i y,.i z,.i aa],.i ad])) ao) (gU [a,b,c,d] aW #[.agg #[.i u,.i v,.i x],.bool false,.bool true] w7 λk l m q ap=>loc [a,b,c,d] ap λaq=>R (.returned (.tuple #[.agg #[.i k,.i l,.i m],.i q])) aq)) (gP [a,b,c,d] fA #[.i e] w4 λae af ag ar=>bH [a,b,c,d] ar λj al=>
 aH (f==3) (loc [a,b,c,d,j] al λab=>gP [a,b,c,d,j] lu #[.i e] ab λah ai aj au=>loc [a,b,c,d,j] au λav=>dU n0 a f e g b n o p c r s t d 0 0 0 j ah ai aj av R) (loc [a,b,c,d,j] al λab=>dU n0 a f e g b n o p c r s t d 0 0 0 j ae af ag ab R))):Calls Tryz.prog l4 #[.pointer (some n0),.agg #[.i f,.i e,.i g],.agg #[.i n,.i o,.i p],.agg #[.i r,.i s,.i t]] w R:=aP X [eT,gG] h
end term_sortOfArrays
namespace term_sortOfStrings
noncomputable abbrev X:Fx:=⟨Tryz.prog,Tryz.f85,[(3,ls [1,0,2,3,4,5,6,7]),(5,ls [1,3,4,5,6,7,0,2,8,9,10,11,12,13,14,15,16,17,18,19]),(7,ls [0,1,2,3,4,6,12,13,14,15,16,17,5,7,8,9,10,11,18,19,20,21,22]),(9,ls [0,1,2,3,4,5,6,7,8,9,10,11,12,13,14,15,16,17]),(11,ls [1,0,2,3,4,5,6,7,8,9,10,11]),(13,ls [0,1,2,3,4,6,16,17,18,19,20,21,5,7,8,9,10,11,12,13,14,15,22,23,24,25,26]),(15,ls [1,0,2,3,4,5,6,7,8])],[5,6,7,8]⟩
theorem cT (n0:Addr) (f e g p j q bf k bg:Int) (w:World) (R:aD) (h:bH [] w λa w1=>
 bH [a] w1 λb w2=>
 bH [a,b] w2 λc w3=>
 bH [a,b,c] w3 λd w4=>
 ∃l:Int,w4.cell? (n0.add 0)=some (.i l)/\
 aH (l==27) (loc [a,b,c,d] w4 λw5=>gP [a,b,c,d] fA #[.i 7] w5 λcw cx cy w6=>kn [a,b,c,d] cS #[.agg #[.i f,.i e,.i g]] w6 λeb w7=>gU [a,b,c,d] aW #[.agg #[.i cw,.i cx,.i cy],.bool eb,.bool true] w7 λbt bu bv cz w8=>loc [a,b,c,d] w8 λeh=>R (.returned (.tuple #[.agg #[.i bt,.i bu,.i bv],.i cz])) eh) (aH (l==28) (loc [a,b,c,d] w4 λdm=>∃bk:Int,dm.cell? (n0.add 2)=some (.i bk)/\
 gP [a,b,c,d] fA #[.i 8] dm λbh bi bj dn=>dn.cell? (n0.add 2)=some (.i bk)/\kn [a,b,c,d] cS #[.agg #[.i f,.i e,.i g]] dn λdk bs=>bs.cell? (n0.add 2)=some (.i bk)/\aH (decide (0<=bk)) (∃dl:Int,bs.cell? (n0.add 2)=some (.i dl)/\
 gU [a,b,c,d] aW #[.agg #[.i bh,.i bi,.i bj],.bool dk,.bool (decide (dl<64))] bs λbw bx bz da ei=>loc [a,b,c,d] ei λej=>R (.returned (.tuple #[.agg #[.i bw,.i bx,.i bz],.i da])) ej) (gU [a,b,c,d] aW #[.agg #[.i bh,.i bi,.i bj],.bool dk,.bool false] bs λy z aa az ek=>loc [a,b,c,d] ek λel=>R (.returned (.tuple #[.agg #[.i y,.i z,.i aa],.i az])) el)) (aH (l==29) (loc [a,b,c,d] w4 λem=>gP [a,b,c,d] lu #[.i (IntKind.wrap .i64 (e+j))] em λbm bn bo en=>kn [a,b,c,d] cS #[.agg #[.i f,.i e,.i g]] en λec dp=>aH ec (kn [a,b,c,d] cS #[.agg #[.i p,.i j,.i q]] dp λed eo=>gU [a,b,c,d] aW #[.agg #[.i bm,.i bn,.i bo],.bool ed,.bool (decide ((IntKind.wrap .i64 (e+j))<=64))] eo λca cb cc db ep=>loc [a,b,c,d] ep λeq=>R (.returned (.tuple #[.agg #[.i ca,.i cb,.i cc],.i db])) eq) (gU [a,b,c,d] aW #[.agg #[.i bm,.i bn,.i bo],.bool false,.bool (decide ((IntKind.wrap .i64 (e+j))<=64))] dp λab ac ad bb er=>loc [a,b,c,d] er λes=>R (.returned (.tuple #[.agg #[.i ab,.i ac,.i ad],.i bb])) es)) (aH (l==30) (loc [a,b,c,d] w4 λet=>kn [a,b,c,d] cS #[.agg #[.i f,.i e,.i g]] et λee dq=>aH ee (gP [a,b,c,d] fA #[.i 7] dq λdc dd de dr=>aH ((p==dc)&&((j==dd)&&((q==de)&&true))) (gP [a,b,c,d] fA #[.i 7] dr λdf dg dh eu=>gU [a,b,c,d] aW #[.agg #[.i f,.i e,.i g],.bool ((bf==df)&&((k==dg)&&((bg==dh)&&true))),.bool true] eu λcd ce cf di ev=>loc [a,b,c,d] ev λew=>R (.returned (.tuple #[.agg #[.i cd,.i ce,.i cf],.i di])) ew) (gU [a,b,c,d] aW #[.agg #[.i f,.i e,.i g],.bool false,.bool true] dr λae af ag bc ex=>loc [a,b,c,d] ex λey=>R (.returned (.tuple #[.agg #[.i ae,.i af,.i ag],.i bc])) ey)) (gU [a,b,c,d] aW #[.agg #[.i f,.i e,.i g],.bool false,.bool true] dq λah ai aj bd ez=>loc [a,b,c,d] ez λfa=>R (.returned (.tuple #[.agg #[.i ah,.i ai,.i aj],.i bd])) fa)) (aH (l==31) (loc [a,b,c,d] w4 λfb=>gP [a,b,c,d] fA #[.i 7] fb λbp bq br fc=>kn [a,b,c,d] cS #[.agg #[.i f,.i e,.i g]] fc λef ds=>aH ef (kn [a,b,c,d] cS #[.agg #[.i p,.i j,.i q]] ds λeg fd=>gU [a,b,c,d] aW #[.agg #[.i bp,.i bq,.i br],.bool eg,.bool true] fd λcg ch ci dj fe=>loc [a,b,c,d] fe λff=>R (.returned (.tuple #[.agg #[.i cg,.i ch,.i ci],.i dj])) ff) (gU [a,b,c,d] aW #[.agg #[.i bp,.i bq,.i br],.bool false,.bool true] ds λak al am be fg=>loc [a,b,c,d] fg λfh=>R (.returned (.tuple #[.agg #[.i ak,.i al,.i am],.i be])) fh)) (aH (l==32) (loc [a,b,c,d] w4 λfi=>gP [a,b,c,d] lu #[.i (IntKind.wrap .i64 (e+k))] fi λm n o fj=>kn [a,b,c,d] cS #[.agg #[.i f,.i e,.i g]] fj λdw dt=>aH dw (kn [a,b,c,d] cS #[.agg #[.i p,.i j,.i q]] dt λdx du=>aH dx (kn [a,b,c,d] cS #[.agg #[.i bf,.i k,.i bg]] du λdy fk=>gU [a,b,c,d] aW #[.agg #[.i m,.i n,.i o],.bool dy,.bool (decide ((IntKind.wrap .i64 (e+k))<=64))] fk λar au av cj fl=>loc [a,b,c,d] fl λfm=>R (.returned (.tuple #[.agg #[.i ar,.i au,.i av],.i cj])) fm) (gU [a,b,c,d] aW #[.agg #[.i m,.i n,.i o],.bool false,.bool (decide ((IntKind.wrap .i64 (e+k))<=64))] du λr s t ao fn=>loc [a,b,c,d] fn λfo=>R (.returned (.tuple #[.agg #[.i r,.i s,.i t],.i ao])) fo)) (gU [a,b,c,d] aW #[.agg #[.i m,.i n,.i o],.bool false,.bool (decide ((IntKind.wrap .i64 (e+k))<=64))] dt λu v x ap fp=>loc [a,b,c,d] fp λfq=>R (.returned (.tuple #[.agg #[.i u,.i v,.i x],.i ap])) fq)) (aH (l==34) (loc [a,b,c,d] w4 λfr=>gP [a,b,c,d] lu #[.i 1] fr λck cl cm fs=>gP [a,b,c,d] fA #[.i 8] fs λcn co cp ft=>gU [a,b,c,d] aW #[.agg #[.i ck,.i cl,.i cm],.bool ((f==cn)&&((e==co)&&((g==cp)&&true))),.bool true] ft λaw ax ay cq fu=>loc [a,b,c,d] fu λfv=>R (.returned (.tuple #[.agg #[.i aw,.i ax,.i ay],.i cq])) fv) (kn [a,b,c,d] cS #[.agg #[.i f,.i e,.i g]] w4 λdz cv=>aH (!dz) (loc [a,b,c,d] cv λfw=>R (.returned (.tuple #[.agg #[.i f,.i e,.i g],.i 9])) fw) (∃cr:ByteArray,cv.cell? (n0.add 5)=some (.string cr)/\
 kn [a,b,c,d] mC #[.string cr] cv λea dv=>aH (!ea) (loc [a,b,c,d] dv λfx=>R (.returned (.tuple #[.agg #[.i f,.i e,.i g],.i 2])) fx) (gP [a,b,c,d] fA #[.i 1] dv λcs ct cu fy=>loc [a,b,c,d] fy λfz=>R (.returned (.tuple #[.agg #[.i cs,.i ct,.i cu],.i 0])) fz)))))))))):Calls Tryz.prog lr #[.pointer (some n0),.agg #[.i f,.i e,.i g],.agg #[.i p,.i j,.i q],.agg #[.i bf,.i k,.i bg]] w R:=aP X [] h
end term_sortOfStrings
namespace term_sortOf
noncomputable abbrev X:Fx:=⟨Tryz.prog,Tryz.f42,[(1,ls [0,1,2,3,4,5,6,7,8,9,10,11,12,13,14,15,16,17])],[6,11]⟩
abbrev P0:Ps:=[(6,.l [.I,.I,.I] aR)]
abbrev dU (a:Nat) (b c d:Int) (w:World) (R:aD):Prop:=
 loc [a] w λe=>R (.returned (.tuple #[.agg #[.i 0,.i 0,.i 0],.i 1])) e
noncomputable def eT:=bK X [] (bG [0,1,1,1,1]) P0 dU
abbrev P1:Ps:=[(0,.v [.s]),(2,.v [.f]),(4,.v [.r]),(6,.l [.I,.I,.I] aR),(8,.v [.r]),(34,.v [.I]),(35,.v [.I])]
def l6 (b:Sl) (a:Fv) (j:Addr) (k:Nat) (d e f:Int) (c:Addr) (g i:Int) (w:World) (R:aD):Prop:=cG P1 0 (X.Sem (bG [0,1,1,1,3])) b a j k d e f c g i w R
noncomputable def km:=fZ X (bG [0,1,1,1,3]) P1 l6
abbrev eY (a:Nat) (b c d:Int) (w:World) (R:aD):Prop:=
 loc [a] w λe=>R (.returned (.tuple #[.agg #[.i 0,.i 0,.i 0],.i 1])) e
noncomputable def fU:=bK X [km,eT] (bG [0,1,1,1,2,2,2,2,1,1,3]) P0 eY
abbrev P2:Ps:=[(6,.l [.I,.I,.I] aR),(11,.l [.I,.I,.I] aR),(12,.v [.I])]
abbrev hU (f:Nat) (g j k:Int) (e:Nat) (a b c d:Int) (w:World) (R:aD):Prop:=
 aH (d !=0) (loc [f,e] w λl=>R (.returned (.tuple #[.agg #[.i 0,.i 0,.i 0],.i d])) l) (loc [f,e] w λm=>R (.returned (.tuple #[.agg #[.i a,.i b,.i c],.i 0])) m)
noncomputable def iH:=bK X [fU,km,eT] (bG [8]) P2 hU
theorem dI:∀(k:Sl) (m:Fv) (o:Addr) (d:Nat) (f g j:Int) (b:Addr) (ay l:Int) (w:World) (R:aD) (h:aH (decide (l<ay)) (∃az:Sl,w.cell? (o.add 1)=some (az.v)/\
 (0:Int)<=l/\l<((az.n:Nat):Int)/\aX az.a λbb=>∃p:Int,w.cell? (bb.add (Int.toNat l *1))=some (.i p)/\
 aH (decide (p<0)) (eY d f g j w R) (aH (decide (p>=((k.n:Nat):Int))) (eY d f g j w R) ((0:Int)<=p/\p<((k.n:Nat):Int)/\aX k.a λbc=>dD w ((bc.add (Int.toNat p *9)).add 6) λbd be bf=>(0:Int)<=l/\l<((3:Nat):Int)/\bR w (b.add (Int.toNat l *3)) (.i bd) λw5=>kept [d] w w5/\
 bR w5 ((b.add (Int.toNat l *3)).add 1) (.i be) λw6=>kept [d] w5 w6/\
 bR w6 ((b.add (Int.toNat l *3)).add 2) (.i bf) λw7=>kept [d] w6 w7/\
 l6 k m o d f g j b ay (IntKind.wrap .i64 (l+1)) w7 R))) (kn [d] nW #[.pointer (some o)] w λcf w8=>aH (!cf) (loc [d] w8 λcg=>R (.returned (.tuple #[.agg #[.i 0,.i 0,.i 0],.i 1])) cg) (bH [d] w8 λe c=>
 ∃ca:Int,c.cell? (o.add 0)=some (.i ca)/\
 aH (ca==0) (gU [d,e] nX #[.pointer (some o),m.v] c λab ac ad br ch=>loc [d,e] ch λci=>hU d f g j e ab ac ad br ci R) (∃cb:Int,c.cell? (o.add 0)=some (.i cb)/\
 aH (decide (cb<=3)) (gU [d,e] nB #[.pointer (some o)] c λae af ag bs cj=>loc [d,e] cj λck=>hU d f g j e ae af ag bs ck R) (∃cc:Int,c.cell? (o.add 0)=some (.i cc)/\
 aH (decide (cc<=23)) ((0:Int)<=0/\0<((3:Nat):Int)/\dD c (b.add (Int.toNat 0 *3)) λbt bu bv=>(0:Int)<=1/\1<((3:Nat):Int)/\dD c (b.add (Int.toNat 1 *3)) λbw bx bz=>(0:Int)<=2/\2<((3:Nat):Int)/\dD c (b.add (Int.toNat 2 *3)) λah ai aj=>gU [d,e] nA #[.pointer (some o),.agg #[.i bt,.i bu,.i bv],.agg #[.i bw,.i bx,.i bz],.agg #[.i ah,.i ai,.i aj]] c λq r s ak cl=>loc [d,e] cl λcm=>hU d f g j e q r s ak cm R) (∃al:Int,c.cell? (o.add 0)=some (.i al)/\
 aH (decide (al<=26)) ((0:Int)<=0/\0<((3:Nat):Int)/\dD c (b.add (Int.toNat 0 *3)) λam an ao=>(0:Int)<=1/\1<((3:Nat):Int)/\dD c (b.add (Int.toNat 1 *3)) λap aq ar=>(0:Int)<=2/\2<((3:Nat):Int)/\dD c (b.add (Int.toNat 2 *3)) λau av aw=>gU [d,e] l4 #[.pointer (some o),.agg #[.i am,.i an,.i ao],.agg #[.i ap,.i aq,.i ar],.agg #[.i au,.i av,.i aw]] c λt u x ax cn=>loc [d,e] cn λco=>hU d f g j e t u x ax co R) ((0:Int)<=0/\0<((3:Nat):Int)/\dD c (b.add (Int.toNat 0 *3)) λbg bh bi=>(0:Int)<=1/\1<((3:Nat):Int)/\dD c (b.add (Int.toNat 1 *3)) λbj bk bm=>(0:Int)<=2/\2<((3:Nat):Int)/\dD c (b.add (Int.toNat 2 *3)) λbn bo bp=>gU [d,e] lr #[.pointer (some o),.agg #[.i bg,.i bh,.i bi],.agg #[.i bj,.i bk,.i bm],.agg #[.i bn,.i bo,.i bp]] c λy z aa bq cp=>loc [d,e] cp λcq=>hU d f g j e y z aa bq cq R))))))),l6 k m o d f g j b ay l w R:=mp (dA (X:=X) [iH,fU,km,eT] (bG [0,1,1,1,3]) P1)
theorem cT (c:Sl) (f:Int) (g:Sl) (j k l:Int) (m:ByteArray) (o p q:Int) (b:Fv) (w:World) (R:aD) (h:eV w (.cells #[.i f,g.v,.i j,.i k,.u l,.string m,.i o,.i p,.i q] aE) λw1=>
 bH [] w1 λe w2=>
 loc [e] w2 λa=>∃r:Int,a.cell? ((nb w).add 0)=some (.i r)/\
 aH (decide (r<0)) (dU e 0 0 0 a R) (∃s:Int,a.cell? ((nb w).add 0)=some (.i s)/\
 aH (decide (s>=35)) (dU e 0 0 0 a R) (∃t:Sl,a.cell? ((nb w).add 1)=some (t.v)/\
 ∃d:Int,a.cell? ((nb w).add 0)=some (.i d)/\
 (0:Int)<=d/\d<((35:Nat):Int)/\∃x:Int,a.cell? ((Addr.mk 0 0 none).add (Int.toNat d *1))=some (.i x)/\
 aH (((t.n:Nat):Int) !=x) (dU e 0 0 0 a R) (eV a (.cells #[.i 0,.i 0,.i 0,.i 0,.i 0,.i 0,.i 0,.i 0,.i 0] mu) λz=>
 ∃y:Sl,z.cell? ((nb w).add 1)=some (y.v)/\
 l6 c b (nb w) e 0 0 0 (nb a) ((y.n:Nat):Int) 0 z R)))):Calls Tryz.prog oc #[c.v,.agg #[.i f,g.v,.i j,.i k,.u l,.string m,.i o,.i p,.i q],b.v] w R:=aP X [iH,fU,km,eT] h
end term_sortOf
namespace term_SortOf_1
noncomputable abbrev X:Fx:=⟨Tryz.prog,Tryz.f43,[],[3]⟩
abbrev P0:Ps:=[(0,.v [.st]),(1,.v [.r]),(3,.l [.I,.I,.I] aR),(8,.v [.I]),(9,.v [.I])]
def dY (a:ByteArray) (e:Addr) (f:Nat) (b c d g i:Int) (w:World) (R:aD):Prop:=cG P0 0 (X.Sem (bG [0,1,1,1,1])) a e f b c d g i w R
noncomputable def eK:=fZ X (bG [0,1,1,1,1]) P0 dY
abbrev fY (a:ByteArray) (e:Addr) (f:Nat) (b c d g i:Int) (w:World) (R:aD):Prop:=
 dY a e f b c d g (IntKind.wrap .i64 (i+1)) w R
noncomputable def gG:=bK X [eK] (bG [3,2,1,1,1]) P0 fY
theorem aY:∀(c:ByteArray) (g:Addr) (l:Nat) (d e f u b:Int) (w:World) (R:aD) (h:aH (decide (b<u)) (∃j:Sl,w.cell? (g.add 0)=some (j.v)/\
 (0:Int)<=b/\b<((j.n:Nat):Int)/\aX j.a λo=>∃x:Int,w.cell? ((o.add (Int.toNat b *9)).add 0)=some (.i x)/\
 aH (x==0) (∃k:Sl,w.cell? (g.add 0)=some (k.v)/\
 (0:Int)<=b/\b<((k.n:Nat):Int)/\aX k.a λp=>∃y:ByteArray,w.cell? ((p.add (Int.toNat b *9)).add 5)=some (.string y)/\
 aH (y.toList==c.toList) (∃m:Sl,w.cell? (g.add 0)=some (m.v)/\
 (0:Int)<=b/\b<((m.n:Nat):Int)/\aX m.a λq=>dD w ((q.add (Int.toNat b *9)).add 6) λr s t=>loc [l] w λz=>R (.returned (.tuple #[.agg #[.i r,.i s,.i t],.bool true])) z) (fY c g l d e f u b w R)) (fY c g l d e f u b w R)) (loc [l] w λw7=>R (.returned (.tuple #[.agg #[.i 0,.i 0,.i 0],.bool false])) w7)),dY c g l d e f u b w R:=mp (dA (X:=X) [gG,eK] (bG [0,1,1,1,1]) P0)
theorem cT (a:ByteArray) (b:Addr) (w:World) (R:aD) (h:bH [] w λe d=>
 ∃c:Sl,d.cell? (b.add 0)=some (c.v)/\
 dY a b e 0 0 0 ((c.n:Nat):Int) 0 d R):Calls Tryz.prog mB #[.string a,.pointer (some b)] w R:=aP X [gG,eK] h
end term_SortOf_1
namespace term_SortOf
noncomputable abbrev X:Fx:=⟨Tryz.prog,Tryz.f12,[],[3,4]⟩
theorem cT (d:Sl) (e:Int) (f:Sl) (g j k:Int) (l:ByteArray) (m n o:Int) (w:World) (R:aD) (h:eV w (.cells #[d.v] gS) λx=>
 bH [] x λq y=>
 bH [q] y λr t=>
 ∃s:Sl,t.cell? ((nb w).add 0)=some (s.v)/\
 gU [q,r] oc #[s.v,.agg #[.i e,f.v,.i g,.i j,.u k,.string l,.i m,.i n,.i o],.func (.func mB) #[] #[.pointer (some (nb w))]] t λa b c p z=>loc [q,r] z λw7=>R (.returned (.tuple #[.agg #[.i a,.i b,.i c],.i p])) w7):Calls Tryz.prog mn #[.agg #[d.v],.agg #[.i e,f.v,.i g,.i j,.u k,.string l,.i m,.i n,.i o]] w R:=aP X [] h
end term_SortOf
namespace slices_Equal_sl_int_int
noncomputable abbrev X:Fx:=⟨Tryz.prog,Tryz.f128,[(6,ls [0,1,2,3,4,5,6,7,8])],[]⟩
abbrev P0:Ps:=[(0,.v [.s]),(1,.v [.s]),(12,.v [.I]),(13,.v [.I])]
def L0 (a b:Sl) (c d:Int) (w:World) (R:aD):Prop:=cG P0 0 (X.Sem (bG [0,1,1,1,2])) a b c d w R
noncomputable def eK:=fZ X (bG [0,1,1,1,2]) P0 L0
theorem cO:∀(c d:Sl) (e b:Int) (w:World) (R:aD) (h:aH (decide (b<e)) (tZ w λj=>(0:Int)<=b/\b<((c.n:Nat):Int)/\aX c.a λf=>∃k:Int,j.cell? (f.add (Int.toNat b *1))=some (.i k)/\
 (0:Int)<=b/\b<((d.n:Nat):Int)/\aX d.a λg=>∃l:Int,j.cell? (g.add (Int.toNat b *1))=some (.i l)/\
 aH (k !=l) (R (.returned (.bool false)) j) (L0 c d e (IntKind.wrap .i64 (b+1)) j R)) (R (.returned (.bool true)) w)),L0 c d e b w R:=mp (dA (X:=X) [eK] (bG [0,1,1,1,2]) P0)
theorem ok (a b:Sl) (w:World) (R:aD) (h:aH (((a.n:Nat):Int) !=((b.n:Nat):Int)) (R (.returned (.bool false)) w) (L0 a b ((a.n:Nat):Int) 0 w R)):Calls Tryz.prog iO #[a.v,b.v] w R:=aP X [eK] h
end slices_Equal_sl_int_int
namespace term_sameNode
noncomputable abbrev X:Fx:=⟨Tryz.prog,Tryz.f92,[(1,ls [0,1,2,3,4,5,6,7,8,9,10,11,12,13,14,15,16,17,18,19,20,21,22,23,24,25,26,27,28,29,30,31,32,33,34,35,36,37,38,39,40,41,42,43,44,45,46,47,48,49,50,51,52,53,54,55,56,57,58,59,60,61,62,63,64,65,66,67,68,69,70,71,72,73,74,75])],[]⟩
theorem ok (b c:Addr) (w:World) (R:aD) (h:tZ w λa=>∃t8:Int,a.cell? (b.add 0)=some (.i t8)/\
 ∃e:Int,a.cell? (c.add 0)=some (.i e)/\
 aH (t8==e) (∃f:Int,a.cell? (b.add 2)=some (.i f)/\
 ∃g:Int,a.cell? (c.add 2)=some (.i g)/\
 aH (f==g) (∃j:Int,a.cell? (b.add 3)=some (.i j)/\
 ∃k:Int,a.cell? (c.add 3)=some (.i k)/\
 aH (j==k) (∃r:Int,a.cell? (b.add 4)=some (.u r)/\
 ∃s:Int,a.cell? (c.add 4)=some (.u s)/\
 aH (r==s) (dD a (b.add 6) λl m n=>dD a (c.add 6) λo p q=>aH ((l==o)&&((m==p)&&((n==q)&&true))) (∃t:Sl,a.cell? (b.add 1)=some (t.v)/\
 ∃x:Sl,a.cell? (c.add 1)=some (x.v)/\
 zY iO #[t.v,x.v] a λab d=>d.cell? (c.add 3)=some (.i k)/\d.cell? (b.add 3)=some (.i j)/\d.cell? (c.add 2)=some (.i g)/\d.cell? (b.add 2)=some (.i f)/\d.cell? (c.add 0)=some (.i e)/\d.cell? (b.add 0)=some (.i t8)/\aH ab (∃y:ByteArray,d.cell? (b.add 5)=some (.string y)/\
 ∃z:ByteArray,d.cell? (c.add 5)=some (.string z)/\
 R (.returned (.bool (y.toList==z.toList))) d) (R (.returned (.bool false)) d)) (R (.returned (.bool false)) a)) (R (.returned (.bool false)) a)) (R (.returned (.bool false)) a)) (R (.returned (.bool false)) a)) (R (.returned (.bool false)) a)):Calls Tryz.prog oK #[.pointer (some b),.pointer (some c)] w R:=aP X [] h
end term_sameNode
namespace term_search
noncomputable abbrev X:Fx:=⟨Tryz.prog,Tryz.f49,[],[2]⟩
abbrev P0:Ps:=[(1,.v [.r]),(2,.l [.s] gS),(8,.v [.I]),(9,.v [.I])]
def dY (c:Addr) (b:Nat) (a:Sl) (d e:Int) (w:World) (R:aD):Prop:=cG P0 0 (X.Sem (bG [0,1,1,1,1])) c b a d e w R
noncomputable def eK:=fZ X (bG [0,1,1,1,1]) P0 dY
theorem aY:∀(f:Addr) (e:Nat) (b:Sl) (g c:Int) (w:World) (R:aD) (h:aH (decide (c<g)) ((0:Int)<=c/\c<((b.n:Nat):Int)/\aX b.a λd=>kn [e] oK #[.pointer (some (d.add (Int.toNat c *9))),.pointer (some f)] w λj k=>aH j (R (.returned (.i c)) k) (dY f e b g (IntKind.wrap .i64 (c+1)) k R)) (R (.returned (.i (-1))) w)),dY f e b g c w R:=mp (dA (X:=X) [eK] (bG [0,1,1,1,1]) P0)
theorem cT (a:Sl) (b:Addr) (w:World) (R:aD) (h:bH [] w λc d=>
 dY b c a ((a.n:Nat):Int) 0 d R):Calls Tryz.prog qz #[.agg #[a.v],.pointer (some b)] w R:=aP X [eK] h
end term_search
namespace slices_Clone_sl_int_int
noncomputable abbrev X:Fx:=⟨Tryz.prog,Tryz.f50,[],[]⟩
theorem ok (b:Sl) (w:World) (R:aD) (h:aH b.a.isNone (R (.returned (.slice none 0 0)) w) (eV w (.cells #[] bW) λe=>
 ∃(c:Sl) (d:World),Sem.run Tryz.prog (Builtin.append_ #[gv,gv] gv #[.slice (some (nb w)) 0 0,b.v]) e=.ok (c.v) d/\R (.returned (c.v)) d)):Calls Tryz.prog iN #[b.v] w R:=aP X [] h
end slices_Clone_sl_int_int
namespace term_Add
noncomputable abbrev X:Fx:=⟨Tryz.prog,Tryz.f14,[(14,ls [0,1,2,3,4,5,6,7])],[2,4,7]⟩
theorem cT (b:Sl) (s:Int) (t:Sl) (x y z:Int) (aa:ByteArray) (ab ac ad:Int) (w:World) (R:aD) (h:bH [] w λc g=>
 eV g (.cells #[.i s,t.v,.i x,.i y,.u z,.string aa,.i ab,.i ac,.i ad] aE) λw2=>
 bH [c] w2 λd w3=>
 tG w3 (nb g) λap aq ar au av aw ax ay az=>gU [c,d] mn #[.agg #[b.v],.agg #[.i ap,aq.v,.i ar,.i au,.u av,.string aw,.i ax,.i ay,.i az]] w3 λp q r l w4=>bH [c,d] w4 λf w5=>
 aH (l !=0) (loc [c,d,f] w5 λw9=>R (.returned (.tuple #[.agg #[.slice none 0 0],.i 0,.i l])) w9) (loc [c,d,f] w5 λw8=>bR w8 ((nb g).add 6) (.i p) λae=>kept [c,d,f] w8 ae/\
 bR ae (((nb g).add 6).add 1) (.i q) λaf=>kept [c,d,f] ae af/\
 bR af (((nb g).add 6).add 2) (.i r) λbn=>kept [c,d,f] af bn/\
 mX [c,d,f] qz #[.agg #[b.v],.pointer (some (nb g))] bn λbk m=>aH (decide (bk>=0)) (loc [c,d,f] m λbs=>R (.returned (.tuple #[.agg #[b.v],.i bk,.i 0])) bs) (aH (decide (((b.n:Nat):Int)>=4096)) (loc [c,d,f] m λbt=>R (.returned (.tuple #[.agg #[.slice none 0 0],.i 0,.i 4])) bt) (∃bm:Sl,m.cell? ((nb g).add 1)=some (bm.v)/\
 QN [c,d,f] iN #[bm.v] m λbq bo=>bR bo ((nb g).add 1) (bq.v) λag=>kept [c,d,f] bo ag/\
 ∃(j:Sl) (o:World),Sem.run Tryz.prog (Instr.makeSlice aG (.i (IntKind.wrap .i64 (((b.n:Nat):Int)+1))) (.i (IntKind.wrap .i64 (((b.n:Nat):Int)+1)))) ag=.ok (j.v) o/\kept [c,d,f] ag o/\∃(br:Int) (k:World),Sem.run Tryz.prog (Builtin.copy_ #[aG,aG] bW #[j.v,b.v]) o=.ok (.i br) k/\kept [c,d,f] o k/\tG k (nb g) λbb bc bd be bf bg bh bi bj=>(0:Int)<=((b.n:Nat):Int)/\((b.n:Nat):Int)<((j.n:Nat):Int)/\aX j.a λe=>bR k (e.add (Int.toNat ((b.n:Nat):Int) *9)) (.i bb) λah=>kept [c,d,f] k ah/\
 bR ah ((e.add (Int.toNat ((b.n:Nat):Int) *9)).add 1) (bc.v) λai=>kept [c,d,f] ah ai/\
 bR ai ((e.add (Int.toNat ((b.n:Nat):Int) *9)).add 2) (.i bd) λaj=>kept [c,d,f] ai aj/\
 bR aj ((e.add (Int.toNat ((b.n:Nat):Int) *9)).add 3) (.i be) λak=>kept [c,d,f] aj ak/\
 bR ak ((e.add (Int.toNat ((b.n:Nat):Int) *9)).add 4) (.u bf) λal=>kept [c,d,f] ak al/\
 bR al ((e.add (Int.toNat ((b.n:Nat):Int) *9)).add 5) (.string bg) λam=>kept [c,d,f] al am/\
 bR am ((e.add (Int.toNat ((b.n:Nat):Int) *9)).add 6) (.i bh) λan=>kept [c,d,f] am an/\
 bR an ((e.add (Int.toNat ((b.n:Nat):Int) *9)).add 7) (.i bi) λao=>kept [c,d,f] an ao/\
 bR ao ((e.add (Int.toNat ((b.n:Nat):Int) *9)).add 8) (.i bj) λbp=>kept [c,d,f] ao bp/\
 loc [c,d,f] bp λbv=>R (.returned (.tuple #[.agg #[j.v],.i ((b.n:Nat):Int),.i 0])) bv)))):Calls Tryz.prog pM #[.agg #[b.v],.agg #[.i s,t.v,.i x,.i y,.u z,.string aa,.i ab,.i ac,.i ad]] w R:=aP X [] h
end term_Add
namespace regex_small
noncomputable abbrev X:Fx:=⟨Tryz.prog,Tryz.f184,[],[]⟩
theorem ok (a:Int) (w:World) (R:aD) (h:aH (decide (a>=97)) (R (.returned (.bool (decide (a<=122)))) w) (R (.returned (.bool false)) w)):Calls Tryz.prog kA #[.int .u8 a] w R:=aP X [] h
end regex_small
namespace regex_plain
noncomputable abbrev X:Fx:=⟨Tryz.prog,Tryz.f199,[],[]⟩
theorem ok (a:Int) (w:World) (R:aD) (h:aH (decide (a>=32)) (aH (decide (a<=126)) (aH (a !=39) (R (.returned (.bool (a !=92))) w) (R (.returned (.bool false)) w)) (R (.returned (.bool false)) w)) (R (.returned (.bool false)) w)):Calls Tryz.prog n9 #[.int .u8 a] w R:=aP X [] h
end regex_plain
namespace strings_IndexByte
noncomputable abbrev X:Fx:=⟨Tryz.prog,Tryz.f183,[],[]⟩
theorem ok (b:ByteArray) (a:Int) (w:World) (R:aD) (h:zZ gj #[.string b,.int .u8 a] w λc d=>R (.returned (.i c)) d):Calls Tryz.prog hG #[.string b,.int .u8 a] w R:=aP X [] h
end strings_IndexByte
namespace internal_stringslite_IndexByte
noncomputable abbrev X:Fx:=⟨Tryz.prog,Tryz.f198,[],[]⟩
theorem ok (b:ByteArray) (a:Int) (w:World) (R:aD) (h:∃c:Int,∃d:World,Sem.run Tryz.prog (callFunc dX #[.string b,.int .u8 a]) w=.ok (.value (.i c)) d/\
 R (.returned (.i c)) d):Calls Tryz.prog gj #[.string b,.int .u8 a] w R:=aP X [] h
end internal_stringslite_IndexByte
namespace regex_byteAt
noncomputable abbrev X:Fx:=⟨Tryz.prog,Tryz.f185,[(4,ls [0,1,2,3,5,6,7,8,4,9,10,11])],[]⟩
abbrev P0:Ps:=[]
abbrev S1 (w:World) (R:aD):Prop:=
 R (.returned (.tuple #[.int .u8 0,.i 0,.bool false])) w
noncomputable def gG:=bK X [] (bG [3]) P0 S1
abbrev P1:Ps:=[(0,.v [.st]),(1,.v [.I])]
abbrev S0 (f:ByteArray) (a:Int) (w:World) (R:aD):Prop:=
 aH (decide ((IntKind.wrap .i64 (a+3))<((f.size:Nat):Int))) ((0:Int)<=a/\∃b:UInt8,f[Int.toNat a]? =some b/\aH (((b.toNat:Nat):Int)==92) ((0:Int)<=(IntKind.wrap .i64 (a+1))/\∃c:UInt8,f[Int.toNat (IntKind.wrap .i64 (a+1))]? =some c/\aH (((c.toNat:Nat):Int)==120) (tZ w λl=>(0:Int)<=(IntKind.wrap .i64 (a+2))/\∃d:UInt8,f[Int.toNat (IntKind.wrap .i64 (a+2))]? =some d/\(0:Int)<=(IntKind.wrap .i64 (a+3))/\∃e:UInt8,f[Int.toNat (IntKind.wrap .i64 (a+3))]? =some e/\zZ hG #[.string (ByteArray.mk #[48,49,50,51,52,53,54,55,56,57,97,98,99,100,101,102]),.int .u8 ((d.toNat:Nat):Int)] l λg m=>zZ hG #[.string (ByteArray.mk #[48,49,50,51,52,53,54,55,56,57,97,98,99,100,101,102]),.int .u8 ((e.toNat:Nat):Int)] m λj k=>aH (decide (g>=0)) (aH (decide (j>=0)) (R (.returned (.tuple #[.int .u8 (IntKind.wrap .u8 (Vd .i64 (IntKind.wrap .i64 (g *2^(4))) j)),.i 4,.bool true])) k) (S1 k R)) (S1 k R)) (S1 w R)) (S1 w R)) (S1 w R)
noncomputable def eT:=bK X [gG] (bG [2]) P1 S0
theorem ok (b:ByteArray) (a:Int) (w:World) (R:aD) (h:aH (decide ((IntKind.wrap .i64 (a+2))<((b.size:Nat):Int))) ((0:Int)<=a/\∃c:UInt8,b[Int.toNat a]? =some c/\aH (((c.toNat:Nat):Int)==39) ((0:Int)<=(IntKind.wrap .i64 (a+1))/\∃d:UInt8,b[Int.toNat (IntKind.wrap .i64 (a+1))]? =some d/\zY n9 #[.int .u8 ((d.toNat:Nat):Int)] w λj g=>aH j ((0:Int)<=(IntKind.wrap .i64 (a+2))/\∃e:UInt8,b[Int.toNat (IntKind.wrap .i64 (a+2))]? =some e/\aH (((e.toNat:Nat):Int)==39) ((0:Int)<=(IntKind.wrap .i64 (a+1))/\∃f:UInt8,b[Int.toNat (IntKind.wrap .i64 (a+1))]? =some f/\R (.returned (.tuple #[.int .u8 ((f.toNat:Nat):Int),.i 3,.bool true])) g) (S0 b a g R)) (S0 b a g R)) (S0 b a w R)) (S0 b a w R)):Calls Tryz.prog lj #[.string b,.i a] w R:=aP X [eT,gG] h
end regex_byteAt
namespace regex_tokenAt
noncomputable abbrev X:Fx:=⟨Tryz.prog,Tryz.f156,[],[4]⟩
abbrev P0:Ps:=[(0,.v [.st]),(1,.v [.I]),(4,.l [.Y,.Y,.Y,.st,.I] fI),(7,.v [.I])]
def l6 (i:ByteArray) (f:Int) (j:Nat) (a b c:Int) (d:ByteArray) (e g:Int) (w:World) (R:aD):Prop:=cG P0 0 (X.Sem (bG [0,2,1,1,3,2,2])) i f j a b c d e g w R
noncomputable def km:=fZ X (bG [0,2,1,1,3,2,2]) P0 l6
abbrev eY (c:ByteArray) (a:Int) (d:Nat) (e f g:Int) (j:ByteArray) (k b:Int) (w:World) (R:aD):Prop:=
 (0:Int)<=b/\b<=((c.size:Nat):Int)/\(0:Int)<=a/\a<=(((Int.toNat b):Nat):Int)/\loc [d] w λl=>R (.returned (.tuple #[.agg #[.int .u8 119,.int .u8 0,.int .u8 0,.string (c.extract (Int.toNat a) (Int.toNat b)),.i a],.i (IntKind.wrap .i64 (b - a))])) l
noncomputable def fU:=bK X [km] (bG [2,1,3,2,2]) P0 eY
theorem dI:∀(i:ByteArray) (k:Int) (j:Nat) (a b c:Int) (d:ByteArray) (e f:Int) (w:World) (R:aD) (h:aH (decide (f<((i.size:Nat):Int))) ((0:Int)<=f/\∃g:UInt8,i[Int.toNat f]? =some g/\kn [j] kA #[.int .u8 ((g.toNat:Nat):Int)] w λl m=>aH l (l6 i k j a b c d e (IntKind.wrap .i64 (f+1)) m R) (eY i k j a b c d e f m R)) (eY i k j a b c d e f w R)),l6 i k j a b c d e f w R:=mp (dA (X:=X) [fU,km] (bG [0,2,1,1,3,2,2]) P0)
abbrev P1:Ps:=[(1,.v [.I]),(4,.l [.Y,.Y,.Y,.st,.I] fI)]
abbrev pj (a:Int) (b:Nat) (c d e:Int) (f:ByteArray) (g:Int) (w:World) (R:aD):Prop:=
 loc [b] w λj=>R (.returned (.tuple #[.agg #[.int .u8 63,.int .u8 0,.int .u8 0,.s0,.i a],.i 1])) j
noncomputable def l8:=bK X [fU,km] (bG [3]) P1 pj
abbrev P2:Ps:=[(0,.v [.st]),(1,.v [.I]),(4,.l [.Y,.Y,.Y,.st,.I] fI),(8,.v [.Y]),(10,.v [.b]),(11,.v [.I]),(12,.v [.Y])]
abbrev Fu (o:ByteArray) (j:Int) (l:Nat) (a b c:Int) (d:ByteArray) (e m:Int) (n:Bool) (g k:Int) (w:World) (R:aD):Prop:=
 aH (!n) (pj j l a b c d e w R) (aH (decide (g>=((o.size:Nat):Int))) (pj j l a b c d e w R) ((0:Int)<=g/\∃f:UInt8,o[Int.toNat g]? =some f/\aH (((f.toNat:Nat):Int) !=93) (pj j l a b c d e w R) (aH (decide (m>k)) (pj j l a b c d e w R) (loc [l] w λp=>R (.returned (.tuple #[.agg #[.int .u8 114,.int .u8 m,.int .u8 k,.s0,.i j],.i (IntKind.wrap .i64 ((IntKind.wrap .i64 (g+1)) - j))])) p))))
noncomputable def vU:=bK X [l8,fU,km] (bG [5,1,5,2,2]) P2 Fu
abbrev P3:Ps:=[(0,.v [.st]),(1,.v [.I]),(4,.l [.Y,.Y,.Y,.st,.I] fI),(8,.v [.Y]),(10,.v [.b]),(11,.v [.I])]
abbrev hU (l:ByteArray) (k:Int) (j:Nat) (a b c:Int) (d:ByteArray) (e q:Int) (p:Bool) (f:Int) (w:World) (R:aD):Prop:=
 aH (!p) (pj k j a b c d e w R) (aH (decide (f>=((l.size:Nat):Int))) (pj k j a b c d e w R) ((0:Int)<=f/\∃g:UInt8,l[Int.toNat f]? =some g/\aH (((g.toNat:Nat):Int) !=45) (pj k j a b c d e w R) (YF [j] lj #[.string l,.i (IntKind.wrap .i64 (f+1))] w λm n o r=>Fu l k j a b c d e q o (IntKind.wrap .i64 (f+(IntKind.wrap .i64 (1+n)))) m r R)))
noncomputable def iH:=bK X [vU,l8,fU,km] (bG [2,1,5,2,2]) P3 hU
abbrev P4:Ps:=[(0,.v [.st]),(1,.v [.I]),(4,.l [.Y,.Y,.Y,.st,.I] fI),(6,.v [.Y])]
abbrev dU (l:ByteArray) (a:Int) (b:Nat) (c d e:Int) (f:ByteArray) (g k:Int) (w:World) (R:aD):Prop:=
 mX [b] hG #[.string (ByteArray.mk #[40,41,44,124,38,33,42]),.int .u8 k] w λt v=>aH (decide (t>=0)) (loc [b] v λy=>R (.returned (.tuple #[.agg #[.int .u8 k,.int .u8 0,.int .u8 0,.s0,.i a],.i 1])) y) (kn [b] kA #[.int .u8 k] v λu s=>aH u (l6 l a b c d e f g a s R) (aH (k==91) (YF [b] lj #[.string l,.i (IntKind.wrap .i64 (a+1))] s λo p q z=>hU l a b c d e f g o q (IntKind.wrap .i64 ((IntKind.wrap .i64 (a+1))+p)) z R) (YF [b] lj #[.string l,.i a] s λj m n r=>aH n (loc [b] r λx=>R (.returned (.tuple #[.agg #[.int .u8 114,.int .u8 j,.int .u8 j,.s0,.i a],.i m])) x) (pj a b c d e f g r R))))
noncomputable def eT:=bK X [iH,vU,l8,fU,km] (bG [2]) P4 dU
theorem cT (c:ByteArray) (b:Int) (w:World) (R:aD) (h:bH [] w λd e=>
 (0:Int)<=b/\∃a:UInt8,c[Int.toNat b]? =some a/\dU c b d 0 0 0 (ByteArray.mk #[]) 0 ((a.toNat:Nat):Int) e R):Calls Tryz.prog oJ #[.string c,.i b] w R:=aP X [eT,iH,vU,l8,fU,km] h
end regex_tokenAt
namespace regex_tokens_1
noncomputable def C0:Code:=(Tryz.f155.body).getD .skip
noncomputable def C1:=C0.fs
noncomputable def C2:=C1.sn
noncomputable def C3:=C2.fs
noncomputable def C4:=C3.fs
noncomputable def C5:=C0.sn
abbrev Q0 (R:aD):Qv:=(Exit.then (Ad Tryz.prog (cx 39) C5 (bodyPost Tryz.prog Tryz.f155 R)) (bodyPost Tryz.prog Tryz.f155 R))
abbrev Q1 (R:aD):Qv:=(Exit.inBlock 0 (Q0 R))
def L0 (a:Nat) (c:Addr) (b:Int) (w:World) (R:aD):Prop:=LP Tryz.prog (cx 39) C4 (Q1 R) [(0,.func (.yield a) #[] #[]),(1,.pointer (some c)),(3,.i b)] w
def He (E:Env) (w:World) (R:aD):Prop:=W.BN (Env.get? E 0) λa=>W.gC (Env.get? E 1) λc=>W.asInt .i64 (Env.get? E 3) λb=>L0 a c b w R
theorem ym:LOk Tryz.prog 39 He C4 Q1:=by
 intro R E w h
 obtain ⟨aaq,JG,DI⟩:=W.BO h
 obtain ⟨t1,ZC,DJ⟩:=W.bP DI
 obtain ⟨i3,DX,DK⟩:=W.pB DJ
 intro a ha
 exact DK a (ha.cons JG (ha.cons ZC (ha.cons DX ha.nil)))
noncomputable def C6:=C4.fs
noncomputable def C7:=C4.sn
noncomputable def C8:=C7.fs
noncomputable def C9:=C8.fs
noncomputable def Qs:=C9.sn
noncomputable def N0:=Qs.fs
noncomputable def UB:=C8.sn
noncomputable def UC:=UB.sn
noncomputable def UD:=UC.fs
noncomputable def U2:=UC.sn
noncomputable def N1:=C6.sn
noncomputable def UE:=N1.fs
noncomputable def Sm:=N0.sn
noncomputable def UF:=Qs.sn
noncomputable def N2:=UD.sn
noncomputable def Qt:=N2.fs
noncomputable def Xh:=N2.sn
noncomputable def Xi:=N1.sn
theorem cO (d:Nat) (g:Addr) (f:Int) (w:World) (R:aD) (h:∃t7:ByteArray,w.cell? g=some (.string t7)/\
 aH (decide (f<((t7.size:Nat):Int))) (∃z:ByteArray,w.cell? g=some (.string z)/\
 (0:Int)<=f/\∃j:UInt8,z[Int.toNat f]? =some j/\aH (((j.toNat:Nat):Int)==32) (L0 d g (IntKind.wrap .i64 (f+1)) w R) (∃aa:ByteArray,w.cell? g=some (.string aa)/\
 ca8 oJ #[.string aa,.i f] w λk l m o p q y=>eV y (.cells #[.int .u8 0,.int .u8 0,.int .u8 0,.s0,.i 0] fI) λw2=>
 WV w2 (nb y) (.int .u8 k) (.int .u8 l) (.int .u8 m) (.string o) (.i p) λw7=>Rq w7 (nb y) λr s t u x=>xh Tryz.prog d #[.agg #[.int .u8 r,.int .u8 s,.int .u8 t,.string u,.i x]] w7 λ(ad:Bool) w8=>aH (!ad) (R (.returned (.tuple #[])) w8) (∃ab:Int,w8.cell? ((nb y).add 0)=some (.int .u8 ab)/\
 aH (ab==63) (R (.returned (.tuple #[])) w8) (L0 d g (IntKind.wrap .i64 (f+q)) w8 R)))) (∃ac:ByteArray,w.cell? g=some (.string ac)/\
 xh Tryz.prog d #[.agg #[.int .u8 36,.int .u8 0,.int .u8 0,.s0,.i ((ac.size:Nat):Int)]] w λ(ah:Bool) w9=>R (.returned (.tuple #[])) w9)):L0 d g f w R:=
 LP.step (n:=(cx 39)) (c:=C4) (E:=[(0,.func (.yield d) #[] #[]),(1,.pointer (some g)),(3,.i f)]) (w:=w) (sq C4 (sr C6 (show (λ(E:Env) (w:World)=>xT Tryz.prog C6 (λE w=>pG (Env.val E (.tmp 9)) (xT Tryz.prog C9 (λE w=>pG (Env.val E (.tmp 13)) (xT Tryz.prog N0 (λE w=>He E w R) E w) (xT Tryz.prog UB (λE w=>xT Tryz.prog UD (λE w=>pG (Env.val E (.tmp 30)) (rM Tryz.prog Tryz.f155 E w (λv=>R (.returned v) w)) (XQ Tryz.prog U2 (λE w=>He E w R) E w)) E w) E w)) E w) (XQ Tryz.prog C5 (λE w=>rM Tryz.prog Tryz.f155 E w (λv=>R (.returned v) w)) E w)) E w) [(0,.func (.yield d) #[] #[]),(1,.pointer (some g)),(3,.i f)] w from mp h) λ_ _ b=>(cn N1 b (λb=>(sk UE λa e=>nx e (bk C7 1 (by kernel_rfl) (sq C8 (sr C9 b λ_ _ b=>(cn Qs b (λb=>(sr N0 b λ_ _ b=>(xt Sm 1 (by kernel_rfl) λa e=>ym R _ _ b a e))) (λb=>(sk UF λa e=>nx e (sr UB b λ_ _ b=>(sq UC (sr UD b λ_ _ b=>(cn N2 b (λb=>(rt Qt λa e=>qj e b)) (λb=>(sk Xh λa e=>nx e (rg U2 (by kernel_rfl) b λ_ _ a e b=>ym R _ _ b a e))))))))))))))) (λb=>(xt Xi 0 (by kernel_rfl) λa e=>nx e (rg C5 (by kernel_rfl) b λ_ _ a e b=>qj e b))))))
theorem ok (a:Nat) (b:Addr) (w:World) (R:aD) (h:L0 a b 0 w R):Calls Tryz.prog fP #[.func (.yield a) #[] #[],.pointer (some b)] w R:=
 oU (R:=R) (fn:=Tryz.f155) (c:=C0) (args:=[.func (.yield a) #[] #[],.pointer (some b)]) (by kernel_rfl) (by kernel_rfl) (by kernel_rfl) (sq C0 (sr C1 (show (λ(E:Env) (w:World)=>xT Tryz.prog C1 (λE w=>He E w R) E w) (rI 0 [.func (.yield a) #[] #[],.pointer (some b)]) w from mp h) λ_ _ d=>(bk C2 0 (by kernel_rfl) (lp C3 (by kernel_rfl) (ym R _ _ d)))))
end regex_tokens_1
namespace regex_tokens
noncomputable abbrev X:Fx:=⟨Tryz.prog,Tryz.f142,[],[]⟩
theorem ok (a:ByteArray) (w:World) (R:aD) (h:eV w (.cells #[.string a] cF) λb=>
 R (.returned (.func (.func fP) #[] #[.pointer (some (nb w))])) b):Calls Tryz.prog sM #[.string a] w R:=aP X [] h
end regex_tokens
namespace regex_one
noncomputable abbrev X:Fx:=⟨Tryz.prog,Tryz.f163,[],[4]⟩
theorem cT (c:Int) (b:Sl) (w:World) (R:aD) (h:bH [] w λl k=>
 aH (((b.n:Nat):Int)==1) ((0:Int)<=0/\0<((b.n:Nat):Int)/\aX b.a λj=>cA k (j.add (Int.toNat 0 *4)) λd e f g=>loc [l] k λm=>R (.returned (.agg #[.i d,.int .u8 e,.int .u8 f,g.v])) m) (loc [l] k λo=>R (.returned (.agg #[.i c,.int .u8 0,.int .u8 0,b.v])) o)):Calls Tryz.prog iY #[.i c,b.v] w R:=aP X [] h
end regex_one
namespace regex_frame_endItem
noncomputable abbrev X:Fx:=⟨Tryz.prog,Tryz.f162,[(4,(.sq [0,1,2,3,4,5,6,7,8,10,11] (.fork (ls [9,12]) (ls [12,9]))))],[2]⟩
abbrev P0:Ps:=[(0,.v [.r]),(2,.l [.I,.Y,.Y,.s] aB)]
def dY (e:Addr) (f:Nat) (a b c:Int) (d:Sl) (w:World) (R:aD):Prop:=cG P0 0 (X.Sem (bG [0,2,1])) e f a b c d w R
noncomputable def eK:=fZ X (bG [0,2,1]) P0 dY
theorem aY:∀(f:Addr) (d:Nat) (g j k:Int) (l:Sl) (w:World) (R:aD) (h:∃ab:Int,w.cell? (f.add 5)=some (.i ab)/\
 aH (decide (ab>0)) (eV w (.cells #[.i g,.int .u8 j,.int .u8 k,l.v] aB) λw6=>
 loc [d] w6 λo=>∃ac:Int,o.cell? (f.add 5)=some (.i ac)/\
 bR o (f.add 5) (.i (IntKind.wrap .i64 (ac - 1))) λad=>kept [d] o ad/\
 dY f d 6 0 0 ⟨some (nb w),1,1⟩ ad R) (loc [d] w λp=>∃c:Sl,p.cell? (f.add 4)=some (c.v)/\
 eV p (.cells #[.i 0,.int .u8 0,.int .u8 0,.slice none 0 0] aB) λq=>
 q.cell? (f.add 4)=some (c.v)/\∃(m:Sl) (e:World),Sem.run Tryz.prog (Builtin.append_ #[aF,aF] aF #[c.v,.slice (some (nb p)) 1 1]) q=.ok (m.v) e/\kept [d] q e/\(0:Int)<=((c.n:Nat):Int)/\((c.n:Nat):Int)<((m.n:Nat):Int)/\aX m.a λb=>((bR e (b.add (Int.toNat ((c.n:Nat):Int) *4)) (.i g) λr=>kept [d] e r/\
 bR r ((b.add (Int.toNat ((c.n:Nat):Int) *4)).add 1) (.int .u8 j) λs=>kept [d] r s/\
 bR s ((b.add (Int.toNat ((c.n:Nat):Int) *4)).add 2) (.int .u8 k) λt=>kept [d] s t/\
 bR t ((b.add (Int.toNat ((c.n:Nat):Int) *4)).add 3) (l.v) λu=>kept [d] t u/\
 bR u (f.add 4) (m.v) λae=>kept [d] u ae/\
 R (.returned (.tuple #[])) ae)/\(bR e (f.add 4) (m.v) λx=>kept [d] e x/\
 bR x (b.add (Int.toNat ((c.n:Nat):Int) *4)) (.i g) λy=>kept [d] x y/\
 bR y ((b.add (Int.toNat ((c.n:Nat):Int) *4)).add 1) (.int .u8 j) λz=>kept [d] y z/\
 bR z ((b.add (Int.toNat ((c.n:Nat):Int) *4)).add 2) (.int .u8 k) λaa=>kept [d] z aa/\
 bR aa ((b.add (Int.toNat ((c.n:Nat):Int) *4)).add 3) (l.v) λaf=>kept [d] aa af/\
 R (.returned (.tuple #[])) af)))),dY f d g j k l w R:=mp (dA (X:=X) [eK] (bG [0,2,1]) P0)
theorem cT (a:Addr) (w:World) (R:aD) (h:cA w (a.add 6) λb c d e=>bH [] w λf g=>
 loc [f] g λi=>dY a f b c d e i R):Calls Tryz.prog iG #[.pointer (some a)] w R:=aP X [eK] h
end regex_frame_endItem
namespace regex_frame_endSeq
noncomputable abbrev X:Fx:=⟨Tryz.prog,Tryz.f160,[(1,(.sq [0,1,2,3,4,5,6,7,9] (.fork (.sq [8,10,11,12,14,15] (.fork (ls [13,16]) (ls [16,13]))) (.sq [10,8,11,12,14,15] (.fork (ls [13,16]) (ls [16,13]))))))],[]⟩
abbrev P0:Ps:=[(0,.v [.r])]
abbrev S0 (a:Addr) (w:World) (R:aD):Prop:=
 bR w (a.add 4) (.slice none 0 0) λb=>
 R (.returned (.tuple #[])) b
noncomputable def eT:=bK X [] (bG [2]) P0 S0
theorem ok (d:Addr) (w:World) (R:aD) (h:xN iG #[.pointer (some d)] w λw1=>tZ w1 λx=>∃c:Sl,x.cell? (d.add 3)=some (c.v)/\
 ∃o:Sl,x.cell? (d.add 4)=some (o.v)/\
 ((NN iY #[.i 3,o.v] x λp q r s z=>z.cell? (d.add 3)=some (c.v)/\eV z (.cells #[.i 0,.int .u8 0,.int .u8 0,.slice none 0 0] aB) λw4=>
 w4.cell? (d.add 3)=some (c.v)/\∃(m:Sl) (w5:World),Sem.run Tryz.prog (Builtin.append_ #[aF,aF] aF #[c.v,.slice (some (nb z)) 1 1]) w4=.ok (m.v) w5/\(0:Int)<=((c.n:Nat):Int)/\((c.n:Nat):Int)<((m.n:Nat):Int)/\aX m.a λf=>((qA w5 (f.add (Int.toNat ((c.n:Nat):Int) *4)) (.i p) (.int .u8 q) (.int .u8 r) (s.v) λw9=>bR w9 (d.add 3) (m.v) λab=>
 S0 d ab R)/\(bR w5 (d.add 3) (m.v) λac=>
 bR ac (f.add (Int.toNat ((c.n:Nat):Int) *4)) (.i p) λad=>
 bR ad ((f.add (Int.toNat ((c.n:Nat):Int) *4)).add 1) (.int .u8 q) λae=>
 bR ae ((f.add (Int.toNat ((c.n:Nat):Int) *4)).add 2) (.int .u8 r) λaf=>
 bR af ((f.add (Int.toNat ((c.n:Nat):Int) *4)).add 3) (s.v) λag=>
 S0 d ag R)))/\(eV x (.cells #[.i 0,.int .u8 0,.int .u8 0,.slice none 0 0] aB) λt=>
 t.cell? (d.add 4)=some (o.v)/\t.cell? (d.add 3)=some (c.v)/\NN iY #[.i 3,o.v] t λg j k l y=>y.cell? (d.add 3)=some (c.v)/\∃(e:Sl) (u:World),Sem.run Tryz.prog (Builtin.append_ #[aF,aF] aF #[c.v,.slice (some (nb x)) 1 1]) y=.ok (e.v) u/\(0:Int)<=((c.n:Nat):Int)/\((c.n:Nat):Int)<((e.n:Nat):Int)/\aX e.a λb=>((qA u (b.add (Int.toNat ((c.n:Nat):Int) *4)) (.i g) (.int .u8 j) (.int .u8 k) (l.v) λah=>bR ah (d.add 3) (e.v) λai=>
 S0 d ai R)/\(bR u (d.add 3) (e.v) λaj=>
 bR aj (b.add (Int.toNat ((c.n:Nat):Int) *4)) (.i g) λak=>
 bR ak ((b.add (Int.toNat ((c.n:Nat):Int) *4)).add 1) (.int .u8 j) λal=>
 bR al ((b.add (Int.toNat ((c.n:Nat):Int) *4)).add 2) (.int .u8 k) λam=>
 bR am ((b.add (Int.toNat ((c.n:Nat):Int) *4)).add 3) (l.v) λan=>
 S0 d an R))))):Calls Tryz.prog iX #[.pointer (some d)] w R:=aP X [eT] h
end regex_frame_endSeq
namespace regex_frame_endConj
noncomputable abbrev X:Fx:=⟨Tryz.prog,Tryz.f161,[(1,(.sq [0,1,2,3,4,5,6,7,9] (.fork (.sq [8,10,11,12,14,15] (.fork (ls [13,16]) (ls [16,13]))) (.sq [10,8,11,12,14,15] (.fork (ls [13,16]) (ls [16,13]))))))],[]⟩
abbrev P0:Ps:=[(0,.v [.r])]
abbrev S0 (a:Addr) (w:World) (R:aD):Prop:=
 bR w (a.add 3) (.slice none 0 0) λb=>
 R (.returned (.tuple #[])) b
noncomputable def eT:=bK X [] (bG [2]) P0 S0
theorem ok (d:Addr) (w:World) (R:aD) (h:xN iX #[.pointer (some d)] w λw1=>tZ w1 λx=>∃c:Sl,x.cell? (d.add 2)=some (c.v)/\
 ∃o:Sl,x.cell? (d.add 3)=some (o.v)/\
 ((NN iY #[.i 5,o.v] x λp q r s z=>z.cell? (d.add 2)=some (c.v)/\eV z (.cells #[.i 0,.int .u8 0,.int .u8 0,.slice none 0 0] aB) λw4=>
 w4.cell? (d.add 2)=some (c.v)/\∃(m:Sl) (w5:World),Sem.run Tryz.prog (Builtin.append_ #[aF,aF] aF #[c.v,.slice (some (nb z)) 1 1]) w4=.ok (m.v) w5/\(0:Int)<=((c.n:Nat):Int)/\((c.n:Nat):Int)<((m.n:Nat):Int)/\aX m.a λf=>((qA w5 (f.add (Int.toNat ((c.n:Nat):Int) *4)) (.i p) (.int .u8 q) (.int .u8 r) (s.v) λw9=>bR w9 (d.add 2) (m.v) λab=>
 S0 d ab R)/\(bR w5 (d.add 2) (m.v) λac=>
 bR ac (f.add (Int.toNat ((c.n:Nat):Int) *4)) (.i p) λad=>
 bR ad ((f.add (Int.toNat ((c.n:Nat):Int) *4)).add 1) (.int .u8 q) λae=>
 bR ae ((f.add (Int.toNat ((c.n:Nat):Int) *4)).add 2) (.int .u8 r) λaf=>
 bR af ((f.add (Int.toNat ((c.n:Nat):Int) *4)).add 3) (s.v) λag=>
 S0 d ag R)))/\(eV x (.cells #[.i 0,.int .u8 0,.int .u8 0,.slice none 0 0] aB) λt=>
 t.cell? (d.add 3)=some (o.v)/\t.cell? (d.add 2)=some (c.v)/\NN iY #[.i 5,o.v] t λg j k l y=>y.cell? (d.add 2)=some (c.v)/\∃(e:Sl) (u:World),Sem.run Tryz.prog (Builtin.append_ #[aF,aF] aF #[c.v,.slice (some (nb x)) 1 1]) y=.ok (e.v) u/\(0:Int)<=((c.n:Nat):Int)/\((c.n:Nat):Int)<((e.n:Nat):Int)/\aX e.a λb=>((qA u (b.add (Int.toNat ((c.n:Nat):Int) *4)) (.i g) (.int .u8 j) (.int .u8 k) (l.v) λah=>bR ah (d.add 2) (e.v) λai=>
 S0 d ai R)/\(bR u (d.add 2) (e.v) λaj=>
 bR aj (b.add (Int.toNat ((c.n:Nat):Int) *4)) (.i g) λak=>
 bR ak ((b.add (Int.toNat ((c.n:Nat):Int) *4)).add 1) (.int .u8 j) λal=>
 bR al ((b.add (Int.toNat ((c.n:Nat):Int) *4)).add 2) (.int .u8 k) λam=>
 bR am ((b.add (Int.toNat ((c.n:Nat):Int) *4)).add 3) (l.v) λan=>
 S0 d an R))))):Calls Tryz.prog iF #[.pointer (some d)] w R:=aP X [eT] h
end regex_frame_endConj
namespace regex_frame_endExpr
noncomputable abbrev X:Fx:=⟨Tryz.prog,Tryz.f145,[],[2,3]⟩
theorem cT (b:Addr) (w:World) (R:aD) (h:bH [] w λa o=>
 NO [a] iF #[.pointer (some b)] o λl=>∃j:Sl,l.cell? (b.add 2)=some (j.v)/\
 uB [a] iY #[.i 4,j.v] l λc d e f p=>bH [a] p λg q=>
 loc [a,g] q λm=>bR m (b.add 2) (.slice none 0 0) λn=>kept [a,g] m n/\
 loc [a,g] n λk=>R (.returned (.agg #[.i c,.int .u8 d,.int .u8 e,f.v])) k):Calls Tryz.prog e8 #[.pointer (some b)] w R:=aP X [] h
end regex_frame_endExpr
namespace regex_reader_top
noncomputable abbrev X:Fx:=⟨Tryz.prog,Tryz.f144,[(1,ls [0,1,2,3,4,5,6,7,8,9,10,11])],[]⟩
theorem ok (d:Addr) (w:World) (R:aD) (h:tZ w λf=>∃e:Sl,f.cell? (d.add 0)=some (e.v)/\
 ∃b:Sl,f.cell? (d.add 0)=some (b.v)/\
 (0:Int)<=(IntKind.wrap .i64 (((b.n:Nat):Int) - 1))/\(IntKind.wrap .i64 (((b.n:Nat):Int) - 1))<((e.n:Nat):Int)/\aX e.a λc=>R (.returned (.pointer (some (c.add (Int.toNat (IntKind.wrap .i64 (((b.n:Nat):Int) - 1)) *10))))) f):Calls Tryz.prog eR #[.pointer (some d)] w R:=aP X [] h
end regex_reader_top
namespace regex_reader_push
noncomputable abbrev X:Fx:=⟨Tryz.prog,Tryz.f157,[],[]⟩
theorem ok (c:Addr) (b a:Int) (w:World) (R:aD) (h:∃d:Sl,w.cell? (c.add 0)=some (d.v)/\
 eV w (.cells #[.i b,.slice none 0 0,.slice none 0 0,.slice none 0 0,.slice none 0 0,.i 0,.i 0,.int .u8 0,.int .u8 0,.slice none 0 0] b0) λg=>
 ∃(e:Sl) (f:World),Sem.run Tryz.prog (Builtin.append_ #[kS,kS] kS #[d.v,.slice (some (nb w)) 1 1]) g=.ok (e.v) f/\bR f (c.add 0) (e.v) λj=>
 bR j (c.add 1) (.i a) λk=>
 R (.returned (.bool true)) k):Calls Tryz.prog jm #[.pointer (some c),.i b,.i a] w R:=aP X [] h
end regex_reader_push
namespace regex_reader_atom
noncomputable abbrev X:Fx:=⟨Tryz.prog,Tryz.f186,[(1,ls [0,2,1,3,4,5])],[3]⟩
theorem cT (g:Addr) (c d e:Int) (f:Sl) (w:World) (R:aD) (h:bH [] w λb q=>
 loc [b] q λr=>Xp [b] eR #[.pointer (some g)] r λp n=>aX p λa=>bR n (a.add 6) (.i c) λj=>kept [b] n j/\
 bR j ((a.add 6).add 1) (.int .u8 d) λk=>kept [b] j k/\
 bR k ((a.add 6).add 2) (.int .u8 e) λl=>kept [b] k l/\
 bR l ((a.add 6).add 3) (f.v) λm=>kept [b] l m/\
 bR m (g.add 1) (.i 3) λo=>kept [b] m o/\
 R (.returned (.bool true)) o):Calls Tryz.prog eF #[.pointer (some g),.agg #[.i c,.int .u8 d,.int .u8 e,f.v]] w R:=aP X [] h
end regex_reader_atom
namespace regex_reader_close
noncomputable abbrev X:Fx:=⟨Tryz.prog,Tryz.f158,[(2,ls [0,1,2,3,4,5,6,7,8,9,10,11,12,13,14])],[]⟩
theorem ok (e:Addr) (b:Sl) (w:World) (R:aD) (h:ca9 eR #[.pointer (some e)] w λx u=>aX x λp=>∃g:Int,u.cell? (p.add 0)=some (.i g)/\
 tZ u λq=>∃d:Sl,q.cell? (e.add 0)=some (d.v)/\
 ∃f:Sl,q.cell? (e.add 0)=some (f.v)/\
 (0:Int)<=(IntKind.wrap .i64 (((f.n:Nat):Int) - 1))/\(IntKind.wrap .i64 (((f.n:Nat):Int) - 1))<=((d.c:Nat):Int)/\bR q (e.add 0) (.slice (if d.c=0 then d.a else d.a.map (·.add (0 *10))) ((Int.toNat (IntKind.wrap .i64 (((f.n:Nat):Int) - 1))) - 0) (d.c - 0)) λr=>
 aH (decide (g<0)) ((0:Int)<=0/\0<((b.n:Nat):Int)/\aX b.a λj=>cA r (j.add (Int.toNat 0 *4)) λk l m o=>zY eF #[.pointer (some e),.agg #[.i k,.int .u8 l,.int .u8 m,o.v]] r λs y=>R (.returned (.bool s)) y) (zY eF #[.pointer (some e),.agg #[.i g,.int .u8 0,.int .u8 0,b.v]] r λt z=>R (.returned (.bool t)) z)):Calls Tryz.prog gT #[.pointer (some e),b.v] w R:=aP X [] h
end regex_reader_close
namespace regex_reader_item
noncomputable abbrev X:Fx:=⟨Tryz.prog,Tryz.f159,[],[3]⟩
abbrev P0:Ps:=[]
abbrev dU (w:World) (R:aD):Prop:=
 R (.returned (.bool true)) w
noncomputable def eT:=bK X [] (bG [2,1,7,1,1,1,1]) P0 dU
theorem cT (c:Addr) (d g j:Int) (a:ByteArray) (r:Int) (w:World) (R:aD) (h:bH [] w λb f=>
 aH (d==33) (Xp [b] eR #[.pointer (some c)] f λm s=>aX m λk=>∃n:Int,s.cell? (k.add 5)=some (.i n)/\
 aX m λl=>bR s (l.add 5) (.i (IntKind.wrap .i64 (n+1))) λt=>kept [b] s t/\
 bR t (c.add 1) (.i 0) λz=>kept [b] t z/\
 R (.returned (.bool true)) z) (aH (d==40) (kn [b] jm #[.pointer (some c),.i (-1),.i 0] f λu w5=>R (.returned (.bool u)) w5) (aH (d==114) (kn [b] eF #[.pointer (some c),.agg #[.i 2,.int .u8 g,.int .u8 j,.slice none 0 0]] f λv w6=>R (.returned (.bool v)) w6) (aH (d==119) (bR f (c.add 1) (.i 2) λe=>kept [b] f e/\
 aH (a.toList==(ByteArray.mk #[110,111,110,101]).toList) (kn [b] eF #[.pointer (some c),.agg #[.i 0,.int .u8 0,.int .u8 0,.slice none 0 0]] e λx w8=>R (.returned (.bool x)) w8) (aH (a.toList==(ByteArray.mk #[101,109,112,116,121]).toList) (kn [b] eF #[.pointer (some c),.agg #[.i 1,.int .u8 0,.int .u8 0,.slice none 0 0]] e λy w9=>R (.returned (.bool y)) w9) (aH (a.toList==(ByteArray.mk #[97,108,116]).toList) (bR e (c.add 2) (.i 4) λo=>kept [b] e o/\
 dU o R) (aH (a.toList==(ByteArray.mk #[97,108,108]).toList) (bR e (c.add 2) (.i 5) λp=>kept [b] e p/\
 dU p R) (aH (a.toList==(ByteArray.mk #[99,97,116]).toList) (bR e (c.add 2) (.i 3) λq=>kept [b] e q/\
 dU q R) (R (.returned (.bool false)) e)))))) (R (.returned (.bool false)) f))))):Calls Tryz.prog gq #[.pointer (some c),.agg #[.int .u8 d,.int .u8 g,.int .u8 j,.string a,.i r]] w R:=aP X [eT] h
end regex_reader_item
namespace regex_reader_feed
noncomputable abbrev X:Fx:=⟨Tryz.prog,Tryz.f143,[(25,(.sq [0,1,2,3,4,6] (.fork (.sq [5,7,8,9,11,12] (.fork (ls [10,13]) (ls [13,10]))) (.sq [7,5,8,9,11,12] (.fork (ls [10,13]) (ls [13,10])))))),(28,ls [0,1,2,3,4,5,6,7,8,9,10,11,12,13,14,15,16,17,18])],[3]⟩
abbrev P0:Ps:=[]
abbrev dU (w:World) (R:aD):Prop:=
 R (.returned (.bool true)) w
noncomputable def eT:=bK X [] (bG [4]) P0 dU
abbrev P1:Ps:=[(0,.v [.r])]
abbrev fY (a:Addr) (w:World) (R:aD):Prop:=
 bR w (a.add 1) (.i 0) λb=>
 dU b R
noncomputable def gG:=bK X [eT] (bG [2,1,7,1,1,1,3]) P1 fY
theorem cT (j:Addr) (e aa ab:Int) (ac:ByteArray) (ad:Int) (w:World) (R:aD) (h:bH [] w λb w1=>
 Xp [b] eR #[.pointer (some j)] w1 λm g=>∃af:Int,g.cell? (j.add 1)=some (.i af)/\
 aH (af==2) (aH (e==40) (∃cb:Int,g.cell? (j.add 2)=some (.i cb)/\
 kn [b] jm #[.pointer (some j),.i cb,.i 1] g λcr w3=>R (.returned (.bool cr)) w3) (R (.returned (.bool false)) g)) (aH (af==1) (aH (e==41) (kn [b] gT #[.pointer (some j),.slice none 0 0] g λcs w4=>R (.returned (.bool cs)) w4) (kn [b] gq #[.pointer (some j),.agg #[.int .u8 e,.int .u8 aa,.int .u8 ab,.string ac,.i ad]] g λct w5=>R (.returned (.bool ct)) w5)) (aH (af==0) (kn [b] gq #[.pointer (some j),.agg #[.int .u8 e,.int .u8 aa,.int .u8 ab,.string ac,.i ad]] g λcu w6=>R (.returned (.bool cu)) w6) (aH (e==42) (aX m λbu=>cA g (bu.add 6) λbv bw bx bz=>eV g (.cells #[.i bv,.int .u8 bw,.int .u8 bx,bz.v] aB) λw7=>
 aX m λo=>bR w7 (o.add 6) (.i 7) λw8=>kept [b] w7 w8/\
 bR w8 ((o.add 6).add 1) (.int .u8 0) λw9=>kept [b] w8 w9/\
 bR w9 ((o.add 6).add 2) (.int .u8 0) λav=>kept [b] w9 av/\
 bR av ((o.add 6).add 3) (.slice (some (nb g)) 1 1) λce=>kept [b] av ce/\
 dU ce R) (aH (e==38) (NO [b] iX #[.pointer m] g λcf=>bR cf (j.add 1) (.i 0) λcg=>kept [b] cf cg/\
 dU cg R) (aH (e==124) (NO [b] iF #[.pointer m] g λch=>bR ch (j.add 1) (.i 0) λci=>kept [b] ch ci/\
 dU ci R) (aH (e==44) (aX m λca=>∃cc:Int,g.cell? (ca.add 0)=some (.i cc)/\
 aH (decide (cc<0)) (R (.returned (.bool false)) g) (aX m λl=>loc [b] g λal=>∃c:Sl,al.cell? (l.add 1)=some (c.v)/\
 ((uB [b] e8 #[.pointer m] al λag ah ai aj aw=>aw.cell? (l.add 1)=some (c.v)/\eV aw (.cells #[.i 0,.int .u8 0,.int .u8 0,.slice none 0 0] aB) λax=>
 ax.cell? (l.add 1)=some (c.v)/\∃(ae:Sl) (x:World),Sem.run Tryz.prog (Builtin.append_ #[aF,aF] aF #[c.v,.slice (some (nb aw)) 1 1]) ax=.ok (ae.v) x/\kept [b] ax x/\(0:Int)<=((c.n:Nat):Int)/\((c.n:Nat):Int)<((ae.n:Nat):Int)/\aX ae.a λf=>aX m λak=>((bR x (f.add (Int.toNat ((c.n:Nat):Int) *4)) (.i ag) λay=>kept [b] x ay/\
 bR ay ((f.add (Int.toNat ((c.n:Nat):Int) *4)).add 1) (.int .u8 ah) λaz=>kept [b] ay az/\
 bR az ((f.add (Int.toNat ((c.n:Nat):Int) *4)).add 2) (.int .u8 ai) λbb=>kept [b] az bb/\
 bR bb ((f.add (Int.toNat ((c.n:Nat):Int) *4)).add 3) (aj.v) λbc=>kept [b] bb bc/\
 bR bc (ak.add 1) (ae.v) λcj=>kept [b] bc cj/\
 fY j cj R)/\(bR x (ak.add 1) (ae.v) λbd=>kept [b] x bd/\
 bR bd (f.add (Int.toNat ((c.n:Nat):Int) *4)) (.i ag) λbe=>kept [b] bd be/\
 bR be ((f.add (Int.toNat ((c.n:Nat):Int) *4)).add 1) (.int .u8 ah) λbf=>kept [b] be bf/\
 bR bf ((f.add (Int.toNat ((c.n:Nat):Int) *4)).add 2) (.int .u8 ai) λbg=>kept [b] bf bg/\
 bR bg ((f.add (Int.toNat ((c.n:Nat):Int) *4)).add 3) (aj.v) λck=>kept [b] bg ck/\
 fY j ck R)))/\(eV al (.cells #[.i 0,.int .u8 0,.int .u8 0,.slice none 0 0] aB) λcl=>
 cl.cell? (l.add 1)=some (c.v)/\uB [b] e8 #[.pointer m] cl λq r s t bh=>bh.cell? (l.add 1)=some (c.v)/\∃(k:Sl) (y:World),Sem.run Tryz.prog (Builtin.append_ #[aF,aF] aF #[c.v,.slice (some (nb al)) 1 1]) bh=.ok (k.v) y/\kept [b] bh y/\(0:Int)<=((c.n:Nat):Int)/\((c.n:Nat):Int)<((k.n:Nat):Int)/\aX k.a λd=>aX m λu=>((bR y (d.add (Int.toNat ((c.n:Nat):Int) *4)) (.i q) λbi=>kept [b] y bi/\
 bR bi ((d.add (Int.toNat ((c.n:Nat):Int) *4)).add 1) (.int .u8 r) λbj=>kept [b] bi bj/\
 bR bj ((d.add (Int.toNat ((c.n:Nat):Int) *4)).add 2) (.int .u8 s) λbk=>kept [b] bj bk/\
 bR bk ((d.add (Int.toNat ((c.n:Nat):Int) *4)).add 3) (t.v) λbm=>kept [b] bk bm/\
 bR bm (u.add 1) (k.v) λcm=>kept [b] bm cm/\
 fY j cm R)/\(bR y (u.add 1) (k.v) λbn=>kept [b] y bn/\
 bR bn (d.add (Int.toNat ((c.n:Nat):Int) *4)) (.i q) λbo=>kept [b] bn bo/\
 bR bo ((d.add (Int.toNat ((c.n:Nat):Int) *4)).add 1) (.int .u8 r) λbp=>kept [b] bo bp/\
 bR bp ((d.add (Int.toNat ((c.n:Nat):Int) *4)).add 2) (.int .u8 s) λbq=>kept [b] bp bq/\
 bR bq ((d.add (Int.toNat ((c.n:Nat):Int) *4)).add 3) (t.v) λcn=>kept [b] bq cn/\
 fY j cn R)))))) (aH (e==41) (loc [b] g λam=>∃cd:Sl,am.cell? (j.add 0)=some (cd.v)/\
 aH (decide (((cd.n:Nat):Int)>1)) (aX m λp=>∃z:Sl,am.cell? (p.add 1)=some (z.v)/\
 uB [b] e8 #[.pointer m] am λan ao ap aq br=>br.cell? (p.add 1)=some (z.v)/\eV br (.cells #[.i an,.int .u8 ao,.int .u8 ap,aq.v] aB) λbs=>
 bs.cell? (p.add 1)=some (z.v)/\∃(ar:Sl) (bt:World),Sem.run Tryz.prog (Builtin.append_ #[aF,aF] aF #[z.v,.slice (some (nb br)) 1 1]) bs=.ok (ar.v) bt/\kept [b] bs bt/\kn [b] gT #[.pointer (some j),ar.v] bt λco cw=>R (.returned (.bool co)) cw) (R (.returned (.bool false)) am)) (aH (e==36) (∃au:Sl,g.cell? (j.add 0)=some (au.v)/\
 R (.returned (.bool (((au.n:Nat):Int)==1))) g) (NO [b] iG #[.pointer m] g λcx=>kn [b] gq #[.pointer (some j),.agg #[.int .u8 e,.int .u8 aa,.int .u8 ab,.string ac,.i ad]] cx λcv cy=>R (.returned (.bool cv)) cy)))))))))):Calls Tryz.prog lW #[.pointer (some j),.agg #[.int .u8 e,.int .u8 aa,.int .u8 ab,.string ac,.i ad]] w R:=aP X [gG,eT] h
end regex_reader_feed
namespace regex_Parse
noncomputable def C0:Code:=(Tryz.f130.body).getD .skip
noncomputable def C1:=C0.sn
noncomputable def C2:=C1.sn
noncomputable def C3:=C2.sn
noncomputable def C4:=C3.fs
noncomputable def C5:=C4.sn
noncomputable def C6:=C5.fs
noncomputable def C7:=W.Code.asn C6
noncomputable def C8:=W.Code.bdy C6
noncomputable def C9:=C8.fs
noncomputable def Qs:=C9.sn
noncomputable def N0:=Qs.fs
abbrev Q0 (a:Nat) (b:Loop) (R:aD):Exit->Act->World->Prop:=(roundPost Tryz.prog a R)
abbrev Q1 (b:Nat) (a:Loop) (R:aD):Exit->Act->World->Prop:=(Exit.inBlock 1 (Q0 b a R))
noncomputable def UB:=N0.fs
noncomputable def UC:=N0.sn
abbrev S3 (f:Nat) (b:LoopState->Option Code->Obj) (g j k c:Addr) (w:World) (R:aD):Prop:=
 tZ w λd=>∃a:Int,d.cell? (c.add 4)=some (.i a)/\
 qA d g (.i 0) (.int .u8 0) (.int .u8 0) (.slice none 0 0) λe=>e.cell? (c.add 4)=some (.i a)/\bR e j (.i a) λl=>
 bR l k (.i 2) λm=>
 KA m f (b .busy none) (b .done (some .ret)) λn=>R (.returned (.bool false)) n
def Qz (a:Nat) (b:LoopState->Option Code->Obj) (E:Env) (w:World) (R:aD):Prop:=W.gC (Env.get? E 2) λc=>W.gC (Env.get? E 3) λd=>W.gC (Env.get? E 4) λe=>W.gC (Env.get? E 6) λf=>S3 a b c d e f w R
theorem KK (d:Nat) (b:Loop) (R:aD) (E:Env) (w:World) (h:Qz d (lo b) E w R):WP Tryz.prog ⟨32,[],some d⟩ N0 (Q1 d b R) E w:=by
 obtain ⟨t2,Gl,DI⟩:=W.bP h
 obtain ⟨t3,DX,DJ⟩:=W.bP DI
 obtain ⟨t4,Gm,DK⟩:=W.bP DJ
 obtain ⟨t6,ZF,Gc⟩:=W.bP DK
 exact λa e=>WP.at (n:=⟨32,[],some d⟩) (E:=[(2,.pointer (some t2)),(3,.pointer (some t3)),(4,.pointer (some t4)),(6,.pointer (some t6))]) (WP.seq (c:=N0) (x:=UB) (y:=UC) (by kernel_rfl)<|WP.draw (c:=UB) [0,1,2,3,4,5] (λE w=>KA w d ((lo b) .busy none) ((lo b) .done (some .ret)) λi=>R (.returned (.bool false)) i) (by kernel_rfl) (mp Gc) λ_ _ a f g=>(WP.ret (c:=UC) (Q:=(Q1 d b R)) (by kernel_rfl) λa f=>(show roundPost Tryz.prog d R .ret a _ from J3 (a:=a) (g).1 (g).2)) a f) (e.cons Gl (e.cons DX (e.cons Gm (e.cons ZF e.nil))))
noncomputable def UD:=C9.fs
noncomputable def U2:=Qs.sn
abbrev S2 (g:Nat) (f:LoopState->Option Code->Obj) (n o p m k:Addr) (w:World) (R:aD):Prop:=
 Rq w k λa b c d e=>zY lW #[.pointer (some m),.agg #[.int .u8 a,.int .u8 b,.int .u8 c,.string d,.i e]] w λj l=>aH (!j) (S3 g f n o p k l R) (KA l g (f .busy none) (f .ready none) λq=>R (.returned (.bool true)) q)
def Qy (a:Nat) (b:LoopState->Option Code->Obj) (E:Env) (w:World) (R:aD):Prop:=W.gC (Env.get? E 2) λd=>W.gC (Env.get? E 3) λe=>W.gC (Env.get? E 4) λf=>W.gC (Env.get? E 5) λc=>W.gC (Env.get? E 6) λg=>S2 a b d e f c g w R
theorem KJ (d:Nat) (b:Loop) (R:aD) (E:Env) (w:World) (h:Qy d (lo b) E w R):WP Tryz.prog ⟨32,[],some d⟩ C9 (Q1 d b R) E w:=by
 obtain ⟨t2,Gl,DI⟩:=W.bP h
 obtain ⟨t3,DX,DJ⟩:=W.bP DI
 obtain ⟨t4,Gm,DK⟩:=W.bP DJ
 obtain ⟨r5,TH,Gc⟩:=W.bP DK
 obtain ⟨t6,ZF,OP⟩:=W.bP Gc
 exact λa f=>WP.at (n:=⟨32,[],some d⟩) (E:=[(2,.pointer (some t2)),(3,.pointer (some t3)),(4,.pointer (some t4)),(5,.pointer (some r5)),(6,.pointer (some t6))]) (WP.seq (c:=C9) (x:=UD) (y:=Qs) (by kernel_rfl)<|WP.RC (c:=UD) (λE w=>pG (Env.val E (.tmp 20)) (Qz d (lo b) E w R) (KA w d ((lo b) .busy none) ((lo b) .ready none) λi=>R (.returned (.bool true)) i)) (by kernel_rfl) (mp OP) λ_ _ a g e=>(WP.pG (c:=Qs) (x:=N0) (y:=U2) (o:=.tmp 20) (by kernel_rfl) (λe=>(KK d b R _ _ e)) (λe=>(WP.skip (c:=U2) (by kernel_rfl) λa g=>J2 (a:=a) (e).1 (e).2)) e) a g) (f.cons Gl (f.cons DX (f.cons Gm (f.cons TH (f.cons ZF f.nil)))))
abbrev Q2 (b:Nat) (a:Loop) (R:aD):Exit->Act->World->Prop:=(BG Tryz.prog 32 b a C8 (roundPost Tryz.prog b R))
abbrev S1 (g:Nat) (f:LoopState->Option Code->Obj) (k l m j:Addr) (a b c:Int) (d:ByteArray) (e:Int) (w:World) (R:aD):Prop:=
 eV w (.cells #[.int .u8 0,.int .u8 0,.int .u8 0,.s0,.i 0] fI) λn=>
 WV n (nb w) (.int .u8 a) (.int .u8 b) (.int .u8 c) (.string d) (.i e) λo=>KA o g (f .ready none) (f .busy none) λp=>S2 g f k l m j (nb w) p R
def U7 (r:Nat) (s:LoopState->Option Code->Obj) (E:Env) (w:World) (R:aD):Prop:=W.gC (Env.get? E 2) λu=>W.gC (Env.get? E 3) λv=>W.gC (Env.get? E 4) λx=>W.gC (Env.get? E 5) λt=>W.asAgg (Env.get? E 17) λa=>W.sh a λg b=>W.asInt .u8 (some g) λm=>W.sh b λi c=>W.asInt .u8 (some i) λn=>W.sh c λj d=>W.asInt .u8 (some j) λo=>W.sh d λk e=>W.yo (some k) λp=>W.sh e λl f=>W.asInt .i64 (some l) λq=>W.AJ f<|S1 r s u v x t m n o p q w R
theorem KI (d:Nat) (b:Loop) (R:aD) (E:Env) (w:World) (h:U7 d (lo b) E w R):WP Tryz.prog ⟨32,[],some d⟩ C7 (Q2 d b R) E w:=by
 obtain ⟨t2,Gl,DI⟩:=W.bP h
 obtain ⟨t3,DX,DJ⟩:=W.bP DI
 obtain ⟨t4,Gm,DK⟩:=W.bP DJ
 obtain ⟨r5,TH,Gc⟩:=W.bP DK
 obtain ⟨aae,ZE,OP⟩:=W.FB Gc
 obtain ⟨aak,aaf,rfl,Y1⟩:=W.mR OP
 obtain ⟨IL,ex,Y2⟩:=W.pB Y1
 obtain rfl:=Option.some.inj ex
 obtain ⟨aal,aag,rfl,Y3⟩:=W.mR Y2
 obtain ⟨IM,ex,Y4⟩:=W.pB Y3
 obtain rfl:=Option.some.inj ex
 obtain ⟨aam,aah,rfl,Ts⟩:=W.mR Y4
 obtain ⟨IN,ex,YV⟩:=W.pB Ts
 obtain rfl:=Option.some.inj ex
 obtain ⟨aan,aai,rfl,YW⟩:=W.mR YV
 obtain ⟨IP,ex,YX⟩:=W.pC YW
 obtain rfl:=Option.some.inj ex
 obtain ⟨aao,aaj,rfl,YY⟩:=W.mR YX
 obtain ⟨WZ,ex,YZ⟩:=W.pB YY
 obtain rfl:=Option.some.inj ex
 obtain ⟨rfl,Y0⟩:=W.tT YZ
 exact λa e=>WP.at (n:=⟨32,[],some d⟩) (E:=[(2,.pointer (some t2)),(3,.pointer (some t3)),(4,.pointer (some t4)),(5,.pointer (some r5)),(17,.agg #[.int .u8 IL,.int .u8 IM,.int .u8 IN,.string IP,.i WZ])]) (WP.RC (c:=C7) (λE w=>w.heap[d]? =some (lo b .ready none)/\((λw=>Qy d (lo b) E w R) (w.putObj d (lo b .busy none)))) (by kernel_rfl) (mp Y0) λ_ _ a g f=>⟨(f).1,(WP.block (c:=C8) (x:=C9) (id:=1) (by kernel_rfl) (KJ d b R _ _ (f).2)) a g⟩) (e.cons Gl (e.cons DX (e.cons Gm (e.cons TH (e.cons ZE e.nil)))))
abbrev Sk (g:Nat) (i:LoopState->Option Code->Obj) (n:ByteArray) (k l m j f:Addr) (a b c:Int) (d:ByteArray) (e:Int) (w:World) (R:aD):Prop:=
 S1 g i k l m j a b c d e w R
theorem Yo (j:Nat) (b:Loop) (l:ByteArray) (m n o k a:Addr) (c d e:Int) (f:ByteArray) (g:Int) (w:World) (R:aD) (h:Sk j (lo b) l m n o k a c d e f g w R):WP Tryz.prog ⟨32,[],some j⟩ C7 (BG Tryz.prog 32 j b C8 (roundPost Tryz.prog j R)) (Ey [(0,.string l),(2,.pointer (some m)),(3,.pointer (some n)),(4,.pointer (some o)),(5,.pointer (some k)),(16,.func (.func fP) #[] #[.pointer (some a)])] [17] [.agg #[.int .u8 c,.int .u8 d,.int .u8 e,.string f,.i g]]) w:=
 (KI j b R _ _ (mp h))
noncomputable def N1:=C3.sn
noncomputable def UE:=N1.sn
noncomputable def Sm:=UE.fs
noncomputable def UF:=Sm.sn
noncomputable def N2:=UF.fs
noncomputable def Qt:=UE.sn
abbrev Q3 (R:aD):Qv:=(Exit.then (Ad Tryz.prog (cx 32) Qt (bodyPostM Fence.wide 0 Tryz.prog Tryz.f130 R)) (bodyPostM Fence.wide 0 Tryz.prog Tryz.f130 R))
noncomputable def Xh:=N2.fs
noncomputable def Xi:=N2.sn
abbrev S6 (m:Nat) (n:ByteArray) (j k l:Addr) (w:World) (R:aD):Prop:=
 qA w j (.i 0) (.int .u8 0) (.int .u8 0) (.slice none 0 0) λo=>bR o k (.i ((n.size:Nat):Int)) λp=>
 bR p l (.i 4) λq=>
 KA q m (.deferred (some [])) (.deferred none) λa=>cA a j λb c d e=>∃f:Int,a.cell? k=some (.i f)/\
 ∃g:Int,a.cell? l=some (.i g)/\
 R (.returned (.tuple #[.agg #[.i b,.int .u8 c,.int .u8 d,e.v],.i f,.i g])) a
def QB (a:Nat) (E:Env) (w:World) (R:aD):Prop:=W.yo (Env.get? E 0) λb=>W.gC (Env.get? E 2) λc=>W.gC (Env.get? E 3) λd=>W.gC (Env.get? E 4) λe=>S6 a b c d e w R
theorem KN (d:Nat) (R:aD) (E:Env) (w:World) (h:QB d E w R):WP Tryz.prog (marked 32 d) N2 (Q3 R) E w:=by
 obtain ⟨s0,JG,DI⟩:=W.pC h
 obtain ⟨t2,Gl,DJ⟩:=W.bP DI
 obtain ⟨t3,DX,DK⟩:=W.bP DJ
 obtain ⟨t4,Gm,Gc⟩:=W.bP DK
 exact λa b=>WP.at (n:=(marked 32 d)) (E:=[(0,.string s0),(2,.pointer (some t2)),(3,.pointer (some t3)),(4,.pointer (some t4))]) (WP.seq (c:=N2) (x:=Xh) (y:=Xi) (by kernel_rfl)<|WP.RC (c:=Xh) (λE w=>GM Tryz.prog Tryz.f130 E w d R) (by kernel_rfl) (mp Gc) λ_ _ a e f=>(WP.ret (c:=Xi) (by kernel_rfl) λa e=>ru e f) a e) (b.cons JG (b.cons Gl (b.cons DX (b.cons Gm b.nil))))
abbrev Q4 (R:aD):Qv:=(bodyPostM Fence.wide 0 Tryz.prog Tryz.f130 R)
noncomputable def C24:=Qt.fs
noncomputable def C25:=Qt.sn
abbrev S7 (q:Nat) (n o p u:Addr) (w:World) (R:aD):Prop:=
 cA w u λa b c d=>qA w n (.i a) (.int .u8 b) (.int .u8 c) (d.v) λr=>bR r o (.i 0) λs=>
 bR s p (.i 0) λt=>
 KA t q (.deferred (some [])) (.deferred none) λe=>cA e n λf g j k=>∃l:Int,e.cell? o=some (.i l)/\
 ∃m:Int,e.cell? p=some (.i m)/\
 R (.returned (.tuple #[.agg #[.i f,.int .u8 g,.int .u8 j,k.v],.i l,.i m])) e
def QC (a:Nat) (E:Env) (w:World) (R:aD):Prop:=W.gC (Env.get? E 2) λb=>W.gC (Env.get? E 3) λc=>W.gC (Env.get? E 4) λd=>W.gC (Env.get? E 7) λe=>S7 a b c d e w R
theorem KO (d:Nat) (R:aD) (E:Env) (w:World) (h:QC d E w R):WP Tryz.prog (marked 32 d) Qt (Q4 R) E w:=by
 obtain ⟨t2,Gl,DI⟩:=W.bP h
 obtain ⟨t3,DX,DJ⟩:=W.bP DI
 obtain ⟨t4,Gm,DK⟩:=W.bP DJ
 obtain ⟨x7,ZG,Gc⟩:=W.bP DK
 exact λa b=>WP.at (n:=(marked 32 d)) (E:=[(2,.pointer (some t2)),(3,.pointer (some t3)),(4,.pointer (some t4)),(7,.pointer (some x7))]) (WP.seq (c:=Qt) (x:=C24) (y:=C25) (by kernel_rfl)<|WP.RC (c:=C24) (λE w=>GM Tryz.prog Tryz.f130 E w d R) (by kernel_rfl) (mp Gc) λ_ _ a e f=>(WP.ret (c:=C25) (by kernel_rfl) λa e=>ru e f) a e) (b.cons Gl (b.cons DX (b.cons Gm (b.cons ZG b.nil))))
noncomputable def C26:=Sm.fs
noncomputable def C27:=UF.sn
abbrev S5 (e:Nat) (n:ByteArray) (f j k m:Addr) (w:World) (R:aD):Prop:=
 cA w m λa b c d=>zY jE #[.agg #[.i a,.int .u8 b,.int .u8 c,d.v]] w λg l=>aH g (S6 e n f j k l R) (S7 e f j k m l R)
def QA (a:Nat) (E:Env) (w:World) (R:aD):Prop:=W.yo (Env.get? E 0) λb=>W.gC (Env.get? E 2) λc=>W.gC (Env.get? E 3) λd=>W.gC (Env.get? E 4) λe=>W.gC (Env.get? E 7) λf=>S5 a b c d e f w R
theorem KM (b:Nat) (R:aD) (E:Env) (w:World) (h:QA b E w R):WP Tryz.prog (marked 32 b) Sm (Q3 R) E w:=by
 obtain ⟨s0,JG,DI⟩:=W.pC h
 obtain ⟨t2,Gl,DJ⟩:=W.bP DI
 obtain ⟨t3,DX,DK⟩:=W.bP DJ
 obtain ⟨t4,Gm,Gc⟩:=W.bP DK
 obtain ⟨x7,ZG,OP⟩:=W.bP Gc
 exact λa d=>WP.at (n:=(marked 32 b)) (E:=[(0,.string s0),(2,.pointer (some t2)),(3,.pointer (some t3)),(4,.pointer (some t4)),(7,.pointer (some x7))]) (WP.seq (c:=Sm) (x:=C26) (y:=UF) (by kernel_rfl)<|WP.RC (c:=C26) (λE w=>pG (Env.val E (.tmp 27)) (QB b E w R) (QC b E w R)) (by kernel_rfl) (mp OP) λ_ _ a f e=>(WP.pG (c:=UF) (x:=N2) (y:=C27) (o:=.tmp 27) (by kernel_rfl) (λe=>(KN b R _ _ e)) (λe=>(WP.skip (c:=C27) (by kernel_rfl) λa f=>(KO b R _ _ e) a f)) e) a f) (d.cons JG (d.cons Gl (d.cons DX (d.cons Gm (d.cons ZG d.nil)))))
noncomputable def C28:=N1.fs
abbrev S4 (g:Nat) (k:ByteArray) (l m n j:Addr) (w:World) (R:aD):Prop:=
 ca9 eR #[.pointer (some j)] w λf o=>NN e8 #[.pointer f] o λa b c d e=>eV e (.cells #[.i 0,.int .u8 0,.int .u8 0,.slice none 0 0] aB) λp=>
 qA p (nb e) (.i a) (.int .u8 b) (.int .u8 c) (d.v) λq=>S5 g k l m n (nb e) q R
def U8 (a:Nat) (E:Env) (w:World) (R:aD):Prop:=W.yo (Env.get? E 0) λc=>W.gC (Env.get? E 2) λd=>W.gC (Env.get? E 3) λe=>W.gC (Env.get? E 4) λf=>W.gC (Env.get? E 5) λb=>S4 a c d e f b w R
theorem KL (d:Nat) (R:aD) (E:Env) (w:World) (h:U8 d E w R):WP Tryz.prog (marked 32 d) N1 (Q4 R) E w:=by
 obtain ⟨s0,JG,DI⟩:=W.pC h
 obtain ⟨t2,Gl,DJ⟩:=W.bP DI
 obtain ⟨t3,DX,DK⟩:=W.bP DJ
 obtain ⟨t4,Gm,Gc⟩:=W.bP DK
 obtain ⟨r5,TH,OP⟩:=W.bP Gc
 exact λa b=>WP.at (n:=(marked 32 d)) (E:=[(0,.string s0),(2,.pointer (some t2)),(3,.pointer (some t3)),(4,.pointer (some t4)),(5,.pointer (some r5))]) (WP.seq (c:=N1) (x:=C28) (y:=UE) (by kernel_rfl)<|WP.RC (c:=C28) (λE w=>QA d E w R) (by kernel_rfl) (mp OP) λ_ _ a e f=>(WP.seq (c:=UE) (x:=Sm) (y:=Qt) (by kernel_rfl) (KM d R _ _ f)) a e) (b.cons JG (b.cons Gl (b.cons DX (b.cons Gm (b.cons TH b.nil)))))
abbrev S0 (s0:ByteArray) (q r s r5 a:Addr) (w:World) (R:aD):Prop:=
 ∀g:LoopState->Option Code->Obj,(∀(b c d:Int) (e:ByteArray) (f:Int) (t:World) (u:Bool->World->Prop),t.heap[w.heap.size+1]? =some (g .ready none)->Sk (w.heap.size+1) g s0 q r s r5 a b c d e f t (λp w1=>∃x:Bool,p=.returned (.bool x)/\u x w1)->xh Tryz.prog (w.heap.size+1) #[.agg #[.int .u8 b,.int .u8 c,.int .u8 d,.string e,.i f]] t u)->
 Calls Tryz.prog fP #[.func (.yield (w.heap.size+1)) #[] #[],.pointer (some a)] ((w.alloc (.deferred (some []))).alloc (g .ready none)) λp w2=>(∃v_,p=.returned v_)/\uI w2 (w.heap.size+1) g (λj=>S4 w.heap.size s0 q r s r5 j R) (λae j=>False) (λj=>KA j w.heap.size (.deferred (some [])) (.deferred none) λk=>cA k q λl m n o=>∃y:Int,k.cell? r=some (.i y)/\
 ∃z:Int,k.cell? s=some (.i z)/\
 R (.returned (.tuple #[.agg #[.i l,.int .u8 m,.int .u8 n,o.v],.i y,.i z])) k)
abbrev Q5 (R:aD):Qv:=(Exit.then (Ad Tryz.prog (cx 32) N1 (bodyPostM Fence.wide 0 Tryz.prog Tryz.f130 R)) (bodyPostM Fence.wide 0 Tryz.prog Tryz.f130 R))
abbrev Q6 (R:aD):Qv:=(Exit.inBlock 0 (Q5 R))
def Qx (E:Env) (w:World) (R:aD):Prop:=W.yo (Env.get? E 0) λg=>W.gC (Env.get? E 2) λi=>W.gC (Env.get? E 3) λj=>W.gC (Env.get? E 4) λk=>W.gC (Env.get? E 5) λf=>W.BM fP (Env.get? E 16) λc a=>W.AJ c<|W.sh a λd b=>W.gC (some d) λe=>W.AJ b<|S0 g i j k f e w R
theorem KH:KOk Tryz.prog 32 Qx C6 Q6:=by
 intro R E w h
 obtain ⟨s0,JG,DI⟩:=W.pC h
 obtain ⟨t2,Gl,DJ⟩:=W.bP DI
 obtain ⟨t3,DX,DK⟩:=W.bP DJ
 obtain ⟨t4,Gm,Gc⟩:=W.bP DK
 obtain ⟨r5,TH,OP⟩:=W.bP Gc
 obtain ⟨XW,XU,ZD,Y1⟩:=W.Da OP
 obtain ⟨rfl,Y2⟩:=W.tT Y1
 obtain ⟨XX,XV,rfl,Y3⟩:=W.mR Y2
 obtain ⟨G4,ex,Y4⟩:=W.bP Y3
 obtain rfl:=Option.some.inj ex
 obtain ⟨rfl,Ts⟩:=W.tT Y4
 exact λa b=>WP.at (n:=(cx 32)) (E:=[(0,.string s0),(2,.pointer (some t2)),(3,.pointer (some t3)),(4,.pointer (some t4)),(5,.pointer (some r5)),(16,.func (.func fP) #[] #[.pointer (some G4)])]) (WP.range (m:=32) (c:=C6) (g:=.tmp 16) (ps:=#[17]) (assign:=C7) (body:=C8) (gf:=fP) (lb:=#[.pointer (some G4)]) (λl=>S4 w.heap.size s0 t2 t3 t4 r5 l R) (λae l=>False) (λl=>KA l w.heap.size (.deferred (some [])) (.deferred none) λq=>cA q t2 λs t u x=>∃r3:Int,q.cell? t3=some (.i r3)/\
 ∃r4:Int,q.cell? t4=some (.i r4)/\
 R (.returned (.tuple #[.agg #[.i s,.int .u8 t,.int .u8 u,x.v],.i r3,.i r4])) q) (by kernel_rfl) rfl (by kernel_rfl)
  (λl o a r=>(KL w.heap.size R _ _ (mp o)) a r)
  (λ_ _ o=>o.elim)
  (λl o a r=>ru r (mp o))
  (λp aa=>Ts (lo p) (λd e f j k w_ K_ z y=>NJ (args:=[.agg #[.int .u8 d,.int .u8 e,.int .u8 f,.string j,.i k]]) aa z rfl (by kernel_rfl) (λ_ _ h=>h) (Yo _ p s0 t2 t3 t4 r5 G4 d e f j k w_ _ y)))) (b.cons JG (b.cons Gl (b.cons DX (b.cons Gm (b.cons TH (b.cons ZD b.nil))))))
noncomputable def X2:=C1.fs
noncomputable def X3:=X2.sn
noncomputable def X4:=X3.fs
noncomputable def C32:=X4.sn
noncomputable def C33:=X3.sn
theorem ok (j:ByteArray) (w:World) (R:aD) (h:eV w (.cells #[.i 0,.int .u8 0,.int .u8 0,.slice none 0 0] aB) λm=>
 eV m (.cells #[.i 0] bW) λn=>
 eV n (.cells #[.i 0] vO) λu=>
 aH (decide (((j.size:Nat):Int)>4096)) (qA u (nb w) (.i 0) (.int .u8 0) (.int .u8 0) (.slice none 0 0) λw7=>bR w7 (nb m) (.i 4096) λw8=>
 bR w8 (nb n) (.i 4) λo=>
 cA o (nb w) λq r s t=>∃x:Int,o.cell? (nb m)=some (.i x)/\
 ∃y:Int,o.cell? (nb n)=some (.i y)/\
 R (.returned (.tuple #[.agg #[.i q,.int .u8 r,.int .u8 s,t.v],.i x,.i y])) o) (eV u (.cells #[.i (-1),.slice none 0 0,.slice none 0 0,.slice none 0 0,.slice none 0 0,.i 0,.i 0,.int .u8 0,.int .u8 0,.slice none 0 0] b0) λl=>
 eV l (.cells #[.slice none 0 0,.i 0,.i 0] g8) λaa=>
 GY aa (nb l) (.slice (some (nb u)) 1 1) (.i 0) (.i 0) λab=>Yt sM #[.string j] ab λz ac=>W.BM fP (some z) λf d=>W.AJ f<|W.sh d λg e=>W.gC (some g) λk=>W.AJ e<|S0 j (nb w) (nb m) (nb n) (nb l) k ac R)):Calls Tryz.prog qv #[.string j] w R:=
 BV (R:=R) (fn:=Tryz.f130) (c:=C0) (args:=[.string j]) (by kernel_rfl) (by kernel_rfl) (by kernel_rfl) (sr C0 (show (λ(E:Env) (w:World)=>xT Tryz.prog C0 (λE w=>xT Tryz.prog X2 (λE w=>pG (Env.val E (.tmp 10)) (xT Tryz.prog X4 (λE w=>rM Tryz.prog Tryz.f130 E w (λv=>R (.returned v) w)) E w) (xT Tryz.prog C2 (λE w=>xT Tryz.prog C4 (λE w=>Qx E w R) E w) E w)) E w) E w) (rI 0 [.string j]) w from mp h) λ_ _ b=>(sq C1 (sr X2 b λ_ _ b=>(cn X3 b (λb=>(sr X4 b λ_ _ b=>(rt C32 λa p=>GL p b))) (λb=>(sk C33 λa p=>nx p (sr C2 b λ_ _ b=>(sq C3 (sr C4 b λ_ _ b=>(bk C5 0 (by kernel_rfl) (KH R _ _ b)))))))))))
end regex_Parse
namespace regex_byteText
noncomputable abbrev X:Fx:=⟨Tryz.prog,Tryz.f196,[(3,ls [0,1,2,3,4,5,6,7,8])],[]⟩
theorem ok (a:Int) (w:World) (R:aD) (h:zY n9 #[.int .u8 a] w λk e=>aH k (eV e (.cells #[.int .u8 39,.int .u8 a,.int .u8 39] dB) λf=>
 ∃i:ByteArray,Sem.run Tryz.prog (Go.convert bJ cF (.slice (some (nb e)) 3 3)) f=.ok (.string i) f/\R (.returned (.string i)) f) (tZ e λj=>(0:Int)<=(Int.fdiv a (2^(4)))/\∃b:UInt8,(ByteArray.mk #[48,49,50,51,52,53,54,55,56,57,97,98,99,100,101,102])[Int.toNat (Int.fdiv a (2^(4)))]? =some b/\(0:Int)<=(N' .u8 a 15)/\∃c:UInt8,(ByteArray.mk #[48,49,50,51,52,53,54,55,56,57,97,98,99,100,101,102])[Int.toNat (N' .u8 a 15)]? =some c/\eV j (.cells #[.int .u8 92,.int .u8 120,.int .u8 ((b.toNat:Nat):Int),.int .u8 ((c.toNat:Nat):Int)] dB) λg=>
 ∃d:ByteArray,Sem.run Tryz.prog (Go.convert bJ cF (.slice (some (nb j)) 4 4)) g=.ok (.string d) g/\R (.returned (.string d)) g)):Calls Tryz.prog jD #[.int .u8 a] w R:=aP X [] h
end regex_byteText
namespace regex_text
noncomputable abbrev X:Fx:=⟨Tryz.prog,Tryz.f151,[],[2]⟩
theorem cT (c d e:Int) (f:Sl) (b:Int) (w:World) (R:aD) (h:bH [] w λk l=>
 Ta [k] rk #[.agg #[.i c,.int .u8 d,.int .u8 e,f.v]] l λa g j=>aH (decide (g<b)) (¬((((ByteArray.mk #[40]).size+a.size:Nat):Int)>IntKind.i64.max)/\¬(((((ByteArray.mk #[40])++a).size+(ByteArray.mk #[41]).size:Nat):Int)>IntKind.i64.max)/\R (.returned (.string (((ByteArray.mk #[40])++a)++(ByteArray.mk #[41])))) j) (R (.returned (.string a)) j)):Calls Tryz.prog ie #[.agg #[.i c,.int .u8 d,.int .u8 e,f.v],.i b] w R:=aP X [] h
end regex_text
namespace regex_bare
noncomputable abbrev X:Fx:=⟨Tryz.prog,Tryz.f179,[(9,ls [0,1,5,6,2,3,4,7,8,9,10,11])],[1,9]⟩
abbrev P0:Ps:=[(1,.l [.I,.Y,.Y,.s] aB),(5,.v [.st]),(6,.v [.I]),(7,.v [.st]),(79,.v [.s]),(80,.v [.I]),(81,.v [.I])]
def U9 (k:Nat) (c d e:Int) (f:Sl) (b:ByteArray) (a:Int) (l:ByteArray) (g:Sl) (i j:Int) (w:World) (R:aD):Prop:=cG P0 0 (X.Sem (bG [0,1,1,1,7])) k c d e f b a l g i j w R
noncomputable def LG:=fZ X (bG [0,1,1,1,7]) P0 U9
abbrev P1:Ps:=[(1,.l [.I,.Y,.Y,.s] aB),(5,.v [.st]),(6,.v [.I]),(7,.v [.st]),(10,.v [.st]),(79,.v [.s]),(80,.v [.I]),(81,.v [.I])]
abbrev hU (m:Nat) (d e f:Int) (g:Sl) (b:ByteArray) (a:Int) (i c:ByteArray) (j:Sl) (k l:Int) (w:World) (R:aD):Prop:=
 ¬(((i.size+c.size:Nat):Int)>IntKind.i64.max)/\U9 m d e f g b a (i++c) j k (IntKind.wrap .i64 (l+1)) w R
noncomputable def iH:=bK X [LG] (bG [3,2,2,2,1,1,7]) P1 hU
theorem CW:∀(m:Nat) (e f g:Int) (j:Sl) (b:ByteArray) (c:Int) (l:ByteArray) (k:Sl) (o d:Int) (w:World) (R:aD) (h:aH (decide (d<o)) ((0:Int)<=d/\d<((k.n:Nat):Int)/\aX k.a λt=>cA w (t.add (Int.toNat d *4)) λu x y z=>bH [m] w λs w2=>
 loc [m,s] w2 λw6=>pE [m,s] ie #[.agg #[.i u,.int .u8 x,.int .u8 y,z.v],.i (IntKind.wrap .i64 (c+1))] w6 λp w7=>aH (decide (d>0)) (¬(((l.size+b.size:Nat):Int)>IntKind.i64.max)/\aH (e==3) ((0:Int)<=(IntKind.wrap .i64 ((((l++b).size:Nat):Int) - 1))/\∃q:UInt8,(l++b)[Int.toNat (IntKind.wrap .i64 ((((l++b).size:Nat):Int) - 1))]? =some q/\kn [m,s] kA #[.int .u8 ((q.toNat:Nat):Int)] w7 λaa w8=>aH aa ((0:Int)<=0/\∃r:UInt8,p[Int.toNat 0]? =some r/\kn [m,s] kA #[.int .u8 ((r.toNat:Nat):Int)] w8 λab w9=>aH ab (¬((((l++b).size+(ByteArray.mk #[32]).size:Nat):Int)>IntKind.i64.max)/\hU m e f g j b c ((l++b)++(ByteArray.mk #[32])) p k o d w9 R) (hU m e f g j b c (l++b) p k o d w9 R)) (hU m e f g j b c (l++b) p k o d w8 R)) (hU m e f g j b c (l++b) p k o d w7 R)) (hU m e f g j b c l p k o d w7 R)) (R (.returned (.tuple #[.string l,.i c])) w)),U9 m e f g j b c l k o d w R:=mp (dA (X:=X) [iH,LG] (bG [0,1,1,1,7]) P0)
abbrev P2:Ps:=[(1,.l [.I,.Y,.Y,.s] aB),(4,.v [.st]),(5,.v [.st]),(6,.v [.I])]
abbrev fY (r:Nat) (o p q:Int) (c:Sl) (b f:ByteArray) (d:Int) (w:World) (R:aD):Prop:=
 aH (((c.n:Nat):Int)==0) (¬(((b.size+(ByteArray.mk #[40,41]).size:Nat):Int)>IntKind.i64.max)/\R (.returned (.tuple #[.string (b++(ByteArray.mk #[40,41])),.i 4])) w) (aH (((c.n:Nat):Int)==1) (¬(((b.size+(ByteArray.mk #[40]).size:Nat):Int)>IntKind.i64.max)/\(0:Int)<=0/\0<((c.n:Nat):Int)/\aX c.a λg=>cA w (g.add (Int.toNat 0 *4)) λj k l m=>pE [r] ie #[.agg #[.i j,.int .u8 k,.int .u8 l,m.v],.i 0] w λe s=>¬((((b++(ByteArray.mk #[40])).size+e.size:Nat):Int)>IntKind.i64.max)/\¬(((((b++(ByteArray.mk #[40]))++e).size+(ByteArray.mk #[41]).size:Nat):Int)>IntKind.i64.max)/\R (.returned (.tuple #[.string (((b++(ByteArray.mk #[40]))++e)++(ByteArray.mk #[41])),.i 4])) s) (U9 r o p q c f d (ByteArray.mk #[]) c ((c.n:Nat):Int) 0 w R))
noncomputable def gG:=bK X [iH,LG] (bG [4]) P2 fY
abbrev dU (i:Nat) (a b c:Int) (d:Sl) (g f:ByteArray) (e:Int) (w:World) (R:aD):Prop:=
 aH (a==4) (fY i a b c d (ByteArray.mk #[97,108,116]) (ByteArray.mk #[124]) 0 w R) (aH (a==5) (fY i a b c d (ByteArray.mk #[97,108,108]) (ByteArray.mk #[38]) 1 w R) (fY i a b c d g f e w R))
noncomputable def eT:=bK X [gG,iH,LG] (bG [3]) P2 dU
theorem cT (b d e:Int) (c:Sl) (w:World) (R:aD) (h:bH [] w λj f=>
 aH (b==0) (R (.returned (.tuple #[.string (ByteArray.mk #[110,111,110,101]),.i 4])) f) (aH (b==1) (R (.returned (.tuple #[.string (ByteArray.mk #[101,109,112,116,121]),.i 4])) f) (aH (b==2) (aH (d==e) (pE [j] jD #[.int .u8 d] f λaa w2=>R (.returned (.tuple #[.string aa,.i 4])) w2) (loc [j] f λw3=>pE [j] jD #[.int .u8 d] w3 λg w4=>¬((((ByteArray.mk #[91]).size+g.size:Nat):Int)>IntKind.i64.max)/\¬(((((ByteArray.mk #[91])++g).size+(ByteArray.mk #[45]).size:Nat):Int)>IntKind.i64.max)/\pE [j] jD #[.int .u8 e] w4 λk w5=>¬((((((ByteArray.mk #[91])++g)++(ByteArray.mk #[45])).size+k.size:Nat):Int)>IntKind.i64.max)/\¬(((((((ByteArray.mk #[91])++g)++(ByteArray.mk #[45]))++k).size+(ByteArray.mk #[93]).size:Nat):Int)>IntKind.i64.max)/\R (.returned (.tuple #[.string (((((ByteArray.mk #[91])++g)++(ByteArray.mk #[45]))++k)++(ByteArray.mk #[93])),.i 4])) w5)) (aH (b==6) ((0:Int)<=0/\0<((c.n:Nat):Int)/\aX c.a λl=>cA f (l.add (Int.toNat 0 *4)) λm o p q=>pE [j] ie #[.agg #[.i m,.int .u8 o,.int .u8 p,q.v],.i 3] f λy w6=>¬((((ByteArray.mk #[33]).size+y.size:Nat):Int)>IntKind.i64.max)/\R (.returned (.tuple #[.string ((ByteArray.mk #[33])++y),.i 3])) w6) (aH (b==7) ((0:Int)<=0/\0<((c.n:Nat):Int)/\aX c.a λr=>cA f (r.add (Int.toNat 0 *4)) λs t u x=>pE [j] ie #[.agg #[.i s,.int .u8 t,.int .u8 u,x.v],.i 4] f λz w7=>¬(((z.size+(ByteArray.mk #[42]).size:Nat):Int)>IntKind.i64.max)/\R (.returned (.tuple #[.string (z++(ByteArray.mk #[42])),.i 4])) w7) (dU j b d e c (ByteArray.mk #[99,97,116]) (ByteArray.mk #[]) 2 f R)))))):Calls Tryz.prog rk #[.agg #[.i b,.int .u8 d,.int .u8 e,c.v]] w R:=aP X [eT,gG,iH,LG] h
end regex_bare
namespace regex_Print
noncomputable abbrev X:Fx:=⟨Tryz.prog,Tryz.f132,[],[1]⟩
theorem cT (a b c:Int) (d:Sl) (w:World) (R:aD) (h:bH [] w λe k=>
 mX [e] n8 #[.agg #[.i a,.int .u8 b,.int .u8 c,d.v]] k λg j=>aH (g !=0) (R (.returned (.tuple #[.s0,.i g])) j) (pE [e] ie #[.agg #[.i a,.int .u8 b,.int .u8 c,d.v],.i 0] j λf l=>R (.returned (.tuple #[.string f,.i 0])) l)):Calls Tryz.prog qw #[.agg #[.i a,.int .u8 b,.int .u8 c,d.v]] w R:=aP X [] h
end regex_Print
namespace term_isNormal
noncomputable abbrev X:Fx:=⟨Tryz.prog,Tryz.f117,[],[3,6]⟩
theorem cT (s:ByteArray) (w:World) (R:aD) (h:Vo qv #[.string s] w λb c d e y m z=>bH [] z λa u=>
 aH (m !=0) (loc [a] u λt=>R (.returned (.bool false)) t) (loc [a] u λt=>Lr [a] nt #[.agg #[.i b,.int .u8 c,.int .u8 d,e.v]] t λf g j k n w7=>bH [a] w7 λr x=>
 aH (n !=0) (loc [a,r] x λl=>R (.returned (.bool false)) l) (loc [a,r] x λl=>Ta [a,r] qw #[.agg #[.i f,.int .u8 g,.int .u8 j,k.v]] l λo p q=>aH (p==0) (R (.returned (.bool (o.toList==s.toList))) q) (R (.returned (.bool false)) q)))):Calls Tryz.prog mC #[.string s] w R:=aP X [] h
end term_isNormal
namespace enthymemelaw07_lives
noncomputable abbrev X:Fx:=⟨Tryz.prog,Tryz.f18,[],[1,4,7,10,12]⟩
abbrev P0:Ps:=[]
abbrev dU (w:World) (R:aD):Prop:=
 R (.returned (.bool false)) w
noncomputable def eT:=bK X [] (bG [0,1,1,1,4]) P0 dU
theorem cT (w:World) (R:aD) (h:Yw pM #[.agg #[.slice none 0 0],.agg #[.i 0,.slice none 0 0,.i 0,.i 0,.u 0,.string (ByteArray.mk #[120]),.i 0,.i 8,.i 0]] w λk an s w1=>bH [] w1 λb w2=>
 loc [b] w2 λw3=>eV w3 (.cells #[.i 0] bW) λw4=>
 Vs [b] pM #[.agg #[k.v],.agg #[.i 4,.slice (some (nb w3)) 1 1,.i 0,.i 0,.u 0,.s0,.i 0,.i 0,.i 0]] w4 λl t x w5=>bH [b] w5 λc w6=>
 loc [b,c] w6 λw7=>eV w7 (.cells #[.i 0] bW) λw8=>
 Vs [b,c] pM #[.agg #[l.v],.agg #[.i 4,.slice (some (nb w7)) 1 1,.i 0,.i 0,.u 0,.s0,.i 0,.i 0,.i 0]] w8 λe y z w9=>bH [b,c] w9 λd f=>
 aH (s !=0) (loc [b,c,d] f λa=>dU a R) (aH (x !=0) (loc [b,c,d] f λa=>dU a R) (aH (z !=0) (loc [b,c,d] f λa=>dU a R) (aH (t !=1) (loc [b,c,d] f λa=>dU a R) (aH (y !=1) (loc [b,c,d] f λa=>dU a R) (aH (((e.n:Nat):Int) !=2) (loc [b,c,d] f λa=>dU a R) (loc [b,c,d] f λa=>eV a (.cells #[.i 0,.i 1] bW) λag=>
 gU [b,c,d] mn #[.agg #[e.v],.agg #[.i 20,.slice (some (nb a)) 2 2,.i 0,.i 0,.u 0,.s0,.i 0,.i 0,.i 0]] ag λm o p aa ah=>bH [b,c,d] ah λg ai=>
 loc [b,c,d,g] ai λac=>eV ac (.cells #[.i 0] bW) λaj=>
 gU [b,c,d,g] mn #[.agg #[e.v],.agg #[.i 21,.slice (some (nb ac)) 1 1,.i 8,.i 0,.u 0,.s0,.i 0,.i 0,.i 0]] aj λad ae af ab ak=>bH [b,c,d,g] ak λq r=>
 aH (aa==0) (aH ((m==0)&&((o==16)&&((p==0)&&true))) (loc [b,c,d,g,q] r λj=>R (.returned (.bool (ab==5))) j) (loc [b,c,d,g,q] r λj=>R (.returned (.bool false)) j)) (loc [b,c,d,g,q] r λj=>R (.returned (.bool false)) j)))))))):Calls Tryz.prog jU #[] w R:=aP X [eT] h
end enthymemelaw07_lives
namespace enthymemeref07_Spoilt
noncomputable abbrev X:Fx:=⟨Tryz.prog,Tryz.f11,[(25,ls [0,1,2,3,4,5,6,7]),(7,ls [0,1,2,3,4,5,6,7,8,9])],[3,6]⟩
abbrev P0:Ps:=[(3,.l [.I,.s,.I,.I,.U,.st,.I,.I,.I] aE),(6,.l [.I,.s,.I,.I,.U,.st,.I,.I,.I] aE)]
abbrev dU (l:Nat) (a:Int) (b:Sl) (c d e:Int) (f:ByteArray) (g j k:Int) (m:Nat) (n:Int) (o:Sl) (p q r:Int) (s:ByteArray) (t x y:Int) (w:World) (R:aD):Prop:=
 loc [l,m] w λz=>R (.returned (.agg #[.i a,b.v,.i c,.i d,.u e,.string f,.i g,.i j,.i k])) z
noncomputable def eT:=bK X [] (bG [4]) P0 dU
abbrev P1:Ps:=[(2,.v [.I]),(3,.l [.I,.s,.I,.I,.U,.st,.I,.I,.I] aE),(6,.l [.I,.s,.I,.I,.U,.st,.I,.I,.I] aE),(8,.v [.I])]
def l6 (t:Int) (v:Nat) (a:Int) (b:Sl) (c d e:Int) (f:ByteArray) (g i j:Int) (x:Nat) (k:Int) (l:Sl) (m n o:Int) (p:ByteArray) (q r s u:Int) (w:World) (R:aD):Prop:=cG P1 0 (X.Sem (bG [0,1,19,1,1,1,3])) t v a b c d e f g i j x k l m n o p q r s u w R
noncomputable def km:=fZ X (bG [0,1,19,1,1,1,3]) P1 l6
theorem dI:∀(aa:Int) (y:Nat) (d:Int) (b:Sl) (e f g:Int) (j:ByteArray) (k l m:Int) (z:Nat) (o:Int) (p:Sl) (q r s:Int) (t:ByteArray) (u v x c:Int) (w:World) (R:aD) (h:aH (decide (c<((b.n:Nat):Int))) ((IntKind.wrap .i64 (c+1))≠0/\loc [y,z] w λaf=>mX [y,z] aT #[.i (IntKind.wrap .i64 (Int.tdiv aa (IntKind.wrap .i64 (c+1)))),.i 12] af λae ac=>(0:Int)<=c/\c<((b.n:Nat):Int)/\aX b.a λab=>bR ac (ab.add (Int.toNat c *1)) (.i ae) λad=>kept [y,z] ac ad/\
 l6 aa y d b e f g j k l m z o p q r s t u v x (IntKind.wrap .i64 (c+1)) ad R) (dU y d b e f g j k l m z o p q r s t u v x w R)),l6 aa y d b e f g j k l m z o p q r s t u v x c w R:=mp (dA (X:=X) [km,eT] (bG [0,1,19,1,1,1,3]) P1)
theorem cT (c:Int) (s:Sl) (d e f:Int) (g:ByteArray) (j k l r q:Int) (w:World) (R:aD) (h:bH [] w λa w1=>
 bH [a] w1 λb w2=>
 eV w2 (.cells #[] bW) λw3=>
 ∃(m:Sl) (w4:World),Sem.run Tryz.prog (Builtin.append_ #[gv,gv] gv #[.slice (some (nb w2)) 0 0,s.v]) w3=.ok (m.v) w4/\kept [a,b] w3 w4/\loc [a,b] w4 λw5=>eV w5 (.cells #[.i q,.i (-1),.i 0,.i 1,.i 63,.i 64,.i 65,.i 1099511627776] bW) λw6=>
 mX [a,b] aT #[.i q,.i 8] w6 λt w7=>(0:Int)<=t/\t<((8:Nat):Int)/\aX (some (nb w5)) λz=>∃o:Int,w7.cell? (z.add (Int.toNat t *1))=some (.i o)/\
 mX [a,b] aT #[.i r,.i 10] w7 λn p=>aH (n==0) (loc [a,b] p λw9=>dU a o m d e f g j k l b 0 ⟨none,0,0⟩ 0 0 0 (ByteArray.mk #[]) 0 0 0 w9 R) (aH (n==1) (loc [a,b] p λai=>dU a c m o e f g j k l b 0 ⟨none,0,0⟩ 0 0 0 (ByteArray.mk #[]) 0 0 0 ai R) (aH (n==2) (loc [a,b] p λaj=>dU a c m d o f g j k l b 0 ⟨none,0,0⟩ 0 0 0 (ByteArray.mk #[]) 0 0 0 aj R) (aH (n==3) (loc [a,b] p λak=>dU a c m d e (IntKind.wrap .u64 o) g j k l b 0 ⟨none,0,0⟩ 0 0 0 (ByteArray.mk #[]) 0 0 0 ak R) (aH (n==4) (eV p (.cells #[.s0,.string (ByteArray.mk #[97]),.string (ByteArray.mk #[65]),.string (ByteArray.mk #[115,101,118,101,110,116,101,101,110,45,108,101,116,116,101,114,115]),.string (ByteArray.mk #[97,45,49]),.string (ByteArray.mk #[45]),.string (ByteArray.mk #[40]),.string (ByteArray.mk #[122,122])] cF) λal=>
 mX [a,b] aT #[.i q,.i 8] al λx ad=>(0:Int)<=x/\x<((8:Nat):Int)/\aX (some (nb p)) λaa=>∃ab:ByteArray,ad.cell? (aa.add (Int.toNat x *1))=some (.string ab)/\
 loc [a,b] ad λam=>dU a c m d e f ab j k l b 0 ⟨none,0,0⟩ 0 0 0 (ByteArray.mk #[]) 0 0 0 am R) (aH (n==5) (loc [a,b] p λan=>dU a c m d e f g o k l b 0 ⟨none,0,0⟩ 0 0 0 (ByteArray.mk #[]) 0 0 0 an R) (aH (n==6) (loc [a,b] p λao=>dU a c m d e f g j o l b 0 ⟨none,0,0⟩ 0 0 0 (ByteArray.mk #[]) 0 0 0 ao R) (aH (n==7) (loc [a,b] p λap=>dU a c m d e f g j k o b 0 ⟨none,0,0⟩ 0 0 0 (ByteArray.mk #[]) 0 0 0 ap R) (aH (n==8) (loc [a,b] p λaq=>mX [a,b] aT #[.i q,.i 9] aq λah ae=>eV ae (.cells #[.i ah] bW) λaf=>
 ∃(ac:Sl) (y:World),Sem.run Tryz.prog (Builtin.append_ #[gv,gv] gv #[m.v,.slice (some (nb ae)) 1 1]) af=.ok (ac.v) y/\kept [a,b] af y/\loc [a,b] y λau=>dU a c ac d e f g j k l b 0 ⟨none,0,0⟩ 0 0 0 (ByteArray.mk #[]) 0 0 0 au R) (l6 q a c m d e f g j k l b 0 ⟨none,0,0⟩ 0 0 0 (ByteArray.mk #[]) 0 0 0 0 p R)))))))))):Calls Tryz.prog jy #[.agg #[.i c,s.v,.i d,.i e,.u f,.string g,.i j,.i k,.i l],.i r,.i q] w R:=aP X [km,eT] h
end enthymemeref07_Spoilt
namespace enthymemeref07_Valid
noncomputable abbrev X:Fx:=⟨Tryz.prog,Tryz.f29,[(6,(.sq [0,1,2,3,4,5,6] (.fork (ls [7,8,9,10,11,12,13]) (ls [11,7,8,9,10,12,13])))),(9,ls [0,1,2,3,4,5,6]),(11,ls [0,1,2,3,4,5,6,7,8])],[4]⟩
abbrev P0:Ps:=[(0,.v [.s]),(3,.v [.I])]
def dY (a:Sl) (b:Int) (w:World) (R:aD):Prop:=cG P0 0 (X.Sem (bG [0,1,1,1,2])) a b w R
noncomputable def eK:=fZ X (bG [0,1,1,1,2]) P0 dY
abbrev P1:Ps:=[(0,.v [.s]),(3,.v [.I]),(4,.l [.I,.I,.I] aR),(5,.v [.I])]
abbrev fY (b:Sl) (d:Int) (y:Nat) (z aa ab e5:Int) (w:World) (R:aD):Prop:=
 aH (e5 !=0) (R (.returned (.i e5)) w) ((0:Int)<=d/\d<((b.n:Nat):Int)/\aX b.a λe=>loc [y] w λw1=>dD w1 ((e.add (Int.toNat d *9)).add 6) λf g j=>aH (!((z==f)&&((aa==g)&&((ab==j)&&true)))) (R (.returned (.i 9)) w1) ((0:Int)<=d/\d<=((b.c:Nat):Int)/\(0:Int)<=d/\d<((b.n:Nat):Int)/\aX b.a λk=>loc [y] w1 λw2=>tG w2 (k.add (Int.toNat d *9)) λl m o p q r s t x=>mX [y] ic #[.slice (if b.c=0 then b.a else b.a.map (·.add (0 *9))) ((Int.toNat d) - 0) (b.c - 0),.agg #[.i l,m.v,.i o,.i p,.u q,.string r,.i s,.i t,.i x]] w2 λae w3=>aH (decide (ae>=0)) (R (.returned (.i 8)) w3) (dY b (IntKind.wrap .i64 (d+1)) w3 R)))
noncomputable def gG:=bK X [eK] (bG [1,2,1,2,1,1,2]) P1 fY
theorem aY:∀(b:Sl) (d:Int) (w:World) (R:aD) (h:aH (decide (d<((b.n:Nat):Int))) (tZ w λw1=>(0:Int)<=d/\d<=((b.c:Nat):Int)/\(0:Int)<=d/\d<((b.n:Nat):Int)/\aX b.a λx=>tG w1 (x.add (Int.toNat d *9)) λe f g j k l m o p=>((Yv eN #[.slice (if b.c=0 then b.a else b.a.map (·.add (0 *9))) ((Int.toNat d) - 0) (b.c - 0),.agg #[.i e,f.v,.i g,.i j,.u k,.string l,.i m,.i o,.i p]] w1 λy z aa ac w2=>bH [] w2 λb4 w3=>
 loc [b4] w3 λw6=>fY b d b4 y z aa ac w6 R)/\(bH [] w1 λab w7=>
 Tu w7 (x.add (Int.toNat d *9)) (.i e) (f.v) (.i g) (.i j) (.u k) (.string l) (.i m) (.i o) (.i p) λ_=>gU [ab] eN #[.slice (if b.c=0 then b.a else b.a.map (·.add (0 *9))) ((Int.toNat d) - 0) (b.c - 0),.agg #[.i e,f.v,.i g,.i j,.u k,.string l,.i m,.i o,.i p]] w7 λq r s t w8=>loc [ab] w8 λaf=>fY b d ab q r s t af R))) (R (.returned (.i 0)) w)),dY b d w R:=mp (dA (X:=X) [gG,eK] (bG [0,1,1,1,2]) P0)
theorem cT (a:Sl) (w:World) (R:aD) (h:aH (decide (((a.n:Nat):Int)>4096)) (R (.returned (.i 4)) w) (dY a 0 w R)):Calls Tryz.prog jY #[a.v] w R:=aP X [gG,eK] h
end enthymemeref07_Valid
namespace slices_Clone_sl_byte_byte
noncomputable abbrev X:Fx:=⟨Tryz.prog,Tryz.f72,[],[]⟩
theorem ok (b:Sl) (w:World) (R:aD) (h:aH b.a.isNone (R (.returned (.slice none 0 0)) w) (eV w (.cells #[] dB) λe=>
 ∃(c:Sl) (d:World),Sem.run Tryz.prog (Builtin.append_ #[bJ,bJ] bJ #[.slice (some (nb w)) 0 0,b.v]) e=.ok (c.v) d/\R (.returned (c.v)) d)):Calls Tryz.prog ik #[b.v] w R:=aP X [] h
end slices_Clone_sl_byte_byte
namespace wire_Writer_Uint
noncomputable abbrev X:Fx:=⟨Tryz.prog,Tryz.f97,[],[]⟩
abbrev P0:Ps:=[(0,.v [.r]),(1,.v [.U])]
def L0 (a:Addr) (b:Int) (w:World) (R:aD):Prop:=cG P0 0 (X.Sem (bG [0,2])) a b w R
noncomputable def eK:=fZ X (bG [0,2]) P0 L0
theorem cO:∀(a:Addr) (b:Int) (w:World) (R:aD) (h:aH (decide (b>=128)) (∃c:Sl,w.cell? (a.add 0)=some (c.v)/\
 eV w (.cells #[.int .u8 (Vd .u8 (IntKind.wrap .u8 b) 128)] dB) λj=>
 ∃(d:Sl) (g:World),Sem.run Tryz.prog (Builtin.append_ #[bJ,bJ] bJ #[c.v,.slice (some (nb w)) 1 1]) j=.ok (d.v) g/\bR g (a.add 0) (d.v) λk=>
 L0 a (Int.fdiv b (2^(7))) k R) (∃e:Sl,w.cell? (a.add 0)=some (e.v)/\
 eV w (.cells #[.int .u8 (IntKind.wrap .u8 b)] dB) λl=>
 ∃(f:Sl) (i:World),Sem.run Tryz.prog (Builtin.append_ #[bJ,bJ] bJ #[e.v,.slice (some (nb w)) 1 1]) l=.ok (f.v) i/\bR i (a.add 0) (f.v) λm=>
 R (.returned (.tuple #[])) m)),L0 a b w R:=mp (dA (X:=X) [eK] (bG [0,2]) P0)
theorem ok (a:Addr) (b:Int) (w:World) (R:aD) (h:L0 a b w R):Calls Tryz.prog gL #[.pointer (some a),.u b] w R:=aP X [eK] h
end wire_Writer_Uint
namespace wire_Writer_Int
noncomputable abbrev X:Fx:=⟨Tryz.prog,Tryz.f61,[],[]⟩
theorem ok (a:Addr) (b:Int) (w:World) (R:aD) (h:xN gL #[.pointer (some a),.u (Oa .u64 (IntKind.wrap .u64 ((IntKind.wrap .u64 b) *2^(1))) (IntKind.wrap .u64 (Int.fdiv b (2^(63)))))] w λc=>R (.returned (.tuple #[])) c):Calls Tryz.prog dR #[.pointer (some a),.i b] w R:=aP X [] h
end wire_Writer_Int
namespace wire_Writer_Ints
noncomputable abbrev X:Fx:=⟨Tryz.prog,Tryz.f98,[],[]⟩
abbrev P0:Ps:=[(0,.v [.r]),(11,.v [.s]),(12,.v [.I]),(13,.v [.I])]
def L0 (d:Addr) (a:Sl) (b c:Int) (w:World) (R:aD):Prop:=cG P0 0 (X.Sem (bG [0,1,2])) d a b c w R
noncomputable def eK:=fZ X (bG [0,1,2]) P0 L0
theorem cO:∀(e:Addr) (c:Sl) (d b:Int) (w:World) (R:aD) (h:aH (decide (b<d)) ((0:Int)<=b/\b<((c.n:Nat):Int)/\aX c.a λf=>∃g:Int,w.cell? (f.add (Int.toNat b *1))=some (.i g)/\
 xN dR #[.pointer (some e),.i g] w λj=>L0 e c d (IntKind.wrap .i64 (b+1)) j R) (R (.returned (.tuple #[])) w)),L0 e c d b w R:=mp (dA (X:=X) [eK] (bG [0,1,2]) P0)
theorem ok (a:Addr) (b:Sl) (w:World) (R:aD) (h:xN gL #[.pointer (some a),.u (IntKind.wrap .u64 ((b.n:Nat):Int))] w λc=>L0 a b ((b.n:Nat):Int) 0 c R):Calls Tryz.prog ke #[.pointer (some a),b.v] w R:=aP X [eK] h
end wire_Writer_Ints
namespace wire_Writer_Text
noncomputable abbrev X:Fx:=⟨Tryz.prog,Tryz.f99,[],[]⟩
theorem ok (a:Addr) (d:ByteArray) (w:World) (R:aD) (h:xN gL #[.pointer (some a),.u (IntKind.wrap .u64 ((d.size:Nat):Int))] w λe=>∃b:Sl,e.cell? (a.add 0)=some (b.v)/\
 ∃(c:Sl) (f:World),Sem.run Tryz.prog (Builtin.append_ #[bJ,cF] bJ #[b.v,.string d]) e=.ok (c.v) f/\bR f (a.add 0) (c.v) λg=>
 R (.returned (.tuple #[])) g):Calls Tryz.prog mK #[.pointer (some a),.string d] w R:=aP X [] h
end wire_Writer_Text
namespace wire_Writer_Done
noncomputable abbrev X:Fx:=⟨Tryz.prog,Tryz.f63,[],[]⟩
theorem ok (a:Addr) (w:World) (R:aD) (h:∃b:Sl,w.cell? (a.add 0)=some (b.v)/\
 Xo ik #[b.v] w λc d=>R (.returned (c.v)) d):Calls Tryz.prog kc #[.pointer (some a)] w R:=aP X [] h
end wire_Writer_Done
namespace term_write
noncomputable abbrev X:Fx:=⟨Tryz.prog,Tryz.f62,[],[]⟩
theorem ok (a b:Addr) (w:World) (R:aD) (h:∃m:Int,w.cell? (b.add 0)=some (.i m)/\
 xN dR #[.pointer (some a),.i m] w λn=>∃c:Sl,n.cell? (b.add 1)=some (c.v)/\
 xN ke #[.pointer (some a),c.v] n λo=>∃d:Int,o.cell? (b.add 2)=some (.i d)/\
 xN dR #[.pointer (some a),.i d] o λp=>∃e:Int,p.cell? (b.add 3)=some (.i e)/\
 xN dR #[.pointer (some a),.i e] p λq=>∃f:Int,q.cell? (b.add 4)=some (.u f)/\
 xN gL #[.pointer (some a),.u f] q λr=>∃g:ByteArray,r.cell? (b.add 5)=some (.string g)/\
 xN mK #[.pointer (some a),.string g] r λs=>∃j:Int,s.cell? ((b.add 6).add 0)=some (.i j)/\
 xN dR #[.pointer (some a),.i j] s λt=>∃k:Int,t.cell? ((b.add 6).add 1)=some (.i k)/\
 xN dR #[.pointer (some a),.i k] t λx=>∃l:Int,x.cell? ((b.add 6).add 2)=some (.i l)/\
 xN dR #[.pointer (some a),.i l] x λy=>R (.returned (.tuple #[])) y):Calls Tryz.prog o4 #[.pointer (some a),.pointer (some b)] w R:=aP X [] h
end term_write
namespace term_keyOf
noncomputable abbrev X:Fx:=⟨Tryz.prog,Tryz.f95,[],[]⟩
theorem ok (b:Addr) (w:World) (R:aD) (h:eV w (.cells #[.slice none 0 0] gn) λe=>
 xN o4 #[.pointer (some (nb w)),.pointer (some b)] e λf=>Xo kc #[.pointer (some (nb w))] f λd a=>∃c:ByteArray,Sem.run Tryz.prog (Go.convert bJ cF (d.v)) a=.ok (.string c) a/\R (.returned (.string c)) a):Calls Tryz.prog o3 #[.pointer (some b)] w R:=aP X [] h
end term_keyOf
namespace term_builder_sortOf_1
noncomputable abbrev X:Fx:=⟨Tryz.prog,Tryz.f94,[],[3,5]⟩
theorem cT (d:ByteArray) (l:Addr) (w:World) (R:aD) (h:bH [] w λk f=>
 ∃m:Option Addr,f.cell? l=some (.pointer m)/\
 aX m λj=>∃g:Option Nat,f.cell? (j.add 2)=some (.map g)/\
 ∃a:Int,∃b:Int,∃c:Int,∃e:Bool,Sem.run Tryz.prog (Instr.lookup kj (.map g) (.string d) true) f=.ok (.tuple #[.agg #[.i a,.i b,.i c],.bool e]) f/\bH [k] f λn o=>
 loc [k,n] o λp=>R (.returned (.tuple #[.agg #[.i a,.i b,.i c],.bool e])) p):Calls Tryz.prog gY #[.string d,.pointer (some l)] w R:=aP X [] h
end term_builder_sortOf_1
namespace term_builder_sortOf
noncomputable abbrev X:Fx:=⟨Tryz.prog,Tryz.f55,[(1,ls [0,1,2,3,4,5,6,7,8,9,10])],[3,4]⟩
theorem cT (t:Addr) (d:Int) (e:Sl) (f g j:Int) (k:ByteArray) (l m n:Int) (w:World) (R:aD) (h:eV w (.cells #[.pointer (some t)] vP) λz=>
 bH [] z λo w2=>
 bH [o] w2 λq w3=>
 loc [o,q] w3 λs=>∃x:Option Addr,s.cell? (nb w)=some (.pointer x)/\
 aX x λr=>∃y:Sl,s.cell? (r.add 0)=some (y.v)/\
 gU [o,q] oc #[y.v,.agg #[.i d,e.v,.i f,.i g,.u j,.string k,.i l,.i m,.i n],.func (.func gY) #[] #[.pointer (some (nb w))]] s λa b c p w5=>loc [o,q] w5 λw8=>R (.returned (.tuple #[.agg #[.i a,.i b,.i c],.i p])) w8):Calls Tryz.prog kI #[.pointer (some t),.agg #[.i d,e.v,.i f,.i g,.u j,.string k,.i l,.i m,.i n]] w R:=aP X [] h
end term_builder_sortOf
namespace term_builder_find
noncomputable abbrev X:Fx:=⟨Tryz.prog,Tryz.f56,[(1,ls [0,1,2,3,4,5,6,7,8,9,10])],[]⟩
theorem ok (p:Addr) (c:Int) (d:Sl) (e f g:Int) (j:ByteArray) (k l m:Int) (w:World) (R:aD) (h:eV w (.cells #[.i c,d.v,.i e,.i f,.u g,.string j,.i k,.i l,.i m] aE) λs=>
 tZ s λr=>∃n:Option Nat,r.cell? (p.add 1)=some (.map n)/\
 Ln o3 #[.pointer (some (nb w))] r λq o=>o.cell? (p.add 1)=some (.map n)/\∃a:Int,∃b:Bool,Sem.run Tryz.prog (Instr.lookup nI (.map n) (.string q) true) o=.ok (.tuple #[.i a,.bool b]) o/\R (.returned (.tuple #[.i a,.bool b])) o):Calls Tryz.prog lZ #[.pointer (some p),.agg #[.i c,d.v,.i e,.i f,.u g,.string j,.i k,.i l,.i m]] w R:=aP X [] h
end term_builder_find
namespace term_builder_put
noncomputable abbrev X:Fx:=⟨Tryz.prog,Tryz.f57,[(1,ls [0,1,2,3,5,6,7,8,9,4,10]),(3,ls [0,1,2,3,4,5,6,7,8]),(4,ls [0,1,2,3,4,5,6,7,8,9,10])],[]⟩
abbrev P0:Ps:=[(0,.v [.r]),(3,.v [.r])]
abbrev S0 (b x:Addr) (w:World) (R:aD):Prop:=
 tZ w λo=>∃a:Sl,o.cell? (b.add 0)=some (a.v)/\
 tG o x λc d e f g j k l m=>eV o (.cells #[.i c,d.v,.i e,.i f,.u g,.string j,.i k,.i l,.i m] aE) λr=>
 r.cell? (b.add 0)=some (a.v)/\∃(p:Sl) (s:World),Sem.run Tryz.prog (Builtin.append_ #[aG,aG] aG #[a.v,.slice (some (nb o)) 1 1]) r=.ok (p.v) s/\bR s (b.add 0) (p.v) λt=>
 ∃q:Sl,t.cell? (b.add 0)=some (q.v)/\
 R (.returned (.i (IntKind.wrap .i64 (((q.n:Nat):Int) - 1)))) t
noncomputable def eT:=bK X [] (bG [3]) P0 S0
theorem ok (a:Addr) (b:Int) (c:Sl) (d e f:Int) (g:ByteArray) (j k l:Int) (w:World) (R:aD) (h:eV w (.cells #[.i b,c.v,.i d,.i e,.u f,.string g,.i j,.i k,.i l] aE) λw1=>
 tZ w1 λw2=>∃z:Option Nat,w2.cell? (a.add 1)=some (.map z)/\
 ∃m:Sl,w2.cell? (a.add 0)=some (m.v)/\
 Ln o3 #[.pointer (some (nb w))] w2 λt9 w3=>w3.cell? (a.add 0)=some (m.v)/\w3.cell? (a.add 1)=some (.map z)/\∃(r:World),Sem.run Tryz.prog (Instr.mapUpdate nI (.map z) (.string t9) (.i ((m.n:Nat):Int))) w3=.ok () r/\∃t:Int,r.cell? ((nb w).add 0)=some (.i t)/\
 aH (t==0) (tZ r λs=>∃x:Option Nat,s.cell? (a.add 2)=some (.map x)/\
 ∃y:ByteArray,s.cell? ((nb w).add 5)=some (.string y)/\
 dD s ((nb w).add 6) λo p q=>∃(w6:World),Sem.run Tryz.prog (Instr.mapUpdate kj (.map x) (.string y) (.agg #[.i o,.i p,.i q])) s=.ok () w6/\S0 a (nb w) w6 R) (S0 a (nb w) r R)):Calls Tryz.prog j9 #[.pointer (some a),.agg #[.i b,c.v,.i d,.i e,.u f,.string g,.i j,.i k,.i l]] w R:=aP X [eT] h
end term_builder_put
namespace term_newBuilder
noncomputable abbrev X:Fx:=⟨Tryz.prog,Tryz.f54,[],[1,5]⟩
abbrev P0:Ps:=[(3,.v [.r]),(11,.v [.s]),(12,.v [.I]),(13,.v [.I])]
def dY (d:Addr) (a:Sl) (b c:Int) (w:World) (R:aD):Prop:=cG P0 0 (X.Sem (bG [0,1,1,1,2])) d a b c w R
noncomputable def eK:=fZ X (bG [0,1,1,1,2]) P0 dY
theorem aY:∀(e:Addr) (c:Sl) (d b:Int) (w:World) (R:aD) (h:aH (decide (b<d)) ((0:Int)<=b/\b<((c.n:Nat):Int)/\aX c.a λf=>tG w (f.add (Int.toNat b *9)) λg j k l m o p q r=>bH [] w λs y=>
 loc [s] y λt=>mX [s] j9 #[.pointer (some e),.agg #[.i g,j.v,.i k,.i l,.u m,.string o,.i p,.i q,.i r]] t λz x=>dY e c d (IntKind.wrap .i64 (b+1)) x R) (R (.returned (.pointer (some e))) w)),dY e c d b w R:=mp (dA (X:=X) [eK] (bG [0,1,1,1,2]) P0)
theorem cT (a:Sl) (w:World) (R:aD) (h:bH [] w λf b=>
 eV b (.map #[] 0) λc=>
 eV c (.map #[] 0) λd=>
 eV d (.cells #[.slice none 0 0,.map (some b.heap.size),.map (some c.heap.size)] g9) λe=>
 dY (nb d) a ((a.n:Nat):Int) 0 e R):Calls Tryz.prog ny #[.agg #[a.v]] w R:=aP X [eK] h
end term_newBuilder
namespace term_Valid
noncomputable abbrev X:Fx:=⟨Tryz.prog,Tryz.f24,[],[1,5,6]⟩
abbrev P0:Ps:=[(3,.v [.p]),(17,.v [.s]),(18,.v [.I]),(19,.v [.I])]
def dY (d:Option Addr) (a:Sl) (b c:Int) (w:World) (R:aD):Prop:=cG P0 0 (X.Sem (bG [0,1,1,1,3])) d a b c w R
noncomputable def eK:=fZ X (bG [0,1,1,1,3]) P0 dY
theorem aY:∀(y:Option Addr) (q:Sl) (aa e:Int) (w:World) (R:aD) (h:aH (decide (e<aa)) ((0:Int)<=e/\e<((q.n:Nat):Int)/\aX q.a λac=>tG w (ac.add (Int.toNat e *9)) λf g j k l m b c d=>bH [] w λo w3=>
 loc [o] w3 λaf=>gU [o] kI #[.pointer y,.agg #[.i f,g.v,.i j,.i k,.u l,.string m,.i b,.i c,.i d]] af λs t x r ag=>bH [o] ag λz ab=>
 aH (r !=0) (loc [o,z] ab λp=>R (.returned (.i r)) p) (aH (!((s==b)&&((t==c)&&((x==d)&&true)))) (loc [o,z] ab λp=>R (.returned (.i 9)) p) (loc [o,z] ab λp=>cf6 [o,z] lZ #[.pointer y,.agg #[.i f,g.v,.i j,.i k,.u l,.string m,.i b,.i c,.i d]] p λai ad ae=>aH ad (R (.returned (.i 8)) ae) (mX [o,z] j9 #[.pointer y,.agg #[.i f,g.v,.i j,.i k,.u l,.string m,.i b,.i c,.i d]] ae λak ah=>dY y q aa (IntKind.wrap .i64 (e+1)) ah R)))) (R (.returned (.i 0)) w)),dY y q aa e w R:=mp (dA (X:=X) [eK] (bG [0,1,1,1,3]) P0)
theorem cT (a:Sl) (w:World) (R:aD) (h:bH [] w λd c=>
 aH (decide (((a.n:Nat):Int)>4096)) (R (.returned (.i 4)) c) (Xp [d] ny #[.agg #[.slice none 0 0]] c λb e=>dY b a ((a.n:Nat):Int) 0 e R)):Calls Tryz.prog nv #[.agg #[a.v]] w R:=aP X [eK] h
end term_Valid
namespace term_Encode
noncomputable abbrev X:Fx:=⟨Tryz.prog,Tryz.f30,[],[1]⟩
abbrev P0:Ps:=[(1,.l [.s] gS),(5,.v [.r]),(18,.v [.I]),(19,.v [.I])]
def dY (e:Nat) (a:Sl) (d:Addr) (b c:Int) (w:World) (R:aD):Prop:=cG P0 0 (X.Sem (bG [0,1,1,1,4])) e a d b c w R
noncomputable def eK:=fZ X (bG [0,1,1,1,4]) P0 dY
theorem aY:∀(f:Nat) (c:Sl) (d:Addr) (e b:Int) (w:World) (R:aD) (h:aH (decide (b<e)) ((0:Int)<=b/\b<((c.n:Nat):Int)/\aX c.a λg=>NO [f] o4 #[.pointer (some d),.pointer (some (g.add (Int.toNat b *9)))] w λk=>dY f c d e (IntKind.wrap .i64 (b+1)) k R) (QN [f] kc #[.pointer (some d)] w λj l=>R (.returned (.tuple #[j.v,.i 0])) l)),dY f c d e b w R:=mp (dA (X:=X) [eK] (bG [0,1,1,1,4]) P0)
theorem cT (a:Sl) (w:World) (R:aD) (h:bH [] w λc e=>
 mX [c] nv #[.agg #[a.v]] e λd b=>aH (d !=0) (R (.returned (.tuple #[.slice none 0 0,.i d])) b) (eV b (.cells #[.slice none 0 0] gn) λf=>
 NO [c] dR #[.pointer (some (nb b)),.i ((a.n:Nat):Int)] f λg=>dY c a (nb b) ((a.n:Nat):Int) 0 g R)):Calls Tryz.prog oa #[.agg #[a.v]] w R:=aP X [eK] h
end term_Encode
namespace term_Hash
noncomputable abbrev X:Fx:=⟨Tryz.prog,Tryz.f31,[],[1]⟩
theorem cT (a:Sl) (w:World) (R:aD) (h:bH [] w λd g=>
 YD [d] oa #[.agg #[a.v]] g λb c f=>aH (c !=0) (R (.returned (.u 0)) f) (YE [d] Cj #[.string (ByteArray.mk #[103,114,97,112,104]),b.v] f λe i=>R (.returned (.u e)) i)):Calls Tryz.prog sN #[.agg #[a.v]] w R:=aP X [] h
end term_Hash
namespace enthymemelaw07_TermValid
noncomputable abbrev X:Fx:=⟨Tryz.prog,Tryz.f7,[(5,ls [1,2,3,5,6,7,8,0,4,9,10]),(6,(.sq [1,3,4,5,6] (.fork (.sq [0] (.fork (ls [2,7,8,9]) (ls [7,2,8,9]))) (ls [7,0,2,8,9]))))],[]⟩
abbrev P0:Ps:=[(16,.v [.s]),(17,.v [.I])]
def L1 (a:Sl) (b:Int) (w:World) (R:aD):Prop:=cG P0 0 (X.Sem (bG [0,1,1,1,8])) a b w R
noncomputable def km:=fZ X (bG [0,1,1,1,8]) P0 L1
abbrev P1:Ps:=[]
abbrev S2 (w:World) (R:aD):Prop:=
 R (.returned (.bool false)) w
noncomputable def fU:=bK X [km] (bG [0,1,3,2,1,2,1,1,8]) P1 S2
abbrev S3 (a:Sl) (b:Int) (w:World) (R:aD):Prop:=
 L1 a (IntKind.wrap .i64 (b+1)) w R
noncomputable def iH:=bK X [fU,km] (bG [2,2,1,1,8]) P0 S3
theorem lE:∀(b:Sl) (c:Int) (w:World) (R:aD) (h:aH (decide (c<5)) ((0:Int)<=c/\c<((b.n:Nat):Int)/\aX b.a λk=>∃p:Sl,w.cell? (k.add (Int.toNat c *1))=some (p.v)/\
 zZ jY #[p.v] w λg y=>(0:Int)<=c/\c<((b.n:Nat):Int)/\aX b.a λl=>∃q:Sl,y.cell? (l.add (Int.toNat c *1))=some (q.v)/\
 Yx oa #[.agg #[q.v]] y λad m z=>(0:Int)<=c/\c<((b.n:Nat):Int)/\aX b.a λo=>∃r:Sl,z.cell? (o.add (Int.toNat c *1))=some (r.v)/\
 zZ nv #[.agg #[r.v]] z λx j=>aH (x !=g) (S2 j R) (aH (m !=g) (S2 j R) (aH (g !=0) ((0:Int)<=c/\c<((b.n:Nat):Int)/\aX b.a λd=>∃e:Sl,j.cell? (d.add (Int.toNat c *1))=some (e.v)/\
 Yy sN #[.agg #[e.v]] j λs w5=>aH (s !=0) (S2 w5 R) (S3 b c w5 R)) (S3 b c j R)))) (∃(f:Sl) (w6:World),Sem.run Tryz.prog (Instr.makeSlice aG (.i 4097) (.i 4097)) w=.ok (f.v) w6/\zZ nv #[.agg #[f.v]] w6 λt w7=>aH (t==4) (zY jU #[] w7 λu w8=>R (.returned (.bool u)) w8) (R (.returned (.bool false)) w7))),L1 b c w R:=mp (dA (X:=X) [iH,fU,km] (bG [0,1,1,1,8]) P0)
abbrev P2:Ps:=[(11,.v [.s]),(13,.v [.s]),(14,.v [.s]),(15,.v [.s])]
abbrev S0 (d c b a:Sl) (w:World) (R:aD):Prop:=
 eV w (.cells #[d.v,c.v,b.v,a.v,.slice none 0 0] aG) λe=>
 L1 ⟨some (nb w),5,5⟩ 0 e R
noncomputable def eT:=bK X [iH,fU,km] (bG [7]) P2 S0
theorem ok (l0:Sl) (aa bc ae bd:Int) (w:World) (R:aD) (h:zZ aT #[.i aa,.i 3] w λbt w1=>Xo kE #[l0.v,.i bt,.i 12] w1 λb w2=>zZ aT #[.i bc,.i ((b.n:Nat):Int)] w2 λd w3=>eV w3 (.cells #[] aE) λw4=>
 ∃(q:Sl) (w5:World),Sem.run Tryz.prog (Builtin.append_ #[aG,aG] aG #[.slice (some (nb w3)) 0 0,b.v]) w4=.ok (q.v) w5/\(0:Int)<=d/\d<((b.n:Nat):Int)/\aX b.a λaf=>tG w5 (af.add (Int.toNat d *9)) λag ah ai aj ak al am an ao=>Vp jy #[.agg #[.i ag,ah.v,.i ai,.i aj,.u ak,.string al,.i am,.i an,.i ao],.i ae,.i bd] w5 λap aq ar au av aw ax ay az w6=>(0:Int)<=d/\d<((q.n:Nat):Int)/\aX q.a λbb=>Ui w6 (bb.add (Int.toNat d *9)) (.i ap) (aq.v) (.i ar) (.i au) (.u av) (.string aw) (.i ax) (.i ay) (.i az) λbu=>tZ bu λbh=>(0:Int)<=d/\d<=((b.c:Nat):Int)/\(0:Int)<=(IntKind.wrap .i64 (d+1))/\(IntKind.wrap .i64 (d+1))<=((b.n:Nat):Int)/\eV bh (.cells #[] aE) λbv=>
 ∃(be:Sl) (bi:World),Sem.run Tryz.prog (Builtin.append_ #[aG,aG] aG #[.slice (some (nb bh)) 0 0,.slice (if b.c=0 then b.a else b.a.map (·.add (0 *9))) ((Int.toNat d) - 0) (b.c - 0)]) bv=.ok (be.v) bi/\∃(ab:Sl) (bj:World),Sem.run Tryz.prog (Builtin.append_ #[aG,aG] aG #[be.v,.slice (if b.c=(Int.toNat (IntKind.wrap .i64 (d+1))) then b.a else b.a.map (·.add ((Int.toNat (IntKind.wrap .i64 (d+1))) *9))) (b.n - (Int.toNat (IntKind.wrap .i64 (d+1)))) (b.c - (Int.toNat (IntKind.wrap .i64 (d+1))))]) bi=.ok (ab.v) bj/\tZ bj λr=>(0:Int)<=d/\d<((b.n:Nat):Int)/\aX b.a λs=>tG r (s.add (Int.toNat d *9)) λe f g j k l m o p=>((eV r (.cells #[] aE) λac=>
 Tu ac (s.add (Int.toNat d *9)) (.i e) (f.v) (.i g) (.i j) (.u k) (.string l) (.i m) (.i o) (.i p) λ_=>((∃(bf:Sl) (ad:World),Sem.run Tryz.prog (Builtin.append_ #[aG,aG] aG #[.slice (some (nb r)) 0 0,b.v]) ac=.ok (bf.v) ad/\Tu ad (s.add (Int.toNat d *9)) (.i e) (f.v) (.i g) (.i j) (.u k) (.string l) (.i m) (.i o) (.i p) λ_=>eV ad (.cells #[.i e,f.v,.i g,.i j,.u k,.string l,.i m,.i o,.i p] aE) λbw=>
 ∃(bg:Sl) (bk:World),Sem.run Tryz.prog (Builtin.append_ #[aG,aG] aG #[bf.v,.slice (some (nb ad)) 1 1]) bw=.ok (bg.v) bk/\S0 b q ab bg bk R)/\(eV ac (.cells #[.i e,f.v,.i g,.i j,.u k,.string l,.i m,.i o,.i p] aE) λbx=>
 ∃(t:Sl) (bm:World),Sem.run Tryz.prog (Builtin.append_ #[aG,aG] aG #[.slice (some (nb r)) 0 0,b.v]) bx=.ok (t.v) bm/\∃(y:Sl) (bn:World),Sem.run Tryz.prog (Builtin.append_ #[aG,aG] aG #[t.v,.slice (some (nb ac)) 1 1]) bm=.ok (y.v) bn/\S0 b q ab y bn R)))/\(eV r (.cells #[.i e,f.v,.i g,.i j,.u k,.string l,.i m,.i o,.i p] aE) λbo=>
 eV bo (.cells #[] aE) λbz=>
 ∃(x:Sl) (bp:World),Sem.run Tryz.prog (Builtin.append_ #[aG,aG] aG #[.slice (some (nb bo)) 0 0,b.v]) bz=.ok (x.v) bp/\∃(z:Sl) (bq:World),Sem.run Tryz.prog (Builtin.append_ #[aG,aG] aG #[x.v,.slice (some (nb r)) 1 1]) bp=.ok (z.v) bq/\S0 b q ab z bq R))):Calls Tryz.prog kY #[l0.v,.i aa,.i bc,.i ae,.i bd] w R:=aP X [eT,iH,fU,km] h
end enthymemelaw07_TermValid
end Go.Proofs.YtcifihepfadgfaaGreatDoor
