import Derived.Test.YthkcmmldhceegaaGreatDoorU
import Derived.Test.YthkcmmldhceegaaGreatDoorG9
import Derived.Laws.StandIn
import Derived.Lib.Bytealg
import Derived.Test.YthkcmmldhceegaaGreatDoorKT
set_option linter.unusedVariables false
set_option maxRecDepth 100000
set_option maxHeartbeats 2000000
set_option linter.defProp false
namespace Go.Proofs.YthkcmmldhceegaaGreatDoor
open Go renaming World->C,Calls->ah,Value->ab,Ending->cQ,FuncId->bW,LoopState->j0
open Go.IntKind renaming wrap->ad
open _root_.Int renaming toNat->ae,toNat_natCast->bT
open _root_.ByteArray renaming mk->av
open Go.IntWalk renaming i64_in->bf
open Go.Builtin renaming append_->bg
open Go.Sem renaming run->a'
open _root_.Nat renaming le_trans->bB,zero_le->fj
open _root_.UInt8 renaming ofNat->dP
open _root_.Option.some renaming inj->fV
open Go.Proofs.Tryz renaming prog->V
open _root_.Decidable renaming decide->af
open Go.Ending renaming returned->U
open List renaming mem_append->a6,mem_cons->ay,not_mem_nil->aW,mem_of_getElem?->aE,getElem?_eq_getElem->a9,getElem?_eq_some_iff->dh,mem_append_left->bS,mem_append_right->ef,mem_flatMap->cj,flatMap_append->ea,flatMap_cons->dT,mem_iff_getElem?->g5,nodup_append->gT,map_append->kX,getElem?_set_self->kp
open Go Go.W
namespace KM
noncomputable abbrev X:Fx:=⟨V,Tryz.f182,[],[]⟩
def ok(a:Int)(w:C)(R:aa)(h:Y (af (a>=97)) (R (U (.bool (af (a<=122)))) w) (R (U (.bool false)) w)):ah V r6 #[.int .u8 a] w R:=aM X [] h
end KM
namespace KI
noncomputable abbrev X:Fx:=⟨V,Tryz.f197,[],[]⟩
def ok(a:Int)(w:C)(R:aa)(h:Y (af (a>=32)) (Y (af (a<=126)) (Y (a !=39) (R (U (.bool (a !=92))) w) (R (U (.bool false)) w)) (R (U (.bool false)) w)) (R (U (.bool false)) w)):ah V xX #[.int .u8 a] w R:=aM X [] h
end KI
namespace yB
noncomputable abbrev X:Fx:=⟨V,Tryz.f183,[(4,ls [0,1,2,3,5,6,7,8,4,9,10,11])],[]⟩
abbrev P0:Ps:=[]
abbrev S1(w:C)(R:aa):Prop:=
 R (U (.tuple #[.int .u8 0,.i 0,.bool false])) w
noncomputable def aX:=aC X [] (ai [3]) P0 S1
abbrev P1:Ps:=[(0,.v [.st]),(1,.v [.I])]
abbrev S0(f:ByteArray)(a:Int)(w:C)(R:aa):Prop:=
 Y (af ((ad .i64 (a+3))<((f.size:Nat):Int))) ((0:Int)<=a/\∃b:UInt8,f[ae a]? =some b/\Y (((b.toNat:Nat):Int)==92) ((0:Int)<=(ad .i64 (a+1))/\∃d:UInt8,f[ae (ad .i64 (a+1))]? =some d/\Y (((d.toNat:Nat):Int)==120) (dM w λl=>(0:Int)<=(ad .i64 (a+2))/\∃e:UInt8,f[ae (ad .i64 (a+2))]? =some e/\(0:Int)<=(ad .i64 (a+3))/\∃h:UInt8,f[ae (ad .i64 (a+3))]? =some h/\en uS #[.string (av #[48,49,50,51,52,53,54,55,56,57,97,98,99,100,101,102]),.int .u8 ((e.toNat:Nat):Int)] l λg m=>en uS #[.string (av #[48,49,50,51,52,53,54,55,56,57,97,98,99,100,101,102]),.int .u8 ((h.toNat:Nat):Int)] m λj c=>Y (af (g>=0)) (Y (af (j>=0)) (R (U (.tuple #[.int .u8 (ad .u8 (tu .i64 (ad .i64 (g *2^(4))) j)),.i 4,.bool true])) c) (S1 c R)) (S1 c R)) (S1 w R)) (S1 w R)) (S1 w R)
noncomputable def aT:=aC X [aX] (ai [2]) P1 S0
def ok(b:ByteArray)(a:Int)(w:C)(R:aa)(h:Y (af ((ad .i64 (a+2))<((b.size:Nat):Int))) ((0:Int)<=a/\∃c:UInt8,b[ae a]? =some c/\Y (((c.toNat:Nat):Int)==39) ((0:Int)<=(ad .i64 (a+1))/\∃d:UInt8,b[ae (ad .i64 (a+1))]? =some d/\gL xX #[.int .u8 ((d.toNat:Nat):Int)] w λj g=>Y j ((0:Int)<=(ad .i64 (a+2))/\∃e:UInt8,b[ae (ad .i64 (a+2))]? =some e/\Y (((e.toNat:Nat):Int)==39) ((0:Int)<=(ad .i64 (a+1))/\∃f:UInt8,b[ae (ad .i64 (a+1))]? =some f/\R (U (.tuple #[.int .u8 ((f.toNat:Nat):Int),.i 3,.bool true])) g) (S0 b a g R)) (S0 b a g R)) (S0 b a w R)) (S0 b a w R)):ah V uK #[.string b,.i a] w R:=aM X [aT,aX] h
end yB
namespace sy
noncomputable abbrev X:Fx:=⟨V,Tryz.f156,[],[4]⟩
abbrev P0:Ps:=[(0,.v [.st]),(1,.v [.I]),(4,.l [.Y,.Y,.Y,.st,.I] mJ),(7,.v [.I])]
def bO(i:ByteArray)(f:Int)(j:Nat)(a b c:Int)(d:ByteArray)(e g:Int)(w:C)(R:aa):Prop:=bz P0 0 (X.Sem (ai [0,2,1,1,3,2,2])) i f j a b c d e g w R
noncomputable def bx:=bK X (ai [0,2,1,1,3,2,2]) P0 bO
abbrev aY(c:ByteArray)(a:Int)(d:Nat)(e f g:Int)(j:ByteArray)(k b:Int)(w:C)(R:aa):Prop:=
 (0:Int)<=b/\b<=((c.size:Nat):Int)/\(0:Int)<=a/\a<=(((ae b):Nat):Int)/\loc [d] w λl=>R (U (.tuple #[.agg #[.int .u8 119,.int .u8 0,.int .u8 0,.string (c.extract (ae a) (ae b)),.i a],.i (ad .i64 (b - a))])) l
noncomputable def a1:=aC X [bx] (ai [2,1,3,2,2]) P0 aY
def eh:∀(i:ByteArray) (k:Int) (j:Nat) (a b c:Int) (d:ByteArray) (e f:Int) (w:C) (R:aa) (h:Y (af (f<((i.size:Nat):Int))) ((0:Int)<=f/\∃g:UInt8,i[ae f]? =some g/\bP [j] r6 #[.int .u8 ((g.toNat:Nat):Int)] w λl m=>Y l (bO i k j a b c d e (ad .i64 (f+1)) m R) (aY i k j a b c d e f m R)) (aY i k j a b c d e f w R)),bO i k j a b c d e f w R:=mp (bL (X:=X) [a1,bx] (ai [0,2,1,1,3,2,2]) P0)
abbrev P1:Ps:=[(1,.v [.I]),(4,.l [.Y,.Y,.Y,.st,.I] mJ)]
abbrev cq(a:Int)(b:Nat)(c d e:Int)(f:ByteArray)(g:Int)(w:C)(R:aa):Prop:=
 loc [b] w λh=>R (U (.tuple #[.agg #[.int .u8 63,.int .u8 0,.int .u8 0,.s0,.i a],.i 1])) h
noncomputable def bq:=aC X [a1,bx] (ai [3]) P1 cq
abbrev P2:Ps:=[(0,.v [.st]),(1,.v [.I]),(4,.l [.Y,.Y,.Y,.st,.I] mJ),(8,.v [.Y]),(10,.v [.b]),(11,.v [.I]),(12,.v [.Y])]
abbrev eC(o:ByteArray)(j:Int)(l:Nat)(a b c:Int)(d:ByteArray)(e m:Int)(n:Bool)(g k:Int)(w:C)(R:aa):Prop:=
 Y (!n) (cq j l a b c d e w R) (Y (af (g>=((o.size:Nat):Int))) (cq j l a b c d e w R) ((0:Int)<=g/\∃f:UInt8,o[ae g]? =some f/\Y (((f.toNat:Nat):Int) !=93) (cq j l a b c d e w R) (Y (af (m>k)) (cq j l a b c d e w R) (loc [l] w λp=>R (U (.tuple #[.agg #[.int .u8 114,.int .u8 m,.int .u8 k,.s0,.i j],.i (ad .i64 ((ad .i64 (g+1)) - j))])) p))))
noncomputable def cw:=aC X [bq,a1,bx] (ai [5,1,5,2,2]) P2 eC
abbrev P3:Ps:=[(0,.v [.st]),(1,.v [.I]),(4,.l [.Y,.Y,.Y,.st,.I] mJ),(8,.v [.Y]),(10,.v [.b]),(11,.v [.I])]
abbrev be(l:ByteArray)(k:Int)(j:Nat)(a b c:Int)(d:ByteArray)(e n:Int)(p:Bool)(f:Int)(w:C)(R:aa):Prop:=
 Y (!p) (cq k j a b c d e w R) (Y (af (f>=((l.size:Nat):Int))) (cq k j a b c d e w R) ((0:Int)<=f/\∃g:UInt8,l[ae f]? =some g/\Y (((g.toNat:Nat):Int) !=45) (cq k j a b c d e w R) (Az [j] uK #[.string l,.i (ad .i64 (f+1))] w λm h o r=>eC l k j a b c d e n o (ad .i64 (f+(ad .i64 (1+h)))) m r R)))
noncomputable def a7:=aC X [cw,bq,a1,bx] (ai [2,1,5,2,2]) P3 be
abbrev P4:Ps:=[(0,.v [.st]),(1,.v [.I]),(4,.l [.Y,.Y,.Y,.st,.I] mJ),(6,.v [.Y])]
abbrev aS(l:ByteArray)(a:Int)(b:Nat)(c d e:Int)(f:ByteArray)(g k:Int)(w:C)(R:aa):Prop:=
 bG [b] uS #[.string (av #[40,41,44,124,38,33,42]),.int .u8 k] w λt v=>Y (af (t>=0)) (loc [b] v λx=>R (U (.tuple #[.agg #[.int .u8 k,.int .u8 0,.int .u8 0,.s0,.i a],.i 1])) x) (bP [b] r6 #[.int .u8 k] v λq s=>Y q (bO l a b c d e f g a s R) (Y (k==91) (Az [b] uK #[.string l,.i (ad .i64 (a+1))] s λo p n y=>be l a b c d e f g o n (ad .i64 ((ad .i64 (a+1))+p)) y R) (Az [b] uK #[.string l,.i a] s λh m j r=>Y j (loc [b] r λu=>R (U (.tuple #[.agg #[.int .u8 114,.int .u8 h,.int .u8 h,.s0,.i a],.i m])) u) (cq a b c d e f g r R))))
noncomputable def aT:=aC X [a7,cw,bq,a1,bx] (ai [2]) P4 aS
def aB(c:ByteArray)(b:Int)(w:C)(R:aa)(h:aP [] w λd e=>
 (0:Int)<=b/\∃a:UInt8,c[ae b]? =some a/\aS c b d 0 0 0 (av #[]) 0 ((a.toNat:Nat):Int) e R):ah V CR #[.string c,.i b] w R:=aM X [aT,a7,cw,bq,a1,bx] h
end sy
namespace yD
noncomputable def C0:Code:=(Tryz.f155.body).getD .skip
noncomputable def C1:=C0.fs
noncomputable def C2:=C1.sn
noncomputable def C3:=C2.fs
noncomputable def C4:=C3.fs
noncomputable def C5:=C0.sn
abbrev Q0(R:aa):hF:=(Exit.then (fB V (cx 39) C5 (bodyPost V Tryz.f155 R)) (bodyPost V Tryz.f155 R))
abbrev Q1(R:aa):hF:=(Exit.inBlock 0 (Q0 R))
def L0(a:Nat)(c:Addr)(b:Int)(w:C)(R:aa):Prop:=LP V (cx 39) C4 (Q1 R) [(0,.func (.yield a) #[] #[]),(1,.pointer (some c)),(3,.i b)] w
def nQ(E:Env)(w:C)(R:aa):Prop:=W.z7 (Env.get? E 0) λa=>W.cy (Env.get? E 1) λc=>W.asInt .i64 (Env.get? E 3) λb=>L0 a c b w R
def q1:zN V 39 nQ C4 Q1:=by intro w u z d;obtain⟨A,k,e⟩:=W.NO d;obtain⟨y,n,h⟩:=W.cI e;obtain⟨x,q,j⟩:=W.gK h;intro a c;exact j a (c.cons k (c.cons n (c.cons q c.nil)))
noncomputable def C6:=C4.fs
noncomputable def C7:=C4.sn
noncomputable def C8:=C7.fs
noncomputable def C9:=C8.fs
noncomputable def k7:=C9.sn
noncomputable def jy:=k7.fs
noncomputable def l1:=C8.sn
noncomputable def mN:=l1.sn
noncomputable def mO:=mN.fs
noncomputable def jz:=mN.sn
noncomputable def jA:=C6.sn
noncomputable def l2:=jA.fs
noncomputable def l3:=jy.sn
noncomputable def l4:=k7.sn
noncomputable def j1:=mO.sn
noncomputable def kB:=j1.fs
noncomputable def nO:=j1.sn
noncomputable def j2:=jA.sn
def cf(d:Nat)(g:Addr)(f:Int)(w:C)(R:aa)(h:∃z:ByteArray,w.cell? g=some (.string z)/\
 Y (af (f<((z.size:Nat):Int))) (∃B:ByteArray,w.cell? g=some (.string B)/\
 (0:Int)<=f/\∃y:UInt8,B[ae f]? =some y/\Y (((y.toNat:Nat):Int)==32) (L0 d g (ad .i64 (f+1)) w R) (∃q:ByteArray,w.cell? g=some (.string q)/\
 Ph CR #[.string q,.i f] w λF l m o p G k=>aK k (.cells #[.int .u8 0,.int .u8 0,.int .u8 0,.s0,.i 0] mJ) λI=>
 LK I (nb k) (.int .u8 F) (.int .u8 l) (.int .u8 m) (.string o) (.i p) λA=>IT A (nb k) λr s t H K=>s4 V d #[.agg #[.int .u8 r,.int .u8 s,.int .u8 t,.string H,.i K]] A λ(D:Bool) j=>Y (!D) (R (U (.tuple #[])) j) (∃u:Int,j.cell? ((nb k).add 0)=some (.int .u8 u)/\
 Y (u==63) (R (U (.tuple #[])) j) (L0 d g (ad .i64 (f+G)) j R)))) (∃x:ByteArray,w.cell? g=some (.string x)/\
 s4 V d #[.agg #[.int .u8 36,.int .u8 0,.int .u8 0,.s0,.i ((x.size:Nat):Int)]] w λ(L:Bool) J=>R (U (.tuple #[])) J)):L0 d g f w R:=
 LP.step (n:=(cx 39)) (c:=C4) (E:=[(0,.func (.yield d) #[] #[]),(1,.pointer (some g)),(3,.i f)]) (w:=w) (sq C4 (sr C6 (show(λ(E:Env) (w:C)=>dJ V C6 (λE w=>gy (Env.val E (.tmp 9)) (dJ V C9 (λE w=>gy (Env.val E (.tmp 13)) (dJ V jy (λE w=>nQ E w R) E w) (dJ V l1 (λE w=>dJ V mO (λE w=>gy (Env.val E (.tmp 30)) (kq V Tryz.f155 E w (λv=>R (U v) w)) (nD V jz (λE w=>nQ E w R) E w)) E w) E w)) E w) (nD V C5 (λE w=>kq V Tryz.f155 E w (λv=>R (U v) w)) E w)) E w) [(0,.func (.yield d) #[] #[]),(1,.pointer (some g)),(3,.i f)] w from mp h) λ_ _ b=>(cn jA b (λb=>(sk l2 λa e=>nx e (bk C7 1 (by kernel_rfl) (sq C8 (sr C9 b λ_ _ b=>(cn k7 b (λb=>(sr jy b λ_ _ b=>(xt l3 1 (by kernel_rfl) λa e=>q1 R _ _ b a e))) (λb=>(sk l4 λa e=>nx e (sr l1 b λ_ _ b=>(sq mN (sr mO b λ_ _ b=>(cn j1 b (λb=>(rt kB λa e=>vh e b)) (λb=>(sk nO λa e=>nx e (rg jz (by kernel_rfl) b λ_ _ a e b=>q1 R _ _ b a e))))))))))))))) (λb=>(xt j2 0 (by kernel_rfl) λa e=>nx e (rg C5 (by kernel_rfl) b λ_ _ a e b=>vh e b))))))
def ok(a:Nat)(b:Addr)(w:C)(R:aa)(h:L0 a b 0 w R):ah V oz #[.func (.yield a) #[] #[],.pointer (some b)] w R:=
 tD (R:=R) (fn:=Tryz.f155) (c:=C0) (args:=[.func (.yield a) #[] #[],.pointer (some b)]) (by kernel_rfl) (by kernel_rfl) (by kernel_rfl) (sq C0 (sr C1 (show(λ(E:Env) (w:C)=>dJ V C1 (λE w=>nQ E w R) E w) (ke 0 [.func (.yield a) #[] #[],.pointer (some b)]) w from mp h) λ_ _ d=>(bk C2 0 (by kernel_rfl) (lp C3 (by kernel_rfl) (q1 R _ _ d)))))
end yD
namespace KO
noncomputable abbrev X:Fx:=⟨V,Tryz.f142,[],[]⟩
def ok(a:ByteArray)(w:C)(R:aa)(h:aK w (.cells #[.string a] da) λb=>
 R (U (.func (.func oz) #[] #[.pointer (some (nb w))])) b):ah V Jq #[.string a] w R:=aM X [] h
end KO
namespace KH
noncomputable abbrev X:Fx:=⟨V,Tryz.f163,[],[4]⟩
def aB(c:Int)(b:J)(w:C)(R:aa)(h:aP [] w λl d=>
 Y (((b.n:Nat):Int)==1) (aw b 0 λk=>bH d (k.add (ae 0 *4)) λe j f g=>loc [l] d λm=>R (U (.agg #[.i e,.int .u8 j,.int .u8 f,g.v])) m) (loc [l] d λo=>R (U (.agg #[.i c,.int .u8 0,.int .u8 0,b.v])) o)):ah V np #[.i c,b.v] w R:=aM X [] h
end KH
namespace vc
noncomputable abbrev X:Fx:=⟨V,Tryz.f162,[(4,(.sq [0,1,2,3,4,5,6,7,8,10,11] (.fork (ls [9,12]) (ls [12,9]))))],[2]⟩
abbrev P0:Ps:=[(0,.v [.r]),(2,.l [.I,.Y,.Y,.s] aV)]
def aH(e:Addr)(f:Nat)(a b c:Int)(d:J)(w:C)(R:aa):Prop:=bz P0 0 (X.Sem (ai [0,2,1])) e f a b c d w R
noncomputable def az:=bK X (ai [0,2,1]) P0 aH
def bD:∀(f:Addr) (d:Nat) (g j k:Int) (l:J) (w:C) (R:aa) (h:∃B:Int,w.cell? (f.add 5)=some (.i B)/\
 Y (af (B>0)) (aK w (.cells #[.i g,.int .u8 j,.int .u8 k,l.v] aV) λH=>
 loc [d] H λo=>∃D:Int,o.cell? (f.add 5)=some (.i D)/\
 ao o (f.add 5) (.i (ad .i64 (D - 1))) λE=>kept [d] o E/\
 aH f d 6 0 0 ⟨some (nb w),1,1⟩ E R) (loc [d] w λp=>∃c:J,p.cell? (f.add 4)=some (c.v)/\
 aK p (.cells #[.i 0,.int .u8 0,.int .u8 0,.slice none 0 0] aV) λu=>
 u.cell? (f.add 4)=some (c.v)/\∃(m:J) (e:C),a' V (bg #[cE,cE] cE #[c.v,.slice (some (nb p)) 1 1]) u=.ok (m.v) e/\kept [d] u e/\aw m ((c.n:Nat):Int) λb=>((ao e (b.add (ae ((c.n:Nat):Int) *4)) (.i g) λr=>kept [d] e r/\
 ao r ((b.add (ae ((c.n:Nat):Int) *4)).add 1) (.int .u8 j) λs=>kept [d] r s/\
 ao s ((b.add (ae ((c.n:Nat):Int) *4)).add 2) (.int .u8 k) λt=>kept [d] s t/\
 ao t ((b.add (ae ((c.n:Nat):Int) *4)).add 3) (l.v) λx=>kept [d] t x/\
 ao x (f.add 4) (m.v) λF=>kept [d] x F/\
 R (U (.tuple #[])) F)/\(ao e (f.add 4) (m.v) λy=>kept [d] e y/\
 ao y (b.add (ae ((c.n:Nat):Int) *4)) (.i g) λz=>kept [d] y z/\
 ao z ((b.add (ae ((c.n:Nat):Int) *4)).add 1) (.int .u8 j) λA=>kept [d] z A/\
 ao A ((b.add (ae ((c.n:Nat):Int) *4)).add 2) (.int .u8 k) λq=>kept [d] A q/\
 ao q ((b.add (ae ((c.n:Nat):Int) *4)).add 3) (l.v) λG=>kept [d] q G/\
 R (U (.tuple #[])) G)))),aH f d g j k l w R:=mp (bL (X:=X) [az] (ai [0,2,1]) P0)
def aB(a:Addr)(w:C)(R:aa)(h:bH w (a.add 6) λb c d e=>aP [] w λf g=>
 loc [f] g λi=>aH a f b c d e i R):ah V xV #[.pointer (some a)] w R:=aM X [az] h
end vc
namespace KF
noncomputable abbrev X:Fx:=⟨V,Tryz.f160,[(1,(.sq [0,1,2,3,4,5,6,7,9] (.fork (.sq [8,10,11,12,14,15] (.fork (ls [13,16]) (ls [16,13]))) (.sq [10,8,11,12,14,15] (.fork (ls [13,16]) (ls [16,13]))))))],[]⟩
abbrev P0:Ps:=[(0,.v [.r])]
abbrev S0(a:Addr)(w:C)(R:aa):Prop:=
 ao w (a.add 4) (.slice none 0 0) λb=>
 R (U (.tuple #[])) b
noncomputable def aT:=aC X [] (ai [2]) P0 S0
def ok(d:Addr)(w:C)(R:aa)(h:e0 xV #[.pointer (some d)] w λS=>dM S λj=>∃c:J,j.cell? (d.add 3)=some (c.v)/\
 ∃o:J,j.cell? (d.add 4)=some (o.v)/\
 ((ll np #[.i 3,o.v] j λp z r s q=>q.cell? (d.add 3)=some (c.v)/\aK q (.cells #[.i 0,.int .u8 0,.int .u8 0,.slice none 0 0] aV) λA=>
 A.cell? (d.add 3)=some (c.v)/\∃(m:J) (k:C),a' V (bg #[cE,cE] cE #[c.v,.slice (some (nb q)) 1 1]) A=.ok (m.v) k/\aw m ((c.n:Nat):Int) λf=>((g8 k (f.add (ae ((c.n:Nat):Int) *4)) (.i p) (.int .u8 z) (.int .u8 r) (s.v) λT=>ao T (d.add 3) (m.v) λD=>
 S0 d D R)/\(ao k (d.add 3) (m.v) λE=>
 ao E (f.add (ae ((c.n:Nat):Int) *4)) (.i p) λF=>
 ao F ((f.add (ae ((c.n:Nat):Int) *4)).add 1) (.int .u8 z) λG=>
 ao G ((f.add (ae ((c.n:Nat):Int) *4)).add 2) (.int .u8 r) λH=>
 ao H ((f.add (ae ((c.n:Nat):Int) *4)).add 3) (s.v) λI=>
 S0 d I R)))/\(aK j (.cells #[.i 0,.int .u8 0,.int .u8 0,.slice none 0 0] aV) λt=>
 t.cell? (d.add 4)=some (o.v)/\t.cell? (d.add 3)=some (c.v)/\ll np #[.i 3,o.v] t λg x y l B=>B.cell? (d.add 3)=some (c.v)/\∃(e:J) (u:C),a' V (bg #[cE,cE] cE #[c.v,.slice (some (nb j)) 1 1]) B=.ok (e.v) u/\aw e ((c.n:Nat):Int) λb=>((g8 u (b.add (ae ((c.n:Nat):Int) *4)) (.i g) (.int .u8 x) (.int .u8 y) (l.v) λK=>ao K (d.add 3) (e.v) λL=>
 S0 d L R)/\(ao u (d.add 3) (e.v) λM=>
 ao M (b.add (ae ((c.n:Nat):Int) *4)) (.i g) λN=>
 ao N ((b.add (ae ((c.n:Nat):Int) *4)).add 1) (.int .u8 x) λO=>
 ao O ((b.add (ae ((c.n:Nat):Int) *4)).add 2) (.int .u8 y) λP=>
 ao P ((b.add (ae ((c.n:Nat):Int) *4)).add 3) (l.v) λQ=>
 S0 d Q R))))):ah V xW #[.pointer (some d)] w R:=aM X [aT] h
end KF
namespace KD
noncomputable abbrev X:Fx:=⟨V,Tryz.f161,[(1,(.sq [0,1,2,3,4,5,6,7,9] (.fork (.sq [8,10,11,12,14,15] (.fork (ls [13,16]) (ls [16,13]))) (.sq [10,8,11,12,14,15] (.fork (ls [13,16]) (ls [16,13]))))))],[]⟩
abbrev P0:Ps:=[(0,.v [.r])]
abbrev S0(a:Addr)(w:C)(R:aa):Prop:=
 ao w (a.add 3) (.slice none 0 0) λb=>
 R (U (.tuple #[])) b
noncomputable def aT:=aC X [] (ai [2]) P0 S0
def ok(d:Addr)(w:C)(R:aa)(h:e0 xW #[.pointer (some d)] w λS=>dM S λj=>∃c:J,j.cell? (d.add 2)=some (c.v)/\
 ∃o:J,j.cell? (d.add 3)=some (o.v)/\
 ((ll np #[.i 5,o.v] j λp z r s q=>q.cell? (d.add 2)=some (c.v)/\aK q (.cells #[.i 0,.int .u8 0,.int .u8 0,.slice none 0 0] aV) λA=>
 A.cell? (d.add 2)=some (c.v)/\∃(m:J) (k:C),a' V (bg #[cE,cE] cE #[c.v,.slice (some (nb q)) 1 1]) A=.ok (m.v) k/\aw m ((c.n:Nat):Int) λf=>((g8 k (f.add (ae ((c.n:Nat):Int) *4)) (.i p) (.int .u8 z) (.int .u8 r) (s.v) λT=>ao T (d.add 2) (m.v) λD=>
 S0 d D R)/\(ao k (d.add 2) (m.v) λE=>
 ao E (f.add (ae ((c.n:Nat):Int) *4)) (.i p) λF=>
 ao F ((f.add (ae ((c.n:Nat):Int) *4)).add 1) (.int .u8 z) λG=>
 ao G ((f.add (ae ((c.n:Nat):Int) *4)).add 2) (.int .u8 r) λH=>
 ao H ((f.add (ae ((c.n:Nat):Int) *4)).add 3) (s.v) λI=>
 S0 d I R)))/\(aK j (.cells #[.i 0,.int .u8 0,.int .u8 0,.slice none 0 0] aV) λt=>
 t.cell? (d.add 3)=some (o.v)/\t.cell? (d.add 2)=some (c.v)/\ll np #[.i 5,o.v] t λg x y l B=>B.cell? (d.add 2)=some (c.v)/\∃(e:J) (u:C),a' V (bg #[cE,cE] cE #[c.v,.slice (some (nb j)) 1 1]) B=.ok (e.v) u/\aw e ((c.n:Nat):Int) λb=>((g8 u (b.add (ae ((c.n:Nat):Int) *4)) (.i g) (.int .u8 x) (.int .u8 y) (l.v) λK=>ao K (d.add 2) (e.v) λL=>
 S0 d L R)/\(ao u (d.add 2) (e.v) λM=>
 ao M (b.add (ae ((c.n:Nat):Int) *4)) (.i g) λN=>
 ao N ((b.add (ae ((c.n:Nat):Int) *4)).add 1) (.int .u8 x) λO=>
 ao O ((b.add (ae ((c.n:Nat):Int) *4)).add 2) (.int .u8 y) λP=>
 ao P ((b.add (ae ((c.n:Nat):Int) *4)).add 3) (l.v) λQ=>
 S0 d Q R))))):ah V xU #[.pointer (some d)] w R:=aM X [aT] h
end KD
namespace KE
noncomputable abbrev X:Fx:=⟨V,Tryz.f145,[],[2,3]⟩
def aB(b:Addr)(w:C)(R:aa)(h:aP [] w λa o=>
 fY [a] xU #[.pointer (some b)] o λl=>∃c:J,l.cell? (b.add 2)=some (c.v)/\
 eT [a] np #[.i 4,c.v] l λe j k f p=>aP [a] p λg q=>
 loc [a,g] q λm=>ao m (b.add 2) (.slice none 0 0) λd=>kept [a,g] m d/\
 loc [a,g] d λn=>R (U (.agg #[.i e,.int .u8 j,.int .u8 k,f.v])) n):ah V r4 #[.pointer (some b)] w R:=aM X [] h
end KE
namespace DY
noncomputable abbrev X:Fx:=⟨V,Tryz.f144,[(1,ls [0,1,2,3,4,5,6,7,8,9,10,11])],[]⟩
def ok(d:Addr)(w:C)(R:aa)(h:dM w λf=>∃c:J,f.cell? (d.add 0)=some (c.v)/\
 ∃b:J,f.cell? (d.add 0)=some (b.v)/\
 (0:Int)<=(ad .i64 (((b.n:Nat):Int) - 1))/\(ad .i64 (((b.n:Nat):Int) - 1))<((c.n:Nat):Int)/\cd c.a λe=>R (U (.pointer (some (e.add (ae (ad .i64 (((b.n:Nat):Int) - 1)) *10))))) f):ah V oy #[.pointer (some d)] w R:=aM X [] h
end DY
namespace KL
noncomputable abbrev X:Fx:=⟨V,Tryz.f157,[],[]⟩
def ok(c:Addr)(b a:Int)(w:C)(R:aa)(h:∃d:J,w.cell? (c.add 0)=some (d.v)/\
 aK w (.cells #[.i b,.slice none 0 0,.slice none 0 0,.slice none 0 0,.slice none 0 0,.i 0,.i 0,.int .u8 0,.int .u8 0,.slice none 0 0] hB) λg=>
 ∃(e:J) (f:C),a' V (bg #[y5,y5] y5 #[d.v,.slice (some (nb w)) 1 1]) g=.ok (e.v) f/\ao f (c.add 0) (e.v) λj=>
 ao j (c.add 1) (.i a) λk=>
 R (U (.bool true)) k):ah V xZ #[.pointer (some c),.i b,.i a] w R:=aM X [] h
end KL
namespace KJ
noncomputable abbrev X:Fx:=⟨V,Tryz.f184,[(1,ls [0,2,1,3,4,5])],[3]⟩
def aB(g:Addr)(c d e:Int)(f:J)(w:C)(R:aa)(h:aP [] w λb q=>
 loc [b] q λr=>wC [b] oy #[.pointer (some g)] r λp n=>cd p λa=>ao n (a.add 6) (.i c) λj=>kept [b] n j/\
 ao j ((a.add 6).add 1) (.int .u8 d) λk=>kept [b] j k/\
 ao k ((a.add 6).add 2) (.int .u8 e) λl=>kept [b] k l/\
 ao l ((a.add 6).add 3) (f.v) λm=>kept [b] l m/\
 ao m (g.add 1) (.i 3) λo=>kept [b] m o/\
 R (U (.bool true)) o):ah V ox #[.pointer (some g),.agg #[.i c,.int .u8 d,.int .u8 e,f.v]] w R:=aM X [] h
end KJ
namespace KK
noncomputable abbrev X:Fx:=⟨V,Tryz.f158,[(2,ls [0,1,2,3,4,5,6,7,8,9,10,11,12,13,14])],[]⟩
def ok(e:Addr)(b:J)(w:C)(R:aa)(h:GB oy #[.pointer (some e)] w λx k=>cd x λp=>∃g:Int,k.cell? (p.add 0)=some (.i g)/\
 dM k λj=>∃d:J,j.cell? (e.add 0)=some (d.v)/\
 ∃f:J,j.cell? (e.add 0)=some (f.v)/\
 (0:Int)<=(ad .i64 (((f.n:Nat):Int) - 1))/\(ad .i64 (((f.n:Nat):Int) - 1))<=((d.c:Nat):Int)/\ao j (e.add 0) (.slice (if d.c=0 then d.a else d.a.map (·.add (0 *10))) ((ae (ad .i64 (((f.n:Nat):Int) - 1))) - 0) (d.c - 0)) λr=>
 Y (af (g<0)) (aw b 0 λq=>bH r (q.add (ae 0 *4)) λu l m o=>gL ox #[.pointer (some e),.agg #[.i u,.int .u8 l,.int .u8 m,o.v]] r λs y=>R (U (.bool s)) y) (gL ox #[.pointer (some e),.agg #[.i g,.int .u8 0,.int .u8 0,b.v]] r λt z=>R (U (.bool t)) z)):ah V uQ #[.pointer (some e),b.v] w R:=aM X [] h
end KK
namespace DX
noncomputable abbrev X:Fx:=⟨V,Tryz.f159,[],[3]⟩
abbrev P0:Ps:=[]
abbrev aS(w:C)(R:aa):Prop:=
 R (U (.bool true)) w
noncomputable def aT:=aC X [] (ai [2,1,7,1,1,1,1]) P0 aS
def aB(c:Addr)(d g j:Int)(a:ByteArray)(r:Int)(w:C)(R:aa)(h:aP [] w λb f=>
 Y (d==33) (wC [b] oy #[.pointer (some c)] f λm s=>cd m λu=>∃k:Int,s.cell? (u.add 5)=some (.i k)/\
 cd m λl=>ao s (l.add 5) (.i (ad .i64 (k+1))) λt=>kept [b] s t/\
 ao t (c.add 1) (.i 0) λq=>kept [b] t q/\
 R (U (.bool true)) q) (Y (d==40) (bP [b] xZ #[.pointer (some c),.i (-1),.i 0] f λx y=>R (U (.bool x)) y) (Y (d==114) (bP [b] ox #[.pointer (some c),.agg #[.i 2,.int .u8 g,.int .u8 j,.slice none 0 0]] f λv z=>R (U (.bool v)) z) (Y (d==119) (ao f (c.add 1) (.i 2) λe=>kept [b] f e/\
 Y (a.toList==(av #[110,111,110,101]).toList) (bP [b] ox #[.pointer (some c),.agg #[.i 0,.int .u8 0,.int .u8 0,.slice none 0 0]] e λD A=>R (U (.bool D)) A) (Y (a.toList==(av #[101,109,112,116,121]).toList) (bP [b] ox #[.pointer (some c),.agg #[.i 1,.int .u8 0,.int .u8 0,.slice none 0 0]] e λE B=>R (U (.bool E)) B) (Y (a.toList==(av #[97,108,116]).toList) (ao e (c.add 2) (.i 4) λo=>kept [b] e o/\
 aS o R) (Y (a.toList==(av #[97,108,108]).toList) (ao e (c.add 2) (.i 5) λp=>kept [b] e p/\
 aS p R) (Y (a.toList==(av #[99,97,116]).toList) (ao e (c.add 2) (.i 3) λn=>kept [b] e n/\
 aS n R) (R (U (.bool false)) e)))))) (R (U (.bool false)) f))))):ah V r5 #[.pointer (some c),.agg #[.int .u8 d,.int .u8 g,.int .u8 j,.string a,.i r]] w R:=aM X [aT] h
end DX
namespace ve
noncomputable abbrev X:Fx:=⟨V,Tryz.f143,[(25,(.sq [0,1,2,3,4,6] (.fork (.sq [5,7,8,9,11,12] (.fork (ls [10,13]) (ls [13,10]))) (.sq [7,5,8,9,11,12] (.fork (ls [10,13]) (ls [13,10])))))),(28,ls [0,1,2,3,4,5,6,7,8,9,10,11,12,13,14,15,16,17,18])],[3]⟩
abbrev P0:Ps:=[]
abbrev aS(w:C)(R:aa):Prop:=
 R (U (.bool true)) w
noncomputable def aT:=aC X [] (ai [4]) P0 aS
abbrev P1:Ps:=[(0,.v [.r])]
abbrev aZ(a:Addr)(w:C)(R:aa):Prop:=
 ao w (a.add 1) (.i 0) λb=>
 aS b R
noncomputable def aX:=aC X [aT] (ai [2,1,7,1,1,1,3]) P1 aZ
def aB(j:Addr)(e q u:Int)(z:ByteArray)(A:Int)(w:C)(R:aa)(h:aP [] w λb w1=>
 wC [b] oy #[.pointer (some j)] w1 λm g=>∃D:Int,g.cell? (j.add 1)=some (.i D)/\
 Y (D==2) (Y (e==40) (∃cb:Int,g.cell? (j.add 2)=some (.i cb)/\
 bP [b] xZ #[.pointer (some j),.i cb,.i 1] g λcr w3=>R (U (.bool cr)) w3) (R (U (.bool false)) g)) (Y (D==1) (Y (e==41) (bP [b] uQ #[.pointer (some j),.slice none 0 0] g λcs w4=>R (U (.bool cs)) w4) (bP [b] r5 #[.pointer (some j),.agg #[.int .u8 e,.int .u8 q,.int .u8 u,.string z,.i A]] g λct w5=>R (U (.bool ct)) w5)) (Y (D==0) (bP [b] r5 #[.pointer (some j),.agg #[.int .u8 e,.int .u8 q,.int .u8 u,.string z,.i A]] g λcu w6=>R (U (.bool cu)) w6) (Y (e==42) (cd m λbu=>bH g (bu.add 6) λbv bw bx bz=>aK g (.cells #[.i bv,.int .u8 bw,.int .u8 bx,bz.v] aV) λw7=>
 cd m λo=>ao w7 (o.add 6) (.i 7) λw8=>kept [b] w7 w8/\
 ao w8 ((o.add 6).add 1) (.int .u8 0) λw9=>kept [b] w8 w9/\
 ao w9 ((o.add 6).add 2) (.int .u8 0) λH=>kept [b] w9 H/\
 ao H ((o.add 6).add 3) (.slice (some (nb g)) 1 1) λce=>kept [b] H ce/\
 aS ce R) (Y (e==38) (fY [b] xW #[.pointer m] g λcf=>ao cf (j.add 1) (.i 0) λcg=>kept [b] cf cg/\
 aS cg R) (Y (e==124) (fY [b] xU #[.pointer m] g λch=>ao ch (j.add 1) (.i 0) λci=>kept [b] ch ci/\
 aS ci R) (Y (e==44) (cd m λca=>∃cc:Int,g.cell? (ca.add 0)=some (.i cc)/\
 Y (af (cc<0)) (R (U (.bool false)) g) (cd m λl=>loc [b] g λE=>∃c:J,E.cell? (l.add 1)=some (c.v)/\
 ((eT [b] r4 #[.pointer m] E λag aA ai aj I=>I.cell? (l.add 1)=some (c.v)/\aK I (.cells #[.i 0,.int .u8 0,.int .u8 0,.slice none 0 0] aV) λK=>
 K.cell? (l.add 1)=some (c.v)/\∃(B:J) (x:C),a' V (bg #[cE,cE] cE #[c.v,.slice (some (nb I)) 1 1]) K=.ok (B.v) x/\kept [b] K x/\aw B ((c.n:Nat):Int) λf=>cd m λak=>((ao x (f.add (ae ((c.n:Nat):Int) *4)) (.i ag) λL=>kept [b] x L/\
 ao L ((f.add (ae ((c.n:Nat):Int) *4)).add 1) (.int .u8 aA) λM=>kept [b] L M/\
 ao M ((f.add (ae ((c.n:Nat):Int) *4)).add 2) (.int .u8 ai) λN=>kept [b] M N/\
 ao N ((f.add (ae ((c.n:Nat):Int) *4)).add 3) (aj.v) λO=>kept [b] N O/\
 ao O (ak.add 1) (B.v) λcj=>kept [b] O cj/\
 aZ j cj R)/\(ao x (ak.add 1) (B.v) λP=>kept [b] x P/\
 ao P (f.add (ae ((c.n:Nat):Int) *4)) (.i ag) λQ=>kept [b] P Q/\
 ao Q ((f.add (ae ((c.n:Nat):Int) *4)).add 1) (.int .u8 aA) λS=>kept [b] Q S/\
 ao S ((f.add (ae ((c.n:Nat):Int) *4)).add 2) (.int .u8 ai) λT=>kept [b] S T/\
 ao T ((f.add (ae ((c.n:Nat):Int) *4)).add 3) (aj.v) λck=>kept [b] T ck/\
 aZ j ck R)))/\(aK E (.cells #[.i 0,.int .u8 0,.int .u8 0,.slice none 0 0] aV) λcl=>
 cl.cell? (l.add 1)=some (c.v)/\eT [b] r4 #[.pointer m] cl λaD r s t W=>W.cell? (l.add 1)=some (c.v)/\∃(k:J) (y:C),a' V (bg #[cE,cE] cE #[c.v,.slice (some (nb E)) 1 1]) W=.ok (k.v) y/\kept [b] W y/\aw k ((c.n:Nat):Int) λd=>cd m λaE=>((ao y (d.add (ae ((c.n:Nat):Int) *4)) (.i aD) λZ=>kept [b] y Z/\
 ao Z ((d.add (ae ((c.n:Nat):Int) *4)).add 1) (.int .u8 r) λbj=>kept [b] Z bj/\
 ao bj ((d.add (ae ((c.n:Nat):Int) *4)).add 2) (.int .u8 s) λbk=>kept [b] bj bk/\
 ao bk ((d.add (ae ((c.n:Nat):Int) *4)).add 3) (t.v) λbm=>kept [b] bk bm/\
 ao bm (aE.add 1) (k.v) λcm=>kept [b] bm cm/\
 aZ j cm R)/\(ao y (aE.add 1) (k.v) λbn=>kept [b] y bn/\
 ao bn (d.add (ae ((c.n:Nat):Int) *4)) (.i aD) λbo=>kept [b] bn bo/\
 ao bo ((d.add (ae ((c.n:Nat):Int) *4)).add 1) (.int .u8 r) λbp=>kept [b] bo bp/\
 ao bp ((d.add (ae ((c.n:Nat):Int) *4)).add 2) (.int .u8 s) λbq=>kept [b] bp bq/\
 ao bq ((d.add (ae ((c.n:Nat):Int) *4)).add 3) (t.v) λcn=>kept [b] bq cn/\
 aZ j cn R)))))) (Y (e==41) (loc [b] g λF=>∃aC:J,F.cell? (j.add 0)=some (aC.v)/\
 Y (af (((aC.n:Nat):Int)>1)) (cd m λp=>∃G:J,F.cell? (p.add 1)=some (G.v)/\
 eT [b] r4 #[.pointer m] F λan aF ap aq br=>br.cell? (p.add 1)=some (G.v)/\aK br (.cells #[.i an,.int .u8 aF,.int .u8 ap,aq.v] aV) λbs=>
 bs.cell? (p.add 1)=some (G.v)/\∃(ar:J) (bt:C),a' V (bg #[cE,cE] cE #[G.v,.slice (some (nb br)) 1 1]) bs=.ok (ar.v) bt/\kept [b] bs bt/\bP [b] uQ #[.pointer (some j),ar.v] bt λco cw=>R (U (.bool co)) cw) (R (U (.bool false)) F)) (Y (e==36) (∃au:J,g.cell? (j.add 0)=some (au.v)/\
 R (U (.bool (((au.n:Nat):Int)==1))) g) (fY [b] xV #[.pointer m] g λcx=>bP [b] r5 #[.pointer (some j),.agg #[.int .u8 e,.int .u8 q,.int .u8 u,.string z,.i A]] cx λcv cy=>R (U (.bool cv)) cy)))))))))):ah V CQ #[.pointer (some j),.agg #[.int .u8 e,.int .u8 q,.int .u8 u,.string z,.i A]] w R:=aM X [aX,aT] h
end ve
namespace DV
noncomputable def C0:Code:=(Tryz.f134.body).getD .skip
noncomputable def C1:=C0.sn
noncomputable def C2:=C1.sn
noncomputable def C3:=C2.sn
noncomputable def C4:=C3.fs
noncomputable def C5:=C4.sn
noncomputable def C6:=C5.fs
noncomputable def C7:=W.Code.NP C6
noncomputable def C8:=W.Code.NX C6
noncomputable def C9:=C8.fs
noncomputable def k7:=C9.sn
noncomputable def jy:=k7.fs
abbrev Q0(a:Nat)(b:Loop)(R:aa):Exit->Act->C->Prop:=(roundPost V a R)
abbrev Q1(b:Nat)(a:Loop)(R:aa):Exit->Act->C->Prop:=(Exit.inBlock 1 (Q0 b a R))
noncomputable def l1:=jy.fs
noncomputable def mN:=jy.sn
abbrev S3(f:Nat)(b:j0->Option Code->Obj)(g j k c:Addr)(w:C)(R:aa):Prop:=
 dM w λd=>∃a:Int,d.cell? (c.add 4)=some (.i a)/\
 g8 d g (.i 0) (.int .u8 0) (.int .u8 0) (.slice none 0 0) λe=>e.cell? (c.add 4)=some (.i a)/\ao e j (.i a) λl=>
 ao l k (.i 2) λm=>
 kU m f (b .busy none) (b .done (some .ret)) λh=>R (U (.bool false)) h
def ta(a:Nat)(b:j0->Option Code->Obj)(E:Env)(w:C)(R:aa):Prop:=W.cy (Env.get? E 2) λc=>W.cy (Env.get? E 3) λd=>W.cy (Env.get? E 4) λe=>W.cy (Env.get? E 6) λf=>S3 a b c d e f w R
def zK(d:Nat)(b:Loop)(R:aa)(E:Env)(w:C)(h:ta d (lo b) E w R):WP V ⟨32,[],some d⟩ jy (Q1 d b R) E w:=by obtain⟨F,z,j⟩:=W.cI h;obtain⟨G,A,k⟩:=W.cI j;obtain⟨H,B,q⟩:=W.cI k;obtain⟨I,D,u⟩:=W.cI q;exact λa e=>WP.at (n:=⟨32,[],some d⟩) (E:=[(2,.pointer (some F)),(3,.pointer (some G)),(4,.pointer (some H)),(6,.pointer (some I))]) (WP.seq (c:=jy) (x:=l1) (y:=mN) (by kernel_rfl)<|WP.draw (c:=l1) [0,1,2,3,4,5] (λE w=>kU w d ((lo b) .busy none) ((lo b) .done (some .ret)) λi=>R (U (.bool false)) i) (by kernel_rfl) (mp u) λ_ _ a f g=>(WP.ret (c:=mN) (Q:=(Q1 d b R)) (by kernel_rfl) λa f=>(show roundPost V d R .ret a _ from T4 (a:=a) (g).1 (g).2)) a f) (e.cons z (e.cons A (e.cons B (e.cons D e.nil))))
noncomputable def mO:=C9.fs
noncomputable def jz:=k7.sn
abbrev S2(g:Nat)(f:j0->Option Code->Obj)(n o p m k:Addr)(w:C)(R:aa):Prop:=
 IT w k λa b c d e=>gL CQ #[.pointer (some m),.agg #[.int .u8 a,.int .u8 b,.int .u8 c,.string d,.i e]] w λh l=>Y (!h) (S3 g f n o p k l R) (kU l g (f .busy none) (f .ready none) λj=>R (U (.bool true)) j)
def Fi(a:Nat)(b:j0->Option Code->Obj)(E:Env)(w:C)(R:aa):Prop:=W.cy (Env.get? E 2) λd=>W.cy (Env.get? E 3) λe=>W.cy (Env.get? E 4) λf=>W.cy (Env.get? E 5) λc=>W.cy (Env.get? E 6) λg=>S2 a b d e f c g w R
def Ng(d:Nat)(b:Loop)(R:aa)(E:Env)(w:C)(h:Fi d (lo b) E w R):WP V ⟨32,[],some d⟩ C9 (Q1 d b R) E w:=by obtain⟨I,A,j⟩:=W.cI h;obtain⟨J,B,k⟩:=W.cI j;obtain⟨K,D,q⟩:=W.cI k;obtain⟨H,F,u⟩:=W.cI q;obtain⟨L,G,z⟩:=W.cI u;exact λa f=>WP.at (n:=⟨32,[],some d⟩) (E:=[(2,.pointer (some I)),(3,.pointer (some J)),(4,.pointer (some K)),(5,.pointer (some H)),(6,.pointer (some L))]) (WP.seq (c:=C9) (x:=mO) (y:=k7) (by kernel_rfl)<|WP.oL (c:=mO) (λE w=>gy (Env.val E (.tmp 20)) (ta d (lo b) E w R) (kU w d ((lo b) .busy none) ((lo b) .ready none) λi=>R (U (.bool true)) i)) (by kernel_rfl) (mp z) λ_ _ a g e=>(WP.gy (c:=k7) (x:=jy) (y:=jz) (o:=.tmp 20) (by kernel_rfl) (λe=>(zK d b R _ _ e)) (λe=>(WP.skip (c:=jz) (by kernel_rfl) λa g=>T3 (a:=a) (e).1 (e).2)) e) a g) (f.cons A (f.cons B (f.cons D (f.cons F (f.cons G f.nil)))))
abbrev Q2(b:Nat)(a:Loop)(R:aa):Exit->Act->C->Prop:=(zR V 32 b a C8 (roundPost V b R))
abbrev S1(g:Nat)(f:j0->Option Code->Obj)(k l m j:Addr)(a b c:Int)(d:ByteArray)(e:Int)(w:C)(R:aa):Prop:=
 aK w (.cells #[.int .u8 0,.int .u8 0,.int .u8 0,.s0,.i 0] mJ) λh=>
 LK h (nb w) (.int .u8 a) (.int .u8 b) (.int .u8 c) (.string d) (.i e) λo=>kU o g (f .ready none) (f .busy none) λp=>S2 g f k l m j (nb w) p R
def o5(r:Nat)(s:j0->Option Code->Obj)(E:Env)(w:C)(R:aa):Prop:=W.cy (Env.get? E 2) λq=>W.cy (Env.get? E 3) λv=>W.cy (Env.get? E 4) λu=>W.cy (Env.get? E 5) λt=>W.asAgg (Env.get? E 17) λa=>W.nU a λg b=>W.asInt .u8 (some g) λm=>W.nU b λi c=>W.asInt .u8 (some i) λk=>W.nU c λh d=>W.asInt .u8 (some h) λo=>W.nU d λj e=>W.pf (some j) λp=>W.nU e λl f=>W.asInt .i64 (some l) λn=>W.rk f<|S1 r s q v u t m k o p n w R
def zJ(d:Nat)(b:Loop)(R:aa)(E:Env)(w:C)(h:o5 d (lo b) E w R):WP V ⟨32,[],some d⟩ C7 (Q2 d b R) E w:=by obtain⟨t2,O,k⟩:=W.cI h;obtain⟨t3,P,F⟩:=W.cI k;obtain⟨t4,Q,G⟩:=W.cI F;obtain⟨T,S,H⟩:=W.cI G;obtain⟨ae,N,I⟩:=W.NM H;obtain⟨ak,af,rfl,J⟩:=W.rj I;obtain⟨Y,e,K⟩:=W.gK J;obtain rfl:=fV e;obtain⟨al,ag,rfl,L⟩:=W.rj K;obtain⟨Z,e,M⟩:=W.gK L;obtain rfl:=fV e;obtain⟨am,ah,rfl,q⟩:=W.rj M;obtain⟨ab,e,u⟩:=W.gK q;obtain rfl:=fV e;obtain⟨an,ai,rfl,y⟩:=W.rj u;obtain⟨ac,e,z⟩:=W.tq y;obtain rfl:=fV e;obtain⟨ao,aj,rfl,A⟩:=W.rj z;obtain⟨ad,e,B⟩:=W.gK A;obtain rfl:=fV e;obtain⟨rfl,D⟩:=W.z6 B;exact λa j=>WP.at (n:=⟨32,[],some d⟩) (E:=[(2,.pointer (some t2)),(3,.pointer (some t3)),(4,.pointer (some t4)),(5,.pointer (some T)),(17,.agg #[.int .u8 Y,.int .u8 Z,.int .u8 ab,.string ac,.i ad])]) (WP.oL (c:=C7) (λE w=>w.heap[d]? =some (lo b .ready none)/\((λw=>Fi d (lo b) E w R) (w.putObj d (lo b .busy none)))) (by kernel_rfl) (mp D) λ_ _ a g f=>⟨(f).1,(WP.block (c:=C8) (x:=C9) (id:=1) (by kernel_rfl) (Ng d b R _ _ (f).2)) a g⟩) (j.cons O (j.cons P (j.cons Q (j.cons S (j.cons N j.nil)))))
abbrev zm(g:Nat)(i:j0->Option Code->Obj)(n:ByteArray)(k l m j f:Addr)(a b c:Int)(d:ByteArray)(e:Int)(w:C)(R:aa):Prop:=
 S1 g i k l m j a b c d e w R
def Nw(j:Nat)(b:Loop)(l:ByteArray)(m n o k a:Addr)(c d e:Int)(f:ByteArray)(g:Int)(w:C)(R:aa)(h:zm j (lo b) l m n o k a c d e f g w R):WP V ⟨32,[],some j⟩ C7 (zR V 32 j b C8 (roundPost V j R)) (oH [(0,.string l),(2,.pointer (some m)),(3,.pointer (some n)),(4,.pointer (some o)),(5,.pointer (some k)),(16,.func (.func oz) #[] #[.pointer (some a)])] [17] [.agg #[.int .u8 c,.int .u8 d,.int .u8 e,.string f,.i g]]) w:=
 (zJ j b R _ _ (mp h))
noncomputable def jA:=C3.sn
noncomputable def l2:=jA.sn
noncomputable def l3:=l2.fs
noncomputable def l4:=l3.sn
noncomputable def j1:=l4.fs
noncomputable def kB:=l2.sn
abbrev Q3(R:aa):hF:=(Exit.then (fB V (cx 32) kB (bodyPostM Fence.wide 0 V Tryz.f134 R)) (bodyPostM Fence.wide 0 V Tryz.f134 R))
noncomputable def nO:=j1.fs
noncomputable def j2:=j1.sn
abbrev S6(m:Nat)(n:ByteArray)(j k l:Addr)(w:C)(R:aa):Prop:=
 g8 w j (.i 0) (.int .u8 0) (.int .u8 0) (.slice none 0 0) λo=>ao o k (.i ((n.size:Nat):Int)) λp=>
 ao p l (.i 4) λh=>
 kU h m (.deferred (some [])) (.deferred none) λa=>bH a j λb c d e=>∃f:Int,a.cell? k=some (.i f)/\
 ∃g:Int,a.cell? l=some (.i g)/\
 R (U (.tuple #[.agg #[.i b,.int .u8 c,.int .u8 d,e.v],.i f,.i g])) a
def o7(a:Nat)(E:Env)(w:C)(R:aa):Prop:=W.pf (Env.get? E 0) λb=>W.cy (Env.get? E 2) λc=>W.cy (Env.get? E 3) λd=>W.cy (Env.get? E 4) λe=>S6 a b c d e w R
def td(d:Nat)(R:aa)(E:Env)(w:C)(h:o7 d E w R):WP V (marked 32 d) j1 (Q3 R) E w:=by obtain⟨F,z,j⟩:=W.tq h;obtain⟨G,A,k⟩:=W.cI j;obtain⟨H,B,q⟩:=W.cI k;obtain⟨I,D,u⟩:=W.cI q;exact λa b=>WP.at (n:=(marked 32 d)) (E:=[(0,.string F),(2,.pointer (some G)),(3,.pointer (some H)),(4,.pointer (some I))]) (WP.seq (c:=j1) (x:=nO) (y:=j2) (by kernel_rfl)<|WP.oL (c:=nO) (λE w=>D4 V Tryz.f134 E w d R) (by kernel_rfl) (mp u) λ_ _ a e f=>(WP.ret (c:=j2) (by kernel_rfl) λa e=>D5 e f) a e) (b.cons z (b.cons A (b.cons B (b.cons D b.nil))))
abbrev Q4(R:aa):hF:=(bodyPostM Fence.wide 0 V Tryz.f134 R)
noncomputable def qS:=kB.fs
noncomputable def qT:=kB.sn
abbrev S7(k:Nat)(n o p u:Addr)(w:C)(R:aa):Prop:=
 bH w u λa b d e=>g8 w n (.i a) (.int .u8 b) (.int .u8 d) (e.v) λr=>ao r o (.i 0) λs=>
 ao s p (.i 0) λt=>
 kU t k (.deferred (some [])) (.deferred none) λc=>bH c n λf g h j=>∃l:Int,c.cell? o=some (.i l)/\
 ∃m:Int,c.cell? p=some (.i m)/\
 R (U (.tuple #[.agg #[.i f,.int .u8 g,.int .u8 h,j.v],.i l,.i m])) c
def te(a:Nat)(E:Env)(w:C)(R:aa):Prop:=W.cy (Env.get? E 2) λb=>W.cy (Env.get? E 3) λc=>W.cy (Env.get? E 4) λd=>W.cy (Env.get? E 7) λe=>S7 a b c d e w R
def zM(d:Nat)(R:aa)(E:Env)(w:C)(h:te d E w R):WP V (marked 32 d) kB (Q4 R) E w:=by obtain⟨F,z,j⟩:=W.cI h;obtain⟨G,A,k⟩:=W.cI j;obtain⟨H,B,q⟩:=W.cI k;obtain⟨I,D,u⟩:=W.cI q;exact λa b=>WP.at (n:=(marked 32 d)) (E:=[(2,.pointer (some F)),(3,.pointer (some G)),(4,.pointer (some H)),(7,.pointer (some I))]) (WP.seq (c:=kB) (x:=qS) (y:=qT) (by kernel_rfl)<|WP.oL (c:=qS) (λE w=>D4 V Tryz.f134 E w d R) (by kernel_rfl) (mp u) λ_ _ a e f=>(WP.ret (c:=qT) (by kernel_rfl) λa e=>D5 e f) a e) (b.cons z (b.cons A (b.cons B (b.cons D b.nil))))
noncomputable def qU:=l3.fs
noncomputable def qV:=l4.sn
abbrev S5(e:Nat)(n:ByteArray)(f j k m:Addr)(w:C)(R:aa):Prop:=
 bH w m λa b c d=>gL uR #[.agg #[.i a,.int .u8 b,.int .u8 c,d.v]] w λg l=>Y g (S6 e n f j k l R) (S7 e f j k m l R)
def tc(a:Nat)(E:Env)(w:C)(R:aa):Prop:=W.pf (Env.get? E 0) λb=>W.cy (Env.get? E 2) λc=>W.cy (Env.get? E 3) λd=>W.cy (Env.get? E 4) λe=>W.cy (Env.get? E 7) λf=>S5 a b c d e f w R
def zL(b:Nat)(R:aa)(E:Env)(w:C)(h:tc b E w R):WP V (marked 32 b) l3 (Q3 R) E w:=by obtain⟨H,A,j⟩:=W.tq h;obtain⟨I,B,k⟩:=W.cI j;obtain⟨J,D,q⟩:=W.cI k;obtain⟨K,F,u⟩:=W.cI q;obtain⟨L,G,z⟩:=W.cI u;exact λa d=>WP.at (n:=(marked 32 b)) (E:=[(0,.string H),(2,.pointer (some I)),(3,.pointer (some J)),(4,.pointer (some K)),(7,.pointer (some L))]) (WP.seq (c:=l3) (x:=qU) (y:=l4) (by kernel_rfl)<|WP.oL (c:=qU) (λE w=>gy (Env.val E (.tmp 27)) (o7 b E w R) (te b E w R)) (by kernel_rfl) (mp z) λ_ _ a f e=>(WP.gy (c:=l4) (x:=j1) (y:=qV) (o:=.tmp 27) (by kernel_rfl) (λe=>(td b R _ _ e)) (λe=>(WP.skip (c:=qV) (by kernel_rfl) λa f=>(zM b R _ _ e) a f)) e) a f) (d.cons A (d.cons B (d.cons D (d.cons F (d.cons G d.nil)))))
noncomputable def qW:=jA.fs
abbrev S4(g:Nat)(k:ByteArray)(l m n j:Addr)(w:C)(R:aa):Prop:=
 GB oy #[.pointer (some j)] w λf o=>ll r4 #[.pointer f] o λa b d e c=>aK c (.cells #[.i 0,.int .u8 0,.int .u8 0,.slice none 0 0] aV) λp=>
 g8 p (nb c) (.i a) (.int .u8 b) (.int .u8 d) (e.v) λh=>S5 g k l m n (nb c) h R
def nR(a:Nat)(E:Env)(w:C)(R:aa):Prop:=W.pf (Env.get? E 0) λc=>W.cy (Env.get? E 2) λd=>W.cy (Env.get? E 3) λe=>W.cy (Env.get? E 4) λf=>W.cy (Env.get? E 5) λb=>S4 a c d e f b w R
def o6(d:Nat)(R:aa)(E:Env)(w:C)(h:nR d E w R):WP V (marked 32 d) jA (Q4 R) E w:=by obtain⟨I,A,j⟩:=W.tq h;obtain⟨J,B,k⟩:=W.cI j;obtain⟨K,D,q⟩:=W.cI k;obtain⟨L,F,u⟩:=W.cI q;obtain⟨H,G,z⟩:=W.cI u;exact λa b=>WP.at (n:=(marked 32 d)) (E:=[(0,.string I),(2,.pointer (some J)),(3,.pointer (some K)),(4,.pointer (some L)),(5,.pointer (some H))]) (WP.seq (c:=jA) (x:=qW) (y:=l2) (by kernel_rfl)<|WP.oL (c:=qW) (λE w=>tc d E w R) (by kernel_rfl) (mp z) λ_ _ a e f=>(WP.seq (c:=l2) (x:=l3) (y:=kB) (by kernel_rfl) (zL d R _ _ f)) a e) (b.cons A (b.cons B (b.cons D (b.cons F (b.cons G b.nil)))))
abbrev S0(q:ByteArray)(k r s n a:Addr)(w:C)(R:aa):Prop:=
 ∀g:j0->Option Code->Obj,(∀(b c d:Int) (e:ByteArray) (f:Int) (t:C) (u:Bool->C->Prop),t.heap[w.heap.size+1]? =some (g .ready none)->zm (w.heap.size+1) g q k r s n a b c d e f t (λp D=>∃x:Bool,p=U (.bool x)/\u x D)->s4 V (w.heap.size+1) #[.agg #[.int .u8 b,.int .u8 c,.int .u8 d,.string e,.i f]] t u)->
 ah V oz #[.func (.yield (w.heap.size+1)) #[] #[],.pointer (some a)] ((w.alloc (.deferred (some []))).alloc (g .ready none)) λp E=>(∃B,p=U B)/\vZ E (w.heap.size+1) g (λh=>S4 w.heap.size q k r s n h R) (λF h=>False) (λh=>kU h w.heap.size (.deferred (some [])) (.deferred none) λj=>bH j k λl m A o=>∃y:Int,j.cell? r=some (.i y)/\
 ∃z:Int,j.cell? s=some (.i z)/\
 R (U (.tuple #[.agg #[.i l,.int .u8 m,.int .u8 A,o.v],.i y,.i z])) j)
abbrev Q5(R:aa):hF:=(Exit.then (fB V (cx 32) jA (bodyPostM Fence.wide 0 V Tryz.f134 R)) (bodyPostM Fence.wide 0 V Tryz.f134 R))
abbrev Q6(R:aa):hF:=(Exit.inBlock 0 (Q5 R))
def zI(E:Env)(w:C)(R:aa):Prop:=W.pf (Env.get? E 0) λg=>W.cy (Env.get? E 2) λi=>W.cy (Env.get? E 3) λh=>W.cy (Env.get? E 4) λj=>W.cy (Env.get? E 5) λf=>W.wg oz (Env.get? E 16) λc a=>W.rk c<|W.nU a λd b=>W.cy (some d) λe=>W.rk b<|S0 g i h j f e w R
def Nf:o8 V 32 zI C6 Q6:=by
 intro k ak y q;obtain⟨w,Y,J⟩:=W.tq q;obtain⟨e,ab,L⟩:=W.cI J;obtain⟨h,ac,M⟩:=W.cI L;obtain⟨j,ad,N⟩:=W.cI M;obtain⟨u,af,O⟩:=W.cI N;obtain⟨an,al,Z,P⟩:=W.NN O;obtain⟨rfl,Q⟩:=W.z6 P;obtain⟨ao,am,rfl,S⟩:=W.rj Q;obtain⟨x,I,T⟩:=W.cI S;obtain rfl:=fV I;obtain⟨rfl,K⟩:=W.z6 T;exact λa b=>WP.at (n:=(cx 32)) (E:=[(0,.string w),(2,.pointer (some e)),(3,.pointer (some h)),(4,.pointer (some j)),(5,.pointer (some u)),(16,.func (.func oz) #[] #[.pointer (some x)])]) (WP.range (m:=32) (c:=C6) (g:=.tmp 16) (ps:=#[17]) (assign:=C7) (body:=C8) (gf:=oz) (lb:=#[.pointer (some x)]) (λl=>S4 y.heap.size w e h j u l k) (λae l=>False) (λl=>kU l y.heap.size (.deferred (some [])) (.deferred none) λd=>bH d e λs t ag ah=>∃F:Int,d.cell? h=some (.i F)/\
 ∃G:Int,d.cell? j=some (.i G)/\
 k (U (.tuple #[.agg #[.i s,.int .u8 t,.int .u8 ag,ah.v],.i F,.i G])) d) (by kernel_rfl) rfl (by kernel_rfl)
  (λl o a r=>(o6 y.heap.size k _ _ (mp o)) a r)
  (λ_ _ o=>o.elim)
  (λl o a r=>D5 r (mp o))
  (λp H=>K (lo p) (λz A f B D w_ K_ aj ai=>VV (args:=[.agg #[.int .u8 z,.int .u8 A,.int .u8 f,.string B,.i D]]) H aj rfl (by kernel_rfl) (λ_ _ q=>q) (Nw _ p w e h j u x z A f B D w_ _ ai)))) (b.cons Y (b.cons ab (b.cons ac (b.cons ad (b.cons af (b.cons Z b.nil))))))
noncomputable def o0:=C1.fs
noncomputable def o1:=o0.sn
noncomputable def qX:=o1.fs
noncomputable def zn:=qX.sn
noncomputable def zo:=o1.sn
def ok(j:ByteArray)(w:C)(R:aa)(h:aK w (.cells #[.i 0,.int .u8 0,.int .u8 0,.slice none 0 0] aV) λm=>
 aK m (.cells #[.i 0] bp) λd=>
 aK d (.cells #[.i 0] MA) λe=>
 Y (af (((j.size:Nat):Int)>4096)) (g8 e (nb w) (.i 0) (.int .u8 0) (.int .u8 0) (.slice none 0 0) λD=>ao D (nb m) (.i 4096) λF=>
 ao F (nb d) (.i 4) λo=>
 bH o (nb w) λB r s t=>∃k:Int,o.cell? (nb m)=some (.i k)/\
 ∃n:Int,o.cell? (nb d)=some (.i n)/\
 R (U (.tuple #[.agg #[.i B,.int .u8 r,.int .u8 s,t.v],.i k,.i n])) o) (aK e (.cells #[.i (-1),.slice none 0 0,.slice none 0 0,.slice none 0 0,.slice none 0 0,.i 0,.i 0,.int .u8 0,.int .u8 0,.slice none 0 0] hB) λl=>
 aK l (.cells #[.slice none 0 0,.i 0,.i 0] vK) λq=>
 qC q (nb l) (.slice (some (nb e)) 1 1) (.i 0) (.i 0) λu=>O9 Jq #[.string j] u λG x=>W.wg oz (some G) λf y=>W.rk f<|W.nU y λg z=>W.cy (some g) λA=>W.rk z<|S0 j (nb w) (nb m) (nb d) (nb l) A x R)):ah V CK #[.string j] w R:=
 Pl (R:=R) (fn:=Tryz.f134) (c:=C0) (args:=[.string j]) (by kernel_rfl) (by kernel_rfl) (by kernel_rfl) (sr C0 (show(λ(E:Env) (w:C)=>dJ V C0 (λE w=>dJ V o0 (λE w=>gy (Env.val E (.tmp 10)) (dJ V qX (λE w=>kq V Tryz.f134 E w (λv=>R (U v) w)) E w) (dJ V C2 (λE w=>dJ V C4 (λE w=>zI E w R) E w) E w)) E w) E w) (ke 0 [.string j]) w from mp h) λ_ _ b=>(sq C1 (sr o0 b λ_ _ b=>(cn o1 b (λb=>(sr qX b λ_ _ b=>(rt zn λa p=>TY p b))) (λb=>(sk zo λa p=>nx p (sr C2 b λ_ _ b=>(sq C3 (sr C4 b λ_ _ b=>(bk C5 0 (by kernel_rfl) (Nf R _ _ b)))))))))))
end DV
abbrev ed:=J×List ab
def _root_.Go.W.En.rows(e:List ed):En:=⟨jS (e.flatMap λp:ed=>aO p.1),λh=>(∀p∈e,aG h aV 4 p.1 p.2)/\(e.flatMap λp:ed=>aO p.1).Nodup,
 λh g j d=>⟨λp c=>(d.1 p c).cA λb a f=>j b (a4.2 (cj.2 ⟨p,c,a⟩)) f,d.2⟩,
 λh d b a=>by obtain⟨p,c,a⟩:=cj.1 (a4.1 a);exact(d.1 p c).lt b a,oC _⟩
def K2(c:List ed)(d:c≠[])(w:C)(b:Nat)(a:b∈(En.rows c).fp):¬(En.rows c).P ({w with heap:=Array.replicate (b+1) (.map #[] 0)}):=by
 rintro⟨e,_⟩;obtain⟨p,h,a⟩:=cj.1 (a4.1 a);obtain⟨j,f,k⟩:=(e p h).row.sT b a
 grind
section
variable {M:Nat->Prop} {w0 w:C} {L D:List En} {bs:List Nat}
def Ic(H:Z M w0 w L D){i:Nat}{d:List ed}(a:L[i]? =some (.rows d)){b:Nat}(c:En.g b∈L):b∉(En.rows d).fp:=by
 intro h;obtain⟨q,e⟩:=g5.1 c;by_cases j:i=q
 .subst j;rw[a]at e;have k:En.rows d=En.g b:=fV e;have n:d≠[]:=by rintro rfl;simp[En.rows,jS]at h
  refine K2 d n w b h ?_;rw[k];show b<_;simp
 .exact m8 H.nd a e j b h (by simp[En.g])
def Qp{e:List ed}{j:Nat}{s h:J}{vs n:List ab}(a:e[j]? =some (s,vs))(b:(e.flatMap λp:ed=>aO p.1).Nodup)(c:(aO h).Nodup)(d:∀k∈aO h,k∈aO s\/k∉e.flatMap λp:ed=>aO p.1):((e.set j (h,n)).flatMap λp:ed=>aO p.1).Nodup:=
 Dr (f:=λp:ed=>aO p.1) a b c d
def N1(s:J):(aO s).Nodup:=by unfold aO;grind
def xh{α:Type}{l:List α}{j:Nat}{a x:α}(h:x∈l.set j a):x=a\/∃i,i≠j/\l[i]? =some x:=by
 obtain⟨i,c⟩:=g5.1 h
 grind
def K0{d:List ed}(c:(d.flatMap λp:ed=>aO p.1).Nodup):∀{i j:Nat} {p e:ed},d[i]? =some p->d[j]? =some e->i≠j->∀b∈aO p.1,b∉aO e.1:=by
 induction d with
 |nil=>grind
 |cons a l h=>
  rw[dT,gT]at c
  grind
def D'(H:Z M w0 w L D){w':C}(i j:Nat){e:List ed}{s q:J}{vs x:List ab}(m:L[i]? =some (.rows e))(d:e[j]? =some (s,vs))(f:Fr (λb=>b∈aO s) w w')(o:aG w' aV 4 q x)(c:∀b∈aO q,b∈aO s\/w.heap.size<=b):
  Z M w0 w' (L.set i (.rows (e.set j (q,x)))) D:=by
 have h:(En.rows e).P w:=H.get i m;have A:∀b∈aO s,b∈(En.rows e).fp:=λb c=>a4.2 (cj.2 ⟨_,aE d,c⟩);have G:∀b∈e.flatMap (λp:ed=>aO p.1),b<w.heap.size:=λb c=>(En.rows e).lt w h b (a4.2 c);refine H.g' i _ m (f.mono λu _ n=>A u n) ⟨λp a=>?_,Qp d h.2 (N1 _) λu n=>(c u n).imp id λF a=>by grind⟩ λb a=>?_
 .rcases xh a with rfl|⟨B,z,k⟩
  .exact o
  .exact (h.1 p (aE k)).cA λb g E=>f.cA b E λl=>K0 h.2 k d z b g l
 .obtain ⟨p,a,y⟩:=cj.1 (a4.1 a);rcases xh a with rfl|⟨B,_,k⟩
  .grind
  .exact .inl (a4.2 (cj.2 ⟨p,aE k,y⟩))
def _root_.Go.W.Z.wa(H:Z M w0 w L D)(i j:Nat){ty:TypeId}{q:List ed}{s src:J}{vs news:List ab}{K:J->C->Prop}(e:L[i]? =some (.rows q))(f:q[j]? =some (s,vs))(k:bF 4 w src news)(l:∀G∈news,G.oneCell'=true)(o:(s.n+src.n) *40<=140737488355328)(m:∀c h,Z M w0 h (L.set i (.rows (q.set j (c,vs++news)))) D->c.n=s.n+src.n->(c.a=none->s.a=none/\src.n=0)->K c h)(d:∀b∈bs,En.g b∈L:=by simp):
  ∃c h,(bg #[cE,cE] ty #[s.v,src.v]).run V w=.ok c.v h/\kept bs w h/\K c h:=by have F:(En.rows q).P w:=H.get i e;obtain⟨c,h,y,z,A,x,B,E⟩:=we (ty:=ty) pH (F.1 _ (aE f)) k.2.2 k.1 l o;refine⟨c,h,y,λb u=>?_,m c h (D' H i j e f x z B) A E⟩;refine x.cA b (H.own _ (d b u)) λp=>?_;exact Ic H e (d b u) (a4.2 (cj.2 ⟨_,aE f,p⟩))
def _root_.Go.W.Z.yT(H:Z M w0 w L D)(i j a c:Nat){h:List ed}{s:J}{vs:List ab}{v:ab}{p:Addr}{K:C->Prop}(f:L[i]? =some (.rows h))(k:h[j]? =some (s,vs))(r:s.a=some p)(n:a+c<vs.length)(m:∀u,Z M w0 u (L.set i (.rows (h.set j (s,vs.set (a+c) v)))) D->K u)(e:∀b∈bs,En.g b∈L:=by simp):ao w ((p.add a).add c) v λl=>kept bs w l/\K l:=by have y:(En.rows h).P w:=H.get i f;obtain⟨F,q,E,z,A,B,x⟩:=DI (y.1 _ (aE k)) (a+c) n v;rw[r]at q;cases q;rw[add_add];refine⟨z,A,λb d=>?_,m _ (D' H i j f k x B λb d=>.inl d)⟩;exact x.cA b (H.own _ (e b d)) λo=>Ic H f (e b d) (a4.2 (cj.2 ⟨_,aE k,o⟩))
def _root_.Go.W.Z.Br(H:Z M w0 w L D)(i j:Nat){k:List ed}{s:J}{vs:List ab}(f:L[i]? =some (.rows k))(g:k[j]? =some (s,vs)):Z M w0 w (L.set i (.rows (k.set j (⟨none,0,0⟩,[])))) (D++[.bh 4 s vs]):=by
 have y:(En.rows k).P w:=H.get i f;have c:=D' H i j f g (Fr.refl _ _) (aG.nil w aV 4) (λb d=>by simp[aO]at d);have E:∀b∈aO s,b∈(En.rows k).fp:=λb d=>a4.2 (cj.2 ⟨_,aE g,d⟩);have G:i<L.length:=(dh.1 f).1;refine⟨c.fr,c.own,λh a=>?_,c.new,c.nd,λh a b d m l n=>?_⟩
 .rcases a6.1 a with a|a
  .exact c.rd h a
  .simp at a;subst a;exact(y.1 _ (aE g)).bh
 .rcases a6.1 a with a|a
  .exact c.dj h a b d m l n
  .simp at a;subst a;have x:b∈aO s:=gi (e:=aV) d;rcases xh l with rfl|⟨F,q,z⟩
   .obtain ⟨I,B,u⟩:=cj.1 (a4.1 n);rcases xh B with rfl|⟨F,q,A⟩
    .simp [aO]at u
    .exact K0 y.2 A g q b u x
   .exact m8 H.nd f z (λh=>q h.symm) b (E b x) n
end
structure FX where
 k:Int
 ar:J×List Rx
 al:List Rx
 an:List Rx
 ca:List Rx
 n:Nat
 la:Rx
structure FM where
 k:Int
 ar:J×List I
 al:J×List I
 an:J×List I
 ca:J×List I
 n:Nat
 la:I
def FM.x(f:FM):FX:=⟨f.k,(f.ar.1,I.au f.ar.2),I.au f.al.2,I.au f.an.2,I.au f.ca.2,f.n,f.la.rx⟩
def FM.c(f:FM):List ab:=[.int .i64 f.k,f.ar.1.v,f.al.1.v,f.an.1.v,f.ca.1.v,.int .i64 (f.n:Int),.int .i64 f.la.k,.int .u8 (f.la.lo.toNat:Int),.int .u8 (f.la.hi.toNat:Int),f.la.s.v]
def FM.rows(f:FM):List ed:=[(f.ar.1,f.ar.2.flatMap I.c),(f.al.1,f.al.2.flatMap I.c),(f.an.1,f.an.2.flatMap I.c),(f.ca.1,f.ca.2.flatMap I.c)]
def FM.ts(f:FM):List I:=f.ar.2++f.al.2++f.an.2++f.ca.2++[f.la]
def FM.jE(f:FM):f.c.length=10:=rfl
def oa(a:List FM):(a.flatMap FM.c).length=a.length *10:=nc FM.c 10 FM.jE a
abbrev SL(d:Nat)(a:J)(f g:Int)(b:List ab)(e:List ed):List En:=[.c d [a.v,.int .i64 f,.int .i64 g] vK,.row hB 10 a b,.rows e]
def St(w:C)(l:Nat)(o:Addr)(h:List FX)(r:FX)(m n:Int)(i:List Nat)(k:List I):Prop:=
 ∃(j:J) (d:List FM) (f:FM) (p:Addr),d.map FM.x=h/\f.x=r/\(∀g∈d++[f],∀t∈g.ts,t∈k)/\j.a=some p/\o=p.add (d.length *10)/\
  i=(SL l j m n ((d++[f]).flatMap FM.c) ((d++[f]).flatMap FM.rows)).flatMap (·.fp)/\i.Nodup/\(∀e∈SL l j m n ((d++[f]).flatMap FM.c) ((d++[f]).flatMap FM.rows),e.P w)/\I.Ps w k/\∀b∈I.bm k,b∉i
def h5(w:C)(a:List Nat)(c:List I)(g:Nat)(e:Addr)(f:List FX)(j:FX)(i k:Int)(A:List I->Prop)(d:C):Prop:=∃n h,St d g e f j i k n h/\Fr (·∈a) w d/\(∀q∈n,q∈a\/w.heap.size<=q)/\(∀b∈I.bm h,b∈I.bm c\/b∈a\/w.heap.size<=b)/\(∀t∈c,t∈h)/\A h
def h5.then{w q w':C}{own k:List Nat}{ts d:List I}{rb:Nat}{f0:Addr}{lo:List FX}{n:FX}{st u:Int}{A:List I->Prop}(a:Fr (·∈own) w q)(g:∀c∈k,c∈own\/w.heap.size<=c)(j:∀b∈I.bm d,b∈I.bm ts\/b∈own\/w.heap.size<=b)(i:∀t∈ts,t∈d)(h:h5 q k d rb f0 lo n st u A w'):h5 w own ts rb f0 lo n st u A w':=by
 obtain⟨F,J,G,D,E,y,H,x⟩:=h;refine⟨F,J,G,a.trans D λc e B=>(g c B).resolve_right λh=>by omega,λc e=>?_,λb z=>?_,λt f=>H t (i t f),x⟩
 .rcases E c e with h|h
  .grind
  .exact .inr (bB a.size h)
 .rcases y b z with h|h|h
  .grind
  .grind
  .exact .inr (.inr (bB a.size h))
def h5.mono{w w':C}{own:List Nat}{ts:List I}{rb:Nat}{f0:Addr}{lo:List FX}{d:FX}{st e:Int}{A c:List I->Prop}(h:h5 w own ts rb f0 lo d st e A w')(a:∀l,A l->c l):h5 w own ts rb f0 lo d st e c w':=by obtain⟨u,z,x,n,q,k,y,j⟩:=h;exact⟨u,z,x,n,q,k,y,a _ j⟩
def St.tt{w:C}{rb:Nat}{n:J}{e:List FM}{f:FM}{ts:List I}{st q:Int}{own:List Nat}(i:own=(SL rb n st q ((e++[f]).flatMap FM.c) ((e++[f]).flatMap FM.rows)).flatMap (·.fp))(j:own.Nodup)(k:∀h∈SL rb n st q ((e++[f]).flatMap FM.c) ((e++[f]).flatMap FM.rows),h.P w)(l:I.Ps w ts)(d:∀b∈I.bm ts,b∉own):
  Z (·∈own) w w (SL rb n st q ((e++[f]).flatMap FM.c) ((e++[f]).flatMap FM.rows)) [.trees ts]:=by
 refine Z.sK _ _ (λh a=>⟨k h a,λb g=>by grind⟩) (i▸j) λh a=>?_;simp only[ay,aW,a3]at a;subst a;refine⟨l,λb g o u m=>d b (a4.1 g) ?_⟩
 grind
def St.of{w w':C}{rb:Nat}{f0:Addr}{y:J}{e:List FM}{f:FM}{ts h:List I}{st z:Int}{own:List Nat}{p:Addr}{D:List En}{A:List I->Prop}(H:Z (·∈own) w w' (SL rb y st z ((e++[f]).flatMap FM.c) ((e++[f]).flatMap FM.rows)) D)(i:Nat)(j:D[i]? =some (.trees h))(E:∀g∈e++[f],∀t∈g.ts,t∈h)(o:y.a=some p)(l:f0=p.add (e.length *10))(d:∀b∈I.bm h,b∈I.bm ts\/b∈own\/w.heap.size<=b)(k:∀t∈ts,t∈h)(m:A h):
  h5 w own ts rb f0 (e.map FM.x) f.x st z A w':=by
 refine⟨_,h,⟨y,e,f,p,rfl,rfl,E,o,l,rfl,H.nd,H.own,H.getD i j,λb d B=>?_⟩,H.fr,λF r=>?_,d,k,m⟩
 .obtain ⟨n,u,q⟩:=cj.1 B;exact H.dj _ (aE j) b (a4.2 d) n u q
 .obtain ⟨n,u,q⟩:=cj.1 r;exact(H.new n u F q).symm
section
variable {M:Nat->Prop} {w0 w:C} {L D:List En} {bs:List Nat}
def _root_.Go.W.Z.gC(H:Z M w0 w L D)(i:Nat){k:J}{h:List FM}{f:FM}{p:Addr}(b:L[i]? =some (.row hB 10 k ((h++[f]).flatMap FM.c)))(d:k.a=some p)(j:Nat){v:ab}(e:f.c[j]? =some v:=by rfl):w.cell? ((p.add (h.length *10)).add j)=some v:=by
 have x:aG w hB 10 k ((h++[f]).flatMap FM.c):=H.get i b;have u:((h++[f]).flatMap FM.c)[h.length *10+j]? =some v:=by
  rw[ea,List.getElem?_append_right (by rw[oa];omega),oa]
  grind
 obtain⟨y,n,q⟩:=x.bh.2.2.2 _ _ u;rw[d]at n;cases n;rw[add_add];exact q
def Qx(a:List FM)(f b:FM)(j:Nat)(v:ab)(d:j<10)(h:f.c.set j v=b.c):((a++[f]).flatMap FM.c).set (a.length *10+j) v=(a++[b]).flatMap FM.c:=by
 rw[ea,ea,List.set_append,aq (by rw[oa];omega),oa]
 grind
def _root_.Go.W.Z.il(H:Z M w0 w L D)(i:Nat){k:J}{d:List FM}{f:FM}{p:Addr}{K:C->Prop}{v:ab}(e:FM)(j:Nat)(u:L[i]? =some (.row hB 10 k ((d++[f]).flatMap FM.c)))(s:k.a=some p)(r:j<10)(o:f.c.set j v=e.c)(n:∀h,Z M w0 h (L.set i (.row hB 10 k ((d++[e]).flatMap FM.c))) D->K h)(l:∀b∈bs,En.g b∈L:=by simp):ao w ((p.add (d.length *10)).add j) v λm=>kept bs w m/\K m:=
 H.mG i (d.length *10) j u s (by rw[oa];grind) (λh q=>n h (by rw[Qx d f e j v r o]at q;exact q)) l
def Eu{w:C}{p:Addr}{v:ab}{K:C->Prop}(h:ao w p v λa=>kept [] w a/\K a):ao w p v K:=UK h λ_ h=>h.2
end
def D8:∀a:List FM,(a.flatMap FM.rows).length=a.length *4
 |[]=>rfl
 |f::a=>by have:=D8 a;simp only[dT,List.length_append,List.length_cons];have:f.rows.length=4:=rfl;omega
def D9(a:List FM)(f:FM)(j:Nat)(x:ed)(b:j<4):((a++[f]).flatMap FM.rows).set (a.length *4+j) x=a.flatMap FM.rows++f.rows.set j x:=by
 have c:=D8 a
 grind
def oO(a:List FM)(f:FM)(j:Nat)(x:ed)(b:f.rows[j]? =some x):((a++[f]).flatMap FM.rows)[a.length *4+j]? =some x:=by
 have c:=D8 a
 grind
def fN(k:Int)(s:J)(a:List I):I:=match a with |[c]=>c|l=>.mk k 0 0 s l
def nz(k:Int)(l:List Rx):Rx:=match l with |[c]=>c|l=>.mk k 0 0 l
def Dz(k:Int)(s:J)(a:List I):(fN k s a).rx=nz k (I.au a):=by
 match a with
 |[]=>rfl
 |[c]=>rfl
 |c::d::l=>rfl
def Tf{k:Int}{s:J}{ts:List I}{b:Nat}(h:b∈(fN k s ts).fp):b∈(I.row s ts).fp\/b∈I.bm ts:=by
 match ts,h with
 |[],h=>exact I.gb.1 (show b∈(I.mk k 0 0 s []).fp from h)
 |[x],h=>exact .inr (I.bX.2 ⟨x,by simp,h⟩)
 |x::c::l,h=>exact I.gb.1 (show b∈(I.mk k 0 0 s (x::c::l)).fp from h)
def Al(k:Int)(s:J)(a:List I)(w:C)(h:bF 4 w s (a.flatMap I.c)):ah V np #[.int .i64 k,s.v] w λr g=>r=U (fN k s a).v/\aj w g:=by
 have q:=I.cu h;refine KH.aB _ _ w _ ((bN [I.row s a] (by intro y n;simp only[ay,aW,a3]at n;subst n;exact h)).aN λm o b=>aJ (λf=>⟨by omega,by omega,?_⟩) (λf=>b.ak λx e=>⟨?_,e.fr⟩))
 .have u:a.length=1:=by omega
  obtain⟨j,rfl⟩:=List.length_eq_one_iff.1 u;refine I.di (b.getD 0) (i:=0) (t:=j) rfl λp z d=>⟨_,_,_,_,d.c0,d.c1,d.c2,d.c3,b.ak λx e=>⟨rfl,e.fr⟩⟩
 .match a,q with
  |[],_=>rfl
  |[j],q=>grind
  |j::A::l,_=>rfl
section
variable {M:Nat->Prop} {w0 w:C} {L D:List En} {bs:List Nat}
def _root_.Go.W.Z.node(H:Z M w0 w L D)(i:Nat){ts ks:List I}{s:J}(k:Int)(g d:UInt8)(c:D[i]? =some (.trees ts))(f:I.row s ks∈D)(e:∀t∈ks,t∈ts):Z M w0 w L [.trees (ts++[.mk k g d s ks])]:=by
 have n:I.Ps w ts:=H.getD i c;have u:=H.gv (.trees (ts++[.mk k g d s ks])) (Fr.refl _ _) (I.iE λt a=>?_) λb z=>.inr (.inr ?_)
 .exact u.forget _ (by simp)
 .rcases a6.1 a with a|a
  .exact n.mem a
  .simp at a;subst a;unfold I.P;exact⟨H.rd _ f,I.iE λt a=>n.mem (e t a)⟩
 .obtain ⟨t,a,j⟩:=I.bX.1 (a4.1 z);rcases a6.1 a with a|a
  .exact ⟨_,aE c,a4.2 (I.bX.2 ⟨t,a,j⟩)⟩
  .simp at a;rw[a]at j;rcases I.gb.1 j with h|h
   .exact ⟨_,f,h⟩
   .obtain ⟨q,y,x⟩:=I.bX.1 h;exact⟨_,aE c,a4.2 (I.bX.2 ⟨q,e q y,x⟩)⟩
def _root_.Go.W.Z.JC(H:Z M w0 w L D)(i:Nat){ts ks:List I}{s:J}(k:Int)(c:D[i]? =some (.trees ts))(e:I.row s ks∈D)(d:∀t∈ks,t∈ts):Z M w0 w L [.trees (ts++[fN k s ks])]:=by
 match ks,e,d with
 |[],e,d=>exact H.node i k 0 0 c e d
 |h::x::l,e,d=>exact H.node i k 0 0 c e d
 |[h],e,d=>
  have q:I.Ps w ts:=H.getD i c;have n:=d h (by simp);have u:=H.gv (.trees (ts++[h])) (Fr.refl _ _) (I.iE λt a=>?_) λb f=>.inr (.inr ?_)
  .exact u.forget _ (by simp[fN])
  .rcases a6.1 a with a|a
   .exact q.mem a
   .simp at a;subst a;exact q.mem n
  .obtain ⟨t,a,j⟩:=I.bX.1 (a4.1 f);rcases a6.1 a with a|a
   .exact ⟨_,aE c,a4.2 (I.bX.2 ⟨t,a,j⟩)⟩
   .simp at a;rw[a]at j;exact⟨_,aE c,a4.2 (I.bX.2 ⟨h,n,j⟩)⟩
abbrev z4:List ab:=[.int .i64 0,.int .u8 0,.int .u8 0,.slice none 0 0]
def wc(a u:List ab)(n j:Nat)(v:ab)(b:a.length=n):(a++u).set (n+j) v=a++u.set j v:=by grind
def _root_.Go.W.Z.su(H:Z M w0 w L D)(i j n:Nat){h:List ed}{s:J}{vs:List ab}{p:Addr}{K:C->Prop}(t:I)(u:L[i]? =some (.rows h))(T:h[j]? =some (s,vs++z4))(z:s.a=some p)(y:vs.length=n *4)(hK:∀w',Z M w0 w' (L.set i (.rows (h.set j (s,vs++t.c)))) D->K w')(r:∀b∈bs,En.g b∈L):
  ao w (p.add (ae (n:Int) *4)) (.int .i64 t.k) λo=>kept bs w o/\ao o ((p.add (ae (n:Int) *4)).add 1) (.int .u8 (t.lo.toNat:Int)) λf=>kept bs o f/\ao f ((p.add (ae (n:Int) *4)).add 2) (.int .u8 (t.hi.toNat:Int)) λl=>kept bs f l/\ao l ((p.add (ae (n:Int) *4)).add 3) t.s.v λq=>kept bs l q/\K q:=by
 rw[bT];have ai:i<L.length:=(dh.1 u).1;have aj:j<h.length:=(dh.1 T).1;have E:∀{A:List En} (e:En),A.length=L.length->(A.set i e)[i]? =some e:=λ{A} e hl=>by grind
 have B:∀(d:List ed) (x:ed),d.length=h.length->(d.set j x)[j]? =some x:=λd x hl=>by grind
 have F:∀{b:Nat},En.g b∈L->∀(d:List ed),En.g b∈L.set i (.rows d):=λ{b} m d=>by
  obtain⟨aa,Y⟩:=g5.1 m;by_cases ad:i=aa
  .subst ad;exfalso;rw[u]at Y;have hP:(En.rows h).P w:=H.get i u;have S:En.rows h=En.g b:=fV Y;have ah:(En.rows h).fp=[b]:=by rw[S];rfl
   have ac:b∈(En.rows h).fp:=by grind
   have af:h≠[]:=by grind
   refine K2 h af w b ac ?_;rw[S];show b<_;simp
  .exact g5.2 ⟨aa,by grind⟩
 have ag:=H.yT (bs:=bs) i j (n *4) 0 (v:=.int .i64 t.k) (K:=λo=>ao o ((p.add (n *4)).add 1) (.int .u8 (t.lo.toNat:Int)) λf=>kept bs o f/\ao f ((p.add (n *4)).add 2) (.int .u8 (t.hi.toNat:Int)) λl=>kept bs f l/\ao l ((p.add (n *4)).add 3) t.s.v λq=>kept bs l q/\K q) u T z (by grind) ?_ r
 .rw [kD]at ag;omega
 intro o G;rw[wc vs z4 (n *4) 0 _ y]at G;refine G.yT (bs:=bs) i j (n *4) 1 (E _ rfl) (B _ _ rfl) z (by grind) ?_ (λb m=>F (r b m) _);intro f N;rw[wc vs _ (n *4) 1 _ y,List.set_set,List.set_set]at N;refine N.yT (bs:=bs) i j (n *4) 2 (E _ rfl) (B _ _ rfl) z (by grind) ?_ (λb m=>F (r b m) _);intro l O;rw[wc vs _ (n *4) 2 _ y,List.set_set,List.set_set]at O;refine O.yT (bs:=bs) i j (n *4) 3 (E _ rfl) (B _ _ rfl) z (by grind) ?_ (λb m=>F (r b m) _);intro q Q;rw[wc vs _ (n *4) 3 _ y,List.set_set,List.set_set]at Q;exact hK q Q
def _root_.Go.W.Z.IU(H:Z M w0 w L D)(i:Nat){h:J}{e:List FM}{f:FM}{p:Addr}(b:L[i]? =some (.row hB 10 h ((e++[f]).flatMap FM.c)))(d:h.a=some p):
  w.cell? (((p.add (e.length *10)).add 6).add 0)=some (.int .i64 f.la.k)/\w.cell? (((p.add (e.length *10)).add 6).add 1)=some (.int .u8 (f.la.lo.toNat:Int))/\w.cell? (((p.add (e.length *10)).add 6).add 2)=some (.int .u8 (f.la.hi.toNat:Int))/\w.cell? (((p.add (e.length *10)).add 6).add 3)=some f.la.s.v:=by
 refine⟨?_,?_,?_,?_⟩
 .rw [kD];exact H.gC i b d 6
 .rw [add_add];exact H.gC i b d 7
 .rw [add_add];exact H.gC i b d 8
 .rw [add_add];exact H.gC i b d 9
end
def mx:Nat->Rx->Rx
 |0,r=>r
 |c+1,r=>mx c (.mk 6 0 0 [r])
def kc(f:FX):FX:=⟨f.k,f.ar,f.al,f.an,f.ca++[mx f.n f.la],0,f.la⟩
def Gd{w:C}{rb:Nat}{f0:Addr}{lo:List FX}{T:FX}{st B:Int}{own:List Nat}{ts:List I}(h:St w rb f0 lo T st B own ts)(hn:T.n<=1000000)(hc:T.ca.length<=1000000):
  ah V xV #[.pointer (some f0)] w λr u=>r=U (.tuple #[])/\h5 w own ts rb f0 lo (kc T) st B (λ_=>True) u:=by
 obtain⟨S,d,f,p,rfl,rfl,H,z,rfl,h6,h7,h8,h9,aw⟩:=h;have ac:=St.tt h6 h7 h8 h9 aw;have ax:f.la∈ts:=H f (by simp) _ (by simp[FM.ts]);have az:f.ca.2.length<=1000000:=by
  have:f.x.ca.length=f.ca.2.length:=by show(I.au f.ca.2).length=_;rw[I.fy];simp
  omega
 have loop:∀(m:Nat) (r:I) (j:List I) (i:Nat) (y:C),m<=1000000->(∀t∈ts,t∈j)->(∀b∈I.bm j,b∈I.bm ts\/b∈own\/w.heap.size<=b)->r∈j->mx m r.rx=mx f.n f.la.rx->
   Z (·∈own) w y (SL rb S st B ((d++[(⟨f.k,f.ar,f.al,f.an,f.ca,m,f.la⟩:FM)]).flatMap FM.c) ((d++[f]).flatMap FM.rows)++[.g i]) [.trees j]->
   vc.aH (p.add (d.length *10)) i r.k r.lo.toNat r.hi.toNat r.s y λr u=>r=U (.tuple #[])/\h5 w own ts rb (p.add (d.length *10)) (d.map FM.x) (kc f.x) st B (λ_=>True) u:=by
  intro m;induction m with
  |zero=>
   intro r j i y _ G Q hr he v;refine vc.bD _ _ _ _ _ _ _ _ ⟨0,v.gC 1 rfl z 5,bb rfl (v.ak λM D=>⟨_,D.gC 1 rfl z 4,?_⟩)⟩;have ap:((d++[f]).flatMap FM.rows)[d.length *4+3]? =some (f.ca.1,f.ca.2.flatMap I.c):=oO d f 3 _ rfl;have nr:f.ca.1.n=f.ca.2.length:=by have hp:(En.rows ((d++[f]).flatMap FM.rows)).P M:=D.get 2;exact I.cu (hp.1 _ (aE ap)).bh
   refine D.cB (e:=aV) (sz:=4) (n:=1) (cs:=z4) rfl (by decide) λw3 E=>⟨E.gC 1 rfl z 4,?_⟩;refine E.wa (bs:=[i]) 2 (d.length *4+3) (src:=⟨some (ag M.heap.size),1,1⟩) (news:=z4) rfl ap (aG.bh (E.get 4)) (by simp[Value.oneCell']) (by grind) (λo W N ae am=>⟨by omega,by grind,?_⟩);obtain⟨ab,hq⟩:∃ab,o.a=some ab:=by
    cases hs:o.a with
    |none=>grind
    |some ab=>grind
   rw[hq];have ai:d.length *4+3<((d++[f]).flatMap FM.rows).length:=by grind
   have O:Z (·∈own) w W (SL rb S st B ((d++[(⟨f.k,f.ar,f.al,f.an,f.ca,0,f.la⟩:FM)]).flatMap FM.c) (((d++[f]).flatMap FM.rows).set (d.length *4+3) (o,f.ca.2.flatMap I.c++z4))++[.g i]) [.trees j]:=N.take 4;have fin:∀{u:C},Z (·∈own) w u (SL rb S st B ((d++[(⟨f.k,f.ar,f.al,f.an,(o,f.ca.2++[r]),0,f.la⟩:FM)]).flatMap FM.c) (((d++[f]).flatMap FM.rows).set (d.length *4+3) (o,f.ca.2.flatMap I.c++r.c))++[.g i]) [.trees j]->
     (Ending.returned (.tuple #[])=U (.tuple #[])/\h5 w own ts rb (p.add (d.length *10)) (d.map FM.x) (kc f.x) st B (λ_=>True) u):=λ{u} H'=>by
    refine⟨rfl,?_⟩;have e1:((d++[f]).flatMap FM.rows).set (d.length *4+3) (o,f.ca.2.flatMap I.c++r.c)=(d++[(⟨f.k,f.ar,f.al,f.an,(o,f.ca.2++[r]),0,f.la⟩:FM)]).flatMap FM.rows:=by rw[D9 d f 3 _ (by omega),ea];congr 1;simp[FM.rows]
    rw[e1]at H';have:=St.of (ts:=ts) (A:=λ_=>True) (f0:=p.add (d.length *10)) (H'.take 3) 0 rfl (λg K t q=>?_) z rfl Q G trivial
    .have e2:(FM.x ⟨f.k,f.ar,f.al,f.an,(o,f.ca.2++[r]),0,f.la⟩)=kc f.x:=by
      unfold FM.x kc;simp only[jm];have:I.au [r]=[mx f.n f.la.rx]:=by rw[<-he];rfl
      grind
     grind
    .rcases a6.1 K with K|K
     .grind
     .simp at K;subst K;simp only[FM.ts,a6,ay,aW,a3]at q;rcases q with(((q|q)|q)|(q|rfl))|rfl
      .exact G t (H f (by simp) t (by simp[FM.ts,q]))
      .exact G t (H f (by simp) t (by simp[FM.ts,q]))
      .exact G t (H f (by simp) t (by simp[FM.ts,q]))
      .exact G t (H f (by simp) t (by simp[FM.ts,q]))
      .exact hr
      grind
   refine⟨?_,?_⟩
   .rw [nr];refine O.su (bs:=[i]) 2 (d.length *4+3) f.ca.2.length r rfl (kp ai) hq (I.ee _) (λu F=>?_) (by simp);rw[List.set_set]at F;exact F.il (bs:=[i]) (f:=⟨f.k,f.ar,f.al,f.an,f.ca,0,f.la⟩) 1 ⟨f.k,f.ar,f.al,f.an,(o,f.ca.2++[r]),0,f.la⟩ 4 rfl z (by omega) rfl (λaj Y=>fin Y) (by simp)
   .refine O.il (bs:=[i]) (f:=⟨f.k,f.ar,f.al,f.an,f.ca,0,f.la⟩) 1 ⟨f.k,f.ar,f.al,f.an,(o,f.ca.2++[r]),0,f.la⟩ 4 rfl z (by omega) rfl (λu F=>?_) (by simp);rw[nr];refine Z.su (bs:=[i]) (L:=SL rb S st B ((d++[(⟨f.k,f.ar,f.al,f.an,(o,f.ca.2++[r]),0,f.la⟩:FM)]).flatMap FM.c) (((d++[f]).flatMap FM.rows).set (d.length *4+3) (o,f.ca.2.flatMap I.c++z4))++[.g i]) F 2 (d.length *4+3) f.ca.2.length r rfl (kp ai) hq (I.ee _) (λaj Y=>?_) (by simp);rw[List.set_set]at Y
    grind
  |succ m ih=>
   intro r j i y hm G Q hr he v;refine vc.bD _ _ _ _ _ _ _ _ ⟨((m+1:Nat):Int),v.gC 1 rfl z 5,a8 (a0 (by omega)) ?_⟩;refine v.cB (e:=aV) (sz:=4) (n:=1) (cs:=r.c) rfl (by decide) λM D=>D.ak (bs:=[i]) (λw3 E=>⟨_,E.gC 1 rfl z 5,?_⟩) (by simp);have av:ad .i64 (((m+1:Nat):Int) - 1)=(m:Int):=by rw[bf _ (by omega)];omega
   show ao w3 _ (.int .i64 (ad .i64 (((m+1:Nat):Int) - 1))) _;rw[av];refine E.il (bs:=[i]) (f:=⟨f.k,f.ar,f.al,f.an,f.ca,m+1,f.la⟩) 1 ⟨f.k,f.ar,f.al,f.an,f.ca,m,f.la⟩ 5 rfl z (by omega) rfl (λW N=>?_) (by simp);have O:=N.freeze 4 (I.row ⟨some (ag y.heap.size),1,1⟩ [r]) rfl (by show bF 4 W _ ([r].flatMap I.c);rw[show[r].flatMap I.c=r.c by simp];exact aG.bh (N.get 4)) (λb J=>gi (e:=aV) (vs:=[r].flatMap I.c) J);have F:=O.node 0 6 0 0 (s:=⟨some (ag y.heap.size),1,1⟩) (ks:=[r]) rfl (by simp) (λt q=>by grind);refine ih (.mk 6 0 0 ⟨some (ag y.heap.size),1,1⟩ [r]) _ i W (by omega) (λt q=>by grind) (λb J=>?_) (by simp) he F;obtain⟨t,q,aa⟩:=I.bX.1 J;rcases a6.1 q with q|q
   .exact Q b (I.bX.2 ⟨t,q,aa⟩)
   .simp at q;rw[q]at aa;rcases I.gb.1 aa with h|h
    .have:=gi (e:=aV) h;simp[En.row,aO,I.s]at this;subst this;exact .inr (.inr v.fr.size)
    .obtain ⟨t',aq,af⟩:=I.bX.1 h;simp[I.l]at aq;rw[aq]at af;exact Q b (I.bX.2 ⟨r,hr,af⟩)
 obtain⟨c0,c1,c2,c3⟩:=ac.IU 1 rfl z;have ae:f.n<=1000000:=hn;refine vc.aB _ w _ ⟨_,_,_,_,c0,c1,c2,c3,ac.aN (λi y v=>v.ak (λM D=>?_) (by simp)) (by simp)⟩;exact loop f.n f.la ts i M ae (λ_ h=>h) (λb J=>.inl J) ax rfl D
def FM.a5(f:FM)(j:Nat):J×List I:=if j=1 then f.ar else if j=2 then f.al else if j=3 then f.an else f.ca
def FM.put(f:FM)(j:Nat)(x:J×List I):FM:=⟨f.k,if j=1 then x else f.ar,if j=2 then x else f.al,if j=3 then x else f.an,if j=4 then x else f.ca,f.n,f.la⟩
def tK{j:Nat}(e:1<=j)(f:j<=4){p:Nat->Prop}(a:p 1)(b:p 2)(c:p 3)(d:p 4):p j:=by grind
def G0(f:FM){j:Nat}(a:1<=j)(b:j<=4):f.c[j]? =some (f.a5 j).1.v:=tK (p:=λj=>f.c[j]? =some (f.a5 j).1.v) a b rfl rfl rfl rfl
def ru(f:FM){j:Nat}(a:1<=j)(b:j<=4):f.rows[j - 1]? =some ((f.a5 j).1,(f.a5 j).2.flatMap I.c):=tK (p:=λj=>f.rows[j - 1]? =some ((f.a5 j).1,(f.a5 j).2.flatMap I.c)) a b rfl rfl rfl rfl
def u6(f:FM)(x:J×List I){j:Nat}(a:1<=j)(b:j<=4):f.c.set j x.1.v=(f.put j x).c:=tK (p:=λj=>f.c.set j x.1.v=(f.put j x).c) a b rfl rfl rfl rfl
def TF(f:FM)(x:J×List I){j:Nat}(a:1<=j)(b:j<=4):f.rows.set (j - 1) (x.1,x.2.flatMap I.c)=(f.put j x).rows:=tK (p:=λj=>f.rows.set (j - 1) (x.1,x.2.flatMap I.c)=(f.put j x).rows) a b rfl rfl rfl rfl
def yw(f:FM)(x:J×List I){j:Nat}(b:1<=j)(c:j<=4){t:I}(a:t∈(f.put j x).ts):t∈f.ts\/t∈x.2:=by
 refine tK (p:=λj=>t∈(f.put j x).ts->t∈f.ts\/t∈x.2) b c ?_ ?_ ?_ ?_ a<;>
 .intro a;simp[FM.put,FM.ts]at a ⊢
  grind
def m4(f:FM)(j:Nat){t:I}(a:t∈(f.a5 j).2):t∈f.ts:=by
 unfold FM.a5 at a;unfold FM.ts
 grind
def TE(f:FM)(x:J×List I){j i:Nat}(b:i≠j)(c:1<=i)(a:i<=4):(f.put j x).a5 i=f.a5 i:=by
 have:i=1\/i=2\/i=3\/i=4:=by omega
 unfold FM.put FM.a5
 grind
section
variable {w0 w:C} {own:List Nat} {rb:Nat} {sl:J} {st wd:Int} {fs:List FM} {f:FM} {ts:List I} {p:Addr}
abbrev FS(a:List Nat)(k w:C)(d:Nat)(g:J)(i l:Int)(b:List FM)(f:FM)(e:List ed)(j:List I):Prop:=Z (·∈a) k w (SL d g i l ((b++[f]).flatMap FM.c) e) [.trees j]
def rO(a:List FM)(f:FM)(x:J×List I){j:Nat}(b:1<=j)(d:j<=4):((a++[f]).flatMap FM.rows).set (a.length *4+(j - 1)) (x.1,x.2.flatMap I.c)=(a++[f.put j x]).flatMap FM.rows:=by rw[D9 a f (j - 1) _ (by omega),TF f x b d,ea];simp
def Kd(H:FS own w0 w rb sl st wd fs f ((fs++[f]).flatMap FM.rows) ts)(o:sl.a=some p)(d:Nat)(e:1<=d)(g:d<=4)(t:I)(hb:(f.a5 d).2.length<=1000000){x:C}{src:J}(u:Z (·∈own) w0 x (SL rb sl st wd ((fs++[f]).flatMap FM.c) ((fs++[f]).flatMap FM.rows)++[.row aV 4 src z4]) [.trees ts])(ah:src.n=1){K:C->Prop}(T:∀b j,FS own w0 j rb sl st wd fs (f.put d (b,(f.a5 d).2++[t])) ((fs++[f.put d (b,(f.a5 d).2++[t])]).flatMap FM.rows) ts->K j):
  ∃(i:J) (l:C),(bg #[cE,cE] cE #[(f.a5 d).1.v,src.v]).run V x=.ok (i.v) l/\(0:Int)<=(((f.a5 d).1.n:Nat):Int)/\(((f.a5 d).1.n:Nat):Int)<((i.n:Nat):Int)/\cd i.a λh=>((ao l (h.add (ae (((f.a5 d).1.n:Nat):Int) *4)) (.int .i64 t.k) λB=>ao B ((h.add (ae (((f.a5 d).1.n:Nat):Int) *4)).add 1) (.int .u8 (t.lo.toNat:Int)) λD=>ao D ((h.add (ae (((f.a5 d).1.n:Nat):Int) *4)).add 2) (.int .u8 (t.hi.toNat:Int)) λy=>ao y ((h.add (ae (((f.a5 d).1.n:Nat):Int) *4)).add 3) t.s.v λz=>ao z ((p.add (fs.length *10)).add d) i.v K)/\
   (ao l ((p.add (fs.length *10)).add d) i.v λO=>ao O (h.add (ae (((f.a5 d).1.n:Nat):Int) *4)) (.int .i64 t.k) λB=>ao B ((h.add (ae (((f.a5 d).1.n:Nat):Int) *4)).add 1) (.int .u8 (t.lo.toNat:Int)) λD=>ao D ((h.add (ae (((f.a5 d).1.n:Nat):Int) *4)).add 2) (.int .u8 (t.hi.toNat:Int)) λy=>ao y ((h.add (ae (((f.a5 d).1.n:Nat):Int) *4)).add 3) t.s.v K)):=by
 have M:((fs++[f]).flatMap FM.rows)[fs.length *4+(d - 1)]? =some ((f.a5 d).1,(f.a5 d).2.flatMap I.c):=oO fs f (d - 1) _ (ru f e g);have W:(f.a5 d).1.n=(f.a5 d).2.length:=by have o:(En.rows ((fs++[f]).flatMap FM.rows)).P x:=u.get 2;exact I.cu (o.1 _ (aE M)).bh
 obtain⟨b,l,Q,_,S⟩:=u.wa (bs:=[]) (ty:=cE) 2 (fs.length *4+(d - 1)) (src:=src) (news:=z4) (K:=λb j=>FS own w0 j rb sl st wd fs f (((fs++[f]).flatMap FM.rows).set (fs.length *4+(d - 1)) (b,(f.a5 d).2.flatMap I.c++z4)) ts/\b.n=(f.a5 d).1.n+1/\∃h,b.a=some h) rfl M (aG.bh (u.get 3)) (by simp[Value.oneCell']) (by omega) (λb w4 N ag Y=>⟨N.take 3,by omega,by
  cases hs:b.a with
  |none=>grind
  |some h=>grind⟩) (by simp)
 obtain⟨E,aa,h,q⟩:=S;refine⟨b,l,Q,by omega,by omega,?_⟩;rw[q];have G:fs.length *4+(d - 1)<((fs++[f]).flatMap FM.rows).length:=by grind
 have F:∀(f:FM) (t:I) (d:Nat),(f.a5 d).2.flatMap I.c++t.c=((f.a5 d).2++[t]).flatMap I.c:=λf t d=>by simp
 rw[W];refine⟨?_,?_⟩
 .have st:=Z.su (bs:=[]) (K:=λz=>ao z ((p.add (fs.length *10)).add d) b.v K) E 2 (fs.length *4+(d - 1)) (f.a5 d).2.length t rfl (kp G) q (I.ee _) (λj m=>?_) (by simp)
  .grind
  .rw [List.set_set,F,rO fs f (b,(f.a5 d).2++[t]) e g]at m;exact Eu (m.il (bs:=[]) (f:=f) 1 (f.put d (b,(f.a5 d).2++[t])) d rfl o (by omega) (u6 f (b,(f.a5 d).2++[t]) e g) (λr A=>T b r A) (by simp))
 .refine Eu (E.il (bs:=[]) (f:=f) 1 (f.put d (b,(f.a5 d).2++[t])) d rfl o (by omega) (u6 f (b,(f.a5 d).2++[t]) e g) (λj m=>?_) (by simp));have st:=Z.su (bs:=[]) (K:=K) (L:=SL rb sl st wd ((fs++[f.put d (b,(f.a5 d).2++[t])]).flatMap FM.c) (((fs++[f]).flatMap FM.rows).set (fs.length *4+(d - 1)) (b,(f.a5 d).2.flatMap I.c++z4))) m 2 (fs.length *4+(d - 1)) (f.a5 d).2.length t rfl (kp G) q (I.ee _) (λr A=>?_) (by simp)
  .grind
  .rw [List.set_set,F,rO fs f (b,(f.a5 d).2++[t]) e g]at A
   grind
def shift(H:FS own w0 w rb sl st wd fs f ((fs++[f]).flatMap FM.rows) ts)(M:sl.a=some p)(k:Int)(d s:Nat)(Q:1<=d)(hs:s=d+1)(y:s<=4)(hb:(f.a5 d).2.length<=1000000)(bb:∀t∈f.ts,t∈ts){R:aa}(hK:∀j r,FS own w0 r rb sl st wd fs ((f.put d (j,(f.a5 d).2++[fN k (f.a5 s).1 (f.a5 s).2])).put s (⟨none,0,0⟩,[])) ((fs++[(f.put d (j,(f.a5 d).2++[fN k (f.a5 s).1 (f.a5 s).2])).put s (⟨none,0,0⟩,[])]).flatMap FM.rows) (ts++[fN k (f.a5 s).1 (f.a5 s).2])->R (U (.tuple #[])) r):
  dM w λu=>∃b:J,u.cell? ((p.add (fs.length *10)).add d)=some (b.v)/\∃N:J,u.cell? ((p.add (fs.length *10)).add s)=some (N.v)/\
   ((ah V np #[.i k,N.v] u λr_ D=>∃g:Int,∃B:Int,∃l:Int,∃m:J,r_=U (.agg #[.i g,.int .u8 B,.int .u8 l,m.v])/\
    D.cell? ((p.add (fs.length *10)).add d)=some (b.v)/\aK D (.cells #[.i 0,.int .u8 0,.int .u8 0,.slice none 0 0] aV) λO=>
    O.cell? ((p.add (fs.length *10)).add d)=some (b.v)/\∃(o:J) (E:C),a' V (bg #[cE,cE] cE #[b.v,.slice (some (nb D)) 1 1]) O=.ok (o.v) E/\aw o ((b.n:Nat):Int) λh=>((ao E (h.add (ae ((b.n:Nat):Int) *4)) (.i g) λw6=>
    ao w6 ((h.add (ae ((b.n:Nat):Int) *4)).add 1) (.int .u8 B) λw7=>ao w7 ((h.add (ae ((b.n:Nat):Int) *4)).add 2) (.int .u8 l) λw8=>ao w8 ((h.add (ae ((b.n:Nat):Int) *4)).add 3) (m.v) λw9=>
    ao w9 ((p.add (fs.length *10)).add d) (o.v) λS=>ao S ((p.add (fs.length *10)).add s) (.slice none 0 0) λq=>R (U (.tuple #[])) q)/\
    (ao E ((p.add (fs.length *10)).add d) (o.v) λT=>ao T (h.add (ae ((b.n:Nat):Int) *4)) (.i g) λW=>ao W ((h.add (ae ((b.n:Nat):Int) *4)).add 1) (.int .u8 B) λY=>
    ao Y ((h.add (ae ((b.n:Nat):Int) *4)).add 2) (.int .u8 l) λan=>ao an ((h.add (ae ((b.n:Nat):Int) *4)).add 3) (m.v) λab=>ao ab ((p.add (fs.length *10)).add s) (.slice none 0 0) λq=>R (U (.tuple #[])) q)))/\
   (aK u (.cells #[.i 0,.int .u8 0,.int .u8 0,.slice none 0 0] aV) λap=>ap.cell? ((p.add (fs.length *10)).add s)=some (N.v)/\ap.cell? ((p.add (fs.length *10)).add d)=some (b.v)/\
    ah V np #[.i k,N.v] ap λr_ ar=>∃g:Int,∃B:Int,∃l:Int,∃m:J,r_=U (.agg #[.i g,.int .u8 B,.int .u8 l,m.v])/\
    ar.cell? ((p.add (fs.length *10)).add d)=some (b.v)/\∃(o:J) (E:C),a' V (bg #[cE,cE] cE #[b.v,.slice (some (nb u)) 1 1]) ar=.ok (o.v) E/\aw o ((b.n:Nat):Int) λh=>((ao E (h.add (ae ((b.n:Nat):Int) *4)) (.i g) λw6=>
    ao w6 ((h.add (ae ((b.n:Nat):Int) *4)).add 1) (.int .u8 B) λw7=>ao w7 ((h.add (ae ((b.n:Nat):Int) *4)).add 2) (.int .u8 l) λw8=>ao w8 ((h.add (ae ((b.n:Nat):Int) *4)).add 3) (m.v) λw9=>
    ao w9 ((p.add (fs.length *10)).add d) (o.v) λS=>ao S ((p.add (fs.length *10)).add s) (.slice none 0 0) λq=>R (U (.tuple #[])) q)/\
    (ao E ((p.add (fs.length *10)).add d) (o.v) λT=>ao T (h.add (ae ((b.n:Nat):Int) *4)) (.i g) λW=>ao W ((h.add (ae ((b.n:Nat):Int) *4)).add 1) (.int .u8 B) λY=>
    ao Y ((h.add (ae ((b.n:Nat):Int) *4)).add 2) (.int .u8 l) λan=>ao an ((h.add (ae ((b.n:Nat):Int) *4)).add 3) (m.v) λab=>ao ab ((p.add (fs.length *10)).add s) (.slice none 0 0) λq=>R (U (.tuple #[])) q)))):=by
 subst hs;have F:1<=d+1:=by omega
 have ac:d<=4:=by omega
 have aq:((fs++[f]).flatMap FM.rows)[fs.length *4+(d+1 - 1)]? =some ((f.a5 (d+1)).1,(f.a5 (d+1)).2.flatMap I.c):=oO fs f (d+1 - 1) _ (ru f F y);have rd:∀{r:C} {G:List En},Z (·∈own) w0 r (SL rb sl st wd ((fs++[f]).flatMap FM.c) ((fs++[f]).flatMap FM.rows)++G) [.trees ts]->bF 4 r (f.a5 (d+1)).1 ((f.a5 (d+1)).2.flatMap I.c):=λz=>by have hP:(En.rows ((fs++[f]).flatMap FM.rows)).P _:=z.get 2;exact(hP.1 _ (aE aq)).bh
 have fin:∀j r,FS own w0 r rb sl st wd fs (f.put d (j,(f.a5 d).2++[fN k (f.a5 (d+1)).1 (f.a5 (d+1)).2])) ((fs++[f.put d (j,(f.a5 d).2++[fN k (f.a5 (d+1)).1 (f.a5 (d+1)).2])]).flatMap FM.rows) ts->
   ao r ((p.add (fs.length *10)).add (d+1)) (.slice none 0 0) λq=>R (U (.tuple #[])) q:=λj r z=>by
  have hc:(f.put d (j,(f.a5 d).2++[fN k (f.a5 (d+1)).1 (f.a5 (d+1)).2])).a5 (d+1)=f.a5 (d+1):=TE f _ (by omega) F y;refine Eu (z.il (bs:=[]) 1 ((f.put d (j,(f.a5 d).2++[fN k (f.a5 (d+1)).1 (f.a5 (d+1)).2])).put (d+1) (⟨none,0,0⟩,[])) (d+1) rfl M (by omega) (u6 _ (⟨none,0,0⟩,[]) F y) (λq H1=>hK j q ?_) (by simp));have ai:=oO fs (f.put d (j,(f.a5 d).2++[fN k (f.a5 (d+1)).1 (f.a5 (d+1)).2])) (d+1 - 1) _ (ru _ F y);rw[hc]at ai;have A:=H1.Br 2 (fs.length *4+(d+1 - 1)) rfl ai;have x:=A.JC 0 k (s:=(f.a5 (d+1)).1) (ks:=(f.a5 (d+1)).2) rfl (by simp) λt ht=>bb t (m4 f _ ht);have au:=rO fs (f.put d (j,(f.a5 d).2++[fN k (f.a5 (d+1)).1 (f.a5 (d+1)).2])) (⟨none,0,0⟩,[]) F y
  grind
 have L:∀{r:C} {G:List En},Z (·∈own) w0 r (SL rb sl st wd ((fs++[f]).flatMap FM.c) ((fs++[f]).flatMap FM.rows)++G) [.trees ts]->r.cell? ((p.add (fs.length *10)).add d)=some ((f.a5 d).1.v):=λz=>z.gC 1 rfl M d (G0 f Q ac);have ad:∀{r:C} {G:List En},Z (·∈own) w0 r (SL rb sl st wd ((fs++[f]).flatMap FM.c) ((fs++[f]).flatMap FM.rows)++G) [.trees ts]->r.cell? ((p.add (fs.length *10)).add (d+1))=some ((f.a5 (d+1)).1.v):=λz=>z.gC 1 rfl M (d+1) (G0 f F y);refine H.dr λu A=>⟨_,L (G:=[]) A,_,ad (G:=[]) A,?_,A.cB (e:=aV) (sz:=4) (n:=1) (cs:=z4) rfl (by decide) λD x=>⟨ad x,L x,?_⟩⟩
 .refine A.call (Al k _ _ u (rd (G:=[]) A)) ?_;rintro _ D rfl x;refine⟨_,_,_,_,rfl,L (G:=[]) x,x.cB (e:=aV) (sz:=4) (n:=1) (cs:=z4) rfl (by decide) λO K=>⟨L K,?_⟩⟩;exact Kd H M d Q ac (fN k (f.a5 (d+1)).1 (f.a5 (d+1)).2) hb (src:=⟨some (ag D.heap.size),1,1⟩) K rfl fin
 .refine x.call (Al k _ _ D (rd x)) ?_;rintro _ O rfl K;refine⟨_,_,_,_,rfl,L K,?_⟩;exact Kd H M d Q ac (fN k (f.a5 (d+1)).1 (f.a5 (d+1)).2) hb (src:=⟨some (ag u.heap.size),1,1⟩) K rfl fin
end
def h6(w:C)(a:List Nat)(c:List I)(b:Nat)(Q:cQ->Addr->List FX->FX->Int->Int->List I->Prop):aa:=λr n=>∃d e j h k,h5 w a c b d e j h k (Q r d e j h k) n
def jI(f:FX):FX:=⟨f.k,f.ar,f.al,f.an++[nz 3 (kc f).ca],[],0,f.la⟩
def jH(f:FX):FX:=⟨f.k,f.ar,f.al++[nz 5 (jI f).an],[],[],0,f.la⟩
def AZ(f:FX):FX:=⟨f.k,f.ar,[],[],[],0,f.la⟩
def eU(f:FX):Rx:=nz 4 (jH f).al
def Ej{w0:C}{M:Nat->Prop}{w:C}{own:List Nat}{ts q:List I}{k:Int}{s:J}{ks:List I}(a:∀b∈I.bm ts,b∈I.bm q\/b∈own\/w.heap.size<=b)(f:∀b∈aO s,b∈own\/w.heap.size<=b)(d:∀t∈ks,t∈ts):∀b∈I.bm (ts++[fN k s ks]),b∈I.bm q\/b∈own\/w.heap.size<=b:=λb u=>by
 obtain⟨t,c,j⟩:=I.bX.1 u;rcases a6.1 c with c|c
 .exact a b (I.bX.2 ⟨t,c,j⟩)
 .simp at c;rw[c]at j;rcases Tf j with h|h
  .exact .inr (f b (gi (e:=aV) h))
  .obtain ⟨n,y,x⟩:=I.bX.1 h;exact a b (I.bX.2 ⟨n,d n y,x⟩)
def KZ{own:List Nat}{w0 w:C}{rb:Nat}{k:J}{st n:Int}{d:List FM}{f:FM}{ts:List I}(H:FS own w0 w rb k st n d f ((d++[f]).flatMap FM.rows) ts){j:Nat}(a:1<=j)(c:j<=4):∀b∈aO (f.a5 j).1,b∈own\/w0.heap.size<=b:=λb e=>by have h:=oO d f (j - 1) _ (ru f a c);exact(H.new (.rows ((d++[f]).flatMap FM.rows)) (by simp) b (a4.2 (cj.2 ⟨_,aE h,e⟩))).symm
def Ll{n:List FM}{f:FM}{ts:List I}{k:Int}{d s:Nat}{u:J}(i:∀g∈n++[f],∀t∈g.ts,t∈ts)(a:1<=d)(b:d<=4)(c:1<=s)(e:s<=4):∀g∈n++[(f.put d (u,(f.a5 d).2++[fN k (f.a5 s).1 (f.a5 s).2])).put s (⟨none,0,0⟩,[])],∀t∈g.ts,t∈ts++[fN k (f.a5 s).1 (f.a5 s).2]:=by
 intro g j t q;rcases a6.1 j with j|j
 .grind
 .simp at j;subst j;rcases yw _ _ c e q with h|h
  .rcases yw _ _ a b h with h|h
   .grind
   .rcases a6.1 h with h|h
    .exact bS _ (i f (by simp) t (m4 f d h))
    grind
  grind
def Ge{w:C}{rb:Nat}{f0:Addr}{lo:List FX}{c:FX}{st y:Int}{own:List Nat}{ts:List I}(h:St w rb f0 lo c st y own ts)(j:c.n<=1000000)(i:c.ca.length<=1000000)(m:c.an.length<=1000000):
  ah V xW #[.pointer (some f0)] w λr e=>r=U (.tuple #[])/\h5 w own ts rb f0 lo (jI c) st y (λ_=>True) e:=by
 refine KF.ok _ w _ ((Gd h j i).mono ?_);rintro _ w1 ⟨rfl,ac,ab,⟨sl,q,f,p,rfl,d,u,B,rfl,J,K,L,N,H⟩,G,o1,D,t1,_⟩;refine⟨rfl,?_⟩;have z:=St.tt J K L N H;have O:(f.a5 3).2.length<=1000000:=by
  have F:f.x.an.length=f.an.2.length:=by show(I.au f.an.2).length=_;rw[I.fy];simp
  have e2:f.x.an=c.an:=by rw[d];rfl
  show f.an.2.length<=_
  grind
 refine shift (R:=λr e=>r=U (.tuple #[])/\h5 w own ts rb (p.add (q.length *10)) (q.map FM.x) (jI c) st y (λ_=>True) e) z B 3 3 4 (by omega) rfl (by omega) O (λt a=>u f (by simp) t a) λl e E=>⟨rfl,h5.then G o1 D t1 ?_⟩;have:=St.of (ts:=ab) (A:=λ_=>True) (f0:=p.add (q.length *10)) E 0 rfl (Ll u (by omega) (by omega) (by omega) (by omega)) B rfl (Ej (w0:=w) (M:=F0) (λb g=>.inl g) (KZ z (by omega) (by omega)) λt a=>u f (by simp) t (m4 f 4 a)) (λt a=>bS _ a) trivial;have F:((f.put 3 (l,(f.a5 3).2++[fN 3 (f.a5 4).1 (f.a5 4).2])).put 4 (⟨none,0,0⟩,[])).x=jI c:=by
  have W:f.x.k=c.k:=by rw[d];rfl
  have S:f.x.ar=c.ar:=by rw[d];rfl
  have P:f.x.al=c.al:=by rw[d];rfl
  have Q:f.x.an=c.an:=by rw[d];rfl
  have T:f.x.ca=(kc c).ca:=by rw[d]
  have aa:f.x.n=0:=by rw[d];rfl
  have Y:f.x.la=c.la:=by rw[d];rfl
  unfold jI;rw[<-W,<-S,<-P,<-Q,<-T,<-Y];show FX.mk f.k (f.ar.1,I.au f.ar.2) (I.au f.al.2) (I.au (f.an.2++[fN 3 f.ca.1 f.ca.2])) (I.au []) f.n f.la.rx=_;have Z:f.n=0:=aa;rw[Z,jm];simp[I.au,Dz,FM.x]
 grind
def Gc{w:C}{rb:Nat}{f0:Addr}{lo:List FX}{c:FX}{st y:Int}{own:List Nat}{ts:List I}(h:St w rb f0 lo c st y own ts)(l:c.n<=1000000)(j:c.ca.length<=1000000)(g:c.an.length<=1000000)(o:c.al.length<=1000000):
  ah V xU #[.pointer (some f0)] w λr e=>r=U (.tuple #[])/\h5 w own ts rb f0 lo (jH c) st y (λ_=>True) e:=by
 refine KD.ok _ w _ ((Ge h l j g).mono ?_);rintro _ w1 ⟨rfl,ad,ac,⟨sl,q,f,p,rfl,d,u,B,rfl,J,K,L,N,H⟩,G,o1,D,t1,_⟩;refine⟨rfl,?_⟩;have z:=St.tt J K L N H;have O:(f.a5 2).2.length<=1000000:=by
  have F:f.x.al.length=f.al.2.length:=by show(I.au f.al.2).length=_;rw[I.fy];simp
  have e2:f.x.al=c.al:=by rw[d];rfl
  show f.al.2.length<=_
  grind
 refine shift (R:=λr e=>r=U (.tuple #[])/\h5 w own ts rb (p.add (q.length *10)) (q.map FM.x) (jH c) st y (λ_=>True) e) z B 5 2 3 (by omega) rfl (by omega) O (λt a=>u f (by simp) t a) λm e E=>⟨rfl,h5.then G o1 D t1 ?_⟩;have:=St.of (ts:=ac) (A:=λ_=>True) (f0:=p.add (q.length *10)) E 0 rfl (Ll u (by omega) (by omega) (by omega) (by omega)) B rfl (Ej (w0:=w) (M:=F0) (λb i=>.inl i) (KZ z (by omega) (by omega)) λt a=>u f (by simp) t (m4 f 3 a)) (λt a=>bS _ a) trivial;have F:((f.put 2 (m,(f.a5 2).2++[fN 5 (f.a5 3).1 (f.a5 3).2])).put 3 (⟨none,0,0⟩,[])).x=jH c:=by
  have Y:f.x.k=c.k:=by rw[d];rfl
  have S:f.x.ar=c.ar:=by rw[d];rfl
  have P:f.x.al=c.al:=by rw[d];rfl
  have Q:f.x.an=(jI c).an:=by rw[d]
  have W:f.x.ca=[]:=by rw[d];rfl
  have ab:f.x.n=0:=by rw[d];rfl
  have Z:f.x.la=c.la:=by rw[d];rfl
  unfold jH;rw[<-Y,<-S,<-P,<-Q,<-Z];show FX.mk f.k (f.ar.1,I.au f.ar.2) (I.au (f.al.2++[fN 5 f.an.1 f.an.2])) (I.au []) (I.au f.ca.2) f.n f.la.rx=_;have aa:f.n=0:=ab;have T:I.au f.ca.2=[]:=W;rw[aa,T,jm];simp[I.au,Dz,FM.x]
 grind
abbrev SF(M:Nat->Prop)(i w:C)(b:Nat)(d:J)(e j:Int)(a:List FM)(f:FM)(G:List En)(g:List I):Prop:=Z M i w (SL b d e j ((a++[f]).flatMap FM.c) ((a++[f]).flatMap FM.rows)++G) [.trees g]
section
variable {M:Nat->Prop} {w0 w:C} {bs:List Nat} {G:List En} {rb:Nat} {sl:J} {st wd:Int} {fs:List FM} {f:FM} {ts:List I} {p:Addr}
def Up(H:SF M w0 w rb sl st wd fs f G ts)(i:∀g∈fs++[f],∀t∈g.ts,t∈ts)(l:sl.a=some p):
  St w rb (p.add (fs.length *10)) (fs.map FM.x) f.x st wd ((SL rb sl st wd ((fs++[f]).flatMap FM.c) ((fs++[f]).flatMap FM.rows)).flatMap (·.fp)) ts:=by have h:=H.nd;rw[ea,gT]at h;refine⟨sl,fs,f,p,rfl,rfl,i,l,rfl,rfl,h.1,λe d=>H.own e (bS _ d),H.getD 0,λb k n=>?_⟩;obtain⟨e,d,j⟩:=cj.1 n;exact H.dj (.trees ts) (by simp) b (a4.2 k) e (bS _ d) j
def Uo(H:SF M w0 w rb sl st wd fs f G ts){w':C}{D:Addr}{E:List FX}{L:FX}{K N:Int}{B:List Nat}{h:List I}(s:St w' rb D E L K N B h)(u:Fr (·∈(SL rb sl st wd ((fs++[f]).flatMap FM.c) ((fs++[f]).flatMap FM.rows)).flatMap (·.fp)) w w')(o:∀q∈B,q∈(SL rb sl st wd ((fs++[f]).flatMap FM.c) ((fs++[f]).flatMap FM.rows)).flatMap (·.fp)\/w.heap.size<=q)(i:∀b∈I.bm h,b∈I.bm ts\/b∈(SL rb sl st wd ((fs++[f]).flatMap FM.c) ((fs++[f]).flatMap FM.rows)).flatMap (·.fp)\/w.heap.size<=b):
  ∃(n:J) (j:List FM) (p:FM) (z:Addr),j.map FM.x=E/\p.x=L/\(∀g∈j++[p],∀t∈g.ts,t∈h)/\n.a=some z/\D=z.add (j.length *10)/\(∀b∈I.bm h,b∈I.bm ts\/w0.heap.size<=b\/M b)/\SF M w0 w' rb n K N j p G h:=by
 obtain⟨n,j,p,z,P,Q,S,T,W,Y,Z,h8,h9,ae⟩:=s;have A:=H.nd;rw[ea,gT]at A;have F:∀b∈(SL rb sl st wd ((fs++[f]).flatMap FM.c) ((fs++[f]).flatMap FM.rows)).flatMap (·.fp),w0.heap.size<=b\/M b:=λb i=>by obtain⟨e,d,l⟩:=cj.1 i;exact H.new e (bS _ d) b l
 have ad:∀e∈G,∀b∈e.fp,b<w.heap.size:=λe d b i=>e.lt w (H.own e (ef _ d)) b i;have O:∀e∈G,∀b∈e.fp,b∉(SL rb sl st wd ((fs++[f]).flatMap FM.c) ((fs++[f]).flatMap FM.rows)).flatMap (·.fp):=λe d b i r=>A.2.2 b r b (cj.2 ⟨e,d,i⟩) rfl;have ab:=H.fr.size;have af:∀b∈B,w0.heap.size<=b\/M b:=λb i=>(o b i).elim (F b) λk=>.inl (bB ab k);refine⟨n,j,p,z,P,Q,S,T,W,λb y=>?_,H.fr.trans u λq hx r=>(F q r).resolve_left (by omega),λe d=>?_,λe d=>?_,λe d b y=>?_,?_,λe d b y ac m l=>?_⟩
 .grind
 .rcases a6.1 d with d|d
  .grind
  .exact e.st w w' (λb i hl=>u.cA b hl (O e d b i)) (H.own e (ef _ d))
 .simp at d;subst d;exact h9
 .rcases a6.1 d with d|d
  .grind
  .exact H.new e (ef _ d) b y
 .rw [ea,gT];refine⟨Y▸Z,A.2.1,λq hx ag hy v=>?_⟩;subst v;obtain⟨e,d,l⟩:=cj.1 hy
  grind
 .simp at d;subst d;have aa:b∈I.bm h:=a4.1 y;rcases a6.1 m with m|m
  .grind
  .rcases i b aa with k|k|k
   .exact H.dj (.trees ts) (by simp) b (a4.2 k) ac (ef _ m) l
   .grind
   grind
def _root_.Go.W.Z.kG(H:SF M w0 w rb sl st wd fs f G ts)(u:∀g∈fs++[f],∀t∈g.ts,t∈ts)(F:sl.a=some p){g:bW}{args:Array ab}{K:aa}{Q:cQ->Addr->List FX->FX->Int->Int->List I->Prop}(y:∀own,St w rb (p.add (fs.length *10)) (fs.map FM.x) f.x st wd own ts->ah V g args w (h6 w own ts rb Q))(O:∀r h (i:J) (e:List FM) (l:FM) (m:Addr) (j k:Int) (d:List I),(∀t∈ts,t∈d)->(∀g∈e++[l],∀t∈g.ts,t∈d)->i.a=some m->(∀b∈I.bm d,b∈I.bm ts\/w0.heap.size<=b\/M b)->Q r (m.add (e.length *10)) (e.map FM.x) l.x j k d->SF M w0 h rb i j k e l G d->K r h)(n:∀b∈bs,En.g b∈G:=by simp):cV bs V g args w K:=by
 have z:=H.nd;rw[ea,gT]at z;refine⟨(·∈(SL rb sl st wd ((fs++[f]).flatMap FM.c) ((fs++[f]).flatMap FM.rows)).flatMap (·.fp)),λb v E=>?_,(y _ (Up H u F)).mono ?_⟩
 .exact z.2.2 b E b (cj.2 ⟨_,n b v,by simp[En.g]⟩) rfl
 .rintro r h ⟨P,S,Y,j,k,T,d,s,q,o,b,t,N⟩;obtain⟨i,e,l,m,rfl,rfl,B,L,rfl,D,A⟩:=Uo H s q o b;exact⟨q,O r h i e l m j k d t B L D N A⟩
def _root_.Go.W.Z.wE(H:SF M w0 w rb sl st wd fs f G ts)(n:∀g∈fs++[f],∀t∈g.ts,t∈ts)(s:sl.a=some p){g:bW}{args:Array ab}{K:aa}{Q:cQ->Addr->List FX->FX->Int->Int->List I->Prop}(o:∀own,St w rb (p.add (fs.length *10)) (fs.map FM.x) f.x st wd own ts->ah V g args w (h6 w own ts rb Q))(q:∀r l (e:J) (d:List FM) (k:FM) (m:Addr) (i j:Int) (c:List I),(∀t∈ts,t∈c)->(∀g∈d++[k],∀t∈g.ts,t∈c)->e.a=some m->(∀b∈I.bm c,b∈I.bm ts\/w0.heap.size<=b\/M b)->Q r (m.add (d.length *10)) (d.map FM.x) k.x i j c->SF M w0 l rb e i j d k G c->K r l):ah V g args w K:=by obtain⟨_,_,h⟩:=H.kG (bs:=[]) n s o q (by simp);exact h.mono λr l h=>h.2
end
def Bp(f:FM):f.x.ar.2.length=f.ar.2.length/\f.x.al.length=f.al.2.length/\f.x.an.length=f.an.2.length/\f.x.ca.length=f.ca.2.length:=by refine⟨?_,?_,?_,?_⟩<;>(show(I.au _).length=_;rw[I.fy];simp)
def wh{w:C}{own:List Nat}{ts:List I}{rb:Nat}{f0:Addr}{lo:List FX}{c:FX}{st d:Int}{g:bW}{args:Array ab}(h:ah V g args w λr e=>r=U (.tuple #[])/\h5 w own ts rb f0 lo c st d (λ_=>True) e):
  ah V g args w (h6 w own ts rb λr a b k j f _=>r=U (.tuple #[])/\a=f0/\b=lo/\k=c/\j=st/\f=d):=
 h.mono λr e ⟨n,q⟩=>⟨f0,lo,c,st,d,q.mono λ_ _=>⟨n,rfl,rfl,rfl,rfl,rfl⟩⟩
structure Small(f:FX)(n:Nat):Prop where
 n':f.n<=n
 ar:f.ar.2.length<=n
 al:f.al.length<=n
 an:f.an.length<=n
 ca:f.ca.length<=n
def wq{w:C}{rb:Nat}{f0:Addr}{lo:List FX}{z:FX}{st A:Int}{own:List Nat}{ts:List I}(h:St w rb f0 lo z st A own ts)(l:Small z 1000000):
  ah V r4 #[.pointer (some f0)] w (h6 w own ts rb λr ao aw aA az ab aa=>ao=f0/\aw=lo/\aA=AZ z/\az=st/\ab=A/\∃t∈aa,r=U t.v/\t.rx=eU z):=by
 obtain⟨H,F,f,p,rfl,rfl,h3,h4,rfl,af,h7,h8,h9,ae⟩:=h;have J:SF (·∈own) w w rb H st A F f [] ts:=by
  have:=St.tt af h7 h8 h9 ae
  grind
 refine KE.aB _ w _ (J.aN (bs:=[]) (λu w1 K=>?_) (by simp));refine(show SF (·∈own) w w1 rb H st A F f [.g u] ts from K).kG (bs:=[u]) h3 h4 (λaC s1=>wh (Gc s1 l.n' l.ca l.an l.al)) ?_ (by simp);rintro _ E ap e d p2 aq ay av t2 G B ac ⟨rfl,ag,ai,q,rfl,rfl⟩ y;rw[<-ag,<-ai];have D:((e++[d]).flatMap FM.rows)[e.length *4+(2 - 1)]? =some ((d.a5 2).1,(d.a5 2).2.flatMap I.c):=oO e d 1 _ (ru d (j:=2) (by omega) (by omega));have am:bF 4 E d.al.1 (d.al.2.flatMap I.c):=by have hP:(En.rows ((e++[d]).flatMap FM.rows)).P E:=y.get 2;exact(hP.1 _ (aE D)).bh
 refine⟨rfl,d.al.1,y.gC 1 rfl B 2,y.ax (Al 4 _ _ E am) ?_⟩;rintro _ w3 rfl N;refine⟨_,_,_,_,rfl,N.aN (bs:=[u]) (λm w4 O=>O.ak (bs:=[u,m]) (λw5 Q=>?_) (by simp)) (by simp)⟩;refine Q.il (bs:=[u,m]) (f:=d) 1 (d.put 2 (⟨none,0,0⟩,[])) 2 rfl B (by omega) rfl (λw6 S=>S.ak (bs:=[u,m]) (λw7 T=>?_) (by simp)) (by simp);have W:=T.Br 2 (e.length *4+(2 - 1)) rfl D;have Y:=W.JC 0 4 (s:=d.al.1) (ks:=d.al.2) rfl (by simp[FM.a5]) λt a=>G d (by simp) t (m4 d 2 a);have er:=rO e d (⟨none,0,0⟩,[]) (j:=2) (by omega) (by omega);have e':(([]:List I).flatMap I.c)=[]:=rfl;rw[e']at er;simp only at er;have L:Z (·∈own) w w7 (SL rb ap aq ay ((e++[d.put 2 (⟨none,0,0⟩,[])]).flatMap FM.c) ((e++[d.put 2 (⟨none,0,0⟩,[])]).flatMap FM.rows)) [.trees (av++[fN 4 d.al.1 d.al.2])]:=by rw[<-er];exact Y.take 3
 have aj:∀b∈aO d.al.1,b∈own\/w.heap.size<=b:=λb o=>(y.new (.rows ((e++[d]).flatMap FM.rows)) (by simp) b (a4.2 (cj.2 ⟨_,aE D,o⟩))).symm;have ex:(d.put 2 (⟨none,0,0⟩,[])).x=AZ f.x:=by
  have e1:d.k=f.k:=by have:=congrArg FX.k q;exact this
  have e2:(d.ar.1,I.au d.ar.2)=f.x.ar:=by have:=congrArg FX.ar q;exact this
  have e3:I.au d.an.2=[]:=by have:=congrArg FX.an q;exact this
  have e4:I.au d.ca.2=[]:=by have:=congrArg FX.ca q;exact this
  have e5:d.n=0:=by have:=congrArg FX.n q;exact this
  have e6:d.la.rx=f.x.la:=by have:=congrArg FX.la q;exact this
  show FX.mk d.k (d.ar.1,I.au d.ar.2) (I.au []) (I.au d.an.2) (I.au d.ca.2) d.n d.la.rx=_;rw[e1,e2,e3,e4,e5,e6];rfl
 refine⟨_,_,_,_,_,St.of (ts:=ts) (f0:=p2.add (e.length *10)) L 0 rfl (λg i t a=>?_) B rfl (Ej (w0:=w) (M:=F0) (λb o=>(ac b o).imp id Or.symm) aj λt a=>G d (by simp) t (m4 d 2 a)) (λt a=>bS _ (t2 t a)) ⟨rfl,rfl,ex,rfl,rfl,fN 4 d.al.1 d.al.2,by simp,rfl,?_⟩⟩
 .rcases a6.1 i with i|i
  .grind
  .simp at i;subst i;rcases yw _ _ (by omega) (by omega) a with h|h
   .grind
   grind
 .rw [Dz];have:=congrArg FX.al q;have ad:I.au d.al.2=(jH f.x).al:=this;rw[ad];rfl
def nA{p:Addr}{K:Addr->Prop}(h:K p):cd (some p) K:=h
def PU:gJ V y5 hB (.agg #[.int .i64 0,.slice none 0 0,.slice none 0 0,.slice none 0 0,.slice none 0 0,.int .i64 0,.int .i64 0,.int .u8 0,.int .u8 0,.slice none 0 0]) 10 152:=⟨by kernel_rfl,by kernel_rfl,rfl,by decide,by decide⟩
section
variable {M:Nat->Prop} {w0 w:C} {L D:List En} {bs:List Nat} {G:List En} {rb:Nat} {sl:J} {st wd:Int} {fs:List FM} {f:FM} {ts:List I} {p:Addr}
def _root_.Go.W.Z.sL(H:Z M w0 w L D)(i j:Nat){b:Nat}{vs:List ab}{T:TypeId}{v:ab}{K:C->Prop}(f:L[i]? =some (.c b vs T))(l:∀k,Z M w0 k (L.set i (.c b (vs.set j v) T)) D->K k)(o:j<vs.length)(d:∀b∈bs,En.g b∈L:=by simp):ao w ((ag b).add j) v λh=>kept bs w h/\K h:=by
 obtain⟨x,y,z⟩:=H.set (v:=v) i j f o;refine⟨x,y,λe a=>?_,l _ z⟩;have q:e≠b:=by
  rintro rfl;refine pR H f (λu m=>?_) (d _ a) (by simp[En.ob]);have A:({w with heap:=Array.replicate (u+1) (.map #[] 0)}:C).heap[e]? =some (.cells vs.toArray T (0,0)):=m
  grind
 have n:Fr (·=b) w (w.setCell ((ag b).add j) v):=Fr.set _ _ _ (by rw[iM])
 exact n.cA e (H.own _ (d _ a)) q
def yL(H:SF M w0 w rb sl st wd fs f G ts):sl.n=fs.length+1:=by
 have d:aG w hB 10 sl ((fs++[f]).flatMap FM.c):=H.get 1;have:=d.len;rw[oa]at this
 grind
def wx(H:SF M w0 w rb sl st wd fs f G ts)(b:sl.a=some p)(d:fs.length<=1000000):ah V oy #[.pointer (some (ag rb))] w λr e=>r=U (.pointer (some (p.add (fs.length *10))))/\aj w e:=by
 have j:=yL H;have h:ad .i64 (((sl.n:Nat):Int) - 1)=(fs.length:Int):=by rw[bf _ (by omega)];omega
 have c:SF M w0 w.drew rb sl st wd fs f G ts:=H.drew;refine DY.ok _ w _ (show _ from⟨sl,c.ld 0 0,sl,c.ld 0 0,?_⟩);rw[h,b];exact⟨by omega,by omega,rfl,Fr.drew _ _⟩
def Ef(H:SF M w0 w rb sl st wd fs f G ts)(k:Int)(d c:UInt8):SF M w0 w rb sl st wd fs f G (ts++[.mk k d c ⟨none,0,0⟩ []]):=by
 have h:=H.gv (.trees (ts++[.mk k d c ⟨none,0,0⟩ []])) (Fr.refl _ _) (I.iE λt a=>?_) λb j=>.inr (.inr ⟨.trees ts,by simp,?_⟩)
 .exact h.forget _ (by simp)
 .rcases a6.1 a with a|a
  .exact I.Ps.mem (H.getD 0) a
  .simp at a;subst a;show I.P w _;unfold I.P I.Ps;exact⟨bF.nil 4 w,trivial⟩
 .obtain ⟨t,a,e⟩:=I.bX.1 (a4.1 j);rcases a6.1 a with a|a
  .exact a4.2 (I.bX.2 ⟨t,a,e⟩)
  .simp at a;rw[a]at e;unfold I.fp I.bm at e;simp[En.bh]at e
def w4{k:Int}{lo hi:UInt8}{b:Nat}(h:b∈I.bm (ts++[.mk k lo hi ⟨none,0,0⟩ []])):b∈I.bm ts:=by
 obtain⟨t,c,d⟩:=I.bX.1 h;rcases a6.1 c with c|c
 .exact I.bX.2 ⟨t,c,d⟩
 .simp at c;rw[c]at d;unfold I.fp I.bm at d;simp[En.bh]at d
def Ud(H:Z M w0 w L D)(i:Nat){e:List ed}(c:L[i]? =some (.rows e))(n:Nat):Z M w0 w (L.set i (.rows (e++List.replicate n (⟨none,0,0⟩,[])))) D:=by
 have h:(En.rows e).P w:=H.get i c;have k:(e++List.replicate n ((⟨none,0,0⟩,[]):ed)).flatMap (λd:ed=>aO d.1)=e.flatMap λd:ed=>aO d.1:=by
  rw[ea];have:(List.replicate n ((⟨none,0,0⟩,[]):ed)).flatMap (λd:ed=>aO d.1)=[]:=by
   induction n with
   |zero=>rfl
   |succ n q=>rw[List.replicate_succ,dT,q];rfl
  grind
 refine H.g' i _ c (Fr.refl _ _) ⟨λd a=>?_,by rw[k];exact h.2⟩ λb j=>.inl (a4.2 (by have:=a4.1 j;grind));rcases a6.1 a with a|a
 .exact h.1 d a
 .rw [List.eq_of_mem_replicate a];exact aG.nil _ _ _
end
def km(k:Int):FX:=⟨k,(⟨none,0,0⟩,[]),[],[],[],0,fx⟩
def iB(k:Int):FM:=⟨k,(⟨none,0,0⟩,[]),(⟨none,0,0⟩,[]),(⟨none,0,0⟩,[]),(⟨none,0,0⟩,[]),0,.mk 0 0 0 ⟨none,0,0⟩ []⟩
def yn{w:C}{rb:Nat}{f0:Addr}{lo:List FX}{d:FX}{st e:Int}{own:List Nat}{ts:List I}(h:St w rb f0 lo d st e own ts):∃(c:J) (b:List FM) (f:FM) (p:Addr),b.map FM.x=lo/\f.x=d/\(∀g∈b++[f],∀t∈g.ts,t∈ts)/\c.a=some p/\f0=p.add (b.length *10)/\SF (·∈own) w w rb c st e b f [] ts:=by
 obtain⟨c,b,f,p,j,n,q,u,y,z,A,B,D,k⟩:=h;refine⟨c,b,f,p,j,n,q,u,y,?_⟩;have:=St.tt z A B D k
 grind
def Gq{w:C}{rb:Nat}{f0:Addr}{lo:List FX}{A:FX}{st q:Int}{own:List Nat}{ts:List I}(h:St w rb f0 lo A st q own ts)(Y:lo.length<=1000000)(d i:Int):
  ah V xZ #[.pointer (some (ag rb)),.int .i64 d,.int .i64 i] w (h6 w own ts rb λr _ o O s Q _=>r=U (.bool true)/\o=lo++[A]/\O=km d/\s=i/\Q=q):=by
 obtain⟨z,j,f,p,rfl,rfl,T,W,rfl,y⟩:=yn h;have hn:=yL y;have aa:j.length<=1000000:=by grind
 refine KL.ok _ _ _ w _ ⟨z,y.ld 0 0,y.cB (e:=hB) (sz:=10) (n:=1) (cs:=(iB d).c) rfl (by decide) λw1 m=>?_⟩;refine m.FC 1 PU (src:=⟨some (ag w.heap.size),1,1⟩) (news:=(iB d).c) rfl (aG.bh (m.get 3)).2.2 rfl (by simp[FM.c,iB,Value.oneCell']) (by grind) λk P D S ab _=>?_;obtain⟨x,N⟩:∃x,k.a=some x:=by
  cases hs:k.a with
  |none=>grind
  |some x=>grind
 have E:Z (·∈own) w P [.c rb [z.v,.int .i64 st,.int .i64 q] vK,.row hB 10 k ((j++[f]).flatMap FM.c++(iB d).c),.rows ((j++[f]).flatMap FM.rows)] [.trees ts]:=D.take 3;refine E.st 0 0 rfl (λw3 F=>F.st 0 1 rfl (λB G=>?_));have H:=Ud G 2 rfl 4;have J:SF (·∈own) w B rb k i q (j++[f]) (iB d) [] ts:=by show Z _ _ _ (SL rb k i q ((j++[f]++[iB d]).flatMap FM.c) ((j++[f]++[iB d]).flatMap FM.rows)++[]) _;rw[List.append_nil,ea (xs:=j++[f]),ea (xs:=j++[f])];simpa[show(iB d).rows=[(⟨none,0,0⟩,[]),(⟨none,0,0⟩,[]),(⟨none,0,0⟩,[]),(⟨none,0,0⟩,[])]from rfl]using H
 have K:=Ef J 0 0 0;have L:Z (·∈own) w B (SL rb k i q ((j++[f]++[iB d]).flatMap FM.c) ((j++[f]++[iB d]).flatMap FM.rows)) [.trees (ts++[.mk 0 0 0 ⟨none,0,0⟩ []])]:=K.take 3;refine⟨_,_,_,_,_,St.of (ts:=ts) (p:=x) (f0:=x.add ((j++[f]).length *10)) L 0 rfl (λg u t l=>?_) N rfl (λb M=>.inl (w4 M)) (λt l=>bS _ l) ⟨rfl,?_,rfl,rfl,rfl⟩⟩
 .rcases a6.1 u with u|u
  .grind
  .simp at u;subst u;simp[FM.ts,iB]at l
   grind
 .simp
def iu(a:FX)(x:Rx):FX:=⟨a.k,a.ar,a.al,a.an,a.ca,a.n,x⟩
def Ah{w:C}{rb:Nat}{f0:Addr}{lo:List FX}{D:FX}{st z:Int}{own:List Nat}{ts:List I}(h:St w rb f0 lo D st z own ts)(hl:lo.length<=1000000)(t:I)(j:t∈ts):
  ah V ox #[.pointer (some (ag rb)),t.v] w (h6 w own ts rb λr i m T o aa _=>r=U (.bool true)/\i=f0/\m=lo/\T=iu D t.rx/\o=3/\aa=z):=by
 obtain⟨B,d,f,p,rfl,rfl,x,q,rfl,E⟩:=yn h;have S:d.length<=1000000:=by grind
 refine KJ.aB _ _ _ _ _ w _ (E.aN (bs:=[]) (λe w1 ab=>ab.ak (bs:=[e]) (λW ac=>?_) (by simp)) (by simp));have A:SF (·∈own) w W rb B st z d f [.g e] ts:=ac;refine A.ax (wx A q S) ?_;rintro _ w3 rfl F;refine⟨_,rfl,nA ?_⟩;refine F.il (bs:=[e]) (f:=f) 1 ⟨f.k,f.ar,f.al,f.an,f.ca,f.n,.mk t.k f.la.lo f.la.hi f.la.s f.la.l⟩ 6 rfl q (by omega) rfl (λw4 G=>?_) (by simp);have N:((p.add (d.length *10)).add 6).add 1=(p.add (d.length *10)).add 7:=add_add _ 6 1;have O:((p.add (d.length *10)).add 6).add 2=(p.add (d.length *10)).add 8:=add_add _ 6 2;have P:((p.add (d.length *10)).add 6).add 3=(p.add (d.length *10)).add 9:=add_add _ 6 3;rw[N,O,P];refine G.il (bs:=[e]) (f:=⟨f.k,f.ar,f.al,f.an,f.ca,f.n,.mk t.k f.la.lo f.la.hi f.la.s f.la.l⟩) 1 ⟨f.k,f.ar,f.al,f.an,f.ca,f.n,.mk t.k t.lo f.la.hi f.la.s f.la.l⟩ 7 rfl q (by omega) rfl (λw5 H=>?_) (by simp);refine H.il (bs:=[e]) (f:=⟨f.k,f.ar,f.al,f.an,f.ca,f.n,.mk t.k t.lo f.la.hi f.la.s f.la.l⟩) 1 ⟨f.k,f.ar,f.al,f.an,f.ca,f.n,.mk t.k t.lo t.hi f.la.s f.la.l⟩ 8 rfl q (by omega) rfl (λw6 J=>?_) (by simp);refine J.il (bs:=[e]) (f:=⟨f.k,f.ar,f.al,f.an,f.ca,f.n,.mk t.k t.lo t.hi f.la.s f.la.l⟩) 1 ⟨f.k,f.ar,f.al,f.an,f.ca,f.n,t⟩ 9 rfl q (by omega) rfl (λw7 K=>?_) (by simp);refine K.sL (bs:=[e]) 0 1 rfl (λY L=>?_) (by simp) (by simp);have er:(d++[f]).flatMap FM.rows=(d++[(⟨f.k,f.ar,f.al,f.an,f.ca,f.n,t⟩:FM)]).flatMap FM.rows:=by simp[FM.rows]
 have M:Z (·∈own) w Y (SL rb B 3 z ((d++[(⟨f.k,f.ar,f.al,f.an,f.ca,f.n,t⟩:FM)]).flatMap FM.c) ((d++[(⟨f.k,f.ar,f.al,f.an,f.ca,f.n,t⟩:FM)]).flatMap FM.rows)) [.trees ts]:=by rw[<-er];exact L.take 3
 refine⟨_,_,_,_,_,St.of (ts:=ts) (f0:=p.add (d.length *10)) M 0 rfl (λg u y a=>?_) q rfl (λb Q=>.inl Q) (λt j=>j) ⟨rfl,rfl,rfl,rfl,rfl,rfl⟩⟩;rcases a6.1 u with u|u
 .grind
 .simp at u;subst u;simp only[FM.ts,a6,ay,aW,a3]at a;rcases a with(((a|a)|a)|a)|rfl
  .exact x f (by simp) y (by simp[FM.ts,a])
  .exact x f (by simp) y (by simp[FM.ts,a])
  .exact x f (by simp) y (by simp[FM.ts,a])
  .exact x f (by simp) y (by simp[FM.ts,a])
  omega
structure Tk where
 k:UInt8
 lo:UInt8
 hi:UInt8
 s:List UInt8
 a:Int
abbrev Tk.v(t:Tk):ab:=.agg #[.int .u8 (t.k.toNat:Int),.int .u8 (t.lo.toNat:Int),.int .u8 (t.hi.toNat:Int),.string (ba t.s),.int .i64 t.a]
structure SX where
 lo:List FX
 tp:FX
 st:Int
 wd:Int
def zf:List UInt8:=[110,111,110,101]
def ze:List UInt8:=[101,109,112,116,121]
def zc:List UInt8:=[97,108,116]
def zb:List UInt8:=[97,108,108]
def zd:List UInt8:=[99,97,116]
def fD(t:Tk)(s:SX):Option SX:=
 if t.k=33 then some ⟨s.lo,⟨s.tp.k,s.tp.ar,s.tp.al,s.tp.an,s.tp.ca,s.tp.n+1,s.tp.la⟩,0,s.wd⟩
 else if t.k=40 then some ⟨s.lo++[s.tp],km (-1),0,s.wd⟩
 else if t.k=114 then some ⟨s.lo,iu s.tp (.mk 2 t.lo t.hi []),3,s.wd⟩
 else if t.k=119 then
  if t.s=zf then some ⟨s.lo,iu s.tp (.mk 0 0 0 []),3,s.wd⟩
  else if t.s=ze then some ⟨s.lo,iu s.tp (.mk 1 0 0 []),3,s.wd⟩
  else if t.s=zc then some ⟨s.lo,s.tp,2,4⟩
  else if t.s=zb then some ⟨s.lo,s.tp,2,5⟩
  else if t.s=zd then some ⟨s.lo,s.tp,2,3⟩
  else none
 else none
def v7(o:Option SX):cQ->Addr->List FX->FX->Int->Int->List I->Prop:=λr _ a c b d _=>(o=none/\r=U (.bool false))\/(o=some ⟨a,c,b,d⟩/\r=U (.bool true))
section
variable {w w':C} {own:List Nat} {G:List En} {rb:Nat} {sl:J} {st wd:Int} {fs:List FM} {f:FM} {ts vI:List I} {p:Addr}
def g7{Q:cQ->Addr->List FX->FX->Int->Int->List I->Prop}{r:cQ}(H:SF (·∈own) w w' rb sl st wd fs f G vI)(c:∀g∈fs++[f],∀t∈g.ts,t∈vI)(e:sl.a=some p)(d:∀b∈I.bm vI,b∈I.bm ts\/w.heap.size<=b\/b∈own)(i:∀t∈ts,t∈vI)(j:Q r (p.add (fs.length *10)) (fs.map FM.x) f.x st wd vI):h6 w own ts rb Q r w':=
 ⟨_,_,_,_,_,St.of (ts:=ts) (f0:=p.add (fs.length *10)) (H.take 3) 0 rfl c e rfl (λb h=>(d b h).imp id Or.symm) i j⟩
end
def Vr(s:List UInt8):(ba s).toList=s:=by rw[ByteArray.toList_eq];rfl
def Vs(a:Array UInt8):(av a).toList=a.toList:=by rw[ByteArray.toList_eq]
def vy{s:List UInt8}{a:Array UInt8}{A d:Prop}(b:s=a.toList->A)(c:s≠a.toList->d):Y ((ba s).toList==(av a).toList) A d:=by rw[Vr,Vs];exact cK (λe=>b (by grind)) (λe=>c (by grind))
def i3{x:UInt8}{n:Nat}{A d:Prop}(c:n<256)(a:x=dP n->A)(b:x≠dP n->d):Y (((x.toNat:Nat):Int)==(n:Int)) A d:=by
 have e:∀x:UInt8,x.toNat=n↔x=dP n:=λx=>by rw[<-UInt8.toNat_inj,UInt8.toNat_ofNat'];omega
 exact cK (λh=>a ((e x).1 (by grind))) (λh=>b λj=>by grind)
def OI{w:C}{rb:Nat}{f0:Addr}{lo:List FX}{N:FX}{st e:Int}{own:List Nat}{ts:List I}(h:St w rb f0 lo N st e own ts)(W:lo.length<=1000000)(hn:N.n<=1000000)(t:Tk):
  ah V r5 #[.pointer (some (ag rb)),t.v] w (h6 w own ts rb (v7 (fD t ⟨lo,N,st,e⟩))):=by
 obtain⟨D,c,f,p,rfl,rfl,A,q,rfl,Z⟩:=yn h;have ai:c.length<=1000000:=by grind
 have aD:f.n<=1000000:=hn;have base:∀b∈I.bm ts,b∈I.bm ts\/w.heap.size<=b\/b∈own:=λb hb=>.inl hb;refine DX.aB _ _ _ _ _ _ w _ (Z.aN (bs:=[]) (λd w1 u=>?_) (by simp));have u:SF (·∈own) w w1 rb D st e c f [.g d] ts:=u;have leaf:∀(k:Int) (a b:UInt8) {l:C} {Y O:Int},SF (·∈own) w l rb D Y O c f [.g d] ts->fD t ⟨c.map FM.x,f.x,st,e⟩=some ⟨c.map FM.x,iu f.x (.mk k a b []),3,O⟩->
   cV [d] V ox #[.pointer (some (ag rb)),.agg #[.i k,.int .u8 (a.toNat:Int),.int .u8 (b.toNat:Int),.slice none 0 0]] l λr_ w6=>∃P:Bool,r_=U (.bool P)/\h6 w own ts rb (v7 (fD t ⟨c.map FM.x,f.x,st,e⟩)) (U (.bool P)) w6:=by
  intro k a b l Y O j K;have o:=Ef j k a b;refine o.kG (bs:=[d]) (λg m E B=>bS _ (A g m E B)) q (λae L=>Ah L W (.mk k a b ⟨none,0,0⟩ []) (by simp)) ?_ (by simp);rintro _ F aj af f3 p3 ap ay aq M H J G ⟨rfl,aC,S,T,rfl,rfl⟩ r;refine⟨true,rfl,g7 r H J (λaz hx=>?_) (λE B=>M E (bS _ B)) (.inr ⟨?_,rfl⟩)⟩
  .rcases G az hx with h|h
   .exact .inl (w4 h)
   grind
  .rw [K,S,T];rfl
 refine i3 (n:=33) (by omega) (λz:t.k=33=>u.ax (wx u q ai) ?_) (λav:t.k≠33=>i3 (n:=40) (by omega) (λz:t.k=40=>?_) (λaw:t.k≠40=>i3 (n:=114) (by omega) (λz:t.k=114=>?_) (λak:t.k≠114=>i3 (n:=119) (by omega) (λz:t.k=119=>?_) (λam:t.k≠119=>?_))))
 .rintro _ l rfl j;refine⟨_,rfl,nA ⟨_,j.gC 1 rfl q 5,nA ?_⟩⟩;have aa:ad .i64 ((f.n:Int)+1)=((f.n+1:Nat):Int):=by rw[bf _ (by omega)];omega
  rw[aa];refine j.il (bs:=[d]) (f:=f) 1 ⟨f.k,f.ar,f.al,f.an,f.ca,f.n+1,f.la⟩ 5 rfl q (by omega) rfl (λF o=>?_) (by simp);refine o.sL (bs:=[d]) 0 1 rfl (λau r=>?_) (by simp) (by simp);have er:(c++[f]).flatMap FM.rows=(c++[(⟨f.k,f.ar,f.al,f.an,f.ca,f.n+1,f.la⟩:FM)]).flatMap FM.rows:=by simp[FM.rows]
  have H5:SF (·∈own) w au rb D 0 e c ⟨f.k,f.ar,f.al,f.an,f.ca,f.n+1,f.la⟩ [.g d] ts:=by grind
  refine g7 H5 (λg m E B=>?_) q base (λ_ h=>h) (.inr ⟨?_,rfl⟩)
  .rcases a6.1 m with m|m
   .grind
   .simp at m;subst m;exact A f (by simp) E B
  .unfold fD;rw[aA z];rfl
 .refine u.kG (bs:=[d]) A q (λae L=>Gq L W (-1) 0) ?_ (by simp);rintro _ F aj af f3 p3 ap ay aq M H J G ⟨rfl,S,T,rfl,rfl⟩ r;refine⟨true,rfl,g7 r H J G M (.inr ⟨?_,rfl⟩)⟩;unfold fD
  grind
 .exact leaf 2 t.lo t.hi u (by unfold fD;grind)
 .refine u.sL (bs:=[d]) 0 1 rfl (λl j=>?_) (by simp) (by simp);have j:SF (·∈own) w l rb D 2 e c f [.g d] ts:=j;have ei:fD t ⟨c.map FM.x,f.x,st,e⟩=if t.s=zf then some ⟨c.map FM.x,iu f.x (.mk 0 0 0 []),3,e⟩else if t.s=ze then some ⟨c.map FM.x,iu f.x (.mk 1 0 0 []),3,e⟩else if t.s=zc then some ⟨c.map FM.x,f.x,2,4⟩else if t.s=zb then some ⟨c.map FM.x,f.x,2,5⟩else if t.s=zd then some ⟨c.map FM.x,f.x,2,3⟩else none:=by
   unfold fD
   grind
  have word:∀(k:Int),fD t ⟨c.map FM.x,f.x,st,e⟩=some ⟨c.map FM.x,f.x,2,k⟩->ao l ((ag rb).add 2) (.i k) λQ=>kept [d] l Q/\DX.aS Q (h6 w own ts rb (v7 (fD t ⟨c.map FM.x,f.x,st,e⟩))):=λk K=>
   j.sL (bs:=[d]) 0 2 rfl (λF o=>g7 (show SF (·∈own) w F rb D 2 k c f [.g d] ts from o) A q base (λ_ h=>h) (.inr ⟨K,rfl⟩)) (by simp) (by simp)
  refine vy (λy:t.s=zf=>leaf 0 0 0 j (by grind)) (λn1:t.s≠zf=>vy (λy:t.s=ze=>leaf 1 0 0 j (by grind)) (λn2:t.s≠ze=>vy (λy:t.s=zc=>word 4 (by grind)) (λn3:t.s≠zc=>vy (λy:t.s=zb=>word 5 (by grind)) (λn4:t.s≠zb=>vy (λy:t.s=zd=>word 3 (by grind)) (λn5:t.s≠zd=>?_)))));exact g7 j A q base (λ_ h=>h) (.inl ⟨by grind,rfl⟩)
 .exact g7 u A q base (λ_ h=>h) (.inl ⟨by unfold fD;grind,rfl⟩)
def Tn{w:C}{e:TypeId}{sz:Nat}{s:J}{xs:List ab}{p:Addr}(h:aG w e sz s xs)(d:s.a=some p)(n:Nat)(b:n<=s.n):aG w e sz ⟨s.a,n,s.c⟩ (xs.take (n *sz)):=by
 have z:=h.len;rcases h.cases with⟨rfl,_⟩|⟨g,cur,u,x,j,k,q,y⟩
 .cases d
 .have A:n *sz<=s.n *sz:=Nat.mul_le_mul_right _ b;refine⟨by grind,.inr ⟨g,s.c,cur,by rw[u],fj _,x,bB b j,k,q,?_⟩⟩
  grind
section
variable {M:Nat->Prop} {w0 w:C} {L D A:List En} {bs:List Nat} {G:List En} {rb:Nat} {ts:List I}
def K1(H:Z M w0 w L D)(i:Nat){c h:List ed}(a:L[i]? =some (.rows (c++h))):Z M w0 w (L.set i (.rows c)) D:=by have d:(En.rows (c++h)).P w:=H.get i a;have e:=d.2;rw[ea,gT]at e;refine H.g' i _ a (Fr.refl _ _) ⟨λn k=>d.1 n (bS _ k),e.1⟩ λb j=>.inl (a4.2 ?_);rw[ea];exact bS _ (a4.1 j)
def RS(H:Z M w0 w (A++G) [.trees ts]):Z (·∈A.flatMap (·.fp)) w w A [.trees ts]:=by have e:=H.nd;rw[ea,gT]at e;refine Z.sK _ _ (λd a=>⟨H.own d (bS _ a),λb c=>cj.2 ⟨d,a,c⟩⟩) e.1 λd a=>?_;simp only[ay,aW,a3]at a;subst a;exact⟨H.getD 0,λb c g f h=>H.dj (.trees ts) (by simp) b c g (bS _ f) h⟩
def RP(H:Z M w0 w (A++G) [.trees ts]){w':C}{B:Addr}{D:List FX}{L:FX}{K N:Int}{z:List Nat}{h:List I}(s:St w' rb B D L K N z h)(F:Fr (·∈A.flatMap (·.fp)) w w')(o:∀k∈z,k∈A.flatMap (·.fp)\/w.heap.size<=k)(d:∀b∈I.bm h,b∈I.bm ts\/b∈A.flatMap (·.fp)\/w.heap.size<=b):
  ∃(l:J) (f:List FM) (m:FM) (n:Addr),f.map FM.x=D/\m.x=L/\(∀g∈f++[m],∀t∈g.ts,t∈h)/\l.a=some n/\B=n.add (f.length *10)/\(∀b∈I.bm h,b∈I.bm ts\/w0.heap.size<=b\/M b)/\SF M w0 w' rb l K N f m G h:=by
 obtain⟨l,f,m,n,P,Q,S,T,W,Y,h7,h8,h9,af⟩:=s;have y:=H.nd;rw[ea,gT]at y;have E:∀b∈A.flatMap (·.fp),w0.heap.size<=b\/M b:=λb d=>by obtain⟨e,c,q⟩:=cj.1 d;exact H.new e (bS _ c) b q
 have ae:∀e∈G,∀b∈e.fp,b<w.heap.size:=λe c b d=>e.lt w (H.own e (ef _ c)) b d;have O:∀e∈G,∀b∈e.fp,b∉A.flatMap (·.fp):=λe c b d p=>y.2.2 b p b (cj.2 ⟨e,c,d⟩) rfl;have ab:=H.fr.size;have ag:∀b∈z,w0.heap.size<=b\/M b:=λb d=>(o b d).elim (E b) λj=>.inl (bB ab j);refine⟨l,f,m,n,P,Q,S,T,W,λb i=>?_,H.fr.trans F λk ad p=>(E k p).resolve_left (by omega),λe c=>?_,λe c=>?_,λe c b i=>?_,?_,λe c b i ac u q=>?_⟩
 .grind
 .rcases a6.1 c with c|c
  .grind
  .exact e.st w w' (λb d v=>F.cA b v (O e c b d)) (H.own e (ef _ c))
 .simp at c;subst c;exact h9
 .rcases a6.1 c with c|c
  .grind
  .exact H.new e (ef _ c) b i
 .rw [ea,gT];refine⟨Y▸h7,y.2.1,λk ad ah hy r=>?_⟩;subst r;obtain⟨e,c,q⟩:=cj.1 hy
  grind
 .simp at c;subst c;have aa:b∈I.bm h:=a4.1 i;rcases a6.1 u with u|u
  .grind
  .rcases d b aa with j|j|j
   .exact H.dj (.trees ts) (by simp) b (a4.2 j) ac (ef _ u) q
   .grind
   grind
def _root_.Go.W.Z.PJ(H:Z M w0 w (A++G) [.trees ts]){g:bW}{args:Array ab}{K:aa}{Q:cQ->Addr->List FX->FX->Int->Int->List I->Prop}(n:∀own,Z (·∈own) w w A [.trees ts]->ah V g args w (h6 w own ts rb Q))(u:∀r h (e:J) (d:List FM) (j:FM) (k:Addr) (f i:Int) (c:List I),(∀t∈ts,t∈c)->(∀g∈d++[j],∀t∈g.ts,t∈c)->e.a=some k->(∀b∈I.bm c,b∈I.bm ts\/w0.heap.size<=b\/M b)->Q r (k.add (d.length *10)) (d.map FM.x) j.x f i c->SF M w0 h rb e f i d j G c->K r h)(l:∀b∈bs,En.g b∈G:=by simp):cV bs V g args w K:=by
 have q:=H.nd;rw[ea,gT]at q;refine⟨(·∈A.flatMap (·.fp)),λb m p=>?_,(n _ (RS H)).mono ?_⟩
 .exact q.2.2 b p b (cj.2 ⟨_,l b m,by simp[En.g]⟩) rfl
 .rintro r h ⟨B,L,P,f,i,N,c,s,y,o,b,t,O⟩;obtain⟨e,d,j,k,rfl,rfl,D,F,rfl,E,z⟩:=RP H s y o b
  grind
def RR(H:Z M w0 w L [.trees ts])(T:I)(e:T∈ts)(k:Int)(d c:UInt8):Z M w0 w L [.trees (ts++[.mk k d c T.s T.l])]:=by
 have j:I.Ps w ts:=H.getD 0;have n:=H.gv (.trees (ts++[.mk k d c T.s T.l])) (Fr.refl _ _) (I.iE λt a=>?_) λb f=>.inr (.inr ⟨.trees ts,by simp,?_⟩)
 .exact n.forget _ (by simp)
 .rcases a6.1 a with a|a
  .exact j.mem a
  .simp at a;subst a;unfold I.P;exact(j.mem e).parts
 .obtain ⟨t,a,h⟩:=I.bX.1 (a4.1 f);rcases a6.1 a with a|a
  .exact a4.2 (I.bX.2 ⟨t,a,h⟩)
  .simp at a;rw[a]at h;exact a4.2 (I.bX.2 ⟨T,e,I.gb.2 ((I.gb (t:=.mk k d c T.s T.l)).1 h)⟩)
def RV{T:I}(a:T∈ts){k:Int}{lo hi:UInt8}{b:Nat}(h:b∈I.bm (ts++[.mk k lo hi T.s T.l])):b∈I.bm ts:=by
 obtain⟨t,c,d⟩:=I.bX.1 h;rcases a6.1 c with c|c
 .exact I.bX.2 ⟨t,c,d⟩
 .simp at c;rw[c]at d;exact I.bX.2 ⟨T,a,I.gb.2 ((I.gb (t:=.mk k lo hi T.s T.l)).1 d)⟩
def RQ(H:Z M w0 w L [.trees ts])(T:I)(c:T∈ts):Z M w0 w L [.trees (ts++T.l)]:=by
 have e:I.Ps w ts:=H.getD 0;have h:=H.gv (.trees (ts++T.l)) (Fr.refl _ _) (I.iE λt a=>?_) λb j=>.inr (.inr ⟨.trees ts,by simp,?_⟩)
 .exact h.forget _ (by simp)
 .rcases a6.1 a with a|a
  .exact e.mem a
  .exact (e.mem c).parts.2.mem a
 .obtain ⟨t,a,d⟩:=I.bX.1 (a4.1 j);rcases a6.1 a with a|a
  .exact a4.2 (I.bX.2 ⟨t,a,d⟩)
  .exact a4.2 (I.bX.2 ⟨T,c,I.gb.2 (.inr (I.bX.2 ⟨t,a,d⟩))⟩)
def Ry{T:I}(a:T∈ts){b:Nat}(h:b∈I.bm (ts++T.l)):b∈I.bm ts:=by
 obtain⟨t,c,d⟩:=I.bX.1 h;rcases a6.1 c with c|c
 .exact I.bX.2 ⟨t,c,d⟩
 .exact I.bX.2 ⟨T,a,I.gb.2 (.inr (I.bX.2 ⟨t,c,d⟩))⟩
end
def O2{w:C}{rb:Nat}{d:J}{p:Addr}{n:Nat}(b:w.cell? ((ag rb).add 0)=some d.v)(f:d.n=n+1)(c:d.a=some p)(g:n<=1000000):ah V oy #[.pointer (some (ag rb))] w λr h=>r=U (.pointer (some (p.add (n *10))))/\aj w h:=by
 have j:ad .i64 (((d.n:Nat):Int) - 1)=(n:Int):=by rw[bf _ (by omega)];omega
 have e:w.drew.cell? ((ag rb).add 0)=some d.v:=b;refine DY.ok _ w _ (show _ from⟨d,e,d,e,?_⟩);rw[j,c];exact⟨by omega,by omega,rfl,Fr.drew _ _⟩
def lq(k:Int)(l:List Rx):Rx:=if k<0 then l.headD fx else .mk k 0 0 l
def Ov{w:C}{rb:Nat}{d:J}{st y:Int}{e:List FM}{g f:FM}{ts:List I}{p:Addr}{own:List Nat}(H:Z (·∈own) w w [.c rb [d.v,.int .i64 st,.int .i64 y] vK,.row hB 10 d (((e++[g])++[f]).flatMap FM.c),.rows ((e++[g]).flatMap FM.rows)] [.trees ts])(h3:∀A∈e++[g],∀t∈A.ts,t∈ts)(j:d.a=some p)(hl:e.length<=999999)(T:I)(o:T∈ts)(hk:0<=f.k\/T.l≠[]):
  ah V uQ #[.pointer (some (ag rb)),T.s.v] w (h6 w own ts rb λr _ af aj ac ai _=>r=U (.bool true)/\af=e.map FM.x/\aj=iu g.x (lq f.k (I.au T.l))/\ac=3/\ai=y):=by
 have hn:d.n=(e++[g]).length+1:=by
  have q:aG w hB 10 d (((e++[g])++[f]).flatMap FM.c):=H.get 1;have:=q.len;rw[oa]at this
  grind
 have aw:1<=d.c:=by have q:aG w hB 10 d (((e++[g])++[f]).flatMap FM.c):=H.get 1;have:=q.cap;omega
 refine KK.ok _ _ w _ (H.call (O2 (H.ld 0 0) hn j (by grind)) ?_);rintro _ w1 rfl H1;refine⟨_,rfl,nA ⟨_,H1.gC 1 rfl j 0,?_⟩⟩;have B:=H1.drew;refine⟨d,B.ld 0 0,d,B.ld 0 0,?_⟩;have ak:ad .i64 (((d.n:Nat):Int) - 1)=(((e++[g]).length:Nat):Int):=by rw[bf _ (by grind)];omega
 rw[ak];have q:aG w hB 10 d (((e++[g])++[f]).flatMap FM.c):=H.get 1;have ay:=q.cap;refine⟨by omega,by omega,?_⟩;have ev:Value.slice (if d.c=0 then d.a else d.a.map (·.add (0 *10))) ((ae (((e++[g]).length:Nat):Int)) - 0) (d.c - 0)=(⟨d.a,(e++[g]).length,d.c⟩:J).v:=by rw[aq (by omega),j];show Value.slice (some (p.add 0)) _ _=Value.slice (some p) _ _;rw[kD];simp
 rw[ev];refine B.st 0 0 rfl λm H3=>?_;have an:aG m hB 10 d (((e++[g])++[f]).flatMap FM.c):=H3.get 1;have aa:=Tn an j (e++[g]).length (by omega);have et:(((e++[g])++[f]).flatMap FM.c).take ((e++[g]).length *10)=(e++[g]).flatMap FM.c:=by rw[ea,<-oa,List.take_left'];rfl
 rw[et]at aa;have H4:=H3.g' 1 (.row hB 10 ⟨d.a,(e++[g]).length,d.c⟩ ((e++[g]).flatMap FM.c)) rfl (Fr.refl _ _) aa λb u=>.inl u;have D:SF (·∈own) w m rb ⟨d.a,(e++[g]).length,d.c⟩ st y e g [] ts:=by grind
 refine cK (λY=>?_) (λY=>?_)
 .have O:f.k<0:=hC Y;have am:T.l≠[]:=hk.resolve_left (by omega);obtain⟨A,l,hx⟩:=List.exists_cons_of_ne_nil am;have hr:bF 4 m T.s (T.l.flatMap I.c):=((show I.Ps m ts from D.getD 0).mem o).parts.1;have ax:=I.cu hr;refine⟨by omega,by grind,I.di hr (i:=0) (t:=A) (by grind) λaz hq z=>⟨_,_,_,_,z.c0,z.c1,z.c2,z.c3,?_⟩⟩;have E:=RQ D T o;refine(show SF (·∈own) w m rb ⟨d.a,(e++[g]).length,d.c⟩ st y e g [] (ts++T.l)from E).wE (λW P t h=>bS _ (h3 W P t h)) j (λab Q=>Ah Q (by grind) A (by grind)) ?_;rintro _ w4 ao al f4 p4 ap av ar S K L G ⟨rfl,_,M,N,rfl,rfl⟩ F;refine⟨true,rfl,g7 F K L (λb u=>(G b u).imp (Ry o) id) (λt h=>S t (bS _ h)) ⟨rfl,M,?_,rfl,rfl⟩⟩;rw[N,hx];unfold lq;rw[aA O];rfl
 .have O:¬f.k<0:=qP Y;have E:=RR D T o f.k 0 0;refine(show SF (·∈own) w m rb ⟨d.a,(e++[g]).length,d.c⟩ st y e g [] (ts++[.mk f.k 0 0 T.s T.l])from E).wE (λW P t h=>bS _ (h3 W P t h)) j (λab Q=>Ah Q (by grind) (.mk f.k 0 0 T.s T.l) (by simp)) ?_;rintro _ w4 ao al f4 p4 ap av ar S K L G ⟨rfl,_,M,N,rfl,rfl⟩ F;refine⟨true,rfl,g7 F K L (λb u=>(G b u).imp (RV o) id) (λt h=>S t (bS _ h)) ⟨rfl,M,?_,rfl,rfl⟩⟩;rw[N];unfold lq;rw[aq O];rfl
def kF(s:SX)(l:List Rx):Option SX:=match s.lo.getLast? with
 |none=>none
 |some g=>some ⟨s.lo.dropLast,iu g (lq s.tp.k l),3,s.wd⟩
def FE(a:J)(f:FX):FX:=⟨f.k,(a,f.ar.2++[eU f]),[],[],[],0,f.la⟩
def fC(a:J)(t:Tk)(s:SX):Option SX:=
 if s.st=2 then(if t.k=40 then some ⟨s.lo++[s.tp],km s.wd,1,s.wd⟩else none)
 else if s.st=1 then(if t.k=41 then kF s []else fD t s)
 else if s.st=0 then fD t s
 else if t.k=42 then some ⟨s.lo,iu s.tp (.mk 7 0 0 [s.tp.la]),s.st,s.wd⟩
 else if t.k=38 then some ⟨s.lo,jI s.tp,0,s.wd⟩
 else if t.k=124 then some ⟨s.lo,jH s.tp,0,s.wd⟩
 else if t.k=44 then(if s.tp.k<0 then none else some ⟨s.lo,FE a s.tp,0,s.wd⟩)
 else if t.k=41 then(if s.lo=[]then none else kF s (s.tp.ar.2++[eU s.tp]))
 else if t.k=36 then(if s.lo=[]then some s else none)
 else fD t ⟨s.lo,kc s.tp,s.st,s.wd⟩
section
variable {M:Nat->Prop} {w0 w1:C} {bs:List Nat} {G:List En} {rb:Nat} {sl:J} {st wd:Int} {fs:List FM} {f:FM} {ts:List I} {p:Addr}
abbrev Ff(M:Nat->Prop)(j w:C)(b:Nat)(e:J)(g k:Int)(a:List FM)(f:FM)(d:List ed)(G:List En)(i:List I):Prop:=Z M j w (SL b e g k ((a++[f]).flatMap FM.c) d++G) [.trees i]
def Kc(D:SF M w0 w1 rb sl st wd fs f G ts)(i:Nat){src:J}(hi:(SL rb sl st wd ((fs++[f]).flatMap FM.c) ((fs++[f]).flatMap FM.rows)++G)[i]? =some (.row aV 4 src z4))(B:sl.a=some p)(d:Nat)(j:1<=d)(l:d<=4)(t:I)(S:(f.a5 d).2.length<=1000000)(ab:src.n=1){K:C->Prop}(hK:∀e r,SF M w0 r rb sl st wd fs (f.put d (e,(f.a5 d).2++[t])) G ts->K r)(ai:∀b∈bs,En.g b∈G:=by simp):
  ∃(m:J) (o:C),(bg #[cE,cE] cE #[(f.a5 d).1.v,src.v]).run V w1=.ok (m.v) o/\kept bs w1 o/\(0:Int)<=(((f.a5 d).1.n:Nat):Int)/\(((f.a5 d).1.n:Nat):Int)<((m.n:Nat):Int)/\cd m.a λh=>
   ((ao o (h.add (ae (((f.a5 d).1.n:Nat):Int) *4)) (.int .i64 t.k) λq=>kept bs o q/\ao q ((h.add (ae (((f.a5 d).1.n:Nat):Int) *4)).add 1) (.int .u8 (t.lo.toNat:Int)) λu=>kept bs q u/\ao u ((h.add (ae (((f.a5 d).1.n:Nat):Int) *4)).add 2) (.int .u8 (t.hi.toNat:Int)) λw=>kept bs u w/\ao w ((h.add (ae (((f.a5 d).1.n:Nat):Int) *4)).add 3) t.s.v λx=>kept bs w x/\ao x ((p.add (fs.length *10)).add d) m.v λO=>kept bs x O/\K O)/\
   (ao o ((p.add (fs.length *10)).add d) m.v λF=>kept bs o F/\ao F (h.add (ae (((f.a5 d).1.n:Nat):Int) *4)) (.int .i64 t.k) λq=>kept bs F q/\ao q ((h.add (ae (((f.a5 d).1.n:Nat):Int) *4)).add 1) (.int .u8 (t.lo.toNat:Int)) λu=>kept bs q u/\ao u ((h.add (ae (((f.a5 d).1.n:Nat):Int) *4)).add 2) (.int .u8 (t.hi.toNat:Int)) λw=>kept bs u w/\ao w ((h.add (ae (((f.a5 d).1.n:Nat):Int) *4)).add 3) t.s.v λx=>kept bs w x/\K x)):=by
 have W:((fs++[f]).flatMap FM.rows)[fs.length *4+(d - 1)]? =some ((f.a5 d).1,(f.a5 d).2.flatMap I.c):=oO fs f (d - 1) _ (ru f j l);have nr:(f.a5 d).1.n=(f.a5 d).2.length:=by have B:(En.rows ((fs++[f]).flatMap FM.rows)).P w1:=D.get 2;exact I.cu (B.1 _ (aE W)).bh
 have A:∀{L:List En},∀b∈bs,En.g b∈L++G:=λb S=>ef _ (ai b S);obtain⟨e,o,h1,aa,h3⟩:=D.wa (bs:=bs) (ty:=cE) 2 (fs.length *4+(d - 1)) (src:=src) (news:=z4) (K:=λe r=>Ff M w0 r rb sl st wd fs f (((fs++[f]).flatMap FM.rows).set (fs.length *4+(d - 1)) (e,(f.a5 d).2.flatMap I.c++z4)) G ts/\e.n=(f.a5 d).1.n+1/\∃h,e.a=some h) rfl W (aG.bh (D.get i hi)) (by simp[Value.oneCell']) (by omega) (λe w4 Y an aj=>⟨Y,by omega,by
  cases hs:e.a with
  |none=>grind
  |some h=>grind⟩) A
 obtain⟨N,ag,h,H⟩:=h3;refine⟨e,o,h1,aa,by omega,by omega,?_⟩;rw[H];have T:fs.length *4+(d - 1)<((fs++[f]).flatMap FM.rows).length:=by grind
 have Q:∀(f:FM) (t:I) (d:Nat),(f.a5 d).2.flatMap I.c++t.c=((f.a5 d).2++[t]).flatMap I.c:=λf t d=>by simp
 rw[nr];refine⟨?_,?_⟩
 .refine Z.su (bs:=bs) N 2 (fs.length *4+(d - 1)) (f.a5 d).2.length t rfl (kp T) H (I.ee _) (λr y=>?_) A;have y:Ff M w0 r rb sl st wd fs f ((((fs++[f]).flatMap FM.rows).set (fs.length *4+(d - 1)) (e,(f.a5 d).2.flatMap I.c++z4)).set (fs.length *4+(d - 1)) (e,(f.a5 d).2.flatMap I.c++t.c)) G ts:=y;rw[List.set_set,Q,rO fs f (e,(f.a5 d).2++[t]) j l]at y;exact y.il (bs:=bs) (f:=f) 1 (f.put d (e,(f.a5 d).2++[t])) d rfl B (by omega) (u6 f (e,(f.a5 d).2++[t]) j l) (λE z=>hK e E z) A
 .refine N.il (bs:=bs) (f:=f) 1 (f.put d (e,(f.a5 d).2++[t])) d rfl B (by omega) (u6 f (e,(f.a5 d).2++[t]) j l) (λr y=>?_) A;refine Z.su (bs:=bs) (L:=SL rb sl st wd ((fs++[f.put d (e,(f.a5 d).2++[t])]).flatMap FM.c) (((fs++[f]).flatMap FM.rows).set (fs.length *4+(d - 1)) (e,(f.a5 d).2.flatMap I.c++z4))++G) y 2 (fs.length *4+(d - 1)) (f.a5 d).2.length t rfl (kp T) H (I.ee _) (λE z=>?_) A;have z:Z M w0 E (SL rb sl st wd ((fs++[f.put d (e,(f.a5 d).2++[t])]).flatMap FM.c) ((((fs++[f]).flatMap FM.rows).set (fs.length *4+(d - 1)) (e,(f.a5 d).2.flatMap I.c++z4)).set (fs.length *4+(d - 1)) (e,(f.a5 d).2.flatMap I.c++t.c))++G) [.trees ts]:=z;rw[List.set_set,Q,rO fs f (e,(f.a5 d).2++[t]) j l]at z
  grind
end
def qh{α:Type}(l:List α):l=[]\/∃a c,l=a++[c]:=by
 rcases List.eq_nil_or_concat l with d|⟨a,c,d⟩
 .grind
 grind
def GM(a:List FX)(g b:FX)(d c:Int)(l:List Rx):kF ⟨a++[g],b,d,c⟩ l=some ⟨a,iu g (lq b.k l),3,c⟩:=by unfold kF;simp
def qZ(t:Tk)(S:SX):cQ->Addr->List FX->FX->Int->Int->List I->Prop:=λr a b d c f e=>∃h,v7 (fC h t S) r a b d c f e
def Oy{w:C}{rb:Nat}{f0:Addr}{lo:List FX}{tp:FX}{st z:Int}{own:List Nat}{ts:List I}(h:St w rb f0 lo tp st z own ts)(hl:lo.length<=999999)(hs:Small tp 999999)(h1:st=1->0<=tp.k/\lo≠[])(t:Tk):
  ah V CQ #[.pointer (some (ag rb)),t.v] w (h6 w own ts rb (qZ t ⟨lo,tp,st,z⟩)):=by
 obtain⟨sl,q,f,p,rfl,rfl,O,E,rfl,bG⟩:=yn h;have b6:q.length<=999999:=by grind
 have bj:f.n<=999999:=hs.n';have aD:Small f.x 1000000:=⟨by have:=hs.n';omega,by have:=hs.ar;omega,by have:=hs.al;omega,by have:=hs.an;omega,by have:=hs.ca;omega⟩;have base:∀b∈I.bm ts,b∈I.bm ts\/w.heap.size<=b\/b∈own:=λb m=>.inl m
 let ap:J:=⟨none,0,0⟩
 refine ve.aB _ _ _ _ _ _ w _ (bG.aN (bs:=[]) (λy w1 H1=>?_) (by simp));have H1:SF (·∈own) w w1 rb sl st z q f [.g y] ts:=H1;refine H1.ax (wx H1 E (by omega)) ?_;rintro _ Y rfl A;have A:SF (·∈own) w Y rb sl st z q f [.g y] ts:=A;refine⟨_,rfl,st,A.ld 0 1,?_⟩;have item:∀{Y:C} {aK:J} {bl bu:Int} {aC:List FM} {f2:FM} {aH:List I} {p2:Addr},SF (·∈own) w Y rb aK bl bu aC f2 [.g y] aH->(∀g∈aC++[f2],∀t∈g.ts,t∈aH)->aK.a=some p2->(∀b∈I.bm aH,b∈I.bm ts\/w.heap.size<=b\/b∈own)->(∀t∈ts,t∈aH)->aC.length<=1000000->f2.n<=1000000->
   fC ap t ⟨q.map FM.x,f.x,st,z⟩=fD t ⟨aC.map FM.x,f2.x,bl,bu⟩->cV [y] V r5 #[.pointer (some (ag rb)),t.v] Y λr_ w5=>∃ai:Bool,r_=U (.bool ai)/\h6 w own ts rb (qZ t ⟨q.map FM.x,f.x,st,z⟩) (U (.bool ai)) w5:=by
  intro Y aK bl bu aC f2 aH p2 A ba bf bg aX bC bZ he;refine A.kG (bs:=[y]) ba bf (λaJ s1=>OI s1 (by grind) bZ t) ?_ (by simp);rintro r w3 W N d p3 aF aa M S L B Q b1 H4;have m:∀b∈I.bm M,b∈I.bm ts\/w.heap.size<=b\/b∈own:=λb m=>(Q b m).elim (bg b) .inr;rcases b1 with⟨hn,rfl⟩|⟨b2,rfl⟩
  .exact ⟨false,rfl,g7 H4 L B m (λt ht=>S t (aX t ht)) ⟨ap,.inl ⟨he.trans hn,rfl⟩⟩⟩
  .exact ⟨true,rfl,g7 H4 L B m (λt ht=>S t (aX t ht)) ⟨ap,.inr ⟨he.trans b2,rfl⟩⟩⟩
 have close:∀{Y:C} {aK:J} {aC:List FM} {g2 f2:FM} {aH:List I} {p2:Addr} {j:J} (T:I),Z (·∈own) w Y ([.c rb [aK.v,.int .i64 st,.int .i64 z] vK,.row hB 10 aK (((aC++[g2])++[f2]).flatMap FM.c),.rows ((aC++[g2]).flatMap FM.rows)]++[.g y]) [.trees aH]->(∀ae∈aC++[g2],∀t∈ae.ts,t∈aH)->aK.a=some p2->aC.length<=999999->T∈aH->(0<=f2.k\/T.l≠[])->(∀b∈I.bm aH,b∈I.bm ts\/w.heap.size<=b\/b∈own)->(∀t∈ts,t∈aH)->
   fC j t ⟨q.map FM.x,f.x,st,z⟩=some ⟨aC.map FM.x,iu g2.x (lq f2.k (I.au T.l)),3,z⟩->cV [y] V uQ #[.pointer (some (ag rb)),T.s.v] Y λr_ w5=>∃ai:Bool,r_=U (.bool ai)/\h6 w own ts rb (qZ t ⟨q.map FM.x,f.x,st,z⟩) (U (.bool ai)) w5:=by
  intro Y aK aC g2 f2 aH p2 j T A ba bf bC hT ab bg aX he;refine Z.PJ (rb:=rb) (bs:=[y]) A (λaJ HA=>Ov HA ba bf bC T hT ab) ?_ (by simp);rintro r w3 W N d p3 aF aa M S L B Q ⟨rfl,aj,D,rfl,rfl⟩ H4;refine⟨true,rfl,g7 H4 L B (λb m=>(Q b m).elim (bg b) .inr) (λt ht=>S t (aX t ht)) ⟨j,.inr ⟨?_,rfl⟩⟩⟩
  grind
 refine cK (λa9=>?_) (λa9=>?_)
 .have a9:st=2:=eq_of_beq a9;refine i3 (n:=40) (by omega) (λab:t.k=40=>⟨z,A.ld 0 2,?_⟩) (λab:t.k≠40=>?_)
  .refine A.kG (bs:=[y]) O E (λaJ s1=>Gq s1 (by omega) z 1) ?_ (by simp);rintro _ w3 W N d p3 aF aa M S L B Q ⟨rfl,aj,D,rfl,rfl⟩ H4;refine⟨true,rfl,g7 H4 L B Q S ⟨ap,.inr ⟨?_,rfl⟩⟩⟩;rw[aj,D];unfold fC
   grind
  .refine g7 A O E base (λ_ h=>h) ⟨ap,.inl ⟨?_,rfl⟩⟩;unfold fC
   grind
 have n2:st≠2:=λac=>by grind
 refine cK (λaf=>?_) (λaf=>?_)
 .have af:st=1:=eq_of_beq af;obtain⟨bV,b7⟩:=h1 af;refine i3 (n:=41) (by omega) (λab:t.k=41=>?_) (λab:t.k≠41=>?_)
  .rcases qh q with rfl|⟨aL,g,rfl⟩
   .grind
   have H3:=Ef A 3 0 0;have er:(((aL++[g])++[f]).flatMap FM.rows)=(aL++[g]).flatMap FM.rows++f.rows:=by grind
   have H4:Z (·∈own) w Y (SL rb sl st z (((aL++[g])++[f]).flatMap FM.c) ((aL++[g]).flatMap FM.rows++f.rows)++[.g y]) [.trees (ts++[.mk 3 0 0 ⟨none,0,0⟩ []])]:=by grind
   have H5:=K1 H4 2 rfl;refine close (j:=ap) (.mk 3 0 0 ⟨none,0,0⟩ []) H5 (λae hx u i=>bS _ (O ae (bS _ hx) u i)) E (by grind) (by simp) (.inl bV) (λb m=>.inl (w4 m)) (λu i=>bS _ i) ?_;unfold fC;refine(aq n2).trans ((aA af).trans ((aA ab).trans ?_));rw[kX];exact GM _ _ _ _ _ _
  .refine item A O E base (λ_ h=>h) (by omega) (by omega) ?_;unfold fC
   grind
 have n1:st≠1:=λac=>by grind
 refine cK (λaY=>?_) (λaY=>?_)
 .have aY:st=0:=eq_of_beq aY;refine item A O E base (λ_ h=>h) (by omega) (by omega) ?_;unfold fC
  grind
 have n0:st≠0:=λac=>by grind
 have fe:∀j:J,fC j t ⟨q.map FM.x,f.x,st,z⟩=(if t.k=42 then some ⟨q.map FM.x,iu f.x (.mk 7 0 0 [f.x.la]),st,z⟩
   else if t.k=38 then some ⟨q.map FM.x,jI f.x,0,z⟩
   else if t.k=124 then some ⟨q.map FM.x,jH f.x,0,z⟩
   else if t.k=44 then(if f.x.k<0 then none else some ⟨q.map FM.x,FE j f.x,0,z⟩)
   else if t.k=41 then(if q.map FM.x=[]then none else kF ⟨q.map FM.x,f.x,st,z⟩ (f.x.ar.2++[eU f.x]))
   else if t.k=36 then(if q.map FM.x=[]then some ⟨q.map FM.x,f.x,st,z⟩else none)
   else fD t ⟨q.map FM.x,kc f.x,st,z⟩):=λj=>by
  unfold fC
  grind
 refine i3 (n:=42) (by omega) (λab:t.k=42=>?_) (λaw:t.k≠42=>i3 (n:=38) (by omega) (λab:t.k=38=>?_) (λav:t.k≠38=>i3 (n:=124) (by omega) (λab:t.k=124=>?_) (λam:t.k≠124=>i3 (n:=44) (by omega) (λab:t.k=44=>?_) (λbk:t.k≠44=>i3 (n:=41) (by omega) (λab:t.k=41=>?_) (λce:t.k≠41=>i3 (n:=36) (by omega) (λab:t.k=36=>?_) (λcd:t.k≠36=>?_))))))
 .obtain ⟨c0,c1,c2,c3⟩:=A.IU 1 rfl E;refine nA ⟨_,_,_,_,c0,c1,c2,c3,?_⟩;refine A.cB (e:=aV) (sz:=4) (n:=1) (cs:=f.la.c) rfl (by decide) λw7 H7=>nA ?_;have a1:((p.add (q.length *10)).add 6).add 1=(p.add (q.length *10)).add 7:=add_add _ 6 1;have bN:((p.add (q.length *10)).add 6).add 2=(p.add (q.length *10)).add 8:=add_add _ 6 2;have bO:((p.add (q.length *10)).add 6).add 3=(p.add (q.length *10)).add 9:=add_add _ 6 3;rw[a1,bN,bO];refine H7.il (bs:=[y]) (f:=f) 1 ⟨f.k,f.ar,f.al,f.an,f.ca,f.n,.mk 7 f.la.lo f.la.hi f.la.s f.la.l⟩ 6 rfl E (by omega) rfl (λw8 H8=>?_) (by simp);refine H8.il (bs:=[y]) (f:=⟨f.k,f.ar,f.al,f.an,f.ca,f.n,.mk 7 f.la.lo f.la.hi f.la.s f.la.l⟩) 1 ⟨f.k,f.ar,f.al,f.an,f.ca,f.n,.mk 7 0 f.la.hi f.la.s f.la.l⟩ 7 rfl E (by omega) rfl (λw9 H9=>?_) (by simp);refine H9.il (bs:=[y]) (f:=⟨f.k,f.ar,f.al,f.an,f.ca,f.n,.mk 7 0 f.la.hi f.la.s f.la.l⟩) 1 ⟨f.k,f.ar,f.al,f.an,f.ca,f.n,.mk 7 0 0 f.la.s f.la.l⟩ 8 rfl E (by omega) rfl (λcf bi=>?_) (by simp);refine bi.il (bs:=[y]) (f:=⟨f.k,f.ar,f.al,f.an,f.ca,f.n,.mk 7 0 0 f.la.s f.la.l⟩) 1 ⟨f.k,f.ar,f.al,f.an,f.ca,f.n,.mk 7 0 0 ⟨some (ag Y.heap.size),1,1⟩ [f.la]⟩ 9 rfl E (by omega) rfl (λbd bx=>?_) (by simp);have bY:f.la∈ts:=O f (by simp) _ (by simp[FM.ts]);have bH:=bx.freeze 4 (I.row ⟨some (ag Y.heap.size),1,1⟩ [f.la]) rfl (by show bF 4 bd _ ([f.la].flatMap I.c);rw[show[f.la].flatMap I.c=f.la.c by simp];exact aG.bh (bx.get 4)) (λb m=>gi (e:=aV) (vs:=[f.la].flatMap I.c) m);have bI:=bH.node 0 7 0 0 (s:=⟨some (ag Y.heap.size),1,1⟩) (ks:=[f.la]) rfl (by simp) (λt ht=>by grind);have er:(q++[f]).flatMap FM.rows=(q++[(⟨f.k,f.ar,f.al,f.an,f.ca,f.n,.mk 7 0 0 ⟨some (ag Y.heap.size),1,1⟩ [f.la]⟩:FM)]).flatMap FM.rows:=by simp[FM.rows]
  have bJ:SF (·∈own) w bd rb sl st z q ⟨f.k,f.ar,f.al,f.an,f.ca,f.n,.mk 7 0 0 ⟨some (ag Y.heap.size),1,1⟩ [f.la]⟩ [.g y] (ts++[.mk 7 0 0 ⟨some (ag Y.heap.size),1,1⟩ [f.la]]):=by show Z _ _ _ (SL rb sl st z _ ((q++[(⟨f.k,f.ar,f.al,f.an,f.ca,f.n,.mk 7 0 0 ⟨some (ag Y.heap.size),1,1⟩ [f.la]⟩:FM)]).flatMap FM.rows)++_) _;rw[<-er];exact bI
  refine g7 bJ (λg hg u i=>?_) E (λb m=>?_) (λu i=>bS _ i) ⟨ap,.inr ⟨?_,rfl⟩⟩
  .rcases a6.1 hg with hg|hg
   .grind
   .simp at hg;subst hg;simp only[FM.ts,a6,ay,aW,a3]at i;rcases i with(((i|i)|i)|i)|rfl
    .exact bS _ (O f (by simp) u (by simp[FM.ts,i]))
    .exact bS _ (O f (by simp) u (by simp[FM.ts,i]))
    .exact bS _ (O f (by simp) u (by simp[FM.ts,i]))
    .exact bS _ (O f (by simp) u (by simp[FM.ts,i]))
    .simp
  .obtain ⟨u,i,aM⟩:=I.bX.1 m;rcases a6.1 i with i|i
   .exact .inl (I.bX.2 ⟨u,i,aM⟩)
   .simp at i;rw[i]at aM;rcases I.gb.1 aM with aM|aM
    .have:=gi (e:=aV) aM;simp[En.row,aO,I.s]at this;subst this;exact .inr (.inl A.fr.size)
    .obtain ⟨t',aI,aT⟩:=I.bX.1 aM;simp[I.l]at aI;rw[aI]at aT;exact .inl (I.bX.2 ⟨f.la,bY,aT⟩)
  .rw [fe,aA ab];rfl
 .refine A.kG (bs:=[y]) O E (λaJ s1=>wh (Ge s1 aD.n' aD.ca aD.an)) ?_ (by simp);rintro _ w3 W N d p3 aF aa M S L B Q ⟨rfl,bA,aj,D,rfl,rfl⟩ H3;refine⟨rfl,H3.sL (bs:=[y]) 0 1 rfl (λbt H4=>?_) (by simp) (by simp)⟩;refine g7 (show SF (·∈own) w bt rb W 0 aa N d [.g y] M from H4) L B Q S ⟨ap,.inr ⟨?_,rfl⟩⟩
  grind
 .refine A.kG (bs:=[y]) O E (λaJ s1=>wh (Gc s1 aD.n' aD.ca aD.an aD.al)) ?_ (by simp);rintro _ w3 W N d p3 aF aa M S L B Q ⟨rfl,bA,aj,D,rfl,rfl⟩ H3;refine⟨rfl,H3.sL (bs:=[y]) 0 1 rfl (λbt H4=>?_) (by simp) (by simp)⟩;refine g7 (show SF (·∈own) w bt rb W 0 aa N d [.g y] M from H4) L B Q S ⟨ap,.inr ⟨?_,rfl⟩⟩
  grind
 .refine nA ⟨f.k,A.gC 1 rfl E 0,cK (λh0=>?_) (λh0=>?_)⟩
  .refine g7 A O E base (λ_ h=>h) ⟨ap,.inl ⟨?_,rfl⟩⟩;rw[fe,aq aw,aq av,aq am,aA ab];exact aA (hC h0)
  have fin:∀{w5:C} {W:J} {N:List FM} {d:FM} {p3:Addr} {M:List I} {j:J} {u:I} {G:List En},SF (·∈own) w w5 rb W st z N (d.put 1 (j,(d.a5 1).2++[u])) G M->(∀g∈N++[d],∀t∈g.ts,t∈M)->W.a=some p3->(∀b∈I.bm M,b∈I.bm ts\/w.heap.size<=b\/b∈own)->(∀t∈ts,t∈M)->N.map FM.x=q.map FM.x->d.x=AZ f.x->u∈M->u.rx=eU f.x->
    ve.aZ (ag rb) w5 (h6 w own ts rb (qZ t ⟨q.map FM.x,f.x,st,z⟩)):=by
   intro w5 W N d p3 M j u G H5 L B bQ b4 aj D i hx;refine H5.st 0 1 rfl λw6 H6=>?_;refine g7 (show SF (·∈own) w w6 rb W 0 z N (d.put 1 (j,(d.a5 1).2++[u])) G M from H6) (λg hg v o=>?_) B bQ b4 ⟨j,.inr ⟨?_,rfl⟩⟩
   .rcases a6.1 hg with hg|hg
    .grind
    .simp at hg;subst hg;rcases yw _ _ (by omega) (by omega) o with h|h
     .grind
     .rcases a6.1 h with h|h
      .exact L d (by simp) v (m4 d 1 h)
      grind
   .have e1:d.k=f.k:=by have:=congrArg FX.k D;exact this
    have e2:I.au d.ar.2=I.au f.ar.2:=by have:=congrArg (λae:FX=>ae.ar.2) D;exact this
    have e3:I.au d.al.2=[]:=by have:=congrArg FX.al D;exact this
    have e4:I.au d.an.2=[]:=by have:=congrArg FX.an D;exact this
    have e5:I.au d.ca.2=[]:=by have:=congrArg FX.ca D;exact this
    have e6:d.n=0:=by have:=congrArg FX.n D;exact this
    have e7:d.la.rx=f.x.la:=by have:=congrArg FX.la D;exact this
    rw[fe,aq aw,aq av,aq am,aA ab];refine(aq (qP h0)).trans ?_;show some (SX.mk _ ⟨_,(j,I.au f.ar.2++[eU f.x]),[],[],[],0,f.x.la⟩ 0 z)=some (SX.mk (N.map FM.x) ⟨d.k,(j,I.au (d.ar.2++[u])),I.au d.al.2,I.au d.an.2,I.au d.ca.2,d.n,d.la.rx⟩ 0 z);rw[aj,e1,e3,e4,e5,e6,e7,jm,e2];show some (SX.mk _ ⟨_,(j,I.au f.ar.2++[eU f.x]),[],[],[],0,f.x.la⟩ 0 z)=some (SX.mk _ ⟨_,(j,I.au f.ar.2++[u.rx]),[],[],[],0,f.x.la⟩ 0 z);rw[hx];rfl
  refine nA (A.ak (bs:=[y]) (λbe a7=>⟨f.ar.1,a7.gC 1 rfl E 1,?_,?_⟩) (by simp))
  .refine (show SF (·∈own) w be rb sl st z q f [.g y] ts from a7).kG (bs:=[y]) O E (λaJ s1=>wq s1 aD) ?_ (by simp);rintro r bE W N d p3 aF aa M S L B Q ⟨aS,aj,D,rfl,rfl,u,i,rfl,hx⟩ aQ;have aR:d.ar.1=f.ar.1:=by have:=congrArg (λae:FX=>ae.ar.1) D;exact this
   refine⟨u.k,u.lo.toNat,u.hi.toNat,u.s,rfl,?_⟩;rw[<-aS,<-aR];refine⟨aQ.gC 1 rfl B 1,aQ.cB (e:=aV) (sz:=4) (n:=1) (cs:=z4) rfl (by decide) λbP az=>⟨az.gC 1 rfl B 1,?_⟩⟩;have aU:(d.a5 1).2.length<=1000000:=by have ac:d.x.ar.2.length=d.ar.2.length:=(Bp d).1;rw[D]at ac;have:f.x.ar.2.length<=999999:=hs.ar;show d.ar.2.length<=_;rw[<-ac];show f.x.ar.2.length<=_;omega
   exact Kc (bs:=[y]) (K:=λw5=>ve.aZ (ag rb) w5 (h6 w own ts rb (qZ t ⟨q.map FM.x,f.x,aF,aa⟩))) (show SF (·∈own) w bP rb W aF aa N d ([.g y]++[.row aV 4 ⟨some (ag bE.heap.size),1,1⟩ z4]) M from az) 4 rfl B 1 (by omega) (by omega) u aU rfl (λj w5 H5=>fin H5 L B Q S aj D i hx) (by simp)
  .refine a7.cB (e:=aV) (sz:=4) (n:=1) (cs:=z4) rfl (by decide) λbn bz=>⟨bz.gC 1 rfl E 1,?_⟩;refine(show SF (·∈own) w bn rb sl st z q f ([.g y]++[.row aV 4 ⟨some (ag be.heap.size),1,1⟩ z4]) ts from bz).kG (bs:=[y]) O E (λaJ s1=>wq s1 aD) ?_ (by simp);rintro r bE W N d p3 aF aa M S L B Q ⟨aS,aj,D,rfl,rfl,u,i,rfl,hx⟩ aQ;have aR:d.ar.1=f.ar.1:=by have:=congrArg (λae:FX=>ae.ar.1) D;exact this
   refine⟨u.k,u.lo.toNat,u.hi.toNat,u.s,rfl,?_⟩;rw[<-aS,<-aR];refine⟨aQ.gC 1 rfl B 1,?_⟩;have aU:(d.a5 1).2.length<=1000000:=by have ac:d.x.ar.2.length=d.ar.2.length:=(Bp d).1;rw[D]at ac;have:f.x.ar.2.length<=999999:=hs.ar;show d.ar.2.length<=_;rw[<-ac];show f.x.ar.2.length<=_;omega
   exact Kc (bs:=[y]) (K:=λw5=>ve.aZ (ag rb) w5 (h6 w own ts rb (qZ t ⟨q.map FM.x,f.x,aF,aa⟩))) aQ 4 rfl B 1 (by omega) (by omega) u aU rfl (λj w5 H5=>fin H5 L B Q S aj D i hx) (by simp)
 .refine A.ak (bs:=[y]) (λbo ad=>⟨sl,ad.ld 0 0,?_⟩) (by simp);have ad:SF (·∈own) w bo rb sl st z q f [.g y] ts:=ad;have b3:=yL ad;rcases qh q with rfl|⟨aL,g,rfl⟩
  .refine bb (a2 (by grind)) ?_;refine g7 ad O E base (λ_ h=>h) ⟨ap,.inl ⟨?_,rfl⟩⟩
   grind
  .refine a8 (a0 (by grind)) (nA ⟨f.ar.1,ad.gC 1 rfl E 1,?_⟩);refine ad.kG (bs:=[y]) O E (λaJ s1=>wq s1 aD) ?_ (by simp);rintro r b5 W N d p3 aF aa M S L B Q ⟨aS,aj,D,rfl,rfl,u,i,rfl,hx⟩ bv;have aR:d.ar.1=f.ar.1:=by have:=congrArg (λae:FX=>ae.ar.1) D;exact this
   refine⟨u.k,u.lo.toNat,u.hi.toNat,u.s,rfl,?_⟩;rw[<-aS,<-aR];refine⟨bv.gC 1 rfl B 1,bv.cB (e:=aV) (sz:=4) (n:=1) (cs:=u.c) rfl (by decide) λbp ao=>⟨ao.gC 1 rfl B 1,?_⟩⟩;have bT:∃F H,N=F++[H]/\F.map FM.x=aL.map FM.x/\H.x=g.x:=by
    rcases qh N with rfl|⟨F,H,rfl⟩
    .grind
    .refine ⟨F,H,rfl,?_⟩;rw[kX,kX]at aj;have:=List.append_inj' aj rfl
     grind
   obtain⟨F,H,rfl,bR,bU⟩:=bT;have bD:(((F++[H])++[d]).flatMap FM.rows)[(F++[H]).length *4+0]? =some (d.ar.1,d.ar.2.flatMap I.c):=oO (F++[H]) d 0 _ rfl;have aU:d.ar.2.length<=999999:=by have ac:d.x.ar.2.length=d.ar.2.length:=(Bp d).1;rw[D]at ac;have:f.x.ar.2.length<=999999:=hs.ar;rw[<-ac];exact this
   have nr:d.ar.1.n=d.ar.2.length:=by have hp:(En.rows (((F++[H])++[d]).flatMap FM.rows)).P bp:=ao.get 2;exact I.cu (hp.1 _ (aE bD)).bh
   refine ao.wa (bs:=[y]) 2 ((F++[H]).length *4+0) (src:=⟨some (ag b5.heap.size),1,1⟩) (news:=u.c) rfl bD (aG.bh (ao.get 4)) (by simp[Value.oneCell',I.c]) (by grind) (λj bq bc bj br=>?_) (by simp);have bB:(F++[H]).length *4+0<(((F++[H])++[d]).flatMap FM.rows).length:=by grind
   have b0:∀b∈aO j,b∈own\/w.heap.size<=b:=λb m=>(bc.new (.rows ((((F++[H])++[d]).flatMap FM.rows).set ((F++[H]).length *4+0) (j,d.ar.2.flatMap I.c++u.c))) (by simp) b (a4.2 (cj.2 ⟨_,aE (kp bB),m⟩))).symm;have bw:=bc.Br 2 ((F++[H]).length *4+0) rfl (kp bB);have ec:d.ar.2.flatMap I.c++u.c=(d.ar.2++[u]).flatMap I.c:=by simp
   rw[ec]at bw;have bK:=bw.node 0 3 0 0 (s:=j) (ks:=d.ar.2++[u]) rfl (ef _ (List.mem_singleton.2 rfl)) (λv o=>by
    rcases a6.1 o with o|o
    .exact L d (by simp) v (m4 d 1 o)
    grind)
   have er:(((((F++[H])++[d]).flatMap FM.rows).set ((F++[H]).length *4+0) (j,(d.ar.2++[u]).flatMap I.c)).set ((F++[H]).length *4+0) (⟨none,0,0⟩,[]))=(F++[H]).flatMap FM.rows++d.rows.set 0 (⟨none,0,0⟩,[]):=by rw[List.set_set];exact D9 (F++[H]) d 0 _ (by omega)
   have bL:Z (·∈own) w bq (SL rb W aF aa (((F++[H])++[d]).flatMap FM.c) ((F++[H]).flatMap FM.rows++d.rows.set 0 (⟨none,0,0⟩,[]))++[.g y]) [.trees (M++[.mk 3 0 0 j (d.ar.2++[u])])]:=by rw[<-er];exact bK.take 4
   have bM:=K1 bL 2 rfl;have bW:d.k=f.k:=by have:=congrArg FX.k D;exact this
   refine close (j:=ap) (.mk 3 0 0 j (d.ar.2++[u])) bM (λae hx v o=>bS _ (L ae (bS _ hx) v o)) B ?_ (by simp) (.inr (by simp[I.l])) ?_ (λv o=>bS _ (S v o)) ?_
   .grind
   .intro b m;obtain⟨v,o,aP⟩:=I.bX.1 m;rcases a6.1 o with o|o
    .exact Q b (I.bX.2 ⟨v,o,aP⟩)
    .simp at o;rw[o]at aP;rcases I.gb.1 aP with aP|aP
     .exact .inr (b0 b (gi (e:=aV) aP)).symm
     .obtain ⟨t',aI,aT⟩:=I.bX.1 aP;have aI:t'∈d.ar.2++[u]:=aI;refine Q b (I.bX.2 ⟨t',?_,aT⟩);rcases a6.1 aI with aI|aI
      .exact L d (by simp) t' (m4 d 1 aI)
      grind
   .rw [fe,aq aw,aq av,aq am,aq bk,aA ab];refine(aq (by simp)).trans ?_;rw[kX];refine(GM _ _ _ _ _ _).trans ?_;have e2:I.au d.ar.2=f.x.ar.2:=by have:=congrArg (λae:FX=>ae.ar.2) D;exact this
    rw[bR,bU,bW];show _=some (SX.mk _ (iu g.x (lq f.k (I.au (d.ar.2++[u])))) 3 aa);rw[jm,e2];show _=some (SX.mk _ (iu g.x (lq f.k (f.x.ar.2++[u.rx]))) 3 aa);rw[hx];rfl
 .refine ⟨sl,A.ld 0 0,?_⟩;have b3:=yL A;rcases qh q with rfl|⟨aL,g,rfl⟩
  .have ac:(((sl.n:Nat):Int)==1)=true:=by grind
   rw[ac];refine g7 A O E base (λ_ h=>h) ⟨ap,.inr ⟨?_,rfl⟩⟩
   grind
  .have ac:(((sl.n:Nat):Int)==1)=false:=by grind
   rw[ac];refine g7 A O E base (λ_ h=>h) ⟨ap,.inl ⟨?_,rfl⟩⟩
   grind
 .refine A.kG (bs:=[y]) O E (λaJ s1=>wh (Gd s1 aD.n' aD.ca)) ?_ (by simp);rintro _ w3 W N d p3 aF aa M S L B Q ⟨rfl,bA,aj,D,rfl,rfl⟩ H3;refine⟨rfl,item H3 L B Q S ?_ ?_ ?_⟩
  .grind
  .have e5:d.n=0:=by have:=congrArg FX.n D;exact this
   omega
  grind
def Ui(s:ByteArray)(c:UInt8)(w:C):a' V (callFunc xG #[.string s,.int .u8 (c.toNat:Int)]) w=.ok (.value (.int .i64 (Go.Lib.indexByte (bl s) c))) w:=by have d:=run_callFunc_indexByte (P:=V) (f:=xG) (fn:=(Tryz.prog.funcs[xG]?).getD default) (by kernel_rfl) (by kernel_rfl) (by kernel_rfl) (by kernel_rfl) (by kernel_rfl) #[.string s,.int .u8 (c.toNat:Int)] w;rw[d,Go.Lib.run_indexByteString];show Result.ok _ w=_;congr 4;simp
def Ec(s:ByteArray)(c:UInt8)(w:C):ah V uS #[.string s,.int .u8 (c.toNat:Int)] w λr a=>r=U (.int .i64 (Go.Lib.indexByte (bl s) c))/\aj w a:=by
 refine L3.ok _ _ w _ ?_;refine(show ah V CE #[.string s,.int .u8 (c.toNat:Int)] w λr a=>r=U (.int .i64 (Go.Lib.indexByte (bl s) c))/\w=a from ?_).mono ?_
 .exact IA.ok _ _ w _ ⟨_,w,Ui s c w,rfl,rfl⟩
 .rintro r d ⟨rfl,rfl⟩;exact⟨_,rfl,rfl,Fr.refl _ _⟩
def jo(c:UInt8):Bool:=af (97<=c.toNat)&&af (c.toNat<=122)
def sh(c:UInt8):Bool:=af (32<=c.toNat)&&(af (c.toNat<=126)&&(!decide (c=39)&&!decide (c=92)))
def wv(c:UInt8)(w:C):ah V r6 #[.int .u8 (c.toNat:Int)] w λr a=>r=U (.bool (jo c))/\aj w a:=by
 refine KM.ok _ w _ (aQ (λd=>⟨?_,Fr.refl _ _⟩) (λd=>⟨?_,Fr.refl _ _⟩))
 .unfold jo;rw[a0 (show 97<=c.toNat by omega),Bool.true_and];rw[show af ((c.toNat:Int)<=122)=af (c.toNat<=122)from decide_eq_decide.2 (by omega)]
 .unfold jo;rw[a2 (show ¬97<=c.toNat by omega),Bool.false_and]
def MC(c:UInt8)(n:Nat)(a:n<256):(((c.toNat:Nat):Int)==(n:Int))=af (c=dP n):=by
 have d:c.toNat=n↔c=dP n:=by rw[<-UInt8.toNat_inj,UInt8.toNat_ofNat'];omega
 rw[Bool.eq_iff_iff,beq_iff_eq,decide_eq_true_iff,<-d];omega
def Gn(c:UInt8)(w:C):ah V xX #[.int .u8 (c.toNat:Int)] w λr d=>r=U (.bool (sh c))/\aj w d:=by
 have e:(((c.toNat:Nat):Int) !=39)= !decide (c=39):=by have:=MC c 39 (by omega);show(!(((c.toNat:Nat):Int)==((39:Nat):Int)))=_;rw[this];rfl
 have h:(((c.toNat:Nat):Int) !=92)= !decide (c=92):=by have:=MC c 92 (by omega);show(!(((c.toNat:Nat):Int)==((92:Nat):Int)))=_;rw[this];rfl
 refine KI.ok _ w _ ?_;rw[e,h];unfold sh;refine aQ (λj=>?_) (λj=>⟨?_,Fr.refl _ _⟩)
 .rw [a0 (show 32<=c.toNat by omega),Bool.true_and];refine aQ (λb=>?_) (λb=>⟨?_,Fr.refl _ _⟩)
  .rw [a0 (show c.toNat<=126 by omega),Bool.true_and];refine cK (λa=>⟨?_,Fr.refl _ _⟩) (λa=>⟨?_,Fr.refl _ _⟩)
   .rw [a,Bool.true_and]
   .rw [a,Bool.false_and]
  .rw [a2 (show ¬c.toNat<=126 by omega),Bool.false_and]
 .rw [a2 (show ¬32<=c.toNat by omega),Bool.false_and]
def NZ{s:ByteArray}{l:List UInt8}(h:bl s=l)(i:Nat):s[i]? =l[i]?:=by
 subst h;by_cases c:i<s.size
 .rw [getElem?_pos s i c,a9 (by rw[eS];exact c)];rfl
 .rw [getElem?_neg s i c,List.getElem?_eq_none (by rw[eS];omega)]
def ku{s:ByteArray}{i:Nat}(h:i<s.size):s[i]? =some ((bl s).getD i 0):=by
 rw[NZ (s:=s) (l:=bl s) rfl i];have c:i<(bl s).length:=by rw[eS];exact h
 rw[List.getD_eq_getElem?_getD,a9 c];rfl
def og:List UInt8:=[48,49,50,51,52,53,54,55,56,57,97,98,99,100,101,102]
def Ra(a b:Int):UInt8:=dP (ad .u8 (tu .i64 (ad .i64 (a *2^4)) b)).toNat
def jD(l:List UInt8)(i:Nat):Option (UInt8×Nat):=
 if i+2<l.length/\l.getD i 0=39/\sh (l.getD (i+1) 0)=true/\l.getD (i+2) 0=39 then some (l.getD (i+1) 0,3)
 else if i+3<l.length/\l.getD i 0=92/\l.getD (i+1) 0=120/\0<=Go.Lib.indexByte og (l.getD (i+2) 0)/\0<=Go.Lib.indexByte og (l.getD (i+3) 0)then some (Ra (Go.Lib.indexByte og (l.getD (i+2) 0)) (Go.Lib.indexByte og (l.getD (i+3) 0)),4)
 else none
def A6:Option (UInt8×Nat)->ab
 |none=>.tuple #[.int .u8 0,.int .i64 0,.bool false]
 |some (b,n)=>.tuple #[.int .u8 (b.toNat:Int),.int .i64 (n:Int),.bool true]
def y7{x:UInt8}{n:Nat}{A d:Prop}(c:n<256)(a:x=dP n->A)(b:x≠dP n->d):Y (((x.toNat:Nat):Int)==(n:Int)) A d:=i3 c a b
def VS(x:Int):((dP (ad .u8 x).toNat).toNat:Int)=ad .u8 x:=by rw[UInt8.toNat_ofNat',IntKind.wrap_u8];omega
def Ai(s:ByteArray)(i:Nat)(H:i<=1000000)(w:C):ah V uK #[.string s,.int .i64 (i:Int)] w λr a=>r=U (A6 (jD (bl s) i))/\aj w a:=by
 have y:ad .i64 ((i:Int)+1)=((i+1:Nat):Int):=by rw[bf _ (by omega)];omega
 have z:ad .i64 ((i:Int)+2)=((i+2:Nat):Int):=by rw[bf _ (by omega)];omega
 have E:ad .i64 ((i:Int)+3)=((i+3:Nat):Int):=by rw[bf _ (by omega)];omega
 have G:(bl s).length=s.size:=eS s;have h:¬(i+2<(bl s).length/\(bl s).getD i 0=39/\sh ((bl s).getD (i+1) 0)=true/\(bl s).getD (i+2) 0=39)->∀a,aj w a->yB.S0 s i a (λr a=>r=U (A6 (jD (bl s) i))/\aj w a):=by
  intro A a d;have no:¬(i+3<(bl s).length/\(bl s).getD i 0=92/\(bl s).getD (i+1) 0=120/\0<=Go.Lib.indexByte og ((bl s).getD (i+2) 0)/\0<=Go.Lib.indexByte og ((bl s).getD (i+3) 0))->∀a,aj w a->yB.S1 a (λr a=>r=U (A6 (jD (bl s) i))/\aj w a):=λp a d=>by refine⟨?_,d⟩;unfold jD;rw[aq A,aq p];rfl
  show Y _ _ _;rw[E,z,y];refine aQ (λo=>⟨by omega,_,ku (i:=i) (by omega),y7 (n:=92) (by omega) (λb=>⟨by omega,_,ku (i:=i+1) (by omega),y7 (n:=120) (by omega) (λu=>?_) (λu=>no (λc=>u c.2.2.1) a d)⟩) (λb=>no (λc=>b c.2.1) a d)⟩) (λo=>no (λc=>by omega) a d);refine(show Z F0 w a [] []from((Z.start (M:=F0) (w:=w) [] (by simp)).ct d)).dr λx l=>⟨by omega,_,ku (i:=i+2) (by omega),by omega,_,ku (i:=i+3) (by omega),l.call (Ec _ _ _) ?_⟩;rintro _ I rfl D;refine⟨_,rfl,D.call (Ec _ _ _) ?_⟩;rintro _ B rfl j;refine⟨_,rfl,?_⟩;show Y (af (Go.Lib.indexByte og _>=0)) (Y (af (Go.Lib.indexByte og _>=0)) _ _) _;refine aQ (λk=>aQ (λf=>⟨?_,j.fr⟩) (λf=>no (λc=>f c.2.2.2.2) B j.fr)) (λk=>no (λc=>k c.2.2.2.1) B j.fr);unfold jD;rw[aq A,aA ⟨by omega,b,u,k,f⟩];exact congrArg (λF=>Ending.returned (.tuple #[.int .u8 F,.int .i64 4,.bool true])) (VS _).symm
 refine yB.ok _ _ w _ ?_;rw[z,y];refine aQ (λm=>⟨by omega,_,ku (i:=i) (by omega),y7 (n:=39) (by omega) (λb=>⟨by omega,_,ku (i:=i+1) (by omega),(Gn _ w).mono ?_⟩) (λb=>h (λc=>b c.2.1) w (Fr.refl _ _))⟩) (λm=>h (λc=>by omega) w (Fr.refl _ _));rintro _ x ⟨rfl,q⟩;refine⟨_,rfl,cK (λe=>⟨by omega,_,ku (i:=i+2) (by omega),y7 (n:=39) (by omega) (λg=>⟨by omega,_,ku (i:=i+1) (by omega),?_,q⟩) (λg=>h (λc=>g c.2.2.2) x q)⟩) (λe=>h (λc=>by rw[c.2.2.1]at e;cases e) x q)⟩;unfold jD;rw[aA ⟨by omega,b,e,g⟩];rfl
def Lp:List UInt8:=[40,41,44,124,38,33,42]
def eQ(l:List UInt8)(i:Nat):Tk×Nat:=
 if 0<=Go.Lib.indexByte Lp (l.getD i 0)then(⟨l.getD i 0,0,0,[],i⟩,1)
 else if jo (l.getD i 0)=true then(⟨119,0,0,(l.drop i).takeWhile jo,i⟩,((l.drop i).takeWhile jo).length)
 else if l.getD i 0=91 then
  match jD l (i+1)with
  |none=>(⟨63,0,0,[],i⟩,1)
  |some (lo,m)=>
   if i+1+m<l.length/\l.getD (i+1+m) 0=45 then
    match jD l (i+1+m+1)with
    |none=>(⟨63,0,0,[],i⟩,1)
    |some (d,c)=>if i+1+m+(1+c)<l.length/\l.getD (i+1+m+(1+c)) 0=93/\lo.toNat<=d.toNat then(⟨114,lo,d,[],i⟩,1+m+(1+c)+1)else(⟨63,0,0,[],i⟩,1)
   else(⟨63,0,0,[],i⟩,1)
 else match jD l i with
  |some (b,e)=>(⟨114,b,b,[],i⟩,e)
  |none=>(⟨63,0,0,[],i⟩,1)
def y1(x:Tk×Nat):ab:=.tuple #[x.1.v,.int .i64 (x.2:Int)]
def Ad{l:List UInt8}{i:Nat}{b:UInt8}{n:Nat}(h:jD l i=some (b,n)):(n=3\/n=4)/\i+n<=l.length:=by
 unfold jD at h
 grind
def Md:∀(l:List UInt8) (m:Nat) (p:UInt8->Bool),m<=l.length->(∀h<m,p (l.getD h 0)=true)->(m<l.length->p (l.getD m 0)=false)->(l.takeWhile p)=l.take m
 |[],m,p,d,_,_=>by simp
 |c::l,0,p,d,_,e=>by have:p c=false:=e (by simp);simp[this]
 |c::l,m+1,p,d,j,e=>by have k:p c=true:=j 0 (by omega);rw[List.takeWhile_cons,aA k,List.take_succ_cons,Md l m p (by grind) (λh a=>by grind) (λn=>by grind)]
def QV(l:List UInt8)(i k:Nat):(l.drop i).getD k 0=l.getD (i+k) 0:=by grind
def O1(s:ByteArray)(hs:s.size<=900000)(i:Nat)(hi:i<s.size)(w:C):ah V CR #[.string s,.int .i64 (i:Int)] w λr a=>r=U (y1 (eQ (bl s) i))/\aj w a:=by
 have hl:(bl s).length=s.size:=eS s;refine sy.aB _ _ w _ ((bN [] (λ_ e=>by cases e)).aN (bs:=[]) (λf w1 F=>⟨by omega,_,ku (i:=i) hi,?_⟩) (by simp));have F:Z F0 w w1 [.g f] []:=F;have bad:∀a,Z F0 w a [.g f] []->eQ (bl s) i=(⟨63,0,0,[],i⟩,1)->∀(u v x:Int) (y:ByteArray) (A:Int),sy.cq (i:Int) f u v x y A a λr a=>r=U (y1 (eQ (bl s) i))/\aj w a:=λa E he _ _ _ _ _=>E.ak (bs:=[f]) (λI o=>⟨by rw[he];rfl,o.fr⟩) (by simp);refine F.ax (Ec _ _ _) ?_;rintro _ w2 rfl K;refine⟨_,rfl,?_⟩;show Y (af (Go.Lib.indexByte Lp _>=0)) _ _;refine aQ (λD=>K.ak (bs:=[f]) (λI o=>⟨?_,o.fr⟩) (by simp)) (λD=>K.ax (wv _ _) ?_)
 .unfold eQ;rw[aA D];rfl
 rintro _ I rfl o;refine⟨_,rfl,cK (λM=>?_) (λM=>i3 (n:=91) (by omega) (λL:(bl s).getD i 0=91=>?_) (λL:(bl s).getD i 0≠91=>?_))⟩
 .
  have loop:∀(n j:Nat) (a:C),s.size - j<n->i<=j->j<=s.size->(∀k,i<=k->k<j->jo ((bl s).getD k 0)=true)->Z F0 w a [.g f] []->∀(u v x:Int) (y:ByteArray) (A:Int),sy.bO s (i:Int) f u v x y A (j:Int) a λr a=>r=U (y1 (eQ (bl s) i))/\aj w a:=by
   intro n;induction n with
   |zero=>omega
   |succ n ih=>
    intro j a hn ar hj ao J u v x y A;have done:(j<s.size->jo ((bl s).getD j 0)=false)->∀a,Z F0 w a [.g f] []->sy.aY s (i:Int) f u v x y A (j:Int) a λr a=>r=U (y1 (eQ (bl s) i))/\aj w a:=λal a E=>by
     refine⟨by omega,by omega,by omega,by omega,E.ak (bs:=[f]) (λl d=>⟨?_,d.fr⟩) (by simp)⟩;have ab:((bl s).drop i).takeWhile jo=((bl s).drop i).take (j - i):=by
      refine Md _ _ _ (by grind) (λk hk=>?_) (λe=>?_)
      .rw [QV];grind
      grind
     have W:(((bl s).drop i).take (j - i)).length=j - i:=by grind
     have T:s.extract (ae (i:Int)) (ae (j:Int))=ba (((bl s).drop i).take (j - i)):=by
      have:bl (s.extract i j)=((bl s).drop i).take (j - i):=by unfold bl;rw[ByteArray.data_extract,Array.toList_extract,List.extract_eq_take_drop]
      rw[bT,bT,<-this,mW]
     have ew:ad .i64 ((j:Int) - (i:Int))=((j - i:Nat):Int):=by rw[bf _ (by omega)];omega
     rw[T,ew];unfold eQ;rw[aq D,aA M,ab,W];rfl
    refine sy.eh _ _ _ _ _ _ _ _ _ _ _ (aQ (λe=>⟨by omega,_,ku (i:=j) (by omega),J.ax (wv _ _) ?_⟩) (λe=>done (λp=>by omega) a J));rintro _ l rfl d;refine⟨_,rfl,cK (λt=>?_) (λt=>done (λ_=>t) l d)⟩;rw[show ad .i64 ((j:Int)+1)=((j+1:Nat):Int)by rw[bf _ (by omega)];omega];refine ih (j+1) l (by omega) (by omega) (by omega) (λk h1 h2=>?_) d _ _ _ _ _
    grind
  exact loop (s.size+1) i I (by omega) (Nat.le_refl _) (by omega) (λk h1 h2=>by omega) o _ _ _ _ _
 .have N:¬jo ((bl s).getD i 0)=true:=by grind
  rw[show ad .i64 ((i:Int)+1)=((i+1:Nat):Int)by rw[bf _ (by omega)];omega];refine o.ax (Ai s (i+1) (by omega) _) ?_;rintro _ z rfl h;cases t:jD (bl s) (i+1)with
  |none=>
   refine⟨0,0,false,rfl,a8 rfl (bad z h ?_ _ _ _ _ _)⟩;unfold eQ
   grind
  |some q=>
   obtain⟨lo,m⟩:=q;obtain⟨hm,av⟩:=Ad t;refine⟨lo.toNat,m,true,rfl,?_⟩;try dsimp only
   rw[show ad .i64 (((i+1:Nat):Int)+(m:Int))=((i+1+m:Nat):Int)by rw[bf _ (by omega)];omega];have O:¬(i+1+m<(bl s).length/\(bl s).getD (i+1+m) 0=45)->eQ (bl s) i=(⟨63,0,0,[],i⟩,1):=λe=>by
    unfold eQ
    grind
   refine bb rfl (aQ (λe=>bad z h (O (λp=>by omega)) _ _ _ _ _) (λe=>⟨by omega,_,ku (i:=i+1+m) (by omega),?_⟩));refine cK (λG=>bad z h (O (λp=>?_)) _ _ _ _ _) (λap=>?_)
   .rw [p.2]at G;grind
   have an:(bl s).getD (i+1+m) 0=45:=by
    have S:(((bl s).getD (i+1+m) 0).toNat:Int)=45:=by grind
    have:((bl s).getD (i+1+m) 0).toNat=(45:UInt8).toNat:=by grind
    exact UInt8.toNat_inj.1 this
   rw[show ad .i64 (((i+1+m:Nat):Int)+1)=((i+1+m+1:Nat):Int)by rw[bf _ (by omega)];omega];refine h.ax (Ai s (i+1+m+1) (by omega) _) ?_;rintro _ l rfl d;cases ai:jD (bl s) (i+1+m+1)with
   |none=>
    refine⟨0,0,false,rfl,a8 rfl (bad l d ?_ _ _ _ _ _)⟩;unfold eQ
    grind
   |some q=>
    obtain⟨H,c⟩:=q;obtain⟨au,aw⟩:=Ad ai;refine⟨H.toNat,c,true,rfl,?_⟩;try dsimp only
    rw[show ad .i64 (((i+1+m:Nat):Int)+ad .i64 (1+(c:Int)))=((i+1+m+(1+c):Nat):Int)by rw[bf (1+(c:Int)) (by omega),bf _ (by omega)];omega];have B:eQ (bl s) i=if i+1+m+(1+c)<(bl s).length/\(bl s).getD (i+1+m+(1+c)) 0=93/\lo.toNat<=H.toNat then(⟨114,lo,H,[],i⟩,1+m+(1+c)+1)else(⟨63,0,0,[],i⟩,1):=by
     unfold eQ
     grind
    refine bb rfl (aQ (λe=>bad l d (B.trans (aq λp=>by omega)) _ _ _ _ _) (λe=>⟨by omega,_,ku (i:=i+1+m+(1+c)) (by omega),?_⟩));refine cK (λG=>bad l d (B.trans (aq λp=>?_)) _ _ _ _ _) (λam=>?_)
    .rw [p.2.1]at G;grind
    have ag:(bl s).getD (i+1+m+(1+c)) 0=93:=by
     have S:(((bl s).getD (i+1+m+(1+c)) 0).toNat:Int)=93:=by grind
     have:((bl s).getD (i+1+m+(1+c)) 0).toNat=(93:UInt8).toNat:=by grind
     exact UInt8.toNat_inj.1 this
    refine aQ (λQ=>bad l d (B.trans (aq λp=>by omega)) _ _ _ _ _) (λQ=>d.ak (bs:=[f]) (λw6 P=>⟨?_,P.fr⟩) (by simp));rw[B,aA ⟨by omega,ag,by omega⟩];rw[show ad .i64 (ad .i64 (((i+1+m+(1+c):Nat):Int)+1) - (i:Int))=((1+m+(1+c)+1:Nat):Int)by rw[bf (((i+1+m+(1+c):Nat):Int)+1) (by omega),bf _ (by omega)];omega];rfl
 .have N:¬jo ((bl s).getD i 0)=true:=by grind
  refine o.ax (Ai s i (by omega) _) ?_;rintro _ z rfl h;cases t:jD (bl s) i with
  |none=>
   refine⟨0,0,false,rfl,bb rfl (bad z h ?_ _ _ _ _ _)⟩;unfold eQ
   grind
  |some q=>
   obtain⟨b,n⟩:=q;refine⟨b.toNat,n,true,rfl,a8 rfl (h.ak (bs:=[f]) (λl d=>⟨?_,d.fr⟩) (by simp))⟩;unfold eQ;rw[aq D,aq N,aq L,t];rfl
structure Inv(S:SX)(m:Nat):Prop where
 lo:S.lo.length<=m
 sl:∀f∈S.lo,Small f m
 tp:Small S.tp m
 s1:S.st=1->0<=S.tp.k/\S.lo≠[]
 s2:S.st=2->0<=S.wd
def Small.mono{f:FX}{m n:Nat}(h:Small f m)(a:m<=n):Small f n:=⟨bB h.n' a,bB h.ar a,bB h.al a,bB h.an a,bB h.ca a⟩
def Ei(k:Int)(m:Nat):Small (km k) m:=⟨fj _,fj _,fj _,fj _,fj _⟩
def vv{f:FX}{m:Nat}(h:Small f m)(x:Rx):Small (iu f x) m:=⟨h.n',h.ar,h.al,h.an,h.ca⟩
def BD{t:Tk}{S j:SX}{m:Nat}(c:S.lo.length<=m)(b:∀f∈S.lo,Small f (m+1))(a:Small S.tp (m+1))(d:S.tp.n<=m)(h:fD t S=some j):Inv j (m+1):=by
 have k:∀f∈S.lo++[S.tp],Small f (m+1):=λf g=>by grind
 unfold fD at h;split at h
 .cases h;exact⟨by grind,b,⟨by grind,a.ar,a.al,a.an,a.ca⟩,λe=>(by grind),λe=>(by grind)⟩
 .split at h
  .cases h;exact⟨by grind,k,Ei _ _,λe=>(by grind),λe=>(by grind)⟩
  .split at h
   .cases h;exact⟨by grind,b,vv a _,λe=>(by grind),λe=>(by grind)⟩
   .split at h
    .split at h
     .cases h;exact⟨by grind,b,vv a _,λe=>(by grind),λe=>(by grind)⟩
     .split at h
      .cases h;exact⟨by grind,b,vv a _,λe=>(by grind),λe=>(by grind)⟩
      .split at h
       .cases h;exact⟨by grind,b,a,λe=>(by grind),λ_=>by grind⟩
       .split at h
        .cases h;exact⟨by grind,b,a,λe=>(by grind),λ_=>by grind⟩
        .split at h
         .cases h;exact⟨by grind,b,a,λe=>(by grind),λ_=>by grind⟩
         grind
    grind
def GO{S d:SX}{l:List Rx}{m:Nat}(b:Inv S m)(h:kF S l=some d):Inv d (m+1):=by
 unfold kF at h;rcases qh S.lo with c|⟨a,g,c⟩
 .grind
 .rw [c]at h;simp at h;subst h;have e:=b.lo;rw[c]at e;simp at e;exact⟨by grind,λf j=>(b.sl f (by grind)).mono (by omega),vv ((b.sl g (by grind)).mono (by omega)) _,λc=>(by grind),λc=>(by grind)⟩
def Bc{w:J}{t:Tk}{S n:SX}{m:Nat}(a:Inv S m)(h:fC w t S=some n):Inv n (m+1):=by
 have k:=a.lo;have e:∀f∈S.lo,Small f (m+1):=λf b=>(a.sl f b).mono (by omega);have d:Small S.tp (m+1):=a.tp.mono (by omega);have q:=a.tp.n';unfold fC at h;split at h
 .rename_i j;split at h
  .cases h;refine⟨by grind,λf b=>?_,Ei _ _,λ_=>⟨a.s2 j,by simp⟩,λc=>(by grind)⟩
   grind
  grind
 .rename_i j;split at h
  .split at h
   .exact GO a h
   .exact BD k e d q h
  .rename_i u;split at h
   .exact BD k e d q h
   .split at h
    .cases h;exact⟨by grind,e,vv d _,λc=>absurd c u,λc=>absurd c j⟩
    .split at h
     .cases h;refine⟨by grind,e,⟨fj _,d.ar,d.al,?_,fj _⟩,λc=>(by grind),λc=>(by grind)⟩;have:=a.tp.an;show(S.tp.an++[_]).length<=_
      grind
     .split at h
      .cases h;refine⟨by grind,e,⟨fj _,d.ar,?_,fj _,fj _⟩,λc=>(by grind),λc=>(by grind)⟩;have:=a.tp.al;show(S.tp.al++[_]).length<=_
       grind
      .split at h
       .split at h
        .cases h
        .cases h;refine⟨by grind,e,⟨fj _,?_,fj _,fj _,fj _⟩,λc=>(by grind),λc=>(by grind)⟩;have:=a.tp.ar;show(S.tp.ar.2++[_]).length<=_
         grind
       .split at h
        .split at h
         .cases h
         .exact GO a h
        .split at h
         .split at h
          .cases h;exact⟨by omega,e,d,a.s1,a.s2⟩
          grind
         .refine BD (S:=⟨S.lo,kc S.tp,S.st,S.wd⟩) k e ⟨fj _,d.ar,d.al,d.an,?_⟩ (fj _) h;have:=a.tp.ca;show(S.tp.ca++[_]).length<=_
          grind
def Qf{c:J}{t:Tk}{S:SX}(h:t.k=63):fC c t S=none:=by
 have it:∀S,fD t S=none:=λS=>by
  unfold fD
  grind
 unfold fC
 grind
def i0(l:List UInt8):Nat->Nat->List Tk
 |0,_=>[]
 |c+1,i=>if i<l.length then(if l.getD i 0=32 then i0 l c (i+1)else(eQ l i).1::i0 l c (i+(eQ l i).2))else[⟨36,0,0,[],l.length⟩]
def o':List Tk->SX->Int⊕SX->Prop
 |[],c,r=>r=.inr c
 |t::h,c,r=>∃e,(fC e t c=none/\r=.inl t.a)\/∃d,fC e t c=some d/\o' h d r
def My{l:List UInt8}{i:Nat}(a:i<l.length):1<=(eQ l i).2/\i+(eQ l i).2<=l.length:=by
 unfold eQ;split
 .omega
 .split
  .rename_i d;have c:(l.drop i)=l.getD i 0::l.drop (i+1):=by rw[List.drop_eq_getElem_cons a,List.getD_eq_getElem?_getD,a9 a];rfl
   have h:1<=((l.drop i).takeWhile jo).length:=by rw[c,List.takeWhile_cons,aA d];simp
   have j:((l.drop i).takeWhile jo).length<=(l.drop i).length:=(List.takeWhile_prefix (p:=jo) (l:=l.drop i)).length_le
   grind
  .split
   .grind
   .split
    .rename_i e;have:=Ad e;omega
    omega
abbrev EG(t:Tk):List ab:=[.int .u8 (t.k.toNat:Int),.int .u8 (t.lo.toNat:Int),.int .u8 (t.hi.toNat:Int),.string (ba t.s),.int .i64 t.a]
def tQ:En:=⟨[],λ_=>True,λ_ _ _ c=>c,λ_ _ b a=>by grind,by simp⟩
abbrev k9(d e f D b a:Nat)(s:ByteArray)(g i:ab)(o:Obj):List En:=[.c d [.int .i64 0,.int .u8 0,.int .u8 0,.slice none 0 0] aV,.c e [g] bp,.c f [i] MA,.ob D (.deferred (some [])),.ob b o,.c a [.string s] da]
def PS(i w:C)(j:Nat)(G:List En)(S:SX):Prop:=∃(e:J) (c:List FM) (f:FM) (d:List I) (p:Addr),c.map FM.x=S.lo/\f.x=S.tp/\(∀g∈c++[f],∀t∈g.ts,t∈d)/\e.a=some p/\(∀b∈I.bm d,i.heap.size<=b)/\SF F0 i w j e S.st S.wd c f G d
def PE(g w:C)(b:Nat)(G:List En):Prop:=∃(c:J) (a:List FM) (f:FM) (e:List I) (d i:Int),SF F0 g w b c d i a f G e
section
variable {s:ByteArray} {w0:C} {rb t2 t3 t4 D l_ bs:Nat} {o_:j0->Option Code->Obj}
abbrev Fg(s:ByteArray)(n o p j f l:Nat)(k:j0->Option Code->Obj):Prop:=
 ∀(a b c:Int) (d:ByteArray) (e:Int) (g:C) (i:Bool->C->Prop),g.heap[f]? =some (k .ready none)->DV.zm f k s (ag o) (ag p) (ag j) (ag n) (ag l) a b c d e g (λm r=>∃h:Bool,m=U (.bool h)/\i h r)->W.s4 V f #[.agg #[.int .u8 a,.int .u8 b,.int .u8 c,.string d,.int .i64 e]] g i
def J0(P:Fg s rb t2 t3 t4 l_ bs o_){S:SX}{m:Nat}(i:Inv S m)(hm:m<=900000)(t:Tk){e:En}{w:C}(H:PS w0 w rb (k9 t2 t3 t4 D l_ bs s (.int .i64 0) (.int .i64 0) (o_ .ready none)++[e]) S){K:Bool->C->Prop}(j:∀k h,fC h t S=none->PE w0 k rb (k9 t2 t3 t4 D l_ bs s (.int .i64 t.a) (.int .i64 2) (o_ .done (some .ret))++[e])->K false k)(l:∀k h y,fC h t S=some y->PS w0 k rb (k9 t2 t3 t4 D l_ bs s (.int .i64 0) (.int .i64 0) (o_ .ready none)++[e]) y->K true k):W.s4 V l_ #[t.v] w K:=by
 obtain⟨lo,ae,st,wd⟩:=S;obtain⟨sl,A,f,ts,p,n,q,L,N,hb,H⟩:=H;have n:A.map FM.x=lo:=n;have q:f.x=ae:=q;subst n q;refine P _ _ _ _ _ w K (H.ob 7) ?_;refine H.nw λw1 _ o=>o.LF 10 rfl λw2 aa=>aa.pu 7 rfl λw3 d=>⟨_,_,_,_,_,d.ld 10 0,d.ld 10 1,d.ld 10 2,d.ld 10 3,d.ld 10 4,?_⟩;have J:SF F0 w0 w3 rb sl st wd A f (k9 t2 t3 t4 D l_ bs s (.int .i64 0) (.int .i64 0) (o_ .busy none)++[e,.c w.heap.size (EG t) mJ]) ts:=d;refine J.wE L N (λab ac=>Oy ac (bB i.lo (by omega)) (i.tp.mono (by omega)) i.s1 t) ?_;rintro r w4 G B z Z ad ah I ak M O b4 ⟨h,Y⟩ u;rcases Y with⟨Q,rfl⟩|⟨T,rfl⟩
 .refine ⟨false,rfl,a8 rfl ?_⟩;refine u.dr λF g=>⟨t.a,g.ld 10 4,g.jt 3 rfl λw6 E=>⟨E.ld 10 4,E.jr 4 rfl λw7 ag=>ag.jr 5 rfl λw8 ai=>ai.pu 7 rfl λw9 aj=>⟨false,rfl,j w9 h Q ⟨G,B,z,I,ad,ah,?_⟩⟩⟩⟩;exact aj.take 10
 .refine ⟨true,rfl,bb rfl (u.pu 7 rfl λF g=>⟨true,rfl,l F h _ T ⟨G,B,z,I,Z,rfl,rfl,M,O,λb af=>?_,g.take 10⟩⟩)⟩
  grind
def Nm(k:C)(e f g i D c b:Nat)(s:ByteArray)(d:j0->Option Code->Obj)(j:C):Int⊕SX->Prop
 |.inl a=>PE k j e (k9 f g i D c b s (.int .i64 a) (.int .i64 2) (d .done (some .ret)))
 |.inr h=>PS k j e (k9 f g i D c b s (.int .i64 0) (.int .i64 0) (d .ready none)) h
def Tv(hs:s.size<=4096)(ae:Fg s rb t2 t3 t4 l_ bs o_)(R:aa):∀(n i m:Nat) (S:SX) (w:C),s.size - i<n->i<=s.size->Inv S m->m+n<=900000->
  PS w0 w rb (k9 t2 t3 t4 D l_ bs s (.int .i64 0) (.int .i64 0) (o_ .ready none)) S->
  (∀t g,o' (i0 (bl s) n i) S g->Nm w0 rb t2 t3 t4 D l_ bs s o_ t g->R (U (.tuple #[])) t)->yD.L0 l_ (ag bs) (i:Int) w R:=by
 intro n;induction n with
 |zero=>omega
 |succ n ih=>
  intro i m S w hn hi F hm hP q;have hl:(bl s).length=s.size:=eS s;have ai:=hP;obtain⟨Q,J,f,W,p,ab,ac,h3,h4,G,A⟩:=ai;refine yD.cf _ _ _ _ _ ⟨s,A.jO 8,aQ (λah=>⟨s,A.jO 8,by omega,_,ku (i:=i) (by omega),i3 (n:=32) (by omega) (λhc:(bl s).getD i 0=32=>?_) (λhc:(bl s).getD i 0≠32=>⟨s,A.jO 8,A.call (O1 s (by omega) i (by omega) w) ?_⟩)⟩) (λah=>⟨s,A.jO 8,?_⟩)⟩
  .rw [show ad .i64 ((i:Int)+1)=((i+1:Nat):Int)by rw[bf _ (by omega)];omega];refine ih (i+1) m S w (by omega) (by omega) F (by omega) hP (λt g hr Z=>q t g ?_ Z);unfold i0
   grind
  .rintro _ w1 rfl H;have aj:=My (l:=bl s) (i:=i) (by omega);have I:i0 (bl s) (n+1) i=(eQ (bl s) i).1::i0 (bl s) n (i+(eQ (bl s) i).2):=by rw[i0,aA (by omega),aq hc]
   rw[I]at q;refine⟨_,_,_,_,_,_,rfl,H.nw λw2 _ H2=>H2.LF 9 rfl λw7 r=>⟨_,_,_,_,_,r.ld 9 0,r.ld 9 1,r.ld 9 2,r.ld 9 3,r.ld 9 4,?_⟩⟩;have af:SF F0 w0 w7 rb Q S.st S.wd J f (k9 t2 t3 t4 D l_ bs s (.int .i64 0) (.int .i64 0) (o_ .ready none)++[.c w1.heap.size (EG (eQ (bl s) i).1) mJ]) W:=r;refine J0 ae F (by omega) (eQ (bl s) i).1 (e:=.c w1.heap.size (EG (eQ (bl s) i).1) mJ) ⟨Q,J,f,W,p,ab,ac,h3,h4,G,af⟩ (λx o v u=>a8 rfl (q x (.inl (eQ (bl s) i).1.a) ⟨o,.inl ⟨v,rfl⟩⟩ ?_)) (λx o E B u=>bb rfl ?_)
   .obtain ⟨y,j,h,z,T,Y,d⟩:=u;exact⟨y,j,h,z,T,Y,d.take 9⟩
   .obtain ⟨y,j,h,z,P,N,O,K,L,M,d⟩:=u;refine⟨_,d.ld 9 0,i3 (n:=63) (by omega) (λhk:(eQ (bl s) i).1.k=63=>?_) (λhk=>?_)⟩
    .rw [Qf hk]at B;grind
    .rw [show ad .i64 ((i:Int)+((eQ (bl s) i).2:Int))=((i+(eQ (bl s) i).2:Nat):Int)by rw[bf _ (by omega)];omega];refine ih (i+(eQ (bl s) i).2) (m+1) E x (by omega) (by omega) (Bc F B) (by omega) ⟨y,j,h,z,P,N,O,K,L,M,d.take 9⟩ (λt g hr Z=>q t g ⟨o,.inr ⟨E,B,hr⟩⟩ Z)
  .have I:i0 (bl s) (n+1) i=[⟨36,0,0,[],(bl s).length⟩]:=by rw[i0,aq (by omega)]
   rw[I,hl]at q;have H:=A.push tQ (Fr.refl _ _) trivial (λb G=>by cases G);refine J0 ae F (by omega) ⟨36,0,0,[],(s.size:Int)⟩ (e:=tQ) ⟨Q,J,f,W,p,ab,ac,h3,h4,G,H⟩ (λx o v u=>q x (.inl (s.size:Int)) ⟨o,.inl ⟨v,rfl⟩⟩ ?_) (λx o E B u=>q x (.inr E) ⟨o,.inr ⟨E,B,rfl⟩⟩ ?_)
   .obtain ⟨y,j,h,z,T,Y,d⟩:=u;exact⟨y,j,h,z,T,Y,d.take 9⟩
   .obtain ⟨y,j,h,z,P,N,O,K,L,M,d⟩:=u;exact⟨y,j,h,z,P,N,O,K,L,M,d.take 9⟩
end
def qy:∀(a b:List Rx),Rx.bc (a++b)=Rx.bc a+Rx.bc b
 |[],b=>by simp[Rx.bc]
 |c::a,b=>by have:=qy a b;show c.sz+Rx.bc (a++b)=(c.sz+Rx.bc a)+Rx.bc b;omega
def qE(x:Rx):Rx.bc [x]=x.sz:=by simp[Rx.bc]
def DB(k:Int)(l:List Rx):(nz k l).sz<=1+Rx.bc l:=by
 unfold nz;split
 .rw [qE];omega
 .unfold Rx.sz;omega
def Dv:∀(n:Nat) (r:Rx),(mx n r).sz=n+r.sz
 |0,r=>by unfold mx;omega
 |n+1,r=>by unfold mx;rw[Dv n];unfold Rx.sz;rw[qE];cases r;simp only[Rx.sz];omega
def fz(f:FX):Nat:=Rx.bc f.ar.2+Rx.bc f.al+Rx.bc f.an+Rx.bc f.ca+f.n
def lz:List FX->Nat
 |[]=>0
 |f::l=>fz f+lz l
def xf:∀(a b:List FX),lz (a++b)=lz a+lz b
 |[],b=>by simp[lz]
 |c::a,b=>by have:=xf a b;show fz c+lz (a++b)=(fz c+lz a)+lz b;omega
def pz(S:SX):Nat:=lz S.lo+fz S.tp+(if S.st=0\/S.st=1\/S.st=2 then 0 else S.tp.la.sz)
def DP(S:SX):pz S<=lz S.lo+fz S.tp+S.tp.la.sz:=by unfold pz;grind
def TK(S:SX):lz S.lo+fz S.tp<=pz S:=by unfold pz;omega
def nB{S:SX}(h:S.st=0\/S.st=1\/S.st=2):pz S=lz S.lo+fz S.tp:=by unfold pz;grind
def Kk{S:SX}(h:¬(S.st=0\/S.st=1\/S.st=2)):pz S=lz S.lo+fz S.tp+S.tp.la.sz:=by unfold pz;grind
def Rg(f:FX):fz (kc f)=fz f+f.la.sz:=by unfold fz kc;simp only[qy,qE,Dv];omega
def Lg(f:FX):fz (jI f)<=fz f+f.la.sz+1:=by have c:=DB 3 (f.ca++[mx f.n f.la]);simp only[qy,qE,Dv]at c;show Rx.bc f.ar.2+Rx.bc f.al+Rx.bc (f.an++[nz 3 (f.ca++[mx f.n f.la])])+Rx.bc []+0<=_;unfold fz;simp only[qy,Rx.bc];omega
def G2(f:FX):Rx.bc f.ar.2+Rx.bc (jH f).al<=fz f+f.la.sz+2:=by have d:=DB 5 (jI f).an;have e:=Lg f;have c:fz (jI f)=Rx.bc f.ar.2+Rx.bc f.al+Rx.bc (jI f).an+0+0:=rfl;show Rx.bc f.ar.2+Rx.bc (f.al++[nz 5 (jI f).an])<=_;simp only[qy,qE];omega
def PH(f:FX):fz (jH f)<=fz f+f.la.sz+2:=by have:=G2 f;show Rx.bc f.ar.2+Rx.bc (jH f).al+Rx.bc []+Rx.bc []+0<=_;simp only[Rx.bc];omega
def Bb(f:FX):Rx.bc f.ar.2+(eU f).sz<=fz f+f.la.sz+3:=by have c:=DB 4 (jH f).al;have:=G2 f;show _+(nz 4 (jH f).al).sz<=_;omega
def BE{t:Tk}{S c:SX}(h:fD t S=some c):pz c<=lz S.lo+fz S.tp+1:=by
 have leaf:∀(k:Int) (a b:UInt8),(Rx.mk k a b []).sz=1:=λk a b=>by unfold Rx.sz;simp[Rx.bc]
 unfold fD at h;split at h
 .cases h;rw[nB (.inl rfl)];show lz S.lo+(Rx.bc S.tp.ar.2+Rx.bc S.tp.al+Rx.bc S.tp.an+Rx.bc S.tp.ca+(S.tp.n+1))<=_;unfold fz;omega
 .split at h
  .cases h;rw[nB (.inl rfl)];show lz (S.lo++[S.tp])+fz (km (-1))<=_;rw[xf];have:fz (km (-1))=0:=rfl;simp only[lz];omega
  .have d:∀(k:Int) (a b:UInt8),pz ⟨S.lo,iu S.tp (.mk k a b []),3,S.wd⟩<=lz S.lo+fz S.tp+1:=λk a b=>by
    refine bB (DP _) ?_;show lz S.lo+fz S.tp+(Rx.mk k a b []).sz<=_
    grind
   split at h
   .grind
   .split at h
    .split at h
     .grind
     .split at h
      .grind
      .split at h
       .cases h;rw[nB (.inr (.inr rfl))];grind
       .split at h
        .cases h;rw[nB (.inr (.inr rfl))];grind
        .split at h
         .cases h;rw[nB (.inr (.inr rfl))];grind
         grind
    grind
def GQ{S c:SX}{l:List Rx}(h:kF S l=some c):pz c<=lz S.lo+Rx.bc l+1:=by
 unfold kF at h;rcases qh S.lo with d|⟨a,g,d⟩
 .grind
 .rw [d]at h ⊢;simp at h;subst h;refine bB (DP _) ?_;show lz a+fz g+(lq S.tp.k l).sz<=_;rw[xf];have:(lq S.tp.k l).sz<=Rx.bc l+1:=by
   unfold lq;split
   .cases l with
    |nil=>exact(by show fx.sz<=_;unfold fx Rx.sz;omega)
    |cons e l=>show e.sz<=_;unfold Rx.bc;omega
   .unfold Rx.sz;omega
  simp only[lz];omega
def Qh{e:J}{t:Tk}{S c:SX}(h:fC e t S=some c):pz c<=pz S+4:=by
 have q:=TK S;unfold fC at h;split at h
 .split at h
  .cases h;rw[nB (.inr (.inl rfl))];show lz (S.lo++[S.tp])+fz (km S.wd)<=_;rw[xf];have:fz (km S.wd)=0:=rfl;simp only[lz];omega
  grind
 .rename_i n;split at h
  .split at h
   .have:=GQ h;simp only[Rx.bc]at this;omega
   .have:=BE h;omega
  .rename_i k;split at h
   .have:=BE h;omega
   .rename_i j;have u:=Kk (S:=S) (by omega);split at h
    .cases h;refine bB (DP _) ?_;show lz S.lo+fz S.tp+(Rx.mk 7 0 0 [S.tp.la]).sz<=_;have:(Rx.mk 7 0 0 [S.tp.la]).sz=1+S.tp.la.sz:=by show 1+Rx.bc [S.tp.la]=_;rw[qE]
     omega
    .split at h
     .cases h;rw[nB (.inl rfl)];show lz S.lo+fz (jI S.tp)<=_;have:=Lg S.tp;omega
     .split at h
      .cases h;rw[nB (.inl rfl)];show lz S.lo+fz (jH S.tp)<=_;have:=PH S.tp;omega
      .split at h
       .split at h
        .cases h
        .cases h;rw[nB (.inl rfl)];show lz S.lo+(Rx.bc (S.tp.ar.2++[eU S.tp])+Rx.bc []+Rx.bc []+Rx.bc []+0)<=_;have:=Bb S.tp;simp only[qy,Rx.bc];omega
       .split at h
        .split at h
         .cases h
         .have d:=GQ h;have:=Bb S.tp;simp only[qy,qE]at d;omega
        .split at h
         .grind
         .have d:=BE h;have:=Rg S.tp
          grind
def Qg{d:J}{a:Int}{S c:SX}(h:fC d ⟨36,0,0,[],a⟩ S=some c):c=S/\¬(S.st=0\/S.st=1\/S.st=2):=by
 have it:∀S,fD ⟨36,0,0,[],a⟩ S=none:=λS=>rfl;unfold fC at h
 grind
def Eb(l:List UInt8):∀(n i:Nat) (S a:SX),l.length - i<n->o' (i0 l n i) S (.inr a)->(eU a.tp).sz<=pz S+4 *n+4
 |0,i,S,a,w,_=>by omega
 |n+1,i,S,a,w,c=>by
  unfold i0 at c;split at c
  .split at c
   .have:=Eb l n (i+1) S a (by omega) c;omega
   .rename_i x _;have z:=My x;obtain⟨y,⟨_,j⟩|⟨d,e,h⟩⟩:=c
    .cases j
    .have:=Eb l n (i+(eQ l i).2) d a (by omega) h;have:=Qh e;omega
  .obtain ⟨y,⟨_,j⟩|⟨d,e,h⟩⟩:=c
   .cases j
   .have k:a=d:=by have:Sum.inr a=(Sum.inr d:Int⊕SX):=h;grind
    obtain⟨q,u⟩:=Qg e;subst k q;have:=Kk u;have:=Bb a.tp;omega
def RT{M:Nat->Prop}{w0 w:C}{L D:List En}(H:Z M w0 w L D)(is d:List Nat)(j:is.Perm d)(i:d.map (λe=>L.getD e tQ)=L):Z M w0 w (is.map λe=>L.getD e tQ) D:=by
 have h:(is.map λe=>L.getD e tQ).Perm L:=by grind
 exact⟨H.fr,λc a=>H.own c (h.mem_iff.1 a),H.rd,λc a=>H.new c (h.mem_iff.1 a),((h.flatMap_right _).nodup_iff).2 H.nd,λc a b g f k=>H.dj c a b g f (h.mem_iff.1 k)⟩
def TM{c:C}{l:Nat}{o:j0->Option Code->Obj}{N:C->Prop}{X:Nat->C->Prop}{T:C->Prop}(h:kU c l (o .ready none) (o .exhausted none) N):vZ c l o N X T:=.inl h
def TN{c:C}{l:Nat}{o:j0->Option Code->Obj}{N:C->Prop}{X:Nat->C->Prop}{T:C->Prop}(h:kU c l (o .done (some .ret)) (o .exhausted (some .ret)) T):vZ c l o N X T:=.inr (.inr h)
def IW{b:Nat}(h:b∈I.bm [.mk 0 0 0 ⟨none,0,0⟩ []]):False:=by
 have:=w4 (ts:=[]) (k:=0) (lo:=0) (hi:=0) (b:=b) h;unfold I.bm at this
 grind
def sN:SX:=⟨[],km (-1),0,0⟩
def IB:Inv sN 0:=by
 refine⟨Nat.le_refl _,λf a=>?_,Ei _ _,λc=>?_,λc=>?_⟩
 .cases a
 .have:(0:Int)=1:=c;omega
 .have:(0:Int)=2:=c;omega
def Ea(l:List UInt8):∀(n i m:Nat) (S c:SX),Inv S m->o' (i0 l n i) S (.inr c)->Inv c (m+n)
 |0,i,m,S,c,h,d=>by
  have y:(Sum.inr c:Int⊕SX)=.inr S:=d
  grind
 |n+1,i,m,S,c,h,d=>by
  have x:∀{S:SX} {a b:Nat},Inv S a->a<=b->Inv S b:=λe k=>⟨bB e.lo k,λf g=>(e.sl f g).mono k,e.tp.mono k,e.s1,e.s2⟩;unfold i0 at d;split at d
  .split at d
   .exact x (Ea l n _ m S c h d) (by omega)
   .obtain ⟨z,⟨_,w⟩|⟨j,q,u⟩⟩:=d
    .cases w
    .exact x (Ea l n _ (m+1) j c (Bc h q) u) (by omega)
  .obtain ⟨z,⟨_,w⟩|⟨j,q,u⟩⟩:=d
   .cases w
   .have y:(Sum.inr c:Int⊕SX)=.inr j:=u;cases y;exact x (Bc h q) (by omega)
def Nn(w:C)(s:ByteArray):aa:=λr d=>aj w d/\
 ((4096<s.size/\r=U (.tuple #[.agg #[.int .i64 0,.int .u8 0,.int .u8 0,.slice none 0 0],.int .i64 4096,.int .i64 4]))\/
  (s.size<=4096/\∃res,o' (i0 (bl s) (s.size+1) 0) sN res/\((∃a,res=.inl a/\r=U (.tuple #[.agg #[.int .i64 0,.int .u8 0,.int .u8 0,.slice none 0 0],.int .i64 a,.int .i64 2]))\/
   ∃c,res=.inr c/\((64<(eU c.tp).sz/\r=U (.tuple #[.agg #[.int .i64 0,.int .u8 0,.int .u8 0,.slice none 0 0],.int .i64 (s.size:Int),.int .i64 4]))\/
    ((eU c.tp).sz<=64/\∃t:I,r=U (.tuple #[t.v,.int .i64 0,.int .i64 0])/\t.rx=eU c.tp/\t.P d/\∀b∈t.fp,w.heap.size<=b)))))
def Oh(s:ByteArray)(w:C):ah V CK #[.string s] w (Nn w s):=by
 refine DV.ok _ w _ ((bN [] (λ_ h=>by cases h)).nw λH _ H1=>H1.nw λJ _ H2=>H2.nw λw3 _ Y=>aQ (λh=>?_) (λh=>?_))
 .refine Y.jt 0 rfl λw4 H4=>H4.jr 1 rfl λw5 M=>M.jr 2 rfl λw6 o=>⟨_,_,_,⟨none,0,0⟩,o.ld 0 0,o.ld 0 1,o.ld 0 2,o.ld 0 3,_,o.jO 1,_,o.jO 2,o.fr,.inl ⟨by omega,rfl⟩⟩
 have F:s.size<=4096:=by omega
 have hl:(bl s).length=s.size:=eS s;refine Y.cB (e:=hB) (sz:=10) (n:=1) (cs:=(iB (-1)).c) rfl (by decide) λK al=>al.nw λar _ N=>?_;refine N.jr 4 rfl λau k=>k.st 4 1 rfl λai v=>v.st 4 2 rfl λm A=>?_;refine KO.ok _ m _ (A.nw λi _ j=>⟨_,rfl,?_⟩);show ∀x:j0->Option Code->Obj,_;intro x hY;have e1:(i.alloc (.deferred (some []))).heap.size=i.heap.size+1:=size_alloc _ _;have HG:=(j.alloc (.deferred (some []))).alloc (x .ready none);rw[e1]at HG;have hP:(En.rows (([]++[iB (-1)]:List FM).flatMap FM.rows)).P ((i.alloc (.deferred (some []))).alloc (x .ready none)):=by refine⟨λap E=>?_,by decide⟩;have E:ap∈[((⟨none,0,0⟩,[]):ed),(⟨none,0,0⟩,[]),(⟨none,0,0⟩,[]),(⟨none,0,0⟩,[])]:=E;simp only[ay,aW,a3,or_self]at E;subst E;exact aG.nil _ _ _
 have Ha:=(HG.push (.rows (([]++[iB (-1)]:List FM).flatMap FM.rows)) (Fr.refl _ _) hP (λb l=>by
  have l:=a4.1 l;have l:b∈([]:List Nat):=l;cases l)).gv (.trees [.mk 0 0 0 ⟨none,0,0⟩ []]) (Fr.refl _ _) (I.iE λt G=>by
   simp at G;subst G;show I.P _ _;unfold I.P I.Ps;exact⟨bF.nil 4 _,trivial⟩) (λb l=>by exact(IW (a4.1 l)).elim)
 have Hb:=RT Ha [4,3,8,0,1,2,6,7,5] [0,1,2,3,4,5,6,7,8] (by decide) rfl;have HS:SF F0 w ((i.alloc (.deferred (some []))).alloc (x .ready none)) K.heap.size ⟨some (ag w3.heap.size),1,1⟩ 0 0 [] (iB (-1)) (k9 w.heap.size H.heap.size J.heap.size i.heap.size (i.heap.size+1) m.heap.size s (.int .i64 0) (.int .i64 0) (x .ready none)) [.mk 0 0 0 ⟨none,0,0⟩ []]:=Hb;refine yD.ok _ _ _ _ (Tv (w0:=w) (rb:=K.heap.size) (t2:=w.heap.size) (t3:=H.heap.size) (t4:=J.heap.size) (D:=i.heap.size) (l_:=i.heap.size+1) (bs:=m.heap.size) F hY _ (s.size+1) 0 0 sN _ (by omega) (by omega) IB (by omega)
  ⟨_,[],iB (-1),_,_,rfl,rfl,λg hg t G=>?_,rfl,λb l=>?_,HS⟩ (λw' aq z he=>⟨⟨_,rfl⟩,?_⟩))
 .simp at hg;subst hg;simpa[FM.ts,iB]using G
 .exact (IW l).elim
 cases aq with
 |inl a=>
  obtain⟨T,B,f,W,st,aI,L⟩:=he;refine TN (L.pu 7 rfl λar N=>N.pu 6 rfl λi j=>⟨_,_,_,⟨none,0,0⟩,j.ld 3 0,j.ld 3 1,j.ld 3 2,j.ld 3 3,_,j.jO 4,_,j.jO 5,j.fr,.inr ⟨F,_,z,.inl ⟨a,rfl,rfl⟩⟩⟩)
 |inr u=>
  obtain⟨T,B,f,W,p,am,aa,h3,h4,l,L⟩:=he;have hI:=Ea _ _ _ _ _ _ IB z;have ao:=Eb _ _ _ _ _ (by omega) z;rw[show pz sN=0 from rfl]at ao;have ak:B.length<=1000000:=by have:=hI.lo;rw[<-am]at this;simp at this;omega
  refine TM (L.pu 7 rfl λw5 M=>?_);have Z:SF F0 w w5 K.heap.size T u.st u.wd B f (k9 w.heap.size H.heap.size J.heap.size i.heap.size (i.heap.size+1) m.heap.size s (.int .i64 0) (.int .i64 0) (x .exhausted none)) W:=M;refine Z.call (wx Z h4 ak) ?_;rintro _ w6 rfl o;have ae:SF F0 w w6 K.heap.size T u.st u.wd B f (k9 w.heap.size H.heap.size J.heap.size i.heap.size (i.heap.size+1) m.heap.size s (.int .i64 0) (.int .i64 0) (x .exhausted none)) W:=o;refine⟨_,rfl,ae.wE h3 h4 (λbf s1=>wq s1 (by rw[aa];exact hI.tp.mono (by omega))) ?_⟩;rintro r w7 aE aw f3 p3 aF aJ ad aH ax az af ⟨aC,aA,aB,rfl,rfl,q,Q,rfl,S⟩ H7;rw[aa]at S;have aD:q.sz=(eU u.tp).sz:=by rw[<-S,I.eF]
  refine⟨_,_,_,q.s,rfl,H7.nw λw8 _ H8=>H8.jt 9 rfl λw9 y=>⟨_,_,_,q.s,y.ld 9 0,y.ld 9 1,y.ld 9 2,y.ld 9 3,y.call (Ar q w9 (by omega) ((show I.Ps w9 ad from y.getD 0).mem Q)) ?_⟩⟩;rintro _ au rfl k;refine⟨_,rfl,aQ (λbe=>?_) (λbi=>?_)⟩
  .refine k.jt 3 rfl λai v=>v.jr 4 rfl λm A=>A.jr 5 rfl λav O=>O.pu 6 rfl λaj d=>⟨_,_,_,⟨none,0,0⟩,d.ld 3 0,d.ld 3 1,d.ld 3 2,d.ld 3 3,_,d.jO 4,_,d.jO 5,d.fr,.inr ⟨F,_,z,.inr ⟨u,rfl,.inl ⟨by omega,rfl⟩⟩⟩⟩
  .refine ⟨_,_,_,q.s,k.ld 9 0,k.ld 9 1,k.ld 9 2,k.ld 9 3,k.jt 3 rfl λai v=>v.jr 4 rfl λm A=>A.jr 5 rfl λav O=>O.pu 6 rfl λaj d=>⟨_,_,_,q.s,d.ld 3 0,d.ld 3 1,d.ld 3 2,d.ld 3 3,_,d.jO 4,_,d.jO 5,d.fr,.inr ⟨F,_,z,.inr ⟨u,rfl,.inr ⟨by omega,q,rfl,S,(show I.Ps aj ad from d.getD 0).mem Q,λb an=>?_⟩⟩⟩⟩⟩;rcases af b (I.bX.2 ⟨q,Q,an⟩)with h|h|h
   .exact l b h
   .exact h
   .exact h.elim
def E5:J:=⟨none,0,0⟩
def er(f:FX):FX:=⟨f.k,(E5,f.ar.2),f.al,f.an,f.ca,f.n,f.la⟩
def fu(S:SX):SX:=⟨S.lo.map er,er S.tp,S.st,S.wd⟩
def BC(t:Tk)(S:SX):(fD t S).map fu=fD t (fu S):=by
 have c:er (km (-1))=km (-1):=rfl;have d:(S.lo++[S.tp]).map er=S.lo.map er++[er S.tp]:=by simp
 unfold fD;split
 .rfl
 .split
  .simp only[Option.map_some,fu,c,d]
  .split
   .rfl
   .split
    .split
     .rfl
     .split
      .rfl
      .split
       .rfl
       .split
        .rfl
        .split<;>rfl
    .rfl
def GN(S:SX)(l:List Rx):(kF S l).map fu=kF (fu S) l:=by
 unfold kF;rcases qh S.lo with c|⟨a,g,c⟩
 .simp [c,fu]
 .have d:(fu S).lo=a.map er++[er g]:=by simp[fu,c]
  rw[c,d];simp[fu];rfl
def HS(a:J)(t:Tk)(S:SX):(fC a t S).map fu=fC E5 t (fu S):=by
 have j:(S.lo++[S.tp]).map er=S.lo.map er++[er S.tp]:=by simp
 have e:(fu S).st=S.st:=rfl;have h:(fu S).tp.k=S.tp.k:=rfl;unfold fC;rw[e,h];by_cases d:S.st=2
 .rw [aA d,aA d];split
  .show some (fu ⟨S.lo++[S.tp],km S.wd,1,S.wd⟩)=some ⟨S.lo.map er++[er S.tp],km S.wd,1,S.wd⟩;rw[<-j];rfl
  .rfl
 rw[aq d,aq d];split
 .split
  .exact GN S []
  .exact BC t S
 .split
  .exact BC t S
  .split
   .rfl
   .split
    .rfl
    .split
     .rfl
     .split
      .split<;>rfl
      .split
       .by_cases c:S.lo=[]
        .rw [aA c,aA (show(fu S).lo=[]by simp[fu,c])];rfl
        .rw [aq c,aq (show ¬(fu S).lo=[]by simp[fu,c])];exact GN S _
       .split
        .by_cases c:S.lo=[]
         .rw [aA c,aA (show(fu S).lo=[]by simp[fu,c])];rfl
         .rw [aq c,aq (show ¬(fu S).lo=[]by simp[fu,c])];rfl
        .exact BC t ⟨S.lo,kc S.tp,S.st,S.wd⟩
def vk:List Tk->SX->Int⊕SX
 |[],c=>.inr c
 |t::e,c=>match fC E5 t c with
  |none=>.inl t.a
  |some d=>vk e d
def HL:Int⊕SX->Int⊕SX
 |.inl a=>.inl a
 |.inr c=>.inr (fu c)
def K6:∀(a:List Tk) (S:SX) (r:Int⊕SX),o' a S r->HL r=vk a (fu S)
 |[],S,r,c=>by have c:r=.inr S:=c;subst c;rfl
 |t::a,S,r,c=>by
  obtain⟨h,⟨d,e⟩|⟨j,d,e⟩⟩:=c
  .subst e;have:=HS h t S;rw[d]at this;unfold vk;rw[<-this];rfl
  .have:=HS h t S;rw[d]at this;unfold vk;rw[<-this];exact K6 a j r e
def oY(l:List UInt8):Int⊕SX:=vk (i0 l (l.length+1) 0) sN
def Vu{s:ByteArray}{r:Int⊕SX}(h:o' (i0 (bl s) (s.size+1) 0) sN r):HL r=oY (bl s):=by have:=K6 _ _ _ h;rw[this];unfold oY;rw[eS];rfl
def Ba(S:SX):eU (fu S).tp=eU S.tp:=rfl
def lit(c:UInt8):Rx:=.mk 2 c c []
namespace Ku
noncomputable abbrev X:Fx:=⟨V,Tryz.f194,[(3,ls [0,1,2,3,4,5,6,7,8])],[]⟩
def ok(a:Int)(w:C)(R:aa)(h:gL xX #[.int .u8 a] w λk c=>Y k (aK c (.cells #[.int .u8 39,.int .u8 a,.int .u8 39] db) λf=>
 ∃i:ByteArray,a' V (Go.convert bM da (.slice (some (nb c)) 3 3)) f=.ok (.string i) f/\R (U (.string i)) f) (dM c λj=>(0:Int)<=(Int.fdiv a (2^(4)))/\∃b:UInt8,(av #[48,49,50,51,52,53,54,55,56,57,97,98,99,100,101,102])[ae (Int.fdiv a (2^(4)))]? =some b/\(0:Int)<=(nV .u8 a 15)/\∃d:UInt8,(av #[48,49,50,51,52,53,54,55,56,57,97,98,99,100,101,102])[ae (nV .u8 a 15)]? =some d/\aK j (.cells #[.int .u8 92,.int .u8 120,.int .u8 ((b.toNat:Nat):Int),.int .u8 ((d.toNat:Nat):Int)] db) λg=>
 ∃e:ByteArray,a' V (Go.convert bM da (.slice (some (nb j)) 4 4)) g=.ok (.string e) g/\R (U (.string e)) g)):ah V uL #[.int .u8 a] w R:=aM X [] h
end Ku
namespace KN
noncomputable abbrev X:Fx:=⟨V,Tryz.f151,[],[2]⟩
def aB(c d e:Int)(f:J)(b:Int)(w:C)(R:aa)(h:aP [] w λk l=>
 Ay [k] CM #[.agg #[.i c,.int .u8 d,.int .u8 e,f.v]] l λa g j=>Y (af (g<b)) (¬((((av #[40]).size+a.size:Nat):Int)>IntKind.i64.max)/\¬(((((av #[40])++a).size+(av #[41]).size:Nat):Int)>IntKind.i64.max)/\R (U (.string (((av #[40])++a)++(av #[41])))) j) (R (U (.string a)) j)):ah V nq #[.agg #[.i c,.int .u8 d,.int .u8 e,f.v],.i b] w R:=aM X [] h
end KN
namespace oM
noncomputable abbrev X:Fx:=⟨V,Tryz.f179,[(9,ls [0,1,5,6,2,3,4,7,8,9,10,11])],[1,9]⟩
abbrev P0:Ps:=[(1,.l [.I,.Y,.Y,.s] aV),(5,.v [.st]),(6,.v [.I]),(7,.v [.st]),(79,.v [.s]),(80,.v [.I]),(81,.v [.I])]
def dy(k:Nat)(c d e:Int)(f:J)(b:ByteArray)(a:Int)(l:ByteArray)(g:J)(i j:Int)(w:C)(R:aa):Prop:=bz P0 0 (X.Sem (ai [0,1,1,1,7])) k c d e f b a l g i j w R
noncomputable def dB:=bK X (ai [0,1,1,1,7]) P0 dy
abbrev P1:Ps:=[(1,.l [.I,.Y,.Y,.s] aV),(5,.v [.st]),(6,.v [.I]),(7,.v [.st]),(10,.v [.st]),(79,.v [.s]),(80,.v [.I]),(81,.v [.I])]
abbrev be(m:Nat)(d e f:Int)(g:J)(b:ByteArray)(a:Int)(i c:ByteArray)(j:J)(k l:Int)(w:C)(R:aa):Prop:=
 ¬(((i.size+c.size:Nat):Int)>IntKind.i64.max)/\dy m d e f g b a (i++c) j k (ad .i64 (l+1)) w R
noncomputable def a7:=aC X [dB] (ai [3,2,2,2,1,1,7]) P1 be
def ha:∀(m:Nat) (e f g:Int) (j:J) (b:ByteArray) (c:Int) (l:ByteArray) (k:J) (o d:Int) (w:C) (R:aa) (h:Y (af (d<o)) (aw k d λt=>bH w (t.add (ae d *4)) λA E F G=>aP [m] w λs B=>
 loc [m,s] B λD=>eM [m,s] nq #[.agg #[.i A,.int .u8 E,.int .u8 F,G.v],.i (ad .i64 (c+1))] D λp n=>Y (af (d>0)) (¬(((l.size+b.size:Nat):Int)>IntKind.i64.max)/\Y (e==3) ((0:Int)<=(ad .i64 ((((l++b).size:Nat):Int) - 1))/\∃q:UInt8,(l++b)[ae (ad .i64 ((((l++b).size:Nat):Int) - 1))]? =some q/\bP [m,s] r6 #[.int .u8 ((q.toNat:Nat):Int)] n λy u=>Y y ((0:Int)<=0/\∃r:UInt8,p[ae 0]? =some r/\bP [m,s] r6 #[.int .u8 ((r.toNat:Nat):Int)] u λz x=>Y z (¬((((l++b).size+(av #[32]).size:Nat):Int)>IntKind.i64.max)/\be m e f g j b c ((l++b)++(av #[32])) p k o d x R) (be m e f g j b c (l++b) p k o d x R)) (be m e f g j b c (l++b) p k o d u R)) (be m e f g j b c (l++b) p k o d n R)) (be m e f g j b c l p k o d n R)) (R (U (.tuple #[.string l,.i c])) w)),dy m e f g j b c l k o d w R:=mp (bL (X:=X) [a7,dB] (ai [0,1,1,1,7]) P0)
abbrev P2:Ps:=[(1,.l [.I,.Y,.Y,.s] aV),(4,.v [.st]),(5,.v [.st]),(6,.v [.I])]
abbrev aZ(r:Nat)(o p k:Int)(c:J)(b f:ByteArray)(d:Int)(w:C)(R:aa):Prop:=
 Y (((c.n:Nat):Int)==0) (¬(((b.size+(av #[40,41]).size:Nat):Int)>IntKind.i64.max)/\R (U (.tuple #[.string (b++(av #[40,41])),.i 4])) w) (Y (((c.n:Nat):Int)==1) (¬(((b.size+(av #[40]).size:Nat):Int)>IntKind.i64.max)/\aw c 0 λg=>bH w (g.add (ae 0 *4)) λh j l m=>eM [r] nq #[.agg #[.i h,.int .u8 j,.int .u8 l,m.v],.i 0] w λe s=>¬((((b++(av #[40])).size+e.size:Nat):Int)>IntKind.i64.max)/\¬(((((b++(av #[40]))++e).size+(av #[41]).size:Nat):Int)>IntKind.i64.max)/\R (U (.tuple #[.string (((b++(av #[40]))++e)++(av #[41])),.i 4])) s) (dy r o p k c f d (av #[]) c ((c.n:Nat):Int) 0 w R))
noncomputable def aX:=aC X [a7,dB] (ai [4]) P2 aZ
abbrev aS(i:Nat)(a b c:Int)(d:J)(g f:ByteArray)(e:Int)(w:C)(R:aa):Prop:=
 Y (a==4) (aZ i a b c d (av #[97,108,116]) (av #[124]) 0 w R) (Y (a==5) (aZ i a b c d (av #[97,108,108]) (av #[38]) 1 w R) (aZ i a b c d g f e w R))
noncomputable def aT:=aC X [aX,a7,dB] (ai [3]) P2 aS
def aB(b d e:Int)(c:J)(w:C)(R:aa)(h:aP [] w λj f=>
 Y (b==0) (R (U (.tuple #[.string (av #[110,111,110,101]),.i 4])) f) (Y (b==1) (R (U (.tuple #[.string (av #[101,109,112,116,121]),.i 4])) f) (Y (b==2) (Y (d==e) (eM [j] uL #[.int .u8 d] f λu z=>R (U (.tuple #[.string u,.i 4])) z) (loc [j] f λA=>eM [j] uL #[.int .u8 d] A λg B=>¬((((av #[91]).size+g.size:Nat):Int)>IntKind.i64.max)/\¬(((((av #[91])++g).size+(av #[45]).size:Nat):Int)>IntKind.i64.max)/\eM [j] uL #[.int .u8 e] B λk D=>¬((((((av #[91])++g)++(av #[45])).size+k.size:Nat):Int)>IntKind.i64.max)/\¬(((((((av #[91])++g)++(av #[45]))++k).size+(av #[93]).size:Nat):Int)>IntKind.i64.max)/\R (U (.tuple #[.string (((((av #[91])++g)++(av #[45]))++k)++(av #[93])),.i 4])) D)) (Y (b==6) (aw c 0 λl=>bH f (l.add (ae 0 *4)) λm o p x=>eM [j] nq #[.agg #[.i m,.int .u8 o,.int .u8 p,x.v],.i 3] f λn E=>¬((((av #[33]).size+n.size:Nat):Int)>IntKind.i64.max)/\R (U (.tuple #[.string ((av #[33])++n),.i 3])) E) (Y (b==7) (aw c 0 λr=>bH f (r.add (ae 0 *4)) λs t y G=>eM [j] nq #[.agg #[.i s,.int .u8 t,.int .u8 y,G.v],.i 4] f λq F=>¬(((q.size+(av #[42]).size:Nat):Int)>IntKind.i64.max)/\R (U (.tuple #[.string (q++(av #[42])),.i 4])) F) (aS j b d e c (av #[99,97,116]) (av #[]) 2 f R)))))):ah V CM #[.agg #[.i b,.int .u8 d,.int .u8 e,c.v]] w R:=aM X [aT,aX,a7,dB] h
end oM
namespace Ks
noncomputable abbrev X:Fx:=⟨V,Tryz.f136,[],[1]⟩
def aB(a b c:Int)(d:J)(w:C)(R:aa)(h:aP [] w λe k=>
 bG [e] xQ #[.agg #[.i a,.int .u8 b,.int .u8 c,d.v]] k λg j=>Y (g !=0) (R (U (.tuple #[.s0,.i g])) j) (eM [e] nq #[.agg #[.i a,.int .u8 b,.int .u8 c,d.v],.i 0] j λf l=>R (U (.tuple #[.string f,.i 0])) l)):ah V CL #[.agg #[.i a,.int .u8 b,.int .u8 c,d.v]] w R:=aM X [] h
end Ks
namespace Mm
noncomputable abbrev X:Fx:=⟨V,Tryz.f123,[],[3,6]⟩
def aB(s:ByteArray)(w:C)(R:aa)(h:Gy CK #[.string s] w λb j k n A m z=>aP [] z λa d=>
 Y (m !=0) (loc [a] d λt=>R (U (.bool false)) t) (loc [a] d λt=>tE [a] xP #[.agg #[.i b,.int .u8 j,.int .u8 k,n.v]] t λf g q u x y=>aP [a] y λr e=>
 Y (x !=0) (loc [a,r] e λl=>R (U (.bool false)) l) (loc [a,r] e λl=>Ay [a,r] CL #[.agg #[.i f,.int .u8 g,.int .u8 q,u.v]] l λo p c=>Y (p==0) (R (U (.bool (o.toList==s.toList))) c) (R (U (.bool false)) c)))):ah V ya #[.string s] w R:=aM X [] h
end Mm
end Go.Proofs.YthkcmmldhceegaaGreatDoor
