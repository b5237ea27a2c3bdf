import Derived.Test.YtjakeaplbkhjmaaGreatDoorOW
import Derived.Test.YtjakeaplbkhjmaaGreatDoorTA
import Derived.Test.YtjakeaplbkhjmaaGreatDoorT1
import Derived.Test.YtjakeaplbkhjmaaGreatDoorN6
import Derived.Lib.LaidTab
import Derived.Lib.LaidU8
import Derived.LaidByTextLater
import Derived.MakeChecks
import Derived.FnData
import Derived.OpenShut
import Derived.Test.YtjakeaplbkhjmaaGreatDoorRows
set_option linter.unusedVariables false
set_option maxRecDepth 100000
set_option maxHeartbeats 1000000
set_option linter.defProp false
noncomputable section
namespace Go.Proofs.YtjakeaplbkhjmaaGreatDoor
open Go renaming World->J,Calls->aj,Value->V
open Go.IntKind renaming wrap->aD
open _root_.Int renaming toNat->aZ,tdiv->dP,tmod->ez,toNat_natCast->bG
open _root_.ByteArray renaming mk->a8
open Go.IntWalk renaming i64_in->br
open _root_.Bool renaming and_eq_true->be
open _root_.Nat renaming le_refl->bm,zero_le->di
open _root_.Option.some renaming inj->dZ
open Go.Proofs.Tryz renaming prog->U
open _root_.Decidable renaming decide->ai
open Go.Ending renaming returned->ad
open List renaming mem_append->aK,mem_cons->aF,not_mem_nil->a5,mem_of_getElem?->aA,getElem?_eq_getElem->a0,getElem?_eq_some_iff->cq,mem_flatMap->cl,length_append->bb,length_cons->bx,length_nil->eU,getElem?_append_right->Au,append_assoc->cE,mem_singleton->b',length_take->gK,length_drop->dM,flatMap_cons->da,mem_iff_getElem?->i9,mem_cons_of_mem->cJ,mem_cons_self->gq,drop_eq_getElem_cons->dy,getElem?_map->px,all_eq_true->cY,append_nil->bU,map_cons->iG,drop_drop->iF,drop_of_length_le->dw
open Go Go.W
def dI:bY:=⟨⟨0,0,[]⟩,[],[],[]⟩
def vN(d:Nx):Nx:=⟨0,[],0,0,0,ba (bl d.tx),d.st⟩
def eu(x:bY)(d:Nx):bY:={x with s:=⟨x.s.p+(nW (bl d.tx) d.st).length,x.s.tm,(bj x.s.g (vN d)).1⟩,vs:=x.vs++[(bl d.tx,(bj x.s.g (vN d)).2.1.toNat)],cs:=x.cs++[⟨0,bl d.tx,d.st,((bj x.s.g (vN d)).2.1.toNat:Nat),0⟩]}
def Pa(x:bY)(d:Nx):Bool:=(lk x.vs (bl d.tx)).isNone&&(lk x.ms (bl d.tx)).isNone&&bw d.st&&ai ((bj x.s.g (vN d)).2.2=0)
def z6:bY->List Nx->Bool
 |_,[]=>true
 |e,d::h=>Pa e d&&z6 (eu e d) h
def kh(L:List Nx):List TK:=L.flatMap λd=>nW (bl d.tx) d.st
def Ju{T:List aG}:∀(L:List Nx) (x:bY),z6 x L=true->dE T L.length (kh L) x (L.foldl eu x)
 |[],_,_=>.nil
 |d::L,x,e=>by unfold z6 Pa at e;simp only[be,Option.isNone_iff_eq_none,decide_eq_true_eq]at e;obtain⟨⟨⟨⟨j,k⟩,q⟩,w⟩,y⟩:=e;have:=(dE.decl (T:=T) j k q w).app (Ju L (eu x d) y);rw[Nat.add_comm]at this;have h:kh (d::L)=nW (bl d.tx) d.st++kh L:=da;rw[h];exact this
def um(x:bY)(nm:List UInt8)(ps:List (List UInt8×aP))(KB:List TK):bY:={x with s:={x.s with p:=x.s.p+(gX nm ps KB).length},ms:=x.ms++[(nm,⟨ps,x.s.p+5+(eH ps).length,x.ms.length⟩)]}
def oo(L:List Nx):bY:=um (um (um (L.foldl eu dI) hn hO lV) hq [] oi) jW nA qp
def rP:List TK:=gX hn hO lV++(gX hq [] oi++gX jW nA qp)
def ln(L:List Nx):List TK:=kh L++rP
def nC(L:List Nx):Bool:=z6 dI L&&ai ((L.foldl eu dI).s.p=(kh L).length)&&(L.foldl eu dI).ms.isEmpty&&ai ((L.foldl eu dI).s.tm=0)&&ai ((L.foldl eu dI).s.g=L)&&
 (lk (L.foldl eu dI).vs hn).isNone&&(lk (L.foldl eu dI).vs hq).isNone&&(lk (L.foldl eu dI).vs jW).isNone&&ai (lk (L.foldl eu dI).vs [97]=some 0)&&ai (lk (L.foldl eu dI).vs [98]=some 1)&&
 (lk (L.foldl eu dI).vs zY).isNone&&(lk (L.foldl eu dI).vs OP).isNone&&L.all (λd=>ai (bl d.tx≠zY))&&ai ((L[0]?).map (·.st)=some (aN 2))&&ai ((L[1]?).map (·.st)=some (aN 2))&&
 L.all λd=>match lk (L.foldl eu dI).vs (bl d.tx)with
  |some e=>ai ((L[e]?).map (·.st)=some d.st)
  |none=>false
def Z2:nC (xs fO)=true:=by kernel_rfl
def Z3:nC (xs (fO++hE))=true:=by kernel_rfl
def Z4:nC (xs (fO++hE++ih))=true:=by kernel_rfl
def Z8(kind:Int):nC (xs (cm kind))=true:=by
 unfold cm;by_cases d:kind>0
 .rw [af d];by_cases e:kind>1
  .rw [af e];exact Z4
  .rw [aa e,bU];exact Z3
 .rw [aa d,aa io,bU,bU];exact Z2
def Db{T:List aG}{p:Nat}{nm:List UInt8}{ps:List (List UInt8×aP)}{KB K:List TK}(d:ch T p (gX nm ps KB++K)):ch T (p+5+(eH ps).length) KB:=by
 have e:=d.app.1;have h:ch T (p+1+1+1+1) (eH ps++(1,[])::(KB++[(1,[])])):=e.cons.2.2.2.cons.2.2.2.cons.2.2.2.cons.2.2.2;have j:=h.app.2.cons.2.2.2.app.1
 rwa[show p+1+1+1+1+(eH ps).length+1=p+5+(eH ps).length by omega]at j
def qT(L:List Nx)(T:List aG):Prop:=ch T 0 (ln L)
def Ey{L:List Nx}{i:Nat}{z:aP}(e:(L[i]?).map (·.st)=some z):∃d,L[i]? =some d/\d.st=z:=by
 cases h:L[i]? with
 |none=>rw[h]at e;cases e
 |some d=>rw[h]at e;exact⟨d,rfl,by simpa using e⟩
section
variable {L:List Nx}
def Z7(h:nC L=true)(T:List aG):dE T (L.length+3) (ln L) dI (oo L):=by unfold nC at h;simp only[be,Option.isNone_iff_eq_none,decide_eq_true_eq,List.isEmpty_iff]at h;obtain⟨⟨⟨⟨⟨⟨⟨⟨⟨⟨⟨⟨⟨⟨⟨z,A⟩,e⟩,B⟩,C⟩,q⟩,w⟩,y⟩,K⟩,M⟩,N⟩,O⟩,P⟩,G⟩,H⟩,I⟩:=h;have k:=Ju (T:=T) L dI z;obtain⟨d,j⟩:∃d,L.foldl eu dI=d:=⟨_,rfl⟩;rw[j]at A e B C q w y k;have D:=dE.defn (T:=T) (x:=d) (nm:=hn) (ps:=hO) (KB:=lV) q (by rw[e];rfl) dl dl dl;have E:=dE.defn (T:=T) (x:=um d hn hO lV) (nm:=hq) (ps:=[]) (KB:=oi) w (by show lk (d.ms++_) _=_;rw[e];rfl) dl dl dl;have F:=dE.defn (T:=T) (x:=um (um d hn hO lV) hq [] oi) (nm:=jW) (ps:=nA) (KB:=qp) y (by show lk (d.ms++_++_) _=_;rw[e];rfl) dl dl dl;have:=k.app (D.app (E.app F));unfold oo;rw[j];exact this
def Z5(h:nC L=true):oJ (qT L) L (oo L).vs (oo L).ms:=by
 unfold nC at h;simp only[be,Option.isNone_iff_eq_none,decide_eq_true_eq,List.isEmpty_iff]at h;obtain⟨⟨⟨⟨⟨⟨⟨⟨⟨⟨⟨⟨⟨⟨⟨D,w⟩,x⟩,E⟩,F⟩,H⟩,y⟩,I⟩,z⟩,A⟩,B⟩,C⟩,K⟩,k⟩,q⟩,G⟩:=h;have j:(oo L).ms=(L.foldl eu dI).ms++[(hn,⟨hO,(L.foldl eu dI).s.p+5+(eH hO).length,(L.foldl eu dI).ms.length⟩)]++[(hq,⟨[],(L.foldl eu dI).s.p+(gX hn hO lV).length+5+(eH []).length,((L.foldl eu dI).ms++[(hn,(⟨hO,(L.foldl eu dI).s.p+5+(eH hO).length,(L.foldl eu dI).ms.length⟩:PM))]).length⟩)]++
   [(jW,⟨nA,(L.foldl eu dI).s.p+(gX hn hO lV).length+(gX hq [] oi).length+5+(eH nA).length,((L.foldl eu dI).ms++[(hn,(⟨hO,(L.foldl eu dI).s.p+5+(eH hO).length,(L.foldl eu dI).ms.length⟩:PM))]++[(hq,(⟨[],(L.foldl eu dI).s.p+(gX hn hO lV).length+5+(eH []).length,((L.foldl eu dI).ms++[(hn,(⟨hO,(L.foldl eu dI).s.p+5+(eH hO).length,(L.foldl eu dI).ms.length⟩:PM))]).length⟩:PM))]).length⟩)]:=rfl
 rw[w,x]at j;refine⟨⟨_,_,_,j,λd e=>?_,λd e=>?_,λd e=>?_⟩,z,A,y,B,C,Ey k,Ey q⟩
 .have a:ch d (0+(kh L).length) (gX hn hO lV++(gX hq [] oi++gX jW nA qp)):=(show ch d 0 (kh L++rP)from e).app.2;rw[Nat.zero_add]at a;exact Db a
 .have a:ch d (0+(kh L).length) (gX hn hO lV++(gX hq [] oi++gX jW nA qp)):=(show ch d 0 (kh L++rP)from e).app.2;rw[Nat.zero_add]at a;exact Db a.app.2
 .have a:ch d (0+(kh L).length) (gX hn hO lV++(gX hq [] oi++gX jW nA qp)):=(show ch d 0 (kh L++rP)from e).app.2;rw[Nat.zero_add]at a;have b:=a.app.2.app.2;rw[<-bU (gX jW nA qp)]at b;exact Db b
def Z6(j:nC L=true):(oo L).s.g=L/\(oo L).s.tm=0/\(∀d∈L,∃e h,lk (oo L).vs (bl d.tx)=some e/\L[e]? =some h/\h.st=d.st)/\∀d∈L,bl d.tx≠zY:=by
 unfold nC at j;simp only[be,Option.isNone_iff_eq_none,decide_eq_true_eq,List.isEmpty_iff]at j;obtain⟨⟨⟨⟨⟨⟨⟨⟨⟨⟨⟨⟨⟨⟨⟨C,D⟩,E⟩,w⟩,x⟩,F⟩,G⟩,H⟩,I⟩,K⟩,M⟩,N⟩,z⟩,A⟩,B⟩,y⟩:=j;refine⟨x,w,λd k=>?_,λd k=>eQ (cY.1 z d k)⟩;have:=cY.1 y d k;show ∃e h,lk (L.foldl eu dI).vs (bl d.tx)=some e/\_;cases q:lk (L.foldl eu dI).vs (bl d.tx)with
 |none=>rw[q]at this;cases this
 |some e=>
  rw[q]at this;obtain⟨h,a,b⟩:=Ey (eQ this);exact⟨e,h,rfl,a,b⟩
end
structure oD(P:List aG->Prop)(G0 g:List Nx)(x:bY)(N:Nat):Prop where
 go:fR G0 x.s.g
 ev:oJ P G0 x.vs x.ms
 vs:nS x.vs g G0
 gl:x.s.g.length<=10+N
 tm:x.s.tm<=N
def pI(n:Nat):List TK:=if n=0 then[]else if n=1 then[(0,[]),(2,[112,117,115,104]),(1,[])]else if n=2 then[(0,[]),(2,[112,111,112]),(1,[])]else
 if n=3 then[(0,[]),(2,[99,104,101,99,107]),(4,[49,48,48]),(1,[])]else[(0,[]),(2,[114,101,116,114,97,99,116]),(2,[112,48]),(1,[])]
def mu(g:List Nx):Nat->List (Nat×Nat)->List TK
 |_,[]=>[]
 |i,a::al=>lJ (ai (a.2 / 10%3=2)) (112::bN i) (mY (a.2 / 2%5) (dB (a.1+1) g a.1))++(pI (a.2 / 30%5)++mu g (i+1) al)
section
variable {P:List aG->Prop} {G0 g:List Nx} {x:bY} {N:Nat}
def acb(d:oD P G0 g x N)(n:Nat):∃m h,m<=(pI n).length/\(∀e,P e->dE e m (pI n) x h)/\oD P G0 g h N:=by
 unfold pI;split
 .exact ⟨0,x,bm _,λe _=>.nil,d⟩
 split
 .exact ⟨1,_,gs,λe _=>.push,⟨d.go,d.ev,d.vs,d.gl,d.tm⟩⟩
 split
 .exact ⟨1,_,gs,λe _=>.pop,⟨d.go,d.ev,d.vs,d.gl,d.tm⟩⟩
 split
 .exact ⟨1,_,gs,λe _=>.check,⟨d.go,d.ev,d.vs,d.gl,d.tm⟩⟩
 .exact ⟨1,_,gs,λe _=>.aaK,⟨d.go,d.ev,d.vs,d.gl,d.tm⟩⟩
def nS.go{vs:List (List UInt8×Nat)}{G:List Nx}(d:nS vs g G0)(e:fR G0 G):nS vs g G:=by obtain⟨r,rfl,_⟩:=e.up;exact d.app r
def Ue(L:Vg g)(I:∀d∈g,0<=d.u/\d.u<18446744073709551616)(ab:g.length<=60)(H:∀h,P h->8<=h.length)(j:oD P G0 g x N)(hN:N<=3000){i n:Nat}{d:Nx}(hd:g[i]? =some d)(M:d.st=aN 1)(hs:bQ (i+1) g i<=401)(e:Bool)(nm:List UInt8):
  ∃B,(∀h,P h->dE h 1 (lJ e nm (mY n (dB (i+1) g i))) x B)/\oD P G0 g B (N+430):=by
 have ae:=(cq.1 hd).1;have ac:=j.gl;have ag:=j.tm;obtain⟨W,Y,Z,z,_⟩:=j.ev.b;obtain⟨Q,hq,O,r,e1,C,S,D,F,G⟩:=acI (E:=iZ [] x) (m:=bQ (i+1) g i) (K:=dB (i+1) g i) (q:=(dB (i+1) g i).length) j.ev j.go (by show 2<9223372036854775807;decide) rfl rfl io n (bm _) λk r aa A af=>by
  have:=dJ.tx (P:=P) (E:={iZ [] x with dp:=k}) L I hd A (j.vs.go A) (by rw[bb];omega) (by show k+i<64;omega) (λ_ _ _=>rfl)
  rwa[M]at this
 have hm:vp n (bQ (i+1) g i)<=430:=by
  unfold vp;repeat' split
  all_goals omega
 refine⟨{x with s:=⟨x.s.p+(lJ e nm (mY n (dB (i+1) g i))).length,x.s.tm+vp n (bQ (i+1) g i),x.s.g++r⟩,cs:=x.cs++[⟨if e then 2 else 1,nm,a6,O,0⟩]},λh y w=>?_,⟨D,j.ev,j.vs,by show(x.s.g++r).length<=_;rw[bb];omega,by show x.s.tm+vp n _<=_;omega⟩⟩;refine dE.Uc (T:=h) (C h y) F G io ?_ (by rw[z];exact(by decide:(3:Nat)<=1000)) w;have h8:=H h y;have hl:=w.len;rw[z];show Q<=3 *(h.length+1)+_;omega
def H7(A:Vg g)(z:∀e∈g,0<=e.u/\e.u<18446744073709551616)(y:g.length<=60)(q:∀d,P d->8<=d.length):∀(al:List (Nat×Nat)) (i:Nat) (x:bY) (N:Nat),oD P G0 g x N->N+430 *al.length<=3000->(∀a∈al,∃e,g[a.1]? =some e/\e.st=aN 1/\bQ (a.1+1) g a.1<=401)->
  ∃n k,n<=(mu g i al).length/\(∀d,P d->dE d n (mu g i al) x k)/\oD P G0 g k (N+430 *al.length)
 |[],i,x,N,h,_,_=>⟨0,x,bm _,λd _=>.nil,h⟩
 |a::al,i,x,N,h,H,w=>by
  rw[bx]at H;obtain⟨e,B,C,D⟩:=w a gq;obtain⟨k,K,E⟩:=Ue A z y q h io (n:=a.2 / 2%5) B C D (ai (a.2 / 10%3=2)) (112::bN i);obtain⟨m,O,S,L,F⟩:=acb E (a.2 / 30%5);obtain⟨n,Q,T,M,G⟩:=H7 A z y q al (i+1) O (N+430) F io λb I=>w b (cJ _ I);refine⟨1+(m+n),Q,?_,λd j=>(K d j).app ((L d j).app (M d j)),?_⟩
  .unfold mu lJ;simp only[bb,bx];omega
  .rw [bx,show N+430 *(al.length+1)=N+430+430 *al.length by omega];exact G
end
def bZ.oj{l:List UInt8}{K:List TK}(k:bZ l K):bZ (40::l) ((0,[])::K):=λr p h q d=>by obtain⟨e,j,w⟩:=k r (p+1) h q (by rw[bx]at d;rw[Nat.add_assoc,Nat.add_comm 1];exact d);exact⟨⟨0,[],p⟩::e,by rw[iG,j];rfl,.tok (i:=p) (l:=40::(l++r)) (u:=1) rfl w⟩
def bZ.cls{l:List UInt8}{K:List TK}(k:bZ l K):bZ (41::l) ((1,[])::K):=λr p h q d=>by obtain⟨e,j,w⟩:=k r (p+1) h q (by rw[bx]at d;rw[Nat.add_assoc,Nat.add_comm 1];exact d);exact⟨⟨1,[],p⟩::e,by rw[iG,j];rfl,.tok (i:=p) (l:=41::(l++r)) (u:=1) rfl w⟩
def Eo{u l:List UInt8}{p:Nat}{k:List aG}(j:aH false (u++l)=u.length+aH false l)(w:Lex (p+u.length) l k):Lex p (u++l) k:=by
 have e:(u++l).drop (aH false (u++l))=l.drop (aH false l):=by rw[j,<-iF,List.drop_left]
 cases w with
 |fin h=>
  have d:p+u.length+aH false l=p+aH false (u++l):=by rw[j];omega
  rw[d];exact .fin (by rw[e];exact h)
 |tok h q=>
  have d:p+u.length+aH false l=p+aH false (u++l):=by rw[j];omega
  rw[d]at q ⊢;exact .tok (by rw[e];exact h) (by rw[e];exact q)
def bZ.pre{u l:List UInt8}{K:List TK}(w:∀r,aH false (u++r)=u.length+aH false r)(k:bZ l K):bZ (u++l) K:=λr p h q d=>by obtain⟨e,j,x⟩:=k r (p+u.length) h q (by rw[bb,<-Nat.add_assoc]at d;exact d);exact⟨e,j,by rw[cE];exact Eo (w _) x⟩
def bZ.nl{l:List UInt8}{K:List TK}(d:bZ l K):bZ (10::l) K:=.pre (u:=[10]) (λr=>by show(if f' 10 then 1+aH false r else _)=_;rw[af dl];rfl) d
def bZ.wd{t l:List UInt8}{K:List TK}{k:Int}(d:bZ t [(k,t)])(h:bZ l K)(e:kT l):bZ (t++l) ((k,t)::K):=d.app h e
def h7{c:UInt8}{l:List UInt8}(d:mD c=true):kT (c::l):=mC d
def rl(t:List UInt8)(K:List TK):Bool:=match tokens t with
 |.ok d=>ai (d.dropLast.map kt=K)
 |.bad _ _=>false
def bZ.lit{t l:List UInt8}{K j:List TK}(d:rl t K=true)(z:bZ l j):bZ (t++10::l) (K++j):=λr p x A k=>by
 unfold rl at d;cases e:tokens t with
 |bad a C=>rw[e]at d;cases d
 |ok h=>
  rw[e]at d;have d:h.dropLast.map kt=K:=eQ d;obtain⟨w,y,B⟩:=z r (p+(t.length+1)) x A (by rw[bb,bx]at k;rw[show p+(t.length+1)+l.length=p+(t.length+(l.length+1))by omega];exact k);have q:=Yf (Em e).1 p;rw[Nat.zero_add]at q;have:=Ye q B io;refine⟨(h.map (AT p)).dropLast++w,?_,?_⟩
  .rw [List.map_append,y,<-d,<-List.map_dropLast,List.map_map];rfl
  .rw [cE,cE];exact this
def oW(d:Nx):List UInt8:=[40,100,101,99,108,97,114,101,32]++bl d.tx++32::jH d.st++[41,10]
def v'(L:List Nx):List UInt8:=L.flatMap oW
def Ex:List UInt8:=[40,100,101,102,105,110,101,32,40,109,109,32,40,97,32,40,98,118,32,50,41,41,32,40,113,32,40,98,118,32,50,41,41,41,32,40,97,100,100,32,97,32,40,109,117,108,32,113,32,98,41,41,41,10,40,100,101,102,105,110,101,32,40,111,110,101,41,32,40,117,108,116,32,40,109,109,32,97,32,98,41,32,98,41,41,40,100,101,102,105,110,101,32,40,110,110,32,40,99,32,40,98,118,32,49,41,41,41,32,40,111,114,32,99,32,111,110,101,41,41,32,59,32,116,104,114,101,101]
def kD(L:List Nx):List UInt8:=v' L++Ex
def VH:rl (kD (xs fO)) (ln (xs fO))=true:=by kernel_rfl
def VI:rl (kD (xs (fO++hE))) (ln (xs (fO++hE)))=true:=by kernel_rfl
def VJ:rl (kD (xs (fO++hE++ih))) (ln (xs (fO++hE++ih)))=true:=by kernel_rfl
def VK(kind:Int):rl (kD (xs (cm kind))) (ln (xs (cm kind)))=true:=by
 unfold cm;by_cases d:kind>0
 .rw [af d];by_cases e:kind>1
  .rw [af e];exact VJ
  .rw [aa e,bU];exact VI
 .rw [aa d,aa io,bU,bU];exact VH
def qI(n:Nat)(t:List UInt8):List UInt8:=
 if n=0 then 40::(jW++32::(t++[41]))else if n=1 then 40::([97,110,100]++32::(hq++32::(t++[41])))else
 if n=2 then[40,101,113,32,40,109,109,32,98,32,97,41,32,40,110,117,109,32,50,32,50,41,41]else t
def mT(n:Nat)(r:List UInt8):List UInt8:=if n=0 then r else if n=1 then 40::([112,117,115,104]++41::r)else if n=2 then 40::([112,111,112]++41::r)else
 if n=3 then 40::([99,104,101,99,107]++32::([49,48,48]++41::r))else 40::([114,101,116,114,97,99,116]++32::([112,48]++41::r))
def tj(e:Bool)(nm t r:List UInt8):List UInt8:=40::(mw e++32::(nm++32::(t++41::10::r)))
def nk(g:List Nx):Nat->List (Nat×Nat)->List UInt8
 |_,[]=>[]
 |i,a::al=>tj (ai (a.2 / 10%3=2)) (112::bN i) (qI (a.2 / 2%5) (eN (a.1+1) g a.1)) (mT (a.2 / 30%5) (nk g (i+1) al))
def jL{t:List UInt8}{k:Int}(d:(t.head?.any hF&&t.all bO&&ai (fx t=(k,0)))=true):bZ t [(k,t)]:=by
 simp only[be,decide_eq_true_eq]at d;refine rN ?_ (λh e=>cY.1 d.1.2 h e) d.2;cases t with
 |nil=>simp at d
 |cons c l=>exact⟨c,l,rfl,by simpa using d.1.1⟩
def acE{t:List UInt8}{K:List TK}(d:bZ t K)(n:Nat):bZ (qI n t) (mY n K):=by
 unfold qI mY;have e:bZ (t++[41]) (K++[(1,[])]):=d.app zn (h7 dl);split
 .exact .oj (.wd (jL dl) e.sp (h7 dl))
 split
 .exact .oj (.wd (jL dl) (.sp (.wd (jL dl) e.sp (h7 dl))) (h7 dl))
 split
 .have h:bZ [50] [(4,[50])]:=jL dl;exact .oj (.wd (t:=[101,113]) (jL dl) (.sp (.oj (.wd (t:=hn) (jL dl) (.sp (.wd (t:=[98]) (jL dl) (.sp (.wd (t:=[97]) (jL dl) (.cls (.sp (.oj (.wd (t:=[110,117,109]) (jL dl) (.sp (.wd h (.sp (.wd h (.cls (.cls .nil)) (h7 dl))) (h7 dl))) (h7 dl))))) (h7 dl))) (h7 dl))) (h7 dl)))) (h7 dl))
 .exact d
def aca{r:List UInt8}{K:List TK}(d:bZ r K)(n:Nat):bZ (mT n r) (pI n++K):=by
 unfold mT pI;split
 .exact d
 split
 .exact .oj (.wd (t:=[112,117,115,104]) (jL dl) d.cls (h7 dl))
 split
 .exact .oj (.wd (t:=[112,111,112]) (jL dl) d.cls (h7 dl))
 split
 .exact .oj (.wd (t:=[99,104,101,99,107]) (jL dl) (.sp (.wd (t:=[49,48,48]) (jL dl) d.cls (h7 dl))) (h7 dl))
 .exact .oj (.wd (t:=[114,101,116,114,97,99,116]) (jL dl) (.sp (.wd (t:=[112,48]) (jL dl) d.cls (h7 dl))) (h7 dl))
def ZS:∀i<100,bZ (112::bN i) [(2,112::bN i)]:=by
 have d:∀i<100,((112::bN i).head?.any hF&&(112::bN i).all bO&&ai (fx (112::bN i)=(2,0)))=true:=by decide+kernel
 exact λi e=>jL (d i e)
def Ud{e:Bool}{nm t r:List UInt8}{KT K:List TK}(h:bZ nm [(2,nm)])(j:bZ t KT)(k:bZ r K):bZ (tj e nm t r) (lJ e nm KT++K):=by
 have q:bZ (mw e) [(2,mw e)]:=by cases e<;>exact jL dl
 have:=bZ.oj (.wd q (.sp (.wd h (.sp (j.app (.cls k.nl) (h7 dl))) (h7 dl))) (h7 dl));have d:lJ e nm KT++K=(0,[])::(2,mw e)::(2,nm)::(KT++(1,[])::K):=by unfold lJ;simp
 rw[d];exact this
def H6{g:List Nx}(e:Vg g):∀(al:List (Nat×Nat)) (i:Nat),i+al.length<=100->(∀a∈al,a.1<g.length)->bZ (nk g i al) (mu g i al)
 |[],_,_,_=>.nil
 |a::al,i,j,d=>by rw[bx]at j;exact Ud (ZS i io) (acE (O6 e _ _ (Nat.lt_succ_self _) (d a gq)) _) (aca (H6 e al (i+1) io λb h=>d b (cJ _ h)) _)
def sw(L g:List Nx)(al:List (Nat×Nat)):List UInt8:=kD L++10::nk g 0 al
def jG(L g:List Nx)(al:List (Nat×Nat)):List TK:=ln L++mu g 0 al
def abw{g:List Nx}(h:Vg g){L:List Nx}(d:rl (kD L) (ln L)=true){al:List (Nat×Nat)}(j:al.length<=100)(e:∀a∈al,a.1<g.length):bZ (sw L g al) (jG L g al):=
 .lit d (H6 h al 0 io e)
def bZ.kN{l:List UInt8}{K:List TK}(j:bZ l K):∃d,Lex 0 l (d++[⟨6,[],l.length⟩])/\d.map kt=K:=by obtain⟨d,h,e⟩:=j [] 0 [⟨6,[],0+l.length+0⟩] (.inl rfl) (.fin rfl);rw[bU]at e;rw[show 0+l.length+0=l.length by omega]at e;exact⟨d,e,h⟩
def abi{T:List aG}{n:Nat}{K:List TK}{y:bY}{t:List UInt8}(h:dE T n K dI y)(w:n<=K.length)(d:T.map kt=K++[(6,t)]):iH T (T.length+1) dI=.ok y:=by
 have j:ch T 0 K:=⟨[(6,t)],by rw[List.drop_zero];exact d⟩;obtain⟨a,b⟩:=h j;have q:T.length=K.length+1:=by have:=congrArg List.length d;simpa using this
 have k:ch T y.s.p [(6,t)]:=by have:ch T 0 (K++[(6,t)]):=⟨[],by rw[List.drop_zero,bU];exact d⟩;rw[a];exact this.app.2
 have e:T.length+1=(T.length - n)+1+n:=io
 rw[e,b];exact abj k _
def abx{L g:List Nx}(k:nC L=true)(z:Vg L)(E:L.length<=10)(M:Vg g)(K:∀d∈g,0<=d.u/\d.u<18446744073709551616)(H:g.length<=60)(B:∀d∈g,d.op=0->d∈L){al:List (Nat×Nat)}(Q:al.length<=4)(F:∀a∈al,∃d,g[a.1]? =some d/\d.st=aN 1/\bQ (a.1+1) g a.1<=401):
  ∃n w,n<=(jG L g al).length/\(∀e,qT L e->dE e n (jG L g al) dI w)/\oD (qT L) L g w 1720:=by
 obtain⟨q,N,C,O⟩:=Z6 k;have j:oD (qT L) L g (oo L) 0:=⟨⟨by rw[q];exact z,[],by rw[q,bU],λP G=>(by cases G)⟩,Z5 k,λd A j=>C d (B d A j),by rw[q];omega,io⟩;have S:8<=rP.length:=dl
 have I:(ln L).length=(kh L).length+rP.length:=bb;obtain⟨n,w,D,y,h⟩:=H7 M K H (λe (x:qT L e)=>by have:=x.len;omega) al 0 (oo L) 0 j io F;have A:L.length<=(kh L).length:=by
  unfold kh;clear h y D j O C N q I B E z k;induction L with
  |nil=>exact bm _
  |cons d L T=>
   rw[da,bb,bx];have:1<=(nW (bl d.tx) d.st).length:=by unfold nW;simp
   omega
 refine⟨L.length+3+n,w,?_,λe x=>(Z7 k e).app (y e x),⟨h.go,h.ev,h.vs,by have:=h.gl;omega,by have:=h.tm;omega⟩⟩;unfold jG;rw[bb];omega
def xJ:∀(l:List UInt8) (b:Bool),aH b (l.take (aH b l))=aH b l
 |[],b=>by cases b<;>rfl
 |c::l,false=>by
  show aH false ((c::l).take (if f' c then 1+aH false l else if c.toNat=59 then 1+aH true l else 0))=(if f' c then 1+aH false l else if c.toNat=59 then 1+aH true l else 0);by_cases d:f' c=true
  .rw [af d,Nat.add_comm 1,List.take_succ_cons];show(if f' c then 1+aH false (l.take (aH false l))else _)=_;rw[af d,xJ l false,Nat.add_comm]
  rw[aa d];by_cases e:c.toNat=59
  .rw [af e,Nat.add_comm 1,List.take_succ_cons];show(if f' c then _ else if c.toNat=59 then 1+aH true (l.take (aH true l))else 0)=_;rw[aa d,af e,xJ l true,Nat.add_comm]
  .rw [aa e];rfl
 |c::l,true=>by
  show aH true ((c::l).take (if c.toNat=10 then 1+aH false l else 1+aH true l))=(if c.toNat=10 then 1+aH false l else 1+aH true l);by_cases d:c.toNat=10
  .rw [af d,Nat.add_comm 1,List.take_succ_cons];show(if c.toNat=10 then 1+aH false (l.take (aH false l))else _)=_;rw[af d,xJ l false,Nat.add_comm]
  .rw [aa d,Nat.add_comm 1,List.take_succ_cons];show(if c.toNat=10 then _ else 1+aH true (l.take (aH true l)))=_;rw[aa d,xJ l true,Nat.add_comm]
def lY(s:List UInt8):List aG->Nat
 |[]=>s.length
 |t::_=>t.aT
def ly(s:List UInt8)(sep:Nat->List UInt8):Nat->List aG->List UInt8
 |_,[]=>[]
 |i,t::d=>sep i++((s.take (lY s d)).drop t.aT++10::ly s sep (i+1) d)
def HH(u:List UInt8):Prop:=∀r,aH false (u++r)=u.length+aH false r
def Lu{i:Nat}{l:List UInt8}{A:List aG}(d:Lex i l A):∃t e,A=t::e/\t.aT=i+aH false l:=by
 cases d with
 |fin d=>exact⟨_,_,rfl,rfl⟩
 |tok d _=>exact⟨_,_,rfl,rfl⟩
def abF{s:List UInt8}{sep:Nat->List UInt8}(K:∀i,HH (sep i)){p:Nat}{l:List UInt8}{A:List aG}(d:Lex p l A):∀(i q:Nat),s.drop p=l->p+l.length=s.length->∃h,Lex q (ly s sep i A) h/\h.map kt=A.map kt:=by
 induction d with
 |@fin p l k=>
  intro i q z Q;have F:=Dd (Fl k);refine⟨[⟨6,[],q+(ly s sep i [⟨6,[],p+aH false l⟩]).length⟩],?_,rfl⟩;have B:ly s sep i [⟨6,[],p+aH false l⟩]=sep i++[10]:=by show sep i++((s.take s.length).drop (p+aH false l)++[10])=_;rw[List.take_length,dw io];rfl
  have I:aH false (sep i++[10])=(sep i++[10]).length:=by rw[K i];simp[aH,f']
  rw[B];have H:=Lex.fin (i:=q) (l:=sep i++[10]) (by rw[I,List.drop_length];rfl);rw[I]at H;exact H
 |@tok p l x t u A k O ih=>
  intro i q z Q;obtain⟨_,u1,u2,_⟩:=pf k;have C:=Fo k;have ag:=hC false l;rw[dM]at u2;have P:s.drop (p+aH false l+u)=(l.drop (aH false l)).drop u:=by rw[<-z,iF,iF,Nat.add_assoc]
  obtain⟨t2,y,rfl,Z⟩:=Lu O;generalize w:(l.drop (aH false l)).drop u=l2 at *;have af:l2.length=l.length - aH false l - u:=by rw[<-w];simp;omega
  have T:(s.take t2.aT).drop (p+aH false l)=(l.drop (aH false l)).take u++l2.take (aH false l2):=by rw[Z,show p+aH false l+u+aH false l2=(p+aH false l)+(u+aH false l2)by omega,List.drop_take,Nat.add_sub_cancel_left,<-iF,z,List.take_add,w]
  obtain⟨h,G,N⟩:=ih (i+1) (q+(sep i).length+u+((l2.take (aH false l2)).length+1)) P io;generalize W:ly s sep (i+1) (t2::y)=rest at G;have B:ly s sep i (⟨x,t,p+aH false l⟩::t2::y)=sep i++((l.drop (aH false l)).take u++(l2.take (aH false l2)++10::rest)):=by show sep i++((s.take t2.aT).drop (p+aH false l)++10::ly s sep (i+1) (t2::y))=_;rw[T,cE,W]
  have ab:((l.drop (aH false l)).take u).length=u:=by rw[gK,dM];omega
  refine⟨⟨x,t,q+(sep i).length⟩::h,?_,?_⟩
  .rw [B];refine Eo (K i _) ?_;have Y:aH false ((l2.take (aH false l2)++[10])++rest)=(l2.take (aH false l2)++[10]).length+aH false rest:=by rw[cE];show aH false (l2.take (aH false l2)++10::rest)=_;rw[AX _ false rest (by rw[xJ,gK,Nat.min_eq_left (hC false l2)]),bb];rfl
   have M:Lex (q+(sep i).length+u) (l2.take (aH false l2)++10::rest) h:=by
    have:=Eo (p:=q+(sep i).length+u) Y (by rw[bb];exact G)
    rwa[cE]at this
   have j:=C.skip (l2.take (aH false l2)++10::rest);have aa:z8 x (l2.take (aH false l2)++10::rest):=by
    cases e:l2.take (aH false l2)with
    |nil=>exact .inr (.inr ⟨10,rest,rfl,dl⟩)
    |cons ae ac=>
     rcases C.tail with d|d|⟨E,D,d,hx⟩
     .exact .inl d
     .rw [w]at d;rw[d]at e;simp at e
     .rw [w]at d;rw[d]at e;refine .inr (.inr ⟨ae,ac++10::rest,rfl,?_⟩);have:aH false (E::D)≠0:=λj=>by rw[j]at e;simp at e
      obtain⟨m,S⟩:∃m,aH false (E::D)=m+1:=⟨aH false (E::D) - 1,io⟩;rw[S,List.take_succ_cons]at e;cases e;exact hx
   have:=Lex.tok (i:=q+(sep i).length) (l:=(l.drop (aH false l)).take u++(l2.take (aH false l2)++10::rest)) (kd:=x) (t:=t) (u:=u) (L:=h) (by rw[j,List.drop_zero];exact C.loc _ aa) (by
    rw[j,List.drop_zero,Nat.add_zero];have F:((l.drop (aH false l)).take u++(l2.take (aH false l2)++10::rest)).drop u=l2.take (aH false l2)++10::rest:=by
     conv=>lhs;arg 1;rw[<-ab]
     exact List.drop_left
    rw[F];exact M)
   rw[j,Nat.add_zero]at this;exact this
  .rw [iG,iG,N];rfl
def sO(b:Nat):En:=.c b (m3.map λt=>.string (ba t)) fD
def UN(w:J):aj U Nn #[] w λr e=>(∃b,r=ad (.slice (some (ab b)) 35 35)/\w.heap.size<=b/\(sO b).P e)/\ag w e:=
 J5.ok ((O.start (M:=F0) [] gs).nw λh _ d=>⟨⟨_,rfl,bm _,d.get 0⟩,d.fr⟩)
def sx(b c:Nat):En:=.all [.c b (kK.map λd=>.string (ba d.2)) fD,.c c (kK.map λd=>.i d.1) bA]
def Vk(w:J):aj U No #[] w λr h=>(∃b c,r=ad (.tuple #[.slice (some (ab b)) 7 7,.slice (some (ab c)) 7 7])/\(∀j∈(sx b c).fp,w.heap.size<=j)/\(sx b c).P h)/\ag w h:=
 J6.ok ((O.start (M:=F0) [] gs).nw λA y k=>k.nw λB z d=>⟨⟨_,_,rfl,λj q=>by
  have:=a7.1 q;simp[En.ob]at this;omega,λx e=>by
  simp only[aF,a5,a9]at e;rcases e with rfl|rfl
  .exact d.get 0
  .exact d.get 1⟩,d.fr⟩)
def FA{w:J}{b i:Nat}{vs:List V}{T:TypeId}{v:V}(d:(En.c b vs T).P w)(hi:vs[i]? =some v):w.cell? ((ab b).add (aZ (i:Int) *1))=some v:=by rw[bG,Nat.mul_one];exact cellAt (p:=ab b) (i:=i) d rfl (by simpa using hi)
def ZF:∀n<31,kK.foldl (qF ((n+4:Nat):Int)) (m3.getD (n+4) [])=dH ((n+4:Nat):Int):=dl
def ac7:∀t∈m3,t.length<=10:=dl
def Ph{op:Int}(e:4<=op)(h:op<=34):(dH op).length<=10:=by
 have d:∀n<31,(dH ((n+4:Nat):Int)).length<=10:=dl
 have:=d (op - 4).toNat io
 rwa[show(((op - 4).toNat+4:Nat):Int)=op by omega]at this
def Ix{s:Sl}{l:List Nd}(S:HK (xs l)):∀(n i:Nat),i<n->i<l.length->∀h,GP h s l->aj U Nm #[s.v,.i (i:Int)] h λr z=>r=ad (.string (ba (eN (i+1) (xs l) i)))/\ag h z
 |0,i,Y,_,_,_=>absurd Y io
 |n+1,i,Y,hi,h,hP=>by
  have hg:l[i]? =some (l[i]'hi):=a0 hi;generalize l[i]'hi=d at hg;have hx:=m4 hg;have I:=sM S.v hx;have aI:=aA hx;have hlen:=S.l i (by simp[xs];exact hi);have hu:=S.u _ aI;have aN:=S.t _ aI;have hk:=S.v.rK i d.x hx;have bg:d.x.kids.length<=3:=by have Q:=I.ok.kl;have h2:=(Ed d.x.op).2;omega
  have ak:O F0 h h [] [.gr s l]:=bT _ (by intro a4 he;rw[b'.1 he];exact bf.2 hP);have E:eN (i+1) (xs l) i=if d.x.op=0 then bl d.x.tx else if d.x.op=1 then 35::98::fa d.x.u.toNat d.x.st.n.toNat else if d.x.op=2 then i' (bl d.x.tx)else
   if d.x.op=3 then[40,122,101,114,111,32]++jH d.x.st++[41]else
   40::dH d.x.op++fJ d.x++d.x.kids.flatMap (λah=>32::eN i (xs l) ah.toNat)++[41]:=by
   conv=>lhs;unfold eN
   rw[hx]
  generalize eN (i+1) (xs l) i=full at E hlen;obtain⟨g1,g2,g3⟩:=eE (bf.1 (ak.getD 0)) (X:=(i:Int)) rfl hg (K:=λp=>∃C,C=p/\Nd.hZ h p (aZ (i:Int)) d) λp hp c=>⟨p,rfl,c⟩;refine iY.aq ⟨g1,g2,r5 g3 λp ⟨C,hq,c⟩=>⟨d.x.op,d.ks,d.x.n,d.x.m,d.x.u,d.x.tx,d.x.st.k,d.x.st.n,d.x.st.x,c.c0,c.c1,c.c2,c.c3,c.c4,c.c5,c.c6,c.c7,c.c8,ak.ax λb w1 P=>?_⟩⟩;have P:O F0 h w1 [.g b] [.gr s l]:=P;refine aw (λZ=>P.ae λN F=>?_) (λZ=>aw (λQ=>P.ae λN F=>?_) (λQ=>aw (λh2=>P.ae λN F=>?_) (λh2=>aw (λh3=>P.ae λN F=>?_) (λh3=>P.ae λN F=>?_))))
  .rw [af Z]at E;exact⟨by rw[E,kZ],F.fr⟩
  .rw [aa Z,af Q]at E;have bj:=sL I.st;have bk:1<=d.x.st.n:=by have:=I.st;have bd:=(I.nu Q).1;unfold bw at this;simp at this;omega
   have e1:aD .i64 (d.x.st.n - 1)=(d.x.st.n.toNat:Int) - 1:=by rw[br _ io];omega
   rw[e1];have:=IA (w:=h) (b:=b) (x0:=d.x.op) (x1:=d.ks) (x2:=d.x.n) (x3:=d.x.m) (x4:=d.x.u) (x5:=d.x.tx) (x6:=d.x.st.k) (x7:=d.x.st.n) (x8:=d.x.st.x) (L:=[.g b]) (D:=[.gr s l]) (u:=d.x.u.toNat) (n:=d.x.st.n.toNat) io io io (R:=λr z=>r=ad (.string (ba full))/\ag h z) (λz H'=>⟨by rw[E],H'.fr⟩) gs d.x.st.n.toNat N (bm _) F;rw[Nat.sub_self,List.take_zero]at this;exact this
  .rw [aa Z,aa Q,af h2]at E;refine F.av (Ql d.x.tx aN N) ?_;rintro _ w3 rfl W;exact⟨_,rfl,by rw[E],W.fr⟩
  .rw [aa Z,aa Q,aa h2,af h3]at E;have bi:=RW d.x.st;refine F.av (IZ I.st N) ?_;rintro _ w3 rfl W;refine⟨_,rfl,ov dl (by rw[bc];omega),ov (by rw[ByteArray.size_append,bc];show 6+_<=_;omega) dl,?_,W.fr⟩;rw[E,<-bM,<-bM];rfl
  rw[aa Z,aa Q,aa h2,aa h3]at E;have aL:=I.op;have bh:=Ph (op:=d.x.op) io aL.2;have aR:(fJ d.x).length+2<=full.length:=by have:=congrArg List.length E;simp only[bb,bx]at this;omega
  refine F.hh (UN N) ?_;rintro _ w3 ⟨T,rfl,bn,a1⟩ _ F3;have W:=F3.rd (sO T) a1 (λa3 hx=>by
   have:a3=T:=by simpa[sO,En.ob]using hx
   omega)
  have a2:(m3.map λt=>Value.string (ba t))[d.x.op.toNat]? =some (.string (ba (m3.getD d.x.op.toNat []))):=by
   have:d.x.op.toNat<m3.length:=by show _<35;omega
   rw[px,List.getD_eq_getElem?_getD,a0 this];rfl
  have bo:(m3.getD d.x.op.toNat []).length<=10:=by
   have:d.x.op.toNat<m3.length:=by show _<35;omega
   rw[List.getD_eq_getElem?_getD,a0 this];exact ac7 _ (List.getElem_mem this)
  refine⟨⟨some (ab T),35,35⟩,rfl,aL.1,by show d.x.op<((35:Nat):Int);omega,ba (m3.getD d.x.op.toNat []),?_,ov dl (by rw[bc];omega),?_⟩
  .have:=FA (w:=w3) (W.getD 1) a2
   rwa[show(d.x.op.toNat:Int)=d.x.op by omega]at this
  refine(W.hh (Vk w3) ?_:);rintro _ w4 ⟨G,H,rfl,aY,aX⟩ _ F4;have H4:=F4.rd (sx G H) aX aY;have H4:O F0 h w4 [.g b] [.gr s l,sO T,sx G H]:=H4;refine⟨⟨some (ab G),7,7⟩,⟨some (ab H),7,7⟩,rfl,?_⟩;have kids:∀(m j:Nat) (o:List UInt8) (e:J),j+m=d.x.kids.length->full=o++(d.x.kids.drop j).flatMap (λah=>32::eN i (xs l) ah.toNat)++[41]->O F0 h e [.g b] [.gr s l]->
    iY.iO s b d.x.op d.ks d.x.n d.x.m d.x.u d.x.tx d.x.st.k d.x.st.n d.x.st.x (ba o) (j:Int) e λr z=>r=ad (.string (ba full))/\ag h z:=by
   intro m;induction m with
   |zero=>
    intro j o e hj B A;have aP:d.ks.n=d.x.kids.length:=bI.len ((bf.1 (A.getD 0)).2 d (aA hg));have am:=congrArg List.length B;simp only[bb]at am;refine iY.mj (aW (aS io) ⟨ov (by rw[bc];omega) dl,?_,A.fr⟩);rw[B,dw io];rw[show(a8 #[41])=ba [41]from rfl,bM];simp
   |succ m ih=>
    intro j o e hj B A;have aJ:=(bf.1 (A.getD 0)).2 d (aA hg);have aP:d.ks.n=d.x.kids.length:=bI.len aJ;have az:d.x.kids[j]? =some (d.x.kids[j]'io):=a0 io;have aH:d.x.kids.drop j=d.x.kids[j]'io::d.x.kids.drop (j+1):=dy io;generalize d.x.kids[j]'io=ah at az aH;obtain⟨k0,k1⟩:=hk ah (aA az);rw[aH,da]at B;have am:=congrArg List.length B;simp only[bb,bx]at am;obtain⟨kn,rfl⟩:=Int.eq_ofNat_of_zero_le k0;rw[bG,O5 S.v.rK i kn io (kn+1) io]at B am;refine iY.mj (aU (aQ io) ⟨ov (by rw[bc];omega) dl,io,io,bI.cell aJ az io λC hq hc=>⟨(kn:Int),hc,?_⟩⟩);refine A.av (Ix S n kn io io e (bf.1 (A.getD 0))) ?_;rintro _ q rfl y;refine⟨_,rfl,ov (by rw[ByteArray.size_append,bc];show _+1<=_;omega) (by rw[bc];omega),?_⟩;show iY.iO s b d.x.op d.ks d.x.n d.x.m d.x.u d.x.tx d.x.st.k d.x.st.n d.x.st.x _ (aD .i64 ((j:Int)+1)) q _;rw[bp _ io,show(a8 #[32])=ba [32]from rfl,bM,bM];exact ih (j+1) _ q io (by rw[B];simp) y
  have S4:∀e,O F0 h e [.g b] [.gr s l]->iY.ft s b d.x.op d.ks d.x.n d.x.m d.x.u d.x.tx d.x.st.k d.x.st.n d.x.st.x (ba (40::dH d.x.op++fJ d.x)) e λr z=>r=ad (.string (ba full))/\ag h z:=λe A=>
   kids d.x.kids.length 0 _ e io (by rw[List.drop_zero];exact E) A
  have fin:∀e,O F0 h e [.g b] [.gr s l]->iY.ng s b d.x.op d.ks d.x.n d.x.m d.x.u d.x.tx d.x.st.k d.x.st.n d.x.st.x (ba (40::dH d.x.op)) e (λr z=>r=ad (.string (ba full))/\ag h z)\/True:=λ_ _=>.inr trivial;have an:(a8 #[32])=ba [32]:=rfl;have hz:(ba (40::dH d.x.op)).size<=11:=by rw[bc];simp;omega
  have S7:(d.x.op=22\/d.x.op=23\/d.x.op=28)->∀e,O F0 h e [.g b] [.gr s l]->iY.ng s b d.x.op d.ks d.x.n d.x.m d.x.u d.x.tx d.x.st.k d.x.st.n d.x.st.x (ba (40::dH d.x.op)) e λr z=>r=ad (.string (ba full))/\ag h z:=λB e A=>by
   obtain⟨q1,q2⟩:=I.n2 B;have a9:=jt d.x.n.toNat;refine⟨ov io dl,A.av (q8 (w:=e) q1 io) ?_⟩;rintro _ q rfl y;refine⟨_,rfl,ov (by rw[ByteArray.size_append];show _+1<=_;omega) (by rw[bc];omega),?_⟩;have M:fJ d.x=32::bN d.x.n.toNat:=by unfold fJ;rw[aa io,af B]
   have:=S4 q y;rw[M]at this;rw[an,bM,bM];simpa using this
  have S8:¬(d.x.op=21\/d.x.op=22\/d.x.op=23\/d.x.op=28)->∀e,O F0 h e [.g b] [.gr s l]->iY.qX s b d.x.op d.ks d.x.n d.x.m d.x.u d.x.tx d.x.st.k d.x.st.n d.x.st.x (ba (40::dH d.x.op)) d.x.op e λr z=>r=ad (.string (ba full))/\ag h z:=λB e A=>by
   refine aw (λay=>⟨ov io dl,A.av (Ql d.x.tx aN e) ?_⟩) (λay=>?_)
   .rintro _ q rfl y;have M:fJ d.x=32::i' (bl d.x.tx):=by unfold fJ;rw[aa io,aa io,af ay]
    rw[M,bx]at aR;refine⟨_,rfl,ov (by rw[ByteArray.size_append];show _+1<=_;omega) (by rw[bc];omega),?_⟩;have:=S4 q y;rw[M]at this;rw[an,bM,bM];simpa using this
   .have M:fJ d.x=[]:=by unfold fJ;rw[aa io,aa io,aa ay]
    have:=S4 e A;rw[M,bU]at this;exact this
  have loop:∀(m j:Nat) (o:List UInt8) (e:J),j+m=7->o=(kK.take j).foldl (qF d.x.op) (m3.getD d.x.op.toNat [])->O F0 h e [.g b] [.gr s l,sO T,sx G H]->
    iY.lG s b d.x.op d.ks d.x.n d.x.m d.x.u d.x.tx d.x.st.k d.x.st.n d.x.st.x (ba (40::o)) ⟨some (ab G),7,7⟩ ⟨some (ab H),7,7⟩ (j:Int) e λr z=>r=ad (.string (ba full))/\ag h z:=by
   intro m;induction m with
   |zero=>
    intro j o e hj B A;have h7:j=7:=io
    subst h7;have B:o=dH d.x.op:=by rw[B];have:=ZF (d.x.op - 4).toNat io;rw[show((d.x.op - 4).toNat+4)=d.x.op.toNat by omega,show(d.x.op.toNat:Int)=d.x.op by omega]at this;exact this
    subst B;have y:=A.forget [.gr s l] gs;refine iY.pS (aW (aS (by show ¬((7:Nat):Int)<((7:Nat):Int);omega)) (aw (λao=>⟨ov io dl,y.ae λq H7=>?_⟩) (λao=>?_)))
    .obtain ⟨q1,q2,q3⟩:=I.n1 ao;have a6:=jt d.x.n.toNat;have a7:=jt d.x.m.toNat;refine H7.av (q8 (w:=q) io io) ?_;rintro _ w7 rfl H8;refine⟨_,rfl,ov (by rw[ByteArray.size_append];show _+1<=_;omega) (by rw[bc];omega),ov (by rw[ByteArray.size_append,ByteArray.size_append,bc (bN _)];show _+1+_<=_;omega) dl,H8.av (q8 (w:=w7) q1 io) ?_⟩;rintro _ w8 rfl H9;refine⟨_,rfl,ov (by rw[ByteArray.size_append,ByteArray.size_append,ByteArray.size_append,bc (bN _)];show _+1+_+1<=_;omega) (by rw[bc];omega),?_⟩;have M:fJ d.x=32::bN d.x.n.toNat++32::bN d.x.m.toNat:=by unfold fJ;rw[af ao]
     have:=S4 w8 H9;rw[M]at this;rw[an,bM,bM,bM,bM];simpa using this
    .refine aw (λap=>aw (λ_=>S7 (.inl ap) e y) (λY=>absurd ap Y)) (λap=>aw (λar=>aw (λ_=>S7 (.inr (.inl ar)) e y) (λY=>absurd ar Y)) (λar=>aw (λaC=>S7 (.inr (.inr aC)) e y) (λaC=>S8 io e y)))
   |succ m ih=>
    intro j o e hj B A;have ac:j<kK.length:=by show j<7;omega
    have hq:kK[j]? =some (kK[j]'ac):=a0 ac;have aO:(kK[j]'ac).2.length<=10:=by
     have:∀C∈kK,C.2.length<=10:=dl
     exact this _ (List.getElem_mem ac)
    have aM:kK.take (j+1)=kK.take j++[kK[j]'ac]:=by rw[List.take_add_one,hq];rfl
    generalize kK[j]'ac=C at hq aO aM;have aT:(kK.take (j+1)).foldl (qF d.x.op) (m3.getD d.x.op.toNat [])=qF d.x.op o C:=by rw[aM,List.foldl_append,<-B];rfl
    have aB:∀{q:J},O F0 h q [.g b] [.gr s l,sO T,sx G H]->q.cell? ((ab H).add (aZ (j:Int) *1))=some (.i C.1)/\q.cell? ((ab G).add (aZ (j:Int) *1))=some (.string (ba C.2)):=λak=>by have hp:=ak.getD 2;exact⟨FA (hp _ (aA (i:=1) rfl)) (by rw[px,hq];rfl),FA (hp _ (aA (i:=0) rfl)) (by rw[px,hq];rfl)⟩
    have aG:∀(o':List UInt8) (q:J),o'=qF d.x.op o C->O F0 h q [.g b] [.gr s l,sO T,sx G H]->iY.cF s b d.x.op d.ks d.x.n d.x.m d.x.u d.x.tx d.x.st.k d.x.st.n d.x.st.x (ba (40::o')) ⟨some (ab G),7,7⟩ ⟨some (ab H),7,7⟩ (j:Int) q λr z=>r=ad (.string (ba full))/\ag h z:=λo' q aV y=>by show iY.lG s b d.x.op d.ks d.x.n d.x.m d.x.u d.x.tx d.x.st.k d.x.st.n d.x.st.x _ _ _ (aD .i64 ((j:Int)+1)) q _;rw[bp _ io];exact ih (j+1) o' q io (by rw[aV,aT]) y
    refine iY.pS (aU (aQ (by show(j:Int)<((7:Nat):Int);omega)) ⟨io,by show(j:Int)<((7:Nat):Int);omega,A.ae λq y=>⟨C.1,(aB y).1,aw (λhe=>⟨io,by show(j:Int)<((7:Nat):Int);omega,ba C.2,(aB y).2,ov dl (by rw[bc];omega),?_⟩) (λhe=>?_)⟩⟩)
    .have:=aG C.2 q (by unfold qF;rw[af he]) y;rw[show(a8 #[40])=ba [40]from rfl,bM];exact this
    .exact aG o q (by unfold qF;rw[aa he]) y
  have:=loop 7 0 _ w4 io rfl H4;rw[show(a8 #[40])=ba [40]from rfl,bM];exact this
def Xt{T:List aG}(q:jl T){s w:aJ}{n:Int}(h:dg T s=.ok n w):0<=n/\n<10000000000000:=by
 rcases Nat.lt_or_ge s.p T.length with d|d
 .exact int_lt q d h
 .exfalso;obtain⟨t,y,k,x⟩:=cU h;obtain⟨e,j,_⟩:=rY k;unfold aO at e;rw[List.getD_eq_getElem?_getD,List.getElem?_eq_none d]at e;rw[e]at j;cases j
def Lc{tm:aJ->PR Nat}:∀(n:Nat) (s:aJ) (l:List Int) (e:aJ),gF tm n s=.ok l e->l.length=n
 |0,_,_,_,d=>by cases d;rfl
 |n+1,s,l,e,d=>by obtain⟨y,w,x,h⟩:=cU d;obtain⟨q,z,j,k⟩:=cU h;cases k;rw[bx,Lc n w q _ j]
def ZI:∀d∈fM,d.2.2<=3:=dl
def Zi{T:List aG}(P:jl T)(O:∀t∈T,t.kind=5->(hy t.text).2=0->qS (ba (hy t.text).1))(tm:aJ->PR Nat)(wd:List UInt8)(s:aJ)(n:Nx)(Q:aJ)(e:iC T tm wd s=.ok n Q):mq n:=by
 obtain⟨k,W,d,K⟩:=cU e;obtain⟨E,Y,L,N⟩:=cU K;cases N;have S:=Lc _ _ _ _ L;have j:cO 0:=⟨io,io⟩;have i:∀{a b:aJ} {x:Int},dg T a=.ok x b->cO x/\0<=x:=λe=>by have:=Xt P e;exact⟨⟨io,io⟩,this.1⟩
 have mk:k.2<=3->cO k.1.n->cO k.1.m->0<=k.1.u->(k.1.op=33->qS k.1.tx)->mq {k.1 with kids:=E}:=λa b c G H=>⟨by show E.length<=_;omega,b,c,G,H⟩;unfold iy at d;split at d
 .obtain ⟨u,q,h,d⟩:=cU d;obtain⟨m,F,z,d⟩:=cU d;cases d;exact mk (di _) j j (i h).2 (λe=>by cases e)
 split at d
 .obtain ⟨u,q,h,d⟩:=cU d;cases d;exact mk (di _) j j (Int.le_refl _) (λe=>by cases e)
 split at d
 .obtain ⟨u,q,h,d⟩:=cU d;obtain⟨m,F,z,d⟩:=cU d;cases d;exact mk (show 1<=3 by decide) (i h).1 (i z).1 (Int.le_refl _) (λe=>by cases e)
 split at d
 .obtain ⟨u,q,h,d⟩:=cU d;cases d;exact mk (show 1<=3 by decide) (i h).1 j (Int.le_refl _) (λe=>by cases e)
 split at d
 .obtain ⟨u,q,h,d⟩:=cU d;cases d;exact mk (show 1<=3 by decide) (i h).1 j (Int.le_refl _) (λe=>by cases e)
 split at d
 .obtain ⟨u,q,h,d⟩:=cU d;cases d;exact mk (show 1<=3 by decide) (i h).1 j (Int.le_refl _) (λe=>by cases e)
 split at d
 .obtain ⟨r,q,h,d⟩:=cU d;cases d;obtain⟨t,F,z,B⟩:=cU h;obtain⟨A,D,_⟩:=rY z;split at B
  .rename_i I;cases B;refine mk (show 1<=3 by decide) j j (Int.le_refl _) (λ_=>O t ?_ D I);rcases Nat.lt_or_ge s.p T.length with C|C
   .rw [A];exact(qH C).1
   .unfold aO at A;rw[List.getD_eq_getElem?_getD,List.getElem?_eq_none C]at A;rw[A]at D;cases D
  .cases B
 .cases d;refine mk ?_ j j (Int.le_refl _) (λe=>?_)
  .show ((lk fM wd).getD (0,0)).2<=3;cases w:lk fM wd with
   |none=>exact di _
   |some y=>exact ZI (wd,y) (ky w)
  .have e:((lk fM wd).getD (0,0)).1=33:=e;have M:∀y∈fM,y.2.1≠33:=dl
   cases w:lk fM wd with
   |none=>rw[w]at e;cases e
   |some y=>rw[w]at e;exact absurd e (M (wd,y) (ky w))
def HC(t:List UInt8):Prop:=vG (ba t)/\((hy t).2=0->jC t=true)
def PY{T:List aG}(y:jl T)(h:∀t∈T,t.kind=5->HC t.text):nQ 12 T:=
 ⟨RS,dl,λt e d j x=>Zy (h t e d).1 j (by rw[lM];exact x),Zi y λt e d k=>by obtain⟨q,w⟩:=h t e d;rw[QY (w k)];exact(O9 q).2.1⟩
def Yq:(nI.all λt=>(hy (bl t)).2 !=0)=true:=by kernel_rfl
def Yp:(nI.all λt=>DC.contains (bl t))=true:=by kernel_rfl
def YM{d:Nx}(e:MdN d)(w:d.op=33->k1 d.tx=true)(x:d.op=2\/d.op=33):HC (bl d.tx):=by
 rcases x with q|h
 .have j:=e.li q;refine⟨.inl ?_,λk=>?_⟩
  .have:=cY.1 Yp _ j;rw[lM];simpa using this
  .have:=cY.1 Yq _ j;rw[k]at this;cases this
 .refine ⟨.inr ?_,λ_=>w h⟩;rw[kZ];exact e.re h
def SI{g:List Nx}:∀(n i:Nat) (t:List UInt8),(5,t)∈dB n g i->∃e∈g,(e.op=2\/e.op=33)/\t=bl e.tx
 |0,_,_,d=>by cases d
 |n+1,i,t,d=>by
  unfold dB at d;split at d
  .cases d
  .rename_i e q;have h:=aA q;split at d
   .simp at d
   split at d
   .simp at d
   split at d
   .rename_i j;refine⟨e,h,.inl j,by simpa using d⟩
   split at d
   .exfalso;unfold dX at d;split at d<;>simp at d
   .rcases aK.1 d with d|d
    .rcases aK.1 d with d|d
     .rcases aK.1 d with d|d
      .simp at d
      .unfold gk at d;split at d
       .simp at d
       split at d
       .simp at d
       split at d
       .rename_i k;exact⟨e,h,.inr k,by simpa using d⟩
       .cases d
     .obtain ⟨w,x,d⟩:=cl.1 d;exact SI n w.toNat t d
    .simp at d
def Qk(b:List UInt8):(i' b).length<=4 *b.length+2:=by have:=(Kb b).2;show([34]++b.flatMap gY++[34]).length<=_;rw[bb,bb];simp only[List.length_singleton];omega
def Fy{g:List Nx}(x:Vg g)(A:∀d∈g,MdN d):∀(n i:Nat),i<n->i<g.length->(eN n g i).length<=150 *bQ n g i
 |0,i,j,_=>absurd j io
 |n+1,i,j,k=>by
  have h:g[i]? =some (g[i]'k):=a0 k;generalize g[i]'k=d at h;have w:=A d (aA h);have B:=sM x h;have F:=B.op;have D:bQ (n+1) g i=d.kids.foldl (λy e=>y+bQ n g e.toNat) 1:=by
   conv=>lhs;unfold bQ
   rw[h]
  rw[fold_add]at D;have C:d.op≠33->(bl d.tx).length<=16:=λj=>by rw[cZ];exact w.tx j
  unfold eN;rw[h,D];dsimp only;have hs:=sL B.st;split
  .have:=C io;omega
  split
  .have:=oP d.u.toNat d.st.n.toNat;simp only[bx];omega
  split
  .have:=C io;have:=Qk (bl d.tx);omega
  split
  .have:=RW d.st;simp only[bb,bx,eU];omega
  .rename_i K L M N;have Z:=Ph (op:=d.op) io F.2;have Y:(fJ d).length<=123:=by
    unfold fJ;split
    .have:=jt d.n.toNat;have:=jt d.m.toNat;simp only[bb,bx];omega
    split
    .have:=jt d.n.toNat;simp only[bx];omega
    split
    .rename_i E;have S:=FB (.inr (w.re E));have:=Qk (bl d.tx);rw[cZ]at this;simp only[bx];omega
    .simp
   have q:∀(ks:List Int),(∀e∈ks,0<=e/\e<(i:Int))->(ks.flatMap λe=>32::eN n g e.toNat).length<=ks.length+150 *ks.foldl (λy e=>y+bQ n g e.toNat) 0:=by
    intro ks;induction ks with
    |nil=>intro _;simp
    |cons e ks H=>
     intro z;have W:=z e gq;have O:=Fy x A n e.toNat io io;have P:=H λI G=>z I (cJ _ G);rw[da,bb,List.foldl_cons,fold_add,bx,bx];omega
   have Q:=q d.kids λe q=>x.kids h e q;have T:=w.kl;simp only[bb,bx,eU];omega
def aag:(List.range 1728).all (λd=>Nat.ble (i' (mW d)).length 29)=true:=by kernel_rfl
def aaf(k:Nat):(i' (mW k)).length<=29:=by rw[SH];exact Nat.le_of_ble_eq_true (cY.1 aag (k%1728) (List.mem_range.2 (Nat.mod_lt _ io)))
def aae:nI.all (λt=>Nat.ble (i' (bl t)).length 6)=true:=by kernel_rfl
def ZE{op:Int}(e:4<=op)(h:op<=34):(dH op).length<=7:=by
 have d:∀n<31,(dH ((n+4:Nat):Int)).length<=7:=dl
 have:=d (op - 4).toNat io
 rwa[show(((op - 4).toNat+4:Nat):Int)=op by omega]at this
def RV{s:aP}(e:0<=s.k/\s.k<=3):(jH s).length<=11/\(dX s).length<=5:=by
 have h:=jt s.x.toNat;have j:=jt s.n.toNat;have d:∀k<4,(hD ((k:Nat):Int)).length<=3:=dl
 have d:=d s.k.toNat io;rw[Int.toNat_of_nonneg e.1]at d;unfold jH dX;split<;>simp<;>omega
def ru(g:List Nx)(n i:Nat):Nat:=(eN n g i).length+1+3 *(dB n g i).length
def Ku{g:List Nx}{n:Nat}:∀e:List Int,(e.flatMap λd=>32::eN n g d.toNat).length+3 *(e.flatMap λd=>dB n g d.toNat).length=e.foldl (λh d=>h+ru g n d.toNat) 0
 |[]=>rfl
 |d::e=>by have:=Ku (g:=g) (n:=n) e;rw[List.foldl_cons,fold_add,da,da,bb,bb,bx];unfold ru at this ⊢;omega
def abO{g:List Nx}(y:Vg g){i:Nat}{d:Nx}(hd:g[i]? =some d):(d.op=3->d.st.k≠1)/\(d.op=33->d.st.k=0/\(bg (g.take i) d 0).k=1):=by
 have e:=y.ok i d hd;unfold bP at e;split at e
 .exact absurd (congrArg Prod.snd e) gs
 split at e
 .refine ⟨λj w=>?_,λq=>io⟩;unfold cg at e;rw[aa io,aa io]at e;split at e
  .exact absurd (congrArg Prod.snd e) gs
  .rw [af (.inr ⟨j,by unfold ed;rw[w];decide⟩)]at e;exact absurd (congrArg Prod.snd e) gs
 .rename_i z;refine⟨λj=>io,λq=>?_⟩;split at e
  .exact absurd (congrArg Prod.snd e) gs
  rename_i h;split at e
  .exact absurd (congrArg Prod.snd e) gs
  split at e
  .exact absurd (congrArg Prod.snd e) gs
  have h:cX d.op (bg (g.take i) d 0) (bg (g.take i) d 1) (bg (g.take i) d 2)=true:=by simpa using h
  have x:gM d (bg (g.take i) d 0) (bg (g.take i) d 1) (bg (g.take i) d 2)=d.st:=congrArg Prod.fst e;rw[q]at h;have h:((bg (g.take i) d 0).k==1)=true:=h;refine⟨?_,by simpa using h⟩;rw[<-x];unfold gM;rw[af io];rfl
def CZ{g:List Nx}(D:Vg g)(K:∀d∈g,MdN d)(L:∀d∈g,d.op=1->d.st.n<=16):∀(n i:Nat) (d:Nx),i<n->g[i]? =some d->ru g n i+(if d.st.k=1 then 8 else 0)<=39 *bQ n g i+6
 |0,i,d,j,_=>absurd j io
 |n+1,i,d,j,x=>by
  have Q:=aA x;have H:=K d Q;have I:=sM D x;have ah:=I.op;obtain⟨m3,an⟩:=abO D x;have S:=sL I.st;have ak:(if d.st.k=1 then 8 else 0)<=8:=by split<;>omega
  have M:bQ (n+1) g i=d.kids.foldl (λE e=>E+bQ n g e.toNat) 1:=by
   conv=>lhs;unfold bQ
   rw[x]
  rw[fold_add]at M;have am:d.op≠33->(bl d.tx).length<=16:=λj=>by rw[cZ];exact H.tx j
  generalize N:(if d.st.k=1 then 8 else 0)=e8 at ak ⊢;have aC:1<=bQ (n+1) g i:=io
  unfold ru eN dB;rw[x];dsimp only;by_cases F:d.op=0
  .rw [af F,af F];have:=am io;simp only[bx,eU];omega
  rw[aa F,aa F];by_cases w:d.op=1
  .rw [af w,af w];have:=oP d.u.toNat d.st.n.toNat;have:=L d Q w;simp only[bx,eU];omega
  rw[aa w,aa w];by_cases y:d.op=2
  .rw [af y,af y];have:=Nat.le_of_ble_eq_true (cY.1 aae _ (H.li y));simp only[bx,eU];omega
  rw[aa y,aa y];by_cases z:d.op=3
  .rw [af z,af z];have B:=m3 z;rw[aa B]at N;have:=RV (s:=d.st) ⟨S.1,S.2.1⟩;simp only[bb,bx,eU];omega
  rw[aa z,aa z];have P:=λe B=>D.kids x e B;have ay:=ZE (op:=d.op) io ah.2;have O:=Ku (g:=g) (n:=n) d.kids;have B:∀(ks:List Int),(∀e∈ks,0<=e/\e<(i:Int))->ks.foldl (λE e=>E+ru g n e.toNat) 0<=6 *ks.length+39 *ks.foldl (λE e=>E+bQ n g e.toNat) 0:=by
   intro ks;induction ks with
   |nil=>intro _;simp
   |cons e ks ih=>
    intro G;have ao:=G e gq;have Y:=(cq.1 x).1;have A:g[e.toNat]? =some (g[e.toNat]'io):=a0 io;have w:=CZ D K L n e.toNat _ io A;have y:=ih λh C=>G h (cJ _ C);rw[List.foldl_cons,fold_add,List.foldl_cons,fold_add _ ks (0+bQ n g e.toNat),bx];omega
  have ap:=B d.kids P;have aq:=H.kl;by_cases q:d.op=33
  .
   obtain⟨k0,k1⟩:=an q;rw[aa io]at N;have Z:=I.ok.kl;have ac:d.kids.length=1:=by
    have:b6 d.op=1:=by rw[q];decide
    omega
   obtain⟨h,C⟩:∃h,d.kids=[h]:=List.length_eq_one_iff.1 ac;have az:=P h (by rw[C];exact List.mem_singleton_self _);have Y:=(cq.1 x).1;have A:g[h.toNat]? =some (g[h.toNat]'io):=a0 io;generalize g[h.toNat]'io=dq at A;have w:=CZ D K L n h.toNat _ io A;have G:dq.st.k=1:=by
    have T:bg (g.take i) d 0=dq.st:=by
     unfold bg;rw[C];show(match(g.take i)[h.toNat]? with
      |some d=>d.st
      |none=>a6)=_
     rw[List.getElem?_take_of_lt io,A]
    rw[<-T];exact k1
   rw[af G]at w;obtain⟨kt,ab⟩:=H.re q;have aB:(i' (bl d.tx)).length<=29:=by rw[ab,lM];exact aaf kt
   have ag:fJ d=32::i' (bl d.tx):=by unfold fJ;rw[aa io,aa io,af q]
   have ae:gk d=[(5,bl d.tx)]:=by unfold gk;rw[aa io,aa io,af q]
   have ax:(dH d.op).length=2:=by rw[q];decide
   rw[ag,ae];rw[C]at O M ⊢;simp only[List.foldl_cons,List.foldl_nil,Nat.zero_add]at O M;simp only[bb,bx,eU];omega
  .have ar:(fJ d).length+3 *(gk d).length<=12:=by
    have hn:=jt d.n.toNat;have av:=jt d.m.toNat;unfold fJ gk;split
    .simp only[bb,bx,eU];omega
    split
    .simp only[bx,eU];omega
    .simp [q]
   have aw:(fJ d).length+3 *(gk d).length=0\/d.kids.length=1:=by
    have Z:=I.ok.kl;by_cases W:d.op=21\/d.op=22\/d.op=23\/d.op=28
    .right;have:b6 d.op=1:=by rcases W with j|j|j|j<;>rw[j]<;>decide
     omega
    .left;unfold fJ gk;rw[aa io,aa io,aa q,aa io,aa io,aa q];rfl
   simp only[bb,bx,eU];omega
def cT(l:List UInt8)(K:List TK):Nat:=l.length+3 *K.length
def PU(kind:Int):cT (kD (xs (cm kind))) (ln (xs (cm kind)))<=900:=by
 have h:Nat.ble (cT (kD (xs fO)) (ln (xs fO))) 900=true:=by kernel_rfl
 have j:Nat.ble (cT (kD (xs (fO++hE))) (ln (xs (fO++hE)))) 900=true:=by kernel_rfl
 have k:Nat.ble (cT (kD (xs (fO++hE++ih))) (ln (xs (fO++hE++ih)))) 900=true:=by kernel_rfl
 apply Nat.le_of_ble_eq_true;unfold cm;by_cases d:kind>0
 .rw [af d];by_cases e:kind>1
  .rw [af e];exact k
  .rw [aa e,bU];exact j
 .rw [aa d,aa io,bU,bU];exact h
def H5{g:List Nx}(e:∀(i:Nat),i<g.length->bQ (i+1) g i<=401->ru g (i+1) i<=15645):∀(al:List (Nat×Nat)) (i:Nat),i+al.length<=10->(∀a∈al,a.1<g.length/\bQ (a.1+1) g a.1<=401)->cT (nk g i al) (mu g i al)<=15800 *al.length
 |[],_,_,_=>by simp[cT,nk,mu]
 |a::al,i,x,d=>by
  rw[bx]at x;have y:=H5 e al (i+1) io λb w=>d b (cJ _ w);obtain⟨j,k⟩:=d a gq;have q:=e a.1 j k;unfold ru at q;have z:=jt i;unfold cT at y ⊢;unfold nk mu tj lJ;have B:(mw (ai (a.2 / 10%3=2))).length<=6:=by cases ai (a.2 / 10%3=2)<;>decide
  have A:(qI (a.2 / 2%5) (eN (a.1+1) g a.1)).length+3 *(mY (a.2 / 2%5) (dB (a.1+1) g a.1)).length<=15645+70:=by
   generalize a.2 / 2%5=n;unfold qI mY;split
   .unfold kg jW;simp only[bb,bx,eU];omega
   split
   .unfold kg hq;simp only[bb,bx,eU];omega
   split
   .unfold kg hn;simp only[bb,bx,eU];omega
   .omega
  have h:∀(n:Nat) (r:List UInt8),(mT n r).length+3 *(pI n).length<=r.length+24:=by
   intro n r;unfold mT pI;split
   .simp
   split
   .simp
   split
   .simp
   split
   .simp
   .simp
  have h:=h (a.2 / 30%5) (nk g (i+1) al);simp only[bb,bx,eU];omega
def abv{g:List Nx}(kind:Int){al:List (Nat×Nat)}(z:al.length<=4)(x:Vg g)(w:∀d∈g,MdN d)(y:∀d∈g,d.op=1->d.st.n<=16)(k:∀a∈al,a.1<g.length/\bQ (a.1+1) g a.1<=401):
  cT (sw (xs (cm kind)) g al) (jG (xs (cm kind)) g al)<=64200:=by
 have h:=PU kind;have j:=H5 (g:=g) (λi e A=>by have q:g[i]? =some (g[i]'e):=a0 e;have:=CZ x w y (i+1) i _ (Nat.lt_succ_self _) q;omega) al 0 io k
 unfold cT at h j ⊢;unfold sw jG;simp only[bb,bx];omega
def fu:List Nd->Nat->List Int
 |[],_=>[]
 |d::l,i=>if d.x.st=aN 1 then(i:Int)::fu l (i+1)else fu l (i+1)
def Im:∀(l:List Nd) (i:Nat) (k:Int),k∈fu l i->∃(j:Nat) (d:Nd),k=((i+j:Nat):Int)/\l[j]? =some d/\d.x.st=aN 1
 |[],_,_,e=>by cases e
 |d::l,i,k,e=>by
  unfold fu at e;have rest:k∈fu l (i+1)->∃(j:Nat) (h:Nd),k=((i+j:Nat):Int)/\(d::l)[j]? =some h/\h.x.st=aN 1:=λe=>by obtain⟨j,q,a,b,c⟩:=Im l (i+1) k e;exact⟨j+1,q,by rw[a];omega,b,c⟩
  split at e
  .rename_i w;rcases aF.1 e with e|e
   .exact ⟨0,d,e,rfl,w⟩
   .exact rest e
  .exact rest e
def Uu{w:J}{s:Sl}{l:List Nd}(B:GP w s l)(K:l.length<=dD):
  aj U MT #[s.v] w λr j=>(∃t:Sl,r=ad t.v/\bI j t (fu l 0)/\∀b∈aR t,w.heap.size<=b)/\ag w j:=by
 have S:=h' B;unfold dD at K;have loop:∀(m i:Nat) (t:Sl) (ks:List Int) (k:J),i+m=l.length->ks.length<=i->ks++fu (l.drop i) i=fu l 0->O F0 w k [nB t ks] [.gr s l]->
   rB.L0 s t (i:Int) k λr j=>(∃t:Sl,r=ad t.v/\bI j t (fu l 0)/\∀b∈aR t,w.heap.size<=b)/\ag w j:=by
  intro m;induction m with
  |zero=>
   intro i t ks k H I e h;rw[dw io]at e;have e:ks=fu l 0:=by rw[<-e];exact(bU _).symm
   rw[<-e];exact rB.cr (aW (aS io) ⟨⟨t,rfl,og (h.get 0),λb F=>(h.new _ (aA (i:=0) rfl) b F).resolve_right id⟩,h.fr⟩)
  |succ m C=>
   intro i t ks k H I e h;have z:l[i]? =some (l[i]'io):=a0 io;have G:l.drop i=l[i]'io::l.drop (i+1):=dy io;rw[G]at e;generalize l[i]'io=d at z e;have hlen:=qs (h.get 0);refine rB.cr (aU (aQ io) (h.dr λN A=>eE (bf.1 (A.getD 0)) rfl z λp L c=>⟨_,_,_,c.s0,c.s1,c.s2,A.call (fv 1 N) ?_⟩));rintro _ P rfl q;have c:=wG (bf.1 (q.getD 0)) z L (rfl:((i:Int))=(i:Int));have E:fu (d::l.drop (i+1)) i=if d.x.st=aN 1 then(i:Int)::fu (l.drop (i+1)) (i+1)else fu (l.drop (i+1)) (i+1):=rfl;rw[E]at e;refine⟨_,_,_,rfl,c.s0,c.s1,c.s2,mQ (a:=d.x.st) (b:=aN 1) (λy=>?_) (λy=>?_)⟩
   .rw [af y]at e;refine q.q4 0 ry rfl (λM Q D _ _=>?_) io;dsimp only[rB.S1,ah];rw[bp _ io];exact C (i+1) M (ks++[(i:Int)]) Q io (by simp;omega) (by rw[cE];exact e) (by rw[nB,List.map_append];exact D)
   .rw [aa y]at e;dsimp only[rB.S1,ah];rw[bp _ io];exact C (i+1) t ks P io io e q
 exact rB.ok (loop l.length 0 ⟨none,0,0⟩ [] w io gs rfl ((uj B).hP bA 1))
def qa(l:List Nx):List UInt8:=l.flatMap λd=>if d.op=0 then oW d else[]
def Uz{w:J}{s:Sl}{l:List Nd}(C:GP w s l)(hl:l.length<=1000)(hv:∀d∈xs l,bw d.st=true)(Z:∀d∈xs l,d.tx.size<=64):
  aj U Ni #[s.v] w λr A=>r=ad (.string (ba (qa (xs l))))/\ag w A:=by
 have hs:=h' C;have loop:∀(m i:Nat) (t:List UInt8) (k:J),i+m=l.length->t.length<=100 *i->t++qa ((xs l).drop i)=qa (xs l)->O F0 w k [] [.gr s l]->
   rD.L0 s (ba t) (i:Int) k λr A=>r=ad (.string (ba (qa (xs l))))/\ag w A:=by
  intro m;induction m with
  |zero=>
   intro i t k T ab e j;rw[dw (by simp[xs];omega)]at e;have e:t=qa (xs l):=by rw[<-e];exact(bU _).symm
   rw[<-e];exact rD.cr (aW (aS io) ⟨rfl,j.fr⟩)
  |succ m H=>
   intro i t k T ab e j;have h:l[i]? =some (l[i]'io):=a0 io;generalize l[i]'io=d at h;have G:=m4 h;have Q:(xs l).drop i=d.x::(xs l).drop (i+1):=by obtain⟨W,S⟩:=cq.1 G;rw[dy W,S]
   have D:=aA G;have ak:=Z _ D;have F:=hv _ D;have E:=sL F;have ae:=(RV (s:=d.x.st) ⟨E.1,E.2.1⟩).1;rw[Q]at e;unfold qa at e;rw[da]at e;refine rD.cr (aU (aQ io) (eE (bf.1 (j.getD 0)) rfl h λp hp c=>⟨_,c.c0,aw (λz=>?_) (λz=>?_)⟩))
   .rw [af z]at e;refine j.dr λw2 q=>⟨ov (by rw[bc];omega) dl,eE (bf.1 (q.getD 0)) rfl h λp2 Y I=>⟨_,I.c5,ov (by rw[ByteArray.size_append,bc];show _+9<=_;omega) io,ov (by rw[ByteArray.size_append,ByteArray.size_append,bc];show _+9+_<=_;omega) dl,eE (bf.1 (q.getD 0)) rfl h λp3 ac y=>⟨_,_,_,y.s0,y.s1,y.s2,q.call (IZ F w2) ?_⟩⟩⟩;rintro _ w3 rfl B;have K:=wG (bf.1 (B.getD 0)) h Y (rfl:((i:Int))=(i:Int));refine⟨_,rfl,K.c5,ov (by rw[ByteArray.size_append,ByteArray.size_append,ByteArray.size_append,bc];show _+9+_+1<=_;omega) (by rw[bc];omega),ov (by rw[ByteArray.size_append,ByteArray.size_append,ByteArray.size_append,ByteArray.size_append,bc,bc];show _+9+_+1+_<=_;omega) dl,?_⟩;dsimp only[rD.S1,ah];rw[bp _ io];have L:ba t++a8 #[40,100,101,99,108,97,114,101,32]++d.x.tx++a8 #[32]++ba (jH d.x.st)++a8 #[41,10]=ba (t++oW d.x):=by
     unfold oW;have M:a8 #[40,100,101,99,108,97,114,101,32]=ba [40,100,101,99,108,97,114,101,32]:=rfl;have N:a8 #[32]=ba [32]:=rfl;have P:a8 #[41,10]=ba [41,10]:=rfl;rw[M,N,P];conv=>lhs;rw[<-kZ d.x.tx]
     rw[bM,bM,bM,bM,bM];simp
    rw[L];refine H (i+1) (t++oW d.x) w3 io ?_ (by rw[cE];exact e) B;have h5:=cZ d.x.tx;unfold oW;simp only[bb,bx,eU];omega
   .rw [aa z]at e;dsimp only[rD.S1,ah];rw[bp _ io];exact H (i+1) t k io io e j
 exact rD.ok (loop l.length 0 [] w io gs rfl (uj C))
def Wc:fQ U acR qK (.agg #[.string (a8 #[]),.int .i64 0]) 2 24:=⟨by kernel_rfl,by kernel_rfl,rfl,dl,dl⟩
def gW:Nat->List Nat->List V
 |_,[]=>[]
 |i,k::d=>.string (ba (112::bN i))::.int .i64 (k:Int)::gW (i+1) d
def HZ:∀(ks:List Nat) (i k:Nat),gW i (ks++[k])=gW i ks++[.string (ba (112::bN (i+ks.length))),.int .i64 (k:Int)]
 |[],i,k=>rfl
 |d::ks,i,k=>by show _::_::gW (i+1) (ks++[k])=_::_::(gW (i+1) ks++_);rw[HZ ks (i+1) k,bx,show i+1+ks.length=i+(ks.length+1)by omega]
def Cc:∀(ks:List Nat) (i:Nat),(gW i ks).length=2 *ks.length
 |[],_=>rfl
 |d::ks,i=>by show(gW (i+1) ks).length+1+1=_;rw[Cc ks,bx];omega
structure nc(kind:Int)(l:List Nd):Prop where
 md:lH (xs l)
 len:l.length<=23
 vars:∀d∈xs l,d.op=0->d∈xs (cm kind)
 w:∀d∈xs l,d.op=1->d.st.n<=16
 sz:∀i,i<l.length->bQ (i+1) (xs l) i<=401
 up:∃r,xs l=xs (cm kind)++r
def qO(l:List Nd)(k:Nat):Prop:=∃d,(xs l)[k]? =some d/\d.st=aN 1
def ys(w:J)(kind:Int)(many:Nat)(r:Ending)(w':J):Prop:=∃(d:Sl) (l:List Nd) (out:Sl) (ks:List Nat),r=ad (.tuple #[d.v,out.v])/\nc kind l/\GP w' d l/\bo 2 w' out (gW 0 ks)/\ks.length=many/\(∀e∈ks,qO l e)/\(∀b∈(En.gr d l).fp,w.heap.size<=b)/\∀b∈aR out,w.heap.size<=b
def i5(k:Nat):Nx:=⟨4,[(k:Int)],0,0,0,ba [],a6⟩
def abP{G:List Nx}{k:Nat}{d:Nx}(hd:G[k]? =some d)(h:d.st=aN 1):bP G (i5 k)=(aN 1,0):=by
 unfold bP;rw[Lf (n:=i5 k) rfl hd,h];have e:(b6 (i5 k).op==((i5 k).kids.length:Int)&&(i5 k).kids.all (dK G)&&fL (i5 k))=true:=by show(b6 4==(([(k:Int)]:List Int).length:Int)&&([(k:Int)]:List Int).all (dK G)&&fL (i5 k))=true;rw[List.all_cons,Ee hd];rfl
 rw[e];rfl
def O4(k:Nat):MdN (i5 k):=⟨by show(-1:Int)<=4;decide,by show(4:Int)<=34;decide,by show 1<=3;decide,by show(0:Int)<=0/\(0:Int)<=100;decide,by show(0:Int)<=0/\(0:Int)<=100;decide,by show(0:Int)<=0/\(0:Int)<=1000;decide,λ_=>by show(ba []).size<=16;decide,λd=>(by cases d),λd=>(by cases d)⟩
def Z0{kind:Int}{l j:List Nd}(q:nc kind l)(W:l.length<=22){k:Nat}{d:Nx}(hd:(xs l)[k]? =some d)(D:d.st=aN 1)(Y:bQ (k+1) (xs l) k<=400)(h:xs j=(bj (xs l) (i5 k)).1):
  (bj (xs l) (i5 k)).2.2=0/\nc kind j/\j.length<=l.length+1/\(∃r,xs j=xs l++r)/\∃m:Nat,(bj (xs l) (i5 k)).2.1=(m:Int)/\qO j m:=by
 have N:=abP hd D;have Z:(xs l).length=l.length:=by simp[xs]
 have aa:(xs j).length=j.length:=by simp[xs]
 obtain⟨A,r,y,P,z,Q,E⟩:=B5 N io q.md.vg;obtain⟨_,m,G,m2,_⟩:=q0 A;rw[y]at h;have I:=congrArg List.length h;rw[bb]at I;have K:lH (xs j):=by rw[h,<-y];exact HN q.md (O4 k) A
 have T:=(cq.1 hd).1;obtain⟨O,L⟩:=q.up;refine⟨A,⟨K,io,λx e B=>?_,λx e C=>?_,λi S=>?_,⟨O++r,by rw[h,L,cE]⟩⟩,io,⟨r,h⟩,m,G,?_⟩
 .rw [h]at e;rcases aK.1 e with e|e
  .exact q.vars x e B
  .rw [z x e]at B;cases B
 .rw [h]at e;rcases aK.1 e with e|e
  .exact q.w x e C
  .rw [z x e]at C;cases C
 .rcases Nat.lt_or_ge i l.length with F|F
  .rw [h,xS q.md.vg.rK (i+1) i io io (i+1) io];exact q.sz i F
  .have H:(xs j)[i]? =some (eg (i5 k) (aN 1)):=by
    rw[h,Au io];have:i - (xs l).length=0:=io
    rw[this];have M:r.length=1:=io
    obtain⟨a,rfl⟩:=List.length_eq_one_iff.1 M;rw[z a (List.mem_singleton_self _)];rfl
   have D:bQ (i+1) (xs j) i=1+bQ i (xs j) k:=by
    conv=>lhs;unfold bQ
    rw[H];show List.foldl _ 1 [(k:Int)]=_;rw[List.foldl_cons,List.foldl_nil,bG]
   rw[D,h,xS q.md.vg.rK i k io io (k+1) io];omega
 .rw [G,bG]at E;rw[<-y,]at h;exact⟨_,by rw[h];exact E,rfl⟩
def Ld{k n b:Nat}(d:b∈(cv ⟨i5 k,⟨some (ab n),1,1⟩⟩).fp):b=n:=by simpa[cv,En.rd,aR,i5]using d
def UH{w:J}{ls ps:Sl}{Y h:List Int}(C:bI w ls Y)(bq:∀ar∈Y,cO ar)(bo:Y.length<=9223372036854775807)(hp:bI w ps h)(bu:∀ar∈h,cO ar)(b0:h.length<=9223372036854775807)(kind:Int):
  aj U M0 #[ls.v,.i kind,ps.v,.i 4] w λr E=>ys w kind (min h.length 4) r E/\ag w E:=by
 have H0:O F0 w w [] [.rd ls (Y.map bE),.rd ps (h.map bE)]:=bT _ (by
  intro ax he;simp only[aF,a5,a9]at he;rcases he with rfl|rfl
  .exact C
  .exact hp)
 have b1:ps.n=h.length:=bI.len hp;refine o0.ok ((UE C bq bo kind 9 io).mono ?_);rintro _ w1 ⟨⟨q,e,rfl,hg,bS,bW,aT,K,W⟩,f1⟩;have H1:=H0.ec (.gr q e) f1 (bf.2 aT) (λb D=>.inl (K b D));have H1:O F0 w w1 [] [.rd ls (Y.map bE),.rd ps (h.map bE),.gr q e]:=H1;refine⟨_,rfl,(Uu (bf.1 (H1.getD 2)) (by unfold dD;omega)).mono ?_⟩;rintro _ w2 ⟨⟨z,rfl,hB,aO⟩,f2⟩;have H2:=H1.ec (.rd z ((fu e 0).map bE)) f2 hB (λb D=>.inl (uU aO b D));have H2:O F0 w w2 [] [.rd ls (Y.map bE),.rd ps (h.map bE),.gr q e,.rd z ((fu e 0).map bE)]:=H2;have H2:O F0 w w2 [] [.rd ps (h.map bE),.gr q e,.rd z ((fu e 0).map bE)]:=H2.forget _ gs;have ay:z.n=(fu e 0).length:=bI.len hB;have bL:1<=(fu e 0).length:=by
  obtain⟨r,C⟩:=W.2.1;have F:(xs e)[2]? =some (mf [99] (aN 1)):=by
   rw[C];have:(xs (cm kind))[2]? =some (mf [99] (aN 1)):=by unfold cm;split<;>split<;>rfl
   exact n7 this
  rcases e with _|⟨a,_|⟨b,_|⟨c,e⟩⟩⟩
  .cases F
  .cases F
  .cases F
  .have F:c.x=mf [99] (aN 1):=by have:some c.x=some (mf [99] (aN 1)):=F;exact dZ this
   have bF:c.x.st=aN 1:=by rw[F];rfl
   have hm:((2:Nat):Int)∈fu (a::b::c::e) 0:=by
    have e2:((2:Nat):Int)∈fu (c::e) 2:=by unfold fu;rw[af bF];exact gq
    have e1:((2:Nat):Int)∈fu (b::c::e) 1:=by
     unfold fu;split
     .exact cJ _ e2
     .exact e2
    unfold fu;split
    .exact cJ _ e1
    .exact e1
   exact List.length_pos_of_mem hm
 have bO:(fu e 0).length<=1000:=by
  have:∀(l:List Nd) (i:Nat),(fu l i).length<=l.length:=by
   intro l;induction l with
   |nil=>intro i;exact bm _
   |cons d l ih=>
    intro i;unfold fu;have:=ih (i+1);split
    .simp;omega
    .simp;omega
  have:=this e 0;omega
 have aR:nc kind e:=⟨hg,io,W.1,λd hd h1=>by obtain⟨i,S⟩:=i9.1 hd;have bd:=(cq.1 S).1;exact(W.2.2 i (by simpa[xs]using bd)).2 d S,λi S=>by have:=(W.2.2 i S).1;omega,W.2.1⟩
 generalize aM:fu e 0=bl0 at *;have aV:∀k∈bl0,∃(j:Nat) (d:Nx),k=(j:Int)/\j<e.length/\(xs e)[j]? =some d/\d.st=aN 1:=λk hk=>by rw[<-aM]at hk;obtain⟨j,d,a,b,c⟩:=Im e 0 k hk;exact⟨j,d.x,by rw[a,Nat.zero_add],(cq.1 b).1,m4 b,c⟩
 have loop:∀(m i:Nat) (q:Sl) (l:List Nd) (out:Sl) (ks:List Nat) (L:J),i+m=min h.length 4->ks.length=i->nc kind l->l.length<=19+i->(∃r,xs l=xs e++r)->(∀k∈ks,qO l k)->(∀b∈(En.gr q l).fp,w.heap.size<=b)->O F0 w L [.row qK 2 out (gW 0 ks)] [.rd ps (h.map bE),.gr q l,.rd z (bl0.map bE)]->
   o0.L0 ps 4 q out z (i:Int) L λr E=>ys w kind (min h.length 4) r E/\ag w E:=by
  intro m;induction m with
  |zero=>
   intro i q l out ks L S am Q a6 ac ao K I;have fin:o0.S2 q out L λr E=>ys w kind (min h.length 4) r E/\ag w E:=by dsimp only[o0.S2,ah];exact⟨⟨q,l,out,ks,rfl,Q,bf.1 (I.getD 1),(I.get 0:aL _ _ _ _ _).a2,io,ao,K,λb D=>(I.new _ (aA (i:=0) rfl) b D).resolve_right id⟩,I.fr⟩
   refine o0.cr (aY (λh1=>aW (aS io) fin) (λh1=>fin))
  |succ m ih=>
   intro i q l out ks L S am Q a6 ac ao K I;have ak:h[i]? =some (h[i]'io):=a0 io;have aC:=bu _ (aA ak);generalize h[i]'io=pv at ak aC;have bv:bI L ps h:=I.getD 0;refine o0.cr (aU (aQ io) (aU (aQ io) ⟨io,io,bv.cell ak io λp _ F=>⟨pv,F,I.call (iB pv 1048576 L io aC) ?_⟩⟩));have bC:=jQ pv 1048576 io;generalize dx pv 1048576=aH at bC;obtain⟨y,rfl⟩:∃y:Nat,aH=(y:Int):=⟨aH.toNat,io⟩;rintro _ M rfl H4;obtain⟨b3,hlen⟩:∃n,out.n=n:=⟨_,rfl⟩;have av:∀(aa:Sl) (A:List Nd) (k:Nat) (N:J),nc kind A->A.length<=19+(i+1)->(∃r,xs A=xs l++r)->qO A k->(∀b∈(En.gr aa A).fp,w.heap.size<=b)->O F0 w N [.row qK 2 out (gW 0 ks)] [.rd ps (h.map bE),.gr aa A,.rd z (bl0.map bE)]->
     o0.S1 ps 4 aa out z (i:Int) (k:Int) N λr E=>ys w kind (min h.length 4) r E/\ag w E:=by
    intro aa A k N aP a7 aG bg ap P;dsimp only[o0.S1,ah];refine P.call (q8 (n:=(i:Int)) (w:=N) io io) ?_;rintro _ w6 rfl G;have bP:=jt i;have ax:a8 #[112]++ba (bN (i:Int).toNat)=ba (112::bN i):=by rw[bG];exact bM [112] (bN i)
    refine⟨_,rfl,ov dl (by rw[bc,bG];omega),?_⟩;rw[ax];have ho:aL w6 qK 2 out (gW 0 ks):=G.get 0;have bt:=ho.len;rw[Cc]at bt;refine G.q4 0 Wc (s:=out) (xs:=gW 0 ks) rfl (λZ w7 H7 _ _=>?_) io;have bk:∀aq∈ks++[k],qO A aq:=λaq H=>by
     rcases aK.1 H with H|H
     .obtain ⟨d,a,b⟩:=ao aq H;obtain⟨r,C⟩:=aG;exact⟨d,by rw[C];exact n7 a,b⟩
     .rw [b'.1 H];exact bg
    obtain⟨r1,bw⟩:=ac;obtain⟨r2,bz⟩:=aG;have:=ih (i+1) aa A Z (ks++[k]) w7 io (by simp[am]) aP a7 ⟨r1++r2,by rw[bz,bw,cE]⟩ bk ap (by rw[HZ,am,Nat.zero_add];exact H7);rw[bp _ io];exact this
   have H:bl0.length - 1 - y / 2%bl0.length<bl0.length:=io
   have ae:bl0[bl0.length - 1 - y / 2%bl0.length]? =some (bl0[bl0.length - 1 - y / 2%bl0.length]'H):=a0 H;obtain⟨k,d,bh,bi,az,aB⟩:=aV _ (aA ae);rw[bh]at ae;have bY:=Nat.mod_lt (y / 2) (show 0<bl0.length by omega);have e1:aD .i64 (dP (y:Int) 2)=((y / 2:Nat):Int):=by rw[show dP (y:Int) 2=((y / 2:Nat):Int)from rfl];exact br _ io
   have e2:ez ((y / 2:Nat):Int) (z.n:Int)=((y / 2%bl0.length:Nat):Int):=by rw[ay];rfl
   have e3:aD .i64 ((z.n:Int) - 1)=((bl0.length - 1:Nat):Int):=by rw[ay,br _ io];omega
   have e4:aD .i64 (((bl0.length - 1:Nat):Int) - ((y / 2%bl0.length:Nat):Int))=((bl0.length - 1 - y / 2%bl0.length:Nat):Int):=by rw[br _ io];omega
   have e5:ez (y:Int) 2=((y%2:Nat):Int):=rfl;have aX:bI M z bl0:=H4.getD 2;refine⟨_,rfl,io,?_⟩;rw[e1,e2,e3,e4,e5];refine⟨io,io,aX.cell ae io λp _ F=>⟨_,F,aw (λbZ=>?_) (λbR=>?_)⟩⟩
   .refine H4.nw λN _ P=>?_;have an:(xs l)[k]? =some d:=by obtain⟨r,C⟩:=ac;rw[C];exact n7 az
    have bl:bQ (k+1) (xs l) k<=400:=by
     obtain⟨r,C⟩:=ac;have b2:(xs e).length=e.length:=by simp[xs]
     rw[C,xS hg.vg.rK (k+1) k io io (k+1) io];exact(W.2.2 k bi).1
    have P:O F0 w N [.row qK 2 out (gW 0 ks),.c M.heap.size [.int .i64 (k:Int)] bA] [.rd ps (h.map bE),.gr q l,.rd z (bl0.map bE)]:=P;have G:=P.freeze 1 (cv ⟨i5 k,⟨some (ab M.heap.size),1,1⟩⟩) rfl (yI (l:=[(k:Int)]) (T:=bA) (P.ob 1 rfl) rfl) (λb D=>by rw[Ld D];simp[En.c,En.ob])
    have G:O F0 w N [.row qK 2 out (gW 0 ks)] [.rd ps (h.map bE),.gr q l,.rd z (bl0.map bE),cv ⟨i5 k,⟨some (ab M.heap.size),1,1⟩⟩]:=G;refine(IQ (d:=⟨i5 k,⟨some (ab M.heap.size),1,1⟩⟩) (bf.1 (G.getD 1)) (G.getD 3) (Q.md.ok (by simp[xs];unfold dD;omega)) (O4 k).ok Q.md.kl).mono ?_;rintro _ w6 ⟨⟨Z,rfl,⟨A,bn,G',F'⟩⟩,f6⟩;obtain⟨aI,a1,bK,a3,mm,a4,aJ⟩:=Z0 Q io an aB bl bn;have H7:=G.ec (.gr Z A) f6 (bf.2 G') (λb D=>by
     rcases F' b D with(B|B)|B
     .exact .inr (.inr ⟨_,aA (i:=1) rfl,B⟩)
     .exact .inr (.inr ⟨_,aA (i:=3) rfl,B⟩)
     .exact .inl B)
    have H7:O F0 w w6 [.row qK 2 out (gW 0 ks)] [.rd ps (h.map bE),.gr Z A,.rd z (bl0.map bE)]:=H7.forget _ gs;have ap:∀b∈(En.gr Z A).fp,w.heap.size<=b:=λb D=>by
     have bJ:=H4.fr.size;rcases F' b D with(B|B)|B
     .exact K b B
     .rw [Ld B];exact bJ
     .exact Nat.le_trans G.fr.size B
    refine⟨_,_,_,rfl,aw (λ_=>?_) (λB=>absurd aI B)⟩;have a4:(bj (xs l) (⟨i5 k,⟨some (ab M.heap.size),1,1⟩⟩:Nd).x).2.1=(mm:Int):=a4;rw[a4];exact av Z A mm w6 a1 io a3 aJ ap H7
   .have an:(xs l)[k]? =some d:=by obtain⟨r,C⟩:=ac;rw[C];exact n7 az
    exact av q l k M Q io ⟨[],by rw[bU]⟩ ⟨d,an,aB⟩ K H4
 exact⟨_,rfl,loop (min h.length 4) 0 q e ⟨none,0,0⟩ [] w2 io rfl aR io ⟨[],by rw[bU]⟩ (λk hk=>(by cases hk)) K (H2.hP qK 2)⟩
def Z1{kind:Int}{l:List Nd}(d:nc kind l):HK (xs l):=by
 have y:(xs l).length=l.length:=by simp[xs]
 refine⟨d.md.vg,λe h=>?_,λe h=>?_,λi q=>?_⟩
 .have:=(d.md.nd e h).u;omega
 .have k:=d.md.nd e h;by_cases j:e.op=33
  .have:=FB (.inr (k.re j));omega
  .have:=k.tx j;omega
 .have w:=Fy d.md.vg d.md.nd (i+1) i (Nat.lt_succ_self _) q;have x:=d.sz i io;omega
def UG{w:J}{ps:Sl}{h:List Int}(e:bI w ps h){i:Nat}{v:Int}(d:h[i]? =some v)(k:cO v):aj U Mt #[ps.v,.i (i:Int),.i 1048576] w λr q=>r=ad (.i (dx v 1048576))/\ag w q:=by have y:=bI.len e;have x:=(cq.1 d).1;refine JF.ok (aW (aS io) (aW (aS io) ⟨io,io,e.cell d io λp _ j=>⟨v,j,(iB v 1048576 w io k).mono ?_⟩⟩));rintro _ z ⟨rfl,f⟩;exact⟨_,rfl,rfl,f⟩
def H0(q:Nat×Nat):List V:=[.string (ba (112::bN q.1)),.int .i64 (q.2:Int)]
def Cd:Nat->List Nat->List (Nat×Nat)
 |_,[]=>[]
 |i,d::e=>(i,d)::Cd (i+1) e
def HY:∀(ks:List Nat) (i:Nat),gW i ks=(Cd i ks).flatMap H0
 |[],_=>rfl
 |d::ks,i=>by show _::_::gW (i+1) ks=_;rw[HY ks (i+1)];rfl
def H3:∀(ks:List Nat) (i j k:Nat),ks[j]? =some k->(Cd i ks)[j]? =some (i+j,k)
 |e::ks,i,0,k,d=>by rw[List.getElem?_cons_zero]at d;cases d;rfl
 |e::ks,i,j+1,k,d=>by rw[List.getElem?_cons_succ]at d;have:=H3 ks (i+1) j k d;rw[show i+(j+1)=i+1+j by omega];exact this
def mr(d:List Int):Nat->List Nat->List (Nat×Nat)
 |_,[]=>[]
 |i,e::h=>(e,(dx (d.getD i 0) 1048576).toNat)::mr d (i+1) h
def HP(d:List Int):∀(ks:List Nat) (i:Nat),(mr d i ks).length=ks.length
 |[],_=>rfl
 |e::ks,i=>by show(mr d (i+1) ks).length+1=_;rw[HP d ks (i+1),bx]
def HQ(e:List Int):∀(ks:List Nat) (i:Nat) (a:Nat×Nat),a∈mr e i ks->a.1∈ks
 |h::ks,i,a,d=>by
  rcases aF.1 d with rfl|d
  .exact gq
  .exact cJ _ (HQ e ks (i+1) a d)
def ab'(n:Nat)(r:List UInt8):mT n r=mT n []++r:=by
 unfold mT;repeat' split
 all_goals simp
def V2{kind:Int}{l:List Nd}(x:nc kind l):qa (xs l)=v' (xs (cm kind)):=by
 obtain⟨r,y⟩:=x.up;have G:∀d∈xs (cm kind),d.op=0:=λd w=>by
  obtain⟨k,j,rfl⟩:=List.mem_map.1 w;have A:k∈fO++hE++ih:=by
   unfold cm at j;rcases aK.1 j with h|h
   .rcases aK.1 h with h|h
    .simp [h]
    .split at h
     .simp [h]
     .cases h
   .split at h
    .simp [h]
    .cases h
  simp only[fO,hE,ih,lC,mf,List.cons_append,List.nil_append,aF,a5,a9]at A;rcases A with rfl|rfl|rfl|rfl|rfl|rfl|rfl|rfl|rfl|rfl<;>rfl
 have H:∀d∈r,d.op≠0:=λd w E=>by
  have F:d∈xs l:=by rw[y];exact List.mem_append_right _ w
  have I:=x.vars d F E;have B:=Tf x.md.vg;rw[y]at B;exact(List.nodup_append.1 B).2.2 d I d w rfl
 unfold qa v';rw[y,List.flatMap_append];have C:∀e:List Nx,(∀d∈e,d.op=0)->e.flatMap (λd=>if d.op=0 then oW d else[])=e.flatMap oW:=by
  intro e;induction e with
  |nil=>intro _;rfl
  |cons d e z=>
   intro q;rw[da,da,z λk j=>q k (cJ _ j),af (q d gq)]
 have D:∀e:List Nx,(∀d∈e,d.op≠0)->e.flatMap (λd=>if d.op=0 then oW d else[])=[]:=by
  intro e;induction e with
  |nil=>intro _;rfl
  |cons d e z=>
   intro q;rw[da,z λk j=>q k (cJ _ j),aa (q d gq)];rfl
 rw[C _ G,D _ H,bU]
def oN(kind:Int)(r:Ending):Prop:=∃(l:List Nd) (al:List (Nat×Nat)),r=ad (.string (ba (sw (xs (cm kind)) (xs l) al)))/\nc kind l/\al.length<=4/\∀a∈al,qO l a.1
def UJ{w:J}{ls ps:Sl}{ns e:List Int}(hr:bI w ls ns)(bd:∀ar∈ns,cO ar)(a7:ns.length<=9223372036854775807)(hp:bI w ps e)(aH:∀ar∈e,cO ar)(bg:e.length<=9223372036854775807)(kind:Int):
  aj U Nk #[ls.v,.i kind,ps.v] w λr q=>oN kind r/\ag w q:=by
 have aM:O F0 w w [] [.rd ps (e.map bE)]:=bT _ (by intro P he;rw[b'.1 he];exact hp)
 refine ko.ok ((UH hr bd a7 hp aH bg kind).mono ?_);rintro _ w1 ⟨⟨x,l,out,h,rfl,C,hP,hR,bv,an,a6,bz⟩,f1⟩;have bJ:(xs l).length=l.length:=by simp[xs]
 have hT:=Z1 C;have aT:∀N∈xs l,N.tx.size<=64:=λN W=>by
  have hm:=C.md.nd N W;by_cases av:N.op=33
  .have:=FB (.inr (hm.re av));omega
  .have:=hm.tx av;omega
 have bC:out.n=h.length:=by have:=hR.1;rw[Cc]at this;omega
 have E:=aM.ec (.gr x l) f1 (bf.2 hP) (λb hb=>.inl (a6 b hb));have E:O F0 w w1 [] [.rd ps (e.map bE),.gr x l,.a2 2 out (gW 0 h)]:=⟨E.fr,E.own,λg z=>by
  rcases aK.1 (show g∈[En.rd ps (e.map bE),.gr x l]++[.a2 2 out (gW 0 h)]from z)with z|z
  .exact E.rd g z
  .rw [b'.1 z];exact hR,E.new,E.nd,λg z b hb g' a1 _=>by first |(cases a1;done)|(cases z;done)⟩
 have hlen:∀k∈h,(eN (k+1) (xs l) k).length<=60150:=λk hk=>by obtain⟨N,W,_⟩:=an k hk;have az:=(cq.1 W).1;have h1:=Fy C.md.vg C.md.nd (k+1) k (Nat.lt_succ_self _) az;have h2:=C.sz k io;omega
 refine⟨_,_,rfl,E.call (Uz (bf.1 (E.getD 1)) (by have:=C.len;omega) C.md.vg.val aT) ?_⟩;rintro _ w2 rfl H2;rw[V2 C];have aI:=PU kind;unfold cT kD at aI;rw[bb]at aI;refine⟨_,rfl,ov (by rw[bc];omega) dl,?_⟩;have e0:∀X:ByteArray,X=ba (Ex++[10])->ba (v' (xs (cm kind)))++X=ba (kD (xs (cm kind))++[10]):=λX hX=>by rw[hX,bM];unfold kD;rw[cE]
 show ko.S0 ps x out (ba (v' (xs (cm kind)))++ba (Ex++[10])) w2 λr q=>oN kind r/\ag w q;rw[e0 _ rfl];obtain⟨full,ay⟩:∃full,sw (xs (cm kind)) (xs l) (mr e 0 h)=full:=⟨_,rfl⟩;have aX:∀o:List UInt8,full=o->oN kind (ad (.string (ba o))):=λo ho=>⟨l,mr e 0 h,by rw[ay,ho],C,by rw[HP];omega,λa ha=>an a.1 (HQ e h 0 a ha)⟩;have loop:∀(A:List Nat) (i:Nat) (o:List UInt8) (Z:J),(∃p,h=p++A/\p.length=i)->o.length<=1000+70000 *i->o++nk (xs l) i (mr e i A)=full->O F0 w Z [] [.rd ps (e.map bE),.gr x l,.a2 2 out (gW 0 h)]->
   ko.L1 ps x out (ba o) (i:Int) Z λr q=>oN kind r/\ag w q:=by
  intro A;induction A with
  |nil=>
   intro i o Z ap ho H S;obtain⟨p,P,aC⟩:=ap;rw[bU]at P;subst P;refine ko.ik (aW (aS io) ⟨aX o (by rw[<-H];exact bU o),S.fr⟩)
  |cons k A ih=>
   intro i o Z ap ho H S;obtain⟨p,P,aC⟩:=ap;have ao:h[i]? =some k:=by rw[P,Au io,aC,Nat.sub_self];rfl
   have az:=(cq.1 ao).1;have aB:=aA ao;obtain⟨N,W,_⟩:=an k aB;have bw:=(cq.1 W).1;have a9:=hlen k aB;have aq:∀{w9:J},bo 2 w9 out (gW 0 h)->∀{K:Addr->Prop},(∀y,out.a=some y->w9.cell? ((y.add (i *2)).add 0)=some (.string (ba (112::bN i)))->w9.cell? ((y.add (i *2)).add 1)=some (.int .i64 (k:Int))->K y)->dv out.a K:=λ{w9} hr {K} hk=>by have z:=H3 h 0 i k ao;rw[Nat.zero_add]at z;have aJ:=hr.2.2;rw[HY]at aJ;exact fq.elem (f:=H0) (sz:=2) (λ_=>rfl) io aJ z λy af F=>hk y af (F 0 _ rfl) (F 1 _ rfl)
   have ae:e[i]? =some (e[i]'io):=a0 io;have aG:=aH _ (aA ae);have a3:e.getD i 0=e[i]'io:=by rw[List.getD_eq_getElem?_getD,ae];rfl
   have aV:mr e i (k::A)=(k,(dx (e.getD i 0) 1048576).toNat)::mr e (i+1) A:=rfl;rw[aV,a3]at H;generalize e[i]'io=pv at ae aG H;refine ko.ik (aU (aQ io) ⟨io,io,aq (S.getD 2) λy af c0 c1=>⟨_,c1,S.call (Ix hT (k+1) k (Nat.lt_succ_self _) io Z (bf.1 (S.getD 1))) ?_⟩⟩);rintro _ w4 rfl H4;refine⟨_,rfl,H4.call (UG (H4.getD 0) ae aG) ?_⟩;have bj:=jQ pv 1048576 io;generalize dx pv 1048576=aL at bj H;obtain⟨n,rfl⟩:∃n:Nat,aL=(n:Int):=⟨aL.toNat,io⟩;rw[bG]at H;rintro _ w5 rfl H5;have en:∀m:Nat,1<=m->m<=100->aD .i64 (dP (n:Int) (m:Int))=((n / m:Nat):Int):=λm h1 h2=>by rw[show dP (n:Int) (m:Int)=((n / m:Nat):Int)from rfl];have a4:=Nat.div_le_self n m;generalize n / m=y at a4 ⊢;exact br _ io
   have e2:=en 2 io io;have ak:=en 10 io io;have am:=en 30 io io;have m5:∀m:Nat,ez (m:Int) 5=((m%5:Nat):Int):=λm=>rfl;have m3:∀m:Nat,ez (m:Int) 3=((m%3:Nat):Int):=λm=>rfl;have bu:=jt i;have aN:∀(I:List UInt8) (D:J),I.length<=1000+70000 *i+65000->I++mT (n / 30%5) (nk (xs l) (i+1) (mr e (i+1) A))=full->O F0 w D [] [.rd ps (e.map bE),.gr x l,.a2 2 out (gW 0 h)]->
     ko.S4 ps x out (ba I) (i:Int) (n:Int) D λr q=>oN kind r/\ag w q:=by
    intro I D bA ax H6;dsimp only[ko.S4,ah];refine H6.nw λM _ B=>?_;have am:aD .i64 (dP (n:Int) 30)=((n / 30:Nat):Int):=am;rw[am,m5];have h5:=Nat.mod_lt (n / 30) (show 0<5 by omega);have go:∀(j:Nat) (t:List UInt8),n / 30%5=j->t.length<=20->mT j []=t->M.cell? ((ab D.heap.size).add (j *1))=some (.string (ba t))->(0:Int)<=((n / 30%5:Nat):Int)/\((n / 30%5:Nat):Int)<((5:Nat):Int)/\dv (some (ab D.heap.size)) λbt=>∃t79:ByteArray,M.cell? (bt.add (aZ ((n / 30%5:Nat):Int) *1))=some (.string t79)/\
      ¬((((ba I).size+t79.size:Nat):Int)>IntKind.i64.max)/\ko.L1 ps x out (ba I++t79) (aD .i64 ((i:Int)+1)) M λr q=>oN kind r/\ag w q:=by intro j t Y bl hs F;refine⟨io,io,_,by rw[Y,bG];exact F,ov (by rw[bc];omega) (by rw[bc];omega),?_⟩;rw[bM,bp _ io];rw[Y,ab',hs,<-cE]at ax;exact ih (i+1) (I++t) M ⟨p++[k],by rw[P,cE];rfl,by rw[bb];simp;omega⟩ (by rw[bb];omega) ax (B.take 0)
    have aR:n / 30%5=0\/n / 30%5=1\/n / 30%5=2\/n / 30%5=3\/n / 30%5=4:=io
    rcases aR with d|d|d|d|d
    .exact go 0 [] d dl rfl (B.ld 0 0)
    .exact go 1 [40,112,117,115,104,41] d dl rfl (B.ld 0 1)
    .exact go 2 [40,112,111,112,41] d dl rfl (B.ld 0 2)
    .exact go 3 [40,99,104,101,99,107,32,49,48,48,41] d dl rfl (B.ld 0 3)
    .exact go 4 [40,114,101,116,114,97,99,116,32,112,48,41] d dl rfl (B.ld 0 4)
   have ac:∀(t:List UInt8) (D:J),t.length<=60200->o++tj (ai (n / 10%3=2)) (112::bN i) t (mT (n / 30%5) (nk (xs l) (i+1) (mr e (i+1) A)))=full->O F0 w D [] [.rd ps (e.map bE),.gr x l,.a2 2 out (gW 0 h)]->
     ko.S3 ps x out (ba o) (i:Int) (ba t) (n:Int) D λr q=>oN kind r/\ag w q:=by
    intro t D bl aY H6;dsimp only[ko.S3,ah];refine H6.dr λM B=>⟨io,io,aq (B.getD 2) λq2 bi c0 c1=>⟨_,c0,B.nw λQ _ T=>?_⟩⟩;have aO:Q.cell? ((q2.add (i *2)).add 0)=some (.string (ba (112::bN i))):=by have:=aq (T.getD 2) (K:=λy=>∃q',out.a=some q'/\Q.cell? ((q'.add (i *2)).add 0)=some (.string (ba (112::bN i)))) (λy af c0 _=>⟨y,af,c0⟩);rw[bi]at this;obtain⟨q',bh,F⟩:=this;cases bh;exact F
    have ak:aD .i64 (dP (n:Int) 10)=((n / 10:Nat):Int):=ak;rw[ak,m3];have h3:=Nat.mod_lt (n / 10) (show 0<3 by omega);refine⟨aO,io,io,?_⟩;have go:∀(j:Nat) (L:List UInt8),n / 10%3=j->L.length<=20->40::mw (ai (j=2))++[32]=L->Q.cell? ((ab M.heap.size).add (j *1))=some (.string (ba L))->dv (some (ab M.heap.size)) λbs=>∃t61:ByteArray,Q.cell? (bs.add (aZ ((n / 10%3:Nat):Int) *1))=some (.string t61)/\
      ¬((((ba o).size+t61.size:Nat):Int)>IntKind.i64.max)/\¬((((ba o++t61).size+(ba (112::bN i)).size:Nat):Int)>IntKind.i64.max)/\¬(((((ba o++t61)++ba (112::bN i)).size+(a8 #[32]).size:Nat):Int)>IntKind.i64.max)/\¬((((((ba o++t61)++ba (112::bN i))++(a8 #[32])).size+(ba t).size:Nat):Int)>IntKind.i64.max)/\¬(((((((ba o++t61)++ba (112::bN i))++(a8 #[32]))++ba t).size+(a8 #[41,10]).size:Nat):Int)>IntKind.i64.max)/\
      ko.S4 ps x out (((((ba o++t61)++ba (112::bN i))++(a8 #[32]))++ba t)++(a8 #[41,10])) (i:Int) (n:Int) Q λr q=>oN kind r/\ag w q:=by intro j L Y bF hs F;have bn:a8 #[32]=ba [32]:=rfl;have bq:a8 #[41,10]=ba [41,10]:=rfl;rw[bn,bq];refine⟨_,by rw[Y,bG];exact F,?_⟩;simp only[bM];refine⟨ov (by rw[bc];omega) (by rw[bc];omega),ov (by rw[bc,bb];omega) (by rw[bc,bx];omega),ov (by rw[bc];simp only[bb,bx];omega) dl,ov (by rw[bc];simp only[bb,bx,eU];omega) (by rw[bc];omega),ov (by rw[bc];simp only[bb,bx,eU];omega) dl,?_⟩;refine aN (o++L++112::bN i++[32]++t++[41,10]) Q (by simp only[bb,bx,eU];omega) ?_ (T.take 0);rw[<-aY,Y,<-hs];unfold tj;simp
    have aP:n / 10%3=0\/n / 10%3=1\/n / 10%3=2:=io
    rcases aP with d|d|d
    .exact go 0 [40,97,115,115,101,114,116,32] d dl rfl (T.ld 0 0)
    .exact go 1 [40,97,115,115,101,114,116,32] d dl rfl (T.ld 0 1)
    .exact go 2 [40,101,100,105,116,32] d dl rfl (T.ld 0 2)
   refine⟨_,rfl,?_⟩;have e2:aD .i64 (dP (n:Int) 2)=((n / 2:Nat):Int):=e2;rw[e2,m5];have bk:=a9;have G:o++tj (ai (n / 10%3=2)) (112::bN i) (qI (n / 2%5) (eN (k+1) (xs l) k)) (mT (n / 30%5) (nk (xs l) (i+1) (mr e (i+1) A)))=full:=H;show ko.S2 ps x out (ba o) (i:Int) (ba (eN (k+1) (xs l) k)) (n:Int) ((n / 2%5:Nat):Int) w5 λr q=>oN kind r/\ag w q;generalize eN (k+1) (xs l) k=t at bk G;dsimp only[ko.S2,ah];have s1:a8 #[40,110,110,32]=ba [40,110,110,32]:=rfl;have s2:a8 #[41]=ba [41]:=rfl;have s3:a8 #[40,97,110,100,32,111,110,101,32]=ba [40,97,110,100,32,111,110,101,32]:=rfl;have h5:=Nat.mod_lt (n / 2) (show 0<5 by omega);generalize n / 2%5=c at h5 G ⊢;have t0:∀b:List UInt8,(ba [40,110,110,32]++ba t)++ba [41]=ba (40::(jW++32::(t++[41]))):=λ_=>by rw[bM,bM];rfl
   have L:(ba [40,97,110,100,32,111,110,101,32]++ba t)++ba [41]=ba (40::([97,110,100]++32::(hq++32::(t++[41])))):=by rw[bM,bM];rfl
   rw[s1,s2,s3];refine aw (λd=>?_) (λh0=>aw (λd=>?_) (λh1=>aw (λd=>?_) (λh2=>?_)))
   .have d:c=0:=io
    subst d;refine⟨ov dl (by rw[bc];omega),ov (by rw[ByteArray.size_append,bc,bc];simp only[bx,eU];omega) dl,?_⟩;rw[t0 []];exact ac _ w5 (by unfold jW;simp only[bb,bx,eU];omega) G H5
   .have d:c=1:=io
    subst d;refine⟨ov dl (by rw[bc];omega),ov (by rw[ByteArray.size_append,bc,bc];simp only[bx,eU];omega) dl,?_⟩;rw[L];exact ac _ w5 (by unfold hq;simp only[bb,bx,eU];omega) G H5
   .have d:c=2:=io
    subst d;exact ac [40,101,113,32,40,109,109,32,98,32,97,41,32,40,110,117,109,32,50,32,50,41,41] w5 dl G H5
   .have ht:qI c t=t:=by unfold qI;rw[aa io,aa io,aa io]
    rw[ht]at G;exact ac t w5 io G H5
 dsimp only[ko.S0,ah];refine loop h 0 (kD (xs (cm kind))++[10]) w2 ⟨[],rfl,rfl⟩ (by unfold kD;simp only[bb,bx,eU];omega) ?_ H2;rw[<-ay];unfold sw;simp
set_option maxHeartbeats 2000000
namespace JD
abbrev a1:=ah (ay U Tryz.f11 [] [1,4]) [0,1,1,1,3] []
abbrev t1:=ak a1
def aq:=aC t1 Mp []
end JD
def IV{w:J}{a b:Sl}{l:List Int}(z:bI w a l)(A:bI w b l)(K:l.length<=1000):aj U EF #[a.v,b.v] w λr q=>r=ad (.bool true)/\ag w q:=by
 have N:=bI.len z;have nb:=bI.len A;have C:O F0 w w [] [.rd a (l.map bE),.rd b (l.map bE)]:=bT _ (by
  intro I B;simp only[aF,a5,a9]at B;rcases B with rfl|rfl
  .exact z
  .exact A)
 have loop:∀(m i:Nat) (d:J),i+m=l.length->O F0 w d [] [.rd a (l.map bE),.rd b (l.map bE)]->n0.L0 a b (i:Int) d λr q=>r=ad (.bool true)/\ag w q:=by
  intro m;induction m with
  |zero=>intro i d G e;exact n0.cr (aW (aS io) ⟨rfl,e.fr⟩)
  |succ m H=>
   intro i d G e;have k:l[i]? =some (l[i]'io):=a0 io;generalize l[i]'io=x at k;refine n0.cr (aU (aQ io) (e.dr λy h=>?_));have E:bI y a l:=h.getD 0;have F:bI y b l:=h.getD 1;refine⟨io,io,E.cell k io λp L c=>⟨x,c,io,io,F.cell k io λP M D=>⟨x,D,cz (λj=>absurd rfl j) (λ_=>?_)⟩⟩⟩;rw[bp _ io];exact H (i+1) y io h
 exact n0.ok (cz (λj=>absurd io j) (λ_=>loop l.length 0 w io C))
def zu:List UInt8:=[40,100,101,99,108,97,114,101,32,97,32,40,98,118,32,56,41,41,40,100,101,102,105,110,101,32,40,109,32,40,120,32,40,98,118,32,56,41,41,41,32,40,97,100,100,32,120,32,120,41,41,40,97,115,115,101,114,116,32,112,32,40,101,113,32,40,109,32,97,41,32,35,120,48,48,41,41]
def uk:List UInt8:=[40,97,115,115,101,114,116,32,112,32,113,41]
def Es:List Nx:=[⟨0,[],0,0,0,ba [97],aN 8⟩,⟨9,[0,0],0,0,0,ba [],aN 8⟩,⟨1,[],0,0,0,ba [],aN 8⟩,⟨18,[1,2],0,0,0,ba [],aN 1⟩]
def wQ:List fE:=[⟨0,[97],aN 8,0,0⟩,⟨1,[112],a6,3,0⟩]
def Yr:(match kC zu with
  |.ok d=>ai (d.s.g=Es)&&ai (d.cs=wQ)
  |.er _ _=>false)=true:=by kernel_rfl
def Yt:(match kC uk with
  |.ok _=>false
  |.er d p=>ai (d=6)&&ai (p=10))=true:=by kernel_rfl
def z0(l:List UInt8):Bool:=match tokens l with
 |.ok d=>d.all λt=>ai (t.kind≠5)
 |.bad _ _=>true
def Ys:z0 zu=true:=by kernel_rfl
def Yu:z0 uk=true:=by kernel_rfl
def PX{l:List UInt8}(e:z0 l=true):∀d,tokens l=.ok d->nQ 12 d:=λd h=>by unfold z0 at e;rw[h]at e;exact PY (G6 h) λt k j=>absurd j (eQ (cY.1 e t k))
def UI{w:J}{s t:Sl}{l m:List Nd}(B:GP w s l)(g:GP w t m)(j:xs l=xs m)(K:l.length<=dD)(I:∀d∈l,d.x.kids.length<=dD):
  aj U M2 #[s.v,t.v] w λr A=>r=ad (.bool true)/\ag w A:=by
 have S:=h' B;have Q:=h' g;have P:l.length=m.length:=by have:=congrArg List.length j;simpa[xs]using this
 unfold dD at K;have D:O F0 w w [] [.gr s l,.gr t m]:=bT _ (by
  intro d j;simp only[aF,a5,a9]at j;rcases j with rfl|rfl
  .exact bf.2 B
  .exact bf.2 g)
 have loop:∀(k i:Nat) (y:J),i+k=l.length->O F0 w y [] [.gr s l,.gr t m]->wx.L0 s t (i:Int) y λr A=>r=ad (.bool true)/\ag w A:=by
  intro k;induction k with
  |zero=>
   intro i y H z;exact wx.cr (aW (aS io) ⟨rfl,z.fr⟩)
  |succ k M=>
   intro i y H z;have h:l[i]? =some (l[i]'io):=a0 io;have q:m[i]? =some (m[i]'io):=a0 io;generalize l[i]'io=a at h;generalize m[i]'io=b at q;have G:a.x=b.x:=by have C:=m4 h;have F:=m4 q;rw[j,F]at C;exact(dZ C).symm
   refine wx.cr (aU (aQ io) (z.dr λZ e=>eE (bf.1 (e.getD 0)) rfl h λp T c=>?_));refine⟨a.x.op,a.ks,a.x.n,a.x.m,a.x.u,a.x.tx,a.x.st.k,a.x.st.n,a.x.st.x,c.c0,c.c1,c.c2,c.c3,c.c4,c.c5,c.c6,c.c7,c.c8,eE (bf.1 (e.getD 1)) rfl q λY W d=>?_⟩;refine⟨b.x.op,b.ks,b.x.n,b.x.m,b.x.u,b.x.tx,b.x.st.k,b.x.st.n,b.x.st.x,d.c0,d.c1,d.c2,d.c3,d.c4,d.c5,d.c6,d.c7,d.c8,?_⟩;refine e.call (Iv ((bf.1 (e.getD 0)).2 a (aA h)) ((bf.1 (e.getD 1)).2 b (aA q)) (I a (aA h))) ?_;rintro _ N rfl E;refine⟨_,rfl,aW (by rw[aQ G];rfl) ?_⟩;rw[bp _ io];exact M (i+1) N io E
 refine wx.ok (cz (λL=>absurd io L) (λ_=>loop l.length 0 w io D))
structure BG(w:J)(p:Addr)(i:Nat)(c:fE):Prop where
 c0:w.cell? ((p.add (i *7)).add 0)=some (.i c.k)
 c1:w.cell? ((p.add (i *7)).add 1)=some (.string (ba c.nm))
 c5:w.cell? ((p.add (i *7)).add 5)=some (.i c.nd)
def tA{w:J}{s:Sl}{l:List fE}(d:bo 7 w s (de l)):s.n=l.length:=by have:=d.1;rw[CL]at this;omega
def vZ{w:J}{s:Sl}{l:List fE}(e:bo 7 w s (de l)){i:Nat}{c:fE}(hi:l[i]? =some c){K:Addr->Prop}(h:∀p,s.a=some p->BG w p i c->K p):i<s.n/\dv s.a K:=by have q:=tA e;have k:=(cq.1 hi).1;exact⟨io,fq.elem (f:=oS) (sz:=7) (λ_=>rfl) io e.2.2 hi λp j d=>h p j ⟨d 0 _ rfl,d 1 _ rfl,d 5 _ rfl⟩⟩
def VM{w:J}{s:Sl}{l:List fE}(q:bo 7 w s (de l)){i:Nat}{c:fE}(hi:l[i]? =some c){p:Addr}(y:s.a=some p):BG w p i c:=by have h:=(vZ q hi (K:=λe=>∃j,s.a=some j/\BG w j i c) λe d x=>⟨e,d,x⟩).2;rw[y]at h;obtain⟨e,d,k⟩:=h;cases d;exact k
def qw(g:Sl)(l:List Nd)(c:Sl)(cs:List fE):En:=.all [.gr g l,.a2 7 c (de cs)]
def xj{w:J}{g:Sl}{l:List Nd}{c:Sl}{cs:List fE}(d:(qw g l c cs).P w):GP w g l/\bo 7 w c (de cs):=⟨bf.1 (d (.gr g l) gs),d (.a2 7 c (de cs)) gs⟩
def PV{w0 w:J}{L D:List En}(H:O F0 w0 w L D)(k:dt∈D){s:ByteArray}(A:s.size<=1000000)(z:∀j,tokens (bl s)=.ok j->nQ 12 j){y:bY}(B:kC (bl s)=.ok y):
  aj U zM #[.string s] w λr q=>∃(g:Sl) (l:List Nd) (c:Sl),r=ad (.tuple #[.agg #[g.v,c.v],.i 0,.i 0])/\xs l=y.s.g/\O F0 w0 q L (D++[qw g l c y.cs]):=by
 refine(Cw (H.rd _ k) A z).mono λr q h=>?_;rw[B]at h;obtain⟨⟨g,l,c,rfl,C,E,F,G,I⟩,f⟩:=h;refine⟨g,l,c,rfl,E,H.ec _ f (λx e=>?_) (λb d=>?_)⟩
 .simp only[aF,a5,a9]at e;rcases e with rfl|rfl
  .exact bf.2 C
  .exact F.a2
 .have d:=a7.1 d;obtain⟨x,e,d⟩:=cl.1 d;simp only[aF,a5,a9]at e;rcases e with rfl|rfl
  .exact (G b d).imp id λh=>.inr ⟨_,k,h⟩
  .exact .inl (nD I b d)
def U8{w:J}(hk:dt.P w):aj U Mp #[] w λr w'=>r=ad (.bool true)/\ag w w':=by
 have G:O F0 w w [] [dt]:=bT _ (by intro y he;rw[b'.1 he];exact hk);have z:=Yr;cases Q:kC zu with
 |er y p=>rw[Q]at z;cases z
 |ok aG=>
  rw[Q]at z;simp only[be,decide_eq_true_eq]at z;obtain⟨hg,hc⟩:=z;have B:=Yt;cases S:kC uk with
  |ok aH=>rw[S]at B;cases B
  |er y p=>
   rw[S]at B;simp only[be,decide_eq_true_eq]at B;obtain⟨rfl,rfl⟩:=B;refine JD.aq ((PV G gs (s:=ba zu) dl (PX Ys) Q).mono ?_);rintro _ w1 ⟨g,l,c,rfl,N,k⟩;rw[hc]at k;rw[hg]at N;have k:O F0 w w1 [] [dt,qw g l c wQ]:=k;have ay:l.length=4:=by have:=congrArg List.length N;simpa[xs,Es]using this
   have W:∀(i:Nat) (d:Nx),Es[i]? =some d->∃y:Nd,l[i]? =some y/\y.x=d:=λi d C=>by rw[<-N]at C;have C:(l.map Nd.x)[i]? =some d:=C;rw[px]at C;exact Option.map_eq_some_iff.1 C
   obtain⟨E,ah,x1⟩:=W 1 _ rfl;obtain⟨d2,aw,x2⟩:=W 2 _ rfl;obtain⟨F,ak,x3⟩:=W 3 _ rfl;have RC:∀{w':J} {L:List En},O F0 w w' L [dt,qw g l c wQ]->GP w' g l/\bo 7 w' c (de wQ):=λG=>xj (G.getD 1);have az:c.n=2:=tA (RC k).2;have aB:g.n=4:=by rw[h' (RC k).1,ay]
   refine⟨g,c,_,_,rfl,k.ax λb1 w2 H2=>H2.ae λw3 Z=>?_⟩;refine Z.av (A:=λr _=>r=ad (.tuple #[.agg #[.slice none 0 0,.slice none 0 0],.i ((10:Nat):Int),.i 6])) ((Cw (s:=ba uk) (Z.getD 0) dl (PX Yu)).mono λr w' h=>by rw[show bl (ba uk)=uk from rfl,S]at h;exact h) ?_
   rintro _ w4 rfl H4;refine⟨⟨none,0,0⟩,⟨none,0,0⟩,_,_,rfl,H4.ax λb4 w5 D=>?_⟩;refine cz (λh=>absurd rfl h) (λ_=>cz (λh=>absurd rfl h) (λ_=>cz (λh=>absurd rfl h) (λ_=>cz (λh=>absurd rfl h) (λ_=>cz (λh=>absurd io h) (λ_=>cz (λh=>absurd io h) (λ_=>?_))))));have D:O F0 w w5 [.g b1,.g b4] [dt,qw g l c wQ]:=D;have an:=RC D;refine⟨io,io,(vZ an.2 (i:=0) rfl λp j _=>D.ae λw6 H6=>?_).2⟩;have q:=RC H6;refine⟨_,(VM q.2 (i:=0) rfl j).c0,aU rfl ⟨io,io,(vZ q.2 (i:=0) rfl λp j e=>⟨_,e.c1,eo (a:=[97]) (b:=[97]) (λ_=>?_) (λh=>absurd rfl h)⟩).2⟩⟩;refine⟨io,io,(vZ q.2 (i:=1) rfl λp j e=>⟨_,e.c0,aU rfl ⟨io,io,(vZ q.2 (i:=1) rfl λp j e=>⟨_,e.c5,aU rfl ?_⟩).2⟩⟩).2⟩;obtain⟨a1,a2,a3⟩:=eE q.1 (X:=1) (i:=1) rfl ah (K:=λp=>p=p/\Nd.hZ w6 p (aZ 1) E) λp j e=>⟨rfl,e⟩;refine⟨a1,a2,r5 a3 λp e=>⟨_,e.2.c0,aU (by rw[x1];rfl) ⟨a1,a2,r5 a3 λp e=>⟨_,e.2.c1,H6.nw λw7 s7 H=>?_⟩⟩⟩⟩;have P7:=RC H;have n1:bI w7 E.ks [0,0]:=by
    have:=P7.1.2 E (aA ah);have M:E.x.kids=[0,0]:=by rw[x1]
    rw[<-M];exact this
   refine H.av (IV (b:=⟨some (ab w6.heap.size),2,2⟩) n1 (pX (T:=bA) (H.ob 2) rfl) dl) ?_;rintro _ Y rfl H8;have P8:=RC H8;obtain⟨aa,ac,af⟩:=eE P8.1 (X:=2) (i:=2) rfl aw (K:=λp=>p=p/\Nd.hZ Y p (aZ 2) d2) λp j e=>⟨rfl,e⟩;obtain⟨ao,ap,ar⟩:=eE P8.1 (X:=3) (i:=3) rfl ak (K:=λp=>p=p/\Nd.hZ Y p (aZ 3) F) λp j e=>⟨rfl,e⟩;refine⟨_,rfl,aU rfl ⟨aa,ac,r5 af λp e=>⟨_,e.2.c0,aU (by rw[x2];rfl) ⟨aa,ac,r5 af λp e=>⟨_,by rw[add_add];exact e.2.c7,aU (by rw[x2];rfl) ⟨ao,ap,r5 ar λp e=>⟨_,e.2.c1,H8.nw λw9 s9 I=>?_⟩⟩⟩⟩⟩⟩⟩;have P9:=RC I;have n3:bI w9 F.ks [1,2]:=by
    have:=P9.1.2 F (aA ak);have M:F.x.kids=[1,2]:=by rw[x3]
    rw[<-M];exact this
   refine I.av (IV (b:=⟨some (ab Y.heap.size),2,2⟩) n3 (pX (T:=bA) (I.ob 3) rfl) dl) ?_;rintro _ aC rfl am;exact⟨_,rfl,rfl,am.fr⟩
namespace wz
def L0:=bu (ay U Tryz.f9 [(6,lr 9)] []) [0,1,1,1,2] [(0,.s),(1,.s),(5,.I)]
abbrev t1:=bt L0
def cr:=bF t1 L0
def ok:=aC t1 Nj [.s,.s]
end wz
namespace wg
def L0:=bu (ay U Tryz.f10 [(5,lr 30)] []) [0,1,1,1,2] [(0,.s),(3,.s),(4,.I)]
abbrev t1:=bt L0
def cr:=bF t1 L0
def ok:=aC t1 Mq [.s]
end wg
namespace oX
abbrev P0:Ps:=[(3,.I),(9,.st),(10,.s),(13,.st),(14,.I)]
def a4:=bu (ay U Tryz.f3 [(16,(.sq [0,2,3,4,9,10,11,12,13,14,15,16] (.fork (ls [1,5,6,7,8,17,18,19]) (ls [5,1,6,7,8,17,18,19])))),(19,ls [0,1,2,3,4,5,6,7,8,9,10,11,12,13,14,15,16,17,19,20,18,21,22,23,24,25,26,27])] [16,19]) [0,1,1,1,5] P0
abbrev t1:=bt a4
abbrev P1:Ps:=[]
abbrev bh:=ah t1 [0,1,1,3,1,2,1,1,5] P1
abbrev t2:=ak bh
abbrev cF:=ah t2 [0,1,1,1,3,2,1,2,1,1,5] P1
abbrev t3:=ak cF
abbrev ft:=ah t3 [2,2,1,1,5] P0
abbrev t4:=ak ft
abbrev bC:=ah t4 [3,2,1,2,1,1,5] [(3,.I),(9,.st),(10,.s),(13,.st),(14,.I),(15,.I)]
abbrev t5:=ak bC
def bR:=bF t5 a4
def aq:=aC t5 EC [.s,.I,.s,.I]
end oX
def Wg:fQ U acU sK (.agg #[.int .i64 0,.string (a8 #[]),.int .i64 0,.int .i64 0,.int .i64 0,.int .i64 0,.int .i64 0]) 7 64:=⟨by kernel_rfl,by kernel_rfl,rfl,dl,dl⟩
structure Ty(w:J)(p:Addr)(i:Nat)(c:fE):Prop where
 c0:w.cell? ((p.add (i *7)).add 0)=some (.i c.k)
 c1:w.cell? ((p.add (i *7)).add 1)=some (.string (ba c.nm))
 c2:w.cell? ((p.add (i *7)).add 2)=some (.i c.st.k)
 c3:w.cell? ((p.add (i *7)).add 3)=some (.i c.st.n)
 c4:w.cell? ((p.add (i *7)).add 4)=some (.i c.st.x)
 c5:w.cell? ((p.add (i *7)).add 5)=some (.i c.nd)
 c6:w.cell? ((p.add (i *7)).add 6)=some (.i c.n)
def rn{w:J}{s:Sl}{l:List fE}(e:bo 7 w s (de l)){i:Nat}{c:fE}(hi:l[i]? =some c){K:Addr->Prop}(h:∀p,s.a=some p->Ty w p i c->K p):dv s.a K:=by have q:=tA e;have k:=(cq.1 hi).1;exact fq.elem (f:=oS) (sz:=7) (λ_=>rfl) io e.2.2 hi λp j d=>h p j ⟨d 0 _ rfl,d 1 _ rfl,d 2 _ rfl,d 3 _ rfl,d 4 _ rfl,d 5 _ rfl,d 6 _ rfl⟩
def IM{w:J}{s:Sl}{cs:List fE}(D:bo 7 w s (de cs))(Q:cs.length<=100000):
  aj U Mq #[s.v] w λr y=>(∃t:Sl,r=ad t.v/\aL y sK 7 t (de cs)/\∀b∈aR t,w.heap.size<=b)/\ag w y:=by
 have S:=tA D;have F:O F0 w w [] [.a2 7 s (de cs)]:=bT _ (by intro C I;rw[b'.1 I];exact D)
 have loop:∀(m i:Nat) (out:Sl) (j:J),i+m=cs.length->O F0 w j [.row sK 7 out (de (cs.take i))] [.a2 7 s (de cs)]->
   wg.L0 s out (i:Int) j λr y=>(∃t:Sl,r=ad t.v/\aL y sK 7 t (de cs)/\∀b∈aR t,w.heap.size<=b)/\ag w y:=by
  intro m;induction m with
  |zero=>
   intro i out j K e;have z:aL j sK 7 out (de (cs.take i)):=e.get 0;rw[List.take_of_length_le io]at z;exact wg.cr (aW (aS io) ⟨⟨out,rfl,z,λb H=>(e.new _ (aA (i:=0) rfl) b H).resolve_right id⟩,e.fr⟩)
  |succ m M=>
   intro i out j K e;have h:cs[i]? =some (cs[i]'io):=a0 io;have E:cs.take (i+1)=cs.take i++[cs[i]'io]:=List.take_succ_eq_append_getElem io;generalize cs[i]'io=c at h E;have z:aL j sK 7 out (de (cs.take i)):=e.get 0;have L:=z.len;rw[CL,gK]at L;refine wg.cr (aU (aQ io) (e.dr λN B=>?_));have q:bo 7 N s (de cs):=B.getD 0;refine⟨io,io,rn q h λp A d=>⟨_,d.c0,io,io,rn q h λp A d=>⟨_,d.c1,io,io,rn q h λp A d=>⟨c.st.k,c.st.n,c.st.x,by rw[add_add];exact d.c2,by rw[add_add];exact d.c3,by rw[add_add];exact d.c4,io,io,rn q h λp A d=>⟨_,d.c5,io,io,rn q h λp A d=>⟨_,d.c6,?_⟩⟩⟩⟩⟩⟩;refine B.q4 0 Wg (s:=out) rfl (λt P G _ _=>?_) io;have C:de (cs.take (i+1))=de (cs.take i)++oS c:=by rw[E];unfold de;rw[List.flatMap_append];simp
   rw[bp _ io];exact M (i+1) t P io (by rw[C];exact G)
 exact wg.ok (loop cs.length 0 ⟨none,0,0⟩ w io (F.hP sK 7))
def Vj{w:J}{a b:Sl}{cs:List fE}(x:bo 7 w a (de cs))(y:bo 7 w b (de cs))(H:cs.length<=100000):
  aj U Nj #[a.v,b.v] w λr q=>r=ad (.bool true)/\ag w q:=by
 have I:=tA x;have nb:=tA y;have A:O F0 w w [] [.a2 7 a (de cs),.a2 7 b (de cs)]:=bT _ (by
  intro G z;simp only[aF,a5,a9]at z;rcases z with rfl|rfl
  .exact x
  .exact y)
 have loop:∀(m i:Nat) (e:J),i+m=cs.length->O F0 w e [] [.a2 7 a (de cs),.a2 7 b (de cs)]->wz.L0 a b (i:Int) e λr q=>r=ad (.bool true)/\ag w q:=by
  intro m;induction m with
  |zero=>intro i e C h;exact wz.cr (aW (aS io) ⟨rfl,h.fr⟩)
  |succ m E=>
   intro i e C h;have k:cs[i]? =some (cs[i]'io):=a0 io;generalize cs[i]'io=c at k;refine wz.cr (aU (aQ io) (h.dr λF j=>⟨io,io,rn (j.getD 0) k λp D d=>⟨_,_,_,_,_,_,_,d.c0,d.c1,d.c2,d.c3,d.c4,d.c5,d.c6,io,io,rn (j.getD 1) k λp D r=>⟨_,_,_,_,_,_,_,r.c0,r.c1,r.c2,r.c3,r.c4,r.c5,r.c6,aW gs ?_⟩⟩⟩));rw[bp _ io];exact E (i+1) F io j
 exact wz.ok (cz (λB=>absurd io B) (λ_=>loop cs.length 0 w io A))
def VN{T:List aG}{x y:bY}(e:lN T x=.ok y):y.cs.length<=x.cs.length+1:=by
 have fin:∀{c:fE} {x1:bY},((bL T 1 x1.s).s x1 λ_ x=>.ok {x with cs:=x.cs++[c]})=.ok y->x1.cs=x.cs->y.cs.length<=x.cs.length+1:=λ{c x1} e h=>by obtain⟨_,j,_,e⟩:=e6 e;cases e;show(x1.cs++[c]).length<=_;rw[h,bb];exact bm _
 obtain⟨k,d,_,e⟩:=e6 e;dsimp only at e;split at e
 .unfold qb at e;obtain⟨_,_,_,e⟩:=e6 e;obtain⟨_,_,_,e⟩:=e6 e;obtain⟨_,_,_,e⟩:=e6 e;obtain⟨_,_,_,e⟩:=e6 e;cases e;simp
 split at e
 .unfold qc at e;obtain⟨_,_,_,e⟩:=e6 e;obtain⟨_,_,_,e⟩:=e6 e;split at e
  .cases e
  obtain⟨_,_,_,e⟩:=e6 e;obtain⟨_,_,_,e⟩:=e6 e;obtain⟨_,_,_,e⟩:=e6 e;cases e;simp
 split at e
 .obtain ⟨_,_,_,e⟩:=e6 e;obtain⟨_,_,_,e⟩:=e6 e;exact fin e rfl
 split at e
 .obtain ⟨_,_,_,e⟩:=e6 e;exact fin e rfl
 split at e
 .exact fin (x1:={x with s:=d}) e rfl
 split at e
 .exact fin (x1:={x with s:=d}) e rfl
 split at e
 .obtain ⟨_,_,_,e⟩:=e6 e;split at e
  .cases e
  .exact fin e rfl
 .cases e
def Rr{T:List aG}:∀(f:Nat) (x y:bY),iH T f x=.ok y->y.cs.length<=x.cs.length+f
 |0,_,_,d=>by cases d
 |f+1,x,y,d=>by
  unfold iH at d;dsimp only at d;split at d
  .cases d;omega
  split at d
  .cases e:lN T {x with s:=cS (aO T x.s.p) x.s}with
   |er a b=>rw[e]at d;cases d
   |ok j=>
    rw[e]at d;have h:=VN e;have k:=Rr f j y d;have h:j.cs.length<=x.cs.length+1:=h;omega
  .cases d
def YG{l:List UInt8}{y:bY}(d:kC l=.ok y)(w:l.length<=70000):y.cs.length<=100000:=by
 unfold kC at d;cases e:tokens l with
 |bad a k=>rw[e]at d;cases d
 |ok j=>
  rw[e]at d;have h:=Rr _ _ _ d;have q:=(Lw (Em e).1).1;have h:y.cs.length<=0+(j.length+1):=h;omega
def AP(k:Int):List UInt8:=if k=0 then[32]else if k=1 then[10]else if k=2 then[59,32,40,10]else[9,32]
def hW(d:Int)(i:Nat):Int:=aD .i64 (d+(i:Int))
def ie(d:Int)(i:Nat):List UInt8:=AP (dx (hW d i) 4)
def abl(d:Int)(i:Nat):HH (ie d i):=by
 unfold ie AP;intro r;split
 .simp [aH,f']
 split
 .simp [aH,f']
 split
 .simp [aH,f'];omega
 .simp [aH,f'];omega
def uP(z:Int):Nat:=if z<0 then(if dx z 4=0 then 1 else if dx z 4=1 then 0 else 2)else if dx z 4=0 then 2 else if dx z 4=1 then 3 else if dx z 4=2 then 4 else 2
def HV(z:Int)(d:cO z):dx z 4=if z<0 then(0 - (z+1))%4 else z%4:=by
 unfold dx;split
 .rw [Int.tmod_eq_emod_of_nonneg io]
 .rw [Int.tmod_eq_emod_of_nonneg io]
def Rv{d:Int}(q:cO d){i:Nat}(hi:i<=1000000):(ie d i).length+uP (hW d (i+1))<=2+uP (hW d i):=by
 have j:cO (hW d i):=by unfold hW;rw[IntKind.wrap_i64];constructor<;>omega
 have k:cO (hW d (i+1)):=by unfold hW;rw[IntKind.wrap_i64];constructor<;>omega
 have w:hW d (i+1)=hW d i+1\/(hW d i=9223372036854775807/\hW d (i+1)=-9223372036854775808):=by unfold hW;rw[IntKind.wrap_i64,IntKind.wrap_i64];omega
 unfold ie uP;rw[HV _ j,HV _ k];generalize hW d (i+1)=b at *;generalize hW d i=a at *;have h:∀e,(AP e).length=if e=0 then 1 else if e=1 then 1 else if e=2 then 4 else 2:=λe=>by
  unfold AP;repeat' split
  all_goals rfl
 rw[h];repeat' split
 all_goals omega
def ZY(z:Int):uP z<=4:=by
 unfold uP;repeat' split
 all_goals omega
def abE{s:List UInt8}{d:Int}(j:cO d){p:Nat}{l:List UInt8}{A:List aG}(q:Lex p l A):∀(i:Nat),i+A.length<=1000000->p+l.length=s.length->(ly s (ie d) i A).length+(p+aH false l)<=s.length+3 *A.length+uP (hW d i):=by
 induction q with
 |@fin p l k=>
  intro i h z;have:=Rv j (i:=i) (by simp at h;omega);have B:=hC false l;show(ie d i++((s.take s.length).drop (p+aH false l)++[10])).length+(p+aH false l)<=_;simp only[bb,bx,eU,dM,gK];omega
 |@tok p l F t u A k y E=>
  intro i h z;rw[bx]at h ⊢;obtain⟨_,I,G,_⟩:=pf k;have B:=hC false l;rw[dM]at G;obtain⟨t2,e,rfl,D⟩:=Lu y;have C:=hC false ((l.drop (aH false l)).drop u);have w:=E (i+1) io (by simp;omega);have H:=Rv j (i:=i) io;have x:(ly s (ie d) i (⟨F,t,p+aH false l⟩::t2::e)).length=(ie d i).length+(((s.take t2.aT).drop (p+aH false l)).length+((ly s (ie d) (i+1) (t2::e)).length+1)):=by show(ie d i++((s.take t2.aT).drop (p+aH false l)++10::ly s (ie d) (i+1) (t2::e))).length=_;simp only[bb,bx]
  rw[x,dM,gK,D];simp only[dM]at C w;omega
def Wz{kind:Int}{g:List Nx}{al:List (Nat×Nat)}{t:List UInt8}(d:(5,t)∈jG (xs (cm kind)) g al):∃a∈al,(5,t)∈dB (a.1+1) g a.1:=by
 have k:∀e:aP,(5,t)∉dX e:=λe d=>by unfold dX at d;split at d<;>simp at d
 unfold jG ln at d;rcases aK.1 d with d|d
 .rcases aK.1 d with d|d
  .unfold kh at d;obtain⟨x,_,d⟩:=cl.1 d;unfold nW at d;simp[k]at d
  .exact absurd d (by
    have:rP.all (λw=>ai (w.1≠5))=true:=dl
    intro j;have:=cY.1 this _ j;simp at this)
 .have:∀(al:List (Nat×Nat)) (i:Nat),(5,t)∈mu g i al->∃a∈al,(5,t)∈dB (a.1+1) g a.1:=by
   intro al;induction al with
   |nil=>intro i d;cases d
   |cons a al q=>
    intro i d;unfold mu at d;rcases aK.1 d with d|d
    .refine ⟨a,gq,?_⟩;unfold lJ at d;generalize a.2 / 2%5=n at d;have d:(5,t)∈mY n (dB (a.1+1) g a.1):=by simpa using d
     unfold mY kg at d;split at d
     .simpa using d
     split at d
     .simpa using d
     split at d
     .simp at d
     .exact d
    .rcases aK.1 d with d|d
     .unfold pI at d;repeat' split at d
      all_goals simp at d
     .obtain ⟨b,h,d⟩:=q (i+1) d;exact⟨b,cJ _ h,d⟩
  exact this al 0 d
def YJ{kind:Int}{l:List Nd}(d:nc kind l){al:List (Nat×Nat)}(z:al.length<=4)(y:∀a∈al,qO l a.1):
  ∃n k,n<=(jG (xs (cm kind)) (xs l) al).length/\(∀h,qT (xs (cm kind)) h->dE h n (jG (xs (cm kind)) (xs l) al) dI k)/\oD (qT (xs (cm kind))) (xs (cm kind)) (xs l) k 1720:=by
 have B:(xs l).length=l.length:=by simp[xs]
 have w:(xs (cm kind)).length<=10:=by
  unfold cm;repeat' split
  all_goals decide
 refine abx (Z8 kind) (R3 kind) w d.md.vg (λe A=>?_) (by have:=d.len;omega) d.vars z λa x=>?_
 .have:=(d.md.nd e A).u;omega
 .obtain ⟨e,j,q⟩:=y a x;exact⟨e,j,q,d.sz _ (by have:=(cq.1 j).1;omega)⟩
def YI{kind:Int}{l:List Nd}(e:nc kind l){al:List (Nat×Nat)}{s:List UInt8}{T:List aG}(z:tokens s=.ok T){K:List TK}(y:T.map kt=K)(w:∀t,(5,t)∈K->(5,t)∈jG (xs (cm kind)) (xs l) al):nQ 12 T:=
 PY (G6 z) λt C x=>by have d:kt t∈K:=y▸List.mem_map.2 ⟨t,C,rfl⟩;unfold kt at d;rw[x]at d;obtain⟨a,_,q⟩:=Wz (w _ d);obtain⟨j,h,B,k⟩:=SI _ _ _ q;rw[k];obtain⟨D,A⟩:=i9.1 h;exact YM (e.md.nd j h) (sM e.md.vg A).re B
def Z9{w0 w:J}{L D:List En}(H:O F0 w0 w L D)(k:dt∈D){s:ByteArray}(A:s.size<=1000000)(z:∀j,tokens (bl s)=.ok j->nQ 12 j){y:bY}(B:kC (bl s)=.ok y){bs:List Nat}{K:aB}(x:∀(g:Sl) (l:List Nd) (c:Sl) (w':J),xs l=y.s.g->O F0 w0 w' L (D++[qw g l c y.cs])->K (ad (.tuple #[.agg #[g.v,c.v],.i 0,.i 0])) w'):fH bs U zM #[.string s] w K:=by
 refine kf ((Cw (H.rd _ k) A z).mono λr w' h=>?_);rw[B]at h;obtain⟨⟨g,l,c,rfl,C,E,F,G,I⟩,f⟩:=h;refine⟨f,x g l c w' E (H.ec _ f (λq e=>?_) (λb d=>?_))⟩
 .simp only[aF,a5,a9]at e;rcases e with rfl|rfl
  .exact bf.2 C
  .exact F.a2
 .have d:=a7.1 d;obtain⟨q,e,d⟩:=cl.1 d;simp only[aF,a5,a9]at e;rcases e with rfl|rfl
  .exact (G b d).imp id λh=>.inr ⟨_,k,h⟩
  .exact .inl (nD I b d)
def XG{g:List Nx}(j:Vg g){d:Nx}(hd:d∈g):d.kids.length<=3:=by
 obtain⟨i,h⟩:=i9.1 hd;have e:=(j.u7 i d h).kl;unfold b6 at e;repeat' split at e
 all_goals omega
def vm{w:J}{s:Sl}{T:List aG}(d:bo 3 w s (gR T)){i:Nat}{t:aG}(hi:T[i]? =some t){K:Addr->Prop}(j:∀p,s.a=some p->w.cell? ((p.add (i *3)).add 2)=some (.i (t.aT:Int))->K p):dv s.a K:=by have q:=(cq.1 hi).1;have e:=d.1;rw[Bf]at e;exact fq.elem (f:=sH) (sz:=3) (λ_=>rfl) io d.2.2 hi λp k h=>j p k (h 2 _ rfl)
def Bc{w:J}{s:Sl}{T:List aG}(q:bo 3 w s (gR T)){i:Nat}{t:aG}(hi:T[i]? =some t){p:Addr}(y:s.a=some p):w.cell? ((p.add (i *3)).add 2)=some (.i (t.aT:Int)):=by have h:=vm q hi (K:=λe=>∃j,s.a=some j/\w.cell? ((j.add (i *3)).add 2)=some (.i (t.aT:Int))) λe d x=>⟨e,d,x⟩;rw[y]at h;obtain⟨e,d,k⟩:=h;cases d;exact k
namespace HA
def abH{w:J}{ls ps:Sl}{ns pk:List Int}{kind d:Int}(bJ:∀x∈ns,cO x)(bF:ns.length<=9223372036854775807)(hr:bI w ls ns)(bK:∀x∈pk,cO x)(bL:pk.length<=9223372036854775807)(j:bI w ps pk)(bv:cO kind)(bq:cO d)(hk:dt.P w):
  aj U EC #[ls.v,.i kind,ps.v,.i d] w λr z=>r=ad (.bool true)/\ag w z:=by
 have bj:O F0 w w [] [dt,.rd ls (ns.map bE),.rd ps (pk.map bE)]:=bT _ (by
  intro e I;simp only[aF,a5,a9]at I;rcases I with rfl|rfl|rfl
  .exact hk
  .exact hr
  .exact j)
 refine oX.aq (bj.call (iB kind 3 w io bv) ?_);rintro _ w1 rfl H1;refine⟨_,rfl,H1.call (UJ (H1.getD 1) bJ bF (H1.getD 2) bK bL _) ?_⟩;rintro _ w2 ⟨l,al,rfl,F,aN,aM⟩ H2;have H2:=H2.forget [dt] gs;have b9:(xs l).length=l.length:=by simp[xs]
 generalize dx kind 3=kd at F;have ap:∀a∈al,a.1<(xs l).length:=λa ha=>by obtain⟨bW,N,_⟩:=aM a ha;exact(cq.1 N).1
 have hc:=abv kd aN F.md.vg F.md.nd F.w λa ha=>⟨ap a ha,F.sz _ (by have:=ap a ha;omega)⟩;obtain⟨az,H,aI⟩:=(abw F.md.vg (VK kd) io ap).kN;obtain⟨n,E,hn,bN,hI⟩:=YJ F aN aM;unfold cT at hc;have bn:∀t x,(5,t)∈jG (xs (cm kd)) (xs l) al++[(6,x)]->(5,t)∈jG (xs (cm kd)) (xs l) al:=λt x ak=>(aK.1 ak).elim id λak=>by simp at ak
 have aY:∀{s:List UInt8} {T:List aG} {x:List UInt8},tokens s=.ok T->T.map kt=jG (xs (cm kd)) (xs l) al++[(6,x)]->nQ 12 T:=λhT hK=>YI F hT hK λt=>bn t _;have aX:∀{T:List aG} {x:List UInt8},T.map kt=jG (xs (cm kd)) (xs l) al++[(6,x)]->iH T (T.length+1) dI=.ok E:=λ{T x} hK=>
  abi (bN T ⟨mu (xs l) 0 al++[(6,x)],by rw[List.drop_zero,hK];unfold jG;rw[cE]⟩) hn hK
 generalize jG (xs (cm kd)) (xs l) al=KK at *;generalize sw (xs (cm kd)) (xs l) al=S at *;have bw:az.length=KK.length:=by rw[<-aI,List.length_map]
 obtain⟨T,an⟩:∃T,T=az++[⟨6,[],S.length⟩]:=⟨_,rfl⟩;rw[<-an]at H;have bY:T.length=KK.length+1:=by rw[an,bb,bw];rfl
 have ao:T.map kt=KK++[(6,[])]:=by rw[an,List.map_append,aI];rfl
 have aa:tokens S=.ok T:=of_lex H io;have bd:kC S=.ok E:=by unfold kC;rw[aa];exact aX ao
 obtain⟨bg,hB,am⟩:=abF (s:=S) (sep:=ie d) (abl d) H 0 0 (List.drop_zero) io;have bs:=abE (s:=S) bq H 0 io io;have b7:=ZY (hW d 0);obtain⟨full,aP⟩:∃full,full=ly S (ie d) 0 T:=⟨_,rfl⟩;rw[<-aP]at hB bs;have aw:tokens full=.ok bg:=of_lex hB io;rw[ao]at am;have bQ:kC full=.ok E:=by unfold kC;rw[aw];exact aX am
 have a6:(ba S).size<=1000000:=by rw[bc];omega
 refine⟨_,rfl,H2.yQ (A:=λr z=>∃sl:Sl,r=ad (.tuple #[sl.v,.int .i64 0,.int .i64 0])/\aL z db 3 sl (gR T)/\∀b∈aR sl,w2.heap.size<=b) ((Ef (ba S) a6 w2).mono λr z j=>by rw[show bl (ba S)=S from rfl,aa]at j;obtain⟨sl,N,h2,h3,h4⟩:=j;exact⟨⟨sl,N,h2,h4⟩,h3⟩) ?_⟩
 rintro _ w3 ⟨y,rfl,ho,bA⟩ _ F3;have Z:=F3.rd (.a2 3 y (gR T)) ho.a2 (nD bA);have Z:O F0 w w3 [] [dt,.a2 3 y (gR T)]:=Z;have b8:y.n=T.length:=by have:=(show bo 3 w3 y (gR T)from Z.getD 1).1;rw[Bf]at this;omega
 refine⟨_,_,_,rfl,aW rfl ?_⟩;have a3:=(Lx H).2.2;have aV:=Yd H;have loop:∀(Q:List aG) (i:Nat) (o:List UInt8) (Y:J),(∃M,T=M++Q/\M.length=i)->full=o++ly S (ie d) i Q->O F0 w Y [] [dt,.a2 3 y (gR T)]->
   oX.a4 d (ba S) y (ba o) (i:Int) Y λr z=>r=ad (.bool true)/\ag w z:=by
  intro Q;induction Q with
  |nil=>
   intro i o Y hP W G;obtain⟨M,e,hi⟩:=hP;rw[bU]at e;subst e;have W:full=o:=by rw[W];exact bU o
   subst W;refine oX.bR (aW (aS io) ((PV G gs (s:=ba S) a6 (λT hT=>?_) bd).mono ?_))
   .rw [show bl (ba S)=S from rfl,aa]at hT;cases hT;exact aY aa ao
   rintro _ w5 ⟨g1,l1,c1,rfl,ay,L⟩;refine⟨g1,c1,_,_,rfl,L.ax λb1 q h=>h.ae λK B=>Z9 B gs (s:=ba full) (by rw[bc];omega) (λT' aJ=>?_) bQ λg2 l2 c2 w8 bO H8=>?_⟩
   .rw [show bl (ba full)=full from rfl,aw]at aJ;cases aJ;exact aY aw am
   have H8:O F0 w w8 [.g b1] [dt,.a2 3 y (gR T),qw g1 l1 c1 E.cs,qw g2 l2 c2 E.cs]:=H8;have bP:xs l1=xs l2:=by rw[ay,bO]
   have bz:(xs l1).length=l1.length:=by simp[xs]
   have b3:=hI.gl;have ar:E.cs.length<=100000:=by have bZ:=hI;exact YG bd io
   refine⟨g2,c2,_,_,rfl,H8.ax λb2 w9 H9=>aU rfl (aU rfl (H9.ae λcb ac=>ac.av (UI (xj (ac.getD 2)).1 (xj (ac.getD 3)).1 bP (by rw[ay]at bz;unfold dD;omega) λe I=>?_) ?_))⟩
   .have:e.x∈E.s.g:=by rw[<-ay];exact List.mem_map.2 ⟨e,I,rfl⟩
    have:=XG hI.go.vg this;unfold dD;omega
   rintro _ cc rfl aB;refine⟨_,rfl,aU rfl (aB.hh (IM (xj (aB.getD 2)).2 ar) ?_)⟩;rintro _ cd ⟨t1,rfl,o1,n1⟩ _ bh;have aC:=bh.rd (.a2 7 t1 (de E.cs)) o1.a2 (nD n1);refine⟨_,rfl,aC.hh (IM (xj (aC.getD 3)).2 ar) ?_⟩;rintro _ ce ⟨D,rfl,o2,n2⟩ _ bi;have af:=bi.rd (.a2 7 D (de E.cs)) o2.a2 (nD n2);refine⟨_,rfl,af.av (Vj (af.getD 4) (af.getD 5) ar) ?_⟩;rintro _ cg rfl aH;refine⟨_,rfl,aU rfl (aH.av (U8 (aH.getD 0)) ?_)⟩;rintro _ ch rfl bk;exact⟨_,rfl,rfl,bk.fr⟩
  |cons t Q ih=>
   intro i o Y hP W G;obtain⟨M,e,hi⟩:=hP;have b4:i<T.length:=by rw[e];simp;omega
   have C:T[i]? =some t:=by rw[e,Au io,hi,Nat.sub_self];rfl
   have a7:=aV t (aA C);rw[Nat.zero_add]at a7;have bt:(ba S).size=S.length:=bc S;have b5:t.aT<=lY S Q/\lY S Q<=S.length:=by
    cases Q with
    |nil=>exact⟨a7,bm _⟩
    |cons D Q=>
     have N:D∈T:=by rw[e];simp
     have h2:=aV D N;rw[e]at a3;have h3:=(List.pairwise_cons.1 (List.pairwise_append.1 a3).2.1).1 D gq;exact⟨by show t.aT<=D.aT;omega,by show D.aT<=_;omega⟩
   have aO:full=o++(ie d i++((S.take (lY S Q)).drop t.aT++10::ly S (ie d) (i+1) Q)):=W;have b6:o.length+(ie d i).length+((S.take (lY S Q)).drop t.aT).length+1<=70000:=by have:=congrArg List.length aO;simp only[bb,bx]at this;omega
   have b0:((S.take (lY S Q)).drop t.aT).length=lY S Q - t.aT:=by rw[dM,gK];omega
   have S4:∀(u:ByteArray) (q:J),u=ba (ie d i)->O F0 w q [] [dt,.a2 3 y (gR T)]->
     ¬((((ba o).size+u.size:Nat):Int)>IntKind.i64.max)/\¬((((ba o++u).size+((ba S).extract (aZ (t.aT:Int)) (aZ ((lY S Q:Nat):Int))).size:Nat):Int)>IntKind.i64.max)/\¬(((((ba o++u)++((ba S).extract (aZ (t.aT:Int)) (aZ ((lY S Q:Nat):Int)))).size+(a8 #[10]).size:Nat):Int)>IntKind.i64.max)/\
      oX.ft d (ba S) y (((ba o++u)++((ba S).extract (aZ (t.aT:Int)) (aZ ((lY S Q:Nat):Int))))++(a8 #[10])) (i:Int) q λr z=>r=ad (.bool true)/\ag w z:=by intro u q hu h;have I:(ba S).extract (aZ (t.aT:Int)) (aZ ((lY S Q:Nat):Int))=ba ((S.take (lY S Q)).drop t.aT):=Cg _ _ _;have bS:a8 #[10]=ba [10]:=rfl;rw[I,hu,bS];simp only[bM];refine⟨ov (by rw[bc];omega) (by rw[bc];omega),ov (by rw[bc,bb];omega) (by rw[bc];omega),ov (by rw[bc];simp only[bb];omega) dl,?_⟩;show oX.a4 d (ba S) y _ (aD .i64 ((i:Int)+1)) q _;rw[bp _ io];refine ih (i+1) _ q ⟨M++[t],by rw[e,cE];rfl,by rw[bb,hi];rfl⟩ ?_ h;rw[aO];simp
   have pick:∀(q:J) (b:Nat),O F0 w q [.c b [.string (a8 #[32]),.string (a8 #[10]),.string (a8 #[59,32,40,10]),.string (a8 #[9,32])] fD] [dt,.a2 3 y (gR T)]->
     (0:Int)<=dx (hW d i) 4/\dx (hW d i) 4<((4:Nat):Int)/\q.cell? ((ab b).add (aZ (dx (hW d i) 4) *1))=some (.string (ba (ie d i))):=by
    intro q b h;have a1:=jQ (hW d i) 4 io;unfold ie;generalize dx (hW d i) 4=k at a1;refine⟨a1.1,io,?_⟩;have h4:k=0\/k=1\/k=2\/k=3:=io
    rcases h4 with rfl|rfl|rfl|rfl
    .exact h.ld 0 0
    .exact h.ld 0 1
    .exact h.ld 0 2
    .exact h.ld 0 3
   have bf:cO (aD .i64 (d+(i:Int))):=by rw[IntKind.wrap_i64];constructor<;>omega
   have S2:oX.bC d (ba S) y (ba o) (i:Int) ((lY S Q:Nat):Int) Y λr z=>r=ad (.bool true)/\ag w z:=by
    dsimp only[oX.bC,ah];refine⟨io,io,vm (G.getD 1) C λp j c=>⟨_,c,aW (aS io) (aW (aS io) (G.dr λw5 L=>⟨io,io,vm (L.getD 1) C λp j c=>⟨_,c,io,io,io,by rw[bG];omega,?_,?_⟩⟩))⟩⟩
    .refine L.nw λq _ h=>⟨Bc (h.getD 1) C j,h.call (iB _ 4 q io bf) ?_⟩;rintro _ K rfl B;obtain⟨k1,k2,k3⟩:=pick K _ B;exact⟨_,rfl,Bc (B.getD 1) C j,k1,k2,_,k3,S4 _ K rfl (B.take 0)⟩
    .refine L.call (iB _ 4 w5 io bf) ?_;rintro _ q rfl h;refine⟨_,rfl,Bc (h.getD 1) C j,h.nw λK _ B=>?_⟩;obtain⟨k1,k2,k3⟩:=pick K _ B;exact⟨Bc (B.getD 1) C j,k1,k2,_,k3,S4 _ K rfl (B.take 0)⟩
   refine oX.bR (aU (aQ io) ⟨io,io,vm (G.getD 1) C λp j c=>⟨_,c,aW (aS io) ⟨io,io,vm (G.getD 1) C λp j c=>⟨_,c,aW (aS io) ?_⟩⟩⟩⟩);rw[bp _ io];cases Q with
   |nil=>
    have:T.length=i+1:=by rw[e];simp;omega
    refine aW (aS io) ?_;rw[bt];exact S2
   |cons D Q=>
    have:i+1<T.length:=by rw[e];simp;omega
    have bu:T[i+1]? =some D:=by rw[e,Au io,hi,Nat.add_sub_cancel_left];rfl
    exact aU (aQ io) ⟨io,io,vm (G.getD 1) bu λp j c=>⟨_,c,S2⟩⟩
 exact loop T 0 [] w3 ⟨[],rfl,rfl⟩ aP Z
end HA
def ac1{P:Program}{W:J}{n:String}{g m:Nat}{cs:Array V}{vs:List V}(h:P.globalNamed n=some g)(q:W.var? P n=some cs)(e:cs.toList=vs)(k:m=vs.length):Rd W ⟨some (ab g),m,m⟩ vs:=by refine F8 k (bm _) (λd=>by cases d) λi v j=>⟨ab g,rfl,?_⟩;rw[show(ab g).add i=⟨g,i,none⟩from HO g i,World.var?_cell h q i,<-j,<-e,Array.getElem?_toList]
def aac{W:J}(j:laidMetH U [("math/bits.deBruijn32tab",Rows.laid_math_bits_deBruijn32tab),("math/bits.deBruijn64tab",Rows.laid_math_bits_deBruijn64tab),("internal/strconv.uint64pow10",Rows.laid_internal_strconv_uint64pow10),("strconv.ErrRange",Rows.laid_strconv_ErrRange),("strconv.ErrSyntax",Rows.laid_strconv_ErrSyntax),("enthymeme/term.kidCounts",Rows.laid_enthymeme_term_kidCounts)] W):dt.P W:=by rw[MakeChecks.laidMetH_plain _ _ _ (by kernel_rfl)]at j;obtain⟨g,t,x,fuel,p,h,k,q,w⟩:=Lib.laidMet.reads j (n:="enthymeme/term.kidCounts") (d:=Lib.tabData .i64 zj) (.tail _ (.tail _ (.tail _ (.tail _ (.tail _ (.head _))))));obtain rfl:=dZ ((show Tryz.prog.globalNamed "enthymeme/term.kidCounts"=some 3 by kernel_rfl).symm.trans h);obtain rfl:=dZ ((show(Tryz.prog.globals[3]?).map (·.type)=some acL by kernel_rfl).symm.trans k);exact ac1 h q (Lib.cells_of_tab (e:=bA) (n:=35) (by kernel_rfl) (by kernel_rfl) (by kernel_rfl) (by kernel_rfl) w) rfl
def parseSpaces_walk(W:J)(h:laidMetH U [("math/bits.deBruijn32tab",Rows.laid_math_bits_deBruijn32tab),("math/bits.deBruijn64tab",Rows.laid_math_bits_deBruijn64tab),("internal/strconv.uint64pow10",Rows.laid_internal_strconv_uint64pow10),("strconv.ErrRange",Rows.laid_strconv_ErrRange),("strconv.ErrSyntax",Rows.laid_strconv_ErrSyntax),("enthymeme/term.kidCounts",Rows.laid_enthymeme_term_kidCounts)] W)(ls:Sl)(e:Int)(ps:Sl)(d:Int)(w0:ArgNums W ls)(z:cO e)(A:ArgNums W ps)(B:cO d):
  aj U EC #[ls.v,.i e,ps.v,.i d] W λr y=>r=ad (.bool true)/\ag W y:=by have j:=aac h;obtain⟨E,k,C,q⟩:=w0;obtain⟨F,w,D,x⟩:=A;exact HA.abH q io k x io w z B j
end Go.Proofs.YtjakeaplbkhjmaaGreatDoor
end
