import Derived.Test.YthhmdddomhknaaaGreatDoorE2
import Derived.Lib.BufferWrite
import Derived.Lib.UnsafeStr
import Derived.Test.YthhmdddomhknaaaGreatDoorR14
import Derived.Test.YthhmdddomhknaaaGreatDoorU
import Derived.Test.YthhmdddomhknaaaGreatDoorWB
import Derived.Test.YthhmdddomhknaaaGreatDoorG9
set_option linter.unusedVariables false
set_option maxRecDepth 100000
set_option maxHeartbeats 1000000
set_option linter.defProp false
namespace Go.Proofs.YthhmdddomhknaaaGreatDoor
open Go renaming World->J,Calls->ai,Program->aE,Value->aa,TypeId->aC
open Go.IntKind renaming wrap->aj
open _root_.Int renaming toNat->aV,tdiv->bL,tmod->ck,toNat_natCast->bH
open _root_.ByteArray renaming mk->bG
open Go.IntWalk renaming i64_in->aQ
open Go.Builtin renaming append_->dY
open Go.Sem renaming run->k5
open _root_.Nat renaming le_refl->bm,le_trans->a6,lt_of_lt_of_le->kr
open _root_.UInt8 renaming ofNat->cE
open _root_.BitVec renaming ofInt->eF
open Go.Proofs.Tryz renaming prog->Y
open _root_.Decidable renaming decide->ak
open Go.Ending renaming returned->ae
open List renaming mem_cons->au,not_mem_nil->aO,mem_of_getElem?->aD,getElem?_eq_getElem->a4,getElem?_eq_some_iff->cz,mem_append_left->bK,mem_append_right->dV,mem_flatMap->bS,length_append->bc,length_cons->dE,length_nil->gS,getElem?_append_left->D2,getElem?_append_right->v8,append_assoc->cp,mem_singleton->bT,flatMap_append->dt,nodup_append->gT,take_append_drop->lO,drop_eq_getElem_cons->dz,getElem?_map->hr,all_eq_true->ft,getElem?_drop->te,getElem?_take->tf,drop_of_length_le->cU
open Go Go.W
def Z2:∀d<100,vG[2 *d]? =some (g4 (d / 10))/\vG[2 *d+1]? =some (g4 (d%10)):=by decide+kernel
def Dg(u nd o n:Nat)(vs:List aa):Prop:=vs.length=24/\∀d,n<=d->d<nd->vs[o+d]? =some (bD (g4 (u / 10^(nd - 1 - d)%10)))
def BE{u nd n i:Nat}(d:n<=nd)(V:i<n):u / 10^(nd - 1 - (n - 1 - i))%10=u / 10^(nd - n) / 10^i%10:=by rw[Nat.div_div_eq_div_mul,<-Nat.pow_add,show nd - n+i=nd - 1 - (n - 1 - i)by omega]
def Dg.put{u nd o n:Nat}{vs:List aa}(h:Dg u nd o (n+1) vs)(y:o+nd<=24)(x:n+1<=nd){d:Nat}(q:d=u / 10^(nd - 1 - n)%10):Dg u nd o n (vs.set (o+n) (bD (g4 d))):=by
 refine⟨by rw[List.length_set];exact h.1,λw j k=>?_⟩;rcases Nat.eq_or_lt_of_le j with e|e
 .subst e;rw[List.getElem?_set_self (by rw[h.1];omega),q]
 .rw [List.getElem?_set_ne (by omega)];exact h.2 w e k
section
variable {M:Nat->Prop} {w0 w:J} {D:List En} {a:Sl} {b o:Nat} {vs:List aa} {T:aC}
def DX(j:a.a=some ((ab b).add o))(H:LH M w0 w [.c b vs T] D){X:Int}{n:Nat}(h:X=(n:Int))(q:n<a.n)(k:o+n<vs.length){v:aa}{K:J->Prop}(e:∀d,LH M w0 d [.c b (vs.set (o+n) v) T] D->K d):
  fb a X λp=>aP w (p.add (aV X *1)) v K:=by subst h;refine⟨by omega,by omega,?_⟩;rw[j];show aP w (((ab b).add o).add (aV (n:Int) *1)) v K;rw[bH,Nat.mul_one,add_add];exact H.st 0 (o+n) rfl e k
def pair{x n:Nat}{nd c1 c2:Int}{u k:Nat}(e:a.a=some ((ab b).add o))(Q:x<100)(I:nd - c1=((n+1:Nat):Int))(L:nd - c2=(n:Int))(W:n+1<a.n)(h:o+a.n<=24)(d:Dg u a.n o (n+2) vs)(F:x%10=u / 10^(a.n - 1 - (n+1))%10)(G:x / 10=u / 10^(a.n - 1 - n)%10)(H:LH M w0 w [.c b vs T] D){K:J->Prop}(N:∀y q,Dg u a.n o n q->LH M w0 y [.c b q T] D->K y){X:Int}(O:X=((2 *x:Nat):Int)):
  lr w λz=>(0:Int)<=(aj .u32 (X+1))/\∃t:UInt8,vG[aV (aj .u32 (X+1))]? =some t/\(0:Int)<=X/\∃j:UInt8,vG[aV X]? =some j/\fb a (aj .i64 (nd - c1)) λp=>aP z (p.add (aV (aj .i64 (nd - c1)) *1)) (.int .u8 ((t.toNat:Nat):Int)) λA=>
   fb a (aj .i64 (nd - c2)) λp=>aP A (p.add (aV (aj .i64 (nd - c2)) *1)) (.int .u8 ((j.toNat:Nat):Int)) K:=by
 subst O;obtain⟨S,U⟩:=Z2 x Q;have P:aj .u32 (((2 *x:Nat):Int)+1)=((2 *x+1:Nat):Int):=by rw[IntKind.wrap_u32];omega
 refine H.dr λz B=>?_;rw[P,I,L,aQ ((n+1:Nat):Int) (by omega),aQ (n:Int) (by omega),bH,bH];refine⟨by omega,_,U,by omega,_,S,DX e B rfl (by omega) (by rw[d.1];omega) λA C=>DX e C rfl (by omega) (by rw[List.length_set,d.1];omega) λV E=>N V _ ?_ E⟩;exact(d.put h (n:=n+1) (by omega) F).put h (by omega) G
end
def oB{x:Nat}(h:x<4294967296):aj .u32 (x:Int)=(x:Int):=by rw[IntKind.wrap_u32];omega
section
variable {w0 w:J} {a:Sl} {b o u:Nat} {T:aC}
def w7(w0:J)(b o u nd:Nat)(T:aC)(r:Ending)(w':J):Prop:=r=ae (.tuple #[])/\∃d,LH (·=b) w0 w' [.c b d T] []/\Dg u nd o 0 d
def Iz{n:Nat}(A:a.a=some ((ab b).add o))(B:o+a.n<=24)(E:n<=1)(F:n<=a.n)(C:u<10^a.n){vs:List aa}(d:Dg u a.n o n vs)(H:LH (·=b) w0 w [.c b vs T] []):
  j3.F8 a (n:Int) ((u / 10^(a.n - n):Nat):Int) w (w7 w0 b o u a.n T):=by
 refine aF (λk=>?_) (λk=>?_)
 case' refine_2=>
  have q:n=0:=by omega
  subst q;exact⟨rfl,vs,H,d⟩
 have:n=1:=by omega
 subst this;have e:u / 10^(a.n - 1)<10:=by rw[Nat.div_lt_iff_lt_mul (Nat.pow_pos (by omega)),<-Nat.pow_succ',show(a.n - 1).succ=a.n by omega];exact C
 generalize D:u / 10^(a.n - 1)=x at *;have j:(Value.int .u8 (aj .u8 (aj .u32 (48+(x:Int)))))=bD (g4 x):=by
  have y:aj .u32 (48+(x:Int))=((48+x:Nat):Int):=by rw[IntKind.wrap_u32];omega
  have z:aj .u8 ((48+x:Nat):Int)=((48+x:Nat):Int):=by rw[IntKind.wrap_u8];omega
  rw[y,z,bD,BF x e]
 rw[j];refine DX A H (X:=0) (n:=0) rfl (by omega) (by rw[d.1];omega) λG h=>⟨rfl,_,h,d.put B (by omega) ?_⟩;rw[show a.n - 1 - 0=a.n - 1 by omega,D,Nat.mod_eq_of_lt e]
def IA{n:Nat}(h:a.a=some ((ab b).add o))(j:o+a.n<=24)(I:n<4)(q:n<=a.n)(y:u<10^a.n){vs:List aa}(z:Dg u a.n o n vs)(H:LH (·=b) w0 w [.c b vs T] []):
  j3.S9 a (n:Int) ((u / 10^(a.n - n):Nat):Int) w (w7 w0 b o u a.n T):=by
 refine aF (λD=>?_) (λD=>Iz h j (by omega) q y z H);obtain⟨m,rfl⟩:∃m,n=m+2:=⟨n - 2,by omega⟩;have G:u / 10^(a.n - (m+2))<10000:=by rw[Nat.div_lt_iff_lt_mul (Nat.pow_pos (by omega))];refine kr y ?_;rw[show(10000:Nat)=10^4 from rfl,<-Nat.pow_add];exact Nat.pow_le_pow_right (by omega) (by omega)
 have d:=BE (u:=u) q (i:=0) (by omega);have e:=BE (u:=u) q (i:=1) (by omega);have eq:u / 10^(a.n - (m+2)) / 100=u / 10^(a.n - m):=by rw[Nat.div_div_eq_div_mul,show(100:Nat)=10^2 from rfl,<-Nat.pow_add,show a.n - (m+2)+2=a.n - m by omega]
 generalize K:u / 10^(a.n - (m+2))=x at *;rw[Nat.pow_zero,Nat.div_one]at d;rw[Nat.pow_one]at e;have B:ck (x:Int) 100=((x%100:Nat):Int):=rfl;have C:bL (x:Int) 100=((x / 100:Nat):Int):=rfl;dsimp only[j3.xh,av];rw[B,C,oB (by omega),eq];have F:aj .u32 (((x%100:Nat):Int) *2)=((2 *(x%100):Nat):Int):=by rw[IntKind.wrap_u32];omega
 rw[F];refine pair (k:=0) h (x:=x%100) (n:=m) (by omega) (by omega) (by omega) (by omega) j z ?_ ?_ H (λM L E A=>?_) rfl
 .rw [show m+2 - 1 - 0=m+1 by omega]at d;rw[d];omega
 .rw [show m+2 - 1 - 1=m by omega]at e;rw[e];omega
 .rw [show((m+2:Nat):Int) - 2=(m:Int)by omega,aQ _ (by omega)];exact Iz h j (by omega) (by omega) y E A
def Vt(d:a.a=some ((ab b).add o))(e:o+a.n<=24)(B:u<10^a.n)(af:u<2^64):∀(n:Nat),n<=a.n->∀(w:J) (vs:List aa),Dg u a.n o n vs->LH (·=b) w0 w [.c b vs T] []->
  j3.L0 a ((u / 10^(a.n - n):Nat):Int) (n:Int) w (w7 w0 b o u a.n T):=by
 intro n;induction n using Nat.strongRecOn with
 |_ n ih=>
 intro Z w vs L F;have hq:u / 10^(a.n - n)<2^64:=Nat.lt_of_le_of_lt (Nat.div_le_self _ _) af;have W:∀O,n<=O->u / 10^(a.n - n)<10^O:=λO hk=>by rw[Nat.div_lt_iff_lt_mul (Nat.pow_pos (by omega))];refine kr B ?_;rw[<-Nat.pow_add];exact Nat.pow_le_pow_right (by omega) (by omega)
 have P:∀i,i<n->u / 10^(a.n - 1 - (n - 1 - i))%10=u / 10^(a.n - n) / 10^i%10:=λi E=>BE Z E;have step:∀i,i<=n->u / 10^(a.n - n) / 10^i=u / 10^(a.n - (n - i)):=λi E=>by rw[Nat.div_div_eq_div_mul,<-Nat.pow_add,show a.n - n+i=a.n - (n - i)by omega]
 generalize hx:u / 10^(a.n - n)=x at *;refine j3.bC _ _ _ _ _ (aF (λh8=>?_) (λh8=>aF (λh4=>?_) (λh4=>?_)))
 .obtain ⟨m,rfl⟩:∃m,n=m+8:=⟨n - 8,by omega⟩;have e0:ck (x:Int) 100000000=((x%100000000:Nat):Int):=rfl;have e1:bL (x:Int) 100000000=((x / 100000000:Nat):Int):=rfl;have I:∀y:Nat,bL (y:Int) 10000=((y / 10000:Nat):Int):=λ_=>rfl;have K:∀y:Nat,ck (y:Int) 10000=((y%10000:Nat):Int):=λ_=>rfl;have C:∀y:Nat,bL (y:Int) 100=((y / 100:Nat):Int):=λ_=>rfl;have D:∀y:Nat,ck (y:Int) 100=((y%100:Nat):Int):=λ_=>rfl;have h:∀y:Nat,y<100000->aj .u32 ((y:Int) *2)=((2 *y:Nat):Int):=λy hy=>by rw[IntKind.wrap_u32];omega
  have B:aj .u64 ((x / 100000000:Nat):Int)=((x / 100000000:Nat):Int):=by rw[IntKind.wrap_u64];omega
  dsimp only[j3.S1,j3.S2,j3.S3,j3.S4,av];rw[e0,e1,B,oB (x:=x%100000000) (by omega),I,K,oB (x:=x%100000000 / 10000) (by omega),C,D,C,D,oB (x:=x%100000000%10000 / 100) (by omega),oB (x:=x%100000000 / 10000 / 100) (by omega),h _ (by omega),h _ (by omega),h _ (by omega),h _ (by omega)];have g:∀i,i<8->u / 10^(a.n - 1 - (m+(7 - i)))%10=x / 10^i%10:=λi E=>by
   have:=P i (by omega)
   rwa[show m+8 - 1 - i=m+(7 - i)by omega]at this
  have j:=g 0 (by omega);have q:=g 1 (by omega);have z:=g 2 (by omega);have A:=g 3 (by omega);have Q:=g 4 (by omega);have S:=g 5 (by omega);have U:=g 6 (by omega);have V:=g 7 (by omega);simp only[Nat.reducePow,Nat.reduceSub,Nat.div_one,Nat.add_zero]at j q z A Q S U V;refine pair (k:=0) d (x:=x%100000000%10000%100) (n:=m+6) (by omega) (by omega) (by omega) (by omega) e L (by rw[j];omega) (by rw[q];omega) F (λw1 ag M G=>?_) rfl;refine pair (k:=0) d (x:=x%100000000%10000 / 100) (n:=m+4) (by omega) (by omega) (by omega) (by omega) e M (by rw[z];omega) (by rw[A];omega) G (λw2 ah N H=>?_) rfl;refine pair (k:=0) d (x:=x%100000000 / 10000%100) (n:=m+2) (by omega) (by omega) (by omega) (by omega) e N (by rw[Q];omega) (by rw[S];omega) H (λw3 ak ad H3=>?_) rfl;refine pair (k:=0) d (x:=x%100000000 / 10000 / 100) (n:=m) (by omega) (by omega) (by omega) (by omega) e ad (by rw[U];omega) (by rw[V];omega) H3 (λw4 ai ae H4=>?_) rfl;rw[show((m+8:Nat):Int) - 8=(m:Int)by omega,aQ _ (by omega)];have st:=step 8 (by omega);rw[show m+8 - 8=m by omega]at st;simp only[Nat.reducePow]at st;rw[st];exact ih m (by omega) (by omega) w4 ai ae H4
 .obtain ⟨m,rfl⟩:∃m,n=m+4:=⟨n - 4,by omega⟩;have h7:=W 7 (by omega);simp only[Nat.reducePow]at h7;have I:∀y:Nat,bL (y:Int) 10000=((y / 10000:Nat):Int):=λ_=>rfl;have K:∀y:Nat,ck (y:Int) 10000=((y%10000:Nat):Int):=λ_=>rfl;have C:∀y:Nat,bL (y:Int) 100=((y / 100:Nat):Int):=λ_=>rfl;have D:∀y:Nat,ck (y:Int) 100=((y%100:Nat):Int):=λ_=>rfl;have h:∀y:Nat,y<100000->aj .u32 ((y:Int) *2)=((2 *y:Nat):Int):=λy hy=>by rw[IntKind.wrap_u32];omega
  dsimp only[j3.S6,j3.S7,j3.S8,av];rw[oB (x:=x) (by omega),I,K,oB (x:=x / 10000) (by omega),C,D,oB (x:=x%10000 / 100) (by omega),h _ (by omega),h _ (by omega)];have g:∀i,i<4->u / 10^(a.n - 1 - (m+(3 - i)))%10=x / 10^i%10:=λi E=>by
   have:=P i (by omega)
   rwa[show m+4 - 1 - i=m+(3 - i)by omega]at this
  have j:=g 0 (by omega);have q:=g 1 (by omega);have z:=g 2 (by omega);have A:=g 3 (by omega);simp only[Nat.reducePow,Nat.reduceSub,Nat.div_one,Nat.add_zero]at j q z A;refine pair (k:=0) d (x:=x%10000%100) (n:=m+2) (by omega) (by omega) (by omega) (by omega) e L (by rw[j];omega) (by rw[q];omega) F (λw1 ag M G=>?_) rfl;refine pair (k:=0) d (x:=x%10000 / 100) (n:=m) (by omega) (by omega) (by omega) (by omega) e M (by rw[z];omega) (by rw[A];omega) G (λw2 ah N H=>?_) rfl;rw[show((m+4:Nat):Int) - 4=(m:Int)by omega,aQ _ (by omega)];have st:=step 4 (by omega);rw[show m+4 - 4=m by omega]at st;simp only[Nat.reducePow]at st;rw[st];exact IA d e (by omega) (by omega) B N H
 .have ac:=W 4 (by omega);simp only[Nat.reducePow]at ac;rw[oB (x:=x) (by omega),<-hx];exact IA d e (by omega) Z B L F
end
def GL{w:J}{b o u nd c:Nat}{vs:List aa}{T:aC}(h:w.heap[b]? =some (.cells vs.toArray T (0,0)))(y:vs.length=24)(k:o+nd<=24)(q:u<10^nd)(x:u<2^64):
  ai Y Ls #[.slice (some ((ab b).add o)) nd c,.u (u:Int)] w (w7 w b o u nd T):=by
 have d:LH (·=b) w w [.c b vs T] []:=LH.tK _ _ (by intro B j;rw[bT.1 j];exact⟨h,λD z=>by simpa[En.c,En.ob]using z⟩) (by simp[En.c,En.ob]) (by simp)
 refine j3.ok ⟨some ((ab b).add o),nd,c⟩ _ w _ ?_;have:=Vt (a:=⟨some ((ab b).add o),nd,c⟩) (u:=u) (T:=T) rfl k q x nd (bm _) w vs ⟨y,λA C e=>absurd (show A<nd from e) (by omega)⟩ d;rw[Nat.sub_self,Nat.pow_zero,Nat.div_one]at this;exact this
def HD{u nd o:Nat}{vs:List aa}(h:Dg u nd o 0 vs)(e:nd=(b0 u).length)(k:o+nd<=24):(vs.drop o).take nd=(b0 u).map bD:=by
 refine List.ext_getElem? λj=>?_;rw[tf];split
 .rename_i d;rw[te,h.2 j (by omega) d,U4 u,List.map_map,hr,List.getElem?_range (by omega),e];rfl
 .rw [hr,List.getElem?_eq_none (by omega)];rfl
def U5{n:Nat}(d:10<=n)(e:n<100):b0 n=[g4 (n / 10),g4 (n%10)]:=by rw[sc (by omega),nS (by omega)];rfl
def Z0:∀n<10,Xl.extract n (n+1)=ba [g4 n]:=by decide+kernel
def Z1:∀n<100,10<=n->vG.extract (n *2) (n *2+2)=ba [g4 (n / 10),g4 (n%10)]:=by decide+kernel
def NY(m:Nat)(q:m<100)(w:J):ai Y Lu #[.i (m:Int)] w λr k=>r=ae (.string (ba (b0 m)))/\k=w:=by
 refine Jk.ok _ w _ (aF (λj=>?_) (λj=>?_))
 .rw [bb _ (by omega)];refine⟨by omega,?_,by omega,by rw[bH];omega,by rw[bH,bH,nS (by omega)];exact congrArg (λd=>Ending.returned (.string d)) (Z0 m (by omega)),rfl⟩;show((m+1:Nat):Int)<=((36:Nat):Int);omega
 .have e:aj .i64 ((m:Int) *2)=((m *2:Nat):Int):=by rw[aQ _ (by omega)];omega
  have h:aj .i64 (((m *2:Nat):Int)+2)=((m *2+2:Nat):Int):=by rw[aQ _ (by omega)];omega
  rw[e,h];refine⟨by omega,?_,by omega,by rw[bH];omega,by rw[bH,bH,U5 (by omega) (by omega)];exact congrArg (λd=>Ending.returned (.string d)) (Z1 m (by omega) (by omega)),rfl⟩;show((m *2+2:Nat):Int)<=((200:Nat):Int);omega
def Rr{n:Int}(h:a7 n):(n<0->aj .u64 (0 - aj .u64 n)=(n.natAbs:Int))/\(0<=n->aj .u64 n=(n.natAbs:Int))/\n.natAbs<2^64:=by
 refine⟨λd=>?_,λd=>?_,?_⟩
 .rw [IntKind.wrap_u64,IntKind.wrap_u64];omega
 .rw [IntKind.wrap_u64];omega
 .omega
def HA{u:Nat}(h:u<2^64):1<=(b0 u).length/\(b0 u).length<=20/\u<10^(b0 u).length:=by
 refine⟨?_,xK (by omega) (by omega),?_⟩
 .cases d:b0 u with
  |nil=>exact absurd d (BC _)
  |cons c l=>simp
 .have:=Fp (b0 u) (BB u)
  rwa[Fq]at this
abbrev oF:List aa:=List.replicate 24 (.int .u8 0)
def DQ{w:J}{b o n c:Nat}{vs:List aa}{T:aC}{U:List UInt8}(e:w.heap[b]? =some (.cells vs.toArray T (0,0)))(k:U.length=n)(j:n<=c)(h:(vs.drop o).take n=U.map bD):Bytes w ⟨some ((ab b).add o),n,c⟩ U:=by
 refine v' (by simp[k]) j (λh=>by cases h) (λi v d=>⟨(ab b).add o,rfl,?_⟩);rw[<-h,tf]at d;split at d
 .rw [te]at d;rw[add_add];exact cellAt (p:=ab b) e rfl (by simpa using d)
 .cases d
def TE{n:Int}(h:a7 n){w:J}(V:mq.P w):ai Y Lo #[.i n,.i 10] w λr d=>r=ae (.string (ba (cq n)))/\ag w d:=by
 obtain⟨Z,u2,E⟩:=Rr h;have ll:¬(0<=n/\n<100)->vB.S0 n w λr d=>r=ae (.string (ba (cq n)))/\ag w d:=by
  intro ac;obtain⟨d1,d2,O⟩:=HA E;have N:LH F0 w w [] [mq]:=bI _ (by intro K U;rw[bT.1 U];exact V)
  have I:∀e,LH F0 w e [.c w.heap.size oF oz] [mq]->vB.S1 n (ab w.heap.size) (n.natAbs:Int) e λr d=>r=ae (.string (ba (cq n)))/\ag w d:=by
   intro e j;refine(GS (by omega) E e (j.getD 0)).mono ?_;rintro _ w2 ⟨rfl,rfl⟩;have Q:aj .i64 (1+(((b0 n.natAbs).length:Nat):Int))=(((b0 n.natAbs).length+1:Nat):Int):=by rw[aQ _ (by omega)];omega
   refine⟨_,rfl,?_⟩;dsimp only;rw[Q,bH];have S:(if 24=aV 1 then ab w.heap.size else(ab w.heap.size).add (aV 1 *1))=(ab w.heap.size).add 1:=by rw[af (by decide)];rfl
   rw[S];have T:(b0 n.natAbs).length+1 - aV 1=(b0 n.natAbs).length:=by show _ - 1=_;omega
   rw[T];refine⟨by omega,by omega,by omega,by omega,(GL (vs:=oF) (o:=1) (nd:=(b0 n.natAbs).length) (j.get 0) rfl (by omega) O E).mono ?_⟩;rintro _ F ⟨rfl,k,H,B⟩;have z:LH F0 w F [.c w.heap.size k oz] [mq]:=j.gv 0 (.c w.heap.size k oz) rfl (H.fr.mono λah _ W=>by simp[En.c,En.ob,W]) (H.get 0) λb x=>.inl x;have C:=HD B rfl (by omega);refine⟨rfl,aF (λD=>?_) (λD=>?_)⟩
   .have q:cq n=45::b0 n.natAbs:=by unfold cq;rw[aq D]
    refine⟨by omega,by omega,?_⟩;have st:aP F ((ab w.heap.size).add 0) (.int .u8 45) λy=>(0:Int)<=(((b0 n.natAbs).length+1:Nat):Int)/\(((b0 n.natAbs).length+1:Nat):Int)<=((24:Nat):Int)/\∃t:ByteArray,k5 Y (Go.convert c' fX (.slice (some (if 24=0 then ab w.heap.size else(ab w.heap.size).add (0 *1))) ((b0 n.natAbs).length+1 - 0) (24 - 0))) y=.ok (.string t) y/\(λr d=>r=Ending.returned (.string (ba (cq n)))/\ag w d) (ae (.string t)) y:=by
     refine z.st 0 0 rfl (λy G=>⟨by omega,by omega,ba (cq n),?_,rfl,G.fr⟩) (by rw[B.1];omega);have x:Bytes y ⟨some ((ab w.heap.size).add 0),(b0 n.natAbs).length+1,24⟩ (cq n):=DQ (G.get 0) (by rw[q];rfl) (by omega) (by
      rw[q,List.drop_zero];have A:=B.1;cases k with
      |nil=>simp at A
      |cons v k=>
       rw[List.set_cons_zero,List.take_succ_cons,List.map_cons];rw[show List.drop 1 (v::k)=k from rfl]at C;rw[C];rfl)
     exact ma x
    exact st
   .have q:cq n=b0 n.natAbs:=by unfold cq;rw[af D]
    refine⟨by omega,by omega,by omega,by omega,ba (cq n),?_,rfl,z.fr⟩;have x:Bytes F ⟨some ((ab w.heap.size).add 1),(b0 n.natAbs).length,24 - aV 1⟩ (cq n):=DQ (z.get 0) (by rw[q]) (by show _<=24 - 1;omega) (by rw[q];exact C);exact ma x
  have K:(#[.int .u8 0,.int .u8 0,.int .u8 0,.int .u8 0,.int .u8 0,.int .u8 0,.int .u8 0,.int .u8 0,.int .u8 0,.int .u8 0,.int .u8 0,.int .u8 0,.int .u8 0,.int .u8 0,.int .u8 0,.int .u8 0,.int .u8 0,.int .u8 0,.int .u8 0,.int .u8 0,.int .u8 0,.int .u8 0,.int .u8 0,.int .u8 0]:Array aa)=oF.toArray:=rfl;dsimp only[vB.S0,av];rw[K];refine N.nw λe ad j=>?_;refine aF (λM=>?_) (λM=>?_)
  .rw [Z M];exact I e j
  .rw [u2 (by omega)];exact I e j
 refine vB.ok _ _ w _ (a1 rfl (aF (λL=>aF (λA=>?_) (λA=>ll (by omega))) (λL=>ll (by omega))));obtain⟨m,rfl⟩:=Int.eq_ofNat_of_zero_le L;refine(NY m (by omega) w).mono ?_;rintro _ _ ⟨rfl,rfl⟩;refine⟨_,rfl,?_,Fr.refl _ _⟩;unfold cq;rw[af (by omega)];rfl
def Gw{n:Int}(h:a7 n){w:J}(e:mq.P w):ai Y MB #[.i n] w λr d=>r=ae (.string (ba (cq n)))/\ag w d:=by
 refine QF.ok _ w _ ((show ai Y Lq #[.i n] w λr d=>r=ae (.string (ba (cq n)))/\ag w d from Jg.ok _ w _ ((TE h e).mono ?_)).mono ?_)
 .rintro _ j ⟨rfl,f⟩;exact⟨_,rfl,rfl,f⟩
 .rintro _ j ⟨rfl,f⟩;exact⟨_,rfl,rfl,f⟩
abbrev abD(t:Nat)(x:aa):En:=.rd ⟨some (ab 0),1,1⟩ [.iface t x]
abbrev abC(t:Nat)(x:aa):En:=.rd ⟨some (ab 0),1,1⟩ [.iface t x]
def rE(w:J):Prop:=mq.P w/\True
def jv:En:=⟨mq.fp,rE,λe j h d=>⟨mq.st e j h d.1,trivial⟩,λe d=>mq.lt e d.1,mq.nd⟩
def Gq{s:ByteArray}{l:List UInt8}(h:bl s=l)(i:Nat):s[i]? =l[i]?:=by subst h;unfold bl;rw[Array.getElem?_toList];rfl
def U2{m:Int}(h:m<0):cq m=45::b0 m.natAbs:=by unfold cq;grind
def U3{m:Int}(h:¬m<0):cq m=b0 m.natAbs:=by unfold cq;grind
set_option maxHeartbeats 2000000
namespace Hh
noncomputable abbrev t0:=az Y Tryz.f89 [] []
def ok:=aA t0 Ki [.I]
end Hh
namespace Hg
noncomputable abbrev t0:=az Y Tryz.f108 [] []
def ok:=aA t0 XO [.I]
end Hg
namespace qm
noncomputable abbrev t0:=az Y Tryz.f88 [] []
noncomputable def L0:=bf t0 [0,1,1,1,2] [(8,.v [.s]),(9,.v [.I]),(10,.v [.I])]
noncomputable abbrev t1:=be L0
def bC:=bg t1 L0
def ok:=aA t1 Kg [.s]
end qm
namespace r7
noncomputable abbrev t0:=az Y Tryz.f64 [(7,ls [0,1,2,3,5,6,7,8,9,4,10,11])] []
noncomputable def L0:=bf t0 [0,1,1,1,2] [(0,.v [.s]),(4,.v [.I])]
noncomputable abbrev t1:=be L0
def bC:=bg t1 L0
def ok:=aA t1 Kf [.s]
end r7
namespace kS
noncomputable abbrev t0:=az Y Tryz.f65 [] []
abbrev P0:Ps:=[]
noncomputable abbrev S0:=av t0 [0,1,1,1,1] P0
noncomputable abbrev t1:=ay S0
abbrev P1:Ps:=[(0,.v [.st]),(24,.v [.I]),(25,.v [.I])]
noncomputable def L1:=bf t1 [0,1,1,1,2] P1
noncomputable abbrev t2:=be L1
noncomputable abbrev S3:=av t2 [0,1,3,2,2,2,1,1,2] P0
noncomputable abbrev t3:=ay S3
noncomputable abbrev S4:=av t3 [3,2,1,1,2] P1
noncomputable abbrev t4:=ay S4
noncomputable abbrev S2:=av t4 [2,2,2,2,1,1,2] [(0,.v [.st]),(4,.v [.Y]),(24,.v [.I]),(25,.v [.I])]
noncomputable abbrev t5:=ay S2
def fI:=bg t5 L1
def ok:=aA t5 LG [.st]
end kS
namespace tc
noncomputable abbrev t0:=az Y Tryz.f39 [] [3]
abbrev P0:Ps:=[]
noncomputable abbrev bn:=av t0 [0,1,1,1,1] P0
noncomputable abbrev t1:=ay bn
noncomputable def g1:=bf t1 [0,1,1,1,4] [(1,.v [.I]),(2,.v [.I]),(3,.l [.I,.I,.I,.s,.st,.s,.s] e4),(34,.v [.s]),(35,.v [.I]),(36,.v [.I])]
noncomputable abbrev t2:=be g1
noncomputable abbrev cM:=av t2 [0,1,2,2,2,2,1,1,4] P0
noncomputable abbrev t3:=ay cM
noncomputable abbrev fK:=av t3 [0,1,1,1,5] P0
noncomputable abbrev t4:=ay fK
noncomputable abbrev lg:=av t4 [6] P0
noncomputable abbrev t5:=ay lg
def jT:=bg t5 g1
noncomputable abbrev bM:=av t5 [4] [(1,.v [.I]),(2,.v [.I]),(3,.l [.I,.I,.I,.s,.st,.s,.s] e4)]
noncomputable abbrev t6:=ay bM
def aB:=aA t6 LR [.a 7,.I,.I,.I,.s,.st,.s,.s,.I,.I]
end tc
namespace pa
noncomputable abbrev t0:=az Y Tryz.f38 [] [1,8]
noncomputable def a2:=bf t0 [0,1,1,1,2] [(1,.l [.s,.s,.s,.s] g9),(18,.v [.s]),(19,.v [.I]),(20,.v [.I])]
noncomputable abbrev t1:=be a2
noncomputable abbrev bM:=av t1 [0,1,2,2,2,2,1,1,2] []
noncomputable abbrev t2:=ay bM
noncomputable def g1:=bf t2 [0,1,1,1,5] [(45,.v [.s]),(46,.v [.I]),(47,.v [.I])]
noncomputable abbrev t3:=be g1
def jT:=bg t3 g1
def bw:=bg t3 a2
def aB:=aA t3 LQ [.a 4,.s,.s,.s,.s]
end pa
namespace nh
noncomputable abbrev t0:=az Y Tryz.f18 [] [1,4,7]
noncomputable abbrev bn:=av t0 [0,1,1,1,1] []
noncomputable abbrev t1:=ay bn
noncomputable def cm:=bf t1 [0,1,1,1,2] [(1,.l [.s,.s] e3),(20,.v [.s]),(21,.v [.I]),(22,.v [.I])]
noncomputable abbrev t2:=be cm
noncomputable def g1:=bf t2 [0,1,1,1,3] [(1,.l [.s,.s] e3),(33,.v [.s]),(34,.v [.I]),(35,.v [.I])]
noncomputable abbrev t3:=be g1
def jT:=bg t3 g1
def dB:=bg t3 cm
def aB:=aA t3 CX [.a 2,.s,.s]
end nh
namespace s7
noncomputable abbrev t0:=az Y Tryz.f51 [] []
noncomputable def L0:=bf t0 [0,1,1,1,1] [(0,.v [.s]),(7,.v [.s]),(8,.v [.I]),(9,.v [.I])]
noncomputable abbrev t1:=be L0
noncomputable abbrev S1:=av t1 [2,2,2,2,1,1,1] [(0,.v [.s]),(6,.v [.st]),(7,.v [.s]),(8,.v [.I]),(9,.v [.I])]
noncomputable abbrev t2:=ay S1
def bC:=bg t2 L0
def ok:=aA t2 LD [.s,.s]
end s7
namespace s9
noncomputable abbrev t0:=az Y Tryz.f52 [] []
noncomputable def L0:=bf t0 [0,1,1,1,2] [(3,.v [.s]),(7,.v [.s]),(8,.v [.I]),(9,.v [.I])]
noncomputable abbrev t1:=be L0
noncomputable abbrev S1:=av t1 [2,2,2,2,1,1,2] [(3,.v [.s]),(5,.v [.I]),(7,.v [.s]),(8,.v [.I]),(9,.v [.I])]
noncomputable abbrev t2:=ay S1
def bC:=bg t2 L0
def ok:=aA t2 LJ [.s]
end s9
namespace s8
noncomputable abbrev t0:=az Y Tryz.f54 [(7,ls [0,1,2,3,4,5,6,8,9,11,12,13,15,16,18,19,7,10,14,17,20,21,22,23])] [6]
noncomputable def a2:=bf t0 [0,1,1,1,1] [(0,.v [.s]),(8,.v [.s]),(9,.v [.I]),(10,.v [.I])]
noncomputable abbrev t1:=be a2
noncomputable abbrev bM:=av t1 [3,2,2,2,1,1,1] [(0,.v [.s]),(6,.l [.I,.I,.I,.s,.st,.s,.s] e4),(7,.v [.st]),(8,.v [.s]),(9,.v [.I]),(10,.v [.I])]
noncomputable abbrev t2:=ay bM
def bw:=bg t2 a2
def aB:=aA t2 LF [.s,.s]
end s8
namespace YR
noncomputable abbrev t0:=az Y Tryz.f53 [(5,ls [0,1,2,3,4,5,6,7,8,9])] []
noncomputable def L0:=bf t0 [0,1,1,1,2] [(3,.v [.s]),(10,.v [.s]),(11,.v [.I]),(12,.v [.I])]
noncomputable abbrev t1:=be L0
end YR
namespace DU
noncomputable abbrev t0:=az Y Tryz.f32 [(9,ls [0,1,2,4,5,7,3,6,8,9,10,11])] [1,7]
noncomputable def a2:=bf t0 [0,1,1,1,3] [(1,.l [.s,.s] e3),(5,.v [.s]),(16,.v [.s]),(17,.v [.I]),(18,.v [.I])]
noncomputable abbrev t1:=be a2
def bw:=bg t1 a2
def aB:=aA t1 LB [.a 2,.s,.s]
end DU
def hq(s:ct):List UInt8:=ym s++[10]
abbrev jk:En:=.rd ⟨some (ab 0),6,6⟩ (rj.map mA)
abbrev wB(i:Nat):ByteArray:=ba (rj.getD i [])
def abm{w:J}(h:jk.P w)(i:Nat)(V:i<6):w.cell? ((Addr.mk 0 0 none).add i)=some (.string (wB i)):=by
 have d:∀i<6,(rj.map mA)[i]? =some (.string (wB i)):=by
  intro i V
  match i,V with
  |0,_=>rfl
  |1,_=>rfl
  |2,_=>rfl
  |3,_=>rfl
  |4,_=>rfl
  |5,_=>rfl
 obtain⟨p,j,e⟩:=(show Rd w _ _ from h).2.2.2 i _ (d i V);cases j;exact e
structure Sp where
 x:ct
 p:Sl
 l:Sl
 h:Sl
namespace Sp
def c(d:Sp):List aa:=[.i d.x.kind,.i d.x.node,.i d.x.du,d.p.v,.string d.x.nm,d.l.v,d.h.v]
abbrev v(d:Sp):aa:=.agg #[.i d.x.kind,.i d.x.node,.i d.x.du,d.p.v,.string d.x.nm,d.l.v,d.h.v]
abbrev pE(d:Sp):En:=.rd d.p (d.x.params.map a')
abbrev lE(d:Sp):En:=.rd d.l (d.x.bY.map a')
abbrev hE(d:Sp):En:=.rd d.h (d.x.hints.map a')
end Sp
namespace HS
noncomputable abbrev t0:=az Y Tryz.f13 [] []
def ok:=aA t0 CN [.s,.I]
end HS
namespace HX
noncomputable abbrev t0:=az Y Tryz.f48 [] []
def ok:=aA t0 Kt [.I]
end HX
namespace u9
noncomputable abbrev t0:=az Y Tryz.f47 [] []
noncomputable def L0:=bf t0 [0,2,2] [(0,.v [.U]),(3,.v [.s])]
noncomputable abbrev t1:=be L0
def bC:=bg t1 L0
def ok:=aA t1 Ks [.U]
end u9
namespace HV
noncomputable abbrev t0:=az Y Tryz.f28 [] []
def ok:=aA t0 Kp [.I]
end HV
namespace sv
noncomputable abbrev t0:=az Y Tryz.f50 [] []
noncomputable def L0:=bf t0 [0,1,1,1,2] [(0,.v [.s]),(3,.v [.s]),(4,.v [.I])]
noncomputable abbrev t1:=be L0
def bC:=bg t1 L0
def ok:=aA t1 Kq [.s]
end sv
namespace HW
noncomputable abbrev t0:=az Y Tryz.f29 [] []
def ok:=aA t0 Kr [.s]
end HW
namespace vi
noncomputable abbrev t0:=az Y Tryz.f49 [] [5]
noncomputable def a2:=bf t0 [0,1,1,1,2] [(0,.v [.s]),(3,.v [.s]),(4,.v [.I])]
noncomputable abbrev t1:=be a2
def bw:=bg t1 a2
def aB:=aA t1 KW [.s]
end vi
namespace HU
noncomputable abbrev t0:=az Y Tryz.f17 [] []
noncomputable abbrev S0:=av t0 [0,1,1,1,1] []
noncomputable abbrev t1:=ay S0
def ok:=aA t1 yw [.s,.I,.I]
end HU
namespace vm
noncomputable abbrev t0:=az Y Tryz.f31 [(6,ls [0,1,2,5,6,3,4,7,8,9]),(7,ls [0,1,2,5,6,3,4,7,8,9]),(8,ls [0,1,2,6,7,3,4,5,8,9,10])] [5]
noncomputable def a2:=bf t0 [0,1,1,1,2] [(0,.v [.s]),(3,.v [.s]),(4,.v [.I])]
noncomputable abbrev t1:=be a2
def bw:=bg t1 a2
def aB:=aA t1 Lk [.s]
end vm
namespace Io
noncomputable abbrev t0:=az Y Tryz.f30 [(2,ls [0,1,2,5,6,3,4,7,8,9])] [1]
def aB:=aA t0 Lg [.a 4,.s,.s,.s,.s]
end Io
namespace vl
noncomputable abbrev t0:=az Y Tryz.f10 [] [1]
noncomputable def a2:=bf t0 [0,1,1,1,2] [(1,.l [.s,.s] e3),(3,.v [.s]),(4,.v [.I])]
noncomputable abbrev t1:=be a2
def bw:=bg t1 a2
def aB:=aA t1 Lf [.a 2,.s,.s]
end vl
namespace Ip
noncomputable abbrev t0:=az Y Tryz.f11 [(1,ls [0,2,1,3,4,5])] [2,3]
def aB:=aA t0 Lh [.a 2,.s,.s,.a 2,.s,.s]
end Ip
namespace gb
noncomputable def C0:Code:=(Tryz.f15.body).getD .skip
noncomputable def C1:=C0.sn
noncomputable def C2:=C1.sn
noncomputable def C3:=C2.fs
noncomputable def C4:=C3.sn
noncomputable def C5:=C4.fs
noncomputable def C6:=C5.fs
noncomputable def C7:=C2.sn
abbrev Q0(R:aH):hF:=(Exit.then (fx Y (cx 141) C7 (bodyPost Y Tryz.f15 R)) (bodyPost Y Tryz.f15 R))
abbrev Q1(R:aH):hF:=(Exit.inBlock 0 (Q0 R))
def L0(e:Sl)(h:Int)(t4 j:Addr)(d:Int)(w:J)(R:aH):Prop:=LP Y (cx 141) C6 (Q1 R) [(0,e.v),(1,.i h),(4,.pointer (some t4)),(5,.pointer (some j)),(6,.i d)] w
def oK(E:Env)(w:J)(R:aH):Prop:=W.asSlice (Env.get? E 0) λe=>W.asInt .i64 (Env.get? E 1) λh=>W.cw (Env.get? E 4) λk=>W.cw (Env.get? E 5) λj=>W.asInt .i64 (Env.get? E 6) λd=>L0 e h k j d w R
def rJ:Ax Y 141 oK C6 Q1:=by intro D C K e;obtain⟨F,x,h⟩:=W.qb e;obtain⟨G,y,j⟩:=W.gM h;obtain⟨I,z,k⟩:=W.cG j;obtain⟨H,A,q⟩:=W.cG k;obtain⟨E,B,w⟩:=W.gM q;intro a d;exact w a (d.cons x (d.cons y (d.cons z (d.cons A (d.cons B d.nil)))))
noncomputable def C8:=C6.sn
noncomputable def C9:=C8.sn
abbrev Q2(R:aH):hF:=(Exit.then (l1 Y (cx 141) C6 (Q1 R)) (Q1 R))
abbrev S1(e:Sl)(h:Int)(t4 j:Addr)(d:Int)(w:J)(R:aH):Prop:=
 L0 e h t4 j (aj .i64 (d+1)) w R
def pS(E:Env)(w:J)(R:aH):Prop:=W.asSlice (Env.get? E 0) λe=>W.asInt .i64 (Env.get? E 1) λh=>W.cw (Env.get? E 4) λk=>W.cw (Env.get? E 5) λj=>W.asInt .i64 (Env.get? E 6) λd=>S1 e h k j d w R
def Ar:pV Y 141 pS C9 Q2:=by intro h e j k;obtain⟨L,C,x⟩:=W.qb k;obtain⟨M,D,y⟩:=W.gM x;obtain⟨O,F,z⟩:=W.cG y;obtain⟨N,G,A⟩:=W.cG z;obtain⟨I,H,B⟩:=W.gM A;exact λa d=>WP.at (E:=[(0,L.v),(1,.i M),(4,.pointer (some O)),(5,.pointer (some N)),(6,.i I)]) (rg C9 (K:=λe j=>oK e j h) (by kernel_rfl) (mp B) λ_ _ a q w=>rJ h _ _ w a q) (d.cons C (d.cons D (d.cons F (d.cons G (d.cons H d.nil)))))
noncomputable def lX:=C8.fs
noncomputable def jQ:=lX.fs
noncomputable def mH:=C7.fs
noncomputable def nD:=mH.sn
noncomputable def nE:=nD.fs
noncomputable def jR:=nE.fs
noncomputable def jS:=C7.sn
abbrev Q3(R:aH):hF:=(Exit.then (fx Y (cx 141) jS (bodyPost Y Tryz.f15 R)) (bodyPost Y Tryz.f15 R))
abbrev Q4(R:aH):hF:=(Exit.inBlock 2 (Q3 R))
def L2(e:Sl)(h:Int)(t4 j:Addr)(d:Int)(w:J)(R:aH):Prop:=LP Y (cx 141) jR (Q4 R) [(0,e.v),(1,.i h),(4,.pointer (some t4)),(5,.pointer (some j)),(7,.i d)] w
def Ap(E:Env)(w:J)(R:aH):Prop:=W.asSlice (Env.get? E 0) λe=>W.asInt .i64 (Env.get? E 1) λh=>W.cw (Env.get? E 4) λk=>W.cw (Env.get? E 5) λj=>W.asInt .i64 (Env.get? E 7) λd=>L2 e h k j d w R
def FV:Ax Y 141 Ap jR Q4:=by intro D C K e;obtain⟨F,x,h⟩:=W.qb e;obtain⟨G,y,j⟩:=W.gM h;obtain⟨I,z,k⟩:=W.cG j;obtain⟨H,A,q⟩:=W.cG k;obtain⟨E,B,w⟩:=W.gM q;intro a d;exact w a (d.cons x (d.cons y (d.cons z (d.cons A (d.cons B d.nil)))))
noncomputable def mI:=jR.sn
noncomputable def mJ:=mI.fs
noncomputable def mK:=mJ.fs
noncomputable def kv:=mK.sn
noncomputable def k7:=kv.sn
noncomputable def oI:=k7.sn
noncomputable def ky:=oI.sn
noncomputable def ru:=ky.sn
noncomputable def rv:=mI.sn
abbrev Q5(R:aH):hF:=(Exit.then (fx Y (cx 141) rv (Exit.then (l1 Y (cx 141) jR (Q4 R)) (Q4 R))) (Exit.then (l1 Y (cx 141) jR (Q4 R)) (Q4 R)))
abbrev Q6(R:aH):hF:=(Exit.inBlock 3 (Q5 R))
abbrev S6(j:Sl)(k:Int)(t4 d:Addr)(h:Int)(q:Addr)(w:J)(R:aH):Prop:=
 ∃t135:Sl,w.cell? (d.add 1)=some (t135.v)/\
 WR w q λx y z A B C D=>c9 w (.cells #[.i x,.i y,.i z,A.v,.string B,C.v,D.v] e4) λE=>
 ∃(t138:Sl) (e:J),k5 Y (dY #[tU,tU] tU #[t135.v,.slice (some (nb w)) 1 1]) E=.ok (t138.v) e/\aP e (d.add 1) (t138.v) λF=>
 L2 j k t4 d (aj .i64 (h+1)) F R
def pU(E:Env)(w:J)(R:aH):Prop:=W.asSlice (Env.get? E 0) λe=>W.asInt .i64 (Env.get? E 1) λh=>W.cw (Env.get? E 4) λq=>W.cw (Env.get? E 5) λj=>W.asInt .i64 (Env.get? E 7) λd=>W.cw (Env.get? E 9) λk=>S6 e h q j d k w R
def uq:pV Y 141 pU ru Q6:=by intro q e h w;obtain⟨N,D,x⟩:=W.qb w;obtain⟨O,F,y⟩:=W.gM x;obtain⟨S,G,z⟩:=W.cG y;obtain⟨P,H,A⟩:=W.cG z;obtain⟨M,I,B⟩:=W.gM A;obtain⟨Q,L,C⟩:=W.cG B;exact λa d=>WP.at (E:=[(0,N.v),(1,.i O),(4,.pointer (some S)),(5,.pointer (some P)),(7,.i M),(9,.pointer (some Q))]) (rg ru (K:=λe h=>oj Y rv (λe h=>Ap e h q) e h) (by kernel_rfl) (mp C) λ_ _ a j k=>nx j (rg rv (by kernel_rfl) k λ_ _ a j k=>FV q _ _ k a j)) (d.cons D (d.cons F (d.cons G (d.cons H (d.cons I (d.cons L d.nil))))))
noncomputable def ry:=ky.fs
noncomputable def rz:=ry.sn
noncomputable def rA:=rz.fs
abbrev Q7(R:aH):hF:=(Exit.then (fx Y (cx 141) ru (Exit.inBlock 3 (Q5 R))) (Exit.inBlock 3 (Q5 R)))
noncomputable def pM:=rA.sn
noncomputable def pN:=pM.sn
noncomputable def rB:=pN.fs
noncomputable def z7:=pN.sn
abbrev S5(q:Sl)(x:Int)(t4 y:Addr)(e h:Int)(d:Addr)(w:J)(R:aH):Prop:=
 lr w λj=>∃t113:Sl,j.cell? (d.add 6)=some (t113.v)/\
 e≠0/\c9 j (.cells #[.i (ck (aj .i64 (bL h 8)) e)] bN) λz=>
 z.cell? (d.add 6)=some (t113.v)/\∃(t119:Sl) (A:J),k5 Y (dY #[ix,ix] ix #[t113.v,.slice (some (nb j)) 1 1]) z=.ok (t119.v) A/\aP A (d.add 6) (t119.v) λB=>
 bh (ak ((ck (aj .i64 (bL h 64)) 3)>0)) (lr B λk=>∃t126:Sl,k.cell? (d.add 6)=some (t126.v)/\
 e≠0/\c9 k (.cells #[.i (ck (aj .i64 (bL h 256)) e)] bN) λC=>
 C.cell? (d.add 6)=some (t126.v)/\∃(t132:Sl) (D:J),k5 Y (dY #[ix,ix] ix #[t126.v,.slice (some (nb k)) 1 1]) C=.ok (t132.v) D/\aP D (d.add 6) (t132.v) λE=>
 S6 q x t4 y e d E R) (S6 q x t4 y e d B R)
def uo(E:Env)(w:J)(R:aH):Prop:=W.asSlice (Env.get? E 0) λe=>W.asInt .i64 (Env.get? E 1) λh=>W.cw (Env.get? E 4) λx=>W.cw (Env.get? E 5) λk=>W.asInt .i64 (Env.get? E 7) λd=>W.asInt .i64 (Env.get? E 8) λj=>W.cw (Env.get? E 9) λq=>S5 e h x k d j q w R
def Au:pV Y 141 uo rA Q7:=by intro k e j w;obtain⟨P,F,x⟩:=W.qb w;obtain⟨Q,G,y⟩:=W.gM x;obtain⟨V,H,z⟩:=W.cG y;obtain⟨T,I,A⟩:=W.cG z;obtain⟨O,L,B⟩:=W.gM A;obtain⟨S,M,C⟩:=W.gM B;obtain⟨U,N,D⟩:=W.cG C;exact λa h=>WP.at (E:=[(0,P.v),(1,.i Q),(4,.pointer (some V)),(5,.pointer (some T)),(7,.i O),(8,.i S),(9,.pointer (some U))]) (sd rA (K:=λe j=>dJ Y pM (λe j=>gB (Env.val e (.tmp 124)) (BD Y rB [0,1,2,3,4,5,6,7,8,9] (λe j=>pU e j k) e j) (pU e j k)) e j) (l:=[0,1,2,3,4,5,6,7,8,9]) (by kernel_rfl) (mp D) λ_ _ d=>(sr pM d λ_ _ d=>(cn pN d (λd=>(dg rB (by kernel_rfl) d λ_ _ a q d=>nx q (uq k _ _ d))) (λd=>(sk z7 λa q=>nx q (uq k _ _ d)))))) (h.cons F (h.cons G (h.cons H (h.cons I (h.cons L (h.cons M (h.cons N h.nil)))))))
noncomputable def z8:=rz.sn
abbrev S4(h:Sl)(j:Int)(t4 k:Addr)(e q:Int)(d:Addr)(w:J)(R:aH):Prop:=
 bh (ak (e>0)) (∃t104:Int,w.cell? (d.add 0)=some (.i t104)/\
 bh (t104==5) (S5 h j t4 k e q d w R) (∃t108:Int,w.cell? (d.add 0)=some (.i t108)/\
 bh (t108==4) (S5 h j t4 k e q d w R) (S6 h j t4 k e d w R))) (S6 h j t4 k e d w R)
def oL(E:Env)(w:J)(R:aH):Prop:=W.asSlice (Env.get? E 0) λe=>W.asInt .i64 (Env.get? E 1) λh=>W.cw (Env.get? E 4) λx=>W.cw (Env.get? E 5) λk=>W.asInt .i64 (Env.get? E 7) λd=>W.asInt .i64 (Env.get? E 8) λj=>W.cw (Env.get? E 9) λq=>S4 e h x k d j q w R
def pT:pV Y 141 oL ry Q7:=by intro j h k q;obtain⟨P,F,x⟩:=W.qb q;obtain⟨Q,G,y⟩:=W.gM x;obtain⟨V,H,z⟩:=W.cG y;obtain⟨T,I,A⟩:=W.cG z;obtain⟨O,L,B⟩:=W.gM A;obtain⟨S,M,C⟩:=W.gM B;obtain⟨U,N,D⟩:=W.cG C;exact λa d=>WP.at (E:=[(0,P.v),(1,.i Q),(4,.pointer (some V)),(5,.pointer (some T)),(7,.i O),(8,.i S),(9,.pointer (some U))]) (sr ry (K:=λh k=>gB (Env.val h (.tmp 111)) (uo h k j) (pU h k j)) (mp D) λ_ _ e=>(cn rz e (λe=>(Au j _ _ e)) (λe=>(sk z8 λa w=>nx w (uq j _ _ e))))) (d.cons F (d.cons G (d.cons H (d.cons I (d.cons L (d.cons M (d.cons N d.nil)))))))
noncomputable def z9:=oI.fs
abbrev Q8(R:aH):hF:=(Exit.then (fx Y (cx 141) ky (Exit.inBlock 3 (Q5 R))) (Exit.inBlock 3 (Q5 R)))
noncomputable def FH:=z9.sn
noncomputable def z':=FH.fs
noncomputable def Aa:=z'.sn
noncomputable def FI:=Aa.fs
noncomputable def Ab:=Aa.sn
noncomputable def Ac:=Ab.sn
noncomputable def Ae:=Ac.fs
noncomputable def FK:=Ae.sn
noncomputable def Af:=Ac.sn
noncomputable def Ah:=Af.sn
noncomputable def Ai:=Ah.fs
noncomputable def Aj:=Ai.sn
noncomputable def FL:=Aj.fs
noncomputable def FN:=Aj.sn
noncomputable def R4:=Ah.sn
abbrev S3(k:Sl)(q:Int)(t4 h:Addr)(j d:Int)(e:Addr)(w:J)(R:aH):Prop:=
 ∃t68:Int,w.cell? (e.add 0)=some (.i t68)/\
 bh (t68==1) (c9 w (.cells #[.string (bG #[97]),.string (bG #[98]),.string (bG #[99]),.string (bG #[100,100])] fX) λx=>
 (0:Int)<=(ck d 4)/\(ck d 4)<((4:Nat):Int)/\dM (some (nb w)) λz=>∃t75:ByteArray,x.cell? (z.add (aV (ck d 4) *1))=some (.string t75)/\
 aP x (e.add 4) (.string t75) λA=>
 S4 k q t4 h j d e A R) (bh (t68==2) (aP w (e.add 2) (.i (ck d 2)) λy=>
 c9 y (.cells #[.i (ck (aj .i64 (bL d 2)) 3)] bN) λB=>
 aP B (e.add 3) (.slice (some (nb y)) 1 1) λC=>
 S4 k q t4 h j d e C R) (bh (t68==4) (∃t90:Sl,w.cell? (h.add 0)=some (t90.v)/\
 bh (((t90.n:Nat):Int)==0) (aP w (e.add 0) (.i 0) λD=>
 S4 k q t4 h j d e D R) (∃t96:Sl,w.cell? (h.add 0)=some (t96.v)/\
 ((t96.n:Nat):Int)≠0/\aP w (e.add 1) (.i (ck d ((t96.n:Nat):Int))) λE=>
 S4 k q t4 h j d e E R)) (S4 k q t4 h j d e w R)))
def um(E:Env)(w:J)(R:aH):Prop:=W.asSlice (Env.get? E 0) λe=>W.asInt .i64 (Env.get? E 1) λh=>W.cw (Env.get? E 4) λx=>W.cw (Env.get? E 5) λk=>W.asInt .i64 (Env.get? E 7) λd=>W.asInt .i64 (Env.get? E 8) λj=>W.cw (Env.get? E 9) λq=>S3 e h x k d j q w R
def As:pV Y 141 um z9 Q8:=by intro j e h w;obtain⟨P,F,x⟩:=W.qb w;obtain⟨Q,G,y⟩:=W.gM x;obtain⟨V,H,z⟩:=W.cG y;obtain⟨T,I,A⟩:=W.cG z;obtain⟨O,L,B⟩:=W.gM A;obtain⟨S,M,C⟩:=W.gM B;obtain⟨U,N,D⟩:=W.cG C;exact λa q=>WP.at (E:=[(0,P.v),(1,.i Q),(4,.pointer (some V)),(5,.pointer (some T)),(7,.i O),(8,.i S),(9,.pointer (some U))]) (sr z9 (K:=λe h=>dJ Y z' (λe h=>gB (Env.val e (.tmp 69)) (oj Y FI (λe h=>oL e h j) e h) (dJ Y Ab (λe h=>gB (Env.val e (.tmp 77)) (dJ Y Ae (λe h=>oj Y FK (λe h=>oL e h j) e h) e h) (dJ Y Af (λe h=>gB (Env.val e (.tmp 87)) (dJ Y Ai (λe h=>gB (Env.val e (.tmp 92)) (oj Y FL (λe h=>oL e h j) e h) (oj Y FN (λe h=>oL e h j) e h)) e h) (oL e h j)) e h)) e h)) e h) (mp D) λ_ _ d=>(bk FH 4 (by kernel_rfl) (sr z' d λ_ _ d=>(cn Aa d (λd=>(rg FI (by kernel_rfl) d λ_ _ a k d=>nx k (sq ky (pT j _ _ d)))) (λd=>(sr Ab d λ_ _ d=>(cn Ac d (λd=>(sr Ae d λ_ _ d=>(rg FK (by kernel_rfl) d λ_ _ a k d=>nx k (sq ky (pT j _ _ d))))) (λd=>(sr Af d λ_ _ d=>(cn Ah d (λd=>(sr Ai d λ_ _ d=>(cn Aj d (λd=>(rg FL (by kernel_rfl) d λ_ _ a k d=>nx k (sq ky (pT j _ _ d)))) (λd=>(rg FN (by kernel_rfl) d λ_ _ a k d=>nx k (sq ky (pT j _ _ d))))))) (λd=>(sk R4 λa k=>nx k (sq ky (pT j _ _ d)))))))))))))) (q.cons F (q.cons G (q.cons H (q.cons I (q.cons L (q.cons M (q.cons N q.nil)))))))
abbrev Q9(R:aH):hF:=(bodyPost Y Tryz.f15 R)
noncomputable def R5:=jS.sn
abbrev S7(t4 e:Addr)(w:J)(R:aH):Prop:=
 JE w e λk q=>aP w t4 (k.v) λx=>
 aP x (t4.add 1) (q.v) λd=>
 JE d t4 λh j=>R (ae (.agg #[h.v,j.v])) d
def ur(E:Env)(w:J)(R:aH):Prop:=W.cw (Env.get? E 4) λe=>W.cw (Env.get? E 5) λd=>S7 e d w R
def Av:pV Y 141 ur jS Q9:=by intro j h e k;obtain⟨C,z,x⟩:=W.cG k;obtain⟨B,A,y⟩:=W.cG x;exact λa d=>WP.at (E:=[(4,.pointer (some C)),(5,.pointer (some B))]) (sr jS (K:=λh e=>kV Y Tryz.f15 h e (λv=>j (ae v) e)) (mp y) λ_ _ w=>(rt R5 λa q=>wh q w)) (d.cons z (d.cons A d.nil))
noncomputable def Ak:=jR.fs
noncomputable def Al:=Ak.sn
noncomputable def R6:=Al.fs
noncomputable def R7:=Al.sn
def k9(j:Sl)(q:Int)(t4 k:Addr)(e:Int)(w:J)(R:aH)(h:bh (ak (e<((j.n:Nat):Int))) (bh (ak (e<q)) (fb j e λB=>∃t50:Int,w.cell? (B.add (aV e *1))=some (.i t50)/\
 qj sR #[.i t50,.i 1073741824] w λt51 A=>c9 A (.cells #[.i 2,.i (-2),.i 3,.i (-3)] bN) λy=>
 (0:Int)<=(ck (aj .i64 (bL t51 18)) 4)/\(ck (aj .i64 (bL t51 18)) 4)<((4:Nat):Int)/\dM (some (nb A)) λC=>∃t62:Int,y.cell? (C.add (aV (ck (aj .i64 (bL t51 18)) 4) *1))=some (.i t62)/\
 c9 y (.cells #[.i t62] bN) λz=>
 c9 z (.cells #[.i 0,.i 0,.i 0,.slice none 0 0,.s0,.slice none 0 0,.slice none 0 0] e4) λF=>
 aaf F (nb z) (.i (ck t51 6)) (.i (ck (aj .i64 (bL t51 6)) 3)) (.i 0) (.slice none 0 0) (.s0) (.slice (some (nb y)) 1 1) (.slice none 0 0) λD=>S3 j q t4 k e (aj .i64 (bL t51 72)) (nb z) D R) (S7 t4 k w R)) (S7 t4 k w R)):L2 j q t4 k e w R:=
 LP.step (n:=(cx 141)) (c:=jR) (E:=[(0,j.v),(1,.i q),(4,.pointer (some t4)),(5,.pointer (some k)),(7,.i e)]) (w:=w) (sq jR (sr Ak (show(λ(E:Env) (w:J)=>dJ Y Ak (λE w=>gB (Env.val E (.tmp 44)) (dJ Y mK (λE w=>dJ Y kv (λE w=>dJ Y k7 (λE w=>um E w R) E w) E w) E w) (ur E w R)) E w) [(0,j.v),(1,.i q),(4,.pointer (some t4)),(5,.pointer (some k)),(7,.i e)] w from mp h) λ_ _ d=>(cn Al d (λd=>(sk R6 λa x=>nx x (sq mI (bk mJ 3 (by kernel_rfl) (sr mK d λ_ _ d=>(sr kv d λ_ _ d=>(sr k7 d λ_ _ d=>(sq oI (As R _ _ d))))))))) (λd=>(xt R7 2 (by kernel_rfl) λa x=>nx x (Av R _ _ d))))))
noncomputable def Am:=C6.fs
noncomputable def An:=Am.sn
noncomputable def R8:=An.fs
noncomputable def R9:=An.sn
def bC(j:Sl)(q:Int)(t4 x:Addr)(e:Int)(w:J)(R:aH)(h:qj yw #[j.v,.i 0,.i 3] w λt13 y=>bh (ak (e<t13)) (sK Y jQ (λE w=>pS E w R) [(14,.bool (ak (e<t13))),(13,.i t13),(12,j.v),(11,.i e),(0,j.v),(1,.i q),(4,.pointer (some t4)),(5,.pointer (some x)),(6,.i e)] y) (L2 j q t4 x 0 y R)):L0 j q t4 x e w R:=
 LP.step (n:=(cx 141)) (c:=C6) (E:=[(0,j.v),(1,.i q),(4,.pointer (some t4)),(5,.pointer (some x)),(6,.i e)]) (w:=w) (sq C6 (sr Am (show(λ(E:Env) (w:J)=>dJ Y Am (λE w=>gB (Env.val E (.tmp 14)) (sK Y jQ (λE w=>pS E w R) E w) (dJ Y mH (λE w=>Ap E w R) E w)) E w) [(0,j.v),(1,.i q),(4,.pointer (some t4)),(5,.pointer (some x)),(6,.i e)] w from mp h) λ_ _ d=>(cn An d (λd=>(sk R8 λa k=>nx k (sq C8 (bk lX 1 (by kernel_rfl) (ig jQ (by kernel_rfl) d λ_ _ a k d=>nx k (Ar R _ _ d)))))) (λd=>(xt R9 0 (by kernel_rfl) λa k=>nx k (sq C7 (sr mH d λ_ _ d=>(bk nD 2 (by kernel_rfl) (lp nE (by kernel_rfl) (FV R _ _ d))))))))))
def ok(e:Sl)(j:Int)(w:J)(R:aH)(h:c9 w (.cells #[.slice none 0 0,.slice none 0 0] e3) λk=>
 c9 k (.cells #[.slice none 0 0,.slice none 0 0] e3) λq=>
 aP q (nb k) (.slice none 0 0) λx=>
 aP x ((nb k).add 1) (.slice none 0 0) λy=>
 L0 e j (nb w) (nb k) 0 y R):ai Y Lj #[e.v,.i j] w R:=
 uQ (R:=R) (fn:=Tryz.f15) (c:=C0) (args:=[e.v,.i j]) (by kernel_rfl) (by kernel_rfl) (by kernel_rfl) (sr C0 (show(λ(E:Env) (w:J)=>dJ Y C0 (λE w=>dJ Y C1 (λE w=>dJ Y C3 (λE w=>oK E w R) E w) E w) E w) (j0 0 [e.v,.i j]) w from mp h) λ_ _ d=>(sr C1 d λ_ _ d=>(sq C2 (sr C3 d λ_ _ d=>(bk C4 0 (by kernel_rfl) (lp C5 (by kernel_rfl) (rJ R _ _ d)))))))
end gb
namespace gC
noncomputable abbrev t0:=az Y Tryz.f4 [(15,(.sq [0,1,2,3,4,5,6,7,8,11,12,13,14,16] (.fork (.sq [9] (.fork (ls [10,15,17,18,19]) (ls [15,10,17,18,19]))) (ls [15,9,10,17,18,19])))),(23,(.sq [0,1,2,4,5,6,7,8,9,11,12,13,15,16,17] (.fork (.sq [3] (.fork (ls [10,14,18,19,20,21,22,23,24]) (.sq [14,18,19] (.fork (ls [10,20,21,22,23,24]) (ls [20,10,21,22,23,24]))))) (.sq [14,18,19] (.fork (.sq [3] (.fork (ls [10,20,21,22,23,24]) (ls [20,10,21,22,23,24]))) (ls [20,3,10,21,22,23,24]))))))] [6,7,10,13]
abbrev P0:Ps:=[(1,.v [.s]),(6,.l [.s,.s] e3),(7,.l [.s,.s] e3),(8,.v [.I])]
noncomputable def a2:=bf t0 [0,1,1,1,2] P0
noncomputable abbrev t1:=be a2
noncomputable def cm:=bf t1 [0,1,1,1,3,2,1,2,1,1,2] [(1,.v [.s]),(6,.l [.s,.s] e3),(7,.l [.s,.s] e3),(8,.v [.I]),(9,.v [.s]),(10,.l [.s,.s] e3),(11,.v [.s]),(12,.v [.I])]
noncomputable abbrev t2:=be cm
noncomputable abbrev bV:=av t2 [2,2,1,2,1,1,3,2,1,2,1,1,2] [(1,.v [.s]),(6,.l [.s,.s] e3),(7,.l [.s,.s] e3),(8,.v [.I]),(9,.v [.s]),(10,.l [.s,.s] e3),(11,.v [.s]),(12,.v [.I]),(13,.l [.I,.I,.I,.s,.st,.s,.s] e4)]
noncomputable abbrev t3:=ay bV
noncomputable abbrev cM:=av t3 [2,2,1,1,2] P0
noncomputable abbrev t4:=ay cM
def dB:=bg t4 cm
abbrev P1:Ps:=[(1,.v [.s]),(6,.l [.s,.s] e3),(7,.l [.s,.s] e3),(14,.v [.I])]
noncomputable def pX:=bf t4 [0,1,1,1,3] P1
noncomputable abbrev t5:=be pX
noncomputable abbrev p0:=av t5 [2,2,1,1,3] P1
noncomputable abbrev t6:=ay p0
abbrev P2:Ps:=[(1,.v [.s]),(6,.l [.s,.s] e3),(7,.l [.s,.s] e3),(14,.v [.I]),(15,.v [.I])]
noncomputable abbrev mP:=av t6 [4,2,1,2,1,1,3] P2
noncomputable abbrev t7:=ay mP
noncomputable abbrev iV:=av t7 [3,2,1,2,1,1,3] P2
noncomputable abbrev t8:=ay iV
noncomputable abbrev lg:=av t8 [2,2,1,2,1,1,3] P2
noncomputable abbrev t9:=ay lg
def FZ:=bg t9 pX
def bw:=bg t9 a2
def aB:=aA t9 Li [.s,.s,.I]
end gC
def kN(x:Int):Bool:=ak (x≠0)&&ak (-1073741824<=x)&&ak (x<=1073741824)
def m8:List Int->Bool
 |a::b::r=>ak (a.natAbs<b.natAbs)&&m8 (b::r)
 |_=>true
def lF(l:List Int):Int:=if l.length>65536 then 4 else if l.all kN then 0 else 1
def gA(l:List Int):Int:=if lF l≠0 then lF l else if m8 l then 0 else 10
abbrev h4(w0:J)(n:Int):aH:=λr d=>r=ae (.i n)/\ag w0 d
def sj{l:List Int}{i:Nat}{x:Int}(h:l[i]? =some x):l.drop i=x::l.drop (i+1):=by obtain⟨d,rfl⟩:=cz.1 h;exact dz d
def vF{x:Int}:kN x=true↔x≠0/\-1073741824<=x/\x<=1073741824:=by
 unfold kN
 grind
section
variable {w0:J} {s:Sl} {l:List Int}
def Ww{w:J}(h:bo w s l)(E:l.length<=9223372036854775806):ai Y Kg #[s.v] w (h4 w (lF l)):=by
 have F:=bo.len h;by_cases D:l.length>65536
 .exact qm.ok _ w _ (a1 (aS (by omega)) ⟨by unfold lF;grind,Fr.refl _ _⟩)
 refine qm.ok _ w _ (aZ (aW (by omega)) ?_);have C:lF l=if l.all kN then 0 else 1:=by unfold lF;omega
 have loop:∀(k i:Nat) (w':J),i+k=l.length->ag w w'->l.all kN=(l.drop i).all kN->qm.L0 s ((s.n:Nat):Int) (i:Int) w' (h4 w (lF l)):=by
  intro k;induction k with
  |zero=>
   intro i w' B f d;rw[cU (by omega)]at d;exact qm.bC _ _ _ _ _ (aZ (aW (by omega)) ⟨by grind,f⟩)
  |succ k G=>
   intro i w' B f d;have e:l[i]? =some l[i]:=a4 (by omega);generalize l[i]=x at e;rw[sj e,List.all_cons]at d;refine qm.bC _ _ _ _ _ (a1 (aS (by omega)) ⟨by omega,by omega,bo.cell (h.br f) e (by omega) λp _ A=>⟨x,A,?_⟩⟩);have go:kN x=true->qm.L0 s ((s.n:Nat):Int) (aj .i64 ((i:Int)+1)) w' (h4 w (lF l)):=λj=>by
    rw[bb _ (by omega)]
    grind
   have stop:kN x=false->h4 w (lF l) (ae (.i 1)) w':=λj=>⟨by grind,f⟩;have no:¬(x≠0/\-1073741824<=x/\x<=1073741824)->kN x=false:=λj=>Bool.eq_false_iff.2 λh=>j (vF.1 h);refine Hg.ok _ w' _ (di (λq=>aF (λy=>⟨_,rfl,dN (λz=>stop (no ?_)) (λz=>go (vF.2 ?_))⟩) (λy=>⟨_,rfl,a1 rfl (stop (no ?_))⟩)) (λq=>⟨_,rfl,a1 rfl (stop (no ?_))⟩))
   .grind
   .grind
   .omega
   .omega
 exact loop l.length 0 w (by omega) (Fr.refl _ _) rfl
def Jz{x:Int}(d:-1073741824<=x/\x<=1073741824)(w:J):ai Y Ki #[.i x] w (h4 w (x.natAbs:Int)):=by
 refine Hh.ok _ w _ ⟨?_,Fr.refl _ _⟩;rw[aQ _ (by omega)]
 grind
def Jw{w:J}(h:bo w s l)(Q:l.length<=9223372036854775806):ai Y Kf #[s.v] w (h4 w (gA l)):=by
 have S:=bo.len h;refine r7.ok _ w _ ((Ww h Q).mono ?_);rintro _ V ⟨rfl,A⟩;refine⟨_,rfl,di (λx=>⟨by unfold gA;grind,A⟩) (λx=>?_)⟩;have C:gA l=if m8 l then 0 else 10:=by unfold gA;omega
 have G:∀d∈l,-1073741824<=d/\d<=1073741824:=λd q=>by
  unfold lF at x;split at x
  .omega
  .split at x
   .rename_i e;exact(vF.1 (ft.1 e d q)).2
   .omega
 have loop:∀(k i:Nat) (w':J),i+1+k=l.length->ag w w'->m8 l=m8 (l.drop i)->r7.L0 s ((i+1:Nat):Int) w' (h4 w (gA l)):=by
  intro k;induction k with
  |zero=>
   intro i w' P f e;have M:∃d,l.drop i=[d]:=by
    have:(l.drop i).length=1:=by grind
    exact List.length_eq_one_iff.1 this
   obtain⟨d,q⟩:=M;rw[q]at e;exact r7.bC _ _ _ _ (aZ (aW (by omega)) ⟨by rw[C,e];rfl,f⟩)
  |succ k U=>
   intro i w' P f e;have z:l[i]? =some l[i]:=a4 (by omega);have j:l[i+1]? =some l[i+1]:=a4 (by omega);generalize l[i]=d at z;generalize l[i+1]=y at j;rw[sj z,sj j]at e;have q:=G d (aD z);have T:=G y (aD j);have K:aj .i64 (((i+1:Nat):Int) - 1)=(i:Int):=by rw[aQ _ (by omega)];omega
   refine r7.bC _ _ _ _ (a1 (aS (by omega)) ((bI (w:=w') [] (by simp)).dr λW B=>?_));rw[K];have F:=h.br (f.dA B.fr);refine⟨by omega,by omega,bo.cell F j (by omega) λp hp O=>⟨y,O,by omega,by omega,bo.cell F z (by omega) λaa hq H=>⟨d,H,(Jz T W).mono ?_⟩⟩⟩;rintro _ Z ⟨rfl,D⟩;refine⟨_,rfl,?_,(Jz q Z).mono ?_⟩
   .exact Hd D H λh=>h
   rintro _ w4 ⟨rfl,L⟩;have E:=((f.dA B.fr).dA D).dA L;refine⟨_,rfl,aF (λN=>⟨?_,E⟩) (λN=>?_)⟩
   .rw [C,e];unfold m8;grind
   .rw [bb _ (by omega)];refine U (i+1) w4 (by omega) E ?_;rw[e,sj j];conv=>lhs;unfold m8
    grind
 cases I:l with
 |nil=>rw[I]at S;exact r7.bC _ _ _ _ (aZ (aW (by grind)) ⟨rfl,A⟩)
 |cons d r=>rw[<-I];exact loop r.length 0 V (by grind) A rfl
end
def Wv(s:ByteArray)(w:J):ai Y LG #[.string s] w λr e=>r=ae (.bool (fE (bl s)))/\ag w e:=by
 have K:(bl s).length=s.size:=dH s;have no:fE (bl s)=false->(Ending.returned (.bool false)=ae (.bool (fE (bl s)))/\ag w w):=λh=>⟨by rw[h],Fr.refl _ _⟩;cases A:bl s with
 |nil=>
  have z:s.size=0:=by grind
  exact kS.ok s w _ (a1 (by grind) ⟨rfl,Fr.refl _ _⟩)
 |cons c m=>
  have L:s.size=m.length+1:=by grind
  rw[A]at no;have z:s[aV 0]? =some c:=Gq A 0;refine kS.ok s w _ (aL (λh=>by omega) (λ_=>aF (λh=>no ?_) (λh=>⟨by omega,c,z,aF (λk=>no ?_) (λk=>⟨by omega,c,z,aF (λj=>no ?_) (λj=>?_)⟩)⟩)))
  .rw [mn,aW (by omega)];rfl
  .rw [mn];unfold eZ;grind
  .rw [mn];unfold eZ;grind
  have E:fE (c::m)=(bl s).all cT:=by
   rw[mn,A,List.all_cons];unfold cT eZ
   grind
  rw[E];have loop:∀(d i:Nat),i+d=s.size->(bl s).all cT=((bl s).drop i).all cT->kS.L1 s ((s.size:Nat):Int) (i:Int) w λr e=>r=ae (.bool ((bl s).all cT))/\ag w e:=by
   intro d;induction d with
   |zero=>
    intro i H y;rw[cU (by omega)]at y;exact kS.fI _ _ _ _ _ (aZ (aW (by omega)) ⟨by grind,Fr.refl _ _⟩)
   |succ d O=>
    intro i H y;have C:(bl s)[i]? =some (bl s)[i]:=a4 (by omega);have G:(bl s).drop i=(bl s)[i]::(bl s).drop (i+1):=dz (by omega);rw[G,List.all_cons]at y;generalize(bl s)[i]=x at C y;have N:=x.toNat_lt;have go:cT x=true->kS.S4 s ((s.size:Nat):Int) (i:Int) w λr e=>r=ae (.bool ((bl s).all cT))/\ag w e:=λh=>by
     show kS.L1 s _ (aj .i64 ((i:Int)+1)) w _;rw[bb _ (by omega)]
     grind
    have stop:cT x=false->(Ending.returned (.bool false)=ae (.bool ((bl s).all cT))/\ag w w):=λh=>⟨by grind,Fr.refl _ _⟩;have q:cT x=true↔(97<=x.toNat/\x.toNat<=122)\/(48<=x.toNat/\x.toNat<=57)\/x.toNat=45:=by
     have I:(x==45)=true↔x.toNat=45:=by rw[beq_iff_eq];exact⟨λh=>by rw[h];rfl,λh=>UInt8.toNat_inj.1 h⟩
     unfold cT eZ
     grind
    have D:¬((97<=x.toNat/\x.toNat<=122)\/(48<=x.toNat/\x.toNat<=57)\/x.toNat=45)->cT x=false:=λh=>Bool.eq_false_iff.2 λj=>h (q.1 j);have B:¬(97<=x.toNat/\x.toNat<=122)->bh (ak (((x.toNat:Nat):Int)<48)) (bh (((x.toNat:Nat):Int) !=45) (kS.S3 w λr e=>r=ae (.bool ((bl s).all cT))/\ag w e) (kS.S4 s ((s.size:Nat):Int) (i:Int) w λr e=>r=ae (.bool ((bl s).all cT))/\ag w e)) (bh (ak (((x.toNat:Nat):Int)>57)) (bh (((x.toNat:Nat):Int) !=45) (kS.S3 w λr e=>r=ae (.bool ((bl s).all cT))/\ag w e) (kS.S4 s ((s.size:Nat):Int) (i:Int) w λr e=>r=ae (.bool ((bl s).all cT))/\ag w e)) (kS.S4 s ((s.size:Nat):Int) (i:Int) w λr e=>r=ae (.bool ((bl s).all cT))/\ag w e)):=λM=>
     aF (λk=>di (λj=>stop (D (by omega))) (λj=>go (q.2 (by omega)))) (λk=>aF (λF=>di (λj=>stop (D (by omega))) (λj=>go (q.2 (by omega)))) (λF=>go (q.2 (by omega))))
    refine kS.fI _ _ _ _ _ (a1 (aS (by omega)) ⟨by omega,x,by rw[bH];exact(Gq rfl i).trans C,aF (λk=>B (by omega)) (λk=>aF (λj=>B (by omega)) (λj=>go (q.2 (by omega))))⟩)
  exact loop s.size 0 (by omega) rfl
def gX(s:ct)(i aJ:Int):Int:=
 if s.kind<0\/s.kind>5 then 1 else if gA s.bY≠0 then gA s.bY else if bl s.nm≠[]/\fE (bl s.nm)=false then 6
 else if s.hints.all (λd=>ak (0<=d)&&ak (d<i))then(if s.kind=4/\(s.node<0\/s.node>=aJ)then 7 else 0)else 14
def xl(w:J)(d:Sp):Prop:=bo w d.p d.x.params/\bo w d.l d.x.bY/\bo w d.h d.x.hints
def nK(d:Sp):Prop:=d.x.params.length<=1000000000/\d.x.bY.length<=1000000000/\d.x.hints.length<=1000000000
def Qt{s:ct}{i aJ:Int}(h:s.kind<0\/s.kind>5):gX s i aJ=1:=by unfold gX;omega
def aas{s:ct}{i aJ:Int}(h:¬(s.kind<0\/s.kind>5))(d:gA s.bY≠0):gX s i aJ=gA s.bY:=by unfold gX;omega
def aat{s:ct}{i aJ:Int}(h:¬(s.kind<0\/s.kind>5))(d:gA s.bY=0)(e:bl s.nm≠[]/\fE (bl s.nm)=false):gX s i aJ=6:=by unfold gX;grind
def EV{s:ct}{i aJ:Int}(h:¬(s.kind<0\/s.kind>5))(d:gA s.bY=0)(e:¬(bl s.nm≠[]/\fE (bl s.nm)=false)):gX s i aJ=if s.hints.all (λh=>ak (0<=h)&&ak (h<i))then(if s.kind=4/\(s.node<0\/s.node>=aJ)then 7 else 0)else 14:=by unfold gX;grind
def yI{t:ByteArray}:t=bG #[]↔bl t=[]:=⟨λd=>by rw[d];rfl,λd=>by rw[<-l8 t,d];rfl⟩
def Jx{d:Sp}(M:nK d){i aJ:Int}{w:J}(I:xl w d):ai Y LR #[d.v,.i i,.i aJ] w (h4 w (gX d.x i aJ)):=by
 refine tc.aB _ _ _ _ _ _ _ _ _ w _ ((bI (w:=w) [d.hE,d.lE] (by
  intro H K;simp only[au,aO,aR]at K;rcases K with rfl|rfl
  .exact I.2.2
  .exact I.2.1)).aG λb w1 A=>?_)
 refine aF (λe=>⟨by rw[Qt (.inl e)],A.fr⟩) (λV=>aF (λe=>⟨by rw[Qt (.inr e)],A.fr⟩) (λW=>A.aw (Jw (l:=d.x.bY) (A.getD 1) (by have:=M.2.1;omega)) ?_));have F:¬(d.x.kind<0\/d.x.kind>5):=by omega
 rintro _ N rfl D;refine⟨_,rfl,di (λe=>⟨by rw[aas F e],D.fr⟩) (λC=>?_)⟩;have G:¬(bl d.x.nm≠[]/\fE (bl d.x.nm)=false)->∀y,LH F0 w y [.g b] [d.hE,d.lE]->tc.bM i aJ b d.x.kind d.x.node d.x.du d.p d.x.nm d.l d.h y (h4 w (gX d.x i aJ)):=by
  intro z y q;have L:bo y d.h d.x.hints:=q.getD 0;have Z:=bo.len L;have H:=EV (i:=i) (aJ:=aJ) F C z;have loop:∀(k j:Nat),j+k=d.x.hints.length->d.x.hints.all (λe=>ak (0<=e)&&ak (e<i))=(d.x.hints.drop j).all (λe=>ak (0<=e)&&ak (e<i))->tc.g1 i aJ b d.x.kind d.x.node d.x.du d.p d.x.nm d.l d.h d.h ((d.h.n:Nat):Int) (j:Int) y (h4 w (gX d.x i aJ)):=by
   intro k;induction k with
   |zero=>
    intro j T B;rw[cU (by omega),List.all_nil]at B;rw[B,aq rfl]at H;refine tc.jT _ _ _ _ _ _ _ _ _ _ _ _ _ _ _ (aZ (aW (by omega)) (aL (λP=>aF (λe=>⟨by grind,q.fr⟩) (λQ=>aF (λe=>⟨by grind,q.fr⟩) (λS=>⟨by grind,q.fr⟩))) (λP=>⟨by grind,q.fr⟩)))
   |succ k ih=>
    intro j T B;have E:d.x.hints[j]? =some d.x.hints[j]:=a4 (by omega);generalize d.x.hints[j]=x at E;rw[sj E,List.all_cons]at B;refine tc.jT _ _ _ _ _ _ _ _ _ _ _ _ _ _ _ (a1 (aS (by omega)) ⟨by omega,by omega,bo.cell L E (by omega) λp _ C=>⟨x,C,aF (λe=>⟨?_,q.fr⟩) (λQ=>aF (λe=>⟨?_,q.fr⟩) (λS=>?_))⟩⟩)
    .grind
    .grind
    .rw [bb _ (by have:=M.2.2;omega)]
     grind
  exact loop d.x.hints.length 0 (by omega) rfl
 rw[zH];refine dN (λz=>?_) (λz=>G (λe=>e.1 (yI.1 (eH z))) N D);refine D.aw (Wv d.x.nm N) ?_;rintro _ y rfl q;refine⟨_,rfl,dN (λe=>⟨by rw[aat F C ⟨λO=>hZ z (yI.2 O),e⟩],q.fr⟩) (λe=>G (λU=>by grind) y q)⟩
def xP:g0 Y tU e4 (.agg #[.int .i64 0,.int .i64 0,.int .i64 0,.slice none 0 0,.string (bG #[]),.slice none 0 0,.slice none 0 0]) 7 112:=⟨by kernel_rfl,by kernel_rfl,rfl,by decide,by decide⟩
namespace Sp
def jq(d:Sp):(c d).length=7:=rfl
def eW(l:List Sp):(l.flatMap c).length=l.length *7:=oX c 7 jq l
structure fH(w:J)(p:Addr)(i:Nat)(d:Sp):Prop where
 c0:w.cell? ((p.add (i *7)).add 0)=some (.i d.x.kind)
 c1:w.cell? ((p.add (i *7)).add 1)=some (.i d.x.node)
 c2:w.cell? ((p.add (i *7)).add 2)=some (.i d.x.du)
 c3:w.cell? ((p.add (i *7)).add 3)=some d.p.v
 c4:w.cell? ((p.add (i *7)).add 4)=some (.string d.x.nm)
 c5:w.cell? ((p.add (i *7)).add 5)=some d.l.v
 c6:w.cell? ((p.add (i *7)).add 6)=some d.h.v
end Sp
def f'(w:J)(s:Sl)(l:List Sp):Prop:=bx 7 w s (l.flatMap Sp.c)/\∀d∈l,xl w d
def f'.n{w:J}{s:Sl}{l:List Sp}(h:f' w s l):s.n=l.length:=by have:=h.1.1;rw[Sp.eW]at this;omega
def f'.get'{w:J}{s:Sl}{l:List Sp}(h:f' w s l){i:Nat}{d:Sp}(V:l[i]? =some d){K:Addr->Prop}(j:∀p,s.a=some p->Sp.fH w p i d->K p):dM s.a K:=
 eV.elem (f:=Sp.c) (sz:=7) Sp.jq (by omega) h.1.2.2 V λp k e=>j p k ⟨e 0 _ rfl,e 1 _ rfl,e 2 _ rfl,e 3 _ rfl,e 4 _ rfl,e 5 _ rfl,e 6 _ rfl⟩
def f'.again{w:J}{s:Sl}{l:List Sp}(h:f' w s l){i:Nat}{d:Sp}(V:l[i]? =some d){p:Addr}(z:s.a=some p):Sp.fH w p i d:=by have k:=h.get' V (K:=λj=>∃q,s.a=some q/\Sp.fH w q i d) (λj e y=>⟨j,e,y⟩);rw[z]at k;obtain⟨j,e,x⟩:=k;cases e;exact x
def f'.get{w:J}{s:Sl}{l:List Sp}(h:f' w s l){i:Nat}{d:Sp}(V:l[i]? =some d){K:Addr->Prop}(j:∀p,Sp.fH w p i d->K p):dM s.a K:=
 eV.elem (f:=Sp.c) (sz:=7) Sp.jq (by omega) h.1.2.2 V λp k e=>j p ⟨e 0 _ rfl,e 1 _ rfl,e 2 _ rfl,e 3 _ rfl,e 4 _ rfl,e 5 _ rfl,e 6 _ rfl⟩
abbrev iv(l:List Sp):List En:=l.flatMap λd=>[d.pE,d.hE,d.lE]
def _root_.Go.W.En.sp(s:Sl)(l:List Sp):En:=.all (.bd 7 s (l.flatMap Sp.c)::iv l)
def tH{w:J}{l:List Sp}:(∀e∈iv l,e.P w)↔∀d∈l,xl w d:=by
 constructor
 .intro j d k;have g:∀e∈[d.pE,d.hE,d.lE],e.P w:=λe h=>j e (bS.2 ⟨d,k,h⟩);exact⟨g d.pE (by simp),g d.lE (by simp),g d.hE (by simp)⟩
 .intro j e h;obtain⟨d,k,h⟩:=bS.1 h;simp only[au,aO,aR]at h;rcases h with rfl|rfl|rfl
  .exact (j d k).1
  .exact (j d k).2.2
  .exact (j d k).2.1
def dX{w:J}{s:Sl}{l:List Sp}:(En.sp s l).P w↔f' w s l:=by
 constructor
 .exact λd=>⟨d (.bd 7 s (l.flatMap Sp.c)) (by simp),tH.1 λh e=>d h (List.mem_cons_of_mem _ e)⟩
 .intro d h e;rcases au.1 e with rfl|e
  .exact d.1
  .exact tH.2 d.2 h e
abbrev bA(l:List Sp):List ct:=l.map Sp.x
def ot:List ct->Int->Int->Int
 |[],_,_=>0
 |s::r,i,d=>if gX s i d≠0 then gX s i d else ot r (i+1) d
def vX(ss:List ct):Int:=if ss.length>1048576 then 4 else ot ss 0 0
def Qz{l:List Sp}{i:Nat}{d:Sp}(h:l[i]? =some d):(bA l).drop i=d.x::(bA l).drop (i+1):=by
 have j:(bA l)[i]? =some d.x:=by rw[hr,h];rfl
 obtain⟨k,e⟩:=cz.1 j;rw[<-e];exact dz k
section
variable {w0:J} {s ls:Sl} {l:List Sp} {b:Nat}
def Jy(Q:l.length<=1048576)(M:∀q∈l,nK q){E:Int}{D:List En}(z:En.sp s l∈D):∀(k i:Nat) (w:J) (L:List En),i+k=l.length->En.g b∈L->LH F0 w0 w L D->E=ot ((bA l).drop i) (i:Int) ((ls.n:Nat):Int)->
  nh.g1 b ls s s ((s.n:Nat):Int) (i:Int) w (h4 w0 E):=by
 intro k;induction k with
 |zero=>
  intro i w L I x j h;have K:=(dX.1 (j.rd _ z)).n;rw[cU (by simp;omega)]at h;exact nh.jT _ _ _ _ _ _ _ _ (aZ (aW (by omega)) ⟨by rw[h];rfl,j.fr⟩)
 |succ k N=>
  intro i w L I x j h;have C:=dX.1 (j.rd _ z);have K:=C.n;have y:l[i]? =some l[i]:=a4 (by omega);generalize l[i]=q at y;have G:=aD y;rw[Qz y]at h;refine nh.jT _ _ _ _ _ _ _ _ (a1 (aS (by omega)) ⟨by omega,by omega,C.get y λp e=>?_⟩);rw[bH];refine⟨_,_,_,_,_,_,_,e.c0,e.c1,e.c2,e.c3,e.c4,e.c5,e.c6,j.aG (λP S H=>H.ah (λT A=>A.aw (Jx (d:=q) (M q G) ((dX.1 (A.rd _ z)).2 q G)) ?_) (by simp[x])) (by simp[x])⟩;rintro _ O rfl B;refine⟨_,rfl,di (λF=>⟨by rw[h];unfold ot;rw[aq F],B.fr⟩) (λF=>?_)⟩;rw[bb _ (by omega)];refine N (i+1) O _ (by omega) (by simp[x]) B ?_;rw[h];conv=>lhs;unfold ot
  rw[af (by omega)];rfl
def Wu(z:l.length<=1000000000)(q:∀e∈l,nK e){w:J}(h:f' w s l):ai Y CX #[.agg #[(⟨none,0,0⟩:Sl).v,s.v]] w (h4 w (vX (bA l))):=by
 have A:=h.n;refine nh.aB _ _ w _ ((bI (w:=w) [.sp s l] (by intro y k;rw[bT.1 k];exact dX.2 h)).aG λb x d=>aZ rfl (aF (λj=>⟨?_,d.fr⟩) (λj=>?_)))
 .unfold vX;rw[aq (by simp;omega)]
 .refine nh.dB _ _ _ _ _ _ _ _ (aZ rfl ?_);refine Jy (by omega) q (D:=[.sp s l]) (by simp) l.length 0 x _ (by omega) (by simp) d ?_;unfold vX;rw[af (by simp;omega),List.drop_zero];rfl
end
def x9{w0 w:J}{s src:Sl}{xs j:List UInt8}(F:ag w0 w)(A:eU w s xs)(k:∀h∈ax s,w0.heap.size<=h)(B:Bytes w src j)(C:xs.length+j.length<=100000000000000):
  ∃d e,(dY #[c',c'] c' #[s.v,src.v]).run Y w=.ok d.v e/\eU e d (xs++j)/\ag w0 e/\(∀h∈ax d,w0.heap.size<=h):=by obtain⟨d,e,q,x,y,z,_⟩:=uG (ty:=c') A B (by omega);exact⟨d,e,q,x,VO F k y,XU F k z⟩
def I3{w0 w:J}{s:Sl}{xs:List UInt8}(F:ag w0 w)(q:eU w s xs)(k:∀h∈ax s,w0.heap.size<=h)(c:UInt8)(x:xs.length<=10000000000000):
  ∃d e,(dY #[c',c'] c' #[s.v,.slice (some (Addr.mk w.heap.size 0 none)) 1 1]).run Y (w.alloc (.cells #[.int .u8 (c.toNat:Int)] cD))=.ok d.v e/\eU e d (xs++[c])/\ag w0 e/\(∀h∈ax d,w0.heap.size<=h):=by have j:ag w (w.alloc (.cells #[.int .u8 (c.toNat:Int)] cD)):=Fr.alloc _ _ _;exact x9 (src:=⟨some ⟨w.heap.size,0,none⟩,1,1⟩) (F.dA j) (q.br j) k (Dz w c) (by grind)
def Vb{w0:J}:∀(n:Nat) (w:J) (out:Sl) (U:List UInt8),n<18446744073709551616->U.length+(dT n).length<=100->ag w0 w->eU w out U->(∀F∈ax out,w0.heap.size<=F)->
  u9.L0 (n:Int) out w (hH w0 (U++dT n)):=by
 intro n;induction n using Nat.strongRecOn with
 |_ n E=>
  intro w out U G z y A B;refine u9.bC _ _ _ _ (bB (λD=>?_) (λD=>?_))
  .have x:¬n<128:=by grind
   rw[mg x]at z ⊢;have C:aj .u8 (aj .u64 (128+(ck (n:Int) 128)))=((cE (n%128+128)).toNat:Int):=by rw[IntWalk.rem_in _ _ (by omega),IntWalk.u64_in _ (by omega),IntWalk.u8_in _ (by omega)];simp;omega
   rw[C];obtain⟨d,e,h,j,k,q⟩:=I3 y A B (cE (n%128+128)) (by omega);refine⟨d,e,h,?_⟩;show u9.L0 (aj .u64 (bL (n:Int) 128)) d e _;rw[IntWalk.u64_quo _ _ (by omega),show((n:Int) / 128)=((n / 128:Nat):Int)from rfl,show U++cE (n%128+128)::dT (n / 128)=(U++[cE (n%128+128)])++dT (n / 128)by simp];exact E (n / 128) (by omega) e d _ (by omega) (by grind) k j q
  .have x:n<128:=by grind
   rw[lu x]at z ⊢;rw[show aj .u8 (n:Int)=((cE n).toNat:Int)from by rw[Fk];simp];obtain⟨d,e,h,j,k,q⟩:=I3 y A B (cE n) (by omega);exact⟨d,e,h,d,rfl,j,k,q⟩
def xO(n:Nat)(d:n<18446744073709551616)(w:J):ai Y Ks #[.int .u64 (n:Int)] w (hH w (dT n)):=by have:=ei n d;exact u9.ok _ w _ (Vb n w ⟨none,0,0⟩ [] d (by grind) (Fr.refl _ _) (Ow.nil _ _) (by simp[ax]))
def Vc(n:Int)(h:a7 n)(w:J):ai Y Kt #[.int .i64 n] w λr j=>r=ae (.int .u64 (zz n:Int))/\w=j:=by
 obtain⟨k,q⟩:=h;refine HX.ok _ w _ (bB (λd=>?_) (λd=>?_))
 .have e:=eH d;refine⟨?_,rfl⟩;rw[aQ (n+1) (by omega),aQ _ (by omega),IntWalk.u64_in (0 - (n+1)) (by omega),IntWalk.u64_in (2 *(0 - (n+1))) (by omega),IntWalk.u64_in _ (by omega)];congr 2;unfold zz
  grind
 .have e:=hZ d;refine⟨?_,rfl⟩;rw[IntWalk.u64_in n (by omega),IntWalk.u64_in _ (by omega)];congr 2;unfold zz
  grind
def kG(n:Int)(d:a7 n)(w:J):ai Y Kp #[.int .i64 n] w (hH w (bt n)):=by refine HV.ok _ w _ ((Vc n d w).mono ?_);rintro r h ⟨rfl,rfl⟩;refine⟨_,rfl,(xO (zz n) (z5 n d.1 d.2) w).mono ?_⟩;rintro r h ⟨s,rfl,e⟩;exact⟨s,rfl,s,rfl,e⟩
def xN{w:J}{s:Sl}{b:List UInt8}(e:Bytes w s b)(B:b.length<=1000000000):ai Y Kr #[s.v] w (hH w (df b)):=by refine HW.ok _ w _ ?_;rw[Bytes.len e,rf _ (by omega)];refine(xO b.length (by omega) w).mono ?_;rintro r C ⟨t,rfl,z,d,y⟩;have:=ei b.length (by omega);obtain⟨h,A,j,k,q,x⟩:=x9 d z y (e.br d) (by omega);exact⟨t,rfl,h,A,j,h,rfl,k,q,x⟩
def Va{w0:J}{s:Sl}{l:List Int}(A:bo w0 s l)(V:∀x∈l,a7 x)(N:l.length<=1000000000):∀(d i:Nat),i+d=l.length->∀(w:J) (out:Sl) (U:List UInt8),U.length<=10+10 *i->ag w0 w->eU w out U->(∀x∈ax out,w0.heap.size<=x)->
  sv.L0 s out (i:Int) w (hH w0 (U++(l.drop i).flatMap bt)):=by
 have O:=bo.len A;intro d;induction d with
 |zero=>
  intro i H w out U G e z j;refine sv.bC _ _ _ _ _ (aZ (aW (by omega)) ?_);rw[cU (by omega)];exact⟨out,rfl,by grind,e,j⟩
 |succ d L=>
  intro i H w out U G e z j;have h:i<l.length:=by omega
  have I:l[i]? =some l[i]:=a4 h;have B:=V _ (List.getElem_mem h);refine sv.bC _ _ _ _ _ (a1 (aS (by omega)) ⟨by omega,by omega,bo.cell (A.br e) I (by omega) λp _ K=>⟨_,K,(kG _ B w).mono ?_⟩⟩);rintro r Q ⟨t,rfl,M,y,P⟩;have:=cR _ B;obtain⟨k,q,C,D,E,F⟩:=x9 (e.dA y) (z.br y) j M.rd (by omega);refine⟨t,rfl,k,q,C,?_⟩;show sv.L0 s k (aj .i64 ((i:Int)+1)) q _;rw[bb i (by omega),dz h,List.flatMap_cons,<-cp];exact L (i+1) (by omega) q k _ (by grind) E D F
def sm{w:J}{s:Sl}{l:List Int}(d:bo w s l)(V:∀x∈l,a7 x)(h:l.length<=1000000000):ai Y Kq #[s.v] w (hH w (cH l)):=by refine sv.ok _ w _ ?_;rw[bo.len d,rf _ (by omega)];refine(xO l.length (by omega) w).mono ?_;rintro r q ⟨t,rfl,k,e,j⟩;have y:=ei l.length (by omega);refine⟨t,rfl,?_⟩;have:=Va d V h l.length 0 (by omega) q t _ (by omega) e k j;rw[List.drop_zero]at this;exact this
def dP(s:ct):List UInt8:=bt s.kind++bt s.node++bt s.du++cH s.params++df (bl s.nm)++cH s.bY++cH s.hints
def eg(ss:List ct):List UInt8:=bt (ss.length:Int)++ss.flatMap dP
structure ug(s:ct):Prop where
 kind:a7 s.kind
 node:a7 s.node
 du:a7 s.du
 params:(∀x∈s.params,a7 x)/\s.params.length<=100000000
 bY:(∀x∈s.bY,a7 x)/\s.bY.length<=100000000
 hints:(∀x∈s.hints,a7 x)/\s.hints.length<=100000000
 nm:s.nm.size<=100000000
def Ty{w:J}{s:Sl}{U:List UInt8}(h:Bytes w s U):bx 1 w s (U.map bD):=⟨by rw[h.1,Nat.mul_one],h.2.1,h.2.2⟩
def oT{l:List Int}(V:∀d∈l,a7 d)(w:l.length<=100000000):(cH l).length<=1000000010:=by
 have q:=ei l.length (by omega);have h:∀l:List Int,(∀d∈l,a7 d)->(l.flatMap bt).length<=10 *l.length:=by
  intro l;induction l with
  |nil=>grind
  |cons d l j=>
   intro e;have a:=cR d (e d (by simp));have b:=j λk x=>e k (by grind)
   grind
 have:=h l V;unfold cH
 grind
def BK{b:List UInt8}(e:b.length<=100000000):(df b).length<=100000010:=by
 have d:=ei b.length (by omega);unfold df
 grind
def Qv{s:ct}(h:ug s):(dP s).length<=3200000000:=by
 have d:=cR _ h.kind;have e:=cR _ h.node;have j:=cR _ h.du;have k:=oT h.params.1 h.params.2;have q:=oT h.bY.1 h.bY.2;have w:=oT h.hints.1 h.hints.2;have x:=BK (b:=bl s.nm) (by rw[dH];exact h.nm);unfold dP
 grind
section
variable {M:Nat->Prop} {w0 w:J} {L D:List En} {U:List Nat}
def _root_.Go.W.LH.lI(H:LH M w0 w L D)(i:Nat){out:Sl}{xs h:List UInt8}(V:L[i]? =some (.row cD 1 out (xs.map bD)))(E:xs.length<=20000000000000)(F:h.length<=20000000000000){f:FuncId}{args:Array aa}{K:Sl->J->Prop}(y:ai Y f args w (hH w h))(x:∀s' q,LH M w0 q (L.set i (.row cD 1 s' ((xs++h).map bD))) D->K s' q)(bp:∀b∈U,En.g b∈L:=by simp):
  ee U Y f args w λr e=>∃t:Sl,r=ae t.v/\∃(s':Sl) (d:J),k5 Y (dY #[c',c'] c' #[out.v,t.v]) e=.ok s'.v d/\kept U e d/\K s' d:=
 gN (y.mono λr e ⟨t,A,k,f,_⟩=>by
  have j:=H.br f;have z:=(j.get i V:aK _ _ _ _ _).len;rw[List.length_map]at z;have C:=Bytes.len k.rd;refine⟨f,t,A,j.dc i kH V (Ty k.rd) (xy _) (by omega) (λs' d B=>x s' d ?_) bp⟩
  grind)
end
def G3{w:J}{s:Sl}{l:List Sp}(h:f' w s l)(hs:∀d∈l,ug d.x)(hl:l.length<=2000):ai Y Lk #[s.v] w (hH w (eg (bA l))):=by
 have hn:=h.n;refine vm.aB _ w _ ((kG ((s.n:Nat):Int) ⟨by omega,by omega⟩ w).mono ?_);rintro _ F ⟨t,rfl,t1,T,n1⟩;refine⟨t,rfl,?_⟩;have aj:=cR ((s.n:Nat):Int) ⟨by omega,by omega⟩;have G:LH F0 w F [.row cD 1 t ((bt ((s.n:Nat):Int)).map bD)] [.sp s l]:=((bI (w:=w) [.sp s l] (by intro ae Z;rw[bT.1 Z];exact dX.2 h))).push (.row cD 1 t ((bt ((s.n:Nat):Int)).map bD)) T t1.2 n1
 have loop:∀(k i:Nat) (out:Sl) (U:List UInt8) (w':J),i+k=l.length->U=bt ((s.n:Nat):Int)++((bA l).take i).flatMap dP->U.length<=10+i *3200000000->LH F0 w w' [.row cD 1 out (U.map bD)] [.sp s l]->vm.a2 s out (i:Int) w' (hH w (eg (bA l))):=by
  intro k;induction k with
  |zero=>
   intro i out U w' hk A W q;refine vm.bw _ _ _ _ _ (aZ (aW (by omega)) ⟨out,rfl,?_,q.fr,λad hx=>(q.new _ (aD (i:=0) rfl) ad hx).resolve_right id⟩);have:eg (bA l)=U:=by
    rw[A,List.take_of_length_le (by grind)];unfold eg
    grind
   rw[this];exact(q.get 0:aK _ _ _ _ _).yW
  |succ k ih=>
   intro i out U w' hk A W q;have z:l[i]? =some l[i]:=a4 (by omega);generalize l[i]=d at z;have y:=aD z;have e:=hs d y;have V:=dX.1 (q.getD 0);have z1:=cR _ e.kind;have z2:=cR _ e.node;have z3:=cR _ e.du;have z4:=oT e.params.1 e.params.2;have z5:=oT e.bY.1 e.bY.2;have z6:=oT e.hints.1 e.hints.2;have z7:=BK (b:=bl d.x.nm) (by rw[dH];exact e.nm);have af:U.length<=10000000000000:=by omega
   refine vm.bw _ _ _ _ _ (a1 (aS (by omega)) ⟨by omega,by omega,V.get z λp j=>?_⟩);rw[bH];refine⟨_,_,_,_,_,_,_,j.c0,j.c1,j.c2,j.c3,j.c4,j.c5,j.c6,q.aG λb w2 K=>K.ah λw3 L=>?_⟩;refine L.lI 0 rfl (by omega) (by omega) (kG _ e.kind w3) λs1 w4 M=>M.lI 0 rfl (by grind) (by omega) (kG _ e.node w4) λs2 w5 N=>N.ah λw6 O=>?_;refine O.lI 0 rfl (by grind) (by omega) (kG _ e.du w6) λs3 w7 D=>?_;refine D.lI 0 rfl (by grind) (by omega) (sm (l:=d.x.params) ((dX.1 (D.getD 0)).2 d y).1 e.params.1 (by have:=e.params.2;omega)) λs4 w8 P=>P.ah λw9 E=>?_;obtain⟨t',ab,Q,tb,f10,_⟩:=EX w9 d.x.nm;have H:=E.br f10;refine⟨t',ab,Q,λaa hq=>f10.cb aa (by rw[bT.1 hq];exact E.get 1) id,?_⟩;refine H.lI 0 rfl (by grind) (by omega) (xN tb (by rw[dH];have:=e.nm;omega)) λs5 ak B=>?_;refine B.lI 0 rfl (by grind) (by omega) (sm (l:=d.x.bY) ((dX.1 (B.getD 0)).2 d y).2.1 e.bY.1 (by have:=e.bY.2;omega)) λs6 al C=>?_;refine C.lI 0 rfl (by grind) (by omega) (sm (l:=d.x.hints) ((dX.1 (C.getD 0)).2 d y).2.2 e.hints.1 (by have:=e.hints.2;omega)) λs7 ac I=>?_;rw[bb _ (by omega)];have ag:=Qv e;have S:U++bt d.x.kind++bt d.x.node++bt d.x.du++cH d.x.params++df (bl d.x.nm)++cH d.x.bY++cH d.x.hints=U++dP d.x:=by unfold dP;grind
   have ht:(bA l).take (i+1)=(bA l).take i++[d.x]:=by rw[List.take_add_one,hr,z];rfl
   refine ih (i+1) s7 (U++dP d.x) ac (by omega) ?_ (by grind) ?_
   .rw [ht,dt,A];simp
   .rw [<-S];exact I.take 1
 exact loop l.length 0 t _ F (by omega) (by simp) (by omega) G
def aax{ss:List ct}(h:∀s∈ss,ug s)(k:ss.length<=2000):(eg ss).length<=10+ss.length *3200000000:=by
 have j:=cR (ss.length:Int) ⟨by omega,by omega⟩;have d:∀l:List ct,(∀s∈l,ug s)->(l.flatMap dP).length<=l.length *3200000000:=by
  intro l;induction l with
  |nil=>grind
  |cons e l q=>
   intro h;have a:=Qv (h e (by simp))
   grind
 have:=d ss h;unfold eg
 grind
def _root_.Go.W.LH.lH{M:Nat->Prop}{w0 w:J}{L D:List En}(H:LH M w0 w L D)(k:List En)(h:∀d∈k,((∀e∈D,e.P w)->d.P w)/\∀b∈d.fp,∃e∈D,b∈e.fp):LH M w0 w L k:=
 ⟨H.fr,H.own,λd j=>(h d j).1 H.rd,H.new,H.nd,λd j b x q A=>by obtain⟨e,z,y⟩:=(h d j).2 b x;exact H.dj e z b y q A⟩
abbrev cu(l:List Sp):En:=.all (iv l)
def cO{es:List En}{b:Nat}:b∈(En.all es).fp↔∃d∈es,b∈d.fp:=by unfold En.all;rw[aM,bS]
def nq{w:J}{b n sz:Nat}{cs:List aa}{T:aC}(h:w.heap[b]? =some (.cells cs.toArray T (0,0)))(d:cs.length=n *sz):bx sz w ⟨some (ab b),n,n⟩ cs:=uL h d
def _root_.Go.W.LH.BI{M:Nat->Prop}{w0 w w':J}{G L z D y:List En}(H:LH M w0 w (G++L) D)(k:LH (λb=>∃d∈L,b∈d.fp) w w' z y)(K:∀d∈y,∀b∈d.fp,w.heap.size<=b\/∃A∈D,b∈A.fp):LH M w0 w' (G++z) y:=by
 have B:=H.nd;rw[dt,gT]at B;have C:∀d∈G,∀b∈d.fp,b<w.heap.size/\∀g∈L,b∉g.fp:=λd e b h=>⟨d.lt w (H.own d (bK _ e)) b h,λg j q=>B.2.2 b (bS.2 ⟨d,e,h⟩) b (bS.2 ⟨g,j,q⟩) rfl⟩;have V:∀d∈z,∀b∈d.fp,∀g∈G,b∉g.fp:=λd e b h g j q=>by
  obtain⟨T,U⟩:=C g j b q;rcases k.new d e b h with x|⟨F,E,x⟩
  .omega
  grind
 refine⟨H.fr.trans k.fr λI S Q=>?_,λd e=>?_,k.rd,λd e b h=>?_,?_,λd e b h g j q=>?_⟩
 .obtain ⟨d,e,h⟩:=Q;exact(H.new d (dV _ e) I h).resolve_left (by omega)
 .rcases List.mem_append.1 e with e|e
  .exact d.st w w' (λb h P=>k.fr.cb b P λ⟨g,j,q⟩=>(C d e b h).2 g j q) (H.own d (bK _ e))
  .exact k.own d e
 .rcases List.mem_append.1 e with e|e
  .exact H.new d (bK _ e) b h
  .rcases k.new d e b h with x|⟨F,E,x⟩
   .exact .inl (a6 H.fr.size x)
   .exact H.new F (dV _ E) b x
 .rw [dt,gT];refine⟨B.1,k.nd,λI S aa Z d=>?_⟩
  grind
 .rcases List.mem_append.1 j with j|j
  .rcases K d e b h with x|⟨A,O,N⟩
   .grind
   .exact H.dj A O b N g (bK _ j) q
  .exact k.dj d e b h g j q
def _root_.Go.W.LH.part{M:Nat->Prop}{w0 w:J}{G L D:List En}(H:LH M w0 w (G++L) D):LH (λb=>∃d∈L,b∈d.fp) w w L D:=by have j:=H.nd;rw[dt,gT]at j;exact⟨Fr.refl _ _,λd e=>H.own d (dV _ e),H.rd,λd e b h=>.inr ⟨d,e,h⟩,j.2.1,λd e b h g k=>H.dj d e b h g (dV _ k)⟩
def IT{M:Nat->Prop}{w0 w:J}{L D:List En}{b:Nat}(H:LH M w0 w ([.g b]++L) D):∀d∈[b],¬∃e∈L,d∈e.fp:=λd k ⟨e,j,q⟩=>by have h:=H.nd;rw[dt,gT]at h;exact h.2.2 d (by simpa[En.g]using k) d (bS.2 ⟨e,j,q⟩) rfl
def pr{e:aC}{s:Sl}{vs:List aa}{b:Nat}(h:b∈(En.rd s vs).fp):b∈(En.row e 1 s vs).fp:=by
 have h:b∈(if vs=[]then[]else ax s):=h;split at h
 .cases h
 .exact h
def qf{w:J}{s:Sl}{l:List Int}(q:bo w s l)(z:∀d∈l,a7 d)(i m:Int)(k:1<=m):ai Y yw #[s.v,.i i,.i m] w λr B=>(∃j:Int,r=ae (.i j)/\0<=j/\j<m)/\ag w B:=by have E:=bo.len q;refine HU.ok _ _ _ w _ (aF (λx=>⟨⟨0,rfl,by omega,by omega⟩,Fr.refl _ _⟩) (λC=>aF (λx=>⟨⟨0,rfl,by omega,by omega⟩,Fr.refl _ _⟩) (λD=>?_)));obtain⟨h,rfl⟩:=Int.eq_ofNat_of_zero_le (by omega:0<=i);have e:l[h]? =some l[h]:=a4 (by omega);generalize l[h]=d at e;have A:=z d (aD e);refine⟨by omega,by omega,bo.cell q e (by rw[bH]) λp _ y=>⟨d,y,(AR d m w k A).mono ?_⟩⟩;rintro _ F ⟨rfl,f⟩;exact⟨_,rfl,⟨_,rfl,iY d m k⟩,f▸Fr.refl _ _⟩
section
variable {P:aE} {o:Oper} {E E0:Env} {w:J} {K:Env->J->Prop}
def rP(op:Op)(E E0:Env):Prop:=∀d∈op.operands.toList,∃u,E.val d=some u/\E0.val d=some u
def PM{op:Op}(h:rP op E E0)(d:o.op=op):E.dQ o=true:=by
 unfold Env.dQ;rw[d];exact ft.2 λj e=>by
  obtain⟨u,k,_⟩:=h j e
  grind
def PN{op:Op}(h:rP op E E0)(k:o.op=op)(x:∀d b,op≠.select d b):execOp E.ev o=execOp E0.ev o:=
 execOp_congr o (by grind) λw q=>by rw[k]at q;obtain⟨u,e,j⟩:=h w (by grind);simp[Env.ev,e,j]
def pD{op:Op}{ty:aC}{v:aa}(d:o.op=op)(e:o.type=ty)(h:rP op E E0)(A:∀j b,op≠.select j b)(y:∀dst pos after guard (K:Env->J->Prop),gu P ⟨dst,op,ty,pos,after,guard⟩ E w K=fP P ⟨dst,op,ty,pos,after,guard⟩ E λv _=>K (E.put dst v) w)(z:∀dst pos after guard,pd P (execOp E0.ev ⟨dst,op,ty,pos,after,guard⟩)=some (.value v))(x:K (E.put o.dst v) w):gu P o E w K:=by have k:=PM h d;have q:=PN h d A;obtain⟨dst,B,C,pos,after,guard⟩:=o;simp only at d e;subst d e;rw[y];unfold fP;rw[k,q,z];exact x
def tJ{op:Op}{ty:aC}{v:aa}{w':J}(d:o.op=op)(e:o.type=ty)(h:rP op E E0)(A:∀j b,op≠.select j b)(y:∀dst pos after guard (K:Env->J->Prop),gu P ⟨dst,op,ty,pos,after,guard⟩ E w K=oV P ⟨dst,op,ty,pos,after,guard⟩ E w λv w'=>K (E.put dst v) w')(z:∀dst pos after guard,(execOp E0.ev ⟨dst,op,ty,pos,after,guard⟩).run P w=.ok (.value v) w')(x:K (E.put o.dst v) w'):gu P o E w K:=by have k:=PM h d;have q:=PN h d A;obtain⟨dst,B,C,pos,after,guard⟩:=o;simp only at d e;subst d e;rw[y];unfold oV;rw[k,q,z];exact x
end
def aai{P:aE}{o:Oper}{E:Env}{w:J}{K:Env->J->Prop}{f a b:Nat}{c:aa}{O:Array aC}{ty:aC}{x y:aa}(q:o.op=.call ⟨.value (.func f),#[.tmp a,.tmp b,.const c],O⟩)(z:o.type=ty)(j:E.get? a=some x)(k:E.get? b=some y)(H:c=c)(F:g3 P f=true)(h:ai P f #[x,y,c] w λA d=>m4 (zeroOf P ty) λv=>A=ae v/\K (E.put o.dst v) d):gu P o E w K:=by
 obtain⟨dst,op,e,pos,after,guard⟩:=o;simp only at q z;subst q z;show cF (E.dQ ⟨dst,.call ⟨.value (.func f),#[.tmp a,.tmp b,.const c],O⟩,e,pos,after,guard⟩) (bif g3 P f then oS P f ((#[Operand.tmp a,.tmp b,.const c]).map E.ev) (zeroOf P e) w (λv d=>K (E.put dst v) d)else vr P f ((#[Operand.tmp a,.tmp b,.const c]).map E.ev) (zeroOf P e) w (λv d=>K (E.put dst v) d));have G:E.dQ ⟨dst,.call ⟨.value (.func f),#[.tmp a,.tmp b,.const c],O⟩,e,pos,after,guard⟩=true:=by simp[Env.dQ,Op.operands,Call.operands,Env.val,j,k]
 have B:E.ev (.tmp a)=x:=by simp[Env.ev,Env.val,j]
 have C:E.ev (.tmp b)=y:=by simp[Env.ev,Env.val,k]
 have D:E.ev (.const c)=c:=rfl;rw[G,F];simp only[List.map_toArray,List.map_cons,List.map_nil,B,C,D];exact h
def nH(T:List (Nat×Nat×(aa->Prop)))(L:Nat->Bool)(E:Env):Prop:=∀d∈T,(d.1=0\/L (d.1 - 1)=true)->∃v,E.get? d.2.1=some v/\d.2.2 v
def nH.get{T:List (Nat×Nat×(aa->Prop))}{L:Nat->Bool}{E:Env}(h:nH T L E){i d:Nat}{p:aa->Prop}(e:(i,d,p)∈T)(V:i=0\/L (i - 1)=true):∃v,E.get? d=some v/\p v:=h _ e V
def nH.fill{T:List (Nat×Nat×(aa->Prop))}{L:Nat->Bool}{E:Env}(h:nH T L E){i d:Nat}{v:aa}(y:∀e∈T,e.2.1=d->e.1=i+1/\e.2.2 v)(z:∀e∈T,e.1=i+1->e.2.1=d):nH T (dk L i) (E.put (some d) v):=by
 intro e k q;by_cases j:e.2.1=d
 .exact ⟨v,by rw[j];exact nX,(y e k j).2⟩
 .rw [hj (λx=>j x.symm)];by_cases w:e.1=0
  .exact h e k (.inl w)
  .refine h e k (.inr ?_);have q:=q.resolve_left w
   rwa[eE (λA=>j (z e k (by omega)))]at q
def nH.YH{T:List (Nat×Nat×(aa->Prop))}{L:Nat->Bool}{E:Env}(h:nH T L E){i:Nat}{v:aa}(q:∀d∈T,d.1≠i+1):nH T (dk L i) (E.put none v):=by
 intro d j e;show ∃v,E.get? d.2.1=some v/\d.2.2 v;refine h d j ?_;by_cases k:d.1=0
 .omega
 .have e:=e.resolve_left k;have:=q d j;rw[eE (by omega)]at e
  grind
def aag{P:aE}{o:Oper}{E:Env}{w:J}{K:Env->J->Prop}{a b:Nat}{O:Array aC}{ty:aC}{s t:Sl}(x:o.op=.call ⟨.builtin .append,#[.tmp a,.tmp b],O⟩)(y:o.type=ty)(k:E.get? a=some s.v)(q:E.get? b=some t.v)(h:∃d e,(dY O ty #[s.v,t.v]).run P w=.ok (Sl.v d) e/\K (E.put o.dst d.v) e):gu P o E w K:=by
 obtain⟨dst,op,j,pos,after,guard⟩:=o;simp only at x y;subst x y;have B:E.dQ ⟨dst,.call ⟨.builtin .append,#[.tmp a,.tmp b],O⟩,j,pos,after,guard⟩=true:=by simp[Env.dQ,Op.operands,Call.operands,Env.val,k,q]
 have z:E.ev (.tmp a)=s.v:=by simp[Env.ev,Env.val,k]
 have A:E.ev (.tmp b)=t.v:=by simp[Env.ev,Env.val,q]
 show cF (E.dQ ⟨dst,.call ⟨.builtin .append,#[.tmp a,.tmp b],O⟩,j,pos,after,guard⟩) (∃d:Sl,∃e,(dY O j ((#[Operand.tmp a,.tmp b]).map E.ev)).run P w=.ok d.v e/\K (E.put dst d.v) e);rw[B];simp only[List.map_toArray,List.map_cons,List.map_nil,z,A];exact h
def aal{P:aE}{o:Oper}{E:Env}{w:J}{K:Env->J->Prop}{T:aC}{a b:Nat}{p:Addr}{s:Sl}(e:o.op=.store T (.tmp a) (.tmp b))(j:E.get? a=some (.pointer (some p)))(k:E.get? b=some s.v)(V:(1==(match P.info? T with |some i=>i.size|none=>0)&&true&&(P.info? T).isSome)=true)(h:aP w (p.add 0) s.v λd=>K (E.put o.dst undef) d):gu P o E w K:=by
 obtain⟨dst,op,q,pos,after,guard⟩:=o;simp only at e;subst e;show(match E.val (.tmp a),E.val (.tmp b)with
  |some (.pointer (some p)),some v=>cF (v.cells.size==(match P.info? T with |some i=>i.size|none=>0)&&v.cells.toList.all qR&&(P.info? T).isSome) (pA p v.cells.toList 0 w λd=>K (E.put dst undef) d)
  |_,_=>False)
 rw[show E.val (.tmp a)=some (.pointer (some p))from j,show E.val (.tmp b)=some s.v from k];show cF (1==(match P.info? T with |some i=>i.size|none=>0)&&true&&(P.info? T).isSome) _;rw[V];exact h
def Cb:List (Op×Option Nat×aC×List Nat):=[
 (.fieldAddr e3 (.tmp 5) 0,some 17,kq,[]),
 (.load nB (.tmp 17),some 18,nB,[0]),
 (.build cg #[(1,.const (.int .i64 1))],some 19,cg,[]),
 (.build cA #[(0,.const (.int .i64 0)),(5,.const (.string (bG #[118,48]))),(6,.tmp 19)],some 20,cA,[2]),
 (.buildSlice Fi 1 #[(0,.tmp 20)],some 21,Fi,[3]),
 (.buildSlice ix 1 #[(0,.const (.int .i64 0))],some 22,ix,[]),
 (.move (.tmp 0),some 23,ix,[]),
 (.move (.tmp 6),some 24,bN,[]),
 (.binOp .add bN (.const (.int .i64 1)) (.tmp 24) bN,some 25,bN,[7]),
 (.call ⟨.value (.func yw),#[.tmp 23,.tmp 25,.const (.int .i64 2)],#[ix,bN,bN]⟩,some 26,bN,[6,8]),
 (.binOp .add bN (.const (.int .i64 2)) (.tmp 26) bN,some 27,bN,[9]),
 (.buildSlice ix 1 #[(0,.tmp 27)],some 28,ix,[10]),
 (.buildSlice ix 1 #[(0,.const (.int .i64 2))],some 29,ix,[]),
 (.build e4 #[(0,.const (.int .i64 1)),(4,.const (.string (bG #[104,48]))),(5,.tmp 29)],some 30,e4,[12]),
 (.buildSlice tU 1 #[(0,.tmp 30)],some 31,tU,[13]),
 (.build g9 #[(0,.tmp 21),(1,.tmp 22),(2,.tmp 28),(3,.tmp 31)],some 32,g9,[4,5,11,14]),
 (.buildSlice nB 1 #[(0,.tmp 32)],some 33,nB,[15]),
 (.call ⟨.builtin .append,#[.tmp 18,.tmp 33],#[nB,nB]⟩,some 34,nB,[1,16,9]),
 (.fieldAddr e3 (.tmp 5) 0,some 35,kq,[0,1,2,3,4,5,6,7,8,9,10,11,12,13,14,15,16,17]),
 (.store nB (.tmp 35) (.tmp 34),none,kq,[18,17,17,0,1,2,3,4,5,6,7,8,9,10,11,12,13,14,15,16,17])]
abbrev B':aa:=.agg #[.i 0,.slice none 0 0,.i 0,.i 0,.u 0,.string (bG #[118,48]),.i 0,.i 1,.i 0]
abbrev Ca(s:Sl):aa:=.agg #[.i 1,.i 0,.i 0,.slice none 0 0,.string (bG #[104,48]),s.v,.slice none 0 0]
abbrev lC(v:aa):Prop:=∃s:Sl,v=s.v
abbrev o4(v:aa):Prop:=∃n:Int,v=.i n
def bP(k:Int)(t4:Addr)(e:Sl)(d:Addr)(j:Int)(aJ:Sl):List (Nat×Nat×(aa->Prop)):=[(0,1,(·=.i k)),(0,4,(·=.pointer (some t4))),(0,0,(·=e.v)),(0,5,(·=.pointer (some d))),(0,6,(·=.i j)),
 (1,17,(·=.pointer (some (d.add 0)))),(2,18,(·=aJ.v)),(3,19,(·=.agg #[.i 0,.i 1,.i 0])),(4,20,(·=B')),(5,21,lC),(6,22,lC),(7,23,(·=e.v)),(8,24,o4),(9,25,o4),(10,26,o4),(11,27,o4),(12,28,lC),(13,29,lC),
 (14,30,λv=>∃s:Sl,v=Ca s),(15,31,lC),(16,32,λv=>∃a b c h:Sl,v=.agg #[a.v,b.v,c.v,h.v]),(17,33,lC),(18,34,lC),(19,35,(·=.pointer (some (d.add 0))))]
structure Lm where
 g:Sl
 h:Sl
 c:Sl
 s:Sl
def Lm.cs(x:Lm):List aa:=[x.g.v,x.h.v,x.c.v,x.s.v]
def Lm.len(l:List Lm):(l.flatMap Lm.cs).length=l.length *4:=oX Lm.cs 4 (λ_=>rfl) l
def Lm.one{l:List Lm}:∀u∈l.flatMap Lm.cs,u.oneCell'=true:=by intro u d;obtain⟨e,_,d⟩:=bS.1 d;simp only[Lm.cs,au,aO,aR]at d;rcases d with rfl|rfl|rfl|rfl<;>rfl
def HK:g0 Y nB g9 (.agg #[.slice none 0 0,.slice none 0 0,.slice none 0 0,.slice none 0 0]) 4 96:=⟨by kernel_rfl,by kernel_rfl,rfl,by decide,by decide⟩
abbrev hP(d e:Nat)(aJ:Sl)(ls:List Lm)(st:Sl)(ds:List Sp):List En:=[.c d [(⟨none,0,0⟩:Sl).v,(⟨none,0,0⟩:Sl).v] e3,.c e [aJ.v,st.v] e3,.row g9 4 aJ (ls.flatMap Lm.cs),.row e4 7 st (ds.flatMap Sp.c)]
section
variable {w0:J} {mo:Int} {b4 b5:Nat} {l0 aJ st:Sl} {i6:Int} {ls:List Lm} {ds:List Sp} {D:List En}
def u1(i:Nat):List Nat:=(Cb.map λr=>r.2.2.2).getD i []
structure pO(w0:J)(mo:Int)(b4 b5:Nat)(l0 aJ st:Sl)(i6:Int)(ls:List Lm)(ds:List Sp)(D:List En)(L:Nat->Bool)(E:Env)(w:J):Prop where
 t:nH (bP mo (ab b4) l0 (ab b5) i6 aJ) L E
 cl:∀i,L i=true->∀j∈u1 i,L j=true
 ph:(L 17=false/\L 19=false/\LH F0 w0 w (hP b4 b5 aJ ls st ds) D/\(L 16=true->∃(b:Nat) (x:Lm),E.get? 33=some (.slice (some (ab b)) 1 1)/\w.heap[b]? =some (.cells x.cs.toArray g9 (0,0))))\/
  ((∀j,j<17->L j=true)/\L 17=true/\L 19=false/\∃(s:Sl) (x:Lm),E.get? 34=some s.v/\LH F0 w0 w [.c b4 [(⟨none,0,0⟩:Sl).v,(⟨none,0,0⟩:Sl).v] e3,.c b5 [aJ.v,st.v] e3,.row g9 4 s ((ls++[x]).flatMap Lm.cs),.row e4 7 st (ds.flatMap Sp.c)] D)\/
  ((∀j,j<17->L j=true)/\L 17=true/\L 19=true/\∃(s:Sl) (x:Lm),LH F0 w0 w (hP b4 b5 s (ls++[x]) st ds) D)
def uS{L:Nat->Bool}{i:Nat}(h:∀i,L i=true->∀d∈u1 i,L d=true)(q:∀d∈u1 i,L d=true):∀e,dk L i e=true->∀d∈u1 e,dk L i d=true:=by
 intro e j d w;have g:L d=true:=by
  by_cases k:e=i
  .grind
  .rw [eE k]at j;grind
 grind
def pO.a{L:Nat->Bool}{E:Env}{w w':J}(h:pO w0 mo b4 b5 l0 aJ st i6 ls ds D L E w)(i d:Nat)(v:aa)(V:i<16)(G:∀H∈u1 i,L H=true)(K:L i=false)(F:d≠33)(f:ag w w')(B:∀e∈bP mo (ab b4) l0 (ab b5) i6 aJ,e.2.1=d->e.1=i+1/\e.2.2 v)(C:∀e∈bP mo (ab b4) l0 (ab b5) i6 aJ,e.1=i+1->e.2.1=d):pO w0 mo b4 b5 l0 aJ st i6 ls ds D (dk L i) (E.put (some d) v) w':=by
 refine⟨h.t.fill B C,uS h.cl G,?_⟩;rcases h.ph with⟨j,x,q,y⟩|⟨j,_⟩|⟨j,_⟩
 .refine .inl ⟨by rw[eE (by omega),j],by rw[eE (by omega),x],q.br f,λk=>?_⟩;rw[eE (by omega)]at k;obtain⟨b,I,z,A⟩:=y k;exact⟨b,I,by rw[hj F,z],f.at A id⟩
 .grind
 grind
def ns{op:Op}{a:Nat}{E:Env}{v:aa}(h:∀d∈op.operands.toList,d=.tmp a\/∃c,d=.const c)(e:E.get? a=some v):rP op E [(a,v)]:=λd j=>by
 rcases h d j with rfl|⟨c,rfl⟩
 .exact ⟨v,e,by simp[Env.val,Env.get?]⟩
 .exact ⟨c,rfl,rfl⟩
def EB{op:Op}{E:Env}(h:∀d∈op.operands.toList,∃c,d=.const c):rP op E []:=λd e=>by obtain⟨c,rfl⟩:=h d e;exact⟨c,rfl,rfl⟩
def VT(am:ls.length<=1000)(ah:∀j,LH F0 w0 j (hP b4 b5 aJ ls st ds) D->∃xs,bo j l0 xs/\∀B∈xs,a7 B):allI (uz Y (pO w0 mo b4 b5 l0 aJ st i6 ls ds D)) Cb 0:=
 ⟨λz y j o q k x w h e=>by obtain⟨_,N,rfl⟩:=e.t.get (i:=0) (d:=5) (p:=(·=.pointer (some (ab b5)))) (by simp[bP]) (.inl rfl);refine pD q x (ns (by simp[Op.operands]) N) (by simp) (λ_ _ _ _ _=>rfl) (λ_ _ _ _=>by kernel_rfl) (v:=.pointer (some ((ab b5).add 0))) ?_;rw[k];exact e.a 0 17 _ (by omega) h w (by omega) (Fr.refl _ _) (by simp[bP]) (by simp[bP]),
  λz y j o q k x w h e=>by
   obtain⟨_,ae,rfl⟩:=e.t.get (i:=1) (d:=17) (p:=(·=.pointer (some ((ab b5).add 0)))) (by simp[bP]) (.inr (h 0 (by simp)));have ad:(mj Y nB ((ab b5).add 0) j λv _=>pO w0 mo b4 b5 l0 aJ st i6 ls ds D (dk z 1) (y.put o.dst v) j)=(∃s:Sl,j.cell? ((ab b5).add 0)=some s.v/\pO w0 mo b4 b5 l0 aJ st i6 ls ds D (dk z 1) (y.put o.dst s.v) j):=by kernel_rfl
   refine pC q ae (ad▸⟨aJ,?_,?_⟩)
   .rcases e.ph with⟨_,_,C,_⟩|⟨A,_⟩|⟨A,_⟩
    .exact C.ld 1 0
    .grind
    grind
   .rw [k];exact e.a 1 18 _ (by omega) h w (by omega) (Fr.refl _ _) (by simp[bP]) (by simp[bP]),
  λz y j o q k x w h e=>by refine pD q x (EB (by simp[Op.operands])) (by simp) (λ_ _ _ _ _=>rfl) (λ_ _ _ _=>by kernel_rfl) (v:=.agg #[.i 0,.i 1,.i 0]) ?_;rw[k];exact e.a 2 19 _ (by omega) h w (by omega) (Fr.refl _ _) (by simp[bP]) (by simp[bP]),
  λz y j o q k x w h e=>by obtain⟨_,g,rfl⟩:=e.t.get (i:=3) (d:=19) (p:=(·=.agg #[.i 0,.i 1,.i 0])) (by simp[bP]) (.inr (h 2 (by simp)));refine pD q x (ns (by simp[Op.operands]) g) (by simp) (λ_ _ _ _ _=>rfl) (λ_ _ _ _=>by kernel_rfl) (v:=B') ?_;rw[k];exact e.a 3 20 _ (by omega) h w (by omega) (Fr.refl _ _) (by simp[bP]) (by simp[bP]),
  λz y j o q k x w h e=>by obtain⟨_,g,rfl⟩:=e.t.get (i:=4) (d:=20) (p:=(·=B')) (by simp[bP]) (.inr (h 3 (by simp)));refine tJ q x (ns (by simp[Op.operands]) g) (by simp) (λ_ _ _ _ _=>rfl) (λ_ _ _ _=>by kernel_rfl) (v:=.slice (some (ab j.heap.size)) 1 1) (w':=j.alloc (.cells #[.i 0,.slice none 0 0,.i 0,.i 0,.u 0,.string (bG #[118,48]),.i 0,.i 1,.i 0] cA)) ?_;rw[k];exact e.a 4 21 _ (by omega) h w (by omega) (Fr.alloc _ _ _) (by simp[bP];exact⟨⟨some (ab j.heap.size),1,1⟩,rfl⟩) (by simp[bP]),
  λz y j o q k x w h e=>by refine tJ q x (EB (by simp[Op.operands])) (by simp) (λ_ _ _ _ _=>rfl) (λ_ _ _ _=>by kernel_rfl) (v:=.slice (some (ab j.heap.size)) 1 1) (w':=j.alloc (.cells #[.i 0] bN)) ?_;rw[k];exact e.a 5 22 _ (by omega) h w (by omega) (Fr.alloc _ _ _) (by simp[bP];exact⟨⟨some (ab j.heap.size),1,1⟩,rfl⟩) (by simp[bP]),
  λz y j o q k x w h e=>by obtain⟨_,g,rfl⟩:=e.t.get (i:=0) (d:=0) (p:=(·=l0.v)) (by simp[bP]) (.inl rfl);refine my (.inl q) g ?_;rw[k];exact e.a 6 23 _ (by omega) h w (by omega) (Fr.refl _ _) (by simp[bP]) (by simp[bP]),
  λz y j o q k x w h e=>by obtain⟨_,g,rfl⟩:=e.t.get (i:=0) (d:=6) (p:=(·=.i i6)) (by simp[bP]) (.inl rfl);refine my (.inl q) g ?_;rw[k];exact e.a 7 24 _ (by omega) h w (by omega) (Fr.refl _ _) (by simp[bP];grind) (by simp[bP]),
  λz y j o q k x w h e=>by obtain⟨_,g,n,rfl⟩:=e.t.get (i:=8) (d:=24) (p:=o4) (by simp[bP]) (.inr (h 7 (by simp)));refine pD q x (ns (by simp[Op.operands]) g) (by simp) (λ_ _ _ _ _=>rfl) (λ_ _ _ _=>by kernel_rfl) (v:=.i (aj .i64 (1+n))) ?_;rw[k];exact e.a 8 25 _ (by omega) h w (by omega) (Fr.refl _ _) (by simp[bP];grind) (by simp[bP]),
  λz y j o q k x w h e=>by
   obtain⟨_,g,rfl⟩:=e.t.get (i:=7) (d:=23) (p:=(·=l0.v)) (by simp[bP]) (.inr (h 6 (by simp)));obtain⟨_,g',n,rfl⟩:=e.t.get (i:=9) (d:=25) (p:=o4) (by simp[bP]) (.inr (h 8 (by simp)));obtain⟨xs,K,ai⟩:=ah j (by
    rcases e.ph with⟨_,_,C,_⟩|⟨A,_⟩|⟨A,_⟩
    .exact C
    .grind
    grind)
   refine aai q x g g' rfl (by kernel_rfl) ((qf K ai n 2 (by omega)).mono ?_);rintro _ V ⟨⟨ak,rfl,_⟩,f⟩;rw[show zeroOf Y bN=.i 0 from by kernel_rfl];refine⟨ak,rfl,?_⟩;rw[k];exact e.a 9 26 _ (by omega) h w (by omega) f (by simp[bP];grind) (by simp[bP]),
  λz y j o q k x w h e=>by obtain⟨_,g,n,rfl⟩:=e.t.get (i:=10) (d:=26) (p:=o4) (by simp[bP]) (.inr (h 9 (by simp)));refine pD q x (ns (by simp[Op.operands]) g) (by simp) (λ_ _ _ _ _=>rfl) (λ_ _ _ _=>by kernel_rfl) (v:=.i (aj .i64 (2+n))) ?_;rw[k];exact e.a 10 27 _ (by omega) h w (by omega) (Fr.refl _ _) (by simp[bP];grind) (by simp[bP]),
  λz y j o q k x w h e=>by obtain⟨_,g,n,rfl⟩:=e.t.get (i:=11) (d:=27) (p:=o4) (by simp[bP]) (.inr (h 10 (by simp)));refine tJ q x (ns (by simp[Op.operands]) g) (by simp) (λ_ _ _ _ _=>rfl) (λ_ _ _ _=>by kernel_rfl) (v:=.slice (some (ab j.heap.size)) 1 1) (w':=j.alloc (.cells #[.i n] bN)) ?_;rw[k];exact e.a 11 28 _ (by omega) h w (by omega) (Fr.alloc _ _ _) (by simp[bP];exact⟨⟨some (ab j.heap.size),1,1⟩,rfl⟩) (by simp[bP]),
  λz y j o q k x w h e=>by refine tJ q x (EB (by simp[Op.operands])) (by simp) (λ_ _ _ _ _=>rfl) (λ_ _ _ _=>by kernel_rfl) (v:=.slice (some (ab j.heap.size)) 1 1) (w':=j.alloc (.cells #[.i 2] bN)) ?_;rw[k];exact e.a 12 29 _ (by omega) h w (by omega) (Fr.alloc _ _ _) (by simp[bP];exact⟨⟨some (ab j.heap.size),1,1⟩,rfl⟩) (by simp[bP]),
  λz y j o q k x w h e=>by obtain⟨_,g,s,rfl⟩:=e.t.get (i:=13) (d:=29) (p:=lC) (by simp[bP]) (.inr (h 12 (by simp)));refine pD q x (ns (by simp[Op.operands]) g) (by simp) (λ_ _ _ _ _=>rfl) (λ_ _ _ _=>by kernel_rfl) (v:=Ca s) ?_;rw[k];exact e.a 13 30 _ (by omega) h w (by omega) (Fr.refl _ _) (by simp[bP];grind) (by simp[bP]),
  λz y j o q k x w h e=>by obtain⟨_,g,s,rfl⟩:=e.t.get (i:=14) (d:=30) (p:=λv=>∃s:Sl,v=Ca s) (by simp[bP]) (.inr (h 13 (by simp)));refine tJ q x (ns (by simp[Op.operands]) g) (by simp) (λ_ _ _ _ _=>rfl) (λ_ _ _ _=>by kernel_rfl) (v:=.slice (some (ab j.heap.size)) 1 1) (w':=j.alloc (.cells #[.i 1,.i 0,.i 0,.slice none 0 0,.string (bG #[104,48]),s.v,.slice none 0 0] e4)) ?_;rw[k];exact e.a 14 31 _ (by omega) h w (by omega) (Fr.alloc _ _ _) (by simp[bP];exact⟨⟨some (ab j.heap.size),1,1⟩,rfl⟩) (by simp[bP]),
  λz y j o q k x w h e=>by
   obtain⟨_,g1,a,rfl⟩:=e.t.get (i:=5) (d:=21) (p:=lC) (by simp[bP]) (.inr (h 4 (by simp)));obtain⟨_,g2,b,rfl⟩:=e.t.get (i:=6) (d:=22) (p:=lC) (by simp[bP]) (.inr (h 5 (by simp)));obtain⟨_,g3,c,rfl⟩:=e.t.get (i:=12) (d:=28) (p:=lC) (by simp[bP]) (.inr (h 11 (by simp)));obtain⟨_,g4,H,rfl⟩:=e.t.get (i:=15) (d:=31) (p:=lC) (by simp[bP]) (.inr (h 14 (by simp)));refine pD q x (E0:=[(21,a.v),(22,b.v),(28,c.v),(31,H.v)]) (λB K=>?_) (by simp) (λ_ _ _ _ _=>rfl) (λ_ _ _ _=>by kernel_rfl) (v:=.agg #[a.v,b.v,c.v,H.v]) ?_
   .have K:B=.tmp 21\/B=.tmp 22\/B=.tmp 28\/B=.tmp 31:=by simpa[Op.operands]using K
    rcases K with rfl|rfl|rfl|rfl
    .exact ⟨_,g1,rfl⟩
    .exact ⟨_,g2,rfl⟩
    .exact ⟨_,g3,rfl⟩
    .exact ⟨_,g4,rfl⟩
   rw[k];exact e.a 15 32 _ (by omega) h w (by omega) (Fr.refl _ _) (by simp[bP];grind) (by simp[bP]),
  λz y j o q k x w h e=>by
   obtain⟨_,g,a,b,c,H,rfl⟩:=e.t.get (i:=16) (d:=32) (p:=λv=>∃a b c H:Sl,v=.agg #[a.v,b.v,c.v,H.v]) (by simp[bP]) (.inr (h 15 (by simp)));refine tJ q x (ns (by simp[Op.operands]) g) (by simp) (λ_ _ _ _ _=>rfl) (λ_ _ _ _=>by kernel_rfl) (v:=.slice (some (ab j.heap.size)) 1 1) (w':=j.alloc (.cells #[a.v,b.v,c.v,H.v] g9)) ?_;rw[k];refine⟨e.t.fill (by simp[bP];exact⟨⟨some (ab j.heap.size),1,1⟩,rfl⟩) (by simp[bP]),uS e.cl h,?_⟩;rcases e.ph with⟨A,E,C,F⟩|⟨A,_⟩|⟨A,_⟩
   .exact .inl ⟨by rw[eE (by omega),A],by rw[eE (by omega),E],C.br (Fr.alloc _ _ _),λ_=>⟨j.heap.size,⟨a,b,c,H⟩,nX,j2 j _⟩⟩
   .grind
   grind,
  λz y j o q k x w h e=>by
   obtain⟨_,af,rfl⟩:=e.t.get (i:=2) (d:=18) (p:=(·=aJ.v)) (by simp[bP]) (.inr (h 1 (by simp)));rcases e.ph with⟨A,E,C,F⟩|⟨_,A,_⟩|⟨_,A,_⟩
   .obtain ⟨b,B,e1,e2⟩:=F (h 16 (by simp));have hn:=(C.get 2:aK _ _ _ _ _).len;rw[Lm.len]at hn;refine aag q x af e1 (s:=aJ) (t:=⟨some (ab b),1,1⟩) (C.ap 2 HK (src:=⟨some (ab b),1,1⟩) (news:=B.cs) rfl (nq (n:=1) (sz:=4) (cs:=B.cs) e2 rfl).2.2 rfl (λu hu=>Lm.one (l:=[B]) u (by grind)) (by grind) λs' V P _ _=>?_);rw[k];refine⟨e.t.fill (by simp[bP];grind) (by simp[bP]),uS e.cl h,.inr (.inl ⟨λL O=>?_,zm,by rw[eE (by omega),E],s',B,nX,?_⟩)⟩
    .rw [eE (by omega)];have T:=e.cl 16 (h 16 (by simp));have G:=e.cl 15 (T 15 (by decide));have U:=e.cl 4 (G 4 (by decide));have c3:=e.cl 3 (U 3 (by decide));have Q:=e.cl 11 (G 11 (by decide));have aa:=e.cl 10 (Q 10 (by decide));have M:=e.cl 9 (aa 9 (by decide));have c8:=e.cl 8 (M 8 (by decide));have S:=e.cl 14 (G 14 (by decide));have ac:=e.cl 13 (S 13 (by decide));have Z:=e.cl 1 (h 1 (by simp))
     match L,O with
     |0,_=>exact Z 0 (by decide)
     |1,_=>grind
     |2,_=>exact c3 2 (by decide)
     |3,_=>exact U 3 (by decide)
     |4,_=>exact G 4 (by decide)
     |5,_=>exact G 5 (by decide)
     |6,_=>exact M 6 (by decide)
     |7,_=>exact c8 7 (by decide)
     |8,_=>exact M 8 (by decide)
     |9,_=>grind
     |10,_=>exact Q 10 (by decide)
     |11,_=>exact G 11 (by decide)
     |12,_=>exact ac 12 (by decide)
     |13,_=>exact S 13 (by decide)
     |14,_=>exact G 14 (by decide)
     |15,_=>exact T 15 (by decide)
     |16,_=>grind
     |L+17,al=>omega
    grind
   .grind
   grind,
  λz y j o q k x w h e=>by
   obtain⟨_,N,rfl⟩:=e.t.get (i:=0) (d:=5) (p:=(·=.pointer (some (ab b5)))) (by simp[bP]) (.inl rfl);refine pD q x (ns (by simp[Op.operands]) N) (by simp) (λ_ _ _ _ _=>rfl) (λ_ _ _ _=>by kernel_rfl) (v:=.pointer (some ((ab b5).add 0))) ?_;rw[k];refine⟨e.t.fill (by simp[bP]) (by simp[bP]),uS e.cl h,?_⟩;rcases e.ph with⟨A,_⟩|⟨A,E,F,s,B,I,W⟩|⟨A,E,F,I⟩
   .rw [h 17 (by simp)]at A;cases A
   .exact .inr (.inl ⟨λL O=>by grind,by grind,by rw[eE (by omega),F],s,B,by rw[hj (by omega),I],W⟩)
   grind,
  λz y j o q k x w h e=>by
   obtain⟨_,ag,rfl⟩:=e.t.get (i:=19) (d:=35) (p:=(·=.pointer (some ((ab b5).add 0)))) (by simp[bP]) (.inr (h 18 (by simp)));rcases e.ph with⟨A,_⟩|⟨A,E,F,s,B,I,C⟩|⟨A,E,F,I⟩
   .grind
   .refine aal q ag I (by kernel_rfl) ?_;rw[add_add];refine C.st 1 0 rfl λV P=>?_;rw[k];refine⟨e.t.YH (by simp[bP]),uS e.cl h,.inr (.inr ⟨λL O=>by grind,by grind,zm,s,B,P⟩)⟩
   grind,
  trivial⟩
def VS{w:J}{R:aH}(H:LH F0 w0 w (hP b4 b5 aJ ls st ds) D)(M:ls.length<=1000)(N:∀e,LH F0 w0 e (hP b4 b5 aJ ls st ds) D->∃xs,bo e l0 xs/\∀j∈xs,a7 j){t13:Int}(L:∀s j e,LH F0 w0 e (hP b4 b5 s (ls++[j]) st ds) D->gb.S1 l0 mo (ab b4) (ab b5) i6 e R):
  sK Y gb.jQ (λy w=>gb.pS y w R) [(14,.bool (ak (i6<t13))),(13,.i t13),(12,l0.v),(11,.i i6),(0,l0.v),(1,.i mo),(4,.pointer (some (ab b4))),(5,.pointer (some (ab b5))),(6,.i i6)] w:=by
 refine Cm Cb (by kernel_rfl) (pO w0 mo b4 b5 l0 aJ st i6 ls ds D) ⟨λO k x=>?_,λi q=>(by cases q),.inl ⟨rfl,rfl,H.drew,λq=>(by cases q)⟩⟩ (VT M N) λP y e B h=>?_
 .have x:O.1=0:=x.resolve_right (by simp);simp only[bP,au,aO,aR]at k
  (repeat' rcases k with rfl|k)<;>(try subst k)<;>first |(exact⟨_,rfl,rfl⟩)|(exact Nat.noConfusion x)
 .rcases h.ph with⟨z,_⟩|⟨_,_,A,_⟩|⟨_,_,_,s,j,C⟩
  .rw [B 17 (by decide)]at z;cases z
  .rw [B 19 (by decide)]at A;cases A
  .obtain ⟨_,E,rfl⟩:=h.t.get (i:=0) (d:=0) (p:=(·=l0.v)) (by simp[bP]) (.inl rfl);obtain⟨_,F,rfl⟩:=h.t.get (i:=0) (d:=1) (p:=(·=.i mo)) (by simp[bP]) (.inl rfl);obtain⟨_,G,rfl⟩:=h.t.get (i:=0) (d:=4) (p:=(·=.pointer (some (ab b4)))) (by simp[bP]) (.inl rfl);obtain⟨_,I,rfl⟩:=h.t.get (i:=0) (d:=5) (p:=(·=.pointer (some (ab b5)))) (by simp[bP]) (.inl rfl);obtain⟨_,K,rfl⟩:=h.t.get (i:=0) (d:=6) (p:=(·=.i i6)) (by simp[bP]) (.inl rfl);unfold gb.pS;rw[E,F,G,I,K];exact L s j e C
end
namespace O2
noncomputable abbrev t0:=az Y Tryz.f214 [(3,ls [0,1,2,3,4,5,6,7,8])] []
def ok:=aA t0 LZ [.Y]
end O2
namespace Pk
noncomputable abbrev t0:=az Y Tryz.f173 [] [2]
def aB:=aA t0 yE [.a 4,.I,.Y,.Y,.s,.I]
end Pk
namespace po
noncomputable abbrev t0:=az Y Tryz.f199 [(9,ls [0,1,5,6,2,3,4,7,8,9,10,11])] [1,9]
noncomputable def g1:=bf t0 [0,1,1,1,7] [(1,.l [.I,.Y,.Y,.s] aT),(5,.v [.st]),(6,.v [.I]),(7,.v [.st]),(79,.v [.s]),(80,.v [.I]),(81,.v [.I])]
noncomputable abbrev t1:=be g1
noncomputable abbrev cM:=av t1 [3,2,2,2,1,1,7] [(1,.l [.I,.Y,.Y,.s] aT),(5,.v [.st]),(6,.v [.I]),(7,.v [.st]),(10,.v [.st]),(79,.v [.s]),(80,.v [.I]),(81,.v [.I])]
noncomputable abbrev t2:=ay cM
def jT:=bg t2 g1
abbrev P0:Ps:=[(1,.l [.I,.Y,.Y,.s] aT),(4,.v [.st]),(5,.v [.st]),(6,.v [.I])]
noncomputable abbrev bM:=av t2 [4] P0
noncomputable abbrev t3:=ay bM
noncomputable abbrev bn:=av t3 [3] P0
noncomputable abbrev t4:=ay bn
def aB:=aA t4 LX [.a 4,.I,.Y,.Y,.s]
end po
namespace O0
noncomputable abbrev t0:=az Y Tryz.f158 [] [1]
def aB:=aA t0 LV [.a 4,.I,.Y,.Y,.s]
end O0
namespace QZ
noncomputable abbrev t0:=az Y Tryz.f147 [] [3,6]
def aB:=aA t0 Dm [.st]
end QZ
def N0(c:UInt8):s6 c=ng c:=by
 unfold s6 ng
 grind
def Qh(c:UInt8):jJ c=ey c:=rfl
def SM:(List.range 256).all (λn=>lj .u8 (n:Int) 15==((n%16:Nat):Int))=true:=by kernel_rfl
def I5{n:Nat}(h:n<16):(bG #[48,49,50,51,52,53,54,55,56,57,97,98,99,100,101,102])[n]? =some (ib n):=by
 have:n=0\/n=1\/n=2\/n=3\/n=4\/n=5\/n=6\/n=7\/n=8\/n=9\/n=10\/n=11\/n=12\/n=13\/n=14\/n=15:=by omega
 (repeat' rcases this with rfl|this)<;>(try subst this)<;>rfl
def DN(c:UInt8)(w:J):ai Y LZ #[.int .u8 (c.toNat:Int)] w λr C=>r=ae (.string (ba (dD c)))/\ag w C:=by
 have B:=c.toNat_lt;have k:LH F0 w w [] []:=bI [] (by simp);refine O2.ok _ w _ (k.call (GU c w) ?_);rintro _ D rfl j;refine⟨_,rfl,bB (λh=>?_) (λh=>?_)⟩
 .rw [N0]at h;refine j.oa (λE _ q e=>?_);have d:Bytes E ⟨some (ab D.heap.size),3,3⟩ [39,c,39]:=r2 (T:=cD) e rfl;refine⟨ba [39,c,39],ma d,?_,q.fr⟩;unfold dD;grind
 .rw [N0]at h;have z:Int.fdiv (c.toNat:Int) (2^(4))=((c.toNat / 16:Nat):Int):=by grind
  have A:lj .u8 (c.toNat:Int) 15=((c.toNat%16:Nat):Int):=eq_of_beq (ft.1 SM c.toNat (List.mem_range.2 B));refine j.dr λF x=>?_;rw[z,A];refine⟨by omega,_,I5 (by omega),by omega,_,I5 (by omega),x.oa (λG _ y e=>?_)⟩;have d:Bytes G ⟨some (ab F.heap.size),4,4⟩ [92,120,ib (c.toNat / 16),ib (c.toNat%16)]:=r2 (T:=cD) e rfl;refine⟨ba [92,120,ib (c.toNat / 16),ib (c.toNat%16)],ma d,?_,y.fr⟩;unfold dD;grind
abbrev FG(n:Nat):Prop:=∀(x:I) (w:J),x.sz<=n->il x.rx=true->x.P w->ai Y LX #[x.v] w λr d=>r=ae (.tuple #[.string (ba (a9 x.rx)),.i (cJ x.rx:Int)])/\ag w d
def NW{n:Nat}(G:n<=1000000)(q:FG n)(x:I)(d:Nat)(w:J)(h:x.sz<=n)(F:d<=1000)(z:il x.rx=true)(A:x.P w):ai Y yE #[x.v,.i (d:Int)] w λr B=>r=ae (.string (ba (cL d x.rx (a9 x.rx))))/\ag w B:=by
 refine Pk.aB _ _ _ _ _ w _ ((gG A).aG λD C e=>e.aw (q x C h z (e.getD 0)) ?_);rintro _ H rfl j;have E:(a9 x.rx).length<=18000000:=by have:=wX x.rx;rw[I.eB]at this;omega
 have k:bG #[40]++ba (a9 x.rx)++bG #[41]=ba (40::(a9 x.rx++[41])):=by show ba [40]++ba (a9 x.rx)++ba [41]=_;rw[dG,dG];simp
 refine⟨_,_,rfl,aF (λy=>⟨?_,?_,?_,j.fr⟩) (λy=>⟨?_,j.fr⟩)⟩
 .rw [cP];show ¬(((1+_:Nat):Int)>9223372036854775807);omega
 .have:(bG #[40]++ba (a9 x.rx)).size=1+(a9 x.rx).length:=by show(ba [40]++_).size=_;rw[dG,cP];grind
  rw[this];show ¬(((_+1:Nat):Int)>9223372036854775807);omega
 .rw [k];unfold cL;grind
 .unfold cL;grind
def NS:∀n:Nat,n<=1000000->FG n
 |0,_=>λe A j _ _=>absurd j (by have:=I.lS e;omega)
 |n+1,hn=>by
  have ih:=NS n (by omega);intro e A j aU px;have hs:=I.hW e;have hl:=I.fv e.l;have nr:=I.cr px.parts.1;have aE:=aU;rw[I.e1]at aE;obtain⟨k0,k7,am,aP⟩:=yO aE;have aR:(I.ao e.l).length=e.l.length:=by rw[I.fu,List.length_map]
  rw[aR]at am;have az:∀a∈e.l,il a.rx=true:=λa w=>yP aP (by rw[I.fu];grind);have an:∀(a:I) (lv:Nat),a.sz<=1000000->(cL lv a.rx (a9 a.rx)).length<=18000002:=λa lv w=>by have z:=wX a.rx;rw[I.eB]at z;have:=(qT lv a.rx (a9 a.rx)).1;omega
  have au:∀c,(dD c).length<=4:=λc=>by unfold dD;grind
  let T:aH:=λr w'=>r=ae (.tuple #[.string (ba (a9 e.rx)),.i (cJ e.rx:Int)])/\ag A w'
  have one:∀(a:I) (S:Nat) (q:J) (L:List En) (U:List Nat) (K:ByteArray->J->Prop),S<=1000->a∈e.l->LH F0 A q L [.tree e]->(∀w2,LH F0 A w2 L [.tree e]->K (ba (cL S a.rx (a9 a.rx))) w2)->Bk U yE #[.agg #[.i a.k,.int .u8 (a.lo.toNat:Int),.int .u8 (a.V.toNat:Int),a.s.v],.i (S:Int)] q K:=by
   intro a S q L U K aT w h hK;have ar:=I.eh w;refine h.aw (NW (by omega) ih a S q (by omega) aT (az a w) ((show e.P q from h.getD 0).parts.2.mem w)) ?_
   grind
  have G:a9 e.rx=a9 (.mk e.k e.lo e.V (I.ao e.l)):=by rw[I.e1]
  have aY:cJ e.rx=if e.k=6 then 3 else if e.k<3\/e.k=7\/e.l.length<2 then 4 else if e.k=3 then 2 else if e.k=4 then 0 else 1:=by rw[I.e1];unfold cJ;grind
  have M:(e.k<3\/e.k=7\/e.l.length<2)->e.k≠6->(4:Int)=(cJ e.rx:Int):=λz E=>by grind
  refine po.aB _ _ _ _ A _ ((gG px).aG λB q h=>?_);have h:LH F0 A q [.g B] [.tree e]:=h;refine aL (λhk=>⟨?_,h.fr⟩) (λax=>aL (λhk=>⟨?_,h.fr⟩) (λaO=>aL (λay=>?_) (λay=>aL (λN=>?_) (λN=>aL (λaa=>?_) (λaa=>?_)))))
  .rw [<-M (.inl (by omega)) (by omega),G];unfold a9;rw[aq hk];rfl
  .rw [<-M (.inl (by omega)) (by omega),G];unfold a9;rw[af ax,aq hk];rfl
  .have e2:a9 e.rx=if e.lo=e.V then dD e.lo else 91::(dD e.lo++45::(dD e.V++[93])):=by rw[G];unfold a9;grind
   rw[<-M (.inl (by omega)) (by omega)];refine aL (λaA=>h.aw (DN e.lo q) ?_) (λaA=>h.ah λw5 H5=>H5.aw (DN e.lo w5) ?_)
   .rintro _ C rfl y;exact⟨_,rfl,by rw[e2,aq (UInt8.toNat_inj.1 (by omega))],y.fr⟩
   .rintro _ O rfl F;have z:=au e.lo;have E:=au e.V;have s0:bG #[91]++ba (dD e.lo)++bG #[45]=ba (91::dD e.lo++[45]):=by show ba [91]++ba (dD e.lo)++ba [45]=_;rw[dG,dG];rfl
    refine⟨_,rfl,?_,?_,F.aw (DN e.V O) ?_⟩
    .rw [cP];show ¬(((1+_:Nat):Int)>9223372036854775807);omega
    .have:(bG #[91]++ba (dD e.lo)).size=1+(dD e.lo).length:=by show(ba [91]++_).size=_;rw[dG,cP];grind
     rw[this];show ¬(((_+1:Nat):Int)>9223372036854775807);omega
    rintro _ x rfl D;rw[s0];have:ba (91::dD e.lo++[45]++dD e.V)++bG #[93]=ba (91::dD e.lo++[45]++dD e.V++[93]):=by show _++ba [93]=_;rw[dG]
    refine⟨_,rfl,?_,?_,?_,D.fr⟩
    .rw [cP,cP];simp only[bc,dE,gS];show ¬(((_:Nat):Int)>9223372036854775807);omega
    .rw [dG,cP];simp only[bc,dE,gS];show ¬(((_+1:Nat):Int)>9223372036854775807);omega
    .rw [dG,this,e2,af (λj=>aA (by rw[j]))];simp
  .have z:=am (.inl N);have e6:a9 e.rx=33::jy (dn 3 (I.ao e.l)):=by rw[G];unfold a9;grind
   have e3:(3:Int)=(cJ e.rx:Int):=by grind
   match gi:e.l,z with
   |[a],_=>
    have w:a∈e.l:=by grind
    have ar:=I.eh w;refine iq (show e.P q from h.getD 0) (k:=0) rfl (by grind) (one a 3 q _ _ _ (by omega) w h λC y=>⟨?_,?_,y.fr⟩)
    .have:=an a 3 (by omega);rw[cP];show ¬(((1+_:Nat):Int)>9223372036854775807);omega
    .have:bG #[33]++ba (cL 3 a.rx (a9 a.rx))=ba (33::cL 3 a.rx (a9 a.rx)):=by show ba [33]++_=_;rw[dG];rfl
     rw[this,e6,gi,<-e3];rfl
  .have z:=am (.inr aa);have e7:a9 e.rx=jy (dn 4 (I.ao e.l))++[42]:=by rw[G];unfold a9;grind
   match gi:e.l,z with
   |[a],_=>
    have w:a∈e.l:=by grind
    have ar:=I.eh w;refine iq (show e.P q from h.getD 0) (k:=0) rfl (by grind) (one a 4 q _ _ _ (by omega) w h λC y=>⟨?_,?_,y.fr⟩)
    .have:=an a 4 (by omega);rw[cP];show ¬(((_+1:Nat):Int)>9223372036854775807);omega
    .have:ba (cL 4 a.rx (a9 a.rx))++bG #[42]=ba (cL 4 a.rx (a9 a.rx)++[42]):=by show _++ba [42]=_;rw[dG]
     rw[this,e7,gi,<-M (.inr (.inl aa)) N];rfl
  have hk:e.k=3\/e.k=4\/e.k=5:=by omega
  have S1:∀(word sign:BL) (level:Nat),word.length=3->qJ e.k=word++[40]->gK e.k=sign->level<=2->(2<=e.l.length->cJ e.rx=level)->po.bM B e.k e.lo.toNat e.V.toNat e.s (ba word) (ba sign) (level:Int) q T:=by
   intro word sign level hw aC ap a2 Z;have ef:e.l.length<2->a9 e.rx=qJ e.k++(jy (dn 0 (I.ao e.l))++[41]):=λj=>by rw[G];unfold a9;grind
   refine aL (λh0=>?_) (λh0=>aL (λz=>?_) (λz=>?_))
   .have hx:e.l=[]:=List.length_eq_zero_iff.1 (by omega);refine⟨?_,?_,h.fr⟩
    .rw [cP];show ¬(((_+2:Nat):Int)>9223372036854775807);omega
    .have:ba word++bG #[40,41]=ba (word++[40,41]):=by show _++ba [40,41]=_;rw[dG]
     rw[this,<-M (.inr (.inr (by omega))) N,ef (by omega),aC,hx];simp[I.ao,dn,jy]
   .match gi:e.l with
    |[]=>grind
    |_::_::_=>grind
    |[a]=>
     have w:a∈e.l:=by grind
     have ar:=I.eh w;have hp:=an a 0 (by omega);refine⟨?_,iq (show e.P q from h.getD 0) (k:=0) rfl (by grind) (one a 0 q _ _ _ (by omega) w h λC y=>⟨?_,?_,?_,y.fr⟩)⟩
     .rw [cP];show ¬(((_+1:Nat):Int)>9223372036854775807);omega
     .have:ba word++bG #[40]=ba (word++[40]):=by show _++ba [40]=_;rw[dG]
      rw[this,cP,cP];simp only[bc,dE,gS];show ¬(((_:Nat):Int)>9223372036854775807);omega
     .have:ba word++bG #[40]++ba (cL 0 a.rx (a9 a.rx))=ba (word++[40]++cL 0 a.rx (a9 a.rx)):=by show _++ba [40]++_=_;rw[dG,dG]
      rw[this,cP];simp only[bc,dE,gS];show ¬(((_+1:Nat):Int)>9223372036854775807);omega
     .have:ba word++bG #[40]++ba (cL 0 a.rx (a9 a.rx))++bG #[41]=ba (word++[40]++cL 0 a.rx (a9 a.rx)++[41]):=by show _++ba [40]++_++ba [41]=_;rw[dG,dG,dG]
      rw[this,<-M (.inr (.inr (by omega))) N,ef (by omega),aC,gi];simp[I.ao,dn,jy]
   .have E:2<=e.l.length:=by omega
    have Z:=Z E;have ej:a9 e.rx=yd e.k (dn (level+1) (I.ao e.l)):=by
     conv=>lhs;rw[G];unfold a9;rw[af ax,af aO,af ay,af N,af aa,af (by omega)]
     rw[<-I.e1,Z]
    have a5:sign.length<=1:=by rw[<-ap];unfold gK;grind
    have loop:∀(d i:Nat) (out:BL) (C:J),i+d=e.l.length->(1<=i->0<out.length)->(i=0->out=[])->out.length+gY (dn (level+1) (I.ao (e.l.drop i)))<=40000000->a9 e.rx=(if i=0 then yd e.k (dn (level+1) (I.ao (e.l.drop i)))else i2 e.k out (dn (level+1) (I.ao (e.l.drop i))))->LH F0 A C [.g B] [.tree e]->
      po.g1 B e.k e.lo.toNat e.V.toNat e.s (ba sign) (level:Int) (ba out) e.s ((e.s.n:Nat):Int) (i:Int) C T:=by
     intro d;induction d with
     |zero=>
      intro i out C hi ab hz ac H y;refine po.jT _ _ _ _ _ _ _ _ _ _ _ _ _ (aZ (aW (by omega)) ⟨?_,y.fr⟩);rw[H,cU (by omega),af (by omega),Z];rfl
     |succ d aX=>
      intro i out C hi ab hz ac H y;have hg:e.l[i]? =some (e.l[i]'(by omega)):=a4 (by omega);have av:e.l.drop i=(e.l[i]'(by omega))::e.l.drop (i+1):=dz (by omega);generalize e.l[i]'(by omega)=c at hg av;have hc:=aD hg;have a6:=I.eh hc;rw[av]at H ac;have ac:out.length+((cL (level+1) c.rx (a9 c.rx)).length+2+gY (dn (level+1) (I.ao (e.l.drop (i+1)))))<=40000000:=by
       have:gY (dn (level+1) (I.ao (c::e.l.drop (i+1))))=(cL (level+1) c.rx (a9 c.rx)).length+2+gY (dn (level+1) (I.ao (e.l.drop (i+1)))):=by simp[I.ao,dn,gY]
       omega
      have aK:0<(cL (level+1) c.rx (a9 c.rx)).length:=by have z:=z2 c.rx (az c hc);have:=(qT (level+1) c.rx (a9 c.rx)).2;omega
      have aJ:aj .i64 ((level:Int)+1)=((level+1:Nat):Int):=bb _ (by omega);have aM:i=0->a9 e.rx=i2 e.k (cL (level+1) c.rx (a9 c.rx)) (dn (level+1) (I.ao (e.l.drop (i+1)))):=λj=>by rw[aq j]at H;rw[H];rfl
      have Q:i≠0->a9 e.rx=i2 e.k ((if e.k=3/\ey (j5 out)=true/\ey (gQ (cL (level+1) c.rx (a9 c.rx)) 0)=true then out++[32]else out)++gK e.k++cL (level+1) c.rx (a9 c.rx)) (dn (level+1) (I.ao (e.l.drop (i+1)))):=λj=>by rw[af j]at H;rw[H];rfl
      refine po.jT _ _ _ _ _ _ _ _ _ _ _ _ _ (a1 (aS (by omega)) (iq (show e.P C from y.getD 0) rfl hg (y.aG λb9 w4 H4=>H4.ah λw5 H5=>?_)));rw[aJ];refine one c (level+1) w5 _ _ _ (by omega) hc H5 λO F=>?_;have F:LH F0 A O [.g B,.g b9] [.tree e]:=F;generalize cL (level+1) c.rx (a9 c.rx)=t at aM Q ac aK;have go:∀(o:BL) (x:J),o.length<=out.length+1->out.length<=o.length->a9 e.rx=i2 e.k (o++t) (dn (level+1) (I.ao (e.l.drop (i+1))))->LH F0 A x [.g B,.g b9] [.tree e]->po.cM B e.k e.lo.toNat e.V.toNat e.s (ba sign) (level:Int) (ba o) (ba t) e.s ((e.s.n:Nat):Int) (i:Int) x T:=by
       intro o x z E h3 D;refine⟨?_,?_⟩
       .rw [cP,cP];show ¬(((_:Nat):Int)>9223372036854775807);omega
       .rw [dG,bb _ (by omega)];refine aX (i+1) (o++t) x (by omega) (λ_=>by grind) (λj=>by omega) (by grind) (by grind) (D.take 1)
      refine aF (λaN=>⟨?_,?_⟩) (λaN=>go out O (by omega) (bm _) (by grind) F)
      .rw [cP,cP];show ¬(((_:Nat):Int)>9223372036854775807);omega
      have Q:=Q (by omega);have ab:=ab (by omega);rw[ap]at Q;have ea:ba out++ba sign=ba (out++sign):=dG _ _;have ad:∀x,LH F0 A x [.g B,.g b9] [.tree e]->¬(e.k=3/\ey (j5 out)=true/\ey (gQ t 0)=true)->po.cM B e.k e.lo.toNat e.V.toNat e.s (ba sign) (level:Int) (ba (out++sign)) (ba t) e.s ((e.s.n:Nat):Int) (i:Int) x T:=λx D a3=>go (out++sign) x (by grind) (by grind) (by grind) D;rw[ea];refine aL (λai=>?_) (λai=>ad O F (λj=>ai j.1));have s3:sign=[]:=by rw[<-ap];unfold gK;grind
      have e9:out++sign=out:=by grind
      rw[e9]at ad ⊢;have eo:aj .i64 ((((ba out).size:Nat):Int) - 1)=((out.length - 1:Nat):Int):=by rw[cP,aQ _ (by omega)];omega
      rw[eo];refine⟨by omega,j5 out,?_,F.aw (xD (j5 out) O) ?_⟩
      .rw [bH,gm (s:=ba out) (by rw[cP];omega),mS,JC out ab]
      rintro _ x rfl D;refine⟨_,rfl,bB (λak=>⟨by omega,gQ t 0,?_,D.aw (xD (gQ t 0) x) ?_⟩) (λak=>ad x D (λj=>by rw[Qh,j.2.1]at ak;grind))⟩
      .rw [show aV 0=0 from rfl,gm (s:=ba t) (by rw[cP];omega),mS]
      rintro _ w8 rfl H8;refine⟨_,rfl,bB (λal=>⟨?_,?_⟩) (λal=>ad w8 H8 (λj=>by rw[Qh,j.2.2]at al;grind))⟩
      .rw [cP];show ¬(((_+1:Nat):Int)>9223372036854775807);omega
      .have aI:ba out++bG #[32]=ba (out++[32]):=by show _++ba [32]=_;rw[dG]
       rw[aI];refine go (out++[32]) w8 (by simp) (by simp) ?_ H8;rw[aq ⟨ai,ak,al⟩,s3,List.append_nil]at Q;omega
    have h3:=rl (level+1) (I.ao e.l);have W:Rx.a0 (I.ao e.l)=I.a0 e.l:=I.wu e.l;exact loop e.l.length 0 [] q (by omega) (λj=>by omega) (λ_=>rfl) (by grind) (by grind) h
  have bd:2<=e.l.length->cJ e.rx=if e.k=3 then 2 else if e.k=4 then 0 else 1:=λE=>by grind
  refine aL (λW=>S1 [97,108,116] [124] 0 rfl (by rw[W];rfl) (by rw[W];rfl) (by omega) (λE=>by grind)) (λW=>aL (λh5=>S1 [97,108,108] [38] 1 rfl (by rw[h5];rfl) (by rw[h5];rfl) (by omega) (λE=>by grind)) (λh5=>S1 [99,97,116] [] 2 rfl (by rw[show e.k=3 by omega];rfl) (by rw[show e.k=3 by omega];rfl) (by omega) (λE=>by grind)))
def YF(x:I)(d:Nat)(w:J)(h:x.sz<=1000000)(e:d<=1000)(j:il x.rx=true)(k:x.P w):ai Y yE #[x.v,.i (d:Int)] w λr q=>r=ae (.string (ba (cL d x.rx (a9 x.rx))))/\ag w q:=NW (bm _) (NS 1000000 (bm _)) x d w h e j k
def W6:(List.range 1728).all (λd=>Nat.ble (lT d).length 64)=true:=by kernel_rfl
def Ri(k:Nat):(lT k).length<=64:=by rw[Rh];exact Nat.le_of_ble_eq_true (ft.1 W6 (k%1728) (List.mem_range.2 (Nat.mod_lt _ (by omega))))
def kE(U k:Nat)(w:J):Prop:=w.heap[U]? =some (.cells #[.i (k:Int)] bN (0,0))
def Hc{U k:Nat}{w:J}(h:kE U k w):w.cell? (ab U)=some (.i (k:Int)):=by
 have:=cellAt (p:=ab U) (i:=0) (v:=.i (k:Int)) h rfl rfl
 rwa[iW]at this
abbrev np(s:Sl)(l:List I):I:=.mk 0 0 0 s l
def Fb{M:Nat->Prop}{t:I}{w w':J}(h:t.P w)(f:Fr M w w')(e:∀b∈t.fp,¬M b):t.P w':=I.cb t (λb d j=>f.cb b j (e b d)) h
section
variable {s:Sl} {l:List I} {U:Nat}
def Bb(L:I.a0 l<=1000000)(Q:U∉(np s l).fp)(i j k:Nat)(S:k<=100)(V:i<l.length)(K:j<l.length){w:J}(H:(np s l).P w)(x:kE U k w):
  ai Y Mt #[s.v,.i (i:Int),.i (j:Int),.pointer (some (ab U)),.func (.func cd) #[] #[]] w λr C=>(∃a b z:Nat,r=ae (.tuple #[.i (a:Int),.i (b:Int)])/\(a=i/\b=j\/a=j/\b=i)/\z<=k+1/\kE U z C)/\Fr (·=U) w C:=by
 have h:l[i]? =some l[i]:=a4 V;have q:l[j]? =some l[j]:=a4 K;generalize l[i]=a at h;generalize l[j]=b at q;have M:=aD h;have B:=aD q;have d:ag w w.drew:=Fr.drew _ _;have e:=H.br d;refine Qc.ok _ _ _ _ w _ (iq e rfl q (iq e rfl h ?_));refine(xz b a w.drew (a6 (I.eh B) L) (e.parts.2.mem B) (e.parts.2.mem M)).mono ?_;rintro _ N ⟨rfl,f⟩;have A:=lt_of_heap x;have y:kE U k N:=by unfold kE at x ⊢;rw[f.cb U (kr A d.size) id,d.cb U A id];exact x
 refine⟨_,rfl,aF (λ_=>?_) (λ_=>⟨⟨i,j,k,rfl,.inl ⟨rfl,rfl⟩,Nat.le_succ _,y⟩,(d.dA f).oc⟩)⟩;obtain⟨D,E,O,F⟩:=tC y 0 (by simp) (.i (((k+1:Nat)):Int));rw[iW]at D E O F;refine⟨(k:Int),Hc y,D,E,?_⟩;rw[bb _ (by omega)];exact⟨⟨j,i,k+1,rfl,.inr ⟨rfl,rfl⟩,bm _,by unfold kE;grind⟩,(d.dA f).oc.trans F λT _ G=>G⟩
end
def mB{α:Type}{O:List α}{i j:Nat}{a b:α}(V:O[i]? =some a)(e:O[j]? =some b)(d:Nat):((O.set i b).set j a)[d]? =if d=j then some a else if d=i then some b else O[d]?:=by grind
def QH{α:Type}{O:List α}{i j:Nat}{a b:α}(V:O[i]? =some a)(h:O[j]? =some b):((O.set i b).set j a).Perm O:=by obtain⟨d,rfl⟩:=cz.1 V;obtain⟨e,rfl⟩:=cz.1 h;exact List.set_set_perm d e
abbrev nJ(d x:I):Prop:=a5 x.rx d.rx<0
section
variable {s:Sl} {l:List I} {w:J}
abbrev F1(s:Sl)(l:List I)(w d:J)(O:List I):Prop:=LH (·∈ax s) w d [.row aT 4 s (O.flatMap I.c)] [.trees l]
end
def Od{w:J}{l m:List I}(h:I.Ps w l)(d:m.Perm l):I.Ps w m:=I.ir λt e=>h.mem (d.mem_iff.1 e)
def VN{l m:List I}(e:m.Perm l){b:Nat}(h:b∈I.a8 m):b∈I.a8 l:=by obtain⟨t,j,d⟩:=I.bJ.1 h;exact I.bJ.2 ⟨t,e.mem_iff.1 j,d⟩
def YS{M:Nat->Prop}{l:List I}{w w':J}(h:I.Ps w l)(f:Fr M w w')(e:∀b∈I.a8 l,¬M b):I.Ps w' l:=I.keeps l (λb d j=>f.cb b j (e b d)) h
namespace P'
noncomputable abbrev t0:=az Y Tryz.f232 [] []
def ok:=aA t0 Mr [.s,.I,.r,.g cd 0 0]
end P'
namespace wC
noncomputable abbrev t0:=az Y Tryz.f221 [(3,ls [0,1,2,3,4,5,6,7,8,9,10,11,12,13,14,15])] []
abbrev P0:Ps:=[(0,.v [.s]),(8,.v [.I]),(9,.v [.I])]
noncomputable def L0:=bf t0 [0,1,2] P0
noncomputable abbrev t1:=be L0
noncomputable abbrev S1:=av t1 [2,1,1,2,2] P0
noncomputable abbrev t2:=ay S1
def bC:=bg t2 L0
def ok:=aA t2 Mx [.s,.I,.I,.g cd 0 0]
end wC
namespace Qd
noncomputable abbrev t0:=az Y Tryz.f231 [(1,ls [0,1,2,3,4,5,6,7,8,9]),(2,ls [0,1,2,3,4,5,6,7,8,9]),(3,ls [0,1,2,3,4,5,6,7,8,9])] []
def ok:=aA t0 Mz [.r]
end Qd
namespace Qb
noncomputable abbrev t0:=az Y Tryz.f230 [] []
def ok:=aA t0 Dk [.I]
end Qb
namespace py
noncomputable abbrev t0:=az Y Tryz.f219 [(10,ls [0,1,2,3,4,5,6,7,8,9,10,11,12,13,14,15,16,17,18,19])] []
noncomputable def L1:=bf t0 [0,1,3,1,2] [(0,.v [.s]),(1,.v [.I]),(8,.v [.I]),(9,.v [.r]),(10,.v [.U]),(11,.v [.I])]
noncomputable abbrev t1:=be L1
abbrev P0:Ps:=[(0,.v [.s]),(1,.v [.I]),(8,.v [.I]),(9,.v [.r]),(10,.v [.U]),(11,.v [.I]),(12,.v [.I])]
noncomputable abbrev S3:=av t1 [2,2,1,2,3,1,2] P0
noncomputable abbrev t2:=ay S3
noncomputable abbrev S2:=av t2 [1,2,1,2,3,1,2] P0
noncomputable abbrev t3:=ay S2
def fI:=bg t3 L1
noncomputable abbrev S0:=av t3 [1] [(0,.v [.s]),(1,.v [.I]),(8,.v [.I])]
noncomputable abbrev t4:=ay S0
def ok:=aA t4 Mo [.s,.I,.I,.g cd 0 0]
end py
namespace tF
noncomputable abbrev t0:=az Y Tryz.f229 [(3,ls [0,1,2,3,4,5,6,7,8,9,10,11,12,13,14,15,16,17,18,19,20,21]),(5,ls [0,1,2,3,4,5,6,7,8,9,10,11,12,13,14,15]),(6,ls [0,1,2,3,4,5,6,7,8,9,10,11,12,13,14,15,16,17,18,19,20,21,22,23])] []
noncomputable def L0:=bf t0 [0,1,1] [(0,.v [.s]),(2,.v [.I]),(3,.v [.I]),(4,.v [.g cd 0 0]),(10,.v [.I])]
noncomputable abbrev t1:=be L0
abbrev P0:Ps:=[(0,.v [.s]),(2,.v [.I]),(3,.v [.I]),(4,.v [.g cd 0 0]),(10,.v [.I]),(11,.v [.I])]
noncomputable abbrev S2:=av t1 [3,3,1] P0
noncomputable abbrev t2:=ay S2
noncomputable abbrev S1:=av t2 [1,3,1] P0
noncomputable abbrev t3:=ay S1
def bC:=bg t3 L0
def ok:=aA t3 My [.s,.I,.I,.I,.g cd 0 0]
end tF
namespace oo
noncomputable abbrev t0:=az Y Tryz.f218 [(10,ls [0,1,2,3,4,5,6,7,8,9,10,11,12,13,14,15,16,17,18,19])] []
noncomputable def L1:=bf t0 [0,1,1,1,3] [(0,.v [.s]),(3,.v [.g cd 0 0]),(8,.v [.I]),(9,.v [.I]),(10,.v [.I]),(11,.v [.I])]
noncomputable abbrev t1:=be L1
noncomputable def L2:=bf t1 [0,1,5] [(0,.v [.s]),(3,.v [.g cd 0 0]),(8,.v [.I]),(9,.v [.I]),(12,.v [.I])]
noncomputable abbrev t2:=be L2
def k9:=bg t2 L2
def fI:=bg t2 L1
noncomputable abbrev S0:=av t2 [3] [(0,.v [.s]),(3,.v [.g cd 0 0]),(8,.v [.I]),(9,.v [.I]),(10,.v [.I])]
noncomputable abbrev t3:=ay S0
def ok:=aA t3 Mq [.s,.I,.I,.g cd 0 0]
end oo
namespace ny
noncomputable abbrev t0:=az Y Tryz.f223 [(1,ls [0,1,2,3,4,5,6,7,8,9,10,11,12,13,14,15]),(3,ls [0,1,2,3,4,5,6,7,8,9,10,11,12,13,14,15,16]),(5,ls [0,1,2,3,4,5,6,7,8,9,10,11,12,13,14,15]),(8,ls [0,1,2,3,4,5,6,7,8,9,10,11,12,13,14,15])] []
abbrev P0:Ps:=[(0,.v [.s]),(1,.v [.I]),(4,.v [.g cd 0 0]),(11,.v [.I]),(12,.v [.I])]
noncomputable def L0:=bf t0 [0,2,3] P0
noncomputable abbrev t1:=be L0
noncomputable def L1:=bf t1 [0,6,3] P0
noncomputable abbrev t2:=be L1
noncomputable def L2:=bf t2 [0,2,1,4,3] P0
noncomputable abbrev t3:=be L2
noncomputable abbrev S4:=av t3 [5,4,3] P0
noncomputable abbrev t4:=ay S4
noncomputable abbrev S3:=av t4 [2,4,3] P0
noncomputable abbrev t5:=ay S3
def k9:=bg t5 L2
def fI:=bg t5 L1
def bC:=bg t5 L0
def ok:=aA t5 Mw [.s,.I,.I,.I,.g cd 0 0]
end ny
structure Sq(s:Sl)(l:List I)(w w1:J)(O:List I):Prop where
 H:F1 s l w w1 O
 p:O.Perm l
namespace Sq
variable {s:Sl} {l O:List I} {w w1:J}
def len(h:Sq s l w w1 O):O.length=l.length:=h.p.length_eq
def n(h:Sq s l w w1 O):s.n=l.length:=by have d:=(h.H.get 0:aK w1 aT 4 s (O.flatMap I.c)).len;rw[oX I.c 4 I.jq]at d;have:=h.len;omega
def dr(h:Sq s l w w1 O){K:J->Prop}(j:∀d,Sq s l w d O->K d):lr w1 K:=h.H.dr λd e=>j d ⟨e,h.p⟩
def fr(h:Sq s l w w1 O):Fr (·∈ax s) w w1:=h.H.fr
def cmp(h:Sq s l w w1 O)(S:I.a0 l<=1000000){i j:Nat}{x y:I}{X e:Int}(V:O[i]? =some x)(q:O[j]? =some y)(N:X=(i:Int))(P:e=(j:Int)){K:Int->J->Prop}(Q:∀d,Sq s l w d O->K (a5 x.rx y.rx) d):
  fb s X λp=>fM w1 (p.add (aV X *4)) λB C D E=>fb s e λU=>fM w1 (U.add (aV e *4)) λF G L M=>qj cd #[.agg #[.i B,.int .u8 C,.int .u8 D,E.v],.agg #[.i F,.int .u8 G,.int .u8 L,M.v]] w1 K:=by have z:x∈l:=h.p.mem_iff.1 (aD V);have T:y∈l:=h.p.mem_iff.1 (aD q);have k:I.Ps w1 l:=h.H.getD 0;refine h.H.el 0 i N V (h.H.el 0 j P q ?_);refine h.H.call (xz x y w1 (a6 (I.eh z) S) (k.mem z) (k.mem T)) ?_;rintro _ d rfl A;exact⟨_,rfl,Q d ⟨A,h.p⟩⟩
def swap(h:Sq s l w w1 O){i j:Nat}{x y:I}{X d:Int}(V:O[i]? =some x)(k:O[j]? =some y)(A:X=(i:Int))(B:d=(j:Int)){K:J->Prop}(T:∀z,Sq s l w z ((O.set j x).set i y)->K z):
  lr w1 λw1=>fb s X λp=>fM w1 (p.add (aV X *4)) λE F G L=>fb s d λq=>fM w1 (q.add (aV d *4)) λM N P Q=>
   fb s d λq=>kY w1 (q.add (aV d *4)) (.i E) (.int .u8 F) (.int .u8 G) (L.v) λW=>fb s X λp=>kY W (p.add (aV X *4)) (.i M) (.int .u8 N) (.int .u8 P) (Q.v) K:=by have Z:=(cz.1 V).1;have S:=(cz.1 k).1;refine h.H.dr λz e=>e.el 0 i A V (e.el 0 j B k (e.u3 0 j (t:=x) B S λw3 C=>?_));refine C.u3 0 i (t:=y) (O:=O.set j x) A (by rw[List.length_set];omega) λU D=>T U ⟨D,?_⟩;exact(QH k V).trans h.p
end Sq
def Sg(a b:Nat)(O e:List I):Prop:=e.Perm O/\∀d,d<a\/b<=d->e[d]? =O[d]?
namespace Sg
variable {a b:Nat} {O us vs:List I}
def refl(a b:Nat)(O:List I):Sg a b O O:=⟨.refl _,λ_ _=>rfl⟩
def trans(h:Sg a b O us)(k:Sg a b us vs):Sg a b O vs:=⟨k.1.trans h.1,λe d=>(k.2 e d).trans (h.2 e d)⟩
def wide(h:Sg a b O us){c d:Nat}(j:c<=a)(k:b<=d):Sg c d O us:=⟨h.1,λe q=>h.2 e (by omega)⟩
def len(h:Sg a b O us):us.length=O.length:=h.1.length_eq
def swap{i j:Nat}{x y:I}(V:O[i]? =some x)(d:O[j]? =some y)(h:a<=i/\i<b/\a<=j/\j<b):Sg a b O ((O.set j x).set i y):=
 ⟨QH d V,λk e=>by rw[mB d V,af (by omega),af (by omega)]⟩
def ZQ(h:Sg a b O us)(x:a<=b)(y:b<=O.length):((us.take b).drop a).Perm ((O.take b).drop a):=by
 have z:=h.len;have q:us.take a=O.take a:=by
  apply List.ext_getElem?;intro j;rw[tf,tf];split
  .exact h.2 j (by omega)
  .rfl
 have w:us.drop b=O.drop b:=by apply List.ext_getElem?;intro j;rw[te,te];exact h.2 _ (by omega)
 have d:∀l:List I,l=l.take a++((l.take b).drop a++l.drop b):=λl=>by
  have k:l.take a=(l.take b).take a:=by rw[List.take_take];congr 1;omega
  rw[<-cp,k,lO,lO]
 have e:=h.1;rw[d us,d O,q,w]at e;exact(List.perm_append_right_iff _).1 ((List.perm_append_left_iff _).1 e)
def mem(h:Sg a b O us)(e:a<=b)(k:b<=O.length){j:Nat}{y:I}(w:us[j]? =some y)(A:a<=j)(B:j<b):∃i,a<=i/\i<b/\O[i]? =some y:=by have x:y∈(us.take b).drop a:=aD (i:=j - a) (by rw[te,tf,aq (by omega),show a+(j - a)=j by omega];exact w);have z:=(h.ZQ e k).mem_iff.1 x;obtain⟨i,d⟩:=List.mem_iff_getElem?.1 z;have q:=(cz.1 d).1;simp at q;rw[te,tf,aq (by omega)]at d;exact⟨a+i,by omega,by omega,d⟩
end Sg
def k'(O:List I)(i j:Nat):Prop:=∀d e,O[i]? =some d->O[j]? =some e->a5 d.rx e.rx<=0
def jm(a b:Nat)(O:List I):Prop:=∀i d,a<=i->i<d->d<b->k' O i d
def l2(a b:Nat)(O:List I):Prop:=∀d,a<=d->d<b->0<a->k' O (a - 1) d
def qC{x y z:Rx}(d:a5 x y<=0)(e:a5 y z<=0):a5 x z<=0:=(uT x y z).le d e
def o9{x y:Rx}(h:¬a5 x y<0):a5 y x<=0:=by have:=jr x y;omega
def l2.sg{a b:Nat}{O e:List I}(h:l2 a b O)(k:Sg a b O e)(x:b<=O.length):l2 a b e:=by intro E q w j C D d z;obtain⟨i,A,B,y⟩:=k.mem (by omega) x z q w;rw[k.2 _ (by omega)]at d;exact h i A B j C D d y
def aaa{O:List I}(h:jm 0 O.length O):ku (O.map I.rx):=by unfold ku;rw[List.pairwise_map,List.pairwise_iff_getElem];intro i k e d j;exact h i k (by omega) j d _ _ (a4 e) (a4 d)
section
variable {s:Sl} {l O:List I} {w w1:J}
def Sq.lt(h:Sq s l w w1 O)(j:I.a0 l<=1000000):O.length<=1000000/\s.n=O.length:=by have:=I.fv l;have d:=h.n;have e:=h.len;omega
def ed{O:List I}{i:Nat}(h:i<O.length):∃d,O[i]? =some d:=⟨O[i],a4 h⟩
def Y6(h:Sq s l w w1 O)(F:I.a0 l<=1000000){a b:Nat}(K:a<b)(L:b<=O.length):
  ai Y Mx #[s.v,.i (a:Int),.i (b:Int),.func (.func cd) #[] #[]] w1 λr k=>r=ae (.tuple #[])/\∃d,Sq s l w k d/\Sg a b O d:=by
 have Q:=(h.lt F).1;have loop:∀(D i j:Nat) (d:List I) (e:J),j - i<D->a<=i->i<=j+1->j<b->Sq s l w e d->Sg a b O d->wC.L0 s (i:Int) (j:Int) e λr k=>r=ae (.tuple #[])/\∃d,Sq s l w k d/\Sg a b O d:=by
  intro D;induction D with
  |zero=>intro i j d e C;omega
  |succ D G=>
   intro i j d e C M N P q g;have hlen:=g.len;refine wC.bC _ _ _ _ _ (aF (λE=>?_) (λE=>⟨rfl,d,q,g⟩));obtain⟨T,y⟩:=ed (O:=d) (i:=j) (by omega);obtain⟨S,x⟩:=ed (O:=d) (i:=i) (by omega);refine q.swap y x rfl rfl λH B=>?_;show wC.L0 _ _ _ _ _;have A:aj .i64 ((j:Int) - 1)=((j - 1:Nat):Int):=by rw[aQ _ (by omega)];omega
   rw[bb _ (by omega),A];exact G (i+1) (j - 1) _ H (by omega) (by omega) (by omega) (by omega) B (g.trans (Sg.swap y x (by omega)))
 have z:aj .i64 ((b:Int) - 1)=((b - 1:Nat):Int):=by rw[aQ _ (by omega)];omega
 refine wC.ok _ _ _ w1 _ ?_;rw[z];exact loop (b - 1 - a+1) a (b - 1) O w1 (by omega) (bm _) (by omega) (by omega) h (Sg.refl _ _ _)
def Sq.tree(h:Sq s l w w1 O):(np s O).P w1:=by unfold np I.P;exact⟨(h.H.get 0:aK w1 aT 4 s (O.flatMap I.c)).bd,Od (h.H.getD 0) h.p⟩
def Sq.br(h:Sq s l w w1 O){d:J}(f:ag w1 d):Sq s l w d O:=⟨h.H.br f,h.p⟩
def Ou{U:Nat}(q:I.a0 O<=1000000)(d:U∉(np s O).fp)(a b c k:Nat)(hk:k<=90)(K:a<O.length)(L:b<O.length)(M:c<O.length){w:J}(j:(np s O).P w)(N:kE U k w):
  ai Y Ms #[s.v,.i (a:Int),.i (b:Int),.i (c:Int),.pointer (some (ab U)),.func (.func cd) #[] #[]] w λr A=>(∃m z:Nat,r=ae (.i (m:Int))/\(m=a\/m=b\/m=c)/\z<=k+3/\kE U z A)/\Fr (·=U) w A:=by have x:∀B∈(np s O).fp,¬B=U:=λB V G=>d (G▸V);refine Qa.ok _ _ _ _ _ w _ ((Bb q d a b k (by omega) K L j N).mono ?_);rintro _ w1 ⟨⟨C,D,W,rfl,h1,aa,Q⟩,e⟩;refine⟨_,_,rfl,(Bb q d D c W (by omega) (by omega) M (Fb j e x) Q).mono ?_⟩;rintro _ w2 ⟨⟨E,c2,Z,rfl,h2,ac,S⟩,y⟩;refine⟨_,_,rfl,(Bb q d C E Z (by omega) (by omega) (by omega) (Fb (Fb j e x) y x) S).mono ?_⟩;rintro _ w3 ⟨⟨a3,F,k3,rfl,h3,ad,T⟩,H⟩;exact⟨_,_,rfl,⟨F,k3,rfl,by omega,by omega,T⟩,(e.trans y λ_ _ h=>h).trans H λ_ _ h=>h⟩
def Y5(h:Sq s l w w1 O)(V:I.a0 l<=1000000){a b:Nat}(al:a+12<b)(hb:b<=O.length):
  ai Y Mp #[s.v,.i (a:Int),.i (b:Int),.func (.func cd) #[] #[]] w1 λr z=>∃(p:Nat) (k:Int),r=ae (.tuple #[.i (p:Int),.i k])/\a<=p/\p<b/\Sq s l w z O:=by
 have hl:=(h.lt V).1;have W:I.a0 O<=1000000:=by rw[E1 h.p];exact V
 have G:=h.tree;obtain⟨L,hL⟩:∃L,L=b - a:=⟨_,rfl⟩;have eL:aj .i64 ((b:Int) - (a:Int))=(L:Int):=by rw[aQ _ (by omega)];omega
 have eq:∀k:Nat,k<=3->aj .i64 ((a:Int)+aj .i64 (aj .i64 (bL (L:Int) 4) *(k:Int)))=((a+L / 4 *k:Nat):Int):=λk M=>by
  have q:bL (L:Int) 4=((L / 4:Nat):Int):=rfl;have S:L / 4 *k<=L:=a6 (Nat.mul_le_mul_left _ (by omega:k<=4)) (Nat.div_mul_le_self L 4);rw[q,aQ ((L / 4:Nat):Int) (by omega)];have C:((L / 4:Nat):Int) *(k:Int)=((L / 4 *k:Nat):Int):=by rw[Int.natCast_mul]
  rw[C,aQ ((L / 4 *k:Nat):Int) (by omega),aQ _ (by omega)];omega
 have q1:=eq 1 (by omega);have q2:=eq 2 (by omega);have q3:=eq 3 (by omega);refine zs.ok _ _ _ w1 _ ?_;have Q:ag w1 (w1.alloc (.cells #[.i 0] bN)):=Fr.alloc _ _ _;have T:kE w1.heap.size 0 (w1.alloc (.cells #[.i 0] bN)):=j2 w1 _;have H:w1.heap.size∉(np s O).fp:=λh=>absurd (I.lt _ G _ h) (by omega);have nd:∀P∈(np s O).fp,¬P=w1.heap.size:=λP U B=>H (B▸U);have fin:∀{d:J} {p k:Nat},a<=p->p<b->kE w1.heap.size k d->ag w1 d->zs.S5 (ab w1.heap.size) (p:Int) d λr z=>∃(p:Nat) (k:Int),r=ae (.tuple #[.i (p:Int),.i k])/\a<=p/\p<b/\Sq s l w z O:=λ{d p k} E F x f=>
  ⟨(k:Int),Hc x,bB (λ_=>⟨p,1,rfl,E,F,h.br f⟩) λ_=>bB (λ_=>⟨p,2,rfl,E,F,h.br f⟩) λ_=>⟨p,0,rfl,E,F,h.br f⟩⟩
 have new:∀{d e:J},ag w1 d->Fr (·=w1.heap.size) d e->ag w1 e:=λf g=>f.trans g λP U B=>by subst B;omega
 rw[eL];show bh (ak ((L:Int)>=8)) (bh (ak ((L:Int)>=50)) _ _) _;have ad:aj .i64 ((a:Int)+aj .i64 (aj .i64 (bL (L:Int) 4) *1))=((a+L / 4 *1:Nat):Int):=q1;have af:aj .i64 ((a:Int)+aj .i64 (aj .i64 (bL (L:Int) 4) *2))=((a+L / 4 *2:Nat):Int):=q2;have ah:aj .i64 ((a:Int)+aj .i64 (aj .i64 (bL (L:Int) 4) *3))=((a+L / 4 *3:Nat):Int):=q3;rw[ad,af,ah];have Z:∀{d:J} {i j k n:Nat},n<=60->a<=i->i<b->a<=j->j<b->a<=k->k<b->kE w1.heap.size n d->ag w1 d->zs.S4 s (ab w1.heap.size) (i:Int) (j:Int) (k:Int) d λr z=>∃(p:Nat) (k:Int),r=ae (.tuple #[.i (p:Int),.i k])/\a<=p/\p<b/\Sq s l w z O:=by intro d i j k n hn i1 i2 j1 ap k1 k2 x f;refine(Ou W H i j k n (by omega) (by omega) (by omega) (by omega) (G.br f) x).mono ?_;rintro _ e ⟨⟨m,y,rfl,S,M,N⟩,D⟩;exact⟨_,rfl,fin (by omega) (by omega) N (new f D)⟩
 have A:∀{d:J} {i n:Nat} {K:Int->J->Prop},n<=50->a+1<=i->i+1<b->kE w1.heap.size n d->ag w1 d->(∀(m y:Nat) (e:J),a<=m->m<b->y<=n+3->kE w1.heap.size y e->ag w1 e->K (m:Int) e)->qj Mr #[s.v,.i (i:Int),.pointer (some (ab w1.heap.size)),.func (.func cd) #[] #[]] d K:=by
  intro d i n K hn i1 i2 x f hK;have q:aj .i64 ((i:Int) - 1)=((i - 1:Nat):Int):=by rw[aQ _ (by omega)];omega
  refine P'.ok _ _ _ d _ ?_;rw[q,bb _ (by omega)];refine(Ou W H (i - 1) i (i+1) n (by omega) (by omega) (by omega) (by omega) (G.br f) x).mono ?_;rintro _ e ⟨⟨m,y,rfl,S,M,N⟩,D⟩;exact⟨_,rfl,_,rfl,hK m y e (by omega) (by omega) M N (new f D)⟩
 have d1:3<=L / 4:=by omega
 have d2:L / 4 *4<=L:=Nat.div_mul_le_self L 4;refine a1 (aS (by omega)) (aF (λac=>?_) (λac=>Z (by omega) (by omega) (by omega) (by omega) (by omega) (by omega) (by omega) T Q));refine A (by omega) (by omega) (by omega) T Q λm1 k1 d aa a2 am c1 g1=>A (by omega) (by omega) (by omega) c1 g1 λm2 k2 e b1 b2 an c2 g2=>A (by omega) (by omega) (by omega) c2 g2 λm3 k3 w4 q C ao c3 g3=>Z (by omega) aa a2 b1 b2 q C c3 g3
end
section
variable {s:Sl} {l O:List I} {w w1:J}
def Sq.of(h:Sq s l w w1 O){q:J}{k:List I}(A:aK q aT 4 s (k.flatMap I.c))(B:k.Perm O)(f:Fr (·∈ax s) w1 q):Sq s l w q k:=by
 have x:∀b∈I.a8 l,¬b∈ax s:=λb j z=>h.H.dj _ (bT.2 rfl) b (aM.2 j) _ (bT.2 rfl) z;refine⟨⟨h.H.fr.trans f λ_ _ h=>h,λe d=>?_,λe d=>?_,λe d=>?_,?_,λe d b j C y=>?_⟩,B.trans h.p⟩
 .cases bT.1 d;exact A
 .cases bT.1 d;exact YS (h.H.getD 0) f x
 .cases bT.1 d;exact h.H.new (.row aT 4 s (O.flatMap I.c)) (bT.2 rfl)
 .exact h.H.nd
 .cases bT.1 y;exact h.H.dj e d b j (.row aT 4 s (O.flatMap I.c)) (bT.2 rfl)
def Sq.dj(h:Sq s l w w1 O):∀d∈ax s,d∉I.a8 O:=λd j e=>
 h.H.dj _ (bT.2 rfl) d (aM.2 (VN h.p e)) _ (bT.2 rfl) j
def Sg.XK{A X e Z:List I}(h:e.Perm X):Sg A.length (A.length+X.length) (A++X++Z) (A++e++Z):=by
 have j:=h.length_eq;refine⟨(h.append_left A).append_right Z,λk d=>?_⟩;rw[cp,cp];rcases d with d|d
 .rw [D2 d,D2 d]
 .rw [v8 (by omega),v8 (by omega),v8 (by omega),v8 (by omega),j]
def aab{A j Z:List I}(h:ku (j.map I.rx)):jm A.length (A.length+j.length) (A++j++Z):=by
 intro i w x y z B C d e;unfold ku at h;rw[List.pairwise_map,List.pairwise_iff_getElem]at h;rw[cp,v8 (by omega),D2 (by omega)]at d e;obtain⟨k,d⟩:=cz.1 d;obtain⟨q,e⟩:=cz.1 e;have:=h (i - A.length) (w - A.length) k q (by omega)
 rwa[d,e]at this
def Y2(h:Sq s l w w1 O)(G:I.a0 l<=1000000){a b:Nat}(M:a<=b)(N:b<=O.length):
  ai Y Dj #[s.v,.i (a:Int),.i (b:Int),.func (.func cd) #[] #[]] w1 λr L=>r=ae (.tuple #[])/\∃q,Sq s l w L q/\Sg a b O q/\jm a b q:=by
 have K:I.a0 O<=1000000:=by rw[E1 h.p];exact G
 obtain⟨d,y⟩:∃d,d=O.take a:=⟨_,rfl⟩;obtain⟨X,z⟩:∃X,X=(O.take b).drop a:=⟨_,rfl⟩;obtain⟨e,F⟩:∃e,e=O.drop b:=⟨_,rfl⟩;have j:d.length=a:=by rw[y,List.length_take];omega
 have k:d.length+X.length=b:=by rw[j,z,List.length_drop,List.length_take];omega
 have x:O=d++X++e:=by
  have D:d=(O.take b).take a:=by rw[y,List.take_take];congr 1;omega
  rw[D,z,lO,F,lO]
 have c:=T' s O w1 K (h.H.get 0) (Od (h.H.getD 0) h.p) h.dj d X e x b k.symm;rw[j]at c;refine c.mono ?_;rintro _ P ⟨⟨rfl,E⟩,C⟩;have B:=Z6 X;have g:Sg a b O (d++fU X++e):=by have:=Sg.XK (A:=d) (Z:=e) B;rw[<-x,k,j]at this;exact this
 refine⟨rfl,_,h.of E g.1 C,g,?_⟩;have:=aab (A:=d) (Z:=e) (Z4 X);rw[B.length_eq,k,j]at this;exact this
end
section
variable {s:Sl} {l O us:List I} {w w1 w2:J}
def Sq.base(h:Sq s l w w1 O):Sq s l w1 w1 O:=⟨⟨Fr.refl _ _,h.H.own,h.H.rd,λj e b d=>.inr (by cases bT.1 e;exact d),h.H.nd,h.H.dj⟩,h.p⟩
def Sq.comp(h:Sq s l w w1 O)(k:Sq s l w1 w2 us):Sq s l w w2 us:=⟨⟨h.H.fr.trans k.H.fr λ_ _ h=>h,k.H.own,k.H.rd,λj e b d=>.inr (by cases bT.1 e;exact d),k.H.nd,k.H.dj⟩,k.p⟩
def Sq.B9(h:Sq s l w w1 O){U:Nat}(x:U∉ax s)(y:U∉I.a8 l)(z:w.heap.size<=U)(f:Fr (·=U) w1 w2):Sq s l w w2 O:=by
 refine⟨⟨h.H.fr.trans f λB A d=>by omega,λd e=>?_,λd e=>?_,h.H.new,h.H.nd,h.H.dj⟩,h.p⟩
 .refine d.st w1 w2 (λb q k=>f.cb b k λj=>?_) (h.H.own d e);cases bT.1 e;exact x (j▸q)
 .refine d.st w1 w2 (λb q k=>f.cb b k λj=>?_) (h.H.rd d e);cases bT.1 e;exact y (j▸aM.1 q)
end
def aaX{t:ByteArray}{m:Nat}{K:UInt8->Prop}(h:(List.range 256).all (λm=>match t[m]? with |some b=>Nat.ble (2^b.toNat) (2 *m)||Nat.beq m 0|none=>false)=true)(k:m<256)(q:0<m)(j:∀b:UInt8,2^b.toNat<=2 *m->K b):∃b:UInt8,t[m]? =some b/\K b:=by
 have:=ft.1 h m (List.mem_range.2 k);split at this
 .rename_i b e;refine⟨b,e,j b ?_⟩;rcases(Bool.or_eq_true _ _).mp this with d|d
  .exact Nat.le_of_ble_eq_true d
  .have:=Nat.eq_of_beq_eq_true d;omega
 .cases this
def TJ(x:Nat)(e:0<x)(M:x<4294967296)(w:J):ai Y CW #[.u (x:Int)] w λr A=>∃t:Nat,r=ae (.i (t:Int))/\2^t<=2 *x/\A=w:=by
 let h:aH:=λr A=>∃t:Nat,r=ae (.i (t:Int))/\2^t<=2 *x/\A=w
 have E:∀(y n:Nat),0<y->y<256->n<=100->y *2^n<=x->j7.S2 (y:Int) (n:Int) w h:=by
  intro y n e C H j;have F:aj .u8 (y:Int)=(y:Int):=by rw[IntKind.wrap_u8];omega
  show(0:Int)<=aj .u8 (y:Int)/\_;rw[F];refine⟨by omega,?_⟩;refine aaX (by kernel_rfl) (show y<256 from C) (show 0<y from e) λb G=>?_;have L:=b.toNat_lt;have I:aj .i64 ((n:Int)+aj .i64 ((b.toNat:Nat):Int))=((n+b.toNat:Nat):Int):=by rw[aQ ((b.toNat:Nat):Int) (by omega),aQ _ (by omega)];omega
  refine⟨n+b.toNat,?_,?_,rfl⟩
  .rw [I]
  .rw [Nat.pow_add]
   calc 2^n *2^b.toNat<=2^n *(2 *y):=Nat.mul_le_mul_left _ G
    _=2 *(y *2^n):=by rw[Nat.mul_comm y,Nat.mul_left_comm]
    _<=2 *x:=Nat.mul_le_mul_left _ j
 have B:∀(y k:Nat),Int.fdiv (y:Int) ((k:Nat):Int)=((y / k:Nat):Int):=λy k=>by rw[Int.fdiv_eq_ediv_of_nonneg _ (by omega)];rfl
 have D:∀(y n:Nat),0<y->y<65536->n<=50->y *2^n<=x->j7.S1 (y:Int) (n:Int) w h:=by
  intro y n e C H j;refine aF (λd=>?_) (λd=>E y n e (by omega) (by omega) j);have q:aj .i64 ((n:Int)+8)=((n+8:Nat):Int):=by rw[aQ _ (by omega)];omega
  have z:Int.fdiv (y:Int) (2^8)=((y / 256:Nat):Int):=B y 256;rw[q,z];refine E (y / 256) (n+8) (by omega) (by omega) (by omega) (a6 ?_ j);rw[Nat.pow_add,Nat.mul_comm (2^n),<-Nat.mul_assoc];exact Nat.mul_le_mul_right _ (Nat.div_mul_le_self y 256)
 have K:j7.S0 (x:Int) ((0:Nat):Int) w h:=by
  refine aF (λd=>?_) (λd=>D x 0 e (by omega) (by omega) (by omega));have q:aj .i64 (((0:Nat):Int)+16)=((16:Nat):Int):=by rw[aQ _ (by omega)];rfl
  have z:Int.fdiv (x:Int) (2^16)=((x / 65536:Nat):Int):=B x 65536;rw[q,z];exact D (x / 65536) 16 (by omega) (by omega) (by omega) (Nat.div_mul_le_self x 65536)
 refine CH.ok _ w _ ((j7.ok _ w h (aZ (aW (by omega)) K)).mono ?_);rintro _ N ⟨t,rfl,d,rfl⟩;exact⟨_,rfl,t,rfl,d,rfl⟩
def Ug(x:Nat)(k:0<x)(A:x<=1000000)(w:J):ai Y Dk #[.i (x:Int)] w λr y=>∃m:Nat,r=ae (.u (m:Int))/\0<m/\m<=2 *x/\y=w:=by
 refine Qb.ok _ w _ ?_;have h:aj .u64 (x:Int)=(x:Int):=IntWalk.u64_in _ (by omega);rw[h];refine(TJ x k (by omega) w).mono ?_;rintro _ B ⟨t,rfl,e,rfl⟩;have z:t<64:=by
  by_cases q:t<64
  .exact q
  .have:2^64<=2^t:=Nat.pow_le_pow_right (by omega) (by omega);omega
 have d:min (aV (t:Int)) (IntKind.bits .u64)=t:=by show min t 64=t;omega
 have j:aj .u64 (1 *2^t)=((2^t:Nat):Int):=by
  have:(1 *2^t:Int)=((2^t:Nat):Int):=by rw[Int.one_mul];exact(Int.natCast_pow 2 t).symm
  rw[this];clear this d;generalize 2^t=p at e ⊢;exact IntWalk.u64_in _ (by omega)
 refine⟨_,rfl,by omega,2^t,?_,Nat.two_pow_pos t,e,rfl⟩;rw[d,j]
def SN(t:Int){m:Nat}(j:0<m)(h:m<4294967296):∃k:Nat,k<m/\lj .u64 t (aj .u64 ((m:Int) - 1))=(k:Int):=by
 have d:aj .u64 ((m:Int) - 1)=((m - 1:Nat):Int):=by rw[IntWalk.u64_in _ (by omega)];omega
 rw[d];unfold lj;have e:(eF (IntKind.bits .u64) t&&& eF (IntKind.bits .u64) ((m - 1:Nat):Int)).toNat<=m - 1:=by show(eF 64 t&&& eF 64 ((m - 1:Nat):Int)).toNat<=_;rw[BitVec.toNat_and,BitVec.ofInt_natCast,BitVec.toNat_ofNat,Nat.mod_eq_of_lt (by omega)];exact Nat.and_le_right
 exact⟨_,by omega,IntWalk.u64_in _ (by omega)⟩
def iH(U:Nat)(u:Int)(w:J):Prop:=w.heap[U]? =some (.cells #[.u u] Fj (0,0))
section
variable {U:Nat} {u v:Int} {w w':J}
def iH.ld(h:iH U u w):w.cell? (ab U)=some (.u u):=by
 have:=cellAt (p:=ab U) (i:=0) (v:=.u u) h rfl rfl
 rwa[iW]at this
def iH.fr{M:Nat->Prop}(h:iH U u w)(f:Fr M w w')(d:¬M U):iH U u w':=by unfold iH at h ⊢;rw[f.cb U (lt_of_heap h) d];exact h
def iH.st(h:iH U u w){K:J->Prop}(q:∀w',iH U v w'->Fr (·=U) w w'->K w'):aP w (ab U) (.u v) K:=by obtain⟨d,e,j,k⟩:=tC h 0 (by simp) (.u v);rw[iW]at d e j k;exact⟨d,e,q _ (by unfold iH;rw[j];rfl) k⟩
def iH.dr(h:iH U u w):iH U u w.drew:=h.fr (M:=F0) (Fr.drew _ w) id
def Uy(h:iH U u w):ai Y Mz #[.pointer (some (ab U))] w λr w'=>∃t:Int,r=ae (.u t)/\iH U t w'/\Fr (·=U) w w':=by refine Qd.ok _ w _ ?_;refine⟨_,h.dr.ld,_,h.dr.ld,h.dr.st λz e q=>⟨_,e.dr.ld,_,e.dr.ld,e.dr.st λA j x=>⟨_,j.dr.ld,_,j.dr.ld,j.dr.st λB k y=>⟨_,k.ld,_,rfl,k,?_⟩⟩⟩⟩;have d:∀w:J,Fr (·=U) w w.drew:=λw=>Fr.drew _ _;have tr:∀{a b c:J},Fr (·=U) a b->Fr (·=U) b c->Fr (·=U) a c:=λf g=>f.trans g λ_ _ h=>h;exact tr (tr (tr (d _) q) (tr (d _) x)) (tr (d _) y)
end
section
variable {s:Sl} {l O:List I} {w w1:J}
def YZ(h:Sq s l w w1 O)(hz:I.a0 l<=1000000){a b:Nat}(ah:a<=b)(hb:b<=O.length):
  ai Y Mo #[s.v,.i (a:Int),.i (b:Int),.func (.func cd) #[] #[]] w1 λr x=>r=ae (.tuple #[])/\∃d,Sq s l w x d/\Sg a b O d:=by
 have hl:=(h.lt hz).1;obtain⟨L,hL⟩:∃L,L=b - a:=⟨_,rfl⟩;have Z:aj .i64 ((b:Int) - (a:Int))=(L:Int):=by rw[aQ _ (by omega)];omega
 refine py.ok _ _ _ w1 _ ?_;rw[Z];refine aF (λh8=>?_) (λ_=>⟨rfl,O,h,Sg.refl _ _ _⟩);have T:bL (L:Int) 4=((L / 4:Nat):Int):=rfl;have U:aj .i64 (aj .i64 (bL (L:Int) 4) *2)=((L / 4 *2:Nat):Int):=by rw[T,aQ ((L / 4:Nat):Int) (by omega),aQ _ (by omega)];omega
 have A:aj .i64 ((a:Int)+aj .i64 (aj .i64 (bL (L:Int) 4) *2))=((a+L / 4 *2:Nat):Int):=by rw[U,aQ _ (by omega)];omega
 obtain⟨c,hc⟩:∃c,c=a+L / 4 *2:=⟨_,rfl⟩;rw[<-hc]at A;have V:aj .i64 ((c:Int)+1)=((c+1:Nat):Int):=bb _ (by omega);have W:aj .i64 ((c:Int) - 1)=((c - 1:Nat):Int):=by rw[aQ _ (by omega)];omega
 obtain⟨e,P⟩:∃e,e=w1.heap.size:=⟨_,rfl⟩;have hd:e∉(np s O).fp:=λj=>absurd (I.lt _ h.tree _ j) (by omega);have y:e∉ax s:=λj=>by have:=(En.row aT 4 s (O.flatMap I.c)).lt w1 (h.H.own _ (bT.2 rfl)) e j;omega
 have C:e∉I.a8 l:=λj=>by have:=(En.trees l).lt w1 (h.H.rd _ (bT.2 rfl)) e (aM.2 j);omega
 have F:w.heap.size<=e:=by have:=h.fr.size;omega
 have loop:∀(D idx m:Nat) (u:Int) (d:List I) (q:J),c+2 - idx<D->a<=idx->0<m->m<=2 *L->iH e u q->Sq s l w q d->Sg a b O d->py.L1 s (a:Int) (L:Int) (ab e) (m:Int) (idx:Int) q λr x=>r=ae (.tuple #[])/\∃d,Sq s l w x d/\Sg a b O d:=by
  intro D;induction D with
  |zero=>intro idx m u d q hD;omega
  |succ D ih=>
   intro idx m u d q hD hi j E hu G g;have hlen:=g.len;refine py.fI _ _ _ _ _ _ _ _ ?_;rw[A,V];refine aF (λac=>?_) (λac=>⟨rfl,d,G,g⟩);refine(Uy hu).mono ?_;rintro _ z ⟨t,rfl,ag,f3⟩;refine⟨_,rfl,?_⟩;have M:=G.B9 y C F f3;obtain⟨k,hk,ek⟩:=SN t j (by omega);show py.S2 _ _ _ _ _ _ (aj .i64 (lj .u64 t (aj .u64 ((m:Int) - 1)))) _ _;rw[ek,aQ ((k:Nat):Int) (by omega)];have s3:∀o:Nat,o<L->py.S3 s (a:Int) (L:Int) (ab e) (m:Int) (idx:Int) (o:Int) z λr x=>r=ae (.tuple #[])/\∃d,Sq s l w x d/\Sg a b O d:=by
    intro o ho;have B:aj .i64 ((a:Int)+(o:Int))=((a+o:Nat):Int):=by rw[aQ _ (by omega)];omega
    obtain⟨ak,Q⟩:=ed (O:=d) (i:=a+o) (by omega);obtain⟨al,S⟩:=ed (O:=d) (i:=idx) (by omega);refine M.base.swap Q S B rfl λw4 N=>?_;show py.L1 _ _ _ _ _ _ _ _;rw[bb _ (by omega)];exact ih (idx+1) m t _ w4 (by omega) (by omega) j E (ag.fr N.fr y) (M.comp N) (g.trans (Sg.swap Q S (by omega)))
   refine aF (λaa=>?_) (λaa=>s3 k (by omega));have B:aj .i64 ((k:Int) - (L:Int))=((k - L:Nat):Int):=by rw[aQ _ (by omega)];omega
   rw[B];exact s3 (k - L) (by omega)
 have f0:Fr (·=e) w1 (w1.alloc (.cells #[.u 0] Fj)):=Fr.alloc _ _ _;have ad:iH e 0 (w1.alloc (.cells #[.u 0] Fj)):=P▸j2 w1 _;rw[A,W,show nb w1=ab e from P▸rfl];refine ad.st (K:=λq=>ai Y Dk #[.i (L:Int)] q λr_ z=>∃t21:Int,r_=ae (.u t21)/\py.L1 s (a:Int) (L:Int) (ab e) t21 ((c - 1:Nat):Int) z λr x=>r=ae (.tuple #[])/\∃d,Sq s l w x d/\Sg a b O d) λq af f2=>?_;refine(Ug L (by omega) (by omega) q).mono ?_;rintro _ z ⟨m,rfl,j,E,rfl⟩;exact⟨_,rfl,loop (c+2+1) (c - 1) m _ O _ (by omega) (by omega) j E af ((h.B9 y C F f0).B9 y C F f2) (Sg.refl _ _ _)⟩
end
end Go.Proofs.YthhmdddomhknaaaGreatDoor
