import Derived.Test.YtnaglpcbkhjpnaaGreatDoorE3
import Derived.Lib.BufferWrite
import Derived.Lib.UnsafeStr
import Derived.Test.YtnaglpcbkhjpnaaGreatDoorR14
import Derived.Test.YtnaglpcbkhjpnaaGreatDoorU
import Derived.Test.YtnaglpcbkhjpnaaGreatDoorWN
import Derived.Test.YtnaglpcbkhjpnaaGreatDoorG9
set_option linter.unusedVariables false
set_option maxRecDepth 100000
set_option maxHeartbeats 1000000
set_option linter.defProp false
namespace Go.Proofs.YtnaglpcbkhjpnaaGreatDoor
open Go renaming World->J,Calls->aj,Program->aH,Value->aa,TypeId->aC,Ending->cE
open Go.IntKind renaming wrap->ah
open _root_.Int renaming toNat->a5,tdiv->bS,tmod->cp,toNat_natCast->bo
open _root_.ByteArray renaming mk->bh
open Go.IntWalk renaming i64_in->aN
open Go.Builtin renaming append_->eu
open Go.Sem renaming run->f'
open _root_.Nat renaming le_refl->bm,le_trans->bz,lt_of_lt_of_le->mT
open _root_.UInt8 renaming ofNat->c9
open Go.Proofs.Tryz renaming prog->V
open _root_.Decidable renaming decide->au
open Go.Ending renaming returned->ae
open List renaming mem_append->aW,mem_cons->aq,not_mem_nil->aL,mem_of_getElem?->aG,getElem?_eq_getElem->a',mem_append_left->bG,mem_append_right->dL,mem_flatMap->bX,length_append->a9,length_cons->bI,length_nil->dH,append_assoc->cN,mem_singleton->bY,flatMap_append->de,nodup_append->ho,length_map->gJ,drop_eq_getElem_cons->dw,getElem?_map->ib,all_eq_true->fa,append_nil->ed,take_add_one->dM,drop_of_length_le->du,take_of_length_le->eh
open Go Go.W
def vj:List Int:=[1,10,100,1000,10000,100000,1000000,10000000,100000000,1000000000,10000000000,100000000000,1000000000000,10000000000000,100000000000000,1000000000000000,10000000000000000,100000000000000000,1000000000000000000,10000000000000000000]
abbrev Ik(n:Int):aa:=.int .u64 n
abbrev sM:En:=.rd ⟨some (ab 3),20,20⟩ (vj.map Ik)
def acR:∀d<20,vj[d]? =some ((10^d:Nat):Int):=md
def lC(x:Nat):Nat:=if x=0 then 0 else Nat.log2 x+1
def abl:∀d<256,abG[d]? =some (c9 (lC d))/\lC d<=8/\d<2^lC d/\(d≠0->2^(lC d - 1)<=d/\1<=lC d):=by decide+kernel
def XR{u:Nat}(P:u≠0)(Y:u<2^64)(w:J):aj V Pf #[.u (u:Int)] w λr j=>(∃L:Nat,r=ae (.i (L:Int))/\1<=L/\L<=64/\2^(L - 1)<=u/\u<2^L)/\j=w:=by
 have fin:∀(x n:Nat),x≠0->x<256->n<=56->2^n *x<=u->u<2^n *(x+1)->k1.S2 (x:Int) (n:Int) w λr j=>(∃L:Nat,r=ae (.i (L:Int))/\1<=L/\L<=64/\2^(L - 1)<=u/\u<2^L)/\j=w:=by
  intro x n A C G d h;obtain⟨H,S,I,K⟩:=abl x C;obtain⟨M,T⟩:=K A;have e:ah .u8 (x:Int)=(x:Int):=by rw[IntKind.wrap_u8];omega
  have N:((c9 (lC x)).toNat:Int)=(lC x:Int):=by rw[UInt8.toNat_ofNat'];omega
  dsimp only[k1.S2,ak];rw[e,bo];refine⟨co,_,H,⟨n+lC x,?_,co,co,?_,?_⟩,rfl⟩
  .have O:ah .i64 ((n:Int)+ah .i64 (lC x:Int))=((n+lC x:Nat):Int):=by rw[aN (lC x:Int) co,aN _ co];omega
   rw[N,O]
  .rw [show n+lC x - 1=n+(lC x - 1)by omega,Nat.pow_add];exact bz (Nat.mul_le_mul_left _ M) d
  .rw [Nat.pow_add];exact mT h (Nat.mul_le_mul_left _ I)
 have D:∀(x n k:Nat),2^n *x<=u->u<2^n *(x+1)->2^(n+k) *(x / 2^k)<=u/\u<2^(n+k) *(x / 2^k+1):=by
  intro x n k d h;have Q:=Nat.two_pow_pos k;have U:=Nat.div_add_mod x (2^k);have W:=Nat.mod_lt x Q;rw[Nat.pow_add,Nat.mul_assoc,Nat.mul_assoc];constructor
  .exact bz (Nat.mul_le_mul_left _ (Nat.mul_div_le x _)) d
  .refine mT h (Nat.mul_le_mul_left _ ?_);rw[Nat.mul_add,Nat.mul_one];omega
 have B:∀x k:Nat,Int.fdiv (x:Int) (2^k)=((x / 2^k:Nat):Int):=λx k=>by have:=z9 x (2^k) (Nat.two_pow_pos k);rw[Int.natCast_pow]at this;exact this
 have F:∀(x n:Nat),x≠0->x<65536->n<=48->2^n *x<=u->u<2^n *(x+1)->k1.S1 (x:Int) (n:Int) w λr j=>(∃L:Nat,r=ae (.i (L:Int))/\1<=L/\L<=64/\2^(L - 1)<=u/\u<2^L)/\j=w:=by intro x n A C G d h;refine aE (λz=>?_) (λz=>fin x n A co co d h);obtain⟨q,y⟩:=D x n 8 d h;rw[B,show ah .i64 ((n:Int)+8)=((n+8:Nat):Int)by rw[aN _ co];omega];exact fin _ _ co co co q y
 have E:∀(x n:Nat),x≠0->x<4294967296->n<=32->2^n *x<=u->u<2^n *(x+1)->k1.S0 (x:Int) (n:Int) w λr j=>(∃L:Nat,r=ae (.i (L:Int))/\1<=L/\L<=64/\2^(L - 1)<=u/\u<2^L)/\j=w:=by intro x n A C G d h;refine aE (λz=>?_) (λz=>F x n A co co d h);obtain⟨q,y⟩:=D x n 16 d h;rw[B,show ah .i64 ((n:Int)+16)=((n+16:Nat):Int)by rw[aN _ co];omega];exact F _ _ co co co q y
 refine k1.ok _ w _ (aE (λz=>?_) (λz=>E u 0 P co co co co));obtain⟨q,y⟩:=D u 0 32 co co;rw[B];exact E _ 32 co co co q y
def abL:∀d<65,1<=d->d *78913 / 2^18<20/\10^(d *78913 / 2^18 - 1)<=2^(d - 1)/\2^d<=10^(d *78913 / 2^18+1)/\(d *78913 / 2^18=0->d<=3):=by decide+kernel
def JB{u:Nat}(D:u≠0)(N:u<2^64)(w:J)(G:sM.P w):aj V O9 #[.u (u:Int)] w λr z=>r=ae (.i (((cc u).length:Nat):Int))/\z=w:=by
 refine Mz.ok _ w _ ((XR D N w).mono ?_);rintro _ h ⟨⟨L,rfl,O,l2,l3,Q⟩,rfl⟩;obtain⟨S,t2,T,t4⟩:=abL L co O;have e:Int.fdiv (ah .i64 ((L:Int) *78913)) (2^18)=((L *78913 / 2^18:Nat):Int):=by rw[show ah .i64 ((L:Int) *78913)=((L *78913:Nat):Int)by rw[aN _ co];omega];have:=z9 (L *78913) (2^18) (Nat.two_pow_pos _);rw[Int.natCast_pow]at this;exact this
 refine⟨_,rfl,Mx.ok _ h _ ⟨_,rfl,?_⟩⟩;rw[e];generalize W:L *78913 / 2^18=n at *;have x:h.cell? ((ab 3).add n)=some (.u ((10^n:Nat):Int)):=by have:=Rd.get (show Rd h ⟨some (ab 3),20,20⟩ (vj.map Ik)from G) (i:=n) (j:=n) (v:=Ik ((10^n:Nat):Int)) (by rw[ib,acR n S];rfl) co (K:=λp=>∃y,some y=some (ab 3)/\h.cell? (y.add n)=some (.u ((10^n:Nat):Int))) (λp I x=>⟨p,I.symm,x⟩);obtain⟨y,hq,d⟩:=sL this;obtain⟨q',M,C⟩:=d;cases M;exact C
 refine⟨co,co,((10^n:Nat):Int),by rw[bo,Nat.mul_one];exact x,?_⟩;have E:∀b:Bool,aj V O6 #[.bool b] h λr z=>r=ae (.i (if b then 1 else 0))/\z=h:=λb=>
  Mw.ok _ h _ (by cases b<;>exact⟨rfl,rfl⟩)
 refine(E _).mono ?_;rintro _ w2 ⟨rfl,rfl⟩;refine⟨_,rfl,?_,rfl⟩;have main:(if au ((u:Int)>=((10^n:Nat):Int))=true then(n:Int)+1 else(n:Int)+0)=(((cc u).length:Nat):Int):=by
  have Z:1<=(cc u).length:=by
   cases F:cc u with
   |nil=>exact absurd F (uy _)
   |cons c l=>simp
  by_cases B:10^n<=u
  .rw [av (aQ co)];have U:(cc u).length<=n+1:=zN co (mT Q T);have lo:n+1<=(cc u).length:=by
    rcases Nat.lt_or_ge (cc u).length (n+1)with d|d
    .exfalso;have q:=B7 (cc u) (o5 u);rw[nF]at q;have:=Nat.pow_le_pow_right (n:=10) co (show(cc u).length<=n by omega);omega
    .exact d
   omega
  .rw [ag (λd=>B (by have:=eP d;omega))];have H:1<=n:=by
    rcases Nat.eq_zero_or_pos n with d|d
    .subst d;rw[Nat.pow_zero]at B;omega
    .exact d
   have U:(cc u).length<=n:=zN H co;have lo:n<=(cc u).length:=by
    rcases Nat.lt_or_ge (cc u).length n with d|d
    .exfalso;have q:=B7 (cc u) (o5 u);rw[nF]at q;have:=Nat.pow_le_pow_right (n:=10) co (show(cc u).length<=n - 1 by omega);omega
    .exact d
   omega
 have Y:(n:Int)<20:=co
 cases A:au ((u:Int)>=((10^n:Nat):Int))with
 |true=>
  rw[A,av rfl]at main;have k:ah .i64 ((n:Int)+1)=(n:Int)+1:=aN _ co;rw[av rfl,<-main,k]
 |false=>
  rw[A,ag md]at main;have k:ah .i64 ((n:Int)+0)=(n:Int)+0:=aN _ co;rw[ag md,<-main,k]
def aes:∀d<100,xU[2 *d]? =some (gY (d / 10))/\xU[2 *d+1]? =some (gY (d%10)):=by decide+kernel
def Dg(u nd o n:Nat)(vs:List aa):Prop:=vs.length=24/\∀d,n<=d->d<nd->vs[o+d]? =some (cq (gY (u / 10^(nd - 1 - d)%10)))
def Em{u nd n i:Nat}(d:n<=nd)(hi:i<n):u / 10^(nd - 1 - (n - 1 - i))%10=u / 10^(nd - n) / 10^i%10:=by rw[Nat.div_div_eq_div_mul,<-Nat.pow_add,show nd - n+i=nd - 1 - (n - 1 - i)by omega]
def Dg.put{u nd o n:Nat}{vs:List aa}(h:Dg u nd o (n+1) vs)(y:o+nd<=24)(x:n+1<=nd){d:Nat}(q:d=u / 10^(nd - 1 - n)%10):Dg u nd o n (vs.set (o+n) (cq (gY d))):=by
 refine⟨by rw[List.length_set];exact h.1,λw j k=>?_⟩;rcases Nat.eq_or_lt_of_le j with e|e
 .subst e;rw[List.getElem?_set_self (by rw[h.1];omega),q]
 .rw [List.getElem?_set_ne co];exact h.2 w e k
section
variable {M:Nat->Prop} {w0 w:J} {D:List En} {a:Sl} {b o:Nat} {vs:List aa} {T:aC}
def G0(k:a.a=some ((ab b).add o))(H:LH M w0 w [.c b vs T] D){X:Int}{n:Nat}(j:X=(n:Int))(x:n<a.n)(q:o+n<vs.length){v:aa}{K:J->Prop}(h:∀d,LH M w0 d [.c b (vs.set (o+n) v) T] D->K d):
  fo a X λp=>aS w (p.add (a5 X *1)) v K:=by subst j;refine⟨co,co,?_⟩;rw[k];show aS w (((ab b).add o).add (a5 (n:Int) *1)) v K;rw[bo,Nat.mul_one,add_add];exact H.st 0 (o+n) rfl h q
def pair{x n:Nat}{nd c1 c2:Int}{u k:Nat}(h:a.a=some ((ab b).add o))(S:x<100)(L:nd - c1=((n+1:Nat):Int))(N:nd - c2=(n:Int))(Z:n+1<a.n)(j:o+a.n<=24)(d:Dg u a.n o (n+2) vs)(G:x%10=u / 10^(a.n - 1 - (n+1))%10)(I:x / 10=u / 10^(a.n - 1 - n)%10)(H:LH M w0 w [.c b vs T] D){K:J->Prop}(O:∀z y,Dg u a.n o n y->LH M w0 z [.c b y T] D->K z){X:Int}(P:X=((2 *x:Nat):Int)):
  mw w λA=>(0:Int)<=(ah .u32 (X+1))/\∃t:UInt8,xU[a5 (ah .u32 (X+1))]? =some t/\(0:Int)<=X/\∃q:UInt8,xU[a5 X]? =some q/\fo a (ah .i64 (nd - c1)) λp=>aS A (p.add (a5 (ah .i64 (nd - c1)) *1)) (.int .u8 (t.toNat:Int)) λB=>
   fo a (ah .i64 (nd - c2)) λp=>aS B (p.add (a5 (ah .i64 (nd - c2)) *1)) (.int .u8 (q.toNat:Int)) K:=by
 subst P;obtain⟨U,W⟩:=aes x S;have Q:ah .u32 (((2 *x:Nat):Int)+1)=((2 *x+1:Nat):Int):=by rw[IntKind.wrap_u32];omega
 refine H.dr λA C=>?_;rw[Q,L,N,aN ((n+1:Nat):Int) co,aN (n:Int) co,bo,bo];refine⟨co,_,W,co,_,U,G0 h C rfl co (by rw[d.1];omega) λB E=>G0 h E rfl co (by rw[List.length_set,d.1];omega) λY F=>O Y _ ?_ F⟩;exact(d.put j (n:=n+1) co G).put j co I
end
def pN{x:Nat}(h:x<4294967296):ah .u32 (x:Int)=(x:Int):=by rw[IntKind.wrap_u32];omega
section
variable {w0 w:J} {a:Sl} {b o u:Nat} {T:aC}
def y9(w0:J)(b o u nd:Nat)(T:aC)(r:cE)(Y:J):Prop:=r=ae (.tuple #[])/\∃d,LH (·=b) w0 Y [.c b d T] []/\Dg u nd o 0 d
def Lw{n:Nat}(A:a.a=some ((ab b).add o))(B:o+a.n<=24)(E:n<=1)(F:n<=a.n)(C:u<10^a.n){vs:List aa}(d:Dg u a.n o n vs)(H:LH (·=b) w0 w [.c b vs T] []):
  kW.zj a (n:Int) ((u / 10^(a.n - n):Nat):Int) w (y9 w0 b o u a.n T):=by
 refine aE (λk=>?_) (λk=>?_)
 case' refine_2=>
  have q:n=0:=co
  subst q;exact⟨rfl,vs,H,d⟩
 have:n=1:=co
 subst this;have h:u / 10^(a.n - 1)<10:=by rw[Nat.div_lt_iff_lt_mul (Nat.pow_pos co),<-Nat.pow_succ',show(a.n - 1).succ=a.n by omega];exact C
 generalize D:u / 10^(a.n - 1)=x at *;have e:(Value.int .u8 (ah .u8 (ah .u32 (48+(x:Int)))))=cq (gY x):=by
  have y:ah .u32 (48+(x:Int))=((48+x:Nat):Int):=by rw[IntKind.wrap_u32];omega
  have z:ah .u8 ((48+x:Nat):Int)=((48+x:Nat):Int):=by rw[IntKind.wrap_u8];omega
  rw[y,z,cq,Eo x h]
 rw[e];refine G0 A H (X:=0) (n:=0) rfl co (by rw[d.1];omega) λG j=>⟨rfl,_,j,d.put B co ?_⟩;rw[show a.n - 1 - 0=a.n - 1 by omega,D,Nat.mod_eq_of_lt h]
def Ly{n:Nat}(j:a.a=some ((ab b).add o))(q:o+a.n<=24)(K:n<4)(y:n<=a.n)(z:u<10^a.n){vs:List aa}(A:Dg u a.n o n vs)(H:LH (·=b) w0 w [.c b vs T] []):
  kW.S9 a (n:Int) ((u / 10^(a.n - n):Nat):Int) w (y9 w0 b o u a.n T):=by
 refine aE (λE=>?_) (λE=>Lw j q co y z A H);obtain⟨m,rfl⟩:∃m,n=m+2:=⟨n - 2,co⟩;have I:u / 10^(a.n - (m+2))<10000:=by rw[Nat.div_lt_iff_lt_mul (Nat.pow_pos co)];refine mT z ?_;rw[show(10000:Nat)=10^4 from rfl,<-Nat.pow_add];exact Nat.pow_le_pow_right co co
 have d:=Em (u:=u) y (i:=0) co;have h:=Em (u:=u) y (i:=1) co;have eq:u / 10^(a.n - (m+2)) / 100=u / 10^(a.n - m):=by rw[Nat.div_div_eq_div_mul,show(100:Nat)=10^2 from rfl,<-Nat.pow_add,show a.n - (m+2)+2=a.n - m by omega]
 generalize L:u / 10^(a.n - (m+2))=x at *;rw[Nat.pow_zero,Nat.div_one]at d;rw[Nat.pow_one]at h;have C:cp (x:Int) 100=((x%100:Nat):Int):=rfl;have D:bS (x:Int) 100=((x / 100:Nat):Int):=rfl;dsimp only[kW.p',ak];rw[C,D,pN co,eq];have G:ah .u32 (((x%100:Nat):Int) *2)=((2 *(x%100):Nat):Int):=by rw[IntKind.wrap_u32];omega
 rw[G];refine pair (k:=0) j (x:=x%100) (n:=m) co co co co q A ?_ ?_ H (λN M F B=>?_) rfl
 .rw [show m+2 - 1 - 0=m+1 by omega]at d;rw[d];omega
 .rw [show m+2 - 1 - 1=m by omega]at h;rw[h];omega
 .rw [show((m+2:Nat):Int) - 2=(m:Int)by omega,aN _ co];exact Lw j q co co z F B
def ZF(d:a.a=some ((ab b).add o))(h:o+a.n<=24)(C:u<10^a.n)(ag:u<2^64):∀(n:Nat),n<=a.n->∀(w:J) (vs:List aa),Dg u a.n o n vs->LH (·=b) w0 w [.c b vs T] []->
  kW.L0 a ((u / 10^(a.n - n):Nat):Int) (n:Int) w (y9 w0 b o u a.n T):=by
 intro n;induction n using Nat.strongRecOn with
 |_ n ih=>
 intro ac w vs M G;have hq:u / 10^(a.n - n)<2^64:=Nat.lt_of_le_of_lt (Nat.div_le_self _ _) ag;have Z:∀P,n<=P->u / 10^(a.n - n)<10^P:=λP hk=>by rw[Nat.div_lt_iff_lt_mul (Nat.pow_pos co)];refine mT C ?_;rw[<-Nat.pow_add];exact Nat.pow_le_pow_right co co
 have Q:∀i,i<n->u / 10^(a.n - 1 - (n - 1 - i))%10=u / 10^(a.n - n) / 10^i%10:=λi F=>Em ac F;have step:∀i,i<=n->u / 10^(a.n - n) / 10^i=u / 10^(a.n - (n - i)):=λi F=>by rw[Nat.div_div_eq_div_mul,<-Nat.pow_add,show a.n - n+i=a.n - (n - i)by omega]
 generalize hx:u / 10^(a.n - n)=x at *;refine kW.bC _ _ _ _ _ (aE (λh8=>?_) (λh8=>aE (λh4=>?_) (λh4=>?_)))
 .obtain ⟨m,rfl⟩:∃m,n=m+8:=⟨n - 8,co⟩;have e0:cp (x:Int) 100000000=((x%100000000:Nat):Int):=rfl;have e1:bS (x:Int) 100000000=((x / 100000000:Nat):Int):=rfl;have K:∀y:Nat,bS (y:Int) 10000=((y / 10000:Nat):Int):=λ_=>rfl;have L:∀y:Nat,cp (y:Int) 10000=((y%10000:Nat):Int):=λ_=>rfl;have D:∀y:Nat,bS (y:Int) 100=((y / 100:Nat):Int):=λ_=>rfl;have E:∀y:Nat,cp (y:Int) 100=((y%100:Nat):Int):=λ_=>rfl;have j:∀y:Nat,y<100000->ah .u32 ((y:Int) *2)=((2 *y:Nat):Int):=λy hy=>by rw[IntKind.wrap_u32];omega
  have C:ah .u64 ((x / 100000000:Nat):Int)=((x / 100000000:Nat):Int):=by rw[IntKind.wrap_u64];omega
  dsimp only[kW.S1,kW.S2,kW.S3,kW.S4,ak];rw[e0,e1,C,pN (x:=x%100000000) co,K,L,pN (x:=x%100000000 / 10000) co,D,E,D,E,pN (x:=x%100000000%10000 / 100) co,pN (x:=x%100000000 / 10000 / 100) co,j _ co,j _ co,j _ co,j _ co];have g:∀i,i<8->u / 10^(a.n - 1 - (m+(7 - i)))%10=x / 10^i%10:=λi F=>by
   have:=Q i co
   rwa[show m+8 - 1 - i=m+(7 - i)by omega]at this
  have q:=g 0 co;have z:=g 1 co;have A:=g 2 co;have B:=g 3 co;have S:=g 4 co;have U:=g 5 co;have W:=g 6 co;have Y:=g 7 co;simp only[Nat.reducePow,Nat.reduceSub,Nat.div_one,Nat.add_zero]at q z A B S U W Y;refine pair (k:=0) d (x:=x%100000000%10000%100) (n:=m+6) co co co co h M (by rw[q];omega) (by rw[z];omega) G (λw1 ai N H=>?_) rfl;refine pair (k:=0) d (x:=x%100000000%10000 / 100) (n:=m+4) co co co co h N (by rw[A];omega) (by rw[B];omega) H (λw2 aj O I=>?_) rfl;refine pair (k:=0) d (x:=x%100000000 / 10000%100) (n:=m+2) co co co co h O (by rw[S];omega) (by rw[U];omega) I (λw3 am ae H3=>?_) rfl;refine pair (k:=0) d (x:=x%100000000 / 10000 / 100) (n:=m) co co co co h ae (by rw[W];omega) (by rw[Y];omega) H3 (λw4 al af H4=>?_) rfl;rw[show((m+8:Nat):Int) - 8=(m:Int)by omega,aN _ co];have st:=step 8 co;rw[show m+8 - 8=m by omega]at st;simp only[Nat.reducePow]at st;rw[st];exact ih m co co w4 al af H4
 .obtain ⟨m,rfl⟩:∃m,n=m+4:=⟨n - 4,co⟩;have h7:=Z 7 co;simp only[Nat.reducePow]at h7;have K:∀y:Nat,bS (y:Int) 10000=((y / 10000:Nat):Int):=λ_=>rfl;have L:∀y:Nat,cp (y:Int) 10000=((y%10000:Nat):Int):=λ_=>rfl;have D:∀y:Nat,bS (y:Int) 100=((y / 100:Nat):Int):=λ_=>rfl;have E:∀y:Nat,cp (y:Int) 100=((y%100:Nat):Int):=λ_=>rfl;have j:∀y:Nat,y<100000->ah .u32 ((y:Int) *2)=((2 *y:Nat):Int):=λy hy=>by rw[IntKind.wrap_u32];omega
  dsimp only[kW.S6,kW.S7,kW.S8,ak];rw[pN (x:=x) co,K,L,pN (x:=x / 10000) co,D,E,pN (x:=x%10000 / 100) co,j _ co,j _ co];have g:∀i,i<4->u / 10^(a.n - 1 - (m+(3 - i)))%10=x / 10^i%10:=λi F=>by
   have:=Q i co
   rwa[show m+4 - 1 - i=m+(3 - i)by omega]at this
  have q:=g 0 co;have z:=g 1 co;have A:=g 2 co;have B:=g 3 co;simp only[Nat.reducePow,Nat.reduceSub,Nat.div_one,Nat.add_zero]at q z A B;refine pair (k:=0) d (x:=x%10000%100) (n:=m+2) co co co co h M (by rw[q];omega) (by rw[z];omega) G (λw1 ai N H=>?_) rfl;refine pair (k:=0) d (x:=x%10000 / 100) (n:=m) co co co co h N (by rw[A];omega) (by rw[B];omega) H (λw2 aj O I=>?_) rfl;rw[show((m+4:Nat):Int) - 4=(m:Int)by omega,aN _ co];have st:=step 4 co;rw[show m+4 - 4=m by omega]at st;simp only[Nat.reducePow]at st;rw[st];exact Ly d h co co C O I
 .have ad:=Z 4 co;simp only[Nat.reducePow]at ad;rw[pN (x:=x) co,<-hx];exact Ly d h co ac C M G
end
def Jv{w:J}{b o u nd c:Nat}{vs:List aa}{T:aC}(j:w.heap[b]? =some (.cells vs.toArray T (0,0)))(z:vs.length=24)(q:o+nd<=24)(x:u<10^nd)(y:u<2^64):
  aj V O7 #[.slice (some ((ab b).add o)) nd c,.u (u:Int)] w (y9 w b o u nd T):=by
 have d:LH (·=b) w w [.c b vs T] []:=LH.s9 _ _ (by intro e k;rw[bY.1 k];exact⟨j,λD A=>by simpa[En.c,En.ob]using A⟩) (by simp[En.c,En.ob]) ws
 refine kW.ok ⟨some ((ab b).add o),nd,c⟩ _ w _ ?_;have:=ZF (a:=⟨some ((ab b).add o),nd,c⟩) (u:=u) (T:=T) rfl q x y nd (bm _) w vs ⟨z,λB C h=>absurd (show B<nd from h) co⟩ d;rw[Nat.sub_self,Nat.pow_zero,Nat.div_one]at this;exact this
def Kq{u nd o:Nat}{vs:List aa}(h:Dg u nd o 0 vs)(j:nd=(cc u).length)(q:o+nd<=24):(vs.drop o).take nd=(cc u).map cq:=by
 refine List.ext_getElem? λk=>?_;rw[List.getElem?_take];split
 .rename_i d;rw[List.getElem?_drop,h.2 k co d,Zg u,List.map_map,ib,List.getElem?_range co,j];rfl
 .rw [ib,List.getElem?_eq_none co];rfl
def Zh{n:Nat}(d:10<=n)(h:n<100):cc n=[gY (n / 10),gY (n%10)]:=by rw[rX co,m7 co];rfl
def aeq:∀n<10,abF.extract n (n+1)=ba [gY n]:=by decide+kernel
def aer:∀n<100,10<=n->xU.extract (n *2) (n *2+2)=ba [gY (n / 10),gY (n%10)]:=by decide+kernel
def RW(m:Nat)(x:m<100)(w:J):aj V O' #[.i (m:Int)] w λr q=>r=ae (.string (ba (cc m)))/\q=w:=by
 refine MA.ok _ w _ (aE (λk=>?_) (λk=>?_))
 .rw [bb _ co];refine⟨co,?_,co,by rw[bo];omega,by rw[bo,bo,m7 co];exact congrArg (λd=>Ending.returned (.string d)) (aeq m co),rfl⟩;show((m+1:Nat):Int)<=((36:Nat):Int);omega
 .have h:ah .i64 ((m:Int) *2)=((m *2:Nat):Int):=by rw[aN _ co];omega
  have j:ah .i64 (((m *2:Nat):Int)+2)=((m *2+2:Nat):Int):=by rw[aN _ co];omega
  rw[h,j];refine⟨co,?_,co,by rw[bo];omega,by rw[bo,bo,Zh co co];exact congrArg (λd=>Ending.returned (.string d)) (aer m co co),rfl⟩;show((m *2+2:Nat):Int)<=((200:Nat):Int);omega
def VI{n:Int}(h:aX n):(n<0->ah .u64 (0 - ah .u64 n)=(n.natAbs:Int))/\(0<=n->ah .u64 n=(n.natAbs:Int))/\n.natAbs<2^64:=by
 refine⟨λd=>?_,λd=>?_,?_⟩
 .rw [IntKind.wrap_u64,IntKind.wrap_u64];omega
 .rw [IntKind.wrap_u64];omega
 .omega
def Ei{u:Nat}(h:u<2^64):1<=(cc u).length/\(cc u).length<=20/\u<10^(cc u).length:=by
 refine⟨?_,zN co co,?_⟩
 .cases d:cc u with
  |nil=>exact absurd d (uy _)
  |cons c l=>simp
 .have:=B7 (cc u) (o5 u)
  rwa[nF]at this
abbrev pR:List aa:=List.replicate 24 (.int .u8 0)
def GX{w:J}{b o n c:Nat}{vs:List aa}{T:aC}{bs:List UInt8}(j:w.heap[b]? =some (.cells vs.toArray T (0,0)))(q:bs.length=n)(k:n<=c)(h:(vs.drop o).take n=bs.map cq):Bytes w ⟨some ((ab b).add o),n,c⟩ bs:=by
 refine Bl (by simp[q]) k (λh=>by cases h) (λi v d=>⟨(ab b).add o,rfl,?_⟩);rw[<-h,List.getElem?_take]at d;split at d
 .rw [List.getElem?_drop]at d;rw[add_add];exact cellAt (p:=ab b) j rfl (by simpa using d)
 .cases d
def XL{n:Int}(h:aX n){w:J}(W:sM.P w):aj V O2 #[.i n,.i 10] w λr d=>r=ae (.string (ba (bE n)))/\af w d:=by
 obtain⟨Z,u2,F⟩:=VI h;have fW:¬(0<=n/\n<100)->xP.S0 n w λr d=>r=ae (.string (ba (bE n)))/\af w d:=by
  intro ac;obtain⟨d1,d2,O⟩:=Ei F;have N:LH F0 w w [] [sM]:=bN _ (by intro e U;rw[bY.1 U];exact W)
  have K:∀j,LH F0 w j [.c w.heap.size pR pL] [sM]->xP.S1 n (ab w.heap.size) (n.natAbs:Int) j λr d=>r=ae (.string (ba (bE n)))/\af w d:=by
   intro j k;refine(JB co F j (k.getD 0)).mono ?_;rintro _ w2 ⟨rfl,rfl⟩;have Q:ah .i64 (1+(((cc n.natAbs).length:Nat):Int))=(((cc n.natAbs).length+1:Nat):Int):=by rw[aN _ co];omega
   refine⟨_,rfl,?_⟩;dsimp only;rw[Q,bo];have S:(if 24=a5 1 then ab w.heap.size else(ab w.heap.size).add (a5 1 *1))=(ab w.heap.size).add 1:=by rw[ag md];rfl
   rw[S];have T:(cc n.natAbs).length+1 - a5 1=(cc n.natAbs).length:=by show _ - 1=_;omega
   rw[T];refine⟨co,co,co,co,(Jv (vs:=pR) (o:=1) (nd:=(cc n.natAbs).length) (k.get 0) rfl co O F).mono ?_⟩;rintro _ G ⟨rfl,q,I,C⟩;have A:LH F0 w G [.c w.heap.size q pL] [sM]:=k.ha 0 (.c w.heap.size q pL) rfl (I.fr.mono λai _ Y=>by simp[En.c,En.ob,Y]) (I.get 0) λb y=>.inl y;have D:=Kq C rfl co;refine⟨rfl,aE (λE=>?_) (λE=>?_)⟩
   .have x:bE n=45::cc n.natAbs:=by unfold bE;rw[av E]
    refine⟨co,co,?_⟩;have st:aS G ((ab w.heap.size).add 0) (.int .u8 45) λz=>(0:Int)<=(((cc n.natAbs).length+1:Nat):Int)/\(((cc n.natAbs).length+1:Nat):Int)<=((24:Nat):Int)/\∃t:ByteArray,f' V (Go.convert dx cY (.slice (some (if 24=0 then ab w.heap.size else(ab w.heap.size).add (0 *1))) ((cc n.natAbs).length+1 - 0) (24 - 0))) z=.ok (.string t) z/\(λr d=>r=Ending.returned (.string (ba (bE n)))/\af w d) (ae (.string t)) z:=by
     refine A.st 0 0 rfl (λz H=>⟨co,co,ba (bE n),?_,rfl,H.fr⟩) (by rw[C.1];omega);have y:Bytes z ⟨some ((ab w.heap.size).add 0),(cc n.natAbs).length+1,24⟩ (bE n):=GX (H.get 0) (by rw[x];rfl) co (by
      rw[x,List.drop_zero];have B:=C.1;cases q with
      |nil=>simp at B
      |cons v q=>
       rw[List.set_cons_zero,List.take_succ_cons,List.map_cons];rw[show List.drop 1 (v::q)=q from rfl]at D;rw[D];rfl)
     exact lD y
    exact st
   .have x:bE n=cc n.natAbs:=by unfold bE;rw[ag E]
    refine⟨co,co,co,co,ba (bE n),?_,rfl,A.fr⟩;have y:Bytes G ⟨some ((ab w.heap.size).add 1),(cc n.natAbs).length,24 - a5 1⟩ (bE n):=GX (A.get 0) (by rw[x]) (by show _<=24 - 1;omega) (by rw[x];exact D);exact lD y
  have e:(#[.int .u8 0,.int .u8 0,.int .u8 0,.int .u8 0,.int .u8 0,.int .u8 0,.int .u8 0,.int .u8 0,.int .u8 0,.int .u8 0,.int .u8 0,.int .u8 0,.int .u8 0,.int .u8 0,.int .u8 0,.int .u8 0,.int .u8 0,.int .u8 0,.int .u8 0,.int .u8 0,.int .u8 0,.int .u8 0,.int .u8 0,.int .u8 0]:Array aa)=pR.toArray:=rfl;dsimp only[xP.S0,ak];rw[e];refine N.nw λj ad k=>?_;refine aE (λM=>?_) (λM=>?_)
  .rw [Z M];exact K j k
  .rw [u2 co];exact K j k
 refine xP.ok _ _ w _ (aM rfl (aE (λL=>aE (λB=>?_) (λB=>fW co)) (λL=>fW co)));obtain⟨m,rfl⟩:=Int.eq_ofNat_of_zero_le L;refine(RW m co w).mono ?_;rintro _ _ ⟨rfl,rfl⟩;refine⟨_,rfl,?_,Fr.refl _ _⟩;unfold bE;rw[ag co];rfl
def DB{n:Int}(h:aX n){w:J}(j:sM.P w):aj V Qg #[.i n] w λr d=>r=ae (.string (ba (bE n)))/\af w d:=by
 refine UX.ok _ w _ ((show aj V O3 #[.i n] w λr d=>r=ae (.string (ba (bE n)))/\af w d from Mv.ok _ w _ ((XL h j).mono ?_)).mono ?_)
 .rintro _ k ⟨rfl,f⟩;exact⟨_,rfl,rfl,f⟩
 .rintro _ k ⟨rfl,f⟩;exact⟨_,rfl,rfl,f⟩
def Fb:∃ms,Tryz.prog.underlying ll=some (.interface ms):=by
 have d:(match Tryz.prog.underlying ll with |some (.interface _)=>true|_=>false)=true:=by kernel_rfl
 split at d
 .rename_i ms h;exact⟨ms,h⟩
 .cases d
def Lh{t:aC}{x y:aa}{b:Bool}{w:J}(h:∀d,f' V (Op.equalIn (d+1) t x y) w=.ok b w):f' V (Op.equal t x y) w=.ok b w:=h (Op.maxDepth - 1)
def Lg(w:J):f' V (Op.equal ll .nilIface .nilIface) w=.ok true w:=by obtain⟨ms,d⟩:=Fb;refine Lh λh=>?_;rw[Op.equalIn];simp[run_underlying d]
def Lf(t:Nat)(x:aa)(w:J):f' V (Op.equal ll (.iface t x) .nilIface) w=.ok false w:=by obtain⟨ms,d⟩:=Fb;refine Lh λh=>?_;rw[Op.equalIn];simp[run_underlying d]
def aaD(k:Nat)(w:J):f' V (kV .eql ll (.tmp k) (.const .nilIface) .nilIface .nilIface) w=.ok (.bool true) w:=by simp[kV,eqGuard,binOp,Lg]
def aaC(k t:Nat)(x:aa)(w:J):f' V (kV .eql ll (.tmp k) (.const .nilIface) (.iface t x) .nilIface) w=.ok (.bool false) w:=by simp[kV,eqGuard,binOp,Lf]
def Mm(k:Nat)(w:J):f' V (kV .neq ll (.tmp k) (.const .nilIface) .nilIface .nilIface) w=.ok (.bool false) w:=by simp[kV,eqGuard,binOp,Lg]
def Ml(k t:Nat)(x:aa)(w:J):f' V (kV .neq ll (.tmp k) (.const .nilIface) (.iface t x) .nilIface) w=.ok (.bool true) w:=by simp[kV,eqGuard,binOp,Lf]
abbrev lK(k:Int):aa:=.iface vY (.i k)
def ZC:(∃i,Tryz.prog.info? vY=some i/\i.comparable=true)/\∃h,Tryz.prog.underlying vY=some (.int h):=by
 constructor
 .have d:(match Tryz.prog.info? vY with |some i=>i.comparable|none=>false)=true:=by kernel_rfl
  split at d
  .rename_i i j;exact⟨i,j,d⟩
  .cases d
 .have d:(match Tryz.prog.underlying vY with |some (.int _)=>true|_=>false)=true:=by kernel_rfl
  split at d
  .rename_i h k;exact⟨h,k⟩
  .cases d
def Le(a b:Int)(w:J):f' V (Op.equal ll (lK a) (lK b)) w=.ok (a==b) w:=by
 obtain⟨ms,q⟩:=Fb;obtain⟨⟨inf,j,h⟩,x,k⟩:=ZC;have inner:∀d,f' V (Op.equalIn (d+1) vY (.i a) (.i b)) w=.ok (a==b) w:=λd=>by rw[Op.equalIn];simp[run_underlying k]
 have outer:∀d,f' V (Op.equalIn (d+1+1) ll (lK a) (lK b)) w=.ok (a==b) w:=λd=>by rw[Op.equalIn];simp[run_underlying q,typeInfo,j,h,inner]
 exact outer (Op.maxDepth - 2)
def Mn(i j:Nat)(a b:Int)(w:J):f' V (kV .eql ll (.tmp i) (.tmp j) (lK a) (lK b)) w=.ok (.bool (a==b)) w:=by simp[kV,eqGuard,binOp,Le]
def aaE(i j:Nat)(a b:Int)(w:J):f' V (kV .neq ll (.tmp i) (.tmp j) (lK a) (lK b)) w=.ok (.bool (!(a==b))) w:=by simp[kV,eqGuard,binOp,Le]
def ZZ{M:Nat->Prop}(w:J)(p:Addr)(n:Nat)(h:M p.block):Fr M w (w.freeze p n):=by
 unfold World.freeze;split
 .exact Fr.refl _ _
 .refine ⟨rfl,rfl,rfl,ws,λk j d=>?_⟩;simp only[Array.getElem?_modify];rw[ag];rintro rfl;exact d h
def I9{s:ByteArray}(h:s.size=0):s=bh #[]:=ByteArray.ext (Array.eq_empty_of_size_eq_zero h)
def TQ(s:ByteArray)(Y:s.size<=1000000000)(w:J):aj V Pa #[.string s] w λr Q=>r=ae (.string s)/\af w Q:=by
 have N:(bl s).length=s.size:=rfl;refine MB.ok _ w _ (aO (λh=>?_) (λh=>?_))
 .rw [I9 (s:=s) co];exact⟨rfl,Fr.refl _ _⟩
 .obtain ⟨d,z,O,A⟩:=Ny jo w s.size co;have I:s.size≠0:=co
  rcases O.cases with⟨C,_⟩|⟨g,cur,j,q,S,T,D,U⟩
  .cases C
  .have G:w.heap.size=g:=by injection j with j;injection j
   subst G;have W:cur.size=s.size:=by simpa using D
   have k:=Lib.run_copy_row_string (P:=V) d dx cY b' cJ w.heap.size 0 s.size s.size s cur cJ jo.ht (by kernel_rfl) q (bm _) co;have F:(cur.toList.take 0++Lib.byteCells s.data.toList++cur.toList.drop (0+s.size)).toArray=((bl s).map cq).toArray:=by rw[List.take_zero,List.nil_append,du (by rw[Array.length_toList];omega),ed];rfl
   rw[F]at k;have x:(d.setRow w.heap.size ((bl s).map cq).toArray).heap[w.heap.size]? =some (.cells ((bl s).map cq).toArray cJ (0,0)):=setRow_heap _ _ cur _ cJ (0,0) q;have K:bl s≠[]:=λe=>I (by rw[<-N,e];rfl);have E:=Lib.run_unsafeString_row (P:=V) (d.setRow w.heap.size ((bl s).map cq).toArray) afK b' cY cJ (by kernel_rfl) (by kernel_rfl) w.heap.size (bl s).length (by unfold World.shape?;rw[x];simp) (bl s) K (bm _) co (λZ y L=>cellAt (p:=ab w.heap.size) x rfl (by show _=some (cq y);simp[L]));refine⟨⟨some ⟨w.heap.size,0,none⟩,s.size,s.size⟩,d,z,(s.size:Int),_,k,co,?_,qF ⟨s,_,E,?_⟩⟩
   .show (0:Int)<(s.size:Int);omega
   .have B:Fr (·=w.heap.size) d (d.setRow w.heap.size ((bl s).map cq).toArray):=⟨rfl,rfl,rfl,ws,λaa _ H=>setRow_other _ _ _ _ (λe=>H e)⟩;exact⟨rfl,A.VE (B.trans (ZZ (M:=(·=w.heap.size)) _ _ _ rfl) λ_ _ h=>h) λy e=>co⟩
abbrev U7(t:Nat)(x:aa):En:=.rd ⟨some (ab 4),1,1⟩ [.iface t x]
abbrev Tv(t:Nat)(x:aa):En:=.rd ⟨some (ab 5),1,1⟩ [.iface t x]
def Bm{w:J}{b:Nat}{v:aa}(h:(En.rd ⟨some (ab b),1,1⟩ [v]).P w):w.cell? (Addr.mk b 0 none)=some v:=by obtain⟨p,j,d⟩:=(show Rd w _ _ from h).2.2.2 0 v rfl;cases j;simpa[Addr.add]using d
def lx(w:J):Prop:=sM.P w/\(∃t d,(U7 t d).P w)/\∃t d,(Tv t d).P w
def dT:En:=⟨[3,4,5],lx,λh z k y=>(by
  obtain⟨q,⟨t,A,w⟩,u,B,x⟩:=y;exact⟨En.st _ h z (λb d j=>k b (by simp[En.rd,ax,vj]at d;simp[d]) j) q,⟨t,A,En.st _ h z (λb d j=>k b (by simp[En.rd,ax]at d;simp[d]) j) w⟩,u,B,En.st _ h z (λb d j=>k b (by simp[En.rd,ax]at d;simp[d]) j) x⟩),λh y b d=>(by
  obtain⟨q,⟨t,A,w⟩,u,B,x⟩:=y;simp only[aq,aL,aR]at d;rcases d with rfl|rfl|rfl
  .exact En.lt _ h q _ (by simp[En.rd,ax,vj])
  .exact En.lt _ h w _ (by simp[En.rd,ax])
  .exact En.lt _ h x _ (by simp[En.rd,ax])),md⟩
def lx.br{w Y:J}(h:lx w)(f:af w Y):lx Y:=dT.st w Y (λb _ d=>f.cC b d id) h
def aef{s:ByteArray}(B:s.size<=1000000000){fn:ByteArray}{k:Int}(F:k=1\/k=2){w:J}(j:lx w):aj V Qj #[.string fn,.string s,.i 0,.i 0,lK k] w λr q=>(∃t y,r=ae (.iface t y))/\af w q:=by
 obtain⟨K,⟨t,y,D⟩,u,C,E⟩:=j;have A:LH F0 w w [] [U7 t y,Tv u C]:=bN _ (by
  intro e j;rcases aq.1 j with rfl|j
  .exact D
  .rw [bY.1 j];exact E)
 have fG:aj V Qi #[.string fn,.string s] w λr q=>(∃p,r=ae (.pointer (some p)))/\af w q:=by refine UZ.ok _ _ w _ (A.dr λx d=>.inl ⟨t,y,Bm (d.getD 0),d.call (TQ s B x) ?_⟩);rintro _ H rfl h;exact⟨_,rfl,Bm (h.getD 0),h.k6 λI _ z _=>⟨⟨_,rfl⟩,z.fr⟩⟩
 have G:aj V Qh #[.string fn,.string s] w λr q=>(∃p,r=ae (.pointer (some p)))/\af w q:=by refine UY.ok _ _ w _ (A.dr λx d=>.inl ⟨u,C,Bm (d.getD 1),d.call (TQ s B x) ?_⟩);rintro _ H rfl h;exact⟨_,rfl,Bm (h.getD 1),h.k6 λI _ z _=>⟨⟨_,rfl⟩,z.fr⟩⟩
 refine U0.ok _ _ _ _ _ w _ ⟨k==2,Mn 11 13 k 2 w,?_⟩;rcases F with rfl|rfl
 .refine aP rfl ⟨true,Mn 11 20 1 1 w,aM rfl (G.mono ?_)⟩;rintro _ x ⟨⟨p,rfl⟩,f⟩;exact⟨_,rfl,⟨_,_,rfl⟩,f⟩
 .refine aM rfl (fG.mono ?_);rintro _ x ⟨⟨p,rfl⟩,f⟩;exact⟨_,rfl,⟨_,_,rfl⟩,f⟩
def ug{s:ByteArray}{l:List UInt8}(h:bl s=l)(i:Nat):s[i]? =l[i]?:=by subst h;unfold bl;rw[Array.getElem?_toList];rfl
def sa{c:UInt8}(h:g0 c=true):48<=c.toNat/\c.toNat<=57:=by
 unfold g0 at h
 grind
def MI{c:UInt8}(h:g0 c=false):c.toNat<48\/57<c.toNat:=by
 unfold g0 at h
 grind
def afU(l:List UInt8):∀a,a<=eV a l:=by
 induction l with
 |nil=>intro a;exact bm _
 |cons c l d=>
  intro a;have:=d (10 *a+(c.toNat - 48));show a<=eV (10 *a+(c.toNat - 48)) l;omega
def afV(a:Nat)(l r:List UInt8):eV a (l++r)=eV (eV a l) r:=List.foldl_append ..
def H5{l:List UInt8}{i:Nat}{c:UInt8}(h:l[i]? =some c):l.take (i+1)=l.take i++[c]:=by rw[dM,h];rfl
def Dj{l:List UInt8}{i:Nat}{c:UInt8}(h:l[i]? =some c)(j:∀d∈l.take i,g0 d=true)(k:g0 c=true):∀d∈l.take (i+1),g0 d=true:=by
 rw[H5 h]
 grind
def o4{m:Int}(h:m<0):bE m=45::cc m.natAbs:=by unfold bE;grind
def ux{m:Int}(h:¬m<0):bE m=cc m.natAbs:=by unfold bE;grind
def IE(v:aa):Prop:=v=.nilIface\/∃d,(d=1\/d=2)/\v=lK d
abbrev yU(a b:aa):cE:=ae (.tuple #[a,b])
def rF(ds:List UInt8)(r:cE):Prop:=∃(n:Nat) (v:aa),r=yU (.u (n:Int)) v/\n<18446744073709551616/\IE v/\(ds≠[]->(∀c∈ds,g0 c=true)->eV 0 ds<18446744073709551616->n=eV 0 ds/\v=.nilIface)
def DN(c:UInt8)(w:J):aj V O8 #[.int .u8 (c.toNat:Int)] w λr j=>r=ae (.int .u8 ((c.toNat|||32:Nat):Int))/\j=w:=by
 have h:∀d:Fin 256,nX .u8 (d.val:Int) 32=((d.val|||32:Nat):Int):=by decide+kernel
 refine My.ok _ w _ ⟨?_,rfl⟩;rw[<-h ⟨c.toNat,c.toNat_lt⟩]
def VL{c:UInt8}(h:48<=c.toNat):ah .u8 ((c.toNat:Int) - 48)=((c.toNat - 48:Nat):Int):=by have:=c.toNat_lt;rw[IntKind.wrap_u8];omega
def ac7(D:ByteArray){t:Sl}{ds:List UInt8}{w0:J}(hl:ds.length<=1000000000):∀(k i:Nat) (w:J),i+k=ds.length->Bytes w t ds->af w0 w->(∀c∈ds.take i,g0 c=true)->eV 0 (ds.take i)<18446744073709551616->
  oh.L4 10 false D 1844674407370955162 18446744073709551615 false (eV 0 (ds.take i):Nat) t (ds.length:Int) (i:Int) w λr y=>rF ds r/\af w0 y:=by
 intro k;induction k with
 |zero=>
  intro i w U z x L O;refine oh.rC _ _ _ _ _ _ _ _ _ _ _ _ (aP (aV co) (aP rfl ⟨⟨_,_,rfl,O,.inl rfl,λ_ _ _=>?_⟩,x⟩))
  grind
 |succ k Z=>
  intro i w U z x L O;have M:=Bytes.len z;have W:i<ds.length:=co
  have B:ds[i]? =some ds[i]:=a' W;generalize ds[i]=c at B;have aa:c∈ds:=aG B;have bad:∀(n:Nat) (C:Int) (h:J),n<18446744073709551616->(C=1\/C=2)->g0 c=false->af w0 h->rF ds (yU (.u (n:Int)) (lK C))/\af w0 h:=λn C h M Y j A=>
   ⟨⟨n,_,rfl,M,.inr ⟨C,Y,rfl⟩,λ_ q _=>by grind⟩,A⟩
  have s7:∀(d:Int) (h:J),10<=d->g0 c=false->af w0 h->oh.S7 10 false D 1844674407370955162 18446744073709551615 false (eV 0 (ds.take i):Nat) d t (ds.length:Int) (i:Int) h λr y=>rF ds r/\af w0 y:=by intro d h q j A;refine aM (aQ ?_) (bad 0 2 h co (.inr rfl) j A);show d>=ah .u8 10;rw[IntKind.wrap_u8];omega
  have P:g0 c=false->oh.tR 10 false D 1844674407370955162 18446744073709551615 false (eV 0 (ds.take i):Nat) (c.toNat:Int) t (ds.length:Int) (i:Int) w λr y=>rF ds r/\af w0 y:=by intro j;refine(DN c w).mono ?_;rintro _ h ⟨rfl,E⟩;rw[E];refine⟨_,rfl,aE (λH=>(DN c w).mono ?_) (λ_=>bad 0 2 w co (.inr rfl) j x)⟩;rintro _ w2 ⟨rfl,F⟩;rw[F];refine⟨_,rfl,aE (λK=>(DN c w).mono ?_) (λ_=>bad 0 2 w co (.inr rfl) j x)⟩;rintro _ w3 ⟨rfl,G⟩;rw[G];refine⟨_,rfl,s7 _ w ?_ j x⟩;rw[IntKind.wrap_u8,IntKind.wrap_u8];omega
  refine oh.rC _ _ _ _ _ _ _ _ _ _ _ _ (aM (aQ co) ⟨co,co,Bytes.cell z B co λp hp j=>⟨_,j,?_⟩⟩);have Q:oh.S6 10 false D 1844674407370955162 18446744073709551615 false (eV 0 (ds.take i):Nat) (c.toNat:Int) t (ds.length:Int) (i:Int) w λr y=>rF ds r/\af w0 y:=by
   cases q:g0 c with
   |false=>
    refine aE (λH=>aE (λK=>absurd q ?_) (λ_=>P q)) (λ_=>P q);have:=MI q;omega
   |true=>
    obtain⟨H,K⟩:=sa q;refine aM (aQ co) (aM (aQ co) ?_);rw[VL H];refine aP (aV ?_) ?_
    .show ¬(_>=ah .u8 10);rw[IntKind.wrap_u8];omega
    have S:eV 0 (ds.take (i+1))=10 *eV 0 (ds.take i)+(c.toNat - 48):=by rw[H5 B,Il]
    have ge:eV 0 (ds.take (i+1))<=eV 0 ds:=by
     conv=>rhs;rw[<-List.take_append_drop (i+1) ds,afV]
     exact afU _ _
    generalize hN:eV 0 (ds.take i)=N at *;have fW:∀h,af w0 h->18446744073709551616<=eV 0 ds->rF ds (yU (.u 18446744073709551615) (lK 1))/\af w0 h:=λh A z=>⟨⟨18446744073709551615,_,rfl,co,.inr ⟨1,.inl rfl,rfl⟩,λ_ _ I=>co⟩,A⟩;refine aE (λT=>fW w x co) (λT=>?_);have E:ah .u64 ((N:Int) *ah .u64 10)=((10 *N:Nat):Int):=by rw[IntWalk.u64_in 10 co,IntWalk.u64_in _ co];omega
    have F:ah .u64 ((c.toNat - 48:Nat):Int)=((c.toNat - 48:Nat):Int):=IntWalk.u64_in _ co;show oh.S9 _ _ _ _ _ _ _ (ah .u64 (_+ah .u64 _)) _ _ _ _ _;rw[E,F];by_cases h4:10 *N+(c.toNat - 48)<18446744073709551616
    .have G:ah .u64 (((10 *N:Nat):Int)+((c.toNat - 48:Nat):Int))=((10 *N+(c.toNat - 48):Nat):Int):=by rw[IntWalk.u64_in _ co];omega
     rw[G];refine aP (aV co) (aP (aV co) ?_);show oh.L4 _ _ _ _ _ _ _ _ _ (ah .i64 _) _ _;rw[bb _ co,<-S];exact Z (i+1) w co z x (Dj B L q) co
    .refine aM (aQ ?_) (fW w x co);rw[IntKind.wrap_u64];omega
  refine aO (λI=>aP rfl Q) (λI=>Q)
def XZ(s:ByteArray)(y:s.size<=1000000000)(w:J):aj V O5 #[.string s,.i 10,.i 0] w λr x=>rF (bl s) r/\af w x:=by
 have z:(bl s).length=s.size:=rfl;refine oh.ok _ _ _ w _ (jz (λd=>?_) (λd=>?_))
 .subst d;exact⟨⟨0,_,rfl,co,.inr ⟨2,.inr rfl,rfl⟩,λd=>absurd rfl d⟩,Fr.refl _ _⟩
 .refine aM rfl (aM rfl (aM rfl (aM rfl ⟨md,?_⟩)));obtain⟨t,j,k,h,q,_⟩:=BR w s;refine⟨t,j,k,?_⟩;rw[Bytes.len h];exact ac7 s co (bl s).length 0 j co h q ws (by simp[eV])
def pT(l:List UInt8)(r:cE):Prop:=∃(n:Int) (v:aa),r=yU (.i n) v/\aX n/\IE v/\∀m,aX m->l=bE m->n=m/\v=.nilIface
def xa{m:Int}(h:¬m<0)(c:UInt8)(l:List UInt8)(e:c::l=bE m):g0 c=true:=o5 m.natAbs c (by rw[ux h]at e;grind)
def EJ(s:ByteArray){c:UInt8}{l:List UInt8}(h:bl s=c::l):s.extract (a5 1) s.size=ba l:=by rw[uf,show s.size=(bl s).length from rfl,List.take_length,h];rfl
def XY(s:ByteArray)(M:s.size<=1000000000)(w:J):aj V O4 #[.string s,.i 10,.i 0] w λr x=>pT (bl s) r/\af w x:=by
 have S:(bl s).length=s.size:=rfl;refine Ah.ok _ _ _ w _ (jz (λA=>?_) (λA=>?_))
 .subst A;exact⟨⟨0,_,rfl,⟨co,co⟩,.inr ⟨2,.inr rfl,rfl⟩,λm _ e=>absurd e.symm (Km m)⟩,Fr.refl _ _⟩
 have Q:bl s≠[]:=λe=>A (I9 (by grind));obtain⟨c,l,q⟩:∃c l,bl s=c::l:=by
  cases O:bl s with
  |nil=>grind
  |cons c l=>grind
 have H:s[a5 0]? =some c:=ug q 0;have z:∀(neg:Bool) (t:ByteArray),t.size<=1000000000->(∀m,aX m->bl s=bE m->neg=au (m<0)/\bl t=cc m.natAbs)->Ah.S1 t 10 0 neg w λr x=>pT (bl s) r/\af w x:=by
  intro neg t y d;refine(XZ t y w).mono ?_;rintro _ N ⟨⟨n,v,rfl,P,F,L⟩,f⟩;have D:∀m,aX m->bl s=bE m->n=m.natAbs/\v=.nilIface:=λm h e=>by have j:=(d m h e).2;have k:=L (by rw[j];exact uy _) (by rw[j];exact o5 _) (by rw[j,nF];omega);rw[j,nF]at k;exact k
  have C:(v=.nilIface\/v=lK 1)->Ah.S2 0 neg (n:Int) N λr x=>pT (bl s) r/\af w x:=by
   intro F;refine aM rfl ⟨md,?_⟩;have G:ah .u64 (1 *2^(min (a5 (ah .u64 (ah .i64 (64 - 1)))) (IntKind.bits .u64)))=9223372036854775808:=md
   rw[G];refine dW (λB=>?_) (λB=>?_)
   .subst B;refine aE (λj=>⟨⟨_,_,rfl,md,.inr ⟨1,.inl rfl,rfl⟩,λm h e=>?_⟩,f⟩) (λj=>aP rfl (aP rfl ⟨⟨_,_,rfl,?_,.inl rfl,λm h e=>?_⟩,f⟩))
    .grind
    .rw [aN _ co];omega
    .have k:=(d m h e).1;have I:=D m h e;have:¬m<0:=il k.symm;rw[aN _ co]
     grind
   .subst B;refine aM rfl (aE (λj=>⟨⟨_,_,rfl,md,.inr ⟨1,.inl rfl,rfl⟩,λm h e=>?_⟩,f⟩) (λj=>aM rfl ⟨⟨_,_,rfl,?_,.inl rfl,λm h e=>?_⟩,f⟩))
    .grind
    .rw [IntKind.wrap_i64,IntKind.wrap_i64];omega
    .have k:=eP (d m h e).1.symm;have I:=D m h e;rw[IntKind.wrap_i64,IntKind.wrap_i64]
     grind
  rcases F with rfl|⟨T,K,rfl⟩
  .exact ⟨_,_,rfl,false,Mm _ _,aP rfl (C (.inl rfl))⟩
  .refine ⟨_,_,rfl,true,Ml _ _ _ _,aM rfl ⟨_,aaE _ _ _ _ _,?_⟩⟩;rcases K with rfl|rfl
   .exact aP rfl (C (.inr rfl))
   .exact aM rfl ⟨⟨0,_,rfl,md,.inr ⟨2,.inr rfl,rfl⟩,λm h e=>by grind⟩,f⟩
 have E:(1:Int)<=(s.size:Int):=by grind
 have y:(ba l).size<=1000000000:=by rw[bQ];grind
 refine⟨co,c,H,aO (λj=>⟨co,E,?_⟩) (λj=>aO (λk=>⟨co,E,?_⟩) (λk=>?_))⟩
 .rw [EJ s q];refine z false (ba l) y λm h e=>?_;exfalso;rw[q]at e;by_cases d:m<0
  .rw [o4 d]at e;injection e with e _
   subst e
   grind
  .have:=sa (xa d c l e);omega
 .rw [EJ s q];refine z true (ba l) y λm h e=>?_;rw[q]at e;by_cases d:m<0
  .rw [o4 d]at e;injection e with _ e
   exact⟨(aQ d).symm,e⟩
  .have:=sa (xa d c l e);omega
 .refine z false s M λm h e=>?_;rw[q]at e;by_cases d:m<0
  .rw [o4 d]at e;injection e with e _
   subst e
   grind
  .exact ⟨(aV d).symm,by rw[q,e,ux d]⟩
def W9(I:ByteArray){l:List UInt8}(M:bl I=l)(Q:l≠[]){t:Sl}{ds:List UInt8}(hl:ds.length<=18)(E:∀m,aX m->l=bE m->ds=cc m.natAbs){w0:J}:∀(k i:Nat) (w:J),i+k=ds.length->Bytes w t ds->af w0 w->(∀c∈ds.take i,g0 c=true)->
  pc.L3 I (eV 0 (ds.take i):Nat) t (ds.length:Int) (i:Int) w λr W=>pT l r/\af w0 W:=by
 obtain⟨q,A,rfl⟩:∃q A,l=q::A:=by
  cases l with
  |nil=>exact absurd rfl Q
  |cons q A=>exact⟨q,A,rfl⟩
 have lt:∀i,(∀c∈ds.take i,g0 c=true)->eV 0 (ds.take i)<1000000000000000000:=λi h=>by
  have d:=B7 _ h;have G:(ds.take i).length<=18:=by rw[List.length_take];omega
  have Y:10^(ds.take i).length<=10^18:=Nat.pow_le_pow_right co G;omega
 intro k;induction k with
 |zero=>
  intro i w j B z h;have S:ds.take i=ds:=eh co;have D:=lt i h;rw[S]at D ⊢;refine pc.wv _ _ _ _ _ _ _ (aP (aV co) ⟨co,q,ug M 0,aO (λF=>⟨⟨_,_,rfl,?_,.inl rfl,λm j e=>⟨?_,rfl⟩⟩,z⟩) (λF=>⟨⟨_,_,rfl,⟨co,co⟩,.inl rfl,λm j e=>⟨?_,rfl⟩⟩,z⟩)⟩)
  .rw [aN _ co];exact⟨co,co⟩
  .have d:=E m j e;rw[d,nF]at D ⊢;have:m<0:=by
    by_cases C:m<0
    .exact C
    .have:=sa (xa C q A e);omega
   have P:(m.natAbs:Int)=-m:=Int.ofNat_natAbs_of_nonpos co;rw[aN _ co];omega
  .have d:=E m j e;rw[d,nF]at D ⊢;have:¬m<0:=λC=>by
    rw[o4 C]at e;injection e with e _
    subst e;exact F rfl
   have P:(m.natAbs:Int)=m:=Int.natAbs_of_nonneg co;omega
 |succ k U=>
  intro i w j B z h;have hn:=Bytes.len B;have O:i<ds.length:=co
  have y:ds[i]? =some ds[i]:=a' O;generalize ds[i]=c at y;have H:c∈ds:=aG y;have Z:=c.toNat_lt;have D:=lt i h;refine pc.wv _ _ _ _ _ _ _ (aM (aQ co) ⟨co,co,Bytes.cell B y (by rw[bo]) λp hp N=>⟨_,N,?_⟩⟩);cases x:g0 c with
  |false=>
   refine aM (aQ ?_) ⟨⟨0,_,rfl,md,.inr ⟨2,.inr rfl,rfl⟩,λm j e=>?_⟩,z⟩
   .have:=MI x;rw[IntKind.wrap_u8];omega
   .have d:=E m j e;rw[d]at H;rw[o5 _ c H]at x;cases x
  |true=>
   obtain⟨d,G⟩:=sa x;rw[VL d];refine aP (aV co) ?_;have L:eV 0 (ds.take (i+1))=10 *eV 0 (ds.take i)+(c.toNat - 48):=by rw[H5 y,Il]
   have T:=lt (i+1) (Dj y h x);rw[L]at T;have K:ah .i64 (ah .i64 ((eV 0 (ds.take i):Nat) *10)+ah .i64 ((c.toNat - 48:Nat):Int))=((eV 0 (ds.take (i+1)):Nat):Int):=by rw[aN (_ *10) co,aN ((c.toNat - 48:Nat):Int) co,aN _ co];omega
   show pc.L3 _ (ah .i64 _) _ _ (ah .i64 _) _ _;rw[K,bb _ co];exact U (i+1) w co B z (Dj y h x)
def XF(s:ByteArray)(H:s.size<=1000000000)(w:J):aj V O1 #[.string s] w λr h=>pT (bl s) r/\af w h:=by
 have M:(bl s).length=s.size:=rfl;have D:pc.S7 s w λr h=>pT (bl s) r/\af w h:=by refine(XY s H w).mono ?_;rintro _ y ⟨⟨n,v,rfl,B⟩,f⟩;exact⟨_,_,rfl,⟨n,v,rfl,B⟩,f⟩
 refine pc.ok _ w _ (aE (λB=>aE (λI=>?_) (λ_=>D)) (λ_=>D));obtain⟨c,l,j⟩:∃c l,bl s=c::l:=by
  cases x:bl s with
  |nil=>grind
  |cons c l=>grind
 have K:l.length+1=s.size:=by grind
 have C:s[a5 0]? =some c:=ug j 0;have A:∀t:ByteArray,t.size<=18->(∀m,aX m->bl s=bE m->bl t=cc m.natAbs)->pc.S2 t s w λr h=>pT (bl s) r/\af w h:=by intro t L d;obtain⟨a,y,E,x,F,_⟩:=BR w t;refine⟨a,y,E,?_⟩;rw[Bytes.len x];exact W9 s rfl (by grind) (by rw[dQ];omega) d (bl t).length 0 y co x F ws
 have z:(∀m,aX m->bl s=bE m->l=cc m.natAbs)->pc.S0 s s w λr h=>pT (bl s) r/\af w h:=by intro d;refine⟨co,co,?_⟩;rw[EJ s j];refine aE (λk=>⟨⟨0,_,rfl,md,.inr ⟨2,.inr rfl,rfl⟩,λm q e=>?_⟩,Fr.refl _ _⟩) (λk=>A (ba l) (by rw[bQ];omega) d);have:=d m q e;rw[bQ,this]at k;exact absurd (List.eq_nil_of_length_eq_zero co) (uy m.natAbs)
 refine⟨co,c,C,aO (λk=>z λm q e=>?_) (λk=>⟨co,c,C,aO (λG=>z λm q e=>?_) (λG=>A s co λm q e=>?_)⟩)⟩
 .rw [j]at e;by_cases d:m<0
  .rw [o4 d]at e
   grind
  .have:=sa (xa d c l e);omega
 .exfalso;rw[j]at e;by_cases d:m<0
  .rw [o4 d]at e;injection e with e _
   subst e
   grind
  .have:=sa (xa d c l e);omega
 .rw [j]at e;by_cases d:m<0
  .rw [o4 d]at e;injection e with e _
   subst e
   grind
  .rw [j,e,ux d]
def Wg(l:List UInt8)(r:cE):Prop:=∃(n:Int) (v:aa),r=yU (.i n) v/\aX n/\(v=.nilIface\/∃t d,v=.iface t d)/\∀m,aX m->l=bE m->n=m/\v=.nilIface
def XE{s:ByteArray}(h:s.size<=1000000000){w:J}(k:lx w):aj V Qf #[.string s] w λr z=>Wg (bl s) r/\af w z:=by
 refine UW.ok _ w _ ((XF s h w).mono ?_);rintro _ D ⟨⟨n,v,rfl,d,y,x⟩,f⟩;refine⟨_,_,rfl,?_⟩;rcases y with rfl|⟨C,q,rfl⟩
 .exact ⟨false,Mm _ _,aP rfl ⟨⟨n,_,rfl,d,.inl rfl,x⟩,f⟩⟩
 .refine ⟨true,Ml _ _ _ _,aM rfl ((aef h q (k.br f)).mono ?_)⟩;rintro _ E ⟨⟨t,A,rfl⟩,j⟩;exact⟨_,rfl,⟨n,_,rfl,d,.inr ⟨t,A,rfl⟩,λm B e=>by grind⟩,f.dN j⟩
set_option maxHeartbeats 2000000
namespace J1
def ok:=az (ay V Tryz.f102 [] []) NP [.I]
end J1
namespace J0
def ok:=az (ay V Tryz.f126 [] []) ab6 [.I]
end J0
namespace rU
noncomputable def L0:=bg (ay V Tryz.f101 [] []) [0,1,1,1,2] [(8,.v [.s]),(9,.v [.I]),(10,.v [.I])]
noncomputable abbrev t1:=bf L0
def bC:=bj t1 L0
def ok:=az t1 NO [.s]
end rU
namespace uo
noncomputable def L0:=bg (ay V Tryz.f69 [(7,ls [0,1,2,3,5,6,7,8,9,4,10,11])] []) [0,1,1,1,2] [(0,.v [.s]),(4,.v [.I])]
noncomputable abbrev t1:=bf L0
def bC:=bj t1 L0
def ok:=az t1 NN [.s]
end uo
namespace lS
abbrev P0:Ps:=[]
noncomputable abbrev S0:=ak (ay V Tryz.f70 [] []) [0,1,1,1,1] P0
noncomputable abbrev t1:=ao S0
abbrev P1:Ps:=[(0,.v [.st]),(24,.v [.I]),(25,.v [.I])]
noncomputable def L1:=bg t1 [0,1,1,1,2] P1
noncomputable abbrev t2:=bf L1
noncomputable abbrev S3:=ak t2 [0,1,3,2,2,2,1,1,2] P0
noncomputable abbrev t3:=ao S3
noncomputable abbrev S4:=ak t3 [3,2,1,1,2] P1
noncomputable abbrev t4:=ao S4
noncomputable abbrev S2:=ak t4 [2,2,2,2,1,1,2] [(0,.v [.st]),(4,.v [.Y]),(24,.v [.I]),(25,.v [.I])]
noncomputable abbrev t5:=ao S2
def fH:=bj t5 L1
def ok:=az t5 Po [.st]
end lS
namespace vu
abbrev P0:Ps:=[]
noncomputable abbrev bD:=ak (ay V Tryz.f44 [] [3]) [0,1,1,1,1] P0
noncomputable abbrev t1:=ao bD
noncomputable def iv:=bg t1 [0,1,1,1,4] [(1,.v [.I]),(2,.v [.I]),(3,.l [.I,.I,.I,.s,.st,.s,.s] dD),(34,.v [.s]),(35,.v [.I]),(36,.v [.I])]
noncomputable abbrev t2:=bf iv
noncomputable abbrev cX:=ak t2 [0,1,2,2,2,2,1,1,4] P0
noncomputable abbrev t3:=ao cX
noncomputable abbrev fU:=ak t3 [0,1,1,1,5] P0
noncomputable abbrev t4:=ao fU
noncomputable abbrev jF:=ak t4 [6] P0
noncomputable abbrev t5:=ao jF
def kI:=bj t5 iv
noncomputable abbrev bW:=ak t5 [4] [(1,.v [.I]),(2,.v [.I]),(3,.l [.I,.I,.I,.s,.st,.s,.s] dD)]
noncomputable abbrev t6:=ao bW
def aD:=az t6 Pu [.a 7,.I,.I,.I,.s,.st,.s,.s,.I,.I]
end vu
namespace qH
noncomputable def a8:=bg (ay V Tryz.f43 [] [1,8]) [0,1,1,1,2] [(1,.l [.s,.s,.s,.s] gT),(18,.v [.s]),(19,.v [.I]),(20,.v [.I])]
noncomputable abbrev t1:=bf a8
noncomputable abbrev bW:=ak t1 [0,1,2,2,2,2,1,1,2] []
noncomputable abbrev t2:=ao bW
noncomputable def iv:=bg t2 [0,1,1,1,5] [(45,.v [.s]),(46,.v [.I]),(47,.v [.I])]
noncomputable abbrev t3:=bf iv
def kI:=bj t3 iv
def bJ:=bj t3 a8
def aD:=az t3 Pt [.a 4,.s,.s,.s,.s]
end qH
namespace ou
noncomputable abbrev bD:=ak (ay V Tryz.f21 [] [1,4,7]) [0,1,1,1,1] []
noncomputable abbrev t1:=ao bD
noncomputable def cv:=bg t1 [0,1,1,1,2] [(1,.l [.s,.s] e2),(20,.v [.s]),(21,.v [.I]),(22,.v [.I])]
noncomputable abbrev t2:=bf cv
noncomputable def iv:=bg t2 [0,1,1,1,3] [(1,.l [.s,.s] e2),(33,.v [.s]),(34,.v [.I]),(35,.v [.I])]
noncomputable abbrev t3:=bf iv
def kI:=bj t3 iv
def dO:=bj t3 cv
def aD:=az t3 F8 [.a 2,.s,.s]
end ou
namespace R8
noncomputable abbrev S0:=ak (ay V Tryz.f63 [] []) [4] [(3,.v [.st])]
noncomputable abbrev t1:=ao S0
def ok:=az t1 Pm [.r]
end R8
namespace R7
def ok:=az (ay V Tryz.f65 [] []) Pl [.r]
end R7
namespace R6
noncomputable abbrev S0:=ak (ay V Tryz.f68 [] []) [3] [(5,.v [.I])]
noncomputable abbrev t1:=ao S0
def ok:=az t1 Pk [.r,.st]
end R6
namespace px
noncomputable abbrev S1:=ak (ay V Tryz.f64 [] []) [0,1,1,1,5] []
noncomputable abbrev t1:=ao S1
noncomputable def L2:=bg t1 [0,1,1,1,7] [(0,.v [.r]),(8,.v [.s]),(52,.v [.s]),(53,.v [.I]),(54,.v [.I])]
noncomputable abbrev t2:=bf L2
def j5:=bj t2 L2
noncomputable abbrev S0:=ak t2 [5] [(0,.v [.r]),(6,.v [.st])]
noncomputable abbrev t3:=ao S0
def ok:=az t3 Pj [.r]
end px
namespace vt
noncomputable def L0:=bg (ay V Tryz.f66 [(7,ls [0,1,2,4,5,6,7,3,8,9,10])] []) [0,1,1,1,3] [(0,.v [.st]),(4,.v [.s]),(5,.v [.I])]
noncomputable abbrev t1:=bf L0
noncomputable abbrev S1:=ak t1 [0,1,1,1,1,2,1,2,1,1,3] []
noncomputable abbrev t2:=ao S1
def bC:=bj t2 L0
def ok:=az t2 Pr [.st]
end vt
namespace yf
noncomputable abbrev bD:=ak (ay V Tryz.f41 [] [2,9]) [3] [(2,.l [.s,.s,.s,.s] gT),(4,.v [.r])]
noncomputable abbrev t1:=ao bD
def aD:=az t1 F9 [.st]
end yf
namespace ov
abbrev P0:Ps:=[(2,.l [.I,.I,.I,.s,.st,.s,.s] dD),(4,.v [.r]),(5,.v [.I]),(6,.v [.st]),(15,.v [.a 6,.st,.st,.st,.st,.st,.st]),(16,.v [.I])]
noncomputable def a8:=bg (ay V Tryz.f42 [(20,lr 14)] [2,9]) [0,1,1,1,4] P0
noncomputable abbrev t1:=bf a8
noncomputable abbrev bW:=ak t1 [3,2,1,1,4] P0
noncomputable abbrev t2:=ao bW
noncomputable abbrev cb:=ak t2 [0,1,1,1,6] [(2,.l [.I,.I,.I,.s,.st,.s,.s] dD)]
noncomputable abbrev t3:=ao cb
noncomputable abbrev cX:=ak t3 [8] [(2,.l [.I,.I,.I,.s,.st,.s,.s] dD),(4,.v [.r]),(9,.l [.I,.I,.I,.s,.st,.s,.s] dD)]
noncomputable abbrev t4:=ao cX
def bJ:=bj t4 a8
def aD:=az t4 F' [.st]
end ov
namespace Bb
abbrev P0:Ps:=[]
noncomputable abbrev bD:=ak (ay V Tryz.f20 [(9,lr 11),(16,lr 12),(17,lr 11),(18,lr 11)] [8,10]) [0,1,1,2,2,1,2] P0
noncomputable abbrev t1:=ao bD
noncomputable abbrev cb:=ak t1 [6] P0
noncomputable abbrev t2:=ao cb
noncomputable abbrev bW:=ak t2 [1,1,1,1,5] [(10,.l [.I,.I,.I,.s,.st,.s,.s] dD),(12,.v [.r])]
noncomputable abbrev t3:=ao bW
def aD:=az t3 AK [.r,.r,.st]
end Bb
namespace vn
noncomputable def a8:=bg (ay V Tryz.f6 [] [2]) [0,1,1,1,4] [(0,.v [.st]),(2,.l [.s,.s] e2),(5,.v [.r]),(6,.v [.r]),(7,.v [.I])]
noncomputable abbrev t1:=bf a8
noncomputable abbrev bW:=ak t1 [0,1,1,1,1,1,1,2,1,1,4] [(2,.l [.s,.s] e2),(7,.v [.I])]
noncomputable abbrev t2:=ao bW
def bJ:=bj t2 a8
def aD:=az t2 F6 [.st]
end vn
namespace vo
noncomputable def L0:=bg (ay V Tryz.f25 [] []) [0,1,1,1,1] [(0,.v [.s]),(7,.v [.s]),(8,.v [.I]),(9,.v [.I])]
noncomputable abbrev t1:=bf L0
noncomputable abbrev S1:=ak t1 [2,2,2,2,1,1,1] [(0,.v [.s]),(6,.v [.st]),(7,.v [.s]),(8,.v [.I]),(9,.v [.I])]
noncomputable abbrev t2:=ao S1
def bC:=bj t2 L0
def ok:=az t2 Pg [.s,.s]
end vo
namespace vr
noncomputable def L0:=bg (ay V Tryz.f26 [] []) [0,1,1,1,2] [(3,.v [.s]),(7,.v [.s]),(8,.v [.I]),(9,.v [.I])]
noncomputable abbrev t1:=bf L0
noncomputable abbrev S1:=ak t1 [2,2,2,2,1,1,2] [(3,.v [.s]),(5,.v [.I]),(7,.v [.s]),(8,.v [.I]),(9,.v [.I])]
noncomputable abbrev t2:=ao S1
def bC:=bj t2 L0
def ok:=az t2 Pq [.s]
end vr
namespace vp
noncomputable def a8:=bg (ay V Tryz.f28 [(7,ls [0,1,2,3,4,5,6,8,9,11,12,13,15,16,18,19,7,10,14,17,20,21,22,23])] [6]) [0,1,1,1,1] [(0,.v [.s]),(8,.v [.s]),(9,.v [.I]),(10,.v [.I])]
noncomputable abbrev t1:=bf a8
noncomputable abbrev bW:=ak t1 [3,2,2,2,1,1,1] [(0,.v [.s]),(6,.l [.I,.I,.I,.s,.st,.s,.s] dD),(7,.v [.st]),(8,.v [.s]),(9,.v [.I]),(10,.v [.I])]
noncomputable abbrev t2:=ao bW
def bJ:=bj t2 a8
def aD:=az t2 Ph [.s,.s]
end vp
namespace vq
noncomputable def L0:=bg (ay V Tryz.f27 [(5,lr 10)] []) [0,1,1,1,2] [(3,.v [.s]),(10,.v [.s]),(11,.v [.I]),(12,.v [.I])]
noncomputable abbrev t1:=bf L0
def bC:=bj t1 L0
def ok:=az t1 Pn [.s]
end vq
namespace sP
noncomputable def a8:=bg (ay V Tryz.f11 [(9,ls [0,1,2,4,5,7,3,6,8,9,10,11])] [1,7]) [0,1,1,1,3] [(1,.l [.s,.s] e2),(5,.v [.s]),(16,.v [.s]),(17,.v [.I]),(18,.v [.I])]
noncomputable abbrev t1:=bf a8
def bJ:=bj t1 a8
def aD:=az t1 F7 [.a 2,.s,.s]
end sP
abbrev e8(b:Nat)(l:List UInt8)(ok:Bool):En:=.c b [.string (ba l),.bool ok] afL
inductive nV (l:List UInt8) (ok:Bool):List UInt8->List UInt8->Bool->Prop
 |no:32∉l->nV l ok l [] false
 |yes (a r:List UInt8):l=a++32::r->32∉a->nV l ok a r ok
inductive oV (l:List UInt8) (ok:Bool):List UInt8->Bool->Prop
 |no:(∀r,l≠32::r)->oV l ok l false
 |yes (r:List UInt8):l=32::r->oV l ok r ok
def CW(t:List UInt8)(ok:Bool)(n:Int)(d:Bool):Prop:=aX n/\(d=true->ok=true/\t=bE n)/\(∀m,aX m->t=bE m->n=m/\d=ok)
def oT(l:List UInt8)(ok:Bool)(xs:List Int)(d:List UInt8)(h:Bool):Prop:=
 (∀j∈xs,aX j)/\d.length<=l.length/\(h=true->ok=true/\l=cD xs++d)/\(∀(ys:List Int) (r:List UInt8),(∀k∈ys,aX k)->l=cD ys++r->ok=true->xs=ys/\d=r/\h=true)
section
variable {M:Nat->Prop} {w0 w:J} {L D:List En}
def _root_.Go.W.LH.Ki(H:LH M w0 w L D)(i:Nat){b:Nat}{l:List UInt8}{ok:Bool}(hi:L[i]? =some (e8 b l ok)){P:aH}{g:FuncId}{args:Array aa}{A:cE->List UInt8->Bool->J->Prop}{K:aJ}(E:LH (·=b) w w [e8 b l ok] D->aj P g args w λr d=>∃h j,A r h j d/\LH (·=b) w d [e8 b h j] D)(G:∀r d h j,A r h j d->Fr (·=b) w d->LH M w0 d (L.set i (e8 b h j)) D->K r d):aj P g args w K:=by
 have y:(e8 b l ok).P w:=H.get i hi;have B:LH (·=b) w w [e8 b l ok] D:=LH.s9 _ _ (by intro e q;rw[bY.1 q];exact⟨y,λz k=>by simpa[En.c,En.ob]using k⟩) (by simp[En.c,En.ob]) (λe q=>⟨H.rd e q,λz k I F=>by rw[bY.1 F];exact H.dj e q z k _ (aG hi)⟩)
 refine(E B).mono ?_;rintro r d ⟨h,j,C,x⟩;exact G r d h j C x.fr (H.ha i (e8 b h j) hi (x.fr.mono λz _ k=>by simp[En.c,En.ob,k]) (x.get 0) λb y=>.inl y)
end
section
variable {w:J} {D:List En} {b:Nat} {l:List UInt8} {ok:Bool}
def u5(C:l.length<=1000000000)(H:LH (·=b) w w [e8 b l ok] D):aj V Pm #[.pointer (some (ab b))] w λr A=>∃y z,(∃a,r=ae (.string (ba a))/\nV l ok a y z)/\LH (·=b) w A [e8 b y z] D:=by
 have E:=bQ l;refine R8.ok _ w _ ⟨ba l,H.ld 0 0,H.call (TR (ba l) 32 co w) ?_⟩;rintro _ F x q;rw[gC]at x;cases x with
 |no j=>
  refine⟨_,_,_,rfl,q.st 0 0 rfl λB d=>⟨ok,d.ld 0 1,?_⟩⟩;cases ok with
  |true=>exact aM rfl (d.st 0 1 rfl λk h=>⟨[],false,⟨l,rfl,.no j⟩,h⟩)
  |false=>exact aP rfl (d.st 0 1 rfl λk h=>⟨[],false,⟨l,rfl,.no j⟩,h⟩)
 |yes a r e j=>
  refine⟨_,_,_,rfl,q.st 0 0 rfl λB d=>⟨ok,d.ld 0 1,?_⟩⟩;cases ok with
  |true=>exact aM rfl (d.st 0 1 rfl λk h=>⟨r,true,⟨a,rfl,.yes a r e j⟩,h⟩)
  |false=>exact aP rfl (d.st 0 1 rfl λk h=>⟨r,false,⟨a,rfl,.yes a r e j⟩,h⟩)
def u4(H:LH (·=b) w w [e8 b l ok] D):aj V Pl #[.pointer (some (ab b))] w λr A=>∃y z,(r=ae (.tuple #[])/\oV l ok y z)/\LH (·=b) w A [e8 b y z] D:=by
 refine R7.ok _ w _ ⟨ba l,H.ld 0 0,H.call (Hw (ba l) 32 w) ?_⟩;rintro _ C x k;rw[gC]at x;cases x with
 |no q=>
  refine⟨_,_,rfl,k.st 0 0 rfl λB d=>⟨ok,d.ld 0 1,?_⟩⟩;cases ok with
  |true=>exact aM rfl (d.st 0 1 rfl λj h=>⟨l,false,⟨rfl,.no q⟩,h⟩)
  |false=>exact aP rfl (d.st 0 1 rfl λj h=>⟨l,false,⟨rfl,.no q⟩,h⟩)
 |yes r e=>
  refine⟨_,_,rfl,k.st 0 0 rfl λB d=>⟨ok,d.ld 0 1,?_⟩⟩;cases ok with
  |true=>exact aM rfl (d.st 0 1 rfl λj h=>⟨r,true,⟨rfl,.yes r e⟩,h⟩)
  |false=>exact aP rfl (d.st 0 1 rfl λj h=>⟨r,false,⟨rfl,.yes r e⟩,h⟩)
end
def Xp{a b:List UInt8}(h:ba a≠ba b):a≠b:=λe=>h (by rw[e])
def oW{a b:List UInt8}(h:ba a=ba b):a=b:=congrArg bl h
section
variable {w:J} {D:List En} {b:Nat} {l:List UInt8} {ok:Bool}
def Fs(t:List UInt8)(L:t.length<=1000000000)(z:dT∈D)(H:LH (·=b) w w [e8 b l ok] D):aj V Pk #[.pointer (some (ab b)),.string (ba t)] w λr F=>∃A B,(∃n,r=ae (.i n)/\CW t ok n B/\A=l)/\LH (·=b) w F [e8 b A B] D:=by
 refine R6.ok _ _ w _ (H.call (XE (s:=ba t) (by rw[bQ];omega) (H.rd _ z)) ?_);rintro _ G ⟨n,v,rfl,k,E,y⟩ h;have C:lx G:=h.rd _ z;refine⟨_,_,rfl,ok,h.ld 0 1,?_⟩;cases ok with
 |false=>exact aP rfl (h.st 0 1 rfl λI q=>⟨l,false,⟨n,rfl,⟨k,λd=>(by cases d),λm j e=>⟨(y m j e).1,rfl⟩⟩,rfl⟩,q⟩)
 |true=>
  refine aM rfl ?_;rcases E with rfl|⟨M,N,rfl⟩
  .refine ⟨true,aaD _ _,aM rfl (h.call (DB k C.1) ?_)⟩;rintro _ I rfl q;refine⟨_,rfl,q.st 0 1 rfl λK x=>⟨l,_,⟨n,rfl,⟨k,λd=>⟨rfl,?_⟩,λm j e=>?_⟩,rfl⟩,x⟩⟩
   .rw [q8]at d;exact(oW (eP d)).symm
   .have:=(y m j e).1;subst this;exact⟨rfl,by rw[q8,e];exact aQ rfl⟩
  .refine ⟨false,aaC _ _ _ _,aP rfl (h.st 0 1 rfl λK x=>⟨l,false,⟨n,rfl,⟨k,λd=>(by cases d),λm j e=>by cases(y m j e).2⟩,rfl⟩,x⟩)⟩
def nQ(w0:J)(xs:List Int)(r:cE)(Y:J):Prop:=∃s:Sl,r=ae s.v/\bq Y s xs/\∀d∈ax s,w0.heap.size<=d
def nQ.nil(w0 Y:J):nQ w0 [] (ae (.slice none 0 0)) Y:=⟨⟨none,0,0⟩,rfl,Rd.nil _,by simp[ax]⟩
def Nh{ys:List Int}{a r d:List UInt8}(j:41∉a)(e:a++41::r=cD ys++d):a=40::g1 ys/\r=d:=by
 have h:41∉(40::g1 ys):=by rw[aq,not_or];exact⟨md,Fp rfl md⟩
 unfold cD at e;rw[cN]at e;exact qi j h e
def UT{w:J}{s:Sl}{U:List (List UInt8)}(h:aF w cY 1 s (U.map b3)){i:Nat}{t:List UInt8}(hi:U[i]? =some t){K:Addr->Prop}(j:∀p,w.cell? (p.add (a5 (i:Int) *1))=some (.string (ba t))->K p):fo s (i:Int) K:=
 Ho h rfl (i:=i) (v:=b3 t) (by rw[ib,hi];rfl) λp _ d=>j p d
def aa3{w0:J}{t52:Sl}{U:List (List UInt8)}{rest:List UInt8}(ag:∀t∈U,t.length<=1000000000)(hn:U.length<=2000000000)(Y:dT∈D){K:aJ}(Z:∀r N E xs,nQ w0 xs r N->(∀x∈xs,aX x)->(E=true->U=xs.map bE)->(∀d:List Int,(∀y∈d,aX y)->U=d.map bE->xs=d/\E=true)->LH (·=b) w0 N [e8 b rest E] D->K r N):∀(k i:Nat) (ok:Bool) (xs:List Int) (C:Sl) (w:J),i+k=U.length->
  (∀x∈xs,aX x)->xs.length=i->(ok=true->U.take i=xs.map bE)->(∀d:List Int,(∀y∈d,aX y)->U=d.map bE->xs=d.take i/\ok=true)->
  LH (·=b) w0 w [e8 b rest ok,.row cY 1 t52 (U.map b3),.row b' 1 C (xs.map aY)] D->
  px.L2 (ab b) C t52 (U.length:Int) (i:Int) w K:=by
 intro k;induction k with
 |zero=>
  intro i ok xs C w hi z P H I h;refine px.j5 _ _ _ _ _ _ _ (aP (aV co) (Z _ _ ok xs ⟨C,rfl,(h.get 2:aF _ _ _ _ _).gK,λx z=>?_⟩ z (λq=>?_) (λd F e=>?_) (h.take 1)))
  .rcases h.new _ (aG (i:=2) rfl) x z with q|q
   .exact q
   .subst q;exact absurd z (n4 h.nd (i:=0) (j:=2) rfl rfl co x (by simp[En.c,En.ob]))
  .have:=H q
   rwa[eh co]at this
  .have:=I d F e;have hl:=congrArg List.length e;rw[gJ]at hl
   rwa[eh co]at this
 |succ k ih=>
  intro i ok xs C w hi z P H I h;have A:U[i]? =some U[i]:=a' co;generalize U[i]=t at A;have ae:=(h.get 1:aF _ _ _ _ _).len;have af:=(h.get 2:aF _ _ _ _ _).len;simp only[gJ,Nat.mul_one]at ae af;refine px.j5 _ _ _ _ _ _ _ (aM (aQ co) (UT (h.get 1) A λp hp=>⟨_,hp,h.Ki 0 rfl (λh=>Fs t (ag t (aG A)) Y h) ?_⟩));rintro _ w1 l' E ⟨n,rfl,⟨aa,ac,ad⟩,rfl⟩ _ Q;refine⟨_,rfl,Q.qd 2 iy rfl (λl9 w2 O _ _=>?_) co⟩;rw[bb _ co];have S:(xs.map aY)++#[Value.i n].toList=(xs++[n]).map aY:=by rw[List.map_append];rfl
  rw[S]at O;refine ih (i+1) E (xs++[n]) l9 w2 co ?_ (by rw[a9,P];rfl) (λq=>?_) (λd F e=>?_) O
  .intro x ah;rcases aW.1 ah with q|q
   .exact z x q
   .rw [bY.1 q];exact aa
  .obtain ⟨L,M⟩:=ac q;rw[dM,A,H L,List.map_append,M];rfl
  .obtain ⟨L,M⟩:=I d F e;have B:(d.map bE)[i]? =some t:=by rw[<-e];exact A
   rw[ib]at B;cases G:d[i]? with
   |none=>rw[G]at B;cases B
   |some y=>
    rw[G]at B;have ai:bE y=t:=Option.some.inj B;obtain⟨T,W⟩:=ad y (F y (aG G)) ai.symm;rw[dM,G,<-L,T,W];exact⟨rfl,M⟩
def Uv{c:UInt8}{n:Nat}:∀l:List UInt8,l.length<=n->∀t∈e1 c l,t.length<=n
 |[],_,t,d=>by simp[e1]at d;simp[d]
 |w::l,k,t,d=>by
  simp only[bI]at k;have h:=Uv (c:=c) (n:=n - 1) l co;unfold e1 at d;split at d
  .rcases aq.1 d with rfl|d
   .simp
   .have:=h t d;omega
  .rcases aq.1 d with rfl|d
   .have q:=BJ c l;cases j:e1 c l with
    |nil=>exact absurd j q
    |cons p x=>
     have:=h p (by rw[j];simp);simp;omega
   .have:=h t (List.mem_of_mem_tail d);omega
def sc(hl:l.length<=1000000000)(hD:dT∈D)(H:LH (·=b) w w [e8 b l ok] D):aj V Pj #[.pointer (some (ab b))] w λr j=>∃d h,(∃xs,nQ w xs r j/\oT l ok xs d h)/\LH (·=b) w j [e8 b d h] D:=by
 have hz:=bQ l;have fail:∀(d:List UInt8) (text:ByteArray) (G:J),d.length<=l.length->(∀(ys:List Int) (r:List UInt8),(∀N∈ys,aX N)->l=cD ys++r->ok=true->False)->LH (·=b) w G [e8 b d false] D->px.S0 (ab b) text G λr j=>∃d h,(∃xs,nQ w xs r j/\oT l ok xs d h)/\LH (·=b) w j [e8 b d h] D:=by intro d text G aa A I;exact⟨false,I.ld 0 1,aM rfl ⟨d,false,⟨[],nQ.nil _ _,ws,aa,λy=>(by cases y),λys r Q e B=>(A ys r Q e B).elim⟩,I⟩⟩
 refine px.ok _ w _ ⟨ba l,H.ld 0 0,H.call (TR (ba l) 41 co w) ?_⟩;rintro _ G Y I;rw[gC]at Y;cases Y with
 |no y=>
  refine⟨_,_,_,rfl,I.call (Hw (ba l) 40 G) ?_⟩;rintro _ Z F O;have A:∀(ys:List Int) (r:List UInt8),(∀N∈ys,aX N)->l=cD ys++r->ok=true->False:=λys r _ e _=>y (by rw[e];simp[cD]);have fin:∀(t:ByteArray) (o:Bool),aS Z ((ab b).add 0) (.string (ba [])) λC=>∃t33:Bool,C.cell? ((ab b).add 1)=some (.bool t33)/\bt t33 (bt false (aS C ((ab b).add 1) (.bool o) λq=>px.S0 (ab b) t q λr j=>∃d h,(∃xs,nQ w xs r j/\oT l ok xs d h)/\LH (·=b) w j [e8 b d h] D) (aS C ((ab b).add 1) (.bool false) λT=>px.S0 (ab b) t T λr j=>∃d h,(∃xs,nQ w xs r j/\oT l ok xs d h)/\LH (·=b) w j [e8 b d h] D)) (aS C ((ab b).add 1) (.bool false) λw6=>px.S0 (ab b) t w6 λr j=>∃d h,(∃xs,nQ w xs r j/\oT l ok xs d h)/\LH (·=b) w j [e8 b d h] D):=by
   intro t o;refine O.st 0 0 rfl λC x=>⟨ok,x.ld 0 1,?_⟩;cases ok with
   |true=>exact aM rfl (aP rfl (x.st 0 1 rfl λq k=>fail [] t q ws A k))
   |false=>exact aP rfl (x.st 0 1 rfl λq k=>fail [] t q ws A k)
  cases F with
  |no _=>exact⟨_,_,rfl,fin _ _⟩
  |yes _ _=>exact⟨_,_,rfl,fin _ _⟩
 |yes a r e y=>
  refine⟨_,_,_,rfl,I.call (Hw (ba a) 40 G) ?_⟩;rintro _ Z F O;rw[gC]at F;have L:r.length<=l.length:=by rw[e];simp;omega
  cases F with
  |no F=>
   have A:∀(ys:List Int) (r':List UInt8),(∀N∈ys,aX N)->l=cD ys++r'->ok=true->False:=λys r' _ z _=>F _ (Nh y (e▸z)).1;refine⟨_,_,rfl,O.st 0 0 rfl λC x=>⟨ok,x.ld 0 1,?_⟩⟩;cases ok with
   |true=>exact aM rfl (aM rfl (x.st 0 1 rfl λq k=>fail r _ q L A k))
   |false=>exact aP rfl (x.st 0 1 rfl λq k=>fail r _ q L A k)
  |yes text P=>
   refine⟨_,_,rfl,O.st 0 0 rfl λC x=>⟨ok,x.ld 0 1,?_⟩⟩;cases ok with
   |false=>exact aP rfl (x.st 0 1 rfl λq k=>fail r _ q L (λ_ _ _ _ y=>by cases y) k)
   |true=>
    have fwd:∀(ys:List Int) (r':List UInt8),l=cD ys++r'->text=g1 ys/\r=r':=λys r' z=>by obtain⟨E,K⟩:=Nh y (e▸z);rw[P]at E;exact⟨(List.cons.inj E).2,K⟩
    refine aM rfl (aM rfl (x.st 0 1 rfl λq k=>⟨true,k.ld 0 1,aP rfl (jz (λM=>?_) (λM=>?_))⟩))
    .have M:text=[]:=oW M;subst M;refine⟨r,true,⟨[],nQ.nil _ _,ws,L,λ_=>⟨rfl,by rw[e,P];rfl⟩,λys r' _ z _=>?_⟩,k⟩;obtain⟨E,K⟩:=fwd ys r' z;exact⟨(Fo.1 E.symm).symm,K,rfl⟩
    .have ad:text.length<=l.length:=by rw[e,P];simp;omega
     have ak:=bQ text;refine(aec (ba text) 32 co q).mono ?_;rintro _ T ⟨⟨t,rfl,B,ac⟩,f5⟩;rw[gC]at B;have ai:=Uu 32 text;have ah:Go.Lib.countByte text 32<=text.length:=List.count_le_length;have H5:=k.push (.row cY 1 t ((e1 32 text).map b3)) f5 B ac;have ae:t.n=(e1 32 text).length:=by have:=B.len;simpa using this.symm
     refine⟨t,rfl,?_⟩;try dsimp only
     rw[ae];refine aa3 (D:=D) (b:=b) (w0:=w) (rest:=r) (t52:=t) (U:=e1 32 text) (λaf hq=>Uv text (bz ad hl) af hq) co hD (λr' j h xs E K h3 h4 H6=>?_) (e1 32 text).length 0 true [] ⟨none,0,0⟩ T co ws rfl (λ_=>rfl) (λys _ _=>⟨rfl,rfl⟩) (H5.fN b' 1);refine⟨r,h,⟨xs,E,K,L,λB=>⟨rfl,?_⟩,λys ag Q z _=>?_⟩,H6⟩
     .rw [e,P,Ut (h3 B)];simp[cD]
     .obtain ⟨W,h6⟩:=fwd ys ag z;have S:ys≠[]:=λS=>by subst S;exact M (by rw[W];rfl)
      obtain⟨h7,h8⟩:=h4 ys Q (by rw[W];exact Aj S);exact⟨h7,h6,h8⟩
end
def h6:Nat->List UInt8->Int
 |0,_=>-1
 |i+1,a=>if j3.getD i []=a then(i:Int)else h6 i a
def Fw(k:Int)(d:0<=k)(h:k<=5):h6 6 (gU k)=k:=by
 have:k=0\/k=1\/k=2\/k=3\/k=4\/k=5:=co
 rcases this with rfl|rfl|rfl|rfl|rfl|rfl<;>decide
def MZ:∀(i:Nat) (a:List UInt8),i<=6->0<=h6 i a->a=gU (h6 i a)/\h6 i a<(i:Int)
 |0,a,_,d=>by simp[h6]at d
 |i+1,a,k,d=>by
  unfold h6 at d ⊢;split
  .rename_i e;exact⟨by rw[<-e];simp[gU],co⟩
  .rename_i e;rw[ag e]at d;obtain⟨h,j⟩:=MZ i a co d;exact⟨h,co⟩
def Ch(k:Int):32∉gU k:=by
 unfold gU;have d:∀i<6,32∉j3.getD i []:=md
 by_cases h:k.toNat<6
 .exact d _ h
 .rw [List.getD_eq_getElem?_getD,List.getElem?_eq_none (by show 6<=_;omega)];simp
def jQ(a:List UInt8):ByteArray:=if a=[45]then ba []else ba a
def sD{s:bO}(h:kM s):jQ (hh s)=s.nm/\32∉hh s/\hh s≠[]/\∀l,hh s≠40::l:=by
 unfold hh jQ;by_cases d:bl s.nm=[]
 .rw [av d,av rfl];exact⟨by rw[<-jk s.nm,d],md,ws,ws⟩
 .rw [ag d,ag h.nm2];exact⟨jk _,h.nm1,d,h.nm3⟩
def acn{a:List UInt8}(h:a≠[])(k n r:Int)(p l g:List Int):hh ⟨k,n,r,p,jQ a,l,g⟩=a:=by
 unfold hh jQ;by_cases d:a=[45]
 .rw [av d];simp[gC,d]
 .rw [ag d];simp[gC,h]
def ae6{a:List UInt8}{k n r:Int}{p l g:List Int}(x:0<=k/\k<=5)(z:aX n)(B:aX r)(A:∀d∈p,aX d)(y:∀d∈l,aX d)(w:∀d∈g,aX d)(j:32∉a)(q:∀t,a≠40::t):kM ⟨k,n,r,p,jQ a,l,g⟩:=by
 refine⟨x,z,B,A,y,w,?_,?_,?_⟩<;>(show _;unfold jQ;split)
 .simp [gC]
 .rw [gC];exact j
 .simp [gC]
 .rename_i h;rw[gC];exact h
 .simp [gC]
 .rw [gC];exact q
def y0{l:List UInt8}{ok:Bool}{x d:List UInt8}{j:Bool}(h:nV l ok x d j){a r:List UInt8}(e:l=a++32::r)(y:32∉a):x=a/\d=r/\j=ok:=by
 cases h with
 |no h=>exact absurd (by rw[e];simp) h
 |yes x d k z=>
  obtain⟨q,w⟩:=qi z y (k.symm.trans e);exact⟨q,w,rfl⟩
def Cf{l:List UInt8}{ok:Bool}{x d:List UInt8}(h:nV l ok x d true):l=x++32::d/\32∉x/\ok=true:=by
 cases h with
 |yes x d e j=>exact⟨e,j,rfl⟩
def BH{l:List UInt8}{ok:Bool}{d:List UInt8}{j:Bool}(h:oV l ok d j){r:List UInt8}(e:l=32::r):d=r/\j=ok:=by
 cases h with
 |no h=>exact absurd e (h r)
 |yes q k=>rw[k]at e;exact⟨(List.cons.inj e).2,rfl⟩
def Uq{l:List UInt8}{ok:Bool}{d:List UInt8}(h:oV l ok d true):l=32::d/\ok=true:=by
 cases h with
 |yes r e=>exact⟨e,rfl⟩
structure qa(l a1 a4:List UInt8)(n ru:Int)(GB:Bool)(l4:List UInt8):Prop where
 r:∃l1 Rr a2 l2 Rv Rw a3 l3 Ry Rz,nV l true a1 l1 Rr/\nV l1 Rr a2 l2 Rv/\CW a2 Rv n Rw/\nV l2 Rw a3 l3 Ry/\CW a3 Ry ru Rz/\nV l3 Rz a4 l4 GB
def qa.fwd{l j k q:List UInt8}{n x:Int}{w:Bool}(h:qa l j k n x w q){s:bO}(d:kM s)(e:l=cM s):
  j=gU s.kind/\n=s.node/\x=s.df/\k=hh s/\w=true/\q=cD s.params++32::(cD s.hints++32::cD s.bR):=by obtain⟨G,K,E,H,L,M,F,I,N,O,y,z,A,B,C,D⟩:=h.r;unfold cM at e;obtain⟨rfl,rfl,rfl⟩:=y0 y e (Ch _);obtain⟨rfl,rfl,rfl⟩:=y0 z rfl (n3 rfl);obtain⟨rfl,rfl⟩:=A.2.2 _ d.node rfl;obtain⟨rfl,rfl,rfl⟩:=y0 B rfl (n3 rfl);obtain⟨rfl,rfl⟩:=C.2.2 _ d.df rfl;obtain⟨rfl,rfl,rfl⟩:=y0 D rfl (sD d).2.1;exact⟨rfl,rfl,rfl,rfl,rfl,rfl⟩
def qa.back{l k d x:List UInt8}{n j:Int}(h:qa l k d n j true x):l=k++32::(bE n++32::(bE j++32::(d++32::x)))/\aX n/\aX j/\32∉d:=by obtain⟨M,P,K,N,Q,S,L,O,T,U,E,F,q,G,w,H⟩:=h.r;obtain⟨D,I,rfl⟩:=Cf H;obtain⟨rfl,C⟩:=w.2.1 rfl;obtain⟨B,_,rfl⟩:=Cf G;obtain⟨rfl,A⟩:=q.2.1 rfl;obtain⟨z,_,rfl⟩:=Cf F;obtain⟨y,_,_⟩:=Cf E;exact⟨by rw[y,z,A,B,C,D],q.1,w.1,I⟩
structure rI(l4:List UInt8)(GB:Bool)(ps hs ls:List Int)(ok:Bool)(l9:List UInt8):Prop where
 r:∃l5 RA l6 RB l7 RC l8 Ru,oT l4 GB ps l5 RA/\oV l5 RA l6 RB/\oT l6 RB hs l7 RC/\oV l7 RC l8 Ru/\oT l8 Ru ls l9 ok
def rI.fwd{k q:List UInt8}{ps j ls:List Int}{ok:Bool}(h:rI k true ps j ls ok q){s:bO}(d:kM s)(e:k=cD s.params++32::(cD s.hints++32::cD s.bR)):
  ps=s.params/\j=s.hints/\ls=s.bR/\ok=true/\q=[]:=by obtain⟨B,G,C,H,D,I,E,F,w,x,y,z,A⟩:=h.r;obtain⟨rfl,rfl,rfl⟩:=w.2.2.2 _ _ d.params e rfl;obtain⟨rfl,rfl⟩:=BH x rfl;obtain⟨rfl,rfl,rfl⟩:=y.2.2.2 _ _ d.hints rfl rfl;obtain⟨rfl,rfl⟩:=BH z rfl;obtain⟨rfl,rfl,rfl⟩:=A.2.2.2 _ [] d.bR (by rw[ed]) rfl;exact⟨rfl,rfl,rfl,rfl,rfl⟩
def rI.back{y:List UInt8}{z:Bool}{ps j ls:List Int}(h:rI y z ps j ls true []):y=cD ps++32::(cD j++32::cD ls)/\z=true/\(∀d∈ps,aX d)/\(∀d∈j,aX d)/\(∀d∈ls,aX d):=by obtain⟨G,M,H,N,I,O,K,L,q,E,w,F,x⟩:=h.r;obtain⟨rfl,k⟩:=x.2.2.1 rfl;obtain⟨D,rfl⟩:=Uq F;obtain⟨rfl,C⟩:=w.2.2.1 rfl;obtain⟨B,rfl⟩:=Uq E;obtain⟨rfl,A⟩:=q.2.2.1 rfl;rw[ed]at k;exact⟨by rw[A,B,C,D,k],rfl,q.1,w.1,x.1⟩
def zf(l:List UInt8):Prop:=∀s,kM s->l≠cM s
def aeZ{l q k w:List UInt8}{n y:Int}{x:Bool}(h:qa l q k n y x w)(d:h6 6 q<0\/k=[]\/∃t,k=40::t):zf l:=by
 intro s j e;obtain⟨rfl,_,_,rfl,_,_⟩:=h.fwd j e;rw[Fw _ j.kind.1 j.kind.2]at d;rcases d with d|d|⟨t,d⟩
 .have:=j.kind.1;omega
 .exact (sD j).2.2.1 d
 .exact (sD j).2.2.2 t d
def UM{l y z q w:List UInt8}{n E:Int}{x ok:Bool}{ps C ls:List Int}(h:qa l y z n E x q)(D:rI q x ps C ls ok w)(d:ok=false\/w≠[]):zf l:=by
 intro s k e;obtain⟨_,_,_,_,rfl,A⟩:=h.fwd k e;obtain⟨_,_,_,j,B⟩:=D.fwd k A;rcases d with d|d
 .rw [d]at j;cases j
 .exact d B
def ae1{l d j x:List UInt8}{n q:Int}{y:Bool}{ps k ls:List Int}(h:qa l d j n q y x)(I:rI x y ps k ls true [])(w:0<=h6 6 d)(A:j≠[])(C:∀t,j≠40::t):
  kM ⟨h6 6 d,n,q,ps,jQ j,ls,k⟩/\l=cM ⟨h6 6 d,n,q,ps,jQ j,ls,k⟩:=by obtain⟨z,rfl,G,D,E⟩:=I.back;obtain⟨e,F,H,B⟩:=h.back;obtain⟨K,L⟩:=MZ 6 d co w;refine⟨ae6 ⟨w,co⟩ F H G E D B C,?_⟩;unfold cM;rw[acn A];show l=gU (h6 6 d)++32::(bE n++32::(bE q++32::(j++32::(cD ps++32::(cD k++32::cD ls)))));rw[<-K,<-z,e]
def FE{xs ys:List Int}{r r':List UInt8}(e:cD xs++r=cD ys++r'):xs=ys/\r=r':=by
 unfold cD at e;rw[cN,cN]at e;have k:∀ys:List Int,41∉(40::g1 ys):=λys=>by rw[aq,not_or];exact⟨md,Fp rfl md⟩
 obtain⟨d,w⟩:=qi (k xs) (k ys) e;refine⟨?_,w⟩;have d:g1 xs=g1 ys:=(List.cons.inj d).2;by_cases h:xs=[]
 .subst h;exact(Fo.1 d.symm).symm
 .have j:ys≠[]:=λj=>by subst j;exact h (Fo.1 d)
  have:=congrArg (e1 32) d;rw[Aj h,Aj j]at this;exact(List.map_inj_right λx y q=>Eh q).1 this
def ae5:∀{s t:bO},s.kind=t.kind->s.node=t.node->s.df=t.df->s.params=t.params->s.nm=t.nm->s.bR=t.bR->s.hints=t.hints->s=t
 |⟨_,_,_,_,_,_,_⟩,⟨_,_,_,_,_,_,_⟩,rfl,rfl,rfl,rfl,rfl,rfl,rfl=>rfl
def abv{s t:bO}(d:kM s)(h:kM t)(e:cM s=cM t):s=t:=by
 unfold cM at e;obtain⟨j,e⟩:=qi (Ch _) (Ch _) e;obtain⟨k,e⟩:=qi (n3 rfl) (n3 rfl) e;obtain⟨q,e⟩:=qi (n3 rfl) (n3 rfl) e;obtain⟨w,e⟩:=qi (sD d).2.1 (sD h).2.1 e;obtain⟨x,e⟩:=FE e;obtain⟨y,e⟩:=FE (List.cons.inj e).2;have z:=(FE (xs:=s.bR) (ys:=t.bR) (r:=[]) (r':=[]) (by rw[ed,ed];exact(List.cons.inj e).2)).1;have A:s.kind=t.kind:=by rw[<-Fw _ d.kind.1 d.kind.2,j,Fw _ h.kind.1 h.kind.2]
 have m:s.nm=t.nm:=by rw[<-(sD d).1,w,(sD h).1]
 exact ae5 A (Eh k) (Eh q) x m z y
def eY(s:bO):List UInt8:=cM s++[10]
def af4(k:Int):10∉gU k:=by
 unfold gU;have d:∀i<6,10∉j3.getD i []:=md
 by_cases h:k.toNat<6
 .exact d _ h
 .rw [List.getD_eq_getElem?_getD,List.getElem?_eq_none (by show 6<=_;omega)];simp
def Au{l:List Int}{c:UInt8}(d:uZ c=false)(h:c≠32)(j:c≠40)(k:c≠41):c∉cD l:=by unfold cD;simp only[List.cons_append,aq,aW,bY,not_or,aL,not_false_eq_true,and_true];exact⟨j,Fp d h,k⟩
def abu{s:bO}(h:10∉hh s):10∉cM s:=by unfold cM;simp only[aW,aq,not_or];exact⟨af4 _,md,n3 rfl,md,n3 rfl,md,h,md,Au rfl md md md,md,Au rfl md md md,md,Au rfl md md md⟩
def T4{b:Nat}{l h:List UInt8}{ok j:Bool}:∀{L:List En} {i:Nat},L[i]? =some (e8 b l ok)->(L.set i (e8 b h j)).flatMap (·.fp)=L.flatMap (·.fp)
 |a::L,0,d=>by simp only[List.getElem?_cons_zero,Option.some.injEq]at d;subst d;rfl
 |a::L,i+1,d=>by simp only[List.getElem?_cons_succ]at d;simp only[List.set_cons_succ,List.flatMap_cons,T4 d]
section
variable {M:Nat->Prop} {w0 w:J} {L D:List En}
def _root_.Go.W.LH.sB{Y:J}{L':List En}(h:LH M w0 Y L' D)(z:∀b∈L'.flatMap (·.fp),b<w.heap.size)(e:En)(A:e.P Y)(B:∀b∈e.fp,w.heap.size<=b):LH M w0 Y L' (D++[e]):=
 ⟨h.fr,h.own,λg d=>(aW.1 d).elim (h.rd g) λy=>by rw[bY.1 y];exact A,h.new,h.nd,λg d b j k x q=>by
  rcases aW.1 d with d|d
  .exact h.dj g d b j k x q
  .rw [bY.1 d]at j;have C:=B b j;have E:=z b (bX.2 ⟨k,x,q⟩);omega⟩
def _root_.Go.W.LH.hH(H:LH M w0 w L D)(i:Nat){bs:List Nat}{b:Nat}{l:List UInt8}{ok:Bool}(hi:L[i]? =some (e8 b l ok)){P:aH}{g:FuncId}{args:Array aa}{A:cE->List UInt8->Bool->J->Prop}{K:aJ}(x:LH (·=b) w w [e8 b l ok] D->aj P g args w λr d=>∃h j,A r h j d/\LH (·=b) w d [e8 b h j] D)(z:∀r d h j,A r h j d->LH M w0 d (L.set i (e8 b h j)) D->(∀e:En,e.P d->(∀G∈e.fp,w.heap.size<=G)->LH M w0 d (L.set i (e8 b h j)) (D++[e]))->K r d)(bF:∀b∈bs,En.g b∈L:=by simp):eJ bs P g args w K:=
 ⟨(·=b),λF E B=>o' H hi (wU w b _ _) (bF F E) (by subst B;exact qg.2 rfl),H.Ki i hi x λr d h j q f k=>⟨f,z r d h j q k λe y C=>k.sB (w:=w) (by rw[T4 hi];exact H.oq) e y C⟩⟩
end
def Ni{l j:List UInt8}{xs:List Int}{d:Bool}(h:oT l false xs j d):d=false:=by
 cases d with
 |false=>rfl
 |true=>cases(h.2.2.1 rfl).1
def Us{l d:List UInt8}{j:Bool}(h:oV l false d j):j=false/\d.length<=l.length:=by
 cases h with
 |no _=>exact⟨rfl,bm _⟩
 |yes r e=>exact⟨rfl,by rw[e];simp⟩
def Ur{l d:List UInt8}{ok j:Bool}(h:oV l ok d j):d.length<=l.length:=by
 cases h with
 |no _=>exact bm _
 |yes r e=>rw[e];simp
def y1{l a d:List UInt8}{ok j:Bool}(h:nV l ok a d j):d.length<=l.length/\a.length<=l.length:=by
 cases h with
 |no _=>exact⟨ws,bm _⟩
 |yes _ _ e _=>rw[e];simp;omega
def Yw{line:List UInt8}(S:line.length<=1000000000)(T:∀r,line≠[98,101,103,105,110]++32::r){w:J}{D:List En}(B:dT∈D)(H:LH F0 w w [] D):
  aj V F9 #[.string (ba line)] w λr h=>r=ae (.tuple #[.agg #[.slice none 0 0,.slice none 0 0,.slice none 0 0,.slice none 0 0],.bool false])/\af w h:=by
 refine yf.aD _ w _ (H.aK λk q G=>G.nw λw2 _ I=>I.hH 1 rfl (λH=>u5 S H) ?_);rintro _ F d ac ⟨a,rfl,E⟩ z _;have O:∀(d:List UInt8) (y:J),d.length<=1000000000->LH F0 w y [.g k,e8 q.heap.size d false] D->yf.bD k ⟨none,0,0⟩ ⟨none,0,0⟩ ⟨none,0,0⟩ ⟨none,0,0⟩ (ab q.heap.size) y λr h=>r=ae (.tuple #[.agg #[.slice none 0 0,.slice none 0 0,.slice none 0 0,.slice none 0 0],.bool false])/\af w h:=by intro d y P K;refine K.hH 1 rfl (λH=>sc P B H) ?_;rintro _ j l2 ad ⟨xs,⟨s,rfl,_⟩,C⟩ x _;obtain rfl:=Ni C;refine⟨_,rfl,x.hH 1 rfl (λH=>u4 H) ?_⟩;rintro _ w6 l3 ag ⟨rfl,W⟩ L _;obtain⟨rfl,h3⟩:=Us W;refine⟨rfl,L.hH 1 rfl (λH=>sc (by have:=C.2.1;omega) B H) ?_⟩;rintro _ w7 l4 ah ⟨al,⟨s',rfl,_⟩,U⟩ M _;obtain rfl:=Ni U;refine⟨_,rfl,M.hH 1 rfl (λH=>u4 H) ?_⟩;rintro _ w8 l5 ak ⟨rfl,Y⟩ A _;obtain⟨rfl,_⟩:=Us Y;exact⟨rfl,false,A.ld 1 1,aM rfl (A.ai λw9 N=>⟨rfl,N.fr⟩)⟩
 have aa:=y1 E;have no:aS F ((ab q.heap.size).add 1) (.bool false) λj=>kept [k] F j/\yf.bD k ⟨none,0,0⟩ ⟨none,0,0⟩ ⟨none,0,0⟩ ⟨none,0,0⟩ (ab q.heap.size) j λr h=>r=ae (.tuple #[.agg #[.slice none 0 0,.slice none 0 0,.slice none 0 0,.slice none 0 0],.bool false])/\af w h:=
  z.q2 1 1 rfl λj x=>O d j co x
 refine⟨_,rfl,jz (λQ=>?_) (λ_=>no)⟩;cases E with
 |no Z=>exact⟨false,z.ld 1 1,no⟩
 |yes a r e ha=>
  have:a=[98,101,103,105,110]:=oW Q;exact absurd (by rw[e,this]) (T d)
abbrev eI:En:=.rd ⟨some (ab 0),6,6⟩ (j3.map b3)
abbrev wB(i:Nat):ByteArray:=ba (j3.getD i [])
def tk{w:J}(h:eI.P w)(i:Nat)(hi:i<6):w.cell? ((Addr.mk 0 0 none).add i)=some (.string (wB i)):=by
 have d:∀i<6,(j3.map b3)[i]? =some (.string (wB i)):=by
  intro i hi
  match i,hi with
  |0,_=>rfl
  |1,_=>rfl
  |2,_=>rfl
  |3,_=>rfl
  |4,_=>rfl
  |5,_=>rfl
 obtain⟨p,k,j⟩:=(show Rd w _ _ from h).2.2.2 i _ (d i hi);cases k;exact j
def afX:∀i<6,(#[.string (wB 0),.string (wB 1),.string (wB 2),.string (wB 3),.string (wB 4),.string (wB 5)]:Array aa)[i]? =some (.string (wB i)):=by
 intro i d
 match i,d with
 |0,_=>rfl
 |1,_=>rfl
 |2,_=>rfl
 |3,_=>rfl
 |4,_=>rfl
 |5,_=>rfl
def ad5{b2:Nat}{q:Addr}{h:List UInt8}{w:J}{K:aJ}(y:ov.a8 b2 0 0 0 ⟨none,0,0⟩ (bh #[]) ⟨none,0,0⟩ ⟨none,0,0⟩ q (h6 6 h) (ba h) (wB 0) (wB 1) (wB 2) (wB 3) (wB 4) (wB 5) 6 w K):∀j i:Nat,i+j=6->
  ov.a8 b2 0 0 0 ⟨none,0,0⟩ (bh #[]) ⟨none,0,0⟩ ⟨none,0,0⟩ q (h6 i h) (ba h) (wB 0) (wB 1) (wB 2) (wB 3) (wB 4) (wB 5) (i:Int) w K:=by
 intro j;induction j with
 |zero=>
  intro i z;obtain rfl:i=6:=co
  exact y
 |succ j A=>
  intro i z;have x:=A (i+1) co;refine ov.bJ _ _ _ _ _ _ _ _ _ _ _ _ _ _ _ _ _ _ _ _ (aM (aQ co) ⟨co,by show(i:Int)<6;omega,wB i,by rw[bo];exact afX i co,?_⟩);have d:=x;unfold h6 at d;refine jz (λk=>?_) (λk=>?_)
  .rw [av (oW k)]at d;show ov.a8 _ _ _ _ _ _ _ _ _ _ _ _ _ _ _ _ _ (ah .i64 _) _ _;rw[bb _ co];exact d
  .rw [ag (Xp k)]at d;show ov.a8 _ _ _ _ _ _ _ _ _ _ _ _ _ _ _ _ _ (ah .i64 _) _ _;rw[bb _ co];exact d
structure Sp where
 x:bO
 p:Sl
 l:Sl
 h:Sl
namespace Sp
def c(d:Sp):List aa:=[.i d.x.kind,.i d.x.node,.i d.x.df,d.p.v,.string d.x.nm,d.l.v,d.h.v]
abbrev v(d:Sp):aa:=.agg #[.i d.x.kind,.i d.x.node,.i d.x.df,d.p.v,.string d.x.nm,d.l.v,d.h.v]
abbrev pE(d:Sp):En:=.rd d.p (d.x.params.map aY)
abbrev lE(d:Sp):En:=.rd d.l (d.x.bR.map aY)
abbrev hE(d:Sp):En:=.rd d.h (d.x.hints.map aY)
end Sp
def De(w0:J)(line:List UInt8)(r:cE)(Y:J):Prop:=
 (∃d:Sp,zf line/\r=ae (.tuple #[d.v,.bool false]))\/∃d:Sp,kM d.x/\line=cM d.x/\r=ae (.tuple #[d.v,.bool true])/\(∀e∈[d.pE,d.hE,d.lE],e.P Y/\∀b∈e.fp,w0.heap.size<=b)
def afQ{c d:UInt8}(h:(c.toNat:Int)=(d.toNat:Int)):c=d:=UInt8.toNat_inj.1 co
def afP{a:List UInt8}(h:a≠[]):∃c t,a=c::t:=by
 cases a with
 |nil=>exact absurd rfl h
 |cons c t=>exact⟨c,t,rfl⟩
def Yy{line:List UInt8}(hl:line.length<=1000000000){w:J}{D:List En}(C:dT∈D)(hW:eI∈D)(H:LH F0 w w [] D):
  aj V F' #[.string (ba line)] w λr Y=>De w line r Y/\af w Y:=by
 refine ov.aD _ w _ (H.aK λM w1 P=>P.nw λw2 _ Q=>Q.hH 1 rfl (λH=>u5 hl H) ?_);rintro _ w3 l1 aw ⟨x,rfl,r1⟩ H3 _;have z:=H3.rd _ hW;refine⟨_,rfl,wB 0,wB 1,wB 2,wB 3,wB 4,wB 5,tk z 0 co,tk z 1 co,tk z 2 co,tk z 3 co,tk z 4 co,tk z 5 co,ad5 ?_ 6 0 rfl⟩;have aZ:=y1 r1;refine ov.bJ _ _ _ _ _ _ _ _ _ _ _ _ _ _ _ _ _ _ _ _ (aP rfl (H3.hH 1 rfl (λH=>u5 co H) ?_));rintro _ w4 l2 ay ⟨a2,rfl,r2⟩ H4 _;have a0:=y1 r2;refine⟨_,rfl,H4.hH 1 rfl (λH=>Fs a2 co C H) ?_⟩;rintro _ w5 aW az ⟨n,rfl,r3,S⟩ H5 _;have S:=S.symm;subst S;refine⟨_,rfl,H5.hH 1 rfl (λH=>u5 co H) ?_⟩;rintro _ w6 l3 aA ⟨a3,rfl,r4⟩ H6 _;have a5:=y1 r4;refine⟨_,rfl,H6.hH 1 rfl (λH=>Fs a3 co C H) ?_⟩;rintro _ w7 aX aB ⟨G,rfl,r5,T⟩ H7 _;have T:=T.symm;subst T;refine⟨_,rfl,H7.hH 1 rfl (λH=>u5 co H) ?_⟩;rintro _ w8 l4 aa ⟨d,rfl,r6⟩ H8 _;have a6:=y1 r6;have sr:qa line x d n G aa l4:=⟨⟨l1,aw,a2,l2,ay,az,a3,l3,aA,aB,r1,r2,r3,r4,r5,r6⟩⟩;have bad:(h6 6 x<0\/d=[]\/∃t,d=40::t)->∀{bs:List Nat} {Y:J} {L:List En},LH F0 w Y L D->(∀b∈bs,En.g b∈L)->En.g M∈L->loc bs Y λaI=>ov.cb M 0 0 0 ⟨none,0,0⟩ (bh #[]) ⟨none,0,0⟩ ⟨none,0,0⟩ aI λr Y=>De w line r Y/\af w Y:=λj bs Y L H h1 h2=>
  H.ai (λw1 P=>P.ai (λw2 Q=>⟨.inl ⟨⟨⟨0,0,0,[],bh #[],[],[]⟩,⟨none,0,0⟩,⟨none,0,0⟩,⟨none,0,0⟩⟩,aeZ sr j,rfl⟩,Q.fr⟩) (by simp[h2])) h1
 refine⟨_,rfl,H8.aK λb9 w9 A=>aE (λhk=>bad (.inl hk) A ws ws) (λhk=>jz (λy=>bad (.inr (.inl (oW y))) A ws ws) (λy=>?_))⟩;have y:d≠[]:=λe=>y (by rw[e];rfl);obtain⟨c,t,Z⟩:=afP y;refine⟨co,c,ug (s:=ba d) (l:=c::t) (by rw[gC,Z]) 0,aO (λU=>bad (.inr (.inr ⟨t,by rw[Z];congr 1;exact afQ U⟩)) A ws ws) (λU=>?_)⟩;have au:∀t',d≠40::t':=λt' e=>by
  rw[Z]at e;injection e with e _
  subst e;exact U rfl
 have K:∀k,LH F0 w k [.g M,e8 w1.heap.size l4 aa,.g b9] D->ov.cX M 0 0 0 ⟨none,0,0⟩ (bh #[]) ⟨none,0,0⟩ ⟨none,0,0⟩ (ab w1.heap.size) b9 (h6 6 x) n G ⟨none,0,0⟩ (jQ d) ⟨none,0,0⟩ ⟨none,0,0⟩ k λr Y=>De w line r Y/\af w Y:=by
  intro k q;refine q.hH 1 rfl (λH=>sc co C H) ?_;rintro _ bc l5 aC ⟨F,⟨O,rfl,p1,p2⟩,r7⟩ aS ao;have ah:=ao (.rd O (F.map aY)) p1 (gq p2);have a7:=r7.2.1;refine⟨_,rfl,ah.ai λbd am=>am.hH 1 rfl (λH=>u4 H) ?_⟩;rintro _ be l6 aF ⟨rfl,r8⟩ ac _;have a8:=Ur r8;refine⟨rfl,ac.hH 1 rfl (λH=>sc co (bG _ C) H) ?_⟩;rintro _ bf l7 aG ⟨E,⟨N,rfl,q1,q2⟩,r9⟩ aT ap;have ak:=ap (.rd N (E.map aY)) q1 (gq q2);have a9:=r9.2.1;refine⟨_,rfl,ak.ai λbg an=>an.hH 1 rfl (λH=>u4 H) ?_⟩;rintro _ bi l8 ax ⟨rfl,ae⟩ ad _;have bb:=Ur ae;refine⟨rfl,ad.hH 1 rfl (λH=>sc co (bG _ (bG _ C)) H) ?_⟩;rintro _ bj l9 ok ⟨ls,⟨sl,rfl,u1,u2⟩,aH⟩ aU ar;have al:=ar (.rd sl (ls.map aY)) u1 (gq u2);have tr:rI l4 aa F E ls ok l9:=⟨⟨l5,aC,l6,aF,l7,aG,l8,ax,r7,r8,r9,ae,aH⟩⟩;refine⟨_,rfl,al.ai λbk I=>⟨ok,I.ld 1 1,?_⟩⟩;cases ok with
  |false=>exact aP rfl (I.ai λaJ h=>⟨.inl ⟨⟨⟨h6 6 x,n,G,F,jQ d,ls,E⟩,O,sl,N⟩,UM sr tr (.inl rfl),rfl⟩,h.fr⟩)
  |true=>
   refine aM rfl ⟨_,I.ld 1 0,I.ai λaJ h=>⟨h.ld 1 0,?_,h.fr⟩⟩;rw[q8];by_cases W:l9=[]
   .subst W;rw[aQ (show ba []=bh #[]from rfl)];obtain⟨aN,y2⟩:=ae1 sr tr co y au;refine .inr ⟨⟨⟨h6 6 x,n,G,F,jQ d,ls,E⟩,O,sl,N⟩,aN,y2,rfl,λe he=>?_⟩;simp only[aq,aL,aR]at he;rcases he with rfl|rfl|rfl
    .exact ⟨h.rd _ ws,gq λb j=>bz q.fr.size (p2 b j)⟩
    .exact ⟨h.rd _ ws,gq λb j=>bz ac.fr.size (q2 b j)⟩
    .exact ⟨h.rd _ ws,gq λb j=>bz ad.fr.size (u2 b j)⟩
   .rw [aV (λe:ba l9=bh #[]=>W (oW e))];exact .inl ⟨⟨⟨h6 6 x,n,G,F,jQ d,ls,E⟩,O,sl,N⟩,UM sr tr (.inr W),rfl⟩
 refine jz (λB=>?_) (λB=>?_)
 .have B:d=[45]:=oW B;have e:jQ d=bh #[]:=by unfold jQ;rw[av B];rfl
  rw[e]at K;exact A.ai λk q=>K k q
 .have e:jQ d=ba d:=by unfold jQ;rw[ag (λe=>B (by rw[e];rfl))]
  rw[e]at K;exact A.ai λk q=>K k q
def Yx{line:List UInt8}(B:line.length<=1000000000){M:Nat->Prop}{w0 w:J}{L D:List En}(y:dT∈D)(z:eI∈D)(H:LH M w0 w L D){bs:List Nat}{K:aJ}(E:∀(d:Sp) h,zf line->LH M w0 h L D->K (ae (.tuple #[d.v,.bool false])) h)(F:∀(d:Sp) h,kM d.x->line=cM d.x->LH M w0 h L (D++[d.pE]++[d.hE]++[d.lE])->(∀e∈[d.pE,d.hE,d.lE],∀b∈e.fp,w.heap.size<=b)->K (ae (.tuple #[d.v,.bool true])) h):
  eJ bs V F' #[.string (ba line)] w K:=by
 refine hF ((Yy B y z (LH.start D H.rd)).mono ?_);rintro r h ⟨⟨v,C,rfl⟩|⟨d,k,q,rfl,j⟩,f⟩
 .exact ⟨f,E v h C (H.br f)⟩
 .obtain ⟨G,I⟩:=j d.pE ws;obtain⟨N,O⟩:=j d.hE ws;obtain⟨P,Q⟩:=j d.lE ws;exact⟨f,F d h k q ((((H.br f).sB H.oq _ G I).sB H.oq _ N O).sB H.oq _ P Q) λe A=>(j e A).2⟩
namespace KI
def ok:=az (ay V Tryz.f61 [] []) N0 [.I]
end KI
namespace xl
noncomputable def L0:=bg (ay V Tryz.f37 [] []) [0,2,2] [(0,.v [.U]),(3,.v [.s])]
noncomputable abbrev t1:=bf L0
def bC:=bj t1 L0
def ok:=az t1 NZ [.U]
end xl
namespace KG
def ok:=az (ay V Tryz.f35 [] []) NW [.I]
end KG
namespace uH
noncomputable def L0:=bg (ay V Tryz.f36 [] []) [0,1,1,1,2] [(0,.v [.s]),(3,.v [.s]),(4,.v [.I])]
noncomputable abbrev t1:=bf L0
def bC:=bj t1 L0
def ok:=az t1 NX [.s]
end uH
namespace KH
def ok:=az (ay V Tryz.f38 [] []) NY [.s]
end KH
namespace xw
noncomputable def a8:=bg (ay V Tryz.f17 [] [5]) [0,1,1,1,2] [(0,.v [.s]),(3,.v [.s]),(4,.v [.I])]
noncomputable abbrev t1:=bf a8
def bJ:=bj t1 a8
def aD:=az t1 Ou [.s]
end xw
namespace KF
noncomputable abbrev S0:=ak (ay V Tryz.f14 [] []) [0,1,1,1,1] []
noncomputable abbrev t1:=ao S0
def ok:=az t1 AG [.s,.I,.I]
end KF
namespace r1
abbrev P0:Ps:=[(0,.v [.I]),(3,.v [.st]),(4,.v [.st]),(5,.v [.I])]
noncomputable def L1:=bg (ay V Tryz.f34 [] []) [0,1,1,1,4] P0
noncomputable abbrev t1:=bf L1
noncomputable abbrev S3:=ak t1 [2,2,1,1,4] P0
noncomputable abbrev t2:=ao S3
noncomputable abbrev S2:=ak t2 [2,2,1,2,1,1,4] [(0,.v [.I]),(3,.v [.st]),(4,.v [.st]),(5,.v [.I]),(6,.v [.I])]
noncomputable abbrev t3:=ao S2
def fH:=bj t3 L1
noncomputable abbrev S0:=ak t3 [3] [(0,.v [.I]),(3,.v [.st])]
noncomputable abbrev t4:=ao S0
def ok:=az t4 NS [.I]
end r1
namespace xB
noncomputable def a8:=bg (ay V Tryz.f46 [(6,ls [0,1,2,5,6,3,4,7,8,9]),(7,ls [0,1,2,5,6,3,4,7,8,9]),(8,ls [0,1,2,6,7,3,4,5,8,9,10])] [5]) [0,1,1,1,2] [(0,.v [.s]),(3,.v [.s]),(4,.v [.I])]
noncomputable abbrev t1:=bf a8
def bJ:=bj t1 a8
def aD:=az t1 OX [.s]
end xB
namespace La
def aD:=az (ay V Tryz.f45 [(2,ls [0,1,2,5,6,3,4,7,8,9])] [1]) OO [.a 4,.s,.s,.s,.s]
end La
namespace xz
noncomputable def a8:=bg (ay V Tryz.f23 [] [1]) [0,1,1,1,2] [(1,.l [.s,.s] e2),(3,.v [.s]),(4,.v [.I])]
noncomputable abbrev t1:=bf a8
def bJ:=bj t1 a8
def aD:=az t1 ON [.a 2,.s,.s]
end xz
namespace Lb
def aD:=az (ay V Tryz.f8 [(1,ls [0,2,1,3,4,5])] [2,3]) OR [.a 2,.s,.s,.a 2,.s,.s]
end Lb
namespace uO
abbrev P0:Ps:=[(0,.v [.s]),(3,.v [.st]),(4,.v [.I])]
noncomputable def L0:=bg (ay V Tryz.f15 [] []) [0,1,1,1,2] P0
noncomputable abbrev t1:=bf L0
noncomputable abbrev S1:=ak t1 [1,2,1,2,1,1,2] P0
noncomputable abbrev t2:=ao S1
def bC:=bj t2 L0
def ok:=az t2 OW [.s]
end uO
namespace Lc
def ok:=az (ay V Tryz.f39 [] []) OY []
end Lc
namespace Ez
noncomputable abbrev bW:=ak (ay V Tryz.f18 [(4,ls [0,1,4,5,2,3,6,7,8]),(5,ls [1,2,6,9,12,13,17,18,22,23,0,3,4,5,7,8,10,11,14,15,16,19,20,21,24,25,26])] [1]) [4] [(1,.l [.I,.I,.I,.s,.st,.s,.s] dD),(3,.v [.st]),(4,.v [.st])]
noncomputable abbrev t1:=ao bW
noncomputable abbrev bD:=ak t1 [3] [(1,.l [.I,.I,.I,.s,.st,.s,.s] dD),(3,.v [.st])]
noncomputable abbrev t2:=ao bD
def aD:=az t2 OP [.a 7,.I,.I,.I,.s,.st,.s,.s]
end Ez
namespace xA
noncomputable def L0:=bg (ay V Tryz.f16 [(5,lr 18)] []) [0,1,1,1,2] [(0,.v [.s]),(3,.v [.s]),(4,.v [.I])]
noncomputable abbrev t1:=bf L0
def bC:=bj t1 L0
def ok:=az t1 OV [.s]
end xA
namespace m'
noncomputable def a8:=bg (ay V Tryz.f5 [(6,ls [0,1,2,6,7,11,12,3,4,5,8,9,10,13,14,15,16,17,18])] [1,5]) [0,1,1,1,2] [(1,.l [.s,.s] e2),(3,.v [.s]),(4,.v [.I])]
noncomputable abbrev t1:=bf a8
noncomputable def cv:=bg t1 [0,1,1,1,2,2,1,2,1,1,2] [(1,.l [.s,.s] e2),(3,.v [.s]),(4,.v [.I]),(5,.l [.s,.s,.s,.s] gT),(6,.v [.I])]
noncomputable abbrev t2:=bf cv
def dO:=bj t2 cv
noncomputable def iv:=bg t2 [0,1,1,1,3] [(1,.l [.s,.s] e2),(3,.v [.s]),(7,.v [.I])]
noncomputable abbrev t3:=bf iv
def kI:=bj t3 iv
def bJ:=bj t3 a8
def aD:=az t3 OQ [.a 2,.s,.s]
end m'
namespace uN
abbrev P0:Ps:=[(0,.v [.s]),(3,.v [.st]),(4,.v [.I])]
noncomputable def L0:=bg (ay V Tryz.f7 [] []) [0,1,1,1,2] P0
noncomputable abbrev t1:=bf L0
noncomputable abbrev S1:=ak t1 [2,2,1,1,2] P0
noncomputable abbrev t2:=ao S1
def bC:=bj t2 L0
def ok:=az t2 OT [.s]
end uN
namespace gE
noncomputable def C0:Code:=(Tryz.f12.body).getD .skip
noncomputable def C1:=C0.sn
noncomputable def C2:=C1.sn
noncomputable def C3:=C2.fs
noncomputable def C4:=C3.sn
noncomputable def C5:=C4.fs
noncomputable def C6:=C5.fs
noncomputable def C7:=C2.sn
abbrev Q0(R:aJ):ir:=(Exit.then (fT V (cx 141) C7 (bodyPost V Tryz.f12 R)) (bodyPost V Tryz.f12 R))
abbrev Q1(R:aJ):ir:=(Exit.inBlock 0 (Q0 R))
def L0(h:Sl)(j:Int)(t4 k:Addr)(d:Int)(w:J)(R:aJ):Prop:=LP V (cx 141) C6 (Q1 R) [(0,h.v),(1,.i j),(4,.pointer (some t4)),(5,.pointer (some k)),(6,.i d)] w
def pX(E:Env)(w:J)(R:aJ):Prop:=W.asSlice (Env.get? E 0) λh=>W.asInt .i64 (Env.get? E 1) λj=>W.cK (Env.get? E 4) λq=>W.cK (Env.get? E 5) λk=>W.asInt .i64 (Env.get? E 6) λd=>L0 h j q k d w R
def tL:CS V 141 pX C6 Q1:=by intro E D L h;obtain⟨G,y,j⟩:=W.rL h;obtain⟨H,z,k⟩:=W.hf j;obtain⟨K,A,q⟩:=W.cT k;obtain⟨I,B,w⟩:=W.cT q;obtain⟨F,C,x⟩:=W.hf w;intro a d;exact x a (d.cons y (d.cons z (d.cons A (d.cons B (d.cons C d.nil)))))
noncomputable def C8:=C6.sn
noncomputable def C9:=C8.sn
abbrev Q2(R:aJ):ir:=(Exit.then (mX V (cx 141) C6 (Q1 R)) (Q1 R))
abbrev S1(h:Sl)(j:Int)(t4 k:Addr)(d:Int)(w:J)(R:aJ):Prop:=
 L0 h j t4 k (ah .i64 (d+1)) w R
def rs(E:Env)(w:J)(R:aJ):Prop:=W.asSlice (Env.get? E 0) λh=>W.asInt .i64 (Env.get? E 1) λj=>W.cK (Env.get? E 4) λq=>W.cK (Env.get? E 5) λk=>W.asInt .i64 (Env.get? E 6) λd=>S1 h j q k d w R
def CN:rz V 141 rs C9 Q2:=by intro j h k q;obtain⟨M,D,y⟩:=W.rL q;obtain⟨N,F,z⟩:=W.hf y;obtain⟨P,G,A⟩:=W.cT z;obtain⟨O,H,B⟩:=W.cT A;obtain⟨L,I,C⟩:=W.hf B;exact λa d=>WP.at (E:=[(0,M.v),(1,.i N),(4,.pointer (some P)),(5,.pointer (some O)),(6,.i L)]) (rg C9 (K:=λh k=>pX h k j) (by kernel_rfl) (mp C) λ_ _ a w x=>tL j _ _ x a w) (d.cons D (d.cons F (d.cons G (d.cons H (d.cons I d.nil)))))
noncomputable def mU:=C8.fs
noncomputable def kE:=mU.fs
noncomputable def nH:=C7.fs
noncomputable def oN:=nH.sn
noncomputable def oO:=oN.fs
noncomputable def kF:=oO.fs
noncomputable def kG:=C7.sn
abbrev Q3(R:aJ):ir:=(Exit.then (fT V (cx 141) kG (bodyPost V Tryz.f12 R)) (bodyPost V Tryz.f12 R))
abbrev Q4(R:aJ):ir:=(Exit.inBlock 2 (Q3 R))
def L2(h:Sl)(j:Int)(t4 k:Addr)(d:Int)(w:J)(R:aJ):Prop:=LP V (cx 141) kF (Q4 R) [(0,h.v),(1,.i j),(4,.pointer (some t4)),(5,.pointer (some k)),(7,.i d)] w
def CL(E:Env)(w:J)(R:aJ):Prop:=W.asSlice (Env.get? E 0) λh=>W.asInt .i64 (Env.get? E 1) λj=>W.cK (Env.get? E 4) λq=>W.cK (Env.get? E 5) λk=>W.asInt .i64 (Env.get? E 7) λd=>L2 h j q k d w R
def IH:CS V 141 CL kF Q4:=by intro E D L h;obtain⟨G,y,j⟩:=W.rL h;obtain⟨H,z,k⟩:=W.hf j;obtain⟨K,A,q⟩:=W.cT k;obtain⟨I,B,w⟩:=W.cT q;obtain⟨F,C,x⟩:=W.hf w;intro a d;exact x a (d.cons y (d.cons z (d.cons A (d.cons B (d.cons C d.nil)))))
noncomputable def nI:=kF.sn
noncomputable def nJ:=nI.fs
noncomputable def nK:=nJ.fs
noncomputable def lq:=nK.sn
noncomputable def mi:=lq.sn
noncomputable def pV:=mi.sn
noncomputable def lu:=pV.sn
noncomputable def tz:=lu.sn
noncomputable def tA:=nI.sn
abbrev Q5(R:aJ):ir:=(Exit.then (fT V (cx 141) tA (Exit.then (mX V (cx 141) kF (Q4 R)) (Q4 R))) (Exit.then (mX V (cx 141) kF (Q4 R)) (Q4 R)))
abbrev Q6(R:aJ):ir:=(Exit.inBlock 3 (Q5 R))
abbrev S6(k:Sl)(q:Int)(t4 d:Addr)(j:Int)(x:Addr)(w:J)(R:aJ):Prop:=
 ∃t135:Sl,w.cell? (d.add 1)=some (t135.v)/\
 abb w x λy z A B C D E=>dz w (.cells #[.i y,.i z,.i A,B.v,.string C,D.v,E.v] dD) λF=>
 ∃(t138:Sl) (h:J),f' V (eu #[vX,vX] vX #[t135.v,.slice (some (nb w)) 1 1]) F=.ok (t138.v) h/\aS h (d.add 1) (t138.v) λG=>
 L2 k q t4 d (ah .i64 (j+1)) G R
def ry(E:Env)(w:J)(R:aJ):Prop:=W.asSlice (Env.get? E 0) λh=>W.asInt .i64 (Env.get? E 1) λj=>W.cK (Env.get? E 4) λx=>W.cK (Env.get? E 5) λk=>W.asInt .i64 (Env.get? E 7) λd=>W.cK (Env.get? E 9) λq=>S6 h j x k d q w R
def wt:rz V 141 ry tz Q6:=by intro w h j x;obtain⟨O,F,y⟩:=W.rL x;obtain⟨P,G,z⟩:=W.hf y;obtain⟨T,H,A⟩:=W.cT z;obtain⟨Q,I,B⟩:=W.cT A;obtain⟨N,L,C⟩:=W.hf B;obtain⟨S,M,D⟩:=W.cT C;exact λa d=>WP.at (E:=[(0,O.v),(1,.i P),(4,.pointer (some T)),(5,.pointer (some Q)),(7,.i N),(9,.pointer (some S))]) (rg tz (K:=λh j=>pC V tA (λh j=>CL h j w) h j) (by kernel_rfl) (mp D) λ_ _ a k q=>nx k (rg tA (by kernel_rfl) q λ_ _ a k q=>IH w _ _ q a k)) (d.cons F (d.cons G (d.cons H (d.cons I (d.cons L (d.cons M d.nil))))))
noncomputable def tB:=lu.fs
noncomputable def tC:=tB.sn
noncomputable def tD:=tC.fs
abbrev Q7(R:aJ):ir:=(Exit.then (fT V (cx 141) tz (Exit.inBlock 3 (Q5 R))) (Exit.inBlock 3 (Q5 R)))
noncomputable def rj:=tD.sn
noncomputable def rk:=rj.sn
noncomputable def tE:=rk.fs
noncomputable def Ct:=rk.sn
abbrev S5(x:Sl)(y:Int)(t4 z:Addr)(h j:Int)(d:Addr)(w:J)(R:aJ):Prop:=
 mw w λk=>∃t113:Sl,k.cell? (d.add 6)=some (t113.v)/\
 h≠0/\dz k (.cells #[.i (cp (ah .i64 (bS j 8)) h)] b') λA=>
 A.cell? (d.add 6)=some (t113.v)/\∃(t119:Sl) (B:J),f' V (eu #[i9,i9] i9 #[t113.v,.slice (some (nb k)) 1 1]) A=.ok (t119.v) B/\aS B (d.add 6) (t119.v) λC=>
 bt (au ((cp (ah .i64 (bS j 64)) 3)>0)) (mw C λq=>∃t126:Sl,q.cell? (d.add 6)=some (t126.v)/\
 h≠0/\dz q (.cells #[.i (cp (ah .i64 (bS j 256)) h)] b') λD=>
 D.cell? (d.add 6)=some (t126.v)/\∃(t132:Sl) (E:J),f' V (eu #[i9,i9] i9 #[t126.v,.slice (some (nb q)) 1 1]) D=.ok (t132.v) E/\aS E (d.add 6) (t132.v) λF=>
 S6 x y t4 z h d F R) (S6 x y t4 z h d C R)
def wq(E:Env)(w:J)(R:aJ):Prop:=W.asSlice (Env.get? E 0) λh=>W.asInt .i64 (Env.get? E 1) λj=>W.cK (Env.get? E 4) λy=>W.cK (Env.get? E 5) λq=>W.asInt .i64 (Env.get? E 7) λd=>W.asInt .i64 (Env.get? E 8) λk=>W.cK (Env.get? E 9) λx=>S5 h j y q d k x w R
def CP:rz V 141 wq tD Q7:=by intro q h k x;obtain⟨Q,G,y⟩:=W.rL x;obtain⟨S,H,z⟩:=W.hf y;obtain⟨Z,I,A⟩:=W.cT z;obtain⟨U,L,B⟩:=W.cT A;obtain⟨P,M,C⟩:=W.hf B;obtain⟨T,N,D⟩:=W.hf C;obtain⟨Y,O,F⟩:=W.cT D;exact λa j=>WP.at (E:=[(0,Q.v),(1,.i S),(4,.pointer (some Z)),(5,.pointer (some U)),(7,.i P),(8,.i T),(9,.pointer (some Y))]) (sd tD (K:=λh k=>dY V rj (λh k=>gX (Env.val h (.tmp 124)) (Ek V tE [0,1,2,3,4,5,6,7,8,9] (λh k=>ry h k q) h k) (ry h k q)) h k) (l:=[0,1,2,3,4,5,6,7,8,9]) (by kernel_rfl) (mp F) λ_ _ d=>(sr rj d λ_ _ d=>(cn rk d (λd=>(dg tE (by kernel_rfl) d λ_ _ a w d=>nx w (wt q _ _ d))) (λd=>(sk Ct λa w=>nx w (wt q _ _ d)))))) (j.cons G (j.cons H (j.cons I (j.cons L (j.cons M (j.cons N (j.cons O j.nil)))))))
noncomputable def Cu:=tC.sn
abbrev S4(j:Sl)(k:Int)(t4 q:Addr)(h x:Int)(d:Addr)(w:J)(R:aJ):Prop:=
 bt (au (h>0)) (∃t104:Int,w.cell? (d.add 0)=some (.i t104)/\
 bt (t104==5) (S5 j k t4 q h x d w R) (∃t108:Int,w.cell? (d.add 0)=some (.i t108)/\
 bt (t108==4) (S5 j k t4 q h x d w R) (S6 j k t4 q h d w R))) (S6 j k t4 q h d w R)
def pY(E:Env)(w:J)(R:aJ):Prop:=W.asSlice (Env.get? E 0) λh=>W.asInt .i64 (Env.get? E 1) λj=>W.cK (Env.get? E 4) λy=>W.cK (Env.get? E 5) λq=>W.asInt .i64 (Env.get? E 7) λd=>W.asInt .i64 (Env.get? E 8) λk=>W.cK (Env.get? E 9) λx=>S4 h j y q d k x w R
def rv:rz V 141 pY tB Q7:=by intro k j q w;obtain⟨Q,G,y⟩:=W.rL w;obtain⟨S,H,z⟩:=W.hf y;obtain⟨Z,I,A⟩:=W.cT z;obtain⟨U,L,B⟩:=W.cT A;obtain⟨P,M,C⟩:=W.hf B;obtain⟨T,N,D⟩:=W.hf C;obtain⟨Y,O,F⟩:=W.cT D;exact λa d=>WP.at (E:=[(0,Q.v),(1,.i S),(4,.pointer (some Z)),(5,.pointer (some U)),(7,.i P),(8,.i T),(9,.pointer (some Y))]) (sr tB (K:=λj q=>gX (Env.val j (.tmp 111)) (wq j q k) (ry j q k)) (mp F) λ_ _ h=>(cn tC h (λh=>(CP k _ _ h)) (λh=>(sk Cu λa x=>nx x (wt k _ _ h))))) (d.cons G (d.cons H (d.cons I (d.cons L (d.cons M (d.cons N (d.cons O d.nil)))))))
noncomputable def Cv:=pV.fs
abbrev Q8(R:aJ):ir:=(Exit.then (fT V (cx 141) lu (Exit.inBlock 3 (Q5 R))) (Exit.inBlock 3 (Q5 R)))
noncomputable def Iw:=Cv.sn
noncomputable def Cw:=Iw.fs
noncomputable def Cy:=Cw.sn
noncomputable def Ix:=Cy.fs
noncomputable def Cz:=Cy.sn
noncomputable def CA:=Cz.sn
noncomputable def CB:=CA.fs
noncomputable def Iy:=CB.sn
noncomputable def CC:=CA.sn
noncomputable def CD:=CC.sn
noncomputable def CE:=CD.fs
noncomputable def CF:=CE.sn
noncomputable def Iz:=CF.fs
noncomputable def IA:=CF.sn
noncomputable def Wh:=CD.sn
abbrev S3(q:Sl)(x:Int)(t4 j:Addr)(k d:Int)(h:Addr)(w:J)(R:aJ):Prop:=
 ∃t68:Int,w.cell? (h.add 0)=some (.i t68)/\
 bt (t68==1) (dz w (.cells #[.string (bh #[97]),.string (bh #[98]),.string (bh #[99]),.string (bh #[100,100])] cY) λy=>
 (0:Int)<=(cp d 4)/\(cp d 4)<((4:Nat):Int)/\dV (some (nb w)) λA=>∃t75:ByteArray,y.cell? (A.add (a5 (cp d 4) *1))=some (.string t75)/\
 aS y (h.add 4) (.string t75) λB=>
 S4 q x t4 j k d h B R) (bt (t68==2) (aS w (h.add 2) (.i (cp d 2)) λz=>
 dz z (.cells #[.i (cp (ah .i64 (bS d 2)) 3)] b') λC=>
 aS C (h.add 3) (.slice (some (nb z)) 1 1) λD=>
 S4 q x t4 j k d h D R) (bt (t68==4) (∃t90:Sl,w.cell? (j.add 0)=some (t90.v)/\
 bt ((t90.n:Int)==0) (aS w (h.add 0) (.i 0) λE=>
 S4 q x t4 j k d h E R) (∃t96:Sl,w.cell? (j.add 0)=some (t96.v)/\
 (t96.n:Int)≠0/\aS w (h.add 1) (.i (cp d (t96.n:Int))) λF=>
 S4 q x t4 j k d h F R)) (S4 q x t4 j k d h w R)))
def wo(E:Env)(w:J)(R:aJ):Prop:=W.asSlice (Env.get? E 0) λh=>W.asInt .i64 (Env.get? E 1) λj=>W.cK (Env.get? E 4) λy=>W.cK (Env.get? E 5) λq=>W.asInt .i64 (Env.get? E 7) λd=>W.asInt .i64 (Env.get? E 8) λk=>W.cK (Env.get? E 9) λx=>S3 h j y q d k x w R
def CO:rz V 141 wo Cv Q8:=by intro k h j x;obtain⟨Q,G,y⟩:=W.rL x;obtain⟨S,H,z⟩:=W.hf y;obtain⟨Z,I,A⟩:=W.cT z;obtain⟨U,L,B⟩:=W.cT A;obtain⟨P,M,C⟩:=W.hf B;obtain⟨T,N,D⟩:=W.hf C;obtain⟨Y,O,F⟩:=W.cT D;exact λa w=>WP.at (E:=[(0,Q.v),(1,.i S),(4,.pointer (some Z)),(5,.pointer (some U)),(7,.i P),(8,.i T),(9,.pointer (some Y))]) (sr Cv (K:=λh j=>dY V Cw (λh j=>gX (Env.val h (.tmp 69)) (pC V Ix (λh j=>pY h j k) h j) (dY V Cz (λh j=>gX (Env.val h (.tmp 77)) (dY V CB (λh j=>pC V Iy (λh j=>pY h j k) h j) h j) (dY V CC (λh j=>gX (Env.val h (.tmp 87)) (dY V CE (λh j=>gX (Env.val h (.tmp 92)) (pC V Iz (λh j=>pY h j k) h j) (pC V IA (λh j=>pY h j k) h j)) h j) (pY h j k)) h j)) h j)) h j) (mp F) λ_ _ d=>(bk Iw 4 (by kernel_rfl) (sr Cw d λ_ _ d=>(cn Cy d (λd=>(rg Ix (by kernel_rfl) d λ_ _ a q d=>nx q (sq lu (rv k _ _ d)))) (λd=>(sr Cz d λ_ _ d=>(cn CA d (λd=>(sr CB d λ_ _ d=>(rg Iy (by kernel_rfl) d λ_ _ a q d=>nx q (sq lu (rv k _ _ d))))) (λd=>(sr CC d λ_ _ d=>(cn CD d (λd=>(sr CE d λ_ _ d=>(cn CF d (λd=>(rg Iz (by kernel_rfl) d λ_ _ a q d=>nx q (sq lu (rv k _ _ d)))) (λd=>(rg IA (by kernel_rfl) d λ_ _ a q d=>nx q (sq lu (rv k _ _ d))))))) (λd=>(sk Wh λa q=>nx q (sq lu (rv k _ _ d)))))))))))))) (w.cons G (w.cons H (w.cons I (w.cons L (w.cons M (w.cons N (w.cons O w.nil)))))))
abbrev Q9(R:aJ):ir:=(bodyPost V Tryz.f12 R)
noncomputable def Wi:=kG.sn
abbrev S7(t4 h:Addr)(w:J)(R:aJ):Prop:=
 M2 w h λq x=>aS w t4 (q.v) λy=>
 aS y (t4.add 1) (x.v) λd=>
 M2 d t4 λj k=>R (ae (.agg #[j.v,k.v])) d
def wu(E:Env)(w:J)(R:aJ):Prop:=W.cK (Env.get? E 4) λh=>W.cK (Env.get? E 5) λd=>S7 h d w R
def CQ:rz V 141 wu kG Q9:=by intro k j h q;obtain⟨D,A,y⟩:=W.cT q;obtain⟨C,B,z⟩:=W.cT y;exact λa d=>WP.at (E:=[(4,.pointer (some D)),(5,.pointer (some C))]) (sr kG (K:=λj h=>lW V Tryz.f12 j h (λv=>k (ae v) h)) (mp z) λ_ _ x=>(rt Wi λa w=>yq w x)) (d.cons A (d.cons B d.nil))
noncomputable def CG:=kF.fs
noncomputable def CH:=CG.sn
noncomputable def Wj:=CH.fs
noncomputable def Wk:=CH.sn
def j5(k:Sl)(x:Int)(t4 q:Addr)(j:Int)(w:J)(R:aJ)(h:bt (au (j<(k.n:Int))) (bt (au (j<x)) (fo k j λC=>∃t50:Int,w.cell? (C.add (a5 j *1))=some (.i t50)/\
 rR u7 #[.i t50,.i 1073741824] w λt51 B=>dz B (.cells #[.i 2,.i (-2),.i 3,.i (-3)] b') λz=>
 (0:Int)<=(cp (ah .i64 (bS t51 18)) 4)/\(cp (ah .i64 (bS t51 18)) 4)<((4:Nat):Int)/\dV (some (nb B)) λD=>∃t62:Int,z.cell? (D.add (a5 (cp (ah .i64 (bS t51 18)) 4) *1))=some (.i t62)/\
 dz z (.cells #[.i t62] b') λA=>
 dz A (.cells #[.i 0,.i 0,.i 0,.slice none 0 0,.s0,.slice none 0 0,.slice none 0 0] dD) λG=>
 aeI G (nb A) (.i (cp t51 6)) (.i (cp (ah .i64 (bS t51 6)) 3)) (.i 0) (.slice none 0 0) (.s0) (.slice (some (nb z)) 1 1) (.slice none 0 0) λF=>S3 k x t4 q j (ah .i64 (bS t51 72)) (nb A) F R) (S7 t4 q w R)) (S7 t4 q w R)):L2 k x t4 q j w R:=
 LP.step (n:=(cx 141)) (c:=kF) (E:=[(0,k.v),(1,.i x),(4,.pointer (some t4)),(5,.pointer (some q)),(7,.i j)]) (w:=w) (sq kF (sr CG (show(λ(E:Env) (w:J)=>dY V CG (λE w=>gX (Env.val E (.tmp 44)) (dY V nK (λE w=>dY V lq (λE w=>dY V mi (λE w=>wo E w R) E w) E w) E w) (wu E w R)) E w) [(0,k.v),(1,.i x),(4,.pointer (some t4)),(5,.pointer (some q)),(7,.i j)] w from mp h) λ_ _ d=>(cn CH d (λd=>(sk Wj λa y=>nx y (sq nI (bk nJ 3 (by kernel_rfl) (sr nK d λ_ _ d=>(sr lq d λ_ _ d=>(sr mi d λ_ _ d=>(sq pV (CO R _ _ d))))))))) (λd=>(xt Wk 2 (by kernel_rfl) λa y=>nx y (CQ R _ _ d))))))
noncomputable def CI:=C6.fs
noncomputable def CJ:=CI.sn
noncomputable def Wl:=CJ.fs
noncomputable def Wm:=CJ.sn
def bC(k:Sl)(x:Int)(t4 y:Addr)(j:Int)(w:J)(R:aJ)(h:rR AG #[k.v,.i 0,.i 3] w λt13 z=>bt (au (j<t13)) (uY V kE (λE w=>rs E w R) [(14,.bool (au (j<t13))),(13,.i t13),(12,k.v),(11,.i j),(0,k.v),(1,.i x),(4,.pointer (some t4)),(5,.pointer (some y)),(6,.i j)] z) (L2 k x t4 y 0 z R)):L0 k x t4 y j w R:=
 LP.step (n:=(cx 141)) (c:=C6) (E:=[(0,k.v),(1,.i x),(4,.pointer (some t4)),(5,.pointer (some y)),(6,.i j)]) (w:=w) (sq C6 (sr CI (show(λ(E:Env) (w:J)=>dY V CI (λE w=>gX (Env.val E (.tmp 14)) (uY V kE (λE w=>rs E w R) E w) (dY V nH (λE w=>CL E w R) E w)) E w) [(0,k.v),(1,.i x),(4,.pointer (some t4)),(5,.pointer (some y)),(6,.i j)] w from mp h) λ_ _ d=>(cn CJ d (λd=>(sk Wl λa q=>nx q (sq C8 (bk mU 1 (by kernel_rfl) (ig kE (by kernel_rfl) d λ_ _ a q d=>nx q (CN R _ _ d)))))) (λd=>(xt Wm 0 (by kernel_rfl) λa q=>nx q (sq C7 (sr nH d λ_ _ d=>(bk oN 2 (by kernel_rfl) (lp oO (by kernel_rfl) (IH R _ _ d))))))))))
def ok(j:Sl)(k:Int)(w:J)(R:aJ)(h:dz w (.cells #[.slice none 0 0,.slice none 0 0] e2) λq=>
 dz q (.cells #[.slice none 0 0,.slice none 0 0] e2) λx=>
 aS x (nb q) (.slice none 0 0) λy=>
 aS y ((nb q).add 1) (.slice none 0 0) λz=>
 L0 j k (nb w) (nb q) 0 z R):aj V OU #[j.v,.i k] w R:=
 wW (R:=R) (fn:=Tryz.f12) (c:=C0) (args:=[j.v,.i k]) (by kernel_rfl) (by kernel_rfl) (by kernel_rfl) (sr C0 (show(λ(E:Env) (w:J)=>dY V C0 (λE w=>dY V C1 (λE w=>dY V C3 (λE w=>pX E w R) E w) E w) E w) (kS 0 [j.v,.i k]) w from mp h) λ_ _ d=>(sr C1 d λ_ _ d=>(sq C2 (sr C3 d λ_ _ d=>(bk C4 0 (by kernel_rfl) (lp C5 (by kernel_rfl) (tL R _ _ d)))))))
end gE
namespace gZ
abbrev P0:Ps:=[(1,.v [.s]),(6,.l [.s,.s] e2),(7,.l [.s,.s] e2),(8,.v [.I])]
noncomputable def a8:=bg (ay V Tryz.f4 [(15,(.sq [0,1,2,3,4,5,6,7,8,11,12,13,14,16] (.fork (.sq [9] (.fork (ls [10,15,17,18,19]) (ls [15,10,17,18,19]))) (ls [15,9,10,17,18,19])))),(23,(.sq [0,1,2,4,5,6,7,8,9,11,12,13,15,16,17] (.fork (.sq [3] (.fork (ls [10,14,18,19,20,21,22,23,24]) (.sq [14,18,19] (.fork (ls [10,20,21,22,23,24]) (ls [20,10,21,22,23,24]))))) (.sq [14,18,19] (.fork (.sq [3] (.fork (ls [10,20,21,22,23,24]) (ls [20,10,21,22,23,24]))) (ls [20,3,10,21,22,23,24]))))))] [6,7,10,13]) [0,1,1,1,2] P0
noncomputable abbrev t1:=bf a8
noncomputable def cv:=bg t1 [0,1,1,1,3,2,1,2,1,1,2] [(1,.v [.s]),(6,.l [.s,.s] e2),(7,.l [.s,.s] e2),(8,.v [.I]),(9,.v [.s]),(10,.l [.s,.s] e2),(11,.v [.s]),(12,.v [.I])]
noncomputable abbrev t2:=bf cv
noncomputable abbrev cb:=ak t2 [2,2,1,2,1,1,3,2,1,2,1,1,2] [(1,.v [.s]),(6,.l [.s,.s] e2),(7,.l [.s,.s] e2),(8,.v [.I]),(9,.v [.s]),(10,.l [.s,.s] e2),(11,.v [.s]),(12,.v [.I]),(13,.l [.I,.I,.I,.s,.st,.s,.s] dD)]
noncomputable abbrev t3:=ao cb
noncomputable abbrev cX:=ak t3 [2,2,1,1,2] P0
noncomputable abbrev t4:=ao cX
def dO:=bj t4 cv
abbrev P1:Ps:=[(1,.v [.s]),(6,.l [.s,.s] e2),(7,.l [.s,.s] e2),(14,.v [.I])]
noncomputable def rB:=bg t4 [0,1,1,1,3] P1
noncomputable abbrev t5:=bf rB
noncomputable abbrev rH:=ak t5 [2,2,1,1,3] P1
noncomputable abbrev t6:=ao rH
abbrev P2:Ps:=[(1,.v [.s]),(6,.l [.s,.s] e2),(7,.l [.s,.s] e2),(14,.v [.I]),(15,.v [.I])]
noncomputable abbrev nR:=ak t6 [4,2,1,2,1,1,3] P2
noncomputable abbrev t7:=ao nR
noncomputable abbrev hW:=ak t7 [3,2,1,2,1,1,3] P2
noncomputable abbrev t8:=ao hW
noncomputable abbrev jF:=ak t8 [2,2,1,2,1,1,3] P2
noncomputable abbrev t9:=ao jF
def IJ:=bj t9 rB
def bJ:=bj t9 a8
def aD:=az t9 OS [.s,.s,.I]
end gZ
def lN(x:Int):Bool:=au (x≠0)&&au (-1073741824<=x)&&au (x<=1073741824)
def og:List Int->Bool
 |a::b::r=>au (a.natAbs<b.natAbs)&&og (b::r)
 |_=>true
def mE(l:List Int):Int:=if l.length>65536 then 4 else if l.all lN then 0 else 1
def gh(l:List Int):Int:=if mE l≠0 then mE l else if og l then 0 else 10
abbrev iM(w0:J)(n:Int):aJ:=λr d=>r=ae (.i n)/\af w0 d
def uB{l:List Int}{i:Nat}{x:Int}(h:l[i]? =some x):l.drop i=x::l.drop (i+1):=by obtain⟨d,rfl⟩:=List.getElem?_eq_some_iff.1 h;exact dw d
def xT{x:Int}:lN x=true↔x≠0/\-1073741824<=x/\x<=1073741824:=by
 unfold lN
 grind
section
variable {w0:J} {s:Sl} {l:List Int}
def aaN{w:J}(h:bq w s l)(E:l.length<=9223372036854775806):aj V NO #[s.v] w (iM w (mE l)):=by
 have F:=bq.len h;by_cases D:l.length>65536
 .exact rU.ok _ w _ (aM (aQ co) ⟨by unfold mE;grind,Fr.refl _ _⟩)
 refine rU.ok _ w _ (aP (aV co) ?_);have e:mE l=if l.all lN then 0 else 1:=by unfold mE;omega
 have loop:∀(k i:Nat) (Y:J),i+k=l.length->af w Y->l.all lN=(l.drop i).all lN->rU.L0 s (s.n:Int) (i:Int) Y (iM w (mE l)):=by
  intro k;induction k with
  |zero=>
   intro i Y C f d;rw[du co]at d;exact rU.bC _ _ _ _ _ (aP (aV co) ⟨by grind,f⟩)
  |succ k G=>
   intro i Y C f d;have j:l[i]? =some l[i]:=a' co;generalize l[i]=x at j;rw[uB j,List.all_cons]at d;refine rU.bC _ _ _ _ _ (aM (aQ co) ⟨co,co,bq.cell (h.br f) j co λp _ B=>⟨x,B,?_⟩⟩);have go:lN x=true->rU.L0 s (s.n:Int) (ah .i64 ((i:Int)+1)) Y (iM w (mE l)):=λq=>by
    rw[bb _ co]
    grind
   have stop:lN x=false->iM w (mE l) (ae (.i 1)) Y:=λq=>⟨by grind,f⟩;have no:¬(x≠0/\-1073741824<=x/\x<=1073741824)->lN x=false:=λq=>Bool.eq_false_iff.2 λh=>q (xT.1 h);refine J0.ok _ Y _ (dA (λy=>aE (λz=>⟨_,rfl,dW (λA=>stop (no ?_)) (λA=>go (xT.2 ?_))⟩) (λz=>⟨_,rfl,aM rfl (stop (no ?_))⟩)) (λy=>⟨_,rfl,aM rfl (stop (no ?_))⟩))
   .grind
   .grind
   .omega
   .omega
 exact loop l.length 0 w co (Fr.refl _ _) rfl
def MW{x:Int}(d:-1073741824<=x/\x<=1073741824)(w:J):aj V NP #[.i x] w (iM w (x.natAbs:Int)):=by
 refine J1.ok _ w _ ⟨?_,Fr.refl _ _⟩;rw[aN _ co]
 grind
def MT{w:J}(h:bq w s l)(Q:l.length<=9223372036854775806):aj V NN #[s.v] w (iM w (gh l)):=by
 have S:=bq.len h;refine uo.ok _ w _ ((aaN h Q).mono ?_);rintro _ W ⟨rfl,B⟩;refine⟨_,rfl,dA (λz=>⟨by unfold gh;grind,B⟩) (λz=>?_)⟩;have e:gh l=if og l then 0 else 10:=by unfold gh;omega
 have G:∀d∈l,-1073741824<=d/\d<=1073741824:=λd x=>by
  unfold mE at z;split at z
  .omega
  .split at z
   .rename_i j;exact(xT.1 (fa.1 j d x)).2
   .omega
 have loop:∀(k i:Nat) (Y:J),i+1+k=l.length->af w Y->og l=og (l.drop i)->uo.L0 s ((i+1:Nat):Int) Y (iM w (gh l)):=by
  intro k;induction k with
  |zero=>
   intro i Y P f j;have M:∃d,l.drop i=[d]:=by
    have:(l.drop i).length=1:=by grind
    exact List.length_eq_one_iff.1 this
   obtain⟨d,x⟩:=M;rw[x]at j;exact uo.bC _ _ _ _ (aP (aV co) ⟨by rw[e,j];rfl,f⟩)
  |succ k U=>
   intro i Y P f j;have A:l[i]? =some l[i]:=a' co;have q:l[i+1]? =some l[i+1]:=a' co;generalize l[i]=d at A;generalize l[i+1]=y at q;rw[uB A,uB q]at j;have x:=G d (aG A);have T:=G y (aG q);have K:ah .i64 (((i+1:Nat):Int) - 1)=(i:Int):=by rw[aN _ co];omega
   refine uo.bC _ _ _ _ (aM (aQ co) ((bN (w:=Y) [] ws).dr λZ C=>?_));rw[K];have F:=h.br (f.dN C.fr);refine⟨co,co,bq.cell F q co λp hp O=>⟨y,O,co,co,bq.cell F A co λaa hq H=>⟨d,H,(MW T Z).mono ?_⟩⟩⟩;rintro _ w3 ⟨rfl,D⟩;refine⟨_,rfl,?_,(MW x w3).mono ?_⟩
   .exact wX D H λh=>h
   rintro _ w4 ⟨rfl,L⟩;have E:=((f.dN C.fr).dN D).dN L;refine⟨_,rfl,aE (λN=>⟨?_,E⟩) (λN=>?_)⟩
   .rw [e,j];unfold og;grind
   .rw [bb _ co];refine U (i+1) w4 co E ?_;rw[j,uB q];conv=>lhs;unfold og
    grind
 cases I:l with
 |nil=>rw[I]at S;exact uo.bC _ _ _ _ (aP (aV (by grind)) ⟨rfl,B⟩)
 |cons d r=>rw[<-I];exact loop r.length 0 W (by grind) B rfl
end
def aaM(s:ByteArray)(w:J):aj V Po #[.string s] w λr h=>r=ae (.bool (eZ (bl s)))/\af w h:=by
 have L:(bl s).length=s.size:=dQ s;have no:eZ (bl s)=false->(Ending.returned (.bool false)=ae (.bool (eZ (bl s)))/\af w w):=λj=>⟨by rw[j],Fr.refl _ _⟩;cases B:bl s with
 |nil=>
  have A:s.size=0:=by grind
  exact lS.ok s w _ (aM (by grind) ⟨rfl,Fr.refl _ _⟩)
 |cons c m=>
  have M:s.size=m.length+1:=by grind
  rw[B]at no;have A:s[a5 0]? =some c:=ug B 0;refine lS.ok s w _ (aO (λj=>co) (λ_=>aE (λj=>no ?_) (λj=>⟨co,c,A,aE (λq=>no ?_) (λq=>⟨co,c,A,aE (λk=>no ?_) (λk=>?_)⟩)⟩)))
  .rw [nk,aV co];rfl
  .rw [nk];unfold fv;grind
  .rw [nk];unfold fv;grind
  have F:eZ (c::m)=(bl s).all dc:=by
   rw[nk,B,List.all_cons];unfold dc fv
   grind
  rw[F];have loop:∀(d i:Nat),i+d=s.size->(bl s).all dc=((bl s).drop i).all dc->lS.L1 s (s.size:Int) (i:Int) w λr h=>r=ae (.bool ((bl s).all dc))/\af w h:=by
   intro d;induction d with
   |zero=>
    intro i I z;rw[du co]at z;exact lS.fH _ _ _ _ _ (aP (aV co) ⟨by grind,Fr.refl _ _⟩)
   |succ d P=>
    intro i I z;have D:(bl s)[i]? =some (bl s)[i]:=a' co;have H:(bl s).drop i=(bl s)[i]::(bl s).drop (i+1):=dw co;rw[H,List.all_cons]at z;generalize(bl s)[i]=x at D z;have O:=x.toNat_lt;have go:dc x=true->lS.S4 s (s.size:Int) (i:Int) w λr h=>r=ae (.bool ((bl s).all dc))/\af w h:=λj=>by
     show lS.L1 s _ (ah .i64 ((i:Int)+1)) w _;rw[bb _ co]
     grind
    have stop:dc x=false->(Ending.returned (.bool false)=ae (.bool ((bl s).all dc))/\af w w):=λj=>⟨by grind,Fr.refl _ _⟩;have y:dc x=true↔(97<=x.toNat/\x.toNat<=122)\/(48<=x.toNat/\x.toNat<=57)\/x.toNat=45:=by
     have K:(x==45)=true↔x.toNat=45:=by rw[beq_iff_eq];exact⟨λj=>by rw[j];rfl,λj=>UInt8.toNat_inj.1 j⟩
     unfold dc fv
     grind
    have E:¬((97<=x.toNat/\x.toNat<=122)\/(48<=x.toNat/\x.toNat<=57)\/x.toNat=45)->dc x=false:=λj=>Bool.eq_false_iff.2 λk=>j (y.1 k);have C:¬(97<=x.toNat/\x.toNat<=122)->bt (au ((x.toNat:Int)<48)) (bt ((x.toNat:Int) !=45) (lS.S3 w λr h=>r=ae (.bool ((bl s).all dc))/\af w h) (lS.S4 s (s.size:Int) (i:Int) w λr h=>r=ae (.bool ((bl s).all dc))/\af w h)) (bt (au ((x.toNat:Int)>57)) (bt ((x.toNat:Int) !=45) (lS.S3 w λr h=>r=ae (.bool ((bl s).all dc))/\af w h) (lS.S4 s (s.size:Int) (i:Int) w λr h=>r=ae (.bool ((bl s).all dc))/\af w h)) (lS.S4 s (s.size:Int) (i:Int) w λr h=>r=ae (.bool ((bl s).all dc))/\af w h)):=λN=>
     aE (λq=>dA (λk=>stop (E co)) (λk=>go (y.2 co))) (λq=>aE (λG=>dA (λk=>stop (E co)) (λk=>go (y.2 co))) (λG=>go (y.2 co)))
    refine lS.fH _ _ _ _ _ (aM (aQ co) ⟨co,x,by rw[bo];exact(ug rfl i).trans D,aE (λq=>C co) (λq=>aE (λk=>C co) (λk=>go (y.2 co)))⟩)
  exact loop s.size 0 co rfl
def eM(s:bO)(i aB:Int):Int:=
 if s.kind<0\/s.kind>5 then 1 else if gh s.bR≠0 then gh s.bR else if bl s.nm≠[]/\eZ (bl s.nm)=false then 6
 else if s.hints.all (λd=>au (0<=d)&&au (d<i))then(if s.kind=4/\(s.node<0\/s.node>=aB)then 7 else 0)else 14
def wG(w:J)(d:Sp):Prop:=bq w d.p d.x.params/\bq w d.l d.x.bR/\bq w d.h d.x.hints
def mq(d:Sp):Prop:=d.x.params.length<=1000000000/\d.x.bR.length<=1000000000/\d.x.hints.length<=1000000000
def HV{s:bO}{i aB:Int}(h:s.kind<0\/s.kind>5):eM s i aB=1:=by unfold eM;omega
def UG{s:bO}{i aB:Int}(h:¬(s.kind<0\/s.kind>5))(d:gh s.bR≠0):eM s i aB=gh s.bR:=by unfold eM;omega
def UH{s:bO}{i aB:Int}(h:¬(s.kind<0\/s.kind>5))(d:gh s.bR=0)(j:bl s.nm≠[]/\eZ (bl s.nm)=false):eM s i aB=6:=by unfold eM;grind
def HU{s:bO}{i aB:Int}(h:¬(s.kind<0\/s.kind>5))(d:gh s.bR=0)(j:¬(bl s.nm≠[]/\eZ (bl s.nm)=false)):eM s i aB=if s.hints.all (λh=>au (0<=h)&&au (h<i))then(if s.kind=4/\(s.node<0\/s.node>=aB)then 7 else 0)else 14:=by unfold eM;grind
def vd{t:ByteArray}:t=bh #[]↔bl t=[]:=⟨λd=>by rw[d];rfl,λd=>by rw[<-jk t,d];rfl⟩
def MU{d:Sp}(M:mq d){i aB:Int}{w:J}(I:wG w d):aj V Pu #[d.v,.i i,.i aB] w (iM w (eM d.x i aB)):=by
 refine vu.aD _ _ _ _ _ _ _ _ _ w _ ((bN (w:=w) [d.hE,d.lE] (by
  intro e K;simp only[aq,aL,aR]at K;rcases K with rfl|rfl
  .exact I.2.2
  .exact I.2.1)).aK λb w1 B=>?_)
 refine aE (λq=>⟨by rw[HV (.inl q)],B.fr⟩) (λW=>aE (λq=>⟨by rw[HV (.inr q)],B.fr⟩) (λY=>B.aA (MT (l:=d.x.bR) (B.getD 1) (by have:=M.2.1;omega)) ?_));have G:¬(d.x.kind<0\/d.x.kind>5):=co
 rintro _ N rfl E;refine⟨_,rfl,dA (λq=>⟨by rw[UG G q],E.fr⟩) (λD=>?_)⟩;have H:¬(bl d.x.nm≠[]/\eZ (bl d.x.nm)=false)->∀z,LH F0 w z [.g b] [d.hE,d.lE]->vu.bW i aB b d.x.kind d.x.node d.x.df d.p d.x.nm d.l d.h z (iM w (eM d.x i aB)):=by
  intro A z y;have L:bq z d.h d.x.hints:=y.getD 0;have Z:=bq.len L;have e:=HU (i:=i) (aB:=aB) G D A;have loop:∀(k j:Nat),j+k=d.x.hints.length->d.x.hints.all (λq=>au (0<=q)&&au (q<i))=(d.x.hints.drop j).all (λq=>au (0<=q)&&au (q<i))->vu.iv i aB b d.x.kind d.x.node d.x.df d.p d.x.nm d.l d.h d.h (d.h.n:Int) (j:Int) z (iM w (eM d.x i aB)):=by
   intro k;induction k with
   |zero=>
    intro j T C;rw[du co,List.all_nil]at C;rw[C,av rfl]at e;refine vu.kI _ _ _ _ _ _ _ _ _ _ _ _ _ _ _ (aP (aV co) (aO (λP=>aE (λq=>⟨by grind,y.fr⟩) (λQ=>aE (λq=>⟨by grind,y.fr⟩) (λS=>⟨by grind,y.fr⟩))) (λP=>⟨by grind,y.fr⟩)))
   |succ k ih=>
    intro j T C;have F:d.x.hints[j]? =some d.x.hints[j]:=a' co;generalize d.x.hints[j]=x at F;rw[uB F,List.all_cons]at C;refine vu.kI _ _ _ _ _ _ _ _ _ _ _ _ _ _ _ (aM (aQ co) ⟨co,co,bq.cell L F co λp _ D=>⟨x,D,aE (λq=>⟨?_,y.fr⟩) (λQ=>aE (λq=>⟨?_,y.fr⟩) (λS=>?_))⟩⟩)
    .grind
    .grind
    .rw [bb _ (by have:=M.2.2;omega)]
     grind
  exact loop d.x.hints.length 0 co rfl
 rw[q8];refine dW (λA=>?_) (λA=>H (λq=>q.1 (vd.1 (eP A))) N E);refine E.aA (aaM d.x.nm N) ?_;rintro _ z rfl y;refine⟨_,rfl,dW (λq=>⟨by rw[UH G D ⟨λO=>il A (vd.2 O),q⟩],y.fr⟩) (λq=>H (λU=>by grind) z y)⟩
def zS:gW V vX dD (.agg #[.int .i64 0,.int .i64 0,.int .i64 0,.slice none 0 0,.string (bh #[]),.slice none 0 0,.slice none 0 0]) 7 112:=⟨by kernel_rfl,by kernel_rfl,rfl,md,md⟩
namespace Sp
def ka(d:Sp):(c d).length=7:=rfl
def e7(l:List Sp):(l.flatMap c).length=l.length *7:=qn c 7 ka l
def one{l:List Sp}:∀u∈l.flatMap c,u.oneCell'=true:=by intro u d;obtain⟨h,_,d⟩:=bX.1 d;simp only[c,aq,aL,aR]at d;rcases d with rfl|rfl|rfl|rfl|rfl|rfl|rfl<;>rfl
structure ga(w:J)(p:Addr)(i:Nat)(d:Sp):Prop where
 c0:w.cell? ((p.add (i *7)).add 0)=some (.i d.x.kind)
 c1:w.cell? ((p.add (i *7)).add 1)=some (.i d.x.node)
 c2:w.cell? ((p.add (i *7)).add 2)=some (.i d.x.df)
 c3:w.cell? ((p.add (i *7)).add 3)=some d.p.v
 c4:w.cell? ((p.add (i *7)).add 4)=some (.string d.x.nm)
 c5:w.cell? ((p.add (i *7)).add 5)=some d.l.v
 c6:w.cell? ((p.add (i *7)).add 6)=some d.h.v
end Sp
def fB(w:J)(s:Sl)(l:List Sp):Prop:=bL 7 w s (l.flatMap Sp.c)/\∀d∈l,wG w d
def fB.n{w:J}{s:Sl}{l:List Sp}(h:fB w s l):s.n=l.length:=by have:=h.1.1;rw[Sp.e7]at this;omega
def fB.get'{w:J}{s:Sl}{l:List Sp}(h:fB w s l){i:Nat}{d:Sp}(hi:l[i]? =some d){K:Addr->Prop}(k:∀p,s.a=some p->Sp.ga w p i d->K p):dV s.a K:=
 fg.elem (f:=Sp.c) (sz:=7) Sp.ka co h.1.2.2 hi λp q j=>k p q ⟨j 0 _ rfl,j 1 _ rfl,j 2 _ rfl,j 3 _ rfl,j 4 _ rfl,j 5 _ rfl,j 6 _ rfl⟩
def fB.again{w:J}{s:Sl}{l:List Sp}(h:fB w s l){i:Nat}{d:Sp}(hi:l[i]? =some d){p:Addr}(z:s.a=some p):Sp.ga w p i d:=by have q:=h.get' hi (K:=λk=>∃x,s.a=some x/\Sp.ga w x i d) (λk j y=>⟨k,j,y⟩);rw[z]at q;obtain⟨k,j,e⟩:=q;cases j;exact e
def fB.get{w:J}{s:Sl}{l:List Sp}(h:fB w s l){i:Nat}{d:Sp}(hi:l[i]? =some d){K:Addr->Prop}(k:∀p,Sp.ga w p i d->K p):dV s.a K:=
 fg.elem (f:=Sp.c) (sz:=7) Sp.ka co h.1.2.2 hi λp q j=>k p ⟨j 0 _ rfl,j 1 _ rfl,j 2 _ rfl,j 3 _ rfl,j 4 _ rfl,j 5 _ rfl,j 6 _ rfl⟩
abbrev jV(l:List Sp):List En:=l.flatMap λd=>[d.pE,d.hE,d.lE]
def _root_.Go.W.En.sp(s:Sl)(l:List Sp):En:=.all (.bd 7 s (l.flatMap Sp.c)::jV l)
def s6{w:J}{l:List Sp}:(∀e∈jV l,e.P w)↔∀d∈l,wG w d:=by
 constructor
 .intro j d k;have g:∀e∈[d.pE,d.hE,d.lE],e.P w:=λe h=>j e (bX.2 ⟨d,k,h⟩);exact⟨g d.pE ws,g d.lE ws,g d.hE ws⟩
 .intro j e h;obtain⟨d,k,h⟩:=bX.1 h;simp only[aq,aL,aR]at h;rcases h with rfl|rfl|rfl
  .exact (j d k).1
  .exact (j d k).2.2
  .exact (j d k).2.1
def eA{w:J}{s:Sl}{l:List Sp}:(En.sp s l).P w↔fB w s l:=by
 constructor
 .exact λd=>⟨d (.bd 7 s (l.flatMap Sp.c)) ws,s6.1 λe h=>d e (List.mem_cons_of_mem _ h)⟩
 .intro d e h;rcases aq.1 h with rfl|h
  .exact d.1
  .exact s6.2 d.2 e h
abbrev bx(l:List Sp):List bO:=l.map Sp.x
def jA:List bO->Int->Int->Int
 |[],_,_=>0
 |s::r,i,d=>if eM s i d≠0 then eM s i d else jA r (i+1) d
def ye(ss:List bO):Int:=if ss.length>1048576 then 4 else jA ss 0 0
def BQ{l:List Sp}{i:Nat}{d:Sp}(h:l[i]? =some d):(bx l).drop i=d.x::(bx l).drop (i+1):=by
 have j:(bx l)[i]? =some d.x:=by rw[ib,h];rfl
 obtain⟨k,e⟩:=List.getElem?_eq_some_iff.1 j;rw[<-e];exact dw k
section
variable {w0:J} {s ls:Sl} {l:List Sp} {b:Nat}
def MV(Q:l.length<=1048576)(M:∀q∈l,mq q){E:Int}{D:List En}(z:En.sp s l∈D):∀(k i:Nat) (w:J) (L:List En),i+k=l.length->En.g b∈L->LH F0 w0 w L D->E=jA ((bx l).drop i) (i:Int) (ls.n:Int)->
  ou.iv b ls s s (s.n:Int) (i:Int) w (iM w0 E):=by
 intro k;induction k with
 |zero=>
  intro i w L I x j e;have K:=(eA.1 (j.rd _ z)).n;rw[du (by simp;omega)]at e;exact ou.kI _ _ _ _ _ _ _ _ (aP (aV co) ⟨by rw[e];rfl,j.fr⟩)
 |succ k N=>
  intro i w L I x j e;have C:=eA.1 (j.rd _ z);have K:=C.n;have y:l[i]? =some l[i]:=a' co;generalize l[i]=q at y;have G:=aG y;rw[BQ y]at e;refine ou.kI _ _ _ _ _ _ _ _ (aM (aQ co) ⟨co,co,C.get y λp h=>?_⟩);rw[bo];refine⟨_,_,_,_,_,_,_,h.c0,h.c1,h.c2,h.c3,h.c4,h.c5,h.c6,j.aK (λP S H=>H.ai (λT A=>A.aA (MU (d:=q) (M q G) ((eA.1 (A.rd _ z)).2 q G)) ?_) (by simp[x])) (by simp[x])⟩;rintro _ O rfl B;refine⟨_,rfl,dA (λF=>⟨by rw[e];unfold jA;rw[av F],B.fr⟩) (λF=>?_)⟩;rw[bb _ co];refine N (i+1) O _ co (by simp[x]) B ?_;rw[e];conv=>lhs;unfold jA
  rw[ag co];rfl
def aaL(z:l.length<=1000000000)(x:∀j∈l,mq j){w:J}(h:fB w s l):aj V F8 #[.agg #[(⟨none,0,0⟩:Sl).v,s.v]] w (iM w (ye (bx l))):=by
 have A:=h.n;refine ou.aD _ _ w _ ((bN (w:=w) [.sp s l] (by intro e q;rw[bY.1 q];exact eA.2 h)).aK λb y d=>aP rfl (aE (λk=>⟨?_,d.fr⟩) (λk=>?_)))
 .unfold ye;rw[av (by simp;omega)]
 .refine ou.dO _ _ _ _ _ _ _ _ (aP rfl ?_);refine MV co x (D:=[.sp s l]) ws l.length 0 y _ co ws d ?_;unfold ye;rw[ag (by simp;omega),List.drop_zero];rfl
end
def E4{w0 w:J}{s src:Sl}{xs ys:List UInt8}(F:af w0 w)(A:e6 w s xs)(k:∀j∈ax s,w0.heap.size<=j)(B:Bytes w src ys)(C:xs.length+ys.length<=100000000000000):
  ∃d h,(eu #[dx,dx] dx #[s.v,src.v]).run V w=.ok d.v h/\e6 h d (xs++ys)/\af w0 h/\(∀j∈ax d,w0.heap.size<=j):=by obtain⟨d,h,q,x,y,z,_⟩:=zs (ty:=dx) A B co;exact⟨d,h,q,x,Z0 F k y,acd F k z⟩
def Mb{w0 w:J}{s:Sl}{xs:List UInt8}(F:af w0 w)(x:e6 w s xs)(q:∀j∈ax s,w0.heap.size<=j)(c:UInt8)(y:xs.length<=10000000000000):
  ∃d h,(eu #[dx,dx] dx #[s.v,.slice (some (Addr.mk w.heap.size 0 none)) 1 1]).run V (w.alloc (.cells #[.int .u8 (c.toNat:Int)] cJ))=.ok d.v h/\e6 h d (xs++[c])/\af w0 h/\(∀j∈ax d,w0.heap.size<=j):=by have k:af w (w.alloc (.cells #[.int .u8 (c.toNat:Int)] cJ)):=Fr.alloc _ _ _;exact E4 (src:=⟨some ⟨w.heap.size,0,none⟩,1,1⟩) (F.dN k) (x.br k) q (GF w c) (by grind)
def Zn{w0:J}:∀(n:Nat) (w:J) (out:Sl) (bs:List UInt8),n<18446744073709551616->bs.length+(eF n).length<=100->af w0 w->e6 w out bs->(∀F∈ax out,w0.heap.size<=F)->
  xl.L0 (n:Int) out w (jc w0 (bs++eF n)):=by
 intro n;induction n using Nat.strongRecOn with
 |_ n E=>
  intro w out bs G A z B C;refine xl.bC _ _ _ _ (bP (λD=>?_) (λD=>?_))
  .have y:¬n<128:=by grind
   rw[m8 y]at A ⊢;have e:ah .u8 (ah .u64 (128+(cp (n:Int) 128)))=((c9 (n%128+128)).toNat:Int):=by rw[IntWalk.rem_in _ _ co,IntWalk.u64_in _ co,IntWalk.u8_in _ co];simp;omega
   rw[e];obtain⟨d,h,j,k,q,x⟩:=Mb z B C (c9 (n%128+128)) co;refine⟨d,h,j,?_⟩;show xl.L0 (ah .u64 (bS (n:Int) 128)) d h _;rw[IntWalk.u64_quo _ _ co,show((n:Int) / 128)=((n / 128:Nat):Int)from rfl,show bs++c9 (n%128+128)::eF (n / 128)=(bs++[c9 (n%128+128)])++eF (n / 128)by simp];exact E (n / 128) co h d _ co (by grind) q k x
  .have y:n<128:=by grind
   rw[mx y]at A ⊢;rw[show ah .u8 (n:Int)=((c9 n).toNat:Int)from by rw[Ii];simp];obtain⟨d,h,j,k,q,x⟩:=Mb z B C (c9 n) co;exact⟨d,h,j,d,rfl,k,q,x⟩
def zR(n:Nat)(d:n<18446744073709551616)(w:J):aj V NZ #[.int .u64 (n:Int)] w (jc w (eF n)):=by have:=ek n d;exact xl.ok _ w _ (Zn n w ⟨none,0,0⟩ [] d (by grind) (Fr.refl _ _) (Ow.nil _ _) (by simp[ax]))
def Zo(n:Int)(j:aX n)(w:J):aj V N0 #[.int .i64 n] w λr k=>r=ae (.int .u64 (zz n:Int))/\w=k:=by
 obtain⟨q,x⟩:=j;refine KI.ok _ w _ (bP (λd=>?_) (λd=>?_))
 .have h:=eP d;refine⟨?_,rfl⟩;rw[aN (n+1) co,aN _ co,IntWalk.u64_in (0 - (n+1)) co,IntWalk.u64_in (2 *(0 - (n+1))) co,IntWalk.u64_in _ co];congr 2;unfold zz
  grind
 .have h:=il d;refine⟨?_,rfl⟩;rw[IntWalk.u64_in n co,IntWalk.u64_in _ co];congr 2;unfold zz
  grind
def lH(n:Int)(d:aX n)(w:J):aj V NW #[.int .i64 n] w (jc w (cd n)):=by refine KG.ok _ w _ ((Zo n d w).mono ?_);rintro r j ⟨rfl,rfl⟩;refine⟨_,rfl,(zR (zz n) (Cp n d.1 d.2) w).mono ?_⟩;rintro r j ⟨s,rfl,h⟩;exact⟨s,rfl,s,rfl,h⟩
def zQ{w:J}{s:Sl}{b:List UInt8}(h:Bytes w s b)(C:b.length<=1000000000):aj V NY #[s.v] w (jc w (ea b)):=by refine KH.ok _ w _ ?_;rw[Bytes.len h,v5 _ co];refine(zR b.length co w).mono ?_;rintro r D ⟨t,rfl,A,d,z⟩;have:=ek b.length co;obtain⟨j,B,k,q,x,y⟩:=E4 d A z (h.br d) co;exact⟨t,rfl,j,B,k,j,rfl,q,x,y⟩
def Zm{w0:J}{s:Sl}{l:List Int}(B:bq w0 s l)(hi:∀y∈l,aX y)(O:l.length<=1000000000):∀(d i:Nat),i+d=l.length->∀(w:J) (out:Sl) (bs:List UInt8),bs.length<=10+10 *i->af w0 w->e6 w out bs->(∀y∈ax out,w0.heap.size<=y)->
  uH.L0 s out (i:Int) w (jc w0 (bs++(l.drop i).flatMap cd)):=by
 have P:=bq.len B;intro d;induction d with
 |zero=>
  intro i I w out bs H h A k;refine uH.bC _ _ _ _ _ (aP (aV co) ?_);rw[du co];exact⟨out,rfl,by grind,h,k⟩
 |succ d M=>
  intro i I w out bs H h A k;have j:i<l.length:=co
  have K:l[i]? =some l[i]:=a' j;have C:=hi _ (List.getElem_mem j);refine uH.bC _ _ _ _ _ (aM (aQ co) ⟨co,co,bq.cell (B.br h) K co λp _ L=>⟨_,L,(lH _ C w).mono ?_⟩⟩);rintro r S ⟨t,rfl,N,z,Q⟩;have:=da _ C;obtain⟨q,x,D,E,F,G⟩:=E4 (h.dN z) (A.br z) k N.rd co;refine⟨t,rfl,q,x,D,?_⟩;show uH.L0 s q (ah .i64 ((i:Int)+1)) x _;rw[bb i co,dw j,List.flatMap_cons,<-cN];exact M (i+1) co x q _ (by grind) F E G
def uC{w:J}{s:Sl}{l:List Int}(d:bq w s l)(hi:∀y∈l,aX y)(j:l.length<=1000000000):aj V NX #[s.v] w (jc w (dS l)):=by refine uH.ok _ w _ ?_;rw[bq.len d,v5 _ co];refine(zR l.length co w).mono ?_;rintro r x ⟨t,rfl,q,h,k⟩;have z:=ek l.length co;refine⟨t,rfl,?_⟩;have:=Zm d hi j l.length 0 co x t _ co h q k;rw[List.drop_zero]at this;exact this
def fb(s:bO):List UInt8:=cd s.kind++cd s.node++cd s.df++dS s.params++ea (bl s.nm)++dS s.bR++dS s.hints
def g'(ss:List bO):List UInt8:=cd (ss.length:Int)++ss.flatMap fb
structure wg(s:bO):Prop where
 kind:aX s.kind
 node:aX s.node
 df:aX s.df
 params:(∀x∈s.params,aX x)/\s.params.length<=100000000
 bR:(∀x∈s.bR,aX x)/\s.bR.length<=100000000
 hints:(∀x∈s.hints,aX x)/\s.hints.length<=100000000
 nm:s.nm.size<=100000000
def XD{w:J}{s:Sl}{bs:List UInt8}(h:Bytes w s bs):bL 1 w s (bs.map cq):=⟨by rw[h.1,Nat.mul_one],h.2.1,h.2.2⟩
def qj{l:List Int}(hi:∀d∈l,aX d)(x:l.length<=100000000):(dS l).length<=1000000010:=by
 have w:=ek l.length co;have j:∀l:List Int,(∀d∈l,aX d)->(l.flatMap cd).length<=10 *l.length:=by
  intro l;induction l with
  |nil=>grind
  |cons d l k=>
   intro h;have a:=da d (h d ws);have b:=k λq y=>h q (by grind)
   grind
 have:=j l hi;unfold dS
 grind
def Et{b:List UInt8}(h:b.length<=100000000):(ea b).length<=100000010:=by
 have d:=ek b.length co;unfold ea
 grind
def UK{s:bO}(h:wg s):(fb s).length<=3200000000:=by
 have d:=da _ h.kind;have j:=da _ h.node;have k:=da _ h.df;have q:=qj h.params.1 h.params.2;have w:=qj h.bR.1 h.bR.2;have x:=qj h.hints.1 h.hints.2;have y:=Et (b:=bl s.nm) (by rw[dQ];exact h.nm);unfold fb
 grind
section
variable {M:Nat->Prop} {w0 w:J} {L D:List En} {bs:List Nat}
def _root_.Go.W.LH.mH(H:LH M w0 w L D)(i:Nat){out:Sl}{xs ys:List UInt8}(hi:L[i]? =some (.row cJ 1 out (xs.map cq)))(E:xs.length<=20000000000000)(F:ys.length<=20000000000000){f:FuncId}{args:Array aa}{K:Sl->J->Prop}(y:aj V f args w (jc w ys))(x:∀s' q,LH M w0 q (L.set i (.row cJ 1 s' ((xs++ys).map cq))) D->K s' q)(bF:∀b∈bs,En.g b∈L:=by simp):
  eJ bs V f args w λr h=>∃t:Sl,r=ae t.v/\∃(s':Sl) (d:J),f' V (eu #[dx,dx] dx #[out.v,t.v]) h=.ok s'.v d/\kept bs h d/\K s' d:=
 hF (y.mono λr h ⟨t,A,k,f,_⟩=>by
  have j:=H.br f;have z:=(j.get i hi:aF _ _ _ _ _).len;rw[gJ]at z;have C:=Bytes.len k.rd;refine⟨f,t,A,j.dm i jo hi (XD k.rd) (zA _) co (λs' d B=>x s' d ?_) bF⟩
  grind)
end
def JM{w:J}{s:Sl}{l:List Sp}(h:fB w s l)(hs:∀d∈l,wg d.x)(hl:l.length<=2000):aj V OX #[s.v] w (jc w (g' (bx l))):=by
 have hn:=h.n;refine xB.aD _ w _ ((lH (s.n:Int) ⟨co,co⟩ w).mono ?_);rintro _ G ⟨t,rfl,t1,U,n1⟩;refine⟨t,rfl,?_⟩;have ag:=da (s.n:Int) ⟨co,co⟩;have H:LH F0 w G [.row cJ 1 t ((cd (s.n:Int)).map cq)] [.sp s l]:=((bN (w:=w) [.sp s l] (by intro e he;rw[bY.1 he];exact eA.2 h))).push (.row cJ 1 t ((cd (s.n:Int)).map cq)) U t1.2 n1
 have loop:∀(k i:Nat) (out:Sl) (bs:List UInt8) (Y:J),i+k=l.length->bs=cd (s.n:Int)++((bx l).take i).flatMap fb->bs.length<=10+i *3200000000->LH F0 w Y [.row cJ 1 out (bs.map cq)] [.sp s l]->xB.a8 s out (i:Int) Y (jc w (g' (bx l))):=by
  intro k;induction k with
  |zero=>
   intro i out bs Y hk B Z y;refine xB.bJ _ _ _ _ _ (aP (aV co) ⟨out,rfl,?_,y.fr,λad hx=>(y.new _ (aG (i:=0) rfl) ad hx).resolve_right id⟩);have:g' (bx l)=bs:=by
    rw[B,eh (by grind)];unfold g'
    grind
   rw[this];exact(y.get 0:aF _ _ _ _ _).A5
  |succ k ih=>
   intro i out bs Y hk B Z y;have A:l[i]? =some l[i]:=a' co;generalize l[i]=d at A;have z:=aG A;have j:=hs d z;have W:=eA.1 (y.getD 0);have z1:=da _ j.kind;have z2:=da _ j.node;have z3:=da _ j.df;have z4:=qj j.params.1 j.params.2;have z5:=qj j.bR.1 j.bR.2;have z6:=qj j.hints.1 j.hints.2;have z7:=Et (b:=bl d.x.nm) (by rw[dQ];exact j.nm);have ae:bs.length<=10000000000000:=co
   refine xB.bJ _ _ _ _ _ (aM (aQ co) ⟨co,co,W.get A λp q=>?_⟩);rw[bo];refine⟨_,_,_,_,_,_,_,q.c0,q.c1,q.c2,q.c3,q.c4,q.c5,q.c6,y.aK λb w2 L=>L.ai λw3 M=>?_⟩;refine M.mH 0 rfl co co (lH _ j.kind w3) λs1 w4 N=>N.mH 0 rfl (by grind) co (lH _ j.node w4) λs2 w5 O=>O.ai λw6 P=>?_;refine P.mH 0 rfl (by grind) co (lH _ j.df w6) λs3 w7 E=>?_;refine E.mH 0 rfl (by grind) co (uC (l:=d.x.params) ((eA.1 (E.getD 0)).2 d z).1 j.params.1 (by have:=j.params.2;omega)) λs4 w8 Q=>Q.ai λw9 F=>?_;obtain⟨t',ab,S,tb,f10,_⟩:=BR w9 d.x.nm;have I:=F.br f10;refine⟨t',ab,S,λaa hq=>f10.cC aa (by rw[bY.1 hq];exact F.get 1) id,?_⟩;refine I.mH 0 rfl (by grind) co (zQ tb (by rw[dQ];have:=j.nm;omega)) λs5 ah C=>?_;refine C.mH 0 rfl (by grind) co (uC (l:=d.x.bR) ((eA.1 (C.getD 0)).2 d z).2.1 j.bR.1 (by have:=j.bR.2;omega)) λs6 ak D=>?_;refine D.mH 0 rfl (by grind) co (uC (l:=d.x.hints) ((eA.1 (D.getD 0)).2 d z).2.2 j.hints.1 (by have:=j.hints.2;omega)) λs7 ac K=>?_;rw[bb _ co];have af:=UK j;have T:bs++cd d.x.kind++cd d.x.node++cd d.x.df++dS d.x.params++ea (bl d.x.nm)++dS d.x.bR++dS d.x.hints=bs++fb d.x:=by unfold fb;grind
   have ht:(bx l).take (i+1)=(bx l).take i++[d.x]:=by rw[dM,ib,A];rfl
   refine ih (i+1) s7 (bs++fb d.x) ac co ?_ (by grind) ?_
   .rw [ht,de,B];simp
   .rw [<-T];exact K.take 1
 exact loop l.length 0 t _ G co ws co H
def ae2{ss:List bO}(h:∀s∈ss,wg s)(q:ss.length<=2000):(g' ss).length<=10+ss.length *3200000000:=by
 have k:=da (ss.length:Int) ⟨co,co⟩;have d:∀l:List bO,(∀s∈l,wg s)->(l.flatMap fb).length<=l.length *3200000000:=by
  intro l;induction l with
  |nil=>grind
  |cons j l w=>
   intro h;have a:=UK (h j ws)
   grind
 have:=d ss h;unfold g'
 grind
def _root_.Go.W.LH.kZ{M:Nat->Prop}{w0 w:J}{L D:List En}(H:LH M w0 w L D)(k:List En)(h:∀e∈k,((∀d∈D,d.P w)->e.P w)/\∀b∈e.fp,∃d∈D,b∈d.fp):LH M w0 w L k:=
 ⟨H.fr,H.own,λe j=>(h e j).1 H.rd,H.new,H.nd,λe j b x q A=>by obtain⟨d,z,y⟩:=(h e j).2 b x;exact H.dj d z b y q A⟩
abbrev b0(l:List Sp):En:=.all (jV l)
def cB{es:List En}{b:Nat}:b∈(En.all es).fp↔∃e∈es,b∈e.fp:=by unfold En.all;rw[a0,bX]
def lX{w:J}{b n sz:Nat}{cs:List aa}{T:aC}(h:w.heap[b]? =some (.cells cs.toArray T (0,0)))(d:cs.length=n *sz):bL sz w ⟨some (ab b),n,n⟩ cs:=wP h d
def _root_.Go.W.LH.zU{M:Nat->Prop}{w0 w Y:J}{G L L' D y:List En}(H:LH M w0 w (G++L) D)(k:LH (λb=>∃e∈L,b∈e.fp) w Y L' y)(I:∀e∈y,∀b∈e.fp,w.heap.size<=b\/∃z∈D,b∈z.fp):LH M w0 Y (G++L') y:=by
 have A:=H.nd;rw[de,ho]at A;have B:∀e∈G,∀b∈e.fp,b<w.heap.size/\∀g∈L,b∉g.fp:=λe d b h=>⟨e.lt w (H.own e (bG _ d)) b h,λg j q=>A.2.2 b (bX.2 ⟨e,d,h⟩) b (bX.2 ⟨g,j,q⟩) rfl⟩;have U:∀e∈L',∀b∈e.fp,∀g∈G,b∉g.fp:=λe d b h g j q=>by
  obtain⟨S,T⟩:=B g j b q;rcases k.new e d b h with x|⟨E,C,x⟩
  .omega
  grind
 refine⟨H.fr.trans k.fr λF Q P=>?_,λe d=>?_,k.rd,λe d b h=>?_,?_,λe d b h g j q=>?_⟩
 .obtain ⟨e,d,h⟩:=P;exact(H.new e (dL _ d) F h).resolve_left co
 .rcases aW.1 d with d|d
  .exact e.st w Y (λb h O=>k.fr.cC b O λ⟨g,j,q⟩=>(B e d b h).2 g j q) (H.own e (bG _ d))
  .exact k.own e d
 .rcases aW.1 d with d|d
  .exact H.new e (bG _ d) b h
  .rcases k.new e d b h with x|⟨E,C,x⟩
   .exact .inl (bz H.fr.size x)
   .exact H.new E (dL _ C) b x
 .rw [de,ho];refine⟨A.1,k.nd,λF Q aa Z e=>?_⟩
  grind
 .rcases aW.1 j with j|j
  .rcases I e d b h with x|⟨z,N,K⟩
   .grind
   .exact H.dj z N b K g (bG _ j) q
  .exact k.dj e d b h g j q
def _root_.Go.W.LH.part{M:Nat->Prop}{w0 w:J}{G L D:List En}(H:LH M w0 w (G++L) D):LH (λb=>∃e∈L,b∈e.fp) w w L D:=by have j:=H.nd;rw[de,ho]at j;exact⟨Fr.refl _ _,λe d=>H.own e (dL _ d),H.rd,λe d b h=>.inr ⟨e,d,h⟩,j.2.1,λe d b h g k=>H.dj e d b h g (dL _ k)⟩
def _root_.Go.W.LH.ae7{M:Nat->Prop}{w0 w:J}{L D:List En}{bs:List Nat}(H:LH M w0 w L D)(i:Nat){b:Nat}{vs:List aa}{T:aC}{v:aa}{K:J->Prop}(hi:L[i]? =some (.c b vs T))(j:∀d,LH M w0 d (L.set i (.c b (vs.set 0 v) T)) D->K d)(k:0<vs.length:=by simp)(bF:∀b∈bs,En.g b∈L:=by simp):aS w (ab b) v λh=>kept bs w h/\K h:=by
 have:=H.q2 (v:=v) (K:=K) i 0 hi j k bF
 rwa[jg]at this
def Up{s:Sl}{l:List Sp}{b:Nat}:b∈(En.sp s l).fp↔b∈(En.bd 7 s (l.flatMap Sp.c)).fp\/b∈(b0 l).fp:=by
 unfold En.sp;rw[cB,cB]
 grind
def Lu{A a b:List UInt8}{i j:Nat}(hi:i=A.length)(d:j=A.length+a.length):(ba (A++(a++b))).extract i j=ba a:=by subst hi d;rw[uf,gC,List.take_append,eh co,List.drop_append_of_le_length co,List.drop_length,List.nil_append,show A.length+a.length - A.length=a.length by omega,List.take_left'];rfl
def EZ{M:Nat->Prop}{w0 w:J}{L D:List En}{b:Nat}(H:LH M w0 w ([.g b]++L) D):∀d∈[b],¬∃e∈L,d∈e.fp:=λd k ⟨e,j,q⟩=>by have h:=H.nd;rw[de,ho]at h;exact h.2.2 d (by simpa[En.g]using k) d (bX.2 ⟨e,j,q⟩) rfl
def yu{e:aC}{sz:Nat}{s:Sl}{vs:List aa}{b:Nat}(h:b∈(En.bd sz s vs).fp):b∈(En.row e sz s vs).fp:=by
 have h:b∈(if vs=[]then[]else ax s):=h;split at h
 .cases h
 .exact h
def oD{e:aC}{s:Sl}{vs:List aa}{b:Nat}(h:b∈(En.rd s vs).fp):b∈(En.row e 1 s vs).fp:=by
 have h:b∈(if vs=[]then[]else ax s):=h;split at h
 .cases h
 .exact h
abbrev El:ByteArray:=⟨#[48,49,50,51,52,53,54,55,56,57]⟩
def Zi:∀d<10,El.extract d (d+1)=ba [gY d]:=md
def DA{n:Int}(h:aX n)(w:J):aj V NS #[.i n] w λr q=>r=ae (.string (ba (bE n)))/\af w q:=by
 obtain⟨Q,S⟩:=h;refine r1.ok _ w _ (aO (λh=>⟨by subst h;rw[ux co,show(0:Int).natAbs=0 from rfl,m7 co];rfl,Fr.refl _ _⟩) (λF=>?_));have loop:∀(m:Nat) (k:Int) (s:List UInt8),k.natAbs=m->(k<0->n<0)->(0<k->0<n)->m<=9223372036854775808->(k=0->s≠[])->(cc n.natAbs=if m=0 then s else cc m++s)->
   r1.L1 n El (ba s) k w λr q=>r=ae (.string (ba (bE n)))/\af w q:=by
  intro m;induction m using Nat.strongRecOn with
  |_ m M=>
   intro k s B K L O T j;have C:=bQ s;have N:s.length<=20:=by
    have d:=(Ei (u:=n.natAbs) co).2.1;rw[j]at d;split at d
    .exact d
    .rw [a9]at d;omega
   refine r1.fH _ _ _ _ _ _ (dA (λh=>?_) (λh=>?_))
   .have y:m≠0:=co
    have G:m%10<10:=Nat.mod_lt _ co;rw[ag y]at j;have z:∀A:Int,A=((m%10:Nat):Int)->r1.S2 n El (ba s) k A w λr q=>r=ae (.string (ba (bE n)))/\af w q:=by
     rintro _ rfl;have D:ah .i64 (((m%10:Nat):Int)+1)=((m%10+1:Nat):Int):=bb _ co;dsimp only[r1.S2,ak];rw[D,bo,bo,Zi _ G];refine⟨co,?_,co,co,?_,?_⟩
     .show ((m%10+1:Nat):Int)<=((10:Nat):Int);omega
     .rw [bQ,C,IntKind.max_i64];simp only[List.length_singleton];omega
     .rw [cL];have H:(bS k 10).natAbs=m / 10:=by rw[Int.natAbs_tdiv,B];rfl
      have E:ah .i64 (bS k 10)=bS k 10:=aN _ co;dsimp only[r1.S3,ak];rw[E];refine M (m / 10) co _ (gY (m%10)::s) H (λI=>K ?_) (λI=>L ?_) co ws ?_
      .rcases Int.lt_or_le k 0 with d|d
       .exact d
       .have:=Int.tdiv_nonneg d (by omega:(0:Int)<=10);omega
      .rcases Int.lt_or_le 0 k with d|d
       .exact d
       .have:=Int.tdiv_nonneg (by omega:0<=-k) (by omega:(0:Int)<=10);rw[Int.neg_tdiv]at this;omega
      .rw [j];by_cases x:m<10
       .rw [m7 x,av co,Nat.mod_eq_of_lt x];rfl
       .rw [rX x,ag co,cN];rfl
    have P:(cp k 10).natAbs=m%10:=by rw[Int.natAbs_tmod,B];rfl
    refine aE (λd=>z _ ?_) (λd=>z _ ?_)
    .rw [aN _ co];omega
    .omega
   .have y:m=0:=co
    rw[av y]at j;refine aE (λd=>⟨?_,?_,Fr.refl _ _⟩) (λd=>⟨?_,Fr.refl _ _⟩)
    .rw [C,IntKind.max_i64];show ¬(((1+s.length:Nat):Int)>_);omega
    .rw [o4 d,j,show bh #[45]=ba [45]from rfl,cL];rfl
    .rw [ux d,j]
 exact loop n.natAbs n [] rfl id id co (λh=>absurd h F) (by rw[ag co,ed])
def rO{w:J}{s:Sl}{l:List Int}(x:bq w s l)(A:∀d∈l,aX d)(i m:Int)(q:1<=m):aj V AG #[s.v,.i i,.i m] w λr C=>(∃k:Int,r=ae (.i k)/\0<=k/\k<m)/\af w C:=by have F:=bq.len x;refine KF.ok _ _ _ w _ (aE (λy=>⟨⟨0,rfl,co,co⟩,Fr.refl _ _⟩) (λD=>aE (λy=>⟨⟨0,rfl,co,co⟩,Fr.refl _ _⟩) (λE=>?_)));obtain⟨j,rfl⟩:=Int.eq_ofNat_of_zero_le (by omega:0<=i);have h:l[j]? =some l[j]:=a' co;generalize l[j]=d at h;have B:=A d (aG h);refine⟨co,co,bq.cell x h (by rw[bo]) λp _ z=>⟨d,z,(Dn d m w q B).mono ?_⟩⟩;rintro _ G ⟨rfl,f⟩;exact⟨_,rfl,⟨_,rfl,ji d m q⟩,f▸Fr.refl _ _⟩
section
variable {P:aH} {o:Oper} {E E0:Env} {w:J} {K:Env->J->Prop}
def tS(op:Op)(E E0:Env):Prop:=∀d∈op.operands.toList,∃u,E.val d=some u/\E0.val d=some u
def TV{op:Op}(h:tS op E E0)(d:o.op=op):E.ef o=true:=by
 unfold Env.ef;rw[d];exact fa.2 λk j=>by
  obtain⟨u,q,_⟩:=h k j
  grind
def TW{op:Op}(h:tS op E E0)(q:o.op=op)(y:∀d b,op≠.select d b):execOp E.ev o=execOp E0.ev o:=
 execOp_congr o (by grind) λx w=>by rw[q]at w;obtain⟨u,j,k⟩:=h x (by grind);simp[Env.ev,j,k]
def qZ{op:Op}{ty:aC}{v:aa}(d:o.op=op)(j:o.type=ty)(h:tS op E E0)(B:∀k b,op≠.select k b)(z:∀dst pos after guard (K:Env->J->Prop),gS P ⟨dst,op,ty,pos,after,guard⟩ E w K=gm P ⟨dst,op,ty,pos,after,guard⟩ E λv _=>K (E.put dst v) w)(A:∀dst pos after guard,qJ P (execOp E0.ev ⟨dst,op,ty,pos,after,guard⟩)=some (.value v))(y:K (E.put o.dst v) w):gS P o E w K:=by have q:=TV h d;have x:=TW h d B;obtain⟨dst,C,D,pos,after,guard⟩:=o;simp only at d j;subst d j;rw[z];unfold gm;rw[q,x,A];exact y
def vN{op:Op}{ty:aC}{v:aa}{Y:J}(d:o.op=op)(j:o.type=ty)(h:tS op E E0)(B:∀k b,op≠.select k b)(z:∀dst pos after guard (K:Env->J->Prop),gS P ⟨dst,op,ty,pos,after,guard⟩ E w K=ql P ⟨dst,op,ty,pos,after,guard⟩ E w λv Y=>K (E.put dst v) Y)(A:∀dst pos after guard,(execOp E0.ev ⟨dst,op,ty,pos,after,guard⟩).run P w=.ok (.value v) Y)(y:K (E.put o.dst v) Y):gS P o E w K:=by have q:=TV h d;have x:=TW h d B;obtain⟨dst,C,D,pos,after,guard⟩:=o;simp only at d j;subst d j;rw[z];unfold ql;rw[q,x,A];exact y
end
def aeL{P:aH}{o:Oper}{E:Env}{w:J}{K:Env->J->Prop}{f a b:Nat}{c:aa}{U:Array aC}{ty:aC}{x y:aa}(z:o.op=.call ⟨.value (.func f),#[.tmp a,.tmp b,.const c],U⟩)(A:o.type=ty)(k:E.get? a=some x)(q:E.get? b=some y)(H:c=c)(F:hG P f=true)(h:aj P f #[x,y,c] w λe d=>oa (zeroOf P ty) λv=>e=ae v/\K (E.put o.dst v) d):gS P o E w K:=by
 obtain⟨dst,op,j,pos,after,guard⟩:=o;simp only at z A;subst z A;show cS (E.ef ⟨dst,.call ⟨.value (.func f),#[.tmp a,.tmp b,.const c],U⟩,j,pos,after,guard⟩) (bif hG P f then qh P f ((#[Operand.tmp a,.tmp b,.const c]).map E.ev) (zeroOf P j) w (λv d=>K (E.put dst v) d)else xG P f ((#[Operand.tmp a,.tmp b,.const c]).map E.ev) (zeroOf P j) w (λv d=>K (E.put dst v) d));have G:E.ef ⟨dst,.call ⟨.value (.func f),#[.tmp a,.tmp b,.const c],U⟩,j,pos,after,guard⟩=true:=by simp[Env.ef,Op.operands,Call.operands,Env.val,k,q]
 have B:E.ev (.tmp a)=x:=by simp[Env.ev,Env.val,k]
 have C:E.ev (.tmp b)=y:=by simp[Env.ev,Env.val,q]
 have D:E.ev (.const c)=c:=rfl;rw[G,F];simp only[List.map_toArray,List.map_cons,List.map_nil,B,C,D];exact h
def oR(T:List (Nat×Nat×(aa->Prop)))(L:Nat->Bool)(E:Env):Prop:=∀d∈T,(d.1=0\/L (d.1 - 1)=true)->∃v,E.get? d.2.1=some v/\d.2.2 v
def oR.get{T:List (Nat×Nat×(aa->Prop))}{L:Nat->Bool}{E:Env}(h:oR T L E){i d:Nat}{p:aa->Prop}(j:(i,d,p)∈T)(hi:i=0\/L (i - 1)=true):∃v,E.get? d=some v/\p v:=h _ j hi
def oR.fill{T:List (Nat×Nat×(aa->Prop))}{L:Nat->Bool}{E:Env}(h:oR T L E){i d:Nat}{v:aa}(y:∀j∈T,j.2.1=d->j.1=i+1/\j.2.2 v)(z:∀j∈T,j.1=i+1->j.2.1=d):oR T (dC L i) (E.put (some d) v):=by
 intro j q w;by_cases k:j.2.1=d
 .exact ⟨v,by rw[k];exact o9,(y j q k).2⟩
 .rw [h0 (λe=>k e.symm)];by_cases x:j.1=0
  .exact h j q (.inl x)
  .refine h j q (.inr ?_);have w:=w.resolve_left x
   rwa[e0 (λA=>k (z j q co))]at w
def oR.ac1{T:List (Nat×Nat×(aa->Prop))}{L:Nat->Bool}{E:Env}(h:oR T L E){i:Nat}{v:aa}(w:∀d∈T,d.1≠i+1):oR T (dC L i) (E.put none v):=by
 intro d k j;show ∃v,E.get? d.2.1=some v/\d.2.2 v;refine h d k ?_;by_cases q:d.1=0
 .omega
 .have j:=j.resolve_left q;have:=w d k;rw[e0 co]at j
  grind
def aeJ{P:aH}{o:Oper}{E:Env}{w:J}{K:Env->J->Prop}{a b:Nat}{U:Array aC}{ty:aC}{s t:Sl}(y:o.op=.call ⟨.builtin .append,#[.tmp a,.tmp b],U⟩)(z:o.type=ty)(q:E.get? a=some s.v)(x:E.get? b=some t.v)(h:∃d j,(eu U ty #[s.v,t.v]).run P w=.ok (Sl.v d) j/\K (E.put o.dst d.v) j):gS P o E w K:=by
 obtain⟨dst,op,k,pos,after,guard⟩:=o;simp only at y z;subst y z;have C:E.ef ⟨dst,.call ⟨.builtin .append,#[.tmp a,.tmp b],U⟩,k,pos,after,guard⟩=true:=by simp[Env.ef,Op.operands,Call.operands,Env.val,q,x]
 have A:E.ev (.tmp a)=s.v:=by simp[Env.ev,Env.val,q]
 have B:E.ev (.tmp b)=t.v:=by simp[Env.ev,Env.val,x]
 show cS (E.ef ⟨dst,.call ⟨.builtin .append,#[.tmp a,.tmp b],U⟩,k,pos,after,guard⟩) (∃d:Sl,∃j,(eu U k ((#[Operand.tmp a,.tmp b]).map E.ev)).run P w=.ok d.v j/\K (E.put dst d.v) j);rw[C];simp only[List.map_toArray,List.map_cons,List.map_nil,A,B];exact h
def aeO{P:aH}{o:Oper}{E:Env}{w:J}{K:Env->J->Prop}{T:aC}{a b:Nat}{p:Addr}{s:Sl}(j:o.op=.store T (.tmp a) (.tmp b))(k:E.get? a=some (.pointer (some p)))(q:E.get? b=some s.v)(hi:(1==(match P.info? T with |some i=>i.size|none=>0)&&true&&(P.info? T).isSome)=true)(h:aS w (p.add 0) s.v λd=>K (E.put o.dst undef) d):gS P o E w K:=by
 obtain⟨dst,op,x,pos,after,guard⟩:=o;simp only at j;subst j;show(match E.val (.tmp a),E.val (.tmp b)with
  |some (.pointer (some p)),some v=>cS (v.cells.size==(match P.info? T with |some i=>i.size|none=>0)&&v.cells.toList.all sJ&&(P.info? T).isSome) (qW p v.cells.toList 0 w λd=>K (E.put dst undef) d)
  |_,_=>False)
 rw[show E.val (.tmp a)=some (.pointer (some p))from k,show E.val (.tmp b)=some s.v from q];show cS (1==(match P.info? T with |some i=>i.size|none=>0)&&true&&(P.info? T).isSome) _;rw[hi];exact h
def EX:List (Op×Option Nat×aC×List Nat):=[
 (.fieldAddr e2 (.tmp 5) 0,some 17,lj,[]),
 (.load oM (.tmp 17),some 18,oM,[0]),
 (.build cA #[(1,.const (.int .i64 1))],some 19,cA,[]),
 (.build cQ #[(0,.const (.int .i64 0)),(5,.const (.string (bh #[118,48]))),(6,.tmp 19)],some 20,cQ,[2]),
 (.buildSlice Ig 1 #[(0,.tmp 20)],some 21,Ig,[3]),
 (.buildSlice i9 1 #[(0,.const (.int .i64 0))],some 22,i9,[]),
 (.move (.tmp 0),some 23,i9,[]),
 (.move (.tmp 6),some 24,b',[]),
 (.binOp .add b' (.const (.int .i64 1)) (.tmp 24) b',some 25,b',[7]),
 (.call ⟨.value (.func AG),#[.tmp 23,.tmp 25,.const (.int .i64 2)],#[i9,b',b']⟩,some 26,b',[6,8]),
 (.binOp .add b' (.const (.int .i64 2)) (.tmp 26) b',some 27,b',[9]),
 (.buildSlice i9 1 #[(0,.tmp 27)],some 28,i9,[10]),
 (.buildSlice i9 1 #[(0,.const (.int .i64 2))],some 29,i9,[]),
 (.build dD #[(0,.const (.int .i64 1)),(4,.const (.string (bh #[104,48]))),(5,.tmp 29)],some 30,dD,[12]),
 (.buildSlice vX 1 #[(0,.tmp 30)],some 31,vX,[13]),
 (.build gT #[(0,.tmp 21),(1,.tmp 22),(2,.tmp 28),(3,.tmp 31)],some 32,gT,[4,5,11,14]),
 (.buildSlice oM 1 #[(0,.tmp 32)],some 33,oM,[15]),
 (.call ⟨.builtin .append,#[.tmp 18,.tmp 33],#[oM,oM]⟩,some 34,oM,[1,16,9]),
 (.fieldAddr e2 (.tmp 5) 0,some 35,lj,[0,1,2,3,4,5,6,7,8,9,10,11,12,13,14,15,16,17]),
 (.store oM (.tmp 35) (.tmp 34),none,lj,[18,17,17,0,1,2,3,4,5,6,7,8,9,10,11,12,13,14,15,16,17])]
abbrev EV:aa:=.agg #[.i 0,.slice none 0 0,.i 0,.i 0,.u 0,.string (bh #[118,48]),.i 0,.i 1,.i 0]
abbrev EW(s:Sl):aa:=.agg #[.i 1,.i 0,.i 0,.slice none 0 0,.string (bh #[104,48]),s.v,.slice none 0 0]
abbrev mC(v:aa):Prop:=∃s:Sl,v=s.v
abbrev qw(v:aa):Prop:=∃n:Int,v=.i n
def ch(q:Int)(t4:Addr)(h:Sl)(d:Addr)(k:Int)(aB:Sl):List (Nat×Nat×(aa->Prop)):=[(0,1,(·=.i q)),(0,4,(·=.pointer (some t4))),(0,0,(·=h.v)),(0,5,(·=.pointer (some d))),(0,6,(·=.i k)),
 (1,17,(·=.pointer (some (d.add 0)))),(2,18,(·=aB.v)),(3,19,(·=.agg #[.i 0,.i 1,.i 0])),(4,20,(·=EV)),(5,21,mC),(6,22,mC),(7,23,(·=h.v)),(8,24,qw),(9,25,qw),(10,26,qw),(11,27,qw),(12,28,mC),(13,29,mC),
 (14,30,λv=>∃s:Sl,v=EW s),(15,31,mC),(16,32,λv=>∃a b c j:Sl,v=.agg #[a.v,b.v,c.v,j.v]),(17,33,mC),(18,34,mC),(19,35,(·=.pointer (some (d.add 0))))]
structure Lm where
 g:Sl
 h:Sl
 c:Sl
 s:Sl
def Lm.cs(x:Lm):List aa:=[x.g.v,x.h.v,x.c.v,x.s.v]
def Lm.len(l:List Lm):(l.flatMap Lm.cs).length=l.length *4:=qn Lm.cs 4 (λ_=>rfl) l
def Lm.one{l:List Lm}:∀u∈l.flatMap Lm.cs,u.oneCell'=true:=by intro u d;obtain⟨h,_,d⟩:=bX.1 d;simp only[Lm.cs,aq,aL,aR]at d;rcases d with rfl|rfl|rfl|rfl<;>rfl
def Kx:gW V oM gT (.agg #[.slice none 0 0,.slice none 0 0,.slice none 0 0,.slice none 0 0]) 4 96:=⟨by kernel_rfl,by kernel_rfl,rfl,md,md⟩
abbrev iC(d h:Nat)(aB:Sl)(ls:List Lm)(st:Sl)(ds:List Sp):List En:=[.c d [(⟨none,0,0⟩:Sl).v,(⟨none,0,0⟩:Sl).v] e2,.c h [aB.v,st.v] e2,.row gT 4 aB (ls.flatMap Lm.cs),.row dD 7 st (ds.flatMap Sp.c)]
section
variable {w0:J} {mo:Int} {b4 b5:Nat} {l0 aB st:Sl} {i6:Int} {ls:List Lm} {ds:List Sp} {D:List En}
def xc(i:Nat):List Nat:=(EX.map λr=>r.2.2.2).getD i []
structure rn(w0:J)(mo:Int)(b4 b5:Nat)(l0 aB st:Sl)(i6:Int)(ls:List Lm)(ds:List Sp)(D:List En)(L:Nat->Bool)(E:Env)(w:J):Prop where
 t:oR (ch mo (ab b4) l0 (ab b5) i6 aB) L E
 cl:∀i,L i=true->∀j∈xc i,L j=true
 ph:(L 17=false/\L 19=false/\LH F0 w0 w (iC b4 b5 aB ls st ds) D/\(L 16=true->∃(b:Nat) (x:Lm),E.get? 33=some (.slice (some (ab b)) 1 1)/\w.heap[b]? =some (.cells x.cs.toArray gT (0,0))))\/
  ((∀j,j<17->L j=true)/\L 17=true/\L 19=false/\∃(s:Sl) (x:Lm),E.get? 34=some s.v/\LH F0 w0 w [.c b4 [(⟨none,0,0⟩:Sl).v,(⟨none,0,0⟩:Sl).v] e2,.c b5 [aB.v,st.v] e2,.row gT 4 s ((ls++[x]).flatMap Lm.cs),.row dD 7 st (ds.flatMap Sp.c)] D)\/
  ((∀j,j<17->L j=true)/\L 17=true/\L 19=true/\∃(s:Sl) (x:Lm),LH F0 w0 w (iC b4 b5 s (ls++[x]) st ds) D)
def wZ{L:Nat->Bool}{i:Nat}(h:∀i,L i=true->∀d∈xc i,L d=true)(w:∀d∈xc i,L d=true):∀j,dC L i j=true->∀d∈xc j,dC L i d=true:=by
 intro j k d x;have g:L d=true:=by
  by_cases q:j=i
  .grind
  .rw [e0 q]at k;grind
 grind
def rn.a{L:Nat->Bool}{E:Env}{w Y:J}(h:rn w0 mo b4 b5 l0 aB st i6 ls ds D L E w)(i d:Nat)(v:aa)(hi:i<16)(H:∀I∈xc i,L I=true)(M:L i=false)(G:d≠33)(f:af w Y)(C:∀j∈ch mo (ab b4) l0 (ab b5) i6 aB,j.2.1=d->j.1=i+1/\j.2.2 v)(F:∀j∈ch mo (ab b4) l0 (ab b5) i6 aB,j.1=i+1->j.2.1=d):rn w0 mo b4 b5 l0 aB st i6 ls ds D (dC L i) (E.put (some d) v) Y:=by
 refine⟨h.t.fill C F,wZ h.cl H,?_⟩;rcases h.ph with⟨k,y,x,z⟩|⟨k,_⟩|⟨k,_⟩
 .refine .inl ⟨by rw[e0 co,k],by rw[e0 co,y],x.br f,λq=>?_⟩;rw[e0 co]at q;obtain⟨b,K,A,B⟩:=z q;exact⟨b,K,by rw[h0 G,A],f.at B id⟩
 .grind
 grind
def oF{op:Op}{a:Nat}{E:Env}{v:aa}(h:∀d∈op.operands.toList,d=.tmp a\/∃c,d=.const c)(j:E.get? a=some v):tS op E [(a,v)]:=λd k=>by
 rcases h d k with rfl|⟨c,rfl⟩
 .exact ⟨v,j,by simp[Env.val,Env.get?]⟩
 .exact ⟨c,rfl,rfl⟩
def Hz{op:Op}{E:Env}(h:∀d∈op.operands.toList,∃c,d=.const c):tS op E []:=λd j=>by obtain⟨c,rfl⟩:=h d j;exact⟨c,rfl,rfl⟩
def Z5(al:ls.length<=1000)(ag:∀k,LH F0 w0 k (iC b4 b5 aB ls st ds) D->∃xs,bq k l0 xs/\∀C∈xs,aX C):allI (wE V (rn w0 mo b4 b5 l0 aB st i6 ls ds D)) EX 0:=
 ⟨λA z k o w q y x j h=>by obtain⟨_,O,rfl⟩:=h.t.get (i:=0) (d:=5) (p:=(·=.pointer (some (ab b5)))) (by simp[ch]) (.inl rfl);refine qZ w y (oF (by simp[Op.operands]) O) ws (λ_ _ _ _ _=>rfl) (λ_ _ _ _=>by kernel_rfl) (v:=.pointer (some ((ab b5).add 0))) ?_;rw[q];exact h.a 0 17 _ co j x co (Fr.refl _ _) (by simp[ch]) (by simp[ch]),
  λA z k o w q y x j h=>by
   obtain⟨_,ad,rfl⟩:=h.t.get (i:=1) (d:=17) (p:=(·=.pointer (some ((ab b5).add 0)))) (by simp[ch]) (.inr (j 0 ws));have e:(nc V oM ((ab b5).add 0) k λv _=>rn w0 mo b4 b5 l0 aB st i6 ls ds D (dC A 1) (z.put o.dst v) k)=(∃s:Sl,k.cell? ((ab b5).add 0)=some s.v/\rn w0 mo b4 b5 l0 aB st i6 ls ds D (dC A 1) (z.put o.dst s.v) k):=by kernel_rfl
   refine qY w ad (e▸⟨aB,?_,?_⟩)
   .rcases h.ph with⟨_,_,E,_⟩|⟨B,_⟩|⟨B,_⟩
    .exact E.ld 1 0
    .grind
    grind
   .rw [q];exact h.a 1 18 _ co j x co (Fr.refl _ _) (by simp[ch]) (by simp[ch]),
  λA z k o w q y x j h=>by refine qZ w y (Hz (by simp[Op.operands])) ws (λ_ _ _ _ _=>rfl) (λ_ _ _ _=>by kernel_rfl) (v:=.agg #[.i 0,.i 1,.i 0]) ?_;rw[q];exact h.a 2 19 _ co j x co (Fr.refl _ _) (by simp[ch]) (by simp[ch]),
  λA z k o w q y x j h=>by obtain⟨_,g,rfl⟩:=h.t.get (i:=3) (d:=19) (p:=(·=.agg #[.i 0,.i 1,.i 0])) (by simp[ch]) (.inr (j 2 ws));refine qZ w y (oF (by simp[Op.operands]) g) ws (λ_ _ _ _ _=>rfl) (λ_ _ _ _=>by kernel_rfl) (v:=EV) ?_;rw[q];exact h.a 3 20 _ co j x co (Fr.refl _ _) (by simp[ch]) (by simp[ch]),
  λA z k o w q y x j h=>by obtain⟨_,g,rfl⟩:=h.t.get (i:=4) (d:=20) (p:=(·=EV)) (by simp[ch]) (.inr (j 3 ws));refine vN w y (oF (by simp[Op.operands]) g) ws (λ_ _ _ _ _=>rfl) (λ_ _ _ _=>by kernel_rfl) (v:=.slice (some (ab k.heap.size)) 1 1) (Y:=k.alloc (.cells #[.i 0,.slice none 0 0,.i 0,.i 0,.u 0,.string (bh #[118,48]),.i 0,.i 1,.i 0] cQ)) ?_;rw[q];exact h.a 4 21 _ co j x co (Fr.alloc _ _ _) (by simp[ch];exact⟨⟨some (ab k.heap.size),1,1⟩,rfl⟩) (by simp[ch]),
  λA z k o w q y x j h=>by refine vN w y (Hz (by simp[Op.operands])) ws (λ_ _ _ _ _=>rfl) (λ_ _ _ _=>by kernel_rfl) (v:=.slice (some (ab k.heap.size)) 1 1) (Y:=k.alloc (.cells #[.i 0] b')) ?_;rw[q];exact h.a 5 22 _ co j x co (Fr.alloc _ _ _) (by simp[ch];exact⟨⟨some (ab k.heap.size),1,1⟩,rfl⟩) (by simp[ch]),
  λA z k o w q y x j h=>by obtain⟨_,g,rfl⟩:=h.t.get (i:=0) (d:=0) (p:=(·=l0.v)) (by simp[ch]) (.inl rfl);refine ny (.inl w) g ?_;rw[q];exact h.a 6 23 _ co j x co (Fr.refl _ _) (by simp[ch]) (by simp[ch]),
  λA z k o w q y x j h=>by obtain⟨_,g,rfl⟩:=h.t.get (i:=0) (d:=6) (p:=(·=.i i6)) (by simp[ch]) (.inl rfl);refine ny (.inl w) g ?_;rw[q];exact h.a 7 24 _ co j x co (Fr.refl _ _) (by simp[ch];grind) (by simp[ch]),
  λA z k o w q y x j h=>by obtain⟨_,g,n,rfl⟩:=h.t.get (i:=8) (d:=24) (p:=qw) (by simp[ch]) (.inr (j 7 ws));refine qZ w y (oF (by simp[Op.operands]) g) ws (λ_ _ _ _ _=>rfl) (λ_ _ _ _=>by kernel_rfl) (v:=.i (ah .i64 (1+n))) ?_;rw[q];exact h.a 8 25 _ co j x co (Fr.refl _ _) (by simp[ch];grind) (by simp[ch]),
  λA z k o w q y x j h=>by
   obtain⟨_,g,rfl⟩:=h.t.get (i:=7) (d:=23) (p:=(·=l0.v)) (by simp[ch]) (.inr (j 6 ws));obtain⟨_,g',n,rfl⟩:=h.t.get (i:=9) (d:=25) (p:=qw) (by simp[ch]) (.inr (j 8 ws));obtain⟨xs,L,ai⟩:=ag k (by
    rcases h.ph with⟨_,_,E,_⟩|⟨B,_⟩|⟨B,_⟩
    .exact E
    .grind
    grind)
   refine aeL w y g g' rfl (by kernel_rfl) ((rO L ai n 2 co).mono ?_);rintro _ Z ⟨⟨aj,rfl,_⟩,f⟩;rw[show zeroOf V b'=.i 0 from by kernel_rfl];refine⟨aj,rfl,?_⟩;rw[q];exact h.a 9 26 _ co j x co f (by simp[ch];grind) (by simp[ch]),
  λA z k o w q y x j h=>by obtain⟨_,g,n,rfl⟩:=h.t.get (i:=10) (d:=26) (p:=qw) (by simp[ch]) (.inr (j 9 ws));refine qZ w y (oF (by simp[Op.operands]) g) ws (λ_ _ _ _ _=>rfl) (λ_ _ _ _=>by kernel_rfl) (v:=.i (ah .i64 (2+n))) ?_;rw[q];exact h.a 10 27 _ co j x co (Fr.refl _ _) (by simp[ch];grind) (by simp[ch]),
  λA z k o w q y x j h=>by obtain⟨_,g,n,rfl⟩:=h.t.get (i:=11) (d:=27) (p:=qw) (by simp[ch]) (.inr (j 10 ws));refine vN w y (oF (by simp[Op.operands]) g) ws (λ_ _ _ _ _=>rfl) (λ_ _ _ _=>by kernel_rfl) (v:=.slice (some (ab k.heap.size)) 1 1) (Y:=k.alloc (.cells #[.i n] b')) ?_;rw[q];exact h.a 11 28 _ co j x co (Fr.alloc _ _ _) (by simp[ch];exact⟨⟨some (ab k.heap.size),1,1⟩,rfl⟩) (by simp[ch]),
  λA z k o w q y x j h=>by refine vN w y (Hz (by simp[Op.operands])) ws (λ_ _ _ _ _=>rfl) (λ_ _ _ _=>by kernel_rfl) (v:=.slice (some (ab k.heap.size)) 1 1) (Y:=k.alloc (.cells #[.i 2] b')) ?_;rw[q];exact h.a 12 29 _ co j x co (Fr.alloc _ _ _) (by simp[ch];exact⟨⟨some (ab k.heap.size),1,1⟩,rfl⟩) (by simp[ch]),
  λA z k o w q y x j h=>by obtain⟨_,g,s,rfl⟩:=h.t.get (i:=13) (d:=29) (p:=mC) (by simp[ch]) (.inr (j 12 ws));refine qZ w y (oF (by simp[Op.operands]) g) ws (λ_ _ _ _ _=>rfl) (λ_ _ _ _=>by kernel_rfl) (v:=EW s) ?_;rw[q];exact h.a 13 30 _ co j x co (Fr.refl _ _) (by simp[ch];grind) (by simp[ch]),
  λA z k o w q y x j h=>by obtain⟨_,g,s,rfl⟩:=h.t.get (i:=14) (d:=30) (p:=λv=>∃s:Sl,v=EW s) (by simp[ch]) (.inr (j 13 ws));refine vN w y (oF (by simp[Op.operands]) g) ws (λ_ _ _ _ _=>rfl) (λ_ _ _ _=>by kernel_rfl) (v:=.slice (some (ab k.heap.size)) 1 1) (Y:=k.alloc (.cells #[.i 1,.i 0,.i 0,.slice none 0 0,.string (bh #[104,48]),s.v,.slice none 0 0] dD)) ?_;rw[q];exact h.a 14 31 _ co j x co (Fr.alloc _ _ _) (by simp[ch];exact⟨⟨some (ab k.heap.size),1,1⟩,rfl⟩) (by simp[ch]),
  λA z k o w q y x j h=>by
   obtain⟨_,g1,a,rfl⟩:=h.t.get (i:=5) (d:=21) (p:=mC) (by simp[ch]) (.inr (j 4 ws));obtain⟨_,g2,b,rfl⟩:=h.t.get (i:=6) (d:=22) (p:=mC) (by simp[ch]) (.inr (j 5 ws));obtain⟨_,g3,c,rfl⟩:=h.t.get (i:=12) (d:=28) (p:=mC) (by simp[ch]) (.inr (j 11 ws));obtain⟨_,g4,I,rfl⟩:=h.t.get (i:=15) (d:=31) (p:=mC) (by simp[ch]) (.inr (j 14 ws));refine qZ w y (E0:=[(21,a.v),(22,b.v),(28,c.v),(31,I.v)]) (λC L=>?_) ws (λ_ _ _ _ _=>rfl) (λ_ _ _ _=>by kernel_rfl) (v:=.agg #[a.v,b.v,c.v,I.v]) ?_
   .have L:C=.tmp 21\/C=.tmp 22\/C=.tmp 28\/C=.tmp 31:=by simpa[Op.operands]using L
    rcases L with rfl|rfl|rfl|rfl
    .exact ⟨_,g1,rfl⟩
    .exact ⟨_,g2,rfl⟩
    .exact ⟨_,g3,rfl⟩
    .exact ⟨_,g4,rfl⟩
   rw[q];exact h.a 15 32 _ co j x co (Fr.refl _ _) (by simp[ch];grind) (by simp[ch]),
  λA z k o w q y x j h=>by
   obtain⟨_,g,a,b,c,I,rfl⟩:=h.t.get (i:=16) (d:=32) (p:=λv=>∃a b c I:Sl,v=.agg #[a.v,b.v,c.v,I.v]) (by simp[ch]) (.inr (j 15 ws));refine vN w y (oF (by simp[Op.operands]) g) ws (λ_ _ _ _ _=>rfl) (λ_ _ _ _=>by kernel_rfl) (v:=.slice (some (ab k.heap.size)) 1 1) (Y:=k.alloc (.cells #[a.v,b.v,c.v,I.v] gT)) ?_;rw[q];refine⟨h.t.fill (by simp[ch];exact⟨⟨some (ab k.heap.size),1,1⟩,rfl⟩) (by simp[ch]),wZ h.cl j,?_⟩;rcases h.ph with⟨B,F,E,G⟩|⟨B,_⟩|⟨B,_⟩
   .exact .inl ⟨by rw[e0 co,B],by rw[e0 co,F],E.br (Fr.alloc _ _ _),λ_=>⟨k.heap.size,⟨a,b,c,I⟩,o9,kU k _⟩⟩
   .grind
   grind,
  λA z k o w q y x j h=>by
   obtain⟨_,ae,rfl⟩:=h.t.get (i:=2) (d:=18) (p:=(·=aB.v)) (by simp[ch]) (.inr (j 1 ws));rcases h.ph with⟨B,F,E,G⟩|⟨_,B,_⟩|⟨_,B,_⟩
   .obtain ⟨b,C,e1,e2⟩:=G (j 16 ws);have hn:=(E.get 2:aF _ _ _ _ _).len;rw[Lm.len]at hn;refine aeJ w y ae e1 (s:=aB) (t:=⟨some (ab b),1,1⟩) (E.ap 2 Kx (src:=⟨some (ab b),1,1⟩) (news:=C.cs) rfl (lX (n:=1) (sz:=4) (cs:=C.cs) e2 rfl).2.2 rfl (λu hu=>Lm.one (l:=[C]) u (by grind)) (by grind) λs' Z Q _ _=>?_);rw[q];refine⟨h.t.fill (by simp[ch];grind) (by simp[ch]),wZ h.cl j,.inr (.inl ⟨λM P=>?_,Bz,by rw[e0 co,F],s',C,o9,?_⟩)⟩
    .rw [e0 co];have U:=h.cl 16 (j 16 ws);have H:=h.cl 15 (U 15 md);have W:=h.cl 4 (H 4 md);have c3:=h.cl 3 (W 3 md);have S:=h.cl 11 (H 11 md);have aa:=h.cl 10 (S 10 md);have N:=h.cl 9 (aa 9 md);have c8:=h.cl 8 (N 8 md);have T:=h.cl 14 (H 14 md);have ac:=h.cl 13 (T 13 md);have c1:=h.cl 1 (j 1 ws)
     match M,P with
     |0,_=>exact c1 0 md
     |1,_=>grind
     |2,_=>exact c3 2 md
     |3,_=>exact W 3 md
     |4,_=>exact H 4 md
     |5,_=>exact H 5 md
     |6,_=>exact N 6 md
     |7,_=>exact c8 7 md
     |8,_=>exact N 8 md
     |9,_=>grind
     |10,_=>exact S 10 md
     |11,_=>exact H 11 md
     |12,_=>exact ac 12 md
     |13,_=>exact T 13 md
     |14,_=>exact H 14 md
     |15,_=>exact U 15 md
     |16,_=>grind
     |M+17,ak=>omega
    grind
   .grind
   grind,
  λA z k o w q y x j h=>by
   obtain⟨_,O,rfl⟩:=h.t.get (i:=0) (d:=5) (p:=(·=.pointer (some (ab b5)))) (by simp[ch]) (.inl rfl);refine qZ w y (oF (by simp[Op.operands]) O) ws (λ_ _ _ _ _=>rfl) (λ_ _ _ _=>by kernel_rfl) (v:=.pointer (some ((ab b5).add 0))) ?_;rw[q];refine⟨h.t.fill (by simp[ch]) (by simp[ch]),wZ h.cl j,?_⟩;rcases h.ph with⟨B,_⟩|⟨B,F,G,s,C,K,a5⟩|⟨B,F,G,K⟩
   .rw [j 17 ws]at B;cases B
   .exact .inr (.inl ⟨λM P=>by grind,by grind,by rw[e0 co,G],s,C,by rw[h0 co,K],a5⟩)
   grind,
  λA z k o w q y x j h=>by
   obtain⟨_,af,rfl⟩:=h.t.get (i:=19) (d:=35) (p:=(·=.pointer (some ((ab b5).add 0)))) (by simp[ch]) (.inr (j 18 ws));rcases h.ph with⟨B,_⟩|⟨B,F,G,s,C,K,E⟩|⟨B,F,G,K⟩
   .grind
   .refine aeO w af K (by kernel_rfl) ?_;rw[add_add];refine E.st 1 0 rfl λZ Q=>?_;rw[q];refine⟨h.t.ac1 (by simp[ch]),wZ h.cl j,.inr (.inr ⟨λM P=>by grind,by grind,Bz,s,C,Q⟩)⟩
   grind,
  trivial⟩
def Z4{w:J}{R:aJ}(H:LH F0 w0 w (iC b4 b5 aB ls st ds) D)(N:ls.length<=1000)(O:∀h,LH F0 w0 h (iC b4 b5 aB ls st ds) D->∃xs,bq h l0 xs/\∀k∈xs,aX k){t13:Int}(M:∀s k h,LH F0 w0 h (iC b4 b5 s (ls++[k]) st ds) D->gE.S1 l0 mo (ab b4) (ab b5) i6 h R):
  uY V gE.kE (λz w=>gE.rs z w R) [(14,.bool (au (i6<t13))),(13,.i t13),(12,l0.v),(11,.i i6),(0,l0.v),(1,.i mo),(4,.pointer (some (ab b4))),(5,.pointer (some (ab b5))),(6,.i i6)] w:=by
 refine Fe EX (by kernel_rfl) (rn w0 mo b4 b5 l0 aB st i6 ls ds D) ⟨λP q y=>?_,λi x=>(by cases x),.inl ⟨rfl,rfl,H.drew,λx=>(by cases x)⟩⟩ (Z5 N O) λQ z h C j=>?_
 .have y:P.1=0:=y.resolve_right ws;simp only[ch,aq,aL,aR]at q
  (repeat' rcases q with rfl|q)<;>(try subst q)<;>first |(exact⟨_,rfl,rfl⟩)|(exact Nat.noConfusion y)
 .rcases j.ph with⟨A,_⟩|⟨_,_,B,_⟩|⟨_,_,_,s,k,E⟩
  .rw [C 17 md]at A;cases A
  .rw [C 19 md]at B;cases B
  .obtain ⟨_,F,rfl⟩:=j.t.get (i:=0) (d:=0) (p:=(·=l0.v)) (by simp[ch]) (.inl rfl);obtain⟨_,G,rfl⟩:=j.t.get (i:=0) (d:=1) (p:=(·=.i mo)) (by simp[ch]) (.inl rfl);obtain⟨_,I,rfl⟩:=j.t.get (i:=0) (d:=4) (p:=(·=.pointer (some (ab b4)))) (by simp[ch]) (.inl rfl);obtain⟨_,K,rfl⟩:=j.t.get (i:=0) (d:=5) (p:=(·=.pointer (some (ab b5)))) (by simp[ch]) (.inl rfl);obtain⟨_,L,rfl⟩:=j.t.get (i:=0) (d:=6) (p:=(·=.i i6)) (by simp[ch]) (.inl rfl);unfold gE.rs;rw[F,G,I,K,L];exact M s k h E
end
namespace SS
def ok:=az (ay V Tryz.f251 [(3,lr 9)] []) PA [.Y]
end SS
namespace Tm
def aD:=az (ay V Tryz.f209 [] [2]) AP [.a 4,.I,.Y,.Y,.s,.I]
end Tm
namespace qR
noncomputable def iv:=bg (ay V Tryz.f237 [(9,ls [0,1,5,6,2,3,4,7,8,9,10,11])] [1,9]) [0,1,1,1,7] [(1,.l [.I,.Y,.Y,.s] aZ),(5,.v [.st]),(6,.v [.I]),(7,.v [.st]),(79,.v [.s]),(80,.v [.I]),(81,.v [.I])]
noncomputable abbrev t1:=bf iv
noncomputable abbrev cX:=ak t1 [3,2,2,2,1,1,7] [(1,.l [.I,.Y,.Y,.s] aZ),(5,.v [.st]),(6,.v [.I]),(7,.v [.st]),(10,.v [.st]),(79,.v [.s]),(80,.v [.I]),(81,.v [.I])]
noncomputable abbrev t2:=ao cX
def kI:=bj t2 iv
abbrev P0:Ps:=[(1,.l [.I,.Y,.Y,.s] aZ),(4,.v [.st]),(5,.v [.st]),(6,.v [.I])]
noncomputable abbrev bW:=ak t2 [4] P0
noncomputable abbrev t3:=ao bW
noncomputable abbrev bD:=ak t3 [3] P0
noncomputable abbrev t4:=ao bD
def aD:=az t4 Py [.a 4,.I,.Y,.Y,.s]
end qR
namespace SQ
def aD:=az (ay V Tryz.f190 [] [1]) Pw [.a 4,.I,.Y,.Y,.s]
end SQ
namespace Vp
def aD:=az (ay V Tryz.f168 [] [3,6]) Gq [.st]
end Vp
def R2(c:UInt8):vm c=ot c:=by
 unfold vm ot
 grind
def Un(c:UInt8):ky c=eS c:=rfl
def WX:(List.range 256).all (λn=>kN .u8 (n:Int) 15==((n%16:Nat):Int))=true:=by kernel_rfl
def Me{n:Nat}(h:n<16):(bh #[48,49,50,51,52,53,54,55,56,57,97,98,99,100,101,102])[n]? =some (iS n):=by
 have:n=0\/n=1\/n=2\/n=3\/n=4\/n=5\/n=6\/n=7\/n=8\/n=9\/n=10\/n=11\/n=12\/n=13\/n=14\/n=15:=co
 (repeat' rcases this with rfl|this)<;>(try subst this)<;>rfl
def GS(c:UInt8)(w:J):aj V PA #[.int .u8 (c.toNat:Int)] w λr D=>r=ae (.string (ba (dR c)))/\af w D:=by
 have C:=c.toNat_lt;have q:LH F0 w w [] []:=bN [] ws;refine SS.ok _ w _ (q.call (JC c w) ?_);rintro _ E rfl k;refine⟨_,rfl,bP (λj=>?_) (λj=>?_)⟩
 .rw [R2]at j;refine k.k6 (λF _ x h=>?_);have d:Bytes F ⟨some (ab E.heap.size),3,3⟩ [39,c,39]:=uh (T:=cJ) h rfl;refine⟨ba [39,c,39],lD d,?_,x.fr⟩;unfold dR;grind
 .rw [R2]at j;have A:Int.fdiv (c.toNat:Int) (2^(4))=((c.toNat / 16:Nat):Int):=by grind
  have B:kN .u8 (c.toNat:Int) 15=((c.toNat%16:Nat):Int):=eq_of_beq (fa.1 WX c.toNat (List.mem_range.2 C));refine k.dr λG y=>?_;rw[A,B];refine⟨co,_,Me co,co,_,Me co,y.k6 (λH _ z h=>?_)⟩;have d:Bytes H ⟨some (ab G.heap.size),4,4⟩ [92,120,iS (c.toNat / 16),iS (c.toNat%16)]:=uh (T:=cJ) h rfl;refine⟨ba [92,120,iS (c.toNat / 16),iS (c.toNat%16)],lD d,?_,z.fr⟩;unfold dR;grind
abbrev Iv(n:Nat):Prop:=∀(x:I) (w:J),x.sz<=n->iY x.rx=true->x.P w->aj V Py #[x.v] w λr d=>r=ae (.tuple #[.string (ba (bn x.rx)),.i (c' x.rx:Int)])/\af w d
def RV{n:Nat}(G:n<=1000000)(q:Iv n)(x:I)(d:Nat)(w:J)(h:x.sz<=n)(F:d<=1000)(z:iY x.rx=true)(A:x.P w):aj V AP #[x.v,.i (d:Int)] w λr B=>r=ae (.string (ba (dd d x.rx (bn x.rx))))/\af w B:=by
 refine Tm.aD _ _ _ _ _ w _ ((g4 A).aK λD C j=>j.aA (q x C h z (j.getD 0)) ?_);rintro _ H rfl k;have E:(bn x.rx).length<=18000000:=by have:=y3 x.rx;rw[I.eU]at this;omega
 have e:bh #[40]++ba (bn x.rx)++bh #[41]=ba (40::(bn x.rx++[41])):=by show ba [40]++ba (bn x.rx)++ba [41]=_;rw[cL,cL];simp
 refine⟨_,_,rfl,aE (λy=>⟨?_,?_,?_,k.fr⟩) (λy=>⟨?_,k.fr⟩)⟩
 .rw [bQ];show ¬(((1+_:Nat):Int)>9223372036854775807);omega
 .have:(bh #[40]++ba (bn x.rx)).size=1+(bn x.rx).length:=by show(ba [40]++_).size=_;rw[cL,bQ];grind
  rw[this];show ¬(((_+1:Nat):Int)>9223372036854775807);omega
 .rw [e];unfold dd;grind
 .unfold dd;grind
def RR:∀n:Nat,n<=1000000->Iv n
 |0,_=>λh B q _ _=>absurd q (by have:=I.mO h;omega)
 |n+1,hn=>by
  have ih:=RR n co;intro h B q aY px;have hs:=I.iI h;have hl:=I.fR h.l;have nr:=I.cH px.parts.1;have aC:=aY;rw[I.fx]at aC;obtain⟨k0,k7,am,aU⟩:=AZ aC;have aW:(I.aw h.l).length=h.l.length:=by rw[I.fP,gJ]
  rw[aW]at am;have ay:∀a∈h.l,iY a.rx=true:=λa x=>A0 aU (by rw[I.fP];grind);have an:∀(a:I) (lv:Nat),a.sz<=1000000->(dd lv a.rx (bn a.rx)).length<=18000002:=λa lv x=>by have A:=y3 a.rx;rw[I.eU]at A;have:=(sO lv a.rx (bn a.rx)).1;omega
  have aq:∀c,(dR c).length<=4:=λc=>by unfold dR;grind
  let U:aJ:=λr w'=>r=ae (.tuple #[.string (ba (bn h.rx)),.i (c' h.rx:Int)])/\af B w'
  have one:∀(a:I) (T:Nat) (w:J) (L:List En) (bs:List Nat) (K:ByteArray->J->Prop),T<=1000->a∈h.l->LH F0 B w L [.tree h]->(∀w2,LH F0 B w2 L [.tree h]->K (ba (dd T a.rx (bn a.rx))) w2)->DZ bs AP #[.agg #[.i a.k,.int .u8 (a.lo.toNat:Int),.int .u8 (a.hi.toNat:Int),a.s.v],.i (T:Int)] w K:=by
   intro a T w L bs K aX x j hK;have ap:=I.eH x;refine j.aA (RV co ih a T w co aX (ay a x) ((show h.P w from j.getD 0).parts.2.mem x)) ?_
   grind
  have H:bn h.rx=bn (.mk h.k h.lo h.hi (I.aw h.l)):=by rw[I.fx]
  have a0:c' h.rx=if h.k=6 then 3 else if h.k<3\/h.k=7\/h.l.length<2 then 4 else if h.k=3 then 2 else if h.k=4 then 0 else 1:=by rw[I.fx];unfold c';grind
  have N:(h.k<3\/h.k=7\/h.l.length<2)->h.k≠6->(4:Int)=(c' h.rx:Int):=λA F=>by grind
  refine qR.aD _ _ _ _ B _ ((g4 px).aK λC w j=>?_);have j:LH F0 B w [.g C] [.tree h]:=j;refine aO (λZ=>⟨?_,j.fr⟩) (λau=>aO (λZ=>⟨?_,j.fr⟩) (λaT=>aO (λax=>?_) (λax=>aO (λO=>?_) (λO=>aO (λaa=>?_) (λaa=>?_)))))
  .rw [<-N (.inl co) co,H];unfold bn;rw[av Z];rfl
  .rw [<-N (.inl co) co,H];unfold bn;rw[ag au,av Z];rfl
  .have e2:bn h.rx=if h.lo=h.hi then dR h.lo else 91::(dR h.lo++45::(dR h.hi++[93])):=by rw[H];unfold bn;grind
   rw[<-N (.inl co) co];refine aO (λaz=>j.aA (GS h.lo w) ?_) (λaz=>j.ai λw5 H5=>H5.aA (GS h.lo w5) ?_)
   .rintro _ D rfl z;exact⟨_,rfl,by rw[e2,av (UInt8.toNat_inj.1 co)],z.fr⟩
   .rintro _ Q rfl G;have A:=aq h.lo;have F:=aq h.hi;have s0:bh #[91]++ba (dR h.lo)++bh #[45]=ba (91::dR h.lo++[45]):=by show ba [91]++ba (dR h.lo)++ba [45]=_;rw[cL,cL];rfl
    refine⟨_,rfl,?_,?_,G.aA (GS h.hi Q) ?_⟩
    .rw [bQ];show ¬(((1+_:Nat):Int)>9223372036854775807);omega
    .have:(bh #[91]++ba (dR h.lo)).size=1+(dR h.lo).length:=by show(ba [91]++_).size=_;rw[cL,bQ];grind
     rw[this];show ¬(((_+1:Nat):Int)>9223372036854775807);omega
    rintro _ y rfl E;rw[s0];have:ba (91::dR h.lo++[45]++dR h.hi)++bh #[93]=ba (91::dR h.lo++[45]++dR h.hi++[93]):=by show _++ba [93]=_;rw[cL]
    refine⟨_,rfl,?_,?_,?_,E.fr⟩
    .rw [bQ,bQ];simp only[a9,bI,dH];show ¬((_:Int)>9223372036854775807);omega
    .rw [cL,bQ];simp only[a9,bI,dH];show ¬(((_+1:Nat):Int)>9223372036854775807);omega
    .rw [cL,this,e2,ag (λq=>az (by rw[q]))];simp
  .have A:=am (.inl O);have e6:bn h.rx=33::ko (dF 3 (I.aw h.l)):=by rw[H];unfold bn;grind
   have e3:(3:Int)=(c' h.rx:Int):=by grind
   match gH:h.l,A with
   |[a],_=>
    have x:a∈h.l:=by grind
    have ap:=I.eH x;refine iZ (show h.P w from j.getD 0) (k:=0) rfl (by grind) (one a 3 w _ _ _ co x j λD z=>⟨?_,?_,z.fr⟩)
    .have:=an a 3 co;rw[bQ];show ¬(((1+_:Nat):Int)>9223372036854775807);omega
    .have:bh #[33]++ba (dd 3 a.rx (bn a.rx))=ba (33::dd 3 a.rx (bn a.rx)):=by show ba [33]++_=_;rw[cL];rfl
     rw[this,e6,gH,<-e3];rfl
  .have A:=am (.inr aa);have e7:bn h.rx=ko (dF 4 (I.aw h.l))++[42]:=by rw[H];unfold bn;grind
   match gH:h.l,A with
   |[a],_=>
    have x:a∈h.l:=by grind
    have ap:=I.eH x;refine iZ (show h.P w from j.getD 0) (k:=0) rfl (by grind) (one a 4 w _ _ _ co x j λD z=>⟨?_,?_,z.fr⟩)
    .have:=an a 4 co;rw[bQ];show ¬(((_+1:Nat):Int)>9223372036854775807);omega
    .have:ba (dd 4 a.rx (bn a.rx))++bh #[42]=ba (dd 4 a.rx (bn a.rx)++[42]):=by show _++ba [42]=_;rw[cL]
     rw[this,e7,gH,<-N (.inr (.inl aa)) O];rfl
  have Z:h.k=3\/h.k=4\/h.k=5:=co
  have S1:∀(word sign:BL) (level:Nat),word.length=3->sy h.k=word++[40]->g9 h.k=sign->level<=2->(2<=h.l.length->c' h.rx=level)->qR.bW C h.k h.lo.toNat h.hi.toNat h.s (ba word) (ba sign) (level:Int) w U:=by
   intro word sign level hw aB ao a1 Y;have ef:h.l.length<2->bn h.rx=sy h.k++(ko (dF 0 (I.aw h.l))++[41]):=λq=>by rw[H];unfold bn;grind
   refine aO (λh0=>?_) (λh0=>aO (λA=>?_) (λA=>?_))
   .have hx:h.l=[]:=List.length_eq_zero_iff.1 co;refine⟨?_,?_,j.fr⟩
    .rw [bQ];show ¬(((_+2:Nat):Int)>9223372036854775807);omega
    .have:ba word++bh #[40,41]=ba (word++[40,41]):=by show _++ba [40,41]=_;rw[cL]
     rw[this,<-N (.inr (.inr co)) O,ef co,aB,hx];simp[I.aw,dF,ko]
   .match gH:h.l with
    |[]=>grind
    |_::_::_=>grind
    |[a]=>
     have x:a∈h.l:=by grind
     have ap:=I.eH x;have hp:=an a 0 co;refine⟨?_,iZ (show h.P w from j.getD 0) (k:=0) rfl (by grind) (one a 0 w _ _ _ co x j λD z=>⟨?_,?_,?_,z.fr⟩)⟩
     .rw [bQ];show ¬(((_+1:Nat):Int)>9223372036854775807);omega
     .have:ba word++bh #[40]=ba (word++[40]):=by show _++ba [40]=_;rw[cL]
      rw[this,bQ,bQ];simp only[a9,bI,dH];show ¬((_:Int)>9223372036854775807);omega
     .have:ba word++bh #[40]++ba (dd 0 a.rx (bn a.rx))=ba (word++[40]++dd 0 a.rx (bn a.rx)):=by show _++ba [40]++_=_;rw[cL,cL]
      rw[this,bQ];simp only[a9,bI,dH];show ¬(((_+1:Nat):Int)>9223372036854775807);omega
     .have:ba word++bh #[40]++ba (dd 0 a.rx (bn a.rx))++bh #[41]=ba (word++[40]++dd 0 a.rx (bn a.rx)++[41]):=by show _++ba [40]++_++ba [41]=_;rw[cL,cL,cL]
      rw[this,<-N (.inr (.inr co)) O,ef co,aB,gH];simp[I.aw,dF,ko]
   .have F:2<=h.l.length:=co
    have Y:=Y F;have ej:bn h.rx=Ak h.k (dF (level+1) (I.aw h.l)):=by
     conv=>lhs;rw[H];unfold bn;rw[ag au,ag aT,ag ax,ag O,ag aa,ag co]
     rw[<-I.fx,Y]
    have a3:sign.length<=1:=by rw[<-ao];unfold g9;grind
    have loop:∀(d i:Nat) (out:BL) (D:J),i+d=h.l.length->(1<=i->0<out.length)->(i=0->out=[])->out.length+hv (dF (level+1) (I.aw (h.l.drop i)))<=40000000->bn h.rx=(if i=0 then Ak h.k (dF (level+1) (I.aw (h.l.drop i)))else jK h.k out (dF (level+1) (I.aw (h.l.drop i))))->LH F0 B D [.g C] [.tree h]->
      qR.iv C h.k h.lo.toNat h.hi.toNat h.s (ba sign) (level:Int) (ba out) h.s (h.s.n:Int) (i:Int) D U:=by
     intro d;induction d with
     |zero=>
      intro i out D aR ab hz ac M z;refine qR.kI _ _ _ _ _ _ _ _ _ _ _ _ _ (aP (aV co) ⟨?_,z.fr⟩);rw[M,du co,ag co,Y];rfl
     |succ d aZ=>
      intro i out D aR ab hz ac M z;have hg:h.l[i]? =some (h.l[i]'co):=a' co;have ar:h.l.drop i=(h.l[i]'co)::h.l.drop (i+1):=dw co;generalize h.l[i]'co=c at hg ar;have hc:=aG hg;have a4:=I.eH hc;rw[ar]at M ac;have ac:out.length+((dd (level+1) c.rx (bn c.rx)).length+2+hv (dF (level+1) (I.aw (h.l.drop (i+1)))))<=40000000:=by
       have:hv (dF (level+1) (I.aw (c::h.l.drop (i+1))))=(dd (level+1) c.rx (bn c.rx)).length+2+hv (dF (level+1) (I.aw (h.l.drop (i+1)))):=by simp[I.aw,dF,hv]
       omega
      have aI:0<(dd (level+1) c.rx (bn c.rx)).length:=by have A:=Cn c.rx (ay c hc);have:=(sO (level+1) c.rx (bn c.rx)).2;omega
      have aH:ah .i64 ((level:Int)+1)=((level+1:Nat):Int):=bb _ co;have aL:i=0->bn h.rx=jK h.k (dd (level+1) c.rx (bn c.rx)) (dF (level+1) (I.aw (h.l.drop (i+1)))):=λq=>by rw[av q]at M;rw[M];rfl
      have S:i≠0->bn h.rx=jK h.k ((if h.k=3/\eS (kY out)=true/\eS (gQ (dd (level+1) c.rx (bn c.rx)) 0)=true then out++[32]else out)++g9 h.k++dd (level+1) c.rx (bn c.rx)) (dF (level+1) (I.aw (h.l.drop (i+1)))):=λq=>by rw[ag q]at M;rw[M];rfl
      refine qR.kI _ _ _ _ _ _ _ _ _ _ _ _ _ (aM (aQ co) (iZ (show h.P D from z.getD 0) rfl hg (z.aK λb9 w4 H4=>H4.ai λw5 H5=>?_)));rw[aH];refine one c (level+1) w5 _ _ _ co hc H5 λQ G=>?_;have G:LH F0 B Q [.g C,.g b9] [.tree h]:=G;generalize dd (level+1) c.rx (bn c.rx)=t at aL S ac aI;have go:∀(o:BL) (y:J),o.length<=out.length+1->out.length<=o.length->bn h.rx=jK h.k (o++t) (dF (level+1) (I.aw (h.l.drop (i+1))))->LH F0 B y [.g C,.g b9] [.tree h]->qR.cX C h.k h.lo.toNat h.hi.toNat h.s (ba sign) (level:Int) (ba o) (ba t) h.s (h.s.n:Int) (i:Int) y U:=by
       intro o y A F h3 E;refine⟨?_,?_⟩
       .rw [bQ,bQ];show ¬((_:Int)>9223372036854775807);omega
       .rw [cL,bb _ co];refine aZ (i+1) (o++t) y co (λ_=>by grind) (λq=>co) (by grind) (by grind) (E.take 1)
      refine aE (λaS=>⟨?_,?_⟩) (λaS=>go out Q co (bm _) (by grind) G)
      .rw [bQ,bQ];show ¬((_:Int)>9223372036854775807);omega
      have S:=S co;have ab:=ab co;rw[ao]at S;have ea:ba out++ba sign=ba (out++sign):=cL _ _;have ad:∀y,LH F0 B y [.g C,.g b9] [.tree h]->¬(h.k=3/\eS (kY out)=true/\eS (gQ t 0)=true)->qR.cX C h.k h.lo.toNat h.hi.toNat h.s (ba sign) (level:Int) (ba (out++sign)) (ba t) h.s (h.s.n:Int) (i:Int) y U:=λy E a2=>go (out++sign) y (by grind) (by grind) (by grind) E;rw[ea];refine aO (λaj=>?_) (λaj=>ad Q G (λq=>aj q.1));have s3:sign=[]:=by rw[<-ao];unfold g9;grind
      have e9:out++sign=out:=by grind
      rw[e9]at ad ⊢;have eo:ah .i64 ((((ba out).size:Nat):Int) - 1)=((out.length - 1:Nat):Int):=by rw[bQ,aN _ co];omega
      rw[eo];refine⟨co,kY out,?_,G.aA (zE (kY out) Q) ?_⟩
      .rw [bo,gN (s:=ba out) (by rw[bQ];omega),gC,M0 out ab]
      rintro _ y rfl E;refine⟨_,rfl,bP (λak=>⟨co,gQ t 0,?_,E.aA (zE (gQ t 0) y) ?_⟩) (λak=>ad y E (λq=>by rw[Un,q.2.1]at ak;grind))⟩
      .rw [show a5 0=0 from rfl,gN (s:=ba t) (by rw[bQ];omega),gC]
      rintro _ w8 rfl H8;refine⟨_,rfl,bP (λal=>⟨?_,?_⟩) (λal=>ad w8 H8 (λq=>by rw[Un,q.2.2]at al;grind))⟩
      .rw [bQ];show ¬(((_+1:Nat):Int)>9223372036854775807);omega
      .have aF:ba out++bh #[32]=ba (out++[32]):=by show _++ba [32]=_;rw[cL]
       rw[aF];refine go (out++[32]) w8 ws ws ?_ H8;rw[av ⟨aj,ak,al⟩,s3,ed]at S;omega
    have h3:=tn (level+1) (I.aw h.l);have W:Rx.a7 (I.aw h.l)=I.a7 h.l:=I.yy h.l;exact loop h.l.length 0 [] w co (λq=>co) (λ_=>rfl) (by grind) (by grind) j
  have bd:2<=h.l.length->c' h.rx=if h.k=3 then 2 else if h.k=4 then 0 else 1:=λF=>by grind
  refine aO (λW=>S1 [97,108,116] [124] 0 rfl (by rw[W];rfl) (by rw[W];rfl) co (λF=>by grind)) (λW=>aO (λh5=>S1 [97,108,108] [38] 1 rfl (by rw[h5];rfl) (by rw[h5];rfl) co (λF=>by grind)) (λh5=>S1 [99,97,116] [] 2 rfl (by rw[show h.k=3 by omega];rfl) (by rw[show h.k=3 by omega];rfl) co (λF=>by grind)))
def acY(x:I)(d:Nat)(w:J)(h:x.sz<=1000000)(j:d<=1000)(k:iY x.rx=true)(q:x.P w):aj V AP #[x.v,.i (d:Int)] w λr y=>r=ae (.string (ba (dd d x.rx (bn x.rx))))/\af w y:=RV (bm _) (RR 1000000 (bm _)) x d w h j k q
def abm:(List.range 1728).all (λd=>Nat.ble (mP d).length 64)=true:=by kernel_rfl
def Vz(k:Nat):(mP k).length<=64:=by rw[Vx];exact Nat.le_of_ble_eq_true (fa.1 abm (k%1728) (List.mem_range.2 (Nat.mod_lt _ co)))
end Go.Proofs.YtnaglpcbkhjpnaaGreatDoor
