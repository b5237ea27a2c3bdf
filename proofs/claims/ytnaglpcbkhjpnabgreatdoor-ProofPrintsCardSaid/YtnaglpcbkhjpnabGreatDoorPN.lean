import Derived.Test.YtnaglpcbkhjpnabGreatDoorE3
import Derived.Lib.BufferWrite
import Derived.Lib.UnsafeStr
import Derived.Test.YtnaglpcbkhjpnabGreatDoorR14
import Derived.Test.YtnaglpcbkhjpnabGreatDoorU
import Derived.Test.YtnaglpcbkhjpnabGreatDoorWN
import Derived.Test.YtnaglpcbkhjpnabGreatDoorG9
set_option linter.unusedVariables false
set_option maxRecDepth 100000
set_option maxHeartbeats 1000000
set_option linter.defProp false
noncomputable section
namespace Go.Proofs.YtnaglpcbkhjpnabGreatDoor
open Go renaming World->J,Calls->ai,Program->aJ,Value->aa,TypeId->aE,Ending->bW
open Go.IntKind renaming wrap->aj
open _root_.Int renaming toNat->a0,tdiv->bQ,tmod->cw,toNat_natCast->bB
open _root_.ByteArray renaming mk->bn
open Go.IntWalk renaming i64_in->aQ
open Go.Builtin renaming append_->eA
open Go.Sem renaming run->gx
open _root_.Nat renaming le_refl->br,le_trans->bb,lt_of_lt_of_le->m8
open _root_.UInt8 renaming ofNat->db
open Go.Proofs.Tryz renaming prog->V
open _root_.Decidable renaming decide->av
open Go.Ending renaming returned->ae
open List renaming mem_append->aX,mem_cons->aq,not_mem_nil->aL,mem_of_getElem?->aD,getElem?_eq_getElem->a',mem_append_left->bV,mem_append_right->eD,mem_flatMap->cc,length_append->a7,length_cons->bR,length_nil->dK,append_assoc->ck,mem_singleton->b0,flatMap_append->cW,nodup_append->hL,length_map->gv,drop_eq_getElem_cons->dz,getElem?_map->ku,all_eq_true->ff,append_nil->dy,take_add_one->dV,drop_of_length_le->c9,take_of_length_le->eO
open Go Go.W
def vn:List Int:=[1,10,100,1000,10000,100000,1000000,10000000,100000000,1000000000,10000000000,100000000000,1000000000000,10000000000000,100000000000000,1000000000000000,10000000000000000,100000000000000000,1000000000000000000,10000000000000000000]
abbrev IA(n:Int):aa:=.int .u64 n
abbrev sW:En:=.rd ⟨some (ab 3),20,20⟩ (vn.map IA)
def adT:∀d<20,vn[d]? =some ((10^d:Nat):Int):=md
def lG(x:Nat):Nat:=if x=0 then 0 else Nat.log2 x+1
def aco:∀d<256,acJ[d]? =some (db (lG d))/\lG d<=8/\d<2^lG d/\(d≠0->2^(lG d - 1)<=d/\1<=lG d):=by decide+kernel
def YL{u:Nat}(P:u≠0)(Y:u<2^64)(w:J):ai V PA #[.u (u:Int)] w λr j=>(∃L:Nat,r=ae (.i (L:Int))/\1<=L/\L<=64/\2^(L - 1)<=u/\u<2^L)/\j=w:=by
 have fin:∀(x n:Nat),x≠0->x<256->n<=56->2^n *x<=u->u<2^n *(x+1)->k2.S2 (x:Int) (n:Int) w λr j=>(∃L:Nat,r=ae (.i (L:Int))/\1<=L/\L<=64/\2^(L - 1)<=u/\u<2^L)/\j=w:=by
  intro x n A C G d h;obtain⟨H,S,I,K⟩:=aco x C;obtain⟨M,T⟩:=K A;have e:aj .u8 (x:Int)=(x:Int):=by rw[IntKind.wrap_u8];omega
  have N:((db (lG x)).toNat:Int)=(lG x:Int):=by rw[UInt8.toNat_ofNat'];omega
  dsimp only[k2.S2,ak];rw[e,bB];refine⟨co,_,H,⟨n+lG x,?_,co,co,?_,?_⟩,rfl⟩
  .have O:aj .i64 ((n:Int)+aj .i64 (lG x:Int))=((n+lG x:Nat):Int):=by rw[aQ (lG x:Int) co,aQ _ co];omega
   rw[N,O]
  .rw [show n+lG x - 1=n+(lG x - 1)by omega,Nat.pow_add];exact bb (Nat.mul_le_mul_left _ M) d
  .rw [Nat.pow_add];exact m8 h (Nat.mul_le_mul_left _ I)
 have D:∀(x n k:Nat),2^n *x<=u->u<2^n *(x+1)->2^(n+k) *(x / 2^k)<=u/\u<2^(n+k) *(x / 2^k+1):=by
  intro x n k d h;have Q:=Nat.two_pow_pos k;have U:=Nat.div_add_mod x (2^k);have W:=Nat.mod_lt x Q;rw[Nat.pow_add,Nat.mul_assoc,Nat.mul_assoc];constructor
  .exact bb (Nat.mul_le_mul_left _ (Nat.mul_div_le x _)) d
  .refine m8 h (Nat.mul_le_mul_left _ ?_);rw[Nat.mul_add,Nat.mul_one];omega
 have B:∀x k:Nat,Int.fdiv (x:Int) (2^k)=((x / 2^k:Nat):Int):=λx k=>by have:=Ak x (2^k) (Nat.two_pow_pos k);rw[Int.natCast_pow]at this;exact this
 have F:∀(x n:Nat),x≠0->x<65536->n<=48->2^n *x<=u->u<2^n *(x+1)->k2.S1 (x:Int) (n:Int) w λr j=>(∃L:Nat,r=ae (.i (L:Int))/\1<=L/\L<=64/\2^(L - 1)<=u/\u<2^L)/\j=w:=by intro x n A C G d h;refine aF (λz=>?_) (λz=>fin x n A co co d h);obtain⟨q,y⟩:=D x n 8 d h;rw[B,show aj .i64 ((n:Int)+8)=((n+8:Nat):Int)by rw[aQ _ co];omega];exact fin _ _ co co co q y
 have E:∀(x n:Nat),x≠0->x<4294967296->n<=32->2^n *x<=u->u<2^n *(x+1)->k2.S0 (x:Int) (n:Int) w λr j=>(∃L:Nat,r=ae (.i (L:Int))/\1<=L/\L<=64/\2^(L - 1)<=u/\u<2^L)/\j=w:=by intro x n A C G d h;refine aF (λz=>?_) (λz=>F x n A co co d h);obtain⟨q,y⟩:=D x n 16 d h;rw[B,show aj .i64 ((n:Int)+16)=((n+16:Nat):Int)by rw[aQ _ co];omega];exact F _ _ co co co q y
 refine k2.ok (aF (λz=>?_) (λz=>E u 0 P co co co co));obtain⟨q,y⟩:=D u 0 32 co co;rw[B];exact E _ 32 co co co q y
def acN:∀d<65,1<=d->d *78913 / 2^18<20/\10^(d *78913 / 2^18 - 1)<=2^(d - 1)/\2^d<=10^(d *78913 / 2^18+1)/\(d *78913 / 2^18=0->d<=3):=by decide+kernel
def JU{u:Nat}(D:u≠0)(N:u<2^64)(w:J)(G:sW.P w):ai V Pt #[.u (u:Int)] w λr z=>r=ae (.i (((cg u).length:Nat):Int))/\z=w:=by
 refine MR.ok ((YL D N w).mono ?_);rintro _ h ⟨⟨L,rfl,O,l2,l3,Q⟩,rfl⟩;obtain⟨S,t2,T,t4⟩:=acN L co O;have e:Int.fdiv (aj .i64 ((L:Int) *78913)) (2^18)=((L *78913 / 2^18:Nat):Int):=by rw[show aj .i64 ((L:Int) *78913)=((L *78913:Nat):Int)by rw[aQ _ co];omega];have:=Ak (L *78913) (2^18) (Nat.two_pow_pos _);rw[Int.natCast_pow]at this;exact this
 refine⟨_,rfl,MP.ok ⟨_,rfl,?_⟩⟩;rw[e];generalize W:L *78913 / 2^18=n at *;have x:h.cell? ((ab 3).add n)=some (.u ((10^n:Nat):Int)):=by have:=Rd.get (show Rd h ⟨some (ab 3),20,20⟩ (vn.map IA)from G) (i:=n) (j:=n) (v:=IA ((10^n:Nat):Int)) (by rw[ku,adT n S];rfl) co (K:=λp=>∃y,some y=some (ab 3)/\h.cell? (y.add n)=some (.u ((10^n:Nat):Int))) (λp I x=>⟨p,I.symm,x⟩);obtain⟨y,hq,d⟩:=sV this;obtain⟨q',M,C⟩:=d;cases M;exact C
 refine⟨co,co,((10^n:Nat):Int),by rw[bB,Nat.mul_one];exact x,?_⟩;have E:∀b:Bool,ai V Po #[.bool b] h λr z=>r=ae (.i (if b then 1 else 0))/\z=h:=λb=>
  MO.ok (by cases b<;>exact⟨rfl,rfl⟩)
 refine(E _).mono ?_;rintro _ w2 ⟨rfl,rfl⟩;refine⟨_,rfl,?_,rfl⟩;have main:(if av ((u:Int)>=((10^n:Nat):Int))=true then(n:Int)+1 else(n:Int)+0)=(((cg u).length:Nat):Int):=by
  have Z:1<=(cg u).length:=by
   cases F:cg u with
   |nil=>exact absurd F (uC _)
   |cons c l=>simp
  by_cases B:10^n<=u
  .rw [au (aR co)];have U:(cg u).length<=n+1:=zZ co (m8 Q T);have lo:n+1<=(cg u).length:=by
    rcases Nat.lt_or_ge (cg u).length (n+1)with d|d
    .exfalso;have q:=Cf (cg u) (pn u);rw[nR]at q;have:=Nat.pow_le_pow_right (n:=10) co (show(cg u).length<=n by omega);omega
    .exact d
   omega
  .rw [ag (λd=>B (by have:=eT d;omega))];have H:1<=n:=by
    rcases Nat.eq_zero_or_pos n with d|d
    .subst d;rw[Nat.pow_zero]at B;omega
    .exact d
   have U:(cg u).length<=n:=zZ H co;have lo:n<=(cg u).length:=by
    rcases Nat.lt_or_ge (cg u).length n with d|d
    .exfalso;have q:=Cf (cg u) (pn u);rw[nR]at q;have:=Nat.pow_le_pow_right (n:=10) co (show(cg u).length<=n - 1 by omega);omega
    .exact d
   omega
 have Y:(n:Int)<20:=co
 cases A:av ((u:Int)>=((10^n:Nat):Int))with
 |true=>
  rw[A,au rfl]at main;have k:aj .i64 ((n:Int)+1)=(n:Int)+1:=aQ _ co;rw[au rfl,<-main,k]
 |false=>
  rw[A,ag md]at main;have k:aj .i64 ((n:Int)+0)=(n:Int)+0:=aQ _ co;rw[ag md,<-main,k]
def afA:∀d<100,x7[2 *d]? =some (g' (d / 10))/\x7[2 *d+1]? =some (g' (d%10)):=by decide+kernel
def Dg(u nd o n:Nat)(vs:List aa):Prop:=vs.length=24/\∀d,n<=d->d<nd->vs[o+d]? =some (bL (g' (u / 10^(nd - 1 - d)%10)))
def Ey{u nd n i:Nat}(d:n<=nd)(hi:i<n):u / 10^(nd - 1 - (n - 1 - i))%10=u / 10^(nd - n) / 10^i%10:=by rw[Nat.div_div_eq_div_mul,<-Nat.pow_add,show nd - n+i=nd - 1 - (n - 1 - i)by omega]
def Dg.put{u nd o n:Nat}{vs:List aa}(h:Dg u nd o (n+1) vs)(y:o+nd<=24)(x:n+1<=nd){d:Nat}(q:d=u / 10^(nd - 1 - n)%10):Dg u nd o n (vs.set (o+n) (bL (g' d))):=by
 refine⟨by rw[List.length_set];exact h.1,λw j k=>?_⟩;rcases Nat.eq_or_lt_of_le j with e|e
 .subst e;rw[List.getElem?_set_self (by rw[h.1];omega),q]
 .rw [List.getElem?_set_ne co];exact h.2 w e k
section
variable {M:Nat->Prop} {w0 w:J} {D:List En} {a:Sl} {b o:Nat} {vs:List aa} {T:aE}
def Ha(k:a.a=some ((ab b).add o))(H:LH M w0 w [.c b vs T] D){X:Int}{n:Nat}(j:X=(n:Int))(x:n<a.n)(q:o+n<vs.length){v:aa}{K:J->Prop}(h:∀d,LH M w0 d [.c b (vs.set (o+n) v) T] D->K d):
  fx a X λp=>aS w (p.add (a0 X *1)) v K:=by subst j;refine⟨co,co,?_⟩;rw[k];show aS w (((ab b).add o).add (a0 (n:Int) *1)) v K;rw[bB,Nat.mul_one,add_add];exact H.st 0 (o+n) rfl h q
def pair{x n:Nat}{nd c1 c2:Int}{u k:Nat}(h:a.a=some ((ab b).add o))(S:x<100)(L:nd - c1=((n+1:Nat):Int))(N:nd - c2=(n:Int))(Z:n+1<a.n)(j:o+a.n<=24)(d:Dg u a.n o (n+2) vs)(G:x%10=u / 10^(a.n - 1 - (n+1))%10)(I:x / 10=u / 10^(a.n - 1 - n)%10)(H:LH M w0 w [.c b vs T] D){K:J->Prop}(O:∀z y,Dg u a.n o n y->LH M w0 z [.c b y T] D->K z){X:Int}(P:X=((2 *x:Nat):Int)):
  mF w λA=>(0:Int)<=(aj .u32 (X+1))/\∃t:UInt8,x7[a0 (aj .u32 (X+1))]? =some t/\(0:Int)<=X/\∃q:UInt8,x7[a0 X]? =some q/\fx a (aj .i64 (nd - c1)) λp=>aS A (p.add (a0 (aj .i64 (nd - c1)) *1)) (.int .u8 (t.toNat:Int)) λB=>
   fx a (aj .i64 (nd - c2)) λp=>aS B (p.add (a0 (aj .i64 (nd - c2)) *1)) (.int .u8 (q.toNat:Int)) K:=by
 subst P;obtain⟨U,W⟩:=afA x S;have Q:aj .u32 (((2 *x:Nat):Int)+1)=((2 *x+1:Nat):Int):=by rw[IntKind.wrap_u32];omega
 refine H.dr λA C=>?_;rw[Q,L,N,aQ ((n+1:Nat):Int) co,aQ (n:Int) co,bB,bB];refine⟨co,_,W,co,_,U,Ha h C rfl co (by rw[d.1];omega) λB E=>Ha h E rfl co (by rw[List.length_set,d.1];omega) λY F=>O Y _ ?_ F⟩;exact(d.put j (n:=n+1) co G).put j co I
end
def p'{x:Nat}(h:x<4294967296):aj .u32 (x:Int)=(x:Int):=by rw[IntKind.wrap_u32];omega
section
variable {w0 w:J} {a:Sl} {b o u:Nat} {T:aE}
def zo(w0:J)(b o u nd:Nat)(T:aE)(r:bW)(Y:J):Prop:=r=ae (.tuple #[])/\∃d,LH (·=b) w0 Y [.c b d T] []/\Dg u nd o 0 d
def LV{n:Nat}(A:a.a=some ((ab b).add o))(B:o+a.n<=24)(E:n<=1)(F:n<=a.n)(C:u<10^a.n){vs:List aa}(d:Dg u a.n o n vs)(H:LH (·=b) w0 w [.c b vs T] []):
  kZ.zx a (n:Int) ((u / 10^(a.n - n):Nat):Int) w (zo w0 b o u a.n T):=by
 refine aF (λk=>?_) (λk=>?_)
 case' refine_2=>
  have q:n=0:=co
  subst q;exact⟨rfl,vs,H,d⟩
 have:n=1:=co
 subst this;have h:u / 10^(a.n - 1)<10:=by rw[Nat.div_lt_iff_lt_mul (Nat.pow_pos co),<-Nat.pow_succ',show(a.n - 1).succ=a.n by omega];exact C
 generalize D:u / 10^(a.n - 1)=x at *;have e:(Value.int .u8 (aj .u8 (aj .u32 (48+(x:Int)))))=bL (g' x):=by
  have y:aj .u32 (48+(x:Int))=((48+x:Nat):Int):=by rw[IntKind.wrap_u32];omega
  have z:aj .u8 ((48+x:Nat):Int)=((48+x:Nat):Int):=by rw[IntKind.wrap_u8];omega
  rw[y,z,bL,Ez x h]
 rw[e];refine Ha A H (X:=0) (n:=0) rfl co (by rw[d.1];omega) λG j=>⟨rfl,_,j,d.put B co ?_⟩;rw[show a.n - 1 - 0=a.n - 1 by omega,D,Nat.mod_eq_of_lt h]
def LW{n:Nat}(j:a.a=some ((ab b).add o))(q:o+a.n<=24)(K:n<4)(y:n<=a.n)(z:u<10^a.n){vs:List aa}(A:Dg u a.n o n vs)(H:LH (·=b) w0 w [.c b vs T] []):
  kZ.S9 a (n:Int) ((u / 10^(a.n - n):Nat):Int) w (zo w0 b o u a.n T):=by
 refine aF (λE=>?_) (λE=>LV j q co y z A H);obtain⟨m,rfl⟩:∃m,n=m+2:=⟨n - 2,co⟩;have I:u / 10^(a.n - (m+2))<10000:=by rw[Nat.div_lt_iff_lt_mul (Nat.pow_pos co)];refine m8 z ?_;rw[show(10000:Nat)=10^4 from rfl,<-Nat.pow_add];exact Nat.pow_le_pow_right co co
 have d:=Ey (u:=u) y (i:=0) co;have h:=Ey (u:=u) y (i:=1) co;have eq:u / 10^(a.n - (m+2)) / 100=u / 10^(a.n - m):=by rw[Nat.div_div_eq_div_mul,show(100:Nat)=10^2 from rfl,<-Nat.pow_add,show a.n - (m+2)+2=a.n - m by omega]
 generalize L:u / 10^(a.n - (m+2))=x at *;rw[Nat.pow_zero,Nat.div_one]at d;rw[Nat.pow_one]at h;have C:cw (x:Int) 100=((x%100:Nat):Int):=rfl;have D:bQ (x:Int) 100=((x / 100:Nat):Int):=rfl;dsimp only[kZ.qq,ak];rw[C,D,p' co,eq];have G:aj .u32 (((x%100:Nat):Int) *2)=((2 *(x%100):Nat):Int):=by rw[IntKind.wrap_u32];omega
 rw[G];refine pair (k:=0) j (x:=x%100) (n:=m) co co co co q A ?_ ?_ H (λN M F B=>?_) rfl
 .rw [show m+2 - 1 - 0=m+1 by omega]at d;rw[d];omega
 .rw [show m+2 - 1 - 1=m by omega]at h;rw[h];omega
 .rw [show((m+2:Nat):Int) - 2=(m:Int)by omega,aQ _ co];exact LV j q co co z F B
def aaB(d:a.a=some ((ab b).add o))(h:o+a.n<=24)(C:u<10^a.n)(ag:u<2^64):∀(n:Nat),n<=a.n->∀(w:J) (vs:List aa),Dg u a.n o n vs->LH (·=b) w0 w [.c b vs T] []->
  kZ.L0 a ((u / 10^(a.n - n):Nat):Int) (n:Int) w (zo w0 b o u a.n T):=by
 intro n;induction n using Nat.strongRecOn with
 |_ n ih=>
 intro ac w vs M G;have hq:u / 10^(a.n - n)<2^64:=Nat.lt_of_le_of_lt (Nat.div_le_self _ _) ag;have Z:∀P,n<=P->u / 10^(a.n - n)<10^P:=λP hk=>by rw[Nat.div_lt_iff_lt_mul (Nat.pow_pos co)];refine m8 C ?_;rw[<-Nat.pow_add];exact Nat.pow_le_pow_right co co
 have Q:∀i,i<n->u / 10^(a.n - 1 - (n - 1 - i))%10=u / 10^(a.n - n) / 10^i%10:=λi F=>Ey ac F;have step:∀i,i<=n->u / 10^(a.n - n) / 10^i=u / 10^(a.n - (n - i)):=λi F=>by rw[Nat.div_div_eq_div_mul,<-Nat.pow_add,show a.n - n+i=a.n - (n - i)by omega]
 generalize hx:u / 10^(a.n - n)=x at *;refine kZ.bE (aF (λh8=>?_) (λh8=>aF (λh4=>?_) (λh4=>?_)))
 .obtain ⟨m,rfl⟩:∃m,n=m+8:=⟨n - 8,co⟩;have e0:cw (x:Int) 100000000=((x%100000000:Nat):Int):=rfl;have e1:bQ (x:Int) 100000000=((x / 100000000:Nat):Int):=rfl;have K:∀y:Nat,bQ (y:Int) 10000=((y / 10000:Nat):Int):=λ_=>rfl;have L:∀y:Nat,cw (y:Int) 10000=((y%10000:Nat):Int):=λ_=>rfl;have D:∀y:Nat,bQ (y:Int) 100=((y / 100:Nat):Int):=λ_=>rfl;have E:∀y:Nat,cw (y:Int) 100=((y%100:Nat):Int):=λ_=>rfl;have j:∀y:Nat,y<100000->aj .u32 ((y:Int) *2)=((2 *y:Nat):Int):=λy hy=>by rw[IntKind.wrap_u32];omega
  have C:aj .u64 ((x / 100000000:Nat):Int)=((x / 100000000:Nat):Int):=by rw[IntKind.wrap_u64];omega
  dsimp only[kZ.S1,kZ.S2,kZ.S3,kZ.S4,ak];rw[e0,e1,C,p' (x:=x%100000000) co,K,L,p' (x:=x%100000000 / 10000) co,D,E,D,E,p' (x:=x%100000000%10000 / 100) co,p' (x:=x%100000000 / 10000 / 100) co,j _ co,j _ co,j _ co,j _ co];have g:∀i,i<8->u / 10^(a.n - 1 - (m+(7 - i)))%10=x / 10^i%10:=λi F=>by
   have:=Q i co
   rwa[show m+8 - 1 - i=m+(7 - i)by omega]at this
  have q:=g 0 co;have z:=g 1 co;have A:=g 2 co;have B:=g 3 co;have S:=g 4 co;have U:=g 5 co;have W:=g 6 co;have Y:=g 7 co;simp only[Nat.reducePow,Nat.reduceSub,Nat.div_one,Nat.add_zero]at q z A B S U W Y;refine pair (k:=0) d (x:=x%100000000%10000%100) (n:=m+6) co co co co h M (by rw[q];omega) (by rw[z];omega) G (λw1 ah N H=>?_) rfl;refine pair (k:=0) d (x:=x%100000000%10000 / 100) (n:=m+4) co co co co h N (by rw[A];omega) (by rw[B];omega) H (λw2 ai O I=>?_) rfl;refine pair (k:=0) d (x:=x%100000000 / 10000%100) (n:=m+2) co co co co h O (by rw[S];omega) (by rw[U];omega) I (λw3 am ae H3=>?_) rfl;refine pair (k:=0) d (x:=x%100000000 / 10000 / 100) (n:=m) co co co co h ae (by rw[W];omega) (by rw[Y];omega) H3 (λw4 al af H4=>?_) rfl;rw[show((m+8:Nat):Int) - 8=(m:Int)by omega,aQ _ co];have st:=step 8 co;rw[show m+8 - 8=m by omega]at st;simp only[Nat.reducePow]at st;rw[st];exact ih m co co w4 al af H4
 .obtain ⟨m,rfl⟩:∃m,n=m+4:=⟨n - 4,co⟩;have h7:=Z 7 co;simp only[Nat.reducePow]at h7;have K:∀y:Nat,bQ (y:Int) 10000=((y / 10000:Nat):Int):=λ_=>rfl;have L:∀y:Nat,cw (y:Int) 10000=((y%10000:Nat):Int):=λ_=>rfl;have D:∀y:Nat,bQ (y:Int) 100=((y / 100:Nat):Int):=λ_=>rfl;have E:∀y:Nat,cw (y:Int) 100=((y%100:Nat):Int):=λ_=>rfl;have j:∀y:Nat,y<100000->aj .u32 ((y:Int) *2)=((2 *y:Nat):Int):=λy hy=>by rw[IntKind.wrap_u32];omega
  dsimp only[kZ.S6,kZ.S7,kZ.S8,ak];rw[p' (x:=x) co,K,L,p' (x:=x / 10000) co,D,E,p' (x:=x%10000 / 100) co,j _ co,j _ co];have g:∀i,i<4->u / 10^(a.n - 1 - (m+(3 - i)))%10=x / 10^i%10:=λi F=>by
   have:=Q i co
   rwa[show m+4 - 1 - i=m+(3 - i)by omega]at this
  have q:=g 0 co;have z:=g 1 co;have A:=g 2 co;have B:=g 3 co;simp only[Nat.reducePow,Nat.reduceSub,Nat.div_one,Nat.add_zero]at q z A B;refine pair (k:=0) d (x:=x%10000%100) (n:=m+2) co co co co h M (by rw[q];omega) (by rw[z];omega) G (λw1 ah N H=>?_) rfl;refine pair (k:=0) d (x:=x%10000 / 100) (n:=m) co co co co h N (by rw[A];omega) (by rw[B];omega) H (λw2 ai O I=>?_) rfl;rw[show((m+4:Nat):Int) - 4=(m:Int)by omega,aQ _ co];have st:=step 4 co;rw[show m+4 - 4=m by omega]at st;simp only[Nat.reducePow]at st;rw[st];exact LW d h co co C O I
 .have ad:=Z 4 co;simp only[Nat.reducePow]at ad;rw[p' (x:=x) co,<-hx];exact LW d h co ac C M G
end
def JO{w:J}{b o u nd c:Nat}{vs:List aa}{T:aE}(j:w.heap[b]? =some (.cells vs.toArray T (0,0)))(z:vs.length=24)(q:o+nd<=24)(x:u<10^nd)(y:u<2^64):
  ai V Pq #[.slice (some ((ab b).add o)) nd c,.u (u:Int)] w (zo w b o u nd T):=by
 have d:LH (·=b) w w [.c b vs T] []:=LH.th _ _ (by intro e k;rw[b0.1 k];exact⟨j,λD A=>by simpa[En.c,En.ob]using A⟩) (by simp[En.c,En.ob]) ws
 refine @kZ.ok ⟨some ((ab b).add o),nd,c⟩ _ w _ ?_;have:=aaB (a:=⟨some ((ab b).add o),nd,c⟩) (u:=u) (T:=T) rfl q x y nd (br _) w vs ⟨z,λB C h=>absurd (show B<nd from h) co⟩ d;rw[Nat.sub_self,Nat.pow_zero,Nat.div_one]at this;exact this
def KJ{u nd o:Nat}{vs:List aa}(h:Dg u nd o 0 vs)(j:nd=(cg u).length)(q:o+nd<=24):(vs.drop o).take nd=(cg u).map bL:=by
 refine List.ext_getElem? λk=>?_;rw[List.getElem?_take];split
 .rename_i d;rw[List.getElem?_drop,h.2 k co d,aaa u,List.map_map,ku,List.getElem?_range co,j];rfl
 .rw [ku,List.getElem?_eq_none co];rfl
def aab{n:Nat}(d:10<=n)(h:n<100):cg n=[g' (n / 10),g' (n%10)]:=by rw[r6 co,nu co];rfl
def afy:∀n<10,acI.extract n (n+1)=ba [g' n]:=by decide+kernel
def afz:∀n<100,10<=n->x7.extract (n *2) (n *2+2)=ba [g' (n / 10),g' (n%10)]:=by decide+kernel
def Sz(m:Nat)(x:m<100)(w:J):ai V Pu #[.i (m:Int)] w λr q=>r=ae (.string (ba (cg m)))/\q=w:=by
 refine MS.ok (aF (λk=>?_) (λk=>?_))
 .rw [bc _ co];refine⟨co,?_,co,by rw[bB];omega,by rw[bB,bB,nu co];exact congrArg (λd=>Ending.returned (.string d)) (afy m co),rfl⟩;show((m+1:Nat):Int)<=((36:Nat):Int);omega
 .have h:aj .i64 ((m:Int) *2)=((m *2:Nat):Int):=by rw[aQ _ co];omega
  have j:aj .i64 (((m *2:Nat):Int)+2)=((m *2+2:Nat):Int):=by rw[aQ _ co];omega
  rw[h,j];refine⟨co,?_,co,by rw[bB];omega,by rw[bB,bB,aab co co];exact congrArg (λd=>Ending.returned (.string d)) (afz m co co),rfl⟩;show((m *2+2:Nat):Int)<=((200:Nat):Int);omega
def Wz{n:Int}(h:aY n):(n<0->aj .u64 (0 - aj .u64 n)=(n.natAbs:Int))/\(0<=n->aj .u64 n=(n.natAbs:Int))/\n.natAbs<2^64:=by
 refine⟨λd=>?_,λd=>?_,?_⟩
 .rw [IntKind.wrap_u64,IntKind.wrap_u64];omega
 .rw [IntKind.wrap_u64];omega
 .omega
def Ev{u:Nat}(h:u<2^64):1<=(cg u).length/\(cg u).length<=20/\u<10^(cg u).length:=by
 refine⟨?_,zZ co co,?_⟩
 .cases d:cg u with
  |nil=>exact absurd d (uC _)
  |cons c l=>simp
 .have:=Cf (cg u) (pn u)
  rwa[nR]at this
abbrev qd:List aa:=List.replicate 24 (.int .u8 0)
def G7{w:J}{b o n c:Nat}{vs:List aa}{T:aE}{U:List UInt8}(j:w.heap[b]? =some (.cells vs.toArray T (0,0)))(q:U.length=n)(k:n<=c)(h:(vs.drop o).take n=U.map bL):Bytes w ⟨some ((ab b).add o),n,c⟩ U:=by
 refine By (by simp[q]) k (λh=>by cases h) (λi v d=>⟨(ab b).add o,rfl,?_⟩);rw[<-h,List.getElem?_take]at d;split at d
 .rw [List.getElem?_drop]at d;rw[add_add];exact cellAt (p:=ab b) j rfl (by simpa using d)
 .cases d
def YF{n:Int}(h:aY n){w:J}(W:sW.P w):ai V Pk #[.i n,.i 10] w λr d=>r=ae (.string (ba (bF n)))/\af w d:=by
 obtain⟨Z,u2,F⟩:=Wz h;have gk:¬(0<=n/\n<100)->x3.S0 n w λr d=>r=ae (.string (ba (bF n)))/\af w d:=by
  intro ac;obtain⟨d1,d2,O⟩:=Ev F;have N:LH F0 w w [] [sW]:=bK _ (by intro e U;rw[b0.1 U];exact W)
  have K:∀j,LH F0 w j [.c w.heap.size qd p0] [sW]->x3.S1 n (ab w.heap.size) (n.natAbs:Int) j λr d=>r=ae (.string (ba (bF n)))/\af w d:=by
   intro j k;refine(JU co F j (k.getD 0)).mono ?_;rintro _ w2 ⟨rfl,rfl⟩;have Q:aj .i64 (1+(((cg n.natAbs).length:Nat):Int))=(((cg n.natAbs).length+1:Nat):Int):=by rw[aQ _ co];omega
   refine⟨_,rfl,?_⟩;dsimp only;rw[Q,bB];have S:(if 24=a0 1 then ab w.heap.size else(ab w.heap.size).add (a0 1 *1))=(ab w.heap.size).add 1:=by rw[ag md];rfl
   rw[S];have T:(cg n.natAbs).length+1 - a0 1=(cg n.natAbs).length:=by show _ - 1=_;omega
   rw[T];refine⟨co,co,co,co,(JO (vs:=qd) (o:=1) (nd:=(cg n.natAbs).length) (k.get 0) rfl co O F).mono ?_⟩;rintro _ G ⟨rfl,q,I,C⟩;have A:LH F0 w G [.c w.heap.size q p0] [sW]:=k.g4 0 (.c w.heap.size q p0) rfl (I.fr.mono λah _ Y=>by simp[En.c,En.ob,Y]) (I.get 0) λb y=>.inl y;have D:=KJ C rfl co;refine⟨rfl,aF (λE=>?_) (λE=>?_)⟩
   .have x:bF n=45::cg n.natAbs:=by unfold bF;rw[au E]
    refine⟨co,co,?_⟩;have st:aS G ((ab w.heap.size).add 0) (.int .u8 45) λz=>(0:Int)<=(((cg n.natAbs).length+1:Nat):Int)/\(((cg n.natAbs).length+1:Nat):Int)<=((24:Nat):Int)/\∃t:ByteArray,gx V (Go.convert dB dv (.slice (some (if 24=0 then ab w.heap.size else(ab w.heap.size).add (0 *1))) ((cg n.natAbs).length+1 - 0) (24 - 0))) z=.ok (.string t) z/\(λr d=>r=Ending.returned (.string (ba (bF n)))/\af w d) (ae (.string t)) z:=by
     refine A.st 0 0 rfl (λz H=>⟨co,co,ba (bF n),?_,rfl,H.fr⟩) (by rw[C.1];omega);have y:Bytes z ⟨some ((ab w.heap.size).add 0),(cg n.natAbs).length+1,24⟩ (bF n):=G7 (H.get 0) (by rw[x];rfl) co (by
      rw[x,List.drop_zero];have B:=C.1;cases q with
      |nil=>simp at B
      |cons v q=>
       rw[List.set_cons_zero,List.take_succ_cons,List.map_cons];rw[show List.drop 1 (v::q)=q from rfl]at D;rw[D];rfl)
     exact kR y
    exact st
   .have x:bF n=cg n.natAbs:=by unfold bF;rw[ag E]
    refine⟨co,co,co,co,ba (bF n),?_,rfl,A.fr⟩;have y:Bytes G ⟨some ((ab w.heap.size).add 1),(cg n.natAbs).length,24 - a0 1⟩ (bF n):=G7 (A.get 0) (by rw[x]) (by show _<=24 - 1;omega) (by rw[x];exact D);exact kR y
  have e:(#[.int .u8 0,.int .u8 0,.int .u8 0,.int .u8 0,.int .u8 0,.int .u8 0,.int .u8 0,.int .u8 0,.int .u8 0,.int .u8 0,.int .u8 0,.int .u8 0,.int .u8 0,.int .u8 0,.int .u8 0,.int .u8 0,.int .u8 0,.int .u8 0,.int .u8 0,.int .u8 0,.int .u8 0,.int .u8 0,.int .u8 0,.int .u8 0]:Array aa)=qd.toArray:=rfl;dsimp only[x3.S0,ak];rw[e];refine N.nw λj ad k=>?_;refine aF (λM=>?_) (λM=>?_)
  .rw [Z M];exact K j k
  .rw [u2 co];exact K j k
 refine x3.ok (aM rfl (aF (λL=>aF (λB=>?_) (λB=>gk co)) (λL=>gk co)));obtain⟨m,rfl⟩:=Int.eq_ofNat_of_zero_le L;refine(Sz m co w).mono ?_;rintro _ _ ⟨rfl,rfl⟩;refine⟨_,rfl,?_,Fr.refl _ _⟩;unfold bF;rw[ag co];rfl
def DQ{n:Int}(h:aY n){w:J}(j:sW.P w):ai V QH #[.i n] w λr d=>r=ae (.string (ba (bF n)))/\af w d:=by
 refine VN.ok ((show ai V Pl #[.i n] w λr d=>r=ae (.string (ba (bF n)))/\af w d from MN.ok ((YF h j).mono ?_)).mono ?_)
 .rintro _ k ⟨rfl,f⟩;exact⟨_,rfl,rfl,f⟩
 .rintro _ k ⟨rfl,f⟩;exact⟨_,rfl,rfl,f⟩
def Fp:∃ms,Tryz.prog.underlying ln=some (.interface ms):=by
 have d:(match Tryz.prog.underlying ln with |some (.interface _)=>true|_=>false)=true:=by kernel_rfl
 split at d
 .rename_i ms h;exact⟨ms,h⟩
 .cases d
def LI{t:aE}{x y:aa}{b:Bool}{w:J}(h:∀d,gx V (Op.equalIn (d+1) t x y) w=.ok b w):gx V (Op.equal t x y) w=.ok b w:=h (Op.maxDepth - 1)
def LG(w:J):gx V (Op.equal ln .nilIface .nilIface) w=.ok true w:=by obtain⟨ms,d⟩:=Fp;refine LI λh=>?_;rw[Op.equalIn];simp[run_underlying d]
def LF(t:Nat)(x:aa)(w:J):gx V (Op.equal ln (.iface t x) .nilIface) w=.ok false w:=by obtain⟨ms,d⟩:=Fp;refine LI λh=>?_;rw[Op.equalIn];simp[run_underlying d]
def abC(k:Nat)(w:J):gx V (kY .eql ln (.tmp k) (.const .nilIface) .nilIface .nilIface) w=.ok (.bool true) w:=by simp[kY,eqGuard,binOp,LG]
def abB(k t:Nat)(x:aa)(w:J):gx V (kY .eql ln (.tmp k) (.const .nilIface) (.iface t x) .nilIface) w=.ok (.bool false) w:=by simp[kY,eqGuard,binOp,LF]
def ME(k:Nat)(w:J):gx V (kY .neq ln (.tmp k) (.const .nilIface) .nilIface .nilIface) w=.ok (.bool false) w:=by simp[kY,eqGuard,binOp,LG]
def MD(k t:Nat)(x:aa)(w:J):gx V (kY .neq ln (.tmp k) (.const .nilIface) (.iface t x) .nilIface) w=.ok (.bool true) w:=by simp[kY,eqGuard,binOp,LF]
abbrev lM(k:Int):aa:=.iface we (.i k)
def aay:(∃i,Tryz.prog.info? we=some i/\i.comparable=true)/\∃h,Tryz.prog.underlying we=some (.int h):=by
 constructor
 .have d:(match Tryz.prog.info? we with |some i=>i.comparable|none=>false)=true:=by kernel_rfl
  split at d
  .rename_i i j;exact⟨i,j,d⟩
  .cases d
 .have d:(match Tryz.prog.underlying we with |some (.int _)=>true|_=>false)=true:=by kernel_rfl
  split at d
  .rename_i h k;exact⟨h,k⟩
  .cases d
def LD(a b:Int)(w:J):gx V (Op.equal ln (lM a) (lM b)) w=.ok (a==b) w:=by
 obtain⟨ms,q⟩:=Fp;obtain⟨⟨inf,j,h⟩,x,k⟩:=aay;have inner:∀d,gx V (Op.equalIn (d+1) we (.i a) (.i b)) w=.ok (a==b) w:=λd=>by rw[Op.equalIn];simp[run_underlying k]
 have outer:∀d,gx V (Op.equalIn (d+1+1) ln (lM a) (lM b)) w=.ok (a==b) w:=λd=>by rw[Op.equalIn];simp[run_underlying q,typeInfo,j,h,inner]
 exact outer (Op.maxDepth - 2)
def MF(i j:Nat)(a b:Int)(w:J):gx V (kY .eql ln (.tmp i) (.tmp j) (lM a) (lM b)) w=.ok (.bool (a==b)) w:=by simp[kY,eqGuard,binOp,LD]
def abD(i j:Nat)(a b:Int)(w:J):gx V (kY .neq ln (.tmp i) (.tmp j) (lM a) (lM b)) w=.ok (.bool (!(a==b))) w:=by simp[kY,eqGuard,binOp,LD]
def aaV{M:Nat->Prop}(w:J)(p:Addr)(n:Nat)(h:M p.block):Fr M w (w.freeze p n):=by
 unfold World.freeze;split
 .exact Fr.refl _ _
 .refine ⟨rfl,rfl,rfl,ws,λk j d=>?_⟩;simp only[Array.getElem?_modify];rw[ag];rintro rfl;exact d h
def Js{s:ByteArray}(h:s.size=0):s=bn #[]:=ByteArray.ext (Array.eq_empty_of_size_eq_zero h)
def UE(s:ByteArray)(Y:s.size<=1000000000)(w:J):ai V Pv #[.string s] w λr Q=>r=ae (.string s)/\af w Q:=by
 have N:(bl s).length=s.size:=rfl;refine MT.ok (aP (λh=>?_) (λh=>?_))
 .rw [Js (s:=s) co];exact⟨rfl,Fr.refl _ _⟩
 .obtain ⟨d,z,O,A⟩:=NR jz w s.size co;have I:s.size≠0:=co
  rcases O.cases with⟨C,_⟩|⟨g,cur,j,q,S,T,D,U⟩
  .cases C
  .have G:w.heap.size=g:=by injection j with j;injection j
   subst G;have W:cur.size=s.size:=by simpa using D
   have k:=Lib.run_copy_row_string (P:=V) d dB dv cb cJ w.heap.size 0 s.size s.size s cur cJ jz.ht (by kernel_rfl) q (br _) co;have F:(cur.toList.take 0++Lib.byteCells s.data.toList++cur.toList.drop (0+s.size)).toArray=((bl s).map bL).toArray:=by rw[List.take_zero,List.nil_append,c9 (by rw[Array.length_toList];omega),dy];rfl
   rw[F]at k;have x:(d.setRow w.heap.size ((bl s).map bL).toArray).heap[w.heap.size]? =some (.cells ((bl s).map bL).toArray cJ (0,0)):=setRow_heap _ _ cur _ cJ (0,0) q;have K:bl s≠[]:=λe=>I (by rw[<-N,e];rfl);have E:=Lib.run_unsafeString_row (P:=V) (d.setRow w.heap.size ((bl s).map bL).toArray) agO cb dv cJ (by kernel_rfl) (by kernel_rfl) w.heap.size (bl s).length (by unfold World.shape?;rw[x];simp) (bl s) K (br _) co (λZ y L=>cellAt (p:=ab w.heap.size) x rfl (by show _=some (bL y);simp[L]));refine⟨⟨some ⟨w.heap.size,0,none⟩,s.size,s.size⟩,d,z,(s.size:Int),_,k,co,?_,qV ⟨s,_,E,?_⟩⟩
   .show (0:Int)<(s.size:Int);omega
   .have B:Fr (·=w.heap.size) d (d.setRow w.heap.size ((bl s).map bL).toArray):=⟨rfl,rfl,rfl,ws,λaa _ H=>setRow_other _ _ _ _ (λe=>H e)⟩;exact⟨rfl,A.Wv (B.trans (aaV (M:=(·=w.heap.size)) _ _ _ rfl) λ_ _ h=>h) λy e=>co⟩
abbrev VX(t:Nat)(x:aa):En:=.rd ⟨some (ab 4),1,1⟩ [.iface t x]
abbrev Uj(t:Nat)(x:aa):En:=.rd ⟨some (ab 5),1,1⟩ [.iface t x]
def Bz{w:J}{b:Nat}{v:aa}(h:(En.rd ⟨some (ab b),1,1⟩ [v]).P w):w.cell? (Addr.mk b 0 none)=some v:=by obtain⟨p,j,d⟩:=(show Rd w _ _ from h).2.2.2 0 v rfl;cases j;simpa[Addr.add]using d
def lA(w:J):Prop:=sW.P w/\(∃t d,(VX t d).P w)/\∃t d,(Uj t d).P w
def fU:En:=⟨[3,4,5],lA,λh z k y=>(by
  obtain⟨q,⟨t,A,w⟩,u,B,x⟩:=y;exact⟨En.st _ h z (λb d j=>k b (by simp[En.rd,az,vn]at d;simp[d]) j) q,⟨t,A,En.st _ h z (λb d j=>k b (by simp[En.rd,az]at d;simp[d]) j) w⟩,u,B,En.st _ h z (λb d j=>k b (by simp[En.rd,az]at d;simp[d]) j) x⟩),λh y b d=>(by
  obtain⟨q,⟨t,A,w⟩,u,B,x⟩:=y;simp only[aq,aL,aO]at d;rcases d with rfl|rfl|rfl
  .exact En.lt _ h q _ (by simp[En.rd,az,vn])
  .exact En.lt _ h w _ (by simp[En.rd,az])
  .exact En.lt _ h x _ (by simp[En.rd,az])),md⟩
def lA.bz{w Y:J}(h:lA w)(f:af w Y):lA Y:=fU.st w Y (λb _ d=>f.cB b d id) h
def afn{s:ByteArray}(B:s.size<=1000000000){fn:ByteArray}{k:Int}(F:k=1\/k=2){w:J}(j:lA w):ai V QK #[.string fn,.string s,.i 0,.i 0,lM k] w λr q=>(∃t y,r=ae (.iface t y))/\af w q:=by
 obtain⟨K,⟨t,y,D⟩,u,C,E⟩:=j;have A:LH F0 w w [] [VX t y,Uj u C]:=bK _ (by
  intro e j;rcases aq.1 j with rfl|j
  .exact D
  .rw [b0.1 j];exact E)
 have fM:ai V QJ #[.string fn,.string s] w λr q=>(∃p,r=ae (.pointer (some p)))/\af w q:=by refine VP.ok (A.dr λx d=>.inl ⟨t,y,Bz (d.getD 0),d.call (UE s B x) ?_⟩);rintro _ H rfl h;exact⟨_,rfl,Bz (h.getD 0),h.k7 λI _ z _=>⟨⟨_,rfl⟩,z.fr⟩⟩
 have G:ai V QI #[.string fn,.string s] w λr q=>(∃p,r=ae (.pointer (some p)))/\af w q:=by refine VO.ok (A.dr λx d=>.inl ⟨u,C,Bz (d.getD 1),d.call (UE s B x) ?_⟩);rintro _ H rfl h;exact⟨_,rfl,Bz (h.getD 1),h.k7 λI _ z _=>⟨⟨_,rfl⟩,z.fr⟩⟩
 refine VQ.ok ⟨k==2,MF 11 13 k 2 w,?_⟩;rcases F with rfl|rfl
 .refine aN rfl ⟨true,MF 11 20 1 1 w,aM rfl (G.mono ?_)⟩;rintro _ x ⟨⟨p,rfl⟩,f⟩;exact⟨_,rfl,⟨_,_,rfl⟩,f⟩
 .refine aM rfl (fM.mono ?_);rintro _ x ⟨⟨p,rfl⟩,f⟩;exact⟨_,rfl,⟨_,_,rfl⟩,f⟩
def um{s:ByteArray}{l:List UInt8}(h:bl s=l)(i:Nat):s[i]? =l[i]?:=by subst h;unfold bl;rw[Array.getElem?_toList];rfl
def sv{c:UInt8}(h:hc c=true):48<=c.toNat/\c.toNat<=57:=by
 unfold hc at h
 grind
def M0{c:UInt8}(h:hc c=false):c.toNat<48\/57<c.toNat:=by
 unfold hc at h
 grind
def agY(l:List UInt8):∀a,a<=eY a l:=by
 induction l with
 |nil=>intro a;exact br _
 |cons c l d=>
  intro a;have:=d (10 *a+(c.toNat - 48));show a<=eY (10 *a+(c.toNat - 48)) l;omega
def agZ(a:Nat)(l r:List UInt8):eY a (l++r)=eY (eY a l) r:=List.foldl_append ..
def Ij{l:List UInt8}{i:Nat}{c:UInt8}(h:l[i]? =some c):l.take (i+1)=l.take i++[c]:=by rw[dV,h];rfl
def Dv{l:List UInt8}{i:Nat}{c:UInt8}(h:l[i]? =some c)(j:∀d∈l.take i,hc d=true)(k:hc c=true):∀d∈l.take (i+1),hc d=true:=by
 rw[Ij h]
 grind
def pk{m:Int}(h:m<0):bF m=45::cg m.natAbs:=by unfold bF;grind
def uB{m:Int}(h:¬m<0):bF m=cg m.natAbs:=by unfold bF;grind
def IZ(v:aa):Prop:=v=.nilIface\/∃d,(d=1\/d=2)/\v=lM d
abbrev y'(a b:aa):bW:=ae (.tuple #[a,b])
def rN(ds:List UInt8)(r:bW):Prop:=∃(n:Nat) (v:aa),r=y' (.u (n:Int)) v/\n<18446744073709551616/\IZ v/\(ds≠[]->(∀c∈ds,hc c=true)->eY 0 ds<18446744073709551616->n=eY 0 ds/\v=.nilIface)
def DY(c:UInt8)(w:J):ai V Pr #[.int .u8 (c.toNat:Int)] w λr j=>r=ae (.int .u8 ((c.toNat|||32:Nat):Int))/\j=w:=by
 have h:∀d:Fin 256,n8 .u8 (d.val:Int) 32=((d.val|||32:Nat):Int):=by decide+kernel
 refine MQ.ok ⟨?_,rfl⟩;rw[<-h ⟨c.toNat,c.toNat_lt⟩]
def WC{c:UInt8}(h:48<=c.toNat):aj .u8 ((c.toNat:Int) - 48)=((c.toNat - 48:Nat):Int):=by have:=c.toNat_lt;rw[IntKind.wrap_u8];omega
def aem(D:ByteArray){t:Sl}{ds:List UInt8}{w0:J}(hl:ds.length<=1000000000):∀(k i:Nat) (w:J),i+k=ds.length->Bytes w t ds->af w0 w->(∀c∈ds.take i,hc c=true)->eY 0 (ds.take i)<18446744073709551616->
  oy.L4 10 false D 1844674407370955162 18446744073709551615 false (eY 0 (ds.take i):Nat) t (ds.length:Int) (i:Int) w λr y=>rN ds r/\af w0 y:=by
 intro k;induction k with
 |zero=>
  intro i w U z x L O;refine oy.rL (aN (aW co) (aN rfl ⟨⟨_,_,rfl,O,.inl rfl,λ_ _ _=>?_⟩,x⟩))
  grind
 |succ k Z=>
  intro i w U z x L O;have M:=Bytes.len z;have W:i<ds.length:=co
  have B:ds[i]? =some ds[i]:=a' W;generalize ds[i]=c at B;have aa:c∈ds:=aD B;have bad:∀(n:Nat) (C:Int) (h:J),n<18446744073709551616->(C=1\/C=2)->hc c=false->af w0 h->rN ds (y' (.u (n:Int)) (lM C))/\af w0 h:=λn C h M Y j A=>
   ⟨⟨n,_,rfl,M,.inr ⟨C,Y,rfl⟩,λ_ q _=>by grind⟩,A⟩
  have s7:∀(d:Int) (h:J),10<=d->hc c=false->af w0 h->oy.S7 10 false D 1844674407370955162 18446744073709551615 false (eY 0 (ds.take i):Nat) d t (ds.length:Int) (i:Int) h λr y=>rN ds r/\af w0 y:=by intro d h q j A;refine aM (aR ?_) (bad 0 2 h co (.inr rfl) j A);show d>=aj .u8 10;rw[IntKind.wrap_u8];omega
  have P:hc c=false->oy.tW 10 false D 1844674407370955162 18446744073709551615 false (eY 0 (ds.take i):Nat) (c.toNat:Int) t (ds.length:Int) (i:Int) w λr y=>rN ds r/\af w0 y:=by intro j;refine(DY c w).mono ?_;rintro _ h ⟨rfl,E⟩;rw[E];refine⟨_,rfl,aF (λH=>(DY c w).mono ?_) (λ_=>bad 0 2 w co (.inr rfl) j x)⟩;rintro _ w2 ⟨rfl,F⟩;rw[F];refine⟨_,rfl,aF (λK=>(DY c w).mono ?_) (λ_=>bad 0 2 w co (.inr rfl) j x)⟩;rintro _ w3 ⟨rfl,G⟩;rw[G];refine⟨_,rfl,s7 _ w ?_ j x⟩;rw[IntKind.wrap_u8,IntKind.wrap_u8];omega
  refine oy.rL (aM (aR co) ⟨co,co,Bytes.cell z B co λp hp j=>⟨_,j,?_⟩⟩);have Q:oy.S6 10 false D 1844674407370955162 18446744073709551615 false (eY 0 (ds.take i):Nat) (c.toNat:Int) t (ds.length:Int) (i:Int) w λr y=>rN ds r/\af w0 y:=by
   cases q:hc c with
   |false=>
    refine aF (λH=>aF (λK=>absurd q ?_) (λ_=>P q)) (λ_=>P q);have:=M0 q;omega
   |true=>
    obtain⟨H,K⟩:=sv q;refine aM (aR co) (aM (aR co) ?_);rw[WC H];refine aN (aW ?_) ?_
    .show ¬(_>=aj .u8 10);rw[IntKind.wrap_u8];omega
    have S:eY 0 (ds.take (i+1))=10 *eY 0 (ds.take i)+(c.toNat - 48):=by rw[Ij B,IB]
    have ge:eY 0 (ds.take (i+1))<=eY 0 ds:=by
     conv=>rhs;rw[<-List.take_append_drop (i+1) ds,agZ]
     exact agY _ _
    generalize hN:eY 0 (ds.take i)=N at *;have gk:∀h,af w0 h->18446744073709551616<=eY 0 ds->rN ds (y' (.u 18446744073709551615) (lM 1))/\af w0 h:=λh A z=>⟨⟨18446744073709551615,_,rfl,co,.inr ⟨1,.inl rfl,rfl⟩,λ_ _ I=>co⟩,A⟩;refine aF (λT=>gk w x co) (λT=>?_);have E:aj .u64 ((N:Int) *aj .u64 10)=((10 *N:Nat):Int):=by rw[IntWalk.u64_in 10 co,IntWalk.u64_in _ co];omega
    have F:aj .u64 ((c.toNat - 48:Nat):Int)=((c.toNat - 48:Nat):Int):=IntWalk.u64_in _ co;show oy.S9 _ _ _ _ _ _ _ (aj .u64 (_+aj .u64 _)) _ _ _ _ _;rw[E,F];by_cases h4:10 *N+(c.toNat - 48)<18446744073709551616
    .have G:aj .u64 (((10 *N:Nat):Int)+((c.toNat - 48:Nat):Int))=((10 *N+(c.toNat - 48):Nat):Int):=by rw[IntWalk.u64_in _ co];omega
     rw[G];refine aN (aW co) (aN (aW co) ?_);show oy.L4 _ _ _ _ _ _ _ _ _ (aj .i64 _) _ _;rw[bc _ co,<-S];exact Z (i+1) w co z x (Dv B L q) co
    .refine aM (aR ?_) (gk w x co);rw[IntKind.wrap_u64];omega
  refine aP (λI=>aN rfl Q) (λI=>Q)
def YT(s:ByteArray)(y:s.size<=1000000000)(w:J):ai V Pn #[.string s,.i 10,.i 0] w λr x=>rN (bl s) r/\af w x:=by
 have z:(bl s).length=s.size:=rfl;refine oy.ok (jH (λd=>?_) (λd=>?_))
 .subst d;exact⟨⟨0,_,rfl,co,.inr ⟨2,.inr rfl,rfl⟩,λd=>absurd rfl d⟩,Fr.refl _ _⟩
 .refine aM rfl (aM rfl (aM rfl (aM rfl ⟨md,?_⟩)));obtain⟨t,j,k,h,q,_⟩:=yX w s;refine⟨t,j,k,?_⟩;rw[Bytes.len h];exact aem s co (bl s).length 0 j co h q ws (by simp[eY])
def qf(l:List UInt8)(r:bW):Prop:=∃(n:Int) (v:aa),r=y' (.i n) v/\aY n/\IZ v/\∀m,aY m->l=bF m->n=m/\v=.nilIface
def xo{m:Int}(h:¬m<0)(c:UInt8)(l:List UInt8)(e:c::l=bF m):hc c=true:=pn m.natAbs c (by rw[uB h]at e;grind)
def EV(s:ByteArray){c:UInt8}{l:List UInt8}(h:bl s=c::l):s.extract (a0 1) s.size=ba l:=by rw[uk,show s.size=(bl s).length from rfl,List.take_length,h];rfl
def YS(s:ByteArray)(M:s.size<=1000000000)(w:J):ai V Pm #[.string s,.i 10,.i 0] w λr x=>qf (bl s) r/\af w x:=by
 have S:(bl s).length=s.size:=rfl;refine Ar.ok (jH (λA=>?_) (λA=>?_))
 .subst A;exact⟨⟨0,_,rfl,⟨co,co⟩,.inr ⟨2,.inr rfl,rfl⟩,λm _ e=>absurd e.symm (KF m)⟩,Fr.refl _ _⟩
 have Q:bl s≠[]:=λe=>A (Js (by grind));obtain⟨c,l,q⟩:∃c l,bl s=c::l:=by
  cases O:bl s with
  |nil=>grind
  |cons c l=>grind
 have H:s[a0 0]? =some c:=um q 0;have z:∀(neg:Bool) (t:ByteArray),t.size<=1000000000->(∀m,aY m->bl s=bF m->neg=av (m<0)/\bl t=cg m.natAbs)->Ar.S1 t 10 0 neg w λr x=>qf (bl s) r/\af w x:=by
  intro neg t y d;refine(YT t y w).mono ?_;rintro _ N ⟨⟨n,v,rfl,P,F,L⟩,f⟩;have D:∀m,aY m->bl s=bF m->n=m.natAbs/\v=.nilIface:=λm h e=>by have j:=(d m h e).2;have k:=L (by rw[j];exact uC _) (by rw[j];exact pn _) (by rw[j,nR];omega);rw[j,nR]at k;exact k
  have C:(v=.nilIface\/v=lM 1)->Ar.S2 0 neg (n:Int) N λr x=>qf (bl s) r/\af w x:=by
   intro F;refine aM rfl ⟨md,?_⟩;have G:aj .u64 (1 *2^(min (a0 (aj .u64 (aj .i64 (64 - 1)))) (IntKind.bits .u64)))=9223372036854775808:=md
   rw[G];refine eb (λB=>?_) (λB=>?_)
   .subst B;refine aF (λj=>⟨⟨_,_,rfl,md,.inr ⟨1,.inl rfl,rfl⟩,λm h e=>?_⟩,f⟩) (λj=>aN rfl (aN rfl ⟨⟨_,_,rfl,?_,.inl rfl,λm h e=>?_⟩,f⟩))
    .grind
    .rw [aQ _ co];omega
    .have k:=(d m h e).1;have I:=D m h e;have:¬m<0:=iy k.symm;rw[aQ _ co]
     grind
   .subst B;refine aM rfl (aF (λj=>⟨⟨_,_,rfl,md,.inr ⟨1,.inl rfl,rfl⟩,λm h e=>?_⟩,f⟩) (λj=>aM rfl ⟨⟨_,_,rfl,?_,.inl rfl,λm h e=>?_⟩,f⟩))
    .grind
    .rw [IntKind.wrap_i64,IntKind.wrap_i64];omega
    .have k:=eT (d m h e).1.symm;have I:=D m h e;rw[IntKind.wrap_i64,IntKind.wrap_i64]
     grind
  rcases F with rfl|⟨T,K,rfl⟩
  .exact ⟨_,_,rfl,false,ME _ _,aN rfl (C (.inl rfl))⟩
  .refine ⟨_,_,rfl,true,MD _ _ _ _,aM rfl ⟨_,abD _ _ _ _ _,?_⟩⟩;rcases K with rfl|rfl
   .exact aN rfl (C (.inr rfl))
   .exact aM rfl ⟨⟨0,_,rfl,md,.inr ⟨2,.inr rfl,rfl⟩,λm h e=>by grind⟩,f⟩
 have E:(1:Int)<=(s.size:Int):=by grind
 have y:(ba l).size<=1000000000:=by rw[bU];grind
 refine⟨co,c,H,aP (λj=>⟨co,E,?_⟩) (λj=>aP (λk=>⟨co,E,?_⟩) (λk=>?_))⟩
 .rw [EV s q];refine z false (ba l) y λm h e=>?_;exfalso;rw[q]at e;by_cases d:m<0
  .rw [pk d]at e;injection e with e _
   subst e
   grind
  .have:=sv (xo d c l e);omega
 .rw [EV s q];refine z true (ba l) y λm h e=>?_;rw[q]at e;by_cases d:m<0
  .rw [pk d]at e;injection e with _ e
   exact⟨(aR d).symm,e⟩
  .have:=sv (xo d c l e);omega
 .refine z false s M λm h e=>?_;rw[q]at e;by_cases d:m<0
  .rw [pk d]at e;injection e with e _
   subst e
   grind
  .exact ⟨(aW d).symm,by rw[q,e,uB d]⟩
def X6(I:ByteArray){l:List UInt8}(M:bl I=l)(Q:l≠[]){t:Sl}{ds:List UInt8}(hl:ds.length<=18)(E:∀m,aY m->l=bF m->ds=cg m.natAbs){w0:J}:∀(k i:Nat) (w:J),i+k=ds.length->Bytes w t ds->af w0 w->(∀c∈ds.take i,hc c=true)->
  pA.L3 I (eY 0 (ds.take i):Nat) t (ds.length:Int) (i:Int) w λr W=>qf l r/\af w0 W:=by
 obtain⟨q,A,rfl⟩:∃q A,l=q::A:=by
  cases l with
  |nil=>exact absurd rfl Q
  |cons q A=>exact⟨q,A,rfl⟩
 have lt:∀i,(∀c∈ds.take i,hc c=true)->eY 0 (ds.take i)<1000000000000000000:=λi h=>by
  have d:=Cf _ h;have G:(ds.take i).length<=18:=by rw[List.length_take];omega
  have Y:10^(ds.take i).length<=10^18:=Nat.pow_le_pow_right co G;omega
 intro k;induction k with
 |zero=>
  intro i w j B z h;have S:ds.take i=ds:=eO co;have D:=lt i h;rw[S]at D ⊢;refine pA.wI (aN (aW co) ⟨co,q,um M 0,aP (λF=>⟨⟨_,_,rfl,?_,.inl rfl,λm j e=>⟨?_,rfl⟩⟩,z⟩) (λF=>⟨⟨_,_,rfl,⟨co,co⟩,.inl rfl,λm j e=>⟨?_,rfl⟩⟩,z⟩)⟩)
  .rw [aQ _ co];exact⟨co,co⟩
  .have d:=E m j e;rw[d,nR]at D ⊢;have:m<0:=by
    by_cases C:m<0
    .exact C
    .have:=sv (xo C q A e);omega
   have P:(m.natAbs:Int)=-m:=Int.ofNat_natAbs_of_nonpos co;rw[aQ _ co];omega
  .have d:=E m j e;rw[d,nR]at D ⊢;have:¬m<0:=λC=>by
    rw[pk C]at e;injection e with e _
    subst e;exact F rfl
   have P:(m.natAbs:Int)=m:=Int.natAbs_of_nonneg co;omega
 |succ k U=>
  intro i w j B z h;have hn:=Bytes.len B;have O:i<ds.length:=co
  have y:ds[i]? =some ds[i]:=a' O;generalize ds[i]=c at y;have H:c∈ds:=aD y;have Z:=c.toNat_lt;have D:=lt i h;refine pA.wI (aM (aR co) ⟨co,co,Bytes.cell B y (by rw[bB]) λp hp N=>⟨_,N,?_⟩⟩);cases x:hc c with
  |false=>
   refine aM (aR ?_) ⟨⟨0,_,rfl,md,.inr ⟨2,.inr rfl,rfl⟩,λm j e=>?_⟩,z⟩
   .have:=M0 x;rw[IntKind.wrap_u8];omega
   .have d:=E m j e;rw[d]at H;rw[pn _ c H]at x;cases x
  |true=>
   obtain⟨d,G⟩:=sv x;rw[WC d];refine aN (aW co) ?_;have L:eY 0 (ds.take (i+1))=10 *eY 0 (ds.take i)+(c.toNat - 48):=by rw[Ij y,IB]
   have T:=lt (i+1) (Dv y h x);rw[L]at T;have K:aj .i64 (aj .i64 ((eY 0 (ds.take i):Nat) *10)+aj .i64 ((c.toNat - 48:Nat):Int))=((eY 0 (ds.take (i+1)):Nat):Int):=by rw[aQ (_ *10) co,aQ ((c.toNat - 48:Nat):Int) co,aQ _ co];omega
   show pA.L3 _ (aj .i64 _) _ _ (aj .i64 _) _ _;rw[K,bc _ co];exact U (i+1) w co B z (Dv y h x)
def Yz(s:ByteArray)(H:s.size<=1000000000)(w:J):ai V Pj #[.string s] w λr h=>qf (bl s) r/\af w h:=by
 have M:(bl s).length=s.size:=rfl;have D:pA.S7 s w λr h=>qf (bl s) r/\af w h:=by refine(YS s H w).mono ?_;rintro _ y ⟨⟨n,v,rfl,B⟩,f⟩;exact⟨_,_,rfl,⟨n,v,rfl,B⟩,f⟩
 refine pA.ok (aF (λB=>aF (λI=>?_) (λ_=>D)) (λ_=>D));obtain⟨c,l,j⟩:∃c l,bl s=c::l:=by
  cases x:bl s with
  |nil=>grind
  |cons c l=>grind
 have K:l.length+1=s.size:=by grind
 have C:s[a0 0]? =some c:=um j 0;have A:∀t:ByteArray,t.size<=18->(∀m,aY m->bl s=bF m->bl t=cg m.natAbs)->pA.S2 t s w λr h=>qf (bl s) r/\af w h:=by intro t L d;obtain⟨a,y,E,x,F,_⟩:=yX w t;refine⟨a,y,E,?_⟩;rw[Bytes.len x];exact X6 s rfl (by grind) (by rw[dY];omega) d (bl t).length 0 y co x F ws
 have z:(∀m,aY m->bl s=bF m->l=cg m.natAbs)->pA.S0 s s w λr h=>qf (bl s) r/\af w h:=by intro d;refine⟨co,co,?_⟩;rw[EV s j];refine aF (λk=>⟨⟨0,_,rfl,md,.inr ⟨2,.inr rfl,rfl⟩,λm q e=>?_⟩,Fr.refl _ _⟩) (λk=>A (ba l) (by rw[bU];omega) d);have:=d m q e;rw[bU,this]at k;exact absurd (List.eq_nil_of_length_eq_zero co) (uC m.natAbs)
 refine⟨co,c,C,aP (λk=>z λm q e=>?_) (λk=>⟨co,c,C,aP (λG=>z λm q e=>?_) (λG=>A s co λm q e=>?_)⟩)⟩
 .rw [j]at e;by_cases d:m<0
  .rw [pk d]at e
   grind
  .have:=sv (xo d c l e);omega
 .exfalso;rw[j]at e;by_cases d:m<0
  .rw [pk d]at e;injection e with e _
   subst e
   grind
  .have:=sv (xo d c l e);omega
 .rw [j]at e;by_cases d:m<0
  .rw [pk d]at e;injection e with e _
   subst e
   grind
  .rw [j,e,uB d]
def Xd(l:List UInt8)(r:bW):Prop:=∃(n:Int) (v:aa),r=y' (.i n) v/\aY n/\(v=.nilIface\/∃t d,v=.iface t d)/\∀m,aY m->l=bF m->n=m/\v=.nilIface
def Yy{s:ByteArray}(h:s.size<=1000000000){w:J}(k:lA w):ai V QG #[.string s] w λr z=>Xd (bl s) r/\af w z:=by
 refine VM.ok ((Yz s h w).mono ?_);rintro _ D ⟨⟨n,v,rfl,d,y,x⟩,f⟩;refine⟨_,_,rfl,?_⟩;rcases y with rfl|⟨C,q,rfl⟩
 .exact ⟨false,ME _ _,aN rfl ⟨⟨n,_,rfl,d,.inl rfl,x⟩,f⟩⟩
 .refine ⟨true,MD _ _ _ _,aM rfl ((afn h q (k.bz f)).mono ?_)⟩;rintro _ E ⟨⟨t,A,rfl⟩,j⟩;exact⟨_,rfl,⟨n,_,rfl,d,.inr ⟨t,A,rfl⟩,λm B e=>by grind⟩,f.dO j⟩
set_option maxHeartbeats 2000000
namespace Kj
def ok:=ay (ax V Tryz.f110 [] []) N6 [.I]
end Kj
namespace Ki
def ok:=ay (ax V Tryz.f132 [] []) ac7 [.I]
end Ki
namespace r3
def L0:=bh (ax V Tryz.f109 [] []) [0,1,1,1,2] [(8,.s),(9,.I),(10,.I)]
abbrev t1:=bg L0
def bE:=bm t1 L0
def ok:=ay t1 N5 [.s]
end r3
namespace uw
def L0:=bh (ax V Tryz.f77 [(7,ls [0,1,2,3,5,6,7,8,9,4,10,11])] []) [0,1,1,1,2] [(0,.s),(4,.I)]
abbrev t1:=bg L0
def bE:=bm t1 L0
def ok:=ay t1 N4 [.s]
end uw
namespace lW
abbrev P0:Ps:=[]
abbrev S0:=ak (ax V Tryz.f78 [] []) [0,1,1,1,1] P0
abbrev t1:=ao S0
abbrev P1:Ps:=[(0,.st),(24,.I),(25,.I)]
def L1:=bh t1 [0,1,1,1,2] P1
abbrev t2:=bg L1
abbrev S3:=ak t2 [0,1,3,2,2,2,1,1,2] P0
abbrev t3:=ao S3
abbrev S4:=ak t3 [3,2,1,1,2] P1
abbrev t4:=ao S4
abbrev S2:=ak t4 [2,2,2,2,1,1,2] [(0,.st),(4,.Y),(24,.I),(25,.I)]
abbrev t5:=ao S2
def fO:=bm t5 L1
def ok:=ay t5 PL [.st]
end lW
namespace vA
abbrev P0:Ps:=[]
abbrev bt:=ak (ax V Tryz.f44 [] [3]) [0,1,1,1,1] P0
abbrev t1:=ao bt
def iC:=bh t1 [0,1,1,1,4] [(1,.I),(2,.I),(3,.l [.I,.I,.I,.s,.st,.s,.s] dD),(34,.s),(35,.I),(36,.I)]
abbrev t2:=bg iC
abbrev dc:=ak t2 [0,1,2,2,2,2,1,1,4] P0
abbrev t3:=ao dc
abbrev hx:=ak t3 [0,1,1,1,5] P0
abbrev t4:=ao hx
abbrev mz:=ak t4 [6] P0
abbrev t5:=ao mz
def kL:=bm t5 iC
abbrev b3:=ak t5 [4] [(1,.I),(2,.I),(3,.l [.I,.I,.I,.s,.st,.s,.s] dD)]
abbrev t6:=ao b3
def aC:=ay t6 PX [.a 7,.I,.I,.I,.s,.st,.s,.s,.I,.I]
end vA
namespace qX
def a6:=bh (ax V Tryz.f43 [] [1,8]) [0,1,1,1,2] [(1,.l [.s,.s,.s,.s] fw),(18,.s),(19,.I),(20,.I)]
abbrev t1:=bg a6
abbrev b3:=ak t1 [0,1,2,2,2,2,1,1,2] []
abbrev t2:=ao b3
def iC:=bh t2 [0,1,1,1,5] [(45,.s),(46,.I),(47,.I)]
abbrev t3:=bg iC
def kL:=bm t3 iC
def bD:=bm t3 a6
def aC:=ay t3 PW [.a 4,.s,.s,.s,.s]
end qX
namespace oH
abbrev bt:=ak (ax V Tryz.f16 [] [1,4,7]) [0,1,1,1,1] []
abbrev t1:=ao bt
def cy:=bh t1 [0,1,1,1,2] [(1,.l [.s,.s] eL),(20,.s),(21,.I),(22,.I)]
abbrev t2:=bg cy
def iC:=bh t2 [0,1,1,1,3] [(1,.l [.s,.s] eL),(33,.s),(34,.I),(35,.I)]
abbrev t3:=bg iC
def kL:=bm t3 iC
def dH:=bm t3 cy
def aC:=ay t3 Gi [.a 2,.s,.s]
end oH
namespace SP
abbrev S0:=ak (ax V Tryz.f87 [] []) [4] [(3,.st)]
abbrev t1:=ao S0
def ok:=ay t1 PJ [.r]
end SP
namespace SO
def ok:=ay (ax V Tryz.f89 [] []) PI [.r]
end SO
namespace SN
abbrev S0:=ak (ax V Tryz.f92 [] []) [3] [(5,.I)]
abbrev t1:=ao S0
def ok:=ay t1 PH [.r,.st]
end SN
namespace pM
abbrev S1:=ak (ax V Tryz.f88 [] []) [0,1,1,1,5] []
abbrev t1:=ao S1
def L2:=bh t1 [0,1,1,1,7] [(0,.r),(8,.s),(52,.s),(53,.I),(54,.I)]
abbrev t2:=bg L2
def j7:=bm t2 L2
abbrev S0:=ak t2 [5] [(0,.r),(6,.st)]
abbrev t3:=ao S0
def ok:=ay t3 PG [.r]
end pM
namespace vy
def L0:=bh (ax V Tryz.f90 [(7,ls [0,1,2,4,5,6,7,3,8,9,10])] []) [0,1,1,1,3] [(0,.st),(4,.s),(5,.I)]
abbrev t1:=bg L0
abbrev S1:=ak t1 [0,1,1,1,1,2,1,2,1,1,3] []
abbrev t2:=ao S1
def bE:=bm t2 L0
def ok:=ay t2 PO [.st]
end vy
namespace yu
abbrev bt:=ak (ax V Tryz.f50 [] [2,9]) [3] [(2,.l [.s,.s,.s,.s] fw),(4,.r)]
abbrev t1:=ao bt
def aC:=ay t1 Gj [.st]
end yu
namespace oI
abbrev P0:Ps:=[(2,.l [.I,.I,.I,.s,.st,.s,.s] dD),(4,.r),(5,.I),(6,.st),(15,.v [.a 6,.st,.st,.st,.st,.st,.st]),(16,.I)]
def a6:=bh (ax V Tryz.f51 [(20,lr 14)] [2,9]) [0,1,1,1,4] P0
abbrev t1:=bg a6
abbrev b3:=ak t1 [3,2,1,1,4] P0
abbrev t2:=ao b3
abbrev cd:=ak t2 [0,1,1,1,6] [(2,.l [.I,.I,.I,.s,.st,.s,.s] dD)]
abbrev t3:=ao cd
abbrev dc:=ak t3 [8] [(2,.l [.I,.I,.I,.s,.st,.s,.s] dD),(4,.r),(9,.l [.I,.I,.I,.s,.st,.s,.s] dD)]
abbrev t4:=ao dc
def bD:=bm t4 a6
def aC:=ay t4 Gk [.st]
end oI
namespace Bm
abbrev P0:Ps:=[]
abbrev bt:=ak (ax V Tryz.f23 [(9,lr 11),(16,lr 12),(17,lr 11),(18,lr 11)] [8,10]) [0,1,1,2,2,1,2] P0
abbrev t1:=ao bt
abbrev cd:=ak t1 [6] P0
abbrev t2:=ao cd
abbrev b3:=ak t2 [1,1,1,1,5] [(10,.l [.I,.I,.I,.s,.st,.s,.s] dD),(12,.r)]
abbrev t3:=ao b3
def aC:=ay t3 AV [.r,.r,.st]
end Bm
namespace vt
def a6:=bh (ax V Tryz.f6 [] [2]) [0,1,1,1,4] [(0,.st),(2,.l [.s,.s] eL),(5,.r),(6,.r),(7,.I)]
abbrev t1:=bg a6
abbrev b3:=ak t1 [0,1,1,1,1,1,1,2,1,1,4] [(2,.l [.s,.s] eL),(7,.I)]
abbrev t2:=ao b3
def bD:=bm t2 a6
def aC:=ay t2 Gg [.st]
end vt
namespace vu
def L0:=bh (ax V Tryz.f18 [] []) [0,1,1,1,1] [(0,.s),(7,.s),(8,.I),(9,.I)]
abbrev t1:=bg L0
abbrev S1:=ak t1 [2,2,2,2,1,1,1] [(0,.s),(6,.st),(7,.s),(8,.I),(9,.I)]
abbrev t2:=ao S1
def bE:=bm t2 L0
def ok:=ay t2 PD [.s,.s]
end vu
namespace vx
def L0:=bh (ax V Tryz.f19 [] []) [0,1,1,1,2] [(3,.s),(7,.s),(8,.I),(9,.I)]
abbrev t1:=bg L0
abbrev S1:=ak t1 [2,2,2,2,1,1,2] [(3,.s),(5,.I),(7,.s),(8,.I),(9,.I)]
abbrev t2:=ao S1
def bE:=bm t2 L0
def ok:=ay t2 PN [.s]
end vx
namespace vv
def a6:=bh (ax V Tryz.f21 [(7,ls [0,1,2,3,4,5,6,8,9,11,12,13,15,16,18,19,7,10,14,17,20,21,22,23])] [6]) [0,1,1,1,1] [(0,.s),(8,.s),(9,.I),(10,.I)]
abbrev t1:=bg a6
abbrev b3:=ak t1 [3,2,2,2,1,1,1] [(0,.s),(6,.l [.I,.I,.I,.s,.st,.s,.s] dD),(7,.st),(8,.s),(9,.I),(10,.I)]
abbrev t2:=ao b3
def bD:=bm t2 a6
def aC:=ay t2 PF [.s,.s]
end vv
namespace vw
def L0:=bh (ax V Tryz.f20 [(5,lr 10)] []) [0,1,1,1,2] [(3,.s),(10,.s),(11,.I),(12,.I)]
abbrev t1:=bg L0
def bE:=bm t1 L0
def ok:=ay t1 PK [.s]
end vw
namespace sY
def a6:=bh (ax V Tryz.f5 [(9,ls [0,1,2,4,5,7,3,6,8,9,10,11])] [1,7]) [0,1,1,1,3] [(1,.l [.s,.s] eL),(5,.s),(16,.s),(17,.I),(18,.I)]
abbrev t1:=bg a6
def bD:=bm t1 a6
def aC:=ay t1 Gh [.a 2,.s,.s]
end sY
abbrev fe(b:Nat)(l:List UInt8)(ok:Bool):En:=.c b [.string (ba l),.bool ok] agP
inductive n6 (l:List UInt8) (ok:Bool):List UInt8->List UInt8->Bool->Prop
 |no:32∉l->n6 l ok l [] false
 |yes (a r:List UInt8):l=a++32::r->32∉a->n6 l ok a r ok
inductive o9 (l:List UInt8) (ok:Bool):List UInt8->Bool->Prop
 |no:(∀r,l≠32::r)->o9 l ok l false
 |yes (r:List UInt8):l=32::r->o9 l ok r ok
def De(t:List UInt8)(ok:Bool)(n:Int)(d:Bool):Prop:=aY n/\(d=true->ok=true/\t=bF n)/\(∀m,aY m->t=bF m->n=m/\d=ok)
def o6(l:List UInt8)(ok:Bool)(xs:List Int)(d:List UInt8)(h:Bool):Prop:=
 (∀j∈xs,aY j)/\d.length<=l.length/\(h=true->ok=true/\l=cG xs++d)/\(∀(ys:List Int) (r:List UInt8),(∀k∈ys,aY k)->l=cG ys++r->ok=true->xs=ys/\d=r/\h=true)
section
variable {M:Nat->Prop} {w0 w:J} {L D:List En}
def _root_.Go.W.LH.KB(H:LH M w0 w L D)(i:Nat){b:Nat}{l:List UInt8}{ok:Bool}(hi:L[i]? =some (fe b l ok)){P:aJ}{g:FuncId}{args:Array aa}{A:bW->List UInt8->Bool->J->Prop}{K:aK}(E:LH (·=b) w w [fe b l ok] D->ai P g args w λr d=>∃h j,A r h j d/\LH (·=b) w d [fe b h j] D)(G:∀r d h j,A r h j d->Fr (·=b) w d->LH M w0 d (L.set i (fe b h j)) D->K r d):ai P g args w K:=by
 have y:(fe b l ok).P w:=H.get i hi;have B:LH (·=b) w w [fe b l ok] D:=LH.th _ _ (by intro e q;rw[b0.1 q];exact⟨y,λz k=>by simpa[En.c,En.ob]using k⟩) (by simp[En.c,En.ob]) (λe q=>⟨H.rd e q,λz k I F=>by rw[b0.1 F];exact H.dj e q z k _ (aD hi)⟩)
 refine(E B).mono ?_;rintro r d ⟨h,j,C,x⟩;exact G r d h j C x.fr (H.g4 i (fe b h j) hi (x.fr.mono λz _ k=>by simp[En.c,En.ob,k]) (x.get 0) λb y=>.inl y)
end
section
variable {w:J} {D:List En} {b:Nat} {l:List UInt8} {ok:Bool}
def u'(C:l.length<=1000000000)(H:LH (·=b) w w [fe b l ok] D):ai V PJ #[.pointer (some (ab b))] w λr A=>∃y z,(∃a,r=ae (.string (ba a))/\n6 l ok a y z)/\LH (·=b) w A [fe b y z] D:=by
 have E:=bU l;refine SP.ok ⟨ba l,H.ld 0 0,H.call (UF (ba l) 32 co w) ?_⟩;rintro _ F x q;rw[gm]at x;cases x with
 |no j=>
  refine⟨_,_,_,rfl,q.st 0 0 rfl λB d=>⟨ok,d.ld 0 1,?_⟩⟩;cases ok with
  |true=>exact aM rfl (d.st 0 1 rfl λk h=>⟨[],false,⟨l,rfl,.no j⟩,h⟩)
  |false=>exact aN rfl (d.st 0 1 rfl λk h=>⟨[],false,⟨l,rfl,.no j⟩,h⟩)
 |yes a r e j=>
  refine⟨_,_,_,rfl,q.st 0 0 rfl λB d=>⟨ok,d.ld 0 1,?_⟩⟩;cases ok with
  |true=>exact aM rfl (d.st 0 1 rfl λk h=>⟨r,true,⟨a,rfl,.yes a r e j⟩,h⟩)
  |false=>exact aN rfl (d.st 0 1 rfl λk h=>⟨r,false,⟨a,rfl,.yes a r e j⟩,h⟩)
def u9(H:LH (·=b) w w [fe b l ok] D):ai V PI #[.pointer (some (ab b))] w λr A=>∃y z,(r=ae (.tuple #[])/\o9 l ok y z)/\LH (·=b) w A [fe b y z] D:=by
 refine SO.ok ⟨ba l,H.ld 0 0,H.call (HM (ba l) 32 w) ?_⟩;rintro _ C x k;rw[gm]at x;cases x with
 |no q=>
  refine⟨_,_,rfl,k.st 0 0 rfl λB d=>⟨ok,d.ld 0 1,?_⟩⟩;cases ok with
  |true=>exact aM rfl (d.st 0 1 rfl λj h=>⟨l,false,⟨rfl,.no q⟩,h⟩)
  |false=>exact aN rfl (d.st 0 1 rfl λj h=>⟨l,false,⟨rfl,.no q⟩,h⟩)
 |yes r e=>
  refine⟨_,_,rfl,k.st 0 0 rfl λB d=>⟨ok,d.ld 0 1,?_⟩⟩;cases ok with
  |true=>exact aM rfl (d.st 0 1 rfl λj h=>⟨r,true,⟨rfl,.yes r e⟩,h⟩)
  |false=>exact aN rfl (d.st 0 1 rfl λj h=>⟨r,false,⟨rfl,.yes r e⟩,h⟩)
end
def Yj{a b:List UInt8}(h:ba a≠ba b):a≠b:=λe=>h (by rw[e])
def o'{a b:List UInt8}(h:ba a=ba b):a=b:=congrArg bl h
section
variable {w:J} {D:List En} {b:Nat} {l:List UInt8} {ok:Bool}
def FE(t:List UInt8)(L:t.length<=1000000000)(z:fU∈D)(H:LH (·=b) w w [fe b l ok] D):ai V PH #[.pointer (some (ab b)),.string (ba t)] w λr F=>∃A B,(∃n,r=ae (.i n)/\De t ok n B/\A=l)/\LH (·=b) w F [fe b A B] D:=by
 refine SN.ok (H.call (Yy (s:=ba t) (by rw[bU];omega) (H.rd _ z)) ?_);rintro _ G ⟨n,v,rfl,k,E,y⟩ h;have C:lA G:=h.rd _ z;refine⟨_,_,rfl,ok,h.ld 0 1,?_⟩;cases ok with
 |false=>exact aN rfl (h.st 0 1 rfl λI q=>⟨l,false,⟨n,rfl,⟨k,λd=>(by cases d),λm j e=>⟨(y m j e).1,rfl⟩⟩,rfl⟩,q⟩)
 |true=>
  refine aM rfl ?_;rcases E with rfl|⟨M,N,rfl⟩
  .refine ⟨true,abC _ _,aM rfl (h.call (DQ k C.1) ?_)⟩;rintro _ I rfl q;refine⟨_,rfl,q.st 0 1 rfl λK x=>⟨l,_,⟨n,rfl,⟨k,λd=>⟨rfl,?_⟩,λm j e=>?_⟩,rfl⟩,x⟩⟩
   .rw [rr]at d;exact(o' (eT d)).symm
   .have:=(y m j e).1;subst this;exact⟨rfl,by rw[rr,e];exact aR rfl⟩
  .refine ⟨false,abB _ _ _ _,aN rfl (h.st 0 1 rfl λK x=>⟨l,false,⟨n,rfl,⟨k,λd=>(by cases d),λm j e=>by cases(y m j e).2⟩,rfl⟩,x⟩)⟩
def n2(w0:J)(xs:List Int)(r:bW)(Y:J):Prop:=∃s:Sl,r=ae s.v/\bx Y s xs/\∀d∈az s,w0.heap.size<=d
def n2.nil(w0 Y:J):n2 w0 [] (ae (.slice none 0 0)) Y:=⟨⟨none,0,0⟩,rfl,Rd.nil _,by simp[az]⟩
def NC{ys:List Int}{a r d:List UInt8}(j:41∉a)(e:a++41::r=cG ys++d):a=40::hd ys/\r=d:=by
 have h:41∉(40::hd ys):=by rw[aq,not_or];exact⟨md,FC rfl md⟩
 unfold cG at e;rw[ck]at e;exact qz j h e
def VK{w:J}{s:Sl}{O:List (List UInt8)}(h:aG w dv 1 s (O.map dN)){i:Nat}{t:List UInt8}(hi:O[i]? =some t){K:Addr->Prop}(j:∀p,w.cell? (p.add (a0 (i:Int) *1))=some (.string (ba t))->K p):fx s (i:Int) K:=
 HD h rfl (i:=i) (v:=dN t) (by rw[ku,hi];rfl) λp _ d=>j p d
def ab2{w0:J}{t52:Sl}{O:List (List UInt8)}{rest:List UInt8}(ag:∀t∈O,t.length<=1000000000)(hn:O.length<=2000000000)(Y:fU∈D){K:aK}(Z:∀r N E xs,n2 w0 xs r N->(∀x∈xs,aY x)->(E=true->O=xs.map bF)->(∀d:List Int,(∀y∈d,aY y)->O=d.map bF->xs=d/\E=true)->LH (·=b) w0 N [fe b rest E] D->K r N):∀(k i:Nat) (ok:Bool) (xs:List Int) (C:Sl) (w:J),i+k=O.length->
  (∀x∈xs,aY x)->xs.length=i->(ok=true->O.take i=xs.map bF)->(∀d:List Int,(∀y∈d,aY y)->O=d.map bF->xs=d.take i/\ok=true)->
  LH (·=b) w0 w [fe b rest ok,.row dv 1 t52 (O.map dN),.row cb 1 C (xs.map a5)] D->
  pM.L2 (ab b) C t52 (O.length:Int) (i:Int) w K:=by
 intro k;induction k with
 |zero=>
  intro i ok xs C w hi z Q H I h;refine pM.j7 (aN (aW co) (Z _ _ ok xs ⟨C,rfl,(h.get 2:aG _ _ _ _ _).hq,λx z=>?_⟩ z (λq=>?_) (λd F e=>?_) (h.take 1)))
  .rcases h.new _ (aD (i:=2) rfl) x z with q|q
   .exact q
   .subst q;exact absurd z (mE h.nd (i:=0) (j:=2) rfl rfl co x (by simp[En.c,En.ob]))
  .have:=H q
   rwa[eO co]at this
  .have:=I d F e;have hl:=congrArg List.length e;rw[gv]at hl
   rwa[eO co]at this
 |succ k ih=>
  intro i ok xs C w hi z Q H I h;have A:O[i]? =some O[i]:=a' co;generalize O[i]=t at A;have ae:=(h.get 1:aG _ _ _ _ _).len;have af:=(h.get 2:aG _ _ _ _ _).len;simp only[gv,Nat.mul_one]at ae af;refine pM.j7 (aM (aR co) (VK (h.get 1) A λp hp=>⟨_,hp,h.KB 0 rfl (λh=>FE t (ag t (aD A)) Y h) ?_⟩));rintro _ w1 l' E ⟨n,rfl,⟨aa,ac,ad⟩,rfl⟩ _ S;refine⟨_,rfl,S.uf 2 iH rfl (λl9 w2 P _ _=>?_) co⟩;rw[bc _ co];have T:(xs.map a5)++#[Value.i n].toList=(xs++[n]).map a5:=by rw[List.map_append];rfl
  rw[T]at P;refine ih (i+1) E (xs++[n]) l9 w2 co ?_ (by rw[a7,Q];rfl) (λq=>?_) (λd F e=>?_) P
  .intro x ah;rcases aX.1 ah with q|q
   .exact z x q
   .rw [b0.1 q];exact aa
  .obtain ⟨L,M⟩:=ac q;rw[dV,A,H L,List.map_append,M];rfl
  .obtain ⟨L,M⟩:=I d F e;have B:(d.map bF)[i]? =some t:=by rw[<-e];exact A
   rw[ku]at B;cases G:d[i]? with
   |none=>rw[G]at B;cases B
   |some y=>
    rw[G]at B;have ai:bF y=t:=Option.some.inj B;obtain⟨U,W⟩:=ad y (F y (aD G)) ai.symm;rw[dV,G,<-L,U,W];exact⟨rfl,M⟩
def Vl{c:UInt8}{n:Nat}:∀l:List UInt8,l.length<=n->∀t∈e8 c l,t.length<=n
 |[],_,t,d=>by simp[e8]at d;simp[d]
 |w::l,k,t,d=>by
  simp only[bR]at k;have h:=Vl (c:=c) (n:=n - 1) l co;unfold e8 at d;split at d
  .rcases aq.1 d with rfl|d
   .simp
   .have:=h t d;omega
  .rcases aq.1 d with rfl|d
   .have q:=BV c l;cases j:e8 c l with
    |nil=>exact absurd j q
    |cons p x=>
     have:=h p (by rw[j];simp);simp;omega
   .have:=h t (List.mem_of_mem_tail d);omega
def sy(hl:l.length<=1000000000)(hD:fU∈D)(H:LH (·=b) w w [fe b l ok] D):ai V PG #[.pointer (some (ab b))] w λr j=>∃d h,(∃xs,n2 w xs r j/\o6 l ok xs d h)/\LH (·=b) w j [fe b d h] D:=by
 have hz:=bU l;have fail:∀(d:List UInt8) (text:ByteArray) (G:J),d.length<=l.length->(∀(ys:List Int) (r:List UInt8),(∀N∈ys,aY N)->l=cG ys++r->ok=true->False)->LH (·=b) w G [fe b d false] D->pM.S0 (ab b) text G λr j=>∃d h,(∃xs,n2 w xs r j/\o6 l ok xs d h)/\LH (·=b) w j [fe b d h] D:=by intro d text G aa A I;exact⟨false,I.ld 0 1,aM rfl ⟨d,false,⟨[],n2.nil _ _,ws,aa,λy=>(by cases y),λys r S e B=>(A ys r S e B).elim⟩,I⟩⟩
 refine pM.ok ⟨ba l,H.ld 0 0,H.call (UF (ba l) 41 co w) ?_⟩;rintro _ G Y I;rw[gm]at Y;cases Y with
 |no y=>
  refine⟨_,_,_,rfl,I.call (HM (ba l) 40 G) ?_⟩;rintro _ Z F P;have A:∀(ys:List Int) (r:List UInt8),(∀N∈ys,aY N)->l=cG ys++r->ok=true->False:=λys r _ e _=>y (by rw[e];simp[cG]);have fin:∀(t:ByteArray) (o:Bool),aS Z ((ab b).add 0) (.string (ba [])) λC=>∃t33:Bool,C.cell? ((ab b).add 1)=some (.bool t33)/\bA t33 (bA false (aS C ((ab b).add 1) (.bool o) λq=>pM.S0 (ab b) t q λr j=>∃d h,(∃xs,n2 w xs r j/\o6 l ok xs d h)/\LH (·=b) w j [fe b d h] D) (aS C ((ab b).add 1) (.bool false) λU=>pM.S0 (ab b) t U λr j=>∃d h,(∃xs,n2 w xs r j/\o6 l ok xs d h)/\LH (·=b) w j [fe b d h] D)) (aS C ((ab b).add 1) (.bool false) λw6=>pM.S0 (ab b) t w6 λr j=>∃d h,(∃xs,n2 w xs r j/\o6 l ok xs d h)/\LH (·=b) w j [fe b d h] D):=by
   intro t o;refine P.st 0 0 rfl λC x=>⟨ok,x.ld 0 1,?_⟩;cases ok with
   |true=>exact aM rfl (aN rfl (x.st 0 1 rfl λq k=>fail [] t q ws A k))
   |false=>exact aN rfl (x.st 0 1 rfl λq k=>fail [] t q ws A k)
  cases F with
  |no _=>exact⟨_,_,rfl,fin _ _⟩
  |yes _ _=>exact⟨_,_,rfl,fin _ _⟩
 |yes a r e y=>
  refine⟨_,_,_,rfl,I.call (HM (ba a) 40 G) ?_⟩;rintro _ Z F P;rw[gm]at F;have L:r.length<=l.length:=by rw[e];simp;omega
  cases F with
  |no F=>
   have A:∀(ys:List Int) (r':List UInt8),(∀N∈ys,aY N)->l=cG ys++r'->ok=true->False:=λys r' _ z _=>F _ (NC y (e▸z)).1;refine⟨_,_,rfl,P.st 0 0 rfl λC x=>⟨ok,x.ld 0 1,?_⟩⟩;cases ok with
   |true=>exact aM rfl (aM rfl (x.st 0 1 rfl λq k=>fail r _ q L A k))
   |false=>exact aN rfl (x.st 0 1 rfl λq k=>fail r _ q L A k)
  |yes text Q=>
   refine⟨_,_,rfl,P.st 0 0 rfl λC x=>⟨ok,x.ld 0 1,?_⟩⟩;cases ok with
   |false=>exact aN rfl (x.st 0 1 rfl λq k=>fail r _ q L (λ_ _ _ _ y=>by cases y) k)
   |true=>
    have fwd:∀(ys:List Int) (r':List UInt8),l=cG ys++r'->text=hd ys/\r=r':=λys r' z=>by obtain⟨E,K⟩:=NC y (e▸z);rw[Q]at E;exact⟨(List.cons.inj E).2,K⟩
    refine aM rfl (aM rfl (x.st 0 1 rfl λq k=>⟨true,k.ld 0 1,aN rfl (jH (λM=>?_) (λM=>?_))⟩))
    .have M:text=[]:=o' M;subst M;refine⟨r,true,⟨[],n2.nil _ _,ws,L,λ_=>⟨rfl,by rw[e,Q];rfl⟩,λys r' _ z _=>?_⟩,k⟩;obtain⟨E,K⟩:=fwd ys r' z;exact⟨(FB.1 E.symm).symm,K,rfl⟩
    .have ad:text.length<=l.length:=by rw[e,Q];simp;omega
     have ak:=bU text;refine(afk (ba text) 32 co q).mono ?_;rintro _ U ⟨⟨t,rfl,B,ac⟩,f5⟩;rw[gm]at B;have aj:=Vk 32 text;have ah:Go.Lib.countByte text 32<=text.length:=List.count_le_length;have H5:=k.push (.row dv 1 t ((e8 32 text).map dN)) f5 B ac;have ae:t.n=(e8 32 text).length:=by have:=B.len;simpa using this.symm
     refine⟨t,rfl,?_⟩;try dsimp only
     rw[ae];refine ab2 (D:=D) (b:=b) (w0:=w) (rest:=r) (t52:=t) (O:=e8 32 text) (λaf hq=>Vl text (bb ad hl) af hq) co hD (λr' j h xs E K h3 h4 H6=>?_) (e8 32 text).length 0 true [] ⟨none,0,0⟩ U co ws rfl (λ_=>rfl) (λys _ _=>⟨rfl,rfl⟩) (H5.fY cb 1);refine⟨r,h,⟨xs,E,K,L,λB=>⟨rfl,?_⟩,λys ag S z _=>?_⟩,H6⟩
     .rw [e,Q,Vj (h3 B)];simp[cG]
     .obtain ⟨W,h6⟩:=fwd ys ag z;have T:ys≠[]:=λT=>by subst T;exact M (by rw[W];rfl)
      obtain⟨h7,h8⟩:=h4 ys S (by rw[W];exact Au T);exact⟨h7,h6,h8⟩
end
def ik:Nat->List UInt8->Int
 |0,_=>-1
 |i+1,a=>if j5.getD i []=a then(i:Int)else ik i a
def FH(k:Int)(d:0<=k)(h:k<=5):ik 6 (g5 k)=k:=by
 have:k=0\/k=1\/k=2\/k=3\/k=4\/k=5:=co
 rcases this with rfl|rfl|rfl|rfl|rfl|rfl<;>decide
def Ni:∀(i:Nat) (a:List UInt8),i<=6->0<=ik i a->a=g5 (ik i a)/\ik i a<(i:Int)
 |0,a,_,d=>by simp[ik]at d
 |i+1,a,k,d=>by
  unfold ik at d ⊢;split
  .rename_i e;exact⟨by rw[<-e];simp[g5],co⟩
  .rename_i e;rw[ag e]at d;obtain⟨h,j⟩:=Ni i a co d;exact⟨h,co⟩
def Cr(k:Int):32∉g5 k:=by
 unfold g5;have d:∀i<6,32∉j5.getD i []:=md
 by_cases h:k.toNat<6
 .exact d _ h
 .rw [List.getD_eq_getElem?_getD,List.getElem?_eq_none (by show 6<=_;omega)];simp
def jV(a:List UInt8):ByteArray:=if a=[45]then ba []else ba a
def sN{s:bO}(h:kO s):jV (hF s)=s.nm/\32∉hF s/\hF s≠[]/\∀l,hF s≠40::l:=by
 unfold hF jV;by_cases d:bl s.nm=[]
 .rw [au d,au rfl];exact⟨by rw[<-jt s.nm,d],md,ws,ws⟩
 .rw [ag d,ag h.nm2];exact⟨jt _,h.nm1,d,h.nm3⟩
def adn{a:List UInt8}(h:a≠[])(k n r:Int)(p l g:List Int):hF ⟨k,n,r,p,jV a,l,g⟩=a:=by
 unfold hF jV;by_cases d:a=[45]
 .rw [au d];simp[gm,d]
 .rw [ag d];simp[gm,h]
def aga{a:List UInt8}{k n r:Int}{p l g:List Int}(x:0<=k/\k<=5)(z:aY n)(B:aY r)(A:∀d∈p,aY d)(y:∀d∈l,aY d)(w:∀d∈g,aY d)(j:32∉a)(q:∀t,a≠40::t):kO ⟨k,n,r,p,jV a,l,g⟩:=by
 refine⟨x,z,B,A,y,w,?_,?_,?_⟩<;>(show _;unfold jV;split)
 .simp [gm]
 .rw [gm];exact j
 .simp [gm]
 .rename_i h;rw[gm];exact h
 .simp [gm]
 .rw [gm];exact q
def ze{l:List UInt8}{ok:Bool}{x d:List UInt8}{j:Bool}(h:n6 l ok x d j){a r:List UInt8}(e:l=a++32::r)(y:32∉a):x=a/\d=r/\j=ok:=by
 cases h with
 |no h=>exact absurd (by rw[e];simp) h
 |yes x d k z=>
  obtain⟨q,w⟩:=qz z y (k.symm.trans e);exact⟨q,w,rfl⟩
def Cp{l:List UInt8}{ok:Bool}{x d:List UInt8}(h:n6 l ok x d true):l=x++32::d/\32∉x/\ok=true:=by
 cases h with
 |yes x d e j=>exact⟨e,j,rfl⟩
def BU{l:List UInt8}{ok:Bool}{d:List UInt8}{j:Bool}(h:o9 l ok d j){r:List UInt8}(e:l=32::r):d=r/\j=ok:=by
 cases h with
 |no h=>exact absurd e (h r)
 |yes q k=>rw[k]at e;exact⟨(List.cons.inj e).2,rfl⟩
def Ve{l:List UInt8}{ok:Bool}{d:List UInt8}(h:o9 l ok d true):l=32::d/\ok=true:=by
 cases h with
 |yes r e=>exact⟨e,rfl⟩
structure qt(l a1 a4:List UInt8)(n ru:Int)(GN:Bool)(l4:List UInt8):Prop where
 r:∃l1 RZ a2 l2 R1 R2 a3 l3 R3 R4,n6 l true a1 l1 RZ/\n6 l1 RZ a2 l2 R1/\De a2 R1 n R2/\n6 l2 R2 a3 l3 R3/\De a3 R3 ru R4/\n6 l3 R4 a4 l4 GN
def qt.fwd{l j k q:List UInt8}{n x:Int}{w:Bool}(h:qt l j k n x w q){s:bO}(d:kO s)(e:l=cU s):
  j=g5 s.kind/\n=s.node/\x=s.da/\k=hF s/\w=true/\q=cG s.params++32::(cG s.hints++32::cG s.bM):=by obtain⟨G,K,E,H,L,M,F,I,N,O,y,z,A,B,C,D⟩:=h.r;unfold cU at e;obtain⟨rfl,rfl,rfl⟩:=ze y e (Cr _);obtain⟨rfl,rfl,rfl⟩:=ze z rfl (oe rfl);obtain⟨rfl,rfl⟩:=A.2.2 _ d.node rfl;obtain⟨rfl,rfl,rfl⟩:=ze B rfl (oe rfl);obtain⟨rfl,rfl⟩:=C.2.2 _ d.da rfl;obtain⟨rfl,rfl,rfl⟩:=ze D rfl (sN d).2.1;exact⟨rfl,rfl,rfl,rfl,rfl,rfl⟩
def qt.back{l k d x:List UInt8}{n j:Int}(h:qt l k d n j true x):l=k++32::(bF n++32::(bF j++32::(d++32::x)))/\aY n/\aY j/\32∉d:=by obtain⟨M,P,K,N,Q,S,L,O,T,U,E,F,q,G,w,H⟩:=h.r;obtain⟨D,I,rfl⟩:=Cp H;obtain⟨rfl,C⟩:=w.2.1 rfl;obtain⟨B,_,rfl⟩:=Cp G;obtain⟨rfl,A⟩:=q.2.1 rfl;obtain⟨z,_,rfl⟩:=Cp F;obtain⟨y,_,_⟩:=Cp E;exact⟨by rw[y,z,A,B,C,D],q.1,w.1,I⟩
structure rR(l4:List UInt8)(GN:Bool)(ps hs ls:List Int)(ok:Bool)(l9:List UInt8):Prop where
 r:∃l5 R5 l6 R6 l7 R7 l8 R0,o6 l4 GN ps l5 R5/\o9 l5 R5 l6 R6/\o6 l6 R6 hs l7 R7/\o9 l7 R7 l8 R0/\o6 l8 R0 ls l9 ok
def rR.fwd{k q:List UInt8}{ps j ls:List Int}{ok:Bool}(h:rR k true ps j ls ok q){s:bO}(d:kO s)(e:k=cG s.params++32::(cG s.hints++32::cG s.bM)):
  ps=s.params/\j=s.hints/\ls=s.bM/\ok=true/\q=[]:=by obtain⟨B,G,C,H,D,I,E,F,w,x,y,z,A⟩:=h.r;obtain⟨rfl,rfl,rfl⟩:=w.2.2.2 _ _ d.params e rfl;obtain⟨rfl,rfl⟩:=BU x rfl;obtain⟨rfl,rfl,rfl⟩:=y.2.2.2 _ _ d.hints rfl rfl;obtain⟨rfl,rfl⟩:=BU z rfl;obtain⟨rfl,rfl,rfl⟩:=A.2.2.2 _ [] d.bM (by rw[dy]) rfl;exact⟨rfl,rfl,rfl,rfl,rfl⟩
def rR.back{y:List UInt8}{z:Bool}{ps j ls:List Int}(h:rR y z ps j ls true []):y=cG ps++32::(cG j++32::cG ls)/\z=true/\(∀d∈ps,aY d)/\(∀d∈j,aY d)/\(∀d∈ls,aY d):=by obtain⟨G,M,H,N,I,O,K,L,q,E,w,F,x⟩:=h.r;obtain⟨rfl,k⟩:=x.2.2.1 rfl;obtain⟨D,rfl⟩:=Ve F;obtain⟨rfl,C⟩:=w.2.2.1 rfl;obtain⟨B,rfl⟩:=Ve E;obtain⟨rfl,A⟩:=q.2.2.1 rfl;rw[dy]at k;exact⟨by rw[A,B,C,D,k],rfl,q.1,w.1,x.1⟩
def zt(l:List UInt8):Prop:=∀s,kO s->l≠cU s
def af5{l q k w:List UInt8}{n y:Int}{x:Bool}(h:qt l q k n y x w)(d:ik 6 q<0\/k=[]\/∃t,k=40::t):zt l:=by
 intro s j e;obtain⟨rfl,_,_,rfl,_,_⟩:=h.fwd j e;rw[FH _ j.kind.1 j.kind.2]at d;rcases d with d|d|⟨t,d⟩
 .have:=j.kind.1;omega
 .exact (sN j).2.2.1 d
 .exact (sN j).2.2.2 t d
def VD{l y z q w:List UInt8}{n E:Int}{x ok:Bool}{ps C ls:List Int}(h:qt l y z n E x q)(D:rR q x ps C ls ok w)(d:ok=false\/w≠[]):zt l:=by
 intro s k e;obtain⟨_,_,_,_,rfl,A⟩:=h.fwd k e;obtain⟨_,_,_,j,B⟩:=D.fwd k A;rcases d with d|d
 .rw [d]at j;cases j
 .exact d B
def af7{l d j x:List UInt8}{n q:Int}{y:Bool}{ps k ls:List Int}(h:qt l d j n q y x)(I:rR x y ps k ls true [])(w:0<=ik 6 d)(A:j≠[])(C:∀t,j≠40::t):
  kO ⟨ik 6 d,n,q,ps,jV j,ls,k⟩/\l=cU ⟨ik 6 d,n,q,ps,jV j,ls,k⟩:=by obtain⟨z,rfl,G,D,E⟩:=I.back;obtain⟨e,F,H,B⟩:=h.back;obtain⟨K,L⟩:=Ni 6 d co w;refine⟨aga ⟨w,co⟩ F H G E D B C,?_⟩;unfold cU;rw[adn A];show l=g5 (ik 6 d)++32::(bF n++32::(bF q++32::(j++32::(cG ps++32::(cG k++32::cG ls)))));rw[<-K,<-z,e]
def FR{xs ys:List Int}{r r':List UInt8}(e:cG xs++r=cG ys++r'):xs=ys/\r=r':=by
 unfold cG at e;rw[ck,ck]at e;have k:∀ys:List Int,41∉(40::hd ys):=λys=>by rw[aq,not_or];exact⟨md,FC rfl md⟩
 obtain⟨d,w⟩:=qz (k xs) (k ys) e;refine⟨?_,w⟩;have d:hd xs=hd ys:=(List.cons.inj d).2;by_cases h:xs=[]
 .subst h;exact(FB.1 d.symm).symm
 .have j:ys≠[]:=λj=>by subst j;exact h (FB.1 d)
  have:=congrArg (e8 32) d;rw[Au h,Au j]at this;exact(List.map_inj_right λx y q=>Eu q).1 this
def af':∀{s t:bO},s.kind=t.kind->s.node=t.node->s.da=t.da->s.params=t.params->s.nm=t.nm->s.bM=t.bM->s.hints=t.hints->s=t
 |⟨_,_,_,_,_,_,_⟩,⟨_,_,_,_,_,_,_⟩,rfl,rfl,rfl,rfl,rfl,rfl,rfl=>rfl
def acz{s t:bO}(d:kO s)(h:kO t)(e:cU s=cU t):s=t:=by
 unfold cU at e;obtain⟨j,e⟩:=qz (Cr _) (Cr _) e;obtain⟨k,e⟩:=qz (oe rfl) (oe rfl) e;obtain⟨q,e⟩:=qz (oe rfl) (oe rfl) e;obtain⟨w,e⟩:=qz (sN d).2.1 (sN h).2.1 e;obtain⟨x,e⟩:=FR e;obtain⟨y,e⟩:=FR (List.cons.inj e).2;have z:=(FR (xs:=s.bM) (ys:=t.bM) (r:=[]) (r':=[]) (by rw[dy,dy];exact(List.cons.inj e).2)).1;have A:s.kind=t.kind:=by rw[<-FH _ d.kind.1 d.kind.2,j,FH _ h.kind.1 h.kind.2]
 have m:s.nm=t.nm:=by rw[<-(sN d).1,w,(sN h).1]
 exact af' A (Eu k) (Eu q) x m z y
def e3(s:bO):List UInt8:=cU s++[10]
def ag7(k:Int):10∉g5 k:=by
 unfold g5;have d:∀i<6,10∉j5.getD i []:=md
 by_cases h:k.toNat<6
 .exact d _ h
 .rw [List.getD_eq_getElem?_getD,List.getElem?_eq_none (by show 6<=_;omega)];simp
def AH{l:List Int}{c:UInt8}(d:u3 c=false)(h:c≠32)(j:c≠40)(k:c≠41):c∉cG l:=by unfold cG;simp only[List.cons_append,aq,aX,b0,not_or,aL,not_false_eq_true,and_true];exact⟨j,FC d h,k⟩
def acy{s:bO}(h:10∉hF s):10∉cU s:=by unfold cU;simp only[aX,aq,not_or];exact⟨ag7 _,md,oe rfl,md,oe rfl,md,h,md,AH rfl md md md,md,AH rfl md md md,md,AH rfl md md md⟩
def UR{b:Nat}{l h:List UInt8}{ok j:Bool}:∀{L:List En} {i:Nat},L[i]? =some (fe b l ok)->(L.set i (fe b h j)).flatMap (·.fp)=L.flatMap (·.fp)
 |a::L,0,d=>by simp only[List.getElem?_cons_zero,Option.some.injEq]at d;subst d;rfl
 |a::L,i+1,d=>by simp only[List.getElem?_cons_succ]at d;simp only[List.set_cons_succ,List.flatMap_cons,UR d]
section
variable {M:Nat->Prop} {w0 w:J} {L D:List En}
def _root_.Go.W.LH.sL{Y:J}{L':List En}(h:LH M w0 Y L' D)(z:∀b∈L'.flatMap (·.fp),b<w.heap.size)(e:En)(A:e.P Y)(B:∀b∈e.fp,w.heap.size<=b):LH M w0 Y L' (D++[e]):=
 ⟨h.fr,h.own,λg d=>(aX.1 d).elim (h.rd g) λy=>by rw[b0.1 y];exact A,h.new,h.nd,λg d b j k x q=>by
  rcases aX.1 d with d|d
  .exact h.dj g d b j k x q
  .rw [b0.1 d]at j;have C:=B b j;have E:=z b (cc.2 ⟨k,x,q⟩);omega⟩
def _root_.Go.W.LH.hU(H:LH M w0 w L D)(i:Nat){U:List Nat}{b:Nat}{l:List UInt8}{ok:Bool}(hi:L[i]? =some (fe b l ok)){P:aJ}{g:FuncId}{args:Array aa}{A:bW->List UInt8->Bool->J->Prop}{K:aK}(x:LH (·=b) w w [fe b l ok] D->ai P g args w λr d=>∃h j,A r h j d/\LH (·=b) w d [fe b h j] D)(z:∀r d h j,A r h j d->LH M w0 d (L.set i (fe b h j)) D->(∀e:En,e.P d->(∀G∈e.fp,w.heap.size<=G)->LH M w0 d (L.set i (fe b h j)) (D++[e]))->K r d)(bG:∀b∈U,En.g b∈L:=by simp):ep U P g args w K:=
 ⟨(·=b),λF E B=>ou H hi (xa w b _ _) (bG F E) (by subst B;exact qx.2 rfl),H.KB i hi x λr d h j q f k=>⟨f,z r d h j q k λe y C=>k.sL (w:=w) (by rw[UR hi];exact H.oF) e y C⟩⟩
end
def NG{l j:List UInt8}{xs:List Int}{d:Bool}(h:o6 l false xs j d):d=false:=by
 cases d with
 |false=>rfl
 |true=>cases(h.2.2.1 rfl).1
def Vh{l d:List UInt8}{j:Bool}(h:o9 l false d j):j=false/\d.length<=l.length:=by
 cases h with
 |no _=>exact⟨rfl,br _⟩
 |yes r e=>exact⟨rfl,by rw[e];simp⟩
def Vf{l d:List UInt8}{ok j:Bool}(h:o9 l ok d j):d.length<=l.length:=by
 cases h with
 |no _=>exact br _
 |yes r e=>rw[e];simp
def zf{l a d:List UInt8}{ok j:Bool}(h:n6 l ok a d j):d.length<=l.length/\a.length<=l.length:=by
 cases h with
 |no _=>exact⟨ws,br _⟩
 |yes _ _ e _=>rw[e];simp;omega
def Zs{line:List UInt8}(S:line.length<=1000000000)(T:∀r,line≠[98,101,103,105,110]++32::r){w:J}{D:List En}(B:fU∈D)(H:LH F0 w w [] D):
  ai V Gj #[.string (ba line)] w λr h=>r=ae (.tuple #[.agg #[.slice none 0 0,.slice none 0 0,.slice none 0 0,.slice none 0 0],.bool false])/\af w h:=by
 refine yu.aC (H.aH λk q G=>G.nw λw2 _ I=>I.hU 1 rfl (λH=>u' S H) ?_);rintro _ F d ac ⟨a,rfl,E⟩ z _;have O:∀(d:List UInt8) (y:J),d.length<=1000000000->LH F0 w y [.g k,fe q.heap.size d false] D->yu.bt k ⟨none,0,0⟩ ⟨none,0,0⟩ ⟨none,0,0⟩ ⟨none,0,0⟩ (ab q.heap.size) y λr h=>r=ae (.tuple #[.agg #[.slice none 0 0,.slice none 0 0,.slice none 0 0,.slice none 0 0],.bool false])/\af w h:=by intro d y P K;refine K.hU 1 rfl (λH=>sy P B H) ?_;rintro _ j l2 ad ⟨xs,⟨s,rfl,_⟩,C⟩ x _;obtain rfl:=NG C;refine⟨_,rfl,x.hU 1 rfl (λH=>u9 H) ?_⟩;rintro _ w6 l3 ag ⟨rfl,W⟩ L _;obtain⟨rfl,h3⟩:=Vh W;refine⟨rfl,L.hU 1 rfl (λH=>sy (by have:=C.2.1;omega) B H) ?_⟩;rintro _ w7 l4 aj ⟨al,⟨s',rfl,_⟩,U⟩ M _;obtain rfl:=NG U;refine⟨_,rfl,M.hU 1 rfl (λH=>u9 H) ?_⟩;rintro _ w8 l5 ak ⟨rfl,Y⟩ A _;obtain⟨rfl,_⟩:=Vh Y;exact⟨rfl,false,A.ld 1 1,aM rfl (A.ah λw9 N=>⟨rfl,N.fr⟩)⟩
 have aa:=zf E;have no:aS F ((ab q.heap.size).add 1) (.bool false) λj=>kept [k] F j/\yu.bt k ⟨none,0,0⟩ ⟨none,0,0⟩ ⟨none,0,0⟩ ⟨none,0,0⟩ (ab q.heap.size) j λr h=>r=ae (.tuple #[.agg #[.slice none 0 0,.slice none 0 0,.slice none 0 0,.slice none 0 0],.bool false])/\af w h:=
  z.rn 1 1 rfl λj x=>O d j co x
 refine⟨_,rfl,jH (λQ=>?_) (λ_=>no)⟩;cases E with
 |no Z=>exact⟨false,z.ld 1 1,no⟩
 |yes a r e ha=>
  have:a=[98,101,103,105,110]:=o' Q;exact absurd (by rw[e,this]) (T d)
abbrev h0:En:=.rd ⟨some (ab 0),6,6⟩ (j5.map dN)
abbrev wB(i:Nat):ByteArray:=ba (j5.getD i [])
def tw{w:J}(h:h0.P w)(i:Nat)(hi:i<6):w.cell? ((Addr.mk 0 0 none).add i)=some (.string (wB i)):=by
 have d:∀i<6,(j5.map dN)[i]? =some (.string (wB i)):=by
  intro i hi
  match i,hi with
  |0,_=>rfl
  |1,_=>rfl
  |2,_=>rfl
  |3,_=>rfl
  |4,_=>rfl
  |5,_=>rfl
 obtain⟨p,k,j⟩:=(show Rd w _ _ from h).2.2.2 i _ (d i hi);cases k;exact j
def ag1:∀i<6,(#[.string (wB 0),.string (wB 1),.string (wB 2),.string (wB 3),.string (wB 4),.string (wB 5)]:Array aa)[i]? =some (.string (wB i)):=by
 intro i d
 match i,d with
 |0,_=>rfl
 |1,_=>rfl
 |2,_=>rfl
 |3,_=>rfl
 |4,_=>rfl
 |5,_=>rfl
def afc{b2:Nat}{q:Addr}{h:List UInt8}{w:J}{K:aK}(y:oI.a6 b2 0 0 0 ⟨none,0,0⟩ (bn #[]) ⟨none,0,0⟩ ⟨none,0,0⟩ q (ik 6 h) (ba h) (wB 0) (wB 1) (wB 2) (wB 3) (wB 4) (wB 5) 6 w K):∀j i:Nat,i+j=6->
  oI.a6 b2 0 0 0 ⟨none,0,0⟩ (bn #[]) ⟨none,0,0⟩ ⟨none,0,0⟩ q (ik i h) (ba h) (wB 0) (wB 1) (wB 2) (wB 3) (wB 4) (wB 5) (i:Int) w K:=by
 intro j;induction j with
 |zero=>
  intro i z;obtain rfl:i=6:=co
  exact y
 |succ j A=>
  intro i z;have x:=A (i+1) co;refine oI.bD (aM (aR co) ⟨co,by show(i:Int)<6;omega,wB i,by rw[bB];exact ag1 i co,?_⟩);have d:=x;unfold ik at d;refine jH (λk=>?_) (λk=>?_)
  .rw [au (o' k)]at d;show oI.a6 _ _ _ _ _ _ _ _ _ _ _ _ _ _ _ _ _ (aj .i64 _) _ _;rw[bc _ co];exact d
  .rw [ag (Yj k)]at d;show oI.a6 _ _ _ _ _ _ _ _ _ _ _ _ _ _ _ _ _ (aj .i64 _) _ _;rw[bc _ co];exact d
structure Sp where
 x:bO
 p:Sl
 l:Sl
 h:Sl
namespace Sp
def c(d:Sp):List aa:=[.i d.x.kind,.i d.x.node,.i d.x.da,d.p.v,.string d.x.nm,d.l.v,d.h.v]
abbrev v(d:Sp):aa:=.agg #[.i d.x.kind,.i d.x.node,.i d.x.da,d.p.v,.string d.x.nm,d.l.v,d.h.v]
abbrev pE(d:Sp):En:=.rd d.p (d.x.params.map a5)
abbrev lE(d:Sp):En:=.rd d.l (d.x.bM.map a5)
abbrev hE(d:Sp):En:=.rd d.h (d.x.hints.map a5)
end Sp
def Dr(w0:J)(line:List UInt8)(r:bW)(Y:J):Prop:=
 (∃d:Sp,zt line/\r=ae (.tuple #[d.v,.bool false]))\/∃d:Sp,kO d.x/\line=cU d.x/\r=ae (.tuple #[d.v,.bool true])/\(∀e∈[d.pE,d.hE,d.lE],e.P Y/\∀b∈e.fp,w0.heap.size<=b)
def agU{c d:UInt8}(h:(c.toNat:Int)=(d.toNat:Int)):c=d:=UInt8.toNat_inj.1 co
def agT{a:List UInt8}(h:a≠[]):∃c t,a=c::t:=by
 cases a with
 |nil=>exact absurd rfl h
 |cons c t=>exact⟨c,t,rfl⟩
def Zu{line:List UInt8}(hl:line.length<=1000000000){w:J}{D:List En}(C:fU∈D)(hW:h0∈D)(H:LH F0 w w [] D):
  ai V Gk #[.string (ba line)] w λr Y=>Dr w line r Y/\af w Y:=by
 refine oI.aC (H.aH λM w1 P=>P.nw λw2 _ Q=>Q.hU 1 rfl (λH=>u' hl H) ?_);rintro _ w3 l1 ax ⟨x,rfl,r1⟩ H3 _;have z:=H3.rd _ hW;refine⟨_,rfl,wB 0,wB 1,wB 2,wB 3,wB 4,wB 5,tw z 0 co,tw z 1 co,tw z 2 co,tw z 3 co,tw z 4 co,tw z 5 co,afc ?_ 6 0 rfl⟩;have aY:=zf r1;refine oI.bD (aN rfl (H3.hU 1 rfl (λH=>u' co H) ?_));rintro _ w4 l2 az ⟨a2,rfl,r2⟩ H4 _;have aZ:=zf r2;refine⟨_,rfl,H4.hU 1 rfl (λH=>FE a2 co C H) ?_⟩;rintro _ w5 aV aA ⟨n,rfl,r3,S⟩ H5 _;have S:=S.symm;subst S;refine⟨_,rfl,H5.hU 1 rfl (λH=>u' co H) ?_⟩;rintro _ w6 l3 aB ⟨a3,rfl,r4⟩ H6 _;have a0:=zf r4;refine⟨_,rfl,H6.hU 1 rfl (λH=>FE a3 co C H) ?_⟩;rintro _ w7 aX aD ⟨G,rfl,r5,T⟩ H7 _;have T:=T.symm;subst T;refine⟨_,rfl,H7.hU 1 rfl (λH=>u' co H) ?_⟩;rintro _ w8 l4 ac ⟨d,rfl,r6⟩ H8 _;have a6:=zf r6;have sr:qt line x d n G ac l4:=⟨⟨l1,ax,a2,l2,az,aA,a3,l3,aB,aD,r1,r2,r3,r4,r5,r6⟩⟩;have bad:(ik 6 x<0\/d=[]\/∃t,d=40::t)->∀{U:List Nat} {Y:J} {L:List En},LH F0 w Y L D->(∀b∈U,En.g b∈L)->En.g M∈L->loc U Y λaK=>oI.cd M 0 0 0 ⟨none,0,0⟩ (bn #[]) ⟨none,0,0⟩ ⟨none,0,0⟩ aK λr Y=>Dr w line r Y/\af w Y:=λj U Y L H h1 h2=>
  H.ah (λw1 P=>P.ah (λw2 Q=>⟨.inl ⟨⟨⟨0,0,0,[],bn #[],[],[]⟩,⟨none,0,0⟩,⟨none,0,0⟩,⟨none,0,0⟩⟩,af5 sr j,rfl⟩,Q.fr⟩) (by simp[h2])) h1
 refine⟨_,rfl,H8.aH λb9 w9 A=>aF (λhk=>bad (.inl hk) A ws ws) (λhk=>jH (λy=>bad (.inr (.inl (o' y))) A ws ws) (λy=>?_))⟩;have y:d≠[]:=λe=>y (by rw[e];rfl);obtain⟨c,t,aa⟩:=agT y;refine⟨co,c,um (s:=ba d) (l:=c::t) (by rw[gm,aa]) 0,aP (λW=>bad (.inr (.inr ⟨t,by rw[aa];congr 1;exact agU W⟩)) A ws ws) (λW=>?_)⟩;have aw:∀t',d≠40::t':=λt' e=>by
  rw[aa]at e;injection e with e _
  subst e;exact W rfl
 have K:∀k,LH F0 w k [.g M,fe w1.heap.size l4 ac,.g b9] D->oI.dc M 0 0 0 ⟨none,0,0⟩ (bn #[]) ⟨none,0,0⟩ ⟨none,0,0⟩ (ab w1.heap.size) b9 (ik 6 x) n G ⟨none,0,0⟩ (jV d) ⟨none,0,0⟩ ⟨none,0,0⟩ k λr Y=>Dr w line r Y/\af w Y:=by
  intro k q;refine q.hU 1 rfl (λH=>sy co C H) ?_;rintro _ bd l5 aE ⟨F,⟨O,rfl,p1,p2⟩,r7⟩ aS ap;have ak:=ap (.rd O (F.map a5)) p1 (eP p2);have a7:=r7.2.1;refine⟨_,rfl,ak.ah λbe an=>an.hU 1 rfl (λH=>u9 H) ?_⟩;rintro _ bf l6 aG ⟨rfl,r8⟩ ad _;have a8:=Vf r8;refine⟨rfl,ad.hU 1 rfl (λH=>sy co (bV _ C) H) ?_⟩;rintro _ bg l7 aI ⟨E,⟨N,rfl,q1,q2⟩,r9⟩ aT ar;have al:=ar (.rd N (E.map a5)) q1 (eP q2);have a9:=r9.2.1;refine⟨_,rfl,al.ah λbh ao=>ao.hU 1 rfl (λH=>u9 H) ?_⟩;rintro _ bi l8 ay ⟨rfl,aj⟩ ae _;have bc:=Vf aj;refine⟨rfl,ae.hU 1 rfl (λH=>sy co (bV _ (bV _ C)) H) ?_⟩;rintro _ bj l9 ok ⟨ls,⟨sl,rfl,u1,u2⟩,aJ⟩ aU av;have am:=av (.rd sl (ls.map a5)) u1 (eP u2);have tr:rR l4 ac F E ls ok l9:=⟨⟨l5,aE,l6,aG,l7,aI,l8,ay,r7,r8,r9,aj,aJ⟩⟩;refine⟨_,rfl,am.ah λbk I=>⟨ok,I.ld 1 1,?_⟩⟩;cases ok with
  |false=>exact aN rfl (I.ah λaQ h=>⟨.inl ⟨⟨⟨ik 6 x,n,G,F,jV d,ls,E⟩,O,sl,N⟩,VD sr tr (.inl rfl),rfl⟩,h.fr⟩)
  |true=>
   refine aM rfl ⟨_,I.ld 1 0,I.ah λaQ h=>⟨h.ld 1 0,?_,h.fr⟩⟩;rw[rr];by_cases Z:l9=[]
   .subst Z;rw[aR (show ba []=bn #[]from rfl)];obtain⟨y1,y2⟩:=af7 sr tr co y aw;refine .inr ⟨⟨⟨ik 6 x,n,G,F,jV d,ls,E⟩,O,sl,N⟩,y1,y2,rfl,λe he=>?_⟩;simp only[aq,aL,aO]at he;rcases he with rfl|rfl|rfl
    .exact ⟨h.rd _ ws,eP λb j=>bb q.fr.size (p2 b j)⟩
    .exact ⟨h.rd _ ws,eP λb j=>bb ad.fr.size (q2 b j)⟩
    .exact ⟨h.rd _ ws,eP λb j=>bb ae.fr.size (u2 b j)⟩
   .rw [aW (λe:ba l9=bn #[]=>Z (o' e))];exact .inl ⟨⟨⟨ik 6 x,n,G,F,jV d,ls,E⟩,O,sl,N⟩,VD sr tr (.inr Z),rfl⟩
 refine jH (λB=>?_) (λB=>?_)
 .have B:d=[45]:=o' B;have e:jV d=bn #[]:=by unfold jV;rw[au B];rfl
  rw[e]at K;exact A.ah λk q=>K k q
 .have e:jV d=ba d:=by unfold jV;rw[ag (λe=>B (by rw[e];rfl))]
  rw[e]at K;exact A.ah λk q=>K k q
def Zt{line:List UInt8}(B:line.length<=1000000000){M:Nat->Prop}{w0 w:J}{L D:List En}(y:fU∈D)(z:h0∈D)(H:LH M w0 w L D){U:List Nat}{K:aK}(E:∀(d:Sp) h,zt line->LH M w0 h L D->K (ae (.tuple #[d.v,.bool false])) h)(F:∀(d:Sp) h,kO d.x->line=cU d.x->LH M w0 h L (D++[d.pE]++[d.hE]++[d.lE])->(∀e∈[d.pE,d.hE,d.lE],∀b∈e.fp,w.heap.size<=b)->K (ae (.tuple #[d.v,.bool true])) h):
  ep U V Gk #[.string (ba line)] w K:=by
 refine gn ((Zu B y z (LH.start D H.rd)).mono ?_);rintro r h ⟨⟨v,C,rfl⟩|⟨d,k,q,rfl,j⟩,f⟩
 .exact ⟨f,E v h C (H.bz f)⟩
 .obtain ⟨G,I⟩:=j d.pE ws;obtain⟨N,O⟩:=j d.hE ws;obtain⟨P,Q⟩:=j d.lE ws;exact⟨f,F d h k q ((((H.bz f).sL H.oF _ G I).sL H.oF _ N O).sL H.oF _ P Q) λe A=>(j e A).2⟩
namespace K3
def ok:=ay (ax V Tryz.f98 [] []) Oi [.I]
end K3
namespace xy
def L0:=bh (ax V Tryz.f64 [] []) [0,2,2] [(0,.U),(3,.s)]
abbrev t1:=bg L0
def bE:=bm t1 L0
def ok:=ay t1 Oh [.U]
end xy
namespace K1
def ok:=ay (ax V Tryz.f62 [] []) Oe [.I]
end K1
namespace uL
def L0:=bh (ax V Tryz.f63 [] []) [0,1,1,1,2] [(0,.s),(3,.s),(4,.I)]
abbrev t1:=bg L0
def bE:=bm t1 L0
def ok:=ay t1 Of [.s]
end uL
namespace K2
def ok:=ay (ax V Tryz.f65 [] []) Og [.s]
end K2
namespace xH
def a6:=bh (ax V Tryz.f33 [] [5]) [0,1,1,1,2] [(0,.s),(3,.s),(4,.I)]
abbrev t1:=bg a6
def bD:=bm t1 a6
def aC:=ay t1 ON [.s]
end xH
namespace K0
abbrev S0:=ak (ax V Tryz.f15 [] []) [0,1,1,1,1] []
abbrev t1:=ao S0
def ok:=ay t1 AR [.s,.I,.I]
end K0
namespace sa
abbrev P0:Ps:=[(0,.I),(3,.st),(4,.st),(5,.I)]
def L1:=bh (ax V Tryz.f61 [] []) [0,1,1,1,4] P0
abbrev t1:=bg L1
abbrev S3:=ak t1 [2,2,1,1,4] P0
abbrev t2:=ao S3
abbrev S2:=ak t2 [2,2,1,2,1,1,4] [(0,.I),(3,.st),(4,.st),(5,.I),(6,.I)]
abbrev t3:=ao S2
def fO:=bm t3 L1
abbrev S0:=ak t3 [3] [(0,.I),(3,.st)]
abbrev t4:=ao S0
def ok:=ay t4 N' [.I]
end sa
namespace xM
def a6:=bh (ax V Tryz.f68 [(6,ls [0,1,2,5,6,3,4,7,8,9]),(7,ls [0,1,2,5,6,3,4,7,8,9]),(8,ls [0,1,2,6,7,3,4,5,8,9,10])] [5]) [0,1,1,1,2] [(0,.s),(3,.s),(4,.I)]
abbrev t1:=bg a6
def bD:=bm t1 a6
def aC:=ay t1 Pe [.s]
end xM
namespace Ly
def aC:=ay (ax V Tryz.f67 [(2,ls [0,1,2,5,6,3,4,7,8,9])] [1]) O6 [.a 4,.s,.s,.s,.s]
end Ly
namespace xK
def a6:=bh (ax V Tryz.f36 [] [1]) [0,1,1,1,2] [(1,.l [.s,.s] eL),(3,.s),(4,.I)]
abbrev t1:=bg a6
def bD:=bm t1 a6
def aC:=ay t1 O5 [.a 2,.s,.s]
end xK
namespace Lz
def aC:=ay (ax V Tryz.f11 [(1,ls [0,2,1,3,4,5])] [2,3]) O9 [.a 2,.s,.s,.a 2,.s,.s]
end Lz
namespace uS
abbrev P0:Ps:=[(0,.s),(3,.st),(4,.I)]
def L0:=bh (ax V Tryz.f31 [] []) [0,1,1,1,2] P0
abbrev t1:=bg L0
abbrev S1:=ak t1 [1,2,1,2,1,1,2] P0
abbrev t2:=ao S1
def bE:=bm t2 L0
def ok:=ay t2 Pd [.s]
end uS
namespace LA
def ok:=ay (ax V Tryz.f66 [] []) Pf []
end LA
namespace EK
abbrev b3:=ak (ax V Tryz.f34 [(4,ls [0,1,4,5,2,3,6,7,8]),(5,ls [1,2,6,9,12,13,17,18,22,23,0,3,4,5,7,8,10,11,14,15,16,19,20,21,24,25,26])] [1]) [4] [(1,.l [.I,.I,.I,.s,.st,.s,.s] dD),(3,.st),(4,.st)]
abbrev t1:=ao b3
abbrev bt:=ak t1 [3] [(1,.l [.I,.I,.I,.s,.st,.s,.s] dD),(3,.st)]
abbrev t2:=ao bt
def aC:=ay t2 O7 [.a 7,.I,.I,.I,.s,.st,.s,.s]
end EK
namespace xL
def L0:=bh (ax V Tryz.f32 [(5,lr 18)] []) [0,1,1,1,2] [(0,.s),(3,.s),(4,.I)]
abbrev t1:=bg L0
def bE:=bm t1 L0
def ok:=ay t1 Pc [.s]
end xL
namespace nA
def a6:=bh (ax V Tryz.f10 [(6,ls [0,1,2,6,7,11,12,3,4,5,8,9,10,13,14,15,16,17,18])] [1,5]) [0,1,1,1,2] [(1,.l [.s,.s] eL),(3,.s),(4,.I)]
abbrev t1:=bg a6
def cy:=bh t1 [0,1,1,1,2,2,1,2,1,1,2] [(1,.l [.s,.s] eL),(3,.s),(4,.I),(5,.l [.s,.s,.s,.s] fw),(6,.I)]
abbrev t2:=bg cy
def dH:=bm t2 cy
def iC:=bh t2 [0,1,1,1,3] [(1,.l [.s,.s] eL),(3,.s),(7,.I)]
abbrev t3:=bg iC
def kL:=bm t3 iC
def bD:=bm t3 a6
def aC:=ay t3 O8 [.a 2,.s,.s]
end nA
namespace uR
abbrev P0:Ps:=[(0,.s),(3,.st),(4,.I)]
def L0:=bh (ax V Tryz.f9 [] []) [0,1,1,1,2] P0
abbrev t1:=bg L0
abbrev S1:=ak t1 [2,2,1,1,2] P0
abbrev t2:=ao S1
def bE:=bm t2 L0
def ok:=ay t2 Pa [.s]
end uR
namespace gS
noncomputable def C0:Code:=(Tryz.f13.body).getD .skip
noncomputable def C1:=C0.sn
noncomputable def C2:=C1.sn
noncomputable def C3:=C2.fs
noncomputable def C4:=C3.sn
noncomputable def C5:=C4.fs
noncomputable def C6:=C5.fs
noncomputable def C7:=C2.sn
abbrev Q0(R:aK):iA:=(Exit.then (gj V (cx 141) C7 (bodyPost V Tryz.f13 R)) (bodyPost V Tryz.f13 R))
abbrev Q1(R:aK):iA:=(Exit.inBlock 0 (Q0 R))
def L0(h:Sl)(j:Int)(t4 k:Addr)(d:Int)(w:J)(R:aK):Prop:=LP V (cx 141) C6 (Q1 R) [(0,h.v),(1,.i j),(4,.pointer (some t4)),(5,.pointer (some k)),(6,.i d)] w
def qj(E:Env)(w:J)(R:aK):Prop:=W.asSlice (Env.get? E 0) λh=>W.asInt .i64 (Env.get? E 1) λj=>W.cM (Env.get? E 4) λq=>W.cM (Env.get? E 5) λk=>W.asInt .i64 (Env.get? E 6) λd=>L0 h j q k d w R
def tR:Da V 141 qj C6 Q1:=by intro E D L h;obtain⟨G,y,j⟩:=W.rU h;obtain⟨H,z,k⟩:=W.hC j;obtain⟨K,A,q⟩:=W.cT k;obtain⟨I,B,w⟩:=W.cT q;obtain⟨F,C,x⟩:=W.hC w;intro a d;exact x a (d.cons y (d.cons z (d.cons A (d.cons B (d.cons C d.nil)))))
noncomputable def C8:=C6.sn
noncomputable def C9:=C8.sn
abbrev Q2(R:aK):iA:=(Exit.then (nc V (cx 141) C6 (Q1 R)) (Q1 R))
abbrev S1(h:Sl)(j:Int)(t4 k:Addr)(d:Int)(w:J)(R:aK):Prop:=
 L0 h j t4 k (aj .i64 (d+1)) w R
def rF(E:Env)(w:J)(R:aK):Prop:=W.asSlice (Env.get? E 0) λh=>W.asInt .i64 (Env.get? E 1) λj=>W.cM (Env.get? E 4) λq=>W.cM (Env.get? E 5) λk=>W.asInt .i64 (Env.get? E 6) λd=>S1 h j q k d w R
def CW:rI V 141 rF C9 Q2:=by intro j h k q;obtain⟨M,D,y⟩:=W.rU q;obtain⟨N,F,z⟩:=W.hC y;obtain⟨P,G,A⟩:=W.cT z;obtain⟨O,H,B⟩:=W.cT A;obtain⟨L,I,C⟩:=W.hC B;exact λa d=>WP.at (E:=[(0,M.v),(1,.i N),(4,.pointer (some P)),(5,.pointer (some O)),(6,.i L)]) (rg C9 (K:=λh k=>qj h k j) (by kernel_rfl) (mp C) λ_ _ a w x=>tR j _ _ x a w) (d.cons D (d.cons F (d.cons G (d.cons H (d.cons I d.nil)))))
noncomputable def m9:=C8.fs
noncomputable def kI:=m9.fs
noncomputable def nT:=C7.fs
noncomputable def o0:=nT.sn
noncomputable def o1:=o0.fs
noncomputable def kJ:=o1.fs
noncomputable def kK:=C7.sn
abbrev Q3(R:aK):iA:=(Exit.then (gj V (cx 141) kK (bodyPost V Tryz.f13 R)) (bodyPost V Tryz.f13 R))
abbrev Q4(R:aK):iA:=(Exit.inBlock 2 (Q3 R))
def L2(h:Sl)(j:Int)(t4 k:Addr)(d:Int)(w:J)(R:aK):Prop:=LP V (cx 141) kJ (Q4 R) [(0,h.v),(1,.i j),(4,.pointer (some t4)),(5,.pointer (some k)),(7,.i d)] w
def CU(E:Env)(w:J)(R:aK):Prop:=W.asSlice (Env.get? E 0) λh=>W.asInt .i64 (Env.get? E 1) λj=>W.cM (Env.get? E 4) λq=>W.cM (Env.get? E 5) λk=>W.asInt .i64 (Env.get? E 7) λd=>L2 h j q k d w R
def I2:Da V 141 CU kJ Q4:=by intro E D L h;obtain⟨G,y,j⟩:=W.rU h;obtain⟨H,z,k⟩:=W.hC j;obtain⟨K,A,q⟩:=W.cT k;obtain⟨I,B,w⟩:=W.cT q;obtain⟨F,C,x⟩:=W.hC w;intro a d;exact x a (d.cons y (d.cons z (d.cons A (d.cons B (d.cons C d.nil)))))
noncomputable def nU:=kJ.sn
noncomputable def nV:=nU.fs
noncomputable def nW:=nV.fs
noncomputable def lu:=nW.sn
noncomputable def mu:=lu.sn
noncomputable def qh:=mu.sn
noncomputable def lx:=qh.sn
noncomputable def tG:=lx.sn
noncomputable def tH:=nU.sn
abbrev Q5(R:aK):iA:=(Exit.then (gj V (cx 141) tH (Exit.then (nc V (cx 141) kJ (Q4 R)) (Q4 R))) (Exit.then (nc V (cx 141) kJ (Q4 R)) (Q4 R)))
abbrev Q6(R:aK):iA:=(Exit.inBlock 3 (Q5 R))
abbrev S6(k:Sl)(q:Int)(t4 d:Addr)(j:Int)(x:Addr)(w:J)(R:aK):Prop:=
 ∃t135:Sl,w.cell? (d.add 1)=some (t135.v)/\
 ab' w x λy z A B C D E=>dG w (.cells #[.i y,.i z,.i A,B.v,.string C,D.v,E.v] dD) λF=>
 ∃(t138:Sl) (h:J),gx V (eA #[wc,wc] wc #[t135.v,.slice (some (nb w)) 1 1]) F=.ok (t138.v) h/\aS h (d.add 1) (t138.v) λG=>
 L2 k q t4 d (aj .i64 (j+1)) G R
def rH(E:Env)(w:J)(R:aK):Prop:=W.asSlice (Env.get? E 0) λh=>W.asInt .i64 (Env.get? E 1) λj=>W.cM (Env.get? E 4) λx=>W.cM (Env.get? E 5) λk=>W.asInt .i64 (Env.get? E 7) λd=>W.cM (Env.get? E 9) λq=>S6 h j x k d q w R
def wG:rI V 141 rH tG Q6:=by intro w h j x;obtain⟨O,F,y⟩:=W.rU x;obtain⟨P,G,z⟩:=W.hC y;obtain⟨T,H,A⟩:=W.cT z;obtain⟨Q,I,B⟩:=W.cT A;obtain⟨N,L,C⟩:=W.hC B;obtain⟨S,M,D⟩:=W.cT C;exact λa d=>WP.at (E:=[(0,O.v),(1,.i P),(4,.pointer (some T)),(5,.pointer (some Q)),(7,.i N),(9,.pointer (some S))]) (rg tG (K:=λh j=>pR V tH (λh j=>CU h j w) h j) (by kernel_rfl) (mp D) λ_ _ a k q=>nx k (rg tH (by kernel_rfl) q λ_ _ a k q=>I2 w _ _ q a k)) (d.cons F (d.cons G (d.cons H (d.cons I (d.cons L (d.cons M d.nil))))))
noncomputable def tI:=lx.fs
noncomputable def tJ:=tI.sn
noncomputable def tK:=tJ.fs
abbrev Q7(R:aK):iA:=(Exit.then (gj V (cx 141) tG (Exit.inBlock 3 (Q5 R))) (Exit.inBlock 3 (Q5 R)))
noncomputable def rz:=tK.sn
noncomputable def rA:=rz.sn
noncomputable def tL:=rA.fs
noncomputable def CD:=rA.sn
abbrev S5(x:Sl)(y:Int)(t4 z:Addr)(h j:Int)(d:Addr)(w:J)(R:aK):Prop:=
 mF w λk=>∃t113:Sl,k.cell? (d.add 6)=some (t113.v)/\
 h≠0/\dG k (.cells #[.i (cw (aj .i64 (bQ j 8)) h)] cb) λA=>
 A.cell? (d.add 6)=some (t113.v)/\∃(t119:Sl) (B:J),gx V (eA #[jj,jj] jj #[t113.v,.slice (some (nb k)) 1 1]) A=.ok (t119.v) B/\aS B (d.add 6) (t119.v) λC=>
 bA (av ((cw (aj .i64 (bQ j 64)) 3)>0)) (mF C λq=>∃t126:Sl,q.cell? (d.add 6)=some (t126.v)/\
 h≠0/\dG q (.cells #[.i (cw (aj .i64 (bQ j 256)) h)] cb) λD=>
 D.cell? (d.add 6)=some (t126.v)/\∃(t132:Sl) (E:J),gx V (eA #[jj,jj] jj #[t126.v,.slice (some (nb q)) 1 1]) D=.ok (t132.v) E/\aS E (d.add 6) (t132.v) λF=>
 S6 x y t4 z h d F R) (S6 x y t4 z h d C R)
def wF(E:Env)(w:J)(R:aK):Prop:=W.asSlice (Env.get? E 0) λh=>W.asInt .i64 (Env.get? E 1) λj=>W.cM (Env.get? E 4) λy=>W.cM (Env.get? E 5) λq=>W.asInt .i64 (Env.get? E 7) λd=>W.asInt .i64 (Env.get? E 8) λk=>W.cM (Env.get? E 9) λx=>S5 h j y q d k x w R
def CY:rI V 141 wF tK Q7:=by intro q h k x;obtain⟨Q,G,y⟩:=W.rU x;obtain⟨S,H,z⟩:=W.hC y;obtain⟨Z,I,A⟩:=W.cT z;obtain⟨U,L,B⟩:=W.cT A;obtain⟨P,M,C⟩:=W.hC B;obtain⟨T,N,D⟩:=W.hC C;obtain⟨Y,O,F⟩:=W.cT D;exact λa j=>WP.at (E:=[(0,Q.v),(1,.i S),(4,.pointer (some Z)),(5,.pointer (some U)),(7,.i P),(8,.i T),(9,.pointer (some Y))]) (sd tK (K:=λh k=>ed V rz (λh k=>g9 (Env.val h (.tmp 124)) (Ew V tL [0,1,2,3,4,5,6,7,8,9] (λh k=>rH h k q) h k) (rH h k q)) h k) (l:=[0,1,2,3,4,5,6,7,8,9]) (by kernel_rfl) (mp F) λ_ _ d=>(sr rz d λ_ _ d=>(cn rA d (λd=>(dg tL (by kernel_rfl) d λ_ _ a w d=>nx w (wG q _ _ d))) (λd=>(sk CD λa w=>nx w (wG q _ _ d)))))) (j.cons G (j.cons H (j.cons I (j.cons L (j.cons M (j.cons N (j.cons O j.nil)))))))
noncomputable def CE:=tJ.sn
abbrev S4(j:Sl)(k:Int)(t4 q:Addr)(h x:Int)(d:Addr)(w:J)(R:aK):Prop:=
 bA (av (h>0)) (∃t104:Int,w.cell? (d.add 0)=some (.i t104)/\
 bA (t104==5) (S5 j k t4 q h x d w R) (∃t108:Int,w.cell? (d.add 0)=some (.i t108)/\
 bA (t108==4) (S5 j k t4 q h x d w R) (S6 j k t4 q h d w R))) (S6 j k t4 q h d w R)
def qk(E:Env)(w:J)(R:aK):Prop:=W.asSlice (Env.get? E 0) λh=>W.asInt .i64 (Env.get? E 1) λj=>W.cM (Env.get? E 4) λy=>W.cM (Env.get? E 5) λq=>W.asInt .i64 (Env.get? E 7) λd=>W.asInt .i64 (Env.get? E 8) λk=>W.cM (Env.get? E 9) λx=>S4 h j y q d k x w R
def rG:rI V 141 qk tI Q7:=by intro k j q w;obtain⟨Q,G,y⟩:=W.rU w;obtain⟨S,H,z⟩:=W.hC y;obtain⟨Z,I,A⟩:=W.cT z;obtain⟨U,L,B⟩:=W.cT A;obtain⟨P,M,C⟩:=W.hC B;obtain⟨T,N,D⟩:=W.hC C;obtain⟨Y,O,F⟩:=W.cT D;exact λa d=>WP.at (E:=[(0,Q.v),(1,.i S),(4,.pointer (some Z)),(5,.pointer (some U)),(7,.i P),(8,.i T),(9,.pointer (some Y))]) (sr tI (K:=λj q=>g9 (Env.val j (.tmp 111)) (wF j q k) (rH j q k)) (mp F) λ_ _ h=>(cn tJ h (λh=>(CY k _ _ h)) (λh=>(sk CE λa x=>nx x (wG k _ _ h))))) (d.cons G (d.cons H (d.cons I (d.cons L (d.cons M (d.cons N (d.cons O d.nil)))))))
noncomputable def CF:=qh.fs
abbrev Q8(R:aK):iA:=(Exit.then (gj V (cx 141) lx (Exit.inBlock 3 (Q5 R))) (Exit.inBlock 3 (Q5 R)))
noncomputable def IP:=CF.sn
noncomputable def CG:=IP.fs
noncomputable def CH:=CG.sn
noncomputable def IQ:=CH.fs
noncomputable def CI:=CH.sn
noncomputable def CJ:=CI.sn
noncomputable def CK:=CJ.fs
noncomputable def IS:=CK.sn
noncomputable def CL:=CJ.sn
noncomputable def CM:=CL.sn
noncomputable def CN:=CM.fs
noncomputable def CO:=CN.sn
noncomputable def IT:=CO.fs
noncomputable def IU:=CO.sn
noncomputable def Xe:=CM.sn
abbrev S3(q:Sl)(x:Int)(t4 j:Addr)(k d:Int)(h:Addr)(w:J)(R:aK):Prop:=
 ∃t68:Int,w.cell? (h.add 0)=some (.i t68)/\
 bA (t68==1) (dG w (.cells #[.string (bn #[97]),.string (bn #[98]),.string (bn #[99]),.string (bn #[100,100])] dv) λy=>
 (0:Int)<=(cw d 4)/\(cw d 4)<((4:Nat):Int)/\eh (some (nb w)) λA=>∃t75:ByteArray,y.cell? (A.add (a0 (cw d 4) *1))=some (.string t75)/\
 aS y (h.add 4) (.string t75) λB=>
 S4 q x t4 j k d h B R) (bA (t68==2) (aS w (h.add 2) (.i (cw d 2)) λz=>
 dG z (.cells #[.i (cw (aj .i64 (bQ d 2)) 3)] cb) λC=>
 aS C (h.add 3) (.slice (some (nb z)) 1 1) λD=>
 S4 q x t4 j k d h D R) (bA (t68==4) (∃t90:Sl,w.cell? (j.add 0)=some (t90.v)/\
 bA ((t90.n:Int)==0) (aS w (h.add 0) (.i 0) λE=>
 S4 q x t4 j k d h E R) (∃t96:Sl,w.cell? (j.add 0)=some (t96.v)/\
 (t96.n:Int)≠0/\aS w (h.add 1) (.i (cw d (t96.n:Int))) λF=>
 S4 q x t4 j k d h F R)) (S4 q x t4 j k d h w R)))
def wE(E:Env)(w:J)(R:aK):Prop:=W.asSlice (Env.get? E 0) λh=>W.asInt .i64 (Env.get? E 1) λj=>W.cM (Env.get? E 4) λy=>W.cM (Env.get? E 5) λq=>W.asInt .i64 (Env.get? E 7) λd=>W.asInt .i64 (Env.get? E 8) λk=>W.cM (Env.get? E 9) λx=>S3 h j y q d k x w R
def CX:rI V 141 wE CF Q8:=by intro k h j x;obtain⟨Q,G,y⟩:=W.rU x;obtain⟨S,H,z⟩:=W.hC y;obtain⟨Z,I,A⟩:=W.cT z;obtain⟨U,L,B⟩:=W.cT A;obtain⟨P,M,C⟩:=W.hC B;obtain⟨T,N,D⟩:=W.hC C;obtain⟨Y,O,F⟩:=W.cT D;exact λa w=>WP.at (E:=[(0,Q.v),(1,.i S),(4,.pointer (some Z)),(5,.pointer (some U)),(7,.i P),(8,.i T),(9,.pointer (some Y))]) (sr CF (K:=λh j=>ed V CG (λh j=>g9 (Env.val h (.tmp 69)) (pR V IQ (λh j=>qk h j k) h j) (ed V CI (λh j=>g9 (Env.val h (.tmp 77)) (ed V CK (λh j=>pR V IS (λh j=>qk h j k) h j) h j) (ed V CL (λh j=>g9 (Env.val h (.tmp 87)) (ed V CN (λh j=>g9 (Env.val h (.tmp 92)) (pR V IT (λh j=>qk h j k) h j) (pR V IU (λh j=>qk h j k) h j)) h j) (qk h j k)) h j)) h j)) h j) (mp F) λ_ _ d=>(bk IP 4 (by kernel_rfl) (sr CG d λ_ _ d=>(cn CH d (λd=>(rg IQ (by kernel_rfl) d λ_ _ a q d=>nx q (sq lx (rG k _ _ d)))) (λd=>(sr CI d λ_ _ d=>(cn CJ d (λd=>(sr CK d λ_ _ d=>(rg IS (by kernel_rfl) d λ_ _ a q d=>nx q (sq lx (rG k _ _ d))))) (λd=>(sr CL d λ_ _ d=>(cn CM d (λd=>(sr CN d λ_ _ d=>(cn CO d (λd=>(rg IT (by kernel_rfl) d λ_ _ a q d=>nx q (sq lx (rG k _ _ d)))) (λd=>(rg IU (by kernel_rfl) d λ_ _ a q d=>nx q (sq lx (rG k _ _ d))))))) (λd=>(sk Xe λa q=>nx q (sq lx (rG k _ _ d)))))))))))))) (w.cons G (w.cons H (w.cons I (w.cons L (w.cons M (w.cons N (w.cons O w.nil)))))))
abbrev Q9(R:aK):iA:=(bodyPost V Tryz.f13 R)
noncomputable def Xf:=kK.sn
abbrev S7(t4 h:Addr)(w:J)(R:aK):Prop:=
 Nl w h λq x=>aS w t4 (q.v) λy=>
 aS y (t4.add 1) (x.v) λd=>
 Nl d t4 λj k=>R (ae (.agg #[j.v,k.v])) d
def wH(E:Env)(w:J)(R:aK):Prop:=W.cM (Env.get? E 4) λh=>W.cM (Env.get? E 5) λd=>S7 h d w R
def CZ:rI V 141 wH kK Q9:=by intro k j h q;obtain⟨D,A,y⟩:=W.cT q;obtain⟨C,B,z⟩:=W.cT y;exact λa d=>WP.at (E:=[(4,.pointer (some D)),(5,.pointer (some C))]) (sr kK (K:=λj h=>me V Tryz.f13 j h (λv=>k (ae v) h)) (mp z) λ_ _ x=>(rt Xf λa w=>yF w x)) (d.cons A (d.cons B d.nil))
noncomputable def CP:=kJ.fs
noncomputable def CQ:=CP.sn
noncomputable def Xg:=CQ.fs
noncomputable def Xh:=CQ.sn
def j7(k:Sl)(x:Int)(t4 q:Addr)(j:Int)(w:J)(R:aK)(h:bA (av (j<(k.n:Int))) (bA (av (j<x)) (fx k j λC=>∃t50:Int,w.cell? (C.add (a0 j *1))=some (.i t50)/\
 r0 vb #[.i t50,.i 1073741824] w λt51 B=>dG B (.cells #[.i 2,.i (-2),.i 3,.i (-3)] cb) λz=>
 (0:Int)<=(cw (aj .i64 (bQ t51 18)) 4)/\(cw (aj .i64 (bQ t51 18)) 4)<((4:Nat):Int)/\eh (some (nb B)) λD=>∃t62:Int,z.cell? (D.add (a0 (cw (aj .i64 (bQ t51 18)) 4) *1))=some (.i t62)/\
 dG z (.cells #[.i t62] cb) λA=>
 dG A (.cells #[.i 0,.i 0,.i 0,.slice none 0 0,.s0,.slice none 0 0,.slice none 0 0] dD) λG=>
 afP G (nb A) (.i (cw t51 6)) (.i (cw (aj .i64 (bQ t51 6)) 3)) (.i 0) (.slice none 0 0) (.s0) (.slice (some (nb z)) 1 1) (.slice none 0 0) λF=>S3 k x t4 q j (aj .i64 (bQ t51 72)) (nb A) F R) (S7 t4 q w R)) (S7 t4 q w R)):L2 k x t4 q j w R:=
 LP.step (n:=(cx 141)) (c:=kJ) (E:=[(0,k.v),(1,.i x),(4,.pointer (some t4)),(5,.pointer (some q)),(7,.i j)]) (w:=w) (sq kJ (sr CP (show(λ(E:Env) (w:J)=>ed V CP (λE w=>g9 (Env.val E (.tmp 44)) (ed V nW (λE w=>ed V lu (λE w=>ed V mu (λE w=>wE E w R) E w) E w) E w) (wH E w R)) E w) [(0,k.v),(1,.i x),(4,.pointer (some t4)),(5,.pointer (some q)),(7,.i j)] w from mp h) λ_ _ d=>(cn CQ d (λd=>(sk Xg λa y=>nx y (sq nU (bk nV 3 (by kernel_rfl) (sr nW d λ_ _ d=>(sr lu d λ_ _ d=>(sr mu d λ_ _ d=>(sq qh (CX R _ _ d))))))))) (λd=>(xt Xh 2 (by kernel_rfl) λa y=>nx y (CZ R _ _ d))))))
noncomputable def CR:=C6.fs
noncomputable def CS:=CR.sn
noncomputable def Xi:=CS.fs
noncomputable def Xj:=CS.sn
def bE(k:Sl)(x:Int)(t4 y:Addr)(j:Int)(w:J)(R:aK)(h:r0 AR #[k.v,.i 0,.i 3] w λt13 z=>bA (av (j<t13)) (u2 V kI (λE w=>rF E w R) [(14,.bool (av (j<t13))),(13,.i t13),(12,k.v),(11,.i j),(0,k.v),(1,.i x),(4,.pointer (some t4)),(5,.pointer (some y)),(6,.i j)] z) (L2 k x t4 y 0 z R)):L0 k x t4 y j w R:=
 LP.step (n:=(cx 141)) (c:=C6) (E:=[(0,k.v),(1,.i x),(4,.pointer (some t4)),(5,.pointer (some y)),(6,.i j)]) (w:=w) (sq C6 (sr CR (show(λ(E:Env) (w:J)=>ed V CR (λE w=>g9 (Env.val E (.tmp 14)) (u2 V kI (λE w=>rF E w R) E w) (ed V nT (λE w=>CU E w R) E w)) E w) [(0,k.v),(1,.i x),(4,.pointer (some t4)),(5,.pointer (some y)),(6,.i j)] w from mp h) λ_ _ d=>(cn CS d (λd=>(sk Xi λa q=>nx q (sq C8 (bk m9 1 (by kernel_rfl) (ig kI (by kernel_rfl) d λ_ _ a q d=>nx q (CW R _ _ d)))))) (λd=>(xt Xj 0 (by kernel_rfl) λa q=>nx q (sq C7 (sr nT d λ_ _ d=>(bk o0 2 (by kernel_rfl) (lp o1 (by kernel_rfl) (I2 R _ _ d))))))))))
def ok(j:Sl)(k:Int)(w:J)(R:aK)(h:dG w (.cells #[.slice none 0 0,.slice none 0 0] eL) λq=>
 dG q (.cells #[.slice none 0 0,.slice none 0 0] eL) λx=>
 aS x (nb q) (.slice none 0 0) λy=>
 aS y ((nb q).add 1) (.slice none 0 0) λz=>
 L0 j k (nb w) (nb q) 0 z R):ai V Pb #[j.v,.i k] w R:=
 xc (R:=R) (fn:=Tryz.f13) (c:=C0) (args:=[j.v,.i k]) (by kernel_rfl) (by kernel_rfl) (by kernel_rfl) (sr C0 (show(λ(E:Env) (w:J)=>ed V C0 (λE w=>ed V C1 (λE w=>ed V C3 (λE w=>qj E w R) E w) E w) E w) (kV 0 [j.v,.i k]) w from mp h) λ_ _ d=>(sr C1 d λ_ _ d=>(sq C2 (sr C3 d λ_ _ d=>(bk C4 0 (by kernel_rfl) (lp C5 (by kernel_rfl) (tR R _ _ d)))))))
end gS
namespace ha
abbrev P0:Ps:=[(1,.s),(6,.l [.s,.s] eL),(7,.l [.s,.s] eL),(8,.I)]
def a6:=bh (ax V Tryz.f4 [(15,(.sq [0,1,2,3,4,5,6,7,8,11,12,13,14,16] (.fork (.sq [9] (.fork (ls [10,15,17,18,19]) (ls [15,10,17,18,19]))) (ls [15,9,10,17,18,19])))),(23,(.sq [0,1,2,4,5,6,7,8,9,11,12,13,15,16,17] (.fork (.sq [3] (.fork (ls [10,14,18,19,20,21,22,23,24]) (.sq [14,18,19] (.fork (ls [10,20,21,22,23,24]) (ls [20,10,21,22,23,24]))))) (.sq [14,18,19] (.fork (.sq [3] (.fork (ls [10,20,21,22,23,24]) (ls [20,10,21,22,23,24]))) (ls [20,3,10,21,22,23,24]))))))] [6,7,10,13]) [0,1,1,1,2] P0
abbrev t1:=bg a6
def cy:=bh t1 [0,1,1,1,3,2,1,2,1,1,2] [(1,.s),(6,.l [.s,.s] eL),(7,.l [.s,.s] eL),(8,.I),(9,.s),(10,.l [.s,.s] eL),(11,.s),(12,.I)]
abbrev t2:=bg cy
abbrev cd:=ak t2 [2,2,1,2,1,1,3,2,1,2,1,1,2] [(1,.s),(6,.l [.s,.s] eL),(7,.l [.s,.s] eL),(8,.I),(9,.s),(10,.l [.s,.s] eL),(11,.s),(12,.I),(13,.l [.I,.I,.I,.s,.st,.s,.s] dD)]
abbrev t3:=ao cd
abbrev dc:=ak t3 [2,2,1,1,2] P0
abbrev t4:=ao dc
def dH:=bm t4 cy
abbrev P1:Ps:=[(1,.s),(6,.l [.s,.s] eL),(7,.l [.s,.s] eL),(14,.I)]
def rK:=bh t4 [0,1,1,1,3] P1
abbrev t5:=bg rK
abbrev rQ:=ak t5 [2,2,1,1,3] P1
abbrev t6:=ao rQ
abbrev P2:Ps:=[(1,.s),(6,.l [.s,.s] eL),(7,.l [.s,.s] eL),(14,.I),(15,.I)]
abbrev n3:=ak t6 [4,2,1,2,1,1,3] P2
abbrev t7:=ao n3
abbrev jN:=ak t7 [3,2,1,2,1,1,3] P2
abbrev t8:=ao jN
abbrev mz:=ak t8 [2,2,1,2,1,1,3] P2
abbrev t9:=ao mz
def I4:=bm t9 rK
def bD:=bm t9 a6
def aC:=ay t9 O' [.s,.s,.I]
end ha
def lQ(x:Int):Bool:=av (x≠0)&&av (-1073741824<=x)&&av (x<=1073741824)
def ox:List Int->Bool
 |a::b::r=>av (a.natAbs<b.natAbs)&&ox (b::r)
 |_=>true
def mN(l:List Int):Int:=if l.length>65536 then 4 else if l.all lQ then 0 else 1
def gB(l:List Int):Int:=if mN l≠0 then mN l else if ox l then 0 else 10
abbrev iW(w0:J)(n:Int):aK:=λr d=>r=ae (.i n)/\af w0 d
def uF{l:List Int}{i:Nat}{x:Int}(h:l[i]? =some x):l.drop i=x::l.drop (i+1):=by obtain⟨d,rfl⟩:=List.getElem?_eq_some_iff.1 h;exact dz d
def x6{x:Int}:lQ x=true↔x≠0/\-1073741824<=x/\x<=1073741824:=by
 unfold lQ
 grind
section
variable {w0:J} {s:Sl} {l:List Int}
def abM{w:J}(h:bx w s l)(E:l.length<=9223372036854775806):ai V N5 #[s.v] w (iW w (mN l)):=by
 have F:=bx.len h;by_cases D:l.length>65536
 .exact r3.ok (aM (aR co) ⟨by unfold mN;grind,Fr.refl _ _⟩)
 refine r3.ok (aN (aW co) ?_);have e:mN l=if l.all lQ then 0 else 1:=by unfold mN;omega
 have loop:∀(k i:Nat) (Y:J),i+k=l.length->af w Y->l.all lQ=(l.drop i).all lQ->r3.L0 s (s.n:Int) (i:Int) Y (iW w (mN l)):=by
  intro k;induction k with
  |zero=>
   intro i Y C f d;rw[c9 co]at d;exact r3.bE (aN (aW co) ⟨by grind,f⟩)
  |succ k G=>
   intro i Y C f d;have j:l[i]? =some l[i]:=a' co;generalize l[i]=x at j;rw[uF j,List.all_cons]at d;refine r3.bE (aM (aR co) ⟨co,co,bx.cell (h.bz f) j co λp _ B=>⟨x,B,?_⟩⟩);have go:lQ x=true->r3.L0 s (s.n:Int) (aj .i64 ((i:Int)+1)) Y (iW w (mN l)):=λq=>by
    rw[bc _ co]
    grind
   have stop:lQ x=false->iW w (mN l) (ae (.i 1)) Y:=λq=>⟨by grind,f⟩;have no:¬(x≠0/\-1073741824<=x/\x<=1073741824)->lQ x=false:=λq=>Bool.eq_false_iff.2 λh=>q (x6.1 h);refine Ki.ok (dA (λy=>aF (λz=>⟨_,rfl,eb (λA=>stop (no ?_)) (λA=>go (x6.2 ?_))⟩) (λz=>⟨_,rfl,aM rfl (stop (no ?_))⟩)) (λy=>⟨_,rfl,aM rfl (stop (no ?_))⟩))
   .grind
   .grind
   .omega
   .omega
 exact loop l.length 0 w co (Fr.refl _ _) rfl
def Nc{x:Int}(d:-1073741824<=x/\x<=1073741824)(w:J):ai V N6 #[.i x] w (iW w (x.natAbs:Int)):=by
 refine Kj.ok ⟨?_,Fr.refl _ _⟩;rw[aQ _ co]
 grind
def M'{w:J}(h:bx w s l)(Q:l.length<=9223372036854775806):ai V N4 #[s.v] w (iW w (gB l)):=by
 have S:=bx.len h;refine uw.ok ((abM h Q).mono ?_);rintro _ W ⟨rfl,B⟩;refine⟨_,rfl,dA (λz=>⟨by unfold gB;grind,B⟩) (λz=>?_)⟩;have e:gB l=if ox l then 0 else 10:=by unfold gB;omega
 have G:∀d∈l,-1073741824<=d/\d<=1073741824:=λd x=>by
  unfold mN at z;split at z
  .omega
  .split at z
   .rename_i j;exact(x6.1 (ff.1 j d x)).2
   .omega
 have loop:∀(k i:Nat) (Y:J),i+1+k=l.length->af w Y->ox l=ox (l.drop i)->uw.L0 s ((i+1:Nat):Int) Y (iW w (gB l)):=by
  intro k;induction k with
  |zero=>
   intro i Y P f j;have M:∃d,l.drop i=[d]:=by
    have:(l.drop i).length=1:=by grind
    exact List.length_eq_one_iff.1 this
   obtain⟨d,x⟩:=M;rw[x]at j;exact uw.bE (aN (aW co) ⟨by rw[e,j];rfl,f⟩)
  |succ k U=>
   intro i Y P f j;have A:l[i]? =some l[i]:=a' co;have q:l[i+1]? =some l[i+1]:=a' co;generalize l[i]=d at A;generalize l[i+1]=y at q;rw[uF A,uF q]at j;have x:=G d (aD A);have T:=G y (aD q);have K:aj .i64 (((i+1:Nat):Int) - 1)=(i:Int):=by rw[aQ _ co];omega
   refine uw.bE (aM (aR co) ((bK (w:=Y) [] ws).dr λZ C=>?_));rw[K];have F:=h.bz (f.dO C.fr);refine⟨co,co,bx.cell F q co λp hp O=>⟨y,O,co,co,bx.cell F A co λaa hq H=>⟨d,H,(Nc T Z).mono ?_⟩⟩⟩;rintro _ w3 ⟨rfl,D⟩;refine⟨_,rfl,?_,(Nc x w3).mono ?_⟩
   .exact xe D H λh=>h
   rintro _ w4 ⟨rfl,L⟩;have E:=((f.dO C.fr).dO D).dO L;refine⟨_,rfl,aF (λN=>⟨?_,E⟩) (λN=>?_)⟩
   .rw [e,j];unfold ox;grind
   .rw [bc _ co];refine U (i+1) w4 co E ?_;rw[j,uF q];conv=>lhs;unfold ox
    grind
 cases I:l with
 |nil=>rw[I]at S;exact uw.bE (aN (aW (by grind)) ⟨rfl,B⟩)
 |cons d r=>rw[<-I];exact loop r.length 0 W (by grind) B rfl
end
def abL(s:ByteArray)(w:J):ai V PL #[.string s] w λr h=>r=ae (.bool (e4 (bl s)))/\af w h:=by
 have L:(bl s).length=s.size:=dY s;have no:e4 (bl s)=false->(Ending.returned (.bool false)=ae (.bool (e4 (bl s)))/\af w w):=λj=>⟨by rw[j],Fr.refl _ _⟩;cases B:bl s with
 |nil=>
  have A:s.size=0:=by grind
  exact lW.ok (aM (by grind) ⟨rfl,Fr.refl _ _⟩)
 |cons c m=>
  have M:s.size=m.length+1:=by grind
  rw[B]at no;have A:s[a0 0]? =some c:=um B 0;refine lW.ok (aP (λj=>co) (λ_=>aF (λj=>no ?_) (λj=>⟨co,c,A,aF (λq=>no ?_) (λq=>⟨co,c,A,aF (λk=>no ?_) (λk=>?_)⟩)⟩)))
  .rw [nG,aW co];rfl
  .rw [nG];unfold fD;grind
  .rw [nG];unfold fD;grind
  have F:e4 (c::m)=(bl s).all df:=by
   rw[nG,B,List.all_cons];unfold df fD
   grind
  rw[F];have loop:∀(d i:Nat),i+d=s.size->(bl s).all df=((bl s).drop i).all df->lW.L1 s (s.size:Int) (i:Int) w λr h=>r=ae (.bool ((bl s).all df))/\af w h:=by
   intro d;induction d with
   |zero=>
    intro i I z;rw[c9 co]at z;exact lW.fO (aN (aW co) ⟨by grind,Fr.refl _ _⟩)
   |succ d P=>
    intro i I z;have D:(bl s)[i]? =some (bl s)[i]:=a' co;have H:(bl s).drop i=(bl s)[i]::(bl s).drop (i+1):=dz co;rw[H,List.all_cons]at z;generalize(bl s)[i]=x at D z;have O:=x.toNat_lt;have go:df x=true->lW.S4 s (s.size:Int) (i:Int) w λr h=>r=ae (.bool ((bl s).all df))/\af w h:=λj=>by
     show lW.L1 s _ (aj .i64 ((i:Int)+1)) w _;rw[bc _ co]
     grind
    have stop:df x=false->(Ending.returned (.bool false)=ae (.bool ((bl s).all df))/\af w w):=λj=>⟨by grind,Fr.refl _ _⟩;have y:df x=true↔(97<=x.toNat/\x.toNat<=122)\/(48<=x.toNat/\x.toNat<=57)\/x.toNat=45:=by
     have K:(x==45)=true↔x.toNat=45:=by rw[beq_iff_eq];exact⟨λj=>by rw[j];rfl,λj=>UInt8.toNat_inj.1 j⟩
     unfold df fD
     grind
    have E:¬((97<=x.toNat/\x.toNat<=122)\/(48<=x.toNat/\x.toNat<=57)\/x.toNat=45)->df x=false:=λj=>Bool.eq_false_iff.2 λk=>j (y.1 k);have C:¬(97<=x.toNat/\x.toNat<=122)->bA (av ((x.toNat:Int)<48)) (bA ((x.toNat:Int) !=45) (lW.S3 w λr h=>r=ae (.bool ((bl s).all df))/\af w h) (lW.S4 s (s.size:Int) (i:Int) w λr h=>r=ae (.bool ((bl s).all df))/\af w h)) (bA (av ((x.toNat:Int)>57)) (bA ((x.toNat:Int) !=45) (lW.S3 w λr h=>r=ae (.bool ((bl s).all df))/\af w h) (lW.S4 s (s.size:Int) (i:Int) w λr h=>r=ae (.bool ((bl s).all df))/\af w h)) (lW.S4 s (s.size:Int) (i:Int) w λr h=>r=ae (.bool ((bl s).all df))/\af w h)):=λN=>
     aF (λq=>dA (λk=>stop (E co)) (λk=>go (y.2 co))) (λq=>aF (λG=>dA (λk=>stop (E co)) (λk=>go (y.2 co))) (λG=>go (y.2 co)))
    refine lW.fO (aM (aR co) ⟨co,x,by rw[bB];exact(um rfl i).trans D,aF (λq=>C co) (λq=>aF (λk=>C co) (λk=>go (y.2 co)))⟩)
  exact loop s.size 0 co rfl
def fu(s:bO)(i aB:Int):Int:=
 if s.kind<0\/s.kind>5 then 1 else if gB s.bM≠0 then gB s.bM else if bl s.nm≠[]/\e4 (bl s.nm)=false then 6
 else if s.hints.all (λd=>av (0<=d)&&av (d<i))then(if s.kind=4/\(s.node<0\/s.node>=aB)then 7 else 0)else 14
def wS(w:J)(d:Sp):Prop:=bx w d.p d.x.params/\bx w d.l d.x.bM/\bx w d.h d.x.hints
def mB(d:Sp):Prop:=d.x.params.length<=1000000000/\d.x.bM.length<=1000000000/\d.x.hints.length<=1000000000
def H'{s:bO}{i aB:Int}(h:s.kind<0\/s.kind>5):fu s i aB=1:=by unfold fu;omega
def Vy{s:bO}{i aB:Int}(h:¬(s.kind<0\/s.kind>5))(d:gB s.bM≠0):fu s i aB=gB s.bM:=by unfold fu;omega
def Vz{s:bO}{i aB:Int}(h:¬(s.kind<0\/s.kind>5))(d:gB s.bM=0)(j:bl s.nm≠[]/\e4 (bl s.nm)=false):fu s i aB=6:=by unfold fu;grind
def H9{s:bO}{i aB:Int}(h:¬(s.kind<0\/s.kind>5))(d:gB s.bM=0)(j:¬(bl s.nm≠[]/\e4 (bl s.nm)=false)):fu s i aB=if s.hints.all (λh=>av (0<=h)&&av (h<i))then(if s.kind=4/\(s.node<0\/s.node>=aB)then 7 else 0)else 14:=by unfold fu;grind
def vi{t:ByteArray}:t=bn #[]↔bl t=[]:=⟨λd=>by rw[d];rfl,λd=>by rw[<-jt t,d];rfl⟩
def Na{d:Sp}(M:mB d){i aB:Int}{w:J}(I:wS w d):ai V PX #[d.v,.i i,.i aB] w (iW w (fu d.x i aB)):=by
 refine vA.aC ((bK (w:=w) [d.hE,d.lE] (by
  intro e K;simp only[aq,aL,aO]at K;rcases K with rfl|rfl
  .exact I.2.2
  .exact I.2.1)).aH λb w1 B=>?_)
 refine aF (λq=>⟨by rw[H' (.inl q)],B.fr⟩) (λW=>aF (λq=>⟨by rw[H' (.inr q)],B.fr⟩) (λY=>B.aA (M' (l:=d.x.bM) (B.getD 1) (by have:=M.2.1;omega)) ?_));have G:¬(d.x.kind<0\/d.x.kind>5):=co
 rintro _ N rfl E;refine⟨_,rfl,dA (λq=>⟨by rw[Vy G q],E.fr⟩) (λD=>?_)⟩;have H:¬(bl d.x.nm≠[]/\e4 (bl d.x.nm)=false)->∀z,LH F0 w z [.g b] [d.hE,d.lE]->vA.b3 i aB b d.x.kind d.x.node d.x.da d.p d.x.nm d.l d.h z (iW w (fu d.x i aB)):=by
  intro A z y;have L:bx z d.h d.x.hints:=y.getD 0;have Z:=bx.len L;have e:=H9 (i:=i) (aB:=aB) G D A;have loop:∀(k j:Nat),j+k=d.x.hints.length->d.x.hints.all (λq=>av (0<=q)&&av (q<i))=(d.x.hints.drop j).all (λq=>av (0<=q)&&av (q<i))->vA.iC i aB b d.x.kind d.x.node d.x.da d.p d.x.nm d.l d.h d.h (d.h.n:Int) (j:Int) z (iW w (fu d.x i aB)):=by
   intro k;induction k with
   |zero=>
    intro j T C;rw[c9 co,List.all_nil]at C;rw[C,au rfl]at e;refine vA.kL (aN (aW co) (aP (λP=>aF (λq=>⟨by grind,y.fr⟩) (λQ=>aF (λq=>⟨by grind,y.fr⟩) (λS=>⟨by grind,y.fr⟩))) (λP=>⟨by grind,y.fr⟩)))
   |succ k ih=>
    intro j T C;have F:d.x.hints[j]? =some d.x.hints[j]:=a' co;generalize d.x.hints[j]=x at F;rw[uF F,List.all_cons]at C;refine vA.kL (aM (aR co) ⟨co,co,bx.cell L F co λp _ D=>⟨x,D,aF (λq=>⟨?_,y.fr⟩) (λQ=>aF (λq=>⟨?_,y.fr⟩) (λS=>?_))⟩⟩)
    .grind
    .grind
    .rw [bc _ (by have:=M.2.2;omega)]
     grind
  exact loop d.x.hints.length 0 co rfl
 rw[rr];refine eb (λA=>?_) (λA=>H (λq=>q.1 (vi.1 (eT A))) N E);refine E.aA (abL d.x.nm N) ?_;rintro _ z rfl y;refine⟨_,rfl,eb (λq=>⟨by rw[Vz G D ⟨λO=>iy A (vi.2 O),q⟩],y.fr⟩) (λq=>H (λU=>by grind) z y)⟩
def uI:g7 V wc dD (.agg #[.int .i64 0,.int .i64 0,.int .i64 0,.slice none 0 0,.string (bn #[]),.slice none 0 0,.slice none 0 0]) 7 112:=⟨by kernel_rfl,by kernel_rfl,rfl,md,md⟩
namespace Sp
def ke(d:Sp):(c d).length=7:=rfl
def e1(l:List Sp):(l.flatMap c).length=l.length *7:=qE c 7 ke l
def one{l:List Sp}:∀u∈l.flatMap c,u.oneCell'=true:=by intro u d;obtain⟨h,_,d⟩:=cc.1 d;simp only[c,aq,aL,aO]at d;rcases d with rfl|rfl|rfl|rfl|rfl|rfl|rfl<;>rfl
structure gy(w:J)(p:Addr)(i:Nat)(d:Sp):Prop where
 c0:w.cell? ((p.add (i *7)).add 0)=some (.i d.x.kind)
 c1:w.cell? ((p.add (i *7)).add 1)=some (.i d.x.node)
 c2:w.cell? ((p.add (i *7)).add 2)=some (.i d.x.da)
 c3:w.cell? ((p.add (i *7)).add 3)=some d.p.v
 c4:w.cell? ((p.add (i *7)).add 4)=some (.string d.x.nm)
 c5:w.cell? ((p.add (i *7)).add 5)=some d.l.v
 c6:w.cell? ((p.add (i *7)).add 6)=some d.h.v
end Sp
def fP(w:J)(s:Sl)(l:List Sp):Prop:=bN 7 w s (l.flatMap Sp.c)/\∀d∈l,wS w d
def fP.n{w:J}{s:Sl}{l:List Sp}(h:fP w s l):s.n=l.length:=by have:=h.1.1;rw[Sp.e1]at this;omega
def fP.get'{w:J}{s:Sl}{l:List Sp}(h:fP w s l){i:Nat}{d:Sp}(hi:l[i]? =some d){K:Addr->Prop}(k:∀p,s.a=some p->Sp.gy w p i d->K p):eh s.a K:=
 fN.elem (f:=Sp.c) (sz:=7) Sp.ke co h.1.2.2 hi λp q j=>k p q ⟨j 0 _ rfl,j 1 _ rfl,j 2 _ rfl,j 3 _ rfl,j 4 _ rfl,j 5 _ rfl,j 6 _ rfl⟩
def fP.again{w:J}{s:Sl}{l:List Sp}(h:fP w s l){i:Nat}{d:Sp}(hi:l[i]? =some d){p:Addr}(z:s.a=some p):Sp.gy w p i d:=by have q:=h.get' hi (K:=λk=>∃x,s.a=some x/\Sp.gy w x i d) (λk j y=>⟨k,j,y⟩);rw[z]at q;obtain⟨k,j,e⟩:=q;cases j;exact e
def fP.get{w:J}{s:Sl}{l:List Sp}(h:fP w s l){i:Nat}{d:Sp}(hi:l[i]? =some d){K:Addr->Prop}(k:∀p,Sp.gy w p i d->K p):eh s.a K:=
 fN.elem (f:=Sp.c) (sz:=7) Sp.ke co h.1.2.2 hi λp q j=>k p ⟨j 0 _ rfl,j 1 _ rfl,j 2 _ rfl,j 3 _ rfl,j 4 _ rfl,j 5 _ rfl,j 6 _ rfl⟩
abbrev iw(l:List Sp):List En:=l.flatMap λd=>[d.pE,d.hE,d.lE]
def _root_.Go.W.En.sp(s:Sl)(l:List Sp):En:=.all (.bf 7 s (l.flatMap Sp.c)::iw l)
def te{w:J}{l:List Sp}:(∀e∈iw l,e.P w)↔∀d∈l,wS w d:=by
 constructor
 .intro j d k;have g:∀e∈[d.pE,d.hE,d.lE],e.P w:=λe h=>j e (cc.2 ⟨d,k,h⟩);exact⟨g d.pE ws,g d.lE ws,g d.hE ws⟩
 .intro j e h;obtain⟨d,k,h⟩:=cc.1 h;simp only[aq,aL,aO]at h;rcases h with rfl|rfl|rfl
  .exact (j d k).1
  .exact (j d k).2.2
  .exact (j d k).2.1
def dM{w:J}{s:Sl}{l:List Sp}:(En.sp s l).P w↔fP w s l:=by
 constructor
 .exact λd=>⟨d (.bf 7 s (l.flatMap Sp.c)) ws,te.1 λe h=>d e (List.mem_cons_of_mem _ h)⟩
 .intro d e h;rcases aq.1 h with rfl|h
  .exact d.1
  .exact te.2 d.2 e h
abbrev bq(l:List Sp):List bO:=l.map Sp.x
def m0:List bO->Int->Int->Int
 |[],_,_=>0
 |s::r,i,d=>if fu s i d≠0 then fu s i d else m0 r (i+1) d
def yr(ss:List bO):Int:=if ss.length>1048576 then 4 else m0 ss 0 0
def B0{l:List Sp}{i:Nat}{d:Sp}(h:l[i]? =some d):(bq l).drop i=d.x::(bq l).drop (i+1):=by
 have j:(bq l)[i]? =some d.x:=by rw[ku,h];rfl
 obtain⟨k,e⟩:=List.getElem?_eq_some_iff.1 j;rw[<-e];exact dz k
section
variable {w0:J} {s ls:Sl} {l:List Sp} {b:Nat}
def Nb(Q:l.length<=1048576)(M:∀q∈l,mB q){E:Int}{D:List En}(z:En.sp s l∈D):∀(k i:Nat) (w:J) (L:List En),i+k=l.length->En.g b∈L->LH F0 w0 w L D->E=m0 ((bq l).drop i) (i:Int) (ls.n:Int)->
  oH.iC b ls s s (s.n:Int) (i:Int) w (iW w0 E):=by
 intro k;induction k with
 |zero=>
  intro i w L I x j e;have K:=(dM.1 (j.rd _ z)).n;rw[c9 (by simp;omega)]at e;exact oH.kL (aN (aW co) ⟨by rw[e];rfl,j.fr⟩)
 |succ k N=>
  intro i w L I x j e;have C:=dM.1 (j.rd _ z);have K:=C.n;have y:l[i]? =some l[i]:=a' co;generalize l[i]=q at y;have G:=aD y;rw[B0 y]at e;refine oH.kL (aM (aR co) ⟨co,co,C.get y λp h=>?_⟩);rw[bB];refine⟨_,_,_,_,_,_,_,h.c0,h.c1,h.c2,h.c3,h.c4,h.c5,h.c6,j.aH (λP S H=>H.ah (λT A=>A.aA (Na (d:=q) (M q G) ((dM.1 (A.rd _ z)).2 q G)) ?_) (by simp[x])) (by simp[x])⟩;rintro _ O rfl B;refine⟨_,rfl,dA (λF=>⟨by rw[e];unfold m0;rw[au F],B.fr⟩) (λF=>?_)⟩;rw[bc _ co];refine N (i+1) O _ co (by simp[x]) B ?_;rw[e];conv=>lhs;unfold m0
  rw[ag co];rfl
def abK(z:l.length<=1000000000)(x:∀j∈l,mB j){w:J}(h:fP w s l):ai V Gi #[.agg #[(⟨none,0,0⟩:Sl).v,s.v]] w (iW w (yr (bq l))):=by
 have A:=h.n;refine oH.aC ((bK (w:=w) [.sp s l] (by intro e q;rw[b0.1 q];exact dM.2 h)).aH λb y d=>aN rfl (aF (λk=>⟨?_,d.fr⟩) (λk=>?_)))
 .unfold yr;rw[au (by simp;omega)]
 .refine oH.dH (aN rfl ?_);refine Nb co x (D:=[.sp s l]) ws l.length 0 y _ co ws d ?_;unfold yr;rw[ag (by simp;omega),List.drop_zero];rfl
end
def Fg{w0 w:J}{s src:Sl}{xs ys:List UInt8}(F:af w0 w)(A:e0 w s xs)(k:∀j∈az s,w0.heap.size<=j)(B:Bytes w src ys)(C:xs.length+ys.length<=100000000000000):
  ∃d h,(eA #[dB,dB] dB #[s.v,src.v]).run V w=.ok d.v h/\e0 h d (xs++ys)/\af w0 h/\(∀j∈az d,w0.heap.size<=j):=by obtain⟨d,h,q,x,y,z,_⟩:=wY (ty:=dB) A B co;exact⟨d,h,q,x,aaW F k y,adf F k z⟩
def Mu{w0 w:J}{s:Sl}{xs:List UInt8}(F:af w0 w)(x:e0 w s xs)(q:∀j∈az s,w0.heap.size<=j)(c:UInt8)(y:xs.length<=10000000000000):
  ∃d h,(eA #[dB,dB] dB #[s.v,.slice (some (Addr.mk w.heap.size 0 none)) 1 1]).run V (w.alloc (.cells #[.int .u8 (c.toNat:Int)] cJ))=.ok d.v h/\e0 h d (xs++[c])/\af w0 h/\(∀j∈az d,w0.heap.size<=j):=by have k:af w (w.alloc (.cells #[.int .u8 (c.toNat:Int)] cJ)):=Fr.alloc _ _ _;exact Fg (src:=⟨some ⟨w.heap.size,0,none⟩,1,1⟩) (F.dO k) (x.bz k) q (GS w c) (by grind)
def aaj{w0:J}:∀(n:Nat) (w:J) (out:Sl) (U:List UInt8),n<18446744073709551616->U.length+(ew n).length<=100->af w0 w->e0 w out U->(∀F∈az out,w0.heap.size<=F)->
  xy.L0 (n:Int) out w (iV w0 (U++ew n)):=by
 intro n;induction n using Nat.strongRecOn with
 |_ n E=>
  intro w out U G A z B C;refine xy.bE (bT (λD=>?_) (λD=>?_))
  .have y:¬n<128:=by grind
   rw[ny y]at A ⊢;have e:aj .u8 (aj .u64 (128+(cw (n:Int) 128)))=((db (n%128+128)).toNat:Int):=by rw[IntWalk.rem_in _ _ co,IntWalk.u64_in _ co,IntWalk.u8_in _ co];simp;omega
   rw[e];obtain⟨d,h,j,k,q,x⟩:=Mu z B C (db (n%128+128)) co;refine⟨d,h,j,?_⟩;show xy.L0 (aj .u64 (bQ (n:Int) 128)) d h _;rw[IntWalk.u64_quo _ _ co,show((n:Int) / 128)=((n / 128:Nat):Int)from rfl,show U++db (n%128+128)::ew (n / 128)=(U++[db (n%128+128)])++ew (n / 128)by simp];exact E (n / 128) co h d _ co (by grind) q k x
  .have y:n<128:=by grind
   rw[mG y]at A ⊢;rw[show aj .u8 (n:Int)=((db n).toNat:Int)from by rw[Iy];simp];obtain⟨d,h,j,k,q,x⟩:=Mu z B C (db n) co;exact⟨d,h,j,d,rfl,k,q,x⟩
def z5(n:Nat)(d:n<18446744073709551616)(w:J):ai V Oh #[.int .u64 (n:Int)] w (iV w (ew n)):=by have:=eM n d;exact xy.ok (aaj n w ⟨none,0,0⟩ [] d (by grind) (Fr.refl _ _) (Ow.nil _ _) (by simp[az]))
def aak(n:Int)(j:aY n)(w:J):ai V Oi #[.int .i64 n] w λr k=>r=ae (.int .u64 (zz n:Int))/\w=k:=by
 obtain⟨q,x⟩:=j;refine K3.ok (bT (λd=>?_) (λd=>?_))
 .have h:=eT d;refine⟨?_,rfl⟩;rw[aQ (n+1) co,aQ _ co,IntWalk.u64_in (0 - (n+1)) co,IntWalk.u64_in (2 *(0 - (n+1))) co,IntWalk.u64_in _ co];congr 2;unfold zz
  grind
 .have h:=iy d;refine⟨?_,rfl⟩;rw[IntWalk.u64_in n co,IntWalk.u64_in _ co];congr 2;unfold zz
  grind
def lJ(n:Int)(d:aY n)(w:J):ai V Oe #[.int .i64 n] w (iV w (bJ n)):=by refine K1.ok ((aak n d w).mono ?_);rintro r j ⟨rfl,rfl⟩;refine⟨_,rfl,(z5 (zz n) (Cz n d.1 d.2) w).mono ?_⟩;rintro r j ⟨s,rfl,h⟩;exact⟨s,rfl,s,rfl,h⟩
def z3{w:J}{s:Sl}{b:List UInt8}(h:Bytes w s b)(C:b.length<=1000000000):ai V Og #[s.v] w (iV w (dF b)):=by refine K2.ok ?_;rw[Bytes.len h,tu _ co];refine(z5 b.length co w).mono ?_;rintro r D ⟨t,rfl,A,d,z⟩;have:=eM b.length co;obtain⟨j,B,k,q,x,y⟩:=Fg d A z (h.bz d) co;exact⟨t,rfl,j,B,k,j,rfl,q,x,y⟩
def aai{w0:J}{s:Sl}{l:List Int}(B:bx w0 s l)(hi:∀y∈l,aY y)(O:l.length<=1000000000):∀(d i:Nat),i+d=l.length->∀(w:J) (out:Sl) (U:List UInt8),U.length<=10+10 *i->af w0 w->e0 w out U->(∀y∈az out,w0.heap.size<=y)->
  uL.L0 s out (i:Int) w (iV w0 (U++(l.drop i).flatMap bJ)):=by
 have P:=bx.len B;intro d;induction d with
 |zero=>
  intro i I w out U H h A k;refine uL.bE (aN (aW co) ?_);rw[c9 co];exact⟨out,rfl,by grind,h,k⟩
 |succ d M=>
  intro i I w out U H h A k;have j:i<l.length:=co
  have K:l[i]? =some l[i]:=a' j;have C:=hi _ (List.getElem_mem j);refine uL.bE (aM (aR co) ⟨co,co,bx.cell (B.bz h) K co λp _ L=>⟨_,L,(lJ _ C w).mono ?_⟩⟩);rintro r S ⟨t,rfl,N,z,Q⟩;have:=dk _ C;obtain⟨q,x,D,E,F,G⟩:=Fg (h.dO z) (A.bz z) k N.rd co;refine⟨t,rfl,q,x,D,?_⟩;show uL.L0 s q (aj .i64 ((i:Int)+1)) x _;rw[bc i co,dz j,List.flatMap_cons,<-ck];exact M (i+1) co x q _ (by grind) F E G
def uG{w:J}{s:Sl}{l:List Int}(d:bx w s l)(hi:∀y∈l,aY y)(j:l.length<=1000000000):ai V Of #[s.v] w (iV w (cY l)):=by refine uL.ok ?_;rw[bx.len d,tu _ co];refine(z5 l.length co w).mono ?_;rintro r x ⟨t,rfl,q,h,k⟩;have z:=eM l.length co;refine⟨t,rfl,?_⟩;have:=aai d hi j l.length 0 co x t _ co h q k;rw[List.drop_zero]at this;exact this
def ej(s:bO):List UInt8:=bJ s.kind++bJ s.node++bJ s.da++cY s.params++dF (bl s.nm)++cY s.bM++cY s.hints
def eJ(ss:List bO):List UInt8:=bJ (ss.length:Int)++ss.flatMap ej
structure wy(s:bO):Prop where
 kind:aY s.kind
 node:aY s.node
 da:aY s.da
 params:(∀x∈s.params,aY x)/\s.params.length<=100000000
 bM:(∀x∈s.bM,aY x)/\s.bM.length<=100000000
 hints:(∀x∈s.hints,aY x)/\s.hints.length<=100000000
 nm:s.nm.size<=100000000
def Yx{w:J}{s:Sl}{U:List UInt8}(h:Bytes w s U):bN 1 w s (U.map bL):=⟨by rw[h.1,Nat.mul_one],h.2.1,h.2.2⟩
def qA{l:List Int}(hi:∀d∈l,aY d)(x:l.length<=100000000):(cY l).length<=1000000010:=by
 have w:=eM l.length co;have j:∀l:List Int,(∀d∈l,aY d)->(l.flatMap bJ).length<=10 *l.length:=by
  intro l;induction l with
  |nil=>grind
  |cons d l k=>
   intro h;have a:=dk d (h d ws);have b:=k λq y=>h q (by grind)
   grind
 have:=j l hi;unfold cY
 grind
def EE{b:List UInt8}(h:b.length<=100000000):(dF b).length<=100000010:=by
 have d:=eM b.length co;unfold dF
 grind
def VB{s:bO}(h:wy s):(ej s).length<=3200000000:=by
 have d:=dk _ h.kind;have j:=dk _ h.node;have k:=dk _ h.da;have q:=qA h.params.1 h.params.2;have w:=qA h.bM.1 h.bM.2;have x:=qA h.hints.1 h.hints.2;have y:=EE (b:=bl s.nm) (by rw[dY];exact h.nm);unfold ej
 grind
section
variable {M:Nat->Prop} {w0 w:J} {L D:List En} {U:List Nat}
def _root_.Go.W.LH.mQ(H:LH M w0 w L D)(i:Nat){out:Sl}{xs ys:List UInt8}(hi:L[i]? =some (.row cJ 1 out (xs.map bL)))(E:xs.length<=20000000000000)(F:ys.length<=20000000000000){f:FuncId}{args:Array aa}{K:Sl->J->Prop}(y:ai V f args w (iV w ys))(x:∀s' q,LH M w0 q (L.set i (.row cJ 1 s' ((xs++ys).map bL))) D->K s' q)(bG:∀b∈U,En.g b∈L:=by simp):
  ep U V f args w λr h=>∃t:Sl,r=ae t.v/\∃(s':Sl) (d:J),gx V (eA #[dB,dB] dB #[out.v,t.v]) h=.ok s'.v d/\kept U h d/\K s' d:=
 gn (y.mono λr h ⟨t,A,k,f,_⟩=>by
  have j:=H.bz f;have z:=(j.get i hi:aG _ _ _ _ _).len;rw[gv]at z;have C:=Bytes.len k.rd;refine⟨f,t,A,j.dp i jz hi (Yx k.rd) (zM _) co (λs' d B=>x s' d ?_) bG⟩
  grind)
end
def J5{w:J}{s:Sl}{l:List Sp}(h:fP w s l)(hs:∀d∈l,wy d.x)(hl:l.length<=2000):ai V Pe #[s.v] w (iV w (eJ (bq l))):=by
 have hn:=h.n;refine xM.aC ((lJ (s.n:Int) ⟨co,co⟩ w).mono ?_);rintro _ G ⟨t,rfl,t1,W,n1⟩;refine⟨t,rfl,?_⟩;have aj:=dk (s.n:Int) ⟨co,co⟩;have H:LH F0 w G [.row cJ 1 t ((bJ (s.n:Int)).map bL)] [.sp s l]:=((bK (w:=w) [.sp s l] (by intro e he;rw[b0.1 he];exact dM.2 h))).push (.row cJ 1 t ((bJ (s.n:Int)).map bL)) W t1.2 n1
 have loop:∀(k i:Nat) (out:Sl) (U:List UInt8) (Y:J),i+k=l.length->U=bJ (s.n:Int)++((bq l).take i).flatMap ej->U.length<=10+i *3200000000->LH F0 w Y [.row cJ 1 out (U.map bL)] [.sp s l]->xM.a6 s out (i:Int) Y (iV w (eJ (bq l))):=by
  intro k;induction k with
  |zero=>
   intro i out U Y hk B aa y;refine xM.bD (aN (aW co) ⟨out,rfl,?_,y.fr,λae hx=>(y.new _ (aD (i:=0) rfl) ae hx).resolve_right id⟩);have:eJ (bq l)=U:=by
    rw[B,eO (by grind)];unfold eJ
    grind
   rw[this];exact(y.get 0:aG _ _ _ _ _).Bf
  |succ k ih=>
   intro i out U Y hk B aa y;have A:l[i]? =some l[i]:=a' co;generalize l[i]=d at A;have z:=aD A;have j:=hs d z;have Z:=dM.1 (y.getD 0);have z1:=dk _ j.kind;have z2:=dk _ j.node;have am:=dk _ j.da;have z4:=qA j.params.1 j.params.2;have z5:=qA j.bM.1 j.bM.2;have z6:=qA j.hints.1 j.hints.2;have z7:=EE (b:=bl d.x.nm) (by rw[dY];exact j.nm);have af:U.length<=10000000000000:=co
   refine xM.bD (aM (aR co) ⟨co,co,Z.get A λp q=>?_⟩);rw[bB];refine⟨_,_,_,_,_,_,_,q.c0,q.c1,q.c2,q.c3,q.c4,q.c5,q.c6,y.aH λb w2 L=>L.ah λw3 M=>?_⟩;refine M.mQ 0 rfl co co (lJ _ j.kind w3) λs1 w4 N=>N.mQ 0 rfl (by grind) co (lJ _ j.node w4) λs2 w5 O=>O.ah λw6 P=>?_;refine P.mQ 0 rfl (by grind) co (lJ _ j.da w6) λs3 w7 E=>?_;refine E.mQ 0 rfl (by grind) co (uG (l:=d.x.params) ((dM.1 (E.getD 0)).2 d z).1 j.params.1 (by have:=j.params.2;omega)) λs4 w8 Q=>Q.ah λw9 F=>?_;obtain⟨t',ac,S,tb,f10,_⟩:=yX w9 d.x.nm;have I:=F.bz f10;refine⟨t',ac,S,λab hq=>f10.cB ab (by rw[b0.1 hq];exact F.get 1) id,?_⟩;refine I.mQ 0 rfl (by grind) co (z3 tb (by rw[dY];have:=j.nm;omega)) λs5 ak C=>?_;refine C.mQ 0 rfl (by grind) co (uG (l:=d.x.bM) ((dM.1 (C.getD 0)).2 d z).2.1 j.bM.1 (by have:=j.bM.2;omega)) λs6 al D=>?_;refine D.mQ 0 rfl (by grind) co (uG (l:=d.x.hints) ((dM.1 (D.getD 0)).2 d z).2.2 j.hints.1 (by have:=j.hints.2;omega)) λs7 ad K=>?_;rw[bc _ co];have ag:=VB j;have T:U++bJ d.x.kind++bJ d.x.node++bJ d.x.da++cY d.x.params++dF (bl d.x.nm)++cY d.x.bM++cY d.x.hints=U++ej d.x:=by unfold ej;grind
   have ht:(bq l).take (i+1)=(bq l).take i++[d.x]:=by rw[dV,ku,A];rfl
   refine ih (i+1) s7 (U++ej d.x) ad co ?_ (by grind) ?_
   .rw [ht,cW,B];simp
   .rw [<-T];exact K.take 1
 exact loop l.length 0 t _ G co ws co H
def af8{ss:List bO}(h:∀s∈ss,wy s)(q:ss.length<=2000):(eJ ss).length<=10+ss.length *3200000000:=by
 have k:=dk (ss.length:Int) ⟨co,co⟩;have d:∀l:List bO,(∀s∈l,wy s)->(l.flatMap ej).length<=l.length *3200000000:=by
  intro l;induction l with
  |nil=>grind
  |cons j l w=>
   intro h;have a:=VB (h j ws)
   grind
 have:=d ss h;unfold eJ
 grind
def _root_.Go.W.LH.iq{M:Nat->Prop}{w0 w:J}{L D:List En}(H:LH M w0 w L D)(k:List En)(h:∀e∈k,((∀d∈D,d.P w)->e.P w)/\∀b∈e.fp,∃d∈D,b∈d.fp):LH M w0 w L k:=
 ⟨H.fr,H.own,λe j=>(h e j).1 H.rd,H.new,H.nd,λe j b x q A=>by obtain⟨d,z,y⟩:=(h e j).2 b x;exact H.dj d z b y q A⟩
abbrev bX(l:List Sp):En:=.all (iw l)
def bI{es:List En}{b:Nat}:b∈(En.all es).fp↔∃e∈es,b∈e.fp:=by unfold En.all;rw[aT,cc]
def mf{w:J}{b n sz:Nat}{cs:List aa}{T:aE}(h:w.heap[b]? =some (.cells cs.toArray T (0,0)))(d:cs.length=n *sz):bN sz w ⟨some (ab b),n,n⟩ cs:=w6 h d
def _root_.Go.W.LH.z7{M:Nat->Prop}{w0 w Y:J}{G L L' D y:List En}(H:LH M w0 w (G++L) D)(k:LH (λb=>∃e∈L,b∈e.fp) w Y L' y)(I:∀e∈y,∀b∈e.fp,w.heap.size<=b\/∃z∈D,b∈z.fp):LH M w0 Y (G++L') y:=by
 have A:=H.nd;rw[cW,hL]at A;have B:∀e∈G,∀b∈e.fp,b<w.heap.size/\∀g∈L,b∉g.fp:=λe d b h=>⟨e.lt w (H.own e (bV _ d)) b h,λg j q=>A.2.2 b (cc.2 ⟨e,d,h⟩) b (cc.2 ⟨g,j,q⟩) rfl⟩;have U:∀e∈L',∀b∈e.fp,∀g∈G,b∉g.fp:=λe d b h g j q=>by
  obtain⟨S,T⟩:=B g j b q;rcases k.new e d b h with x|⟨E,C,x⟩
  .omega
  grind
 refine⟨H.fr.trans k.fr λF Q P=>?_,λe d=>?_,k.rd,λe d b h=>?_,?_,λe d b h g j q=>?_⟩
 .obtain ⟨e,d,h⟩:=P;exact(H.new e (eD _ d) F h).resolve_left co
 .rcases aX.1 d with d|d
  .exact e.st w Y (λb h O=>k.fr.cB b O λ⟨g,j,q⟩=>(B e d b h).2 g j q) (H.own e (bV _ d))
  .exact k.own e d
 .rcases aX.1 d with d|d
  .exact H.new e (bV _ d) b h
  .rcases k.new e d b h with x|⟨E,C,x⟩
   .exact .inl (bb H.fr.size x)
   .exact H.new E (eD _ C) b x
 .rw [cW,hL];refine⟨A.1,k.nd,λF Q aa Z e=>?_⟩
  grind
 .rcases aX.1 j with j|j
  .rcases I e d b h with x|⟨z,N,K⟩
   .grind
   .exact H.dj z N b K g (bV _ j) q
  .exact k.dj e d b h g j q
def _root_.Go.W.LH.part{M:Nat->Prop}{w0 w:J}{G L D:List En}(H:LH M w0 w (G++L) D):LH (λb=>∃e∈L,b∈e.fp) w w L D:=by have j:=H.nd;rw[cW,hL]at j;exact⟨Fr.refl _ _,λe d=>H.own e (eD _ d),H.rd,λe d b h=>.inr ⟨e,d,h⟩,j.2.1,λe d b h g k=>H.dj e d b h g (eD _ k)⟩
def _root_.Go.W.LH.agb{M:Nat->Prop}{w0 w:J}{L D:List En}{U:List Nat}(H:LH M w0 w L D)(i:Nat){b:Nat}{vs:List aa}{T:aE}{v:aa}{K:J->Prop}(hi:L[i]? =some (.c b vs T))(j:∀d,LH M w0 d (L.set i (.c b (vs.set 0 v) T)) D->K d)(k:0<vs.length:=by simp)(bG:∀b∈U,En.g b∈L:=by simp):aS w (ab b) v λh=>kept U w h/\K h:=by
 have:=H.rn (v:=v) (K:=K) i 0 hi j k bG
 rwa[jq]at this
def Vc{s:Sl}{l:List Sp}{b:Nat}:b∈(En.sp s l).fp↔b∈(En.bf 7 s (l.flatMap Sp.c)).fp\/b∈(bX l).fp:=by
 unfold En.sp;rw[bI,bI]
 grind
def LU{A a b:List UInt8}{i j:Nat}(hi:i=A.length)(d:j=A.length+a.length):(ba (A++(a++b))).extract i j=ba a:=by subst hi d;rw[uk,gm,List.take_append,eO co,List.drop_append_of_le_length co,List.drop_length,List.nil_append,show A.length+a.length - A.length=a.length by omega,List.take_left'];rfl
def Fb{M:Nat->Prop}{w0 w:J}{L D:List En}{b:Nat}(H:LH M w0 w ([.g b]++L) D):∀d∈[b],¬∃e∈L,d∈e.fp:=λd k ⟨e,j,q⟩=>by have h:=H.nd;rw[cW,hL]at h;exact h.2.2 d (by simpa[En.g]using k) d (cc.2 ⟨e,j,q⟩) rfl
def yJ{e:aE}{sz:Nat}{s:Sl}{vs:List aa}{b:Nat}(h:b∈(En.bf sz s vs).fp):b∈(En.row e sz s vs).fp:=by
 have h:b∈(if vs=[]then[]else az s):=h;split at h
 .cases h
 .exact h
def oP{e:aE}{s:Sl}{vs:List aa}{b:Nat}(h:b∈(En.rd s vs).fp):b∈(En.row e 1 s vs).fp:=by
 have h:b∈(if vs=[]then[]else az s):=h;split at h
 .cases h
 .exact h
abbrev Ex:ByteArray:=⟨#[48,49,50,51,52,53,54,55,56,57]⟩
def aae:∀d<10,Ex.extract d (d+1)=ba [g' d]:=md
def DP{n:Int}(h:aY n)(w:J):ai V N' #[.i n] w λr q=>r=ae (.string (ba (bF n)))/\af w q:=by
 obtain⟨Q,S⟩:=h;refine sa.ok (aP (λh=>⟨by subst h;rw[uB co,show(0:Int).natAbs=0 from rfl,nu co];rfl,Fr.refl _ _⟩) (λF=>?_));have loop:∀(m:Nat) (k:Int) (s:List UInt8),k.natAbs=m->(k<0->n<0)->(0<k->0<n)->m<=9223372036854775808->(k=0->s≠[])->(cg n.natAbs=if m=0 then s else cg m++s)->
   sa.L1 n Ex (ba s) k w λr q=>r=ae (.string (ba (bF n)))/\af w q:=by
  intro m;induction m using Nat.strongRecOn with
  |_ m M=>
   intro k s B K L O T j;have C:=bU s;have N:s.length<=20:=by
    have d:=(Ev (u:=n.natAbs) co).2.1;rw[j]at d;split at d
    .exact d
    .rw [a7]at d;omega
   refine sa.fO (dA (λh=>?_) (λh=>?_))
   .have y:m≠0:=co
    have G:m%10<10:=Nat.mod_lt _ co;rw[ag y]at j;have z:∀A:Int,A=((m%10:Nat):Int)->sa.S2 n Ex (ba s) k A w λr q=>r=ae (.string (ba (bF n)))/\af w q:=by
     rintro _ rfl;have D:aj .i64 (((m%10:Nat):Int)+1)=((m%10+1:Nat):Int):=bc _ co;dsimp only[sa.S2,ak];rw[D,bB,bB,aae _ G];refine⟨co,?_,co,co,?_,?_⟩
     .show ((m%10+1:Nat):Int)<=((10:Nat):Int);omega
     .rw [bU,C,IntKind.max_i64];simp only[List.length_singleton];omega
     .rw [cN];have H:(bQ k 10).natAbs=m / 10:=by rw[Int.natAbs_tdiv,B];rfl
      have E:aj .i64 (bQ k 10)=bQ k 10:=aQ _ co;dsimp only[sa.S3,ak];rw[E];refine M (m / 10) co _ (g' (m%10)::s) H (λI=>K ?_) (λI=>L ?_) co ws ?_
      .rcases Int.lt_or_le k 0 with d|d
       .exact d
       .have:=Int.tdiv_nonneg d (by omega:(0:Int)<=10);omega
      .rcases Int.lt_or_le 0 k with d|d
       .exact d
       .have:=Int.tdiv_nonneg (by omega:0<=-k) (by omega:(0:Int)<=10);rw[Int.neg_tdiv]at this;omega
      .rw [j];by_cases x:m<10
       .rw [nu x,au co,Nat.mod_eq_of_lt x];rfl
       .rw [r6 x,ag co,ck];rfl
    have P:(cw k 10).natAbs=m%10:=by rw[Int.natAbs_tmod,B];rfl
    refine aF (λd=>z _ ?_) (λd=>z _ ?_)
    .rw [aQ _ co];omega
    .omega
   .have y:m=0:=co
    rw[au y]at j;refine aF (λd=>⟨?_,?_,Fr.refl _ _⟩) (λd=>⟨?_,Fr.refl _ _⟩)
    .rw [C,IntKind.max_i64];show ¬(((1+s.length:Nat):Int)>_);omega
    .rw [pk d,j,show bn #[45]=ba [45]from rfl,cN];rfl
    .rw [uB d,j]
 exact loop n.natAbs n [] rfl id id co (λh=>absurd h F) (by rw[ag co,dy])
def rX{w:J}{s:Sl}{l:List Int}(x:bx w s l)(A:∀d∈l,aY d)(i m:Int)(q:1<=m):ai V AR #[s.v,.i i,.i m] w λr C=>(∃k:Int,r=ae (.i k)/\0<=k/\k<m)/\af w C:=by have F:=bx.len x;refine K0.ok (aF (λy=>⟨⟨0,rfl,co,co⟩,Fr.refl _ _⟩) (λD=>aF (λy=>⟨⟨0,rfl,co,co⟩,Fr.refl _ _⟩) (λE=>?_)));obtain⟨j,rfl⟩:=Int.eq_ofNat_of_zero_le (by omega:0<=i);have h:l[j]? =some l[j]:=a' co;generalize l[j]=d at h;have B:=A d (aD h);refine⟨co,co,bx.cell x h (by rw[bB]) λp _ z=>⟨d,z,(Dz d m w q B).mono ?_⟩⟩;rintro _ G ⟨rfl,f⟩;exact⟨_,rfl,⟨_,rfl,kc d m q⟩,f▸Fr.refl _ _⟩
section
variable {P:aJ} {o:Oper} {E E0:Env} {w:J} {K:Env->J->Prop}
def tX(op:Op)(E E0:Env):Prop:=∀d∈op.operands.toList,∃u,E.val d=some u/\E0.val d=some u
def UI{op:Op}(h:tX op E E0)(d:o.op=op):E.ek o=true:=by
 unfold Env.ek;rw[d];exact ff.2 λk j=>by
  obtain⟨u,q,_⟩:=h k j
  grind
def UJ{op:Op}(h:tX op E E0)(q:o.op=op)(y:∀d b,op≠.select d b):execOp E.ev o=execOp E0.ev o:=
 execOp_congr o (by grind) λx w=>by rw[q]at w;obtain⟨u,j,k⟩:=h x (by grind);simp[Env.ev,j,k]
def rj{op:Op}{ty:aE}{v:aa}(d:o.op=op)(j:o.type=ty)(h:tX op E E0)(B:∀k b,op≠.select k b)(z:∀dst pos after guard (K:Env->J->Prop),g3 P ⟨dst,op,ty,pos,after,guard⟩ E w K=gF P ⟨dst,op,ty,pos,after,guard⟩ E λv _=>K (E.put dst v) w)(A:∀dst pos after guard,qZ P (execOp E0.ev ⟨dst,op,ty,pos,after,guard⟩)=some (.value v))(y:K (E.put o.dst v) w):g3 P o E w K:=by have q:=UI h d;have x:=UJ h d B;obtain⟨dst,C,D,pos,after,guard⟩:=o;simp only at d j;subst d j;rw[z];unfold gF;rw[q,x,A];exact y
def vX{op:Op}{ty:aE}{v:aa}{Y:J}(d:o.op=op)(j:o.type=ty)(h:tX op E E0)(B:∀k b,op≠.select k b)(z:∀dst pos after guard (K:Env->J->Prop),g3 P ⟨dst,op,ty,pos,after,guard⟩ E w K=qC P ⟨dst,op,ty,pos,after,guard⟩ E w λv Y=>K (E.put dst v) Y)(A:∀dst pos after guard,(execOp E0.ev ⟨dst,op,ty,pos,after,guard⟩).run P w=.ok (.value v) Y)(y:K (E.put o.dst v) Y):g3 P o E w K:=by have q:=UI h d;have x:=UJ h d B;obtain⟨dst,C,D,pos,after,guard⟩:=o;simp only at d j;subst d j;rw[z];unfold qC;rw[q,x,A];exact y
end
def afS{P:aJ}{o:Oper}{E:Env}{w:J}{K:Env->J->Prop}{f a b:Nat}{c:aa}{O:Array aE}{ty:aE}{x y:aa}(z:o.op=.call ⟨.value (.func f),#[.tmp a,.tmp b,.const c],O⟩)(A:o.type=ty)(k:E.get? a=some x)(q:E.get? b=some y)(H:c=c)(F:hS P f=true)(h:ai P f #[x,y,c] w λe d=>oq (zeroOf P ty) λv=>e=ae v/\K (E.put o.dst v) d):g3 P o E w K:=by
 obtain⟨dst,op,j,pos,after,guard⟩:=o;simp only at z A;subst z A;show cS (E.ek ⟨dst,.call ⟨.value (.func f),#[.tmp a,.tmp b,.const c],O⟩,j,pos,after,guard⟩) (bif hS P f then qy P f ((#[Operand.tmp a,.tmp b,.const c]).map E.ev) (zeroOf P j) w (λv d=>K (E.put dst v) d)else xR P f ((#[Operand.tmp a,.tmp b,.const c]).map E.ev) (zeroOf P j) w (λv d=>K (E.put dst v) d));have G:E.ek ⟨dst,.call ⟨.value (.func f),#[.tmp a,.tmp b,.const c],O⟩,j,pos,after,guard⟩=true:=by simp[Env.ek,Op.operands,Call.operands,Env.val,k,q]
 have B:E.ev (.tmp a)=x:=by simp[Env.ev,Env.val,k]
 have C:E.ev (.tmp b)=y:=by simp[Env.ev,Env.val,q]
 have D:E.ev (.const c)=c:=rfl;rw[G,F];simp only[List.map_toArray,List.map_cons,List.map_nil,B,C,D];exact h
def o4(T:List (Nat×Nat×(aa->Prop)))(L:Nat->Bool)(E:Env):Prop:=∀d∈T,(d.1=0\/L (d.1 - 1)=true)->∃v,E.get? d.2.1=some v/\d.2.2 v
def o4.get{T:List (Nat×Nat×(aa->Prop))}{L:Nat->Bool}{E:Env}(h:o4 T L E){i d:Nat}{p:aa->Prop}(j:(i,d,p)∈T)(hi:i=0\/L (i - 1)=true):∃v,E.get? d=some v/\p v:=h _ j hi
def o4.fill{T:List (Nat×Nat×(aa->Prop))}{L:Nat->Bool}{E:Env}(h:o4 T L E){i d:Nat}{v:aa}(y:∀j∈T,j.2.1=d->j.1=i+1/\j.2.2 v)(z:∀j∈T,j.1=i+1->j.2.1=d):o4 T (dL L i) (E.put (some d) v):=by
 intro j q w;by_cases k:j.2.1=d
 .exact ⟨v,by rw[k];exact px,(y j q k).2⟩
 .rw [ic (λe=>k e.symm)];by_cases x:j.1=0
  .exact h j q (.inl x)
  .refine h j q (.inr ?_);have w:=w.resolve_left x
   rwa[e7 (λA=>k (z j q co))]at w
def o4.ad'{T:List (Nat×Nat×(aa->Prop))}{L:Nat->Bool}{E:Env}(h:o4 T L E){i:Nat}{v:aa}(w:∀d∈T,d.1≠i+1):o4 T (dL L i) (E.put none v):=by
 intro d k j;show ∃v,E.get? d.2.1=some v/\d.2.2 v;refine h d k ?_;by_cases q:d.1=0
 .omega
 .have j:=j.resolve_left q;have:=w d k;rw[e7 co]at j
  grind
def afQ{P:aJ}{o:Oper}{E:Env}{w:J}{K:Env->J->Prop}{a b:Nat}{O:Array aE}{ty:aE}{s t:Sl}(y:o.op=.call ⟨.builtin .append,#[.tmp a,.tmp b],O⟩)(z:o.type=ty)(q:E.get? a=some s.v)(x:E.get? b=some t.v)(h:∃d j,(eA O ty #[s.v,t.v]).run P w=.ok (Sl.v d) j/\K (E.put o.dst d.v) j):g3 P o E w K:=by
 obtain⟨dst,op,k,pos,after,guard⟩:=o;simp only at y z;subst y z;have C:E.ek ⟨dst,.call ⟨.builtin .append,#[.tmp a,.tmp b],O⟩,k,pos,after,guard⟩=true:=by simp[Env.ek,Op.operands,Call.operands,Env.val,q,x]
 have A:E.ev (.tmp a)=s.v:=by simp[Env.ev,Env.val,q]
 have B:E.ev (.tmp b)=t.v:=by simp[Env.ev,Env.val,x]
 show cS (E.ek ⟨dst,.call ⟨.builtin .append,#[.tmp a,.tmp b],O⟩,k,pos,after,guard⟩) (∃d:Sl,∃j,(eA O k ((#[Operand.tmp a,.tmp b]).map E.ev)).run P w=.ok d.v j/\K (E.put dst d.v) j);rw[C];simp only[List.map_toArray,List.map_cons,List.map_nil,A,B];exact h
def afV{P:aJ}{o:Oper}{E:Env}{w:J}{K:Env->J->Prop}{T:aE}{a b:Nat}{p:Addr}{s:Sl}(j:o.op=.store T (.tmp a) (.tmp b))(k:E.get? a=some (.pointer (some p)))(q:E.get? b=some s.v)(hi:(1==(match P.info? T with |some i=>i.size|none=>0)&&true&&(P.info? T).isSome)=true)(h:aS w (p.add 0) s.v λd=>K (E.put o.dst undef) d):g3 P o E w K:=by
 obtain⟨dst,op,x,pos,after,guard⟩:=o;simp only at j;subst j;show(match E.val (.tmp a),E.val (.tmp b)with
  |some (.pointer (some p)),some v=>cS (v.cells.size==(match P.info? T with |some i=>i.size|none=>0)&&v.cells.toList.all sT&&(P.info? T).isSome) (ra p v.cells.toList 0 w λd=>K (E.put dst undef) d)
  |_,_=>False)
 rw[show E.val (.tmp a)=some (.pointer (some p))from k,show E.val (.tmp b)=some s.v from q];show cS (1==(match P.info? T with |some i=>i.size|none=>0)&&true&&(P.info? T).isSome) _;rw[hi];exact h
def E9:List (Op×Option Nat×aE×List Nat):=[
 (.fieldAddr eL (.tmp 5) 0,some 17,ll,[]),
 (.load oY (.tmp 17),some 18,oY,[0]),
 (.build cF #[(1,.const (.int .i64 1))],some 19,cF,[]),
 (.build cP #[(0,.const (.int .i64 0)),(5,.const (.string (bn #[118,48]))),(6,.tmp 19)],some 20,cP,[2]),
 (.buildSlice Iw 1 #[(0,.tmp 20)],some 21,Iw,[3]),
 (.buildSlice jj 1 #[(0,.const (.int .i64 0))],some 22,jj,[]),
 (.move (.tmp 0),some 23,jj,[]),
 (.move (.tmp 6),some 24,cb,[]),
 (.binOp .add cb (.const (.int .i64 1)) (.tmp 24) cb,some 25,cb,[7]),
 (.call ⟨.value (.func AR),#[.tmp 23,.tmp 25,.const (.int .i64 2)],#[jj,cb,cb]⟩,some 26,cb,[6,8]),
 (.binOp .add cb (.const (.int .i64 2)) (.tmp 26) cb,some 27,cb,[9]),
 (.buildSlice jj 1 #[(0,.tmp 27)],some 28,jj,[10]),
 (.buildSlice jj 1 #[(0,.const (.int .i64 2))],some 29,jj,[]),
 (.build dD #[(0,.const (.int .i64 1)),(4,.const (.string (bn #[104,48]))),(5,.tmp 29)],some 30,dD,[12]),
 (.buildSlice wc 1 #[(0,.tmp 30)],some 31,wc,[13]),
 (.build fw #[(0,.tmp 21),(1,.tmp 22),(2,.tmp 28),(3,.tmp 31)],some 32,fw,[4,5,11,14]),
 (.buildSlice oY 1 #[(0,.tmp 32)],some 33,oY,[15]),
 (.call ⟨.builtin .append,#[.tmp 18,.tmp 33],#[oY,oY]⟩,some 34,oY,[1,16,9]),
 (.fieldAddr eL (.tmp 5) 0,some 35,ll,[0,1,2,3,4,5,6,7,8,9,10,11,12,13,14,15,16,17]),
 (.store oY (.tmp 35) (.tmp 34),none,ll,[18,17,17,0,1,2,3,4,5,6,7,8,9,10,11,12,13,14,15,16,17])]
abbrev E7:aa:=.agg #[.i 0,.slice none 0 0,.i 0,.i 0,.u 0,.string (bn #[118,48]),.i 0,.i 1,.i 0]
abbrev E8(s:Sl):aa:=.agg #[.i 1,.i 0,.i 0,.slice none 0 0,.string (bn #[104,48]),s.v,.slice none 0 0]
abbrev mL(v:aa):Prop:=∃s:Sl,v=s.v
abbrev qM(v:aa):Prop:=∃n:Int,v=.i n
def cp(q:Int)(t4:Addr)(h:Sl)(d:Addr)(k:Int)(aB:Sl):List (Nat×Nat×(aa->Prop)):=[(0,1,(·=.i q)),(0,4,(·=.pointer (some t4))),(0,0,(·=h.v)),(0,5,(·=.pointer (some d))),(0,6,(·=.i k)),
 (1,17,(·=.pointer (some (d.add 0)))),(2,18,(·=aB.v)),(3,19,(·=.agg #[.i 0,.i 1,.i 0])),(4,20,(·=E7)),(5,21,mL),(6,22,mL),(7,23,(·=h.v)),(8,24,qM),(9,25,qM),(10,26,qM),(11,27,qM),(12,28,mL),(13,29,mL),
 (14,30,λv=>∃s:Sl,v=E8 s),(15,31,mL),(16,32,λv=>∃a b c j:Sl,v=.agg #[a.v,b.v,c.v,j.v]),(17,33,mL),(18,34,mL),(19,35,(·=.pointer (some (d.add 0))))]
structure Lm where
 g:Sl
 h:Sl
 c:Sl
 s:Sl
def Lm.cs(x:Lm):List aa:=[x.g.v,x.h.v,x.c.v,x.s.v]
def Lm.len(l:List Lm):(l.flatMap Lm.cs).length=l.length *4:=qE Lm.cs 4 (λ_=>rfl) l
def Lm.one{l:List Lm}:∀u∈l.flatMap Lm.cs,u.oneCell'=true:=by intro u d;obtain⟨h,_,d⟩:=cc.1 d;simp only[Lm.cs,aq,aL,aO]at d;rcases d with rfl|rfl|rfl|rfl<;>rfl
def EB:g7 V oY fw (.agg #[.slice none 0 0,.slice none 0 0,.slice none 0 0,.slice none 0 0]) 4 96:=⟨by kernel_rfl,by kernel_rfl,rfl,md,md⟩
abbrev iL(d h:Nat)(aB:Sl)(ls:List Lm)(st:Sl)(ds:List Sp):List En:=[.c d [(⟨none,0,0⟩:Sl).v,(⟨none,0,0⟩:Sl).v] eL,.c h [aB.v,st.v] eL,.row fw 4 aB (ls.flatMap Lm.cs),.row dD 7 st (ds.flatMap Sp.c)]
section
variable {w0:J} {mo:Int} {b4 b5:Nat} {l0 aB st:Sl} {i6:Int} {ls:List Lm} {ds:List Sp} {D:List En}
def xq(i:Nat):List Nat:=(E9.map λr=>r.2.2.2).getD i []
structure rB(w0:J)(mo:Int)(b4 b5:Nat)(l0 aB st:Sl)(i6:Int)(ls:List Lm)(ds:List Sp)(D:List En)(L:Nat->Bool)(E:Env)(w:J):Prop where
 t:o4 (cp mo (ab b4) l0 (ab b5) i6 aB) L E
 cl:∀i,L i=true->∀j∈xq i,L j=true
 ph:(L 17=false/\L 19=false/\LH F0 w0 w (iL b4 b5 aB ls st ds) D/\(L 16=true->∃(b:Nat) (x:Lm),E.get? 33=some (.slice (some (ab b)) 1 1)/\w.heap[b]? =some (.cells x.cs.toArray fw (0,0))))\/
  ((∀j,j<17->L j=true)/\L 17=true/\L 19=false/\∃(s:Sl) (x:Lm),E.get? 34=some s.v/\LH F0 w0 w [.c b4 [(⟨none,0,0⟩:Sl).v,(⟨none,0,0⟩:Sl).v] eL,.c b5 [aB.v,st.v] eL,.row fw 4 s ((ls++[x]).flatMap Lm.cs),.row dD 7 st (ds.flatMap Sp.c)] D)\/
  ((∀j,j<17->L j=true)/\L 17=true/\L 19=true/\∃(s:Sl) (x:Lm),LH F0 w0 w (iL b4 b5 s (ls++[x]) st ds) D)
def xg{L:Nat->Bool}{i:Nat}(h:∀i,L i=true->∀d∈xq i,L d=true)(w:∀d∈xq i,L d=true):∀j,dL L i j=true->∀d∈xq j,dL L i d=true:=by
 intro j k d x;have g:L d=true:=by
  by_cases q:j=i
  .grind
  .rw [e7 q]at k;grind
 grind
def rB.a{L:Nat->Bool}{E:Env}{w Y:J}(h:rB w0 mo b4 b5 l0 aB st i6 ls ds D L E w)(i d:Nat)(v:aa)(hi:i<16)(H:∀I∈xq i,L I=true)(M:L i=false)(G:d≠33)(f:af w Y)(C:∀j∈cp mo (ab b4) l0 (ab b5) i6 aB,j.2.1=d->j.1=i+1/\j.2.2 v)(F:∀j∈cp mo (ab b4) l0 (ab b5) i6 aB,j.1=i+1->j.2.1=d):rB w0 mo b4 b5 l0 aB st i6 ls ds D (dL L i) (E.put (some d) v) Y:=by
 refine⟨h.t.fill C F,xg h.cl H,?_⟩;rcases h.ph with⟨k,y,x,z⟩|⟨k,_⟩|⟨k,_⟩
 .refine .inl ⟨by rw[e7 co,k],by rw[e7 co,y],x.bz f,λq=>?_⟩;rw[e7 co]at q;obtain⟨b,K,A,B⟩:=z q;exact⟨b,K,by rw[ic G,A],f.at B id⟩
 .grind
 grind
def oR{op:Op}{a:Nat}{E:Env}{v:aa}(h:∀d∈op.operands.toList,d=.tmp a\/∃c,d=.const c)(j:E.get? a=some v):tX op E [(a,v)]:=λd k=>by
 rcases h d k with rfl|⟨c,rfl⟩
 .exact ⟨v,j,by simp[Env.val,Env.get?]⟩
 .exact ⟨c,rfl,rfl⟩
def HP{op:Op}{E:Env}(h:∀d∈op.operands.toList,∃c,d=.const c):tX op E []:=λd j=>by obtain⟨c,rfl⟩:=h d j;exact⟨c,rfl,rfl⟩
def aa1(al:ls.length<=1000)(ag:∀k,LH F0 w0 k (iL b4 b5 aB ls st ds) D->∃xs,bx k l0 xs/\∀C∈xs,aY C):allI (wQ V (rB w0 mo b4 b5 l0 aB st i6 ls ds D)) E9 0:=
 ⟨λA z k o w q y x j h=>by obtain⟨_,O,rfl⟩:=h.t.get (i:=0) (d:=5) (p:=(·=.pointer (some (ab b5)))) (by simp[cp]) (.inl rfl);refine rj w y (oR (by simp[Op.operands]) O) ws (λ_ _ _ _ _=>rfl) (λ_ _ _ _=>by kernel_rfl) (v:=.pointer (some ((ab b5).add 0))) ?_;rw[q];exact h.a 0 17 _ co j x co (Fr.refl _ _) (by simp[cp]) (by simp[cp]),
  λA z k o w q y x j h=>by
   obtain⟨_,ad,rfl⟩:=h.t.get (i:=1) (d:=17) (p:=(·=.pointer (some ((ab b5).add 0)))) (by simp[cp]) (.inr (j 0 ws));have e:(nC V oY ((ab b5).add 0) k λv _=>rB w0 mo b4 b5 l0 aB st i6 ls ds D (dL A 1) (z.put o.dst v) k)=(∃s:Sl,k.cell? ((ab b5).add 0)=some s.v/\rB w0 mo b4 b5 l0 aB st i6 ls ds D (dL A 1) (z.put o.dst s.v) k):=by kernel_rfl
   refine rh w ad (e▸⟨aB,?_,?_⟩)
   .rcases h.ph with⟨_,_,E,_⟩|⟨B,_⟩|⟨B,_⟩
    .exact E.ld 1 0
    .grind
    grind
   .rw [q];exact h.a 1 18 _ co j x co (Fr.refl _ _) (by simp[cp]) (by simp[cp]),
  λA z k o w q y x j h=>by refine rj w y (HP (by simp[Op.operands])) ws (λ_ _ _ _ _=>rfl) (λ_ _ _ _=>by kernel_rfl) (v:=.agg #[.i 0,.i 1,.i 0]) ?_;rw[q];exact h.a 2 19 _ co j x co (Fr.refl _ _) (by simp[cp]) (by simp[cp]),
  λA z k o w q y x j h=>by obtain⟨_,g,rfl⟩:=h.t.get (i:=3) (d:=19) (p:=(·=.agg #[.i 0,.i 1,.i 0])) (by simp[cp]) (.inr (j 2 ws));refine rj w y (oR (by simp[Op.operands]) g) ws (λ_ _ _ _ _=>rfl) (λ_ _ _ _=>by kernel_rfl) (v:=E7) ?_;rw[q];exact h.a 3 20 _ co j x co (Fr.refl _ _) (by simp[cp]) (by simp[cp]),
  λA z k o w q y x j h=>by obtain⟨_,g,rfl⟩:=h.t.get (i:=4) (d:=20) (p:=(·=E7)) (by simp[cp]) (.inr (j 3 ws));refine vX w y (oR (by simp[Op.operands]) g) ws (λ_ _ _ _ _=>rfl) (λ_ _ _ _=>by kernel_rfl) (v:=.slice (some (ab k.heap.size)) 1 1) (Y:=k.alloc (.cells #[.i 0,.slice none 0 0,.i 0,.i 0,.u 0,.string (bn #[118,48]),.i 0,.i 1,.i 0] cP)) ?_;rw[q];exact h.a 4 21 _ co j x co (Fr.alloc _ _ _) (by simp[cp];exact⟨⟨some (ab k.heap.size),1,1⟩,rfl⟩) (by simp[cp]),
  λA z k o w q y x j h=>by refine vX w y (HP (by simp[Op.operands])) ws (λ_ _ _ _ _=>rfl) (λ_ _ _ _=>by kernel_rfl) (v:=.slice (some (ab k.heap.size)) 1 1) (Y:=k.alloc (.cells #[.i 0] cb)) ?_;rw[q];exact h.a 5 22 _ co j x co (Fr.alloc _ _ _) (by simp[cp];exact⟨⟨some (ab k.heap.size),1,1⟩,rfl⟩) (by simp[cp]),
  λA z k o w q y x j h=>by obtain⟨_,g,rfl⟩:=h.t.get (i:=0) (d:=0) (p:=(·=l0.v)) (by simp[cp]) (.inl rfl);refine nL (.inl w) g ?_;rw[q];exact h.a 6 23 _ co j x co (Fr.refl _ _) (by simp[cp]) (by simp[cp]),
  λA z k o w q y x j h=>by obtain⟨_,g,rfl⟩:=h.t.get (i:=0) (d:=6) (p:=(·=.i i6)) (by simp[cp]) (.inl rfl);refine nL (.inl w) g ?_;rw[q];exact h.a 7 24 _ co j x co (Fr.refl _ _) (by simp[cp];grind) (by simp[cp]),
  λA z k o w q y x j h=>by obtain⟨_,g,n,rfl⟩:=h.t.get (i:=8) (d:=24) (p:=qM) (by simp[cp]) (.inr (j 7 ws));refine rj w y (oR (by simp[Op.operands]) g) ws (λ_ _ _ _ _=>rfl) (λ_ _ _ _=>by kernel_rfl) (v:=.i (aj .i64 (1+n))) ?_;rw[q];exact h.a 8 25 _ co j x co (Fr.refl _ _) (by simp[cp];grind) (by simp[cp]),
  λA z k o w q y x j h=>by
   obtain⟨_,g,rfl⟩:=h.t.get (i:=7) (d:=23) (p:=(·=l0.v)) (by simp[cp]) (.inr (j 6 ws));obtain⟨_,g',n,rfl⟩:=h.t.get (i:=9) (d:=25) (p:=qM) (by simp[cp]) (.inr (j 8 ws));obtain⟨xs,L,ah⟩:=ag k (by
    rcases h.ph with⟨_,_,E,_⟩|⟨B,_⟩|⟨B,_⟩
    .exact E
    .grind
    grind)
   refine afS w y g g' rfl (by kernel_rfl) ((rX L ah n 2 co).mono ?_);rintro _ Z ⟨⟨ai,rfl,_⟩,f⟩;rw[show zeroOf V cb=.i 0 from by kernel_rfl];refine⟨ai,rfl,?_⟩;rw[q];exact h.a 9 26 _ co j x co f (by simp[cp];grind) (by simp[cp]),
  λA z k o w q y x j h=>by obtain⟨_,g,n,rfl⟩:=h.t.get (i:=10) (d:=26) (p:=qM) (by simp[cp]) (.inr (j 9 ws));refine rj w y (oR (by simp[Op.operands]) g) ws (λ_ _ _ _ _=>rfl) (λ_ _ _ _=>by kernel_rfl) (v:=.i (aj .i64 (2+n))) ?_;rw[q];exact h.a 10 27 _ co j x co (Fr.refl _ _) (by simp[cp];grind) (by simp[cp]),
  λA z k o w q y x j h=>by obtain⟨_,g,n,rfl⟩:=h.t.get (i:=11) (d:=27) (p:=qM) (by simp[cp]) (.inr (j 10 ws));refine vX w y (oR (by simp[Op.operands]) g) ws (λ_ _ _ _ _=>rfl) (λ_ _ _ _=>by kernel_rfl) (v:=.slice (some (ab k.heap.size)) 1 1) (Y:=k.alloc (.cells #[.i n] cb)) ?_;rw[q];exact h.a 11 28 _ co j x co (Fr.alloc _ _ _) (by simp[cp];exact⟨⟨some (ab k.heap.size),1,1⟩,rfl⟩) (by simp[cp]),
  λA z k o w q y x j h=>by refine vX w y (HP (by simp[Op.operands])) ws (λ_ _ _ _ _=>rfl) (λ_ _ _ _=>by kernel_rfl) (v:=.slice (some (ab k.heap.size)) 1 1) (Y:=k.alloc (.cells #[.i 2] cb)) ?_;rw[q];exact h.a 12 29 _ co j x co (Fr.alloc _ _ _) (by simp[cp];exact⟨⟨some (ab k.heap.size),1,1⟩,rfl⟩) (by simp[cp]),
  λA z k o w q y x j h=>by obtain⟨_,g,s,rfl⟩:=h.t.get (i:=13) (d:=29) (p:=mL) (by simp[cp]) (.inr (j 12 ws));refine rj w y (oR (by simp[Op.operands]) g) ws (λ_ _ _ _ _=>rfl) (λ_ _ _ _=>by kernel_rfl) (v:=E8 s) ?_;rw[q];exact h.a 13 30 _ co j x co (Fr.refl _ _) (by simp[cp];grind) (by simp[cp]),
  λA z k o w q y x j h=>by obtain⟨_,g,s,rfl⟩:=h.t.get (i:=14) (d:=30) (p:=λv=>∃s:Sl,v=E8 s) (by simp[cp]) (.inr (j 13 ws));refine vX w y (oR (by simp[Op.operands]) g) ws (λ_ _ _ _ _=>rfl) (λ_ _ _ _=>by kernel_rfl) (v:=.slice (some (ab k.heap.size)) 1 1) (Y:=k.alloc (.cells #[.i 1,.i 0,.i 0,.slice none 0 0,.string (bn #[104,48]),s.v,.slice none 0 0] dD)) ?_;rw[q];exact h.a 14 31 _ co j x co (Fr.alloc _ _ _) (by simp[cp];exact⟨⟨some (ab k.heap.size),1,1⟩,rfl⟩) (by simp[cp]),
  λA z k o w q y x j h=>by
   obtain⟨_,g1,a,rfl⟩:=h.t.get (i:=5) (d:=21) (p:=mL) (by simp[cp]) (.inr (j 4 ws));obtain⟨_,g2,b,rfl⟩:=h.t.get (i:=6) (d:=22) (p:=mL) (by simp[cp]) (.inr (j 5 ws));obtain⟨_,g3,c,rfl⟩:=h.t.get (i:=12) (d:=28) (p:=mL) (by simp[cp]) (.inr (j 11 ws));obtain⟨_,g4,I,rfl⟩:=h.t.get (i:=15) (d:=31) (p:=mL) (by simp[cp]) (.inr (j 14 ws));refine rj w y (E0:=[(21,a.v),(22,b.v),(28,c.v),(31,I.v)]) (λC L=>?_) ws (λ_ _ _ _ _=>rfl) (λ_ _ _ _=>by kernel_rfl) (v:=.agg #[a.v,b.v,c.v,I.v]) ?_
   .have L:C=.tmp 21\/C=.tmp 22\/C=.tmp 28\/C=.tmp 31:=by simpa[Op.operands]using L
    rcases L with rfl|rfl|rfl|rfl
    .exact ⟨_,g1,rfl⟩
    .exact ⟨_,g2,rfl⟩
    .exact ⟨_,g3,rfl⟩
    .exact ⟨_,g4,rfl⟩
   rw[q];exact h.a 15 32 _ co j x co (Fr.refl _ _) (by simp[cp];grind) (by simp[cp]),
  λA z k o w q y x j h=>by
   obtain⟨_,g,a,b,c,I,rfl⟩:=h.t.get (i:=16) (d:=32) (p:=λv=>∃a b c I:Sl,v=.agg #[a.v,b.v,c.v,I.v]) (by simp[cp]) (.inr (j 15 ws));refine vX w y (oR (by simp[Op.operands]) g) ws (λ_ _ _ _ _=>rfl) (λ_ _ _ _=>by kernel_rfl) (v:=.slice (some (ab k.heap.size)) 1 1) (Y:=k.alloc (.cells #[a.v,b.v,c.v,I.v] fw)) ?_;rw[q];refine⟨h.t.fill (by simp[cp];exact⟨⟨some (ab k.heap.size),1,1⟩,rfl⟩) (by simp[cp]),xg h.cl j,?_⟩;rcases h.ph with⟨B,F,E,G⟩|⟨B,_⟩|⟨B,_⟩
   .exact .inl ⟨by rw[e7 co,B],by rw[e7 co,F],E.bz (Fr.alloc _ _ _),λ_=>⟨k.heap.size,⟨a,b,c,I⟩,px,kX k _⟩⟩
   .grind
   grind,
  λA z k o w q y x j h=>by
   obtain⟨_,ae,rfl⟩:=h.t.get (i:=2) (d:=18) (p:=(·=aB.v)) (by simp[cp]) (.inr (j 1 ws));rcases h.ph with⟨B,F,E,G⟩|⟨_,B,_⟩|⟨_,B,_⟩
   .obtain ⟨b,C,e1,e2⟩:=G (j 16 ws);have hn:=(E.get 2:aG _ _ _ _ _).len;rw[Lm.len]at hn;refine afQ w y ae e1 (s:=aB) (t:=⟨some (ab b),1,1⟩) (E.ap 2 EB (src:=⟨some (ab b),1,1⟩) (news:=C.cs) rfl (mf (n:=1) (sz:=4) (cs:=C.cs) e2 rfl).2.2 rfl (λu hu=>Lm.one (l:=[C]) u (by grind)) (by grind) λs' Z Q _ _=>?_);rw[q];refine⟨h.t.fill (by simp[cp];grind) (by simp[cp]),xg h.cl j,.inr (.inl ⟨λM P=>?_,BM,by rw[e7 co,F],s',C,px,?_⟩)⟩
    .rw [e7 co];have U:=h.cl 16 (j 16 ws);have H:=h.cl 15 (U 15 md);have W:=h.cl 4 (H 4 md);have c3:=h.cl 3 (W 3 md);have S:=h.cl 11 (H 11 md);have aa:=h.cl 10 (S 10 md);have N:=h.cl 9 (aa 9 md);have c8:=h.cl 8 (N 8 md);have T:=h.cl 14 (H 14 md);have ac:=h.cl 13 (T 13 md);have c1:=h.cl 1 (j 1 ws)
     match M,P with
     |0,_=>exact c1 0 md
     |1,_=>grind
     |2,_=>exact c3 2 md
     |3,_=>exact W 3 md
     |4,_=>exact H 4 md
     |5,_=>exact H 5 md
     |6,_=>exact N 6 md
     |7,_=>exact c8 7 md
     |8,_=>exact N 8 md
     |9,_=>grind
     |10,_=>exact S 10 md
     |11,_=>exact H 11 md
     |12,_=>exact ac 12 md
     |13,_=>exact T 13 md
     |14,_=>exact H 14 md
     |15,_=>exact U 15 md
     |16,_=>grind
     |M+17,ak=>omega
    grind
   .grind
   grind,
  λA z k o w q y x j h=>by
   obtain⟨_,O,rfl⟩:=h.t.get (i:=0) (d:=5) (p:=(·=.pointer (some (ab b5)))) (by simp[cp]) (.inl rfl);refine rj w y (oR (by simp[Op.operands]) O) ws (λ_ _ _ _ _=>rfl) (λ_ _ _ _=>by kernel_rfl) (v:=.pointer (some ((ab b5).add 0))) ?_;rw[q];refine⟨h.t.fill (by simp[cp]) (by simp[cp]),xg h.cl j,?_⟩;rcases h.ph with⟨B,_⟩|⟨B,F,G,s,C,K,a5⟩|⟨B,F,G,K⟩
   .rw [j 17 ws]at B;cases B
   .exact .inr (.inl ⟨λM P=>by grind,by grind,by rw[e7 co,G],s,C,by rw[ic co,K],a5⟩)
   grind,
  λA z k o w q y x j h=>by
   obtain⟨_,af,rfl⟩:=h.t.get (i:=19) (d:=35) (p:=(·=.pointer (some ((ab b5).add 0)))) (by simp[cp]) (.inr (j 18 ws));rcases h.ph with⟨B,_⟩|⟨B,F,G,s,C,K,E⟩|⟨B,F,G,K⟩
   .grind
   .refine afV w af K (by kernel_rfl) ?_;rw[add_add];refine E.st 1 0 rfl λZ Q=>?_;rw[q];refine⟨h.t.ad' (by simp[cp]),xg h.cl j,.inr (.inr ⟨λM P=>by grind,by grind,BM,s,C,Q⟩)⟩
   grind,
  trivial⟩
def aa0{w:J}{R:aK}(H:LH F0 w0 w (iL b4 b5 aB ls st ds) D)(N:ls.length<=1000)(O:∀h,LH F0 w0 h (iL b4 b5 aB ls st ds) D->∃xs,bx h l0 xs/\∀k∈xs,aY k){t13:Int}(M:∀s k h,LH F0 w0 h (iL b4 b5 s (ls++[k]) st ds) D->gS.S1 l0 mo (ab b4) (ab b5) i6 h R):
  u2 V gS.kI (λz w=>gS.rF z w R) [(14,.bool (av (i6<t13))),(13,.i t13),(12,l0.v),(11,.i i6),(0,l0.v),(1,.i mo),(4,.pointer (some (ab b4))),(5,.pointer (some (ab b5))),(6,.i i6)] w:=by
 refine Fq E9 (by kernel_rfl) (rB w0 mo b4 b5 l0 aB st i6 ls ds D) ⟨λP q y=>?_,λi x=>(by cases x),.inl ⟨rfl,rfl,H.drew,λx=>(by cases x)⟩⟩ (aa1 N O) λQ z h C j=>?_
 .have y:P.1=0:=y.resolve_right ws;simp only[cp,aq,aL,aO]at q
  (repeat' rcases q with rfl|q)<;>(try subst q)<;>first |(exact⟨_,rfl,rfl⟩)|(exact Nat.noConfusion y)
 .rcases j.ph with⟨A,_⟩|⟨_,_,B,_⟩|⟨_,_,_,s,k,E⟩
  .rw [C 17 md]at A;cases A
  .rw [C 19 md]at B;cases B
  .obtain ⟨_,F,rfl⟩:=j.t.get (i:=0) (d:=0) (p:=(·=l0.v)) (by simp[cp]) (.inl rfl);obtain⟨_,G,rfl⟩:=j.t.get (i:=0) (d:=1) (p:=(·=.i mo)) (by simp[cp]) (.inl rfl);obtain⟨_,I,rfl⟩:=j.t.get (i:=0) (d:=4) (p:=(·=.pointer (some (ab b4)))) (by simp[cp]) (.inl rfl);obtain⟨_,K,rfl⟩:=j.t.get (i:=0) (d:=5) (p:=(·=.pointer (some (ab b5)))) (by simp[cp]) (.inl rfl);obtain⟨_,L,rfl⟩:=j.t.get (i:=0) (d:=6) (p:=(·=.i i6)) (by simp[cp]) (.inl rfl);unfold gS.rF;rw[F,G,I,K,L];exact M s k h E
end
namespace TT
def ok:=ay (ax V Tryz.f262 [(3,lr 9)] []) P' [.Y]
end TT
namespace Ub
def aC:=ay (ax V Tryz.f216 [] [2]) A0 [.a 4,.I,.Y,.Y,.s,.I]
end Ub
namespace q6
def iC:=bh (ax V Tryz.f248 [(9,ls [0,1,5,6,2,3,4,7,8,9,10,11])] [1,9]) [0,1,1,1,7] [(1,.l [.I,.Y,.Y,.s] aZ),(5,.st),(6,.I),(7,.st),(79,.s),(80,.I),(81,.I)]
abbrev t1:=bg iC
abbrev dc:=ak t1 [3,2,2,2,1,1,7] [(1,.l [.I,.Y,.Y,.s] aZ),(5,.st),(6,.I),(7,.st),(10,.st),(79,.s),(80,.I),(81,.I)]
abbrev t2:=ao dc
def kL:=bm t2 iC
abbrev P0:Ps:=[(1,.l [.I,.Y,.Y,.s] aZ),(4,.st),(5,.st),(6,.I)]
abbrev b3:=ak t2 [4] P0
abbrev t3:=ao b3
abbrev bt:=ak t3 [3] P0
abbrev t4:=ao bt
def aC:=ay t4 P8 [.a 4,.I,.Y,.Y,.s]
end q6
namespace TQ
def aC:=ay (ax V Tryz.f192 [] [1]) P6 [.a 4,.I,.Y,.Y,.s]
end TQ
namespace Wg
def aC:=ay (ax V Tryz.f169 [] [3,6]) GB [.st]
end Wg
def SD(c:UInt8):vq c=oG c:=by
 unfold vq oG
 grind
def Va(c:UInt8):kC c=eW c:=rfl
def XV:(List.range 256).all (λn=>kP .u8 (n:Int) 15==((n%16:Nat):Int))=true:=by kernel_rfl
def Mw{n:Nat}(h:n<16):(bn #[48,49,50,51,52,53,54,55,56,57,97,98,99,100,101,102])[n]? =some (i2 n):=by
 have:n=0\/n=1\/n=2\/n=3\/n=4\/n=5\/n=6\/n=7\/n=8\/n=9\/n=10\/n=11\/n=12\/n=13\/n=14\/n=15:=co
 (repeat' rcases this with rfl|this)<;>(try subst this)<;>rfl
def G4(c:UInt8)(w:J):ai V P' #[.int .u8 (c.toNat:Int)] w λr D=>r=ae (.string (ba (dZ c)))/\af w D:=by
 have C:=c.toNat_lt;have q:LH F0 w w [] []:=bK [] ws;refine TT.ok (q.call (JV c w) ?_);rintro _ E rfl k;refine⟨_,rfl,bT (λj=>?_) (λj=>?_)⟩
 .rw [SD]at j;refine k.k7 (λF _ x h=>?_);have d:Bytes F ⟨some (ab E.heap.size),3,3⟩ [39,c,39]:=uo (T:=cJ) h rfl;refine⟨ba [39,c,39],kR d,?_,x.fr⟩;unfold dZ;grind
 .rw [SD]at j;have A:Int.fdiv (c.toNat:Int) (2^(4))=((c.toNat / 16:Nat):Int):=by grind
  have B:kP .u8 (c.toNat:Int) 15=((c.toNat%16:Nat):Int):=eq_of_beq (ff.1 XV c.toNat (List.mem_range.2 C));refine k.dr λG y=>?_;rw[A,B];refine⟨co,_,Mw co,co,_,Mw co,y.k7 (λH _ z h=>?_)⟩;have d:Bytes H ⟨some (ab G.heap.size),4,4⟩ [92,120,i2 (c.toNat / 16),i2 (c.toNat%16)]:=uo (T:=cJ) h rfl;refine⟨ba [92,120,i2 (c.toNat / 16),i2 (c.toNat%16)],kR d,?_,z.fr⟩;unfold dZ;grind
abbrev IN(n:Nat):Prop:=∀(x:I) (w:J),x.sz<=n->ja x.rx=true->x.P w->ai V P8 #[x.v] w λr d=>r=ae (.tuple #[.string (ba (bo x.rx)),.i (dd x.rx:Int)])/\af w d
def Sx{n:Nat}(G:n<=1000000)(q:IN n)(x:I)(d:Nat)(w:J)(h:x.sz<=n)(F:d<=1000)(z:ja x.rx=true)(A:x.P w):ai V A0 #[x.v,.i (d:Int)] w λr B=>r=ae (.string (ba (dh d x.rx (bo x.rx))))/\af w B:=by
 refine Ub.aC ((hj A).aH λD C j=>j.aA (q x C h z (j.getD 0)) ?_);rintro _ H rfl k;have E:(bo x.rx).length<=18000000:=by have:=zi x.rx;rw[I.eX]at this;omega
 have e:bn #[40]++ba (bo x.rx)++bn #[41]=ba (40::(bo x.rx++[41])):=by show ba [40]++ba (bo x.rx)++ba [41]=_;rw[cN,cN];simp
 refine⟨_,_,rfl,aF (λy=>⟨?_,?_,?_,k.fr⟩) (λy=>⟨?_,k.fr⟩)⟩
 .rw [bU];show ¬(((1+_:Nat):Int)>9223372036854775807);omega
 .have:(bn #[40]++ba (bo x.rx)).size=1+(bo x.rx).length:=by show(ba [40]++_).size=_;rw[cN,bU];grind
  rw[this];show ¬(((_+1:Nat):Int)>9223372036854775807);omega
 .rw [e];unfold dh;grind
 .unfold dh;grind
def So:∀n:Nat,n<=1000000->IN n
 |0,_=>λh C q _ _=>absurd q (by have:=I.m3 h;omega)
 |n+1,hn=>by
  have ih:=So n co;intro h C q aY px;have hs:=I.iR h;have hl:=I.gh h.l;have nr:=I.cI px.parts.1;have aE:=aY;rw[I.fF]at aE;obtain⟨k0,k7,am,aU⟩:=A' aE;have aV:(I.aw h.l).length=h.l.length:=by rw[I.gb,gv]
  rw[aV]at am;have ay:∀a∈h.l,ja a.rx=true:=λa x=>Ba aU (by rw[I.gb];grind);have an:∀(a:I) (lv:Nat),a.sz<=1000000->(dh lv a.rx (bo a.rx)).length<=18000002:=λa lv x=>by have A:=zi a.rx;rw[I.eX]at A;have:=(sX lv a.rx (bo a.rx)).1;omega
  have aq:∀c,(dZ c).length<=4:=λc=>by unfold dZ;grind
  let W:aK:=λr w'=>r=ae (.tuple #[.string (ba (bo h.rx)),.i (dd h.rx:Int)])/\af C w'
  have one:∀(a:I) (T:Nat) (w:J) (L:List En) (U:List Nat) (K:ByteArray->J->Prop),T<=1000->a∈h.l->LH F0 C w L [.tree h]->(∀w2,LH F0 C w2 L [.tree h]->K (ba (dh T a.rx (bo a.rx))) w2)->Ea U A0 #[.agg #[.i a.k,.int .u8 (a.lo.toNat:Int),.int .u8 (a.hi.toNat:Int),a.s.v],.i (T:Int)] w K:=by
   intro a T w L U K aX x j hK;have ap:=I.eK x;refine j.aA (Sx co ih a T w co aX (ay a x) ((show h.P w from j.getD 0).parts.2.mem x)) ?_
   grind
  have H:bo h.rx=bo (.mk h.k h.lo h.hi (I.aw h.l)):=by rw[I.fF]
  have a1:dd h.rx=if h.k=6 then 3 else if h.k<3\/h.k=7\/h.l.length<2 then 4 else if h.k=3 then 2 else if h.k=4 then 0 else 1:=by rw[I.fF];unfold dd;grind
  have N:(h.k<3\/h.k=7\/h.l.length<2)->h.k≠6->(4:Int)=(dd h.rx:Int):=λA F=>by grind
  refine q6.aC ((hj px).aH λB w j=>?_);have j:LH F0 C w [.g B] [.tree h]:=j;refine aP (λhk=>⟨?_,j.fr⟩) (λav=>aP (λhk=>⟨?_,j.fr⟩) (λaT=>aP (λax=>?_) (λax=>aP (λO=>?_) (λO=>aP (λaa=>?_) (λaa=>?_)))))
  .rw [<-N (.inl co) co,H];unfold bo;rw[au hk];rfl
  .rw [<-N (.inl co) co,H];unfold bo;rw[ag av,au hk];rfl
  .have e2:bo h.rx=if h.lo=h.hi then dZ h.lo else 91::(dZ h.lo++45::(dZ h.hi++[93])):=by rw[H];unfold bo;grind
   rw[<-N (.inl co) co];refine aP (λaz=>j.aA (G4 h.lo w) ?_) (λaz=>j.ah λw5 H5=>H5.aA (G4 h.lo w5) ?_)
   .rintro _ D rfl z;exact⟨_,rfl,by rw[e2,au (UInt8.toNat_inj.1 co)],z.fr⟩
   .rintro _ Q rfl G;have A:=aq h.lo;have F:=aq h.hi;have s0:bn #[91]++ba (dZ h.lo)++bn #[45]=ba (91::dZ h.lo++[45]):=by show ba [91]++ba (dZ h.lo)++ba [45]=_;rw[cN,cN];rfl
    refine⟨_,rfl,?_,?_,G.aA (G4 h.hi Q) ?_⟩
    .rw [bU];show ¬(((1+_:Nat):Int)>9223372036854775807);omega
    .have:(bn #[91]++ba (dZ h.lo)).size=1+(dZ h.lo).length:=by show(ba [91]++_).size=_;rw[cN,bU];grind
     rw[this];show ¬(((_+1:Nat):Int)>9223372036854775807);omega
    rintro _ y rfl E;rw[s0];have:ba (91::dZ h.lo++[45]++dZ h.hi)++bn #[93]=ba (91::dZ h.lo++[45]++dZ h.hi++[93]):=by show _++ba [93]=_;rw[cN]
    refine⟨_,rfl,?_,?_,?_,E.fr⟩
    .rw [bU,bU];simp only[a7,bR,dK];show ¬((_:Int)>9223372036854775807);omega
    .rw [cN,bU];simp only[a7,bR,dK];show ¬(((_+1:Nat):Int)>9223372036854775807);omega
    .rw [cN,this,e2,ag (λq=>az (by rw[q]))];simp
  .have A:=am (.inl O);have e6:bo h.rx=33::kn (dQ 3 (I.aw h.l)):=by rw[H];unfold bo;grind
   have e3:(3:Int)=(dd h.rx:Int):=by grind
   match gV:h.l,A with
   |[a],_=>
    have x:a∈h.l:=by grind
    have ap:=I.eK x;refine jc (show h.P w from j.getD 0) (k:=0) rfl (by grind) (one a 3 w _ _ _ co x j λD z=>⟨?_,?_,z.fr⟩)
    .have:=an a 3 co;rw[bU];show ¬(((1+_:Nat):Int)>9223372036854775807);omega
    .have:bn #[33]++ba (dh 3 a.rx (bo a.rx))=ba (33::dh 3 a.rx (bo a.rx)):=by show ba [33]++_=_;rw[cN];rfl
     rw[this,e6,gV,<-e3];rfl
  .have A:=am (.inr aa);have e7:bo h.rx=kn (dQ 4 (I.aw h.l))++[42]:=by rw[H];unfold bo;grind
   match gV:h.l,A with
   |[a],_=>
    have x:a∈h.l:=by grind
    have ap:=I.eK x;refine jc (show h.P w from j.getD 0) (k:=0) rfl (by grind) (one a 4 w _ _ _ co x j λD z=>⟨?_,?_,z.fr⟩)
    .have:=an a 4 co;rw[bU];show ¬(((_+1:Nat):Int)>9223372036854775807);omega
    .have:ba (dh 4 a.rx (bo a.rx))++bn #[42]=ba (dh 4 a.rx (bo a.rx)++[42]):=by show _++ba [42]=_;rw[cN]
     rw[this,e7,gV,<-N (.inr (.inl aa)) O];rfl
  have hk:h.k=3\/h.k=4\/h.k=5:=co
  have S1:∀(word sign:BL) (level:Nat),word.length=3->sJ h.k=word++[40]->hr h.k=sign->level<=2->(2<=h.l.length->dd h.rx=level)->q6.b3 B h.k h.lo.toNat h.hi.toNat h.s (ba word) (ba sign) (level:Int) w W:=by
   intro word sign level hw aB ao a2 Z;have ef:h.l.length<2->bo h.rx=sJ h.k++(kn (dQ 0 (I.aw h.l))++[41]):=λq=>by rw[H];unfold bo;grind
   refine aP (λh0=>?_) (λh0=>aP (λA=>?_) (λA=>?_))
   .have hx:h.l=[]:=List.length_eq_zero_iff.1 co;refine⟨?_,?_,j.fr⟩
    .rw [bU];show ¬(((_+2:Nat):Int)>9223372036854775807);omega
    .have:ba word++bn #[40,41]=ba (word++[40,41]):=by show _++ba [40,41]=_;rw[cN]
     rw[this,<-N (.inr (.inr co)) O,ef co,aB,hx];simp[I.aw,dQ,kn]
   .match gV:h.l with
    |[]=>grind
    |_::_::_=>grind
    |[a]=>
     have x:a∈h.l:=by grind
     have ap:=I.eK x;have hp:=an a 0 co;refine⟨?_,jc (show h.P w from j.getD 0) (k:=0) rfl (by grind) (one a 0 w _ _ _ co x j λD z=>⟨?_,?_,?_,z.fr⟩)⟩
     .rw [bU];show ¬(((_+1:Nat):Int)>9223372036854775807);omega
     .have:ba word++bn #[40]=ba (word++[40]):=by show _++ba [40]=_;rw[cN]
      rw[this,bU,bU];simp only[a7,bR,dK];show ¬((_:Int)>9223372036854775807);omega
     .have:ba word++bn #[40]++ba (dh 0 a.rx (bo a.rx))=ba (word++[40]++dh 0 a.rx (bo a.rx)):=by show _++ba [40]++_=_;rw[cN,cN]
      rw[this,bU];simp only[a7,bR,dK];show ¬(((_+1:Nat):Int)>9223372036854775807);omega
     .have:ba word++bn #[40]++ba (dh 0 a.rx (bo a.rx))++bn #[41]=ba (word++[40]++dh 0 a.rx (bo a.rx)++[41]):=by show _++ba [40]++_++ba [41]=_;rw[cN,cN,cN]
      rw[this,<-N (.inr (.inr co)) O,ef co,aB,gV];simp[I.aw,dQ,kn]
   .have F:2<=h.l.length:=co
    have Z:=Z F;have ej:bo h.rx=Av h.k (dQ (level+1) (I.aw h.l)):=by
     conv=>lhs;rw[H];unfold bo;rw[ag av,ag aT,ag ax,ag O,ag aa,ag co]
     rw[<-I.fF,Z]
    have a4:sign.length<=1:=by rw[<-ao];unfold hr;grind
    have loop:∀(d i:Nat) (out:BL) (D:J),i+d=h.l.length->(1<=i->0<out.length)->(i=0->out=[])->out.length+hO (dQ (level+1) (I.aw (h.l.drop i)))<=40000000->bo h.rx=(if i=0 then Av h.k (dQ (level+1) (I.aw (h.l.drop i)))else jQ h.k out (dQ (level+1) (I.aw (h.l.drop i))))->LH F0 C D [.g B] [.tree h]->
      q6.iC B h.k h.lo.toNat h.hi.toNat h.s (ba sign) (level:Int) (ba out) h.s (h.s.n:Int) (i:Int) D W:=by
     intro d;induction d with
     |zero=>
      intro i out D aO ab hz ac M z;refine q6.kL (aN (aW co) ⟨?_,z.fr⟩);rw[M,c9 co,ag co,Z];rfl
     |succ d aZ=>
      intro i out D aO ab hz ac M z;have hg:h.l[i]? =some (h.l[i]'co):=a' co;have ar:h.l.drop i=(h.l[i]'co)::h.l.drop (i+1):=dz co;generalize h.l[i]'co=c at hg ar;have hc:=aD hg;have a5:=I.eK hc;rw[ar]at M ac;have ac:out.length+((dh (level+1) c.rx (bo c.rx)).length+2+hO (dQ (level+1) (I.aw (h.l.drop (i+1)))))<=40000000:=by
       have:hO (dQ (level+1) (I.aw (c::h.l.drop (i+1))))=(dh (level+1) c.rx (bo c.rx)).length+2+hO (dQ (level+1) (I.aw (h.l.drop (i+1)))):=by simp[I.aw,dQ,hO]
       omega
      have aJ:0<(dh (level+1) c.rx (bo c.rx)).length:=by have A:=Cw c.rx (ay c hc);have:=(sX (level+1) c.rx (bo c.rx)).2;omega
      have aI:aj .i64 ((level:Int)+1)=((level+1:Nat):Int):=bc _ co;have aL:i=0->bo h.rx=jQ h.k (dh (level+1) c.rx (bo c.rx)) (dQ (level+1) (I.aw (h.l.drop (i+1)))):=λq=>by rw[au q]at M;rw[M];rfl
      have S:i≠0->bo h.rx=jQ h.k ((if h.k=3/\eW (k1 out)=true/\eW (gQ (dh (level+1) c.rx (bo c.rx)) 0)=true then out++[32]else out)++hr h.k++dh (level+1) c.rx (bo c.rx)) (dQ (level+1) (I.aw (h.l.drop (i+1)))):=λq=>by rw[ag q]at M;rw[M];rfl
      refine q6.kL (aM (aR co) (jc (show h.P D from z.getD 0) rfl hg (z.aH λb9 w4 H4=>H4.ah λw5 H5=>?_)));rw[aI];refine one c (level+1) w5 _ _ _ co hc H5 λQ G=>?_;have G:LH F0 C Q [.g B,.g b9] [.tree h]:=G;generalize dh (level+1) c.rx (bo c.rx)=t at aL S ac aJ;have go:∀(o:BL) (y:J),o.length<=out.length+1->out.length<=o.length->bo h.rx=jQ h.k (o++t) (dQ (level+1) (I.aw (h.l.drop (i+1))))->LH F0 C y [.g B,.g b9] [.tree h]->q6.dc B h.k h.lo.toNat h.hi.toNat h.s (ba sign) (level:Int) (ba o) (ba t) h.s (h.s.n:Int) (i:Int) y W:=by
       intro o y A F h3 E;refine⟨?_,?_⟩
       .rw [bU,bU];show ¬((_:Int)>9223372036854775807);omega
       .rw [cN,bc _ co];refine aZ (i+1) (o++t) y co (λ_=>by grind) (λq=>co) (by grind) (by grind) (E.take 1)
      refine aF (λaS=>⟨?_,?_⟩) (λaS=>go out Q co (br _) (by grind) G)
      .rw [bU,bU];show ¬((_:Int)>9223372036854775807);omega
      have S:=S co;have ab:=ab co;rw[ao]at S;have ea:ba out++ba sign=ba (out++sign):=cN _ _;have ad:∀y,LH F0 C y [.g B,.g b9] [.tree h]->¬(h.k=3/\eW (k1 out)=true/\eW (gQ t 0)=true)->q6.dc B h.k h.lo.toNat h.hi.toNat h.s (ba sign) (level:Int) (ba (out++sign)) (ba t) h.s (h.s.n:Int) (i:Int) y W:=λy E a3=>go (out++sign) y (by grind) (by grind) (by grind) E;rw[ea];refine aP (λai=>?_) (λai=>ad Q G (λq=>ai q.1));have s3:sign=[]:=by rw[<-ao];unfold hr;grind
      have e9:out++sign=out:=by grind
      rw[e9]at ad ⊢;have eo:aj .i64 ((((ba out).size:Nat):Int) - 1)=((out.length - 1:Nat):Int):=by rw[bU,aQ _ co];omega
      rw[eo];refine⟨co,k1 out,?_,G.aA (zQ (k1 out) Q) ?_⟩
      .rw [bB,gZ (s:=ba out) (by rw[bU];omega),gm,Nj out ab]
      rintro _ y rfl E;refine⟨_,rfl,bT (λak=>⟨co,gQ t 0,?_,E.aA (zQ (gQ t 0) y) ?_⟩) (λak=>ad y E (λq=>by rw[Va,q.2.1]at ak;grind))⟩
      .rw [show a0 0=0 from rfl,gZ (s:=ba t) (by rw[bU];omega),gm]
      rintro _ w8 rfl H8;refine⟨_,rfl,bT (λal=>⟨?_,?_⟩) (λal=>ad w8 H8 (λq=>by rw[Va,q.2.2]at al;grind))⟩
      .rw [bU];show ¬(((_+1:Nat):Int)>9223372036854775807);omega
      .have aG:ba out++bn #[32]=ba (out++[32]):=by show _++ba [32]=_;rw[cN]
       rw[aG];refine go (out++[32]) w8 ws ws ?_ H8;rw[au ⟨ai,ak,al⟩,s3,dy]at S;omega
    have h3:=tA (level+1) (I.aw h.l);have Y:Rx.a9 (I.aw h.l)=I.a9 h.l:=I.yN h.l;exact loop h.l.length 0 [] w co (λq=>co) (λ_=>rfl) (by grind) (by grind) j
  have bd:2<=h.l.length->dd h.rx=if h.k=3 then 2 else if h.k=4 then 0 else 1:=λF=>by grind
  refine aP (λY=>S1 [97,108,116] [124] 0 rfl (by rw[Y];rfl) (by rw[Y];rfl) co (λF=>by grind)) (λY=>aP (λh5=>S1 [97,108,108] [38] 1 rfl (by rw[h5];rfl) (by rw[h5];rfl) co (λF=>by grind)) (λh5=>S1 [99,97,116] [] 2 rfl (by rw[show h.k=3 by omega];rfl) (by rw[show h.k=3 by omega];rfl) co (λF=>by grind)))
def ad6(x:I)(d:Nat)(w:J)(h:x.sz<=1000000)(j:d<=1000)(k:ja x.rx=true)(q:x.P w):ai V A0 #[x.v,.i (d:Int)] w λr y=>r=ae (.string (ba (dh d x.rx (bo x.rx))))/\af w y:=Sx (br _) (So 1000000 (br _)) x d w h j k q
def acp:(List.range 1728).all (λd=>Nat.ble (m4 d).length 64)=true:=by kernel_rfl
def Wq(k:Nat):(m4 k).length<=64:=by rw[Wo];exact Nat.le_of_ble_eq_true (ff.1 acp (k%1728) (List.mem_range.2 (Nat.mod_lt _ co)))
end Go.Proofs.YtnaglpcbkhjpnabGreatDoor
end
