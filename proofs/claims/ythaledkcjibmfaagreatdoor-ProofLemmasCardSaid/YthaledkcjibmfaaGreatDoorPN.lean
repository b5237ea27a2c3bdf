import Derived.Test.YthaledkcjibmfaaGreatDoorE2
import Derived.Lib.BufferWrite
import Derived.Lib.UnsafeStr
import Derived.Test.YthaledkcjibmfaaGreatDoorR14
import Derived.Test.YthaledkcjibmfaaGreatDoorU
import Derived.Test.YthaledkcjibmfaaGreatDoorWN
import Derived.Test.YthaledkcjibmfaaGreatDoorG9
set_option linter.unusedVariables false
set_option maxRecDepth 100000
set_option maxHeartbeats 1000000
set_option linter.defProp false
namespace Go.Proofs.YthaledkcjibmfaaGreatDoor
open Go renaming World->J,Calls->ak,Program->aF,Value->ab,TypeId->aC
open Go.IntKind renaming wrap->ao
open _root_.Int renaming toNat->aZ,tdiv->bN,tmod->bY,toNat_natCast->bF
open _root_.ByteArray renaming mk->bJ
open Go.IntWalk renaming i64_in->aS
open Go.Builtin renaming append_->dW
open Go.Sem renaming run->kQ
open _root_.Nat renaming le_refl->bg,le_trans->a8,lt_of_lt_of_le->kP
open _root_.UInt8 renaming ofNat->cI
open Go.Proofs.Tryz renaming prog->aa
open _root_.Decidable renaming decide->aq
open Go.Ending renaming returned->ag
open List renaming mem_cons->av,not_mem_nil->aR,mem_of_getElem?->aE,getElem?_eq_getElem->a6,getElem?_eq_some_iff->bO,mem_append_left->bt,mem_append_right->di,mem_flatMap->bA,length_append->a7,length_cons->db,length_nil->fC,getElem?_append_left->Dw,getElem?_append_right->vQ,append_assoc->cp,mem_singleton->bG,flatMap_append->cy,flatMap_cons->b',nodup_append->fD,length_set->i3,take_append_drop->lu,drop_eq_getElem_cons->dy,getElem?_map->iM,all_eq_true->fi,getElem?_drop->jv,getElem?_take->jw,drop_of_length_le->dC
open Go Go.W
def yI:List Int:=[1,10,100,1000,10000,100000,1000000,10000000,100000000,1000000000,10000000000,100000000000,1000000000000,10000000000000,100000000000000,1000000000000000,10000000000000000,100000000000000000,1000000000000000000,10000000000000000000]
abbrev ER(n:Int):ab:=.int .u64 n
abbrev ma:En:=.rd ⟨some (ae 2),20,20⟩ (yI.map ER)
def XI:∀d<20,yI[d]? =some ((10^d:Nat):Int):=by decide
def kn(x:Nat):Nat:=if x=0 then 0 else Nat.log2 x+1
def We:∀d<256,Wt[d]? =some (cI (kn d))/\kn d<=8/\d<2^kn d/\(d≠0->2^(kn d - 1)<=d/\1<=kn d):=by decide+kernel
def SN{u:Nat}(P:u≠0)(W:u<2^64)(w:J):ak aa KY #[.u (u:Int)] w λr h=>(∃L:Nat,r=ag (.i (L:Int))/\1<=L/\L<=64/\2^(L - 1)<=u/\u<2^L)/\h=w:=by
 have fin:∀(x n:Nat),x≠0->x<256->n<=56->2^n *x<=u->u<2^n *(x+1)->j0.S2 (x:Int) (n:Int) w λr h=>(∃L:Nat,r=ag (.i (L:Int))/\1<=L/\L<=64/\2^(L - 1)<=u/\u<2^L)/\h=w:=by
  intro x n z B F d e;obtain⟨G,S,H,I⟩:=We x B;obtain⟨K,T⟩:=I z;have M:ao .u8 (x:Int)=(x:Int):=by rw[IntKind.wrap_u8];omega
  have N:((cI (kn x)).toNat:Int)=(kn x:Int):=by rw[UInt8.toNat_ofNat'];omega
  dsimp only[j0.S2,ax];rw[M,bF];refine⟨by omega,_,G,⟨n+kn x,?_,by omega,by omega,?_,?_⟩,rfl⟩
  .have O:ao .i64 ((n:Int)+ao .i64 (kn x:Int))=((n+kn x:Nat):Int):=by rw[aS (kn x:Int) (by omega),aS _ (by omega)];omega
   rw[N,O]
  .rw [show n+kn x - 1=n+(kn x - 1)by omega,Nat.pow_add];exact a8 (Nat.mul_le_mul_left _ K) d
  .rw [Nat.pow_add];exact kP e (Nat.mul_le_mul_left _ H)
 have C:∀(x n k:Nat),2^n *x<=u->u<2^n *(x+1)->2^(n+k) *(x / 2^k)<=u/\u<2^(n+k) *(x / 2^k+1):=by
  intro x n k d e;have Q:=Nat.two_pow_pos k;have U:=Nat.div_add_mod x (2^k);have V:=Nat.mod_lt x Q;rw[Nat.pow_add,Nat.mul_assoc,Nat.mul_assoc];constructor
  .exact a8 (Nat.mul_le_mul_left _ (Nat.mul_div_le x _)) d
  .refine kP e (Nat.mul_le_mul_left _ ?_);rw[Nat.mul_add,Nat.mul_one];omega
 have A:∀x k:Nat,Int.fdiv (x:Int) (2^k)=((x / 2^k:Nat):Int):=λx k=>by have:=xN x (2^k) (Nat.two_pow_pos k);rw[Int.natCast_pow]at this;exact this
 have E:∀(x n:Nat),x≠0->x<65536->n<=48->2^n *x<=u->u<2^n *(x+1)->j0.S1 (x:Int) (n:Int) w λr h=>(∃L:Nat,r=ag (.i (L:Int))/\1<=L/\L<=64/\2^(L - 1)<=u/\u<2^L)/\h=w:=by intro x n z B F d e;refine aG (λy=>?_) (λy=>fin x n z (by omega) (by omega) d e);obtain⟨j,q⟩:=C x n 8 d e;rw[A,show ao .i64 ((n:Int)+8)=((n+8:Nat):Int)by rw[aS _ (by omega)];omega];exact fin _ _ (by omega) (by omega) (by omega) j q
 have D:∀(x n:Nat),x≠0->x<4294967296->n<=32->2^n *x<=u->u<2^n *(x+1)->j0.S0 (x:Int) (n:Int) w λr h=>(∃L:Nat,r=ag (.i (L:Int))/\1<=L/\L<=64/\2^(L - 1)<=u/\u<2^L)/\h=w:=by intro x n z B F d e;refine aG (λy=>?_) (λy=>E x n z (by omega) (by omega) d e);obtain⟨j,q⟩:=C x n 16 d e;rw[A,show ao .i64 ((n:Int)+16)=((n+16:Nat):Int)by rw[aS _ (by omega)];omega];exact E _ _ (by omega) (by omega) (by omega) j q
 refine j0.ok _ w _ (aG (λy=>?_) (λy=>D u 0 P (by omega) (by omega) (by omega) (by omega)));obtain⟨j,q⟩:=C u 0 32 (by omega) (by omega);rw[A];exact D _ 32 (by omega) (by omega) (by omega) j q
def Ww:∀d<65,1<=d->d *78913 / 2^18<20/\10^(d *78913 / 2^18 - 1)<=2^(d - 1)/\2^d<=10^(d *78913 / 2^18+1)/\(d *78913 / 2^18=0->d<=3):=by decide+kernel
def Gk{u:Nat}(D:u≠0)(N:u<2^64)(w:J)(G:ma.P w):ak aa KV #[.u (u:Int)] w λr y=>r=ag (.i (((bZ u).length:Nat):Int))/\y=w:=by
 refine IM.ok _ w _ ((SN D N w).mono ?_);rintro _ e ⟨⟨L,rfl,O,l2,l3,Q⟩,rfl⟩;obtain⟨S,t2,T,t4⟩:=Ww L (by omega) O;have B:Int.fdiv (ao .i64 ((L:Int) *78913)) (2^18)=((L *78913 / 2^18:Nat):Int):=by rw[show ao .i64 ((L:Int) *78913)=((L *78913:Nat):Int)by rw[aS _ (by omega)];omega];have:=xN (L *78913) (2^18) (Nat.two_pow_pos _);rw[Int.natCast_pow]at this;exact this
 refine⟨_,rfl,IL.ok _ e _ ⟨_,rfl,?_⟩⟩;rw[B];generalize V:L *78913 / 2^18=n at *;have q:e.cell? ((ae 2).add n)=some (.u ((10^n:Nat):Int)):=by have:=Rd.get (show Rd e ⟨some (ae 2),20,20⟩ (yI.map ER)from G) (i:=n) (j:=n) (v:=ER ((10^n:Nat):Int)) (by rw[iM,XI n S];rfl) (by omega) (K:=λp=>∃x,some x=some (ae 2)/\e.cell? (x.add n)=some (.u ((10^n:Nat):Int))) (λp I q=>⟨p,I.symm,q⟩);obtain⟨x,Z,d⟩:=yA this;obtain⟨q',M,C⟩:=d;cases M;exact C
 refine⟨by omega,by omega,((10^n:Nat):Int),by rw[bF,Nat.mul_one];exact q,?_⟩;have E:∀b:Bool,ak aa KS #[.bool b] e λr y=>r=ag (.i (if b then 1 else 0))/\y=e:=λb=>
  IK.ok _ e _ (by cases b<;>exact⟨rfl,rfl⟩)
 refine(E _).mono ?_;rintro _ w2 ⟨rfl,rfl⟩;refine⟨_,rfl,?_,rfl⟩;have main:(if aq ((u:Int)>=((10^n:Nat):Int))=true then(n:Int)+1 else(n:Int)+0)=(((bZ u).length:Nat):Int):=by
  have Y:1<=(bZ u).length:=by
   cases F:bZ u with
   |nil=>exact absurd F (Bi _)
   |cons c l=>simp
  by_cases A:10^n<=u
  .rw [aj (aP (by omega))];have U:(bZ u).length<=n+1:=xw (by omega) (kP Q T);have lo:n+1<=(bZ u).length:=by
    rcases Nat.lt_or_ge (bZ u).length (n+1)with d|d
    .exfalso;have k:=ES (bZ u) (Bh u);rw[ET]at k;have:=Nat.pow_le_pow_right (n:=10) (by omega) (show(bZ u).length<=n by omega);omega
    .exact d
   omega
  .rw [af (λd=>A (by have:=ew d;omega))];have H:1<=n:=by
    rcases Nat.eq_zero_or_pos n with d|d
    .subst d;rw[Nat.pow_zero]at A;omega
    .exact d
   have U:(bZ u).length<=n:=xw H (by omega);have lo:n<=(bZ u).length:=by
    rcases Nat.lt_or_ge (bZ u).length n with d|d
    .exfalso;have k:=ES (bZ u) (Bh u);rw[ET]at k;have:=Nat.pow_le_pow_right (n:=10) (by omega) (show(bZ u).length<=n - 1 by omega);omega
    .exact d
   omega
 have W:(n:Int)<20:=by omega
 cases z:aq ((u:Int)>=((10^n:Nat):Int))with
 |true=>
  rw[z,aj rfl]at main;have h:ao .i64 ((n:Int)+1)=(n:Int)+1:=aS _ (by omega);rw[aj rfl,<-main,h]
 |false=>
  rw[z,af (by decide)]at main;have h:ao .i64 ((n:Int)+0)=(n:Int)+0:=aS _ (by omega);rw[af (by decide),<-main,h]
def Zb:∀d<100,vu[2 *d]? =some (gX (d / 10))/\vu[2 *d+1]? =some (gX (d%10)):=by decide+kernel
def Dg(u nd o n:Nat)(vs:List ab):Prop:=vs.length=24/\∀d,n<=d->d<nd->vs[o+d]? =some (bC (gX (u / 10^(nd - 1 - d)%10)))
def Bk{u nd n i:Nat}(d:n<=nd)(U:i<n):u / 10^(nd - 1 - (n - 1 - i))%10=u / 10^(nd - n) / 10^i%10:=by rw[Nat.div_div_eq_div_mul,<-Nat.pow_add,show nd - n+i=nd - 1 - (n - 1 - i)by omega]
def Dg.put{u nd o n:Nat}{vs:List ab}(h:Dg u nd o (n+1) vs)(y:o+nd<=24)(x:n+1<=nd){d:Nat}(q:d=u / 10^(nd - 1 - n)%10):Dg u nd o n (vs.set (o+n) (bC (gX d))):=by
 refine⟨by rw[i3];exact h.1,λw j k=>?_⟩;rcases Nat.eq_or_lt_of_le j with e|e
 .subst e;rw[List.getElem?_set_self (by rw[h.1];omega),q]
 .rw [List.getElem?_set_ne (by omega)];exact h.2 w e k
section
variable {M:Nat->Prop} {w0 w:J} {D:List En} {a:Sl} {b o:Nat} {vs:List ab} {T:aC}
def Dt(j:a.a=some ((ae b).add o))(H:LH M w0 w [.c b vs T] D){X:Int}{n:Nat}(h:X=(n:Int))(q:n<a.n)(k:o+n<vs.length){v:ab}{K:J->Prop}(e:∀d,LH M w0 d [.c b (vs.set (o+n) v) T] D->K d):
  e8 a X λp=>aQ w (p.add (aZ X *1)) v K:=by subst h;refine⟨by omega,by omega,?_⟩;rw[j];show aQ w (((ae b).add o).add (aZ (n:Int) *1)) v K;rw[bF,Nat.mul_one,add_add];exact H.st 0 (o+n) rfl e k
def pair{x n:Nat}{nd c1 c2:Int}{u k:Nat}(e:a.a=some ((ae b).add o))(Q:x<100)(I:nd - c1=((n+1:Nat):Int))(L:nd - c2=(n:Int))(W:n+1<a.n)(h:o+a.n<=24)(d:Dg u a.n o (n+2) vs)(F:x%10=u / 10^(a.n - 1 - (n+1))%10)(G:x / 10=u / 10^(a.n - 1 - n)%10)(H:LH M w0 w [.c b vs T] D){K:J->Prop}(N:∀y q,Dg u a.n o n q->LH M w0 y [.c b q T] D->K y){X:Int}(O:X=((2 *x:Nat):Int)):
  k4 w λz=>(0:Int)<=(ao .u32 (X+1))/\∃t:UInt8,vu[aZ (ao .u32 (X+1))]? =some t/\(0:Int)<=X/\∃j:UInt8,vu[aZ X]? =some j/\e8 a (ao .i64 (nd - c1)) λp=>aQ z (p.add (aZ (ao .i64 (nd - c1)) *1)) (.int .u8 ((t.toNat:Nat):Int)) λA=>
   e8 a (ao .i64 (nd - c2)) λp=>aQ A (p.add (aZ (ao .i64 (nd - c2)) *1)) (.int .u8 ((j.toNat:Nat):Int)) K:=by
 subst O;obtain⟨S,U⟩:=Zb x Q;have P:ao .u32 (((2 *x:Nat):Int)+1)=((2 *x+1:Nat):Int):=by rw[IntKind.wrap_u32];omega
 refine H.dr λz B=>?_;rw[P,I,L,aS ((n+1:Nat):Int) (by omega),aS (n:Int) (by omega),bF,bF];refine⟨by omega,_,U,by omega,_,S,Dt e B rfl (by omega) (by rw[d.1];omega) λA C=>Dt e C rfl (by omega) (by rw[i3,d.1];omega) λV E=>N V _ ?_ E⟩;exact(d.put h (n:=n+1) (by omega) F).put h (by omega) G
end
def om{x:Nat}(h:x<4294967296):ao .u32 (x:Int)=(x:Int):=by rw[IntKind.wrap_u32];omega
section
variable {w0 w:J} {a:Sl} {b o u:Nat} {T:aC}
def wQ(w0:J)(b o u nd:Nat)(T:aC)(r:Ending)(Y:J):Prop:=r=ag (.tuple #[])/\∃d,LH (·=b) w0 Y [.c b d T] []/\Dg u nd o 0 d
def H2{n:Nat}(A:a.a=some ((ae b).add o))(B:o+a.n<=24)(E:n<=1)(F:n<=a.n)(C:u<10^a.n){vs:List ab}(d:Dg u a.n o n vs)(H:LH (·=b) w0 w [.c b vs T] []):
  jW.Fy a (n:Int) ((u / 10^(a.n - n):Nat):Int) w (wQ w0 b o u a.n T):=by
 refine aG (λk=>?_) (λk=>?_)
 case' refine_2=>
  have q:n=0:=by omega
  subst q;exact⟨rfl,vs,H,d⟩
 have:n=1:=by omega
 subst this;have e:u / 10^(a.n - 1)<10:=by rw[Nat.div_lt_iff_lt_mul (Nat.pow_pos (by omega)),<-Nat.pow_succ',show(a.n - 1).succ=a.n by omega];exact C
 generalize D:u / 10^(a.n - 1)=x at *;have j:(Value.int .u8 (ao .u8 (ao .u32 (48+(x:Int)))))=bC (gX x):=by
  have y:ao .u32 (48+(x:Int))=((48+x:Nat):Int):=by rw[IntKind.wrap_u32];omega
  have z:ao .u8 ((48+x:Nat):Int)=((48+x:Nat):Int):=by rw[IntKind.wrap_u8];omega
  rw[y,z,bC,Bl x e]
 rw[j];refine Dt A H (X:=0) (n:=0) rfl (by omega) (by rw[d.1];omega) λG h=>⟨rfl,_,h,d.put B (by omega) ?_⟩;rw[show a.n - 1 - 0=a.n - 1 by omega,D,Nat.mod_eq_of_lt e]
def H3{n:Nat}(h:a.a=some ((ae b).add o))(j:o+a.n<=24)(I:n<4)(q:n<=a.n)(y:u<10^a.n){vs:List ab}(z:Dg u a.n o n vs)(H:LH (·=b) w0 w [.c b vs T] []):
  jW.S9 a (n:Int) ((u / 10^(a.n - n):Nat):Int) w (wQ w0 b o u a.n T):=by
 refine aG (λD=>?_) (λD=>H2 h j (by omega) q y z H);obtain⟨m,rfl⟩:∃m,n=m+2:=⟨n - 2,by omega⟩;have G:u / 10^(a.n - (m+2))<10000:=by rw[Nat.div_lt_iff_lt_mul (Nat.pow_pos (by omega))];refine kP y ?_;rw[show(10000:Nat)=10^4 from rfl,<-Nat.pow_add];exact Nat.pow_le_pow_right (by omega) (by omega)
 have d:=Bk (u:=u) q (i:=0) (by omega);have e:=Bk (u:=u) q (i:=1) (by omega);have eq:u / 10^(a.n - (m+2)) / 100=u / 10^(a.n - m):=by rw[Nat.div_div_eq_div_mul,show(100:Nat)=10^2 from rfl,<-Nat.pow_add,show a.n - (m+2)+2=a.n - m by omega]
 generalize K:u / 10^(a.n - (m+2))=x at *;rw[Nat.pow_zero,Nat.div_one]at d;rw[Nat.pow_one]at e;have B:bY (x:Int) 100=((x%100:Nat):Int):=rfl;have C:bN (x:Int) 100=((x / 100:Nat):Int):=rfl;dsimp only[jW.wZ,ax];rw[B,C,om (by omega),eq];have F:ao .u32 (((x%100:Nat):Int) *2)=((2 *(x%100):Nat):Int):=by rw[IntKind.wrap_u32];omega
 rw[F];refine pair (k:=0) h (x:=x%100) (n:=m) (by omega) (by omega) (by omega) (by omega) j z ?_ ?_ H (λM L E A=>?_) rfl
 .rw [show m+2 - 1 - 0=m+1 by omega]at d;rw[d];omega
 .rw [show m+2 - 1 - 1=m by omega]at e;rw[e];omega
 .rw [show((m+2:Nat):Int) - 2=(m:Int)by omega,aS _ (by omega)];exact H2 h j (by omega) (by omega) y E A
def UI(d:a.a=some ((ae b).add o))(e:o+a.n<=24)(B:u<10^a.n)(af:u<2^64):∀(n:Nat),n<=a.n->∀(w:J) (vs:List ab),Dg u a.n o n vs->LH (·=b) w0 w [.c b vs T] []->
  jW.L0 a ((u / 10^(a.n - n):Nat):Int) (n:Int) w (wQ w0 b o u a.n T):=by
 intro n;induction n using Nat.strongRecOn with
 |_ n ih=>
 intro Y w vs L F;have hq:u / 10^(a.n - n)<2^64:=Nat.lt_of_le_of_lt (Nat.div_le_self _ _) af;have W:∀O,n<=O->u / 10^(a.n - n)<10^O:=λO hk=>by rw[Nat.div_lt_iff_lt_mul (Nat.pow_pos (by omega))];refine kP B ?_;rw[<-Nat.pow_add];exact Nat.pow_le_pow_right (by omega) (by omega)
 have P:∀i,i<n->u / 10^(a.n - 1 - (n - 1 - i))%10=u / 10^(a.n - n) / 10^i%10:=λi E=>Bk Y E;have step:∀i,i<=n->u / 10^(a.n - n) / 10^i=u / 10^(a.n - (n - i)):=λi E=>by rw[Nat.div_div_eq_div_mul,<-Nat.pow_add,show a.n - n+i=a.n - (n - i)by omega]
 generalize hx:u / 10^(a.n - n)=x at *;refine jW.bE _ _ _ _ _ (aG (λh8=>?_) (λh8=>aG (λh4=>?_) (λh4=>?_)))
 .obtain ⟨m,rfl⟩:∃m,n=m+8:=⟨n - 8,by omega⟩;have e0:bY (x:Int) 100000000=((x%100000000:Nat):Int):=rfl;have e1:bN (x:Int) 100000000=((x / 100000000:Nat):Int):=rfl;have I:∀y:Nat,bN (y:Int) 10000=((y / 10000:Nat):Int):=λ_=>rfl;have K:∀y:Nat,bY (y:Int) 10000=((y%10000:Nat):Int):=λ_=>rfl;have C:∀y:Nat,bN (y:Int) 100=((y / 100:Nat):Int):=λ_=>rfl;have D:∀y:Nat,bY (y:Int) 100=((y%100:Nat):Int):=λ_=>rfl;have h:∀y:Nat,y<100000->ao .u32 ((y:Int) *2)=((2 *y:Nat):Int):=λy hy=>by rw[IntKind.wrap_u32];omega
  have B:ao .u64 ((x / 100000000:Nat):Int)=((x / 100000000:Nat):Int):=by rw[IntKind.wrap_u64];omega
  dsimp only[jW.S1,jW.S2,jW.S3,jW.S4,ax];rw[e0,e1,B,om (x:=x%100000000) (by omega),I,K,om (x:=x%100000000 / 10000) (by omega),C,D,C,D,om (x:=x%100000000%10000 / 100) (by omega),om (x:=x%100000000 / 10000 / 100) (by omega),h _ (by omega),h _ (by omega),h _ (by omega),h _ (by omega)];have g:∀i,i<8->u / 10^(a.n - 1 - (m+(7 - i)))%10=x / 10^i%10:=λi E=>by
   have:=P i (by omega)
   rwa[show m+8 - 1 - i=m+(7 - i)by omega]at this
  have j:=g 0 (by omega);have q:=g 1 (by omega);have z:=g 2 (by omega);have A:=g 3 (by omega);have Q:=g 4 (by omega);have S:=g 5 (by omega);have U:=g 6 (by omega);have V:=g 7 (by omega);simp only[Nat.reducePow,Nat.reduceSub,Nat.div_one,Nat.add_zero]at j q z A Q S U V;refine pair (k:=0) d (x:=x%100000000%10000%100) (n:=m+6) (by omega) (by omega) (by omega) (by omega) e L (by rw[j];omega) (by rw[q];omega) F (λw1 ag M G=>?_) rfl;refine pair (k:=0) d (x:=x%100000000%10000 / 100) (n:=m+4) (by omega) (by omega) (by omega) (by omega) e M (by rw[z];omega) (by rw[A];omega) G (λw2 ah N H=>?_) rfl;refine pair (k:=0) d (x:=x%100000000 / 10000%100) (n:=m+2) (by omega) (by omega) (by omega) (by omega) e N (by rw[Q];omega) (by rw[S];omega) H (λw3 aj ac Z=>?_) rfl;refine pair (k:=0) d (x:=x%100000000 / 10000 / 100) (n:=m) (by omega) (by omega) (by omega) (by omega) e ac (by rw[U];omega) (by rw[V];omega) Z (λw4 ai ad H4=>?_) rfl;rw[show((m+8:Nat):Int) - 8=(m:Int)by omega,aS _ (by omega)];have st:=step 8 (by omega);rw[show m+8 - 8=m by omega]at st;simp only[Nat.reducePow]at st;rw[st];exact ih m (by omega) (by omega) w4 ai ad H4
 .obtain ⟨m,rfl⟩:∃m,n=m+4:=⟨n - 4,by omega⟩;have h7:=W 7 (by omega);simp only[Nat.reducePow]at h7;have I:∀y:Nat,bN (y:Int) 10000=((y / 10000:Nat):Int):=λ_=>rfl;have K:∀y:Nat,bY (y:Int) 10000=((y%10000:Nat):Int):=λ_=>rfl;have C:∀y:Nat,bN (y:Int) 100=((y / 100:Nat):Int):=λ_=>rfl;have D:∀y:Nat,bY (y:Int) 100=((y%100:Nat):Int):=λ_=>rfl;have h:∀y:Nat,y<100000->ao .u32 ((y:Int) *2)=((2 *y:Nat):Int):=λy hy=>by rw[IntKind.wrap_u32];omega
  dsimp only[jW.S6,jW.S7,jW.S8,ax];rw[om (x:=x) (by omega),I,K,om (x:=x / 10000) (by omega),C,D,om (x:=x%10000 / 100) (by omega),h _ (by omega),h _ (by omega)];have g:∀i,i<4->u / 10^(a.n - 1 - (m+(3 - i)))%10=x / 10^i%10:=λi E=>by
   have:=P i (by omega)
   rwa[show m+4 - 1 - i=m+(3 - i)by omega]at this
  have j:=g 0 (by omega);have q:=g 1 (by omega);have z:=g 2 (by omega);have A:=g 3 (by omega);simp only[Nat.reducePow,Nat.reduceSub,Nat.div_one,Nat.add_zero]at j q z A;refine pair (k:=0) d (x:=x%10000%100) (n:=m+2) (by omega) (by omega) (by omega) (by omega) e L (by rw[j];omega) (by rw[q];omega) F (λw1 ag M G=>?_) rfl;refine pair (k:=0) d (x:=x%10000 / 100) (n:=m) (by omega) (by omega) (by omega) (by omega) e M (by rw[z];omega) (by rw[A];omega) G (λw2 ah N H=>?_) rfl;rw[show((m+4:Nat):Int) - 4=(m:Int)by omega,aS _ (by omega)];have st:=step 4 (by omega);rw[show m+4 - 4=m by omega]at st;simp only[Nat.reducePow]at st;rw[st];exact H3 d e (by omega) (by omega) B N H
 .have aa:=W 4 (by omega);simp only[Nat.reducePow]at aa;rw[om (x:=x) (by omega),<-hx];exact H3 d e (by omega) Y B L F
end
def Gf{w:J}{b o u nd c:Nat}{vs:List ab}{T:aC}(h:w.heap[b]? =some (.cells vs.toArray T (0,0)))(y:vs.length=24)(k:o+nd<=24)(q:u<10^nd)(x:u<2^64):
  ak aa KU #[.slice (some ((ae b).add o)) nd c,.u (u:Int)] w (wQ w b o u nd T):=by
 have d:LH (·=b) w w [.c b vs T] []:=LH.tz _ _ (by intro B j;rw[bG.1 j];exact⟨h,λD z=>by simpa[En.c,En.ob]using z⟩) (by simp[En.c,En.ob]) (by simp)
 refine jW.ok ⟨some ((ae b).add o),nd,c⟩ _ w _ ?_;have:=UI (a:=⟨some ((ae b).add o),nd,c⟩) (u:=u) (T:=T) rfl k q x nd (bg _) w vs ⟨y,λA C e=>absurd (show A<nd from e) (by omega)⟩ d;rw[Nat.sub_self,Nat.pow_zero,Nat.div_one]at this;exact this
def G'{u nd o:Nat}{vs:List ab}(h:Dg u nd o 0 vs)(e:nd=(bZ u).length)(k:o+nd<=24):(vs.drop o).take nd=(bZ u).map bC:=by
 refine List.ext_getElem? λj=>?_;rw[jw];split
 .rename_i d;rw[jv,h.2 j (by omega) d,Uj u,List.map_map,iM,List.getElem?_range (by omega),e];rfl
 .rw [iM,List.getElem?_eq_none (by omega)];rfl
def Uk{n:Nat}(d:10<=n)(e:n<100):bZ n=[gX (n / 10),gX (n%10)]:=by rw[r4 (by omega),nI (by omega)];rfl
def Y':∀n<10,Ws.extract n (n+1)=ba [gX n]:=by decide+kernel
def Za:∀n<100,10<=n->vu.extract (n *2) (n *2+2)=ba [gX (n / 10),gX (n%10)]:=by decide+kernel
def Nm(m:Nat)(q:m<100)(w:J):ak aa KW #[.i (m:Int)] w λr k=>r=ag (.string (ba (bZ m)))/\k=w:=by
 refine IN.ok _ w _ (aG (λj=>?_) (λj=>?_))
 .rw [bd _ (by omega)];refine⟨by omega,?_,by omega,by rw[bF];omega,by rw[bF,bF,nI (by omega)];exact congrArg (λd=>Ending.returned (.string d)) (Y' m (by omega)),rfl⟩;show((m+1:Nat):Int)<=((36:Nat):Int);omega
 .have e:ao .i64 ((m:Int) *2)=((m *2:Nat):Int):=by rw[aS _ (by omega)];omega
  have h:ao .i64 (((m *2:Nat):Int)+2)=((m *2+2:Nat):Int):=by rw[aS _ (by omega)];omega
  rw[e,h];refine⟨by omega,?_,by omega,by rw[bF];omega,by rw[bF,bF,Uk (by omega) (by omega)];exact congrArg (λd=>Ending.returned (.string d)) (Za m (by omega) (by omega)),rfl⟩;show((m *2+2:Nat):Int)<=((200:Nat):Int);omega
def Qv{n:Int}(h:a5 n):(n<0->ao .u64 (0 - ao .u64 n)=(n.natAbs:Int))/\(0<=n->ao .u64 n=(n.natAbs:Int))/\n.natAbs<2^64:=by
 refine⟨λd=>?_,λd=>?_,?_⟩
 .rw [IntKind.wrap_u64,IntKind.wrap_u64];omega
 .rw [IntKind.wrap_u64];omega
 .omega
def G6{u:Nat}(h:u<2^64):1<=(bZ u).length/\(bZ u).length<=20/\u<10^(bZ u).length:=by
 refine⟨?_,xw (by omega) (by omega),?_⟩
 .cases d:bZ u with
  |nil=>exact absurd d (Bi _)
  |cons c l=>simp
 .have:=ES (bZ u) (Bh u)
  rwa[ET]at this
abbrev ou:List ab:=List.replicate 24 (.int .u8 0)
def Dp{w:J}{b o n c:Nat}{vs:List ab}{T:aC}{V:List UInt8}(e:w.heap[b]? =some (.cells vs.toArray T (0,0)))(k:V.length=n)(j:n<=c)(h:(vs.drop o).take n=V.map bC):Bytes w ⟨some ((ae b).add o),n,c⟩ V:=by
 refine vT (by simp[k]) j (λh=>by cases h) (λi v d=>⟨(ae b).add o,rfl,?_⟩);rw[<-h,jw]at d;split at d
 .rw [jv]at d;rw[add_add];exact cellAt (p:=ae b) e rfl (by simpa using d)
 .cases d
def SG{n:Int}(h:a5 n){w:J}(V:ma.P w):ak aa KP #[.i n,.i 10] w λr d=>r=ag (.string (ba (ck n)))/\ah w d:=by
 obtain⟨Y,Z,E⟩:=Qv h;have kZ:¬(0<=n/\n<100)->vo.S0 n w λr d=>r=ag (.string (ba (ck n)))/\ah w d:=by
  intro ac;obtain⟨d1,d2,O⟩:=G6 E;have N:LH F0 w w [] [ma]:=bP _ (by intro K U;rw[bG.1 U];exact V)
  have I:∀e,LH F0 w e [.c w.heap.size ou oi] [ma]->vo.S1 n (ae w.heap.size) (n.natAbs:Int) e λr d=>r=ag (.string (ba (ck n)))/\ah w d:=by
   intro e j;refine(Gk (by omega) E e (j.getD 0)).mono ?_;rintro _ w2 ⟨rfl,rfl⟩;have Q:ao .i64 (1+(((bZ n.natAbs).length:Nat):Int))=(((bZ n.natAbs).length+1:Nat):Int):=by rw[aS _ (by omega)];omega
   refine⟨_,rfl,?_⟩;dsimp only;rw[Q,bF];have S:(if 24=aZ 1 then ae w.heap.size else(ae w.heap.size).add (aZ 1 *1))=(ae w.heap.size).add 1:=by rw[af (by decide)];rfl
   rw[S];have T:(bZ n.natAbs).length+1 - aZ 1=(bZ n.natAbs).length:=by show _ - 1=_;omega
   rw[T];refine⟨by omega,by omega,by omega,by omega,(Gf (vs:=ou) (o:=1) (nd:=(bZ n.natAbs).length) (j.get 0) rfl (by omega) O E).mono ?_⟩;rintro _ F ⟨rfl,k,H,B⟩;have z:LH F0 w F [.c w.heap.size k oi] [ma]:=j.gu 0 (.c w.heap.size k oi) rfl (H.fr.mono λai _ W=>by simp[En.c,En.ob,W]) (H.get 0) λb x=>.inl x;have C:=G' B rfl (by omega);refine⟨rfl,aG (λD=>?_) (λD=>?_)⟩
   .have q:ck n=45::bZ n.natAbs:=by unfold ck;rw[aj D]
    refine⟨by omega,by omega,?_⟩;have st:aQ F ((ae w.heap.size).add 0) (.int .u8 45) λy=>(0:Int)<=(((bZ n.natAbs).length+1:Nat):Int)/\(((bZ n.natAbs).length+1:Nat):Int)<=((24:Nat):Int)/\∃t:ByteArray,kQ aa (Go.convert cV fW (.slice (some (if 24=0 then ae w.heap.size else(ae w.heap.size).add (0 *1))) ((bZ n.natAbs).length+1 - 0) (24 - 0))) y=.ok (.string t) y/\(λr d=>r=Ending.returned (.string (ba (ck n)))/\ah w d) (ag (.string t)) y:=by
     refine z.st 0 0 rfl (λy G=>⟨by omega,by omega,ba (ck n),?_,rfl,G.fr⟩) (by rw[B.1];omega);have x:Bytes y ⟨some ((ae w.heap.size).add 0),(bZ n.natAbs).length+1,24⟩ (ck n):=Dp (G.get 0) (by rw[q];rfl) (by omega) (by
      rw[q,List.drop_zero];have A:=B.1;cases k with
      |nil=>simp at A
      |cons v k=>
       rw[List.set_cons_zero,List.take_succ_cons,List.map_cons];rw[show List.drop 1 (v::k)=k from rfl]at C;rw[C];rfl)
     exact lZ x
    exact st
   .have q:ck n=bZ n.natAbs:=by unfold ck;rw[af D]
    refine⟨by omega,by omega,by omega,by omega,ba (ck n),?_,rfl,z.fr⟩;have x:Bytes F ⟨some ((ae w.heap.size).add 1),(bZ n.natAbs).length,24 - aZ 1⟩ (ck n):=Dp (z.get 0) (by rw[q]) (by show _<=24 - 1;omega) (by rw[q];exact C);exact lZ x
  have K:(#[.int .u8 0,.int .u8 0,.int .u8 0,.int .u8 0,.int .u8 0,.int .u8 0,.int .u8 0,.int .u8 0,.int .u8 0,.int .u8 0,.int .u8 0,.int .u8 0,.int .u8 0,.int .u8 0,.int .u8 0,.int .u8 0,.int .u8 0,.int .u8 0,.int .u8 0,.int .u8 0,.int .u8 0,.int .u8 0,.int .u8 0,.int .u8 0]:Array ab)=ou.toArray:=rfl;dsimp only[vo.S0,ax];rw[K];refine N.nw λe ad j=>?_;refine aG (λM=>?_) (λM=>?_)
  .rw [Y M];exact I e j
  .rw [Z (by omega)];exact I e j
 refine vo.ok _ _ w _ (a3 rfl (aG (λL=>aG (λA=>?_) (λA=>kZ (by omega))) (λL=>kZ (by omega))));obtain⟨m,rfl⟩:=Int.eq_ofNat_of_zero_le L;refine(Nm m (by omega) w).mono ?_;rintro _ _ ⟨rfl,rfl⟩;refine⟨_,rfl,?_,Fr.refl _ _⟩;unfold ck;rw[af (by omega)];rfl
def F2{n:Int}(h:a5 n){w:J}(e:ma.P w):ak aa L7 #[.i n] w λr d=>r=ag (.string (ba (ck n)))/\ah w d:=by
 refine PM.ok _ w _ ((show ak aa KR #[.i n] w λr d=>r=ag (.string (ba (ck n)))/\ah w d from IJ.ok _ w _ ((SG h e).mono ?_)).mono ?_)
 .rintro _ j ⟨rfl,f⟩;exact⟨_,rfl,rfl,f⟩
 .rintro _ j ⟨rfl,f⟩;exact⟨_,rfl,rfl,f⟩
abbrev aaN(t:Nat)(x:ab):En:=.rd ⟨some (ae 0),1,1⟩ [.iface t x]
abbrev aaM(t:Nat)(x:ab):En:=.rd ⟨some (ae 0),1,1⟩ [.iface t x]
def ru(w:J):Prop:=ma.P w/\True
def k8:En:=⟨ma.fp,ru,λe j h d=>⟨ma.st e j h d.1,trivial⟩,λe d=>ma.lt e d.1,ma.nd⟩
def FT{s:ByteArray}{l:List UInt8}(h:bl s=l)(i:Nat):s[i]? =l[i]?:=by subst h;unfold bl;rw[Array.getElem?_toList];rfl
def Uh{m:Int}(h:m<0):ck m=45::bZ m.natAbs:=by unfold ck;rw[aj h]
def Ui{m:Int}(h:¬m<0):ck m=bZ m.natAbs:=by unfold ck;rw[af h]
set_option maxHeartbeats 2000000
namespace GK
noncomputable abbrev t0:=aA aa Tryz.f70 [] []
def ok:=aB t0 JO [.I]
end GK
namespace GJ
noncomputable abbrev t0:=aA aa Tryz.f92 [] []
def ok:=aB t0 WV [.I]
end GJ
namespace qg
noncomputable abbrev t0:=aA aa Tryz.f69 [] []
noncomputable def L0:=bj t0 [0,1,1,1,2] [(8,.v [.s]),(9,.v [.I]),(10,.v [.I])]
noncomputable abbrev t1:=bh L0
def bE:=bm t1 L0
def ok:=aB t1 JN [.s]
end qg
namespace rY
noncomputable abbrev t0:=aA aa Tryz.f41 [(7,ls [0,1,2,3,5,6,7,8,9,4,10,11])] []
noncomputable def L0:=bj t0 [0,1,1,1,2] [(0,.v [.s]),(4,.v [.I])]
noncomputable abbrev t1:=bh L0
def bE:=bm t1 L0
def ok:=aB t1 JM [.s]
end rY
namespace kE
noncomputable abbrev t0:=aA aa Tryz.f71 [] []
abbrev P0:Ps:=[]
noncomputable abbrev S0:=ax t0 [0,1,1,1,1] P0
noncomputable abbrev t1:=az S0
abbrev P1:Ps:=[(0,.v [.st]),(24,.v [.I]),(25,.v [.I])]
noncomputable def L1:=bj t1 [0,1,1,1,2] P1
noncomputable abbrev t2:=bh L1
noncomputable abbrev S3:=ax t2 [0,1,3,2,2,2,1,1,2] P0
noncomputable abbrev t3:=az S3
noncomputable abbrev S4:=ax t3 [3,2,1,1,2] P1
noncomputable abbrev t4:=az S4
noncomputable abbrev S2:=ax t4 [2,2,2,2,1,1,2] [(0,.v [.st]),(4,.v [.Y]),(24,.v [.I]),(25,.v [.I])]
noncomputable abbrev t5:=az S2
def fJ:=bm t5 L1
def ok:=aB t5 K5 [.st]
end kE
namespace sZ
noncomputable abbrev t0:=aA aa Tryz.f42 [] [3]
abbrev P0:Ps:=[]
noncomputable abbrev bq:=ax t0 [0,1,1,1,1] P0
noncomputable abbrev t1:=az bq
noncomputable def je:=bj t1 [0,1,1,1,4] [(1,.v [.I]),(2,.v [.I]),(3,.l [.I,.I,.I,.s,.st,.s,.s] e2),(34,.v [.s]),(35,.v [.I]),(36,.v [.I])]
noncomputable abbrev t2:=bh je
noncomputable abbrev cJ:=ax t2 [0,1,2,2,2,2,1,1,4] P0
noncomputable abbrev t3:=az cJ
noncomputable abbrev gI:=ax t3 [0,1,1,1,5] P0
noncomputable abbrev t4:=az gI
noncomputable abbrev jM:=ax t4 [6] P0
noncomputable abbrev t5:=az jM
def lR:=bm t5 je
noncomputable abbrev bT:=ax t5 [4] [(1,.v [.I]),(2,.v [.I]),(3,.l [.I,.I,.I,.s,.st,.s,.s] e2)]
noncomputable abbrev t6:=az bT
def aD:=aB t6 Le [.a 7,.I,.I,.I,.s,.st,.s,.s,.I,.I]
end sZ
namespace o3
noncomputable abbrev t0:=aA aa Tryz.f18 [] [1,8]
noncomputable def a2:=bj t0 [0,1,1,1,2] [(1,.l [.s,.s,.s,.s] il),(18,.v [.s]),(19,.v [.I]),(20,.v [.I])]
noncomputable abbrev t1:=bh a2
noncomputable abbrev bT:=ax t1 [0,1,2,2,2,2,1,1,2] []
noncomputable abbrev t2:=az bT
noncomputable def je:=bj t2 [0,1,1,1,5] [(45,.v [.s]),(46,.v [.I]),(47,.v [.I])]
noncomputable abbrev t3:=bh je
def lR:=bm t3 je
def bB:=bm t3 a2
def aD:=aB t3 Ld [.a 4,.s,.s,.s,.s]
end o3
namespace sU
noncomputable abbrev t0:=aA aa Tryz.f56 [] [1,4,7]
noncomputable abbrev bq:=ax t0 [0,1,1,1,1] []
noncomputable abbrev t1:=az bq
noncomputable def ct:=bj t1 [0,1,1,1,2] [(1,.l [.s,.s] fH),(20,.v [.s]),(21,.v [.I]),(22,.v [.I])]
noncomputable abbrev t2:=bh ct
noncomputable def je:=bj t2 [0,1,1,1,3] [(1,.l [.s,.s] fH),(33,.v [.s]),(34,.v [.I]),(35,.v [.I])]
noncomputable abbrev t3:=bh je
def lR:=bm t3 je
def dX:=bm t3 ct
def aD:=aB t3 K2 [.a 2,.s,.s]
end sU
namespace sV
noncomputable abbrev t0:=aA aa Tryz.f57 [] []
noncomputable def L0:=bj t0 [0,1,1,1,1] [(0,.v [.s]),(7,.v [.s]),(8,.v [.I]),(9,.v [.I])]
noncomputable abbrev t1:=bh L0
noncomputable abbrev S1:=ax t1 [2,2,2,2,1,1,1] [(0,.v [.s]),(6,.v [.st]),(7,.v [.s]),(8,.v [.I]),(9,.v [.I])]
noncomputable abbrev t2:=az S1
def bE:=bm t2 L0
def ok:=aB t2 K3 [.s,.s]
end sV
namespace sX
noncomputable abbrev t0:=aA aa Tryz.f58 [] []
noncomputable def L0:=bj t0 [0,1,1,1,2] [(3,.v [.s]),(7,.v [.s]),(8,.v [.I]),(9,.v [.I])]
noncomputable abbrev t1:=bh L0
noncomputable abbrev S1:=ax t1 [2,2,2,2,1,1,2] [(3,.v [.s]),(5,.v [.I]),(7,.v [.s]),(8,.v [.I]),(9,.v [.I])]
noncomputable abbrev t2:=az S1
def bE:=bm t2 L0
def ok:=aB t2 K7 [.s]
end sX
namespace sW
noncomputable abbrev t0:=aA aa Tryz.f60 [(7,ls [0,1,2,3,4,5,6,8,9,11,12,13,15,16,18,19,7,10,14,17,20,21,22,23])] [6]
noncomputable def a2:=bj t0 [0,1,1,1,1] [(0,.v [.s]),(8,.v [.s]),(9,.v [.I]),(10,.v [.I])]
noncomputable abbrev t1:=bh a2
noncomputable abbrev bT:=ax t1 [3,2,2,2,1,1,1] [(0,.v [.s]),(6,.l [.I,.I,.I,.s,.st,.s,.s] e2),(7,.v [.st]),(8,.v [.s]),(9,.v [.I]),(10,.v [.I])]
noncomputable abbrev t2:=az bT
def bB:=bm t2 a2
def aD:=aB t2 K4 [.s,.s]
end sW
namespace XY
noncomputable abbrev t0:=aA aa Tryz.f59 [(5,ls [0,1,2,3,4,5,6,7,8,9])] []
noncomputable def L0:=bj t0 [0,1,1,1,2] [(3,.v [.s]),(10,.v [.s]),(11,.v [.I]),(12,.v [.I])]
noncomputable abbrev t1:=bh L0
end XY
namespace Dr
noncomputable abbrev t0:=aA aa Tryz.f35 [(9,ls [0,1,2,4,5,7,3,6,8,9,10,11])] [1,7]
noncomputable def a2:=bj t0 [0,1,1,1,3] [(1,.l [.s,.s] fH),(5,.v [.s]),(16,.v [.s]),(17,.v [.I]),(18,.v [.I])]
noncomputable abbrev t1:=bh a2
def bB:=bm t1 a2
def aD:=aB t1 K1 [.a 2,.s,.s]
end Dr
def hj(s:cv):List UInt8:=x5 s++[10]
abbrev kO:En:=.rd ⟨some (ae 0),6,6⟩ (q6.map mj)
abbrev wB(i:Nat):ByteArray:=ba (q6.getD i [])
def aax{w:J}(h:kO.P w)(i:Nat)(U:i<6):w.cell? ((Addr.mk 0 0 none).add i)=some (.string (wB i)):=by
 have d:∀i<6,(q6.map mj)[i]? =some (.string (wB i)):=by
  intro i U
  match i,U with
  |0,_=>rfl
  |1,_=>rfl
  |2,_=>rfl
  |3,_=>rfl
  |4,_=>rfl
  |5,_=>rfl
 obtain⟨p,j,e⟩:=(show Rd w _ _ from h).2.2.2 i _ (d i U);cases j;exact e
structure Sp where
 x:cv
 p:Sl
 l:Sl
 h:Sl
namespace Sp
def c(d:Sp):List ab:=[.i d.x.kind,.i d.x.node,.i d.x.du,d.p.v,.string d.x.nm,d.l.v,d.h.v]
abbrev v(d:Sp):ab:=.agg #[.i d.x.kind,.i d.x.node,.i d.x.du,d.p.v,.string d.x.nm,d.l.v,d.h.v]
abbrev pE(d:Sp):En:=.rd d.p (d.x.params.map a')
abbrev lE(d:Sp):En:=.rd d.l (d.x.b0.map a')
abbrev hE(d:Sp):En:=.rd d.h (d.x.hints.map a')
end Sp
namespace Hm
noncomputable abbrev t0:=aA aa Tryz.f13 [] []
def ok:=aB t0 Cq [.s,.I]
end Hm
namespace Hq
noncomputable abbrev t0:=aA aa Tryz.f76 [] []
def ok:=aB t0 J0 [.I]
end Hq
namespace uV
noncomputable abbrev t0:=aA aa Tryz.f49 [] []
noncomputable def L0:=bj t0 [0,2,2] [(0,.v [.U]),(3,.v [.s])]
noncomputable abbrev t1:=bh L0
def bE:=bm t1 L0
def ok:=aB t1 JZ [.U]
end uV
namespace Ho
noncomputable abbrev t0:=aA aa Tryz.f50 [] []
def ok:=aB t0 JW [.I]
end Ho
namespace sb
noncomputable abbrev t0:=aA aa Tryz.f25 [] []
noncomputable def L0:=bj t0 [0,1,1,1,2] [(0,.v [.s]),(3,.v [.s]),(4,.v [.I])]
noncomputable abbrev t1:=bh L0
def bE:=bm t1 L0
def ok:=aB t1 JX [.s]
end sb
namespace Hp
noncomputable abbrev t0:=aA aa Tryz.f23 [] []
def ok:=aB t0 JY [.s]
end Hp
namespace u5
noncomputable abbrev t0:=aA aa Tryz.f24 [] [5]
noncomputable def a2:=bj t0 [0,1,1,1,2] [(0,.v [.s]),(3,.v [.s]),(4,.v [.I])]
noncomputable abbrev t1:=bh a2
def bB:=bm t1 a2
def aD:=aB t1 Kq [.s]
end u5
namespace Hn
noncomputable abbrev t0:=aA aa Tryz.f17 [] []
noncomputable abbrev S0:=ax t0 [0,1,1,1,1] []
noncomputable abbrev t1:=az S0
def ok:=aB t1 ye [.s,.I,.I]
end Hn
namespace u9
noncomputable abbrev t0:=aA aa Tryz.f26 [(6,ls [0,1,2,5,6,3,4,7,8,9]),(7,ls [0,1,2,5,6,3,4,7,8,9]),(8,ls [0,1,2,6,7,3,4,5,8,9,10])] [5]
noncomputable def a2:=bj t0 [0,1,1,1,2] [(0,.v [.s]),(3,.v [.s]),(4,.v [.I])]
noncomputable abbrev t1:=bh a2
def bB:=bm t1 a2
def aD:=aB t1 KM [.s]
end u9
namespace HQ
noncomputable abbrev t0:=aA aa Tryz.f9 [(2,ls [0,1,2,5,6,3,4,7,8,9])] [1]
def aD:=aB t0 KJ [.a 4,.s,.s,.s,.s]
end HQ
namespace f'
noncomputable def C0:Code:=(Tryz.f15.body).getD .skip
noncomputable def C1:=C0.sn
noncomputable def C2:=C1.sn
noncomputable def C3:=C2.fs
noncomputable def C4:=C3.sn
noncomputable def C5:=C4.fs
noncomputable def C6:=C5.fs
noncomputable def C7:=C2.sn
abbrev Q0(R:aH):hx:=(Exit.then (fu aa (cx 141) C7 (bodyPost aa Tryz.f15 R)) (bodyPost aa Tryz.f15 R))
abbrev Q1(R:aH):hx:=(Exit.inBlock 0 (Q0 R))
def L0(e:Sl)(h:Int)(t4 j:Addr)(d:Int)(w:J)(R:aH):Prop:=LP aa (cx 141) C6 (Q1 R) [(0,e.v),(1,.i h),(4,.pointer (some t4)),(5,.pointer (some j)),(6,.i d)] w
def oy(E:Env)(w:J)(R:aH):Prop:=W.asSlice (Env.get? E 0) λe=>W.asInt .i64 (Env.get? E 1) λh=>W.cu (Env.get? E 4) λk=>W.cu (Env.get? E 5) λj=>W.asInt .i64 (Env.get? E 6) λd=>L0 e h k j d w R
def rA:Ae aa 141 oy C6 Q1:=by intro D C K e;obtain⟨F,x,h⟩:=W.pY e;obtain⟨G,y,j⟩:=W.gJ h;obtain⟨I,z,k⟩:=W.cF j;obtain⟨H,A,q⟩:=W.cF k;obtain⟨E,B,w⟩:=W.gJ q;intro a d;exact w a (d.cons x (d.cons y (d.cons z (d.cons A (d.cons B d.nil)))))
noncomputable def C8:=C6.sn
noncomputable def C9:=C8.sn
abbrev Q2(R:aH):hx:=(Exit.then (lS aa (cx 141) C6 (Q1 R)) (Q1 R))
abbrev S1(e:Sl)(h:Int)(t4 j:Addr)(d:Int)(w:J)(R:aH):Prop:=
 L0 e h t4 j (ao .i64 (d+1)) w R
def pK(E:Env)(w:J)(R:aH):Prop:=W.asSlice (Env.get? E 0) λe=>W.asInt .i64 (Env.get? E 1) λh=>W.cu (Env.get? E 4) λk=>W.cu (Env.get? E 5) λj=>W.asInt .i64 (Env.get? E 6) λd=>S1 e h k j d w R
def z9:pN aa 141 pK C9 Q2:=by intro h e j k;obtain⟨L,C,x⟩:=W.pY k;obtain⟨M,D,y⟩:=W.gJ x;obtain⟨O,F,z⟩:=W.cF y;obtain⟨N,G,A⟩:=W.cF z;obtain⟨I,H,B⟩:=W.gJ A;exact λa d=>WP.at (E:=[(0,L.v),(1,.i M),(4,.pointer (some O)),(5,.pointer (some N)),(6,.i I)]) (rg C9 (K:=λe j=>oy e j h) (by kernel_rfl) (mp B) λ_ _ a q w=>rA h _ _ w a q) (d.cons C (d.cons D (d.cons F (d.cons G (d.cons H d.nil)))))
noncomputable def lN:=C8.fs
noncomputable def jI:=lN.fs
noncomputable def mw:=C7.fs
noncomputable def ns:=mw.sn
noncomputable def nt:=ns.fs
noncomputable def jJ:=nt.fs
noncomputable def jK:=C7.sn
abbrev Q3(R:aH):hx:=(Exit.then (fu aa (cx 141) jK (bodyPost aa Tryz.f15 R)) (bodyPost aa Tryz.f15 R))
abbrev Q4(R:aH):hx:=(Exit.inBlock 2 (Q3 R))
def L2(e:Sl)(h:Int)(t4 j:Addr)(d:Int)(w:J)(R:aH):Prop:=LP aa (cx 141) jJ (Q4 R) [(0,e.v),(1,.i h),(4,.pointer (some t4)),(5,.pointer (some j)),(7,.i d)] w
def z7(E:Env)(w:J)(R:aH):Prop:=W.asSlice (Env.get? E 0) λe=>W.asInt .i64 (Env.get? E 1) λh=>W.cu (Env.get? E 4) λk=>W.cu (Env.get? E 5) λj=>W.asInt .i64 (Env.get? E 7) λd=>L2 e h k j d w R
def Fj:Ae aa 141 z7 jJ Q4:=by intro D C K e;obtain⟨F,x,h⟩:=W.pY e;obtain⟨G,y,j⟩:=W.gJ h;obtain⟨I,z,k⟩:=W.cF j;obtain⟨H,A,q⟩:=W.cF k;obtain⟨E,B,w⟩:=W.gJ q;intro a d;exact w a (d.cons x (d.cons y (d.cons z (d.cons A (d.cons B d.nil)))))
noncomputable def mx:=jJ.sn
noncomputable def my:=mx.fs
noncomputable def mz:=my.fs
noncomputable def kc:=mz.sn
noncomputable def kS:=kc.sn
noncomputable def ow:=kS.sn
noncomputable def ke:=ow.sn
noncomputable def rj:=ke.sn
noncomputable def rk:=mx.sn
abbrev Q5(R:aH):hx:=(Exit.then (fu aa (cx 141) rk (Exit.then (lS aa (cx 141) jJ (Q4 R)) (Q4 R))) (Exit.then (lS aa (cx 141) jJ (Q4 R)) (Q4 R)))
abbrev Q6(R:aH):hx:=(Exit.inBlock 3 (Q5 R))
abbrev S6(j:Sl)(k:Int)(t4 d:Addr)(h:Int)(q:Addr)(w:J)(R:aH):Prop:=
 ∃t135:Sl,w.cell? (d.add 1)=some (t135.v)/\
 V4 w q λx y z A B C D=>cZ w (.cells #[.i x,.i y,.i z,A.v,.string B,C.v,D.v] e2) λE=>
 ∃(t138:Sl) (e:J),kQ aa (dW #[tJ,tJ] tJ #[t135.v,.slice (some (nb w)) 1 1]) E=.ok (t138.v) e/\aQ e (d.add 1) (t138.v) λF=>
 L2 j k t4 d (ao .i64 (h+1)) F R
def pM(E:Env)(w:J)(R:aH):Prop:=W.asSlice (Env.get? E 0) λe=>W.asInt .i64 (Env.get? E 1) λh=>W.cu (Env.get? E 4) λq=>W.cu (Env.get? E 5) λj=>W.asInt .i64 (Env.get? E 7) λd=>W.cu (Env.get? E 9) λk=>S6 e h q j d k w R
def ud:pN aa 141 pM rj Q6:=by intro q e h w;obtain⟨N,D,x⟩:=W.pY w;obtain⟨O,F,y⟩:=W.gJ x;obtain⟨S,G,z⟩:=W.cF y;obtain⟨P,H,A⟩:=W.cF z;obtain⟨M,I,B⟩:=W.gJ A;obtain⟨Q,L,C⟩:=W.cF B;exact λa d=>WP.at (E:=[(0,N.v),(1,.i O),(4,.pointer (some S)),(5,.pointer (some P)),(7,.i M),(9,.pointer (some Q))]) (rg rj (K:=λe h=>n6 aa rk (λe h=>z7 e h q) e h) (by kernel_rfl) (mp C) λ_ _ a j k=>nx j (rg rk (by kernel_rfl) k λ_ _ a j k=>Fj q _ _ k a j)) (d.cons D (d.cons F (d.cons G (d.cons H (d.cons I (d.cons L d.nil))))))
noncomputable def rl:=ke.fs
noncomputable def rn:=rl.sn
noncomputable def rp:=rn.fs
abbrev Q7(R:aH):hx:=(Exit.then (fu aa (cx 141) rj (Exit.inBlock 3 (Q5 R))) (Exit.inBlock 3 (Q5 R)))
noncomputable def pD:=rp.sn
noncomputable def pF:=pD.sn
noncomputable def rq:=pF.fs
noncomputable def zO:=pF.sn
abbrev S5(q:Sl)(x:Int)(t4 y:Addr)(e h:Int)(d:Addr)(w:J)(R:aH):Prop:=
 k4 w λj=>∃t113:Sl,j.cell? (d.add 6)=some (t113.v)/\
 e≠0/\cZ j (.cells #[.i (bY (ao .i64 (bN h 8)) e)] bR) λz=>
 z.cell? (d.add 6)=some (t113.v)/\∃(t119:Sl) (A:J),kQ aa (dW #[iq,iq] iq #[t113.v,.slice (some (nb j)) 1 1]) z=.ok (t119.v) A/\aQ A (d.add 6) (t119.v) λB=>
 bn (aq ((bY (ao .i64 (bN h 64)) 3)>0)) (k4 B λk=>∃t126:Sl,k.cell? (d.add 6)=some (t126.v)/\
 e≠0/\cZ k (.cells #[.i (bY (ao .i64 (bN h 256)) e)] bR) λC=>
 C.cell? (d.add 6)=some (t126.v)/\∃(t132:Sl) (D:J),kQ aa (dW #[iq,iq] iq #[t126.v,.slice (some (nb k)) 1 1]) C=.ok (t132.v) D/\aQ D (d.add 6) (t132.v) λE=>
 S6 q x t4 y e d E R) (S6 q x t4 y e d B R)
def uc(E:Env)(w:J)(R:aH):Prop:=W.asSlice (Env.get? E 0) λe=>W.asInt .i64 (Env.get? E 1) λh=>W.cu (Env.get? E 4) λx=>W.cu (Env.get? E 5) λk=>W.asInt .i64 (Env.get? E 7) λd=>W.asInt .i64 (Env.get? E 8) λj=>W.cu (Env.get? E 9) λq=>S5 e h x k d j q w R
def Aa:pN aa 141 uc rp Q7:=by intro k e j w;obtain⟨P,F,x⟩:=W.pY w;obtain⟨Q,G,y⟩:=W.gJ x;obtain⟨V,H,z⟩:=W.cF y;obtain⟨T,I,A⟩:=W.cF z;obtain⟨O,L,B⟩:=W.gJ A;obtain⟨S,M,C⟩:=W.gJ B;obtain⟨U,N,D⟩:=W.cF C;exact λa h=>WP.at (E:=[(0,P.v),(1,.i Q),(4,.pointer (some V)),(5,.pointer (some T)),(7,.i O),(8,.i S),(9,.pointer (some U))]) (sd rp (K:=λe j=>dH aa pD (λe j=>gA (Env.val e (.tmp 124)) (Bj aa rq [0,1,2,3,4,5,6,7,8,9] (λe j=>pM e j k) e j) (pM e j k)) e j) (l:=[0,1,2,3,4,5,6,7,8,9]) (by kernel_rfl) (mp D) λ_ _ d=>(sr pD d λ_ _ d=>(cn pF d (λd=>(dg rq (by kernel_rfl) d λ_ _ a q d=>nx q (ud k _ _ d))) (λd=>(sk zO λa q=>nx q (ud k _ _ d)))))) (h.cons F (h.cons G (h.cons H (h.cons I (h.cons L (h.cons M (h.cons N h.nil)))))))
noncomputable def zP:=rn.sn
abbrev S4(h:Sl)(j:Int)(t4 k:Addr)(e q:Int)(d:Addr)(w:J)(R:aH):Prop:=
 bn (aq (e>0)) (∃t104:Int,w.cell? (d.add 0)=some (.i t104)/\
 bn (t104==5) (S5 h j t4 k e q d w R) (∃t108:Int,w.cell? (d.add 0)=some (.i t108)/\
 bn (t108==4) (S5 h j t4 k e q d w R) (S6 h j t4 k e d w R))) (S6 h j t4 k e d w R)
def oz(E:Env)(w:J)(R:aH):Prop:=W.asSlice (Env.get? E 0) λe=>W.asInt .i64 (Env.get? E 1) λh=>W.cu (Env.get? E 4) λx=>W.cu (Env.get? E 5) λk=>W.asInt .i64 (Env.get? E 7) λd=>W.asInt .i64 (Env.get? E 8) λj=>W.cu (Env.get? E 9) λq=>S4 e h x k d j q w R
def pL:pN aa 141 oz rl Q7:=by intro j h k q;obtain⟨P,F,x⟩:=W.pY q;obtain⟨Q,G,y⟩:=W.gJ x;obtain⟨V,H,z⟩:=W.cF y;obtain⟨T,I,A⟩:=W.cF z;obtain⟨O,L,B⟩:=W.gJ A;obtain⟨S,M,C⟩:=W.gJ B;obtain⟨U,N,D⟩:=W.cF C;exact λa d=>WP.at (E:=[(0,P.v),(1,.i Q),(4,.pointer (some V)),(5,.pointer (some T)),(7,.i O),(8,.i S),(9,.pointer (some U))]) (sr rl (K:=λh k=>gA (Env.val h (.tmp 111)) (uc h k j) (pM h k j)) (mp D) λ_ _ e=>(cn rn e (λe=>(Aa j _ _ e)) (λe=>(sk zP λa w=>nx w (ud j _ _ e))))) (d.cons F (d.cons G (d.cons H (d.cons I (d.cons L (d.cons M (d.cons N d.nil)))))))
noncomputable def zQ:=ow.fs
abbrev Q8(R:aH):hx:=(Exit.then (fu aa (cx 141) ke (Exit.inBlock 3 (Q5 R))) (Exit.inBlock 3 (Q5 R)))
noncomputable def E8:=zQ.sn
noncomputable def zR:=E8.fs
noncomputable def zS:=zR.sn
noncomputable def E9:=zS.fs
noncomputable def zT:=zS.sn
noncomputable def zU:=zT.sn
noncomputable def zV:=zU.fs
noncomputable def Fa:=zV.sn
noncomputable def zW:=zU.sn
noncomputable def zY:=zW.sn
noncomputable def zZ:=zY.fs
noncomputable def z0:=zZ.sn
noncomputable def Fb:=z0.fs
noncomputable def Fe:=z0.sn
noncomputable def Rf:=zY.sn
abbrev S3(k:Sl)(q:Int)(t4 h:Addr)(j d:Int)(e:Addr)(w:J)(R:aH):Prop:=
 ∃t68:Int,w.cell? (e.add 0)=some (.i t68)/\
 bn (t68==1) (cZ w (.cells #[.string (bJ #[97]),.string (bJ #[98]),.string (bJ #[99]),.string (bJ #[100,100])] fW) λx=>
 (0:Int)<=(bY d 4)/\(bY d 4)<((4:Nat):Int)/\dM (some (nb w)) λz=>∃t75:ByteArray,x.cell? (z.add (aZ (bY d 4) *1))=some (.string t75)/\
 aQ x (e.add 4) (.string t75) λA=>
 S4 k q t4 h j d e A R) (bn (t68==2) (aQ w (e.add 2) (.i (bY d 2)) λy=>
 cZ y (.cells #[.i (bY (ao .i64 (bN d 2)) 3)] bR) λB=>
 aQ B (e.add 3) (.slice (some (nb y)) 1 1) λC=>
 S4 k q t4 h j d e C R) (bn (t68==4) (∃t90:Sl,w.cell? (h.add 0)=some (t90.v)/\
 bn (((t90.n:Nat):Int)==0) (aQ w (e.add 0) (.i 0) λD=>
 S4 k q t4 h j d e D R) (∃t96:Sl,w.cell? (h.add 0)=some (t96.v)/\
 ((t96.n:Nat):Int)≠0/\aQ w (e.add 1) (.i (bY d ((t96.n:Nat):Int))) λE=>
 S4 k q t4 h j d e E R)) (S4 k q t4 h j d e w R)))
def ub(E:Env)(w:J)(R:aH):Prop:=W.asSlice (Env.get? E 0) λe=>W.asInt .i64 (Env.get? E 1) λh=>W.cu (Env.get? E 4) λx=>W.cu (Env.get? E 5) λk=>W.asInt .i64 (Env.get? E 7) λd=>W.asInt .i64 (Env.get? E 8) λj=>W.cu (Env.get? E 9) λq=>S3 e h x k d j q w R
def z':pN aa 141 ub zQ Q8:=by intro j e h w;obtain⟨P,F,x⟩:=W.pY w;obtain⟨Q,G,y⟩:=W.gJ x;obtain⟨V,H,z⟩:=W.cF y;obtain⟨T,I,A⟩:=W.cF z;obtain⟨O,L,B⟩:=W.gJ A;obtain⟨S,M,C⟩:=W.gJ B;obtain⟨U,N,D⟩:=W.cF C;exact λa q=>WP.at (E:=[(0,P.v),(1,.i Q),(4,.pointer (some V)),(5,.pointer (some T)),(7,.i O),(8,.i S),(9,.pointer (some U))]) (sr zQ (K:=λe h=>dH aa zR (λe h=>gA (Env.val e (.tmp 69)) (n6 aa E9 (λe h=>oz e h j) e h) (dH aa zT (λe h=>gA (Env.val e (.tmp 77)) (dH aa zV (λe h=>n6 aa Fa (λe h=>oz e h j) e h) e h) (dH aa zW (λe h=>gA (Env.val e (.tmp 87)) (dH aa zZ (λe h=>gA (Env.val e (.tmp 92)) (n6 aa Fb (λe h=>oz e h j) e h) (n6 aa Fe (λe h=>oz e h j) e h)) e h) (oz e h j)) e h)) e h)) e h) (mp D) λ_ _ d=>(bk E8 4 (by kernel_rfl) (sr zR d λ_ _ d=>(cn zS d (λd=>(rg E9 (by kernel_rfl) d λ_ _ a k d=>nx k (sq ke (pL j _ _ d)))) (λd=>(sr zT d λ_ _ d=>(cn zU d (λd=>(sr zV d λ_ _ d=>(rg Fa (by kernel_rfl) d λ_ _ a k d=>nx k (sq ke (pL j _ _ d))))) (λd=>(sr zW d λ_ _ d=>(cn zY d (λd=>(sr zZ d λ_ _ d=>(cn z0 d (λd=>(rg Fb (by kernel_rfl) d λ_ _ a k d=>nx k (sq ke (pL j _ _ d)))) (λd=>(rg Fe (by kernel_rfl) d λ_ _ a k d=>nx k (sq ke (pL j _ _ d))))))) (λd=>(sk Rf λa k=>nx k (sq ke (pL j _ _ d)))))))))))))) (q.cons F (q.cons G (q.cons H (q.cons I (q.cons L (q.cons M (q.cons N q.nil)))))))
abbrev Q9(R:aH):hx:=(bodyPost aa Tryz.f15 R)
noncomputable def Rg:=jK.sn
abbrev S7(t4 e:Addr)(w:J)(R:aH):Prop:=
 I8 w e λk q=>aQ w t4 (k.v) λx=>
 aQ x (t4.add 1) (q.v) λd=>
 I8 d t4 λh j=>R (ag (.agg #[h.v,j.v])) d
def ue(E:Env)(w:J)(R:aH):Prop:=W.cu (Env.get? E 4) λe=>W.cu (Env.get? E 5) λd=>S7 e d w R
def Ab:pN aa 141 ue jK Q9:=by intro j h e k;obtain⟨C,z,x⟩:=W.cF k;obtain⟨B,A,y⟩:=W.cF x;exact λa d=>WP.at (E:=[(4,.pointer (some C)),(5,.pointer (some B))]) (sr jK (K:=λh e=>kG aa Tryz.f15 h e (λv=>j (ag v) e)) (mp y) λ_ _ w=>(rt Rg λa q=>vZ q w)) (d.cons z (d.cons A d.nil))
noncomputable def z1:=jJ.fs
noncomputable def z2:=z1.sn
noncomputable def Rh:=z2.fs
noncomputable def Ri:=z2.sn
def kU(j:Sl)(q:Int)(t4 k:Addr)(e:Int)(w:J)(R:aH)(h:bn (aq (e<((j.n:Nat):Int))) (bn (aq (e<q)) (e8 j e λB=>∃t50:Int,w.cell? (B.add (aZ e *1))=some (.i t50)/\
 qd sJ #[.i t50,.i 1073741824] w λt51 A=>cZ A (.cells #[.i 2,.i (-2),.i 3,.i (-3)] bR) λy=>
 (0:Int)<=(bY (ao .i64 (bN t51 18)) 4)/\(bY (ao .i64 (bN t51 18)) 4)<((4:Nat):Int)/\dM (some (nb A)) λC=>∃t62:Int,y.cell? (C.add (aZ (bY (ao .i64 (bN t51 18)) 4) *1))=some (.i t62)/\
 cZ y (.cells #[.i t62] bR) λz=>
 cZ z (.cells #[.i 0,.i 0,.i 0,.slice none 0 0,.s0,.slice none 0 0,.slice none 0 0] e2) λF=>
 Zr F (nb z) (.i (bY t51 6)) (.i (bY (ao .i64 (bN t51 6)) 3)) (.i 0) (.slice none 0 0) (.s0) (.slice (some (nb y)) 1 1) (.slice none 0 0) λD=>S3 j q t4 k e (ao .i64 (bN t51 72)) (nb z) D R) (S7 t4 k w R)) (S7 t4 k w R)):L2 j q t4 k e w R:=
 LP.step (n:=(cx 141)) (c:=jJ) (E:=[(0,j.v),(1,.i q),(4,.pointer (some t4)),(5,.pointer (some k)),(7,.i e)]) (w:=w) (sq jJ (sr z1 (show(λ(E:Env) (w:J)=>dH aa z1 (λE w=>gA (Env.val E (.tmp 44)) (dH aa mz (λE w=>dH aa kc (λE w=>dH aa kS (λE w=>ub E w R) E w) E w) E w) (ue E w R)) E w) [(0,j.v),(1,.i q),(4,.pointer (some t4)),(5,.pointer (some k)),(7,.i e)] w from mp h) λ_ _ d=>(cn z2 d (λd=>(sk Rh λa x=>nx x (sq mx (bk my 3 (by kernel_rfl) (sr mz d λ_ _ d=>(sr kc d λ_ _ d=>(sr kS d λ_ _ d=>(sq ow (z' R _ _ d))))))))) (λd=>(xt Ri 2 (by kernel_rfl) λa x=>nx x (Ab R _ _ d))))))
noncomputable def z3:=C6.fs
noncomputable def z5:=z3.sn
noncomputable def Rj:=z5.fs
noncomputable def Rk:=z5.sn
def bE(j:Sl)(q:Int)(t4 x:Addr)(e:Int)(w:J)(R:aH)(h:qd ye #[j.v,.i 0,.i 3] w λt13 y=>bn (aq (e<t13)) (sC aa jI (λE w=>pK E w R) [(14,.bool (aq (e<t13))),(13,.i t13),(12,j.v),(11,.i e),(0,j.v),(1,.i q),(4,.pointer (some t4)),(5,.pointer (some x)),(6,.i e)] y) (L2 j q t4 x 0 y R)):L0 j q t4 x e w R:=
 LP.step (n:=(cx 141)) (c:=C6) (E:=[(0,j.v),(1,.i q),(4,.pointer (some t4)),(5,.pointer (some x)),(6,.i e)]) (w:=w) (sq C6 (sr z3 (show(λ(E:Env) (w:J)=>dH aa z3 (λE w=>gA (Env.val E (.tmp 14)) (sC aa jI (λE w=>pK E w R) E w) (dH aa mw (λE w=>z7 E w R) E w)) E w) [(0,j.v),(1,.i q),(4,.pointer (some t4)),(5,.pointer (some x)),(6,.i e)] w from mp h) λ_ _ d=>(cn z5 d (λd=>(sk Rj λa k=>nx k (sq C8 (bk lN 1 (by kernel_rfl) (ig jI (by kernel_rfl) d λ_ _ a k d=>nx k (z9 R _ _ d)))))) (λd=>(xt Rk 0 (by kernel_rfl) λa k=>nx k (sq C7 (sr mw d λ_ _ d=>(bk ns 2 (by kernel_rfl) (lp nt (by kernel_rfl) (Fj R _ _ d))))))))))
def ok(e:Sl)(j:Int)(w:J)(R:aH)(h:cZ w (.cells #[.slice none 0 0,.slice none 0 0] fH) λk=>
 cZ k (.cells #[.slice none 0 0,.slice none 0 0] fH) λq=>
 aQ q (nb k) (.slice none 0 0) λx=>
 aQ x ((nb k).add 1) (.slice none 0 0) λy=>
 L0 e j (nb w) (nb k) 0 y R):ak aa KL #[e.v,.i j] w R:=
 uF (R:=R) (fn:=Tryz.f15) (c:=C0) (args:=[e.v,.i j]) (by kernel_rfl) (by kernel_rfl) (by kernel_rfl) (sr C0 (show(λ(E:Env) (w:J)=>dH aa C0 (λE w=>dH aa C1 (λE w=>dH aa C3 (λE w=>oy E w R) E w) E w) E w) (jT 0 [e.v,.i j]) w from mp h) λ_ _ d=>(sr C1 d λ_ _ d=>(sq C2 (sr C3 d λ_ _ d=>(bk C4 0 (by kernel_rfl) (lp C5 (by kernel_rfl) (rA R _ _ d)))))))
end f'
namespace gB
noncomputable abbrev t0:=aA aa Tryz.f4 [(15,(.sq [0,1,2,3,4,5,6,7,8,11,12,13,14,16] (.fork (.sq [9] (.fork (ls [10,15,17,18,19]) (ls [15,10,17,18,19]))) (ls [15,9,10,17,18,19])))),(23,(.sq [0,1,2,4,5,6,7,8,9,11,12,13,15,16,17] (.fork (.sq [3] (.fork (ls [10,14,18,19,20,21,22,23,24]) (.sq [14,18,19] (.fork (ls [10,20,21,22,23,24]) (ls [20,10,21,22,23,24]))))) (.sq [14,18,19] (.fork (.sq [3] (.fork (ls [10,20,21,22,23,24]) (ls [20,10,21,22,23,24]))) (ls [20,3,10,21,22,23,24]))))))] [6,7,10,13]
abbrev P0:Ps:=[(1,.v [.s]),(6,.l [.s,.s] fH),(7,.l [.s,.s] fH),(8,.v [.I])]
noncomputable def a2:=bj t0 [0,1,1,1,2] P0
noncomputable abbrev t1:=bh a2
noncomputable def ct:=bj t1 [0,1,1,1,3,2,1,2,1,1,2] [(1,.v [.s]),(6,.l [.s,.s] fH),(7,.l [.s,.s] fH),(8,.v [.I]),(9,.v [.s]),(10,.l [.s,.s] fH),(11,.v [.s]),(12,.v [.I])]
noncomputable abbrev t2:=bh ct
noncomputable abbrev bU:=ax t2 [2,2,1,2,1,1,3,2,1,2,1,1,2] [(1,.v [.s]),(6,.l [.s,.s] fH),(7,.l [.s,.s] fH),(8,.v [.I]),(9,.v [.s]),(10,.l [.s,.s] fH),(11,.v [.s]),(12,.v [.I]),(13,.l [.I,.I,.I,.s,.st,.s,.s] e2)]
noncomputable abbrev t3:=az bU
noncomputable abbrev cJ:=ax t3 [2,2,1,1,2] P0
noncomputable abbrev t4:=az cJ
def dX:=bm t4 ct
abbrev P1:Ps:=[(1,.v [.s]),(6,.l [.s,.s] fH),(7,.l [.s,.s] fH),(14,.v [.I])]
noncomputable def kh:=bj t4 [0,1,1,1,3] P1
noncomputable abbrev t5:=bh kh
noncomputable abbrev pT:=ax t5 [2,2,1,1,3] P1
noncomputable abbrev t6:=az pT
abbrev P2:Ps:=[(1,.v [.s]),(6,.l [.s,.s] fH),(7,.l [.s,.s] fH),(14,.v [.I]),(15,.v [.I])]
noncomputable abbrev mD:=ax t6 [4,2,1,2,1,1,3] P2
noncomputable abbrev t7:=az mD
noncomputable abbrev hC:=ax t7 [3,2,1,2,1,1,3] P2
noncomputable abbrev t8:=az hC
noncomputable abbrev jM:=ax t8 [2,2,1,2,1,1,3] P2
noncomputable abbrev t9:=az jM
def uf:=bm t9 kh
def bB:=bm t9 a2
def aD:=aB t9 KK [.s,.s,.I]
end gB
def kz(x:Int):Bool:=aq (x≠0)&&aq (-1073741824<=x)&&aq (x<=1073741824)
def mW:List Int->Bool
 |a::b::r=>aq (a.natAbs<b.natAbs)&&mW (b::r)
 |_=>true
def lj(l:List Int):Int:=if l.length>65536 then 4 else if l.all kz then 0 else 1
def gz(l:List Int):Int:=if lj l≠0 then lj l else if mW l then 0 else 10
abbrev iR(w0:J)(n:Int):aH:=λr d=>r=ag (.i n)/\ah w0 d
def r7{l:List Int}{i:Nat}{x:Int}(h:l[i]? =some x):l.drop i=x::l.drop (i+1):=by obtain⟨d,rfl⟩:=bO.1 h;exact dy d
def vt{x:Int}:kz x=true↔x≠0/\-1073741824<=x/\x<=1073741824:=by unfold kz;simp only[Bool.and_eq_true,decide_eq_true_eq,and_assoc]
section
variable {w0:J} {s:Sl} {l:List Int}
def VM{w:J}(h:bp w s l)(F:l.length<=9223372036854775806):ak aa JN #[s.v] w (iR w (lj l)):=by
 have G:=bp.len h;by_cases z:l.length>65536
 .exact qg.ok _ w _ (a3 (aP (by omega)) ⟨by unfold lj;rw[aj z],Fr.refl _ _⟩)
 refine qg.ok _ w _ (a1 (aV (by omega)) ?_);have y:lj l=if l.all kz then 0 else 1:=by unfold lj;rw[af z]
 have loop:∀(k i:Nat) (Y:J),i+k=l.length->ah w Y->l.all kz=(l.drop i).all kz->qg.L0 s ((s.n:Nat):Int) (i:Int) Y (iR w (lj l)):=by
  intro k;induction k with
  |zero=>
   intro i Y D f d;rw[dC (by omega)]at d;exact qg.bE _ _ _ _ _ (a1 (aV (by omega)) ⟨by rw[y,d];rfl,f⟩)
  |succ k E=>
   intro i Y D f d;have q:l[i]? =some l[i]:=a6 (by omega);generalize l[i]=x at q;rw[r7 q,List.all_cons]at d;refine qg.bE _ _ _ _ _ (a3 (aP (by omega)) ⟨by omega,by omega,bp.cell (h.bw f) q (by rw[bF]) λp _ C=>⟨x,C,?_⟩⟩);have go:kz x=true->qg.L0 s ((s.n:Nat):Int) (ao .i64 ((i:Int)+1)) Y (iR w (lj l)):=λe=>by rw[bd _ (by omega)];exact E (i+1) Y (by omega) f (by rw[d,e,Bool.true_and])
   have stop:kz x=false->iR w (lj l) (ag (.i 1)) Y:=λe=>⟨by rw[y,d,e];rfl,f⟩;have no:¬(x≠0/\-1073741824<=x/\x<=1073741824)->kz x=false:=λe=>Bool.eq_false_iff.2 λh=>e (vt.1 h);refine GJ.ok _ Y _ (dv (λA=>aG (λB=>⟨_,rfl,dN (λj=>stop (no ?_)) (λj=>go (vt.2 ?_))⟩) (λB=>⟨_,rfl,a3 rfl (stop (no ?_))⟩)) (λA=>⟨_,rfl,a3 rfl (stop (no ?_))⟩))
   .have:=g5 j;omega
   .have:=ew j;omega
   .omega
   .omega
 exact loop l.length 0 w (by omega) (Fr.refl _ _) rfl
def I3{x:Int}(d:-1073741824<=x/\x<=1073741824)(w:J):ak aa JO #[.i x] w (iR w (x.natAbs:Int)):=by refine GK.ok _ w _ ⟨?_,Fr.refl _ _⟩;rw[aS _ (by omega)];congr 3;split<;>omega
def I0{w:J}(h:bp w s l)(S:l.length<=9223372036854775806):ak aa JM #[s.v] w (iR w (gz l)):=by
 have K:=bp.len h;refine rY.ok _ w _ ((VM h S).mono ?_);rintro _ V ⟨rfl,A⟩;refine⟨_,rfl,dv (λj=>⟨by unfold gz;rw[aj j],A⟩) (λj=>?_)⟩;have D:gz l=if mW l then 0 else 10:=by unfold gz;rw[af (by omega)]
 have H:∀d∈l,-1073741824<=d/\d<=1073741824:=λd x=>by
  unfold lj at j;split at j
  .omega
  .split at j
   .rename_i e;exact(vt.1 (fi.1 e d x)).2
   .omega
 have loop:∀(k i:Nat) (Y:J),i+1+k=l.length->ah w Y->mW l=mW (l.drop i)->rY.L0 s ((i+1:Nat):Int) Y (iR w (gz l)):=by
  intro k;induction k with
  |zero=>
   intro i Y Q f e;have N:∃d,l.drop i=[d]:=by
    have:(l.drop i).length=1:=by rw[List.length_drop];omega
    exact List.length_eq_one_iff.1 this
   obtain⟨d,x⟩:=N;rw[x]at e;exact rY.bE _ _ _ _ (a1 (aV (by omega)) ⟨by rw[D,e];rfl,f⟩)
  |succ k U=>
   intro i Y Q f e;have z:l[i]? =some l[i]:=a6 (by omega);have q:l[i+1]? =some l[i+1]:=a6 (by omega);generalize l[i]=d at z;generalize l[i+1]=y at q;rw[r7 z,r7 q]at e;have x:=H d (aE z);have T:=H y (aE q);have L:ao .i64 (((i+1:Nat):Int) - 1)=(i:Int):=by rw[aS _ (by omega)];omega
   refine rY.bE _ _ _ _ (a3 (aP (by omega)) ((bP (w:=Y) [] (by simp)).dr λW C=>?_));rw[L];have G:=h.bw (f.dD C.fr);refine⟨by omega,by omega,bp.cell G q (by rw[bF]) λp hp P=>⟨y,P,by omega,by omega,bp.cell G z (by rw[bF]) λab hq I=>⟨d,I,(I3 T W).mono ?_⟩⟩⟩;rintro _ Z ⟨rfl,E⟩;refine⟨_,rfl,?_,(I3 x Z).mono ?_⟩
   .exact GG E I λh=>h
   rintro _ w4 ⟨rfl,M⟩;have F:=((f.dD C.fr).dD E).dD M;refine⟨_,rfl,aG (λO=>⟨?_,F⟩) (λO=>?_)⟩
   .rw [D,e];unfold mW;rw[aV (by omega)];rfl
   .rw [bd _ (by omega)];refine U (i+1) w4 (by omega) F ?_;rw[e,r7 q];conv=>lhs;unfold mW
    rw[aP (by omega),Bool.true_and]
 cases B:l with
 |nil=>rw[B]at K;exact rY.bE _ _ _ _ (a1 (aV (by simp at K;omega)) ⟨rfl,A⟩)
 |cons d r=>rw[<-B];exact loop r.length 0 V (by rw[B];simp;omega) A rfl
end
def VL(s:ByteArray)(w:J):ak aa K5 #[.string s] w λr e=>r=ag (.bool (gg (bl s)))/\ah w e:=by
 have D:(bl s).length=s.size:=dP s;have no:gg (bl s)=false->(Ending.returned (.bool false)=ag (.bool (gg (bl s)))/\ah w w):=λh=>⟨by rw[h],Fr.refl _ _⟩;cases y:bl s with
 |nil=>
  have A:s.size=0:=by rw[<-D,y];rfl
  exact kE.ok s w _ (a3 (by rw[A];rfl) ⟨rfl,Fr.refl _ _⟩)
 |cons c m=>
  have M:s.size=m.length+1:=by rw[<-D,y];rfl
  rw[y]at no;have A:s[aZ 0]? =some c:=FT y 0;refine kE.ok s w _ (aL (λh=>by omega) (λ_=>aG (λh=>no ?_) (λh=>⟨by omega,c,A,aG (λq=>no ?_) (λq=>⟨by omega,c,A,aG (λj=>no ?_) (λj=>?_)⟩)⟩)))
  .rw [l9,aV (by omega)];rfl
  .rw [l9];unfold eN;rw[aV (show ¬97<=c.toNat by omega)];simp
  .rw [l9];unfold eN;rw[aV (show ¬c.toNat<=122 by omega)];simp
  have F:gg (c::m)=(bl s).all cQ:=by rw[l9,y,List.all_cons];unfold cQ eN;rw[aP (show m.length<=15 by omega),aP (show 97<=c.toNat by omega),aP (show c.toNat<=122 by omega)];simp[cQ,eN]
  rw[F];have loop:∀(d i:Nat),i+d=s.size->(bl s).all cQ=((bl s).drop i).all cQ->kE.L1 s ((s.size:Nat):Int) (i:Int) w λr e=>r=ag (.bool ((bl s).all cQ))/\ah w e:=by
   intro d;induction d with
   |zero=>
    intro i K k;rw[dC (by omega)]at k;exact kE.fJ _ _ _ _ _ (a1 (aV (by omega)) ⟨by rw[k];rfl,Fr.refl _ _⟩)
   |succ d L=>
    intro i K k;have C:(bl s)[i]? =some (bl s)[i]:=a6 (by omega);have I:(bl s).drop i=(bl s)[i]::(bl s).drop (i+1):=dy (by omega);rw[I,List.all_cons]at k;generalize(bl s)[i]=x at C k;have O:=x.toNat_lt;have go:cQ x=true->kE.S4 s ((s.size:Nat):Int) (i:Int) w λr e=>r=ag (.bool ((bl s).all cQ))/\ah w e:=λh=>by show kE.L1 s _ (ao .i64 ((i:Int)+1)) w _;rw[bd _ (by omega)];exact L (i+1) (by omega) (by rw[k,h,Bool.true_and])
    have stop:cQ x=false->(Ending.returned (.bool false)=ag (.bool ((bl s).all cQ))/\ah w w):=λh=>⟨by rw[k,h,Bool.false_and],Fr.refl _ _⟩;have z:cQ x=true↔(97<=x.toNat/\x.toNat<=122)\/(48<=x.toNat/\x.toNat<=57)\/x.toNat=45:=by
     have H:(x==45)=true↔x.toNat=45:=by rw[beq_iff_eq];exact⟨λh=>by rw[h];rfl,λh=>UInt8.toNat_inj.1 h⟩
     unfold cQ eN;simp only[Bool.or_eq_true,Bool.and_eq_true,decide_eq_true_eq,H,or_assoc]
    have E:¬((97<=x.toNat/\x.toNat<=122)\/(48<=x.toNat/\x.toNat<=57)\/x.toNat=45)->cQ x=false:=λh=>Bool.eq_false_iff.2 λj=>h (z.1 j);have B:¬(97<=x.toNat/\x.toNat<=122)->bn (aq (((x.toNat:Nat):Int)<48)) (bn (((x.toNat:Nat):Int) !=45) (kE.S3 w λr e=>r=ag (.bool ((bl s).all cQ))/\ah w e) (kE.S4 s ((s.size:Nat):Int) (i:Int) w λr e=>r=ag (.bool ((bl s).all cQ))/\ah w e)) (bn (aq (((x.toNat:Nat):Int)>57)) (bn (((x.toNat:Nat):Int) !=45) (kE.S3 w λr e=>r=ag (.bool ((bl s).all cQ))/\ah w e) (kE.S4 s ((s.size:Nat):Int) (i:Int) w λr e=>r=ag (.bool ((bl s).all cQ))/\ah w e)) (kE.S4 s ((s.size:Nat):Int) (i:Int) w λr e=>r=ag (.bool ((bl s).all cQ))/\ah w e)):=λN=>
     aG (λq=>dv (λj=>stop (E (by omega))) (λj=>go (z.2 (by omega)))) (λq=>aG (λG=>dv (λj=>stop (E (by omega))) (λj=>go (z.2 (by omega)))) (λG=>go (z.2 (by omega))))
    refine kE.fJ _ _ _ _ _ (a3 (aP (by omega)) ⟨by omega,x,by rw[bF];exact(FT rfl i).trans C,aG (λq=>B (by omega)) (λq=>aG (λj=>B (by omega)) (λj=>go (z.2 (by omega))))⟩)
  exact loop s.size 0 (by omega) rfl
def hP(s:cv)(i aM:Int):Int:=
 if s.kind<0\/s.kind>5 then 1 else if gz s.b0≠0 then gz s.b0 else if bl s.nm≠[]/\gg (bl s.nm)=false then 6
 else if s.hints.all (λd=>aq (0<=d)&&aq (d<i))then(if s.kind=4/\(s.node<0\/s.node>=aM)then 7 else 0)else 14
def w6(w:J)(d:Sp):Prop:=bp w d.p d.x.params/\bp w d.l d.x.b0/\bp w d.h d.x.hints
def pU(d:Sp):Prop:=d.x.params.length<=1000000000/\d.x.b0.length<=1000000000/\d.x.hints.length<=1000000000
def Pz{s:cv}{i aM:Int}(h:s.kind<0\/s.kind>5):hP s i aM=1:=by unfold hP;rw[aj h]
def ZE{s:cv}{i aM:Int}(h:¬(s.kind<0\/s.kind>5))(d:gz s.b0≠0):hP s i aM=gz s.b0:=by unfold hP;rw[af h,aj d]
def ZF{s:cv}{i aM:Int}(h:¬(s.kind<0\/s.kind>5))(e:gz s.b0=0)(d:bl s.nm≠[]/\gg (bl s.nm)=false):hP s i aM=6:=by unfold hP;rw[af h,af (by omega),aj d]
def Py{s:cv}{i aM:Int}(h:¬(s.kind<0\/s.kind>5))(e:gz s.b0=0)(d:¬(bl s.nm≠[]/\gg (bl s.nm)=false)):hP s i aM=if s.hints.all (λh=>aq (0<=h)&&aq (h<i))then(if s.kind=4/\(s.node<0\/s.node>=aM)then 7 else 0)else 14:=by unfold hP;rw[af h,af (by omega),af d]
def yq{t:ByteArray}:t=bJ #[]↔bl t=[]:=⟨λd=>by rw[d];rfl,λd=>by rw[<-lX t,d];rfl⟩
def I2{d:Sp}(O:pU d){i aM:Int}{w:J}(L:w6 w d):ak aa Le #[d.v,.i i,.i aM] w (iR w (hP d.x i aM)):=by
 refine sZ.aD _ _ _ _ _ _ _ _ _ w _ ((bP (w:=w) [d.hE,d.lE] (by
  intro y M;simp only[av,aR,aT]at M;rcases M with rfl|rfl
  .exact L.2.2
  .exact L.2.1)).aJ λb w1 C=>?_)
 refine aG (λe=>⟨by rw[Pz (.inl e)],C.fr⟩) (λW=>aG (λe=>⟨by rw[Pz (.inr e)],C.fr⟩) (λY=>C.ay (I0 (l:=d.x.b0) (C.getD 1) (by have:=O.2.1;omega)) ?_));have H:¬(d.x.kind<0\/d.x.kind>5):=by omega
 rintro _ P rfl E;refine⟨_,rfl,dv (λe=>⟨by rw[ZE H e],E.fr⟩) (λD=>?_)⟩;have I:¬(bl d.x.nm≠[]/\gg (bl d.x.nm)=false)->∀A,LH F0 w A [.g b] [d.hE,d.lE]->sZ.bT i aM b d.x.kind d.x.node d.x.du d.p d.x.nm d.l d.h A (iR w (hP d.x i aM)):=by
  intro B A q;have N:bp A d.h d.x.hints:=q.getD 0;have Z:=bp.len N;have y:=Py (i:=i) (aM:=aM) H D B;have loop:∀(k j:Nat),j+k=d.x.hints.length->d.x.hints.all (λe=>aq (0<=e)&&aq (e<i))=(d.x.hints.drop j).all (λe=>aq (0<=e)&&aq (e<i))->sZ.je i aM b d.x.kind d.x.node d.x.du d.p d.x.nm d.l d.h d.h ((d.h.n:Nat):Int) (j:Int) A (iR w (hP d.x i aM)):=by
   intro k;induction k with
   |zero=>
    intro j U z;rw[dC (by omega),List.all_nil]at z;rw[z,aj rfl]at y;refine sZ.lR _ _ _ _ _ _ _ _ _ _ _ _ _ _ _ (a1 (aV (by omega)) (aL (λF=>aG (λe=>⟨by rw[y,aj ⟨F,.inl e⟩],q.fr⟩) (λS=>aG (λe=>⟨by rw[y,aj ⟨F,.inr e⟩],q.fr⟩) (λT=>⟨by rw[y,af (by omega)],q.fr⟩))) (λF=>⟨by rw[y,af (by omega)],q.fr⟩)))
   |succ k V=>
    intro j U z;have G:d.x.hints[j]? =some d.x.hints[j]:=a6 (by omega);generalize d.x.hints[j]=x at G;rw[r7 G,List.all_cons]at z;refine sZ.lR _ _ _ _ _ _ _ _ _ _ _ _ _ _ _ (a3 (aP (by omega)) ⟨by omega,by omega,bp.cell N G (by rw[bF]) λp _ D=>⟨x,D,aG (λe=>⟨?_,q.fr⟩) (λS=>aG (λe=>⟨?_,q.fr⟩) (λT=>?_))⟩⟩)
    .rw [y,z,aV (by omega)];rfl
    .rw [y,z,aV (show ¬x<i by omega)];simp
    .rw [bd _ (by have:=O.2.2;omega)];exact V (j+1) (by omega) (by rw[z,aP (show 0<=x by omega),aP (show x<i by omega)];rfl)
  exact loop d.x.hints.length 0 (by omega) rfl
 rw[zq];refine dN (λB=>?_) (λB=>I (λe=>e.1 (yq.1 (ew B))) P E);refine E.ay (VL d.x.nm P) ?_;rintro _ A rfl q;refine⟨_,rfl,dN (λe=>⟨by rw[ZF H D ⟨λQ=>g5 B (yq.2 Q),e⟩],q.fr⟩) (λe=>I (λK=>by rw[e]at K;cases K.2) A q)⟩
def xA:gU aa tJ e2 (.agg #[.int .i64 0,.int .i64 0,.int .i64 0,.slice none 0 0,.string (bJ #[]),.slice none 0 0,.slice none 0 0]) 7 112:=⟨by kernel_rfl,by kernel_rfl,rfl,by decide,by decide⟩
namespace Sp
def jj(d:Sp):(c d).length=7:=rfl
def eW(l:List Sp):(l.flatMap c).length=l.length *7:=oO c 7 jj l
structure fI(w:J)(p:Addr)(i:Nat)(d:Sp):Prop where
 c0:w.cell? ((p.add (i *7)).add 0)=some (.i d.x.kind)
 c1:w.cell? ((p.add (i *7)).add 1)=some (.i d.x.node)
 c2:w.cell? ((p.add (i *7)).add 2)=some (.i d.x.du)
 c3:w.cell? ((p.add (i *7)).add 3)=some d.p.v
 c4:w.cell? ((p.add (i *7)).add 4)=some (.string d.x.nm)
 c5:w.cell? ((p.add (i *7)).add 5)=some d.l.v
 c6:w.cell? ((p.add (i *7)).add 6)=some d.h.v
end Sp
def hV(w:J)(s:Sl)(l:List Sp):Prop:=bx 7 w s (l.flatMap Sp.c)/\∀d∈l,w6 w d
def hV.n{w:J}{s:Sl}{l:List Sp}(h:hV w s l):s.n=l.length:=by have:=h.1.1;rw[Sp.eW]at this;omega
def hV.get'{w:J}{s:Sl}{l:List Sp}(h:hV w s l){i:Nat}{d:Sp}(U:l[i]? =some d){K:Addr->Prop}(j:∀p,s.a=some p->Sp.fI w p i d->K p):dM s.a K:=
 eV.elem (f:=Sp.c) (sz:=7) Sp.jj (by omega) h.1.2.2 U λp k e=>j p k ⟨e 0 _ rfl,e 1 _ rfl,e 2 _ rfl,e 3 _ rfl,e 4 _ rfl,e 5 _ rfl,e 6 _ rfl⟩
def hV.again{w:J}{s:Sl}{l:List Sp}(h:hV w s l){i:Nat}{d:Sp}(U:l[i]? =some d){p:Addr}(z:s.a=some p):Sp.fI w p i d:=by have k:=h.get' U (K:=λj=>∃q,s.a=some q/\Sp.fI w q i d) (λj e y=>⟨j,e,y⟩);rw[z]at k;obtain⟨j,e,x⟩:=k;cases e;exact x
def hV.get{w:J}{s:Sl}{l:List Sp}(h:hV w s l){i:Nat}{d:Sp}(U:l[i]? =some d){K:Addr->Prop}(j:∀p,Sp.fI w p i d->K p):dM s.a K:=
 eV.elem (f:=Sp.c) (sz:=7) Sp.jj (by omega) h.1.2.2 U λp k e=>j p ⟨e 0 _ rfl,e 1 _ rfl,e 2 _ rfl,e 3 _ rfl,e 4 _ rfl,e 5 _ rfl,e 6 _ rfl⟩
abbrev gR(l:List Sp):List En:=l.flatMap λd=>[d.pE,d.hE,d.lE]
def _root_.Go.W.En.sp(s:Sl)(l:List Sp):En:=.all (.bc 7 s (l.flatMap Sp.c)::gR l)
def tu{w:J}{l:List Sp}:(∀e∈gR l,e.P w)↔∀d∈l,w6 w d:=by
 constructor
 .intro j d k;have g:∀e∈[d.pE,d.hE,d.lE],e.P w:=λe h=>j e (bA.2 ⟨d,k,h⟩);exact⟨g d.pE (by simp),g d.lE (by simp),g d.hE (by simp)⟩
 .intro j e h;obtain⟨d,k,h⟩:=bA.1 h;simp only[av,aR,aT]at h;rcases h with rfl|rfl|rfl
  .exact (j d k).1
  .exact (j d k).2.2
  .exact (j d k).2.1
def fo{w:J}{s:Sl}{l:List Sp}:(En.sp s l).P w↔hV w s l:=by
 constructor
 .exact λd=>⟨d (.bc 7 s (l.flatMap Sp.c)) (by simp),tu.1 λh e=>d h (List.mem_cons_of_mem _ e)⟩
 .intro d h e;rcases av.1 e with rfl|e
  .exact d.1
  .exact tu.2 d.2 h e
abbrev cC(l:List Sp):List cv:=l.map Sp.x
def wk:List cv->Int->Int->Int
 |[],_,_=>0
 |s::r,i,d=>if hP s i d≠0 then hP s i d else wk r (i+1) d
def vM(ss:List cv):Int:=if ss.length>1048576 then 4 else wk ss 0 0
def PG{l:List Sp}{i:Nat}{d:Sp}(h:l[i]? =some d):(cC l).drop i=d.x::(cC l).drop (i+1):=by
 have j:(cC l)[i]? =some d.x:=by rw[iM,h];rfl
 obtain⟨k,e⟩:=bO.1 j;rw[<-e];exact dy k
section
variable {w0:J} {s ls:Sl} {l:List Sp} {b:Nat}
def VN(Q:l.length<=1048576)(M:∀q∈l,pU q){E:Int}{D:List En}(z:En.sp s l∈D):∀(k i:Nat) (w:J) (L:List En),i+k=l.length->En.g b∈L->LH F0 w0 w L D->E=wk ((cC l).drop i) (i:Int) ((ls.n:Nat):Int)->
  sU.je b ls s s ((s.n:Nat):Int) (i:Int) w (iR w0 E):=by
 intro k;induction k with
 |zero=>
  intro i w L I x j h;have K:=(fo.1 (j.rd _ z)).n;rw[dC (by simp;omega)]at h;exact sU.lR _ _ _ _ _ _ _ _ (a1 (aV (by omega)) ⟨by rw[h];rfl,j.fr⟩)
 |succ k N=>
  intro i w L I x j h;have C:=fo.1 (j.rd _ z);have K:=C.n;have y:l[i]? =some l[i]:=a6 (by omega);generalize l[i]=q at y;have G:=aE y;rw[PG y]at h;refine sU.lR _ _ _ _ _ _ _ _ (a3 (aP (by omega)) ⟨by omega,by omega,C.get y λp e=>?_⟩);rw[bF];refine⟨_,_,_,_,_,_,_,e.c0,e.c1,e.c2,e.c3,e.c4,e.c5,e.c6,j.aJ (λP S H=>H.ai (λT A=>A.ay (I2 (d:=q) (M q G) ((fo.1 (A.rd _ z)).2 q G)) ?_) (by simp[x])) (by simp[x])⟩;rintro _ O rfl B;refine⟨_,rfl,dv (λF=>⟨by rw[h];unfold wk;rw[aj F],B.fr⟩) (λF=>?_)⟩;rw[bd _ (by omega)];refine N (i+1) O _ (by omega) (by simp[x]) B ?_;rw[h];conv=>lhs;unfold wk
  rw[af (by omega)];rfl
def VK(z:l.length<=1000000000)(q:∀e∈l,pU e){w:J}(h:hV w s l):ak aa K2 #[.agg #[(⟨none,0,0⟩:Sl).v,s.v]] w (iR w (vM (cC l))):=by
 have A:=h.n;refine sU.aD _ _ w _ ((bP (w:=w) [.sp s l] (by intro y k;rw[bG.1 k];exact fo.2 h)).aJ λb x d=>a1 rfl (aG (λj=>⟨?_,d.fr⟩) (λj=>?_)))
 .unfold vM;rw[aj (by simp;omega)]
 .refine sU.dX _ _ _ _ _ _ _ _ (a1 rfl ?_);refine VN (by omega) q (D:=[.sp s l]) (by simp) l.length 0 x _ (by omega) (by simp) d ?_;unfold vM;rw[af (by simp;omega),List.drop_zero];rfl
end
def xQ{w0 w:J}{s src:Sl}{xs j:List UInt8}(F:ah w0 w)(A:eU w s xs)(k:∀h∈aw s,w0.heap.size<=h)(B:Bytes w src j)(C:xs.length+j.length<=100000000000000):
  ∃d e,(dW #[cV,cV] cV #[s.v,src.v]).run aa w=.ok d.v e/\eU e d (xs++j)/\ah w0 e/\(∀h∈aw d,w0.heap.size<=h):=by obtain⟨d,e,q,x,y,z,_⟩:=uw (ty:=cV) A B (by omega);exact⟨d,e,q,x,U4 F k y,W2 F k z⟩
def Iv{w0 w:J}{s:Sl}{xs:List UInt8}(F:ah w0 w)(q:eU w s xs)(k:∀h∈aw s,w0.heap.size<=h)(c:UInt8)(x:xs.length<=10000000000000):
  ∃d e,(dW #[cV,cV] cV #[s.v,.slice (some (Addr.mk w.heap.size 0 none)) 1 1]).run aa (w.alloc (.cells #[.int .u8 (c.toNat:Int)] cL))=.ok d.v e/\eU e d (xs++[c])/\ah w0 e/\(∀h∈aw d,w0.heap.size<=h):=by have j:ah w (w.alloc (.cells #[.int .u8 (c.toNat:Int)] cL)):=Fr.alloc _ _ _;exact xQ (src:=⟨some ⟨w.heap.size,0,none⟩,1,1⟩) (F.dD j) (q.bw j) k (C' w c) (by simp;omega)
def Uq{w0:J}:∀(n:Nat) (w:J) (out:Sl) (V:List UInt8),n<18446744073709551616->V.length+(dU n).length<=100->ah w0 w->eU w out V->(∀F∈aw out,w0.heap.size<=F)->
  uV.L0 (n:Int) out w (iv w0 (V++dU n)):=by
 intro n;induction n using Nat.strongRecOn with
 |_ n E=>
  intro w out V G e A B C;refine uV.bE _ _ _ _ (bD (λy=>?_) (λy=>?_))
  .have z:¬n<128:=by have:=ew y;omega
   rw[l2 z]at e ⊢;have D:ao .u8 (ao .u64 (128+(bY (n:Int) 128)))=((cI (n%128+128)).toNat:Int):=by rw[IntWalk.rem_in _ _ (by omega),IntWalk.u64_in _ (by omega),IntWalk.u8_in _ (by omega)];simp;omega
   rw[D];obtain⟨d,h,j,k,q,x⟩:=Iv A B C (cI (n%128+128)) (by simp at e;omega);refine⟨d,h,j,?_⟩;show uV.L0 (ao .u64 (bN (n:Int) 128)) d h _;rw[IntWalk.u64_quo _ _ (by omega),show((n:Int) / 128)=((n / 128:Nat):Int)from rfl,show V++cI (n%128+128)::dU (n / 128)=(V++[cI (n%128+128)])++dU (n / 128)by simp];exact E (n / 128) (by omega) h d _ (by omega) (by simp at e ⊢;omega) q k x
  .have z:n<128:=by have:=g5 y;omega
   rw[k6 z]at e ⊢;rw[show ao .u8 (n:Int)=((cI n).toNat:Int)from by rw[EO];simp];obtain⟨d,h,j,k,q,x⟩:=Iv A B C (cI n) (by simp at e;omega);exact⟨d,h,j,d,rfl,k,q,x⟩
def xz(n:Nat)(d:n<18446744073709551616)(w:J):ak aa JZ #[.int .u64 (n:Int)] w (iv w (dU n)):=by have:=eI n d;exact uV.ok _ w _ (Uq n w ⟨none,0,0⟩ [] d (by simp;omega) (Fr.refl _ _) (Ow.nil _ _) (by simp[aw]))
def Ur(n:Int)(h:a5 n)(w:J):ak aa J0 #[.int .i64 n] w λr j=>r=ag (.int .u64 (zz n:Int))/\w=j:=by
 obtain⟨k,q⟩:=h;refine Hq.ok _ w _ (bD (λd=>?_) (λd=>?_))
 .have e:=ew d;refine⟨?_,rfl⟩;rw[aS (n+1) (by omega),aS _ (by omega),IntWalk.u64_in (0 - (n+1)) (by omega),IntWalk.u64_in (2 *(0 - (n+1))) (by omega),IntWalk.u64_in _ (by omega)];congr 2;unfold zz;rw[af (by omega)];omega
 .have e:=g5 d;refine⟨?_,rfl⟩;rw[IntWalk.u64_in n (by omega),IntWalk.u64_in _ (by omega)];congr 2;unfold zz;rw[aj (by omega)];omega
def k5(n:Int)(d:a5 n)(w:J):ak aa JW #[.int .i64 n] w (iv w (bL n)):=by refine Ho.ok _ w _ ((Ur n d w).mono ?_);rintro r h ⟨rfl,rfl⟩;refine⟨_,rfl,(xz (zz n) (zM n d.1 d.2) w).mono ?_⟩;rintro r h ⟨s,rfl,e⟩;exact⟨s,rfl,s,rfl,e⟩
def Bm{w:J}{s:Sl}{b:List UInt8}(e:Bytes w s b)(B:b.length<=1000000000):ak aa JY #[s.v] w (iv w (dJ b)):=by refine Hp.ok _ w _ ?_;rw[Bytes.len e,q4 _ (by omega)];refine(xz b.length (by omega) w).mono ?_;rintro r C ⟨t,rfl,z,d,y⟩;have:=eI b.length (by omega);obtain⟨h,A,j,k,q,x⟩:=xQ d z y (e.bw d) (by omega);exact⟨t,rfl,h,A,j,h,rfl,k,q,x⟩
def Up{w0:J}{s:Sl}{l:List Int}(A:bp w0 s l)(U:∀y∈l,a5 y)(N:l.length<=1000000000):∀(d i:Nat),i+d=l.length->∀(w:J) (out:Sl) (V:List UInt8),V.length<=10+10 *i->ah w0 w->eU w out V->(∀y∈aw out,w0.heap.size<=y)->
  sb.L0 s out (i:Int) w (iv w0 (V++(l.drop i).flatMap bL)):=by
 have O:=bp.len A;intro d;induction d with
 |zero=>
  intro i H w out V G e j k;refine sb.bE _ _ _ _ _ (a1 (aV (by omega)) ?_);rw[dC (by omega)];exact⟨out,rfl,by simpa using j,e,k⟩
 |succ d L=>
  intro i H w out V G e j k;have h:i<l.length:=by omega
  have I:l[i]? =some l[i]:=a6 h;have B:=U _ (List.getElem_mem h);refine sb.bE _ _ _ _ _ (a3 (aP (by omega)) ⟨by omega,by omega,bp.cell (A.bw e) I (by rw[bF]) λp _ K=>⟨_,K,(k5 _ B w).mono ?_⟩⟩);rintro r Q ⟨t,rfl,M,z,P⟩;have:=dh _ B;obtain⟨q,x,C,D,E,F⟩:=xQ (e.dD z) (j.bw z) k M.rd (by omega);refine⟨t,rfl,q,x,C,?_⟩;show sb.L0 s q (ao .i64 ((i:Int)+1)) x _;rw[bd i (by omega),dy h,b',<-cp];exact L (i+1) (by omega) x q _ (by simp;omega) E D F
def r8{w:J}{s:Sl}{l:List Int}(d:bp w s l)(U:∀x∈l,a5 x)(h:l.length<=1000000000):ak aa JX #[s.v] w (iv w (cG l)):=by refine sb.ok _ w _ ?_;rw[bp.len d,q4 _ (by omega)];refine(xz l.length (by omega) w).mono ?_;rintro r q ⟨t,rfl,k,e,j⟩;have y:=eI l.length (by omega);refine⟨t,rfl,?_⟩;have:=Up d U h l.length 0 (by omega) q t _ (by omega) e k j;rw[List.drop_zero]at this;exact this
def eC(s:cv):List UInt8:=bL s.kind++bL s.node++bL s.du++cG s.params++dJ (bl s.nm)++cG s.b0++cG s.hints
def fF(ss:List cv):List UInt8:=bL (ss.length:Int)++ss.flatMap eC
structure tW(s:cv):Prop where
 kind:a5 s.kind
 node:a5 s.node
 du:a5 s.du
 params:(∀x∈s.params,a5 x)/\s.params.length<=100000000
 b0:(∀x∈s.b0,a5 x)/\s.b0.length<=100000000
 hints:(∀x∈s.hints,a5 x)/\s.hints.length<=100000000
 nm:s.nm.size<=100000000
def Sy{w:J}{s:Sl}{V:List UInt8}(h:Bytes w s V):bx 1 w s (V.map bC):=⟨by rw[h.1,Nat.mul_one],h.2.1,h.2.2⟩
def oJ{l:List Int}(U:∀d∈l,a5 d)(x:l.length<=100000000):(cG l).length<=1000000010:=by
 have w:=eI l.length (by omega);have h:∀l:List Int,(∀d∈l,a5 d)->(l.flatMap bL).length<=10 *l.length:=by
  intro l;induction l with
  |nil=>intro _;exact bg _
  |cons d l k=>
   intro e;have a:=dh d (e d (by simp));have b:=k λq j=>e q (by simp[j]);rw[b',a7,db];omega
 have:=h l U;unfold cG;rw[a7];omega
def Br{b:List UInt8}(e:b.length<=100000000):(dJ b).length<=100000010:=by have d:=eI b.length (by omega);unfold dJ;rw[a7];omega
def PB{s:cv}(h:tW s):(eC s).length<=3200000000:=by have d:=dh _ h.kind;have e:=dh _ h.node;have j:=dh _ h.du;have k:=oJ h.params.1 h.params.2;have q:=oJ h.b0.1 h.b0.2;have w:=oJ h.hints.1 h.hints.2;have x:=Br (b:=bl s.nm) (by rw[dP];exact h.nm);unfold eC;simp only[a7];omega
section
variable {M:Nat->Prop} {w0 w:J} {L D:List En} {V:List Nat}
def _root_.Go.W.LH.mZ(H:LH M w0 w L D)(i:Nat){out:Sl}{xs h:List UInt8}(U:L[i]? =some (.row cL 1 out (xs.map bC)))(E:xs.length<=20000000000000)(F:h.length<=20000000000000){f:FuncId}{args:Array ab}{K:Sl->J->Prop}(z:ak aa f args w (iv w h))(y:∀s' q,LH M w0 q (L.set i (.row cL 1 s' ((xs++h).map bC))) D->K s' q)(br:∀b∈V,En.g b∈L:=by simp):
  ee V aa f args w λr e=>∃t:Sl,r=ag t.v/\∃(s':Sl) (d:J),kQ aa (dW #[cV,cV] cV #[out.v,t.v]) e=.ok s'.v d/\kept V e d/\K s' d:=
 ha (z.mono λr e ⟨t,B,k,f,_⟩=>by have j:=H.bw f;have A:=(j.get i U:aK _ _ _ _ _).len;rw[List.length_map]at A;have C:=Bytes.len k.rd;refine⟨f,t,B,j.dd i kq U (Sy k.rd) (xi _) (by omega) (λs' d x=>y s' d ?_) br⟩;rw[List.map_append];exact x)
end
def TI{w:J}{s:Sl}{l:List Sp}(h:hV w s l)(hs:∀d∈l,tW d.x)(hl:l.length<=2000):ak aa KM #[s.v] w (iv w (fF (cC l))):=by
 have hn:=h.n;refine u9.aD _ w _ ((k5 ((s.n:Nat):Int) ⟨by omega,by omega⟩ w).mono ?_);rintro _ F ⟨t,rfl,t1,T,n1⟩;refine⟨t,rfl,?_⟩;have aj:=dh ((s.n:Nat):Int) ⟨by omega,by omega⟩;have G:LH F0 w F [.row cL 1 t ((bL ((s.n:Nat):Int)).map bC)] [.sp s l]:=((bP (w:=w) [.sp s l] (by intro af Z;rw[bG.1 Z];exact fo.2 h))).push (.row cL 1 t ((bL ((s.n:Nat):Int)).map bC)) T t1.2 n1
 have loop:∀(k i:Nat) (out:Sl) (V:List UInt8) (Y:J),i+k=l.length->V=bL ((s.n:Nat):Int)++((cC l).take i).flatMap eC->V.length<=10+i *3200000000->LH F0 w Y [.row cL 1 out (V.map bC)] [.sp s l]->u9.a2 s out (i:Int) Y (iv w (fF (cC l))):=by
  intro k;induction k with
  |zero=>
   intro i out V Y hk A W q;refine u9.bB _ _ _ _ _ (a1 (aV (by omega)) ⟨out,rfl,?_,q.fr,λae hx=>(q.new _ (aE (i:=0) rfl) ae hx).resolve_right id⟩);have:fF (cC l)=V:=by rw[A,List.take_of_length_le (by simp;omega)];unfold fF;rw[List.length_map,<-hn]
   rw[this];exact(q.get 0:aK _ _ _ _ _).yE
  |succ k ih=>
   intro i out V Y hk A W q;have z:l[i]? =some l[i]:=a6 (by omega);generalize l[i]=d at z;have y:=aE z;have e:=hs d y;have U:=fo.1 (q.getD 0);have z1:=dh _ e.kind;have z2:=dh _ e.node;have z3:=dh _ e.du;have z4:=oJ e.params.1 e.params.2;have z5:=oJ e.b0.1 e.b0.2;have z6:=oJ e.hints.1 e.hints.2;have z7:=Br (b:=bl d.x.nm) (by rw[dP];exact e.nm);have ag:V.length<=10000000000000:=by omega
   refine u9.bB _ _ _ _ _ (a3 (aP (by omega)) ⟨by omega,by omega,U.get z λp j=>?_⟩);rw[bF];refine⟨_,_,_,_,_,_,_,j.c0,j.c1,j.c2,j.c3,j.c4,j.c5,j.c6,q.aJ λb w2 K=>K.ai λw3 L=>?_⟩;refine L.mZ 0 rfl (by omega) (by omega) (k5 _ e.kind w3) λs1 w4 M=>M.mZ 0 rfl (by rw[a7];omega) (by omega) (k5 _ e.node w4) λs2 w5 N=>N.ai λw6 O=>?_;refine O.mZ 0 rfl (by simp only[a7];omega) (by omega) (k5 _ e.du w6) λs3 w7 D=>?_;refine D.mZ 0 rfl (by simp only[a7];omega) (by omega) (r8 (l:=d.x.params) ((fo.1 (D.getD 0)).2 d y).1 e.params.1 (by have:=e.params.2;omega)) λs4 w8 P=>P.ai λw9 E=>?_;obtain⟨t',ac,Q,tb,f10,_⟩:=Ev w9 d.x.nm;have H:=E.bw f10;refine⟨t',ac,Q,λab hq=>f10.cb ab (by rw[bG.1 hq];exact E.get 1) id,?_⟩;refine H.mZ 0 rfl (by simp only[a7];omega) (by omega) (Bm tb (by rw[dP];have:=e.nm;omega)) λs5 al B=>?_;refine B.mZ 0 rfl (by simp only[a7];omega) (by omega) (r8 (l:=d.x.b0) ((fo.1 (B.getD 0)).2 d y).2.1 e.b0.1 (by have:=e.b0.2;omega)) λs6 am C=>?_;refine C.mZ 0 rfl (by simp only[a7];omega) (by omega) (r8 (l:=d.x.hints) ((fo.1 (C.getD 0)).2 d y).2.2 e.hints.1 (by have:=e.hints.2;omega)) λs7 ad I=>?_;rw[bd _ (by omega)];have ah:=PB e;have S:V++bL d.x.kind++bL d.x.node++bL d.x.du++cG d.x.params++dJ (bl d.x.nm)++cG d.x.b0++cG d.x.hints=V++eC d.x:=by unfold eC;simp only[cp]
   have ht:(cC l).take (i+1)=(cC l).take i++[d.x]:=by rw[List.take_add_one,iM,z];rfl
   refine ih (i+1) s7 (V++eC d.x) ad (by omega) ?_ (by rw[a7];omega) ?_
   .rw [ht,cy,A];simp
   .rw [<-S];exact I.take 1
 exact loop l.length 0 t _ F (by omega) (by simp) (by omega) G
def ZI{ss:List cv}(h:∀s∈ss,tW s)(x:ss.length<=2000):(fF ss).length<=10+ss.length *3200000000:=by
 have w:=dh (ss.length:Int) ⟨by omega,by omega⟩;have d:∀l:List cv,(∀s∈l,tW s)->(l.flatMap eC).length<=l.length *3200000000:=by
  intro l;induction l with
  |nil=>intro _;exact bg _
  |cons k l j=>
   intro h;have a:=PB (h k (by simp));have b:=j λq e=>h q (by simp[e]);rw[b',a7,db];omega
 have:=d ss h;unfold fF;rw[a7];omega
def _root_.Go.W.LH.mX{M:Nat->Prop}{w0 w:J}{L D:List En}(H:LH M w0 w L D)(k:List En)(h:∀d∈k,((∀e∈D,e.P w)->d.P w)/\∀b∈d.fp,∃e∈D,b∈e.fp):LH M w0 w L k:=
 ⟨H.fr,H.own,λd j=>(h d j).1 H.rd,H.new,H.nd,λd j b x q A=>by obtain⟨e,z,y⟩:=(h d j).2 b x;exact H.dj e z b y q A⟩
abbrev cz(l:List Sp):En:=.all (gR l)
def dZ{es:List En}{b:Nat}:b∈(En.all es).fp↔∃d∈es,b∈d.fp:=by unfold En.all;rw[aO,bA]
def na{w:J}{b n sz:Nat}{cs:List ab}{T:aC}(h:w.heap[b]? =some (.cells cs.toArray T (0,0)))(d:cs.length=n *sz):bx sz w ⟨some (ae b),n,n⟩ cs:=uB h d
def _root_.Go.W.LH.Bp{M:Nat->Prop}{w0 w Y:J}{G L B D A:List En}(H:LH M w0 w (G++L) D)(q:LH (λb=>∃d∈L,b∈d.fp) w Y B A)(O:∀d∈A,∀b∈d.fp,w.heap.size<=b\/∃C∈D,b∈C.fp):LH M w0 Y (G++B) A:=by
 have F:=H.nd;rw[cy,fD]at F;have E:∀d∈G,∀b∈d.fp,b<w.heap.size/\∀g∈L,b∉g.fp:=λd e b h=>⟨d.lt w (H.own d (bt _ e)) b h,λg j k=>F.2.2 b (bA.2 ⟨d,e,h⟩) b (bA.2 ⟨g,j,k⟩) rfl⟩;have P:∀d∈B,∀b∈d.fp,∀g∈G,b∉g.fp:=λd e b h g j k=>by
  obtain⟨h1,N⟩:=E g j b k;rcases q.new d e b h with x|⟨z,y,x⟩
  .omega
  .exact N z y x
 refine⟨H.fr.trans q.fr λI K V=>?_,λd e=>?_,q.rd,λd e b h=>?_,?_,λd e b h g j k=>?_⟩
 .obtain ⟨d,e,h⟩:=V;exact(H.new d (di _ e) I h).resolve_left (by omega)
 .rcases List.mem_append.1 e with e|e
  .exact d.st w Y (λb h U=>q.fr.cb b U λ⟨g,j,k⟩=>(E d e b h).2 g j k) (H.own d (bt _ e))
  .exact q.own d e
 .rcases List.mem_append.1 e with e|e
  .exact H.new d (bt _ e) b h
  .rcases q.new d e b h with x|⟨z,y,x⟩
   .exact .inl (a8 H.fr.size x)
   .exact H.new z (di _ y) b x
 .rw [cy,fD];refine⟨F.1,q.nd,λI K aa Z d=>?_⟩;subst d;obtain⟨g,j,k⟩:=bA.1 K;obtain⟨z,y,S⟩:=bA.1 Z;exact P z y I S g j k
 .rcases List.mem_append.1 j with j|j
  .rcases O d e b h with x|⟨C,T,Q⟩
   .have:=(E g j b k).1;omega
   .exact H.dj C T b Q g (bt _ j) k
  .exact q.dj d e b h g j k
def _root_.Go.W.LH.part{M:Nat->Prop}{w0 w:J}{G L D:List En}(H:LH M w0 w (G++L) D):LH (λb=>∃d∈L,b∈d.fp) w w L D:=by have j:=H.nd;rw[cy,fD]at j;exact⟨Fr.refl _ _,λd e=>H.own d (di _ e),H.rd,λd e b h=>.inr ⟨d,e,h⟩,j.2.1,λd e b h g k=>H.dj d e b h g (di _ k)⟩
def Ik{M:Nat->Prop}{w0 w:J}{L D:List En}{b:Nat}(H:LH M w0 w ([.g b]++L) D):∀d∈[b],¬∃e∈L,d∈e.fp:=λd k ⟨e,j,q⟩=>by have h:=H.nd;rw[cy,fD]at h;exact h.2.2 d (by simpa[En.g]using k) d (bA.2 ⟨e,j,q⟩) rfl
def pe{e:aC}{s:Sl}{vs:List ab}{b:Nat}(h:b∈(En.rd s vs).fp):b∈(En.row e 1 s vs).fp:=by
 have h:b∈(if vs=[]then[]else aw s):=h;split at h
 .cases h
 .exact h
def p'{w:J}{s:Sl}{l:List Int}(q:bp w s l)(z:∀d∈l,a5 d)(i m:Int)(k:1<=m):ak aa ye #[s.v,.i i,.i m] w λr B=>(∃j:Int,r=ag (.i j)/\0<=j/\j<m)/\ah w B:=by have E:=bp.len q;refine Hn.ok _ _ _ w _ (aG (λx=>⟨⟨0,rfl,by omega,by omega⟩,Fr.refl _ _⟩) (λC=>aG (λx=>⟨⟨0,rfl,by omega,by omega⟩,Fr.refl _ _⟩) (λD=>?_)));obtain⟨h,rfl⟩:=Int.eq_ofNat_of_zero_le (by omega:0<=i);have e:l[h]? =some l[h]:=a6 (by omega);generalize l[h]=d at e;have A:=z d (aE e);refine⟨by omega,by omega,bp.cell q e (by rw[bF]) λp _ y=>⟨d,y,(Aw d m w k A).mono ?_⟩⟩;rintro _ F ⟨rfl,f⟩;exact⟨_,rfl,⟨_,rfl,iT d m k⟩,f▸Fr.refl _ _⟩
section
variable {P:aF} {o:Oper} {E E0:Env} {w:J} {K:Env->J->Prop}
def rF(op:Op)(E E0:Env):Prop:=∀d∈op.operands.toList,∃u,E.val d=some u/\E0.val d=some u
def OW{op:Op}(h:rF op E E0)(e:o.op=op):E.dQ o=true:=by
 unfold Env.dQ;rw[e];exact fi.2 λk j=>by obtain⟨u,d,_⟩:=h k j;rw[d];rfl
def OX{op:Op}(h:rF op E E0)(d:o.op=op)(w:∀j b,op≠.select j b):execOp E.ev o=execOp E0.ev o:=
 execOp_congr o (by rw[d];exact w) λx e=>by rw[d]at e;obtain⟨u,k,q⟩:=h x (by simpa using e);simp[Env.ev,k,q]
def pq{op:Op}{ty:aC}{v:ab}(d:o.op=op)(e:o.type=ty)(h:rF op E E0)(A:∀j b,op≠.select j b)(y:∀dst pos after guard (K:Env->J->Prop),gq P ⟨dst,op,ty,pos,after,guard⟩ E w K=fP P ⟨dst,op,ty,pos,after,guard⟩ E λv _=>K (E.put dst v) w)(z:∀dst pos after guard,o5 P (execOp E0.ev ⟨dst,op,ty,pos,after,guard⟩)=some (.value v))(x:K (E.put o.dst v) w):gq P o E w K:=by have k:=OW h d;have q:=OX h d A;obtain⟨dst,B,C,pos,after,guard⟩:=o;simp only at d e;subst d e;rw[y];unfold fP;rw[k,q,z];exact x
def tw{op:Op}{ty:aC}{v:ab}{Y:J}(d:o.op=op)(e:o.type=ty)(h:rF op E E0)(A:∀j b,op≠.select j b)(y:∀dst pos after guard (K:Env->J->Prop),gq P ⟨dst,op,ty,pos,after,guard⟩ E w K=oM P ⟨dst,op,ty,pos,after,guard⟩ E w λv Y=>K (E.put dst v) Y)(z:∀dst pos after guard,(execOp E0.ev ⟨dst,op,ty,pos,after,guard⟩).run P w=.ok (.value v) Y)(x:K (E.put o.dst v) Y):gq P o E w K:=by have k:=OW h d;have q:=OX h d A;obtain⟨dst,B,C,pos,after,guard⟩:=o;simp only at d e;subst d e;rw[y];unfold oM;rw[k,q,z];exact x
end
def Zu{P:aF}{o:Oper}{E:Env}{w:J}{K:Env->J->Prop}{f a b:Nat}{c:ab}{O:Array aC}{ty:aC}{x y:ab}(q:o.op=.call ⟨.value (.func f),#[.tmp a,.tmp b,.const c],O⟩)(z:o.type=ty)(j:E.get? a=some x)(k:E.get? b=some y)(H:c=c)(F:gW P f=true)(h:ak P f #[x,y,c] w λA d=>mS (zeroOf P ty) λv=>A=ag v/\K (E.put o.dst v) d):gq P o E w K:=by
 obtain⟨dst,op,e,pos,after,guard⟩:=o;simp only at q z;subst q z;show cE (E.dQ ⟨dst,.call ⟨.value (.func f),#[.tmp a,.tmp b,.const c],O⟩,e,pos,after,guard⟩) (bif gW P f then oI P f ((#[Operand.tmp a,.tmp b,.const c]).map E.ev) (zeroOf P e) w (λv d=>K (E.put dst v) d)else vd P f ((#[Operand.tmp a,.tmp b,.const c]).map E.ev) (zeroOf P e) w (λv d=>K (E.put dst v) d));have G:E.dQ ⟨dst,.call ⟨.value (.func f),#[.tmp a,.tmp b,.const c],O⟩,e,pos,after,guard⟩=true:=by simp[Env.dQ,Op.operands,Call.operands,Env.val,j,k]
 have B:E.ev (.tmp a)=x:=by simp[Env.ev,Env.val,j]
 have C:E.ev (.tmp b)=y:=by simp[Env.ev,Env.val,k]
 have D:E.ev (.const c)=c:=rfl;rw[G,F];simp only[List.map_toArray,List.map_cons,List.map_nil,B,C,D];exact h
def nz(T:List (Nat×Nat×(ab->Prop)))(L:Nat->Bool)(E:Env):Prop:=∀d∈T,(d.1=0\/L (d.1 - 1)=true)->∃v,E.get? d.2.1=some v/\d.2.2 v
def nz.get{T:List (Nat×Nat×(ab->Prop))}{L:Nat->Bool}{E:Env}(h:nz T L E){i d:Nat}{p:ab->Prop}(e:(i,d,p)∈T)(U:i=0\/L (i - 1)=true):∃v,E.get? d=some v/\p v:=h _ e U
def nz.fill{T:List (Nat×Nat×(ab->Prop))}{L:Nat->Bool}{E:Env}(h:nz T L E){i d:Nat}{v:ab}(y:∀e∈T,e.2.1=d->e.1=i+1/\e.2.2 v)(z:∀e∈T,e.1=i+1->e.2.1=d):nz T (cP L i) (E.put (some d) v):=by
 intro e k q;by_cases j:e.2.1=d
 .exact ⟨v,by rw[j];exact nM,(y e k j).2⟩
 .rw [hf (λx=>j x.symm)];by_cases w:e.1=0
  .exact h e k (.inl w)
  .refine h e k (.inr ?_);have q:=q.resolve_left w
   rwa[dz (λA=>j (z e k (by omega)))]at q
def nz.XV{T:List (Nat×Nat×(ab->Prop))}{L:Nat->Bool}{E:Env}(h:nz T L E){i:Nat}{v:ab}(q:∀d∈T,d.1≠i+1):nz T (cP L i) (E.put none v):=by
 intro d k e;show ∃v,E.get? d.2.1=some v/\d.2.2 v;refine h d k ?_;by_cases j:d.1=0
 .exact .inl j
 .have e:=e.resolve_left j;have:=q d k;rw[dz (by omega)]at e;exact .inr e
def Zs{P:aF}{o:Oper}{E:Env}{w:J}{K:Env->J->Prop}{a b:Nat}{O:Array aC}{ty:aC}{s t:Sl}(x:o.op=.call ⟨.builtin .append,#[.tmp a,.tmp b],O⟩)(y:o.type=ty)(k:E.get? a=some s.v)(q:E.get? b=some t.v)(h:∃d e,(dW O ty #[s.v,t.v]).run P w=.ok (Sl.v d) e/\K (E.put o.dst d.v) e):gq P o E w K:=by
 obtain⟨dst,op,j,pos,after,guard⟩:=o;simp only at x y;subst x y;have B:E.dQ ⟨dst,.call ⟨.builtin .append,#[.tmp a,.tmp b],O⟩,j,pos,after,guard⟩=true:=by simp[Env.dQ,Op.operands,Call.operands,Env.val,k,q]
 have z:E.ev (.tmp a)=s.v:=by simp[Env.ev,Env.val,k]
 have A:E.ev (.tmp b)=t.v:=by simp[Env.ev,Env.val,q]
 show cE (E.dQ ⟨dst,.call ⟨.builtin .append,#[.tmp a,.tmp b],O⟩,j,pos,after,guard⟩) (∃d:Sl,∃e,(dW O j ((#[Operand.tmp a,.tmp b]).map E.ev)).run P w=.ok d.v e/\K (E.put dst d.v) e);rw[B];simp only[List.map_toArray,List.map_cons,List.map_nil,z,A];exact h
def Zx{P:aF}{o:Oper}{E:Env}{w:J}{K:Env->J->Prop}{T:aC}{a b:Nat}{p:Addr}{s:Sl}(e:o.op=.store T (.tmp a) (.tmp b))(j:E.get? a=some (.pointer (some p)))(k:E.get? b=some s.v)(U:(1==(match P.info? T with |some i=>i.size|none=>0)&&true&&(P.info? T).isSome)=true)(h:aQ w (p.add 0) s.v λd=>K (E.put o.dst undef) d):gq P o E w K:=by
 obtain⟨dst,op,q,pos,after,guard⟩:=o;simp only at e;subst e;show(match E.val (.tmp a),E.val (.tmp b)with
  |some (.pointer (some p)),some v=>cE (v.cells.size==(match P.info? T with |some i=>i.size|none=>0)&&v.cells.toList.all qK&&(P.info? T).isSome) (pk p v.cells.toList 0 w λd=>K (E.put dst undef) d)
  |_,_=>False)
 rw[show E.val (.tmp a)=some (.pointer (some p))from j,show E.val (.tmp b)=some s.v from k];show cE (1==(match P.info? T with |some i=>i.size|none=>0)&&true&&(P.info? T).isSome) _;rw[U];exact h
def BT:List (Op×Option Nat×aC×List Nat):=[
 (.fieldAddr fH (.tmp 5) 0,some 17,j',[]),
 (.load np (.tmp 17),some 18,np,[0]),
 (.build cg #[(1,.const (.int .i64 1))],some 19,cg,[]),
 (.build cA #[(0,.const (.int .i64 0)),(5,.const (.string (bJ #[118,48]))),(6,.tmp 19)],some 20,cA,[2]),
 (.buildSlice EM 1 #[(0,.tmp 20)],some 21,EM,[3]),
 (.buildSlice iq 1 #[(0,.const (.int .i64 0))],some 22,iq,[]),
 (.move (.tmp 0),some 23,iq,[]),
 (.move (.tmp 6),some 24,bR,[]),
 (.binOp .add bR (.const (.int .i64 1)) (.tmp 24) bR,some 25,bR,[7]),
 (.call ⟨.value (.func ye),#[.tmp 23,.tmp 25,.const (.int .i64 2)],#[iq,bR,bR]⟩,some 26,bR,[6,8]),
 (.binOp .add bR (.const (.int .i64 2)) (.tmp 26) bR,some 27,bR,[9]),
 (.buildSlice iq 1 #[(0,.tmp 27)],some 28,iq,[10]),
 (.buildSlice iq 1 #[(0,.const (.int .i64 2))],some 29,iq,[]),
 (.build e2 #[(0,.const (.int .i64 1)),(4,.const (.string (bJ #[104,48]))),(5,.tmp 29)],some 30,e2,[12]),
 (.buildSlice tJ 1 #[(0,.tmp 30)],some 31,tJ,[13]),
 (.build il #[(0,.tmp 21),(1,.tmp 22),(2,.tmp 28),(3,.tmp 31)],some 32,il,[4,5,11,14]),
 (.buildSlice np 1 #[(0,.tmp 32)],some 33,np,[15]),
 (.call ⟨.builtin .append,#[.tmp 18,.tmp 33],#[np,np]⟩,some 34,np,[1,16,9]),
 (.fieldAddr fH (.tmp 5) 0,some 35,j',[0,1,2,3,4,5,6,7,8,9,10,11,12,13,14,15,16,17]),
 (.store np (.tmp 35) (.tmp 34),none,j',[18,17,17,0,1,2,3,4,5,6,7,8,9,10,11,12,13,14,15,16,17])]
abbrev BR:ab:=.agg #[.i 0,.slice none 0 0,.i 0,.i 0,.u 0,.string (bJ #[118,48]),.i 0,.i 1,.i 0]
abbrev BS(s:Sl):ab:=.agg #[.i 1,.i 0,.i 0,.slice none 0 0,.string (bJ #[104,48]),s.v,.slice none 0 0]
abbrev lg(v:ab):Prop:=∃s:Sl,v=s.v
abbrev oV(v:ab):Prop:=∃n:Int,v=.i n
def bS(k:Int)(t4:Addr)(e:Sl)(d:Addr)(j:Int)(aM:Sl):List (Nat×Nat×(ab->Prop)):=[(0,1,(·=.i k)),(0,4,(·=.pointer (some t4))),(0,0,(·=e.v)),(0,5,(·=.pointer (some d))),(0,6,(·=.i j)),
 (1,17,(·=.pointer (some (d.add 0)))),(2,18,(·=aM.v)),(3,19,(·=.agg #[.i 0,.i 1,.i 0])),(4,20,(·=BR)),(5,21,lg),(6,22,lg),(7,23,(·=e.v)),(8,24,oV),(9,25,oV),(10,26,oV),(11,27,oV),(12,28,lg),(13,29,lg),
 (14,30,λv=>∃s:Sl,v=BS s),(15,31,lg),(16,32,λv=>∃a b c h:Sl,v=.agg #[a.v,b.v,c.v,h.v]),(17,33,lg),(18,34,lg),(19,35,(·=.pointer (some (d.add 0))))]
structure Lm where
 g:Sl
 h:Sl
 c:Sl
 s:Sl
def Lm.cs(x:Lm):List ab:=[x.g.v,x.h.v,x.c.v,x.s.v]
def Lm.len(l:List Lm):(l.flatMap Lm.cs).length=l.length *4:=oO Lm.cs 4 (λ_=>rfl) l
def Lm.one{l:List Lm}:∀u∈l.flatMap Lm.cs,u.oneCell'=true:=by intro u d;obtain⟨e,_,d⟩:=bA.1 d;simp only[Lm.cs,av,aR,aT]at d;rcases d with rfl|rfl|rfl|rfl<;>rfl
def Uv:gU aa np il (.agg #[.slice none 0 0,.slice none 0 0,.slice none 0 0,.slice none 0 0]) 4 96:=⟨by kernel_rfl,by kernel_rfl,rfl,by decide,by decide⟩
abbrev hL(d e:Nat)(aM:Sl)(ls:List Lm)(st:Sl)(ds:List Sp):List En:=[.c d [(⟨none,0,0⟩:Sl).v,(⟨none,0,0⟩:Sl).v] fH,.c e [aM.v,st.v] fH,.row il 4 aM (ls.flatMap Lm.cs),.row e2 7 st (ds.flatMap Sp.c)]
section
variable {w0:J} {mo:Int} {b4 b5:Nat} {l0 aM st:Sl} {i6:Int} {ls:List Lm} {ds:List Sp} {D:List En}
def uP(i:Nat):List Nat:=(BT.map λr=>r.2.2.2).getD i []
structure pG(w0:J)(mo:Int)(b4 b5:Nat)(l0 aM st:Sl)(i6:Int)(ls:List Lm)(ds:List Sp)(D:List En)(L:Nat->Bool)(E:Env)(w:J):Prop where
 t:nz (bS mo (ae b4) l0 (ae b5) i6 aM) L E
 cl:∀i,L i=true->∀j∈uP i,L j=true
 ph:(L 17=false/\L 19=false/\LH F0 w0 w (hL b4 b5 aM ls st ds) D/\(L 16=true->∃(b:Nat) (x:Lm),E.get? 33=some (.slice (some (ae b)) 1 1)/\w.heap[b]? =some (.cells x.cs.toArray il (0,0))))\/
  ((∀j,j<17->L j=true)/\L 17=true/\L 19=false/\∃(s:Sl) (x:Lm),E.get? 34=some s.v/\LH F0 w0 w [.c b4 [(⟨none,0,0⟩:Sl).v,(⟨none,0,0⟩:Sl).v] fH,.c b5 [aM.v,st.v] fH,.row il 4 s ((ls++[x]).flatMap Lm.cs),.row e2 7 st (ds.flatMap Sp.c)] D)\/
  ((∀j,j<17->L j=true)/\L 17=true/\L 19=true/\∃(s:Sl) (x:Lm),LH F0 w0 w (hL b4 b5 s (ls++[x]) st ds) D)
def uH{L:Nat->Bool}{i:Nat}(h:∀i,L i=true->∀d∈uP i,L d=true)(w:∀d∈uP i,L d=true):∀e,cP L i e=true->∀d∈uP e,cP L i d=true:=by
 intro e k d j;have g:L d=true:=by
  by_cases q:e=i
  .subst q;exact w d j
  .rw [dz q]at k;exact h e k d j
 simp[cP,g]
def pG.a{L:Nat->Bool}{E:Env}{w Y:J}(h:pG w0 mo b4 b5 l0 aM st i6 ls ds D L E w)(i d:Nat)(v:ab)(U:i<16)(H:∀I∈uP i,L I=true)(k:L i=false)(G:d≠33)(f:ah w Y)(C:∀e∈bS mo (ae b4) l0 (ae b5) i6 aM,e.2.1=d->e.1=i+1/\e.2.2 v)(F:∀e∈bS mo (ae b4) l0 (ae b5) i6 aM,e.1=i+1->e.2.1=d):pG w0 mo b4 b5 l0 aM st i6 ls ds D (cP L i) (E.put (some d) v) Y:=by
 refine⟨h.t.fill C F,uH h.cl H,?_⟩;rcases h.ph with⟨j,y,x,z⟩|⟨j,_⟩|⟨j,_⟩
 .refine .inl ⟨by rw[dz (by omega),j],by rw[dz (by omega),y],x.bw f,λq=>?_⟩;rw[dz (by omega)]at q;obtain⟨b,K,A,B⟩:=z q;exact⟨b,K,by rw[hf G,A],f.at B id⟩
 .rw [j i (by omega)]at k;cases k
 .rw [j i (by omega)]at k;cases k
def ng{op:Op}{a:Nat}{E:Env}{v:ab}(h:∀d∈op.operands.toList,d=.tmp a\/∃c,d=.const c)(e:E.get? a=some v):rF op E [(a,v)]:=λd j=>by
 rcases h d j with rfl|⟨c,rfl⟩
 .exact ⟨v,e,by simp[Env.val,Env.get?]⟩
 .exact ⟨c,rfl,rfl⟩
def D'{op:Op}{E:Env}(h:∀d∈op.operands.toList,∃c,d=.const c):rF op E []:=λd e=>by obtain⟨c,rfl⟩:=h d e;exact⟨c,rfl,rfl⟩
def U9(am:ls.length<=1000)(aj:∀k,LH F0 w0 k (hL b4 b5 aM ls st ds) D->∃xs,bp k l0 xs/\∀B∈xs,a5 B):allI (uk aa (pG w0 mo b4 b5 l0 aM st i6 ls ds D)) BT 0:=
 ⟨λA z k o w q x j h e=>by obtain⟨_,Q,rfl⟩:=e.t.get (i:=0) (d:=5) (p:=(·=.pointer (some (ae b5)))) (by simp[bS]) (.inl rfl);refine pq w x (ng (by simp[Op.operands]) Q) (by simp) (λ_ _ _ _ _=>rfl) (λ_ _ _ _=>by kernel_rfl) (v:=.pointer (some ((ae b5).add 0))) ?_;rw[q];exact e.a 0 17 _ (by omega) h j (by omega) (Fr.refl _ _) (by simp[bS]) (by simp[bS]),
  λA z k o w q x j h e=>by
   obtain⟨_,af,rfl⟩:=e.t.get (i:=1) (d:=17) (p:=(·=.pointer (some ((ae b5).add 0)))) (by simp[bS]) (.inr (h 0 (by simp)));have P:(l6 aa np ((ae b5).add 0) k λv _=>pG w0 mo b4 b5 l0 aM st i6 ls ds D (cP A 1) (z.put o.dst v) k)=(∃s:Sl,k.cell? ((ae b5).add 0)=some s.v/\pG w0 mo b4 b5 l0 aM st i6 ls ds D (cP A 1) (z.put o.dst s.v) k):=by kernel_rfl
   refine po w af (P▸⟨aM,?_,?_⟩)
   .rcases e.ph with⟨_,_,C,_⟩|⟨y,_⟩|⟨y,_⟩
    .exact C.ld 1 0
    .rw [y 1 (by omega)]at j;cases j
    .rw [y 1 (by omega)]at j;cases j
   .rw [q];exact e.a 1 18 _ (by omega) h j (by omega) (Fr.refl _ _) (by simp[bS]) (by simp[bS]),
  λA z k o w q x j h e=>by refine pq w x (D' (by simp[Op.operands])) (by simp) (λ_ _ _ _ _=>rfl) (λ_ _ _ _=>by kernel_rfl) (v:=.agg #[.i 0,.i 1,.i 0]) ?_;rw[q];exact e.a 2 19 _ (by omega) h j (by omega) (Fr.refl _ _) (by simp[bS]) (by simp[bS]),
  λA z k o w q x j h e=>by obtain⟨_,g,rfl⟩:=e.t.get (i:=3) (d:=19) (p:=(·=.agg #[.i 0,.i 1,.i 0])) (by simp[bS]) (.inr (h 2 (by simp)));refine pq w x (ng (by simp[Op.operands]) g) (by simp) (λ_ _ _ _ _=>rfl) (λ_ _ _ _=>by kernel_rfl) (v:=BR) ?_;rw[q];exact e.a 3 20 _ (by omega) h j (by omega) (Fr.refl _ _) (by simp[bS]) (by simp[bS]),
  λA z k o w q x j h e=>by obtain⟨_,g,rfl⟩:=e.t.get (i:=4) (d:=20) (p:=(·=BR)) (by simp[bS]) (.inr (h 3 (by simp)));refine tw w x (ng (by simp[Op.operands]) g) (by simp) (λ_ _ _ _ _=>rfl) (λ_ _ _ _=>by kernel_rfl) (v:=.slice (some (ae k.heap.size)) 1 1) (Y:=k.alloc (.cells #[.i 0,.slice none 0 0,.i 0,.i 0,.u 0,.string (bJ #[118,48]),.i 0,.i 1,.i 0] cA)) ?_;rw[q];exact e.a 4 21 _ (by omega) h j (by omega) (Fr.alloc _ _ _) (by simp[bS];exact⟨⟨some (ae k.heap.size),1,1⟩,rfl⟩) (by simp[bS]),
  λA z k o w q x j h e=>by refine tw w x (D' (by simp[Op.operands])) (by simp) (λ_ _ _ _ _=>rfl) (λ_ _ _ _=>by kernel_rfl) (v:=.slice (some (ae k.heap.size)) 1 1) (Y:=k.alloc (.cells #[.i 0] bR)) ?_;rw[q];exact e.a 5 22 _ (by omega) h j (by omega) (Fr.alloc _ _ _) (by simp[bS];exact⟨⟨some (ae k.heap.size),1,1⟩,rfl⟩) (by simp[bS]),
  λA z k o w q x j h e=>by obtain⟨_,g,rfl⟩:=e.t.get (i:=0) (d:=0) (p:=(·=l0.v)) (by simp[bS]) (.inl rfl);refine mh (.inl w) g ?_;rw[q];exact e.a 6 23 _ (by omega) h j (by omega) (Fr.refl _ _) (by simp[bS]) (by simp[bS]),
  λA z k o w q x j h e=>by obtain⟨_,g,rfl⟩:=e.t.get (i:=0) (d:=6) (p:=(·=.i i6)) (by simp[bS]) (.inl rfl);refine mh (.inl w) g ?_;rw[q];exact e.a 7 24 _ (by omega) h j (by omega) (Fr.refl _ _) (by simp[bS];exact⟨_,rfl⟩) (by simp[bS]),
  λA z k o w q x j h e=>by obtain⟨_,g,n,rfl⟩:=e.t.get (i:=8) (d:=24) (p:=oV) (by simp[bS]) (.inr (h 7 (by simp)));refine pq w x (ng (by simp[Op.operands]) g) (by simp) (λ_ _ _ _ _=>rfl) (λ_ _ _ _=>by kernel_rfl) (v:=.i (ao .i64 (1+n))) ?_;rw[q];exact e.a 8 25 _ (by omega) h j (by omega) (Fr.refl _ _) (by simp[bS];exact⟨_,rfl⟩) (by simp[bS]),
  λA z k o w q x j h e=>by
   obtain⟨_,g,rfl⟩:=e.t.get (i:=7) (d:=23) (p:=(·=l0.v)) (by simp[bS]) (.inr (h 6 (by simp)));obtain⟨_,g',n,rfl⟩:=e.t.get (i:=9) (d:=25) (p:=oV) (by simp[bS]) (.inr (h 8 (by simp)));obtain⟨xs,M,ak⟩:=aj k (by
    rcases e.ph with⟨_,_,C,_⟩|⟨y,_⟩|⟨y,_⟩
    .exact C
    .rw [y 9 (by omega)]at j;cases j
    .rw [y 9 (by omega)]at j;cases j)
   refine Zu w x g g' rfl (by kernel_rfl) ((p' M ak n 2 (by omega)).mono ?_);rintro _ w2 ⟨⟨al,rfl,_⟩,f⟩;rw[show zeroOf aa bR=.i 0 from by kernel_rfl];refine⟨al,rfl,?_⟩;rw[q];exact e.a 9 26 _ (by omega) h j (by omega) f (by simp[bS];exact⟨_,rfl⟩) (by simp[bS]),
  λA z k o w q x j h e=>by obtain⟨_,g,n,rfl⟩:=e.t.get (i:=10) (d:=26) (p:=oV) (by simp[bS]) (.inr (h 9 (by simp)));refine pq w x (ng (by simp[Op.operands]) g) (by simp) (λ_ _ _ _ _=>rfl) (λ_ _ _ _=>by kernel_rfl) (v:=.i (ao .i64 (2+n))) ?_;rw[q];exact e.a 10 27 _ (by omega) h j (by omega) (Fr.refl _ _) (by simp[bS];exact⟨_,rfl⟩) (by simp[bS]),
  λA z k o w q x j h e=>by obtain⟨_,g,n,rfl⟩:=e.t.get (i:=11) (d:=27) (p:=oV) (by simp[bS]) (.inr (h 10 (by simp)));refine tw w x (ng (by simp[Op.operands]) g) (by simp) (λ_ _ _ _ _=>rfl) (λ_ _ _ _=>by kernel_rfl) (v:=.slice (some (ae k.heap.size)) 1 1) (Y:=k.alloc (.cells #[.i n] bR)) ?_;rw[q];exact e.a 11 28 _ (by omega) h j (by omega) (Fr.alloc _ _ _) (by simp[bS];exact⟨⟨some (ae k.heap.size),1,1⟩,rfl⟩) (by simp[bS]),
  λA z k o w q x j h e=>by refine tw w x (D' (by simp[Op.operands])) (by simp) (λ_ _ _ _ _=>rfl) (λ_ _ _ _=>by kernel_rfl) (v:=.slice (some (ae k.heap.size)) 1 1) (Y:=k.alloc (.cells #[.i 2] bR)) ?_;rw[q];exact e.a 12 29 _ (by omega) h j (by omega) (Fr.alloc _ _ _) (by simp[bS];exact⟨⟨some (ae k.heap.size),1,1⟩,rfl⟩) (by simp[bS]),
  λA z k o w q x j h e=>by obtain⟨_,g,s,rfl⟩:=e.t.get (i:=13) (d:=29) (p:=lg) (by simp[bS]) (.inr (h 12 (by simp)));refine pq w x (ng (by simp[Op.operands]) g) (by simp) (λ_ _ _ _ _=>rfl) (λ_ _ _ _=>by kernel_rfl) (v:=BS s) ?_;rw[q];exact e.a 13 30 _ (by omega) h j (by omega) (Fr.refl _ _) (by simp[bS];exact⟨s,rfl,rfl,rfl⟩) (by simp[bS]),
  λA z k o w q x j h e=>by obtain⟨_,g,s,rfl⟩:=e.t.get (i:=14) (d:=30) (p:=λv=>∃s:Sl,v=BS s) (by simp[bS]) (.inr (h 13 (by simp)));refine tw w x (ng (by simp[Op.operands]) g) (by simp) (λ_ _ _ _ _=>rfl) (λ_ _ _ _=>by kernel_rfl) (v:=.slice (some (ae k.heap.size)) 1 1) (Y:=k.alloc (.cells #[.i 1,.i 0,.i 0,.slice none 0 0,.string (bJ #[104,48]),s.v,.slice none 0 0] e2)) ?_;rw[q];exact e.a 14 31 _ (by omega) h j (by omega) (Fr.alloc _ _ _) (by simp[bS];exact⟨⟨some (ae k.heap.size),1,1⟩,rfl⟩) (by simp[bS]),
  λA z k o w q x j h e=>by
   obtain⟨_,g1,a,rfl⟩:=e.t.get (i:=5) (d:=21) (p:=lg) (by simp[bS]) (.inr (h 4 (by simp)));obtain⟨_,g2,b,rfl⟩:=e.t.get (i:=6) (d:=22) (p:=lg) (by simp[bS]) (.inr (h 5 (by simp)));obtain⟨_,g3,c,rfl⟩:=e.t.get (i:=12) (d:=28) (p:=lg) (by simp[bS]) (.inr (h 11 (by simp)));obtain⟨_,g4,G,rfl⟩:=e.t.get (i:=15) (d:=31) (p:=lg) (by simp[bS]) (.inr (h 14 (by simp)));refine pq w x (E0:=[(21,a.v),(22,b.v),(28,c.v),(31,G.v)]) (λB M=>?_) (by simp) (λ_ _ _ _ _=>rfl) (λ_ _ _ _=>by kernel_rfl) (v:=.agg #[a.v,b.v,c.v,G.v]) ?_
   .have M:B=.tmp 21\/B=.tmp 22\/B=.tmp 28\/B=.tmp 31:=by simpa[Op.operands]using M
    rcases M with rfl|rfl|rfl|rfl
    .exact ⟨_,g1,rfl⟩
    .exact ⟨_,g2,rfl⟩
    .exact ⟨_,g3,rfl⟩
    .exact ⟨_,g4,rfl⟩
   rw[q];exact e.a 15 32 _ (by omega) h j (by omega) (Fr.refl _ _) (by simp[bS];exact⟨⟨a,rfl,rfl,rfl⟩,⟨b,rfl,rfl,rfl⟩,⟨c,rfl,rfl,rfl⟩,G,rfl,rfl,rfl⟩) (by simp[bS]),
  λA z k o w q x j h e=>by
   obtain⟨_,g,a,b,c,G,rfl⟩:=e.t.get (i:=16) (d:=32) (p:=λv=>∃a b c G:Sl,v=.agg #[a.v,b.v,c.v,G.v]) (by simp[bS]) (.inr (h 15 (by simp)));refine tw w x (ng (by simp[Op.operands]) g) (by simp) (λ_ _ _ _ _=>rfl) (λ_ _ _ _=>by kernel_rfl) (v:=.slice (some (ae k.heap.size)) 1 1) (Y:=k.alloc (.cells #[a.v,b.v,c.v,G.v] il)) ?_;rw[q];refine⟨e.t.fill (by simp[bS];exact⟨⟨some (ae k.heap.size),1,1⟩,rfl⟩) (by simp[bS]),uH e.cl h,?_⟩;rcases e.ph with⟨y,E,C,F⟩|⟨y,_⟩|⟨y,_⟩
   .exact .inl ⟨by rw[dz (by omega),y],by rw[dz (by omega),E],C.bw (Fr.alloc _ _ _),λ_=>⟨k.heap.size,⟨a,b,c,G⟩,nM,jV k _⟩⟩
   .rw [y 16 (by omega)]at j;cases j
   .rw [y 16 (by omega)]at j;exact Bool.noConfusion j,
  λA z k o w q x j h e=>by
   obtain⟨_,ag,rfl⟩:=e.t.get (i:=2) (d:=18) (p:=(·=aM.v)) (by simp[bS]) (.inr (h 1 (by simp)));rcases e.ph with⟨y,E,C,F⟩|⟨_,y,_⟩|⟨_,y,_⟩
   .obtain ⟨b,B,e1,ad⟩:=F (h 16 (by simp));have hn:=(C.get 2:aK _ _ _ _ _).len;rw[Lm.len]at hn;refine Zs w x ag e1 (s:=aM) (t:=⟨some (ae b),1,1⟩) (C.ap 2 Uv (src:=⟨some (ae b),1,1⟩) (news:=B.cs) rfl (na (n:=1) (sz:=4) (cs:=B.cs) ad rfl).2.2 rfl (λu hu=>Lm.one (l:=[B]) u (by simpa using hu)) (by show(aM.n+1) *96<=_;omega) λZ w2 N _ _=>?_);rw[q];refine⟨e.t.fill (by simp[bS];exact⟨Z,rfl⟩) (by simp[bS]),uH e.cl h,.inr (.inl ⟨λH K=>?_,y7,by rw[dz (by omega),E],Z,B,nM,?_⟩)⟩
    .rw [dz (by omega)];have V:=e.cl 16 (h 16 (by simp));have I:=e.cl 15 (V 15 (by decide));have W:=e.cl 4 (I 4 (by decide));have c3:=e.cl 3 (W 3 (by decide));have T:=e.cl 11 (I 11 (by decide));have S:=e.cl 10 (T 10 (by decide));have O:=e.cl 9 (S 9 (by decide));have c8:=e.cl 8 (O 8 (by decide));have U:=e.cl 14 (I 14 (by decide));have ac:=e.cl 13 (U 13 (by decide));have c1:=e.cl 1 (h 1 (by simp))
     match H,K with
     |0,_=>exact c1 0 (by decide)
     |1,_=>exact h 1 (by simp)
     |2,_=>exact c3 2 (by decide)
     |3,_=>exact W 3 (by decide)
     |4,_=>exact I 4 (by decide)
     |5,_=>exact I 5 (by decide)
     |6,_=>exact O 6 (by decide)
     |7,_=>exact c8 7 (by decide)
     |8,_=>exact O 8 (by decide)
     |9,_=>exact S 9 (by decide)
     |10,_=>exact T 10 (by decide)
     |11,_=>exact I 11 (by decide)
     |12,_=>exact ac 12 (by decide)
     |13,_=>exact U 13 (by decide)
     |14,_=>exact I 14 (by decide)
     |15,_=>exact V 15 (by decide)
     |16,_=>exact h 16 (by simp)
     |H+17,ai=>exact absurd ai (by omega)
    .have P:(ls++[B]).flatMap Lm.cs=ls.flatMap Lm.cs++B.cs:=by simp
     rw[P];exact N
   .rw [y]at j;cases j
   .rw [y]at j;exact Bool.noConfusion j,
  λA z k o w q x j h e=>by
   obtain⟨_,Q,rfl⟩:=e.t.get (i:=0) (d:=5) (p:=(·=.pointer (some (ae b5)))) (by simp[bS]) (.inl rfl);refine pq w x (ng (by simp[Op.operands]) Q) (by simp) (λ_ _ _ _ _=>rfl) (λ_ _ _ _=>by kernel_rfl) (v:=.pointer (some ((ae b5).add 0))) ?_;rw[q];refine⟨e.t.fill (by simp[bS]) (by simp[bS]),uH e.cl h,?_⟩;rcases e.ph with⟨y,_⟩|⟨y,E,F,s,B,L,ab⟩|⟨y,E,F,L⟩
   .rw [h 17 (by simp)]at y;cases y
   .exact .inr (.inl ⟨λH K=>by rw[dz (by omega)];exact y H K,by rw[dz (by omega),E],by rw[dz (by omega),F],s,B,by rw[hf (by omega),L],ab⟩)
   .exact .inr (.inr ⟨λH K=>by rw[dz (by omega)];exact y H K,by rw[dz (by omega),E],by rw[dz (by omega),F],L⟩),
  λA z k o w q x j h e=>by
   obtain⟨_,ah,rfl⟩:=e.t.get (i:=19) (d:=35) (p:=(·=.pointer (some ((ae b5).add 0)))) (by simp[bS]) (.inr (h 18 (by simp)));rcases e.ph with⟨y,_⟩|⟨y,E,F,s,B,L,C⟩|⟨y,E,F,L⟩
   .rw [h 17 (by simp)]at y;cases y
   .refine Zx w ah L (by kernel_rfl) ?_;rw[add_add];refine C.st 1 0 rfl λw2 N=>?_;rw[q];refine⟨e.t.XV (by simp[bS]),uH e.cl h,.inr (.inr ⟨λH K=>by rw[dz (by omega)];exact y H K,by rw[dz (by omega),E],y7,s,B,N⟩)⟩
   .rw [F]at j;exact Bool.noConfusion j,
  trivial⟩
def U8{w:J}{R:aH}(H:LH F0 w0 w (hL b4 b5 aM ls st ds) D)(M:ls.length<=1000)(N:∀e,LH F0 w0 e (hL b4 b5 aM ls st ds) D->∃xs,bp e l0 xs/\∀j∈xs,a5 j){t13:Int}(L:∀s j e,LH F0 w0 e (hL b4 b5 s (ls++[j]) st ds) D->f'.S1 l0 mo (ae b4) (ae b5) i6 e R):
  sC aa f'.jI (λy w=>f'.pK y w R) [(14,.bool (aq (i6<t13))),(13,.i t13),(12,l0.v),(11,.i i6),(0,l0.v),(1,.i mo),(4,.pointer (some (ae b4))),(5,.pointer (some (ae b5))),(6,.i i6)] w:=by
 refine B3 BT (by kernel_rfl) (pG w0 mo b4 b5 l0 aM st i6 ls ds D) ⟨λO k x=>?_,λi q=>(by cases q),.inl ⟨rfl,rfl,H.drew,λq=>(by cases q)⟩⟩ (U9 M N) λP y e B h=>?_
 .have x:O.1=0:=x.resolve_right (by simp);simp only[bS,av,aR,aT]at k
  (repeat' rcases k with rfl|k)<;>(try subst k)<;>first |(exact⟨_,rfl,rfl⟩)|(exact Nat.noConfusion x)
 .rcases h.ph with⟨z,_⟩|⟨_,_,A,_⟩|⟨_,_,_,s,j,C⟩
  .rw [B 17 (by decide)]at z;cases z
  .rw [B 19 (by decide)]at A;cases A
  .obtain ⟨_,E,rfl⟩:=h.t.get (i:=0) (d:=0) (p:=(·=l0.v)) (by simp[bS]) (.inl rfl);obtain⟨_,F,rfl⟩:=h.t.get (i:=0) (d:=1) (p:=(·=.i mo)) (by simp[bS]) (.inl rfl);obtain⟨_,G,rfl⟩:=h.t.get (i:=0) (d:=4) (p:=(·=.pointer (some (ae b4)))) (by simp[bS]) (.inl rfl);obtain⟨_,I,rfl⟩:=h.t.get (i:=0) (d:=5) (p:=(·=.pointer (some (ae b5)))) (by simp[bS]) (.inl rfl);obtain⟨_,K,rfl⟩:=h.t.get (i:=0) (d:=6) (p:=(·=.i i6)) (by simp[bS]) (.inl rfl);unfold f'.pK;rw[E,F,G,I,K];exact L s j e C
end
namespace N'
noncomputable abbrev t0:=aA aa Tryz.f209 [(3,ls [0,1,2,3,4,5,6,7,8])] []
def ok:=aB t0 Ll [.Y]
end N'
namespace Ox
noncomputable abbrev t0:=aA aa Tryz.f157 [] [2]
def aD:=aB t0 ym [.a 4,.I,.Y,.Y,.s,.I]
end Ox
namespace pc
noncomputable abbrev t0:=aA aa Tryz.f190 [(9,ls [0,1,5,6,2,3,4,7,8,9,10,11])] [1,9]
noncomputable def je:=bj t0 [0,1,1,1,7] [(1,.l [.I,.Y,.Y,.s] aW),(5,.v [.st]),(6,.v [.I]),(7,.v [.st]),(79,.v [.s]),(80,.v [.I]),(81,.v [.I])]
noncomputable abbrev t1:=bh je
noncomputable abbrev cJ:=ax t1 [3,2,2,2,1,1,7] [(1,.l [.I,.Y,.Y,.s] aW),(5,.v [.st]),(6,.v [.I]),(7,.v [.st]),(10,.v [.st]),(79,.v [.s]),(80,.v [.I]),(81,.v [.I])]
noncomputable abbrev t2:=az cJ
def lR:=bm t2 je
abbrev P0:Ps:=[(1,.l [.I,.Y,.Y,.s] aW),(4,.v [.st]),(5,.v [.st]),(6,.v [.I])]
noncomputable abbrev bT:=ax t2 [4] P0
noncomputable abbrev t3:=az bT
noncomputable abbrev bq:=ax t3 [3] P0
noncomputable abbrev t4:=az bq
def aD:=aB t4 Lj [.a 4,.I,.Y,.Y,.s]
end pc
namespace N8
noncomputable abbrev t0:=aA aa Tryz.f138 [] [1]
def aD:=aB t0 Lh [.a 4,.I,.Y,.Y,.s]
end N8
namespace Qc
noncomputable abbrev t0:=aA aa Tryz.f121 [] [3,6]
def aD:=aB t0 CP [.st]
end Qc
def No(c:UInt8):sT c=m5 c:=by unfold sT m5;rw[Bool.and_assoc,Bool.and_assoc];rfl
def Pm(c:UInt8):jB c=ez c:=rfl
def RQ:(List.range 256).all (λn=>kY .u8 (n:Int) 15==((n%16:Nat):Int))=true:=by kernel_rfl
def Ix{n:Nat}(h:n<16):(bJ #[48,49,50,51,52,53,54,55,56,57,97,98,99,100,101,102])[n]? =some (h0 n):=by
 have:n=0\/n=1\/n=2\/n=3\/n=4\/n=5\/n=6\/n=7\/n=8\/n=9\/n=10\/n=11\/n=12\/n=13\/n=14\/n=15:=by omega
 (repeat' rcases this with rfl|this)<;>(try subst this)<;>rfl
def Dl(c:UInt8)(w:J):ak aa Ll #[.int .u8 (c.toNat:Int)] w λr C=>r=ag (.string (ba (dB c)))/\ah w C:=by
 have B:=c.toNat_lt;have k:LH F0 w w [] []:=bP [] (by simp);refine N'.ok _ w _ (k.call (Gl c w) ?_);rintro _ D rfl j;refine⟨_,rfl,bD (λd=>?_) (λd=>?_)⟩
 .rw [No]at d;refine j.nY (λE _ q h=>?_);have e:Bytes E ⟨some (ae D.heap.size),3,3⟩ [39,c,39]:=rT (T:=cL) h rfl;refine⟨ba [39,c,39],lZ e,?_,q.fr⟩;unfold dB;rw[aj d]
 .rw [No]at d;have z:Int.fdiv (c.toNat:Int) (2^(4))=((c.toNat / 16:Nat):Int):=by rw[Int.fdiv_eq_ediv_of_nonneg _ (by decide)];omega
  have A:kY .u8 (c.toNat:Int) 15=((c.toNat%16:Nat):Int):=eq_of_beq (fi.1 RQ c.toNat (List.mem_range.2 B));refine j.dr λF x=>?_;rw[z,A];refine⟨by omega,_,Ix (by omega),by omega,_,Ix (by omega),x.nY (λG _ y h=>?_)⟩;have e:Bytes G ⟨some (ae F.heap.size),4,4⟩ [92,120,h0 (c.toNat / 16),h0 (c.toNat%16)]:=rT (T:=cL) h rfl;refine⟨ba [92,120,h0 (c.toNat / 16),h0 (c.toNat%16)],lZ e,?_,y.fr⟩;unfold dB;rw[af (by rw[d];simp)]
abbrev E7(n:Nat):Prop:=∀(x:I) (w:J),x.sz<=n->h8 x.rx=true->x.P w->ak aa Lj #[x.v] w λr d=>r=ag (.tuple #[.string (ba (bb x.rx)),.i (cM x.rx:Int)])/\ah w d
def Nl{n:Nat}(G:n<=1000000)(q:E7 n)(x:I)(d:Nat)(w:J)(h:x.sz<=n)(F:d<=1000)(z:h8 x.rx=true)(A:x.P w):ak aa ym #[x.v,.i (d:Int)] w λr B=>r=ag (.string (ba (cO d x.rx (bb x.rx))))/\ah w B:=by
 refine Ox.aD _ _ _ _ _ w _ ((gE A).aJ λD C e=>e.ay (q x C h z (e.getD 0)) ?_);rintro _ H rfl j;have E:(bb x.rx).length<=18000000:=by have:=wK x.rx;rw[I.eB]at this;omega
 have k:bJ #[40]++ba (bb x.rx)++bJ #[41]=ba (40::(bb x.rx++[41])):=by show ba [40]++ba (bb x.rx)++ba [41]=_;rw[dF,dF];simp
 refine⟨_,_,rfl,aG (λy=>⟨?_,?_,?_,j.fr⟩) (λy=>⟨?_,j.fr⟩)⟩
 .rw [cS];show ¬(((1+_:Nat):Int)>9223372036854775807);omega
 .have:(bJ #[40]++ba (bb x.rx)).size=1+(bb x.rx).length:=by show(ba [40]++_).size=_;rw[dF,cS];simp;omega
  rw[this];show ¬(((_+1:Nat):Int)>9223372036854775807);omega
 .rw [k];unfold cO;rw[aj (by omega)]
 .unfold cO;rw[af (by omega)]
def Nj:∀n:Nat,n<=1000000->E7 n
 |0,_=>λe C j _ _=>absurd j (by have:=I.lH e;omega)
 |n+1,hn=>by
  have ih:=Nj n (by omega);intro e C j aW px;have hs:=I.hQ e;have hl:=I.fq e.l;have nr:=I.cm px.parts.1;have aK:=aW;rw[I.e0]at aK;obtain⟨k0,k7,ar,aR⟩:=yw aK;have ad:(I.au e.l).length=e.l.length:=by rw[I.fk,List.length_map]
  rw[ad]at ar;have aC:∀a∈e.l,h8 a.rx=true:=λa w=>yx aR (by rw[I.fk];exact List.mem_map.2 ⟨a,w,rfl⟩);have av:∀(a:I) (lv:Nat),a.sz<=1000000->(cO lv a.rx (bb a.rx)).length<=18000002:=λa lv w=>by have z:=wK a.rx;rw[I.eB]at z;have:=(qM lv a.rx (bb a.rx)).1;omega
  have az:∀c,(dB c).length<=4:=λc=>by unfold dB;split<;>simp
  let R:aH:=λr w'=>r=ag (.tuple #[.string (ba (bb e.rx)),.i (cM e.rx:Int)])/\ah C w'
  have one:∀(a:I) (aa:Nat) (q:J) (L:List En) (V:List Nat) (K:ByteArray->J->Prop),aa<=1000->a∈e.l->LH F0 C q L [.tree e]->(∀w2,LH F0 C w2 L [.tree e]->K (ba (cO aa a.rx (bb a.rx))) w2)->A1 V ym #[.agg #[.i a.k,.int .u8 (a.lo.toNat:Int),.int .u8 (a.U.toNat:Int),a.s.v],.i (aa:Int)] q K:=by intro a aa q L V K aT w h hK;have ax:=I.eg w;refine h.ay (Nl (by omega) ih a aa q (by omega) aT (aC a w) ((show e.P q from h.getD 0).parts.2.mem w)) ?_;rintro _ w2 rfl H2;exact⟨_,rfl,hK w2 H2⟩
  have M:bb e.rx=bb (.mk e.k e.lo e.U (I.au e.l)):=by rw[I.e0]
  have aq:cM e.rx=if e.k=6 then 3 else if e.k<3\/e.k=7\/e.l.length<2 then 4 else if e.k=3 then 2 else if e.k=4 then 0 else 1:=by rw[I.e0];unfold cM;dsimp only;rw[ad]
  have O:(e.k<3\/e.k=7\/e.l.length<2)->e.k≠6->(4:Int)=(cM e.rx:Int):=λz A=>by rw[aq,af A,aj z];rfl
  refine pc.aD _ _ _ _ C _ ((gE px).aJ λD q h=>?_);have h:LH F0 C q [.g D] [.tree e]:=h;refine aL (λhk=>⟨?_,h.fr⟩) (λQ=>aL (λhk=>⟨?_,h.fr⟩) (λZ=>aL (λS=>?_) (λS=>aL (λB=>?_) (λB=>aL (λT=>?_) (λT=>?_)))))
  .rw [<-O (.inl (by omega)) (by omega),M];unfold bb;rw[aj hk];rfl
  .rw [<-O (.inl (by omega)) (by omega),M];unfold bb;rw[af Q,aj hk];rfl
  .have e2:bb e.rx=if e.lo=e.U then dB e.lo else 91::(dB e.lo++45::(dB e.U++[93])):=by rw[M];unfold bb;rw[af Q,af Z,aj S]
   rw[<-O (.inl (by omega)) (by omega)];refine aL (λaF=>h.ay (Dl e.lo q) ?_) (λaF=>h.ai λw5 H5=>H5.ay (Dl e.lo w5) ?_)
   .rintro _ E rfl y;exact⟨_,rfl,by rw[e2,aj (UInt8.toNat_inj.1 (by omega))],y.fr⟩
   .rintro _ W rfl H;have z:=az e.lo;have A:=az e.U;have s0:bJ #[91]++ba (dB e.lo)++bJ #[45]=ba (91::dB e.lo++[45]):=by show ba [91]++ba (dB e.lo)++ba [45]=_;rw[dF,dF];rfl
    refine⟨_,rfl,?_,?_,H.ay (Dl e.U W) ?_⟩
    .rw [cS];show ¬(((1+_:Nat):Int)>9223372036854775807);omega
    .have:(bJ #[91]++ba (dB e.lo)).size=1+(dB e.lo).length:=by show(ba [91]++_).size=_;rw[dF,cS];simp;omega
     rw[this];show ¬(((_+1:Nat):Int)>9223372036854775807);omega
    rintro _ x rfl F;rw[s0];have:ba (91::dB e.lo++[45]++dB e.U)++bJ #[93]=ba (91::dB e.lo++[45]++dB e.U++[93]):=by show _++ba [93]=_;rw[dF]
    refine⟨_,rfl,?_,?_,?_,F.fr⟩
    .rw [cS,cS];simp only[a7,db,fC];show ¬(((_:Nat):Int)>9223372036854775807);omega
    .rw [dF,cS];simp only[a7,db,fC];show ¬(((_+1:Nat):Int)>9223372036854775807);omega
    .rw [dF,this,e2,af (λj=>aF (by rw[j]))];simp
  .have z:=ar (.inl B);have e6:bb e.rx=33::jq (dm 3 (I.au e.l)):=by rw[M];unfold bb;rw[af Q,af Z,af S,aj B]
   have e3:(3:Int)=(cM e.rx:Int):=by rw[aq,aj B];rfl
   match eh:e.l,z with
   |[a],_=>
    have w:a∈e.l:=by rw[eh];simp
    have ax:=I.eg w;refine ia (show e.P q from h.getD 0) (k:=0) rfl (by rw[eh];rfl) (one a 3 q _ _ _ (by omega) w h λE y=>⟨?_,?_,y.fr⟩)
    .have:=av a 3 (by omega);rw[cS];show ¬(((1+_:Nat):Int)>9223372036854775807);omega
    .have:bJ #[33]++ba (cO 3 a.rx (bb a.rx))=ba (33::cO 3 a.rx (bb a.rx)):=by show ba [33]++_=_;rw[dF];rfl
     rw[this,e6,eh,<-e3];rfl
  .have z:=ar (.inr T);have e7:bb e.rx=jq (dm 4 (I.au e.l))++[42]:=by rw[M];unfold bb;rw[af Q,af Z,af S,af B,aj T]
   match eh:e.l,z with
   |[a],_=>
    have w:a∈e.l:=by rw[eh];simp
    have ax:=I.eg w;refine ia (show e.P q from h.getD 0) (k:=0) rfl (by rw[eh];rfl) (one a 4 q _ _ _ (by omega) w h λE y=>⟨?_,?_,y.fr⟩)
    .have:=av a 4 (by omega);rw[cS];show ¬(((_+1:Nat):Int)>9223372036854775807);omega
    .have:ba (cO 4 a.rx (bb a.rx))++bJ #[42]=ba (cO 4 a.rx (bb a.rx)++[42]):=by show _++ba [42]=_;rw[dF]
     rw[this,e7,eh,<-O (.inr (.inl T)) B];rfl
  have hk:e.k=3\/e.k=4\/e.k=5:=by omega
  have S1:∀(word sign:BL) (level:Nat),word.length=3->qC e.k=word++[40]->gG e.k=sign->level<=2->(2<=e.l.length->cM e.rx=level)->pc.bT D e.k e.lo.toNat e.U.toNat e.s (ba word) (ba sign) (level:Int) q R:=by
   intro word sign level hw aI aw a0 ab;have ef:e.l.length<2->bb e.rx=qC e.k++(jq (dm 0 (I.au e.l))++[41]):=λj=>by rw[M];unfold bb;rw[af Q,af Z,af S,af B,af T,aj (by rw[ad];omega)]
   refine aL (λh0=>?_) (λh0=>aL (λz=>?_) (λz=>?_))
   .have hx:e.l=[]:=List.length_eq_zero_iff.1 (by omega);refine⟨?_,?_,h.fr⟩
    .rw [cS];show ¬(((_+2:Nat):Int)>9223372036854775807);omega
    .have:ba word++bJ #[40,41]=ba (word++[40,41]):=by show _++ba [40,41]=_;rw[dF]
     rw[this,<-O (.inr (.inr (by omega))) B,ef (by omega),aI,hx];simp[I.au,dm,jq]
   .match eh:e.l with
    |[]=>rw[eh]at nr;simp at nr;omega
    |_::_::_=>rw[eh]at nr;simp at nr;omega
    |[a]=>
     have w:a∈e.l:=by rw[eh];simp
     have ax:=I.eg w;have hp:=av a 0 (by omega);refine⟨?_,ia (show e.P q from h.getD 0) (k:=0) rfl (by rw[eh];rfl) (one a 0 q _ _ _ (by omega) w h λE y=>⟨?_,?_,?_,y.fr⟩)⟩
     .rw [cS];show ¬(((_+1:Nat):Int)>9223372036854775807);omega
     .have:ba word++bJ #[40]=ba (word++[40]):=by show _++ba [40]=_;rw[dF]
      rw[this,cS,cS];simp only[a7,db,fC];show ¬(((_:Nat):Int)>9223372036854775807);omega
     .have:ba word++bJ #[40]++ba (cO 0 a.rx (bb a.rx))=ba (word++[40]++cO 0 a.rx (bb a.rx)):=by show _++ba [40]++_=_;rw[dF,dF]
      rw[this,cS];simp only[a7,db,fC];show ¬(((_+1:Nat):Int)>9223372036854775807);omega
     .have:ba word++bJ #[40]++ba (cO 0 a.rx (bb a.rx))++bJ #[41]=ba (word++[40]++cO 0 a.rx (bb a.rx)++[41]):=by show _++ba [40]++_++ba [41]=_;rw[dF,dF,dF]
      rw[this,<-O (.inr (.inr (by rw[eh];simp))) B,ef (by rw[eh];simp),aI,eh];simp[I.au,dm,jq]
   .have A:2<=e.l.length:=by omega
    have ab:=ab A;have ej:bb e.rx=xV e.k (dm (level+1) (I.au e.l)):=by
     conv=>lhs;rw[M];unfold bb;rw[af Q,af Z,af S,af B,af T,af (by rw[ad];omega)]
     rw[<-I.e0,ab]
    have a2:sign.length<=1:=by rw[<-aw];unfold gG;split<;>(try split)<;>simp
    have loop:∀(d i:Nat) (out:BL) (E:J),i+d=e.l.length->(1<=i->0<out.length)->(i=0->out=[])->out.length+gS (dm (level+1) (I.au (e.l.drop i)))<=40000000->bb e.rx=(if i=0 then xV e.k (dm (level+1) (I.au (e.l.drop i)))else iW e.k out (dm (level+1) (I.au (e.l.drop i))))->LH F0 C E [.g D] [.tree e]->
      pc.je D e.k e.lo.toNat e.U.toNat e.s (ba sign) (level:Int) (ba out) e.s ((e.s.n:Nat):Int) (i:Int) E R:=by
     intro d;induction d with
     |zero=>
      intro i out E hi al hz am N y;refine pc.lR _ _ _ _ _ _ _ _ _ _ _ _ _ (a1 (aV (by omega)) ⟨?_,y.fr⟩);rw[N,dC (by omega),af (by omega),ab];rfl
     |succ d aX=>
      intro i out E hi al hz am N y;have hg:e.l[i]? =some (e.l[i]'(by omega)):=a6 (by omega);have aA:e.l.drop i=(e.l[i]'(by omega))::e.l.drop (i+1):=dy (by omega);generalize e.l[i]'(by omega)=c at hg aA;have hc:=aE hg;have a4:=I.eg hc;rw[aA]at N am;have am:out.length+((cO (level+1) c.rx (bb c.rx)).length+2+gS (dm (level+1) (I.au (e.l.drop (i+1)))))<=40000000:=by
       have:gS (dm (level+1) (I.au (c::e.l.drop (i+1))))=(cO (level+1) c.rx (bb c.rx)).length+2+gS (dm (level+1) (I.au (e.l.drop (i+1)))):=by simp[I.au,dm,gS]
       omega
      have aO:0<(cO (level+1) c.rx (bb c.rx)).length:=by have z:=zK c.rx (aC c hc);have:=(qM (level+1) c.rx (bb c.rx)).2;omega
      have aN:ao .i64 ((level:Int)+1)=((level+1:Nat):Int):=bd _ (by omega);have aB:i=0->bb e.rx=iW e.k (cO (level+1) c.rx (bb c.rx)) (dm (level+1) (I.au (e.l.drop (i+1)))):=λj=>by rw[aj j]at N;rw[N];rfl
      have G:i≠0->bb e.rx=iW e.k ((if e.k=3/\ez (jY out)=true/\ez (gQ (cO (level+1) c.rx (bb c.rx)) 0)=true then out++[32]else out)++gG e.k++cO (level+1) c.rx (bb c.rx)) (dm (level+1) (I.au (e.l.drop (i+1)))):=λj=>by rw[af j]at N;rw[N];rfl
      refine pc.lR _ _ _ _ _ _ _ _ _ _ _ _ _ (a3 (aP (by omega)) (ia (show e.P E from y.getD 0) rfl hg (y.aJ λb9 w4 H4=>H4.ai λw5 H5=>?_)));rw[aN];refine one c (level+1) w5 _ _ _ (by omega) hc H5 λW H=>?_;have H:LH F0 C W [.g D,.g b9] [.tree e]:=H;generalize cO (level+1) c.rx (bb c.rx)=t at aB G am aO;have go:∀(o:BL) (x:J),o.length<=out.length+1->out.length<=o.length->bb e.rx=iW e.k (o++t) (dm (level+1) (I.au (e.l.drop (i+1))))->LH F0 C x [.g D,.g b9] [.tree e]->pc.cJ D e.k e.lo.toNat e.U.toNat e.s (ba sign) (level:Int) (ba o) (ba t) e.s ((e.s.n:Nat):Int) (i:Int) x R:=by
       intro o x z A h3 F;refine⟨?_,?_⟩
       .rw [cS,cS];show ¬(((_:Nat):Int)>9223372036854775807);omega
       .rw [dF,bd _ (by omega)];refine aX (i+1) (o++t) x (by omega) (λ_=>by simp only[a7];omega) (λj=>by omega) (by simp only[a7];omega) (by rw[af (by omega)];exact h3) (F.take 1)
      refine aG (λaQ=>⟨?_,?_⟩) (λaQ=>go out W (by omega) (bg _) (by rw[hz (by omega)];exact aB (by omega)) H)
      .rw [cS,cS];show ¬(((_:Nat):Int)>9223372036854775807);omega
      have G:=G (by omega);have al:=al (by omega);rw[aw]at G;have ea:ba out++ba sign=ba (out++sign):=dF _ _;have an:∀x,LH F0 C x [.g D,.g b9] [.tree e]->¬(e.k=3/\ez (jY out)=true/\ez (gQ t 0)=true)->pc.cJ D e.k e.lo.toNat e.U.toNat e.s (ba sign) (level:Int) (ba (out++sign)) (ba t) e.s ((e.s.n:Nat):Int) (i:Int) x R:=λx F aU=>go (out++sign) x (by simp only[a7];omega) (by simp only[a7];omega) (by rw[af aU]at G;exact G) F;rw[ea];refine aL (λac=>?_) (λac=>an W H (λj=>ac j.1));have s3:sign=[]:=by rw[<-aw];unfold gG;rw[aj ac]
      have e9:out++sign=out:=by rw[s3,List.append_nil]
      rw[e9]at an ⊢;have eo:ao .i64 ((((ba out).size:Nat):Int) - 1)=((out.length - 1:Nat):Int):=by rw[cS,aS _ (by omega)];omega
      rw[eo];refine⟨by omega,jY out,?_,H.ay (xn (jY out) W) ?_⟩
      .rw [bF,gk (s:=ba out) (by rw[cS];omega),mG,I6 out al]
      rintro _ x rfl F;refine⟨_,rfl,bD (λae=>⟨by omega,gQ t 0,?_,F.ay (xn (gQ t 0) x) ?_⟩) (λae=>an x F (λj=>by rw[Pm,j.2.1]at ae;cases ae))⟩
      .rw [show aZ 0=0 from rfl,gk (s:=ba t) (by rw[cS];omega),mG]
      rintro _ w8 rfl H8;refine⟨_,rfl,bD (λak=>⟨?_,?_⟩) (λak=>an w8 H8 (λj=>by rw[Pm,j.2.2]at ak;cases ak))⟩
      .rw [cS];show ¬(((_+1:Nat):Int)>9223372036854775807);omega
      .have aM:ba out++bJ #[32]=ba (out++[32]):=by show _++ba [32]=_;rw[dF]
       rw[aM];refine go (out++[32]) w8 (by simp) (by simp) ?_ H8;rw[aj ⟨ac,ae,ak⟩,s3,List.append_nil]at G;exact G
    have h3:=q8 (level+1) (I.au e.l);have Y:Rx.aY (I.au e.l)=I.aY e.l:=I.v' e.l;exact loop e.l.length 0 [] q (by omega) (λj=>by omega) (λ_=>rfl) (by rw[List.drop_zero];simp;omega) (by rw[aj rfl,List.drop_zero];exact ej) h
  have ap:2<=e.l.length->cM e.rx=if e.k=3 then 2 else if e.k=4 then 0 else 1:=λA=>by rw[aq,af B,af (by omega)]
  refine aL (λY=>S1 [97,108,116] [124] 0 rfl (by rw[Y];rfl) (by rw[Y];rfl) (by omega) (λA=>by rw[ap A,Y];rfl)) (λY=>aL (λh5=>S1 [97,108,108] [38] 1 rfl (by rw[h5];rfl) (by rw[h5];rfl) (by omega) (λA=>by rw[ap A,h5];rfl)) (λh5=>S1 [99,97,116] [] 2 rfl (by rw[show e.k=3 by omega];rfl) (by rw[show e.k=3 by omega];rfl) (by omega) (λA=>by rw[ap A,show e.k=3 by omega];rfl)))
def XS(x:I)(d:Nat)(w:J)(h:x.sz<=1000000)(e:d<=1000)(j:h8 x.rx=true)(k:x.P w):ak aa ym #[x.v,.i (d:Int)] w λr q=>r=ag (.string (ba (cO d x.rx (bb x.rx))))/\ah w q:=Nl (bg _) (Nj 1000000 (bg _)) x d w h e j k
def Wf:(List.range 1728).all (λd=>Nat.ble (lI d).length 64)=true:=by kernel_rfl
def Ql(k:Nat):(lI k).length<=64:=by rw[Qk];exact Nat.le_of_ble_eq_true (fi.1 Wf (k%1728) (List.mem_range.2 (Nat.mod_lt _ (by omega))))
def ko(V k:Nat)(w:J):Prop:=w.heap[V]? =some (.cells #[.i (k:Int)] bR (0,0))
def GF{V k:Nat}{w:J}(h:ko V k w):w.cell? (ae V)=some (.i (k:Int)):=by
 have:=cellAt (p:=ae V) (i:=0) (v:=.i (k:Int)) h rfl rfl
 rwa[iS]at this
abbrev m'(s:Sl)(l:List I):I:=.mk 0 0 0 s l
def EI{M:Nat->Prop}{t:I}{w Y:J}(h:t.P w)(f:Fr M w Y)(e:∀b∈t.fp,¬M b):t.P Y:=I.cb t (λb d j=>f.cb b j (e b d)) h
section
variable {s:Sl} {l:List I} {V:Nat}
def AR(M:I.aY l<=1000000)(Q:V∉(m' s l).fp)(i j k:Nat)(S:k<=100)(U:i<l.length)(L:j<l.length){w:J}(K:(m' s l).P w)(x:ko V k w):
  ak aa LS #[s.v,.i (i:Int),.i (j:Int),.pointer (some (ae V)),.func (.func cd) #[] #[]] w λr C=>(∃a b z:Nat,r=ag (.tuple #[.i (a:Int),.i (b:Int)])/\(a=i/\b=j\/a=j/\b=i)/\z<=k+1/\ko V z C)/\Fr (·=V) w C:=by
 have h:l[i]? =some l[i]:=a6 U;have q:l[j]? =some l[j]:=a6 L;generalize l[i]=a at h;generalize l[j]=b at q;have N:=aE h;have B:=aE q;have d:ah w w.drew:=Fr.drew _ _;have e:=K.bw d;refine Pg.ok _ _ _ _ w _ (ia e rfl q (ia e rfl h ?_));refine(xj b a w.drew (a8 (I.eg B) M) (e.parts.2.mem B) (e.parts.2.mem N)).mono ?_;rintro _ O ⟨rfl,f⟩;have A:=lt_of_heap x;have y:ko V k O:=by unfold ko at x ⊢;rw[f.cb V (kP A d.size) id,d.cb V A id];exact x
 refine⟨_,rfl,aG (λ_=>?_) (λ_=>⟨⟨i,j,k,rfl,.inl ⟨rfl,rfl⟩,Nat.le_succ _,y⟩,(d.dD f).nZ⟩)⟩;obtain⟨D,E,F,G⟩:=tk y 0 (by simp) (.i (((k+1:Nat)):Int));rw[iS]at D E F G;refine⟨(k:Int),GF y,D,E,?_⟩;rw[bd _ (by omega)];exact⟨⟨j,i,k+1,rfl,.inr ⟨rfl,rfl⟩,bg _,by unfold ko;rw[F];rfl⟩,(d.dD f).nZ.trans G λT _ H=>H⟩
end
def ml{α:Type}{O:List α}{i j:Nat}{a b:α}(U:O[i]? =some a)(x:O[j]? =some b)(d:Nat):((O.set i b).set j a)[d]? =if d=j then some a else if d=i then some b else O[d]?:=by
 have q:=(bO.1 U).1;have w:=(bO.1 x).1;rw[List.getElem?_set,i3,List.getElem?_set];by_cases e:d=j
 .subst e;simp[w]
 .rw [af (show ¬j=d from λk=>e k.symm),af e];by_cases h:d=i
  .subst h;simp[q]
  .rw [af (show ¬i=d from λk=>h k.symm),af h]
def PO{α:Type}{O:List α}{i j:Nat}{a b:α}(U:O[i]? =some a)(h:O[j]? =some b):((O.set i b).set j a).Perm O:=by obtain⟨d,rfl⟩:=bO.1 U;obtain⟨e,rfl⟩:=bO.1 h;exact List.set_set_perm d e
abbrev nB(d x:I):Prop:=a4 x.rx d.rx<0
section
variable {s:Sl} {l:List I} {w:J}
abbrev Fl(s:Sl)(l:List I)(w d:J)(O:List I):Prop:=LH (·∈aw s) w d [.row aW 4 s (O.flatMap I.c)] [.trees l]
end
def Nu{w:J}{l m:List I}(h:I.Ps w l)(d:m.Perm l):I.Ps w m:=I.ib λt e=>h.mem (d.mem_iff.1 e)
def U3{l m:List I}(e:m.Perm l){b:Nat}(h:b∈I.a9 m):b∈I.a9 l:=by obtain⟨t,j,d⟩:=I.bM.1 h;exact I.bM.2 ⟨t,e.mem_iff.1 j,d⟩
def XZ{M:Nat->Prop}{l:List I}{w Y:J}(h:I.Ps w l)(f:Fr M w Y)(e:∀b∈I.a9 l,¬M b):I.Ps Y l:=I.keeps l (λb d j=>f.cb b j (e b d)) h
namespace Pd
noncomputable abbrev t0:=aA aa Tryz.f229 [] []
def ok:=aB t0 LQ [.s,.I,.r,.g cd 0 0]
end Pd
namespace wh
noncomputable abbrev t0:=aA aa Tryz.f217 [(3,ls [0,1,2,3,4,5,6,7,8,9,10,11,12,13,14,15])] []
abbrev P0:Ps:=[(0,.v [.s]),(8,.v [.I]),(9,.v [.I])]
noncomputable def L0:=bj t0 [0,1,2] P0
noncomputable abbrev t1:=bh L0
noncomputable abbrev S1:=ax t1 [2,1,1,2,2] P0
noncomputable abbrev t2:=az S1
def bE:=bm t2 L0
def ok:=aB t2 LX [.s,.I,.I,.g cd 0 0]
end wh
namespace Ph
noncomputable abbrev t0:=aA aa Tryz.f228 [(1,ls [0,1,2,3,4,5,6,7,8,9]),(2,ls [0,1,2,3,4,5,6,7,8,9]),(3,ls [0,1,2,3,4,5,6,7,8,9])] []
def ok:=aB t0 LZ [.r]
end Ph
namespace Pf
noncomputable abbrev t0:=aA aa Tryz.f227 [] []
def ok:=aB t0 CN [.I]
end Pf
namespace pj
noncomputable abbrev t0:=aA aa Tryz.f215 [(10,ls [0,1,2,3,4,5,6,7,8,9,10,11,12,13,14,15,16,17,18,19])] []
noncomputable def L1:=bj t0 [0,1,3,1,2] [(0,.v [.s]),(1,.v [.I]),(8,.v [.I]),(9,.v [.r]),(10,.v [.U]),(11,.v [.I])]
noncomputable abbrev t1:=bh L1
abbrev P0:Ps:=[(0,.v [.s]),(1,.v [.I]),(8,.v [.I]),(9,.v [.r]),(10,.v [.U]),(11,.v [.I]),(12,.v [.I])]
noncomputable abbrev S3:=ax t1 [2,2,1,2,3,1,2] P0
noncomputable abbrev t2:=az S3
noncomputable abbrev S2:=ax t2 [1,2,1,2,3,1,2] P0
noncomputable abbrev t3:=az S2
def fJ:=bm t3 L1
noncomputable abbrev S0:=ax t3 [1] [(0,.v [.s]),(1,.v [.I]),(8,.v [.I])]
noncomputable abbrev t4:=az S0
def ok:=aB t4 LM [.s,.I,.I,.g cd 0 0]
end pj
namespace tq
noncomputable abbrev t0:=aA aa Tryz.f226 [(3,ls [0,1,2,3,4,5,6,7,8,9,10,11,12,13,14,15,16,17,18,19,20,21]),(5,ls [0,1,2,3,4,5,6,7,8,9,10,11,12,13,14,15]),(6,ls [0,1,2,3,4,5,6,7,8,9,10,11,12,13,14,15,16,17,18,19,20,21,22,23])] []
noncomputable def L0:=bj t0 [0,1,1] [(0,.v [.s]),(2,.v [.I]),(3,.v [.I]),(4,.v [.g cd 0 0]),(10,.v [.I])]
noncomputable abbrev t1:=bh L0
abbrev P0:Ps:=[(0,.v [.s]),(2,.v [.I]),(3,.v [.I]),(4,.v [.g cd 0 0]),(10,.v [.I]),(11,.v [.I])]
noncomputable abbrev S2:=ax t1 [3,3,1] P0
noncomputable abbrev t2:=az S2
noncomputable abbrev S1:=ax t2 [1,3,1] P0
noncomputable abbrev t3:=az S1
def bE:=bm t3 L0
def ok:=aB t3 LY [.s,.I,.I,.I,.g cd 0 0]
end tq
namespace n8
noncomputable abbrev t0:=aA aa Tryz.f214 [(10,ls [0,1,2,3,4,5,6,7,8,9,10,11,12,13,14,15,16,17,18,19])] []
noncomputable def L1:=bj t0 [0,1,1,1,3] [(0,.v [.s]),(3,.v [.g cd 0 0]),(8,.v [.I]),(9,.v [.I]),(10,.v [.I]),(11,.v [.I])]
noncomputable abbrev t1:=bh L1
noncomputable def L2:=bj t1 [0,1,5] [(0,.v [.s]),(3,.v [.g cd 0 0]),(8,.v [.I]),(9,.v [.I]),(12,.v [.I])]
noncomputable abbrev t2:=bh L2
def kU:=bm t2 L2
def fJ:=bm t2 L1
noncomputable abbrev S0:=ax t2 [3] [(0,.v [.s]),(3,.v [.g cd 0 0]),(8,.v [.I]),(9,.v [.I]),(10,.v [.I])]
noncomputable abbrev t3:=az S0
def ok:=aB t3 LO [.s,.I,.I,.g cd 0 0]
end n8
namespace nj
noncomputable abbrev t0:=aA aa Tryz.f219 [(1,ls [0,1,2,3,4,5,6,7,8,9,10,11,12,13,14,15]),(3,ls [0,1,2,3,4,5,6,7,8,9,10,11,12,13,14,15,16]),(5,ls [0,1,2,3,4,5,6,7,8,9,10,11,12,13,14,15]),(8,ls [0,1,2,3,4,5,6,7,8,9,10,11,12,13,14,15])] []
abbrev P0:Ps:=[(0,.v [.s]),(1,.v [.I]),(4,.v [.g cd 0 0]),(11,.v [.I]),(12,.v [.I])]
noncomputable def L0:=bj t0 [0,2,3] P0
noncomputable abbrev t1:=bh L0
noncomputable def L1:=bj t1 [0,6,3] P0
noncomputable abbrev t2:=bh L1
noncomputable def L2:=bj t2 [0,2,1,4,3] P0
noncomputable abbrev t3:=bh L2
noncomputable abbrev S4:=ax t3 [5,4,3] P0
noncomputable abbrev t4:=az S4
noncomputable abbrev S3:=ax t4 [2,4,3] P0
noncomputable abbrev t5:=az S3
def kU:=bm t5 L2
def fJ:=bm t5 L1
def bE:=bm t5 L0
def ok:=aB t5 LW [.s,.I,.I,.I,.g cd 0 0]
end nj
structure Sq(s:Sl)(l:List I)(w w1:J)(O:List I):Prop where
 H:Fl s l w w1 O
 p:O.Perm l
namespace Sq
variable {s:Sl} {l O:List I} {w w1:J}
def len(h:Sq s l w w1 O):O.length=l.length:=h.p.length_eq
def n(h:Sq s l w w1 O):s.n=l.length:=by have d:=(h.H.get 0:aK w1 aW 4 s (O.flatMap I.c)).len;rw[oO I.c 4 I.jj]at d;have:=h.len;omega
def dr(h:Sq s l w w1 O){K:J->Prop}(j:∀d,Sq s l w d O->K d):k4 w1 K:=h.H.dr λd e=>j d ⟨e,h.p⟩
def fr(h:Sq s l w w1 O):Fr (·∈aw s) w w1:=h.H.fr
def cmp(h:Sq s l w w1 O)(S:I.aY l<=1000000){i j:Nat}{x y:I}{X e:Int}(U:O[i]? =some x)(q:O[j]? =some y)(N:X=(i:Int))(P:e=(j:Int)){K:Int->J->Prop}(Q:∀d,Sq s l w d O->K (a4 x.rx y.rx) d):
  e8 s X λp=>fM w1 (p.add (aZ X *4)) λB C D E=>e8 s e λV=>fM w1 (V.add (aZ e *4)) λF G L M=>qd cd #[.agg #[.i B,.int .u8 C,.int .u8 D,E.v],.agg #[.i F,.int .u8 G,.int .u8 L,M.v]] w1 K:=by have z:x∈l:=h.p.mem_iff.1 (aE U);have T:y∈l:=h.p.mem_iff.1 (aE q);have k:I.Ps w1 l:=h.H.getD 0;refine h.H.el 0 i N U (h.H.el 0 j P q ?_);refine h.H.call (xj x y w1 (a8 (I.eg z) S) (k.mem z) (k.mem T)) ?_;rintro _ d rfl A;exact⟨_,rfl,Q d ⟨A,h.p⟩⟩
def swap(h:Sq s l w w1 O){i j:Nat}{x y:I}{X d:Int}(U:O[i]? =some x)(k:O[j]? =some y)(A:X=(i:Int))(B:d=(j:Int)){K:J->Prop}(T:∀z,Sq s l w z ((O.set j x).set i y)->K z):
  k4 w1 λw1=>e8 s X λp=>fM w1 (p.add (aZ X *4)) λE F G L=>e8 s d λq=>fM w1 (q.add (aZ d *4)) λM N P Q=>
   e8 s d λq=>kJ w1 (q.add (aZ d *4)) (.i E) (.int .u8 F) (.int .u8 G) (L.v) λW=>e8 s X λp=>kJ W (p.add (aZ X *4)) (.i M) (.int .u8 N) (.int .u8 P) (Q.v) K:=by have Y:=(bO.1 U).1;have S:=(bO.1 k).1;refine h.H.dr λz e=>e.el 0 i A U (e.el 0 j B k (e.uR 0 j (t:=x) B S λZ C=>?_));refine C.uR 0 i (t:=y) (O:=O.set j x) A (by rw[i3];omega) λV D=>T V ⟨D,?_⟩;exact(PO k U).trans h.p
end Sq
def Sg(a b:Nat)(O e:List I):Prop:=e.Perm O/\∀d,d<a\/b<=d->e[d]? =O[d]?
namespace Sg
variable {a b:Nat} {O us vs:List I}
def refl(a b:Nat)(O:List I):Sg a b O O:=⟨.refl _,λ_ _=>rfl⟩
def trans(h:Sg a b O us)(k:Sg a b us vs):Sg a b O vs:=⟨k.1.trans h.1,λe d=>(k.2 e d).trans (h.2 e d)⟩
def wide(h:Sg a b O us){c d:Nat}(j:c<=a)(k:b<=d):Sg c d O us:=⟨h.1,λe q=>h.2 e (by omega)⟩
def len(h:Sg a b O us):us.length=O.length:=h.1.length_eq
def swap{i j:Nat}{x y:I}(U:O[i]? =some x)(d:O[j]? =some y)(h:a<=i/\i<b/\a<=j/\j<b):Sg a b O ((O.set j x).set i y):=
 ⟨PO d U,λk e=>by rw[ml d U,af (by omega),af (by omega)]⟩
def Y0(h:Sg a b O us)(x:a<=b)(y:b<=O.length):((us.take b).drop a).Perm ((O.take b).drop a):=by
 have z:=h.len;have q:us.take a=O.take a:=by
  apply List.ext_getElem?;intro j;rw[jw,jw];split
  .exact h.2 j (by omega)
  .rfl
 have w:us.drop b=O.drop b:=by apply List.ext_getElem?;intro j;rw[jv,jv];exact h.2 _ (by omega)
 have d:∀l:List I,l=l.take a++((l.take b).drop a++l.drop b):=λl=>by
  have k:l.take a=(l.take b).take a:=by rw[List.take_take];congr 1;omega
  rw[<-cp,k,lu,lu]
 have e:=h.1;rw[d us,d O,q,w]at e;exact(List.perm_append_right_iff _).1 ((List.perm_append_left_iff _).1 e)
def mem(h:Sg a b O us)(e:a<=b)(k:b<=O.length){j:Nat}{y:I}(w:us[j]? =some y)(A:a<=j)(B:j<b):∃i,a<=i/\i<b/\O[i]? =some y:=by have x:y∈(us.take b).drop a:=aE (i:=j - a) (by rw[jv,jw,aj (by omega),show a+(j - a)=j by omega];exact w);have z:=(h.Y0 e k).mem_iff.1 x;obtain⟨i,d⟩:=List.mem_iff_getElem?.1 z;have q:=(bO.1 d).1;simp at q;rw[jv,jw,aj (by omega)]at d;exact⟨a+i,by omega,by omega,d⟩
end Sg
def kV(O:List I)(i j:Nat):Prop:=∀d e,O[i]? =some d->O[j]? =some e->a4 d.rx e.rx<=0
def jf(a b:Nat)(O:List I):Prop:=∀i d,a<=i->i<d->d<b->kV O i d
def lT(a b:Nat)(O:List I):Prop:=∀d,a<=d->d<b->0<a->kV O (a - 1) d
def qw{x y z:Rx}(d:a4 x y<=0)(e:a4 y z<=0):a4 x z<=0:=(uI x y z).le d e
def o1{x y:Rx}(h:¬a4 x y<0):a4 y x<=0:=by have:=jk x y;omega
def lT.sg{a b:Nat}{O e:List I}(h:lT a b O)(k:Sg a b O e)(x:b<=O.length):lT a b e:=by intro E q w j C D d z;obtain⟨i,A,B,y⟩:=k.mem (by omega) x z q w;rw[k.2 _ (by omega)]at d;exact h i A B j C D d y
def Zl{O:List I}(h:jf 0 O.length O):ka (O.map I.rx):=by unfold ka;rw[List.pairwise_map,List.pairwise_iff_getElem];intro i k e d j;exact h i k (by omega) j d _ _ (a6 e) (a6 d)
section
variable {s:Sl} {l O:List I} {w w1:J}
def Sq.lt(h:Sq s l w w1 O)(j:I.aY l<=1000000):O.length<=1000000/\s.n=O.length:=by have:=I.fq l;have d:=h.n;have e:=h.len;omega
def ed{O:List I}{i:Nat}(h:i<O.length):∃d,O[i]? =some d:=⟨O[i],a6 h⟩
def Yc(h:Sq s l w w1 O)(F:I.aY l<=1000000){a b:Nat}(K:a<b)(L:b<=O.length):
  ak aa LX #[s.v,.i (a:Int),.i (b:Int),.func (.func cd) #[] #[]] w1 λr k=>r=ag (.tuple #[])/\∃d,Sq s l w k d/\Sg a b O d:=by
 have Q:=(h.lt F).1;have loop:∀(D i j:Nat) (d:List I) (e:J),j - i<D->a<=i->i<=j+1->j<b->Sq s l w e d->Sg a b O d->wh.L0 s (i:Int) (j:Int) e λr k=>r=ag (.tuple #[])/\∃d,Sq s l w k d/\Sg a b O d:=by
  intro D;induction D with
  |zero=>intro i j d e C;omega
  |succ D G=>
   intro i j d e C M N P q g;have hlen:=g.len;refine wh.bE _ _ _ _ _ (aG (λE=>?_) (λE=>⟨rfl,d,q,g⟩));obtain⟨T,y⟩:=ed (O:=d) (i:=j) (by omega);obtain⟨S,x⟩:=ed (O:=d) (i:=i) (by omega);refine q.swap y x rfl rfl λH B=>?_;show wh.L0 _ _ _ _ _;have A:ao .i64 ((j:Int) - 1)=((j - 1:Nat):Int):=by rw[aS _ (by omega)];omega
   rw[bd _ (by omega),A];exact G (i+1) (j - 1) _ H (by omega) (by omega) (by omega) (by omega) B (g.trans (Sg.swap y x (by omega)))
 have z:ao .i64 ((b:Int) - 1)=((b - 1:Nat):Int):=by rw[aS _ (by omega)];omega
 refine wh.ok _ _ _ w1 _ ?_;rw[z];exact loop (b - 1 - a+1) a (b - 1) O w1 (by omega) (bg _) (by omega) (by omega) h (Sg.refl _ _ _)
def Sq.tree(h:Sq s l w w1 O):(m' s O).P w1:=by unfold m' I.P;exact⟨(h.H.get 0:aK w1 aW 4 s (O.flatMap I.c)).bc,Nu (h.H.getD 0) h.p⟩
def Sq.bw(h:Sq s l w w1 O){d:J}(f:ah w1 d):Sq s l w d O:=⟨h.H.bw f,h.p⟩
def NK{V:Nat}(q:I.aY O<=1000000)(d:V∉(m' s O).fp)(a b c k:Nat)(hk:k<=90)(K:a<O.length)(L:b<O.length)(M:c<O.length){w:J}(j:(m' s O).P w)(N:ko V k w):
  ak aa LR #[s.v,.i (a:Int),.i (b:Int),.i (c:Int),.pointer (some (ae V)),.func (.func cd) #[] #[]] w λr A=>(∃m z:Nat,r=ag (.i (m:Int))/\(m=a\/m=b\/m=c)/\z<=k+3/\ko V z A)/\Fr (·=V) w A:=by have x:∀B∈(m' s O).fp,¬B=V:=λB U G=>d (G▸U);refine Pe.ok _ _ _ _ _ w _ ((AR q d a b k (by omega) K L j N).mono ?_);rintro _ w1 ⟨⟨C,D,W,rfl,h1,ab,Q⟩,e⟩;refine⟨_,_,rfl,(AR q d D c W (by omega) (by omega) M (EI j e x) Q).mono ?_⟩;rintro _ w2 ⟨⟨E,c2,Y,rfl,h2,ac,S⟩,y⟩;refine⟨_,_,rfl,(AR q d C E Y (by omega) (by omega) (by omega) (EI (EI j e x) y x) S).mono ?_⟩;rintro _ w3 ⟨⟨a3,F,Z,rfl,h3,ad,T⟩,H⟩;exact⟨_,_,rfl,⟨F,Z,rfl,by omega,by omega,T⟩,(e.trans y λ_ _ h=>h).trans H λ_ _ h=>h⟩
def Yb(h:Sq s l w w1 O)(V:I.aY l<=1000000){a b:Nat}(ai:a+12<b)(hb:b<=O.length):
  ak aa LN #[s.v,.i (a:Int),.i (b:Int),.func (.func cd) #[] #[]] w1 λr z=>∃(p:Nat) (k:Int),r=ag (.tuple #[.i (p:Int),.i k])/\a<=p/\p<b/\Sq s l w z O:=by
 have hl:=(h.lt V).1;have W:I.aY O<=1000000:=by rw[Ey h.p];exact V
 have G:=h.tree;obtain⟨L,hL⟩:∃L,L=b - a:=⟨_,rfl⟩;have eL:ao .i64 ((b:Int) - (a:Int))=(L:Int):=by rw[aS _ (by omega)];omega
 have eq:∀k:Nat,k<=3->ao .i64 ((a:Int)+ao .i64 (ao .i64 (bN (L:Int) 4) *(k:Int)))=((a+L / 4 *k:Nat):Int):=λk M=>by
  have q:bN (L:Int) 4=((L / 4:Nat):Int):=rfl;have S:L / 4 *k<=L:=a8 (Nat.mul_le_mul_left _ (by omega:k<=4)) (Nat.div_mul_le_self L 4);rw[q,aS ((L / 4:Nat):Int) (by omega)];have C:((L / 4:Nat):Int) *(k:Int)=((L / 4 *k:Nat):Int):=by rw[Int.natCast_mul]
  rw[C,aS ((L / 4 *k:Nat):Int) (by omega),aS _ (by omega)];omega
 have q1:=eq 1 (by omega);have q2:=eq 2 (by omega);have q3:=eq 3 (by omega);refine zc.ok _ _ _ w1 _ ?_;have Q:ah w1 (w1.alloc (.cells #[.i 0] bR)):=Fr.alloc _ _ _;have T:ko w1.heap.size 0 (w1.alloc (.cells #[.i 0] bR)):=jV w1 _;have H:w1.heap.size∉(m' s O).fp:=λh=>absurd (I.lt _ G _ h) (by omega);have nd:∀P∈(m' s O).fp,¬P=w1.heap.size:=λP U B=>H (B▸U);have fin:∀{d:J} {p k:Nat},a<=p->p<b->ko w1.heap.size k d->ah w1 d->zc.S5 (ae w1.heap.size) (p:Int) d λr z=>∃(p:Nat) (k:Int),r=ag (.tuple #[.i (p:Int),.i k])/\a<=p/\p<b/\Sq s l w z O:=λ{d p k} E F x f=>
  ⟨(k:Int),GF x,bD (λ_=>⟨p,1,rfl,E,F,h.bw f⟩) λ_=>bD (λ_=>⟨p,2,rfl,E,F,h.bw f⟩) λ_=>⟨p,0,rfl,E,F,h.bw f⟩⟩
 have new:∀{d e:J},ah w1 d->Fr (·=w1.heap.size) d e->ah w1 e:=λf g=>f.trans g λP U B=>by subst B;omega
 rw[eL];show bn (aq ((L:Int)>=8)) (bn (aq ((L:Int)>=50)) _ _) _;have ac:ao .i64 ((a:Int)+ao .i64 (ao .i64 (bN (L:Int) 4) *1))=((a+L / 4 *1:Nat):Int):=q1;have ad:ao .i64 ((a:Int)+ao .i64 (ao .i64 (bN (L:Int) 4) *2))=((a+L / 4 *2:Nat):Int):=q2;have af:ao .i64 ((a:Int)+ao .i64 (ao .i64 (bN (L:Int) 4) *3))=((a+L / 4 *3:Nat):Int):=q3;rw[ac,ad,af];have Y:∀{d:J} {i j k n:Nat},n<=60->a<=i->i<b->a<=j->j<b->a<=k->k<b->ko w1.heap.size n d->ah w1 d->zc.S4 s (ae w1.heap.size) (i:Int) (j:Int) (k:Int) d λr z=>∃(p:Nat) (k:Int),r=ag (.tuple #[.i (p:Int),.i k])/\a<=p/\p<b/\Sq s l w z O:=by intro d i j k n hn i1 i2 j1 j2 k1 k2 x f;refine(NK W H i j k n (by omega) (by omega) (by omega) (by omega) (G.bw f) x).mono ?_;rintro _ e ⟨⟨m,y,rfl,S,M,N⟩,D⟩;exact⟨_,rfl,fin (by omega) (by omega) N (new f D)⟩
 have A:∀{d:J} {i n:Nat} {K:Int->J->Prop},n<=50->a+1<=i->i+1<b->ko w1.heap.size n d->ah w1 d->(∀(m y:Nat) (e:J),a<=m->m<b->y<=n+3->ko w1.heap.size y e->ah w1 e->K (m:Int) e)->qd LQ #[s.v,.i (i:Int),.pointer (some (ae w1.heap.size)),.func (.func cd) #[] #[]] d K:=by
  intro d i n K hn i1 i2 x f hK;have q:ao .i64 ((i:Int) - 1)=((i - 1:Nat):Int):=by rw[aS _ (by omega)];omega
  refine Pd.ok _ _ _ d _ ?_;rw[q,bd _ (by omega)];refine(NK W H (i - 1) i (i+1) n (by omega) (by omega) (by omega) (by omega) (G.bw f) x).mono ?_;rintro _ e ⟨⟨m,y,rfl,S,M,N⟩,D⟩;exact⟨_,rfl,_,rfl,hK m y e (by omega) (by omega) M N (new f D)⟩
 have d1:3<=L / 4:=by omega
 have d2:L / 4 *4<=L:=Nat.div_mul_le_self L 4;refine a3 (aP (by omega)) (aG (λab=>?_) (λab=>Y (by omega) (by omega) (by omega) (by omega) (by omega) (by omega) (by omega) T Q));refine A (by omega) (by omega) (by omega) T Q λm1 k1 d Z a2 aj c1 g1=>A (by omega) (by omega) (by omega) c1 g1 λm2 k2 e b1 b2 al c2 g2=>A (by omega) (by omega) (by omega) c2 g2 λm3 k3 w4 q C am c3 g3=>Y (by omega) Z a2 b1 b2 q C c3 g3
end
section
variable {s:Sl} {l O:List I} {w w1:J}
def Sq.of(h:Sq s l w w1 O){q:J}{k:List I}(A:aK q aW 4 s (k.flatMap I.c))(B:k.Perm O)(f:Fr (·∈aw s) w1 q):Sq s l w q k:=by
 have x:∀b∈I.a9 l,¬b∈aw s:=λb j z=>h.H.dj _ (bG.2 rfl) b (aO.2 j) _ (bG.2 rfl) z;refine⟨⟨h.H.fr.trans f λ_ _ h=>h,λe d=>?_,λe d=>?_,λe d=>?_,?_,λe d b j C y=>?_⟩,B.trans h.p⟩
 .cases bG.1 d;exact A
 .cases bG.1 d;exact XZ (h.H.getD 0) f x
 .cases bG.1 d;exact h.H.new (.row aW 4 s (O.flatMap I.c)) (bG.2 rfl)
 .exact h.H.nd
 .cases bG.1 y;exact h.H.dj e d b j (.row aW 4 s (O.flatMap I.c)) (bG.2 rfl)
def Sq.dj(h:Sq s l w w1 O):∀d∈aw s,d∉I.a9 O:=λd j e=>
 h.H.dj _ (bG.2 rfl) d (aO.2 (U3 h.p e)) _ (bG.2 rfl) j
def Sg.WR{A X e Z:List I}(h:e.Perm X):Sg A.length (A.length+X.length) (A++X++Z) (A++e++Z):=by
 have j:=h.length_eq;refine⟨(h.append_left A).append_right Z,λk d=>?_⟩;rw[cp,cp];rcases d with d|d
 .rw [Dw d,Dw d]
 .rw [vQ (by omega),vQ (by omega),vQ (by omega),vQ (by omega),j]
def Zm{A j Z:List I}(h:ka (j.map I.rx)):jf A.length (A.length+j.length) (A++j++Z):=by
 intro i w x y z B C d e;unfold ka at h;rw[List.pairwise_map,List.pairwise_iff_getElem]at h;rw[cp,vQ (by omega),Dw (by omega)]at d e;obtain⟨k,d⟩:=bO.1 d;obtain⟨q,e⟩:=bO.1 e;have:=h (i - A.length) (w - A.length) k q (by omega)
 rwa[d,e]at this
def X9(h:Sq s l w w1 O)(G:I.aY l<=1000000){a b:Nat}(M:a<=b)(N:b<=O.length):
  ak aa CM #[s.v,.i (a:Int),.i (b:Int),.func (.func cd) #[] #[]] w1 λr L=>r=ag (.tuple #[])/\∃q,Sq s l w L q/\Sg a b O q/\jf a b q:=by
 have K:I.aY O<=1000000:=by rw[Ey h.p];exact G
 obtain⟨d,y⟩:∃d,d=O.take a:=⟨_,rfl⟩;obtain⟨X,z⟩:∃X,X=(O.take b).drop a:=⟨_,rfl⟩;obtain⟨e,F⟩:∃e,e=O.drop b:=⟨_,rfl⟩;have j:d.length=a:=by rw[y,List.length_take];omega
 have k:d.length+X.length=b:=by rw[j,z,List.length_drop,List.length_take];omega
 have x:O=d++X++e:=by
  have D:d=(O.take b).take a:=by rw[y,List.take_take];congr 1;omega
  rw[D,z,lu,F,lu]
 have c:=Tm s O w1 K (h.H.get 0) (Nu (h.H.getD 0) h.p) h.dj d X e x b k.symm;rw[j]at c;refine c.mono ?_;rintro _ P ⟨⟨rfl,E⟩,C⟩;have B:=Zf X;have g:Sg a b O (d++fT X++e):=by have:=Sg.WR (A:=d) (Z:=e) B;rw[<-x,k,j]at this;exact this
 refine⟨rfl,_,h.of E g.1 C,g,?_⟩;have:=Zm (A:=d) (Z:=e) (Zd X);rw[B.length_eq,k,j]at this;exact this
end
end Go.Proofs.YthaledkcjibmfaaGreatDoor
