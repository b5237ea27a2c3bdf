import Derived.Test.YthaledkcjibmfaaGreatDoorPN
import Derived.Test.YthaledkcjibmfaaGreatDoorE2
import Derived.Test.YthaledkcjibmfaaGreatDoorR14
import Derived.Test.YthaledkcjibmfaaGreatDoorG9
import Derived.Test.YthaledkcjibmfaaGreatDoorU
import Derived.Test.YthaledkcjibmfaaGreatDoorWN
set_option linter.unusedVariables false
set_option maxRecDepth 100000
set_option maxHeartbeats 1000000
set_option linter.defProp false
namespace Go.Proofs.YthaledkcjibmfaaGreatDoor
open Go renaming World->J,Calls->ak,Value->ab,Ending->cr,FuncId->cD
open Go.IntKind renaming wrap->ao
open _root_.Int renaming toNat->aZ,tdiv->bN,toNat_natCast->bF
open _root_.ByteArray renaming mk->bJ
open Go.IntWalk renaming i64_in->aS
open _root_.Bool renaming and_eq_true->bf
open _root_.Nat renaming le_refl->bg,le_trans->a8,zero_le->dn
open _root_.BitVec renaming ofInt->eF
open Go.Proofs.Tryz renaming prog->aa
open _root_.Decidable renaming decide->aq
open Go.Ending renaming returned->ag
open List renaming mem_append->aX,mem_cons->av,not_mem_nil->aR,mem_of_getElem?->aE,getElem?_eq_getElem->a6,getElem?_eq_some_iff->bO,mem_map->ch,length_append->a7,length_cons->db,append_assoc->cp,mem_singleton->bG,flatMap_append->cy,flatMap_cons->b',mem_iff_getElem?->fQ,all_eq_true->fi,append_nil->dt,map_append->g2
open Go Go.W
section
variable {s:Sl} {l O us:List I} {w w1 w2:J}
def Sq.base(h:Sq s l w w1 O):Sq s l w1 w1 O:=⟨⟨Fr.refl _ _,h.H.own,h.H.rd,λj e b d=>.inr (by cases bG.1 e;exact d),h.H.nd,h.H.dj⟩,h.p⟩
def Sq.comp(h:Sq s l w w1 O)(k:Sq s l w1 w2 us):Sq s l w w2 us:=⟨⟨h.H.fr.trans k.H.fr λ_ _ h=>h,k.H.own,k.H.rd,λj e b d=>.inr (by cases bG.1 e;exact d),k.H.nd,k.H.dj⟩,k.p⟩
def Sq.BQ(h:Sq s l w w1 O){V:Nat}(x:V∉aw s)(y:V∉I.a9 l)(z:w.heap.size<=V)(f:Fr (·=V) w1 w2):Sq s l w w2 O:=by
 refine⟨⟨h.H.fr.trans f λB A d=>by omega,λd e=>?_,λd e=>?_,h.H.new,h.H.nd,h.H.dj⟩,h.p⟩
 .refine d.st w1 w2 (λb q k=>f.cb b k λj=>?_) (h.H.own d e);cases bG.1 e;exact x (j▸q)
 .refine d.st w1 w2 (λb q k=>f.cb b k λj=>?_) (h.H.rd d e);cases bG.1 e;exact y (j▸aO.1 q)
end
def Z8{t:ByteArray}{m:Nat}{K:UInt8->Prop}(h:(List.range 256).all (λm=>match t[m]? with |some b=>Nat.ble (2^b.toNat) (2 *m)||Nat.beq m 0|none=>false)=true)(k:m<256)(q:0<m)(j:∀b:UInt8,2^b.toNat<=2 *m->K b):∃b:UInt8,t[m]? =some b/\K b:=by
 have:=fi.1 h m (List.mem_range.2 k);split at this
 .rename_i b e;refine⟨b,e,j b ?_⟩;rcases(Bool.or_eq_true _ _).mp this with d|d
  .exact Nat.le_of_ble_eq_true d
  .have:=Nat.eq_of_beq_eq_true d;omega
 .cases this
def SM(x:Nat)(e:0<x)(M:x<4294967296)(w:J):ak aa CA #[.u (x:Int)] w λr A=>∃t:Nat,r=ag (.i (t:Int))/\2^t<=2 *x/\A=w:=by
 let h:aH:=λr A=>∃t:Nat,r=ag (.i (t:Int))/\2^t<=2 *x/\A=w
 have E:∀(y n:Nat),0<y->y<256->n<=100->y *2^n<=x->j0.S2 (y:Int) (n:Int) w h:=by
  intro y n e C H j;have F:ao .u8 (y:Int)=(y:Int):=by rw[IntKind.wrap_u8];omega
  show(0:Int)<=ao .u8 (y:Int)/\_;rw[F];refine⟨by omega,?_⟩;refine Z8 (by kernel_rfl) (show y<256 from C) (show 0<y from e) λb G=>?_;have L:=b.toNat_lt;have I:ao .i64 ((n:Int)+ao .i64 ((b.toNat:Nat):Int))=((n+b.toNat:Nat):Int):=by rw[aS ((b.toNat:Nat):Int) (by omega),aS _ (by omega)];omega
  refine⟨n+b.toNat,?_,?_,rfl⟩
  .rw [I]
  .rw [Nat.pow_add]
   calc 2^n *2^b.toNat<=2^n *(2 *y):=Nat.mul_le_mul_left _ G
    _=2 *(y *2^n):=by rw[Nat.mul_comm y,Nat.mul_left_comm]
    _<=2 *x:=Nat.mul_le_mul_left _ j
 have B:∀(y k:Nat),Int.fdiv (y:Int) ((k:Nat):Int)=((y / k:Nat):Int):=λy k=>by rw[Int.fdiv_eq_ediv_of_nonneg _ (by omega)];rfl
 have D:∀(y n:Nat),0<y->y<65536->n<=50->y *2^n<=x->j0.S1 (y:Int) (n:Int) w h:=by
  intro y n e C H j;refine aG (λd=>?_) (λd=>E y n e (by omega) (by omega) j);have q:ao .i64 ((n:Int)+8)=((n+8:Nat):Int):=by rw[aS _ (by omega)];omega
  have z:Int.fdiv (y:Int) (2^8)=((y / 256:Nat):Int):=B y 256;rw[q,z];refine E (y / 256) (n+8) (by omega) (by omega) (by omega) (a8 ?_ j);rw[Nat.pow_add,Nat.mul_comm (2^n),<-Nat.mul_assoc];exact Nat.mul_le_mul_right _ (Nat.div_mul_le_self y 256)
 have K:j0.S0 (x:Int) ((0:Nat):Int) w h:=by
  refine aG (λd=>?_) (λd=>D x 0 e (by omega) (by omega) (by omega));have q:ao .i64 (((0:Nat):Int)+16)=((16:Nat):Int):=by rw[aS _ (by omega)];rfl
  have z:Int.fdiv (x:Int) (2^16)=((x / 65536:Nat):Int):=B x 65536;rw[q,z];exact D (x / 65536) 16 (by omega) (by omega) (by omega) (Nat.div_mul_le_self x 65536)
 refine Ck.ok _ w _ ((j0.ok _ w h (a1 (aV (by omega)) K)).mono ?_);rintro _ N ⟨t,rfl,d,rfl⟩;exact⟨_,rfl,t,rfl,d,rfl⟩
def Tu(x:Nat)(k:0<x)(A:x<=1000000)(w:J):ak aa CN #[.i (x:Int)] w λr y=>∃m:Nat,r=ag (.u (m:Int))/\0<m/\m<=2 *x/\y=w:=by
 refine Pf.ok _ w _ ?_;have h:ao .u64 (x:Int)=(x:Int):=IntWalk.u64_in _ (by omega);rw[h];refine(SM x k (by omega) w).mono ?_;rintro _ B ⟨t,rfl,e,rfl⟩;have z:t<64:=by
  by_cases q:t<64
  .exact q
  .have:2^64<=2^t:=Nat.pow_le_pow_right (by omega) (by omega);omega
 have d:min (aZ (t:Int)) (IntKind.bits .u64)=t:=by show min t 64=t;omega
 have j:ao .u64 (1 *2^t)=((2^t:Nat):Int):=by
  have:(1 *2^t:Int)=((2^t:Nat):Int):=by rw[Int.one_mul];exact(Int.natCast_pow 2 t).symm
  rw[this];clear this d;generalize 2^t=p at e ⊢;exact IntWalk.u64_in _ (by omega)
 refine⟨_,rfl,by omega,2^t,?_,Nat.two_pow_pos t,e,rfl⟩;rw[d,j]
def RR(t:Int){m:Nat}(j:0<m)(h:m<4294967296):∃k:Nat,k<m/\kY .u64 t (ao .u64 ((m:Int) - 1))=(k:Int):=by
 have d:ao .u64 ((m:Int) - 1)=((m - 1:Nat):Int):=by rw[IntWalk.u64_in _ (by omega)];omega
 rw[d];unfold kY;have e:(eF (IntKind.bits .u64) t&&& eF (IntKind.bits .u64) ((m - 1:Nat):Int)).toNat<=m - 1:=by show(eF 64 t&&& eF 64 ((m - 1:Nat):Int)).toNat<=_;rw[BitVec.toNat_and,BitVec.ofInt_natCast,BitVec.toNat_ofNat,Nat.mod_eq_of_lt (by omega)];exact Nat.and_le_right
 exact⟨_,by omega,IntWalk.u64_in _ (by omega)⟩
def iD(V:Nat)(u:Int)(w:J):Prop:=w.heap[V]? =some (.cells #[.u u] EN (0,0))
section
variable {V:Nat} {u v:Int} {w Y:J}
def iD.ld(h:iD V u w):w.cell? (ae V)=some (.u u):=by
 have:=cellAt (p:=ae V) (i:=0) (v:=.u u) h rfl rfl
 rwa[iS]at this
def iD.fr{M:Nat->Prop}(h:iD V u w)(f:Fr M w Y)(d:¬M V):iD V u Y:=by unfold iD at h ⊢;rw[f.cb V (lt_of_heap h) d];exact h
def iD.st(h:iD V u w){K:J->Prop}(q:∀Y,iD V v Y->Fr (·=V) w Y->K Y):aQ w (ae V) (.u v) K:=by obtain⟨d,e,j,k⟩:=tk h 0 (by simp) (.u v);rw[iS]at d e j k;exact⟨d,e,q _ (by unfold iD;rw[j];rfl) k⟩
def iD.dr(h:iD V u w):iD V u w.drew:=h.fr (M:=F0) (Fr.drew _ w) id
def TN(h:iD V u w):ak aa LZ #[.pointer (some (ae V))] w λr Y=>∃t:Int,r=ag (.u t)/\iD V t Y/\Fr (·=V) w Y:=by refine Ph.ok _ w _ ?_;refine⟨_,h.dr.ld,_,h.dr.ld,h.dr.st λz e q=>⟨_,e.dr.ld,_,e.dr.ld,e.dr.st λA j x=>⟨_,j.dr.ld,_,j.dr.ld,j.dr.st λB k y=>⟨_,k.ld,_,rfl,k,?_⟩⟩⟩⟩;have d:∀w:J,Fr (·=V) w w.drew:=λw=>Fr.drew _ _;have tr:∀{a b c:J},Fr (·=V) a b->Fr (·=V) b c->Fr (·=V) a c:=λf g=>f.trans g λ_ _ h=>h;exact tr (tr (tr (d _) q) (tr (d _) x)) (tr (d _) y)
end
section
variable {s:Sl} {l O:List I} {w w1:J}
def X6(h:Sq s l w w1 O)(hz:I.aY l<=1000000){a b:Nat}(ai:a<=b)(hb:b<=O.length):
  ak aa LM #[s.v,.i (a:Int),.i (b:Int),.func (.func cd) #[] #[]] w1 λr x=>r=ag (.tuple #[])/\∃d,Sq s l w x d/\Sg a b O d:=by
 have hl:=(h.lt hz).1;obtain⟨L,hL⟩:∃L,L=b - a:=⟨_,rfl⟩;have Y:ao .i64 ((b:Int) - (a:Int))=(L:Int):=by rw[aS _ (by omega)];omega
 refine pj.ok _ _ _ w1 _ ?_;rw[Y];refine aG (λh8=>?_) (λ_=>⟨rfl,O,h,Sg.refl _ _ _⟩);have T:bN (L:Int) 4=((L / 4:Nat):Int):=rfl;have U:ao .i64 (ao .i64 (bN (L:Int) 4) *2)=((L / 4 *2:Nat):Int):=by rw[T,aS ((L / 4:Nat):Int) (by omega),aS _ (by omega)];omega
 have A:ao .i64 ((a:Int)+ao .i64 (ao .i64 (bN (L:Int) 4) *2))=((a+L / 4 *2:Nat):Int):=by rw[U,aS _ (by omega)];omega
 obtain⟨c,hc⟩:∃c,c=a+L / 4 *2:=⟨_,rfl⟩;rw[<-hc]at A;have V:ao .i64 ((c:Int)+1)=((c+1:Nat):Int):=bd _ (by omega);have W:ao .i64 ((c:Int) - 1)=((c - 1:Nat):Int):=by rw[aS _ (by omega)];omega
 obtain⟨e,P⟩:∃e,e=w1.heap.size:=⟨_,rfl⟩;have hd:e∉(m' s O).fp:=λj=>absurd (I.lt _ h.tree _ j) (by omega);have y:e∉aw s:=λj=>by have:=(En.row aW 4 s (O.flatMap I.c)).lt w1 (h.H.own _ (bG.2 rfl)) e j;omega
 have C:e∉I.a9 l:=λj=>by have:=(En.trees l).lt w1 (h.H.rd _ (bG.2 rfl)) e (aO.2 j);omega
 have F:w.heap.size<=e:=by have:=h.fr.size;omega
 have loop:∀(D idx m:Nat) (u:Int) (d:List I) (q:J),c+2 - idx<D->a<=idx->0<m->m<=2 *L->iD e u q->Sq s l w q d->Sg a b O d->pj.L1 s (a:Int) (L:Int) (ae e) (m:Int) (idx:Int) q λr x=>r=ag (.tuple #[])/\∃d,Sq s l w x d/\Sg a b O d:=by
  intro D;induction D with
  |zero=>intro idx m u d q hD;omega
  |succ D ih=>
   intro idx m u d q hD hi j E hu G g;have hlen:=g.len;refine pj.fJ _ _ _ _ _ _ _ _ ?_;rw[A,V];refine aG (λac=>?_) (λac=>⟨rfl,d,G,g⟩);refine(TN hu).mono ?_;rintro _ z ⟨t,rfl,ah,f3⟩;refine⟨_,rfl,?_⟩;have M:=G.BQ y C F f3;obtain⟨k,hk,Z⟩:=RR t j (by omega);show pj.S2 _ _ _ _ _ _ (ao .i64 (kY .u64 t (ao .u64 ((m:Int) - 1)))) _ _;rw[Z,aS ((k:Nat):Int) (by omega)];have s3:∀o:Nat,o<L->pj.S3 s (a:Int) (L:Int) (ae e) (m:Int) (idx:Int) (o:Int) z λr x=>r=ag (.tuple #[])/\∃d,Sq s l w x d/\Sg a b O d:=by
    intro o ho;have B:ao .i64 ((a:Int)+(o:Int))=((a+o:Nat):Int):=by rw[aS _ (by omega)];omega
    obtain⟨aj,Q⟩:=ed (O:=d) (i:=a+o) (by omega);obtain⟨al,S⟩:=ed (O:=d) (i:=idx) (by omega);refine M.base.swap Q S B rfl λw4 N=>?_;show pj.L1 _ _ _ _ _ _ _ _;rw[bd _ (by omega)];exact ih (idx+1) m t _ w4 (by omega) (by omega) j E (ah.fr N.fr y) (M.comp N) (g.trans (Sg.swap Q S (by omega)))
   refine aG (λab=>?_) (λab=>s3 k (by omega));have B:ao .i64 ((k:Int) - (L:Int))=((k - L:Nat):Int):=by rw[aS _ (by omega)];omega
   rw[B];exact s3 (k - L) (by omega)
 have f0:Fr (·=e) w1 (w1.alloc (.cells #[.u 0] EN)):=Fr.alloc _ _ _;have ad:iD e 0 (w1.alloc (.cells #[.u 0] EN)):=P▸jV w1 _;rw[A,W,show nb w1=ae e from P▸rfl];refine ad.st (K:=λq=>ak aa CN #[.i (L:Int)] q λr_ z=>∃t21:Int,r_=ag (.u t21)/\pj.L1 s (a:Int) (L:Int) (ae e) t21 ((c - 1:Nat):Int) z λr x=>r=ag (.tuple #[])/\∃d,Sq s l w x d/\Sg a b O d) λq af f2=>?_;refine(Tu L (by omega) (by omega) q).mono ?_;rintro _ z ⟨m,rfl,j,E,rfl⟩;exact⟨_,rfl,loop (c+2+1) (c - 1) m _ O _ (by omega) (by omega) j E af ((h.BQ y C F f0).BQ y C F f2) (Sg.refl _ _ _)⟩
end
structure wP(O us:List I)(pv:I)(a b i j:Nat):Prop where
 g:Sg a b O us
 z:us[a]? =some pv
 i1:a+1<=i
 ij:i<=j+1
 jb:j<b
 lo:∀(q:Nat) x,a<q->q<i->us[q]? =some x->¬a4 pv.rx x.rx<0
 U:∀(q:Nat) x,j<q->q<b->us[q]? =some x->a4 pv.rx x.rx<0
structure wN(us:List I)(pv:I)(a m b:Nat):Prop where
 z:us[a]? =some pv
 am:a<m
 mb:m<=b
 lo:∀(q:Nat) x,a<q->q<m->us[q]? =some x->¬a4 pv.rx x.rx<0
 U:∀(q:Nat) x,m<=q->q<b->us[q]? =some x->a4 pv.rx x.rx<0
section
variable {s:Sl} {l O:List I} {w w1:J}
def X7(h:Sq s l w w1 O)(hz:I.aY l<=1000000){a b p:Nat}{E:I}(hb:b<=O.length)(Z:O[p]? =some E)(h1:a<=p)(H:p<b):
  ak aa LW #[s.v,.i (a:Int),.i (b:Int),.i (p:Int),.func (.func cd) #[] #[]] w1 λr w'=>∃(m:Nat) (k:List I),r=ag (.i (m:Int))/\Sq s l w w' k/\Sg a b O k/\wN k E a m b:=by
 have hl:=(h.lt hz).1
 let Y:aH:=λr w'=>∃(m:Nat) (k:List I),r=ag (.i (m:Int))/\Sq s l w w' k/\Sg a b O k/\wN k E a m b
 have pr:∀{j:Nat},0<j->j<=1000000->ao .i64 ((j:Int) - 1)=((j - 1:Nat):Int):=λh1 H=>by rw[aS _ (by omega)];omega
 have l0:∀(D i j:Nat) (k:List I) (N:J),j+1 - i<D->wP O k E a b i j->Sq s l w N k->nj.L0 s (a:Int) (i:Int) (j:Int) N Y:=by
  intro D;induction D with
  |zero=>intro i j k N F;omega
  |succ D ih=>
   intro i j k N F d H;have hlen:=d.g.len;have s3:∀(i j:Nat) (C:J),j+1 - i<=D->wP O k E a b i j->(i<=j->∀y,k[i]? =some y->a4 E.rx y.rx<0)->(i<=j->∀y,k[j]? =some y->¬a4 E.rx y.rx<0)->Sq s l w C k->nj.S3 s (a:Int) (i:Int) (j:Int) C Y:=by
    intro i j C F d Q fy P;have ah:=d.jb;have ad:=d.i1;have am:=d.ij;refine aG (λal=>?_) (λT=>?_)
    .have e:i=j+1:=by omega
     exact⟨i,k,rfl,P,d.g,d.z,by omega,by omega,d.lo,λB y h1 H=>d.U B y (by omega) H⟩
    obtain⟨y,A⟩:=ed (O:=k) (i:=j) (by omega);obtain⟨G,x⟩:=ed (O:=k) (i:=i) (by omega);have lx:=fy (by omega) y A;have ly:=Q (by omega) G x;have an:i≠j:=λe=>by subst e;rw[A]at x;cases x;exact lx ly
    refine P.swap A x rfl rfl λV K=>?_;show nj.L0 _ _ _ _ _ _;rw[bd _ (by omega),pr (by omega) (by omega)];have g:=ml x A;refine ih (i+1) (j - 1) _ V (by omega) ⟨d.g.trans (Sg.swap A x (by omega)),?_,by omega,by omega,by omega,λB ai L M q=>?_,λB ai L M q=>?_⟩ K
    .rw [g,af (by omega),af (by omega)];exact d.z
    .rw [g,af (by omega)]at q;split at q
     .cases q;exact lx
     .exact d.lo B ai L (by omega) q
    .rw [g]at q;split at q
     .cases q;exact ly
     .rw [af (by omega)]at q;exact d.U B ai (by omega) M q
   have l2:∀(e i j:Nat) (C:J),j+1 - i<e->j+1 - i<=D->wP O k E a b i j->(i<=j->∀y,k[i]? =some y->a4 E.rx y.rx<0)->Sq s l w C k->nj.L2 s (a:Int) (i:Int) (j:Int) C Y:=by
    intro e;induction e with
    |zero=>intro i j C he;omega
    |succ e ae=>
     intro i j C he F d Q P;have ah:=d.jb;have ad:=d.i1;have am:=d.ij;refine nj.kU _ _ _ _ _ _ (P.dr λV K=>aG (λT=>?_) (λal=>s3 i j V F d Q (λT=>by omega) K));obtain⟨y,A⟩:=ed (O:=k) (i:=j) (by omega);refine K.cmp hz d.z A rfl rfl λW S=>aG (λac=>?_) (λab=>s3 i j W F d Q (λ_ G x=>by rw[A]at x;cases x;exact ab) S);rw[pr (by omega) (by omega)];refine ae i (j - 1) W (by omega) (by omega) ⟨d.g,d.z,ad,by omega,by omega,d.lo,λB G L M q=>?_⟩ (λT=>Q (by omega)) S;by_cases eq:B=j
     .subst eq;rw[A]at q;cases q;exact ac
     .exact d.U B G (by omega) M q
   have l1:∀(e i j:Nat) (C:J),j+1 - i<e->j+1 - i<=D->wP O k E a b i j->Sq s l w C k->nj.L1 s (a:Int) (i:Int) (j:Int) C Y:=by
    intro e;induction e with
    |zero=>intro i j C he;omega
    |succ e ae=>
     intro i j C he F d P;have ah:=d.jb;have ad:=d.i1;have am:=d.ij;refine nj.fJ _ _ _ _ _ _ (P.dr λV K=>aG (λT=>?_) (λal=>l2 (j+1 - i+1) i j V (by omega) F d (λT=>by omega) K));obtain⟨y,A⟩:=ed (O:=k) (i:=i) (by omega);refine K.cmp hz d.z A rfl rfl λW S=>dN (λab=>?_) (λac=>l2 (j+1 - i+1) i j W (by omega) F d (λ_ G x=>by rw[A]at x;cases x;exact ew ac) S);rw[bd _ (by omega)];refine ae (i+1) j W (by omega) (by omega) ⟨d.g,d.z,by omega,by omega,ah,λB G L M q=>?_,d.U⟩ S;by_cases eq:B=i
     .subst eq;rw[A]at q;cases q;exact g5 ab
     .exact d.lo B G L (by omega) q
   exact nj.bE _ _ _ _ _ _ (l1 (j+1 - i+1) i j N (by omega) (by omega) d H)
 obtain⟨G,x⟩:=ed (O:=O) (i:=a) (by omega);refine nj.ok _ _ _ _ w1 _ (h.swap Z x rfl rfl λN H=>?_);rw[bd _ (by omega),pr (by omega) (by omega)];have g:=ml x Z;refine l0 (b - 1+1 - (a+1)+1) (a+1) (b - 1) _ N (by omega) ⟨Sg.swap Z x (by omega),?_,by omega,by omega,by omega,λB y L M=>by omega,λB y L M=>by omega⟩ H;rw[g];split
 .rename_i e;rw[e,Z]at x;rw[x]
 .rw [aj rfl]
end
structure mA(O us:List I)(pv:I)(a b i j:Nat):Prop where
 g:Sg a b O us
 z:us[a]? =some pv
 i1:a+1<=i
 ij:i<=j+1
 jb:j<b
 lo:∀(q:Nat) x,a<q->q<i->us[q]? =some x->nB pv x
 U:∀(q:Nat) x,j<q->q<b->us[q]? =some x->¬nB pv x
structure nu(us:List I)(pv:I)(a m b:Nat):Prop where
 z:us[m]? =some pv
 am:a<=m
 mb:m<b
 lo:∀(q:Nat) x,a<=q->q<m->us[q]? =some x->nB pv x
 U:∀(q:Nat) x,m<q->q<b->us[q]? =some x->¬nB pv x
abbrev kW(s:Sl)(l O:List I)(w:J)(e:I)(a b:Nat):aH:=λr h=>∃(m:Nat) (t:Bool) (d:List I),r=ag (.tuple #[.i (m:Int),.bool t])/\Sq s l w h d/\Sg a b O d/\nu d e a m b
section
variable {s:Sl} {l O:List I} {w w1:J} {a b:Nat} {pv:I}
def mc{j:Nat}(d:0<j)(e:j<=1000000):ao .i64 ((j:Int) - 1)=((j - 1:Nat):Int):=by rw[aS _ (by omega)];omega
def Nv(hz:I.aY l<=1000000)(hl:O.length<=1000000)(hb:b<=O.length){D:Nat}{A B C:Int->Int->J->Prop}(hA:∀(i j:Int) (w:J),(k4 w λw1=>bn (aq (i<=j)) (e8 s i λp=>fM w1 (p.add (aZ i *4)) λQ S T V=>e8 s (a:Int) λx=>fM w1 (x.add (aZ (a:Int) *4)) λW Y Z b3=>qd cd #[.agg #[.i Q,.int .u8 S,.int .u8 T,V.v],.agg #[.i W,.int .u8 Y,.int .u8 Z,b3.v]] w1 λt L=>bn (aq (t<0)) (A (ao .i64 (i+1)) j L) (B i j L)) (B i j w1))->A i j w)(hB:∀(i j:Int) (w:J),(k4 w λw1=>bn (aq (i<=j)) (e8 s j λp=>fM w1 (p.add (aZ j *4)) λQ S T V=>e8 s (a:Int) λx=>fM w1 (x.add (aZ (a:Int) *4)) λW Y Z b3=>qd cd #[.agg #[.i Q,.int .u8 S,.int .u8 T,V.v],.agg #[.i W,.int .u8 Y,.int .u8 Z,b3.v]] w1 λt L=>bn (!(aq (t<0))) (B i (ao .i64 (j - 1)) L) (C i j L)) (C i j w1))->B i j w)(k:List I)(hC:∀(i j:Nat) (h:J),j+1 - i<=D->mA O k pv a b i j->(i<=j->∀q,k[i]? =some q->¬nB pv q)->(i<=j->∀q,k[j]? =some q->nB pv q)->Sq s l w h k->C (i:Int) (j:Int) h):
  ∀(e i j:Nat) (h:J),j+1 - i<e->j+1 - i<=D->mA O k pv a b i j->Sq s l w h k->A (i:Int) (j:Int) h:=by
 have l2:∀(e i j:Nat) (h:J),j+1 - i<e->j+1 - i<=D->mA O k pv a b i j->(i<=j->∀q,k[i]? =some q->¬nB pv q)->Sq s l w h k->B (i:Int) (j:Int) h:=by
  intro e;induction e with
  |zero=>intro i j h he;omega
  |succ e ac=>
   intro i j h he H d fx h3;have ae:=d.jb;have ad:=d.i1;have ag:=d.ij;have hlen:=d.g.len;refine hB _ _ _ (h3.dr λw4 F=>aG (λP=>?_) (λaf=>hC i j w4 H d fx (λP=>by omega) F));obtain⟨q,E⟩:=ed (O:=k) (i:=j) (by omega);refine F.cmp hz E d.z rfl rfl λM G=>dN (λaa=>?_) (λab=>hC i j M H d fx (λ_ N K=>by rw[E]at K;cases K;exact ew ab) G);rw[mc (by omega) (by omega)];refine ac i (j - 1) M (by omega) (by omega) ⟨d.g,d.z,ad,by omega,by omega,d.lo,λx N q1 q2 y=>?_⟩ (λP=>fx (by omega)) G;by_cases eq:x=j
   .subst eq;rw[E]at y;cases y;exact g5 aa
   .exact d.U x N (by omega) q2 y
 intro e;induction e with
 |zero=>intro i j h he;omega
 |succ e ac=>
  intro i j h he H d h3;have ae:=d.jb;have ad:=d.i1;have ag:=d.ij;have hlen:=d.g.len;refine hA _ _ _ (h3.dr λw4 F=>aG (λP=>?_) (λaf=>l2 (j+1 - i+1) i j w4 (by omega) H d (λP=>by omega) F));obtain⟨q,E⟩:=ed (O:=k) (i:=i) (by omega);refine F.cmp hz E d.z rfl rfl λM G=>aG (λab=>?_) (λaa=>l2 (j+1 - i+1) i j M (by omega) H d (λ_ N K=>by rw[E]at K;cases K;exact aa) G);rw[bd _ (by omega)];refine ac (i+1) j M (by omega) (by omega) ⟨d.g,d.z,by omega,by omega,ae,λx N q1 q2 y=>?_,d.U⟩ G;by_cases eq:x=i
  .subst eq;rw[E]at y;cases y;exact ab
  .exact d.lo x N q1 (by omega) y
def mA.swap{e:List I}{x y:I}{i j:Nat}(E:mA O e pv a b i j)(w:e[j]? =some x)(A:e[i]? =some y)(h:i<j)(D:nB pv x)(F:¬nB pv y):mA O ((e.set i x).set j y) pv a b (i+1) (j - 1):=by
 have g:=ml A w;have H:=E.jb;have G:=E.i1;refine⟨E.g.trans (Sg.swap w A (by omega)),?_,by omega,by omega,by omega,λk q B C d=>?_,λk q B C d=>?_⟩
 .rw [g,af (by omega),af (by omega)];exact E.z
 .rw [g,af (by omega)]at d;split at d
  .cases d;exact D
  .exact E.lo k q B (by omega) d
 .rw [g]at d;split at d
  .cases d;exact F
  .rw [af (by omega)]at d;exact E.U k q (by omega) C d
def mA.cut{k:List I}{y:I}{i j:Nat}(E:mA O k pv a b i j)(h:j<i)(e:k[j]? =some y):Sg a b O ((k.set j pv).set a y)/\nu ((k.set j pv).set a y) pv a j b:=by
 have g:=ml e E.z;have C:=E.jb;have D:=E.i1;have F:=E.ij;refine⟨E.g.trans (Sg.swap E.z e (by omega)),?_,by omega,C,λw x A B d=>?_,λw x A B d=>?_⟩
 .rw [g];by_cases q:j=a
  .rw [aj q];rw[q,E.z]at e;exact e.symm
  .rw [af q,aj rfl]
 .rw [g]at d;split at d
  .cases d;exact E.lo j y (by omega) (by omega) e
  .rw [af (by omega)]at d;exact E.lo w x (by omega) (by omega) d
 .rw [g,af (by omega),af (by omega)]at d;exact E.U w x A B d
def Ya(h:Sq s l w w1 O)(V:I.aY l<=1000000){p:Nat}(W:b<=O.length)(P:O[p]? =some pv)(h1:a<=p)(G:p<b):
  ak aa LV #[s.v,.i (a:Int),.i (b:Int),.i (p:Int),.func (.func cd) #[] #[]] w1 (kW s l O w pv a b):=by
 have Y:=(h.lt V).1;have l4:∀(D i j:Nat) (x:List I) (d:J),j+1 - i<D->mA O x pv a b i j->Sq s l w d x->i9.L4 s (a:Int) (i:Int) (j:Int) d (kW s l O w pv a b):=by
  intro D;induction D with
  |zero=>intro i j x d U;omega
  |succ D ih=>
   intro i j x d U k G;have hlen:=k.g.len;refine i9.wS _ _ _ _ _ _ (Nv (D:=D) V Y W (A:=λi j d=>i9.L5 s (a:Int) i j d (kW s l O w pv a b)) (B:=λi j d=>i9.L6 s (a:Int) i j d (kW s l O w pv a b)) (C:=λi j d=>i9.S7 s (a:Int) i j d (kW s l O w pv a b)) (λi j d h=>i9.Rs s (a:Int) i j d (kW s l O w pv a b) h) (λi j d h=>i9.Ac s (a:Int) i j d (kW s l O w pv a b) h) x ?_ (j+1 - i+1) i j d (by omega) (by omega) k G);intro i j w3 U k S T H;have af:=k.jb;have ad:=k.i1;have ae:=k.ij;obtain⟨N,q⟩:=ed (O:=x) (i:=j) (by omega);refine aG (λZ=>?_) (λab=>?_)
   .refine H.swap k.z q rfl rfl λM y=>?_;have c:=k.cut (by omega) q;exact⟨j,false,_,rfl,y,c.1,c.2⟩
   obtain⟨E,e⟩:=ed (O:=x) (i:=i) (by omega);have K:=T (by omega) N q;have L:=S (by omega) E e;have ac:i≠j:=λF=>by subst F;rw[q]at e;cases e;exact L K
   refine H.swap q e rfl rfl λM y=>?_;show i9.L4 _ _ _ _ _ _;rw[bd _ (by omega),mc (by omega) (by omega)];exact ih (i+1) (j - 1) _ M (by omega) (k.swap q e (by omega) K L) y
 obtain⟨E,e⟩:=ed (O:=O) (i:=a) (by omega);refine i9.ok _ _ _ _ w1 _ (h.swap P e rfl rfl λd G=>?_);rw[bd _ (by omega),mc (by omega) (by omega)];have g:=ml e P;have Q:mA O ((O.set a pv).set p E) pv a b (a+1) (b - 1):=⟨Sg.swap P e (by omega),by
  rw[g];split
  .rename_i F;rw[F,P]at e;rw[e]
  .rw [aj rfl],by omega,by omega,by omega,λag N q1 q2=>by omega,λag N q1 q2=>by omega⟩
 generalize(O.set a pv).set p E=x at Q G
 have hlen:=Q.g.len;refine Nv (D:=b) V Y W (A:=λi j d=>i9.L0 s (a:Int) i j d (kW s l O w pv a b)) (B:=λi j d=>i9.L1 s (a:Int) i j d (kW s l O w pv a b)) (C:=λi j d=>i9.S2 s (a:Int) i j d (kW s l O w pv a b)) (λi j d h=>i9.bE s (a:Int) i j d (kW s l O w pv a b) h) (λi j d h=>i9.fJ s (a:Int) i j d (kW s l O w pv a b) h) x ?_ (b - 1+1 - (a+1)+1) (a+1) (b - 1) d (by omega) (by omega) Q G;intro i j w3 U k S T H;have af:=k.jb;have ad:=k.i1;have ae:=k.ij;obtain⟨N,q⟩:=ed (O:=x) (i:=j) (by omega);refine aG (λZ=>?_) (λab=>?_)
 .refine H.swap k.z q rfl rfl λM y=>?_;have c:=k.cut (by omega) q;exact⟨j,true,_,rfl,y,c.1,c.2⟩
 obtain⟨E,e⟩:=ed (O:=x) (i:=i) (by omega);have K:=T (by omega) N q;have L:=S (by omega) E e;have ac:i≠j:=λF=>by subst F;rw[q]at e;cases e;exact L K
 refine H.swap q e rfl rfl λM y=>?_;show i9.L4 _ _ _ _ _ _;rw[bd _ (by omega),mc (by omega) (by omega)];exact l4 (j - 1+1 - (i+1)+1) (i+1) (j - 1) _ M (by omega) (k.swap q e (by omega) K L) y
end
set_option maxHeartbeats 400000
def Ad(a b:Nat)(e:List I):Prop:=∀(d:Nat) x y,a<=d->d+1<b->e[d]? =some x->e[d+1]? =some y->a4 x.rx y.rx<=0
def Ad.Ek{a b:Nat}{e:List I}(h:Ad a b e)(F:b<=e.length):jf a b e:=by
 intro i d D E;induction d with
 |zero=>omega
 |succ d A=>
  intro y B C j z;obtain⟨w,k⟩:=ed (O:=e) (i:=d) (by omega);have q:=h d w C (by omega) y k z;by_cases x:i=d
  .subst x;rw[k]at j;cases j;exact q
  .exact qw (A (by omega) (by omega) B w j k) q
structure rr(us:List I)(a i j:Nat):Prop where
 p:∀(q:Nat) x y,a<=q->q+1<i->q+1≠j->us[q]? =some x->us[q+1]? =some y->a4 x.rx y.rx<=0
 n:∀x y,a+1<=j->j+1<i->us[j - 1]? =some x->us[j+1]? =some y->a4 x.rx y.rx<=0
def rr.ad{k:List I}{a i j:Nat}(D:rr k a i j)(h:∀d e,a+1<=j->k[j - 1]? =some d->k[j]? =some e->a4 d.rx e.rx<=0):Ad a i k:=by
 intro y d e z A w x;by_cases q:y+1=j
 .subst q;exact h d e (by omega) w x
 .exact D.p y d e z A q w x
def rr.down{h:List I}{a i j:Nat}(D:rr h a i j){x y:I}(C:a+1<=j)(F:j<i)(w:h[j - 1]? =some x)(E:h[j]? =some y)(G:a4 y.rx x.rx<0):rr ((h.set j x).set (j - 1) y) a i (j - 1):=by
 have g:=ml E w;refine⟨λz u v B A H d e=>?_,λu v B A d e=>?_⟩
 .rw [g]at d e;by_cases k:z=j - 1
  .rw [aj k]at d;rw[af (by omega),aj (by omega)]at e;cases d;cases e;omega
  by_cases q:z=j
  .rw [af k,aj q]at d;rw[af (by omega),af (by omega)]at e;cases d;subst q;exact D.n _ _ C A w e
  .rw [af k,af q]at d;rw[af (by omega),af (by omega)]at e;exact D.p z u v B A (by omega) d e
 .rw [g,af (by omega),af (by omega)]at d;rw[g,af (by omega),aj (by omega)]at e;cases e;exact D.p (j - 1 - 1) u x (by omega) (by omega) (by omega) d (by rw[show j - 1 - 1+1=j - 1 by omega];exact w)
section
variable {s:Sl} {l O:List I} {w w1:J} {a b:Nat}
def X'(h:Sq s l w w1 O)(hz:I.aY l<=1000000)(ae:a<b)(hb:b<=O.length)(ah:lT a b O):
  ak aa LU #[s.v,.i (a:Int),.i (b:Int),.func (.func cd) #[] #[]] w1 λr w'=>∃(t:Bool) (d:List I),r=ag (.bool t)/\Sq s l w w' d/\Sg a b O d/\(t=true->jf a b d):=by
 have hl:=(h.lt hz).1
 let P:aH:=λr w'=>∃(t:Bool) (d:List I),r=ag (.bool t)/\Sq s l w w' d/\Sg a b O d/\(t=true->jf a b d)
 have l1:∀(D k i:Nat) (d:List I) (W:J),D+k=5->a<i->i<=b->Ad a i d->Sq s l w W d->Sg a b O d->i5.L1 s (a:Int) (b:Int) (i:Int) (k:Int) W P:=by
  intro D;induction D with
  |zero=>
   intro k i d W hD C E z S g;exact i5.fJ _ _ _ _ _ _ _ (a1 (aV (by omega)) ⟨false,d,rfl,S,g,λh=>by cases h⟩)
  |succ D ih=>
   intro k i d W hD C E z S g;refine i5.fJ _ _ _ _ _ _ _ (a3 (aP (by omega)) ?_);have s7:∀(i:Nat) (d:List I) (q:J),a<i->i<=b->Ad a i d->Sq s l w q d->Sg a b O d->i5.S7 s (a:Int) (b:Int) (i:Int) (k:Int) q P:=by intro i d q C E z A g;show i5.L1 _ _ _ _ _ _ _;rw[bd _ (by omega)];exact ih (k+1) i d q (by omega) C E z A g
   have l6:∀(e i j:Nat) (d:List I) (q:J),b - j<e->a<i->i<j->j<=b->Ad a i d->Sq s l w q d->Sg a b O d->i5.L6 s (a:Int) (b:Int) (i:Int) (k:Int) (j:Int) q P:=by
    intro e;induction e with
    |zero=>intro i j d q he;omega
    |succ e ac=>
     intro i j d q he C ij jb z A g;have hlen:=g.len;refine i5.Ac _ _ _ _ _ _ _ _ (aG (λai=>A.dr λT K=>?_) (λ_=>s7 i d q C (by omega) z A g));obtain⟨M,y⟩:=ed (O:=d) (i:=j) (by omega);obtain⟨L,x⟩:=ed (O:=d) (i:=j - 1) (by omega);refine K.cmp hz y x rfl (mc (by omega) (by omega)) λU N=>dN (λal=>s7 i d U C (by omega) z N g) (λV=>?_);refine N.swap x y (mc (by omega) (by omega)) rfl λw6 h6=>?_;rw[bd _ (by omega)];have gg:=ml y x;refine ac i (j+1) _ w6 (by omega) C (by omega) (by omega) (λB u v H Q F G=>?_) h6 (g.trans (Sg.swap x y (by omega)));rw[gg,af (by omega),af (by omega)]at F G;exact z B u v H Q F G
   have s5:∀(i:Nat) (d:List I) (q:J),a<i->i<b->Ad a i d->Sq s l w q d->Sg a b O d->i5.S5 s (a:Int) (b:Int) (i:Int) (k:Int) q P:=by intro i d q C E z A g;refine aG (λ_=>?_) (λ_=>s7 i d q C (by omega) z A g);rw[bd _ (by omega)];exact l6 (b - (i+1)+1) i (i+1) d q (by omega) C (by omega) (by omega) z A g
   have l4:∀(j i:Nat) (d:List I) (q:J),a<=j->j<i->i<b->rr d a i j->Sq s l w q d->Sg a b O d->i5.L4 s (a:Int) (b:Int) (i:Int) (k:Int) (j:Int) q P:=by
    intro j;induction j with
    |zero=>
     intro i d q j1 j2 E Y A g;exact i5.wS _ _ _ _ _ _ _ _ (a1 (aV (by omega)) (s5 i d q (by omega) E (Y.ad λL M h=>by omega) A g))
    |succ j aj=>
     intro i d q j1 j2 E Y A g;have hlen:=g.len;refine i5.wS _ _ _ _ _ _ _ _ (a3 (aP (by omega)) (A.dr λT K=>?_));have ej:ao .i64 (((j+1:Nat):Int) - 1)=(j:Int):=mc (by omega) (by omega);obtain⟨M,y⟩:=ed (O:=d) (i:=j+1) (by omega);obtain⟨L,x⟩:=ed (O:=d) (i:=j) (by omega);refine K.cmp hz y x rfl ej λU N=>dN (λab=>s5 i d U (by omega) E (Y.ad λu v _ F G=>?_) N g) (λV=>?_)
     .rw [show j+1 - 1=j from rfl,x]at F;rw[y]at G;cases F;cases G;exact o1 (g5 ab)
     have V:=ew V;have hj:a+1<=j+1:=by
      by_cases e:a=j+1
      .have:=(ah.sg g hb) a (bg _) ae (by omega) L M (by rw[e];exact x) (by rw[e];exact y);have:=jk L.rx M.rx;omega
      .omega
     refine N.swap x y ej rfl λw6 h6=>?_;rw[ej];exact aj i _ w6 (by omega) (by omega) E (Y.down hj j2 x y V) h6 (g.trans (Sg.swap x y (by omega)))
   have s3:∀(i:Nat) (d:List I) (q:J),a<i->i<=b->Ad a i d->Sq s l w q d->Sg a b O d->i5.S3 s (a:Int) (b:Int) (i:Int) (k:Int) q P:=by
    intro i d q C E z A g;have hlen:=g.len;refine bD (λe=>?_) (λe=>?_)
    .have e:i=b:=by have:=eq_of_beq e;omega
     subst e;exact⟨true,d,rfl,A,g,λ_=>z.Ek (by omega)⟩
    have e:i≠b:=λh=>by subst h;simp at e
    refine aG (λ_=>⟨false,d,rfl,A,g,λh=>by cases h⟩) (λ_=>?_);have Z:ao .i64 ((i:Int) - 1)=((i - 1:Nat):Int):=mc (by omega) (by omega);obtain⟨M,y⟩:=ed (O:=d) (i:=i) (by omega);obtain⟨L,x⟩:=ed (O:=d) (i:=i - 1) (by omega);refine A.swap x y Z rfl λT K=>?_;have gg:=ml y x;have g2:=g.trans (Sg.swap (a:=a) (b:=b) x y (by omega));have low:∀(B:Nat) u v,a<=B->B+1<i - 1->((d.set i L).set (i - 1) M)[B]? =some u->((d.set i L).set (i - 1) M)[B+1]? =some v->a4 u.rx v.rx<=0:=λB u v H Q F G=>by rw[gg,af (by omega),af (by omega)]at F G;exact z B u v H (by omega) F G
    refine aG (λS=>?_) (λS=>s5 i _ T C (by omega) (λB u v H Q=>?_) K g2)
    .rw [Z];exact l4 (i - 1) i _ T (by omega) (by omega) (by omega) ⟨λB u v H Q q3=>low B u v H (by omega),λu v H Q=>by omega⟩ K g2
    .rw [aS _ (by omega)]at S;omega
   have l2:∀(e i:Nat) (q:J),b - i<e->a<i->i<=b->Ad a i d->Sq s l w q d->i5.L2 s (a:Int) (b:Int) (i:Int) (k:Int) q P:=by
    intro e;induction e with
    |zero=>intro i q he;omega
    |succ e ac=>
     intro i q he C E z A;have hlen:=g.len;refine i5.kU _ _ _ _ _ _ _ (A.dr λT K=>aG (λai=>?_) (λ_=>s3 i d T C E z K g));have Z:ao .i64 ((i:Int) - 1)=((i - 1:Nat):Int):=mc (by omega) (by omega);obtain⟨M,y⟩:=ed (O:=d) (i:=i) (by omega);obtain⟨L,x⟩:=ed (O:=d) (i:=i - 1) (by omega);refine K.cmp hz y x rfl Z λU N=>dN (λab=>?_) (λV=>s3 i d U C E z N g);rw[bd _ (by omega)];refine ac (i+1) U (by omega) (by omega) (by omega) (λB u v H Q F G=>?_) N;by_cases eq:B+1=i
     .subst eq;rw[show B+1 - 1=B from rfl,F]at x;rw[G]at y;cases x;cases y;exact o1 (g5 ab)
     .exact z B u v H (by omega) F G
   exact l2 (b - i+1) i W (by omega) C E z S
 refine i5.ok _ _ _ w1 _ ?_;rw[bd _ (by omega)];exact l1 5 0 (a+1) O w1 rfl (by omega) (by omega) (λB L M H Q=>by omega) h (Sg.refl _ _ _)
end
def hB(p c:Nat):Prop:=c=2 *p+1\/c=2 *p+2
structure pH(us:List I)(f lo U r:Nat):Prop where
 p:∀(p c:Nat),lo<=p->hB p c->c<U->p≠r->kV us (f+c) (f+p)
 n:∀(p c:Nat),lo<=p->hB p r->hB r c->c<U->kV us (f+c) (f+p)
def pI(d:List I)(f lo U:Nat):Prop:=∀(p c:Nat),lo<=p->hB p c->c<U->kV d (f+c) (f+p)
def pH.heap{d:List I}{f lo U r:Nat}(H:pH d f lo U r)(h:∀c,hB r c->c<U->kV d (f+c) (f+r)):pI d f lo U:=by
 intro p c q j k;by_cases e:p=r
 .subst e;exact h c j k
 .exact H.p p c q j k e
def pH.down{k:List I}{f lo U r c:Nat}(H:pH k f lo U r)(N:lo<=r){x y:I}(E:hB r c)(K:c<U)(z:k[f+c]? =some x)(L:k[f+r]? =some y)(lt:a4 y.rx x.rx<=0)(M:∀e,hB r e->e<U->kV k (f+e) (f+c)):pH ((k.set (f+r) x).set (f+c) y) f lo U c:=by
 have g:=ml L z;have G:=E;unfold hB at E;refine⟨λp e B w j D u v d h=>?_,λp e B w j D u v d h=>?_⟩
 .have C:=w;unfold hB at w;rw[g]at d h;rw[af (by omega)]at h;by_cases q:p=r
  .subst q;rw[aj rfl]at h;cases h;by_cases A:e=c
   .subst A;rw[aj rfl]at d;cases d;exact lt
   .rw [af (by omega),af (by omega)]at d;exact M e C j u x d z
  .rw [af (by omega)]at h;by_cases A:e=r
   .subst A;rw[af (by omega),aj rfl]at d;cases d;exact H.n p c B C G K x v z h
   .rw [af (by omega),af (by omega)]at d;exact H.p p e B C j q u v d h
 .have F:=j;unfold hB at w j;have q:p=r:=by omega
  subst q;rw[g,af (by omega),af (by omega)]at d;rw[g,af (by omega),aj rfl]at h;cases h;exact H.p c e (by omega) F D (by omega) u x d z
section
variable {s:Sl} {l O:List I} {w w1:J}
def NL(h:Sq s l w w1 O)(N:I.aY l<=1000000){f lo U:Nat}(hb:f+U<=O.length)(H:pH O f lo U lo)(ah:lo<=U):
  ak aa LY #[s.v,.i (lo:Int),.i (U:Int),.i (f:Int),.func (.func cd) #[] #[]] w1 λr Q=>r=ag (.tuple #[])/\∃d,Sq s l w Q d/\Sg (f+lo) (f+U) O d/\pI d f lo U:=by
 have hl:=(h.lt N).1
 let T:aH:=λr Q=>r=ag (.tuple #[])/\∃d,Sq s l w Q d/\Sg (f+lo) (f+U) O d/\pI d f lo U
 have B:∀{x y:Nat},x+y<=3000000->ao .i64 ((x:Int)+(y:Int))=((x+y:Nat):Int):=λh=>by rw[aS _ (by omega)];omega
 have loop:∀(D r:Nat) (d:List I) (M:J),U - r<D->lo<=r->r<=1000000->pH d f lo U r->Sq s l w M d->Sg (f+lo) (f+U) O d->tq.L0 s (U:Int) (f:Int) (r:Int) M T:=by
  intro D;induction D with
  |zero=>intro r d M hD;omega
  |succ D ih=>
   intro r d M hD hr al H W g;have hlen:=g.len;refine tq.bE _ _ _ _ _ _ ?_;have e1:ao .i64 (ao .i64 (2 *(r:Int))+1)=((2 *r+1:Nat):Int):=by rw[aS (2 *(r:Int)) (by omega),aS _ (by omega)];omega
   rw[e1];have P:∀(c:Nat) (E:J),hB r c->c<U->(∀z,hB r z->z<U->kV d (f+z) (f+c))->Sq s l w E d->tq.S2 s (U:Int) (f:Int) (r:Int) (c:Int) E T:=by
    intro c E L C mx F;have ae:=L;unfold hB at L;obtain⟨x,k⟩:=ed (O:=d) (i:=f+c) (by omega);obtain⟨y,q⟩:=ed (O:=d) (i:=f+r) (by omega);dsimp only[tq.S2,ax];refine F.dr λS G=>G.cmp N q k (B (by omega)) (B (by omega)) λw5 Y=>dN (λab=>⟨rfl,d,Y,g,H.heap λz A K u v e j=>?_⟩) (λZ=>?_)
    .rw [q]at j;cases j;exact qw (mx z A K u x e k) (o1 (g5 ab))
    have Z:=ew Z;refine Y.swap k q (B (by omega)) (B (by omega)) λw6 h6=>?_;exact ih c _ w6 (by omega) (by omega) (by omega) (by have:=H.down hr ae C k q (by omega) mx;exact this) h6 (g.trans (Sg.swap k q (by omega)))
   refine aG (λab=>⟨rfl,d,W,g,H.heap λc L C=>by unfold hB at L;omega⟩) (λai=>W.dr λE F=>?_);have e2:ao .i64 (((2 *r+1:Nat):Int)+1)=((2 *r+2:Nat):Int):=bd _ (by omega);rw[e2];refine aG (λaj=>?_) (λaf=>P (2 *r+1) E (.inl rfl) (by omega) (λz A K=>?_) F)
   .obtain ⟨x,k⟩:=ed (O:=d) (i:=f+(2 *r+1)) (by omega);obtain⟨y,q⟩:=ed (O:=d) (i:=f+(2 *r+1)+1) (by omega);have V:ao .i64 ((f:Int)+((2 *r+1:Nat):Int))=((f+(2 *r+1):Nat):Int):=B (by omega);refine F.cmp N k q V (by rw[V,bd _ (by omega)]) λS G=>aG (λC=>?_) (λC=>?_)
    .refine P (2 *r+2) S (.inr rfl) (by omega) (λz A K u v e j=>?_) G;have ac:d[f+(2 *r+1)+1]? =some v:=j;rw[q]at ac;cases ac;rcases A with rfl|rfl
     .rw [k]at e;cases e;omega
     .rw [show f+(2 *r+2)=f+(2 *r+1)+1 from rfl,q]at e;cases e;have:=jk y.rx y.rx;omega
    .refine P (2 *r+1) S (.inl rfl) (by omega) (λz A K u v e j=>?_) G;rw[k]at j;cases j;rcases A with rfl|rfl
     .rw [k]at e;cases e;have:=jk x.rx x.rx;omega
     .rw [show f+(2 *r+2)=f+(2 *r+1)+1 from rfl,q]at e;cases e;exact o1 C
   .intro u v e j;rcases A with rfl|rfl
    .rw [e]at j;cases j;have:=jk u.rx u.rx;omega
    .omega
 exact tq.ok _ _ _ _ w1 _ (loop (U - lo+1) lo O w1 (by omega) (bg _) (by omega) H h (Sg.refl _ _ _))
end
def pI.top{e:List I}{f n:Nat}(H:pI e f 0 n)(E:f+n<=e.length):∀(D p:Nat),p<D->p<n->kV e (f+p) f:=by
 intro D;induction D with
 |zero=>intro p h;omega
 |succ D A=>
  intro p C z k B j q;by_cases y:p=0
  .subst y;rw[show f+0=f from rfl,q]at j;cases j;have:=jk k.rx k.rx;omega
  obtain⟨d,F⟩:∃d,d=(p - 1) / 2:=⟨_,rfl⟩;obtain⟨x,w⟩:=ed (O:=e) (i:=f+d) (by omega);exact qw (H d p (by omega) (by unfold hB;omega) z k x j w) (A d (by omega) (by omega) x B w q)
section
variable {s:Sl} {l O:List I} {w w1:J}
def X8(h:Sq s l w w1 O)(W:I.aY l<=1000000){a b:Nat}(ap:a<b)(hb:b<=O.length):
  ak aa LO #[s.v,.i (a:Int),.i (b:Int),.func (.func cd) #[] #[]] w1 λr w'=>r=ag (.tuple #[])/\∃d,Sq s l w w' d/\Sg a b O d/\jf a b d:=by
 have hl:=(h.lt W).1;obtain⟨U,hh⟩:∃U,U=b - a:=⟨_,rfl⟩;have eL:ao .i64 ((b:Int) - (a:Int))=(U:Int):=by rw[aS _ (by omega)];omega
 let R:aH:=λr w'=>r=ag (.tuple #[])/\∃d,Sq s l w w' d/\Sg a b O d/\jf a b d
 have l2:∀(n:Nat) (d:List I) (q:J),n<=U->pI d a 0 n->jf (a+n) b d->(∀p E,p<n->n<=E->E<U->kV d (a+p) (a+E))->Sq s l w q d->Sg a b O d->n8.L2 s (a:Int) 0 ((n:Int) - 1) q R:=by
  intro n;induction n with
  |zero=>
   intro d q T x st M k g;exact n8.kU _ _ _ _ _ _ (a1 (aV (by omega)) ⟨rfl,d,k,g,st⟩)
  |succ n Y=>
   intro d q T x st M k g;have hlen:=g.len;have N:((n+1:Nat):Int) - 1=(n:Int):=by omega
   have e1:ao .i64 ((a:Int)+(n:Int))=((a+n:Nat):Int):=by rw[aS _ (by omega)];omega
   rw[N];obtain⟨an,K⟩:=ed (O:=d) (i:=a+n) (by omega);obtain⟨ac,H⟩:=ed (O:=d) (i:=a) (by omega);refine n8.kU _ _ _ _ _ _ (a3 (aP (by omega)) (k.swap K H e1 rfl λw3 A=>?_));have G:=ml H K;have P:=g.trans (Sg.swap (a:=a) (b:=b) K H (by omega));have top:=x.top (by omega);obtain⟨vs,aj⟩:∃vs,vs=(d.set a an).set (a+n) ac:=⟨_,rfl⟩;rw[<-aj]at G P A;have aq:=P.len;have am:∀p u,p<n->vs[a+p]? =some u->∃D,D<n+1/\d[a+D]? =some u:=λp u V e=>by
    rw[G,af (by omega)]at e;split at e
    .cases e;exact⟨n,by omega,K⟩
    .exact ⟨p,by omega,e⟩
   refine(NL A W (f:=a) (lo:=0) (U:=n) (by omega) ⟨λp c y C S V u v e j=>?_,λp c y Z=>by unfold hB at Z;omega⟩ (dn _)).mono ?_
   .have al:=C;unfold hB at C;rw[G,af (by omega),af (by omega)]at e j;exact x p c (dn _) al (by omega) u v e j
   rintro _ w4 ⟨rfl,ab,Q,z,L⟩;refine⟨rfl,?_⟩;have F:ao .i64 ((n:Int) - 1)=(n:Int) - 1:=aS _ (by omega);rw[F];refine Y ab w4 (by omega) L ?_ ?_ Q (P.trans (z.wide (by omega) (by omega)))
   .intro i B y k A u v e j;rw[z.2 _ (by omega),G]at e j;rw[af (show ¬B=a+n by omega),af (by omega)]at j;split at e
    .cases e;exact M 0 (B - a) (by omega) (by omega) (by omega) ac v H (by rw[show a+(B - a)=B by omega];exact j)
    .rw [af (by omega)]at e;exact st i B (by omega) k A u v e j
   .intro p E V hq ai u v e j;obtain⟨i,i1,i2,ad⟩:=z.mem (by omega) (by omega) e (by omega) (by omega);rw[show i=a+(i - a)by omega]at ad;obtain⟨D,ae,ah⟩:=am (i - a) u (by omega) ad;rw[z.2 _ (by omega),G]at j;split at j
    .cases j;exact top (D+1) D (by omega) ae u ac ah H
    .rw [af (by omega)]at j;exact M D E ae (by omega) ai u v ah j
 have l1:∀(n:Nat) (d:List I) (q:J),n<=U->pI d a n U->Sq s l w q d->Sg a b O d->n8.L1 s (a:Int) 0 (U:Int) ((n:Int) - 1) q R:=by
  intro n;induction n with
  |zero=>
   intro d q T x k g;refine n8.fJ _ _ _ _ _ _ _ (a1 (aV (by omega)) ?_);have F:ao .i64 ((U:Int) - 1)=(U:Int) - 1:=aS _ (by omega);rw[F];exact l2 U d q (bg _) x (λi B y k A=>by omega) (λp E y k A=>by omega) k g
  |succ n Y=>
   intro d q T x k g;have hlen:=g.len;have N:((n+1:Nat):Int) - 1=(n:Int):=by omega
   rw[N];refine n8.fJ _ _ _ _ _ _ _ (a3 (aP (by omega)) ?_);refine(NL k W (f:=a) (lo:=n) (U:=U) (by omega) ⟨λp c y C S V=>x p c (by omega) C S,λp c y Z=>by unfold hB at Z;omega⟩ (by omega)).mono ?_;rintro _ w4 ⟨rfl,ab,Q,z,L⟩;refine⟨rfl,?_⟩;have F:ao .i64 ((n:Int) - 1)=(n:Int) - 1:=aS _ (by omega);rw[F];exact Y ab w4 (by omega) L Q (g.trans (z.wide (by omega) (by omega)))
 refine n8.ok _ _ _ w1 _ ?_;rw[eL];have e3:ao .i64 (bN (ao .i64 ((U:Int) - 1)) 2)=(((U - 1) / 2+1:Nat):Int) - 1:=by
  have:ao .i64 ((U:Int) - 1)=((U - 1:Nat):Int):=by rw[aS _ (by omega)];omega
  rw[this];have e4:bN ((U - 1:Nat):Int) 2=(((U - 1) / 2:Nat):Int):=rfl;rw[e4,aS _ (by omega)];omega
 show n8.L1 _ _ _ _ _ _ _;rw[e3];exact l1 ((U - 1) / 2+1) O w1 (by omega) (λp c y C S=>by unfold hB at C;omega) h (Sg.refl _ _ _)
end
def Out(e h a b:Nat)(j:List I):Prop:=∀i d,e<=i->i<d->d<h->¬(a<=i/\d<b)->kV j i d
def Out.Ek{q w a b:Nat}{j:List I}(h:Out q w a b j)(k:jf a b j):jf q w j:=λi e y x z=>by
 by_cases d:a<=i/\e<b
 .exact k i e d.1 x d.2
 .exact h i e y x z d
def Out.start(a b:Nat)(j:List I):Out a b a b j:=λi k d _ e h=>absurd ⟨d,e⟩ h
def Out.sg{k q a b:Nat}{w vs:List I}(h:Out k q a b w)(g:Sg a b w vs)(P:k<=a)(B:a<=b)(Q:b<=q)(C:b<=w.length):Out k q a b vs:=by
 intro i d D L E H x y j e;by_cases z:a<=i/\i<b
 .obtain ⟨K,N,O,F⟩:=g.mem B C j z.1 z.2;rw[g.2 d (by omega)]at e;exact h K d (by omega) (by omega) E (by omega) x y F e
 rw[g.2 i (by omega)]at j;by_cases A:a<=d/\d<b
 .obtain ⟨M,N,O,G⟩:=g.mem B C e A.1 A.2;exact h i M D (by omega) (by omega) (by omega) x y j G
 rw[g.2 d (by omega)]at e;exact h i d D L E H x y j e
def Out.cut{B C a b m:Nat}{x:List I}{e:I}(h:Out B C a b x)(c:nu x e a m b):∀i d,B<=i->i<d->d<C->¬(a<=i/\d<m)->¬(m+1<=i/\d<b)->kV x i d:=by
 intro i d E F G K L y A j k;by_cases q:a<=i/\d<b
 .have lo:i<=m->a4 y.rx e.rx<=0:=λD=>by
   by_cases w:i=m
   .subst w;rw[c.z]at j;cases j;have:=jk e.rx e.rx;omega
   .exact Int.le_of_lt (c.lo i y q.1 (by omega) j)
  have D:m<=d->a4 e.rx A.rx<=0:=λH=>by
   by_cases w:d=m
   .subst w;rw[c.z]at k;cases k;have:=jk e.rx e.rx;omega
   .exact o1 (c.U d A (by omega) q.2 k)
  exact qw (lo (by omega)) (D (by omega))
 .exact h i d E F G q y A j k
def nu.low{a b m:Nat}{e:List I}{q:I}(c:nu e q a m b):lT (m+1) b e:=by intro k x h _ y w d j;rw[show m+1 - 1=m from rfl,c.z]at d;cases d;exact o1 (c.U k w (by omega) h j)
def wN.Xt{D E a b m:Nat}{w:List I}{y:I}(c:wN w y a m b)(h:Out D E a b w)(k:∀(j:Nat) d,a<=j->j<b->w[j]? =some d->a4 y.rx d.rx<=0):Out D E m b w/\lT m b w:=by
 have lo:∀(q:Nat) d,a<=q->q<m->w[q]? =some d->a4 d.rx y.rx<=0:=λq d F C e=>by
  by_cases x:q=a
  .subst x;rw[c.z]at e;cases e;have:=jk y.rx y.rx;omega
  .exact o1 (c.lo q d (by omega) C e)
 have L:=c.am;have N:=c.mb;refine⟨λi j G H K M d B e A=>?_,λj F C _ d B e A=>qw (lo (m - 1) d (by omega) (by omega) e) (k j B (by omega) C A)⟩;by_cases x:a<=i/\j<b
 .exact qw (lo i d x.1 (by omega) e) (k j B (by omega) x.2 A)
 .exact h i j G H K x d B e A
def nu.left{k q a b m:Nat}{w vs:List I}{O:I}(c:nu vs O a m b)(h:Out k q a b vs)(g:Sg a m vs w)(Q:b<=vs.length)(P:k<=a)(S:b<=q)(st:jf a m w):Out k q (m+1) b w:=by
 have z:=c.am;have U:=c.mb;intro i d D E F T;by_cases A:a<=i/\d<m
 .exact st i d A.1 E A.2
 intro x y j e;by_cases B:a<=i/\i<m
 .obtain ⟨K,M,N,G⟩:=g.mem z (by omega) j B.1 B.2;rw[g.2 d (by omega)]at e;exact h.cut c K d (by omega) (by omega) F (by omega) (by omega) x y G e
 rw[g.2 i (by omega)]at j;by_cases C:a<=d/\d<m
 .obtain ⟨L,M,N,H⟩:=g.mem z (by omega) e C.1 C.2;exact h.cut c i L D (by omega) (by omega) (by omega) (by omega) x y j H
 rw[g.2 d (by omega)]at e;exact h.cut c i d D E F (by omega) (by omega) x y j e
def nu.right{k q a b m:Nat}{w vs:List I}{N:I}(c:nu vs N a m b)(h:Out k q a b vs)(g:Sg (m+1) b vs w)(Q:b<=vs.length)(P:k<=a)(S:b<=q)(st:jf (m+1) b w):Out k q a m w:=by
 have O:=c.am;have U:=c.mb;intro i d C D E T;by_cases z:m+1<=i/\d<b
 .exact st i d z.1 D z.2
 intro x y j e;by_cases A:m+1<=i/\i<b
 .obtain ⟨H,L,M,F⟩:=g.mem (by omega) (by omega) j A.1 A.2;rw[g.2 d (by omega)]at e;exact h.cut c H d (by omega) (by omega) E (by omega) (by omega) x y F e
 rw[g.2 i (by omega)]at j;by_cases B:m+1<=d/\d<b
 .obtain ⟨K,L,M,G⟩:=g.mem (by omega) (by omega) e B.1 B.2;exact h.cut c i K C (by omega) (by omega) (by omega) (by omega) x y j G
 rw[g.2 d (by omega)]at e;exact h.cut c i d C D E (by omega) (by omega) x y j e
section
variable {s:Sl} {l:List I} {w:J}
abbrev rE(s:Sl)(l O:List I)(w:J)(a b:Nat):aH:=λr e=>r=ag (.tuple #[])/\∃d,Sq s l w e d/\Sg a b O d/\jf a b d
def XW(G:I.aY l<=1000000):∀(D a b j h:Nat) (e:Int) (y z:Bool) (d O:List I) (w2:J),b - a<D->a<=b->b<=h->h<=O.length->j<=a->lT a b d->Out j h a b d->Sq s l w w2 d->Sg j h O d->mg.L0 s (a:Int) (b:Int) e y z w2 (rE s l O w j h):=by
 intro D;induction D with
 |zero=>intro a b j h e y z d O w2 hD;omega
 |succ D ih=>
  intro a b j h e y z d O w2 hD Q x hb B low out Z g;have hl:=(Z.lt G).1;have hlen:=g.len;have eL:ao .i64 ((b:Int) - (a:Int))=((b - a:Nat):Int):=by rw[aS _ (by omega)];omega
  have fin:∀{d vs:List I} {q:J},Out j h a b d->d.length=O.length->Sg j h O d->Sq s l w q vs->Sg a b d vs->jf a b vs->rE s l O w j h (ag (.tuple #[])) q:=λout hlen g A C st=>
   ⟨rfl,_,A,g.trans (C.wide B x),(out.sg C B Q x (by omega)).Ek st⟩
  have s6:∀(e L:Int) (p:Nat) (d:List I) (q:J),a<=p->p<b->d.length=O.length->lT a b d->Out j h a b d->Sq s l w q d->Sg j h O d->mg.S6 s (a:Int) (b:Int) e L (p:Int) q (rE s l O w j h):=by
   intro e L p d q H K hlen low out A g;obtain⟨pv,hp⟩:=ed (O:=d) (i:=p) (by omega);refine(Ya A G (by omega) hp H K).mono ?_;rintro _ M ⟨m,t,vs,rfl,E,F,c⟩;have ac:=c.am;have ai:=c.mb;have ad:=F.len;have ah:=low.sg F (by omega);have aj:=out.sg F B Q x (by omega);have T:=g.trans (F.wide B x);have em:ao .i64 ((m:Int)+1)=((m+1:Nat):Int):=bd _ (by omega);refine⟨_,_,rfl,bD (λ_=>?_) (λ_=>?_)⟩
   .refine (mg.ok _ _ _ _ M _ (ih a m a m e true true vs vs M (by omega) ac (bg _) (by omega) (bg _) (λV W j2=>ah V W (by omega)) (Out.start _ _ _) E (Sg.refl _ _ _))).mono ?_;rintro _ Y ⟨rfl,xs,P,N,st⟩;refine⟨rfl,?_⟩;rw[em];have ap:=N.len;refine ih (m+1) b j h e _ _ xs O Y (by omega) (by omega) x hb (by omega) ?_ (c.left aj N (by omega) B x st) P (T.trans (N.wide B (by omega)));intro V W j2 j0 aa ab S U;rw[N.2 _ (by omega)]at S U;exact c.low V W j2 j0 aa ab S U
   .show ak _ _ _ _ _;rw[em];refine(mg.ok _ _ _ _ M _ (ih (m+1) b (m+1) b e true true vs vs M (by omega) (by omega) (bg _) (by omega) (bg _) c.low (Out.start _ _ _) E (Sg.refl _ _ _))).mono ?_;rintro _ Y ⟨rfl,xs,P,N,st⟩;refine⟨rfl,?_⟩;have ap:=N.len;refine ih a m j h e _ _ xs O Y (by omega) ac (by omega) hb B ?_ (c.right aj N (by omega) B x st) P (T.trans (N.wide (by omega) x));intro V W j2 j0 aa ab S U;rw[N.2 _ (by omega)]at S U;exact ah V W (by omega) j0 aa ab S U
  have s5:∀(e L:Int) (y z:Bool) (p:Nat) (d:List I) (q:J),a<=p->p<b->d.length=O.length->lT a b d->Out j h a b d->Sq s l w q d->Sg j h O d->mg.S5 s (a:Int) (b:Int) e y z L (p:Int) q (rE s l O w j h):=by
   intro e L y z p d q H K hlen low out A g;dsimp only[mg.S5,ax];refine A.dr λM E=>aG (λh0=>?_) (λ_=>s6 e L p d M H K hlen low out E g);have ae:0<a:=by omega
   obtain⟨pv,hp⟩:=ed (O:=d) (i:=p) (by omega);obtain⟨aa,S⟩:=ed (O:=d) (i:=a - 1) (by omega);refine E.cmp G S hp (mc ae (by omega)) rfl λY P=>dN (λhc=>?_) (λ_=>s6 e L p d Y H K hlen low out P g);have al:=o1 (g5 hc);refine(X7 P G (by omega) hp H K).mono ?_;rintro _ w6 ⟨m,vs,rfl,h6,g6,c⟩;have an:=low.sg g6 (by omega);have ac:=c.am;have ai:=c.mb;obtain⟨o7,l7⟩:=c.Xt (out.sg g6 B Q x (by omega)) λV ab W j2 U=>qw al (an V W j2 ae aa ab ((g6.2 _ (by omega)).trans S) U);exact⟨_,rfl,ih m b j h e y z vs O w6 (by omega) ai x hb (by omega) l7 o7 h6 (g.trans (g6.wide B x))⟩
  have s4:∀(e L:Int) (y z:Bool) (p:Nat) (k:Int) (d:List I) (q:J),a<=p->p<b->d.length=O.length->lT a b d->Out j h a b d->Sq s l w q d->Sg j h O d->mg.S4 s (a:Int) (b:Int) e y z L (p:Int) k q (rE s l O w j h):=by intro e L y z p k d q H K hlen low out A g;have k5:=s5 e L y z p d q H K hlen low out A g;refine bD (λ_=>bD (λ_=>bD (λ_=>?_) (λ_=>k5)) (λ_=>k5)) (λ_=>k5);refine(X' A G (by omega) (by omega) low).mono ?_;rintro _ M ⟨t,vs,rfl,E,F,st⟩;have ad:=F.len;exact⟨_,rfl,bD (λht=>fin out hlen g E F (st ht)) (λ_=>s5 e L y z p vs M H K (by omega) (low.sg F (by omega)) (out.sg F B Q x (by omega)) E (g.trans (F.wide B x)))⟩
  have s2:∀(e L:Int) (y z:Bool) (d:List I) (q:J),a+12<b->d.length=O.length->lT a b d->Out j h a b d->Sq s l w q d->Sg j h O d->mg.S2 s (a:Int) (b:Int) e y z L q (rE s l O w j h):=by
   intro e L y z d q af hlen low out A g;refine(Yb A G af (by omega)).mono ?_;rintro _ M ⟨p,k,rfl,H,K,E⟩;refine⟨_,_,rfl,bD (λ_=>?_) (λ_=>s4 e L y z p k d M H K hlen low out E g)⟩;refine(Yc E G (by omega) (by omega)).mono ?_;rintro _ Y ⟨rfl,vs,P,T⟩;have ad:=T.len;have e1:ao .i64 ((b:Int) - 1)=((b - 1:Nat):Int):=mc (by omega) (by omega);have e2:ao .i64 ((p:Int) - (a:Int))=((p - a:Nat):Int):=by rw[aS _ (by omega)];omega
   have e3:ao .i64 (((b - 1:Nat):Int) - ((p - a:Nat):Int))=((b - 1 - (p - a):Nat):Int):=by rw[aS _ (by omega)];omega
   refine⟨rfl,?_⟩;rw[e1,e2,e3];exact s4 e L y z _ 1 vs Y (by omega) (by omega) (by omega) (low.sg T (by omega)) (out.sg T B Q x (by omega)) P (g.trans (T.wide B x))
  refine mg.bE _ _ _ _ _ _ _ _ ?_;rw[eL];refine aG (λ_=>?_) (λaf=>bD (λ_=>?_) (λ_=>dN (λ_=>?_) (λ_=>s2 _ _ _ _ d w2 (by omega) hlen low out Z g)))
  .refine (X9 Z G Q (by omega)).mono ?_;rintro _ q ⟨rfl,vs,A,C,st⟩;exact⟨rfl,fin out hlen g A C st⟩
  .refine (X8 Z G (by omega) (by omega)).mono ?_;rintro _ q ⟨rfl,vs,A,C,st⟩;exact⟨rfl,fin out hlen g A C st⟩
  .refine (X6 Z G Q (by omega)).mono ?_;rintro _ q ⟨rfl,vs,A,C⟩;have ad:=C.len;exact⟨rfl,s2 _ _ _ _ vs q (by omega) (by omega) (low.sg C (by omega)) (out.sg C B Q x (by omega)) A (g.trans (C.wide B x))⟩
end
def Zc(n:Nat):rG n:=by
 intro s l d L A j E z;have O:=I.cm j.bc;have N:=I.fq l;have q:Fl s l d d l:=x4 _ j (by intro K h;simp only[av,aR,aT]at h;subst h;exact⟨E,λG C B=>z G C (aO.1 B)⟩)
 have y:Sq s l d d l:=⟨q,.refl _⟩;refine Pc.ok _ d _ ((SK _ d).mono ?_);rintro _ k ⟨⟨t,rfl⟩,f⟩;refine⟨t,rfl,?_⟩;have D:=XW (s:=s) (l:=l) (w:=d) A (l.length+1) 0 l.length 0 l.length t true true l l k (by omega) (dn _) (bg _) (bg _) (bg _) (λM _ _ x=>absurd x (by omega)) (Out.start _ _ _) (y.bw f) (Sg.refl _ _ _);rw[show((s.n:Nat):Int)=((l.length:Nat):Int)by omega];refine(mg.ok _ _ _ _ k _ D).mono ?_;rintro _ P ⟨rfl,F,e,g,st⟩;exact⟨rfl,⟨F,rfl,g.1,Zl (by rw[g.len];exact st),e.H.get 0⟩,e.fr⟩
def wT(d:BL):dA:=⟨d,0,0,0,0⟩
section
variable {l:List dA}
end
mutual
def It:∀q:Rx,cN q=true->h8 q=true
 |.mk k lo w l,h=>by
  unfold cN at h;simp only[bf]at h;have d:=h.2;have j:dV l=true->m4 l=true:=Iu l;unfold h8;split at d
  .rename_i e;have:l=[]:=by simpa using d
   subst this;have e:k=0\/k=1:=e;unfold m4;rcases e with rfl|rfl<;>decide
  .split at d
   .rename_i e;simp only[bf]at d;have:l=[]:=by simpa using d.1
    subst this;subst e;unfold m4;decide
   .split at d
    .rename_i e;rw[j d];rcases e with rfl|rfl|rfl<;>simp
    .split at d
     .rename_i e;simp only[bf,beq_iff_eq]at d;rw[j d.2];rcases e with rfl|rfl<;>simp[d.1]
     .cases d
def Iu:∀l:List Rx,dV l=true->m4 l=true
 |[],_=>rfl
 |a::l,d=>by unfold dV at d;unfold m4;simp only[bf]at d;rw[It a d.1,Iu l d.2];rfl
end
abbrev T4(V:List Nat)(f:cD)(xs:Array ab)(w:J)(K:ByteArray->Int->J->Prop):Prop:=ee V aa f xs w λh j=>∃d:ByteArray,∃e:Int,h=ag (.tuple #[.string d,.i e])/\K d e j
def FU{a b:Nat}(h:¬a<b):Nat.blt a b=false:=by
 cases d:Nat.blt a b with
 |false=>rfl
 |true=>rw[Nat.blt_eq]at d;exact absurd d h
def Z1(s:ByteArray)(w:J):ak aa CP #[.string s] w λr w'=>r=ag (.bool (kC (bl s)))/\ah w w':=by
 have hl:(bl s).length=s.size:=dP s;have V:LH F0 w w [] []:=bP [] (by simp);refine Qc.aD s w _ ((SS s w).mono ?_);rintro r w1 ⟨f1,S⟩;have H1:=V.bw f1;have no:∀(a e:Int),e≠0->kC (bl s)=false->r=ag (.tuple #[.agg #[.int .i64 0,.int .u8 0,.int .u8 0,.slice none 0 0],.int .i64 a,.int .i64 e])->∃(t0 t1 t2:Int) (t3:Sl) (t4 t5:Int),r=ag (.tuple #[.agg #[.i t0,.int .u8 t1,.int .u8 t2,t3.v],.i t4,.i t5])/\vH [] w1 λh M=>bn (t5 !=0) (loc [h] M λy=>(Ending.returned (.bool false)=ag (.bool (kC (bl s)))/\ah w y)) (loc [h] M λy=>T3 [h] CB #[.agg #[.i t0,.int .u8 t1,.int .u8 t2,t3.v]] y λan ao ap aq ar U=>vH [h] U λG N=>
   bn (ar !=0) (loc [h,G] N λT=>(Ending.returned (.bool false)=ag (.bool (kC (bl s)))/\ah w T)) (loc [h,G] N λT=>T4 [h,G] Lh #[.agg #[.i an,.int .u8 ao,.int .u8 ap,aq.v]] T λau av ad=>bn (av==0) (Ending.returned (.bool (au.toList==s.toList))=ag (.bool (kC (bl s)))/\ah w ad) (Ending.returned (.bool false)=ag (.bool (kC (bl s)))/\ah w ad))):=λa e K hn S=>⟨0,0,0,⟨none,0,0⟩,a,e,S,H1.aJ λh M O=>dv (λ_=>O.ai λw3 E=>⟨by rw[hn],E.fr⟩) (λA=>absurd A K)⟩
 rcases S with⟨h1,k⟩|⟨h1,res,am,⟨a,rfl,k⟩|⟨d,rfl,⟨H,k⟩|⟨H,t,k,C,pt,ft⟩⟩⟩
 .refine no _ _ (by decide) ?_ k;unfold kC;rw[show Nat.blt 4096 (bl s).length=true from by rw[Nat.blt_eq];omega];rfl
 all_goals have Q:Nat.blt 4096 (bl s).length=false:=FU (by omega)
 all_goals have j:=aad am
 .have j:Sum.inl a=tH (bl s):=j;refine no _ _ (by decide) ?_ k;unfold kC;rw[Q,<-j];rfl
 .have j:Sum.inr (fe d)=tH (bl s):=j;refine no _ _ (by decide) ?_ k;unfold kC;rw[Q,<-j];dsimp only[cond_false];rw[HZ,show Nat.blt 64 (eM d.tp).sz=true from by rw[Nat.blt_eq];exact H];rfl
 .have j:Sum.inr (fe d)=tH (bl s):=j;have ab:nK 64 (eM d.tp):=BH _ (by have:=Cj (eM d.tp);omega);have B:kC (bl s)=if nW (eM d.tp)=0 then(if jF (iK (eM d.tp))=0 then cO 0 (iK (eM d.tp)) (bb (iK (eM d.tp)))==bl s else false)else false:=by unfold kC;rw[Q,<-j];dsimp only[cond_false];have:Nat.blt 64 (eM d.tp).sz=false:=FU (by omega);rw[HZ,this];rfl
  generalize eM d.tp=x at C ab B H;have ae:=V.gx (.tree t) f1 pt (λb P=>.inl (ft b (aO.1 P)));have aw:t.sz<=64:=by rw[<-I.eB,C];exact H
  refine⟨_,_,_,t.s,_,_,k,ae.aJ λh M O=>dv (λA=>absurd rfl A) (λ_=>O.ai λw3 E=>?_)⟩;refine E.hD (SR (Zc 64) (by omega) t w3 (by omega) (by rw[C];exact ab) (E.getD 0)) ?_;rintro _ w4 ⟨u,rfl,D,pu,fu⟩ _ F4;rw[C]at D;rw[C];have H4:=F4.rd (.tree u) pu λb P=>fu b (aO.1 P);refine⟨_,_,_,u.s,_,rfl,H4.aJ λG w5 W=>dv (λL=>W.ai λy z=>⟨by rw[B,af L],z.fr⟩) (λK=>W.ai λy z=>?_)⟩;rw[aj K]at B;have ac:u.sz<=1000000:=by
   rw[<-I.eB,D];have:nW x=0:=K;unfold nW at this;unfold iK;split at this
   .rename_i q;rw[aj q];unfold oX at this;unfold oY;split at this
    .cases this
    .rename_i al;rw[af al];omega
   .rename_i q;exact absurd this q
  refine ha (N8.aD _ _ _ _ y _ ((gE (z.getD 1)).aJ λb1 U Y=>Y.ay (F6 u U ac (Y.getD 0)) ?_));rintro _ N rfl F;rw[D];refine⟨_,rfl,dv (λL=>⟨F.fr,_,_,rfl,aL (λA=>absurd A L) (λ_=>⟨by rw[B,af L],(z.bw F.fr).fr⟩)⟩) (λq=>F.ay (XS u 0 N ac (by omega) ?_ (F.getD 0)) ?_)⟩
  .exact It _ (by rw[D];exact(EU q).1)
  .rintro _ w9 rfl Z;refine⟨_,rfl,Z.fr,_,_,rfl,a3 rfl ⟨?_,(z.bw Z.fr).fr⟩⟩;rw[B,aj q,D];congr 2;have:=rR (cO 0 (iK x) (bb (iK x))) (bl s);rw[lX]at this;exact this
def M1(t:ByteArray):wW t:=λd=>Z1 t d
def uG(t:BL):Bool:=(match rW t with
 |some b=>kC t==b
 |none=>false)&&Nat.ble t.length 100
def iE(i:Nat):Bool:=(List.range 108).all (λd=>uG (lI (108 *i+d)))
def Vd:iE 0=true:=by kernel_rfl
def Ve:iE 1=true:=by kernel_rfl
def Vm:iE 2=true:=by kernel_rfl
def Vn:iE 3=true:=by kernel_rfl
def Vo:iE 4=true:=by kernel_rfl
def Vp:iE 5=true:=by kernel_rfl
def Vq:iE 6=true:=by kernel_rfl
def Vr:iE 7=true:=by kernel_rfl
def Vs:iE 8=true:=by kernel_rfl
def Vt:iE 9=true:=by kernel_rfl
def Vf:iE 10=true:=by kernel_rfl
def Vh:iE 11=true:=by kernel_rfl
def Vi:iE 12=true:=by kernel_rfl
def Vj:iE 13=true:=by kernel_rfl
def Vk:iE 14=true:=by kernel_rfl
def Vl:iE 15=true:=by kernel_rfl
def Vc:∀i,i<16->iE i=true:=by
 intro i e
 match i,e with
 |0,_=>exact Vd
 |1,_=>exact Ve
 |2,_=>exact Vm
 |3,_=>exact Vn
 |4,_=>exact Vo
 |5,_=>exact Vp
 |6,_=>exact Vq
 |7,_=>exact Vr
 |8,_=>exact Vs
 |9,_=>exact Vt
 |10,_=>exact Vf
 |11,_=>exact Vh
 |12,_=>exact Vi
 |13,_=>exact Vj
 |14,_=>exact Vk
 |15,_=>exact Vl
 |n+16,d=>exact absurd d (by omega)
def Va(k:Nat)(h:k<1728):uG (lI k)=true:=by
 have d:=Vc (k / 108) (by omega);have e:=fi.1 d (k%108) (List.mem_range.2 (Nat.mod_lt _ (by omega)))
 rwa[Nat.div_add_mod]at e
def Ic:List BL:=[[],[97],[65],[115,101,118,101,110,116,101,101,110,45,108,101,116,116,101,114,115],[97,45,49],[45],[40],[122,122],[97,98],[98],[0],[97,97],[99],[100],[109],[110],[115],[116],[105],[122]]
def UR:Ic.all uG=true:=by kernel_rfl
def Ai(t:ByteArray):Prop:=bl t∈Ic\/∃d,t=ba (lI d)
def Xu{t:ByteArray}(h:Ai t):uG (bl t)=true:=by
 rcases h with h|⟨d,rfl⟩
 .exact fi.1 UR _ h
 .rw [mG,Qk];exact Va (d%1728) (Nat.mod_lt _ (by omega))
def CX{t:ByteArray}(h:Ai t):w7 t/\wW t/\t.size<=100:=by
 have j:=Xu h;unfold uG at j;simp only[bf]at j;obtain⟨d,e⟩:=j;have e:=Nat.le_of_ble_eq_true e;rw[dP]at e;refine⟨⟨by omega,?_⟩,M1 t,e⟩;cases k:rW (bl t)with
 |none=>rw[k]at d;cases d
 |some b=>
  rw[k]at d;have d:=eq_of_beq d;unfold mJ;rw[d]
def zJ(x:Int):a5 (ao .i64 x):=by rw[IntKind.wrap_i64];omega
structure MdV(d:Nx):Prop extends MdN d where
 nv:d.op≠0
def lU(w:J)(r:cr)(Y:J):Prop:=∃d:Nd,r=ag d.v/\MdV d.x/\d.P Y/\∀b∈aw d.ks,w.heap.size<=b
def WO{op n m u:Int}{d:ByteArray}{st:bo}{ks:List Int}(h:MdV ⟨op,[],n,m,u,d,st⟩)(e:ks.length<=3):MdV ⟨op,ks,n,m,u,d,st⟩:=⟨⟨h.Dc,h.Dd,e,h.n,h.m,h.u,h.tx,h.re⟩,h.nv⟩
def VT(op:Int):-1<=cU op/\cU op<=3:=by unfold cU;repeat' split<;>omega
section
variable {w:J} {s:Sl} {l:List Nd} {n1 m2 k3:Int} {b8 km:Nat}
def Xh(hm:a5 m2)(C:a5 k3)(hl:l.length<=e4){op n m u:Int}{G:ByteArray}{st:bo}(hd:MdV ⟨op,[],n,m,u,G,st⟩)(many:Nat)(an:many<=3)(x:Int)(ab:-1<=x)(ac:x<(l.length:Int)):
  ∀(d i:Nat) (sl:Sl) (ks:List Int) (E:J),i+d=many->ks.length=i->(∀O∈ks,0<=O/\O<(l.length:Int))->LH F0 w E [.g b8,.g km,qH sl ks] [.gr s l]->
   iG.kj s m2 k3 b8 0 ⟨none,0,0⟩ 0 0 0 (bJ #[]) 0 0 0 km op sl n m u G st.k st.n st.x x (many:Int) (i:Int) E λr A=>lU w r A/\ah w A:=by
 intro d;unfold e4 at hl;induction d with
 |zero=>
  intro i sl ks E hi hlen W B;refine iG.nA _ _ _ _ _ _ _ _ _ _ _ _ _ _ _ _ _ _ _ _ _ _ _ _ _ _ _ _ (a1 (aV (by omega)) (B.ai λH y=>⟨⟨⟨⟨op,ks,n,m,u,G,st⟩,sl⟩,rfl,WO hd (by omega),yu (y.get 2),λb V=>(y.new _ (aE (i:=2) rfl) b V).resolve_right id⟩,y.fr⟩))
 |succ d ih=>
  intro i sl ks E hi hlen W B;have U:∀(D:Int) (H:J) (L:List En),-1<=D->D<(l.length:Int)->LH F0 w H [.g b8,.g km,qH sl ks] [.gr s l]->iG.mD s m2 k3 b8 0 ⟨none,0,0⟩ 0 0 0 (bJ #[]) 0 0 0 km op sl n m u G st.k st.n st.x x (many:Int) (i:Int) D H λr A=>lU w r A/\ah w A:=by
   intro D H L h1 Z y;refine aG (λh0=>y.ai λQ z=>⟨⟨⟨⟨-1,[],0,0,0,ba [],cY⟩,⟨none,0,0⟩⟩,rfl,⟨⟨by decide,by decide,by decide,by decide,by decide,by decide,λ_=>by decide,λae=>by cases ae⟩,by decide⟩,Rd.nil Q,λb V=>by cases V⟩,z.fr⟩) (λh0=>?_);refine y.iA 2 h4 rfl (λs' Q z=>?_) (by have:=yt (y.get 2);omega);have ad:LH F0 w Q [.g b8,.g km,qH s' (ks++[D])] [.gr s l]:=by rw[qH,g2];exact z
   refine ad.ai λh q=>?_;rw[bd _ (by omega)];refine ih (i+1) s' (ks++[D]) h (by omega) (by simp[hlen]) (λO C=>?_) q;rcases aX.1 C with C|C
   .exact W O C
   .simp only[av,aR,aT]at C;omega
  refine iG.nA _ _ _ _ _ _ _ _ _ _ _ _ _ _ _ _ _ _ _ _ _ _ _ _ _ _ _ _ (a3 (aP (by omega)) (aG (λaf=>aG (λaj=>?_) (λaj=>U x E [] ab ac B)) (λaf=>U x E [] ab ac B)));obtain⟨S,rfl⟩:∃S:Nat,x=(S:Int):=⟨x.toNat,by omega⟩;refine B.ay (TL (bV.1 (B.getD 0)) op S (i:Int) m2 (by omega) hm) ?_;rintro _ H ⟨t,rfl⟩ y;refine⟨_,_,_,rfl,y.aJ λY Q z=>?_⟩;have T:∀(t:bo) (h:J),LH F0 w h [.g b8,.g km,qH sl ks,.g Y] [.gr s l]->iG.hC s m2 k3 b8 0 ⟨none,0,0⟩ 0 0 0 (bJ #[]) 0 0 0 km op sl n m u G st.k st.n st.x (S:Int) (many:Int) (i:Int) Y t.k t.n t.x h λr A=>lU w r A/\ah w A:=by intro t h q;have e5:ao .i64 (5 *(i:Int))=5 *(i:Int):=aS _ (by omega);have e6:ao .i64 (1+5 *(i:Int))=1+5 *(i:Int):=aS _ (by omega);refine⟨by rw[e5,e6];omega,q.ai λw5 I=>I.ay (AJ (bV.1 (I.getD 0)) t _ (zJ _) (by unfold e4;exact hl)) ?_⟩;rintro _ w6 ⟨am,rfl,ak,al⟩ H6;exact⟨_,rfl,U am w6 [] ak al (H6.take 3)⟩
  refine aL (λho=>aL (λZ=>?_) (λZ=>z.ai λh q=>T t h q)) (λho=>z.ai λh q=>T t h q);have hn:=yt (z.get 2);have M:ks[1]? =some (ks[1]'(by omega)):=a6 (by omega);have ag:=W _ (aE M);generalize ks[1]'(by omega)=kk at M ag;refine⟨by omega,by omega,(yu (z.get 2)).cell M (j:=aZ 1 *1) rfl λp hp _=>z.ai λh q=>?_⟩;have aa:l[kk.toNat]? =some (l[kk.toNat]'(by omega)):=a6 (by omega);generalize l[kk.toNat]'(by omega)=e at aa;have F:h.cell? (p.add (aZ 1 *1))=some (.int .i64 kk):=by have:=(yu (q.get 2)).cell M (j:=aZ 1 *1) rfl (K:=λP=>∃q',sl.a=some q'/\h.cell? (q'.add (aZ 1 *1))=some (.int .i64 kk)) (λP N F=>⟨P,N,F⟩);rw[hp]at this;obtain⟨P,N,F⟩:=this;cases N;exact F
  exact⟨kk,F,hM (bV.1 (q.getD 0)) (i:=kk.toNat) (by omega) aa λP N c=>⟨_,_,_,c.s0,c.s1,c.s2,q.ai λw5 I=>T e.x.st w5 I⟩⟩
def Xi(Y:a5 n1)(T:a5 m2)(S:a5 k3)(D:l.length<=e4){op n m u:Int}{j:ByteArray}{st:bo}(O:MdV ⟨op,[],n,m,u,j,st⟩)(x:Int)(aa:0<=x)(U:x<(l.length:Int))(I:J)(H:LH F0 w I [.g b8,.g km] [.gr s l]):
  iG.bU s n1 m2 k3 b8 0 ⟨none,0,0⟩ 0 0 0 (bJ #[]) 0 0 0 km op ⟨none,0,0⟩ n m u j st.k st.n st.x x I λr h=>lU w r h/\ah w h:=by
 refine H.ay (F3 op I) ?_;rintro _ z rfl q;have Z:=VT op;have N:∀(x:Int) (d:J),-1<=x->x<(l.length:Int)->LH F0 w d [.g b8,.g km] [.gr s l]->iG.gI s m2 k3 b8 0 ⟨none,0,0⟩ 0 0 0 (bJ #[]) 0 0 0 km op ⟨none,0,0⟩ n m u j st.k st.n st.x x (cU op) d λr h=>lU w r h/\ah w h:=by
  intro x d B C y;have e:=y.h7 bR 1;by_cases W:cU op<0
  .refine iG.nA _ _ _ _ _ _ _ _ _ _ _ _ _ _ _ _ _ _ _ _ _ _ _ _ _ _ _ _ (a1 (aV (by omega)) (e.ai λz q=>⟨⟨⟨⟨op,[],n,m,u,j,st⟩,⟨none,0,0⟩⟩,rfl,O,Rd.nil z,λb Q=>by cases Q⟩,q.fr⟩))
  .have P:cU op=(((cU op).toNat:Nat):Int):=by omega
   show iG.kj _ _ _ _ _ _ _ _ _ _ _ _ _ _ _ _ _ _ _ _ _ _ _ _ (cU op) 0 _ _;rw[P];exact Xh T S D O (cU op).toNat (by omega) x B C (cU op).toNat 0 ⟨none,0,0⟩ [] d (by omega) rfl (by simp) e
 have M:∀(x:Int) (d:J),-1<=x->x<(l.length:Int)->LH F0 w d [.g b8,.g km] [.gr s l]->iG.cJ s n1 m2 k3 b8 0 ⟨none,0,0⟩ 0 0 0 (bJ #[]) 0 0 0 km op ⟨none,0,0⟩ n m u j st.k st.n st.x x (cU op) d λr h=>lU w r h/\ah w h:=by intro x d B C y;refine aL (λE=>y.ay (fa 8 d) ?_) (λE=>N x d B C y);rintro _ V rfl e;refine⟨_,_,_,rfl,e.ay (AJ (bV.1 (e.getD 0)) (bz 8) _ (zJ _) D) ?_⟩;rintro _ K ⟨L,rfl,F,G⟩ A;exact⟨_,rfl,N L K F G A⟩
 refine⟨_,rfl,aL (λE=>q.ay (fa 1 z) ?_) (λE=>M x z (by omega) U q)⟩;rintro _ V rfl e;refine⟨_,_,_,rfl,e.ay (AJ (bV.1 (e.getD 0)) (bz 1) _ (zJ _) D) ?_⟩;rintro _ K ⟨L,rfl,F,G⟩ A;exact⟨_,rfl,M L K F G A⟩
end
def opsL:List Int:=[4,5,6,7,8,9,10,11,12,13,14,15,16,17,18,19,20,21,22,23,24,25,26,27,28,29,30,31,32,33,34,1,2,3,18,18,16,6,24,25]
def XC{i:Nat}{op:Int}(h:opsL[i]? =some op):1<=op/\op<=34:=by
 have e:(opsL.all λd=>aq (1<=d)&&aq (d<=34))=true:=by decide
 have:=fi.1 e op (aE h);simpa using this
def tI:List ByteArray:=[ba [],ba [97],ba [97,98],ba [98],ba [0],ba [97,97]]
def aae{i:Nat}{t:ByteArray}(h:tI[i]? =some t):t.size<=16:=by
 have d:(tI.all λe=>aq (e.size<=16))=true:=by decide
 have:=fi.1 d t (aE h);simpa using this
def Gi{w:J}{s:Sl}{l:List Nd}(h:GP w s l)(aF:1<=l.length)(hl:l.length<=e4)(hv:∀aq∈l,bW aq.x.st=true)(C d B:Int)(hn:a5 C)(M:a5 d)(hk:a5 B):
  ak aa KD #[s.v,.i C,.i d,.i B] w λr z=>lU w r z/\ah w z:=by
 have hs:=gZ h;refine iG.aD _ _ _ _ w _ ((Cf h).aJ λL w1 H1=>H1.nw λw2 _ H2=>H2.ay (iY C 40 w2 (by omega) hn) ?_);have hr:=iT C 40 (by omega);generalize gy C 40=an at hr;rintro _ w3 rfl H3;obtain⟨j,rfl⟩:∃j:Nat,an=(j:Int):=⟨an.toNat,by omega⟩;have af:opsL[j]? =some (opsL[j]'(by show j<40;omega)):=a6 _;have aj:=XC af;generalize opsL[j]'(by show j<40;omega)=op at af aj;have ac:bp w3 ⟨some (ae w1.heap.size),40,40⟩ opsL:=AE (T:=bR) (H3.ob 1) rfl;refine⟨_,rfl,by omega,by show(j:Int)<40;omega,ac.cell af (by omega) λp hp P=>⟨op,P,H3.aJ λI w4 H4=>H4.ai λw5 H5=>H5.ay (iY _ _ w5 (by omega) (zJ _)) ?_⟩⟩;have az:=iT (ao .i64 (bN C 64)) ((s.n:Nat):Int) (by omega);generalize gy (ao .i64 (bN C 64)) ((s.n:Nat):Int)=N at az;rintro _ G rfl D;have H:∀{n m u:Int} {W:ByteArray} {st:bo} {A:J},MdV ⟨op,[],n,m,u,W,st⟩->LH F0 w A [.g L,.g I] [.gr s l]->iG.bU s C d B L 0 ⟨none,0,0⟩ 0 0 0 (bJ #[]) 0 0 0 I op ⟨none,0,0⟩ n m u W st.k st.n st.x N A λr z=>lU w r z/\ah w z:=λhd q=>Xi hn M hk hl hd N (by omega) (by omega) _ q;have D:LH F0 w G [.g L,.g I] [.gr s l]:=D.ih [true,false,true];have em:bJ #[]=ba []:=rfl;have base:∀{n m u:Int} {W:ByteArray} {st:bo},0<=n/\n<=100->0<=m/\m<=100->0<=u/\u<=1000->(op≠33->W.size<=16)->(op=33->∃ag,W=ba (lI ag))->MdV ⟨op,[],n,m,u,W,st⟩:=λh1 h2 h3 h4 Z=>⟨⟨by show -1<=op;omega,aj.2,by simp,h1,h2,h3,h4,Z⟩,by show op≠0;omega⟩;have zz:(0:Int)<=0/\(0:Int)<=100:=by decide
 have S:(0:Int)<=0/\(0:Int)<=1000:=by decide
 refine⟨_,rfl,aL (λh1=>?_) (λh1=>aL (λh2=>?_) (λh2=>aL (λh3=>?_) (λh3=>aL (λh4=>?_) (λh4=>?_))))⟩
 .refine D.ay (iY d 3 G (by omega) M) ?_;have au:=iT d 3 (by omega);generalize gy d 3=v at au;rintro _ A rfl q;refine⟨_,rfl,?_⟩;have S1:∀(F:Int),1<=F->F<=7->iG.bT s C d B L 0 ⟨none,0,0⟩ 0 0 0 (bJ #[]) 0 0 0 I op ⟨none,0,0⟩ 0 0 0 (bJ #[]) 0 0 0 N F A λr z=>lU w r z/\ah w z:=by
   intro F Z h6;refine q.ay (fa F A) ?_;rintro _ E rfl y;have P:∃c:Nat,(if 3<F then(3:Int)else F)=(c:Int)/\1<=c/\c<=3:=⟨(if 3<F then(3:Int)else F).toNat,by split<;>omega,by split<;>omega,by split<;>omega⟩;obtain⟨c,P,aB,aC⟩:=P;rw[P];have ec:ao .u64 (c:Int)=(c:Int):=IntWalk.u64_in _ (by omega);rw[ec];have ep:∃Q:Int,ao .i64 (1 *2^min (aZ (c:Int)) (IntKind.bits .i64))=Q/\1<=Q/\Q<=8:=by
    have:c=1\/c=2\/c=3:=by omega
    rcases this with rfl|rfl|rfl
    .exact ⟨2,by decide,by decide,by decide⟩
    .exact ⟨4,by decide,by decide,by decide⟩
    .exact ⟨8,by decide,by decide,by decide⟩
   obtain⟨Q,eq,q1,q2⟩:=ep;rw[eq];refine⟨_,_,_,rfl,by omega,y.ai λY O=>O.ay (iY B Q Y (by omega) hk) ?_⟩;have ax:=iT B Q (by omega);generalize gy B Q=a at ax;rintro _ aA rfl ad;have ea:ao .u64 a=a:=IntWalk.u64_in _ (by omega);refine⟨_,rfl,ad.ai λaH ap=>?_⟩;rw[ea];exact H (st:=bz F) (base zz zz (by omega) (λ_=>by decide) (λh=>by omega)) ap
  have U:ao .i64 (1+v)=1+v:=aS _ (by omega);show iG.bq s C d B L 0 ⟨none,0,0⟩ 0 0 0 _ 0 0 0 I op ⟨none,0,0⟩ 0 0 0 _ 0 0 0 N (ao .i64 (1+v)) A _;rw[U];exact aL (λ_=>S1 7 (by decide) (by decide)) (λ_=>S1 _ (by omega) (by omega))
 .refine D.nw λA _ q=>q.ay (iY d 6 A (by omega) M) ?_;have av:=iT d 6 (by omega);generalize gy d 6=v at av;rintro _ E rfl y;obtain⟨i,rfl⟩:∃i:Nat,v=(i:Int):=⟨v.toNat,by omega⟩;have V:tI[i]? =some (tI[i]'(by show i<6;omega)):=a6 _;have am:=aae V;generalize tI[i]'(by show i<6;omega)=t at V am;have ac:Rd E ⟨some (ae G.heap.size),6,6⟩ (tI.map Value.string):=rT (T:=fW) (y.ob 2) rfl;refine⟨_,rfl,by omega,by show(i:Int)<6;omega,Rd.get ac (i:=i) (v:=.string t) (by simp[V]) (by omega) λp hp P=>⟨t,P,y.ai λY O=>?_⟩⟩;exact H (st:=cY) (base zz zz S (λ_=>am) (λh=>by omega)) (O.take 2)
 .refine D.nw λA _ q=>q.ay (iY d 2 A (by omega) M) ?_;have ab:=iT d 2 (by omega);generalize gy d 2=v at ab;rintro _ E rfl y;obtain⟨i,rfl⟩:∃i:Nat,v=(i:Int):=⟨v.toNat,by omega⟩;have V:([⟨2,2,1⟩,⟨3,1,1⟩]:List bo)[i]? =some (([⟨2,2,1⟩,⟨3,1,1⟩]:List bo)[i]'(by show i<2;omega)):=a6 _;generalize([⟨2,2,1⟩,⟨3,1,1⟩]:List bo)[i]'(by show i<2;omega)=t at V;have ac:bx 3 E ⟨some (ae G.heap.size),2,2⟩ (([⟨2,2,1⟩,⟨3,1,1⟩]:List bo).flatMap gn):=uB (T:=cg) (y.ob 2) rfl;obtain⟨g1,g2,g3⟩:=ek ac rfl V (K:=λp=>I9 E (p.add (aZ (i:Int) *3)) λa b c=>loc [L,I] E λY=>iG.bU s C d B L 0 ⟨none,0,0⟩ 0 0 0 (bJ #[]) 0 0 0 I op ⟨none,0,0⟩ 0 0 0 (bJ #[]) a b c N Y λr z=>lU w r z/\ah w z) (λp hp c=>⟨_,_,_,c.c0,c.c1,c.c2,y.ai λY O=>H (st:=t) (base zz zz S (λ_=>by decide) (λh=>by omega)) (O.take 2)⟩);exact⟨_,rfl,g1,g2,g3⟩
 .obtain ⟨xn,rfl⟩:∃xn:Nat,N=(xn:Int):=⟨N.toNat,by omega⟩;have hg:l[xn]? =some (l[xn]'(by omega)):=a6 (by omega);generalize l[xn]'(by omega)=e at hg;have aG:=lK (hv e (aE hg));refine hM (bV.1 (D.getD 0)) rfl hg λp hp c=>⟨_,c.s1,D.ay (iY d _ G (by split<;>omega) M) ?_⟩;have al:=iT d (if 1<e.x.st.n then e.x.st.n else 1) (by split<;>omega);generalize gy d (if 1<e.x.st.n then e.x.st.n else 1)=a at al;have ha:a<64:=by have:=al.2;split at this<;>omega
  rintro _ A rfl q;have U:ao .i64 (a+1)=a+1:=aS _ (by omega);refine⟨_,rfl,q.ai λE y=>y.ay (iY B _ E (by rw[U];omega) hk) ?_⟩;rw[U];have aw:=iT B (a+1) (by omega);generalize gy B (a+1)=b at aw;rintro _ Y rfl O;exact⟨_,rfl,O.ai λaA ad=>H (st:=cY) (base (by omega) (by omega) S (λ_=>by decide) (λh=>by omega)) ad⟩
 have S8:op≠33->iG.pT s C d B L 0 ⟨none,0,0⟩ 0 0 0 (bJ #[]) 0 0 0 I op ⟨none,0,0⟩ 0 0 0 (bJ #[]) 0 0 0 N G λr z=>lU w r z/\ah w z:=by intro ar;refine D.ay (iY d 2 G (by omega) M) ?_;have ab:=iT d 2 (by omega);generalize gy d 2=v at ab;rintro _ A rfl q;have U:ao .i64 (1+v)=1+v:=aS _ (by omega);refine⟨_,rfl,q.ai λE y=>?_⟩;rw[U];exact H (st:=cY) (base (by omega) zz S (λ_=>by decide) (λh=>absurd h ar)) y
 refine aL (λZ=>a3 (beq_iff_eq.2 Z) (S8 (by omega))) (λZ=>aL (λh6=>S8 (by omega)) (λh6=>aL (λh7=>?_) (λh7=>aL (λh8=>D.ay (SW d M G) ?_) (λh8=>H (st:=cY) (base zz zz S (λ_=>by decide) (λh=>absurd h h8)) D))))
 .refine D.ay (iY d 3 G (by omega) M) ?_;have ab:=iT d 3 (by omega);generalize gy d 3=v at ab;rintro _ A rfl q;exact⟨_,rfl,q.ai λE y=>H (st:=cY) (base (by omega) zz S (λ_=>by decide) (λh=>by omega)) y⟩
 .rintro _ A ⟨ag,rfl⟩ q;exact⟨_,rfl,q.ai λE y=>H (st:=cY) (base zz zz S (λh=>absurd h8 h) (λ_=>⟨ag,rfl⟩)) y⟩
def MdN.ok{d:Nx}(h:MdN d):oB d:=by
 refine⟨by have:=h.kl;unfold e4;omega,?_,?_,λe=>?_⟩
 .have:=h.n;exact⟨by omega,by omega⟩
 .have:=h.m;exact⟨by omega,by omega⟩
 .exact (CX (.inr (h.re e))).1
def hU.ok{g:List Nx}(h:hU g)(d:g.length<=e4):wR g:=⟨d,h.vg.val,h.vg.vars⟩
def RL(g:List Nx)(n:Nx):(gV g n).1.length<=g.length+1:=by
 unfold gV;split
 .simp
 .split
  .simp
  .split
   .simp
   .simp
def Aq{g:List Nx}{n:Nx}(h:(gV g n).2.2=0):(cq g n).2=0/\∃k:Nat,(gV g n).2.1=(k:Int)/\(gV g n).1[k]? =some (gH n (cq g n).1)/\((gV g n).1=g\/(gH n (cq g n).1∉g/\(gV g n).1=g++[gH n (cq g n).1]/\k=g.length)):=by
 unfold gV at h ⊢;split at h
 .rename_i d;exact absurd h d
 rename_i d;have d:(cq g n).2=0:=by omega
 refine⟨d,?_⟩;rw[af (by omega)];cases e:hg (gH n (cq g n).1) g 0 with
 |some i=>
  have:=xS e;rw[Nat.sub_zero]at this;exact⟨i,rfl,this.2,.inl rfl⟩
 |none=>
  rw[e]at h;dsimp only at h ⊢;split at h
  .cases h
  .rename_i j;rw[af j];exact⟨g.length,rfl,by simp,.inr ⟨B1 e,rfl,rfl⟩⟩
def RO{g:List Nx}{n:Nx}(e:Vg g)(h:(gV g n).2.2=0):Vg (gV g n).1:=by
 obtain⟨j,w,_,_,d⟩:=Aq h;rcases d with d|⟨k,q,_⟩
 .rw [d];exact e
 .rw [q];exact .snoc e (Jd (by rw[<-j])) k
def RM{g:List Nx}{n:Nx}(k:hU g)(e:MdN n)(h:(gV g n).2.2=0):hU (gV g n).1:=by
 refine⟨RO k.vg h,λq d=>?_⟩;obtain⟨x,z,_,_,j⟩:=Aq h;rcases j with j|⟨y,w,_⟩
 .rw [j]at d;exact k.nd q d
 .rw [w]at d;rcases aX.1 d with d|d
  .exact k.nd q d
  .simp only[av,aR,aT]at d;subst d;exact⟨e.Dc,e.Dd,e.kl,e.n,e.m,e.u,e.tx,e.re⟩
def hU.kl{l:List Nd}(h:hU (xs l)):∀d∈l,d.x.kids.length<=e4:=λd e=>by have:=(h.nd d.x (ch.2 ⟨d,e,rfl⟩)).kl;unfold e4;omega
def rC(w:J)(kind:Int)(cc:Nat)(r:cr)(Y:J):Prop:=∃(s:Sl) (l:List Nd),r=ag s.v/\hU (xs l)/\1<=l.length/\l.length<=10+cc/\GP Y s l/\(∀b∈(En.gr s l).fp,w.heap.size<=b)/\∀d∈xs l,d.op=0->d∈xs (gp kind)
def RN{g:List Nx}{n e:Nx}(j:n.op≠0)(d:e∈(gV g n).1)(h:e.op=0):e∈g:=by
 unfold gV at d;split at d
 .cases d
 .split at d
  .exact d
  .split at d
   .cases d
   .rcases aX.1 d with d|d
    .exact d
    .rw [bG.1 d]at h;exact absurd h j
def Rv(w:J)(cc:Nat)(r:cr)(Y:J):Prop:=∃(s:Sl) (l:List Nd),r=ag s.v/\hU (xs l)/\1<=l.length/\l.length<=10+cc/\GP Y s l/\∀b∈(En.gr s l).fp,w.heap.size<=b
def SP{w:J}{ls:Sl}{e:List Int}(hr:bp w ls e)(ab:∀x∈e,a5 x)(aZ:e.length<=9223372036854775807)(kind:Int)(cc:Nat)(hm:cc<=1000):
  ak aa Cy #[ls.v,.i kind,.i (cc:Int)] w λr y=>rC w kind cc r y/\ah w y:=by
 have aY:=bp.len hr;have loop:∀(m i:Nat) (q:Sl) (l:List Nd) (Q:J),i+m=cc->hU (xs l)->(∀d∈xs l,d.op=0->d∈xs (gp kind))->1<=l.length->l.length<=10+i->(∀b∈(En.gr q l).fp,w.heap.size<=b)->LH F0 w Q [] [.rd ls (e.map a'),.gr q l]->
   mR.a2 ls kind (cc:Int) q ((3 *i:Nat):Int) Q λr y=>rC w kind cc r y/\ah w y:=by
  intro m;have e3:ao .i64 (3 *(cc:Int))=3 *(cc:Int):=aS _ (by omega);induction m with
  |zero=>
   intro i q l Q hi B O I h2 N G;have fin:mR.cJ q Q λr y=>rC w kind cc r y/\ah w y:=⟨⟨q,l,rfl,B,I,by omega,bV.1 (G.getD 1),N,O⟩,G.fr⟩;exact mR.bB _ _ _ _ _ _ _ (aG (λ_=>a1 (aV (by rw[e3];omega)) fin) (λ_=>fin))
  |succ m ih=>
   intro i q l Q hi B O I h2 N G;have fin:mR.cJ q Q λr y=>rC w kind cc r y/\ah w y:=⟨⟨q,l,rfl,B,I,by omega,bV.1 (G.getD 1),N,O⟩,G.fr⟩;have aN:ao .i64 (((3 *i:Nat):Int)+1)=((3 *i+1:Nat):Int):=aS _ (by omega);have aO:ao .i64 (((3 *i:Nat):Int)+2)=((3 *i+2:Nat):Int):=aS _ (by omega);have aQ:ao .i64 (((3 *i:Nat):Int)+3)=((3 *(i+1):Nat):Int):=aS _ (by omega);have next:∀(Z:Sl) (h:List Nd) (C:J),hU (xs h)->(∀d∈xs h,d.op=0->d∈xs (gp kind))->1<=h.length->h.length<=10+(i+1)->(∀b∈(En.gr Z h).fp,w.heap.size<=b)->LH F0 w C [] [.rd ls (e.map a'),.gr Z h]->mR.bU ls kind (cc:Int) Z ((3 *i:Nat):Int) C λr y=>rC w kind cc r y/\ah w y:=by intro Z h C V gv W g3 g4 E;show mR.a2 ls kind (cc:Int) Z (ao .i64 (((3 *i:Nat):Int)+3)) C _;rw[aQ];exact ih (i+1) Z h C (by omega) V gv W g3 g4 E
   have S1:∀(S:Nat) (d:Nd) (H:J) (L:List En),En.g S∈L->MdV d.x->d.P H->(∀b∈aw d.ks,w.heap.size<=b)->LH F0 w H L [.rd ls (e.map a'),.gr q l,cX d]->mR.bT ls kind (cc:Int) q ((3 *i:Nat):Int) S d.x.op d.ks d.x.n d.x.m d.x.u d.x.tx d.x.st.k d.x.st.n d.x.st.x H λr y=>rC w kind cc r y/\ah w y:=by
    intro S d H L aU z pd U D;have aM:(xs l).length=l.length:=by simp[xs]
    have D:LH F0 w H [] [.rd ls (e.map a'),.gr q l,cX d]:=D.take 0;refine ha ((Ty (bV.1 (D.getD 1)) pd (B.ok (by rw[aM];unfold e4;omega)) z.toMdN.ok B.kl).mono ?_);rintro _ w4 ⟨⟨s',rfl,⟨h,ad,G',F'⟩⟩,f4⟩;have ae:∀b∈(En.gr s' h).fp,w.heap.size<=b:=λb F=>by
     rcases F' b F with(A|A)|A
     .exact N b A
     .exact hn U b A
     .exact a8 D.fr.size A
    have Y:=D.bw f4;have ap:LH F0 w w4 [] [.rd ls (e.map a'),.gr s' h]:=(D.gx (.gr s' h) f4 (bV.2 G') (λb F=>by
     rcases F' b F with(A|A)|A
     .exact .inr (.inr ⟨_,aE (i:=1) rfl,A⟩)
     .exact .inr (.inr ⟨_,aE (i:=2) rfl,A⟩)
     .exact .inl A)).forget _ (by simp)
    have aq:∀{w6:J},LH F0 w w6 [] [.rd ls (e.map a'),.gr q l,cX d]->LH F0 w w6 [] [.rd ls (e.map a'),.gr q l]:=λG=>G.forget _ (by simp);refine⟨f4,_,_,_,rfl,aL (λh0=>?_) (λh0=>next q l w4 B O I (by omega) N (aq Y))⟩;obtain⟨_,M,aA,au,_⟩:=Aq h0;have am:hU (xs h):=by rw[ad];exact RM B z.toMdN h0
    have aK:∀T∈xs h,T.op=0->T∈xs (gp kind):=λT he A=>by rw[ad]at he;exact O T (RN z.nv he A) A
    have aC:h.length<=10+(i+1):=by have:=RL (xs l) d.x;rw[<-ad]at this;simp only[xs,List.length_map]at this;omega
    rw[<-ad]at au;have ac:M<h.length:=by have:=(bO.1 au).1;simpa[xs]using this
    have al:h[M]? =some (h[M]'ac):=a6 ac;generalize h[M]'ac=T at al;rw[aA];refine hM (bV.1 (ap.getD 1)) rfl al λp hp c=>⟨_,_,_,c.s0,c.s1,c.s2,?_⟩;refine ha ((TM kind T.x.st w4).mono ?_);rintro _ C ⟨⟨b,rfl⟩,f5⟩;have E:=ap.bw f5;have af:=aq (Y.bw f5);refine⟨f5,_,rfl,bD (λ_=>?_) (λ_=>next q l C B O I (by omega) N af)⟩;refine hM (bV.1 (E.getD 1)) rfl al λp' a0 c'=>⟨_,c'.s1,aG (λ_=>?_) (λ_=>next q l C B O I (by omega) N af)⟩;have aB:∀(i:Nat) (d:Nd),h[i]? =some d->d.x.kids.length<=1000000/\∀M∈d.x.kids,0<=M/\M<(i:Int):=λi d z=>by have ar:=tT z;have:=(am.nd d.x (aE ar)).kl;exact⟨by omega,am.vg.kids ar⟩
    refine ha ((Gu (bV.1 (E.getD 1)) aB (M+1) M (by omega) ac C (Fr.refl _ _)).mono ?_);rintro _ w6 ⟨⟨a4,rfl⟩,f6⟩;have f6:ah C w6:=f6;exact⟨f6,_,rfl,aG (λ_=>next s' h w6 am aK (by omega) aC ae (E.bw f6)) (λ_=>next q l w6 B O I (by omega) N (af.bw f6))⟩
   refine mR.bB _ _ _ _ _ _ _ ?_;rw[aN,aO,e3];refine aG (λaX=>a3 (aP (by omega)) (G.dr λw2 H2=>?_)) (λ_=>fin);have aj:bp w2 ls e:=H2.getD 0;have g0:e[3 *i]? =some (e[3 *i]'(by omega)):=a6 (by omega);have V:e[3 *i+1]? =some (e[3 *i+1]'(by omega)):=a6 (by omega);have W:e[3 *i+2]? =some (e[3 *i+2]'(by omega)):=a6 (by omega);generalize e[3 *i]'(by omega)=x0 at g0;generalize e[3 *i+1]'(by omega)=x1 at V;generalize e[3 *i+2]'(by omega)=x2 at W;refine⟨by omega,by omega,aj.cell g0 (by omega) λp0 aF c0=>⟨x0,c0,by omega,by omega,aj.cell V (by omega) λp1 aH c1=>⟨x1,c1,by omega,by omega,aj.cell W (by omega) λp2 aI c2=>⟨x2,c2,?_,?_⟩⟩⟩⟩
   .have ag:=Gi (bV.1 (H2.getD 1)) I (by unfold e4;omega) (λd z=>B.vg.val d.x (ch.2 ⟨d,z,rfl⟩)) x0 x1 x2 (ab _ (aE g0)) (ab _ (aE V)) (ab _ (aE W));refine H2.AY ag ?_;rintro _ H ⟨d,rfl,z,pd,U⟩ _ F3;have D:=F3.rd (cX d) pd (hn U);refine⟨_,_,_,_,_,_,_,_,_,rfl,D.aJ λS w4 Y=>Y.ai λC E=>?_⟩;exact S1 S d C _ (by simp) z (E.getD 2) (λb F=>a8 H2.fr.size (U b F)) E
   .refine H2.aJ λS H D=>?_;have az:bp H ls e:=D.getD 0;have again:∀{j:Nat} {x:Int} {p:Addr} {X:Nat},e[j]? =some x->ls.a=some p->X=j *1->H.cell? (p.add X)=some (.int .i64 x):=by intro j x p X B hp hX;have:=az.cell B hX (K:=λan=>∃q',ls.a=some q'/\H.cell? (q'.add X)=some (.int .i64 x)) (λan hq hc=>⟨an,hq,hc⟩);rw[hp]at this;obtain⟨an,hq,hc⟩:=this;cases hq;exact hc
    have ag:=Gi (bV.1 (D.getD 1)) I (by unfold e4;omega) (λd z=>B.vg.val d.x (ch.2 ⟨d,z,rfl⟩)) x0 x1 x2 (ab _ (aE g0)) (ab _ (aE V)) (ab _ (aE W));refine⟨again W aI (by omega),again V aH (by omega),again g0 aF (by omega),D.hD ag ?_⟩;rintro _ w4 ⟨d,rfl,z,pd,U⟩ _ F4;have Y:=F4.rd (cX d) pd (hn U);refine⟨_,_,_,_,_,_,_,_,_,rfl,Y.ai λC E=>?_⟩;exact S1 S d C _ (by simp) z (E.getD 2) (λb F=>a8 D.fr.size (U b F)) E
 refine mR.aD _ _ _ w _ ((TH kind w).mono ?_);rintro _ Q ⟨⟨s,rfl,⟨l,hl,ay,ax⟩⟩,f1⟩;have hlen:=ZA kind;have aW:l.length=(gp kind).length:=by have:=congrArg List.length hl;simpa[xs]using this
 have ae:∀b∈(En.gr s l).fp,w.heap.size<=b:=λb F=>(ax b F).resolve_left id;have G:LH F0 w w [] [.rd ls (e.map a')]:=bP _ (by intro T he;simp only[av,aR,aT]at he;subst he;exact hr)
 have H1:=G.gx (.gr s l) f1 (bV.2 ay) (λb F=>.inl (ae b F));exact⟨s,rfl,loop cc 0 s l Q (by omega) (by rw[hl];exact ZB kind) (λd z _=>hl▸z) (by omega) (by omega) ae H1⟩
def SO{w:J}{ls:Sl}{d:List Int}(C:bp w ls d)(B:∀D∈d,a5 D)(A:d.length<=9223372036854775807)(kind:Int)(cc:Nat)(z:cc<=1000):
  ak aa Cy #[ls.v,.i kind,.i (cc:Int)] w λr e=>Rv w cc r e/\ah w e:=
 (SP C B A kind cc z).mono λ_ _ ⟨⟨s,l,h,j,k,q,x,y,_⟩,f⟩=>⟨⟨s,l,h,j,k,q,x,y⟩,f⟩
structure rH(c:Nat)(d:Nx):Prop where
 kl:d.kids.length<=c
 n:a5 d.n
 m:a5 d.m
 u:0<=d.u
 tx:d.op=33->Ai d.tx
def MdN.sp{d:Nx}(h:MdN d):rH 3 d:=⟨h.kl,⟨by have:=h.n;omega,by have:=h.n;omega⟩,⟨by have:=h.m;omega,by have:=h.m;omega⟩,h.u.1,λe=>.inr (h.re e)⟩
def rH.MZ{c:Nat}{d:Nx}(h:rH c d)(j:c<=100):oB d:=⟨by have:=h.kl;unfold e4;omega,h.n,h.m,λe=>(CX (h.tx e)).1⟩
def rH.tok{c:Nat}{d:Nx}(h:rH c d)(j:c<=100):oE d:=⟨by have:=h.kl;omega,h.n,h.m,h.u,λe=>(CX (h.tx e)).2.1⟩
structure ry(c:Nat)(d:Nx):Prop where
 sp:rH c d
 wd:e9 d
 tl:d.tx.size<=1000
def ry.small{c:Nat}{d:Nx}(h:ry c d)(e:c<=100):(dq d).length<=1000000:=Xf h.wd (by have:=h.sp.kl;omega) h.tl
def hU.gd{g:List Nx}(h:hU g)(G:g.length<=1000):∀e∈g,ry 3 e:=by
 intro e j;have d:=h.nd e j;obtain⟨i,x⟩:=fQ.1 j;have F:=(bO.1 x).1;have k:=h.vg.kids x;have I:=EV.1 (h.vg.val e j);have H:e.tx.size<=100:=by
  by_cases w:e.op=33
  .obtain ⟨q,k⟩:=d.re w;rw[k,cS];have:=Ql q;omega
  .have:=d.tx w;omega
 have z:=d.Dc;have A:=d.Dd;have B:=d.kl;have C:=d.n;have D:=d.m;have E:=d.u;exact⟨d.sp,⟨⟨by omega,by omega⟩,λq y=>by have:=k q y;exact⟨by omega,by omega⟩,by omega,⟨by omega,by omega⟩,⟨by omega,by omega⟩,⟨by omega,by omega⟩,by omega,⟨by omega,by omega⟩,⟨by omega,by omega⟩,⟨by omega,by omega⟩⟩,by omega⟩
structure Lx where
 m:Lm
 gl:List Nd
 hy:List Int
 cl:List Int
 ds:List Sp
abbrev Lm.v(x:Lm):ab:=.agg #[x.g.v,x.h.v,x.c.v,x.s.v]
def oA(w:J)(x:Lx):Prop:=GP w x.m.g x.gl/\bp w x.m.h x.hy/\bp w x.m.c x.cl/\hV w x.m.s x.ds
def eY(x:Lx):En:=.all [.gr x.m.g x.gl,.rd x.m.h (x.hy.map a'),.rd x.m.c (x.cl.map a'),.sp x.m.s x.ds]
def h6{w:J}{x:Lx}:(eY x).P w↔oA w x:=by
 constructor
 .intro d;exact⟨bV.1 (d (.gr x.m.g x.gl) (by simp)),d (.rd x.m.h (x.hy.map a')) (by simp),d (.rd x.m.c (x.cl.map a')) (by simp),fo.1 (d (.sp x.m.s x.ds) (by simp))⟩
 .rintro ⟨j,k,q,y⟩ z e;simp only[av,aR,aT]at e;rcases e with rfl|rfl|rfl|rfl
  .exact bV.2 j
  .exact k
  .exact q
  .exact fo.2 y
def ox(n:Nat)(l:List Int):Prop:=l.length<=n/\∀d∈l,a5 d
def ox.le{n m:Nat}{l:List Int}(h:ox n l)(d:n<=m):ox m l:=⟨a8 h.1 d,h.2⟩
structure jg(n:Nat)(s:cv):Prop where
 k:a5 s.kind/\a5 s.node/\a5 s.du
 p:ox n s.params
 l:ox n s.b0
 h:ox n s.hints
 t:s.nm.size<=n
def jg.le{n m:Nat}{s:cv}(h:jg n s)(d:n<=m):jg m s:=⟨h.k,h.p.le d,h.l.le d,h.h.le d,a8 h.t d⟩
def wO(n:Nat)(l:List Sp):Prop:=l.length<=n/\∀d∈l,jg n d.x
def wO.le{n m:Nat}{l:List Sp}(h:wO n l)(d:n<=m):wO m l:=⟨a8 h.1 d,λe j=>(h.2 e j).le d⟩
structure mB(n:Nat)(x:Lx):Prop where
 g:x.gl.length<=n/\∀d∈xs x.gl,ry 3 d
 h:ox n x.hy
 c:ox n x.cl
 s:wO n x.ds
def mB.le{n m:Nat}{x:Lx}(h:mB n x)(d:n<=m):mB m x:=⟨⟨a8 h.g.1 d,h.g.2⟩,h.h.le d,h.c.le d,h.s.le d⟩
def jg.Zj{d:Sp}(h:jg 100 d.x):pU d:=⟨by have:=h.p.1;omega,by have:=h.l.1;omega,by have:=h.h.1;omega⟩
structure ug(x:Lx):Prop where
 g:∀d∈x.gl,oE d.x/\e9 d.x
 h:x.hy.length<=100000
 c:x.cl.length<=100000
 s:x.ds.length<=100000
 d:∀d∈x.ds,pU d
def jt:List cv->Int->Int
 |[],_=>0
 |s::r,i=>if s.kind=4 then 12 else if hP s i 0≠0 then hP s i 0 else jt r (i+1)
def WA{s:cv}{r:List cv}{i:Int}(h:s.kind=4):jt (s::r) i=12:=by
 conv=>lhs;unfold jt
 rw[aj h]
def WB{s:cv}{r:List cv}{i:Int}(h:s.kind≠4)(d:hP s i 0≠0):jt (s::r) i=hP s i 0:=by
 conv=>lhs;unfold jt
 rw[af h,aj d]
def Jv{s:cv}{r:List cv}{i:Int}(h:s.kind≠4)(d:hP s i 0=0):jt (s::r) i=jt r (i+1):=by
 conv=>lhs;unfold jt
 rw[af h,af (by omega)]
def oU(n:Nat)(l:List Int):Bool:=l.all λd=>aq (0<=d)&&aq (d<(n:Int))
def ky(x:Lx):Int:=if gv (xs x.gl)≠0 then gv (xs x.gl)else if oU x.gl.length x.hy then if gz x.cl≠0 then gz x.cl else jt (cC x.ds) 0 else 7
section
variable {w0:J} {x:Lx} {E:Int} {D:List En}
def VD{n:Nat}{l:List Int}{i:Nat}{y:Int}(h:l[i]? =some y):oU n (l.drop i)=(aq (0<=y)&&aq (y<(n:Int))&&oU n (l.drop (i+1))):=by rw[r7 h];rfl
def VP{s:Sl}{l:List Sp}(S:l.length<=100000)(N:∀q∈l,pU q)(A:En.sp s l∈D):∀(k i:Nat) (w:J) (L:List En),i+k=l.length->LH F0 w0 w L D->E=jt ((cC l).drop i) (i:Int)->
  o3.je s ((s.n:Nat):Int) (i:Int) w (iR w0 E):=by
 intro k;induction k with
 |zero=>
  intro i w L K j e;have M:=(fo.1 (j.rd _ A)).n;rw[List.drop_of_length_le (by simp;omega)]at e;exact o3.lR _ _ _ _ _ (a1 (aV (by omega)) ⟨by rw[e];rfl,j.fr⟩)
 |succ k O=>
  intro i w L K j e;have G:=fo.1 (j.rd _ A);have M:=G.n;have y:l[i]? =some l[i]:=a6 (by omega);generalize l[i]=q at y;have H:=aE y;rw[PG y]at e;refine o3.lR _ _ _ _ _ (a3 (aP (by omega)) ⟨by omega,by omega,G.get y λp h=>?_⟩);rw[bF];refine⟨_,_,_,_,_,_,_,h.c0,h.c1,h.c2,h.c3,h.c4,h.c5,h.c6,j.aJ λQ U F=>aL (λx=>F.ai λV I=>⟨by rw[e,WA x],I.fr⟩) λx=>F.ai λT B=>B.ay (I2 (d:=q) (N q H) ((fo.1 (B.rd _ A)).2 q H)) ?_⟩;rintro _ P rfl C;refine⟨_,rfl,dv (λz=>⟨by rw[e,WB x z],C.fr⟩) (λz=>?_)⟩;rw[bd _ (by omega)];exact O (i+1) P _ (by omega) C (by rw[e,Jv x z];rfl)
def VO{b:Nat}(j:ug x)(B:eY x∈D)(K:E=ky x)(V:gv (xs x.gl)=0):∀(k i:Nat) (w:J) (L:List En),i+k=x.hy.length->En.g b∈L->LH F0 w0 w L D->oU x.gl.length x.hy=oU x.gl.length (x.hy.drop i)->
  o3.a2 b x.m.g x.m.h x.m.c x.m.s x.m.h ((x.m.h.n:Nat):Int) (i:Int) w (iR w0 E):=by
 have W:=j.h;intro k;induction k with
 |zero=>
  intro i w L S M q e;have z:=h6.1 (q.rd _ B);have H:=bp.len z.2.1;rw[List.drop_of_length_le (by omega)]at e;have e:E=if gz x.cl≠0 then gz x.cl else jt (cC x.ds) 0:=by rw[K];unfold ky;rw[af (by omega),e];rfl
  refine o3.bB _ _ _ _ _ _ _ _ _ _ (a1 (aV (by omega)) (q.ay (I0 z.2.2.1 (by have:=j.c;omega)) ?_));rintro _ U rfl G;refine⟨_,rfl,dv (λC=>⟨by rw[e,aj C],G.fr⟩) (λC=>?_)⟩;have O:=h6.1 (G.rd _ B);have Z:=O.2.2.2.n;have:=j.s;refine a1 (aV (by omega)) ?_;have N:=G.mX (.sp x.m.s x.ds::D) λe F=>?_
  .exact VP (by omega) j.d (D:=.sp x.m.s x.ds::D) (by simp) x.ds.length 0 U _ (by omega) N (by rw[e,af (by omega)];rfl)
  .rcases av.1 F with rfl|F
   .exact ⟨λA=>A (eY x) B (En.sp x.m.s x.ds) (by simp),λb j=>⟨eY x,B,dZ.2 ⟨_,by simp,j⟩⟩⟩
   .exact ⟨λA=>A e F,λb j=>⟨e,F,j⟩⟩
 |succ k T=>
  intro i w L S M q e;have z:=h6.1 (q.rd _ B);have H:=bp.len z.2.1;have Y:=gZ z.1;have I:x.hy[i]? =some x.hy[i]:=a6 (by omega);generalize x.hy[i]=y at I;rw[VD I]at e;have bad:¬(0<=y/\y<(x.gl.length:Int))->iR w0 E (ag (.i 7)) w:=λH=>by
   refine⟨?_,q.fr⟩;rw[K];unfold ky;rw[af (by omega),e];have:(aq (0<=y)&&aq (y<(x.gl.length:Int)))=false:=by
    cases A:(aq (0<=y)&&aq (y<(x.gl.length:Int)))with
    |false=>rfl
    |true=>simp only[bf,decide_eq_true_eq]at A;exact absurd A H
   rw[this];rfl
  refine o3.bB _ _ _ _ _ _ _ _ _ _ (a3 (aP (by omega)) ⟨by omega,by omega,bp.cell z.2.1 I (by rw[bF]) λp _ Q=>⟨y,Q,aG (λC=>bad (by omega)) λC=>aG (λP=>bad (by omega)) λP=>?_⟩⟩);rw[bd _ (by omega)];exact T (i+1) w L (by omega) M q (by rw[e,aP (by omega),aP (by omega)];rfl)
def WQ{l:List Nd}(h:∀d∈xs l,ry 3 d):∀d∈l,(oE d.x/\e9 d.x)/\oB d.x:=λd e=>by have:=h d.x (ch.2 ⟨d,e,rfl⟩);exact⟨⟨this.sp.tok (by omega),this.wd⟩,this.sp.MZ (by omega)⟩
def mB.k(d:mB 100 x):ug x:=⟨λe j=>(WQ d.g.2 e j).1,by have:=d.h.1;omega,by have:=d.c.1;omega,by have:=d.s.1;omega,λe j=>(d.s.2 e j).Zj⟩
def I1(k:ug x){w:J}(h:oA w x)(z:cH.P w):ak aa Ld #[x.m.v] w (iR w (ky x)):=by
 refine o3.aD _ _ _ _ w _ ((bP (w:=w) [eY x,cH] (by
  intro B q;simp only[av,aR,aT]at q;rcases q with rfl|rfl
  .exact h6.2 h
  .exact z)).aJ λb C d=>?_)
 have y:=h6.1 (d.rd (eY x) (by simp));refine d.ay (Ez y.1 (d.rd cH (by simp)) λ_=>k.g) ?_;rintro _ A rfl j;refine⟨_,rfl,dv (λe=>⟨by unfold ky;rw[aj e],j.fr⟩) (λe=>?_)⟩;exact VO k (by simp) rfl e x.hy.length 0 A _ (by omega) (by simp) j rfl
end
structure oD(s:cv):Prop where
 k:a5 s.kind/\a5 s.node/\a5 s.du
 p:∀x∈s.params,a5 x
 l:∀x∈s.b0,a5 x
 h:∀x∈s.hints,a5 x
def xE(n:Int):1<=(bL n).length:=xG _
def mP(l:List Int):l.length+1<=(cG l).length:=by
 have h:=xG l.length;have d:∀l:List Int,l.length<=(l.flatMap bL).length:=λl=>by
  induction l with
  |nil=>exact bg _
  |cons e l j=>
   have:=xE e;rw[b',a7,db];omega
 have:=d l;unfold cG;rw[a7];omega
def oK(b:List UInt8):b.length+1<=(dJ b).length:=by have d:=xG b.length;unfold dJ;rw[a7];omega
def PA(s:cv):7+s.params.length+s.b0.length+s.hints.length+s.nm.size<=(eC s).length:=by have e:=xE s.kind;have h:=xE s.node;have j:=xE s.du;have k:=mP s.params;have q:=mP s.b0;have w:=mP s.hints;have d:=oK (bl s.nm);rw[dP]at d;unfold eC;simp only[a7];omega
def PH(ss:List cv):7 *ss.length<=(ss.flatMap eC).length:=by
 induction ss with
 |nil=>exact bg _
 |cons a ss d=>
  have:=PA a;rw[b',a7,db];omega
def e7(st:RS):cv×RS:=
 let e:=be st
 let n:=be e.2
 let r:=be n.2
 let p:=cK r.2
 let t:=dc p.2
 let l:=cK t.2
 let d:=cK l.2
 (⟨e.1,n.1,r.1,p.1,ba t.1,l.1,d.1⟩,d.2)
def fE:Nat->RS->List cv×RS
 |0,st=>([],st)
 |n+1,st=>((e7 st).1::(fE n (e7 st).2).1,(fE n (e7 st).2).2)
def fj(size:Nat)(st:RS):Option (List cv)×RS:=
 if(be st).1<0\/((size / 7:Nat):Int)<(be st).1 then(none,(be st).2)else(some (fE (be st).1.toNat (be st).2).1,(fE (be st).1.toNat (be st).2).2)
def Yp{s:cv}(W:oD s)(x:(eC s).length<=1000000000000)(r:List UInt8):e7 ⟨eC s++r,0⟩=(s,⟨r,0⟩):=by
 have w:=PA s;obtain⟨e,n,j,p,t,l,d⟩:=s;dsimp only at w;have q:eC ⟨e,n,j,p,t,l,d⟩++r=bL e++(bL n++(bL j++(cG p++(dJ (bl t)++(cG l++(cG d++r)))))):=by unfold eC;simp only[cp]
 unfold e7;rw[q];dsimp only;rw[lB _ W.k.1];dsimp only;rw[lB _ W.k.2.1];dsimp only;rw[lB _ W.k.2.2];dsimp only;rw[s6 p (by omega) W.p];dsimp only;rw[yT (bl t) (by rw[dP];omega)];dsimp only;rw[s6 l (by omega) W.l];dsimp only;rw[s6 d (by omega) W.h,lX]
def N1:∀{ss:List cv} (_:∀s∈ss,oD s) (_:(ss.flatMap eC).length<=1000000000000) (r:List UInt8),fE ss.length ⟨ss.flatMap eC++r,0⟩=(ss,⟨r,0⟩)
 |[],_,_,r=>rfl
 |s::ss,W,h,r=>by rw[b',a7]at h;rw[b',cp,db];unfold fE;rw[Yp (W s (by simp)) (by omega)];dsimp only;rw[N1 (λd e=>W d (by simp[e])) (by omega)]
def Ys{ss:List cv}(W:∀s∈ss,oD s){size:Nat}(d:(fF ss).length<=size)(k:size<=1000000000000)(r:List UInt8):fj size ⟨fF ss++r,0⟩=(some ss,⟨r,0⟩):=by
 have h:=PH ss;have j:(ss.flatMap eC).length<=size:=by unfold fF at d;rw[a7]at d;omega
 have e:be ⟨fF ss++r,0⟩=((ss.length:Int),⟨ss.flatMap eC++r,0⟩):=by unfold fF;rw[cp];exact lB _ ⟨by omega,by omega⟩ _
 unfold fj;rw[e];dsimp only;rw[af (by omega),bF,N1 W (by omega)]
def Yo{st:RS}(h:(e7 st).2.err=0):st.err=0/\st.V=eC (e7 st).1++(e7 st).2.V:=by obtain⟨E,x⟩:=s5 h;obtain⟨D,w⟩:=s5 E;obtain⟨C,q⟩:=DC D;obtain⟨B,k⟩:=s5 C;obtain⟨A,j⟩:=lA B;obtain⟨z,e⟩:=lA A;obtain⟨y,d⟩:=lA z;refine⟨y,?_⟩;rw[d,e,j,k,q,w,x];unfold eC e7;simp only[cp,mG]
def N0:∀(n:Nat) {st:RS},(fE n st).2.err=0->st.err=0/\st.V=(fE n st).1.flatMap eC++(fE n st).2.V/\(fE n st).1.length=n
 |0,st,d=>⟨d,rfl,rfl⟩
 |n+1,st,d=>by obtain⟨e,h,q⟩:=N0 n (st:=(e7 st).2) d;obtain⟨j,k⟩:=Yo e;refine⟨j,?_,by show(fE n (e7 st).2).1.length+1=n+1;omega⟩;show st.V=((e7 st).1::(fE n (e7 st).2).1).flatMap eC++(fE n (e7 st).2).2.V;rw[b',cp,<-h];exact k
def Yr{size:Nat}{st:RS}{ss:List cv}(d:(fj size st).1=some ss)(h:(fj size st).2.err=0):st.err=0/\st.V=fF ss++(fj size st).2.V:=by
 unfold fj at d h ⊢;split at d
 .cases d
 .rename_i x;rw[af x]at h ⊢;simp only[Option.some.injEq]at d;obtain⟨e,j,k⟩:=N0 _ h;obtain⟨q,w⟩:=lA e;refine⟨q,?_⟩;unfold fF;rw[cp,<-d,k,<-j,Int.toNat_of_nonneg (by omega)];exact w
def Yq(st:RS):oD (e7 st).1/\(e7 st).2.V.length<=st.V.length/\(e7 st).1.params.length<=st.V.length/\(e7 st).1.b0.length<=st.V.length/\(e7 st).1.hints.length<=st.V.length/\(e7 st).1.nm.size<=st.V.length:=by have d:=lC st;have e:=lC (be st).2;have s3:=lC (be (be st).2).2;have h:=s7 (be (be (be st).2).2).2;have q:=yU (cK (be (be (be st).2).2).2).2;have j:=s7 (dc (cK (be (be (be st).2).2).2).2).2;have k:=s7 (cK (dc (cK (be (be (be st).2).2).2).2).2).2;unfold e7;dsimp only;exact⟨⟨⟨d.1,e.1,s3.1⟩,h.2.1,j.2.1,k.2.1⟩,by omega,by omega,by omega,by omega,by rw[cS];omega⟩
structure rJ(n:Nat)(s:cv):Prop where
 i:oD s
 p:s.params.length<=n
 l:s.b0.length<=n
 h:s.hints.length<=n
 t:s.nm.size<=n
def rJ.le{n m:Nat}{s:cv}(h:rJ n s)(d:n<=m):rJ m s:=⟨h.i,a8 h.p d,a8 h.l d,a8 h.h d,a8 h.t d⟩
def N2:∀(n:Nat) (st:RS),(∀s∈(fE n st).1,rJ st.V.length s)/\(fE n st).2.V.length<=st.V.length/\(fE n st).1.length=n
 |0,st=>⟨λs d=>(by cases d),bg _,rfl⟩
 |n+1,st=>by
  obtain⟨j,e,k,q,w,x⟩:=Yq st;obtain⟨y,z,A⟩:=N2 n (e7 st).2;refine⟨λs d=>?_,a8 z e,by show(fE n (e7 st).2).1.length+1=n+1;omega⟩;rcases av.1 d with h|d
  .rw [h];exact⟨j,k,q,w,x⟩
  .exact (y s d).le e
def Yt{size:Nat}{st:RS}{ss:List cv}(d:(fj size st).1=some ss):(∀s∈ss,rJ st.V.length s)/\ss.length<=size:=by
 unfold fj at d;split at d
 .cases d
 .simp only[Option.some.injEq]at d;obtain⟨e,q,j⟩:=N2 (be st).1.toNat (be st).2;have k:=(lC st).2;rw[d]at e j;exact⟨λs h=>(e s h).le k,by omega⟩
structure Lp where
 g:List Nx
 hy:List Int
 cl:List Int
 ss:List cv
def Lp.e:Lp:=⟨[],[],[],[]⟩
def Lx.p(x:Lx):Lp:=⟨xs x.gl,x.hy,x.cl,cC x.ds⟩
def xZ(x:Lp):Int:=if gv x.g≠0 then gv x.g else if oU x.g.length x.hy then if gz x.cl≠0 then gz x.cl else jt x.ss 0 else 7
def vq(x:Lx):ky x=xZ x.p:=by
 have:(xs x.gl).length=x.gl.length:=by simp[xs]
 unfold ky xZ Lx.p;dsimp only;rw[this]
def eE(x:Lp):List UInt8:=dJ (dK x.g)++(cG x.hy++(cG x.cl++fF x.ss))
def g1(V:List UInt8):Option Lp:=
 let r:=dc ⟨V,0⟩
 if(fy r.1).2≠0 then none else
 let d:=cK r.2
 let c:=cK d.2
 match(fj V.length c.2).1 with
 |some e=>if j6 (fj V.length c.2).2=0 then some ⟨(fy r.1).1,d.1,c.1,e⟩else none
 |none=>none
def qz(V:List UInt8):RS:=(cK (cK (dc ⟨V,0⟩).2).2).2
def Wa{V:List UInt8}(h:(fy (dc ⟨V,0⟩).1).2≠0):g1 V=none:=by unfold g1;dsimp only;rw[aj h]
def Wc{V:List UInt8}(h:(fy (dc ⟨V,0⟩).1).2=0):g1 V=match(fj V.length (qz V)).1 with
  |some e=>if j6 (fj V.length (qz V)).2=0 then some ⟨(fy (dc ⟨V,0⟩).1).1,(cK (dc ⟨V,0⟩).2).1,(cK (cK (dc ⟨V,0⟩).2).2).1,e⟩else none
  |none=>none:=by unfold g1 qz;dsimp only;rw[af (λd=>d h)]
structure Fp(x:Lp):Prop where
 g:∀d∈x.g,e9 d
 n:x.g.length<=4096
 v:gv x.g=0
 h:∀y∈x.hy,a5 y
 c:∀y∈x.cl,a5 y
 s:∀s∈x.ss,oD s
def Wb{x:Lp}(W:Fp x)(q:(eE x).length<=1000000000000):g1 (eE x)=some x:=by
 obtain⟨g,e,d,j⟩:=x;have w:eE ⟨g,e,d,j⟩=dJ (dK g)++(cG e++(cG d++(fF j++[]))):=by unfold eE;rw[dt]
 have y:=q;unfold eE at y;simp only[a7]at y;have B:=oK (dK g);have C:=mP e;have D:=mP d;unfold g1;generalize k:eE ⟨g,e,d,j⟩=b at q;have A:(fF j).length<=b.length:=by rw[<-k];unfold eE;simp only[a7];omega
 rw[<-k,w];dsimp only;rw[yT _ (by omega)];dsimp only;rw[G9 W.g W.n W.v];dsimp only;rw[af (λz=>z rfl),s6 e (by omega) W.h];dsimp only;rw[s6 d (by omega) W.c];dsimp only;rw[<-w,k,Ys W.s A q];rfl
def Yl{st:RS}(h:j6 st=0):st.err=0/\st.V=[]:=by
 unfold j6 at h;split at h
 .rename_i d;exact absurd h d
 .rename_i d;split at h
  .cases h
  .exact ⟨by simpa using d,List.eq_nil_of_length_eq_zero (by omega)⟩
def Jj{V:List UInt8}{x:Lp}(h:g1 V=some x):(fy (dc ⟨V,0⟩).1).2=0/\x.g=(fy (dc ⟨V,0⟩).1).1/\x.hy=(cK (dc ⟨V,0⟩).2).1/\x.cl=(cK (cK (dc ⟨V,0⟩).2).2).1/\
  (fj V.length (cK (cK (dc ⟨V,0⟩).2).2).2).1=some x.ss/\j6 (fj V.length (cK (cK (dc ⟨V,0⟩).2).2).2).2=0:=by
 unfold g1 at h;dsimp only at h;split at h
 .cases h
 .rename_i d;split at h
  .rename_i k j;split at h
   .rename_i e;cases h;exact⟨by simpa using d,rfl,rfl,rfl,j,e⟩
   .cases h
  .cases h
def Jh{V:List UInt8}{x:Lp}(h:g1 V=some x):eE x=V/\gv x.g=0:=by obtain⟨C,e,D,E,F,G⟩:=Jj h;obtain⟨A,B⟩:=Yl G;obtain⟨j,d⟩:=Yr F A;obtain⟨k,q⟩:=s5 j;obtain⟨w,y⟩:=s5 k;obtain⟨K,z⟩:=DC (st:=⟨V,0⟩) w;obtain⟨H,I⟩:=Um C;refine⟨?_,by rw[e];exact I⟩;rw[B,dt]at d;unfold eE;rw[e,D,E,H,<-d,<-q,<-y];exact z.symm
structure pQ(n:Nat)(x:Lp):Prop where
 g:∀d∈x.g,e9 d
 hl:x.hy.length<=n
 h:∀y∈x.hy,a5 y
 cl:x.cl.length<=n
 c:∀y∈x.cl,a5 y
 sl:x.ss.length<=n
 s:∀s∈x.ss,rJ n s
def Ul{V:List UInt8}(h:V.length<=1000000):∀e∈(fy V).1,e9 e:=by
 intro e d;have j:=(lC ⟨V,0⟩).2;have ok:=NZ (be ⟨V,0⟩).1.toNat (be ⟨V,0⟩).2 (a8 j h);unfold fy at d;split at d
 .cases d
 .split at d
  .cases d
  .split at d
   .cases d
   .exact (ok e d).1
def Ji{V:List UInt8}{x:Lp}(C:V.length<=1000000)(h:g1 V=some x):pQ V.length x:=by obtain⟨A,k,d,e,q,B⟩:=Jj h;have y:=yU ⟨V,0⟩;have z:=s7 (dc ⟨V,0⟩).2;have s3:=s7 (cK (dc ⟨V,0⟩).2).2;have j:=Yt q;dsimp only at y;refine⟨?_,by rw[d];omega,by rw[d];exact z.2.1,by rw[e];omega,by rw[e];exact s3.2.1,j.2,λs w=>(j.1 s w).le (by omega)⟩;rw[k];exact Ul (by omega)
def gL(V:List UInt8):Lp×Int:=match g1 V with
 |some d=>if xZ d=0 then(d,0)else(.e,2)
 |none=>(.e,2)
def _root_.Go.W.En.gj(rb:Nat)(st:RS)(fp:List Nat):En:=⟨ju fp,λe=>c9 e rb st fp,λe z y j=>(by obtain⟨s,all,x,rfl,k,h,q⟩:=j;have w:∀b∈rb::aw s,z.heap[b]? =e.heap[b]?:=λb d=>y b (aO.2 d) (c9.lt ⟨s,all,x,rfl,k,h,q⟩ b d);exact⟨s,all,x,rfl,(w rb (by simp)).trans k,⟨h.1,h.2.cb λb d _=>w b (by simp[d])⟩,q⟩),λe j b d=>j.lt b (aO.1 d),nX _⟩
def DM(rb:Nat)(st:RS)(fp:List Nat)(w:J)(b:Nat):¬(En.gj rb st fp).P ({w with heap:=Array.replicate (b+1) (.map #[] 0)}):=by rintro⟨s,all,e,_,d,_⟩;simp[Array.getElem?_replicate]at d
section
variable {M:Nat->Prop} {w0 w:J} {L D:List En} {V:List Nat}
def _root_.Go.W.LH.rm(H:LH M w0 w L D)(i:Nat){rb:Nat}{st j:RS}{fp:List Nat}{v:ab}{g:cD}{args:Array ab}{K:aH}(U:L[i]? =some (.gj rb st fp))(k:c9 w rb st fp->ak aa g args w (uj w rb fp v j))(q:∀d,LH M w0 d (L.set i (.gj rb j fp)) D->K (ag v) d)(br:∀b∈V,En.g b∈L:=by simp):ee V aa g args w K:=by
 have h:c9 w rb st fp:=H.get i U;refine⟨(·=rb),λb e x=>?_,(k h).mono λr d ⟨y,A,f⟩=>⟨f,?_⟩⟩
 .subst x;exact nN H U (DM b st fp w) (br b e) (aO.2 h.mem)
 .subst y;exact q d (H.gu i (.gj rb j fp) U (f.mono λB _ z=>aO.2 (by rw[z];exact h.mem)) A λb e=>.inl e)
def _root_.Go.W.LH.lF(H:LH M w0 w L D)(i:Nat){rb:Nat}{st B:RS}{fp:List Nat}{e:TypeId}{vs:List ab}{g:cD}{args:Array ab}{K:aH}(U:L[i]? =some (.gj rb st fp))(F:c9 w rb st fp->ak aa g args w (pR w rb fp e vs B))(G:∀s x,LH M w0 x (L.set i (.gj rb B fp)) (D++[.rd s vs])->(∀b∈aw s,w.heap.size<=b)->K (ag s.v) x)(br:∀b∈V,En.g b∈L:=by simp):ee V aa g args w K:=by
 have q:c9 w rb st fp:=H.get i U;refine⟨(·=rb),λb h I=>?_,(F q).mono λr x ⟨s,O,N,Q,f,E⟩=>⟨f,?_⟩⟩
 .subst I;exact nN H U (DM b st fp w) (br b h) (aO.2 q.mem)
 .subst O;have j:=H.gu i (.gj rb B fp) U (f.mono λZ _ P=>aO.2 (by rw[P];exact q.mem)) Q λb h=>.inl h;refine G s x ⟨j.fr,j.own,λy d=>?_,j.new,j.nd,λy d b h z C A=>?_⟩ E
  .rcases aX.1 d with d|d
   .exact j.rd y d
   .simp at d;subst d;exact N.rd
  .rcases aX.1 d with d|d
   .exact j.dj y d b h z C A
   .simp at d;subst d;have S:w.heap.size<=b:=by
     have h:b∈(if vs=[]then[]else aw s):=h;split at h
     .cases h
     .exact E b h
    have T:b<w.heap.size:=by
     obtain⟨Y,k⟩:=fQ.1 C;rw[List.getElem?_set]at k;split at k
     .split at k
      .cases k;exact q.lt b (aO.1 A)
      .cases k
     .exact z.lt w (H.own z (aE k)) b A
    omega
abbrev _root_.Go.W.En.by(s:Sl)(l:List UInt8):En:=.row cL 1 s (l.map W.bC)
def kD{w:J}{s:Sl}{l:List UInt8}(h:aK w cL 1 s (l.map W.bC)):eU w s l:=h.yE
def _root_.Go.W.LH.fw(H:LH M w0 w L D)(i:Nat){ty:TypeId}{s src:Sl}{l m:List UInt8}{K:Sl->J->Prop}(U:L[i]? =some (.by s l))(h:Bytes w src m)(y:l.length+m.length<=100000000000000)(q:∀e d,LH M w0 d (L.set i (.by e (l++m))) D->K e d)(br:∀b∈V,En.g b∈L:=by simp):
  ∃e d,(Builtin.append_ #[cV,cV] ty #[s.v,src.v]).run aa w=.ok e.v d/\kept V w d/\K e d:=by
 have x:=(kD (H.get i U)).1;have j:=h.1;simp only[List.length_map]at x j;refine H.dd i kq (ty:=ty) (src:=src) (news:=m.map W.bC) U ⟨by simp[j],h.2.1,h.2.2⟩ (W.xi _) (by omega) (λe d k=>q e d ?_) br
 rwa[<-g2]at k
def _root_.Go.W.LH.jP(H:LH M w0 w L D){g:cD}{args:Array ab}{l:List UInt8}{K:aH}(e:ak aa g args w (iv w l))(h:∀s d,LH M w0 d L D->tY M w0 w d L D->eU d s l->(∀b∈aw s,w.heap.size<=b)->K (ag s.v) d):ee V aa g args w K:=
 ha (e.mono λr d ⟨s,q,k,f,j⟩=>⟨f,by subst q;exact h s d (H.bw f) (H.fresh f) k j⟩)
def _root_.Go.W.LH.TR(H:LH M w0 w L D){g:cD}{args:Array ab}{l:List UInt8}{K:aH}(e:ak aa g args w (iv w l))(h:∀s d,LH M w0 d L D->tY M w0 w d L D->eU d s l->(∀b∈aw s,w.heap.size<=b)->K (ag s.v) d):ak aa g args w K:=
 e.mono λr d ⟨s,q,k,f,j⟩=>by subst q;exact h s d (H.bw f) (H.fresh f) k j
def _root_.Go.W.LH.str(H:LH M w0 w L D)(t:ByteArray){K:Sl->J->Prop}(q:∀e d,LH M w0 d L D->Bytes d e (bl t)->K e d)(br:∀b∈V,En.g b∈L:=by simp):
  ∃e d,(Go.convert fW cV (.string t)).run aa w=.ok e.v d/\kept V w d/\K e d:=by obtain⟨e,d,j,k,h,_⟩:=Ev w t;exact⟨e,d,j,λb x=>h.cb b (H.own _ (br b x)) id,q e d (H.bw h) k⟩
end
def Dz{w:J}{rb:Nat}{st:RS}{fp:List Nat}(h:c9 w rb st fp):ak aa Mz #[.pointer (some (ae rb))] w (pR w rb fp cL ((dc st).1.map bC) (dc st).2):=by refine QN.ok _ w _ ((Jo h).mono ?_);rintro r e ⟨s,rfl,d⟩;exact⟨s,rfl,s,rfl,d⟩
def oC(w:J)(rb:Nat)(fp:List Nat)(Q:cr->En->RS->Prop):aH:=λr d=>∃(e:En) (st:RS),Q r e st/\e.P d/\(∀b∈e.fp,w.heap.size<=b)/\c9 d rb st fp/\Fr (·∈fp) w d
section
variable {M:Nat->Prop} {w0 w:J} {L D:List En} {V:List Nat}
def _root_.Go.W.LH.D2(H:LH M w0 w L D)(i:Nat){rb:Nat}{st:RS}{fp:List Nat}{Q:cr->En->RS->Prop}{g:cD}{args:Array ab}{K:aH}(U:L[i]? =some (.gj rb st fp))(G:c9 w rb st fp->ak aa g args w (oC w rb fp Q))(I:∀r k q x,Q r k q->LH M w0 x (L.set i (.gj rb q fp)) (D++[k])->(∀b∈k.fp,w.heap.size<=b)->K r x)(br:∀b∈V,En.g b∈L:=by simp):ee V aa g args w K:=by
 have E:c9 w rb st fp:=H.get i U;refine⟨(·∈fp),λb h N=>?_,(G E).mono λr x ⟨k,q,P,F,C,S,f⟩=>⟨f,?_⟩⟩
 .exact nN H U (DM rb st fp w) (br b h) (aO.2 N)
 .have e:=H.gu i (.gj rb q fp) U (f.mono λac _ O=>aO.2 O) S λb h=>.inl h;refine I r k q x P ⟨e.fr,e.own,λy d=>?_,e.new,e.nd,λy d b h z B A=>?_⟩ C
  .rcases aX.1 d with d|d
   .exact e.rd y d
   .simp at d;subst d;exact F
  .rcases aX.1 d with d|d
   .exact e.dj y d b h z B A
   .simp at d;subst d;have T:=C b h;have Y:b<w.heap.size:=by
     obtain⟨Z,j⟩:=fQ.1 B;rw[List.getElem?_set]at j;split at j
     .split at j
      .cases j;exact E.lt b (aO.1 A)
      .cases j
     .exact z.lt w (H.own z (aE j)) b A
    omega
end
def Jn{w:J}{rb:Nat}{st:RS}{fp:List Nat}{D:List En}(h:c9 w rb st fp)(k:∀d∈D,d.P w/\∀b∈d.fp,b∉fp):LH (·∈fp) w w [.gj rb st fp] D:=
 ⟨Fr.refl _ _,λd e=>by rw[bG.1 e];exact h,λd e=>(k d e).1,λd e b j=>by
  rw[bG.1 e]at j;exact .inr (aO.1 j),by simp only[b',List.flatMap_nil,dt];exact(En.gj rb st fp).nd,λd e b j y x q=>by rw[bG.1 x]at q;exact(k d e).2 b j (aO.1 q)⟩
def Jm{w:J}{rb:Nat}{st:RS}{fp:List Nat}(h:c9 w rb st fp):LH (·∈fp) w w [.gj rb st fp] []:=Jn h λe d=>by cases d
set_option maxHeartbeats 2000000
namespace wt
noncomputable abbrev t0:=aA aa Tryz.f10 [(8,ls [0,1,2,4,6,8,10,12,14,16,18,3,5,7,9,11,13,15,17,19,20,21,22,23,24,25])] [2,6]
abbrev P0:Ps:=[(2,.l [.s] zt)]
noncomputable abbrev bq:=ax t0 [0,1,1,1,3] P0
noncomputable abbrev t1:=az bq
noncomputable def ct:=bj t1 [0,1,1,1,5] [(2,.l [.s] zt),(4,.v [.p]),(6,.l [.s] zt),(18,.v [.I]),(19,.v [.I])]
noncomputable abbrev t2:=bh ct
noncomputable abbrev bU:=ax t2 [0,1,1,1,6] P0
noncomputable abbrev t3:=az bU
def dX:=bm t3 ct
def aD:=aB t3 L9 [.s]
end wt
def _root_.Go.W.LH.OB{M:Nat->Prop}{w0 w:J}{L D:List En}(H:LH M w0 w L D)(e:List En)(j:∀d∈e,d.P w)(k:∀d∈e,∀b∈d.fp,∃h∈D,b∈h.fp):LH M w0 w L e:=
 ⟨H.fr,H.own,j,H.new,H.nd,λd y b q h z=>by obtain⟨g,A,x⟩:=k d y b q;exact H.dj g A b x h z⟩
def e9.tok{d:Nx}(W:e9 d):oE d:=⟨W.kl,W.n,W.m,W.u.1,λ_=>M1 d.tx⟩
def z6(g:List Nx)(e:Int)(w:J)(r:cr)(Y:J):Prop:=∃(t:Sl) (l:List Nd),r=ag (.tuple #[.agg #[t.v],.i e])/\xs l=g/\GP Y t l/\∀b∈(En.gr t l).fp,w.heap.size<=b
abbrev Ij(s:Sl)(l:List Nd):En:=.row cA 9 s (l.flatMap Nd.c)
def PT{w:J}{s:Sl}{V:List UInt8}(h:Bytes w s V)(hl:V.length<=1000000)(S:cH.P w):
  ak aa L9 #[s.v] w λr Y=>z6 (fy V).1 (fy V).2 w r Y/\ah w Y:=by
 have bad:∀{Y:J},fy V=([],2)->ah w Y->z6 (fy V).1 (fy V).2 w (ag (.tuple #[.agg #[.slice none 0 0],.i 2])) Y/\ah w Y:=λG f=>by
  rw[G];exact⟨⟨⟨none,0,0⟩,[],rfl,rfl,⟨bx.nil 9 _,by simp⟩,λb e=>by
   rcases l4.1 e with e|⟨d,k,_⟩
   .cases e
   .cases k⟩,f⟩
 obtain⟨B,hN⟩:∃B,B=(be ⟨V,0⟩).1:=⟨_,rfl⟩;obtain⟨T,ad⟩:∃st,st=(be ⟨V,0⟩).2:=⟨_,rfl⟩;have dec:∀(g:List Nx) (st:RS),¬(B<0\/4096<B)->fS B.toNat T=(g,st)->fy V=if j6 st≠0 then([],2)else if gv g≠0 then([],2)else(g,0):=λg st U Z=>by unfold fy;rw[<-hN,<-ad,af U,Z]
 have ax:T.V.length<=1000000:=by have:=(lC ⟨V,0⟩).2;rw[<-ad]at this;exact a8 this hl
 have loop:∀(d j:Nat) (F:Sl) (l:List Nd) (st:RS) (D E rb:Nat) (fp:List Nat) (H:J),¬(B<0\/4096<B)->j+d=B.toNat->fS B.toNat T=(xs l++(fS d st).1,(fS d st).2)->l.length=j->st.V.length<=1000000->(∀y∈l,∀b∈(cX y).fp,w.heap.size<=b)->(∀y∈l,e9 y.x)->
   LH F0 w H [.g D,.gj rb st fp,.g E,Ij F l] [cH,.all (l.map cX)]->
   wt.ct D ⟨none,0,0⟩ (some (ae rb)) E F B (j:Int) H λr Y=>z6 (fy V).1 (fy V).2 w r Y/\ah w Y:=by
  intro d;have ac:∀{H:J} {F:Sl} {l:List Nd} {st:RS} {D E rb:Nat} {fp:List Nat},LH F0 w H [.g D,.gj rb st fp,.g E,Ij F l] [cH,.all (l.map cX)]->GP H F l:=by intro H F l st D E rb fp I;have S:∀y∈l.map cX,y.P H:=I.getD 1;exact⟨aK.bc (I.get 3),λd k=>S (cX d) (ch.2 ⟨d,k,rfl⟩)⟩
  induction d with
  |zero=>
   intro j F l st D E rb fp H Q hj G hm sm hf hw I;have q:fS B.toNat T=(xs l,st):=by rw[G];simp[fS]
   have dec:=dec _ _ Q q;refine wt.dX _ _ _ _ _ _ _ _ _ (a1 (aV (by omega)) (I.ay (NM (I.get 1)) ?_));rintro _ w2 rfl K;refine⟨_,rfl,dv (λe=>K.ai λw3 C=>bad (by rw[dec,aj e]) C.fr) (λe=>K.ay (Ez (ac K) (K.getD 0) (λ_ d k=>⟨(hw d k).tok,hw d k⟩)) ?_)⟩;rintro _ w3 rfl C;refine⟨_,rfl,dv (λhv=>C.ai λN A=>bad (by rw[dec,af (by simpa using e),aj hv]) A.fr) (λhv=>C.ai λN A=>⟨?_,A.fr⟩)⟩;rw[dec,af (by simpa using e),af (by simpa using hv)];refine⟨F,l,rfl,rfl,ac A,λb e=>?_⟩;rcases l4.1 e with e|⟨d,k,e⟩
   .exact ta (λb e=>(A.new _ (aE (i:=3) rfl) b e).resolve_right id) b e
   .exact hf d k b e
  |succ d ih=>
   intro j F l st D E rb fp H Q hj G hm sm hf hw I;refine wt.dX _ _ _ _ _ _ _ _ _ (a3 (aP (by omega)) (I.ai λw2 K=>?_));refine K.rm 1 rfl (λz=>lx z) λw3 C=>⟨_,rfl,?_⟩;refine C.lF 1 rfl (λz=>n4 z) λL N A ar=>⟨_,rfl,?_⟩;refine A.rm 1 rfl (λz=>lx z) λw5 H5=>⟨_,rfl,?_⟩;refine H5.rm 1 rfl (λz=>lx z) λw6 H6=>⟨_,rfl,?_⟩;refine H6.rm 1 rfl (λz=>yS z) λw7 H7=>⟨_,rfl,?_⟩;refine H7.rm 1 rfl (λz=>Yf z) λw8 H8=>⟨_,rfl,?_⟩;refine H8.rm 1 rfl (λz=>lx z) λw9 H9=>⟨_,rfl,?_⟩;refine H9.rm 1 rfl (λz=>lx z) λaA an=>⟨_,rfl,?_⟩;refine an.rm 1 rfl (λz=>lx z) λaB ao=>⟨_,rfl,?_⟩;have hn:F.n=l.length:=gZ (ac I);refine ao.iA 3 mN rfl (λam aC ap=>ap.ai λab aq=>?_) (by omega);rw[bd _ (by omega)];obtain⟨o1,o2,_,_⟩:=NW st sm;have O:LH F0 w ab [.g D,.gj rb (eR st).2 fp,.g E,.row cA 9 am (l.flatMap Nd.c++Nd.c ⟨(eR st).1,L⟩)] [cH,.all (l.map cX),cX ⟨(eR st).1,L⟩]:=aq;have el:l.flatMap Nd.c++Nd.c ⟨(eR st).1,L⟩=(l++[(⟨(eR st).1,L⟩:Nd)]).flatMap Nd.c:=by simp
   rw[el]at O;refine ih (j+1) am (l++[⟨(eR st).1,L⟩]) (eR st).2 D E rb fp ab Q (by omega) ?_ (by simp[hm]) (by omega) ?_ ?_ ?_
   .rw [G];simp[xs,fS]
   .intro y q b e;rcases aX.1 q with q|q
    .exact hf y q b e
    .simp at q;subst q;have e:b∈(if(List.map a' (eR st).1.kids)=[]then[]else aw L):=e;split at e
     .cases e
     .exact a8 C.fr.size (ar b e)
   .intro y q;rcases aX.1 q with q|q
    .exact hw y q
    .simp at q;subst q;exact o1
   .have k1:∀y∈(l++[⟨(eR st).1,L⟩]:List Nd).map cX,y.P ab:=λy q=>by
     rw[g2]at q;rcases aX.1 q with q|q
     .have S:∀y∈l.map cX,y.P ab:=O.getD 1;exact S y q
     .simp at q;subst q;exact O.getD 2
    refine O.OB _ (λd k=>?_) (λd k b e=>?_)
    .rcases av.1 k with y|k
     .rw [y];exact O.getD 0
     .simp only[av,aR,aT]at k;subst k;exact k1
    .rcases av.1 k with y|k
     .exact ⟨cH,by simp,by rw[y]at e;exact e⟩
     .simp only[av,aR,aT]at k;subst k;unfold En.all at e;obtain⟨az,M,e⟩:=List.mem_flatMap.1 (aO.1 e);rw[g2]at M;rcases aX.1 M with M|M
      .exact ⟨.all (l.map cX),by simp,by unfold En.all;exact aO.2 (List.mem_flatMap.2 ⟨az,M,e⟩)⟩
      .simp only[List.map_cons,List.map_nil,av,aR,aT]at M;rw[M]at e;exact⟨cX ⟨(eR st).1,L⟩,by simp,e⟩
 have H0:LH F0 w w [] [.rd s (V.map W.bC),cH]:=bP _ (by
  intro y G;simp only[av,aR,aT]at G;rcases G with rfl|rfl
  .exact h
  .exact S)
 refine wt.aD _ w _ (H0.aJ λD H H1=>ha ((DA (H1.getD 0) (by omega)).mono ?_));rintro _ w2 ⟨rb,fp,rfl,au,f,nf⟩;have K:=H1.push (.gj rb ⟨V,0⟩ fp) f au (λb e=>nf b (aO.1 e));refine⟨f,some (ae rb),rfl,?_⟩;refine K.rm 1 rfl (λz=>lx z) λw3 C=>⟨_,rfl,?_⟩;rw[<-hN];rw[<-ad]at C;have al:B<0\/4096<B->fy V=([],2):=λQ=>by unfold fy;rw[<-hN,aj Q]
 refine aG (λU=>C.ai λN A=>bad (al (.inl U)) A.fr) (λU=>aG (λZ=>C.ai λN A=>bad (al (.inr Z)) A.fr) (λZ=>C.aJ λE N A=>?_));exact loop B.toNat 0 ⟨none,0,0⟩ [] T D E rb fp N (by omega) (by omega) (by simp) rfl ax (by simp) (by simp) ((A.h7 cA 9).OB _ (λd k=>by
  simp only[av,aR,aT]at k;rcases k with rfl|rfl
  .exact A.getD 1
  .intro y G;cases G) (λd k b e=>by
  simp only[av,aR,aT]at k;rcases k with rfl|rfl
  .exact ⟨cH,by simp,e⟩
  .cases e))
def QF:∀{r g:List Nx},Vg (g++r)->oq g r=0
 |[],_,_=>rfl
 |n::r,g,d=>by
  have j:(g++n::r)[g.length]? =some n:=by simp
  have e:=d.ok _ _ j;have h:=EZ d _ _ j;rw[List.take_left]at e h;rw[QE,e,af (λd=>d rfl),af (λd=>d rfl),af h];exact QF (by rw[cp];exact d)
def QG{g:List Nx}(h:Vg g)(d:g.length<=4096):gv g=0:=by unfold gv;rw[af (by omega)];exact QF (by rwa[List.nil_append])
structure Ro(g:List Nx):Prop where
 w:∀d∈g,e9 d
 n:∀d∈g,oB d
 z:∀d∈g,(dq d).length<=1000000
def W'{g:List Nx}{d:Nx}(h:d∈g):(dq d).length<=(dK g).length:=by
 have:(dq d).length<=(g.flatMap dq).length:=by
  induction g with
  |nil=>cases h
  |cons a g j=>
   rw[b',a7];rcases av.1 h with e|h
   .subst e;omega
   .have:=j h;omega
 unfold dK;rw[a7];omega
def Xg{n:Nx}(W:e9 n)(A:n.kids.length<=3)(B:n.tx.size<=100):(dq n).length<=300:=by have e:=dh _ W.op;have h:=mT _ W.ks;have j:=dh _ W.n;have k:=dh _ W.m;have q:=eI n.u.toNat (by have:=W.u;omega);have w:=dh _ W.sk;have x:=dh _ W.sn;have y:=dh _ W.sx;have z:=eI n.kids.length (by omega);have d:=eI (bl n.tx).length (by rw[dP];omega);have C:=dP n.tx;unfold dq cG dJ;simp only[a7];omega
def hU.Vv{g:List Nx}(h:hU g)(x:g.length<=1000):Ro g/\(dK g).length<=10+300 *g.length/\gv g=0:=by
 have j:=h.gd x;have A:∀d∈g,d.tx.size<=100:=λd e=>by
  have q:=h.nd d e;by_cases k:d.op=33
  .obtain ⟨y,w⟩:=q.re k;rw[w,cS];have:=Ql y;omega
  .have:=q.tx k;omega
 refine⟨⟨λd e=>(j d e).wd,λd e=>(j d e).sp.MZ (by omega),λd e=>(j d e).small (by omega)⟩,?_,QG h.vg (by omega)⟩;have B:=yr (z:=300) (g:=g) λd e=>Xg (j d e).wd (h.nd d e).kl (A d e);have C:=dh (g.length:Int) ⟨by omega,by omega⟩;unfold dK;rw[a7];omega
def pP(w:J)(s:Sl)(l:List Lx):Prop:=bx 4 w s ((l.map Lx.m).flatMap Lm.cs)/\∀d∈l,oA w d
def nR(s:Sl)(l:List Lx):En:=.all (.bc 4 s ((l.map Lx.m).flatMap Lm.cs)::l.map eY)
def sH{w:J}{s:Sl}{l:List Lx}:(nR s l).P w↔pP w s l:=by
 constructor
 .exact λd=>⟨d (.bc 4 s ((l.map Lx.m).flatMap Lm.cs)) (by simp),λe j=>h6.1 (d (eY e) (List.mem_cons_of_mem _ (ch.2 ⟨e,j,rfl⟩)))⟩
 .intro d k h;rcases av.1 h with rfl|h
  .exact d.1
  .obtain ⟨e,j,rfl⟩:=ch.1 h;exact h6.2 (d.2 e j)
def pP.n{w:J}{s:Sl}{l:List Lx}(h:pP w s l):s.n=l.length:=by have d:((l.map Lx.m).flatMap Lm.cs).length=s.n *4:=h.1.1;rw[Lm.len,List.length_map]at d;omega
structure Lm.fI(w:J)(p:Addr)(i:Nat)(x:Lm):Prop where
 c0:w.cell? ((p.add (i *4)).add 0)=some x.g.v
 c1:w.cell? ((p.add (i *4)).add 1)=some x.h.v
 c2:w.cell? ((p.add (i *4)).add 2)=some x.c.v
 c3:w.cell? ((p.add (i *4)).add 3)=some x.s.v
def pP.again{w:J}{s:Sl}{l:List Lx}(h:pP w s l){i:Nat}{x:Lx}(U:l[i]? =some x):∃p,s.a=some p/\Lm.fI w p i x.m:=by
 have e:(l.map Lx.m)[i]? =some x.m:=by rw[List.getElem?_map,U];rfl
 have q:=(bO.1 e).1;have:=eV.elem (f:=Lm.cs) (sz:=4) (s:=s) (w:=w) (λ_=>rfl) (by decide) h.1.2.2 e (K:=λp=>s.a=some p/\Lm.fI w p i x.m) λp k d=>⟨k,d 0 _ rfl,d 1 _ rfl,d 2 _ rfl,d 3 _ rfl⟩;obtain⟨p,_,j⟩:=yA this;exact⟨p,j⟩
def pP.get{w:J}{s:Sl}{l:List Lx}(h:pP w s l){i:Nat}{x:Lx}(U:l[i]? =some x){K:Addr->Prop}(j:∀p,s.a=some p->Lm.fI w p i x.m->K p):dM s.a K:=by obtain⟨p,d,e⟩:=h.again U;rw[d];exact j p d e
def Fq(n:Nat)(l:List Lx):Prop:=l.length<=n/\∀d∈l,mB n d
namespace vN
noncomputable abbrev t0:=aA aa Tryz.f46 [] [5]
noncomputable def a2:=bj t0 [0,1,2] [(0,.v [.r]),(10,.v [.s]),(11,.v [.I]),(12,.v [.I])]
noncomputable abbrev t1:=bh a2
def bB:=bm t1 a2
def aD:=aB t1 Lf [.r,.s]
end vN
namespace Nr
noncomputable abbrev t0:=aA aa Tryz.f19 [] [1]
def aD:=aB t0 K6 [.a 4,.s,.s,.s,.s]
end Nr
namespace Nq
noncomputable abbrev t0:=aA aa Tryz.f5 [] [1]
def aD:=aB t0 K0 [.a 4,.s,.s,.s,.s]
end Nq
namespace Ns
noncomputable abbrev t0:=aA aa Tryz.f20 [] [2]
def aD:=aB t0 K8 [.s]
end Ns
namespace Nt
noncomputable abbrev t0:=aA aa Tryz.f75 [] [1,2,3]
def aD:=aB t0 Lb [.a 2,.p,.I]
end Nt
namespace sY
noncomputable abbrev t0:=aA aa Tryz.f48 [] [1]
noncomputable abbrev bq:=ax t0 [0,1,1,1,2] []
noncomputable abbrev t1:=az bq
noncomputable def ct:=bj t1 [0,1,1,1,4] [(1,.l [.p,.I] Qu),(5,.v [.s]),(20,.v [.I]),(21,.v [.I])]
noncomputable abbrev t2:=bh ct
def dX:=bm t2 ct
def aD:=aB t2 Lc [.a 2,.p,.I]
end sY
namespace Ds
noncomputable abbrev t0:=aA aa Tryz.f21 [(4,(.sq [0,1,2,3,5,6] (.fork (.sq [4] (.fork (ls [7,8,9,10]) (ls [9,7,8,10]))) (ls [9,4,7,8,10])))),(7,ls [0,1,2,3,4,5,6,7,8,9])] [1,2,4,6]
noncomputable abbrev bq:=ax t0 [4] [(1,.l [.p,.I] Qu),(2,.l [.s,.s,.s,.s] il),(6,.l [.s,.s,.s,.s] il)]
noncomputable abbrev t1:=az bq
def aD:=aB t1 La [.a 2,.p,.I]
end Ds
namespace Np
noncomputable abbrev t0:=aA aa Tryz.f6 [] [2,4]
noncomputable abbrev bq:=ax t0 [0,1,1,1,2] [(2,.l [.s,.s,.s,.s] il)]
noncomputable abbrev t1:=az bq
def aD:=aB t1 KZ [.s]
end Np
section
variable {M:Nat->Prop} {w0 w:J} {L D:List En} {V:List Nat}
def _root_.Go.W.LH.Cm(H:LH M w0 w L D){P:Program}{t e:TypeId}{z:ab}{sz bytes:Nat}(h:gU P t e z sz bytes)(n:Nat)(d:n *bytes<=140737488355328){K:Sl->J->Prop}(y:∀s Y,s.n=0->LH M w0 Y (L++[.row e sz s []]) D->K s Y)(br:∀b∈V,En.g b∈L:=by simp):
  ∃(s:Sl) (Y:J),Sem.run P (Instr.makeSlice t (.i 0) (.i (n:Int))) w=.ok s.v Y/\kept V w Y/\K s Y:=by
 obtain⟨i,B,E,C,A⟩:=info_parts h.U;have F:n<=140737488355328:=by have:=Nat.le_mul_of_pos_right n h.hb;omega
 obtain⟨Y,k,q,x⟩:=run_make_own (P:=P) w 0 t e i z sz h.ht B E C .i64 .i64 n (by rw[A,Nat.mul_comm];omega) (by unfold maxLen;omega) (dn _);have f:ah w Y:=Fr.grown x λ_ j=>by cases j
 exact⟨⟨some (ae w.heap.size),0,n⟩,Y,k,λb d=>f.cb b (H.own _ (br b d)) id,y _ Y rfl (H.X0 f q (by intro b d;simp[aw]at d;omega))⟩
end
def tt(d:Sp):En:=.all [d.pE,d.lE,d.hE]
def XQ{w:J}{rb:Nat}{st:RS}{fp:List Nat}{size:Int}(h:c9 w rb st fp):ak aa Lb #[.agg #[.pointer (some (ae rb)),.i size]] w (oC w rb fp λr y V=>V=(e7 st).2/\∃q:Sp,r=ag q.v/\q.x=(e7 st).1/\y=tt q):=by
 refine Nt.aD _ _ w _ ((Jm h).aJ λY w1 D=>D.aJ λZ w2 I=>I.aJ λb3 w3 K=>?_);refine K.rm 0 rfl (λd=>lx d) λw4 L=>⟨_,rfl,L.ai λw5 M=>?_⟩;refine M.rm 0 rfl (λd=>lx d) λw6 N=>⟨_,rfl,N.ai λw7 O=>?_⟩;refine O.rm 0 rfl (λd=>lx d) λw8 P=>⟨_,rfl,P.ai λw9 C=>?_⟩;refine C.lF 0 rfl (λd=>n4 d) λp ab E S=>⟨_,rfl,E.ai λac F=>?_⟩;refine F.lF 0 rfl (λd=>Dz d) λt W z _=>⟨_,rfl,_,lZ (show Bytes W t _ from z.getD 1),z.ai λad A=>?_⟩;refine A.lF 0 rfl (λd=>n4 d) λl af G Q=>⟨_,rfl,G.ai λah B=>?_⟩;refine B.lF 0 rfl (λd=>n4 d) λU aj H T=>⟨_,rfl,H.ai λal e=>?_⟩;refine⟨tt ⟨(e7 st).1,p,l,U⟩,_,⟨rfl,_,rfl,rfl,rfl⟩,λy k=>?_,λb j=>?_,e.get 0,e.fr⟩
 .simp only[av,aR,aT]at k;rcases k with rfl|rfl|rfl
  .exact e.getD 0
  .exact e.getD 2
  .exact e.getD 3
 .obtain ⟨y,k,j⟩:=dZ.1 j;simp only[av,aR,aT]at k;rcases k with rfl|rfl|rfl
  .exact a8 C.fr.size (hn S b j)
  .exact a8 A.fr.size (hn Q b j)
  .exact a8 B.fr.size (hn T b j)
def XR{w:J}{rb:Nat}{st:RS}{fp:List Nat}{size:Nat}(hs:size<=1000000)(h:c9 w rb st fp):ak aa Lc #[.agg #[.pointer (some (ae rb)),.i (size:Int)]] w (oC w rb fp λr e D=>D=(fj size st).2/\∃(s:Sl) (ds:List Sp),r=ag (.tuple #[s.v,.bool (fj size st).1.isSome])/\cC ds=(fj size st).1.getD []/\e=.sp s ds):=by
 obtain⟨x,K⟩:∃x,x=(be st).1:=⟨_,rfl⟩;obtain⟨A,N⟩:∃D,D=(be st).2:=⟨_,rfl⟩;have Z:ao .i64 (bN (size:Int) 7)=((size / 7:Nat):Int):=by rw[show bN (size:Int) 7=((size / 7:Nat):Int)from rfl];exact aS _ (by omega)
 refine sY.aD _ _ w _ ((Jm h).aJ λI w1 W=>W.rm 0 rfl (λM=>lx M) λw2 F=>⟨_,rfl,?_⟩);rw[Z,<-K];rw[<-N]at F;have bad:x<0\/((size / 7:Nat):Int)<x->sY.bq w2 (oC w rb fp λr e D=>D=(fj size st).2/\∃(s:Sl) (ds:List Sp),r=ag (.tuple #[s.v,.bool (fj size st).1.isSome])/\cC ds=(fj size st).1.getD []/\e=.sp s ds):=λhc=>by
  have e:fj size st=(none,A):=by unfold fj;rw[<-K,<-N,aj hc]
  rw[e];refine⟨.sp ⟨none,0,0⟩ [],A,⟨rfl,⟨none,0,0⟩,[],rfl,rfl,rfl⟩,λe d=>?_,λb q=>?_,F.get 0,F.fr⟩
  .rw [bG.1 d];exact bx.nil 7 _
  .obtain ⟨e,d,q⟩:=dZ.1 q;rw[bG.1 d]at q;cases q
 refine aG (λS=>bad (.inl S)) λS=>aG (λE=>bad (.inr E)) λE=>?_;have Q:x=((x.toNat:Nat):Int):=by omega
 have ab:fj size st=(some (fE x.toNat A).1,(fE x.toNat A).2):=by unfold fj;rw[<-K,<-N,af (by omega)]
 rw[ab];have loop:∀(k i:Nat) (s:Sl) (ds:List Sp) (B:RS) (v:J),i+k=x.toNat->ds.length=i->(fE x.toNat A)=(cC ds++(fE k B).1,(fE k B).2)->LH (·∈fp) w v [.gj rb B fp,.g I,.row e2 7 s (ds.flatMap Sp.c)] [cz ds]->(∀b∈(cz ds).fp,w.heap.size<=b)->
   sY.ct I (some (ae rb)) (size:Int) s x (i:Int) v (oC w rb fp λr e D=>D=(fE x.toNat A).2/\∃(s:Sl) (ds:List Sp),r=ag (.tuple #[s.v,.bool true])/\cC ds=(fE x.toNat A).1/\e=.sp s ds):=by
  intro k;induction k with
  |zero=>
   intro i s ds B v hi T d z L;simp only[fE,dt]at d;refine sY.dX _ _ _ _ _ _ _ _ (a1 (aV (by omega)) ⟨.sp s ds,B,⟨by rw[d],s,ds,rfl,by rw[d],rfl⟩,?_,λb q=>?_,z.get 0,z.fr⟩)
   .intro e C;rcases av.1 C with rfl|C
    .exact aK.bc (z.get 2)
    .exact (z.getD 0:(cz ds).P v) e C
   .obtain ⟨e,C,q⟩:=dZ.1 q;rcases av.1 C with rfl|C
    .exact ta (λb q=>(z.new _ (aE (i:=2) rfl) b q).elim id (λh=>absurd (aO.2 h) (mL z.nd (i:=2) rfl (j:=0) rfl (by decide) b q))) b q
    .exact L b (dZ.2 ⟨e,C,q⟩)
  |succ k ih=>
   intro i s ds B v hi T d z L;have ac:=(z.get 2:aK _ _ _ _ _).len;rw[Sp.eW]at ac;refine sY.dX _ _ _ _ _ _ _ _ (a3 (aP (by omega)) (z.D2 0 rfl (λM=>XQ M) ?_));rintro _ e ah V ⟨rfl,y,rfl,hx,rfl⟩ H hf;refine⟨_,_,_,_,_,_,_,rfl,H.iA 2 xA rfl (λU G Y=>?_) (by omega)⟩;rw[bd _ (by omega)];have O:LH (·∈fp) w G [.gj rb (e7 B).2 fp,.g I,.row e2 7 U (ds.flatMap Sp.c++Sp.c y)] ([cz ds]++[tt y]):=Y;have ec:ds.flatMap Sp.c++Sp.c y=(ds++[y]).flatMap Sp.c:=by simp
   rw[ec]at O;refine ih (i+1) U (ds++[y]) (e7 B).2 G (by omega) (by simp[T]) ?_ ?_ ?_
   .rw [d];simp[fE,hx]
   .refine O.mX _ λe d=>?_;rw[bG.1 d];refine⟨λh e d=>?_,λb q=>?_⟩
    .simp only[gR,cy]at d;rcases aX.1 d with d|d
     .exact (h (cz ds) (by simp):(cz ds).P G) e d
     .simp only[b',List.flatMap_nil,dt,av,aR,aT]at d;have E:(tt y).P G:=h (tt y) (by simp);rcases d with rfl|rfl|rfl
      .exact E y.pE (by simp)
      .exact E y.hE (by simp)
      .exact E y.lE (by simp)
    .obtain ⟨e,d,q⟩:=dZ.1 q;simp only[gR,cy]at d;rcases aX.1 d with d|d
     .exact ⟨cz ds,by simp,dZ.2 ⟨e,d,q⟩⟩
     .refine ⟨tt y,by simp,dZ.2 ⟨e,?_,q⟩⟩;simp only[b',List.flatMap_nil,dt,av,aR,aT]at d ⊢;rcases d with rfl|rfl|rfl<;>simp
   .intro b q;obtain⟨e,d,q⟩:=dZ.1 q;simp only[gR,cy]at d;rcases aX.1 d with d|d
    .exact L b (dZ.2 ⟨e,d,q⟩)
    .refine a8 z.fr.size (hf b (dZ.2 ⟨e,?_,q⟩));simp only[b',List.flatMap_nil,dt,av,aR,aT]at d ⊢;rcases d with rfl|rfl|rfl<;>simp
 rw[Q];refine F.Cm xA x.toNat (by omega) λs V ad H=>?_;rw[<-Q];exact loop x.toNat 0 s [] A V (by omega) rfl (by simp) (H.mX _ λe d=>by rw[bG.1 d];exact⟨λ_ e d=>(by cases d),λb q=>(by obtain⟨e,d,_⟩:=dZ.1 q;cases d)⟩) (λb q=>(by obtain⟨e,d,_⟩:=dZ.1 q;cases d))
def XM{w:J}{rb:Nat}{fp:List Nat}{V:List UInt8}(hl:V.length<=100000)(hk:cH.P w)(ao:∀b∈cH.fp,b∉fp)(h:c9 w rb ⟨V,0⟩ fp):
  ak aa La #[.agg #[.pointer (some (ae rb)),.i ((V.length:Nat):Int)]] w (oC w rb fp λr q _=>(∃(p:Lp) (x:Lx),g1 V=some p/\r=ag (.tuple #[x.m.v,.bool true])/\x.p=p/\q=eY x)\/(g1 V=none/\∃m:Lm,r=ag (.tuple #[m.v,.bool false]))):=by
 have s1:=yU ⟨V,0⟩;dsimp only at s1;have bad:∀{Y:J} {st:RS} {L D:List En} (m:Lm),g1 V=none->LH (·∈fp) w Y (.gj rb st fp::L) D->oC w rb fp (λr q _=>(∃(p:Lp) (x:Lx),g1 V=some p/\r=ag (.tuple #[x.m.v,.bool true])/\x.p=p/\q=eY x)\/(g1 V=none/\∃m:Lm,r=ag (.tuple #[m.v,.bool false]))) (ag (.tuple #[m.v,.bool false])) Y:=
  λm ap K=>⟨.all [],_,.inr ⟨ap,m,rfl⟩,λq e=>(by cases e),λb d=>(by obtain⟨q,e,_⟩:=dZ.1 d;cases e),K.get 0,K.fr⟩
 refine Ds.aD _ _ w _ ((Jn (D:=[cH]) h (λq e=>by rw[bG.1 e];exact⟨hk,ao⟩)).aJ λb1 w1 H1=>H1.aJ λb2 w2 H2=>H2.lF 0 rfl (λj=>Dz j) λt w3 N ht=>⟨_,rfl,N.hD (PT (show Bytes w3 t (dc ⟨V,0⟩).1 from N.getD 1) (by omega) (N.getD 0)) ?_⟩);rintro _ w4 ⟨F,O,rfl,hx,ad,ab⟩ _ F4;have H4:=F4.rd (.gr F O) (bV.2 ad) ab;refine⟨_,_,rfl,H4.aJ λb3 w5 T=>dv (λU=>T.ai λw6 A=>bad ⟨⟨none,0,0⟩,⟨none,0,0⟩,⟨none,0,0⟩,⟨none,0,0⟩⟩ (Wa U) A) λU=>?_⟩;have am:∀b∈(En.gr F O).fp,w.heap.size<=b:=λb d=>a8 N.fr.size (ab b d);have fin:∀{I:Nat} {y k:Sl} {Y:J},(∀b∈aw y,w.heap.size<=b)->(∀b∈aw k,w.heap.size<=b)->
   LH (·∈fp) w Y [.gj rb (qz V) fp,.g b1,.g b2,.g b3,.g I] [cH,.rd t ((dc ⟨V,0⟩).1.map bC),.gr F O,.rd y ((cK (dc ⟨V,0⟩).2).1.map a'),.rd k ((cK (cK (dc ⟨V,0⟩).2).2).1.map a')]->
   Ds.bq b1 (some (ae rb)) ((V.length:Nat):Int) b2 ⟨none,0,0⟩ ⟨none,0,0⟩ ⟨none,0,0⟩ ⟨none,0,0⟩ I F y k ⟨none,0,0⟩ Y (oC w rb fp λr q _=>(∃(p:Lp) (x:Lx),g1 V=some p/\r=ag (.tuple #[x.m.v,.bool true])/\x.p=p/\q=eY x)\/(g1 V=none/\∃m:Lm,r=ag (.tuple #[m.v,.bool false]))):=by
  intro I y k Y an al K;have C:=Wc U;refine K.D2 0 rfl (λj=>XR (by omega) j) ?_;rintro _ q aq Z ⟨rfl,s,ds,rfl,S,rfl⟩ B hf;refine⟨_,_,rfl,?_⟩;cases ac:(fj V.length (qz V)).1 with
  |none=>
   rw[ac]at C;exact a1 rfl (B.ai λW z=>bad ⟨F,y,k,s⟩ C z)
  |some ss=>
   rw[ac]at C S;dsimp only at C;have S:cC ds=ss:=S;refine a3 rfl (B.ai λW z=>z.ay (NM (z.get 0)) ?_);rintro _ ar rfl ah;refine⟨_,rfl,ah.ai λau E=>?_⟩;by_cases e:j6 (fj V.length (qz V)).2=0
   .rw [aj e]at C;rw[e];refine⟨eY ⟨⟨F,y,k,s⟩,O,(cK (dc ⟨V,0⟩).2).1,(cK (cK (dc ⟨V,0⟩).2).2).1,ds⟩,_,.inl ⟨_,_,C,rfl,?_,rfl⟩,?_,λb d=>?_,E.get 0,E.fr⟩
    .unfold Lx.p;dsimp only;rw[hx,S]
    .exact h6.2 ⟨bV.1 (E.getD 2),E.getD 3,E.getD 4,fo.1 (E.getD 5)⟩
    .obtain ⟨q,e,d⟩:=dZ.1 d;simp only[av,aR,aT]at e;rcases e with rfl|rfl|rfl|rfl
     .exact am b d
     .exact hn an b d
     .exact hn al b d
     .exact a8 K.fr.size (hf b d)
   .rw [af e]at C;have:(j6 (fj V.length (qz V)).2==0)=false:=by simpa using e
    rw[this];exact bad ⟨F,y,k,s⟩ C E
 refine⟨T.ai λw6 A=>A.lF 0 rfl (λj=>n4 j) λy w7 G Q=>⟨_,rfl,⟨?_,?_⟩⟩,?_⟩
 .exact G.lF 0 rfl (λj=>n4 j) λk w8 H M=>⟨_,rfl,H.aJ λI Z B=>B.ai λW z=>fin (λb d=>a8 A.fr.size (Q b d)) (λb d=>a8 G.fr.size (M b d)) z⟩
 .exact G.aJ λI w8 H=>H.lF 0 rfl (λj=>n4 j) λk Z B M=>⟨_,rfl,B.ai λW z=>fin (λb d=>a8 A.fr.size (Q b d)) (λb d=>a8 H.fr.size (M b d)) z⟩
 .exact T.aJ λI w6 A=>A.lF 0 rfl (λj=>n4 j) λy w7 G Q=>⟨_,rfl,G.lF 0 rfl (λj=>n4 j) λk w8 H M=>⟨_,rfl,H.ai λZ B=>fin (λb d=>a8 A.fr.size (Q b d)) (λb d=>a8 G.fr.size (M b d)) B⟩⟩
def XP{w:J}{s:Sl}{V:List UInt8}(h:Bytes w s V)(C:V.length<=100000):ak aa K8 #[s.v] w λr k=>∃(rb:Nat) (fp:List Nat),r=ag (.agg #[.pointer (some (ae rb)),.i ((V.length:Nat):Int)])/\c9 k rb ⟨V,0⟩ fp/\ah w k/\∀b∈fp,w.heap.size<=b:=by
 refine Ns.aD _ w _ ((bP (w:=w) [.rd s (V.map bC)] (by intro B x;rw[bG.1 x];exact h)).aJ λA z d=>ha ((DA (show Bytes z s V from d.getD 0) (by omega)).mono ?_))
 rintro _ D ⟨rb,fp,rfl,y,f,nf⟩;have q:=d.push (.gj rb ⟨V,0⟩ fp) f y (λb e=>nf b (aO.1 e));refine⟨f,some (ae rb),rfl,q.ai λE j=>⟨rb,fp,?_,j.get 1,j.fr,λb e=>a8 d.fr.size (nf b e)⟩⟩;rw[Bytes.len h]
def Lx.e:Lx:=⟨⟨⟨none,0,0⟩,⟨none,0,0⟩,⟨none,0,0⟩,⟨none,0,0⟩⟩,[],[],[],[]⟩
def WI(w:J):oA w Lx.e:=⟨⟨bx.nil 9 _,λj d=>(by cases d)⟩,Rd.nil _,Rd.nil _,fo.1 λk h=>by rw[bG.1 h];exact bx.nil 7 _⟩
def pQ.Jy{n:Nat}{x:Lx}(h:pQ n x.p)(k:n<=100000):ug x:=by
 have q:x.ds.length<=n:=by have:=h.sl;simpa[Lx.p]using this
 refine⟨λd j=>?_,a8 h.hl k,a8 h.cl k,a8 q k,λd j=>?_⟩
 .have W:=h.g d.x (ch.2 ⟨d,j,rfl⟩);exact⟨W.tok,W⟩
 .have e:=h.s d.x (ch.2 ⟨d,j,rfl⟩);exact⟨by have:=e.p;omega,by have:=e.l;omega,by have:=e.h;omega⟩
def Fo(w:J)(p:Lp)(E:Int)(r:cr)(Y:J):Prop:=∃d:Lx,r=ag (.tuple #[d.m.v,.i E])/\d.p=p/\oA Y d/\∀b∈(eY d).fp,w.heap.size<=b
def Ni{w:J}{s:Sl}{V:List UInt8}(h:Bytes w s V)(C:V.length<=100000)(N:cH.P w):ak aa KZ #[s.v] w λr Y=>Fo w (gL V).1 (gL V).2 r Y/\ah w Y:=by
 have bad:∀{Y:J},gL V=(.e,2)->ah w Y->Fo w (gL V).1 (gL V).2 (ag (.tuple #[Lx.e.m.v,.i 2])) Y/\ah w Y:=λj f=>by
  rw[j];refine⟨⟨Lx.e,rfl,rfl,WI _,λb d=>?_⟩,f⟩;obtain⟨j,k,d⟩:=dZ.1 d;simp only[av,aR,aT]at k;rcases k with rfl|rfl|rfl|rfl
  .rcases l4.1 d with d|⟨ac,L,_⟩
   .cases d
   .cases L
  .cases d
  .cases d
  .obtain ⟨j,k,d⟩:=dZ.1 d;rw[bG.1 k]at d;cases d
 refine Np.aD _ w _ ((bP (w:=w) [.rd s (V.map bC),cH] (by
  intro j k;simp only[av,aR,aT]at k;rcases k with rfl|rfl
  .exact h
  .exact N)).aJ λb1 W E=>ha ((XP (show Bytes W s V from E.getD 0) C).mono ?_))
 rintro _ w2 ⟨T,K,rfl,U,f,nf⟩;have z:=E.push (.gj T ⟨V,0⟩ K) f U (λb d=>nf b (aO.1 d));refine⟨f,_,_,rfl,z.D2 1 rfl (λS=>XM C (z.getD 1) (λb d O=>z.dj cH (by simp) b d _ (aE (i:=1) rfl) (aO.2 O)) S) ?_⟩;rintro _ j st w3 Q F M;rcases Q with⟨p,ab,y,rfl,D,rfl⟩|⟨y,m,rfl⟩
 .refine ⟨_,_,_,_,_,rfl,F.aJ λI Z A=>a1 rfl (A.ai λw5 x=>?_)⟩;have ok:=Ji (by omega) y;rw[<-D]at ok;refine x.ay (I1 (ok.Jy C) (h6.1 (x.getD 2)) (x.getD 1)) ?_;rintro _ w6 rfl G;rw[vq,D];refine⟨_,rfl,dv (λB=>?_) λB=>G.ai λH q=>?_⟩
  .refine G.ai (λH q=>bad ?_ q.fr) ?_
   .unfold gL;rw[y];dsimp only;rw[af B]
   .simp
  .have j:gL V=(p,0):=by unfold gL;rw[y];dsimp only;rw[aj B]
   rw[j];exact⟨⟨ab,rfl,D,h6.1 (q.getD 2),λb d=>a8 z.fr.size (M b d)⟩,q.fr⟩
 .refine ⟨_,_,_,_,_,rfl,F.aJ λI Z A=>a3 rfl (A.ai λw5 x=>x.ai (λH q=>bad ?_ q.fr) (by simp))⟩;unfold gL;rw[y]
end Go.Proofs.YthaledkcjibmfaaGreatDoor
