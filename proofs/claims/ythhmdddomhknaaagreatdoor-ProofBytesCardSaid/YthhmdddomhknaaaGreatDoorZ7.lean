import Derived.Test.YthhmdddomhknaaaGreatDoorPM
import Derived.Test.YthhmdddomhknaaaGreatDoorE2
import Derived.Test.YthhmdddomhknaaaGreatDoorR14
import Derived.Test.YthhmdddomhknaaaGreatDoorG9
import Derived.Test.YthhmdddomhknaaaGreatDoorU
import Derived.Test.YthhmdddomhknaaaGreatDoorWB
set_option linter.unusedVariables false
set_option maxRecDepth 100000
set_option maxHeartbeats 1000000
set_option linter.defProp false
namespace Go.Proofs.YthhmdddomhknaaaGreatDoor
open Go renaming World->J,Calls->ai,Value->aa,Ending->ch,FuncId->cB
open Go.IntKind renaming wrap->aj
open _root_.Int renaming toNat->aV,tdiv->bL,toNat_natCast->bH
open _root_.ByteArray renaming mk->bG
open Go.IntWalk renaming i64_in->aQ
open _root_.Bool renaming and_eq_true->bq
open _root_.Nat renaming le_refl->bm,le_trans->a6,zero_le->dv
open Go.Proofs.Tryz renaming prog->Y
open _root_.Decidable renaming decide->ak
open Go.Ending renaming returned->ae
open List renaming mem_append->aY,mem_cons->au,not_mem_nil->aO,mem_of_getElem?->aD,getElem?_eq_getElem->a4,getElem?_eq_some_iff->cz,mem_flatMap->bS,mem_map->bZ,length_append->bc,length_cons->dE,append_assoc->cp,mem_singleton->bT,flatMap_append->dt,flatMap_cons->cV,mem_iff_getElem?->g7,all_eq_true->ft,append_nil->eP,map_append->hv,drop_of_length_le->cU
open Go Go.W
structure w6(O us:List I)(pv:I)(a b i j:Nat):Prop where
 g:Sg a b O us
 z:us[a]? =some pv
 i1:a+1<=i
 ij:i<=j+1
 jb:j<b
 lo:∀(q:Nat) x,a<q->q<i->us[q]? =some x->¬a5 pv.rx x.rx<0
 V:∀(q:Nat) x,j<q->q<b->us[q]? =some x->a5 pv.rx x.rx<0
structure w5(us:List I)(pv:I)(a m b:Nat):Prop where
 z:us[a]? =some pv
 am:a<m
 mb:m<=b
 lo:∀(q:Nat) x,a<q->q<m->us[q]? =some x->¬a5 pv.rx x.rx<0
 V:∀(q:Nat) x,m<=q->q<b->us[q]? =some x->a5 pv.rx x.rx<0
section
variable {s:Sl} {l O:List I} {w w1:J}
def Y0(h:Sq s l w w1 O)(hz:I.a0 l<=1000000){a b p:Nat}{E:I}(hb:b<=O.length)(hp:O[p]? =some E)(h1:a<=p)(H:p<b):
  ai Y Mw #[s.v,.i (a:Int),.i (b:Int),.i (p:Int),.func (.func cd) #[] #[]] w1 λr w'=>∃(m:Nat) (k:List I),r=ae (.i (m:Int))/\Sq s l w w' k/\Sg a b O k/\w5 k E a m b:=by
 have hl:=(h.lt hz).1
 let Z:aH:=λr w'=>∃(m:Nat) (k:List I),r=ae (.i (m:Int))/\Sq s l w w' k/\Sg a b O k/\w5 k E a m b
 have pr:∀{j:Nat},0<j->j<=1000000->aj .i64 ((j:Int) - 1)=((j - 1:Nat):Int):=λh1 H=>by rw[aQ _ (by omega)];omega
 have l0:∀(D i j:Nat) (k:List I) (N:J),j+1 - i<D->w6 O k E a b i j->Sq s l w N k->ny.L0 s (a:Int) (i:Int) (j:Int) N Z:=by
  intro D;induction D with
  |zero=>intro i j k N F;omega
  |succ D ih=>
   intro i j k N F d H;have hlen:=d.g.len;have s3:∀(i j:Nat) (C:J),j+1 - i<=D->w6 O k E a b i j->(i<=j->∀y,k[i]? =some y->a5 E.rx y.rx<0)->(i<=j->∀y,k[j]? =some y->¬a5 E.rx y.rx<0)->Sq s l w C k->ny.S3 s (a:Int) (i:Int) (j:Int) C Z:=by
    intro i j C F d Q fy P;have ag:=d.jb;have ac:=d.i1;have al:=d.ij;refine aF (λak=>?_) (λT=>?_)
    .have e:i=j+1:=by omega
     exact⟨i,k,rfl,P,d.g,d.z,by omega,by omega,d.lo,λB y h1 H=>d.V B y (by omega) H⟩
    obtain⟨y,A⟩:=ed (O:=k) (i:=j) (by omega);obtain⟨G,x⟩:=ed (O:=k) (i:=i) (by omega);have lx:=fy (by omega) y A;have ly:=Q (by omega) G x;have am:i≠j:=λe=>by subst e;rw[A]at x;cases x;exact lx ly
    refine P.swap A x rfl rfl λU K=>?_;show ny.L0 _ _ _ _ _ _;rw[bb _ (by omega),pr (by omega) (by omega)];have g:=mB x A;refine ih (i+1) (j - 1) _ U (by omega) ⟨d.g.trans (Sg.swap A x (by omega)),?_,by omega,by omega,by omega,λB ah L M q=>?_,λB ah L M q=>?_⟩ K
    .rw [g,af (by omega),af (by omega)];exact d.z
    .rw [g,af (by omega)]at q;split at q
     .cases q;exact lx
     .exact d.lo B ah L (by omega) q
    .rw [g]at q;split at q
     .cases q;exact ly
     .rw [af (by omega)]at q;exact d.V B ah (by omega) M q
   have l2:∀(e i j:Nat) (C:J),j+1 - i<e->j+1 - i<=D->w6 O k E a b i j->(i<=j->∀y,k[i]? =some y->a5 E.rx y.rx<0)->Sq s l w C k->ny.L2 s (a:Int) (i:Int) (j:Int) C Z:=by
    intro e;induction e with
    |zero=>intro i j C he;omega
    |succ e ad=>
     intro i j C he F d Q P;have ag:=d.jb;have ac:=d.i1;have al:=d.ij;refine ny.k9 _ _ _ _ _ _ (P.dr λU K=>aF (λT=>?_) (λak=>s3 i j U F d Q (λT=>by omega) K));obtain⟨y,A⟩:=ed (O:=k) (i:=j) (by omega);refine K.cmp hz d.z A rfl rfl λW S=>aF (λab=>?_) (λaa=>s3 i j W F d Q (λ_ G x=>by rw[A]at x;cases x;exact aa) S);rw[pr (by omega) (by omega)];refine ad i (j - 1) W (by omega) (by omega) ⟨d.g,d.z,ac,by omega,by omega,d.lo,λB G L M q=>?_⟩ (λT=>Q (by omega)) S;by_cases eq:B=j
     .subst eq;rw[A]at q;cases q;exact ab
     .exact d.V B G (by omega) M q
   have l1:∀(e i j:Nat) (C:J),j+1 - i<e->j+1 - i<=D->w6 O k E a b i j->Sq s l w C k->ny.L1 s (a:Int) (i:Int) (j:Int) C Z:=by
    intro e;induction e with
    |zero=>intro i j C he;omega
    |succ e ad=>
     intro i j C he F d P;have ag:=d.jb;have ac:=d.i1;have al:=d.ij;refine ny.fI _ _ _ _ _ _ (P.dr λU K=>aF (λT=>?_) (λak=>l2 (j+1 - i+1) i j U (by omega) F d (λT=>by omega) K));obtain⟨y,A⟩:=ed (O:=k) (i:=i) (by omega);refine K.cmp hz d.z A rfl rfl λW S=>dN (λaa=>?_) (λab=>l2 (j+1 - i+1) i j W (by omega) F d (λ_ G x=>by rw[A]at x;cases x;exact eH ab) S);rw[bb _ (by omega)];refine ad (i+1) j W (by omega) (by omega) ⟨d.g,d.z,by omega,by omega,ag,λB G L M q=>?_,d.V⟩ S;by_cases eq:B=i
     .subst eq;rw[A]at q;cases q;exact hZ aa
     .exact d.lo B G L (by omega) q
   exact ny.bC _ _ _ _ _ _ (l1 (j+1 - i+1) i j N (by omega) (by omega) d H)
 obtain⟨G,x⟩:=ed (O:=O) (i:=a) (by omega);refine ny.ok _ _ _ _ w1 _ (h.swap hp x rfl rfl λN H=>?_);rw[bb _ (by omega),pr (by omega) (by omega)];have g:=mB x hp;refine l0 (b - 1+1 - (a+1)+1) (a+1) (b - 1) _ N (by omega) ⟨Sg.swap hp x (by omega),?_,by omega,by omega,by omega,λB y L M=>by omega,λB y L M=>by omega⟩ H;rw[g];split
 .rename_i e;rw[e,hp]at x;rw[x]
 .rw [aq rfl]
end
structure mM(O us:List I)(pv:I)(a b i j:Nat):Prop where
 g:Sg a b O us
 z:us[a]? =some pv
 i1:a+1<=i
 ij:i<=j+1
 jb:j<b
 lo:∀(q:Nat) x,a<q->q<i->us[q]? =some x->nJ pv x
 V:∀(q:Nat) x,j<q->q<b->us[q]? =some x->¬nJ pv x
structure nF(us:List I)(pv:I)(a m b:Nat):Prop where
 z:us[m]? =some pv
 am:a<=m
 mb:m<b
 lo:∀(q:Nat) x,a<=q->q<m->us[q]? =some x->nJ pv x
 V:∀(q:Nat) x,m<q->q<b->us[q]? =some x->¬nJ pv x
abbrev lf(s:Sl)(l O:List I)(w:J)(e:I)(a b:Nat):aH:=λr h=>∃(m:Nat) (t:Bool) (d:List I),r=ae (.tuple #[.i (m:Int),.bool t])/\Sq s l w h d/\Sg a b O d/\nF d e a m b
section
variable {s:Sl} {l O:List I} {w w1:J} {a b:Nat} {pv:I}
def mr{j:Nat}(d:0<j)(e:j<=1000000):aj .i64 ((j:Int) - 1)=((j - 1:Nat):Int):=by rw[aQ _ (by omega)];omega
def Oe(hz:I.a0 l<=1000000)(hl:O.length<=1000000)(hb:b<=O.length){D:Nat}{A B C:Int->Int->J->Prop}(hA:∀(i j:Int) (w:J),(lr w λw1=>bh (ak (i<=j)) (fb s i λp=>fM w1 (p.add (aV i *4)) λQ S T U=>fb s (a:Int) λx=>fM w1 (x.add (aV (a:Int) *4)) λW Z b2 b3=>qj cd #[.agg #[.i Q,.int .u8 S,.int .u8 T,U.v],.agg #[.i W,.int .u8 Z,.int .u8 b2,b3.v]] w1 λt L=>bh (ak (t<0)) (A (aj .i64 (i+1)) j L) (B i j L)) (B i j w1))->A i j w)(hB:∀(i j:Int) (w:J),(lr w λw1=>bh (ak (i<=j)) (fb s j λp=>fM w1 (p.add (aV j *4)) λQ S T U=>fb s (a:Int) λx=>fM w1 (x.add (aV (a:Int) *4)) λW Z b2 b3=>qj cd #[.agg #[.i Q,.int .u8 S,.int .u8 T,U.v],.agg #[.i W,.int .u8 Z,.int .u8 b2,b3.v]] w1 λt L=>bh (!(ak (t<0))) (B i (aj .i64 (j - 1)) L) (C i j L)) (C i j w1))->B i j w)(k:List I)(hC:∀(i j:Nat) (h:J),j+1 - i<=D->mM O k pv a b i j->(i<=j->∀q,k[i]? =some q->¬nJ pv q)->(i<=j->∀q,k[j]? =some q->nJ pv q)->Sq s l w h k->C (i:Int) (j:Int) h):
  ∀(e i j:Nat) (h:J),j+1 - i<e->j+1 - i<=D->mM O k pv a b i j->Sq s l w h k->A (i:Int) (j:Int) h:=by
 have l2:∀(e i j:Nat) (h:J),j+1 - i<e->j+1 - i<=D->mM O k pv a b i j->(i<=j->∀q,k[i]? =some q->¬nJ pv q)->Sq s l w h k->B (i:Int) (j:Int) h:=by
  intro e;induction e with
  |zero=>intro i j h he;omega
  |succ e ac=>
   intro i j h he H d fx h3;have ae:=d.jb;have ad:=d.i1;have ag:=d.ij;have hlen:=d.g.len;refine hB _ _ _ (h3.dr λw4 F=>aF (λP=>?_) (λaf=>hC i j w4 H d fx (λP=>by omega) F));obtain⟨q,E⟩:=ed (O:=k) (i:=j) (by omega);refine F.cmp hz E d.z rfl rfl λM G=>dN (λaa=>?_) (λab=>hC i j M H d fx (λ_ N K=>by rw[E]at K;cases K;exact eH ab) G);rw[mr (by omega) (by omega)];refine ac i (j - 1) M (by omega) (by omega) ⟨d.g,d.z,ad,by omega,by omega,d.lo,λx N q1 q2 y=>?_⟩ (λP=>fx (by omega)) G;by_cases eq:x=j
   .subst eq;rw[E]at y;cases y;exact hZ aa
   .exact d.V x N (by omega) q2 y
 intro e;induction e with
 |zero=>intro i j h he;omega
 |succ e ac=>
  intro i j h he H d h3;have ae:=d.jb;have ad:=d.i1;have ag:=d.ij;have hlen:=d.g.len;refine hA _ _ _ (h3.dr λw4 F=>aF (λP=>?_) (λaf=>l2 (j+1 - i+1) i j w4 (by omega) H d (λP=>by omega) F));obtain⟨q,E⟩:=ed (O:=k) (i:=i) (by omega);refine F.cmp hz E d.z rfl rfl λM G=>aF (λab=>?_) (λaa=>l2 (j+1 - i+1) i j M (by omega) H d (λ_ N K=>by rw[E]at K;cases K;exact aa) G);rw[bb _ (by omega)];refine ac (i+1) j M (by omega) (by omega) ⟨d.g,d.z,by omega,by omega,ae,λx N q1 q2 y=>?_,d.V⟩ G;by_cases eq:x=i
  .subst eq;rw[E]at y;cases y;exact ab
  .exact d.lo x N q1 (by omega) y
def mM.swap{e:List I}{x y:I}{i j:Nat}(E:mM O e pv a b i j)(w:e[j]? =some x)(A:e[i]? =some y)(h:i<j)(D:nJ pv x)(F:¬nJ pv y):mM O ((e.set i x).set j y) pv a b (i+1) (j - 1):=by
 have g:=mB A w;have H:=E.jb;have G:=E.i1;refine⟨E.g.trans (Sg.swap w A (by omega)),?_,by omega,by omega,by omega,λk q B C d=>?_,λk q B C d=>?_⟩
 .rw [g,af (by omega),af (by omega)];exact E.z
 .rw [g,af (by omega)]at d;split at d
  .cases d;exact D
  .exact E.lo k q B (by omega) d
 .rw [g]at d;split at d
  .cases d;exact F
  .rw [af (by omega)]at d;exact E.V k q (by omega) C d
def mM.cut{k:List I}{y:I}{i j:Nat}(E:mM O k pv a b i j)(h:j<i)(e:k[j]? =some y):Sg a b O ((k.set j pv).set a y)/\nF ((k.set j pv).set a y) pv a j b:=by
 have g:=mB e E.z;have C:=E.jb;have D:=E.i1;have F:=E.ij;refine⟨E.g.trans (Sg.swap E.z e (by omega)),?_,by omega,C,λw x A B d=>?_,λw x A B d=>?_⟩
 .rw [g];by_cases q:j=a
  .rw [aq q];rw[q,E.z]at e;exact e.symm
  .rw [af q,aq rfl]
 .rw [g]at d;split at d
  .cases d;exact E.lo j y (by omega) (by omega) e
  .rw [af (by omega)]at d;exact E.lo w x (by omega) (by omega) d
 .rw [g,af (by omega),af (by omega)]at d;exact E.V w x A B d
def Y4(h:Sq s l w w1 O)(V:I.a0 l<=1000000){p:Nat}(W:b<=O.length)(P:O[p]? =some pv)(h1:a<=p)(G:p<b):
  ai Y Mv #[s.v,.i (a:Int),.i (b:Int),.i (p:Int),.func (.func cd) #[] #[]] w1 (lf s l O w pv a b):=by
 have Z:=(h.lt V).1;have l4:∀(D i j:Nat) (x:List I) (d:J),j+1 - i<D->mM O x pv a b i j->Sq s l w d x->jf.L4 s (a:Int) (i:Int) (j:Int) d (lf s l O w pv a b):=by
  intro D;induction D with
  |zero=>intro i j x d U;omega
  |succ D ih=>
   intro i j x d U k G;have hlen:=k.g.len;refine jf.w9 _ _ _ _ _ _ (Oe (D:=D) V Z W (A:=λi j d=>jf.L5 s (a:Int) i j d (lf s l O w pv a b)) (B:=λi j d=>jf.L6 s (a:Int) i j d (lf s l O w pv a b)) (C:=λi j d=>jf.S7 s (a:Int) i j d (lf s l O w pv a b)) (λi j d h=>jf.Sf s (a:Int) i j d (lf s l O w pv a b) h) (λi j d h=>jf.Aw s (a:Int) i j d (lf s l O w pv a b) h) x ?_ (j+1 - i+1) i j d (by omega) (by omega) k G);intro i j w3 U k S T H;have af:=k.jb;have ad:=k.i1;have ae:=k.ij;obtain⟨N,q⟩:=ed (O:=x) (i:=j) (by omega);refine aF (λaa=>?_) (λab=>?_)
   .refine H.swap k.z q rfl rfl λM y=>?_;have c:=k.cut (by omega) q;exact⟨j,false,_,rfl,y,c.1,c.2⟩
   obtain⟨E,e⟩:=ed (O:=x) (i:=i) (by omega);have K:=T (by omega) N q;have L:=S (by omega) E e;have ac:i≠j:=λF=>by subst F;rw[q]at e;cases e;exact L K
   refine H.swap q e rfl rfl λM y=>?_;show jf.L4 _ _ _ _ _ _;rw[bb _ (by omega),mr (by omega) (by omega)];exact ih (i+1) (j - 1) _ M (by omega) (k.swap q e (by omega) K L) y
 obtain⟨E,e⟩:=ed (O:=O) (i:=a) (by omega);refine jf.ok _ _ _ _ w1 _ (h.swap P e rfl rfl λd G=>?_);rw[bb _ (by omega),mr (by omega) (by omega)];have g:=mB e P;have Q:mM O ((O.set a pv).set p E) pv a b (a+1) (b - 1):=⟨Sg.swap P e (by omega),by
  rw[g];split
  .rename_i F;rw[F,P]at e;rw[e]
  .rw [aq rfl],by omega,by omega,by omega,λag N q1 q2=>by omega,λag N q1 q2=>by omega⟩
 generalize(O.set a pv).set p E=x at Q G
 have hlen:=Q.g.len;refine Oe (D:=b) V Z W (A:=λi j d=>jf.L0 s (a:Int) i j d (lf s l O w pv a b)) (B:=λi j d=>jf.L1 s (a:Int) i j d (lf s l O w pv a b)) (C:=λi j d=>jf.S2 s (a:Int) i j d (lf s l O w pv a b)) (λi j d h=>jf.bC s (a:Int) i j d (lf s l O w pv a b) h) (λi j d h=>jf.fI s (a:Int) i j d (lf s l O w pv a b) h) x ?_ (b - 1+1 - (a+1)+1) (a+1) (b - 1) d (by omega) (by omega) Q G;intro i j w3 U k S T H;have af:=k.jb;have ad:=k.i1;have ae:=k.ij;obtain⟨N,q⟩:=ed (O:=x) (i:=j) (by omega);refine aF (λaa=>?_) (λab=>?_)
 .refine H.swap k.z q rfl rfl λM y=>?_;have c:=k.cut (by omega) q;exact⟨j,true,_,rfl,y,c.1,c.2⟩
 obtain⟨E,e⟩:=ed (O:=x) (i:=i) (by omega);have K:=T (by omega) N q;have L:=S (by omega) E e;have ac:i≠j:=λF=>by subst F;rw[q]at e;cases e;exact L K
 refine H.swap q e rfl rfl λM y=>?_;show jf.L4 _ _ _ _ _ _;rw[bb _ (by omega),mr (by omega) (by omega)];exact l4 (j - 1+1 - (i+1)+1) (i+1) (j - 1) _ M (by omega) (k.swap q e (by omega) K L) y
end
set_option maxHeartbeats 400000
def Ad(a b:Nat)(e:List I):Prop:=∀(d:Nat) x y,a<=d->d+1<b->e[d]? =some x->e[d+1]? =some y->a5 x.rx y.rx<=0
def Ad.EM{a b:Nat}{e:List I}(h:Ad a b e)(F:b<=e.length):jm a b e:=by
 intro i d D E;induction d with
 |zero=>omega
 |succ d A=>
  intro y B C j z;obtain⟨w,k⟩:=ed (O:=e) (i:=d) (by omega);have q:=h d w C (by omega) y k z;by_cases x:i=d
  .subst x;rw[k]at j;cases j;exact q
  .exact qC (A (by omega) (by omega) B w j k) q
structure rC(us:List I)(a i j:Nat):Prop where
 p:∀(q:Nat) x y,a<=q->q+1<i->q+1≠j->us[q]? =some x->us[q+1]? =some y->a5 x.rx y.rx<=0
 n:∀x y,a+1<=j->j+1<i->us[j - 1]? =some x->us[j+1]? =some y->a5 x.rx y.rx<=0
def rC.ad{k:List I}{a i j:Nat}(D:rC k a i j)(h:∀d e,a+1<=j->k[j - 1]? =some d->k[j]? =some e->a5 d.rx e.rx<=0):Ad a i k:=by
 intro y d e z A w x;by_cases q:y+1=j
 .subst q;exact h d e (by omega) w x
 .exact D.p y d e z A q w x
def rC.down{h:List I}{a i j:Nat}(D:rC h a i j){x y:I}(C:a+1<=j)(F:j<i)(w:h[j - 1]? =some x)(E:h[j]? =some y)(G:a5 y.rx x.rx<0):rC ((h.set j x).set (j - 1) y) a i (j - 1):=by
 have g:=mB E w;refine⟨λz u v B A H d e=>?_,λu v B A d e=>?_⟩
 .rw [g]at d e;by_cases k:z=j - 1
  .rw [aq k]at d;rw[af (by omega),aq (by omega)]at e;cases d;cases e;omega
  by_cases q:z=j
  .rw [af k,aq q]at d;rw[af (by omega),af (by omega)]at e;cases d;subst q;exact D.n _ _ C A w e
  .rw [af k,af q]at d;rw[af (by omega),af (by omega)]at e;exact D.p z u v B A (by omega) d e
 .rw [g,af (by omega),af (by omega)]at d;rw[g,af (by omega),aq (by omega)]at e;cases e;exact D.p (j - 1 - 1) u x (by omega) (by omega) (by omega) d (by rw[show j - 1 - 1+1=j - 1 by omega];exact w)
section
variable {s:Sl} {l O:List I} {w w1:J} {a b:Nat}
def Y3(h:Sq s l w w1 O)(hz:I.a0 l<=1000000)(ac:a<b)(hb:b<=O.length)(ag:l2 a b O):
  ai Y Mu #[s.v,.i (a:Int),.i (b:Int),.func (.func cd) #[] #[]] w1 λr w'=>∃(t:Bool) (d:List I),r=ae (.bool t)/\Sq s l w w' d/\Sg a b O d/\(t=true->jm a b d):=by
 have hl:=(h.lt hz).1
 let P:aH:=λr w'=>∃(t:Bool) (d:List I),r=ae (.bool t)/\Sq s l w w' d/\Sg a b O d/\(t=true->jm a b d)
 have l1:∀(D k i:Nat) (d:List I) (W:J),D+k=5->a<i->i<=b->Ad a i d->Sq s l w W d->Sg a b O d->je.L1 s (a:Int) (b:Int) (i:Int) (k:Int) W P:=by
  intro D;induction D with
  |zero=>
   intro k i d W hD C E z S g;exact je.fI _ _ _ _ _ _ _ (aZ (aW (by omega)) ⟨false,d,rfl,S,g,λh=>by cases h⟩)
  |succ D ih=>
   intro k i d W hD C E z S g;refine je.fI _ _ _ _ _ _ _ (a1 (aS (by omega)) ?_);have s7:∀(i:Nat) (d:List I) (q:J),a<i->i<=b->Ad a i d->Sq s l w q d->Sg a b O d->je.S7 s (a:Int) (b:Int) (i:Int) (k:Int) q P:=by intro i d q C E z A g;show je.L1 _ _ _ _ _ _ _;rw[bb _ (by omega)];exact ih (k+1) i d q (by omega) C E z A g
   have l6:∀(e i j:Nat) (d:List I) (q:J),b - j<e->a<i->i<j->j<=b->Ad a i d->Sq s l w q d->Sg a b O d->je.L6 s (a:Int) (b:Int) (i:Int) (k:Int) (j:Int) q P:=by
    intro e;induction e with
    |zero=>intro i j d q he;omega
    |succ e ab=>
     intro i j d q he C ij jb z A g;have hlen:=g.len;refine je.Aw _ _ _ _ _ _ _ _ (aF (λah=>A.dr λT K=>?_) (λ_=>s7 i d q C (by omega) z A g));obtain⟨M,y⟩:=ed (O:=d) (i:=j) (by omega);obtain⟨L,x⟩:=ed (O:=d) (i:=j - 1) (by omega);refine K.cmp hz y x rfl (mr (by omega) (by omega)) λU N=>dN (λam=>s7 i d U C (by omega) z N g) (λV=>?_);refine N.swap x y (mr (by omega) (by omega)) rfl λw6 h6=>?_;rw[bb _ (by omega)];have gg:=mB y x;refine ab i (j+1) _ w6 (by omega) C (by omega) (by omega) (λB u v H Q F G=>?_) h6 (g.trans (Sg.swap x y (by omega)));rw[gg,af (by omega),af (by omega)]at F G;exact z B u v H Q F G
   have s5:∀(i:Nat) (d:List I) (q:J),a<i->i<b->Ad a i d->Sq s l w q d->Sg a b O d->je.S5 s (a:Int) (b:Int) (i:Int) (k:Int) q P:=by intro i d q C E z A g;refine aF (λ_=>?_) (λ_=>s7 i d q C (by omega) z A g);rw[bb _ (by omega)];exact l6 (b - (i+1)+1) i (i+1) d q (by omega) C (by omega) (by omega) z A g
   have l4:∀(j i:Nat) (d:List I) (q:J),a<=j->j<i->i<b->rC d a i j->Sq s l w q d->Sg a b O d->je.L4 s (a:Int) (b:Int) (i:Int) (k:Int) (j:Int) q P:=by
    intro j;induction j with
    |zero=>
     intro i d q j1 j2 E Z A g;exact je.w9 _ _ _ _ _ _ _ _ (aZ (aW (by omega)) (s5 i d q (by omega) E (Z.ad λL M h=>by omega) A g))
    |succ j ak=>
     intro i d q j1 j2 E Z A g;have hlen:=g.len;refine je.w9 _ _ _ _ _ _ _ _ (a1 (aS (by omega)) (A.dr λT K=>?_));have ej:aj .i64 (((j+1:Nat):Int) - 1)=(j:Int):=mr (by omega) (by omega);obtain⟨M,y⟩:=ed (O:=d) (i:=j+1) (by omega);obtain⟨L,x⟩:=ed (O:=d) (i:=j) (by omega);refine K.cmp hz y x rfl ej λU N=>dN (λaa=>s5 i d U (by omega) E (Z.ad λu v _ F G=>?_) N g) (λV=>?_)
     .rw [show j+1 - 1=j from rfl,x]at F;rw[y]at G;cases F;cases G;exact o9 (hZ aa)
     have V:=eH V;have hj:a+1<=j+1:=by
      by_cases e:a=j+1
      .have:=(ag.sg g hb) a (bm _) ac (by omega) L M (by rw[e];exact x) (by rw[e];exact y);have:=jr L.rx M.rx;omega
      .omega
     refine N.swap x y ej rfl λw6 h6=>?_;rw[ej];exact ak i _ w6 (by omega) (by omega) E (Z.down hj j2 x y V) h6 (g.trans (Sg.swap x y (by omega)))
   have s3:∀(i:Nat) (d:List I) (q:J),a<i->i<=b->Ad a i d->Sq s l w q d->Sg a b O d->je.S3 s (a:Int) (b:Int) (i:Int) (k:Int) q P:=by
    intro i d q C E z A g;have hlen:=g.len;refine bB (λe=>?_) (λe=>?_)
    .have e:i=b:=by have:=eq_of_beq e;omega
     subst e;exact⟨true,d,rfl,A,g,λ_=>z.EM (by omega)⟩
    have e:i≠b:=λh=>by subst h;simp at e
    refine aF (λ_=>⟨false,d,rfl,A,g,λh=>by cases h⟩) (λ_=>?_);have ei:aj .i64 ((i:Int) - 1)=((i - 1:Nat):Int):=mr (by omega) (by omega);obtain⟨M,y⟩:=ed (O:=d) (i:=i) (by omega);obtain⟨L,x⟩:=ed (O:=d) (i:=i - 1) (by omega);refine A.swap x y ei rfl λT K=>?_;have gg:=mB y x;have g2:=g.trans (Sg.swap (a:=a) (b:=b) x y (by omega));have low:∀(B:Nat) u v,a<=B->B+1<i - 1->((d.set i L).set (i - 1) M)[B]? =some u->((d.set i L).set (i - 1) M)[B+1]? =some v->a5 u.rx v.rx<=0:=λB u v H Q F G=>by rw[gg,af (by omega),af (by omega)]at F G;exact z B u v H (by omega) F G
    refine aF (λS=>?_) (λS=>s5 i _ T C (by omega) (λB u v H Q=>?_) K g2)
    .rw [ei];exact l4 (i - 1) i _ T (by omega) (by omega) (by omega) ⟨λB u v H Q q3=>low B u v H (by omega),λu v H Q=>by omega⟩ K g2
    .rw [aQ _ (by omega)]at S;omega
   have al:∀(e i:Nat) (q:J),b - i<e->a<i->i<=b->Ad a i d->Sq s l w q d->je.L2 s (a:Int) (b:Int) (i:Int) (k:Int) q P:=by
    intro e;induction e with
    |zero=>intro i q he;omega
    |succ e ab=>
     intro i q he C E z A;have hlen:=g.len;refine je.k9 _ _ _ _ _ _ _ (A.dr λT K=>aF (λah=>?_) (λ_=>s3 i d T C E z K g));have ei:aj .i64 ((i:Int) - 1)=((i - 1:Nat):Int):=mr (by omega) (by omega);obtain⟨M,y⟩:=ed (O:=d) (i:=i) (by omega);obtain⟨L,x⟩:=ed (O:=d) (i:=i - 1) (by omega);refine K.cmp hz y x rfl ei λU N=>dN (λaa=>?_) (λV=>s3 i d U C E z N g);rw[bb _ (by omega)];refine ab (i+1) U (by omega) (by omega) (by omega) (λB u v H Q F G=>?_) N;by_cases eq:B+1=i
     .subst eq;rw[show B+1 - 1=B from rfl,F]at x;rw[G]at y;cases x;cases y;exact o9 (hZ aa)
     .exact z B u v H (by omega) F G
   exact al (b - i+1) i W (by omega) C E z S
 refine je.ok _ _ _ w1 _ ?_;rw[bb _ (by omega)];exact l1 5 0 (a+1) O w1 rfl (by omega) (by omega) (λB L M H Q=>by omega) h (Sg.refl _ _ _)
end
def hG(p c:Nat):Prop:=c=2 *p+1\/c=2 *p+2
structure pP(us:List I)(f lo V r:Nat):Prop where
 p:∀(p c:Nat),lo<=p->hG p c->c<V->p≠r->k' us (f+c) (f+p)
 n:∀(p c:Nat),lo<=p->hG p r->hG r c->c<V->k' us (f+c) (f+p)
def pQ(d:List I)(f lo V:Nat):Prop:=∀(p c:Nat),lo<=p->hG p c->c<V->k' d (f+c) (f+p)
def pP.heap{d:List I}{f lo V r:Nat}(H:pP d f lo V r)(h:∀c,hG r c->c<V->k' d (f+c) (f+r)):pQ d f lo V:=by
 intro p c q j k;by_cases e:p=r
 .subst e;exact h c j k
 .exact H.p p c q j k e
def pP.down{k:List I}{f lo V r c:Nat}(H:pP k f lo V r)(N:lo<=r){x y:I}(E:hG r c)(K:c<V)(z:k[f+c]? =some x)(L:k[f+r]? =some y)(lt:a5 y.rx x.rx<=0)(M:∀e,hG r e->e<V->k' k (f+e) (f+c)):pP ((k.set (f+r) x).set (f+c) y) f lo V c:=by
 have g:=mB L z;have G:=E;unfold hG at E;refine⟨λp e B w j D u v d h=>?_,λp e B w j D u v d h=>?_⟩
 .have C:=w;unfold hG at w;rw[g]at d h;rw[af (by omega)]at h;by_cases q:p=r
  .subst q;rw[aq rfl]at h;cases h;by_cases A:e=c
   .subst A;rw[aq rfl]at d;cases d;exact lt
   .rw [af (by omega),af (by omega)]at d;exact M e C j u x d z
  .rw [af (by omega)]at h;by_cases A:e=r
   .subst A;rw[af (by omega),aq rfl]at d;cases d;exact H.n p c B C G K x v z h
   .rw [af (by omega),af (by omega)]at d;exact H.p p e B C j q u v d h
 .have F:=j;unfold hG at w j;have q:p=r:=by omega
  subst q;rw[g,af (by omega),af (by omega)]at d;rw[g,af (by omega),aq rfl]at h;cases h;exact H.p c e (by omega) F D (by omega) u x d z
section
variable {s:Sl} {l O:List I} {w w1:J}
def Ov(h:Sq s l w w1 O)(N:I.a0 l<=1000000){f lo V:Nat}(hb:f+V<=O.length)(H:pP O f lo V lo)(ah:lo<=V):
  ai Y My #[s.v,.i (lo:Int),.i (V:Int),.i (f:Int),.func (.func cd) #[] #[]] w1 λr Q=>r=ae (.tuple #[])/\∃d,Sq s l w Q d/\Sg (f+lo) (f+V) O d/\pQ d f lo V:=by
 have hl:=(h.lt N).1
 let T:aH:=λr Q=>r=ae (.tuple #[])/\∃d,Sq s l w Q d/\Sg (f+lo) (f+V) O d/\pQ d f lo V
 have B:∀{x y:Nat},x+y<=3000000->aj .i64 ((x:Int)+(y:Int))=((x+y:Nat):Int):=λh=>by rw[aQ _ (by omega)];omega
 have loop:∀(D r:Nat) (d:List I) (M:J),V - r<D->lo<=r->r<=1000000->pP d f lo V r->Sq s l w M d->Sg (f+lo) (f+V) O d->tF.L0 s (V:Int) (f:Int) (r:Int) M T:=by
  intro D;induction D with
  |zero=>intro r d M hD;omega
  |succ D ih=>
   intro r d M hD hr am H W g;have hlen:=g.len;refine tF.bC _ _ _ _ _ _ ?_;have e1:aj .i64 (aj .i64 (2 *(r:Int))+1)=((2 *r+1:Nat):Int):=by rw[aQ (2 *(r:Int)) (by omega),aQ _ (by omega)];omega
   rw[e1];have P:∀(c:Nat) (E:J),hG r c->c<V->(∀z,hG r z->z<V->k' d (f+z) (f+c))->Sq s l w E d->tF.S2 s (V:Int) (f:Int) (r:Int) (c:Int) E T:=by
    intro c E L C mx F;have af:=L;unfold hG at L;obtain⟨x,k⟩:=ed (O:=d) (i:=f+c) (by omega);obtain⟨y,q⟩:=ed (O:=d) (i:=f+r) (by omega);dsimp only[tF.S2,av];refine F.dr λS G=>G.cmp N q k (B (by omega)) (B (by omega)) λw5 Z=>dN (λab=>⟨rfl,d,Z,g,H.heap λz A K u v e j=>?_⟩) (λaa=>?_)
    .rw [q]at j;cases j;exact qC (mx z A K u x e k) (o9 (hZ ab))
    have aa:=eH aa;refine Z.swap k q (B (by omega)) (B (by omega)) λw6 h6=>?_;exact ih c _ w6 (by omega) (by omega) (by omega) (by have:=H.down hr af C k q (by omega) mx;exact this) h6 (g.trans (Sg.swap k q (by omega)))
   refine aF (λab=>⟨rfl,d,W,g,H.heap λc L C=>by unfold hG at L;omega⟩) (λak=>W.dr λE F=>?_);have e2:aj .i64 (((2 *r+1:Nat):Int)+1)=((2 *r+2:Nat):Int):=bb _ (by omega);rw[e2];refine aF (λal=>?_) (λag=>P (2 *r+1) E (.inl rfl) (by omega) (λz A K=>?_) F)
   .obtain ⟨x,k⟩:=ed (O:=d) (i:=f+(2 *r+1)) (by omega);obtain⟨y,q⟩:=ed (O:=d) (i:=f+(2 *r+1)+1) (by omega);have U:aj .i64 ((f:Int)+((2 *r+1:Nat):Int))=((f+(2 *r+1):Nat):Int):=B (by omega);refine F.cmp N k q U (by rw[U,bb _ (by omega)]) λS G=>aF (λC=>?_) (λC=>?_)
    .refine P (2 *r+2) S (.inr rfl) (by omega) (λz A K u v e j=>?_) G;have ac:d[f+(2 *r+1)+1]? =some v:=j;rw[q]at ac;cases ac;rcases A with rfl|rfl
     .rw [k]at e;cases e;omega
     .rw [show f+(2 *r+2)=f+(2 *r+1)+1 from rfl,q]at e;cases e;have:=jr y.rx y.rx;omega
    .refine P (2 *r+1) S (.inl rfl) (by omega) (λz A K u v e j=>?_) G;rw[k]at j;cases j;rcases A with rfl|rfl
     .rw [k]at e;cases e;have:=jr x.rx x.rx;omega
     .rw [show f+(2 *r+2)=f+(2 *r+1)+1 from rfl,q]at e;cases e;exact o9 C
   .intro u v e j;rcases A with rfl|rfl
    .rw [e]at j;cases j;have:=jr u.rx u.rx;omega
    .omega
 exact tF.ok _ _ _ _ w1 _ (loop (V - lo+1) lo O w1 (by omega) (bm _) (by omega) H h (Sg.refl _ _ _))
end
def pQ.top{e:List I}{f n:Nat}(H:pQ e f 0 n)(E:f+n<=e.length):∀(D p:Nat),p<D->p<n->k' e (f+p) f:=by
 intro D;induction D with
 |zero=>intro p h;omega
 |succ D A=>
  intro p C z k B j q;by_cases y:p=0
  .subst y;rw[show f+0=f from rfl,q]at j;cases j;have:=jr k.rx k.rx;omega
  obtain⟨d,F⟩:∃d,d=(p - 1) / 2:=⟨_,rfl⟩;obtain⟨x,w⟩:=ed (O:=e) (i:=f+d) (by omega);exact qC (H d p (by omega) (by unfold hG;omega) z k x j w) (A d (by omega) (by omega) x B w q)
section
variable {s:Sl} {l O:List I} {w w1:J}
def Y1(h:Sq s l w w1 O)(W:I.a0 l<=1000000){a b:Nat}(ao:a<b)(hb:b<=O.length):
  ai Y Mq #[s.v,.i (a:Int),.i (b:Int),.func (.func cd) #[] #[]] w1 λr w'=>r=ae (.tuple #[])/\∃d,Sq s l w w' d/\Sg a b O d/\jm a b d:=by
 have hl:=(h.lt W).1;obtain⟨V,hh⟩:∃V,V=b - a:=⟨_,rfl⟩;have eL:aj .i64 ((b:Int) - (a:Int))=(V:Int):=by rw[aQ _ (by omega)];omega
 let R:aH:=λr w'=>r=ae (.tuple #[])/\∃d,Sq s l w w' d/\Sg a b O d/\jm a b d
 have l2:∀(n:Nat) (d:List I) (q:J),n<=V->pQ d a 0 n->jm (a+n) b d->(∀p E,p<n->n<=E->E<V->k' d (a+p) (a+E))->Sq s l w q d->Sg a b O d->oo.L2 s (a:Int) 0 ((n:Int) - 1) q R:=by
  intro n;induction n with
  |zero=>
   intro d q T x st M k g;exact oo.k9 _ _ _ _ _ _ (aZ (aW (by omega)) ⟨rfl,d,k,g,st⟩)
  |succ n Z=>
   intro d q T x st M k g;have hlen:=g.len;have N:((n+1:Nat):Int) - 1=(n:Int):=by omega
   have e1:aj .i64 ((a:Int)+(n:Int))=((a+n:Nat):Int):=by rw[aQ _ (by omega)];omega
   rw[N];obtain⟨an,K⟩:=ed (O:=d) (i:=a+n) (by omega);obtain⟨ab,H⟩:=ed (O:=d) (i:=a) (by omega);refine oo.k9 _ _ _ _ _ _ (a1 (aS (by omega)) (k.swap K H e1 rfl λw3 A=>?_));have G:=mB H K;have P:=g.trans (Sg.swap (a:=a) (b:=b) K H (by omega));have top:=x.top (by omega);obtain⟨vs,ak⟩:∃vs,vs=(d.set a an).set (a+n) ab:=⟨_,rfl⟩;rw[<-ak]at G P A;have ap:=P.len;have am:∀p u,p<n->vs[a+p]? =some u->∃D,D<n+1/\d[a+D]? =some u:=λp u U e=>by
    rw[G,af (by omega)]at e;split at e
    .cases e;exact⟨n,by omega,K⟩
    .exact ⟨p,by omega,e⟩
   refine(Ov A W (f:=a) (lo:=0) (V:=n) (by omega) ⟨λp c y C S U u v e j=>?_,λp c y kp=>by unfold hG at kp;omega⟩ (dv _)).mono ?_
   .have al:=C;unfold hG at C;rw[G,af (by omega),af (by omega)]at e j;exact x p c (dv _) al (by omega) u v e j
   rintro _ w4 ⟨rfl,aa,Q,z,L⟩;refine⟨rfl,?_⟩;have F:aj .i64 ((n:Int) - 1)=(n:Int) - 1:=aQ _ (by omega);rw[F];refine Z aa w4 (by omega) L ?_ ?_ Q (P.trans (z.wide (by omega) (by omega)))
   .intro i B y k A u v e j;rw[z.2 _ (by omega),G]at e j;rw[af (show ¬B=a+n by omega),af (by omega)]at j;split at e
    .cases e;exact M 0 (B - a) (by omega) (by omega) (by omega) ab v H (by rw[show a+(B - a)=B by omega];exact j)
    .rw [af (by omega)]at e;exact st i B (by omega) k A u v e j
   .intro p E U hq ah u v e j;obtain⟨i,i1,i2,ac⟩:=z.mem (by omega) (by omega) e (by omega) (by omega);rw[show i=a+(i - a)by omega]at ac;obtain⟨D,ad,ag⟩:=am (i - a) u (by omega) ac;rw[z.2 _ (by omega),G]at j;split at j
    .cases j;exact top (D+1) D (by omega) ad u ab ag H
    .rw [af (by omega)]at j;exact M D E ad (by omega) ah u v ag j
 have l1:∀(n:Nat) (d:List I) (q:J),n<=V->pQ d a n V->Sq s l w q d->Sg a b O d->oo.L1 s (a:Int) 0 (V:Int) ((n:Int) - 1) q R:=by
  intro n;induction n with
  |zero=>
   intro d q T x k g;refine oo.fI _ _ _ _ _ _ _ (aZ (aW (by omega)) ?_);have F:aj .i64 ((V:Int) - 1)=(V:Int) - 1:=aQ _ (by omega);rw[F];exact l2 V d q (bm _) x (λi B y k A=>by omega) (λp E y k A=>by omega) k g
  |succ n Z=>
   intro d q T x k g;have hlen:=g.len;have N:((n+1:Nat):Int) - 1=(n:Int):=by omega
   rw[N];refine oo.fI _ _ _ _ _ _ _ (a1 (aS (by omega)) ?_);refine(Ov k W (f:=a) (lo:=n) (V:=V) (by omega) ⟨λp c y C S U=>x p c (by omega) C S,λp c y kp=>by unfold hG at kp;omega⟩ (by omega)).mono ?_;rintro _ w4 ⟨rfl,aa,Q,z,L⟩;refine⟨rfl,?_⟩;have F:aj .i64 ((n:Int) - 1)=(n:Int) - 1:=aQ _ (by omega);rw[F];exact Z aa w4 (by omega) L Q (g.trans (z.wide (by omega) (by omega)))
 refine oo.ok _ _ _ w1 _ ?_;rw[eL];have e3:aj .i64 (bL (aj .i64 ((V:Int) - 1)) 2)=(((V - 1) / 2+1:Nat):Int) - 1:=by
  have:aj .i64 ((V:Int) - 1)=((V - 1:Nat):Int):=by rw[aQ _ (by omega)];omega
  rw[this];have e4:bL ((V - 1:Nat):Int) 2=(((V - 1) / 2:Nat):Int):=rfl;rw[e4,aQ _ (by omega)];omega
 show oo.L1 _ _ _ _ _ _ _;rw[e3];exact l1 ((V - 1) / 2+1) O w1 (by omega) (λp c y C S=>by unfold hG at C;omega) h (Sg.refl _ _ _)
end
def Out(e h a b:Nat)(j:List I):Prop:=∀i d,e<=i->i<d->d<h->¬(a<=i/\d<b)->k' j i d
def Out.EM{q w a b:Nat}{j:List I}(h:Out q w a b j)(k:jm a b j):jm q w j:=λi e y x z=>by
 by_cases d:a<=i/\e<b
 .exact k i e d.1 x d.2
 .exact h i e y x z d
def Out.start(a b:Nat)(j:List I):Out a b a b j:=λi k d _ e h=>absurd ⟨d,e⟩ h
def Out.sg{k q a b:Nat}{w vs:List I}(h:Out k q a b w)(g:Sg a b w vs)(P:k<=a)(B:a<=b)(Q:b<=q)(C:b<=w.length):Out k q a b vs:=by
 intro i d D L E H x y j e;by_cases z:a<=i/\i<b
 .obtain ⟨K,N,O,F⟩:=g.mem B C j z.1 z.2;rw[g.2 d (by omega)]at e;exact h K d (by omega) (by omega) E (by omega) x y F e
 rw[g.2 i (by omega)]at j;by_cases A:a<=d/\d<b
 .obtain ⟨M,N,O,G⟩:=g.mem B C e A.1 A.2;exact h i M D (by omega) (by omega) (by omega) x y j G
 rw[g.2 d (by omega)]at e;exact h i d D L E H x y j e
def Out.cut{B C a b m:Nat}{x:List I}{e:I}(h:Out B C a b x)(c:nF x e a m b):∀i d,B<=i->i<d->d<C->¬(a<=i/\d<m)->¬(m+1<=i/\d<b)->k' x i d:=by
 intro i d E F G K L y A j k;by_cases q:a<=i/\d<b
 .have lo:i<=m->a5 y.rx e.rx<=0:=λD=>by
   by_cases w:i=m
   .subst w;rw[c.z]at j;cases j;have:=jr e.rx e.rx;omega
   .exact Int.le_of_lt (c.lo i y q.1 (by omega) j)
  have D:m<=d->a5 e.rx A.rx<=0:=λH=>by
   by_cases w:d=m
   .subst w;rw[c.z]at k;cases k;have:=jr e.rx e.rx;omega
   .exact o9 (c.V d A (by omega) q.2 k)
  exact qC (lo (by omega)) (D (by omega))
 .exact h i d E F G q y A j k
def nF.low{a b m:Nat}{e:List I}{q:I}(c:nF e q a m b):l2 (m+1) b e:=by intro k x h _ y w d j;rw[show m+1 - 1=m from rfl,c.z]at d;cases d;exact o9 (c.V k w (by omega) h j)
def w5.Yh{D E a b m:Nat}{w:List I}{y:I}(c:w5 w y a m b)(h:Out D E a b w)(k:∀(j:Nat) d,a<=j->j<b->w[j]? =some d->a5 y.rx d.rx<=0):Out D E m b w/\l2 m b w:=by
 have lo:∀(q:Nat) d,a<=q->q<m->w[q]? =some d->a5 d.rx y.rx<=0:=λq d F C e=>by
  by_cases x:q=a
  .subst x;rw[c.z]at e;cases e;have:=jr y.rx y.rx;omega
  .exact o9 (c.lo q d (by omega) C e)
 have L:=c.am;have N:=c.mb;refine⟨λi j G H K M d B e A=>?_,λj F C _ d B e A=>qC (lo (m - 1) d (by omega) (by omega) e) (k j B (by omega) C A)⟩;by_cases x:a<=i/\j<b
 .exact qC (lo i d x.1 (by omega) e) (k j B (by omega) x.2 A)
 .exact h i j G H K x d B e A
def nF.left{k q a b m:Nat}{w vs:List I}{O:I}(c:nF vs O a m b)(h:Out k q a b vs)(g:Sg a m vs w)(Q:b<=vs.length)(P:k<=a)(S:b<=q)(st:jm a m w):Out k q (m+1) b w:=by
 have z:=c.am;have U:=c.mb;intro i d D E F T;by_cases A:a<=i/\d<m
 .exact st i d A.1 E A.2
 intro x y j e;by_cases B:a<=i/\i<m
 .obtain ⟨K,M,N,G⟩:=g.mem z (by omega) j B.1 B.2;rw[g.2 d (by omega)]at e;exact h.cut c K d (by omega) (by omega) F (by omega) (by omega) x y G e
 rw[g.2 i (by omega)]at j;by_cases C:a<=d/\d<m
 .obtain ⟨L,M,N,H⟩:=g.mem z (by omega) e C.1 C.2;exact h.cut c i L D (by omega) (by omega) (by omega) (by omega) x y j H
 rw[g.2 d (by omega)]at e;exact h.cut c i d D E F (by omega) (by omega) x y j e
def nF.right{k q a b m:Nat}{w vs:List I}{N:I}(c:nF vs N a m b)(h:Out k q a b vs)(g:Sg (m+1) b vs w)(Q:b<=vs.length)(P:k<=a)(S:b<=q)(st:jm (m+1) b w):Out k q a m w:=by
 have O:=c.am;have U:=c.mb;intro i d C D E T;by_cases z:m+1<=i/\d<b
 .exact st i d z.1 D z.2
 intro x y j e;by_cases A:m+1<=i/\i<b
 .obtain ⟨H,L,M,F⟩:=g.mem (by omega) (by omega) j A.1 A.2;rw[g.2 d (by omega)]at e;exact h.cut c H d (by omega) (by omega) E (by omega) (by omega) x y F e
 rw[g.2 i (by omega)]at j;by_cases B:m+1<=d/\d<b
 .obtain ⟨K,L,M,G⟩:=g.mem (by omega) (by omega) e B.1 B.2;exact h.cut c i K C (by omega) (by omega) (by omega) (by omega) x y j G
 rw[g.2 d (by omega)]at e;exact h.cut c i d C D E (by omega) (by omega) x y j e
section
variable {s:Sl} {l:List I} {w:J}
abbrev rO(s:Sl)(l O:List I)(w:J)(a b:Nat):aH:=λr e=>r=ae (.tuple #[])/\∃d,Sq s l w e d/\Sg a b O d/\jm a b d
def YI(G:I.a0 l<=1000000):∀(D a b j h:Nat) (e:Int) (y z:Bool) (d O:List I) (w2:J),b - a<D->a<=b->b<=h->h<=O.length->j<=a->l2 a b d->Out j h a b d->Sq s l w w2 d->Sg j h O d->mx.L0 s (a:Int) (b:Int) e y z w2 (rO s l O w j h):=by
 intro D;induction D with
 |zero=>intro a b j h e y z d O w2 hD;omega
 |succ D ih=>
  intro a b j h e y z d O w2 hD Q x hb B low out h2 g;have hl:=(h2.lt G).1;have hlen:=g.len;have eL:aj .i64 ((b:Int) - (a:Int))=((b - a:Nat):Int):=by rw[aQ _ (by omega)];omega
  have fin:∀{d vs:List I} {q:J},Out j h a b d->d.length=O.length->Sg j h O d->Sq s l w q vs->Sg a b d vs->jm a b vs->rO s l O w j h (ae (.tuple #[])) q:=λout hlen g A C st=>
   ⟨rfl,_,A,g.trans (C.wide B x),(out.sg C B Q x (by omega)).EM st⟩
  have s6:∀(e L:Int) (p:Nat) (d:List I) (q:J),a<=p->p<b->d.length=O.length->l2 a b d->Out j h a b d->Sq s l w q d->Sg j h O d->mx.S6 s (a:Int) (b:Int) e L (p:Int) q (rO s l O w j h):=by
   intro e L p d q H K hlen low out A g;obtain⟨pv,hp⟩:=ed (O:=d) (i:=p) (by omega);refine(Y4 A G (by omega) hp H K).mono ?_;rintro _ M ⟨m,t,vs,rfl,E,F,c⟩;have ac:=c.am;have ak:=c.mb;have ad:=F.len;have ah:=low.sg F (by omega);have al:=out.sg F B Q x (by omega);have T:=g.trans (F.wide B x);have em:aj .i64 ((m:Int)+1)=((m+1:Nat):Int):=bb _ (by omega);refine⟨_,_,rfl,bB (λ_=>?_) (λ_=>?_)⟩
   .refine (mx.ok _ _ _ _ M _ (ih a m a m e true true vs vs M (by omega) ac (bm _) (by omega) (bm _) (λV W j2=>ah V W (by omega)) (Out.start _ _ _) E (Sg.refl _ _ _))).mono ?_;rintro _ Z ⟨rfl,xs,P,N,st⟩;refine⟨rfl,?_⟩;rw[em];have ap:=N.len;refine ih (m+1) b j h e _ _ xs O Z (by omega) (by omega) x hb (by omega) ?_ (c.left al N (by omega) B x st) P (T.trans (N.wide B (by omega)));intro V W j2 j0 aa ab S U;rw[N.2 _ (by omega)]at S U;exact c.low V W j2 j0 aa ab S U
   .show ai _ _ _ _ _;rw[em];refine(mx.ok _ _ _ _ M _ (ih (m+1) b (m+1) b e true true vs vs M (by omega) (by omega) (bm _) (by omega) (bm _) c.low (Out.start _ _ _) E (Sg.refl _ _ _))).mono ?_;rintro _ Z ⟨rfl,xs,P,N,st⟩;refine⟨rfl,?_⟩;have ap:=N.len;refine ih a m j h e _ _ xs O Z (by omega) ac (by omega) hb B ?_ (c.right al N (by omega) B x st) P (T.trans (N.wide (by omega) x));intro V W j2 j0 aa ab S U;rw[N.2 _ (by omega)]at S U;exact ah V W (by omega) j0 aa ab S U
  have s5:∀(e L:Int) (y z:Bool) (p:Nat) (d:List I) (q:J),a<=p->p<b->d.length=O.length->l2 a b d->Out j h a b d->Sq s l w q d->Sg j h O d->mx.S5 s (a:Int) (b:Int) e y z L (p:Int) q (rO s l O w j h):=by
   intro e L y z p d q H K hlen low out A g;dsimp only[mx.S5,av];refine A.dr λM E=>aF (λh0=>?_) (λ_=>s6 e L p d M H K hlen low out E g);have af:0<a:=by omega
   obtain⟨pv,hp⟩:=ed (O:=d) (i:=p) (by omega);obtain⟨aa,S⟩:=ed (O:=d) (i:=a - 1) (by omega);refine E.cmp G S hp (mr af (by omega)) rfl λZ P=>dN (λhc=>?_) (λ_=>s6 e L p d Z H K hlen low out P g);have an:=o9 (hZ hc);refine(Y0 P G (by omega) hp H K).mono ?_;rintro _ w6 ⟨m,vs,rfl,h6,g6,c⟩;have ao:=low.sg g6 (by omega);have ac:=c.am;have ak:=c.mb;obtain⟨o7,l7⟩:=c.Yh (out.sg g6 B Q x (by omega)) λV ab W j2 U=>qC an (ao V W j2 af aa ab ((g6.2 _ (by omega)).trans S) U);exact⟨_,rfl,ih m b j h e y z vs O w6 (by omega) ak x hb (by omega) l7 o7 h6 (g.trans (g6.wide B x))⟩
  have s4:∀(e L:Int) (y z:Bool) (p:Nat) (k:Int) (d:List I) (q:J),a<=p->p<b->d.length=O.length->l2 a b d->Out j h a b d->Sq s l w q d->Sg j h O d->mx.S4 s (a:Int) (b:Int) e y z L (p:Int) k q (rO s l O w j h):=by intro e L y z p k d q H K hlen low out A g;have k5:=s5 e L y z p d q H K hlen low out A g;refine bB (λ_=>bB (λ_=>bB (λ_=>?_) (λ_=>k5)) (λ_=>k5)) (λ_=>k5);refine(Y3 A G (by omega) (by omega) low).mono ?_;rintro _ M ⟨t,vs,rfl,E,F,st⟩;have ad:=F.len;exact⟨_,rfl,bB (λht=>fin out hlen g E F (st ht)) (λ_=>s5 e L y z p vs M H K (by omega) (low.sg F (by omega)) (out.sg F B Q x (by omega)) E (g.trans (F.wide B x)))⟩
  have s2:∀(e L:Int) (y z:Bool) (d:List I) (q:J),a+12<b->d.length=O.length->l2 a b d->Out j h a b d->Sq s l w q d->Sg j h O d->mx.S2 s (a:Int) (b:Int) e y z L q (rO s l O w j h):=by
   intro e L y z d q ag hlen low out A g;refine(Y5 A G ag (by omega)).mono ?_;rintro _ M ⟨p,k,rfl,H,K,E⟩;refine⟨_,_,rfl,bB (λ_=>?_) (λ_=>s4 e L y z p k d M H K hlen low out E g)⟩;refine(Y6 E G (by omega) (by omega)).mono ?_;rintro _ Z ⟨rfl,vs,P,T⟩;have ad:=T.len;have e1:aj .i64 ((b:Int) - 1)=((b - 1:Nat):Int):=mr (by omega) (by omega);have e2:aj .i64 ((p:Int) - (a:Int))=((p - a:Nat):Int):=by rw[aQ _ (by omega)];omega
   have e3:aj .i64 (((b - 1:Nat):Int) - ((p - a:Nat):Int))=((b - 1 - (p - a):Nat):Int):=by rw[aQ _ (by omega)];omega
   refine⟨rfl,?_⟩;rw[e1,e2,e3];exact s4 e L y z _ 1 vs Z (by omega) (by omega) (by omega) (low.sg T (by omega)) (out.sg T B Q x (by omega)) P (g.trans (T.wide B x))
  refine mx.bC _ _ _ _ _ _ _ _ ?_;rw[eL];refine aF (λ_=>?_) (λag=>bB (λ_=>?_) (λ_=>dN (λ_=>?_) (λ_=>s2 _ _ _ _ d w2 (by omega) hlen low out h2 g)))
  .refine (Y2 h2 G Q (by omega)).mono ?_;rintro _ q ⟨rfl,vs,A,C,st⟩;exact⟨rfl,fin out hlen g A C st⟩
  .refine (Y1 h2 G (by omega) (by omega)).mono ?_;rintro _ q ⟨rfl,vs,A,C,st⟩;exact⟨rfl,fin out hlen g A C st⟩
  .refine (YZ h2 G Q (by omega)).mono ?_;rintro _ q ⟨rfl,vs,A,C⟩;have ad:=C.len;exact⟨rfl,s2 _ _ _ _ vs q (by omega) (by omega) (low.sg C (by omega)) (out.sg C B Q x (by omega)) A (g.trans (C.wide B x))⟩
end
def Z3(n:Nat):rQ n:=by
 intro s l d L A j E z;have O:=I.cr j.bd;have N:=I.fv l;have q:F1 s l d d l:=yl _ j (by intro K h;simp only[au,aO,aR]at h;subst h;exact⟨E,λG C B=>z G C (aM.1 B)⟩)
 have y:Sq s l d d l:=⟨q,.refl _⟩;refine P9.ok _ d _ ((TI _ d).mono ?_);rintro _ k ⟨⟨t,rfl⟩,f⟩;refine⟨t,rfl,?_⟩;have D:=YI (s:=s) (l:=l) (w:=d) A (l.length+1) 0 l.length 0 l.length t true true l l k (by omega) (dv _) (bm _) (bm _) (bm _) (λM _ _ x=>absurd x (by omega)) (Out.start _ _ _) (y.br f) (Sg.refl _ _ _);rw[show((s.n:Nat):Int)=((l.length:Nat):Int)by omega];refine(mx.ok _ _ _ _ k _ D).mono ?_;rintro _ P ⟨rfl,F,e,g,st⟩;exact⟨rfl,⟨F,rfl,g.1,aaa (by rw[g.len];exact st),e.H.get 0⟩,e.fr⟩
def wT(d:BL):dC:=⟨d,0,0,0,0⟩
section
variable {l:List dC}
end
mutual
def I1:∀q:Rx,cK q=true->il q=true
 |.mk k lo w l,h=>by
  unfold cK at h;simp only[bq]at h;have d:=h.2;have j:dU l=true->nc l=true:=I2 l;unfold il;split at d
  .rename_i e;have:l=[]:=by simpa using d
   subst this;have e:k=0\/k=1:=e;unfold nc;rcases e with rfl|rfl<;>decide
  .split at d
   .rename_i e;simp only[bq]at d;have:l=[]:=by simpa using d.1
    subst this;subst e;unfold nc;decide
   .split at d
    .rename_i e;rw[j d];rcases e with rfl|rfl|rfl<;>simp
    .split at d
     .rename_i e;simp only[bq,beq_iff_eq]at d;rw[j d.2];rcases e with rfl|rfl<;>simp[d.1]
     .cases d
def I2:∀l:List Rx,dU l=true->nc l=true
 |[],_=>rfl
 |a::l,d=>by unfold dU at d;unfold nc;simp only[bq]at d;rw[I1 a d.1,I2 l d.2];rfl
end
abbrev UO(U:List Nat)(f:cB)(xs:Array aa)(w:J)(K:ByteArray->Int->J->Prop):Prop:=ee U Y f xs w λh j=>∃d:ByteArray,∃e:Int,h=ae (.tuple #[.string d,.i e])/\K d e j
def Gr{a b:Nat}(h:¬a<b):Nat.blt a b=false:=by
 cases d:Nat.blt a b with
 |false=>rfl
 |true=>rw[Nat.blt_eq]at d;exact absurd d h
def aaQ(s:ByteArray)(w:J):ai Y Dm #[.string s] w λr w'=>r=ae (.bool (kR (bl s)))/\ag w w':=by
 have hl:(bl s).length=s.size:=dH s;have V:LH F0 w w [] []:=bI [] (by simp);refine QZ.aB s w _ ((TP s w).mono ?_);rintro r w1 ⟨f1,S⟩;have H1:=V.br f1;have no:∀(a e:Int),e≠0->kR (bl s)=false->r=ae (.tuple #[.agg #[.int .i64 0,.int .u8 0,.int .u8 0,.slice none 0 0],.int .i64 a,.int .i64 e])->∃(t0 t1 t2:Int) (t3:Sl) (t4 t5:Int),r=ae (.tuple #[.agg #[.i t0,.int .u8 t1,.int .u8 t2,t3.v],.i t4,.i t5])/\vT [] w1 λh M=>bh (t5 !=0) (loc [h] M λy=>(Ending.returned (.bool false)=ae (.bool (kR (bl s)))/\ag w y)) (loc [h] M λy=>UN [h] CY #[.agg #[.i t0,.int .u8 t1,.int .u8 t2,t3.v]] y λal am an ao ap U=>vT [h] U λG N=>
   bh (ap !=0) (loc [h,G] N λT=>(Ending.returned (.bool false)=ae (.bool (kR (bl s)))/\ag w T)) (loc [h,G] N λT=>UO [h,G] LV #[.agg #[.i al,.int .u8 am,.int .u8 an,ao.v]] T λar au ac=>bh (au==0) (Ending.returned (.bool (ar.toList==s.toList))=ae (.bool (kR (bl s)))/\ag w ac) (Ending.returned (.bool false)=ae (.bool (kR (bl s)))/\ag w ac))):=λa e K hn S=>⟨0,0,0,⟨none,0,0⟩,a,e,S,H1.aG λh M O=>di (λ_=>O.ah λw3 E=>⟨by rw[hn],E.fr⟩) (λA=>absurd A K)⟩
 rcases S with⟨h1,k⟩|⟨h1,res,ak,⟨a,rfl,k⟩|⟨d,rfl,⟨H,k⟩|⟨H,t,k,C,pt,ft⟩⟩⟩
 .refine no _ _ (by decide) ?_ k;unfold kR;rw[show Nat.blt 4096 (bl s).length=true from by rw[Nat.blt_eq];omega];rfl
 all_goals have Q:Nat.blt 4096 (bl s).length=false:=Gr (by omega)
 all_goals have j:=aa3 ak
 .have j:Sum.inl a=tS (bl s):=j;refine no _ _ (by decide) ?_ k;unfold kR;rw[Q,<-j];rfl
 .have j:Sum.inr (fj d)=tS (bl s):=j;refine no _ _ (by decide) ?_ k;unfold kR;rw[Q,<-j];dsimp only[cond_false];rw[Ix,show Nat.blt 64 (eN d.tp).sz=true from by rw[Nat.blt_eq];exact H];rfl
 .have j:Sum.inr (fj d)=tS (bl s):=j;have aa:nV 64 (eN d.tp):=B1 _ (by have:=CG (eN d.tp);omega);have B:kR (bl s)=if n8 (eN d.tp)=0 then(if jN (iO (eN d.tp))=0 then cL 0 (iO (eN d.tp)) (a9 (iO (eN d.tp)))==bl s else false)else false:=by unfold kR;rw[Q,<-j];dsimp only[cond_false];have:Nat.blt 64 (eN d.tp).sz=false:=Gr (by omega);rw[Ix,this];rfl
  generalize eN d.tp=x at C aa B H;have ad:=V.gy (.tree t) f1 pt (λb P=>.inl (ft b (aM.1 P)));have av:t.sz<=64:=by rw[<-I.eB,C];exact H
  refine⟨_,_,_,t.s,_,_,k,ad.aG λh M O=>di (λA=>absurd rfl A) (λ_=>O.ah λw3 E=>?_)⟩;refine E.iZ (TO (Z3 64) (by omega) t w3 (by omega) (by rw[C];exact aa) (E.getD 0)) ?_;rintro _ w4 ⟨u,rfl,D,pu,fu⟩ _ F4;rw[C]at D;rw[C];have H4:=F4.rd (.tree u) pu λb P=>fu b (aM.1 P);refine⟨_,_,_,u.s,_,rfl,H4.aG λG w5 W=>di (λL=>W.ah λy z=>⟨by rw[B,af L],z.fr⟩) (λK=>W.ah λy z=>?_)⟩;rw[aq K]at B;have ab:u.sz<=1000000:=by
   rw[<-I.eB,D];have:n8 x=0:=K;unfold n8 at this;unfold iO;split at this
   .rename_i q;rw[aq q];unfold o6 at this;unfold o7;split at this
    .cases this
    .rename_i aj;rw[af aj];omega
   .rename_i q;exact absurd this q
  refine gN (O0.aB _ _ _ _ y _ ((gG (z.getD 1)).aG λb1 U Z=>Z.aw (GA u U ab (Z.getD 0)) ?_));rintro _ N rfl F;rw[D];refine⟨_,rfl,di (λL=>⟨F.fr,_,_,rfl,aL (λA=>absurd A L) (λ_=>⟨by rw[B,af L],(z.br F.fr).fr⟩)⟩) (λq=>F.aw (YF u 0 N ab (by omega) ?_ (F.getD 0)) ?_)⟩
  .exact I1 _ (by rw[D];exact(Fs q).1)
  .rintro _ w9 rfl H9;refine⟨_,rfl,H9.fr,_,_,rfl,a1 rfl ⟨?_,(z.br H9.fr).fr⟩⟩;rw[B,aq q,D];congr 2;have:=r0 (cL 0 (iO x) (a9 (iO x))) (bl s);rw[l8]at this;exact this
def Ny(t:ByteArray):xe t:=λd=>aaQ t d
def uR(t:BL):Bool:=(match r5 t with
 |some b=>kR t==b
 |none=>false)&&Nat.ble t.length 100
def iI(i:Nat):Bool:=(List.range 108).all (λd=>uR (lT (108 *i+d)))
def VX:iI 0=true:=by kernel_rfl
def VY:iI 1=true:=by kernel_rfl
def V5:iI 2=true:=by kernel_rfl
def V6:iI 3=true:=by kernel_rfl
def V7:iI 4=true:=by kernel_rfl
def V8:iI 5=true:=by kernel_rfl
def V9:iI 6=true:=by kernel_rfl
def V':iI 7=true:=by kernel_rfl
def Wa:iI 8=true:=by kernel_rfl
def Wb:iI 9=true:=by kernel_rfl
def VZ:iI 10=true:=by kernel_rfl
def V0:iI 11=true:=by kernel_rfl
def V1:iI 12=true:=by kernel_rfl
def V2:iI 13=true:=by kernel_rfl
def V3:iI 14=true:=by kernel_rfl
def V4:iI 15=true:=by kernel_rfl
def VW:∀i,i<16->iI i=true:=by
 intro i e
 match i,e with
 |0,_=>exact VX
 |1,_=>exact VY
 |2,_=>exact V5
 |3,_=>exact V6
 |4,_=>exact V7
 |5,_=>exact V8
 |6,_=>exact V9
 |7,_=>exact V'
 |8,_=>exact Wa
 |9,_=>exact Wb
 |10,_=>exact VZ
 |11,_=>exact V0
 |12,_=>exact V1
 |13,_=>exact V2
 |14,_=>exact V3
 |15,_=>exact V4
 |n+16,d=>exact absurd d (by omega)
def VV(k:Nat)(h:k<1728):uR (lT k)=true:=by
 have d:=VW (k / 108) (by omega);have e:=ft.1 d (k%108) (List.mem_range.2 (Nat.mod_lt _ (by omega)))
 rwa[Nat.div_add_mod]at e
def IK:List BL:=[[],[97],[65],[115,101,118,101,110,116,101,101,110,45,108,101,116,116,101,114,115],[97,45,49],[45],[40],[122,122],[97,98],[98],[0],[97,97],[99],[100],[109],[110],[115],[116],[105],[122]]
def VC:IK.all uR=true:=by kernel_rfl
def AD(t:ByteArray):Prop:=bl t∈IK\/∃d,t=ba (lT d)
def Yi{t:ByteArray}(h:AD t):uR (bl t)=true:=by
 rcases h with h|⟨d,rfl⟩
 .exact ft.1 VC _ h
 .rw [mS,Rh];exact VV (d%1728) (Nat.mod_lt _ (by omega))
def Dw{t:ByteArray}(h:AD t):xm t/\xe t/\t.size<=100:=by
 have j:=Yi h;unfold uR at j;simp only[bq]at j;obtain⟨d,e⟩:=j;have e:=Nat.le_of_ble_eq_true e;rw[dH]at e;refine⟨⟨by omega,?_⟩,Ny t,e⟩;cases k:r5 (bl t)with
 |none=>rw[k]at d;cases d
 |some b=>
  rw[k]at d;have d:=eq_of_beq d;unfold nN;rw[d]
def z1(x:Int):a7 (aj .i64 x):=by rw[IntKind.wrap_i64];omega
structure MdV(d:Nx):Prop extends MdN d where
 nv:d.op≠0
def l3(w:J)(r:ch)(w':J):Prop:=∃d:Nd,r=ae d.v/\MdV d.x/\d.P w'/\∀b∈ax d.ks,w.heap.size<=b
def XI{op n m u:Int}{d:ByteArray}{st:bj}{ks:List Int}(h:MdV ⟨op,[],n,m,u,d,st⟩)(e:ks.length<=3):MdV ⟨op,ks,n,m,u,d,st⟩:=⟨⟨h.DC,h.DD,e,h.n,h.m,h.u,h.tx,h.re⟩,h.nv⟩
def WE(op:Int):-1<=cS op/\cS op<=3:=by unfold cS;repeat' split<;>omega
section
variable {w:J} {s:Sl} {l:List Nd} {n1 m2 k3:Int} {b8 kC:Nat}
def X7(hm:a7 m2)(C:a7 k3)(hl:l.length<=e5){op n m u:Int}{G:ByteArray}{st:bj}(hd:MdV ⟨op,[],n,m,u,G,st⟩)(many:Nat)(ap:many<=3)(x:Int)(ab:-1<=x)(ac:x<(l.length:Int)):
  ∀(d i:Nat) (sl:Sl) (ks:List Int) (E:J),i+d=many->ks.length=i->(∀O∈ks,0<=O/\O<(l.length:Int))->LH F0 w E [.g b8,.g kC,qO sl ks] [.gr s l]->
   iK.kA s m2 k3 b8 0 ⟨none,0,0⟩ 0 0 0 (bG #[]) 0 0 0 kC op sl n m u G st.k st.n st.x x (many:Int) (i:Int) E λr A=>l3 w r A/\ag w A:=by
 intro d;unfold e5 at hl;induction d with
 |zero=>
  intro i sl ks E hi hlen W B;refine iK.nI _ _ _ _ _ _ _ _ _ _ _ _ _ _ _ _ _ _ _ _ _ _ _ _ _ _ _ _ (aZ (aW (by omega)) (B.ah λH y=>⟨⟨⟨⟨op,ks,n,m,u,G,st⟩,sl⟩,rfl,XI hd (by omega),yM (y.get 2),λb V=>(y.new _ (aD (i:=2) rfl) b V).resolve_right id⟩,y.fr⟩))
 |succ d ih=>
  intro i sl ks E hi hlen W B;have U:∀(D:Int) (H:J) (L:List En),-1<=D->D<(l.length:Int)->LH F0 w H [.g b8,.g kC,qO sl ks] [.gr s l]->iK.mP s m2 k3 b8 0 ⟨none,0,0⟩ 0 0 0 (bG #[]) 0 0 0 kC op sl n m u G st.k st.n st.x x (many:Int) (i:Int) D H λr A=>l3 w r A/\ag w A:=by
   intro D H L h1 h2 y;refine aF (λh0=>y.ah λQ z=>⟨⟨⟨⟨-1,[],0,0,0,ba [],cZ⟩,⟨none,0,0⟩⟩,rfl,⟨⟨by decide,by decide,by decide,by decide,by decide,by decide,λ_=>by decide,λaf=>by cases af⟩,by decide⟩,Rd.nil Q,λb V=>by cases V⟩,z.fr⟩) (λh0=>?_);refine y.h7 2 ic rfl (λs' Q z=>?_) (by have:=yL (y.get 2);omega);have ad:LH F0 w Q [.g b8,.g kC,qO s' (ks++[D])] [.gr s l]:=by rw[qO,hv];exact z
   refine ad.ah λh q=>?_;rw[bb _ (by omega)];refine ih (i+1) s' (ks++[D]) h (by omega) (by simp[hlen]) (λO C=>?_) q;rcases aY.1 C with C|C
   .exact W O C
   .simp only[au,aO,aR]at C;omega
  refine iK.nI _ _ _ _ _ _ _ _ _ _ _ _ _ _ _ _ _ _ _ _ _ _ _ _ _ _ _ _ (a1 (aS (by omega)) (aF (λai=>aF (λal=>?_) (λal=>U x E [] ab ac B)) (λai=>U x E [] ab ac B)));obtain⟨S,rfl⟩:∃S:Nat,x=(S:Int):=⟨x.toNat,by omega⟩;refine B.aw (Uw (bR.1 (B.getD 0)) op S (i:Int) m2 (by omega) hm) ?_;rintro _ H ⟨t,rfl⟩ y;refine⟨_,_,_,rfl,y.aG λZ Q z=>?_⟩;have T:∀(t:bj) (h:J),LH F0 w h [.g b8,.g kC,qO sl ks,.g Z] [.gr s l]->iK.iV s m2 k3 b8 0 ⟨none,0,0⟩ 0 0 0 (bG #[]) 0 0 0 kC op sl n m u G st.k st.n st.x (S:Int) (many:Int) (i:Int) Z t.k t.n t.x h λr A=>l3 w r A/\ag w A:=by intro t h q;have ae:aj .i64 (5 *(i:Int))=5 *(i:Int):=aQ _ (by omega);have e6:aj .i64 (1+5 *(i:Int))=1+5 *(i:Int):=aQ _ (by omega);refine⟨by rw[ae,e6];omega,q.ah λw5 I=>I.aw (A4 (bR.1 (I.getD 0)) t _ (z1 _) (by unfold e5;exact hl)) ?_⟩;rintro _ w6 ⟨ao,rfl,am,an⟩ H6;exact⟨_,rfl,U ao w6 [] am an (H6.take 3)⟩
  refine aL (λho=>aL (λh2=>?_) (λh2=>z.ah λh q=>T t h q)) (λho=>z.ah λh q=>T t h q);have hn:=yL (z.get 2);have M:ks[1]? =some (ks[1]'(by omega)):=a4 (by omega);have ak:=W _ (aD M);generalize ks[1]'(by omega)=kk at M ak;refine⟨by omega,by omega,(yM (z.get 2)).cell M (j:=aV 1 *1) rfl λp hp _=>z.ah λh q=>?_⟩;have aa:l[kk.toNat]? =some (l[kk.toNat]'(by omega)):=a4 (by omega);generalize l[kk.toNat]'(by omega)=e at aa;have F:h.cell? (p.add (aV 1 *1))=some (.int .i64 kk):=by have:=(yM (q.get 2)).cell M (j:=aV 1 *1) rfl (K:=λP=>∃q',sl.a=some q'/\h.cell? (q'.add (aV 1 *1))=some (.int .i64 kk)) (λP N F=>⟨P,N,F⟩);rw[hp]at this;obtain⟨P,N,F⟩:=this;cases N;exact F
  exact⟨kk,F,hQ (bR.1 (q.getD 0)) (i:=kk.toNat) (by omega) aa λP N c=>⟨_,_,_,c.s0,c.s1,c.s2,q.ah λw5 I=>T e.x.st w5 I⟩⟩
def X8(Z:a7 n1)(T:a7 m2)(S:a7 k3)(D:l.length<=e5){op n m u:Int}{j:ByteArray}{st:bj}(O:MdV ⟨op,[],n,m,u,j,st⟩)(x:Int)(aa:0<=x)(U:x<(l.length:Int))(I:J)(H:LH F0 w I [.g b8,.g kC] [.gr s l]):
  iK.bV s n1 m2 k3 b8 0 ⟨none,0,0⟩ 0 0 0 (bG #[]) 0 0 0 kC op ⟨none,0,0⟩ n m u j st.k st.n st.x x I λr h=>l3 w r h/\ag w h:=by
 refine H.aw (Gx op I) ?_;rintro _ z rfl q;have hr:=WE op;have N:∀(x:Int) (d:J),-1<=x->x<(l.length:Int)->LH F0 w d [.g b8,.g kC] [.gr s l]->iK.fK s m2 k3 b8 0 ⟨none,0,0⟩ 0 0 0 (bG #[]) 0 0 0 kC op ⟨none,0,0⟩ n m u j st.k st.n st.x x (cS op) d λr h=>l3 w r h/\ag w h:=by
  intro x d B C y;have e:=y.hR bN 1;by_cases W:cS op<0
  .refine iK.nI _ _ _ _ _ _ _ _ _ _ _ _ _ _ _ _ _ _ _ _ _ _ _ _ _ _ _ _ (aZ (aW (by omega)) (e.ah λz q=>⟨⟨⟨⟨op,[],n,m,u,j,st⟩,⟨none,0,0⟩⟩,rfl,O,Rd.nil z,λb Q=>by cases Q⟩,q.fr⟩))
  .have P:cS op=(((cS op).toNat:Nat):Int):=by omega
   show iK.kA _ _ _ _ _ _ _ _ _ _ _ _ _ _ _ _ _ _ _ _ _ _ _ _ (cS op) 0 _ _;rw[P];exact X7 T S D O (cS op).toNat (by omega) x B C (cS op).toNat 0 ⟨none,0,0⟩ [] d (by omega) rfl (by simp) e
 have M:∀(x:Int) (d:J),-1<=x->x<(l.length:Int)->LH F0 w d [.g b8,.g kC] [.gr s l]->iK.cM s n1 m2 k3 b8 0 ⟨none,0,0⟩ 0 0 0 (bG #[]) 0 0 0 kC op ⟨none,0,0⟩ n m u j st.k st.n st.x x (cS op) d λr h=>l3 w r h/\ag w h:=by intro x d B C y;refine aL (λE=>y.aw (fh 8 d) ?_) (λE=>N x d B C y);rintro _ V rfl e;refine⟨_,_,_,rfl,e.aw (A4 (bR.1 (e.getD 0)) (bz 8) _ (z1 _) D) ?_⟩;rintro _ K ⟨L,rfl,F,G⟩ A;exact⟨_,rfl,N L K F G A⟩
 refine⟨_,rfl,aL (λE=>q.aw (fh 1 z) ?_) (λE=>M x z (by omega) U q)⟩;rintro _ V rfl e;refine⟨_,_,_,rfl,e.aw (A4 (bR.1 (e.getD 0)) (bz 1) _ (z1 _) D) ?_⟩;rintro _ K ⟨L,rfl,F,G⟩ A;exact⟨_,rfl,M L K F G A⟩
end
def opsL:List Int:=[4,5,6,7,8,9,10,11,12,13,14,15,16,17,18,19,20,21,22,23,24,25,26,27,28,29,30,31,32,33,34,1,2,3,18,18,16,6,24,25]
def Yq{i:Nat}{op:Int}(h:opsL[i]? =some op):1<=op/\op<=34:=by
 have e:(opsL.all λd=>ak (1<=d)&&ak (d<=34))=true:=by decide
 have:=ft.1 e op (aD h);simpa using this
def tT:List ByteArray:=[ba [],ba [97],ba [97,98],ba [98],ba [0],ba [97,97]]
def aa4{i:Nat}{t:ByteArray}(h:tT[i]? =some t):t.size<=16:=by
 have d:(tT.all λe=>ak (e.size<=16))=true:=by decide
 have:=ft.1 d t (aD h);simpa using this
def GO{w:J}{s:Sl}{l:List Nd}(h:GP w s l)(aE:1<=l.length)(hl:l.length<=e5)(hv:∀ap∈l,bU ap.x.st=true)(C d B:Int)(hn:a7 C)(M:a7 d)(hk:a7 B):
  ai Y K8 #[s.v,.i C,.i d,.i B] w λr z=>l3 w r z/\ag w z:=by
 have hs:=ih h;refine iK.aB _ _ _ _ w _ ((CB h).aG λL w1 H1=>H1.nw λw2 _ H2=>H2.aw (i5 C 40 w2 (by omega) hn) ?_);have hr:=iY C 40 (by omega);generalize gz C 40=an at hr;rintro _ w3 rfl H3;obtain⟨j,rfl⟩:∃j:Nat,an=(j:Int):=⟨an.toNat,by omega⟩;have ae:opsL[j]? =some (opsL[j]'(by show j<40;omega)):=a4 _;have ak:=Yq ae;generalize opsL[j]'(by show j<40;omega)=op at ae ak;have ac:bo w3 ⟨some (ab w1.heap.size),40,40⟩ opsL:=AY (T:=bN) (H3.ob 1) rfl;refine⟨_,rfl,by omega,by show(j:Int)<40;omega,ac.cell ae (by omega) λp hp P=>⟨op,P,H3.aG λI w4 H4=>H4.ah λw5 H5=>H5.aw (i5 _ _ w5 (by omega) (z1 _)) ?_⟩⟩;have ay:=iY (aj .i64 (bL C 64)) ((s.n:Nat):Int) (by omega);generalize gz (aj .i64 (bL C 64)) ((s.n:Nat):Int)=N at ay;rintro _ G rfl D;have H:∀{n m u:Int} {W:ByteArray} {st:bj} {A:J},MdV ⟨op,[],n,m,u,W,st⟩->LH F0 w A [.g L,.g I] [.gr s l]->iK.bV s C d B L 0 ⟨none,0,0⟩ 0 0 0 (bG #[]) 0 0 0 I op ⟨none,0,0⟩ n m u W st.k st.n st.x N A λr z=>l3 w r z/\ag w z:=λhd q=>X8 hn M hk hl hd N (by omega) (by omega) _ q;have D:LH F0 w G [.g L,.g I] [.gr s l]:=D.iQ [true,false,true];have em:bG #[]=ba []:=rfl;have base:∀{n m u:Int} {W:ByteArray} {st:bj},0<=n/\n<=100->0<=m/\m<=100->0<=u/\u<=1000->(op≠33->W.size<=16)->(op=33->∃af,W=ba (lT af))->MdV ⟨op,[],n,m,u,W,st⟩:=λh1 h2 h3 h4 h5=>⟨⟨by show -1<=op;omega,ak.2,by simp,h1,h2,h3,h4,h5⟩,by show op≠0;omega⟩;have zz:(0:Int)<=0/\(0:Int)<=100:=by decide
 have S:(0:Int)<=0/\(0:Int)<=1000:=by decide
 refine⟨_,rfl,aL (λh1=>?_) (λh1=>aL (λh2=>?_) (λh2=>aL (λh3=>?_) (λh3=>aL (λh4=>?_) (λh4=>?_))))⟩
 .refine D.aw (i5 d 3 G (by omega) M) ?_;have ar:=iY d 3 (by omega);generalize gz d 3=v at ar;rintro _ A rfl q;refine⟨_,rfl,?_⟩;have S1:∀(F:Int),1<=F->F<=7->iK.bM s C d B L 0 ⟨none,0,0⟩ 0 0 0 (bG #[]) 0 0 0 I op ⟨none,0,0⟩ 0 0 0 (bG #[]) 0 0 0 N F A λr z=>l3 w r z/\ag w z:=by
   intro F h5 h6;refine q.aw (fh F A) ?_;rintro _ E rfl y;have P:∃c:Nat,(if 3<F then(3:Int)else F)=(c:Int)/\1<=c/\c<=3:=⟨(if 3<F then(3:Int)else F).toNat,by split<;>omega,by split<;>omega,by split<;>omega⟩;obtain⟨c,P,aA,aC⟩:=P;rw[P];have ec:aj .u64 (c:Int)=(c:Int):=IntWalk.u64_in _ (by omega);rw[ec];have ep:∃Q:Int,aj .i64 (1 *2^min (aV (c:Int)) (IntKind.bits .i64))=Q/\1<=Q/\Q<=8:=by
    have:c=1\/c=2\/c=3:=by omega
    rcases this with rfl|rfl|rfl
    .exact ⟨2,by decide,by decide,by decide⟩
    .exact ⟨4,by decide,by decide,by decide⟩
    .exact ⟨8,by decide,by decide,by decide⟩
   obtain⟨Q,eq,q1,q2⟩:=ep;rw[eq];refine⟨_,_,_,rfl,by omega,y.ah λZ O=>O.aw (i5 B Q Z (by omega) hk) ?_⟩;have ax:=iY B Q (by omega);generalize gz B Q=a at ax;rintro _ az rfl ad;have ea:aj .u64 a=a:=IntWalk.u64_in _ (by omega);refine⟨_,rfl,ad.ah λaH ao=>?_⟩;rw[ea];exact H (st:=bz F) (base zz zz (by omega) (λ_=>by decide) (λh=>by omega)) ao
  have U:aj .i64 (1+v)=1+v:=aQ _ (by omega);show iK.bn s C d B L 0 ⟨none,0,0⟩ 0 0 0 _ 0 0 0 I op ⟨none,0,0⟩ 0 0 0 _ 0 0 0 N (aj .i64 (1+v)) A _;rw[U];exact aL (λ_=>S1 7 (by decide) (by decide)) (λ_=>S1 _ (by omega) (by omega))
 .refine D.nw λA _ q=>q.aw (i5 d 6 A (by omega) M) ?_;have au:=iY d 6 (by omega);generalize gz d 6=v at au;rintro _ E rfl y;obtain⟨i,rfl⟩:∃i:Nat,v=(i:Int):=⟨v.toNat,by omega⟩;have V:tT[i]? =some (tT[i]'(by show i<6;omega)):=a4 _;have am:=aa4 V;generalize tT[i]'(by show i<6;omega)=t at V am;have ac:Rd E ⟨some (ab G.heap.size),6,6⟩ (tT.map Value.string):=r2 (T:=fX) (y.ob 2) rfl;refine⟨_,rfl,by omega,by show(i:Int)<6;omega,Rd.get ac (i:=i) (v:=.string t) (by simp[V]) (by omega) λp hp P=>⟨t,P,y.ah λZ O=>?_⟩⟩;exact H (st:=cZ) (base zz zz S (λ_=>am) (λh=>by omega)) (O.take 2)
 .refine D.nw λA _ q=>q.aw (i5 d 2 A (by omega) M) ?_;have aa:=iY d 2 (by omega);generalize gz d 2=v at aa;rintro _ E rfl y;obtain⟨i,rfl⟩:∃i:Nat,v=(i:Int):=⟨v.toNat,by omega⟩;have V:([⟨2,2,1⟩,⟨3,1,1⟩]:List bj)[i]? =some (([⟨2,2,1⟩,⟨3,1,1⟩]:List bj)[i]'(by show i<2;omega)):=a4 _;generalize([⟨2,2,1⟩,⟨3,1,1⟩]:List bj)[i]'(by show i<2;omega)=t at V;have ac:bx 3 E ⟨some (ab G.heap.size),2,2⟩ (([⟨2,2,1⟩,⟨3,1,1⟩]:List bj).flatMap gp):=uL (T:=cg) (y.ob 2) rfl;obtain⟨g1,g2,g3⟩:=ek ac rfl V (K:=λp=>JF E (p.add (aV (i:Int) *3)) λa b c=>loc [L,I] E λZ=>iK.bV s C d B L 0 ⟨none,0,0⟩ 0 0 0 (bG #[]) 0 0 0 I op ⟨none,0,0⟩ 0 0 0 (bG #[]) a b c N Z λr z=>l3 w r z/\ag w z) (λp hp c=>⟨_,_,_,c.c0,c.c1,c.c2,y.ah λZ O=>H (st:=t) (base zz zz S (λ_=>by decide) (λh=>by omega)) (O.take 2)⟩);exact⟨_,rfl,g1,g2,g3⟩
 .obtain ⟨xn,rfl⟩:∃xn:Nat,N=(xn:Int):=⟨N.toNat,by omega⟩;have hg:l[xn]? =some (l[xn]'(by omega)):=a4 (by omega);generalize l[xn]'(by omega)=e at hg;have aF:=lV (hv e (aD hg));refine hQ (bR.1 (D.getD 0)) rfl hg λp hp c=>⟨_,c.s1,D.aw (i5 d _ G (by split<;>omega) M) ?_⟩;have al:=iY d (if 1<e.x.st.n then e.x.st.n else 1) (by split<;>omega);generalize gz d (if 1<e.x.st.n then e.x.st.n else 1)=a at al;have ha:a<64:=by have:=al.2;split at this<;>omega
  rintro _ A rfl q;have U:aj .i64 (a+1)=a+1:=aQ _ (by omega);refine⟨_,rfl,q.ah λE y=>y.aw (i5 B _ E (by rw[U];omega) hk) ?_⟩;rw[U];have av:=iY B (a+1) (by omega);generalize gz B (a+1)=b at av;rintro _ Z rfl O;exact⟨_,rfl,O.ah λaz ad=>H (st:=cZ) (base (by omega) (by omega) S (λ_=>by decide) (λh=>by omega)) ad⟩
 have S8:op≠33->iK.p0 s C d B L 0 ⟨none,0,0⟩ 0 0 0 (bG #[]) 0 0 0 I op ⟨none,0,0⟩ 0 0 0 (bG #[]) 0 0 0 N G λr z=>l3 w r z/\ag w z:=by intro aq;refine D.aw (i5 d 2 G (by omega) M) ?_;have aa:=iY d 2 (by omega);generalize gz d 2=v at aa;rintro _ A rfl q;have U:aj .i64 (1+v)=1+v:=aQ _ (by omega);refine⟨_,rfl,q.ah λE y=>?_⟩;rw[U];exact H (st:=cZ) (base (by omega) zz S (λ_=>by decide) (λh=>absurd h aq)) y
 refine aL (λh5=>a1 (beq_iff_eq.2 h5) (S8 (by omega))) (λh5=>aL (λh6=>S8 (by omega)) (λh6=>aL (λh7=>?_) (λh7=>aL (λh8=>D.aw (TU d M G) ?_) (λh8=>H (st:=cZ) (base zz zz S (λ_=>by decide) (λh=>absurd h h8)) D))))
 .refine D.aw (i5 d 3 G (by omega) M) ?_;have aa:=iY d 3 (by omega);generalize gz d 3=v at aa;rintro _ A rfl q;exact⟨_,rfl,q.ah λE y=>H (st:=cZ) (base (by omega) zz S (λ_=>by decide) (λh=>by omega)) y⟩
 .rintro _ A ⟨af,rfl⟩ q;exact⟨_,rfl,q.ah λE y=>H (st:=cZ) (base zz zz S (λh=>absurd h8 h) (λ_=>⟨af,rfl⟩)) y⟩
def MdN.ok{d:Nx}(h:MdN d):oM d:=by
 refine⟨by have:=h.kl;unfold e5;omega,?_,?_,λe=>?_⟩
 .have:=h.n;exact⟨by omega,by omega⟩
 .have:=h.m;exact⟨by omega,by omega⟩
 .exact (Dw (.inr (h.re e))).1
def h0.ok{g:List Nx}(h:h0 g)(d:g.length<=e5):w8 g:=⟨d,h.vg.val,h.vg.vars⟩
def SG(g:List Nx)(n:Nx):(g2 g n).1.length<=g.length+1:=by
 unfold g2;split
 .simp
 .split
  .simp
  .split
   .simp
   .simp
def AM{g:List Nx}{n:Nx}(h:(g2 g n).2.2=0):(cv g n).2=0/\∃k:Nat,(g2 g n).2.1=(k:Int)/\(g2 g n).1[k]? =some (gL n (cv g n).1)/\((g2 g n).1=g\/(gL n (cv g n).1∉g/\(g2 g n).1=g++[gL n (cv g n).1]/\k=g.length)):=by
 unfold g2 at h ⊢;split at h
 .rename_i d;exact absurd h d
 rename_i d;have d:(cv g n).2=0:=by omega
 refine⟨d,?_⟩;rw[af (by omega)];cases e:hn (gL n (cv g n).1) g 0 with
 |some i=>
  have:=ya e;rw[Nat.sub_zero]at this;exact⟨i,rfl,this.2,.inl rfl⟩
 |none=>
  rw[e]at h;dsimp only at h ⊢;split at h
  .cases h
  .rename_i j;rw[af j];exact⟨g.length,rfl,by simp,.inr ⟨Ck e,rfl,rfl⟩⟩
def SJ{g:List Nx}{n:Nx}(e:Vg g)(h:(g2 g n).2.2=0):Vg (g2 g n).1:=by
 obtain⟨j,w,_,_,d⟩:=AM h;rcases d with d|⟨k,q,_⟩
 .rw [d];exact e
 .rw [q];exact .snoc e (JK (by rw[<-j])) k
def SH{g:List Nx}{n:Nx}(k:h0 g)(e:MdN n)(h:(g2 g n).2.2=0):h0 (g2 g n).1:=by
 refine⟨SJ k.vg h,λq d=>?_⟩;obtain⟨x,z,_,_,j⟩:=AM h;rcases j with j|⟨y,w,_⟩
 .rw [j]at d;exact k.nd q d
 .rw [w]at d;rcases aY.1 d with d|d
  .exact k.nd q d
  .simp only[au,aO,aR]at d;subst d;exact⟨e.DC,e.DD,e.kl,e.n,e.m,e.u,e.tx,e.re⟩
def h0.kl{l:List Nd}(h:h0 (xs l)):∀d∈l,d.x.kids.length<=e5:=λd e=>by have:=(h.nd d.x (bZ.2 ⟨d,e,rfl⟩)).kl;unfold e5;omega
def rM(w:J)(kind:Int)(cc:Nat)(r:ch)(w':J):Prop:=∃(s:Sl) (l:List Nd),r=ae s.v/\h0 (xs l)/\1<=l.length/\l.length<=10+cc/\GP w' s l/\(∀b∈(En.gr s l).fp,w.heap.size<=b)/\∀d∈xs l,d.op=0->d∈xs (gq kind)
def SI{g:List Nx}{n e:Nx}(j:n.op≠0)(d:e∈(g2 g n).1)(h:e.op=0):e∈g:=by
 unfold g2 at d;split at d
 .cases d
 .split at d
  .exact d
  .split at d
   .cases d
   .rcases aY.1 d with d|d
    .exact d
    .rw [bT.1 d]at h;exact absurd h j
def Sj(w:J)(cc:Nat)(r:ch)(w':J):Prop:=∃(s:Sl) (l:List Nd),r=ae s.v/\h0 (xs l)/\1<=l.length/\l.length<=10+cc/\GP w' s l/\∀b∈(En.gr s l).fp,w.heap.size<=b
def TM{w:J}{ls:Sl}{e:List Int}(hr:bo w ls e)(ab:∀x∈e,a7 x)(a0:e.length<=9223372036854775807)(kind:Int)(cc:Nat)(hm:cc<=1000):
  ai Y CU #[ls.v,.i kind,.i (cc:Int)] w λr y=>rM w kind cc r y/\ag w y:=by
 have hn:=bo.len hr;have loop:∀(m i:Nat) (q:Sl) (l:List Nd) (Q:J),i+m=cc->h0 (xs l)->(∀d∈xs l,d.op=0->d∈xs (gq kind))->1<=l.length->l.length<=10+i->(∀b∈(En.gr q l).fp,w.heap.size<=b)->LH F0 w Q [] [.rd ls (e.map a'),.gr q l]->
   m3.a2 ls kind (cc:Int) q ((3 *i:Nat):Int) Q λr y=>rM w kind cc r y/\ag w y:=by
  intro m;have e3:aj .i64 (3 *(cc:Int))=3 *(cc:Int):=aQ _ (by omega);induction m with
  |zero=>
   intro i q l Q hi B O I h2 N G;have fin:m3.cM q Q λr y=>rM w kind cc r y/\ag w y:=⟨⟨q,l,rfl,B,I,by omega,bR.1 (G.getD 1),N,O⟩,G.fr⟩;exact m3.bw _ _ _ _ _ _ _ (aF (λ_=>aZ (aW (by rw[e3];omega)) fin) (λ_=>fin))
  |succ m ih=>
   intro i q l Q hi B O I h2 N G;have fin:m3.cM q Q λr y=>rM w kind cc r y/\ag w y:=⟨⟨q,l,rfl,B,I,by omega,bR.1 (G.getD 1),N,O⟩,G.fr⟩;have aP:aj .i64 (((3 *i:Nat):Int)+1)=((3 *i+1:Nat):Int):=aQ _ (by omega);have aT:aj .i64 (((3 *i:Nat):Int)+2)=((3 *i+2:Nat):Int):=aQ _ (by omega);have aU:aj .i64 (((3 *i:Nat):Int)+3)=((3 *(i+1):Nat):Int):=aQ _ (by omega);have next:∀(aa:Sl) (h:List Nd) (C:J),h0 (xs h)->(∀d∈xs h,d.op=0->d∈xs (gq kind))->1<=h.length->h.length<=10+(i+1)->(∀b∈(En.gr aa h).fp,w.heap.size<=b)->LH F0 w C [] [.rd ls (e.map a'),.gr aa h]->m3.bV ls kind (cc:Int) aa ((3 *i:Nat):Int) C λr y=>rM w kind cc r y/\ag w y:=by intro aa h C V gv W g3 g4 E;show m3.a2 ls kind (cc:Int) aa (aj .i64 (((3 *i:Nat):Int)+3)) C _;rw[aU];exact ih (i+1) aa h C (by omega) V gv W g3 g4 E
   have S1:∀(S:Nat) (d:Nd) (H:J) (L:List En),En.g S∈L->MdV d.x->d.P H->(∀b∈ax d.ks,w.heap.size<=b)->LH F0 w H L [.rd ls (e.map a'),.gr q l,cY d]->m3.bM ls kind (cc:Int) q ((3 *i:Nat):Int) S d.x.op d.ks d.x.n d.x.m d.x.u d.x.tx d.x.st.k d.x.st.n d.x.st.x H λr y=>rM w kind cc r y/\ag w y:=by
    intro S d H L aV z pd U D;have aN:(xs l).length=l.length:=by simp[xs]
    have D:LH F0 w H [] [.rd ls (e.map a'),.gr q l,cY d]:=D.take 0;refine gN ((Uk (bR.1 (D.getD 1)) pd (B.ok (by rw[aN];unfold e5;omega)) z.toMdN.ok B.kl).mono ?_);rintro _ w4 ⟨⟨s',rfl,⟨h,ad,G',F'⟩⟩,f4⟩;have ae:∀b∈(En.gr s' h).fp,w.heap.size<=b:=λb F=>by
     rcases F' b F with(A|A)|A
     .exact N b A
     .exact gU U b A
     .exact a6 D.fr.size A
    have Z:=D.br f4;have aq:LH F0 w w4 [] [.rd ls (e.map a'),.gr s' h]:=(D.gy (.gr s' h) f4 (bR.2 G') (λb F=>by
     rcases F' b F with(A|A)|A
     .exact .inr (.inr ⟨_,aD (i:=1) rfl,A⟩)
     .exact .inr (.inr ⟨_,aD (i:=2) rfl,A⟩)
     .exact .inl A)).forget _ (by simp)
    have ar:∀{w6:J},LH F0 w w6 [] [.rd ls (e.map a'),.gr q l,cY d]->LH F0 w w6 [] [.rd ls (e.map a'),.gr q l]:=λG=>G.forget _ (by simp);refine⟨f4,_,_,_,rfl,aL (λal=>?_) (λal=>next q l w4 B O I (by omega) N (ar Z))⟩;obtain⟨_,M,aC,aw,_⟩:=AM al;have ao:h0 (xs h):=by rw[ad];exact SH B z.toMdN al
    have aM:∀T∈xs h,T.op=0->T∈xs (gq kind):=λT he A=>by rw[ad]at he;exact O T (SI z.nv he A) A
    have aH:h.length<=10+(i+1):=by have:=SG (xs l) d.x;rw[<-ad]at this;simp only[xs,List.length_map]at this;omega
    rw[<-ad]at aw;have ac:M<h.length:=by have:=(cz.1 aw).1;simpa[xs]using this
    have an:h[M]? =some (h[M]'ac):=a4 ac;generalize h[M]'ac=T at an;rw[aC];refine hQ (bR.1 (aq.getD 1)) rfl an λp hp c=>⟨_,_,_,c.s0,c.s1,c.s2,?_⟩;refine gN ((Ux kind T.x.st w4).mono ?_);rintro _ C ⟨⟨b,rfl⟩,f5⟩;have E:=aq.br f5;have af:=ar (Z.br f5);refine⟨f5,_,rfl,bB (λ_=>?_) (λ_=>next q l C B O I (by omega) N af)⟩;refine hQ (bR.1 (E.getD 1)) rfl an λp' a3 c'=>⟨_,c'.s1,aF (λ_=>?_) (λ_=>next q l C B O I (by omega) N af)⟩;have aE:∀(i:Nat) (d:Nd),h[i]? =some d->d.x.kids.length<=1000000/\∀M∈d.x.kids,0<=M/\M<(i:Int):=λi d z=>by have av:=wY z;have:=(ao.nd d.x (aD av)).kl;exact⟨by omega,ao.vg.kids av⟩
    refine gN ((G2 (bR.1 (E.getD 1)) aE (M+1) M (by omega) ac C (Fr.refl _ _)).mono ?_);rintro _ w6 ⟨⟨a5,rfl⟩,f6⟩;have f6:ag C w6:=f6;exact⟨f6,_,rfl,aF (λ_=>next s' h w6 ao aM (by omega) aH ae (E.br f6)) (λ_=>next q l w6 B O I (by omega) N (af.br f6))⟩
   refine m3.bw _ _ _ _ _ _ _ ?_;rw[aP,aT,e3];refine aF (λaY=>a1 (aS (by omega)) (G.dr λw2 H2=>?_)) (λ_=>fin);have am:bo w2 ls e:=H2.getD 0;have g0:e[3 *i]? =some (e[3 *i]'(by omega)):=a4 (by omega);have V:e[3 *i+1]? =some (e[3 *i+1]'(by omega)):=a4 (by omega);have W:e[3 *i+2]? =some (e[3 *i+2]'(by omega)):=a4 (by omega);generalize e[3 *i]'(by omega)=x0 at g0;generalize e[3 *i+1]'(by omega)=x1 at V;generalize e[3 *i+2]'(by omega)=x2 at W;refine⟨by omega,by omega,am.cell g0 (by omega) λp0 aI c0=>⟨x0,c0,by omega,by omega,am.cell V (by omega) λp1 aJ c1=>⟨x1,c1,by omega,by omega,am.cell W (by omega) λp2 aK c2=>⟨x2,c2,?_,?_⟩⟩⟩⟩
   .have ak:=GO (bR.1 (H2.getD 1)) I (by unfold e5;omega) (λd z=>B.vg.val d.x (bZ.2 ⟨d,z,rfl⟩)) x0 x1 x2 (ab _ (aD g0)) (ab _ (aD V)) (ab _ (aD W));refine H2.uP ak ?_;rintro _ H ⟨d,rfl,z,pd,U⟩ _ F3;have D:=F3.rd (cY d) pd (gU U);refine⟨_,_,_,_,_,_,_,_,_,rfl,D.aG λS w4 Z=>Z.ah λC E=>?_⟩;exact S1 S d C _ (by simp) z (E.getD 2) (λb F=>a6 H2.fr.size (U b F)) E
   .refine H2.aG λS H D=>?_;have aA:bo H ls e:=D.getD 0;have again:∀{j:Nat} {x:Int} {p:Addr} {X:Nat},e[j]? =some x->ls.a=some p->X=j *1->H.cell? (p.add X)=some (.int .i64 x):=by intro j x p X B hp hX;have:=aA.cell B hX (K:=λap=>∃q',ls.a=some q'/\H.cell? (q'.add X)=some (.int .i64 x)) (λap hq hc=>⟨ap,hq,hc⟩);rw[hp]at this;obtain⟨ap,hq,hc⟩:=this;cases hq;exact hc
    have ak:=GO (bR.1 (D.getD 1)) I (by unfold e5;omega) (λd z=>B.vg.val d.x (bZ.2 ⟨d,z,rfl⟩)) x0 x1 x2 (ab _ (aD g0)) (ab _ (aD V)) (ab _ (aD W));refine⟨again W aK (by omega),again V aJ (by omega),again g0 aI (by omega),D.iZ ak ?_⟩;rintro _ w4 ⟨d,rfl,z,pd,U⟩ _ F4;have Z:=F4.rd (cY d) pd (gU U);refine⟨_,_,_,_,_,_,_,_,_,rfl,Z.ah λC E=>?_⟩;exact S1 S d C _ (by simp) z (E.getD 2) (λb F=>a6 D.fr.size (U b F)) E
 refine m3.aB _ _ _ w _ ((Ut kind w).mono ?_);rintro _ Q ⟨⟨s,rfl,⟨l,hl,az,ay⟩⟩,f1⟩;have hlen:=aao kind;have aX:l.length=(gq kind).length:=by have:=congrArg List.length hl;simpa[xs]using this
 have ae:∀b∈(En.gr s l).fp,w.heap.size<=b:=λb F=>(ay b F).resolve_left id;have G:LH F0 w w [] [.rd ls (e.map a')]:=bI _ (by intro T he;simp only[au,aO,aR]at he;subst he;exact hr)
 have H1:=G.gy (.gr s l) f1 (bR.2 az) (λb F=>.inl (ae b F));exact⟨s,rfl,loop cc 0 s l Q (by omega) (by rw[hl];exact aap kind) (λd z _=>hl▸z) (by omega) (by omega) ae H1⟩
def TL{w:J}{ls:Sl}{d:List Int}(C:bo w ls d)(B:∀D∈d,a7 D)(A:d.length<=9223372036854775807)(kind:Int)(cc:Nat)(z:cc<=1000):
  ai Y CU #[ls.v,.i kind,.i (cc:Int)] w λr e=>Sj w cc r e/\ag w e:=
 (TM C B A kind cc z).mono λ_ _ ⟨⟨s,l,h,j,k,q,x,y,_⟩,f⟩=>⟨⟨s,l,h,j,k,q,x,y⟩,f⟩
structure rR(c:Nat)(d:Nx):Prop where
 kl:d.kids.length<=c
 n:a7 d.n
 m:a7 d.m
 u:0<=d.u
 tx:d.op=33->AD d.tx
def MdN.sp{d:Nx}(h:MdN d):rR 3 d:=⟨h.kl,⟨by have:=h.n;omega,by have:=h.n;omega⟩,⟨by have:=h.m;omega,by have:=h.m;omega⟩,h.u.1,λe=>.inr (h.re e)⟩
def rR.Nv{c:Nat}{d:Nx}(h:rR c d)(j:c<=100):oM d:=⟨by have:=h.kl;unfold e5;omega,h.n,h.m,λe=>(Dw (h.tx e)).1⟩
def rR.tok{c:Nat}{d:Nx}(h:rR c d)(j:c<=100):oO d:=⟨by have:=h.kl;omega,h.n,h.m,h.u,λe=>(Dw (h.tx e)).2.1⟩
structure rG(c:Nat)(d:Nx):Prop where
 sp:rR c d
 wd:ff d
 tl:d.tx.size<=1000
def rG.small{c:Nat}{d:Nx}(h:rG c d)(e:c<=100):(dq d).length<=1000000:=X5 h.wd (by have:=h.sp.kl;omega) h.tl
def h0.gd{g:List Nx}(h:h0 g)(G:g.length<=1000):∀e∈g,rG 3 e:=by
 intro e j;have d:=h.nd e j;obtain⟨i,x⟩:=g7.1 j;have F:=(cz.1 x).1;have k:=h.vg.kids x;have I:=Ft.1 (h.vg.val e j);have H:e.tx.size<=100:=by
  by_cases w:e.op=33
  .obtain ⟨q,k⟩:=d.re w;rw[k,cP];have:=Ri q;omega
  .have:=d.tx w;omega
 have z:=d.DC;have A:=d.DD;have B:=d.kl;have C:=d.n;have D:=d.m;have E:=d.u;exact⟨d.sp,⟨⟨by omega,by omega⟩,λq y=>by have:=k q y;exact⟨by omega,by omega⟩,by omega,⟨by omega,by omega⟩,⟨by omega,by omega⟩,⟨by omega,by omega⟩,by omega,⟨by omega,by omega⟩,⟨by omega,by omega⟩,⟨by omega,by omega⟩⟩,by omega⟩
structure Lx where
 m:Lm
 gl:List Nd
 hy:List Int
 cl:List Int
 ds:List Sp
abbrev Lm.v(x:Lm):aa:=.agg #[x.g.v,x.h.v,x.c.v,x.s.v]
def uu(w:J)(x:Lx):Prop:=GP w x.m.g x.gl/\bo w x.m.h x.hy/\bo w x.m.c x.cl/\f' w x.m.s x.ds
def ej(x:Lx):En:=.all [.gr x.m.g x.gl,.rd x.m.h (x.hy.map a'),.rd x.m.c (x.cl.map a'),.sp x.m.s x.ds]
def n3{w:J}{x:Lx}:(ej x).P w↔uu w x:=by
 constructor
 .intro d;exact⟨bR.1 (d (.gr x.m.g x.gl) (by simp)),d (.rd x.m.h (x.hy.map a')) (by simp),d (.rd x.m.c (x.cl.map a')) (by simp),dX.1 (d (.sp x.m.s x.ds) (by simp))⟩
 .rintro ⟨j,k,q,y⟩ z e;simp only[au,aO,aR]at e;rcases e with rfl|rfl|rfl|rfl
  .exact bR.2 j
  .exact k
  .exact q
  .exact dX.2 y
def oJ(n:Nat)(l:List Int):Prop:=l.length<=n/\∀d∈l,a7 d
def oJ.le{n m:Nat}{l:List Int}(h:oJ n l)(d:n<=m):oJ m l:=⟨a6 h.1 d,h.2⟩
structure iD(n:Nat)(s:ct):Prop where
 k:a7 s.kind/\a7 s.node/\a7 s.du
 p:oJ n s.params
 l:oJ n s.bY
 h:oJ n s.hints
 t:s.nm.size<=n
def iD.le{n m:Nat}{s:ct}(h:iD n s)(d:n<=m):iD m s:=⟨h.k,h.p.le d,h.l.le d,h.h.le d,a6 h.t d⟩
def mL(n:Nat)(l:List Sp):Prop:=l.length<=n/\∀d∈l,iD n d.x
def mL.le{n m:Nat}{l:List Sp}(h:mL n l)(d:n<=m):mL m l:=⟨a6 h.1 d,λe j=>(h.2 e j).le d⟩
structure iA(n:Nat)(x:Lx):Prop where
 g:x.gl.length<=n/\∀d∈xs x.gl,rG 3 d
 h:oJ n x.hy
 c:oJ n x.cl
 s:mL n x.ds
def iA.le{n m:Nat}{x:Lx}(h:iA n x)(d:n<=m):iA m x:=⟨⟨a6 h.g.1 d,h.g.2⟩,h.h.le d,h.c.le d,h.s.le d⟩
def iD.Qk{d:Sp}(h:iD 100 d.x):nK d:=⟨by have:=h.p.1;omega,by have:=h.l.1;omega,by have:=h.h.1;omega⟩
structure rL(x:Lx):Prop where
 g:∀d∈x.gl,oO d.x/\ff d.x
 h:x.hy.length<=100000
 c:x.cl.length<=100000
 s:x.ds.length<=100000
 d:∀d∈x.ds,nK d
def jB:List ct->Int->Int
 |[],_=>0
 |s::r,i=>if s.kind=4 then 12 else if gX s i 0≠0 then gX s i 0 else jB r (i+1)
def Xu{s:ct}{r:List ct}{i:Int}(h:s.kind=4):jB (s::r) i=12:=by
 conv=>lhs;unfold jB
 rw[aq h]
def Xv{s:ct}{r:List ct}{i:Int}(h:s.kind≠4)(d:gX s i 0≠0):jB (s::r) i=gX s i 0:=by
 conv=>lhs;unfold jB
 rw[af h,aq d]
def J1{s:ct}{r:List ct}{i:Int}(h:s.kind≠4)(d:gX s i 0=0):jB (s::r) i=jB r (i+1):=by
 conv=>lhs;unfold jB
 rw[af h,af (by omega)]
def o3(n:Nat)(l:List Int):Bool:=l.all λd=>ak (0<=d)&&ak (d<(n:Int))
def gj(x:Lx):Int:=if gw (xs x.gl)≠0 then gw (xs x.gl)else if o3 x.gl.length x.hy then if gA x.cl≠0 then gA x.cl else jB (bA x.ds) 0 else 7
section
variable {w0:J} {x:Lx} {E:Int} {D:List En}
def Wn{n:Nat}{l:List Int}{i:Nat}{y:Int}(h:l[i]? =some y):o3 n (l.drop i)=(ak (0<=y)&&ak (y<(n:Int))&&o3 n (l.drop (i+1))):=by rw[sj h];rfl
def WA{s:Sl}{l:List Sp}(S:l.length<=100000)(N:∀q∈l,nK q)(A:En.sp s l∈D):∀(k i:Nat) (w:J) (L:List En),i+k=l.length->LH F0 w0 w L D->E=jB ((bA l).drop i) (i:Int)->
  pa.g1 s ((s.n:Nat):Int) (i:Int) w (h4 w0 E):=by
 intro k;induction k with
 |zero=>
  intro i w L K j e;have M:=(dX.1 (j.rd _ A)).n;rw[cU (by simp;omega)]at e;exact pa.jT _ _ _ _ _ (aZ (aW (by omega)) ⟨by rw[e];rfl,j.fr⟩)
 |succ k O=>
  intro i w L K j e;have G:=dX.1 (j.rd _ A);have M:=G.n;have y:l[i]? =some l[i]:=a4 (by omega);generalize l[i]=q at y;have H:=aD y;rw[Qz y]at e;refine pa.jT _ _ _ _ _ (a1 (aS (by omega)) ⟨by omega,by omega,G.get y λp h=>?_⟩);rw[bH];refine⟨_,_,_,_,_,_,_,h.c0,h.c1,h.c2,h.c3,h.c4,h.c5,h.c6,j.aG λQ U F=>aL (λx=>F.ah λV I=>⟨by rw[e,Xu x],I.fr⟩) λx=>F.ah λT B=>B.aw (Jx (d:=q) (N q H) ((dX.1 (B.rd _ A)).2 q H)) ?_⟩;rintro _ P rfl C;refine⟨_,rfl,di (λz=>⟨by rw[e,Xv x z],C.fr⟩) (λz=>?_)⟩;rw[bb _ (by omega)];exact O (i+1) P _ (by omega) C (by rw[e,J1 x z];rfl)
def Wz{b:Nat}(j:rL x)(B:ej x∈D)(K:E=gj x)(V:gw (xs x.gl)=0):∀(k i:Nat) (w:J) (L:List En),i+k=x.hy.length->En.g b∈L->LH F0 w0 w L D->o3 x.gl.length x.hy=o3 x.gl.length (x.hy.drop i)->
  pa.a2 b x.m.g x.m.h x.m.c x.m.s x.m.h ((x.m.h.n:Nat):Int) (i:Int) w (h4 w0 E):=by
 have W:=j.h;intro k;induction k with
 |zero=>
  intro i w L S M q e;have z:=n3.1 (q.rd _ B);have H:=bo.len z.2.1;rw[cU (by omega)]at e;have e:E=if gA x.cl≠0 then gA x.cl else jB (bA x.ds) 0:=by rw[K];unfold gj;rw[af (by omega),e];rfl
  refine pa.bw _ _ _ _ _ _ _ _ _ _ (aZ (aW (by omega)) (q.aw (Jw z.2.2.1 (by have:=j.c;omega)) ?_));rintro _ U rfl G;refine⟨_,rfl,di (λC=>⟨by rw[e,aq C],G.fr⟩) (λC=>?_)⟩;have O:=n3.1 (G.rd _ B);have aa:=O.2.2.2.n;have:=j.s;refine aZ (aW (by omega)) ?_;have N:=G.lH (.sp x.m.s x.ds::D) λe F=>?_
  .exact WA (by omega) j.d (D:=.sp x.m.s x.ds::D) (by simp) x.ds.length 0 U _ (by omega) N (by rw[e,af (by omega)];rfl)
  .rcases au.1 F with rfl|F
   .exact ⟨λA=>A (ej x) B (En.sp x.m.s x.ds) (by simp),λb j=>⟨ej x,B,cO.2 ⟨_,by simp,j⟩⟩⟩
   .exact ⟨λA=>A e F,λb j=>⟨e,F,j⟩⟩
 |succ k T=>
  intro i w L S M q e;have z:=n3.1 (q.rd _ B);have H:=bo.len z.2.1;have Z:=ih z.1;have I:x.hy[i]? =some x.hy[i]:=a4 (by omega);generalize x.hy[i]=y at I;rw[Wn I]at e;have bad:¬(0<=y/\y<(x.gl.length:Int))->h4 w0 E (ae (.i 7)) w:=λH=>by
   refine⟨?_,q.fr⟩;rw[K];unfold gj;rw[af (by omega),e];have:(ak (0<=y)&&ak (y<(x.gl.length:Int)))=false:=by
    cases A:(ak (0<=y)&&ak (y<(x.gl.length:Int)))with
    |false=>rfl
    |true=>simp only[bq,decide_eq_true_eq]at A;exact absurd A H
   rw[this];rfl
  refine pa.bw _ _ _ _ _ _ _ _ _ _ (a1 (aS (by omega)) ⟨by omega,by omega,bo.cell z.2.1 I (by rw[bH]) λp _ Q=>⟨y,Q,aF (λC=>bad (by omega)) λC=>aF (λP=>bad (by omega)) λP=>?_⟩⟩);rw[bb _ (by omega)];exact T (i+1) w L (by omega) M q (by rw[e,aS (by omega),aS (by omega)];rfl)
def XJ{l:List Nd}(h:∀d∈xs l,rG 3 d):∀d∈l,(oO d.x/\ff d.x)/\oM d.x:=λd e=>by have:=h d.x (bZ.2 ⟨d,e,rfl⟩);exact⟨⟨this.sp.tok (by omega),this.wd⟩,this.sp.Nv (by omega)⟩
def iA.k(d:iA 100 x):rL x:=⟨λe j=>(XJ d.g.2 e j).1,by have:=d.h.1;omega,by have:=d.c.1;omega,by have:=d.s.1;omega,λe j=>(d.s.2 e j).Qk⟩
def Wy(k:rL x){w:J}(h:uu w x)(z:b'.P w):ai Y LQ #[x.m.v] w (h4 w (gj x)):=by
 refine pa.aB _ _ _ _ w _ ((bI (w:=w) [ej x,b'] (by
  intro B q;simp only[au,aO,aR]at q;rcases q with rfl|rfl
  .exact n3.2 h
  .exact z)).aG λb C d=>?_)
 have y:=n3.1 (d.rd (ej x) (by simp));refine d.aw (E2 y.1 (d.rd b' (by simp)) λ_=>k.g) ?_;rintro _ A rfl j;refine⟨_,rfl,di (λe=>⟨by unfold gj;rw[aq e],j.fr⟩) (λe=>?_)⟩;exact Wz k (by simp) rfl e x.hy.length 0 A _ (by omega) (by simp) j rfl
end
structure l6(s:ct):Prop where
 k:a7 s.kind/\a7 s.node/\a7 s.du
 p:∀x∈s.params,a7 x
 l:∀x∈s.bY,a7 x
 h:∀x∈s.hints,a7 x
def u5(n:Int):1<=(bt n).length:=xU _
def mZ(l:List Int):l.length+1<=(cH l).length:=by
 have h:=xU l.length;have d:∀l:List Int,l.length<=(l.flatMap bt).length:=λl=>by
  induction l with
  |nil=>exact bm _
  |cons e l j=>
   have:=u5 e;rw[cV,bc,dE];omega
 have:=d l;unfold cH;rw[bc];omega
def nT(b:List UInt8):b.length+1<=(df b).length:=by have d:=xU b.length;unfold df;rw[bc];omega
def Qu(s:ct):7+s.params.length+s.bY.length+s.hints.length+s.nm.size<=(dP s).length:=by have e:=u5 s.kind;have h:=u5 s.node;have j:=u5 s.du;have k:=mZ s.params;have q:=mZ s.bY;have w:=mZ s.hints;have d:=nT (bl s.nm);rw[dH]at d;unfold dP;simp only[bc];omega
def QA(ss:List ct):7 *ss.length<=(ss.flatMap dP).length:=by
 induction ss with
 |nil=>exact bm _
 |cons a ss d=>
  have:=Qu a;rw[cV,bc,dE];omega
def e9(st:RS):ct×RS:=
 let e:=a3 st
 let n:=a3 e.2
 let r:=a3 n.2
 let p:=cI r.2
 let t:=bX p.2
 let l:=cI t.2
 let d:=cI l.2
 (⟨e.1,n.1,r.1,p.1,ba t.1,l.1,d.1⟩,d.2)
def fF:Nat->RS->List ct×RS
 |0,st=>([],st)
 |n+1,st=>((e9 st).1::(fF n (e9 st).2).1,(fF n (e9 st).2).2)
def dW(size:Nat)(st:RS):Option (List ct)×RS:=
 if(a3 st).1<0\/((size / 7:Nat):Int)<(a3 st).1 then(none,(a3 st).2)else(some (fF (a3 st).1.toNat (a3 st).2).1,(fF (a3 st).1.toNat (a3 st).2).2)
def Zi{s:ct}(W:l6 s)(x:(dP s).length<=1000000000000)(r:List UInt8):e9 ⟨dP s++r,0⟩=(s,⟨r,0⟩):=by
 have w:=Qu s;obtain⟨e,n,j,p,t,l,d⟩:=s;dsimp only at w;have q:dP ⟨e,n,j,p,t,l,d⟩++r=bt e++(bt n++(bt j++(cH p++(df (bl t)++(cH l++(cH d++r)))))):=by unfold dP;simp only[cp]
 unfold e9;rw[q];dsimp only;rw[kh _ W.k.1];dsimp only;rw[kh _ W.k.2.1];dsimp only;rw[kh _ W.k.2.2];dsimp only;rw[ti p (by omega) W.p];dsimp only;rw[y' (bl t) (by rw[dH];omega)];dsimp only;rw[ti l (by omega) W.l];dsimp only;rw[ti d (by omega) W.h,l8]
def OQ:∀{ss:List ct} (_:∀s∈ss,l6 s) (_:(ss.flatMap dP).length<=1000000000000) (r:List UInt8),fF ss.length ⟨ss.flatMap dP++r,0⟩=(ss,⟨r,0⟩)
 |[],_,_,r=>rfl
 |s::ss,W,h,r=>by rw[cV,bc]at h;rw[cV,cp,dE];unfold fF;rw[Zi (W s (by simp)) (by omega)];dsimp only;rw[OQ (λd e=>W d (by simp[e])) (by omega)]
def OT{ss:List ct}(W:∀s∈ss,l6 s){size:Nat}(d:(eg ss).length<=size)(k:size<=1000000000000)(r:List UInt8):dW size ⟨eg ss++r,0⟩=(some ss,⟨r,0⟩):=by
 have h:=QA ss;have j:(ss.flatMap dP).length<=size:=by unfold eg at d;rw[bc]at d;omega
 have e:a3 ⟨eg ss++r,0⟩=((ss.length:Int),⟨ss.flatMap dP++r,0⟩):=by unfold eg;rw[cp];exact kh _ ⟨by omega,by omega⟩ _
 unfold dW;rw[e];dsimp only;rw[af (by omega),bH,OQ W (by omega)]
def Zh{st:RS}(h:(e9 st).2.err=0):st.err=0/\st.U=dP (e9 st).1++(e9 st).2.U:=by obtain⟨E,x⟩:=th h;obtain⟨D,w⟩:=th E;obtain⟨C,q⟩:=y9 D;obtain⟨B,k⟩:=th C;obtain⟨A,j⟩:=kU B;obtain⟨z,e⟩:=kU A;obtain⟨y,d⟩:=kU z;refine⟨y,?_⟩;rw[d,e,j,k,q,w,x];unfold dP e9;simp only[cp,mS]
def OP:∀(n:Nat) {st:RS},(fF n st).2.err=0->st.err=0/\st.U=(fF n st).1.flatMap dP++(fF n st).2.U/\(fF n st).1.length=n
 |0,st,d=>⟨d,rfl,rfl⟩
 |n+1,st,d=>by obtain⟨e,h,q⟩:=OP n (st:=(e9 st).2) d;obtain⟨j,k⟩:=Zh e;refine⟨j,?_,by show(fF n (e9 st).2).1.length+1=n+1;omega⟩;show st.U=((e9 st).1::(fF n (e9 st).2).1).flatMap dP++(fF n (e9 st).2).2.U;rw[cV,cp,<-h];exact k
def OS{size:Nat}{st:RS}{ss:List ct}(d:(dW size st).1=some ss)(h:(dW size st).2.err=0):st.err=0/\st.U=eg ss++(dW size st).2.U:=by
 unfold dW at d h ⊢;split at d
 .cases d
 .rename_i x;rw[af x]at h ⊢;simp only[Option.some.injEq]at d;obtain⟨e,j,k⟩:=OP _ h;obtain⟨q,w⟩:=kU e;refine⟨q,?_⟩;unfold eg;rw[cp,<-d,k,<-j,Int.toNat_of_nonneg (by omega)];exact w
def Zj(st:RS):l6 (e9 st).1/\(e9 st).2.U.length<=st.U.length/\(e9 st).1.params.length<=st.U.length/\(e9 st).1.bY.length<=st.U.length/\(e9 st).1.hints.length<=st.U.length/\(e9 st).1.nm.size<=st.U.length:=by have d:=kj st;have e:=kj (a3 st).2;have s3:=kj (a3 (a3 st).2).2;have h:=tj (a3 (a3 (a3 st).2).2).2;have q:=tk (cI (a3 (a3 (a3 st).2).2).2).2;have j:=tj (bX (cI (a3 (a3 (a3 st).2).2).2).2).2;have k:=tj (cI (bX (cI (a3 (a3 (a3 st).2).2).2).2).2).2;unfold e9;dsimp only;exact⟨⟨⟨d.1,e.1,s3.1⟩,h.2.1,j.2.1,k.2.1⟩,by omega,by omega,by omega,by omega,by rw[cP];omega⟩
structure oN(n:Nat)(s:ct):Prop where
 i:l6 s
 p:s.params.length<=n
 l:s.bY.length<=n
 h:s.hints.length<=n
 t:s.nm.size<=n
def oN.le{n m:Nat}{s:ct}(h:oN n s)(d:n<=m):oN m s:=⟨h.i,a6 h.p d,a6 h.l d,a6 h.h d,a6 h.t d⟩
def OR:∀(n:Nat) (st:RS),(∀s∈(fF n st).1,oN st.U.length s)/\(fF n st).2.U.length<=st.U.length/\(fF n st).1.length=n
 |0,st=>⟨λs d=>(by cases d),bm _,rfl⟩
 |n+1,st=>by
  obtain⟨j,e,k,q,w,x⟩:=Zj st;obtain⟨y,z,A⟩:=OR n (e9 st).2;refine⟨λs d=>?_,a6 z e,by show(fF n (e9 st).2).1.length+1=n+1;omega⟩;rcases au.1 d with h|d
  .rw [h];exact⟨j,k,q,w,x⟩
  .exact (y s d).le e
def OU{size:Nat}{st:RS}{ss:List ct}(d:(dW size st).1=some ss):(∀s∈ss,oN st.U.length s)/\ss.length<=size:=by
 unfold dW at d;split at d
 .cases d
 .simp only[Option.some.injEq]at d;obtain⟨e,q,j⟩:=OR (a3 st).1.toNat (a3 st).2;have k:=(kj st).2;rw[d]at e j;exact⟨λs h=>(e s h).le k,by omega⟩
structure Lp where
 g:List Nx
 hy:List Int
 cl:List Int
 ss:List ct
def Lp.e:Lp:=⟨[],[],[],[]⟩
def Lx.p(x:Lx):Lp:=⟨xs x.gl,x.hy,x.cl,bA x.ds⟩
def sO(x:Lp):Int:=if gw x.g≠0 then gw x.g else if o3 x.g.length x.hy then if gA x.cl≠0 then gA x.cl else jB x.ss 0 else 7
def WV(x:Lx):gj x=sO x.p:=by
 have:(xs x.gl).length=x.gl.length:=by simp[xs]
 unfold gj sO Lx.p;dsimp only;rw[this]
def de(x:Lp):List UInt8:=df (eJ x.g)++(cH x.hy++(cH x.cl++eg x.ss))
def gF(U:List UInt8):Option Lp:=
 let r:=bX ⟨U,0⟩
 if(fB r.1).2≠0 then none else
 let d:=cI r.2
 let c:=cI d.2
 match(dW U.length c.2).1 with
 |some e=>if hU (dW U.length c.2).2=0 then some ⟨(fB r.1).1,d.1,c.1,e⟩else none
 |none=>none
def qF(U:List UInt8):RS:=(cI (cI (bX ⟨U,0⟩).2).2).2
def WY{U:List UInt8}(h:(fB (bX ⟨U,0⟩).1).2≠0):gF U=none:=by unfold gF;dsimp only;rw[aq h]
def W0{U:List UInt8}(h:(fB (bX ⟨U,0⟩).1).2=0):gF U=match(dW U.length (qF U)).1 with
  |some e=>if hU (dW U.length (qF U)).2=0 then some ⟨(fB (bX ⟨U,0⟩).1).1,(cI (bX ⟨U,0⟩).2).1,(cI (cI (bX ⟨U,0⟩).2).2).1,e⟩else none
  |none=>none:=by unfold gF qF;dsimp only;rw[af (λd=>d h)]
structure xa(x:Lp):Prop where
 g:∀d∈x.g,ff d
 n:x.g.length<=4096
 v:gw x.g=0
 h:∀y∈x.hy,a7 y
 c:∀y∈x.cl,a7 y
 s:∀s∈x.ss,l6 s
def WZ{x:Lp}(W:xa x)(q:(de x).length<=1000000000000):gF (de x)=some x:=by
 obtain⟨g,e,d,j⟩:=x;have w:de ⟨g,e,d,j⟩=df (eJ g)++(cH e++(cH d++(eg j++[]))):=by unfold de;rw[eP]
 have y:=q;unfold de at y;simp only[bc]at y;have B:=nT (eJ g);have C:=mZ e;have D:=mZ d;unfold gF;generalize k:de ⟨g,e,d,j⟩=b at q;have A:(eg j).length<=b.length:=by rw[<-k];unfold de;simp only[bc];omega
 rw[<-k,w];dsimp only;rw[y' _ (by omega)];dsimp only;rw[U8 W.g W.n W.v];dsimp only;rw[af (λz=>z rfl),ti e (by omega) W.h];dsimp only;rw[ti d (by omega) W.c];dsimp only;rw[<-w,k,OT W.s A q];rfl
def Oz{st:RS}(h:hU st=0):st.err=0/\st.U=[]:=by
 unfold hU at h;split at h
 .rename_i d;exact absurd h d
 .rename_i d;split at h
  .cases h
  .exact ⟨by simpa using d,List.eq_nil_of_length_eq_zero (by omega)⟩
def JM{U:List UInt8}{x:Lp}(h:gF U=some x):(fB (bX ⟨U,0⟩).1).2=0/\x.g=(fB (bX ⟨U,0⟩).1).1/\x.hy=(cI (bX ⟨U,0⟩).2).1/\x.cl=(cI (cI (bX ⟨U,0⟩).2).2).1/\
  (dW U.length (cI (cI (bX ⟨U,0⟩).2).2).2).1=some x.ss/\hU (dW U.length (cI (cI (bX ⟨U,0⟩).2).2).2).2=0:=by
 unfold gF at h;dsimp only at h;split at h
 .cases h
 .rename_i d;split at h
  .rename_i k j;split at h
   .rename_i e;cases h;exact⟨by simpa using d,rfl,rfl,rfl,j,e⟩
   .cases h
  .cases h
def WX{U:List UInt8}{x:Lp}(h:gF U=some x):de x=U/\gw x.g=0:=by obtain⟨C,e,D,E,F,G⟩:=JM h;obtain⟨A,B⟩:=Oz G;obtain⟨j,d⟩:=OS F A;obtain⟨k,q⟩:=th j;obtain⟨w,y⟩:=th k;obtain⟨K,z⟩:=y9 (st:=⟨U,0⟩) w;obtain⟨H,I⟩:=U7 C;refine⟨?_,by rw[e];exact I⟩;rw[B,eP]at d;unfold de;rw[e,D,E,H,<-d,<-q,<-y];exact z.symm
structure mN(n:Nat)(x:Lp):Prop where
 g:∀d∈x.g,ff d
 hl:x.hy.length<=n
 h:∀y∈x.hy,a7 y
 cl:x.cl.length<=n
 c:∀y∈x.cl,a7 y
 sl:x.ss.length<=n
 s:∀s∈x.ss,oN n s
def U6{U:List UInt8}(h:U.length<=1000000):∀e∈(fB U).1,ff e:=by
 intro e d;have j:=(kj ⟨U,0⟩).2;have ok:=OO (a3 ⟨U,0⟩).1.toNat (a3 ⟨U,0⟩).2 (a6 j h);unfold fB at d;split at d
 .cases d
 .split at d
  .cases d
  .split at d
   .cases d
   .exact (ok e d).1
def W2{U:List UInt8}{x:Lp}(C:U.length<=1000000)(h:gF U=some x):mN U.length x:=by obtain⟨A,k,d,e,q,B⟩:=JM h;have y:=tk ⟨U,0⟩;have z:=tj (bX ⟨U,0⟩).2;have s3:=tj (cI (bX ⟨U,0⟩).2).2;have j:=OU q;dsimp only at y;refine⟨?_,by rw[d];omega,by rw[d];exact z.2.1,by rw[e];omega,by rw[e];exact s3.2.1,j.2,λs w=>(j.1 s w).le (by omega)⟩;rw[k];exact U6 (by omega)
def _root_.Go.W.En.fa(rb:Nat)(st:RS)(fp:List Nat):En:=⟨jC fp,λe=>cW e rb st fp,λe z y j=>(by obtain⟨s,all,x,rfl,k,h,q⟩:=j;have w:∀b∈rb::ax s,z.heap[b]? =e.heap[b]?:=λb d=>y b (aM.2 d) (cW.lt ⟨s,all,x,rfl,k,h,q⟩ b d);exact⟨s,all,x,rfl,(w rb (by simp)).trans k,⟨h.1,h.2.cb λb d _=>w b (by simp[d])⟩,q⟩),λe j b d=>j.lt b (aM.1 d),n9 _⟩
def Ed(rb:Nat)(st:RS)(fp:List Nat)(w:J)(b:Nat):¬(En.fa rb st fp).P ({w with heap:=Array.replicate (b+1) (.map #[] 0)}):=by rintro⟨s,all,e,_,d,_⟩;simp[Array.getElem?_replicate]at d
section
variable {M:Nat->Prop} {w0 w:J} {L D:List En} {U:List Nat}
def _root_.Go.W.LH.rm(H:LH M w0 w L D)(i:Nat){rb:Nat}{st j:RS}{fp:List Nat}{v:aa}{g:cB}{args:Array aa}{K:aH}(V:L[i]? =some (.fa rb st fp))(k:cW w rb st fp->ai Y g args w (uy w rb fp v j))(q:∀d,LH M w0 d (L.set i (.fa rb j fp)) D->K (ae v) d)(bp:∀b∈U,En.g b∈L:=by simp):ee U Y g args w K:=by
 have h:cW w rb st fp:=H.get i V;refine⟨(·=rb),λb e x=>?_,(k h).mono λr d ⟨y,A,f⟩=>⟨f,?_⟩⟩
 .subst x;exact nY H V (Ed b st fp w) (bp b e) (aM.2 h.mem)
 .subst y;exact q d (H.gv i (.fa rb j fp) V (f.mono λB _ z=>aM.2 (by rw[z];exact h.mem)) A λb e=>.inl e)
def _root_.Go.W.LH.lQ(H:LH M w0 w L D)(i:Nat){rb:Nat}{st B:RS}{fp:List Nat}{e:TypeId}{vs:List aa}{g:cB}{args:Array aa}{K:aH}(V:L[i]? =some (.fa rb st fp))(F:cW w rb st fp->ai Y g args w (pY w rb fp e vs B))(G:∀s x,LH M w0 x (L.set i (.fa rb B fp)) (D++[.rd s vs])->(∀b∈ax s,w.heap.size<=b)->K (ae s.v) x)(bp:∀b∈U,En.g b∈L:=by simp):ee U Y g args w K:=by
 have q:cW w rb st fp:=H.get i V;refine⟨(·=rb),λb h I=>?_,(F q).mono λr x ⟨s,O,N,Q,f,E⟩=>⟨f,?_⟩⟩
 .subst I;exact nY H V (Ed b st fp w) (bp b h) (aM.2 q.mem)
 .subst O;have j:=H.gv i (.fa rb B fp) V (f.mono λab _ P=>aM.2 (by rw[P];exact q.mem)) Q λb h=>.inl h;refine G s x ⟨j.fr,j.own,λy d=>?_,j.new,j.nd,λy d b h z C A=>?_⟩ E
  .rcases aY.1 d with d|d
   .exact j.rd y d
   .simp at d;subst d;exact N.rd
  .rcases aY.1 d with d|d
   .exact j.dj y d b h z C A
   .simp at d;subst d;have S:w.heap.size<=b:=by
     have h:b∈(if vs=[]then[]else ax s):=h;split at h
     .cases h
     .exact E b h
    have T:b<w.heap.size:=by
     obtain⟨Z,k⟩:=g7.1 C;rw[List.getElem?_set]at k;split at k
     .split at k
      .cases k;exact q.lt b (aM.1 A)
      .cases k
     .exact z.lt w (H.own z (aD k)) b A
    omega
abbrev _root_.Go.W.En.by(s:Sl)(l:List UInt8):En:=.row cD 1 s (l.map W.bD)
def kc{w:J}{s:Sl}{l:List UInt8}(h:aK w cD 1 s (l.map W.bD)):eU w s l:=h.yW
def _root_.Go.W.LH.fy(H:LH M w0 w L D)(i:Nat){ty:TypeId}{s src:Sl}{l m:List UInt8}{K:Sl->J->Prop}(V:L[i]? =some (.by s l))(h:Bytes w src m)(y:l.length+m.length<=100000000000000)(q:∀e d,LH M w0 d (L.set i (.by e (l++m))) D->K e d)(bp:∀b∈U,En.g b∈L:=by simp):
  ∃e d,(Builtin.append_ #[c',c'] ty #[s.v,src.v]).run Y w=.ok e.v d/\kept U w d/\K e d:=by
 have x:=(kc (H.get i V)).1;have j:=h.1;simp only[List.length_map]at x j;refine H.dc i kH (ty:=ty) (src:=src) (news:=m.map W.bD) V ⟨by simp[j],h.2.1,h.2.2⟩ (W.xy _) (by omega) (λe d k=>q e d ?_) bp
 rwa[<-hv]at k
def _root_.Go.W.LH.h'(H:LH M w0 w L D){g:cB}{args:Array aa}{l:List UInt8}{K:aH}(e:ai Y g args w (hH w l))(h:∀s d,LH M w0 d L D->ui M w0 w d L D->eU d s l->(∀b∈ax s,w.heap.size<=b)->K (ae s.v) d):ee U Y g args w K:=
 gN (e.mono λr d ⟨s,q,k,f,j⟩=>⟨f,by subst q;exact h s d (H.br f) (H.fresh f) k j⟩)
def _root_.Go.W.LH.UC(H:LH M w0 w L D){g:cB}{args:Array aa}{l:List UInt8}{K:aH}(e:ai Y g args w (hH w l))(h:∀s d,LH M w0 d L D->ui M w0 w d L D->eU d s l->(∀b∈ax s,w.heap.size<=b)->K (ae s.v) d):ai Y g args w K:=
 e.mono λr d ⟨s,q,k,f,j⟩=>by subst q;exact h s d (H.br f) (H.fresh f) k j
def _root_.Go.W.LH.str(H:LH M w0 w L D)(t:ByteArray){K:Sl->J->Prop}(q:∀e d,LH M w0 d L D->Bytes d e (bl t)->K e d)(bp:∀b∈U,En.g b∈L:=by simp):
  ∃e d,(Go.convert fX c' (.string t)).run Y w=.ok e.v d/\kept U w d/\K e d:=by obtain⟨e,d,j,k,h,_⟩:=EX w t;exact⟨e,d,j,λb x=>h.cb b (H.own _ (bp b x)) id,q e d (H.br h) k⟩
end
def D6{w:J}{rb:Nat}{st:RS}{fp:List Nat}(h:cW w rb st fp):ai Y M4 #[.pointer (some (ab rb))] w (pY w rb fp cD ((bX st).1.map bD) (bX st).2):=by refine RK.ok _ w _ ((JV h).mono ?_);rintro r e ⟨s,rfl,d⟩;exact⟨s,rfl,s,rfl,d⟩
def l5(w:J)(rb:Nat)(fp:List Nat)(Q:ch->En->RS->Prop):aH:=λr d=>∃(e:En) (st:RS),Q r e st/\e.P d/\(∀b∈e.fp,w.heap.size<=b)/\cW d rb st fp/\Fr (·∈fp) w d
section
variable {M:Nat->Prop} {w0 w:J} {L D:List En} {U:List Nat}
def _root_.Go.W.LH.wi(H:LH M w0 w L D)(i:Nat){rb:Nat}{st:RS}{fp:List Nat}{Q:ch->En->RS->Prop}{g:cB}{args:Array aa}{K:aH}(V:L[i]? =some (.fa rb st fp))(G:cW w rb st fp->ai Y g args w (l5 w rb fp Q))(I:∀r k q x,Q r k q->LH M w0 x (L.set i (.fa rb q fp)) (D++[k])->(∀b∈k.fp,w.heap.size<=b)->K r x)(bp:∀b∈U,En.g b∈L:=by simp):ee U Y g args w K:=by
 have E:cW w rb st fp:=H.get i V;refine⟨(·∈fp),λb h N=>?_,(G E).mono λr x ⟨k,q,P,F,C,S,f⟩=>⟨f,?_⟩⟩
 .exact nY H V (Ed rb st fp w) (bp b h) (aM.2 N)
 .have e:=H.gv i (.fa rb q fp) V (f.mono λac _ O=>aM.2 O) S λb h=>.inl h;refine I r k q x P ⟨e.fr,e.own,λy d=>?_,e.new,e.nd,λy d b h z B A=>?_⟩ C
  .rcases aY.1 d with d|d
   .exact e.rd y d
   .simp at d;subst d;exact F
  .rcases aY.1 d with d|d
   .exact e.dj y d b h z B A
   .simp at d;subst d;have T:=C b h;have Z:b<w.heap.size:=by
     obtain⟨ab,j⟩:=g7.1 B;rw[List.getElem?_set]at j;split at j
     .split at j
      .cases j;exact E.lt b (aM.1 A)
      .cases j
     .exact z.lt w (H.own z (aD j)) b A
    omega
end
def CC{w:J}{rb:Nat}{st:RS}{fp:List Nat}{D:List En}(h:cW w rb st fp)(k:∀d∈D,d.P w/\∀b∈d.fp,b∉fp):LH (·∈fp) w w [.fa rb st fp] D:=
 ⟨Fr.refl _ _,λd e=>by rw[bT.1 e];exact h,λd e=>(k d e).1,λd e b j=>by
  rw[bT.1 e]at j;exact .inr (aM.1 j),by simp only[cV,List.flatMap_nil,eP];exact(En.fa rb st fp).nd,λd e b j y x q=>by rw[bT.1 x]at q;exact(k d e).2 b j (aM.1 q)⟩
def JU{w:J}{rb:Nat}{st:RS}{fp:List Nat}(h:cW w rb st fp):LH (·∈fp) w w [.fa rb st fp] []:=CC h λe d=>by cases d
set_option maxHeartbeats 2000000
namespace wH
noncomputable abbrev t0:=az Y Tryz.f69 [(8,ls [0,1,2,4,6,8,10,12,14,16,18,3,5,7,9,11,13,15,17,19,20,21,22,23,24,25])] [2,6]
abbrev P0:Ps:=[(2,.l [.s] zK)]
noncomputable abbrev bn:=av t0 [0,1,1,1,3] P0
noncomputable abbrev t1:=ay bn
noncomputable def cm:=bf t1 [0,1,1,1,5] [(2,.l [.s] zK),(4,.v [.p]),(6,.l [.s] zK),(18,.v [.I]),(19,.v [.I])]
noncomputable abbrev t2:=be cm
noncomputable abbrev bV:=av t2 [0,1,1,1,6] P0
noncomputable abbrev t3:=ay bV
def dB:=bg t3 cm
def aB:=aA t3 MD [.s]
end wH
def _root_.Go.W.LH.Po{M:Nat->Prop}{w0 w:J}{L D:List En}(H:LH M w0 w L D)(e:List En)(j:∀d∈e,d.P w)(k:∀d∈e,∀b∈d.fp,∃h∈D,b∈h.fp):LH M w0 w L e:=
 ⟨H.fr,H.own,j,H.new,H.nd,λd y b q h z=>by obtain⟨g,A,x⟩:=k d y b q;exact H.dj g A b x h z⟩
def ff.tok{d:Nx}(W:ff d):oO d:=⟨W.kl,W.n,W.m,W.u.1,λ_=>Ny d.tx⟩
def Ao(g:List Nx)(e:Int)(w:J)(r:ch)(w':J):Prop:=∃(t:Sl) (l:List Nd),r=ae (.tuple #[.agg #[t.v],.i e])/\xs l=g/\GP w' t l/\∀b∈(En.gr t l).fp,w.heap.size<=b
abbrev IS(s:Sl)(l:List Nd):En:=.row cA 9 s (l.flatMap Nd.c)
def aaK{w:J}{s:Sl}{U:List UInt8}(h:Bytes w s U)(hl:U.length<=1000000)(S:b'.P w):
  ai Y MD #[s.v] w λr w'=>Ao (fB U).1 (fB U).2 w r w'/\ag w w':=by
 have bad:∀{w':J},fB U=([],2)->ag w w'->Ao (fB U).1 (fB U).2 w (ae (.tuple #[.agg #[.slice none 0 0],.i 2])) w'/\ag w w':=λG f=>by
  rw[G];exact⟨⟨⟨none,0,0⟩,[],rfl,rfl,⟨bx.nil 9 _,by simp⟩,λb e=>by
   rcases m6.1 e with e|⟨d,k,_⟩
   .cases e
   .cases k⟩,f⟩
 obtain⟨B,hN⟩:∃B,B=(a3 ⟨U,0⟩).1:=⟨_,rfl⟩;obtain⟨T,ad⟩:∃st,st=(a3 ⟨U,0⟩).2:=⟨_,rfl⟩;have dec:∀(g:List Nx) (st:RS),¬(B<0\/4096<B)->fT B.toNat T=(g,st)->fB U=if hU st≠0 then([],2)else if gw g≠0 then([],2)else(g,0):=λg st V Z=>by unfold fB;rw[<-hN,<-ad,af V,Z]
 have az:T.U.length<=1000000:=by have:=(kj ⟨U,0⟩).2;rw[<-ad]at this;exact a6 this hl
 have loop:∀(d j:Nat) (F:Sl) (l:List Nd) (st:RS) (D E rb:Nat) (fp:List Nat) (H:J),¬(B<0\/4096<B)->j+d=B.toNat->fT B.toNat T=(xs l++(fT d st).1,(fT d st).2)->l.length=j->st.U.length<=1000000->(∀y∈l,∀b∈(cY y).fp,w.heap.size<=b)->(∀y∈l,ff y.x)->
   LH F0 w H [.g D,.fa rb st fp,.g E,IS F l] [b',.all (l.map cY)]->
   wH.cm D ⟨none,0,0⟩ (some (ab rb)) E F B (j:Int) H λr w'=>Ao (fB U).1 (fB U).2 w r w'/\ag w w':=by
  intro d;have ac:∀{H:J} {F:Sl} {l:List Nd} {st:RS} {D E rb:Nat} {fp:List Nat},LH F0 w H [.g D,.fa rb st fp,.g E,IS F l] [b',.all (l.map cY)]->GP H F l:=by intro H F l st D E rb fp I;have S:∀y∈l.map cY,y.P H:=I.getD 1;exact⟨aK.bd (I.get 3),λd k=>S (cY d) (bZ.2 ⟨d,k,rfl⟩)⟩
  induction d with
  |zero=>
   intro j F l st D E rb fp H Q hj G hm sm hf hw I;have q:fT B.toNat T=(xs l,st):=by rw[G];simp[fT]
   have dec:=dec _ _ Q q;refine wH.dB _ _ _ _ _ _ _ _ _ (aZ (aW (by omega)) (I.aw (D5 (I.get 1)) ?_));rintro _ w2 rfl K;refine⟨_,rfl,di (λe=>K.ah λw3 C=>bad (by rw[dec,aq e]) C.fr) (λe=>K.aw (E2 (ac K) (K.getD 0) (λ_ d k=>⟨(hw d k).tok,hw d k⟩)) ?_)⟩;rintro _ w3 rfl C;refine⟨_,rfl,di (λaj=>C.ah λN A=>bad (by rw[dec,af (by simpa using e),aq aj]) A.fr) (λaj=>C.ah λN A=>⟨?_,A.fr⟩)⟩;rw[dec,af (by simpa using e),af (by simpa using aj)];refine⟨F,l,rfl,rfl,ac A,λb e=>?_⟩;rcases m6.1 e with e|⟨d,k,e⟩
   .exact qV (λb e=>(A.new _ (aD (i:=3) rfl) b e).resolve_right id) b e
   .exact hf d k b e
  |succ d av=>
   intro j F l st D E rb fp H Q hj G hm sm hf hw I;refine wH.dB _ _ _ _ _ _ _ _ _ (a1 (aS (by omega)) (I.ah λw2 K=>?_));refine K.rm 1 rfl (λz=>kg z) λw3 C=>⟨_,rfl,?_⟩;refine C.lQ 1 rfl (λz=>oh z) λL N A ar=>⟨_,rfl,?_⟩;refine A.rm 1 rfl (λz=>kg z) λw5 H5=>⟨_,rfl,?_⟩;refine H5.rm 1 rfl (λz=>kg z) λw6 H6=>⟨_,rfl,?_⟩;refine H6.rm 1 rfl (λz=>y7 z) λw7 H7=>⟨_,rfl,?_⟩;refine H7.rm 1 rfl (λz=>Y9 z) λw8 H8=>⟨_,rfl,?_⟩;refine H8.rm 1 rfl (λz=>kg z) λw9 H9=>⟨_,rfl,?_⟩;refine H9.rm 1 rfl (λz=>kg z) λaC am=>⟨_,rfl,?_⟩;refine am.rm 1 rfl (λz=>kg z) λaE an=>⟨_,rfl,?_⟩;have hn:F.n=l.length:=ih (ac I);refine an.h7 3 mX rfl (λal aH ao=>ao.ah λaa ap=>?_) (by omega);rw[bb _ (by omega)];obtain⟨o1,o2,_,_⟩:=OL st sm;have O:LH F0 w aa [.g D,.fa rb (eR st).2 fp,.g E,.row cA 9 al (l.flatMap Nd.c++Nd.c ⟨(eR st).1,L⟩)] [b',.all (l.map cY),cY ⟨(eR st).1,L⟩]:=ap;have el:l.flatMap Nd.c++Nd.c ⟨(eR st).1,L⟩=(l++[(⟨(eR st).1,L⟩:Nd)]).flatMap Nd.c:=by simp
   rw[el]at O;refine av (j+1) al (l++[⟨(eR st).1,L⟩]) (eR st).2 D E rb fp aa Q (by omega) ?_ (by simp[hm]) (by omega) ?_ ?_ ?_
   .rw [G];simp[xs,fT]
   .intro y q b e;rcases aY.1 q with q|q
    .exact hf y q b e
    .simp at q;subst q;have e:b∈(if(List.map a' (eR st).1.kids)=[]then[]else ax L):=e;split at e
     .cases e
     .exact a6 C.fr.size (ar b e)
   .intro y q;rcases aY.1 q with q|q
    .exact hw y q
    .simp at q;subst q;exact o1
   .have k1:∀y∈(l++[⟨(eR st).1,L⟩]:List Nd).map cY,y.P aa:=λy q=>by
     rw[hv]at q;rcases aY.1 q with q|q
     .have S:∀y∈l.map cY,y.P aa:=O.getD 1;exact S y q
     .simp at q;subst q;exact O.getD 2
    refine O.Po _ (λd k=>?_) (λd k b e=>?_)
    .rcases au.1 k with y|k
     .rw [y];exact O.getD 0
     .simp only[au,aO,aR]at k;subst k;exact k1
    .rcases au.1 k with y|k
     .exact ⟨b',by simp,by rw[y]at e;exact e⟩
     .simp only[au,aO,aR]at k;subst k;unfold En.all at e;obtain⟨aA,M,e⟩:=bS.1 (aM.1 e);rw[hv]at M;rcases aY.1 M with M|M
      .exact ⟨.all (l.map cY),by simp,by unfold En.all;exact aM.2 (bS.2 ⟨aA,M,e⟩)⟩
      .simp only[List.map_cons,List.map_nil,au,aO,aR]at M;rw[M]at e;exact⟨cY ⟨(eR st).1,L⟩,by simp,e⟩
 have H0:LH F0 w w [] [.rd s (U.map W.bD),b']:=bI _ (by
  intro y G;simp only[au,aO,aR]at G;rcases G with rfl|rfl
  .exact h
  .exact S)
 refine wH.aB _ w _ (H0.aG λD H H1=>gN ((D7 (H1.getD 0) (by omega)).mono ?_));rintro _ w2 ⟨rb,fp,rfl,ay,f,nf⟩;have K:=H1.push (.fa rb ⟨U,0⟩ fp) f ay (λb e=>nf b (aM.1 e));refine⟨f,some (ab rb),rfl,?_⟩;refine K.rm 1 rfl (λz=>kg z) λw3 C=>⟨_,rfl,?_⟩;rw[<-hN];rw[<-ad]at C;have ak:B<0\/4096<B->fB U=([],2):=λQ=>by unfold fB;rw[<-hN,aq Q]
 refine aF (λV=>C.ah λN A=>bad (ak (.inl V)) A.fr) (λV=>aF (λZ=>C.ah λN A=>bad (ak (.inr Z)) A.fr) (λZ=>C.aG λE N A=>?_));exact loop B.toNat 0 ⟨none,0,0⟩ [] T D E rb fp N (by omega) (by omega) (by simp) rfl az (by simp) (by simp) ((A.hR cA 9).Po _ (λd k=>by
  simp only[au,aO,aR]at k;rcases k with rfl|rfl
  .exact A.getD 1
  .intro y G;cases G) (λd k b e=>by
  simp only[au,aO,aR]at k;rcases k with rfl|rfl
  .exact ⟨b',by simp,e⟩
  .cases e))
def RD:∀{r g:List Nx},Vg (g++r)->oD g r=0
 |[],_,_=>rfl
 |n::r,g,d=>by
  have j:(g++n::r)[g.length]? =some n:=by simp
  have e:=d.ok _ _ j;have h:=Fz d _ _ j;rw[List.take_left]at e h;rw[RC,e,af (λd=>d rfl),af (λd=>d rfl),af h];exact RD (by rw[cp];exact d)
def RE{g:List Nx}(h:Vg g)(d:g.length<=4096):gw g=0:=by unfold gw;rw[af (by omega)];exact RD (by rwa[List.nil_append])
structure Sb(g:List Nx):Prop where
 w:∀d∈g,ff d
 n:∀d∈g,oM d
 z:∀d∈g,(dq d).length<=1000000
def X2{g:List Nx}{d:Nx}(h:d∈g):(dq d).length<=(eJ g).length:=by
 have:(dq d).length<=(g.flatMap dq).length:=by
  induction g with
  |nil=>cases h
  |cons a g j=>
   rw[cV,bc];rcases au.1 h with e|h
   .subst e;omega
   .have:=j h;omega
 unfold eJ;rw[bc];omega
def X6{n:Nx}(W:ff n)(A:n.kids.length<=3)(B:n.tx.size<=100):(dq n).length<=300:=by have e:=cR _ W.op;have h:=kL _ W.ks;have j:=cR _ W.n;have k:=cR _ W.m;have q:=ei n.u.toNat (by have:=W.u;omega);have w:=cR _ W.sk;have x:=cR _ W.sn;have y:=cR _ W.sx;have z:=ei n.kids.length (by omega);have d:=ei (bl n.tx).length (by rw[dH];omega);have C:=dH n.tx;unfold dq cH df;simp only[bc];omega
def h0.Wf{g:List Nx}(h:h0 g)(x:g.length<=1000):Sb g/\(eJ g).length<=10+300 *g.length/\gw g=0:=by
 have j:=h.gd x;have A:∀d∈g,d.tx.size<=100:=λd e=>by
  have q:=h.nd d e;by_cases k:d.op=33
  .obtain ⟨y,w⟩:=q.re k;rw[w,cP];have:=Ri y;omega
  .have:=q.tx k;omega
 refine⟨⟨λd e=>(j d e).wd,λd e=>(j d e).sp.Nv (by omega),λd e=>(j d e).small (by omega)⟩,?_,RE h.vg (by omega)⟩;have B:=yJ (z:=300) (g:=g) λd e=>X6 (j d e).wd (h.nd d e).kl (A d e);have C:=cR (g.length:Int) ⟨by omega,by omega⟩;unfold eJ;rw[bc];omega
def kB(w:J)(s:Sl)(l:List Lx):Prop:=bx 4 w s ((l.map Lx.m).flatMap Lm.cs)/\∀d∈l,uu w d
def kO(s:Sl)(l:List Lx):En:=.all (.bd 4 s ((l.map Lx.m).flatMap Lm.cs)::l.map ej)
def jA{w:J}{s:Sl}{l:List Lx}:(kO s l).P w↔kB w s l:=by
 constructor
 .exact λd=>⟨d (.bd 4 s ((l.map Lx.m).flatMap Lm.cs)) (by simp),λe j=>n3.1 (d (ej e) (List.mem_cons_of_mem _ (bZ.2 ⟨e,j,rfl⟩)))⟩
 .intro d k h;rcases au.1 h with rfl|h
  .exact d.1
  .obtain ⟨e,j,rfl⟩:=bZ.1 h;exact n3.2 (d.2 e j)
def kB.n{w:J}{s:Sl}{l:List Lx}(h:kB w s l):s.n=l.length:=by have d:((l.map Lx.m).flatMap Lm.cs).length=s.n *4:=h.1.1;rw[Lm.len,List.length_map]at d;omega
structure Lm.fH(w:J)(p:Addr)(i:Nat)(x:Lm):Prop where
 c0:w.cell? ((p.add (i *4)).add 0)=some x.g.v
 c1:w.cell? ((p.add (i *4)).add 1)=some x.h.v
 c2:w.cell? ((p.add (i *4)).add 2)=some x.c.v
 c3:w.cell? ((p.add (i *4)).add 3)=some x.s.v
def kB.again{w:J}{s:Sl}{l:List Lx}(h:kB w s l){i:Nat}{x:Lx}(V:l[i]? =some x):∃p,s.a=some p/\Lm.fH w p i x.m:=by
 have e:(l.map Lx.m)[i]? =some x.m:=by rw[List.getElem?_map,V];rfl
 have q:=(cz.1 e).1;have:=eV.elem (f:=Lm.cs) (sz:=4) (s:=s) (w:=w) (λ_=>rfl) (by decide) h.1.2.2 e (K:=λp=>s.a=some p/\Lm.fH w p i x.m) λp k d=>⟨k,d 0 _ rfl,d 1 _ rfl,d 2 _ rfl,d 3 _ rfl⟩;obtain⟨p,_,j⟩:=yS this;exact⟨p,j⟩
def kB.get{w:J}{s:Sl}{l:List Lx}(h:kB w s l){i:Nat}{x:Lx}(V:l[i]? =some x){K:Addr->Prop}(j:∀p,s.a=some p->Lm.fH w p i x.m->K p):dM s.a K:=by obtain⟨p,d,e⟩:=h.again V;rw[d];exact j p d e
def i3:List Lx->Int
 |[]=>0
 |d::r=>if gj d≠0 then gj d else i3 r
def lK(ls:List Lx)(ss:List ct):Int:=if i3 ls≠0 then i3 ls else ot ss 0 (ls.length:Int)
def F2(n:Nat)(l:List Lx):Prop:=l.length<=n/\∀d∈l,iA n d
def Az(l:List Lx):Prop:=l.length<=4096/\∀d∈l,rL d
def FP(l:List Sp):Prop:=l.length<=1000000/\∀d∈l,nK d
section
variable {w0:J} {s t:Sl} {l:List Lx} {ds:List Sp} {b:Nat} {E:Int} {D:List En}
def JQ{i:Nat}{x:Lx}(V:l[i]? =some x):l.drop i=x::l.drop (i+1):=by obtain⟨e,d⟩:=cz.1 V;rw[<-d];exact List.drop_eq_getElem_cons e
def CA{x:Lx}{r:List Lx}(h:gj x≠0):i3 (x::r)=gj x:=by
 conv=>lhs;unfold i3
 rw[aq h]
def yj{x:Lx}{r:List Lx}(h:gj x=0):i3 (x::r)=i3 r:=by
 conv=>lhs;unfold i3
 rw[af (by omega)]
def Wx(G:Az l)(H:FP ds)(A:kO s l∈D)(O:En.sp t ds∈D)(N:b'∈D)(F:E=lK l (bA ds)):∀(k i:Nat) (w:J) (L:List En),i+k=l.length->En.g b∈L->LH F0 w0 w L D->i3 l=i3 (l.drop i)->
  nh.cm b s t s ((s.n:Nat):Int) (i:Int) w (h4 w0 E):=by
 have U:=G.1;intro k;induction k with
 |zero=>
  intro i w L P h e d;have K:=(jA.1 (e.rd _ A)).n;rw[cU (by omega)]at d;refine nh.dB _ _ _ _ _ _ _ _ (aZ (aW (by omega)) ?_);refine Jy (by have:=H.1;omega) H.2 O ds.length 0 w L (by omega) h e ?_;rw[F,List.drop_zero,K];unfold lK;rw[d];rfl
 |succ k Q=>
  intro i w L P h e d;have C:=jA.1 (e.rd _ A);have K:=C.n;have y:l[i]? =some l[i]:=a4 (by omega);generalize l[i]=x at y;have I:=aD y;rw[JQ y]at d;refine nh.dB _ _ _ _ _ _ _ _ (a1 (aS (by omega)) ⟨by omega,by omega,C.get y λp _ q=>?_⟩);rw[bH];refine⟨_,_,_,_,q.c0,q.c1,q.c2,q.c3,e.aG (λT V M=>M.ah (λW z=>z.aw (Wy (G.2 x I) ((jA.1 (z.rd _ A)).2 x I) (z.rd _ N)) ?_) (by simp[h])) (by simp[h])⟩;rintro _ S rfl B;refine⟨_,rfl,di (λj=>⟨?_,B.fr⟩) (λj=>?_)⟩
  .rw [F];unfold lK;rw[d,CA j,aq j]
  .rw [bb _ (by omega)];exact Q (i+1) S _ (by omega) (by simp[h]) B (by rw[d,yj j])
def Jv(d:Az l)(e:FP ds){w:J}(h:kB w s l)(k:f' w t ds)(x:b'.P w):ai Y CX #[.agg #[s.v,t.v]] w (h4 w (lK l (bA ds))):=by
 have D:=h.n;have C:=k.n;have A:=d.1;have B:=e.1;refine nh.aB _ _ w _ ((bI (w:=w) [kO s l,.sp t ds,b'] (by
  intro z j;simp only[au,aO,aR]at j;rcases j with rfl|rfl|rfl
  .exact jA.2 h
  .exact dX.2 k
  .exact x)).aG λb y q=>aZ (aW (by omega)) (aZ (aW (by omega)) ?_))
 exact Wx d e (by simp) (by simp) (by simp) rfl l.length 0 y _ (by omega) (by simp) q rfl
end
namespace v3
noncomputable abbrev t0:=az Y Tryz.f22 [] [5]
noncomputable def a2:=bf t0 [0,1,2] [(0,.v [.r]),(10,.v [.s]),(11,.v [.I]),(12,.v [.I])]
noncomputable abbrev t1:=be a2
def bw:=bg t1 a2
def aB:=aA t1 LS [.r,.s]
end v3
namespace N'
noncomputable abbrev t0:=az Y Tryz.f21 [] [1]
def aB:=aA t0 LI [.a 4,.s,.s,.s,.s]
end N'
namespace vY
noncomputable abbrev t0:=az Y Tryz.f5 [] [1,7]
noncomputable def a2:=bf t0 [0,1,1,1,4] [(1,.l [.s,.s] e3),(5,.v [.r]),(18,.v [.s]),(19,.v [.I]),(20,.v [.I])]
noncomputable abbrev t1:=be a2
def bw:=bg t1 a2
def aB:=aA t1 LA [.a 2,.s,.s]
end vY
namespace Oa
noncomputable abbrev t0:=az Y Tryz.f24 [] [2]
def aB:=aA t0 LK [.s]
end Oa
namespace Ob
noncomputable abbrev t0:=az Y Tryz.f71 [] [1,2,3]
def aB:=aA t0 LN [.a 2,.p,.I]
end Ob
namespace ta
noncomputable abbrev t0:=az Y Tryz.f45 [] [1]
noncomputable abbrev bn:=av t0 [0,1,1,1,2] []
noncomputable abbrev t1:=ay bn
noncomputable def cm:=bf t1 [0,1,1,1,4] [(1,.l [.p,.I] Fh),(5,.v [.s]),(20,.v [.I]),(21,.v [.I])]
noncomputable abbrev t2:=be cm
def dB:=bg t2 cm
def aB:=aA t2 LO [.a 2,.p,.I]
end ta
namespace DW
noncomputable abbrev t0:=az Y Tryz.f44 [(4,(.sq [0,1,2,3,5,6] (.fork (.sq [4] (.fork (ls [7,8,9,10]) (ls [9,7,8,10]))) (ls [9,4,7,8,10])))),(7,ls [0,1,2,3,4,5,6,7,8,9])] [1,2,4,6]
noncomputable abbrev bn:=av t0 [4] [(1,.l [.p,.I] Fh),(2,.l [.s,.s,.s,.s] g9),(6,.l [.s,.s,.s,.s] g9)]
noncomputable abbrev t1:=ay bn
def aB:=aA t1 LL [.a 2,.p,.I]
end DW
namespace vZ
noncomputable abbrev t0:=az Y Tryz.f25 [(14,ls [0,1,2,3,4,5,6,7,8,9])] [1,2,5,6]
noncomputable abbrev bn:=av t0 [0,1,1,1,2] [(2,.l [.s,.s] e3)]
noncomputable abbrev t1:=ay bn
noncomputable def cm:=bf t1 [0,1,1,1,4] [(1,.l [.p,.I] Fh),(2,.l [.s,.s] e3),(5,.l [.s,.s] e3),(20,.v [.I]),(21,.v [.I])]
noncomputable abbrev t2:=be cm
def dB:=bg t2 cm
def aB:=aA t2 LM [.a 2,.p,.I]
end vZ
namespace N9
noncomputable abbrev t0:=az Y Tryz.f6 [] [2,4]
noncomputable abbrev bn:=av t0 [0,1,1,1,2] [(2,.l [.s,.s] e3)]
noncomputable abbrev t1:=ay bn
def aB:=aA t1 Lz [.s]
end N9
section
variable {M:Nat->Prop} {w0 w:J} {L D:List En} {U:List Nat}
def _root_.Go.W.LH.CJ(H:LH M w0 w L D){P:Program}{t e:TypeId}{z:aa}{sz bytes:Nat}(h:g0 P t e z sz bytes)(n:Nat)(d:n *bytes<=140737488355328){K:Sl->J->Prop}(y:∀s w',s.n=0->LH M w0 w' (L++[.row e sz s []]) D->K s w')(bp:∀b∈U,En.g b∈L:=by simp):
  ∃(s:Sl) (w':J),Sem.run P (Instr.makeSlice t (.i 0) (.i (n:Int))) w=.ok s.v w'/\kept U w w'/\K s w':=by
 obtain⟨i,B,E,C,A⟩:=info_parts h.V;have F:n<=140737488355328:=by have:=Nat.le_mul_of_pos_right n h.hb;omega
 obtain⟨w',k,q,x⟩:=run_make_own (P:=P) w 0 t e i z sz h.ht B E C .i64 .i64 n (by rw[A,Nat.mul_comm];omega) (by unfold maxLen;omega) (dv _);have f:ag w w':=Fr.grown x λ_ j=>by cases j
 exact⟨⟨some (ab w.heap.size),0,n⟩,w',k,λb d=>f.cb b (H.own _ (bp b d)) id,y _ w' rfl (H.YT f q (by intro b d;simp[ax]at d;omega))⟩
end
def tG(d:Sp):En:=.all [d.pE,d.lE,d.hE]
def YE{w:J}{rb:Nat}{st:RS}{fp:List Nat}{size:Int}(h:cW w rb st fp):ai Y LN #[.agg #[.pointer (some (ab rb)),.i size]] w (l5 w rb fp λr y V=>V=(e9 st).2/\∃q:Sp,r=ae q.v/\q.x=(e9 st).1/\y=tG q):=by
 refine Ob.aB _ _ w _ ((JU h).aG λZ w1 D=>D.aG λb2 w2 I=>I.aG λb3 w3 K=>?_);refine K.rm 0 rfl (λd=>kg d) λw4 L=>⟨_,rfl,L.ah λw5 M=>?_⟩;refine M.rm 0 rfl (λd=>kg d) λw6 N=>⟨_,rfl,N.ah λw7 O=>?_⟩;refine O.rm 0 rfl (λd=>kg d) λw8 P=>⟨_,rfl,P.ah λw9 C=>?_⟩;refine C.lQ 0 rfl (λd=>oh d) λp aa E S=>⟨_,rfl,E.ah λac F=>?_⟩;refine F.lQ 0 rfl (λd=>D6 d) λt W z _=>⟨_,rfl,_,ma (show Bytes W t _ from z.getD 1),z.ah λad A=>?_⟩;refine A.lQ 0 rfl (λd=>oh d) λl af G Q=>⟨_,rfl,G.ah λag B=>?_⟩;refine B.lQ 0 rfl (λd=>oh d) λU aj H T=>⟨_,rfl,H.ah λak e=>?_⟩;refine⟨tG ⟨(e9 st).1,p,l,U⟩,_,⟨rfl,_,rfl,rfl,rfl⟩,λy k=>?_,λb j=>?_,e.get 0,e.fr⟩
 .simp only[au,aO,aR]at k;rcases k with rfl|rfl|rfl
  .exact e.getD 0
  .exact e.getD 2
  .exact e.getD 3
 .obtain ⟨y,k,j⟩:=cO.1 j;simp only[au,aO,aR]at k;rcases k with rfl|rfl|rfl
  .exact a6 C.fr.size (gU S b j)
  .exact a6 A.fr.size (gU Q b j)
  .exact a6 B.fr.size (gU T b j)
def NV{w:J}{rb:Nat}{st:RS}{fp:List Nat}{size:Nat}(hs:size<=1000000)(h:cW w rb st fp):ai Y LO #[.agg #[.pointer (some (ab rb)),.i (size:Int)]] w (l5 w rb fp λr e D=>D=(dW size st).2/\∃(s:Sl) (ds:List Sp),r=ae (.tuple #[s.v,.bool (dW size st).1.isSome])/\bA ds=(dW size st).1.getD []/\e=.sp s ds):=by
 obtain⟨x,K⟩:∃x,x=(a3 st).1:=⟨_,rfl⟩;obtain⟨A,N⟩:∃D,D=(a3 st).2:=⟨_,rfl⟩;have e7:aj .i64 (bL (size:Int) 7)=((size / 7:Nat):Int):=by rw[show bL (size:Int) 7=((size / 7:Nat):Int)from rfl];exact aQ _ (by omega)
 refine ta.aB _ _ w _ ((JU h).aG λI w1 W=>W.rm 0 rfl (λM=>kg M) λw2 F=>⟨_,rfl,?_⟩);rw[e7,<-K];rw[<-N]at F;have bad:x<0\/((size / 7:Nat):Int)<x->ta.bn w2 (l5 w rb fp λr e D=>D=(dW size st).2/\∃(s:Sl) (ds:List Sp),r=ae (.tuple #[s.v,.bool (dW size st).1.isSome])/\bA ds=(dW size st).1.getD []/\e=.sp s ds):=λhc=>by
  have e:dW size st=(none,A):=by unfold dW;rw[<-K,<-N,aq hc]
  rw[e];refine⟨.sp ⟨none,0,0⟩ [],A,⟨rfl,⟨none,0,0⟩,[],rfl,rfl,rfl⟩,λe d=>?_,λb q=>?_,F.get 0,F.fr⟩
  .rw [bT.1 d];exact bx.nil 7 _
  .obtain ⟨e,d,q⟩:=cO.1 q;rw[bT.1 d]at q;cases q
 refine aF (λS=>bad (.inl S)) λS=>aF (λE=>bad (.inr E)) λE=>?_;have Q:x=((x.toNat:Nat):Int):=by omega
 have aa:dW size st=(some (fF x.toNat A).1,(fF x.toNat A).2):=by unfold dW;rw[<-K,<-N,af (by omega)]
 rw[aa];have loop:∀(k i:Nat) (s:Sl) (ds:List Sp) (B:RS) (v:J),i+k=x.toNat->ds.length=i->(fF x.toNat A)=(bA ds++(fF k B).1,(fF k B).2)->LH (·∈fp) w v [.fa rb B fp,.g I,.row e4 7 s (ds.flatMap Sp.c)] [cu ds]->(∀b∈(cu ds).fp,w.heap.size<=b)->
   ta.cm I (some (ab rb)) (size:Int) s x (i:Int) v (l5 w rb fp λr e D=>D=(fF x.toNat A).2/\∃(s:Sl) (ds:List Sp),r=ae (.tuple #[s.v,.bool true])/\bA ds=(fF x.toNat A).1/\e=.sp s ds):=by
  intro k;induction k with
  |zero=>
   intro i s ds B v hi T d z L;simp only[fF,eP]at d;refine ta.dB _ _ _ _ _ _ _ _ (aZ (aW (by omega)) ⟨.sp s ds,B,⟨by rw[d],s,ds,rfl,by rw[d],rfl⟩,?_,λb q=>?_,z.get 0,z.fr⟩)
   .intro e C;rcases au.1 C with rfl|C
    .exact aK.bd (z.get 2)
    .exact (z.getD 0:(cu ds).P v) e C
   .obtain ⟨e,C,q⟩:=cO.1 q;rcases au.1 C with rfl|C
    .exact qV (λb q=>(z.new _ (aD (i:=2) rfl) b q).elim id (λh=>absurd (aM.2 h) (mf z.nd (i:=2) rfl (j:=0) rfl (by decide) b q))) b q
    .exact L b (cO.2 ⟨e,C,q⟩)
  |succ k ih=>
   intro i s ds B v hi T d z L;have ac:=(z.get 2:aK _ _ _ _ _).len;rw[Sp.eW]at ac;refine ta.dB _ _ _ _ _ _ _ _ (a1 (aS (by omega)) (z.wi 0 rfl (λM=>YE M) ?_));rintro _ e ag V ⟨rfl,y,rfl,hx,rfl⟩ H hf;refine⟨_,_,_,_,_,_,_,rfl,H.h7 2 xP rfl (λU G Z=>?_) (by omega)⟩;rw[bb _ (by omega)];have O:LH (·∈fp) w G [.fa rb (e9 B).2 fp,.g I,.row e4 7 U (ds.flatMap Sp.c++Sp.c y)] ([cu ds]++[tG y]):=Z;have ec:ds.flatMap Sp.c++Sp.c y=(ds++[y]).flatMap Sp.c:=by simp
   rw[ec]at O;refine ih (i+1) U (ds++[y]) (e9 B).2 G (by omega) (by simp[T]) ?_ ?_ ?_
   .rw [d];simp[fF,hx]
   .refine O.lH _ λe d=>?_;rw[bT.1 d];refine⟨λh e d=>?_,λb q=>?_⟩
    .simp only[iv,dt]at d;rcases aY.1 d with d|d
     .exact (h (cu ds) (by simp):(cu ds).P G) e d
     .simp only[cV,List.flatMap_nil,eP,au,aO,aR]at d;have E:(tG y).P G:=h (tG y) (by simp);rcases d with rfl|rfl|rfl
      .exact E y.pE (by simp)
      .exact E y.hE (by simp)
      .exact E y.lE (by simp)
    .obtain ⟨e,d,q⟩:=cO.1 q;simp only[iv,dt]at d;rcases aY.1 d with d|d
     .exact ⟨cu ds,by simp,cO.2 ⟨e,d,q⟩⟩
     .refine ⟨tG y,by simp,cO.2 ⟨e,?_,q⟩⟩;simp only[cV,List.flatMap_nil,eP,au,aO,aR]at d ⊢;rcases d with rfl|rfl|rfl<;>simp
   .intro b q;obtain⟨e,d,q⟩:=cO.1 q;simp only[iv,dt]at d;rcases aY.1 d with d|d
    .exact L b (cO.2 ⟨e,d,q⟩)
    .refine a6 z.fr.size (hf b (cO.2 ⟨e,?_,q⟩));simp only[cV,List.flatMap_nil,eP,au,aO,aR]at d ⊢;rcases d with rfl|rfl|rfl<;>simp
 rw[Q];refine F.CJ xP x.toNat (by omega) λs V ad H=>?_;rw[<-Q];exact loop x.toNat 0 s [] A V (by omega) rfl (by simp) (H.lH _ λe d=>by rw[bT.1 d];exact⟨λ_ e d=>(by cases d),λb q=>(by obtain⟨e,d,_⟩:=cO.1 q;cases d)⟩) (λb q=>(by obtain⟨e,d,_⟩:=cO.1 q;cases d))
def YA{w:J}{rb:Nat}{fp:List Nat}{U:List UInt8}(hl:U.length<=100000)(hk:b'.P w)(am:∀b∈b'.fp,b∉fp)(h:cW w rb ⟨U,0⟩ fp):
  ai Y LL #[.agg #[.pointer (some (ab rb)),.i ((U.length:Nat):Int)]] w (l5 w rb fp λr q _=>(∃(p:Lp) (x:Lx),gF U=some p/\r=ae (.tuple #[x.m.v,.bool true])/\x.p=p/\q=ej x)\/(gF U=none/\∃m:Lm,r=ae (.tuple #[m.v,.bool false]))):=by
 have s1:=tk ⟨U,0⟩;dsimp only at s1;have bad:∀{w':J} {st:RS} {L D:List En} (m:Lm),gF U=none->LH (·∈fp) w w' (.fa rb st fp::L) D->l5 w rb fp (λr q _=>(∃(p:Lp) (x:Lx),gF U=some p/\r=ae (.tuple #[x.m.v,.bool true])/\x.p=p/\q=ej x)\/(gF U=none/\∃m:Lm,r=ae (.tuple #[m.v,.bool false]))) (ae (.tuple #[m.v,.bool false])) w':=
  λm hn K=>⟨.all [],_,.inr ⟨hn,m,rfl⟩,λq e=>(by cases e),λb d=>(by obtain⟨q,e,_⟩:=cO.1 d;cases e),K.get 0,K.fr⟩
 refine DW.aB _ _ w _ ((CC (D:=[b']) h (λq e=>by rw[bT.1 e];exact⟨hk,am⟩)).aG λb1 w1 H1=>H1.aG λb2 w2 H2=>H2.lQ 0 rfl (λj=>D6 j) λt w3 N ht=>⟨_,rfl,N.iZ (aaK (show Bytes w3 t (bX ⟨U,0⟩).1 from N.getD 1) (by omega) (N.getD 0)) ?_⟩);rintro _ w4 ⟨F,O,rfl,hx,ad,aa⟩ _ F4;have H4:=F4.rd (.gr F O) (bR.2 ad) aa;refine⟨_,_,rfl,H4.aG λb3 w5 T=>di (λV=>T.ah λw6 A=>bad ⟨⟨none,0,0⟩,⟨none,0,0⟩,⟨none,0,0⟩,⟨none,0,0⟩⟩ (WY V) A) λV=>?_⟩;have ak:∀b∈(En.gr F O).fp,w.heap.size<=b:=λb d=>a6 N.fr.size (aa b d);have fin:∀{I:Nat} {y k:Sl} {w':J},(∀b∈ax y,w.heap.size<=b)->(∀b∈ax k,w.heap.size<=b)->
   LH (·∈fp) w w' [.fa rb (qF U) fp,.g b1,.g b2,.g b3,.g I] [b',.rd t ((bX ⟨U,0⟩).1.map bD),.gr F O,.rd y ((cI (bX ⟨U,0⟩).2).1.map a'),.rd k ((cI (cI (bX ⟨U,0⟩).2).2).1.map a')]->
   DW.bn b1 (some (ab rb)) ((U.length:Nat):Int) b2 ⟨none,0,0⟩ ⟨none,0,0⟩ ⟨none,0,0⟩ ⟨none,0,0⟩ I F y k ⟨none,0,0⟩ w' (l5 w rb fp λr q _=>(∃(p:Lp) (x:Lx),gF U=some p/\r=ae (.tuple #[x.m.v,.bool true])/\x.p=p/\q=ej x)\/(gF U=none/\∃m:Lm,r=ae (.tuple #[m.v,.bool false]))):=by
  intro I y k w' al aj K;have C:=W0 V;refine K.wi 0 rfl (λj=>NV (by omega) j) ?_;rintro _ q an Z ⟨rfl,s,ds,rfl,S,rfl⟩ B hf;refine⟨_,_,rfl,?_⟩;cases ac:(dW U.length (qF U)).1 with
  |none=>
   rw[ac]at C;exact aZ rfl (B.ah λW z=>bad ⟨F,y,k,s⟩ C z)
  |some ss=>
   rw[ac]at C S;dsimp only at C;have S:bA ds=ss:=S;refine a1 rfl (B.ah λW z=>z.aw (D5 (z.get 0)) ?_);rintro _ ao rfl ag;refine⟨_,rfl,ag.ah λap E=>?_⟩;by_cases e:hU (dW U.length (qF U)).2=0
   .rw [aq e]at C;rw[e];refine⟨ej ⟨⟨F,y,k,s⟩,O,(cI (bX ⟨U,0⟩).2).1,(cI (cI (bX ⟨U,0⟩).2).2).1,ds⟩,_,.inl ⟨_,_,C,rfl,?_,rfl⟩,?_,λb d=>?_,E.get 0,E.fr⟩
    .unfold Lx.p;dsimp only;rw[hx,S]
    .exact n3.2 ⟨bR.1 (E.getD 2),E.getD 3,E.getD 4,dX.1 (E.getD 5)⟩
    .obtain ⟨q,e,d⟩:=cO.1 d;simp only[au,aO,aR]at e;rcases e with rfl|rfl|rfl|rfl
     .exact ak b d
     .exact gU al b d
     .exact gU aj b d
     .exact a6 K.fr.size (hf b d)
   .rw [af e]at C;have:(hU (dW U.length (qF U)).2==0)=false:=by simpa using e
    rw[this];exact bad ⟨F,y,k,s⟩ C E
 refine⟨T.ah λw6 A=>A.lQ 0 rfl (λj=>oh j) λy w7 G Q=>⟨_,rfl,⟨?_,?_⟩⟩,?_⟩
 .exact G.lQ 0 rfl (λj=>oh j) λk w8 H M=>⟨_,rfl,H.aG λI Z B=>B.ah λW z=>fin (λb d=>a6 A.fr.size (Q b d)) (λb d=>a6 G.fr.size (M b d)) z⟩
 .exact G.aG λI w8 H=>H.lQ 0 rfl (λj=>oh j) λk Z B M=>⟨_,rfl,B.ah λW z=>fin (λb d=>a6 A.fr.size (Q b d)) (λb d=>a6 H.fr.size (M b d)) z⟩
 .exact T.aG λI w6 A=>A.lQ 0 rfl (λj=>oh j) λy w7 G Q=>⟨_,rfl,G.lQ 0 rfl (λj=>oh j) λk w8 H M=>⟨_,rfl,H.ah λZ B=>fin (λb d=>a6 A.fr.size (Q b d)) (λb d=>a6 G.fr.size (M b d)) B⟩⟩
def NU{w:J}{s:Sl}{U:List UInt8}(h:Bytes w s U)(C:U.length<=100000):ai Y LK #[s.v] w λr k=>∃(rb:Nat) (fp:List Nat),r=ae (.agg #[.pointer (some (ab rb)),.i ((U.length:Nat):Int)])/\cW k rb ⟨U,0⟩ fp/\ag w k/\∀b∈fp,w.heap.size<=b:=by
 refine Oa.aB _ w _ ((bI (w:=w) [.rd s (U.map bD)] (by intro B x;rw[bT.1 x];exact h)).aG λA z d=>gN ((D7 (show Bytes z s U from d.getD 0) (by omega)).mono ?_))
 rintro _ D ⟨rb,fp,rfl,y,f,nf⟩;have q:=d.push (.fa rb ⟨U,0⟩ fp) f y (λb e=>nf b (aM.1 e));refine⟨f,some (ab rb),rfl,q.ah λE j=>⟨rb,fp,?_,j.get 1,j.fr,λb e=>a6 d.fr.size (nf b e)⟩⟩;rw[Bytes.len h]
def Lx.e:Lx:=⟨⟨⟨none,0,0⟩,⟨none,0,0⟩,⟨none,0,0⟩,⟨none,0,0⟩⟩,[],[],[],[]⟩
def mN.XD{n:Nat}{x:Lx}(h:mN n x.p)(k:n<=100000):rL x:=by
 have q:x.ds.length<=n:=by have:=h.sl;simpa[Lx.p]using this
 refine⟨λd j=>?_,a6 h.hl k,a6 h.cl k,a6 q k,λd j=>?_⟩
 .have W:=h.g d.x (bZ.2 ⟨d,j,rfl⟩);exact⟨W.tok,W⟩
 .have e:=h.s d.x (bZ.2 ⟨d,j,rfl⟩);exact⟨by have:=e.p;omega,by have:=e.l;omega,by have:=e.h;omega⟩
def FB{w:J}{h:Nat}{U:List UInt8}{own:List Nat}(I:fg w h U own){s:Sl}{b:List UInt8}(y:Bytes w s b)(H:∀d∈(En.rd s (b.map bD)).fp,d∉own)(z:U.length+b.length<=10000000000000):
  ai Y M9 #[.pointer (some (ab h)),s.v] w (l7 w h own (U++df b)):=by refine RP.ok _ _ w _ ?_;rw[Bytes.len y,rf _ (by omega)];refine(tZ I b.length (by omega) (by omega)).mono ?_;rintro r e ⟨rfl,S,M,x,L⟩;have Q:=ei b.length (by omega);have G:Bytes e s b:=(En.rd s (b.map bD)).st w e (λd K z=>x.cb d z (H d K)) y;obtain⟨O,rfl,q,k⟩:=M;obtain⟨N,P,C,D,E,F,_⟩:=uG (ty:=c') k G (by simp;omega);obtain⟨A,B,j⟩:=FE q k (Fr.refl _ e) D E F;rw[cp]at j;exact⟨rfl,O,wW q,N,P,C,A,B,rfl,j.then x L⟩
def Xe{w:J}{j:Nat}{l:List UInt8}{own:List Nat}{D:List En}(y:fg w j l own)(k:∀d∈D,d.P w/\∀b∈d.fp,b∉own):LH (·∈own) w w [.wr j l own] D:=
 ⟨Fr.refl _ _,λd e=>by rw[bT.1 e];exact y,λd e=>(k d e).1,λd e b h=>by
  rw[bT.1 e]at h;exact .inr (aM.1 h),by simp only[cV,List.flatMap_nil,eP];exact(En.wr j l own).nd,λd e b h z x q=>by rw[bT.1 x]at q;exact(k d e).2 b h (aM.1 q)⟩
def Qj{s:Sl}{ds:List Sp}{d:Sp}(w:d∈ds){e:En}(x:e∈[d.pE,d.hE,d.lE]):(∀h,(En.sp s ds).P h->e.P h)/\∀b∈e.fp,b∈(En.sp s ds).fp:=by have j:e∈En.bd 7 s (ds.flatMap Sp.c)::iv ds:=List.mem_cons_of_mem _ (bS.2 ⟨d,w,x⟩);exact⟨λh k=>k e j,λb q=>cO.2 ⟨e,j,q⟩⟩
def Yk{U:List Nat}{P:Program}{g:cB}{args:Array aa}{w:J}{K:aH}:ee U P g args w K->ai P g args w K:=λ⟨_,_,d⟩=>d.mono λ_ _ d=>d.2
def WW{x:Lx}(h:gj x=0):gw (xs x.gl)=0:=by
 unfold gj at h;split at h
 .omega
 .omega
def yi:∀{l:List Lx},i3 l=0->∀j∈l,gj j=0
 |[],_,j,d=>by cases d
 |k::r,e,j,d=>by
  by_cases h:gj k=0
  .rw [yj h]at e;rcases au.1 d with rfl|d
   .exact h
   .exact yi e j d
  .rw [CA h]at e;exact absurd e h
end Go.Proofs.YthhmdddomhknaaaGreatDoor
