import Derived.Test.YthaledkcjibmfaaGreatDoorWN
import Derived.Test.YthaledkcjibmfaaGreatDoorU
import Derived.Laws.StandIn
import Derived.Lib.Bytealg
set_option linter.unusedVariables false
set_option linter.defProp false
set_option maxRecDepth 100000
namespace Go.Proofs.YthaledkcjibmfaaGreatDoor
open Go renaming World->J,Calls->ak,Value->ab,Ending->cr,FuncId->cD,LoopState->jH
open Go.IntKind renaming wrap->ao
open _root_.Int renaming toNat->aZ
open Go.IntWalk renaming i64_in->aS
open Go.Builtin renaming append_->dW
open _root_.Bool renaming and_eq_true->bf
open _root_.Nat renaming le_refl->bg,le_trans->a8
open _root_.UInt8 renaming ofNat->cI
open _root_.Option.some renaming inj->e3
open Go.Proofs.Tryz renaming prog->aa
open _root_.Decidable renaming decide->aq
open Go.Ending renaming returned->ag
open List renaming mem_append->aX,mem_cons->av,not_mem_nil->aR,mem_of_getElem?->aE,getElem?_eq_getElem->a6,getElem?_eq_some_iff->bO,mem_append_left->bt,mem_append_right->di,mem_flatMap->bA,mem_map->ch,length_take->eA,flatMap_append->cy,flatMap_cons->b',mem_iff_getElem?->fQ,nodup_append->fD,append_nil->dt,take_add_one->ej,map_append->g2,getElem?_set_self->ic,take_of_length_le->eZ
open Go Go.W
def kr:gU aa dk aN (.agg #[.int .i64 0,.int .u8 0,.int .u8 0,.slice none 0 0]) 4 40:=⟨by kernel_rfl,by kernel_rfl,rfl,by decide,by decide⟩
def AO(w:J):ak aa nT #[] w λr h=>fK w eD r h/\ah w h:=by
 refine Ht.aD w _ ((bP [] (by simp)).aJ λb q j=>j.cR (n:=1) (sz:=4) (cs:=b3.c) rfl (by decide) λy k=>k.ai λx e=>⟨⟨.mk 6 0 0 ⟨some (ae q.heap.size),1,1⟩ [b3],rfl,rfl,?_,λc d=>?_⟩,e.fr⟩)
 .unfold I.P I.Ps I.Ps;exact⟨(e.get 1:aK _ _ _ _ _).bc,j2 x,trivial⟩
 .unfold I.fp I.a9 I.a9 at d;rcases aX.1 d with d|d
  .exact (e.new _ (aE (i:=1) rfl) c (gi d)).resolve_right id
  .rcases aX.1 d with d|d
   .exact (j3 d).elim
   .cases d
def gN(r:I):List I->List I
 |[]=>[r]
 |d::p=>if a4 d.rx r.rx<0 then d::gN r p else if a4 d.rx r.rx=0 then d::p else r::d::p
def NI(r:I):∀l:List I,(gN r l).map I.rx=kF r.rx (l.map I.rx)
 |[]=>rfl
 |d::p=>by
  unfold gN;rw[List.map_cons];unfold kF;split
  .rw [List.map_cons,NI r p]
  .split<;>rfl
def yM{t r:I}:∀{p:List I},t∈gN r p->t=r\/t∈p
 |[],d=>by unfold gN at d;simpa using d
 |e::p,d=>by
  unfold gN at d;split at d
  .rcases av.1 d with rfl|d
   .simp
   .rcases yM d with d|d<;>simp[d]
  .split at d
   .exact .inr d
   .rcases av.1 d with rfl|d
    .simp
    .exact .inr d
def NG(r:I):∀l:List I,I.aY (gN r l)<=r.sz+I.aY l
 |[]=>by show r.sz+0<=r.sz+0;omega
 |d::p=>by
  unfold gN;split
  .have:=NG r p;show d.sz+I.aY (gN r p)<=r.sz+(d.sz+I.aY p);omega
  .split
   .show d.sz+I.aY p<=r.sz+(d.sz+I.aY p);omega
   .exact bg _
def ND{r:I}:∀{l:List I} {k:Nat},k<=l.length->(∀q t,q<k->l[q]? =some t->a4 t.rx r.rx<0)->(∀t,l[k]? =some t->¬a4 t.rx r.rx<0)->
  (∀t,l[k]? =some t->a4 t.rx r.rx=0->gN r l=l)/\((∀t,l[k]? =some t->a4 t.rx r.rx≠0)->gN r l=l.take k++r::l.drop k)
 |[],k,y,h,j=>⟨λt d=>by simp at d,λ_=>by simp[gN]⟩
 |w::p,0,y,h,j=>by
  have:=j w rfl;unfold gN;rw[af this];refine⟨λt d x=>?_,λd=>?_⟩
  .cases d;rw[aj x]
  .rw [af (d w rfl)];rfl
 |w::p,k+1,y,h,j=>by have A:=h 0 w (by omega) rfl;have z:=ND (r:=r) (l:=p) (k:=k) (by simpa using y) (λq t B e=>h (q+1) t (by omega) (by simpa using e)) (λt e=>j t (by simpa using e));unfold gN;rw[aj A];refine⟨λt d x=>by rw[z.1 t (by simpa using d) x],λd=>by rw[z.2 λt e=>d t (by simpa using e)];rfl⟩
def N4{w:J}{s:Sl}{l:List I}(h:bx 4 w s (l.flatMap I.c))(a b:Nat)(d:a<=b)(e:b<=l.length):bx 4 w (od 4 s a b) (((l.take b).drop a).flatMap I.c):=by have j:=I.cm h;have:=h.sub a b d (by omega);rw[G4,Hc _ _ (by rw[eA];omega)]at this;exact this
abbrev bI(s:Sl)(l:List I):I:=.mk 0 0 0 s l
def Ft(d:List Nat)(w:J)(l:List I)(r:cr)(Y:J):Prop:=∃s:Sl,r=ag s.v/\(bI s l).P Y/\∀b∈(bI s l).fp,w.heap.size<=b\/b∈d
def dw{w:J}{s:Sl}{l:List I}:(bI s l).P w↔bx 4 w s (l.flatMap I.c)/\I.Ps w l:=by unfold bI I.P;exact Iff.rfl
def lk{s:Sl}{l:List I}{b:Nat}:b∈(bI s l).fp↔b∈(I.row s l).fp\/b∈I.a9 l:=by unfold bI I.fp;exact aX
def Tx(s:Sl)(l:List I)(r:I)(w:J)(hl:I.aY l<=100000)(hr:r.sz<=100000)(px:(bI s l).P w)(pr:r.P w):
  ak aa Kf #[s.v,r.v] w λT z=>Ft ((bI s l).fp++r.fp) w (gN r l) T z/\ah w z:=by
 have nr:=I.cm (dw.1 px).1;have ll:=I.fq l
 let R:aH:=λT z=>Ft ((bI s l).fp++r.fp) w (gN r l) T z/\ah w z
 have fin:∀(k:Nat) (sl:Sl) (L:List En) (i:Nat) (e:J),k<=l.length->gN r l=l.take k++r::l.drop k->L[i]? =some (.row aN 4 sl ((l.take k++[r]).flatMap I.c))->LH F0 w e L [.tree (bI s l),.tree r]->
   oL.cJ s (k:Int) sl e R:=by
  intro k sl L i e B S hi j;have ao:(bI s l).P e:=j.getD 0;have W:=N4 (dw.1 ao).1 k l.length B (bg _);rw[List.take_length]at W;have am:aK e aN 4 sl ((l.take k++[r]).flatMap I.c):=j.get i hi;have ac:=I.cm am.bc;have aq:(l.take k++[r]).length=k+1:=by simp[eA];omega
  refine⟨by omega,by omega,?_⟩;obtain⟨D,z,M,h2,h3⟩:=j.dd (V:=[]) i (ty:=dk) (K:=λD z=>∃L',L'[i]? =some (.row aN 4 D ((gN r l).flatMap I.c))/\LH F0 w z L' [.tree (bI s l),.tree r]) kr (src:=od 4 s k l.length) (news:=(l.drop k).flatMap I.c) hi W (rV _) (by show(sl.n+(l.length - k)) *40<=_;omega) (λD z H'=>⟨_,by
   rw[ic (bO.1 hi).1,<-cy,S,List.append_assoc];rfl,H'⟩)
  obtain⟨L',Y,G⟩:=h3;have e1:(aZ (k:Int))=k:=rfl;refine⟨D,z,by rw[e1,nr];exact M,⟨D,rfl,dw.2 ⟨(G.get i Y:aK _ _ _ _ _).bc,I.ib λt C=>?_⟩,λb N=>?_⟩,G.fr⟩
  .rcases yM C with rfl|C
   .exact G.getD 1
   .exact (dw.1 (G.getD 0)).2.mem C
  .rcases lk.1 N with N|N
   .exact .inl ((G.new _ (aE Y) b (gi N)).resolve_right id)
   .obtain ⟨t,C,ag⟩:=I.bM.1 N;rcases yM C with rfl|C
    .exact .inr (di _ ag)
    .exact .inr (bt _ (lk.2 (.inr (I.bM.2 ⟨t,C,ag⟩))))
 have s2:∀(k:Nat) (h:Nat) (e:J),k<=l.length->gN r l=l.take k++r::l.drop k->LH F0 w e [.g h] [.tree (bI s l),.tree r]->oL.bU s h r.k r.lo.toNat r.U.toNat r.s (k:Int) e R:=by
  intro k h e B S j;have ap:s.n<=s.c:=(dw.1 (show(bI s l).P e from j.getD 0)).1.2.1;have aj:∀z:J,(bI s l).P z->bx 4 z (od 4 s 0 k) ((l.take k).flatMap I.c):=λz af=>N4 (dw.1 af).1 0 k (by omega) B;have e1:(aZ (k:Int))=k:=rfl;refine⟨by omega,by omega,j.ai λA q=>?_,j.ai λA q=>?_⟩
  .refine (q.h7 aN 4).dd 1 kr (s:=⟨none,0,0⟩) (xs:=[]) (src:=od 4 s 0 k) (news:=(l.take k).flatMap I.c) rfl (aj A (q.getD 0)) (rV _) (by show(0+(k - 0)) *40<=_;omega) (λD O x=>?_);have x:LH F0 w O [.g h,.row aN 4 D ((l.take k).flatMap I.c)] [.tree (bI s l),.tree r]:=x;have ac:=I.cm (x.get 1:aK _ _ _ _ _).bc;rw[eA]at ac;refine x.iA 1 kr (xs:=(l.take k).flatMap I.c) rfl (λad w4 Q=>?_) (by omega);refine fin k ad _ 1 w4 B S ?_ Q;show some _=some _;rw[k2];rfl
  .refine q.cR (n:=1) (sz:=4) (cs:=r.c) rfl (by decide) λO x=>?_;refine(x.h7 aN 4).dd 2 kr (s:=⟨none,0,0⟩) (xs:=[]) (src:=od 4 s 0 k) (news:=(l.take k).flatMap I.c) rfl (aj O (x.getD 0)) (rV _) (by show(0+(k - 0)) *40<=_;omega) (λD w4 Q=>?_);have Q:LH F0 w w4 [.g h,.row aN 4 ⟨some (ae A.heap.size),1,1⟩ r.c,.row aN 4 D ((l.take k).flatMap I.c)] [.tree (bI s l),.tree r]:=Q;have ac:=I.cm (Q.get 2:aK _ _ _ _ _).bc;rw[eA]at ac;refine Q.dd 2 kr (xs:=(l.take k).flatMap I.c) (src:=⟨some (ae A.heap.size),1,1⟩) (news:=r.c) rfl (Q.get 1:aK _ _ _ _ _).bc (λu hu=>rV [r] u (by simpa using hu)) (by show(D.n+1) *40<=_;omega) (λad w5 H5=>?_);refine fin k ad _ 2 w5 B S ?_ H5;show some _=some _;rw[k2]
 have s1:∀(k:Nat) (h:Nat) (e:J),k<=l.length->(∀F t,F<k->l[F]? =some t->a4 t.rx r.rx<0)->(∀t,l[k]? =some t->¬a4 t.rx r.rx<0)->LH F0 w e [.g h] [.tree (bI s l),.tree r]->oL.bT s h r.k r.lo.toNat r.U.toNat r.s (k:Int) e R:=by
  intro k h e B M h2 j;obtain⟨Y,G⟩:=ND B M h2;refine aG (λal=>?_) (λal=>j.ai λA q=>s2 k h A B (G λt C=>by have:=(bO.1 C).1;omega) q);have y:l[k]? =some l[k]:=a6 (by omega);generalize l[k]'(by omega)=t at y;have Z:=aE y;refine⟨by omega,by omega,I.de (dw.1 (show(bI s l).P e from j.getD 0)).1 y λp W _=>j.ai λA q=>?_⟩;have ab:(bI s l).P A:=q.getD 0;have c:=I.again (dw.1 ab).1 y W;refine⟨_,_,_,_,c.c0,c.c1,c.c2,c.c3,q.ay (qb t r A (by have:=I.eg Z;omega) ((dw.1 ab).2.mem Z) (q.getD 1)) ?_⟩;rintro _ O rfl x;refine⟨_,rfl,aL (λH=>⟨⟨s,rfl,?_,λb N=>.inr ?_⟩,x.fr⟩) (λH=>s2 k h O B (G λt' E=>by rw[y]at E;cases E;exact H) x)⟩
  .rw [Y t y H];exact x.getD 0
  .rw [Y t y H]at N;exact bt _ N
 have loop:∀(d k:Nat) (h:Nat) (e:J),k+d=l.length->(∀F t,F<k->l[F]? =some t->a4 t.rx r.rx<0)->LH F0 w e [.g h] [.tree (bI s l),.tree r]->oL.a2 s h r.k r.lo.toNat r.U.toNat r.s (k:Int) e R:=by
  intro d;induction d with
  |zero=>
   intro k h e B M j;exact oL.bB _ _ _ _ _ _ _ _ _ (a1 (aV (by omega)) (j.ai λA q=>s1 k h A (by omega) M (λt C=>by have:=(bO.1 C).1;omega) q))
  |succ d an=>
   intro k h e B M j;have y:l[k]? =some l[k]:=a6 (by omega);generalize l[k]'(by omega)=t at y;have Z:=aE y;refine oL.bB _ _ _ _ _ _ _ _ _ (a3 (aP (by omega)) ⟨by omega,by omega,I.de (dw.1 (show(bI s l).P e from j.getD 0)).1 y λp W _=>j.ai λA q=>?_⟩);have ab:(bI s l).P A:=q.getD 0;have c:=I.again (dw.1 ab).1 y W;refine⟨_,_,_,_,c.c0,c.c1,c.c2,c.c3,q.ay (qb t r A (by have:=I.eg Z;omega) ((dw.1 ab).2.mem Z) (q.getD 1)) ?_⟩;rintro _ O rfl x;refine⟨_,rfl,aG (λH=>?_) (λH=>s1 k h O (by omega) M (λt' E=>by rw[y]at E;cases E;exact H) x)⟩;rw[bd _ (by omega)];refine an (k+1) h O (by omega) (λF t' hq E=>?_) x;by_cases T:F=k
   .subst T;rw[y]at E;cases E;exact H
   .exact M F t' (by omega) E
 exact oL.aD _ _ _ _ _ w _ ((bP [.tree (bI s l),.tree r] (by
  intro T S;simp only[av,aR,aT]at S;rcases S with rfl|rfl
  .exact px
  .exact pr)).aJ λh e H1=>loop l.length 0 h e (by omega) (λF t af=>by omega) H1)
def Dh(k:Int)(t:Rx):∀(l out:List Rx),gM k out (l++[t])=if k=3 then gM k out l++[t]else kF t (gM k out l)
 |[],out=>by show gM k (if k=3 then out++[t]else kF t out) []=_;unfold gM;rfl
 |a::l,out=>by show gM k (if k=3 then out++[a]else kF a out) (l++[t])=_;rw[Dh k t l];rfl
def aap(x d:I)(w:x.k=3\/x.k=4\/x.k=5)(h:d.rx=eD):∃(j:Nat) (u z:I),ao .i64 (x.k - 3)=(j:Int)/\j<3/\[fb,b3,d][j]? =some u/\[b3,d,b3][j]? =some z/\(u=fb\/u=b3\/u=d)/\(z=b3\/z=d)/\u.rx≠z.rx/\
  hd (.mk x.k 0 0 (I.au x.l))=gC x.k (I.au x.l) u.rx z.rx:=by
 rcases w with q|q|q<;>rw[q]
 .exact ⟨0,fb,b3,by decide,by decide,rfl,rfl,.inl rfl,.inl rfl,(by intro e;cases e),rfl⟩
 .exact ⟨1,b3,d,by decide,by decide,rfl,rfl,.inr (.inl rfl),.inr rfl,(by rw[h];intro e;cases e),by rw[h];rfl⟩
 .exact ⟨2,d,b3,by decide,by decide,rfl,rfl,.inr (.inr rfl),.inl rfl,(by rw[h];intro e;cases e),by rw[h];rfl⟩
section
variable {x ev u z:I} {sf:Sl} {w:J} {b4 b8 b9:Nat}
def YF(hx:x.sz<=10000)(a2:ev.rx=eD)(aA:∀b∈ev.fp,w.heap.size<=b)(hu:u=fb\/u=b3\/u=ev)(aw:z=b3\/z=ev)(aG:u.rx≠z.rx)(ar:hd (.mk x.k 0 0 (I.au x.l))=gC x.k (I.au x.l) u.rx z.rx){q:J}(H:LH F0 w q [.g b4,.g b8,.g b9] [.tree x,.tree ev,.tree (bI sf (x.l.flatMap (eP x)))]):
  hH.kg x.k b4 0 0 0 ⟨none,0,0⟩ sf b8 u.k u.lo.toNat u.U.toNat u.s b9 z.k z.lo.toNat z.U.toNat z.s ⟨none,0,0⟩ 0 q λr A=>fY x.fp w (hd (.mk x.k 0 0 (I.au x.l))) r A/\ah w A:=by
 let R:aH:=λr A=>fY x.fp w (hd (.mk x.k 0 0 (I.au x.l))) r A/\ah w A
 have av:Sub x (x.l.flatMap (eP x)):=Sub.flat λ_ W=>W;have aD:I.aY (x.l.flatMap (eP x))<=I.aY x.l:=tE x x.l;have ae:((x.l.flatMap (eP x)).map I.rx).filter (λt=>!(a4 t u.rx==0))=gK x.k (I.au x.l) u.rx:=by rw[<-ve];unfold ga;rw[List.filter_map];rfl
 generalize x.l.flatMap (eP x)=fl at H av aD ae;have ao:=av;have a7:=I.hQ x;have a5:I.aY fl<=10000:=by omega
 have ba:=I.fq fl;have nr:sf.n=fl.length:=I.cm (dw.1 (show(bI sf fl).P q from H.getD 2)).1;have ap:∀A,ev.P A->u.P A:=λA W=>by
  rcases hu with rfl|rfl|rfl
  .exact xC A
  .exact j2 A
  .exact W
 have am:∀A,ev.P A->z.P A:=λA W=>by
  rcases aw with rfl|rfl
  .exact j2 A
  .exact W
 have aF:∀b∈u.fp,w.heap.size<=b:=λb e=>by
  rcases hu with rfl|rfl|rfl
  .exact (xD e).elim
  .exact (j3 e).elim
  .exact aA b e
 have ax:∀b∈z.fp,w.heap.size<=b:=λb e=>by
  rcases aw with rfl|rfl
  .exact (j3 e).elim
  .exact aA b e
 have aq:∀t∈fl,t.rx=z.rx->hd (.mk x.k 0 0 (I.au x.l))=z.rx:=λt ht aa=>by rw[ar];unfold gC;rw[aj];rw[List.any_eq_true];refine⟨t.rx,?_,qh.2 aa⟩;rw[<-ae,List.mem_filter];exact⟨ch.2 ⟨t,ht,rfl⟩,GX.2 (aa▸λW=>aG W.symm)⟩
 have aC:(∀t∈fl,t.rx≠z.rx)->hd (.mk x.k 0 0 (I.au x.l))=su x.k u.rx (gM x.k [] ((fl.map I.rx).filter λt=>!(a4 t u.rx==0))):=λW=>by
  rw[ar,XG,ae];unfold gC;rw[af]
  .rfl
  .rw [List.any_eq_true];rintro⟨t,ht,he⟩;rw[<-ae,List.mem_filter]at ht;obtain⟨G,j,rfl⟩:=ch.1 ht.1;exact W G j (qh.1 he)
 have fin:∀(h:List I) (y:Sl) (L D:List En) (q:J),(∀t∈fl,t.rx≠z.rx)->h.map I.rx=gM x.k [] ((fl.map I.rx).filter λt=>!(a4 t u.rx==0))->(∀t∈h,t∈fl)->LH F0 w q L (.tree x::.tree ev::D)->(∀b∈[b4,b8,b9],En.g b∈L)->(∀A,LH F0 w A L (.tree x::.tree ev::D)->bx 4 A y (h.flatMap I.c)/\∀b∈(I.row y h).fp,w.heap.size<=b\/b∈x.fp)->
   bn (((y.n:Nat):Int)==0) (loc [b4,b8,b9] q λaU=>R (ag u.v) aU) (bn (((y.n:Nat):Int)==1) (e8 y 0 λp=>fM q (p.add (aZ 0 *4)) λa b c d=>loc [b4,b8,b9] q λaW=>R (ag (.agg #[.i a,.int .u8 b,.int .u8 c,d.v])) aW) (loc [b4,b8,b9] q λa0=>R (ag (.agg #[.i x.k,.int .u8 0,.int .u8 0,y.v])) a0)):=by
  intro h y L D q O F N H e an;have hr:=an q H;have aB:=I.cm hr.1;have ad:=aC O;rw[<-F]at ad;have ak:Sub x h:=ao.sub N;refine aL (λY=>H.ai (λK B=>⟨⟨u,rfl,?_,ap K (B.getD 1),λb e=>.inl (aF b e)⟩,B.fr⟩) e) (λY=>aL (λZ=>?_) (λZ=>H.ai (λK B=>⟨⟨.mk x.k 0 0 y h,rfl,?_,?_,λb e=>?_⟩,B.fr⟩) e))
  .have:h=[]:=List.length_eq_zero_iff.1 (by omega);rw[ad,this];rfl
  .obtain ⟨a,rfl⟩:=List.length_eq_one_iff.1 (show h.length=1 by omega);refine⟨by omega,by omega,I.de hr.1 (i:=0) (t:=a) rfl λp Q c=>⟨_,_,_,_,c.c0,c.c1,c.c2,c.c3,H.ai (λK B=>⟨⟨a,rfl,?_,ak.P _ (B.getD 0) a (by simp),λb e=>.inr (ak.fp a (by simp) b e)⟩,B.fr⟩) e⟩⟩;rw[ad];rfl
  .rw [ad];unfold I.rx;rw[I.fk];cases h with
   |nil=>simp at aB;omega
   |cons a ks=>
    cases ks with
    |nil=>simp at aB;omega
    |cons b ks=>rfl
  .unfold I.P;exact⟨(an K B).1,ak.Ps (B.getD 0)⟩
  .unfold I.fp at e;rcases aX.1 e with e|e
   .exact (an K B).2 b e
   .exact .inr (ak.a9 e)
 have aI:x.k=3->∀(d i:Nat) (y:Sl) (h:List I) (q:J),i+d=fl.length->(∀t∈fl.take i,t.rx≠z.rx)->h.map I.rx=gM x.k [] (((fl.take i).map I.rx).filter λt=>!(a4 t u.rx==0))->(∀t∈h,t∈fl)->I.aY h<=I.aY (fl.take i)->
   LH F0 w q [.g b4,.g b8,.g b9,.row aN 4 y (h.flatMap I.c)] [.tree x,.tree ev,.tree (bI sf fl)]->hH.kg x.k b4 0 0 0 ⟨none,0,0⟩ sf b8 u.k u.lo.toNat u.U.toNat u.s b9 z.k z.lo.toNat z.U.toNat z.s y (i:Int) q R:=by
  intro hk d;induction d with
  |zero=>
   intro i y h q hi O F N hs H;rw[eZ (by omega)]at O F;refine hH.pO _ _ _ _ _ _ _ _ _ _ _ _ _ _ _ _ _ _ _ _ _ (a1 (aV (by omega)) ?_);exact fin h y _ _ q O F N H (by simp) (λA H'=>⟨(H'.get 3:aK _ _ _ _ _).bc,λb e=>.inl ((H'.new _ (aE (i:=3) rfl) b (gi e)).resolve_right id)⟩)
  |succ d ac=>
   intro i y h q hi O F N hs H;have C:fl[i]? =some fl[i]:=a6 (by omega);generalize fl[i]'(by omega)=t at C;have E:=aE C;have aT:=I.eg E;have V:fl.take (i+1)=fl.take i++[t]:=by rw[ej,C];rfl
   have aR:I.aY (fl.take (i+1))=I.aY (fl.take i)+t.sz:=by rw[V,tD];rfl
   have aS:=zi fl (i+1);refine hH.pO _ _ _ _ _ _ _ _ _ _ _ _ _ _ _ _ _ _ _ _ _ (a3 (aP (by omega)) ⟨by omega,by omega,I.de (dw.1 (show(bI sf fl).P q from H.getD 2)).1 C λp Q _=>H.ai λK B=>?_⟩);have p2:(bI sf fl).P K:=B.getD 2;have S:=I.again (dw.1 p2).1 C Q;refine⟨_,_,_,_,S.c0,S.c1,S.c2,S.c3,B.ay (qb t z K (by omega) ((dw.1 p2).2.mem E) (am K (B.getD 1))) ?_⟩;rintro _ w3 rfl H3;refine⟨_,rfl,aL (λY=>H3.ai λw4 H4=>⟨⟨z,rfl,?_,am w4 (H4.getD 1),λb e=>.inl (ax b e)⟩,H4.fr⟩) (λY=>?_)⟩
   .exact (aq t E (uK.1 Y)).symm
   refine⟨by omega,by omega,I.de (dw.1 (show(bI sf fl).P w3 from H3.getD 2)).1 C λp Q _=>H3.ai λw5 H5=>?_⟩;have p5:(bI sf fl).P w5:=H5.getD 2;have T:=I.again (dw.1 p5).1 C Q;refine⟨_,_,_,_,T.c0,T.c1,T.c2,T.c3,H5.ay (qb t u w5 (by omega) ((dw.1 p5).2.mem E) (ap w5 (H5.getD 1))) ?_⟩;rintro _ w6 rfl M;have ab:∀G∈fl.take (i+1),G.rx≠z.rx:=λG j=>by
    rw[V]at j;rcases aX.1 j with j|j
    .exact O G j
    .simp at j;subst j;exact λaa=>Y (uK.2 aa)
   refine⟨_,rfl,aL (λZ=>?_) (λZ=>a3 (beq_iff_eq.2 hk) ?_)⟩
   .show hH.kg _ _ _ _ _ _ _ _ _ _ _ _ _ _ _ _ _ _ _ _ _;rw[bd _ (by omega)];refine ac (i+1) y h w6 (by omega) ab ?_ N (by omega) M;rw[V,g2,List.filter_append,F];have e0:([t].map I.rx).filter (λt=>!(a4 t u.rx==0))=[]:=by show[t.rx].filter _=[];rw[List.filter_cons_of_neg (by rw[Z];simp)];rfl
    rw[e0,dt]
   .have ef:((fl.take (i+1)).map I.rx).filter (λt=>!(a4 t u.rx==0))=(((fl.take i).map I.rx).filter λt=>!(a4 t u.rx==0))++[t.rx]:=by rw[V,g2,List.filter_append];congr 1;show[t.rx].filter _=[t.rx];rw[List.filter_cons_of_pos (by simpa using Z)];rfl
    refine⟨by omega,by omega,I.de (dw.1 (show(bI sf fl).P w6 from M.getD 2)).1 C λp Q c=>⟨_,_,_,_,c.c0,c.c1,c.c2,c.c3,?_⟩⟩;have be:=I.cm (M.get 3:aK _ _ _ _ _).bc;have bb:=I.fq h;refine M.iA 3 kr (xs:=h.flatMap I.c) rfl (λs' w7 H7=>?_) (by omega);show hH.kg _ _ _ _ _ _ _ _ _ _ _ _ _ _ _ _ _ _ _ _ _;rw[bd _ (by omega)];refine ac (i+1) s' (h++[t]) w7 (by omega) ab ?_ (λG j=>?_) (by rw[tD];show _+(t.sz+0)<=_;omega) ?_
    .rw [ef,Dh,aj hk,g2,F];rfl
    .rcases aX.1 j with j|j
     .exact N G j
     .simp at j;subst j;exact E
    .rw [k2];exact H7
 have aJ:x.k≠3->∀(d i:Nat) (y:Sl) (h:List I) (q:J),i+d=fl.length->(∀t∈fl.take i,t.rx≠z.rx)->h.map I.rx=gM x.k [] (((fl.take i).map I.rx).filter λt=>!(a4 t u.rx==0))->(∀t∈h,t∈fl)->I.aY h<=I.aY (fl.take i)->(∀b∈(bI y h).fp,w.heap.size<=b\/b∈x.fp)->
   LH F0 w q [.g b4,.g b8,.g b9] [.tree x,.tree ev,.tree (bI sf fl),.tree (bI y h)]->hH.kg x.k b4 0 0 0 ⟨none,0,0⟩ sf b8 u.k u.lo.toNat u.U.toNat u.s b9 z.k z.lo.toNat z.U.toNat z.s y (i:Int) q R:=by
  intro hk d;induction d with
  |zero=>
   intro i y h q hi O F N hs al H;rw[eZ (by omega)]at O F;refine hH.pO _ _ _ _ _ _ _ _ _ _ _ _ _ _ _ _ _ _ _ _ _ (a1 (aV (by omega)) ?_);exact fin h y _ _ q O F N H (by simp) (λA H'=>⟨(dw.1 (show(bI y h).P A from H'.getD 3)).1,λb e=>al b (lk.2 (.inl e))⟩)
  |succ d ac=>
   intro i y h q hi O F N hs al H;have C:fl[i]? =some fl[i]:=a6 (by omega);generalize fl[i]'(by omega)=t at C;have E:=aE C;have aT:=I.eg E;have V:fl.take (i+1)=fl.take i++[t]:=by rw[ej,C];rfl
   have aR:I.aY (fl.take (i+1))=I.aY (fl.take i)+t.sz:=by rw[V,tD];rfl
   have aS:=zi fl (i+1);refine hH.pO _ _ _ _ _ _ _ _ _ _ _ _ _ _ _ _ _ _ _ _ _ (a3 (aP (by omega)) ⟨by omega,by omega,I.de (dw.1 (show(bI sf fl).P q from H.getD 2)).1 C λp Q _=>H.ai λK B=>?_⟩);have p2:(bI sf fl).P K:=B.getD 2;have S:=I.again (dw.1 p2).1 C Q;refine⟨_,_,_,_,S.c0,S.c1,S.c2,S.c3,B.ay (qb t z K (by omega) ((dw.1 p2).2.mem E) (am K (B.getD 1))) ?_⟩;rintro _ w3 rfl H3;refine⟨_,rfl,aL (λY=>H3.ai λw4 H4=>⟨⟨z,rfl,?_,am w4 (H4.getD 1),λb e=>.inl (ax b e)⟩,H4.fr⟩) (λY=>?_)⟩
   .exact (aq t E (uK.1 Y)).symm
   refine⟨by omega,by omega,I.de (dw.1 (show(bI sf fl).P w3 from H3.getD 2)).1 C λp Q _=>H3.ai λw5 H5=>?_⟩;have p5:(bI sf fl).P w5:=H5.getD 2;have T:=I.again (dw.1 p5).1 C Q;refine⟨_,_,_,_,T.c0,T.c1,T.c2,T.c3,H5.ay (qb t u w5 (by omega) ((dw.1 p5).2.mem E) (ap w5 (H5.getD 1))) ?_⟩;rintro _ w6 rfl M;have ab:∀G∈fl.take (i+1),G.rx≠z.rx:=λG j=>by
    rw[V]at j;rcases aX.1 j with j|j
    .exact O G j
    .simp at j;subst j;exact λaa=>Y (uK.2 aa)
   refine⟨_,rfl,aL (λZ=>?_) (λZ=>a1 (by simpa using hk) ?_)⟩
   .show hH.kg _ _ _ _ _ _ _ _ _ _ _ _ _ _ _ _ _ _ _ _ _;rw[bd _ (by omega)];refine ac (i+1) y h w6 (by omega) ab ?_ N (by omega) al M;rw[V,g2,List.filter_append,F];have e0:([t].map I.rx).filter (λt=>!(a4 t u.rx==0))=[]:=by show[t.rx].filter _=[];rw[List.filter_cons_of_neg (by rw[Z];simp)];rfl
    rw[e0,dt]
   .have ef:((fl.take (i+1)).map I.rx).filter (λt=>!(a4 t u.rx==0))=(((fl.take i).map I.rx).filter λt=>!(a4 t u.rx==0))++[t.rx]:=by rw[V,g2,List.filter_append];congr 1;show[t.rx].filter _=[t.rx];rw[List.filter_cons_of_pos (by simpa using Z)];rfl
    refine⟨by omega,by omega,I.de (dw.1 (show(bI sf fl).P w6 from M.getD 2)).1 C λp Q c=>⟨_,_,_,_,c.c0,c.c1,c.c2,c.c3,?_⟩⟩;refine ha ((Tx y h t w6 (by omega) (by omega) (M.getD 3) ((dw.1 (show(bI sf fl).P w6 from M.getD 2)).2.mem E)).mono ?_);rintro _ w7 ⟨⟨s',rfl,aQ,az⟩,f7⟩;refine⟨f7,?_⟩;have aM:∀b∈(bI s' (gN t h)).fp,w.heap.size<=b\/b∈x.fp:=λb e=>by
     rcases az b e with e|e
     .exact .inl (a8 M.fr.size e)
     .rcases aX.1 e with e|e
      .exact al b e
      .exact .inr (ao.fp t E b e)
    have H8:LH F0 w w7 [.g b4,.g b8,.g b9] [.tree x,.tree ev,.tree (bI sf fl),.tree (bI y h),.tree (bI s' (gN t h))]:=M.gx _ f7 aQ λb e=>by
     rcases az b (aO.1 e)with e|e
     .exact .inl e
     .rcases aX.1 e with e|e
      .exact .inr (.inr ⟨_,aE (i:=3) rfl,aO.2 e⟩)
      .exact .inr (.inr ⟨_,aE (i:=0) rfl,aO.2 (ao.fp t E b e)⟩)
    refine⟨s',rfl,?_⟩;show hH.kg _ _ _ _ _ _ _ _ _ _ _ _ _ _ _ _ _ _ _ _ _;rw[bd _ (by omega)];refine ac (i+1) s' (gN t h) w7 (by omega) ab ?_ (λG j=>?_) (by have:=NG t h;omega) aM (H8.forget _ (by simp))
    .rw [ef,Dh,af hk,NI,F]
    .rcases yM j with rfl|j
     .exact E
     .exact N G j
 by_cases hk:x.k=3
 .exact aI hk fl.length 0 ⟨none,0,0⟩ [] q (by omega) (by simp) (by simp[gM]) (by simp) (by simp[I.aY]) (H.h7 aN 4)
 .refine aJ hk fl.length 0 ⟨none,0,0⟩ [] q (by omega) (by simp) (by simp[gM]) (by simp) (by simp[I.aY]) (λb e=>?_) (H.gx (.tree (bI ⟨none,0,0⟩ [])) (Fr.refl _ _) (dw.2 ⟨bx.nil 4 q,by unfold I.Ps;trivial⟩) λb e=>?_)
  .rcases lk.1 e with e|e
   .simp [I.row,En.bc]at e
   .unfold I.a9 at e;cases e
  .rcases lk.1 (aO.1 e)with e|e
   .simp [I.row,En.bc]at e
   .unfold I.a9 at e;cases e
end
def TE(x:I)(hk:3<=x.k/\x.k<=7)(hx:x.sz<=10000)(N:jU (.mk x.k 0 0 (I.au x.l))=true)(aB:∀c∈x.l,0<=c.k)(w:J)(px:x.P w):
  ak aa Kc #[.i x.k,x.s.v] w λr Y=>fY x.fp w (hd (.mk x.k 0 0 (I.au x.l))) r Y/\ah w Y:=by
 have nr:=I.cm px.parts.1;have aW:=I.hQ x;have aS:=I.fq x.l;refine hH.aD _ _ w _ ((gE px).aJ λH G H1=>H1.hD (AO G) ?_);rintro _ w2 ⟨j,rfl,ao,aM,av⟩ H2 F2;have H3:LH F0 w w2 [.g H] [.tree x,.tree j]:=F2.rd (.tree j) aM λb h=>av b (aO.1 h);have aI:∀b∈j.fp,w.heap.size<=b:=λb h=>a8 H1.fr.size (av b h);have pc:∀{Y:J} {c:I},x.P Y->x.l[0]? =some c->c.P Y:=λS e=>S.parts.2.mem (aE e);have fc:∀{c:I},x.l[0]? =some c->∀b∈c.fp,b∈x.fp:=λe b h=>I.gb.2 (.inr (I.bM.2 ⟨_,aE e,h⟩));refine⟨_,_,_,j.s,rfl,H3.aJ λL w3 D=>aL (λh6=>?_) (λh6=>aL (λal=>?_) (λal=>D.ai λM B=>?_))⟩
 .
  cases F:x.l with
  |nil=>rw[F,h6]at N;simp[jU,I.au]at N
  |cons c C=>
   have e:x.l[0]? =some c:=by rw[F];rfl
   have n2:0<x.s.n:=by rw[F]at nr;simp at nr;omega
   have W:I.au (c::C)=c.rx::I.au C:=rfl;have ef:hd (.mk x.k 0 0 (I.au (c::C)))=o2 0 0 (c.rx::I.au C):=by rw[h6];rfl
   rw[ef];refine⟨by omega,by omega,I.de (show x.P w3 from D.getD 0).parts.1 e λp A _=>D.ai λw5 B=>?_⟩;have O:x.P w5:=B.getD 0;have y:=I.again O.parts.1 e A;refine⟨c.k,y.c0,aL (λab=>⟨by omega,by omega,I.de O.parts.1 e λp A y=>⟨c.s,y.c3,?_⟩⟩) (λab=>B.ai λz q=>⟨⟨.mk 6 0 0 x.s x.l,rfl,?_,?_,λb h=>.inr ?_⟩,q.fr⟩)⟩
   .cases an:c.l with
    |nil=>
     rw[F,W]at N;have e2:c.rx.l.isEmpty=true:=by rw[v9,an];rfl
     simp[jU,h6,kH,ab,e2]at N
    |cons d l2=>
     have ap:c.l[0]? =some d:=by rw[an];rfl
     refine ia (pc O e) rfl ap (B.ai λz q=>⟨⟨d,rfl,?_,(pc (q.getD 0) e).parts.2.mem (aE ap),λb h=>.inr (fc e b (I.gb.2 (.inr (I.bM.2 ⟨d,aE ap,h⟩))))⟩,q.fr⟩);show d.rx=if c.rx.k=6 then _ else _;rw[aj (by rw[kH,ab]),v9,an];rfl
   .show Rx.mk 6 0 0 (I.au x.l)=if c.rx.k=6 then _ else _;rw[af (by rw[kH];exact ab),F,W]
   .unfold I.P;exact(show x.P z from q.getD 0).parts
   .unfold I.fp at h;exact I.gb.2 (aX.1 h)
 .
  cases F:x.l with
  |nil=>rw[F,al]at N;simp[jU,I.au]at N
  |cons c C=>
   have e:x.l[0]? =some c:=by rw[F];rfl
   have n2:0<x.s.n:=by rw[F]at nr;simp at nr;omega
   have W:I.au (c::C)=c.rx::I.au C:=rfl;have ef:hd (.mk x.k 0 0 (I.au (c::C)))=kK 0 0 (c.rx::I.au C):=by rw[al];rfl
   rw[ef];have ag:kK 0 0 (c.rx::I.au C)=if c.k=0\/c.k=1 then mO else if c.k=7\/a4 c.rx eD=0 then c.rx else .mk 7 0 0 (c.rx::I.au C):=by unfold kK;simp only[kH]
   have aQ:c.sz<=1000000:=by have:=I.eg (aE e);omega
   have s0:∀(z:J),¬(c.k=0\/c.k=1)->(c.k=7\/a4 c.rx eD=0)->LH F0 w z [.g H,.g L] [.tree x,.tree j]->hH.bq x.s H 0 0 0 ⟨none,0,0⟩ z λr Y=>fY x.fp w (kK 0 0 (c.rx::I.au C)) r Y/\ah w Y:=by intro z h1 Z q;refine⟨by omega,by omega,I.de (show x.P z from q.getD 0).parts.1 e λp A y=>⟨_,_,_,_,y.c0,y.c1,y.c2,y.c3,(q.take 1).ai λw7 E=>⟨⟨c,rfl,?_,pc (E.getD 0) e,λb h=>.inr (fc e b h)⟩,E.fr⟩⟩⟩;rw[ag,af h1,aj Z]
   refine⟨by omega,by omega,I.de (show x.P w3 from D.getD 0).parts.1 e λp A _=>D.ai λw5 B=>?_⟩;have O:x.P w5:=B.getD 0;have y:=I.again O.parts.1 e A;have aR:0<=c.k:=aB c (aE e);refine⟨c.k,y.c0,aG (λZ=>B.ai λz q=>⟨⟨fb,rfl,?_,xC z,λb h=>(xD h).elim⟩,q.fr⟩) (λZ=>?_)⟩
   .rw [ag,aj (by omega)];rfl
   refine⟨by omega,by omega,I.de O.parts.1 e λp A _=>B.ai λz q=>?_⟩;have aq:x.P z:=q.getD 0;have y:=I.again aq.parts.1 e A;refine⟨c.k,y.c0,aL (λam=>s0 z (by omega) (.inl am) q) (λam=>⟨by omega,by omega,I.de aq.parts.1 e λp A y=>⟨_,_,_,_,y.c0,y.c1,y.c2,y.c3,q.ay (qb c j z aQ (pc aq e) (q.getD 1)) ?_⟩⟩)⟩;rintro _ w7 rfl E;rw[ao];refine⟨_,rfl,aL (λh0=>s0 w7 (by omega) (.inr h0) E) (λh0=>E.ai λw8 V=>⟨⟨.mk 7 0 0 x.s x.l,rfl,?_,?_,λb h=>.inr ?_⟩,V.fr⟩)⟩
   .show Rx.mk 7 0 0 (I.au x.l)=_;rw[ag,af (by omega),af (λS=>S.elim am h0),F,W]
   .unfold I.P;exact(show x.P w8 from V.getD 0).parts
   .unfold I.fp at h;exact I.gb.2 (aX.1 h)
 .
  have aw:x.k=3\/x.k=4\/x.k=5:=by omega
  obtain⟨aZ,u,a5,ew,hj,gu,gz,hu,aF,aC,ax⟩:=aap x j aw ao;have loop:∀(d i:Nat) (acc:List I) (sl:Sl) (G:J),i+d=x.l.length->acc=(x.l.take i).flatMap (eP x)->LH F0 w G [.g H,.g L,.row aN 4 sl (acc.flatMap I.c)] [.tree x,.tree j]->
    hH.ct x.k x.s H 0 0 0 ⟨none,0,0⟩ L j.k j.lo.toNat j.U.toNat j.s sl (i:Int) G λr Y=>fY x.fp w (hd (.mk x.k 0 0 (I.au x.l))) r Y/\ah w Y:=by
   intro d;induction d with
   |zero=>
    intro i acc sl G hi T K;rw[eZ (by omega)]at T;subst T;have ar:Sub x (x.l.flatMap (eP x)):=Sub.flat λ_ S=>S;have Q:=(K.gx (.trees (x.l.flatMap (eP x))) (Fr.refl _ _) (ar.Ps (K.getD 0)) (λb h=>.inr (.inr ⟨_,aE (i:=0) rfl,aO.2 (ar.a9 (aO.1 h))⟩))).qS 2 2 0 0 0;have Q:LH F0 w G [.g H,.g L] [.tree x,.tree j,.tree (bI sl (x.l.flatMap (eP x)))]:=Q.forget _ (by simp);refine hH.dX _ _ _ _ _ _ _ _ _ _ _ _ _ _ _ _ (a1 (aV (by omega)) ?_);refine Q.cR (n:=3) (sz:=4) (cs:=[fb,b3,j].flatMap I.c) rfl (by decide) λw2 H2=>?_;rw[ew];refine⟨by omega,by omega,I.de (s:=⟨some (ae G.heap.size),3,3⟩) (l:=[fb,b3,j]) (H2.get 2:aK _ _ _ _ _).bc gu λp A c=>⟨_,_,_,_,c.c0,c.c1,c.c2,c.c3,H2.aJ λb8 w3 H3=>H3.ai λM D=>D.cR (n:=3) (sz:=4) (cs:=[b3,j,b3].flatMap I.c) rfl (by decide) λw5 B=>⟨by omega,by omega,I.de (s:=⟨some (ae M.heap.size),3,3⟩) (l:=[b3,j,b3]) (B.get 4:aK _ _ _ _ _).bc gz λp A c=>⟨_,_,_,_,c.c0,c.c1,c.c2,c.c3,B.aJ λb9 z q=>q.ai λw7 E=>?_⟩⟩⟩⟩;have V:=((E.freeze 1 (.g L) rfl (E.get 1) λb h=>h).freeze 1 _ rfl (E.get 2) λb h=>h).freeze 2 _ rfl (E.get 4) λb h=>h;exact YF hx ao aI hu aF aC ax (V.forget _ (by simp))
   |succ d aH=>
    intro i acc sl G hi T K;have e:x.l[i]? =some (x.l[i]'(by omega)):=a6 (by omega);generalize x.l[i]'(by omega)=a at e;have hm:=aE e;have ac:x.P G:=K.getD 0;have a2:=I.eg hm;have aU:I.aY acc<=I.aY x.l:=by have h1:=tE x (x.l.take i);have Z:=zi x.l i;rw[T];omega
    have aA:acc++eP x a=(x.l.take (i+1)).flatMap (eP x):=by rw[ej,e,cy,T];simp
    have a0:=I.cm (K.get 2:aK _ _ _ _ _).bc;have az:=I.fq acc;have tail:∀(s':Sl) (Y:J),LH F0 w Y [.g H,.g L,.row aN 4 s' ((acc++eP x a).flatMap I.c)] [.tree x,.tree j]->hH.bU x.k x.s H 0 0 0 ⟨none,0,0⟩ L j.k j.lo.toNat j.U.toNat j.s s' (i:Int) Y λr Y=>fY x.fp w (hd (.mk x.k 0 0 (I.au x.l))) r Y/\ah w Y:=by intro s' Y Q;show hH.ct _ _ _ _ _ _ _ _ _ _ _ _ _ _ _ _;rw[bd _ (by omega)];exact aH (i+1) _ s' Y (by omega) aA Q
    refine hH.dX _ _ _ _ _ _ _ _ _ _ _ _ _ _ _ _ (a3 (aP (by omega)) ⟨by omega,by omega,I.de ac.parts.1 e λp A c=>⟨a.k,c.c0,aL (λhk=>?_) (λhk=>?_)⟩⟩)
    .have pa:a.P G:=ac.parts.2.mem hm;have na:=I.cm pa.parts.1;have az:=I.fq a.l;have aT:=I.hQ a;refine⟨by omega,by omega,I.de ac.parts.1 e λp A c=>⟨a.s,c.c3,?_⟩⟩;refine K.dd 2 kr (xs:=acc.flatMap I.c) (src:=a.s) (news:=a.l.flatMap I.c) rfl pa.parts.1 (rV _) (by omega) (λs' M D=>?_);refine tail s' M ?_;have ad:eP x a=a.l:=aj hk;rw[ad,cy];exact D
    .refine ⟨by omega,by omega,I.de ac.parts.1 e λp A c=>⟨_,_,_,_,c.c0,c.c1,c.c2,c.c3,?_⟩⟩;refine K.iA 2 kr (xs:=acc.flatMap I.c) rfl (λs' M D=>?_) (by omega);refine tail s' M ?_;have ad:eP x a=[a]:=af hk;rw[ad,k2];exact D
  exact loop x.l.length 0 [] ⟨none,0,0⟩ M (by omega) rfl (B.h7 aN 4)
def uX(k:Int):Rx:=if k=3 then mO else if k=4 then fh else eD
def zX(k:Int):Rx:=if k=4 then eD else fh
mutual
def NF:Rx->Prop
 |.mk d lo e l=>mC l/\(d≠2->lo=0/\e=0)/\(((d=0\/d=1)/\l=[])\/(d=2/\l=[]/\lo.toNat<=e.toNat)\/
   ((d=3\/d=4\/d=5)/\2<=l.length/\(d≠3->iP l)/\∀t∈l,t.k≠d/\t≠uX d/\t≠zX d)\/
   (d=6/\∃c,l=[c]/\c.k≠6)\/(d=7/\∃c,l=[c]/\c.k≠0/\c.k≠1/\c.k≠7/\c≠eD))
def mC:List Rx->Prop
 |[]=>True
 |a::l=>NF a/\mC l
end
def ui:∀{l:List Rx},mC l↔∀t∈l,NF t
 |[]=>by unfold mC;simp
 |a::l=>by unfold mC;rw[ui];simp
def vI:NF fh:=by unfold fh NF mC;simp
def CR:NF mO:=by unfold mO NF mC;simp
def MN:NF eD:=by unfold eD NF mC mC;refine⟨⟨vI,trivial⟩,by simp,.inr (.inr (.inr (.inl ⟨rfl,fh,rfl,by decide⟩)))⟩
def W6(k:Int):NF (uX k):=by
 unfold uX;split
 .exact CR
 .split
  .exact vI
  .exact MN
def W7(k:Int):NF (zX k):=by
 unfold zX;split
 .exact MN
 .exact vI
def MO{x:Rx}(h:NF x):∀t∈x.l,NF t:=by cases x;unfold NF at h;exact ui.1 h.1
def W3{x:Rx}{k:Int}(q:k=3\/k=4\/k=5)(h:NF x)(d:x.k=k):2<=x.l.length/\(k≠3->iP x.l)/\∀t∈x.l,t.k≠k/\t≠uX k/\t≠zX k:=by
 cases x with
 |mk e lo j l=>
  have d:e=k:=d;subst d;unfold NF at h;obtain⟨-,-,h|h|h|h|h⟩:=h
  .omega
  .omega
  .exact h.2
  .omega
  .omega
def US{k:Int}{l:List Rx}{u t:Rx}:t∈gK k l u↔(∃c∈l,if c.k=k then t∈c.l else t=c)/\t≠u:=by
 unfold gK;rw[List.mem_filter,bA,GX];refine and_congr ⟨λ⟨c,h,e⟩=>⟨c,h,?_⟩,λ⟨c,h,e⟩=>⟨c,h,?_⟩⟩ Iff.rfl
 .split at e
  .rename_i d;rw[aj d];exact e
  .rename_i d;rw[af d];simpa using e
 .split at e
  .rename_i d;rw[aj d];exact e
  .rename_i d;rw[af d];simpa using e
def UT{k:Int}(w:k=3\/k=4\/k=5){l:List Rx}(h:∀c∈l,NF c){t:Rx}(x:t∈gK k l (uX k)):NF t/\t.k≠k/\t≠uX k:=by
 obtain⟨⟨c,j,d⟩,q⟩:=US.1 x;split at d
 .rename_i e;exact⟨MO (h c j) t d,((W3 w (h c j) e).2.2 t d).1,q⟩
 .rename_i e;subst d;exact⟨h t j,e,q⟩
def lD(k:Int)(l:List Rx):List Rx:=if k=3 then gK k l (uX k)else tj (gK k l (uX k))
def YB{k:Int}{l:List Rx}{t:Rx}:t∈lD k l↔t∈gK k l (uX k):=by
 unfold lD;split
 .exact Iff.rfl
 .exact O4
def IV(k:Int)(l:List Rx):((gK k l (uX k)).any λt=>a4 t (zX k)==0)=true↔zX k∈gK k l (uX k):=by
 rw[List.any_eq_true];constructor
 .rintro ⟨t,e,d⟩;rw[qh.1 d]at e;exact e
 .exact λd=>⟨_,d,qh.2 rfl⟩
def IX{k:Int}{l:List Rx}(h:zX k∈gK k l (uX k)):gC k l (uX k) (zX k)=zX k:=by unfold gC;rw[aj ((IV k l).2 h)]
def IW{k:Int}{l:List Rx}(h:¬zX k∈gK k l (uX k)):gC k l (uX k) (zX k)=su k (uX k) (lD k l):=by unfold gC;rw[af (λd=>h ((IV k l).1 d))];rfl
def VJ{k:Int}(y:k=3\/k=4\/k=5){l:List Rx}(h:∀c∈l,NF c):NF (gC k l (uX k) (zX k)):=by
 by_cases w:zX k∈gK k l (uX k)
 .rw [IX w];exact W7 k
 .rw [IW w];have e:∀t∈lD k l,NF t/\t.k≠k/\t≠uX k/\t≠zX k:=λt d=>by have d:=YB.1 d;obtain⟨j,B,q⟩:=UT y h d;exact⟨j,B,q,λz=>w (z▸d)⟩
  have x:k≠3->iP (lD k l):=λq=>by unfold lD;rw[af q];exact O3 _
  generalize lD k l=m at e x;unfold su;split
  .exact W6 k
  .exact (e _ (by simp)).1
  .rename_i A j;unfold NF;refine⟨ui.2 λt d=>(e t d).1,λ_=>⟨rfl,rfl⟩,.inr (.inr (.inl ⟨y,?_,x,λt d=>(e t d).2⟩))⟩;cases m with
   |nil=>exact absurd rfl A
   |cons a m=>
    cases m with
    |nil=>exact absurd rfl (j a)
    |cons b m=>simp
def BO{k:Int}(d:k=3\/k=4\/k=5)(lo U:UInt8)(l:List Rx):hd (.mk k lo U l)=gC k l (uX k) (zX k):=by rcases d with rfl|rfl|rfl<;>rfl
def Xl{c:Rx}(h:NF c):NF (o2 0 0 [c]):=by
 unfold o2;simp only;split
 .rename_i d;split
  .exact vI
  .rename_i j m k;exact MO h j (by rw[k];simp)
 .rename_i d;unfold NF;exact⟨ui.2 λt e=>by(simp at e;subst e;exact h),λ_=>⟨rfl,rfl⟩,.inr (.inr (.inr (.inl ⟨rfl,c,rfl,d⟩)))⟩
def Zy{c:Rx}(h:NF c):NF (kK 0 0 [c]):=by
 unfold kK;simp only;split
 .exact CR
 .rename_i d;split
  .exact h
  .rename_i e;unfold NF;exact⟨ui.2 λt j=>by(simp at j;subst j;exact h),λ_=>⟨rfl,rfl⟩,.inr (.inr (.inr (.inr ⟨rfl,c,rfl,λh=>d (.inl h),λh=>d (.inr h),λh=>e (.inl h),λh=>e (.inr (uK.2 h))⟩)))⟩
def qs{k:Int}{lo U:UInt8}{l:List Rx}(h:cN (.mk k lo U l)=true):dV l=true/\(k≠2->lo=0/\U=0)/\(((k=0\/k=1)/\l=[])\/(k=2/\l=[]/\lo.toNat<=U.toNat)\/(k=3\/k=4\/k=5)\/((k=6\/k=7)/\∃c,l=[c])):=by
 unfold cN at h;rw[bf]at h;obtain⟨q,d⟩:=h;have j:k≠2->lo=0/\U=0:=λe=>by
  have w:(k !=2)=true:=by simpa using e
  rw[w,Bool.true_and,Bool.not_eq_true',Bool.or_eq_false_iff]at q;simpa using q
 split at d
 .rename_i e;have:l=[]:=by simpa using d
  subst this;exact⟨rfl,j,.inl ⟨e,rfl⟩⟩
 .split at d
  .rename_i e;simp only[bf,decide_eq_true_eq]at d;have:l=[]:=by simpa using d.1
   subst this;exact⟨rfl,j,.inr (.inl ⟨e,rfl,d.2⟩)⟩
  .split at d
   .rename_i e;exact⟨d,j,.inr (.inr (.inl e))⟩
   .split at d
    .rename_i e;simp only[bf]at d;exact⟨d.2,j,.inr (.inr (.inr ⟨e,List.length_eq_one_iff.1 (eq_of_beq d.1)⟩))⟩
    .cases d
def W5{lo U:UInt8}(h:lo.toNat<=U.toNat):NF (.mk 2 lo U []):=by unfold NF mC;exact⟨trivial,λh=>absurd rfl h,.inr (.inl ⟨rfl,rfl,h⟩)⟩
mutual
def M0:∀k:Rx,cN k=true->NF (dL k)
 |.mk A lo z l,q=>by
  obtain⟨w,e,x⟩:=qs q;have j:=CV l w;unfold dL;rcases x with⟨d,rfl⟩|⟨rfl,rfl,y⟩|d|⟨d,c,rfl⟩
  .obtain ⟨rfl,rfl⟩:=e (by omega);rcases d with rfl|rfl
   .exact vI
   .exact CR
  .exact W5 y
  .rw [BO d];exact VJ d j
  .obtain ⟨rfl,rfl⟩:=e (by omega);have h:NF (dL c):=j _ (by unfold eO;simp);rcases d with rfl|rfl
   .exact Xl h
   .exact Zy h
def CV:∀l:List Rx,dV l=true->∀t∈eO l,NF t
 |[],_=>λt d=>by unfold eO at d;cases d
 |a::l,e=>λt d=>by
  unfold dV at e;rw[bf]at e;unfold eO at d;rcases av.1 d with rfl|d
  .exact M0 a e.1
  .exact CV l e.2 t d
end
section
variable {μ:Rx->Nat}
def JJ(p:Rx->Bool):∀l:List Rx,ms μ (l.filter p)<=ms μ l
 |[]=>bg _
 |a::l=>by
  have d:=JJ p l;rw[List.filter_cons];split
  .show μ a+_<=μ a+_;omega
  .show _<=μ a+_;omega
def vy:∀{l:List Rx} {a:Rx},a∈l->μ a<=ms μ l
 |b::l,a,d=>by
  rcases av.1 d with rfl|d
  .show μ a<=μ a+_;omega
  .have:=vy d;show μ a<=μ b+_;omega
def JK(h:∀d,1<=μ d):∀l:List Rx,l.length<=ms μ l
 |[]=>bg _
 |a::l=>by have:=JK h l;have:=h a;show l.length+1<=μ a+ms μ l;omega
def JI:∀(l:List Rx) (p:Rx),ms μ (jQ p l)<=ms μ l
 |[],p=>bg _
 |d::l,p=>by
  have:=JI l d;unfold jQ;split
  .show _<=μ d+ms μ l;omega
  .show μ d+_<=μ d+ms μ l;omega
def WU(l:List Rx):ms μ (tj l)<=ms μ l:=by
 have d:ms μ (qi (j7 l))<=ms μ (j7 l):=by
  cases j7 l with
  |nil=>exact bg _
  |cons a m=>have:=JI (μ:=μ) m a;show μ a+_<=μ a+_;omega
 rw[<-WT (Ej l)];exact d
def Cn(h:∀d,ms μ d.l<=μ d)(k:Int):∀l:List Rx,ms μ (l.flatMap λc=>if c.k=k then c.l else[c])<=ms μ l
 |[]=>bg _
 |c::l=>by
  have j:=Cn h k l;have e:=h c;rw[b',JH];show _<=μ c+ms μ l;split
  .omega
  .show (μ c+0)+_<=_;omega
def JL(h:∀e,ms μ e.l<=μ e)(k:Int)(l:List Rx):ms μ (lD k l)<=ms μ l:=by
 have d:ms μ (gK k l (uX k))<=ms μ l:=a8 (JJ _ _) (Cn h k l);unfold lD;split
 .exact d
 .exact a8 (WU _) d
end
def Ex:∀l:List Rx,Rx.aY l=ms Rx.sz l
 |[]=>rfl
 |a::l=>by unfold Rx.aY;rw[Ex l];rfl
def nk(k:Int)(lo U:UInt8)(l:List Rx):(Rx.mk k lo U l).sz=1+ms Rx.sz l:=by unfold Rx.sz;rw[Ex]
def PQ(x:Rx):ms Rx.sz x.l<=x.sz:=by cases x;rw[nk];simp only[Rx.l];omega
def Ci(x:Rx):ms dx x.l<=dx x:=by cases x;rw[oZ];simp only[Rx.l];omega
def WG(x:Rx):1<=dx x:=by cases x;rw[oZ];omega
mutual
def Cj:∀d:Rx,dx d<=d.sz
 |.mk h lo e l=>by rw[oZ,nk];have:=Jx l;omega
def Jx:∀l:List Rx,ms dx l<=ms Rx.sz l
 |[]=>bg _
 |a::l=>by have d:=Cj a;have e:=Jx l;show dx a+ms dx l<=a.sz+ms Rx.sz l;omega
end
def IY{k:Int}{l:List Rx}{P:Rx->Prop}(q:P (zX k))(j:P (uX k))(e:∀a,a∈lD k l->P a)(h:P (.mk k 0 0 (lD k l))):P (gC k l (uX k) (zX k)):=by
 by_cases d:zX k∈gK k l (uX k)
 .rw [IX d];exact q
 .rw [IW d];generalize w:lD k l=m at e h;unfold su;split
  .exact j
  .exact e _ (by simp)
  .exact h
def QA(k:Int):(uX k).sz<=2/\(zX k).sz<=2/\dx (uX k)=1/\dx (zX k)=1:=by
 unfold uX zX;refine⟨?_,?_,?_,?_⟩
 .split
  .decide
  .split<;>decide
 .split<;>decide
 .split
  .decide
  .split<;>decide
 .split<;>decide
def M6{k:Int}{c:Rx}(x:k=6\/k=7){P:Rx->Prop}(h:P fh)(j:P mO)(q:P c)(w:∀d∈c.l,P d)(e:P (.mk k 0 0 [c])):P (hd (.mk k 0 0 [c])):=by
 rcases x with rfl|rfl
 .show P (o2 0 0 [c]);unfold o2;simp only;split
  .split
   .exact h
   .rename_i d m y;exact w d (by rw[y];simp)
  .exact e
 .show P (kK 0 0 [c]);unfold kK;simp only;split
  .exact j
  .split
   .exact q
   .exact e
mutual
def CT:∀j:Rx,cN j=true->(dL j).sz<=2 *j.sz
 |.mk e lo w l,y=>by
  obtain⟨z,q,A⟩:=qs y;have h:=ys l z;have D:=nk e lo w l;rw[D];unfold dL;rcases A with⟨d,rfl⟩|⟨rfl,rfl,F⟩|d|⟨d,c,rfl⟩
  .obtain ⟨rfl,rfl⟩:=q (by omega);rcases d with rfl|rfl<;>decide
  .show (Rx.mk 2 lo w []).sz<=_;rw[nk];simp only[ms];omega
  .rw [BO d];have G:=JL (μ:=Rx.sz) PQ e (eO l);obtain⟨H,I,-,-⟩:=QA e;refine IY (P:=λk=>k.sz<=2 *(1+ms Rx.sz l)) (by omega) (by omega) (λa B=>?_) ?_
   .have:=vy (μ:=Rx.sz) B;omega
   .show (Rx.mk e 0 0 _).sz<=_;rw[nk];omega
  .obtain ⟨rfl,rfl⟩:=q (by omega);have x:eO [c]=[dL c]:=rfl;rw[x]at h ⊢;have h:(dL c).sz+0<=2 *(c.sz+0):=h;show _<=2 *(1+(c.sz+0));refine M6 (P:=λk=>k.sz<=2 *(1+(c.sz+0))) d (by show(1:Nat)<=_;omega) (by show(1:Nat)<=_;omega) (by omega) (λE C=>?_) ?_
   .have:=vy (μ:=Rx.sz) C;have:=PQ (dL c);omega
   .show (Rx.mk e 0 0 _).sz<=_;rw[nk];simp only[ms];omega
def ys:∀l:List Rx,dV l=true->ms Rx.sz (eO l)<=2 *ms Rx.sz l
 |[],_=>bg _
 |a::l,d=>by unfold dV at d;rw[bf]at d;have e:=CT a d.1;have h:=ys l d.2;show(dL a).sz+ms Rx.sz (eO l)<=2 *(a.sz+ms Rx.sz l);omega
end
mutual
def Xj:∀j:Rx,cN j=true->dx (dL j)<=dx j
 |.mk e lo w l,y=>by
  obtain⟨z,q,A⟩:=qs y;have h:=CU l z;have D:=oZ e lo w l;rw[D];unfold dL;rcases A with⟨d,rfl⟩|⟨rfl,rfl,F⟩|d|⟨d,c,rfl⟩
  .obtain ⟨rfl,rfl⟩:=q (by omega);rcases d with rfl|rfl<;>decide
  .show dx (Rx.mk 2 lo w [])<=_;rw[oZ];simp only[ms];omega
  .rw [BO d];have G:=JL (μ:=dx) Ci e (eO l);obtain⟨-,-,H,I⟩:=QA e;refine IY (P:=λk=>dx k<=max 1 (ms dx l)) (by omega) (by omega) (λa B=>?_) ?_
   .have:=vy (μ:=dx) B;omega
   .show dx (Rx.mk e 0 0 _)<=_;rw[oZ];omega
  .obtain ⟨rfl,rfl⟩:=q (by omega);have x:eO [c]=[dL c]:=rfl;rw[x]at h ⊢;have h:dx (dL c)+0<=dx c+0:=h;show _<=max 1 (dx c+0);refine M6 (P:=λk=>dx k<=max 1 (dx c+0)) d (by show(1:Nat)<=_;omega) (by show(1:Nat)<=_;omega) (by omega) (λE C=>?_) ?_
   .have:=vy (μ:=dx) C;have:=Ci (dL c);omega
   .show dx (Rx.mk e 0 0 _)<=_;rw[oZ];simp only[ms];omega
def CU:∀l:List Rx,dV l=true->ms dx (eO l)<=ms dx l
 |[],_=>bg _
 |a::l,d=>by unfold dV at d;rw[bf]at d;have e:=Xj a d.1;have h:=CU l d.2;show dx (dL a)+ms dx (eO l)<=dx a+ms dx l;omega
end
def Ig{N:Nat}{k:Int}{lo U:UInt8}{l:List Rx}(h:cN (.mk k lo U l)=true)(D:(Rx.mk k lo U l).sz<=10000)(q:nK N (.mk k lo U l)):qI N (.mk k lo U (eO l))=true:=by
 obtain⟨e,I,y⟩:=qs h;have Q:=ys l e;have P:=CU l e;rw[nk]at D;unfold nK at q;unfold qI;rw[bf,bf];refine⟨⟨?_,aP (by rw[nk];omega)⟩,?_⟩
 .unfold jU;rw[bf,bf];refine⟨⟨aP (by omega),aP (by omega)⟩,?_⟩;rcases y with⟨d,rfl⟩|⟨d,rfl,O⟩|d|⟨d,c,rfl⟩
  .show (k !=6&&k !=7)=true;rcases d with rfl|rfl<;>rfl
  .subst d;rfl
  .cases eO l with
   |nil=>rcases d with rfl|rfl|rfl<;>rfl
   |cons a m=>rcases d with rfl|rfl|rfl<;>rfl
  .show (!(k==6&&(dL c).k==6&&(dL c).l.isEmpty))=true;have A:cN c=true:=by unfold dV at e;rw[bf]at e;exact e.1
   have j:=M0 c A;generalize dL c=G at j;cases G with
   |mk w F C E=>
    by_cases x:w=6
    .unfold NF at j;obtain⟨-,-,h|h|h|⟨_,H,B,_⟩|h⟩:=j
     .omega
     .omega
     .omega
     .rw [B];simp[Rx.l]
     .omega
    .have:(Rx.k (.mk w F C E)==6)=false:=by simpa[Rx.k]using x
     rw[this];simp
 .show aq (k=4\/k=5->sS k (eO l)<=N)=true;refine aP λz=>?_;have K:=JK WG ((eO l).flatMap λc=>if c.k=k then c.l else[c]);have L:=Cn (μ:=dx) Ci k (eO l);have M:=q.2 z;show((eO l).flatMap λc=>if c.k=k then c.l else[c]).length<=N;omega
mutual
def Ia{N:Nat}:∀d:Rx,cN d=true->d.sz<=10000->nK N d->oN N d=true
 |.mk w lo q l,h,j,e=>by obtain⟨k,-,-⟩:=qs h;unfold oN;rw[Ig h j e,Bool.and_true];rw[nk]at j;unfold nK at e;exact Ib l k (by omega) e.1
def Ib{N:Nat}:∀l:List Rx,dV l=true->ms Rx.sz l<=10000->qp N l->qq N l=true
 |[],_,_,_=>rfl
 |a::l,d,h,e=>by unfold dV at d;rw[bf]at d;unfold qp at e;have h:a.sz+ms Rx.sz l<=10000:=h;unfold qq;rw[Ia a d.1 (by omega) e.1,Ib l d.2 (by omega) e.2];rfl
end
set_option maxRecDepth 100000
set_option maxHeartbeats 2000000
namespace N7
noncomputable abbrev t0:=aA aa Tryz.f137 [(4,ls [1,0,2,3,4,5,6,7])] [1,2]
def aD:=aB t0 CB [.a 4,.I,.Y,.Y,.s]
end N7
def W4{x:Rx}(h:NF x):0<=x.k:=by cases x;unfold NF at h;simp only[Rx.k];omega
def Xk{x:Rx}(h:cN x=true)(d:x.k<3):dL x=x:=by
 cases x with
 |mk j lo y l=>
  have z:j<3:=d;clear d;obtain⟨q,w,e⟩:=qs h;rcases e with⟨d,rfl⟩|⟨rfl,rfl,A⟩|d|⟨d,c,rfl⟩
  .rcases d with rfl|rfl<;>rfl
  .rfl
  .omega
  .omega
abbrev RH(n:Nat):Prop:=∀(x:I) (w:J),x.sz<=n->cN x.rx=true->x.P w->ak aa vA #[x.v] w λr d=>fY x.fp w (dL x.rx) r d/\ah w d
def Gt:∀n:Nat,n<=1000->RH n
 |0,_=>λe w Z _ _=>absurd Z (by have:=I.lH e;omega)
 |n+1,hn=>λe w Z aa px=>by
  have ih:=Gt n (by omega);have hs:=I.hQ e;have hl:=I.fq e.l;have nr:=I.cm px.parts.1;refine u4.aD _ _ _ _ w _ ((gE px).aJ λD j H1=>H1.aJ λE O x=>aG (λhk=>x.ai λQ y=>⟨⟨e,rfl,(Xk aa (by rw[kH];exact hk)).symm,y.getD 0,λb h=>.inr h⟩,y.fr⟩) (λhk=>?_));have H:=aa;rw[I.e0]at H;obtain⟨K,ag,an⟩:=qs H;obtain⟨V,T⟩:=ag (by omega);have ac:dL e.rx=hd (.mk e.k 0 0 (eO (I.au e.l))):=by rw[I.e0,V,T];unfold dL;rfl
  have loop:∀(d i:Nat) (acc:List I) (sl:Sl) (j:J),i+d=e.l.length->I.au acc=eO (I.au (e.l.take i))->(∀b∈I.a9 acc,w.heap.size<=b\/b∈e.fp)->
    LH F0 w j [.g D,.g E,.row aN 4 sl (acc.flatMap I.c)] [.tree e,.trees acc]->
    u4.a2 D e.k e.lo.toNat e.U.toNat e.s E 0 0 0 ⟨none,0,0⟩ sl (i:Int) j λr w'=>fY e.fp w (dL e.rx) r w'/\ah w w':=by
   intro d;induction d with
   |zero=>
    intro i acc sl j hi z G q;rw[eZ (by omega)]at z;have aj:∀b∈(I.row sl acc).fp,w.heap.size<=b:=λb h=>(q.new _ (aE (i:=2) rfl) b (gi h)).resolve_right id;have S:LH F0 w j [.g D,.g E] [.tree e,.trees acc,I.row sl acc,.tree (.mk e.k 0 0 sl acc)]:=q.qS 2 1 e.k 0 0;have W:Rx.mk e.k 0 0 (I.au acc)=.mk e.k 0 0 (eO (I.au e.l)):=by rw[z]
    have al:(Rx.mk e.k e.lo e.U (I.au e.l)).sz<=10000:=by rw[<-I.e0,I.eB];omega
    have L:=Ig (N:=100000) H al (BH _ (by have af:∀ab:Rx,dx ab<=ab.sz:=Cj;have:=af (Rx.mk e.k e.lo e.U (I.au e.l));omega))
    unfold qI at L;rw[bf,bf]at L;have ak:(I.mk e.k 0 0 sl acc).sz<=10000:=by have A:=I.eB (I.mk e.k 0 0 sl acc);have h2:=ys (I.au e.l) K;have h3:=I.v' e.l;rw[Ex]at h3;rw[<-A];show(Rx.mk e.k 0 0 (I.au acc)).sz<=_;rw[W,nk];omega
    have ae:jU (.mk e.k 0 0 (I.au acc))=true:=by rw[W];have:=L.1.1;rw[V,T]at this;exact this
    refine u4.bB _ _ _ _ _ _ _ _ _ _ _ _ _ _ (a1 (aV (by omega)) ?_);refine S.qf (TE (.mk e.k 0 0 sl acc) ⟨by show 3<=e.k;omega,by show e.k<=7;omega⟩ ak ae (λc hc=>?_) j (S.getD 3)) (λb h=>⟨_,aE (i:=3) rfl,aO.2 h⟩) λt O M x F=>?_
    .have ad:c.rx∈eO (I.au e.l):=by rw[<-z,I.fk];exact ch.2 ⟨c,hc,rfl⟩
     have:=W4 (CV (I.au e.l) K _ ad)
     rwa[kH]at this
    refine⟨_,_,_,t.s,rfl,x.ai λQ y=>⟨⟨t,rfl,?_,y.getD 4,λb h=>?_⟩,y.fr⟩⟩
    .rw [M,ac];show hd (Rx.mk e.k 0 0 (I.au acc))=_;rw[z]
    .rcases F b h with h|h
     .exact .inl (a8 q.fr.size h)
     .unfold I.fp at h;rcases aX.1 h with h|h
      .exact .inl (aj b h)
      .exact G b h
   |succ d am=>
    intro i acc sl j hi z G q;have B:e.l[i]? =some (e.l[i]'(by omega)):=a6 (by omega);generalize e.l[i]'(by omega)=a at B;have C:=aE B;have aq:=I.eg C;have ga:cN a.rx=true:=Is K (by rw[I.fk];exact ch.2 ⟨a,C,rfl⟩);have Y:∀b∈a.fp,b∈e.fp:=λb h=>I.gb.2 (.inr (I.bM.2 ⟨a,C,h⟩));refine u4.bB _ _ _ _ _ _ _ _ _ _ _ _ _ _ (a3 (aP (by omega)) (ia (show e.P j from q.getD 0) rfl B ?_));refine q.qf (ih a j (by omega) ga ((show e.P j from q.getD 0).parts.2.mem C)) (λb h=>⟨_,aE (i:=0) rfl,aO.2 (Y b h)⟩) λt O M x F=>?_;have ap:=I.cm (x.get 2:aK _ _ _ _ _).bc;have ao:acc.length=i:=by have A:=congrArg List.length z;rw[I.fk,qG,I.fk]at A;simp only[List.length_map,eA]at A;omega
    refine⟨_,_,_,t.s,rfl,x.iA 2 kr (xs:=acc.flatMap I.c) rfl (λs' Q y=>?_) (by omega)⟩;have H4:=(y.qX 1 2).take 3;rw[bd _ (by omega)];refine am (i+1) (acc++[t]) s' Q (by omega) ?_ (sv G λb h=>?_) ?_
    .rw [jz,z,ej,B,Option.toList_some,jz,qG,qG,g2];show _++[t.rx]=_;rw[M];rfl
    .rcases F b h with h|h
     .exact .inl (a8 q.fr.size h)
     .exact .inr (Y b h)
    .rw [k2];exact H4.forget _ (by simp)
  exact loop e.l.length 0 [] ⟨none,0,0⟩ O (by omega) rfl (λb h=>by unfold I.a9 at h;cases h) (MW (x.h7 aN 4))
def Gs(x:I)(w:J)(h:x.sz<=1000)(e:cN x.rx=true)(j:x.P w):ak aa vA #[x.v] w λr d=>fY x.fp w (dL x.rx) r d/\ah w d:=Gt 1000 (bg _) x w h e j
def iK(x:Rx):Rx:=if jF x=0 then oY (dL x)else fh
def nW(x:Rx):Int:=if jF x=0 then oX (dL x)else jF x
def Fs(d:List Nat)(w:J)(x:Rx)(c:Int)(r:cr)(Y:J):Prop:=∃t:I,r=ag (.tuple #[t.v,.int .i64 c])/\t.rx=x/\t.P Y/\∀b∈t.fp,w.heap.size<=b\/b∈d
def Te(x:I)(w:J)(h:x.sz<=1000000)(A:x.P w):ak aa J' #[x.v] w λr q=>Fs x.fp w (oY x.rx) (oX x.rx) r q/\ah w q:=by
 refine Hy.aD _ _ _ _ w _ ((gE A).aJ λD F y=>y.aJ λE B j=>j.ay (AK x B h (j.getD 0)) ?_);rintro _ G rfl k;refine⟨_,rfl,aG (λz=>k.ai λC d=>⟨⟨b3,?_,?_,j2 _,λb e=>(j3 e).elim⟩,d.fr⟩) (λz=>k.ai λC d=>⟨⟨x,?_,?_,d.getD 0,λb e=>.inr e⟩,d.fr⟩)⟩
 .unfold oX;rw[I.eB,aj (by omega)];rfl
 .unfold oY;rw[I.eB,aj (by omega)];rfl
 .unfold oX;rw[I.eB,af (by omega)]
 .unfold oY;rw[I.eB,af (by omega)]
def TC(x:I)(w:J)(h:x.sz<=1000000)(O:x.P w):ak aa J3 #[x.v] w λr E=>Fs x.fp w (iK x.rx) (nW x.rx) r E/\ah w E:=by
 refine Hu.aD _ _ _ _ w _ ((gE O).aJ λU Y G=>G.aJ λV S y=>y.ay (TD x S h (y.getD 0)) ?_);rintro _ T rfl j;unfold iK nW;refine⟨_,rfl,dv (λD=>j.ai λF e=>⟨⟨b3,?_,?_,j2 _,λb d=>(j3 d).elim⟩,e.fr⟩) (λk=>?_)⟩
 .rw [af D];rfl
 .rw [af D];rfl
 obtain⟨C,L⟩:=EU k;have W:x.sz<=64:=by rw[<-I.eB];exact L
 rw[aj k,aj k];refine j.qf (Gs x T (by omega) C (j.getD 0)) (λb d=>⟨_,aE (i:=0) rfl,aO.2 d⟩) λt F q e K=>?_;have Q:t.sz<=1000000:=by have:=CT _ C;rw[<-I.eB,q];omega
 refine⟨_,_,_,t.s,rfl,ha ((Te t F Q (e.getD 1)).mono ?_)⟩;rintro _ Z ⟨⟨u,rfl,M,N,B⟩,A⟩;have H:=e.gx (.tree u) A N λb d=>(B b (aO.1 d)).imp id λd=>.inr ⟨_,aE (i:=1) rfl,aO.2 d⟩;refine⟨A,_,_,_,u.s,_,rfl,H.ai λw6 z=>⟨⟨u,by rw[q],by rw[M,q],z.getD 2,λb d=>?_⟩,z.fr⟩⟩;rcases B b d with d|d
 .exact .inl (a8 e.fr.size d)
 .exact (K b d).imp (λd=>a8 j.fr.size d) id
def SR{N:Nat}(T:rG N)(S:N+1<=1000000)(x:I)(w:J)(h:x.sz<=1000000)(U:nK N x.rx)(px:x.P w):ak aa CB #[x.v] w λr F=>Fu w (iK x.rx) (nW x.rx) r F/\ah w F:=by
 refine N7.aD _ _ _ _ w _ ((gE px).aJ λb1 w1 M=>M.aJ λb2 w2 z=>z.ay (F6 x w2 h (z.getD 0)) ?_);rintro _ w3 rfl A;unfold iK nW;refine⟨_,rfl,dv (λE=>A.ai λG e=>⟨⟨b3,?_,?_,j2 _,λb d=>(j3 d).elim⟩,e.fr⟩) (λq=>A.ai λG e=>e.hD (Ti G) ?_)⟩
 .rw [af E];rfl
 .rw [af E];rfl
 rintro _ w5 ⟨H,rfl,Q,Y,W⟩ _ K;have j:=K.rd (.fm H) Y W;obtain⟨D,hs⟩:=EU q;rw[aj q,aj q];refine⟨_,rfl,j.qf (Tv T S Q x w5 h (Ia _ D (by omega) U) (j.getD 1) (j.getD 0)) (λb d=>?_) λt w6 y k _=>?_⟩
 .rcases aX.1 d with d|d
  .exact ⟨_,aE (i:=0) rfl,aO.2 d⟩
  .exact ⟨_,aE (i:=1) rfl,d⟩
 have ab:t.sz<=1000000:=by have:=CT _ D;rw[<-I.eB,y];omega
 refine⟨_,_,_,t.s,rfl,k.hD (Ts t w6 ab (k.getD 2)) ?_⟩;rintro _ w7 ⟨u,rfl,V,Z,C⟩ _ L;have O:=L.rd (.tree u) Z λb d=>C b (aO.1 d);exact⟨_,_,_,u.s,_,rfl,O.ai λw8 B=>⟨⟨u,by rw[y],by rw[V,y],B.getD 3,λb d=>a8 k.fr.size (C b d)⟩,B.fr⟩⟩
abbrev BL:=List UInt8
def gQ(s:BL)(i:Nat):UInt8:=s.getD i 0
def m5(c:UInt8):Bool:=aq (32<=c.toNat)&&aq (c.toNat<=126)&&!(c==39)&&!(c==92)
def ez(c:UInt8):Bool:=aq (97<=c.toNat)&&aq (c.toNat<=122)
def h0(n:Nat):UInt8:=cI (if n<10 then 48+n else 87+n)
def gh(c:UInt8):Int:=if 48<=c.toNat/\c.toNat<=57 then(c.toNat:Int) - 48 else if 97<=c.toNat/\c.toNat<=102 then(c.toNat:Int) - 87 else -1
def g'(s:BL)(at_:Nat):UInt8×Nat:=
 if(aq (at_+3<=s.length)&&gQ s at_==39&&gQ s (at_+2)==39&&m5 (gQ s (at_+1)))=true then(gQ s (at_+1),3)
 else if(aq (at_+4<=s.length)&&gQ s at_==92&&gQ s (at_+1)==120&&aq (0<=gh (gQ s (at_+2)))&&aq (0<=gh (gQ s (at_+3))))=true then(cI ((16 *gh (gQ s (at_+2))+gh (gQ s (at_+3))).toNat),4)
 else(0,0)
structure dA where
 tx:BL
 at_:Nat
 k:Nat
 lo:UInt8
 U:UInt8
structure An where
 k:Nat
 lo:UInt8
 U:UInt8
 n:Nat
def qF:An:=⟨0,0,0,0⟩
def jx(s:BL)(i:Nat):An:=
 let a:=g' s i
 if 0<a.2 then⟨2,a.1,a.1,a.2⟩else if gQ s i≠91 then qF else
 let b:=g' s (i+1)
 let dash:=i+1+b.2
 if b.2=0\/s.length<=dash\/gQ s dash≠45 then qF else
 let c:=g' s (dash+1)
 let fin:=dash+1+c.2
 if c.2=0\/s.length<=fin\/gQ s fin≠93\/c.1.toNat<b.1.toNat then qF else⟨2,b.1,c.1,fin+1 - i⟩
def nc(s:BL)(i:Nat):Nat->Nat->Nat
 |0,n=>n
 |f+1,n=>if(ez (gQ s i)&&aq (i+n<s.length)&&ez (gQ s (i+n)))=true then nc s i f (n+1)else n
def og(s:BL):Nat->Nat->List dA
 |0,_=>[⟨[],s.length,0,0,0⟩]
 |f+1,i=>if s.length<=i then[⟨[],s.length,0,0,0⟩]else if gQ s i=32 then og s f (i+1)else
  let r:=jx s i
  let n:=if r.n=0 then nc s i s.length 1 else r.n
  ⟨(s.take (i+n)).drop i,i,r.k,r.lo,r.U⟩::og s f (i+n)
def mm(s:BL):List dA:=og s (s.length+1) 0
abbrev bH:=Nat×Bool
section
variable (l:List dA)
def ft(i:Nat):dA:=l.getD i ⟨[],0,0,0,0⟩
def e1(st:bH):BL:=bif st.2 then[32]else(ft l st.1).tx
def eJ(s:BL)(st:bH):Bool×bH:=bif e1 l st==s then(true,bif s.isEmpty then st else(st.1+1,st.2))else(false,st)
def j1(s:BL)(st:bH):bH:=match eJ l s st with
 |(true,st)=>st
 |(false,st)=>(st.1,true)
def xg(st:bH):Bool:=!st.2&&!(e1 l st==[])&&!(e1 l st==[41])&&!(e1 l st==[44])&&!(e1 l st==[124])&&!(e1 l st==[38])
def qt(k:Int):List Rx->Rx
 |[a]=>a
 |m=>.mk k 0 0 m
def mu:Nat->BL
 |0=>[110,111,110,101]
 |1=>[101,109,112,116,121]
 |3=>[99,97,116]
 |4=>[97,108,116]
 |5=>[97,108,108]
 |_=>[]
def kN(st:bH):Nat->Nat->Option Nat
 |0,_=>none
 |f+1,d=>bif Nat.beq d 2||!(e1 l st==mu d)then kN st f (d+1)else some d
mutual
def ku:Nat->bH->Option (Rx×bH)
 |0,_=>none
 |f+1,st=>match nG f st with
  |some (a,st)=>rL f [a] st
  |none=>none
def rL:Nat->List Rx->bH->Option (Rx×bH)
 |0,_,_=>none
 |f+1,acc,st=>match eJ l [124] st with
  |(true,st)=>match nG f st with
   |some (a,st)=>rL f (acc++[a]) st
   |none=>none
  |(false,st)=>some (qt 4 acc,st)
def nG:Nat->bH->Option (Rx×bH)
 |0,_=>none
 |f+1,st=>match n7 f st with
  |some (a,st)=>rO f [a] st
  |none=>none
def rO:Nat->List Rx->bH->Option (Rx×bH)
 |0,_,_=>none
 |f+1,acc,st=>match eJ l [38] st with
  |(true,st)=>match n7 f st with
   |some (a,st)=>rO f (acc++[a]) st
   |none=>none
  |(false,st)=>some (qt 5 acc,st)
def n7:Nat->bH->Option (Rx×bH)
 |0,_=>none
 |f+1,st=>match l5 f st with
  |some (a,st)=>sE f [a] st
  |none=>none
def sE:Nat->List Rx->bH->Option (Rx×bH)
 |0,_,_=>none
 |f+1,acc,st=>bif xg l st then match l5 f st with
   |some (a,st)=>sE f (acc++[a]) st
   |none=>none
  else some (qt 3 acc,st)
def l5:Nat->bH->Option (Rx×bH)
 |0,_=>none
 |f+1,st=>match eJ l [33] st with
  |(true,st)=>match l5 f st with
   |some (a,st)=>some (.mk 6 0 0 [a],st)
   |none=>none
  |(false,st)=>match p0 f st with
   |some (a,st)=>wj f a st
   |none=>none
def wj:Nat->Rx->bH->Option (Rx×bH)
 |0,_,_=>none
 |f+1,a,st=>match eJ l [42] st with
  |(true,st)=>wj f (.mk 7 0 0 [a]) st
  |(false,st)=>some (a,st)
def p0:Nat->bH->Option (Rx×bH)
 |0,_=>none
 |f+1,st=>bif !st.2&&Nat.beq (ft l st.1).k 2 then some (.mk 2 (ft l st.1).lo (ft l st.1).U [],(st.1+1,st.2))else match kN l st 6 0 with
  |some d=>bif Nat.ble d 2 then some (.mk d 0 0 [],(st.1+1,st.2))else match qv f (st.1+1,st.2)with
   |some (m,st)=>some (.mk d 0 0 m,st)
   |none=>none
  |none=>let st:=j1 l [40] st
   bif st.2 then some (fh,st)else match ku f st with
   |some (a,st)=>some (a,j1 l [41] st)
   |none=>none
def qv:Nat->bH->Option (List Rx×bH)
 |0,_=>none
 |f+1,st=>match eJ l [41] (j1 l [40] st)with
  |(d,st)=>bif st.2||d then some ([],st)else match ku f st with
   |some (a,st)=>vx f [a] st
   |none=>none
def vx:Nat->List Rx->bH->Option (List Rx×bH)
 |0,_,_=>none
 |f+1,acc,st=>match eJ l [44] st with
  |(true,st)=>match ku f st with
   |some (a,st)=>vx f (acc++[a]) st
   |none=>none
  |(false,st)=>some (acc,j1 l [41] st)
end
end
def sR(s:BL):Option (Rx×Nat×Int):=
 if 4096<s.length then some (fh,4096,4)else
 let l:=mm s
 match ku l 1000 (0,false)with
 |some (r,st)=>let st:=j1 l [] st
  if st.2=true then some (fh,(ft l st.1).at_,2)else if 1000000<r.sz then none else if 64<r.sz then some (fh,s.length,4)else some (r,0,0)
 |none=>none
def dB(c:UInt8):BL:=if m5 c=true then[39,c,39]else[92,120,h0 (c.toNat / 16),h0 (c.toNat%16)]
def cM:Rx->Nat
 |.mk d _ _ l=>if d=6 then 3 else if d<3\/d=7\/l.length<2 then 4 else if d=3 then 2 else if d=4 then 0 else 1
def cO(d:Nat)(a:Rx)(t:BL):BL:=if cM a<d then 40::(t++[41])else t
def qC(k:Int):BL:=if k=3 then[99,97,116,40]else if k=4 then[97,108,116,40]else[97,108,108,40]
def gG(k:Int):BL:=if k=3 then[]else if k=4 then[124]else[38]
def jY(t:BL):UInt8:=t.getLastD 0
def iW(k:Int):BL->List BL->BL
 |out,[]=>out
 |out,t::d=>iW k ((if k=3/\ez (jY out)=true/\ez (gQ t 0)=true then out++[32]else out)++gG k++t) d
def jq:List BL->BL
 |[]=>[]
 |t::_=>t
def xV(k:Int):List BL->BL
 |[]=>[]
 |t::d=>iW k t d
mutual
def bb:Rx->BL
 |.mk d lo e l=>if d=0 then[110,111,110,101]else if d=1 then[101,109,112,116,121]else
  if d=2 then(if lo=e then dB lo else 91::(dB lo++45::(dB e++[93])))else
  if d=6 then 33::jq (dm 3 l)else if d=7 then jq (dm 4 l)++[42]else
  if l.length<2 then qC d++(jq (dm 0 l)++[41])else
  xV d (dm (cM (.mk d lo e l)+1) l)
def dm(d:Nat):List Rx->List BL
 |[]=>[]
 |a::l=>cO d a (bb a)::dm d l
end
mutual
def h8:Rx->Bool
 |.mk d _ _ l=>aq (0<=d)&&aq (d<=7)&&(aq (d<6)||aq (l.length=1))&&m4 l
def m4:List Rx->Bool
 |[]=>true
 |a::l=>h8 a&&m4 l
end
def rW(s:BL):Option Bool:=match sR s with
 |some (r,_,d)=>if d=0 then(if nW r=0 then(if h8 (iK r)=true/\(iK r).sz<=1000 then some (cO 0 (iK r) (bb (iK r))==s)else none)else some false)else some false
 |none=>none
def y2(a b:UInt8):Rx:=.mk 2 a b []
def eL:Nat->Rx
 |0=>y2 97 97
 |1=>y2 98 98
 |2=>y2 0 0
 |3=>y2 97 98
 |4=>mO
 |_=>eD
def BP(a b c:Rx):Nat->Rx
 |0=>a
 |1=>.mk 3 0 0 [a,b]
 |2=>.mk 4 0 0 [a,b,c]
 |3=>.mk 7 0 0 [a]
 |4=>.mk 3 0 0 [.mk 7 0 0 [a],b]
 |5=>.mk 6 0 0 [.mk 3 0 0 [a,b]]
 |6=>.mk 3 0 0 [b,.mk 7 0 0 [.mk 4 0 0 [a,c]]]
 |_=>.mk 5 0 0 [.mk 6 0 0 [b],.mk 3 0 0 [a,eD]]
def lI(k:Nat):BL:=bb (dL (BP (eL (k%6)) (eL (k / 6%6)) (eL (k / 36%6)) (k / 216%8)))
namespace PN
noncomputable abbrev t0:=aA aa Tryz.f196 [] []
def ok:=aB t0 L8 [.st,.Y]
end PN
namespace IP
noncomputable abbrev t0:=aA aa Tryz.f211 [] []
def ok:=aB t0 KX [.st,.Y]
end IP
namespace Ov
noncomputable abbrev t0:=aA aa Tryz.f197 [] []
def ok:=aB t0 LA [.Y]
end Ov
namespace Oo
noncomputable abbrev t0:=aA aa Tryz.f212 [] []
def ok:=aB t0 Lw [.Y]
end Oo
namespace yY
noncomputable abbrev t0:=aA aa Tryz.f198 [(4,ls [0,1,2,3,5,6,7,8,4,9,10,11])] []
noncomputable abbrev S1:=ax t0 [3] []
noncomputable abbrev t1:=az S1
noncomputable abbrev S0:=ax t1 [2] [(0,.v [.st]),(1,.v [.I])]
noncomputable abbrev t2:=az S0
def ok:=aB t2 Lk [.st,.I]
end yY
namespace td
noncomputable abbrev t0:=aA aa Tryz.f167 [] [4]
abbrev P0:Ps:=[(0,.v [.st]),(1,.v [.I]),(4,.l [.Y,.Y,.Y,.st,.I] nn),(7,.v [.I])]
noncomputable def ct:=bj t0 [0,2,1,1,3,2,2] P0
noncomputable abbrev t1:=bh ct
noncomputable abbrev bU:=ax t1 [2,1,3,2,2] P0
noncomputable abbrev t2:=az bU
def dX:=bm t2 ct
noncomputable abbrev gI:=ax t2 [3] [(1,.v [.I]),(4,.l [.Y,.Y,.Y,.st,.I] nn)]
noncomputable abbrev t3:=az gI
noncomputable abbrev jM:=ax t3 [5,1,5,2,2] [(0,.v [.st]),(1,.v [.I]),(4,.l [.Y,.Y,.Y,.st,.I] nn),(8,.v [.Y]),(10,.v [.b]),(11,.v [.I]),(12,.v [.Y])]
noncomputable abbrev t4:=az jM
noncomputable abbrev cJ:=ax t4 [2,1,5,2,2] [(0,.v [.st]),(1,.v [.I]),(4,.l [.Y,.Y,.Y,.st,.I] nn),(8,.v [.Y]),(10,.v [.b]),(11,.v [.I])]
noncomputable abbrev t5:=az cJ
noncomputable abbrev bq:=ax t5 [2] [(0,.v [.st]),(1,.v [.I]),(4,.l [.Y,.Y,.Y,.st,.I] nn),(6,.v [.Y])]
noncomputable abbrev t6:=az bq
def aD:=aB t6 CK [.st,.I]
end td
namespace y0
noncomputable def C0:Code:=(Tryz.f166.body).getD .skip
noncomputable def C1:=C0.fs
noncomputable def C2:=C1.sn
noncomputable def C3:=C2.fs
noncomputable def C4:=C3.fs
noncomputable def C5:=C0.sn
abbrev Q0(R:aH):hx:=(Exit.then (fu aa (cx 39) C5 (bodyPost aa Tryz.f166 R)) (bodyPost aa Tryz.f166 R))
abbrev Q1(R:aH):hx:=(Exit.inBlock 0 (Q0 R))
def L0(h:Nat)(e:Addr)(d:Int)(w:J)(R:aH):Prop:=LP aa (cx 39) C4 (Q1 R) [(0,.func (.yield h) #[] #[]),(1,.pointer (some e)),(3,.i d)] w
def oy(E:Env)(w:J)(R:aH):Prop:=W.Az (Env.get? E 0) λh=>W.cu (Env.get? E 1) λe=>W.asInt .i64 (Env.get? E 3) λd=>L0 h e d w R
def rA:Ae aa 39 oy C4 Q1:=by intro z y C e;obtain⟨D,q,h⟩:=W.R0 e;obtain⟨B,w,j⟩:=W.cF h;obtain⟨A,x,k⟩:=W.gJ j;intro a d;exact k a (d.cons q (d.cons w (d.cons x d.nil)))
noncomputable def C6:=C4.fs
noncomputable def C7:=C4.sn
noncomputable def C8:=C7.fs
noncomputable def C9:=C8.fs
noncomputable def lN:=C9.sn
noncomputable def jI:=lN.fs
noncomputable def mw:=C8.sn
noncomputable def ns:=mw.sn
noncomputable def nt:=ns.fs
noncomputable def jJ:=ns.sn
noncomputable def jK:=C6.sn
noncomputable def mx:=jK.fs
noncomputable def my:=jI.sn
noncomputable def mz:=lN.sn
noncomputable def kc:=nt.sn
noncomputable def kS:=kc.fs
noncomputable def ow:=kc.sn
noncomputable def ke:=jK.sn
def bE(q:Nat)(k:Addr)(j:Int)(w:J)(R:aH)(h:∃A:ByteArray,w.cell? k=some (.string A)/\
 bn (aq (j<((A.size:Nat):Int))) (∃t10:ByteArray,w.cell? k=some (.string t10)/\
 (0:Int)<=j/\∃z:UInt8,t10[aZ j]? =some z/\bn (((z.toNat:Nat):Int)==32) (L0 q k (ao .i64 (j+1)) w R) (∃t17:ByteArray,w.cell? k=some (.string t17)/\
 TP CK #[.string t17,.i j] w λC D F G H I x=>cZ x (.cells #[.int .u8 0,.int .u8 0,.int .u8 0,.s0,.i 0] nn) λP=>
 Pw P (nb x) (.int .u8 C) (.int .u8 D) (.int .u8 F) (.string G) (.i H) λB=>I' B (nb x) λK L M N O=>tU aa q #[.agg #[.int .u8 K,.int .u8 L,.int .u8 M,.string N,.i O]] B λ(t24:Bool) y=>bn (!t24) (R (ag (.tuple #[])) y) (∃t28:Int,y.cell? ((nb x).add 0)=some (.int .u8 t28)/\
 bn (t28==63) (R (ag (.tuple #[])) y) (L0 q k (ao .i64 (j+I)) y R)))) (∃t35:ByteArray,w.cell? k=some (.string t35)/\
 tU aa q #[.agg #[.int .u8 36,.int .u8 0,.int .u8 0,.s0,.i ((t35.size:Nat):Int)]] w λ(t38:Bool) Q=>R (ag (.tuple #[])) Q)):L0 q k j w R:=
 LP.step (n:=(cx 39)) (c:=C4) (E:=[(0,.func (.yield q) #[] #[]),(1,.pointer (some k)),(3,.i j)]) (w:=w) (sq C4 (sr C6 (show(λ(E:Env) (w:J)=>dH aa C6 (λE w=>gA (Env.val E (.tmp 9)) (dH aa C9 (λE w=>gA (Env.val E (.tmp 13)) (dH aa jI (λE w=>oy E w R) E w) (dH aa mw (λE w=>dH aa nt (λE w=>gA (Env.val E (.tmp 30)) (kG aa Tryz.f166 E w (λv=>R (ag v) w)) (n6 aa jJ (λE w=>oy E w R) E w)) E w) E w)) E w) (n6 aa C5 (λE w=>kG aa Tryz.f166 E w (λv=>R (ag v) w)) E w)) E w) [(0,.func (.yield q) #[] #[]),(1,.pointer (some k)),(3,.i j)] w from mp h) λ_ _ d=>(cn jK d (λd=>(sk mx λa e=>nx e (bk C7 1 (by kernel_rfl) (sq C8 (sr C9 d λ_ _ d=>(cn lN d (λd=>(sr jI d λ_ _ d=>(xt my 1 (by kernel_rfl) λa e=>rA R _ _ d a e))) (λd=>(sk mz λa e=>nx e (sr mw d λ_ _ d=>(sq ns (sr nt d λ_ _ d=>(cn kc d (λd=>(rt kS λa e=>vZ e d)) (λd=>(sk ow λa e=>nx e (rg jJ (by kernel_rfl) d λ_ _ a e d=>rA R _ _ d a e))))))))))))))) (λd=>(xt ke 0 (by kernel_rfl) λa e=>nx e (rg C5 (by kernel_rfl) d λ_ _ a e d=>vZ e d))))))
def ok(e:Nat)(d:Addr)(w:J)(R:aH)(h:L0 e d 0 w R):ak aa qB #[.func (.yield e) #[] #[],.pointer (some d)] w R:=
 uF (R:=R) (fn:=Tryz.f166) (c:=C0) (args:=[.func (.yield e) #[] #[],.pointer (some d)]) (by kernel_rfl) (by kernel_rfl) (by kernel_rfl) (sq C0 (sr C1 (show(λ(E:Env) (w:J)=>dH aa C1 (λE w=>oy E w R) E w) (jT 0 [.func (.yield e) #[] #[],.pointer (some d)]) w from mp h) λ_ _ j=>(bk C2 0 (by kernel_rfl) (lp C3 (by kernel_rfl) (rA R _ _ j)))))
end y0
namespace Oy
noncomputable abbrev t0:=aA aa Tryz.f148 [] []
def ok:=aB t0 LB [.st]
end Oy
namespace On
noncomputable abbrev t0:=aA aa Tryz.f174 [] [4]
def aD:=aB t0 yk [.I,.s]
end On
namespace vW
noncomputable abbrev t0:=aA aa Tryz.f173 [(4,(.sq [0,1,2,3,4,5,6,7,8,10,11] (.fork (ls [9,12]) (ls [12,9]))))] [2]
noncomputable def a2:=bj t0 [0,2,1] [(0,.v [.r]),(2,.l [.I,.Y,.Y,.s] aW)]
noncomputable abbrev t1:=bh a2
def bB:=bm t1 a2
def aD:=aB t1 Ls [.r]
end vW
namespace Ol
noncomputable abbrev t0:=aA aa Tryz.f171 [(1,(.sq [0,1,2,3,4,5,6,7,9] (.fork (.sq [8,10,11,12,14,15] (.fork (ls [13,16]) (ls [16,13]))) (.sq [10,8,11,12,14,15] (.fork (ls [13,16]) (ls [16,13]))))))] []
noncomputable abbrev S0:=ax t0 [2] [(0,.v [.r])]
noncomputable abbrev t1:=az S0
def ok:=aB t1 Lt [.r]
end Ol
namespace Oi
noncomputable abbrev t0:=aA aa Tryz.f172 [(1,(.sq [0,1,2,3,4,5,6,7,9] (.fork (.sq [8,10,11,12,14,15] (.fork (ls [13,16]) (ls [16,13]))) (.sq [10,8,11,12,14,15] (.fork (ls [13,16]) (ls [16,13]))))))] []
noncomputable abbrev S0:=ax t0 [2] [(0,.v [.r])]
noncomputable abbrev t1:=az S0
def ok:=aB t1 Lr [.r]
end Oi
namespace Oj
noncomputable abbrev t0:=aA aa Tryz.f151 [] [2,3]
def aD:=aB t0 CE [.r]
end Oj
namespace DS
noncomputable abbrev t0:=aA aa Tryz.f150 [(1,ls [0,1,2,3,4,5,6,7,8,9,10,11])] []
def ok:=aB t0 yl [.r]
end DS
namespace Ou
noncomputable abbrev t0:=aA aa Tryz.f168 [] []
def ok:=aB t0 Lz [.r,.I,.I]
end Ou
namespace Oq
noncomputable abbrev t0:=aA aa Tryz.f199 [(1,ls [0,2,1,3,4,5])] [3]
def aD:=aB t0 CG [.r,.a 4,.I,.Y,.Y,.s]
end Oq
namespace Ot
noncomputable abbrev t0:=aA aa Tryz.f169 [(2,ls [0,1,2,3,4,5,6,7,8,9,10,11,12,13,14])] []
def ok:=aB t0 CH [.r,.s]
end Ot
namespace DR
noncomputable abbrev t0:=aA aa Tryz.f170 [] [3]
noncomputable abbrev bq:=ax t0 [2,1,7,1,1,1,1] []
noncomputable abbrev t1:=az bq
def aD:=aB t1 CJ [.r,.a 5,.Y,.Y,.Y,.st,.I]
end DR
namespace vY
noncomputable abbrev t0:=aA aa Tryz.f149 [(25,(.sq [0,1,2,3,4,6] (.fork (.sq [5,7,8,9,11,12] (.fork (ls [10,13]) (ls [13,10]))) (.sq [7,5,8,9,11,12] (.fork (ls [10,13]) (ls [13,10])))))),(28,ls [0,1,2,3,4,5,6,7,8,9,10,11,12,13,14,15,16,17,18])] [3]
noncomputable abbrev bq:=ax t0 [4] []
noncomputable abbrev t1:=az bq
noncomputable abbrev bT:=ax t1 [2,1,7,1,1,1,3] [(0,.v [.r])]
noncomputable abbrev t2:=az bT
def aD:=aB t2 CI [.r,.a 5,.Y,.Y,.Y,.st,.I]
end vY
namespace DP
noncomputable def C0:Code:=(Tryz.f136.body).getD .skip
noncomputable def C1:=C0.sn
noncomputable def C2:=C1.sn
noncomputable def C3:=C2.sn
noncomputable def C4:=C3.fs
noncomputable def C5:=C4.sn
noncomputable def C6:=C5.fs
noncomputable def C7:=W.Code.R1 C6
noncomputable def C8:=W.Code.Se C6
noncomputable def C9:=C8.fs
noncomputable def lN:=C9.sn
noncomputable def jI:=lN.fs
abbrev Q0(l_:Nat)(d:Loop)(R:aH):Exit->Act->J->Prop:=(roundPost aa l_ R)
abbrev Q1(l_:Nat)(d:Loop)(R:aH):Exit->Act->J->Prop:=(Exit.inBlock 1 (Q0 l_ d R))
noncomputable def mw:=jI.fs
noncomputable def ns:=jI.sn
abbrev S3(l_:Nat)(d:jH->Option Code->Obj)(t2 t3 t4 e:Addr)(w:J)(R:aH):Prop:=
 k4 w λh=>∃t23:Int,h.cell? (e.add 4)=some (.i t23)/\
 kJ h t2 (.i 0) (.int .u8 0) (.int .u8 0) (.slice none 0 0) λj=>j.cell? (e.add 4)=some (.i t23)/\aQ j t3 (.i t23) λk=>
 aQ k t4 (.i 2) λq=>
 ln q l_ (d .busy none) (d .done (some .ret)) λx=>R (ag (.bool false)) x
def ub(l_:Nat)(d:jH->Option Code->Obj)(E:Env)(w:J)(R:aH):Prop:=W.cu (Env.get? E 2) λe=>W.cu (Env.get? E 3) λh=>W.cu (Env.get? E 4) λj=>W.cu (Env.get? E 6) λk=>S3 l_ d e h j k w R
def z'(l_:Nat)(e:Loop)(R:aH)(E:Env)(w:J)(h:ub l_ (lo e) E w R):WP aa ⟨32,[],some l_⟩ jI (Q1 l_ e R) E w:=by obtain⟨H,C,q⟩:=W.cF h;obtain⟨I,D,z⟩:=W.cF q;obtain⟨K,F,A⟩:=W.cF z;obtain⟨L,G,B⟩:=W.cF A;exact λa d=>WP.at (n:=⟨32,[],some l_⟩) (E:=[(2,.pointer (some H)),(3,.pointer (some I)),(4,.pointer (some K)),(6,.pointer (some L))]) (WP.seq (c:=jI) (x:=mw) (y:=ns) (by kernel_rfl)<|WP.draw (c:=mw) [0,1,2,3,4,5] (λE w=>ln w l_ ((lo e) .busy none) ((lo e) .done (some .ret)) λM=>R (ag (.bool false)) M) (by kernel_rfl) (mp B) λ_ _ a j k=>(WP.ret (c:=ns) (Q:=(Q1 l_ e R)) (by kernel_rfl) λa j=>(show roundPost aa l_ R .ret a _ from YJ (a:=a) (k).1 (k).2)) a j) (d.cons C (d.cons D (d.cons F (d.cons G d.nil))))
noncomputable def nt:=C9.fs
noncomputable def jJ:=lN.sn
abbrev S2(l_:Nat)(d:jH->Option Code->Obj)(t2 t3 t4 j e:Addr)(w:J)(R:aH):Prop:=
 I' w e λk q x y z=>Gw CI #[.pointer (some j),.agg #[.int .u8 k,.int .u8 q,.int .u8 x,.string y,.i z]] w λt19 h=>bn (!t19) (S3 l_ d t2 t3 t4 e h R) (ln h l_ (d .busy none) (d .ready none) λA=>R (ag (.bool true)) A)
def Fk(l_:Nat)(d:jH->Option Code->Obj)(E:Env)(w:J)(R:aH):Prop:=W.cu (Env.get? E 2) λh=>W.cu (Env.get? E 3) λj=>W.cu (Env.get? E 4) λk=>W.cu (Env.get? E 5) λe=>W.cu (Env.get? E 6) λq=>S2 l_ d h j k e q w R
def Rr(l_:Nat)(j:Loop)(R:aH)(E:Env)(w:J)(h:Fk l_ (lo j) E w R):WP aa ⟨32,[],some l_⟩ C9 (Q1 l_ j R) E w:=by obtain⟨L,D,q⟩:=W.cF h;obtain⟨M,F,z⟩:=W.cF q;obtain⟨N,G,A⟩:=W.cF z;obtain⟨K,H,B⟩:=W.cF A;obtain⟨O,I,C⟩:=W.cF B;exact λa e=>WP.at (n:=⟨32,[],some l_⟩) (E:=[(2,.pointer (some L)),(3,.pointer (some M)),(4,.pointer (some N)),(5,.pointer (some K)),(6,.pointer (some O))]) (WP.seq (c:=C9) (x:=nt) (y:=lN) (by kernel_rfl)<|WP.pa (c:=nt) (λE w=>gA (Env.val E (.tmp 20)) (ub l_ (lo j) E w R) (ln w l_ ((lo j) .busy none) ((lo j) .ready none) λP=>R (ag (.bool true)) P)) (by kernel_rfl) (mp C) λ_ _ a k d=>(WP.gA (c:=lN) (x:=jI) (y:=jJ) (o:=.tmp 20) (by kernel_rfl) (λd=>(z' l_ j R _ _ d)) (λd=>(WP.skip (c:=jJ) (by kernel_rfl) λa k=>YI (a:=a) (d).1 (d).2)) d) a k) (e.cons D (e.cons F (e.cons G (e.cons H (e.cons I e.nil)))))
abbrev Q2(l_:Nat)(d:Loop)(R:aH):Exit->Act->J->Prop:=(Aj aa 32 l_ d C8 (roundPost aa l_ R))
abbrev S1(l_:Nat)(d:jH->Option Code->Obj)(t2 t3 t4 e:Addr)(h j k:Int)(q:ByteArray)(x:Int)(w:J)(R:aH):Prop:=
 cZ w (.cells #[.int .u8 0,.int .u8 0,.int .u8 0,.s0,.i 0] nn) λy=>
 Pw y (nb w) (.int .u8 h) (.int .u8 j) (.int .u8 k) (.string q) (.i x) λz=>ln z l_ (d .ready none) (d .busy none) λA=>S2 l_ d t2 t3 t4 e (nb w) A R
def pK(l_:Nat)(d:jH->Option Code->Obj)(E:Env)(w:J)(R:aH):Prop:=W.cu (Env.get? E 2) λL=>W.cu (Env.get? E 3) λM=>W.cu (Env.get? E 4) λN=>W.cu (Env.get? E 5) λe=>W.asAgg (Env.get? E 17) λy=>W.oG y λF z=>W.asInt .u8 (some F) λh=>W.oG z λG A=>W.asInt .u8 (some G) λj=>W.oG A λH B=>W.asInt .u8 (some H) λk=>W.oG B λI C=>W.pZ (some I) λq=>W.oG C λK D=>W.asInt .i64 (some K) λx=>W.rQ D<|S1 l_ d L M N e h j k q x w R
def z9(l_:Nat)(e:Loop)(R:aH)(E:Env)(w:J)(h:pK l_ (lo e) E w R):WP aa ⟨32,[],some l_⟩ C7 (Q2 l_ e R) E w:=by obtain⟨t2,Q,q⟩:=W.cF h;obtain⟨t3,S,G⟩:=W.cF q;obtain⟨t4,T,H⟩:=W.cF G;obtain⟨V,U,I⟩:=W.cF H;obtain⟨ae,P,K⟩:=W.RY I;obtain⟨ak,af,rfl,L⟩:=W.rP K;obtain⟨Y,ex,M⟩:=W.gJ L;obtain rfl:=e3 ex;obtain⟨al,ag,rfl,N⟩:=W.rP M;obtain⟨Z,ex,O⟩:=W.gJ N;obtain rfl:=e3 ex;obtain⟨am,ah,rfl,y⟩:=W.rP O;obtain⟨ab,ex,z⟩:=W.gJ y;obtain rfl:=e3 ex;obtain⟨an,ai,rfl,A⟩:=W.rP z;obtain⟨ac,ex,B⟩:=W.ux A;obtain rfl:=e3 ex;obtain⟨ao,aj,rfl,C⟩:=W.rP B;obtain⟨ad,ex,D⟩:=W.gJ C;obtain rfl:=e3 ex;obtain⟨rfl,F⟩:=W.Ay D;exact λa d=>WP.at (n:=⟨32,[],some l_⟩) (E:=[(2,.pointer (some t2)),(3,.pointer (some t3)),(4,.pointer (some t4)),(5,.pointer (some V)),(17,.agg #[.int .u8 Y,.int .u8 Z,.int .u8 ab,.string ac,.i ad])]) (WP.pa (c:=C7) (λE w=>w.heap[l_]? =some (lo e .ready none)/\((λw=>Fk l_ (lo e) E w R) (w.putObj l_ (lo e .busy none)))) (by kernel_rfl) (mp F) λ_ _ a k j=>⟨(j).1,(WP.block (c:=C8) (x:=C9) (id:=1) (by kernel_rfl) (Rr l_ e R _ _ (j).2)) a k⟩) (d.cons Q (d.cons S (d.cons T (d.cons U (d.cons P d.nil)))))
abbrev zN(l_:Nat)(d:jH->Option Code->Obj)(y:ByteArray)(t2 t3 t4 e z:Addr)(h j k:Int)(q:ByteArray)(x:Int)(w:J)(R:aH):Prop:=
 S1 l_ d t2 t3 t4 e h j k q x w R
def RK(l_:Nat)(d:Loop)(j:ByteArray)(t2 t3 t4 e k:Addr)(q x y:Int)(z:ByteArray)(A:Int)(w:J)(R:aH)(h:zN l_ (lo d) j t2 t3 t4 e k q x y z A w R):WP aa ⟨32,[],some l_⟩ C7 (Aj aa 32 l_ d C8 (roundPost aa l_ R)) (o6 [(0,.string j),(2,.pointer (some t2)),(3,.pointer (some t3)),(4,.pointer (some t4)),(5,.pointer (some e)),(16,.func (.func qB) #[] #[.pointer (some k)])] [17] [.agg #[.int .u8 q,.int .u8 x,.int .u8 y,.string z,.i A]]) w:=
 (z9 l_ d R _ _ (mp h))
noncomputable def jK:=C3.sn
noncomputable def mx:=jK.sn
noncomputable def my:=mx.fs
noncomputable def mz:=my.sn
noncomputable def kc:=mz.fs
noncomputable def kS:=mx.sn
abbrev Q3(R:aH):hx:=(Exit.then (fu aa (cx 32) kS (bodyPostM Fence.wide 0 aa Tryz.f136 R)) (bodyPostM Fence.wide 0 aa Tryz.f136 R))
noncomputable def ow:=kc.fs
noncomputable def ke:=kc.sn
abbrev S6(j:Nat)(z:ByteArray)(t2 t3 t4:Addr)(w:J)(R:aH):Prop:=
 kJ w t2 (.i 0) (.int .u8 0) (.int .u8 0) (.slice none 0 0) λA=>aQ A t3 (.i ((z.size:Nat):Int)) λB=>
 aQ B t4 (.i 4) λC=>
 ln C j (.deferred (some [])) (.deferred none) λd=>fM d t2 λk q x y=>∃e:Int,d.cell? t3=some (.i e)/\
 ∃h:Int,d.cell? t4=some (.i h)/\
 R (ag (.tuple #[.agg #[.i k,.int .u8 q,.int .u8 x,y.v],.i e,.i h])) d
def pM(d:Nat)(E:Env)(w:J)(R:aH):Prop:=W.pZ (Env.get? E 0) λe=>W.cu (Env.get? E 2) λh=>W.cu (Env.get? E 3) λj=>W.cu (Env.get? E 4) λk=>S6 d e h j k w R
def ud(e:Nat)(R:aH)(E:Env)(w:J)(h:pM e E w R):WP aa (marked 32 e) kc (Q3 R) E w:=by obtain⟨H,C,q⟩:=W.ux h;obtain⟨I,D,z⟩:=W.cF q;obtain⟨K,F,A⟩:=W.cF z;obtain⟨L,G,B⟩:=W.cF A;exact λa d=>WP.at (n:=(marked 32 e)) (E:=[(0,.string H),(2,.pointer (some I)),(3,.pointer (some K)),(4,.pointer (some L))]) (WP.seq (c:=kc) (x:=ow) (y:=ke) (by kernel_rfl)<|WP.pa (c:=ow) (λE w=>DY aa Tryz.f136 E w e R) (by kernel_rfl) (mp B) λ_ _ a j k=>(WP.ret (c:=ke) (by kernel_rfl) λa j=>DZ j k) a j) (d.cons C (d.cons D (d.cons F (d.cons G d.nil))))
abbrev Q4(R:aH):hx:=(bodyPostM Fence.wide 0 aa Tryz.f136 R)
noncomputable def rj:=kS.fs
noncomputable def rk:=kS.sn
abbrev S7(j:Nat)(t2 t3 t4 G:Addr)(w:J)(R:aH):Prop:=
 fM w G λz A B C=>kJ w t2 (.i z) (.int .u8 A) (.int .u8 B) (C.v) λD=>aQ D t3 (.i 0) λE=>
 aQ E t4 (.i 0) λF=>
 ln F j (.deferred (some [])) (.deferred none) λd=>fM d t2 λk q x y=>∃e:Int,d.cell? t3=some (.i e)/\
 ∃h:Int,d.cell? t4=some (.i h)/\
 R (ag (.tuple #[.agg #[.i k,.int .u8 q,.int .u8 x,y.v],.i e,.i h])) d
def ue(d:Nat)(E:Env)(w:J)(R:aH):Prop:=W.cu (Env.get? E 2) λe=>W.cu (Env.get? E 3) λh=>W.cu (Env.get? E 4) λj=>W.cu (Env.get? E 7) λk=>S7 d e h j k w R
def Ab(e:Nat)(R:aH)(E:Env)(w:J)(h:ue e E w R):WP aa (marked 32 e) kS (Q4 R) E w:=by obtain⟨H,C,q⟩:=W.cF h;obtain⟨I,D,z⟩:=W.cF q;obtain⟨K,F,A⟩:=W.cF z;obtain⟨L,G,B⟩:=W.cF A;exact λa d=>WP.at (n:=(marked 32 e)) (E:=[(2,.pointer (some H)),(3,.pointer (some I)),(4,.pointer (some K)),(7,.pointer (some L))]) (WP.seq (c:=kS) (x:=rj) (y:=rk) (by kernel_rfl)<|WP.pa (c:=rj) (λE w=>DY aa Tryz.f136 E w e R) (by kernel_rfl) (mp B) λ_ _ a j k=>(WP.ret (c:=rk) (by kernel_rfl) λa j=>DZ j k) a j) (d.cons C (d.cons D (d.cons F (d.cons G d.nil))))
noncomputable def rl:=my.fs
noncomputable def rn:=mz.sn
abbrev S5(d:Nat)(j:ByteArray)(t2 t3 t4 h:Addr)(w:J)(R:aH):Prop:=
 fM w h λk q x y=>Gw CL #[.agg #[.i k,.int .u8 q,.int .u8 x,y.v]] w λt27 e=>bn t27 (S6 d j t2 t3 t4 e R) (S7 d t2 t3 t4 h e R)
def uc(d:Nat)(E:Env)(w:J)(R:aH):Prop:=W.pZ (Env.get? E 0) λe=>W.cu (Env.get? E 2) λh=>W.cu (Env.get? E 3) λj=>W.cu (Env.get? E 4) λk=>W.cu (Env.get? E 7) λq=>S5 d e h j k q w R
def Aa(d:Nat)(R:aH)(E:Env)(w:J)(h:uc d E w R):WP aa (marked 32 d) my (Q3 R) E w:=by obtain⟨K,D,q⟩:=W.ux h;obtain⟨L,F,z⟩:=W.cF q;obtain⟨M,G,A⟩:=W.cF z;obtain⟨N,H,B⟩:=W.cF A;obtain⟨O,I,C⟩:=W.cF B;exact λa e=>WP.at (n:=(marked 32 d)) (E:=[(0,.string K),(2,.pointer (some L)),(3,.pointer (some M)),(4,.pointer (some N)),(7,.pointer (some O))]) (WP.seq (c:=my) (x:=rl) (y:=mz) (by kernel_rfl)<|WP.pa (c:=rl) (λE w=>gA (Env.val E (.tmp 27)) (pM d E w R) (ue d E w R)) (by kernel_rfl) (mp C) λ_ _ a k j=>(WP.gA (c:=mz) (x:=kc) (y:=rn) (o:=.tmp 27) (by kernel_rfl) (λj=>(ud d R _ _ j)) (λj=>(WP.skip (c:=rn) (by kernel_rfl) λa k=>(Ab d R _ _ j) a k)) j) a k) (e.cons D (e.cons F (e.cons G (e.cons H (e.cons I e.nil)))))
noncomputable def rp:=jK.fs
abbrev S4(e:Nat)(j:ByteArray)(t2 t3 t4 h:Addr)(w:J)(R:aH):Prop:=
 TQ yl #[.pointer (some h)] w λt24 z=>xp CE #[.pointer t24] z λk q x y d=>cZ d (.cells #[.i 0,.int .u8 0,.int .u8 0,.slice none 0 0] aW) λA=>
 kJ A (nb d) (.i k) (.int .u8 q) (.int .u8 x) (y.v) λB=>S5 e j t2 t3 t4 (nb d) B R
def oz(d:Nat)(E:Env)(w:J)(R:aH):Prop:=W.pZ (Env.get? E 0) λh=>W.cu (Env.get? E 2) λj=>W.cu (Env.get? E 3) λk=>W.cu (Env.get? E 4) λq=>W.cu (Env.get? E 5) λe=>S4 d h j k q e w R
def pL(e:Nat)(R:aH)(E:Env)(w:J)(h:oz e E w R):WP aa (marked 32 e) jK (Q4 R) E w:=by obtain⟨L,D,q⟩:=W.ux h;obtain⟨M,F,z⟩:=W.cF q;obtain⟨N,G,A⟩:=W.cF z;obtain⟨O,H,B⟩:=W.cF A;obtain⟨K,I,C⟩:=W.cF B;exact λa d=>WP.at (n:=(marked 32 e)) (E:=[(0,.string L),(2,.pointer (some M)),(3,.pointer (some N)),(4,.pointer (some O)),(5,.pointer (some K))]) (WP.seq (c:=jK) (x:=rp) (y:=mx) (by kernel_rfl)<|WP.pa (c:=rp) (λE w=>uc e E w R) (by kernel_rfl) (mp C) λ_ _ a j k=>(WP.seq (c:=mx) (x:=my) (y:=kS) (by kernel_rfl) (Aa e R _ _ k)) a j) (d.cons D (d.cons F (d.cons G (d.cons H (d.cons I d.nil)))))
abbrev S0(B:ByteArray)(t2 t3 t4 A C:Addr)(w:J)(R:aH):Prop:=
 ∀d:jH->Option Code->Obj,(∀(D E F:Int) (G:ByteArray) (H:Int) (k:J) (q:Bool->J->Prop),k.heap[w.heap.size+1]? =some (d .ready none)->zN (w.heap.size+1) d B t2 t3 t4 A C D E F G H k (λj O=>∃x:Bool,j=ag (.bool x)/\q x O)->tU aa (w.heap.size+1) #[.agg #[.int .u8 D,.int .u8 E,.int .u8 F,.string G,.i H]] k q)->
 ak aa qB #[.func (.yield (w.heap.size+1)) #[] #[],.pointer (some C)] ((w.alloc (.deferred (some []))).alloc (d .ready none)) λj P=>(∃N,j=ag N)/\wY P (w.heap.size+1) d (λe=>S4 w.heap.size B t2 t3 t4 A e R) (λQ e=>False) (λe=>ln e w.heap.size (.deferred (some [])) (.deferred none) λh=>fM h t2 λI K L M=>∃y:Int,h.cell? t3=some (.i y)/\
 ∃z:Int,h.cell? t4=some (.i z)/\
 R (ag (.tuple #[.agg #[.i I,.int .u8 K,.int .u8 L,M.v],.i y,.i z])) h)
abbrev Q5(R:aH):hx:=(Exit.then (fu aa (cx 32) jK (bodyPostM Fence.wide 0 aa Tryz.f136 R)) (bodyPostM Fence.wide 0 aa Tryz.f136 R))
abbrev Q6(R:aH):hx:=(Exit.inBlock 0 (Q5 R))
def z8(E:Env)(w:J)(R:aH):Prop:=W.pZ (Env.get? E 0) λe=>W.cu (Env.get? E 2) λy=>W.cu (Env.get? E 3) λz=>W.cu (Env.get? E 4) λA=>W.cu (Env.get? E 5) λd=>W.xe qB (Env.get? E 16) λq j=>W.rQ q<|W.oG j λx k=>W.cu (some x) λh=>W.rQ k<|S0 e y z A d h w R
def Rq:pN aa 32 z8 C6 Q6:=by
 intro x aq D y;obtain⟨B,ae,O⟩:=W.ux y;obtain⟨j,ah,Q⟩:=W.cF O;obtain⟨k,ai,S⟩:=W.cF Q;obtain⟨q,aj,T⟩:=W.cF S;obtain⟨A,ak,U⟩:=W.cF T;obtain⟨aw,au,af,V⟩:=W.RZ U;obtain⟨rfl,Y⟩:=W.Ay V;obtain⟨ax,av,rfl,Z⟩:=W.rP Y;obtain⟨C,ex,ab⟩:=W.cF Z;obtain rfl:=e3 ex;obtain⟨rfl,P⟩:=W.Ay ab;exact λa d=>WP.at (n:=(cx 32)) (E:=[(0,.string B),(2,.pointer (some j)),(3,.pointer (some k)),(4,.pointer (some q)),(5,.pointer (some A)),(16,.func (.func qB) #[] #[.pointer (some C)])]) (WP.range (m:=32) (c:=C6) (g:=.tmp 16) (ps:=#[17]) (assign:=C7) (body:=C8) (gf:=qB) (lb:=#[.pointer (some C)]) (λe=>S4 D.heap.size B j k q A e x) (λar e=>False) (λe=>ln e D.heap.size (.deferred (some [])) (.deferred none) λw=>fM w j λam an ao ap=>∃F:Int,w.cell? k=some (.i F)/\
 ∃G:Int,w.cell? q=some (.i G)/\
 x (ag (.tuple #[.agg #[.i am,.int .u8 an,.int .u8 ao,ap.v],.i F,.i G])) w) (by kernel_rfl) rfl (by kernel_rfl)
  (λe h a z=>(pL D.heap.size x _ _ (mp h)) a z)
  (λ_ _ h=>h.elim)
  (λe h a z=>DZ z (mp h))
  (λH al=>P (lo H) (λI K L M N w_ K_ ad ac=>aaI (args:=[.agg #[.int .u8 I,.int .u8 K,.int .u8 L,.string M,.i N]]) al ad rfl (by kernel_rfl) (λ_ _ y=>y) (RK _ H B j k q A C I K L M N w_ _ ac)))) (d.cons ae (d.cons ah (d.cons ai (d.cons aj (d.cons ak (d.cons af d.nil))))))
noncomputable def pD:=C1.fs
noncomputable def pF:=pD.sn
noncomputable def rq:=pF.fs
noncomputable def zO:=rq.sn
noncomputable def zP:=pF.sn
def ok(e:ByteArray)(w:J)(R:aH)(h:cZ w (.cells #[.i 0,.int .u8 0,.int .u8 0,.slice none 0 0] aW) λj=>
 cZ j (.cells #[.i 0] bR) λk=>
 cZ k (.cells #[.i 0] Qs) λz=>
 bn (aq (((e.size:Nat):Int)>4096)) (kJ z (nb w) (.i 0) (.int .u8 0) (.int .u8 0) (.slice none 0 0) λQ=>aQ Q (nb j) (.i 4096) λS=>
 aQ S (nb k) (.i 4) λq=>
 fM q (nb w) λC D F G=>∃A:Int,q.cell? (nb j)=some (.i A)/\
 ∃B:Int,q.cell? (nb k)=some (.i B)/\
 R (ag (.tuple #[.agg #[.i C,.int .u8 D,.int .u8 F,G.v],.i A,.i B])) q) (cZ z (.cells #[.i (-1),.slice none 0 0,.slice none 0 0,.slice none 0 0,.slice none 0 0,.i 0,.i 0,.int .u8 0,.int .u8 0,.slice none 0 0] hR) λy=>
 cZ y (.cells #[.slice none 0 0,.i 0,.i 0] wF) λN=>
 Pv N (nb y) (.slice (some (nb z)) 1 1) (.i 0) (.i 0) λO=>TO LB #[.string e] O λt16 P=>W.xe qB (some t16) λL I=>W.rQ L<|W.oG I λM K=>W.cu (some M) λH=>W.rQ K<|S0 e (nb w) (nb j) (nb k) (nb y) H P R)):ak aa Lg #[.string e] w R:=
 TW (R:=R) (fn:=Tryz.f136) (c:=C0) (args:=[.string e]) (by kernel_rfl) (by kernel_rfl) (by kernel_rfl) (sr C0 (show(λ(E:Env) (w:J)=>dH aa C0 (λE w=>dH aa pD (λE w=>gA (Env.val E (.tmp 10)) (dH aa rq (λE w=>kG aa Tryz.f136 E w (λv=>R (ag v) w)) E w) (dH aa C2 (λE w=>dH aa C4 (λE w=>z8 E w R) E w) E w)) E w) E w) (jT 0 [.string e]) w from mp h) λ_ _ d=>(sq C1 (sr pD d λ_ _ d=>(cn pF d (λd=>(sr rq d λ_ _ d=>(rt zO λa x=>YC x d))) (λd=>(sk zP λa x=>nx x (sr C2 d λ_ _ d=>(sq C3 (sr C4 d λ_ _ d=>(bk C5 0 (by kernel_rfl) (Rq R _ _ d)))))))))))
end DP
abbrev dY:=Sl×List ab
def _root_.Go.W.En.rows(j:List dY):En:=⟨ju (j.flatMap λp:dY=>aw p.1),λk=>(∀p∈j,aK k aW 4 p.1 p.2)/\(j.flatMap λp:dY=>aw p.1).Nodup,
 λk x q h=>⟨λp e=>(h.1 p e).cb λb d w=>q b (aO.2 (bA.2 ⟨p,e,d⟩)) w,h.2⟩,
 λk h b d=>by obtain⟨p,e,d⟩:=bA.1 (aO.1 d);exact(h.1 p e).lt b d,nX _⟩
def OM(e:List dY)(x:e≠[])(w:J)(b:Nat)(d:b∈(En.rows e).fp):¬(En.rows e).P ({w with heap:=Array.replicate (b+1) (.map #[] 0)}):=by rintro⟨h,_⟩;obtain⟨p,k,d⟩:=bA.1 (aO.1 d);obtain⟨q,f,j⟩:=(h p k).row.tL b d;simp at j
section
variable {M:Nat->Prop} {w0 w:J} {L D:List En} {V:List Nat}
def Ir(H:LH M w0 w L D){i:Nat}{d:List dY}(U:L[i]? =some (.rows d)){b:Nat}(q:En.g b∈L):b∉(En.rows d).fp:=by
 intro h;obtain⟨y,e⟩:=fQ.1 q;by_cases j:i=y
 .subst j;rw[U]at e;have k:En.rows d=En.g b:=e3 e;have x:d≠[]:=by rintro rfl;simp[En.rows,ju]at h
  refine OM d x w b h ?_;rw[k];show b<_;simp
 .exact mL H.nd U e j b h (by simp[En.g])
def UU{d:List dY}{j:Nat}{s s':Sl}{vs x:List ab}(h:d[j]? =some (s,vs))(k:(d.flatMap λp:dY=>aw p.1).Nodup)(q:(aw s').Nodup)(w:∀e∈aw s',e∈aw s\/e∉d.flatMap λp:dY=>aw p.1):((d.set j (s',x)).flatMap λp:dY=>aw p.1).Nodup:=
 CS (f:=λp:dY=>aw p.1) h k q w
def So(s:Sl):(aw s).Nodup:=by unfold aw;split<;>simp
def yb{α:Type}{l:List α}{j:Nat}{a x:α}(h:x∈l.set j a):x=a\/∃i,i≠j/\l[i]? =some x:=by
 obtain⟨i,d⟩:=fQ.1 h;rw[List.getElem?_set]at d;split at d
 .split at d
  .exact .inl (e3 d).symm
  .cases d
 .rename_i k;exact .inr ⟨i,λe=>k e.symm,d⟩
def OK{w:List dY}(q:(w.flatMap λp:dY=>aw p.1).Nodup):∀{i j:Nat} {p d:dY},w[i]? =some p->w[j]? =some d->i≠j->∀b∈aw p.1,b∉aw d.1:=by
 induction w with
 |nil=>intro i j p d h;simp at h
 |cons a l A=>
  rw[b',fD]at q;intro i j p d e k z b x y;cases i with
  |zero=>
   simp at e;subst e;cases j with
   |zero=>exact z rfl
   |succ j=>exact q.2.2 b x b (bA.2 ⟨d,aE (by simpa using k),y⟩) rfl
  |succ i=>
   cases j with
   |zero=>
    simp at k;subst k;exact q.2.2 b y b (bA.2 ⟨p,aE (by simpa using e),x⟩) rfl
   |succ j=>exact A q.2.1 (by simpa using e) (by simpa using k) (by omega) b x y
def D5(H:LH M w0 w L D){Y:J}(i j:Nat){e:List dY}{s s':Sl}{vs C:List ab}(U:L[i]? =some (.rows e))(y:e[j]? =some (s,vs))(f:Fr (λb=>b∈aw s) w Y)(N:aK Y aW 4 s' C)(h:∀b∈aw s',b∈aw s\/w.heap.size<=b):
  LH M w0 Y (L.set i (.rows (e.set j (s',C)))) D:=by
 have k:(En.rows e).P w:=H.get i U;have B:∀b∈aw s,b∈(En.rows e).fp:=λb h=>aO.2 (bA.2 ⟨_,aE y,h⟩);have K:∀b∈e.flatMap (λp:dY=>aw p.1),b<w.heap.size:=λb h=>(En.rows e).lt w k b (aO.2 h);refine H.gu i _ U (f.mono λx _ z=>B x z) ⟨λp d=>?_,UU y k.2 (So _) λx z=>(h x z).imp id λQ d=>by have:=K x d;omega⟩ λb d=>?_
 .rcases yb d with rfl|⟨O,G,q⟩
  .exact N
  .exact (k.1 p (aE q)).cb λb E I=>f.cb b I λF=>OK k.2 q y G b E F
 .obtain ⟨p,d,A⟩:=bA.1 (aO.1 d);rcases yb d with rfl|⟨O,_,q⟩
  .exact (h b A).imp (B b) id
  .exact .inl (aO.2 (bA.2 ⟨p,aE q,A⟩))
def _root_.Go.W.LH.xa(H:LH M w0 w L D)(i j:Nat){ty:TypeId}{h:List dY}{s src:Sl}{vs news:List ab}{K:Sl->J->Prop}(U:L[i]? =some (.rows h))(k:h[j]? =some (s,vs))(y:bx 4 w src news)(F:∀u∈news,u.oneCell'=true)(I:(s.n+src.n) *40<=140737488355328)(G:∀d e,LH M w0 e (L.set i (.rows (h.set j (d,vs++news)))) D->d.n=s.n+src.n->(d.a=none->s.a=none/\src.n=0)->K d e)(br:∀b∈V,En.g b∈L:=by simp):
  ∃d e,(dW #[ir,ir] ty #[s.v,src.v]).run aa w=.ok d.v e/\kept V w e/\K d e:=by have O:(En.rows h).P w:=H.get i U;obtain⟨d,e,z,A,B,q,C,E⟩:=xc (ty:=ty) qk (O.1 _ (aE k)) y.2.2 y.1 F I;refine⟨d,e,z,λb x=>?_,G d e (D5 H i j U k q A C) B E⟩;refine q.cb b (H.own _ (br b x)) λN=>?_;exact Ir H U (br b x) (aO.2 (bA.2 ⟨_,aE k,N⟩))
def _root_.Go.W.LH.ze(H:LH M w0 w L D)(i j a c:Nat){e:List dY}{s:Sl}{vs:List ab}{v:ab}{p:Addr}{K:J->Prop}(U:L[i]? =some (.rows e))(h:e[j]? =some (s,vs))(E:s.a=some p)(B:a+c<vs.length)(z:∀q,LH M w0 q (L.set i (.rows (e.set j (s,vs.set (a+c) v)))) D->K q)(br:∀b∈V,En.g b∈L:=by simp):aQ w ((p.add a).add c) v λx=>kept V w x/\K x:=by have A:(En.rows e).P w:=H.get i U;obtain⟨O,k,N,F,G,I,y⟩:=yH (A.1 _ (aE h)) (a+c) B v;rw[E]at k;cases k;rw[add_add];refine⟨F,G,λb d=>?_,z _ (D5 H i j U h y I λb d=>.inl d)⟩;exact y.cb b (H.own _ (br b d)) λC=>Ir H U (br b d) (aO.2 (bA.2 ⟨_,aE h,C⟩))
def _root_.Go.W.LH.BV(H:LH M w0 w L D)(i j:Nat){x:List dY}{s:Sl}{vs:List ab}(U:L[i]? =some (.rows x))(y:x[j]? =some (s,vs)):LH M w0 w (L.set i (.rows (x.set j (⟨none,0,0⟩,[])))) (D++[.bc 4 s vs]):=by
 have F:(En.rows x).P w:=H.get i U;have h:=D5 H i j U y (Fr.refl _ _) (aK.nil w aW 4) (λb k=>by simp[aw]at k);have O:∀b∈aw s,b∈(En.rows x).fp:=λb k=>aO.2 (bA.2 ⟨_,aE y,k⟩);have S:i<L.length:=(bO.1 U).1;refine⟨h.fr,h.own,λq d=>?_,h.new,h.nd,λq d b k G E z=>?_⟩
 .rcases aX.1 d with d|d
  .exact h.rd q d
  .simp at d;subst d;exact(F.1 _ (aE y)).bc
 .rcases aX.1 d with d|d
  .exact h.dj q d b k G E z
  .simp at d;subst d;have C:b∈aw s:=gi (e:=aW) k;rcases yb E with rfl|⟨Q,A,I⟩
   .obtain ⟨T,N,B⟩:=bA.1 (aO.1 z);rcases yb N with rfl|⟨Q,A,K⟩
    .simp [aw]at B
    .exact OK F.2 K y A b B C
   .exact mL H.nd U I (λq=>A q.symm) b (O b C) z
end
structure FX where
 k:Int
 ar:Sl×List Rx
 al:List Rx
 an:List Rx
 ca:List Rx
 n:Nat
 la:Rx
structure FM where
 k:Int
 ar:Sl×List I
 al:Sl×List I
 an:Sl×List I
 ca:Sl×List I
 n:Nat
 la:I
def FM.x(f:FM):FX:=⟨f.k,(f.ar.1,I.au f.ar.2),I.au f.al.2,I.au f.an.2,I.au f.ca.2,f.n,f.la.rx⟩
def FM.c(f:FM):List ab:=[.int .i64 f.k,f.ar.1.v,f.al.1.v,f.an.1.v,f.ca.1.v,.int .i64 (f.n:Int),.int .i64 f.la.k,.int .u8 (f.la.lo.toNat:Int),.int .u8 (f.la.U.toNat:Int),f.la.s.v]
def FM.rows(f:FM):List dY:=[(f.ar.1,f.ar.2.flatMap I.c),(f.al.1,f.al.2.flatMap I.c),(f.an.1,f.an.2.flatMap I.c),(f.ca.1,f.ca.2.flatMap I.c)]
def FM.O(f:FM):List I:=f.ar.2++f.al.2++f.an.2++f.ca.2++[f.la]
def FM.jj(f:FM):f.c.length=10:=rfl
def oQ(d:List FM):(d.flatMap FM.c).length=d.length *10:=oO FM.c 10 FM.jj d
abbrev SL(rb:Nat)(sl:Sl)(st e:Int)(cs:List ab)(d:List dY):List En:=[.c rb [sl.v,.int .i64 st,.int .i64 e] wF,.row hR 10 sl cs,.rows d]
def St(w:J)(rb:Nat)(f0:Addr)(lo:List FX)(j:FX)(st e:Int)(own:List Nat)(O:List I):Prop:=
 ∃(sl:Sl) (d:List FM) (f:FM) (p:Addr),d.map FM.x=lo/\f.x=j/\(∀g∈d++[f],∀t∈g.O,t∈O)/\sl.a=some p/\f0=p.add (d.length *10)/\
  own=(SL rb sl st e ((d++[f]).flatMap FM.c) ((d++[f]).flatMap FM.rows)).flatMap (·.fp)/\own.Nodup/\(∀h∈SL rb sl st e ((d++[f]).flatMap FM.c) ((d++[f]).flatMap FM.rows),h.P w)/\I.Ps w O/\∀b∈I.a9 O,b∉own
def hW(w:J)(own:List Nat)(O:List I)(rb:Nat)(f0:Addr)(lo:List FX)(j:FX)(st k:Int)(A:List I->Prop)(Y:J):Prop:=∃e d,St Y rb f0 lo j st k e d/\Fr (·∈own) w Y/\(∀h∈e,h∈own\/w.heap.size<=h)/\(∀b∈I.a9 d,b∈I.a9 O\/b∈own\/w.heap.size<=b)/\(∀t∈O,t∈d)/\A d
def hW.then{w z Y:J}{own x:List Nat}{O k:List I}{rb:Nat}{f0:Addr}{lo:List FX}{y:FX}{st B:Int}{A:List I->Prop}(e:Fr (·∈own) w z)(j:∀d∈x,d∈own\/w.heap.size<=d)(D:∀b∈I.a9 k,b∈I.a9 O\/b∈own\/w.heap.size<=b)(P:∀t∈O,t∈k)(h:hW z x k rb f0 lo y st B A Y):hW w own O rb f0 lo y st B A Y:=by
 obtain⟨M,S,N,F,L,E,Q,C⟩:=h;refine⟨M,S,N,e.trans F λd q H=>(j d H).resolve_right λh=>by omega,λd q=>?_,λb G=>?_,λt K=>Q t (P t K),C⟩
 .rcases L d q with h|h
  .exact j d h
  .exact .inr (a8 e.size h)
 .rcases E b G with h|h|h
  .exact D b h
  .exact .inr (j b h)
  .exact .inr (.inr (a8 e.size h))
def hW.mono{w Y:J}{own:List Nat}{O:List I}{rb:Nat}{f0:Addr}{lo:List FX}{d:FX}{st e:Int}{A B:List I->Prop}(h:hW w own O rb f0 lo d st e A Y)(x:∀l,A l->B l):hW w own O rb f0 lo d st e B Y:=by obtain⟨z,E,C,q,y,k,D,j⟩:=h;exact⟨z,E,C,q,y,k,D,x _ j⟩
def St.uy{w:J}{rb:Nat}{sl:Sl}{d:List FM}{f:FM}{O:List I}{st q:Int}{own:List Nat}(j:own=(SL rb sl st q ((d++[f]).flatMap FM.c) ((d++[f]).flatMap FM.rows)).flatMap (·.fp))(z:own.Nodup)(A:∀e∈SL rb sl st q ((d++[f]).flatMap FM.c) ((d++[f]).flatMap FM.rows),e.P w)(B:I.Ps w O)(y:∀b∈I.a9 O,b∉own):
  LH (·∈own) w w (SL rb sl st q ((d++[f]).flatMap FM.c) ((d++[f]).flatMap FM.rows)) [.trees O]:=by refine LH.tz _ _ (λe h=>⟨A e h,λb k=>by rw[j];exact bA.2 ⟨e,h,k⟩⟩) (j▸z) λe h=>?_;simp only[av,aR,aT]at h;subst h;refine⟨B,λb k x D C=>y b (aO.1 k) ?_⟩;rw[j];exact bA.2 ⟨x,D,C⟩
def St.of{w Y:J}{rb:Nat}{f0:Addr}{sl:Sl}{d:List FM}{f:FM}{O e:List I}{st z:Int}{own:List Nat}{p:Addr}{D:List En}{A:List I->Prop}(H:LH (·∈own) w Y (SL rb sl st z ((d++[f]).flatMap FM.c) ((d++[f]).flatMap FM.rows)) D)(i:Nat)(y:D[i]? =some (.trees e))(G:∀g∈d++[f],∀t∈g.O,t∈e)(F:sl.a=some p)(B:f0=p.add (d.length *10))(j:∀b∈I.a9 e,b∈I.a9 O\/b∈own\/w.heap.size<=b)(K:∀t∈O,t∈e)(C:A e):
  hW w own O rb f0 (d.map FM.x) f.x st z A Y:=by
 refine⟨_,e,⟨sl,d,f,p,rfl,rfl,G,F,B,rfl,H.nd,H.own,H.getD i y,λb j E=>?_⟩,H.fr,λM L=>?_,j,K,C⟩
 .obtain ⟨h,q,k⟩:=bA.1 E;exact H.dj _ (aE y) b (aO.2 j) h q k
 .obtain ⟨h,q,k⟩:=bA.1 L;exact(H.new h q M k).symm
section
variable {M:Nat->Prop} {w0 w:J} {L D:List En} {V:List Nat}
def _root_.Go.W.LH.gD(H:LH M w0 w L D)(i:Nat){sl:Sl}{d:List FM}{f:FM}{p:Addr}(U:L[i]? =some (.row hR 10 sl ((d++[f]).flatMap FM.c)))(y:sl.a=some p)(j:Nat){v:ab}(k:f.c[j]? =some v:=by rfl):w.cell? ((p.add (d.length *10)).add j)=some v:=by
 have x:aK w hR 10 sl ((d++[f]).flatMap FM.c):=H.get i U;have q:((d++[f]).flatMap FM.c)[d.length *10+j]? =some v:=by rw[cy,List.getElem?_append_right (by rw[oQ];omega),oQ];simpa using k
 obtain⟨z,e,h⟩:=x.bc.2.2.2 _ _ q;rw[y]at e;cases e;rw[add_add];exact h
def U5(d:List FM)(f e:FM)(j:Nat)(v:ab)(k:j<10)(h:f.c.set j v=e.c):((d++[f]).flatMap FM.c).set (d.length *10+j) v=(d++[e]).flatMap FM.c:=by rw[cy,cy,List.set_append,af (by rw[oQ];omega),oQ];simp only[b',List.flatMap_nil,dt,Nat.add_sub_cancel_left];rw[h]
def _root_.Go.W.LH.ik(H:LH M w0 w L D)(i:Nat){sl:Sl}{d:List FM}{f:FM}{p:Addr}{K:J->Prop}{v:ab}(h:FM)(j:Nat)(U:L[i]? =some (.row hR 10 sl ((d++[f]).flatMap FM.c)))(A:sl.a=some p)(z:j<10)(y:f.c.set j v=h.c)(x:∀e,LH M w0 e (L.set i (.row hR 10 sl ((d++[h]).flatMap FM.c))) D->K e)(br:∀b∈V,En.g b∈L:=by simp):aQ w ((p.add (d.length *10)).add j) v λq=>kept V w q/\K q:=
 H.oc i (d.length *10) j U A (by rw[oQ];simp;omega) (λe k=>x e (by rw[U5 d f h j v z y]at k;exact k)) br
def Es{w:J}{p:Addr}{v:ab}{K:J->Prop}(h:aQ w p v λd=>kept [] w d/\K d):aQ w p v K:=n9 h λ_ h=>h.2
end
def qU:∀d:List FM,(d.flatMap FM.rows).length=d.length *4
 |[]=>rfl
 |f::d=>by have:=qU d;simp only[b',List.length_append,List.length_cons];have:f.rows.length=4:=rfl;omega
def D4(d:List FM)(f:FM)(j:Nat)(x:dY)(h:j<4):((d++[f]).flatMap FM.rows).set (d.length *4+j) x=d.flatMap FM.rows++f.rows.set j x:=by have e:=qU d;rw[cy,List.set_append,af (by omega),e];simp
def pf(d:List FM)(f:FM)(j:Nat)(x:dY)(h:f.rows[j]? =some x):((d++[f]).flatMap FM.rows)[d.length *4+j]? =some x:=by have e:=qU d;rw[cy,List.getElem?_append_right (by omega),e];simpa using h
def fN(k:Int)(s:Sl)(O:List I):I:=match O with |[d]=>d|l=>.mk k 0 0 s l
def n0(k:Int)(l:List Rx):Rx:=match l with |[d]=>d|l=>.mk k 0 0 l
def CZ(k:Int)(s:Sl)(O:List I):(fN k s O).rx=n0 k (I.au O):=by
 match O with
 |[]=>rfl
 |[d]=>rfl
 |d::e::l=>rfl
def XB{k:Int}{s:Sl}{O:List I}{b:Nat}(h:b∈(fN k s O).fp):b∈(I.row s O).fp\/b∈I.a9 O:=by
 match O,h with
 |[],h=>exact I.gb.1 (show b∈(I.mk k 0 0 s []).fp from h)
 |[x],h=>exact .inr (I.bM.2 ⟨x,by simp,h⟩)
 |x::d::l,h=>exact I.gb.1 (show b∈(I.mk k 0 0 s (x::d::l)).fp from h)
def AQ(k:Int)(s:Sl)(O:List I)(w:J)(h:bx 4 w s (O.flatMap I.c)):ak aa yk #[.int .i64 k,s.v] w λr A=>r=ag (fN k s O).v/\ah w A:=by
 have j:=I.cm h;refine On.aD _ _ w _ ((bP [I.row s O] (by intro D x;simp only[av,aR,aT]at x;subst x;exact h)).aJ λC F d=>aL (λy=>⟨by omega,by omega,?_⟩) (λy=>d.ai λB e=>⟨?_,e.fr⟩))
 .have z:O.length=1:=by omega
  obtain⟨q,rfl⟩:=List.length_eq_one_iff.1 z;refine I.de (d.getD 0) (i:=0) (t:=q) rfl λp E c=>⟨_,_,_,_,c.c0,c.c1,c.c2,c.c3,d.ai λB e=>⟨rfl,e.fr⟩⟩
 .match O,j with
  |[],_=>rfl
  |[q],j=>simp at j;omega
  |q::G::l,_=>rfl
section
variable {M:Nat->Prop} {w0 w:J} {L D:List En} {V:List Nat}
def _root_.Go.W.LH.node(H:LH M w0 w L D)(i:Nat){O ks:List I}{s:Sl}(k:Int)(lo U:UInt8)(j:D[i]? =some (.trees O))(x:I.row s ks∈D)(q:∀t∈ks,t∈O):LH M w0 w L [.trees (O++[.mk k lo U s ks])]:=by
 have y:I.Ps w O:=H.getD i j;have A:=H.gx (.trees (O++[.mk k lo U s ks])) (Fr.refl _ _) (I.ib λt d=>?_) λb B=>.inr (.inr ?_)
 .exact A.forget _ (by simp)
 .rcases aX.1 d with d|d
  .exact y.mem d
  .simp at d;subst d;unfold I.P;exact⟨H.rd _ x,I.ib λt d=>y.mem (q t d)⟩
 .obtain ⟨t,d,h⟩:=I.bM.1 (aO.1 B);rcases aX.1 d with d|d
  .exact ⟨_,aE j,aO.2 (I.bM.2 ⟨t,d,h⟩)⟩
  .simp at d;rw[d]at h;rcases I.gb.1 h with e|e
   .exact ⟨_,x,e⟩
   .obtain ⟨z,E,C⟩:=I.bM.1 e;exact⟨_,aE j,aO.2 (I.bM.2 ⟨z,q z E,C⟩)⟩
def _root_.Go.W.LH.MX(H:LH M w0 w L D)(i:Nat){O ks:List I}{s:Sl}(k:Int)(j:D[i]? =some (.trees O))(h:I.row s ks∈D)(e:∀t∈ks,t∈O):LH M w0 w L [.trees (O++[fN k s ks])]:=by
 match ks,h,e with
 |[],h,e=>exact H.node i k 0 0 j h e
 |q::C::l,h,e=>exact H.node i k 0 0 j h e
 |[q],h,e=>
  have z:I.Ps w O:=H.getD i j;have y:=e q (by simp);have A:=H.gx (.trees (O++[q])) (Fr.refl _ _) (I.ib λt d=>?_) λb B=>.inr (.inr ?_)
  .exact A.forget _ (by simp[fN])
  .rcases aX.1 d with d|d
   .exact z.mem d
   .simp at d;subst d;exact z.mem y
  .obtain ⟨t,d,x⟩:=I.bM.1 (aO.1 B);rcases aX.1 d with d|d
   .exact ⟨_,aE j,aO.2 (I.bM.2 ⟨t,d,x⟩)⟩
   .simp at d;rw[d]at x;exact⟨_,aE j,aO.2 (I.bM.2 ⟨q,y,x⟩)⟩
abbrev z4:List ab:=[.int .i64 0,.int .u8 0,.int .u8 0,.slice none 0 0]
def xb(vs u:List ab)(n j:Nat)(v:ab)(d:vs.length=n):(vs++u).set (n+j) v=vs++u.set j v:=by rw[List.set_append,af (by omega)];congr 2;omega
def _root_.Go.W.LH.s4(H:LH M w0 w L D)(i j n:Nat){d:List dY}{s:Sl}{vs:List ab}{p:Addr}{K:J->Prop}(t:I)(U:L[i]? =some (.rows d))(hj:d[j]? =some (s,vs++z4))(E:s.a=some p)(h:vs.length=n *4)(hK:∀w',LH M w0 w' (L.set i (.rows (d.set j (s,vs++t.c)))) D->K w')(br:∀b∈V,En.g b∈L):
  aQ w (p.add (aZ (n:Int) *4)) (.int .i64 t.k) λA=>kept V w A/\aQ A ((p.add (aZ (n:Int) *4)).add 1) (.int .u8 (t.lo.toNat:Int)) λq=>kept V A q/\aQ q ((p.add (aZ (n:Int) *4)).add 2) (.int .u8 (t.U.toNat:Int)) λy=>kept V q y/\aQ y ((p.add (aZ (n:Int) *4)).add 3) t.s.v λB=>kept V y B/\K B:=by
 rw[Int.toNat_natCast];have ai:i<L.length:=(bO.1 U).1;have ag:j<d.length:=(bO.1 hj).1;have N:∀{F:List En} (e:En),F.length=L.length->(F.set i e)[i]? =some e:=λ{F} e hl=>by rw[ic (by omega)]
 have G:∀(C:List dY) (x:dY),C.length=d.length->(C.set j x)[j]? =some x:=λC x hl=>by rw[ic (by omega)]
 have O:∀{b:Nat},En.g b∈L->∀(C:List dY),En.g b∈L.set i (.rows C):=λ{b} z C=>by
  obtain⟨ac,Q⟩:=fQ.1 z;by_cases aa:i=ac
  .subst aa;exfalso;rw[U]at Q;have hP:(En.rows d).P w:=H.get i U;have e1:En.rows d=En.g b:=e3 Q;have af:(En.rows d).fp=[b]:=by rw[e1];rfl
   have ae:b∈(En.rows d).fp:=by rw[af];simp
   have ah:d≠[]:=by rintro rfl;simp at ag
   refine OM d ah w b ae ?_;rw[e1];show b<_;simp
  .exact fQ.2 ⟨ac,by rw[List.getElem?_set_ne aa];exact Q⟩
 have ad:=H.ze (V:=V) i j (n *4) 0 (v:=.int .i64 t.k) (K:=λA=>aQ A ((p.add (n *4)).add 1) (.int .u8 (t.lo.toNat:Int)) λq=>kept V A q/\aQ q ((p.add (n *4)).add 2) (.int .u8 (t.U.toNat:Int)) λy=>kept V q y/\aQ y ((p.add (n *4)).add 3) t.s.v λB=>kept V y B/\K B) U hj E (by simp[h]) ?_ br
 .rw [iS]at ad;exact ad
 intro A S;rw[xb vs z4 (n *4) 0 _ h]at S;refine S.ze (V:=V) i j (n *4) 1 (N _ rfl) (G _ _ rfl) E (by simp[h]) ?_ (λb z=>O (br b z) _);intro q T;rw[xb vs _ (n *4) 1 _ h,List.set_set,List.set_set]at T;refine T.ze (V:=V) i j (n *4) 2 (N _ rfl) (G _ _ rfl) E (by simp[h]) ?_ (λb z=>O (br b z) _);intro y Y;rw[xb vs _ (n *4) 2 _ h,List.set_set,List.set_set]at Y;refine Y.ze (V:=V) i j (n *4) 3 (N _ rfl) (G _ _ rfl) E (by simp[h]) ?_ (λb z=>O (br b z) _);intro B Z;rw[xb vs _ (n *4) 3 _ h,List.set_set,List.set_set]at Z;exact hK B Z
def _root_.Go.W.LH.Ja(H:LH M w0 w L D)(i:Nat){sl:Sl}{d:List FM}{f:FM}{p:Addr}(U:L[i]? =some (.row hR 10 sl ((d++[f]).flatMap FM.c)))(e:sl.a=some p):
  w.cell? (((p.add (d.length *10)).add 6).add 0)=some (.int .i64 f.la.k)/\w.cell? (((p.add (d.length *10)).add 6).add 1)=some (.int .u8 (f.la.lo.toNat:Int))/\w.cell? (((p.add (d.length *10)).add 6).add 2)=some (.int .u8 (f.la.U.toNat:Int))/\w.cell? (((p.add (d.length *10)).add 6).add 3)=some f.la.s.v:=by
 refine⟨?_,?_,?_,?_⟩
 .rw [iS];exact H.gD i U e 6
 .rw [add_add];exact H.gD i U e 7
 .rw [add_add];exact H.gD i U e 8
 .rw [add_add];exact H.gD i U e 9
end
def m3:Nat->Rx->Rx
 |0,r=>r
 |n+1,r=>m3 n (.mk 6 0 0 [r])
def iU(f:FX):FX:=⟨f.k,f.ar,f.al,f.an,f.ca++[m3 f.n f.la],0,f.la⟩
def Gb{w:J}{rb:Nat}{f0:Addr}{lo:List FX}{tp:FX}{st F:Int}{own:List Nat}{O:List I}(h:St w rb f0 lo tp st F own O)(hn:tp.n<=1000000)(hc:tp.ca.length<=1000000):
  ak aa Ls #[.pointer (some f0)] w λr Y=>r=ag (.tuple #[])/\hW w own O rb f0 lo (iU tp) st F (λ_=>True) Y:=by
 obtain⟨sl,d,f,p,rfl,rfl,M,z,rfl,h6,h7,h8,h9,az⟩:=h;have ah:=St.uy h6 h7 h8 h9 az;have ap:f.la∈O:=M f (by simp) _ (by simp[FM.O]);have aC:f.ca.2.length<=1000000:=by
  have:f.x.ca.length=f.ca.2.length:=by show(I.au f.ca.2).length=_;rw[I.fk];simp
  omega
 have loop:∀(m:Nat) (r:I) (D:List I) (q:Nat) (E:J),m<=1000000->(∀t∈O,t∈D)->(∀b∈I.a9 D,b∈I.a9 O\/b∈own\/w.heap.size<=b)->r∈D->m3 m r.rx=m3 f.n f.la.rx->
   LH (·∈own) w E (SL rb sl st F ((d++[(⟨f.k,f.ar,f.al,f.an,f.ca,m,f.la⟩:FM)]).flatMap FM.c) ((d++[f]).flatMap FM.rows)++[.g q]) [.trees D]->
   vW.a2 (p.add (d.length *10)) q r.k r.lo.toNat r.U.toNat r.s E λr Y=>r=ag (.tuple #[])/\hW w own O rb (p.add (d.length *10)) (d.map FM.x) (iU f.x) st F (λ_=>True) Y:=by
  intro m;induction m with
  |zero=>
   intro r D q E _ B ab hr he C;refine vW.bB _ _ _ _ _ _ _ _ ⟨0,C.gD 1 rfl z 5,a1 rfl (C.ai λS G=>⟨_,G.gD 1 rfl z 4,?_⟩)⟩;have aq:((d++[f]).flatMap FM.rows)[d.length *4+3]? =some (f.ca.1,f.ca.2.flatMap I.c):=pf d f 3 _ rfl;have nr:f.ca.1.n=f.ca.2.length:=by have hp:(En.rows ((d++[f]).flatMap FM.rows)).P S:=G.get 2;exact I.cm (hp.1 _ (aE aq)).bc
   refine G.cR (e:=aW) (sz:=4) (n:=1) (cs:=z4) rfl (by decide) λw3 H=>⟨H.gD 1 rfl z 4,?_⟩;refine H.xa (V:=[q]) 2 (d.length *4+3) (src:=⟨some (ae S.heap.size),1,1⟩) (news:=z4) rfl aq (aK.bc (H.get 4)) (by simp[Value.oneCell']) (by show(f.ca.1.n+1) *40<=_;omega) (λy w4 T af aA=>⟨by omega,by rw[af];show((f.ca.1.n:Nat):Int)<((f.ca.1.n+1:Nat):Int);omega,?_⟩);obtain⟨ac,hq⟩:∃ac,y.a=some ac:=by
    cases hs:y.a with
    |none=>have:=(aA hs).2;simp at this
    |some ac=>exact⟨ac,rfl⟩
   rw[hq];have am:d.length *4+3<((d++[f]).flatMap FM.rows).length:=by rw[qU];simp;omega
   have W:LH (·∈own) w w4 (SL rb sl st F ((d++[(⟨f.k,f.ar,f.al,f.an,f.ca,0,f.la⟩:FM)]).flatMap FM.c) (((d++[f]).flatMap FM.rows).set (d.length *4+3) (y,f.ca.2.flatMap I.c++z4))++[.g q]) [.trees D]:=T.take 4;have fin:∀{Y:J},LH (·∈own) w Y (SL rb sl st F ((d++[(⟨f.k,f.ar,f.al,f.an,(y,f.ca.2++[r]),0,f.la⟩:FM)]).flatMap FM.c) (((d++[f]).flatMap FM.rows).set (d.length *4+3) (y,f.ca.2.flatMap I.c++r.c))++[.g q]) [.trees D]->
     (Ending.returned (.tuple #[])=ag (.tuple #[])/\hW w own O rb (p.add (d.length *10)) (d.map FM.x) (iU f.x) st F (λ_=>True) Y):=λ{Y} H'=>by
    refine⟨rfl,?_⟩;have e1:((d++[f]).flatMap FM.rows).set (d.length *4+3) (y,f.ca.2.flatMap I.c++r.c)=(d++[(⟨f.k,f.ar,f.al,f.an,(y,f.ca.2++[r]),0,f.la⟩:FM)]).flatMap FM.rows:=by rw[D4 d f 3 _ (by omega),cy];congr 1;simp[FM.rows]
    rw[e1]at H';have:=St.of (O:=O) (A:=λ_=>True) (f0:=p.add (d.length *10)) (H'.take 3) 0 rfl (λg N t j=>?_) z rfl ab B trivial
    .have e2:(FM.x ⟨f.k,f.ar,f.al,f.an,(y,f.ca.2++[r]),0,f.la⟩)=iU f.x:=by
      unfold FM.x iU;simp only[jz];have:I.au [r]=[m3 f.n f.la.rx]:=by rw[<-he];rfl
      rw[this]
     rw[e2]at this;exact this
    .rcases aX.1 N with N|N
     .exact B t (M g (by simp[N]) t j)
     .simp at N;subst N;simp only[FM.O,aX,av,aR,aT]at j;rcases j with(((j|j)|j)|(j|rfl))|rfl
      .exact B t (M f (by simp) t (by simp[FM.O,j]))
      .exact B t (M f (by simp) t (by simp[FM.O,j]))
      .exact B t (M f (by simp) t (by simp[FM.O,j]))
      .exact B t (M f (by simp) t (by simp[FM.O,j]))
      .exact hr
      .exact B _ ap
   refine⟨?_,?_⟩
   .rw [nr];refine W.s4 (V:=[q]) 2 (d.length *4+3) f.ca.2.length r rfl (ic am) hq (I.eW _) (λY K=>?_) (by simp);rw[List.set_set]at K;exact K.ik (V:=[q]) (f:=⟨f.k,f.ar,f.al,f.an,f.ca,0,f.la⟩) 1 ⟨f.k,f.ar,f.al,f.an,(y,f.ca.2++[r]),0,f.la⟩ 4 rfl z (by omega) rfl (λaB Z=>fin Z) (by simp)
   .refine W.ik (V:=[q]) (f:=⟨f.k,f.ar,f.al,f.an,f.ca,0,f.la⟩) 1 ⟨f.k,f.ar,f.al,f.an,(y,f.ca.2++[r]),0,f.la⟩ 4 rfl z (by omega) rfl (λY K=>?_) (by simp);rw[nr];refine LH.s4 (V:=[q]) (L:=SL rb sl st F ((d++[(⟨f.k,f.ar,f.al,f.an,(y,f.ca.2++[r]),0,f.la⟩:FM)]).flatMap FM.c) (((d++[f]).flatMap FM.rows).set (d.length *4+3) (y,f.ca.2.flatMap I.c++z4))++[.g q]) K 2 (d.length *4+3) f.ca.2.length r rfl (ic am) hq (I.eW _) (λaB Z=>?_) (by simp);rw[List.set_set]at Z;exact fin Z
  |succ m ih=>
   intro r D q E hm B ab hr he C;refine vW.bB _ _ _ _ _ _ _ _ ⟨((m+1:Nat):Int),C.gD 1 rfl z 5,a3 (aP (by omega)) ?_⟩;refine C.cR (e:=aW) (sz:=4) (n:=1) (cs:=r.c) rfl (by decide) λS G=>G.ai (V:=[q]) (λw3 H=>⟨_,H.gD 1 rfl z 5,?_⟩) (by simp);have ay:ao .i64 (((m+1:Nat):Int) - 1)=(m:Int):=by rw[aS _ (by omega)];omega
   show aQ w3 _ (.int .i64 (ao .i64 (((m+1:Nat):Int) - 1))) _;rw[ay];refine H.ik (V:=[q]) (f:=⟨f.k,f.ar,f.al,f.an,f.ca,m+1,f.la⟩) 1 ⟨f.k,f.ar,f.al,f.an,f.ca,m,f.la⟩ 5 rfl z (by omega) rfl (λw4 T=>?_) (by simp);have W:=T.freeze 4 (I.row ⟨some (ae E.heap.size),1,1⟩ [r]) rfl (by show bx 4 w4 _ ([r].flatMap I.c);rw[show[r].flatMap I.c=r.c by simp];exact aK.bc (T.get 4)) (λb Q=>gi (e:=aW) (vs:=[r].flatMap I.c) Q);have K:=W.node 0 6 0 0 (s:=⟨some (ae E.heap.size),1,1⟩) (ks:=[r]) rfl (by simp) (λt j=>by simp at j;subst j;exact hr);refine ih (.mk 6 0 0 ⟨some (ae E.heap.size),1,1⟩ [r]) _ q w4 (by omega) (λt j=>by simp[B t j]) (λb Q=>?_) (by simp) he K;obtain⟨t,j,ad⟩:=I.bM.1 Q;rcases aX.1 j with j|j
   .exact ab b (I.bM.2 ⟨t,j,ad⟩)
   .simp at j;rw[j]at ad;rcases I.gb.1 ad with h|h
    .have:=gi (e:=aW) h;simp[En.row,aw,I.s]at this;subst this;exact .inr (.inr C.fr.size)
    .obtain ⟨t',ax,aj⟩:=I.bM.1 h;simp[I.l]at ax;rw[ax]at aj;exact ab b (I.bM.2 ⟨r,hr,aj⟩)
 obtain⟨c0,c1,c2,c3⟩:=ah.Ja 1 rfl z;have af:f.n<=1000000:=hn;refine vW.aD _ w _ ⟨_,_,_,_,c0,c1,c2,c3,ah.aJ (λq E C=>C.ai (λS G=>?_) (by simp)) (by simp)⟩;exact loop f.n f.la O q S af (λ_ h=>h) (λb Q=>.inl Q) ap rfl G
def FM.a0(f:FM)(j:Nat):Sl×List I:=if j=1 then f.ar else if j=2 then f.al else if j=3 then f.an else f.ca
def FM.put(f:FM)(j:Nat)(x:Sl×List I):FM:=⟨f.k,if j=1 then x else f.ar,if j=2 then x else f.al,if j=3 then x else f.an,if j=4 then x else f.ca,f.n,f.la⟩
def uL{j:Nat}(q:1<=j)(w:j<=4){p:Nat->Prop}(d:p 1)(e:p 2)(h:p 3)(k:p 4):p j:=by
 have:j=1\/j=2\/j=3\/j=4:=by omega
 rcases this with rfl|rfl|rfl|rfl<;>assumption
def G0(f:FM){j:Nat}(d:1<=j)(e:j<=4):f.c[j]? =some (f.a0 j).1.v:=uL (p:=λj=>f.c[j]? =some (f.a0 j).1.v) d e rfl rfl rfl rfl
def r0(f:FM){j:Nat}(d:1<=j)(e:j<=4):f.rows[j - 1]? =some ((f.a0 j).1,(f.a0 j).2.flatMap I.c):=uL (p:=λj=>f.rows[j - 1]? =some ((f.a0 j).1,(f.a0 j).2.flatMap I.c)) d e rfl rfl rfl rfl
def vP(f:FM)(x:Sl×List I){j:Nat}(d:1<=j)(e:j<=4):f.c.set j x.1.v=(f.put j x).c:=uL (p:=λj=>f.c.set j x.1.v=(f.put j x).c) d e rfl rfl rfl rfl
def X3(f:FM)(x:Sl×List I){j:Nat}(d:1<=j)(e:j<=4):f.rows.set (j - 1) (x.1,x.2.flatMap I.c)=(f.put j x).rows:=uL (p:=λj=>f.rows.set (j - 1) (x.1,x.2.flatMap I.c)=(f.put j x).rows) d e rfl rfl rfl rfl
def yN(f:FM)(x:Sl×List I){j:Nat}(h:1<=j)(k:j<=4){t:I}(e:t∈(f.put j x).O):t∈f.O\/t∈x.2:=by
 refine uL (p:=λj=>t∈(f.put j x).O->t∈f.O\/t∈x.2) h k ?_ ?_ ?_ ?_ e<;>
 .intro e;simp[FM.put,FM.O]at e ⊢;rcases e with d|d|d|d|d<;>simp[d]
def nF(f:FM)(j:Nat){t:I}(d:t∈(f.a0 j).2):t∈f.O:=by
 unfold FM.a0 at d;unfold FM.O;split at d
 .simp [d]
 .split at d
  .simp [d]
  .split at d
   .simp [d]
   .simp [d]
def X2(f:FM)(x:Sl×List I){j i:Nat}(h:i≠j)(U:1<=i)(e:i<=4):(f.put j x).a0 i=f.a0 i:=by
 have:i=1\/i=2\/i=3\/i=4:=by omega
 unfold FM.put FM.a0;rcases this with rfl|rfl|rfl|rfl
 .simp;intro d;omega
 .simp;intro d;omega
 .simp;intro d;omega
 .simp;intro d;omega
section
variable {w0 w:J} {own:List Nat} {rb:Nat} {sl:Sl} {st wd:Int} {fs:List FM} {f:FM} {O:List I} {p:Addr}
abbrev FS(own:List Nat)(w0 w:J)(rb:Nat)(sl:Sl)(st wd:Int)(fs:List FM)(f:FM)(d:List dY)(O:List I):Prop:=LH (·∈own) w0 w (SL rb sl st wd ((fs++[f]).flatMap FM.c) d) [.trees O]
def sw(fs:List FM)(f:FM)(x:Sl×List I){j:Nat}(d:1<=j)(e:j<=4):((fs++[f]).flatMap FM.rows).set (fs.length *4+(j - 1)) (x.1,x.2.flatMap I.c)=(fs++[f.put j x]).flatMap FM.rows:=by rw[D4 fs f (j - 1) _ (by omega),X3 f x d e,cy];simp
def NB(H:FS own w0 w rb sl st wd fs f ((fs++[f]).flatMap FM.rows) O)(C:sl.a=some p)(d:Nat)(x:1<=d)(y:d<=4)(t:I)(hb:(f.a0 d).2.length<=1000000){G:J}{src:Sl}(D:LH (·∈own) w0 G (SL rb sl st wd ((fs++[f]).flatMap FM.c) ((fs++[f]).flatMap FM.rows)++[.row aW 4 src z4]) [.trees O])(ag:src.n=1){K:J->Prop}(Y:∀e q,FS own w0 q rb sl st wd fs (f.put d (e,(f.a0 d).2++[t])) ((fs++[f.put d (e,(f.a0 d).2++[t])]).flatMap FM.rows) O->K q):
  ∃(t15:Sl) (z:J),(dW #[ir,ir] ir #[(f.a0 d).1.v,src.v]).run aa G=.ok (t15.v) z/\(0:Int)<=(((f.a0 d).1.n:Nat):Int)/\(((f.a0 d).1.n:Nat):Int)<((t15.n:Nat):Int)/\dM t15.a λj=>((aQ z (j.add (aZ (((f.a0 d).1.n:Nat):Int) *4)) (.int .i64 t.k) λM=>aQ M ((j.add (aZ (((f.a0 d).1.n:Nat):Int) *4)).add 1) (.int .u8 (t.lo.toNat:Int)) λN=>aQ N ((j.add (aZ (((f.a0 d).1.n:Nat):Int) *4)).add 2) (.int .u8 (t.U.toNat:Int)) λQ=>aQ Q ((j.add (aZ (((f.a0 d).1.n:Nat):Int) *4)).add 3) t.s.v λS=>aQ S ((p.add (fs.length *10)).add d) t15.v K)/\
   (aQ z ((p.add (fs.length *10)).add d) t15.v λad=>aQ ad (j.add (aZ (((f.a0 d).1.n:Nat):Int) *4)) (.int .i64 t.k) λM=>aQ M ((j.add (aZ (((f.a0 d).1.n:Nat):Int) *4)).add 1) (.int .u8 (t.lo.toNat:Int)) λN=>aQ N ((j.add (aZ (((f.a0 d).1.n:Nat):Int) *4)).add 2) (.int .u8 (t.U.toNat:Int)) λQ=>aQ Q ((j.add (aZ (((f.a0 d).1.n:Nat):Int) *4)).add 3) t.s.v K)):=by
 have ab:((fs++[f]).flatMap FM.rows)[fs.length *4+(d - 1)]? =some ((f.a0 d).1,(f.a0 d).2.flatMap I.c):=pf fs f (d - 1) _ (r0 f x y);have nr:(f.a0 d).1.n=(f.a0 d).2.length:=by have C:(En.rows ((fs++[f]).flatMap FM.rows)).P G:=D.get 2;exact I.cm (C.1 _ (aE ab)).bc
 obtain⟨e,z,h1,_,h3⟩:=D.xa (V:=[]) (ty:=ir) 2 (fs.length *4+(d - 1)) (src:=src) (news:=z4) (K:=λe q=>FS own w0 q rb sl st wd fs f (((fs++[f]).flatMap FM.rows).set (fs.length *4+(d - 1)) (e,(f.a0 d).2.flatMap I.c++z4)) O/\e.n=(f.a0 d).1.n+1/\∃j,e.a=some j) rfl ab (aK.bc (D.get 3)) (by simp[Value.oneCell']) (by omega) (λe w4 H4 ae ac=>⟨H4.take 3,by omega,by
  cases hs:e.a with
  |none=>have:=(ac hs).2;omega
  |some j=>exact⟨j,rfl⟩⟩) (by simp)
 obtain⟨T,af,j,E⟩:=h3;refine⟨e,z,h1,by omega,by omega,?_⟩;rw[E];have Z:fs.length *4+(d - 1)<((fs++[f]).flatMap FM.rows).length:=by rw[qU];simp;omega
 have W:∀(f:FM) (t:I) (d:Nat),(f.a0 d).2.flatMap I.c++t.c=((f.a0 d).2++[t]).flatMap I.c:=λf t d=>by simp
 rw[nr];refine⟨?_,?_⟩
 .have st:=LH.s4 (V:=[]) (K:=λS=>aQ S ((p.add (fs.length *10)).add d) e.v K) T 2 (fs.length *4+(d - 1)) (f.a0 d).2.length t rfl (ic Z) E (I.eW _) (λq A=>?_) (by simp)
  .exact n9 st λ_ h=>n9 h.2 λ_ h=>n9 h.2 λ_ h=>n9 h.2 λ_ h=>h.2
  .rw [List.set_set,W,sw fs f (e,(f.a0 d).2++[t]) x y]at A;exact Es (A.ik (V:=[]) (f:=f) 1 (f.put d (e,(f.a0 d).2++[t])) d rfl C (by omega) (vP f (e,(f.a0 d).2++[t]) x y) (λF B=>Y e F B) (by simp))
 .refine Es (T.ik (V:=[]) (f:=f) 1 (f.put d (e,(f.a0 d).2++[t])) d rfl C (by omega) (vP f (e,(f.a0 d).2++[t]) x y) (λq A=>?_) (by simp));have st:=LH.s4 (V:=[]) (K:=K) (L:=SL rb sl st wd ((fs++[f.put d (e,(f.a0 d).2++[t])]).flatMap FM.c) (((fs++[f]).flatMap FM.rows).set (fs.length *4+(d - 1)) (e,(f.a0 d).2.flatMap I.c++z4))) A 2 (fs.length *4+(d - 1)) (f.a0 d).2.length t rfl (ic Z) E (I.eW _) (λF B=>?_) (by simp)
  .exact n9 st λ_ h=>n9 h.2 λ_ h=>n9 h.2 λ_ h=>n9 h.2 λ_ h=>h.2
  .rw [List.set_set,W,sw fs f (e,(f.a0 d).2++[t]) x y]at B;exact Y e F B
def shift(H:FS own w0 w rb sl st wd fs f ((fs++[f]).flatMap FM.rows) O)(T:sl.a=some p)(k:Int)(d s:Nat)(Z:1<=d)(hs:s=d+1)(N:s<=4)(hb:(f.a0 d).2.length<=1000000)(aq:∀t∈f.O,t∈O){R:aH}(hK:∀q Y,FS own w0 Y rb sl st wd fs ((f.put d (q,(f.a0 d).2++[fN k (f.a0 s).1 (f.a0 s).2])).put s (⟨none,0,0⟩,[])) ((fs++[(f.put d (q,(f.a0 d).2++[fN k (f.a0 s).1 (f.a0 s).2])).put s (⟨none,0,0⟩,[])]).flatMap FM.rows) (O++[fN k (f.a0 s).1 (f.a0 s).2])->R (ag (.tuple #[])) Y):
  k4 w λz=>∃h:Sl,z.cell? ((p.add (fs.length *10)).add d)=some (h.v)/\∃t11:Sl,z.cell? ((p.add (fs.length *10)).add s)=some (t11.v)/\
   ((ak aa yk #[.i k,t11.v] z λr_ K=>∃C:Int,∃D:Int,∃E:Int,∃F:Sl,r_=ag (.agg #[.i C,.int .u8 D,.int .u8 E,F.v])/\
    K.cell? ((p.add (fs.length *10)).add d)=some (h.v)/\cZ K (.cells #[.i 0,.int .u8 0,.int .u8 0,.slice none 0 0] aW) λU=>
    U.cell? ((p.add (fs.length *10)).add d)=some (h.v)/\∃(t15:Sl) (L:J),Sem.run aa (dW #[ir,ir] ir #[h.v,.slice (some (nb K)) 1 1]) U=.ok (t15.v) L/\e8 t15 ((h.n:Nat):Int) λj=>((aQ L (j.add (aZ ((h.n:Nat):Int) *4)) (.i C) λw6=>
    aQ w6 ((j.add (aZ ((h.n:Nat):Int) *4)).add 1) (.int .u8 D) λw7=>aQ w7 ((j.add (aZ ((h.n:Nat):Int) *4)).add 2) (.int .u8 E) λw8=>aQ w8 ((j.add (aZ ((h.n:Nat):Int) *4)).add 3) (F.v) λw9=>
    aQ w9 ((p.add (fs.length *10)).add d) (t15.v) λac=>aQ ac ((p.add (fs.length *10)).add s) (.slice none 0 0) λx=>R (ag (.tuple #[])) x)/\
    (aQ L ((p.add (fs.length *10)).add d) (t15.v) λad=>aQ ad (j.add (aZ ((h.n:Nat):Int) *4)) (.i C) λaf=>aQ af ((j.add (aZ ((h.n:Nat):Int) *4)).add 1) (.int .u8 D) λah=>
    aQ ah ((j.add (aZ ((h.n:Nat):Int) *4)).add 2) (.int .u8 E) λai=>aQ ai ((j.add (aZ ((h.n:Nat):Int) *4)).add 3) (F.v) λaj=>aQ aj ((p.add (fs.length *10)).add s) (.slice none 0 0) λx=>R (ag (.tuple #[])) x)))/\
   (cZ z (.cells #[.i 0,.int .u8 0,.int .u8 0,.slice none 0 0] aW) λal=>al.cell? ((p.add (fs.length *10)).add s)=some (t11.v)/\al.cell? ((p.add (fs.length *10)).add d)=some (h.v)/\
    ak aa yk #[.i k,t11.v] al λr_ ao=>∃C:Int,∃D:Int,∃E:Int,∃F:Sl,r_=ag (.agg #[.i C,.int .u8 D,.int .u8 E,F.v])/\
    ao.cell? ((p.add (fs.length *10)).add d)=some (h.v)/\∃(t15:Sl) (L:J),Sem.run aa (dW #[ir,ir] ir #[h.v,.slice (some (nb z)) 1 1]) ao=.ok (t15.v) L/\e8 t15 ((h.n:Nat):Int) λj=>((aQ L (j.add (aZ ((h.n:Nat):Int) *4)) (.i C) λw6=>
    aQ w6 ((j.add (aZ ((h.n:Nat):Int) *4)).add 1) (.int .u8 D) λw7=>aQ w7 ((j.add (aZ ((h.n:Nat):Int) *4)).add 2) (.int .u8 E) λw8=>aQ w8 ((j.add (aZ ((h.n:Nat):Int) *4)).add 3) (F.v) λw9=>
    aQ w9 ((p.add (fs.length *10)).add d) (t15.v) λac=>aQ ac ((p.add (fs.length *10)).add s) (.slice none 0 0) λx=>R (ag (.tuple #[])) x)/\
    (aQ L ((p.add (fs.length *10)).add d) (t15.v) λad=>aQ ad (j.add (aZ ((h.n:Nat):Int) *4)) (.i C) λaf=>aQ af ((j.add (aZ ((h.n:Nat):Int) *4)).add 1) (.int .u8 D) λah=>
    aQ ah ((j.add (aZ ((h.n:Nat):Int) *4)).add 2) (.int .u8 E) λai=>aQ ai ((j.add (aZ ((h.n:Nat):Int) *4)).add 3) (F.v) λaj=>aQ aj ((p.add (fs.length *10)).add s) (.slice none 0 0) λx=>R (ag (.tuple #[])) x)))):=by
 subst hs;have M:1<=d+1:=by omega
 have ab:d<=4:=by omega
 have ap:((fs++[f]).flatMap FM.rows)[fs.length *4+(d+1 - 1)]? =some ((f.a0 (d+1)).1,(f.a0 (d+1)).2.flatMap I.c):=pf fs f (d+1 - 1) _ (r0 f M N);have rd:∀{Y:J} {G:List En},LH (·∈own) w0 Y (SL rb sl st wd ((fs++[f]).flatMap FM.c) ((fs++[f]).flatMap FM.rows)++G) [.trees O]->bx 4 Y (f.a0 (d+1)).1 ((f.a0 (d+1)).2.flatMap I.c):=λA=>by have hP:(En.rows ((fs++[f]).flatMap FM.rows)).P _:=A.get 2;exact(hP.1 _ (aE ap)).bc
 have fin:∀q Y,FS own w0 Y rb sl st wd fs (f.put d (q,(f.a0 d).2++[fN k (f.a0 (d+1)).1 (f.a0 (d+1)).2])) ((fs++[f.put d (q,(f.a0 d).2++[fN k (f.a0 (d+1)).1 (f.a0 (d+1)).2])]).flatMap FM.rows) O->
   aQ Y ((p.add (fs.length *10)).add (d+1)) (.slice none 0 0) λx=>R (ag (.tuple #[])) x:=λq Y A=>by have hc:(f.put d (q,(f.a0 d).2++[fN k (f.a0 (d+1)).1 (f.a0 (d+1)).2])).a0 (d+1)=f.a0 (d+1):=X2 f _ (by omega) M N;refine Es (A.ik (V:=[]) 1 ((f.put d (q,(f.a0 d).2++[fN k (f.a0 (d+1)).1 (f.a0 (d+1)).2])).put (d+1) (⟨none,0,0⟩,[])) (d+1) rfl T (by omega) (vP _ (⟨none,0,0⟩,[]) M N) (λx H1=>hK q x ?_) (by simp));have an:=pf fs (f.put d (q,(f.a0 d).2++[fN k (f.a0 (d+1)).1 (f.a0 (d+1)).2])) (d+1 - 1) _ (r0 _ M N);rw[hc]at an;have B:=H1.BV 2 (fs.length *4+(d+1 - 1)) rfl an;have y:=B.MX 0 k (s:=(f.a0 (d+1)).1) (ks:=(f.a0 (d+1)).2) rfl (by simp) λt ht=>aq t (nF f _ ht);have W:=sw fs (f.put d (q,(f.a0 d).2++[fN k (f.a0 (d+1)).1 (f.a0 (d+1)).2])) (⟨none,0,0⟩,[]) M N;have e':(([]:List I).flatMap I.c)=[]:=rfl;rw[e']at W;simp only at W;rw[<-W];exact y
 have S:∀{Y:J} {G:List En},LH (·∈own) w0 Y (SL rb sl st wd ((fs++[f]).flatMap FM.c) ((fs++[f]).flatMap FM.rows)++G) [.trees O]->Y.cell? ((p.add (fs.length *10)).add d)=some ((f.a0 d).1.v):=λA=>A.gD 1 rfl T d (G0 f Z ab);have am:∀{Y:J} {G:List En},LH (·∈own) w0 Y (SL rb sl st wd ((fs++[f]).flatMap FM.c) ((fs++[f]).flatMap FM.rows)++G) [.trees O]->Y.cell? ((p.add (fs.length *10)).add (d+1))=some ((f.a0 (d+1)).1.v):=λA=>A.gD 1 rfl T (d+1) (G0 f M N);refine H.dr λz B=>⟨_,S (G:=[]) B,_,am (G:=[]) B,?_,B.cR (e:=aW) (sz:=4) (n:=1) (cs:=z4) rfl (by decide) λK y=>⟨am y,S y,?_⟩⟩
 .refine B.call (AQ k _ _ z (rd (G:=[]) B)) ?_;rintro _ K rfl y;refine⟨_,_,_,_,rfl,S (G:=[]) y,y.cR (e:=aW) (sz:=4) (n:=1) (cs:=z4) rfl (by decide) λU Q=>⟨S Q,?_⟩⟩;exact NB H T d Z ab (fN k (f.a0 (d+1)).1 (f.a0 (d+1)).2) hb (src:=⟨some (ae K.heap.size),1,1⟩) Q rfl fin
 .refine y.call (AQ k _ _ K (rd y)) ?_;rintro _ U rfl Q;refine⟨_,_,_,_,rfl,S Q,?_⟩;exact NB H T d Z ab (fN k (f.a0 (d+1)).1 (f.a0 (d+1)).2) hb (src:=⟨some (ae z.heap.size),1,1⟩) Q rfl fin
end
def hX(w:J)(own:List Nat)(O:List I)(rb:Nat)(Q:cr->Addr->List FX->FX->Int->Int->List I->Prop):aH:=λr q=>∃d e j h k,hW w own O rb d e j h k (Q r d e j h k) q
def jS(f:FX):FX:=⟨f.k,f.ar,f.al,f.an++[n0 3 (iU f).ca],[],0,f.la⟩
def jR(f:FX):FX:=⟨f.k,f.ar,f.al++[n0 5 (jS f).an],[],[],0,f.la⟩
def Bs(f:FX):FX:=⟨f.k,f.ar,[],[],[],0,f.la⟩
def eM(f:FX):Rx:=n0 4 (jR f).al
def Eg{w0:J}{M:Nat->Prop}{w:J}{own:List Nat}{O y:List I}{k:Int}{s:Sl}{ks:List I}(q:∀b∈I.a9 O,b∈I.a9 y\/b∈own\/w.heap.size<=b)(C:∀b∈aw s,b∈own\/w.heap.size<=b)(B:∀t∈ks,t∈O):∀b∈I.a9 (O++[fN k s ks]),b∈I.a9 y\/b∈own\/w.heap.size<=b:=λb z=>by
 obtain⟨t,d,j⟩:=I.bM.1 z;rcases aX.1 d with d|d
 .exact q b (I.bM.2 ⟨t,d,j⟩)
 .simp at d;rw[d]at j;rcases XB j with h|h
  .exact .inr (C b (gi (e:=aW) h))
  .obtain ⟨x,D,A⟩:=I.bM.1 h;exact q b (I.bM.2 ⟨x,B x D,A⟩)
def OJ{own:List Nat}{w0 w:J}{rb:Nat}{sl:Sl}{st x:Int}{d:List FM}{f:FM}{O:List I}(H:FS own w0 w rb sl st x d f ((d++[f]).flatMap FM.rows) O){j:Nat}(e:1<=j)(h:j<=4):∀b∈aw (f.a0 j).1,b∈own\/w0.heap.size<=b:=λb k=>by have q:=pf d f (j - 1) _ (r0 f e h);exact(H.new (.rows ((d++[f]).flatMap FM.rows)) (by simp) b (aO.2 (bA.2 ⟨_,aE q,k⟩))).symm
def O7{q:List FM}{f:FM}{O:List I}{k:Int}{d s:Nat}{s':Sl}(j:∀g∈q++[f],∀t∈g.O,t∈O)(x:1<=d)(y:d<=4)(z:1<=s)(A:s<=4):∀g∈q++[(f.put d (s',(f.a0 d).2++[fN k (f.a0 s).1 (f.a0 s).2])).put s (⟨none,0,0⟩,[])],∀t∈g.O,t∈O++[fN k (f.a0 s).1 (f.a0 s).2]:=by
 intro g h t w;rcases aX.1 h with h|h
 .exact bt _ (j g (by simp[h]) t w)
 .simp at h;subst h;rcases yN _ _ z A w with e|e
  .rcases yN _ _ x y e with e|e
   .exact bt _ (j f (by simp) t e)
   .rcases aX.1 e with e|e
    .exact bt _ (j f (by simp) t (nF f d e))
    .exact di _ e
  .cases e
def Gc{w:J}{rb:Nat}{f0:Addr}{lo:List FX}{d:FX}{st C:Int}{own:List Nat}{O:List I}(h:St w rb f0 lo d st C own O)(hn:d.n<=1000000)(hc:d.ca.length<=1000000)(T:d.an.length<=1000000):
  ak aa Lt #[.pointer (some f0)] w λr q=>r=ag (.tuple #[])/\hW w own O rb f0 lo (jS d) st C (λ_=>True) q:=by
 refine Ol.ok _ w _ ((Gb h hn hc).mono ?_);rintro _ w1 ⟨rfl,ah,af,⟨sl,z,f,p,rfl,e,B,E,rfl,N,P,Q,S,L⟩,K,o1,G,t1,_⟩;refine⟨rfl,?_⟩;have D:=St.uy N P Q S L;have U:(f.a0 3).2.length<=1000000:=by
  have y:f.x.an.length=f.an.2.length:=by show(I.au f.an.2).length=_;rw[I.fk];simp
  have H:f.x.an=d.an:=by rw[e];rfl
  show f.an.2.length<=_;rw[<-y,H];exact T
 refine shift (R:=λr q=>r=ag (.tuple #[])/\hW w own O rb (p.add (z.length *10)) (z.map FM.x) (jS d) st C (λ_=>True) q) D E 3 3 4 (by omega) rfl (by omega) U (λt j=>B f (by simp) t j) λs' q F=>⟨rfl,hW.then K o1 G t1 ?_⟩;have:=St.of (O:=af) (A:=λ_=>True) (f0:=p.add (z.length *10)) F 0 rfl (O7 B (by omega) (by omega) (by omega) (by omega)) E rfl (Eg (w0:=w) (M:=F0) (λb Z=>.inl Z) (OJ D (by omega) (by omega)) λt j=>B f (by simp) t (nF f 4 j)) (λt j=>bt _ j) trivial;have y:((f.put 3 (s',(f.a0 3).2++[fN 3 (f.a0 4).1 (f.a0 4).2])).put 4 (⟨none,0,0⟩,[])).x=jS d:=by
  have hk:f.x.k=d.k:=by rw[e];rfl
  have Y:f.x.ar=d.ar:=by rw[e];rfl
  have V:f.x.al=d.al:=by rw[e];rfl
  have W:f.x.an=d.an:=by rw[e];rfl
  have ab:f.x.ca=(iU d).ca:=by rw[e]
  have ae:f.x.n=0:=by rw[e];rfl
  have ac:f.x.la=d.la:=by rw[e];rfl
  unfold jS;rw[<-hk,<-Y,<-V,<-W,<-ab,<-ac];show FX.mk f.k (f.ar.1,I.au f.ar.2) (I.au f.al.2) (I.au (f.an.2++[fN 3 f.ca.1 f.ca.2])) (I.au []) f.n f.la.rx=_;have ad:f.n=0:=ae;rw[ad,jz];simp[I.au,CZ,FM.x]
 rw[y]at this;exact this
def Ga{w:J}{rb:Nat}{f0:Addr}{lo:List FX}{d:FX}{st C:Int}{own:List Nat}{O:List I}(h:St w rb f0 lo d st C own O)(hn:d.n<=1000000)(hc:d.ca.length<=1000000)(T:d.an.length<=1000000)(hl:d.al.length<=1000000):
  ak aa Lr #[.pointer (some f0)] w λr q=>r=ag (.tuple #[])/\hW w own O rb f0 lo (jR d) st C (λ_=>True) q:=by
 refine Oi.ok _ w _ ((Gc h hn hc T).mono ?_);rintro _ w1 ⟨rfl,ai,ah,⟨sl,z,f,p,rfl,e,B,E,rfl,N,P,Q,S,L⟩,K,o1,G,t1,_⟩;refine⟨rfl,?_⟩;have D:=St.uy N P Q S L;have U:(f.a0 2).2.length<=1000000:=by
  have y:f.x.al.length=f.al.2.length:=by show(I.au f.al.2).length=_;rw[I.fk];simp
  have H:f.x.al=d.al:=by rw[e];rfl
  show f.al.2.length<=_;rw[<-y,H];exact hl
 refine shift (R:=λr q=>r=ag (.tuple #[])/\hW w own O rb (p.add (z.length *10)) (z.map FM.x) (jR d) st C (λ_=>True) q) D E 5 2 3 (by omega) rfl (by omega) U (λt j=>B f (by simp) t j) λs' q F=>⟨rfl,hW.then K o1 G t1 ?_⟩;have:=St.of (O:=ah) (A:=λ_=>True) (f0:=p.add (z.length *10)) F 0 rfl (O7 B (by omega) (by omega) (by omega) (by omega)) E rfl (Eg (w0:=w) (M:=F0) (λb Z=>.inl Z) (OJ D (by omega) (by omega)) λt j=>B f (by simp) t (nF f 3 j)) (λt j=>bt _ j) trivial;have y:((f.put 2 (s',(f.a0 2).2++[fN 5 (f.a0 3).1 (f.a0 3).2])).put 3 (⟨none,0,0⟩,[])).x=jR d:=by
  have hk:f.x.k=d.k:=by rw[e];rfl
  have Y:f.x.ar=d.ar:=by rw[e];rfl
  have V:f.x.al=d.al:=by rw[e];rfl
  have W:f.x.an=(jS d).an:=by rw[e]
  have ac:f.x.ca=[]:=by rw[e];rfl
  have af:f.x.n=0:=by rw[e];rfl
  have ad:f.x.la=d.la:=by rw[e];rfl
  unfold jR;rw[<-hk,<-Y,<-V,<-W,<-ad];show FX.mk f.k (f.ar.1,I.au f.ar.2) (I.au (f.al.2++[fN 5 f.an.1 f.an.2])) (I.au []) (I.au f.ca.2) f.n f.la.rx=_;have ae:f.n=0:=af;have ab:I.au f.ca.2=[]:=ac;rw[ae,ab,jz];simp[I.au,CZ,FM.x]
 rw[y]at this;exact this
abbrev SF(M:Nat->Prop)(w0 w:J)(rb:Nat)(sl:Sl)(st e:Int)(d:List FM)(f:FM)(G:List En)(O:List I):Prop:=LH M w0 w (SL rb sl st e ((d++[f]).flatMap FM.c) ((d++[f]).flatMap FM.rows)++G) [.trees O]
section
variable {M:Nat->Prop} {w0 w:J} {V:List Nat} {G:List En} {rb:Nat} {sl:Sl} {st wd:Int} {fs:List FM} {f:FM} {O:List I} {p:Addr}
def Y5(H:SF M w0 w rb sl st wd fs f G O)(j:∀g∈fs++[f],∀t∈g.O,t∈O)(z:sl.a=some p):
  St w rb (p.add (fs.length *10)) (fs.map FM.x) f.x st wd ((SL rb sl st wd ((fs++[f]).flatMap FM.c) ((fs++[f]).flatMap FM.rows)).flatMap (·.fp)) O:=by have h:=H.nd;rw[cy,fD]at h;refine⟨sl,fs,f,p,rfl,rfl,j,z,rfl,rfl,h.1,λd e=>H.own d (bt _ e),H.getD 0,λb k y=>?_⟩;obtain⟨d,e,q⟩:=bA.1 y;exact H.dj (.trees O) (by simp) b (aO.2 k) d (bt _ e) q
def Y4(H:SF M w0 w rb sl st wd fs f G O){Y:J}{T:Addr}{aa:List FX}{ac:FX}{ab ad:Int}{Q:List Nat}{B:List I}(s:St Y rb T aa ac ab ad Q B)(U:Fr (·∈(SL rb sl st wd ((fs++[f]).flatMap FM.c) ((fs++[f]).flatMap FM.rows)).flatMap (·.fp)) w Y)(o:∀q∈Q,q∈(SL rb sl st wd ((fs++[f]).flatMap FM.c) ((fs++[f]).flatMap FM.rows)).flatMap (·.fp)\/w.heap.size<=q)(j:∀b∈I.a9 B,b∈I.a9 O\/b∈(SL rb sl st wd ((fs++[f]).flatMap FM.c) ((fs++[f]).flatMap FM.rows)).flatMap (·.fp)\/w.heap.size<=b):
  ∃(K:Sl) (z:List FM) (C:FM) (F:Addr),z.map FM.x=aa/\C.x=ac/\(∀g∈z++[C],∀t∈g.O,t∈B)/\K.a=some F/\T=F.add (z.length *10)/\(∀b∈I.a9 B,b∈I.a9 O\/w0.heap.size<=b\/M b)/\SF M w0 Y rb K ab ad z C G B:=by
 obtain⟨K,z,C,F,h1,h2,h3,h4,h5,E,h7,h8,h9,ae⟩:=s;have P:=H.nd;rw[cy,fD]at P;have S:∀b∈(SL rb sl st wd ((fs++[f]).flatMap FM.c) ((fs++[f]).flatMap FM.rows)).flatMap (·.fp),w0.heap.size<=b\/M b:=λb j=>by obtain⟨e,d,k⟩:=bA.1 j;exact H.new e (bt _ d) b k
 have V:∀e∈G,∀b∈e.fp,b<w.heap.size:=λe d b j=>e.lt w (H.own e (di _ d)) b j;have L:∀e∈G,∀b∈e.fp,b∉(SL rb sl st wd ((fs++[f]).flatMap FM.c) ((fs++[f]).flatMap FM.rows)).flatMap (·.fp):=λe d b j N=>P.2.2 b N b (bA.2 ⟨e,d,j⟩) rfl;have Z:=H.fr.size;have ag:∀b∈Q,w0.heap.size<=b\/M b:=λb j=>(o b j).elim (S b) λh=>.inl (a8 Z h);refine⟨K,z,C,F,h1,h2,h3,h4,h5,λb A=>?_,H.fr.trans U λq hx N=>(S q N).resolve_left (by omega),λe d=>?_,λe d=>?_,λe d b A=>?_,?_,λe d b A D y k=>?_⟩
 .rcases j b A with h|h|h
  .exact .inl h
  .exact .inr (S b h)
  .exact .inr (.inl (a8 Z h))
 .rcases aX.1 d with d|d
  .exact h8 e d
  .exact e.st w Y (λb j hl=>U.cb b hl (L e d b j)) (H.own e (di _ d))
 .simp at d;subst d;exact h9
 .rcases aX.1 d with d|d
  .exact ag b (by rw[E];exact bA.2 ⟨e,d,A⟩)
  .exact H.new e (di _ d) b A
 .rw [cy,fD];refine⟨E▸h7,P.2.1,λq hx ah hy af=>?_⟩;subst af;obtain⟨e,d,k⟩:=bA.1 hy;rcases o q (by rw[E];exact hx)with h|h
  .exact L e d q k h
  .have:=V e d q k;omega
 .simp at d;subst d;have W:b∈I.a9 B:=aO.1 A;rcases aX.1 y with y|y
  .exact ae b W (by rw[E];exact bA.2 ⟨D,y,k⟩)
  .rcases j b W with h|h|h
   .exact H.dj (.trees O) (by simp) b (aO.2 h) D (di _ y) k
   .exact L D y b k h
   .have:=V D y b k;omega
def _root_.Go.W.LH.k1(H:SF M w0 w rb sl st wd fs f G O)(D:∀g∈fs++[f],∀t∈g.O,t∈O)(T:sl.a=some p){g:cD}{args:Array ab}{K:aH}{Q:cr->Addr->List FX->FX->Int->Int->List I->Prop}(N:∀own,St w rb (p.add (fs.length *10)) (fs.map FM.x) f.x st wd own O->ak aa g args w (hX w own O rb Q))(P:∀r y (k:Sl) (e:List FM) (h:FM) (j:Addr) (q z:Int) (d:List I),(∀t∈O,t∈d)->(∀g∈e++[h],∀t∈g.O,t∈d)->k.a=some j->(∀b∈I.a9 d,b∈I.a9 O\/w0.heap.size<=b\/M b)->Q r (j.add (e.length *10)) (e.map FM.x) h.x q z d->SF M w0 y rb k q z e h G d->K r y)(br:∀b∈V,En.g b∈G:=by simp):ee V aa g args w K:=by
 have B:=H.nd;rw[cy,fD]at B;refine⟨(·∈(SL rb sl st wd ((fs++[f]).flatMap FM.c) ((fs++[f]).flatMap FM.rows)).flatMap (·.fp)),λb F S=>?_,(N _ (Y5 H D T)).mono ?_⟩
 .exact B.2.2 b S b (bA.2 ⟨_,br b F,by simp[En.g]⟩) rfl
 .rintro r y ⟨Z,ac,ae,q,z,ad,d,s,A,o,b,t,Y⟩;obtain⟨k,e,h,j,rfl,rfl,E,U,rfl,L,C⟩:=Y4 H s A o b;exact⟨A,P r y k e h j q z d t E U L Y C⟩
def _root_.Go.W.LH.xv(H:SF M w0 w rb sl st wd fs f G O)(B:∀g∈fs++[f],∀t∈g.O,t∈O)(E:sl.a=some p){g:cD}{args:Array ab}{K:aH}{Q:cr->Addr->List FX->FX->Int->Int->List I->Prop}(C:∀own,St w rb (p.add (fs.length *10)) (fs.map FM.x) f.x st wd own O->ak aa g args w (hX w own O rb Q))(D:∀r k (y:Sl) (e:List FM) (h:FM) (q:Addr) (z A:Int) (d:List I),(∀t∈O,t∈d)->(∀g∈e++[h],∀t∈g.O,t∈d)->y.a=some q->(∀b∈I.a9 d,b∈I.a9 O\/w0.heap.size<=b\/M b)->Q r (q.add (e.length *10)) (e.map FM.x) h.x z A d->SF M w0 k rb y z A e h G d->K r k):ak aa g args w K:=by obtain⟨_,_,j⟩:=H.k1 (V:=[]) B E C D (by simp);exact j.mono λr k j=>j.2
end
def BU(f:FM):f.x.ar.2.length=f.ar.2.length/\f.x.al.length=f.al.2.length/\f.x.an.length=f.an.2.length/\f.x.ca.length=f.ca.2.length:=by refine⟨?_,?_,?_,?_⟩<;>(show(I.au _).length=_;rw[I.fk];simp)
def xf{w:J}{own:List Nat}{O:List I}{rb:Nat}{f0:Addr}{lo:List FX}{d:FX}{st e:Int}{g:cD}{args:Array ab}(h:ak aa g args w λr j=>r=ag (.tuple #[])/\hW w own O rb f0 lo d st e (λ_=>True) j):
  ak aa g args w (hX w own O rb λr k y A z B _=>r=ag (.tuple #[])/\k=f0/\y=lo/\A=d/\z=st/\B=e):=
 h.mono λr j ⟨q,x⟩=>⟨f0,lo,d,st,e,x.mono λ_ _=>⟨q,rfl,rfl,rfl,rfl,rfl⟩⟩
structure Small(f:FX)(n:Nat):Prop where
 n':f.n<=n
 ar:f.ar.2.length<=n
 al:f.al.length<=n
 an:f.an.length<=n
 ca:f.ca.length<=n
def xk{w:J}{rb:Nat}{f0:Addr}{lo:List FX}{E:FX}{st F:Int}{own:List Nat}{O:List I}(h:St w rb f0 lo E st F own O)(D:Small E 1000000):
  ak aa CE #[.pointer (some f0)] w (hX w own O rb λr ad ao ax aq aB az=>ad=f0/\ao=lo/\ax=Bs E/\aq=st/\aB=F/\∃t∈az,r=ag t.v/\t.rx=eM E):=by
 obtain⟨sl,Q,f,p,rfl,rfl,h3,h4,rfl,h6,h7,h8,h9,ae⟩:=h;have S:SF (·∈own) w w rb sl st F Q f [] O:=by have:=St.uy h6 h7 h8 h9 ae;show LH _ _ _ (_++[]) _;rw[dt];exact this
 refine Oj.aD _ w _ (S.aJ (V:=[]) (λz w1 T=>?_) (by simp));refine(show SF (·∈own) w w1 rb sl st F Q f [.g z] O from T).k1 (V:=[z]) h3 h4 (λaF s1=>xf (Ga s1 D.n' D.ca D.an D.al)) ?_ (by simp);rintro _ N ap e d p2 av aC aA t2 C H ab ⟨rfl,af,ah,y,rfl,rfl⟩ B;rw[<-af,<-ah];have L:((e++[d]).flatMap FM.rows)[e.length *4+(2 - 1)]? =some ((d.a0 2).1,(d.a0 2).2.flatMap I.c):=pf e d 1 _ (r0 d (j:=2) (by omega) (by omega));have am:bx 4 N d.al.1 (d.al.2.flatMap I.c):=by have hP:(En.rows ((e++[d]).flatMap FM.rows)).P N:=B.get 2;exact(hP.1 _ (aE L)).bc
 refine⟨rfl,d.al.1,B.gD 1 rfl H 2,B.ay (AQ 4 _ _ N am) ?_⟩;rintro _ w3 rfl W;refine⟨_,_,_,_,rfl,W.aJ (V:=[z]) (λG w4 Y=>Y.ai (V:=[z,G]) (λw5 Z=>?_) (by simp)) (by simp)⟩;refine Z.ik (V:=[z,G]) (f:=d) 1 (d.put 2 (⟨none,0,0⟩,[])) 2 rfl H (by omega) rfl (λw6 H6=>H6.ai (V:=[z,G]) (λw7 H7=>?_) (by simp)) (by simp);have H8:=H7.BV 2 (e.length *4+(2 - 1)) rfl L;have H9:=H8.MX 0 4 (s:=d.al.1) (ks:=d.al.2) rfl (by simp[FM.a0]) λt q=>C d (by simp) t (nF d 2 q);have er:=sw e d (⟨none,0,0⟩,[]) (j:=2) (by omega) (by omega);have e':(([]:List I).flatMap I.c)=[]:=rfl;rw[e']at er;simp only at er;have U:LH (·∈own) w w7 (SL rb ap av aC ((e++[d.put 2 (⟨none,0,0⟩,[])]).flatMap FM.c) ((e++[d.put 2 (⟨none,0,0⟩,[])]).flatMap FM.rows)) [.trees (aA++[fN 4 d.al.1 d.al.2])]:=by rw[<-er];exact H9.take 3
 have aj:∀b∈aw d.al.1,b∈own\/w.heap.size<=b:=λb K=>(B.new (.rows ((e++[d]).flatMap FM.rows)) (by simp) b (aO.2 (bA.2 ⟨_,aE L,K⟩))).symm;have ex:(d.put 2 (⟨none,0,0⟩,[])).x=Bs f.x:=by
  have e1:d.k=f.k:=by have:=congrArg FX.k y;exact this
  have e2:(d.ar.1,I.au d.ar.2)=f.x.ar:=by have:=congrArg FX.ar y;exact this
  have e3:I.au d.an.2=[]:=by have:=congrArg FX.an y;exact this
  have e4:I.au d.ca.2=[]:=by have:=congrArg FX.ca y;exact this
  have e5:d.n=0:=by have:=congrArg FX.n y;exact this
  have e6:d.la.rx=f.x.la:=by have:=congrArg FX.la y;exact this
  show FX.mk d.k (d.ar.1,I.au d.ar.2) (I.au []) (I.au d.an.2) (I.au d.ca.2) d.n d.la.rx=_;rw[e1,e2,e3,e4,e5,e6];rfl
 refine⟨_,_,_,_,_,St.of (O:=O) (f0:=p2.add (e.length *10)) U 0 rfl (λg A t q=>?_) H rfl (Eg (w0:=w) (M:=F0) (λb K=>(ab b K).imp id Or.symm) aj λt q=>C d (by simp) t (nF d 2 q)) (λt q=>bt _ (t2 t q)) ⟨rfl,rfl,ex,rfl,rfl,fN 4 d.al.1 d.al.2,by simp,rfl,?_⟩⟩
 .rcases aX.1 A with A|A
  .exact bt _ (C g (by simp[A]) t q)
  .simp at A;subst A;rcases yN _ _ (by omega) (by omega) q with h|h
   .exact bt _ (C d (by simp) t h)
   .cases h
 .rw [CZ];have:=congrArg FX.al y;have ac:I.au d.al.2=(jR f.x).al:=this;rw[ac];rfl
def n2{p:Addr}{K:Addr->Prop}(h:K p):dM (some p) K:=h
def Uu:gU aa aal hR (.agg #[.int .i64 0,.slice none 0 0,.slice none 0 0,.slice none 0 0,.slice none 0 0,.int .i64 0,.int .i64 0,.int .u8 0,.int .u8 0,.slice none 0 0]) 10 152:=⟨by kernel_rfl,by kernel_rfl,rfl,by decide,by decide⟩
section
variable {M:Nat->Prop} {w0 w:J} {L D:List En} {V:List Nat} {G:List En} {rb:Nat} {sl:Sl} {st wd:Int} {fs:List FM} {f:FM} {O:List I} {p:Addr}
def _root_.Go.W.LH.tA(H:LH M w0 w L D)(i j:Nat){b:Nat}{vs:List ab}{T:TypeId}{v:ab}{K:J->Prop}(U:L[i]? =some (.c b vs T))(x:∀h,LH M w0 h (L.set i (.c b (vs.set j v) T)) D->K h)(A:j<vs.length)(br:∀b∈V,En.g b∈L:=by simp):aQ w ((ae b).add j) v λk=>kept V w k/\K k:=by
 obtain⟨C,E,F⟩:=H.set (v:=v) i j U A;refine⟨C,E,λd e=>?_,x _ F⟩;have B:d≠b:=by rintro rfl;refine nN H U (λn y=>?_) (br _ e) (by simp[En.ob]);have q:({w with heap:=Array.replicate (n+1) (.map #[] 0)}:J).heap[d]? =some (.cells vs.toArray T (0,0)):=y;simp[Array.getElem?_replicate]at q
 have z:Fr (·=b) w (w.setCell ((ae b).add j) v):=Fr.set _ _ _ (by rw[iz])
 exact z.cb d (H.own _ (br _ e)) B
def y9(H:SF M w0 w rb sl st wd fs f G O):sl.n=fs.length+1:=by have d:aK w hR 10 sl ((fs++[f]).flatMap FM.c):=H.get 1;have:=d.len;rw[oQ]at this;simp at this;omega
def xo(H:SF M w0 w rb sl st wd fs f G O)(h:sl.a=some p)(q:fs.length<=1000000):ak aa yl #[.pointer (some (ae rb))] w λr j=>r=ag (.pointer (some (p.add (fs.length *10))))/\ah w j:=by
 have k:=y9 H;have e:ao .i64 (((sl.n:Nat):Int) - 1)=(fs.length:Int):=by rw[aS _ (by omega)];omega
 have d:SF M w0 w.drew rb sl st wd fs f G O:=H.drew;refine DS.ok _ w _ (show _ from⟨sl,d.ld 0 0,sl,d.ld 0 0,?_⟩);rw[e,h];exact⟨by omega,by omega,rfl,Fr.drew _ _⟩
def Ec(H:SF M w0 w rb sl st wd fs f G O)(k:Int)(lo U:UInt8):SF M w0 w rb sl st wd fs f G (O++[.mk k lo U ⟨none,0,0⟩ []]):=by
 have h:=H.gx (.trees (O++[.mk k lo U ⟨none,0,0⟩ []])) (Fr.refl _ _) (I.ib λt d=>?_) λb j=>.inr (.inr ⟨.trees O,by simp,?_⟩)
 .exact h.forget _ (by simp)
 .rcases aX.1 d with d|d
  .exact I.Ps.mem (H.getD 0) d
  .simp at d;subst d;show I.P w _;unfold I.P I.Ps;exact⟨bx.nil 4 w,trivial⟩
 .obtain ⟨t,d,e⟩:=I.bM.1 (aO.1 j);rcases aX.1 d with d|d
  .exact aO.2 (I.bM.2 ⟨t,d,e⟩)
  .simp at d;rw[d]at e;unfold I.fp I.a9 at e;simp[En.bc]at e
def xX{k:Int}{lo U:UInt8}{b:Nat}(h:b∈I.a9 (O++[.mk k lo U ⟨none,0,0⟩ []])):b∈I.a9 O:=by
 obtain⟨t,d,e⟩:=I.bM.1 h;rcases aX.1 d with d|d
 .exact I.bM.2 ⟨t,d,e⟩
 .simp at d;rw[d]at e;unfold I.fp I.a9 at e;simp[En.bc]at e
def YS(H:LH M w0 w L D)(i:Nat){h:List dY}(U:L[i]? =some (.rows h))(n:Nat):LH M w0 w (L.set i (.rows (h++List.replicate n (⟨none,0,0⟩,[])))) D:=by
 have k:(En.rows h).P w:=H.get i U;have j:(h++List.replicate n ((⟨none,0,0⟩,[]):dY)).flatMap (λd:dY=>aw d.1)=h.flatMap λd:dY=>aw d.1:=by
  rw[cy];have:(List.replicate n ((⟨none,0,0⟩,[]):dY)).flatMap (λd:dY=>aw d.1)=[]:=by
   induction n with
   |zero=>rfl
   |succ n x=>rw[List.replicate_succ,b',x];rfl
  rw[this,dt]
 refine H.gu i _ U (Fr.refl _ _) ⟨λd e=>?_,by rw[j];exact k.2⟩ λb q=>.inl (aO.2 (by have:=aO.1 q;rw[j]at this;exact this));rcases aX.1 e with e|e
 .exact k.1 d e
 .rw [List.eq_of_mem_replicate e];exact aK.nil _ _ _
end
def kB(k:Int):FX:=⟨k,(⟨none,0,0⟩,[]),[],[],[],0,fh⟩
def iJ(k:Int):FM:=⟨k,(⟨none,0,0⟩,[]),(⟨none,0,0⟩,[]),(⟨none,0,0⟩,[]),(⟨none,0,0⟩,[]),0,.mk 0 0 0 ⟨none,0,0⟩ []⟩
def yz{w:J}{rb:Nat}{f0:Addr}{lo:List FX}{e:FX}{st j:Int}{own:List Nat}{O:List I}(h:St w rb f0 lo e st j own O):∃(sl:Sl) (d:List FM) (f:FM) (p:Addr),d.map FM.x=lo/\f.x=e/\(∀g∈d++[f],∀t∈g.O,t∈O)/\sl.a=some p/\f0=p.add (d.length *10)/\SF (·∈own) w w rb sl st j d f [] O:=by obtain⟨sl,d,f,p,k,y,z,A,B,C,D,E,F,q⟩:=h;refine⟨sl,d,f,p,k,y,z,A,B,?_⟩;have:=St.uy C D E F q;show LH _ _ _ (_++[]) _;rw[dt];exact this
def Gn{w:J}{rb:Nat}{f0:Addr}{lo:List FX}{B:FX}{st x:Int}{own:List Nat}{O:List I}(h:St w rb f0 lo B st x own O)(Q:lo.length<=1000000)(kind state:Int):
  ak aa Lz #[.pointer (some (ae rb)),.int .i64 kind,.int .i64 state] w (hX w own O rb λr _ V Y W ab _=>r=ag (.bool true)/\V=lo++[B]/\Y=kB kind/\W=state/\ab=x):=by
 obtain⟨sl,d,f,p,rfl,rfl,N,h4,rfl,z⟩:=yz h;have hn:=y9 z;have ac:d.length<=1000000:=by simpa using Q
 refine Ou.ok _ _ _ w _ ⟨sl,z.ld 0 0,z.cR (e:=hR) (sz:=10) (n:=1) (cs:=(iJ kind).c) rfl (by decide) λw1 A=>?_⟩;refine A.FG 1 Uu (src:=⟨some (ae w.heap.size),1,1⟩) (news:=(iJ kind).c) rfl (aK.bc (A.get 3)).2.2 rfl (by simp[FM.c,iJ,Value.oneCell']) (by show(sl.n+1) *152<=_;omega) λq Z D ad S _=>?_;obtain⟨k,T⟩:∃k,q.a=some k:=by
  cases U:q.a with
  |none=>have:=(S U).2;simp at this
  |some k=>exact⟨k,rfl⟩
 have E:LH (·∈own) w Z [.c rb [sl.v,.int .i64 st,.int .i64 x] wF,.row hR 10 q ((d++[f]).flatMap FM.c++(iJ kind).c),.rows ((d++[f]).flatMap FM.rows)] [.trees O]:=D.take 3;refine E.st 0 0 rfl (λw3 F=>F.st 0 1 rfl (λC G=>?_));have H:=YS G 2 rfl 4;have K:SF (·∈own) w C rb q state x (d++[f]) (iJ kind) [] O:=by show LH _ _ _ (SL rb q state x ((d++[f]++[iJ kind]).flatMap FM.c) ((d++[f]++[iJ kind]).flatMap FM.rows)++[]) _;rw[dt,cy (xs:=d++[f]),cy (xs:=d++[f])];simpa[show(iJ kind).rows=[(⟨none,0,0⟩,[]),(⟨none,0,0⟩,[]),(⟨none,0,0⟩,[]),(⟨none,0,0⟩,[])]from rfl]using H
 have L:=Ec K 0 0 0;have M:LH (·∈own) w C (SL rb q state x ((d++[f]++[iJ kind]).flatMap FM.c) ((d++[f]++[iJ kind]).flatMap FM.rows)) [.trees (O++[.mk 0 0 0 ⟨none,0,0⟩ []])]:=L.take 3;refine⟨_,_,_,_,_,St.of (O:=O) (p:=k) (f0:=k.add ((d++[f]).length *10)) M 0 rfl (λg j t y=>?_) T rfl (λb P=>.inl (xX P)) (λt y=>bt _ y) ⟨rfl,?_,rfl,rfl,rfl⟩⟩
 .rcases aX.1 j with j|j
  .exact bt _ (N g j t y)
  .simp at j;subst j;simp[FM.O,iJ]at y;simp[y]
 .simp
def iB(d:FX)(x:Rx):FX:=⟨d.k,d.ar,d.al,d.an,d.ca,d.n,x⟩
def AM{w:J}{rb:Nat}{f0:Addr}{lo:List FX}{C:FX}{st z:Int}{own:List Nat}{O:List I}(h:St w rb f0 lo C st z own O)(Z:lo.length<=1000000)(t:I)(A:t∈O):
  ak aa CG #[.pointer (some (ae rb)),t.v] w (hX w own O rb λr W ac af ad ah _=>r=ag (.bool true)/\W=f0/\ac=lo/\af=iB C t.rx/\ad=3/\ah=z):=by
 obtain⟨sl,d,f,p,rfl,rfl,y,q,rfl,D⟩:=yz h;have ab:d.length<=1000000:=by simpa using Z
 refine Oq.aD _ _ _ _ _ w _ (D.aJ (V:=[]) (λj w1 E=>E.ai (V:=[j]) (λw2 F=>?_) (by simp)) (by simp));have B:SF (·∈own) w w2 rb sl st z d f [.g j] O:=F;refine B.ay (xo B q ab) ?_;rintro _ w3 rfl G;refine⟨_,rfl,n2 ?_⟩;refine G.ik (V:=[j]) (f:=f) 1 ⟨f.k,f.ar,f.al,f.an,f.ca,f.n,.mk t.k f.la.lo f.la.U f.la.s f.la.l⟩ 6 rfl q (by omega) rfl (λw4 H=>?_) (by simp);have Q:((p.add (d.length *10)).add 6).add 1=(p.add (d.length *10)).add 7:=add_add _ 6 1;have S:((p.add (d.length *10)).add 6).add 2=(p.add (d.length *10)).add 8:=add_add _ 6 2;have T:((p.add (d.length *10)).add 6).add 3=(p.add (d.length *10)).add 9:=add_add _ 6 3;rw[Q,S,T];refine H.ik (V:=[j]) (f:=⟨f.k,f.ar,f.al,f.an,f.ca,f.n,.mk t.k f.la.lo f.la.U f.la.s f.la.l⟩) 1 ⟨f.k,f.ar,f.al,f.an,f.ca,f.n,.mk t.k t.lo f.la.U f.la.s f.la.l⟩ 7 rfl q (by omega) rfl (λw5 K=>?_) (by simp);refine K.ik (V:=[j]) (f:=⟨f.k,f.ar,f.al,f.an,f.ca,f.n,.mk t.k t.lo f.la.U f.la.s f.la.l⟩) 1 ⟨f.k,f.ar,f.al,f.an,f.ca,f.n,.mk t.k t.lo t.U f.la.s f.la.l⟩ 8 rfl q (by omega) rfl (λw6 L=>?_) (by simp);refine L.ik (V:=[j]) (f:=⟨f.k,f.ar,f.al,f.an,f.ca,f.n,.mk t.k t.lo t.U f.la.s f.la.l⟩) 1 ⟨f.k,f.ar,f.al,f.an,f.ca,f.n,t⟩ 9 rfl q (by omega) rfl (λw7 M=>?_) (by simp);refine M.tA (V:=[j]) 0 1 rfl (λw8 N=>?_) (by simp) (by simp);have er:(d++[f]).flatMap FM.rows=(d++[(⟨f.k,f.ar,f.al,f.an,f.ca,f.n,t⟩:FM)]).flatMap FM.rows:=by simp[FM.rows]
 have P:LH (·∈own) w w8 (SL rb sl 3 z ((d++[(⟨f.k,f.ar,f.al,f.an,f.ca,f.n,t⟩:FM)]).flatMap FM.c) ((d++[(⟨f.k,f.ar,f.al,f.an,f.ca,f.n,t⟩:FM)]).flatMap FM.rows)) [.trees O]:=by rw[<-er];exact N.take 3
 refine⟨_,_,_,_,_,St.of (O:=O) (f0:=p.add (d.length *10)) P 0 rfl (λg x u e=>?_) q rfl (λb Y=>.inl Y) (λt A=>A) ⟨rfl,rfl,rfl,rfl,rfl,rfl⟩⟩;rcases aX.1 x with x|x
 .exact y g (by simp[x]) u e
 .simp at x;subst x;simp only[FM.O,aX,av,aR,aT]at e;rcases e with(((e|e)|e)|e)|rfl
  .exact y f (by simp) u (by simp[FM.O,e])
  .exact y f (by simp) u (by simp[FM.O,e])
  .exact y f (by simp) u (by simp[FM.O,e])
  .exact y f (by simp) u (by simp[FM.O,e])
  .exact A
structure Tk where
 k:UInt8
 lo:UInt8
 U:UInt8
 s:List UInt8
 a:Int
abbrev Tk.v(t:Tk):ab:=.agg #[.int .u8 (t.k.toNat:Int),.int .u8 (t.lo.toNat:Int),.int .u8 (t.U.toNat:Int),.string (ba t.s),.int .i64 t.a]
structure SX where
 lo:List FX
 tp:FX
 st:Int
 wd:Int
def zF:List UInt8:=[110,111,110,101]
def zE:List UInt8:=[101,109,112,116,121]
def zC:List UInt8:=[97,108,116]
def zB:List UInt8:=[97,108,108]
def zD:List UInt8:=[99,97,116]
def fB(t:Tk)(s:SX):Option SX:=
 if t.k=33 then some ⟨s.lo,⟨s.tp.k,s.tp.ar,s.tp.al,s.tp.an,s.tp.ca,s.tp.n+1,s.tp.la⟩,0,s.wd⟩
 else if t.k=40 then some ⟨s.lo++[s.tp],kB (-1),0,s.wd⟩
 else if t.k=114 then some ⟨s.lo,iB s.tp (.mk 2 t.lo t.U []),3,s.wd⟩
 else if t.k=119 then
  if t.s=zF then some ⟨s.lo,iB s.tp (.mk 0 0 0 []),3,s.wd⟩
  else if t.s=zE then some ⟨s.lo,iB s.tp (.mk 1 0 0 []),3,s.wd⟩
  else if t.s=zC then some ⟨s.lo,s.tp,2,4⟩
  else if t.s=zB then some ⟨s.lo,s.tp,2,5⟩
  else if t.s=zD then some ⟨s.lo,s.tp,2,3⟩
  else none
 else none
def w4(o:Option SX):cr->Addr->List FX->FX->Int->Int->List I->Prop:=λr _ lo d st e _=>(o=none/\r=ag (.bool false))\/(o=some ⟨lo,d,st,e⟩/\r=ag (.bool true))
section
variable {w Y:J} {own:List Nat} {G:List En} {rb:Nat} {sl:Sl} {st wd:Int} {fs:List FM} {f:FM} {O wE:List I} {p:Addr}
def g3{Q:cr->Addr->List FX->FX->Int->Int->List I->Prop}{r:cr}(H:SF (·∈own) w Y rb sl st wd fs f G wE)(e:∀g∈fs++[f],∀t∈g.O,t∈wE)(j:sl.a=some p)(h:∀b∈I.a9 wE,b∈I.a9 O\/w.heap.size<=b\/b∈own)(k:∀t∈O,t∈wE)(q:Q r (p.add (fs.length *10)) (fs.map FM.x) f.x st wd wE):hX w own O rb Q r Y:=
 ⟨_,_,_,_,_,St.of (O:=O) (f0:=p.add (fs.length *10)) (H.take 3) 0 rfl e j rfl (λb d=>(h b d).imp id Or.symm) k q⟩
end
def aaa(s:List UInt8):(ba s).toList=s:=by rw[ByteArray.toList_eq];rfl
def aab(a:Array UInt8):(ByteArray.mk a).toList=a.toList:=by rw[ByteArray.toList_eq]
def wo{s:List UInt8}{a:Array UInt8}{A B:Prop}(e:s=a.toList->A)(h:s≠a.toList->B):bn ((ba s).toList==(ByteArray.mk a).toList) A B:=by rw[aaa,aab];exact bD (λd=>e (by simpa using d)) (λd=>h (by simpa using d))
def jd{x:UInt8}{n:Nat}{A B:Prop}(q:n<256)(h:x=cI n->A)(j:x≠cI n->B):bn (((x.toNat:Nat):Int)==(n:Int)) A B:=by
 have e:∀x:UInt8,x.toNat=n↔x=cI n:=λx=>by rw[<-UInt8.toNat_inj,UInt8.toNat_ofNat'];omega
 exact bD (λd=>h ((e x).1 (by have:=eq_of_beq d;omega))) (λd=>j λk=>by have:x.toNat=n:=(e x).2 k;rw[this]at d;simp at d)
def To{w:J}{rb:Nat}{f0:Addr}{lo:List FX}{tp:FX}{st j:Int}{own:List Nat}{O:List I}(h:St w rb f0 lo tp st j own O)(Y:lo.length<=1000000)(hn:tp.n<=1000000)(t:Tk):
  ak aa CJ #[.pointer (some (ae rb)),t.v] w (hX w own O rb (w4 (fB t ⟨lo,tp,st,j⟩))):=by
 obtain⟨sl,d,f,p,rfl,rfl,C,y,rfl,ai⟩:=yz h;have aq:d.length<=1000000:=by simpa using Y
 have aF:f.n<=1000000:=hn;have base:∀b∈I.a9 O,b∈I.a9 O\/w.heap.size<=b\/b∈own:=λb hb=>.inl hb;refine DR.aD _ _ _ _ _ _ w _ (ai.aJ (V:=[]) (λe w1 z=>?_) (by simp));have z:SF (·∈own) w w1 rb sl st j d f [.g e] O:=z;have leaf:∀(k:Int) (a b:UInt8) {B:J} {ad ab:Int},SF (·∈own) w B rb sl ad ab d f [.g e] O->fB t ⟨d.map FM.x,f.x,st,j⟩=some ⟨d.map FM.x,iB f.x (.mk k a b []),3,ab⟩->
   ee [e] aa CG #[.pointer (some (ae rb)),.agg #[.i k,.int .u8 (a.toNat:Int),.int .u8 (b.toNat:Int),.slice none 0 0]] B λr_ w6=>∃t32:Bool,r_=ag (.bool t32)/\hX w own O rb (w4 (fB t ⟨d.map FM.x,f.x,st,j⟩)) (ag (.bool t32)) w6:=by
  intro k a b B ad ab q S;have F:=Ec q k a b;refine F.k1 (V:=[e]) (λg A u E=>bt _ (C g A u E)) y (λav s1=>AM s1 Y (.mk k a b ⟨none,0,0⟩ []) (by simp)) ?_ (by simp);rintro _ M aw ap f3 p3 ax aB az t3 P Q N ⟨rfl,aE,T,W,rfl,rfl⟩ G;refine⟨true,rfl,g3 G P Q (λaC hx=>?_) (λu E=>t3 u (bt _ E)) (.inr ⟨?_,rfl⟩)⟩
  .rcases N aC hx with h|h
   .exact .inl (xX h)
   .exact .inr h
  .rw [S,T,W];rfl
 refine jd (n:=33) (by omega) (λhk:t.k=33=>z.ay (xo z y aq) ?_) (λK:t.k≠33=>jd (n:=40) (by omega) (λhk:t.k=40=>?_) (λZ:t.k≠40=>jd (n:=114) (by omega) (λhk:t.k=114=>?_) (λac:t.k≠114=>jd (n:=119) (by omega) (λhk:t.k=119=>?_) (λau:t.k≠119=>?_))))
 .rintro _ B rfl q;refine⟨_,rfl,n2 ⟨_,q.gD 1 rfl y 5,n2 ?_⟩⟩;have am:ao .i64 ((f.n:Int)+1)=((f.n+1:Nat):Int):=by rw[aS _ (by omega)];omega
  rw[am];refine q.ik (V:=[e]) (f:=f) 1 ⟨f.k,f.ar,f.al,f.an,f.ca,f.n+1,f.la⟩ 5 rfl y (by omega) rfl (λM F=>?_) (by simp);refine F.tA (V:=[e]) 0 1 rfl (λaA G=>?_) (by simp) (by simp);have er:(d++[f]).flatMap FM.rows=(d++[(⟨f.k,f.ar,f.al,f.an,f.ca,f.n+1,f.la⟩:FM)]).flatMap FM.rows:=by simp[FM.rows]
  have H5:SF (·∈own) w aA rb sl 0 j d ⟨f.k,f.ar,f.al,f.an,f.ca,f.n+1,f.la⟩ [.g e] O:=by show LH _ _ _ (SL rb sl 0 j _ ((d++[(⟨f.k,f.ar,f.al,f.an,f.ca,f.n+1,f.la⟩:FM)]).flatMap FM.rows)++_) _;rw[<-er];exact G
  refine g3 H5 (λg A u E=>?_) y base (λ_ h=>h) (.inr ⟨?_,rfl⟩)
  .rcases aX.1 A with A|A
   .exact C g (by simp[A]) u E
   .simp at A;subst A;exact C f (by simp) u E
  .unfold fB;rw[aj hk];rfl
 .refine z.k1 (V:=[e]) C y (λav s1=>Gn s1 Y (-1) 0) ?_ (by simp);rintro _ M aw ap f3 p3 ax aB az t3 P Q N ⟨rfl,T,W,rfl,rfl⟩ G;refine⟨true,rfl,g3 G P Q N t3 (.inr ⟨?_,rfl⟩)⟩;unfold fB;rw[af K,aj hk,T,W]
 .exact leaf 2 t.lo t.U z (by unfold fB;rw[af K,af Z,aj hk])
 .refine z.tA (V:=[e]) 0 1 rfl (λB q=>?_) (by simp) (by simp);have q:SF (·∈own) w B rb sl 2 j d f [.g e] O:=q;have D:fB t ⟨d.map FM.x,f.x,st,j⟩=if t.s=zF then some ⟨d.map FM.x,iB f.x (.mk 0 0 0 []),3,j⟩else if t.s=zE then some ⟨d.map FM.x,iB f.x (.mk 1 0 0 []),3,j⟩else if t.s=zC then some ⟨d.map FM.x,f.x,2,4⟩else if t.s=zB then some ⟨d.map FM.x,f.x,2,5⟩else if t.s=zD then some ⟨d.map FM.x,f.x,2,3⟩else none:=by unfold fB;rw[af K,af Z,af ac,aj hk]
  have word:∀(k:Int),fB t ⟨d.map FM.x,f.x,st,j⟩=some ⟨d.map FM.x,f.x,2,k⟩->aQ B ((ae rb).add 2) (.i k) λah=>kept [e] B ah/\DR.bq ah (hX w own O rb (w4 (fB t ⟨d.map FM.x,f.x,st,j⟩))):=λk S=>
   q.tA (V:=[e]) 0 2 rfl (λM F=>g3 (show SF (·∈own) w M rb sl 2 k d f [.g e] O from F) C y base (λ_ h=>h) (.inr ⟨S,rfl⟩)) (by simp) (by simp)
  refine wo (λh1:t.s=zF=>leaf 0 0 0 q (by rw[D,aj h1])) (λH:t.s≠zF=>wo (λh1:t.s=zE=>leaf 1 0 0 q (by rw[D,af H,aj h1])) (λL:t.s≠zE=>wo (λh1:t.s=zC=>word 4 (by rw[D,af H,af L,aj h1])) (λn3:t.s≠zC=>wo (λh1:t.s=zB=>word 5 (by rw[D,af H,af L,af n3,aj h1])) (λn4:t.s≠zB=>wo (λh1:t.s=zD=>word 3 (by rw[D,af H,af L,af n3,af n4,aj h1])) (λn5:t.s≠zD=>?_)))));exact g3 q C y base (λ_ h=>h) (.inl ⟨by rw[D,af H,af L,af n3,af n4,af n5],rfl⟩)
 .exact g3 z C y base (λ_ h=>h) (.inl ⟨by unfold fB;rw[af K,af Z,af ac,af au],rfl⟩)
def XH{w:J}{e:TypeId}{sz:Nat}{s:Sl}{xs:List ab}{p:Addr}(h:aK w e sz s xs)(A:s.a=some p)(n:Nat)(d:n<=s.n):aK w e sz ⟨s.a,n,s.c⟩ (xs.take (n *sz)):=by
 have B:=h.len;rcases h.cases with⟨rfl,_⟩|⟨g,cur,y,z,j,k,q,x⟩
 .cases A
 .have C:n *sz<=s.n *sz:=Nat.mul_le_mul_right _ d;refine⟨by rw[eA];show _=n *sz;omega,.inr ⟨g,s.c,cur,by rw[y],Nat.zero_le _,z,a8 d j,k,q,?_⟩⟩;rw[<-x,List.take_take];congr 1;show n *sz=_;omega
section
variable {M:Nat->Prop} {w0 w:J} {L D A:List En} {V:List Nat} {G:List En} {rb:Nat} {O:List I}
def OL(H:LH M w0 w L D)(i:Nat){d j:List dY}(U:L[i]? =some (.rows (d++j))):LH M w0 w (L.set i (.rows d)) D:=by have e:(En.rows (d++j)).P w:=H.get i U;have h:=e.2;rw[cy,fD]at h;refine H.gu i _ U (Fr.refl _ _) ⟨λx q=>e.1 x (bt _ q),h.1⟩ λb k=>.inl (aO.2 ?_);rw[cy];exact bt _ (aO.1 k)
def Wj(H:LH M w0 w (A++G) [.trees O]):LH (·∈A.flatMap (·.fp)) w w A [.trees O]:=by have j:=H.nd;rw[cy,fD]at j;refine LH.tz _ _ (λe d=>⟨H.own e (bt _ d),λb h=>bA.2 ⟨e,d,h⟩⟩) j.1 λe d=>?_;simp only[av,aR,aT]at d;subst d;exact⟨H.getD 0,λb h k x q=>H.dj (.trees O) (by simp) b h k (bt _ x) q⟩
def Wg(H:LH M w0 w (A++G) [.trees O]){Y:J}{U:Addr}{ab:List FX}{ad:FX}{ac ae:Int}{S:List Nat}{C:List I}(s:St Y rb U ab ad ac ae S C)(V:Fr (·∈A.flatMap (·.fp)) w Y)(o:∀q∈S,q∈A.flatMap (·.fp)\/w.heap.size<=q)(j:∀b∈I.a9 C,b∈I.a9 O\/b∈A.flatMap (·.fp)\/w.heap.size<=b):
  ∃(L:Sl) (z:List FM) (D:FM) (K:Addr),z.map FM.x=ab/\D.x=ad/\(∀g∈z++[D],∀t∈g.O,t∈C)/\L.a=some K/\U=K.add (z.length *10)/\(∀b∈I.a9 C,b∈I.a9 O\/w0.heap.size<=b\/M b)/\SF M w0 Y rb L ac ae z D G C:=by
 obtain⟨L,z,D,K,h1,h2,h3,h4,h5,F,h7,h8,h9,af⟩:=s;have Q:=H.nd;rw[cy,fD]at Q;have T:∀b∈A.flatMap (·.fp),w0.heap.size<=b\/M b:=λb j=>by obtain⟨e,d,k⟩:=bA.1 j;exact H.new e (bt _ d) b k
 have W:∀e∈G,∀b∈e.fp,b<w.heap.size:=λe d b j=>e.lt w (H.own e (di _ d)) b j;have N:∀e∈G,∀b∈e.fp,b∉A.flatMap (·.fp):=λe d b j P=>Q.2.2 b P b (bA.2 ⟨e,d,j⟩) rfl;have aa:=H.fr.size;have ah:∀b∈S,w0.heap.size<=b\/M b:=λb j=>(o b j).elim (T b) λh=>.inl (a8 aa h);refine⟨L,z,D,K,h1,h2,h3,h4,h5,λb B=>?_,H.fr.trans V λq hx P=>(T q P).resolve_left (by omega),λe d=>?_,λe d=>?_,λe d b B=>?_,?_,λe d b B E y k=>?_⟩
 .rcases j b B with h|h|h
  .exact .inl h
  .exact .inr (T b h)
  .exact .inr (.inl (a8 aa h))
 .rcases aX.1 d with d|d
  .exact h8 e d
  .exact e.st w Y (λb j hl=>V.cb b hl (N e d b j)) (H.own e (di _ d))
 .simp at d;subst d;exact h9
 .rcases aX.1 d with d|d
  .exact ah b (by rw[F];exact bA.2 ⟨e,d,B⟩)
  .exact H.new e (di _ d) b B
 .rw [cy,fD];refine⟨F▸h7,Q.2.1,λq hx ai hy ag=>?_⟩;subst ag;obtain⟨e,d,k⟩:=bA.1 hy;rcases o q (by rw[F];exact hx)with h|h
  .exact N e d q k h
  .have:=W e d q k;omega
 .simp at d;subst d;have Z:b∈I.a9 C:=aO.1 B;rcases aX.1 y with y|y
  .exact af b Z (by rw[F];exact bA.2 ⟨E,y,k⟩)
  .rcases j b Z with h|h|h
   .exact H.dj (.trees O) (by simp) b (aO.2 h) E (di _ y) k
   .exact N E y b k h
   .have:=W E y b k;omega
def _root_.Go.W.LH.Ue(H:LH M w0 w (A++G) [.trees O]){g:cD}{args:Array ab}{K:aH}{Q:cr->Addr->List FX->FX->Int->Int->List I->Prop}(N:∀own,LH (·∈own) w w A [.trees O]->ak aa g args w (hX w own O rb Q))(P:∀r y (k:Sl) (e:List FM) (h:FM) (j:Addr) (q z:Int) (d:List I),(∀t∈O,t∈d)->(∀g∈e++[h],∀t∈g.O,t∈d)->k.a=some j->(∀b∈I.a9 d,b∈I.a9 O\/w0.heap.size<=b\/M b)->Q r (j.add (e.length *10)) (e.map FM.x) h.x q z d->SF M w0 y rb k q z e h G d->K r y)(br:∀b∈V,En.g b∈G:=by simp):ee V aa g args w K:=by
 have C:=H.nd;rw[cy,fD]at C;refine⟨(·∈A.flatMap (·.fp)),λb F S=>?_,(N _ (Wj H)).mono ?_⟩
 .exact C.2.2 b S b (bA.2 ⟨_,br b F,by simp[En.g]⟩) rfl
 .rintro r y ⟨Y,Z,ad,q,z,ac,d,s,B,o,b,t,U⟩;obtain⟨k,e,h,j,rfl,rfl,E,T,rfl,L,D⟩:=Wg H s B o b;exact⟨B,P r y k e h j q z d t E T L U D⟩
def Wi(H:LH M w0 w L [.trees O])(T:I)(h:T∈O)(k:Int)(lo U:UInt8):LH M w0 w L [.trees (O++[.mk k lo U T.s T.l])]:=by
 have j:I.Ps w O:=H.getD 0;have q:=H.gx (.trees (O++[.mk k lo U T.s T.l])) (Fr.refl _ _) (I.ib λt d=>?_) λb x=>.inr (.inr ⟨.trees O,by simp,?_⟩)
 .exact q.forget _ (by simp)
 .rcases aX.1 d with d|d
  .exact j.mem d
  .simp at d;subst d;unfold I.P;exact(j.mem h).parts
 .obtain ⟨t,d,e⟩:=I.bM.1 (aO.1 x);rcases aX.1 d with d|d
  .exact aO.2 (I.bM.2 ⟨t,d,e⟩)
  .simp at d;rw[d]at e;exact aO.2 (I.bM.2 ⟨T,h,I.gb.2 ((I.gb (t:=.mk k lo U T.s T.l)).1 e)⟩)
def Wm{T:I}(j:T∈O){k:Int}{lo U:UInt8}{b:Nat}(h:b∈I.a9 (O++[.mk k lo U T.s T.l])):b∈I.a9 O:=by
 obtain⟨t,d,e⟩:=I.bM.1 h;rcases aX.1 d with d|d
 .exact I.bM.2 ⟨t,d,e⟩
 .simp at d;rw[d]at e;exact I.bM.2 ⟨T,j,I.gb.2 ((I.gb (t:=.mk k lo U T.s T.l)).1 e)⟩
def Wh(H:LH M w0 w L [.trees O])(T:I)(e:T∈O):LH M w0 w L [.trees (O++T.l)]:=by
 have j:I.Ps w O:=H.getD 0;have k:=H.gx (.trees (O++T.l)) (Fr.refl _ _) (I.ib λt d=>?_) λb q=>.inr (.inr ⟨.trees O,by simp,?_⟩)
 .exact k.forget _ (by simp)
 .rcases aX.1 d with d|d
  .exact j.mem d
  .exact (j.mem e).parts.2.mem d
 .obtain ⟨t,d,h⟩:=I.bM.1 (aO.1 q);rcases aX.1 d with d|d
  .exact aO.2 (I.bM.2 ⟨t,d,h⟩)
  .exact aO.2 (I.bM.2 ⟨T,e,I.gb.2 (.inr (I.bM.2 ⟨t,d,h⟩))⟩)
def VU{T:I}(j:T∈O){b:Nat}(h:b∈I.a9 (O++T.l)):b∈I.a9 O:=by
 obtain⟨t,d,e⟩:=I.bM.1 h;rcases aX.1 d with d|d
 .exact I.bM.2 ⟨t,d,e⟩
 .exact I.bM.2 ⟨T,j,I.gb.2 (.inr (I.bM.2 ⟨t,d,e⟩))⟩
end
def TK{w:J}{rb:Nat}{sl:Sl}{p:Addr}{n:Nat}(h:w.cell? ((ae rb).add 0)=some sl.v)(q:sl.n=n+1)(j:sl.a=some p)(x:n<=1000000):ak aa yl #[.pointer (some (ae rb))] w λr k=>r=ag (.pointer (some (p.add (n *10))))/\ah w k:=by
 have e:ao .i64 (((sl.n:Nat):Int) - 1)=(n:Int):=by rw[aS _ (by omega)];omega
 have d:w.drew.cell? ((ae rb).add 0)=some sl.v:=h;refine DS.ok _ w _ (show _ from⟨sl,d,sl,d,?_⟩);rw[e,j];exact⟨by omega,by omega,rfl,Fr.drew _ _⟩
def l1(k:Int)(l:List Rx):Rx:=if k<0 then l.headD fh else .mk k 0 0 l
def Tb{w:J}{rb:Nat}{sl:Sl}{st A:Int}{d:List FM}{g f:FM}{O:List I}{p:Addr}{own:List Nat}(H:LH (·∈own) w w [.c rb [sl.v,.int .i64 st,.int .i64 A] wF,.row hR 10 sl (((d++[g])++[f]).flatMap FM.c),.rows ((d++[g]).flatMap FM.rows)] [.trees O])(h3:∀C∈d++[g],∀t∈C.O,t∈O)(h:sl.a=some p)(hl:d.length<=999999)(T:I)(q:T∈O)(hk:0<=f.k\/T.l≠[]):
  ak aa CH #[.pointer (some (ae rb)),T.s.v] w (hX w own O rb λr _ am av aq ax _=>r=ag (.bool true)/\am=d.map FM.x/\av=iB g.x (l1 f.k (I.au T.l))/\aq=3/\ax=A):=by
 have hn:sl.n=(d++[g]).length+1:=by have z:aK w hR 10 sl (((d++[g])++[f]).flatMap FM.c):=H.get 1;have:=z.len;rw[oQ]at this;simp at this ⊢;omega
 have az:1<=sl.c:=by have z:aK w hR 10 sl (((d++[g])++[f]).flatMap FM.c):=H.get 1;have:=z.cap;omega
 refine Ot.ok _ _ w _ (H.call (TK (H.ld 0 0) hn h (by simp;omega)) ?_);rintro _ w1 rfl Z;refine⟨_,rfl,n2 ⟨_,Z.gD 1 rfl h 0,?_⟩⟩;have D:=Z.drew;refine⟨sl,D.ld 0 0,sl,D.ld 0 0,?_⟩;have ac:ao .i64 (((sl.n:Nat):Int) - 1)=(((d++[g]).length:Nat):Int):=by rw[aS _ (by simp at hn;omega)];omega
 rw[ac];have z:aK w hR 10 sl (((d++[g])++[f]).flatMap FM.c):=H.get 1;have aA:=z.cap;refine⟨by omega,by omega,?_⟩;have ev:Value.slice (if sl.c=0 then sl.a else sl.a.map (·.add (0 *10))) ((aZ (((d++[g]).length:Nat):Int)) - 0) (sl.c - 0)=(⟨sl.a,(d++[g]).length,sl.c⟩:Sl).v:=by rw[af (by omega),h];show Value.slice (some (p.add 0)) _ _=Value.slice (some p) _ _;rw[iS];simp
 rw[ev];refine D.st 0 0 rfl λj H3=>?_;have al:aK j hR 10 sl (((d++[g])++[f]).flatMap FM.c):=H3.get 1;have ab:=XH al h (d++[g]).length (by omega);have et:(((d++[g])++[f]).flatMap FM.c).take ((d++[g]).length *10)=(d++[g]).flatMap FM.c:=by rw[cy,<-oQ,List.take_left'];rfl
 rw[et]at ab;have H4:=H3.gu 1 (.row hR 10 ⟨sl.a,(d++[g]).length,sl.c⟩ ((d++[g]).flatMap FM.c)) rfl (Fr.refl _ _) ab λb y=>.inl y;have E:SF (·∈own) w j rb ⟨sl.a,(d++[g]).length,sl.c⟩ st A d g [] O:=by show LH _ _ _ (_++[]) _;rw[dt];exact H4
 refine bD (λL=>?_) (λL=>?_)
 .have S:f.k<0:=ew L;have ai:T.l≠[]:=hk.resolve_left (by omega);obtain⟨C,l,B⟩:=List.exists_cons_of_ne_nil ai;have hr:bx 4 j T.s (T.l.flatMap I.c):=((show I.Ps j O from E.getD 0).mem q).parts.1;have ah:=I.cm hr;refine⟨by omega,by rw[ah,B];simp,I.de hr (i:=0) (t:=C) (by rw[B];rfl) λaB hq c=>⟨_,_,_,_,c.c0,c.c1,c.c2,c.c3,?_⟩⟩;have F:=Wh E T q;refine(show SF (·∈own) w j rb ⟨sl.a,(d++[g]).length,sl.c⟩ st A d g [] (O++T.l)from F).xv (λY U t e=>bt _ (h3 Y U t e)) h (λan V=>AM V (by simp;omega) C (by rw[B];simp)) ?_;rintro _ w4 ap ad f4 p4 ar ay aw W M N K ⟨rfl,_,P,Q,rfl,rfl⟩ G;refine⟨true,rfl,g3 G M N (λb y=>(K b y).imp (VU q) id) (λt e=>W t (bt _ e)) ⟨rfl,P,?_,rfl,rfl⟩⟩;rw[Q,B];unfold l1;rw[aj S];rfl
 .have S:¬f.k<0:=g5 L;have F:=Wi E T q f.k 0 0;refine(show SF (·∈own) w j rb ⟨sl.a,(d++[g]).length,sl.c⟩ st A d g [] (O++[.mk f.k 0 0 T.s T.l])from F).xv (λY U t e=>bt _ (h3 Y U t e)) h (λan V=>AM V (by simp;omega) (.mk f.k 0 0 T.s T.l) (by simp)) ?_;rintro _ w4 ap ad f4 p4 ar ay aw W M N K ⟨rfl,_,P,Q,rfl,rfl⟩ G;refine⟨true,rfl,g3 G M N (λb y=>(K b y).imp (Wm q) id) (λt e=>W t (bt _ e)) ⟨rfl,P,?_,rfl,rfl⟩⟩;rw[Q];unfold l1;rw[af S];rfl
def k0(s:SX)(l:List Rx):Option SX:=match s.lo.getLast? with
 |none=>none
 |some g=>some ⟨s.lo.dropLast,iB g (l1 s.tp.k l),3,s.wd⟩
def FK(s':Sl)(f:FX):FX:=⟨f.k,(s',f.ar.2++[eM f]),[],[],[],0,f.la⟩
def fA(s':Sl)(t:Tk)(s:SX):Option SX:=
 if s.st=2 then(if t.k=40 then some ⟨s.lo++[s.tp],kB s.wd,1,s.wd⟩else none)
 else if s.st=1 then(if t.k=41 then k0 s []else fB t s)
 else if s.st=0 then fB t s
 else if t.k=42 then some ⟨s.lo,iB s.tp (.mk 7 0 0 [s.tp.la]),s.st,s.wd⟩
 else if t.k=38 then some ⟨s.lo,jS s.tp,0,s.wd⟩
 else if t.k=124 then some ⟨s.lo,jR s.tp,0,s.wd⟩
 else if t.k=44 then(if s.tp.k<0 then none else some ⟨s.lo,FK s' s.tp,0,s.wd⟩)
 else if t.k=41 then(if s.lo=[]then none else k0 s (s.tp.ar.2++[eM s.tp]))
 else if t.k=36 then(if s.lo=[]then some s else none)
 else fB t ⟨s.lo,iU s.tp,s.st,s.wd⟩
section
variable {M:Nat->Prop} {w0 w1:J} {V:List Nat} {G:List En} {rb:Nat} {sl:Sl} {st wd:Int} {fs:List FM} {f:FM} {O:List I} {p:Addr}
abbrev Fh(M:Nat->Prop)(w0 w:J)(rb:Nat)(sl:Sl)(st wd:Int)(fs:List FM)(f:FM)(d:List dY)(G:List En)(O:List I):Prop:=LH M w0 w (SL rb sl st wd ((fs++[f]).flatMap FM.c) d++G) [.trees O]
def NA(N:SF M w0 w1 rb sl st wd fs f G O)(i:Nat){src:Sl}(U:(SL rb sl st wd ((fs++[f]).flatMap FM.c) ((fs++[f]).flatMap FM.rows)++G)[i]? =some (.row aW 4 src z4))(F:sl.a=some p)(d:Nat)(C:1<=d)(D:d<=4)(t:I)(Z:(f.a0 d).2.length<=1000000)(ai:src.n=1){K:J->Prop}(Y:∀e q,SF M w0 q rb sl st wd fs (f.put d (e,(f.a0 d).2++[t])) G O->K q)(br:∀b∈V,En.g b∈G:=by simp):
  ∃(t15:Sl) (j:J),(dW #[ir,ir] ir #[(f.a0 d).1.v,src.v]).run aa w1=.ok (t15.v) j/\kept V w1 j/\(0:Int)<=(((f.a0 d).1.n:Nat):Int)/\(((f.a0 d).1.n:Nat):Int)<((t15.n:Nat):Int)/\dM t15.a λh=>
   ((aQ j (h.add (aZ (((f.a0 d).1.n:Nat):Int) *4)) (.int .i64 t.k) λw=>kept V j w/\aQ w ((h.add (aZ (((f.a0 d).1.n:Nat):Int) *4)).add 1) (.int .u8 (t.lo.toNat:Int)) λx=>kept V w x/\aQ x ((h.add (aZ (((f.a0 d).1.n:Nat):Int) *4)).add 2) (.int .u8 (t.U.toNat:Int)) λy=>kept V x y/\aQ y ((h.add (aZ (((f.a0 d).1.n:Nat):Int) *4)).add 3) t.s.v λB=>kept V y B/\aQ B ((p.add (fs.length *10)).add d) t15.v λad=>kept V B ad/\K ad)/\
   (aQ j ((p.add (fs.length *10)).add d) t15.v λS=>kept V j S/\aQ S (h.add (aZ (((f.a0 d).1.n:Nat):Int) *4)) (.int .i64 t.k) λw=>kept V S w/\aQ w ((h.add (aZ (((f.a0 d).1.n:Nat):Int) *4)).add 1) (.int .u8 (t.lo.toNat:Int)) λx=>kept V w x/\aQ x ((h.add (aZ (((f.a0 d).1.n:Nat):Int) *4)).add 2) (.int .u8 (t.U.toNat:Int)) λy=>kept V x y/\aQ y ((h.add (aZ (((f.a0 d).1.n:Nat):Int) *4)).add 3) t.s.v λB=>kept V y B/\K B)):=by
 have ac:((fs++[f]).flatMap FM.rows)[fs.length *4+(d - 1)]? =some ((f.a0 d).1,(f.a0 d).2.flatMap I.c):=pf fs f (d - 1) _ (r0 f C D);have nr:(f.a0 d).1.n=(f.a0 d).2.length:=by have F:(En.rows ((fs++[f]).flatMap FM.rows)).P w1:=N.get 2;exact I.cm (F.1 _ (aE ac)).bc
 have E:∀{L:List En},∀b∈V,En.g b∈L++G:=λb Z=>di _ (br b Z);obtain⟨e,j,h1,ae,h3⟩:=N.xa (V:=V) (ty:=ir) 2 (fs.length *4+(d - 1)) (src:=src) (news:=z4) (K:=λe q=>Fh M w0 q rb sl st wd fs f (((fs++[f]).flatMap FM.rows).set (fs.length *4+(d - 1)) (e,(f.a0 d).2.flatMap I.c++z4)) G O/\e.n=(f.a0 d).1.n+1/\∃h,e.a=some h) rfl ac (aK.bc (N.get i U)) (by simp[Value.oneCell']) (by omega) (λe w4 H4 ag af=>⟨H4,by omega,by
  cases hs:e.a with
  |none=>have:=(af hs).2;omega
  |some h=>exact⟨h,rfl⟩⟩) E
 obtain⟨T,ah,h,Q⟩:=h3;refine⟨e,j,h1,ae,by omega,by omega,?_⟩;rw[Q];have ab:fs.length *4+(d - 1)<((fs++[f]).flatMap FM.rows).length:=by rw[qU];simp;omega
 have W:∀(f:FM) (t:I) (d:Nat),(f.a0 d).2.flatMap I.c++t.c=((f.a0 d).2++[t]).flatMap I.c:=λf t d=>by simp
 rw[nr];refine⟨?_,?_⟩
 .refine LH.s4 (V:=V) T 2 (fs.length *4+(d - 1)) (f.a0 d).2.length t rfl (ic ab) Q (I.eW _) (λq z=>?_) E;have z:Fh M w0 q rb sl st wd fs f ((((fs++[f]).flatMap FM.rows).set (fs.length *4+(d - 1)) (e,(f.a0 d).2.flatMap I.c++z4)).set (fs.length *4+(d - 1)) (e,(f.a0 d).2.flatMap I.c++t.c)) G O:=z;rw[List.set_set,W,sw fs f (e,(f.a0 d).2++[t]) C D]at z;exact z.ik (V:=V) (f:=f) 1 (f.put d (e,(f.a0 d).2++[t])) d rfl F (by omega) (vP f (e,(f.a0 d).2++[t]) C D) (λH A=>Y e H A) E
 .refine T.ik (V:=V) (f:=f) 1 (f.put d (e,(f.a0 d).2++[t])) d rfl F (by omega) (vP f (e,(f.a0 d).2++[t]) C D) (λq z=>?_) E;refine LH.s4 (V:=V) (L:=SL rb sl st wd ((fs++[f.put d (e,(f.a0 d).2++[t])]).flatMap FM.c) (((fs++[f]).flatMap FM.rows).set (fs.length *4+(d - 1)) (e,(f.a0 d).2.flatMap I.c++z4))++G) z 2 (fs.length *4+(d - 1)) (f.a0 d).2.length t rfl (ic ab) Q (I.eW _) (λH A=>?_) E;have A:LH M w0 H (SL rb sl st wd ((fs++[f.put d (e,(f.a0 d).2++[t])]).flatMap FM.c) ((((fs++[f]).flatMap FM.rows).set (fs.length *4+(d - 1)) (e,(f.a0 d).2.flatMap I.c++z4)).set (fs.length *4+(d - 1)) (e,(f.a0 d).2.flatMap I.c++t.c))++G) [.trees O]:=A;rw[List.set_set,W,sw fs f (e,(f.a0 d).2++[t]) C D]at A;exact Y e H A
end
def qE{α:Type}(l:List α):l=[]\/∃a e,l=a++[e]:=by
 rcases List.eq_nil_or_concat l with d|⟨a,e,d⟩
 .exact .inl d
 .exact .inr ⟨a,e,by rw[d,List.concat_eq_append]⟩
def GM(lo:List FX)(g d:FX)(st e:Int)(l:List Rx):k0 ⟨lo++[g],d,st,e⟩ l=some ⟨lo,iB g (l1 d.k l),3,e⟩:=by unfold k0;simp
def rv(t:Tk)(S:SX):cr->Addr->List FX->FX->Int->Int->List I->Prop:=λr d lo h st k j=>∃e,w4 (fA e t S) r d lo h st k j
def Td{w:J}{rb:Nat}{f0:Addr}{lo:List FX}{tp:FX}{st z:Int}{own:List Nat}{O:List I}(h:St w rb f0 lo tp st z own O)(hl:lo.length<=999999)(hs:Small tp 999999)(h1:st=1->0<=tp.k/\lo≠[])(t:Tk):
  ak aa CI #[.pointer (some (ae rb)),t.v] w (hX w own O rb (rv t ⟨lo,tp,st,z⟩)):=by
 obtain⟨sl,j,f,p,rfl,rfl,M,D,rfl,bF⟩:=yz h;have bv:j.length<=999999:=by simpa using hl
 have bW:f.n<=999999:=hs.n';have ao:Small f.x 1000000:=⟨by have:=hs.n';omega,by have:=hs.ar;omega,by have:=hs.al;omega,by have:=hs.an;omega,by have:=hs.ca;omega⟩;have base:∀b∈I.a9 O,b∈I.a9 O\/w.heap.size<=b\/b∈own:=λb hb=>.inl hb
 let ah:Sl:=⟨none,0,0⟩
 refine vY.aD _ _ _ _ _ _ w _ (bF.aJ (V:=[]) (λq w1 H1=>?_) (by simp));have H1:SF (·∈own) w w1 rb sl st z j f [.g q] O:=H1;refine H1.ay (xo H1 D (by omega)) ?_;rintro _ w2 rfl B;have B:SF (·∈own) w w2 rb sl st z j f [.g q] O:=B;refine⟨_,rfl,st,B.ld 0 1,?_⟩;have item:∀{w2:J} {aG:Sl} {bj bk:Int} {am:List FM} {f2:FM} {aq:List I} {p2:Addr},SF (·∈own) w w2 rb aG bj bk am f2 [.g q] aq->(∀g∈am++[f2],∀t∈g.O,t∈aq)->aG.a=some p2->(∀b∈I.a9 aq,b∈I.a9 O\/w.heap.size<=b\/b∈own)->(∀t∈O,t∈aq)->am.length<=1000000->f2.n<=1000000->
   fA ah t ⟨j.map FM.x,f.x,st,z⟩=fB t ⟨am.map FM.x,f2.x,bj,bk⟩->ee [q] aa CJ #[.pointer (some (ae rb)),t.v] w2 λr_ w5=>∃t34:Bool,r_=ag (.bool t34)/\hX w own O rb (rv t ⟨j.map FM.x,f.x,st,z⟩) (ag (.bool t34)) w5:=by
  intro w2 aG bj bk am f2 aq p2 B be bf bg ba bh bX he;refine B.k1 (V:=[q]) be bf (λaF s1=>To s1 (by simpa using bh) bX t) ?_ (by simp);rintro r w3 ab Q d p3 ap ac N t3 E C Y b0 H4;have hb:∀b∈I.a9 N,b∈I.a9 O\/w.heap.size<=b\/b∈own:=λb hb=>(Y b hb).elim (bg b) .inr;rcases b0 with⟨hn,rfl⟩|⟨b1,rfl⟩
  .exact ⟨false,rfl,g3 H4 E C hb (λt ht=>t3 t (ba t ht)) ⟨ah,.inl ⟨he.trans hn,rfl⟩⟩⟩
  .exact ⟨true,rfl,g3 H4 E C hb (λt ht=>t3 t (ba t ht)) ⟨ah,.inr ⟨he.trans b1,rfl⟩⟩⟩
 have close:∀{w2:J} {aG:Sl} {am:List FM} {aY f2:FM} {aq:List I} {p2:Addr} {s':Sl} (T:I),LH (·∈own) w w2 ([.c rb [aG.v,.int .i64 st,.int .i64 z] wF,.row hR 10 aG (((am++[aY])++[f2]).flatMap FM.c),.rows ((am++[aY]).flatMap FM.rows)]++[.g q]) [.trees aq]->(∀ad∈am++[aY],∀t∈ad.O,t∈aq)->aG.a=some p2->am.length<=999999->T∈aq->(0<=f2.k\/T.l≠[])->(∀b∈I.a9 aq,b∈I.a9 O\/w.heap.size<=b\/b∈own)->(∀t∈O,t∈aq)->
   fA s' t ⟨j.map FM.x,f.x,st,z⟩=some ⟨am.map FM.x,iB aY.x (l1 f2.k (I.au T.l)),3,z⟩->ee [q] aa CH #[.pointer (some (ae rb)),T.s.v] w2 λr_ w5=>∃t34:Bool,r_=ag (.bool t34)/\hX w own O rb (rv t ⟨j.map FM.x,f.x,st,z⟩) (ag (.bool t34)) w5:=by intro w2 aG am aY f2 aq p2 s' T B be bf bh hT F bg ba he;refine LH.Ue (rb:=rb) (V:=[q]) B (λaF HA=>Tb HA be bf bh T hT F) ?_ (by simp);rintro r w3 ab Q d p3 ap ac N t3 E C Y ⟨rfl,S,A,rfl,rfl⟩ H4;refine⟨true,rfl,g3 H4 E C (λb hb=>(Y b hb).elim (bg b) .inr) (λt ht=>t3 t (ba t ht)) ⟨s',.inr ⟨?_,rfl⟩⟩⟩;rw[S,A];exact he
 refine bD (λaM=>?_) (λaM=>?_)
 .have aM:st=2:=eq_of_beq aM;refine jd (n:=40) (by omega) (λF:t.k=40=>⟨z,B.ld 0 2,?_⟩) (λF:t.k≠40=>?_)
  .refine B.k1 (V:=[q]) M D (λaF s1=>Gn s1 (by simp;omega) z 1) ?_ (by simp);rintro _ w3 ab Q d p3 ap ac N t3 E C Y ⟨rfl,S,A,rfl,rfl⟩ H4;refine⟨true,rfl,g3 H4 E C Y t3 ⟨ah,.inr ⟨?_,rfl⟩⟩⟩;rw[S,A];unfold fA;exact(aj aM).trans (aj F)
  .refine g3 B M D base (λ_ h=>h) ⟨ah,.inl ⟨?_,rfl⟩⟩;unfold fA;exact(aj aM).trans (af F)
 have bb:st≠2:=λZ=>by rw[Z]at aM;exact absurd aM (by decide)
 refine bD (λaB=>?_) (λaB=>?_)
 .have aB:st=1:=eq_of_beq aB;obtain⟨bU,bY⟩:=h1 aB;refine jd (n:=41) (by omega) (λF:t.k=41=>?_) (λF:t.k≠41=>?_)
  .rcases qE j with rfl|⟨aA,g,rfl⟩
   .exact absurd rfl bY
   have H3:=Ec B 3 0 0;have er:(((aA++[g])++[f]).flatMap FM.rows)=(aA++[g]).flatMap FM.rows++f.rows:=by rw[cy (xs:=aA++[g])];simp
   have H4:LH (·∈own) w w2 (SL rb sl st z (((aA++[g])++[f]).flatMap FM.c) ((aA++[g]).flatMap FM.rows++f.rows)++[.g q]) [.trees (O++[.mk 3 0 0 ⟨none,0,0⟩ []])]:=by rw[<-er];exact H3
   have H5:=OL H4 2 rfl;refine close (s':=ah) (.mk 3 0 0 ⟨none,0,0⟩ []) H5 (λad hx u y=>bt _ (M ad (bt _ hx) u y)) D (by simp at bv;omega) (by simp) (.inl bU) (λb hb=>.inl (xX hb)) (λu y=>bt _ y) ?_;unfold fA;refine(af bb).trans ((aj aB).trans ((aj F).trans ?_));rw[g2];exact GM _ _ _ _ _ _
  .refine item B M D base (λ_ h=>h) (by omega) (by omega) ?_;unfold fA;exact(af bb).trans ((aj aB).trans (af F))
 have n1:st≠1:=λZ=>by rw[Z]at aB;exact absurd aB (by decide)
 refine bD (λaQ=>?_) (λaQ=>?_)
 .have aQ:st=0:=eq_of_beq aQ;refine item B M D base (λ_ h=>h) (by omega) (by omega) ?_;unfold fA;exact(af bb).trans ((af n1).trans (aj aQ))
 have n0:st≠0:=λZ=>by rw[Z]at aQ;exact absurd aQ (by decide)
 have fe:∀s':Sl,fA s' t ⟨j.map FM.x,f.x,st,z⟩=(if t.k=42 then some ⟨j.map FM.x,iB f.x (.mk 7 0 0 [f.x.la]),st,z⟩
   else if t.k=38 then some ⟨j.map FM.x,jS f.x,0,z⟩
   else if t.k=124 then some ⟨j.map FM.x,jR f.x,0,z⟩
   else if t.k=44 then(if f.x.k<0 then none else some ⟨j.map FM.x,FK s' f.x,0,z⟩)
   else if t.k=41 then(if j.map FM.x=[]then none else k0 ⟨j.map FM.x,f.x,st,z⟩ (f.x.ar.2++[eM f.x]))
   else if t.k=36 then(if j.map FM.x=[]then some ⟨j.map FM.x,f.x,st,z⟩else none)
   else fB t ⟨j.map FM.x,iU f.x,st,z⟩):=λs'=>by unfold fA;exact(af bb).trans ((af n1).trans (af n0))
 refine jd (n:=42) (by omega) (λF:t.k=42=>?_) (λaz:t.k≠42=>jd (n:=38) (by omega) (λF:t.k=38=>?_) (λaC:t.k≠38=>jd (n:=124) (by omega) (λF:t.k=124=>?_) (λaN:t.k≠124=>jd (n:=44) (by omega) (λF:t.k=44=>?_) (λa5:t.k≠44=>jd (n:=41) (by omega) (λF:t.k=41=>?_) (λbi:t.k≠41=>jd (n:=36) (by omega) (λF:t.k=36=>?_) (λb4:t.k≠36=>?_))))))
 .obtain ⟨c0,c1,c2,c3⟩:=B.Ja 1 rfl D;refine n2 ⟨_,_,_,_,c0,c1,c2,c3,?_⟩;refine B.cR (e:=aW) (sz:=4) (n:=1) (cs:=f.la.c) rfl (by decide) λw7 H7=>n2 ?_;have bO:((p.add (j.length *10)).add 6).add 1=(p.add (j.length *10)).add 7:=add_add _ 6 1;have a2:((p.add (j.length *10)).add 6).add 2=(p.add (j.length *10)).add 8:=add_add _ 6 2;have bP:((p.add (j.length *10)).add 6).add 3=(p.add (j.length *10)).add 9:=add_add _ 6 3;rw[bO,a2,bP];refine H7.ik (V:=[q]) (f:=f) 1 ⟨f.k,f.ar,f.al,f.an,f.ca,f.n,.mk 7 f.la.lo f.la.U f.la.s f.la.l⟩ 6 rfl D (by omega) rfl (λw8 H8=>?_) (by simp);refine H8.ik (V:=[q]) (f:=⟨f.k,f.ar,f.al,f.an,f.ca,f.n,.mk 7 f.la.lo f.la.U f.la.s f.la.l⟩) 1 ⟨f.k,f.ar,f.al,f.an,f.ca,f.n,.mk 7 0 f.la.U f.la.s f.la.l⟩ 7 rfl D (by omega) rfl (λw9 H9=>?_) (by simp);refine H9.ik (V:=[q]) (f:=⟨f.k,f.ar,f.al,f.an,f.ca,f.n,.mk 7 0 f.la.U f.la.s f.la.l⟩) 1 ⟨f.k,f.ar,f.al,f.an,f.ca,f.n,.mk 7 0 0 f.la.s f.la.l⟩ 8 rfl D (by omega) rfl (λcd bG=>?_) (by simp);refine bG.ik (V:=[q]) (f:=⟨f.k,f.ar,f.al,f.an,f.ca,f.n,.mk 7 0 0 f.la.s f.la.l⟩) 1 ⟨f.k,f.ar,f.al,f.an,f.ca,f.n,.mk 7 0 0 ⟨some (ae w2.heap.size),1,1⟩ [f.la]⟩ 9 rfl D (by omega) rfl (λbB bl=>?_) (by simp);have bw:f.la∈O:=M f (by simp) _ (by simp[FM.O]);have bH:=bl.freeze 4 (I.row ⟨some (ae w2.heap.size),1,1⟩ [f.la]) rfl (by show bx 4 bB _ ([f.la].flatMap I.c);rw[show[f.la].flatMap I.c=f.la.c by simp];exact aK.bc (bl.get 4)) (λb hb=>gi (e:=aW) (vs:=[f.la].flatMap I.c) hb);have bI:=bH.node 0 7 0 0 (s:=⟨some (ae w2.heap.size),1,1⟩) (ks:=[f.la]) rfl (by simp) (λt ht=>by simp at ht;subst ht;exact bw);have er:(j++[f]).flatMap FM.rows=(j++[(⟨f.k,f.ar,f.al,f.an,f.ca,f.n,.mk 7 0 0 ⟨some (ae w2.heap.size),1,1⟩ [f.la]⟩:FM)]).flatMap FM.rows:=by simp[FM.rows]
  have bJ:SF (·∈own) w bB rb sl st z j ⟨f.k,f.ar,f.al,f.an,f.ca,f.n,.mk 7 0 0 ⟨some (ae w2.heap.size),1,1⟩ [f.la]⟩ [.g q] (O++[.mk 7 0 0 ⟨some (ae w2.heap.size),1,1⟩ [f.la]]):=by show LH _ _ _ (SL rb sl st z _ ((j++[(⟨f.k,f.ar,f.al,f.an,f.ca,f.n,.mk 7 0 0 ⟨some (ae w2.heap.size),1,1⟩ [f.la]⟩:FM)]).flatMap FM.rows)++_) _;rw[<-er];exact bI
  refine g3 bJ (λg hg u y=>?_) D (λb hb=>?_) (λu y=>bt _ y) ⟨ah,.inr ⟨?_,rfl⟩⟩
  .rcases aX.1 hg with hg|hg
   .exact bt _ (M g (by simp[hg]) u y)
   .simp at hg;subst hg;simp only[FM.O,aX,av,aR,aT]at y;rcases y with(((y|y)|y)|y)|rfl
    .exact bt _ (M f (by simp) u (by simp[FM.O,y]))
    .exact bt _ (M f (by simp) u (by simp[FM.O,y]))
    .exact bt _ (M f (by simp) u (by simp[FM.O,y]))
    .exact bt _ (M f (by simp) u (by simp[FM.O,y]))
    .simp
  .obtain ⟨u,y,aI⟩:=I.bM.1 hb;rcases aX.1 y with y|y
   .exact .inl (I.bM.2 ⟨u,y,aI⟩)
   .simp at y;rw[y]at aI;rcases I.gb.1 aI with aI|aI
    .have:=gi (e:=aW) aI;simp[En.row,aw,I.s]at this;subst this;exact .inr (.inl B.fr.size)
    .obtain ⟨t',ax,a7⟩:=I.bM.1 aI;simp[I.l]at ax;rw[ax]at a7;exact .inl (I.bM.2 ⟨f.la,bw,a7⟩)
  .rw [fe,aj F];rfl
 .refine B.k1 (V:=[q]) M D (λaF s1=>xf (Gc s1 ao.n' ao.ca ao.an)) ?_ (by simp);rintro _ w3 ab Q d p3 ap ac N t3 E C Y ⟨rfl,br,S,A,rfl,rfl⟩ H3;refine⟨rfl,H3.tA (V:=[q]) 0 1 rfl (λw4 H4=>?_) (by simp) (by simp)⟩;refine g3 (show SF (·∈own) w w4 rb ab 0 ac Q d [.g q] N from H4) E C Y t3 ⟨ah,.inr ⟨?_,rfl⟩⟩;rw[fe,af az,aj F,S,A]
 .refine B.k1 (V:=[q]) M D (λaF s1=>xf (Ga s1 ao.n' ao.ca ao.an ao.al)) ?_ (by simp);rintro _ w3 ab Q d p3 ap ac N t3 E C Y ⟨rfl,br,S,A,rfl,rfl⟩ H3;refine⟨rfl,H3.tA (V:=[q]) 0 1 rfl (λw4 H4=>?_) (by simp) (by simp)⟩;refine g3 (show SF (·∈own) w w4 rb ab 0 ac Q d [.g q] N from H4) E C Y t3 ⟨ah,.inr ⟨?_,rfl⟩⟩;rw[fe,af az,af aC,aj F,S,A]
 .refine n2 ⟨f.k,B.gD 1 rfl D 0,bD (λh0=>?_) (λh0=>?_)⟩
  .refine g3 B M D base (λ_ h=>h) ⟨ah,.inl ⟨?_,rfl⟩⟩;rw[fe,af az,af aC,af aN,aj F];exact aj (ew h0)
  have fin:∀{w5:J} {ab:Sl} {Q:List FM} {d:FM} {p3:Addr} {N:List I} {s':Sl} {u:I} {G:List En},SF (·∈own) w w5 rb ab st z Q (d.put 1 (s',(d.a0 1).2++[u])) G N->(∀g∈Q++[d],∀t∈g.O,t∈N)->ab.a=some p3->(∀b∈I.a9 N,b∈I.a9 O\/w.heap.size<=b\/b∈own)->(∀t∈O,t∈N)->Q.map FM.x=j.map FM.x->d.x=Bs f.x->u∈N->u.rx=eM f.x->
    vY.bT (ae rb) w5 (hX w own O rb (rv t ⟨j.map FM.x,f.x,st,z⟩)):=by
   intro w5 ab Q d p3 N s' u G H5 E C bQ b2 S A y hx;refine H5.st 0 1 rfl λw6 H6=>?_;refine g3 (show SF (·∈own) w w6 rb ab 0 z Q (d.put 1 (s',(d.a0 1).2++[u])) G N from H6) (λg hg v W=>?_) C bQ b2 ⟨s',.inr ⟨?_,rfl⟩⟩
   .rcases aX.1 hg with hg|hg
    .exact E g (by simp[hg]) v W
    .simp at hg;subst hg;rcases yN _ _ (by omega) (by omega) W with h|h
     .exact E d (by simp) v h
     .rcases aX.1 h with h|h
      .exact E d (by simp) v (nF d 1 h)
      .simp at h;subst h;exact y
   .have e1:d.k=f.k:=by have:=congrArg FX.k A;exact this
    have e2:I.au d.ar.2=I.au f.ar.2:=by have:=congrArg (λad:FX=>ad.ar.2) A;exact this
    have e3:I.au d.al.2=[]:=by have:=congrArg FX.al A;exact this
    have e4:I.au d.an.2=[]:=by have:=congrArg FX.an A;exact this
    have e5:I.au d.ca.2=[]:=by have:=congrArg FX.ca A;exact this
    have e6:d.n=0:=by have:=congrArg FX.n A;exact this
    have e7:d.la.rx=f.x.la:=by have:=congrArg FX.la A;exact this
    rw[fe,af az,af aC,af aN,aj F];refine(af (g5 h0)).trans ?_;show some (SX.mk _ ⟨_,(s',I.au f.ar.2++[eM f.x]),[],[],[],0,f.x.la⟩ 0 z)=some (SX.mk (Q.map FM.x) ⟨d.k,(s',I.au (d.ar.2++[u])),I.au d.al.2,I.au d.an.2,I.au d.ca.2,d.n,d.la.rx⟩ 0 z);rw[S,e1,e3,e4,e5,e6,e7,jz,e2];show some (SX.mk _ ⟨_,(s',I.au f.ar.2++[eM f.x]),[],[],[],0,f.x.la⟩ 0 z)=some (SX.mk _ ⟨_,(s',I.au f.ar.2++[u.rx]),[],[],[],0,f.x.la⟩ 0 z);rw[hx];rfl
  refine n2 (B.ai (V:=[q]) (λbC bd=>⟨f.ar.1,bd.gD 1 rfl D 1,?_,?_⟩) (by simp))
  .refine (show SF (·∈own) w bC rb sl st z j f [.g q] O from bd).k1 (V:=[q]) M D (λaF s1=>xk s1 ao) ?_ (by simp);rintro r bE ab Q d p3 ap ac N t3 E C Y ⟨aZ,S,A,rfl,rfl,u,y,rfl,hx⟩ aS;have aU:d.ar.1=f.ar.1:=by have:=congrArg (λad:FX=>ad.ar.1) A;exact this
   refine⟨u.k,u.lo.toNat,u.U.toNat,u.s,rfl,?_⟩;rw[<-aZ,<-aU];refine⟨aS.gD 1 rfl C 1,aS.cR (e:=aW) (sz:=4) (n:=1) (cs:=z4) rfl (by decide) λb5 bm=>⟨bm.gD 1 rfl C 1,?_⟩⟩;have a8:(d.a0 1).2.length<=1000000:=by have Z:d.x.ar.2.length=d.ar.2.length:=(BU d).1;rw[A]at Z;have:f.x.ar.2.length<=999999:=hs.ar;show d.ar.2.length<=_;rw[<-Z];show f.x.ar.2.length<=_;omega
   exact NA (V:=[q]) (K:=λw5=>vY.bT (ae rb) w5 (hX w own O rb (rv t ⟨j.map FM.x,f.x,ap,ac⟩))) (show SF (·∈own) w b5 rb ab ap ac Q d ([.g q]++[.row aW 4 ⟨some (ae bE.heap.size),1,1⟩ z4]) N from bm) 4 rfl C 1 (by omega) (by omega) u a8 rfl (λs' w5 H5=>fin H5 E C Y t3 S A y hx) (by simp)
  .refine bd.cR (e:=aW) (sz:=4) (n:=1) (cs:=z4) rfl (by decide) λb6 bn=>⟨bn.gD 1 rfl D 1,?_⟩;refine(show SF (·∈own) w b6 rb sl st z j f ([.g q]++[.row aW 4 ⟨some (ae bC.heap.size),1,1⟩ z4]) O from bn).k1 (V:=[q]) M D (λaF s1=>xk s1 ao) ?_ (by simp);rintro r bE ab Q d p3 ap ac N t3 E C Y ⟨aZ,S,A,rfl,rfl,u,y,rfl,hx⟩ aS;have aU:d.ar.1=f.ar.1:=by have:=congrArg (λad:FX=>ad.ar.1) A;exact this
   refine⟨u.k,u.lo.toNat,u.U.toNat,u.s,rfl,?_⟩;rw[<-aZ,<-aU];refine⟨aS.gD 1 rfl C 1,?_⟩;have a8:(d.a0 1).2.length<=1000000:=by have Z:d.x.ar.2.length=d.ar.2.length:=(BU d).1;rw[A]at Z;have:f.x.ar.2.length<=999999:=hs.ar;show d.ar.2.length<=_;rw[<-Z];show f.x.ar.2.length<=_;omega
   exact NA (V:=[q]) (K:=λw5=>vY.bT (ae rb) w5 (hX w own O rb (rv t ⟨j.map FM.x,f.x,ap,ac⟩))) aS 4 rfl C 1 (by omega) (by omega) u a8 rfl (λs' w5 H5=>fin H5 E C Y t3 S A y hx) (by simp)
 .refine B.ai (V:=[q]) (λb7 aH=>⟨sl,aH.ld 0 0,?_⟩) (by simp);have aH:SF (·∈own) w b7 rb sl st z j f [.g q] O:=aH;have a4:=y9 aH;rcases qE j with rfl|⟨aA,g,rfl⟩
  .refine a1 (aV (by rw[a4];simp)) ?_;refine g3 aH M D base (λ_ h=>h) ⟨ah,.inl ⟨?_,rfl⟩⟩;rw[fe,af az,af aC,af aN,af a5,aj F];rfl
  .refine a3 (aP (by rw[a4];simp;omega)) (n2 ⟨f.ar.1,aH.gD 1 rfl D 1,?_⟩);refine aH.k1 (V:=[q]) M D (λaF s1=>xk s1 ao) ?_ (by simp);rintro r b8 ab Q d p3 ap ac N t3 E C Y ⟨aZ,S,A,rfl,rfl,u,y,rfl,hx⟩ bo;have aU:d.ar.1=f.ar.1:=by have:=congrArg (λad:FX=>ad.ar.1) A;exact this
   refine⟨u.k,u.lo.toNat,u.U.toNat,u.s,rfl,?_⟩;rw[<-aZ,<-aU];refine⟨bo.gD 1 rfl C 1,bo.cR (e:=aW) (sz:=4) (n:=1) (cs:=u.c) rfl (by decide) λb9 a6=>⟨a6.gD 1 rfl C 1,?_⟩⟩;have bR:∃H L,Q=H++[L]/\H.map FM.x=aA.map FM.x/\L.x=g.x:=by
    rcases qE Q with rfl|⟨H,L,rfl⟩
    .simp at S
    .refine ⟨H,L,rfl,?_⟩;rw[g2,g2]at S;have:=List.append_inj' S rfl;exact⟨this.1,by simpa using this.2⟩
   obtain⟨H,L,rfl,bs,bS⟩:=bR;have bz:(((H++[L])++[d]).flatMap FM.rows)[(H++[L]).length *4+0]? =some (d.ar.1,d.ar.2.flatMap I.c):=pf (H++[L]) d 0 _ rfl;have a8:d.ar.2.length<=999999:=by have Z:d.x.ar.2.length=d.ar.2.length:=(BU d).1;rw[A]at Z;have:f.x.ar.2.length<=999999:=hs.ar;rw[<-Z];exact this
   have nr:d.ar.1.n=d.ar.2.length:=by have hp:(En.rows (((H++[L])++[d]).flatMap FM.rows)).P b9:=a6.get 2;exact I.cm (hp.1 _ (aE bz)).bc
   refine a6.xa (V:=[q]) 2 ((H++[L]).length *4+0) (src:=⟨some (ae b8.heap.size),1,1⟩) (news:=u.c) rfl bz (aK.bc (a6.get 4)) (by simp[Value.oneCell',I.c]) (by show(d.ar.1.n+1) *40<=_;omega) (λs' cb bp bW cc=>?_) (by simp);have bu:(H++[L]).length *4+0<(((H++[L])++[d]).flatMap FM.rows).length:=by rw[qU];simp
   have bZ:∀b∈aw s',b∈own\/w.heap.size<=b:=λb hb=>(bp.new (.rows ((((H++[L])++[d]).flatMap FM.rows).set ((H++[L]).length *4+0) (s',d.ar.2.flatMap I.c++u.c))) (by simp) b (aO.2 (bA.2 ⟨_,aE (ic bu),hb⟩))).symm;have bq:=bp.BV 2 ((H++[L]).length *4+0) rfl (ic bu);have ec:d.ar.2.flatMap I.c++u.c=(d.ar.2++[u]).flatMap I.c:=by simp
   rw[ec]at bq;have bK:=bq.node 0 3 0 0 (s:=s') (ks:=d.ar.2++[u]) rfl (di _ (List.mem_singleton.2 rfl)) (λv W=>by
    rcases aX.1 W with W|W
    .exact E d (by simp) v (nF d 1 W)
    .simp at W;subst W;exact y)
   have er:(((((H++[L])++[d]).flatMap FM.rows).set ((H++[L]).length *4+0) (s',(d.ar.2++[u]).flatMap I.c)).set ((H++[L]).length *4+0) (⟨none,0,0⟩,[]))=(H++[L]).flatMap FM.rows++d.rows.set 0 (⟨none,0,0⟩,[]):=by rw[List.set_set];exact D4 (H++[L]) d 0 _ (by omega)
   have bL:LH (·∈own) w cb (SL rb ab ap ac (((H++[L])++[d]).flatMap FM.c) ((H++[L]).flatMap FM.rows++d.rows.set 0 (⟨none,0,0⟩,[]))++[.g q]) [.trees (N++[.mk 3 0 0 s' (d.ar.2++[u])])]:=by rw[<-er];exact bK.take 4
   have bN:=OL bL 2 rfl;have bV:d.k=f.k:=by have:=congrArg FX.k A;exact this
   refine close (s':=ah) (.mk 3 0 0 s' (d.ar.2++[u])) bN (λad hx v W=>bt _ (E ad (bt _ hx) v W)) C ?_ (by simp) (.inr (by simp[I.l])) ?_ (λv W=>bt _ (t3 v W)) ?_
   .have:=congrArg List.length bs;simp at this bv;omega
   .intro b hb;obtain⟨v,W,aL⟩:=I.bM.1 hb;rcases aX.1 W with W|W
    .exact Y b (I.bM.2 ⟨v,W,aL⟩)
    .simp at W;rw[W]at aL;rcases I.gb.1 aL with aL|aL
     .exact .inr (bZ b (gi (e:=aW) aL)).symm
     .obtain ⟨t',ax,a7⟩:=I.bM.1 aL;have ax:t'∈d.ar.2++[u]:=ax;refine Y b (I.bM.2 ⟨t',?_,a7⟩);rcases aX.1 ax with ax|ax
      .exact E d (by simp) t' (nF d 1 ax)
      .simp at ax;subst ax;exact y
   .rw [fe,af az,af aC,af aN,af a5,aj F];refine(af (by simp)).trans ?_;rw[g2];refine(GM _ _ _ _ _ _).trans ?_;have e2:I.au d.ar.2=f.x.ar.2:=by have:=congrArg (λad:FX=>ad.ar.2) A;exact this
    rw[bs,bS,bV];show _=some (SX.mk _ (iB g.x (l1 f.k (I.au (d.ar.2++[u])))) 3 ac);rw[jz,e2];show _=some (SX.mk _ (iB g.x (l1 f.k (f.x.ar.2++[u.rx]))) 3 ac);rw[hx];rfl
 .refine ⟨sl,B.ld 0 0,?_⟩;have a4:=y9 B;rcases qE j with rfl|⟨aA,g,rfl⟩
  .have Z:(((sl.n:Nat):Int)==1)=true:=by rw[a4];rfl
   rw[Z];refine g3 B M D base (λ_ h=>h) ⟨ah,.inr ⟨?_,rfl⟩⟩;rw[fe,af az,af aC,af aN,af a5,af bi,aj F];rfl
  .have Z:(((sl.n:Nat):Int)==1)=false:=by rw[a4];simp;omega
   rw[Z];refine g3 B M D base (λ_ h=>h) ⟨ah,.inl ⟨?_,rfl⟩⟩;rw[fe,af az,af aC,af aN,af a5,af bi,aj F];exact af (by simp)
 .refine B.k1 (V:=[q]) M D (λaF s1=>xf (Gb s1 ao.n' ao.ca)) ?_ (by simp);rintro _ w3 ab Q d p3 ap ac N t3 E C Y ⟨rfl,br,S,A,rfl,rfl⟩ H3;refine⟨rfl,item H3 E C Y t3 ?_ ?_ ?_⟩
  .have:=congrArg List.length S;simp at this;omega
  .have e5:d.n=0:=by have:=congrArg FX.n A;exact this
   omega
  .rw [fe,af az,af aC,af aN,af a5,af bi,af b4,S,A]
def YX(s:ByteArray)(c:UInt8)(w:J):Sem.run aa (callFunc Cz #[.string s,.int .u8 (c.toNat:Int)]) w=.ok (.value (.int .i64 (Go.Lib.indexByte (bl s) c))) w:=by have d:=run_callFunc_indexByte (P:=aa) (f:=Cz) (fn:=(Tryz.prog.funcs[Cz]?).getD default) (by kernel_rfl) (by kernel_rfl) (by kernel_rfl) (by kernel_rfl) (by kernel_rfl) #[.string s,.int .u8 (c.toNat:Int)] w;rw[d,Go.Lib.run_indexByteString];show Result.ok _ w=_;congr 4;simp
def D9(s:ByteArray)(c:UInt8)(w:J):ak aa L8 #[.string s,.int .u8 (c.toNat:Int)] w λr d=>r=ag (.int .i64 (Go.Lib.indexByte (bl s) c))/\ah w d:=by
 refine PN.ok _ _ w _ ?_;refine(show ak aa KX #[.string s,.int .u8 (c.toNat:Int)] w λr d=>r=ag (.int .i64 (Go.Lib.indexByte (bl s) c))/\w=d from ?_).mono ?_
 .exact IP.ok _ _ w _ ⟨_,w,YX s c w,rfl,rfl⟩
 .rintro r e ⟨rfl,rfl⟩;exact⟨_,rfl,rfl,Fr.refl _ _⟩
def jB(c:UInt8):Bool:=aq (97<=c.toNat)&&aq (c.toNat<=122)
def sT(c:UInt8):Bool:=aq (32<=c.toNat)&&(aq (c.toNat<=126)&&(!decide (c=39)&&!decide (c=92)))
def xn(c:UInt8)(w:J):ak aa LA #[.int .u8 (c.toNat:Int)] w λr e=>r=ag (.bool (jB c))/\ah w e:=by
 refine Ov.ok _ w _ (aG (λd=>⟨?_,Fr.refl _ _⟩) (λd=>⟨?_,Fr.refl _ _⟩))
 .unfold jB;rw[aP (show 97<=c.toNat by omega),Bool.true_and];rw[show aq ((c.toNat:Int)<=122)=aq (c.toNat<=122)from decide_eq_decide.2 (by omega)]
 .unfold jB;rw[aV (show ¬97<=c.toNat by omega),Bool.false_and]
def Qw(c:UInt8)(n:Nat)(e:n<256):(((c.toNat:Nat):Int)==(n:Int))=aq (c=cI n):=by
 have d:c.toNat=n↔c=cI n:=by rw[<-UInt8.toNat_inj,UInt8.toNat_ofNat'];omega
 rw[Bool.eq_iff_iff,beq_iff_eq,decide_eq_true_iff,<-d];omega
def Gl(c:UInt8)(w:J):ak aa Lw #[.int .u8 (c.toNat:Int)] w λr q=>r=ag (.bool (sT c))/\ah w q:=by
 have e:(((c.toNat:Nat):Int) !=39)= !decide (c=39):=by have:=Qw c 39 (by omega);show(!(((c.toNat:Nat):Int)==((39:Nat):Int)))=_;rw[this];rfl
 have h:(((c.toNat:Nat):Int) !=92)= !decide (c=92):=by have:=Qw c 92 (by omega);show(!(((c.toNat:Nat):Int)==((92:Nat):Int)))=_;rw[this];rfl
 refine Oo.ok _ w _ ?_;rw[e,h];unfold sT;refine aG (λj=>?_) (λj=>⟨?_,Fr.refl _ _⟩)
 .rw [aP (show 32<=c.toNat by omega),Bool.true_and];refine aG (λk=>?_) (λk=>⟨?_,Fr.refl _ _⟩)
  .rw [aP (show c.toNat<=126 by omega),Bool.true_and];refine bD (λd=>⟨?_,Fr.refl _ _⟩) (λd=>⟨?_,Fr.refl _ _⟩)
   .rw [d,Bool.true_and]
   .rw [d,Bool.false_and]
  .rw [aV (show ¬c.toNat<=126 by omega),Bool.false_and]
 .rw [aV (show ¬32<=c.toNat by omega),Bool.false_and]
def Sm{s:ByteArray}{l:List UInt8}(h:bl s=l)(i:Nat):s[i]? =l[i]?:=by
 subst h;by_cases d:i<s.size
 .rw [getElem?_pos s i d,a6 (by rw[dP];exact d)];rfl
 .rw [getElem?_neg s i d,List.getElem?_eq_none (by rw[dP];omega)]
def kI{s:ByteArray}{i:Nat}(h:i<s.size):s[i]? =some ((bl s).getD i 0):=by
 rw[Sm (s:=s) (l:=bl s) rfl i];have d:i<(bl s).length:=by rw[dP];exact h
 rw[List.getD_eq_getElem?_getD,a6 d];rfl
def oT:List UInt8:=[48,49,50,51,52,53,54,55,56,57,97,98,99,100,101,102]
def VB(a b:Int):UInt8:=cI (ao .u8 (p9 .i64 (ao .i64 (a *2^4)) b)).toNat
def jO(l:List UInt8)(i:Nat):Option (UInt8×Nat):=
 if i+2<l.length/\l.getD i 0=39/\sT (l.getD (i+1) 0)=true/\l.getD (i+2) 0=39 then some (l.getD (i+1) 0,3)
 else if i+3<l.length/\l.getD i 0=92/\l.getD (i+1) 0=120/\0<=Go.Lib.indexByte oT (l.getD (i+2) 0)/\0<=Go.Lib.indexByte oT (l.getD (i+3) 0)then some (VB (Go.Lib.indexByte oT (l.getD (i+2) 0)) (Go.Lib.indexByte oT (l.getD (i+3) 0)),4)
 else none
def By:Option (UInt8×Nat)->ab
 |none=>.tuple #[.int .u8 0,.int .i64 0,.bool false]
 |some (b,n)=>.tuple #[.int .u8 (b.toNat:Int),.int .i64 (n:Int),.bool true]
def zv{x:UInt8}{n:Nat}{A B:Prop}(h:n<256)(d:x=cI n->A)(e:x≠cI n->B):bn (((x.toNat:Nat):Int)==(n:Int)) A B:=jd h d e
def aaF(x:Int):((cI (ao .u8 x).toNat).toNat:Int)=ao .u8 x:=by rw[UInt8.toNat_ofNat',IntKind.wrap_u8];omega
def AN(s:ByteArray)(i:Nat)(U:i<=1000000)(w:J):ak aa Lk #[.string s,.int .i64 (i:Int)] w λr d=>r=ag (By (jO (bl s) i))/\ah w d:=by
 have E:ao .i64 ((i:Int)+1)=((i+1:Nat):Int):=by rw[aS _ (by omega)];omega
 have F:ao .i64 ((i:Int)+2)=((i+2:Nat):Int):=by rw[aS _ (by omega)];omega
 have L:ao .i64 ((i:Int)+3)=((i+3:Nat):Int):=by rw[aS _ (by omega)];omega
 have S:(bl s).length=s.size:=dP s;have k:¬(i+2<(bl s).length/\(bl s).getD i 0=39/\sT ((bl s).getD (i+1) 0)=true/\(bl s).getD (i+2) 0=39)->∀d,ah w d->yY.S0 s i d (λr d=>r=ag (By (jO (bl s) i))/\ah w d):=by
  intro G d j;have no:¬(i+3<(bl s).length/\(bl s).getD i 0=92/\(bl s).getD (i+1) 0=120/\0<=Go.Lib.indexByte oT ((bl s).getD (i+2) 0)/\0<=Go.Lib.indexByte oT ((bl s).getD (i+3) 0))->∀d,ah w d->yY.S1 d (λr d=>r=ag (By (jO (bl s) i))/\ah w d):=λP d j=>by refine⟨?_,j⟩;unfold jO;rw[af G,af P];rfl
  show bn _ _ _;rw[L,F,E];refine aG (λO=>⟨by omega,_,kI (i:=i) (by omega),zv (n:=92) (by omega) (λh=>⟨by omega,_,kI (i:=i+1) (by omega),zv (n:=120) (by omega) (λC=>?_) (λC=>no (λe=>C e.2.2.1) d j)⟩) (λh=>no (λe=>h e.2.1) d j)⟩) (λO=>no (λe=>by omega) d j);refine(show LH F0 w d [] []from((LH.start (M:=F0) (w:=w) [] (by simp)).bw j)).dr λD I=>⟨by omega,_,kI (i:=i+2) (by omega),by omega,_,kI (i:=i+3) (by omega),I.call (D9 _ _ _) ?_⟩;rintro _ T rfl K;refine⟨_,rfl,K.call (D9 _ _ _) ?_⟩;rintro _ H rfl x;refine⟨_,rfl,?_⟩;show bn (aq (Go.Lib.indexByte oT _>=0)) (bn (aq (Go.Lib.indexByte oT _>=0)) _ _) _;refine aG (λz=>aG (λA=>⟨?_,x.fr⟩) (λA=>no (λe=>A e.2.2.2.2) H x.fr)) (λz=>no (λe=>z e.2.2.2.1) H x.fr);unfold jO;rw[af G,aj ⟨by omega,h,C,z,A⟩];exact congrArg (λQ=>Ending.returned (.tuple #[.int .u8 Q,.int .i64 4,.bool true])) (aaF _).symm
 refine yY.ok _ _ w _ ?_;rw[F,E];refine aG (λN=>⟨by omega,_,kI (i:=i) (by omega),zv (n:=39) (by omega) (λh=>⟨by omega,_,kI (i:=i+1) (by omega),(Gl _ w).mono ?_⟩) (λh=>k (λe=>h e.2.1) w (Fr.refl _ _))⟩) (λN=>k (λe=>by omega) w (Fr.refl _ _));rintro _ D ⟨rfl,y⟩;refine⟨_,rfl,bD (λq=>⟨by omega,_,kI (i:=i+2) (by omega),zv (n:=39) (by omega) (λB=>⟨by omega,_,kI (i:=i+1) (by omega),?_,y⟩) (λB=>k (λe=>B e.2.2.2) D y)⟩) (λq=>k (λe=>by rw[e.2.2.1]at q;cases q) D y)⟩;unfold jO;rw[aj ⟨by omega,h,q,B⟩];rfl
end Go.Proofs.YthaledkcjibmfaaGreatDoor
