import Derived.Test.YtnaglpcbkhjpnaaGreatDoorWN
import Derived.Test.YtnaglpcbkhjpnaaGreatDoorU
import Derived.Laws.StandIn
import Derived.Lib.Bytealg
set_option linter.unusedVariables false
set_option linter.defProp false
set_option maxRecDepth 100000
namespace Go.Proofs.YtnaglpcbkhjpnaaGreatDoor
open Go renaming World->J,Calls->aj,Value->aa,Ending->cE,FuncId->cW,LoopState->kD
open Go.IntKind renaming wrap->ah
open _root_.Int renaming toNat->a5
open Go.IntWalk renaming i64_in->aN
open Go.Builtin renaming append_->eu
open _root_.Bool renaming and_eq_true->bH
open _root_.Nat renaming le_refl->bm,le_trans->bz
open _root_.UInt8 renaming ofNat->c9
open _root_.Option.some renaming inj->e5
open Go.Proofs.Tryz renaming prog->V
open _root_.Decidable renaming decide->au
open Go.Ending renaming returned->ae
open List renaming mem_append->aW,mem_cons->aq,not_mem_nil->aL,mem_of_getElem?->aG,getElem?_eq_getElem->a',getElem?_eq_some_iff->cV,mem_append_left->bG,mem_append_right->dL,mem_flatMap->bX,mem_map->bK,length_take->eT,flatMap_append->de,flatMap_cons->cU,mem_iff_getElem?->hO,nodup_append->ho,take_add_one->dM,map_append->ez,getElem?_set_self->kq,take_of_length_le->eh
open Go Go.W
def lI:gW V dE aT (.agg #[.int .i64 0,.int .u8 0,.int .u8 0,.slice none 0 0]) 4 40:=⟨by kernel_rfl,by kernel_rfl,rfl,md,md⟩
def DI(w:J):aj V pg #[] w λr j=>gb w eX r j/\af w j:=by
 refine KL.aD w _ ((bN [] ws).aK λb x k=>k.cZ (n:=1) (sz:=4) (cs:=cw.c) rfl md λz q=>q.ai λy h=>⟨⟨.mk 6 0 0 ⟨some (ab x.heap.size),1,1⟩ [cw],rfl,rfl,?_,λc d=>?_⟩,h.fr⟩)
 .unfold I.P I.Ps I.Ps;exact⟨(h.get 1:aF _ _ _ _ _).bd,k4 y,trivial⟩
 .unfold I.fp I.be I.be at d;rcases aW.1 d with d|d
  .exact (h.new _ (aG (i:=1) rfl) c (gM d)).resolve_right id
  .rcases aW.1 d with d|d
   .exact (k5 d).elim
   grind
def hl(r:I):List I->List I
 |[]=>[r]
 |d::p=>if bc d.rx r.rx<0 then d::hl r p else if bc d.rx r.rx=0 then d::p else r::d::p
def Sn(r:I):∀l:List I,(hl r l).map I.rx=lT r.rx (l.map I.rx)
 |[]=>rfl
 |d::p=>by
  unfold hl;rw[List.map_cons];unfold lT;split
  .rw [List.map_cons,Sn r p]
  grind
def Bd{t r:I}:∀{p:List I},t∈hl r p->t=r\/t∈p
 |[],d=>by unfold hl at d;grind
 |h::p,d=>by
  unfold hl at d;split at d
  .rcases aq.1 d with rfl|d
   .simp
   .rcases Bd d with d|d<;>simp[d]
  grind
def Sk(r:I):∀l:List I,I.a7 (hl r l)<=r.sz+I.a7 l
 |[]=>by show r.sz+0<=r.sz+0;omega
 |d::p=>by
  unfold hl;split
  .have:=Sk r p;show d.sz+I.a7 (hl r p)<=r.sz+(d.sz+I.a7 p);omega
  .split
   .omega
   .exact bm _
def Sj{r:I}:∀{l:List I} {k:Nat},k<=l.length->(∀j t,j<k->l[j]? =some t->bc t.rx r.rx<0)->(∀t,l[k]? =some t->¬bc t.rx r.rx<0)->
  (∀t,l[k]? =some t->bc t.rx r.rx=0->hl r l=l)/\((∀t,l[k]? =some t->bc t.rx r.rx≠0)->hl r l=l.take k++r::l.drop k)
 |[],k,w,d,h=>⟨λt y=>by grind,λ_=>by simp[hl]⟩
 |q::p,0,w,d,h=>by
  have:=h q rfl;unfold hl
  grind
 |q::p,k+1,w,d,h=>by
  have A:=d 0 q co rfl;have B:=Sj (r:=r) (l:=p) (k:=k) (by grind) (λj t z x=>d (j+1) t co (by grind)) (λt x=>h t (by grind));unfold hl
  grind
def SK{w:J}{s:Sl}{l:List I}(h:bL 4 w s (l.flatMap I.c))(a b:Nat)(d:a<=b)(j:b<=l.length):bL 4 w (nA 4 s a b) (((l.take b).drop a).flatMap I.c):=by have k:=I.cH h;have:=h.sub a b d co;rw[Kj,Kt _ _ (by grind)]at this;omega
abbrev bV(s:Sl)(l:List I):I:=.mk 0 0 0 s l
def IP(d:List Nat)(w:J)(l:List I)(r:cE)(Y:J):Prop:=∃s:Sl,r=ae s.v/\(bV s l).P Y/\∀b∈(bV s l).fp,w.heap.size<=b\/b∈d
def dJ{w:J}{s:Sl}{l:List I}:(bV s l).P w↔bL 4 w s (l.flatMap I.c)/\I.Ps w l:=by
 unfold bV I.P
 grind
def mF{s:Sl}{l:List I}{b:Nat}:b∈(bV s l).fp↔b∈(I.row s l).fp\/b∈I.be l:=by
 unfold bV I.fp
 grind
def Ys(s:Sl)(l:List I)(r:I)(w:J)(ar:I.a7 l<=100000)(hr:r.sz<=100000)(px:(bV s l).P w)(pr:r.P w):
  aj V Og #[s.v,r.v] w λe z=>IP ((bV s l).fp++r.fp) w (hl r l) e z/\af w z:=by
 have nr:=I.cH (dJ.1 px).1;have ll:=I.fR l
 let W:aJ:=λe z=>IP ((bV s l).fp++r.fp) w (hl r l) e z/\af w z
 have fin:∀(k:Nat) (sl:Sl) (L:List En) (i:Nat) (h:J),k<=l.length->hl r l=l.take k++r::l.drop k->L[i]? =some (.row aT 4 sl ((l.take k++[r]).flatMap I.c))->LH F0 w h L [.tree (bV s l),.tree r]->
   qk.cX s (k:Int) sl h W:=by
  intro k sl L i h B Q ag q;have ao:(bV s l).P h:=q.getD 0;have S:=SK (dJ.1 ao).1 k l.length B (bm _);rw[List.take_length]at S;have am:aF h aT 4 sl ((l.take k++[r]).flatMap I.c):=q.get i ag;have aa:=I.cH am.bd;have au:(l.take k++[r]).length=k+1:=by grind
  refine⟨co,co,?_⟩;obtain⟨F,z,H,h2,h3⟩:=q.dm (bs:=[]) i (ty:=dE) (K:=λF z=>∃L',L'[i]? =some (.row aT 4 F ((hl r l).flatMap I.c))/\LH F0 w z L' [.tree (bV s l),.tree r]) lI (src:=nA 4 s k l.length) (news:=(l.drop k).flatMap I.c) ag S (uj _) (by show(sl.n+(l.length - k)) *40<=_;omega) (λF z H'=>⟨_,by
   grind,H'⟩)
  obtain⟨L',Y,G⟩:=h3;have e1:(a5 (k:Int))=k:=rfl;refine⟨F,z,by rw[e1,nr];exact H,⟨F,rfl,dJ.2 ⟨(G.get i Y:aF _ _ _ _ _).bd,I.i0 λt D=>?_⟩,λb O=>?_⟩,G.fr⟩
  .rcases Bd D with rfl|D
   .exact G.getD 1
   .exact (dJ.1 (G.getD 0)).2.mem D
  .rcases mF.1 O with O|O
   .exact .inl ((G.new _ (aG Y) b (gM O)).resolve_right id)
   .obtain ⟨t,D,ak⟩:=I.bZ.1 O;rcases Bd D with rfl|D
    .grind
    .exact .inr (bG _ (mF.2 (.inr (I.bZ.2 ⟨t,D,ak⟩))))
 have s2:∀(k:Nat) (j:Nat) (h:J),k<=l.length->hl r l=l.take k++r::l.drop k->LH F0 w h [.g j] [.tree (bV s l),.tree r]->qk.cb s j r.k r.lo.toNat r.hi.toNat r.s (k:Int) h W:=by
  intro k j h B Q q;have ap:s.n<=s.c:=(dJ.1 (show(bV s l).P h from q.getD 0)).1.2.1;have ah:∀z:J,(bV s l).P z->bL 4 z (nA 4 s 0 k) ((l.take k).flatMap I.c):=λz ae=>SK (dJ.1 ae).1 0 k co B;have e1:(a5 (k:Int))=k:=rfl;refine⟨co,co,q.ai λA x=>?_,q.ai λA x=>?_⟩
  .refine (x.fN aT 4).dm 1 lI (s:=⟨none,0,0⟩) (xs:=[]) (src:=nA 4 s 0 k) (news:=(l.take k).flatMap I.c) rfl (ah A (x.getD 0)) (uj _) (by show(0+(k - 0)) *40<=_;omega) (λF M y=>?_);have y:LH F0 w M [.g j,.row aT 4 F ((l.take k).flatMap I.c)] [.tree (bV s l),.tree r]:=y;have aa:=I.cH (y.get 1:aF _ _ _ _ _).bd;rw[eT]at aa;refine y.jh 1 lI (xs:=(l.take k).flatMap I.c) rfl (λad w4 N=>?_) co;refine fin k ad _ 1 w4 B Q ?_ N;show some _=some _;rw[m5];rfl
  .refine x.cZ (n:=1) (sz:=4) (cs:=r.c) rfl md λM y=>?_;refine(y.fN aT 4).dm 2 lI (s:=⟨none,0,0⟩) (xs:=[]) (src:=nA 4 s 0 k) (news:=(l.take k).flatMap I.c) rfl (ah M (y.getD 0)) (uj _) (by show(0+(k - 0)) *40<=_;omega) (λF w4 N=>?_);have N:LH F0 w w4 [.g j,.row aT 4 ⟨some (ab A.heap.size),1,1⟩ r.c,.row aT 4 F ((l.take k).flatMap I.c)] [.tree (bV s l),.tree r]:=N;have aa:=I.cH (N.get 2:aF _ _ _ _ _).bd;rw[eT]at aa;refine N.dm 2 lI (xs:=(l.take k).flatMap I.c) (src:=⟨some (ab A.heap.size),1,1⟩) (news:=r.c) rfl (N.get 1:aF _ _ _ _ _).bd (λu hu=>uj [r] u (by grind)) (by grind) (λad w5 H5=>?_);refine fin k ad _ 2 w5 B Q ?_ H5
   grind
 have s1:∀(k:Nat) (j:Nat) (h:J),k<=l.length->(∀E t,E<k->l[E]? =some t->bc t.rx r.rx<0)->(∀t,l[k]? =some t->¬bc t.rx r.rx<0)->LH F0 w h [.g j] [.tree (bV s l),.tree r]->qk.bW s j r.k r.lo.toNat r.hi.toNat r.s (k:Int) h W:=by
  intro k j h B H h2 q;obtain⟨Y,G⟩:=Sj B H h2;refine aE (λal=>?_) (λal=>q.ai λA x=>s2 k j A B (G λt D=>by grind) x);have C:l[k]? =some l[k]:=a' co;generalize l[k]'co=t at C;have T:=aG C;refine⟨co,co,I.dy (dJ.1 (show(bV s l).P h from q.getD 0)).1 C λp S _=>q.ai λA x=>?_⟩;have U:(bV s l).P A:=x.getD 0;have c:=I.again (dJ.1 U).1 C S;refine⟨_,_,_,_,c.c0,c.c1,c.c2,c.c3,x.aA (rP t r A (by have:=I.eH T;omega) ((dJ.1 U).2.mem T) (x.getD 1)) ?_⟩;rintro _ M rfl y;refine⟨_,rfl,aO (λZ=>⟨⟨s,rfl,?_,λb O=>.inr ?_⟩,y.fr⟩) (λZ=>s2 k j M B (G λt' ac=>by grind) y)⟩
  .rw [Y t C Z];exact y.getD 0
  grind
 have loop:∀(d k:Nat) (j:Nat) (h:J),k+d=l.length->(∀E t,E<k->l[E]? =some t->bc t.rx r.rx<0)->LH F0 w h [.g j] [.tree (bV s l),.tree r]->qk.a8 s j r.k r.lo.toNat r.hi.toNat r.s (k:Int) h W:=by
  intro d;induction d with
  |zero=>
   intro k j h B H q;exact qk.bJ _ _ _ _ _ _ _ _ _ (aP (aV co) (q.ai λA x=>s1 k j A co H (λt D=>by grind) x))
  |succ d an=>
   intro k j h B H q;have C:l[k]? =some l[k]:=a' co;generalize l[k]'co=t at C;have T:=aG C;refine qk.bJ _ _ _ _ _ _ _ _ _ (aM (aQ co) ⟨co,co,I.dy (dJ.1 (show(bV s l).P h from q.getD 0)).1 C λp S _=>q.ai λA x=>?_⟩);have U:(bV s l).P A:=x.getD 0;have c:=I.again (dJ.1 U).1 C S;refine⟨_,_,_,_,c.c0,c.c1,c.c2,c.c3,x.aA (rP t r A (by have:=I.eH T;omega) ((dJ.1 U).2.mem T) (x.getD 1)) ?_⟩;rintro _ M rfl y;refine⟨_,rfl,aE (λZ=>?_) (λZ=>s1 k j M co H (λt' ac=>by grind) y)⟩;rw[bb _ co];refine an (k+1) j M co (λE t' hq ac=>?_) y;by_cases e:E=k
   .grind
   .exact H E t' co ac
 exact qk.aD _ _ _ _ _ w _ ((bN [.tree (bV s l),.tree r] (by
  intro e Q;simp only[aq,aL,aR]at Q;rcases Q with rfl|rfl
  .exact px
  .exact pr)).aK λj h H1=>loop l.length 0 j h co (λE t ae=>co) H1)
def GL(k:Int)(t:Rx):∀(l out:List Rx),hj k out (l++[t])=if k=3 then hj k out l++[t]else lT t (hj k out l)
 |[],out=>by show hj k (if k=3 then out++[t]else lT t out) []=_;unfold hj;rfl
 |a::l,out=>by show hj k (if k=3 then out++[a]else lT a out) (l++[t])=_;rw[GL k t l];rfl
def afT(x d:I)(w:x.k=3\/x.k=4\/x.k=5)(h:d.rx=eX):∃(j:Nat) (u z:I),ah .i64 (x.k - 3)=(j:Int)/\j<3/\[fJ,cw,d][j]? =some u/\[cw,d,cw][j]? =some z/\(u=fJ\/u=cw\/u=d)/\(z=cw\/z=d)/\u.rx≠z.rx/\
  hZ (.mk x.k 0 0 (I.aw x.l))=g2 x.k (I.aw x.l) u.rx z.rx:=by
 rcases w with q|q|q<;>rw[q]
 .exact ⟨0,fJ,cw,md,md,rfl,rfl,.inl rfl,.inl rfl,(by intro e;cases e),rfl⟩
 .exact ⟨1,cw,d,md,md,rfl,rfl,.inr (.inl rfl),.inr rfl,(by rw[h];intro e;cases e),by rw[h];rfl⟩
 .exact ⟨2,d,cw,md,md,rfl,rfl,.inr (.inr rfl),.inl rfl,(by rw[h];intro e;cases e),by rw[h];rfl⟩
section
variable {x ev u z:I} {sf:Sl} {w:J} {b4 b8 b9:Nat}
def adQ(hx:x.sz<=10000)(a1:ev.rx=eX)(a8:∀b∈ev.fp,w.heap.size<=b)(hu:u=fJ\/u=cw\/u=ev)(ay:z=cw\/z=ev)(aH:u.rx≠z.rx)(ar:hZ (.mk x.k 0 0 (I.aw x.l))=g2 x.k (I.aw x.l) u.rx z.rx){q:J}(H:LH F0 w q [.g b4,.g b8,.g b9] [.tree x,.tree ev,.tree (bV sf (x.l.flatMap (fj x)))]):
  iA.ly x.k b4 0 0 0 ⟨none,0,0⟩ sf b8 u.k u.lo.toNat u.hi.toNat u.s b9 z.k z.lo.toNat z.hi.toNat z.s ⟨none,0,0⟩ 0 q λr B=>gy x.fp w (hZ (.mk x.k 0 0 (I.aw x.l))) r B/\af w B:=by
 let R:aJ:=λr B=>gy x.fp w (hZ (.mk x.k 0 0 (I.aw x.l))) r B/\af w B
 have ax:Sub x (x.l.flatMap (fj x)):=Sub.flat λ_ aa=>aa;have aD:I.a7 (x.l.flatMap (fj x))<=I.a7 x.l:=vS x x.l;have aj:((x.l.flatMap (fj x)).map I.rx).filter (λt=>!(bc t u.rx==0))=hg x.k (I.aw x.l) u.rx:=by rw[<-xH];unfold gF;rw[List.filter_map];rfl
 generalize x.l.flatMap (fj x)=fl at H ax aD aj;have ao:=ax;have a3:=I.iI x;have a2:I.a7 fl<=10000:=co
 have a4:=I.fR fl;have nr:sf.n=fl.length:=I.cH (dJ.1 (show(bV sf fl).P q from H.getD 2)).1;have ap:∀B,ev.P B->u.P B:=λB aa=>by
  rcases hu with rfl|rfl|rfl
  .exact zV B
  .exact k4 B
  omega
 have al:∀B,ev.P B->z.P B:=λB aa=>by
  rcases ay with rfl|rfl
  .exact k4 B
  omega
 have aE:∀b∈u.fp,w.heap.size<=b:=λb h=>by
  rcases hu with rfl|rfl|rfl
  .exact (zW h).elim
  .exact (k5 h).elim
  grind
 have az:∀b∈z.fp,w.heap.size<=b:=λb h=>by
  rcases ay with rfl|rfl
  .exact (k5 h).elim
  grind
 have aq:∀t∈fl,t.rx=z.rx->hZ (.mk x.k 0 0 (I.aw x.l))=z.rx:=λt ht e=>by rw[ar];unfold g2;rw[av];rw[List.any_eq_true];refine⟨t.rx,?_,rV.2 e⟩;rw[<-aj,List.mem_filter];exact⟨bK.2 ⟨t,ht,rfl⟩,Ka.2 (e▸λaa=>aH aa.symm)⟩
 have aC:(∀t∈fl,t.rx≠z.rx)->hZ (.mk x.k 0 0 (I.aw x.l))=uQ x.k u.rx (hj x.k [] ((fl.map I.rx).filter λt=>!(bc t u.rx==0))):=λaa=>by
  rw[ar,acP,aj];unfold g2;rw[ag]
  .rfl
  .rw [List.any_eq_true];rintro⟨t,ht,he⟩;rw[<-aj,List.mem_filter]at ht;obtain⟨W,A,rfl⟩:=bK.1 ht.1;exact aa W A (rV.1 he)
 have fin:∀(j:List I) (y:Sl) (L D:List En) (q:J),(∀t∈fl,t.rx≠z.rx)->j.map I.rx=hj x.k [] ((fl.map I.rx).filter λt=>!(bc t u.rx==0))->(∀t∈j,t∈fl)->LH F0 w q L (.tree x::.tree ev::D)->(∀b∈[b4,b8,b9],En.g b∈L)->(∀B,LH F0 w B L (.tree x::.tree ev::D)->bL 4 B y (j.flatMap I.c)/\∀b∈(I.row y j).fp,w.heap.size<=b\/b∈x.fp)->
   bt ((y.n:Int)==0) (loc [b4,b8,b9] q λaX=>R (ae u.v) aX) (bt ((y.n:Int)==1) (fo y 0 λp=>gi q (p.add (a5 0 *4)) λa b c d=>loc [b4,b8,b9] q λaY=>R (ae (.agg #[.i a,.int .u8 b,.int .u8 c,d.v])) aY) (loc [b4,b8,b9] q λaZ=>R (ae (.agg #[.i x.k,.int .u8 0,.int .u8 0,y.v])) aZ)):=by
  intro j y L D q U M T H h au;have hr:=au q H;have ba:=I.cH hr.1;have ej:=aC U;rw[<-M]at ej;have ak:Sub x j:=ao.sub T;refine aO (λS=>H.ai (λG C=>⟨⟨u,rfl,?_,ap G (C.getD 1),λb h=>.inl (aE b h)⟩,C.fr⟩) h) (λS=>aO (λh1=>?_) (λh1=>H.ai (λG C=>⟨⟨.mk x.k 0 0 y j,rfl,?_,?_,λb h=>?_⟩,C.fr⟩) h))
  .have:j=[]:=List.length_eq_zero_iff.1 co;rw[ej,this];rfl
  .obtain ⟨a,rfl⟩:=List.length_eq_one_iff.1 (show j.length=1 by omega);refine⟨co,co,I.dy hr.1 (i:=0) (t:=a) rfl λp N c=>⟨_,_,_,_,c.c0,c.c1,c.c2,c.c3,H.ai (λG C=>⟨⟨a,rfl,?_,ak.P _ (C.getD 0) a ws,λb h=>.inr (ak.fp a ws b h)⟩,C.fr⟩) h⟩⟩;rw[ej];rfl
  .rw [ej];unfold I.rx;rw[I.fP];cases j with
   |nil=>grind
   |cons a ks=>
    cases ks with
    |nil=>grind
    |cons b ks=>rfl
  .unfold I.P;exact⟨(au G C).1,ak.Ps (C.getD 0)⟩
  .unfold I.fp at h;rcases aW.1 h with h|h
   .grind
   .exact .inr (ak.be h)
 have aI:x.k=3->∀(d i:Nat) (y:Sl) (j:List I) (q:J),i+d=fl.length->(∀t∈fl.take i,t.rx≠z.rx)->j.map I.rx=hj x.k [] (((fl.take i).map I.rx).filter λt=>!(bc t u.rx==0))->(∀t∈j,t∈fl)->I.a7 j<=I.a7 (fl.take i)->
   LH F0 w q [.g b4,.g b8,.g b9,.row aT 4 y (j.flatMap I.c)] [.tree x,.tree ev,.tree (bV sf fl)]->iA.ly x.k b4 0 0 0 ⟨none,0,0⟩ sf b8 u.k u.lo.toNat u.hi.toNat u.s b9 z.k z.lo.toNat z.hi.toNat z.s y (i:Int) q R:=by
  intro hk d;induction d with
  |zero=>
   intro i y j q am U M T hs H;rw[eh co]at U M;refine iA.rA _ _ _ _ _ _ _ _ _ _ _ _ _ _ _ _ _ _ _ _ _ (aP (aV co) ?_);exact fin j y _ _ q U M T H ws (λB H'=>⟨(H'.get 3:aF _ _ _ _ _).bd,λb h=>.inl ((H'.new _ (aG (i:=3) rfl) b (gM h)).resolve_right id)⟩)
  |succ d ah=>
   intro i y j q am U M T hs H;have E:fl[i]? =some fl[i]:=a' co;generalize fl[i]'co=t at E;have F:=aG E;have aU:=I.eH F;have ac:fl.take (i+1)=fl.take i++[t]:=by rw[dM,E];rfl
   have aR:I.a7 (fl.take (i+1))=I.a7 (fl.take i)+t.sz:=by rw[ac,vR];rfl
   have aS:=BS fl (i+1);refine iA.rA _ _ _ _ _ _ _ _ _ _ _ _ _ _ _ _ _ _ _ _ _ (aM (aQ co) ⟨co,co,I.dy (dJ.1 (show(bV sf fl).P q from H.getD 2)).1 E λp N _=>H.ai λG C=>?_⟩);have p2:(bV sf fl).P G:=C.getD 2;have O:=I.again (dJ.1 p2).1 E N;refine⟨_,_,_,_,O.c0,O.c1,O.c2,O.c3,C.aA (rP t z G co ((dJ.1 p2).2.mem F) (al G (C.getD 1))) ?_⟩;rintro _ w3 rfl Y;refine⟨_,rfl,aO (λS=>Y.ai λw4 H4=>⟨⟨z,rfl,?_,al w4 (H4.getD 1),λb h=>.inl (az b h)⟩,H4.fr⟩) (λS=>?_)⟩
   .exact (aq t F (w5.1 S)).symm
   refine⟨co,co,I.dy (dJ.1 (show(bV sf fl).P w3 from Y.getD 2)).1 E λp N _=>Y.ai λab Z=>?_⟩;have p5:(bV sf fl).P ab:=Z.getD 2;have Q:=I.again (dJ.1 p5).1 E N;refine⟨_,_,_,_,Q.c0,Q.c1,Q.c2,Q.c3,Z.aA (rP t u ab co ((dJ.1 p5).2.mem F) (ap ab (Z.getD 1))) ?_⟩;rintro _ w6 rfl K;have ad:∀W∈fl.take (i+1),W.rx≠z.rx:=λW A=>by
    rw[ac]at A;rcases aW.1 A with A|A
    .grind
    .simp at A;subst A;exact λe=>S (w5.2 e)
   refine⟨_,rfl,aO (λh1=>?_) (λh1=>aM (beq_iff_eq.2 hk) ?_)⟩
   .show iA.ly _ _ _ _ _ _ _ _ _ _ _ _ _ _ _ _ _ _ _ _ _;rw[bb _ co];refine ah (i+1) y j w6 co ad ?_ T co K
    grind
   .have ef:((fl.take (i+1)).map I.rx).filter (λt=>!(bc t u.rx==0))=(((fl.take i).map I.rx).filter λt=>!(bc t u.rx==0))++[t.rx]:=by grind
    refine⟨co,co,I.dy (dJ.1 (show(bV sf fl).P w6 from K.getD 2)).1 E λp N c=>⟨_,_,_,_,c.c0,c.c1,c.c2,c.c3,?_⟩⟩;have a9:=I.cH (K.get 3:aF _ _ _ _ _).bd;have a6:=I.fR j;refine K.jh 3 lI (xs:=j.flatMap I.c) rfl (λs' w7 H7=>?_) co;show iA.ly _ _ _ _ _ _ _ _ _ _ _ _ _ _ _ _ _ _ _ _ _;rw[bb _ co];refine ah (i+1) s' (j++[t]) w7 co ad ?_ (λW A=>?_) (by rw[vR];show _+(t.sz+0)<=_;omega) ?_
    .rw [ef,GL,av hk,ez,M];rfl
    .rcases aW.1 A with A|A
     .grind
     grind
    .rw [m5];exact H7
 have aK:x.k≠3->∀(d i:Nat) (y:Sl) (j:List I) (q:J),i+d=fl.length->(∀t∈fl.take i,t.rx≠z.rx)->j.map I.rx=hj x.k [] (((fl.take i).map I.rx).filter λt=>!(bc t u.rx==0))->(∀t∈j,t∈fl)->I.a7 j<=I.a7 (fl.take i)->(∀b∈(bV y j).fp,w.heap.size<=b\/b∈x.fp)->
   LH F0 w q [.g b4,.g b8,.g b9] [.tree x,.tree ev,.tree (bV sf fl),.tree (bV y j)]->iA.ly x.k b4 0 0 0 ⟨none,0,0⟩ sf b8 u.k u.lo.toNat u.hi.toNat u.s b9 z.k z.lo.toNat z.hi.toNat z.s y (i:Int) q R:=by
  intro hk d;induction d with
  |zero=>
   intro i y j q am U M T hs an H;rw[eh co]at U M;refine iA.rA _ _ _ _ _ _ _ _ _ _ _ _ _ _ _ _ _ _ _ _ _ (aP (aV co) ?_);exact fin j y _ _ q U M T H ws (λB H'=>⟨(dJ.1 (show(bV y j).P B from H'.getD 3)).1,λb h=>an b (mF.2 (.inl h))⟩)
  |succ d ah=>
   intro i y j q am U M T hs an H;have E:fl[i]? =some fl[i]:=a' co;generalize fl[i]'co=t at E;have F:=aG E;have aU:=I.eH F;have ac:fl.take (i+1)=fl.take i++[t]:=by rw[dM,E];rfl
   have aR:I.a7 (fl.take (i+1))=I.a7 (fl.take i)+t.sz:=by rw[ac,vR];rfl
   have aS:=BS fl (i+1);refine iA.rA _ _ _ _ _ _ _ _ _ _ _ _ _ _ _ _ _ _ _ _ _ (aM (aQ co) ⟨co,co,I.dy (dJ.1 (show(bV sf fl).P q from H.getD 2)).1 E λp N _=>H.ai λG C=>?_⟩);have p2:(bV sf fl).P G:=C.getD 2;have O:=I.again (dJ.1 p2).1 E N;refine⟨_,_,_,_,O.c0,O.c1,O.c2,O.c3,C.aA (rP t z G co ((dJ.1 p2).2.mem F) (al G (C.getD 1))) ?_⟩;rintro _ w3 rfl Y;refine⟨_,rfl,aO (λS=>Y.ai λw4 H4=>⟨⟨z,rfl,?_,al w4 (H4.getD 1),λb h=>.inl (az b h)⟩,H4.fr⟩) (λS=>?_)⟩
   .exact (aq t F (w5.1 S)).symm
   refine⟨co,co,I.dy (dJ.1 (show(bV sf fl).P w3 from Y.getD 2)).1 E λp N _=>Y.ai λab Z=>?_⟩;have p5:(bV sf fl).P ab:=Z.getD 2;have Q:=I.again (dJ.1 p5).1 E N;refine⟨_,_,_,_,Q.c0,Q.c1,Q.c2,Q.c3,Z.aA (rP t u ab co ((dJ.1 p5).2.mem F) (ap ab (Z.getD 1))) ?_⟩;rintro _ w6 rfl K;have ad:∀W∈fl.take (i+1),W.rx≠z.rx:=λW A=>by
    rw[ac]at A;rcases aW.1 A with A|A
    .grind
    .simp at A;subst A;exact λe=>S (w5.2 e)
   refine⟨_,rfl,aO (λh1=>?_) (λh1=>aP (by grind) ?_)⟩
   .show iA.ly _ _ _ _ _ _ _ _ _ _ _ _ _ _ _ _ _ _ _ _ _;rw[bb _ co];refine ah (i+1) y j w6 co ad ?_ T co an K
    grind
   .have ef:((fl.take (i+1)).map I.rx).filter (λt=>!(bc t u.rx==0))=(((fl.take i).map I.rx).filter λt=>!(bc t u.rx==0))++[t.rx]:=by grind
    refine⟨co,co,I.dy (dJ.1 (show(bV sf fl).P w6 from K.getD 2)).1 E λp N c=>⟨_,_,_,_,c.c0,c.c1,c.c2,c.c3,?_⟩⟩;refine hF ((Ys y j t w6 co co (K.getD 3) ((dJ.1 (show(bV sf fl).P w6 from K.getD 2)).2.mem F)).mono ?_);rintro _ w7 ⟨⟨s',rfl,aN,aB⟩,f7⟩;refine⟨f7,?_⟩;have aL:∀b∈(bV s' (hl t j)).fp,w.heap.size<=b\/b∈x.fp:=λb h=>by
     rcases aB b h with h|h
     .exact .inl (bz K.fr.size h)
     .rcases aW.1 h with h|h
      .grind
      .exact .inr (ao.fp t F b h)
    have H8:LH F0 w w7 [.g b4,.g b8,.g b9] [.tree x,.tree ev,.tree (bV sf fl),.tree (bV y j),.tree (bV s' (hl t j))]:=K.gz _ f7 aN λb h=>by
     rcases aB b (a0.1 h)with h|h
     .omega
     .rcases aW.1 h with h|h
      .exact .inr (.inr ⟨_,aG (i:=3) rfl,a0.2 h⟩)
      .exact .inr (.inr ⟨_,aG (i:=0) rfl,a0.2 (ao.fp t F b h)⟩)
    refine⟨s',rfl,?_⟩;show iA.ly _ _ _ _ _ _ _ _ _ _ _ _ _ _ _ _ _ _ _ _ _;rw[bb _ co];refine ah (i+1) s' (hl t j) w7 co ad ?_ (λW A=>?_) (by have:=Sk t j;omega) aL (H8.forget _ ws)
    .rw [ef,GL,ag hk,Sn,M]
    .rcases Bd A with rfl|A
     .exact F
     grind
 by_cases hk:x.k=3
 .exact aI hk fl.length 0 ⟨none,0,0⟩ [] q co ws (by simp[hj]) ws (by grind) (H.fN aT 4)
 .refine aK hk fl.length 0 ⟨none,0,0⟩ [] q co ws (by simp[hj]) ws (by grind) (λb h=>?_) (H.gz (.tree (bV ⟨none,0,0⟩ [])) (Fr.refl _ _) (dJ.2 ⟨bL.nil 4 q,by unfold I.Ps;trivial⟩) λb h=>?_)
  .rcases mF.1 h with h|h
   .simp [I.row,En.bd]at h
   .unfold I.be at h;cases h
  .rcases mF.1 (a0.1 h)with h|h
   .simp [I.row,En.bd]at h
   .unfold I.be at h;cases h
end
def YB(x:I)(Z:3<=x.k/\x.k<=7)(hx:x.sz<=10000)(N:kT (.mk x.k 0 0 (I.aw x.l))=true)(az:∀c∈x.l,0<=c.k)(w:J)(px:x.P w):
  aj V Od #[.i x.k,x.s.v] w λr Y=>gy x.fp w (hZ (.mk x.k 0 0 (I.aw x.l))) r Y/\af w Y:=by
 have nr:=I.cH px.parts.1;have aX:=I.iI x;have aN:=I.fR x.l;refine iA.aD _ _ w _ ((g4 px).aK λH G H1=>H1.kc (DI G) ?_);rintro _ w2 ⟨q,rfl,ae,aI,ao⟩ H2 F2;have H3:LH F0 w w2 [.g H] [.tree x,.tree q]:=F2.rd (.tree q) aI λb j=>ao b (a0.1 j);have aH:∀b∈q.fp,w.heap.size<=b:=λb j=>bz H1.fr.size (ao b j);have pc:∀{Y:J} {c:I},x.P Y->x.l[0]? =some c->c.P Y:=λac h=>ac.parts.2.mem (aG h);have fc:∀{c:I},x.l[0]? =some c->∀b∈c.fp,b∈x.fp:=λh b j=>I.gG.2 (.inr (I.bZ.2 ⟨_,aG h,j⟩));refine⟨_,_,_,q.s,rfl,H3.aK λL w3 E=>aO (λU=>?_) (λU=>aO (λh7=>?_) (λh7=>E.ai λM C=>?_))⟩
 .
  cases Q:x.l with
  |nil=>rw[Q,U]at N;simp[kT,I.aw]at N
  |cons c D=>
   have h:x.l[0]? =some c:=by grind
   have n2:0<x.s.n:=by grind
   have e1:I.aw (c::D)=c.rx::I.aw D:=rfl;have ef:hZ (.mk x.k 0 0 (I.aw (c::D)))=qE 0 0 (c.rx::I.aw D):=by rw[U];rfl
   rw[ef];refine⟨co,co,I.dy (show x.P w3 from E.getD 0).parts.1 h λp B _=>E.ai λw5 C=>?_⟩;have O:x.P w5:=C.getD 0;have z:=I.again O.parts.1 h B;refine⟨c.k,z.c0,aO (λad=>⟨co,co,I.dy O.parts.1 h λp B z=>⟨c.s,z.c3,?_⟩⟩) (λad=>C.ai λA y=>⟨⟨.mk 6 0 0 x.s x.l,rfl,?_,?_,λb j=>.inr ?_⟩,y.fr⟩)⟩
   .cases am:c.l with
    |nil=>
     rw[Q,e1]at N;have e2:c.rx.l.isEmpty=true:=by rw[yx,am];rfl
     simp[kT,U,lY,ad,e2]at N
    |cons d l2=>
     have ah:c.l[0]? =some d:=by grind
     refine iZ (pc O h) rfl ah (C.ai λA y=>⟨⟨d,rfl,?_,(pc (y.getD 0) h).parts.2.mem (aG ah),λb j=>.inr (fc h b (I.gG.2 (.inr (I.bZ.2 ⟨d,aG ah,j⟩))))⟩,y.fr⟩);show d.rx=if c.rx.k=6 then _ else _;rw[av (by rw[lY,ad]),yx,am];rfl
   .show Rx.mk 6 0 0 (I.aw x.l)=if c.rx.k=6 then _ else _;rw[ag (by rw[lY];omega),Q,e1]
   .unfold I.P;exact(show x.P A from y.getD 0).parts
   .unfold I.fp at j;exact I.gG.2 (aW.1 j)
 .
  cases Q:x.l with
  |nil=>rw[Q,h7]at N;simp[kT,I.aw]at N
  |cons c D=>
   have h:x.l[0]? =some c:=by grind
   have n2:0<x.s.n:=by grind
   have e1:I.aw (c::D)=c.rx::I.aw D:=rfl;have ef:hZ (.mk x.k 0 0 (I.aw (c::D)))=mc 0 0 (c.rx::I.aw D):=by rw[h7];rfl
   rw[ef];have ap:mc 0 0 (c.rx::I.aw D)=if c.k=0\/c.k=1 then n7 else if c.k=7\/bc c.rx eX=0 then c.rx else .mk 7 0 0 (c.rx::I.aw D):=by unfold mc;simp only[lY]
   have aJ:c.sz<=1000000:=by have:=I.eH (aG h);omega
   have s0:∀(A:J),¬(c.k=0\/c.k=1)->(c.k=7\/bc c.rx eX=0)->LH F0 w A [.g H,.g L] [.tree x,.tree q]->iA.bD x.s H 0 0 0 ⟨none,0,0⟩ A λr Y=>gy x.fp w (mc 0 0 (c.rx::I.aw D)) r Y/\af w Y:=by
    intro A h1 h2 y;refine⟨co,co,I.dy (show x.P A from y.getD 0).parts.1 h λp B z=>⟨_,_,_,_,z.c0,z.c1,z.c2,z.c3,(y.take 1).ai λw7 F=>⟨⟨c,rfl,?_,pc (F.getD 0) h,λb j=>.inr (fc h b j)⟩,F.fr⟩⟩⟩
    grind
   refine⟨co,co,I.dy (show x.P w3 from E.getD 0).parts.1 h λp B _=>E.ai λw5 C=>?_⟩;have O:x.P w5:=C.getD 0;have z:=I.again O.parts.1 h B;have aL:0<=c.k:=az c (aG h);refine⟨c.k,z.c0,aE (λh2=>C.ai λA y=>⟨⟨fJ,rfl,?_,zV A,λb j=>(zW j).elim⟩,y.fr⟩) (λh2=>?_)⟩
   .rw [ap,av co];rfl
   refine⟨co,co,I.dy O.parts.1 h λp B _=>C.ai λA y=>?_⟩;have ak:x.P A:=y.getD 0;have z:=I.again ak.parts.1 h B;refine⟨c.k,z.c0,aO (λal=>s0 A co (.inl al) y) (λal=>⟨co,co,I.dy ak.parts.1 h λp B z=>⟨_,_,_,_,z.c0,z.c1,z.c2,z.c3,y.aA (rP c q A aJ (pc ak h) (y.getD 1)) ?_⟩⟩)⟩;rintro _ w7 rfl F;rw[ae];refine⟨_,rfl,aO (λh0=>s0 w7 co (.inr h0) F) (λh0=>F.ai λw8 T=>⟨⟨.mk 7 0 0 x.s x.l,rfl,?_,?_,λb j=>.inr ?_⟩,T.fr⟩)⟩
   .show Rx.mk 7 0 0 (I.aw x.l)=_
    grind
   .unfold I.P;exact(show x.P w8 from T.getD 0).parts
   .unfold I.fp at j;exact I.gG.2 (aW.1 j)
 .
  have ar:x.k=3\/x.k=4\/x.k=5:=co
  obtain⟨aZ,u,a3,ew,hj,gu,aq,hu,aC,aB,au⟩:=afT x q ar ae;have loop:∀(d i:Nat) (acc:List I) (sl:Sl) (G:J),i+d=x.l.length->acc=(x.l.take i).flatMap (fj x)->LH F0 w G [.g H,.g L,.row aT 4 sl (acc.flatMap I.c)] [.tree x,.tree q]->
    iA.cv x.k x.s H 0 0 0 ⟨none,0,0⟩ L q.k q.lo.toNat q.hi.toNat q.s sl (i:Int) G λr Y=>gy x.fp w (hZ (.mk x.k 0 0 (I.aw x.l))) r Y/\af w Y:=by
   intro d;induction d with
   |zero=>
    intro i acc sl G ax W K;rw[eh co]at W;subst W;have an:Sub x (x.l.flatMap (fj x)):=Sub.flat λ_ ac=>ac;have S:=(K.gz (.trees (x.l.flatMap (fj x))) (Fr.refl _ _) (an.Ps (K.getD 0)) (λb j=>.inr (.inr ⟨_,aG (i:=0) rfl,a0.2 (an.be (a0.1 j))⟩))).sX 2 2 0 0 0;have S:LH F0 w G [.g H,.g L] [.tree x,.tree q,.tree (bV sl (x.l.flatMap (fj x)))]:=S.forget _ ws;refine iA.dO _ _ _ _ _ _ _ _ _ _ _ _ _ _ _ _ (aP (aV co) ?_);refine S.cZ (n:=3) (sz:=4) (cs:=[fJ,cw,q].flatMap I.c) rfl md λw2 H2=>?_;rw[ew];refine⟨co,co,I.dy (s:=⟨some (ab G.heap.size),3,3⟩) (l:=[fJ,cw,q]) (H2.get 2:aF _ _ _ _ _).bd gu λp B c=>⟨_,_,_,_,c.c0,c.c1,c.c2,c.c3,H2.aK λb8 w3 H3=>H3.ai λM E=>E.cZ (n:=3) (sz:=4) (cs:=[cw,q,cw].flatMap I.c) rfl md λw5 C=>⟨co,co,I.dy (s:=⟨some (ab M.heap.size),3,3⟩) (l:=[cw,q,cw]) (C.get 4:aF _ _ _ _ _).bd aq λp B c=>⟨_,_,_,_,c.c0,c.c1,c.c2,c.c3,C.aK λb9 A y=>y.ai λw7 F=>?_⟩⟩⟩⟩;have T:=((F.freeze 1 (.g L) rfl (F.get 1) λb j=>j).freeze 1 _ rfl (F.get 2) λb j=>j).freeze 2 _ rfl (F.get 4) λb j=>j;exact adQ hx ae aH hu aC aB au (T.forget _ ws)
   |succ d aY=>
    intro i acc sl G ax W K;have h:x.l[i]? =some (x.l[i]'co):=a' co;generalize x.l[i]'co=a at h;have hm:=aG h;have aa:x.P G:=K.getD 0;have a2:=I.eH hm;have aU:I.a7 acc<=I.a7 x.l:=by
     have h1:=vS x (x.l.take i);have h2:=BS x.l i
     grind
    have aR:acc++fj x a=(x.l.take (i+1)).flatMap (fj x):=by rw[dM,h,de,W];simp
    have a1:=I.cH (K.get 2:aF _ _ _ _ _).bd;have ay:=I.fR acc;have tail:∀(s':Sl) (Y:J),LH F0 w Y [.g H,.g L,.row aT 4 s' ((acc++fj x a).flatMap I.c)] [.tree x,.tree q]->iA.cb x.k x.s H 0 0 0 ⟨none,0,0⟩ L q.k q.lo.toNat q.hi.toNat q.s s' (i:Int) Y λr Y=>gy x.fp w (hZ (.mk x.k 0 0 (I.aw x.l))) r Y/\af w Y:=by
     intro s' Y S;show iA.cv _ _ _ _ _ _ _ _ _ _ _ _ _ _ _ _;rw[bb _ co]
     grind
    refine iA.dO _ _ _ _ _ _ _ _ _ _ _ _ _ _ _ _ (aM (aQ co) ⟨co,co,I.dy aa.parts.1 h λp B c=>⟨a.k,c.c0,aO (λZ=>?_) (λZ=>?_)⟩⟩)
    .have pa:a.P G:=aa.parts.2.mem hm;have na:=I.cH pa.parts.1;have ay:=I.fR a.l;have aS:=I.iI a;refine⟨co,co,I.dy aa.parts.1 h λp B c=>⟨a.s,c.c3,?_⟩⟩;refine K.dm 2 lI (xs:=acc.flatMap I.c) (src:=a.s) (news:=a.l.flatMap I.c) rfl pa.parts.1 (uj _) co (λs' M E=>?_);refine tail s' M ?_;have e:fj x a=a.l:=av Z
     grind
    .refine ⟨co,co,I.dy aa.parts.1 h λp B c=>⟨_,_,_,_,c.c0,c.c1,c.c2,c.c3,?_⟩⟩;refine K.jh 2 lI (xs:=acc.flatMap I.c) rfl (λs' M E=>?_) co;refine tail s' M ?_;have e:fj x a=[a]:=ag Z;rw[e,m5];exact E
  exact loop x.l.length 0 [] ⟨none,0,0⟩ M co rfl (C.fN aT 4)
def uX(k:Int):Rx:=if k=3 then n7 else if k=4 then fO else eX
def zX(k:Int):Rx:=if k=4 then eX else fO
mutual
def NF:Rx->Prop
 |.mk d lo h l=>nO l/\(d≠2->lo=0/\h=0)/\(((d=0\/d=1)/\l=[])\/(d=2/\l=[]/\lo.toNat<=h.toNat)\/
   ((d=3\/d=4\/d=5)/\2<=l.length/\(d≠3->jD l)/\∀t∈l,t.k≠d/\t≠uX d/\t≠zX d)\/
   (d=6/\∃c,l=[c]/\c.k≠6)\/(d=7/\∃c,l=[c]/\c.k≠0/\c.k≠1/\c.k≠7/\c≠eX))
def nO:List Rx->Prop
 |[]=>True
 |a::l=>NF a/\nO l
end
def wx:∀{l:List Rx},nO l↔∀t∈l,NF t
 |[]=>by unfold nO;simp
 |a::l=>by unfold nO;rw[wx];simp
def x':NF fO:=by unfold fO NF nO;simp
def Gu:NF n7:=by unfold n7 NF nO;simp
def Rb:NF eX:=by unfold eX NF nO nO;refine⟨⟨x',trivial⟩,ws,.inr (.inr (.inr (.inl ⟨rfl,fO,rfl,md⟩)))⟩
def aci(k:Int):NF (uX k):=by
 unfold uX;split
 .exact Gu
 .split
  .exact x'
  .exact Rb
def acj(k:Int):NF (zX k):=by
 unfold zX;split
 .exact Rb
 .exact x'
def Rc{x:Rx}(h:NF x):∀t∈x.l,NF t:=by cases x;unfold NF at h;exact wx.1 h.1
def acf{x:Rx}{k:Int}(w:k=3\/k=4\/k=5)(h:NF x)(d:x.k=k):2<=x.l.length/\(k≠3->jD x.l)/\∀t∈x.l,t.k≠k/\t≠uX k/\t≠zX k:=by
 cases x with
 |mk j lo q l=>
  have d:j=k:=d;subst d;unfold NF at h;obtain⟨-,-,h|h|h|h|h⟩:=h
  .omega
  .omega
  .exact h.2
  .omega
  .omega
def ZO{k:Int}{l:List Rx}{u t:Rx}:t∈hg k l u↔(∃c∈l,if c.k=k then t∈c.l else t=c)/\t≠u:=by
 unfold hg;rw[List.mem_filter,bX,Ka]
 grind
def ZP{k:Int}(w:k=3\/k=4\/k=5){l:List Rx}(h:∀c∈l,NF c){t:Rx}(x:t∈hg k l (uX k)):NF t/\t.k≠k/\t≠uX k:=by
 obtain⟨⟨c,j,d⟩,q⟩:=ZO.1 x;split at d
 .rename_i e;exact⟨Rc (h c j) t d,((acf w (h c j) e).2.2 t d).1,q⟩
 grind
def mM(k:Int)(l:List Rx):List Rx:=if k=3 then hg k l (uX k)else vH (hg k l (uX k))
def adM{k:Int}{l:List Rx}{t:Rx}:t∈mM k l↔t∈hg k l (uX k):=by
 unfold mM;split
 .grind
 .exact T3
def MN(k:Int)(l:List Rx):((hg k l (uX k)).any λt=>bc t (zX k)==0)=true↔zX k∈hg k l (uX k):=by
 rw[List.any_eq_true];constructor
 .rintro ⟨t,h,d⟩;rw[rV.1 d]at h;exact h
 .exact λd=>⟨_,d,rV.2 rfl⟩
def MP{k:Int}{l:List Rx}(h:zX k∈hg k l (uX k)):g2 k l (uX k) (zX k)=zX k:=by unfold g2;rw[av ((MN k l).2 h)]
def MO{k:Int}{l:List Rx}(h:¬zX k∈hg k l (uX k)):g2 k l (uX k) (zX k)=uQ k (uX k) (mM k l):=by unfold g2;rw[ag (λd=>h ((MN k l).1 d))];rfl
def aaJ{k:Int}(x:k=3\/k=4\/k=5){l:List Rx}(h:∀c∈l,NF c):NF (g2 k l (uX k) (zX k)):=by
 by_cases y:zX k∈hg k l (uX k)
 .rw [MP y];exact acj k
 .rw [MO y];have j:∀t∈mM k l,NF t/\t.k≠k/\t≠uX k/\t≠zX k:=λt d=>by
   have d:=adM.1 d;obtain⟨z,B,q⟩:=ZP x h d
   grind
  have w:k≠3->jD (mM k l):=λq=>by unfold mM;rw[ag q];exact T2 _
  generalize mM k l=m at j w;unfold uQ;split
  .exact aci k
  .grind
  .rename_i A z;unfold NF;refine⟨wx.2 λt d=>(j t d).1,λ_=>⟨rfl,rfl⟩,.inr (.inr (.inl ⟨x,?_,w,λt d=>(j t d).2⟩))⟩;cases m with
   |nil=>grind
   |cons a m=>
    cases m with
    |nil=>grind
    |cons b m=>simp
def ES{k:Int}(d:k=3\/k=4\/k=5)(lo hi:UInt8)(l:List Rx):hZ (.mk k lo hi l)=g2 k l (uX k) (zX k):=by rcases d with rfl|rfl|rfl<;>rfl
def acx{c:Rx}(h:NF c):NF (qE 0 0 [c]):=by
 unfold qE;simp only;split
 .rename_i e;split
  .exact x'
  .rename_i d m j;exact Rc h d (by grind)
 .rename_i e;unfold NF;exact⟨wx.2 λt k=>by grind,λ_=>⟨rfl,rfl⟩,.inr (.inr (.inr (.inl ⟨rfl,c,rfl,e⟩)))⟩
def aeP{c:Rx}(h:NF c):NF (mc 0 0 [c]):=by
 unfold mc;simp only;split
 .exact Gu
 .rename_i e;split
  .exact h
  .rename_i d;unfold NF;exact⟨wx.2 λt j=>by grind,λ_=>⟨rfl,rfl⟩,.inr (.inr (.inr (.inr ⟨rfl,c,rfl,λh=>e (.inl h),λh=>e (.inr h),λh=>d (.inl h),λh=>d (.inr (w5.2 h))⟩)))⟩
def r7{k:Int}{lo hi:UInt8}{l:List Rx}(h:db (.mk k lo hi l)=true):eo l=true/\(k≠2->lo=0/\hi=0)/\(((k=0\/k=1)/\l=[])\/(k=2/\l=[]/\lo.toNat<=hi.toNat)\/(k=3\/k=4\/k=5)\/((k=6\/k=7)/\∃c,l=[c])):=by
 unfold db at h;rw[bH]at h;obtain⟨w,d⟩:=h;have q:k≠2->lo=0/\hi=0:=λj=>by grind
 split at d
 .rename_i j;have:l=[]:=by grind
  subst this;exact⟨rfl,q,.inl ⟨j,rfl⟩⟩
 .split at d
  .rename_i j;simp only[bH,decide_eq_true_eq]at d;have:l=[]:=by grind
   subst this;exact⟨rfl,q,.inr (.inl ⟨j,rfl,d.2⟩)⟩
  .split at d
   .grind
   .split at d
    .rename_i j;simp only[bH]at d;exact⟨d.2,q,.inr (.inr (.inr ⟨j,List.length_eq_one_iff.1 (eq_of_beq d.1)⟩))⟩
    grind
def ach{lo hi:UInt8}(h:lo.toNat<=hi.toNat):NF (.mk 2 lo hi []):=by
 unfold NF nO
 grind
mutual
def Ro:∀q:Rx,db q=true->NF (ec q)
 |.mk B lo A l,w=>by
  obtain⟨x,h,y⟩:=r7 w;have k:=Gy l x;unfold ec;rcases y with⟨d,rfl⟩|⟨rfl,rfl,z⟩|d|⟨d,c,rfl⟩
  .obtain ⟨rfl,rfl⟩:=h co;rcases d with rfl|rfl
   .exact x'
   .exact Gu
  .exact ach z
  .rw [ES d];exact aaJ d k
  .obtain ⟨rfl,rfl⟩:=h co;have j:NF (ec c):=k _ (by unfold fw;simp);rcases d with rfl|rfl
   .exact acx j
   .exact aeP j
def Gy:∀l:List Rx,eo l=true->∀t∈fw l,NF t
 |[],_=>λt d=>by unfold fw at d;cases d
 |a::l,h=>λt d=>by
  unfold eo at h;rw[bH]at h;unfold fw at d;rcases aq.1 d with rfl|d
  .exact Ro a h.1
  .exact Gy l h.2 t d
end
section
variable {μ:Rx->Nat}
def NK(p:Rx->Bool):∀l:List Rx,ms μ (l.filter p)<=ms μ l
 |[]=>bm _
 |a::l=>by
  have d:=NK p l;rw[List.filter_cons];split
  .show μ a+_<=μ a+_;omega
  .show _<=μ a+_;omega
def xY:∀{l:List Rx} {a:Rx},a∈l->μ a<=ms μ l
 |b::l,a,d=>by
  rcases aq.1 d with rfl|d
  .show μ a<=μ a+_;omega
  .have:=xY d;show μ a<=μ b+_;omega
def NL(h:∀d,1<=μ d):∀l:List Rx,l.length<=ms μ l
 |[]=>bm _
 |a::l=>by have:=NL h l;have:=h a;show l.length+1<=μ a+ms μ l;omega
def NJ:∀(l:List Rx) (p:Rx),ms μ (kP p l)<=ms μ l
 |[],p=>bm _
 |d::l,p=>by
  have:=NJ l d;unfold kP;split
  .show _<=μ d+ms μ l;omega
  .show μ d+_<=μ d+ms μ l;omega
def ab5(l:List Rx):ms μ (vH l)<=ms μ l:=by
 have d:ms μ (rW (lf l))<=ms μ (lf l):=by
  cases lf l with
  |nil=>exact bm _
  |cons a m=>have:=NJ (μ:=μ) m a;show μ a+_<=μ a+_;omega
 rw[<-ab4 (HJ l)];exact d
def FO(h:∀d,ms μ d.l<=μ d)(k:Int):∀l:List Rx,ms μ (l.flatMap λc=>if c.k=k then c.l else[c])<=ms μ l
 |[]=>bm _
 |c::l=>by
  have q:=FO h k l;have j:=h c;rw[cU,NI];show _<=μ c+ms μ l;split
  .omega
  .show (μ c+0)+_<=_;omega
def NM(h:∀j,ms μ j.l<=μ j)(k:Int)(l:List Rx):ms μ (mM k l)<=ms μ l:=by
 have d:ms μ (hg k l (uX k))<=ms μ l:=bz (NK _ _) (FO h k l);unfold mM;split
 .exact d
 .exact bz (ab5 _) d
end
def HZ:∀l:List Rx,Rx.a7 l=ms Rx.sz l
 |[]=>rfl
 |a::l=>by unfold Rx.a7;rw[HZ l];rfl
def pI(k:Int)(lo hi:UInt8)(l:List Rx):(Rx.mk k lo hi l).sz=1+ms Rx.sz l:=by unfold Rx.sz;rw[HZ]
def U8(x:Rx):ms Rx.sz x.l<=x.sz:=by cases x;rw[pI];simp only[Rx.l];omega
def FH(x:Rx):ms dK x.l<=dK x:=by cases x;rw[su];simp only[Rx.l];omega
def abT(x:Rx):1<=dK x:=by cases x;rw[su];omega
mutual
def FI:∀d:Rx,dK d<=d.sz
 |.mk j lo h l=>by rw[su,pI];have:=Nv l;omega
def Nv:∀l:List Rx,ms dK l<=ms Rx.sz l
 |[]=>bm _
 |a::l=>by have d:=FI a;have h:=Nv l;show dK a+ms dK l<=a.sz+ms Rx.sz l;omega
end
def MQ{k:Int}{l:List Rx}{P:Rx->Prop}(q:P (zX k))(x:P (uX k))(h:∀a,a∈mM k l->P a)(j:P (.mk k 0 0 (mM k l))):P (g2 k l (uX k) (zX k)):=by
 by_cases d:zX k∈hg k l (uX k)
 .rw [MP d];exact q
 .rw [MO d];generalize w:mM k l=m at h j;unfold uQ
  grind
def VO(k:Int):(uX k).sz<=2/\(zX k).sz<=2/\dK (uX k)=1/\dK (zX k)=1:=by
 unfold uX zX;refine⟨?_,?_,?_,?_⟩
 .split
  .decide
  .split<;>decide
 .split<;>decide
 .split
  .decide
  .split<;>decide
 .split<;>decide
def RG{k:Int}{c:Rx}(h:k=6\/k=7){P:Rx->Prop}(j:P fO)(q:P n7)(x:P c)(y:∀d∈c.l,P d)(w:P (.mk k 0 0 [c])):P (hZ (.mk k 0 0 [c])):=by
 rcases h with rfl|rfl
 .show P (qE 0 0 [c]);unfold qE
  grind
 .show P (mc 0 0 [c]);unfold mc
  grind
mutual
def Gw:∀k:Rx,db k=true->(ec k).sz<=2 *k.sz
 |.mk h lo x l,z=>by
  obtain⟨A,w,B⟩:=r7 z;have j:=AV l A;have E:=pI h lo x l;rw[E];unfold ec;rcases B with⟨d,rfl⟩|⟨rfl,rfl,G⟩|d|⟨d,c,rfl⟩
  .obtain ⟨rfl,rfl⟩:=w co;rcases d with rfl|rfl<;>decide
  .show (Rx.mk 2 lo x []).sz<=_;omega
  .rw [ES d];have H:=NM (μ:=Rx.sz) U8 h (fw l);obtain⟨I,K,-,-⟩:=VO h;refine MQ (P:=λq=>q.sz<=2 *(1+ms Rx.sz l)) co co (λa C=>?_) ?_
   .have:=xY (μ:=Rx.sz) C;omega
   .show (Rx.mk h 0 0 _).sz<=_;rw[pI];omega
  .obtain ⟨rfl,rfl⟩:=w co;have y:fw [c]=[ec c]:=rfl;rw[y]at j ⊢;have j:(ec c).sz+0<=2 *(c.sz+0):=j;show _<=2 *(1+(c.sz+0));refine RG (P:=λq=>q.sz<=2 *(1+(c.sz+0))) d (by show(1:Nat)<=_;omega) (by show(1:Nat)<=_;omega) co (λF D=>?_) ?_
   .have:=xY (μ:=Rx.sz) D;have:=U8 (ec c);omega
   .show (Rx.mk h 0 0 _).sz<=_;rw[pI];simp only[ms];omega
def AV:∀l:List Rx,eo l=true->ms Rx.sz (fw l)<=2 *ms Rx.sz l
 |[],_=>bm _
 |a::l,d=>by unfold eo at d;rw[bH]at d;have h:=Gw a d.1;have j:=AV l d.2;show(ec a).sz+ms Rx.sz (fw l)<=2 *(a.sz+ms Rx.sz l);omega
end
mutual
def acv:∀k:Rx,db k=true->dK (ec k)<=dK k
 |.mk h lo x l,z=>by
  obtain⟨A,w,B⟩:=r7 z;have j:=Gx l A;have E:=su h lo x l;rw[E];unfold ec;rcases B with⟨d,rfl⟩|⟨rfl,rfl,G⟩|d|⟨d,c,rfl⟩
  .obtain ⟨rfl,rfl⟩:=w co;rcases d with rfl|rfl<;>decide
  .show dK (Rx.mk 2 lo x [])<=_;omega
  .rw [ES d];have H:=NM (μ:=dK) FH h (fw l);obtain⟨-,-,I,K⟩:=VO h;refine MQ (P:=λq=>dK q<=max 1 (ms dK l)) co co (λa C=>?_) ?_
   .have:=xY (μ:=dK) C;omega
   .show dK (Rx.mk h 0 0 _)<=_;rw[su];omega
  .obtain ⟨rfl,rfl⟩:=w co;have y:fw [c]=[ec c]:=rfl;rw[y]at j ⊢;have j:dK (ec c)+0<=dK c+0:=j;show _<=max 1 (dK c+0);refine RG (P:=λq=>dK q<=max 1 (dK c+0)) d (by show(1:Nat)<=_;omega) (by show(1:Nat)<=_;omega) co (λF D=>?_) ?_
   .have:=xY (μ:=dK) D;have:=FH (ec c);omega
   .show dK (Rx.mk h 0 0 _)<=_;rw[su];simp only[ms];omega
def Gx:∀l:List Rx,eo l=true->ms dK (fw l)<=ms dK l
 |[],_=>bm _
 |a::l,d=>by unfold eo at d;rw[bH]at d;have h:=acv a d.1;have j:=Gx l d.2;show dK (ec a)+ms dK (fw l)<=dK a+ms dK l;omega
end
def LO{N:Nat}{k:Int}{lo hi:UInt8}{l:List Rx}(h:db (.mk k lo hi l)=true)(D:(Rx.mk k lo hi l).sz<=10000)(w:o7 N (.mk k lo hi l)):sH N (.mk k lo hi (fw l))=true:=by
 obtain⟨d,I,y⟩:=r7 h;have Q:=AV l d;have P:=Gx l d;rw[pI]at D;unfold o7 at w;unfold sH;rw[bH,bH];refine⟨⟨?_,aQ (by rw[pI];omega)⟩,?_⟩
 .unfold kT;rw[bH,bH];refine⟨⟨aQ co,aQ co⟩,?_⟩;rcases y with⟨j,rfl⟩|⟨j,rfl,O⟩|j|⟨j,c,rfl⟩
  .grind
  .grind
  .grind
  .show (!(k==6&&(ec c).k==6&&(ec c).l.isEmpty))=true;have A:db c=true:=by
    unfold eo at d
    grind
   have q:=Ro c A;generalize ec c=G at q;cases G with
   |mk x F C E=>
    by_cases e:x=6
    .unfold NF at q;obtain⟨-,-,h|h|h|⟨_,H,B,_⟩|h⟩:=q
     .omega
     .omega
     .omega
     .rw [B];simp[Rx.l]
     .omega
    .have:(Rx.k (.mk x F C E)==6)=false:=by simpa[Rx.k]using e
     grind
 .show au (k=4\/k=5->vl k (fw l)<=N)=true;refine aQ λz=>?_;have K:=NL abT ((fw l).flatMap λc=>if c.k=k then c.l else[c]);have L:=FO (μ:=dK) FH k (fw l);have M:=w.2 z;show((fw l).flatMap λc=>if c.k=k then c.l else[c]).length<=N;omega
mutual
def LJ{N:Nat}:∀d:Rx,db d=true->d.sz<=10000->o7 N d->qm N d=true
 |.mk x lo w l,j,k,h=>by obtain⟨q,-,-⟩:=r7 j;unfold qm;rw[LO j k h,Bool.and_true];rw[pI]at k;unfold o7 at h;exact LK l q co h.1
def LK{N:Nat}:∀l:List Rx,eo l=true->ms Rx.sz l<=10000->r5 N l->r6 N l=true
 |[],_,_,_=>rfl
 |a::l,d,j,h=>by unfold eo at d;rw[bH]at d;unfold r5 at h;have j:a.sz+ms Rx.sz l<=10000:=j;unfold r6;rw[LJ a d.1 co h.1,LK l d.2 co h.2];rfl
end
set_option maxRecDepth 100000
set_option maxHeartbeats 2000000
namespace SP
def aD:=az (ay V Tryz.f189 [(4,ls [1,0,2,3,4,5,6,7])] [1,2]) Ga [.a 4,.I,.Y,.Y,.s]
end SP
def acg{x:Rx}(h:NF x):0<=x.k:=by cases x;unfold NF at h;simp only[Rx.k];omega
def acw{x:Rx}(h:db x=true)(d:x.k<3):ec x=x:=by
 cases x with
 |mk q lo z l=>
  have A:q<3:=d;clear d;obtain⟨w,y,j⟩:=r7 h;rcases j with⟨d,rfl⟩|⟨rfl,rfl,B⟩|d|⟨d,c,rfl⟩
  .rcases d with rfl|rfl<;>rfl
  .rfl
  .omega
  .omega
abbrev WN(n:Nat):Prop:=∀(x:I) (w:J),x.sz<=n->db x.rx=true->x.P w->aj V x3 #[x.v] w λr d=>gy x.fp w (ec x.rx) r d/\af w d
def JK:∀n:Nat,n<=1000->WN n
 |0,_=>λh x aa _ _=>absurd aa (by have:=I.mO h;omega)
 |n+1,hn=>λh x aa ab px=>by
  have ih:=JK n co;have hs:=I.iI h;have hl:=I.fR h.l;have nr:=I.cH px.parts.1;refine xv.aD _ _ _ _ x _ ((g4 px).aK λE q H1=>H1.aK λF Q y=>aE (λhk=>y.ai λS z=>⟨⟨h,rfl,(acw ab (by rw[lY];exact hk)).symm,z.getD 0,λb j=>.inr j⟩,z.fr⟩) (λhk=>?_));have K:=ab;rw[I.fx]at K;obtain⟨L,ak,ap⟩:=r7 K;obtain⟨W,U⟩:=ak co;have ad:ec h.rx=hZ (.mk h.k 0 0 (fw (I.aw h.l))):=by rw[I.fx,W,U];unfold ec;rfl
  have loop:∀(d i:Nat) (acc:List I) (sl:Sl) (q:J),i+d=h.l.length->I.aw acc=fw (I.aw (h.l.take i))->(∀b∈I.be acc,x.heap.size<=b\/b∈h.fp)->
    LH F0 x q [.g E,.g F,.row aT 4 sl (acc.flatMap I.c)] [.tree h,.trees acc]->
    xv.a8 E h.k h.lo.toNat h.hi.toNat h.s F 0 0 0 ⟨none,0,0⟩ sl (i:Int) q λr w'=>gy h.fp x (ec h.rx) r w'/\af x w':=by
   intro d;induction d with
   |zero=>
    intro i acc sl q ah A H w;rw[eh co]at A;have al:∀b∈(I.row sl acc).fp,x.heap.size<=b:=λb j=>(w.new _ (aG (i:=2) rfl) b (gM j)).resolve_right id;have T:LH F0 x q [.g E,.g F] [.tree h,.trees acc,I.row sl acc,.tree (.mk h.k 0 0 sl acc)]:=w.sX 2 1 h.k 0 0;have Y:Rx.mk h.k 0 0 (I.aw acc)=.mk h.k 0 0 (fw (I.aw h.l)):=by rw[A]
    have an:(Rx.mk h.k h.lo h.hi (I.aw h.l)).sz<=10000:=by rw[<-I.fx,I.eU];omega
    have M:=LO (N:=100000) K an (EL _ (by have aj:∀ac:Rx,dK ac<=ac.sz:=FI;have:=aj (Rx.mk h.k h.lo h.hi (I.aw h.l));omega))
    unfold sH at M;rw[bH,bH]at M;have am:(I.mk h.k 0 0 sl acc).sz<=10000:=by have B:=I.eU (I.mk h.k 0 0 sl acc);have h2:=AV (I.aw h.l) L;have h3:=I.yy h.l;rw[HZ]at h3;rw[<-B];show(Rx.mk h.k 0 0 (I.aw acc)).sz<=_;rw[Y,pI];omega
    have ag:kT (.mk h.k 0 0 (I.aw acc))=true:=by rw[Y];have:=M.1.1;rw[W,U]at this;exact this
    refine xv.bJ _ _ _ _ _ _ _ _ _ _ _ _ _ _ (aP (aV co) ?_);refine T.rT (YB (.mk h.k 0 0 sl acc) ⟨by show 3<=h.k;omega,by show h.k<=7;omega⟩ am ag (λc hc=>?_) q (T.getD 3)) (λb j=>⟨_,aG (i:=3) rfl,a0.2 j⟩) λt Q O y G=>?_
    .have ae:c.rx∈fw (I.aw h.l):=by rw[<-A,I.fP];exact bK.2 ⟨c,hc,rfl⟩
     have:=acg (Gy (I.aw h.l) L _ ae)
     rwa[lY]at this
    refine⟨_,_,_,t.s,rfl,y.ai λS z=>⟨⟨t,rfl,?_,z.getD 4,λb j=>?_⟩,z.fr⟩⟩
    .rw [O,ad];show hZ (Rx.mk h.k 0 0 (I.aw acc))=_;rw[A]
    .rcases G b j with j|j
     .exact .inl (bz w.fr.size j)
     .unfold I.fp at j;rcases aW.1 j with j|j
      .exact .inl (al b j)
      .exact H b j
   |succ d ao=>
    intro i acc sl q ah A H w;have C:h.l[i]? =some (h.l[i]'co):=a' co;generalize h.l[i]'co=a at C;have D:=aG C;have au:=I.eH D;have ga:db a.rx=true:=L8 L (by rw[I.fP];exact bK.2 ⟨a,D,rfl⟩);have Z:∀b∈a.fp,b∈h.fp:=λb j=>I.gG.2 (.inr (I.bZ.2 ⟨a,D,j⟩));refine xv.bJ _ _ _ _ _ _ _ _ _ _ _ _ _ _ (aM (aQ co) (iZ (show h.P q from w.getD 0) rfl C ?_));refine w.rT (ih a q co ga ((show h.P q from w.getD 0).parts.2.mem D)) (λb j=>⟨_,aG (i:=0) rfl,a0.2 (Z b j)⟩) λt Q O y G=>?_;have ar:=I.cH (y.get 2:aF _ _ _ _ _).bd;have aq:acc.length=i:=by have B:=congrArg List.length A;rw[I.fP,sF,I.fP]at B;simp only[List.length_map,eT]at B;omega
    refine⟨_,_,_,t.s,rfl,y.jh 2 lI (xs:=acc.flatMap I.c) rfl (λs' S z=>?_) co⟩;have H4:=(z.s5 1 2).take 3;rw[bb _ co];refine ao (i+1) (acc++[t]) s' S co ?_ (uR H λb j=>?_) ?_
    .rw [ku,A,dM,C,Option.toList_some,ku,sF,sF,ez];show _++[t.rx]=_;rw[O];rfl
    .rcases G b j with j|j
     .exact .inl (bz w.fr.size j)
     .exact .inr (Z b j)
    .rw [m5];exact H4.forget _ ws
  exact loop h.l.length 0 [] ⟨none,0,0⟩ Q co rfl (λb j=>by unfold I.be at j;cases j) (Rk (y.fN aT 4))
def JJ(x:I)(w:J)(h:x.sz<=1000)(j:db x.rx=true)(k:x.P w):aj V x3 #[x.v] w λr d=>gy x.fp w (ec x.rx) r d/\af w d:=JK 1000 (bm _) x w h j k
def jw(x:Rx):Rx:=if kB x=0 then qA (ec x)else fO
def pk(x:Rx):Int:=if kB x=0 then qz (ec x)else kB x
def IN(d:List Nat)(w:J)(x:Rx)(c:Int)(r:cE)(Y:J):Prop:=∃t:I,r=ae (.tuple #[t.v,.int .i64 c])/\t.rx=x/\t.P Y/\∀b∈t.fp,w.heap.size<=b\/b∈d
def Yb(x:I)(w:J)(h:x.sz<=1000000)(B:x.P w):aj V N' #[x.v] w λr y=>IN x.fp w (qA x.rx) (qz x.rx) r y/\af w y:=by
 refine KR.aD _ _ _ _ w _ ((g4 B).aK λE G z=>z.aK λF C k=>k.aA (DD x C h (k.getD 0)) ?_);rintro _ H rfl q;refine⟨_,rfl,aE (λA=>q.ai λD d=>⟨⟨cw,?_,?_,k4 _,λb j=>(k5 j).elim⟩,d.fr⟩) (λA=>q.ai λD d=>⟨⟨x,?_,?_,d.getD 0,λb j=>.inr j⟩,d.fr⟩)⟩
 .unfold qz;rw[I.eU,av co];rfl
 .unfold qA;rw[I.eU,av co];rfl
 .unfold qz;rw[I.eU,ag co]
 .unfold qA;rw[I.eU,ag co]
def Yz(x:I)(w:J)(h:x.sz<=1000000)(Q:x.P w):aj V N3 #[x.v] w λr F=>IN x.fp w (jw x.rx) (pk x.rx) r F/\af w F:=by
 refine KM.aD _ _ _ _ w _ ((g4 Q).aK λW w1 H=>H.aK λY T z=>z.aA (YA x T h (z.getD 0)) ?_);rintro _ U rfl k;unfold jw pk;refine⟨_,rfl,dA (λE=>k.ai λG j=>⟨⟨cw,?_,?_,k4 _,λb d=>(k5 d).elim⟩,j.fr⟩) (λq=>?_)⟩
 .rw [ag E];rfl
 .rw [ag E];rfl
 obtain⟨D,M⟩:=Im q;have Z:x.sz<=64:=by rw[<-I.eU];exact M
 rw[av q,av q];refine k.rT (JJ x U co D (k.getD 0)) (λb d=>⟨_,aG (i:=0) rfl,a0.2 d⟩) λt G y j L=>?_;have S:t.sz<=1000000:=by have:=Gw _ D;rw[<-I.eU,y];omega
 refine⟨_,_,_,t.s,rfl,hF ((Yb t G S (j.getD 1)).mono ?_)⟩;rintro _ w5 ⟨⟨u,rfl,N,O,C⟩,B⟩;have K:=j.gz (.tree u) B O λb d=>(C b (a0.1 d)).imp id λd=>.inr ⟨_,aG (i:=1) rfl,a0.2 d⟩;refine⟨B,_,_,_,u.s,_,rfl,K.ai λw6 A=>⟨⟨u,by rw[y],by rw[N,y],A.getD 2,λb d=>?_⟩,A.fr⟩⟩;rcases C b d with d|d
 .exact .inl (bz j.fr.size d)
 .exact (L b d).imp (λd=>bz k.fr.size d) id
def XW{N:Nat}(U:tT N)(T:N+1<=1000000)(x:I)(w:J)(h:x.sz<=1000000)(W:o7 N x.rx)(px:x.P w):aj V Ga #[x.v] w λr G=>IQ w (jw x.rx) (pk x.rx) r G/\af w G:=by
 refine SP.aD _ _ _ _ w _ ((g4 px).aK λb1 w1 O=>O.aK λb2 w2 A=>A.aA (Jl x w2 h (A.getD 0)) ?_);rintro _ w3 rfl B;unfold jw pk;refine⟨_,rfl,dA (λF=>B.ai λH j=>⟨⟨cw,?_,?_,k4 _,λb d=>(k5 d).elim⟩,j.fr⟩) (λy=>B.ai λH j=>j.kc (Yf H) ?_)⟩
 .rw [ag F];rfl
 .rw [ag F];rfl
 rintro _ w5 ⟨K,rfl,S,pF,Z⟩ _ L;have k:=L.rd (.fm K) pF Z;obtain⟨E,hs⟩:=Im y;rw[av y,av y];refine⟨_,rfl,k.rT (Yq U T S x w5 h (LJ _ E co W) (k.getD 1) (k.getD 0)) (λb d=>?_) λt w6 z q _=>?_⟩
 .rcases aW.1 d with d|d
  .exact ⟨_,aG (i:=0) rfl,a0.2 d⟩
  .exact ⟨_,aG (i:=1) rfl,d⟩
 have aa:t.sz<=1000000:=by have:=Gw _ E;rw[<-I.eU,z];omega
 refine⟨_,_,_,t.s,rfl,q.kc (Yo t w6 aa (q.getD 2)) ?_⟩;rintro _ w7 ⟨u,rfl,Y,pu,D⟩ _ M;have Q:=M.rd (.tree u) pu λb d=>D b (a0.1 d);exact⟨_,_,_,u.s,_,rfl,Q.ai λw8 C=>⟨⟨u,by rw[z],by rw[Y,z],C.getD 3,λb d=>bz q.fr.size (D b d)⟩,C.fr⟩⟩
abbrev BL:=List UInt8
def gQ(s:BL)(i:Nat):UInt8:=s.getD i 0
def ot(c:UInt8):Bool:=au (32<=c.toNat)&&au (c.toNat<=126)&&!(c==39)&&!(c==92)
def eS(c:UInt8):Bool:=au (97<=c.toNat)&&au (c.toNat<=122)
def iS(n:Nat):UInt8:=c9 (if n<10 then 48+n else 87+n)
def iX(c:UInt8):Int:=if 48<=c.toNat/\c.toNat<=57 then(c.toNat:Int) - 48 else if 97<=c.toNat/\c.toNat<=102 then(c.toNat:Int) - 87 else -1
def hX(s:BL)(at_:Nat):UInt8×Nat:=
 if(au (at_+3<=s.length)&&gQ s at_==39&&gQ s (at_+2)==39&&ot (gQ s (at_+1)))=true then(gQ s (at_+1),3)
 else if(au (at_+4<=s.length)&&gQ s at_==92&&gQ s (at_+1)==120&&au (0<=iX (gQ s (at_+2)))&&au (0<=iX (gQ s (at_+3))))=true then(c9 ((16 *iX (gQ s (at_+2))+iX (gQ s (at_+3))).toNat),4)
 else(0,0)
structure dP where
 tx:BL
 at_:Nat
 k:Nat
 lo:UInt8
 hi:UInt8
structure Db where
 k:Nat
 lo:UInt8
 hi:UInt8
 n:Nat
def sE:Db:=⟨0,0,0,0⟩
def kr(s:BL)(i:Nat):Db:=
 let a:=hX s i
 if 0<a.2 then⟨2,a.1,a.1,a.2⟩else if gQ s i≠91 then sE else
 let b:=hX s (i+1)
 let dash:=i+1+b.2
 if b.2=0\/s.length<=dash\/gQ s dash≠45 then sE else
 let c:=hX s (dash+1)
 let fin:=dash+1+c.2
 if c.2=0\/s.length<=fin\/gQ s fin≠93\/c.1.toNat<b.1.toNat then sE else⟨2,b.1,c.1,fin+1 - i⟩
def oE(s:BL)(i:Nat):Nat->Nat->Nat
 |0,n=>n
 |f+1,n=>if(eS (gQ s i)&&au (i+n<s.length)&&eS (gQ s (i+n)))=true then oE s i f (n+1)else n
def pJ(s:BL):Nat->Nat->List dP
 |0,_=>[⟨[],s.length,0,0,0⟩]
 |f+1,i=>if s.length<=i then[⟨[],s.length,0,0,0⟩]else if gQ s i=32 then pJ s f (i+1)else
  let r:=kr s i
  let n:=if r.n=0 then oE s i s.length 1 else r.n
  ⟨(s.take (i+n)).drop i,i,r.k,r.lo,r.hi⟩::pJ s f (i+n)
def nC(s:BL):List dP:=pJ s (s.length+1) 0
abbrev bU:=Nat×Bool
section
variable (l:List dP)
def fS(i:Nat):dP:=l.getD i ⟨[],0,0,0,0⟩
def fy(st:bU):BL:=bif st.2 then[32]else(fS l st.1).tx
def fe(s:BL)(st:bU):Bool×bU:=bif fy l st==s then(true,bif s.isEmpty then st else(st.1+1,st.2))else(false,st)
def k2(s:BL)(st:bU):bU:=match fe l s st with
 |(true,st)=>st
 |(false,st)=>(st.1,true)
def zx(st:bU):Bool:=!st.2&&!(fy l st==[])&&!(fy l st==[41])&&!(fy l st==[44])&&!(fy l st==[124])&&!(fy l st==[38])
def r8(k:Int):List Rx->Rx
 |[a]=>a
 |m=>.mk k 0 0 m
def nG:Nat->BL
 |0=>[110,111,110,101]
 |1=>[101,109,112,116,121]
 |3=>[99,97,116]
 |4=>[97,108,116]
 |5=>[97,108,108]
 |_=>[]
def mg(st:bU):Nat->Nat->Option Nat
 |0,_=>none
 |f+1,d=>bif Nat.beq d 2||!(fy l st==nG d)then mg st f (d+1)else some d
mutual
def lL:Nat->bU->Option (Rx×bU)
 |0,_=>none
 |f+1,st=>match o2 f st with
  |some (a,st)=>tX f [a] st
  |none=>none
def tX:Nat->List Rx->bU->Option (Rx×bU)
 |0,_,_=>none
 |f+1,acc,st=>match fe l [124] st with
  |(true,st)=>match o2 f st with
   |some (a,st)=>tX f (acc++[a]) st
   |none=>none
  |(false,st)=>some (r8 4 acc,st)
def o2:Nat->bU->Option (Rx×bU)
 |0,_=>none
 |f+1,st=>match pD f st with
  |some (a,st)=>ua f [a] st
  |none=>none
def ua:Nat->List Rx->bU->Option (Rx×bU)
 |0,_,_=>none
 |f+1,acc,st=>match fe l [38] st with
  |(true,st)=>match pD f st with
   |some (a,st)=>ua f (acc++[a]) st
   |none=>none
  |(false,st)=>some (r8 5 acc,st)
def pD:Nat->bU->Option (Rx×bU)
 |0,_=>none
 |f+1,st=>match na f st with
  |some (a,st)=>u1 f [a] st
  |none=>none
def u1:Nat->List Rx->bU->Option (Rx×bU)
 |0,_,_=>none
 |f+1,acc,st=>bif zx l st then match na f st with
   |some (a,st)=>u1 f (acc++[a]) st
   |none=>none
  else some (r8 3 acc,st)
def na:Nat->bU->Option (Rx×bU)
 |0,_=>none
 |f+1,st=>match fe l [33] st with
  |(true,st)=>match na f st with
   |some (a,st)=>some (.mk 6 0 0 [a],st)
   |none=>none
  |(false,st)=>match rN f st with
   |some (a,st)=>yH f a st
   |none=>none
def yH:Nat->Rx->bU->Option (Rx×bU)
 |0,_,_=>none
 |f+1,a,st=>match fe l [42] st with
  |(true,st)=>yH f (.mk 7 0 0 [a]) st
  |(false,st)=>some (a,st)
def rN:Nat->bU->Option (Rx×bU)
 |0,_=>none
 |f+1,st=>bif !st.2&&Nat.beq (fS l st.1).k 2 then some (.mk 2 (fS l st.1).lo (fS l st.1).hi [],(st.1+1,st.2))else match mg l st 6 0 with
  |some d=>bif Nat.ble d 2 then some (.mk d 0 0 [],(st.1+1,st.2))else match se f (st.1+1,st.2)with
   |some (m,st)=>some (.mk d 0 0 m,st)
   |none=>none
  |none=>let st:=k2 l [40] st
   bif st.2 then some (fO,st)else match lL f st with
   |some (a,st)=>some (a,k2 l [41] st)
   |none=>none
def se:Nat->bU->Option (List Rx×bU)
 |0,_=>none
 |f+1,st=>match fe l [41] (k2 l [40] st)with
  |(d,st)=>bif st.2||d then some ([],st)else match lL f st with
   |some (a,st)=>xX f [a] st
   |none=>none
def xX:Nat->List Rx->bU->Option (List Rx×bU)
 |0,_,_=>none
 |f+1,acc,st=>match fe l [44] st with
  |(true,st)=>match lL f st with
   |some (a,st)=>xX f (acc++[a]) st
   |none=>none
  |(false,st)=>some (acc,k2 l [41] st)
end
end
def vk(s:BL):Option (Rx×Nat×Int):=
 if 4096<s.length then some (fO,4096,4)else
 let l:=nC s
 match lL l 1000 (0,false)with
 |some (r,st)=>let st:=k2 l [] st
  if st.2=true then some (fO,(fS l st.1).at_,2)else if 1000000<r.sz then none else if 64<r.sz then some (fO,s.length,4)else some (r,0,0)
 |none=>none
def dR(c:UInt8):BL:=if ot c=true then[39,c,39]else[92,120,iS (c.toNat / 16),iS (c.toNat%16)]
def c':Rx->Nat
 |.mk d _ _ l=>if d=6 then 3 else if d<3\/d=7\/l.length<2 then 4 else if d=3 then 2 else if d=4 then 0 else 1
def dd(d:Nat)(a:Rx)(t:BL):BL:=if c' a<d then 40::(t++[41])else t
def sy(k:Int):BL:=if k=3 then[99,97,116,40]else if k=4 then[97,108,116,40]else[97,108,108,40]
def g9(k:Int):BL:=if k=3 then[]else if k=4 then[124]else[38]
def kY(t:BL):UInt8:=t.getLastD 0
def jK(k:Int):BL->List BL->BL
 |out,[]=>out
 |out,t::d=>jK k ((if k=3/\eS (kY out)=true/\eS (gQ t 0)=true then out++[32]else out)++g9 k++t) d
def ko:List BL->BL
 |[]=>[]
 |t::_=>t
def Ak(k:Int):List BL->BL
 |[]=>[]
 |t::d=>jK k t d
mutual
def bn:Rx->BL
 |.mk d lo h l=>if d=0 then[110,111,110,101]else if d=1 then[101,109,112,116,121]else
  if d=2 then(if lo=h then dR lo else 91::(dR lo++45::(dR h++[93])))else
  if d=6 then 33::ko (dF 3 l)else if d=7 then ko (dF 4 l)++[42]else
  if l.length<2 then sy d++(ko (dF 0 l)++[41])else
  Ak d (dF (c' (.mk d lo h l)+1) l)
def dF(d:Nat):List Rx->List BL
 |[]=>[]
 |a::l=>dd d a (bn a)::dF d l
end
mutual
def iY:Rx->Bool
 |.mk d _ _ l=>au (0<=d)&&au (d<=7)&&(au (d<6)||au (l.length=1))&&oo l
def oo:List Rx->Bool
 |[]=>true
 |a::l=>iY a&&oo l
end
def uk(s:BL):Option Bool:=match vk s with
 |some (r,_,e)=>if e=0 then(if pk r=0 then(if iY (jw r)=true/\(jw r).sz<=1000 then some (dd 0 (jw r) (bn (jw r))==s)else none)else some false)else some false
 |none=>none
def Bs(a b:UInt8):Rx:=.mk 2 a b []
def fh:Nat->Rx
 |0=>Bs 97 97
 |1=>Bs 98 98
 |2=>Bs 0 0
 |3=>Bs 97 98
 |4=>n7
 |_=>eX
def ET(a b c:Rx):Nat->Rx
 |0=>a
 |1=>.mk 3 0 0 [a,b]
 |2=>.mk 4 0 0 [a,b,c]
 |3=>.mk 7 0 0 [a]
 |4=>.mk 3 0 0 [.mk 7 0 0 [a],b]
 |5=>.mk 6 0 0 [.mk 3 0 0 [a,b]]
 |6=>.mk 3 0 0 [b,.mk 7 0 0 [.mk 4 0 0 [a,c]]]
 |_=>.mk 5 0 0 [.mk 6 0 0 [b],.mk 3 0 0 [a,eX]]
def mP(k:Nat):BL:=bn (ec (ET (fh (k%6)) (fh (k / 6%6)) (fh (k / 36%6)) (k / 216%8)))
namespace HX
def ok:=az (ay V Tryz.f19 [] []) Gn [.st,.Y]
end HX
namespace Fh
def ok:=az (ay V Tryz.f40 [] []) F4 [.st,.Y]
end Fh
namespace Tl
def ok:=az (ay V Tryz.f239 [] []) PM [.Y]
end Tl
namespace Tg
def ok:=az (ay V Tryz.f253 [] []) PJ [.Y]
end Tg
namespace Bo
noncomputable abbrev S1:=ak (ay V Tryz.f240 [(4,ls [0,1,2,3,5,6,7,8,4,9,10,11])] []) [3] []
noncomputable abbrev t1:=ao S1
noncomputable abbrev S0:=ak t1 [2] [(0,.v [.st]),(1,.v [.I])]
noncomputable abbrev t2:=ao S0
def ok:=az t2 Pz [.st,.I]
end Bo
namespace vB
abbrev P0:Ps:=[(0,.v [.st]),(1,.v [.I]),(4,.l [.Y,.Y,.Y,.st,.I] oL),(7,.v [.I])]
noncomputable def cv:=bg (ay V Tryz.f214 [] [4]) [0,2,1,1,3,2,2] P0
noncomputable abbrev t1:=bf cv
noncomputable abbrev cb:=ak t1 [2,1,3,2,2] P0
noncomputable abbrev t2:=ao cb
def dO:=bj t2 cv
noncomputable abbrev fU:=ak t2 [3] [(1,.v [.I]),(4,.l [.Y,.Y,.Y,.st,.I] oL)]
noncomputable abbrev t3:=ao fU
noncomputable abbrev jF:=ak t3 [5,1,5,2,2] [(0,.v [.st]),(1,.v [.I]),(4,.l [.Y,.Y,.Y,.st,.I] oL),(8,.v [.Y]),(10,.v [.b]),(11,.v [.I]),(12,.v [.Y])]
noncomputable abbrev t4:=ao jF
noncomputable abbrev cX:=ak t4 [2,1,5,2,2] [(0,.v [.st]),(1,.v [.I]),(4,.l [.Y,.Y,.Y,.st,.I] oL),(8,.v [.Y]),(10,.v [.b]),(11,.v [.I])]
noncomputable abbrev t5:=ao cX
noncomputable abbrev bD:=ak t5 [2] [(0,.v [.st]),(1,.v [.I]),(4,.l [.Y,.Y,.Y,.st,.I] oL),(6,.v [.Y])]
noncomputable abbrev t6:=ao bD
def aD:=az t6 Gj [.st,.I]
end vB
namespace Bq
noncomputable def C0:Code:=(Tryz.f213.body).getD .skip
noncomputable def C1:=C0.fs
noncomputable def C2:=C1.sn
noncomputable def C3:=C2.fs
noncomputable def C4:=C3.fs
noncomputable def C5:=C0.sn
abbrev Q0(R:aJ):ir:=(Exit.then (fT V (cx 39) C5 (bodyPost V Tryz.f213 R)) (bodyPost V Tryz.f213 R))
abbrev Q1(R:aJ):ir:=(Exit.inBlock 0 (Q0 R))
def L0(j:Nat)(h:Addr)(d:Int)(w:J)(R:aJ):Prop:=LP V (cx 39) C4 (Q1 R) [(0,.func (.yield j) #[] #[]),(1,.pointer (some h)),(3,.i d)] w
def pX(E:Env)(w:J)(R:aJ):Prop:=W.Dr (Env.get? E 0) λj=>W.cK (Env.get? E 1) λh=>W.asInt .i64 (Env.get? E 3) λd=>L0 j h d w R
def tL:CS V 39 pX C4 Q1:=by intro A z D h;obtain⟨E,w,j⟩:=W.W7 h;obtain⟨C,x,k⟩:=W.cT j;obtain⟨B,y,q⟩:=W.hf k;intro a d;exact q a (d.cons w (d.cons x (d.cons y d.nil)))
noncomputable def C6:=C4.fs
noncomputable def C7:=C4.sn
noncomputable def C8:=C7.fs
noncomputable def C9:=C8.fs
noncomputable def mU:=C9.sn
noncomputable def kE:=mU.fs
noncomputable def nH:=C8.sn
noncomputable def oN:=nH.sn
noncomputable def oO:=oN.fs
noncomputable def kF:=oN.sn
noncomputable def kG:=C6.sn
noncomputable def nI:=kG.fs
noncomputable def nJ:=kE.sn
noncomputable def nK:=mU.sn
noncomputable def lq:=oO.sn
noncomputable def mi:=lq.fs
noncomputable def pV:=lq.sn
noncomputable def lu:=kG.sn
def bC(x:Nat)(q:Addr)(k:Int)(w:J)(R:aJ)(h:∃B:ByteArray,w.cell? q=some (.string B)/\
 bt (au (k<(B.size:Int))) (∃t10:ByteArray,w.cell? q=some (.string t10)/\
 (0:Int)<=k/\∃A:UInt8,t10[a5 k]? =some A/\bt ((A.toNat:Int)==32) (L0 x q (ah .i64 (k+1)) w R) (∃t17:ByteArray,w.cell? q=some (.string t17)/\
 YM Gj #[.string t17,.i k] w λD F G H I K y=>dz y (.cells #[.int .u8 0,.int .u8 0,.int .u8 0,.s0,.i 0] oL) λQ=>
 UC Q (nb y) (.int .u8 D) (.int .u8 F) (.int .u8 G) (.string H) (.i I) λC=>M4 C (nb y) λL M N O P=>wb V x #[.agg #[.int .u8 L,.int .u8 M,.int .u8 N,.string O,.i P]] C λ(t24:Bool) z=>bt (!t24) (R (ae (.tuple #[])) z) (∃t28:Int,z.cell? ((nb y).add 0)=some (.int .u8 t28)/\
 bt (t28==63) (R (ae (.tuple #[])) z) (L0 x q (ah .i64 (k+K)) z R)))) (∃t35:ByteArray,w.cell? q=some (.string t35)/\
 wb V x #[.agg #[.int .u8 36,.int .u8 0,.int .u8 0,.s0,.i (t35.size:Int)]] w λ(t38:Bool) S=>R (ae (.tuple #[])) S)):L0 x q k w R:=
 LP.step (n:=(cx 39)) (c:=C4) (E:=[(0,.func (.yield x) #[] #[]),(1,.pointer (some q)),(3,.i k)]) (w:=w) (sq C4 (sr C6 (show(λ(E:Env) (w:J)=>dY V C6 (λE w=>gX (Env.val E (.tmp 9)) (dY V C9 (λE w=>gX (Env.val E (.tmp 13)) (dY V kE (λE w=>pX E w R) E w) (dY V nH (λE w=>dY V oO (λE w=>gX (Env.val E (.tmp 30)) (lW V Tryz.f213 E w (λv=>R (ae v) w)) (pC V kF (λE w=>pX E w R) E w)) E w) E w)) E w) (pC V C5 (λE w=>lW V Tryz.f213 E w (λv=>R (ae v) w)) E w)) E w) [(0,.func (.yield x) #[] #[]),(1,.pointer (some q)),(3,.i k)] w from mp h) λ_ _ d=>(cn kG d (λd=>(sk nI λa j=>nx j (bk C7 1 (by kernel_rfl) (sq C8 (sr C9 d λ_ _ d=>(cn mU d (λd=>(sr kE d λ_ _ d=>(xt nJ 1 (by kernel_rfl) λa j=>tL R _ _ d a j))) (λd=>(sk nK λa j=>nx j (sr nH d λ_ _ d=>(sq oN (sr oO d λ_ _ d=>(cn lq d (λd=>(rt mi λa j=>yq j d)) (λd=>(sk pV λa j=>nx j (rg kF (by kernel_rfl) d λ_ _ a j d=>tL R _ _ d a j))))))))))))))) (λd=>(xt lu 0 (by kernel_rfl) λa j=>nx j (rg C5 (by kernel_rfl) d λ_ _ a j d=>yq j d))))))
def ok(j:Nat)(d:Addr)(w:J)(R:aJ)(h:L0 j d 0 w R):aj V sw #[.func (.yield j) #[] #[],.pointer (some d)] w R:=
 wW (R:=R) (fn:=Tryz.f213) (c:=C0) (args:=[.func (.yield j) #[] #[],.pointer (some d)]) (by kernel_rfl) (by kernel_rfl) (by kernel_rfl) (sq C0 (sr C1 (show(λ(E:Env) (w:J)=>dY V C1 (λE w=>pX E w R) E w) (kS 0 [.func (.yield j) #[] #[],.pointer (some d)]) w from mp h) λ_ _ k=>(bk C2 0 (by kernel_rfl) (lp C3 (by kernel_rfl) (tL R _ _ k)))))
end Bq
namespace Tn
def ok:=az (ay V Tryz.f200 [] []) PN [.st]
end Tn
namespace Tf
def aD:=az (ay V Tryz.f221 [] [4]) AN [.I,.s]
end Tf
namespace yn
noncomputable def a8:=bg (ay V Tryz.f220 [(4,(.sq [0,1,2,3,4,5,6,7,8,10,11] (.fork (ls [9,12]) (ls [12,9]))))] [2]) [0,2,1] [(0,.v [.r]),(2,.l [.I,.Y,.Y,.s] aZ)]
noncomputable abbrev t1:=bf a8
def bJ:=bj t1 a8
def aD:=az t1 PG [.r]
end yn
namespace Td
noncomputable abbrev S0:=ak (ay V Tryz.f218 [(1,(.sq [0,1,2,3,4,5,6,7,9] (.fork (.sq [8,10,11,12,14,15] (.fork (ls [13,16]) (ls [16,13]))) (.sq [10,8,11,12,14,15] (.fork (ls [13,16]) (ls [16,13]))))))] []) [2] [(0,.v [.r])]
noncomputable abbrev t1:=ao S0
def ok:=az t1 PH [.r]
end Td
namespace Tb
noncomputable abbrev S0:=ak (ay V Tryz.f219 [(1,(.sq [0,1,2,3,4,5,6,7,9] (.fork (.sq [8,10,11,12,14,15] (.fork (ls [13,16]) (ls [16,13]))) (.sq [10,8,11,12,14,15] (.fork (ls [13,16]) (ls [16,13]))))))] []) [2] [(0,.v [.r])]
noncomputable abbrev t1:=ao S0
def ok:=az t1 PF [.r]
end Tb
namespace Tc
def aD:=az (ay V Tryz.f203 [] [2,3]) Gd [.r]
end Tc
namespace Hg
def ok:=az (ay V Tryz.f202 [(1,lr 12)] []) AO [.r]
end Hg
namespace Tj
def ok:=az (ay V Tryz.f215 [] []) PL [.r,.I,.I]
end Tj
namespace Th
def aD:=az (ay V Tryz.f241 [(1,ls [0,2,1,3,4,5])] [3]) Gf [.r,.a 4,.I,.Y,.Y,.s]
end Th
namespace Ti
def ok:=az (ay V Tryz.f216 [(2,lr 15)] []) Gg [.r,.s]
end Ti
namespace Hf
noncomputable abbrev bD:=ak (ay V Tryz.f217 [] [3]) [2,1,7,1,1,1,1] []
noncomputable abbrev t1:=ao bD
def aD:=az t1 Gi [.r,.a 5,.Y,.Y,.Y,.st,.I]
end Hf
namespace yp
noncomputable abbrev bD:=ak (ay V Tryz.f201 [(25,(.sq [0,1,2,3,4,6] (.fork (.sq [5,7,8,9,11,12] (.fork (ls [10,13]) (ls [13,10]))) (.sq [7,5,8,9,11,12] (.fork (ls [10,13]) (ls [13,10])))))),(28,lr 19)] [3]) [4] []
noncomputable abbrev t1:=ao bD
noncomputable abbrev bW:=ak t1 [2,1,7,1,1,1,3] [(0,.v [.r])]
noncomputable abbrev t2:=ao bW
def aD:=az t2 Gh [.r,.a 5,.Y,.Y,.Y,.st,.I]
end yp
namespace Hd
noncomputable def C0:Code:=(Tryz.f188.body).getD .skip
noncomputable def C1:=C0.sn
noncomputable def C2:=C1.sn
noncomputable def C3:=C2.sn
noncomputable def C4:=C3.fs
noncomputable def C5:=C4.sn
noncomputable def C6:=C5.fs
noncomputable def C7:=W.Code.W8 C6
noncomputable def C8:=W.Code.Xq C6
noncomputable def C9:=C8.fs
noncomputable def mU:=C9.sn
noncomputable def kE:=mU.fs
abbrev Q0(l_:Nat)(d:Loop)(R:aJ):Exit->Act->J->Prop:=(roundPost V l_ R)
abbrev Q1(l_:Nat)(d:Loop)(R:aJ):Exit->Act->J->Prop:=(Exit.inBlock 1 (Q0 l_ d R))
noncomputable def nH:=kE.fs
noncomputable def oN:=kE.sn
abbrev S3(l_:Nat)(d:kD->Option Code->Obj)(t2 t3 t4 h:Addr)(w:J)(R:aJ):Prop:=
 mw w λj=>∃t23:Int,j.cell? (h.add 4)=some (.i t23)/\
 ma j t2 (.i 0) (.int .u8 0) (.int .u8 0) (.slice none 0 0) λk=>k.cell? (h.add 4)=some (.i t23)/\aS k t3 (.i t23) λq=>
 aS q t4 (.i 2) λx=>
 mK x l_ (d .busy none) (d .done (some .ret)) λy=>R (ae (.bool false)) y
def wo(l_:Nat)(d:kD->Option Code->Obj)(E:Env)(w:J)(R:aJ):Prop:=W.cK (Env.get? E 2) λh=>W.cK (Env.get? E 3) λj=>W.cK (Env.get? E 4) λk=>W.cK (Env.get? E 6) λq=>S3 l_ d h j k q w R
def CO(l_:Nat)(j:Loop)(R:aJ)(E:Env)(w:J)(h:wo l_ (lo j) E w R):WP V ⟨32,[],some l_⟩ kE (Q1 l_ j R) E w:=by obtain⟨I,D,z⟩:=W.cT h;obtain⟨K,F,A⟩:=W.cT z;obtain⟨L,G,B⟩:=W.cT A;obtain⟨M,H,C⟩:=W.cT B;exact λa d=>WP.at (n:=⟨32,[],some l_⟩) (E:=[(2,.pointer (some I)),(3,.pointer (some K)),(4,.pointer (some L)),(6,.pointer (some M))]) (WP.seq (c:=kE) (x:=nH) (y:=oN) (by kernel_rfl)<|WP.draw (c:=nH) [0,1,2,3,4,5] (λE w=>mK w l_ ((lo j) .busy none) ((lo j) .done (some .ret)) λN=>R (ae (.bool false)) N) (by kernel_rfl) (mp C) λ_ _ a k q=>(WP.ret (c:=oN) (Q:=(Q1 l_ j R)) (by kernel_rfl) λa k=>(show roundPost V l_ R .ret a _ from adV (a:=a) (q).1 (q).2)) a k) (d.cons D (d.cons F (d.cons G (d.cons H d.nil))))
noncomputable def oO:=C9.fs
noncomputable def kF:=mU.sn
abbrev S2(l_:Nat)(d:kD->Option Code->Obj)(t2 t3 t4 k h:Addr)(w:J)(R:aJ):Prop:=
 M4 w h λq x y z A=>JO Gh #[.pointer (some k),.agg #[.int .u8 q,.int .u8 x,.int .u8 y,.string z,.i A]] w λt19 j=>bt (!t19) (S3 l_ d t2 t3 t4 h j R) (mK j l_ (d .busy none) (d .ready none) λB=>R (ae (.bool true)) B)
def II(l_:Nat)(d:kD->Option Code->Obj)(E:Env)(w:J)(R:aJ):Prop:=W.cK (Env.get? E 2) λj=>W.cK (Env.get? E 3) λk=>W.cK (Env.get? E 4) λq=>W.cK (Env.get? E 5) λh=>W.cK (Env.get? E 6) λx=>S2 l_ d j k q h x w R
def Ws(l_:Nat)(k:Loop)(R:aJ)(E:Env)(w:J)(h:II l_ (lo k) E w R):WP V ⟨32,[],some l_⟩ C9 (Q1 l_ k R) E w:=by obtain⟨M,F,z⟩:=W.cT h;obtain⟨N,G,A⟩:=W.cT z;obtain⟨O,H,B⟩:=W.cT A;obtain⟨L,I,C⟩:=W.cT B;obtain⟨P,K,D⟩:=W.cT C;exact λa j=>WP.at (n:=⟨32,[],some l_⟩) (E:=[(2,.pointer (some M)),(3,.pointer (some N)),(4,.pointer (some O)),(5,.pointer (some L)),(6,.pointer (some P))]) (WP.seq (c:=C9) (x:=oO) (y:=mU) (by kernel_rfl)<|WP.qQ (c:=oO) (λE w=>gX (Env.val E (.tmp 20)) (wo l_ (lo k) E w R) (mK w l_ ((lo k) .busy none) ((lo k) .ready none) λQ=>R (ae (.bool true)) Q)) (by kernel_rfl) (mp D) λ_ _ a q d=>(WP.gX (c:=mU) (x:=kE) (y:=kF) (o:=.tmp 20) (by kernel_rfl) (λd=>(CO l_ k R _ _ d)) (λd=>(WP.skip (c:=kF) (by kernel_rfl) λa q=>adU (a:=a) (d).1 (d).2)) d) a q) (j.cons F (j.cons G (j.cons H (j.cons I (j.cons K j.nil)))))
abbrev Q2(l_:Nat)(d:Loop)(R:aJ):Exit->Act->J->Prop:=(CY V 32 l_ d C8 (roundPost V l_ R))
abbrev S1(l_:Nat)(d:kD->Option Code->Obj)(t2 t3 t4 h:Addr)(j k q:Int)(x:ByteArray)(y:Int)(w:J)(R:aJ):Prop:=
 dz w (.cells #[.int .u8 0,.int .u8 0,.int .u8 0,.s0,.i 0] oL) λz=>
 UC z (nb w) (.int .u8 j) (.int .u8 k) (.int .u8 q) (.string x) (.i y) λA=>mK A l_ (d .ready none) (d .busy none) λB=>S2 l_ d t2 t3 t4 h (nb w) B R
def rs(l_:Nat)(d:kD->Option Code->Obj)(E:Env)(w:J)(R:aJ):Prop:=W.cK (Env.get? E 2) λM=>W.cK (Env.get? E 3) λN=>W.cK (Env.get? E 4) λO=>W.cK (Env.get? E 5) λh=>W.asAgg (Env.get? E 17) λz=>W.qe z λG A=>W.asInt .u8 (some G) λj=>W.qe A λH B=>W.asInt .u8 (some H) λk=>W.qe B λI C=>W.asInt .u8 (some I) λq=>W.qe C λK D=>W.rM (some K) λx=>W.qe D λL F=>W.asInt .i64 (some L) λy=>W.uc F<|S1 l_ d M N O h j k q x y w R
def CN(l_:Nat)(j:Loop)(R:aJ)(E:Env)(w:J)(h:rs l_ (lo j) E w R):WP V ⟨32,[],some l_⟩ C7 (Q2 l_ j R) E w:=by obtain⟨t2,S,y⟩:=W.cT h;obtain⟨t3,T,H⟩:=W.cT y;obtain⟨t4,U,I⟩:=W.cT H;obtain⟨Z,Y,K⟩:=W.cT I;obtain⟨af,Q,L⟩:=W.W5 K;obtain⟨al,ag,rfl,M⟩:=W.ub L;obtain⟨aa,ex,N⟩:=W.hf M;obtain rfl:=e5 ex;obtain⟨am,ah,rfl,O⟩:=W.ub N;obtain⟨ab,ex,P⟩:=W.hf O;obtain rfl:=e5 ex;obtain⟨an,ai,rfl,z⟩:=W.ub P;obtain⟨ac,ex,A⟩:=W.hf z;obtain rfl:=e5 ex;obtain⟨ao,aj,rfl,B⟩:=W.ub A;obtain⟨ad,ex,C⟩:=W.wL B;obtain rfl:=e5 ex;obtain⟨ap,ak,rfl,D⟩:=W.ub C;obtain⟨ae,ex,F⟩:=W.hf D;obtain rfl:=e5 ex;obtain⟨rfl,G⟩:=W.Dq F;exact λa d=>WP.at (n:=⟨32,[],some l_⟩) (E:=[(2,.pointer (some t2)),(3,.pointer (some t3)),(4,.pointer (some t4)),(5,.pointer (some Z)),(17,.agg #[.int .u8 aa,.int .u8 ab,.int .u8 ac,.string ad,.i ae])]) (WP.qQ (c:=C7) (λE w=>w.heap[l_]? =some (lo j .ready none)/\((λw=>II l_ (lo j) E w R) (w.putObj l_ (lo j .busy none)))) (by kernel_rfl) (mp G) λ_ _ a q k=>⟨(k).1,(WP.block (c:=C8) (x:=C9) (id:=1) (by kernel_rfl) (Ws l_ j R _ _ (k).2)) a q⟩) (d.cons S (d.cons T (d.cons U (d.cons Y (d.cons Q d.nil)))))
abbrev Cq(l_:Nat)(d:kD->Option Code->Obj)(z:ByteArray)(t2 t3 t4 h A:Addr)(j k q:Int)(x:ByteArray)(y:Int)(w:J)(R:aJ):Prop:=
 S1 l_ d t2 t3 t4 h j k q x y w R
def WR(l_:Nat)(d:Loop)(k:ByteArray)(t2 t3 t4 j q:Addr)(x y z:Int)(A:ByteArray)(B:Int)(w:J)(R:aJ)(h:Cq l_ (lo d) k t2 t3 t4 j q x y z A B w R):WP V ⟨32,[],some l_⟩ C7 (CY V 32 l_ d C8 (roundPost V l_ R)) (qK [(0,.string k),(2,.pointer (some t2)),(3,.pointer (some t3)),(4,.pointer (some t4)),(5,.pointer (some j)),(16,.func (.func sw) #[] #[.pointer (some q)])] [17] [.agg #[.int .u8 x,.int .u8 y,.int .u8 z,.string A,.i B]]) w:=
 (CN l_ d R _ _ (mp h))
noncomputable def kG:=C3.sn
noncomputable def nI:=kG.sn
noncomputable def nJ:=nI.fs
noncomputable def nK:=nJ.sn
noncomputable def lq:=nK.fs
noncomputable def mi:=nI.sn
abbrev Q3(R:aJ):ir:=(Exit.then (fT V (cx 32) mi (bodyPostM Fence.wide 0 V Tryz.f188 R)) (bodyPostM Fence.wide 0 V Tryz.f188 R))
noncomputable def pV:=lq.fs
noncomputable def lu:=lq.sn
abbrev S6(k:Nat)(A:ByteArray)(t2 t3 t4:Addr)(w:J)(R:aJ):Prop:=
 ma w t2 (.i 0) (.int .u8 0) (.int .u8 0) (.slice none 0 0) λB=>aS B t3 (.i (A.size:Int)) λC=>
 aS C t4 (.i 4) λD=>
 mK D k (.deferred (some [])) (.deferred none) λd=>gi d t2 λq x y z=>∃h:Int,d.cell? t3=some (.i h)/\
 ∃j:Int,d.cell? t4=some (.i j)/\
 R (ae (.tuple #[.agg #[.i q,.int .u8 x,.int .u8 y,z.v],.i h,.i j])) d
def ry(d:Nat)(E:Env)(w:J)(R:aJ):Prop:=W.rM (Env.get? E 0) λh=>W.cK (Env.get? E 2) λj=>W.cK (Env.get? E 3) λk=>W.cK (Env.get? E 4) λq=>S6 d h j k q w R
def wt(j:Nat)(R:aJ)(E:Env)(w:J)(h:ry j E w R):WP V (marked 32 j) lq (Q3 R) E w:=by obtain⟨I,D,z⟩:=W.wL h;obtain⟨K,F,A⟩:=W.cT z;obtain⟨L,G,B⟩:=W.cT A;obtain⟨M,H,C⟩:=W.cT B;exact λa d=>WP.at (n:=(marked 32 j)) (E:=[(0,.string I),(2,.pointer (some K)),(3,.pointer (some L)),(4,.pointer (some M))]) (WP.seq (c:=lq) (x:=pV) (y:=lu) (by kernel_rfl)<|WP.qQ (c:=pV) (λE w=>Hl V Tryz.f188 E w j R) (by kernel_rfl) (mp C) λ_ _ a k q=>(WP.ret (c:=lu) (by kernel_rfl) λa k=>Hm k q) a k) (d.cons D (d.cons F (d.cons G (d.cons H d.nil))))
abbrev Q4(R:aJ):ir:=(bodyPostM Fence.wide 0 V Tryz.f188 R)
noncomputable def tz:=mi.fs
noncomputable def tA:=mi.sn
abbrev S7(k:Nat)(t2 t3 t4 H:Addr)(w:J)(R:aJ):Prop:=
 gi w H λA B C D=>ma w t2 (.i A) (.int .u8 B) (.int .u8 C) (D.v) λE=>aS E t3 (.i 0) λF=>
 aS F t4 (.i 0) λG=>
 mK G k (.deferred (some [])) (.deferred none) λd=>gi d t2 λq x y z=>∃h:Int,d.cell? t3=some (.i h)/\
 ∃j:Int,d.cell? t4=some (.i j)/\
 R (ae (.tuple #[.agg #[.i q,.int .u8 x,.int .u8 y,z.v],.i h,.i j])) d
def wu(d:Nat)(E:Env)(w:J)(R:aJ):Prop:=W.cK (Env.get? E 2) λh=>W.cK (Env.get? E 3) λj=>W.cK (Env.get? E 4) λk=>W.cK (Env.get? E 7) λq=>S7 d h j k q w R
def CQ(j:Nat)(R:aJ)(E:Env)(w:J)(h:wu j E w R):WP V (marked 32 j) mi (Q4 R) E w:=by obtain⟨I,D,z⟩:=W.cT h;obtain⟨K,F,A⟩:=W.cT z;obtain⟨L,G,B⟩:=W.cT A;obtain⟨M,H,C⟩:=W.cT B;exact λa d=>WP.at (n:=(marked 32 j)) (E:=[(2,.pointer (some I)),(3,.pointer (some K)),(4,.pointer (some L)),(7,.pointer (some M))]) (WP.seq (c:=mi) (x:=tz) (y:=tA) (by kernel_rfl)<|WP.qQ (c:=tz) (λE w=>Hl V Tryz.f188 E w j R) (by kernel_rfl) (mp C) λ_ _ a k q=>(WP.ret (c:=tA) (by kernel_rfl) λa k=>Hm k q) a k) (d.cons D (d.cons F (d.cons G (d.cons H d.nil))))
noncomputable def tB:=nJ.fs
noncomputable def tC:=nK.sn
abbrev S5(d:Nat)(k:ByteArray)(t2 t3 t4 j:Addr)(w:J)(R:aJ):Prop:=
 gi w j λq x y z=>JO Gk #[.agg #[.i q,.int .u8 x,.int .u8 y,z.v]] w λt27 h=>bt t27 (S6 d k t2 t3 t4 h R) (S7 d t2 t3 t4 j h R)
def wq(d:Nat)(E:Env)(w:J)(R:aJ):Prop:=W.rM (Env.get? E 0) λh=>W.cK (Env.get? E 2) λj=>W.cK (Env.get? E 3) λk=>W.cK (Env.get? E 4) λq=>W.cK (Env.get? E 7) λx=>S5 d h j k q x w R
def CP(d:Nat)(R:aJ)(E:Env)(w:J)(h:wq d E w R):WP V (marked 32 d) nJ (Q3 R) E w:=by obtain⟨L,F,z⟩:=W.wL h;obtain⟨M,G,A⟩:=W.cT z;obtain⟨N,H,B⟩:=W.cT A;obtain⟨O,I,C⟩:=W.cT B;obtain⟨P,K,D⟩:=W.cT C;exact λa j=>WP.at (n:=(marked 32 d)) (E:=[(0,.string L),(2,.pointer (some M)),(3,.pointer (some N)),(4,.pointer (some O)),(7,.pointer (some P))]) (WP.seq (c:=nJ) (x:=tB) (y:=nK) (by kernel_rfl)<|WP.qQ (c:=tB) (λE w=>gX (Env.val E (.tmp 27)) (ry d E w R) (wu d E w R)) (by kernel_rfl) (mp D) λ_ _ a q k=>(WP.gX (c:=nK) (x:=lq) (y:=tC) (o:=.tmp 27) (by kernel_rfl) (λk=>(wt d R _ _ k)) (λk=>(WP.skip (c:=tC) (by kernel_rfl) λa q=>(CQ d R _ _ k) a q)) k) a q) (j.cons F (j.cons G (j.cons H (j.cons I (j.cons K j.nil)))))
noncomputable def tD:=kG.fs
abbrev S4(h:Nat)(k:ByteArray)(t2 t3 t4 j:Addr)(w:J)(R:aJ):Prop:=
 YN AO #[.pointer (some j)] w λt24 A=>zG Gd #[.pointer t24] A λq x y z d=>dz d (.cells #[.i 0,.int .u8 0,.int .u8 0,.slice none 0 0] aZ) λB=>
 ma B (nb d) (.i q) (.int .u8 x) (.int .u8 y) (z.v) λC=>S5 h k t2 t3 t4 (nb d) C R
def pY(d:Nat)(E:Env)(w:J)(R:aJ):Prop:=W.rM (Env.get? E 0) λj=>W.cK (Env.get? E 2) λk=>W.cK (Env.get? E 3) λq=>W.cK (Env.get? E 4) λx=>W.cK (Env.get? E 5) λh=>S4 d j k q x h w R
def rv(j:Nat)(R:aJ)(E:Env)(w:J)(h:pY j E w R):WP V (marked 32 j) kG (Q4 R) E w:=by obtain⟨M,F,z⟩:=W.wL h;obtain⟨N,G,A⟩:=W.cT z;obtain⟨O,H,B⟩:=W.cT A;obtain⟨P,I,C⟩:=W.cT B;obtain⟨L,K,D⟩:=W.cT C;exact λa d=>WP.at (n:=(marked 32 j)) (E:=[(0,.string M),(2,.pointer (some N)),(3,.pointer (some O)),(4,.pointer (some P)),(5,.pointer (some L))]) (WP.seq (c:=kG) (x:=tD) (y:=nI) (by kernel_rfl)<|WP.qQ (c:=tD) (λE w=>wq j E w R) (by kernel_rfl) (mp D) λ_ _ a k q=>(WP.seq (c:=nI) (x:=nJ) (y:=mi) (by kernel_rfl) (CP j R _ _ q)) a k) (d.cons F (d.cons G (d.cons H (d.cons I (d.cons K d.nil)))))
abbrev S0(C:ByteArray)(t2 t3 t4 B D:Addr)(w:J)(R:aJ):Prop:=
 ∀d:kD->Option Code->Obj,(∀(E F G:Int) (H:ByteArray) (I:Int) (q:J) (x:Bool->J->Prop),q.heap[w.heap.size+1]? =some (d .ready none)->Cq (w.heap.size+1) d C t2 t3 t4 B D E F G H I q (λk P=>∃y:Bool,k=ae (.bool y)/\x y P)->wb V (w.heap.size+1) #[.agg #[.int .u8 E,.int .u8 F,.int .u8 G,.string H,.i I]] q x)->
 aj V sw #[.func (.yield (w.heap.size+1)) #[] #[],.pointer (some D)] ((w.alloc (.deferred (some []))).alloc (d .ready none)) λk Q=>(∃O,k=ae O)/\zi Q (w.heap.size+1) d (λh=>S4 w.heap.size C t2 t3 t4 B h R) (λS h=>False) (λh=>mK h w.heap.size (.deferred (some [])) (.deferred none) λj=>gi j t2 λK L M N=>∃z:Int,j.cell? t3=some (.i z)/\
 ∃A:Int,j.cell? t4=some (.i A)/\
 R (ae (.tuple #[.agg #[.i K,.int .u8 L,.int .u8 M,N.v],.i z,.i A])) j)
abbrev Q5(R:aJ):ir:=(Exit.then (fT V (cx 32) kG (bodyPostM Fence.wide 0 V Tryz.f188 R)) (bodyPostM Fence.wide 0 V Tryz.f188 R))
abbrev Q6(R:aJ):ir:=(Exit.inBlock 0 (Q5 R))
def CM(E:Env)(w:J)(R:aJ):Prop:=W.rM (Env.get? E 0) λh=>W.cK (Env.get? E 2) λz=>W.cK (Env.get? E 3) λA=>W.cK (Env.get? E 4) λB=>W.cK (Env.get? E 5) λd=>W.zu sw (Env.get? E 16) λx k=>W.uc x<|W.qe k λy q=>W.cK (some y) λj=>W.uc q<|S0 h z A B d j w R
def Wr:rz V 32 CM C6 Q6:=by
 intro y ar F z;obtain⟨C,ag,P⟩:=W.wL z;obtain⟨k,ai,S⟩:=W.cT P;obtain⟨q,aj,T⟩:=W.cT S;obtain⟨w,ak,U⟩:=W.cT T;obtain⟨B,al,Y⟩:=W.cT U;obtain⟨ax,av,ah,Z⟩:=W.W6 Y;obtain⟨rfl,aa⟩:=W.Dq Z;obtain⟨ay,aw,rfl,ab⟩:=W.ub aa;obtain⟨D,ex,ac⟩:=W.cT ab;obtain rfl:=e5 ex;obtain⟨rfl,Q⟩:=W.Dq ac;exact λa d=>WP.at (n:=(cx 32)) (E:=[(0,.string C),(2,.pointer (some k)),(3,.pointer (some q)),(4,.pointer (some w)),(5,.pointer (some B)),(16,.func (.func sw) #[] #[.pointer (some D)])]) (WP.range (m:=32) (c:=C6) (g:=.tmp 16) (ps:=#[17]) (assign:=C7) (body:=C8) (gf:=sw) (lb:=#[.pointer (some D)]) (λh=>S4 F.heap.size C k q w B h y) (λau h=>False) (λh=>mK h F.heap.size (.deferred (some [])) (.deferred none) λx=>gi x k λan ao ap aq=>∃G:Int,x.cell? q=some (.i G)/\
 ∃H:Int,x.cell? w=some (.i H)/\
 y (ae (.tuple #[.agg #[.i an,.int .u8 ao,.int .u8 ap,aq.v],.i G,.i H])) x) (by kernel_rfl) rfl (by kernel_rfl)
  (λh j a A=>(rv F.heap.size y _ _ (mp j)) a A)
  (λ_ _ j=>j.elim)
  (λh j a A=>Hm A (mp j))
  (λI am=>Q (lo I) (λK L M N O w_ K_ af ad=>agf (args:=[.agg #[.int .u8 K,.int .u8 L,.int .u8 M,.string N,.i O]]) am af rfl (by kernel_rfl) (λ_ _ z=>z) (WR _ I C k q w B D K L M N O w_ _ ad)))) (d.cons ag (d.cons ai (d.cons aj (d.cons ak (d.cons al (d.cons ah d.nil))))))
noncomputable def rj:=C1.fs
noncomputable def rk:=rj.sn
noncomputable def tE:=rk.fs
noncomputable def Ct:=tE.sn
noncomputable def Cu:=rk.sn
def ok(j:ByteArray)(w:J)(R:aJ)(h:dz w (.cells #[.i 0,.int .u8 0,.int .u8 0,.slice none 0 0] aZ) λk=>
 dz k (.cells #[.i 0] b') λq=>
 dz q (.cells #[.i 0] VG) λA=>
 bt (au ((j.size:Int)>4096)) (ma A (nb w) (.i 0) (.int .u8 0) (.int .u8 0) (.slice none 0 0) λS=>aS S (nb k) (.i 4096) λT=>
 aS T (nb q) (.i 4) λx=>
 gi x (nb w) λD F G H=>∃B:Int,x.cell? (nb k)=some (.i B)/\
 ∃C:Int,x.cell? (nb q)=some (.i C)/\
 R (ae (.tuple #[.agg #[.i D,.int .u8 F,.int .u8 G,H.v],.i B,.i C])) x) (dz A (.cells #[.i (-1),.slice none 0 0,.slice none 0 0,.slice none 0 0,.slice none 0 0,.i 0,.i 0,.int .u8 0,.int .u8 0,.slice none 0 0] iJ) λz=>
 dz z (.cells #[.slice none 0 0,.i 0,.i 0] yV) λO=>
 UB O (nb z) (.slice (some (nb A)) 1 1) (.i 0) (.i 0) λP=>YL PN #[.string j] P λt16 Q=>W.zu sw (some t16) λM K=>W.uc M<|W.qe K λN L=>W.cK (some N) λI=>W.uc L<|S0 j (nb w) (nb k) (nb q) (nb z) I Q R)):aj V Pv #[.string j] w R:=
 YS (R:=R) (fn:=Tryz.f188) (c:=C0) (args:=[.string j]) (by kernel_rfl) (by kernel_rfl) (by kernel_rfl) (sr C0 (show(λ(E:Env) (w:J)=>dY V C0 (λE w=>dY V rj (λE w=>gX (Env.val E (.tmp 10)) (dY V tE (λE w=>lW V Tryz.f188 E w (λv=>R (ae v) w)) E w) (dY V C2 (λE w=>dY V C4 (λE w=>CM E w R) E w) E w)) E w) E w) (kS 0 [.string j]) w from mp h) λ_ _ d=>(sq C1 (sr rj d λ_ _ d=>(cn rk d (λd=>(sr tE d λ_ _ d=>(rt Ct λa y=>adN y d))) (λd=>(sk Cu λa y=>nx y (sr C2 d λ_ _ d=>(sq C3 (sr C4 d λ_ _ d=>(bk C5 0 (by kernel_rfl) (Wr R _ _ d)))))))))))
end Hd
abbrev ew:=Sl×List aa
def _root_.Go.W.En.rows(k:List ew):En:=⟨kp (k.flatMap λp:ew=>ax p.1),λq=>(∀p∈k,aF q aZ 4 p.1 p.2)/\(k.flatMap λp:ew=>ax p.1).Nodup,
 λq y w j=>⟨λp h=>(j.1 p h).cC λb d x=>w b (a0.2 (bX.2 ⟨p,h,d⟩)) x,j.2⟩,
 λq j b d=>by obtain⟨p,h,d⟩:=bX.1 (a0.1 d);exact(j.1 p h).lt b d,pn _⟩
def TD(h:List ew)(y:h≠[])(w:J)(b:Nat)(d:b∈(En.rows h).fp):¬(En.rows h).P ({w with heap:=Array.replicate (b+1) (.map #[] 0)}):=by
 rintro⟨j,_⟩;obtain⟨p,k,d⟩:=bX.1 (a0.1 d);obtain⟨q,f,x⟩:=(j p k).row.v3 b d
 grind
section
variable {M:Nat->Prop} {w0 w:J} {L D:List En} {bs:List Nat}
def L7(H:LH M w0 w L D){i:Nat}{d:List ew}(hi:L[i]? =some (.rows d)){b:Nat}(x:En.g b∈L):b∉(En.rows d).fp:=by
 intro j;obtain⟨z,h⟩:=hO.1 x;by_cases k:i=z
 .subst k;rw[hi]at h;have q:En.rows d=En.g b:=e5 h;have y:d≠[]:=by rintro rfl;simp[En.rows,kp]at j
  refine TD d y w b j ?_;rw[q];show b<_;simp
 .exact n4 H.nd hi h k b j (by simp[En.g])
def ZQ{d:List ew}{j:Nat}{s s':Sl}{vs y:List aa}(k:d[j]? =some (s,vs))(q:(d.flatMap λp:ew=>ax p.1).Nodup)(w:(ax s').Nodup)(x:∀h∈ax s',h∈ax s\/h∉d.flatMap λp:ew=>ax p.1):((d.set j (s',y)).flatMap λp:ew=>ax p.1).Nodup:=
 Gv (f:=λp:ew=>ax p.1) k q w x
def Xy(s:Sl):(ax s).Nodup:=by unfold ax;grind
def AB{α:Type}{l:List α}{j:Nat}{a x:α}(h:x∈l.set j a):x=a\/∃i,i≠j/\l[i]? =some x:=by
 obtain⟨i,d⟩:=hO.1 h
 grind
def TB{d:List ew}(k:(d.flatMap λp:ew=>ax p.1).Nodup):∀{i j:Nat} {p h:ew},d[i]? =some p->d[j]? =some h->i≠j->∀b∈ax p.1,b∉ax h.1:=by
 induction d with
 |nil=>grind
 |cons a l q=>
  rw[cU,ho]at k
  grind
def Hs(H:LH M w0 w L D){Y:J}(i j:Nat){d:List ew}{s s':Sl}{vs B:List aa}(hi:L[i]? =some (.rows d))(y:d[j]? =some (s,vs))(f:Fr (λb=>b∈ax s) w Y)(K:aF Y aZ 4 s' B)(k:∀b∈ax s',b∈ax s\/w.heap.size<=b):
  LH M w0 Y (L.set i (.rows (d.set j (s',B)))) D:=by
 have q:(En.rows d).P w:=H.get i hi;have N:∀b∈ax s,b∈(En.rows d).fp:=λb k=>a0.2 (bX.2 ⟨_,aG y,k⟩);have S:∀b∈d.flatMap (λp:ew=>ax p.1),b<w.heap.size:=λb k=>(En.rows d).lt w q b (a0.2 k);refine H.ha i _ hi (f.mono λA _ z=>N A z) ⟨λp h=>?_,ZQ y q.2 (Xy _) λA z=>(k A z).imp id λQ h=>by grind⟩ λb h=>?_
 .rcases AB h with rfl|⟨O,G,x⟩
  .exact K
  .exact (q.1 p (aG x)).cC λb C I=>f.cC b I λF=>TB q.2 x y G b C F
 .obtain ⟨p,h,E⟩:=bX.1 (a0.1 h);rcases AB h with rfl|⟨O,_,x⟩
  .grind
  .exact .inl (a0.2 (bX.2 ⟨p,aG x,E⟩))
def _root_.Go.W.LH.zq(H:LH M w0 w L D)(i j:Nat){ty:TypeId}{k:List ew}{s src:Sl}{vs news:List aa}{K:Sl->J->Prop}(hi:L[i]? =some (.rows k))(q:k[j]? =some (s,vs))(z:bL 4 w src news)(G:∀u∈news,u.oneCell'=true)(N:(s.n+src.n) *40<=140737488355328)(I:∀d h,LH M w0 h (L.set i (.rows (k.set j (d,vs++news)))) D->d.n=s.n+src.n->(d.a=none->s.a=none/\src.n=0)->K d h)(bF:∀b∈bs,En.g b∈L:=by simp):
  ∃d h,(eu #[i',i'] ty #[s.v,src.v]).run V w=.ok d.v h/\kept bs w h/\K d h:=by have Q:(En.rows k).P w:=H.get i hi;obtain⟨d,h,A,B,C,x,E,F⟩:=zt (ty:=ty) rZ (Q.1 _ (aG q)) z.2.2 z.1 G N;refine⟨d,h,A,λb y=>?_,I d h (Hs H i j hi q x B E) C F⟩;refine x.cC b (H.own _ (bF b y)) λO=>?_;exact L7 H hi (bF b y) (a0.2 (bX.2 ⟨_,aG q,O⟩))
def _root_.Go.W.LH.BK(H:LH M w0 w L D)(i j a c:Nat){h:List ew}{s:Sl}{vs:List aa}{v:aa}{p:Addr}{K:J->Prop}(hi:L[i]? =some (.rows h))(k:h[j]? =some (s,vs))(F:s.a=some p)(C:a+c<vs.length)(A:∀x,LH M w0 x (L.set i (.rows (h.set j (s,vs.set (a+c) v)))) D->K x)(bF:∀b∈bs,En.g b∈L:=by simp):aS w ((p.add a).add c) v λy=>kept bs w y/\K y:=by have B:(En.rows h).P w:=H.get i hi;obtain⟨Q,q,O,G,I,N,z⟩:=GN (B.1 _ (aG k)) (a+c) C v;rw[F]at q;cases q;rw[add_add];refine⟨G,I,λb d=>?_,A _ (Hs H i j hi k z N λb d=>.inl d)⟩;exact z.cC b (H.own _ (bF b d)) λE=>L7 H hi (bF b d) (a0.2 (bX.2 ⟨_,aG k,E⟩))
def _root_.Go.W.LH.E2(H:LH M w0 w L D)(i j:Nat){q:List ew}{s:Sl}{vs:List aa}(hi:L[i]? =some (.rows q))(x:q[j]? =some (s,vs)):LH M w0 w (L.set i (.rows (q.set j (⟨none,0,0⟩,[])))) (D++[.bd 4 s vs]):=by
 have E:(En.rows q).P w:=H.get i hi;have h:=Hs H i j hi x (Fr.refl _ _) (aF.nil w aZ 4) (λb k=>by simp[ax]at k);have N:∀b∈ax s,b∈(En.rows q).fp:=λb k=>a0.2 (bX.2 ⟨_,aG x,k⟩);have Q:i<L.length:=(cV.1 hi).1;refine⟨h.fr,h.own,λe d=>?_,h.new,h.nd,λe d b k F C y=>?_⟩
 .rcases aW.1 d with d|d
  .exact h.rd e d
  .simp at d;subst d;exact(E.1 _ (aG x)).bd
 .rcases aW.1 d with d|d
  .exact h.dj e d b k F C y
  .simp at d;subst d;have B:b∈ax s:=gM (e:=aZ) k;rcases AB C with rfl|⟨O,z,G⟩
   .obtain ⟨S,K,A⟩:=bX.1 (a0.1 y);rcases AB K with rfl|⟨O,z,I⟩
    .simp [ax]at A
    .exact TB E.2 I x z b A B
   .exact n4 H.nd hi G (λe=>z e.symm) b (N b B) y
end
structure FX where
 k:Int
 ar:Sl×List Rx
 al:List Rx
 an:List Rx
 ca:List Rx
 n:Nat
 la:Rx
structure FM where
 k:Int
 ar:Sl×List I
 al:Sl×List I
 an:Sl×List I
 ca:Sl×List I
 n:Nat
 la:I
def FM.x(f:FM):FX:=⟨f.k,(f.ar.1,I.aw f.ar.2),I.aw f.al.2,I.aw f.an.2,I.aw f.ca.2,f.n,f.la.rx⟩
def FM.c(f:FM):List aa:=[.int .i64 f.k,f.ar.1.v,f.al.1.v,f.an.1.v,f.ca.1.v,.int .i64 (f.n:Int),.int .i64 f.la.k,.int .u8 (f.la.lo.toNat:Int),.int .u8 (f.la.hi.toNat:Int),f.la.s.v]
def FM.rows(f:FM):List ew:=[(f.ar.1,f.ar.2.flatMap I.c),(f.al.1,f.al.2.flatMap I.c),(f.an.1,f.an.2.flatMap I.c),(f.ca.1,f.ca.2.flatMap I.c)]
def FM.U(f:FM):List I:=f.ar.2++f.al.2++f.an.2++f.ca.2++[f.la]
def FM.ka(f:FM):f.c.length=10:=rfl
def qp(d:List FM):(d.flatMap FM.c).length=d.length *10:=qn FM.c 10 FM.ka d
abbrev SL(rb:Nat)(sl:Sl)(st h:Int)(cs:List aa)(d:List ew):List En:=[.c rb [sl.v,.int .i64 st,.int .i64 h] yV,.row iJ 10 sl cs,.rows d]
def St(w:J)(rb:Nat)(f0:Addr)(lo:List FX)(j:FX)(st h:Int)(own:List Nat)(U:List I):Prop:=
 ∃(sl:Sl) (d:List FM) (f:FM) (p:Addr),d.map FM.x=lo/\f.x=j/\(∀g∈d++[f],∀t∈g.U,t∈U)/\sl.a=some p/\f0=p.add (d.length *10)/\
  own=(SL rb sl st h ((d++[f]).flatMap FM.c) ((d++[f]).flatMap FM.rows)).flatMap (·.fp)/\own.Nodup/\(∀e∈SL rb sl st h ((d++[f]).flatMap FM.c) ((d++[f]).flatMap FM.rows),e.P w)/\I.Ps w U/\∀b∈I.be U,b∉own
def iN(w:J)(own:List Nat)(U:List I)(rb:Nat)(f0:Addr)(lo:List FX)(k:FX)(st q:Int)(A:List I->Prop)(Y:J):Prop:=∃h d,St Y rb f0 lo k st q h d/\Fr (·∈own) w Y/\(∀j∈h,j∈own\/w.heap.size<=j)/\(∀b∈I.be d,b∈I.be U\/b∈own\/w.heap.size<=b)/\(∀t∈U,t∈d)/\A d
def iN.then{w z Y:J}{own x:List Nat}{U k:List I}{rb:Nat}{f0:Addr}{lo:List FX}{y:FX}{st B:Int}{A:List I->Prop}(j:Fr (·∈own) w z)(K:∀d∈x,d∈own\/w.heap.size<=d)(S:∀b∈I.be k,b∈I.be U\/b∈own\/w.heap.size<=b)(O:∀t∈U,t∈k)(h:iN z x k rb f0 lo y st B A Y):iN w own U rb f0 lo y st B A Y:=by
 obtain⟨M,Q,N,E,L,D,P,C⟩:=h;refine⟨M,Q,N,j.trans E λd q G=>(K d G).resolve_right λh=>co,λd q=>?_,λb F=>?_,λt H=>P t (O t H),C⟩
 .rcases L d q with h|h
  .grind
  .exact .inr (bz j.size h)
 .rcases D b F with h|h|h
  .grind
  .grind
  .exact .inr (.inr (bz j.size h))
def iN.mono{w Y:J}{own:List Nat}{U:List I}{rb:Nat}{f0:Addr}{lo:List FX}{d:FX}{st j:Int}{A B:List I->Prop}(h:iN w own U rb f0 lo d st j A Y)(y:∀l,A l->B l):iN w own U rb f0 lo d st j B Y:=by obtain⟨C,F,D,x,z,q,E,k⟩:=h;exact⟨C,F,D,x,z,q,E,y _ k⟩
def St.wM{w:J}{rb:Nat}{sl:Sl}{d:List FM}{f:FM}{U:List I}{st j:Int}{own:List Nat}(x:own=(SL rb sl st j ((d++[f]).flatMap FM.c) ((d++[f]).flatMap FM.rows)).flatMap (·.fp))(y:own.Nodup)(z:∀e∈SL rb sl st j ((d++[f]).flatMap FM.c) ((d++[f]).flatMap FM.rows),e.P w)(A:I.Ps w U)(q:∀b∈I.be U,b∉own):
  LH (·∈own) w w (SL rb sl st j ((d++[f]).flatMap FM.c) ((d++[f]).flatMap FM.rows)) [.trees U]:=by
 refine LH.s9 _ _ (λe h=>⟨z e h,λb k=>by grind⟩) (x▸y) λe h=>?_;simp only[aq,aL,aR]at h;subst h;refine⟨A,λb k B D C=>q b (a0.1 k) ?_⟩
 grind
def St.of{w Y:J}{rb:Nat}{f0:Addr}{sl:Sl}{d:List FM}{f:FM}{U h:List I}{st z:Int}{own:List Nat}{p:Addr}{D:List En}{A:List I->Prop}(H:LH (·∈own) w Y (SL rb sl st z ((d++[f]).flatMap FM.c) ((d++[f]).flatMap FM.rows)) D)(i:Nat)(y:D[i]? =some (.trees h))(G:∀g∈d++[f],∀t∈g.U,t∈h)(F:sl.a=some p)(B:f0=p.add (d.length *10))(j:∀b∈I.be h,b∈I.be U\/b∈own\/w.heap.size<=b)(K:∀t∈U,t∈h)(C:A h):
  iN w own U rb f0 (d.map FM.x) f.x st z A Y:=by
 refine⟨_,h,⟨sl,d,f,p,rfl,rfl,G,F,B,rfl,H.nd,H.own,H.getD i y,λb j E=>?_⟩,H.fr,λM L=>?_,j,K,C⟩
 .obtain ⟨e,q,k⟩:=bX.1 E;exact H.dj _ (aG y) b (a0.2 j) e q k
 .obtain ⟨e,q,k⟩:=bX.1 L;exact(H.new e q M k).symm
section
variable {M:Nat->Prop} {w0 w:J} {L D:List En} {bs:List Nat}
def _root_.Go.W.LH.g3(H:LH M w0 w L D)(i:Nat){sl:Sl}{d:List FM}{f:FM}{p:Addr}(hi:L[i]? =some (.row iJ 10 sl ((d++[f]).flatMap FM.c)))(y:sl.a=some p)(j:Nat){v:aa}(z:f.c[j]? =some v:=by rfl):w.cell? ((p.add (d.length *10)).add j)=some v:=by
 have x:aF w iJ 10 sl ((d++[f]).flatMap FM.c):=H.get i hi;have q:((d++[f]).flatMap FM.c)[d.length *10+j]? =some v:=by
  rw[de,List.getElem?_append_right (by rw[qp];omega),qp]
  grind
 obtain⟨A,h,k⟩:=x.bd.2.2.2 _ _ q;rw[y]at h;cases h;rw[add_add];exact k
def Z1(d:List FM)(f k:FM)(j:Nat)(v:aa)(q:j<10)(h:f.c.set j v=k.c):((d++[f]).flatMap FM.c).set (d.length *10+j) v=(d++[k]).flatMap FM.c:=by
 rw[de,de,List.set_append,ag (by rw[qp];omega),qp]
 grind
def _root_.Go.W.LH.i5(H:LH M w0 w L D)(i:Nat){sl:Sl}{d:List FM}{f:FM}{p:Addr}{K:J->Prop}{v:aa}(k:FM)(j:Nat)(hi:L[i]? =some (.row iJ 10 sl ((d++[f]).flatMap FM.c)))(B:sl.a=some p)(A:j<10)(z:f.c.set j v=k.c)(y:∀h,LH M w0 h (L.set i (.row iJ 10 sl ((d++[k]).flatMap FM.c))) D->K h)(bF:∀b∈bs,En.g b∈L:=by simp):aS w ((p.add (d.length *10)).add j) v λx=>kept bs w x/\K x:=
 H.oJ i (d.length *10) j hi B (by rw[qp];grind) (λh q=>y h (by rw[Z1 d f k j v A z]at q;exact q)) bF
def HQ{w:J}{p:Addr}{v:aa}{K:J->Prop}(h:aS w p v λd=>kept [] w d/\K d):aS w p v K:=aeH h λ_ h=>h.2
end
def Hq:∀d:List FM,(d.flatMap FM.rows).length=d.length *4
 |[]=>rfl
 |f::d=>by have:=Hq d;simp only[cU,List.length_append,List.length_cons];have:f.rows.length=4:=rfl;omega
def Hr(d:List FM)(f:FM)(j:Nat)(x:ew)(h:j<4):((d++[f]).flatMap FM.rows).set (d.length *4+j) x=d.flatMap FM.rows++f.rows.set j x:=by
 have k:=Hq d
 grind
def qT(d:List FM)(f:FM)(j:Nat)(x:ew)(k:f.rows[j]? =some x):((d++[f]).flatMap FM.rows)[d.length *4+j]? =some x:=by
 have h:=Hq d
 grind
def gj(k:Int)(s:Sl)(U:List I):I:=match U with |[d]=>d|l=>.mk k 0 0 s l
def pq(k:Int)(l:List Rx):Rx:=match l with |[d]=>d|l=>.mk k 0 0 l
def GD(k:Int)(s:Sl)(U:List I):(gj k s U).rx=pq k (I.aw U):=by
 match U with
 |[]=>rfl
 |[d]=>rfl
 |d::h::l=>rfl
def acK{k:Int}{s:Sl}{U:List I}{b:Nat}(h:b∈(gj k s U).fp):b∈(I.row s U).fp\/b∈I.be U:=by
 match U,h with
 |[],h=>exact I.gG.1 (show b∈(I.mk k 0 0 s []).fp from h)
 |[x],h=>exact .inr (I.bZ.2 ⟨x,ws,h⟩)
 |x::d::l,h=>exact I.gG.1 (show b∈(I.mk k 0 0 s (x::d::l)).fp from h)
def DO(k:Int)(s:Sl)(U:List I)(w:J)(h:bL 4 w s (U.flatMap I.c)):aj V AN #[.int .i64 k,s.v] w λr B=>r=ae (gj k s U).v/\af w B:=by
 have y:=I.cH h;refine Tf.aD _ _ w _ ((bN [I.row s U] (by intro e x;simp only[aq,aL,aR]at x;subst x;exact h)).aK λD F d=>aO (λz=>⟨co,co,?_⟩) (λz=>d.ai λC j=>⟨?_,j.fr⟩))
 .have A:U.length=1:=co
  obtain⟨q,rfl⟩:=List.length_eq_one_iff.1 A;refine I.dy (d.getD 0) (i:=0) (t:=q) rfl λp E c=>⟨_,_,_,_,c.c0,c.c1,c.c2,c.c3,d.ai λC j=>⟨rfl,j.fr⟩⟩
 .match U,y with
  |[],_=>rfl
  |[q],y=>grind
  |q::G::l,_=>rfl
section
variable {M:Nat->Prop} {w0 w:J} {L D:List En} {bs:List Nat}
def _root_.Go.W.LH.node(H:LH M w0 w L D)(i:Nat){U ks:List I}{s:Sl}(k:Int)(lo hi:UInt8)(q:D[i]? =some (.trees U))(y:I.row s ks∈D)(x:∀t∈ks,t∈U):LH M w0 w L [.trees (U++[.mk k lo hi s ks])]:=by
 have z:I.Ps w U:=H.getD i q;have B:=H.gz (.trees (U++[.mk k lo hi s ks])) (Fr.refl _ _) (I.i0 λt d=>?_) λb C=>.inr (.inr ?_)
 .exact B.forget _ ws
 .rcases aW.1 d with d|d
  .exact z.mem d
  .simp at d;subst d;unfold I.P;exact⟨H.rd _ y,I.i0 λt d=>z.mem (x t d)⟩
 .obtain ⟨t,d,j⟩:=I.bZ.1 (a0.1 C);rcases aW.1 d with d|d
  .exact ⟨_,aG q,a0.2 (I.bZ.2 ⟨t,d,j⟩)⟩
  .simp at d;rw[d]at j;rcases I.gG.1 j with h|h
   .exact ⟨_,y,h⟩
   .obtain ⟨A,F,E⟩:=I.bZ.1 h;exact⟨_,aG q,a0.2 (I.bZ.2 ⟨A,x A F,E⟩)⟩
def _root_.Go.W.LH.Rl(H:LH M w0 w L D)(i:Nat){U ks:List I}{s:Sl}(k:Int)(q:D[i]? =some (.trees U))(j:I.row s ks∈D)(h:∀t∈ks,t∈U):LH M w0 w L [.trees (U++[gj k s ks])]:=by
 match ks,j,h with
 |[],j,h=>exact H.node i k 0 0 q j h
 |x::E::l,j,h=>exact H.node i k 0 0 q j h
 |[x],j,h=>
  have A:I.Ps w U:=H.getD i q;have z:=h x ws;have B:=H.gz (.trees (U++[x])) (Fr.refl _ _) (I.i0 λt d=>?_) λb C=>.inr (.inr ?_)
  .exact B.forget _ (by simp[gj])
  .rcases aW.1 d with d|d
   .exact A.mem d
   .simp at d;subst d;exact A.mem z
  .obtain ⟨t,d,y⟩:=I.bZ.1 (a0.1 C);rcases aW.1 d with d|d
   .exact ⟨_,aG q,a0.2 (I.bZ.2 ⟨t,d,y⟩)⟩
   .simp at d;rw[d]at y;exact⟨_,aG q,a0.2 (I.bZ.2 ⟨x,z,y⟩)⟩
abbrev z4:List aa:=[.int .i64 0,.int .u8 0,.int .u8 0,.slice none 0 0]
def zr(vs u:List aa)(n j:Nat)(v:aa)(d:vs.length=n):(vs++u).set (n+j) v=vs++u.set j v:=by grind
def _root_.Go.W.LH.vv(H:LH M w0 w L D)(i j n:Nat){d:List ew}{s:Sl}{vs:List aa}{p:Addr}{K:J->Prop}(t:I)(hi:L[i]? =some (.rows d))(Y:d[j]? =some (s,vs++z4))(E:s.a=some p)(C:vs.length=n *4)(hK:∀w',LH M w0 w' (L.set i (.rows (d.set j (s,vs++t.c)))) D->K w')(bF:∀b∈bs,En.g b∈L):
  aS w (p.add (a5 (n:Int) *4)) (.int .i64 t.k) λz=>kept bs w z/\aS z ((p.add (a5 (n:Int) *4)).add 1) (.int .u8 (t.lo.toNat:Int)) λh=>kept bs z h/\aS h ((p.add (a5 (n:Int) *4)).add 2) (.int .u8 (t.hi.toNat:Int)) λq=>kept bs h q/\aS q ((p.add (a5 (n:Int) *4)).add 3) t.s.v λA=>kept bs q A/\K A:=by
 rw[Int.toNat_natCast];have ah:i<L.length:=(cV.1 hi).1;have ai:j<d.length:=(cV.1 Y).1;have G:∀{L':List En} (e:En),L'.length=L.length->(L'.set i e)[i]? =some e:=λ{L'} e hl=>by grind
 have F:∀(B:List ew) (x:ew),B.length=d.length->(B.set j x)[j]? =some x:=λB x hl=>by grind
 have N:∀{b:Nat},En.g b∈L->∀(B:List ew),En.g b∈L.set i (.rows B):=λ{b} y B=>by
  obtain⟨ab,Z⟩:=hO.1 y;by_cases ad:i=ab
  .subst ad;exfalso;rw[hi]at Z;have hP:(En.rows d).P w:=H.get i hi;have U:En.rows d=En.g b:=e5 Z;have ag:(En.rows d).fp=[b]:=by rw[U];rfl
   have ac:b∈(En.rows d).fp:=by grind
   have ae:d≠[]:=by grind
   refine TD d ae w b ac ?_;rw[U];show b<_;simp
  .exact hO.2 ⟨ab,by grind⟩
 have af:=H.BK (bs:=bs) i j (n *4) 0 (v:=.int .i64 t.k) (K:=λz=>aS z ((p.add (n *4)).add 1) (.int .u8 (t.lo.toNat:Int)) λh=>kept bs z h/\aS h ((p.add (n *4)).add 2) (.int .u8 (t.hi.toNat:Int)) λq=>kept bs h q/\aS q ((p.add (n *4)).add 3) t.s.v λA=>kept bs q A/\K A) hi Y E (by grind) ?_ bF
 .rw [jg]at af;omega
 intro z O;rw[zr vs z4 (n *4) 0 _ C]at O;refine O.BK (bs:=bs) i j (n *4) 1 (G _ rfl) (F _ _ rfl) E (by grind) ?_ (λb y=>N (bF b y) _);intro h Q;rw[zr vs _ (n *4) 1 _ C,List.set_set,List.set_set]at Q;refine Q.BK (bs:=bs) i j (n *4) 2 (G _ rfl) (F _ _ rfl) E (by grind) ?_ (λb y=>N (bF b y) _);intro q S;rw[zr vs _ (n *4) 2 _ C,List.set_set,List.set_set]at S;refine S.BK (bs:=bs) i j (n *4) 3 (G _ rfl) (F _ _ rfl) E (by grind) ?_ (λb y=>N (bF b y) _);intro A T;rw[zr vs _ (n *4) 3 _ C,List.set_set,List.set_set]at T;exact hK A T
def _root_.Go.W.LH.M5(H:LH M w0 w L D)(i:Nat){sl:Sl}{d:List FM}{f:FM}{p:Addr}(hi:L[i]? =some (.row iJ 10 sl ((d++[f]).flatMap FM.c)))(h:sl.a=some p):
  w.cell? (((p.add (d.length *10)).add 6).add 0)=some (.int .i64 f.la.k)/\w.cell? (((p.add (d.length *10)).add 6).add 1)=some (.int .u8 (f.la.lo.toNat:Int))/\w.cell? (((p.add (d.length *10)).add 6).add 2)=some (.int .u8 (f.la.hi.toNat:Int))/\w.cell? (((p.add (d.length *10)).add 6).add 3)=some f.la.s.v:=by
 refine⟨?_,?_,?_,?_⟩
 .rw [jg];exact H.g3 i hi h 6
 .rw [add_add];exact H.g3 i hi h 7
 .rw [add_add];exact H.g3 i hi h 8
 .rw [add_add];exact H.g3 i hi h 9
end
def om:Nat->Rx->Rx
 |0,r=>r
 |n+1,r=>om n (.mk 6 0 0 [r])
def lJ(f:FX):FX:=⟨f.k,f.ar,f.al,f.an,f.ca++[om f.n f.la],0,f.la⟩
def Jr{w:J}{rb:Nat}{f0:Addr}{lo:List FX}{W:FX}{st D:Int}{own:List Nat}{U:List I}(h:St w rb f0 lo W st D own U)(hn:W.n<=1000000)(hc:W.ca.length<=1000000):
  aj V PG #[.pointer (some f0)] w λr Y=>r=ae (.tuple #[])/\iN w own U rb f0 lo (lJ W) st D (λ_=>True) Y:=by
 obtain⟨sl,d,f,p,rfl,rfl,K,y,rfl,h6,h7,h8,h9,ap⟩:=h;have ad:=St.wM h6 h7 h8 h9 ap;have au:f.la∈U:=K f ws _ (by simp[FM.U]);have ay:f.ca.2.length<=1000000:=by
  have:f.x.ca.length=f.ca.2.length:=by show(I.aw f.ca.2).length=_;rw[I.fP];simp
  omega
 have loop:∀(m:Nat) (r:I) (B:List I) (b2:Nat) (C:J),m<=1000000->(∀t∈U,t∈B)->(∀b∈I.be B,b∈I.be U\/b∈own\/w.heap.size<=b)->r∈B->om m r.rx=om f.n f.la.rx->
   LH (·∈own) w C (SL rb sl st D ((d++[(⟨f.k,f.ar,f.al,f.an,f.ca,m,f.la⟩:FM)]).flatMap FM.c) ((d++[f]).flatMap FM.rows)++[.g b2]) [.trees B]->
   yn.a8 (p.add (d.length *10)) b2 r.k r.lo.toNat r.hi.toNat r.s C λr Y=>r=ae (.tuple #[])/\iN w own U rb (p.add (d.length *10)) (d.map FM.x) (lJ f.x) st D (λ_=>True) Y:=by
  intro m;induction m with
  |zero=>
   intro r B b2 C _ H T hr he z;refine yn.bJ _ _ _ _ _ _ _ _ ⟨0,z.g3 1 rfl y 5,aP rfl (z.ai λO E=>⟨_,E.g3 1 rfl y 4,?_⟩)⟩;have am:((d++[f]).flatMap FM.rows)[d.length *4+3]? =some (f.ca.1,f.ca.2.flatMap I.c):=qT d f 3 _ rfl;have nr:f.ca.1.n=f.ca.2.length:=by have hp:(En.rows ((d++[f]).flatMap FM.rows)).P O:=E.get 2;exact I.cH (hp.1 _ (aG am)).bd
   refine E.cZ (e:=aZ) (sz:=4) (n:=1) (cs:=z4) rfl md λw3 F=>⟨F.g3 1 rfl y 4,?_⟩;refine F.zq (bs:=[b2]) 2 (d.length *4+3) (src:=⟨some (ab O.heap.size),1,1⟩) (news:=z4) rfl am (aF.bd (F.get 4)) (by simp[Value.oneCell']) (by grind) (λq Z Q ak az=>⟨co,by grind,?_⟩);obtain⟨ac,hq⟩:∃ac,q.a=some ac:=by
    cases hs:q.a with
    |none=>grind
    |some ac=>grind
   rw[hq];have ag:d.length *4+3<((d++[f]).flatMap FM.rows).length:=by grind
   have S:LH (·∈own) w Z (SL rb sl st D ((d++[(⟨f.k,f.ar,f.al,f.an,f.ca,0,f.la⟩:FM)]).flatMap FM.c) (((d++[f]).flatMap FM.rows).set (d.length *4+3) (q,f.ca.2.flatMap I.c++z4))++[.g b2]) [.trees B]:=Q.take 4;have fin:∀{Y:J},LH (·∈own) w Y (SL rb sl st D ((d++[(⟨f.k,f.ar,f.al,f.an,(q,f.ca.2++[r]),0,f.la⟩:FM)]).flatMap FM.c) (((d++[f]).flatMap FM.rows).set (d.length *4+3) (q,f.ca.2.flatMap I.c++r.c))++[.g b2]) [.trees B]->
     (Ending.returned (.tuple #[])=ae (.tuple #[])/\iN w own U rb (p.add (d.length *10)) (d.map FM.x) (lJ f.x) st D (λ_=>True) Y):=λ{Y} H'=>by
    refine⟨rfl,?_⟩;have e1:((d++[f]).flatMap FM.rows).set (d.length *4+3) (q,f.ca.2.flatMap I.c++r.c)=(d++[(⟨f.k,f.ar,f.al,f.an,(q,f.ca.2++[r]),0,f.la⟩:FM)]).flatMap FM.rows:=by rw[Hr d f 3 _ co,de];congr 1;simp[FM.rows]
    rw[e1]at H';have:=St.of (U:=U) (A:=λ_=>True) (f0:=p.add (d.length *10)) (H'.take 3) 0 rfl (λg N t j=>?_) y rfl T H trivial
    .have e2:(FM.x ⟨f.k,f.ar,f.al,f.an,(q,f.ca.2++[r]),0,f.la⟩)=lJ f.x:=by
      unfold FM.x lJ;simp only[ku];have:I.aw [r]=[om f.n f.la.rx]:=by rw[<-he];rfl
      grind
     grind
    .rcases aW.1 N with N|N
     .grind
     .simp at N;subst N;simp only[FM.U,aW,aq,aL,aR]at j;rcases j with(((j|j)|j)|(j|rfl))|rfl
      .exact H t (K f ws t (by simp[FM.U,j]))
      .exact H t (K f ws t (by simp[FM.U,j]))
      .exact H t (K f ws t (by simp[FM.U,j]))
      .exact H t (K f ws t (by simp[FM.U,j]))
      .exact hr
      grind
   refine⟨?_,?_⟩
   .rw [nr];refine S.vv (bs:=[b2]) 2 (d.length *4+3) f.ca.2.length r rfl (kq ag) hq (I.e7 _) (λY G=>?_) ws;rw[List.set_set]at G;exact G.i5 (bs:=[b2]) (f:=⟨f.k,f.ar,f.al,f.an,f.ca,0,f.la⟩) 1 ⟨f.k,f.ar,f.al,f.an,(q,f.ca.2++[r]),0,f.la⟩ 4 rfl y co rfl (λav H7=>fin H7) ws
   .refine S.i5 (bs:=[b2]) (f:=⟨f.k,f.ar,f.al,f.an,f.ca,0,f.la⟩) 1 ⟨f.k,f.ar,f.al,f.an,(q,f.ca.2++[r]),0,f.la⟩ 4 rfl y co rfl (λY G=>?_) ws;rw[nr];refine LH.vv (bs:=[b2]) (L:=SL rb sl st D ((d++[(⟨f.k,f.ar,f.al,f.an,(q,f.ca.2++[r]),0,f.la⟩:FM)]).flatMap FM.c) (((d++[f]).flatMap FM.rows).set (d.length *4+3) (q,f.ca.2.flatMap I.c++z4))++[.g b2]) G 2 (d.length *4+3) f.ca.2.length r rfl (kq ag) hq (I.e7 _) (λav H7=>?_) ws;rw[List.set_set]at H7
    grind
  |succ m ih=>
   intro r B b2 C hm H T hr he z;refine yn.bJ _ _ _ _ _ _ _ _ ⟨((m+1:Nat):Int),z.g3 1 rfl y 5,aM (aQ co) ?_⟩;refine z.cZ (e:=aZ) (sz:=4) (n:=1) (cs:=r.c) rfl md λO E=>E.ai (bs:=[b2]) (λw3 F=>⟨_,F.g3 1 rfl y 5,?_⟩) ws;have e:ah .i64 (((m+1:Nat):Int) - 1)=(m:Int):=by rw[aN _ co];omega
   show aS w3 _ (.int .i64 (ah .i64 (((m+1:Nat):Int) - 1))) _;rw[e];refine F.i5 (bs:=[b2]) (f:=⟨f.k,f.ar,f.al,f.an,f.ca,m+1,f.la⟩) 1 ⟨f.k,f.ar,f.al,f.an,f.ca,m,f.la⟩ 5 rfl y co rfl (λZ Q=>?_) ws;have S:=Q.freeze 4 (I.row ⟨some (ab C.heap.size),1,1⟩ [r]) rfl (by show bL 4 Z _ ([r].flatMap I.c);rw[show[r].flatMap I.c=r.c by simp];exact aF.bd (Q.get 4)) (λb M=>gM (e:=aZ) (vs:=[r].flatMap I.c) M);have G:=S.node 0 6 0 0 (s:=⟨some (ab C.heap.size),1,1⟩) (ks:=[r]) rfl ws (λt j=>by grind);refine ih (.mk 6 0 0 ⟨some (ab C.heap.size),1,1⟩ [r]) _ b2 Z co (λt j=>by grind) (λb M=>?_) ws he G;obtain⟨t,j,aa⟩:=I.bZ.1 M;rcases aW.1 j with j|j
   .exact T b (I.bZ.2 ⟨t,j,aa⟩)
   .simp at j;rw[j]at aa;rcases I.gG.1 aa with h|h
    .have:=gM (e:=aZ) h;simp[En.row,ax,I.s]at this;subst this;exact .inr (.inr z.fr.size)
    .obtain ⟨t',ao,af⟩:=I.bZ.1 h;simp[I.l]at ao;rw[ao]at af;exact T b (I.bZ.2 ⟨r,hr,af⟩)
 obtain⟨c0,c1,c2,c3⟩:=ad.M5 1 rfl y;have ak:f.n<=1000000:=hn;refine yn.aD _ w _ ⟨_,_,_,_,c0,c1,c2,c3,ad.aK (λb2 C z=>z.ai (λO E=>?_) ws) ws⟩;exact loop f.n f.la U b2 O ak (λ_ h=>h) (λb M=>.inl M) au rfl E
def FM.a6(f:FM)(j:Nat):Sl×List I:=if j=1 then f.ar else if j=2 then f.al else if j=3 then f.an else f.ca
def FM.put(f:FM)(j:Nat)(x:Sl×List I):FM:=⟨f.k,if j=1 then x else f.ar,if j=2 then x else f.al,if j=3 then x else f.an,if j=4 then x else f.ca,f.n,f.la⟩
def w6{j:Nat}(w:1<=j)(x:j<=4){p:Nat->Prop}(d:p 1)(h:p 2)(k:p 3)(q:p 4):p j:=by grind
def Kd(f:FM){j:Nat}(d:1<=j)(h:j<=4):f.c[j]? =some (f.a6 j).1.v:=w6 (p:=λj=>f.c[j]? =some (f.a6 j).1.v) d h rfl rfl rfl rfl
def ur(f:FM){j:Nat}(d:1<=j)(h:j<=4):f.rows[j - 1]? =some ((f.a6 j).1,(f.a6 j).2.flatMap I.c):=w6 (p:=λj=>f.rows[j - 1]? =some ((f.a6 j).1,(f.a6 j).2.flatMap I.c)) d h rfl rfl rfl rfl
def yh(f:FM)(x:Sl×List I){j:Nat}(d:1<=j)(h:j<=4):f.c.set j x.1.v=(f.put j x).c:=w6 (p:=λj=>f.c.set j x.1.v=(f.put j x).c) d h rfl rfl rfl rfl
def ac'(f:FM)(x:Sl×List I){j:Nat}(d:1<=j)(h:j<=4):f.rows.set (j - 1) (x.1,x.2.flatMap I.c)=(f.put j x).rows:=w6 (p:=λj=>f.rows.set (j - 1) (x.1,x.2.flatMap I.c)=(f.put j x).rows) d h rfl rfl rfl rfl
def Be(f:FM)(x:Sl×List I){j:Nat}(h:1<=j)(k:j<=4){t:I}(d:t∈(f.put j x).U):t∈f.U\/t∈x.2:=by
 refine w6 (p:=λj=>t∈(f.put j x).U->t∈f.U\/t∈x.2) h k ?_ ?_ ?_ ?_ d<;>
 .intro d;simp[FM.put,FM.U]at d ⊢
  grind
def o1(f:FM)(j:Nat){t:I}(d:t∈(f.a6 j).2):t∈f.U:=by
 unfold FM.a6 at d;unfold FM.U
 grind
def ac9(f:FM)(x:Sl×List I){j i:Nat}(h:i≠j)(hi:1<=i)(d:i<=4):(f.put j x).a6 i=f.a6 i:=by
 have:i=1\/i=2\/i=3\/i=4:=co
 unfold FM.put FM.a6
 grind
section
variable {w0 w:J} {own:List Nat} {rb:Nat} {sl:Sl} {st wd:Int} {fs:List FM} {f:FM} {U:List I} {p:Addr}
abbrev FS(own:List Nat)(w0 w:J)(rb:Nat)(sl:Sl)(st wd:Int)(fs:List FM)(f:FM)(d:List ew)(U:List I):Prop:=LH (·∈own) w0 w (SL rb sl st wd ((fs++[f]).flatMap FM.c) d) [.trees U]
def uS(fs:List FM)(f:FM)(x:Sl×List I){j:Nat}(d:1<=j)(h:j<=4):((fs++[f]).flatMap FM.rows).set (fs.length *4+(j - 1)) (x.1,x.2.flatMap I.c)=(fs++[f.put j x]).flatMap FM.rows:=by rw[Hr fs f (j - 1) _ co,ac' f x d h,de];simp
def Se(H:FS own w0 w rb sl st wd fs f ((fs++[f]).flatMap FM.rows) U)(B:sl.a=some p)(d:Nat)(x:1<=d)(y:d<=4)(t:I)(hb:(f.a6 d).2.length<=1000000){F:J}{src:Sl}(C:LH (·∈own) w0 F (SL rb sl st wd ((fs++[f]).flatMap FM.c) ((fs++[f]).flatMap FM.rows)++[.row aZ 4 src z4]) [.trees U])(ae:src.n=1){K:J->Prop}(hK:∀h q,FS own w0 q rb sl st wd fs (f.put d (h,(f.a6 d).2++[t])) ((fs++[f.put d (h,(f.a6 d).2++[t])]).flatMap FM.rows) U->K q):
  ∃(t15:Sl) (z:J),(eu #[i',i'] i' #[(f.a6 d).1.v,src.v]).run V F=.ok (t15.v) z/\(0:Int)<=(((f.a6 d).1.n:Nat):Int)/\(((f.a6 d).1.n:Nat):Int)<(t15.n:Int)/\dV t15.a λj=>((aS z (j.add (a5 (((f.a6 d).1.n:Nat):Int) *4)) (.int .i64 t.k) λG=>aS G ((j.add (a5 (((f.a6 d).1.n:Nat):Int) *4)).add 1) (.int .u8 (t.lo.toNat:Int)) λM=>aS M ((j.add (a5 (((f.a6 d).1.n:Nat):Int) *4)).add 2) (.int .u8 (t.hi.toNat:Int)) λN=>aS N ((j.add (a5 (((f.a6 d).1.n:Nat):Int) *4)).add 3) t.s.v λO=>aS O ((p.add (fs.length *10)).add d) t15.v K)/\
   (aS z ((p.add (fs.length *10)).add d) t15.v λaa=>aS aa (j.add (a5 (((f.a6 d).1.n:Nat):Int) *4)) (.int .i64 t.k) λG=>aS G ((j.add (a5 (((f.a6 d).1.n:Nat):Int) *4)).add 1) (.int .u8 (t.lo.toNat:Int)) λM=>aS M ((j.add (a5 (((f.a6 d).1.n:Nat):Int) *4)).add 2) (.int .u8 (t.hi.toNat:Int)) λN=>aS N ((j.add (a5 (((f.a6 d).1.n:Nat):Int) *4)).add 3) t.s.v K)):=by
 have W:((fs++[f]).flatMap FM.rows)[fs.length *4+(d - 1)]? =some ((f.a6 d).1,(f.a6 d).2.flatMap I.c):=qT fs f (d - 1) _ (ur f x y);have nr:(f.a6 d).1.n=(f.a6 d).2.length:=by have B:(En.rows ((fs++[f]).flatMap FM.rows)).P F:=C.get 2;exact I.cH (B.1 _ (aG W)).bd
 obtain⟨h,z,h1,_,h3⟩:=C.zq (bs:=[]) (ty:=i') 2 (fs.length *4+(d - 1)) (src:=src) (news:=z4) (K:=λh q=>FS own w0 q rb sl st wd fs f (((fs++[f]).flatMap FM.rows).set (fs.length *4+(d - 1)) (h,(f.a6 d).2.flatMap I.c++z4)) U/\h.n=(f.a6 d).1.n+1/\∃j,h.a=some j) rfl W (aF.bd (C.get 3)) (by simp[Value.oneCell']) co (λh w4 Z ab ad=>⟨Z.take 3,co,by
  cases hs:h.a with
  |none=>grind
  |some j=>grind⟩) ws
 obtain⟨Q,ac,j,E⟩:=h3;refine⟨h,z,h1,co,co,?_⟩;rw[E];have T:fs.length *4+(d - 1)<((fs++[f]).flatMap FM.rows).length:=by grind
 have S:∀(f:FM) (t:I) (d:Nat),(f.a6 d).2.flatMap I.c++t.c=((f.a6 d).2++[t]).flatMap I.c:=λf t d=>ws
 rw[nr];refine⟨?_,?_⟩
 .have st:=LH.vv (bs:=[]) (K:=λO=>aS O ((p.add (fs.length *10)).add d) h.v K) Q 2 (fs.length *4+(d - 1)) (f.a6 d).2.length t rfl (kq T) E (I.e7 _) (λq A=>?_) ws
  .grind
  .rw [List.set_set,S,uS fs f (h,(f.a6 d).2++[t]) x y]at A;exact HQ (A.i5 (bs:=[]) (f:=f) 1 (f.put d (h,(f.a6 d).2++[t])) d rfl B co (yh f (h,(f.a6 d).2++[t]) x y) (λY D=>hK h Y D) ws)
 .refine HQ (Q.i5 (bs:=[]) (f:=f) 1 (f.put d (h,(f.a6 d).2++[t])) d rfl B co (yh f (h,(f.a6 d).2++[t]) x y) (λq A=>?_) ws);have st:=LH.vv (bs:=[]) (K:=K) (L:=SL rb sl st wd ((fs++[f.put d (h,(f.a6 d).2++[t])]).flatMap FM.c) (((fs++[f]).flatMap FM.rows).set (fs.length *4+(d - 1)) (h,(f.a6 d).2.flatMap I.c++z4))) A 2 (fs.length *4+(d - 1)) (f.a6 d).2.length t rfl (kq T) E (I.e7 _) (λY D=>?_) ws
  .grind
  .rw [List.set_set,S,uS fs f (h,(f.a6 d).2++[t]) x y]at D
   grind
def shift(H:FS own w0 w rb sl st wd fs f ((fs++[f]).flatMap FM.rows) U)(S:sl.a=some p)(k:Int)(d s:Nat)(W:1<=d)(hs:s=d+1)(N:s<=4)(hb:(f.a6 d).2.length<=1000000)(ao:∀t∈f.U,t∈U){R:aJ}(hK:∀q Y,FS own w0 Y rb sl st wd fs ((f.put d (q,(f.a6 d).2++[gj k (f.a6 s).1 (f.a6 s).2])).put s (⟨none,0,0⟩,[])) ((fs++[(f.put d (q,(f.a6 d).2++[gj k (f.a6 s).1 (f.a6 s).2])).put s (⟨none,0,0⟩,[])]).flatMap FM.rows) (U++[gj k (f.a6 s).1 (f.a6 s).2])->R (ae (.tuple #[])) Y):
  mw w λz=>∃h:Sl,z.cell? ((p.add (fs.length *10)).add d)=some (h.v)/\∃t11:Sl,z.cell? ((p.add (fs.length *10)).add s)=some (t11.v)/\
   ((aj V AN #[.i k,t11.v] z λr_ K=>∃C:Int,∃D:Int,∃E:Int,∃F:Sl,r_=ae (.agg #[.i C,.int .u8 D,.int .u8 E,F.v])/\
    K.cell? ((p.add (fs.length *10)).add d)=some (h.v)/\dz K (.cells #[.i 0,.int .u8 0,.int .u8 0,.slice none 0 0] aZ) λT=>
    T.cell? ((p.add (fs.length *10)).add d)=some (h.v)/\∃(t15:Sl) (L:J),Sem.run V (eu #[i',i'] i' #[h.v,.slice (some (nb K)) 1 1]) T=.ok (t15.v) L/\fo t15 (h.n:Int) λj=>((aS L (j.add (a5 (h.n:Int) *4)) (.i C) λw6=>
    aS w6 ((j.add (a5 (h.n:Int) *4)).add 1) (.int .u8 D) λw7=>aS w7 ((j.add (a5 (h.n:Int) *4)).add 2) (.int .u8 E) λw8=>aS w8 ((j.add (a5 (h.n:Int) *4)).add 3) (F.v) λw9=>
    aS w9 ((p.add (fs.length *10)).add d) (t15.v) λaa=>aS aa ((p.add (fs.length *10)).add s) (.slice none 0 0) λx=>R (ae (.tuple #[])) x)/\
    (aS L ((p.add (fs.length *10)).add d) (t15.v) λac=>aS ac (j.add (a5 (h.n:Int) *4)) (.i C) λad=>aS ad ((j.add (a5 (h.n:Int) *4)).add 1) (.int .u8 D) λaf=>
    aS af ((j.add (a5 (h.n:Int) *4)).add 2) (.int .u8 E) λag=>aS ag ((j.add (a5 (h.n:Int) *4)).add 3) (F.v) λah=>aS ah ((p.add (fs.length *10)).add s) (.slice none 0 0) λx=>R (ae (.tuple #[])) x)))/\
   (dz z (.cells #[.i 0,.int .u8 0,.int .u8 0,.slice none 0 0] aZ) λai=>ai.cell? ((p.add (fs.length *10)).add s)=some (t11.v)/\ai.cell? ((p.add (fs.length *10)).add d)=some (h.v)/\
    aj V AN #[.i k,t11.v] ai λr_ am=>∃C:Int,∃D:Int,∃E:Int,∃F:Sl,r_=ae (.agg #[.i C,.int .u8 D,.int .u8 E,F.v])/\
    am.cell? ((p.add (fs.length *10)).add d)=some (h.v)/\∃(t15:Sl) (L:J),Sem.run V (eu #[i',i'] i' #[h.v,.slice (some (nb z)) 1 1]) am=.ok (t15.v) L/\fo t15 (h.n:Int) λj=>((aS L (j.add (a5 (h.n:Int) *4)) (.i C) λw6=>
    aS w6 ((j.add (a5 (h.n:Int) *4)).add 1) (.int .u8 D) λw7=>aS w7 ((j.add (a5 (h.n:Int) *4)).add 2) (.int .u8 E) λw8=>aS w8 ((j.add (a5 (h.n:Int) *4)).add 3) (F.v) λw9=>
    aS w9 ((p.add (fs.length *10)).add d) (t15.v) λaa=>aS aa ((p.add (fs.length *10)).add s) (.slice none 0 0) λx=>R (ae (.tuple #[])) x)/\
    (aS L ((p.add (fs.length *10)).add d) (t15.v) λac=>aS ac (j.add (a5 (h.n:Int) *4)) (.i C) λad=>aS ad ((j.add (a5 (h.n:Int) *4)).add 1) (.int .u8 D) λaf=>
    aS af ((j.add (a5 (h.n:Int) *4)).add 2) (.int .u8 E) λag=>aS ag ((j.add (a5 (h.n:Int) *4)).add 3) (F.v) λah=>aS ah ((p.add (fs.length *10)).add s) (.slice none 0 0) λx=>R (ae (.tuple #[])) x)))):=by
 subst hs;have M:1<=d+1:=co
 have Z:d<=4:=co
 have an:((fs++[f]).flatMap FM.rows)[fs.length *4+(d+1 - 1)]? =some ((f.a6 (d+1)).1,(f.a6 (d+1)).2.flatMap I.c):=qT fs f (d+1 - 1) _ (ur f M N);have rd:∀{Y:J} {G:List En},LH (·∈own) w0 Y (SL rb sl st wd ((fs++[f]).flatMap FM.c) ((fs++[f]).flatMap FM.rows)++G) [.trees U]->bL 4 Y (f.a6 (d+1)).1 ((f.a6 (d+1)).2.flatMap I.c):=λA=>by have hP:(En.rows ((fs++[f]).flatMap FM.rows)).P _:=A.get 2;exact(hP.1 _ (aG an)).bd
 have fin:∀q Y,FS own w0 Y rb sl st wd fs (f.put d (q,(f.a6 d).2++[gj k (f.a6 (d+1)).1 (f.a6 (d+1)).2])) ((fs++[f.put d (q,(f.a6 d).2++[gj k (f.a6 (d+1)).1 (f.a6 (d+1)).2])]).flatMap FM.rows) U->
   aS Y ((p.add (fs.length *10)).add (d+1)) (.slice none 0 0) λx=>R (ae (.tuple #[])) x:=λq Y A=>by
  have hc:(f.put d (q,(f.a6 d).2++[gj k (f.a6 (d+1)).1 (f.a6 (d+1)).2])).a6 (d+1)=f.a6 (d+1):=ac9 f _ co M N;refine HQ (A.i5 (bs:=[]) 1 ((f.put d (q,(f.a6 d).2++[gj k (f.a6 (d+1)).1 (f.a6 (d+1)).2])).put (d+1) (⟨none,0,0⟩,[])) (d+1) rfl S co (yh _ (⟨none,0,0⟩,[]) M N) (λx H1=>hK q x ?_) ws);have al:=qT fs (f.put d (q,(f.a6 d).2++[gj k (f.a6 (d+1)).1 (f.a6 (d+1)).2])) (d+1 - 1) _ (ur _ M N);rw[hc]at al;have B:=H1.E2 2 (fs.length *4+(d+1 - 1)) rfl al;have y:=B.Rl 0 k (s:=(f.a6 (d+1)).1) (ks:=(f.a6 (d+1)).2) rfl ws λt ht=>ao t (o1 f _ ht);have e:=uS fs (f.put d (q,(f.a6 d).2++[gj k (f.a6 (d+1)).1 (f.a6 (d+1)).2])) (⟨none,0,0⟩,[]) M N
  grind
 have Q:∀{Y:J} {G:List En},LH (·∈own) w0 Y (SL rb sl st wd ((fs++[f]).flatMap FM.c) ((fs++[f]).flatMap FM.rows)++G) [.trees U]->Y.cell? ((p.add (fs.length *10)).add d)=some ((f.a6 d).1.v):=λA=>A.g3 1 rfl S d (Kd f W Z);have ak:∀{Y:J} {G:List En},LH (·∈own) w0 Y (SL rb sl st wd ((fs++[f]).flatMap FM.c) ((fs++[f]).flatMap FM.rows)++G) [.trees U]->Y.cell? ((p.add (fs.length *10)).add (d+1))=some ((f.a6 (d+1)).1.v):=λA=>A.g3 1 rfl S (d+1) (Kd f M N);refine H.dr λz B=>⟨_,Q (G:=[]) B,_,ak (G:=[]) B,?_,B.cZ (e:=aZ) (sz:=4) (n:=1) (cs:=z4) rfl md λK y=>⟨ak y,Q y,?_⟩⟩
 .refine B.call (DO k _ _ z (rd (G:=[]) B)) ?_;rintro _ K rfl y;refine⟨_,_,_,_,rfl,Q (G:=[]) y,y.cZ (e:=aZ) (sz:=4) (n:=1) (cs:=z4) rfl md λT O=>⟨Q O,?_⟩⟩;exact Se H S d W Z (gj k (f.a6 (d+1)).1 (f.a6 (d+1)).2) hb (src:=⟨some (ab K.heap.size),1,1⟩) O rfl fin
 .refine y.call (DO k _ _ K (rd y)) ?_;rintro _ T rfl O;refine⟨_,_,_,_,rfl,Q O,?_⟩;exact Se H S d W Z (gj k (f.a6 (d+1)).1 (f.a6 (d+1)).2) hb (src:=⟨some (ab z.heap.size),1,1⟩) O rfl fin
end
def iO(w:J)(own:List Nat)(U:List I)(rb:Nat)(Q:cE->Addr->List FX->FX->Int->Int->List I->Prop):aJ:=λr x=>∃d h k j q,iN w own U rb d h k j q (Q r d h k j q) x
def kR(f:FX):FX:=⟨f.k,f.ar,f.al,f.an++[pq 3 (lJ f).ca],[],0,f.la⟩
def kQ(f:FX):FX:=⟨f.k,f.ar,f.al++[pq 5 (kR f).an],[],[],0,f.la⟩
def Eu(f:FX):FX:=⟨f.k,f.ar,[],[],[],0,f.la⟩
def fi(f:FX):Rx:=pq 4 (kQ f).al
def HF{w0:J}{M:Nat->Prop}{w:J}{own:List Nat}{U y:List I}{k:Int}{s:Sl}{ks:List I}(q:∀b∈I.be U,b∈I.be y\/b∈own\/w.heap.size<=b)(C:∀b∈ax s,b∈own\/w.heap.size<=b)(B:∀t∈ks,t∈U):∀b∈I.be (U++[gj k s ks]),b∈I.be y\/b∈own\/w.heap.size<=b:=λb z=>by
 obtain⟨t,d,j⟩:=I.bZ.1 z;rcases aW.1 d with d|d
 .exact q b (I.bZ.2 ⟨t,d,j⟩)
 .simp at d;rw[d]at j;rcases acK j with h|h
  .exact .inr (C b (gM (e:=aZ) h))
  .obtain ⟨x,D,A⟩:=I.bZ.1 h;exact q b (I.bZ.2 ⟨x,B x D,A⟩)
def TA{own:List Nat}{w0 w:J}{rb:Nat}{sl:Sl}{st y:Int}{d:List FM}{f:FM}{U:List I}(H:FS own w0 w rb sl st y d f ((d++[f]).flatMap FM.rows) U){j:Nat}(h:1<=j)(k:j<=4):∀b∈ax (f.a6 j).1,b∈own\/w0.heap.size<=b:=λb q=>by have x:=qT d f (j - 1) _ (ur f h k);exact(H.new (.rows ((d++[f]).flatMap FM.rows)) ws b (a0.2 (bX.2 ⟨_,aG x,q⟩))).symm
def T7{q:List FM}{f:FM}{U:List I}{k:Int}{d s:Nat}{s':Sl}(w:∀g∈q++[f],∀t∈g.U,t∈U)(x:1<=d)(y:d<=4)(z:1<=s)(A:s<=4):∀g∈q++[(f.put d (s',(f.a6 d).2++[gj k (f.a6 s).1 (f.a6 s).2])).put s (⟨none,0,0⟩,[])],∀t∈g.U,t∈U++[gj k (f.a6 s).1 (f.a6 s).2]:=by
 intro g j t B;rcases aW.1 j with j|j
 .grind
 .simp at j;subst j;rcases Be _ _ z A B with h|h
  .rcases Be _ _ x y h with h|h
   .grind
   .rcases aW.1 h with h|h
    .exact bG _ (w f ws t (o1 f d h))
    grind
  grind
def Js{w:J}{rb:Nat}{f0:Addr}{lo:List FX}{d:FX}{st C:Int}{own:List Nat}{U:List I}(h:St w rb f0 lo d st C own U)(hn:d.n<=1000000)(Z:d.ca.length<=1000000)(ha:d.an.length<=1000000):
  aj V PH #[.pointer (some f0)] w λr y=>r=ae (.tuple #[])/\iN w own U rb f0 lo (kR d) st C (λ_=>True) y:=by
 refine Td.ok _ w _ ((Jr h hn Z).mono ?_);rintro _ w1 ⟨rfl,ah,ag,⟨sl,z,f,p,rfl,j,B,E,rfl,L,N,O,P,K⟩,H,af,G,t1,_⟩;refine⟨rfl,?_⟩;have D:=St.wM L N O P K;have Q:(f.a6 3).2.length<=1000000:=by
  have e:f.x.an.length=f.an.2.length:=by show(I.aw f.an.2).length=_;rw[I.fP];simp
  have e2:f.x.an=d.an:=by rw[j];rfl
  show f.an.2.length<=_
  grind
 refine shift (R:=λr y=>r=ae (.tuple #[])/\iN w own U rb (p.add (z.length *10)) (z.map FM.x) (kR d) st C (λ_=>True) y) D E 3 3 4 co rfl co Q (λt q=>B f ws t q) λs' y F=>⟨rfl,iN.then H af G t1 ?_⟩;have:=St.of (U:=ag) (A:=λ_=>True) (f0:=p.add (z.length *10)) F 0 rfl (T7 B co co co co) E rfl (HF (w0:=w) (M:=F0) (λb Y=>.inl Y) (TA D co co) λt q=>B f ws t (o1 f 4 q)) (λt q=>bG _ q) trivial;have e:((f.put 3 (s',(f.a6 3).2++[gj 3 (f.a6 4).1 (f.a6 4).2])).put 4 (⟨none,0,0⟩,[])).x=kR d:=by
  have hk:f.x.k=d.k:=by rw[j];rfl
  have W:f.x.ar=d.ar:=by rw[j];rfl
  have S:f.x.al=d.al:=by rw[j];rfl
  have T:f.x.an=d.an:=by rw[j];rfl
  have aa:f.x.ca=(lJ d).ca:=by rw[j]
  have ad:f.x.n=0:=by rw[j];rfl
  have ab:f.x.la=d.la:=by rw[j];rfl
  unfold kR;rw[<-hk,<-W,<-S,<-T,<-aa,<-ab];show FX.mk f.k (f.ar.1,I.aw f.ar.2) (I.aw f.al.2) (I.aw (f.an.2++[gj 3 f.ca.1 f.ca.2])) (I.aw []) f.n f.la.rx=_;have ac:f.n=0:=ad;rw[ac,ku];simp[I.aw,GD,FM.x]
 grind
def Jq{w:J}{rb:Nat}{f0:Addr}{lo:List FX}{d:FX}{st C:Int}{own:List Nat}{U:List I}(h:St w rb f0 lo d st C own U)(hn:d.n<=1000000)(hc:d.ca.length<=1000000)(Q:d.an.length<=1000000)(hl:d.al.length<=1000000):
  aj V PF #[.pointer (some f0)] w λr y=>r=ae (.tuple #[])/\iN w own U rb f0 lo (kQ d) st C (λ_=>True) y:=by
 refine Tb.ok _ w _ ((Js h hn hc Q).mono ?_);rintro _ w1 ⟨rfl,ai,ah,⟨sl,z,f,p,rfl,j,B,E,rfl,L,N,O,P,K⟩,H,ag,G,t1,_⟩;refine⟨rfl,?_⟩;have D:=St.wM L N O P K;have S:(f.a6 2).2.length<=1000000:=by
  have e:f.x.al.length=f.al.2.length:=by show(I.aw f.al.2).length=_;rw[I.fP];simp
  have e2:f.x.al=d.al:=by rw[j];rfl
  show f.al.2.length<=_
  grind
 refine shift (R:=λr y=>r=ae (.tuple #[])/\iN w own U rb (p.add (z.length *10)) (z.map FM.x) (kQ d) st C (λ_=>True) y) D E 5 2 3 co rfl co S (λt q=>B f ws t q) λs' y F=>⟨rfl,iN.then H ag G t1 ?_⟩;have:=St.of (U:=ah) (A:=λ_=>True) (f0:=p.add (z.length *10)) F 0 rfl (T7 B co co co co) E rfl (HF (w0:=w) (M:=F0) (λb Z=>.inl Z) (TA D co co) λt q=>B f ws t (o1 f 3 q)) (λt q=>bG _ q) trivial;have e:((f.put 2 (s',(f.a6 2).2++[gj 5 (f.a6 3).1 (f.a6 3).2])).put 3 (⟨none,0,0⟩,[])).x=kQ d:=by
  have hk:f.x.k=d.k:=by rw[j];rfl
  have Y:f.x.ar=d.ar:=by rw[j];rfl
  have T:f.x.al=d.al:=by rw[j];rfl
  have W:f.x.an=(kR d).an:=by rw[j]
  have ab:f.x.ca=[]:=by rw[j];rfl
  have af:f.x.n=0:=by rw[j];rfl
  have ac:f.x.la=d.la:=by rw[j];rfl
  unfold kQ;rw[<-hk,<-Y,<-T,<-W,<-ac];show FX.mk f.k (f.ar.1,I.aw f.ar.2) (I.aw (f.al.2++[gj 5 f.an.1 f.an.2])) (I.aw []) (I.aw f.ca.2) f.n f.la.rx=_;have ad:f.n=0:=af;have aa:I.aw f.ca.2=[]:=ab;rw[ad,aa,ku];simp[I.aw,GD,FM.x]
 grind
abbrev SF(M:Nat->Prop)(w0 w:J)(rb:Nat)(sl:Sl)(st h:Int)(d:List FM)(f:FM)(G:List En)(U:List I):Prop:=LH M w0 w (SL rb sl st h ((d++[f]).flatMap FM.c) ((d++[f]).flatMap FM.rows)++G) [.trees U]
section
variable {M:Nat->Prop} {w0 w:J} {bs:List Nat} {G:List En} {rb:Nat} {sl:Sl} {st wd:Int} {fs:List FM} {f:FM} {U:List I} {p:Addr}
def ael(H:SF M w0 w rb sl st wd fs f G U)(j:∀g∈fs++[f],∀t∈g.U,t∈U)(z:sl.a=some p):
  St w rb (p.add (fs.length *10)) (fs.map FM.x) f.x st wd ((SL rb sl st wd ((fs++[f]).flatMap FM.c) ((fs++[f]).flatMap FM.rows)).flatMap (·.fp)) U:=by have h:=H.nd;rw[de,ho]at h;refine⟨sl,fs,f,p,rfl,rfl,j,z,rfl,rfl,h.1,λe d=>H.own e (bG _ d),H.getD 0,λb k y=>?_⟩;obtain⟨e,d,q⟩:=bX.1 y;exact H.dj (.trees U) ws b (a0.2 k) e (bG _ d) q
def aek(H:SF M w0 w rb sl st wd fs f G U){Y:J}{N:Addr}{P:List FX}{T:FX}{S W:Int}{L:List Nat}{k:List I}(s:St Y rb N P T S W L k)(O:Fr (·∈(SL rb sl st wd ((fs++[f]).flatMap FM.c) ((fs++[f]).flatMap FM.rows)).flatMap (·.fp)) w Y)(o:∀z∈L,z∈(SL rb sl st wd ((fs++[f]).flatMap FM.c) ((fs++[f]).flatMap FM.rows)).flatMap (·.fp)\/w.heap.size<=z)(h:∀b∈I.be k,b∈I.be U\/b∈(SL rb sl st wd ((fs++[f]).flatMap FM.c) ((fs++[f]).flatMap FM.rows)).flatMap (·.fp)\/w.heap.size<=b):
  ∃(E:Sl) (j:List FM) (q:FM) (D:Addr),j.map FM.x=P/\q.x=T/\(∀g∈j++[q],∀t∈g.U,t∈k)/\E.a=some D/\N=D.add (j.length *10)/\(∀b∈I.be k,b∈I.be U\/w0.heap.size<=b\/M b)/\SF M w0 Y rb E S W j q G k:=by
 obtain⟨E,j,q,D,h1,h2,h3,h4,h5,h6,h7,h8,h9,af⟩:=s;have K:=H.nd;rw[de,ho]at K;have Q:∀b∈(SL rb sl st wd ((fs++[f]).flatMap FM.c) ((fs++[f]).flatMap FM.rows)).flatMap (·.fp),w0.heap.size<=b\/M b:=λb h=>by obtain⟨e,d,B⟩:=bX.1 h;exact H.new e (bG _ d) b B
 have ae:∀e∈G,∀b∈e.fp,b<w.heap.size:=λe d b h=>e.lt w (H.own e (dL _ d)) b h;have aa:∀e∈G,∀b∈e.fp,b∉(SL rb sl st wd ((fs++[f]).flatMap FM.c) ((fs++[f]).flatMap FM.rows)).flatMap (·.fp):=λe d b h F=>K.2.2 b F b (bX.2 ⟨e,d,h⟩) rfl;have ac:=H.fr.size;have ag:∀b∈L,w0.heap.size<=b\/M b:=λb h=>(o b h).elim (Q b) λy=>.inl (bz ac y);refine⟨E,j,q,D,h1,h2,h3,h4,h5,λb A=>?_,H.fr.trans O λz hx F=>(Q z F).resolve_left co,λe d=>?_,λe d=>?_,λe d b A=>?_,?_,λe d b A Z C B=>?_⟩
 .grind
 .rcases aW.1 d with d|d
  .grind
  .exact e.st w Y (λb h hl=>O.cC b hl (aa e d b h)) (H.own e (dL _ d))
 .simp at d;subst d;exact h9
 .rcases aW.1 d with d|d
  .grind
  .exact H.new e (dL _ d) b A
 .rw [de,ho];refine⟨h6▸h7,K.2.1,λz hx ah hy ad=>?_⟩;subst ad;obtain⟨e,d,B⟩:=bX.1 hy
  grind
 .simp at d;subst d;have ab:b∈I.be k:=a0.1 A;rcases aW.1 C with C|C
  .grind
  .rcases h b ab with y|y|y
   .exact H.dj (.trees U) ws b (a0.2 y) Z (dL _ C) B
   .grind
   grind
def _root_.Go.W.LH.mu(H:SF M w0 w rb sl st wd fs f G U)(E:∀g∈fs++[f],∀t∈g.U,t∈U)(T:sl.a=some p){g:cW}{args:Array aa}{K:aJ}{Q:cE->Addr->List FX->FX->Int->Int->List I->Prop}(O:∀own,St w rb (p.add (fs.length *10)) (fs.map FM.x) f.x st wd own U->aj V g args w (iO w own U rb Q))(P:∀r z (q:Sl) (h:List FM) (j:FM) (k:Addr) (y A:Int) (d:List I),(∀t∈U,t∈d)->(∀g∈h++[j],∀t∈g.U,t∈d)->q.a=some k->(∀b∈I.be d,b∈I.be U\/w0.heap.size<=b\/M b)->Q r (k.add (h.length *10)) (h.map FM.x) j.x y A d->SF M w0 z rb q y A h j G d->K r z)(bF:∀b∈bs,En.g b∈G:=by simp):eJ bs V g args w K:=by
 have C:=H.nd;rw[de,ho]at C;refine⟨(·∈(SL rb sl st wd ((fs++[f]).flatMap FM.c) ((fs++[f]).flatMap FM.rows)).flatMap (·.fp)),λb L S=>?_,(O _ (ael H E T)).mono ?_⟩
 .exact C.2.2 b S b (bX.2 ⟨_,bF b L,by simp[En.g]⟩) rfl
 .rintro r z ⟨ab,ac,ae,y,A,ad,d,s,B,o,b,t,Z⟩;obtain⟨q,h,j,k,rfl,rfl,F,Y,rfl,N,D⟩:=aek H s B o b;exact⟨B,P r z q h j k y A d t F Y N Z D⟩
def _root_.Go.W.LH.zM(H:SF M w0 w rb sl st wd fs f G U)(C:∀g∈fs++[f],∀t∈g.U,t∈U)(F:sl.a=some p){g:cW}{args:Array aa}{K:aJ}{Q:cE->Addr->List FX->FX->Int->Int->List I->Prop}(D:∀own,St w rb (p.add (fs.length *10)) (fs.map FM.x) f.x st wd own U->aj V g args w (iO w own U rb Q))(E:∀r q (z:Sl) (h:List FM) (j:FM) (y:Addr) (A B:Int) (d:List I),(∀t∈U,t∈d)->(∀g∈h++[j],∀t∈g.U,t∈d)->z.a=some y->(∀b∈I.be d,b∈I.be U\/w0.heap.size<=b\/M b)->Q r (y.add (h.length *10)) (h.map FM.x) j.x A B d->SF M w0 q rb z A B h j G d->K r q):aj V g args w K:=by obtain⟨_,_,k⟩:=H.mu (bs:=[]) C F D E ws;exact k.mono λr q k=>k.2
end
def EY(f:FM):f.x.ar.2.length=f.ar.2.length/\f.x.al.length=f.al.2.length/\f.x.an.length=f.an.2.length/\f.x.ca.length=f.ca.2.length:=by refine⟨?_,?_,?_,?_⟩<;>(show(I.aw _).length=_;rw[I.fP];simp)
def zv{w:J}{own:List Nat}{U:List I}{rb:Nat}{f0:Addr}{lo:List FX}{d:FX}{st j:Int}{g:cW}{args:Array aa}(h:aj V g args w λr k=>r=ae (.tuple #[])/\iN w own U rb f0 lo d st j (λ_=>True) k):
  aj V g args w (iO w own U rb λr q z B A C _=>r=ae (.tuple #[])/\q=f0/\z=lo/\B=d/\A=st/\C=j):=
 h.mono λr k ⟨x,y⟩=>⟨f0,lo,d,st,j,y.mono λ_ _=>⟨x,rfl,rfl,rfl,rfl,rfl⟩⟩
structure Small(f:FX)(n:Nat):Prop where
 n':f.n<=n
 ar:f.ar.2.length<=n
 al:f.al.length<=n
 an:f.an.length<=n
 ca:f.ca.length<=n
def zC{w:J}{rb:Nat}{f0:Addr}{lo:List FX}{E:FX}{st F:Int}{own:List Nat}{U:List I}(h:St w rb f0 lo E st F own U)(D:Small E 1000000):
  aj V Gd #[.pointer (some f0)] w (iO w own U rb λr ab ak aq ao ay au=>ab=f0/\ak=lo/\aq=Eu E/\ao=st/\ay=F/\∃t∈au,r=ae t.v/\t.rx=fi E):=by
 obtain⟨sl,O,f,p,rfl,rfl,h3,h4,rfl,h6,h7,h8,h9,ac⟩:=h;have S:SF (·∈own) w w rb sl st F O f [] U:=by
  have:=St.wM h6 h7 h8 h9 ac
  grind
 refine Tc.aD _ w _ (S.aK (bs:=[]) (λA w1 T=>?_) ws);refine(show SF (·∈own) w w1 rb sl st F O f [.g A] U from T).mu (bs:=[A]) h3 h4 (λaB s1=>zv (Jq s1 D.n' D.ca D.an D.al)) ?_ ws;rintro _ N am q d p2 ap az av t2 Q H aa ⟨rfl,ad,af,y,rfl,rfl⟩ C;rw[<-ad,<-af];have L:((q++[d]).flatMap FM.rows)[q.length *4+(2 - 1)]? =some ((d.a6 2).1,(d.a6 2).2.flatMap I.c):=qT q d 1 _ (ur d (j:=2) co co);have ah:bL 4 N d.al.1 (d.al.2.flatMap I.c):=by have hP:(En.rows ((q++[d]).flatMap FM.rows)).P N:=C.get 2;exact(hP.1 _ (aG L)).bd
 refine⟨rfl,d.al.1,C.g3 1 rfl H 2,C.aA (DO 4 _ _ N ah) ?_⟩;rintro _ w3 rfl Y;refine⟨_,_,_,_,rfl,Y.aK (bs:=[A]) (λG w4 Z=>Z.ai (bs:=[A,G]) (λw5 H5=>?_) ws) ws⟩;refine H5.i5 (bs:=[A,G]) (f:=d) 1 (d.put 2 (⟨none,0,0⟩,[])) 2 rfl H co rfl (λw6 H6=>H6.ai (bs:=[A,G]) (λw7 H7=>?_) ws) ws;have H8:=H7.E2 2 (q.length *4+(2 - 1)) rfl L;have H9:=H8.Rl 0 4 (s:=d.al.1) (ks:=d.al.2) rfl (by simp[FM.a6]) λt z=>Q d ws t (o1 d 2 z);have er:=uS q d (⟨none,0,0⟩,[]) (j:=2) co co;have e':(([]:List I).flatMap I.c)=[]:=rfl;rw[e']at er;simp only at er;have W:LH (·∈own) w w7 (SL rb am ap az ((q++[d.put 2 (⟨none,0,0⟩,[])]).flatMap FM.c) ((q++[d.put 2 (⟨none,0,0⟩,[])]).flatMap FM.rows)) [.trees (av++[gj 4 d.al.1 d.al.2])]:=by rw[<-er];exact H9.take 3
 have ag:∀b∈ax d.al.1,b∈own\/w.heap.size<=b:=λb K=>(C.new (.rows ((q++[d]).flatMap FM.rows)) ws b (a0.2 (bX.2 ⟨_,aG L,K⟩))).symm;have ex:(d.put 2 (⟨none,0,0⟩,[])).x=Eu f.x:=by
  have e1:d.k=f.k:=by have:=congrArg FX.k y;exact this
  have e2:(d.ar.1,I.aw d.ar.2)=f.x.ar:=by have:=congrArg FX.ar y;exact this
  have e3:I.aw d.an.2=[]:=by have:=congrArg FX.an y;exact this
  have e4:I.aw d.ca.2=[]:=by have:=congrArg FX.ca y;exact this
  have e5:d.n=0:=by have:=congrArg FX.n y;exact this
  have e6:d.la.rx=f.x.la:=by have:=congrArg FX.la y;exact this
  show FX.mk d.k (d.ar.1,I.aw d.ar.2) (I.aw []) (I.aw d.an.2) (I.aw d.ca.2) d.n d.la.rx=_;rw[e1,e2,e3,e4,e5,e6];rfl
 refine⟨_,_,_,_,_,St.of (U:=U) (f0:=p2.add (q.length *10)) W 0 rfl (λg B t z=>?_) H rfl (HF (w0:=w) (M:=F0) (λb K=>(aa b K).imp id Or.symm) ag λt z=>Q d ws t (o1 d 2 z)) (λt z=>bG _ (t2 t z)) ⟨rfl,rfl,ex,rfl,rfl,gj 4 d.al.1 d.al.2,ws,rfl,?_⟩⟩
 .rcases aW.1 B with B|B
  .grind
  .simp at B;subst B;rcases Be _ _ co co z with h|h
   .grind
   grind
 .rw [GD];have:=congrArg FX.al y;have e:I.aw d.al.2=(kQ f.x).al:=this;rw[e];rfl
def pw{p:Addr}{K:Addr->Prop}(h:K p):dV (some p) K:=h
def Zr:gW V afN iJ (.agg #[.int .i64 0,.slice none 0 0,.slice none 0 0,.slice none 0 0,.slice none 0 0,.int .i64 0,.int .i64 0,.int .u8 0,.int .u8 0,.slice none 0 0]) 10 152:=⟨by kernel_rfl,by kernel_rfl,rfl,md,md⟩
section
variable {M:Nat->Prop} {w0 w:J} {L D:List En} {bs:List Nat} {G:List En} {rb:Nat} {sl:Sl} {st wd:Int} {fs:List FM} {f:FM} {U:List I} {p:Addr}
def _root_.Go.W.LH.vO(H:LH M w0 w L D)(i j:Nat){b:Nat}{vs:List aa}{T:TypeId}{v:aa}{K:J->Prop}(hi:L[i]? =some (.c b vs T))(x:∀k,LH M w0 k (L.set i (.c b (vs.set j v) T)) D->K k)(A:j<vs.length)(bF:∀b∈bs,En.g b∈L:=by simp):aS w ((ab b).add j) v λq=>kept bs w q/\K q:=by
 obtain⟨C,E,F⟩:=H.set (v:=v) i j hi A;refine⟨C,E,λd h=>?_,x _ F⟩;have B:d≠b:=by
  rintro rfl;refine o' H hi (λn y=>?_) (bF _ h) (by simp[En.ob]);have G:({w with heap:=Array.replicate (n+1) (.map #[] 0)}:J).heap[d]? =some (.cells vs.toArray T (0,0)):=y
  grind
 have z:Fr (·=b) w (w.setCell ((ab b).add j) v):=Fr.set _ _ _ (by rw[jG])
 exact z.cC d (H.own _ (bF _ h)) B
def BB(H:SF M w0 w rb sl st wd fs f G U):sl.n=fs.length+1:=by
 have d:aF w iJ 10 sl ((fs++[f]).flatMap FM.c):=H.get 1;have:=d.len;rw[qp]at this
 grind
def zF(H:SF M w0 w rb sl st wd fs f G U)(h:sl.a=some p)(q:fs.length<=1000000):aj V AO #[.pointer (some (ab rb))] w λr j=>r=ae (.pointer (some (p.add (fs.length *10))))/\af w j:=by
 have k:=BB H;have e:ah .i64 ((sl.n:Int) - 1)=(fs.length:Int):=by rw[aN _ co];omega
 have d:SF M w0 w.drew rb sl st wd fs f G U:=H.drew;refine Hg.ok _ w _ (show _ from⟨sl,d.ld 0 0,sl,d.ld 0 0,?_⟩);rw[e,h];exact⟨co,co,rfl,Fr.drew _ _⟩
def HB(H:SF M w0 w rb sl st wd fs f G U)(k:Int)(lo hi:UInt8):SF M w0 w rb sl st wd fs f G (U++[.mk k lo hi ⟨none,0,0⟩ []]):=by
 have j:=H.gz (.trees (U++[.mk k lo hi ⟨none,0,0⟩ []])) (Fr.refl _ _) (I.i0 λt d=>?_) λb q=>.inr (.inr ⟨.trees U,ws,?_⟩)
 .exact j.forget _ ws
 .rcases aW.1 d with d|d
  .exact I.Ps.mem (H.getD 0) d
  .simp at d;subst d;show I.P w _;unfold I.P I.Ps;exact⟨bL.nil 4 w,trivial⟩
 .obtain ⟨t,d,h⟩:=I.bZ.1 (a0.1 q);rcases aW.1 d with d|d
  .exact a0.2 (I.bZ.2 ⟨t,d,h⟩)
  .simp at d;rw[d]at h;unfold I.fp I.be at h;simp[En.bd]at h
def Am{k:Int}{lo hi:UInt8}{b:Nat}(h:b∈I.be (U++[.mk k lo hi ⟨none,0,0⟩ []])):b∈I.be U:=by
 obtain⟨t,d,j⟩:=I.bZ.1 h;rcases aW.1 d with d|d
 .exact I.bZ.2 ⟨t,d,j⟩
 .simp at d;rw[d]at j;unfold I.fp I.be at j;simp[En.bd]at j
def ad4(H:LH M w0 w L D)(i:Nat){j:List ew}(hi:L[i]? =some (.rows j))(n:Nat):LH M w0 w (L.set i (.rows (j++List.replicate n (⟨none,0,0⟩,[])))) D:=by
 have k:(En.rows j).P w:=H.get i hi;have e:(j++List.replicate n ((⟨none,0,0⟩,[]):ew)).flatMap (λd:ew=>ax d.1)=j.flatMap λd:ew=>ax d.1:=by
  rw[de];have:(List.replicate n ((⟨none,0,0⟩,[]):ew)).flatMap (λd:ew=>ax d.1)=[]:=by
   induction n with
   |zero=>rfl
   |succ n x=>rw[List.replicate_succ,cU,x];rfl
  grind
 refine H.ha i _ hi (Fr.refl _ _) ⟨λd h=>?_,by rw[e];exact k.2⟩ λb q=>.inl (a0.2 (by have:=a0.1 q;grind));rcases aW.1 h with h|h
 .exact k.1 d h
 .rw [List.eq_of_mem_replicate h];exact aF.nil _ _ _
end
def lP(k:Int):FX:=⟨k,(⟨none,0,0⟩,[]),[],[],[],0,fO⟩
def jv(k:Int):FM:=⟨k,(⟨none,0,0⟩,[]),(⟨none,0,0⟩,[]),(⟨none,0,0⟩,[]),(⟨none,0,0⟩,[]),0,.mk 0 0 0 ⟨none,0,0⟩ []⟩
def A1{w:J}{rb:Nat}{f0:Addr}{lo:List FX}{j:FX}{st k:Int}{own:List Nat}{U:List I}(h:St w rb f0 lo j st k own U):∃(sl:Sl) (d:List FM) (f:FM) (p:Addr),d.map FM.x=lo/\f.x=j/\(∀g∈d++[f],∀t∈g.U,t∈U)/\sl.a=some p/\f0=p.add (d.length *10)/\SF (·∈own) w w rb sl st k d f [] U:=by
 obtain⟨sl,d,f,p,q,z,A,B,C,D,E,F,G,y⟩:=h;refine⟨sl,d,f,p,q,z,A,B,C,?_⟩;have:=St.wM D E F G y
 grind
def JE{w:J}{rb:Nat}{f0:Addr}{lo:List FX}{B:FX}{st k:Int}{own:List Nat}{U:List I}(h:St w rb f0 lo B st k own U)(hl:lo.length<=1000000)(kind state:Int):
  aj V PL #[.pointer (some (ab rb)),.int .i64 kind,.int .i64 state] w (iO w own U rb λr _ P S Q W _=>r=ae (.bool true)/\P=lo++[B]/\S=lP kind/\Q=state/\W=k):=by
 obtain⟨sl,d,f,p,rfl,rfl,Y,Z,rfl,y⟩:=A1 h;have hn:=BB y;have aa:d.length<=1000000:=by grind
 refine Tj.ok _ _ _ w _ ⟨sl,y.ld 0 0,y.cZ (e:=iJ) (sz:=10) (n:=1) (cs:=(jv kind).c) rfl md λw1 A=>?_⟩;refine A.I0 1 Zr (src:=⟨some (ab w.heap.size),1,1⟩) (news:=(jv kind).c) rfl (aF.bd (A.get 3)).2.2 rfl (by simp[FM.c,jv,Value.oneCell']) (by grind) λj T D ac ad _=>?_;obtain⟨x,O⟩:∃x,j.a=some x:=by
  cases hs:j.a with
  |none=>grind
  |some x=>grind
 have E:LH (·∈own) w T [.c rb [sl.v,.int .i64 st,.int .i64 k] yV,.row iJ 10 j ((d++[f]).flatMap FM.c++(jv kind).c),.rows ((d++[f]).flatMap FM.rows)] [.trees U]:=D.take 3;refine E.st 0 0 rfl (λw3 F=>F.st 0 1 rfl (λC G=>?_));have H:=ad4 G 2 rfl 4;have K:SF (·∈own) w C rb j state k (d++[f]) (jv kind) [] U:=by show LH _ _ _ (SL rb j state k ((d++[f]++[jv kind]).flatMap FM.c) ((d++[f]++[jv kind]).flatMap FM.rows)++[]) _;rw[List.append_nil,de (xs:=d++[f]),de (xs:=d++[f])];simpa[show(jv kind).rows=[(⟨none,0,0⟩,[]),(⟨none,0,0⟩,[]),(⟨none,0,0⟩,[]),(⟨none,0,0⟩,[])]from rfl]using H
 have L:=HB K 0 0 0;have M:LH (·∈own) w C (SL rb j state k ((d++[f]++[jv kind]).flatMap FM.c) ((d++[f]++[jv kind]).flatMap FM.rows)) [.trees (U++[.mk 0 0 0 ⟨none,0,0⟩ []])]:=L.take 3;refine⟨_,_,_,_,_,St.of (U:=U) (p:=x) (f0:=x.add ((d++[f]).length *10)) M 0 rfl (λg q t z=>?_) O rfl (λb N=>.inl (Am N)) (λt z=>bG _ z) ⟨rfl,?_,rfl,rfl,rfl⟩⟩
 .rcases aW.1 q with q|q
  .grind
  .simp at q;subst q;simp[FM.U,jv]at z
   grind
 .simp
def jj(d:FX)(x:Rx):FX:=⟨d.k,d.ar,d.al,d.an,d.ca,d.n,x⟩
def DF{w:J}{rb:Nat}{f0:Addr}{lo:List FX}{D:FX}{st A:Int}{own:List Nat}{U:List I}(h:St w rb f0 lo D st A own U)(hl:lo.length<=1000000)(t:I)(C:t∈U):
  aj V Gf #[.pointer (some (ab rb)),t.v] w (iO w own U rb λr W aa ad ac af _=>r=ae (.bool true)/\W=f0/\aa=lo/\ad=jj D t.rx/\ac=3/\af=A):=by
 obtain⟨sl,d,f,p,rfl,rfl,z,x,rfl,E⟩:=A1 h;have Z:d.length<=1000000:=by grind
 refine Th.aD _ _ _ _ _ w _ (E.aK (bs:=[]) (λq w1 F=>F.ai (bs:=[q]) (λw2 G=>?_) ws) ws);have B:SF (·∈own) w w2 rb sl st A d f [.g q] U:=G;refine B.aA (zF B x Z) ?_;rintro _ w3 rfl H;refine⟨_,rfl,pw ?_⟩;refine H.i5 (bs:=[q]) (f:=f) 1 ⟨f.k,f.ar,f.al,f.an,f.ca,f.n,.mk t.k f.la.lo f.la.hi f.la.s f.la.l⟩ 6 rfl x co rfl (λw4 K=>?_) ws;have Q:((p.add (d.length *10)).add 6).add 1=(p.add (d.length *10)).add 7:=add_add _ 6 1;have S:((p.add (d.length *10)).add 6).add 2=(p.add (d.length *10)).add 8:=add_add _ 6 2;have T:((p.add (d.length *10)).add 6).add 3=(p.add (d.length *10)).add 9:=add_add _ 6 3;rw[Q,S,T];refine K.i5 (bs:=[q]) (f:=⟨f.k,f.ar,f.al,f.an,f.ca,f.n,.mk t.k f.la.lo f.la.hi f.la.s f.la.l⟩) 1 ⟨f.k,f.ar,f.al,f.an,f.ca,f.n,.mk t.k t.lo f.la.hi f.la.s f.la.l⟩ 7 rfl x co rfl (λw5 L=>?_) ws;refine L.i5 (bs:=[q]) (f:=⟨f.k,f.ar,f.al,f.an,f.ca,f.n,.mk t.k t.lo f.la.hi f.la.s f.la.l⟩) 1 ⟨f.k,f.ar,f.al,f.an,f.ca,f.n,.mk t.k t.lo t.hi f.la.s f.la.l⟩ 8 rfl x co rfl (λw6 M=>?_) ws;refine M.i5 (bs:=[q]) (f:=⟨f.k,f.ar,f.al,f.an,f.ca,f.n,.mk t.k t.lo t.hi f.la.s f.la.l⟩) 1 ⟨f.k,f.ar,f.al,f.an,f.ca,f.n,t⟩ 9 rfl x co rfl (λw7 N=>?_) ws;refine N.vO (bs:=[q]) 0 1 rfl (λw8 O=>?_) ws ws;have er:(d++[f]).flatMap FM.rows=(d++[(⟨f.k,f.ar,f.al,f.an,f.ca,f.n,t⟩:FM)]).flatMap FM.rows:=by simp[FM.rows]
 have P:LH (·∈own) w w8 (SL rb sl 3 A ((d++[(⟨f.k,f.ar,f.al,f.an,f.ca,f.n,t⟩:FM)]).flatMap FM.c) ((d++[(⟨f.k,f.ar,f.al,f.an,f.ca,f.n,t⟩:FM)]).flatMap FM.rows)) [.trees U]:=by rw[<-er];exact O.take 3
 refine⟨_,_,_,_,_,St.of (U:=U) (f0:=p.add (d.length *10)) P 0 rfl (λg y u j=>?_) x rfl (λb Y=>.inl Y) (λt C=>C) ⟨rfl,rfl,rfl,rfl,rfl,rfl⟩⟩;rcases aW.1 y with y|y
 .grind
 .simp at y;subst y;simp only[FM.U,aW,aq,aL,aR]at j;rcases j with(((j|j)|j)|j)|rfl
  .exact z f ws u (by simp[FM.U,j])
  .exact z f ws u (by simp[FM.U,j])
  .exact z f ws u (by simp[FM.U,j])
  .exact z f ws u (by simp[FM.U,j])
  omega
structure Tk where
 k:UInt8
 lo:UInt8
 hi:UInt8
 s:List UInt8
 a:Int
abbrev Tk.v(t:Tk):aa:=.agg #[.int .u8 (t.k.toNat:Int),.int .u8 (t.lo.toNat:Int),.int .u8 (t.hi.toNat:Int),.string (ba t.s),.int .i64 t.a]
structure SX where
 lo:List FX
 tp:FX
 st:Int
 wd:Int
def Ce:List UInt8:=[110,111,110,101]
def Cd:List UInt8:=[101,109,112,116,121]
def Cb:List UInt8:=[97,108,116]
def Ca:List UInt8:=[97,108,108]
def Cc:List UInt8:=[99,97,116]
def fY(t:Tk)(s:SX):Option SX:=
 if t.k=33 then some ⟨s.lo,⟨s.tp.k,s.tp.ar,s.tp.al,s.tp.an,s.tp.ca,s.tp.n+1,s.tp.la⟩,0,s.wd⟩
 else if t.k=40 then some ⟨s.lo++[s.tp],lP (-1),0,s.wd⟩
 else if t.k=114 then some ⟨s.lo,jj s.tp (.mk 2 t.lo t.hi []),3,s.wd⟩
 else if t.k=119 then
  if t.s=Ce then some ⟨s.lo,jj s.tp (.mk 0 0 0 []),3,s.wd⟩
  else if t.s=Cd then some ⟨s.lo,jj s.tp (.mk 1 0 0 []),3,s.wd⟩
  else if t.s=Cb then some ⟨s.lo,s.tp,2,4⟩
  else if t.s=Ca then some ⟨s.lo,s.tp,2,5⟩
  else if t.s=Cc then some ⟨s.lo,s.tp,2,3⟩
  else none
 else none
def zl(o:Option SX):cE->Addr->List FX->FX->Int->Int->List I->Prop:=λr _ lo d st h _=>(o=none/\r=ae (.bool false))\/(o=some ⟨lo,d,st,h⟩/\r=ae (.bool true))
section
variable {w Y:J} {own:List Nat} {G:List En} {rb:Nat} {sl:Sl} {st wd:Int} {fs:List FM} {f:FM} {U yT:List I} {p:Addr}
def hQ{Q:cE->Addr->List FX->FX->Int->Int->List I->Prop}{r:cE}(H:SF (·∈own) w Y rb sl st wd fs f G yT)(h:∀g∈fs++[f],∀t∈g.U,t∈yT)(k:sl.a=some p)(j:∀b∈I.be yT,b∈I.be U\/w.heap.size<=b\/b∈own)(q:∀t∈U,t∈yT)(y:Q r (p.add (fs.length *10)) (fs.map FM.x) f.x st wd yT):iO w own U rb Q r Y:=
 ⟨_,_,_,_,_,St.of (U:=U) (f0:=p.add (fs.length *10)) (H.take 3) 0 rfl h k rfl (λb d=>(j b d).imp id Or.symm) q y⟩
end
def afz(s:List UInt8):(ba s).toList=s:=by rw[ByteArray.toList_eq];rfl
def afA(a:Array UInt8):(ByteArray.mk a).toList=a.toList:=by rw[ByteArray.toList_eq]
def yI{s:List UInt8}{a:Array UInt8}{A B:Prop}(h:s=a.toList->A)(j:s≠a.toList->B):bt ((ba s).toList==(ByteArray.mk a).toList) A B:=by rw[afz,afA];exact bP (λd=>h (by grind)) (λd=>j (by grind))
def j2{x:UInt8}{n:Nat}{A B:Prop}(k:n<256)(h:x=c9 n->A)(j:x≠c9 n->B):bt ((x.toNat:Int)==(n:Int)) A B:=by
 have e:∀x:UInt8,x.toNat=n↔x=c9 n:=λx=>by rw[<-UInt8.toNat_inj,UInt8.toNat_ofNat'];omega
 exact bP (λd=>h ((e x).1 (by grind))) (λd=>j λq=>by grind)
def Yl{w:J}{rb:Nat}{f0:Addr}{lo:List FX}{Q:FX}{st q:Int}{own:List Nat}{U:List I}(h:St w rb f0 lo Q st q own U)(Y:lo.length<=1000000)(hn:Q.n<=1000000)(t:Tk):
  aj V Gi #[.pointer (some (ab rb)),t.v] w (iO w own U rb (zl (fY t ⟨lo,Q,st,q⟩))):=by
 obtain⟨sl,d,f,p,rfl,rfl,D,z,rfl,ac⟩:=A1 h;have af:d.length<=1000000:=by grind
 have au:f.n<=1000000:=hn;have base:∀b∈I.be U,b∈I.be U\/w.heap.size<=b\/b∈own:=λb hb=>.inl hb;refine Hf.aD _ _ _ _ _ _ w _ (ac.aK (bs:=[]) (λj w1 A=>?_) ws);have A:SF (·∈own) w w1 rb sl st q d f [.g j] U:=A;have leaf:∀(k:Int) (a b:UInt8) {B:J} {Z S:Int},SF (·∈own) w B rb sl Z S d f [.g j] U->fY t ⟨d.map FM.x,f.x,st,q⟩=some ⟨d.map FM.x,jj f.x (.mk k a b []),3,S⟩->
   eJ [j] V Gf #[.pointer (some (ab rb)),.agg #[.i k,.int .u8 (a.toNat:Int),.int .u8 (b.toNat:Int),.slice none 0 0]] B λr_ w6=>∃t32:Bool,r_=ae (.bool t32)/\iO w own U rb (zl (fY t ⟨d.map FM.x,f.x,st,q⟩)) (ae (.bool t32)) w6:=by
  intro k a b B Z S y N;have E:=HB y k a b;refine E.mu (bs:=[j]) (λg C u F=>bG _ (D g C u F)) z (λag O=>DF O Y (.mk k a b ⟨none,0,0⟩ []) ws) ?_ ws;rintro _ H ai ad f3 p3 ak ao am P L M K ⟨rfl,aq,T,W,rfl,rfl⟩ G;refine⟨true,rfl,hQ G L M (λap hx=>?_) (λu F=>P u (bG _ F)) (.inr ⟨?_,rfl⟩)⟩
  .rcases K ap hx with h|h
   .exact .inl (Am h)
   grind
  .rw [N,T,W];rfl
 refine j2 (n:=33) co (λhk:t.k=33=>A.aA (zF A z af) ?_) (λay:t.k≠33=>j2 (n:=40) co (λhk:t.k=40=>?_) (λaz:t.k≠40=>j2 (n:=114) co (λhk:t.k=114=>?_) (λaw:t.k≠114=>j2 (n:=119) co (λhk:t.k=119=>?_) (λax:t.k≠119=>?_))))
 .rintro _ B rfl y;refine⟨_,rfl,pw ⟨_,y.g3 1 rfl z 5,pw ?_⟩⟩;have e:ah .i64 ((f.n:Int)+1)=((f.n+1:Nat):Int):=by rw[aN _ co];omega
  rw[e];refine y.i5 (bs:=[j]) (f:=f) 1 ⟨f.k,f.ar,f.al,f.an,f.ca,f.n+1,f.la⟩ 5 rfl z co rfl (λH E=>?_) ws;refine E.vO (bs:=[j]) 0 1 rfl (λw4 G=>?_) ws ws;have er:(d++[f]).flatMap FM.rows=(d++[(⟨f.k,f.ar,f.al,f.an,f.ca,f.n+1,f.la⟩:FM)]).flatMap FM.rows:=by simp[FM.rows]
  have H5:SF (·∈own) w w4 rb sl 0 q d ⟨f.k,f.ar,f.al,f.an,f.ca,f.n+1,f.la⟩ [.g j] U:=by grind
  refine hQ H5 (λg C u F=>?_) z base (λ_ h=>h) (.inr ⟨?_,rfl⟩)
  .rcases aW.1 C with C|C
   .grind
   .simp at C;subst C;exact D f ws u F
  .unfold fY;rw[av hk];rfl
 .refine A.mu (bs:=[j]) D z (λag O=>JE O Y (-1) 0) ?_ ws;rintro _ H ai ad f3 p3 ak ao am P L M K ⟨rfl,T,W,rfl,rfl⟩ G;refine⟨true,rfl,hQ G L M K P (.inr ⟨?_,rfl⟩)⟩;unfold fY
  grind
 .exact leaf 2 t.lo t.hi A (by unfold fY;grind)
 .refine A.vO (bs:=[j]) 0 1 rfl (λB y=>?_) ws ws;have y:SF (·∈own) w B rb sl 2 q d f [.g j] U:=y;have ei:fY t ⟨d.map FM.x,f.x,st,q⟩=if t.s=Ce then some ⟨d.map FM.x,jj f.x (.mk 0 0 0 []),3,q⟩else if t.s=Cd then some ⟨d.map FM.x,jj f.x (.mk 1 0 0 []),3,q⟩else if t.s=Cb then some ⟨d.map FM.x,f.x,2,4⟩else if t.s=Ca then some ⟨d.map FM.x,f.x,2,5⟩else if t.s=Cc then some ⟨d.map FM.x,f.x,2,3⟩else none:=by
   unfold fY
   grind
  have word:∀(k:Int),fY t ⟨d.map FM.x,f.x,st,q⟩=some ⟨d.map FM.x,f.x,2,k⟩->aS B ((ab rb).add 2) (.i k) λaa=>kept [j] B aa/\Hf.bD aa (iO w own U rb (zl (fY t ⟨d.map FM.x,f.x,st,q⟩))):=λk N=>
   y.vO (bs:=[j]) 0 2 rfl (λH E=>hQ (show SF (·∈own) w H rb sl 2 k d f [.g j] U from E) D z base (λ_ h=>h) (.inr ⟨N,rfl⟩)) ws ws
  refine yI (λh1:t.s=Ce=>leaf 0 0 0 y (by grind)) (λn1:t.s≠Ce=>yI (λh1:t.s=Cd=>leaf 1 0 0 y (by grind)) (λn2:t.s≠Cd=>yI (λh1:t.s=Cb=>word 4 (by grind)) (λn3:t.s≠Cb=>yI (λh1:t.s=Ca=>word 5 (by grind)) (λn4:t.s≠Ca=>yI (λh1:t.s=Cc=>word 3 (by grind)) (λn5:t.s≠Cc=>?_)))));exact hQ y D z base (λ_ h=>h) (.inl ⟨by grind,rfl⟩)
 .exact hQ A D z base (λ_ h=>h) (.inl ⟨by unfold fY;grind,rfl⟩)
def acQ{w:J}{e:TypeId}{sz:Nat}{s:Sl}{xs:List aa}{p:Addr}(h:aF w e sz s xs)(z:s.a=some p)(n:Nat)(d:n<=s.n):aF w e sz ⟨s.a,n,s.c⟩ (xs.take (n *sz)):=by
 have B:=h.len;rcases h.cases with⟨rfl,_⟩|⟨g,cur,x,y,j,k,q,A⟩
 .cases z
 .have C:n *sz<=s.n *sz:=Nat.mul_le_mul_right _ d;refine⟨by grind,.inr ⟨g,s.c,cur,by rw[x],Nat.zero_le _,y,bz d j,k,q,?_⟩⟩
  grind
section
variable {M:Nat->Prop} {w0 w:J} {L D A:List En} {bs:List Nat} {G:List En} {rb:Nat} {U:List I}
def TC(H:LH M w0 w L D)(i:Nat){d k:List ew}(hi:L[i]? =some (.rows (d++k))):LH M w0 w (L.set i (.rows d)) D:=by have h:(En.rows (d++k)).P w:=H.get i hi;have j:=h.2;rw[de,ho]at j;refine H.ha i _ hi (Fr.refl _ _) ⟨λy x=>h.1 y (bG _ x),j.1⟩ λb q=>.inl (a0.2 ?_);rw[de];exact bG _ (a0.1 q)
def abq(H:LH M w0 w (A++G) [.trees U]):LH (·∈A.flatMap (·.fp)) w w A [.trees U]:=by have j:=H.nd;rw[de,ho]at j;refine LH.s9 _ _ (λe d=>⟨H.own e (bG _ d),λb h=>bX.2 ⟨e,d,h⟩⟩) j.1 λe d=>?_;simp only[aq,aL,aR]at d;subst d;exact⟨H.getD 0,λb h k x q=>H.dj (.trees U) ws b h k (bG _ x) q⟩
def abn(H:LH M w0 w (A++G) [.trees U]){Y:J}{O:Addr}{Q:List FX}{W:FX}{T Z:Int}{N:List Nat}{k:List I}(s:St Y rb O Q W T Z N k)(P:Fr (·∈A.flatMap (·.fp)) w Y)(o:∀z∈N,z∈A.flatMap (·.fp)\/w.heap.size<=z)(h:∀b∈I.be k,b∈I.be U\/b∈A.flatMap (·.fp)\/w.heap.size<=b):
  ∃(F:Sl) (j:List FM) (q:FM) (E:Addr),j.map FM.x=Q/\q.x=W/\(∀g∈j++[q],∀t∈g.U,t∈k)/\F.a=some E/\O=E.add (j.length *10)/\(∀b∈I.be k,b∈I.be U\/w0.heap.size<=b\/M b)/\SF M w0 Y rb F T Z j q G k:=by
 obtain⟨F,j,q,E,h1,h2,h3,h4,h5,h6,h7,h8,h9,af⟩:=s;have L:=H.nd;rw[de,ho]at L;have S:∀b∈A.flatMap (·.fp),w0.heap.size<=b\/M b:=λb h=>by obtain⟨e,d,C⟩:=bX.1 h;exact H.new e (bG _ d) b C
 have ae:∀e∈G,∀b∈e.fp,b<w.heap.size:=λe d b h=>e.lt w (H.own e (dL _ d)) b h;have aa:∀e∈G,∀b∈e.fp,b∉A.flatMap (·.fp):=λe d b h K=>L.2.2 b K b (bX.2 ⟨e,d,h⟩) rfl;have ac:=H.fr.size;have ag:∀b∈N,w0.heap.size<=b\/M b:=λb h=>(o b h).elim (S b) λy=>.inl (bz ac y);refine⟨F,j,q,E,h1,h2,h3,h4,h5,λb B=>?_,H.fr.trans P λz hx K=>(S z K).resolve_left co,λe d=>?_,λe d=>?_,λe d b B=>?_,?_,λe d b B e' D C=>?_⟩
 .grind
 .rcases aW.1 d with d|d
  .grind
  .exact e.st w Y (λb h hl=>P.cC b hl (aa e d b h)) (H.own e (dL _ d))
 .simp at d;subst d;exact h9
 .rcases aW.1 d with d|d
  .grind
  .exact H.new e (dL _ d) b B
 .rw [de,ho];refine⟨h6▸h7,L.2.1,λz hx ah hy ad=>?_⟩;subst ad;obtain⟨e,d,C⟩:=bX.1 hy
  grind
 .simp at d;subst d;have ab:b∈I.be k:=a0.1 B;rcases aW.1 D with D|D
  .grind
  .rcases h b ab with y|y|y
   .exact H.dj (.trees U) ws b (a0.2 y) e' (dL _ D) C
   .grind
   grind
def _root_.Go.W.LH.Zd(H:LH M w0 w (A++G) [.trees U]){g:cW}{args:Array aa}{K:aJ}{Q:cE->Addr->List FX->FX->Int->Int->List I->Prop}(F:∀own,LH (·∈own) w w A [.trees U]->aj V g args w (iO w own U rb Q))(T:∀r z (q:Sl) (h:List FM) (j:FM) (k:Addr) (y B:Int) (d:List I),(∀t∈U,t∈d)->(∀g∈h++[j],∀t∈g.U,t∈d)->q.a=some k->(∀b∈I.be d,b∈I.be U\/w0.heap.size<=b\/M b)->Q r (k.add (h.length *10)) (h.map FM.x) j.x y B d->SF M w0 z rb q y B h j G d->K r z)(bF:∀b∈bs,En.g b∈G:=by simp):eJ bs V g args w K:=by
 have C:=H.nd;rw[de,ho]at C;refine⟨(·∈A.flatMap (·.fp)),λb E L=>?_,(F _ (abq H)).mono ?_⟩
 .exact C.2.2 b L b (bX.2 ⟨_,bF b E,by simp[En.g]⟩) rfl
 .rintro r z ⟨O,Z,ad,y,B,ab,d,s,D,o,b,t,ac⟩;obtain⟨q,h,j,k,rfl,rfl,P,Y,rfl,S,N⟩:=abn H s D o b
  grind
def abp(H:LH M w0 w L [.trees U])(T:I)(j:T∈U)(k:Int)(lo hi:UInt8):LH M w0 w L [.trees (U++[.mk k lo hi T.s T.l])]:=by
 have q:I.Ps w U:=H.getD 0;have x:=H.gz (.trees (U++[.mk k lo hi T.s T.l])) (Fr.refl _ _) (I.i0 λt d=>?_) λb y=>.inr (.inr ⟨.trees U,ws,?_⟩)
 .exact x.forget _ ws
 .rcases aW.1 d with d|d
  .exact q.mem d
  .simp at d;subst d;unfold I.P;exact(q.mem j).parts
 .obtain ⟨t,d,h⟩:=I.bZ.1 (a0.1 y);rcases aW.1 d with d|d
  .exact a0.2 (I.bZ.2 ⟨t,d,h⟩)
  .simp at d;rw[d]at h;exact a0.2 (I.bZ.2 ⟨T,j,I.gG.2 ((I.gG (t:=.mk k lo hi T.s T.l)).1 h)⟩)
def abt{T:I}(q:T∈U){k:Int}{lo hi:UInt8}{b:Nat}(h:b∈I.be (U++[.mk k lo hi T.s T.l])):b∈I.be U:=by
 obtain⟨t,d,j⟩:=I.bZ.1 h;rcases aW.1 d with d|d
 .exact I.bZ.2 ⟨t,d,j⟩
 .simp at d;rw[d]at j;exact I.bZ.2 ⟨T,q,I.gG.2 ((I.gG (t:=.mk k lo hi T.s T.l)).1 j)⟩
def abo(H:LH M w0 w L [.trees U])(T:I)(h:T∈U):LH M w0 w L [.trees (U++T.l)]:=by
 have k:I.Ps w U:=H.getD 0;have q:=H.gz (.trees (U++T.l)) (Fr.refl _ _) (I.i0 λt d=>?_) λb x=>.inr (.inr ⟨.trees U,ws,?_⟩)
 .exact q.forget _ ws
 .rcases aW.1 d with d|d
  .exact k.mem d
  .exact (k.mem h).parts.2.mem d
 .obtain ⟨t,d,j⟩:=I.bZ.1 (a0.1 x);rcases aW.1 d with d|d
  .exact a0.2 (I.bZ.2 ⟨t,d,j⟩)
  .exact a0.2 (I.bZ.2 ⟨T,h,I.gG.2 (.inr (I.bZ.2 ⟨t,d,j⟩))⟩)
def aaZ{T:I}(k:T∈U){b:Nat}(h:b∈I.be (U++T.l)):b∈I.be U:=by
 obtain⟨t,d,j⟩:=I.bZ.1 h;rcases aW.1 d with d|d
 .exact I.bZ.2 ⟨t,d,j⟩
 .exact I.bZ.2 ⟨T,k,I.gG.2 (.inr (I.bZ.2 ⟨t,d,j⟩))⟩
end
def YG{w:J}{rb:Nat}{sl:Sl}{p:Addr}{n:Nat}(h:w.cell? ((ab rb).add 0)=some sl.v)(q:sl.n=n+1)(j:sl.a=some p)(x:n<=1000000):aj V AO #[.pointer (some (ab rb))] w λr k=>r=ae (.pointer (some (p.add (n *10))))/\af w k:=by
 have e:ah .i64 ((sl.n:Int) - 1)=(n:Int):=by rw[aN _ co];omega
 have d:w.drew.cell? ((ab rb).add 0)=some sl.v:=h;refine Hg.ok _ w _ (show _ from⟨sl,d,sl,d,?_⟩);rw[e,j];exact⟨co,co,rfl,Fr.drew _ _⟩
def m4(k:Int)(l:List Rx):Rx:=if k<0 then l.headD fO else .mk k 0 0 l
def X9{w:J}{rb:Nat}{sl:Sl}{st B:Int}{d:List FM}{g f:FM}{U:List I}{p:Addr}{own:List Nat}(H:LH (·∈own) w w [.c rb [sl.v,.int .i64 st,.int .i64 B] yV,.row iJ 10 sl (((d++[g])++[f]).flatMap FM.c),.rows ((d++[g]).flatMap FM.rows)] [.trees U])(h3:∀C∈d++[g],∀t∈C.U,t∈U)(j:sl.a=some p)(hl:d.length<=999999)(T:I)(y:T∈U)(hk:0<=f.k\/T.l≠[]):
  aj V Gg #[.pointer (some (ab rb)),T.s.v] w (iO w own U rb λr _ ai ao am aq _=>r=ae (.bool true)/\ai=d.map FM.x/\ao=jj g.x (m4 f.k (I.aw T.l))/\am=3/\aq=B):=by
 have hn:sl.n=(d++[g]).length+1:=by
  have A:aF w iJ 10 sl (((d++[g])++[f]).flatMap FM.c):=H.get 1;have:=A.len;rw[qp]at this
  grind
 have au:1<=sl.c:=by have A:aF w iJ 10 sl (((d++[g])++[f]).flatMap FM.c):=H.get 1;have:=A.cap;omega
 refine Ti.ok _ _ w _ (H.call (YG (H.ld 0 0) hn j (by grind)) ?_);rintro _ w1 rfl H1;refine⟨_,rfl,pw ⟨_,H1.g3 1 rfl j 0,?_⟩⟩;have D:=H1.drew;refine⟨sl,D.ld 0 0,sl,D.ld 0 0,?_⟩;have e:ah .i64 ((sl.n:Int) - 1)=(((d++[g]).length:Nat):Int):=by rw[aN _ (by grind)];omega
 rw[e];have A:aF w iJ 10 sl (((d++[g])++[f]).flatMap FM.c):=H.get 1;have ay:=A.cap;refine⟨co,co,?_⟩;have ev:Value.slice (if sl.c=0 then sl.a else sl.a.map (·.add (0 *10))) ((a5 (((d++[g]).length:Nat):Int)) - 0) (sl.c - 0)=(⟨sl.a,(d++[g]).length,sl.c⟩:Sl).v:=by rw[ag co,j];show Value.slice (some (p.add 0)) _ _=Value.slice (some p) _ _;rw[jg];simp
 rw[ev];refine D.st 0 0 rfl λq H3=>?_;have af:aF q iJ 10 sl (((d++[g])++[f]).flatMap FM.c):=H3.get 1;have aa:=acQ af j (d++[g]).length co;have et:(((d++[g])++[f]).flatMap FM.c).take ((d++[g]).length *10)=(d++[g]).flatMap FM.c:=by rw[de,<-qp,List.take_left'];rfl
 rw[et]at aa;have H4:=H3.ha 1 (.row iJ 10 ⟨sl.a,(d++[g]).length,sl.c⟩ ((d++[g]).flatMap FM.c)) rfl (Fr.refl _ _) aa λb z=>.inl z;have E:SF (·∈own) w q rb ⟨sl.a,(d++[g]).length,sl.c⟩ st B d g [] U:=by grind
 refine bP (λL=>?_) (λL=>?_)
 .have Q:f.k<0:=eP L;have ad:T.l≠[]:=hk.resolve_left co;obtain⟨C,l,hx⟩:=List.exists_cons_of_ne_nil ad;have hr:bL 4 q T.s (T.l.flatMap I.c):=((show I.Ps q U from E.getD 0).mem y).parts.1;have ax:=I.cH hr;refine⟨co,by grind,I.dy hr (i:=0) (t:=C) (by grind) λaz hq c=>⟨_,_,_,_,c.c0,c.c1,c.c2,c.c3,?_⟩⟩;have F:=abo E T y;refine(show SF (·∈own) w q rb ⟨sl.a,(d++[g]).length,sl.c⟩ st B d g [] (U++T.l)from F).zM (λZ S t h=>bG _ (h3 Z S t h)) j (λak W=>DF W (by grind) C (by grind)) ?_;rintro _ w4 al ac f4 p4 an ar ap Y M N K ⟨rfl,_,O,P,rfl,rfl⟩ G;refine⟨true,rfl,hQ G M N (λb z=>(K b z).imp (aaZ y) id) (λt h=>Y t (bG _ h)) ⟨rfl,O,?_,rfl,rfl⟩⟩;rw[P,hx];unfold m4;rw[av Q];rfl
 .have Q:¬f.k<0:=il L;have F:=abp E T y f.k 0 0;refine(show SF (·∈own) w q rb ⟨sl.a,(d++[g]).length,sl.c⟩ st B d g [] (U++[.mk f.k 0 0 T.s T.l])from F).zM (λZ S t h=>bG _ (h3 Z S t h)) j (λak W=>DF W (by grind) (.mk f.k 0 0 T.s T.l) ws) ?_;rintro _ w4 al ac f4 p4 an ar ap Y M N K ⟨rfl,_,O,P,rfl,rfl⟩ G;refine⟨true,rfl,hQ G M N (λb z=>(K b z).imp (abt y) id) (λt h=>Y t (bG _ h)) ⟨rfl,O,?_,rfl,rfl⟩⟩;rw[P];unfold m4;rw[ag Q];rfl
def mr(s:SX)(l:List Rx):Option SX:=match s.lo.getLast? with
 |none=>none
 |some g=>some ⟨s.lo.dropLast,jj g (m4 s.tp.k l),3,s.wd⟩
def I3(s':Sl)(f:FX):FX:=⟨f.k,(s',f.ar.2++[fi f]),[],[],[],0,f.la⟩
def fX(s':Sl)(t:Tk)(s:SX):Option SX:=
 if s.st=2 then(if t.k=40 then some ⟨s.lo++[s.tp],lP s.wd,1,s.wd⟩else none)
 else if s.st=1 then(if t.k=41 then mr s []else fY t s)
 else if s.st=0 then fY t s
 else if t.k=42 then some ⟨s.lo,jj s.tp (.mk 7 0 0 [s.tp.la]),s.st,s.wd⟩
 else if t.k=38 then some ⟨s.lo,kR s.tp,0,s.wd⟩
 else if t.k=124 then some ⟨s.lo,kQ s.tp,0,s.wd⟩
 else if t.k=44 then(if s.tp.k<0 then none else some ⟨s.lo,I3 s' s.tp,0,s.wd⟩)
 else if t.k=41 then(if s.lo=[]then none else mr s (s.tp.ar.2++[fi s.tp]))
 else if t.k=36 then(if s.lo=[]then some s else none)
 else fY t ⟨s.lo,lJ s.tp,s.st,s.wd⟩
section
variable {M:Nat->Prop} {w0 w1:J} {bs:List Nat} {G:List En} {rb:Nat} {sl:Sl} {st wd:Int} {fs:List FM} {f:FM} {U:List I} {p:Addr}
abbrev IF(M:Nat->Prop)(w0 w:J)(rb:Nat)(sl:Sl)(st wd:Int)(fs:List FM)(f:FM)(d:List ew)(G:List En)(U:List I):Prop:=LH M w0 w (SL rb sl st wd ((fs++[f]).flatMap FM.c) d++G) [.trees U]
def Sd(N:SF M w0 w1 rb sl st wd fs f G U)(i:Nat){src:Sl}(hi:(SL rb sl st wd ((fs++[f]).flatMap FM.c) ((fs++[f]).flatMap FM.rows)++G)[i]? =some (.row aZ 4 src z4))(H:sl.a=some p)(d:Nat)(D:1<=d)(E:d<=4)(t:I)(Y:(f.a6 d).2.length<=1000000)(ag:src.n=1){K:J->Prop}(hK:∀h w,SF M w0 w rb sl st wd fs (f.put d (h,(f.a6 d).2++[t])) G U->K w)(bF:∀b∈bs,En.g b∈G:=by simp):
  ∃(t15:Sl) (q:J),(eu #[i',i'] i' #[(f.a6 d).1.v,src.v]).run V w1=.ok (t15.v) q/\kept bs w1 q/\(0:Int)<=(((f.a6 d).1.n:Nat):Int)/\(((f.a6 d).1.n:Nat):Int)<(t15.n:Int)/\dV t15.a λj=>
   ((aS q (j.add (a5 (((f.a6 d).1.n:Nat):Int) *4)) (.int .i64 t.k) λx=>kept bs q x/\aS x ((j.add (a5 (((f.a6 d).1.n:Nat):Int) *4)).add 1) (.int .u8 (t.lo.toNat:Int)) λy=>kept bs x y/\aS y ((j.add (a5 (((f.a6 d).1.n:Nat):Int) *4)).add 2) (.int .u8 (t.hi.toNat:Int)) λz=>kept bs y z/\aS z ((j.add (a5 (((f.a6 d).1.n:Nat):Int) *4)).add 3) t.s.v λB=>kept bs z B/\aS B ((p.add (fs.length *10)).add d) t15.v λab=>kept bs B ab/\K ab)/\
   (aS q ((p.add (fs.length *10)).add d) t15.v λS=>kept bs q S/\aS S (j.add (a5 (((f.a6 d).1.n:Nat):Int) *4)) (.int .i64 t.k) λx=>kept bs S x/\aS x ((j.add (a5 (((f.a6 d).1.n:Nat):Int) *4)).add 1) (.int .u8 (t.lo.toNat:Int)) λy=>kept bs x y/\aS y ((j.add (a5 (((f.a6 d).1.n:Nat):Int) *4)).add 2) (.int .u8 (t.hi.toNat:Int)) λz=>kept bs y z/\aS z ((j.add (a5 (((f.a6 d).1.n:Nat):Int) *4)).add 3) t.s.v λB=>kept bs z B/\K B)):=by
 have aa:((fs++[f]).flatMap FM.rows)[fs.length *4+(d - 1)]? =some ((f.a6 d).1,(f.a6 d).2.flatMap I.c):=qT fs f (d - 1) _ (ur f D E);have nr:(f.a6 d).1.n=(f.a6 d).2.length:=by have H:(En.rows ((fs++[f]).flatMap FM.rows)).P w1:=N.get 2;exact I.cH (H.1 _ (aG aa)).bd
 have F:∀{L:List En},∀b∈bs,En.g b∈L++G:=λb Y=>dL _ (bF b Y);obtain⟨h,q,h1,ac,h3⟩:=N.zq (bs:=bs) (ty:=i') 2 (fs.length *4+(d - 1)) (src:=src) (news:=z4) (K:=λh w=>IF M w0 w rb sl st wd fs f (((fs++[f]).flatMap FM.rows).set (fs.length *4+(d - 1)) (h,(f.a6 d).2.flatMap I.c++z4)) G U/\h.n=(f.a6 d).1.n+1/\∃j,h.a=some j) rfl aa (aF.bd (N.get i hi)) (by simp[Value.oneCell']) co (λh w4 H4 ad af=>⟨H4,co,by
  cases hs:h.a with
  |none=>grind
  |some j=>grind⟩) F
 obtain⟨T,ae,j,O⟩:=h3;refine⟨h,q,h1,ac,co,co,?_⟩;rw[O];have Z:fs.length *4+(d - 1)<((fs++[f]).flatMap FM.rows).length:=by grind
 have W:∀(f:FM) (t:I) (d:Nat),(f.a6 d).2.flatMap I.c++t.c=((f.a6 d).2++[t]).flatMap I.c:=λf t d=>ws
 rw[nr];refine⟨?_,?_⟩
 .refine LH.vv (bs:=bs) T 2 (fs.length *4+(d - 1)) (f.a6 d).2.length t rfl (kq Z) O (I.e7 _) (λw A=>?_) F;have A:IF M w0 w rb sl st wd fs f ((((fs++[f]).flatMap FM.rows).set (fs.length *4+(d - 1)) (h,(f.a6 d).2.flatMap I.c++z4)).set (fs.length *4+(d - 1)) (h,(f.a6 d).2.flatMap I.c++t.c)) G U:=A;rw[List.set_set,W,uS fs f (h,(f.a6 d).2++[t]) D E]at A;exact A.i5 (bs:=bs) (f:=f) 1 (f.put d (h,(f.a6 d).2++[t])) d rfl H co (yh f (h,(f.a6 d).2++[t]) D E) (λQ C=>hK h Q C) F
 .refine T.i5 (bs:=bs) (f:=f) 1 (f.put d (h,(f.a6 d).2++[t])) d rfl H co (yh f (h,(f.a6 d).2++[t]) D E) (λw A=>?_) F;refine LH.vv (bs:=bs) (L:=SL rb sl st wd ((fs++[f.put d (h,(f.a6 d).2++[t])]).flatMap FM.c) (((fs++[f]).flatMap FM.rows).set (fs.length *4+(d - 1)) (h,(f.a6 d).2.flatMap I.c++z4))++G) A 2 (fs.length *4+(d - 1)) (f.a6 d).2.length t rfl (kq Z) O (I.e7 _) (λQ C=>?_) F;have C:LH M w0 Q (SL rb sl st wd ((fs++[f.put d (h,(f.a6 d).2++[t])]).flatMap FM.c) ((((fs++[f]).flatMap FM.rows).set (fs.length *4+(d - 1)) (h,(f.a6 d).2.flatMap I.c++z4)).set (fs.length *4+(d - 1)) (h,(f.a6 d).2.flatMap I.c++t.c))++G) [.trees U]:=C;rw[List.set_set,W,uS fs f (h,(f.a6 d).2++[t]) D E]at C
  grind
end
def sC{α:Type}(l:List α):l=[]\/∃a d,l=a++[d]:=by
 rcases List.eq_nil_or_concat l with h|⟨a,d,h⟩
 .grind
 grind
def J3(lo:List FX)(g d:FX)(st h:Int)(l:List Rx):mr ⟨lo++[g],d,st,h⟩ l=some ⟨lo,jj g (m4 d.k l),3,h⟩:=by unfold mr;simp
def tH(t:Tk)(S:SX):cE->Addr->List FX->FX->Int->Int->List I->Prop:=λr d lo j st q k=>∃h,zl (fX h t S) r d lo j st q k
def Ya{w:J}{rb:Nat}{f0:Addr}{lo:List FX}{tp:FX}{st y:Int}{own:List Nat}{U:List I}(h:St w rb f0 lo tp st y own U)(hl:lo.length<=999999)(hs:Small tp 999999)(h1:st=1->0<=tp.k/\lo≠[])(t:Tk):
  aj V Gh #[.pointer (some (ab rb)),t.v] w (iO w own U rb (tH t ⟨lo,tp,st,y⟩)):=by
 obtain⟨sl,j,f,p,rfl,rfl,N,D,rfl,bu⟩:=A1 h;have b5:j.length<=999999:=by grind
 have bM:f.n<=999999:=hs.n';have ak:Small f.x 1000000:=⟨by have:=hs.n';omega,by have:=hs.ar;omega,by have:=hs.al;omega,by have:=hs.an;omega,by have:=hs.ca;omega⟩;have base:∀b∈I.be U,b∈I.be U\/w.heap.size<=b\/b∈own:=λb Q=>.inl Q
 let af:Sl:=⟨none,0,0⟩
 refine yp.aD _ _ _ _ _ _ w _ (bu.aK (bs:=[]) (λq w1 H1=>?_) ws);have H1:SF (·∈own) w w1 rb sl st y j f [.g q] U:=H1;refine H1.aA (zF H1 D co) ?_;rintro _ Z rfl A;have A:SF (·∈own) w Z rb sl st y j f [.g q] U:=A;refine⟨_,rfl,st,A.ld 0 1,?_⟩;have item:∀{Z:J} {ay:Sl} {bc bf:Int} {ah:List FM} {f2:FM} {ao:List I} {p2:Addr},SF (·∈own) w Z rb ay bc bf ah f2 [.g q] ao->(∀g∈ah++[f2],∀t∈g.U,t∈ao)->ay.a=some p2->(∀b∈I.be ao,b∈I.be U\/w.heap.size<=b\/b∈own)->(∀t∈U,t∈ao)->ah.length<=1000000->f2.n<=1000000->
   fX af t ⟨j.map FM.x,f.x,st,y⟩=fY t ⟨ah.map FM.x,f2.x,bc,bf⟩->eJ [q] V Gi #[.pointer (some (ab rb)),t.v] Z λr_ w5=>∃t34:Bool,r_=ae (.bool t34)/\iO w own U rb (tH t ⟨j.map FM.x,f.x,st,y⟩) (ae (.bool t34)) w5:=by
  intro Z ay bc bf ah f2 ao p2 A aY a4 a5 aU bo bN he;refine A.mu (bs:=[q]) aY a4 (λau s1=>Yl s1 (by grind) bN t) ?_ ws;rintro r w3 Y M d p3 am aa L S H B O bQ H4;have Q:∀b∈I.be L,b∈I.be U\/w.heap.size<=b\/b∈own:=λb Q=>(O b Q).elim (a5 b) .inr;rcases bQ with⟨hn,rfl⟩|⟨bR,rfl⟩
  .exact ⟨false,rfl,hQ H4 H B Q (λt ht=>S t (aU t ht)) ⟨af,.inl ⟨he.trans hn,rfl⟩⟩⟩
  .exact ⟨true,rfl,hQ H4 H B Q (λt ht=>S t (aU t ht)) ⟨af,.inr ⟨he.trans bR,rfl⟩⟩⟩
 have close:∀{Z:J} {ay:Sl} {ah:List FM} {g2 f2:FM} {ao:List I} {p2:Addr} {s':Sl} (T:I),LH (·∈own) w Z ([.c rb [ay.v,.int .i64 st,.int .i64 y] yV,.row iJ 10 ay (((ah++[g2])++[f2]).flatMap FM.c),.rows ((ah++[g2]).flatMap FM.rows)]++[.g q]) [.trees ao]->(∀ac∈ah++[g2],∀t∈ac.U,t∈ao)->ay.a=some p2->ah.length<=999999->T∈ao->(0<=f2.k\/T.l≠[])->(∀b∈I.be ao,b∈I.be U\/w.heap.size<=b\/b∈own)->(∀t∈U,t∈ao)->
   fX s' t ⟨j.map FM.x,f.x,st,y⟩=some ⟨ah.map FM.x,jj g2.x (m4 f2.k (I.aw T.l)),3,y⟩->eJ [q] V Gg #[.pointer (some (ab rb)),T.s.v] Z λr_ w5=>∃t34:Bool,r_=ae (.bool t34)/\iO w own U rb (tH t ⟨j.map FM.x,f.x,st,y⟩) (ae (.bool t34)) w5:=by
  intro Z ay ah g2 f2 ao p2 s' T A aY a4 bo hT hk a5 aU he;refine LH.Zd (rb:=rb) (bs:=[q]) A (λau HA=>X9 HA aY a4 bo T hT hk) ?_ ws;rintro r w3 Y M d p3 am aa L S H B O ⟨rfl,ad,C,rfl,rfl⟩ H4;refine⟨true,rfl,hQ H4 H B (λb Q=>(O b Q).elim (a5 b) .inr) (λt ht=>S t (aU t ht)) ⟨s',.inr ⟨?_,rfl⟩⟩⟩
  grind
 refine bP (λa7=>?_) (λa7=>?_)
 .have a7:st=2:=eq_of_beq a7;refine j2 (n:=40) co (λhk:t.k=40=>⟨y,A.ld 0 2,?_⟩) (λhk:t.k≠40=>?_)
  .refine A.mu (bs:=[q]) N D (λau s1=>JE s1 co y 1) ?_ ws;rintro _ w3 Y M d p3 am aa L S H B O ⟨rfl,ad,C,rfl,rfl⟩ H4;refine⟨true,rfl,hQ H4 H B O S ⟨af,.inr ⟨?_,rfl⟩⟩⟩;rw[ad,C];unfold fX
   grind
  .refine hQ A N D base (λ_ h=>h) ⟨af,.inl ⟨?_,rfl⟩⟩;unfold fX
   grind
 have n2:st≠2:=λe=>by grind
 refine bP (λaN=>?_) (λaN=>?_)
 .have aN:st=1:=eq_of_beq aN;obtain⟨bI,b6⟩:=h1 aN;refine j2 (n:=41) co (λhk:t.k=41=>?_) (λhk:t.k≠41=>?_)
  .rcases sC j with rfl|⟨aB,g,rfl⟩
   .grind
   have H3:=HB A 3 0 0;have er:(((aB++[g])++[f]).flatMap FM.rows)=(aB++[g]).flatMap FM.rows++f.rows:=by grind
   have H4:LH (·∈own) w Z (SL rb sl st y (((aB++[g])++[f]).flatMap FM.c) ((aB++[g]).flatMap FM.rows++f.rows)++[.g q]) [.trees (U++[.mk 3 0 0 ⟨none,0,0⟩ []])]:=by grind
   have H5:=TC H4 2 rfl;refine close (s':=af) (.mk 3 0 0 ⟨none,0,0⟩ []) H5 (λac hx u z=>bG _ (N ac (bG _ hx) u z)) D (by grind) ws (.inl bI) (λb Q=>.inl (Am Q)) (λu z=>bG _ z) ?_;unfold fX;refine(ag n2).trans ((av aN).trans ((av hk).trans ?_));rw[ez];exact J3 _ _ _ _ _ _
  .refine item A N D base (λ_ h=>h) co co ?_;unfold fX
   grind
 have n1:st≠1:=λe=>by grind
 refine bP (λa8=>?_) (λa8=>?_)
 .have a8:st=0:=eq_of_beq a8;refine item A N D base (λ_ h=>h) co co ?_;unfold fX
  grind
 have n0:st≠0:=λe=>by grind
 have fe:∀s':Sl,fX s' t ⟨j.map FM.x,f.x,st,y⟩=(if t.k=42 then some ⟨j.map FM.x,jj f.x (.mk 7 0 0 [f.x.la]),st,y⟩
   else if t.k=38 then some ⟨j.map FM.x,kR f.x,0,y⟩
   else if t.k=124 then some ⟨j.map FM.x,kQ f.x,0,y⟩
   else if t.k=44 then(if f.x.k<0 then none else some ⟨j.map FM.x,I3 s' f.x,0,y⟩)
   else if t.k=41 then(if j.map FM.x=[]then none else mr ⟨j.map FM.x,f.x,st,y⟩ (f.x.ar.2++[fi f.x]))
   else if t.k=36 then(if j.map FM.x=[]then some ⟨j.map FM.x,f.x,st,y⟩else none)
   else fY t ⟨j.map FM.x,lJ f.x,st,y⟩):=λs'=>by
  unfold fX
  grind
 refine j2 (n:=42) co (λhk:t.k=42=>?_) (λbb:t.k≠42=>j2 (n:=38) co (λhk:t.k=38=>?_) (λba:t.k≠38=>j2 (n:=124) co (λhk:t.k=124=>?_) (λa9:t.k≠124=>j2 (n:=44) co (λhk:t.k=44=>?_) (λbU:t.k≠44=>j2 (n:=41) co (λhk:t.k=41=>?_) (λb9:t.k≠41=>j2 (n:=36) co (λhk:t.k=36=>?_) (λb8:t.k≠36=>?_))))))
 .obtain ⟨c0,c1,c2,c3⟩:=A.M5 1 rfl D;refine pw ⟨_,_,_,_,c0,c1,c2,c3,?_⟩;refine A.cZ (e:=aZ) (sz:=4) (n:=1) (cs:=f.la.c) rfl md λw7 H7=>pw ?_;have a1:((p.add (j.length *10)).add 6).add 1=(p.add (j.length *10)).add 7:=add_add _ 6 1;have a2:((p.add (j.length *10)).add 6).add 2=(p.add (j.length *10)).add 8:=add_add _ 6 2;have a3:((p.add (j.length *10)).add 6).add 3=(p.add (j.length *10)).add 9:=add_add _ 6 3;rw[a1,a2,a3];refine H7.i5 (bs:=[q]) (f:=f) 1 ⟨f.k,f.ar,f.al,f.an,f.ca,f.n,.mk 7 f.la.lo f.la.hi f.la.s f.la.l⟩ 6 rfl D co rfl (λw8 H8=>?_) ws;refine H8.i5 (bs:=[q]) (f:=⟨f.k,f.ar,f.al,f.an,f.ca,f.n,.mk 7 f.la.lo f.la.hi f.la.s f.la.l⟩) 1 ⟨f.k,f.ar,f.al,f.an,f.ca,f.n,.mk 7 0 f.la.hi f.la.s f.la.l⟩ 7 rfl D co rfl (λw9 H9=>?_) ws;refine H9.i5 (bs:=[q]) (f:=⟨f.k,f.ar,f.al,f.an,f.ca,f.n,.mk 7 0 f.la.hi f.la.s f.la.l⟩) 1 ⟨f.k,f.ar,f.al,f.an,f.ca,f.n,.mk 7 0 0 f.la.s f.la.l⟩ 8 rfl D co rfl (λcb bv=>?_) ws;refine bv.i5 (bs:=[q]) (f:=⟨f.k,f.ar,f.al,f.an,f.ca,f.n,.mk 7 0 0 f.la.s f.la.l⟩) 1 ⟨f.k,f.ar,f.al,f.an,f.ca,f.n,.mk 7 0 0 ⟨some (ab Z.heap.size),1,1⟩ [f.la]⟩ 9 rfl D co rfl (λbq bg=>?_) ws;have bK:f.la∈U:=N f ws _ (by simp[FM.U]);have bw:=bg.freeze 4 (I.row ⟨some (ab Z.heap.size),1,1⟩ [f.la]) rfl (by show bL 4 bq _ ([f.la].flatMap I.c);rw[show[f.la].flatMap I.c=f.la.c by simp];exact aF.bd (bg.get 4)) (λb Q=>gM (e:=aZ) (vs:=[f.la].flatMap I.c) Q);have bx:=bw.node 0 7 0 0 (s:=⟨some (ab Z.heap.size),1,1⟩) (ks:=[f.la]) rfl ws (λt ht=>by grind);have er:(j++[f]).flatMap FM.rows=(j++[(⟨f.k,f.ar,f.al,f.an,f.ca,f.n,.mk 7 0 0 ⟨some (ab Z.heap.size),1,1⟩ [f.la]⟩:FM)]).flatMap FM.rows:=by simp[FM.rows]
  have bz:SF (·∈own) w bq rb sl st y j ⟨f.k,f.ar,f.al,f.an,f.ca,f.n,.mk 7 0 0 ⟨some (ab Z.heap.size),1,1⟩ [f.la]⟩ [.g q] (U++[.mk 7 0 0 ⟨some (ab Z.heap.size),1,1⟩ [f.la]]):=by show LH _ _ _ (SL rb sl st y _ ((j++[(⟨f.k,f.ar,f.al,f.an,f.ca,f.n,.mk 7 0 0 ⟨some (ab Z.heap.size),1,1⟩ [f.la]⟩:FM)]).flatMap FM.rows)++_) _;rw[<-er];exact bx
  refine hQ bz (λg hg u z=>?_) D (λb Q=>?_) (λu z=>bG _ z) ⟨af,.inr ⟨?_,rfl⟩⟩
  .rcases aW.1 hg with hg|hg
   .grind
   .simp at hg;subst hg;simp only[FM.U,aW,aq,aL,aR]at z;rcases z with(((z|z)|z)|z)|rfl
    .exact bG _ (N f ws u (by simp[FM.U,z]))
    .exact bG _ (N f ws u (by simp[FM.U,z]))
    .exact bG _ (N f ws u (by simp[FM.U,z]))
    .exact bG _ (N f ws u (by simp[FM.U,z]))
    .simp
  .obtain ⟨u,z,aC⟩:=I.bZ.1 Q;rcases aW.1 z with z|z
   .exact .inl (I.bZ.2 ⟨u,z,aC⟩)
   .simp at z;rw[z]at aC;rcases I.gG.1 aC with aC|aC
    .have:=gM (e:=aZ) aC;simp[En.row,ax,I.s]at this;subst this;exact .inr (.inl A.fr.size)
    .obtain ⟨t',ap,aS⟩:=I.bZ.1 aC;simp[I.l]at ap;rw[ap]at aS;exact .inl (I.bZ.2 ⟨f.la,bK,aS⟩)
  .rw [fe,av hk];rfl
 .refine A.mu (bs:=[q]) N D (λau s1=>zv (Js s1 ak.n' ak.ca ak.an)) ?_ ws;rintro _ w3 Y M d p3 am aa L S H B O ⟨rfl,bm,ad,C,rfl,rfl⟩ H3;refine⟨rfl,H3.vO (bs:=[q]) 0 1 rfl (λw4 H4=>?_) ws ws⟩;refine hQ (show SF (·∈own) w w4 rb Y 0 aa M d [.g q] L from H4) H B O S ⟨af,.inr ⟨?_,rfl⟩⟩
  grind
 .refine A.mu (bs:=[q]) N D (λau s1=>zv (Jq s1 ak.n' ak.ca ak.an ak.al)) ?_ ws;rintro _ w3 Y M d p3 am aa L S H B O ⟨rfl,bm,ad,C,rfl,rfl⟩ H3;refine⟨rfl,H3.vO (bs:=[q]) 0 1 rfl (λw4 H4=>?_) ws ws⟩;refine hQ (show SF (·∈own) w w4 rb Y 0 aa M d [.g q] L from H4) H B O S ⟨af,.inr ⟨?_,rfl⟩⟩
  grind
 .refine pw ⟨f.k,A.g3 1 rfl D 0,bP (λh0=>?_) (λh0=>?_)⟩
  .refine hQ A N D base (λ_ h=>h) ⟨af,.inl ⟨?_,rfl⟩⟩;rw[fe,ag bb,ag ba,ag a9,av hk];exact av (eP h0)
  have fin:∀{w5:J} {Y:Sl} {M:List FM} {d:FM} {p3:Addr} {L:List I} {s':Sl} {u:I} {G:List En},SF (·∈own) w w5 rb Y st y M (d.put 1 (s',(d.a6 1).2++[u])) G L->(∀g∈M++[d],∀t∈g.U,t∈L)->Y.a=some p3->(∀b∈I.be L,b∈I.be U\/w.heap.size<=b\/b∈own)->(∀t∈U,t∈L)->M.map FM.x=j.map FM.x->d.x=Eu f.x->u∈L->u.rx=fi f.x->
    yp.bW (ab rb) w5 (iO w own U rb (tH t ⟨j.map FM.x,f.x,st,y⟩)):=by
   intro w5 Y M d p3 L s' u G H5 H B bD bT ad C z hx;refine H5.st 0 1 rfl λw6 H6=>?_;refine hQ (show SF (·∈own) w w6 rb Y 0 y M (d.put 1 (s',(d.a6 1).2++[u])) G L from H6) (λg hg v W=>?_) B bD bT ⟨s',.inr ⟨?_,rfl⟩⟩
   .rcases aW.1 hg with hg|hg
    .grind
    .simp at hg;subst hg;rcases Be _ _ co co W with h|h
     .grind
     .rcases aW.1 h with h|h
      .exact H d ws v (o1 d 1 h)
      grind
   .have e1:d.k=f.k:=by have:=congrArg FX.k C;exact this
    have e2:I.aw d.ar.2=I.aw f.ar.2:=by have:=congrArg (λac:FX=>ac.ar.2) C;exact this
    have e3:I.aw d.al.2=[]:=by have:=congrArg FX.al C;exact this
    have e4:I.aw d.an.2=[]:=by have:=congrArg FX.an C;exact this
    have e5:I.aw d.ca.2=[]:=by have:=congrArg FX.ca C;exact this
    have e6:d.n=0:=by have:=congrArg FX.n C;exact this
    have e7:d.la.rx=f.x.la:=by have:=congrArg FX.la C;exact this
    rw[fe,ag bb,ag ba,ag a9,av hk];refine(ag (il h0)).trans ?_;show some (SX.mk _ ⟨_,(s',I.aw f.ar.2++[fi f.x]),[],[],[],0,f.x.la⟩ 0 y)=some (SX.mk (M.map FM.x) ⟨d.k,(s',I.aw (d.ar.2++[u])),I.aw d.al.2,I.aw d.an.2,I.aw d.ca.2,d.n,d.la.rx⟩ 0 y);rw[ad,e1,e3,e4,e5,e6,e7,ku,e2];show some (SX.mk _ ⟨_,(s',I.aw f.ar.2++[fi f.x]),[],[],[],0,f.x.la⟩ 0 y)=some (SX.mk _ ⟨_,(s',I.aw f.ar.2++[u.rx]),[],[],[],0,f.x.la⟩ 0 y);rw[hx];rfl
  refine pw (A.ai (bs:=[q]) (λbr aX=>⟨f.ar.1,aX.g3 1 rfl D 1,?_,?_⟩) ws)
  .refine (show SF (·∈own) w br rb sl st y j f [.g q] U from aX).mu (bs:=[q]) N D (λau s1=>zC s1 ak) ?_ ws;rintro r bt Y M d p3 am aa L S H B O ⟨aJ,ad,C,rfl,rfl,u,z,rfl,hx⟩ aH;have aI:d.ar.1=f.ar.1:=by have:=congrArg (λac:FX=>ac.ar.1) C;exact this
   refine⟨u.k,u.lo.toNat,u.hi.toNat,u.s,rfl,?_⟩;rw[<-aJ,<-aI];refine⟨aH.g3 1 rfl B 1,aH.cZ (e:=aZ) (sz:=4) (n:=1) (cs:=z4) rfl md λbV bh=>⟨bh.g3 1 rfl B 1,?_⟩⟩;have aT:(d.a6 1).2.length<=1000000:=by have e:d.x.ar.2.length=d.ar.2.length:=(EY d).1;rw[C]at e;have:f.x.ar.2.length<=999999:=hs.ar;show d.ar.2.length<=_;rw[<-e];show f.x.ar.2.length<=_;omega
   exact Sd (bs:=[q]) (K:=λw5=>yp.bW (ab rb) w5 (iO w own U rb (tH t ⟨j.map FM.x,f.x,am,aa⟩))) (show SF (·∈own) w bV rb Y am aa M d ([.g q]++[.row aZ 4 ⟨some (ab bt.heap.size),1,1⟩ z4]) L from bh) 4 rfl B 1 co co u aT rfl (λs' w5 H5=>fin H5 H B O S ad C z hx) ws
  .refine aX.cZ (e:=aZ) (sz:=4) (n:=1) (cs:=z4) rfl md λbY bi=>⟨bi.g3 1 rfl D 1,?_⟩;refine(show SF (·∈own) w bY rb sl st y j f ([.g q]++[.row aZ 4 ⟨some (ab br.heap.size),1,1⟩ z4]) U from bi).mu (bs:=[q]) N D (λau s1=>zC s1 ak) ?_ ws;rintro r bt Y M d p3 am aa L S H B O ⟨aJ,ad,C,rfl,rfl,u,z,rfl,hx⟩ aH;have aI:d.ar.1=f.ar.1:=by have:=congrArg (λac:FX=>ac.ar.1) C;exact this
   refine⟨u.k,u.lo.toNat,u.hi.toNat,u.s,rfl,?_⟩;rw[<-aJ,<-aI];refine⟨aH.g3 1 rfl B 1,?_⟩;have aT:(d.a6 1).2.length<=1000000:=by have e:d.x.ar.2.length=d.ar.2.length:=(EY d).1;rw[C]at e;have:f.x.ar.2.length<=999999:=hs.ar;show d.ar.2.length<=_;rw[<-e];show f.x.ar.2.length<=_;omega
   exact Sd (bs:=[q]) (K:=λw5=>yp.bW (ab rb) w5 (iO w own U rb (tH t ⟨j.map FM.x,f.x,am,aa⟩))) aH 4 rfl B 1 co co u aT rfl (λs' w5 H5=>fin H5 H B O S ad C z hx) ws
 .refine A.ai (bs:=[q]) (λb0 az=>⟨sl,az.ld 0 0,?_⟩) ws;have az:SF (·∈own) w b0 rb sl st y j f [.g q] U:=az;have bS:=BB az;rcases sC j with rfl|⟨aB,g,rfl⟩
  .refine aP (aV (by grind)) ?_;refine hQ az N D base (λ_ h=>h) ⟨af,.inl ⟨?_,rfl⟩⟩
   grind
  .refine aM (aQ (by grind)) (pw ⟨f.ar.1,az.g3 1 rfl D 1,?_⟩);refine az.mu (bs:=[q]) N D (λau s1=>zC s1 ak) ?_ ws;rintro r b1 Y M d p3 am aa L S H B O ⟨aJ,ad,C,rfl,rfl,u,z,rfl,hx⟩ bj;have aI:d.ar.1=f.ar.1:=by have:=congrArg (λac:FX=>ac.ar.1) C;exact this
   refine⟨u.k,u.lo.toNat,u.hi.toNat,u.s,rfl,?_⟩;rw[<-aJ,<-aI];refine⟨bj.g3 1 rfl B 1,bj.cZ (e:=aZ) (sz:=4) (n:=1) (cs:=u.c) rfl md λb2 aO=>⟨aO.g3 1 rfl B 1,?_⟩⟩;have bF:∃E F,M=E++[F]/\E.map FM.x=aB.map FM.x/\F.x=g.x:=by
    rcases sC M with rfl|⟨E,F,rfl⟩
    .grind
    .refine ⟨E,F,rfl,?_⟩;rw[ez,ez]at ad;have:=List.append_inj' ad rfl
     grind
   obtain⟨E,F,rfl,bE,bH⟩:=bF;have bp:(((E++[F])++[d]).flatMap FM.rows)[(E++[F]).length *4+0]? =some (d.ar.1,d.ar.2.flatMap I.c):=qT (E++[F]) d 0 _ rfl;have aT:d.ar.2.length<=999999:=by have e:d.x.ar.2.length=d.ar.2.length:=(EY d).1;rw[C]at e;have:f.x.ar.2.length<=999999:=hs.ar;rw[<-e];exact this
   have nr:d.ar.1.n=d.ar.2.length:=by have hp:(En.rows (((E++[F])++[d]).flatMap FM.rows)).P b2:=aO.get 2;exact I.cH (hp.1 _ (aG bp)).bd
   refine aO.zq (bs:=[q]) 2 ((E++[F]).length *4+0) (src:=⟨some (ab b1.heap.size),1,1⟩) (news:=u.c) rfl bp (aF.bd (aO.get 4)) (by simp[Value.oneCell',I.c]) (by grind) (λs' b4 bk bM b7=>?_) ws;have bn:(E++[F]).length *4+0<(((E++[F])++[d]).flatMap FM.rows).length:=by grind
   have bO:∀b∈ax s',b∈own\/w.heap.size<=b:=λb Q=>(bk.new (.rows ((((E++[F])++[d]).flatMap FM.rows).set ((E++[F]).length *4+0) (s',d.ar.2.flatMap I.c++u.c))) ws b (a0.2 (bX.2 ⟨_,aG (kq bn),Q⟩))).symm;have bl:=bk.E2 2 ((E++[F]).length *4+0) rfl (kq bn);have ec:d.ar.2.flatMap I.c++u.c=(d.ar.2++[u]).flatMap I.c:=ws
   rw[ec]at bl;have bA:=bl.node 0 3 0 0 (s:=s') (ks:=d.ar.2++[u]) rfl (dL _ (List.mem_singleton.2 rfl)) (λv W=>by
    rcases aW.1 W with W|W
    .exact H d ws v (o1 d 1 W)
    grind)
   have er:(((((E++[F])++[d]).flatMap FM.rows).set ((E++[F]).length *4+0) (s',(d.ar.2++[u]).flatMap I.c)).set ((E++[F]).length *4+0) (⟨none,0,0⟩,[]))=(E++[F]).flatMap FM.rows++d.rows.set 0 (⟨none,0,0⟩,[]):=by rw[List.set_set];exact Hr (E++[F]) d 0 _ co
   have bB:LH (·∈own) w b4 (SL rb Y am aa (((E++[F])++[d]).flatMap FM.c) ((E++[F]).flatMap FM.rows++d.rows.set 0 (⟨none,0,0⟩,[]))++[.g q]) [.trees (L++[.mk 3 0 0 s' (d.ar.2++[u])])]:=by rw[<-er];exact bA.take 4
   have bC:=TC bB 2 rfl;have bJ:d.k=f.k:=by have:=congrArg FX.k C;exact this
   refine close (s':=af) (.mk 3 0 0 s' (d.ar.2++[u])) bC (λac hx v W=>bG _ (H ac (bG _ hx) v W)) B ?_ ws (.inr (by simp[I.l])) ?_ (λv W=>bG _ (S v W)) ?_
   .grind
   .intro b Q;obtain⟨v,W,aE⟩:=I.bZ.1 Q;rcases aW.1 W with W|W
    .exact O b (I.bZ.2 ⟨v,W,aE⟩)
    .simp at W;rw[W]at aE;rcases I.gG.1 aE with aE|aE
     .exact .inr (bO b (gM (e:=aZ) aE)).symm
     .obtain ⟨t',ap,aS⟩:=I.bZ.1 aE;have ap:t'∈d.ar.2++[u]:=ap;refine O b (I.bZ.2 ⟨t',?_,aS⟩);rcases aW.1 ap with ap|ap
      .exact H d ws t' (o1 d 1 ap)
      grind
   .rw [fe,ag bb,ag ba,ag a9,ag bU,av hk];refine(ag ws).trans ?_;rw[ez];refine(J3 _ _ _ _ _ _).trans ?_;have e2:I.aw d.ar.2=f.x.ar.2:=by have:=congrArg (λac:FX=>ac.ar.2) C;exact this
    rw[bE,bH,bJ];show _=some (SX.mk _ (jj g.x (m4 f.k (I.aw (d.ar.2++[u])))) 3 aa);rw[ku,e2];show _=some (SX.mk _ (jj g.x (m4 f.k (f.x.ar.2++[u.rx]))) 3 aa);rw[hx];rfl
 .refine ⟨sl,A.ld 0 0,?_⟩;have bS:=BB A;rcases sC j with rfl|⟨aB,g,rfl⟩
  .have e:((sl.n:Int)==1)=true:=by grind
   rw[e];refine hQ A N D base (λ_ h=>h) ⟨af,.inr ⟨?_,rfl⟩⟩
   grind
  .have e:((sl.n:Int)==1)=false:=by grind
   rw[e];refine hQ A N D base (λ_ h=>h) ⟨af,.inl ⟨?_,rfl⟩⟩
   grind
 .refine A.mu (bs:=[q]) N D (λau s1=>zv (Jr s1 ak.n' ak.ca)) ?_ ws;rintro _ w3 Y M d p3 am aa L S H B O ⟨rfl,bm,ad,C,rfl,rfl⟩ H3;refine⟨rfl,item H3 H B O S ?_ ?_ ?_⟩
  .grind
  .have e5:d.n=0:=by have:=congrArg FX.n C;exact this
   omega
  grind
def aee(s:ByteArray)(c:UInt8)(w:J):Sem.run V (callFunc u9 #[.string s,.int .u8 (c.toNat:Int)]) w=.ok (.value (.int .i64 (Go.Lib.indexByte (bl s) c))) w:=by have d:=run_callFunc_indexByte (P:=V) (f:=u9) (fn:=(Tryz.prog.funcs[u9]?).getD default) (by kernel_rfl) (by kernel_rfl) (by kernel_rfl) (by kernel_rfl) (by kernel_rfl) #[.string s,.int .u8 (c.toNat:Int)] w;rw[d,Go.Lib.run_indexByteString];show Result.ok _ w=_;congr 4;simp
def Hy(s:ByteArray)(c:UInt8)(w:J):aj V Gn #[.string s,.int .u8 (c.toNat:Int)] w λr d=>r=ae (.int .i64 (Go.Lib.indexByte (bl s) c))/\af w d:=by
 refine HX.ok _ _ w _ ?_;refine(show aj V F4 #[.string s,.int .u8 (c.toNat:Int)] w λr d=>r=ae (.int .i64 (Go.Lib.indexByte (bl s) c))/\w=d from ?_).mono ?_
 .exact Fh.ok _ _ w _ ⟨_,w,aee s c w,rfl,rfl⟩
 .rintro r h ⟨rfl,rfl⟩;exact⟨_,rfl,rfl,Fr.refl _ _⟩
def ky(c:UInt8):Bool:=au (97<=c.toNat)&&au (c.toNat<=122)
def vm(c:UInt8):Bool:=au (32<=c.toNat)&&(au (c.toNat<=126)&&(!decide (c=39)&&!decide (c=92)))
def zE(c:UInt8)(w:J):aj V PM #[.int .u8 (c.toNat:Int)] w λr h=>r=ae (.bool (ky c))/\af w h:=by
 refine Tl.ok _ w _ (aE (λd=>⟨?_,Fr.refl _ _⟩) (λd=>⟨?_,Fr.refl _ _⟩))
 .unfold ky;rw[aQ (show 97<=c.toNat by omega),Bool.true_and];rw[show au ((c.toNat:Int)<=122)=au (c.toNat<=122)from decide_eq_decide.2 co]
 .unfold ky;rw[aV (show ¬97<=c.toNat by omega),Bool.false_and]
def VJ(c:UInt8)(n:Nat)(d:n<256):((c.toNat:Int)==(n:Int))=au (c=c9 n):=by
 have e:c.toNat=n↔c=c9 n:=by rw[<-UInt8.toNat_inj,UInt8.toNat_ofNat'];omega
 rw[Bool.eq_iff_iff,beq_iff_eq,decide_eq_true_iff,<-e];omega
def JC(c:UInt8)(w:J):aj V PJ #[.int .u8 (c.toNat:Int)] w λr x=>r=ae (.bool (vm c))/\af w x:=by
 have h:((c.toNat:Int) !=39)= !decide (c=39):=by have:=VJ c 39 co;show(!((c.toNat:Int)==((39:Nat):Int)))=_;rw[this];rfl
 have j:((c.toNat:Int) !=92)= !decide (c=92):=by have:=VJ c 92 co;show(!((c.toNat:Int)==((92:Nat):Int)))=_;rw[this];rfl
 refine Tg.ok _ w _ ?_;rw[h,j];unfold vm;refine aE (λk=>?_) (λk=>⟨?_,Fr.refl _ _⟩)
 .rw [aQ (show 32<=c.toNat by omega),Bool.true_and];refine aE (λq=>?_) (λq=>⟨?_,Fr.refl _ _⟩)
  .rw [aQ (show c.toNat<=126 by omega),Bool.true_and];refine bP (λd=>⟨?_,Fr.refl _ _⟩) (λd=>⟨?_,Fr.refl _ _⟩)
   .rw [d,Bool.true_and]
   .rw [d,Bool.false_and]
  .rw [aV (show ¬c.toNat<=126 by omega),Bool.false_and]
 .rw [aV (show ¬32<=c.toNat by omega),Bool.false_and]
def Xw{s:ByteArray}{l:List UInt8}(h:bl s=l)(i:Nat):s[i]? =l[i]?:=by
 subst h;by_cases d:i<s.size
 .rw [getElem?_pos s i d,a' (by rw[dQ];exact d)];rfl
 .rw [getElem?_neg s i d,List.getElem?_eq_none (by rw[dQ];omega)]
def lZ{s:ByteArray}{i:Nat}(h:i<s.size):s[i]? =some ((bl s).getD i 0):=by
 rw[Xw (s:=s) (l:=bl s) rfl i];have d:i<(bl s).length:=by rw[dQ];exact h
 rw[List.getD_eq_getElem?_getD,a' d];rfl
def qt:List UInt8:=[48,49,50,51,52,53,54,55,56,57,97,98,99,100,101,102]
def aax(a b:Int):UInt8:=c9 (ah .u8 (nX .i64 (ah .i64 (a *2^4)) b)).toNat
def kO(l:List UInt8)(i:Nat):Option (UInt8×Nat):=
 if i+2<l.length/\l.getD i 0=39/\vm (l.getD (i+1) 0)=true/\l.getD (i+2) 0=39 then some (l.getD (i+1) 0,3)
 else if i+3<l.length/\l.getD i 0=92/\l.getD (i+1) 0=120/\0<=Go.Lib.indexByte qt (l.getD (i+2) 0)/\0<=Go.Lib.indexByte qt (l.getD (i+3) 0)then some (aax (Go.Lib.indexByte qt (l.getD (i+2) 0)) (Go.Lib.indexByte qt (l.getD (i+3) 0)),4)
 else none
def EB:Option (UInt8×Nat)->aa
 |none=>.tuple #[.int .u8 0,.int .i64 0,.bool false]
 |some (b,n)=>.tuple #[.int .u8 (b.toNat:Int),.int .i64 (n:Int),.bool true]
def B5{x:UInt8}{n:Nat}{A B:Prop}(j:n<256)(d:x=c9 n->A)(h:x≠c9 n->B):bt ((x.toNat:Int)==(n:Int)) A B:=j2 j d h
def agc(x:Int):((c9 (ah .u8 x).toNat).toNat:Int)=ah .u8 x:=by rw[UInt8.toNat_ofNat',IntKind.wrap_u8];omega
def DG(s:ByteArray)(i:Nat)(hi:i<=1000000)(w:J):aj V Pz #[.string s,.int .i64 (i:Int)] w λr d=>r=ae (EB (kO (bl s) i))/\af w d:=by
 have F:ah .i64 ((i:Int)+1)=((i+1:Nat):Int):=by rw[aN _ co];omega
 have G:ah .i64 ((i:Int)+2)=((i+2:Nat):Int):=by rw[aN _ co];omega
 have N:ah .i64 ((i:Int)+3)=((i+3:Nat):Int):=by rw[aN _ co];omega
 have T:(bl s).length=s.size:=dQ s;have q:¬(i+2<(bl s).length/\(bl s).getD i 0=39/\vm ((bl s).getD (i+1) 0)=true/\(bl s).getD (i+2) 0=39)->∀d,af w d->Bo.S0 s i d (λr d=>r=ae (EB (kO (bl s) i))/\af w d):=by
  intro H d k;have no:¬(i+3<(bl s).length/\(bl s).getD i 0=92/\(bl s).getD (i+1) 0=120/\0<=Go.Lib.indexByte qt ((bl s).getD (i+2) 0)/\0<=Go.Lib.indexByte qt ((bl s).getD (i+3) 0))->∀d,af w d->Bo.S1 d (λr d=>r=ae (EB (kO (bl s) i))/\af w d):=λQ d k=>by refine⟨?_,k⟩;unfold kO;rw[ag H,ag Q];rfl
  show bt _ _ _;rw[N,G,F];refine aE (λP=>⟨co,_,lZ (i:=i) co,B5 (n:=92) co (λj=>⟨co,_,lZ (i:=i+1) co,B5 (n:=120) co (λD=>?_) (λD=>no (λh=>D h.2.2.1) d k)⟩) (λj=>no (λh=>j h.2.1) d k)⟩) (λP=>no (λh=>co) d k);refine(show LH F0 w d [] []from((LH.start (M:=F0) (w:=w) [] ws).br k)).dr λE K=>⟨co,_,lZ (i:=i+2) co,co,_,lZ (i:=i+3) co,K.call (Hy _ _ _) ?_⟩;rintro _ U rfl L;refine⟨_,rfl,L.call (Hy _ _ _) ?_⟩;rintro _ I rfl y;refine⟨_,rfl,?_⟩;show bt (au (Go.Lib.indexByte qt _>=0)) (bt (au (Go.Lib.indexByte qt _>=0)) _ _) _;refine aE (λA=>aE (λB=>⟨?_,y.fr⟩) (λB=>no (λh=>B h.2.2.2.2) I y.fr)) (λA=>no (λh=>A h.2.2.2.1) I y.fr);unfold kO;rw[ag H,av ⟨co,j,D,A,B⟩];exact congrArg (λS=>Ending.returned (.tuple #[.int .u8 S,.int .i64 4,.bool true])) (agc _).symm
 refine Bo.ok _ _ w _ ?_;rw[G,F];refine aE (λO=>⟨co,_,lZ (i:=i) co,B5 (n:=39) co (λj=>⟨co,_,lZ (i:=i+1) co,(JC _ w).mono ?_⟩) (λj=>q (λh=>j h.2.1) w (Fr.refl _ _))⟩) (λO=>q (λh=>co) w (Fr.refl _ _));rintro _ E ⟨rfl,z⟩;refine⟨_,rfl,bP (λx=>⟨co,_,lZ (i:=i+2) co,B5 (n:=39) co (λC=>⟨co,_,lZ (i:=i+1) co,?_,z⟩) (λC=>q (λh=>C h.2.2.2) E z)⟩) (λx=>q (λh=>by rw[h.2.2.1]at x;cases x) E z)⟩;unfold kO;rw[av ⟨co,j,x,C⟩];rfl
end Go.Proofs.YtnaglpcbkhjpnaaGreatDoor
