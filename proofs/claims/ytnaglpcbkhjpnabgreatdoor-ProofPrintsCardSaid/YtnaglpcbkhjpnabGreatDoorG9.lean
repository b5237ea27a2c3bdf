import Derived.Test.YtnaglpcbkhjpnabGreatDoorWN
import Derived.Test.YtnaglpcbkhjpnabGreatDoorU
import Derived.Laws.StandIn
import Derived.Lib.Bytealg
set_option linter.unusedVariables false
set_option linter.defProp false
set_option maxRecDepth 100000
noncomputable section
namespace Go.Proofs.YtnaglpcbkhjpnabGreatDoor
open Go renaming World->J,Calls->ai,Value->aa,Ending->bW,FuncId->cR,LoopState->kH
open Go.IntKind renaming wrap->aj
open _root_.Int renaming toNat->a0
open Go.IntWalk renaming i64_in->aQ
open Go.Builtin renaming append_->eA
open _root_.Bool renaming and_eq_true->bH
open _root_.Nat renaming le_refl->br,le_trans->bb
open _root_.UInt8 renaming ofNat->db
open _root_.Option.some renaming inj->fb
open Go.Proofs.Tryz renaming prog->V
open _root_.Decidable renaming decide->av
open Go.Ending renaming returned->ae
open List renaming mem_append->aX,mem_cons->aq,not_mem_nil->aL,mem_of_getElem?->aD,getElem?_eq_getElem->a',getElem?_eq_some_iff->cX,mem_append_left->bV,mem_append_right->eD,mem_flatMap->cc,mem_map->bS,length_take->f',flatMap_append->cW,flatMap_cons->cH,mem_iff_getElem?->hJ,nodup_append->hL,take_add_one->dV,map_append->fK,getElem?_set_self->kv,take_of_length_le->eO
open Go Go.W
def lK:g7 V dP aV (.agg #[.int .i64 0,.int .u8 0,.int .u8 0,.slice none 0 0]) 4 40:=⟨by kernel_rfl,by kernel_rfl,rfl,md,md⟩
def DW(w:J):ai V pD #[] w λr j=>gz w e2 r j/\af w j:=by
 refine K6.aC ((bK [] ws).aH λb x k=>k.cZ (n:=1) (sz:=4) (cs:=cC.c) rfl md λz q=>q.ah λy h=>⟨⟨.mk 6 0 0 ⟨some (ab x.heap.size),1,1⟩ [cC],rfl,rfl,?_,λc d=>?_⟩,h.fr⟩)
 .unfold I.P I.Ps I.Ps;exact⟨(h.get 1:aG _ _ _ _ _).bf,k5 y,trivial⟩
 .unfold I.fp I.bj I.bj at d;rcases aX.1 d with d|d
  .exact (h.new _ (aD (i:=1) rfl) c (gY d)).resolve_right id
  .rcases aX.1 d with d|d
   .exact (k6 d).elim
   grind
def hH(r:I):List I->List I
 |[]=>[r]
 |d::p=>if be d.rx r.rx<0 then d::hH r p else if be d.rx r.rx=0 then d::p else r::d::p
def Tg(r:I):∀l:List I,(hH r l).map I.rx=lX r.rx (l.map I.rx)
 |[]=>rfl
 |d::p=>by
  unfold hH;rw[List.map_cons];unfold lX;split
  .rw [List.map_cons,Tg r p]
  grind
def Bo{t r:I}:∀{p:List I},t∈hH r p->t=r\/t∈p
 |[],d=>by unfold hH at d;grind
 |h::p,d=>by
  unfold hH at d;split at d
  .rcases aq.1 d with rfl|d
   .simp
   .rcases Bo d with d|d<;>simp[d]
  grind
def Te(r:I):∀l:List I,I.a9 (hH r l)<=r.sz+I.a9 l
 |[]=>by show r.sz+0<=r.sz+0;omega
 |d::p=>by
  unfold hH;split
  .have:=Te r p;show d.sz+I.a9 (hH r p)<=r.sz+(d.sz+I.a9 p);omega
  .split
   .omega
   .exact br _
def Td{r:I}:∀{l:List I} {k:Nat},k<=l.length->(∀j t,j<k->l[j]? =some t->be t.rx r.rx<0)->(∀t,l[k]? =some t->¬be t.rx r.rx<0)->
  (∀t,l[k]? =some t->be t.rx r.rx=0->hH r l=l)/\((∀t,l[k]? =some t->be t.rx r.rx≠0)->hH r l=l.take k++r::l.drop k)
 |[],k,w,d,h=>⟨λt y=>by grind,λ_=>by simp[hH]⟩
 |q::p,0,w,d,h=>by
  have:=h q rfl;unfold hH
  grind
 |q::p,k+1,w,d,h=>by
  have A:=d 0 q co rfl;have B:=Td (r:=r) (l:=p) (k:=k) (by grind) (λj t z x=>d (j+1) t co (by grind)) (λt x=>h t (by grind));unfold hH
  grind
def TM{w:J}{s:Sl}{l:List I}(h:bN 4 w s (l.flatMap I.c))(a b:Nat)(d:a<=b)(j:b<=l.length):bN 4 w (pW 4 s a b) (((l.take b).drop a).flatMap I.c):=by have k:=I.cI h;have:=h.sub a b d co;rw[KC,KM _ _ (by grind)]at this;omega
abbrev bZ(s:Sl)(l:List I):I:=.mk 0 0 0 s l
def I9(d:List Nat)(w:J)(l:List I)(r:bW)(Y:J):Prop:=∃s:Sl,r=ae s.v/\(bZ s l).P Y/\∀b∈(bZ s l).fp,w.heap.size<=b\/b∈d
def dT{w:J}{s:Sl}{l:List I}:(bZ s l).P w↔bN 4 w s (l.flatMap I.c)/\I.Ps w l:=by
 unfold bZ I.P
 grind
def mO{s:Sl}{l:List I}{b:Nat}:b∈(bZ s l).fp↔b∈(I.row s l).fp\/b∈I.bj l:=by
 unfold bZ I.fp
 grind
def Zo(s:Sl)(l:List I)(r:I)(w:J)(hl:I.a9 l<=100000)(hr:r.sz<=100000)(px:(bZ s l).P w)(pr:r.P w):
  ai V OD #[s.v,r.v] w λe z=>I9 ((bZ s l).fp++r.fp) w (hH r l) e z/\af w z:=by
 have ao:=I.cI (dT.1 px).1;have ll:=I.gh l
 let Y:aK:=λe z=>I9 ((bZ s l).fp++r.fp) w (hH r l) e z/\af w z
 have fin:∀(k:Nat) (sl:Sl) (L:List En) (i:Nat) (h:J),k<=l.length->hH r l=l.take k++r::l.drop k->L[i]? =some (.row aV 4 sl ((l.take k++[r]).flatMap I.c))->LH F0 w h L [.tree (bZ s l),.tree r]->
   qB.dc s (k:Int) sl h Y:=by
  intro k sl L i h B Q ag q;have ap:(bZ s l).P h:=q.getD 0;have S:=TM (dT.1 ap).1 k l.length B (br _);rw[List.take_length]at S;have am:aG h aV 4 sl ((l.take k++[r]).flatMap I.c):=q.get i ag;have aa:=I.cI am.bf;have au:(l.take k++[r]).length=k+1:=by grind
  refine⟨co,co,?_⟩;obtain⟨F,z,H,h2,h3⟩:=q.dp (U:=[]) i (ty:=dP) (K:=λF z=>∃L',L'[i]? =some (.row aV 4 F ((hH r l).flatMap I.c))/\LH F0 w z L' [.tree (bZ s l),.tree r]) lK (src:=pW 4 s k l.length) (news:=(l.drop k).flatMap I.c) ag S (ur _) (by show(sl.n+(l.length - k)) *40<=_;omega) (λF z H'=>⟨_,by
   grind,H'⟩)
  obtain⟨L',Z,G⟩:=h3;have e1:(a0 (k:Int))=k:=rfl;refine⟨F,z,by rw[e1,ao];exact H,⟨F,rfl,dT.2 ⟨(G.get i Z:aG _ _ _ _ _).bf,I.jd λt D=>?_⟩,λb O=>?_⟩,G.fr⟩
  .rcases Bo D with rfl|D
   .exact G.getD 1
   .exact (dT.1 (G.getD 0)).2.mem D
  .rcases mO.1 O with O|O
   .exact .inl ((G.new _ (aD Z) b (gY O)).resolve_right id)
   .obtain ⟨t,D,ak⟩:=I.b'.1 O;rcases Bo D with rfl|D
    .grind
    .exact .inr (bV _ (mO.2 (.inr (I.b'.2 ⟨t,D,ak⟩))))
 have s2:∀(k:Nat) (j:Nat) (h:J),k<=l.length->hH r l=l.take k++r::l.drop k->LH F0 w h [.g j] [.tree (bZ s l),.tree r]->qB.cd s j r.k r.lo.toNat r.hi.toNat r.s (k:Int) h Y:=by
  intro k j h B Q q;have ar:s.n<=s.c:=(dT.1 (show(bZ s l).P h from q.getD 0)).1.2.1;have aj:∀z:J,(bZ s l).P z->bN 4 z (pW 4 s 0 k) ((l.take k).flatMap I.c):=λz ae=>TM (dT.1 ae).1 0 k co B;have e1:(a0 (k:Int))=k:=rfl;refine⟨co,co,q.ah λA x=>?_,q.ah λA x=>?_⟩
  .refine (x.fY aV 4).dp 1 lK (s:=⟨none,0,0⟩) (xs:=[]) (src:=pW 4 s 0 k) (news:=(l.take k).flatMap I.c) rfl (aj A (x.getD 0)) (ur _) (by show(0+(k - 0)) *40<=_;omega) (λF M y=>?_);have y:LH F0 w M [.g j,.row aV 4 F ((l.take k).flatMap I.c)] [.tree (bZ s l),.tree r]:=y;have aa:=I.cI (y.get 1:aG _ _ _ _ _).bf;rw[f']at aa;refine y.iD 1 lK (xs:=(l.take k).flatMap I.c) rfl (λad w4 N=>?_) co;refine fin k ad _ 1 w4 B Q ?_ N;show some _=some _;rw[nr];rfl
  .refine x.cZ (n:=1) (sz:=4) (cs:=r.c) rfl md λM y=>?_;refine(y.fY aV 4).dp 2 lK (s:=⟨none,0,0⟩) (xs:=[]) (src:=pW 4 s 0 k) (news:=(l.take k).flatMap I.c) rfl (aj M (y.getD 0)) (ur _) (by show(0+(k - 0)) *40<=_;omega) (λF w4 N=>?_);have N:LH F0 w w4 [.g j,.row aV 4 ⟨some (ab A.heap.size),1,1⟩ r.c,.row aV 4 F ((l.take k).flatMap I.c)] [.tree (bZ s l),.tree r]:=N;have aa:=I.cI (N.get 2:aG _ _ _ _ _).bf;rw[f']at aa;refine N.dp 2 lK (xs:=(l.take k).flatMap I.c) (src:=⟨some (ab A.heap.size),1,1⟩) (news:=r.c) rfl (N.get 1:aG _ _ _ _ _).bf (λu hu=>ur [r] u (by grind)) (by grind) (λad w5 H5=>?_);refine fin k ad _ 2 w5 B Q ?_ H5
   grind
 have s1:∀(k:Nat) (j:Nat) (h:J),k<=l.length->(∀E t,E<k->l[E]? =some t->be t.rx r.rx<0)->(∀t,l[k]? =some t->¬be t.rx r.rx<0)->LH F0 w h [.g j] [.tree (bZ s l),.tree r]->qB.b3 s j r.k r.lo.toNat r.hi.toNat r.s (k:Int) h Y:=by
  intro k j h B H h2 q;obtain⟨Z,G⟩:=Td B H h2;refine aF (λal=>?_) (λal=>q.ah λA x=>s2 k j A B (G λt D=>by grind) x);have C:l[k]? =some l[k]:=a' co;generalize l[k]'co=t at C;have T:=aD C;refine⟨co,co,I.dE (dT.1 (show(bZ s l).P h from q.getD 0)).1 C λp S _=>q.ah λA x=>?_⟩;have W:(bZ s l).P A:=x.getD 0;have c:=I.again (dT.1 W).1 C S;refine⟨_,_,_,_,c.c0,c.c1,c.c2,c.c3,x.aA (rY t r A (by have:=I.eK T;omega) ((dT.1 W).2.mem T) (x.getD 1)) ?_⟩;rintro _ M rfl y;refine⟨_,rfl,aP (λh0=>⟨⟨s,rfl,?_,λb O=>.inr ?_⟩,y.fr⟩) (λh0=>s2 k j M B (G λt' ac=>by grind) y)⟩
  .rw [Z t C h0];exact y.getD 0
  grind
 have loop:∀(d k:Nat) (j:Nat) (h:J),k+d=l.length->(∀E t,E<k->l[E]? =some t->be t.rx r.rx<0)->LH F0 w h [.g j] [.tree (bZ s l),.tree r]->qB.a6 s j r.k r.lo.toNat r.hi.toNat r.s (k:Int) h Y:=by
  intro d;induction d with
  |zero=>
   intro k j h B H q;exact qB.bD (aN (aW co) (q.ah λA x=>s1 k j A co H (λt D=>by grind) x))
  |succ d an=>
   intro k j h B H q;have C:l[k]? =some l[k]:=a' co;generalize l[k]'co=t at C;have T:=aD C;refine qB.bD (aM (aR co) ⟨co,co,I.dE (dT.1 (show(bZ s l).P h from q.getD 0)).1 C λp S _=>q.ah λA x=>?_⟩);have W:(bZ s l).P A:=x.getD 0;have c:=I.again (dT.1 W).1 C S;refine⟨_,_,_,_,c.c0,c.c1,c.c2,c.c3,x.aA (rY t r A (by have:=I.eK T;omega) ((dT.1 W).2.mem T) (x.getD 1)) ?_⟩;rintro _ M rfl y;refine⟨_,rfl,aF (λh0=>?_) (λh0=>s1 k j M co H (λt' ac=>by grind) y)⟩;rw[bc _ co];refine an (k+1) j M co (λE t' hq ac=>?_) y;by_cases e:E=k
   .grind
   .exact H E t' co ac
 exact qB.aC ((bK [.tree (bZ s l),.tree r] (by
  intro e Q;simp only[aq,aL,aO]at Q;rcases Q with rfl|rfl
  .exact px
  .exact pr)).aH λj h H1=>loop l.length 0 j h co (λE t ae=>co) H1)
def GZ(k:Int)(t:Rx):∀(l out:List Rx),hG k out (l++[t])=if k=3 then hG k out l++[t]else lX t (hG k out l)
 |[],out=>by show hG k (if k=3 then out++[t]else lX t out) []=_;unfold hG;rfl
 |a::l,out=>by show hG k (if k=3 then out++[a]else lX a out) (l++[t])=_;rw[GZ k t l];rfl
def agX(x d:I)(w:x.k=3\/x.k=4\/x.k=5)(h:d.rx=e2):∃(j:Nat) (u z:I),aj .i64 (x.k - 3)=(j:Int)/\j<3/\[fS,cC,d][j]? =some u/\[cC,d,cC][j]? =some z/\(u=fS\/u=cC\/u=d)/\(z=cC\/z=d)/\u.rx≠z.rx/\
  ib (.mk x.k 0 0 (I.aw x.l))=hf x.k (I.aw x.l) u.rx z.rx:=by
 rcases w with q|q|q<;>rw[q]
 .exact ⟨0,fS,cC,md,md,rfl,rfl,.inl rfl,.inl rfl,(by intro e;cases e),rfl⟩
 .exact ⟨1,cC,d,md,md,rfl,rfl,.inr (.inl rfl),.inr rfl,(by rw[h];intro e;cases e),by rw[h];rfl⟩
 .exact ⟨2,d,cC,md,md,rfl,rfl,.inr (.inr rfl),.inl rfl,(by rw[h];intro e;cases e),by rw[h];rfl⟩
section
variable {x ev u z:I} {sf:Sl} {w:J} {b4 b8 b9:Nat}
def aeZ(hx:x.sz<=10000)(a1:ev.rx=e2)(a6:∀b∈ev.fp,w.heap.size<=b)(hu:u=fS\/u=cC\/u=ev)(ax:z=cC\/z=ev)(aF:u.rx≠z.rx)(aq:ib (.mk x.k 0 0 (I.aw x.l))=hf x.k (I.aw x.l) u.rx z.rx){q:J}(H:LH F0 w q [.g b4,.g b8,.g b9] [.tree x,.tree ev,.tree (bZ sf (x.l.flatMap (fk x)))]):
  iJ.lB x.k b4 0 0 0 ⟨none,0,0⟩ sf b8 u.k u.lo.toNat u.hi.toNat u.s b9 z.k z.lo.toNat z.hi.toNat z.s ⟨none,0,0⟩ 0 q λr B=>gO x.fp w (ib (.mk x.k 0 0 (I.aw x.l))) r B/\af w B:=by
 let R:aK:=λr B=>gO x.fp w (ib (.mk x.k 0 0 (I.aw x.l))) r B/\af w B
 have av:Sub x (x.l.flatMap (fk x)):=Sub.flat λ_ aa=>aa;have aC:I.a9 (x.l.flatMap (fk x))<=I.a9 x.l:=v7 x x.l;have ai:((x.l.flatMap (fk x)).map I.rx).filter (λt=>!(be t u.rx==0))=hD x.k (I.aw x.l) u.rx:=by rw[<-xS];unfold gT;rw[List.filter_map];rfl
 generalize x.l.flatMap (fk x)=fl at H av aC ai;have an:=av;have a3:=I.iR x;have a2:I.a9 fl<=10000:=co
 have a4:=I.gh fl;have a7:sf.n=fl.length:=I.cI (dT.1 (show(bZ sf fl).P q from H.getD 2)).1;have ao:∀B,ev.P B->u.P B:=λB aa=>by
  rcases hu with rfl|rfl|rfl
  .exact z8 B
  .exact k5 B
  omega
 have ak:∀B,ev.P B->z.P B:=λB aa=>by
  rcases ax with rfl|rfl
  .exact k5 B
  omega
 have aE:∀b∈u.fp,w.heap.size<=b:=λb h=>by
  rcases hu with rfl|rfl|rfl
  .exact (z9 h).elim
  .exact (k6 h).elim
  grind
 have ay:∀b∈z.fp,w.heap.size<=b:=λb h=>by
  rcases ax with rfl|rfl
  .exact (k6 h).elim
  grind
 have ap:∀t∈fl,t.rx=z.rx->ib (.mk x.k 0 0 (I.aw x.l))=z.rx:=λt ht e=>by rw[aq];unfold hf;rw[au];rw[List.any_eq_true];refine⟨t.rx,?_,r4.2 e⟩;rw[<-ai,List.mem_filter];exact⟨bS.2 ⟨t,ht,rfl⟩,Kt.2 (e▸λaa=>aF aa.symm)⟩
 have aB:(∀t∈fl,t.rx≠z.rx)->ib (.mk x.k 0 0 (I.aw x.l))=uU x.k u.rx (hG x.k [] ((fl.map I.rx).filter λt=>!(be t u.rx==0))):=λaa=>by
  rw[aq,adQ,ai];unfold hf;rw[ag]
  .rfl
  .rw [List.any_eq_true];rintro⟨t,ht,he⟩;rw[<-ai,List.mem_filter]at ht;obtain⟨W,A,rfl⟩:=bS.1 ht.1;exact aa W A (r4.1 he)
 have fin:∀(j:List I) (y:Sl) (L D:List En) (q:J),(∀t∈fl,t.rx≠z.rx)->j.map I.rx=hG x.k [] ((fl.map I.rx).filter λt=>!(be t u.rx==0))->(∀t∈j,t∈fl)->LH F0 w q L (.tree x::.tree ev::D)->(∀b∈[b4,b8,b9],En.g b∈L)->(∀B,LH F0 w B L (.tree x::.tree ev::D)->bN 4 B y (j.flatMap I.c)/\∀b∈(I.row y j).fp,w.heap.size<=b\/b∈x.fp)->
   bA ((y.n:Int)==0) (loc [b4,b8,b9] q λaU=>R (ae u.v) aU) (bA ((y.n:Int)==1) (fx y 0 λp=>gC q (p.add (a0 0 *4)) λa b c d=>loc [b4,b8,b9] q λaY=>R (ae (.agg #[.i a,.int .u8 b,.int .u8 c,d.v])) aY) (loc [b4,b8,b9] q λaZ=>R (ae (.agg #[.i x.k,.int .u8 0,.int .u8 0,y.v])) aZ)):=by
  intro j y L D q U M T H h ar;have hr:=ar q H;have ba:=I.cI hr.1;have ej:=aB U;rw[<-M]at ej;have aj:Sub x j:=an.sub T;refine aP (λS=>H.ah (λG C=>⟨⟨u,rfl,?_,ao G (C.getD 1),λb h=>.inl (aE b h)⟩,C.fr⟩) h) (λS=>aP (λh1=>?_) (λh1=>H.ah (λG C=>⟨⟨.mk x.k 0 0 y j,rfl,?_,?_,λb h=>?_⟩,C.fr⟩) h))
  .have:j=[]:=List.length_eq_zero_iff.1 co;rw[ej,this];rfl
  .obtain ⟨a,rfl⟩:=List.length_eq_one_iff.1 (show j.length=1 by omega);refine⟨co,co,I.dE hr.1 (i:=0) (t:=a) rfl λp N c=>⟨_,_,_,_,c.c0,c.c1,c.c2,c.c3,H.ah (λG C=>⟨⟨a,rfl,?_,aj.P _ (C.getD 0) a ws,λb h=>.inr (aj.fp a ws b h)⟩,C.fr⟩) h⟩⟩;rw[ej];rfl
  .rw [ej];unfold I.rx;rw[I.gb];cases j with
   |nil=>grind
   |cons a ks=>
    cases ks with
    |nil=>grind
    |cons b ks=>rfl
  .unfold I.P;exact⟨(ar G C).1,aj.Ps (C.getD 0)⟩
  .unfold I.fp at h;rcases aX.1 h with h|h
   .grind
   .exact .inr (aj.bj h)
 have aH:x.k=3->∀(d i:Nat) (y:Sl) (j:List I) (q:J),i+d=fl.length->(∀t∈fl.take i,t.rx≠z.rx)->j.map I.rx=hG x.k [] (((fl.take i).map I.rx).filter λt=>!(be t u.rx==0))->(∀t∈j,t∈fl)->I.a9 j<=I.a9 (fl.take i)->
   LH F0 w q [.g b4,.g b8,.g b9,.row aV 4 y (j.flatMap I.c)] [.tree x,.tree ev,.tree (bZ sf fl)]->iJ.lB x.k b4 0 0 0 ⟨none,0,0⟩ sf b8 u.k u.lo.toNat u.hi.toNat u.s b9 z.k z.lo.toNat z.hi.toNat z.s y (i:Int) q R:=by
  intro hk d;induction d with
  |zero=>
   intro i y j q al U M T hs H;rw[eO co]at U M;refine iJ.rJ (aN (aW co) ?_);exact fin j y _ _ q U M T H ws (λB H'=>⟨(H'.get 3:aG _ _ _ _ _).bf,λb h=>.inl ((H'.new _ (aD (i:=3) rfl) b (gY h)).resolve_right id)⟩)
  |succ d ad=>
   intro i y j q al U M T hs H;have E:fl[i]? =some fl[i]:=a' co;generalize fl[i]'co=t at E;have F:=aD E;have aS:=I.eK F;have ab:fl.take (i+1)=fl.take i++[t]:=by rw[dV,E];rfl
   have aO:I.a9 (fl.take (i+1))=I.a9 (fl.take i)+t.sz:=by rw[ab,v5];rfl
   have aQ:=B1 fl (i+1);refine iJ.rJ (aM (aR co) ⟨co,co,I.dE (dT.1 (show(bZ sf fl).P q from H.getD 2)).1 E λp N _=>H.ah λG C=>?_⟩);have p2:(bZ sf fl).P G:=C.getD 2;have O:=I.again (dT.1 p2).1 E N;refine⟨_,_,_,_,O.c0,O.c1,O.c2,O.c3,C.aA (rY t z G co ((dT.1 p2).2.mem F) (ak G (C.getD 1))) ?_⟩;rintro _ w3 rfl Y;refine⟨_,rfl,aP (λS=>Y.ah λw4 H4=>⟨⟨z,rfl,?_,ak w4 (H4.getD 1),λb h=>.inl (ay b h)⟩,H4.fr⟩) (λS=>?_)⟩
   .exact (ap t F (xj.1 S)).symm
   refine⟨co,co,I.dE (dT.1 (show(bZ sf fl).P w3 from Y.getD 2)).1 E λp N _=>Y.ah λw5 Z=>?_⟩;have p5:(bZ sf fl).P w5:=Z.getD 2;have Q:=I.again (dT.1 p5).1 E N;refine⟨_,_,_,_,Q.c0,Q.c1,Q.c2,Q.c3,Z.aA (rY t u w5 co ((dT.1 p5).2.mem F) (ao w5 (Z.getD 1))) ?_⟩;rintro _ w6 rfl K;have ac:∀W∈fl.take (i+1),W.rx≠z.rx:=λW A=>by
    rw[ab]at A;rcases aX.1 A with A|A
    .grind
    .simp at A;subst A;exact λe=>S (xj.2 e)
   refine⟨_,rfl,aP (λh1=>?_) (λh1=>aM (beq_iff_eq.2 hk) ?_)⟩
   .show iJ.lB _ _ _ _ _ _ _ _ _ _ _ _ _ _ _ _ _ _ _ _ _;rw[bc _ co];refine ad (i+1) y j w6 co ac ?_ T co K
    grind
   .have ef:((fl.take (i+1)).map I.rx).filter (λt=>!(be t u.rx==0))=(((fl.take i).map I.rx).filter λt=>!(be t u.rx==0))++[t.rx]:=by grind
    refine⟨co,co,I.dE (dT.1 (show(bZ sf fl).P w6 from K.getD 2)).1 E λp N c=>⟨_,_,_,_,c.c0,c.c1,c.c2,c.c3,?_⟩⟩;have a8:=I.cI (K.get 3:aG _ _ _ _ _).bf;have a5:=I.gh j;refine K.iD 3 lK (xs:=j.flatMap I.c) rfl (λs' w7 H7=>?_) co;show iJ.lB _ _ _ _ _ _ _ _ _ _ _ _ _ _ _ _ _ _ _ _ _;rw[bc _ co];refine ad (i+1) s' (j++[t]) w7 co ac ?_ (λW A=>?_) (by rw[v5];show _+(t.sz+0)<=_;omega) ?_
    .rw [ef,GZ,au hk,fK,M];rfl
    .rcases aX.1 A with A|A
     .grind
     grind
    .rw [nr];exact H7
 have aI:x.k≠3->∀(d i:Nat) (y:Sl) (j:List I) (q:J),i+d=fl.length->(∀t∈fl.take i,t.rx≠z.rx)->j.map I.rx=hG x.k [] (((fl.take i).map I.rx).filter λt=>!(be t u.rx==0))->(∀t∈j,t∈fl)->I.a9 j<=I.a9 (fl.take i)->(∀b∈(bZ y j).fp,w.heap.size<=b\/b∈x.fp)->
   LH F0 w q [.g b4,.g b8,.g b9] [.tree x,.tree ev,.tree (bZ sf fl),.tree (bZ y j)]->iJ.lB x.k b4 0 0 0 ⟨none,0,0⟩ sf b8 u.k u.lo.toNat u.hi.toNat u.s b9 z.k z.lo.toNat z.hi.toNat z.s y (i:Int) q R:=by
  intro hk d;induction d with
  |zero=>
   intro i y j q al U M T hs am H;rw[eO co]at U M;refine iJ.rJ (aN (aW co) ?_);exact fin j y _ _ q U M T H ws (λB H'=>⟨(dT.1 (show(bZ y j).P B from H'.getD 3)).1,λb h=>am b (mO.2 (.inl h))⟩)
  |succ d ad=>
   intro i y j q al U M T hs am H;have E:fl[i]? =some fl[i]:=a' co;generalize fl[i]'co=t at E;have F:=aD E;have aS:=I.eK F;have ab:fl.take (i+1)=fl.take i++[t]:=by rw[dV,E];rfl
   have aO:I.a9 (fl.take (i+1))=I.a9 (fl.take i)+t.sz:=by rw[ab,v5];rfl
   have aQ:=B1 fl (i+1);refine iJ.rJ (aM (aR co) ⟨co,co,I.dE (dT.1 (show(bZ sf fl).P q from H.getD 2)).1 E λp N _=>H.ah λG C=>?_⟩);have p2:(bZ sf fl).P G:=C.getD 2;have O:=I.again (dT.1 p2).1 E N;refine⟨_,_,_,_,O.c0,O.c1,O.c2,O.c3,C.aA (rY t z G co ((dT.1 p2).2.mem F) (ak G (C.getD 1))) ?_⟩;rintro _ w3 rfl Y;refine⟨_,rfl,aP (λS=>Y.ah λw4 H4=>⟨⟨z,rfl,?_,ak w4 (H4.getD 1),λb h=>.inl (ay b h)⟩,H4.fr⟩) (λS=>?_)⟩
   .exact (ap t F (xj.1 S)).symm
   refine⟨co,co,I.dE (dT.1 (show(bZ sf fl).P w3 from Y.getD 2)).1 E λp N _=>Y.ah λw5 Z=>?_⟩;have p5:(bZ sf fl).P w5:=Z.getD 2;have Q:=I.again (dT.1 p5).1 E N;refine⟨_,_,_,_,Q.c0,Q.c1,Q.c2,Q.c3,Z.aA (rY t u w5 co ((dT.1 p5).2.mem F) (ao w5 (Z.getD 1))) ?_⟩;rintro _ w6 rfl K;have ac:∀W∈fl.take (i+1),W.rx≠z.rx:=λW A=>by
    rw[ab]at A;rcases aX.1 A with A|A
    .grind
    .simp at A;subst A;exact λe=>S (xj.2 e)
   refine⟨_,rfl,aP (λh1=>?_) (λh1=>aN (by grind) ?_)⟩
   .show iJ.lB _ _ _ _ _ _ _ _ _ _ _ _ _ _ _ _ _ _ _ _ _;rw[bc _ co];refine ad (i+1) y j w6 co ac ?_ T co am K
    grind
   .have ef:((fl.take (i+1)).map I.rx).filter (λt=>!(be t u.rx==0))=(((fl.take i).map I.rx).filter λt=>!(be t u.rx==0))++[t.rx]:=by grind
    refine⟨co,co,I.dE (dT.1 (show(bZ sf fl).P w6 from K.getD 2)).1 E λp N c=>⟨_,_,_,_,c.c0,c.c1,c.c2,c.c3,?_⟩⟩;refine gn ((Zo y j t w6 co co (K.getD 3) ((dT.1 (show(bZ sf fl).P w6 from K.getD 2)).2.mem F)).mono ?_);rintro _ w7 ⟨⟨s',rfl,aL,az⟩,f7⟩;refine⟨f7,?_⟩;have aJ:∀b∈(bZ s' (hH t j)).fp,w.heap.size<=b\/b∈x.fp:=λb h=>by
     rcases az b h with h|h
     .exact .inl (bb K.fr.size h)
     .rcases aX.1 h with h|h
      .grind
      .exact .inr (an.fp t F b h)
    have H8:LH F0 w w7 [.g b4,.g b8,.g b9] [.tree x,.tree ev,.tree (bZ sf fl),.tree (bZ y j),.tree (bZ s' (hH t j))]:=K.gP _ f7 aL λb h=>by
     rcases az b (aT.1 h)with h|h
     .omega
     .rcases aX.1 h with h|h
      .exact .inr (.inr ⟨_,aD (i:=3) rfl,aT.2 h⟩)
      .exact .inr (.inr ⟨_,aD (i:=0) rfl,aT.2 (an.fp t F b h)⟩)
    refine⟨s',rfl,?_⟩;show iJ.lB _ _ _ _ _ _ _ _ _ _ _ _ _ _ _ _ _ _ _ _ _;rw[bc _ co];refine ad (i+1) s' (hH t j) w7 co ac ?_ (λW A=>?_) (by have:=Te t j;omega) aJ (H8.forget _ ws)
    .rw [ef,GZ,ag hk,Tg,M]
    .rcases Bo A with rfl|A
     .exact F
     grind
 by_cases hk:x.k=3
 .exact aH hk fl.length 0 ⟨none,0,0⟩ [] q co ws (by simp[hG]) ws (by grind) (H.fY aV 4)
 .refine aI hk fl.length 0 ⟨none,0,0⟩ [] q co ws (by simp[hG]) ws (by grind) (λb h=>?_) (H.gP (.tree (bZ ⟨none,0,0⟩ [])) (Fr.refl _ _) (dT.2 ⟨bN.nil 4 q,by unfold I.Ps;trivial⟩) λb h=>?_)
  .rcases mO.1 h with h|h
   .simp [I.row,En.bf]at h
   .unfold I.bj at h;cases h
  .rcases mO.1 (aT.1 h)with h|h
   .simp [I.row,En.bf]at h
   .unfold I.bj at h;cases h
end
def Zx(x:I)(Z:3<=x.k/\x.k<=7)(hx:x.sz<=10000)(N:kW (.mk x.k 0 0 (I.aw x.l))=true)(az:∀c∈x.l,0<=c.k)(w:J)(px:x.P w):
  ai V OA #[.i x.k,x.s.v] w λr Y=>gO x.fp w (ib (.mk x.k 0 0 (I.aw x.l))) r Y/\af w Y:=by
 have a2:=I.cI px.parts.1;have aZ:=I.iR x;have aQ:=I.gh x.l;refine iJ.aC ((hj px).aH λH G H1=>H1.iF (DW G) ?_);rintro _ w2 ⟨q,rfl,ae,aJ,ao⟩ H2 F2;have H3:LH F0 w w2 [.g H] [.tree x,.tree q]:=F2.rd (.tree q) aJ λb j=>ao b (aT.1 j);have aI:∀b∈q.fp,w.heap.size<=b:=λb j=>bb H1.fr.size (ao b j);have pc:∀{Y:J} {c:I},x.P Y->x.l[0]? =some c->c.P Y:=λac h=>ac.parts.2.mem (aD h);have fc:∀{c:I},x.l[0]? =some c->∀b∈c.fp,b∈x.fp:=λh b j=>I.gU.2 (.inr (I.b'.2 ⟨_,aD h,j⟩));refine⟨_,_,_,q.s,rfl,H3.aH λL w3 E=>aP (λU=>?_) (λU=>aP (λh7=>?_) (λh7=>E.ah λM C=>?_))⟩
 .
  cases Q:x.l with
  |nil=>rw[Q,U]at N;simp[kW,I.aw]at N
  |cons c D=>
   have h:x.l[0]? =some c:=by grind
   have n2:0<x.s.n:=by grind
   have e1:I.aw (c::D)=c.rx::I.aw D:=rfl;have ef:ib (.mk x.k 0 0 (I.aw (c::D)))=qU 0 0 (c.rx::I.aw D):=by rw[U];rfl
   rw[ef];refine⟨co,co,I.dE (show x.P w3 from E.getD 0).parts.1 h λp B _=>E.ah λw5 C=>?_⟩;have O:x.P w5:=C.getD 0;have z:=I.again O.parts.1 h B;refine⟨c.k,z.c0,aP (λad=>⟨co,co,I.dE O.parts.1 h λp B z=>⟨c.s,z.c3,?_⟩⟩) (λad=>C.ah λA y=>⟨⟨.mk 6 0 0 x.s x.l,rfl,?_,?_,λb j=>.inr ?_⟩,y.fr⟩)⟩
   .cases am:c.l with
    |nil=>
     rw[Q,e1]at N;have ap:c.rx.l.isEmpty=true:=by rw[yM,am];rfl
     simp[kW,U,mg,ad,ap]at N
    |cons d l2=>
     have aj:c.l[0]? =some d:=by grind
     refine jc (pc O h) rfl aj (C.ah λA y=>⟨⟨d,rfl,?_,(pc (y.getD 0) h).parts.2.mem (aD aj),λb j=>.inr (fc h b (I.gU.2 (.inr (I.b'.2 ⟨d,aD aj,j⟩))))⟩,y.fr⟩);show d.rx=if c.rx.k=6 then _ else _;rw[au (by rw[mg,ad]),yM,am];rfl
   .show Rx.mk 6 0 0 (I.aw x.l)=if c.rx.k=6 then _ else _;rw[ag (by rw[mg];omega),Q,e1]
   .unfold I.P;exact(show x.P A from y.getD 0).parts
   .unfold I.fp at j;exact I.gU.2 (aX.1 j)
 .
  cases Q:x.l with
  |nil=>rw[Q,h7]at N;simp[kW,I.aw]at N
  |cons c D=>
   have h:x.l[0]? =some c:=by grind
   have n2:0<x.s.n:=by grind
   have e1:I.aw (c::D)=c.rx::I.aw D:=rfl;have ef:ib (.mk x.k 0 0 (I.aw (c::D)))=mj 0 0 (c.rx::I.aw D):=by rw[h7];rfl
   rw[ef];have aq:mj 0 0 (c.rx::I.aw D)=if c.k=0\/c.k=1 then oi else if c.k=7\/be c.rx e2=0 then c.rx else .mk 7 0 0 (c.rx::I.aw D):=by unfold mj;simp only[mg]
   have aK:c.sz<=1000000:=by have:=I.eK (aD h);omega
   have s0:∀(A:J),¬(c.k=0\/c.k=1)->(c.k=7\/be c.rx e2=0)->LH F0 w A [.g H,.g L] [.tree x,.tree q]->iJ.bt x.s H 0 0 0 ⟨none,0,0⟩ A λr Y=>gO x.fp w (mj 0 0 (c.rx::I.aw D)) r Y/\af w Y:=by
    intro A h1 h2 y;refine⟨co,co,I.dE (show x.P A from y.getD 0).parts.1 h λp B z=>⟨_,_,_,_,z.c0,z.c1,z.c2,z.c3,(y.take 1).ah λw7 F=>⟨⟨c,rfl,?_,pc (F.getD 0) h,λb j=>.inr (fc h b j)⟩,F.fr⟩⟩⟩
    grind
   refine⟨co,co,I.dE (show x.P w3 from E.getD 0).parts.1 h λp B _=>E.ah λw5 C=>?_⟩;have O:x.P w5:=C.getD 0;have z:=I.again O.parts.1 h B;have aO:0<=c.k:=az c (aD h);refine⟨c.k,z.c0,aF (λh2=>C.ah λA y=>⟨⟨fS,rfl,?_,z8 A,λb j=>(z9 j).elim⟩,y.fr⟩) (λh2=>?_)⟩
   .rw [aq,au co];rfl
   refine⟨co,co,I.dE O.parts.1 h λp B _=>C.ah λA y=>?_⟩;have ak:x.P A:=y.getD 0;have z:=I.again ak.parts.1 h B;refine⟨c.k,z.c0,aP (λal=>s0 A co (.inl al) y) (λal=>⟨co,co,I.dE ak.parts.1 h λp B z=>⟨_,_,_,_,z.c0,z.c1,z.c2,z.c3,y.aA (rY c q A aK (pc ak h) (y.getD 1)) ?_⟩⟩)⟩;rintro _ w7 rfl F;rw[ae];refine⟨_,rfl,aP (λh0=>s0 w7 co (.inr h0) F) (λh0=>F.ah λw8 T=>⟨⟨.mk 7 0 0 x.s x.l,rfl,?_,?_,λb j=>.inr ?_⟩,T.fr⟩)⟩
   .show Rx.mk 7 0 0 (I.aw x.l)=_
    grind
   .unfold I.P;exact(show x.P w8 from T.getD 0).parts
   .unfold I.fp at j;exact I.gU.2 (aX.1 j)
 .
  have ar:x.k=3\/x.k=4\/x.k=5:=co
  obtain⟨a1,u,a5,ew,aL,gu,gz,hu,aE,aB,av⟩:=agX x q ar ae;have loop:∀(d i:Nat) (acc:List I) (sl:Sl) (G:J),i+d=x.l.length->acc=(x.l.take i).flatMap (fk x)->LH F0 w G [.g H,.g L,.row aV 4 sl (acc.flatMap I.c)] [.tree x,.tree q]->
    iJ.cy x.k x.s H 0 0 0 ⟨none,0,0⟩ L q.k q.lo.toNat q.hi.toNat q.s sl (i:Int) G λr Y=>gO x.fp w (ib (.mk x.k 0 0 (I.aw x.l))) r Y/\af w Y:=by
   intro d;induction d with
   |zero=>
    intro i acc sl G ax W K;rw[eO co]at W;subst W;have an:Sub x (x.l.flatMap (fk x)):=Sub.flat λ_ ac=>ac;have S:=(K.gP (.trees (x.l.flatMap (fk x))) (Fr.refl _ _) (an.Ps (K.getD 0)) (λb j=>.inr (.inr ⟨_,aD (i:=0) rfl,aT.2 (an.bj (aT.1 j))⟩))).s8 2 2 0 0 0;have S:LH F0 w G [.g H,.g L] [.tree x,.tree q,.tree (bZ sl (x.l.flatMap (fk x)))]:=S.forget _ ws;refine iJ.dH (aN (aW co) ?_);refine S.cZ (n:=3) (sz:=4) (cs:=[fS,cC,q].flatMap I.c) rfl md λw2 H2=>?_;rw[ew];refine⟨co,co,I.dE (s:=⟨some (ab G.heap.size),3,3⟩) (l:=[fS,cC,q]) (H2.get 2:aG _ _ _ _ _).bf gu λp B c=>⟨_,_,_,_,c.c0,c.c1,c.c2,c.c3,H2.aH λb8 w3 H3=>H3.ah λM E=>E.cZ (n:=3) (sz:=4) (cs:=[cC,q,cC].flatMap I.c) rfl md λw5 C=>⟨co,co,I.dE (s:=⟨some (ab M.heap.size),3,3⟩) (l:=[cC,q,cC]) (C.get 4:aG _ _ _ _ _).bf gz λp B c=>⟨_,_,_,_,c.c0,c.c1,c.c2,c.c3,C.aH λb9 A y=>y.ah λw7 F=>?_⟩⟩⟩⟩;have T:=((F.freeze 1 (.g L) rfl (F.get 1) λb j=>j).freeze 1 _ rfl (F.get 2) λb j=>j).freeze 2 _ rfl (F.get 4) λb j=>j;exact aeZ hx ae aI hu aE aB av (T.forget _ ws)
   |succ d a0=>
    intro i acc sl G ax W K;have h:x.l[i]? =some (x.l[i]'co):=a' co;generalize x.l[i]'co=a at h;have hm:=aD h;have aa:x.P G:=K.getD 0;have a4:=I.eK hm;have aY:I.a9 acc<=I.a9 x.l:=by
     have h1:=v7 x (x.l.take i);have h2:=B1 x.l i
     grind
    have aS:acc++fk x a=(x.l.take (i+1)).flatMap (fk x):=by rw[dV,h,cW,W];simp
    have a3:=I.cI (K.get 2:aG _ _ _ _ _).bf;have ay:=I.gh acc;have tail:∀(s':Sl) (Y:J),LH F0 w Y [.g H,.g L,.row aV 4 s' ((acc++fk x a).flatMap I.c)] [.tree x,.tree q]->iJ.cd x.k x.s H 0 0 0 ⟨none,0,0⟩ L q.k q.lo.toNat q.hi.toNat q.s s' (i:Int) Y λr Y=>gO x.fp w (ib (.mk x.k 0 0 (I.aw x.l))) r Y/\af w Y:=by
     intro s' Y S;show iJ.cy _ _ _ _ _ _ _ _ _ _ _ _ _ _ _ _;rw[bc _ co]
     grind
    refine iJ.dH (aM (aR co) ⟨co,co,I.dE aa.parts.1 h λp B c=>⟨a.k,c.c0,aP (λZ=>?_) (λZ=>?_)⟩⟩)
    .have pa:a.P G:=aa.parts.2.mem hm;have na:=I.cI pa.parts.1;have ay:=I.gh a.l;have aU:=I.iR a;refine⟨co,co,I.dE aa.parts.1 h λp B c=>⟨a.s,c.c3,?_⟩⟩;refine K.dp 2 lK (xs:=acc.flatMap I.c) (src:=a.s) (news:=a.l.flatMap I.c) rfl pa.parts.1 (ur _) co (λs' M E=>?_);refine tail s' M ?_;have e:fk x a=a.l:=au Z
     grind
    .refine ⟨co,co,I.dE aa.parts.1 h λp B c=>⟨_,_,_,_,c.c0,c.c1,c.c2,c.c3,?_⟩⟩;refine K.iD 2 lK (xs:=acc.flatMap I.c) rfl (λs' M E=>?_) co;refine tail s' M ?_;have e:fk x a=[a]:=ag Z;rw[e,nr];exact E
  exact loop x.l.length 0 [] ⟨none,0,0⟩ M co rfl (C.fY aV 4)
def uX(k:Int):Rx:=if k=3 then oi else if k=4 then fZ else e2
def zX(k:Int):Rx:=if k=4 then e2 else fZ
mutual
def NF:Rx->Prop
 |.mk d lo h l=>n0 l/\(d≠2->lo=0/\h=0)/\(((d=0\/d=1)/\l=[])\/(d=2/\l=[]/\lo.toNat<=h.toNat)\/
   ((d=3\/d=4\/d=5)/\2<=l.length/\(d≠3->jK l)/\∀t∈l,t.k≠d/\t≠uX d/\t≠zX d)\/
   (d=6/\∃c,l=[c]/\c.k≠6)\/(d=7/\∃c,l=[c]/\c.k≠0/\c.k≠1/\c.k≠7/\c≠e2))
def n0:List Rx->Prop
 |[]=>True
 |a::l=>NF a/\n0 l
end
def wK:∀{l:List Rx},n0 l↔∀t∈l,NF t
 |[]=>by unfold n0;simp
 |a::l=>by unfold n0;rw[wK];simp
def yl:NF fZ:=by unfold fZ NF n0;simp
def GG:NF oi:=by unfold oi NF n0;simp
def RI:NF e2:=by unfold e2 NF n0 n0;refine⟨⟨yl,trivial⟩,ws,.inr (.inr (.inr (.inl ⟨rfl,fZ,rfl,md⟩)))⟩
def adj(k:Int):NF (uX k):=by
 unfold uX;split
 .exact GG
 .split
  .exact yl
  .exact RI
def adk(k:Int):NF (zX k):=by
 unfold zX;split
 .exact RI
 .exact yl
def RJ{x:Rx}(h:NF x):∀t∈x.l,NF t:=by cases x;unfold NF at h;exact wK.1 h.1
def adg{x:Rx}{k:Int}(w:k=3\/k=4\/k=5)(h:NF x)(d:x.k=k):2<=x.l.length/\(k≠3->jK x.l)/\∀t∈x.l,t.k≠k/\t≠uX k/\t≠zX k:=by
 cases x with
 |mk j lo q l=>
  have d:j=k:=d;subst d;unfold NF at h;obtain⟨-,-,h|h|h|h|h⟩:=h
  .omega
  .omega
  .exact h.2
  .omega
  .omega
def aaK{k:Int}{l:List Rx}{u t:Rx}:t∈hD k l u↔(∃c∈l,if c.k=k then t∈c.l else t=c)/\t≠u:=by
 unfold hD;rw[List.mem_filter,cc,Kt]
 grind
def aaL{k:Int}(w:k=3\/k=4\/k=5){l:List Rx}(h:∀c∈l,NF c){t:Rx}(x:t∈hD k l (uX k)):NF t/\t.k≠k/\t≠uX k:=by
 obtain⟨⟨c,j,d⟩,q⟩:=aaK.1 x;split at d
 .rename_i e;exact⟨RJ (h c j) t d,((adg w (h c j) e).2.2 t d).1,q⟩
 grind
def mW(k:Int)(l:List Rx):List Rx:=if k=3 then hD k l (uX k)else vQ (hD k l (uX k))
def aeV{k:Int}{l:List Rx}{t:Rx}:t∈mW k l↔t∈hD k l (uX k):=by
 unfold mW;split
 .grind
 .exact UQ
def M5(k:Int)(l:List Rx):((hD k l (uX k)).any λt=>be t (zX k)==0)=true↔zX k∈hD k l (uX k):=by
 rw[List.any_eq_true];constructor
 .rintro ⟨t,h,d⟩;rw[r4.1 d]at h;exact h
 .exact λd=>⟨_,d,r4.2 rfl⟩
def M7{k:Int}{l:List Rx}(h:zX k∈hD k l (uX k)):hf k l (uX k) (zX k)=zX k:=by unfold hf;rw[au ((M5 k l).2 h)]
def M6{k:Int}{l:List Rx}(h:¬zX k∈hD k l (uX k)):hf k l (uX k) (zX k)=uU k (uX k) (mW k l):=by unfold hf;rw[ag (λd=>h ((M5 k l).1 d))];rfl
def abI{k:Int}(x:k=3\/k=4\/k=5){l:List Rx}(h:∀c∈l,NF c):NF (hf k l (uX k) (zX k)):=by
 by_cases y:zX k∈hD k l (uX k)
 .rw [M7 y];exact adk k
 .rw [M6 y];have j:∀t∈mW k l,NF t/\t.k≠k/\t≠uX k/\t≠zX k:=λt d=>by
   have d:=aeV.1 d;obtain⟨z,B,q⟩:=aaL x h d
   grind
  have w:k≠3->jK (mW k l):=λq=>by unfold mW;rw[ag q];exact UP _
  generalize mW k l=m at j w;unfold uU;split
  .exact adj k
  .grind
  .rename_i A z;unfold NF;refine⟨wK.2 λt d=>(j t d).1,λ_=>⟨rfl,rfl⟩,.inr (.inr (.inl ⟨x,?_,w,λt d=>(j t d).2⟩))⟩;cases m with
   |nil=>grind
   |cons a m=>
    cases m with
    |nil=>grind
    |cons b m=>simp
def E4{k:Int}(d:k=3\/k=4\/k=5)(lo hi:UInt8)(l:List Rx):ib (.mk k lo hi l)=hf k l (uX k) (zX k):=by rcases d with rfl|rfl|rfl<;>rfl
def adx{c:Rx}(h:NF c):NF (qU 0 0 [c]):=by
 unfold qU;simp only;split
 .rename_i e;split
  .exact yl
  .rename_i d m j;exact RJ h d (by grind)
 .rename_i e;unfold NF;exact⟨wK.2 λt k=>by grind,λ_=>⟨rfl,rfl⟩,.inr (.inr (.inr (.inl ⟨rfl,c,rfl,e⟩)))⟩
def afW{c:Rx}(h:NF c):NF (mj 0 0 [c]):=by
 unfold mj;simp only;split
 .exact GG
 .rename_i e;split
  .exact h
  .rename_i d;unfold NF;exact⟨wK.2 λt j=>by grind,λ_=>⟨rfl,rfl⟩,.inr (.inr (.inr (.inr ⟨rfl,c,rfl,λh=>e (.inl h),λh=>e (.inr h),λh=>d (.inl h),λh=>d (.inr (xj.2 h))⟩)))⟩
def sm{k:Int}{lo hi:UInt8}{l:List Rx}(h:de (.mk k lo hi l)=true):ey l=true/\(k≠2->lo=0/\hi=0)/\(((k=0\/k=1)/\l=[])\/(k=2/\l=[]/\lo.toNat<=hi.toNat)\/(k=3\/k=4\/k=5)\/((k=6\/k=7)/\∃c,l=[c])):=by
 unfold de at h;rw[bH]at h;obtain⟨w,d⟩:=h;have q:k≠2->lo=0/\hi=0:=λj=>by grind
 split at d
 .rename_i j;have:l=[]:=by grind
  subst this;exact⟨rfl,q,.inl ⟨j,rfl⟩⟩
 .split at d
  .rename_i j;simp only[bH,decide_eq_true_eq]at d;have:l=[]:=by grind
   subst this;exact⟨rfl,q,.inr (.inl ⟨j,rfl,d.2⟩)⟩
  .split at d
   .grind
   .split at d
    .rename_i j;simp only[bH]at d;exact⟨d.2,q,.inr (.inr (.inr ⟨j,List.length_eq_one_iff.1 (eq_of_beq d.1)⟩))⟩
    grind
def adi{lo hi:UInt8}(h:lo.toNat<=hi.toNat):NF (.mk 2 lo hi []):=by
 unfold NF n0
 grind
mutual
def RW:∀q:Rx,de q=true->NF (eg q)
 |.mk B lo A l,w=>by
  obtain⟨x,h,y⟩:=sm w;have k:=GK l x;unfold eg;rcases y with⟨d,rfl⟩|⟨rfl,rfl,z⟩|d|⟨d,c,rfl⟩
  .obtain ⟨rfl,rfl⟩:=h co;rcases d with rfl|rfl
   .exact yl
   .exact GG
  .exact adi z
  .rw [E4 d];exact abI d k
  .obtain ⟨rfl,rfl⟩:=h co;have j:NF (eg c):=k _ (by unfold fE;simp);rcases d with rfl|rfl
   .exact adx j
   .exact afW j
def GK:∀l:List Rx,ey l=true->∀t∈fE l,NF t
 |[],_=>λt d=>by unfold fE at d;cases d
 |a::l,h=>λt d=>by
  unfold ey at h;rw[bH]at h;unfold fE at d;rcases aq.1 d with rfl|d
  .exact RW a h.1
  .exact GK l h.2 t d
end
section
variable {μ:Rx->Nat}
def N1(p:Rx->Bool):∀l:List Rx,ms μ (l.filter p)<=ms μ l
 |[]=>br _
 |a::l=>by
  have d:=N1 p l;rw[List.filter_cons];split
  .show μ a+_<=μ a+_;omega
  .show _<=μ a+_;omega
def yb:∀{l:List Rx} {a:Rx},a∈l->μ a<=ms μ l
 |b::l,a,d=>by
  rcases aq.1 d with rfl|d
  .show μ a<=μ a+_;omega
  .have:=yb d;show μ a<=μ b+_;omega
def N2(h:∀d,1<=μ d):∀l:List Rx,l.length<=ms μ l
 |[]=>br _
 |a::l=>by have:=N2 h l;have:=h a;show l.length+1<=μ a+ms μ l;omega
def N0:∀(l:List Rx) (p:Rx),ms μ (kS p l)<=ms μ l
 |[],p=>br _
 |d::l,p=>by
  have:=N0 l d;unfold kS;split
  .show _<=μ d+ms μ l;omega
  .show μ d+_<=μ d+ms μ l;omega
def ac6(l:List Rx):ms μ (vQ l)<=ms μ l:=by
 have d:ms μ (r5 (lg l))<=ms μ (lg l):=by
  cases lg l with
  |nil=>exact br _
  |cons a m=>have:=N0 (μ:=μ) m a;show μ a+_<=μ a+_;omega
 rw[<-ac5 (HZ l)];exact d
def F4(h:∀d,ms μ d.l<=μ d)(k:Int):∀l:List Rx,ms μ (l.flatMap λc=>if c.k=k then c.l else[c])<=ms μ l
 |[]=>br _
 |c::l=>by
  have q:=F4 h k l;have j:=h c;rw[cH,NZ];show _<=μ c+ms μ l;split
  .omega
  .show (μ c+0)+_<=_;omega
def N3(h:∀j,ms μ j.l<=μ j)(k:Int)(l:List Rx):ms μ (mW k l)<=ms μ l:=by
 have d:ms μ (hD k l (uX k))<=ms μ l:=bb (N1 _ _) (F4 h k l);unfold mW;split
 .exact d
 .exact bb (ac6 _) d
end
def Ie:∀l:List Rx,Rx.a9 l=ms Rx.sz l
 |[]=>rfl
 |a::l=>by unfold Rx.a9;rw[Ie l];rfl
def pX(k:Int)(lo hi:UInt8)(l:List Rx):(Rx.mk k lo hi l).sz=1+ms Rx.sz l:=by unfold Rx.sz;rw[Ie]
def VY(x:Rx):ms Rx.sz x.l<=x.sz:=by cases x;rw[pX];simp only[Rx.l];omega
def FY(x:Rx):ms dU x.l<=dU x:=by cases x;rw[sG];simp only[Rx.l];omega
def acV(x:Rx):1<=dU x:=by cases x;rw[sG];omega
mutual
def FZ:∀d:Rx,dU d<=d.sz
 |.mk j lo h l=>by rw[sG,pX];have:=NP l;omega
def NP:∀l:List Rx,ms dU l<=ms Rx.sz l
 |[]=>br _
 |a::l=>by have d:=FZ a;have h:=NP l;show dU a+ms dU l<=a.sz+ms Rx.sz l;omega
end
def M8{k:Int}{l:List Rx}{P:Rx->Prop}(q:P (zX k))(x:P (uX k))(h:∀a,a∈mW k l->P a)(j:P (.mk k 0 0 (mW k l))):P (hf k l (uX k) (zX k)):=by
 by_cases d:zX k∈hD k l (uX k)
 .rw [M7 d];exact q
 .rw [M6 d];generalize w:mW k l=m at h j;unfold uU
  grind
def WG(k:Int):(uX k).sz<=2/\(zX k).sz<=2/\dU (uX k)=1/\dU (zX k)=1:=by
 unfold uX zX;refine⟨?_,?_,?_,?_⟩
 .split
  .decide
  .split<;>decide
 .split<;>decide
 .split
  .decide
  .split<;>decide
 .split<;>decide
def Sa{k:Int}{c:Rx}(h:k=6\/k=7){P:Rx->Prop}(j:P fZ)(q:P oi)(x:P c)(y:∀d∈c.l,P d)(w:P (.mk k 0 0 [c])):P (ib (.mk k 0 0 [c])):=by
 rcases h with rfl|rfl
 .show P (qU 0 0 [c]);unfold qU
  grind
 .show P (mj 0 0 [c]);unfold mj
  grind
mutual
def GI:∀k:Rx,de k=true->(eg k).sz<=2 *k.sz
 |.mk h lo x l,z=>by
  obtain⟨A,w,B⟩:=sm z;have j:=A6 l A;have E:=pX h lo x l;rw[E];unfold eg;rcases B with⟨d,rfl⟩|⟨rfl,rfl,G⟩|d|⟨d,c,rfl⟩
  .obtain ⟨rfl,rfl⟩:=w co;rcases d with rfl|rfl<;>decide
  .show (Rx.mk 2 lo x []).sz<=_;omega
  .rw [E4 d];have H:=N3 (μ:=Rx.sz) VY h (fE l);obtain⟨I,K,-,-⟩:=WG h;refine M8 (P:=λq=>q.sz<=2 *(1+ms Rx.sz l)) co co (λa C=>?_) ?_
   .have:=yb (μ:=Rx.sz) C;omega
   .show (Rx.mk h 0 0 _).sz<=_;rw[pX];omega
  .obtain ⟨rfl,rfl⟩:=w co;have y:fE [c]=[eg c]:=rfl;rw[y]at j ⊢;have j:(eg c).sz+0<=2 *(c.sz+0):=j;show _<=2 *(1+(c.sz+0));refine Sa (P:=λq=>q.sz<=2 *(1+(c.sz+0))) d (by show(1:Nat)<=_;omega) (by show(1:Nat)<=_;omega) co (λF D=>?_) ?_
   .have:=yb (μ:=Rx.sz) D;have:=VY (eg c);omega
   .show (Rx.mk h 0 0 _).sz<=_;rw[pX];simp only[ms];omega
def A6:∀l:List Rx,ey l=true->ms Rx.sz (fE l)<=2 *ms Rx.sz l
 |[],_=>br _
 |a::l,d=>by unfold ey at d;rw[bH]at d;have h:=GI a d.1;have j:=A6 l d.2;show(eg a).sz+ms Rx.sz (fE l)<=2 *(a.sz+ms Rx.sz l);omega
end
mutual
def adv:∀k:Rx,de k=true->dU (eg k)<=dU k
 |.mk h lo x l,z=>by
  obtain⟨A,w,B⟩:=sm z;have j:=GJ l A;have E:=sG h lo x l;rw[E];unfold eg;rcases B with⟨d,rfl⟩|⟨rfl,rfl,G⟩|d|⟨d,c,rfl⟩
  .obtain ⟨rfl,rfl⟩:=w co;rcases d with rfl|rfl<;>decide
  .show dU (Rx.mk 2 lo x [])<=_;omega
  .rw [E4 d];have H:=N3 (μ:=dU) FY h (fE l);obtain⟨-,-,I,K⟩:=WG h;refine M8 (P:=λq=>dU q<=max 1 (ms dU l)) co co (λa C=>?_) ?_
   .have:=yb (μ:=dU) C;omega
   .show dU (Rx.mk h 0 0 _)<=_;rw[sG];omega
  .obtain ⟨rfl,rfl⟩:=w co;have y:fE [c]=[eg c]:=rfl;rw[y]at j ⊢;have j:dU (eg c)+0<=dU c+0:=j;show _<=max 1 (dU c+0);refine Sa (P:=λq=>dU q<=max 1 (dU c+0)) d (by show(1:Nat)<=_;omega) (by show(1:Nat)<=_;omega) co (λF D=>?_) ?_
   .have:=yb (μ:=dU) D;have:=FY (eg c);omega
   .show dU (Rx.mk h 0 0 _)<=_;rw[sG];simp only[ms];omega
def GJ:∀l:List Rx,ey l=true->ms dU (fE l)<=ms dU l
 |[],_=>br _
 |a::l,d=>by unfold ey at d;rw[bH]at d;have h:=adv a d.1;have j:=GJ l d.2;show dU (eg a)+ms dU (fE l)<=dU a+ms dU l;omega
end
def Mh{N:Nat}{k:Int}{lo hi:UInt8}{l:List Rx}(h:de (.mk k lo hi l)=true)(D:(Rx.mk k lo hi l).sz<=10000)(w:pr N (.mk k lo hi l)):sR N (.mk k lo hi (fE l))=true:=by
 obtain⟨d,I,y⟩:=sm h;have Q:=A6 l d;have P:=GJ l d;rw[pX]at D;unfold pr at w;unfold sR;rw[bH,bH];refine⟨⟨?_,aR (by rw[pX];omega)⟩,?_⟩
 .unfold kW;rw[bH,bH];refine⟨⟨aR co,aR co⟩,?_⟩;rcases y with⟨j,rfl⟩|⟨j,rfl,O⟩|j|⟨j,c,rfl⟩
  .grind
  .grind
  .grind
  .show (!(k==6&&(eg c).k==6&&(eg c).l.isEmpty))=true;have A:de c=true:=by
    unfold ey at d
    grind
   have q:=RW c A;generalize eg c=G at q;cases G with
   |mk x F C E=>
    by_cases e:x=6
    .unfold NF at q;obtain⟨-,-,h|h|h|⟨_,H,B,_⟩|h⟩:=q
     .omega
     .omega
     .omega
     .rw [B];simp[Rx.l]
     .omega
    .have:(Rx.k (.mk x F C E)==6)=false:=by simpa[Rx.k]using e
     grind
 .show av (k=4\/k=5->vp k (fE l)<=N)=true;refine aR λz=>?_;have K:=N2 acV ((fE l).flatMap λc=>if c.k=k then c.l else[c]);have L:=F4 (μ:=dU) FY k (fE l);have M:=w.2 z;show((fE l).flatMap λc=>if c.k=k then c.l else[c]).length<=N;omega
mutual
def Mb{N:Nat}:∀d:Rx,de d=true->d.sz<=10000->pr N d->qD N d=true
 |.mk x lo w l,j,k,h=>by obtain⟨q,-,-⟩:=sm j;unfold qD;rw[Mh j k h,Bool.and_true];rw[pX]at k;unfold pr at h;exact Md l q co h.1
def Md{N:Nat}:∀l:List Rx,ey l=true->ms Rx.sz l<=10000->sh N l->sj N l=true
 |[],_,_,_=>rfl
 |a::l,d,j,h=>by unfold ey at d;rw[bH]at d;unfold sh at h;have j:a.sz+ms Rx.sz l<=10000:=j;unfold sj;rw[Mb a d.1 co h.1,Md l d.2 co h.2];rfl
end
set_option maxRecDepth 100000
set_option maxHeartbeats 2000000
namespace TP
def aC:=ay (ax V Tryz.f191 [(4,ls [1,0,2,3,4,5,6,7])] [1,2]) Gl [.a 4,.I,.Y,.Y,.s]
end TP
def adh{x:Rx}(h:NF x):0<=x.k:=by cases x;unfold NF at h;simp only[Rx.k];omega
def adw{x:Rx}(h:de x=true)(d:x.k<3):eg x=x:=by
 cases x with
 |mk q lo z l=>
  have A:q<3:=d;clear d;obtain⟨w,y,j⟩:=sm h;rcases j with⟨d,rfl⟩|⟨rfl,rfl,B⟩|d|⟨d,c,rfl⟩
  .rcases d with rfl|rfl<;>rfl
  .rfl
  .omega
  .omega
abbrev XM(n:Nat):Prop:=∀(x:I) (w:J),x.sz<=n->de x.rx=true->x.P w->ai V yd #[x.v] w λr d=>gO x.fp w (eg x.rx) r d/\af w d
def J3:∀n:Nat,n<=1000->XM n
 |0,_=>λh A aa _ _=>absurd aa (by have:=I.m3 h;omega)
 |n+1,hn=>λh A aa ab px=>by
  have ih:=J3 n co;have hs:=I.iR h;have hl:=I.gh h.l;have ar:=I.cI px.parts.1;refine xG.aC ((hj px).aH λE q H1=>H1.aH λF Q x=>aF (λhk=>x.ah λS y=>⟨⟨h,rfl,(adw ab (by rw[mg];exact hk)).symm,y.getD 0,λb j=>.inr j⟩,y.fr⟩) (λhk=>?_));have K:=ab;rw[I.fF]at K;obtain⟨L,ak,ap⟩:=sm K;obtain⟨W,U⟩:=ak co;have ad:eg h.rx=ib (.mk h.k 0 0 (fE (I.aw h.l))):=by rw[I.fF,W,U];unfold eg;rfl
  have loop:∀(d i:Nat) (acc:List I) (sl:Sl) (q:J),i+d=h.l.length->I.aw acc=fE (I.aw (h.l.take i))->(∀b∈I.bj acc,A.heap.size<=b\/b∈h.fp)->
    LH F0 A q [.g E,.g F,.row aV 4 sl (acc.flatMap I.c)] [.tree h,.trees acc]->
    xG.a6 E h.k h.lo.toNat h.hi.toNat h.s F 0 0 0 ⟨none,0,0⟩ sl (i:Int) q λr w'=>gO h.fp A (eg h.rx) r w'/\af A w':=by
   intro d;induction d with
   |zero=>
    intro i acc sl q ai z H w;rw[eO co]at z;have al:∀b∈(I.row sl acc).fp,A.heap.size<=b:=λb j=>(w.new _ (aD (i:=2) rfl) b (gY j)).resolve_right id;have T:LH F0 A q [.g E,.g F] [.tree h,.trees acc,I.row sl acc,.tree (.mk h.k 0 0 sl acc)]:=w.s8 2 1 h.k 0 0;have Y:Rx.mk h.k 0 0 (I.aw acc)=.mk h.k 0 0 (fE (I.aw h.l)):=by rw[z]
    have an:(Rx.mk h.k h.lo h.hi (I.aw h.l)).sz<=10000:=by rw[<-I.fF,I.eX];omega
    have M:=Mh (N:=100000) K an (EX _ (by have aj:∀ac:Rx,dU ac<=ac.sz:=FZ;have:=aj (Rx.mk h.k h.lo h.hi (I.aw h.l));omega))
    unfold sR at M;rw[bH,bH]at M;have am:(I.mk h.k 0 0 sl acc).sz<=10000:=by have B:=I.eX (I.mk h.k 0 0 sl acc);have h2:=A6 (I.aw h.l) L;have h3:=I.yN h.l;rw[Ie]at h3;rw[<-B];show(Rx.mk h.k 0 0 (I.aw acc)).sz<=_;rw[Y,pX];omega
    have ag:kW (.mk h.k 0 0 (I.aw acc))=true:=by rw[Y];have:=M.1.1;rw[W,U]at this;exact this
    refine xG.bD (aN (aW co) ?_);refine T.r2 (Zx (.mk h.k 0 0 sl acc) ⟨by show 3<=h.k;omega,by show h.k<=7;omega⟩ am ag (λc hc=>?_) q (T.getD 3)) (λb j=>⟨_,aD (i:=3) rfl,aT.2 j⟩) λt Q O x G=>?_
    .have ae:c.rx∈fE (I.aw h.l):=by rw[<-z,I.gb];exact bS.2 ⟨c,hc,rfl⟩
     have:=adh (GK (I.aw h.l) L _ ae)
     rwa[mg]at this
    refine⟨_,_,_,t.s,rfl,x.ah λS y=>⟨⟨t,rfl,?_,y.getD 4,λb j=>?_⟩,y.fr⟩⟩
    .rw [O,ad];show ib (Rx.mk h.k 0 0 (I.aw acc))=_;rw[z]
    .rcases G b j with j|j
     .exact .inl (bb w.fr.size j)
     .unfold I.fp at j;rcases aX.1 j with j|j
      .exact .inl (al b j)
      .exact H b j
   |succ d ao=>
    intro i acc sl q ai z H w;have C:h.l[i]? =some (h.l[i]'co):=a' co;generalize h.l[i]'co=a at C;have D:=aD C;have av:=I.eK D;have ga:de a.rx=true:=Mr L (by rw[I.gb];exact bS.2 ⟨a,D,rfl⟩);have Z:∀b∈a.fp,b∈h.fp:=λb j=>I.gU.2 (.inr (I.b'.2 ⟨a,D,j⟩));refine xG.bD (aM (aR co) (jc (show h.P q from w.getD 0) rfl C ?_));refine w.r2 (ih a q co ga ((show h.P q from w.getD 0).parts.2.mem D)) (λb j=>⟨_,aD (i:=0) rfl,aT.2 (Z b j)⟩) λt Q O x G=>?_;have au:=I.cI (x.get 2:aG _ _ _ _ _).bf;have aq:acc.length=i:=by have B:=congrArg List.length z;rw[I.gb,sP,I.gb]at B;simp only[List.length_map,f']at B;omega
    refine⟨_,_,_,t.s,rfl,x.iD 2 lK (xs:=acc.flatMap I.c) rfl (λs' S y=>?_) co⟩;have H4:=(y.td 1 2).take 3;rw[bc _ co];refine ao (i+1) (acc++[t]) s' S co ?_ (uV H λb j=>?_) ?_
    .rw [kA,z,dV,C,Option.toList_some,kA,sP,sP,fK];show _++[t.rx]=_;rw[O];rfl
    .rcases G b j with j|j
     .exact .inl (bb w.fr.size j)
     .exact .inr (Z b j)
    .rw [nr];exact H4.forget _ ws
  exact loop h.l.length 0 [] ⟨none,0,0⟩ Q co rfl (λb j=>by unfold I.bj at j;cases j) (RQ (x.fY aV 4))
def J2(x:I)(w:J)(h:x.sz<=1000)(j:de x.rx=true)(k:x.P w):ai V yd #[x.v] w λr d=>gO x.fp w (eg x.rx) r d/\af w d:=J3 1000 (br _) x w h j k
def jD(x:Rx):Rx:=if kF x=0 then qQ (eg x)else fZ
def pG(x:Rx):Int:=if kF x=0 then qP (eg x)else kF x
def I8(d:List Nat)(w:J)(x:Rx)(c:Int)(r:bW)(Y:J):Prop:=∃t:I,r=ae (.tuple #[t.v,.int .i64 c])/\t.rx=x/\t.P Y/\∀b∈t.fp,w.heap.size<=b\/b∈d
def Y7(x:I)(w:J)(h:x.sz<=1000000)(B:x.P w):ai V Ox #[x.v] w λr y=>I8 x.fp w (qQ x.rx) (qP x.rx) r y/\af w y:=by
 refine Lc.aC ((hj B).aH λE G z=>z.aH λF C k=>k.aA (DS x C h (k.getD 0)) ?_);rintro _ H rfl q;refine⟨_,rfl,aF (λA=>q.ah λD d=>⟨⟨cC,?_,?_,k5 _,λb j=>(k6 j).elim⟩,d.fr⟩) (λA=>q.ah λD d=>⟨⟨x,?_,?_,d.getD 0,λb j=>.inr j⟩,d.fr⟩)⟩
 .unfold qP;rw[I.eX,au co];rfl
 .unfold qQ;rw[I.eX,au co];rfl
 .unfold qP;rw[I.eX,ag co]
 .unfold qQ;rw[I.eX,ag co]
def Zv(x:I)(w:J)(h:x.sz<=1000000)(Q:x.P w):ai V Om #[x.v] w λr F=>I8 x.fp w (jD x.rx) (pG x.rx) r F/\af w F:=by
 refine K7.aC ((hj Q).aH λW w1 H=>H.aH λY T z=>z.aA (Zw x T h (z.getD 0)) ?_);rintro _ U rfl k;unfold jD pG;refine⟨_,rfl,dA (λE=>k.ah λG j=>⟨⟨cC,?_,?_,k5 _,λb d=>(k6 d).elim⟩,j.fr⟩) (λq=>?_)⟩
 .rw [ag E];rfl
 .rw [ag E];rfl
 obtain⟨D,M⟩:=IC q;have Z:x.sz<=64:=by rw[<-I.eX];exact M
 rw[au q,au q];refine k.r2 (J2 x U co D (k.getD 0)) (λb d=>⟨_,aD (i:=0) rfl,aT.2 d⟩) λt G y j L=>?_;have S:t.sz<=1000000:=by have:=GI _ D;rw[<-I.eX,y];omega
 refine⟨_,_,_,t.s,rfl,gn ((Y7 t G S (j.getD 1)).mono ?_)⟩;rintro _ w5 ⟨⟨u,rfl,N,O,C⟩,B⟩;have K:=j.gP (.tree u) B O λb d=>(C b (aT.1 d)).imp id λd=>.inr ⟨_,aD (i:=1) rfl,aT.2 d⟩;refine⟨B,_,_,_,u.s,_,rfl,K.ah λw6 A=>⟨⟨u,by rw[y],by rw[N,y],A.getD 2,λb d=>?_⟩,A.fr⟩⟩;rcases C b d with d|d
 .exact .inl (bb j.fr.size d)
 .exact (L b d).imp (λd=>bb k.fr.size d) id
def YQ{N:Nat}(U:tY N)(T:N+1<=1000000)(x:I)(w:J)(h:x.sz<=1000000)(W:pr N x.rx)(px:x.P w):ai V Gl #[x.v] w λr G=>I' w (jD x.rx) (pG x.rx) r G/\af w G:=by
 refine TP.aC ((hj px).aH λb1 w1 O=>O.aH λb2 w2 A=>A.aA (JE x w2 h (A.getD 0)) ?_);rintro _ w3 rfl B;unfold jD pG;refine⟨_,rfl,dA (λF=>B.ah λH j=>⟨⟨cC,?_,?_,k5 _,λb d=>(k6 d).elim⟩,j.fr⟩) (λy=>B.ah λH j=>j.iF (Za H) ?_)⟩
 .rw [ag F];rfl
 .rw [ag F];rfl
 rintro _ w5 ⟨K,rfl,S,pF,Z⟩ _ L;have k:=L.rd (.fm K) pF Z;obtain⟨E,hs⟩:=IC y;rw[au y,au y];refine⟨_,rfl,k.r2 (Zm U T S x w5 h (Mb _ E co W) (k.getD 1) (k.getD 0)) (λb d=>?_) λt w6 z q _=>?_⟩
 .rcases aX.1 d with d|d
  .exact ⟨_,aD (i:=0) rfl,aT.2 d⟩
  .exact ⟨_,aD (i:=1) rfl,d⟩
 have aa:t.sz<=1000000:=by have:=GI _ E;rw[<-I.eX,z];omega
 refine⟨_,_,_,t.s,rfl,q.iF (Zj t w6 aa (q.getD 2)) ?_⟩;rintro _ w7 ⟨u,rfl,Y,pu,D⟩ _ M;have Q:=M.rd (.tree u) pu λb d=>D b (aT.1 d);exact⟨_,_,_,u.s,_,rfl,Q.ah λw8 C=>⟨⟨u,by rw[z],by rw[Y,z],C.getD 3,λb d=>bb q.fr.size (D b d)⟩,C.fr⟩⟩
abbrev BL:=List UInt8
def gQ(s:BL)(i:Nat):UInt8:=s.getD i 0
def oG(c:UInt8):Bool:=av (32<=c.toNat)&&av (c.toNat<=126)&&!(c==39)&&!(c==92)
def eW(c:UInt8):Bool:=av (97<=c.toNat)&&av (c.toNat<=122)
def i2(n:Nat):UInt8:=db (if n<10 then 48+n else 87+n)
def i'(c:UInt8):Int:=if 48<=c.toNat/\c.toNat<=57 then(c.toNat:Int) - 48 else if 97<=c.toNat/\c.toNat<=102 then(c.toNat:Int) - 87 else -1
def h'(s:BL)(at_:Nat):UInt8×Nat:=
 if(av (at_+3<=s.length)&&gQ s at_==39&&gQ s (at_+2)==39&&oG (gQ s (at_+1)))=true then(gQ s (at_+1),3)
 else if(av (at_+4<=s.length)&&gQ s at_==92&&gQ s (at_+1)==120&&av (0<=i' (gQ s (at_+2)))&&av (0<=i' (gQ s (at_+3))))=true then(db ((16 *i' (gQ s (at_+2))+i' (gQ s (at_+3))).toNat),4)
 else(0,0)
structure dX where
 tx:BL
 at_:Nat
 k:Nat
 lo:UInt8
 hi:UInt8
structure Dn where
 k:Nat
 lo:UInt8
 hi:UInt8
 n:Nat
def sO:Dn:=⟨0,0,0,0⟩
def kz(s:BL)(i:Nat):Dn:=
 let a:=h' s i
 if 0<a.2 then⟨2,a.1,a.1,a.2⟩else if gQ s i≠91 then sO else
 let b:=h' s (i+1)
 let dash:=i+1+b.2
 if b.2=0\/s.length<=dash\/gQ s dash≠45 then sO else
 let c:=h' s (dash+1)
 let fin:=dash+1+c.2
 if c.2=0\/s.length<=fin\/gQ s fin≠93\/c.1.toNat<b.1.toNat then sO else⟨2,b.1,c.1,fin+1 - i⟩
def oQ(s:BL)(i:Nat):Nat->Nat->Nat
 |0,n=>n
 |f+1,n=>if(eW (gQ s i)&&av (i+n<s.length)&&eW (gQ s (i+n)))=true then oQ s i f (n+1)else n
def pY(s:BL):Nat->Nat->List dX
 |0,_=>[⟨[],s.length,0,0,0⟩]
 |f+1,i=>if s.length<=i then[⟨[],s.length,0,0,0⟩]else if gQ s i=32 then pY s f (i+1)else
  let r:=kz s i
  let n:=if r.n=0 then oQ s i s.length 1 else r.n
  ⟨(s.take (i+n)).drop i,i,r.k,r.lo,r.hi⟩::pY s f (i+n)
def nO(s:BL):List dX:=pY s (s.length+1) 0
abbrev bY:=Nat×Bool
section
variable (l:List dX)
def gi(i:Nat):dX:=l.getD i ⟨[],0,0,0,0⟩
def fG(st:bY):BL:=bif st.2 then[32]else(gi l st.1).tx
def fg(s:BL)(st:bY):Bool×bY:=bif fG l st==s then(true,bif s.isEmpty then st else(st.1+1,st.2))else(false,st)
def k4(s:BL)(st:bY):bY:=match fg l s st with
 |(true,st)=>st
 |(false,st)=>(st.1,true)
def zK(st:bY):Bool:=!st.2&&!(fG l st==[])&&!(fG l st==[41])&&!(fG l st==[44])&&!(fG l st==[124])&&!(fG l st==[38])
def so(k:Int):List Rx->Rx
 |[a]=>a
 |m=>.mk k 0 0 m
def nS:Nat->BL
 |0=>[110,111,110,101]
 |1=>[101,109,112,116,121]
 |3=>[99,97,116]
 |4=>[97,108,116]
 |5=>[97,108,108]
 |_=>[]
def mq(st:bY):Nat->Nat->Option Nat
 |0,_=>none
 |f+1,d=>bif Nat.beq d 2||!(fG l st==nS d)then mq st f (d+1)else some d
mutual
def lN:Nat->bY->Option (Rx×bY)
 |0,_=>none
 |f+1,st=>match pg f st with
  |some (a,st)=>ub f [a] st
  |none=>none
def ub:Nat->List Rx->bY->Option (Rx×bY)
 |0,_,_=>none
 |f+1,acc,st=>match fg l [124] st with
  |(true,st)=>match pg f st with
   |some (a,st)=>ub f (acc++[a]) st
   |none=>none
  |(false,st)=>some (so 4 acc,st)
def pg:Nat->bY->Option (Rx×bY)
 |0,_=>none
 |f+1,st=>match pS f st with
  |some (a,st)=>ue f [a] st
  |none=>none
def ue:Nat->List Rx->bY->Option (Rx×bY)
 |0,_,_=>none
 |f+1,acc,st=>match fg l [38] st with
  |(true,st)=>match pS f st with
   |some (a,st)=>ue f (acc++[a]) st
   |none=>none
  |(false,st)=>some (so 5 acc,st)
def pS:Nat->bY->Option (Rx×bY)
 |0,_=>none
 |f+1,st=>match nB f st with
  |some (a,st)=>u5 f [a] st
  |none=>none
def u5:Nat->List Rx->bY->Option (Rx×bY)
 |0,_,_=>none
 |f+1,acc,st=>bif zK l st then match nB f st with
   |some (a,st)=>u5 f (acc++[a]) st
   |none=>none
  else some (so 3 acc,st)
def nB:Nat->bY->Option (Rx×bY)
 |0,_=>none
 |f+1,st=>match fg l [33] st with
  |(true,st)=>match nB f st with
   |some (a,st)=>some (.mk 6 0 0 [a],st)
   |none=>none
  |(false,st)=>match rW f st with
   |some (a,st)=>yW f a st
   |none=>none
def yW:Nat->Rx->bY->Option (Rx×bY)
 |0,_,_=>none
 |f+1,a,st=>match fg l [42] st with
  |(true,st)=>yW f (.mk 7 0 0 [a]) st
  |(false,st)=>some (a,st)
def rW:Nat->bY->Option (Rx×bY)
 |0,_=>none
 |f+1,st=>bif !st.2&&Nat.beq (gi l st.1).k 2 then some (.mk 2 (gi l st.1).lo (gi l st.1).hi [],(st.1+1,st.2))else match mq l st 6 0 with
  |some d=>bif Nat.ble d 2 then some (.mk d 0 0 [],(st.1+1,st.2))else match sA f (st.1+1,st.2)with
   |some (m,st)=>some (.mk d 0 0 m,st)
   |none=>none
  |none=>let st:=k4 l [40] st
   bif st.2 then some (fZ,st)else match lN f st with
   |some (a,st)=>some (a,k4 l [41] st)
   |none=>none
def sA:Nat->bY->Option (List Rx×bY)
 |0,_=>none
 |f+1,st=>match fg l [41] (k4 l [40] st)with
  |(d,st)=>bif st.2||d then some ([],st)else match lN f st with
   |some (a,st)=>ya f [a] st
   |none=>none
def ya:Nat->List Rx->bY->Option (List Rx×bY)
 |0,_,_=>none
 |f+1,acc,st=>match fg l [44] st with
  |(true,st)=>match lN f st with
   |some (a,st)=>ya f (acc++[a]) st
   |none=>none
  |(false,st)=>some (acc,k4 l [41] st)
end
end
def vo(s:BL):Option (Rx×Nat×Int):=
 if 4096<s.length then some (fZ,4096,4)else
 let l:=nO s
 match lN l 1000 (0,false)with
 |some (r,st)=>let st:=k4 l [] st
  if st.2=true then some (fZ,(gi l st.1).at_,2)else if 1000000<r.sz then none else if 64<r.sz then some (fZ,s.length,4)else some (r,0,0)
 |none=>none
def dZ(c:UInt8):BL:=if oG c=true then[39,c,39]else[92,120,i2 (c.toNat / 16),i2 (c.toNat%16)]
def dd:Rx->Nat
 |.mk d _ _ l=>if d=6 then 3 else if d<3\/d=7\/l.length<2 then 4 else if d=3 then 2 else if d=4 then 0 else 1
def dh(d:Nat)(a:Rx)(t:BL):BL:=if dd a<d then 40::(t++[41])else t
def sJ(k:Int):BL:=if k=3 then[99,97,116,40]else if k=4 then[97,108,116,40]else[97,108,108,40]
def hr(k:Int):BL:=if k=3 then[]else if k=4 then[124]else[38]
def k1(t:BL):UInt8:=t.getLastD 0
def jQ(k:Int):BL->List BL->BL
 |out,[]=>out
 |out,t::d=>jQ k ((if k=3/\eW (k1 out)=true/\eW (gQ t 0)=true then out++[32]else out)++hr k++t) d
def kn:List BL->BL
 |[]=>[]
 |t::_=>t
def Av(k:Int):List BL->BL
 |[]=>[]
 |t::d=>jQ k t d
mutual
def bo:Rx->BL
 |.mk d lo h l=>if d=0 then[110,111,110,101]else if d=1 then[101,109,112,116,121]else
  if d=2 then(if lo=h then dZ lo else 91::(dZ lo++45::(dZ h++[93])))else
  if d=6 then 33::kn (dQ 3 l)else if d=7 then kn (dQ 4 l)++[42]else
  if l.length<2 then sJ d++(kn (dQ 0 l)++[41])else
  Av d (dQ (dd (.mk d lo h l)+1) l)
def dQ(d:Nat):List Rx->List BL
 |[]=>[]
 |a::l=>dh d a (bo a)::dQ d l
end
mutual
def ja:Rx->Bool
 |.mk d _ _ l=>av (0<=d)&&av (d<=7)&&(av (d<6)||av (l.length=1))&&oE l
def oE:List Rx->Bool
 |[]=>true
 |a::l=>ja a&&oE l
end
def uu(s:BL):Option Bool:=match vo s with
 |some (r,_,e)=>if e=0 then(if pG r=0 then(if ja (jD r)=true/\(jD r).sz<=1000 then some (dh 0 (jD r) (bo (jD r))==s)else none)else some false)else some false
 |none=>none
def BF(a b:UInt8):Rx:=.mk 2 a b []
def fi:Nat->Rx
 |0=>BF 97 97
 |1=>BF 98 98
 |2=>BF 0 0
 |3=>BF 97 98
 |4=>oi
 |_=>e2
def E5(a b c:Rx):Nat->Rx
 |0=>a
 |1=>.mk 3 0 0 [a,b]
 |2=>.mk 4 0 0 [a,b,c]
 |3=>.mk 7 0 0 [a]
 |4=>.mk 3 0 0 [.mk 7 0 0 [a],b]
 |5=>.mk 6 0 0 [.mk 3 0 0 [a,b]]
 |6=>.mk 3 0 0 [b,.mk 7 0 0 [.mk 4 0 0 [a,c]]]
 |_=>.mk 5 0 0 [.mk 6 0 0 [b],.mk 3 0 0 [a,e2]]
def m4(k:Nat):BL:=bo (eg (E5 (fi (k%6)) (fi (k / 6%6)) (fi (k / 36%6)) (k / 216%8)))
namespace Ib
def ok:=ay (ax V Tryz.f22 [] []) Gz [.st,.Y]
end Ib
namespace Fu
def ok:=ay (ax V Tryz.f49 [] []) Ge [.st,.Y]
end Fu
namespace Ua
def ok:=ay (ax V Tryz.f250 [] []) Qk [.Y]
end Ua
namespace T6
def ok:=ay (ax V Tryz.f264 [] []) Qh [.Y]
end T6
namespace BB
abbrev S1:=ak (ax V Tryz.f251 [(4,ls [0,1,2,3,5,6,7,8,4,9,10,11])] []) [3] []
abbrev t1:=ao S1
abbrev S0:=ak t1 [2] [(0,.st),(1,.I)]
abbrev t2:=ao S0
def ok:=ay t2 P9 [.st,.I]
end BB
namespace vK
abbrev P0:Ps:=[(0,.st),(1,.I),(4,.l [.Y,.Y,.Y,.st,.I] oX),(7,.I)]
def cy:=bh (ax V Tryz.f225 [] [4]) [0,2,1,1,3,2,2] P0
abbrev t1:=bg cy
abbrev cd:=ak t1 [2,1,3,2,2] P0
abbrev t2:=ao cd
def dH:=bm t2 cy
abbrev hx:=ak t2 [3] [(1,.I),(4,.l [.Y,.Y,.Y,.st,.I] oX)]
abbrev t3:=ao hx
abbrev mz:=ak t3 [5,1,5,2,2] [(0,.st),(1,.I),(4,.l [.Y,.Y,.Y,.st,.I] oX),(8,.Y),(10,.b),(11,.I),(12,.Y)]
abbrev t4:=ao mz
abbrev dc:=ak t4 [2,1,5,2,2] [(0,.st),(1,.I),(4,.l [.Y,.Y,.Y,.st,.I] oX),(8,.Y),(10,.b),(11,.I)]
abbrev t5:=ao dc
abbrev bt:=ak t5 [2] [(0,.st),(1,.I),(4,.l [.Y,.Y,.Y,.st,.I] oX),(6,.Y)]
abbrev t6:=ao bt
def aC:=ay t6 Gv [.st,.I]
end vK
namespace BD
noncomputable def C0:Code:=(Tryz.f224.body).getD .skip
noncomputable def C1:=C0.fs
noncomputable def C2:=C1.sn
noncomputable def C3:=C2.fs
noncomputable def C4:=C3.fs
noncomputable def C5:=C0.sn
abbrev Q0(R:aK):iA:=(Exit.then (gj V (cx 39) C5 (bodyPost V Tryz.f224 R)) (bodyPost V Tryz.f224 R))
abbrev Q1(R:aK):iA:=(Exit.inBlock 0 (Q0 R))
def L0(j:Nat)(h:Addr)(d:Int)(w:J)(R:aK):Prop:=LP V (cx 39) C4 (Q1 R) [(0,.func (.yield j) #[] #[]),(1,.pointer (some h)),(3,.i d)] w
def qj(E:Env)(w:J)(R:aK):Prop:=W.DC (Env.get? E 0) λj=>W.cM (Env.get? E 1) λh=>W.asInt .i64 (Env.get? E 3) λd=>L0 j h d w R
def tR:Da V 39 qj C4 Q1:=by intro A z D h;obtain⟨E,w,j⟩:=W.X4 h;obtain⟨C,x,k⟩:=W.cT j;obtain⟨B,y,q⟩:=W.hC k;intro a d;exact q a (d.cons w (d.cons x (d.cons y d.nil)))
noncomputable def C6:=C4.fs
noncomputable def C7:=C4.sn
noncomputable def C8:=C7.fs
noncomputable def C9:=C8.fs
noncomputable def m9:=C9.sn
noncomputable def kI:=m9.fs
noncomputable def nT:=C8.sn
noncomputable def o0:=nT.sn
noncomputable def o1:=o0.fs
noncomputable def kJ:=o0.sn
noncomputable def kK:=C6.sn
noncomputable def nU:=kK.fs
noncomputable def nV:=kI.sn
noncomputable def nW:=m9.sn
noncomputable def lu:=o1.sn
noncomputable def mu:=lu.fs
noncomputable def qh:=lu.sn
noncomputable def lx:=kK.sn
def bE(x:Nat)(q:Addr)(k:Int)(w:J)(R:aK)(h:∃B:ByteArray,w.cell? q=some (.string B)/\
 bA (av (k<(B.size:Int))) (∃t10:ByteArray,w.cell? q=some (.string t10)/\
 (0:Int)<=k/\∃A:UInt8,t10[a0 k]? =some A/\bA ((A.toNat:Int)==32) (L0 x q (aj .i64 (k+1)) w R) (∃t17:ByteArray,w.cell? q=some (.string t17)/\
 ZI Gv #[.string t17,.i k] w λD F G H I K y=>dG y (.cells #[.int .u8 0,.int .u8 0,.int .u8 0,.s0,.i 0] oX) λQ=>
 Vs Q (nb y) (.int .u8 D) (.int .u8 F) (.int .u8 G) (.string H) (.i I) λC=>Nn C (nb y) λL M N O P=>wu V x #[.agg #[.int .u8 L,.int .u8 M,.int .u8 N,.string O,.i P]] C λ(t24:Bool) z=>bA (!t24) (R (ae (.tuple #[])) z) (∃t28:Int,z.cell? ((nb y).add 0)=some (.int .u8 t28)/\
 bA (t28==63) (R (ae (.tuple #[])) z) (L0 x q (aj .i64 (k+K)) z R)))) (∃t35:ByteArray,w.cell? q=some (.string t35)/\
 wu V x #[.agg #[.int .u8 36,.int .u8 0,.int .u8 0,.s0,.i (t35.size:Int)]] w λ(t38:Bool) S=>R (ae (.tuple #[])) S)):L0 x q k w R:=
 LP.step (n:=(cx 39)) (c:=C4) (E:=[(0,.func (.yield x) #[] #[]),(1,.pointer (some q)),(3,.i k)]) (w:=w) (sq C4 (sr C6 (show(λ(E:Env) (w:J)=>ed V C6 (λE w=>g9 (Env.val E (.tmp 9)) (ed V C9 (λE w=>g9 (Env.val E (.tmp 13)) (ed V kI (λE w=>qj E w R) E w) (ed V nT (λE w=>ed V o1 (λE w=>g9 (Env.val E (.tmp 30)) (me V Tryz.f224 E w (λv=>R (ae v) w)) (pR V kJ (λE w=>qj E w R) E w)) E w) E w)) E w) (pR V C5 (λE w=>me V Tryz.f224 E w (λv=>R (ae v) w)) E w)) E w) [(0,.func (.yield x) #[] #[]),(1,.pointer (some q)),(3,.i k)] w from mp h) λ_ _ d=>(cn kK d (λd=>(sk nU λa j=>nx j (bk C7 1 (by kernel_rfl) (sq C8 (sr C9 d λ_ _ d=>(cn m9 d (λd=>(sr kI d λ_ _ d=>(xt nV 1 (by kernel_rfl) λa j=>tR R _ _ d a j))) (λd=>(sk nW λa j=>nx j (sr nT d λ_ _ d=>(sq o0 (sr o1 d λ_ _ d=>(cn lu d (λd=>(rt mu λa j=>yF j d)) (λd=>(sk qh λa j=>nx j (rg kJ (by kernel_rfl) d λ_ _ a j d=>tR R _ _ d a j))))))))))))))) (λd=>(xt lx 0 (by kernel_rfl) λa j=>nx j (rg C5 (by kernel_rfl) d λ_ _ a j d=>yF j d))))))
def ok(j:Nat)(d:Addr)(w:J)(R:aK)(h:L0 j d 0 w R):ai V sI #[.func (.yield j) #[] #[],.pointer (some d)] w R:=
 xc (R:=R) (fn:=Tryz.f224) (c:=C0) (args:=[.func (.yield j) #[] #[],.pointer (some d)]) (by kernel_rfl) (by kernel_rfl) (by kernel_rfl) (sq C0 (sr C1 (show(λ(E:Env) (w:J)=>ed V C1 (λE w=>qj E w R) E w) (kV 0 [.func (.yield j) #[] #[],.pointer (some d)]) w from mp h) λ_ _ k=>(bk C2 0 (by kernel_rfl) (lp C3 (by kernel_rfl) (tR R _ _ k)))))
end BD
namespace Uc
def ok:=ay (ax V Tryz.f207 [] []) Ql [.st]
end Uc
namespace T5
def aC:=ay (ax V Tryz.f232 [] [4]) AY [.I,.s]
end T5
namespace yC
def a6:=bh (ax V Tryz.f231 [(4,(.sq [0,1,2,3,4,5,6,7,8,10,11] (.fork (ls [9,12]) (ls [12,9]))))] [2]) [0,2,1] [(0,.r),(2,.l [.I,.Y,.Y,.s] aZ)]
abbrev t1:=bg a6
def bD:=bm t1 a6
def aC:=ay t1 Qe [.r]
end yC
namespace T3
abbrev S0:=ak (ax V Tryz.f229 [(1,(.sq [0,1,2,3,4,5,6,7,9] (.fork (.sq [8,10,11,12,14,15] (.fork (ls [13,16]) (ls [16,13]))) (.sq [10,8,11,12,14,15] (.fork (ls [13,16]) (ls [16,13]))))))] []) [2] [(0,.r)]
abbrev t1:=ao S0
def ok:=ay t1 Qf [.r]
end T3
namespace T1
abbrev S0:=ak (ax V Tryz.f230 [(1,(.sq [0,1,2,3,4,5,6,7,9] (.fork (.sq [8,10,11,12,14,15] (.fork (ls [13,16]) (ls [16,13]))) (.sq [10,8,11,12,14,15] (.fork (ls [13,16]) (ls [16,13]))))))] []) [2] [(0,.r)]
abbrev t1:=ao S0
def ok:=ay t1 Qd [.r]
end T1
namespace T2
def aC:=ay (ax V Tryz.f210 [] [2,3]) Gp [.r]
end T2
namespace Hv
def ok:=ay (ax V Tryz.f209 [(1,lr 12)] []) AZ [.r]
end Hv
namespace T'
def ok:=ay (ax V Tryz.f226 [] []) Qj [.r,.I,.I]
end T'
namespace T7
def aC:=ay (ax V Tryz.f252 [(1,ls [0,2,1,3,4,5])] [3]) Gr [.r,.a 4,.I,.Y,.Y,.s]
end T7
namespace T8
def ok:=ay (ax V Tryz.f227 [(2,lr 15)] []) Gs [.r,.s]
end T8
namespace Hu
abbrev bt:=ak (ax V Tryz.f228 [] [3]) [2,1,7,1,1,1,1] []
abbrev t1:=ao bt
def aC:=ay t1 Gu [.r,.a 5,.Y,.Y,.Y,.st,.I]
end Hu
namespace yE
abbrev bt:=ak (ax V Tryz.f208 [(25,(.sq [0,1,2,3,4,6] (.fork (.sq [5,7,8,9,11,12] (.fork (ls [10,13]) (ls [13,10]))) (.sq [7,5,8,9,11,12] (.fork (ls [10,13]) (ls [13,10])))))),(28,lr 19)] [3]) [4] []
abbrev t1:=ao bt
abbrev b3:=ak t1 [2,1,7,1,1,1,3] [(0,.r)]
abbrev t2:=ao b3
def aC:=ay t2 Gt [.r,.a 5,.Y,.Y,.Y,.st,.I]
end yE
namespace Hs
noncomputable def C0:Code:=(Tryz.f190.body).getD .skip
noncomputable def C1:=C0.sn
noncomputable def C2:=C1.sn
noncomputable def C3:=C2.sn
noncomputable def C4:=C3.fs
noncomputable def C5:=C4.sn
noncomputable def C6:=C5.fs
noncomputable def C7:=W.Code.X5 C6
noncomputable def C8:=W.Code.Yk C6
noncomputable def C9:=C8.fs
noncomputable def m9:=C9.sn
noncomputable def kI:=m9.fs
abbrev Q0(l_:Nat)(d:Loop)(R:aK):Exit->Act->J->Prop:=(roundPost V l_ R)
abbrev Q1(l_:Nat)(d:Loop)(R:aK):Exit->Act->J->Prop:=(Exit.inBlock 1 (Q0 l_ d R))
noncomputable def nT:=kI.fs
noncomputable def o0:=kI.sn
abbrev S3(l_:Nat)(d:kH->Option Code->Obj)(t2 t3 t4 h:Addr)(w:J)(R:aK):Prop:=
 mF w λj=>∃t23:Int,j.cell? (h.add 4)=some (.i t23)/\
 mi j t2 (.i 0) (.int .u8 0) (.int .u8 0) (.slice none 0 0) λk=>k.cell? (h.add 4)=some (.i t23)/\aS k t3 (.i t23) λq=>
 aS q t4 (.i 2) λx=>
 mT x l_ (d .busy none) (d .done (some .ret)) λy=>R (ae (.bool false)) y
def wE(l_:Nat)(d:kH->Option Code->Obj)(E:Env)(w:J)(R:aK):Prop:=W.cM (Env.get? E 2) λh=>W.cM (Env.get? E 3) λj=>W.cM (Env.get? E 4) λk=>W.cM (Env.get? E 6) λq=>S3 l_ d h j k q w R
def CX(l_:Nat)(j:Loop)(R:aK)(E:Env)(w:J)(h:wE l_ (lo j) E w R):WP V ⟨32,[],some l_⟩ kI (Q1 l_ j R) E w:=by obtain⟨I,D,z⟩:=W.cT h;obtain⟨K,F,A⟩:=W.cT z;obtain⟨L,G,B⟩:=W.cT A;obtain⟨M,H,C⟩:=W.cT B;exact λa d=>WP.at (n:=⟨32,[],some l_⟩) (E:=[(2,.pointer (some I)),(3,.pointer (some K)),(4,.pointer (some L)),(6,.pointer (some M))]) (WP.seq (c:=kI) (x:=nT) (y:=o0) (by kernel_rfl)<|WP.draw (c:=nT) [0,1,2,3,4,5] (λE w=>mT w l_ ((lo j) .busy none) ((lo j) .done (some .ret)) λN=>R (ae (.bool false)) N) (by kernel_rfl) (mp C) λ_ _ a k q=>(WP.ret (c:=o0) (Q:=(Q1 l_ j R)) (by kernel_rfl) λa k=>(show roundPost V l_ R .ret a _ from ae3 (a:=a) (q).1 (q).2)) a k) (d.cons D (d.cons F (d.cons G (d.cons H d.nil))))
noncomputable def o1:=C9.fs
noncomputable def kJ:=m9.sn
abbrev S2(l_:Nat)(d:kH->Option Code->Obj)(t2 t3 t4 k h:Addr)(w:J)(R:aK):Prop:=
 Nn w h λq x y z A=>J7 Gt #[.pointer (some k),.agg #[.int .u8 q,.int .u8 x,.int .u8 y,.string z,.i A]] w λt19 j=>bA (!t19) (S3 l_ d t2 t3 t4 h j R) (mT j l_ (d .busy none) (d .ready none) λB=>R (ae (.bool true)) B)
def I3(l_:Nat)(d:kH->Option Code->Obj)(E:Env)(w:J)(R:aK):Prop:=W.cM (Env.get? E 2) λj=>W.cM (Env.get? E 3) λk=>W.cM (Env.get? E 4) λq=>W.cM (Env.get? E 5) λh=>W.cM (Env.get? E 6) λx=>S2 l_ d j k q h x w R
def Xr(l_:Nat)(k:Loop)(R:aK)(E:Env)(w:J)(h:I3 l_ (lo k) E w R):WP V ⟨32,[],some l_⟩ C9 (Q1 l_ k R) E w:=by obtain⟨M,F,z⟩:=W.cT h;obtain⟨N,G,A⟩:=W.cT z;obtain⟨O,H,B⟩:=W.cT A;obtain⟨L,I,C⟩:=W.cT B;obtain⟨P,K,D⟩:=W.cT C;exact λa j=>WP.at (n:=⟨32,[],some l_⟩) (E:=[(2,.pointer (some M)),(3,.pointer (some N)),(4,.pointer (some O)),(5,.pointer (some L)),(6,.pointer (some P))]) (WP.seq (c:=C9) (x:=o1) (y:=m9) (by kernel_rfl)<|WP.q5 (c:=o1) (λE w=>g9 (Env.val E (.tmp 20)) (wE l_ (lo k) E w R) (mT w l_ ((lo k) .busy none) ((lo k) .ready none) λQ=>R (ae (.bool true)) Q)) (by kernel_rfl) (mp D) λ_ _ a q d=>(WP.g9 (c:=m9) (x:=kI) (y:=kJ) (o:=.tmp 20) (by kernel_rfl) (λd=>(CX l_ k R _ _ d)) (λd=>(WP.skip (c:=kJ) (by kernel_rfl) λa q=>ae2 (a:=a) (d).1 (d).2)) d) a q) (j.cons F (j.cons G (j.cons H (j.cons I (j.cons K j.nil)))))
abbrev Q2(l_:Nat)(d:Loop)(R:aK):Exit->Act->J->Prop:=(Dj V 32 l_ d C8 (roundPost V l_ R))
abbrev S1(l_:Nat)(d:kH->Option Code->Obj)(t2 t3 t4 h:Addr)(j k q:Int)(x:ByteArray)(y:Int)(w:J)(R:aK):Prop:=
 dG w (.cells #[.int .u8 0,.int .u8 0,.int .u8 0,.s0,.i 0] oX) λz=>
 Vs z (nb w) (.int .u8 j) (.int .u8 k) (.int .u8 q) (.string x) (.i y) λA=>mT A l_ (d .ready none) (d .busy none) λB=>S2 l_ d t2 t3 t4 h (nb w) B R
def rF(l_:Nat)(d:kH->Option Code->Obj)(E:Env)(w:J)(R:aK):Prop:=W.cM (Env.get? E 2) λM=>W.cM (Env.get? E 3) λN=>W.cM (Env.get? E 4) λO=>W.cM (Env.get? E 5) λh=>W.asAgg (Env.get? E 17) λz=>W.qv z λG A=>W.asInt .u8 (some G) λj=>W.qv A λH B=>W.asInt .u8 (some H) λk=>W.qv B λI C=>W.asInt .u8 (some I) λq=>W.qv C λK D=>W.rV (some K) λx=>W.qv D λL F=>W.asInt .i64 (some L) λy=>W.uh F<|S1 l_ d M N O h j k q x y w R
def CW(l_:Nat)(j:Loop)(R:aK)(E:Env)(w:J)(h:rF l_ (lo j) E w R):WP V ⟨32,[],some l_⟩ C7 (Q2 l_ j R) E w:=by obtain⟨t2,S,y⟩:=W.cT h;obtain⟨t3,T,H⟩:=W.cT y;obtain⟨t4,U,I⟩:=W.cT H;obtain⟨Z,Y,K⟩:=W.cT I;obtain⟨af,Q,L⟩:=W.X2 K;obtain⟨al,ag,rfl,M⟩:=W.ug L;obtain⟨aa,ex,N⟩:=W.hC M;obtain rfl:=fb ex;obtain⟨am,ah,rfl,O⟩:=W.ug N;obtain⟨ab,ex,P⟩:=W.hC O;obtain rfl:=fb ex;obtain⟨an,ai,rfl,z⟩:=W.ug P;obtain⟨ac,ex,A⟩:=W.hC z;obtain rfl:=fb ex;obtain⟨ao,aj,rfl,B⟩:=W.ug A;obtain⟨ad,ex,C⟩:=W.wZ B;obtain rfl:=fb ex;obtain⟨ap,ak,rfl,D⟩:=W.ug C;obtain⟨ae,ex,F⟩:=W.hC D;obtain rfl:=fb ex;obtain⟨rfl,G⟩:=W.DB F;exact λa d=>WP.at (n:=⟨32,[],some l_⟩) (E:=[(2,.pointer (some t2)),(3,.pointer (some t3)),(4,.pointer (some t4)),(5,.pointer (some Z)),(17,.agg #[.int .u8 aa,.int .u8 ab,.int .u8 ac,.string ad,.i ae])]) (WP.q5 (c:=C7) (λE w=>w.heap[l_]? =some (lo j .ready none)/\((λw=>I3 l_ (lo j) E w R) (w.putObj l_ (lo j .busy none)))) (by kernel_rfl) (mp G) λ_ _ a q k=>⟨(k).1,(WP.block (c:=C8) (x:=C9) (id:=1) (by kernel_rfl) (Xr l_ j R _ _ (k).2)) a q⟩) (d.cons S (d.cons T (d.cons U (d.cons Y (d.cons Q d.nil)))))
abbrev CA(l_:Nat)(d:kH->Option Code->Obj)(z:ByteArray)(t2 t3 t4 h A:Addr)(j k q:Int)(x:ByteArray)(y:Int)(w:J)(R:aK):Prop:=
 S1 l_ d t2 t3 t4 h j k q x y w R
def XP(l_:Nat)(d:Loop)(k:ByteArray)(t2 t3 t4 j q:Addr)(x y z:Int)(A:ByteArray)(B:Int)(w:J)(R:aK)(h:CA l_ (lo d) k t2 t3 t4 j q x y z A B w R):WP V ⟨32,[],some l_⟩ C7 (Dj V 32 l_ d C8 (roundPost V l_ R)) (q0 [(0,.string k),(2,.pointer (some t2)),(3,.pointer (some t3)),(4,.pointer (some t4)),(5,.pointer (some j)),(16,.func (.func sI) #[] #[.pointer (some q)])] [17] [.agg #[.int .u8 x,.int .u8 y,.int .u8 z,.string A,.i B]]) w:=
 (CW l_ d R _ _ (mp h))
noncomputable def kK:=C3.sn
noncomputable def nU:=kK.sn
noncomputable def nV:=nU.fs
noncomputable def nW:=nV.sn
noncomputable def lu:=nW.fs
noncomputable def mu:=nU.sn
abbrev Q3(R:aK):iA:=(Exit.then (gj V (cx 32) mu (bodyPostM Fence.wide 0 V Tryz.f190 R)) (bodyPostM Fence.wide 0 V Tryz.f190 R))
noncomputable def qh:=lu.fs
noncomputable def lx:=lu.sn
abbrev S6(k:Nat)(A:ByteArray)(t2 t3 t4:Addr)(w:J)(R:aK):Prop:=
 mi w t2 (.i 0) (.int .u8 0) (.int .u8 0) (.slice none 0 0) λB=>aS B t3 (.i (A.size:Int)) λC=>
 aS C t4 (.i 4) λD=>
 mT D k (.deferred (some [])) (.deferred none) λd=>gC d t2 λq x y z=>∃h:Int,d.cell? t3=some (.i h)/\
 ∃j:Int,d.cell? t4=some (.i j)/\
 R (ae (.tuple #[.agg #[.i q,.int .u8 x,.int .u8 y,z.v],.i h,.i j])) d
def rH(d:Nat)(E:Env)(w:J)(R:aK):Prop:=W.rV (Env.get? E 0) λh=>W.cM (Env.get? E 2) λj=>W.cM (Env.get? E 3) λk=>W.cM (Env.get? E 4) λq=>S6 d h j k q w R
def wG(j:Nat)(R:aK)(E:Env)(w:J)(h:rH j E w R):WP V (marked 32 j) lu (Q3 R) E w:=by obtain⟨I,D,z⟩:=W.wZ h;obtain⟨K,F,A⟩:=W.cT z;obtain⟨L,G,B⟩:=W.cT A;obtain⟨M,H,C⟩:=W.cT B;exact λa d=>WP.at (n:=(marked 32 j)) (E:=[(0,.string I),(2,.pointer (some K)),(3,.pointer (some L)),(4,.pointer (some M))]) (WP.seq (c:=lu) (x:=qh) (y:=lx) (by kernel_rfl)<|WP.q5 (c:=qh) (λE w=>HA V Tryz.f190 E w j R) (by kernel_rfl) (mp C) λ_ _ a k q=>(WP.ret (c:=lx) (by kernel_rfl) λa k=>HB k q) a k) (d.cons D (d.cons F (d.cons G (d.cons H d.nil))))
abbrev Q4(R:aK):iA:=(bodyPostM Fence.wide 0 V Tryz.f190 R)
noncomputable def tG:=mu.fs
noncomputable def tH:=mu.sn
abbrev S7(k:Nat)(t2 t3 t4 H:Addr)(w:J)(R:aK):Prop:=
 gC w H λA B C D=>mi w t2 (.i A) (.int .u8 B) (.int .u8 C) (D.v) λE=>aS E t3 (.i 0) λF=>
 aS F t4 (.i 0) λG=>
 mT G k (.deferred (some [])) (.deferred none) λd=>gC d t2 λq x y z=>∃h:Int,d.cell? t3=some (.i h)/\
 ∃j:Int,d.cell? t4=some (.i j)/\
 R (ae (.tuple #[.agg #[.i q,.int .u8 x,.int .u8 y,z.v],.i h,.i j])) d
def wH(d:Nat)(E:Env)(w:J)(R:aK):Prop:=W.cM (Env.get? E 2) λh=>W.cM (Env.get? E 3) λj=>W.cM (Env.get? E 4) λk=>W.cM (Env.get? E 7) λq=>S7 d h j k q w R
def CZ(j:Nat)(R:aK)(E:Env)(w:J)(h:wH j E w R):WP V (marked 32 j) mu (Q4 R) E w:=by obtain⟨I,D,z⟩:=W.cT h;obtain⟨K,F,A⟩:=W.cT z;obtain⟨L,G,B⟩:=W.cT A;obtain⟨M,H,C⟩:=W.cT B;exact λa d=>WP.at (n:=(marked 32 j)) (E:=[(2,.pointer (some I)),(3,.pointer (some K)),(4,.pointer (some L)),(7,.pointer (some M))]) (WP.seq (c:=mu) (x:=tG) (y:=tH) (by kernel_rfl)<|WP.q5 (c:=tG) (λE w=>HA V Tryz.f190 E w j R) (by kernel_rfl) (mp C) λ_ _ a k q=>(WP.ret (c:=tH) (by kernel_rfl) λa k=>HB k q) a k) (d.cons D (d.cons F (d.cons G (d.cons H d.nil))))
noncomputable def tI:=nV.fs
noncomputable def tJ:=nW.sn
abbrev S5(d:Nat)(k:ByteArray)(t2 t3 t4 j:Addr)(w:J)(R:aK):Prop:=
 gC w j λq x y z=>J7 Gw #[.agg #[.i q,.int .u8 x,.int .u8 y,z.v]] w λt27 h=>bA t27 (S6 d k t2 t3 t4 h R) (S7 d t2 t3 t4 j h R)
def wF(d:Nat)(E:Env)(w:J)(R:aK):Prop:=W.rV (Env.get? E 0) λh=>W.cM (Env.get? E 2) λj=>W.cM (Env.get? E 3) λk=>W.cM (Env.get? E 4) λq=>W.cM (Env.get? E 7) λx=>S5 d h j k q x w R
def CY(d:Nat)(R:aK)(E:Env)(w:J)(h:wF d E w R):WP V (marked 32 d) nV (Q3 R) E w:=by obtain⟨L,F,z⟩:=W.wZ h;obtain⟨M,G,A⟩:=W.cT z;obtain⟨N,H,B⟩:=W.cT A;obtain⟨O,I,C⟩:=W.cT B;obtain⟨P,K,D⟩:=W.cT C;exact λa j=>WP.at (n:=(marked 32 d)) (E:=[(0,.string L),(2,.pointer (some M)),(3,.pointer (some N)),(4,.pointer (some O)),(7,.pointer (some P))]) (WP.seq (c:=nV) (x:=tI) (y:=nW) (by kernel_rfl)<|WP.q5 (c:=tI) (λE w=>g9 (Env.val E (.tmp 27)) (rH d E w R) (wH d E w R)) (by kernel_rfl) (mp D) λ_ _ a q k=>(WP.g9 (c:=nW) (x:=lu) (y:=tJ) (o:=.tmp 27) (by kernel_rfl) (λk=>(wG d R _ _ k)) (λk=>(WP.skip (c:=tJ) (by kernel_rfl) λa q=>(CZ d R _ _ k) a q)) k) a q) (j.cons F (j.cons G (j.cons H (j.cons I (j.cons K j.nil)))))
noncomputable def tK:=kK.fs
abbrev S4(h:Nat)(k:ByteArray)(t2 t3 t4 j:Addr)(w:J)(R:aK):Prop:=
 ZJ AZ #[.pointer (some j)] w λt24 A=>zS Gp #[.pointer t24] A λq x y z d=>dG d (.cells #[.i 0,.int .u8 0,.int .u8 0,.slice none 0 0] aZ) λB=>
 mi B (nb d) (.i q) (.int .u8 x) (.int .u8 y) (z.v) λC=>S5 h k t2 t3 t4 (nb d) C R
def qk(d:Nat)(E:Env)(w:J)(R:aK):Prop:=W.rV (Env.get? E 0) λj=>W.cM (Env.get? E 2) λk=>W.cM (Env.get? E 3) λq=>W.cM (Env.get? E 4) λx=>W.cM (Env.get? E 5) λh=>S4 d j k q x h w R
def rG(j:Nat)(R:aK)(E:Env)(w:J)(h:qk j E w R):WP V (marked 32 j) kK (Q4 R) E w:=by obtain⟨M,F,z⟩:=W.wZ h;obtain⟨N,G,A⟩:=W.cT z;obtain⟨O,H,B⟩:=W.cT A;obtain⟨P,I,C⟩:=W.cT B;obtain⟨L,K,D⟩:=W.cT C;exact λa d=>WP.at (n:=(marked 32 j)) (E:=[(0,.string M),(2,.pointer (some N)),(3,.pointer (some O)),(4,.pointer (some P)),(5,.pointer (some L))]) (WP.seq (c:=kK) (x:=tK) (y:=nU) (by kernel_rfl)<|WP.q5 (c:=tK) (λE w=>wF j E w R) (by kernel_rfl) (mp D) λ_ _ a k q=>(WP.seq (c:=nU) (x:=nV) (y:=mu) (by kernel_rfl) (CY j R _ _ q)) a k) (d.cons F (d.cons G (d.cons H (d.cons I (d.cons K d.nil)))))
abbrev S0(C:ByteArray)(t2 t3 t4 B D:Addr)(w:J)(R:aK):Prop:=
 ∀d:kH->Option Code->Obj,(∀(E F G:Int) (H:ByteArray) (I:Int) (q:J) (x:Bool->J->Prop),q.heap[w.heap.size+1]? =some (d .ready none)->CA (w.heap.size+1) d C t2 t3 t4 B D E F G H I q (λk P=>∃y:Bool,k=ae (.bool y)/\x y P)->wu V (w.heap.size+1) #[.agg #[.int .u8 E,.int .u8 F,.int .u8 G,.string H,.i I]] q x)->
 ai V sI #[.func (.yield (w.heap.size+1)) #[] #[],.pointer (some D)] ((w.alloc (.deferred (some []))).alloc (d .ready none)) λk Q=>(∃O,k=ae O)/\zw Q (w.heap.size+1) d (λh=>S4 w.heap.size C t2 t3 t4 B h R) (λS h=>False) (λh=>mT h w.heap.size (.deferred (some [])) (.deferred none) λj=>gC j t2 λK L M N=>∃z:Int,j.cell? t3=some (.i z)/\
 ∃A:Int,j.cell? t4=some (.i A)/\
 R (ae (.tuple #[.agg #[.i K,.int .u8 L,.int .u8 M,N.v],.i z,.i A])) j)
abbrev Q5(R:aK):iA:=(Exit.then (gj V (cx 32) kK (bodyPostM Fence.wide 0 V Tryz.f190 R)) (bodyPostM Fence.wide 0 V Tryz.f190 R))
abbrev Q6(R:aK):iA:=(Exit.inBlock 0 (Q5 R))
def CV(E:Env)(w:J)(R:aK):Prop:=W.rV (Env.get? E 0) λh=>W.cM (Env.get? E 2) λz=>W.cM (Env.get? E 3) λA=>W.cM (Env.get? E 4) λB=>W.cM (Env.get? E 5) λd=>W.zI sI (Env.get? E 16) λx k=>W.uh x<|W.qv k λy q=>W.cM (some y) λj=>W.uh q<|S0 h z A B d j w R
def Xq:rI V 32 CV C6 Q6:=by
 intro y ar F z;obtain⟨C,ag,P⟩:=W.wZ z;obtain⟨k,ai,S⟩:=W.cT P;obtain⟨q,aj,T⟩:=W.cT S;obtain⟨w,ak,U⟩:=W.cT T;obtain⟨B,al,Y⟩:=W.cT U;obtain⟨ax,av,ah,Z⟩:=W.X3 Y;obtain⟨rfl,aa⟩:=W.DB Z;obtain⟨ay,aw,rfl,ab⟩:=W.ug aa;obtain⟨D,ex,ac⟩:=W.cT ab;obtain rfl:=fb ex;obtain⟨rfl,Q⟩:=W.DB ac;exact λa d=>WP.at (n:=(cx 32)) (E:=[(0,.string C),(2,.pointer (some k)),(3,.pointer (some q)),(4,.pointer (some w)),(5,.pointer (some B)),(16,.func (.func sI) #[] #[.pointer (some D)])]) (WP.range (m:=32) (c:=C6) (g:=.tmp 16) (ps:=#[17]) (assign:=C7) (body:=C8) (gf:=sI) (lb:=#[.pointer (some D)]) (λh=>S4 F.heap.size C k q w B h y) (λau h=>False) (λh=>mT h F.heap.size (.deferred (some [])) (.deferred none) λx=>gC x k λan ao ap aq=>∃G:Int,x.cell? q=some (.i G)/\
 ∃H:Int,x.cell? w=some (.i H)/\
 y (ae (.tuple #[.agg #[.i an,.int .u8 ao,.int .u8 ap,aq.v],.i G,.i H])) x) (by kernel_rfl) rfl (by kernel_rfl)
  (λh j a A=>(rG F.heap.size y _ _ (mp j)) a A)
  (λ_ _ j=>j.elim)
  (λh j a A=>HB A (mp j))
  (λI am=>Q (lo I) (λK L M N O w_ K_ af ad=>ahi (args:=[.agg #[.int .u8 K,.int .u8 L,.int .u8 M,.string N,.i O]]) am af rfl (by kernel_rfl) (λ_ _ z=>z) (XP _ I C k q w B D K L M N O w_ _ ad)))) (d.cons ag (d.cons ai (d.cons aj (d.cons ak (d.cons al (d.cons ah d.nil))))))
noncomputable def rz:=C1.fs
noncomputable def rA:=rz.sn
noncomputable def tL:=rA.fs
noncomputable def CD:=tL.sn
noncomputable def CE:=rA.sn
def ok(j:ByteArray)(w:J)(R:aK)(h:dG w (.cells #[.i 0,.int .u8 0,.int .u8 0,.slice none 0 0] aZ) λk=>
 dG k (.cells #[.i 0] cb) λq=>
 dG q (.cells #[.i 0] Wx) λA=>
 bA (av ((j.size:Int)>4096)) (mi A (nb w) (.i 0) (.int .u8 0) (.int .u8 0) (.slice none 0 0) λS=>aS S (nb k) (.i 4096) λT=>
 aS T (nb q) (.i 4) λx=>
 gC x (nb w) λD F G H=>∃B:Int,x.cell? (nb k)=some (.i B)/\
 ∃C:Int,x.cell? (nb q)=some (.i C)/\
 R (ae (.tuple #[.agg #[.i D,.int .u8 F,.int .u8 G,H.v],.i B,.i C])) x) (dG A (.cells #[.i (-1),.slice none 0 0,.slice none 0 0,.slice none 0 0,.slice none 0 0,.i 0,.i 0,.int .u8 0,.int .u8 0,.slice none 0 0] iS) λz=>
 dG z (.cells #[.slice none 0 0,.i 0,.i 0] za) λO=>
 Vr O (nb z) (.slice (some (nb A)) 1 1) (.i 0) (.i 0) λP=>ZH Ql #[.string j] P λt16 Q=>W.zI sI (some t16) λM K=>W.uh M<|W.qv K λN L=>W.cM (some N) λI=>W.uh L<|S0 j (nb w) (nb k) (nb q) (nb z) I Q R)):ai V PZ #[.string j] w R:=
 ZO (R:=R) (fn:=Tryz.f190) (c:=C0) (args:=[.string j]) (by kernel_rfl) (by kernel_rfl) (by kernel_rfl) (sr C0 (show(λ(E:Env) (w:J)=>ed V C0 (λE w=>ed V rz (λE w=>g9 (Env.val E (.tmp 10)) (ed V tL (λE w=>me V Tryz.f190 E w (λv=>R (ae v) w)) E w) (ed V C2 (λE w=>ed V C4 (λE w=>CV E w R) E w) E w)) E w) E w) (kV 0 [.string j]) w from mp h) λ_ _ d=>(sq C1 (sr rz d λ_ _ d=>(cn rA d (λd=>(sr tL d λ_ _ d=>(rt CD λa y=>aeW y d))) (λd=>(sk CE λa y=>nx y (sr C2 d λ_ _ d=>(sq C3 (sr C4 d λ_ _ d=>(bk C5 0 (by kernel_rfl) (Xq R _ _ d)))))))))))
end Hs
abbrev eB:=Sl×List aa
def _root_.Go.W.En.rows(k:List eB):En:=⟨kp (k.flatMap λp:eB=>az p.1),λq=>(∀p∈k,aG q aZ 4 p.1 p.2)/\(k.flatMap λp:eB=>az p.1).Nodup,
 λq y w j=>⟨λp h=>(j.1 p h).cB λb d x=>w b (aT.2 (cc.2 ⟨p,h,d⟩)) x,j.2⟩,
 λq j b d=>by obtain⟨p,h,d⟩:=cc.1 (aT.1 d);exact(j.1 p h).lt b d,pH _⟩
def Ur(h:List eB)(y:h≠[])(w:J)(b:Nat)(d:b∈(En.rows h).fp):¬(En.rows h).P ({w with heap:=Array.replicate (b+1) (.map #[] 0)}):=by
 rintro⟨j,_⟩;obtain⟨p,k,d⟩:=cc.1 (aT.1 d);obtain⟨q,f,x⟩:=(j p k).row.wh b d
 grind
section
variable {M:Nat->Prop} {w0 w:J} {L D:List En} {U:List Nat}
def Mq(H:LH M w0 w L D){i:Nat}{d:List eB}(hi:L[i]? =some (.rows d)){b:Nat}(x:En.g b∈L):b∉(En.rows d).fp:=by
 intro j;obtain⟨z,h⟩:=hJ.1 x;by_cases k:i=z
 .subst k;rw[hi]at h;have q:En.rows d=En.g b:=fb h;have y:d≠[]:=by rintro rfl;simp[En.rows,kp]at j
  refine Ur d y w b j ?_;rw[q];show b<_;simp
 .exact mE H.nd hi h k b j (by simp[En.g])
def aaM{d:List eB}{j:Nat}{s s':Sl}{vs y:List aa}(k:d[j]? =some (s,vs))(q:(d.flatMap λp:eB=>az p.1).Nodup)(w:(az s').Nodup)(x:∀h∈az s',h∈az s\/h∉d.flatMap λp:eB=>az p.1):((d.set j (s',y)).flatMap λp:eB=>az p.1).Nodup:=
 GH (f:=λp:eB=>az p.1) k q w x
def Ys(s:Sl):(az s).Nodup:=by unfold az;grind
def AO{α:Type}{l:List α}{j:Nat}{a x:α}(h:x∈l.set j a):x=a\/∃i,i≠j/\l[i]? =some x:=by
 obtain⟨i,d⟩:=hJ.1 h
 grind
def Up{d:List eB}(k:(d.flatMap λp:eB=>az p.1).Nodup):∀{i j:Nat} {p h:eB},d[i]? =some p->d[j]? =some h->i≠j->∀b∈az p.1,b∉az h.1:=by
 induction d with
 |nil=>grind
 |cons a l q=>
  rw[cH,hL]at k
  grind
def HH(H:LH M w0 w L D){Y:J}(i j:Nat){d:List eB}{s s':Sl}{vs B:List aa}(hi:L[i]? =some (.rows d))(y:d[j]? =some (s,vs))(f:Fr (λb=>b∈az s) w Y)(K:aG Y aZ 4 s' B)(k:∀b∈az s',b∈az s\/w.heap.size<=b):
  LH M w0 Y (L.set i (.rows (d.set j (s',B)))) D:=by
 have q:(En.rows d).P w:=H.get i hi;have N:∀b∈az s,b∈(En.rows d).fp:=λb k=>aT.2 (cc.2 ⟨_,aD y,k⟩);have S:∀b∈d.flatMap (λp:eB=>az p.1),b<w.heap.size:=λb k=>(En.rows d).lt w q b (aT.2 k);refine H.g4 i _ hi (f.mono λA _ z=>N A z) ⟨λp h=>?_,aaM y q.2 (Ys _) λA z=>(k A z).imp id λQ h=>by grind⟩ λb h=>?_
 .rcases AO h with rfl|⟨O,G,x⟩
  .exact K
  .exact (q.1 p (aD x)).cB λb C I=>f.cB b I λF=>Up q.2 x y G b C F
 .obtain ⟨p,h,E⟩:=cc.1 (aT.1 h);rcases AO h with rfl|⟨O,_,x⟩
  .grind
  .exact .inl (aT.2 (cc.2 ⟨p,aD x,E⟩))
def _root_.Go.W.LH.zF(H:LH M w0 w L D)(i j:Nat){ty:TypeId}{k:List eB}{s src:Sl}{vs news:List aa}{K:Sl->J->Prop}(hi:L[i]? =some (.rows k))(q:k[j]? =some (s,vs))(z:bN 4 w src news)(G:∀u∈news,u.oneCell'=true)(N:(s.n+src.n) *40<=140737488355328)(I:∀d h,LH M w0 h (L.set i (.rows (k.set j (d,vs++news)))) D->d.n=s.n+src.n->(d.a=none->s.a=none/\src.n=0)->K d h)(bG:∀b∈U,En.g b∈L:=by simp):
  ∃d h,(eA #[jk,jk] ty #[s.v,src.v]).run V w=.ok d.v h/\kept U w h/\K d h:=by have Q:(En.rows k).P w:=H.get i hi;obtain⟨d,h,A,B,C,x,E,F⟩:=zH (ty:=ty) r8 (Q.1 _ (aD q)) z.2.2 z.1 G N;refine⟨d,h,A,λb y=>?_,I d h (HH H i j hi q x B E) C F⟩;refine x.cB b (H.own _ (bG b y)) λO=>?_;exact Mq H hi (bG b y) (aT.2 (cc.2 ⟨_,aD q,O⟩))
def _root_.Go.W.LH.BW(H:LH M w0 w L D)(i j a c:Nat){h:List eB}{s:Sl}{vs:List aa}{v:aa}{p:Addr}{K:J->Prop}(hi:L[i]? =some (.rows h))(k:h[j]? =some (s,vs))(F:s.a=some p)(C:a+c<vs.length)(A:∀x,LH M w0 x (L.set i (.rows (h.set j (s,vs.set (a+c) v)))) D->K x)(bG:∀b∈U,En.g b∈L:=by simp):aS w ((p.add a).add c) v λy=>kept U w y/\K y:=by have B:(En.rows h).P w:=H.get i hi;obtain⟨Q,q,O,G,I,N,z⟩:=G1 (B.1 _ (aD k)) (a+c) C v;rw[F]at q;cases q;rw[add_add];refine⟨G,I,λb d=>?_,A _ (HH H i j hi k z N λb d=>.inl d)⟩;exact z.cB b (H.own _ (bG b d)) λE=>Mq H hi (bG b d) (aT.2 (cc.2 ⟨_,aD k,E⟩))
def _root_.Go.W.LH.Fe(H:LH M w0 w L D)(i j:Nat){q:List eB}{s:Sl}{vs:List aa}(hi:L[i]? =some (.rows q))(x:q[j]? =some (s,vs)):LH M w0 w (L.set i (.rows (q.set j (⟨none,0,0⟩,[])))) (D++[.bf 4 s vs]):=by
 have E:(En.rows q).P w:=H.get i hi;have h:=HH H i j hi x (Fr.refl _ _) (aG.nil w aZ 4) (λb k=>by simp[az]at k);have N:∀b∈az s,b∈(En.rows q).fp:=λb k=>aT.2 (cc.2 ⟨_,aD x,k⟩);have Q:i<L.length:=(cX.1 hi).1;refine⟨h.fr,h.own,λe d=>?_,h.new,h.nd,λe d b k F C y=>?_⟩
 .rcases aX.1 d with d|d
  .exact h.rd e d
  .simp at d;subst d;exact(E.1 _ (aD x)).bf
 .rcases aX.1 d with d|d
  .exact h.dj e d b k F C y
  .simp at d;subst d;have B:b∈az s:=gY (e:=aZ) k;rcases AO C with rfl|⟨O,z,G⟩
   .obtain ⟨S,K,A⟩:=cc.1 (aT.1 y);rcases AO K with rfl|⟨O,z,I⟩
    .simp [az]at A
    .exact Up E.2 I x z b A B
   .exact mE H.nd hi G (λe=>z e.symm) b (N b B) y
end
structure FX where
 k:Int
 ar:Sl×List Rx
 al:List Rx
 an:List Rx
 ca:List Rx
 n:Nat
 la:Rx
structure FM where
 k:Int
 ar:Sl×List I
 al:Sl×List I
 an:Sl×List I
 ca:Sl×List I
 n:Nat
 la:I
def FM.x(f:FM):FX:=⟨f.k,(f.ar.1,I.aw f.ar.2),I.aw f.al.2,I.aw f.an.2,I.aw f.ca.2,f.n,f.la.rx⟩
def FM.c(f:FM):List aa:=[.int .i64 f.k,f.ar.1.v,f.al.1.v,f.an.1.v,f.ca.1.v,.int .i64 (f.n:Int),.int .i64 f.la.k,.int .u8 (f.la.lo.toNat:Int),.int .u8 (f.la.hi.toNat:Int),f.la.s.v]
def FM.rows(f:FM):List eB:=[(f.ar.1,f.ar.2.flatMap I.c),(f.al.1,f.al.2.flatMap I.c),(f.an.1,f.an.2.flatMap I.c),(f.ca.1,f.ca.2.flatMap I.c)]
def FM.O(f:FM):List I:=f.ar.2++f.al.2++f.an.2++f.ca.2++[f.la]
def FM.ke(f:FM):f.c.length=10:=rfl
def qG(d:List FM):(d.flatMap FM.c).length=d.length *10:=qE FM.c 10 FM.ke d
abbrev SL(rb:Nat)(sl:Sl)(st h:Int)(cs:List aa)(d:List eB):List En:=[.c rb [sl.v,.int .i64 st,.int .i64 h] za,.row iS 10 sl cs,.rows d]
def St(w:J)(rb:Nat)(f0:Addr)(lo:List FX)(j:FX)(st h:Int)(own:List Nat)(O:List I):Prop:=
 ∃(sl:Sl) (d:List FM) (f:FM) (p:Addr),d.map FM.x=lo/\f.x=j/\(∀g∈d++[f],∀t∈g.O,t∈O)/\sl.a=some p/\f0=p.add (d.length *10)/\
  own=(SL rb sl st h ((d++[f]).flatMap FM.c) ((d++[f]).flatMap FM.rows)).flatMap (·.fp)/\own.Nodup/\(∀e∈SL rb sl st h ((d++[f]).flatMap FM.c) ((d++[f]).flatMap FM.rows),e.P w)/\I.Ps w O/\∀b∈I.bj O,b∉own
def iX(w:J)(own:List Nat)(O:List I)(rb:Nat)(f0:Addr)(lo:List FX)(k:FX)(st q:Int)(A:List I->Prop)(Y:J):Prop:=∃h d,St Y rb f0 lo k st q h d/\Fr (·∈own) w Y/\(∀j∈h,j∈own\/w.heap.size<=j)/\(∀b∈I.bj d,b∈I.bj O\/b∈own\/w.heap.size<=b)/\(∀t∈O,t∈d)/\A d
def iX.then{w z Y:J}{own x:List Nat}{O k:List I}{rb:Nat}{f0:Addr}{lo:List FX}{y:FX}{st B:Int}{A:List I->Prop}(j:Fr (·∈own) w z)(K:∀d∈x,d∈own\/w.heap.size<=d)(T:∀b∈I.bj k,b∈I.bj O\/b∈own\/w.heap.size<=b)(P:∀t∈O,t∈k)(h:iX z x k rb f0 lo y st B A Y):iX w own O rb f0 lo y st B A Y:=by
 obtain⟨M,S,N,E,L,D,Q,C⟩:=h;refine⟨M,S,N,j.trans E λd q G=>(K d G).resolve_right λh=>co,λd q=>?_,λb F=>?_,λt H=>Q t (P t H),C⟩
 .rcases L d q with h|h
  .grind
  .exact .inr (bb j.size h)
 .rcases D b F with h|h|h
  .grind
  .grind
  .exact .inr (.inr (bb j.size h))
def iX.mono{w Y:J}{own:List Nat}{O:List I}{rb:Nat}{f0:Addr}{lo:List FX}{d:FX}{st j:Int}{A B:List I->Prop}(h:iX w own O rb f0 lo d st j A Y)(y:∀l,A l->B l):iX w own O rb f0 lo d st j B Y:=by obtain⟨C,F,D,x,z,q,E,k⟩:=h;exact⟨C,F,D,x,z,q,E,y _ k⟩
def St.w3{w:J}{rb:Nat}{sl:Sl}{d:List FM}{f:FM}{O:List I}{st j:Int}{own:List Nat}(x:own=(SL rb sl st j ((d++[f]).flatMap FM.c) ((d++[f]).flatMap FM.rows)).flatMap (·.fp))(y:own.Nodup)(z:∀e∈SL rb sl st j ((d++[f]).flatMap FM.c) ((d++[f]).flatMap FM.rows),e.P w)(A:I.Ps w O)(q:∀b∈I.bj O,b∉own):
  LH (·∈own) w w (SL rb sl st j ((d++[f]).flatMap FM.c) ((d++[f]).flatMap FM.rows)) [.trees O]:=by
 refine LH.th _ _ (λe h=>⟨z e h,λb k=>by grind⟩) (x▸y) λe h=>?_;simp only[aq,aL,aO]at h;subst h;refine⟨A,λb k B D C=>q b (aT.1 k) ?_⟩
 grind
def St.of{w Y:J}{rb:Nat}{f0:Addr}{sl:Sl}{d:List FM}{f:FM}{O h:List I}{st z:Int}{own:List Nat}{p:Addr}{D:List En}{A:List I->Prop}(H:LH (·∈own) w Y (SL rb sl st z ((d++[f]).flatMap FM.c) ((d++[f]).flatMap FM.rows)) D)(i:Nat)(y:D[i]? =some (.trees h))(G:∀g∈d++[f],∀t∈g.O,t∈h)(F:sl.a=some p)(B:f0=p.add (d.length *10))(j:∀b∈I.bj h,b∈I.bj O\/b∈own\/w.heap.size<=b)(K:∀t∈O,t∈h)(C:A h):
  iX w own O rb f0 (d.map FM.x) f.x st z A Y:=by
 refine⟨_,h,⟨sl,d,f,p,rfl,rfl,G,F,B,rfl,H.nd,H.own,H.getD i y,λb j E=>?_⟩,H.fr,λM L=>?_,j,K,C⟩
 .obtain ⟨e,q,k⟩:=cc.1 E;exact H.dj _ (aD y) b (aT.2 j) e q k
 .obtain ⟨e,q,k⟩:=cc.1 L;exact(H.new e q M k).symm
section
variable {M:Nat->Prop} {w0 w:J} {L D:List En} {U:List Nat}
def _root_.Go.W.LH.hg(H:LH M w0 w L D)(i:Nat){sl:Sl}{d:List FM}{f:FM}{p:Addr}(hi:L[i]? =some (.row iS 10 sl ((d++[f]).flatMap FM.c)))(y:sl.a=some p)(j:Nat){v:aa}(z:f.c[j]? =some v:=by rfl):w.cell? ((p.add (d.length *10)).add j)=some v:=by
 have x:aG w iS 10 sl ((d++[f]).flatMap FM.c):=H.get i hi;have q:((d++[f]).flatMap FM.c)[d.length *10+j]? =some v:=by
  rw[cW,List.getElem?_append_right (by rw[qG];omega),qG]
  grind
 obtain⟨A,h,k⟩:=x.bf.2.2.2 _ _ q;rw[y]at h;cases h;rw[add_add];exact k
def aaX(d:List FM)(f k:FM)(j:Nat)(v:aa)(q:j<10)(h:f.c.set j v=k.c):((d++[f]).flatMap FM.c).set (d.length *10+j) v=(d++[k]).flatMap FM.c:=by
 rw[cW,cW,List.set_append,ag (by rw[qG];omega),qG]
 grind
def _root_.Go.W.LH.ji(H:LH M w0 w L D)(i:Nat){sl:Sl}{d:List FM}{f:FM}{p:Addr}{K:J->Prop}{v:aa}(k:FM)(j:Nat)(hi:L[i]? =some (.row iS 10 sl ((d++[f]).flatMap FM.c)))(B:sl.a=some p)(A:j<10)(z:f.c.set j v=k.c)(y:∀h,LH M w0 h (L.set i (.row iS 10 sl ((d++[k]).flatMap FM.c))) D->K h)(bG:∀b∈U,En.g b∈L:=by simp):aS w ((p.add (d.length *10)).add j) v λx=>kept U w x/\K x:=
 H.oV i (d.length *10) j hi B (by rw[qG];grind) (λh q=>y h (by rw[aaX d f k j v A z]at q;exact q)) bG
def H7{w:J}{p:Addr}{v:aa}{K:J->Prop}(h:aS w p v λd=>kept [] w d/\K d):aS w p v K:=afO h λ_ h=>h.2
end
def HF:∀d:List FM,(d.flatMap FM.rows).length=d.length *4
 |[]=>rfl
 |f::d=>by have:=HF d;simp only[cH,List.length_append,List.length_cons];have:f.rows.length=4:=rfl;omega
def HG(d:List FM)(f:FM)(j:Nat)(x:eB)(h:j<4):((d++[f]).flatMap FM.rows).set (d.length *4+j) x=d.flatMap FM.rows++f.rows.set j x:=by
 have k:=HF d
 grind
def q8(d:List FM)(f:FM)(j:Nat)(x:eB)(k:f.rows[j]? =some x):((d++[f]).flatMap FM.rows)[d.length *4+j]? =some x:=by
 have h:=HF d
 grind
def gD(k:Int)(s:Sl)(O:List I):I:=match O with |[d]=>d|l=>.mk k 0 0 s l
def pJ(k:Int)(l:List Rx):Rx:=match l with |[d]=>d|l=>.mk k 0 0 l
def GQ(k:Int)(s:Sl)(O:List I):(gD k s O).rx=pJ k (I.aw O):=by
 match O with
 |[]=>rfl
 |[d]=>rfl
 |d::h::l=>rfl
def adK{k:Int}{s:Sl}{O:List I}{b:Nat}(h:b∈(gD k s O).fp):b∈(I.row s O).fp\/b∈I.bj O:=by
 match O,h with
 |[],h=>exact I.gU.1 (show b∈(I.mk k 0 0 s []).fp from h)
 |[x],h=>exact .inr (I.b'.2 ⟨x,ws,h⟩)
 |x::d::l,h=>exact I.gU.1 (show b∈(I.mk k 0 0 s (x::d::l)).fp from h)
def DZ(k:Int)(s:Sl)(O:List I)(w:J)(h:bN 4 w s (O.flatMap I.c)):ai V AY #[.int .i64 k,s.v] w λr B=>r=ae (gD k s O).v/\af w B:=by
 have y:=I.cI h;refine T5.aC ((bK [I.row s O] (by intro e x;simp only[aq,aL,aO]at x;subst x;exact h)).aH λD F d=>aP (λz=>⟨co,co,?_⟩) (λz=>d.ah λC j=>⟨?_,j.fr⟩))
 .have A:O.length=1:=co
  obtain⟨q,rfl⟩:=List.length_eq_one_iff.1 A;refine I.dE (d.getD 0) (i:=0) (t:=q) rfl λp E c=>⟨_,_,_,_,c.c0,c.c1,c.c2,c.c3,d.ah λC j=>⟨rfl,j.fr⟩⟩
 .match O,y with
  |[],_=>rfl
  |[q],y=>grind
  |q::G::l,_=>rfl
section
variable {M:Nat->Prop} {w0 w:J} {L D:List En} {U:List Nat}
def _root_.Go.W.LH.node(H:LH M w0 w L D)(i:Nat){O ks:List I}{s:Sl}(k:Int)(lo hi:UInt8)(q:D[i]? =some (.trees O))(y:I.row s ks∈D)(x:∀t∈ks,t∈O):LH M w0 w L [.trees (O++[.mk k lo hi s ks])]:=by
 have z:I.Ps w O:=H.getD i q;have B:=H.gP (.trees (O++[.mk k lo hi s ks])) (Fr.refl _ _) (I.jd λt d=>?_) λb C=>.inr (.inr ?_)
 .exact B.forget _ ws
 .rcases aX.1 d with d|d
  .exact z.mem d
  .simp at d;subst d;unfold I.P;exact⟨H.rd _ y,I.jd λt d=>z.mem (x t d)⟩
 .obtain ⟨t,d,j⟩:=I.b'.1 (aT.1 C);rcases aX.1 d with d|d
  .exact ⟨_,aD q,aT.2 (I.b'.2 ⟨t,d,j⟩)⟩
  .simp at d;rw[d]at j;rcases I.gU.1 j with h|h
   .exact ⟨_,y,h⟩
   .obtain ⟨A,F,E⟩:=I.b'.1 h;exact⟨_,aD q,aT.2 (I.b'.2 ⟨A,x A F,E⟩)⟩
def _root_.Go.W.LH.RR(H:LH M w0 w L D)(i:Nat){O ks:List I}{s:Sl}(k:Int)(q:D[i]? =some (.trees O))(j:I.row s ks∈D)(h:∀t∈ks,t∈O):LH M w0 w L [.trees (O++[gD k s ks])]:=by
 match ks,j,h with
 |[],j,h=>exact H.node i k 0 0 q j h
 |x::E::l,j,h=>exact H.node i k 0 0 q j h
 |[x],j,h=>
  have A:I.Ps w O:=H.getD i q;have z:=h x ws;have B:=H.gP (.trees (O++[x])) (Fr.refl _ _) (I.jd λt d=>?_) λb C=>.inr (.inr ?_)
  .exact B.forget _ (by simp[gD])
  .rcases aX.1 d with d|d
   .exact A.mem d
   .simp at d;subst d;exact A.mem z
  .obtain ⟨t,d,y⟩:=I.b'.1 (aT.1 C);rcases aX.1 d with d|d
   .exact ⟨_,aD q,aT.2 (I.b'.2 ⟨t,d,y⟩)⟩
   .simp at d;rw[d]at y;exact⟨_,aD q,aT.2 (I.b'.2 ⟨x,z,y⟩)⟩
abbrev z4:List aa:=[.int .i64 0,.int .u8 0,.int .u8 0,.slice none 0 0]
def zG(vs u:List aa)(n j:Nat)(v:aa)(d:vs.length=n):(vs++u).set (n+j) v=vs++u.set j v:=by grind
def _root_.Go.W.LH.vB(H:LH M w0 w L D)(i j n:Nat){d:List eB}{s:Sl}{vs:List aa}{p:Addr}{K:J->Prop}(t:I)(hi:L[i]? =some (.rows d))(Z:d[j]? =some (s,vs++z4))(E:s.a=some p)(C:vs.length=n *4)(hK:∀w',LH M w0 w' (L.set i (.rows (d.set j (s,vs++t.c)))) D->K w')(bG:∀b∈U,En.g b∈L):
  aS w (p.add (a0 (n:Int) *4)) (.int .i64 t.k) λz=>kept U w z/\aS z ((p.add (a0 (n:Int) *4)).add 1) (.int .u8 (t.lo.toNat:Int)) λh=>kept U z h/\aS h ((p.add (a0 (n:Int) *4)).add 2) (.int .u8 (t.hi.toNat:Int)) λq=>kept U h q/\aS q ((p.add (a0 (n:Int) *4)).add 3) t.s.v λA=>kept U q A/\K A:=by
 rw[Int.toNat_natCast];have ah:i<L.length:=(cX.1 hi).1;have ai:j<d.length:=(cX.1 Z).1;have G:∀{L':List En} (e:En),L'.length=L.length->(L'.set i e)[i]? =some e:=λ{L'} e hl=>by grind
 have F:∀(B:List eB) (x:eB),B.length=d.length->(B.set j x)[j]? =some x:=λB x hl=>by grind
 have N:∀{b:Nat},En.g b∈L->∀(B:List eB),En.g b∈L.set i (.rows B):=λ{b} y B=>by
  obtain⟨ab,hk⟩:=hJ.1 y;by_cases ad:i=ab
  .subst ad;exfalso;rw[hi]at hk;have hP:(En.rows d).P w:=H.get i hi;have Y:En.rows d=En.g b:=fb hk;have ag:(En.rows d).fp=[b]:=by rw[Y];rfl
   have ac:b∈(En.rows d).fp:=by grind
   have ae:d≠[]:=by grind
   refine Ur d ae w b ac ?_;rw[Y];show b<_;simp
  .exact hJ.2 ⟨ab,by grind⟩
 have af:=H.BW (U:=U) i j (n *4) 0 (v:=.int .i64 t.k) (K:=λz=>aS z ((p.add (n *4)).add 1) (.int .u8 (t.lo.toNat:Int)) λh=>kept U z h/\aS h ((p.add (n *4)).add 2) (.int .u8 (t.hi.toNat:Int)) λq=>kept U h q/\aS q ((p.add (n *4)).add 3) t.s.v λA=>kept U q A/\K A) hi Z E (by grind) ?_ bG
 .rw [jq]at af;omega
 intro z O;rw[zG vs z4 (n *4) 0 _ C]at O;refine O.BW (U:=U) i j (n *4) 1 (G _ rfl) (F _ _ rfl) E (by grind) ?_ (λb y=>N (bG b y) _);intro h Q;rw[zG vs _ (n *4) 1 _ C,List.set_set,List.set_set]at Q;refine Q.BW (U:=U) i j (n *4) 2 (G _ rfl) (F _ _ rfl) E (by grind) ?_ (λb y=>N (bG b y) _);intro q S;rw[zG vs _ (n *4) 2 _ C,List.set_set,List.set_set]at S;refine S.BW (U:=U) i j (n *4) 3 (G _ rfl) (F _ _ rfl) E (by grind) ?_ (λb y=>N (bG b y) _);intro A T;rw[zG vs _ (n *4) 3 _ C,List.set_set,List.set_set]at T;exact hK A T
def _root_.Go.W.LH.No(H:LH M w0 w L D)(i:Nat){sl:Sl}{d:List FM}{f:FM}{p:Addr}(hi:L[i]? =some (.row iS 10 sl ((d++[f]).flatMap FM.c)))(h:sl.a=some p):
  w.cell? (((p.add (d.length *10)).add 6).add 0)=some (.int .i64 f.la.k)/\w.cell? (((p.add (d.length *10)).add 6).add 1)=some (.int .u8 (f.la.lo.toNat:Int))/\w.cell? (((p.add (d.length *10)).add 6).add 2)=some (.int .u8 (f.la.hi.toNat:Int))/\w.cell? (((p.add (d.length *10)).add 6).add 3)=some f.la.s.v:=by
 refine⟨?_,?_,?_,?_⟩
 .rw [jq];exact H.hg i hi h 6
 .rw [add_add];exact H.hg i hi h 7
 .rw [add_add];exact H.hg i hi h 8
 .rw [add_add];exact H.hg i hi h 9
end
def oD:Nat->Rx->Rx
 |0,r=>r
 |n+1,r=>oD n (.mk 6 0 0 [r])
def lL(f:FX):FX:=⟨f.k,f.ar,f.al,f.an,f.ca++[oD f.n f.la],0,f.la⟩
def JK{w:J}{rb:Nat}{f0:Addr}{lo:List FX}{Z:FX}{st D:Int}{own:List Nat}{O:List I}(h:St w rb f0 lo Z st D own O)(hn:Z.n<=1000000)(hc:Z.ca.length<=1000000):
  ai V Qe #[.pointer (some f0)] w λr Y=>r=ae (.tuple #[])/\iX w own O rb f0 lo (lL Z) st D (λ_=>True) Y:=by
 obtain⟨sl,d,f,p,rfl,rfl,K,y,rfl,h6,h7,h8,h9,av⟩:=h;have ad:=St.w3 h6 h7 h8 h9 av;have ax:f.la∈O:=K f ws _ (by simp[FM.O]);have aA:f.ca.2.length<=1000000:=by
  have:f.x.ca.length=f.ca.2.length:=by show(I.aw f.ca.2).length=_;rw[I.gb];simp
  omega
 have loop:∀(m:Nat) (r:I) (B:List I) (b2:Nat) (C:J),m<=1000000->(∀t∈O,t∈B)->(∀b∈I.bj B,b∈I.bj O\/b∈own\/w.heap.size<=b)->r∈B->oD m r.rx=oD f.n f.la.rx->
   LH (·∈own) w C (SL rb sl st D ((d++[(⟨f.k,f.ar,f.al,f.an,f.ca,m,f.la⟩:FM)]).flatMap FM.c) ((d++[f]).flatMap FM.rows)++[.g b2]) [.trees B]->
   yC.a6 (p.add (d.length *10)) b2 r.k r.lo.toNat r.hi.toNat r.s C λr Y=>r=ae (.tuple #[])/\iX w own O rb (p.add (d.length *10)) (d.map FM.x) (lL f.x) st D (λ_=>True) Y:=by
  intro m;induction m with
  |zero=>
   intro r B b2 C _ H W hr he z;refine yC.bD ⟨0,z.hg 1 rfl y 5,aN rfl (z.ah λQ E=>⟨_,E.hg 1 rfl y 4,?_⟩)⟩;have am:((d++[f]).flatMap FM.rows)[d.length *4+3]? =some (f.ca.1,f.ca.2.flatMap I.c):=q8 d f 3 _ rfl;have nr:f.ca.1.n=f.ca.2.length:=by have hp:(En.rows ((d++[f]).flatMap FM.rows)).P Q:=E.get 2;exact I.cI (hp.1 _ (aD am)).bf
   refine E.cZ (e:=aZ) (sz:=4) (n:=1) (cs:=z4) rfl md λap F=>⟨F.hg 1 rfl y 4,?_⟩;refine F.zF (U:=[b2]) 2 (d.length *4+3) (src:=⟨some (ab Q.heap.size),1,1⟩) (news:=z4) rfl am (aG.bf (F.get 4)) (by simp[Value.oneCell']) (by grind) (λq w4 S ak aB=>⟨co,by grind,?_⟩);obtain⟨ac,hq⟩:∃ac,q.a=some ac:=by
    cases hs:q.a with
    |none=>grind
    |some ac=>grind
   rw[hq];have ag:d.length *4+3<((d++[f]).flatMap FM.rows).length:=by grind
   have T:LH (·∈own) w w4 (SL rb sl st D ((d++[(⟨f.k,f.ar,f.al,f.an,f.ca,0,f.la⟩:FM)]).flatMap FM.c) (((d++[f]).flatMap FM.rows).set (d.length *4+3) (q,f.ca.2.flatMap I.c++z4))++[.g b2]) [.trees B]:=S.take 4;have fin:∀{Y:J},LH (·∈own) w Y (SL rb sl st D ((d++[(⟨f.k,f.ar,f.al,f.an,(q,f.ca.2++[r]),0,f.la⟩:FM)]).flatMap FM.c) (((d++[f]).flatMap FM.rows).set (d.length *4+3) (q,f.ca.2.flatMap I.c++r.c))++[.g b2]) [.trees B]->
     (Ending.returned (.tuple #[])=ae (.tuple #[])/\iX w own O rb (p.add (d.length *10)) (d.map FM.x) (lL f.x) st D (λ_=>True) Y):=λ{Y} H'=>by
    refine⟨rfl,?_⟩;have au:((d++[f]).flatMap FM.rows).set (d.length *4+3) (q,f.ca.2.flatMap I.c++r.c)=(d++[(⟨f.k,f.ar,f.al,f.an,(q,f.ca.2++[r]),0,f.la⟩:FM)]).flatMap FM.rows:=by rw[HG d f 3 _ co,cW];congr 1;simp[FM.rows]
    rw[au]at H';have:=St.of (O:=O) (A:=λ_=>True) (f0:=p.add (d.length *10)) (H'.take 3) 0 rfl (λg N t j=>?_) y rfl W H trivial
    .have e2:(FM.x ⟨f.k,f.ar,f.al,f.an,(q,f.ca.2++[r]),0,f.la⟩)=lL f.x:=by
      unfold FM.x lL;simp only[kA];have:I.aw [r]=[oD f.n f.la.rx]:=by rw[<-he];rfl
      grind
     grind
    .rcases aX.1 N with N|N
     .grind
     .simp at N;subst N;simp only[FM.O,aX,aq,aL,aO]at j;rcases j with(((j|j)|j)|(j|rfl))|rfl
      .exact H t (K f ws t (by simp[FM.O,j]))
      .exact H t (K f ws t (by simp[FM.O,j]))
      .exact H t (K f ws t (by simp[FM.O,j]))
      .exact H t (K f ws t (by simp[FM.O,j]))
      .exact hr
      grind
   refine⟨?_,?_⟩
   .rw [nr];refine T.vB (U:=[b2]) 2 (d.length *4+3) f.ca.2.length r rfl (kv ag) hq (I.e1 _) (λY G=>?_) ws;rw[List.set_set]at G;exact G.ji (U:=[b2]) (f:=⟨f.k,f.ar,f.al,f.an,f.ca,0,f.la⟩) 1 ⟨f.k,f.ar,f.al,f.an,(q,f.ca.2++[r]),0,f.la⟩ 4 rfl y co rfl (λay H7=>fin H7) ws
   .refine T.ji (U:=[b2]) (f:=⟨f.k,f.ar,f.al,f.an,f.ca,0,f.la⟩) 1 ⟨f.k,f.ar,f.al,f.an,(q,f.ca.2++[r]),0,f.la⟩ 4 rfl y co rfl (λY G=>?_) ws;rw[nr];refine LH.vB (U:=[b2]) (L:=SL rb sl st D ((d++[(⟨f.k,f.ar,f.al,f.an,(q,f.ca.2++[r]),0,f.la⟩:FM)]).flatMap FM.c) (((d++[f]).flatMap FM.rows).set (d.length *4+3) (q,f.ca.2.flatMap I.c++z4))++[.g b2]) G 2 (d.length *4+3) f.ca.2.length r rfl (kv ag) hq (I.e1 _) (λay H7=>?_) ws;rw[List.set_set]at H7
    grind
  |succ m ih=>
   intro r B b2 C hm H W hr he z;refine yC.bD ⟨((m+1:Nat):Int),z.hg 1 rfl y 5,aM (aR co) ?_⟩;refine z.cZ (e:=aZ) (sz:=4) (n:=1) (cs:=r.c) rfl md λQ E=>E.ah (U:=[b2]) (λap F=>⟨_,F.hg 1 rfl y 5,?_⟩) ws;have e:aj .i64 (((m+1:Nat):Int) - 1)=(m:Int):=by rw[aQ _ co];omega
   show aS ap _ (.int .i64 (aj .i64 (((m+1:Nat):Int) - 1))) _;rw[e];refine F.ji (U:=[b2]) (f:=⟨f.k,f.ar,f.al,f.an,f.ca,m+1,f.la⟩) 1 ⟨f.k,f.ar,f.al,f.an,f.ca,m,f.la⟩ 5 rfl y co rfl (λw4 S=>?_) ws;have T:=S.freeze 4 (I.row ⟨some (ab C.heap.size),1,1⟩ [r]) rfl (by show bN 4 w4 _ ([r].flatMap I.c);rw[show[r].flatMap I.c=r.c by simp];exact aG.bf (S.get 4)) (λb M=>gY (e:=aZ) (vs:=[r].flatMap I.c) M);have G:=T.node 0 6 0 0 (s:=⟨some (ab C.heap.size),1,1⟩) (ks:=[r]) rfl ws (λt j=>by grind);refine ih (.mk 6 0 0 ⟨some (ab C.heap.size),1,1⟩ [r]) _ b2 w4 co (λt j=>by grind) (λb M=>?_) ws he G;obtain⟨t,j,aa⟩:=I.b'.1 M;rcases aX.1 j with j|j
   .exact W b (I.b'.2 ⟨t,j,aa⟩)
   .simp at j;rw[j]at aa;rcases I.gU.1 aa with h|h
    .have:=gY (e:=aZ) h;simp[En.row,az,I.s]at this;subst this;exact .inr (.inr z.fr.size)
    .obtain ⟨t',ao,af⟩:=I.b'.1 h;simp[I.l]at ao;rw[ao]at af;exact W b (I.b'.2 ⟨r,hr,af⟩)
 obtain⟨c0,c1,c2,c3⟩:=ad.No 1 rfl y;have ak:f.n<=1000000:=hn;refine yC.aC ⟨_,_,_,_,c0,c1,c2,c3,ad.aH (λb2 C z=>z.ah (λQ E=>?_) ws) ws⟩;exact loop f.n f.la O b2 Q ak (λ_ h=>h) (λb M=>.inl M) ax rfl E
def FM.a8(f:FM)(j:Nat):Sl×List I:=if j=1 then f.ar else if j=2 then f.al else if j=3 then f.an else f.ca
def FM.put(f:FM)(j:Nat)(x:Sl×List I):FM:=⟨f.k,if j=1 then x else f.ar,if j=2 then x else f.al,if j=3 then x else f.an,if j=4 then x else f.ca,f.n,f.la⟩
def xk{j:Nat}(w:1<=j)(x:j<=4){p:Nat->Prop}(d:p 1)(h:p 2)(k:p 3)(q:p 4):p j:=by grind
def Kx(f:FM){j:Nat}(d:1<=j)(h:j<=4):f.c[j]? =some (f.a8 j).1.v:=xk (p:=λj=>f.c[j]? =some (f.a8 j).1.v) d h rfl rfl rfl rfl
def uy(f:FM){j:Nat}(d:1<=j)(h:j<=4):f.rows[j - 1]? =some ((f.a8 j).1,(f.a8 j).2.flatMap I.c):=xk (p:=λj=>f.rows[j - 1]? =some ((f.a8 j).1,(f.a8 j).2.flatMap I.c)) d h rfl rfl rfl rfl
def yy(f:FM)(x:Sl×List I){j:Nat}(d:1<=j)(h:j<=4):f.c.set j x.1.v=(f.put j x).c:=xk (p:=λj=>f.c.set j x.1.v=(f.put j x).c) d h rfl rfl rfl rfl
def aep(f:FM)(x:Sl×List I){j:Nat}(d:1<=j)(h:j<=4):f.rows.set (j - 1) (x.1,x.2.flatMap I.c)=(f.put j x).rows:=xk (p:=λj=>f.rows.set (j - 1) (x.1,x.2.flatMap I.c)=(f.put j x).rows) d h rfl rfl rfl rfl
def Bp(f:FM)(x:Sl×List I){j:Nat}(h:1<=j)(k:j<=4){t:I}(d:t∈(f.put j x).O):t∈f.O\/t∈x.2:=by
 refine xk (p:=λj=>t∈(f.put j x).O->t∈f.O\/t∈x.2) h k ?_ ?_ ?_ ?_ d<;>
 .intro d;simp[FM.put,FM.O]at d ⊢
  grind
def pf(f:FM)(j:Nat){t:I}(d:t∈(f.a8 j).2):t∈f.O:=by
 unfold FM.a8 at d;unfold FM.O
 grind
def aeo(f:FM)(x:Sl×List I){j i:Nat}(h:i≠j)(hi:1<=i)(d:i<=4):(f.put j x).a8 i=f.a8 i:=by
 have:i=1\/i=2\/i=3\/i=4:=co
 unfold FM.put FM.a8
 grind
section
variable {w0 w:J} {own:List Nat} {rb:Nat} {sl:Sl} {st wd:Int} {fs:List FM} {f:FM} {O:List I} {p:Addr}
abbrev FS(own:List Nat)(w0 w:J)(rb:Nat)(sl:Sl)(st wd:Int)(fs:List FM)(f:FM)(d:List eB)(O:List I):Prop:=LH (·∈own) w0 w (SL rb sl st wd ((fs++[f]).flatMap FM.c) d) [.trees O]
def uW(fs:List FM)(f:FM)(x:Sl×List I){j:Nat}(d:1<=j)(h:j<=4):((fs++[f]).flatMap FM.rows).set (fs.length *4+(j - 1)) (x.1,x.2.flatMap I.c)=(fs++[f.put j x]).flatMap FM.rows:=by rw[HG fs f (j - 1) _ co,aep f x d h,cW];simp
def Ta(H:FS own w0 w rb sl st wd fs f ((fs++[f]).flatMap FM.rows) O)(B:sl.a=some p)(d:Nat)(x:1<=d)(y:d<=4)(t:I)(hb:(f.a8 d).2.length<=1000000){F:J}{src:Sl}(C:LH (·∈own) w0 F (SL rb sl st wd ((fs++[f]).flatMap FM.c) ((fs++[f]).flatMap FM.rows)++[.row aZ 4 src z4]) [.trees O])(ae:src.n=1){K:J->Prop}(hK:∀h q,FS own w0 q rb sl st wd fs (f.put d (h,(f.a8 d).2++[t])) ((fs++[f.put d (h,(f.a8 d).2++[t])]).flatMap FM.rows) O->K q):
  ∃(t15:Sl) (z:J),(eA #[jk,jk] jk #[(f.a8 d).1.v,src.v]).run V F=.ok (t15.v) z/\(0:Int)<=(((f.a8 d).1.n:Nat):Int)/\(((f.a8 d).1.n:Nat):Int)<(t15.n:Int)/\eh t15.a λj=>((aS z (j.add (a0 (((f.a8 d).1.n:Nat):Int) *4)) (.int .i64 t.k) λG=>aS G ((j.add (a0 (((f.a8 d).1.n:Nat):Int) *4)).add 1) (.int .u8 (t.lo.toNat:Int)) λM=>aS M ((j.add (a0 (((f.a8 d).1.n:Nat):Int) *4)).add 2) (.int .u8 (t.hi.toNat:Int)) λN=>aS N ((j.add (a0 (((f.a8 d).1.n:Nat):Int) *4)).add 3) t.s.v λQ=>aS Q ((p.add (fs.length *10)).add d) t15.v K)/\
   (aS z ((p.add (fs.length *10)).add d) t15.v λaa=>aS aa (j.add (a0 (((f.a8 d).1.n:Nat):Int) *4)) (.int .i64 t.k) λG=>aS G ((j.add (a0 (((f.a8 d).1.n:Nat):Int) *4)).add 1) (.int .u8 (t.lo.toNat:Int)) λM=>aS M ((j.add (a0 (((f.a8 d).1.n:Nat):Int) *4)).add 2) (.int .u8 (t.hi.toNat:Int)) λN=>aS N ((j.add (a0 (((f.a8 d).1.n:Nat):Int) *4)).add 3) t.s.v K)):=by
 have Y:((fs++[f]).flatMap FM.rows)[fs.length *4+(d - 1)]? =some ((f.a8 d).1,(f.a8 d).2.flatMap I.c):=q8 fs f (d - 1) _ (uy f x y);have nr:(f.a8 d).1.n=(f.a8 d).2.length:=by have B:(En.rows ((fs++[f]).flatMap FM.rows)).P F:=C.get 2;exact I.cI (B.1 _ (aD Y)).bf
 obtain⟨h,z,h1,_,h3⟩:=C.zF (U:=[]) (ty:=jk) 2 (fs.length *4+(d - 1)) (src:=src) (news:=z4) (K:=λh q=>FS own w0 q rb sl st wd fs f (((fs++[f]).flatMap FM.rows).set (fs.length *4+(d - 1)) (h,(f.a8 d).2.flatMap I.c++z4)) O/\h.n=(f.a8 d).1.n+1/\∃j,h.a=some j) rfl Y (aG.bf (C.get 3)) (by simp[Value.oneCell']) co (λh w4 H4 ab ad=>⟨H4.take 3,co,by
  cases hs:h.a with
  |none=>grind
  |some j=>grind⟩) ws
 obtain⟨S,ac,j,E⟩:=h3;refine⟨h,z,h1,co,co,?_⟩;rw[E];have W:fs.length *4+(d - 1)<((fs++[f]).flatMap FM.rows).length:=by grind
 have T:∀(f:FM) (t:I) (d:Nat),(f.a8 d).2.flatMap I.c++t.c=((f.a8 d).2++[t]).flatMap I.c:=λf t d=>ws
 rw[nr];refine⟨?_,?_⟩
 .have st:=LH.vB (U:=[]) (K:=λQ=>aS Q ((p.add (fs.length *10)).add d) h.v K) S 2 (fs.length *4+(d - 1)) (f.a8 d).2.length t rfl (kv W) E (I.e1 _) (λq A=>?_) ws
  .grind
  .rw [List.set_set,T,uW fs f (h,(f.a8 d).2++[t]) x y]at A;exact H7 (A.ji (U:=[]) (f:=f) 1 (f.put d (h,(f.a8 d).2++[t])) d rfl B co (yy f (h,(f.a8 d).2++[t]) x y) (λZ D=>hK h Z D) ws)
 .refine H7 (S.ji (U:=[]) (f:=f) 1 (f.put d (h,(f.a8 d).2++[t])) d rfl B co (yy f (h,(f.a8 d).2++[t]) x y) (λq A=>?_) ws);have st:=LH.vB (U:=[]) (K:=K) (L:=SL rb sl st wd ((fs++[f.put d (h,(f.a8 d).2++[t])]).flatMap FM.c) (((fs++[f]).flatMap FM.rows).set (fs.length *4+(d - 1)) (h,(f.a8 d).2.flatMap I.c++z4))) A 2 (fs.length *4+(d - 1)) (f.a8 d).2.length t rfl (kv W) E (I.e1 _) (λZ D=>?_) ws
  .grind
  .rw [List.set_set,T,uW fs f (h,(f.a8 d).2++[t]) x y]at D
   grind
def shift(H:FS own w0 w rb sl st wd fs f ((fs++[f]).flatMap FM.rows) O)(T:sl.a=some p)(k:Int)(d s:Nat)(Z:1<=d)(hs:s=d+1)(N:s<=4)(hb:(f.a8 d).2.length<=1000000)(ap:∀t∈f.O,t∈O){R:aK}(hK:∀q Y,FS own w0 Y rb sl st wd fs ((f.put d (q,(f.a8 d).2++[gD k (f.a8 s).1 (f.a8 s).2])).put s (⟨none,0,0⟩,[])) ((fs++[(f.put d (q,(f.a8 d).2++[gD k (f.a8 s).1 (f.a8 s).2])).put s (⟨none,0,0⟩,[])]).flatMap FM.rows) (O++[gD k (f.a8 s).1 (f.a8 s).2])->R (ae (.tuple #[])) Y):
  mF w λz=>∃h:Sl,z.cell? ((p.add (fs.length *10)).add d)=some (h.v)/\∃t11:Sl,z.cell? ((p.add (fs.length *10)).add s)=some (t11.v)/\
   ((ai V AY #[.i k,t11.v] z λr_ K=>∃C:Int,∃D:Int,∃E:Int,∃F:Sl,r_=ae (.agg #[.i C,.int .u8 D,.int .u8 E,F.v])/\
    K.cell? ((p.add (fs.length *10)).add d)=some (h.v)/\dG K (.cells #[.i 0,.int .u8 0,.int .u8 0,.slice none 0 0] aZ) λW=>
    W.cell? ((p.add (fs.length *10)).add d)=some (h.v)/\∃(t15:Sl) (L:J),Sem.run V (eA #[jk,jk] jk #[h.v,.slice (some (nb K)) 1 1]) W=.ok (t15.v) L/\fx t15 (h.n:Int) λj=>((aS L (j.add (a0 (h.n:Int) *4)) (.i C) λw6=>
    aS w6 ((j.add (a0 (h.n:Int) *4)).add 1) (.int .u8 D) λw7=>aS w7 ((j.add (a0 (h.n:Int) *4)).add 2) (.int .u8 E) λw8=>aS w8 ((j.add (a0 (h.n:Int) *4)).add 3) (F.v) λw9=>
    aS w9 ((p.add (fs.length *10)).add d) (t15.v) λac=>aS ac ((p.add (fs.length *10)).add s) (.slice none 0 0) λx=>R (ae (.tuple #[])) x)/\
    (aS L ((p.add (fs.length *10)).add d) (t15.v) λad=>aS ad (j.add (a0 (h.n:Int) *4)) (.i C) λaf=>aS af ((j.add (a0 (h.n:Int) *4)).add 1) (.int .u8 D) λag=>
    aS ag ((j.add (a0 (h.n:Int) *4)).add 2) (.int .u8 E) λah=>aS ah ((j.add (a0 (h.n:Int) *4)).add 3) (F.v) λaj=>aS aj ((p.add (fs.length *10)).add s) (.slice none 0 0) λx=>R (ae (.tuple #[])) x)))/\
   (dG z (.cells #[.i 0,.int .u8 0,.int .u8 0,.slice none 0 0] aZ) λak=>ak.cell? ((p.add (fs.length *10)).add s)=some (t11.v)/\ak.cell? ((p.add (fs.length *10)).add d)=some (h.v)/\
    ai V AY #[.i k,t11.v] ak λr_ an=>∃C:Int,∃D:Int,∃E:Int,∃F:Sl,r_=ae (.agg #[.i C,.int .u8 D,.int .u8 E,F.v])/\
    an.cell? ((p.add (fs.length *10)).add d)=some (h.v)/\∃(t15:Sl) (L:J),Sem.run V (eA #[jk,jk] jk #[h.v,.slice (some (nb z)) 1 1]) an=.ok (t15.v) L/\fx t15 (h.n:Int) λj=>((aS L (j.add (a0 (h.n:Int) *4)) (.i C) λw6=>
    aS w6 ((j.add (a0 (h.n:Int) *4)).add 1) (.int .u8 D) λw7=>aS w7 ((j.add (a0 (h.n:Int) *4)).add 2) (.int .u8 E) λw8=>aS w8 ((j.add (a0 (h.n:Int) *4)).add 3) (F.v) λw9=>
    aS w9 ((p.add (fs.length *10)).add d) (t15.v) λac=>aS ac ((p.add (fs.length *10)).add s) (.slice none 0 0) λx=>R (ae (.tuple #[])) x)/\
    (aS L ((p.add (fs.length *10)).add d) (t15.v) λad=>aS ad (j.add (a0 (h.n:Int) *4)) (.i C) λaf=>aS af ((j.add (a0 (h.n:Int) *4)).add 1) (.int .u8 D) λag=>
    aS ag ((j.add (a0 (h.n:Int) *4)).add 2) (.int .u8 E) λah=>aS ah ((j.add (a0 (h.n:Int) *4)).add 3) (F.v) λaj=>aS aj ((p.add (fs.length *10)).add s) (.slice none 0 0) λx=>R (ae (.tuple #[])) x)))):=by
 subst hs;have M:1<=d+1:=co
 have aa:d<=4:=co
 have ao:((fs++[f]).flatMap FM.rows)[fs.length *4+(d+1 - 1)]? =some ((f.a8 (d+1)).1,(f.a8 (d+1)).2.flatMap I.c):=q8 fs f (d+1 - 1) _ (uy f M N);have rd:∀{Y:J} {G:List En},LH (·∈own) w0 Y (SL rb sl st wd ((fs++[f]).flatMap FM.c) ((fs++[f]).flatMap FM.rows)++G) [.trees O]->bN 4 Y (f.a8 (d+1)).1 ((f.a8 (d+1)).2.flatMap I.c):=λA=>by have hP:(En.rows ((fs++[f]).flatMap FM.rows)).P _:=A.get 2;exact(hP.1 _ (aD ao)).bf
 have fin:∀q Y,FS own w0 Y rb sl st wd fs (f.put d (q,(f.a8 d).2++[gD k (f.a8 (d+1)).1 (f.a8 (d+1)).2])) ((fs++[f.put d (q,(f.a8 d).2++[gD k (f.a8 (d+1)).1 (f.a8 (d+1)).2])]).flatMap FM.rows) O->
   aS Y ((p.add (fs.length *10)).add (d+1)) (.slice none 0 0) λx=>R (ae (.tuple #[])) x:=λq Y A=>by
  have hc:(f.put d (q,(f.a8 d).2++[gD k (f.a8 (d+1)).1 (f.a8 (d+1)).2])).a8 (d+1)=f.a8 (d+1):=aeo f _ co M N;refine H7 (A.ji (U:=[]) 1 ((f.put d (q,(f.a8 d).2++[gD k (f.a8 (d+1)).1 (f.a8 (d+1)).2])).put (d+1) (⟨none,0,0⟩,[])) (d+1) rfl T co (yy _ (⟨none,0,0⟩,[]) M N) (λx H1=>hK q x ?_) ws);have am:=q8 fs (f.put d (q,(f.a8 d).2++[gD k (f.a8 (d+1)).1 (f.a8 (d+1)).2])) (d+1 - 1) _ (uy _ M N);rw[hc]at am;have B:=H1.Fe 2 (fs.length *4+(d+1 - 1)) rfl am;have y:=B.RR 0 k (s:=(f.a8 (d+1)).1) (ks:=(f.a8 (d+1)).2) rfl ws λt ht=>ap t (pf f _ ht);have e:=uW fs (f.put d (q,(f.a8 d).2++[gD k (f.a8 (d+1)).1 (f.a8 (d+1)).2])) (⟨none,0,0⟩,[]) M N
  grind
 have S:∀{Y:J} {G:List En},LH (·∈own) w0 Y (SL rb sl st wd ((fs++[f]).flatMap FM.c) ((fs++[f]).flatMap FM.rows)++G) [.trees O]->Y.cell? ((p.add (fs.length *10)).add d)=some ((f.a8 d).1.v):=λA=>A.hg 1 rfl T d (Kx f Z aa);have al:∀{Y:J} {G:List En},LH (·∈own) w0 Y (SL rb sl st wd ((fs++[f]).flatMap FM.c) ((fs++[f]).flatMap FM.rows)++G) [.trees O]->Y.cell? ((p.add (fs.length *10)).add (d+1))=some ((f.a8 (d+1)).1.v):=λA=>A.hg 1 rfl T (d+1) (Kx f M N);refine H.dr λz B=>⟨_,S (G:=[]) B,_,al (G:=[]) B,?_,B.cZ (e:=aZ) (sz:=4) (n:=1) (cs:=z4) rfl md λK y=>⟨al y,S y,?_⟩⟩
 .refine B.call (DZ k _ _ z (rd (G:=[]) B)) ?_;rintro _ K rfl y;refine⟨_,_,_,_,rfl,S (G:=[]) y,y.cZ (e:=aZ) (sz:=4) (n:=1) (cs:=z4) rfl md λW Q=>⟨S Q,?_⟩⟩;exact Ta H T d Z aa (gD k (f.a8 (d+1)).1 (f.a8 (d+1)).2) hb (src:=⟨some (ab K.heap.size),1,1⟩) Q rfl fin
 .refine y.call (DZ k _ _ K (rd y)) ?_;rintro _ W rfl Q;refine⟨_,_,_,_,rfl,S Q,?_⟩;exact Ta H T d Z aa (gD k (f.a8 (d+1)).1 (f.a8 (d+1)).2) hb (src:=⟨some (ab z.heap.size),1,1⟩) Q rfl fin
end
def iY(w:J)(own:List Nat)(O:List I)(rb:Nat)(Q:bW->Addr->List FX->FX->Int->Int->List I->Prop):aK:=λr x=>∃d h k j q,iX w own O rb d h k j q (Q r d h k j q) x
def kU(f:FX):FX:=⟨f.k,f.ar,f.al,f.an++[pJ 3 (lL f).ca],[],0,f.la⟩
def kT(f:FX):FX:=⟨f.k,f.ar,f.al++[pJ 5 (kU f).an],[],[],0,f.la⟩
def EF(f:FX):FX:=⟨f.k,f.ar,[],[],[],0,f.la⟩
def fj(f:FX):Rx:=pJ 4 (kT f).al
def HW{w0:J}{M:Nat->Prop}{w:J}{own:List Nat}{O y:List I}{k:Int}{s:Sl}{ks:List I}(q:∀b∈I.bj O,b∈I.bj y\/b∈own\/w.heap.size<=b)(C:∀b∈az s,b∈own\/w.heap.size<=b)(B:∀t∈ks,t∈O):∀b∈I.bj (O++[gD k s ks]),b∈I.bj y\/b∈own\/w.heap.size<=b:=λb z=>by
 obtain⟨t,d,j⟩:=I.b'.1 z;rcases aX.1 d with d|d
 .exact q b (I.b'.2 ⟨t,d,j⟩)
 .simp at d;rw[d]at j;rcases adK j with h|h
  .exact .inr (C b (gY (e:=aZ) h))
  .obtain ⟨x,D,A⟩:=I.b'.1 h;exact q b (I.b'.2 ⟨x,B x D,A⟩)
def Uo{own:List Nat}{w0 w:J}{rb:Nat}{sl:Sl}{st y:Int}{d:List FM}{f:FM}{O:List I}(H:FS own w0 w rb sl st y d f ((d++[f]).flatMap FM.rows) O){j:Nat}(h:1<=j)(k:j<=4):∀b∈az (f.a8 j).1,b∈own\/w0.heap.size<=b:=λb q=>by have x:=q8 d f (j - 1) _ (uy f h k);exact(H.new (.rows ((d++[f]).flatMap FM.rows)) ws b (aT.2 (cc.2 ⟨_,aD x,q⟩))).symm
def UU{q:List FM}{f:FM}{O:List I}{k:Int}{d s:Nat}{s':Sl}(w:∀g∈q++[f],∀t∈g.O,t∈O)(x:1<=d)(y:d<=4)(z:1<=s)(A:s<=4):∀g∈q++[(f.put d (s',(f.a8 d).2++[gD k (f.a8 s).1 (f.a8 s).2])).put s (⟨none,0,0⟩,[])],∀t∈g.O,t∈O++[gD k (f.a8 s).1 (f.a8 s).2]:=by
 intro g j t B;rcases aX.1 j with j|j
 .grind
 .simp at j;subst j;rcases Bp _ _ z A B with h|h
  .rcases Bp _ _ x y h with h|h
   .grind
   .rcases aX.1 h with h|h
    .exact bV _ (w f ws t (pf f d h))
    grind
  grind
def JL{w:J}{rb:Nat}{f0:Addr}{lo:List FX}{d:FX}{st C:Int}{own:List Nat}{O:List I}(h:St w rb f0 lo d st C own O)(hn:d.n<=1000000)(Z:d.ca.length<=1000000)(ha:d.an.length<=1000000):
  ai V Qf #[.pointer (some f0)] w λr y=>r=ae (.tuple #[])/\iX w own O rb f0 lo (kU d) st C (λ_=>True) y:=by
 refine T3.ok ((JK h hn Z).mono ?_);rintro _ w1 ⟨rfl,ag,af,⟨sl,z,f,p,rfl,j,B,E,rfl,L,N,P,Q,K⟩,H,o1,G,t1,_⟩;refine⟨rfl,?_⟩;have D:=St.w3 L N P Q K;have S:(f.a8 3).2.length<=1000000:=by
  have e:f.x.an.length=f.an.2.length:=by show(I.aw f.an.2).length=_;rw[I.gb];simp
  have e2:f.x.an=d.an:=by rw[j];rfl
  show f.an.2.length<=_
  grind
 refine shift (R:=λr y=>r=ae (.tuple #[])/\iX w own O rb (p.add (z.length *10)) (z.map FM.x) (kU d) st C (λ_=>True) y) D E 3 3 4 co rfl co S (λt q=>B f ws t q) λs' y F=>⟨rfl,iX.then H o1 G t1 ?_⟩;have:=St.of (O:=af) (A:=λ_=>True) (f0:=p.add (z.length *10)) F 0 rfl (UU B co co co co) E rfl (HW (w0:=w) (M:=F0) (λb Y=>.inl Y) (Uo D co co) λt q=>B f ws t (pf f 4 q)) (λt q=>bV _ q) trivial;have e:((f.put 3 (s',(f.a8 3).2++[gD 3 (f.a8 4).1 (f.a8 4).2])).put 4 (⟨none,0,0⟩,[])).x=kU d:=by
  have hk:f.x.k=d.k:=by rw[j];rfl
  have W:f.x.ar=d.ar:=by rw[j];rfl
  have T:f.x.al=d.al:=by rw[j];rfl
  have U:f.x.an=d.an:=by rw[j];rfl
  have aa:f.x.ca=(lL d).ca:=by rw[j]
  have ad:f.x.n=0:=by rw[j];rfl
  have ab:f.x.la=d.la:=by rw[j];rfl
  unfold kU;rw[<-hk,<-W,<-T,<-U,<-aa,<-ab];show FX.mk f.k (f.ar.1,I.aw f.ar.2) (I.aw f.al.2) (I.aw (f.an.2++[gD 3 f.ca.1 f.ca.2])) (I.aw []) f.n f.la.rx=_;have ac:f.n=0:=ad;rw[ac,kA];simp[I.aw,GQ,FM.x]
 grind
def JJ{w:J}{rb:Nat}{f0:Addr}{lo:List FX}{d:FX}{st C:Int}{own:List Nat}{O:List I}(h:St w rb f0 lo d st C own O)(hn:d.n<=1000000)(hc:d.ca.length<=1000000)(S:d.an.length<=1000000)(hl:d.al.length<=1000000):
  ai V Qd #[.pointer (some f0)] w λr y=>r=ae (.tuple #[])/\iX w own O rb f0 lo (kT d) st C (λ_=>True) y:=by
 refine T1.ok ((JL h hn hc S).mono ?_);rintro _ w1 ⟨rfl,ah,ag,⟨sl,z,f,p,rfl,j,B,E,rfl,L,N,P,Q,K⟩,H,o1,G,t1,_⟩;refine⟨rfl,?_⟩;have D:=St.w3 L N P Q K;have T:(f.a8 2).2.length<=1000000:=by
  have e:f.x.al.length=f.al.2.length:=by show(I.aw f.al.2).length=_;rw[I.gb];simp
  have e2:f.x.al=d.al:=by rw[j];rfl
  show f.al.2.length<=_
  grind
 refine shift (R:=λr y=>r=ae (.tuple #[])/\iX w own O rb (p.add (z.length *10)) (z.map FM.x) (kT d) st C (λ_=>True) y) D E 5 2 3 co rfl co T (λt q=>B f ws t q) λs' y F=>⟨rfl,iX.then H o1 G t1 ?_⟩;have:=St.of (O:=ag) (A:=λ_=>True) (f0:=p.add (z.length *10)) F 0 rfl (UU B co co co co) E rfl (HW (w0:=w) (M:=F0) (λb Z=>.inl Z) (Uo D co co) λt q=>B f ws t (pf f 3 q)) (λt q=>bV _ q) trivial;have e:((f.put 2 (s',(f.a8 2).2++[gD 5 (f.a8 3).1 (f.a8 3).2])).put 3 (⟨none,0,0⟩,[])).x=kT d:=by
  have hk:f.x.k=d.k:=by rw[j];rfl
  have Y:f.x.ar=d.ar:=by rw[j];rfl
  have U:f.x.al=d.al:=by rw[j];rfl
  have W:f.x.an=(kU d).an:=by rw[j]
  have ab:f.x.ca=[]:=by rw[j];rfl
  have af:f.x.n=0:=by rw[j];rfl
  have ac:f.x.la=d.la:=by rw[j];rfl
  unfold kT;rw[<-hk,<-Y,<-U,<-W,<-ac];show FX.mk f.k (f.ar.1,I.aw f.ar.2) (I.aw (f.al.2++[gD 5 f.an.1 f.an.2])) (I.aw []) (I.aw f.ca.2) f.n f.la.rx=_;have ad:f.n=0:=af;have aa:I.aw f.ca.2=[]:=ab;rw[ad,aa,kA];simp[I.aw,GQ,FM.x]
 grind
abbrev SF(M:Nat->Prop)(w0 w:J)(rb:Nat)(sl:Sl)(st h:Int)(d:List FM)(f:FM)(G:List En)(O:List I):Prop:=LH M w0 w (SL rb sl st h ((d++[f]).flatMap FM.c) ((d++[f]).flatMap FM.rows)++G) [.trees O]
section
variable {M:Nat->Prop} {w0 w:J} {U:List Nat} {G:List En} {rb:Nat} {sl:Sl} {st wd:Int} {fs:List FM} {f:FM} {O:List I} {p:Addr}
def aft(H:SF M w0 w rb sl st wd fs f G O)(j:∀g∈fs++[f],∀t∈g.O,t∈O)(z:sl.a=some p):
  St w rb (p.add (fs.length *10)) (fs.map FM.x) f.x st wd ((SL rb sl st wd ((fs++[f]).flatMap FM.c) ((fs++[f]).flatMap FM.rows)).flatMap (·.fp)) O:=by have h:=H.nd;rw[cW,hL]at h;refine⟨sl,fs,f,p,rfl,rfl,j,z,rfl,rfl,h.1,λe d=>H.own e (bV _ d),H.getD 0,λb k y=>?_⟩;obtain⟨e,d,q⟩:=cc.1 y;exact H.dj (.trees O) ws b (aT.2 k) e (bV _ d) q
def afs(H:SF M w0 w rb sl st wd fs f G O){Y:J}{N:Addr}{Q:List FX}{U:FX}{T W:Int}{L:List Nat}{k:List I}(s:St Y rb N Q U T W L k)(P:Fr (·∈(SL rb sl st wd ((fs++[f]).flatMap FM.c) ((fs++[f]).flatMap FM.rows)).flatMap (·.fp)) w Y)(o:∀z∈L,z∈(SL rb sl st wd ((fs++[f]).flatMap FM.c) ((fs++[f]).flatMap FM.rows)).flatMap (·.fp)\/w.heap.size<=z)(h:∀b∈I.bj k,b∈I.bj O\/b∈(SL rb sl st wd ((fs++[f]).flatMap FM.c) ((fs++[f]).flatMap FM.rows)).flatMap (·.fp)\/w.heap.size<=b):
  ∃(E:Sl) (j:List FM) (q:FM) (D:Addr),j.map FM.x=Q/\q.x=U/\(∀g∈j++[q],∀t∈g.O,t∈k)/\E.a=some D/\N=D.add (j.length *10)/\(∀b∈I.bj k,b∈I.bj O\/w0.heap.size<=b\/M b)/\SF M w0 Y rb E T W j q G k:=by
 obtain⟨E,j,q,D,h1,h2,h3,h4,h5,h6,h7,h8,h9,af⟩:=s;have K:=H.nd;rw[cW,hL]at K;have S:∀b∈(SL rb sl st wd ((fs++[f]).flatMap FM.c) ((fs++[f]).flatMap FM.rows)).flatMap (·.fp),w0.heap.size<=b\/M b:=λb h=>by obtain⟨e,d,B⟩:=cc.1 h;exact H.new e (bV _ d) b B
 have ae:∀e∈G,∀b∈e.fp,b<w.heap.size:=λe d b h=>e.lt w (H.own e (eD _ d)) b h;have aa:∀e∈G,∀b∈e.fp,b∉(SL rb sl st wd ((fs++[f]).flatMap FM.c) ((fs++[f]).flatMap FM.rows)).flatMap (·.fp):=λe d b h F=>K.2.2 b F b (cc.2 ⟨e,d,h⟩) rfl;have ac:=H.fr.size;have ag:∀b∈L,w0.heap.size<=b\/M b:=λb h=>(o b h).elim (S b) λy=>.inl (bb ac y);refine⟨E,j,q,D,h1,h2,h3,h4,h5,λb A=>?_,H.fr.trans P λz hx F=>(S z F).resolve_left co,λe d=>?_,λe d=>?_,λe d b A=>?_,?_,λe d b A Z C B=>?_⟩
 .grind
 .rcases aX.1 d with d|d
  .grind
  .exact e.st w Y (λb h hl=>P.cB b hl (aa e d b h)) (H.own e (eD _ d))
 .simp at d;subst d;exact h9
 .rcases aX.1 d with d|d
  .grind
  .exact H.new e (eD _ d) b A
 .rw [cW,hL];refine⟨h6▸h7,K.2.1,λz hx ah hy ad=>?_⟩;subst ad;obtain⟨e,d,B⟩:=cc.1 hy
  grind
 .simp at d;subst d;have ab:b∈I.bj k:=aT.1 A;rcases aX.1 C with C|C
  .grind
  .rcases h b ab with y|y|y
   .exact H.dj (.trees O) ws b (aT.2 y) Z (eD _ C) B
   .grind
   grind
def _root_.Go.W.LH.mD(H:SF M w0 w rb sl st wd fs f G O)(E:∀g∈fs++[f],∀t∈g.O,t∈O)(Y:sl.a=some p){g:cR}{args:Array aa}{K:aK}{Q:bW->Addr->List FX->FX->Int->Int->List I->Prop}(P:∀own,St w rb (p.add (fs.length *10)) (fs.map FM.x) f.x st wd own O->ai V g args w (iY w own O rb Q))(S:∀r z (q:Sl) (h:List FM) (j:FM) (k:Addr) (y A:Int) (d:List I),(∀t∈O,t∈d)->(∀g∈h++[j],∀t∈g.O,t∈d)->q.a=some k->(∀b∈I.bj d,b∈I.bj O\/w0.heap.size<=b\/M b)->Q r (k.add (h.length *10)) (h.map FM.x) j.x y A d->SF M w0 z rb q y A h j G d->K r z)(bG:∀b∈U,En.g b∈G:=by simp):ep U V g args w K:=by
 have C:=H.nd;rw[cW,hL]at C;refine⟨(·∈(SL rb sl st wd ((fs++[f]).flatMap FM.c) ((fs++[f]).flatMap FM.rows)).flatMap (·.fp)),λb L T=>?_,(P _ (aft H E Y)).mono ?_⟩
 .exact C.2.2 b T b (cc.2 ⟨_,bG b L,by simp[En.g]⟩) rfl
 .rintro r z ⟨ac,ad,af,y,A,ae,d,s,B,o,b,t,ab⟩;obtain⟨q,h,j,k,rfl,rfl,F,Z,rfl,N,D⟩:=afs H s B o b;exact⟨B,S r z q h j k y A d t F Z N ab D⟩
def _root_.Go.W.LH.zY(H:SF M w0 w rb sl st wd fs f G O)(C:∀g∈fs++[f],∀t∈g.O,t∈O)(F:sl.a=some p){g:cR}{args:Array aa}{K:aK}{Q:bW->Addr->List FX->FX->Int->Int->List I->Prop}(D:∀own,St w rb (p.add (fs.length *10)) (fs.map FM.x) f.x st wd own O->ai V g args w (iY w own O rb Q))(E:∀r q (z:Sl) (h:List FM) (j:FM) (y:Addr) (A B:Int) (d:List I),(∀t∈O,t∈d)->(∀g∈h++[j],∀t∈g.O,t∈d)->z.a=some y->(∀b∈I.bj d,b∈I.bj O\/w0.heap.size<=b\/M b)->Q r (y.add (h.length *10)) (h.map FM.x) j.x A B d->SF M w0 q rb z A B h j G d->K r q):ai V g args w K:=by obtain⟨_,_,k⟩:=H.mD (U:=[]) C F D E ws;exact k.mono λr q k=>k.2
end
def Fa(f:FM):f.x.ar.2.length=f.ar.2.length/\f.x.al.length=f.al.2.length/\f.x.an.length=f.an.2.length/\f.x.ca.length=f.ca.2.length:=by refine⟨?_,?_,?_,?_⟩<;>(show(I.aw _).length=_;rw[I.gb];simp)
def zJ{w:J}{own:List Nat}{O:List I}{rb:Nat}{f0:Addr}{lo:List FX}{d:FX}{st j:Int}{g:cR}{args:Array aa}(h:ai V g args w λr k=>r=ae (.tuple #[])/\iX w own O rb f0 lo d st j (λ_=>True) k):
  ai V g args w (iY w own O rb λr q z B A C _=>r=ae (.tuple #[])/\q=f0/\z=lo/\B=d/\A=st/\C=j):=
 h.mono λr k ⟨x,y⟩=>⟨f0,lo,d,st,j,y.mono λ_ _=>⟨x,rfl,rfl,rfl,rfl,rfl⟩⟩
structure Small(f:FX)(n:Nat):Prop where
 n':f.n<=n
 ar:f.ar.2.length<=n
 al:f.al.length<=n
 an:f.an.length<=n
 ca:f.ca.length<=n
def zO{w:J}{rb:Nat}{f0:Addr}{lo:List FX}{E:FX}{st F:Int}{own:List Nat}{O:List I}(h:St w rb f0 lo E st F own O)(D:Small E 1000000):
  ai V Gp #[.pointer (some f0)] w (iY w own O rb λr ab ak aq ao ax au=>ab=f0/\ak=lo/\aq=EF E/\ao=st/\ax=F/\∃t∈au,r=ae t.v/\t.rx=fj E):=by
 obtain⟨sl,Q,f,p,rfl,rfl,h3,h4,rfl,h6,h7,h8,h9,ac⟩:=h;have T:SF (·∈own) w w rb sl st F Q f [] O:=by
  have:=St.w3 h6 h7 h8 h9 ac
  grind
 refine T2.aC (T.aH (U:=[]) (λA w1 W=>?_) ws);refine(show SF (·∈own) w w1 rb sl st F Q f [.g A] O from W).mD (U:=[A]) h3 h4 (λaB s1=>zJ (JJ s1 D.n' D.ca D.an D.al)) ?_ ws;rintro _ N am q d p2 ap ay av t2 S H aa ⟨rfl,ad,af,y,rfl,rfl⟩ C;rw[<-ad,<-af];have L:((q++[d]).flatMap FM.rows)[q.length *4+(2 - 1)]? =some ((d.a8 2).1,(d.a8 2).2.flatMap I.c):=q8 q d 1 _ (uy d (j:=2) co co);have aj:bN 4 N d.al.1 (d.al.2.flatMap I.c):=by have hP:(En.rows ((q++[d]).flatMap FM.rows)).P N:=C.get 2;exact(hP.1 _ (aD L)).bf
 refine⟨rfl,d.al.1,C.hg 1 rfl H 2,C.aA (DZ 4 _ _ N aj) ?_⟩;rintro _ aE rfl Z;refine⟨_,_,_,_,rfl,Z.aH (U:=[A]) (λG w4 H4=>H4.ah (U:=[A,G]) (λw5 H5=>?_) ws) ws⟩;refine H5.ji (U:=[A,G]) (f:=d) 1 (d.put 2 (⟨none,0,0⟩,[])) 2 rfl H co rfl (λw6 H6=>H6.ah (U:=[A,G]) (λw7 H7=>?_) ws) ws;have H8:=H7.Fe 2 (q.length *4+(2 - 1)) rfl L;have H9:=H8.RR 0 4 (s:=d.al.1) (ks:=d.al.2) rfl (by simp[FM.a8]) λt z=>S d ws t (pf d 2 z);have er:=uW q d (⟨none,0,0⟩,[]) (j:=2) co co;have e':(([]:List I).flatMap I.c)=[]:=rfl;rw[e']at er;simp only at er;have Y:LH (·∈own) w w7 (SL rb am ap ay ((q++[d.put 2 (⟨none,0,0⟩,[])]).flatMap FM.c) ((q++[d.put 2 (⟨none,0,0⟩,[])]).flatMap FM.rows)) [.trees (av++[gD 4 d.al.1 d.al.2])]:=by rw[<-er];exact H9.take 3
 have ag:∀b∈az d.al.1,b∈own\/w.heap.size<=b:=λb K=>(C.new (.rows ((q++[d]).flatMap FM.rows)) ws b (aT.2 (cc.2 ⟨_,aD L,K⟩))).symm;have ex:(d.put 2 (⟨none,0,0⟩,[])).x=EF f.x:=by
  have e1:d.k=f.k:=by have:=congrArg FX.k y;exact this
  have e2:(d.ar.1,I.aw d.ar.2)=f.x.ar:=by have:=congrArg FX.ar y;exact this
  have e3:I.aw d.an.2=[]:=by have:=congrArg FX.an y;exact this
  have e4:I.aw d.ca.2=[]:=by have:=congrArg FX.ca y;exact this
  have e5:d.n=0:=by have:=congrArg FX.n y;exact this
  have e6:d.la.rx=f.x.la:=by have:=congrArg FX.la y;exact this
  show FX.mk d.k (d.ar.1,I.aw d.ar.2) (I.aw []) (I.aw d.an.2) (I.aw d.ca.2) d.n d.la.rx=_;rw[e1,e2,e3,e4,e5,e6];rfl
 refine⟨_,_,_,_,_,St.of (O:=O) (f0:=p2.add (q.length *10)) Y 0 rfl (λg B t z=>?_) H rfl (HW (w0:=w) (M:=F0) (λb K=>(aa b K).imp id Or.symm) ag λt z=>S d ws t (pf d 2 z)) (λt z=>bV _ (t2 t z)) ⟨rfl,rfl,ex,rfl,rfl,gD 4 d.al.1 d.al.2,ws,rfl,?_⟩⟩
 .rcases aX.1 B with B|B
  .grind
  .simp at B;subst B;rcases Bp _ _ co co z with h|h
   .grind
   grind
 .rw [GQ];have:=congrArg FX.al y;have e:I.aw d.al.2=(kT f.x).al:=this;rw[e];rfl
def pL{p:Addr}{K:Addr->Prop}(h:K p):eh (some p) K:=h
def aan:g7 V agR iS (.agg #[.int .i64 0,.slice none 0 0,.slice none 0 0,.slice none 0 0,.slice none 0 0,.int .i64 0,.int .i64 0,.int .u8 0,.int .u8 0,.slice none 0 0]) 10 152:=⟨by kernel_rfl,by kernel_rfl,rfl,md,md⟩
section
variable {M:Nat->Prop} {w0 w:J} {L D:List En} {U:List Nat} {G:List En} {rb:Nat} {sl:Sl} {st wd:Int} {fs:List FM} {f:FM} {O:List I} {p:Addr}
def _root_.Go.W.LH.vY(H:LH M w0 w L D)(i j:Nat){b:Nat}{vs:List aa}{T:TypeId}{v:aa}{K:J->Prop}(hi:L[i]? =some (.c b vs T))(x:∀k,LH M w0 k (L.set i (.c b (vs.set j v) T)) D->K k)(A:j<vs.length)(bG:∀b∈U,En.g b∈L:=by simp):aS w ((ab b).add j) v λq=>kept U w q/\K q:=by
 obtain⟨C,E,F⟩:=H.set (v:=v) i j hi A;refine⟨C,E,λd h=>?_,x _ F⟩;have B:d≠b:=by
  rintro rfl;refine ou H hi (λn y=>?_) (bG _ h) (by simp[En.ob]);have G:({w with heap:=Array.replicate (n+1) (.map #[] 0)}:J).heap[d]? =some (.cells vs.toArray T (0,0)):=y
  grind
 have z:Fr (·=b) w (w.setCell ((ab b).add j) v):=Fr.set _ _ _ (by rw[jO])
 exact z.cB d (H.own _ (bG _ h)) B
def BO(H:SF M w0 w rb sl st wd fs f G O):sl.n=fs.length+1:=by
 have d:aG w iS 10 sl ((fs++[f]).flatMap FM.c):=H.get 1;have:=d.len;rw[qG]at this
 grind
def zR(H:SF M w0 w rb sl st wd fs f G O)(h:sl.a=some p)(q:fs.length<=1000000):ai V AZ #[.pointer (some (ab rb))] w λr j=>r=ae (.pointer (some (p.add (fs.length *10))))/\af w j:=by
 have k:=BO H;have e:aj .i64 ((sl.n:Int) - 1)=(fs.length:Int):=by rw[aQ _ co];omega
 have d:SF M w0 w.drew rb sl st wd fs f G O:=H.drew;refine Hv.ok (show _ from⟨sl,d.ld 0 0,sl,d.ld 0 0,?_⟩);rw[e,h];exact⟨co,co,rfl,Fr.drew _ _⟩
def HR(H:SF M w0 w rb sl st wd fs f G O)(k:Int)(lo hi:UInt8):SF M w0 w rb sl st wd fs f G (O++[.mk k lo hi ⟨none,0,0⟩ []]):=by
 have j:=H.gP (.trees (O++[.mk k lo hi ⟨none,0,0⟩ []])) (Fr.refl _ _) (I.jd λt d=>?_) λb q=>.inr (.inr ⟨.trees O,ws,?_⟩)
 .exact j.forget _ ws
 .rcases aX.1 d with d|d
  .exact I.Ps.mem (H.getD 0) d
  .simp at d;subst d;show I.P w _;unfold I.P I.Ps;exact⟨bN.nil 4 w,trivial⟩
 .obtain ⟨t,d,h⟩:=I.b'.1 (aT.1 q);rcases aX.1 d with d|d
  .exact aT.2 (I.b'.2 ⟨t,d,h⟩)
  .simp at d;rw[d]at h;unfold I.fp I.bj at h;simp[En.bf]at h
def Ay{k:Int}{lo hi:UInt8}{b:Nat}(h:b∈I.bj (O++[.mk k lo hi ⟨none,0,0⟩ []])):b∈I.bj O:=by
 obtain⟨t,d,j⟩:=I.b'.1 h;rcases aX.1 d with d|d
 .exact I.b'.2 ⟨t,d,j⟩
 .simp at d;rw[d]at j;unfold I.fp I.bj at j;simp[En.bf]at j
def afb(H:LH M w0 w L D)(i:Nat){j:List eB}(hi:L[i]? =some (.rows j))(n:Nat):LH M w0 w (L.set i (.rows (j++List.replicate n (⟨none,0,0⟩,[])))) D:=by
 have k:(En.rows j).P w:=H.get i hi;have e:(j++List.replicate n ((⟨none,0,0⟩,[]):eB)).flatMap (λd:eB=>az d.1)=j.flatMap λd:eB=>az d.1:=by
  rw[cW];have:(List.replicate n ((⟨none,0,0⟩,[]):eB)).flatMap (λd:eB=>az d.1)=[]:=by
   induction n with
   |zero=>rfl
   |succ n x=>rw[List.replicate_succ,cH,x];rfl
  grind
 refine H.g4 i _ hi (Fr.refl _ _) ⟨λd h=>?_,by rw[e];exact k.2⟩ λb q=>.inl (aT.2 (by have:=aT.1 q;grind));rcases aX.1 h with h|h
 .exact k.1 d h
 .rw [List.eq_of_mem_replicate h];exact aG.nil _ _ _
end
def lS(k:Int):FX:=⟨k,(⟨none,0,0⟩,[]),[],[],[],0,fZ⟩
def jC(k:Int):FM:=⟨k,(⟨none,0,0⟩,[]),(⟨none,0,0⟩,[]),(⟨none,0,0⟩,[]),(⟨none,0,0⟩,[]),0,.mk 0 0 0 ⟨none,0,0⟩ []⟩
def Bb{w:J}{rb:Nat}{f0:Addr}{lo:List FX}{j:FX}{st k:Int}{own:List Nat}{O:List I}(h:St w rb f0 lo j st k own O):∃(sl:Sl) (d:List FM) (f:FM) (p:Addr),d.map FM.x=lo/\f.x=j/\(∀g∈d++[f],∀t∈g.O,t∈O)/\sl.a=some p/\f0=p.add (d.length *10)/\SF (·∈own) w w rb sl st k d f [] O:=by
 obtain⟨sl,d,f,p,q,z,A,B,C,D,E,F,G,y⟩:=h;refine⟨sl,d,f,p,q,z,A,B,C,?_⟩;have:=St.w3 D E F G y
 grind
def JX{w:J}{rb:Nat}{f0:Addr}{lo:List FX}{B:FX}{st k:Int}{own:List Nat}{O:List I}(h:St w rb f0 lo B st k own O)(hl:lo.length<=1000000)(kind state:Int):
  ai V Qj #[.pointer (some (ab rb)),.int .i64 kind,.int .i64 state] w (iY w own O rb λr _ Q T S W _=>r=ae (.bool true)/\Q=lo++[B]/\T=lS kind/\S=state/\W=k):=by
 obtain⟨sl,d,f,p,rfl,rfl,Y,Z,rfl,y⟩:=Bb h;have hn:=BO y;have aa:d.length<=1000000:=by grind
 refine T'.ok ⟨sl,y.ld 0 0,y.cZ (e:=iS) (sz:=10) (n:=1) (cs:=(jC kind).c) rfl md λw1 A=>?_⟩;refine A.Ji 1 aan (src:=⟨some (ab w.heap.size),1,1⟩) (news:=(jC kind).c) rfl (aG.bf (A.get 3)).2.2 rfl (by simp[FM.c,jC,Value.oneCell']) (by grind) λj U D ac ad _=>?_;obtain⟨x,P⟩:∃x,j.a=some x:=by
  cases hs:j.a with
  |none=>grind
  |some x=>grind
 have E:LH (·∈own) w U [.c rb [sl.v,.int .i64 st,.int .i64 k] za,.row iS 10 j ((d++[f]).flatMap FM.c++(jC kind).c),.rows ((d++[f]).flatMap FM.rows)] [.trees O]:=D.take 3;refine E.st 0 0 rfl (λw3 F=>F.st 0 1 rfl (λC G=>?_));have H:=afb G 2 rfl 4;have K:SF (·∈own) w C rb j state k (d++[f]) (jC kind) [] O:=by show LH _ _ _ (SL rb j state k ((d++[f]++[jC kind]).flatMap FM.c) ((d++[f]++[jC kind]).flatMap FM.rows)++[]) _;rw[List.append_nil,cW (xs:=d++[f]),cW (xs:=d++[f])];simpa[show(jC kind).rows=[(⟨none,0,0⟩,[]),(⟨none,0,0⟩,[]),(⟨none,0,0⟩,[]),(⟨none,0,0⟩,[])]from rfl]using H
 have L:=HR K 0 0 0;have M:LH (·∈own) w C (SL rb j state k ((d++[f]++[jC kind]).flatMap FM.c) ((d++[f]++[jC kind]).flatMap FM.rows)) [.trees (O++[.mk 0 0 0 ⟨none,0,0⟩ []])]:=L.take 3;refine⟨_,_,_,_,_,St.of (O:=O) (p:=x) (f0:=x.add ((d++[f]).length *10)) M 0 rfl (λg q t z=>?_) P rfl (λb N=>.inl (Ay N)) (λt z=>bV _ z) ⟨rfl,?_,rfl,rfl,rfl⟩⟩
 .rcases aX.1 q with q|q
  .grind
  .simp at q;subst q;simp[FM.O,jC]at z
   grind
 .simp
def jr(d:FX)(x:Rx):FX:=⟨d.k,d.ar,d.al,d.an,d.ca,d.n,x⟩
def DT{w:J}{rb:Nat}{f0:Addr}{lo:List FX}{D:FX}{st A:Int}{own:List Nat}{O:List I}(h:St w rb f0 lo D st A own O)(hl:lo.length<=1000000)(t:I)(C:t∈O):
  ai V Gr #[.pointer (some (ab rb)),t.v] w (iY w own O rb λr Y ac af ad ag _=>r=ae (.bool true)/\Y=f0/\ac=lo/\af=jr D t.rx/\ad=3/\ag=A):=by
 obtain⟨sl,d,f,p,rfl,rfl,z,x,rfl,E⟩:=Bb h;have aa:d.length<=1000000:=by grind
 refine T7.aC (E.aH (U:=[]) (λq w1 F=>F.ah (U:=[q]) (λw2 G=>?_) ws) ws);have B:SF (·∈own) w w2 rb sl st A d f [.g q] O:=G;refine B.aA (zR B x aa) ?_;rintro _ w3 rfl H;refine⟨_,rfl,pL ?_⟩;refine H.ji (U:=[q]) (f:=f) 1 ⟨f.k,f.ar,f.al,f.an,f.ca,f.n,.mk t.k f.la.lo f.la.hi f.la.s f.la.l⟩ 6 rfl x co rfl (λw4 K=>?_) ws;have S:((p.add (d.length *10)).add 6).add 1=(p.add (d.length *10)).add 7:=add_add _ 6 1;have T:((p.add (d.length *10)).add 6).add 2=(p.add (d.length *10)).add 8:=add_add _ 6 2;have W:((p.add (d.length *10)).add 6).add 3=(p.add (d.length *10)).add 9:=add_add _ 6 3;rw[S,T,W];refine K.ji (U:=[q]) (f:=⟨f.k,f.ar,f.al,f.an,f.ca,f.n,.mk t.k f.la.lo f.la.hi f.la.s f.la.l⟩) 1 ⟨f.k,f.ar,f.al,f.an,f.ca,f.n,.mk t.k t.lo f.la.hi f.la.s f.la.l⟩ 7 rfl x co rfl (λw5 L=>?_) ws;refine L.ji (U:=[q]) (f:=⟨f.k,f.ar,f.al,f.an,f.ca,f.n,.mk t.k t.lo f.la.hi f.la.s f.la.l⟩) 1 ⟨f.k,f.ar,f.al,f.an,f.ca,f.n,.mk t.k t.lo t.hi f.la.s f.la.l⟩ 8 rfl x co rfl (λw6 M=>?_) ws;refine M.ji (U:=[q]) (f:=⟨f.k,f.ar,f.al,f.an,f.ca,f.n,.mk t.k t.lo t.hi f.la.s f.la.l⟩) 1 ⟨f.k,f.ar,f.al,f.an,f.ca,f.n,t⟩ 9 rfl x co rfl (λw7 N=>?_) ws;refine N.vY (U:=[q]) 0 1 rfl (λw8 P=>?_) ws ws;have er:(d++[f]).flatMap FM.rows=(d++[(⟨f.k,f.ar,f.al,f.an,f.ca,f.n,t⟩:FM)]).flatMap FM.rows:=by simp[FM.rows]
 have Q:LH (·∈own) w w8 (SL rb sl 3 A ((d++[(⟨f.k,f.ar,f.al,f.an,f.ca,f.n,t⟩:FM)]).flatMap FM.c) ((d++[(⟨f.k,f.ar,f.al,f.an,f.ca,f.n,t⟩:FM)]).flatMap FM.rows)) [.trees O]:=by rw[<-er];exact P.take 3
 refine⟨_,_,_,_,_,St.of (O:=O) (f0:=p.add (d.length *10)) Q 0 rfl (λg y u j=>?_) x rfl (λb Z=>.inl Z) (λt C=>C) ⟨rfl,rfl,rfl,rfl,rfl,rfl⟩⟩;rcases aX.1 y with y|y
 .grind
 .simp at y;subst y;simp only[FM.O,aX,aq,aL,aO]at j;rcases j with(((j|j)|j)|j)|rfl
  .exact z f ws u (by simp[FM.O,j])
  .exact z f ws u (by simp[FM.O,j])
  .exact z f ws u (by simp[FM.O,j])
  .exact z f ws u (by simp[FM.O,j])
  omega
structure Tk where
 k:UInt8
 lo:UInt8
 hi:UInt8
 s:List UInt8
 a:Int
abbrev Tk.v(t:Tk):aa:=.agg #[.int .u8 (t.k.toNat:Int),.int .u8 (t.lo.toNat:Int),.int .u8 (t.hi.toNat:Int),.string (ba t.s),.int .i64 t.a]
structure SX where
 lo:List FX
 tp:FX
 st:Int
 wd:Int
def Cn:List UInt8:=[110,111,110,101]
def Cm:List UInt8:=[101,109,112,116,121]
def Ck:List UInt8:=[97,108,116]
def Cj:List UInt8:=[97,108,108]
def Cl:List UInt8:=[99,97,116]
def gu(t:Tk)(s:SX):Option SX:=
 if t.k=33 then some ⟨s.lo,⟨s.tp.k,s.tp.ar,s.tp.al,s.tp.an,s.tp.ca,s.tp.n+1,s.tp.la⟩,0,s.wd⟩
 else if t.k=40 then some ⟨s.lo++[s.tp],lS (-1),0,s.wd⟩
 else if t.k=114 then some ⟨s.lo,jr s.tp (.mk 2 t.lo t.hi []),3,s.wd⟩
 else if t.k=119 then
  if t.s=Cn then some ⟨s.lo,jr s.tp (.mk 0 0 0 []),3,s.wd⟩
  else if t.s=Cm then some ⟨s.lo,jr s.tp (.mk 1 0 0 []),3,s.wd⟩
  else if t.s=Ck then some ⟨s.lo,s.tp,2,4⟩
  else if t.s=Cj then some ⟨s.lo,s.tp,2,5⟩
  else if t.s=Cl then some ⟨s.lo,s.tp,2,3⟩
  else none
 else none
def zA(o:Option SX):bW->Addr->List FX->FX->Int->Int->List I->Prop:=λr _ lo d st h _=>(o=none/\r=ae (.bool false))\/(o=some ⟨lo,d,st,h⟩/\r=ae (.bool true))
section
variable {w Y:J} {own:List Nat} {G:List En} {rb:Nat} {sl:Sl} {st wd:Int} {fs:List FM} {f:FM} {O y9:List I} {p:Addr}
def hZ{Q:bW->Addr->List FX->FX->Int->Int->List I->Prop}{r:bW}(H:SF (·∈own) w Y rb sl st wd fs f G y9)(h:∀g∈fs++[f],∀t∈g.O,t∈y9)(k:sl.a=some p)(j:∀b∈I.bj y9,b∈I.bj O\/w.heap.size<=b\/b∈own)(q:∀t∈O,t∈y9)(y:Q r (p.add (fs.length *10)) (fs.map FM.x) f.x st wd y9):iY w own O rb Q r Y:=
 ⟨_,_,_,_,_,St.of (O:=O) (f0:=p.add (fs.length *10)) (H.take 3) 0 rfl h k rfl (λb d=>(j b d).imp id Or.symm) q y⟩
end
def agD(s:List UInt8):(ba s).toList=s:=by rw[ByteArray.toList_eq];rfl
def agE(a:Array UInt8):(ByteArray.mk a).toList=a.toList:=by rw[ByteArray.toList_eq]
def yY{s:List UInt8}{a:Array UInt8}{A B:Prop}(h:s=a.toList->A)(j:s≠a.toList->B):bA ((ba s).toList==(ByteArray.mk a).toList) A B:=by rw[agD,agE];exact bT (λd=>h (by grind)) (λd=>j (by grind))
def j4{x:UInt8}{n:Nat}{A B:Prop}(k:n<256)(h:x=db n->A)(j:x≠db n->B):bA ((x.toNat:Int)==(n:Int)) A B:=by
 have e:∀x:UInt8,x.toNat=n↔x=db n:=λx=>by rw[<-UInt8.toNat_inj,UInt8.toNat_ofNat'];omega
 exact bT (λd=>h ((e x).1 (by grind))) (λd=>j λq=>by grind)
def Zg{w:J}{rb:Nat}{f0:Addr}{lo:List FX}{S:FX}{st q:Int}{own:List Nat}{O:List I}(h:St w rb f0 lo S st q own O)(Z:lo.length<=1000000)(hn:S.n<=1000000)(t:Tk):
  ai V Gu #[.pointer (some (ab rb)),t.v] w (iY w own O rb (zA (gu t ⟨lo,S,st,q⟩))):=by
 obtain⟨sl,d,f,p,rfl,rfl,D,z,rfl,ad⟩:=Bb h;have ag:d.length<=1000000:=by grind
 have aw:f.n<=1000000:=hn;have base:∀b∈I.bj O,b∈I.bj O\/w.heap.size<=b\/b∈own:=λb hb=>.inl hb;refine Hu.aC (ad.aH (U:=[]) (λj w1 A=>?_) ws);have A:SF (·∈own) w w1 rb sl st q d f [.g j] O:=A;have leaf:∀(k:Int) (a b:UInt8) {B:J} {aa T:Int},SF (·∈own) w B rb sl aa T d f [.g j] O->gu t ⟨d.map FM.x,f.x,st,q⟩=some ⟨d.map FM.x,jr f.x (.mk k a b []),3,T⟩->
   ep [j] V Gr #[.pointer (some (ab rb)),.agg #[.i k,.int .u8 (a.toNat:Int),.int .u8 (b.toNat:Int),.slice none 0 0]] B λr_ w6=>∃t32:Bool,r_=ae (.bool t32)/\iY w own O rb (zA (gu t ⟨d.map FM.x,f.x,st,q⟩)) (ae (.bool t32)) w6:=by
  intro k a b B aa T y N;have E:=HR y k a b;refine E.mD (U:=[j]) (λg C u F=>bV _ (D g C u F)) z (λah P=>DT P Z (.mk k a b ⟨none,0,0⟩ []) ws) ?_ ws;rintro _ H ak af f3 p3 am ap ao Q L M K ⟨rfl,av,W,Y,rfl,rfl⟩ G;refine⟨true,rfl,hZ G L M (λaq hx=>?_) (λu F=>Q u (bV _ F)) (.inr ⟨?_,rfl⟩)⟩
  .rcases K aq hx with h|h
   .exact .inl (Ay h)
   grind
  .rw [N,W,Y];rfl
 refine j4 (n:=33) co (λhk:t.k=33=>A.aA (zR A z ag) ?_) (λaz:t.k≠33=>j4 (n:=40) co (λhk:t.k=40=>?_) (λaB:t.k≠40=>j4 (n:=114) co (λhk:t.k=114=>?_) (λax:t.k≠114=>j4 (n:=119) co (λhk:t.k=119=>?_) (λay:t.k≠119=>?_))))
 .rintro _ B rfl y;refine⟨_,rfl,pL ⟨_,y.hg 1 rfl z 5,pL ?_⟩⟩;have e:aj .i64 ((f.n:Int)+1)=((f.n+1:Nat):Int):=by rw[aQ _ co];omega
  rw[e];refine y.ji (U:=[j]) (f:=f) 1 ⟨f.k,f.ar,f.al,f.an,f.ca,f.n+1,f.la⟩ 5 rfl z co rfl (λH E=>?_) ws;refine E.vY (U:=[j]) 0 1 rfl (λw4 G=>?_) ws ws;have er:(d++[f]).flatMap FM.rows=(d++[(⟨f.k,f.ar,f.al,f.an,f.ca,f.n+1,f.la⟩:FM)]).flatMap FM.rows:=by simp[FM.rows]
  have H5:SF (·∈own) w w4 rb sl 0 q d ⟨f.k,f.ar,f.al,f.an,f.ca,f.n+1,f.la⟩ [.g j] O:=by grind
  refine hZ H5 (λg C u F=>?_) z base (λ_ h=>h) (.inr ⟨?_,rfl⟩)
  .rcases aX.1 C with C|C
   .grind
   .simp at C;subst C;exact D f ws u F
  .unfold gu;rw[au hk];rfl
 .refine A.mD (U:=[j]) D z (λah P=>JX P Z (-1) 0) ?_ ws;rintro _ H ak af f3 p3 am ap ao Q L M K ⟨rfl,W,Y,rfl,rfl⟩ G;refine⟨true,rfl,hZ G L M K Q (.inr ⟨?_,rfl⟩)⟩;unfold gu
  grind
 .exact leaf 2 t.lo t.hi A (by unfold gu;grind)
 .refine A.vY (U:=[j]) 0 1 rfl (λB y=>?_) ws ws;have y:SF (·∈own) w B rb sl 2 q d f [.g j] O:=y;have ei:gu t ⟨d.map FM.x,f.x,st,q⟩=if t.s=Cn then some ⟨d.map FM.x,jr f.x (.mk 0 0 0 []),3,q⟩else if t.s=Cm then some ⟨d.map FM.x,jr f.x (.mk 1 0 0 []),3,q⟩else if t.s=Ck then some ⟨d.map FM.x,f.x,2,4⟩else if t.s=Cj then some ⟨d.map FM.x,f.x,2,5⟩else if t.s=Cl then some ⟨d.map FM.x,f.x,2,3⟩else none:=by
   unfold gu
   grind
  have word:∀(k:Int),gu t ⟨d.map FM.x,f.x,st,q⟩=some ⟨d.map FM.x,f.x,2,k⟩->aS B ((ab rb).add 2) (.i k) λac=>kept [j] B ac/\Hu.bt ac (iY w own O rb (zA (gu t ⟨d.map FM.x,f.x,st,q⟩))):=λk N=>
   y.vY (U:=[j]) 0 2 rfl (λH E=>hZ (show SF (·∈own) w H rb sl 2 k d f [.g j] O from E) D z base (λ_ h=>h) (.inr ⟨N,rfl⟩)) ws ws
  refine yY (λh1:t.s=Cn=>leaf 0 0 0 y (by grind)) (λn1:t.s≠Cn=>yY (λh1:t.s=Cm=>leaf 1 0 0 y (by grind)) (λn2:t.s≠Cm=>yY (λh1:t.s=Ck=>word 4 (by grind)) (λn3:t.s≠Ck=>yY (λh1:t.s=Cj=>word 5 (by grind)) (λn4:t.s≠Cj=>yY (λh1:t.s=Cl=>word 3 (by grind)) (λn5:t.s≠Cl=>?_)))));exact hZ y D z base (λ_ h=>h) (.inl ⟨by grind,rfl⟩)
 .exact hZ A D z base (λ_ h=>h) (.inl ⟨by unfold gu;grind,rfl⟩)
def adR{w:J}{e:TypeId}{sz:Nat}{s:Sl}{xs:List aa}{p:Addr}(h:aG w e sz s xs)(z:s.a=some p)(n:Nat)(d:n<=s.n):aG w e sz ⟨s.a,n,s.c⟩ (xs.take (n *sz)):=by
 have B:=h.len;rcases h.cases with⟨rfl,_⟩|⟨g,cur,x,y,j,k,q,A⟩
 .cases z
 .have C:n *sz<=s.n *sz:=Nat.mul_le_mul_right _ d;refine⟨by grind,.inr ⟨g,s.c,cur,by rw[x],Nat.zero_le _,y,bb d j,k,q,?_⟩⟩
  grind
section
variable {M:Nat->Prop} {w0 w:J} {L D A:List En} {U:List Nat} {G:List En} {rb:Nat} {O:List I}
def Uq(H:LH M w0 w L D)(i:Nat){d k:List eB}(hi:L[i]? =some (.rows (d++k))):LH M w0 w (L.set i (.rows d)) D:=by have h:(En.rows (d++k)).P w:=H.get i hi;have j:=h.2;rw[cW,hL]at j;refine H.g4 i _ hi (Fr.refl _ _) ⟨λy x=>h.1 y (bV _ x),j.1⟩ λb q=>.inl (aT.2 ?_);rw[cW];exact bV _ (aT.1 q)
def acu(H:LH M w0 w (A++G) [.trees O]):LH (·∈A.flatMap (·.fp)) w w A [.trees O]:=by have j:=H.nd;rw[cW,hL]at j;refine LH.th _ _ (λe d=>⟨H.own e (bV _ d),λb h=>cc.2 ⟨e,d,h⟩⟩) j.1 λe d=>?_;simp only[aq,aL,aO]at d;subst d;exact⟨H.getD 0,λb h k x q=>H.dj (.trees O) ws b h k (bV _ x) q⟩
def acq(H:LH M w0 w (A++G) [.trees O]){Y:J}{P:Addr}{S:List FX}{W:FX}{U Z:Int}{N:List Nat}{k:List I}(s:St Y rb P S W U Z N k)(Q:Fr (·∈A.flatMap (·.fp)) w Y)(o:∀z∈N,z∈A.flatMap (·.fp)\/w.heap.size<=z)(h:∀b∈I.bj k,b∈I.bj O\/b∈A.flatMap (·.fp)\/w.heap.size<=b):
  ∃(F:Sl) (j:List FM) (q:FM) (E:Addr),j.map FM.x=S/\q.x=W/\(∀g∈j++[q],∀t∈g.O,t∈k)/\F.a=some E/\P=E.add (j.length *10)/\(∀b∈I.bj k,b∈I.bj O\/w0.heap.size<=b\/M b)/\SF M w0 Y rb F U Z j q G k:=by
 obtain⟨F,j,q,E,h1,h2,h3,h4,h5,h6,h7,h8,h9,af⟩:=s;have L:=H.nd;rw[cW,hL]at L;have T:∀b∈A.flatMap (·.fp),w0.heap.size<=b\/M b:=λb h=>by obtain⟨e,d,C⟩:=cc.1 h;exact H.new e (bV _ d) b C
 have ae:∀e∈G,∀b∈e.fp,b<w.heap.size:=λe d b h=>e.lt w (H.own e (eD _ d)) b h;have aa:∀e∈G,∀b∈e.fp,b∉A.flatMap (·.fp):=λe d b h K=>L.2.2 b K b (cc.2 ⟨e,d,h⟩) rfl;have ac:=H.fr.size;have ag:∀b∈N,w0.heap.size<=b\/M b:=λb h=>(o b h).elim (T b) λy=>.inl (bb ac y);refine⟨F,j,q,E,h1,h2,h3,h4,h5,λb B=>?_,H.fr.trans Q λz hx K=>(T z K).resolve_left co,λe d=>?_,λe d=>?_,λe d b B=>?_,?_,λe d b B e' D C=>?_⟩
 .grind
 .rcases aX.1 d with d|d
  .grind
  .exact e.st w Y (λb h hl=>Q.cB b hl (aa e d b h)) (H.own e (eD _ d))
 .simp at d;subst d;exact h9
 .rcases aX.1 d with d|d
  .grind
  .exact H.new e (eD _ d) b B
 .rw [cW,hL];refine⟨h6▸h7,L.2.1,λz hx ah hy ad=>?_⟩;subst ad;obtain⟨e,d,C⟩:=cc.1 hy
  grind
 .simp at d;subst d;have ab:b∈I.bj k:=aT.1 B;rcases aX.1 D with D|D
  .grind
  .rcases h b ab with y|y|y
   .exact H.dj (.trees O) ws b (aT.2 y) e' (eD _ D) C
   .grind
   grind
def _root_.Go.W.LH.Z8(H:LH M w0 w (A++G) [.trees O]){g:cR}{args:Array aa}{K:aK}{Q:bW->Addr->List FX->FX->Int->Int->List I->Prop}(F:∀own,LH (·∈own) w w A [.trees O]->ai V g args w (iY w own O rb Q))(Y:∀r z (q:Sl) (h:List FM) (j:FM) (k:Addr) (y B:Int) (d:List I),(∀t∈O,t∈d)->(∀g∈h++[j],∀t∈g.O,t∈d)->q.a=some k->(∀b∈I.bj d,b∈I.bj O\/w0.heap.size<=b\/M b)->Q r (k.add (h.length *10)) (h.map FM.x) j.x y B d->SF M w0 z rb q y B h j G d->K r z)(bG:∀b∈U,En.g b∈G:=by simp):ep U V g args w K:=by
 have C:=H.nd;rw[cW,hL]at C;refine⟨(·∈A.flatMap (·.fp)),λb E L=>?_,(F _ (acu H)).mono ?_⟩
 .exact C.2.2 b L b (cc.2 ⟨_,bG b E,by simp[En.g]⟩) rfl
 .rintro r z ⟨P,ab,ae,y,B,ac,d,s,D,o,b,t,ad⟩;obtain⟨q,h,j,k,rfl,rfl,S,Z,rfl,T,N⟩:=acq H s D o b
  grind
def acs(H:LH M w0 w L [.trees O])(T:I)(j:T∈O)(k:Int)(lo hi:UInt8):LH M w0 w L [.trees (O++[.mk k lo hi T.s T.l])]:=by
 have q:I.Ps w O:=H.getD 0;have x:=H.gP (.trees (O++[.mk k lo hi T.s T.l])) (Fr.refl _ _) (I.jd λt d=>?_) λb y=>.inr (.inr ⟨.trees O,ws,?_⟩)
 .exact x.forget _ ws
 .rcases aX.1 d with d|d
  .exact q.mem d
  .simp at d;subst d;unfold I.P;exact(q.mem j).parts
 .obtain ⟨t,d,h⟩:=I.b'.1 (aT.1 y);rcases aX.1 d with d|d
  .exact aT.2 (I.b'.2 ⟨t,d,h⟩)
  .simp at d;rw[d]at h;exact aT.2 (I.b'.2 ⟨T,j,I.gU.2 ((I.gU (t:=.mk k lo hi T.s T.l)).1 h)⟩)
def acx{T:I}(q:T∈O){k:Int}{lo hi:UInt8}{b:Nat}(h:b∈I.bj (O++[.mk k lo hi T.s T.l])):b∈I.bj O:=by
 obtain⟨t,d,j⟩:=I.b'.1 h;rcases aX.1 d with d|d
 .exact I.b'.2 ⟨t,d,j⟩
 .simp at d;rw[d]at j;exact I.b'.2 ⟨T,q,I.gU.2 ((I.gU (t:=.mk k lo hi T.s T.l)).1 j)⟩
def acr(H:LH M w0 w L [.trees O])(T:I)(h:T∈O):LH M w0 w L [.trees (O++T.l)]:=by
 have k:I.Ps w O:=H.getD 0;have q:=H.gP (.trees (O++T.l)) (Fr.refl _ _) (I.jd λt d=>?_) λb x=>.inr (.inr ⟨.trees O,ws,?_⟩)
 .exact q.forget _ ws
 .rcases aX.1 d with d|d
  .exact k.mem d
  .exact (k.mem h).parts.2.mem d
 .obtain ⟨t,d,j⟩:=I.b'.1 (aT.1 x);rcases aX.1 d with d|d
  .exact aT.2 (I.b'.2 ⟨t,d,j⟩)
  .exact aT.2 (I.b'.2 ⟨T,h,I.gU.2 (.inr (I.b'.2 ⟨t,d,j⟩))⟩)
def abY{T:I}(k:T∈O){b:Nat}(h:b∈I.bj (O++T.l)):b∈I.bj O:=by
 obtain⟨t,d,j⟩:=I.b'.1 h;rcases aX.1 d with d|d
 .exact I.b'.2 ⟨t,d,j⟩
 .exact I.b'.2 ⟨T,k,I.gU.2 (.inr (I.b'.2 ⟨t,d,j⟩))⟩
end
def ZC{w:J}{rb:Nat}{sl:Sl}{p:Addr}{n:Nat}(h:w.cell? ((ab rb).add 0)=some sl.v)(q:sl.n=n+1)(j:sl.a=some p)(x:n<=1000000):ai V AZ #[.pointer (some (ab rb))] w λr k=>r=ae (.pointer (some (p.add (n *10))))/\af w k:=by
 have e:aj .i64 ((sl.n:Int) - 1)=(n:Int):=by rw[aQ _ co];omega
 have d:w.drew.cell? ((ab rb).add 0)=some sl.v:=h;refine Hv.ok (show _ from⟨sl,d,sl,d,?_⟩);rw[e,j];exact⟨co,co,rfl,Fr.drew _ _⟩
def nq(k:Int)(l:List Rx):Rx:=if k<0 then l.headD fZ else .mk k 0 0 l
def Y4{w:J}{rb:Nat}{sl:Sl}{st B:Int}{d:List FM}{g f:FM}{O:List I}{p:Addr}{own:List Nat}(H:LH (·∈own) w w [.c rb [sl.v,.int .i64 st,.int .i64 B] za,.row iS 10 sl (((d++[g])++[f]).flatMap FM.c),.rows ((d++[g]).flatMap FM.rows)] [.trees O])(h3:∀C∈d++[g],∀t∈C.O,t∈O)(j:sl.a=some p)(hl:d.length<=999999)(T:I)(y:T∈O)(hk:0<=f.k\/T.l≠[]):
  ai V Gs #[.pointer (some (ab rb)),T.s.v] w (iY w own O rb λr _ ah ao am aq _=>r=ae (.bool true)/\ah=d.map FM.x/\ao=jr g.x (nq f.k (I.aw T.l))/\am=3/\aq=B):=by
 have hn:sl.n=(d++[g]).length+1:=by
  have A:aG w iS 10 sl (((d++[g])++[f]).flatMap FM.c):=H.get 1;have:=A.len;rw[qG]at this
  grind
 have av:1<=sl.c:=by have A:aG w iS 10 sl (((d++[g])++[f]).flatMap FM.c):=H.get 1;have:=A.cap;omega
 refine T8.ok (H.call (ZC (H.ld 0 0) hn j (by grind)) ?_);rintro _ w1 rfl H1;refine⟨_,rfl,pL ⟨_,H1.hg 1 rfl j 0,?_⟩⟩;have D:=H1.drew;refine⟨sl,D.ld 0 0,sl,D.ld 0 0,?_⟩;have e:aj .i64 ((sl.n:Int) - 1)=(((d++[g]).length:Nat):Int):=by rw[aQ _ (by grind)];omega
 rw[e];have A:aG w iS 10 sl (((d++[g])++[f]).flatMap FM.c):=H.get 1;have ay:=A.cap;refine⟨co,co,?_⟩;have ev:Value.slice (if sl.c=0 then sl.a else sl.a.map (·.add (0 *10))) ((a0 (((d++[g]).length:Nat):Int)) - 0) (sl.c - 0)=(⟨sl.a,(d++[g]).length,sl.c⟩:Sl).v:=by rw[ag co,j];show Value.slice (some (p.add 0)) _ _=Value.slice (some p) _ _;rw[jq];simp
 rw[ev];refine D.st 0 0 rfl λq H3=>?_;have af:aG q iS 10 sl (((d++[g])++[f]).flatMap FM.c):=H3.get 1;have aa:=adR af j (d++[g]).length co;have et:(((d++[g])++[f]).flatMap FM.c).take ((d++[g]).length *10)=(d++[g]).flatMap FM.c:=by rw[cW,<-qG,List.take_left'];rfl
 rw[et]at aa;have H4:=H3.g4 1 (.row iS 10 ⟨sl.a,(d++[g]).length,sl.c⟩ ((d++[g]).flatMap FM.c)) rfl (Fr.refl _ _) aa λb z=>.inl z;have E:SF (·∈own) w q rb ⟨sl.a,(d++[g]).length,sl.c⟩ st B d g [] O:=by grind
 refine bT (λL=>?_) (λL=>?_)
 .have S:f.k<0:=eT L;have ad:T.l≠[]:=hk.resolve_left co;obtain⟨C,l,hx⟩:=List.exists_cons_of_ne_nil ad;have hr:bN 4 q T.s (T.l.flatMap I.c):=((show I.Ps q O from E.getD 0).mem y).parts.1;have ax:=I.cI hr;refine⟨co,by grind,I.dE hr (i:=0) (t:=C) (by grind) λaz hq c=>⟨_,_,_,_,c.c0,c.c1,c.c2,c.c3,?_⟩⟩;have F:=acr E T y;refine(show SF (·∈own) w q rb ⟨sl.a,(d++[g]).length,sl.c⟩ st B d g [] (O++T.l)from F).zY (λZ U t h=>bV _ (h3 Z U t h)) j (λak W=>DT W (by grind) C (by grind)) ?_;rintro _ w4 al ac f4 p4 an ar ap Y M N K ⟨rfl,_,P,Q,rfl,rfl⟩ G;refine⟨true,rfl,hZ G M N (λb z=>(K b z).imp (abY y) id) (λt h=>Y t (bV _ h)) ⟨rfl,P,?_,rfl,rfl⟩⟩;rw[Q,hx];unfold nq;rw[au S];rfl
 .have S:¬f.k<0:=iy L;have F:=acs E T y f.k 0 0;refine(show SF (·∈own) w q rb ⟨sl.a,(d++[g]).length,sl.c⟩ st B d g [] (O++[.mk f.k 0 0 T.s T.l])from F).zY (λZ U t h=>bV _ (h3 Z U t h)) j (λak W=>DT W (by grind) (.mk f.k 0 0 T.s T.l) ws) ?_;rintro _ w4 al ac f4 p4 an ar ap Y M N K ⟨rfl,_,P,Q,rfl,rfl⟩ G;refine⟨true,rfl,hZ G M N (λb z=>(K b z).imp (acx y) id) (λt h=>Y t (bV _ h)) ⟨rfl,P,?_,rfl,rfl⟩⟩;rw[Q];unfold nq;rw[ag S];rfl
def mC(s:SX)(l:List Rx):Option SX:=match s.lo.getLast? with
 |none=>none
 |some g=>some ⟨s.lo.dropLast,jr g (nq s.tp.k l),3,s.wd⟩
def Jl(s':Sl)(f:FX):FX:=⟨f.k,(s',f.ar.2++[fj f]),[],[],[],0,f.la⟩
def gq(s':Sl)(t:Tk)(s:SX):Option SX:=
 if s.st=2 then(if t.k=40 then some ⟨s.lo++[s.tp],lS s.wd,1,s.wd⟩else none)
 else if s.st=1 then(if t.k=41 then mC s []else gu t s)
 else if s.st=0 then gu t s
 else if t.k=42 then some ⟨s.lo,jr s.tp (.mk 7 0 0 [s.tp.la]),s.st,s.wd⟩
 else if t.k=38 then some ⟨s.lo,kU s.tp,0,s.wd⟩
 else if t.k=124 then some ⟨s.lo,kT s.tp,0,s.wd⟩
 else if t.k=44 then(if s.tp.k<0 then none else some ⟨s.lo,Jl s' s.tp,0,s.wd⟩)
 else if t.k=41 then(if s.lo=[]then none else mC s (s.tp.ar.2++[fj s.tp]))
 else if t.k=36 then(if s.lo=[]then some s else none)
 else gu t ⟨s.lo,lL s.tp,s.st,s.wd⟩
section
variable {M:Nat->Prop} {w0 w1:J} {U:List Nat} {G:List En} {rb:Nat} {sl:Sl} {st wd:Int} {fs:List FM} {f:FM} {O:List I} {p:Addr}
abbrev I0(M:Nat->Prop)(w0 w:J)(rb:Nat)(sl:Sl)(st wd:Int)(fs:List FM)(f:FM)(d:List eB)(G:List En)(O:List I):Prop:=LH M w0 w (SL rb sl st wd ((fs++[f]).flatMap FM.c) d++G) [.trees O]
def S'(N:SF M w0 w1 rb sl st wd fs f G O)(i:Nat){src:Sl}(hi:(SL rb sl st wd ((fs++[f]).flatMap FM.c) ((fs++[f]).flatMap FM.rows)++G)[i]? =some (.row aZ 4 src z4))(H:sl.a=some p)(d:Nat)(D:1<=d)(E:d<=4)(t:I)(Z:(f.a8 d).2.length<=1000000)(ah:src.n=1){K:J->Prop}(hK:∀h w,SF M w0 w rb sl st wd fs (f.put d (h,(f.a8 d).2++[t])) G O->K w)(bG:∀b∈U,En.g b∈G:=by simp):
  ∃(t15:Sl) (q:J),(eA #[jk,jk] jk #[(f.a8 d).1.v,src.v]).run V w1=.ok (t15.v) q/\kept U w1 q/\(0:Int)<=(((f.a8 d).1.n:Nat):Int)/\(((f.a8 d).1.n:Nat):Int)<(t15.n:Int)/\eh t15.a λj=>
   ((aS q (j.add (a0 (((f.a8 d).1.n:Nat):Int) *4)) (.int .i64 t.k) λx=>kept U q x/\aS x ((j.add (a0 (((f.a8 d).1.n:Nat):Int) *4)).add 1) (.int .u8 (t.lo.toNat:Int)) λy=>kept U x y/\aS y ((j.add (a0 (((f.a8 d).1.n:Nat):Int) *4)).add 2) (.int .u8 (t.hi.toNat:Int)) λz=>kept U y z/\aS z ((j.add (a0 (((f.a8 d).1.n:Nat):Int) *4)).add 3) t.s.v λB=>kept U z B/\aS B ((p.add (fs.length *10)).add d) t15.v λac=>kept U B ac/\K ac)/\
   (aS q ((p.add (fs.length *10)).add d) t15.v λT=>kept U q T/\aS T (j.add (a0 (((f.a8 d).1.n:Nat):Int) *4)) (.int .i64 t.k) λx=>kept U T x/\aS x ((j.add (a0 (((f.a8 d).1.n:Nat):Int) *4)).add 1) (.int .u8 (t.lo.toNat:Int)) λy=>kept U x y/\aS y ((j.add (a0 (((f.a8 d).1.n:Nat):Int) *4)).add 2) (.int .u8 (t.hi.toNat:Int)) λz=>kept U y z/\aS z ((j.add (a0 (((f.a8 d).1.n:Nat):Int) *4)).add 3) t.s.v λB=>kept U z B/\K B)):=by
 have ab:((fs++[f]).flatMap FM.rows)[fs.length *4+(d - 1)]? =some ((f.a8 d).1,(f.a8 d).2.flatMap I.c):=q8 fs f (d - 1) _ (uy f D E);have nr:(f.a8 d).1.n=(f.a8 d).2.length:=by have H:(En.rows ((fs++[f]).flatMap FM.rows)).P w1:=N.get 2;exact I.cI (H.1 _ (aD ab)).bf
 have F:∀{L:List En},∀b∈U,En.g b∈L++G:=λb Z=>eD _ (bG b Z);obtain⟨h,q,h1,ad,h3⟩:=N.zF (U:=U) (ty:=jk) 2 (fs.length *4+(d - 1)) (src:=src) (news:=z4) (K:=λh w=>I0 M w0 w rb sl st wd fs f (((fs++[f]).flatMap FM.rows).set (fs.length *4+(d - 1)) (h,(f.a8 d).2.flatMap I.c++z4)) G O/\h.n=(f.a8 d).1.n+1/\∃j,h.a=some j) rfl ab (aG.bf (N.get i hi)) (by simp[Value.oneCell']) co (λh w4 H4 ae ag=>⟨H4,co,by
  cases hs:h.a with
  |none=>grind
  |some j=>grind⟩) F
 obtain⟨W,af,j,Q⟩:=h3;refine⟨h,q,h1,ad,co,co,?_⟩;rw[Q];have aa:fs.length *4+(d - 1)<((fs++[f]).flatMap FM.rows).length:=by grind
 have Y:∀(f:FM) (t:I) (d:Nat),(f.a8 d).2.flatMap I.c++t.c=((f.a8 d).2++[t]).flatMap I.c:=λf t d=>ws
 rw[nr];refine⟨?_,?_⟩
 .refine LH.vB (U:=U) W 2 (fs.length *4+(d - 1)) (f.a8 d).2.length t rfl (kv aa) Q (I.e1 _) (λw A=>?_) F;have A:I0 M w0 w rb sl st wd fs f ((((fs++[f]).flatMap FM.rows).set (fs.length *4+(d - 1)) (h,(f.a8 d).2.flatMap I.c++z4)).set (fs.length *4+(d - 1)) (h,(f.a8 d).2.flatMap I.c++t.c)) G O:=A;rw[List.set_set,Y,uW fs f (h,(f.a8 d).2++[t]) D E]at A;exact A.ji (U:=U) (f:=f) 1 (f.put d (h,(f.a8 d).2++[t])) d rfl H co (yy f (h,(f.a8 d).2++[t]) D E) (λS C=>hK h S C) F
 .refine W.ji (U:=U) (f:=f) 1 (f.put d (h,(f.a8 d).2++[t])) d rfl H co (yy f (h,(f.a8 d).2++[t]) D E) (λw A=>?_) F;refine LH.vB (U:=U) (L:=SL rb sl st wd ((fs++[f.put d (h,(f.a8 d).2++[t])]).flatMap FM.c) (((fs++[f]).flatMap FM.rows).set (fs.length *4+(d - 1)) (h,(f.a8 d).2.flatMap I.c++z4))++G) A 2 (fs.length *4+(d - 1)) (f.a8 d).2.length t rfl (kv aa) Q (I.e1 _) (λS C=>?_) F;have C:LH M w0 S (SL rb sl st wd ((fs++[f.put d (h,(f.a8 d).2++[t])]).flatMap FM.c) ((((fs++[f]).flatMap FM.rows).set (fs.length *4+(d - 1)) (h,(f.a8 d).2.flatMap I.c++z4)).set (fs.length *4+(d - 1)) (h,(f.a8 d).2.flatMap I.c++t.c))++G) [.trees O]:=C;rw[List.set_set,Y,uW fs f (h,(f.a8 d).2++[t]) D E]at C
  grind
end
def sM{α:Type}(l:List α):l=[]\/∃a d,l=a++[d]:=by
 rcases List.eq_nil_or_concat l with h|⟨a,d,h⟩
 .grind
 grind
def Kl(lo:List FX)(g d:FX)(st h:Int)(l:List Rx):mC ⟨lo++[g],d,st,h⟩ l=some ⟨lo,jr g (nq d.k l),3,h⟩:=by unfold mC;simp
def tO(t:Tk)(S:SX):bW->Addr->List FX->FX->Int->Int->List I->Prop:=λr d lo j st q k=>∃h,zA (gq h t S) r d lo j st q k
def Y6{w:J}{rb:Nat}{f0:Addr}{lo:List FX}{tp:FX}{st y:Int}{own:List Nat}{O:List I}(h:St w rb f0 lo tp st y own O)(hl:lo.length<=999999)(hs:Small tp 999999)(h1:st=1->0<=tp.k/\lo≠[])(t:Tk):
  ai V Gt #[.pointer (some (ab rb)),t.v] w (iY w own O rb (tO t ⟨lo,tp,st,y⟩)):=by
 obtain⟨sl,j,f,p,rfl,rfl,N,D,rfl,bu⟩:=Bb h;have b1:j.length<=999999:=by grind
 have bK:f.n<=999999:=hs.n';have ak:Small f.x 1000000:=⟨by have:=hs.n';omega,by have:=hs.ar;omega,by have:=hs.al;omega,by have:=hs.an;omega,by have:=hs.ca;omega⟩;have base:∀b∈I.bj O,b∈I.bj O\/w.heap.size<=b\/b∈own:=λb S=>.inl S
 let af:Sl:=⟨none,0,0⟩
 refine yE.aC (bu.aH (U:=[]) (λq w1 H1=>?_) ws);have H1:SF (·∈own) w w1 rb sl st y j f [.g q] O:=H1;refine H1.aA (zR H1 D co) ?_;rintro _ w2 rfl A;have A:SF (·∈own) w w2 rb sl st y j f [.g q] O:=A;refine⟨_,rfl,st,A.ld 0 1,?_⟩;have item:∀{w2:J} {ay:Sl} {bd be:Int} {aj:List FM} {f2:FM} {ao:List I} {p2:Addr},SF (·∈own) w w2 rb ay bd be aj f2 [.g q] ao->(∀g∈aj++[f2],∀t∈g.O,t∈ao)->ay.a=some p2->(∀b∈I.bj ao,b∈I.bj O\/w.heap.size<=b\/b∈own)->(∀t∈O,t∈ao)->aj.length<=1000000->f2.n<=1000000->
   gq af t ⟨j.map FM.x,f.x,st,y⟩=gu t ⟨aj.map FM.x,f2.x,bd,be⟩->ep [q] V Gu #[.pointer (some (ab rb)),t.v] w2 λr_ w5=>∃t34:Bool,r_=ae (.bool t34)/\iY w own O rb (tO t ⟨j.map FM.x,f.x,st,y⟩) (ae (.bool t34)) w5:=by
  intro w2 ay bd be aj f2 ao p2 A a4 a5 a6 aY bp bL he;refine A.mD (U:=[q]) a4 a5 (λax s1=>Zg s1 (by grind) bL t) ?_ ws;rintro r w3 Z M d p3 am aa L W H B Q bO H4;have S:∀b∈I.bj L,b∈I.bj O\/w.heap.size<=b\/b∈own:=λb S=>(Q b S).elim (a6 b) .inr;rcases bO with⟨hn,rfl⟩|⟨bP,rfl⟩
  .exact ⟨false,rfl,hZ H4 H B S (λt ht=>W t (aY t ht)) ⟨af,.inl ⟨he.trans hn,rfl⟩⟩⟩
  .exact ⟨true,rfl,hZ H4 H B S (λt ht=>W t (aY t ht)) ⟨af,.inr ⟨he.trans bP,rfl⟩⟩⟩
 have close:∀{w2:J} {ay:Sl} {aj:List FM} {g2 f2:FM} {ao:List I} {p2:Addr} {s':Sl} (T:I),LH (·∈own) w w2 ([.c rb [ay.v,.int .i64 st,.int .i64 y] za,.row iS 10 ay (((aj++[g2])++[f2]).flatMap FM.c),.rows ((aj++[g2]).flatMap FM.rows)]++[.g q]) [.trees ao]->(∀ac∈aj++[g2],∀t∈ac.O,t∈ao)->ay.a=some p2->aj.length<=999999->T∈ao->(0<=f2.k\/T.l≠[])->(∀b∈I.bj ao,b∈I.bj O\/w.heap.size<=b\/b∈own)->(∀t∈O,t∈ao)->
   gq s' t ⟨j.map FM.x,f.x,st,y⟩=some ⟨aj.map FM.x,jr g2.x (nq f2.k (I.aw T.l)),3,y⟩->ep [q] V Gs #[.pointer (some (ab rb)),T.s.v] w2 λr_ w5=>∃t34:Bool,r_=ae (.bool t34)/\iY w own O rb (tO t ⟨j.map FM.x,f.x,st,y⟩) (ae (.bool t34)) w5:=by
  intro w2 ay aj g2 f2 ao p2 s' T A a4 a5 bp hT hk a6 aY he;refine LH.Z8 (rb:=rb) (U:=[q]) A (λax HA=>Y4 HA a4 a5 bp T hT hk) ?_ ws;rintro r w3 Z M d p3 am aa L W H B Q ⟨rfl,ad,C,rfl,rfl⟩ H4;refine⟨true,rfl,hZ H4 H B (λb S=>(Q b S).elim (a6 b) .inr) (λt ht=>W t (aY t ht)) ⟨s',.inr ⟨?_,rfl⟩⟩⟩
  grind
 refine bT (λa7=>?_) (λa7=>?_)
 .have a7:st=2:=eq_of_beq a7;refine j4 (n:=40) co (λhk:t.k=40=>⟨y,A.ld 0 2,?_⟩) (λhk:t.k≠40=>?_)
  .refine A.mD (U:=[q]) N D (λax s1=>JX s1 co y 1) ?_ ws;rintro _ w3 Z M d p3 am aa L W H B Q ⟨rfl,ad,C,rfl,rfl⟩ H4;refine⟨true,rfl,hZ H4 H B Q W ⟨af,.inr ⟨?_,rfl⟩⟩⟩;rw[ad,C];unfold gq
   grind
  .refine hZ A N D base (λ_ h=>h) ⟨af,.inl ⟨?_,rfl⟩⟩;unfold gq
   grind
 have n2:st≠2:=λe=>by grind
 refine bT (λaQ=>?_) (λaQ=>?_)
 .have aQ:st=1:=eq_of_beq aQ;obtain⟨bH,b2⟩:=h1 aQ;refine j4 (n:=41) co (λhk:t.k=41=>?_) (λhk:t.k≠41=>?_)
  .rcases sM j with rfl|⟨aE,g,rfl⟩
   .grind
   have H3:=HR A 3 0 0;have er:(((aE++[g])++[f]).flatMap FM.rows)=(aE++[g]).flatMap FM.rows++f.rows:=by grind
   have H4:LH (·∈own) w w2 (SL rb sl st y (((aE++[g])++[f]).flatMap FM.c) ((aE++[g]).flatMap FM.rows++f.rows)++[.g q]) [.trees (O++[.mk 3 0 0 ⟨none,0,0⟩ []])]:=by grind
   have H5:=Uq H4 2 rfl;refine close (s':=af) (.mk 3 0 0 ⟨none,0,0⟩ []) H5 (λac hx u z=>bV _ (N ac (bV _ hx) u z)) D (by grind) ws (.inl bH) (λb S=>.inl (Ay S)) (λu z=>bV _ z) ?_;unfold gq;refine(ag n2).trans ((au aQ).trans ((au hk).trans ?_));rw[fK];exact Kl _ _ _ _ _ _
  .refine item A N D base (λ_ h=>h) co co ?_;unfold gq
   grind
 have n1:st≠1:=λe=>by grind
 refine bT (λa9=>?_) (λa9=>?_)
 .have a9:st=0:=eq_of_beq a9;refine item A N D base (λ_ h=>h) co co ?_;unfold gq
  grind
 have n0:st≠0:=λe=>by grind
 have fe:∀s':Sl,gq s' t ⟨j.map FM.x,f.x,st,y⟩=(if t.k=42 then some ⟨j.map FM.x,jr f.x (.mk 7 0 0 [f.x.la]),st,y⟩
   else if t.k=38 then some ⟨j.map FM.x,kU f.x,0,y⟩
   else if t.k=124 then some ⟨j.map FM.x,kT f.x,0,y⟩
   else if t.k=44 then(if f.x.k<0 then none else some ⟨j.map FM.x,Jl s' f.x,0,y⟩)
   else if t.k=41 then(if j.map FM.x=[]then none else mC ⟨j.map FM.x,f.x,st,y⟩ (f.x.ar.2++[fj f.x]))
   else if t.k=36 then(if j.map FM.x=[]then some ⟨j.map FM.x,f.x,st,y⟩else none)
   else gu t ⟨j.map FM.x,lL f.x,st,y⟩):=λs'=>by
  unfold gq
  grind
 refine j4 (n:=42) co (λhk:t.k=42=>?_) (λbc:t.k≠42=>j4 (n:=38) co (λhk:t.k=38=>?_) (λbb:t.k≠38=>j4 (n:=124) co (λhk:t.k=124=>?_) (λba:t.k≠124=>j4 (n:=44) co (λhk:t.k=44=>?_) (λbS:t.k≠44=>j4 (n:=41) co (λhk:t.k=41=>?_) (λb6:t.k≠41=>j4 (n:=36) co (λhk:t.k=36=>?_) (λb5:t.k≠36=>?_))))))
 .obtain ⟨c0,c1,c2,c3⟩:=A.No 1 rfl D;refine pL ⟨_,_,_,_,c0,c1,c2,c3,?_⟩;refine A.cZ (e:=aZ) (sz:=4) (n:=1) (cs:=f.la.c) rfl md λw7 H7=>pL ?_;have a1:((p.add (j.length *10)).add 6).add 1=(p.add (j.length *10)).add 7:=add_add _ 6 1;have a2:((p.add (j.length *10)).add 6).add 2=(p.add (j.length *10)).add 8:=add_add _ 6 2;have a3:((p.add (j.length *10)).add 6).add 3=(p.add (j.length *10)).add 9:=add_add _ 6 3;rw[a1,a2,a3];refine H7.ji (U:=[q]) (f:=f) 1 ⟨f.k,f.ar,f.al,f.an,f.ca,f.n,.mk 7 f.la.lo f.la.hi f.la.s f.la.l⟩ 6 rfl D co rfl (λw8 H8=>?_) ws;refine H8.ji (U:=[q]) (f:=⟨f.k,f.ar,f.al,f.an,f.ca,f.n,.mk 7 f.la.lo f.la.hi f.la.s f.la.l⟩) 1 ⟨f.k,f.ar,f.al,f.an,f.ca,f.n,.mk 7 0 f.la.hi f.la.s f.la.l⟩ 7 rfl D co rfl (λw9 H9=>?_) ws;refine H9.ji (U:=[q]) (f:=⟨f.k,f.ar,f.al,f.an,f.ca,f.n,.mk 7 0 f.la.hi f.la.s f.la.l⟩) 1 ⟨f.k,f.ar,f.al,f.an,f.ca,f.n,.mk 7 0 0 f.la.s f.la.l⟩ 8 rfl D co rfl (λb7 bv=>?_) ws;refine bv.ji (U:=[q]) (f:=⟨f.k,f.ar,f.al,f.an,f.ca,f.n,.mk 7 0 0 f.la.s f.la.l⟩) 1 ⟨f.k,f.ar,f.al,f.an,f.ca,f.n,.mk 7 0 0 ⟨some (ab w2.heap.size),1,1⟩ [f.la]⟩ 9 rfl D co rfl (λbr bg=>?_) ws;have bJ:f.la∈O:=N f ws _ (by simp[FM.O]);have bw:=bg.freeze 4 (I.row ⟨some (ab w2.heap.size),1,1⟩ [f.la]) rfl (by show bN 4 br _ ([f.la].flatMap I.c);rw[show[f.la].flatMap I.c=f.la.c by simp];exact aG.bf (bg.get 4)) (λb S=>gY (e:=aZ) (vs:=[f.la].flatMap I.c) S);have bx:=bw.node 0 7 0 0 (s:=⟨some (ab w2.heap.size),1,1⟩) (ks:=[f.la]) rfl ws (λt ht=>by grind);have er:(j++[f]).flatMap FM.rows=(j++[(⟨f.k,f.ar,f.al,f.an,f.ca,f.n,.mk 7 0 0 ⟨some (ab w2.heap.size),1,1⟩ [f.la]⟩:FM)]).flatMap FM.rows:=by simp[FM.rows]
  have bz:SF (·∈own) w br rb sl st y j ⟨f.k,f.ar,f.al,f.an,f.ca,f.n,.mk 7 0 0 ⟨some (ab w2.heap.size),1,1⟩ [f.la]⟩ [.g q] (O++[.mk 7 0 0 ⟨some (ab w2.heap.size),1,1⟩ [f.la]]):=by show LH _ _ _ (SL rb sl st y _ ((j++[(⟨f.k,f.ar,f.al,f.an,f.ca,f.n,.mk 7 0 0 ⟨some (ab w2.heap.size),1,1⟩ [f.la]⟩:FM)]).flatMap FM.rows)++_) _;rw[<-er];exact bx
  refine hZ bz (λg ap u z=>?_) D (λb S=>?_) (λu z=>bV _ z) ⟨af,.inr ⟨?_,rfl⟩⟩
  .rcases aX.1 ap with ap|ap
   .grind
   .simp at ap;subst ap;simp only[FM.O,aX,aq,aL,aO]at z;rcases z with(((z|z)|z)|z)|rfl
    .exact bV _ (N f ws u (by simp[FM.O,z]))
    .exact bV _ (N f ws u (by simp[FM.O,z]))
    .exact bV _ (N f ws u (by simp[FM.O,z]))
    .exact bV _ (N f ws u (by simp[FM.O,z]))
    .simp
  .obtain ⟨u,z,aF⟩:=I.b'.1 S;rcases aX.1 z with z|z
   .exact .inl (I.b'.2 ⟨u,z,aF⟩)
   .simp at z;rw[z]at aF;rcases I.gU.1 aF with aF|aF
    .have:=gY (e:=aZ) aF;simp[En.row,az,I.s]at this;subst this;exact .inr (.inl A.fr.size)
    .obtain ⟨t',av,aU⟩:=I.b'.1 aF;simp[I.l]at av;rw[av]at aU;exact .inl (I.b'.2 ⟨f.la,bJ,aU⟩)
  .rw [fe,au hk];rfl
 .refine A.mD (U:=[q]) N D (λax s1=>zJ (JL s1 ak.n' ak.ca ak.an)) ?_ ws;rintro _ w3 Z M d p3 am aa L W H B Q ⟨rfl,bn,ad,C,rfl,rfl⟩ H3;refine⟨rfl,H3.vY (U:=[q]) 0 1 rfl (λw4 H4=>?_) ws ws⟩;refine hZ (show SF (·∈own) w w4 rb Z 0 aa M d [.g q] L from H4) H B Q W ⟨af,.inr ⟨?_,rfl⟩⟩
  grind
 .refine A.mD (U:=[q]) N D (λax s1=>zJ (JJ s1 ak.n' ak.ca ak.an ak.al)) ?_ ws;rintro _ w3 Z M d p3 am aa L W H B Q ⟨rfl,bn,ad,C,rfl,rfl⟩ H3;refine⟨rfl,H3.vY (U:=[q]) 0 1 rfl (λw4 H4=>?_) ws ws⟩;refine hZ (show SF (·∈own) w w4 rb Z 0 aa M d [.g q] L from H4) H B Q W ⟨af,.inr ⟨?_,rfl⟩⟩
  grind
 .refine pL ⟨f.k,A.hg 1 rfl D 0,bT (λh0=>?_) (λh0=>?_)⟩
  .refine hZ A N D base (λ_ h=>h) ⟨af,.inl ⟨?_,rfl⟩⟩;rw[fe,ag bc,ag bb,ag ba,au hk];exact au (eT h0)
  have fin:∀{w5:J} {Z:Sl} {M:List FM} {d:FM} {p3:Addr} {L:List I} {s':Sl} {u:I} {G:List En},SF (·∈own) w w5 rb Z st y M (d.put 1 (s',(d.a8 1).2++[u])) G L->(∀g∈M++[d],∀t∈g.O,t∈L)->Z.a=some p3->(∀b∈I.bj L,b∈I.bj O\/w.heap.size<=b\/b∈own)->(∀t∈O,t∈L)->M.map FM.x=j.map FM.x->d.x=EF f.x->u∈L->u.rx=fj f.x->
    yE.b3 (ab rb) w5 (iY w own O rb (tO t ⟨j.map FM.x,f.x,st,y⟩)):=by
   intro w5 Z M d p3 L s' u G H5 H B bD bR ad C z hx;refine H5.st 0 1 rfl λw6 H6=>?_;refine hZ (show SF (·∈own) w w6 rb Z 0 y M (d.put 1 (s',(d.a8 1).2++[u])) G L from H6) (λg ap v Y=>?_) B bD bR ⟨s',.inr ⟨?_,rfl⟩⟩
   .rcases aX.1 ap with ap|ap
    .grind
    .simp at ap;subst ap;rcases Bp _ _ co co Y with h|h
     .grind
     .rcases aX.1 h with h|h
      .exact H d ws v (pf d 1 h)
      grind
   .have e1:d.k=f.k:=by have:=congrArg FX.k C;exact this
    have e2:I.aw d.ar.2=I.aw f.ar.2:=by have:=congrArg (λac:FX=>ac.ar.2) C;exact this
    have e3:I.aw d.al.2=[]:=by have:=congrArg FX.al C;exact this
    have e4:I.aw d.an.2=[]:=by have:=congrArg FX.an C;exact this
    have e5:I.aw d.ca.2=[]:=by have:=congrArg FX.ca C;exact this
    have e6:d.n=0:=by have:=congrArg FX.n C;exact this
    have e7:d.la.rx=f.x.la:=by have:=congrArg FX.la C;exact this
    rw[fe,ag bc,ag bb,ag ba,au hk];refine(ag (iy h0)).trans ?_;show some (SX.mk _ ⟨_,(s',I.aw f.ar.2++[fj f.x]),[],[],[],0,f.x.la⟩ 0 y)=some (SX.mk (M.map FM.x) ⟨d.k,(s',I.aw (d.ar.2++[u])),I.aw d.al.2,I.aw d.an.2,I.aw d.ca.2,d.n,d.la.rx⟩ 0 y);rw[ad,e1,e3,e4,e5,e6,e7,kA,e2];show some (SX.mk _ ⟨_,(s',I.aw f.ar.2++[fj f.x]),[],[],[],0,f.x.la⟩ 0 y)=some (SX.mk _ ⟨_,(s',I.aw f.ar.2++[u.rx]),[],[],[],0,f.x.la⟩ 0 y);rw[hx];rfl
  refine pL (A.ah (U:=[q]) (λbs a0=>⟨f.ar.1,a0.hg 1 rfl D 1,?_,?_⟩) ws)
  .refine (show SF (·∈own) w bs rb sl st y j f [.g q] O from a0).mD (U:=[q]) N D (λax s1=>zO s1 ak) ?_ ws;rintro r bt Z M d p3 am aa L W H B Q ⟨aP,ad,C,rfl,rfl,u,z,rfl,hx⟩ aJ;have aK:d.ar.1=f.ar.1:=by have:=congrArg (λac:FX=>ac.ar.1) C;exact this
   refine⟨u.k,u.lo.toNat,u.hi.toNat,u.s,rfl,?_⟩;rw[<-aP,<-aK];refine⟨aJ.hg 1 rfl B 1,aJ.cZ (e:=aZ) (sz:=4) (n:=1) (cs:=z4) rfl md λbU bh=>⟨bh.hg 1 rfl B 1,?_⟩⟩;have aV:(d.a8 1).2.length<=1000000:=by have e:d.x.ar.2.length=d.ar.2.length:=(Fa d).1;rw[C]at e;have:f.x.ar.2.length<=999999:=hs.ar;show d.ar.2.length<=_;rw[<-e];show f.x.ar.2.length<=_;omega
   exact S' (U:=[q]) (K:=λw5=>yE.b3 (ab rb) w5 (iY w own O rb (tO t ⟨j.map FM.x,f.x,am,aa⟩))) (show SF (·∈own) w bU rb Z am aa M d ([.g q]++[.row aZ 4 ⟨some (ab bt.heap.size),1,1⟩ z4]) L from bh) 4 rfl B 1 co co u aV rfl (λs' w5 H5=>fin H5 H B Q W ad C z hx) ws
  .refine a0.cZ (e:=aZ) (sz:=4) (n:=1) (cs:=z4) rfl md λbW bi=>⟨bi.hg 1 rfl D 1,?_⟩;refine(show SF (·∈own) w bW rb sl st y j f ([.g q]++[.row aZ 4 ⟨some (ab bs.heap.size),1,1⟩ z4]) O from bi).mD (U:=[q]) N D (λax s1=>zO s1 ak) ?_ ws;rintro r bt Z M d p3 am aa L W H B Q ⟨aP,ad,C,rfl,rfl,u,z,rfl,hx⟩ aJ;have aK:d.ar.1=f.ar.1:=by have:=congrArg (λac:FX=>ac.ar.1) C;exact this
   refine⟨u.k,u.lo.toNat,u.hi.toNat,u.s,rfl,?_⟩;rw[<-aP,<-aK];refine⟨aJ.hg 1 rfl B 1,?_⟩;have aV:(d.a8 1).2.length<=1000000:=by have e:d.x.ar.2.length=d.ar.2.length:=(Fa d).1;rw[C]at e;have:f.x.ar.2.length<=999999:=hs.ar;show d.ar.2.length<=_;rw[<-e];show f.x.ar.2.length<=_;omega
   exact S' (U:=[q]) (K:=λw5=>yE.b3 (ab rb) w5 (iY w own O rb (tO t ⟨j.map FM.x,f.x,am,aa⟩))) aJ 4 rfl B 1 co co u aV rfl (λs' w5 H5=>fin H5 H B Q W ad C z hx) ws
 .refine A.ah (U:=[q]) (λbX aB=>⟨sl,aB.ld 0 0,?_⟩) ws;have aB:SF (·∈own) w bX rb sl st y j f [.g q] O:=aB;have bQ:=BO aB;rcases sM j with rfl|⟨aE,g,rfl⟩
  .refine aN (aW (by grind)) ?_;refine hZ aB N D base (λ_ h=>h) ⟨af,.inl ⟨?_,rfl⟩⟩
   grind
  .refine aM (aR (by grind)) (pL ⟨f.ar.1,aB.hg 1 rfl D 1,?_⟩);refine aB.mD (U:=[q]) N D (λax s1=>zO s1 ak) ?_ ws;rintro r bY Z M d p3 am aa L W H B Q ⟨aP,ad,C,rfl,rfl,u,z,rfl,hx⟩ bk;have aK:d.ar.1=f.ar.1:=by have:=congrArg (λac:FX=>ac.ar.1) C;exact this
   refine⟨u.k,u.lo.toNat,u.hi.toNat,u.s,rfl,?_⟩;rw[<-aP,<-aK];refine⟨bk.hg 1 rfl B 1,bk.cZ (e:=aZ) (sz:=4) (n:=1) (cs:=u.c) rfl md λbZ aS=>⟨aS.hg 1 rfl B 1,?_⟩⟩;have bF:∃E F,M=E++[F]/\E.map FM.x=aE.map FM.x/\F.x=g.x:=by
    rcases sM M with rfl|⟨E,F,rfl⟩
    .grind
    .refine ⟨E,F,rfl,?_⟩;rw[fK,fK]at ad;have:=List.append_inj' ad rfl
     grind
   obtain⟨E,F,rfl,bE,bG⟩:=bF;have bq:(((E++[F])++[d]).flatMap FM.rows)[(E++[F]).length *4+0]? =some (d.ar.1,d.ar.2.flatMap I.c):=q8 (E++[F]) d 0 _ rfl;have aV:d.ar.2.length<=999999:=by have e:d.x.ar.2.length=d.ar.2.length:=(Fa d).1;rw[C]at e;have:f.x.ar.2.length<=999999:=hs.ar;rw[<-e];exact this
   have nr:d.ar.1.n=d.ar.2.length:=by have hp:(En.rows (((E++[F])++[d]).flatMap FM.rows)).P bZ:=aS.get 2;exact I.cI (hp.1 _ (aD bq)).bf
   refine aS.zF (U:=[q]) 2 ((E++[F]).length *4+0) (src:=⟨some (ab bY.heap.size),1,1⟩) (news:=u.c) rfl bq (aG.bf (aS.get 4)) (by simp[Value.oneCell',I.c]) (by grind) (λs' b0 bl bK b4=>?_) ws;have bo:(E++[F]).length *4+0<(((E++[F])++[d]).flatMap FM.rows).length:=by grind
   have bM:∀b∈az s',b∈own\/w.heap.size<=b:=λb S=>(bl.new (.rows ((((E++[F])++[d]).flatMap FM.rows).set ((E++[F]).length *4+0) (s',d.ar.2.flatMap I.c++u.c))) ws b (aT.2 (cc.2 ⟨_,aD (kv bo),S⟩))).symm;have bm:=bl.Fe 2 ((E++[F]).length *4+0) rfl (kv bo);have ec:d.ar.2.flatMap I.c++u.c=(d.ar.2++[u]).flatMap I.c:=ws
   rw[ec]at bm;have bA:=bm.node 0 3 0 0 (s:=s') (ks:=d.ar.2++[u]) rfl (eD _ (List.mem_singleton.2 rfl)) (λv Y=>by
    rcases aX.1 Y with Y|Y
    .exact H d ws v (pf d 1 Y)
    grind)
   have er:(((((E++[F])++[d]).flatMap FM.rows).set ((E++[F]).length *4+0) (s',(d.ar.2++[u]).flatMap I.c)).set ((E++[F]).length *4+0) (⟨none,0,0⟩,[]))=(E++[F]).flatMap FM.rows++d.rows.set 0 (⟨none,0,0⟩,[]):=by rw[List.set_set];exact HG (E++[F]) d 0 _ co
   have bB:LH (·∈own) w b0 (SL rb Z am aa (((E++[F])++[d]).flatMap FM.c) ((E++[F]).flatMap FM.rows++d.rows.set 0 (⟨none,0,0⟩,[]))++[.g q]) [.trees (L++[.mk 3 0 0 s' (d.ar.2++[u])])]:=by rw[<-er];exact bA.take 4
   have bC:=Uq bB 2 rfl;have bI:d.k=f.k:=by have:=congrArg FX.k C;exact this
   refine close (s':=af) (.mk 3 0 0 s' (d.ar.2++[u])) bC (λac hx v Y=>bV _ (H ac (bV _ hx) v Y)) B ?_ ws (.inr (by simp[I.l])) ?_ (λv Y=>bV _ (W v Y)) ?_
   .grind
   .intro b S;obtain⟨v,Y,aI⟩:=I.b'.1 S;rcases aX.1 Y with Y|Y
    .exact Q b (I.b'.2 ⟨v,Y,aI⟩)
    .simp at Y;rw[Y]at aI;rcases I.gU.1 aI with aI|aI
     .exact .inr (bM b (gY (e:=aZ) aI)).symm
     .obtain ⟨t',av,aU⟩:=I.b'.1 aI;have av:t'∈d.ar.2++[u]:=av;refine Q b (I.b'.2 ⟨t',?_,aU⟩);rcases aX.1 av with av|av
      .exact H d ws t' (pf d 1 av)
      grind
   .rw [fe,ag bc,ag bb,ag ba,ag bS,au hk];refine(ag ws).trans ?_;rw[fK];refine(Kl _ _ _ _ _ _).trans ?_;have e2:I.aw d.ar.2=f.x.ar.2:=by have:=congrArg (λac:FX=>ac.ar.2) C;exact this
    rw[bE,bG,bI];show _=some (SX.mk _ (jr g.x (nq f.k (I.aw (d.ar.2++[u])))) 3 aa);rw[kA,e2];show _=some (SX.mk _ (jr g.x (nq f.k (f.x.ar.2++[u.rx]))) 3 aa);rw[hx];rfl
 .refine ⟨sl,A.ld 0 0,?_⟩;have bQ:=BO A;rcases sM j with rfl|⟨aE,g,rfl⟩
  .have e:((sl.n:Int)==1)=true:=by grind
   rw[e];refine hZ A N D base (λ_ h=>h) ⟨af,.inr ⟨?_,rfl⟩⟩
   grind
  .have e:((sl.n:Int)==1)=false:=by grind
   rw[e];refine hZ A N D base (λ_ h=>h) ⟨af,.inl ⟨?_,rfl⟩⟩
   grind
 .refine A.mD (U:=[q]) N D (λax s1=>zJ (JK s1 ak.n' ak.ca)) ?_ ws;rintro _ w3 Z M d p3 am aa L W H B Q ⟨rfl,bn,ad,C,rfl,rfl⟩ H3;refine⟨rfl,item H3 H B Q W ?_ ?_ ?_⟩
  .grind
  .have e5:d.n=0:=by have:=congrArg FX.n C;exact this
   omega
  grind
def afm(s:ByteArray)(c:UInt8)(w:J):Sem.run V (callFunc vc #[.string s,.int .u8 (c.toNat:Int)]) w=.ok (.value (.int .i64 (Go.Lib.indexByte (bl s) c))) w:=by have d:=run_callFunc_indexByte (P:=V) (f:=vc) (fn:=(Tryz.prog.funcs[vc]?).getD default) (by kernel_rfl) (by kernel_rfl) (by kernel_rfl) (by kernel_rfl) (by kernel_rfl) #[.string s,.int .u8 (c.toNat:Int)] w;rw[d,Go.Lib.run_indexByteString];show Result.ok _ w=_;congr 4;simp
def HO(s:ByteArray)(c:UInt8)(w:J):ai V Gz #[.string s,.int .u8 (c.toNat:Int)] w λr d=>r=ae (.int .i64 (Go.Lib.indexByte (bl s) c))/\af w d:=by
 refine Ib.ok ?_;refine(show ai V Ge #[.string s,.int .u8 (c.toNat:Int)] w λr d=>r=ae (.int .i64 (Go.Lib.indexByte (bl s) c))/\w=d from ?_).mono ?_
 .exact Fu.ok ⟨_,w,afm s c w,rfl,rfl⟩
 .rintro r h ⟨rfl,rfl⟩;exact⟨_,rfl,rfl,Fr.refl _ _⟩
def kC(c:UInt8):Bool:=av (97<=c.toNat)&&av (c.toNat<=122)
def vq(c:UInt8):Bool:=av (32<=c.toNat)&&(av (c.toNat<=126)&&(!decide (c=39)&&!decide (c=92)))
def zQ(c:UInt8)(w:J):ai V Qk #[.int .u8 (c.toNat:Int)] w λr h=>r=ae (.bool (kC c))/\af w h:=by
 refine Ua.ok (aF (λd=>⟨?_,Fr.refl _ _⟩) (λd=>⟨?_,Fr.refl _ _⟩))
 .unfold kC;rw[aR (show 97<=c.toNat by omega),Bool.true_and];rw[show av ((c.toNat:Int)<=122)=av (c.toNat<=122)from decide_eq_decide.2 co]
 .unfold kC;rw[aW (show ¬97<=c.toNat by omega),Bool.false_and]
def WA(c:UInt8)(n:Nat)(d:n<256):((c.toNat:Int)==(n:Int))=av (c=db n):=by
 have e:c.toNat=n↔c=db n:=by rw[<-UInt8.toNat_inj,UInt8.toNat_ofNat'];omega
 rw[Bool.eq_iff_iff,beq_iff_eq,decide_eq_true_iff,<-e];omega
def JV(c:UInt8)(w:J):ai V Qh #[.int .u8 (c.toNat:Int)] w λr x=>r=ae (.bool (vq c))/\af w x:=by
 have h:((c.toNat:Int) !=39)= !decide (c=39):=by have:=WA c 39 co;show(!((c.toNat:Int)==((39:Nat):Int)))=_;rw[this];rfl
 have j:((c.toNat:Int) !=92)= !decide (c=92):=by have:=WA c 92 co;show(!((c.toNat:Int)==((92:Nat):Int)))=_;rw[this];rfl
 refine T6.ok ?_;rw[h,j];unfold vq;refine aF (λk=>?_) (λk=>⟨?_,Fr.refl _ _⟩)
 .rw [aR (show 32<=c.toNat by omega),Bool.true_and];refine aF (λq=>?_) (λq=>⟨?_,Fr.refl _ _⟩)
  .rw [aR (show c.toNat<=126 by omega),Bool.true_and];refine bT (λd=>⟨?_,Fr.refl _ _⟩) (λd=>⟨?_,Fr.refl _ _⟩)
   .rw [d,Bool.true_and]
   .rw [d,Bool.false_and]
  .rw [aW (show ¬c.toNat<=126 by omega),Bool.false_and]
 .rw [aW (show ¬32<=c.toNat by omega),Bool.false_and]
def Yq{s:ByteArray}{l:List UInt8}(h:bl s=l)(i:Nat):s[i]? =l[i]?:=by
 subst h;by_cases d:i<s.size
 .rw [getElem?_pos s i d,a' (by rw[dY];exact d)];rfl
 .rw [getElem?_neg s i d,List.getElem?_eq_none (by rw[dY];omega)]
def mh{s:ByteArray}{i:Nat}(h:i<s.size):s[i]? =some ((bl s).getD i 0):=by
 rw[Yq (s:=s) (l:=bl s) rfl i];have d:i<(bl s).length:=by rw[dY];exact h
 rw[List.getD_eq_getElem?_getD,a' d];rfl
def qJ:List UInt8:=[48,49,50,51,52,53,54,55,56,57,97,98,99,100,101,102]
def abw(a b:Int):UInt8:=db (aj .u8 (n8 .i64 (aj .i64 (a *2^4)) b)).toNat
def kQ(l:List UInt8)(i:Nat):Option (UInt8×Nat):=
 if i+2<l.length/\l.getD i 0=39/\vq (l.getD (i+1) 0)=true/\l.getD (i+2) 0=39 then some (l.getD (i+1) 0,3)
 else if i+3<l.length/\l.getD i 0=92/\l.getD (i+1) 0=120/\0<=Go.Lib.indexByte qJ (l.getD (i+2) 0)/\0<=Go.Lib.indexByte qJ (l.getD (i+3) 0)then some (abw (Go.Lib.indexByte qJ (l.getD (i+2) 0)) (Go.Lib.indexByte qJ (l.getD (i+3) 0)),4)
 else none
def EM:Option (UInt8×Nat)->aa
 |none=>.tuple #[.int .u8 0,.int .i64 0,.bool false]
 |some (b,n)=>.tuple #[.int .u8 (b.toNat:Int),.int .i64 (n:Int),.bool true]
def Cd{x:UInt8}{n:Nat}{A B:Prop}(j:n<256)(d:x=db n->A)(h:x≠db n->B):bA ((x.toNat:Int)==(n:Int)) A B:=j4 j d h
def ahf(x:Int):((db (aj .u8 x).toNat).toNat:Int)=aj .u8 x:=by rw[UInt8.toNat_ofNat',IntKind.wrap_u8];omega
def DU(s:ByteArray)(i:Nat)(hi:i<=1000000)(w:J):ai V P9 #[.string s,.int .i64 (i:Int)] w λr d=>r=ae (EM (kQ (bl s) i))/\af w d:=by
 have F:aj .i64 ((i:Int)+1)=((i+1:Nat):Int):=by rw[aQ _ co];omega
 have G:aj .i64 ((i:Int)+2)=((i+2:Nat):Int):=by rw[aQ _ co];omega
 have N:aj .i64 ((i:Int)+3)=((i+3:Nat):Int):=by rw[aQ _ co];omega
 have T:(bl s).length=s.size:=dY s;have q:¬(i+2<(bl s).length/\(bl s).getD i 0=39/\vq ((bl s).getD (i+1) 0)=true/\(bl s).getD (i+2) 0=39)->∀d,af w d->BB.S0 s i d (λr d=>r=ae (EM (kQ (bl s) i))/\af w d):=by
  intro H d k;have no:¬(i+3<(bl s).length/\(bl s).getD i 0=92/\(bl s).getD (i+1) 0=120/\0<=Go.Lib.indexByte qJ ((bl s).getD (i+2) 0)/\0<=Go.Lib.indexByte qJ ((bl s).getD (i+3) 0))->∀d,af w d->BB.S1 d (λr d=>r=ae (EM (kQ (bl s) i))/\af w d):=λQ d k=>by refine⟨?_,k⟩;unfold kQ;rw[ag H,ag Q];rfl
  show bA _ _ _;rw[N,G,F];refine aF (λP=>⟨co,_,mh (i:=i) co,Cd (n:=92) co (λj=>⟨co,_,mh (i:=i+1) co,Cd (n:=120) co (λD=>?_) (λD=>no (λh=>D h.2.2.1) d k)⟩) (λj=>no (λh=>j h.2.1) d k)⟩) (λP=>no (λh=>co) d k);refine(show LH F0 w d [] []from((LH.start (M:=F0) (w:=w) [] ws).bz k)).dr λE K=>⟨co,_,mh (i:=i+2) co,co,_,mh (i:=i+3) co,K.call (HO _ _ _) ?_⟩;rintro _ U rfl L;refine⟨_,rfl,L.call (HO _ _ _) ?_⟩;rintro _ I rfl y;refine⟨_,rfl,?_⟩;show bA (av (Go.Lib.indexByte qJ _>=0)) (bA (av (Go.Lib.indexByte qJ _>=0)) _ _) _;refine aF (λA=>aF (λB=>⟨?_,y.fr⟩) (λB=>no (λh=>B h.2.2.2.2) I y.fr)) (λA=>no (λh=>A h.2.2.2.1) I y.fr);unfold kQ;rw[ag H,au ⟨co,j,D,A,B⟩];exact congrArg (λS=>Ending.returned (.tuple #[.int .u8 S,.int .i64 4,.bool true])) (ahf _).symm
 refine BB.ok ?_;rw[G,F];refine aF (λO=>⟨co,_,mh (i:=i) co,Cd (n:=39) co (λj=>⟨co,_,mh (i:=i+1) co,(JV _ w).mono ?_⟩) (λj=>q (λh=>j h.2.1) w (Fr.refl _ _))⟩) (λO=>q (λh=>co) w (Fr.refl _ _));rintro _ E ⟨rfl,z⟩;refine⟨_,rfl,bT (λx=>⟨co,_,mh (i:=i+2) co,Cd (n:=39) co (λC=>⟨co,_,mh (i:=i+1) co,?_,z⟩) (λC=>q (λh=>C h.2.2.2) E z)⟩) (λx=>q (λh=>by rw[h.2.2.1]at x;cases x) E z)⟩;unfold kQ;rw[au ⟨co,j,x,C⟩];rfl
end Go.Proofs.YtnaglpcbkhjpnabGreatDoor
end
