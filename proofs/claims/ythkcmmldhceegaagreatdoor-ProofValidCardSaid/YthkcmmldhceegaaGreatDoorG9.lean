import Derived.Test.YthkcmmldhceegaaGreatDoorN0
import Derived.Test.YthkcmmldhceegaaGreatDoorU
import Derived.Laws.StandIn
import Derived.Lib.BufferWrite
import Derived.Lib.UnsafeStr
set_option linter.unusedVariables false
set_option linter.defProp false
namespace Go.Proofs.YthkcmmldhceegaaGreatDoor
open Go renaming World->C,Calls->ah,Value->ab,TypeId->aF,Ending->cQ
open Go.IntKind renaming wrap->ad
open _root_.Int renaming toNat->ae,tdiv->bE,tmod->bw,toNat_natCast->bT
open _root_.ByteArray renaming mk->av
open Go.IntWalk renaming i64_in->bf
open Go.Builtin renaming append_->bg
open Go.Sem renaming run->a'
open _root_.Bool renaming and_eq_true->bC
open _root_.Nat renaming le_refl->b',le_trans->bB,lt_of_lt_of_le->iI
open _root_.UInt8 renaming ofNat->dP
open Go.Proofs.Tryz renaming prog->V
open _root_.Decidable renaming decide->af
open Go.Ending renaming returned->U
open List renaming mem_append->a6,mem_cons->ay,not_mem_nil->aW,mem_of_getElem?->aE,getElem?_eq_getElem->a9,mem_map->dv,length_take->g4,mem_cons_of_mem->eb,mem_cons_self->oI,getElem?_map->jk,take_add_one->eI,take_of_length_le->g6
open Go Go.W
def ka:gJ V bI aL (.agg #[.int .i64 0,.int .u8 0,.int .u8 0,.slice none 0 0]) 4 40:=⟨by kernel_rfl,by kernel_rfl,rfl,by decide,by decide⟩
def Aj(w:C):ah V mr #[] w λr h=>fL w eH r h/\aj w h:=by
 refine Hn.aB w _ ((bN [] (by simp)).aN λb u j=>j.cB (n:=1) (sz:=4) (cs:=ch.c) rfl (by decide) λy k=>k.ak λx e=>⟨⟨.mk 6 0 0 ⟨some (ag u.heap.size),1,1⟩ [ch],rfl,rfl,?_,λq d=>?_⟩,e.fr⟩)
 .unfold I.P I.Ps I.Ps;exact⟨(e.get 1:aG _ _ _ _ _).bh,jQ x,trivial⟩
 .unfold I.fp I.bm I.bm at d;rcases a6.1 d with d|d
  .exact (e.new _ (aE (i:=1) rfl) q (gi d)).resolve_right id
  .rcases a6.1 d with d|d
   .exact (jR d).elim
   grind
def gS(r:I):List I->List I
 |[]=>[r]
 |c::p=>if br c.rx r.rx<0 then c::gS r p else if br c.rx r.rx=0 then c::p else r::c::p
def Kj(r:I):∀l:List I,(gS r l).map I.rx=ko r.rx (l.map I.rx)
 |[]=>rfl
 |c::p=>by
  unfold gS;rw[List.map_cons];unfold ko;split
  .rw [List.map_cons,Kj r p]
  grind
def yv{t r:I}:∀{p:List I},t∈gS r p->t=r\/t∈p
 |[],c=>by unfold gS at c;grind
 |d::p,c=>by
  unfold gS at c;split at c
  .rcases ay.1 c with rfl|c
   .simp
   .rcases yv c with c|c<;>simp[c]
  grind
def Kg(r:I):∀l:List I,I.bc (gS r l)<=r.sz+I.bc l
 |[]=>by show r.sz+0<=r.sz+0;omega
 |c::p=>by
  unfold gS;split
  .have:=Kg r p;show c.sz+I.bc (gS r p)<=r.sz+(c.sz+I.bc p);omega
  .split
   .omega
   .exact b' _
def Kf{r:I}:∀{l:List I} {k:Nat},k<=l.length->(∀e t,e<k->l[e]? =some t->br t.rx r.rx<0)->(∀t,l[k]? =some t->¬br t.rx r.rx<0)->
  (∀t,l[k]? =some t->br t.rx r.rx=0->gS r l=l)/\((∀t,l[k]? =some t->br t.rx r.rx≠0)->gS r l=l.take k++r::l.drop k)
 |[],k,j,c,d=>⟨λt q=>by grind,λ_=>by simp[gS]⟩
 |h::p,0,j,c,d=>by
  have:=d h rfl;unfold gS
  grind
 |h::p,k+1,j,c,d=>by
  have w:=c 0 h (by omega) rfl;have x:=Kf (r:=r) (l:=p) (k:=k) (by grind) (λe t u n=>c (e+1) t (by omega) (by grind)) (λt n=>d t (by grind));unfold gS
  grind
def Ko{w:C}{s:J}{l:List I}(h:bF 4 w s (l.flatMap I.c))(a b:Nat)(d:a<=b)(e:b<=l.length):bF 4 w (mH 4 s a b) (((l.take b).drop a).flatMap I.c):=by have j:=I.cu h;have:=h.sub a b d (by omega);rw[G4,Ha _ _ (by grind)]at this;omega
abbrev bR(s:J)(l:List I):I:=.mk 0 0 0 s l
def Fp(c:List Nat)(w:C)(l:List I)(r:cQ)(w':C):Prop:=∃s:J,r=U s.v/\(bR s l).P w'/\∀b∈(bR s l).fp,w.heap.size<=b\/b∈c
def dx{w:C}{s:J}{l:List I}:(bR s l).P w↔bF 4 w s (l.flatMap I.c)/\I.Ps w l:=by
 unfold bR I.P
 grind
def kQ{s:J}{l:List I}{b:Nat}:b∈(bR s l).fp↔b∈(I.row s l).fp\/b∈I.bm l:=by
 unfold bR I.fp
 grind
def OQ(s:J)(l:List I)(r:I)(w:C)(hl:I.bc l<=100000)(hr:r.sz<=100000)(px:(bR s l).P w)(pr:r.P w):
  ah V Cg #[s.v,r.v] w λT x=>Fp ((bR s l).fp++r.fp) w (gS r l) T x/\aj w x:=by
 have nr:=I.cu (dx.1 px).1;have ll:=I.fI l
 let R:aa:=λT x=>Fp ((bR s l).fp++r.fp) w (gS r l) T x/\aj w x
 have fin:∀(k:Nat) (sl:J) (L:List En) (i:Nat) (e:C),k<=l.length->gS r l=l.take k++r::l.drop k->L[i]? =some (.row aL 4 sl ((l.take k++[r]).flatMap I.c))->Z F0 w e L [.tree (bR s l),.tree r]->
   n3.be s (k:Int) sl e R:=by
  intro k sl L i e z Q ai j;have aq:(bR s l).P e:=j.getD 0;have S:=Ko (dx.1 aq).1 k l.length z (b' _);rw[List.take_length]at S;have ao:aG e aL 4 sl ((l.take k++[r]).flatMap I.c):=j.get i ai;have ab:=I.cu ao.bh;have av:(l.take k++[r]).length=k+1:=by grind
  refine⟨by omega,by omega,?_⟩;obtain⟨F,x,H,h2,h3⟩:=j.ep (bs:=[]) i (ty:=bI) (K:=λF x=>∃L',L'[i]? =some (.row aL 4 F ((gS r l).flatMap I.c))/\Z F0 w x L' [.tree (bR s l),.tree r]) ka (src:=mH 4 s k l.length) (news:=(l.drop k).flatMap I.c) ai S (rn _) (by show(sl.n+(l.length - k)) *40<=_;omega) (λF x H'=>⟨_,by
   grind,H'⟩)
  obtain⟨L',g1,G⟩:=h3;have e1:(ae (k:Int))=k:=rfl;refine⟨F,x,by rw[e1,nr];exact H,⟨F,rfl,dx.2 ⟨(G.get i g1:aG _ _ _ _ _).bh,I.iE λt D=>?_⟩,λb O=>?_⟩,G.fr⟩
  .rcases yv D with rfl|D
   .exact G.getD 1
   .exact (dx.1 (G.getD 0)).2.mem D
  .rcases kQ.1 O with O|O
   .exact .inl ((G.new _ (aE g1) b (gi O)).resolve_right id)
   .obtain ⟨t,D,am⟩:=I.bX.1 O;rcases yv D with rfl|D
    .grind
    .exact .inr (List.mem_append_left _ (kQ.2 (.inr (I.bX.2 ⟨t,D,am⟩))))
 have s2:∀(k:Nat) (h:Nat) (e:C),k<=l.length->gS r l=l.take k++r::l.drop k->Z F0 w e [.g h] [.tree (bR s l),.tree r]->n3.aY s h r.k r.lo.toNat r.hi.toNat r.s (k:Int) e R:=by
  intro k h e z Q j;have au:s.n<=s.c:=(dx.1 (show(bR s l).P e from j.getD 0)).1.2.1;have al:∀x:C,(bR s l).P x->bF 4 x (mH 4 s 0 k) ((l.take k).flatMap I.c):=λx af=>Ko (dx.1 af).1 0 k (by omega) z;have e1:(ae (k:Int))=k:=rfl;refine⟨by omega,by omega,j.ak λy q=>?_,j.ak λy q=>?_⟩
  .refine (q.gP aL 4).ep 1 ka (s:=⟨none,0,0⟩) (xs:=[]) (src:=mH 4 s 0 k) (news:=(l.take k).flatMap I.c) rfl (al y (q.getD 0)) (rn _) (by show(0+(k - 0)) *40<=_;omega) (λF M u=>?_);have u:Z F0 w M [.g h,.row aL 4 F ((l.take k).flatMap I.c)] [.tree (bR s l),.tree r]:=u;have ab:=I.cu (u.get 1:aG _ _ _ _ _).bh;rw[g4]at ab;refine u.hL 1 ka (xs:=(l.take k).flatMap I.c) rfl (λad w4 N=>?_) (by omega);refine fin k ad _ 1 w4 z Q ?_ N;show some _=some _;rw[lr];rfl
  .refine q.cB (n:=1) (sz:=4) (cs:=r.c) rfl (by decide) λM u=>?_;refine(u.gP aL 4).ep 2 ka (s:=⟨none,0,0⟩) (xs:=[]) (src:=mH 4 s 0 k) (news:=(l.take k).flatMap I.c) rfl (al M (u.getD 0)) (rn _) (by show(0+(k - 0)) *40<=_;omega) (λF w4 N=>?_);have N:Z F0 w w4 [.g h,.row aL 4 ⟨some (ag y.heap.size),1,1⟩ r.c,.row aL 4 F ((l.take k).flatMap I.c)] [.tree (bR s l),.tree r]:=N;have ab:=I.cu (N.get 2:aG _ _ _ _ _).bh;rw[g4]at ab;refine N.ep 2 ka (xs:=(l.take k).flatMap I.c) (src:=⟨some (ag y.heap.size),1,1⟩) (news:=r.c) rfl (N.get 1:aG _ _ _ _ _).bh (λar hu=>rn [r] ar (by grind)) (by grind) (λad w5 H5=>?_);refine fin k ad _ 2 w5 z Q ?_ H5
   grind
 have s1:∀(k:Nat) (h:Nat) (e:C),k<=l.length->(∀E t,E<k->l[E]? =some t->br t.rx r.rx<0)->(∀t,l[k]? =some t->¬br t.rx r.rx<0)->Z F0 w e [.g h] [.tree (bR s l),.tree r]->n3.aZ s h r.k r.lo.toNat r.hi.toNat r.s (k:Int) e R:=by
  intro k h e z H h2 j;obtain⟨g1,G⟩:=Kf z H h2;refine aQ (λan=>?_) (λan=>j.ak λy q=>s2 k h y z (G λt D=>by grind) q);have A:l[k]? =some l[k]:=a9 (by omega);generalize l[k]'(by omega)=t at A;have W:=aE A;refine⟨by omega,by omega,I.di (dx.1 (show(bR s l).P e from j.getD 0)).1 A λp S _=>j.ak λy q=>?_⟩;have Y:(bR s l).P y:=q.getD 0;have B:=I.again (dx.1 Y).1 A S;refine⟨_,_,_,_,B.c0,B.c1,B.c2,B.c3,q.ax (pq t r y (by have:=I.eG W;omega) ((dx.1 Y).2.mem W) (q.getD 1)) ?_⟩;rintro _ M rfl u;refine⟨_,rfl,aJ (λh0=>⟨⟨s,rfl,?_,λb O=>.inr ?_⟩,u.fr⟩) (λh0=>s2 k h M z (G λt' ac=>by grind) u)⟩
  .rw [g1 t A h0];exact u.getD 0
  grind
 have loop:∀(d k:Nat) (h:Nat) (e:C),k+d=l.length->(∀E t,E<k->l[E]? =some t->br t.rx r.rx<0)->Z F0 w e [.g h] [.tree (bR s l),.tree r]->n3.aH s h r.k r.lo.toNat r.hi.toNat r.s (k:Int) e R:=by
  intro d;induction d with
  |zero=>
   intro k h e z H j;exact n3.bD _ _ _ _ _ _ _ _ _ (bb (a2 (by omega)) (j.ak λy q=>s1 k h y (by omega) H (λt D=>by grind) q))
  |succ d ap=>
   intro k h e z H j;have A:l[k]? =some l[k]:=a9 (by omega);generalize l[k]'(by omega)=t at A;have W:=aE A;refine n3.bD _ _ _ _ _ _ _ _ _ (a8 (a0 (by omega)) ⟨by omega,by omega,I.di (dx.1 (show(bR s l).P e from j.getD 0)).1 A λp S _=>j.ak λy q=>?_⟩);have Y:(bR s l).P y:=q.getD 0;have B:=I.again (dx.1 Y).1 A S;refine⟨_,_,_,_,B.c0,B.c1,B.c2,B.c3,q.ax (pq t r y (by have:=I.eG W;omega) ((dx.1 Y).2.mem W) (q.getD 1)) ?_⟩;rintro _ M rfl u;refine⟨_,rfl,aQ (λh0=>?_) (λh0=>s1 k h M (by omega) H (λt' ac=>by grind) u)⟩;rw[bA _ (by omega)];refine ap (k+1) h M (by omega) (λE t' hq ac=>?_) u;by_cases T:E=k
   .grind
   .exact H E t' (by omega) ac
 exact n3.aB _ _ _ _ _ w _ ((bN [.tree (bR s l),.tree r] (by
  intro T Q;simp only[ay,aW,a3]at Q;rcases Q with rfl|rfl
  .exact px
  .exact pr)).aN λh e H1=>loop l.length 0 h e (by omega) (λE t af=>by omega) H1)
def DF(k:Int)(t:Rx):∀(l out:List Rx),gR k out (l++[t])=if k=3 then gR k out l++[t]else ko t (gR k out l)
 |[],out=>by show gR k (if k=3 then out++[t]else ko t out) []=_;unfold gR;rfl
 |a::l,out=>by show gR k (if k=3 then out++[a]else ko a out) (l++[t])=_;rw[DF k t l];rfl
def VC(x c:I)(q:x.k=3\/x.k=4\/x.k=5)(h:c.rx=eH):∃(j:Nat) (u e:I),ad .i64 (x.k - 3)=(j:Int)/\j<3/\[ft,ch,c][j]? =some u/\[ch,c,ch][j]? =some e/\(u=ft\/u=ch\/u=c)/\(e=ch\/e=c)/\u.rx≠e.rx/\
  hq (.mk x.k 0 0 (I.au x.l))=gB x.k (I.au x.l) u.rx e.rx:=by
 rcases q with n|n|n<;>rw[n]
 .exact ⟨0,ft,ch,by decide,by decide,rfl,rfl,.inl rfl,.inl rfl,(by intro d;cases d),rfl⟩
 .exact ⟨1,ch,c,by decide,by decide,rfl,rfl,.inr (.inl rfl),.inr rfl,(by rw[h];intro d;cases d),by rw[h];rfl⟩
 .exact ⟨2,c,ch,by decide,by decide,rfl,rfl,.inr (.inr rfl),.inl rfl,(by rw[h];intro d;cases d),by rw[h];rfl⟩
section
variable {x ev u z:I} {sf:J} {w:C} {b4 b8 b9:Nat}
def T0(hx:x.sz<=10000)(aW:ev.rx=eH)(a3:∀b∈ev.fp,w.heap.size<=b)(hu:u=ft\/u=ch\/u=ev)(aB:z=ch\/z=ev)(aK:u.rx≠z.rx)(av:hq (.mk x.k 0 0 (I.au x.l))=gB x.k (I.au x.l) u.rx z.rx){j:C}(H:Z F0 w j [.g b4,.g b8,.g b9] [.tree x,.tree ev,.tree (bR sf (x.l.flatMap (eV x)))]):
  hU.fW x.k b4 0 0 0 ⟨none,0,0⟩ sf b8 u.k u.lo.toNat u.hi.toNat u.s b9 z.k z.lo.toNat z.hi.toNat z.s ⟨none,0,0⟩ 0 j λr A=>fX x.fp w (hq (.mk x.k 0 0 (I.au x.l))) r A/\aj w A:=by
 let R:aa:=λr A=>fX x.fp w (hq (.mk x.k 0 0 (I.au x.l))) r A/\aj w A
 have az:Sub x (x.l.flatMap (eV x)):=Sub.flat λ_ ab=>ab;have aH:I.bc (x.l.flatMap (eV x))<=I.bc x.l:=sP x x.l;have ah:((x.l.flatMap (eV x)).map I.rx).filter (λt=>!(br t u.rx==0))=gM x.k (I.au x.l) u.rx:=by rw[<-ue];unfold ga;rw[List.filter_map];rfl
 generalize x.l.flatMap (eV x)=fl at H az aH ah;have ao:=az;have aY:=I.h2 x;have aX:I.bc fl<=10000:=by omega
 have aZ:=I.fI fl;have nr:sf.n=fl.length:=I.cu (dx.1 (show(bR sf fl).P j from H.getD 2)).1;have ap:∀A,ev.P A->u.P A:=λA ab=>by
  rcases hu with rfl|rfl|rfl
  .exact wI A
  .exact jQ A
  omega
 have al:∀A,ev.P A->z.P A:=λA ab=>by
  rcases aB with rfl|rfl
  .exact jQ A
  omega
 have aI:∀b∈u.fp,w.heap.size<=b:=λb e=>by
  rcases hu with rfl|rfl|rfl
  .exact (wJ e).elim
  .exact (jR e).elim
  grind
 have aC:∀b∈z.fp,w.heap.size<=b:=λb e=>by
  rcases aB with rfl|rfl
  .exact (jR e).elim
  grind
 have ar:∀t∈fl,t.rx=z.rx->hq (.mk x.k 0 0 (I.au x.l))=z.rx:=λt ht ac=>by rw[av];unfold gB;rw[aA];rw[List.any_eq_true];refine⟨t.rx,?_,pA.2 ac⟩;rw[<-ah,List.mem_filter];exact⟨dv.2 ⟨t,ht,rfl⟩,GX.2 (ac▸λab=>aK ab.symm)⟩
 have aF:(∀t∈fl,t.rx≠z.rx)->hq (.mk x.k 0 0 (I.au x.l))=rK x.k u.rx (gR x.k [] ((fl.map I.rx).filter λt=>!(br t u.rx==0))):=λab=>by
  rw[av,Tm,ah];unfold gB;rw[aq]
  .rfl
  .rw [List.any_eq_true];rintro⟨t,ht,he⟩;rw[<-ah,List.mem_filter]at ht;obtain⟨t',y,rfl⟩:=dv.1 ht.1;exact ab t' y (pA.1 he)
 have fin:∀(h:List I) (q:J) (L D:List En) (j:C),(∀t∈fl,t.rx≠z.rx)->h.map I.rx=gR x.k [] ((fl.map I.rx).filter λt=>!(br t u.rx==0))->(∀t∈h,t∈fl)->Z F0 w j L (.tree x::.tree ev::D)->(∀b∈[b4,b8,b9],En.g b∈L)->(∀A,Z F0 w A L (.tree x::.tree ev::D)->bF 4 A q (h.flatMap I.c)/\∀b∈(I.row q h).fp,w.heap.size<=b\/b∈x.fp)->
   Y (((q.n:Nat):Int)==0) (loc [b4,b8,b9] j λaT=>R (U u.v) aT) (Y (((q.n:Nat):Int)==1) (aw q 0 λp=>bH j (p.add (ae 0 *4)) λa b F d=>loc [b4,b8,b9] j λaU=>R (U (.agg #[.i a,.int .u8 b,.int .u8 F,d.v])) aU) (loc [b4,b8,b9] j λaV=>R (U (.agg #[.i x.k,.int .u8 0,.int .u8 0,q.v])) aV)):=by
  intro h q L D j hz N W H e ay;have hr:=ay j H;have a7:=I.cu hr.1;have ej:=aF hz;rw[<-N]at ej;have ai:Sub x h:=ao.sub W;refine aJ (λT=>H.ak (λK B=>⟨⟨u,rfl,?_,ap K (B.getD 1),λb e=>.inl (aI b e)⟩,B.fr⟩) e) (λT=>aJ (λh1=>?_) (λh1=>H.ak (λK B=>⟨⟨.mk x.k 0 0 q h,rfl,?_,?_,λb e=>?_⟩,B.fr⟩) e))
  .have:h=[]:=List.length_eq_zero_iff.1 (by omega);rw[ej,this];rfl
  .obtain ⟨a,rfl⟩:=List.length_eq_one_iff.1 (show h.length=1 by omega);refine⟨by omega,by omega,I.di hr.1 (i:=0) (t:=a) rfl λp O F=>⟨_,_,_,_,F.c0,F.c1,F.c2,F.c3,H.ak (λK B=>⟨⟨a,rfl,?_,ai.P _ (B.getD 0) a (by simp),λb e=>.inr (ai.fp a (by simp) b e)⟩,B.fr⟩) e⟩⟩;rw[ej];rfl
  .rw [ej];unfold I.rx;rw[I.fy];cases h with
   |nil=>grind
   |cons a ks=>
    cases ks with
    |nil=>grind
    |cons b ks=>rfl
  .unfold I.P;exact⟨(ay K B).1,ai.Ps (B.getD 0)⟩
  .unfold I.fp at e;rcases a6.1 e with e|e
   .grind
   .exact .inr (ai.bm e)
 have aM:x.k=3->∀(d i:Nat) (q:J) (h:List I) (j:C),i+d=fl.length->(∀t∈fl.take i,t.rx≠z.rx)->h.map I.rx=gR x.k [] (((fl.take i).map I.rx).filter λt=>!(br t u.rx==0))->(∀t∈h,t∈fl)->I.bc h<=I.bc (fl.take i)->
   Z F0 w j [.g b4,.g b8,.g b9,.row aL 4 q (h.flatMap I.c)] [.tree x,.tree ev,.tree (bR sf fl)]->hU.fW x.k b4 0 0 0 ⟨none,0,0⟩ sf b8 u.k u.lo.toNat u.hi.toNat u.s b9 z.k z.lo.toNat z.hi.toNat z.s q (i:Int) j R:=by
  intro hk d;induction d with
  |zero=>
   intro i q h j am hz N W hs H;rw[g6 (by omega)]at hz N;refine hU.l7 _ _ _ _ _ _ _ _ _ _ _ _ _ _ _ _ _ _ _ _ _ (bb (a2 (by omega)) ?_);exact fin h q _ _ j hz N W H (by simp) (λA H'=>⟨(H'.get 3:aG _ _ _ _ _).bh,λb e=>.inl ((H'.new _ (aE (i:=3) rfl) b (gi e)).resolve_right id)⟩)
  |succ d ag=>
   intro i q h j am hz N W hs H;have E:fl[i]? =some fl[i]:=a9 (by omega);generalize fl[i]'(by omega)=t at E;have G:=aE E;have aS:=I.eG G;have ad:fl.take (i+1)=fl.take i++[t]:=by rw[eI,E];rfl
   have aQ:I.bc (fl.take (i+1))=I.bc (fl.take i)+t.sz:=by rw[ad,sO];rfl
   have aR:=yY fl (i+1);refine hU.l7 _ _ _ _ _ _ _ _ _ _ _ _ _ _ _ _ _ _ _ _ _ (a8 (a0 (by omega)) ⟨by omega,by omega,I.di (dx.1 (show(bR sf fl).P j from H.getD 2)).1 E λp O _=>H.ak λK B=>?_⟩);have p2:(bR sf fl).P K:=B.getD 2;have Q:=I.again (dx.1 p2).1 E O;refine⟨_,_,_,_,Q.c0,Q.c1,Q.c2,Q.c3,B.ax (pq t z K (by omega) ((dx.1 p2).2.mem G) (al K (B.getD 1))) ?_⟩;rintro _ w3 rfl H3;refine⟨_,rfl,aJ (λT=>H3.ak λw4 H4=>⟨⟨z,rfl,?_,al w4 (H4.getD 1),λb e=>.inl (aC b e)⟩,H4.fr⟩) (λT=>?_)⟩
   .exact (ar t G (tJ.1 T)).symm
   refine⟨by omega,by omega,I.di (dx.1 (show(bR sf fl).P w3 from H3.getD 2)).1 E λp O _=>H3.ak λw5 H5=>?_⟩;have p5:(bR sf fl).P w5:=H5.getD 2;have S:=I.again (dx.1 p5).1 E O;refine⟨_,_,_,_,S.c0,S.c1,S.c2,S.c3,H5.ax (pq t u w5 (by omega) ((dx.1 p5).2.mem G) (ap w5 (H5.getD 1))) ?_⟩;rintro _ w6 rfl M;have af:∀t'∈fl.take (i+1),t'.rx≠z.rx:=λt' y=>by
    rw[ad]at y;rcases a6.1 y with y|y
    .grind
    .simp at y;subst y;exact λac=>T (tJ.2 ac)
   refine⟨_,rfl,aJ (λh1=>?_) (λh1=>a8 (beq_iff_eq.2 hk) ?_)⟩
   .show hU.fW _ _ _ _ _ _ _ _ _ _ _ _ _ _ _ _ _ _ _ _ _;rw[bA _ (by omega)];refine ag (i+1) q h w6 (by omega) af ?_ W (by omega) M
    grind
   .have ef:((fl.take (i+1)).map I.rx).filter (λt=>!(br t u.rx==0))=(((fl.take i).map I.rx).filter λt=>!(br t u.rx==0))++[t.rx]:=by grind
    refine⟨by omega,by omega,I.di (dx.1 (show(bR sf fl).P w6 from M.getD 2)).1 E λp O F=>⟨_,_,_,_,F.c0,F.c1,F.c2,F.c3,?_⟩⟩;have a5:=I.cu (M.get 3:aG _ _ _ _ _).bh;have a1:=I.fI h;refine M.hL 3 ka (xs:=h.flatMap I.c) rfl (λs' w7 H7=>?_) (by omega);show hU.fW _ _ _ _ _ _ _ _ _ _ _ _ _ _ _ _ _ _ _ _ _;rw[bA _ (by omega)];refine ag (i+1) s' (h++[t]) w7 (by omega) af ?_ (λt' y=>?_) (by rw[sO];show _+(t.sz+0)<=_;omega) ?_
    .rw [ef,DF,aA hk,List.map_append,N];rfl
    .rcases a6.1 y with y|y
     .grind
     grind
    .rw [lr];exact H7
 have aN:x.k≠3->∀(d i:Nat) (q:J) (h:List I) (j:C),i+d=fl.length->(∀t∈fl.take i,t.rx≠z.rx)->h.map I.rx=gR x.k [] (((fl.take i).map I.rx).filter λt=>!(br t u.rx==0))->(∀t∈h,t∈fl)->I.bc h<=I.bc (fl.take i)->(∀b∈(bR q h).fp,w.heap.size<=b\/b∈x.fp)->
   Z F0 w j [.g b4,.g b8,.g b9] [.tree x,.tree ev,.tree (bR sf fl),.tree (bR q h)]->hU.fW x.k b4 0 0 0 ⟨none,0,0⟩ sf b8 u.k u.lo.toNat u.hi.toNat u.s b9 z.k z.lo.toNat z.hi.toNat z.s q (i:Int) j R:=by
  intro hk d;induction d with
  |zero=>
   intro i q h j am hz N W hs an H;rw[g6 (by omega)]at hz N;refine hU.l7 _ _ _ _ _ _ _ _ _ _ _ _ _ _ _ _ _ _ _ _ _ (bb (a2 (by omega)) ?_);exact fin h q _ _ j hz N W H (by simp) (λA H'=>⟨(dx.1 (show(bR q h).P A from H'.getD 3)).1,λb e=>an b (kQ.2 (.inl e))⟩)
  |succ d ag=>
   intro i q h j am hz N W hs an H;have E:fl[i]? =some fl[i]:=a9 (by omega);generalize fl[i]'(by omega)=t at E;have G:=aE E;have aS:=I.eG G;have ad:fl.take (i+1)=fl.take i++[t]:=by rw[eI,E];rfl
   have aQ:I.bc (fl.take (i+1))=I.bc (fl.take i)+t.sz:=by rw[ad,sO];rfl
   have aR:=yY fl (i+1);refine hU.l7 _ _ _ _ _ _ _ _ _ _ _ _ _ _ _ _ _ _ _ _ _ (a8 (a0 (by omega)) ⟨by omega,by omega,I.di (dx.1 (show(bR sf fl).P j from H.getD 2)).1 E λp O _=>H.ak λK B=>?_⟩);have p2:(bR sf fl).P K:=B.getD 2;have Q:=I.again (dx.1 p2).1 E O;refine⟨_,_,_,_,Q.c0,Q.c1,Q.c2,Q.c3,B.ax (pq t z K (by omega) ((dx.1 p2).2.mem G) (al K (B.getD 1))) ?_⟩;rintro _ w3 rfl H3;refine⟨_,rfl,aJ (λT=>H3.ak λw4 H4=>⟨⟨z,rfl,?_,al w4 (H4.getD 1),λb e=>.inl (aC b e)⟩,H4.fr⟩) (λT=>?_)⟩
   .exact (ar t G (tJ.1 T)).symm
   refine⟨by omega,by omega,I.di (dx.1 (show(bR sf fl).P w3 from H3.getD 2)).1 E λp O _=>H3.ak λw5 H5=>?_⟩;have p5:(bR sf fl).P w5:=H5.getD 2;have S:=I.again (dx.1 p5).1 E O;refine⟨_,_,_,_,S.c0,S.c1,S.c2,S.c3,H5.ax (pq t u w5 (by omega) ((dx.1 p5).2.mem G) (ap w5 (H5.getD 1))) ?_⟩;rintro _ w6 rfl M;have af:∀t'∈fl.take (i+1),t'.rx≠z.rx:=λt' y=>by
    rw[ad]at y;rcases a6.1 y with y|y
    .grind
    .simp at y;subst y;exact λac=>T (tJ.2 ac)
   refine⟨_,rfl,aJ (λh1=>?_) (λh1=>bb (by grind) ?_)⟩
   .show hU.fW _ _ _ _ _ _ _ _ _ _ _ _ _ _ _ _ _ _ _ _ _;rw[bA _ (by omega)];refine ag (i+1) q h w6 (by omega) af ?_ W (by omega) an M
    grind
   .have ef:((fl.take (i+1)).map I.rx).filter (λt=>!(br t u.rx==0))=(((fl.take i).map I.rx).filter λt=>!(br t u.rx==0))++[t.rx]:=by grind
    refine⟨by omega,by omega,I.di (dx.1 (show(bR sf fl).P w6 from M.getD 2)).1 E λp O F=>⟨_,_,_,_,F.c0,F.c1,F.c2,F.c3,?_⟩⟩;refine h7 ((OQ q h t w6 (by omega) (by omega) (M.getD 3) ((dx.1 (show(bR sf fl).P w6 from M.getD 2)).2.mem G)).mono ?_);rintro _ w7 ⟨⟨s',rfl,aP,aD⟩,f7⟩;refine⟨f7,?_⟩;have aO:∀b∈(bR s' (gS t h)).fp,w.heap.size<=b\/b∈x.fp:=λb e=>by
     rcases aD b e with e|e
     .exact .inl (bB M.fr.size e)
     .rcases a6.1 e with e|e
      .grind
      .exact .inr (ao.fp t G b e)
    have H8:Z F0 w w7 [.g b4,.g b8,.g b9] [.tree x,.tree ev,.tree (bR sf fl),.tree (bR q h),.tree (bR s' (gS t h))]:=M.gv _ f7 aP λb e=>by
     rcases aD b (a4.1 e)with e|e
     .omega
     .rcases a6.1 e with e|e
      .exact .inr (.inr ⟨_,aE (i:=3) rfl,a4.2 e⟩)
      .exact .inr (.inr ⟨_,aE (i:=0) rfl,a4.2 (ao.fp t G b e)⟩)
    refine⟨s',rfl,?_⟩;show hU.fW _ _ _ _ _ _ _ _ _ _ _ _ _ _ _ _ _ _ _ _ _;rw[bA _ (by omega)];refine ag (i+1) s' (gS t h) w7 (by omega) af ?_ (λt' y=>?_) (by have:=Kg t h;omega) aO (H8.forget _ (by simp))
    .rw [ef,DF,aq hk,Kj,N]
    .rcases yv y with rfl|y
     .exact G
     grind
 by_cases hk:x.k=3
 .exact aM hk fl.length 0 ⟨none,0,0⟩ [] j (by omega) (by simp) (by simp[gR]) (by simp) (by grind) (H.gP aL 4)
 .refine aN hk fl.length 0 ⟨none,0,0⟩ [] j (by omega) (by simp) (by simp[gR]) (by simp) (by grind) (λb e=>?_) (H.gv (.tree (bR ⟨none,0,0⟩ [])) (Fr.refl _ _) (dx.2 ⟨bF.nil 4 j,by unfold I.Ps;trivial⟩) λb e=>?_)
  .rcases kQ.1 e with e|e
   .simp [I.row,En.bh]at e
   .unfold I.bm at e;cases e
  .rcases kQ.1 (a4.1 e)with e|e
   .simp [I.row,En.bh]at e
   .unfold I.bm at e;cases e
end
def OX(x:I)(hk:3<=x.k/\x.k<=7)(hx:x.sz<=10000)(N:jJ (.mk x.k 0 0 (I.au x.l))=true)(aC:∀c∈x.l,0<=c.k)(w:C)(px:x.P w):
  ah V Cf #[.i x.k,x.s.v] w λr w'=>fX x.fp w (hq (.mk x.k 0 0 (I.au x.l))) r w'/\aj w w':=by
 have nr:=I.cu px.parts.1;have aU:=I.h2 x;have aO:=I.fI x.l;refine hU.aB _ _ w _ ((gE px).aN λG F H1=>H1.jF (Aj F) ?_);rintro _ w2 ⟨j,rfl,ae,aI,ap⟩ H2 F2;have H3:Z F0 w w2 [.g G] [.tree x,.tree j]:=F2.rd (.tree j) aI λb h=>ap b (a4.1 h);have aH:∀b∈j.fp,w.heap.size<=b:=λb h=>bB H1.fr.size (ap b h);have pc:∀{w':C} {c:I},x.P w'->x.l[0]? =some c->c.P w':=λab e=>ab.parts.2.mem (aE e);have fc:∀{c:I},x.l[0]? =some c->∀b∈c.fp,b∈x.fp:=λe b h=>I.gb.2 (.inr (I.bX.2 ⟨_,aE e,h⟩));refine⟨_,_,_,j.s,rfl,H3.aN λK w3 D=>aJ (λY=>?_) (λY=>aJ (λh7=>?_) (λh7=>D.ak λM A=>?_))⟩
 .
  cases Q:x.l with
  |nil=>rw[Q,Y]at N;simp[jJ,I.au]at N
  |cons c B=>
   have e:x.l[0]? =some c:=by grind
   have n2:0<x.s.n:=by grind
   have e1:I.au (c::B)=c.rx::I.au B:=rfl;have ef:hq (.mk x.k 0 0 (I.au (c::B)))=oB 0 0 (c.rx::I.au B):=by rw[Y];rfl
   rw[ef];refine⟨by omega,by omega,I.di (show x.P w3 from D.getD 0).parts.1 e λp z _=>D.ak λw5 A=>?_⟩;have O:x.P w5:=A.getD 0;have u:=I.again O.parts.1 e z;refine⟨c.k,u.c0,aJ (λad=>⟨by omega,by omega,I.di O.parts.1 e λp z u=>⟨c.s,u.c3,?_⟩⟩) (λad=>A.ak λy q=>⟨⟨.mk 6 0 0 x.s x.l,rfl,?_,?_,λb h=>.inr ?_⟩,q.fr⟩)⟩
   .cases an:c.l with
    |nil=>
     rw[Q,e1]at N;have e2:c.rx.l.isEmpty=true:=by rw[vm,an];rfl
     simp[jJ,Y,kr,ad,e2]at N
    |cons d l2=>
     have af:c.l[0]? =some d:=by grind
     refine iV (pc O e) rfl af (A.ak λy q=>⟨⟨d,rfl,?_,(pc (q.getD 0) e).parts.2.mem (aE af),λb h=>.inr (fc e b (I.gb.2 (.inr (I.bX.2 ⟨d,aE af,h⟩))))⟩,q.fr⟩);show d.rx=if c.rx.k=6 then _ else _;rw[aA (by rw[kr,ad]),vm,an];rfl
   .show Rx.mk 6 0 0 (I.au x.l)=if c.rx.k=6 then _ else _;rw[aq (by rw[kr];omega),Q,e1]
   .unfold I.P;exact(show x.P y from q.getD 0).parts
   .unfold I.fp at h;exact I.gb.2 (a6.1 h)
 .
  cases Q:x.l with
  |nil=>rw[Q,h7]at N;simp[jJ,I.au]at N
  |cons c B=>
   have e:x.l[0]? =some c:=by grind
   have n2:0<x.s.n:=by grind
   have e1:I.au (c::B)=c.rx::I.au B:=rfl;have ef:hq (.mk x.k 0 0 (I.au (c::B)))=kv 0 0 (c.rx::I.au B):=by rw[h7];rfl
   rw[ef];have ar:kv 0 0 (c.rx::I.au B)=if c.k=0\/c.k=1 then mg else if c.k=7\/br c.rx eH=0 then c.rx else .mk 7 0 0 (c.rx::I.au B):=by unfold kv;simp only[kr]
   have aK:c.sz<=1000000:=by have:=I.eG (aE e);omega
   have s0:∀(y:C),¬(c.k=0\/c.k=1)->(c.k=7\/br c.rx eH=0)->Z F0 w y [.g G,.g K] [.tree x,.tree j]->hU.aS x.s G 0 0 0 ⟨none,0,0⟩ y λr w'=>fX x.fp w (kv 0 0 (c.rx::I.au B)) r w'/\aj w w':=by
    intro y h1 ac q;refine⟨by omega,by omega,I.di (show x.P y from q.getD 0).parts.1 e λp z u=>⟨_,_,_,_,u.c0,u.c1,u.c2,u.c3,(q.take 1).ak λw7 E=>⟨⟨c,rfl,?_,pc (E.getD 0) e,λb h=>.inr (fc e b h)⟩,E.fr⟩⟩⟩
    grind
   refine⟨by omega,by omega,I.di (show x.P w3 from D.getD 0).parts.1 e λp z _=>D.ak λw5 A=>?_⟩;have O:x.P w5:=A.getD 0;have u:=I.again O.parts.1 e z;have aM:0<=c.k:=aC c (aE e);refine⟨c.k,u.c0,aQ (λac=>A.ak λy q=>⟨⟨ft,rfl,?_,wI y,λb h=>(wJ h).elim⟩,q.fr⟩) (λac=>?_)⟩
   .rw [ar,aA (by omega)];rfl
   refine⟨by omega,by omega,I.di O.parts.1 e λp z _=>A.ak λy q=>?_⟩;have ai:x.P y:=q.getD 0;have u:=I.again ai.parts.1 e z;refine⟨c.k,u.c0,aJ (λam=>s0 y (by omega) (.inl am) q) (λam=>⟨by omega,by omega,I.di ai.parts.1 e λp z u=>⟨_,_,_,_,u.c0,u.c1,u.c2,u.c3,q.ax (pq c j y aK (pc ai e) (q.getD 1)) ?_⟩⟩)⟩;rintro _ w7 rfl E;rw[ae];refine⟨_,rfl,aJ (λh0=>s0 w7 (by omega) (.inr h0) E) (λh0=>E.ak λw8 W=>⟨⟨.mk 7 0 0 x.s x.l,rfl,?_,?_,λb h=>.inr ?_⟩,W.fr⟩)⟩
   .show Rx.mk 7 0 0 (I.au x.l)=_
    grind
   .unfold I.P;exact(show x.P w8 from W.getD 0).parts
   .unfold I.fp at h;exact I.gb.2 (a6.1 h)
 .
  have av:x.k=3\/x.k=4\/x.k=5:=by omega
  obtain⟨aW,a1,a3,ew,hj,gu,gz,hu,aF,aD,aw⟩:=VC x j av ae;have loop:∀(d i:Nat) (acc:List I) (S:J) (F:C),i+d=x.l.length->acc=(x.l.take i).flatMap (eV x)->Z F0 w F [.g G,.g K,.row aL 4 S (acc.flatMap I.c)] [.tree x,.tree j]->
    hU.bO x.k x.s G 0 0 0 ⟨none,0,0⟩ K j.k j.lo.toNat j.hi.toNat j.s S (i:Int) F λr w'=>fX x.fp w (hq (.mk x.k 0 0 (I.au x.l))) r w'/\aj w w':=by
   intro d;induction d with
   |zero=>
    intro i acc S F ay ha H;rw[g6 (by omega)]at ha;subst ha;have ao:Sub x (x.l.flatMap (eV x)):=Sub.flat λ_ ab=>ab;have T:=(H.gv (.trees (x.l.flatMap (eV x))) (Fr.refl _ _) (ao.Ps (H.getD 0)) (λb h=>.inr (.inr ⟨_,aE (i:=0) rfl,a4.2 (ao.bm (a4.1 h))⟩))).qw 2 2 0 0 0;have T:Z F0 w F [.g G,.g K] [.tree x,.tree j,.tree (bR S (x.l.flatMap (eV x)))]:=T.forget _ (by simp);refine hU.eh _ _ _ _ _ _ _ _ _ _ _ _ _ _ _ _ (bb (a2 (by omega)) ?_);refine T.cB (n:=3) (sz:=4) (cs:=[ft,ch,j].flatMap I.c) rfl (by decide) λw2 H2=>?_;rw[ew];refine⟨by omega,by omega,I.di (s:=⟨some (ag F.heap.size),3,3⟩) (l:=[ft,ch,j]) (H2.get 2:aG _ _ _ _ _).bh gu λp z c=>⟨_,_,_,_,c.c0,c.c1,c.c2,c.c3,H2.aN λb8 w3 H3=>H3.ak λM D=>D.cB (n:=3) (sz:=4) (cs:=[ch,j,ch].flatMap I.c) rfl (by decide) λw5 A=>⟨by omega,by omega,I.di (s:=⟨some (ag M.heap.size),3,3⟩) (l:=[ch,j,ch]) (A.get 4:aG _ _ _ _ _).bh gz λp z c=>⟨_,_,_,_,c.c0,c.c1,c.c2,c.c3,A.aN λb9 y q=>q.ak λw7 E=>?_⟩⟩⟩⟩;have W:=((E.freeze 1 (.g K) rfl (E.get 1) λb h=>h).freeze 1 _ rfl (E.get 2) λb h=>h).freeze 2 _ rfl (E.get 4) λb h=>h;exact T0 hx ae aH hu aF aD aw (W.forget _ (by simp))
   |succ d aV=>
    intro i acc S F ay ha H;have e:x.l[i]? =some (x.l[i]'(by omega)):=a9 (by omega);generalize x.l[i]'(by omega)=a at e;have hm:=aE e;have aa:x.P F:=H.getD 0;have aZ:=I.eG hm;have aT:I.bc acc<=I.bc x.l:=by
     have h1:=sP x (x.l.take i);have ac:=yY x.l i
     grind
    have aP:acc++eV x a=(x.l.take (i+1)).flatMap (eV x):=by rw[eI,e,List.flatMap_append,ha];simp
    have aX:=I.cu (H.get 2:aG _ _ _ _ _).bh;have az:=I.fI acc;have tail:∀(L:J) (w':C),Z F0 w w' [.g G,.g K,.row aL 4 L ((acc++eV x a).flatMap I.c)] [.tree x,.tree j]->hU.aY x.k x.s G 0 0 0 ⟨none,0,0⟩ K j.k j.lo.toNat j.hi.toNat j.s L (i:Int) w' λr w'=>fX x.fp w (hq (.mk x.k 0 0 (I.au x.l))) r w'/\aj w w':=by
     intro L w' T;show hU.bO _ _ _ _ _ _ _ _ _ _ _ _ _ _ _ _;rw[bA _ (by omega)]
     grind
    refine hU.eh _ _ _ _ _ _ _ _ _ _ _ _ _ _ _ _ (a8 (a0 (by omega)) ⟨by omega,by omega,I.di aa.parts.1 e λp z c=>⟨a.k,c.c0,aJ (λhk=>?_) (λhk=>?_)⟩⟩)
    .have pa:a.P F:=aa.parts.2.mem hm;have na:=I.cu pa.parts.1;have az:=I.fI a.l;have aR:=I.h2 a;refine⟨by omega,by omega,I.di aa.parts.1 e λp z c=>⟨a.s,c.c3,?_⟩⟩;refine H.ep 2 ka (xs:=acc.flatMap I.c) (src:=a.s) (news:=a.l.flatMap I.c) rfl pa.parts.1 (rn _) (by omega) (λL M D=>?_);refine tail L M ?_;have al:eV x a=a.l:=aA hk
     grind
    .refine ⟨by omega,by omega,I.di aa.parts.1 e λp z c=>⟨_,_,_,_,c.c0,c.c1,c.c2,c.c3,?_⟩⟩;refine H.hL 2 ka (xs:=acc.flatMap I.c) rfl (λL M D=>?_) (by omega);refine tail L M ?_;have al:eV x a=[a]:=aq hk;rw[al,lr];exact D
  exact loop x.l.length 0 [] ⟨none,0,0⟩ M (by omega) rfl (A.gP aL 4)
def uX(k:Int):Rx:=if k=3 then mg else if k=4 then fx else eH
def zX(k:Int):Rx:=if k=4 then eH else fx
mutual
def NF:Rx->Prop
 |.mk c lo e l=>l8 l/\(c≠2->lo=0/\e=0)/\(((c=0\/c=1)/\l=[])\/(c=2/\l=[]/\lo.toNat<=e.toNat)\/
   ((c=3\/c=4\/c=5)/\2<=l.length/\(c≠3->iK l)/\∀t∈l,t.k≠c/\t≠uX c/\t≠zX c)\/
   (c=6/\∃d,l=[d]/\d.k≠6)\/(c=7/\∃d,l=[d]/\d.k≠0/\d.k≠1/\d.k≠7/\d≠eH))
def l8:List Rx->Prop
 |[]=>True
 |a::l=>NF a/\l8 l
end
def tg:∀{l:List Rx},l8 l↔∀t∈l,NF t
 |[]=>by unfold l8;simp
 |a::l=>by unfold l8;rw[tg];simp
def uV:NF fx:=by unfold fx NF l8;simp
def Dp:NF mg:=by unfold mg NF l8;simp
def Jt:NF eH:=by unfold eH NF l8 l8;refine⟨⟨uV,trivial⟩,by simp,.inr (.inr (.inr (.inl ⟨rfl,fx,rfl,by decide⟩)))⟩
def SC(k:Int):NF (uX k):=by
 unfold uX;split
 .exact Dp
 .split
  .exact uV
  .exact Jt
def SD(k:Int):NF (zX k):=by
 unfold zX;split
 .exact Jt
 .exact uV
def Ju{x:Rx}(h:NF x):∀t∈x.l,NF t:=by cases x;unfold NF at h;exact tg.1 h.1
def Sy{x:Rx}{k:Int}(j:k=3\/k=4\/k=5)(h:NF x)(c:x.k=k):2<=x.l.length/\(k≠3->iK x.l)/\∀t∈x.l,t.k≠k/\t≠uX k/\t≠zX k:=by
 cases x with
 |mk d lo e l=>
  have c:d=k:=c;subst c;unfold NF at h;obtain⟨-,-,h|h|h|h|h⟩:=h
  .omega
  .omega
  .exact h.2
  .omega
  .omega
def Qn{k:Int}{l:List Rx}{u t:Rx}:t∈gM k l u↔(∃c∈l,if c.k=k then t∈c.l else t=c)/\t≠u:=by
 unfold gM;rw[List.mem_filter,List.mem_flatMap,GX]
 grind
def Qo{k:Int}(q:k=3\/k=4\/k=5){l:List Rx}(h:∀c∈l,NF c){t:Rx}(u:t∈gM k l (uX k)):NF t/\t.k≠k/\t≠uX k:=by
 obtain⟨⟨c,e,d⟩,n⟩:=Qn.1 u;split at d
 .rename_i j;exact⟨Ju (h c e) t d,((Sy q (h c e) j).2.2 t d).1,n⟩
 grind
def k0(k:Int)(l:List Rx):List Rx:=if k=3 then gM k l (uX k)else sE (gM k l (uX k))
def TX{k:Int}{l:List Rx}{t:Rx}:t∈k0 k l↔t∈gM k l (uX k):=by
 unfold k0;split
 .grind
 .exact Lj
def IE(k:Int)(l:List Rx):((gM k l (uX k)).any λt=>br t (zX k)==0)=true↔zX k∈gM k l (uX k):=by
 rw[List.any_eq_true];constructor
 .rintro ⟨t,d,c⟩;rw[pA.1 c]at d;exact d
 .exact λc=>⟨_,c,pA.2 rfl⟩
def IG{k:Int}{l:List Rx}(h:zX k∈gM k l (uX k)):gB k l (uX k) (zX k)=zX k:=by unfold gB;rw[aA ((IE k l).2 h)]
def IF{k:Int}{l:List Rx}(h:¬zX k∈gM k l (uX k)):gB k l (uX k) (zX k)=rK k (uX k) (k0 k l):=by unfold gB;rw[aq (λc=>h ((IE k l).1 c))];rfl
def Rj{k:Int}(n:k=3\/k=4\/k=5){l:List Rx}(h:∀u∈l,NF u):NF (gB k l (uX k) (zX k)):=by
 by_cases q:zX k∈gM k l (uX k)
 .rw [IG q];exact SD k
 .rw [IF q];have d:∀t∈k0 k l,NF t/\t.k≠k/\t≠uX k/\t≠zX k:=λt c=>by
   have c:=TX.1 c;obtain⟨w,y,e⟩:=Qo n h c
   grind
  have j:k≠3->iK (k0 k l):=λe=>by unfold k0;rw[aq e];exact Li _
  generalize k0 k l=m at d j;unfold rK;split
  .exact SC k
  .grind
  .rename_i x w;unfold NF;refine⟨tg.2 λt c=>(d t c).1,λ_=>⟨rfl,rfl⟩,.inr (.inr (.inl ⟨n,?_,j,λt c=>(d t c).2⟩))⟩;cases m with
   |nil=>grind
   |cons a m=>
    cases m with
    |nil=>grind
    |cons b m=>simp
def Bk{k:Int}(c:k=3\/k=4\/k=5)(lo hi:UInt8)(l:List Rx):hq (.mk k lo hi l)=gB k l (uX k) (zX k):=by rcases c with rfl|rfl|rfl<;>rfl
def SS{c:Rx}(h:NF c):NF (oB 0 0 [c]):=by
 unfold oB;simp only;split
 .rename_i d;split
  .exact uV
  .rename_i e m j;exact Ju h e (by grind)
 .rename_i d;unfold NF;exact⟨tg.2 λt k=>by grind,λ_=>⟨rfl,rfl⟩,.inr (.inr (.inr (.inl ⟨rfl,c,rfl,d⟩)))⟩
def US{c:Rx}(h:NF c):NF (kv 0 0 [c]):=by
 unfold kv;simp only;split
 .exact Dp
 .rename_i d;split
  .exact h
  .rename_i e;unfold NF;exact⟨tg.2 λt j=>by grind,λ_=>⟨rfl,rfl⟩,.inr (.inr (.inr (.inr ⟨rfl,c,rfl,λh=>d (.inl h),λh=>d (.inr h),λh=>e (.inl h),λh=>e (.inr (tJ.2 h))⟩)))⟩
def pS{k:Int}{lo hi:UInt8}{l:List Rx}(h:cM (.mk k lo hi l)=true):dX l=true/\(k≠2->lo=0/\hi=0)/\(((k=0\/k=1)/\l=[])\/(k=2/\l=[]/\lo.toNat<=hi.toNat)\/(k=3\/k=4\/k=5)\/((k=6\/k=7)/\∃j,l=[j])):=by
 unfold cM at h;rw[bC]at h;obtain⟨n,c⟩:=h;have e:k≠2->lo=0/\hi=0:=λd=>by grind
 split at c
 .rename_i d;have:l=[]:=by grind
  subst this;exact⟨rfl,e,.inl ⟨d,rfl⟩⟩
 .split at c
  .rename_i d;simp only[bC,decide_eq_true_eq]at c;have:l=[]:=by grind
   subst this;exact⟨rfl,e,.inr (.inl ⟨d,rfl,c.2⟩)⟩
  .split at c
   .grind
   .split at c
    .rename_i d;simp only[bC]at c;exact⟨c.2,e,.inr (.inr (.inr ⟨d,List.length_eq_one_iff.1 (eq_of_beq c.1)⟩))⟩
    grind
def SB{lo hi:UInt8}(h:lo.toNat<=hi.toNat):NF (.mk 2 lo hi []):=by
 unfold NF l8
 grind
mutual
def JE:∀j:Rx,cM j=true->NF (dN j)
 |.mk y lo x l,n=>by
  obtain⟨q,d,u⟩:=pS n;have h:=Du l q;unfold dN;rcases u with⟨c,rfl⟩|⟨rfl,rfl,w⟩|c|⟨c,k,rfl⟩
  .obtain ⟨rfl,rfl⟩:=d (by omega);rcases c with rfl|rfl
   .exact uV
   .exact Dp
  .exact SB w
  .rw [Bk c];exact Rj c h
  .obtain ⟨rfl,rfl⟩:=d (by omega);have e:NF (dN k):=h _ (by unfold e7;simp);rcases c with rfl|rfl
   .exact SS e
   .exact US e
def Du:∀l:List Rx,dX l=true->∀t∈e7 l,NF t
 |[],_=>λt c=>by unfold e7 at c;cases c
 |a::l,d=>λt c=>by
  unfold dX at d;rw[bC]at d;unfold e7 at c;rcases ay.1 c with rfl|c
  .exact JE a d.1
  .exact Du l d.2 t c
end
section
variable {μ:Rx->Nat}
def Jk(p:Rx->Bool):∀l:List Rx,ms μ (l.filter p)<=ms μ l
 |[]=>b' _
 |a::l=>by
  have c:=Jk p l;rw[List.filter_cons];split
  .show μ a+_<=μ a+_;omega
  .show _<=μ a+_;omega
def uz:∀{l:List Rx} {a:Rx},a∈l->μ a<=ms μ l
 |b::l,a,c=>by
  rcases ay.1 c with rfl|c
  .show μ a<=μ a+_;omega
  .have:=uz c;show μ a<=μ b+_;omega
def Jl(h:∀c,1<=μ c):∀l:List Rx,l.length<=ms μ l
 |[]=>b' _
 |a::l=>by have:=Jl h l;have:=h a;show l.length+1<=μ a+ms μ l;omega
def Jj:∀(l:List Rx) (p:Rx),ms μ (jG p l)<=ms μ l
 |[],p=>b' _
 |c::l,p=>by
  have:=Jj l c;unfold jG;split
  .show _<=μ c+ms μ l;omega
  .show μ c+_<=μ c+ms μ l;omega
def Sk(l:List Rx):ms μ (sE l)<=ms μ l:=by
 have c:ms μ (pB (jW l))<=ms μ (jW l):=by
  cases jW l with
  |nil=>exact b' _
  |cons a m=>have:=Jj (μ:=μ) m a;show μ a+_<=μ a+_;omega
 rw[<-Sj (Em l)];exact c
def B0(h:∀d,ms μ d.l<=μ d)(k:Int):∀l:List Rx,ms μ (l.flatMap λc=>if c.k=k then c.l else[c])<=ms μ l
 |[]=>b' _
 |c::l=>by
  have j:=B0 h k l;have e:=h c;rw[List.flatMap_cons,Ji];show _<=μ c+ms μ l;split
  .omega
  .show (μ c+0)+_<=_;omega
def Jm(h:∀d,ms μ d.l<=μ d)(k:Int)(l:List Rx):ms μ (k0 k l)<=ms μ l:=by
 have c:ms μ (gM k l (uX k))<=ms μ l:=bB (Jk _ _) (B0 h k l);unfold k0;split
 .exact c
 .exact bB (Sk _) c
end
def Ex:∀l:List Rx,Rx.bc l=ms Rx.sz l
 |[]=>rfl
 |a::l=>by unfold Rx.bc;rw[Ex l];rfl
def nG(k:Int)(lo hi:UInt8)(l:List Rx):(Rx.mk k lo hi l).sz=1+ms Rx.sz l:=by unfold Rx.sz;rw[Ex]
def L4(x:Rx):ms Rx.sz x.l<=x.sz:=by cases x;rw[nG];simp only[Rx.l];omega
def BY(x:Rx):ms du x.l<=du x:=by cases x;rw[p9];simp only[Rx.l];omega
def R8(x:Rx):1<=du x:=by cases x;rw[p9];omega
mutual
def I9:∀c:Rx,du c<=c.sz
 |.mk e lo d l=>by rw[p9,nG];have:=Ja l;omega
def Ja:∀l:List Rx,ms du l<=ms Rx.sz l
 |[]=>b' _
 |a::l=>by have c:=I9 a;have d:=Ja l;show du a+ms du l<=a.sz+ms Rx.sz l;omega
end
def IH{k:Int}{l:List Rx}{P:Rx->Prop}(h:P (zX k))(n:P (uX k))(d:∀a,a∈k0 k l->P a)(e:P (.mk k 0 0 (k0 k l))):P (gB k l (uX k) (zX k)):=by
 by_cases c:zX k∈gM k l (uX k)
 .rw [IG c];exact h
 .rw [IF c];generalize j:k0 k l=m at d e;unfold rK
  grind
def MG(k:Int):(uX k).sz<=2/\(zX k).sz<=2/\du (uX k)=1/\du (zX k)=1:=by
 unfold uX zX;refine⟨?_,?_,?_,?_⟩
 .split
  .decide
  .split<;>decide
 .split<;>decide
 .split
  .decide
  .split<;>decide
 .split<;>decide
def JK{k:Int}{c:Rx}(e:k=6\/k=7){P:Rx->Prop}(h:P fx)(j:P mg)(q:P c)(u:∀d∈c.l,P d)(n:P (.mk k 0 0 [c])):P (hq (.mk k 0 0 [c])):=by
 rcases e with rfl|rfl
 .show P (oB 0 0 [c]);unfold oB
  grind
 .show P (kv 0 0 [c]);unfold kv
  grind
mutual
def Ds:∀j:Rx,cM j=true->(dN j).sz<=2 *j.sz
 |.mk e lo q l,w=>by
  obtain⟨x,n,y⟩:=pS w;have h:=yi l x;have B:=nG e lo q l;rw[B];unfold dN;rcases y with⟨d,rfl⟩|⟨rfl,rfl,E⟩|d|⟨d,c,rfl⟩
  .obtain ⟨rfl,rfl⟩:=n (by omega);rcases d with rfl|rfl<;>decide
  .show (Rx.mk 2 lo q []).sz<=_;omega
  .rw [Bk d];have F:=Jm (μ:=Rx.sz) L4 e (e7 l);obtain⟨G,H,-,-⟩:=MG e;refine IH (P:=λk=>k.sz<=2 *(1+ms Rx.sz l)) (by omega) (by omega) (λa z=>?_) ?_
   .have:=uz (μ:=Rx.sz) z;omega
   .show (Rx.mk e 0 0 _).sz<=_;rw[nG];omega
  .obtain ⟨rfl,rfl⟩:=n (by omega);have u:e7 [c]=[dN c]:=rfl;rw[u]at h ⊢;have h:(dN c).sz+0<=2 *(c.sz+0):=h;show _<=2 *(1+(c.sz+0));refine JK (P:=λk=>k.sz<=2 *(1+(c.sz+0))) d (by show(1:Nat)<=_;omega) (by show(1:Nat)<=_;omega) (by omega) (λD A=>?_) ?_
   .have:=uz (μ:=Rx.sz) A;have:=L4 (dN c);omega
   .show (Rx.mk e 0 0 _).sz<=_;rw[nG];simp only[ms];omega
def yi:∀l:List Rx,dX l=true->ms Rx.sz (e7 l)<=2 *ms Rx.sz l
 |[],_=>b' _
 |a::l,c=>by unfold dX at c;rw[bC]at c;have d:=Ds a c.1;have e:=yi l c.2;show(dN a).sz+ms Rx.sz (e7 l)<=2 *(a.sz+ms Rx.sz l);omega
end
mutual
def SQ:∀j:Rx,cM j=true->du (dN j)<=du j
 |.mk e lo q l,w=>by
  obtain⟨x,n,y⟩:=pS w;have h:=Dt l x;have B:=p9 e lo q l;rw[B];unfold dN;rcases y with⟨d,rfl⟩|⟨rfl,rfl,E⟩|d|⟨d,c,rfl⟩
  .obtain ⟨rfl,rfl⟩:=n (by omega);rcases d with rfl|rfl<;>decide
  .show du (Rx.mk 2 lo q [])<=_;omega
  .rw [Bk d];have F:=Jm (μ:=du) BY e (e7 l);obtain⟨-,-,G,H⟩:=MG e;refine IH (P:=λk=>du k<=max 1 (ms du l)) (by omega) (by omega) (λa z=>?_) ?_
   .have:=uz (μ:=du) z;omega
   .show du (Rx.mk e 0 0 _)<=_;rw[p9];omega
  .obtain ⟨rfl,rfl⟩:=n (by omega);have u:e7 [c]=[dN c]:=rfl;rw[u]at h ⊢;have h:du (dN c)+0<=du c+0:=h;show _<=max 1 (du c+0);refine JK (P:=λk=>du k<=max 1 (du c+0)) d (by show(1:Nat)<=_;omega) (by show(1:Nat)<=_;omega) (by omega) (λD A=>?_) ?_
   .have:=uz (μ:=du) A;have:=BY (dN c);omega
   .show du (Rx.mk e 0 0 _)<=_;rw[p9];simp only[ms];omega
def Dt:∀l:List Rx,dX l=true->ms du (e7 l)<=ms du l
 |[],_=>b' _
 |a::l,c=>by unfold dX at c;rw[bC]at c;have d:=SQ a c.1;have e:=Dt l c.2;show du (dN a)+ms du (e7 l)<=du a+ms du l;omega
end
def H4{N:Nat}{k:Int}{lo hi:UInt8}{l:List Rx}(h:cM (.mk k lo hi l)=true)(B:(Rx.mk k lo hi l).sz<=10000)(n:m' N (.mk k lo hi l)):ql N (.mk k lo hi (e7 l))=true:=by
 obtain⟨d,H,w⟩:=pS h;have O:=yi l d;have M:=Dt l d;rw[nG]at B;unfold m' at n;unfold ql;rw[bC,bC];refine⟨⟨?_,a0 (by rw[nG];omega)⟩,?_⟩
 .unfold jJ;rw[bC,bC];refine⟨⟨a0 (by omega),a0 (by omega)⟩,?_⟩;rcases w with⟨e,rfl⟩|⟨e,rfl,L⟩|e|⟨e,c,rfl⟩
  .grind
  .grind
  .grind
  .show (!(k==6&&(dN c).k==6&&(dN c).l.isEmpty))=true;have y:cM c=true:=by
    unfold dX at d
    grind
   have j:=JE c y;generalize dN c=F at j;cases F with
   |mk q E A D=>
    by_cases u:q=6
    .unfold NF at j;obtain⟨-,-,h|h|h|⟨_,G,z,_⟩|h⟩:=j
     .omega
     .omega
     .omega
     .rw [z];simp[Rx.l]
     .omega
    .have:(Rx.k (.mk q E A D)==6)=false:=by simpa[Rx.k]using u
     grind
 .show af (k=4\/k=5->sg k (e7 l)<=N)=true;refine a0 λx=>?_;have I:=Jl R8 ((e7 l).flatMap λc=>if c.k=k then c.l else[c]);have J:=B0 (μ:=du) BY k (e7 l);have K:=n.2 x;show((e7 l).flatMap λc=>if c.k=k then c.l else[c]).length<=N;omega
mutual
def HZ{N:Nat}:∀c:Rx,cM c=true->c.sz<=10000->m' N c->n8 N c=true
 |.mk n lo k l,e,h,d=>by obtain⟨j,-,-⟩:=pS e;unfold n8;rw[H4 e h d,Bool.and_true];rw[nG]at h;unfold m' at d;exact H0 l j (by omega) d.1
def H0{N:Nat}:∀l:List Rx,dX l=true->ms Rx.sz l<=10000->pP N l->pQ N l=true
 |[],_,_,_=>rfl
 |a::l,c,e,d=>by unfold dX at c;rw[bC]at c;unfold pP at d;have e:a.sz+ms Rx.sz l<=10000:=e;unfold pQ;rw[HZ a c.1 (by omega) d.1,H0 l c.2 (by omega) d.2];rfl
end
set_option maxRecDepth 100000
set_option maxHeartbeats 2000000
namespace Kr
noncomputable abbrev X:Fx:=⟨V,Tryz.f135,[(4,ls [1,0,2,3,4,5,6,7])],[1,2]⟩
def aB(e j k:Int)(n:J)(w:C)(R:aa)(h:aP [] w λc H=>
 aP [c] H λd M=>
 bG [c,d] xQ #[.agg #[.i e,.int .u8 j,.int .u8 k,n.v]] M λq u=>Y (q !=0) (loc [c,d] u λN=>R (U (.tuple #[.agg #[.i 0,.int .u8 0,.int .u8 0,.slice none 0 0],.i q])) N) (loc [c,d] u λO=>Pt [c,d] CO #[] O λt11 P=>eT [c,d] uP #[.map t11,.agg #[.i e,.int .u8 j,.int .u8 k,n.v]] P λx y z A I=>tE [c,d] CP #[.agg #[.i x,.int .u8 y,.int .u8 z,A.v]] I λB D E F G K=>loc [c,d] K λL=>R (U (.tuple #[.agg #[.i B,.int .u8 D,.int .u8 E,F.v],.i G])) L)):ah V xP #[.agg #[.i e,.int .u8 j,.int .u8 k,n.v]] w R:=aM X [] h
end Kr
def Sz{x:Rx}(h:NF x):0<=x.k:=by cases x;unfold NF at h;simp only[Rx.k];omega
def SR{x:Rx}(h:cM x=true)(c:x.k<3):dN x=x:=by
 cases x with
 |mk e lo u l=>
  have w:e<3:=c;clear c;obtain⟨n,q,d⟩:=pS h;rcases d with⟨c,rfl⟩|⟨rfl,rfl,y⟩|c|⟨c,j,rfl⟩
  .rcases c with rfl|rfl<;>rfl
  .rfl
  .omega
  .omega
abbrev Ns(n:Nat):Prop:=∀(x:I) (w:C),x.sz<=n->cM x.rx=true->x.P w->ah V qd #[x.v] w λr c=>fX x.fp w (dN x.rx) r c/\aj w c
def Gv:∀D:Nat,D<=1000->Ns D
 |0,_=>λe u ad _ _=>absurd ad (by have:=I.k4 e;omega)
 |D+1,hn=>λe u ad ae af=>by
  have ih:=Gv D (by omega);have hs:=I.h2 e;have hl:=I.fI e.l;have nr:=I.cu af.parts.1;refine tZ.aB _ _ _ _ u _ ((gE af).aN λE n H1=>H1.aN λF Q w=>aQ (λhk=>w.ak λS x=>⟨⟨e,rfl,(SR ae (by rw[kr];exact hk)).symm,x.getD 0,λb h=>.inr h⟩,x.fr⟩) (λhk=>?_));have K:=ae;rw[I.e9]at K;obtain⟨L,ap,ay⟩:=pS K;obtain⟨aa,Y⟩:=ap (by omega);have ai:dN e.rx=hq (.mk e.k 0 0 (e7 (I.au e.l))):=by rw[I.e9,aa,Y];unfold dN;rfl
  have loop:∀(d i:Nat) (acc:List I) (j:J) (n:C),i+d=e.l.length->I.au acc=e7 (I.au (e.l.take i))->(∀b∈I.bm acc,u.heap.size<=b\/b∈e.fp)->
    Z F0 u n [.g E,.g F,.row aL 4 j (acc.flatMap I.c)] [.tree e,.trees acc]->
    tZ.aH E e.k e.lo.toNat e.hi.toNat e.s F 0 0 0 ⟨none,0,0⟩ j (i:Int) n λr w'=>fX e.fp u (dN e.rx) r w'/\aj u w':=by
   intro d;induction d with
   |zero=>
    intro i acc j n an y H q;rw[g6 (by omega)]at y;have aq:∀b∈(I.row j acc).fp,u.heap.size<=b:=λb h=>(q.new _ (aE (i:=2) rfl) b (gi h)).resolve_right id;have T:Z F0 u n [.g E,.g F] [.tree e,.trees acc,I.row j acc,.tree (.mk e.k 0 0 j acc)]:=q.qw 2 1 e.k 0 0;have ab:Rx.mk e.k 0 0 (I.au acc)=.mk e.k 0 0 (e7 (I.au e.l)):=by rw[y]
    have av:(Rx.mk e.k e.lo e.hi (I.au e.l)).sz<=10000:=by rw[<-I.e9,I.eF];omega
    have M:=H4 (N:=100000) K av (Be _ (by have ao:∀ag:Rx,du ag<=ag.sz:=I9;have:=ao (Rx.mk e.k e.lo e.hi (I.au e.l));omega))
    unfold ql at M;rw[bC,bC]at M;have ar:(I.mk e.k 0 0 j acc).sz<=10000:=by have z:=I.eF (I.mk e.k 0 0 j acc);have ax:=yi (I.au e.l) L;have h3:=I.vn e.l;rw[Ex]at h3;rw[<-z];show(Rx.mk e.k 0 0 (I.au acc)).sz<=_;rw[ab,nG];omega
    have am:jJ (.mk e.k 0 0 (I.au acc))=true:=by rw[ab];have:=M.1.1;rw[aa,Y]at this;exact this
    refine tZ.bD _ _ _ _ _ _ _ _ _ _ _ _ _ _ (bb (a2 (by omega)) ?_);refine T.px (OX (.mk e.k 0 0 j acc) ⟨by show 3<=e.k;omega,by show e.k<=7;omega⟩ ar am (λW hc=>?_) n (T.getD 3)) (λb h=>⟨_,aE (i:=3) rfl,a4.2 h⟩) λt Q O w G=>?_
    .have al:W.rx∈e7 (I.au e.l):=by rw[<-y,I.fy];exact dv.2 ⟨W,hc,rfl⟩
     have:=Sz (Du (I.au e.l) L _ al)
     rwa[kr]at this
    refine⟨_,_,_,t.s,rfl,w.ak λS x=>⟨⟨t,rfl,?_,x.getD 4,λb h=>?_⟩,x.fr⟩⟩
    .rw [O,ai];show hq (Rx.mk e.k 0 0 (I.au acc))=_;rw[y]
    .rcases G b h with h|h
     .exact .inl (bB q.fr.size h)
     .unfold I.fp at h;rcases a6.1 h with h|h
      .exact .inl (aq b h)
      .exact H b h
   |succ d aw=>
    intro i acc j n an y H q;have A:e.l[i]? =some (e.l[i]'(by omega)):=a9 (by omega);generalize e.l[i]'(by omega)=a at A;have B:=aE A;have aC:=I.eG B;have ga:cM a.rx=true:=Ie L (by rw[I.fy];exact dv.2 ⟨a,B,rfl⟩);have ac:∀b∈a.fp,b∈e.fp:=λb h=>I.gb.2 (.inr (I.bX.2 ⟨a,B,h⟩));refine tZ.bD _ _ _ _ _ _ _ _ _ _ _ _ _ _ (a8 (a0 (by omega)) (iV (show e.P n from q.getD 0) rfl A ?_));refine q.px (ih a n (by omega) ga ((show e.P n from q.getD 0).parts.2.mem B)) (λb h=>⟨_,aE (i:=0) rfl,a4.2 (ac b h)⟩) λt Q O w G=>?_;have aA:=I.cu (w.get 2:aG _ _ _ _ _).bh;have az:acc.length=i:=by have z:=congrArg List.length y;rw[I.fy,qj,I.fy]at z;simp only[List.length_map,g4]at z;omega
    refine⟨_,_,_,t.s,rfl,w.hL 2 ka (xs:=acc.flatMap I.c) rfl (λs' S x=>?_) (by omega)⟩;have ah:=(x.qA 1 2).take 3;rw[bA _ (by omega)];refine aw (i+1) (acc++[t]) s' S (by omega) ?_ (rN H λb h=>?_) ?_
    .rw [jm,y,eI,A,Option.toList_some,jm,qj,qj,List.map_append];show _++[t.rx]=_;rw[O];rfl
    .rcases G b h with h|h
     .exact .inl (bB q.fr.size h)
     .exact .inr (ac b h)
    .rw [lr];exact ah.forget _ (by simp)
  exact loop e.l.length 0 [] ⟨none,0,0⟩ Q (by omega) rfl (λb h=>by unfold I.bm at h;cases h) (JB (w.gP aL 4))
def Gu(x:I)(w:C)(h:x.sz<=1000)(d:cM x.rx=true)(e:x.P w):ah V qd #[x.v] w λr c=>fX x.fp w (dN x.rx) r c/\aj w c:=Gv 1000 (b' _) x w h d e
def iC(x:Rx):Rx:=if jv x=0 then oq (dN x)else fx
def nu(x:Rx):Int:=if jv x=0 then oo (dN x)else jv x
def Fo(d:List Nat)(w:C)(x:Rx)(c:Int)(r:cQ)(w':C):Prop:=∃t:I,r=U (.tuple #[t.v,.int .i64 c])/\t.rx=x/\t.P w'/\∀b∈t.fp,w.heap.size<=b\/b∈d
def Oz(x:I)(w:C)(h:x.sz<=1000000)(u:x.P w):ah V Ce #[x.v] w λr k=>Fo x.fp w (oq x.rx) (oo x.rx) r k/\aj w k:=by
 refine Hs.aB _ _ _ _ w _ ((gE u).aN λA D n=>n.aN λB y e=>e.ax (Af x y h (e.getD 0)) ?_);rintro _ E rfl j;refine⟨_,rfl,aQ (λq=>j.ak λz c=>⟨⟨ch,?_,?_,jQ _,λb d=>(jR d).elim⟩,c.fr⟩) (λq=>j.ak λz c=>⟨⟨x,?_,?_,c.getD 0,λb d=>.inr d⟩,c.fr⟩)⟩
 .unfold oo;rw[I.eF,aA (by omega)];rfl
 .unfold oq;rw[I.eF,aA (by omega)];rfl
 .unfold oo;rw[I.eF,aq (by omega)]
 .unfold oq;rw[I.eF,aq (by omega)]
def OV(x:I)(w:C)(h:x.sz<=1000000)(M:x.P w):ah V B' #[x.v] w λr D=>Fo x.fp w (iC x.rx) (nu x.rx) r D/\aj w D:=by
 refine Ho.aB _ _ _ _ w _ ((gE M).aN λS Y F=>F.aN λT O q=>q.ax (OW x O h (q.getD 0)) ?_);rintro _ Q rfl e;unfold iC nu;refine⟨_,rfl,cD (λB=>e.ak λE d=>⟨⟨ch,?_,?_,jQ _,λb c=>(jR c).elim⟩,d.fr⟩) (λj=>?_)⟩
 .rw [aq B];rfl
 .rw [aq B];rfl
 obtain⟨A,J⟩:=EU j;have W:x.sz<=64:=by rw[<-I.eF];exact J
 rw[aA j,aA j];refine e.px (Gu x Q (by omega) A (e.getD 0)) (λb c=>⟨_,aE (i:=0) rfl,a4.2 c⟩) λt E k d H=>?_;have N:t.sz<=1000000:=by have:=Ds _ A;rw[<-I.eF,k];omega
 refine⟨_,_,_,t.s,rfl,h7 ((Oz t E N (d.getD 1)).mono ?_)⟩;rintro _ Z ⟨⟨n,rfl,K,L,z⟩,y⟩;have G:=d.gv (.tree n) y L λb c=>(z b (a4.1 c)).imp id λc=>.inr ⟨_,aE (i:=1) rfl,a4.2 c⟩;refine⟨y,_,_,_,n.s,_,rfl,G.ak λw6 u=>⟨⟨n,by rw[k],by rw[K,k],u.getD 2,λb c=>?_⟩,u.fr⟩⟩;rcases z b c with c|c
 .exact .inl (bB d.fr.size c)
 .exact (H b c).imp (λc=>bB e.fr.size c) id
def Og{N:Nat}(Q:q6 N)(O:N+1<=1000000)(x:I)(w:C)(h:x.sz<=1000000)(S:m' N x.rx)(aa:x.P w):ah V xP #[x.v] w λr E=>Fq w (iC x.rx) (nu x.rx) r E/\aj w E:=by
 refine Kr.aB _ _ _ _ w _ ((gE aa).aN λb1 w1 K=>K.aN λb2 w2 u=>u.ax (F6 x w2 h (u.getD 0)) ?_);rintro _ w3 rfl y;unfold iC nu;refine⟨_,rfl,cD (λD=>y.ak λF d=>⟨⟨ch,?_,?_,jQ _,λb c=>(jR c).elim⟩,d.fr⟩) (λk=>y.ak λF d=>d.jF (OD F) ?_)⟩
 .rw [aq D];rfl
 .rw [aq D];rfl
 rintro _ w5 ⟨G,rfl,M,Y,W⟩ _ H;have e:=H.rd (.fm G) Y W;obtain⟨B,hs⟩:=EU k;rw[aA k,aA k];refine⟨_,rfl,e.px (ON Q O M x w5 h (HZ _ B (by omega) S) (e.getD 1) (e.getD 0)) (λb c=>?_) λt w6 n j _=>?_⟩
 .rcases a6.1 c with c|c
  .exact ⟨_,aE (i:=0) rfl,a4.2 c⟩
  .exact ⟨_,aE (i:=1) rfl,c⟩
 have ab:t.sz<=1000000:=by have:=Ds _ B;rw[<-I.eF,n];omega
 refine⟨_,_,_,t.s,rfl,j.jF (OL t w6 ab (j.getD 2)) ?_⟩;rintro _ w7 ⟨q,rfl,T,Z,A⟩ _ J;have L:=J.rd (.tree q) Z λb c=>A b (a4.1 c);exact⟨_,_,_,q.s,_,rfl,L.ak λw8 z=>⟨⟨q,by rw[n],by rw[T,n],z.getD 3,λb c=>bB j.fr.size (A b c)⟩,z.fr⟩⟩
abbrev BL:=List UInt8
def gQ(s:BL)(i:Nat):UInt8:=s.getD i 0
def mz(c:UInt8):Bool:=af (32<=c.toNat)&&af (c.toNat<=126)&&!(c==39)&&!(c==92)
def eE(c:UInt8):Bool:=af (97<=c.toNat)&&af (c.toNat<=122)
def hn(n:Nat):UInt8:=dP (if n<10 then 48+n else 87+n)
def ie(c:UInt8):Int:=if 48<=c.toNat/\c.toNat<=57 then(c.toNat:Int) - 48 else if 97<=c.toNat/\c.toNat<=102 then(c.toNat:Int) - 87 else -1
def hl(s:BL)(at_:Nat):UInt8×Nat:=
 if(af (at_+3<=s.length)&&gQ s at_==39&&gQ s (at_+2)==39&&mz (gQ s (at_+1)))=true then(gQ s (at_+1),3)
 else if(af (at_+4<=s.length)&&gQ s at_==92&&gQ s (at_+1)==120&&af (0<=ie (gQ s (at_+2)))&&af (0<=ie (gQ s (at_+3))))=true then(dP ((16 *ie (gQ s (at_+2))+ie (gQ s (at_+3))).toNat),4)
 else(0,0)
structure dK where
 tx:BL
 at_:Nat
 k:Nat
 lo:UInt8
 hi:UInt8
structure zV where
 k:Nat
 lo:UInt8
 hi:UInt8
 n:Nat
def qi:zV:=⟨0,0,0,0⟩
def jl(s:BL)(i:Nat):zV:=
 let a:=hl s i
 if 0<a.2 then⟨2,a.1,a.1,a.2⟩else if gQ s i≠91 then qi else
 let b:=hl s (i+1)
 let dash:=i+1+b.2
 if b.2=0\/s.length<=dash\/gQ s dash≠45 then qi else
 let c:=hl s (dash+1)
 let fin:=dash+1+c.2
 if c.2=0\/s.length<=fin\/gQ s fin≠93\/c.1.toNat<b.1.toNat then qi else⟨2,b.1,c.1,fin+1 - i⟩
def mC(s:BL)(i:Nat):Nat->Nat->Nat
 |0,c=>c
 |f+1,c=>if(eE (gQ s i)&&af (i+c<s.length)&&eE (gQ s (i+c)))=true then mC s i f (c+1)else c
def nH(s:BL):Nat->Nat->List dK
 |0,_=>[⟨[],s.length,0,0,0⟩]
 |f+1,i=>if s.length<=i then[⟨[],s.length,0,0,0⟩]else if gQ s i=32 then nH s f (i+1)else
  let r:=jl s i
  let c:=if r.n=0 then mC s i s.length 1 else r.n
  ⟨(s.take (i+c)).drop i,i,r.k,r.lo,r.hi⟩::nH s f (i+c)
def lS(s:BL):List dK:=nH s (s.length+1) 0
abbrev bQ:=Nat×Bool
section
variable (l:List dK)
def fA(i:Nat):dK:=l.getD i ⟨[],0,0,0,0⟩
def fa(st:bQ):BL:=bif st.2 then[32]else(fA l st.1).tx
def eP(s:BL)(st:bQ):Bool×bQ:=bif fa l st==s then(true,bif s.isEmpty then st else(st.1+1,st.2))else(false,st)
def jP(s:BL)(st:bQ):bQ:=match eP l s st with
 |(true,st)=>st
 |(false,st)=>(st.1,true)
def wj(st:bQ):Bool:=!st.2&&!(fa l st==[])&&!(fa l st==[41])&&!(fa l st==[44])&&!(fa l st==[124])&&!(fa l st==[38])
def pT(k:Int):List Rx->Rx
 |[a]=>a
 |m=>.mk k 0 0 m
def lZ:Nat->BL
 |0=>[110,111,110,101]
 |1=>[101,109,112,116,121]
 |3=>[99,97,116]
 |4=>[97,108,116]
 |5=>[97,108,108]
 |_=>[]
def kz(st:bQ):Nat->Nat->Option Nat
 |0,_=>none
 |f+1,c=>bif Nat.beq c 2||!(fa l st==lZ c)then kz st f (c+1)else some c
mutual
def kf:Nat->bQ->Option (Rx×bQ)
 |0,_=>none
 |f+1,st=>match m5 f st with
  |some (a,st)=>ra f [a] st
  |none=>none
def ra:Nat->List Rx->bQ->Option (Rx×bQ)
 |0,_,_=>none
 |f+1,acc,st=>match eP l [124] st with
  |(true,st)=>match m5 f st with
   |some (a,st)=>ra f (acc++[a]) st
   |none=>none
  |(false,st)=>some (pT 4 acc,st)
def m5:Nat->bQ->Option (Rx×bQ)
 |0,_=>none
 |f+1,st=>match nE f st with
  |some (a,st)=>ri f [a] st
  |none=>none
def ri:Nat->List Rx->bQ->Option (Rx×bQ)
 |0,_,_=>none
 |f+1,acc,st=>match eP l [38] st with
  |(true,st)=>match nE f st with
   |some (a,st)=>ri f (acc++[a]) st
   |none=>none
  |(false,st)=>some (pT 5 acc,st)
def nE:Nat->bQ->Option (Rx×bQ)
 |0,_=>none
 |f+1,st=>match lB f st with
  |some (a,st)=>rT f [a] st
  |none=>none
def rT:Nat->List Rx->bQ->Option (Rx×bQ)
 |0,_,_=>none
 |f+1,acc,st=>bif wj l st then match lB f st with
   |some (a,st)=>rT f (acc++[a]) st
   |none=>none
  else some (pT 3 acc,st)
def lB:Nat->bQ->Option (Rx×bQ)
 |0,_=>none
 |f+1,st=>match eP l [33] st with
  |(true,st)=>match lB f st with
   |some (a,st)=>some (.mk 6 0 0 [a],st)
   |none=>none
  |(false,st)=>match pj f st with
   |some (a,st)=>vw f a st
   |none=>none
def vw:Nat->Rx->bQ->Option (Rx×bQ)
 |0,_,_=>none
 |f+1,a,st=>match eP l [42] st with
  |(true,st)=>vw f (.mk 7 0 0 [a]) st
  |(false,st)=>some (a,st)
def pj:Nat->bQ->Option (Rx×bQ)
 |0,_=>none
 |f+1,st=>bif !st.2&&Nat.beq (fA l st.1).k 2 then some (.mk 2 (fA l st.1).lo (fA l st.1).hi [],(st.1+1,st.2))else match kz l st 6 0 with
  |some c=>bif Nat.ble c 2 then some (.mk c 0 0 [],(st.1+1,st.2))else match pW f (st.1+1,st.2)with
   |some (m,st)=>some (.mk c 0 0 m,st)
   |none=>none
  |none=>let st:=jP l [40] st
   bif st.2 then some (fx,st)else match kf f st with
   |some (a,st)=>some (a,jP l [41] st)
   |none=>none
def pW:Nat->bQ->Option (List Rx×bQ)
 |0,_=>none
 |f+1,st=>match eP l [41] (jP l [40] st)with
  |(c,st)=>bif st.2||c then some ([],st)else match kf f st with
   |some (a,st)=>uy f [a] st
   |none=>none
def uy:Nat->List Rx->bQ->Option (List Rx×bQ)
 |0,_,_=>none
 |f+1,acc,st=>match eP l [44] st with
  |(true,st)=>match kf f st with
   |some (a,st)=>uy f (acc++[a]) st
   |none=>none
  |(false,st)=>some (acc,jP l [41] st)
end
end
def se(s:BL):Option (Rx×Nat×Int):=
 if 4096<s.length then some (fx,4096,4)else
 let l:=lS s
 match kf l 1000 (0,false)with
 |some (r,st)=>let st:=jP l [] st
  if st.2=true then some (fx,(fA l st.1).at_,2)else if 1000000<r.sz then none else if 64<r.sz then some (fx,s.length,4)else some (r,0,0)
 |none=>none
def dA(c:UInt8):BL:=if mz c=true then[39,c,39]else[92,120,hn (c.toNat / 16),hn (c.toNat%16)]
def cL:Rx->Nat
 |.mk c _ _ l=>if c=6 then 3 else if c<3\/c=7\/l.length<2 then 4 else if c=3 then 2 else if c=4 then 0 else 1
def cN(c:Nat)(a:Rx)(t:BL):BL:=if cL a<c then 40::(t++[41])else t
def qg(k:Int):BL:=if k=3 then[99,97,116,40]else if k=4 then[97,108,116,40]else[97,108,108,40]
def gG(k:Int):BL:=if k=3 then[]else if k=4 then[124]else[38]
def jN(t:BL):UInt8:=t.getLastD 0
def iP(k:Int):BL->List BL->BL
 |out,[]=>out
 |out,t::c=>iP k ((if k=3/\eE (jN out)=true/\eE (gQ t 0)=true then out++[32]else out)++gG k++t) c
def jf:List BL->BL
 |[]=>[]
 |t::_=>t
def w2(k:Int):List BL->BL
 |[]=>[]
 |t::c=>iP k t c
mutual
def bj:Rx->BL
 |.mk c lo d l=>if c=0 then[110,111,110,101]else if c=1 then[101,109,112,116,121]else
  if c=2 then(if lo=d then dA lo else 91::(dA lo++45::(dA d++[93])))else
  if c=6 then 33::jf (dq 3 l)else if c=7 then jf (dq 4 l)++[42]else
  if l.length<2 then qg c++(jf (dq 0 l)++[41])else
  w2 c (dq (cL (.mk c lo d l)+1) l)
def dq(c:Nat):List Rx->List BL
 |[]=>[]
 |a::l=>cN c a (bj a)::dq c l
end
mutual
def ih:Rx->Bool
 |.mk c _ _ l=>af (0<=c)&&af (c<=7)&&(af (c<6)||af (l.length=1))&&my l
def my:List Rx->Bool
 |[]=>true
 |a::l=>ih a&&my l
end
def mZ(s:BL):Option Bool:=match se s with
 |some (r,_,c)=>if c=0 then(if nu r=0 then(if ih (iC r)=true/\(iC r).sz<=1000 then some (cN 0 (iC r) (bj (iC r))==s)else none)else some false)else some false
 |none=>none
def yE(a b:UInt8):Rx:=.mk 2 a b []
def eR:Nat->Rx
 |0=>yE 97 97
 |1=>yE 98 98
 |2=>yE 0 0
 |3=>yE 97 98
 |4=>mg
 |_=>eH
def Bl(a b c:Rx):Nat->Rx
 |0=>a
 |1=>.mk 3 0 0 [a,b]
 |2=>.mk 4 0 0 [a,b,c]
 |3=>.mk 7 0 0 [a]
 |4=>.mk 3 0 0 [.mk 7 0 0 [a],b]
 |5=>.mk 6 0 0 [.mk 3 0 0 [a,b]]
 |6=>.mk 3 0 0 [b,.mk 7 0 0 [.mk 4 0 0 [a,c]]]
 |_=>.mk 5 0 0 [.mk 6 0 0 [b],.mk 3 0 0 [a,eH]]
def jY(k:Nat):BL:=bj (dN (Bl (eR (k%6)) (eR (k / 6%6)) (eR (k / 36%6)) (k / 216%8)))
structure bt where
 k:Int
 n:Int
 x:Int
deriving DecidableEq
structure Nx where
 op:Int
 kids:List Int
 n:Int
 m:Int
 u:Int
 tx:ByteArray
 st:bt
deriving DecidableEq
def cZ:bt:=⟨0,0,0⟩
def bJ(n:Int):bt:=⟨0,n,0⟩
def eW(n:Int):bt:=⟨1,n,0⟩
def cb(s:bt):Bool:=(s.k==0&&af (1<=s.n)&&af (s.n<=64)&&s.x==0)||(s.k==1&&af (0<=s.n)&&af (s.n<=64)&&s.x==0)||(s.k==2&&af (1<=s.n)&&af (s.n<=64)&&af (1<=s.x)&&af (s.x<=16))||(s.k==3&&af (0<=s.n)&&af (s.n<=64)&&af (1<=s.x)&&af (s.x<=16))
def gV(s:bt):Int:=if cb s then 0 else 9
def ek(s:bt):Bool:=s.k==2||s.k==3
def cS(op:Int):Int:=if op<0\/34<op then -1 else if op<=3 then 0 else if op=4\/op=5\/op=21\/op=22\/op=23\/op=27\/op=28\/op=33\/op=34 then 1 else if op=19\/op=25\/op=30\/op=32 then 3 else 2
def od(op:Int):Bool:=op==21||op==22||op==23||op==28
def oe(op:Int):Bool:=op==0||op==2||op==33
def iT(n:Nx):Bool:=(od n.op||n.n==0)&&(n.op==21||n.m==0)&&(n.op==1||n.u==0)&&(oe n.op||af (n.tx=ba []))
def fv(g:List Nx)(k:Int):Bool:=af (0<=k)&&af (k<(g.length:Int))
def e4(c:UInt8):Bool:=af (97<=c.toNat)&&af (c.toNat<=122)
def cT(c:UInt8):Bool:=e4 c||(af (48<=c.toNat)&&af (c.toNat<=57))||c==45
def gg(l:List UInt8):Bool:=match l with
 |[]=>false
 |c::m=>af (m.length<=15)&&e4 c&&m.all cT
def jw:List Nx->ByteArray->Option bt
 |[],_=>none
 |c::g,t=>if c.op=0/\c.tx=t then some c.st else jw g t
def qH(g:List Nx)(n:Nx):Bool:=match jw g n.tx with
 |some s=>!decide (s=n.st)
 |none=>false
def kE(u n:Int):Bool:=af (n<64)&&af (2^n.toNat<=u)
def cH(g:List Nx)(n:Nx):bt×Int:=
 if n.op=2 then(if 64<n.tx.size then(cZ,5)else(eW n.tx.size,0))else
 if n.op=0/\gg (bl n.tx)=false then(cZ,6)else
 if cb n.st=false then(cZ,9)else
 if n.op=1/\n.st.k≠0\/n.op=3/\ek n.st=false then(cZ,9)else
 if n.op=1/\kE n.u n.st.n=true then(cZ,5)else
 if n.op=0/\qH g n=true then(cZ,8)else(n.st,0)
def hP(s:bt):bt:=if s.k=2 then bJ s.n else eW s.n
def dm(op:Int)(x y c:bt):Bool:=
 if op=4\/op=5\/op=21\/op=22\/op=23 then x.k==0 else
 if op=18 then af (x=y)||(x.k==1&&y.k==1)else
 if op=19 then af (x=bJ 1)&&(af (y=c)||(y.k==1&&c.k==1))else
 if op=20 then x.k==0&&y.k==0 else
 if op=24 then ek x&&af (y=bJ x.x)else
 if op=25 then ek x&&af (y=bJ x.x)&&(af (c=hP x)||(x.k==3&&c.k==1&&af (c.n<=x.n)))else
 if op=26 then ek x&&af (x=y)else
 if op=27\/op=28\/op=33 then x.k==1 else
 if op=29\/op=31 then x.k==1&&y.k==1 else
 if op=30 then x.k==1&&af (y=bJ 7)&&af (c=bJ 7)else
 if op=32 then x.k==1&&y.k==1&&c.k==1 else
 if op=34 then af (x=bJ 8)else x.k==0&&af (x=y)
def hx(n:Nx)(x y c:bt):bt:=
 if n.op=16\/n.op=17\/n.op=18\/n.op=33 then bJ 1 else
 if n.op=19 then(if y.k=1 then eW (if y.n<c.n then c.n else y.n)else y)else
 if n.op=20 then bJ (x.n+y.n)else
 if n.op=21 then bJ (n.n - n.m+1)else
 if n.op=22\/n.op=23 then bJ (x.n+n.n)else
 if n.op=24 then hP x else
 if n.op=26 then bJ x.x else
 if n.op=27\/n.op=31 then bJ 7 else
 if n.op=28 then bJ 8 else
 if n.op=29 then eW (x.n+y.n)else
 if n.op=32 then eW (x.n+c.n)else
 if n.op=34 then eW 1 else x
def jV(n:Nx)(x y c:bt):Bool:=
 if n.op=20\/n.op=29 then af (x.n+y.n<=64)else
 if n.op=21 then af (0<=n.m)&&af (n.m<=n.n)&&af (n.n<x.n)else
 if n.op=22\/n.op=23 then af (1<=n.n)&&af (n.n<=64 - x.n)else
 if n.op=28 then af (0<=n.n)&&af (n.n<=63)else
 if n.op=32 then af (x.n+c.n<=64)else true
def b0(g:List Nx)(n:Nx)(i:Nat):bt:=match n.kids[i]? with
 |some d=>match g[d.toNat]? with
  |some c=>c.st
  |none=>cZ
 |none=>cZ
def m0(t:ByteArray):Bool:=mZ (bl t)==some true
def ck(g:List Nx)(n:Nx):bt×Int:=
 if(cS n.op==(n.kids.length:Int)&&n.kids.all (fv g)&&iT n)=false then(cZ,1)else
 if n.op<=3 then cH g n else
 if dm n.op (b0 g n 0) (b0 g n 1) (b0 g n 2)=false then(cZ,9)else
 if jV n (b0 g n 0) (b0 g n 1) (b0 g n 2)=false then(cZ,5)else
 if n.op=33/\m0 n.tx=false then(cZ,2)else(hx n (b0 g n 0) (b0 g n 1) (b0 g n 2),0)
def gH(n:Nx)(s:bt):Nx:={n with st:=s}
def gO(n:Nx):List Nx->Nat->Option Nat
 |[],_=>none
 |c::g,i=>if c=n then some i else gO n g (i+1)
def gX(g:List Nx)(n:Nx):List Nx×Int×Int:=
 if(ck g n).2≠0 then([],0,(ck g n).2)else
 match gO (gH n (ck g n).1) g 0 with
 |some i=>(g,i,0)
 |none=>if 4096<=g.length then([],0,4)else(g++[gH n (ck g n).1],g.length,0)
inductive Vg:List Nx->Prop
 |nil:Vg []
 |snoc {g:List Nx} {n:Nx}:Vg g->ck g n=(n.st,0)->n∉g->Vg (g++[n])
structure Nd where
 x:Nx
 ks:J
abbrev dO(s:bt):ab:=.agg #[.i s.k,.i s.n,.i s.x]
namespace Nd
def c(d:Nd):List ab:=[.i d.x.op,d.ks.v,.i d.x.n,.i d.x.m,.u d.x.u,.string d.x.tx,.i d.x.st.k,.i d.x.st.n,.i d.x.st.x]
abbrev v(d:Nd):ab:=.agg #[.i d.x.op,d.ks.v,.i d.x.n,.i d.x.m,.u d.x.u,.string d.x.tx,.i d.x.st.k,.i d.x.st.n,.i d.x.st.x]
def jE(d:Nd):(c d).length=9:=rfl
def ee(l:List Nd):(l.flatMap c).length=l.length *9:=nc c 9 jE l
abbrev P(w:C)(d:Nd):Prop:=bo w d.ks d.x.kids
structure fJ(w:C)(p:Addr)(i:Nat)(d:Nd):Prop where
 c0:w.cell? ((p.add (i *9)).add 0)=some (.i d.x.op)
 c1:w.cell? ((p.add (i *9)).add 1)=some d.ks.v
 c2:w.cell? ((p.add (i *9)).add 2)=some (.i d.x.n)
 c3:w.cell? ((p.add (i *9)).add 3)=some (.i d.x.m)
 c4:w.cell? ((p.add (i *9)).add 4)=some (.u d.x.u)
 c5:w.cell? ((p.add (i *9)).add 5)=some (.string d.x.tx)
 c6:w.cell? ((p.add (i *9)).add 6)=some (.i d.x.st.k)
 c7:w.cell? ((p.add (i *9)).add 7)=some (.i d.x.st.n)
 c8:w.cell? ((p.add (i *9)).add 8)=some (.i d.x.st.x)
def cu{w:C}{s:J}{l:List Nd}(h:bF 9 w s (l.flatMap c)):s.n=l.length:=by have:=h.1;rw[ee]at this;omega
def di{w:C}{s:J}{l:List Nd}(h:bF 9 w s (l.flatMap c)){i:Nat}{d:Nd}(hi:l[i]? =some d){K:Addr->Prop}(j:∀p,s.a=some p->fJ w p i d->K p):cd s.a K:=
 eY.elem (f:=c) (sz:=9) jE (by omega) h.2.2 hi λp k e=>j p k ⟨e 0 _ rfl,e 1 _ rfl,e 2 _ rfl,e 3 _ rfl,e 4 _ rfl,e 5 _ rfl,e 6 _ rfl,e 7 _ rfl,e 8 _ rfl⟩
def again{w:C}{s:J}{l:List Nd}(h:bF 9 w s (l.flatMap c)){i:Nat}{d:Nd}(hi:l[i]? =some d){p:Addr}(x:s.a=some p):fJ w p i d:=by have k:=di h hi (K:=λj=>∃n,s.a=some n/\fJ w n i d) (λj e u=>⟨j,e,u⟩);rw[x]at k;obtain⟨j,e,q⟩:=k;cases e;exact q
end Nd
abbrev xs(l:List Nd):List Nx:=l.map Nd.x
def GP(w:C)(s:J)(l:List Nd):Prop:=bF 9 w s (l.flatMap Nd.c)/\∀d∈l,d.P w
abbrev dY(d:Nd):En:=.rd d.ks (d.x.kids.map bd)
def _root_.Go.W.En.gr(s:J)(l:List Nd):En:=.all (.bh 9 s (l.flatMap Nd.c)::l.map dY)
def bU{w:C}{s:J}{l:List Nd}:(En.gr s l).P w↔GP w s l:=by
 constructor
 .exact λd=>⟨d (.bh 9 s (l.flatMap Nd.c)) (by simp),λe h=>d (dY e) (eb _ (dv.2 ⟨e,h,rfl⟩))⟩
 .intro d k j;rcases ay.1 j with rfl|j
  .exact d.1
  .obtain ⟨e,h,rfl⟩:=dv.1 j;exact d.2 e h
def oc{s:J}{l:List Nd}{b:Nat}:b∈(En.gr s l).fp↔b∈(En.bh 9 s (l.flatMap Nd.c)).fp\/∃e∈l,b∈(dY e).fp:=by
 unfold En.gr En.all;rw[a4,List.mem_flatMap];constructor
 .rintro ⟨k,j,d⟩;rcases ay.1 j with rfl|j
  .exact .inl d
  .obtain ⟨e,h,rfl⟩:=dv.1 j;exact .inr ⟨e,h,d⟩
 .rintro (d|⟨e,h,d⟩)
  .exact ⟨_,oI ..,d⟩
  .exact ⟨_,eb _ (dv.2 ⟨e,h,rfl⟩),d⟩
def g0{w:C}{s:J}{l:List Nd}(h:GP w s l):s.n=l.length:=Nd.cu h.1
def gN{w:C}{s:J}{l:List Nd}(h:GP w s l){i:Nat}{d:Nd}{X:Int}(c:X=(i:Int))(hi:l[i]? =some d){K:Addr->Prop}(e:∀p,s.a=some p->Nd.fJ w p (ae X) d->K p):aw s X K:=by have k:=g0 h;have j:=(List.getElem?_eq_some_iff.1 hi).1;subst c;exact⟨by omega,by omega,Nd.di h.1 hi e⟩
def sZ{l:List Nd}{i:Nat}{d:Nd}(h:l[i]? =some d):(xs l)[i]? =some d.x:=by simp[xs,h]
namespace Nd
def fJ.s0{w:C}{p:Addr}{i:Nat}{d:Nd}(h:fJ w p i d):w.cell? (((p.add (i *9)).add 6).add 0)=some (.i d.x.st.k):=by rw[add_add];exact h.c6
def fJ.s1{w:C}{p:Addr}{i:Nat}{d:Nd}(h:fJ w p i d):w.cell? (((p.add (i *9)).add 6).add 1)=some (.i d.x.st.n):=by rw[add_add];exact h.c7
def fJ.s2{w:C}{p:Addr}{i:Nat}{d:Nd}(h:fJ w p i d):w.cell? (((p.add (i *9)).add 6).add 2)=some (.i d.x.st.x):=by rw[add_add];exact h.c8
end Nd
def ng{w:C}{s:J}{l:List Nd}(h:GP w s l){i:Nat}{d:Nd}(hi:l[i]? =some d){p:Addr}(e:s.a=some p){X:Int}(c:X=(i:Int)):Nd.fJ w p (ae X) d:=by subst c;exact Nd.again h.1 hi e
def gm(s:bt):List ab:=[.i s.k,.i s.n,.i s.x]
def LD(l:List bt):(l.flatMap gm).length=l.length *3:=nc gm 3 (λ_=>rfl) l
structure zZ(w:C)(p:Addr)(i:Nat)(s:bt):Prop where
 c0:w.cell? ((p.add (i *3)).add 0)=some (.i s.k)
 c1:w.cell? ((p.add (i *3)).add 1)=some (.i s.n)
 c2:w.cell? ((p.add (i *3)).add 2)=some (.i s.x)
def UH{w:C}{s:J}{l:List bt}(h:bF 3 w s (l.flatMap gm)):s.n=l.length:=by have:=h.1;rw[LD]at this;omega
def eu{w:C}{s:J}{l:List bt}(h:bF 3 w s (l.flatMap gm)){i:Nat}{x:bt}{X:Int}(d:X=(i:Int))(hi:l[i]? =some x){K:Addr->Prop}(e:∀p,s.a=some p->zZ w p (ae X) x->K p):aw s X K:=by have n:=UH h;have k:=(List.getElem?_eq_some_iff.1 hi).1;subst d;exact⟨by omega,by omega,eY.elem (f:=gm) (sz:=3) (λ_=>rfl) (by omega) h.2.2 hi λp j c=>e p j ⟨c 0 _ rfl,c 1 _ rfl,c 2 _ rfl⟩⟩
def fS{w:C}{s:J}{l:List bt}(h:bF 3 w s (l.flatMap gm)){i:Nat}{x:bt}{X:Int}(n:X=(i:Int))(hi:l[i]? =some x){p:Addr}(u:s.a=some p):zZ w p (ae X) x:=by have e:=(eu h n hi (K:=λd=>∃j,s.a=some j/\zZ w j (ae X) x) (λd c q=>⟨d,c,q⟩)).2.2;rw[u]at e;obtain⟨d,c,k⟩:=e;cases c;exact k
def jX(a b:bt):((a.k==b.k)&&((a.n==b.n)&&((a.x==b.x)&&true)))=af (a=b):=by cases a;cases b;simp only[bt.mk.injEq,Bool.and_true,Bool.decide_and];rfl
def y3(a b:ByteArray):(a.toList==b.toList)=af (a=b):=by
 rw[ByteArray.toList_eq,ByteArray.toList_eq];have c:(a.data.toList=b.data.toList)↔a=b:=⟨λc=>ByteArray.ext (Array.toList_inj.1 c),λc=>by rw[c]⟩;rw[<-decide_eq_decide.2 c];cases d:af (a.data.toList=b.data.toList)with
 |true=>rw[hC d];simp
 |false=>exact beq_eq_false_iff_ne.2 (qP d)
section
variable {A B:Prop}
def yH{a b:ByteArray}(c:a=b->A)(d:a≠b->B):Y (a.toList==b.toList) A B:=by rw[y3];exact aQ c d
def mE{a b:bt}(c:a=b->A)(d:a≠b->B):Y ((a.k==b.k)&&((a.n==b.n)&&((a.x==b.x)&&true))) A B:=by rw[jX];exact aQ c d
def vo{a b:bt}(d:a≠b->A)(e:a=b->B):Y (!((a.k==b.k)&&((a.n==b.n)&&((a.x==b.x)&&true)))) A B:=by rw[jX];exact eJ (λc=>d (qP c)) (λc=>e (hC c))
def Ee{s:bt}(d:cb s=false->A)(e:cb s=true->B):Y (gV s !=0) A B:=by
 unfold gV;cases c:cb s with
 |true=>exact bb rfl (e c)
 |false=>exact a8 rfl (d c)
end
namespace L3
noncomputable abbrev X:Fx:=⟨V,Tryz.f181,[],[]⟩
def ok(c:ByteArray)(c1:Int)(w:C)(R:aa)(h:en CE #[.string c,.int .u8 c1] w λd e=>R (U (.i d)) e):ah V uS #[.string c,.int .u8 c1] w R:=aM X [] h
end L3
namespace IA
noncomputable abbrev X:Fx:=⟨V,Tryz.f196,[],[]⟩
def ok(c:ByteArray)(c1:Int)(w:C)(R:aa)(h:∃d:Int,∃e:C,a' V (callFunc xG #[.string c,.int .u8 c1]) w=.ok (.value (.i d)) e/\
 R (U (.i d)) e):ah V CE #[.string c,.int .u8 c1] w R:=aM X [] h
end IA
set_option maxHeartbeats 1000000
def uW{a:Option Addr}{p:Addr}{K:Addr->Prop}(c:a=some p)(h:K p):cd a K:=by rw[c];exact h
def h1(l:List UInt8):ab:=.string (ba l)
abbrev g3:ByteArray:=av #[48,48,48,49,48,50,48,51,48,52,48,53,48,54,48,55,48,56,48,57,49,48,49,49,49,50,49,51,49,52,49,53,49,54,49,55,49,56,49,57,50,48,50,49,50,50,50,51,50,52,50,53,50,54,50,55,50,56,50,57,51,48,51,49,51,50,51,51,51,52,51,53,51,54,51,55,51,56,51,57,52,48,52,49,52,50,52,51,52,52,52,53,52,54,52,55,52,56,52,57,53,48,53,49,53,50,53,51,53,52,53,53,53,54,53,55,53,56,53,57,54,48,54,49,54,50,54,51,54,52,54,53,54,54,54,55,54,56,54,57,55,48,55,49,55,50,55,51,55,52,55,53,55,54,55,55,55,56,55,57,56,48,56,49,56,50,56,51,56,52,56,53,56,54,56,55,56,56,56,57,57,48,57,49,57,50,57,51,57,52,57,53,57,54,57,55,57,56,57,57]
abbrev BS:ByteArray:=av #[48,49,50,51,52,53,54,55,56,57,97,98,99,100,101,102,103,104,105,106,107,108,109,110,111,112,113,114,115,116,117,118,119,120,121,122]
namespace Iw
noncomputable abbrev X:Fx:=⟨V,Tryz.f126,[],[]⟩
def ok(c:Bool)(w:C)(R:aa)(h:Y c (R (U (.i 1)) w) (R (U (.i 0)) w)):ah V CD #[.bool c] w R:=aM X [] h
end Iw
namespace Ix
noncomputable abbrev X:Fx:=⟨V,Tryz.f124,[],[]⟩
def ok(c:Int)(w:C)(R:aa)(h:R (U (.i (Int.fdiv (ad .i64 (c *78913)) (2^(18))))) w):ah V Jp #[.i c] w R:=aM X [] h
end Ix
namespace Iy
noncomputable abbrev X:Fx:=⟨V,Tryz.f99,[],[]⟩
def ok(d:Int)(w:C)(R:aa)(h:en xK #[.u d] w λj k=>en Jp #[.i j] k λc e=>(0:Int)<=c/\c<((20:Nat):Int)/\∃t11:Int,e.cell? ((Addr.mk 2 0 none).add (ae c *1))=some (.u t11)/\
 en CD #[.bool (af (d>=t11))] e λt13 n=>R (U (.i (ad .i64 (c+t13)))) n):ah V xI #[.u d] w R:=aM X [] h
end Iy
namespace jL
noncomputable abbrev X:Fx:=⟨V,Tryz.f100,[(7,ls [0,1,2,3,4,5,6,7,8,9,10,11,12,13,14]),(8,ls [0,1,2,3,4,5,6,7,8,9,10,11,12,13,14]),(9,ls [0,1,2,3,4,5,6,7,8,9,10,11,12,13,14]),(10,ls [0,1,2,3,4,5,6,7,8,9,10,11,12,13,14]),(17,ls [0,1,2,3,4,5,6,7,8,9,10,11,12,13,14]),(18,ls [0,1,2,3,4,5,6,7,8,9,10,11,12,13,14]),(23,ls [0,1,2,3,4,5,6,7,8,9,10,11,12,13,14])],[]⟩
abbrev P0:Ps:=[(0,.v [.s]),(1,.v [.U]),(4,.v [.I])]
def L0(c:J)(e d:Int)(w:C)(R:aa):Prop:=bz P0 0 (X.Sem (ai [0,2,1])) c e d w R
noncomputable def az:=bK X (ai [0,2,1]) P0 L0
abbrev P1:Ps:=[(0,.v [.s]),(1,.v [.U]),(4,.v [.I]),(8,.v [.i .u32]),(9,.v [.i .u32]),(10,.v [.i .u32]),(11,.v [.i .u32])]
abbrev S5(d:J)(M c h e k j:Int)(w:C)(R:aa):Prop:=
 dM w λN=>(0:Int)<=(ad .u32 (e+1))/\∃n:UInt8,g3[ae (ad .u32 (e+1))]? =some n/\(0:Int)<=e/\∃q:UInt8,g3[ae e]? =some q/\aw d (ad .i64 (c - 1)) λD=>ao N (D.add (ae (ad .i64 (c - 1)) *1)) (.int .u8 ((n.toNat:Nat):Int)) λS=>
 aw d (ad .i64 (c - 2)) λE=>ao S (E.add (ae (ad .i64 (c - 2)) *1)) (.int .u8 ((q.toNat:Nat):Int)) λT=>
 dM T λW=>(0:Int)<=(ad .u32 (h+1))/\∃u:UInt8,g3[ae (ad .u32 (h+1))]? =some u/\(0:Int)<=h/\∃x:UInt8,g3[ae h]? =some x/\aw d (ad .i64 (c - 3)) λF=>ao W (F.add (ae (ad .i64 (c - 3)) *1)) (.int .u8 ((u.toNat:Nat):Int)) λY=>
 aw d (ad .i64 (c - 4)) λG=>ao Y (G.add (ae (ad .i64 (c - 4)) *1)) (.int .u8 ((x.toNat:Nat):Int)) λZ=>
 dM Z λw7=>(0:Int)<=(ad .u32 (j+1))/\∃y:UInt8,g3[ae (ad .u32 (j+1))]? =some y/\(0:Int)<=j/\∃z:UInt8,g3[ae j]? =some z/\aw d (ad .i64 (c - 5)) λH=>ao w7 (H.add (ae (ad .i64 (c - 5)) *1)) (.int .u8 ((y.toNat:Nat):Int)) λw8=>
 aw d (ad .i64 (c - 6)) λI=>ao w8 (I.add (ae (ad .i64 (c - 6)) *1)) (.int .u8 ((z.toNat:Nat):Int)) λw9=>
 dM w9 λO=>(0:Int)<=(ad .u32 (k+1))/\∃A:UInt8,g3[ae (ad .u32 (k+1))]? =some A/\(0:Int)<=k/\∃B:UInt8,g3[ae k]? =some B/\aw d (ad .i64 (c - 7)) λK=>ao O (K.add (ae (ad .i64 (c - 7)) *1)) (.int .u8 ((A.toNat:Nat):Int)) λP=>
 aw d (ad .i64 (c - 8)) λL=>ao P (L.add (ae (ad .i64 (c - 8)) *1)) (.int .u8 ((B.toNat:Nat):Int)) λQ=>
 L0 d M (ad .i64 (c - 8)) Q R
noncomputable def cw:=aC X [az] (ai [5,1,1,3,1]) P1 S5
abbrev P2:Ps:=[(0,.v [.s]),(1,.v [.U]),(4,.v [.I]),(6,.v [.i .u32]),(8,.v [.i .u32]),(9,.v [.i .u32])]
abbrev S4(d:J)(h e c k j:Int)(w:C)(R:aa):Prop:=
 S5 d h e k j (ad .u32 ((ad .u32 (bE c 100)) *2)) (ad .u32 ((bw c 100) *2)) w R
noncomputable def bq:=aC X [cw,az] (ai [4,1,1,3,1]) P2 S4
abbrev P3:Ps:=[(0,.v [.s]),(1,.v [.U]),(4,.v [.I]),(6,.v [.i .u32]),(7,.v [.i .u32])]
abbrev S3(d:J)(h e j c:Int)(w:C)(R:aa):Prop:=
 S4 d h e j (ad .u32 ((ad .u32 (bE c 100)) *2)) (ad .u32 ((bw c 100) *2)) w R
noncomputable def a7:=aC X [bq,cw,az] (ai [3,1,1,3,1]) P3 S3
abbrev P4:Ps:=[(0,.v [.s]),(1,.v [.U]),(4,.v [.I]),(5,.v [.i .u32])]
abbrev S2(d:J)(h e c:Int)(w:C)(R:aa):Prop:=
 S3 d h e (ad .u32 (bE c 10000)) (bw c 10000) w R
noncomputable def a1:=aC X [a7,bq,cw,az] (ai [2,1,1,3,1]) P4 S2
abbrev S1(c:J)(e d h:Int)(w:C)(R:aa):Prop:=
 S2 c (ad .u64 (bE e 100000000)) d h w R
noncomputable def aX:=aC X [a1,a7,bq,cw,az] (ai [1,1,1,3,1]) P4 S1
abbrev P5:Ps:=[(0,.v [.s]),(4,.v [.I]),(12,.v [.i .u32])]
abbrev v3(c:J)(d j:Int)(w:C)(R:aa):Prop:=
 Y (af (d>0)) (aw c 0 λe=>ao w (e.add (ae 0 *1)) (.int .u8 (ad .u8 (ad .u32 (48+j)))) λh=>
 R (U (.tuple #[])) h) (R (U (.tuple #[])) w)
noncomputable def n0:=aC X [aX,a1,a7,bq,cw,az] (ai [5]) P5 v3
abbrev P6:Ps:=[(0,.v [.s]),(4,.v [.I]),(12,.v [.i .u32]),(16,.v [.i .u32])]
abbrev Ft(e:J)(c y d:Int)(w:C)(R:aa):Prop:=
 dM w λq=>(0:Int)<=(ad .u32 (d+1))/\∃h:UInt8,g3[ae (ad .u32 (d+1))]? =some h/\(0:Int)<=d/\∃j:UInt8,g3[ae d]? =some j/\aw e (ad .i64 (c - 1)) λk=>ao q (k.add (ae (ad .i64 (c - 1)) *1)) (.int .u8 ((h.toNat:Nat):Int)) λu=>
 aw e (ad .i64 (c - 2)) λn=>ao u (n.add (ae (ad .i64 (c - 2)) *1)) (.int .u8 ((j.toNat:Nat):Int)) λx=>
 v3 e (ad .i64 (c - 2)) y x R
noncomputable def pG:=aC X [n0,aX,a1,a7,bq,cw,az] (ai [2,1,1,1,4]) P6 Ft
abbrev q4(c:J)(d h e:Int)(w:C)(R:aa):Prop:=
 Ft c d (ad .u32 (bE h 100)) e w R
noncomputable def iy:=aC X [pG,n0,aX,a1,a7,bq,cw,az] (ai [1,1,1,1,4]) P6 q4
abbrev S9(e:J)(c d:Int)(w:C)(R:aa):Prop:=
 Y (af (c>=2)) (q4 e c d (ad .u32 ((bw d 100) *2)) w R) (v3 e c d w R)
noncomputable def hO:=aC X [iy,pG,n0,aX,a1,a7,bq,cw,az] (ai [4]) P5 S9
abbrev P7:Ps:=[(0,.v [.s]),(4,.v [.I]),(12,.v [.i .u32]),(14,.v [.i .u32]),(15,.v [.i .u32])]
abbrev S8(d:J)(c H h e:Int)(w:C)(R:aa):Prop:=
 dM w λA=>(0:Int)<=(ad .u32 (e+1))/\∃j:UInt8,g3[ae (ad .u32 (e+1))]? =some j/\(0:Int)<=e/\∃k:UInt8,g3[ae e]? =some k/\aw d (ad .i64 (c - 1)) λu=>ao A (u.add (ae (ad .i64 (c - 1)) *1)) (.int .u8 ((j.toNat:Nat):Int)) λB=>
 aw d (ad .i64 (c - 2)) λx=>ao B (x.add (ae (ad .i64 (c - 2)) *1)) (.int .u8 ((k.toNat:Nat):Int)) λD=>
 dM D λE=>(0:Int)<=(ad .u32 (h+1))/\∃n:UInt8,g3[ae (ad .u32 (h+1))]? =some n/\(0:Int)<=h/\∃q:UInt8,g3[ae h]? =some q/\aw d (ad .i64 (c - 3)) λy=>ao E (y.add (ae (ad .i64 (c - 3)) *1)) (.int .u8 ((n.toNat:Nat):Int)) λF=>
 aw d (ad .i64 (c - 4)) λz=>ao F (z.add (ae (ad .i64 (c - 4)) *1)) (.int .u8 ((q.toNat:Nat):Int)) λG=>
 S9 d (ad .i64 (c - 4)) H G R
noncomputable def e1:=aC X [hO,iy,pG,n0,aX,a1,a7,bq,cw,az] (ai [3,1,1,1,3]) P7 S8
abbrev P8:Ps:=[(0,.v [.s]),(4,.v [.I]),(12,.v [.i .u32]),(13,.v [.i .u32])]
abbrev S7(d:J)(e h c:Int)(w:C)(R:aa):Prop:=
 S8 d e h (ad .u32 ((ad .u32 (bE c 100)) *2)) (ad .u32 ((bw c 100) *2)) w R
noncomputable def dH:=aC X [e1,hO,iy,pG,n0,aX,a1,a7,bq,cw,az] (ai [2,1,1,1,3]) P8 S7
abbrev S6(c:J)(d h e:Int)(w:C)(R:aa):Prop:=
 S7 c d (ad .u32 (bE h 10000)) e w R
noncomputable def df:=aC X [dH,e1,hO,iy,pG,n0,aX,a1,a7,bq,cw,az] (ai [1,1,1,1,3]) P8 S6
def cf:∀(e:J) (d c:Int) (w:C) (R:aa) (h:Y (af (c>=8)) (S1 e d c (ad .u32 (bw d 100000000)) w R) (Y (af (c>=4)) (S6 e c (ad .u32 d) (bw (ad .u32 d) 10000) w R) (S9 e c (ad .u32 d) w R))),L0 e d c w R:=mp (bL (X:=X) [df,dH,e1,hO,iy,pG,n0,aX,a1,a7,bq,cw,az] (ai [0,2,1]) P0)
def ok(c:J)(d:Int)(w:C)(R:aa)(h:L0 c d ((c.n:Nat):Int) w R):ah V xH #[c.v,.u d] w R:=aM X [df,dH,e1,hO,iy,pG,n0,aX,a1,a7,bq,cw,az] h
end jL
namespace Iz
noncomputable abbrev X:Fx:=⟨V,Tryz.f98,[],[]⟩
def ok(c:Int)(w:C)(R:aa)(h:Y (af (c<10)) ((0:Int)<=(ad .i64 (c+1))/\(ad .i64 (c+1))<=((BS.size:Nat):Int)/\(0:Int)<=c/\c<=(((ae (ad .i64 (c+1))):Nat):Int)/\R (U (.string (BS.extract (ae c) (ae (ad .i64 (c+1)))))) w) ((0:Int)<=(ad .i64 ((ad .i64 (c *2))+2))/\(ad .i64 ((ad .i64 (c *2))+2))<=((g3.size:Nat):Int)/\(0:Int)<=(ad .i64 (c *2))/\(ad .i64 (c *2))<=(((ae (ad .i64 ((ad .i64 (c *2))+2))):Nat):Int)/\R (U (.string (g3.extract (ae (ad .i64 (c *2))) (ae (ad .i64 ((ad .i64 (c *2))+2)))))) w)):ah V xJ #[.i c] w R:=aM X [] h
end Iz
namespace uq
noncomputable abbrev X:Fx:=⟨V,Tryz.f81,[],[]⟩
abbrev P0:Ps:=[(0,.v [.I]),(5,.v [.r]),(6,.v [.U])]
abbrev S1(j:Int)(c:Addr)(h:Int)(w:C)(R:aa):Prop:=
 en xI #[.u h] w λt27 k=>(0:Int)<=(ad .i64 (1+t27))/\(ad .i64 (1+t27))<=((24:Nat):Int)/\(0:Int)<=1/\1<=(((ae (ad .i64 (1+t27))):Nat):Int)/\e0 xH #[.slice (some (if 24=(ae 1)then c else c.add ((ae 1) *1))) ((ae (ad .i64 (1+t27))) - (ae 1)) (24 - (ae 1)),.u h] k λd=>Y (af (j<0)) ((0:Int)<=0/\0<((24:Nat):Int)/\ao d (c.add (ae 0 *1)) (.int .u8 45) λe=>
 (0:Int)<=(ad .i64 (1+t27))/\(ad .i64 (1+t27))<=((24:Nat):Int)/\∃t39:ByteArray,a' V (Go.convert bM da (.slice (some (if 24=0 then c else c.add (0 *1))) ((ae (ad .i64 (1+t27))) - 0) (24 - 0))) e=.ok (.string t39) e/\R (U (.string t39)) e) ((0:Int)<=(ad .i64 (1+t27))/\(ad .i64 (1+t27))<=((24:Nat):Int)/\(0:Int)<=1/\1<=(((ae (ad .i64 (1+t27))):Nat):Int)/\∃t43:ByteArray,a' V (Go.convert bM da (.slice (some (if 24=(ae 1)then c else c.add ((ae 1) *1))) ((ae (ad .i64 (1+t27))) - (ae 1)) (24 - (ae 1)))) d=.ok (.string t43) d/\R (U (.string t43)) d)
noncomputable def aX:=aC X [] (ai [4,1,1,1,1]) P0 S1
abbrev P1:Ps:=[(0,.v [.I])]
abbrev S0(c:Int)(w:C)(R:aa):Prop:=
 aK w (.cells #[.int .u8 0,.int .u8 0,.int .u8 0,.int .u8 0,.int .u8 0,.int .u8 0,.int .u8 0,.int .u8 0,.int .u8 0,.int .u8 0,.int .u8 0,.int .u8 0,.int .u8 0,.int .u8 0,.int .u8 0,.int .u8 0,.int .u8 0,.int .u8 0,.int .u8 0,.int .u8 0,.int .u8 0,.int .u8 0,.int .u8 0,.int .u8 0] lT) λd=>
 Y (af (c<0)) (S1 c (nb w) (ad .u64 (0 - (ad .u64 c))) d R) (S1 c (nb w) (ad .u64 c) d R)
noncomputable def aT:=aC X [aX] (ai [1,1,1,1,1]) P1 S0
def ok(c d:Int)(w:C)(R:aa)(h:Y (d==10) (Y (af (0<=c)) (Y (af (c<100)) (mc xJ #[.i c] w λt19 j=>R (U (.string t19)) j) (S0 c w R)) (S0 c w R)) (Gz Jo #[.slice none 0 0,.u (ad .u64 c),.i d,.bool (af (c<0)),.bool false] w λn e k=>R (U (.string e)) k)):ah V CB #[.i c,.i d] w R:=aM X [aT,aX] h
end uq
namespace Iv
noncomputable abbrev X:Fx:=⟨V,Tryz.f64,[],[]⟩
def ok(c:Int)(w:C)(R:aa)(h:mc CB #[.i c,.i 10] w λd e=>R (U (.string d)) e):ah V CC #[.i c] w R:=aM X [] h
end Iv
namespace LZ
noncomputable abbrev X:Fx:=⟨V,Tryz.f45,[],[]⟩
def ok(c:Int)(w:C)(R:aa)(h:mc CC #[.i c] w λd e=>R (U (.string d)) e):ah V x5 #[.i c] w R:=aM X [] h
end LZ
namespace Iu
noncomputable abbrev X:Fx:=⟨V,Tryz.f80,[],[]⟩
def ok(d:J)(c e:Int)(w:C)(R:aa)(h:Y (e==10) (Y (af (c<100)) (mc xJ #[.i (ad .i64 c)] w λt16 q=>∃(t17:J) (j:C),a' V (bg #[bM,da] bM #[d.v,.string t16]) q=.ok (t17.v) j/\R (U (t17.v)) j) (aK w (.cells #[.int .u8 0,.int .u8 0,.int .u8 0,.int .u8 0,.int .u8 0,.int .u8 0,.int .u8 0,.int .u8 0,.int .u8 0,.int .u8 0,.int .u8 0,.int .u8 0,.int .u8 0,.int .u8 0,.int .u8 0,.int .u8 0,.int .u8 0,.int .u8 0,.int .u8 0,.int .u8 0,.int .u8 0,.int .u8 0,.int .u8 0,.int .u8 0] lT) λx=>
 en xI #[.u c] x λt19 y=>(0:Int)<=t19/\t19<=((24:Nat):Int)/\e0 xH #[.slice (some (if 24=0 then nb w else(nb w).add (0 *1))) ((ae t19) - 0) (24 - 0),.u c] y λz=>(0:Int)<=t19/\t19<=((24:Nat):Int)/\∃(t27:J) (k:C),a' V (bg #[bM,bM] bM #[d.v,.slice (some (if 24=0 then nb w else(nb w).add (0 *1))) ((ae t19) - 0) (24 - 0)]) z=.ok (t27.v) k/\R (U (t27.v)) k)) (Gz Jo #[d.v,.u c,.i e,.bool false,.bool true] w λn B A=>R (U (n.v)) A)):ah V CA #[d.v,.u c,.i e] w R:=aM X [] h
end Iu
namespace It
noncomputable abbrev X:Fx:=⟨V,Tryz.f63,[],[]⟩
abbrev P0:Ps:=[(0,.v [.s]),(2,.v [.I]),(7,.v [.U])]
abbrev S0(d:J)(c e:Int)(w:C)(R:aa):Prop:=
 rp CA #[d.v,.u e,.i c] w λt20 h=>R (U (t20.v)) h
noncomputable def aT:=aC X [] (ai [3]) P0 S0
def ok(e:J)(c d:Int)(w:C)(R:aa)(h:Y (af (c<0)) (aK w (.cells #[.int .u8 45] db) λk=>
 ∃(t14:J) (j:C),a' V (bg #[bM,bM] bM #[e.v,.slice (some (nb w)) 1 1]) k=.ok (t14.v) j/\S0 t14 d (ad .u64 (0 - (ad .u64 c))) j R) (S0 e d (ad .u64 c) w R)):ah V Cz #[e.v,.i c,.i d] w R:=aM X [aT] h
end It
namespace LY
noncomputable abbrev X:Fx:=⟨V,Tryz.f44,[],[]⟩
def ok(d:J)(e c:Int)(w:C)(R:aa)(h:rp Cz #[d.v,.i e,.i c] w λt10 j=>R (U (t10.v)) j):ah V CZ #[d.v,.i e,.i c] w R:=aM X [] h
end LY
def yq:List Int:=[1,10,100,1000,10000,100000,1000000,10000000,100000000,1000000000,10000000000,100000000000,1000000000000,10000000000000,100000000000000,1000000000000000,10000000000000000,100000000000000000,1000000000000000000,10000000000000000000]
abbrev ER(n:Int):ab:=.int .u64 n
abbrev lL:En:=.rd ⟨some (ag 2),20,20⟩ (yq.map ER)
def To:∀c<20,yq[c]? =some ((10^c:Nat):Int):=by decide
def j8(x:Nat):Nat:=if x=0 then 0 else Nat.log2 x+1
def RN:∀c<256,I3[c]? =some (dP (j8 c))/\j8 c<=8/\c<2^j8 c/\(c≠0->2^(j8 c - 1)<=c/\1<=j8 c):=by decide+kernel
def Oc{u:Nat}(O:u≠0)(Y:u<2^64)(w:C):ah V xK #[.u (u:Int)] w λr e=>(∃L:Nat,r=U (.i (L:Int))/\1<=L/\L<=64/\2^(L - 1)<=u/\u<2^L)/\e=w:=by
 have fin:∀(x n:Nat),x≠0->x<256->n<=56->2^n *x<=u->u<2^n *(x+1)->mn.S2 (x:Int) (n:Int) w λr e=>(∃L:Nat,r=U (.i (L:Int))/\1<=L/\L<=64/\2^(L - 1)<=u/\u<2^L)/\e=w:=by
  intro x n y A F c d;obtain⟨G,Q,H,I⟩:=RN x A;obtain⟨J,S⟩:=I y;have K:ad .u8 (x:Int)=(x:Int):=by rw[IntKind.wrap_u8];omega
  have M:((dP (j8 x)).toNat:Int)=(j8 x:Int):=by rw[UInt8.toNat_ofNat'];omega
  unfold mn.S2;rw[K,bT];refine⟨by omega,_,G,⟨n+j8 x,?_,by omega,by omega,?_,?_⟩,rfl⟩
  .have N:ad .i64 ((n:Int)+ad .i64 (j8 x:Int))=((n+j8 x:Nat):Int):=by rw[bf (j8 x:Int) (by omega),bf _ (by omega)];omega
   rw[M,N]
  .rw [show n+j8 x - 1=n+(j8 x - 1)by omega,Nat.pow_add];exact bB (Nat.mul_le_mul_left _ J) c
  .rw [Nat.pow_add];exact iI d (Nat.mul_le_mul_left _ H)
 have B:∀(x n k:Nat),2^n *x<=u->u<2^n *(x+1)->2^(n+k) *(x / 2^k)<=u/\u<2^(n+k) *(x / 2^k+1):=by
  intro x n k c d;have P:=Nat.two_pow_pos k;have T:=Nat.div_add_mod x (2^k);have W:=Nat.mod_lt x P;rw[Nat.pow_add,Nat.mul_assoc,Nat.mul_assoc];constructor
  .exact bB (Nat.mul_le_mul_left _ (Nat.mul_div_le x _)) c
  .refine iI d (Nat.mul_le_mul_left _ ?_);rw[Nat.mul_add,Nat.mul_one];omega
 have z:∀x k:Nat,Int.fdiv (x:Int) (2^k)=((x / 2^k:Nat):Int):=λx k=>by have:=wR x (2^k) (Nat.two_pow_pos k);rw[Int.natCast_pow]at this;exact this
 have E:∀(x n:Nat),x≠0->x<65536->n<=48->2^n *x<=u->u<2^n *(x+1)->mn.S1 (x:Int) (n:Int) w λr e=>(∃L:Nat,r=U (.i (L:Int))/\1<=L/\L<=64/\2^(L - 1)<=u/\u<2^L)/\e=w:=by intro x n y A F c d;refine aQ (λq=>?_) (λq=>fin x n y (by omega) (by omega) c d);obtain⟨h,j⟩:=B x n 8 c d;rw[z,show ad .i64 ((n:Int)+8)=((n+8:Nat):Int)by rw[bf _ (by omega)];omega];exact fin _ _ (by omega) (by omega) (by omega) h j
 have D:∀(x n:Nat),x≠0->x<4294967296->n<=32->2^n *x<=u->u<2^n *(x+1)->mn.S0 (x:Int) (n:Int) w λr e=>(∃L:Nat,r=U (.i (L:Int))/\1<=L/\L<=64/\2^(L - 1)<=u/\u<2^L)/\e=w:=by intro x n y A F c d;refine aQ (λq=>?_) (λq=>E x n y (by omega) (by omega) c d);obtain⟨h,j⟩:=B x n 16 c d;rw[z,show ad .i64 ((n:Int)+16)=((n+16:Nat):Int)by rw[bf _ (by omega)];omega];exact E _ _ (by omega) (by omega) (by omega) h j
 refine mn.ok _ w _ (aQ (λq=>?_) (λq=>D u 0 O (by omega) (by omega) (by omega) (by omega)));obtain⟨h,j⟩:=B u 0 32 (by omega) (by omega);rw[z];exact D _ 32 (by omega) (by omega) (by omega) h j
def R2:∀c<65,1<=c->c *78913 / 2^18<20/\10^(c *78913 / 2^18 - 1)<=2^(c - 1)/\2^c<=10^(c *78913 / 2^18+1)/\(c *78913 / 2^18=0->c<=3):=by decide+kernel
def Gm{u:Nat}(D:u≠0)(M:u<2^64)(w:C)(G:lL.P w):ah V xI #[.u (u:Int)] w λr x=>r=U (.i (((cg u).length:Nat):Int))/\x=w:=by
 refine Iy.ok _ w _ ((Oc D M w).mono ?_);rintro _ d ⟨⟨L,rfl,N,l2,l3,O⟩,rfl⟩;obtain⟨Q,t2,S,t4⟩:=R2 L (by omega) N;have A:Int.fdiv (ad .i64 ((L:Int) *78913)) (2^18)=((L *78913 / 2^18:Nat):Int):=by rw[show ad .i64 ((L:Int) *78913)=((L *78913:Nat):Int)by rw[bf _ (by omega)];omega];have:=wR (L *78913) (2^18) (Nat.two_pow_pos _);rw[Int.natCast_pow]at this;exact this
 refine⟨_,rfl,Ix.ok _ d _ ⟨_,rfl,?_⟩⟩;rw[A];generalize Y:L *78913 / 2^18=n at *;have k:d.cell? ((ag 2).add n)=some (.u ((10^n:Nat):Int)):=by have:=Rd.get (show Rd d ⟨some (ag 2),20,20⟩ (yq.map ER)from G) (i:=n) (j:=n) (v:=ER ((10^n:Nat):Int)) (by rw[jk,To n Q];rfl) (by omega) (K:=λp=>∃q,some q=some (ag 2)/\d.cell? (q.add n)=some (.u ((10^n:Nat):Int))) (λp I k=>⟨p,I.symm,k⟩);obtain⟨q,hq,c⟩:=sc this;obtain⟨q',J,B⟩:=c;cases J;exact B
 refine⟨by omega,by omega,((10^n:Nat):Int),by rw[bT,Nat.mul_one];exact k,?_⟩;have E:∀b:Bool,ah V CD #[.bool b] d λr x=>r=U (.i (if b then 1 else 0))/\x=d:=λb=>
  Iw.ok _ d _ (by cases b<;>exact⟨rfl,rfl⟩)
 refine(E _).mono ?_;rintro _ w2 ⟨rfl,rfl⟩;refine⟨_,rfl,?_,rfl⟩;have main:(if af ((u:Int)>=((10^n:Nat):Int))=true then(n:Int)+1 else(n:Int)+0)=(((cg u).length:Nat):Int):=by
  have aa:1<=(cg u).length:=by
   cases F:cg u with
   |nil=>exact absurd F (AQ _)
   |cons W l=>simp
  by_cases z:10^n<=u
  .rw [aA (a0 (by omega))];have T:(cg u).length<=n+1:=wF (by omega) (iI O S);have lo:n+1<=(cg u).length:=by
    rcases Nat.lt_or_ge (cg u).length (n+1)with c|c
    .exfalso;have h:=ES (cg u) (AP u);rw[ET]at h;have:=Nat.pow_le_pow_right (n:=10) (by omega) (show(cg u).length<=n by omega);omega
    .exact c
   omega
  .rw [aq (λc=>z (by have:=hC c;omega))];have H:1<=n:=by
    rcases Nat.eq_zero_or_pos n with c|c
    .subst c;rw[Nat.pow_zero]at z;omega
    .exact c
   have T:(cg u).length<=n:=wF H (by omega);have lo:n<=(cg u).length:=by
    rcases Nat.lt_or_ge (cg u).length n with c|c
    .exfalso;have h:=ES (cg u) (AP u);rw[ET]at h;have:=Nat.pow_le_pow_right (n:=10) (by omega) (show(cg u).length<=n - 1 by omega);omega
    .exact c
   omega
 have Z:(n:Int)<20:=by omega
 cases y:af ((u:Int)>=((10^n:Nat):Int))with
 |true=>
  rw[y,aA rfl]at main;have e:ad .i64 ((n:Int)+1)=(n:Int)+1:=bf _ (by omega);rw[aA rfl,<-main,e]
 |false=>
  rw[y,aq (by decide)]at main;have e:ad .i64 ((n:Int)+0)=(n:Int)+0:=bf _ (by omega);rw[aq (by decide),<-main,e]
def Uw:∀c<100,g3[2 *c]? =some (gY (c / 10))/\g3[2 *c+1]? =some (gY (c%10)):=by decide+kernel
def Dg(u nd o n:Nat)(vs:List ab):Prop:=vs.length=24/\∀c,n<=c->c<nd->vs[o+c]? =some (dG (gY (u / 10^(nd - 1 - c)%10)))
def AS{u nd n i:Nat}(c:n<=nd)(hi:i<n):u / 10^(nd - 1 - (n - 1 - i))%10=u / 10^(nd - n) / 10^i%10:=by rw[Nat.div_div_eq_div_mul,<-Nat.pow_add,show nd - n+i=nd - 1 - (n - 1 - i)by omega]
def Dg.put{u nd o n:Nat}{vs:List ab}(h:Dg u nd o (n+1) vs)(x:o+nd<=24)(w:n+1<=nd){d:Nat}(k:d=u / 10^(nd - 1 - n)%10):Dg u nd o n (vs.set (o+n) (dG (gY d))):=by
 refine⟨by rw[List.length_set];exact h.1,λq e j=>?_⟩;rcases Nat.eq_or_lt_of_le e with c|c
 .subst c;rw[List.getElem?_set_self (by rw[h.1];omega),k]
 .rw [List.getElem?_set_ne (by omega)];exact h.2 q c j
section
variable {M:Nat->Prop} {w0 w:C} {D:List En} {a:J} {b o:Nat} {vs:List ab} {T:aF}
def DN(j:a.a=some ((ag b).add o))(H:Z M w0 w [.c b vs T] D){X:Int}{n:Nat}(h:X=(n:Int))(q:n<a.n)(k:o+n<vs.length){v:ab}{K:C->Prop}(e:∀d,Z M w0 d [.c b (vs.set (o+n) v) T] D->K d):
  aw a X λp=>ao w (p.add (ae X *1)) v K:=by subst h;refine⟨by omega,by omega,?_⟩;rw[j];show ao w (((ag b).add o).add (ae (n:Int) *1)) v K;rw[bT,Nat.mul_one,add_add];exact H.st 0 (o+n) rfl e k
def pair{x n:Nat}{nd c1 c2:Int}{u k:Nat}(e:a.a=some ((ag b).add o))(Q:x<100)(J:nd - c1=((n+1:Nat):Int))(L:nd - c2=(n:Int))(hn:n+1<a.n)(h:o+a.n<=24)(d:Dg u a.n o (n+2) vs)(G:x%10=u / 10^(a.n - 1 - (n+1))%10)(I:x / 10=u / 10^(a.n - 1 - n)%10)(H:Z M w0 w [.c b vs T] D){K:C->Prop}(N:∀y q,Dg u a.n o n q->Z M w0 y [.c b q T] D->K y){X:Int}(O:X=((2 *x:Nat):Int)):
  dM w λz=>(0:Int)<=(ad .u32 (X+1))/\∃t:UInt8,g3[ae (ad .u32 (X+1))]? =some t/\(0:Int)<=X/\∃j:UInt8,g3[ae X]? =some j/\aw a (ad .i64 (nd - c1)) λp=>ao z (p.add (ae (ad .i64 (nd - c1)) *1)) (.int .u8 ((t.toNat:Nat):Int)) λA=>
   aw a (ad .i64 (nd - c2)) λp=>ao A (p.add (ae (ad .i64 (nd - c2)) *1)) (.int .u8 ((j.toNat:Nat):Int)) K:=by
 subst O;obtain⟨S,W⟩:=Uw x Q;have P:ad .u32 (((2 *x:Nat):Int)+1)=((2 *x+1:Nat):Int):=by rw[IntKind.wrap_u32];omega
 refine H.dr λz B=>?_;rw[P,J,L,bf ((n+1:Nat):Int) (by omega),bf (n:Int) (by omega),bT,bT];refine⟨by omega,_,W,by omega,_,S,DN e B rfl (by omega) (by rw[d.1];omega) λA E=>DN e E rfl (by omega) (by rw[List.length_set,d.1];omega) λY F=>N Y _ ?_ F⟩;exact(d.put h (n:=n+1) (by omega) G).put h (by omega) I
end
def nJ{x:Nat}(h:x<4294967296):ad .u32 (x:Int)=(x:Int):=by rw[IntKind.wrap_u32];omega
section
variable {w0 w:C} {a:J} {b o u:Nat} {T:aF}
def vV(w0:C)(b o u nd:Nat)(T:aF)(r:cQ)(w':C):Prop:=r=U (.tuple #[])/\∃d,Z (·=b) w0 w' [.c b d T] []/\Dg u nd o 0 d
def HQ{n:Nat}(A:a.a=some ((ag b).add o))(B:o+a.n<=24)(F:n<=1)(G:n<=a.n)(D:u<10^a.n){vs:List ab}(d:Dg u a.n o n vs)(H:Z (·=b) w0 w [.c b vs T] []):
  jL.v3 a (n:Int) ((u / 10^(a.n - n):Nat):Int) w (vV w0 b o u a.n T):=by
 refine aQ (λk=>?_) (λk=>?_)
 case' refine_2=>
  have q:n=0:=by omega
  subst q;exact⟨rfl,vs,H,d⟩
 have:n=1:=by omega
 subst this;have e:u / 10^(a.n - 1)<10:=by rw[Nat.div_lt_iff_lt_mul (Nat.pow_pos (by omega)),<-Nat.pow_succ',show(a.n - 1).succ=a.n by omega];exact D
 generalize E:u / 10^(a.n - 1)=x at *;have j:(Value.int .u8 (ad .u8 (ad .u32 (48+(x:Int)))))=dG (gY x):=by
  have y:ad .u32 (48+(x:Int))=((48+x:Nat):Int):=by rw[IntKind.wrap_u32];omega
  have z:ad .u8 ((48+x:Nat):Int)=((48+x:Nat):Int):=by rw[IntKind.wrap_u8];omega
  rw[y,z,dG,AT x e]
 rw[j];refine DN A H (X:=0) (n:=0) rfl (by omega) (by rw[d.1];omega) λI h=>⟨rfl,_,h,d.put B (by omega) ?_⟩;rw[show a.n - 1 - 0=a.n - 1 by omega,E,Nat.mod_eq_of_lt e]
def HR{n:Nat}(h:a.a=some ((ag b).add o))(j:o+a.n<=24)(J:n<4)(q:n<=a.n)(y:u<10^a.n){vs:List ab}(z:Dg u a.n o n vs)(H:Z (·=b) w0 w [.c b vs T] []):
  jL.S9 a (n:Int) ((u / 10^(a.n - n):Nat):Int) w (vV w0 b o u a.n T):=by
 refine aQ (λE=>?_) (λE=>HQ h j (by omega) q y z H);obtain⟨m,rfl⟩:∃m,n=m+2:=⟨n - 2,by omega⟩;have I:u / 10^(a.n - (m+2))<10000:=by rw[Nat.div_lt_iff_lt_mul (Nat.pow_pos (by omega))];refine iI y ?_;rw[show(10000:Nat)=10^4 from rfl,<-Nat.pow_add];exact Nat.pow_le_pow_right (by omega) (by omega)
 have d:=AS (u:=u) q (i:=0) (by omega);have e:=AS (u:=u) q (i:=1) (by omega);have eq:u / 10^(a.n - (m+2)) / 100=u / 10^(a.n - m):=by rw[Nat.div_div_eq_div_mul,show(100:Nat)=10^2 from rfl,<-Nat.pow_add,show a.n - (m+2)+2=a.n - m by omega]
 generalize K:u / 10^(a.n - (m+2))=x at *;rw[Nat.pow_zero,Nat.div_one]at d;rw[Nat.pow_one]at e;have B:bw (x:Int) 100=((x%100:Nat):Int):=rfl;have D:bE (x:Int) 100=((x / 100:Nat):Int):=rfl;unfold jL.q4;rw[B,D,nJ (by omega),eq];have G:ad .u32 (((x%100:Nat):Int) *2)=((2 *(x%100):Nat):Int):=by rw[IntKind.wrap_u32];omega
 rw[G];refine pair (k:=0) h (x:=x%100) (n:=m) (by omega) (by omega) (by omega) (by omega) j z ?_ ?_ H (λM L F A=>?_) rfl
 .rw [show m+2 - 1 - 0=m+1 by omega]at d;rw[d];omega
 .rw [show m+2 - 1 - 1=m by omega]at e;rw[e];omega
 .rw [show((m+2:Nat):Int) - 2=(m:Int)by omega,bf _ (by omega)];exact HQ h j (by omega) (by omega) y F A
def Qd(d:a.a=some ((ag b).add o))(e:o+a.n<=24)(B:u<10^a.n)(ai:u<2^64):∀(n:Nat),n<=a.n->∀(w:C) (vs:List ab),Dg u a.n o n vs->Z (·=b) w0 w [.c b vs T] []->
  jL.L0 a ((u / 10^(a.n - n):Nat):Int) (n:Int) w (vV w0 b o u a.n T):=by
 intro n;induction n using Nat.strongRecOn with
 |_ n ih=>
 intro ac w vs L G;have hq:u / 10^(a.n - n)<2^64:=Nat.lt_of_le_of_lt (Nat.div_le_self _ _) ai;have aa:∀O,n<=O->u / 10^(a.n - n)<10^O:=λO hk=>by rw[Nat.div_lt_iff_lt_mul (Nat.pow_pos (by omega))];refine iI B ?_;rw[<-Nat.pow_add];exact Nat.pow_le_pow_right (by omega) (by omega)
 have P:∀i,i<n->u / 10^(a.n - 1 - (n - 1 - i))%10=u / 10^(a.n - n) / 10^i%10:=λi F=>AS ac F;have step:∀i,i<=n->u / 10^(a.n - n) / 10^i=u / 10^(a.n - (n - i)):=λi F=>by rw[Nat.div_div_eq_div_mul,<-Nat.pow_add,show a.n - n+i=a.n - (n - i)by omega]
 generalize hx:u / 10^(a.n - n)=x at *;refine jL.cf _ _ _ _ _ (aQ (λh8=>?_) (λh8=>aQ (λh4=>?_) (λh4=>?_)))
 .obtain ⟨m,rfl⟩:∃m,n=m+8:=⟨n - 8,by omega⟩;have e0:bw (x:Int) 100000000=((x%100000000:Nat):Int):=rfl;have e1:bE (x:Int) 100000000=((x / 100000000:Nat):Int):=rfl;have J:∀y:Nat,bE (y:Int) 10000=((y / 10000:Nat):Int):=λ_=>rfl;have K:∀y:Nat,bw (y:Int) 10000=((y%10000:Nat):Int):=λ_=>rfl;have D:∀y:Nat,bE (y:Int) 100=((y / 100:Nat):Int):=λ_=>rfl;have E:∀y:Nat,bw (y:Int) 100=((y%100:Nat):Int):=λ_=>rfl;have h:∀y:Nat,y<100000->ad .u32 ((y:Int) *2)=((2 *y:Nat):Int):=λy hy=>by rw[IntKind.wrap_u32];omega
  have B:ad .u64 ((x / 100000000:Nat):Int)=((x / 100000000:Nat):Int):=by rw[IntKind.wrap_u64];omega
  unfold jL.S1 jL.S2 jL.S3 jL.S4;rw[e0,e1,B,nJ (x:=x%100000000) (by omega),J,K,nJ (x:=x%100000000 / 10000) (by omega),D,E,D,E,nJ (x:=x%100000000%10000 / 100) (by omega),nJ (x:=x%100000000 / 10000 / 100) (by omega),h _ (by omega),h _ (by omega),h _ (by omega),h _ (by omega)];have g:∀i,i<8->u / 10^(a.n - 1 - (m+(7 - i)))%10=x / 10^i%10:=λi F=>by
   have:=P i (by omega)
   rwa[show m+8 - 1 - i=m+(7 - i)by omega]at this
  have j:=g 0 (by omega);have q:=g 1 (by omega);have z:=g 2 (by omega);have A:=g 3 (by omega);have Q:=g 4 (by omega);have S:=g 5 (by omega);have W:=g 6 (by omega);have Y:=g 7 (by omega);simp only[Nat.reducePow,Nat.reduceSub,Nat.div_one,Nat.add_zero]at j q z A Q S W Y;refine pair (k:=0) d (x:=x%100000000%10000%100) (n:=m+6) (by omega) (by omega) (by omega) (by omega) e L (by rw[j];omega) (by rw[q];omega) G (λw1 aj M H=>?_) rfl;refine pair (k:=0) d (x:=x%100000000%10000 / 100) (n:=m+4) (by omega) (by omega) (by omega) (by omega) e M (by rw[z];omega) (by rw[A];omega) H (λw2 ak N I=>?_) rfl;refine pair (k:=0) d (x:=x%100000000 / 10000%100) (n:=m+2) (by omega) (by omega) (by omega) (by omega) e N (by rw[Q];omega) (by rw[S];omega) I (λw3 am af H3=>?_) rfl;refine pair (k:=0) d (x:=x%100000000 / 10000 / 100) (n:=m) (by omega) (by omega) (by omega) (by omega) e af (by rw[W];omega) (by rw[Y];omega) H3 (λw4 al ah H4=>?_) rfl;rw[show((m+8:Nat):Int) - 8=(m:Int)by omega,bf _ (by omega)];have st:=step 8 (by omega);rw[show m+8 - 8=m by omega]at st;simp only[Nat.reducePow]at st;rw[st];exact ih m (by omega) (by omega) w4 al ah H4
 .obtain ⟨m,rfl⟩:∃m,n=m+4:=⟨n - 4,by omega⟩;have h7:=aa 7 (by omega);simp only[Nat.reducePow]at h7;have J:∀y:Nat,bE (y:Int) 10000=((y / 10000:Nat):Int):=λ_=>rfl;have K:∀y:Nat,bw (y:Int) 10000=((y%10000:Nat):Int):=λ_=>rfl;have D:∀y:Nat,bE (y:Int) 100=((y / 100:Nat):Int):=λ_=>rfl;have E:∀y:Nat,bw (y:Int) 100=((y%100:Nat):Int):=λ_=>rfl;have h:∀y:Nat,y<100000->ad .u32 ((y:Int) *2)=((2 *y:Nat):Int):=λy hy=>by rw[IntKind.wrap_u32];omega
  unfold jL.S6 jL.S7 jL.S8;rw[nJ (x:=x) (by omega),J,K,nJ (x:=x / 10000) (by omega),D,E,nJ (x:=x%10000 / 100) (by omega),h _ (by omega),h _ (by omega)];have g:∀i,i<4->u / 10^(a.n - 1 - (m+(3 - i)))%10=x / 10^i%10:=λi F=>by
   have:=P i (by omega)
   rwa[show m+4 - 1 - i=m+(3 - i)by omega]at this
  have j:=g 0 (by omega);have q:=g 1 (by omega);have z:=g 2 (by omega);have A:=g 3 (by omega);simp only[Nat.reducePow,Nat.reduceSub,Nat.div_one,Nat.add_zero]at j q z A;refine pair (k:=0) d (x:=x%10000%100) (n:=m+2) (by omega) (by omega) (by omega) (by omega) e L (by rw[j];omega) (by rw[q];omega) G (λw1 aj M H=>?_) rfl;refine pair (k:=0) d (x:=x%10000 / 100) (n:=m) (by omega) (by omega) (by omega) (by omega) e M (by rw[z];omega) (by rw[A];omega) H (λw2 ak N I=>?_) rfl;rw[show((m+4:Nat):Int) - 4=(m:Int)by omega,bf _ (by omega)];have st:=step 4 (by omega);rw[show m+4 - 4=m by omega]at st;simp only[Nat.reducePow]at st;rw[st];exact HR d e (by omega) (by omega) B N I
 .have ae:=aa 4 (by omega);simp only[Nat.reducePow]at ae;rw[nJ (x:=x) (by omega),<-hx];exact HR d e (by omega) ac B L G
end
def Gh{w:C}{b o u nd c:Nat}{vs:List ab}{T:aF}(h:w.heap[b]? =some (.cells vs.toArray T (0,0)))(x:vs.length=24)(k:o+nd<=24)(n:u<10^nd)(q:u<2^64):
  ah V xH #[.slice (some ((ag b).add o)) nd c,.u (u:Int)] w (vV w b o u nd T):=by
 have d:Z (·=b) w w [.c b vs T] []:=Z.sK _ _ (by intro A j;rw[List.mem_singleton.1 j];exact⟨h,λD y=>by simpa[En.c,En.ob]using y⟩) (by simp[En.c,En.ob]) (by simp)
 refine jL.ok ⟨some ((ag b).add o),nd,c⟩ _ w _ ?_;have:=Qd (a:=⟨some ((ag b).add o),nd,c⟩) (u:=u) (T:=T) rfl k n q nd (b' _) w vs ⟨x,λz B e=>absurd (show z<nd from e) (by omega)⟩ d;rw[Nat.sub_self,Nat.pow_zero,Nat.div_one]at this;exact this
def G8{u nd o:Nat}{vs:List ab}(h:Dg u nd o 0 vs)(d:nd=(cg u).length)(j:o+nd<=24):(vs.drop o).take nd=(cg u).map dG:=by
 refine List.ext_getElem? λe=>?_;rw[List.getElem?_take];split
 .rename_i c;rw[List.getElem?_drop,h.2 e (by omega) c,PO u,List.map_map,jk,List.getElem?_range (by omega),d];rfl
 .rw [jk,List.getElem?_eq_none (by omega)];rfl
def PQ{n:Nat}(c:10<=n)(d:n<100):cg n=[gY (n / 10),gY (n%10)]:=by rw[rv (by omega),m7 (by omega)];rfl
def Uu:∀c<10,BS.extract c (c+1)=ba [gY c]:=by decide+kernel
def Uv:∀c<100,10<=c->g3.extract (c *2) (c *2+2)=ba [gY (c / 10),gY (c%10)]:=by decide+kernel
def J3(m:Nat)(j:m<100)(w:C):ah V xJ #[.i (m:Int)] w λr h=>r=U (.string (ba (cg m)))/\h=w:=by
 refine Iz.ok _ w _ (aQ (λe=>?_) (λe=>?_))
 .rw [bA _ (by omega)];refine⟨by omega,?_,by omega,by rw[bT];omega,by rw[bT,bT,Uu m (by omega),m7 (by omega)],rfl⟩;show((m+1:Nat):Int)<=((36:Nat):Int);omega
 .have c:ad .i64 ((m:Int) *2)=((m *2:Nat):Int):=by rw[bf _ (by omega)];omega
  have d:ad .i64 (((m *2:Nat):Int)+2)=((m *2+2:Nat):Int):=by rw[bf _ (by omega)];omega
  rw[c,d];refine⟨by omega,?_,by omega,by rw[bT];omega,by rw[bT,bT,Uv m (by omega) (by omega),PQ (by omega) (by omega)],rfl⟩;show((m *2+2:Nat):Int)<=((200:Nat):Int);omega
def MB{n:Int}(h:bn n):(n<0->ad .u64 (0 - ad .u64 n)=(n.natAbs:Int))/\(0<=n->ad .u64 n=(n.natAbs:Int))/\n.natAbs<2^64:=by
 refine⟨λc=>?_,λc=>?_,?_⟩
 .rw [IntKind.wrap_u64,IntKind.wrap_u64];omega
 .rw [IntKind.wrap_u64];omega
 .omega
def G6{u:Nat}(h:u<2^64):1<=(cg u).length/\(cg u).length<=20/\u<10^(cg u).length:=by
 refine⟨?_,wF (by omega) (by omega),?_⟩
 .cases c:cg u with
  |nil=>exact absurd c (AQ _)
  |cons d l=>simp
 .have:=ES (cg u) (AP u)
  rwa[ET]at this
abbrev nM:List ab:=List.replicate 24 (.int .u8 0)
def DL{w:C}{b o n c:Nat}{vs:List ab}{T:aF}{bs:List UInt8}(e:w.heap[b]? =some (.cells vs.toArray T (0,0)))(k:bs.length=n)(j:n<=c)(h:(vs.drop o).take n=bs.map dG):Bytes w ⟨some ((ag b).add o),n,c⟩ bs:=by
 refine yy (by simp[k]) j (λh=>by cases h) (λi v d=>⟨(ag b).add o,rfl,?_⟩);rw[<-h,List.getElem?_take]at d;split at d
 .rw [List.getElem?_drop]at d;rw[add_add];exact cellAt (p:=ag b) e rfl (by simpa using d)
 .cases d
def N'{n:Int}(h:bn n){w:C}(W:lL.P w):ah V CB #[.i n,.i 10] w λr d=>r=U (.string (ba (cr n)))/\aj w d:=by
 obtain⟨u1,u2,E⟩:=MB h;have kE:¬(0<=n/\n<100)->uq.S0 n w λr d=>r=U (.string (ba (cr n)))/\aj w d:=by
  intro aa;obtain⟨d1,d2,N⟩:=G6 E;have M:Z F0 w w [] [lL]:=bN _ (by intro J T;rw[List.mem_singleton.1 T];exact W)
  have I:∀e,Z F0 w e [.c w.heap.size nM lT] [lL]->uq.S1 n (ag w.heap.size) (n.natAbs:Int) e λr d=>r=U (.string (ba (cr n)))/\aj w d:=by
   intro e j;refine(Gm (by omega) E e (j.getD 0)).mono ?_;rintro _ w2 ⟨rfl,rfl⟩;have O:ad .i64 (1+(((cg n.natAbs).length:Nat):Int))=(((cg n.natAbs).length+1:Nat):Int):=by rw[bf _ (by omega)];omega
   refine⟨_,rfl,?_⟩;dsimp only;rw[O,bT];have Q:(if 24=ae 1 then ag w.heap.size else(ag w.heap.size).add (ae 1 *1))=(ag w.heap.size).add 1:=by rw[aq (by decide)];rfl
   rw[Q];have S:(cg n.natAbs).length+1 - ae 1=(cg n.natAbs).length:=by show _ - 1=_;omega
   rw[S];refine⟨by omega,by omega,by omega,by omega,(Gh (vs:=nM) (o:=1) (nd:=(cg n.natAbs).length) (j.get 0) rfl (by omega) N E).mono ?_⟩;rintro _ F ⟨rfl,k,H,A⟩;have y:Z F0 w F [.c w.heap.size k lT] [lL]:=j.g' 0 (.c w.heap.size k lT) rfl (H.fr.mono λaf _ Y=>by simp[En.c,En.ob,Y]) (H.get 0) λb u=>.inl u;have B:=G8 A rfl (by omega);refine⟨rfl,aQ (λD=>?_) (λD=>?_)⟩
   .have q:cr n=45::cg n.natAbs:=by unfold cr;rw[aA D]
    refine⟨by omega,by omega,?_⟩;have st:ao F ((ag w.heap.size).add 0) (.int .u8 45) λx=>(0:Int)<=(((cg n.natAbs).length+1:Nat):Int)/\(((cg n.natAbs).length+1:Nat):Int)<=((24:Nat):Int)/\∃t:ByteArray,a' V (Go.convert bM da (.slice (some (if 24=0 then ag w.heap.size else(ag w.heap.size).add (0 *1))) ((cg n.natAbs).length+1 - 0) (24 - 0))) x=.ok (.string t) x/\(λr d=>r=Ending.returned (.string (ba (cr n)))/\aj w d) (U (.string t)) x:=by
     refine y.st 0 0 rfl (λx G=>⟨by omega,by omega,ba (cr n),?_,rfl,G.fr⟩) (by rw[A.1];omega);have u:Bytes x ⟨some ((ag w.heap.size).add 0),(cg n.natAbs).length+1,24⟩ (cr n):=DL (G.get 0) (by rw[q];rfl) (by omega) (by
      rw[q,List.drop_zero];have z:=A.1;cases k with
      |nil=>simp at z
      |cons v k=>
       rw[List.set_cons_zero,List.take_succ_cons,List.map_cons];rw[show List.drop 1 (v::k)=k from rfl]at B;rw[B];rfl)
     exact lk u
    exact st
   .have q:cr n=cg n.natAbs:=by unfold cr;rw[aq D]
    refine⟨by omega,by omega,by omega,by omega,ba (cr n),?_,rfl,y.fr⟩;have u:Bytes F ⟨some ((ag w.heap.size).add 1),(cg n.natAbs).length,24 - ae 1⟩ (cr n):=DL (y.get 0) (by rw[q]) (by show _<=24 - 1;omega) (by rw[q];exact B);exact lk u
  have J:(#[.int .u8 0,.int .u8 0,.int .u8 0,.int .u8 0,.int .u8 0,.int .u8 0,.int .u8 0,.int .u8 0,.int .u8 0,.int .u8 0,.int .u8 0,.int .u8 0,.int .u8 0,.int .u8 0,.int .u8 0,.int .u8 0,.int .u8 0,.int .u8 0,.int .u8 0,.int .u8 0,.int .u8 0,.int .u8 0,.int .u8 0,.int .u8 0]:Array ab)=nM.toArray:=rfl;unfold uq.S0;rw[J];refine M.nw λe ac j=>?_;refine aQ (λL=>?_) (λL=>?_)
  .rw [u1 L];exact I e j
  .rw [u2 (by omega)];exact I e j
 refine uq.ok _ _ w _ (a8 rfl (aQ (λK=>aQ (λz=>?_) (λz=>kE (by omega))) (λK=>kE (by omega))));obtain⟨m,rfl⟩:=Int.eq_ofNat_of_zero_le K;refine(J3 m (by omega) w).mono ?_;rintro _ _ ⟨rfl,rfl⟩;refine⟨_,rfl,?_,Fr.refl _ _⟩;unfold cr;rw[aq (by omega)];rfl
def FY{n:Int}(h:bn n){w:C}(d:lL.P w):ah V x5 #[.i n] w λr c=>r=U (.string (ba (cr n)))/\aj w c:=by
 refine LZ.ok _ w _ ((show ah V CC #[.i n] w λr c=>r=U (.string (ba (cr n)))/\aj w c from Iv.ok _ w _ ((N' h d).mono ?_)).mono ?_)
 .rintro _ e ⟨rfl,f⟩;exact⟨_,rfl,rfl,f⟩
 .rintro _ e ⟨rfl,f⟩;exact⟨_,rfl,rfl,f⟩
def o2(w:C):Prop:=lL.P w/\True
def gA:En:=⟨lL.fp,o2,λd h e c=>⟨lL.st d h e c.1,trivial⟩,λd c=>lL.lt d c.1,lL.nd⟩
def FN{s:ByteArray}{l:List UInt8}(h:bl s=l)(i:Nat):s[i]? =l[i]?:=by subst h;unfold bl;rw[Array.getElem?_toList];rfl
def PM{m:Int}(h:m<0):cr m=45::cg m.natAbs:=by unfold cr;grind
def PN{m:Int}(h:¬m<0):cr m=cg m.natAbs:=by unfold cr;grind
namespace GL
noncomputable abbrev X:Fx:=⟨V,Tryz.f66,[],[]⟩
def ok(c:Int)(w:C)(R:aa)(h:R (U (.i (if c<ad .i64 (0 - c)then ad .i64 (0 - c)else c))) w):ah V xk #[.i c] w R:=aM X [] h
end GL
namespace GK
noncomputable abbrev X:Fx:=⟨V,Tryz.f82,[],[]⟩
def ok(c:Int)(w:C)(R:aa)(h:Y (c !=0) (Y (af (c>=(-1073741824))) (R (U (.bool (af (c<=1073741824)))) w) (R (U (.bool false)) w)) (R (U (.bool false)) w)):ah V Jn #[.i c] w R:=aM X [] h
end GK
namespace py
noncomputable abbrev X:Fx:=⟨V,Tryz.f65,[],[]⟩
abbrev P0:Ps:=[(8,.v [.s]),(9,.v [.I]),(10,.v [.I])]
def L0(c:J)(d t10:Int)(w:C)(R:aa):Prop:=bz P0 0 (X.Sem (ai [0,1,1,1,2])) c d t10 w R
noncomputable def az:=bK X (ai [0,1,1,1,2]) P0 L0
def cf:∀(c:J) (d t10:Int) (w:C) (R:aa) (h:Y (af (t10<d)) (aw c t10 λj=>∃t13:Int,w.cell? (j.add (ae t10 *1))=some (.i t13)/\
 gL Jn #[.i t13] w λt15 e=>Y (!t15) (R (U (.i 1)) e) (L0 c d (ad .i64 (t10+1)) e R)) (R (U (.i 0)) w)),L0 c d t10 w R:=mp (bL (X:=X) [az] (ai [0,1,1,1,2]) P0)
def ok(c:J)(w:C)(R:aa)(h:Y (af (((c.n:Nat):Int)>65536)) (R (U (.i 4)) w) (L0 c ((c.n:Nat):Int) 0 w R)):ah V B1 #[c.v] w R:=aM X [az] h
end py
namespace rq
noncomputable abbrev X:Fx:=⟨V,Tryz.f46,[(7,ls [0,1,2,3,5,6,7,8,9,4,10,11])],[]⟩
abbrev P0:Ps:=[(0,.v [.s]),(4,.v [.I])]
def L0(c:J)(d:Int)(w:C)(R:aa):Prop:=bz P0 0 (X.Sem (ai [0,1,1,1,2])) c d w R
noncomputable def az:=bK X (ai [0,1,1,1,2]) P0 L0
def cf:∀(d:J) (c:Int) (w:C) (R:aa) (h:Y (af (c<((d.n:Nat):Int))) (dM w λe=>aw d c λu=>∃t19:Int,e.cell? (u.add (ae c *1))=some (.i t19)/\
 aw d (ad .i64 (c - 1)) λj=>∃t25:Int,e.cell? (j.add (ae (ad .i64 (c - 1)) *1))=some (.i t25)/\
 en xk #[.i t19] e λt20 k=>k.cell? (j.add (ae (ad .i64 (c - 1)) *1))=some (.i t25)/\en xk #[.i t25] k λt26 q=>Y (af (t20<=t26)) (R (U (.i 10)) q) (L0 d (ad .i64 (c+1)) q R)) (R (U (.i 0)) w)),L0 d c w R:=mp (bL (X:=X) [az] (ai [0,1,1,1,2]) P0)
def ok(c:J)(w:C)(R:aa)(h:en B1 #[c.v] w λd e=>Y (d !=0) (R (U (.i d)) e) (L0 c 1 e R)):ah V xj #[c.v] w R:=aM X [az] h
end rq
namespace kn
noncomputable abbrev X:Fx:=⟨V,Tryz.f47,[],[]⟩
abbrev P0:Ps:=[]
abbrev S0(w:C)(R:aa):Prop:=
 R (U (.bool false)) w
noncomputable def aT:=aC X [] (ai [0,1,1,1,1]) P0 S0
abbrev P1:Ps:=[(0,.v [.st]),(24,.v [.I]),(25,.v [.I])]
def L1(c:ByteArray)(t24 t25:Int)(w:C)(R:aa):Prop:=bz P1 0 (X.Sem (ai [0,1,1,1,2])) c t24 t25 w R
noncomputable def bx:=bK X (ai [0,1,1,1,2]) P1 L1
abbrev S3(w:C)(R:aa):Prop:=
 R (U (.bool false)) w
noncomputable def a7:=aC X [bx,aT] (ai [0,1,3,2,2,2,1,1,2]) P0 S3
abbrev S4(c:ByteArray)(t24 t25:Int)(w:C)(R:aa):Prop:=
 L1 c t24 (ad .i64 (t25+1)) w R
noncomputable def bq:=aC X [a7,bx,aT] (ai [3,2,1,1,2]) P1 S4
abbrev P2:Ps:=[(0,.v [.st]),(4,.v [.Y]),(24,.v [.I]),(25,.v [.I])]
abbrev S2(d:ByteArray)(c t24 t25:Int)(w:C)(R:aa):Prop:=
 Y (af (c<97)) (Y (af (c<48)) (Y (c !=45) (S3 w R) (S4 d t24 t25 w R)) (Y (af (c>57)) (Y (c !=45) (S3 w R) (S4 d t24 t25 w R)) (S4 d t24 t25 w R))) (Y (af (c>122)) (Y (af (c<48)) (Y (c !=45) (S3 w R) (S4 d t24 t25 w R)) (Y (af (c>57)) (Y (c !=45) (S3 w R) (S4 d t24 t25 w R)) (S4 d t24 t25 w R))) (S4 d t24 t25 w R))
noncomputable def a1:=aC X [bq,a7,bx,aT] (ai [2,2,2,2,1,1,2]) P2 S2
def j3:∀(c:ByteArray) (t24 t25:Int) (w:C) (R:aa) (h:Y (af (t25<t24)) ((0:Int)<=t25/\∃d:UInt8,c[ae t25]? =some d/\S2 c ((d.toNat:Nat):Int) t24 t25 w R) (R (U (.bool true)) w)),L1 c t24 t25 w R:=mp (bL (X:=X) [a1,bq,a7,bx,aT] (ai [0,1,1,1,2]) P1)
def ok(c:ByteArray)(w:C)(R:aa)(h:Y (((c.size:Nat):Int)==0) (S0 w R) (Y (af (((c.size:Nat):Int)>16)) (S0 w R) ((0:Int)<=0/\∃d:UInt8,c[ae 0]? =some d/\Y (af (((d.toNat:Nat):Int)<97)) (S0 w R) ((0:Int)<=0/\∃e:UInt8,c[ae 0]? =some e/\Y (af (((e.toNat:Nat):Int)>122)) (S0 w R) (L1 c ((c.size:Nat):Int) 0 w R))))):ah V CJ #[.string c] w R:=aM X [a1,bq,a7,bx,aT] h
end kn
namespace ss
noncomputable abbrev X:Fx:=⟨V,Tryz.f30,[],[3]⟩
abbrev P0:Ps:=[]
abbrev aS(w:C)(R:aa):Prop:=
 R (U (.i 1)) w
noncomputable def aT:=aC X [] (ai [0,1,1,1,1]) P0 aS
abbrev P1:Ps:=[(1,.v [.I]),(2,.v [.I]),(3,.l [.I,.I,.I,.s,.st,.s,.s] dk),(34,.v [.s]),(35,.v [.I]),(36,.v [.I])]
def dy(c d:Int)(e:Nat)(h j k:Int)(n:J)(q:ByteArray)(u x t34:J)(t35 t36:Int)(w:C)(R:aa):Prop:=bz P1 0 (X.Sem (ai [0,1,1,1,4])) c d e h j k n q u x t34 t35 t36 w R
noncomputable def dB:=bK X (ai [0,1,1,1,4]) P1 dy
abbrev be(w:C)(R:aa):Prop:=
 R (U (.i 14)) w
noncomputable def a7:=aC X [dB,aT] (ai [0,1,2,2,2,2,1,1,4]) P0 be
abbrev cq(w:C)(R:aa):Prop:=
 R (U (.i 7)) w
noncomputable def bq:=aC X [a7,dB,aT] (ai [0,1,1,1,5]) P0 cq
abbrev eC(w:C)(R:aa):Prop:=
 R (U (.i 0)) w
noncomputable def cw:=aC X [bq,a7,dB,aT] (ai [6]) P0 eC
def ha:∀(d e:Int) (k:Nat) (j c n:Int) (q:J) (u:ByteArray) (x y t34:J) (t35 t36:Int) (w:C) (R:aa) (h:Y (af (t36<t35)) (aw t34 t36 λz=>∃t39:Int,w.cell? (z.add (ae t36 *1))=some (.i t39)/\
 Y (af (t39<0)) (be w R) (Y (af (t39>=d)) (be w R) (dy d e k j c n q u x y t34 t35 (ad .i64 (t36+1)) w R))) (Y (j==4) (Y (af (c<0)) (cq w R) (Y (af (c>=e)) (cq w R) (eC w R))) (eC w R))),dy d e k j c n q u x y t34 t35 t36 w R:=mp (bL (X:=X) [cw,bq,a7,dB,aT] (ai [0,1,1,1,4]) P1)
abbrev P2:Ps:=[(1,.v [.I]),(2,.v [.I]),(3,.l [.I,.I,.I,.s,.st,.s,.s] dk)]
abbrev aZ(d e:Int)(h:Nat)(j k q:Int)(u:J)(x:ByteArray)(y c:J)(w:C)(R:aa):Prop:=
 dy d e h j k q u x y c c ((c.n:Nat):Int) 0 w R
noncomputable def aX:=aC X [cw,bq,a7,dB,aT] (ai [4]) P2 aZ
def aB(c q u:Int)(x:J)(d:ByteArray)(j y:J)(k n:Int)(w:C)(R:aa)(h:aP [] w λe z=>
 Y (af (c<0)) (aS z R) (Y (af (c>5)) (aS z R) (bG [e] xj #[j.v] z λt20 A=>Y (t20 !=0) (R (U (.i t20)) A) (Y (!(d.toList==(av #[]).toList)) (bP [e] CJ #[.string d] A λt30 B=>Y (!t30) (R (U (.i 6)) B) (aZ k n e c q u x d j y B R)) (aZ k n e c q u x d j y A R))))):ah V xN #[.agg #[.i c,.i q,.i u,x.v,.string d,j.v,y.v],.i k,.i n] w R:=aM X [aX,cw,bq,a7,dB,aT] h
end ss
namespace oE
noncomputable abbrev X:Fx:=⟨V,Tryz.f29,[],[1,8]⟩
abbrev P0:Ps:=[(1,.l [.s,.s,.s,.s] g9),(18,.v [.s]),(19,.v [.I]),(20,.v [.I])]
def aH(c:Nat)(d e h j t18:J)(t19 t20:Int)(w:C)(R:aa):Prop:=bz P0 0 (X.Sem (ai [0,1,1,1,2])) c d e h j t18 t19 t20 w R
noncomputable def az:=bK X (ai [0,1,1,1,2]) P0 aH
abbrev P1:Ps:=[]
abbrev aZ(w:C)(R:aa):Prop:=
 R (U (.i 7)) w
noncomputable def aX:=aC X [az] (ai [0,1,2,2,2,2,1,1,2]) P1 aZ
abbrev P2:Ps:=[(45,.v [.s]),(46,.v [.I]),(47,.v [.I])]
def dy(t45:J)(t46 t47:Int)(w:C)(R:aa):Prop:=bz P2 0 (X.Sem (ai [0,1,1,1,5])) t45 t46 t47 w R
noncomputable def dB:=bK X (ai [0,1,1,1,5]) P2 dy
def ha:∀(t45:J) (t46 t47:Int) (w:C) (R:aa) (h:Y (af (t47<t46)) (aw t45 t47 λn=>oj w (n.add (ae t47 *7)) λe q u x y z A=>aP [] w λc k=>
 Y (e==4) (loc [c] k λd=>R (U (.i 12)) d) (loc [c] k λd=>bG [c] xN #[.agg #[.i e,.i q,.i u,x.v,.string y,z.v,A.v],.i t47,.i 0] d λt57 j=>Y (t57 !=0) (R (U (.i t57)) j) (dy t45 t46 (ad .i64 (t47+1)) j R))) (R (U (.i 0)) w)),dy t45 t46 t47 w R:=mp (bL (X:=X) [dB,aX,az] (ai [0,1,1,1,5]) P2)
def bD:∀(d:Nat) (e q j c t18:J) (t19 t20:Int) (w:C) (R:aa) (h:Y (af (t20<t19)) (aw t18 t20 λu=>∃t23:Int,w.cell? (u.add (ae t20 *1))=some (.i t23)/\
 Y (af (t23<0)) (aZ w R) (Y (af (t23>=((e.n:Nat):Int))) (aZ w R) (aH d e q j c t18 t19 (ad .i64 (t20+1)) w R))) (bG [d] xj #[j.v] w λt36 k=>Y (t36 !=0) (R (U (.i t36)) k) (Y (af (((c.n:Nat):Int)>1048576)) (R (U (.i 4)) k) (dy c ((c.n:Nat):Int) 0 k R)))),aH d e q j c t18 t19 t20 w R:=mp (bL (X:=X) [dB,aX,az] (ai [0,1,1,1,2]) P0)
def aB(d c j k:J)(w:C)(R:aa)(h:aP [] w λe u=>
 bG [e] x7 #[.agg #[d.v]] u λt13 q=>Y (t13 !=0) (R (U (.i t13)) q) (aH e d c j k c ((c.n:Nat):Int) 0 q R)):ah V xM #[.agg #[d.v,c.v,j.v,k.v]] w R:=aM X [dB,aX,az] h
end oE
namespace lN
noncomputable abbrev X:Fx:=⟨V,Tryz.f9,[],[1,4,7]⟩
abbrev P0:Ps:=[]
abbrev aS(w:C)(R:aa):Prop:=
 R (U (.i 4)) w
noncomputable def aT:=aC X [] (ai [0,1,1,1,1]) P0 aS
abbrev P1:Ps:=[(1,.l [.s,.s] ec),(20,.v [.s]),(21,.v [.I]),(22,.v [.I])]
def bO(c:Nat)(d e t20:J)(t21 t22:Int)(w:C)(R:aa):Prop:=bz P1 0 (X.Sem (ai [0,1,1,1,2])) c d e t20 t21 t22 w R
noncomputable def bx:=bK X (ai [0,1,1,1,2]) P1 bO
abbrev P2:Ps:=[(1,.l [.s,.s] ec),(33,.v [.s]),(34,.v [.I]),(35,.v [.I])]
def dy(c:Nat)(d e t33:J)(t34 t35:Int)(w:C)(R:aa):Prop:=bz P2 0 (X.Sem (ai [0,1,1,1,3])) c d e t33 t34 t35 w R
noncomputable def dB:=bK X (ai [0,1,1,1,3]) P2 dy
def ha:∀(c:Nat) (d j t33:J) (t34 t35:Int) (w:C) (R:aa) (h:Y (af (t35<t34)) (aw t33 t35 λq=>oj w (q.add (ae t35 *7)) λu x y z A B D=>aP [c] w λe F=>
 loc [c,e] F λE=>bG [c,e] xN #[.agg #[.i u,.i x,.i y,z.v,.string A,B.v,D.v],.i t35,.i ((d.n:Nat):Int)] E λt45 k=>Y (t45 !=0) (R (U (.i t45)) k) (dy c d j t33 t34 (ad .i64 (t35+1)) k R)) (R (U (.i 0)) w)),dy c d j t33 t34 t35 w R:=mp (bL (X:=X) [dB,bx,aT] (ai [0,1,1,1,3]) P2)
def eh:∀(c:Nat) (e d t20:J) (t21 t22:Int) (w:C) (R:aa) (h:Y (af (t22<t21)) (aw t20 t22 λq=>pX w (q.add (ae t22 *4)) λu x y z=>aP [c] w λj A=>
 loc [c,j] A λB=>bG [c,j] xM #[.agg #[u.v,x.v,y.v,z.v]] B λt27 k=>Y (t27 !=0) (R (U (.i t27)) k) (bO c e d t20 t21 (ad .i64 (t22+1)) k R)) (dy c e d d ((d.n:Nat):Int) 0 w R)),bO c e d t20 t21 t22 w R:=mp (bL (X:=X) [dB,bx,aT] (ai [0,1,1,1,2]) P1)
def aB(c d:J)(w:C)(R:aa)(h:aP [] w λj e=>
 Y (af (((c.n:Nat):Int)>4096)) (aS e R) (Y (af (((d.n:Nat):Int)>1048576)) (aS e R) (bO j c d c ((c.n:Nat):Int) 0 e R))):ah V ow #[.agg #[c.v,d.v]] w R:=aM X [dB,bx,aT] h
end lN
namespace sj
noncomputable abbrev X:Fx:=⟨V,Tryz.f25,[],[]⟩
abbrev P0:Ps:=[(0,.v [.s]),(7,.v [.s]),(8,.v [.I]),(9,.v [.I])]
def L0(c d:J)(e h:Int)(w:C)(R:aa):Prop:=bz P0 0 (X.Sem (ai [0,1,1,1,1])) c d e h w R
noncomputable def az:=bK X (ai [0,1,1,1,1]) P0 L0
abbrev P1:Ps:=[(0,.v [.s]),(6,.v [.st]),(7,.v [.s]),(8,.v [.I]),(9,.v [.I])]
abbrev S1(d:J)(e:ByteArray)(h:J)(j k:Int)(w:C)(R:aa):Prop:=
 ∃(t21:J) (c:C),a' V (bg #[bM,da] bM #[d.v,.string e]) w=.ok (t21.v) c/\L0 t21 h j (ad .i64 (k+1)) c R
noncomputable def aX:=aC X [az] (ai [2,2,2,2,1,1,1]) P1 S1
def cf:∀(d e:J) (j c:Int) (w:C) (R:aa) (h:Y (af (c<j)) (aw e c λq=>∃t13:ByteArray,w.cell? (q.add (ae c *1))=some (.string t13)/\
 Y (af (c>0)) (aK w (.cells #[.int .u8 32] db) λu=>
 ∃(t18:J) (k:C),a' V (bg #[bM,bM] bM #[d.v,.slice (some (nb w)) 1 1]) u=.ok (t18.v) k/\S1 t18 t13 e j c k R) (S1 d t13 e j c w R)) (aK w (.cells #[.int .u8 10] db) λx=>
 ∃(t25:J) (n:C),a' V (bg #[bM,bM] bM #[d.v,.slice (some (nb w)) 1 1]) x=.ok (t25.v) n/\R (U (t25.v)) n)),L0 d e j c w R:=mp (bL (X:=X) [aX,az] (ai [0,1,1,1,1]) P0)
def ok(d c:J)(w:C)(R:aa)(h:L0 d c ((c.n:Nat):Int) 0 w R):ah V r1 #[d.v,c.v] w R:=aM X [aX,az] h
end sj
namespace so
noncomputable abbrev X:Fx:=⟨V,Tryz.f26,[],[]⟩
abbrev P0:Ps:=[(3,.v [.s]),(7,.v [.s]),(8,.v [.I]),(9,.v [.I])]
def L0(c d:J)(e h:Int)(w:C)(R:aa):Prop:=bz P0 0 (X.Sem (ai [0,1,1,1,2])) c d e h w R
noncomputable def az:=bK X (ai [0,1,1,1,2]) P0 L0
abbrev P1:Ps:=[(3,.v [.s]),(5,.v [.I]),(7,.v [.s]),(8,.v [.I]),(9,.v [.I])]
abbrev S1(c:J)(d:Int)(e:J)(h j:Int)(w:C)(R:aa):Prop:=
 rp CZ #[c.v,.i d,.i 10] w λt21 k=>L0 t21 e h (ad .i64 (j+1)) k R
noncomputable def aX:=aC X [az] (ai [2,2,2,2,1,1,2]) P1 S1
def cf:∀(d e:J) (j c:Int) (w:C) (R:aa) (h:Y (af (c<j)) (aw e c λq=>∃t13:Int,w.cell? (q.add (ae c *1))=some (.i t13)/\
 Y (af (c>0)) (aK w (.cells #[.int .u8 32] db) λu=>
 ∃(t18:J) (n:C),a' V (bg #[bM,bM] bM #[d.v,.slice (some (nb w)) 1 1]) u=.ok (t18.v) n/\S1 t18 t13 e j c n R) (S1 d t13 e j c w R)) (aK w (.cells #[.int .u8 41] db) λx=>
 ∃(t25:J) (k:C),a' V (bg #[bM,bM] bM #[d.v,.slice (some (nb w)) 1 1]) x=.ok (t25.v) k/\∃t26:ByteArray,a' V (Go.convert bM da (t25.v)) k=.ok (.string t26) k/\R (U (.string t26)) k)),L0 d e j c w R:=mp (bL (X:=X) [aX,az] (ai [0,1,1,1,2]) P0)
def ok(c:J)(w:C)(R:aa)(h:aK w (.cells #[.int .u8 40] db) λd=>
 L0 ⟨some (nb w),1,1⟩ c ((c.n:Nat):Int) 0 d R):ah V qe #[c.v] w R:=aM X [aX,az] h
end so
namespace sm
noncomputable abbrev X:Fx:=⟨V,Tryz.f28,[(7,ls [0,1,2,3,4,5,6,8,9,11,12,13,15,16,18,19,7,10,14,17,20,21,22,23])],[6]⟩
abbrev P0:Ps:=[(0,.v [.s]),(8,.v [.s]),(9,.v [.I]),(10,.v [.I])]
def aH(c d:J)(e t10:Int)(w:C)(R:aa):Prop:=bz P0 0 (X.Sem (ai [0,1,1,1,1])) c d e t10 w R
noncomputable def az:=bK X (ai [0,1,1,1,1]) P0 aH
abbrev P1:Ps:=[(0,.v [.s]),(6,.l [.I,.I,.I,.s,.st,.s,.s] dk),(7,.v [.st]),(8,.v [.s]),(9,.v [.I]),(10,.v [.I])]
abbrev aZ(u:J)(d:Nat)(c y z:Int)(A:J)(I:ByteArray)(B D:J)(x:ByteArray)(E:J)(F t10:Int)(w:C)(R:aa):Prop:=
 (0:Int)<=c/\c<((6:Nat):Int)/\loc [d] w λh=>∃t22:ByteArray,h.cell? ((Addr.mk 0 0 none).add (ae c *1))=some (.string t22)/\
 eM [d] x5 #[.i y] h λt25 j=>j.cell? ((Addr.mk 0 0 none).add (ae c *1))=some (.string t22)/\eM [d] x5 #[.i z] j λt28 k=>k.cell? ((Addr.mk 0 0 none).add (ae c *1))=some (.string t22)/\eM [d] qe #[A.v] k λt32 n=>n.cell? ((Addr.mk 0 0 none).add (ae c *1))=some (.string t22)/\eM [d] qe #[D.v] n λt35 q=>q.cell? ((Addr.mk 0 0 none).add (ae c *1))=some (.string t22)/\eM [d] qe #[B.v] q λt38 e=>e.cell? ((Addr.mk 0 0 none).add (ae c *1))=some (.string t22)/\aK e (.cells #[.string t22,.string t25,.string t28,.string x,.string t32,.string t35,.string t38] da) λG=>
 iv [d] r1 #[u.v,.slice (some (nb e)) 7 7] G λt40 H=>aH t40 E F (ad .i64 (t10+1)) H R
noncomputable def aX:=aC X [az] (ai [3,2,2,2,1,1,1]) P1 aZ
def bD:∀(c j:J) (k t10:Int) (w:C) (R:aa) (h:Y (af (t10<k)) (aw j t10 λD=>oj w (D.add (ae t10 *7)) λq u x y e z A=>aP [] w λd B=>
 Y (e.toList==(av #[]).toList) (loc [d] B λn=>aZ c d q u x y e z A (av #[45]) j k t10 n R) (loc [d] B λn=>aZ c d q u x y e z A e j k t10 n R)) (R (U (c.v)) w)),aH c j k t10 w R:=mp (bL (X:=X) [aX,az] (ai [0,1,1,1,1]) P0)
def aB(d c:J)(w:C)(R:aa)(h:aH d c ((c.n:Nat):Int) 0 w R):ah V uJ #[d.v,c.v] w R:=aM X [aX,az] h
end sm
namespace u3
noncomputable abbrev X:Fx:=⟨V,Tryz.f27,[(5,ls [0,1,2,3,4,5,6,7,8,9])],[]⟩
abbrev P0:Ps:=[(3,.v [.s]),(10,.v [.s]),(11,.v [.I]),(12,.v [.I])]
def L0(c t10:J)(t11 t12:Int)(w:C)(R:aa):Prop:=bz P0 0 (X.Sem (ai [0,1,1,1,2])) c t10 t11 t12 w R
noncomputable def az:=bK X (ai [0,1,1,1,2]) P0 L0
def cf:∀(c t10:J) (t11 t12:Int) (w:C) (R:aa) (h:Y (af (t12<t11)) (aw t10 t12 λn=>∃t15:Int,w.cell? (n.add (ae t12 *1))=some (.int .u8 t15)/\
 dM w λj=>(0:Int)<=(Int.fdiv t15 (2^(4)))/\∃d:UInt8,(av #[48,49,50,51,52,53,54,55,56,57,97,98,99,100,101,102])[ae (Int.fdiv t15 (2^(4)))]? =some d/\(0:Int)<=(nV .u8 t15 15)/\∃e:UInt8,(av #[48,49,50,51,52,53,54,55,56,57,97,98,99,100,101,102])[ae (nV .u8 t15 15)]? =some e/\aK j (.cells #[.int .u8 ((d.toNat:Nat):Int),.int .u8 ((e.toNat:Nat):Int)] db) λq=>
 ∃(t24:J) (k:C),a' V (bg #[bM,bM] bM #[c.v,.slice (some (nb j)) 2 2]) q=.ok (t24.v) k/\L0 t24 t10 t11 (ad .i64 (t12+1)) k R) (∃t27:ByteArray,a' V (Go.convert bM da (c.v)) w=.ok (.string t27) w/\R (U (.string t27)) w)),L0 c t10 t11 t12 w R:=mp (bL (X:=X) [az] (ai [0,1,1,1,2]) P0)
def ok(c:J)(w:C)(R:aa)(h:∃(d:J) (e:C),a' V (Instr.makeSlice bM (.i 0) (.i (ad .i64 (2 *((c.n:Nat):Int))))) w=.ok (d.v) e/\L0 d c ((c.n:Nat):Int) 0 e R):ah V CI #[c.v] w R:=aM X [az] h
end u3
namespace qq
noncomputable abbrev X:Fx:=⟨V,Tryz.f8,[(9,ls [0,1,2,4,5,7,3,6,8,9,10,11])],[1,7]⟩
abbrev P0:Ps:=[(1,.l [.s,.s] ec),(5,.v [.s]),(16,.v [.s]),(17,.v [.I]),(18,.v [.I])]
def aH(d:Nat)(e h c t16:J)(t17 t18:Int)(w:C)(R:aa):Prop:=bz P0 0 (X.Sem (ai [0,1,1,1,3])) d e h c t16 t17 t18 w R
noncomputable def az:=bK X (ai [0,1,1,1,3]) P0 aH
def bD:∀(c:Nat) (n j e t16:J) (t17 t18:Int) (w:C) (R:aa) (h:Y (af (t18<t17)) (aw t16 t18 λx=>pX w (x.add (ae t18 *4)) λy z A B=>aP [c] w λd L=>
 loc [c,d] L λM=>GH [c,d] x6 #[.agg #[y.v]] M λD P N=>loc [c,d] N λO=>eM [c,d] qe #[z.v] O λt32 E=>eM [c,d] qe #[A.v] E λt35 F=>eM [c,d] CI #[D.v] F λt37 q=>aK q (.cells #[.string (av #[98,101,103,105,110]),.string t32,.string t35,.string t37] da) λG=>
 iv [c,d] r1 #[e.v,.slice (some (nb q)) 4 4] G λt39 H=>iv [c,d] uJ #[t39.v,B.v] H λt43 u=>aK u (.cells #[.string (av #[101,110,100])] da) λI=>
 iv [c,d] r1 #[t43.v,.slice (some (nb u)) 1 1] I λt46 K=>aH c n j t46 t16 t17 (ad .i64 (t18+1)) K R) (iv [c] uJ #[e.v,j.v] w λt51 k=>∃t52:ByteArray,a' V (Go.convert bM da (t51.v)) k=.ok (.string t52) k/\R (U (.tuple #[.string t52,.i 0])) k)),aH c n j e t16 t17 t18 w R:=mp (bL (X:=X) [az] (ai [0,1,1,1,3]) P0)
def aB(c d:J)(w:C)(R:aa)(h:aP [] w λe k=>
 bG [e] ow #[.agg #[c.v,d.v]] k λt11 j=>Y (t11 !=0) (R (U (.tuple #[.s0,.i t11])) j) (aH e c d ⟨none,0,0⟩ c ((c.n:Nat):Int) 0 j R)):ah V uI #[.agg #[c.v,d.v]] w R:=aM X [az] h
end qq
def fE(s:dz):List UInt8:=uv s++[10]
section
variable {M:Nat->Prop} {w0 w:C} {L D:List En} {bs:List Nat}
def wu(w:C)(e:Nat)(vs:List ab)(ty:aF)(b:Nat):¬(En.c e vs ty).P ({w with heap:=Array.replicate (b+1) (.map #[] 0)}):=by intro d;have d:({w with heap:=Array.replicate (b+1) (.map #[] 0)}:C).heap[e]? =some (.cells vs.toArray ty (0,0)):=d;simp[Array.getElem?_replicate]at d
def po{d:Nat}{vs:List ab}{ty:aF}{b:Nat}:b∈(En.c d vs ty).fp↔b=d:=by simp[En.c,En.ob]
def _root_.Go.W.Z.y8{e:Nat}{vs:List ab}{ty:aF}(H:Z M w0 w (.c e vs ty::L) D){w':C}(f:Fr (·=e) w w'){u:List ab}(h:w'.heap[e]? =some (.cells u.toArray ty (0,0))):
  Z M w0 w' (.c e u ty::L) D/\∀k:En,k.P w'->(∀b∈k.fp,w.heap.size<=b)->Z M w0 w' (.c e u ty::L) (D++[k]):=by
 have j:Z M w0 w' (.c e u ty::L) D:=H.Pj 0 f h;refine⟨j,λk A B=>⟨j.fr,j.own,λx d=>?_,j.new,j.nd,λx d b z y q n=>?_⟩⟩
 .rcases a6.1 d with d|d
  .exact j.rd x d
  .simp at d;subst d;exact A
 .rcases a6.1 d with d|d
  .exact j.dj x d b z y q n
  .simp at d;subst d;have E:=B b z;have F:b<w.heap.size:=by
    rcases ay.1 q with rfl|q
    .have n:=po.1 n;have:=(En.c e vs ty).lt w (H.get 0) e (po.2 rfl);omega
    .exact y.lt w (H.own y (eb _ q)) b n
   omega
def _root_.Go.W.Z.pw{e:Nat}{vs:List ab}{ty:aF}(H:Z M w0 w (.c e vs ty::L) D){P:Program}{g:FuncId}{args:Array ab}{A:aa}{j:List ab}{K:aa}(q:ah P g args w λr d=>(A r d/\d.heap[e]? =some (.cells j.toArray ty (0,0)))/\Fr (·=e) w d)(u:∀r d,A r d->Z M w0 d (.c e j ty::L) D->(∀h:En,h.P d->(∀b∈h.fp,w.heap.size<=b)->Z M w0 d (.c e j ty::L) (D++[h]))->K r d):ah P g args w K:=
 q.mono λr d ⟨⟨n,k⟩,f⟩=>u r d n (H.y8 f k).1 (H.y8 f k).2
def _root_.Go.W.Z.h8{e:Nat}{vs:List ab}{ty:aF}(H:Z M w0 w (.c e vs ty::L) D){P:Program}{g:FuncId}{args:Array ab}{A:aa}{j:List ab}{K:aa}(u:ah P g args w λr d=>(A r d/\d.heap[e]? =some (.cells j.toArray ty (0,0)))/\Fr (·=e) w d)(x:∀r d,A r d->Z M w0 d (.c e j ty::L) D->(∀h:En,h.P d->(∀b∈h.fp,w.heap.size<=b)->Z M w0 d (.c e j ty::L) (D++[h]))->K r d)(bZ:∀b∈bs,En.g b∈(En.c e vs ty::L):=by simp):cV bs P g args w K:=
 ⟨(·=e),λb q y=>pR H (i:=0) rfl (wu w e vs ty) (bZ b q) (by rw[y];exact po.2 rfl),u.mono λr d ⟨⟨n,k⟩,f⟩=>⟨f,x r d n (H.y8 f k).1 (H.y8 f k).2⟩⟩
end
namespace Hr
noncomputable abbrev X:Fx:=⟨V,Tryz.f111,[],[]⟩
def ok(c:Int)(w:C)(R:aa)(h:(0:Int)<=c/\∃d:UInt8,(av #[48,49,50,51,52,53,54,55,56,57,97,98,99,100,101,102])[ae c]? =some d/\R (U (.int .u8 ((d.toNat:Nat):Int))) w):ah V uD #[.i c] w R:=aM X [] h
end Hr
namespace Hv
noncomputable abbrev X:Fx:=⟨V,Tryz.f110,[],[]⟩
def ok(c:Int)(w:C)(R:aa)(h:Y (af (c>=32)) (Y (af (c<=126)) (Y (c !=39) (R (U (.bool (c !=92))) w) (R (U (.bool false)) w)) (R (U (.bool false)) w)) (R (U (.bool false)) w)):ah V xp #[.int .u8 c] w R:=aM X [] h
end Hv
namespace tU
noncomputable abbrev X:Fx:=⟨V,Tryz.f152,[],[]⟩
abbrev P0:Ps:=[(0,.v [.Y]),(3,.v [.I])]
def L0(c d:Int)(w:C)(R:aa):Prop:=bz P0 0 (X.Sem (ai [0,1,1,1,1])) c d w R
noncomputable def az:=bK X (ai [0,1,1,1,1]) P0 L0
def cf:∀(d c:Int) (w:C) (R:aa) (h:Y (af (c<16)) (As uD #[.i c] w λj e=>Y (j==d) (R (U (.i c)) e) (L0 d (ad .i64 (c+1)) e R)) (R (U (.i (-1))) w)),L0 d c w R:=mp (bL (X:=X) [az] (ai [0,1,1,1,1]) P0)
def ok(c:Int)(w:C)(R:aa)(h:L0 c 0 w R):ah V rX #[.int .u8 c] w R:=aM X [az] h
end tU
namespace tT
noncomputable abbrev X:Fx:=⟨V,Tryz.f139,[(4,ls [0,1,2,3,6,7,8,9,4,5,10,11,12,13,14])],[]⟩
abbrev P0:Ps:=[]
abbrev S1(w:C)(R:aa):Prop:=
 R (U (.tuple #[.int .u8 0,.i 0])) w
noncomputable def aX:=aC X [] (ai [3]) P0 S1
abbrev P1:Ps:=[(0,.v [.st]),(1,.v [.I])]
abbrev S0(d:ByteArray)(c:Int)(w:C)(R:aa):Prop:=
 Y (af ((ad .i64 (c+4))<=((d.size:Nat):Int))) ((0:Int)<=c/\∃e:UInt8,d[ae c]? =some e/\Y (((e.toNat:Nat):Int)==92) ((0:Int)<=(ad .i64 (c+1))/\∃h:UInt8,d[ae (ad .i64 (c+1))]? =some h/\Y (((h.toNat:Nat):Int)==120) ((0:Int)<=(ad .i64 (c+2))/\∃j:UInt8,d[ae (ad .i64 (c+2))]? =some j/\en rX #[.int .u8 ((j.toNat:Nat):Int)] w λt58 u=>Y (af (t58>=0)) ((0:Int)<=(ad .i64 (c+3))/\∃k:UInt8,d[ae (ad .i64 (c+3))]? =some k/\en rX #[.int .u8 ((k.toNat:Nat):Int)] u λt66 x=>Y (af (t66>=0)) (dM x λy=>(0:Int)<=(ad .i64 (c+2))/\∃n:UInt8,d[ae (ad .i64 (c+2))]? =some n/\(0:Int)<=(ad .i64 (c+3))/\∃q:UInt8,d[ae (ad .i64 (c+3))]? =some q/\en rX #[.int .u8 ((n.toNat:Nat):Int)] y λt73 z=>en rX #[.int .u8 ((q.toNat:Nat):Int)] z λt79 A=>R (U (.tuple #[.int .u8 (ad .u8 (ad .i64 ((ad .i64 (16 *t73))+t79))),.i 4])) A) (S1 x R)) (S1 u R)) (S1 w R)) (S1 w R)) (S1 w R)
noncomputable def aT:=aC X [aX] (ai [2]) P1 S0
def ok(d:ByteArray)(c:Int)(w:C)(R:aa)(h:Y (af ((ad .i64 (c+3))<=((d.size:Nat):Int))) ((0:Int)<=c/\∃e:UInt8,d[ae c]? =some e/\Y (((e.toNat:Nat):Int)==39) ((0:Int)<=(ad .i64 (c+2))/\∃j:UInt8,d[ae (ad .i64 (c+2))]? =some j/\Y (((j.toNat:Nat):Int)==39) ((0:Int)<=(ad .i64 (c+1))/\∃k:UInt8,d[ae (ad .i64 (c+1))]? =some k/\gL xp #[.int .u8 ((k.toNat:Nat):Int)] w λt29 q=>Y t29 ((0:Int)<=(ad .i64 (c+1))/\∃n:UInt8,d[ae (ad .i64 (c+1))]? =some n/\R (U (.tuple #[.int .u8 ((n.toNat:Nat):Int),.i 3])) q) (S0 d c q R)) (S0 d c w R)) (S0 d c w R)) (S0 d c w R)):ah V uC #[.string d,.i c] w R:=aM X [aT,aX] h
end tT
namespace rD
noncomputable abbrev X:Fx:=⟨V,Tryz.f129,[],[4]⟩
abbrev P0:Ps:=[(4,.l [.I,.Y,.Y,.s] aL)]
abbrev aZ(t4:Nat)(d e h:Int)(j:J)(w:C)(R:aa):Prop:=
 loc [t4] w λc=>R (U (.tuple #[.agg #[.i 0,.int .u8 0,.int .u8 0,.slice none 0 0],.i 0])) c
noncomputable def aX:=aC X [] (ai [0,1,1,1,6]) P0 aZ
abbrev be(t4:Nat)(d e h:Int)(j:J)(w:C)(R:aa):Prop:=
 loc [t4] w λc=>R (U (.tuple #[.agg #[.i 0,.int .u8 0,.int .u8 0,.slice none 0 0],.i 0])) c
noncomputable def a7:=aC X [aX] (ai [0,1,1,1,9]) P0 be
abbrev P1:Ps:=[(0,.v [.st]),(1,.v [.I]),(4,.l [.I,.Y,.Y,.s] aL),(8,.v [.Y]),(11,.v [.Y]),(12,.v [.I]),(13,.v [.I])]
abbrev aY(q:ByteArray)(x:Int)(t4:Nat)(d e h:Int)(j:J)(n k y c:Int)(w:C)(R:aa):Prop:=
 Y (y==0) (be t4 d e h j w R) (Y (af (c>=((q.size:Nat):Int))) (be t4 d e h j w R) ((0:Int)<=c/\∃u:UInt8,q[ae c]? =some u/\Y (((u.toNat:Nat):Int) !=93) (be t4 d e h j w R) (Y (af (n>k)) (be t4 d e h j w R) (loc [t4] w λz=>R (U (.tuple #[.agg #[.i 2,.int .u8 n,.int .u8 k,.slice none 0 0],.i (ad .i64 ((ad .i64 (c+1)) - x))])) z))))
noncomputable def a1:=aC X [a7,aX] (ai [9]) P1 aY
abbrev P2:Ps:=[(0,.v [.st]),(1,.v [.I]),(4,.l [.I,.Y,.Y,.s] aL),(8,.v [.Y]),(9,.v [.I]),(10,.v [.I])]
abbrev aS(d:ByteArray)(u:Int)(t4:Nat)(e h j:Int)(k:J)(y x c:Int)(w:C)(R:aa):Prop:=
 Y (x==0) (aZ t4 e h j k w R) (Y (af (c>=((d.size:Nat):Int))) (aZ t4 e h j k w R) ((0:Int)<=c/\∃n:UInt8,d[ae c]? =some n/\Y (((n.toNat:Nat):Int) !=45) (aZ t4 e h j k w R) (Ax [t4] uC #[.string d,.i (ad .i64 (c+1))] w λz q A=>aY d u t4 e h j k y z q (ad .i64 ((ad .i64 (c+1))+q)) A R)))
noncomputable def aT:=aC X [a1,a7,aX] (ai [6]) P2 aS
def aB(e:ByteArray)(c:Int)(w:C)(R:aa)(h:aP [] w λd y=>
 Ax [d] uC #[.string e,.i c] y λk n j=>Y (af (n>0)) (loc [d] j λB=>R (U (.tuple #[.agg #[.i 2,.int .u8 k,.int .u8 k,.slice none 0 0],.i n])) B) ((0:Int)<=c/\∃q:UInt8,e[ae c]? =some q/\Y (((q.toNat:Nat):Int) !=91) (loc [d] j λz=>R (U (.tuple #[.agg #[.i 0,.int .u8 0,.int .u8 0,.slice none 0 0],.i 0])) z) (Ax [d] uC #[.string e,.i (ad .i64 (c+1))] j λx u A=>aS e c d 0 0 0 ⟨none,0,0⟩ x u (ad .i64 ((ad .i64 (c+1))+u)) A R))):ah V Ch #[.string e,.i c] w R:=aM X [aT,a1,a7,aX] h
end rD
namespace jb
noncomputable abbrev X:Fx:=⟨V,Tryz.f104,[(11,ls [0,1,2,3,4,5,6,7,8,9,10,11,12])],[5]⟩
abbrev P0:Ps:=[(0,.v [.st]),(3,.v [.s]),(4,.v [.I])]
def aH(e:ByteArray)(d:J)(c:Int)(w:C)(R:aa):Prop:=bz P0 0 (X.Sem (ai [0,1,1,1,2])) e d c w R
noncomputable def az:=bK X (ai [0,1,1,1,2]) P0 aH
abbrev P1:Ps:=[(0,.v [.st]),(3,.v [.s]),(4,.v [.I]),(5,.l [.I,.Y,.Y,.s] aL),(6,.v [.I])]
def bO(u:ByteArray)(e:J)(c:Int)(h:Nat)(j k n:Int)(q:J)(d:Int)(w:C)(R:aa):Prop:=bz P1 0 (X.Sem (ai [0,1,1,1,1,1,2,1,1,2,1,1,2])) u e c h j k n q d w R
noncomputable def bx:=bK X (ai [0,1,1,1,1,1,2,1,1,2,1,1,2]) P1 bO
abbrev aY(e:ByteArray)(q:J)(c:Int)(j:Nat)(u x y:Int)(z:J)(d:Int)(w:C)(R:aa):Prop:=
 (0:Int)<=(ad .i64 (c+d))/\(ad .i64 (c+d))<=((e.size:Nat):Int)/\(0:Int)<=c/\c<=(((ae (ad .i64 (c+d))):Nat):Int)/\loc [j] w λk=>aK k (.cells #[.string (e.extract (ae c) (ae (ad .i64 (c+d)))),.i c,.i u,.int .u8 x,.int .u8 y,z.v] lU) λn=>
 ∃(t72:J) (h:C),a' V (bg #[mK,mK] mK #[q.v,.slice (some (nb k)) 1 1]) n=.ok (t72.v) h/\kept [j] n h/\aH e t72 (ad .i64 (c+d)) h R
noncomputable def a1:=aC X [bx,az] (ai [3,1,1,2,1,1,2]) P1 aY
def eh:∀(e:ByteArray) (j:J) (c:Int) (k:Nat) (n q u:Int) (x:J) (d:Int) (w:C) (R:aa) (h:(0:Int)<=c/\∃y:UInt8,e[ae c]? =some y/\Y (af (((y.toNat:Nat):Int)>=97)) ((0:Int)<=c/\∃z:UInt8,e[ae c]? =some z/\Y (af (((z.toNat:Nat):Int)<=122)) (Y (af ((ad .i64 (c+d))<((e.size:Nat):Int))) ((0:Int)<=(ad .i64 (c+d))/\∃A:UInt8,e[ae (ad .i64 (c+d))]? =some A/\Y (af (((A.toNat:Nat):Int)>=97)) ((0:Int)<=(ad .i64 (c+d))/\∃B:UInt8,e[ae (ad .i64 (c+d))]? =some B/\Y (af (((B.toNat:Nat):Int)<=122)) (bO e j c k n q u x (ad .i64 (d+1)) w R) (aY e j c k n q u x d w R)) (aY e j c k n q u x d w R)) (aY e j c k n q u x d w R)) (aY e j c k n q u x d w R)) (aY e j c k n q u x d w R)),bO e j c k n q u x d w R:=mp (bL (X:=X) [a1,bx,az] (ai [0,1,1,1,1,1,2,1,1,2,1,1,2]) P1)
def bD:∀(d:ByteArray) (e:J) (c:Int) (w:C) (R:aa) (h:Y (af (c<((d.size:Nat):Int))) ((0:Int)<=c/\∃n:UInt8,d[ae c]? =some n/\Y (((n.toNat:Nat):Int)==32) (aH d e (ad .i64 (c+1)) w R) (O' Ch #[.string d,.i c] w λq u x y z D=>aP [] D λj A=>
 Y (z==0) (loc [j] A λk=>bO d e c j q u x y 1 k R) (loc [j] A λk=>aY d e c j q u x y z k R))) (aK w (.cells #[.s0,.i ((d.size:Nat):Int),.i 0,.int .u8 0,.int .u8 0,.slice none 0 0] lU) λE=>
 ∃(t81:J) (B:C),a' V (bg #[mK,mK] mK #[e.v,.slice (some (nb w)) 1 1]) E=.ok (t81.v) B/\R (U (t81.v)) B)),aH d e c w R:=mp (bL (X:=X) [a1,bx,az] (ai [0,1,1,1,2]) P0)
def aB(c:ByteArray)(w:C)(R:aa)(h:aH c ⟨none,0,0⟩ 0 w R):ah V Cc #[.string c] w R:=aM X [a1,bx,az] h
end jb
namespace Hy
noncomputable abbrev X:Fx:=⟨V,Tryz.f141,[(3,ls [0,1,2,3,4,5,6,7,8,9,10,11])],[]⟩
def ok(c:Addr)(w:C)(R:aa)(h:∃e:Bool,w.cell? (c.add 2)=some (.bool e)/\
 Y e (R (U (.string (av #[32]))) w) (dM w λd=>∃t10:J,d.cell? (c.add 0)=some (t10.v)/\
 ∃t14:Int,d.cell? (c.add 1)=some (.i t14)/\
 aw t10 t14 λj=>∃t17:ByteArray,d.cell? ((j.add (ae t14 *6)).add 0)=some (.string t17)/\
 R (U (.string t17)) d)):ah V uE #[.pointer (some c)] w R:=aM X [] h
end Hy
namespace Hz
noncomputable abbrev X:Fx:=⟨V,Tryz.f131,[],[]⟩
abbrev P0:Ps:=[]
abbrev S0(w:C)(R:aa):Prop:=
 R (U (.bool true)) w
noncomputable def aT:=aC X [] (ai [3]) P0 S0
def ok(c:Addr)(e:ByteArray)(w:C)(R:aa)(h:mc uE #[.pointer (some c)] w λj d=>Y (!(j.toList==e.toList)) (R (U (.bool false)) d) (Y (!(e.toList==(av #[]).toList)) (∃t14:Int,d.cell? (c.add 1)=some (.i t14)/\
 ao d (c.add 1) (.i (ad .i64 (t14+1))) λk=>
 S0 k R) (S0 d R))):ah V nl #[.pointer (some c),.string e] w R:=aM X [aT] h
end Hz
namespace Hx
noncomputable abbrev X:Fx:=⟨V,Tryz.f106,[],[]⟩
def ok(c:Addr)(d:ByteArray)(w:C)(R:aa)(h:gL nl #[.pointer (some c),.string d] w λj e=>Y (!j) (ao e (c.add 2) (.bool true) λk=>
 R (U (.tuple #[])) k) (R (U (.tuple #[])) e)):ah V qc #[.pointer (some c),.string d] w R:=aM X [] h
end Hx
namespace Ht
noncomputable abbrev X:Fx:=⟨V,Tryz.f132,[],[4]⟩
def aB(j:Int)(c:J)(w:C)(R:aa)(h:aP [] w λe d=>
 Y (((c.n:Nat):Int)==1) (aw c 0 λy=>bH d (y.add (ae 0 *4)) λk q u x=>loc [e] d λz=>R (U (.agg #[.i k,.int .u8 q,.int .u8 u,x.v])) z) (loc [e] d λA=>R (U (.agg #[.i j,.int .u8 0,.int .u8 0,c.v])) A)):ah V ov #[.i j,c.v] w R:=aM X [] h
end Ht
namespace Hw
noncomputable abbrev X:Fx:=⟨V,Tryz.f154,[],[]⟩
def ok(e:Addr)(w:C)(R:aa)(h:mc uE #[.pointer (some e)] w λd c=>∃j:Bool,c.cell? (e.add 2)=some (.bool j)/\
 Y (!j) (Y (!(d.toList==(av #[]).toList)) (Y (!(d.toList==(av #[41]).toList)) (Y (!(d.toList==(av #[44]).toList)) (Y (!(d.toList==(av #[124]).toList)) (R (U (.bool (!(d.toList==(av #[38]).toList)))) c) (R (U (.bool false)) c)) (R (U (.bool false)) c)) (R (U (.bool false)) c)) (R (U (.bool false)) c)) (R (U (.bool false)) c)):ah V Ci #[.pointer (some e)] w R:=aM X [] h
end Hw
namespace tW
noncomputable abbrev X:Fx:=⟨V,Tryz.f105,[],[2]⟩
abbrev P0:Ps:=[(0,.v [.r]),(2,.l [.I,.Y,.Y,.s] aL),(3,.v [.s])]
def aH(d:Addr)(t2:Nat)(e h j:Int)(k c:J)(w:C)(R:aa):Prop:=bz P0 0 (X.Sem (ai [0,2,2])) d t2 e h j k c w R
noncomputable def az:=bK X (ai [0,2,2]) P0 aH
def bD:∀(c:Addr) (t2:Nat) (j k n:Int) (q d:J) (w:C) (R:aa) (h:bP [t2] nl #[.pointer (some c),.string (av #[124])] w λI u=>Y I (eT [t2] rY #[.pointer (some c)] u λz A B D x=>aK x (.cells #[.i z,.int .u8 A,.int .u8 B,D.v] aL) λy=>
 ∃(t13:J) (e:C),a' V (bg #[bI,bI] bI #[d.v,.slice (some (nb x)) 1 1]) y=.ok (t13.v) e/\kept [t2] y e/\aH c t2 j k n q t13 e R) (eT [t2] ov #[.i 4,d.v] u λE F G H L=>loc [t2] L λK=>R (U (.agg #[.i E,.int .u8 F,.int .u8 G,H.v])) K)),aH c t2 j k n q d w R:=mp (bL (X:=X) [az] (ai [0,2,2]) P0)
def aB(c:Addr)(w:C)(R:aa)(h:aP [] w λd u=>
 eT [d] rY #[.pointer (some c)] u λj k n q e=>aK e (.cells #[.i j,.int .u8 k,.int .u8 n,q.v] aL) λx=>
 aH c d 0 0 0 ⟨none,0,0⟩ ⟨some (nb e),1,1⟩ x R):ah V qa #[.pointer (some c)] w R:=aM X [az] h
end tW
namespace tV
noncomputable abbrev X:Fx:=⟨V,Tryz.f130,[],[2]⟩
abbrev P0:Ps:=[(0,.v [.r]),(2,.l [.I,.Y,.Y,.s] aL),(3,.v [.s])]
def aH(d:Addr)(t2:Nat)(e h j:Int)(k c:J)(w:C)(R:aa):Prop:=bz P0 0 (X.Sem (ai [0,2,2])) d t2 e h j k c w R
noncomputable def az:=bK X (ai [0,2,2]) P0 aH
def bD:∀(c:Addr) (t2:Nat) (j k n:Int) (q d:J) (w:C) (R:aa) (h:bP [t2] nl #[.pointer (some c),.string (av #[38])] w λI u=>Y I (eT [t2] rZ #[.pointer (some c)] u λz A B D x=>aK x (.cells #[.i z,.int .u8 A,.int .u8 B,D.v] aL) λy=>
 ∃(t13:J) (e:C),a' V (bg #[bI,bI] bI #[d.v,.slice (some (nb x)) 1 1]) y=.ok (t13.v) e/\kept [t2] y e/\aH c t2 j k n q t13 e R) (eT [t2] ov #[.i 5,d.v] u λE F G H L=>loc [t2] L λK=>R (U (.agg #[.i E,.int .u8 F,.int .u8 G,H.v])) K)),aH c t2 j k n q d w R:=mp (bL (X:=X) [az] (ai [0,2,2]) P0)
def aB(c:Addr)(w:C)(R:aa)(h:aP [] w λd u=>
 eT [d] rZ #[.pointer (some c)] u λj k n q e=>aK e (.cells #[.i j,.int .u8 k,.int .u8 n,q.v] aL) λx=>
 aH c d 0 0 0 ⟨none,0,0⟩ ⟨some (nb e),1,1⟩ x R):ah V rY #[.pointer (some c)] w R:=aM X [az] h
end tV
namespace tY
noncomputable abbrev X:Fx:=⟨V,Tryz.f140,[],[2]⟩
abbrev P0:Ps:=[(0,.v [.r]),(2,.l [.I,.Y,.Y,.s] aL),(3,.v [.s])]
def aH(d:Addr)(t2:Nat)(e h j:Int)(k c:J)(w:C)(R:aa):Prop:=bz P0 0 (X.Sem (ai [0,2,2])) d t2 e h j k c w R
noncomputable def az:=bK X (ai [0,2,2]) P0 aH
def bD:∀(c:Addr) (t2:Nat) (j k n:Int) (q d:J) (w:C) (R:aa) (h:bP [t2] Ci #[.pointer (some c)] w λI u=>Y I (eT [t2] qb #[.pointer (some c)] u λz A B D x=>aK x (.cells #[.i z,.int .u8 A,.int .u8 B,D.v] aL) λy=>
 ∃(t13:J) (e:C),a' V (bg #[bI,bI] bI #[d.v,.slice (some (nb x)) 1 1]) y=.ok (t13.v) e/\kept [t2] y e/\aH c t2 j k n q t13 e R) (eT [t2] ov #[.i 3,d.v] u λE F G H L=>loc [t2] L λK=>R (U (.agg #[.i E,.int .u8 F,.int .u8 G,H.v])) K)),aH c t2 j k n q d w R:=mp (bL (X:=X) [az] (ai [0,2,2]) P0)
def aB(c:Addr)(w:C)(R:aa)(h:aP [] w λd u=>
 eT [d] qb #[.pointer (some c)] u λj k n q e=>aK e (.cells #[.i j,.int .u8 k,.int .u8 n,q.v] aL) λx=>
 aH c d 0 0 0 ⟨none,0,0⟩ ⟨some (nb e),1,1⟩ x R):ah V rZ #[.pointer (some c)] w R:=aM X [az] h
end tY
namespace wL
noncomputable abbrev X:Fx:=⟨V,Tryz.f153,[],[2,4]⟩
abbrev P0:Ps:=[(0,.v [.r]),(2,.l [.I,.Y,.Y,.s] aL),(4,.l [.I,.Y,.Y,.s] aL)]
def aH(c:Addr)(t2:Nat)(n q u:Int)(x:J)(d:Nat)(e h j:Int)(k:J)(w:C)(R:aa):Prop:=bz P0 0 (X.Sem (ai [0,2,4])) c t2 n q u x d e h j k w R
noncomputable def az:=bK X (ai [0,2,4]) P0 aH
def bD:∀(d:Addr) (t2:Nat) (u x y:Int) (z:J) (c:Nat) (e j k:Int) (n:J) (w:C) (R:aa) (h:bP [t2,c] nl #[.pointer (some d),.string (av #[42])] w λt15 q=>Y t15 (aK q (.cells #[.i e,.int .u8 j,.int .u8 k,n.v] aL) λA=>
 loc [t2,c] A λB=>aH d t2 u x y z c 7 0 0 ⟨some (nb q),1,1⟩ B R) (loc [t2,c] q λD=>R (U (.agg #[.i e,.int .u8 j,.int .u8 k,n.v])) D)),aH d t2 u x y z c e j k n w R:=mp (bL (X:=X) [az] (ai [0,2,4]) P0)
def aB(d:Addr)(w:C)(R:aa)(h:aP [] w λc E=>
 bP [c] nl #[.pointer (some d),.string (av #[33])] E λy j=>Y y (eT [c] qb #[.pointer (some d)] j λz A B D k=>aK k (.cells #[.i z,.int .u8 A,.int .u8 B,D.v] aL) λH=>
 loc [c] H λI=>R (U (.agg #[.i 6,.int .u8 0,.int .u8 0,.slice (some (nb k)) 1 1])) I) (eT [c] xq #[.pointer (some d)] j λn q u x J=>aP [c] J λe F=>
 loc [c,e] F λG=>aH d c 0 0 0 ⟨none,0,0⟩ e n q u x G R)):ah V qb #[.pointer (some d)] w R:=aM X [az] h
end wL
namespace n4
noncomputable abbrev X:Fx:=⟨V,Tryz.f180,[(1,ls [0,1,2,3,4,5,6,7,8,9,10,11,12,13,14,15,16,17,18,19]),(3,ls [0,1,2,3,4,5,6,7,8,9,10,11,12]),(8,ls [0,1,2,3,5,6,7,8,4,9,10])],[2,5,6]⟩
abbrev P0:Ps:=[(0,.v [.r]),(2,.l [.I,.Y,.Y,.s] aL),(3,.v [.s]),(4,.v [.I])]
def bO(d:Addr)(t2:Nat)(e h j:Int)(k n:J)(c:Int)(w:C)(R:aa):Prop:=bz P0 0 (X.Sem (ai [0,1,1,1,3])) d t2 e h j k n c w R
noncomputable def bx:=bK X (ai [0,1,1,1,3]) P0 bO
abbrev aY(d:Addr)(t2:Nat)(e h j:Int)(k n:J)(c:Int)(w:C)(R:aa):Prop:=
 bO d t2 e h j k n (ad .i64 (c+1)) w R
noncomputable def a1:=aC X [bx] (ai [2,2,1,1,3]) P0 aY
abbrev P1:Ps:=[(2,.l [.I,.Y,.Y,.s] aL),(5,.l [.I,.Y,.Y,.s] aL)]
abbrev be(t2:Nat)(n q u:Int)(x:J)(c:Nat)(d e h:Int)(j:J)(w:C)(R:aa):Prop:=
 loc [t2,c] w λk=>R (U (.agg #[.i d,.int .u8 e,.int .u8 h,j.v])) k
noncomputable def a7:=aC X [a1,bx] (ai [4,2,1,2,1,1,3]) P1 be
def eh:∀(d:Addr) (t2:Nat) (j k n:Int) (q y:J) (c:Int) (w:C) (R:aa) (h:Y (af (c<6)) (Y (c==2) (loc [t2] w λx=>aY d t2 j k n q y c x R) (aw y c λD=>loc [t2] w λx=>∃t59:ByteArray,x.cell? (D.add (ae c *1))=some (.string t59)/\
 eM [t2] uE #[.pointer (some d)] x λt55 u=>u.cell? (D.add (ae c *1))=some (.string t59)/\Y (!(t55.toList==t59.toList)) (aY d t2 j k n q y c u R) (∃t65:Int,u.cell? (d.add 1)=some (.i t65)/\
 ao u (d.add 1) (.i (ad .i64 (t65+1))) λE=>kept [t2] u E/\
 aP [t2] E λe F=>
 Y (af (c>2)) (loc [t2,e] F λB=>iv [t2,e] xr #[.pointer (some d)] B λt74 L=>loc [t2,e] L λM=>be t2 j k n q e c 0 0 t74 M R) (loc [t2,e] F λB=>be t2 j k n q e c 0 0 ⟨none,0,0⟩ B R)))) (fY [t2] qc #[.pointer (some d),.string (av #[40])] w λA=>∃t82:Bool,A.cell? (d.add 2)=some (.bool t82)/\
 Y t82 (loc [t2] A λN=>R (U (.agg #[.i 0,.int .u8 0,.int .u8 0,.slice none 0 0])) N) (eT [t2] qa #[.pointer (some d)] A λG H I K O=>aP [t2] O λz P=>
 loc [t2,z] P λQ=>fY [t2,z] qc #[.pointer (some d),.string (av #[41])] Q λS=>loc [t2,z] S λT=>R (U (.agg #[.i G,.int .u8 H,.int .u8 I,K.v])) T))),bO d t2 j k n q y c w R:=mp (bL (X:=X) [a7,a1,bx] (ai [0,1,1,1,3]) P0)
abbrev P2:Ps:=[(0,.v [.r]),(2,.l [.I,.Y,.Y,.s] aL)]
abbrev aS(c:Addr)(t2:Nat)(d e h:Int)(j:J)(w:C)(R:aa):Prop:=
 aK w (.cells #[.string (av #[110,111,110,101]),.string (av #[101,109,112,116,121]),.s0,.string (av #[99,97,116]),.string (av #[97,108,116]),.string (av #[97,108,108])] da) λk=>
 bO c t2 d e h j ⟨some (nb w),6,6⟩ 0 k R
noncomputable def aT:=aC X [a7,a1,bx] (ai [2]) P2 aS
def aB(c:Addr)(w:C)(R:aa)(h:aP [] w λe A=>
 loc [e] A λd=>∃t10:Bool,d.cell? (c.add 2)=some (.bool t10)/\
 Y (!t10) (∃t16:J,d.cell? (c.add 0)=some (t16.v)/\
 ∃t20:Int,d.cell? (c.add 1)=some (.i t20)/\
 aw t16 t20 λn=>∃t24:Int,d.cell? (((n.add (ae t20 *6)).add 2).add 0)=some (.i t24)/\
 Y (t24==2) (∃t30:Int,d.cell? (c.add 1)=some (.i t30)/\
 ao d (c.add 1) (.i (ad .i64 (t30+1))) λk=>kept [e] d k/\
 loc [e] k λj=>∃t37:J,j.cell? (c.add 0)=some (t37.v)/\
 ∃t41:Int,j.cell? (c.add 1)=some (.i t41)/\
 aw t37 (ad .i64 (t41 - 1)) λq=>bH j ((q.add (ae (ad .i64 (t41 - 1)) *6)).add 2) λu x y z=>loc [e] j λB=>R (U (.agg #[.i u,.int .u8 x,.int .u8 y,z.v])) B) (aS c e 0 0 0 ⟨none,0,0⟩ d R)) (aS c e 0 0 0 ⟨none,0,0⟩ d R)):ah V xq #[.pointer (some c)] w R:=aM X [aT,a7,a1,bx] h
end n4
namespace tX
noncomputable abbrev X:Fx:=⟨V,Tryz.f195,[],[]⟩
abbrev P0:Ps:=[]
abbrev S0(w:C)(R:aa):Prop:=
 R (U (.slice none 0 0)) w
noncomputable def aT:=aC X [] (ai [0,1,1,1,3]) P0 S0
abbrev P1:Ps:=[(0,.v [.r]),(4,.v [.s])]
def L1(d:Addr)(c:J)(w:C)(R:aa):Prop:=bz P1 0 (X.Sem (ai [0,2,5])) d c w R
noncomputable def bx:=bK X (ai [0,2,5]) P1 L1
def j3:∀(c:Addr) (d:J) (w:C) (R:aa) (h:gL nl #[.pointer (some c),.string (av #[44])] w λt20 e=>Y t20 (ll qa #[.pointer (some c)] e λn q u x j=>aK j (.cells #[.i n,.int .u8 q,.int .u8 u,x.v] aL) λy=>
 ∃(t25:J) (k:C),a' V (bg #[bI,bI] bI #[d.v,.slice (some (nb j)) 1 1]) y=.ok (t25.v) k/\L1 c t25 k R) (e0 qc #[.pointer (some c),.string (av #[41])] e λz=>R (U (d.v)) z)),L1 c d w R:=mp (bL (X:=X) [bx,aT] (ai [0,2,5]) P1)
def ok(c:Addr)(w:C)(R:aa)(h:e0 qc #[.pointer (some c),.string (av #[40])] w λx=>gL nl #[.pointer (some c),.string (av #[41])] x λu d=>∃t12:Bool,d.cell? (c.add 2)=some (.bool t12)/\
 Y t12 (S0 d R) (Y u (S0 d R) (ll qa #[.pointer (some c)] d λj k n q e=>aK e (.cells #[.i j,.int .u8 k,.int .u8 n,q.v] aL) λy=>
 L1 c ⟨some (nb e),1,1⟩ y R))):ah V xr #[.pointer (some c)] w R:=aM X [bx,aT] h
end tX
namespace Hp
noncomputable abbrev X:Fx:=⟨V,Tryz.f85,[(7,ls [0,1,2,3,4,5,6,7,8,9,10,11,12,13,14])],[2,6]⟩
def aB(j:ByteArray)(w:C)(R:aa)(h:aP [] w λc B=>
 Y (af (((j.size:Nat):Int)>4096)) (loc [c] B λH=>R (U (.tuple #[.agg #[.i 0,.int .u8 0,.int .u8 0,.slice none 0 0],.i 4096,.i 4])) H) (iv [c] Cc #[.string j] B λt12 d=>aK d (.cells #[t12.v,.i 0,.bool false] EK) λI=>
 eT [c] qa #[.pointer (some (nb d))] I λu x y z K=>aP [c] K λe L=>
 loc [c,e] L λE=>fY [c,e] qc #[.pointer (some (nb d)),.s0] E λq=>∃t22:Bool,q.cell? ((nb d).add 2)=some (.bool t22)/\
 Y t22 (loc [c,e] q λk=>∃t27:J,k.cell? ((nb d).add 0)=some (t27.v)/\
 ∃t31:Int,k.cell? ((nb d).add 1)=some (.i t31)/\
 aw t27 t31 λA=>∃t34:Int,k.cell? ((A.add (ae t31 *6)).add 1)=some (.i t34)/\
 loc [c,e] k λn=>n.cell? ((A.add (ae t31 *6)).add 1)=some (.i t34)/\n.cell? ((nb d).add 1)=some (.i t31)/\n.cell? ((nb d).add 0)=some (t27.v)/\R (U (.tuple #[.agg #[.i 0,.int .u8 0,.int .u8 0,.slice none 0 0],.i t34,.i 2])) n) (bG [c,e] p' #[.agg #[.i u,.int .u8 x,.int .u8 y,z.v]] q λt36 D=>Y (af (t36>64)) (loc [c,e] D λF=>R (U (.tuple #[.agg #[.i 0,.int .u8 0,.int .u8 0,.slice none 0 0],.i ((j.size:Nat):Int),.i 4])) F) (loc [c,e] D λG=>R (U (.tuple #[.agg #[.i u,.int .u8 x,.int .u8 y,z.v],.i 0,.i 0])) G)))):ah V Ca #[.string j] w R:=aM X [] h
end Hp
def gj{s:ByteArray}{i:Nat}(h:i<s.size):s[i]? =some (gQ (bl s) i):=by rw[getElem?_pos s i h];unfold gQ;rw[List.getD_eq_getElem?_getD,a9 (show i<(bl s).length by rw[eS];exact h)];rfl
def vM{x:UInt8}{n:Nat}{A c:Prop}(k:n<256)(e:(x==dP n)=true->A)(h:(x==dP n)=false->c):Y (((x.toNat:Nat):Int)==(n:Int)) A c:=by
 have j:x.toNat=n↔x=dP n:=by rw[<-UInt8.toNat_inj,UInt8.toNat_ofNat'];omega
 refine aJ (λd=>e (by grind)) (λd=>h (by grind))
def vL{x:UInt8}{n:Nat}{A c:Prop}(k:n<256)(e:(x==dP n)=false->A)(h:(x==dP n)=true->c):Y (((x.toNat:Nat):Int) !=(n:Int)) A c:=by
 have j:x.toNat=n↔x=dP n:=by rw[<-UInt8.toNat_inj,UInt8.toNat_ofNat'];omega
 refine cD (λd=>e (by grind)) (λd=>h (by grind))
def FA{p:UInt8->Prop}(h:∀d:Fin 256,p (dP d.val))(c:UInt8):p c:=by have:=h ⟨c.toNat,c.toNat_lt⟩;simpa using this
def PR:∀c:Fin 16,(av #[48,49,50,51,52,53,54,55,56,57,97,98,99,100,101,102])[c.val]? =some (hn c.val):=by decide+kernel
def Ap(n:Nat)(h:n<16)(w:C):ah V uD #[.i (n:Int)] w λr c=>r=U (.int .u8 ((hn n).toNat:Int))/\aj w c:=
 Hr.ok _ w _ ⟨by omega,_,PR ⟨n,h⟩,rfl,Fr.refl _ _⟩
def Gt(c:UInt8)(w:C):ah V xp #[.int .u8 (c.toNat:Int)] w λr q=>r=U (.bool (mz c))/\aj w q:=by
 refine Hv.ok _ w _ (aQ (λj=>aQ (λk=>vL (n:=39) (by omega) (λe=>⟨?_,Fr.refl _ _⟩) (λe=>⟨?_,Fr.refl _ _⟩)) (λk=>⟨?_,Fr.refl _ _⟩)) (λj=>⟨?_,Fr.refl _ _⟩))
 .have d:(((c.toNat:Nat):Int) !=92)= !(c==92):=by
   have:=@vL c 92 (((((c.toNat:Nat):Int) !=92)=true)/\(c==92)=false) (((((c.toNat:Nat):Int) !=92)=false)/\(c==92)=true);cases u:(((c.toNat:Nat):Int) !=92)with
   |true=>
    have h:c≠92:=λd=>by subst d;grind
    grind
   |false=>
    have h:c=92:=by
     rw[<-UInt8.toNat_inj]
     grind
    grind
  rw[d];unfold mz
  grind
 .have e:(c==39)=true:=e;unfold mz
  grind
 .unfold mz
  grind
 .unfold mz
  grind
def SV:∀c:Fin 16,ie (hn c.val)=(c.val:Int):=by decide+kernel
def SY:∀c:Fin 256,ie (dP c.val)=-1\/∃d:Fin 16,hn d.val=dP c.val:=by decide+kernel
def SW:∀c:Fin 256,ie (dP c.val)<16:=by decide+kernel
def wt(c:UInt8)(w:C):ah V rX #[.int .u8 (c.toNat:Int)] w λr j=>r=U (.int .i64 (ie c))/\aj w j:=by
 have loop:∀(d i:Nat) (e:C),i+d=16->(∀h,h<i->hn h≠c)->aj w e->tU.L0 c.toNat (i:Int) e λr j=>r=U (.int .i64 (ie c))/\aj w j:=by
  intro d;induction d with
  |zero=>
   intro i e q u f;refine tU.cf _ _ _ _ (bb (a2 (by omega)) ⟨?_,f⟩);have:=FA (p:=λc=>ie c=-1\/∃y:Fin 16,hn y.val=c) SY c
   grind
  |succ d x=>
   intro i e q u f;refine tU.cf _ _ _ _ (a8 (a0 (by omega)) ((Ap i (by omega) e).mono ?_));rintro _ z ⟨rfl,k⟩;refine⟨_,rfl,aJ (λn=>⟨?_,f.ew k⟩) (λn=>?_)⟩
   .have A:hn i=c:=by rw[<-UInt8.toNat_inj];omega
    have:=SV ⟨i,by omega⟩
    grind
   .rw [bA _ (by omega)];refine x (i+1) z (by omega) (λh B=>?_) (f.ew k)
    grind
 exact tU.ok _ w _ (loop 16 0 w (by omega) (λh n=>by omega) (Fr.refl _ _))
def yr(x:UInt8×Nat):cQ:=U (.tuple #[.int .u8 (x.1.toNat:Int),.i (x.2:Int)])
def SZ:∀c d:Fin 16,ad .u8 (ad .i64 ((ad .i64 (16 *(c.val:Int)))+(d.val:Int)))=((dP ((16 *(c.val:Int)+(d.val:Int)).toNat)).toNat:Int):=by decide+kernel
def JF{c:UInt8}(h:0<=ie c):∃d:Fin 16,ie c=(d.val:Int):=by have:=FA (p:=λc=>ie c<16) SW c;exact⟨⟨(ie c).toNat,by omega⟩,by grind⟩
def Ao(s:ByteArray)(i:Nat)(hi:i<=1000000)(w:C):ah V uC #[.string s,.i (i:Int)] w λr d=>r=yr (hl (bl s) i)/\aj w d:=by
 have u:ad .i64 ((i:Int)+1)=((i+1:Nat):Int):=by rw[bf _ (by omega)];omega
 have x:ad .i64 ((i:Int)+2)=((i+2:Nat):Int):=by rw[bf _ (by omega)];omega
 have y:ad .i64 ((i:Int)+3)=((i+3:Nat):Int):=by rw[bf _ (by omega)];omega
 have E:ad .i64 ((i:Int)+4)=((i+4:Nat):Int):=by rw[bf _ (by omega)];omega
 have S:(bl s).length=s.size:=eS s;have no:∀d,aj w d->hl (bl s) i=(0,0)->tT.S1 d (λr d=>r=yr (hl (bl s) i)/\aj w d):=λd f A=>⟨by rw[A];rfl,f⟩;have st:∀d,aj w d->(af (i+3<=(bl s).length)&&gQ (bl s) i==39&&gQ (bl s) (i+2)==39&&mz (gQ (bl s) (i+1)))=false->tT.S0 s (i:Int) d (λr d=>r=yr (hl (bl s) i)/\aj w d):=by
  intro d f T;have D:(af (i+4<=(bl s).length)&&gQ (bl s) i==92&&gQ (bl s) (i+1)==120&&af (0<=ie (gQ (bl s) (i+2)))&&af (0<=ie (gQ (bl s) (i+3))))=false->∀d,aj w d->tT.S1 d (λr d=>r=yr (hl (bl s) i)/\aj w d):=λA d f=>no d f (by
   unfold hl
   grind)
  show Y _ _ _;rw[E,y,x,u];refine aQ (λK=>⟨by omega,_,gj (i:=i) (by omega),vM (n:=92) (by omega) (λe=>⟨by omega,_,gj (i:=i+1) (by omega),vM (n:=120) (by omega) (λh=>⟨by omega,_,gj (i:=i+2) (by omega),(wt _ d).mono ?_⟩) (λh=>?_)⟩) (λe=>?_)⟩) (λK=>?_)
  rotate_left
  .grind
  .grind
  .grind
  rintro _ k ⟨rfl,j⟩;refine⟨_,rfl,aQ (λL=>⟨by omega,_,gj (i:=i+3) (by omega),(wt _ k).mono ?_⟩) (λL=>D (by grind) k (f.ew j))⟩;rintro _ q ⟨rfl,z⟩;refine⟨_,rfl,aQ (λN=>?_) (λN=>D (by grind) q ((f.ew j).ew z))⟩;have G:aj w q.drew:=((f.ew j).ew z).ew (Fr.drew _ _);refine(show dM q _ from ?_);refine⟨by omega,_,gj (i:=i+2) (by omega),by omega,_,gj (i:=i+3) (by omega),(wt _ _).mono ?_⟩;rintro _ W ⟨rfl,H⟩;refine⟨_,rfl,(wt _ _).mono ?_⟩;rintro _ Z ⟨rfl,I⟩;refine⟨_,rfl,?_,(G.ew H).ew I⟩;have e:(gQ (bl s) i==92)=true:=e;have h:(gQ (bl s) (i+1)==120)=true:=h;have F:hl (bl s) i=(dP ((16 *ie (gQ (bl s) (i+2))+ie (gQ (bl s) (i+3))).toNat),4):=by
   unfold hl
   grind
  rw[F];obtain⟨P,M⟩:=JF (c:=gQ (bl s) (i+2)) (by omega);obtain⟨Q,O⟩:=JF (c:=gQ (bl s) (i+3)) (by omega);rw[M,O,SZ P Q];rfl
 refine tT.ok _ _ w _ ?_;rw[y,x,u];refine aQ (λJ=>⟨by omega,_,gj (i:=i) (by omega),vM (n:=39) (by omega) (λe=>⟨by omega,_,gj (i:=i+2) (by omega),vM (n:=39) (by omega) (λh=>⟨by omega,_,gj (i:=i+1) (by omega),(Gt _ w).mono ?_⟩) (λh=>?_)⟩) (λe=>?_)⟩) (λJ=>?_)
 rotate_left
 .exact st w (Fr.refl _ _) (by grind)
 .exact st w (Fr.refl _ _) (by grind)
 .exact st w (Fr.refl _ _) (by grind)
 rintro _ k ⟨rfl,j⟩;refine⟨_,rfl,cK (λB=>⟨by omega,_,gj (i:=i+1) (by omega),?_,j⟩) (λB=>st k j (by grind))⟩;have e:(gQ (bl s) i==39)=true:=e;have h:(gQ (bl s) (i+2)==39)=true:=h;unfold hl;rw[e,h,B,a0 (show i+3<=(bl s).length by omega)];rfl
def Ac(s:BL)(i:Nat):(hl s i).2<=4/\(0<(hl s i).2->i+(hl s i).2<=s.length):=by
 unfold hl
 grind
def D6(g:zV):cQ:=U (.tuple #[.agg #[.i (g.k:Int),.int .u8 (g.lo.toNat:Int),.int .u8 (g.hi.toNat:Int),.slice none 0 0],.i (g.n:Int)])
def Kl(s:BL)(i:Nat):i+(jl s i).n<=s.length\/(jl s i).n=0:=by
 unfold jl;simp only;have c:=Ac s i;split
 .grind
 .split
  .exact .inr rfl
  .split
   .exact .inr rfl
   .split
    .exact .inr rfl
    grind
def OU(s:ByteArray)(W:s.size<=100000)(i:Nat)(hi:i<s.size)(w:C):ah V Ch #[.string s,.i (i:Int)] w λr w'=>r=D6 (jl (bl s) i)/\aj w w':=by
 have T:(bl s).length=s.size:=eS s;refine rD.aB _ _ w _ ((bN [] (by simp)).aN λb Q G=>G.ax (Ao s i (by omega) Q) ?_);rintro _ S rfl A;refine⟨_,_,rfl,aQ (λO=>A.ak λe d=>⟨?_,d.fr⟩) (λO=>⟨by omega,_,gj (i:=i) hi,vL (n:=91) (by omega) (λh=>A.ak λe d=>⟨?_,d.fr⟩) (λh=>?_)⟩)⟩
 .unfold jl;simp only;rw[aA (by omega)];rfl
 .have h:(gQ (bl s) i==91)=false:=h;unfold jl;simp only;rw[aq (by omega),aA (beq_eq_false_iff_ne.1 h)];rfl
 have h:gQ (bl s) i=91:=eq_of_beq h;rw[bA _ (by omega)];refine A.ax (Ao s (i+1) (by omega) S) ?_;rintro _ e rfl d;have I:=Ac (bl s) (i+1);have bad:∀(w':C),Z F0 w w' [.g b] []->jl (bl s) i=qi->rD.aZ b 0 0 0 ⟨none,0,0⟩ w' λr w'=>r=D6 (jl (bl s) i)/\aj w w':=λw' y E=>y.ak λP z=>⟨by rw[E];rfl,z.fr⟩;have u:∀(w':C),Z F0 w w' [.g b] []->jl (bl s) i=qi->rD.be b 0 0 0 ⟨none,0,0⟩ w' λr w'=>r=D6 (jl (bl s) i)/\aj w w':=λw' y E=>y.ak λP z=>⟨by rw[E];rfl,z.fr⟩;have k:jl (bl s) i=(let a:=hl (bl s) (i+1)
   let dash:=i+1+a.2
   if a.2=0\/(bl s).length<=dash\/gQ (bl s) dash≠45 then qi else
   let c:=hl (bl s) (dash+1)
   let fin:=dash+1+c.2
   if c.2=0\/(bl s).length<=fin\/gQ (bl s) fin≠93\/c.1.toNat<a.1.toNat then qi else⟨2,a.1,c.1,fin+1 - i⟩):=by
  conv=>lhs;unfold jl
  grind
 simp only at k;generalize hl (bl s) (i+1)=a at I k;refine⟨_,_,rfl,?_⟩;have L:ad .i64 (((i+1:Nat):Int)+(a.2:Int))=((i+1+a.2:Nat):Int):=by rw[bf _ (by omega)];omega
 show rD.aS s (i:Int) b 0 0 0 ⟨none,0,0⟩ (a.1.toNat:Int) (a.2:Int) (ad .i64 (((i+1:Nat):Int)+(a.2:Int))) e _;rw[L];refine aJ (λB=>bad e d (by grind)) (λB=>aQ (λD=>bad e d (by grind)) (λD=>⟨by omega,_,gj (i:=i+1+a.2) (by omega),vL (n:=45) (by omega) (λx=>bad e d (by grind)) (λx=>?_)⟩));have x:gQ (bl s) (i+1+a.2)=45:=eq_of_beq x;rw[aq (by grind)]at k;rw[bA _ (by omega)];refine d.ax (Ao s (i+1+a.2+1) (by omega) e) ?_;rintro _ q rfl j;have J:=Ac (bl s) (i+1+a.2+1);generalize hl (bl s) (i+1+a.2+1)=c at J k;refine⟨_,_,rfl,?_⟩;have N:ad .i64 (((i+1+a.2+1:Nat):Int)+(c.2:Int))=((i+1+a.2+1+c.2:Nat):Int):=by rw[bf _ (by omega)];omega
 show rD.aY s (i:Int) b 0 0 0 ⟨none,0,0⟩ (a.1.toNat:Int) (c.1.toNat:Int) (c.2:Int) (ad .i64 (((i+1+a.2+1:Nat):Int)+(c.2:Int))) q _;rw[N];refine aJ (λB=>u q j (by grind)) (λB=>aQ (λD=>u q j (by grind)) (λD=>⟨by omega,_,gj (i:=i+1+a.2+1+c.2) (by omega),vL (n:=93) (by omega) (λx=>u q j (by grind)) (λF=>aQ (λK=>u q j (by grind)) (λK=>j.ak λY H=>⟨?_,H.fr⟩))⟩));have F:gQ (bl s) (i+1+a.2+1+c.2)=93:=eq_of_beq F;rw[k,aq (by grind)];have M:ad .i64 ((ad .i64 (((i+1+a.2+1+c.2:Nat):Int)+1)) - (i:Int))=((i+1+a.2+1+c.2+1 - i:Nat):Int):=by rw[bA _ (by omega),bf _ (by omega)];omega
 rw[M];rfl
def dK.c(t:dK):List ab:=[.string (ba t.tx),.i (t.at_:Int),.i (t.k:Int),.int .u8 (t.lo.toNat:Int),.int .u8 (t.hi.toNat:Int),.slice none 0 0]
def Mv(t:dK):t.c.length=6:=rfl
def Mw(l:List dK)(t:dK):l.flatMap dK.c++t.c=(l++[t]).flatMap dK.c:=by simp
def vE{w:C}{s:J}{l:List dK}(h:bF 6 w s (l.flatMap dK.c)):s.n=l.length:=by have:=h.1;rw[nc dK.c 6 Mv]at this;omega
def Hd:gJ V mK lU (.agg #[.s0,.i 0,.i 0,.int .u8 0,.int .u8 0,.slice none 0 0]) 6 64:=⟨by kernel_rfl,by kernel_rfl,rfl,by decide,by decide⟩
def Fs(w:C)(l:List dK)(r:cQ)(w':C):Prop:=∃d:J,r=U d.v/\aG w' lU 6 d (l.flatMap dK.c)/\∀e∈aO d,w.heap.size<=e
def NW(s:ByteArray)(i j:Nat):s.extract i j=ba (((bl s).take j).drop i):=by
 have:bl (s.extract i j)=((bl s).take j).drop i:=by unfold bl;rw[ByteArray.data_extract,Array.toList_extract,List.extract_eq_take_drop];rw[List.drop_take]
 rw[<-this,mW]
def I5(c:UInt8){A d:Prop}(h:eE c=true->A)(e:eE c=false->d):Y (af (((c.toNat:Nat):Int)>=97)) (Y (af (((c.toNat:Nat):Int)<=122)) A d) d:=
 aQ (λj=>aQ (λk=>h (by unfold eE;grind)) (λk=>e (by unfold eE;grind))) (λj=>e (by unfold eE;grind))
def K3(s:BL)(i:Nat):∀(f n:Nat),i+n<=s.length->n<=mC s i f n/\i+mC s i f n<=s.length
 |0,n,c=>⟨b' _,c⟩
 |f+1,n,c=>by
  unfold mC;split
  .rename_i d;simp only[bC,decide_eq_true_eq]at d;have:=K3 s i f (n+1) (by omega);omega
  omega
def On(s:ByteArray)(hs:s.size<=100000)(w:C):ah V Cc #[.string s] w λr G=>Fs w (lS (bl s)) r G/\aj w G:=by
 have hl:(bl s).length=s.size:=eS s
 let q:aa:=λr G=>Fs w (lS (bl s)) r G/\aj w G
 have fin:∀(acc:List dK) (d:J) (u:C),acc.length<=s.size->lS (bl s)=acc++[⟨[],(bl s).length,0,0,0⟩]->Z F0 w u [.row lU 6 d (acc.flatMap dK.c)] []->
   aK u (.cells #[.s0,.i ((s.size:Nat):Int),.i 0,.int .u8 0,.int .u8 0,.slice none 0 0] lU) λw7=>
 ∃(t81:J) (w8:C),a' V (bg #[mK,mK] mK #[d.v,.slice (some (nb u)) 1 1]) w7=.ok (t81.v) w8/\q (U (t81.v)) w8:=by intro acc d u ha j A;have ag:=vE (A.get 0:aG _ _ _ _ _).bh;refine A.tm 0 Hd rfl (λO w2 E _ _=>⟨⟨O,rfl,?_,λai hx=>(E.new _ (aE (i:=0) rfl) ai hx).resolve_right id⟩,E.fr⟩) (by omega);rw[j,<-Mw];exact E.get 0
 have loop:∀(f i:Nat) (acc:List dK) (d:J) (u:C),s.size<f+i->i<=s.size->acc.length<=i->lS (bl s)=acc++nH (bl s) f i->Z F0 w u [.row lU 6 d (acc.flatMap dK.c)] []->jb.aH s d (i:Int) u q:=by
  intro f;induction f with
  |zero=>omega
  |succ f S=>
   intro i acc d u hf am al j A;refine jb.bD _ _ _ _ _ (aQ (λab=>⟨by omega,_,gj (i:=i) (by omega),?_⟩) (λab=>fin acc d u (by omega) (by rw[j];unfold nH;grind) A))
   unfold nH at j;rw[aq (by omega)]at j;refine vM (n:=32) (by omega) (λz=>?_) (λz=>?_)
   .have z:gQ (bl s) i=32:=eq_of_beq z;rw[aA z]at j;rw[bA _ (by omega)];exact S (i+1) acc d u (by omega) (by omega) (by omega) j A
   have z:gQ (bl s) i≠32:=beq_eq_false_iff_ne.1 z;rw[aq z]at j;simp only at j;refine A.call (OU s hs i (by omega) u) ?_;rintro _ w2 rfl E;have B:=Kl (bl s) i;generalize jl (bl s) i=g at j B;refine⟨_,_,_,⟨none,0,0⟩,_,rfl,E.aN λb w3 H=>?_⟩;have H:Z F0 w w3 [.row lU 6 d (acc.flatMap dK.c),.g b] []:=H;have one:∀(n:Nat) (D:C),1<=n->i+n<=s.size->lS (bl s)=acc++⟨((bl s).take (i+n)).drop i,i,g.k,g.lo,g.hi⟩::nH (bl s) f (i+n)->Z F0 w D [.row lU 6 d (acc.flatMap dK.c),.g b] []->
     jb.aY s d (i:Int) b (g.k:Int) (g.lo.toNat:Int) (g.hi.toNat:Int) ⟨none,0,0⟩ (n:Int) D q:=by
    intro n D L K Q I;show(0:Int)<=_/\_;have F:ad .i64 ((i:Int)+(n:Int))=((i+n:Nat):Int):=by rw[bf _ (by omega)];omega
    rw[F,bT,bT,NW];refine⟨by omega,by omega,by omega,by omega,I.ak λh x=>?_⟩;have ag:=vE (x.get 0:aG _ _ _ _ _).bh;refine x.hL 0 Hd rfl (λO w6 H6=>?_) (by omega);refine S (i+n) (acc++[⟨((bl s).take (i+n)).drop i,i,g.k,g.lo,g.hi⟩]) O w6 (by omega) (by omega) (by grind) (by grind) ?_;rw[<-Mw];exact H6.take 1
   refine aJ (λM=>H.ak λD I=>?_) (λM=>H.ak λD I=>one g.n D (by omega) (by omega) (by grind) I);have M:g.n=0:=by omega
   rw[aA M]at j;have word:∀(e n:Nat) (h:C),s.size<=e+(i+n)->1<=n->i+n<=s.size->mC (bl s) i (bl s).length 1=mC (bl s) i e n->Z F0 w h [.row lU 6 d (acc.flatMap dK.c),.g b] []->
     jb.bO s d (i:Int) b (g.k:Int) (g.lo.toNat:Int) (g.hi.toNat:Int) ⟨none,0,0⟩ (n:Int) h q:=by
    intro e;induction e with
    |zero=>
     intro n h Q L K B x;have stop:jb.aY s d (i:Int) b (g.k:Int) (g.lo.toNat:Int) (g.hi.toNat:Int) ⟨none,0,0⟩ (n:Int) h q:=one n h L K (by rw[j,B];rfl) x;have F:ad .i64 ((i:Int)+(n:Int))=((i+n:Nat):Int):=by rw[bf _ (by omega)];omega
     refine jb.eh _ _ _ _ _ _ _ _ _ _ _ ?_;rw[F];refine⟨by omega,_,gj (i:=i) (by omega),cK (λ_=>⟨by omega,_,gj (i:=i) (by omega),cK (λ_=>bb (a2 (by omega)) stop) (λ_=>stop)⟩) (λ_=>stop)⟩
    |succ e ac=>
     intro n h Q L K B x;have F:ad .i64 ((i:Int)+(n:Int))=((i+n:Nat):Int):=by rw[bf _ (by omega)];omega
     have stop:(eE (gQ (bl s) i)&&af (i+n<(bl s).length)&&eE (gQ (bl s) (i+n)))=false->jb.aY s d (i:Int) b (g.k:Int) (g.lo.toNat:Int) (g.hi.toNat:Int) ⟨none,0,0⟩ (n:Int) h q:=λy=>one n h L K (by
      rw[j,B];conv=>lhs;unfold mC
      rw[y];rfl) x
     refine jb.eh _ _ _ _ _ _ _ _ _ _ _ ?_;rw[F];refine⟨by omega,_,gj (i:=i) (by omega),?_⟩;have go:eE (gQ (bl s) i)=true->Y (af (((i+n:Nat):Int)<((s.size:Nat):Int))) ((0:Int)<=((i+n:Nat):Int)/\∃T:UInt8,s[ae ((i+n:Nat):Int)]? =some T/\Y (af (((T.toNat:Nat):Int)>=97)) ((0:Int)<=((i+n:Nat):Int)/\∃W:UInt8,s[ae ((i+n:Nat):Int)]? =some W/\Y (af (((W.toNat:Nat):Int)<=122)) (jb.bO s d (i:Int) b (g.k:Int) (g.lo.toNat:Int) (g.hi.toNat:Int) ⟨none,0,0⟩ (ad .i64 ((n:Int)+1)) h q) (jb.aY s d (i:Int) b (g.k:Int) (g.lo.toNat:Int) (g.hi.toNat:Int) ⟨none,0,0⟩ (n:Int) h q)) (jb.aY s d (i:Int) b (g.k:Int) (g.lo.toNat:Int) (g.hi.toNat:Int) ⟨none,0,0⟩ (n:Int) h q)) (jb.aY s d (i:Int) b (g.k:Int) (g.lo.toNat:Int) (g.hi.toNat:Int) ⟨none,0,0⟩ (n:Int) h q):=by
      intro h1;refine aQ (λh2=>⟨by omega,_,gj (i:=i+n) (by omega),?_⟩) (λh2=>stop (by grind));have key:eE (gQ (bl s) (i+n))=true->jb.bO s d (i:Int) b (g.k:Int) (g.lo.toNat:Int) (g.hi.toNat:Int) ⟨none,0,0⟩ (ad .i64 ((n:Int)+1)) h q:=λP=>by
       rw[bA _ (by omega)];refine ac (n+1) h (by omega) (by omega) (by omega) ?_ x;rw[B];conv=>lhs;unfold mC
       grind
      have N:eE (gQ (bl s) (i+n))=false->_:=λP=>stop (by grind);have y:=I5 (gQ (bl s) (i+n)) key N;exact Le y (λy=>⟨by omega,_,gj (i:=i+n) (by omega),y⟩) id
     have N:eE (gQ (bl s) i)=false->_:=λP=>stop (by grind);exact Le (I5 (gQ (bl s) i) go N) (λy=>⟨by omega,_,gj (i:=i) (by omega),y⟩) id
   grind
 refine jb.aB _ w _ ?_;exact loop (s.size+1) 0 [] ⟨none,0,0⟩ w (by omega) (by omega) (by simp) (by unfold lS;grind) ((bN [] (by simp)).gP lU 6)
abbrev Km(s:J)(st:bQ):List ab:=[s.v,.i (st.1:Int),.bool st.2]
abbrev cR(d:Nat)(s:J)(st:bQ):En:=.c d (Km s st) EK
abbrev cX(s:J)(l:List dK):En:=.bh 6 s (l.flatMap dK.c)
abbrev SA(d:Nat)(s:J)(w:C)(A:aa)(st:bQ):aa:=λr c=>(A r c/\c.heap[d]? =some (.cells (Km s st).toArray EK (0,0)))/\Fr (·=d) w c
abbrev iq(c:Nat)(s:J)(l:List dK)(st:bQ)(w:C):Prop:=Z (·=c) w w [cR c s st] [cX s l]
def _root_.Go.W.Z.fQ{M:Nat->Prop}{w0 w:C}{L D:List En}{e:Nat}{s:J}{l:List dK}{st:bQ}(H:Z M w0 w (cR e s st::L) (cX s l::D)):iq e s l st w:=
 Z.sK _ _ (by
  intro j c;simp only[ay,aW,a3]at c;subst c;exact⟨H.get 0,λb d=>po.1 d⟩) (by
  simp only[List.flatMap_cons,List.flatMap_nil,List.append_nil];exact(cR e s st).nd) (by
  intro j c;simp only[ay,aW,a3]at c;subst c;exact⟨H.getD 0,λb d k h=>by simp only[ay,aW,a3]at h;subst h;exact H.dj _ oI b d _ oI⟩)
structure Fw(w:C)(p:Addr)(i:Nat)(t:dK):Prop where
 c0:w.cell? ((p.add (i *6)).add 0)=some (.string (ba t.tx))
 c1:w.cell? ((p.add (i *6)).add 1)=some (.i (t.at_:Int))
 c2:w.cell? ((p.add (i *6)).add 2)=some (.i (t.k:Int))
 c3:w.cell? ((p.add (i *6)).add 3)=some (.int .u8 (t.lo.toNat:Int))
 c4:w.cell? ((p.add (i *6)).add 4)=some (.int .u8 (t.hi.toNat:Int))
 c5:w.cell? ((p.add (i *6)).add 5)=some (.slice none 0 0)
def vF{w:C}{s:J}{l:List dK}(h:bF 6 w s (l.flatMap dK.c)){i:Nat}(hi:i<l.length){K:Addr->Prop}(j:∀p,s.a=some p->Fw w p i (fA l i)->K p):cd s.a K:=by
 have e:l[i]? =some (fA l i):=by unfold fA;rw[List.getD_eq_getElem?_getD,a9 hi];rfl
 exact eY.elem (f:=dK.c) (sz:=6) Mv (by omega) h.2.2 e λp k d=>j p k ⟨d 0 _ rfl,d 1 _ rfl,d 2 _ rfl,d 3 _ rfl,d 4 _ rfl,d 5 _ rfl⟩
def iL(l:List dK):Prop:=0<l.length/\(fA l (l.length - 1)).tx=[]/\(fA l (l.length - 1)).k=0
section
variable {pb:Nat} {s:J} {l:List dK} {st:bQ} {w:C}
def Aq(H:iq pb s l st w)(hi:st.1<l.length):ah V uE #[.pointer (some (ag pb))] w λr n=>r=U (.string (ba (fa l st)))/\aj w n:=by
 have j:st.2=true->fa l st=[32]:=λd=>by unfold fa;rw[d];rfl
 have h:st.2=false->fa l st=(fA l st.1).tx:=λd=>by unfold fa;rw[d];rfl
 generalize fa l st=u at j h;refine Hy.ok _ w _ ⟨st.2,H.ld 0 2,cK (λe=>⟨?_,Fr.refl _ _⟩) (λe=>?_)⟩
 .rw [j e];rfl
 rw[h e];have c:Z (·=pb) w w.drew [cR pb s st] [cX s l]:=H.drew;have q:=vE (c.getD 0:bF _ _ _ _);refine⟨s,c.ld 0 0,_,c.ld 0 1,by omega,by omega,vF (c.getD 0) hi λp x k=>⟨ba (fA l st.1).tx,?_,rfl,Fr.drew _ _⟩⟩;rw[bT];exact k.c0
def rl(a b:BL):((ba a).toList==(ba b).toList)=(a==b):=by rw[ByteArray.toList_eq,ByteArray.toList_eq];rfl
def IS(h:iL l)(hi:st.1<l.length)(j:fa l st≠[])(e:st.2=false):st.1+1<l.length:=by
 rcases Nat.lt_or_ge (st.1+1) l.length with c|c
 .exact c
 .exfalso;apply j;have d:st.1=l.length - 1:=by omega
  unfold fa;rw[e,d];exact h.2.1
def qG(j:iL l)(hi:st.1<l.length)(u:BL)(k:u≠[32]):(eP l u st).2.1<l.length:=by
 unfold eP;cases c:fa l st==u with
 |false=>exact hi
 |true=>
  have c:=eq_of_beq c;cases h:u.isEmpty with
  |true=>exact hi
  |false=>
   show st.1+1<l.length;refine IS j hi (λd=>?_) ?_
   .rw [d]at c;subst c;cases h
   .cases e:st.2 with
    |false=>rfl
    |true=>
     exfalso;apply k;rw[<-c];unfold fa;rw[e];rfl
def pr(H:iq pb s l st w)(hi:st.1<l.length)(k:l.length<=1000000)(u:BL):ah V nl #[.pointer (some (ag pb)),.string (ba u)] w (SA pb s w (λr _=>r=U (.bool (eP l u st).1)) (eP l u st).2):=by
 refine Hz.ok _ _ w _ (H.call (Aq H hi) ?_);rintro _ n rfl d;refine⟨_,rfl,?_⟩;dsimp only;rw[rl];have j:((ba u).toList==(av #[]).toList)=u.isEmpty:=by have:av #[]=ba []:=rfl;rw[this,rl];cases u<;>rfl
 rw[j];refine eJ (λc=>⟨⟨?_,?_⟩,d.fr⟩) (λc=>eJ (λe=>⟨_,d.ld 0 1,?_⟩) (λe=>⟨⟨?_,?_⟩,d.fr⟩))
 .unfold eP;rw[c];rfl
 .have:(eP l u st).2=st:=by unfold eP;rw[c];rfl
  rw[this];exact d.get 0
 .rw [bA _ (by omega)];refine d.st 0 1 rfl λq h=>⟨⟨?_,?_⟩,h.fr⟩
  .unfold eP;rw[c];rfl
  .have:(eP l u st).2=(st.1+1,st.2):=by unfold eP;rw[c,e];rfl
   rw[this];exact h.get 0
 .unfold eP;rw[c];rfl
 .have:(eP l u st).2=st:=by unfold eP;rw[c,e];rfl
  rw[this];exact d.get 0
def Jr(u:BL):jP l u st=bif (eP l u st).1 then(eP l u st).2 else((eP l u st).2.1,true):=by unfold jP;generalize eP l u st=x;obtain⟨b,c⟩:=x;cases b<;>rfl
def uU(c:iL l)(hi:st.1<l.length)(u:BL)(d:u≠[32]):(jP l u st).1<l.length:=by rw[Jr];have:=qG c hi u d;cases(eP l u st).1<;>exact this
def tB(H:iq pb s l st w)(hi:st.1<l.length)(h:l.length<=1000000)(u:BL):ah V qc #[.pointer (some (ag pb)),.string (ba u)] w (SA pb s w (λr _=>r=U (.tuple #[])) (jP l u st)):=by
 refine Hx.ok _ _ w _ (H.pw (pr H hi h u) ?_);rintro _ j rfl c _;rw[Jr];refine⟨_,rfl,eJ (λd=>c.st 0 2 rfl λk e=>⟨⟨rfl,?_⟩,e.fr⟩) (λd=>⟨⟨rfl,?_⟩,c.fr⟩)⟩
 .rw [d];exact e.get 0
 .rw [d];exact c.get 0
def Ot(H:iq pb s l st w)(hi:st.1<l.length):ah V Ci #[.pointer (some (ag pb))] w λr x=>r=U (.bool (wj l st))/\aj w x:=by refine Hw.ok _ w _ ((Aq H hi).mono ?_);rintro _ y ⟨rfl,e⟩;have h:=H.ct e;refine⟨_,rfl,st.2,h.ld 0 2,?_⟩;have c:∀d:List UInt8,((ba (fa l st)).toList==(ba d).toList)=(fa l st==d):=λd=>rl _ _;have j:=c [];have k:=c [41];have n:=c [44];have q:=c [124];have u:=c [38];unfold wj;show Y _ (Y (!((ba (fa l st)).toList==(ba []).toList)) (Y (!((ba (fa l st)).toList==(ba [41]).toList)) (Y (!((ba (fa l st)).toList==(ba [44]).toList)) (Y (!((ba (fa l st)).toList==(ba [124]).toList)) (Ending.returned (.bool (!((ba (fa l st)).toList==(ba [38]).toList)))=_/\aj w y) _) _) _) _) _;rw[j,k,n,q,u];cases st.2<;>cases fa l st==[]<;>cases fa l st==[41]<;>cases fa l st==[44]<;>cases fa l st==[124]<;>first |exact⟨rfl,e⟩|skip
end
def Ak(k:Int)(s:J)(l:List I)(w:C)(h:(bR s l).P w):ah V ov #[.i k,s.v] w λr u=>fX (bR s l).fp w (pT k (I.au l)) r u/\aj w u:=by
 have c:=I.cu (dx.1 h).1;refine Ht.aB _ _ w _ ((gE h).aN λb y j=>aJ (λx=>?_) (λx=>j.ak λq d=>⟨⟨.mk k 0 0 s l,rfl,?_,?_,λb n=>.inr n⟩,d.fr⟩))
 .match l,c with
  |[],c=>simp at c;omega
  |a::b::m,c=>simp at c;omega
  |[a],c=>
   refine⟨by omega,by omega,I.di (dx.1 (show(bR s [a]).P y from j.getD 0)).1 (i:=0) rfl λp z e=>⟨_,_,_,_,e.c0,e.c1,e.c2,e.c3,j.ak λq d=>⟨⟨a,rfl,rfl,?_,λb n=>.inr ?_⟩,d.fr⟩⟩⟩
   .exact (dx.1 (show(bR s [a]).P q from d.getD 0)).2.mem (by simp)
   .exact kQ.2 (.inr (I.bX.2 ⟨a,by simp,n⟩))
 .show Rx.mk k 0 0 (I.au l)=_
  match l,c with
  |[],c=>rfl
  |[a],c=>simp at c;omega
  |a::b::m,c=>rfl
 .have:=dx.1 (show(bR s l).P q from d.getD 0);unfold I.P;exact this
end Go.Proofs.YthkcmmldhceegaaGreatDoor
