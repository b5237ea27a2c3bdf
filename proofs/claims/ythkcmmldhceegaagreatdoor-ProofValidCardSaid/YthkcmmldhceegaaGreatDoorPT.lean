import Derived.Test.YthkcmmldhceegaaGreatDoorT8
import Derived.Test.YthkcmmldhceegaaGreatDoorVP
import Derived.Test.YthkcmmldhceegaaGreatDoorN0
import Derived.Test.YthkcmmldhceegaaGreatDoorKT
import Derived.Test.YthkcmmldhceegaaGreatDoorG9
import Derived.Test.YthkcmmldhceegaaGreatDoorT3
import Derived.Test.YthkcmmldhceegaaGreatDoorRows
import Derived.Lib.LaidTab
import Derived.Lib.LaidU8
import Derived.LaidByTextLater
import Derived.MakeChecks
import Derived.FnData
import Derived.OpenShut
set_option linter.unusedVariables false
set_option maxRecDepth 100000
set_option maxHeartbeats 1000000
set_option linter.defProp false
namespace Go.Proofs.YthkcmmldhceegaaGreatDoor
open Go renaming World->C,Calls->ah,Program->aR,Value->ab,Ending->cQ
open Go.IntKind renaming wrap->ad
open _root_.Int renaming toNat->ae,toNat_natCast->bT
open _root_.ByteArray renaming mk->av
open Go.IntWalk renaming i64_in->bf
open _root_.Bool renaming and_eq_true->bC
open _root_.Nat renaming le_refl->b',le_trans->bB,lt_of_lt_of_le->iI
open _root_.Option.some renaming inj->fV
open Go.Proofs.Tryz renaming prog->V
open _root_.Decidable renaming decide->af
open Go.Ending renaming returned->U
open List renaming mem_append->a6,mem_cons->ay,not_mem_nil->aW,mem_of_getElem?->aE,getElem?_eq_getElem->a9,getElem?_eq_some_iff->dh,mem_append_left->bS,mem_append_right->ef,mem_flatMap->cj,mem_map->dv,length_append->cC,length_cons->e8,length_nil->hZ,append_assoc->jU,mem_singleton->cO,length_take->g4,flatMap_cons->dT,mem_iff_getElem?->g5,mem_or_eq_of_mem_set->u7,mem_cons_of_mem->eb,length_map->mA,getElem?_map->jk,all_eq_true->fF,append_nil->kV,nil_append->h0,cons_append->iF,take_add_one->eI,map_append->kX,drop_of_length_le->c9,take_of_length_le->g6
open Go Go.W
def J7(c:UInt8):sh c=mz c:=by
 unfold sh mz
 grind
def Lz(c:UInt8):jo c=eE c:=rfl
def ND:(List.range 256).all (λn=>nV .u8 (n:Int) 15==((n%16:Nat):Int))=true:=by kernel_rfl
def wV{n:Nat}(h:n<16):(av #[48,49,50,51,52,53,54,55,56,57,97,98,99,100,101,102])[n]? =some (hn n):=by
 have:n=0\/n=1\/n=2\/n=3\/n=4\/n=5\/n=6\/n=7\/n=8\/n=9\/n=10\/n=11\/n=12\/n=13\/n=14\/n=15:=by omega
 (repeat' rcases this with rfl|this)<;>(try subst this)<;>rfl
def DJ(c:UInt8)(w:C):ah V uL #[.int .u8 (c.toNat:Int)] w λr A=>r=U (.string (ba (dA c)))/\aj w A:=by
 have z:=c.toNat_lt;have k:Z F0 w w [] []:=bN [] (by simp);refine Ku.ok _ w _ (k.call (Gn c w) ?_);rintro _ B rfl j;refine⟨_,rfl,cK (λh=>?_) (λh=>?_)⟩
 .rw [J7]at h;refine j.ny (λD _ n e=>?_);have d:Bytes D ⟨some (ag B.heap.size),3,3⟩ [39,c,39]:=rm (T:=db) e rfl;refine⟨ba [39,c,39],lk d,?_,n.fr⟩;unfold dA;grind
 .rw [J7]at h;have x:Int.fdiv (c.toNat:Int) (2^(4))=((c.toNat / 16:Nat):Int):=by grind
  have y:nV .u8 (c.toNat:Int) 15=((c.toNat%16:Nat):Int):=eq_of_beq (fF.1 ND c.toNat (List.mem_range.2 z));refine j.dr λE q=>?_;rw[x,y];refine⟨by omega,_,wV (by omega),by omega,_,wV (by omega),q.ny (λF _ u e=>?_)⟩;have d:Bytes F ⟨some (ag E.heap.size),4,4⟩ [92,120,hn (c.toNat / 16),hn (c.toNat%16)]:=rm (T:=db) e rfl;refine⟨ba [92,120,hn (c.toNat / 16),hn (c.toNat%16)],lk d,?_,u.fr⟩;unfold dA;grind
abbrev E6(n:Nat):Prop:=∀(x:I) (w:C),x.sz<=n->ih x.rx=true->x.P w->ah V CM #[x.v] w λr c=>r=U (.tuple #[.string (ba (bj x.rx)),.i (cL x.rx:Int)])/\aj w c
def J1{n:Nat}(F:n<=1000000)(k:E6 n)(x:I)(c:Nat)(w:C)(h:x.sz<=n)(E:c<=1000)(u:ih x.rx=true)(y:x.P w):ah V nq #[x.v,.i (c:Int)] w λr z=>r=U (.string (ba (cN c x.rx (bj x.rx))))/\aj w z:=by
 refine KN.aB _ _ _ _ _ w _ ((gE y).aN λB A d=>d.ax (k x A h u (d.getD 0)) ?_);rintro _ G rfl e;have D:(bj x.rx).length<=18000000:=by have:=vR x.rx;rw[I.eF]at this;omega
 have j:av #[40]++ba (bj x.rx)++av #[41]=ba (40::(bj x.rx++[41])):=by show ba [40]++ba (bj x.rx)++ba [41]=_;rw[dF,dF];simp
 refine⟨_,_,rfl,aQ (λq=>⟨?_,?_,?_,e.fr⟩) (λq=>⟨?_,e.fr⟩)⟩
 .rw [de];show ¬(((1+_:Nat):Int)>9223372036854775807);omega
 .have:(av #[40]++ba (bj x.rx)).size=1+(bj x.rx).length:=by show(ba [40]++_).size=_;rw[dF,de];grind
  rw[this];show ¬(((_+1:Nat):Int)>9223372036854775807);omega
 .rw [j];unfold cN;grind
 .unfold cN;grind
def JY:∀ag:Nat,ag<=1000000->E6 ag
 |0,_=>λe z j _ _=>absurd j (by have:=I.k4 e;omega)
 |ag+1,hn=>by
  have aY:=JY ag (by omega);intro e z j aX px;have hs:=I.h2 e;have hl:=I.fI e.l;have nr:=I.cu px.parts.1;have aH:=aX;rw[I.e9]at aH;obtain⟨k0,k7,an,aU⟩:=yl aH;have aV:(I.au e.l).length=e.l.length:=by rw[I.fy,mA]
  rw[aV]at an;have aD:∀a∈e.l,ih a.rx=true:=λa u=>ym aU (by rw[I.fy];grind);have ao:∀(a:I) (lv:Nat),a.sz<=1000000->(cN lv a.rx (bj a.rx)).length<=18000002:=λa lv u=>by have y:=vR a.rx;rw[I.eF]at y;have:=(qp lv a.rx (bj a.rx)).1;omega
  have aw:∀c,(dA c).length<=4:=λc=>by unfold dA;grind
  let S:aa:=λr w'=>r=U (.tuple #[.string (ba (bj e.rx)),.i (cL e.rx:Int)])/\aj z w'
  have one:∀(a:I) (Q:Nat) (q:C) (L:List En) (bs:List Nat) (K:ByteArray->C->Prop),Q<=1000->a∈e.l->Z F0 z q L [.tree e]->(∀aI,Z F0 z aI L [.tree e]->K (ba (cN Q a.rx (bj a.rx))) aI)->eM bs nq #[.agg #[.i a.k,.int .u8 (a.lo.toNat:Int),.int .u8 (a.hi.toNat:Int),a.s.v],.i (Q:Int)] q K:=by
   intro a Q q L bs K aW u h hK;have ar:=I.eG u;refine h.ax (J1 (by omega) aY a Q q (by omega) aW (aD a u) ((show e.P q from h.getD 0).parts.2.mem u)) ?_
   grind
  have G:bj e.rx=bj (.mk e.k e.lo e.hi (I.au e.l)):=by rw[I.e9]
  have a3:cL e.rx=if e.k=6 then 3 else if e.k<3\/e.k=7\/e.l.length<2 then 4 else if e.k=3 then 2 else if e.k=4 then 0 else 1:=by rw[I.e9];unfold cL;grind
  have J:(e.k<3\/e.k=7\/e.l.length<2)->e.k≠6->(4:Int)=(cL e.rx:Int):=λy E=>by grind
  refine oM.aB _ _ _ _ z _ ((gE px).aN λA q h=>?_);have h:Z F0 z q [.g A] [.tree e]:=h;refine aJ (λY=>⟨?_,h.fr⟩) (λaz=>aJ (λY=>⟨?_,h.fr⟩) (λaT=>aJ (λaC=>?_) (λaC=>aJ (λM=>?_) (λM=>aJ (λab=>?_) (λab=>?_)))))
  .rw [<-J (.inl (by omega)) (by omega),G];unfold bj;rw[aA Y];rfl
  .rw [<-J (.inl (by omega)) (by omega),G];unfold bj;rw[aq az,aA Y];rfl
  .have e2:bj e.rx=if e.lo=e.hi then dA e.lo else 91::(dA e.lo++45::(dA e.hi++[93])):=by rw[G];unfold bj;grind
   rw[<-J (.inl (by omega)) (by omega)];refine aJ (λaF=>h.ax (DJ e.lo q) ?_) (λaF=>h.ak λw5 H5=>H5.ax (DJ e.lo w5) ?_)
   .rintro _ B rfl x;exact⟨_,rfl,by rw[e2,aA (UInt8.toNat_inj.1 (by omega))],x.fr⟩
   .rintro _ N rfl F;have y:=aw e.lo;have E:=aw e.hi;have s0:av #[91]++ba (dA e.lo)++av #[45]=ba (91::dA e.lo++[45]):=by show ba [91]++ba (dA e.lo)++ba [45]=_;rw[dF,dF];rfl
    refine⟨_,rfl,?_,?_,F.ax (DJ e.hi N) ?_⟩
    .rw [de];show ¬(((1+_:Nat):Int)>9223372036854775807);omega
    .have:(av #[91]++ba (dA e.lo)).size=1+(dA e.lo).length:=by show(ba [91]++_).size=_;rw[dF,de];grind
     rw[this];show ¬(((_+1:Nat):Int)>9223372036854775807);omega
    rintro _ w rfl D;rw[s0];have:ba (91::dA e.lo++[45]++dA e.hi)++av #[93]=ba (91::dA e.lo++[45]++dA e.hi++[93]):=by show _++ba [93]=_;rw[dF]
    refine⟨_,rfl,?_,?_,?_,D.fr⟩
    .rw [de,de];simp only[cC,e8,hZ];show ¬(((_:Nat):Int)>9223372036854775807);omega
    .rw [dF,de];simp only[cC,e8,hZ];show ¬(((_+1:Nat):Int)>9223372036854775807);omega
    .rw [dF,this,e2,aq (λj=>aF (by rw[j]))];simp
  .have y:=an (.inl M);have e6:bj e.rx=33::jf (dq 3 (I.au e.l)):=by rw[G];unfold bj;grind
   have e3:(3:Int)=(cL e.rx:Int):=by grind
   match jK:e.l,y with
   |[a],_=>
    have u:a∈e.l:=by grind
    have ar:=I.eG u;refine iV (show e.P q from h.getD 0) (k:=0) rfl (by grind) (one a 3 q _ _ _ (by omega) u h λB x=>⟨?_,?_,x.fr⟩)
    .have:=ao a 3 (by omega);rw[de];show ¬(((1+_:Nat):Int)>9223372036854775807);omega
    .have:av #[33]++ba (cN 3 a.rx (bj a.rx))=ba (33::cN 3 a.rx (bj a.rx)):=by show ba [33]++_=_;rw[dF];rfl
     rw[this,e6,jK,<-e3];rfl
  .have y:=an (.inr ab);have e7:bj e.rx=jf (dq 4 (I.au e.l))++[42]:=by rw[G];unfold bj;grind
   match jK:e.l,y with
   |[a],_=>
    have u:a∈e.l:=by grind
    have ar:=I.eG u;refine iV (show e.P q from h.getD 0) (k:=0) rfl (by grind) (one a 4 q _ _ _ (by omega) u h λB x=>⟨?_,?_,x.fr⟩)
    .have:=ao a 4 (by omega);rw[de];show ¬(((_+1:Nat):Int)>9223372036854775807);omega
    .have:ba (cN 4 a.rx (bj a.rx))++av #[42]=ba (cN 4 a.rx (bj a.rx)++[42]):=by show _++ba [42]=_;rw[dF]
     rw[this,e7,jK,<-J (.inr (.inl ab)) M];rfl
  have Y:e.k=3\/e.k=4\/e.k=5:=by omega
  have S1:∀(word sign:BL) (level:Nat),word.length=3->qg e.k=word++[40]->gG e.k=sign->level<=2->(2<=e.l.length->cL e.rx=level)->oM.aZ A e.k e.lo.toNat e.hi.toNat e.s (ba word) (ba sign) (level:Int) q S:=by
   intro word sign level hw aG ap a4 W;have ef:e.l.length<2->bj e.rx=qg e.k++(jf (dq 0 (I.au e.l))++[41]):=λj=>by rw[G];unfold bj;grind
   refine aJ (λh0=>?_) (λh0=>aJ (λy=>?_) (λy=>?_))
   .have hx:e.l=[]:=List.length_eq_zero_iff.1 (by omega);refine⟨?_,?_,h.fr⟩
    .rw [de];show ¬(((_+2:Nat):Int)>9223372036854775807);omega
    .have:ba word++av #[40,41]=ba (word++[40,41]):=by show _++ba [40,41]=_;rw[dF]
     rw[this,<-J (.inr (.inr (by omega))) M,ef (by omega),aG,hx];simp[I.au,dq,jf]
   .match jK:e.l with
    |[]=>grind
    |_::_::_=>grind
    |[a]=>
     have u:a∈e.l:=by grind
     have ar:=I.eG u;have hp:=ao a 0 (by omega);refine⟨?_,iV (show e.P q from h.getD 0) (k:=0) rfl (by grind) (one a 0 q _ _ _ (by omega) u h λB x=>⟨?_,?_,?_,x.fr⟩)⟩
     .rw [de];show ¬(((_+1:Nat):Int)>9223372036854775807);omega
     .have:ba word++av #[40]=ba (word++[40]):=by show _++ba [40]=_;rw[dF]
      rw[this,de,de];simp only[cC,e8,hZ];show ¬(((_:Nat):Int)>9223372036854775807);omega
     .have:ba word++av #[40]++ba (cN 0 a.rx (bj a.rx))=ba (word++[40]++cN 0 a.rx (bj a.rx)):=by show _++ba [40]++_=_;rw[dF,dF]
      rw[this,de];simp only[cC,e8,hZ];show ¬(((_+1:Nat):Int)>9223372036854775807);omega
     .have:ba word++av #[40]++ba (cN 0 a.rx (bj a.rx))++av #[41]=ba (word++[40]++cN 0 a.rx (bj a.rx)++[41]):=by show _++ba [40]++_++ba [41]=_;rw[dF,dF,dF]
      rw[this,<-J (.inr (.inr (by omega))) M,ef (by omega),aG,jK];simp[I.au,dq,jf]
   .have E:2<=e.l.length:=by omega
    have W:=W E;have ej:bj e.rx=w2 e.k (dq (level+1) (I.au e.l)):=by
     conv=>lhs;rw[G];unfold bj;rw[aq az,aq aT,aq aC,aq M,aq ab,aq (by omega)]
     rw[<-I.e9,W]
    have a6:sign.length<=1:=by rw[<-ap];unfold gG;grind
    have loop:∀(d i:Nat) (out:BL) (B:C),i+d=e.l.length->(1<=i->0<out.length)->(i=0->out=[])->out.length+gW (dq (level+1) (I.au (e.l.drop i)))<=40000000->bj e.rx=(if i=0 then w2 e.k (dq (level+1) (I.au (e.l.drop i)))else iP e.k out (dq (level+1) (I.au (e.l.drop i))))->Z F0 z B [.g A] [.tree e]->
      oM.dy A e.k e.lo.toNat e.hi.toNat e.s (ba sign) (level:Int) (ba out) e.s ((e.s.n:Nat):Int) (i:Int) B S:=by
     intro d;induction d with
     |zero=>
      intro i out B aR ac hz af H x;refine oM.ha _ _ _ _ _ _ _ _ _ _ _ _ _ (bb (a2 (by omega)) ⟨?_,x.fr⟩);rw[H,c9 (by omega),aq (by omega),W];rfl
     |succ d a1=>
      intro i out B aR ac hz af H x;have hg:e.l[i]? =some (e.l[i]'(by omega)):=a9 (by omega);have ay:e.l.drop i=(e.l[i]'(by omega))::e.l.drop (i+1):=List.drop_eq_getElem_cons (by omega);generalize e.l[i]'(by omega)=c at hg ay;have hc:=aE hg;have a7:=I.eG hc;rw[ay]at H af;have af:out.length+((cN (level+1) c.rx (bj c.rx)).length+2+gW (dq (level+1) (I.au (e.l.drop (i+1)))))<=40000000:=by
       have:gW (dq (level+1) (I.au (c::e.l.drop (i+1))))=(cN (level+1) c.rx (bj c.rx)).length+2+gW (dq (level+1) (I.au (e.l.drop (i+1)))):=by simp[I.au,dq,gW]
       omega
      have aO:0<(cN (level+1) c.rx (bj c.rx)).length:=by have y:=zl c.rx (aD c hc);have:=(qp (level+1) c.rx (bj c.rx)).2;omega
      have aM:ad .i64 ((level:Int)+1)=((level+1:Nat):Int):=bA _ (by omega);have aP:i=0->bj e.rx=iP e.k (cN (level+1) c.rx (bj c.rx)) (dq (level+1) (I.au (e.l.drop (i+1)))):=λj=>by rw[aA j]at H;rw[H];rfl
      have O:i≠0->bj e.rx=iP e.k ((if e.k=3/\eE (jN out)=true/\eE (gQ (cN (level+1) c.rx (bj c.rx)) 0)=true then out++[32]else out)++gG e.k++cN (level+1) c.rx (bj c.rx)) (dq (level+1) (I.au (e.l.drop (i+1)))):=λj=>by rw[aq j]at H;rw[H];rfl
      refine oM.ha _ _ _ _ _ _ _ _ _ _ _ _ _ (a8 (a0 (by omega)) (iV (show e.P B from x.getD 0) rfl hg (x.aN λb9 w4 H4=>H4.ak λw5 H5=>?_)));rw[aM];refine one c (level+1) w5 _ _ _ (by omega) hc H5 λN F=>?_;have F:Z F0 z N [.g A,.g b9] [.tree e]:=F;generalize cN (level+1) c.rx (bj c.rx)=t at aP O af aO;have go:∀(o:BL) (w:C),o.length<=out.length+1->out.length<=o.length->bj e.rx=iP e.k (o++t) (dq (level+1) (I.au (e.l.drop (i+1))))->Z F0 z w [.g A,.g b9] [.tree e]->oM.be A e.k e.lo.toNat e.hi.toNat e.s (ba sign) (level:Int) (ba o) (ba t) e.s ((e.s.n:Nat):Int) (i:Int) w S:=by
       intro o w y E h3 D;refine⟨?_,?_⟩
       .rw [de,de];show ¬(((_:Nat):Int)>9223372036854775807);omega
       .rw [dF,bA _ (by omega)];refine a1 (i+1) (o++t) w (by omega) (λ_=>by grind) (λj=>by omega) (by grind) (by grind) (D.take 1)
      refine aQ (λaS=>⟨?_,?_⟩) (λaS=>go out N (by omega) (b' _) (by grind) F)
      .rw [de,de];show ¬(((_:Nat):Int)>9223372036854775807);omega
      have O:=O (by omega);have ac:=ac (by omega);rw[ap]at O;have ea:ba out++ba sign=ba (out++sign):=dF _ _;have ah:∀w,Z F0 z w [.g A,.g b9] [.tree e]->¬(e.k=3/\eE (jN out)=true/\eE (gQ t 0)=true)->oM.be A e.k e.lo.toNat e.hi.toNat e.s (ba sign) (level:Int) (ba (out++sign)) (ba t) e.s ((e.s.n:Nat):Int) (i:Int) w S:=λw D a5=>go (out++sign) w (by grind) (by grind) (by grind) D;rw[ea];refine aJ (λai=>?_) (λai=>ah N F (λj=>ai j.1));have s3:sign=[]:=by rw[<-ap];unfold gG;grind
      have aL:out++sign=out:=by grind
      rw[aL]at ah ⊢;have eo:ad .i64 ((((ba out).size:Nat):Int) - 1)=((out.length - 1:Nat):Int):=by rw[de,bf _ (by omega)];omega
      rw[eo];refine⟨by omega,jN out,?_,F.ax (wv (jN out) N) ?_⟩
      .rw [bT,gj (s:=ba out) (by rw[de];omega),nW,IQ out ac]
      rintro _ w rfl D;refine⟨_,rfl,cK (λal=>⟨by omega,gQ t 0,?_,D.ax (wv (gQ t 0) w) ?_⟩) (λal=>ah w D (λj=>by rw[Lz,j.2.1]at al;grind))⟩
      .rw [show ae 0=0 from rfl,gj (s:=ba t) (by rw[de];omega),nW]
      rintro _ w8 rfl H8;refine⟨_,rfl,cK (λam=>⟨?_,?_⟩) (λam=>ah w8 H8 (λj=>by rw[Lz,j.2.2]at am;grind))⟩
      .rw [de];show ¬(((_+1:Nat):Int)>9223372036854775807);omega
      .have aK:ba out++av #[32]=ba (out++[32]):=by show _++ba [32]=_;rw[dF]
       rw[aK];refine go (out++[32]) w8 (by simp) (by simp) ?_ H8;rw[aA ⟨ai,al,am⟩,s3,kV]at O;omega
    have h3:=qM (level+1) (I.au e.l);have T:Rx.bc (I.au e.l)=I.bc e.l:=I.vn e.l;exact loop e.l.length 0 [] q (by omega) (λj=>by omega) (λ_=>rfl) (by grind) (by grind) h
  have bd:2<=e.l.length->cL e.rx=if e.k=3 then 2 else if e.k=4 then 0 else 1:=λE=>by grind
  refine aJ (λT=>S1 [97,108,116] [124] 0 rfl (by rw[T];rfl) (by rw[T];rfl) (by omega) (λE=>by grind)) (λT=>aJ (λh5=>S1 [97,108,108] [38] 1 rfl (by rw[h5];rfl) (by rw[h5];rfl) (by omega) (λE=>by grind)) (λh5=>S1 [99,97,116] [] 2 rfl (by rw[show e.k=3 by omega];rfl) (by rw[show e.k=3 by omega];rfl) (by omega) (λE=>by grind)))
def Tw(x:I)(c:Nat)(w:C)(h:x.sz<=1000000)(d:c<=1000)(e:ih x.rx=true)(j:x.P w):ah V nq #[x.v,.i (c:Int)] w λr k=>r=U (.string (ba (cN c x.rx (bj x.rx))))/\aj w k:=J1 (b' _) (JY 1000000 (b' _)) x c w h d e j
section
variable {s:J} {l:List I} {bs:Nat}
end
def Tz{s:J}{l:List I}{w:C}(q:I.bc l<=1000000)(u:aG w aV 4 s (l.flatMap I.c))(y:I.Ps w l)(k:∀D∈aO s,D∉I.bm l)(A X d:List I)(n:l=A++X++d)(F:X.length<=12)(a b:Int)(h:a=(A.length:Int))(j:b=((A.length+X.length:Nat):Int))(x:Int)(z B:Bool){R:aa}(E:∀e,aG e aV 4 s ((A++fG X++d).flatMap I.c)->Fr (·∈aO s) w e->R (U (.tuple #[])) e):yO.L0 s a b x z B w R:=by
 have H:=I.fI l;have G:A.length+X.length+d.length=l.length:=by grind
 subst h j;refine yO.cf _ _ _ _ _ _ _ _ (a8 (a0 ?_) ?_)
 .rw [bf _ (by omega)];omega
 refine(OG s l w q u y k A X d n _ rfl).mono ?_
 grind
abbrev Py(bs:List Nat)(f:FuncId)(xs:Array ab)(w:C)(K:ByteArray->Int->C->Prop):Prop:=cV bs V f xs w λe h=>∃c:ByteArray,∃d:Int,e=U (.tuple #[.string c,.i d])/\K c d h
def Ux:q6 12:=by intro s l e j q d w n;have u:=I.cu d.bh;refine Ls.ok _ e _ ((Ob _ e).mono ?_);rintro _ x ⟨⟨t,rfl⟩,f⟩;refine⟨t,rfl,yO.ok _ _ _ _ x _ (Tz q (d.fr f λ_ _ c=>c) (w.ct f) n [] l [] (by simp) j _ _ rfl (by simp[u]) _ _ _ λy k h=>?_)⟩;exact⟨rfl,⟨fG l,rfl,UA l,Uy l,by simpa using k⟩,f.Dw.trans h λz _ c=>c⟩
def FO{a b:Nat}(h:¬a<b):Nat.blt a b=false:=by
 cases c:Nat.blt a b with
 |false=>rfl
 |true=>rw[Nat.blt_eq]at c;exact absurd c h
mutual
def If:∀k:Rx,cM k=true->ih k=true
 |.mk j lo n l,e=>by
  unfold cM at e;simp only[bC]at e;have c:=e.2;have h:dX l=true->my l=true:=Ig l;unfold ih;split at c
  .rename_i d;have:l=[]:=by simpa using c
   subst this;have d:j=0\/j=1:=d;unfold my;rcases d with rfl|rfl<;>decide
  .split at c
   .rename_i d;simp only[bC]at c;have:l=[]:=by simpa using c.1
    subst this;subst d;unfold my;decide
   .split at c
    .rename_i d;rw[h c];rcases d with rfl|rfl|rfl<;>simp
    .split at c
     .rename_i d;simp only[bC,beq_iff_eq]at c;rw[h c.2];rcases d with rfl|rfl<;>simp[c.1]
     .cases c
def Ig:∀l:List Rx,dX l=true->my l=true
 |[],_=>rfl
 |a::l,c=>by unfold dX at c;unfold my;simp only[bC]at c;rw[If a c.1,Ig l c.2];rfl
end
def kT(t:BL):Bool:=bif Nat.blt 4096 t.length then false else match oY t with
 |.inl _=>false
 |.inr c=>bif Nat.blt 64 (eU c.tp).sz then false else
  if nu (eU c.tp)=0 then(if jv (iC (eU c.tp))=0 then cN 0 (iC (eU c.tp)) (bj (iC (eU c.tp)))==t else false)else false
def Vh(s:ByteArray)(hf:∀ab,oY (bl s)=.inr ab->m' 12 (eU ab.tp))(w:C):ah V ya #[.string s] w λr w'=>r=U (.bool (kT (bl s)))/\aj w w':=by
 have hl:(bl s).length=s.size:=eS s;have aa:Z F0 w w [] []:=bN [] (by simp);refine Mm.aB s w _ ((Oh s w).mono ?_);rintro r w1 ⟨f1,S⟩;have H1:=aa.ct f1;have no:∀(a e:Int),e≠0->kT (bl s)=false->r=U (.tuple #[.agg #[.int .i64 0,.int .u8 0,.int .u8 0,.slice none 0 0],.int .i64 a,.int .i64 e])->∃(t0 t1 t2:Int) (t3:J) (t4 t5:Int),r=U (.tuple #[.agg #[.i t0,.int .u8 t1,.int .u8 t2,t3.v],.i t4,.i t5])/\aP [] w1 λh L=>Y (t5 !=0) (loc [h] L λn=>(Ending.returned (.bool false)=U (.bool (kT (bl s)))/\aj w n)) (loc [h] L λn=>tE [h] xP #[.agg #[.i t0,.int .u8 t1,.int .u8 t2,t3.v]] n λal am an ao ap W=>aP [h] W λF M=>
   Y (ap !=0) (loc [h,F] M λT=>(Ending.returned (.bool false)=U (.bool (kT (bl s)))/\aj w T)) (loc [h,F] M λT=>Py [h,F] CL #[.agg #[.i al,.int .u8 am,.int .u8 an,ao.v]] T λar au ad=>Y (au==0) (Ending.returned (.bool (ar.toList==s.toList))=U (.bool (kT (bl s)))/\aj w ad) (Ending.returned (.bool false)=U (.bool (kT (bl s)))/\aj w ad))):=λa e H hn S=>⟨0,0,0,⟨none,0,0⟩,a,e,S,H1.aN λh L N=>cD (λ_=>N.ak λw3 D=>⟨by rw[hn],D.fr⟩) (λu=>absurd u H)⟩
 rcases S with⟨h1,j⟩|⟨h1,res,ai,⟨a,rfl,j⟩|⟨d,rfl,⟨G,j⟩|⟨G,t,j,z,pt,ft⟩⟩⟩
 .refine no _ _ (by decide) ?_ j;unfold kT;rw[show Nat.blt 4096 (bl s).length=true from by rw[Nat.blt_eq];omega];rfl
 all_goals have P:Nat.blt 4096 (bl s).length=false:=FO (by omega)
 all_goals have c:=Vu ai
 .have c:Sum.inl a=oY (bl s):=c;refine no _ _ (by decide) ?_ j;unfold kT;rw[P,<-c];rfl
 .have c:Sum.inr (fu d)=oY (bl s):=c;refine no _ _ (by decide) ?_ j;unfold kT;rw[P,<-c];dsimp only[cond_false];rw[Ba,show Nat.blt 64 (eU d.tp).sz=true from by rw[Nat.blt_eq];exact G];rfl
 .have c:Sum.inr (fu d)=oY (bl s):=c;have Q:=hf _ c.symm;rw[Ba]at Q;have y:kT (bl s)=if nu (eU d.tp)=0 then(if jv (iC (eU d.tp))=0 then cN 0 (iC (eU d.tp)) (bj (iC (eU d.tp)))==bl s else false)else false:=by unfold kT;rw[P,<-c];dsimp only[cond_false];have:Nat.blt 64 (eU d.tp).sz=false:=FO (by omega);rw[Ba,this];rfl
  generalize eU d.tp=x at z Q y G;have ae:=aa.gv (.tree t) f1 pt (λb O=>.inl (ft b (a4.1 O)));have av:t.sz<=64:=by rw[<-I.eF,z];exact G
  refine⟨_,_,_,t.s,_,_,j,ae.aN λh L N=>cD (λu=>absurd rfl u) (λ_=>N.ak λw3 D=>?_)⟩;refine D.jF (Og Ux (by omega) t w3 (by omega) (by rw[z];exact Q) (D.getD 0)) ?_;rintro _ w4 ⟨B,rfl,A,pu,af⟩ _ F4;rw[z]at A;rw[z];have H4:=F4.rd (.tree B) pu λb O=>af b (a4.1 O);refine⟨_,_,_,B.s,_,rfl,H4.aN λF w5 H5=>cD (λK=>H5.ak λn q=>⟨by rw[y,aq K],q.fr⟩) (λH=>H5.ak λn q=>?_)⟩;rw[aA H]at y;have ac:B.sz<=1000000:=by
   rw[<-I.eF,A];have:nu x=0:=H;unfold nu at this;unfold iC;split at this
   .rename_i k;rw[aA k];unfold oo at this;unfold oq;split at this
    .cases this
    .rename_i ag;rw[aq ag];omega
   .rename_i k;exact absurd this k
  refine h7 (Ks.aB _ _ _ _ n _ ((gE (q.getD 1)).aN λb1 W H7=>H7.ax (F6 B W ac (H7.getD 0)) ?_));rintro _ M rfl E;rw[A];refine⟨_,rfl,cD (λK=>⟨E.fr,_,_,rfl,aJ (λu=>absurd u K) (λ_=>⟨by rw[y,aq K],(q.ct E.fr).fr⟩)⟩) (λk=>E.ax (Tw B 0 M ac (by omega) ?_ (E.getD 0)) ?_)⟩
  .exact If _ (by rw[A];exact(EU k).1)
  .rintro _ w9 rfl H9;refine⟨_,rfl,H9.fr,_,_,rfl,a8 rfl ⟨?_,(q.ct H9.fr).fr⟩⟩;rw[y,aA k,A];congr 2;have:=rl (cN 0 (iC x) (bj (iC x))) (bl s);rw[mW]at this;exact this
def HU(t:BL):Bool:=match oY t with
 |.inr c=>Nat.ble (du (eU c.tp)) 12
 |.inl _=>true
def tG(t:BL):Bool:=(match mZ t with
 |some b=>kT t==b
 |none=>false)&&HU t&&Nat.ble t.length 100
def iw(i:Nat):Bool:=(List.range 108).all (λc=>tG (jY (108 *i+c)))
def QF:iw 0=true:=by kernel_rfl
def QG:iw 1=true:=by kernel_rfl
def QN:iw 2=true:=by kernel_rfl
def QO:iw 3=true:=by kernel_rfl
def QP:iw 4=true:=by kernel_rfl
def QQ:iw 5=true:=by kernel_rfl
def QR:iw 6=true:=by kernel_rfl
def QS:iw 7=true:=by kernel_rfl
def QT:iw 8=true:=by kernel_rfl
def QU:iw 9=true:=by kernel_rfl
def QH:iw 10=true:=by kernel_rfl
def QI:iw 11=true:=by kernel_rfl
def QJ:iw 12=true:=by kernel_rfl
def QK:iw 13=true:=by kernel_rfl
def QL:iw 14=true:=by kernel_rfl
def QM:iw 15=true:=by kernel_rfl
def QE:∀i,i<16->iw i=true:=by
 intro i d
 match i,d with
 |0,_=>exact QF
 |1,_=>exact QG
 |2,_=>exact QN
 |3,_=>exact QO
 |4,_=>exact QP
 |5,_=>exact QQ
 |6,_=>exact QR
 |7,_=>exact QS
 |8,_=>exact QT
 |9,_=>exact QU
 |10,_=>exact QH
 |11,_=>exact QI
 |12,_=>exact QJ
 |13,_=>exact QK
 |14,_=>exact QL
 |15,_=>exact QM
 |e+16,c=>exact absurd c (by omega)
def QD(k:Nat)(h:k<1728):tG (jY k)=true:=by
 have c:=QE (k / 108) (by omega);have d:=fF.1 c (k%108) (List.mem_range.2 (Nat.mod_lt _ (by omega)))
 rwa[Nat.div_add_mod]at d
def H2:List BL:=[[],[97],[65],[115,101,118,101,110,116,101,101,110,45,108,101,116,116,101,114,115],[97,45,49],[45],[40],[122,122],[97,98],[98],[0],[97,97],[99],[100],[109],[110],[115],[116],[105],[122]]
def Qm:H2.all tG=true:=by kernel_rfl
def zQ(t:ByteArray):Prop:=bl t∈H2\/∃c,t=ba (jY c)
def Tb{t:ByteArray}(h:zQ t):tG (bl t)=true:=by
 rcases h with h|⟨c,rfl⟩
 .exact fF.1 Qm _ h
 .rw [nW,EF];exact QD (c%1728) (Nat.mod_lt _ (by omega))
def JG{t:ByteArray}(h:zQ t):tk t/\zP t/\t.size<=100:=by
 have k:=Tb h;unfold tG at k;simp only[bC]at k;obtain⟨⟨c,j⟩,d⟩:=k;have d:=Nat.le_of_ble_eq_true d;rw[eS]at d;cases e:mZ (bl t)with
 |none=>rw[e]at c;cases c
 |some b=>
  rw[e]at c;have c:=eq_of_beq c;have n:tk t:=⟨by omega,b,e⟩;refine⟨n,λw=>?_,d⟩;have u:m0 t=b:=by have:=n.can;rw[e]at this;exact(fV this).symm
  rw[u,<-c];refine Vh t (λx q=>Be _ ?_) w;unfold HU at j;rw[q]at j;exact Nat.le_of_ble_eq_true j
structure q7(c:Nat)(d:Nx):Prop where
 kl:d.kids.length<=c
 n:bn d.n
 m:bn d.m
 u:0<=d.u
 tx:d.op=33->zQ d.tx
def MdN.sp{d:Nx}(h:MdN d):q7 3 d:=⟨h.kl,⟨by have:=h.n;omega,by have:=h.n;omega⟩,⟨by have:=h.m;omega,by have:=h.m;omega⟩,h.u.1,λc=>.inr (h.re c)⟩
def q7.SP{c:Nat}{d:Nx}(h:q7 c d)(j:c<=100):nS d:=⟨by have:=h.kl;unfold eZ;omega,h.n,h.m,λe=>(JG (h.tx e)).1⟩
def q7.tok{c:Nat}{d:Nx}(h:q7 c d)(j:c<=100):q9 d:=⟨by have:=h.kl;omega,h.n,h.m,h.u,λe=>(JG (h.tx e)).2.1⟩
def Ij(n:Int):bn (ad .i64 n):=by
 have:ad .i64 n=(n+9223372036854775808)%18446744073709551616 - 9223372036854775808:=by simp[ad,IntKind.bits,IntKind.signed];split<;>omega
 rw[this];constructor<;>omega
structure nP(c:Nat)(d:Nx):Prop where
 sp:q7 c d
 wd:lj d
 tl:d.tx.size<=1000
def nP.small{c:Nat}{d:Nx}(h:nP c d)(e:c<=100):(gh d).length<=1000000:=SM h.wd (by have:=h.sp.kl;omega) h.tl
def jB.gd{g:List Nx}(h:jB g)(G:g.length<=1000):∀d∈g,nP 3 d:=by
 intro d e;have c:=h.nd d e;obtain⟨i,w⟩:=g5.1 e;have F:=(dh.1 w).1;have j:=h.vg.kids w;have I:=EV.1 (h.vg.val d e);have H:d.tx.size<=100:=by
  by_cases q:d.op=33
  .obtain ⟨k,j⟩:=c.re q;rw[j,de];have:=Mu k;omega
  .have:=c.tx q;omega
 have y:=c.DC;have z:=c.DD;have A:=c.kl;have B:=c.n;have D:=c.m;have E:=c.u;exact⟨c.sp,⟨⟨by omega,by omega⟩,λk x=>by have:=j k x;exact⟨by omega,by omega⟩,by omega,⟨by omega,by omega⟩,⟨by omega,by omega⟩,⟨by omega,by omega⟩,by omega,⟨by omega,by omega⟩,⟨by omega,by omega⟩,⟨by omega,by omega⟩⟩,by omega⟩
structure Lx where
 m:Lm
 gl:List Nd
 hy:List Int
 cl:List Int
 ds:List Sp
abbrev Lm.v(x:Lm):ab:=.agg #[x.g.v,x.h.v,x.c.v,x.s.v]
def mU(w:C)(x:Lx):Prop:=GP w x.m.g x.gl/\bo w x.m.h x.hy/\bo w x.m.c x.cl/\fk w x.m.s x.ds
def e6(x:Lx):En:=.all [.gr x.m.g x.gl,.rd x.m.h (x.hy.map bd),.rd x.m.c (x.cl.map bd),.sp x.m.s x.ds]
def iA{w:C}{x:Lx}:(e6 x).P w↔mU w x:=by
 constructor
 .intro d;exact⟨bU.1 (d (.gr x.m.g x.gl) (by simp)),d (.rd x.m.h (x.hy.map bd)) (by simp),d (.rd x.m.c (x.cl.map bd)) (by simp),dp.1 (d (.sp x.m.s x.ds) (by simp))⟩
 .rintro ⟨j,k,n,q⟩ u e;simp only[ay,aW,a3]at e;rcases e with rfl|rfl|rfl|rfl
  .exact bU.2 j
  .exact k
  .exact n
  .exact dp.2 q
def k8(n:Nat)(l:List Int):Prop:=l.length<=n/\∀c∈l,bn c
def k8.le{n m:Nat}{l:List Int}(h:k8 n l)(c:n<=m):k8 m l:=⟨bB h.1 c,h.2⟩
structure hg(n:Nat)(s:dz):Prop where
 k:bn s.kind/\bn s.node/\bn s.dD
 p:k8 n s.params
 l:k8 n s.cY
 h:k8 n s.hints
 t:s.nm.size<=n
def hg.le{n m:Nat}{s:dz}(h:hg n s)(c:n<=m):hg m s:=⟨h.k,h.p.le c,h.l.le c,h.h.le c,bB h.t c⟩
def fK(n:Nat)(l:List Sp):Prop:=l.length<=n/\∀c∈l,hg n c.x
def fK.le{n m:Nat}{l:List Sp}(h:fK n l)(c:n<=m):fK m l:=⟨bB h.1 c,λd e=>(h.2 d e).le c⟩
structure j4(n:Nat)(x:Lx):Prop where
 g:x.gl.length<=n/\∀d∈xs x.gl,nP 3 d
 h:k8 n x.hy
 c:k8 n x.cl
 s:fK n x.ds
def j4.le{n m:Nat}{x:Lx}(h:j4 n x)(d:n<=m):j4 m x:=⟨⟨bB h.g.1 d,h.g.2⟩,h.h.le d,h.c.le d,h.s.le d⟩
def hg.yS{d:Sp}(h:hg 100 d.x):pa d:=⟨by have:=h.p.1;omega,by have:=h.l.1;omega,by have:=h.h.1;omega⟩
def ji:List dz->Int->Int
 |[],_=>0
 |s::r,i=>if s.kind=4 then 12 else if gp s i 0≠0 then gp s i 0 else ji r (i+1)
def BU{s:dz}{r:List dz}{i:Int}(h:s.kind=4):ji (s::r) i=12:=by
 conv=>lhs;unfold ji
 rw[aA h]
def BV{s:dz}{r:List dz}{i:Int}(h:s.kind≠4)(c:gp s i 0≠0):ji (s::r) i=gp s i 0:=by
 conv=>lhs;unfold ji
 rw[aq h,aA c]
def BW{s:dz}{r:List dz}{i:Int}(h:s.kind≠4)(c:gp s i 0=0):ji (s::r) i=ji r (i+1):=by
 conv=>lhs;unfold ji
 rw[aq h,aq (by omega)]
def pU(n:Nat)(l:List Int):Bool:=l.all λc=>af (0<=c)&&af (c<(n:Int))
def gD(x:Lx):Int:=if iG (xs x.gl)≠0 then iG (xs x.gl)else if pU x.gl.length x.hy then if fq x.cl≠0 then fq x.cl else ji (dE x.ds) 0 else 7
section
variable {w0:C} {x:Lx} {E:Int} {D:List En}
def Ii{n:Nat}{l:List Int}{i:Nat}{y:Int}(h:l[i]? =some y):pU n (l.drop i)=(af (0<=y)&&af (y<(n:Int))&&pU n (l.drop (i+1))):=by rw[lu h];rfl
def Rq{s:J}{l:List Sp}(S:l.length<=100)(N:∀j∈l,hg 100 j.x)(z:En.sp s l∈D):∀(k i:Nat) (w:C) (L:List En),i+k=l.length->Z F0 w0 w L D->E=ji ((dE l).drop i) (i:Int)->
  oE.dy s ((s.n:Nat):Int) (i:Int) w (ej w0 E):=by
 intro k;induction k with
 |zero=>
  intro i w L K h c;have M:=(dp.1 (h.rd _ z)).n;rw[c9 (by simp;omega)]at c;exact oE.ha _ _ _ _ _ (bb (a2 (by omega)) ⟨by rw[c];rfl,h.fr⟩)
 |succ k O=>
  intro i w L K h c;have G:=dp.1 (h.rd _ z);have M:=G.n;have u:l[i]? =some l[i]:=a9 (by omega);generalize l[i]=j at u;have H:=aE u;rw[yX u]at c;refine oE.ha _ _ _ _ _ (a8 (a0 (by omega)) ⟨by omega,by omega,G.get u λp e=>?_⟩);rw[bT];refine⟨_,_,_,_,_,_,_,e.c0,e.c1,e.c2,e.c3,e.c4,e.c5,e.c6,h.aN λQ W F=>aJ (λq=>F.ak λY I=>⟨by rw[c,BU q],I.fr⟩) λq=>F.ak λT A=>A.ax (IL (d:=j) (N j H).yS ((dp.1 (A.rd _ z)).2 j H)) ?_⟩;rintro _ P rfl B;refine⟨_,rfl,cD (λy=>⟨by rw[c,BV q y],B.fr⟩) (λy=>?_)⟩;rw[bA _ (by omega)];exact O (i+1) P _ (by omega) B (by rw[c,BW q y];rfl)
def Rp{b:Nat}(e:j4 100 x)(z:e6 x∈D)(I:E=gD x)(T:iG (xs x.gl)=0):∀(k i:Nat) (w:C) (L:List En),i+k=x.hy.length->En.g b∈L->Z F0 w0 w L D->pU x.gl.length x.hy=pU x.gl.length (x.hy.drop i)->
  oE.aH b x.m.g x.m.h x.m.c x.m.s x.m.h ((x.m.h.n:Nat):Int) (i:Int) w (ej w0 E):=by
 have W:=e.h.1;intro k;induction k with
 |zero=>
  intro i w L P J j d;have q:=iA.1 (j.rd _ z);have G:=bo.len q.2.1;rw[c9 (by omega)]at d;have d:E=if fq x.cl≠0 then fq x.cl else ji (dE x.ds) 0:=by rw[I];unfold gD;rw[aq (by omega),d];rfl
  refine oE.bD _ _ _ _ _ _ _ _ _ _ (bb (a2 (by omega)) (j.ax (IJ q.2.2.1 (by have:=e.c.1;omega)) ?_));rintro _ S rfl F;refine⟨_,rfl,cD (λA=>⟨by rw[d,aA A],F.fr⟩) (λA=>?_)⟩;have M:=iA.1 (F.rd _ z);have aa:=M.2.2.2.n;have:=e.s.1;refine bb (a2 (by omega)) ?_;have K:=F.kR (.sp x.m.s x.ds::D) λd B=>?_
  .exact Rq (by omega) e.s.2 (D:=.sp x.m.s x.ds::D) (by simp) x.ds.length 0 S _ (by omega) K (by rw[d,aq (by omega)];rfl)
  .rcases ay.1 B with rfl|B
   .exact ⟨λu=>u (e6 x) z (En.sp x.m.s x.ds) (by simp),λb e=>⟨e6 x,z,gw.2 ⟨_,by simp,e⟩⟩⟩
   .exact ⟨λu=>u d B,λb e=>⟨d,B,e⟩⟩
 |succ k Q=>
  intro i w L P J j d;have q:=iA.1 (j.rd _ z);have G:=bo.len q.2.1;have Y:=g0 q.1;have H:x.hy[i]? =some x.hy[i]:=a9 (by omega);generalize x.hy[i]=y at H;rw[Ii H]at d;have bad:¬(0<=y/\y<(x.gl.length:Int))->ej w0 E (U (.i 7)) w:=λG=>by
   refine⟨?_,j.fr⟩;rw[I];unfold gD;rw[aq (by omega),d];have:(af (0<=y)&&af (y<(x.gl.length:Int)))=false:=by
    cases u:(af (0<=y)&&af (y<(x.gl.length:Int)))with
    |false=>rfl
    |true=>simp only[bC,decide_eq_true_eq]at u;exact absurd u G
   rw[this];rfl
  refine oE.bD _ _ _ _ _ _ _ _ _ _ (a8 (a0 (by omega)) ⟨by omega,by omega,bo.cell q.2.1 H (by rw[bT]) λp _ O=>⟨y,O,aQ (λA=>bad (by omega)) λA=>aQ (λN=>bad (by omega)) λN=>?_⟩⟩);rw[bA _ (by omega)];exact Q (i+1) w L (by omega) J j (by rw[d,a0 (by omega),a0 (by omega)];rfl)
def xg{l:List Nd}(h:∀c∈xs l,nP 3 c):∀c∈l,(q9 c.x/\lj c.x)/\nS c.x:=λc d=>by have:=h c.x (dv.2 ⟨c,d,rfl⟩);exact⟨⟨this.sp.tok (by omega),this.wd⟩,this.sp.SP (by omega)⟩
def IK(j:j4 100 x){w:C}(h:mU w x)(y:dd.P w):ah V xM #[x.m.v] w (ej w (gD x)):=by
 refine oE.aB _ _ _ _ w _ ((bN (w:=w) [e6 x,dd] (by
  intro A k;simp only[ay,aW,a3]at k;rcases k with rfl|rfl
  .exact iA.2 h
  .exact y)).aN λb B c=>?_)
 have n:=iA.1 (c.rd (e6 x) (by simp));refine c.ax (L7 n.1 (c.rd dd (by simp)) λ_ q u=>(xg j.g.2 q u).1) ?_;rintro _ z rfl e;refine⟨_,rfl,cD (λd=>⟨by unfold gD;rw[aA d],e.fr⟩) (λd=>?_)⟩;exact Rp j (by simp) rfl d x.hy.length 0 z _ (by omega) (by simp) e rfl
def O6{m:Lm}{b:Nat}{l:List Sp}(Q:l.length<=100)(N:∀y∈l,hg 100 y.x)(G:En.sp m.s l∈D):∀(k i:Nat) (w:C) (L:List En),i+k=l.length->En.g b∈L->Z F0 w0 w L D->E=ji ((dE l).drop i) (i:Int)->
  n5.dy b m.g m.h m.c m.s (i:Int) w (ej w0 E):=by
 intro k;induction k with
 |zero=>
  intro i w L J u q j;have K:=(dp.1 (q.rd _ G)).n;rw[c9 (by simp;omega)]at j;exact n5.ha _ _ _ _ _ _ _ _ (bb (a2 (by omega)) ⟨by rw[j];rfl,q.fr⟩)
 |succ k O=>
  intro i w L J I q j;have z:=dp.1 (q.rd _ G);have K:=z.n;have u:l[i]? =some l[i]:=a9 (by omega);generalize l[i]=y at u;have H:=aE u;rw[yX u]at j;refine n5.ha _ _ _ _ _ _ _ _ (a8 (a0 (by omega)) ⟨by omega,by omega,z.get' u λp M e=>?_⟩);rw[bT];refine⟨_,e.c0,aJ (λA=>⟨by rw[j,BU A],q.fr⟩) λA=>⟨by omega,by omega,z.get' u λp M e=>⟨_,_,_,_,_,_,_,e.c0,e.c1,e.c2,e.c3,e.c4,e.c5,e.c6,q.ax (F5 (d:=y) (N y H).yS (z.2 y H)) ?_⟩⟩⟩;rintro _ P rfl F;refine⟨_,rfl,cD (λB=>⟨by rw[j,BV A B],F.fr⟩) (λB=>?_)⟩;rw[bA _ (by omega)];exact O (i+1) P _ (by omega) I F (by rw[j,BW A B];rfl)
def O5{b:Nat}(u:j4 100 x)(A:e6 x∈D)(S:E=gD x)(h0:iG (xs x.gl)=0):∀(k i:Nat) (w:C) (L:List En),i+k=x.hy.length->En.g b∈L->Z F0 w0 w L D->pU x.gl.length x.hy=pU x.gl.length (x.hy.drop i)->
  n5.aH b x.m.g x.m.h x.m.c x.m.s (i:Int) w (ej w0 E):=by
 have aa:=u.h.1;intro k;induction k with
 |zero=>
  intro i w L hi M B d;have F:=iA.1 (B.rd _ A);have P:=bo.len F.2.1;rw[c9 (by omega)]at d;have d:E=if fq x.cl≠0 then fq x.cl else ji (dE x.ds) 0:=by rw[S];unfold gD;rw[aq (by omega),d];rfl
  refine n5.bD _ _ _ _ _ _ _ _ (bb (a2 (by omega)) (B.ax (F' F.2.2.1 (by have:=u.c.1;omega)) ?_));rintro _ e rfl q;refine⟨_,rfl,cD (λH=>⟨by rw[d,aA H],q.fr⟩) (λH=>?_)⟩;have G:=iA.1 (q.rd _ A);have ac:=G.2.2.2.n;have:=u.s.1;refine bb (a2 (by omega)) ?_;have W:=q.kR (.sp x.m.s x.ds::D) λd J=>?_
  .exact O6 (by omega) u.s.2 (D:=.sp x.m.s x.ds::D) (by simp) x.ds.length 0 e _ (by omega) M W (by rw[d,aq (by omega)];rfl)
  .rcases ay.1 J with rfl|J
   .exact ⟨λz=>z (e6 x) A (En.sp x.m.s x.ds) (by simp),λb u=>⟨e6 x,A,gw.2 ⟨_,by simp,u⟩⟩⟩
   .exact ⟨λz=>z d J,λb u=>⟨d,J,u⟩⟩
 |succ k ih=>
  intro i w L hi M B d;have F:=iA.1 (B.rd _ A);have P:=bo.len F.2.1;have O:x.hy[i]? =some x.hy[i]:=a9 (by omega);generalize x.hy[i]=y at O;rw[Ii O]at d;have bad:∀e,aj w0 e->¬(0<=y/\y<(x.gl.length:Int))->ej w0 E (U (.i 7)) e:=λe f P=>by
   refine⟨?_,f⟩;rw[S];unfold gD;rw[aq (by omega),d];have:(af (0<=y)&&af (y<(x.gl.length:Int)))=false:=by
    cases z:(af (0<=y)&&af (y<(x.gl.length:Int)))with
    |false=>rfl
    |true=>simp only[bC,decide_eq_true_eq]at z;exact absurd z P
   rw[this];rfl
  refine n5.bD _ _ _ _ _ _ _ _ (a8 (a0 (by omega)) ⟨by omega,by omega,bo.cell F.2.1 O (j:=i *1) rfl λp N _=>B.ak (λe q=>?_) (by simp[M])⟩);have G:=iA.1 (q.rd _ A);have ab:=g0 G.1;obtain⟨Q,_,T,I⟩:=sc (bo.cell G.2.1 O (j:=ae (i:Int) *1) (K:=λQ=>x.m.h.a=some Q/\e.cell? (Q.add (ae (i:Int) *1))=some (.i y)) (by rw[bT]) λp N I=>⟨N,I⟩);rw[T]at N;cases N;refine⟨y,I,aQ (λH=>bad e q.fr (by omega)) λH=>⟨by omega,by omega,uW T ⟨y,I,aQ (λY=>bad e q.fr (by omega)) λY=>?_⟩⟩⟩;rw[bA _ (by omega)];exact ih (i+1) e L (by omega) M q (by rw[d,a0 (by omega),a0 (by omega)];rfl)
def F1(d:j4 100 x){w:C}(h:mU w x):ah V xD #[x.m.v] w (ej w (gD x)):=by
 refine n5.aB _ _ _ _ w _ ((bN (w:=w) [e6 x] (by intro z u;rw[cO.1 u];exact iA.2 h)).aN λb A e=>?_)
 have k:=iA.1 (e.rd (e6 x) (by simp));refine e.ax (OT k.1 (λ_ n q=>(xg d.g.2 n q).2) (by have:=d.g.1;omega)) ?_;rintro _ y rfl j;refine⟨_,rfl,cD (λc=>⟨by unfold gD;rw[aA c],j.fr⟩) (λc=>?_)⟩;exact O5 d (by simp) rfl c x.hy.length 0 y _ (by omega) (by simp) j rfl
end
def hH(w:C)(s:J)(l:List Lx):Prop:=bF 4 w s ((l.map Lx.m).flatMap Lm.cs)/\∀c∈l,mU w c
def dw(s:J)(l:List Lx):En:=.all (.bh 4 s ((l.map Lx.m).flatMap Lm.cs)::l.map e6)
def e5{w:C}{s:J}{l:List Lx}:(dw s l).P w↔hH w s l:=by
 constructor
 .exact λc=>⟨c (.bh 4 s ((l.map Lx.m).flatMap Lm.cs)) (by simp),λd h=>iA.1 (c (e6 d) (eb _ (dv.2 ⟨d,h,rfl⟩)))⟩
 .intro c j e;rcases ay.1 e with rfl|e
  .exact c.1
  .obtain ⟨d,h,rfl⟩:=dv.1 e;exact iA.2 (c.2 d h)
def hH.n{w:C}{s:J}{l:List Lx}(h:hH w s l):s.n=l.length:=by have c:((l.map Lx.m).flatMap Lm.cs).length=s.n *4:=h.1.1;rw[Lm.len,mA]at c;omega
structure Lm.fJ(w:C)(p:Addr)(i:Nat)(x:Lm):Prop where
 c0:w.cell? ((p.add (i *4)).add 0)=some x.g.v
 c1:w.cell? ((p.add (i *4)).add 1)=some x.h.v
 c2:w.cell? ((p.add (i *4)).add 2)=some x.c.v
 c3:w.cell? ((p.add (i *4)).add 3)=some x.s.v
def hH.again{w:C}{s:J}{l:List Lx}(h:hH w s l){i:Nat}{x:Lx}(hi:l[i]? =some x):∃p,s.a=some p/\Lm.fJ w p i x.m:=by
 have d:(l.map Lx.m)[i]? =some x.m:=by rw[jk,hi];rfl
 have k:=(dh.1 d).1;have:=eY.elem (f:=Lm.cs) (sz:=4) (s:=s) (w:=w) (λ_=>rfl) (by decide) h.1.2.2 d (K:=λp=>s.a=some p/\Lm.fJ w p i x.m) λp j c=>⟨j,c 0 _ rfl,c 1 _ rfl,c 2 _ rfl,c 3 _ rfl⟩;obtain⟨p,_,e⟩:=sc this;exact⟨p,e⟩
def hH.get{w:C}{s:J}{l:List Lx}(h:hH w s l){i:Nat}{x:Lx}(hi:l[i]? =some x){K:Addr->Prop}(e:∀p,s.a=some p->Lm.fJ w p i x.m->K p):cd s.a K:=by obtain⟨p,c,d⟩:=h.again hi;rw[c];exact e p c d
def jh:List Lx->Int
 |[]=>0
 |c::r=>if gD c≠0 then gD c else jh r
def iW(ls:List Lx)(c:List dz):Int:=if jh ls≠0 then jh ls else k2 c 0 (ls.length:Int)
def hc(n:Nat)(l:List Lx):Prop:=l.length<=n/\∀c∈l,j4 n c
def hc.le{n m:Nat}{l:List Lx}(h:hc n l)(c:n<=m):hc m l:=⟨bB h.1 c,λd e=>(h.2 d e).le c⟩
section
variable {w0:C} {s t:J} {l:List Lx} {ds:List Sp} {b:Nat} {E:Int} {D:List En}
def IZ{i:Nat}{x:Lx}(hi:l[i]? =some x):l.drop i=x::l.drop (i+1):=by obtain⟨d,c⟩:=dh.1 hi;rw[<-c];exact List.drop_eq_getElem_cons d
def BO{x:Lx}{r:List Lx}(h:gD x≠0):jh (x::r)=gD x:=by
 conv=>lhs;unfold jh
 rw[aA h]
def BP{x:Lx}{r:List Lx}(h:gD x=0):jh (x::r)=jh r:=by
 conv=>lhs;unfold jh
 rw[aq (by omega)]
def Ro(F:hc 100 l)(G:fK 100 ds)(y:dw s l∈D)(O:En.sp t ds∈D)(N:dd∈D)(B:E=iW l (dE ds)):∀(k i:Nat) (w:C) (L:List En),i+k=l.length->En.g b∈L->Z F0 w0 w L D->jh l=jh (l.drop i)->
  lN.bO b s t s ((s.n:Nat):Int) (i:Int) w (ej w0 E):=by
 have W:=F.1;intro k;induction k with
 |zero=>
  intro i w L P e d c;have I:=(e5.1 (d.rd _ y)).n;rw[c9 (by omega)]at c;refine lN.eh _ _ _ _ _ _ _ _ (bb (a2 (by omega)) ?_);refine IM (by have:=G.1;omega) (λK M=>(G.2 K M).yS) O ds.length 0 w L (by omega) e d ?_;rw[B,List.drop_zero,I];unfold iW;rw[c];rfl
 |succ k Q=>
  intro i w L P e d c;have A:=e5.1 (d.rd _ y);have I:=A.n;have q:l[i]? =some l[i]:=a9 (by omega);generalize l[i]=x at q;have H:=aE q;rw[IZ q]at c;refine lN.eh _ _ _ _ _ _ _ _ (a8 (a0 (by omega)) ⟨by omega,by omega,A.get q λp _ j=>?_⟩);rw[bT];refine⟨_,_,_,_,j.c0,j.c1,j.c2,j.c3,d.aN (λT Y J=>J.ak (λw2 u=>u.ax (IK (F.2 x H) ((e5.1 (u.rd _ y)).2 x H) (u.rd _ N)) ?_) (by simp[e])) (by simp[e])⟩;rintro _ S rfl z;refine⟨_,rfl,cD (λh=>⟨?_,z.fr⟩) (λh=>?_)⟩
  .rw [B];unfold iW;rw[c,BO h,aA h]
  .rw [bA _ (by omega)];exact Q (i+1) S _ (by omega) (by simp[e]) z (by rw[c,BP h])
def BH(c:hc 100 l)(d:fK 100 ds){w:C}(h:hH w s l)(j:fk w t ds)(q:dd.P w):ah V ow #[.agg #[s.v,t.v]] w (ej w (iW l (dE ds))):=by
 have B:=h.n;have A:=j.n;have y:=c.1;have z:=d.1;refine lN.aB _ _ w _ ((bN (w:=w) [dw s l,.sp t ds,dd] (by
  intro x e;simp only[ay,aW,a3]at e;rcases e with rfl|rfl|rfl
  .exact e5.2 h
  .exact dp.2 j
  .exact q)).aN λb u k=>bb (a2 (by omega)) (bb (a2 (by omega)) ?_))
 exact Ro c d (by simp) (by simp) (by simp) rfl l.length 0 u _ (by omega) (by simp) k rfl
def O3(B:hc 100 l)(F:fK 100 ds)(z:dw s l∈D)(K:En.sp t ds∈D)(A:E=iW l (dE ds)):∀(k i:Nat) (w:C) (L:List En),i+k=l.length->En.g b∈L->Z F0 w0 w L D->jh l=jh (l.drop i)->
  n6.bO b s t (i:Int) w (ej w0 E):=by
 have P:=B.1;intro k;induction k with
 |zero=>
  intro i w L M u d c;have H:=(e5.1 (d.rd _ z)).n;rw[c9 (by omega)]at c;refine n6.eh _ _ _ _ _ _ (bb (a2 (by omega)) ?_);refine O4 (by have:=F.1;omega) (λI J=>(F.2 I J).yS) K ds.length 0 w L (by omega) u d ?_;rw[A,List.drop_zero,H];unfold iW;rw[c];rfl
 |succ k N=>
  intro i w L M u d c;have q:=e5.1 (d.rd _ z);have H:=q.n;have j:l[i]? =some l[i]:=a9 (by omega);generalize l[i]=x at j;have G:=aE j;rw[IZ j]at c;refine n6.eh _ _ _ _ _ _ (a8 (a0 (by omega)) ⟨by omega,by omega,q.get j λp _ h=>?_⟩);rw[bT];refine⟨_,_,_,_,h.c0,h.c1,h.c2,h.c3,d.ax (F1 (B.2 x G) (q.2 x G)) ?_⟩;rintro _ O rfl y;refine⟨_,rfl,cD (λe=>⟨?_,y.fr⟩) (λe=>?_)⟩
  .rw [A];unfold iW;rw[c,BO e,aA e]
  .rw [bA _ (by omega)];exact N (i+1) O _ (by omega) u y (by rw[c,BP e])
def Oo(c:hc 100 l)(d:fK 100 ds){w:C}(h:hH w s l)(j:fk w t ds):ah V Cw #[.agg #[s.v,t.v]] w (ej w (iW l (dE ds))):=by
 have A:=h.n;have z:=j.n;have x:=c.1;have y:=d.1;refine n6.aB _ _ w _ ((bN (w:=w) [dw s l,.sp t ds] (by
  intro u e;simp only[ay,aW,a3]at e;rcases e with rfl|rfl
  .exact e5.2 h
  .exact dp.2 j)).aN λb q k=>bb (a2 (by omega)) (bb (a2 (by omega)) ?_))
 exact O3 c d (by simp) (by simp) rfl l.length 0 q _ (by omega) (by simp) k rfl
end
set_option maxHeartbeats 2000000
def j9(d:Sp):Sp:=⟨⟨if d.x.kind=4 then 5 else d.x.kind,d.x.node,d.x.dD,d.x.params,d.x.nm,d.x.cY,d.x.hints⟩,d.p,d.l,d.h⟩
def H'{c i aD:Nat}{s:dz}(h:mP c i aD s)(n:c<=40)(hi:i<=1000):hg 40 s:=by
 have k:=h.kind;have d:=h.node.1;refine⟨⟨by omega,d,h.dD⟩,⟨by have:=h.params.2;omega,h.params.1⟩,⟨by have:=h.cY.2.2;omega,h.cY.2.1⟩,⟨by have:=h.hints.2;omega,λj e=>by have:=h.hints.1 j e;omega⟩,?_⟩;have:∀t∈yg,t.size<=40:=by decide
 exact this _ h.nm
def hg.j9{n:Nat}{d:Sp}(h:hg n d.x):hg n (j9 d).x:=by
 refine⟨⟨?_,h.k.2⟩,h.p,h.l,h.h,h.t⟩;show bn (if d.x.kind=4 then 5 else d.x.kind);split
 .decide
 .exact h.k.1
def Ur{w:C}{xd:List Sp}(h:(cP xd).P w){d:Sp}(c:d∈xd):j6 w d:=sG.1 h d c
def R'{M:Nat->Prop}{w0 w:C}{L D D1:List En}{ds xd:List Sp}{x:Lx}(H:Z M w0 w L D1)(G:∀e∈D++[cP ds],e∈D1)(J:cP xd∈D1)(I:x.ds=xd.map j9)(h:∀e∈[En.gr x.m.g x.gl,.rd x.m.h (x.hy.map bd),.rd x.m.c (x.cl.map bd),.bh 7 x.m.s (x.ds.flatMap Sp.c)],e∈D1):Z M w0 w L (D++[e6 x]++[cP ds]):=by
 simp only[ay,aW,a3,forall_eq_or_imp,forall_eq]at h;obtain⟨A,B,E,F⟩:=h;refine H.kR _ λe u=>?_;simp only[a6,cO]at u;have K:e∈D++[cP ds]->((∀e∈D1,e.P w)->e.P w)/\∀b∈e.fp,∃y∈D1,b∈y.fp:=λh=>⟨λn=>n e (G e h),λb j=>⟨e,G e h,j⟩⟩;rcases u with(u|rfl)|rfl
 .exact K (bS _ u)
 .refine ⟨λn=>iA.2 ⟨bU.1 (n _ A),n _ B,n _ E,n _ F,λy q=>?_⟩,λb j=>?_⟩
  .rw [I]at q;obtain⟨a,z,rfl⟩:=dv.1 q;exact Ur (d:=a) (n _ J) z
  .obtain ⟨e,k,j⟩:=gw.1 j;simp only[ay,aW,a3]at k;rcases k with rfl|rfl|rfl|rfl
   .exact ⟨_,A,j⟩
   .exact ⟨_,B,j⟩
   .exact ⟨_,E,j⟩
   .obtain ⟨e,k,j⟩:=gw.1 j;rcases ay.1 k with rfl|k
    .exact ⟨_,F,j⟩
    .refine ⟨_,J,gw.2 ⟨e,?_,j⟩⟩;rw[I]at k;obtain⟨y,q,k⟩:=cj.1 k;obtain⟨a,z,rfl⟩:=dv.1 q;exact cj.2 ⟨a,z,k⟩
 .exact K (ef _ (cO.2 rfl))
def u'{e:TypeId}{s:J}{vs:List ab}{sz b:Nat}(h:b∈(En.bh sz s vs).fp):b∈(En.row e sz s vs).fp:=by
 have h:b∈(if vs=[]then[]else aO s):=h;split at h
 .cases h
 .exact h
section
variable {w0:C} {b6 b7:Nat} {m1 aD st:J} {D:List En} {ls:List Lm} {R:aa}
def U9{F x0 P:J}{gl:List Nd}{q d:Nat}{ds xd:List Sp}{ms:List Int}{D1:List En}(ac:d<ls.length)(al:ls.length<=100)(hx:∀y∈ms,bn y)(hm:En.rd m1 (ms.map bd)∈D)(aj:1<=F.n)(ab:gl.length<=40/\∀e∈xs gl,nP 3 e)(ai:F.n=gl.length)(am:xd.length<=40)(ah:∀e∈xd,hg 40 e.x)(aa:∀O∈D++[cP ds],O∈D1)(hG:En.gr F gl∈D1)(hX:cP xd∈D1)(hk:∀(y:Lx) w',j4 40 y->1<=y.gl.length->Z F0 w0 w' (eL b6 b7 aD (ls.set d y.m) st ds) (D++[e6 y]++[cP ds])->gz.aH m1 b6 ⟨none,0,0⟩ ⟨none,0,0⟩ b7 aD st ((d+1:Nat):Int) w' R):
  ∀(k u:Nat) (j:J) (w:C),u+k=xd.length->Z F0 w0 w (eL b6 b7 aD ls st ds++[.row dk 7 P (xd.flatMap Sp.c),.g q,.row dk 7 j (((xd.take u).map j9).flatMap Sp.c)]) D1->
  gz.bO m1 b6 ⟨none,0,0⟩ ⟨none,0,0⟩ b7 aD st (d:Int) F q x0 P j (u:Int) w R:=by
 have gs:∀(S:List En) (E e2 e3:En),∀b∈[b6,b7,q],En.g b∈(En.g b6::En.g b7::E::e2::e3::En.g q::S):=λS E e2 e3 b h=>by simp only[ay,aW,a3]at h;rcases h with rfl|rfl|rfl<;>simp
 have gm:∀(S:List En) (E:En),∀b∈[b6,b7,q],En.g b∈[En.g b6,En.g b7]++(E::En.g q::S):=λS E b h=>by simp only[ay,aW,a3]at h;rcases h with rfl|rfl|rfl<;>simp
 have fin:∀(h c j:J) (t:Int) (w':C) (E:En),0<=t/\t<(F.n:Int)->Z F0 w0 w' (eL b6 b7 aD ls st ds++[E,.g q,.row dk 7 j ((xd.map j9).flatMap Sp.c),.row bp 1 h ([t,0].map bd),.row bp 1 c ([-2 - (d:Int),7+(d:Int)].map bd)]) D1->
   aw aD (d:Int) λp=>ao w' (p.add (ae (d:Int) *4)) F.v λN=>kept [b6,b7,q] w' N/\ao N ((p.add (ae (d:Int) *4)).add 1) h.v λz=>kept [b6,b7,q] N z/\ao z ((p.add (ae (d:Int) *4)).add 2) c.v λG=>kept [b6,b7,q] z G/\ao G ((p.add (ae (d:Int) *4)).add 3) j.v λI=>kept [b6,b7,q] G I/\gz.be m1 b6 ⟨none,0,0⟩ ⟨none,0,0⟩ b7 aD st (d:Int) I R:=by
  intro h c j t w' E ht B;refine Ly ⟨F,h,c,j⟩ (X:=[_,_,_,_,_]) B ac (gm _ _) λw5 H5=>?_;have H6:=H5.freeze 8 (.rd c ([-2 - (d:Int),7+(d:Int)].map bd)) rfl (aG.fR (H5.get 8)) λb W=>iX W;have H7:=H6.freeze 7 (.rd h ([t,0].map bd)) rfl (aG.fR (H6.get 7)) λb W=>iX W;have H8:=H7.freeze 6 (.bh 7 j ((xd.map j9).flatMap Sp.c)) rfl (aG.bh (H7.get 6)) λb W=>u' W;have H9:=hk ⟨⟨F,h,c,j⟩,gl,[t,0],[-2 - (d:Int),7+(d:Int)],xd.map j9⟩ w5 ⟨ab,⟨by simp,?_⟩,⟨by simp,?_⟩,⟨by simp;omega,?_⟩⟩ (by show 1<=gl.length;omega) (R' (xd:=xd) (H8.take 4) (λO he=>?_) ?_ rfl ?_)
  .rw [<-bA d (by omega)]at H9;exact H9
  .intro y Y;simp only[ay,aW,a3]at Y;rcases Y with rfl|rfl
   .have:=ab.1;omega
   .decide
  .intro y Y;simp only[ay,aW,a3]at Y;rcases Y with rfl|rfl<;>omega
  .intro e hd;obtain⟨a,T,rfl⟩:=dv.1 hd;exact(ah a T).j9
  .have:=aa O he;simp[this]
  .simp [hX]
  .intro O he;simp only[ay,aW,a3]at he;rcases he with rfl|rfl|rfl|rfl
   .simp [hG]
   .simp
   .simp
   .simp
 intro k;induction k with
 |zero=>
  intro u j w af B;rw[g6 (by omega)]at B;have hn:=(B.get 4:aG _ _ _ _ _).len;rw[Sp.ee]at hn;have em:ad .i64 (-2 - (d:Int))=-2 - (d:Int):=bf _ (by omega);have e7:ad .i64 (7+(d:Int))=7+(d:Int):=bf _ (by omega);have E:ad .i64 (1+(d:Int))=((1+d:Nat):Int):=by rw[bf _ (by omega)];omega
  refine gz.eh _ _ _ _ _ _ _ _ _ _ _ _ _ _ _ _ (bb (a2 (by omega)) ⟨B.ak (bZ:=gs _ _ _ _) λN K=>?_,B.ak (bZ:=gs _ _ _ _) λN K=>?_⟩)
  .refine K.ax (pn (K.rd _ (aa _ (bS _ hm))) hx _ _ (by omega)) ?_;rintro _ z ⟨t,rfl,t1,t2⟩ A;rw[em,e7];refine⟨_,rfl,A.cB (n:=2) (sz:=1) (cs:=[t,0].map bd) rfl (by decide) λG L=>L.cB (n:=2) (sz:=1) (cs:=[-2 - (d:Int),7+(d:Int)].map bd) rfl (by decide) λI Q=>?_,A.cB (n:=2) (sz:=1) (cs:=[-2 - (d:Int),7+(d:Int)].map bd) rfl (by decide) λG L=>L.cB (n:=2) (sz:=1) (cs:=[t,0].map bd) rfl (by decide) λI Q=>?_⟩
   .exact fin ⟨some (ag z.heap.size),2,2⟩ ⟨some (ag G.heap.size),2,2⟩ j t I _ ⟨t1,t2⟩ Q
   .exact fin ⟨some (ag G.heap.size),2,2⟩ ⟨some (ag z.heap.size),2,2⟩ j t I _ ⟨t1,t2⟩ (Q.perm (.cons _ (.cons _ (.cons _ (.cons _ (.cons _ (.cons _ (.cons _ (.swap _ _ [])))))))))
  .rw [em,e7];refine K.cB (n:=2) (sz:=1) (cs:=[-2 - (d:Int),7+(d:Int)].map bd) rfl (by decide) λz A=>A.ax (pn (A.rd _ (aa _ (bS _ hm))) hx _ _ (by omega)) ?_;rintro _ G ⟨t,rfl,t1,t2⟩ L;refine⟨_,rfl,L.cB (n:=2) (sz:=1) (cs:=[t,0].map bd) rfl (by decide) λI Q=>?_⟩;exact fin ⟨some (ag G.heap.size),2,2⟩ ⟨some (ag N.heap.size),2,2⟩ j t I _ ⟨t1,t2⟩ (Q.perm (.cons _ (.cons _ (.cons _ (.cons _ (.cons _ (.cons _ (.cons _ (.swap _ _ [])))))))))
 |succ k ih=>
  intro u j w af B;have ho:aG w dk 7 P (xd.flatMap Sp.c):=B.get 4;have hn:=ho.len;rw[Sp.ee]at hn;have hs:=(B.get 6:aG _ _ _ _ _).len;rw[Sp.ee,mA,g4]at hs;obtain⟨e,hi⟩:∃e,xd[u]? =some e:=⟨xd[u],a9 (by omega)⟩;have ec:∀a:Int,a=(if e.x.kind=4 then 5 else e.x.kind)->((xd.take u).map j9).flatMap Sp.c++[.i a,.i e.x.node,.i e.x.dD,e.p.v,.string e.x.nm,e.l.v,e.h.v]=((xd.take (u+1)).map j9).flatMap Sp.c:=λa T=>by rw[eI,hi,T];simp[j9,Sp.c]
  have nx:∀(a:Int),a=(if e.x.kind=4 then 5 else e.x.kind)->∀(H:Nat) (w':C),Z F0 w0 w' (eL b6 b7 aD ls st ds++[.row dk 7 P (xd.flatMap Sp.c),.g q,.row dk 7 j (((xd.take u).map j9).flatMap Sp.c),.g H]) D1->
    gz.aY m1 b6 ⟨none,0,0⟩ ⟨none,0,0⟩ b7 aD st (d:Int) F q x0 P j (u:Int) H a e.x.node e.x.dD e.p e.x.nm e.l e.h w' R:=λa T H w' H'=>by
   refine H'.hL 6 pI rfl (λs' z A=>?_) (by omega) (bZ:=λb h=>?_)
   .rw [bA _ (by omega)];have L:=A.take 7;have O:=ec a T;refine ih (u+1) s' z (by omega) ?_;rw[<-O];exact L
   .simp only[ay,aW,a3]at h;rcases h with rfl|rfl|rfl|rfl<;>simp
  refine gz.eh _ _ _ _ _ _ _ _ _ _ _ _ _ _ _ _ (a8 (a0 (by omega)) ⟨by omega,by omega,eY.elem (f:=Sp.c) (sz:=7) Sp.jE (by omega) ho.bh.2.2 hi λp hp M=>⟨_,_,_,_,_,_,_,M 0 _ rfl,M 1 _ rfl,M 2 _ rfl,M 3 _ rfl,M 4 _ rfl,M 5 _ rfl,M 6 _ rfl,B.aN (bZ:=gs _ _ _ _) λH N K=>?_⟩⟩);have gl:∀b∈[b6,b7,q,H],En.g b∈eL b6 b7 aD ls st ds++[.row dk 7 P (xd.flatMap Sp.c),.g q,.row dk 7 j (((xd.take u).map j9).flatMap Sp.c)]++[.g H]:=λb h=>by simp only[ay,aW,a3]at h;rcases h with rfl|rfl|rfl|rfl<;>simp
  exact aJ (λh4=>K.ak (bZ:=gl) λz A=>nx 5 (by rw[aA h4]) H z A) (λh4=>K.ak (bZ:=gl) λz A=>nx e.x.kind (by rw[aq h4]) H z A)
end
def Fu(w0:C)(D:List En)(cm:Nat)(r:cQ)(w':C):Prop:=∃(aD st:J) (d:List Lx) (ds:List Sp),r=U (.agg #[aD.v,st.v])/\Z F0 w0 w' [.row g9 4 aD ((d.map Lx.m).flatMap Lm.cs),.row dk 7 st (ds.flatMap Sp.c)] (D++d.map e6++[cP ds])/\hc 40 d/\(∀h∈d,1<=h.gl.length)/\d.length<=2/\(∀e∈ds,hg 40 e.x)/\ds.length<=cm
def U8{w0:C}{S T:Nat}{m1 aD st:J}{ms:List Int}{D:List En}{ds:List Sp}{cm:Nat}(c:∀n∈ms,bn n)(ao:ms.length<=9223372036854775807)(H:En.rd m1 (ms.map bd)∈D)(ae:ds.length<=1000)(av:ds.length<=cm)(ad:∀(i:Nat) (d:Sp),ds[i]? =some d->d.x.params.length<=1):
  ∀(k i:Nat) (e:List Lx) (ls:List Lm) (w:C),i+k=ls.length->ls.length<=2->e.map Lx.m=ls.take i->hc 40 e->(∀n∈e,1<=n.gl.length)->kC w0 S T aD ls st ds (D++e.map e6) w->gz.aH m1 S ⟨none,0,0⟩ ⟨none,0,0⟩ T aD st (i:Int) w λr A=>Fu w0 D cm r A:=by
 intro k;induction k with
 |zero=>
  intro i e ls w ai am j E G h;have L:aG w g9 4 aD (ls.flatMap Lm.cs):=h.1.get 2;have K:=L.len;rw[Lm.len]at K;rw[g6 (by omega)]at j;have ay:e.length=ls.length:=by rw[<-j];simp
  refine gz.bD _ _ _ _ _ _ _ _ _ _ (bb (a2 (by omega)) ?_);refine Ut (m1:=m1) ae c (D:=D++e.map e6) (bS _ H) (λaa A au Y' az Z=>?_) ds.length 0 ds w (by omega) rfl (λy d _ q=>ad y d q) h;refine⟨aD,st,e,aa,rfl,?_,E,G,by omega,λd q=>?_,by omega⟩
  .rw [j];exact Z.ik [false,false,true,true]
  .obtain ⟨y,u⟩:=g5.1 q;have al:=(dh.1 u).1;exact H' (Y'.2.g y d u) (by omega) (by omega)
 |succ k ih=>
  intro i e ls w ai am j E G h;have L:aG w g9 4 aD (ls.flatMap Lm.cs):=h.1.get 2;have K:=L.len;rw[Lm.len]at K;have I:En.rd m1 (ms.map bd)∈D++e.map e6++[cP ds]:=bS _ (bS _ H);refine gz.bD _ _ _ _ _ _ _ _ _ _ (a8 (a0 (by omega)) (h.1.ax (pn (h.1.rd _ I) c _ 3 (by omega)) ?_));rintro _ w1 ⟨t,rfl,t1,t2⟩ O;refine⟨_,rfl,O.jF (Oe (O.rd _ I) c (by omega) t 4 (by omega)) ?_⟩;rintro _ w2 ⟨B,z,rfl,an,g1,g2,W,af⟩ _ ac;have P:=ac.2 (.gr B z) (bU.2 W) af;have ag:=g0 W;refine⟨_,rfl,h7 ((Gf (D:=D++e.map e6++[cP ds]++[.gr B z]) (w:=w2) c ao (cm:=4) (by omega) (bS _ I) (bN _ P.rd)).mono ?_)⟩;rintro _ w3 ⟨x0,x1,aA,N,rfl,Q,hf,_,aw,ah⟩;have H4:=P.Hf Q λab F=>by rw[cO.1 F];exact hf
  refine⟨Q.fr,_,_,rfl,H4.aN λar w4 H5=>H5.ak λw5 H6=>?_⟩;have H7:=(H6.gP dk 7).ik [true,true,true,true,false,true,true,true];refine U9 (D:=D++e.map e6) (ls:=ls) (xd:=N) (gl:=z) (D1:=D++e.map e6++[cP ds]++[.gr B z]++[cP N]) (by omega) (by omega) c (bS _ H) (by omega) ⟨by omega,an.gd (by simp[xs];omega)⟩ ag (by omega) (λd q=>?_) (λab F=>bS _ (bS _ F)) (by simp) (by simp) (λn A aq ap Y=>?_) N.length 0 ⟨none,0,0⟩ w5 (by omega) H7
  .obtain ⟨y,u⟩:=g5.1 q;have al:=(dh.1 u).1;exact H' (ah y d u) (by omega) (by omega)
  .have aj:i<ls.length:=by omega
   refine ih (i+1) (e++[n]) (ls.set i n.m) A (by simp;omega) (by simp;omega) ?_ ⟨?_,?_⟩ ?_ ⟨?_,by simpa using h.2⟩
   .rw [kX,j,eI];simp[aj,List.take_set_of_le]
   .have:e.length=(ls.take i).length:=by rw[<-j];simp
    simp only[cC,e8,hZ,g4]at this ⊢;omega
   .intro M c;rcases a6.1 c with c|c
    .exact E.2 M c
    .rw [cO.1 c];exact aq
   .intro M c;rcases a6.1 c with c|c
    .exact G M c
    .rw [cO.1 c];exact ap
   .rw [kX,<-jU];exact Y
def Oj{w:C}{D:List En}{x m1:J}{xs ms:List Int}(P:∀h∈xs,bn h)(Q:xs.length<=9223372036854775807)(S:∀h∈ms,bn h)(O:ms.length<=9223372036854775807){cm:Nat}(ab:cm<=40)(G:En.rd x (xs.map bd)∈D)(N:En.rd m1 (ms.map bd)∈D)(H:Z F0 w w [] D):
  ah V Cv #[x.v,m1.v,.i (cm:Int)] w λr W=>Fu w D cm r W:=by
 refine gz.aB _ _ _ w _ (H.aN λF Y c=>?_);refine h7 ((Gf (D:=D) (w:=Y) P Q (by omega) G (bN _ c.rd)).mono ?_);rintro _ w2 ⟨T,st,ls,n,rfl,j,q,M,K,u⟩;have z:=c.Hf j λaa L=>by rw[cO.1 L];exact q
 refine⟨j.fr,_,_,rfl,z.aN λk w3 A=>A.ak λy B=>?_⟩;have E:Z F0 w y (eL F k T ls st n) (D++[cP n]):=B.perm (.cons _ (List.perm_append_comm (l₁:=[_,_]) (l₂:=[En.g k])));refine U8 S O N (by omega) K (λi d e=>(u i d e).params.2) ls.length 0 [] ls y (by omega) M rfl ⟨by simp,by simp⟩ (by simp) ⟨by simpa using E,λi d e=>?_,λb I=>bB c.fr.size (q b I)⟩;have:=u i d e;exact⟨this.kind,this.node,this.dD,⟨this.params.1,by have:=this.params.2;omega⟩,this.cY,this.hints,this.nm⟩
def vX(w0:C)(c:List Nat)(w w':C):Prop:=∀b,(b∈c\/w0.heap.size<=b)->b<w.heap.size->w'.heap[b]? =w.heap[b]?
def lh(n:Nat)(w0:C)(e:List Nat)(r:cQ)(w':C):Prop:=∃(aD st:J) (d:List Lx) (ds:List Sp),r=U (.agg #[aD.v,st.v])/\hc (n+20) d/\fK (n+20) ds/\(∀h∈d,1<=h.gl.length)/\∀c,vX w0 e w' c->hH c aD d/\fk c st ds
abbrev l9(c:List Nat)(w0:C)(D:List En):Prop:=∀d∈D,∀b∈d.fp,b∈c\/w0.heap.size<=b
def w8{n:List Nat}{w0 w e:C}{L D:List En}(H:Z F0 w0 w L D)(q:l9 n w0 D)(k:vX w0 n w e):(∀c∈D,c.P e)/\∀c∈L,c.P e:=
 ⟨λc d=>c.st w e (λb h j=>k b (q c d b h) j) (H.rd c d),λc d=>c.st w e (λb h j=>k b (.inr ((H.new c d b h).resolve_right id)) j) (H.own c d)⟩
def om{j:List Nat}{w0 w:C}{L D:List En}(H:Z F0 w0 w L D)(n:l9 j w0 D){e:En}(i:Nat)(c:En)(hi:L[i]? =some e)(q:c.P w)(k:∀b∈c.fp,b∈e.fp):Z F0 w0 w (L.eraseIdx i) (D++[c])/\l9 j w0 (D++[c]):=by
 refine⟨H.freeze i c hi q k,λa d b h=>?_⟩;rcases a6.1 d with d|d
 .exact n a d b h
 .rw [cO.1 d]at h;exact .inr ((H.new e (aE hi) b (k b h)).resolve_right id)
def sC{w:C}{L:List En}(h:∀e∈L,e.P w)(i:Nat){e:TypeId}{sz:Nat}{s:J}{xs:List ab}(hi:L[i]? =some (.row e sz s xs):=by rfl):bF sz w s xs:=aG.bh (h _ (aE hi))
def rL{n m:Nat}{ds:List Sp}{i:Nat}{d':Sp}(h:fK n ds)(c:n<=m)(j:hg m d'.x):fK m (ds.set i d'):=⟨by simpa using bB h.1 c,λd k=>by
 rcases u7 k with e|rfl
 .exact (h.2 d e).le c
 .exact j⟩
section
variable {w0:C} {L D:List En} {bs:List Nat} {t:J} {ds:List Sp}
def s3{w:C}{i:Nat}{d d':Sp}{K:C->Prop}(H:Z F0 w0 w L D)(k:Nat)(n:L[k]? =some (.row dk 7 t (ds.flatMap Sp.c)))(hi:ds[i]? =some d)(j:Nat)(F:j<7)(v:ab)(E:d'.c=d.c.set j v)(bZ:∀b∈bs,En.g b∈L)(A:∀x,Z F0 w0 x (L.set k (.row dk 7 t ((ds.set i d').flatMap Sp.c))) D->K x):
  aw t (i:Int) λp=>ao w ((p.add (ae (i:Int) *7)).add j) v λe=>kept bs w e/\K e:=by
 have q:aG w dk 7 t (ds.flatMap Sp.c):=H.get k n;have G:=q.len;have h:=Sp.ee ds;have J:=(dh.1 hi).1;rw[h]at G;obtain⟨p,u⟩:∃p,t.a=some p:=by
  rcases q.cases with⟨I,z⟩|⟨g,cur,B,_⟩
  .rw [z]at h;simp at h;omega
  .exact ⟨_,B⟩
 rw[bT];refine⟨by omega,by omega,uW u (H.mG k (i *7) j n u (by omega) (λe y=>A e ?_) bZ)⟩;rw[<-Sp.set hi j F v d' E];exact y
def sH{w:C}{i:Nat}{d':Sp}(h:∀c∈ds,j6 w c)(e:j6 w d'):∀c∈ds.set i d',j6 w c:=λc j=>by
 rcases u7 j with d|rfl
 .exact h c d
 .exact e
end
abbrev s5(k:Int):Sp:=⟨⟨k,0,0,[],av #[],[],[]⟩,⟨none,0,0⟩,⟨none,0,0⟩,⟨none,0,0⟩⟩
def M0(k:Int)(w:C):j6 w (s5 k):=⟨Rd.nil w,Rd.nil w,Rd.nil w⟩
def MZ{k:Int}(c:bn k){n:Nat}:hg n (s5 k).x:=⟨⟨c,(by decide:bn 0),(by decide:bn 0)⟩,⟨by simp,by simp⟩,⟨by simp,by simp⟩,⟨by simp,by simp⟩,Nat.zero_le _⟩
section
variable {w:C} {aD st:J} {ys:List Lx} {ds:List Sp} {pg Bw iN:Int}
def Bd{n:Nat}{y:Int}(h:bn y)(c:1<=n):k8 n [y]:=⟨by simpa using c,by simpa using h⟩
def OP{ac:List Nat}{n:Nat}(aF:n<=80)(L:l9 ac w [dw aD ys,.sp st ds])(hl:hH w aD ys)(hs:fk w st ds)(B:hc n ys)(Y:∀aa∈ys,1<=aa.gl.length)(F:fK n ds)(ha:bn pg)(y:bn Bw)(N:bn iN):ah V Cy #[.agg #[aD.v,st.v],.i pg,.i Bw,.i iN] w λr w'=>lh n w ac r w'/\aj w w':=by
 have hn:=hs.n;have az:=F.1;refine A4.aB _ _ _ _ _ w _ ((bN (w:=w) [dw aD ys,.sp st ds] (by
  intro A M;simp only[ay,aW,a3]at M;rcases M with rfl|rfl
  .exact e5.2 hl
  .exact dp.2 hs)).aN λb4 e H1=>H1.aN λT w2 H2=>H2.aN λW w3 H3=>H3.ak λw5 H5=>?_)
 refine(H5.gP dk 7).ep 3 pI (s:=⟨none,0,0⟩) (src:=st) rfl (dp.1 (H5.getD 1)).1 Sp.one (by simp only;omega) λt w6 S=>?_;have S:Z F0 w w6 [.g b4,.g T,.g W,.row dk 7 t (ds.flatMap Sp.c)] [dw aD ys,.sp st ds]:=S;have ht:=(S.get 3:aG _ _ _ _ _).len;rw[Sp.ee]at ht;have ht:t.n=ds.length:=by show _;omega
 have fin:∀(s':J) (zs:List Lx) (es:List Sp) (w':C) (D':List En),Z F0 w w' [.g b4,.g T,.g W,.row dk 7 t (es.flatMap Sp.c)] D'->l9 ac w D'->(∀e,(∀A∈D',A.P e)->hH e s' zs/\∀d∈es,j6 e d)->hc n zs->(∀aa∈zs,1<=aa.gl.length)->fK (n+20) es->
   A4.aS T ⟨none,0,0⟩ ⟨none,0,0⟩ W s' t w' λr w'=>lh n w ac r w'/\aj w w':=λs' zs es w' D' H' hN hP h1 h3 h2=>H'.ak λw2 H2=>⟨⟨s',t,zs,es,rfl,h1.le (by omega),h2,h3,λe al=>by obtain⟨p1,p2⟩:=w8 H2 hN al;exact⟨(hP e p1).1,sC p2 3,(hP e p1).2⟩⟩,H2.fr⟩
 refine aJ (λh0=>?_) (λh0=>S.ak λw7 H7=>H7.ax (fM _ _ _ (by omega) ha) ?_)
 .refine S.ak λw9 H9=>⟨⟨aD,t,ys,ds,rfl,B.le (by omega),F.le (by omega),Y,λe al=>by obtain⟨p1,p2⟩:=w8 H9 L al;exact⟨e5.1 (p1 _ (by simp)),sC p2 3,(dp.1 (p1 (.sp st ds) (by simp))).2⟩⟩,H9.fr⟩
 rintro _ aH rfl ao;obtain⟨r1,r2⟩:=hj pg (t.n:Int) (by omega);obtain⟨i,hi⟩:=Int.eq_ofNat_of_zero_le r1;rw[hi]at r2 ⊢;refine⟨_,rfl,ao.ax (fM _ _ _ (by omega) y) ?_⟩;rintro _ H rfl D;generalize fe Bw 5=hw;have I:ds[i]? =some ds[i]:=a9 (by omega);generalize ds[i]=d at I;have G:=aE I;have q:=F.2 d G;have u:∀e,(∀A∈[dw aD ys,.sp st ds],A.P e)->hH e aD ys/\∀d∈ds,j6 e d:=λe j=>⟨e5.1 (j _ (by simp)),(dp.1 (j (.sp st ds) (by simp))).2⟩;refine⟨_,rfl,aJ (λ_=>?_) (λ_=>aJ (λ_=>?_) (λ_=>aJ (λ_=>?_) (λ_=>aJ (λ_=>D.ak λO E=>?_) (λ_=>?_))))⟩
 .refine s3 D 3 rfl I 0 (by omega) (.i iN) (d':=⟨⟨iN,d.x.node,d.x.dD,d.x.params,d.x.nm,d.x.cY,d.x.hints⟩,d.p,d.l,d.h⟩) rfl (by simp) λO E=>?_;exact fin aD ys _ O _ E L (λe j=>⟨(u e j).1,sH (u e j).2 ((u e j).2 d G)⟩) B Y (rL F (by omega) ⟨⟨N,q.k.2⟩,q.p.le (by omega),q.l.le (by omega),q.h.le (by omega),bB q.t (by omega)⟩)
 .have hp:=fk.get' (w:=H) (s:=t) (l:=ds) ⟨(D.get 3:aG _ _ _ _ _).bh,(u H D.rd).2⟩ I (K:=λp=>∃t56:J,H.cell? ((p.add (i *7)).add 6)=some t56.v/\t56=d.h) λp _ ai=>⟨_,ai.c6,rfl⟩;obtain⟨p,au,t56,ai,rfl⟩:=sc hp;refine⟨by omega,by omega,uW au ⟨_,by rw[bT];exact ai,?_⟩⟩;have an:=((u H D.rd).2 d G).2.2;have aA:=q.h.1;have aC:=bo.len an;refine(D.gP bp 1).ep 4 h' (s:=⟨none,0,0⟩) (src:=d.h) rfl (Kn an) (pV _) (by simp only;omega) λt57 aI ad=>ad.ak λav ab=>?_;have ab:Z F0 w av [.g b4,.g T,.g W,.row dk 7 t (ds.flatMap Sp.c),.row bp 1 t57 (d.x.hints.map bd)] [dw aD ys,.sp st ds]:=ab;have ar:=(ab.get 4:aG _ _ _ _ _).len;simp only[mA,Nat.mul_one]at ar;rw[bf _ (by omega)];refine ab.ax (fM _ _ _ (by omega) N) ?_;rintro _ aK rfl ap;have rr:=hj iN ((i:Int)+2) (by omega);generalize fe iN ((i:Int)+2)=z at rr ⊢;refine⟨_,rfl,ap.hL 4 h' rfl (λt67 aw Q=>?_) (by omega)⟩;have A:d.x.hints.map bd++[Value.i z]=(d.x.hints++[z]).map bd:=by rw[kX];rfl
  have Q:Z F0 w aw [.g b4,.g T,.g W,.row dk 7 t (ds.flatMap Sp.c),.row bp 1 t67 (d.x.hints.map bd++[.i z])] [dw aD ys,.sp st ds]:=Q;rw[A]at Q;obtain⟨aq,af⟩:=om Q L 4 (.rd t67 ((d.x.hints++[z]).map bd)) rfl (aG.fR (Q.get 4)) λb B=>iX B;refine s3 aq 3 rfl I 6 (by omega) t67.v (d':=⟨⟨d.x.kind,d.x.node,d.x.dD,d.x.params,d.x.nm,d.x.cY,d.x.hints++[z]⟩,d.p,d.l,t67⟩) rfl (by simp) λam ae=>?_;refine fin aD ys _ am _ ae af (λe j=>?_) B Y (rL F (by omega) ⟨q.k,q.p.le (by omega),q.l.le (by omega),⟨by show(d.x.hints++[z]).length<=n+20;simp;omega,λaa N=>?_⟩,bB q.t (by omega)⟩)
  .have y:=u e λA M=>j A (bS _ M);exact⟨y.1,sH y.2 ⟨(y.2 d G).1,(y.2 d G).2.1,j (.rd t67 ((d.x.hints++[z]).map bd)) (by simp)⟩⟩
  .rcases a6.1 N with j|j
   .exact q.h.2 aa j
   .rw [cO.1 j];omega
 .refine s3 D 3 rfl I 1 (by omega) (.i iN) (d':=⟨⟨d.x.kind,iN,d.x.dD,d.x.params,d.x.nm,d.x.cY,d.x.hints⟩,d.p,d.l,d.h⟩) rfl (by simp) λO E=>?_;exact fin aD ys _ O _ E L (λe j=>⟨(u e j).1,sH (u e j).2 ((u e j).2 d G)⟩) B Y (rL F (by omega) ⟨⟨q.k.1,N,q.k.2.2⟩,q.p.le (by omega),q.l.le (by omega),q.h.le (by omega),bB q.t (by omega)⟩)
 .exact fin ⟨none,0,0⟩ [] ds O _ E L (λe j=>⟨⟨bF.nil 4 e,by simp⟩,(u e j).2⟩) ⟨by simp,by simp⟩ (by simp) (F.le (by omega))
 .refine D.cB (n:=1) (sz:=1) (cs:=[iN].map bd) rfl (by decide) λO E=>?_;obtain⟨ad,af⟩:=om E L 4 (.rd ⟨some (ag H.heap.size),1,1⟩ ([iN].map bd)) rfl (aG.fR (E.get 4)) λb B=>iX B;refine s3 ad 3 rfl I 6 (by omega) (.slice (some (ag H.heap.size)) 1 1) (d':=⟨⟨d.x.kind,d.x.node,d.x.dD,d.x.params,d.x.nm,d.x.cY,[iN]⟩,d.p,d.l,⟨some (ag H.heap.size),1,1⟩⟩) rfl (by simp) λam ae=>?_;refine fin aD ys _ am _ ae af (λe j=>?_) B Y (rL F (by omega) ⟨q.k,q.p.le (by omega),q.l.le (by omega),Bd N (by omega),bB q.t (by omega)⟩);have y:=u e λA M=>j A (bS _ M);exact⟨y.1,sH y.2 ⟨(y.2 d G).1,(y.2 d G).2.1,j (.rd ⟨some (ag H.heap.size),1,1⟩ ([iN].map bd)) (by simp)⟩⟩
end
abbrev SI:List ab:=[.string (av #[]),.string (av #[65]),.string (av #[45]),.string (av #[97,32,98]),.string BT,.string (av #[120])]
def SH(j:Nat)(c:j<6):∃t:ByteArray,t.size<=20/\SI[j]? =some (.string t):=by
 match j,c with
 |0,_=>exact⟨_,by decide,rfl⟩
 |1,_=>exact⟨_,by decide,rfl⟩
 |2,_=>exact⟨_,by decide,rfl⟩
 |3,_=>exact⟨_,by decide,rfl⟩
 |4,_=>exact⟨_,by decide,rfl⟩
 |5,_=>exact⟨_,by decide,rfl⟩
section
variable {n:Nat} {O:List Nat} {w:C} {t19 t25:J} {b4 b8 b9:Nat} {ys:List Lx} {ds:List Sp} {pg iN:Int} {D:List En}
def vU(D:List En)(ys:List Lx)(ds:List Sp):Prop:=∀c,(∀e∈D,e.P c)->(∀h∈ys,mU c h)/\∀d∈ds,j6 c d
def yR{c:List Lx}{es:List Sp}{w':C}{d X:List En}(x:Z F0 w w' (eL b4 b8 t19 (c.map Lx.m) t25 es++X) d)(D:En.g b9∈X)(B:l9 O w d)(j:vU d c es)(y:hc (n+20) c)(A:∀F∈c,1<=F.gl.length)(z:fK (n+20) es):
  m9.aS b8 ⟨none,0,0⟩ ⟨none,0,0⟩ b9 t19 t25 w' λr w'=>lh n w O r w'/\aj w w':=
 x.ak (λG e=>⟨⟨t19,t25,c,es,rfl,y,z,A,λu E=>by
  obtain⟨k,q⟩:=w8 e B E;exact⟨⟨sC q 2,(j u k).1⟩,sC q 3,(j u k).2⟩⟩,e.fr⟩) λb h=>by simp only[ay,aW,a3]at h;rcases h with rfl|rfl<;>simp[D]
def yQ{i z:Nat}{y:Lx}{w':C}{u X:List En}(H:Z F0 w w' (eL b4 b8 t19 (ys.map Lx.m) t25 ds++X) u)(A:En.g b9∈X)(F:En.g z∈X)(hi:i<ys.length)(G:l9 O w u)(B:vU u ys ds)(K:∀e,(∀E∈u,E.P e)->mU e y)(D:hc (n+20) ys)(I:fK (n+20) ds)(J:∀y∈ys,1<=y.gl.length)(M:j4 (n+20) y)(L:1<=y.gl.length):
  m9.aY b8 ⟨none,0,0⟩ ⟨none,0,0⟩ b9 t19 t25 (i:Int) z y.m.g y.m.h y.m.c y.m.s w' λr w'=>lh n w O r w'/\aj w w':=by
 refine Ly y.m H (by simpa using hi) (λb d=>?_) λN x=>?_
 .simp only[ay,aW,a3]at d;rcases d with rfl|rfl|rfl<;>simp[A,F]
 .rw [<-List.map_set]at x;refine yR x A G (λe d=>⟨λq k=>?_,(B e d).2⟩) ⟨by simpa using D.1,λq k=>?_⟩ (λq k=>?_) I
  .rcases u7 k with j|rfl
   .exact (B e d).1 q j
   .exact K e d
  .rcases u7 k with j|rfl
   .exact D.2 q j
   .exact M
  .rcases u7 k with j|rfl
   .exact J q j
   .exact L
def UE(aR:n<=80)(hN:l9 O w D)(hP:vU D ys ds)(G:hc n ys)(hg:∀aL∈ys,1<=aL.gl.length)(K:fK (n+20) ds)(ha:bn pg)(aF:bn iN){w':C}(H:Z F0 w w' (eL b4 b8 t19 (ys.map Lx.m) t25 ds++[.g b9]) D):
  m9.aZ pg iN b8 ⟨none,0,0⟩ ⟨none,0,0⟩ b9 t19 t25 w' λr w'=>lh n w O r w'/\aj w w':=by
 have ho:aG w' g9 4 t19 ((ys.map Lx.m).flatMap Lm.cs):=H.get 2;have hn:=ho.len;rw[Lm.len,mA]at hn;have aO:=G.1;refine aQ (λaa=>H.ax (fM _ _ _ (by omega) ha) ?_) (λ_=>yR H (by simp) hN hP (G.le (by omega)) hg K);rintro _ d rfl H1;obtain⟨r1,r2⟩:=hj pg (t19.n:Int) (by omega);obtain⟨i,hi⟩:=Int.eq_ofNat_of_zero_le r1;rw[hi]at r2 ⊢;have hx:ys[i]? =some ys[i]:=a9 (by omega);generalize ys[i]=x at hx;have hm:=aE hx;have aD:(ys.map Lx.m)[i]? =some x.m:=by rw[jk,hx];rfl
 have E:=G.2 x hm;have xg:=hg x hm;have h1:=E.g.1;refine⟨_,rfl,by omega,by omega,eY.elem (f:=Lm.cs) (sz:=4) (λ_=>rfl) (by omega) (H1.get 2:aG _ _ _ _ _).bh.2.2 aD λp hp af=>⟨_,_,_,_,af 0 _ rfl,af 1 _ rfl,af 2 _ rfl,af 3 _ rfl,H1.aN λM w2 H2=>H2.ak λw6 H6=>H6.ax (fM _ _ _ (by omega) aF) ?_⟩⟩;rintro _ N rfl Q;generalize fe iN 4=c4;have A:∀d,(∀e∈D,e.P d)->mU d x:=λd q=>(hP d q).1 x hm;have h9:∀e:En,En.g b9∈[En.g b9,En.g M,e]:=λ_=>by simp
 have aM:∀e:En,En.g M∈[En.g b9,En.g M,e]:=λ_=>by simp
 have add:∀{e:En} {d:C},(∀a∈D++[e],a.P d)->(∀a∈D,a.P d)/\e.P d:=λq=>⟨λa ha=>q a (bS _ ha),q _ (by simp)⟩;have ah:=(dh.1 hx).1;refine⟨_,rfl,aJ (λ_=>?_) (λ_=>aJ (λ_=>?_) (λ_=>aJ (λ_=>?_) (λ_=>?_)))⟩
 .have am:=A N Q.rd;have aC:=g0 am.1;refine Q.cB (n:=1) (sz:=1) (cs:=[((x.m.g.n:Nat):Int)].map bd) rfl (by decide) λw8 L=>L.ak λw9 B=>?_;obtain⟨I,W⟩:=om B hN 6 (.rd ⟨some (ag N.heap.size),1,1⟩ ([((x.m.g.n:Nat):Int)].map bd)) rfl (aG.fR (B.get 6)) λb G=>iX G;exact yQ (y:=⟨⟨x.m.g,⟨some (ag N.heap.size),1,1⟩,x.m.c,x.m.s⟩,x.gl,[((x.m.g.n:Nat):Int)],x.cl,x.ds⟩) (X:=[.g b9,.g M]) I (by simp) (by simp) ah W (λd q=>hP d (add q).1) (λd q=>⟨(A d (add q).1).1,(add q).2,(A d (add q).1).2.2⟩) (G.le (by omega)) K hg ⟨(E.le (by omega)).g,Bd (by omega) (by omega),(E.le (by omega)).c,(E.le (by omega)).s⟩ xg
 .refine Q.cB (n:=1) (sz:=1) (cs:=[(0:Int)].map bd) rfl (by decide) λw8 L=>L.ak λw9 B=>?_;obtain⟨I,W⟩:=om B hN 6 (.rd ⟨some (ag N.heap.size),1,1⟩ ([(0:Int)].map bd)) rfl (aG.fR (B.get 6)) λb G=>iX G;exact yQ (y:=⟨⟨x.m.g,x.m.h,⟨some (ag N.heap.size),1,1⟩,x.m.s⟩,x.gl,x.hy,[0],x.ds⟩) (X:=[.g b9,.g M]) I (by simp) (by simp) ah W (λd q=>hP d (add q).1) (λd q=>⟨(A d (add q).1).1,(A d (add q).1).2.1,(add q).2,(A d (add q).1).2.2.2⟩) (G.le (by omega)) K hg ⟨(E.le (by omega)).g,(E.le (by omega)).h,Bd (by decide) (by omega),(E.le (by omega)).s⟩ xg
 .have am:=(A N Q.rd).2.2.2;have aT:=am.n;have aS:=E.s.1;refine Q.cB (n:=0) (sz:=7) (cs:=[]) rfl (by decide) λw8 L=>?_;refine L.ep 6 pI (s:=⟨some (ag N.heap.size),0,0⟩) (src:=x.m.s) rfl (A w8 L.rd).2.2.2.1 Sp.one (by simp only;omega) λt130 aU ap=>?_;have ac:=(ap.get 6:aG _ _ _ _ _).len;rw[h0,Sp.ee]at ac;refine ap.hL 6 pI rfl (λt133 aV ay=>ay.ak λaH az=>?_) (by omega);have e:[]++x.ds.flatMap Sp.c++(#[.i 4,.i 0,.i 0,.slice none 0 0,.string (av #[]),.slice none 0 0,.slice none 0 0]:Array ab).toList=(x.ds++[s5 4]).flatMap Sp.c:=by simp[Sp.c]
  have S:Z F0 w aH (eL b4 b8 t19 (ys.map Lx.m) t25 ds++[.g b9,.g M,.row dk 7 t133 ([]++x.ds.flatMap Sp.c++(#[.i 4,.i 0,.i 0,.slice none 0 0,.string (av #[]),.slice none 0 0,.slice none 0 0]:Array ab).toList)]) D:=az;rw[e]at S;obtain⟨ad,W⟩:=om S hN 6 (.bh 7 t133 ((x.ds++[s5 4]).flatMap Sp.c)) rfl (aG.bh (S.get 6)) λb G=>u' G;refine yQ (y:=⟨⟨x.m.g,x.m.h,x.m.c,t133⟩,x.gl,x.hy,x.cl,x.ds++[s5 4]⟩) (X:=[.g b9,.g M]) ad (by simp) (by simp) ah W (λd q=>hP d (add q).1) (λd q=>⟨(A d (add q).1).1,(A d (add q).1).2.1,(A d (add q).1).2.2.1,(add q).2,λY K=>?_⟩) (G.le (by omega)) K hg ⟨(E.le (by omega)).g,(E.le (by omega)).h,(E.le (by omega)).c,⟨by simp;omega,λY K=>?_⟩⟩ xg
  .rcases a6.1 K with F|F
   .exact (A d (add q).1).2.2.2.2 Y F
   .rw [cO.1 F];exact M0 4 d
  .rcases a6.1 K with F|F
   .exact (E.s.2 Y F).le (by omega)
   .rw [cO.1 F];exact MZ (by decide)
 .
  have aC:=g0 (A N Q.rd).1;have aa:x.gl[0]? =some x.gl[0]:=a9 (by omega);generalize x.gl[0]=e at aa;have ar:=aE aa;have au:∀an∈e.c,an.oneCell'=true:=λan hu=>lK (l:=[e]) an (by simpa using hu);have fin:∀(t112:J) (w':C) (ae:List En) (j:Nat),Z F0 w w' (eL b4 b8 t19 (ys.map Lx.m) t25 ds++[.g b9,.g M]++ae) D->(eL b4 b8 t19 (ys.map Lx.m) t25 ds++[.g b9,.g M]++ae)[j]? =some (.row bV 9 t112 ([]++x.gl.flatMap Nd.c++e.c))->6<=j->loc [b8,b9,M] w' λaI=>m9.aY b8 ⟨none,0,0⟩ ⟨none,0,0⟩ b9 t19 t25 (i:Int) M t112 x.m.h x.m.c x.m.s aI λr w'=>lh n w O r w'/\aj w w':=by
   intro t112 w' ae j H' ai h6;refine H'.ak λw9 B=>?_;have aB:[]++x.gl.flatMap Nd.c++e.c=(x.gl++[e]).flatMap Nd.c:=by simp
   rw[aB]at ai;obtain⟨I,W⟩:=om B hN j (.bh 9 t112 ((x.gl++[e]).flatMap Nd.c)) ai (aG.bh (B.get j ai)) λb G=>u' G;have I:=I.take 6;have I:Z F0 w w9 (eL b4 b8 t19 (ys.map Lx.m) t25 ds++[.g b9,.g M]) (D++[.bh 9 t112 ((x.gl++[e]).flatMap Nd.c)]):=by have aP:=(dh.1 ai).1;rw[List.eraseIdx_eq_take_drop_succ,List.take_append_of_le_length (by rw[g4];omega),List.take_take,Nat.min_eq_left h6]at I;exact I
   refine yQ (y:=⟨⟨t112,x.m.h,x.m.c,x.m.s⟩,x.gl++[e],x.hy,x.cl,x.ds⟩) (X:=[.g b9,.g M]) I (by simp) (by simp) ah W (λd q=>hP d (add q).1) (λd q=>⟨⟨(add q).2,λY K=>?_⟩,(A d (add q).1).2⟩) (G.le (by omega)) K hg ⟨⟨by simp;omega,λY K=>?_⟩,(E.le (by omega)).h,(E.le (by omega)).c,(E.le (by omega)).s⟩ (by simp)
   .rcases a6.1 K with F|F
    .exact (A d (add q).1).1.2 Y F
    .rw [cO.1 F];exact(A d (add q).1).1.2 e ar
   .rw [xs,kX]at K;rcases a6.1 K with F|F
    .exact E.g.2 Y F
    .simp only[List.map_cons,List.map_nil,cO]at F;rw[F];exact E.g.2 _ (dv.2 ⟨e,ar,rfl⟩)
  have R5:∀{d:C} {ae:List En},Z F0 w d ae D->bF 9 d x.m.g (x.gl.flatMap Nd.c):=λH=>(A _ H.rd).1.1;refine gN (A N Q.rd).1 (i:=0) rfl aa λp hp _=>Q.ak λal S=>?_;have z:=ng (A al S.rd).1 aa hp (X:=0) rfl;refine⟨e.x.op,e.ks,e.x.n,e.x.m,e.x.u,e.x.tx,e.x.st.k,e.x.st.n,e.x.st.x,z.c0,z.c1,z.c2,z.c3,z.c4,z.c5,z.c6,z.c7,z.c8,S.cB (n:=0) (sz:=9) (cs:=[]) rfl (by decide) λaw ad=>?_,S.nw λaK _ aA=>aA.cB (n:=0) (sz:=9) (cs:=[]) rfl (by decide) λaW aq=>?_⟩
  .have z:=ng (A aw ad.rd).1 aa hp (X:=0) rfl;refine⟨z.c0,z.c1,z.c2,z.c3,z.c4,z.c5,z.c6,z.c7,z.c8,?_,?_⟩
   .refine ad.ep 6 ja (s:=⟨some (ag al.heap.size),0,0⟩) (src:=x.m.g) rfl (R5 ad) lK (by simp only;omega) (λs1 w8 L=>?_);have ac:=(L.get 6:aG _ _ _ _ _).len;rw[h0,Nd.ee]at ac;have z:=ng (A w8 L.rd).1 aa hp (X:=0) rfl;refine⟨z.c0,z.c1,z.c2,z.c3,z.c4,z.c5,z.c6,z.c7,z.c8,L.hL 6 ja rfl (λs2 w9 B=>?_) (by omega)⟩;exact fin s2 w9 [_] 6 B rfl (by omega)
   .refine ad.nw λw8 _ L=>?_;refine L.ep 6 ja (s:=⟨some (ag al.heap.size),0,0⟩) (src:=x.m.g) rfl (R5 L) lK (by simp only;omega) (λs1 w9 B=>?_);have ac:=(B.get 6:aG _ _ _ _ _).len;rw[h0,Nd.ee]at ac;refine B.ep 6 ja (src:=⟨some (ag aw.heap.size),1,1⟩) rfl (pk (cs:=e.c) (T:=bV) (B.ob 7) rfl) au (by simp only;omega) (λs2 ao I=>?_);exact fin s2 ao [_,_] 6 I rfl (by omega)
  .refine aq.ep 7 ja (s:=⟨some (ag aK.heap.size),0,0⟩) (src:=x.m.g) rfl (R5 aq) lK (by simp only;omega) (λs1 w9 B=>?_);have ac:=(B.get 7:aG _ _ _ _ _).len;rw[h0,Nd.ee]at ac;refine B.ep 7 ja (src:=⟨some (ag al.heap.size),1,1⟩) rfl (pk (cs:=e.c) (T:=bV) (B.ob 6) rfl) au (by simp only;omega) (λs2 ao I=>?_);exact fin s2 ao [_,_] 7 I rfl (by omega)
end
def Ol{n:Nat}(aH:n<=80){H:List Nat}{w:C}{aD st:J}{q:List Lx}{ds:List Sp}{ab ai E:Int}(aU:∀e∈[dw aD q,.sp st ds],∀b∈e.fp,b∈H)(aV:∀b∈H,b<w.heap.size)(Y:hH w aD q)(hs:fk w st ds)(y:hc n q)(N:∀au∈q,1<=au.gl.length)(F:fK n ds)(W:bn ab)(hh:bn ai)(Q:bn E):
  ah V uH #[.agg #[aD.v,st.v],.i ab,.i ai,.i E] w λr w'=>lh n w H r w'/\aj w w':=by
 have hn:=hs.n;have hm:=Y.n;have bc:=F.1;have bf:=y.1;have S:∀{w},l9 H w [dw aD q,.sp st ds]:=λe he b y=>.inl (aU e he b y);refine m9.aB _ _ _ _ _ w _ ((bN (w:=w) [dw aD q,.sp st ds] (by
  intro e he;simp only[ay,aW,a3]at he;rcases he with rfl|rfl
  .exact e5.2 Y
  .exact dp.2 hs)).aN λD u T=>T.aN λA G H2=>H2.aN λB w3 H3=>H3.ak λw5 H5=>?_)
 refine(H5.gP g9 4).ep 3 AW (s:=⟨none,0,0⟩) (src:=aD) rfl (e5.1 (H5.getD 0)).1 Lm.one (by simp only;omega) λt19 w6 H6=>H6.ak λw7 H7=>?_;refine(H7.gP dk 7).ep 4 pI (s:=⟨none,0,0⟩) (src:=st) rfl (dp.1 (H7.getD 1)).1 Sp.one (by simp only;omega) λt25 bb H8=>?_;have H9:Z F0 w bb (eL D A t19 (q.map Lx.m) t25 ds++[.g B]) [dw aD q,.sp st ds]:=by exact Z.perm (L:=[.g D,.g A,.g B,.row g9 4 t19 ((q.map Lx.m).flatMap Lm.cs),.row dk 7 t25 (ds.flatMap Sp.c)]) H8 (.cons _ (.cons _ (List.perm_append_comm (l₁:=[_]) (l₂:=[_,_]))))
 clear H8 H7 H6;have ht:=(H9.get 3:aG _ _ _ _ _).len;rw[Sp.ee]at ht;have ht:t25.n=ds.length:=by show _;omega
 have K:vU [dw aD q,.sp st ds] q ds:=λu j=>⟨(e5.1 (j (dw aD q) (by simp))).2,(dp.1 (j (.sp st ds) (by simp))).2⟩;have I:∀(O:List En) (e1 e2:En),∀b∈[D,A,B],En.g b∈(En.g D::En.g A::e1::e2::En.g B::O):=λO e1 e2 b j=>by simp only[ay,aW,a3]at j;rcases j with rfl|rfl|rfl<;>simp
 have add:∀{e:En} {u:C},(∀a∈[dw aD q,.sp st ds]++[e],a.P u)->(∀a∈[dw aD q,.sp st ds],a.P u)/\e.P u:=λj=>⟨λa W=>j a (bS _ W),j _ (by simp)⟩;refine aJ (λh0=>H9.ak (bZ:=I _ _ _) λa0 al=>?_) (λh0=>H9.ak (bZ:=I _ _ _) λa0 al=>al.ax (fM _ _ _ (by omega) W) ?_)
 .have aY:ds=[]:=List.eq_nil_of_length_eq_zero (by omega);subst aY;refine al.hL 3 pI rfl (λt37 a1 am=>am.ak (bZ:=I _ _ _) λaa z=>?_) (by omega) (bZ:=I _ _ _);refine⟨⟨t19,t37,q,[s5 E],rfl,y.le (by omega),⟨by simp,λd F=>by rw[cO.1 F];exact MZ Q⟩,N,λu ar=>?_⟩,z.fr⟩;obtain⟨p1,p2⟩:=w8 z S ar;exact⟨⟨sC p2 2,(K u p1).1⟩,sC p2 3,λd F=>by rw[cO.1 F];exact M0 _ _⟩
 rintro _ a1 rfl am;obtain⟨r1,r2⟩:=hj ab (t25.n:Int) (by omega);obtain⟨i,hi⟩:=Int.eq_ofNat_of_zero_le r1;rw[hi]at r2 ⊢;refine⟨_,rfl,am.ax (fM _ _ _ (by omega) hh) ?_⟩;rintro _ aa rfl z;generalize fe ai 8=hw;have af:ds[i]? =some ds[i]:=a9 (by omega);generalize ds[i]=d at af;have ac:=aE af;have M:=F.2 d ac;have S3:m9.be ab ai E D aD st A ⟨none,0,0⟩ ⟨none,0,0⟩ aa λr w'=>lh n w H r w'/\aj w w':=by
  have lt:∀b∈[D,A],w.heap.size<=b/\b<aa.heap.size:=λb j=>by
   have N:En.g b∈eL D A t19 (q.map Lx.m) t25 ds++[.g B]:=by simp only[ay,aW,a3]at j;rcases j with rfl|rfl<;>simp
   exact⟨(z.new _ N b (by simp[En.g])).resolve_right id,(En.g b).lt aa (z.own _ N) b (by simp[En.g])⟩
  refine h7 ((OP aH S (e5.1 (z.getD 0)) (dp.1 (z.getD 1)) y N F W hh Q).mono ?_);rintro _ bg ⟨⟨s1,s2,zs,es,rfl,h3,h4,h6,h5⟩,f⟩;refine⟨f,_,_,rfl,λbh g=>⟨⟨s1,s2,zs,es,rfl,h3,h4,h6,λu ar=>h5 u λb y Y=>?_⟩,((z.ct f).ghost g (by simp)).fr⟩⟩;have aX:b∈H\/w.heap.size<=b:=y.imp id λj=>bB z.fr.size j;rw[ar b aX (iI Y g.size)];refine g.cA b Y λhm=>?_;have:=lt b hm;rcases y with j|j
  .have:=aV b j;omega
  .omega
 have S1:=UE aH S K y N (F.le (by omega)) W Q z;have aL:∀(v:List Int) (s:J) (w':C) (D':List En),l9 H w D'->D'=[dw aD q,.sp st ds]++[.rd s (v.map bd)]->k8 (n+20) v->Z F0 w w' (eL D A t19 (q.map Lx.m) t25 ds++[.g B]) D'->
   aw t25 (i:Int) λp=>ao w' ((p.add (ae (i:Int) *7)).add 5) s.v λu=>kept [D,A,B] w' u/\m9.aS A ⟨none,0,0⟩ ⟨none,0,0⟩ B t19 t25 u λr w'=>lh n w H r w'/\aj w w':=by rintro v s w' _ hN rfl hv H';refine s3 H' 3 rfl af 5 (by omega) s.v (d':=⟨⟨d.x.kind,d.x.node,d.x.dD,d.x.params,d.x.nm,v,d.x.hints⟩,d.p,s,d.h⟩) rfl (I _ _ _) λu T=>?_;refine yR (X:=[.g B]) T (by simp) hN (λG j=>⟨(K G (add j).1).1,sH (K G (add j).1).2 ⟨((K G (add j).1).2 d ac).1,(add j).2,((K G (add j).1).2 d ac).2.2⟩⟩) (y.le (by omega)) N (rL F (by omega) ⟨M.k,M.p.le (by omega),hv,M.h.le (by omega),bB M.t (by omega)⟩)
 have name:∀(t:ByteArray) (w':C) (O:List En),t.size<=20->Z F0 w w' (eL D A t19 (q.map Lx.m) t25 ds++[.g B]++O) [dw aD q,.sp st ds]->
   aw t25 (i:Int) λp=>ao w' ((p.add (ae (i:Int) *7)).add 4) (.string t) λu=>kept [D,A,B] w' u/\m9.aS A ⟨none,0,0⟩ ⟨none,0,0⟩ B t19 t25 u λr w'=>lh n w H r w'/\aj w w':=by
  intro t w' O ht H';refine s3 H' 3 rfl af 4 (by omega) (.string t) (d':=⟨⟨d.x.kind,d.x.node,d.x.dD,d.x.params,t,d.x.cY,d.x.hints⟩,d.p,d.l,d.h⟩) rfl (I _ _ _) λu T=>?_;have H2:Z F0 w u (eL D A t19 (q.map Lx.m) t25 (ds.set i ⟨⟨d.x.kind,d.x.node,d.x.dD,d.x.params,t,d.x.cY,d.x.hints⟩,d.p,d.l,d.h⟩)++([.g B]++O)) [dw aD q,.sp st ds]:=T;refine yR (X:=[.g B]++O) H2 (by simp) S (λG j=>⟨(K G j).1,?_⟩) (y.le (by omega)) N (rL F (by omega) ?_)
  .exact sH (K G j).2 (show j6 G d from(K G j).2 d ac)
  .exact ⟨M.k,M.p.le (by omega),M.l.le (by omega),M.h.le (by omega),by show t.size<=n+20;omega⟩
 have aZ:=hj E 6 (by omega);obtain⟨aq,aF⟩:=Int.eq_ofNat_of_zero_le aZ.1;obtain⟨t,aI,aK⟩:=SH aq (by omega);refine⟨_,rfl,aJ (λ_=>⟨z.ak (bZ:=I _ _ _) λa2 an=>an.nw λbi _ aM=>aM.ax (fM _ _ _ (by omega) Q) ?_,z.ak (bZ:=I _ _ _) λa2 an=>an.ax (fM _ _ _ (by omega) Q) ?_⟩) (λ_=>aJ (λ_=>?_) (λ_=>aJ (λ_=>z.ak (bZ:=I _ _ _) λbk aQ=>aQ.ax (fM _ _ _ (by omega) Q) ?_) (λ_=>aJ (λh3=>a8 (beq_iff_eq.2 h3) S1) (λ_=>aJ (λ_=>S1) λ_=>S3))))⟩
 .rintro _ a4 rfl av;rw[aF];refine⟨_,rfl,by omega,by omega,t,?_,name t a4 [_] aI av⟩;rw[bT,Nat.mul_one];exact av.ld 5 aq rfl aK
 .rintro _ bj rfl aO;rw[aF];refine⟨_,rfl,aO.nw λa5 _ az=>⟨by omega,by omega,t,?_,name t a5 [_] aI az⟩⟩;rw[bT,Nat.mul_one];exact az.ld 5 aq rfl aK
 .refine z.cB (n:=3) (sz:=1) (cs:=[E,0,ad .i64 (0 - E)].map bd) rfl (by decide) λa6 aA=>?_;obtain⟨aP,ap⟩:=om aA S 5 (.rd ⟨some (ag aa.heap.size),3,3⟩ ([E,0,ad .i64 (0 - E)].map bd)) rfl (aG.fR (aA.get 5)) λb y=>iX y;exact aL _ _ a6 _ ap rfl ⟨by simp,λau j=>by
   simp only[ay,aW,a3]at j;rcases j with rfl|rfl|rfl
   .exact Q
   .decide
   .exact Ij _⟩ aP
 .rintro _ a7 rfl aR;refine⟨_,rfl,aR.cB (n:=2) (sz:=1) (cs:=[3,ad .i64 (2+fe E 3)].map bd) rfl (by decide) λba aC=>?_⟩;obtain⟨aT,ap⟩:=om aC S 5 (.rd ⟨some (ag a7.heap.size),2,2⟩ ([3,ad .i64 (2+fe E 3)].map bd)) rfl (aG.fR (aC.get 5)) λb y=>iX y;exact aL _ _ ba _ ap rfl ⟨by simp,λau j=>by
   simp only[ay,aW,a3]at j;rcases j with rfl|rfl
   .decide
   .exact Ij _⟩ aT
namespace u4
noncomputable abbrev X:Fx:=⟨V,Tryz.f22,[],[5]⟩
abbrev P0:Ps:=[(0,.v [.r]),(10,.v [.s]),(11,.v [.I]),(12,.v [.I])]
def aH(c:Addr)(t10:J)(t11 t12:Int)(w:C)(R:aa):Prop:=bz P0 0 (X.Sem (ai [0,1,2])) c t10 t11 t12 w R
noncomputable def az:=bK X (ai [0,1,2]) P0 aH
def bD:∀(d:Addr) (t10:J) (t11 t12:Int) (w:C) (R:aa) (h:Y (af (t12<t11)) (aw t10 t12 λk=>oj w (k.add (ae t12 *7)) λn q u x y z A=>aP [] w λc I=>
 loc [c] I λK=>fY [c] iR #[.pointer (some d),.i n] K λB=>fY [c] iR #[.pointer (some d),.i q] B λD=>fY [c] iR #[.pointer (some d),.i u] D λE=>fY [c] mu #[.pointer (some d),x.v] E λj=>∃(t35:J) (e:C),Sem.run V (Go.convert da bM (.string y)) j=.ok (t35.v) e/\kept [c] j e/\fY [c] r8 #[.pointer (some d),t35.v] e λF=>fY [c] mu #[.pointer (some d),z.v] F λG=>fY [c] mu #[.pointer (some d),A.v] G λH=>aH d t10 t11 (ad .i64 (t12+1)) H R) (R (U (.tuple #[])) w)),aH d t10 t11 t12 w R:=mp (bL (X:=X) [az] (ai [0,1,2]) P0)
def aB(d:Addr)(c:J)(w:C)(R:aa)(h:e0 iR #[.pointer (some d),.i ((c.n:Nat):Int)] w λe=>aH d c ((c.n:Nat):Int) 0 e R):ah V xO #[.pointer (some d),c.v] w R:=aM X [az] h
end u4
namespace J9
noncomputable abbrev X:Fx:=⟨V,Tryz.f21,[],[1]⟩
def aB(e j k n:J)(w:C)(R:aa)(h:aP [] w λc u=>
 GH [c] x6 #[.agg #[e.v]] u λq E d=>aK d (.cells #[.slice none 0 0] lW) λx=>
 fY [c] r8 #[.pointer (some (nb d)),q.v] x λy=>fY [c] mu #[.pointer (some (nb d)),j.v] y λz=>fY [c] mu #[.pointer (some (nb d)),k.v] z λA=>fY [c] xO #[.pointer (some (nb d)),n.v] A λB=>iv [c] r7 #[.pointer (some (nb d))] B λt24 D=>R (U (t24.v)) D):ah V xL #[.agg #[e.v,j.v,k.v,n.v]] w R:=aM X [] h
end J9
namespace J8
noncomputable abbrev X:Fx:=⟨V,Tryz.f10,[],[1]⟩
def aB(c d e j:J)(w:C)(R:aa)(h:aP [] w λk u=>
 bG [k] xM #[.agg #[c.v,d.v,e.v,j.v]] u λn q=>Y (n !=0) (R (U (.tuple #[.slice none 0 0,.i n])) q) (iv [k] xL #[.agg #[c.v,d.v,e.v,j.v]] q λt11 x=>R (U (.tuple #[t11.v,.i 0])) x)):ah V CH #[.agg #[c.v,d.v,e.v,j.v]] w R:=aM X [] h
end J8
namespace u2
noncomputable abbrev X:Fx:=⟨V,Tryz.f7,[],[1,7]⟩
abbrev P0:Ps:=[(1,.l [.s,.s] ec),(5,.v [.r]),(18,.v [.s]),(19,.v [.I]),(20,.v [.I])]
def aH(c:Nat)(d e:J)(h:Addr)(t18:J)(t19 t20:Int)(w:C)(R:aa):Prop:=bz P0 0 (X.Sem (ai [0,1,1,1,4])) c d e h t18 t19 t20 w R
noncomputable def az:=bK X (ai [0,1,1,1,4]) P0 aH
def bD:∀(c:Nat) (k j:J) (d:Addr) (t18:J) (t19 t20:Int) (w:C) (R:aa) (h:Y (af (t20<t19)) (aw t18 t20 λn=>pX w (n.add (ae t20 *4)) λq u x y=>aP [c] w λe E=>
 loc [c,e] E λF=>iv [c,e] xL #[.agg #[q.v,u.v,x.v,y.v]] F λt25 z=>fY [c,e] r8 #[.pointer (some d),t25.v] z λA=>aH c k j d t18 t19 (ad .i64 (t20+1)) A R) (fY [c] xO #[.pointer (some d),j.v] w λB=>iv [c] r7 #[.pointer (some d)] B λt31 D=>R (U (.tuple #[t31.v,.i 0])) D)),aH c k j d t18 t19 t20 w R:=mp (bL (X:=X) [az] (ai [0,1,1,1,4]) P0)
def aB(c j:J)(w:C)(R:aa)(h:aP [] w λe q=>
 bG [e] ow #[.agg #[c.v,j.v]] q λk d=>Y (k !=0) (R (U (.tuple #[.slice none 0 0,.i k])) d) (aK d (.cells #[.slice none 0 0] lW) λu=>
 fY [e] iR #[.pointer (some (nb d)),.i ((c.n:Nat):Int)] u λx=>aH e c j (nb d) c ((c.n:Nat):Int) 0 x R)):ah V CG #[.agg #[c.v,j.v]] w R:=aM X [az] h
end u2
def VI{w:C}{e:Nat}{bs:List UInt8}{own:List Nat}(G:fc w e bs own){s:J}{b:List UInt8}(q:Bytes w s b)(F:∀c∈(En.rd s (b.map dG)).fp,c∉own)(u:bs.length+b.length<=10000000000000):
  ah V r8 #[.pointer (some (ag e)),s.v] w (mV w e own (bs++kI b)):=by refine MQ.ok _ _ w _ ?_;rw[Bytes.len q,EO _ (by omega)];refine(sW G b.length (by omega) (by omega)).mono ?_;rintro r d ⟨rfl,P,K,n,I⟩;have O:=hS b.length (by omega);have E:Bytes d s b:=(En.rd s (b.map dG)).st w d (λc H u=>n.cA c u (F c H)) q;obtain⟨M,rfl,k,j⟩:=K;obtain⟨L,N,z,A,B,D,_⟩:=z2 (ty:=bM) j E (by simp;omega);obtain⟨x,y,h⟩:=E4 k j (Fr.refl _ d) A B D;rw[jU]at h;exact⟨rfl,M,vQ k,L,N,z,x,y,rfl,h.then n I⟩
section
variable {M:Nat->Prop} {w0 w:C} {L D:List En} {bs:List Nat} {wb n:Nat} {l:List UInt8} {own:List Nat} {K:aa}
def MS(H:Z M w0 w L D)(i:Nat){Q:List UInt8->Prop}{g:FuncId}{args:Array ab}(hi:L[i]? =some (.wr wb l own))(j:fc w wb l own->ah V g args w λr d=>r=U (.tuple #[])/\∃c,Q c/\hh w wb own c d)(k:∀d c e,Q c->Z M w0 d (L.set i (.wr wb c e)) D->K (U (.tuple #[])) d)(bZ:∀b∈bs,En.g b∈L:=by simp):cV bs V g args w K:=by
 refine⟨(·∈own),λb h n=>?_,(j (H.get i hi)).mono λr d ⟨q,c,x,e,y,f,o⟩=>⟨f,?_⟩⟩
 .exact pR H hi (MY wb l own w) (bZ b h) (a4.2 n)
 .subst q;refine k d c e x (H.g' i (.wr wb c e) hi (f.mono λz _ u=>a4.2 u) y λb h=>?_);exact(o b (a4.1 h)).imp a4.2 id
def vN(H:Z M w0 w L D)(i:Nat){x:Int}(hi:L[i]? =some (.wr wb l own))(q:l.length<=n)(u:n<=1000000000000)(e:bn x)(k:∀c h d,h.length<=n+10->Z M w0 c (L.set i (.wr wb h d)) D->K (U (.tuple #[])) c)(bZ:∀b∈bs,En.g b∈L:=by simp):cV bs V iR #[.pointer (some (ag wb)),.i x] w K:=
 H.wm i hi (λr=>nK r x e (by omega)) (λc d j=>k c _ d (by have:=e2 x e;simp;omega) j) bZ
def vO(H:Z M w0 w L D)(i:Nat){s:J}{v:List Int}(hi:L[i]? =some (.wr wb l own))(E:l.length<=n)(F:n<=900000000000)(d:k8 100 v)(h:En.rd s (v.map bd)∈D)(q:∀c j e,j.length<=n+1010->Z M w0 c (L.set i (.wr wb j e)) D->K (U (.tuple #[])) c)(bZ:∀b∈bs,En.g b∈L:=by simp):cV bs V mu #[.pointer (some (ag wb)),s.v] w K:=by have A:=d.1;refine H.wm i hi (λr=>MM r (H.rd _ h) (λy x u=>H.dj _ h y x _ (aE hi) (a4.2 u)) d.2 (by omega)) (λc e k=>q c _ e ?_ k) bZ;have z:=rM v d.2;have B:=hS v.length (by omega);unfold kb;simp only[cC];omega
def EZ(H:Z M w0 w L D)(i:Nat){s:J}{b:List UInt8}{m:Nat}(hi:L[i]? =some (.wr wb l own))(A:l.length<=n)(B:n<=1000000000000)(z:b.length<=m)(h:m<=1000000000000)(e:En.rd s (b.map dG)∈D)(q:∀c j d,j.length<=n+10+m->Z M w0 c (L.set i (.wr wb j d)) D->K (U (.tuple #[])) c)(bZ:∀b∈bs,En.g b∈L:=by simp):cV bs V r8 #[.pointer (some (ag wb)),s.v] w K:=by refine H.wm i hi (λr=>VI r (H.rd _ e) (λx u h=>H.dj _ e x u _ (aE hi) (a4.2 h)) (by omega)) (λc d k=>q c _ d ?_ k) bZ;have y:=hS b.length (by omega);unfold kI;simp only[cC];omega
end
def RU{w:C}{h:Nat}{l:List UInt8}{own:List Nat}{D:List En}(q:fc w h l own)(j:∀c∈D,c.P w/\∀b∈c.fp,b∉own):Z (·∈own) w w [.wr h l own] D:=
 ⟨Fr.refl _ _,λc d=>by rw[cO.1 d];exact q,λc d=>(j c d).1,λc d b e=>by
  rw[cO.1 d]at e;exact .inr (a4.1 e),by simp only[dT,List.flatMap_nil,kV];exact(En.wr h l own).nd,λc d b e u n k=>by rw[cO.1 n]at k;exact(j c d).2 b e (a4.1 k)⟩
def LB{s:J}{ds:List Sp}{d:Sp}(q:d∈ds){e:En}(u:e∈[d.pE,d.hE,d.lE]):(∀h,(En.sp s ds).P h->e.P h)/\∀b∈e.fp,b∈(En.sp s ds).fp:=by have j:e∈En.bh 7 s (ds.flatMap Sp.c)::jq ds:=eb _ (cj.2 ⟨d,q,u⟩);exact⟨λh k=>k e j,λb n=>gw.2 ⟨e,j,n⟩⟩
def Tc{bs:List Nat}{P:aR}{g:FuncId}{args:Array ab}{w:C}{K:aa}:cV bs P g args w K->ah P g args w K:=λ⟨_,_,c⟩=>c.mono λ_ _ c=>c.2
def J2{w:C}{E n:Nat}{l:List UInt8}{own:List Nat}{s:J}{ds:List Sp}(hr:fc w E l own)(O:fk w s ds)(ab:∀L∈(En.sp s ds).fp,L∉own)(N:fK 100 ds)(hl:l.length<=n)(hn:n<=200000000000):
  ah V xO #[.pointer (some (ag E)),s.v] w λr K=>r=U (.tuple #[])/\∃F,F.length<=n+1000000/\hh w E own F K:=by
 have aq:=O.n;have ao:=N.1;have T:=RU (D:=[.sp s ds]) hr λz A=>by rw[cO.1 A];exact⟨dp.2 O,ab⟩
 refine u4.aB _ _ w _ (Tc (bs:=[]) (vN T 0 rfl hl (by omega) ⟨by omega,by omega⟩ λw1 y B I e=>⟨rfl,?_⟩));have loop:∀(k i:Nat) (v:C) (y:List UInt8) (B:List Nat),i+k=ds.length->y.length<=n+10+5000 *i->Z (·∈own) w v [.wr E y B] [.sp s ds]->
   u4.aH (ag E) s ((s.n:Nat):Int) (i:Int) v λr K=>r=U (.tuple #[])/\∃F,F.length<=n+1000000/\hh w E own F K:=by
  intro k;induction k with
  |zero=>
   intro i v y B hi I e;exact u4.bD _ _ _ _ _ _ (bb (a2 (by omega)) ⟨rfl,y,by omega,B,e.get 0,e.fr,λL j=>(e.new _ (aE (i:=0) rfl) L (a4.2 j)).symm⟩)
  |succ k ih=>
   intro i v y B hi I e;have q:=dp.1 (e.getD 0);have H:ds[i]? =some ds[i]:=a9 (by omega);generalize ds[i]=d at H;have G:=aE H;have c:=N.2 d G;refine u4.bD _ _ _ _ _ _ (a8 (a0 (by omega)) ⟨by omega,by omega,q.get H λp u=>?_⟩);rw[bT];have mD:∀z∈[d.pE,d.hE,d.lE,.sp s ds],((∀d∈[En.sp s ds],d.P v)->z.P v)/\∀b∈z.fp,∃d∈[En.sp s ds],b∈d.fp:=λz A=>by
    by_cases j:z∈[d.pE,d.hE,d.lE]
    .exact ⟨λq=>(LB G j).1 v (q (.sp s ds) (by simp)),λb c=>⟨.sp s ds,by simp,(LB G j).2 b c⟩⟩
    .simp only[ay,aW,a3,not_or]at A j;rcases A with rfl|rfl|rfl|rfl
     .exact absurd rfl j.1
     .exact absurd rfl j.2.1
     .exact absurd rfl j.2.2
     .exact ⟨λq=>q (.sp s ds) (by simp),λb c=>⟨.sp s ds,by simp,c⟩⟩
   have H2:=e.kR [d.pE,d.hE,d.lE,.sp s ds] mD;refine⟨_,_,_,_,_,_,_,u.c0,u.c1,u.c2,u.c3,u.c4,u.c5,u.c6,H2.aN λb5 w2 H3=>H3.ak λw9 H4=>?_⟩;refine vN H4 0 rfl I (by omega) c.k.1 λar l2 o2 ac H5=>⟨rfl,vN H5 0 rfl ac (by omega) c.k.2.1 λau l3 o3 ad H6=>⟨rfl,vN H6 0 rfl ad (by omega) c.k.2.2 λav l4 o4 ae H7=>⟨rfl,vO H7 0 rfl ae (by omega) c.p (by simp) λal l5 o5 af M=>⟨rfl,?_⟩⟩⟩⟩;obtain⟨S,am,r1,r2,Q,r4⟩:=U3 al d.x.nm;have H9:=(M.fresh Q).rd (.rd S ((bl d.x.nm).map dG)) r2 (kZ λb c=>(r4 b c).1);have ht:=c.t;refine⟨S,am,r1,λb c=>Q.cA b (M.own (.g b) (by simp at c;simp[c])) id,EZ H9 0 rfl af (by omega) (m:=100) (by rw[eS];exact ht) (by omega) (by simp) λaw l6 o6 ai W=>⟨rfl,vO W 0 rfl ai (by omega) c.l (by simp) λax l7 o7 aj Y=>⟨rfl,vO Y 0 rfl aj (by omega) c.h (by simp) λan l8 o8 ap aa=>⟨rfl,?_⟩⟩⟩⟩;rw[bA _ (by omega)];refine ih (i+1) an l8 o8 (by omega) (by omega) ((aa.take 1).kR [.sp s ds] λz A=>?_);rw[cO.1 A];exact⟨λq=>q (.sp s ds) (by simp),λb c=>⟨.sp s ds,by simp,c⟩⟩
 exact loop ds.length 0 w1 y B (by omega) (by omega) e
def Jb{x:Lx}{e:En}(j:e∈[En.gr x.m.g x.gl,.rd x.m.h (x.hy.map bd),.rd x.m.c (x.cl.map bd),.sp x.m.s x.ds]):(∀d,(e6 x).P d->e.P d)/\∀b∈e.fp,b∈(e6 x).fp:=⟨λd k=>k e j,λb n=>gw.2 ⟨e,j,n⟩⟩
def Nt(w:C)(r:cQ)(w':C):Prop:=∃(s:J) (b:List UInt8),r=U s.v/\Bytes w' s b/\b.length<=1000000000/\∀c∈aO s,w.heap.size<=c
def JZ{w:C}{x:Lx}(d:j4 100 x)(h:mU w x)(W:dd.P w)(hv:iG (xs x.gl)=0):ah V xL #[x.m.v] w λr A=>Nt w r A/\aj w A:=by
 have O:=xg d.g.2;have G:∀e∈xs x.gl,(gh e).length<=1000000:=λe u=>(d.g.2 e u).small (by omega);have S:(kJ (xs x.gl)).length<=100000010:=by
  have h1:=yh G;have h2:=d.g.1;have h3:=e2 ((xs x.gl).length:Int) (by simp[xs];omega);have h4:(xs x.gl).length=x.gl.length:=by simp[xs]
  unfold kJ;rw[cC];omega
 have I:∀D∈[En.gr x.m.g x.gl,.rd x.m.h (x.hy.map bd),.rd x.m.c (x.cl.map bd),.sp x.m.s x.ds,dd],D.P w:=λD F=>by
  simp only[ay,aW,a3]at F;rcases F with rfl|rfl|rfl|rfl|rfl
  .exact bU.2 h.1
  .exact h.2.1
  .exact h.2.2.1
  .exact dp.2 h.2.2.2
  .exact W
 refine J9.aB _ _ _ _ w _ ((bN (w:=w) _ I).aN λb1 w1 j=>j.jF (L6 (bU.1 (j.getD 0)) (j.getD 4) (λ_ e u=>(O e u).1) G) ?_);rintro _ w2 ⟨t,rfl,y⟩ _ N;obtain⟨y,T⟩:=y hv;have J:=N.rd (.rd t ((kJ (xs x.gl)).map dG)) y.rd (kZ T);refine⟨_,_,rfl,J.Dn λw3 K=>EZ K 1 rfl (n:=0) (by simp) (by omega) S (by omega) (by simp) λw4 l1 o1 Y L=>⟨rfl,vO L 1 rfl Y (by omega) d.h (by simp) λw5 l2 o2 Z M=>⟨rfl,vO M 1 rfl Z (by omega) d.c (by simp) λw6 l3 o3 aa k=>⟨rfl,?_⟩⟩⟩⟩;refine MS k 1 (Q:=λl=>l.length<=200000000) rfl (λr=>(J2 r (dp.1 (k.getD 3)) (λB z hm=>k.dj (.sp x.m.s x.ds) (by simp) B z _ (aE (i:=1) rfl) (a4.2 hm)) d.s aa (by omega)).mono λr A h=>⟨h.1,h.2.imp λl' h=>⟨by have:=h.1;omega,h.2⟩⟩) λw7 H o4 ab q=>⟨rfl,?_⟩;refine h7 ((zg (show fc w7 w2.heap.size H o4 from q.get 1) (by omega)).mono ?_);rintro _ w8 ⟨s,rfl,hs,E,hn⟩;exact⟨E,s,rfl,⟨s,H,rfl,hs.rd,by omega,λB z=>bB q.fr.size (hn B z)⟩,q.fr.ew E⟩
def zF(E:Int)(r:cQ):Prop:=∃s:J,r=U (.tuple #[s.v,.i E])/\(E≠0->s.n=0)
def w6{x:Lx}(h:gD x=0):iG (xs x.gl)=0:=by
 unfold gD at h;split at h
 .omega
 .omega
def Tq{w:C}{x:Lx}(j:j4 100 x)(h:mU w x)(q:dd.P w):ah V CH #[x.m.v] w λr u=>zF (gD x) r/\aj w u:=by
 refine J8.aB _ _ _ _ w _ ((bN (w:=w) [e6 x,dd] (by
  intro z k;simp only[ay,aW,a3]at k;rcases k with rfl|rfl
  .exact iA.2 h
  .exact q)).aN λy A e=>e.ax (IK j (iA.1 (e.getD 0)) (e.getD 1)) ?_)
 rintro _ B rfl c;refine⟨_,rfl,cD (λd=>⟨⟨⟨none,0,0⟩,rfl,λ_=>rfl⟩,c.fr⟩) λd=>c.ax (JZ j (iA.1 (c.getD 0)) (c.getD 1) (w6 d)) ?_⟩;rintro _ D ⟨s,b,rfl,_⟩ n;exact⟨_,rfl,⟨s,by rw[d],λh=>absurd d h⟩,n.fr⟩
def BN:∀{l:List Lx},jh l=0->∀h∈l,gD h=0
 |[],_,h,c=>by cases c
 |j::r,d,h,c=>by
  by_cases e:gD j=0
  .rw [BP e]at d;rcases ay.1 c with rfl|c
   .exact e
   .exact BN d h c
  .rw [BO e]at d;exact absurd d e
def Tp{w:C}{s t:J}{l:List Lx}{ds:List Sp}(j:hc 100 l)(S:fK 100 ds)(h:hH w s l)(hs:fk w t ds)(hk:dd.P w):ah V CG #[.agg #[s.v,t.v]] w λr D=>zF (iW l (dE ds)) r/\aj w D:=by
 have am:=j.1;have hn:=h.n;refine u2.aB _ _ w _ ((bN (w:=w) [dw s l,.sp t ds,dd] (by
  intro G q;simp only[ay,aW,a3]at q;rcases q with rfl|rfl|rfl
  .exact e5.2 h
  .exact dp.2 hs
  .exact hk)).aN λM w1 z=>z.ax (BH j S (e5.1 (z.getD 0)) (dp.1 (z.getD 1)) (z.getD 2)) ?_)
 rintro _ I rfl K;refine⟨_,rfl,cD (λd=>⟨⟨⟨none,0,0⟩,rfl,λ_=>rfl⟩,K.fr⟩) λd=>K.Dn λw3 H3=>vN H3 1 rfl (n:=0) (by simp) (by omega) (by omega) λw4 e y T H4=>⟨rfl,?_⟩⟩;have hv:jh l=0:=by
  unfold iW at d;split at d
  .exact d
  .omega
 have loop:∀(k i:Nat) (E:C) (e:List UInt8) (y:List Nat),i+k=l.length->e.length+1000000010 *k<=100000002000->Z F0 w E [.g M,.wr I.heap.size e y] [dw s l,.sp t ds,dd]->
   u2.aH M s t (ag I.heap.size) s ((s.n:Nat):Int) (i:Int) E λr D=>zF (iW l (dE ds)) r/\aj w D:=by
  intro k;induction k with
  |zero=>
   intro i E e y hi T c;refine u2.bD _ _ _ _ _ _ _ _ _ (bb (a2 (by omega)) ?_);refine MS c 1 (Q:=λl=>l.length<=200000000000) rfl (λr=>(J2 (n:=100000002000) r (dp.1 (c.getD 1)) (λal hy u=>c.dj (.sp t ds) (by simp) al hy _ (aE (i:=1) rfl) (a4.2 u)) S (by omega) (by omega)).mono λr D h=>⟨h.1,h.2.imp λl' h=>⟨by have:=h.1;omega,h.2⟩⟩) λw7 l4 o4 ao L=>⟨rfl,?_⟩;refine h7 ((zg (show fc w7 I.heap.size l4 o4 from L.get 1) (by omega)).mono ?_);rintro _ w8 ⟨B,rfl,aq,N,ap⟩;exact⟨N,B,rfl,⟨B,by rw[d],λh=>absurd d h⟩,L.fr.ew N⟩
  |succ k ih=>
   intro i E e y hi T c;have ab:=e5.1 (c.getD 0);have H:l[i]? =some l[i]:=a9 (by omega);generalize l[i]=x at H;have u:=aE H;refine u2.bD _ _ _ _ _ _ _ _ _ (a8 (a0 (by omega)) ⟨by omega,by omega,ab.get H λp _ A=>?_⟩);rw[bT];refine⟨_,_,_,_,A.c0,A.c1,A.c2,A.c3,c.aN λb7 au H6=>H6.ak λw9 F=>F.jF (JZ (j.2 x u) ((e5.1 (F.getD 0)).2 x u) (F.getD 2) (w6 (BN hv x u))) ?_⟩;rintro _ ar ⟨B,b,rfl,ad,O,ae⟩ _ ac;have Y:=ac.rd (.rd B (b.map dG)) ad (kZ ae);refine⟨_,rfl,EZ Y 1 rfl (b' _) (by omega) (m:=1000000000) O (by clear O;decide) (by simp) λai W o2 an aa=>⟨rfl,?_⟩⟩;rw[bA _ (by omega)];have af:W.length+1000000010 *k<=100000002000:=by omega
   refine ih (i+1) ai W o2 (by omega) af ((aa.take 2).kR _ λG q=>⟨λh=>h G (bS _ q),λb j=>⟨G,bS _ q,j⟩⟩)
 exact loop l.length 0 w4 e y (by omega) (by omega) H4
section
variable {w:C} {D:List En} {b:Nat} {l:List UInt8} {at_:Nat} {bad:Bool}
def PL{m:Int}(h:bn m):(cr m).length<21:=by
 have c:=h.1;have d:=h.2;have:(cg m.natAbs).length<=19:=wF (by omega) (by omega);unfold cr
 grind
end
def Ri(xs:List Int)(n:Int):nh (xs++[n])=if xs=[]then cr n else nh xs++32::cr n:=by
 induction xs with
 |nil=>rfl
 |cons d xs c=>
  rw[aq (by simp)];cases xs with
  |nil=>rfl
  |cons e h=>
   rw[aq (by simp)]at c;rw[iF,iF,BF,<-iF,c,BF];simp
def nZ{n:Int}(h:bn n):(cr n).length<=20:=by have:=PL h;omega
def wZ:∀l:List Int,(∀e∈l,bn e)->(nh l).length<=21 *l.length
 |[],_=>b' _
 |[d],c=>by have:=nZ (c d (by simp));show(cr d).length<=21;omega
 |d::m::r,c=>by have k:=nZ (c d (by simp));have j:=wZ (m::r) λe h=>c e (by simp at h ⊢;exact .inr h);rw[BF,cC,e8];simp only[e8]at j ⊢;omega
def lF{l:List Int}(h:∀c∈l,bn c):(eN l).length<=21 *l.length+2:=by have:=wZ l h;unfold eN;simp only[iF,e8,cC,hZ];omega
structure o9(s:dz):Prop where
 kind:0<=s.kind/\s.kind<=5
 node:bn s.node
 dD:bn s.dD
 params:(∀x∈s.params,bn x)/\s.params.length<=1000000
 cY:(∀x∈s.cY,bn x)/\s.cY.length<=1000000
 hints:(∀x∈s.hints,bn x)/\s.hints.length<=1000000
 nm:s.nm.size<=1000000
def Dq(s:dz):(nt s).length<=s.nm.size+1:=by
 unfold nt;split
 .simp
 .rw [eS];omega
def E1(k:Int):(lY k).length<=7:=by
 unfold lY;have c:∀i<6,(qK.getD i []).length<=7:=by decide
 by_cases d:k.toNat<6
 .exact c _ d
 .rw [List.getD_eq_getElem?_getD,List.getElem?_eq_none (by show 6<=_;omega)];simp
def RX{s:dz}(h:o9 s):(uv s).length<=70000000:=by have c:=nZ h.node;have d:=nZ h.dD;have e:=lF h.params.1;have j:=lF h.hints.1;have k:=lF h.cY.1;have n:=h.params.2;have q:=h.hints.2;have u:=h.cY.2;have w:=Dq s;have x:=h.nm;have y:=E1 s.kind;unfold uv;simp only[cC,e8];omega
abbrev dL(s:J)(xs:List UInt8):En:=.row db 1 s (xs.map dG)
section
variable {M:Nat->Prop} {w0 w:C} {L D:List En}
def Ab{s:J}{xs:List UInt8}(h:(dL s xs).P w):s.n=xs.length:=by have:=(show aG w db 1 s (xs.map dG)from h).len;simpa using this.symm
def _root_.Go.W.Z.FB(H:Z M w0 w L D)(i:Nat){s:J}{xs:List UInt8}(hi:L[i]? =some (dL s xs))(t:List UInt8)(n:xs.length+t.length<=100000000000000){K:J->C->Prop}(k:∀c w',Z M w0 w' (L.set i (dL c (xs++t))) D->K c w'):∃(c:J) (w':C),Sem.run V (Builtin.append_ #[bM,da] bM #[s.v,.string (ba t)]) w=.ok c.v w'/\K c w':=by have q:=de t;obtain⟨c,w',e,d,h,j⟩:=FD (ty:=bM) (aG.JS (H.get i hi)) (ba t) (by omega);rw[nW]at d;exact⟨c,w',e,k c w' (H.g' i (dL c (xs++t)) hi h d.2 j)⟩
def _root_.Go.W.Z.tn(H:Z M w0 w L D)(i:Nat){s:J}{xs:List UInt8}(hi:L[i]? =some (dL s xs))(c:UInt8)(k:xs.length<=100000000000000){K:J->C->Prop}(h:∀d w',Z M w0 w' (L.set i (dL d (xs++[c]))) D->K d w'):aK w (.cells #[.int .u8 (c.toNat:Int)] db) λj=>∃(d:J) (w':C),Sem.run V (Builtin.append_ #[bM,bM] bM #[s.v,.slice (some (nb w)) 1 1]) j=.ok d.v w'/\K d w':=by have n:=Ab (H.get i hi);refine H.tm i kH hi (λd w' e _ _=>h d w' ?_) (by omega);unfold dL;rw[kX];exact e
def _root_.Go.W.Z.aU(H:Z M w0 w L D)(i:Nat){s:J}{xs:List UInt8}(hi:L[i]? =some (dL s xs))(Q:gA∈D){u:Nat}(q:u<2^64)(z:xs.length<=10000000000000){K:aa}(x:∀d e,Z M w0 e (L.set i (dL d (xs++cg u))) D->K (U d.v) e):ah V CA #[s.v,.u (u:Int),.i 10] w K:=by
 obtain⟨d1,d2,I⟩:=G6 q;have ab:=(dh.1 hi).1;refine Iu.ok _ _ _ w _ (a8 rfl (aQ (λO=>?_) (λO=>?_)))
 .rw [bf _ (by omega)];refine(J3 u (by omega) w).mono ?_;rintro _ B ⟨rfl,n⟩;subst n;exact⟨_,rfl,H.FB i hi _ (by omega) x⟩
 .refine H.nw (cs:=nM.toArray) λB ac h=>(Gm (by omega) q B (h.rd _ Q).1).mono ?_;rintro _ w2 ⟨rfl,n⟩;subst n;have y:(L++[En.c w.heap.size nM.toArray.toList lT])[L.length]? =some (.c w.heap.size nM lT):=by simp
  have hg:(En.c w.heap.size nM lT).P w2:=h.get L.length y;refine⟨_,rfl,by omega,by omega,?_⟩;rw[bT,Nat.sub_zero];have N:(if 24=0 then ag w.heap.size else(ag w.heap.size).add (0 *1))=(ag w.heap.size).add 0:=by rw[aq (by decide)]
  rw[N];refine(Gh (vs:=nM) (o:=0) (nd:=(cg u).length) hg rfl (by omega) I q).mono ?_;rintro _ E ⟨rfl,A,k,T⟩;have G:Z M w0 E ((L++[En.c w.heap.size nM.toArray.toList lT]).set L.length (.c w.heap.size A lT)) D:=h.g' L.length (.c w.heap.size A lT) y (k.fr.mono λad _ hx=>by simp[En.c,En.ob,hx]) (k.get 0) λb z=>.inl z;have Y:=G8 T rfl (by omega);have S:Bytes E ⟨some ((ag w.heap.size).add 0),(cg u).length,24⟩ (cg u):=DL (k.get 0) rfl (by omega) Y;have j:=G.take L.length;rw[List.set_append_right _ _ (b' _),List.take_left' rfl]at j;refine⟨rfl,by omega,by omega,?_⟩;have hn:=Ab (j.get i hi);refine j.ap i kH (src:=⟨some ((ag w.heap.size).add 0),(cg u).length,24⟩) (news:=(cg u).map dG) hi S.2.2 (by simp) (FQ _) (by show(_+(cg u).length) *1<=_;omega) λd e F _ _=>x d e ?_;unfold dL;rw[kX];exact F
def _root_.Go.W.Z.aI(H:Z M w0 w L D)(i:Nat){s:J}{xs:List UInt8}(hi:L[i]? =some (dL s xs))(u:gA∈D){n:Int}(h:bn n)(G:xs.length<=1000000000000){K:aa}(z:∀c j,Z M w0 j (L.set i (dL c (xs++cr n))) D->K (U c.v) j):ah V CZ #[s.v,.i n,.i 10] w K:=by
 obtain⟨B,E,x⟩:=MB h;have A:=(dh.1 hi).1;have imp:ah V Cz #[s.v,.i n,.i 10] w λr j=>∃c,r=U c.v/\Z M w0 j (L.set i (dL c (xs++cr n))) D:=by
  refine It.ok _ _ _ w _ (aQ (λe=>?_) (λe=>?_))
  .rw [B e,PM e];refine H.tn i hi 45 (by omega) λI y k=>k.aU i (xs:=xs++[45]) (by simp[A]) u x (by simp;omega) λq F d=>⟨_,rfl,q,rfl,?_⟩;rw[List.set_set,jU]at d;exact d
  .rw [E (by omega),PN e];exact H.aU i hi u x (by omega) λq F d=>⟨_,rfl,q,rfl,d⟩
 refine LY.ok _ _ _ w _ (imp.mono ?_);rintro _ y ⟨c,rfl,k⟩;exact⟨_,rfl,z c y k⟩
end
def u0{w:C}{s:J}{l:List Int}(G:bo w s l)(hi:∀c∈l,bn c)(Q:l.length<=1000000)(z:o2 w):ah V qe #[s.v] w λr w'=>r=U (.string (ba (eN l)))/\aj w w':=by
 have S:=bo.len G;have d:Z F0 w w [] [gA,.rd s (l.map bd)]:=bN _ (by
  intro F e;simp only[ay,aW,a3]at e;rcases e with rfl|rfl
  .exact z
  .exact G)
 have loop:∀(k i:Nat) (out:J) (w':C),i+k=l.length->Z F0 w w' [dL out (40::nh (l.take i))] [gA,.rd s (l.map bd)]->so.L0 out s ((s.n:Nat):Int) (i:Int) w' λr w'=>r=U (.string (ba (eN l)))/\aj w w':=by
  intro k;induction k with
  |zero=>
   intro i out w' A d;have B:=wZ (l.take i) λc h=>hi c (List.mem_of_mem_take h);rw[g4]at B;refine so.cf _ _ _ _ _ _ (bb (a2 (by omega)) (d.tn 0 rfl 41 (by simp only[e8];omega) λW I q=>⟨_,lk (aG.fR (q.get 0)),?_,q.fr⟩));rw[g6 (by omega)];rfl
  |succ k M=>
   intro i out w' A d;have u:l[i]? =some l[i]:=a9 (by omega);generalize l[i]=c at u;have h:=hi c (aE u);have B:=wZ (l.take i) λc h=>hi c (List.mem_of_mem_take h);rw[g4]at B;have H:l.take (i+1)=l.take i++[c]:=by rw[eI,u];rfl
   have E:∀(out:J) (xs:List UInt8) (j:C),xs.length<=30000000->xs++cr c=40::nh (l.take (i+1))->Z F0 w j [dL out xs] [gA,.rd s (l.map bd)]->so.S1 out c s ((s.n:Nat):Int) (i:Int) j λr w'=>r=U (.string (ba (eN l)))/\aj w w':=by intro out xs j T z x;refine x.aI 0 rfl (by simp) h (by omega) λO P D=>⟨_,rfl,?_⟩;rw[bA _ (by omega)];rw[z]at D;exact M (i+1) O P (by omega) D
   refine so.cf _ _ _ _ _ _ (a8 (a0 (by omega)) ⟨by omega,by omega,bo.cell (d.getD 1) u (by rw[bT]) λp _ K=>⟨c,K,aQ (λy=>d.tn 0 rfl 32 (by simp only[e8];omega) λN j x=>E N _ j (by simp;omega) ?_ x) (λy=>E out _ w' (by simp only[e8];omega) ?_ d)⟩⟩)
   .have L:l.take i≠[]:=λF=>(List.take_eq_nil_iff.1 F).elim (λe=>by omega) λe=>by rw[e]at A;simp at A
    rw[H,Ri,aq L];simp
   .have y:i=0:=by omega
    subst y;rw[H];rfl
 exact so.ok _ w _ (d.cB (n:=1) (sz:=1) (cs:=[dG 40]) rfl (by decide) λI q=>loop l.length 0 _ I (by omega) q)
def g2:List (List UInt8)->List UInt8
 |[]=>[]
 |[p]=>p
 |p::c::r=>p++32::g2 (c::r)
def II(xs:List (List UInt8))(p:List UInt8):g2 (xs++[p])=if xs=[]then p else g2 xs++32::p:=by
 induction xs with
 |nil=>rfl
 |cons x xs d=>
  rw[aq (by simp)];cases xs with
  |nil=>rfl
  |cons y c=>
   rw[aq (by simp)]at d;show g2 (x::((y::c)++[p]))=_;show x++32::g2 ((y::c)++[p])=(x++32::g2 (y::c))++32::p;rw[d];simp
section
variable {M:Nat->Prop} {w0 w:C} {D:List En}
def JW{s t:J}{xs:List UInt8}{ps:List (List UInt8)}(H:Z M w0 w [dL s xs] D)(B:En.rd t (ps.map h1)∈D)(hx:xs.length<=10000000000)(E:∀p∈ps,p.length<=100000000)(hl:ps.length<=10){K:aa}(N:∀I w',Z M w0 w' [dL I (xs++(g2 ps++[10]))] D->K (U I.v) w'):ah V r1 #[s.v,t.v] w K:=by
 have hn:t.n=ps.length:=by have:=(show Rd w t (ps.map h1)from H.rd _ B).1;simpa using this
 have G:∀i:Nat,(g2 (ps.take i)).length<=100000001 *i:=by
  intro i;induction i with
  |zero=>exact b' _
  |succ i u=>
   by_cases Q:i<ps.length
   .have c:ps[i]? =some ps[i]:=a9 Q;have hh:=E _ (aE c);rw[eI,c];show(g2 (ps.take i++[ps[i]])).length<=_;rw[II];split
    .omega
    .rw [cC,e8];omega
   .rw [g6 (by omega)]at u ⊢;omega
 have loop:∀(k i:Nat) (out:J) (w':C),i+k=ps.length->Z M w0 w' [dL out (xs++g2 (ps.take i))] D->sj.L0 out t ((t.n:Nat):Int) (i:Int) w' K:=by
  intro k;induction k with
  |zero=>
   intro i out w' q H;have:=G i;refine sj.cf _ _ _ _ _ _ (bb (a2 (by omega)) (H.tn 0 rfl 10 (by rw[cC];omega) λT w1 x=>N T w1 ?_));rw[g6 (by omega),jU]at x;exact x
  |succ k u=>
   intro i out w' q H;have hj:=G i;have c:ps[i]? =some ps[i]:=a9 (by omega);generalize ps[i]=p at c;have ab:=E p (aE c);have F:ps.take (i+1)=ps.take i++[p]:=by rw[eI,c];rfl
   have z:∀(out:J) (e:List UInt8) (d:C),e.length<=20000000000->e++p=xs++g2 (ps.take (i+1))->Z M w0 d [dL out e] D->sj.S1 out (ba p) t ((t.n:Nat):Int) (i:Int) d K:=by intro out e d hy P h;refine h.FB 0 rfl p (by omega) λY w3 y=>?_;rw[bA _ (by omega)];rw[P]at y;exact u (i+1) Y w3 (by omega) y
   refine sj.cf _ _ _ _ _ _ (a8 (a0 (by omega)) ⟨by omega,by omega,Rd.get (H.rd _ B) (i:=i) (v:=h1 p) (by rw[jk,c];rfl) (by rw[bT]) λac _ O=>⟨_,O,aQ (λj=>H.tn 0 rfl 32 (by rw[cC];omega) λW d h=>z W _ d (by simp only[cC,e8,hZ];omega) ?_ h) (λj=>z out _ w' (by rw[cC];omega) ?_ H)⟩⟩)
   .have S:ps.take i≠[]:=λL=>(List.take_eq_nil_iff.1 L).elim (λA=>by omega) λA=>by rw[A]at q;simp at q
    rw[F,II,aq S];simp
   .have j:i=0:=by omega
    subst j;rw[F];simp[g2]
 refine sj.ok _ _ w _ (loop ps.length 0 s w (by omega) ?_);rw[show g2 (ps.take 0)=[]from rfl,kV];exact H
end
def RW(s:dz):g2 [lY s.kind,cr s.node,cr s.dD,nt s,eN s.params,eN s.hints,eN s.cY]=uv s:=rfl
section
variable {M:Nat->Prop} {w0 w:C} {D:List En}
def JX{out s:J}{xs:List UInt8}{l:List Sp}(H:Z M w0 w [dL out xs] D)(F:gA∈D)(z:fU∈D)(hS:En.sp s l∈D)(hs:∀c∈l,o9 c.x)(hl:l.length<=100)(hx:xs.length<=1000000000){K:aa}(hK:∀G w',Z M w0 w' [dL G (xs++(dE l).flatMap fE)] D->K (U G.v) w'):ah V uJ #[out.v,s.v] w K:=by
 have hn:=(dp.1 (H.rd _ hS)).n;have fl:∀i,(((dE l).take i).flatMap fE).length<=70000001 *i:=by
  intro i;induction i with
  |zero=>simp
  |succ i ih=>
   by_cases hi:i<l.length
   .have u:l[i]? =some l[i]:=a9 hi;have hh:=RX (hs _ (aE u));rw[eI,jk,u,List.flatMap_append];simp only[cC,Option.map_some,Option.toList_some,dT,List.flatMap_nil,kV,fE,e8,hZ];omega
   .rw [g6 (by simp;omega)]at ih ⊢;omega
 have loop:∀(k i:Nat) (o:J) (w':C),i+k=l.length->Z M w0 w' [dL o (xs++((dE l).take i).flatMap fE)] D->sm.aH o s ((s.n:Nat):Int) (i:Int) w' K:=by
  intro k;induction k with
  |zero=>
   intro i o w' hk H;refine sm.bD _ _ _ _ _ _ (bb (a2 (by omega)) (hK o w' ?_));rw[g6 (by simp;omega)]at H;exact H
  |succ k ih=>
   intro i o w' hk H;have u:l[i]? =some l[i]:=a9 (by omega);generalize l[i]=c at u;have hd:=aE u;have d:=hs c hd;have au:=fl i;refine sm.bD _ _ _ _ _ _ (a8 (a0 (by omega)) ⟨by omega,by omega,(dp.1 (H.rd _ hS)).get u λp e=>?_⟩);rw[bT];refine⟨_,_,_,_,_,_,_,e.c0,e.c1,e.c2,e.c3,e.c4,e.c5,e.c6,H.aN λb w1 H1=>?_⟩;have S1:∀ai y,ai=ba (nt c.x)->Z M w0 y ([dL o (xs++((dE l).take i).flatMap fE)]++[.g b]) D->sm.aZ o b c.x.kind c.x.node c.x.dD c.p c.x.nm c.l c.h ai s ((s.n:Nat):Int) (i:Int) y K:=by
    rintro _ y rfl B;obtain⟨j,hj⟩:=Int.eq_ofNat_of_zero_le d.kind.1;have an:j<6:=by have:=d.kind.2;omega
    have hw:qK.getD j []=lY c.x.kind:=by unfold lY;rw[hj];rfl
    have A:∀{w':C},fU.P w'->w'.cell? ((Addr.mk 0 0 none).add (ae (j:Int) *1))=some (.string (ba (lY c.x.kind))):=λE=>by rw[bT,Nat.mul_one,<-hw];exact VL E j an
    rw[hj];refine⟨by omega,by show(j:Int)<6;omega,B.ak λw3 W=>⟨_,A (W.rd _ z),W.ax (FY d.node (W.rd _ F).1) ?_⟩⟩;rintro _ w4 rfl Y;refine⟨_,rfl,A (Y.rd _ z),Y.ax (FY d.dD (Y.rd _ F).1) ?_⟩;rintro _ w5 rfl I;have ac:=λ{w':C} (H:Z M w0 w' ([dL o (xs++((dE l).take i).flatMap fE)]++[.g b]) D)=>(dp.1 (H.rd _ hS)).2 c hd;refine⟨_,rfl,A (I.rd _ z),I.ax (u0 (l:=c.x.params) (ac I).1 d.params.1 d.params.2 (I.rd _ F)) ?_⟩;rintro _ w6 rfl L;refine⟨_,rfl,A (L.rd _ z),L.ax (u0 (l:=c.x.hints) (ac L).2.2 d.hints.1 d.hints.2 (L.rd _ F)) ?_⟩;rintro _ w7 rfl N;refine⟨_,rfl,A (N.rd _ z),N.ax (u0 (l:=c.x.cY) (ac N).2.1 d.cY.1 d.cY.2 (N.rd _ F)) ?_⟩;rintro _ S rfl af;refine⟨_,rfl,A (af.rd _ z),?_⟩;obtain⟨q,Q⟩:∃q,q=[lY c.x.kind,cr c.x.node,cr c.x.dD,nt c.x,eN c.x.params,eN c.x.hints,eN c.x.cY]:=⟨_,rfl⟩;have am:(#[.string (ba (lY c.x.kind)),.string (ba (cr c.x.node)),.string (ba (cr c.x.dD)),.string (ba (nt c.x)),.string (ba (eN c.x.params)),.string (ba (eN c.x.hints)),.string (ba (eN c.x.cY))]:Array ab)=(q.map h1).toArray:=by rw[Q];rfl
    have ao:q.length=7:=by rw[Q];rfl
    rw[am];refine af.cB (n:=7) (sz:=1) (cs:=q.map h1) (by simp[ao]) (by decide) λw9 H9=>?_;have al:Z M w0 w9 [dL o (xs++((dE l).take i).flatMap fE),En.g b] (D++[.rd ⟨some (ag S.heap.size),7,7⟩ (q.map h1)]):=H9.freeze 2 (.rd ⟨some (ag S.heap.size),7,7⟩ (q.map h1)) rfl (aG.fR (H9.get 2)) λap hq=>iX hq;have T:Z M w0 w9 ([En.g b]++[dL o (xs++((dE l).take i).flatMap fE)]) (D++[.rd ⟨some (ag S.heap.size),7,7⟩ (q.map h1)]):=al.perm (List.Perm.swap _ _ _);refine⟨_,H8 T,JW (s:=o) (t:=⟨some (ag S.heap.size),7,7⟩) (xs:=xs++((dE l).take i).flatMap fE) (ps:=q) T.part (ef _ (cO.2 rfl)) (by rw[cC];omega) ?_ (by omega) λG ar ad=>⟨ad.fr,G,rfl,?_⟩⟩
    .have l1:=nZ d.node;have l2:=nZ d.dD;have l3:=lF d.params.1;have l4:=lF d.hints.1;have l5:=lF d.cY.1;have m3:=d.params.2;have m4:=d.hints.2;have m5:=d.cY.2;have m6:=Dq c.x;have m7:=d.nm;have m8:=E1 c.x.kind;intro p e;rw[Q]at e;simp only[ay,aW,a3]at e;rcases e with rfl|rfl|rfl|rfl|rfl|rfl|rfl<;>omega
    .have aj:=(T.tP ad λO he ap hq=>.inr ⟨O,he,hq⟩).forget D λO he=>bS _ he;rw[bA _ (by omega)];refine ih (i+1) G ar (by omega) ?_;have et:xs++((dE l).take (i+1)).flatMap fE=xs++((dE l).take i).flatMap fE++(g2 q++[10]):=by rw[Q,RW,eI,jk,u];simp[fE]
     rw[et];exact(aj.perm (List.Perm.swap _ _ _)).take 1
   exact yH (λE=>H1.ak λy B=>S1 _ y (by unfold nt;rw[aA (r'.1 E)];rfl) B) (λE=>H1.ak λy B=>S1 _ y (by unfold nt;rw[aq (λO=>E (r'.2 O)),mW]) B)
 refine sm.aB _ _ w _ (loop l.length 0 out w (by omega) ?_);rw[List.take_zero,List.flatMap_nil,kV];exact H
def Ts{s:J}{l:List Sp}(h:fk w s l)(d:∀c∈l,o9 c.x)(I:l.length<=10)(k:o2 w)(F:fU.P w)(E:u1 (dE l)=0):
  ah V uI #[.agg #[(⟨none,0,0⟩:J).v,s.v]] w λr H=>r=U (.tuple #[.string (ba ((dE l).flatMap fE)),.i 0])/\aj w H:=by
 have D:∀c∈l,pa c:=λc j=>⟨by have:=(d c j).params.2;omega,by have:=(d c j).cY.2;omega,by have:=(d c j).hints.2;omega⟩;refine qq.aB _ _ w _ ((bN (w:=w) [gA,fU,.sp s l] (by
  intro y z;simp only[ay,aW,a3]at z;rcases z with rfl|rfl|rfl
  .exact k
  .exact F
  .exact dp.2 h)).aN λb L n=>n.ax (Rk (by omega) D (dp.1 (n.getD 2))) ?_)
 rintro _ M rfl A;refine⟨_,rfl,cD (λh=>absurd E h) (λ_=>qq.bD _ _ _ _ _ _ _ _ _ (bb rfl ?_))⟩;have e:=A.gP db 1;refine⟨_,H8 e,JX (xs:=[]) e.part (by simp) (by simp) (by simp) d (by omega) (by simp) λG N q=>⟨q.fr,G,rfl,?_⟩⟩;have u:=e.tP q λy k K B=>.inr ⟨y,k,B⟩;exact⟨_,lk (aG.fR (u.get 1)),rfl,u.fr⟩
end
def NG(c:UInt8):nV .u8 (c.toNat:Int) 15=((c.toNat%16:Nat):Int):=by
 have d:∀n<256,nV .u8 ((n:Nat):Int) 15=((n%16:Nat):Int):=by decide+kernel
 exact d _ c.toNat_lt
def Tu{w:C}{s:J}{b:List UInt8}(u:Bytes w s b)(Q:b.length<=10000000):ah V CI #[s.v] w λr w'=>(∃t:List UInt8,r=U (.string (ba t))/\t.length<=2 *b.length)/\aj w w':=by
 have H:=Bytes.len u;obtain⟨e,M,I,B⟩:=Sd (t:=bM) kH w .i64 .i64 (2 *b.length) (by omega);have y:Z F0 w w [] [.rd s (b.map dG)]:=bN _ (by intro P F;rw[cO.1 F];exact u);have z:Z F0 w e [dL ⟨some (ag w.heap.size),0,2 *b.length⟩ []] [.rd s (b.map dG)]:=y.TC B I.2 (by simp[aO]);refine u3.ok _ w _ ⟨⟨some (ag w.heap.size),0,2 *b.length⟩,e,?_,?_⟩
 .rw [H,bf _ (by omega),show 2 *((b.length:Nat):Int)=((2 *b.length:Nat):Int)by omega];exact M
 have loop:∀(k i:Nat) (o:J) (w':C) (t:List UInt8),i+k=b.length->t.length=2 *i->Z F0 w w' [dL o t] [.rd s (b.map dG)]->u3.L0 o s ((s.n:Nat):Int) (i:Int) w' λr w'=>(∃t:List UInt8,r=U (.string (ba t))/\t.length<=2 *b.length)/\aj w w':=by
  intro k;induction k with
  |zero=>
   intro i o w' t G K d;exact u3.cf _ _ _ _ _ _ (bb (a2 (by omega)) ⟨_,lk (aG.fR (d.get 0)),⟨t,rfl,by omega⟩,d.fr⟩)
  |succ k L=>
   intro i o w' t G K d;have x:b[i]? =some b[i]:=a9 (by omega);generalize b[i]=c at x;have D:Bytes w' s b:=d.getD 0;have S:=c.toNat_lt;have j:=wV (show c.toNat / 16<16 by omega);have q:=wV (show c.toNat%16<16 by omega);generalize hn (c.toNat / 16)=d1 at j;generalize hn (c.toNat%16)=d2 at q;refine u3.cf _ _ _ _ _ _ (a8 (a0 (by omega)) ⟨by omega,by omega,Bytes.cell D x (by rw[bT]) λp _ E=>⟨_,E,d.dr λW h=>?_⟩⟩);rw[show((2:Int)^4)=((16:Nat):Int)from rfl,wR _ 16 (by omega),NG,bT,bT];have T:=Ab (h.get 0);refine⟨by omega,d1,j,by omega,d2,q,h.NJ 0 kH (news:=[dG d1,dG d2]) (m:=2) rfl rfl (by simp[Value.oneCell',dG]) (by omega) (by omega) λN O A=>?_⟩;rw[bA _ (by omega)];refine L (i+1) N O (t++[d1,d2]) (by omega) (by simp;omega) ?_;unfold dL;rw[kX];exact A
 exact loop b.length 0 _ e [] (by omega) rfl z
def hg.ln{s:dz}(h:hg 100 s)(c:0<=s.kind/\s.kind<=5):o9 s:=⟨c,h.k.2.1,h.k.2.2,⟨h.p.2,by have:=h.p.1;omega⟩,⟨h.l.2,by have:=h.l.1;omega⟩,⟨h.h.2,by have:=h.h.1;omega⟩,by have:=h.t;omega⟩
def LO{s:dz}{i aD:Int}(h:gp s i aD=0):0<=s.kind/\s.kind<=5:=by refine Decidable.by_contra λc=>?_;rw[vx (by omega)]at h;omega
def I8:∀{l:List dz} {i:Int},ji l i=0->∀s∈l,0<=s.kind/\s.kind<=5
 |[],_,_,s,d=>by cases d
 |a::r,i,c,s,d=>by
  by_cases h:a.kind=4
  .rw [BU h]at c;omega
  by_cases e:gp a i 0=0
  .rw [BW h e]at c;rcases ay.1 d with rfl|d
   .exact LO e
   .exact I8 c s d
  .rw [BV h e]at c;exact absurd c e
def LV:∀{l:List dz} {i aD:Int},k2 l i aD=0->∀s∈l,0<=s.kind/\s.kind<=5
 |[],_,_,_,s,d=>by cases d
 |a::r,i,aD,c,s,d=>by
  unfold k2 at c;by_cases e:gp a i aD=0
  .rw [aq (by omega)]at c;rcases ay.1 d with rfl|d
   .exact LO e
   .exact LV c s d
  .rw [aA e]at c;exact absurd c e
def RY{s:dz}(h:hg 100 s):(fE s).length<=10000:=by have e:=lF h.p.2;have j:=lF h.h.2;have n:=lF h.l.2;have q:=h.p.1;have u:=h.h.1;have w:=h.l.1;have x:=Dq s;have y:=h.t;have z:=E1 s.kind;have c:=nZ h.k.2.1;have d:=nZ h.k.2.2;unfold fE uv;simp only[cC,e8,hZ];omega
def RZ{ds:List Sp}(h:fK 100 ds):((dE ds).flatMap fE).length<=1000000:=by
 have:∀l:List Sp,(∀c∈l,hg 100 c.x)->((dE l).flatMap fE).length<=10000 *l.length:=by
  intro l;induction l with
  |nil=>simp
  |cons c l q=>
   intro e;have d:=q λj n=>e j (eb _ n);have k:=RY (e c (List.mem_cons_self ..));simp only[dE,List.map_cons,dT,cC,e8]at d ⊢;omega
 have d:=this ds h.2;have k:=h.1;omega
def nP.Qk{d:Nx}(h:nP 3 d):(gh d).length<=5000:=by have W:=h.wd;have B:=h.sp.kl;have D:=h.tl;have e:=e2 _ W.op;have j:=rM _ W.ks;have k:=e2 _ W.n;have q:=e2 _ W.m;have w:=hS d.u.toNat (by have:=W.u;omega);have x:=e2 _ W.sk;have y:=e2 _ W.sn;have z:=e2 _ W.sx;have A:=hS d.kids.length (by omega);have c:=hS (bl d.tx).length (by rw[eS];omega);have E:=eS d.tx;unfold gh kb kI;simp only[cC];omega
def P'{x:Lx}(c:j4 100 x):(kJ (xs x.gl)).length<=600000:=by
 have h:=yh (g:=xs x.gl) λd e=>(c.g.2 d e).Qk;have j:=c.g.1;have k:=e2 ((xs x.gl).length:Int) (by simp[xs];omega);have n:(xs x.gl).length=x.gl.length:=by simp[xs]
 unfold kJ;rw[cC];omega
section
variable {M:Nat->Prop} {w0 w:C} {D:List En} {b1 b7:Nat} {o:J} {t:List UInt8}
def H9{L:List En}{bs:List Nat}(H:Z M w0 w (bs.map En.g++L) D):∀c∈bs,¬∃d∈L,c∈d.fp:=λc j ⟨d,h,k⟩=>by have e:=H.nd;rw[List.flatMap_append,List.nodup_append]at e;exact e.2.2 c (cj.2 ⟨En.g c,dv.2 ⟨c,j,rfl⟩,by simp[En.g]⟩) c (cj.2 ⟨d,h,k⟩) rfl
def J4{bs:List Nat}{s:J}{ps:List (List UInt8)}{K:J->C->Prop}(H:Z M w0 w (bs.map En.g++[dL o t]) D)(j:En.rd s (ps.map h1)∈D)(y:t.length<=10000000000)(u:∀p∈ps,p.length<=100000000)(q:ps.length<=10)(k:∀c d,Z M w0 d (bs.map En.g++[dL c (t++(g2 ps++[10]))]) D->K c d):cV bs V r1 #[o.v,s.v] w λr d=>∃a:J,r=U a.v/\K a d:=
 ⟨_,H9 H,JW H.part j y u q λc z e=>⟨e.fr,c,rfl,k c z (H.tP e λh n A x=>.inr ⟨h,n,x⟩)⟩⟩
def J5{bs:List Nat}{s:J}{ds:List Sp}{K:J->C->Prop}(H:Z M w0 w (bs.map En.g++[dL o t]) D)(q:gA∈D)(y:fU∈D)(x:En.sp s ds∈D)(k:fK 100 ds)(B:∀s∈dE ds,0<=s.kind/\s.kind<=5)(E:t.length<=1000000000)(u:∀c d,Z M w0 d (bs.map En.g++[dL c (t++(dE ds).flatMap fE)]) D->K c d):cV bs V uJ #[o.v,s.v] w λr d=>∃a:J,r=U a.v/\K a d:=
 ⟨_,H9 H,JX H.part q y x (λh j=>(k.2 h j).ln (B _ (dv.2 ⟨h,j,rfl⟩))) k.1 E λc F e=>⟨e.fr,c,rfl,u c F (H.tP e λn z G A=>.inr ⟨n,z,A⟩)⟩⟩
end
def Fl(E:Int)(r:cQ):Prop:=∃t:ByteArray,r=U (.tuple #[.string t,.i E])/\(E≠0->t.size=0)
def RL{x:Lx}(h:gD x=0):ji (dE x.ds) 0=0:=by
 unfold gD at h;rw[aq (by have:=w6 (x:=x) (by unfold gD;exact h);omega)]at h;split at h
 .split at h
  .omega
  .exact h
 .omega
def Tt{w:C}{s t:J}{l:List Lx}{ds:List Sp}(d:hc 100 l)(B:fK 100 ds)(h:hH w s l)(hs:fk w t ds)(hk:dd.P w)(A:o2 w)(hw:fU.P w):ah V uI #[.agg #[s.v,t.v]] w λr w'=>Fl (iW l (dE ds)) r/\aj w w':=by
 have aI:=d.1;have hn:=h.n;refine qq.aB _ _ w _ ((bN (w:=w) [dw s l,.sp t ds,dd,gA,fU] (by
  intro z h';simp only[ay,aW,a3]at h';rcases h' with rfl|rfl|rfl|rfl|rfl
  .exact e5.2 h
  .exact dp.2 hs
  .exact hk
  .exact A
  .exact hw)).aN λj w1 E=>E.ax (BH d B (e5.1 (E.getD 0)) (dp.1 (E.getD 1)) (E.getD 2)) ?_)
 rintro _ w2 rfl H2;refine⟨_,rfl,cD (λu=>⟨⟨_,rfl,λ_=>rfl⟩,H2.fr⟩) λu=>?_⟩;have hv:jh l=0:=by
  unfold iW at u;split at u
  .exact u
  .omega
 have aw:k2 (dE ds) 0 (l.length:Int)=0:=by unfold iW at u;rw[aq (by omega)]at u;exact u
 have loop:∀(k i:Nat) (o:J) (N:C) (b:List UInt8),i+k=l.length->b.length+5000000 *k<=500000000->Z F0 w N [.g j,dL o b] [dw s l,.sp t ds,dd,gA,fU]->
   qq.aH j s t o s ((s.n:Nat):Int) (i:Int) N λr w'=>Fl (iW l (dE ds)) r/\aj w w':=by
  intro k;induction k with
  |zero=>
   intro i o N b hi hl F;refine qq.bD _ _ _ _ _ _ _ _ _ (bb (a2 (by omega)) ?_);refine J5 (bs:=[j]) F (by simp) (by simp) (by simp) B (LV aw) (by omega) λs' aF G=>?_;exact⟨_,lk (aG.fR (G.get 1)),⟨_,by rw[u],λh=>absurd u h⟩,G.fr⟩
  |succ k ih=>
   intro i o N b hi hl F;have ar:=e5.1 (F.getD 0);have q:l[i]? =some l[i]:=a9 (by omega);generalize l[i]=x at q;have K:=aE q;have e:=d.2 x K;have hT:=xg e.g.2;have hz:∀D∈xs x.gl,(gh D).length<=1000000:=λD B=>(e.g.2 D B).small (by omega);have ai:=BN hv x K;have aJ:=P' e;have lt:=λ{w} (H:hH w s l)=>H.2 x K;refine qq.bD _ _ _ _ _ _ _ _ _ (a8 (a0 (by omega)) ⟨by omega,by omega,ar.get q λp _ I=>?_⟩);rw[bT];refine⟨_,_,_,_,I.c0,I.c1,I.c2,I.c3,F.aN λy aF G=>G.ak λw7 T=>T.jF (L6 (lt (e5.1 (T.getD 0))).1 (T.getD 2) (λ_ D B=>(hT D B).1) hz) ?_⟩;rintro _ w8 ⟨t26,rfl,Y⟩ _ au;obtain⟨Y,hf⟩:=Y (w6 ai);have H8:=au.rd (.rd t26 ((kJ (xs x.gl)).map dG)) Y.rd (kZ hf);refine⟨_,_,rfl,H8.ak λw9 W=>W.ax (u0 (lt (e5.1 (W.getD 0))).2.1 e.h.2 (by have:=e.h.1;omega) (W.getD 3)) ?_⟩;rintro _ aL rfl O;refine⟨_,rfl,O.ax (u0 (lt (e5.1 (O.getD 0))).2.2.1 e.c.2 (by have:=e.c.1;omega) (O.getD 3)) ?_⟩;rintro _ az rfl ab;refine⟨_,rfl,ab.ax (Tu (show Bytes az t26 (kJ (xs x.gl))from ab.getD 5) (by omega)) ?_⟩;rintro _ M ⟨q,rfl,aK⟩ an;have l1:=lF e.h.2;have l2:=lF e.c.2;have m1:=e.h.1;have m2:=e.c.1;refine⟨_,rfl,an.cB (n:=4) (sz:=1) (cs:=[[98,101,103,105,110],eN x.hy,eN x.cl,q].map h1) rfl (by decide) λam ac=>?_⟩;have Q:=ac.freeze 3 (.rd ⟨some (ag M.heap.size),4,4⟩ ([[98,101,103,105,110],eN x.hy,eN x.cl,q].map h1)) rfl (aG.fR (ac.get 3)) λb d=>iX d;have Q:Z F0 w am [.g j,dL o b,.g y] ([dw s l,.sp t ds,dd,gA,fU]++[.rd t26 ((kJ (xs x.gl)).map dG)]++[.rd ⟨some (ag M.heap.size),4,4⟩ ([[98,101,103,105,110],eN x.hy,eN x.cl,q].map h1)]):=Q;have ao:Z F0 w am ([j,y].map En.g++[dL o b]) ([dw s l,.sp t ds,dd,gA,fU]++[.rd t26 ((kJ (xs x.gl)).map dG)]++[.rd ⟨some (ag M.heap.size),4,4⟩ ([[98,101,103,105,110],eN x.hy,eN x.cl,q].map h1)]):=Q.perm (.cons _ (.swap _ _ []));refine J4 (bs:=[j,y]) (s:=⟨some (ag M.heap.size),4,4⟩) (ps:=[[98,101,103,105,110],eN x.hy,eN x.cl,q]) (o:=o) (t:=b) ao (ef _ (cO.2 rfl)) (by omega) (λp L=>?_) (by simp) λs' aA ad=>?_
   .simp only[ay,aW,a3]at L;rcases L with rfl|rfl|rfl|rfl
    .decide
    .omega
    .omega
    .omega
   have j1:(g2 [[98,101,103,105,110],eN x.hy,eN x.cl,q]++[10]).length<=1300000:=by simp only[g2,cC,e8,hZ];omega
   generalize g2 [[98,101,103,105,110],eN x.hy,eN x.cl,q]++[10]=line1 at j1 ad;have av:Z F0 w aA ([j,y].map En.g++[dL s' (b++line1)]) [.sp x.m.s x.ds,dw s l,.sp t ds,dd,gA,fU]:=ad.kR _ λz A=>by
    have al:e6 x∈En.bh 4 s ((l.map Lx.m).flatMap Lm.cs)::l.map e6:=eb _ (dv.2 ⟨x,K,rfl⟩);rcases ay.1 A with rfl|A
    .exact ⟨λh=>(Jb (x:=x) (by simp)).1 _ (h (dw s l) (by simp) (e6 x) al),λb d=>⟨dw s l,by simp,gw.2 ⟨e6 x,al,(Jb (x:=x) (by simp)).2 b d⟩⟩⟩
    .have:z∈[dw s l,.sp t ds,dd,gA,fU]++[En.rd t26 ((kJ (xs x.gl)).map dG)]:=bS _ A;exact⟨λh=>h z (bS _ this),λb d=>⟨z,bS _ this,d⟩⟩
   have j2:=RZ e.s;refine J5 (bs:=[j,y]) av (by simp) (by simp) (by simp) e.s (I8 (RL ai)) (by simp only[cC];omega) λs2 aa ae=>?_;generalize(dE x.ds).flatMap fE=line2 at j2 ae;refine ae.cB (n:=1) (sz:=1) (cs:=[[101,110,100]].map h1) rfl (by decide) λaC af=>?_;have S:=af.freeze 3 (.rd ⟨some (ag aa.heap.size),1,1⟩ ([[101,110,100]].map h1)) rfl (aG.fR (af.get 3)) λb d=>iX d;have S:Z F0 w aC ([j,y].map En.g++[dL s2 (b++line1++line2)]) ([.sp x.m.s x.ds,dw s l,.sp t ds,dd,gA,fU]++[.rd ⟨some (ag aa.heap.size),1,1⟩ ([[101,110,100]].map h1)]):=S;refine J4 (bs:=[j,y]) (s:=⟨some (ag aa.heap.size),1,1⟩) (ps:=[[101,110,100]]) (o:=s2) (t:=b++line1++line2) S (ef _ (cO.2 rfl)) (by simp only[cC];omega) (λp L=>by rw[cO.1 L];decide) (by simp) λs3 aD ap=>?_;rw[bA _ (by omega)];refine ih (i+1) s3 aD (b++line1++line2++(g2 [[101,110,100]]++[10])) (by omega) (by simp only[g2,cC,e8,hZ];omega) ((ap.ik [true,false,true]).kR _ λz A=>⟨λh=>h z ?_,λb d=>⟨z,?_,d⟩⟩);all_goals exact bS _ (eb _ A)
 have H3:Z F0 w w2 [.g j,dL ⟨none,0,0⟩ []] [dw s l,.sp t ds,dd,gA,fU]:=H2.gP db 1;exact loop l.length 0 _ w2 [] (by omega) (by simp;omega) H3
abbrev I2:ByteArray:=av #[114,101,115,111,108,118,101,32,48,32,48,32,45,32,40,41,32,40,48,32,50,41,32,40,45,51,32,52,41,10]
namespace Hi
noncomputable abbrev X:Fx:=⟨V,Tryz.f12,[],[1,2]⟩
abbrev P0:Ps:=[(3,.v [.st]),(4,.v [.I]),(5,.v [.st])]
abbrev aS(t3:ByteArray)(d:Int)(c:ByteArray)(w:C)(R:aa):Prop:=
 Y (d==0) (¬(((c.size+c.size:Nat):Int)>IntKind.i64.max)/\¬((((c++c).size+c.size:Nat):Int)>IntKind.i64.max)/\¬(((((c++c)++c).size+I2.size:Nat):Int)>IntKind.i64.max)/\R (U (.bool (t3.toList==(((c++c)++c)++I2).toList))) w) (R (U (.bool false)) w)
noncomputable def aT:=aC X [] (ai [5]) P0 aS
def aB(w:C)(R:aa)(h:aK w (.cells #[.i 0,.i 2] bp) λk=>
 aK k (.cells #[.i (-3),.i 4] bp) λz=>
 aP [] z λc D=>
 loc [c] D λd=>aK d (.cells #[.i 0] bp) λe=>
 aK e (.cells #[.i 1] bp) λx=>
 aP [c] x λj y=>
 loc [c,j] y λn=>aK n (.cells #[.i 0,.i (-1),.i 0,.slice (some (nb d)) 1 1,.s0,.slice (some (nb e)) 1 1,.slice none 0 0,.i 0,.i (-1),.i 0,.slice (some (nb d)) 1 1,.s0,.slice (some (nb e)) 1 1,.slice none 0 0,.i 0,.i (-1),.i 0,.slice (some (nb d)) 1 1,.s0,.slice (some (nb e)) 1 1,.slice none 0 0,.i 5,.i 0,.i 0,.slice none 0 0,.s0,.slice (some (nb k)) 2 2,.slice (some (nb w)) 2 2] dk) λA=>
 Ay [c,j] uI #[.agg #[.slice none 0 0,.slice (some (nb n)) 4 4]] A λq u B=>aS q u (av #[103,97,116,101,32,45,49,32,48,32,45,32,40,48,41,32,40,41,32,40,49,41,10]) B R):ah V B6 #[] w R:=aM X [aT] h
end Hi
namespace kK
noncomputable abbrev X:Fx:=⟨V,Tryz.f3,[(3,ls [0,1,2,3,4,5,6,7,8])],[11,12]⟩
abbrev P0:Ps:=[(13,.v [.s]),(14,.v [.I])]
def aH(c:J)(d:Int)(w:C)(R:aa):Prop:=bz P0 0 (X.Sem (ai [0,1,1,1,4])) c d w R
noncomputable def az:=bK X (ai [0,1,1,1,4]) P0 aH
abbrev P1:Ps:=[]
abbrev aZ(w:C)(R:aa):Prop:=
 R (U (.bool false)) w
noncomputable def aX:=aC X [az] (ai [0,1,1,1,3,2,1,2,1,1,4]) P1 aZ
abbrev P2:Ps:=[(13,.v [.s]),(14,.v [.I]),(20,.v [.I])]
def fW(c:J)(d e:Int)(w:C)(R:aa):Prop:=bz P2 0 (X.Sem (ai [0,1,5,2,1,2,1,1,4])) c d e w R
noncomputable def i':=bK X (ai [0,1,5,2,1,2,1,1,4]) P2 fW
abbrev cq(w:C)(R:aa):Prop:=
 R (U (.bool false)) w
noncomputable def bq:=aC X [i',aX,az] (ai [0,1,2,2,1,2,5,2,1,2,1,1,4]) P1 cq
abbrev eC(c:J)(d e:Int)(w:C)(R:aa):Prop:=
 fW c d (ad .i64 (e+1)) w R
noncomputable def cw:=aC X [bq,i',aX,az] (ai [2,2,5,2,1,2,1,1,4]) P2 eC
def l7:∀(e:J) (c d:Int) (w:C) (R:aa) (h:aw e c λL=>∃t98:J,w.cell? ((L.add (ae c *2)).add 0)=some (t98.v)/\
 Y (af (d<((t98.n:Nat):Int))) (aw e c λu=>∃t108:J,w.cell? ((u.add (ae c *2)).add 0)=some (t108.v)/\
 aw t108 d λx=>pX w (x.add (ae d *4)) λy z A B=>GA CH #[.agg #[y.v,z.v,A.v,B.v]] w λD q k=>aw e c λE=>∃t120:J,k.cell? ((E.add (ae c *2)).add 0)=some (t120.v)/\
 aw t120 d λF=>pX k (F.add (ae d *4)) λG H I K=>en xD #[.agg #[G.v,H.v,I.v,K.v]] k λt124 j=>Y (q !=t124) (cq j R) (Y (q !=0) (Y (af (((D.n:Nat):Int)>0)) (cq j R) (eC e c d j R)) (eC e c d j R))) (aH e (ad .i64 (c+1)) w R)),fW e c d w R:=mp (bL (X:=X) [cw,bq,i',aX,az] (ai [0,1,5,2,1,2,1,1,4]) P2)
abbrev aY(c:J)(d:Int)(w:C)(R:aa):Prop:=
 fW c d 0 w R
noncomputable def a1:=aC X [cw,bq,i',aX,az] (ai [4,2,1,2,1,1,4]) P0 aY
def bD:∀(d:J) (c:Int) (w:C) (R:aa) (h:Y (af (c<3)) (aw d c λy=>rV w (y.add (ae c *2)) λz A=>en Cw #[.agg #[z.v,A.v]] w λt47 j=>aw d c λB=>rV j (B.add (ae c *2)) λD E=>GA CG #[.agg #[D.v,E.v]] j λF G k=>aw d c λH=>rV k (H.add (ae c *2)) λI K=>Pc uI #[.agg #[I.v,K.v]] k λL M q=>aw d c λN=>rV q (N.add (ae c *2)) λO P=>en ow #[.agg #[O.v,P.v]] q λt68 e=>Y (t68 !=t47) (aZ e R) (Y (G !=t47) (aZ e R) (Y (M !=t47) (aZ e R) (Y (t47 !=0) (Y (af ((ad .i64 (((F.n:Nat):Int)+((L.size:Nat):Int)))>0)) (aZ e R) (aY d c e R)) (aY d c e R))))) (∃(t135:J) (u:C),Sem.run V (Instr.makeSlice ju (.i 4097) (.i 4097)) w=.ok (t135.v) u/\en ow #[.agg #[t135.v,.slice none 0 0]] u λt137 x=>Y (t137==4) (gL B6 #[] x λt140 Q=>R (U (.bool t140)) Q) (R (U (.bool false)) x))),aH d c w R:=mp (bL (X:=X) [a1,cw,bq,i',aX,az] (ai [0,1,1,1,4]) P0)
def aB(n m1:J)(d j e:Int)(w:C)(R:aa)(h:Pd Cv #[n.v,m1.v,.i 7] w λq u D=>aP [] D λc F=>
 loc [c] F λG=>tF [c] uH #[.agg #[q.v,u.v],.i d,.i j,.i e] G λx y H=>aP [c] H λk I=>
 loc [c,k] I λK=>tF [c,k] uH #[.agg #[x.v,y.v],.i e,.i d,.i j] K λA B z=>aK z (.cells #[q.v,u.v,x.v,y.v,A.v,B.v] ec) λE=>
 aH ⟨some (nb z),3,3⟩ 0 E R):ah V B5 #[n.v,m1.v,.i d,.i j,.i e] w R:=aM X [a1,cw,bq,i',aX,az] h
end kK
def lG:dz:=⟨0,-1,0,[0],ba [],[1],[]⟩
def uw:dz:=⟨5,0,0,[],ba [],[-3,4],[0,2]⟩
def tN{n:Int}(h:0<=n)(c:n<10):cr n=[gY n.natAbs]:=by unfold cr;rw[aq (by omega),m7 (by omega)]
def G7{n:Int}(h:n<0)(c:-10<n):cr n=[45,gY n.natAbs]:=by unfold cr;rw[aA h,m7 (by omega)]
def R5:fE lG=[103,97,116,101,32,45,49,32,48,32,45,32,40,48,41,32,40,41,32,40,49,41,10]:=by have d:cr (-1)=[45,49]:=G7 (by decide) (by decide);have c:cr 0=[48]:=tN (by decide) (by decide);have e:cr 1=[49]:=tN (by decide) (by decide);show(lY 0++32::(cr (-1)++32::(cr 0++32::([45]++32::((40::cr 0++[41])++32::([40,41]++32::(40::cr 1++[41])))))))++[10]=_;rw[d,c,e];rfl
def R6:fE uw=[114,101,115,111,108,118,101,32,48,32,48,32,45,32,40,41,32,40,48,32,50,41,32,40,45,51,32,52,41,10]:=by have e:cr (-3)=[45,51]:=G7 (by decide) (by decide);have c:cr 0=[48]:=tN (by decide) (by decide);have d:cr 2=[50]:=tN (by decide) (by decide);have h:cr 4=[52]:=tN (by decide) (by decide);show(lY 5++32::(cr 0++32::(cr 0++32::([45]++32::([40,41]++32::((40::(cr 0++32::cr 2)++[41])++32::(40::(cr (-3)++32::cr 4)++[41])))))))++[10]=_;rw[e,c,d,h];rfl
def R9:u1 [lG,lG,lG,uw]=0:=by decide
def xa:o9 lG/\o9 uw:=by constructor<;>exact⟨by decide,by decide,by decide,⟨by decide,by decide⟩,⟨by decide,by decide⟩,⟨by decide,by decide⟩,by decide⟩
def R7(a l:List UInt8):ba (a++(a++(a++(l++[]))))=ba a++ba a++ba a++ba l:=by simp only[dF,kV,jU]
def OM{w:C}(Q:o2 w)(T:fU.P w):ah V B6 #[] w λr w'=>r=U (.bool true)/\aj w w':=by
 refine Hi.aB w _ ((bN (w:=w) [gA,fU] (by
  intro B D;simp only[ay,aW,a3]at D;rcases D with rfl|rfl
  .exact Q
  .exact T)).cB (n:=2) (sz:=1) (cs:=[.i 0,.i 2]) rfl (by decide) λE F=>F.cB (n:=2) (sz:=1) (cs:=[.i (-3),.i 4]) rfl (by decide) λw2 K=>K.aN λb1 w3 N=>N.ak λq G=>G.cB (n:=1) (sz:=1) (cs:=[.i 0]) rfl (by decide) λu H=>H.cB (n:=1) (sz:=1) (cs:=[.i 1]) rfl (by decide) λab I=>I.aN λb2 ac J=>J.ak λaa L=>?_)
 let h:List Sp:=[⟨lG,⟨some (ag q.heap.size),1,1⟩,⟨some (ag u.heap.size),1,1⟩,⟨none,0,0⟩⟩,⟨lG,⟨some (ag q.heap.size),1,1⟩,⟨some (ag u.heap.size),1,1⟩,⟨none,0,0⟩⟩,⟨lG,⟨some (ag q.heap.size),1,1⟩,⟨some (ag u.heap.size),1,1⟩,⟨none,0,0⟩⟩,⟨uw,⟨none,0,0⟩,⟨some (ag E.heap.size),2,2⟩,⟨some (ag w.heap.size),2,2⟩⟩]
 refine L.ny λd _ e W=>?_;have Y:bo d ⟨some (ag w.heap.size),2,2⟩ [0,2]:=aG.fR (e.get 0);have Z:bo d ⟨some (ag E.heap.size),2,2⟩ [-3,4]:=aG.fR (e.get 1);have z:bo d ⟨some (ag q.heap.size),1,1⟩ [0]:=aG.fR (e.get 3);have A:bo d ⟨some (ag u.heap.size),1,1⟩ [1]:=aG.fR (e.get 4);have k:bo d ⟨none,0,0⟩ []:=Rd.nil d;have sp:fk d ⟨some (ag aa.heap.size),4,4⟩ h:=⟨lP (cs:=h.flatMap Sp.c) W rfl,λy j=>by
  simp only[h,ay,aW,a3]at j;rcases j with rfl|rfl|rfl|rfl
  .exact ⟨z,A,k⟩
  .exact ⟨z,A,k⟩
  .exact ⟨z,A,k⟩
  .exact ⟨k,Z,Y⟩⟩
 have S:∀y∈h,o9 y.x:=λy j=>by
  simp only[h,ay,aW,a3]at j;rcases j with rfl|rfl|rfl|rfl
  .exact xa.1
  .exact xa.1
  .exact xa.1
  .exact xa.2
 have O:=Ts (w:=d) sp S (Nat.le_of_ble_eq_true rfl) (e.rd gA (.head _)) (e.rd fU (.tail _ (.head _))) R9;refine e.ax O ?_;rintro _ ad rfl M;refine⟨_,_,rfl,a8 rfl ⟨by decide,by decide,by decide,?_,M.fr⟩⟩;have B:(dE h).flatMap fE=fE lG++(fE lG++(fE lG++(fE uw++[]))):=rfl;rw[B,R5,R6];exact congrArg (λb=>Ending.returned (.bool b)) (beq_iff_eq.2 (congrArg ByteArray.toList (R7 [103,97,116,101,32,45,49,32,48,32,45,32,40,48,41,32,40,41,32,40,49,41,10] [114,101,115,111,108,118,101,32,48,32,48,32,45,32,40,41,32,40,48,32,50,41,32,40,45,51,32,52,41,10])))
structure Pf where
 aD:J
 st:J
 ys:List Lx
 ds:List Sp
def Pf.c(p:Pf):List ab:=[p.aD.v,p.st.v]
abbrev Pf.E(p:Pf):Int:=iW p.ys (dE p.ds)
structure Fk(p:Pf):Prop where
 l:hc 100 p.ys
 d:fK 100 p.ds
abbrev oD(all:J)(ps:List Pf):List En:=.bh 2 all (ps.flatMap Pf.c)::dd::gA::fU::ps.flatMap λp=>[dw p.aD p.ys,.sp p.st p.ds]
section
variable {w0 w:C} {all:J} {ps:List Pf} {p:Pf} {i:Nat} {R:aa}
def yt(H:Z F0 w0 w [] (oD all ps))(hi:ps[i]? =some p){K:J->J->Prop}(j:K p.aD p.st):aw all (i:Int) λd=>∃a b:J,w.cell? ((d.add (ae (i:Int) *2)).add 0)=some a.v/\w.cell? ((d.add (ae (i:Int) *2)).add 1)=some b.v/\K a b:=by have h:bF 2 w all (ps.flatMap Pf.c):=H.getD 0;have k:=h.1;rw[nc Pf.c 2 (λ_=>rfl) ps]at k;have n:=(dh.1 hi).1;exact⟨by omega,by omega,eY.elem (f:=Pf.c) (sz:=2) (λ_=>rfl) (by omega) h.2.2 hi λd _ e=>⟨_,_,e 0 _ rfl,e 1 _ rfl,j⟩⟩
def yu(H:Z F0 w0 w [] (oD all ps))(hi:ps[i]? =some p){K:J->Prop}(h:K p.aD):aw all (i:Int) λe=>∃a:J,w.cell? ((e.add (ae (i:Int) *2)).add 0)=some a.v/\K a:=by have d:bF 2 w all (ps.flatMap Pf.c):=H.getD 0;have k:=d.1;rw[nc Pf.c 2 (λ_=>rfl) ps]at k;have n:=(dh.1 hi).1;exact⟨by omega,by omega,eY.elem (f:=Pf.c) (sz:=2) (λ_=>rfl) (by omega) d.2.2 hi λe _ j=>⟨_,j 0 _ rfl,h⟩⟩
def lM(H:Z F0 w0 w [] (oD all ps))(hi:ps[i]? =some p):hH w p.aD p.ys/\fk w p.st p.ds:=by have d:∀c∈[dw p.aD p.ys,.sp p.st p.ds],c∈oD all ps:=λc e=>eb _ (eb _ (eb _ (eb _ (cj.2 ⟨p,aE hi,e⟩))));exact⟨e5.1 (H.rd _ (d _ (by simp))),dp.1 (H.rd (.sp p.st p.ds) (d _ (by simp)))⟩
def TI(hi:ps[i]? =some p)(z:Fk p)(G:∀A,Z F0 w0 A [] (oD all ps)->kK.aH all (ad .i64 ((i:Int)+1)) A R):
  ∀(m k:Nat) (w:C),k+m=p.ys.length->Z F0 w0 w [] (oD all ps)->kK.fW all (i:Int) (k:Int) w R:=by
 have M:=z.l.1;intro m;induction m with
 |zero=>
  intro k w H c;have I:=(lM c hi).1.n;exact kK.l7 _ _ _ _ _ (yu c hi (bb (a2 (by omega)) (G w c)))
 |succ m K=>
  intro k w H c;have j:=lM c hi;have I:=j.1.n;have e:p.ys[k]? =some p.ys[k]:=a9 (by omega);generalize p.ys[k]=x at e;have q:=aE e;have B:=z.l.2 x q;refine kK.l7 _ _ _ _ _ (yu c hi (a8 (a0 (by omega)) (yu c hi ⟨by omega,by omega,j.1.get e λL _ d=>?_⟩)));rw[bT];refine⟨_,_,_,_,d.c0,d.c1,d.c2,d.c3,c.call (Tq B (j.1.2 x q) (c.getD 1)) ?_⟩;rintro _ N ⟨s,rfl,J⟩ h;have y:=lM h hi;refine⟨_,_,rfl,yu h hi ⟨by omega,by omega,y.1.get e λL _ d=>?_⟩⟩;refine⟨_,_,_,_,d.c0,d.c1,d.c2,d.c3,h.call (F1 B (y.1.2 x q)) ?_⟩;rintro _ u rfl D;have next:kK.eC all (i:Int) (k:Int) u R:=by show kK.fW all (i:Int) (ad .i64 ((k:Int)+1)) u R;rw[bA _ (by omega)];exact K (k+1) u (by omega) D
  exact⟨_,rfl,cD (λE=>absurd rfl E) λ_=>cD (λF=>bb (a2 (by rw[J F];omega)) next) λ_=>next⟩
def Rl(s:J)(d:s.n=4097)(w:C):ah V ow #[.agg #[s.v,(⟨none,0,0⟩:J).v]] w (ej w 4):=
 lN.aB _ _ w _ ((bN (w:=w) [] (by simp)).aN λb e c=>a8 (a0 (by rw[d];decide)) ⟨rfl,c.fr⟩)
def TH(F:∀u,aj w0 u->R (U (.bool true)) u)(N:ps.length=3)(G:∀p∈ps,Fk p):∀(m i:Nat) (w:C),i+m=3->Z F0 w0 w [] (oD all ps)->kK.aH all (i:Int) w R:=by
 intro m;induction m with
 |zero=>
  intro i w H n;refine kK.bD _ _ _ _ (bb (a2 (by omega)) ?_);obtain⟨x,L,_,E⟩:=Sc (t:=ju) AW w 4097 (by omega);have j:=n.ct E;refine⟨⟨some (ag w.heap.size),4097,4097⟩,x,L,j.call (Rl ⟨some (ag w.heap.size),4097,4097⟩ rfl x) ?_⟩;rintro _ M rfl e;refine⟨_,rfl,a8 rfl (e.call (OM (e.getD 2) (e.getD 3)) ?_)⟩;rintro _ z rfl k;exact⟨_,rfl,F z k.fr⟩
 |succ m K=>
  intro i w H n;obtain⟨p,c⟩:∃p,ps[i]? =some p:=⟨ps[i],a9 (by omega)⟩;have h:=G p (aE c);refine kK.bD _ _ _ _ (a8 (a0 (by omega)) (yt n c (n.call (Oo h.l h.d (lM n c).1 (lM n c).2) ?_)));rintro _ x rfl j;refine⟨_,rfl,yt j c (j.call (Tp h.l h.d (lM j c).1 (lM j c).2 (j.getD 1)) ?_)⟩;rintro _ M ⟨s,rfl,I⟩ e;refine⟨_,_,rfl,yt e c (e.call (Tt h.l h.d (lM e c).1 (lM e c).2 (e.getD 1) (e.getD 2) (e.getD 3)) ?_)⟩;rintro _ z ⟨t,rfl,J⟩ k;refine⟨_,_,rfl,yt k c (k.call (BH h.l h.d (lM k c).1 (lM k c).2 (k.getD 1)) ?_)⟩;rintro _ A rfl D;have next:kK.aY all (i:Int) A R:=TI c h (λu B=>by rw[bA _ (by omega)];exact K (i+1) u (by omega) B) p.ys.length 0 A (by omega) D
  refine⟨_,rfl,cD (λq=>absurd rfl q) λ_=>cD (λq=>absurd rfl q) λ_=>cD (λq=>absurd rfl q) λ_=>cD (λy=>bb (a2 ?_) next) λ_=>next⟩;rw[I y,J y];decide
end
abbrev H5(aD st:J)(c:List Lx)(ds:List Sp):List Nat:=(dw aD c).fp++(En.sp st ds).fp
def F4{n:Nat}(E:n<=80){w:C}{aD st:J}{d:List Lx}{ds:List Sp}{e q h:Int}(k:hH w aD d)(u:fk w st ds)(z:hc n d)(B:∀G∈d,1<=G.gl.length)(A:fK n ds)(y:bn e)(D:bn q)(F:bn h):
  ah V uH #[.agg #[aD.v,st.v],.i e,.i q,.i h] w λr x=>lh n w (H5 aD st d ds) r x/\aj w x:=by
 refine Ol E (λH j b c=>?_) (λb c=>?_) k u z B A y D F
 .simp only[ay,aW,a3]at j;rcases j with rfl|rfl
  .exact bS _ c
  .exact ef _ c
 .rcases a6.1 c with c|c
  .exact (dw aD d).lt w (e5.2 k) b c
  .exact (En.sp st ds).lt w (dp.2 u) b c
def Dx{D:List En}{w:C}{e:En}(h:e∈D):((∀c∈D,c.P w)->e.P w)/\∀b∈e.fp,∃c∈D,b∈c.fp:=⟨λj=>j e h,λb d=>⟨e,h,d⟩⟩
def Ta{w:C}{o:Obj}{K:C->Prop}(h:∀c,aj w c->c.heap[w.heap.size]? =some o->K c):aK w o K:=h _ (Fr.alloc _ _ _) (kM w o)
def Rs{w0 w c:C}{d:List Nat}(f:aj w c):vX w0 d w c:=λb _ e=>f.cA b e id
def TB{w:C}{N m1:J}{xs ms:List Int}{ab ae ac:Int}(hx:∀S∈xs,bn S)(ap:xs.length<=9223372036854775807)(hy:∀S∈ms,bn S)(am:ms.length<=9223372036854775807)(hl:bo w N xs)(hm:bo w m1 ms)(ha:bn ab)(q:bn ae)(ad:bn ac)(hk:dd.P w)(e:o2 w)(hw:fU.P w):
  ah V B5 #[N.v,m1.v,.i ab,.i ae,.i ac] w λr w'=>r=U (.bool true)/\aj w w':=by
 have H:Z F0 w w [] [dd,gA,fU,.rd N (xs.map bd),.rd m1 (ms.map bd)]:=bN _ (by
  intro h k;simp only[ay,aW,a3]at k;rcases k with rfl|rfl|rfl|rfl|rfl
  .exact hk
  .exact e
  .exact hw
  .exact hl
  .exact hm)
 refine kK.aB _ _ _ _ _ w _ ((Oj hx ap hy am (cm:=7) (by omega) (by simp) (by simp) H).mono ?_);rintro _ G ⟨u,st,x,j,rfl,I,yb,yg,_,db,dl⟩;have hd:fK 40 j:=⟨by omega,db⟩;have H2:=(I.freeze 1 (.bh 7 st (j.flatMap Sp.c)) rfl (aG.bh (I.get 1)) λb d=>u' d).freeze 0 (.bh 4 u ((x.map Lx.m).flatMap Lm.cs)) rfl (aG.bh (I.get 0)) λb d=>u' d;have H3:Z F0 w G [] [dd,gA,fU,dw u x,.sp st j]:=(H2.take 0).kR _ λh k=>by
  simp only[ay,aW,a3]at k;rcases k with rfl|rfl|rfl|rfl|rfl
  .exact Dx (by simp)
  .exact Dx (by simp)
  .exact Dx (by simp)
  .refine ⟨λq h e=>q h ?_,λb d=>?_⟩
   .rcases ay.1 e with rfl|e
    .simp
    .simp [e]
   .obtain ⟨h,e,d⟩:=gw.1 d;refine⟨h,?_,d⟩;rcases ay.1 e with rfl|e
    .simp
    .simp [e]
  .refine ⟨λq h e=>?_,λb d=>?_⟩
   .rcases ay.1 e with rfl|e
    .exact q _ (by simp)
    .exact q (cP j) (by simp) h e
   .obtain ⟨h,e,d⟩:=gw.1 d;rcases ay.1 e with rfl|e
    .exact ⟨_,by simp,d⟩
    .exact ⟨cP j,by simp,gw.2 ⟨h,e,d⟩⟩
 refine⟨_,_,rfl,H3.aN λD w2 G2=>G2.ak λO z=>h7 ((F4 (n:=40) (by omega) (e5.1 (z.getD 3)) (dp.1 (z.getD 4)) yb yg hd ha q ad).mono ?_)⟩;rintro _ w5 ⟨⟨s1,t1,zs,es,rfl,zb,eb,zg,k1⟩,f5⟩;have G5:=z.ct f5;refine⟨f5,_,_,rfl,λL w6 al an E=>?_⟩;have G6:Z F0 w w6 ([.g D]++[.g L]) [dd,gA,fU,dw u x,.sp st j]:=(G5.aN (bs:=[D]) (K:=λb G=>Z F0 w G ([.g D]++[.g b]) [dd,gA,fU,dw u x,.sp st j]) (λb G H=>H) (by simp)) L w6 al an E;intro Q M;have G9:=G6.ghost M (by simp);have T:vX O (H5 u st x j) w5 Q:=λb d A=>by
  have af:b≠D:=λh=>by
   subst h;have au:b<O.heap.size:=(En.g b).lt O (z.own (.g b) (by simp)) b (by simp[En.g]);rcases d with d|d
   .rcases a6.1 d with d|d
    .exact z.dj (dw u x) (by simp) b d (.g b) (by simp) (by simp[En.g])
    .exact z.dj (.sp st j) (by simp) b d (.g b) (by simp) (by simp[En.g])
   .omega
  have aq:b≠L:=λh=>by omega
  rw[M.cA b (iI A E.size) (by simp[af,aq]),E.cA b A (by simp[af])]
 have Y:=k1 Q T;refine h7 ((F4 (n:=60) (by omega) Y.1 Y.2 zb zg eb ad ha q).mono ?_);rintro _ ar ⟨⟨s2,t2,us,vs,rfl,ub,vb,_,k2⟩,f10⟩;have ai:=G9.ct f10;refine⟨f10,_,_,rfl,Ta λB f11 ao=>?_⟩;have y:=ai.ct f11;have W:=k1 B λb d A=>by have h9:b<Q.heap.size:=iI (iI A E.size) M.size;rw[f11.cA b (iI h9 f10.size) id,f10.cA b h9 id];exact T b d A
 have aa:=k2 B (Rs f11)
 let F:List Pf:=[⟨u,st,x,j⟩,⟨s1,t1,zs,es⟩,⟨s2,t2,us,vs⟩]
 have HF:Z F0 B B [] (oD ⟨some (ag ar.heap.size),3,3⟩ F):=bN _ λh k=>by
  simp only[F,dT,List.flatMap_nil,kV,iF,h0,ay,aW,a3]at k;rcases k with rfl|rfl|rfl|rfl|rfl|rfl|rfl|rfl|rfl|rfl
  .exact lP ao rfl
  .exact y.getD 0
  .exact y.getD 1
  .exact y.getD 2
  .exact y.getD 3
  .exact y.getD 4
  .exact e5.2 W.1
  .exact dp.2 W.2
  .exact e5.2 aa.1
  .exact dp.2 aa.2
 refine TH (ps:=F) (λw' f=>⟨rfl,y.fr.ew f⟩) rfl (λp hp=>?_) 3 0 B rfl HF;simp only[F,ay,aW,a3]at hp;rcases hp with rfl|rfl|rfl
 .exact ⟨yb.le (by omega),hd.le (by omega)⟩
 .exact ⟨zb.le (by omega),eb.le (by omega)⟩
 .exact ⟨ub.le (by omega),vb.le (by omega)⟩
def EX{P:aR}{W:C}{n:String}{g m:Nat}{cs:Array ab}{vs:List ab}(d:P.globalNamed n=some g)(k:W.var? P n=some cs)(e:cs.toList=vs)(j:m=vs.length):Rd W ⟨some (ag g),m,m⟩ vs:=by refine yy j (b' _) (λc=>by cases c) λi v h=>⟨ag g,rfl,?_⟩;rw[show(ag g).add i=⟨g,i,none⟩from Fy g i,World.var?_cell d k i,<-h,<-e,Array.getElem?_toList]
def U4{P:aR}{w:C}{fuel n:Nat}{t e:TypeId}{cs:List ab}{ts:List (List UInt8)}{p:List MemPlace}(E:P.underlying t=some (.array n e))(A:P.underlying e=some .string)(y:P.cellsOf e=1)(H:P.cellsOf t=n)(h:DataW.trod (λ_=>()) P w 0 (λ_=>true) false fuel t cs=some (.agg (ts.map λs=>.lit (.string s)),p)):cs=ts.map h1:=by
 obtain⟨xs,m,rfl,F,I,K,x⟩:=DataW.trod_array E h;have k:xs.map (·.1)=ts.map λs=>(DataW.lit (.string s):DataW Unit):=by have:=congrArg Prod.fst F;simpa using this.symm
 have J:ts.length=n:=by have:=congrArg List.length k;simp at this;omega
 apply List.ext_getElem?;intro i;by_cases B:i<n
 .have d:=x i B;obtain⟨b,j⟩:∃b,xs[i]? =some b:=⟨xs[i]'(by omega),a9 (by omega)⟩;rw[j,y,Nat.mul_one]at d;obtain⟨s,z,rfl,_⟩:=DataW.trod_string A d;have u:cs[i]? =some (.string s):=by have:=congrArg (·[0]?) z;simpa[List.getElem?_take,List.getElem?_drop]using this
  have c:(xs.map (·.1))[i]? =some (DataW.lit (.string s.data.toList):DataW Unit):=by simp[j]
  rw[k]at c;simp only[jk,Option.map_eq_some_iff,DataW.lit.injEq,Lit.string.injEq]at c;obtain⟨G,D,q⟩:=c;rw[u,jk,D];show _=some (Value.string (ba G));rw[q];exact congrArg some (congrArg Value.string (mW s).symm)
 .rw [List.getElem?_eq_none (by omega),List.getElem?_eq_none (by simp;omega)]
abbrev TG:List (String×DataW Unit):=[("math/bits.deBruijn32tab",Rows.laid_math_bits_deBruijn32tab),("math/bits.deBruijn64tab",Rows.laid_math_bits_deBruijn64tab),("internal/strconv.uint64pow10",Rows.laid_internal_strconv_uint64pow10),("enthymeme/term.kidCounts",Rows.laid_enthymeme_term_kidCounts),("enthymeme/proof.words",Rows.laid_enthymeme_proof_words)]
def TJ{W:C}(h:laidMetH V TG W):dd.P W/\o2 W/\fU.P W:=by
 rw[MakeChecks.laidMetH_plain _ _ _ (by kernel_rfl)]at h;refine⟨?_,⟨?_,trivial⟩,?_⟩
 .obtain ⟨g,t,u,fuel,p,c,j,k,q⟩:=Lib.laidMet.reads h (n:="enthymeme/term.kidCounts") (d:=Lib.tabData .i64 w3) (.tail _ (.tail _ (.tail _ (.head _))));obtain rfl:=fV ((show Tryz.prog.globalNamed "enthymeme/term.kidCounts"=some 1 by kernel_rfl).symm.trans c);obtain rfl:=fV ((show(Tryz.prog.globals[1]?).map (·.type)=some Vx by kernel_rfl).symm.trans j);exact EX c k (Lib.cells_of_tab (e:=bp) (n:=35) (by kernel_rfl) (by kernel_rfl) (by kernel_rfl) (by kernel_rfl) q) rfl
 .obtain ⟨g,t,u,fuel,p,c,j,k,q⟩:=Lib.laidMet.reads h (n:="internal/strconv.uint64pow10") (d:=Lib.tabData .u64 yq) (.tail _ (.tail _ (.head _)));obtain rfl:=fV ((show Tryz.prog.globalNamed "internal/strconv.uint64pow10"=some 2 by kernel_rfl).symm.trans c);obtain rfl:=fV ((show(Tryz.prog.globals[2]?).map (·.type)=some Vw by kernel_rfl).symm.trans j);exact EX c k (Lib.cells_of_tab (e:=VB) (n:=20) (by kernel_rfl) (by kernel_rfl) (by kernel_rfl) (by kernel_rfl) q) rfl
 .obtain ⟨g,t,u,fuel,p,c,j,k,q⟩:=Lib.laidMet.reads h (n:="enthymeme/proof.words") (d:=.agg (qK.map λs=>.lit (.string s))) (.tail _ (.tail _ (.tail _ (.tail _ (.head _)))));obtain rfl:=fV ((show Tryz.prog.globalNamed "enthymeme/proof.words"=some 0 by kernel_rfl).symm.trans c);obtain rfl:=fV ((show(Tryz.prog.globals[0]?).map (·.type)=some Vy by kernel_rfl).symm.trans j);exact EX c k (U4 (e:=da) (n:=6) (by kernel_rfl) (by kernel_rfl) (by kernel_rfl) (by kernel_rfl) q) rfl
def proofValid_walk(W:C)(h:laidMetH V [("math/bits.deBruijn32tab",Rows.laid_math_bits_deBruijn32tab),("math/bits.deBruijn64tab",Rows.laid_math_bits_deBruijn64tab),("internal/strconv.uint64pow10",Rows.laid_internal_strconv_uint64pow10),("enthymeme/term.kidCounts",Rows.laid_enthymeme_term_kidCounts),("enthymeme/proof.words",Rows.laid_enthymeme_proof_words)] W)(ls ms:J)(c e d:Int)(w0:ArgNums W ls)(z:ArgNums W ms)(A:bn c)(B:bn e)(D:bn d):
  ah V B5 #[ls.v,ms.v,.i c,.i e,.i d] W λr y=>r=U (.bool true)/\aj W y:=by obtain⟨G,n,E,q⟩:=w0;obtain⟨H,u,F,w⟩:=z;obtain⟨k,j,x⟩:=TJ h;exact TB q (by omega) w (by omega) n u A B D k j x
end Go.Proofs.YthkcmmldhceegaaGreatDoor
