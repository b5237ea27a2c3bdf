import Derived.Test.YthkcmmldhceegaaGreatDoorT3
import Derived.Test.YthkcmmldhceegaaGreatDoorU
import Derived.Test.YthkcmmldhceegaaGreatDoorN0
import Derived.Test.YthkcmmldhceegaaGreatDoorG9
set_option linter.unusedVariables false
set_option linter.defProp false
namespace Go.Proofs.YthkcmmldhceegaaGreatDoor
open Go renaming World->C,Calls->ah,Program->aR,Value->ab,TypeId->aF,Ending->cQ
open Go.IntKind renaming wrap->ad
open _root_.Int renaming toNat->ae,tdiv->bE,tmod->bw,toNat_natCast->bT
open _root_.ByteArray renaming mk->av
open Go.IntWalk renaming i64_in->bf
open _root_.Bool renaming and_eq_true->bC,not_eq_true->i4
open _root_.Nat renaming le_refl->b',le_trans->bB,beq->cv
open _root_.Prod.mk renaming injEq->eX
open _root_.Option.some renaming injEq->fb
open Go.Proofs.Tryz renaming prog->V
open _root_.Decidable renaming decide->af
open Go.Ending renaming returned->U
open List renaming mem_append->a6,mem_cons->ay,not_mem_nil->aW,mem_of_getElem?->aE,getElem?_eq_getElem->a9,getElem?_eq_some_iff->dh,mem_append_left->bS,mem_append_right->ef,mem_flatMap->cj,mem_map->dv,length_append->cC,mem_singleton->cO,flatMap_append->ea,flatMap_cons->dT,nodup_append->gT,length_map->mA,drop_eq_getElem_cons->dZ,getElem?_map->jk,all_eq_true->fF,append_nil->kV,nil_append->h0,cons_append->iF,getElem_mem->yx,map_cons->kY,map_nil->u9,drop_of_length_le->c9
open Go Go.W
def gW(ts:List BL):Nat:=(ts.map λt=>t.length+2).sum
def qp(c:Nat)(a:Rx)(t:BL):(cN c a t).length<=t.length+2/\t.length<=(cN c a t).length:=by
 unfold cN
 grind
def BG(k:Int):∀(ts:List BL) (out:BL),(iP k out ts).length<=out.length+gW ts/\out.length<=(iP k out ts).length
 |[],out=>by simp[iP,gW]
 |t::ts,out=>by
  unfold iP;have c:=BG k ts ((if k=3/\eE (jN out)=true/\eE (gQ t 0)=true then out++[32]else out)++gG k++t);have e:(gG k).length<=1:=by unfold gG;grind
  have j:k=3->(gG k).length=0:=λd=>by unfold gG;grind
  have h:((if k=3/\eE (jN out)=true/\eE (gQ t 0)=true then out++[32]else out):BL).length<=out.length+2 - (gG k).length/\out.length<=((if k=3/\eE (jN out)=true/\eE (gQ t 0)=true then out++[32]else out):BL).length:=by grind
  simp only[cC]at c;have n:gW (t::ts)=t.length+2+gW ts:=by simp[gW]
  omega
mutual
def vR:∀u:Rx,(bj u).length+4<=18 *u.sz
 |.mk c lo h l=>by
  have n:∀k,(dA k).length<=4:=λk=>by unfold dA;grind
  have B:=qM 3 l;have D:=qM 4 l;have A:=qM 0 l;have G:(qg c).length=4:=by unfold qg;grind
  have e:∀d,(jf (dq d l)).length<=gW (dq d l):=λd=>by
   cases dq d l with
   |nil=>simp[jf]
   |cons t j=>simp[jf,gW];omega
  have y:=e 3;have z:=e 4;have x:=e 0;have F:=n lo;have E:=n h;unfold Rx.sz;unfold bj;split
  .grind
  .split
   .simp;omega
   .split
    .grind
    .split
     .grind
     .split
      .grind
      .split
       .grind
       .have q:=qM (cL (.mk c lo h l)+1) l;cases w:dq (cL (.mk c lo h l)+1) l with
        |nil=>show 0+4<=_;omega
        |cons t j=>
         rw[w]at q;have:=(BG c j t).1;simp only[gW,kY,List.sum_cons]at q;simp only[gW]at this;show(iP c t j).length+4<=_;omega
def qM(c:Nat):∀l:List Rx,gW (dq c l)<=18 *Rx.bc l
 |[]=>by simp[dq,gW]
 |a::l=>by have e:=vR a;have d:=qM c l;have h:=(qp c a (bj a)).1;unfold dq Rx.bc;simp only[gW,kY,List.sum_cons]at d ⊢;omega
end
def yl{k:Int}{lo hi:UInt8}{l:List Rx}(h:ih (.mk k lo hi l)=true):0<=k/\k<=7/\(k=6\/k=7->l.length=1)/\my l=true:=by
 unfold ih at h
 grind
def ym:∀{l:List Rx} {a:Rx},my l=true->a∈l->ih a=true
 |b::l,a,c,d=>by
  unfold my at c;rw[bC]at c;rcases ay.1 d with rfl|d
  .grind
  .exact ym c.2 d
def zl:∀k:Rx,ih k=true->0<(bj k).length
 |.mk c lo h l=>λn=>by
  obtain⟨q,u,w,d⟩:=yl n;have x:∀j,0<(dA j).length:=λj=>by unfold dA;grind
  unfold bj;split
  .simp
  .split
   .simp
   .split
    .grind
    .split
     .simp
     .split
      .simp
      .split
       .grind
       .rename_i e
        match l,d,e with
        |[],_,e=>grind
        |a::m,d,e=>
         have:=zl a (ym d (by simp));unfold dq;show 0<(iP _ _ _).length;have y:=(BG c (dq (cL (.mk c lo h (a::m))+1) m) (cN (cL (.mk c lo h (a::m))+1) a (bj a))).2;have z:=(qp (cL (.mk c lo h (a::m))+1) a (bj a)).2;omega
def An(x:I)(w:C)(E:0<=x.k)(F:x.k<=7)(y:x.P w):ah V uB #[x.v] w λr c=>r=U (.i (cL x.rx:Int))/\aj w c:=by
 have H:=I.cu y.parts.1;have G:(I.au x.l).length=x.l.length:=by rw[I.fy,mA]
 have A:cL x.rx=if x.k=6 then 3 else if x.k<3\/x.k=7\/x.l.length<2 then 4 else if x.k=3 then 2 else if x.k=4 then 0 else 1:=by
  rw[I.e9];unfold cL
  grind
 rw[A];have four:∀c,aj w c->x.k≠6->(x.k<3\/x.k=7\/x.l.length<2)->A0.aS c λr c=>r=U (.i ((if x.k=6 then 3 else if x.k<3\/x.k=7\/x.l.length<2 then 4 else if x.k=3 then 2 else if x.k=4 then 0 else 1:Nat):Int))/\aj w c:=λc f h D=>⟨by grind,f⟩;refine A0.aB _ _ _ _ w _ ((gE y).aN λb n e=>aJ (λh=>⟨by grind,e.fr⟩) (λh=>aQ (λq=>four n e.fr h (.inl q)) (λq=>aJ (λu=>four n e.fr h (.inr (.inl u))) (λu=>aQ (λB=>four n e.fr h (.inr (.inr (by omega)))) (λB=>?_)))));refine e.nw λJ _ d=>?_;have j:x.k=3\/x.k=4\/x.k=5:=by omega
 have z:(if x.k=6 then 3 else if x.k<3\/x.k=7\/x.l.length<2 then 4 else if x.k=3 then 2 else if x.k=4 then 0 else 1:Nat)=if x.k=3 then 2 else if x.k=4 then 0 else 1:=by grind
 rw[z];rcases j with j|j|j<;>rw[j]
 .exact ⟨by decide,by decide,jT ⟨2,d.ld 1 0,rfl,d.fr⟩⟩
 .exact ⟨by decide,by decide,jT ⟨0,d.ld 1 1,rfl,d.fr⟩⟩
 .exact ⟨by decide,by decide,jT ⟨1,d.ld 1 2,rfl,d.fr⟩⟩
def IQ(t:BL)(h:0<t.length):gQ t (t.length - 1)=jN t:=by
 unfold gQ jN
 grind
def U'(l:List I)(i:Nat):Rx.bc (I.au (l.drop i))<=I.bc l:=by
 rw[I.vn];induction l generalizing i with
 |nil=>simp
 |cons a l c=>
  cases i with
  |zero=>grind
  |succ i=>have:=c i;show _<=a.sz+I.bc l;grind
abbrev Nv(n:Nat):Prop:=∀(x:I) (c:Nat) (w:C),x.sz<=n->c<=1000->ih x.rx=true->x.P w->ah V jj #[x.v,.i (c:Int)] w λr d=>r=U (.string (ba (cN c x.rx (bj x.rx))))/\aj w d
def F9:∀T:Nat,T<=1000000->Nv T
 |0,_=>λx E w A _ _ _=>absurd A (by have:=I.k4 x;omega)
 |T+1,hn=>by
  have bc:=F9 T (by omega);have core:∀(x:I) (E:Nat) (w:C),x.sz<=T+1->¬cL x.rx<E->ih x.rx=true->x.P w->ah V jj #[x.v,.i (E:Int)] w λr w'=>r=U (.string (ba (bj x.rx)))/\aj w w':=by
   intro x E w A a6 O W;have hs:=I.h2 x;have hl:=I.fI x.l;have nr:=I.cu W.parts.1;have Q:=O;rw[I.e9]at Q;obtain⟨k0,k7,ao,aZ⟩:=yl Q;have a3:(I.au x.l).length=x.l.length:=by rw[I.fy,mA]
   rw[a3]at ao;have an:∀a∈x.l,ih a.rx=true:=λa j=>ym aZ (by rw[I.fy];grind);have aT:∀a:I,a.sz<=1000000->(bj a.rx).length<=18000000:=λa j=>by have:=vR a.rx;rw[I.eF]at this;omega
   have ac:∀(a:I) (E:Nat),a.sz<=1000000->(cN E a.rx (bj a.rx)).length<=18000002:=λa E j=>by have D:=aT a j;have:=(qp E a.rx (bj a.rx)).1;omega
   have aF:∀c,(dA c).length<=4:=λc=>by unfold dA;grind
   let N:aa:=λr w'=>r=U (.string (ba (bj x.rx)))/\aj w w'
   have one:∀(a:I) (S:Nat) (G:C) (h:Nat) (K:ByteArray->C->Prop),S<=1000->a∈x.l->Z F0 w G [.g h] [.tree x]->(∀B,Z F0 w B [.g h] [.tree x]->K (ba (cN S a.rx (bj a.rx))) B)->eM [h] jj #[.agg #[.i a.k,.int .u8 (a.lo.toNat:Int),.int .u8 (a.hi.toNat:Int),a.s.v],.i (S:Int)] G K:=by
    intro a S G h K a7 j F hK;have ag:=I.eG j;refine F.ax (bc a S G (by omega) a7 (an a j) ((show x.P G from F.getD 0).parts.2.mem j)) ?_
    grind
   refine lx.aB _ _ _ _ _ w _ ((gE W).aN λh G F=>?_);have F:Z F0 w G [.g h] [.tree x]:=F;refine F.ax (An x G k0 k7 (F.getD 0)) ?_;rintro _ B rfl y;have M:bj x.rx=bj (.mk x.k x.lo x.hi (I.au x.l)):=by rw[I.e9]
   refine⟨_,rfl,bb (a2 (by omega)) (aJ (λe=>⟨?_,y.fr⟩) (λaH=>aJ (λe=>⟨?_,y.fr⟩) (λaX=>aJ (λaI=>?_) (λaI=>aJ (λal=>?_) (λal=>aJ (λam=>?_) (λam=>aQ (λa1=>?_) (λa1=>?_)))))))⟩
   .rw [M];unfold bj;rw[aA e];rfl
   .rw [M];unfold bj;rw[aq aH,aA e];rfl
   .have e2:bj x.rx=if x.lo=x.hi then dA x.lo else 91::(dA x.lo++45::(dA x.hi++[93])):=by rw[M];unfold bj;grind
    refine aJ (λaL=>y.ax (Am x.lo B) ?_) (λaL=>y.ak λz J=>J.ax (Am x.lo z) ?_)
    .rintro _ q rfl n;exact⟨_,rfl,by rw[e2,aA (UInt8.toNat_inj.1 (by omega))],n.fr⟩
    .rintro _ w6 rfl H6;have D:=aF x.lo;have aR:=aF x.hi;have s0:av #[91]++ba (dA x.lo)++av #[45]=ba (91::dA x.lo++[45]):=by show ba [91]++ba (dA x.lo)++ba [45]=_;rw[dF,dF];rfl
     refine⟨_,rfl,?_,?_,H6.ax (Am x.hi w6) ?_⟩
     .rw [de];show ¬(((1+_:Nat):Int)>9223372036854775807);omega
     .have:(av #[91]++ba (dA x.lo)).size=1+(dA x.lo).length:=by show(ba [91]++_).size=_;rw[dF,de];grind
      rw[this];show ¬(((_+1:Nat):Int)>9223372036854775807);omega
     rintro _ w7 rfl H7;rw[s0];have:ba (91::dA x.lo++[45]++dA x.hi)++av #[93]=ba (91::dA x.lo++[45]++dA x.hi++[93]):=by show _++ba [93]=_;rw[dF]
     refine⟨_,rfl,?_,?_,?_,H7.fr⟩
     .rw [de,de];simp only[cC,List.length_cons,List.length_nil];show ¬(((_:Nat):Int)>9223372036854775807);omega
     .rw [dF,de];simp only[cC,List.length_cons,List.length_nil];show ¬(((_+1:Nat):Int)>9223372036854775807);omega
     .rw [dF,this,e2,aq (λA=>aL (by rw[A]))];simp
   .have D:=ao (.inl al);have e6:bj x.rx=33::jf (dq 3 (I.au x.l)):=by rw[M];unfold bj;grind
    match jK:x.l,D with
    |[a],_=>
     have j:a∈x.l:=by grind
     have ag:=I.eG j;refine iV (show x.P B from y.getD 0) (k:=0) rfl (by grind) (one a 3 B h _ (by omega) j y λq n=>⟨?_,?_,n.fr⟩)
     .have:=ac a 3 (by omega);rw[de];show ¬(((1+_:Nat):Int)>9223372036854775807);omega
     .have:av #[33]++ba (cN 3 a.rx (bj a.rx))=ba (33::cN 3 a.rx (bj a.rx)):=by show ba [33]++_=_;rw[dF];rfl
      rw[this,e6,jK];rfl
   .have D:=ao (.inr am);have e7:bj x.rx=jf (dq 4 (I.au x.l))++[42]:=by rw[M];unfold bj;grind
    match jK:x.l,D with
    |[a],_=>
     have j:a∈x.l:=by grind
     have ag:=I.eG j;refine iV (show x.P B from y.getD 0) (k:=0) rfl (by grind) (one a 4 B h _ (by omega) j y λq n=>⟨?_,?_,n.fr⟩)
     .have:=ac a 4 (by omega);rw[de];show ¬(((_+1:Nat):Int)>9223372036854775807);omega
     .have:ba (cN 4 a.rx (bj a.rx))++av #[42]=ba (cN 4 a.rx (bj a.rx)++[42]):=by show _++ba [42]=_;rw[dF]
      rw[this,e7,jK];rfl
   .
    have e:x.k=3\/x.k=4\/x.k=5:=by omega
    have ef:bj x.rx=qg x.k++(jf (dq 0 (I.au x.l))++[41]):=by rw[M];unfold bj;grind
    have fin:∀(t:BL) (q:C),t.length<=18000002->jf (dq 0 (I.au x.l))=t->Z F0 w q [.g h] [.tree x]->lx.aS h x.k x.lo.toNat x.hi.toNat x.s (ba t) q N:=by
     intro t q ht H n;refine n.nw λw4 _ L=>?_;have key:∀(u:BL),u.length=4->qg x.k=u->¬((((ba u).size+(ba t).size:Nat):Int)>IntKind.i64.max)/\¬((((ba u++ba t).size+(av #[41]).size:Nat):Int)>IntKind.i64.max)/\N (U (.string ((ba u++ba t)++(av #[41])))) w4:=by
      intro u hu hn;refine⟨?_,?_,?_,L.fr⟩
      .rw [de,de];show ¬(((_:Nat):Int)>9223372036854775807);omega
      .rw [dF,de];simp only[cC];show ¬(((_+1:Nat):Int)>9223372036854775807);omega
      .have:ba u++ba t++av #[41]=ba (u++(t++[41])):=by show _++_++ba [41]=_;rw[dF,dF];simp
       grind
     rcases e with e|e|e<;>rw[e]
     .exact ⟨by decide,by decide,jT ⟨ba [99,97,116,40],L.ld 1 0,key _ rfl (by rw[e];rfl)⟩⟩
     .exact ⟨by decide,by decide,jT ⟨ba [97,108,116,40],L.ld 1 1,key _ rfl (by rw[e];rfl)⟩⟩
     .exact ⟨by decide,by decide,jT ⟨ba [97,108,108,40],L.ld 1 2,key _ rfl (by rw[e];rfl)⟩⟩
    refine aJ (λD=>?_) (λD=>?_)
    .match jK:x.l with
     |[]=>grind
     |_::_::_=>grind
     |[a]=>
      have j:a∈x.l:=by grind
      have ag:=I.eG j;refine iV (show x.P B from y.getD 0) (k:=0) rfl (by grind) (one a 0 B h _ (by omega) j y λq n=>?_);exact fin _ q (ac a 0 (by omega)) (by rw[jK];rfl) n
    .have:x.l=[]:=List.length_eq_zero_iff.1 (by omega);exact fin [] B (by simp) (by rw[this];rfl) y
   .
    have e:x.k=3\/x.k=4\/x.k=5:=by omega
    match jK:x.l with
    |[]=>grind
    |a::m=>
    have j:a∈x.l:=by grind
    have ag:=I.eG j;have bq:(gG x.k).length<=1:=by unfold gG;grind
    have ef:bj x.rx=iP x.k (cN (cL x.rx+1) a.rx (bj a.rx)) (dq (cL x.rx+1) (I.au (x.l.drop 1))):=by
     have e1:bj x.rx=w2 x.k (dq (cL x.rx+1) (I.au x.l)):=by
      conv=>lhs;rw[M];unfold bj;rw[aq aH,aq aX,aq aI,aq al,aq am,aq (by omega)]
      rw[<-I.e9]
     rw[e1,jK];rfl
    have bl:cL x.rx<=4:=by rw[I.e9];unfold cL;grind
    have loop:∀(d i:Nat) (out:BL) (q:C),i+d=x.l.length->1<=i->0<out.length->out.length+gW (dq (cL x.rx+1) (I.au (x.l.drop i)))<=40000000->bj x.rx=iP x.k out (dq (cL x.rx+1) (I.au (x.l.drop i)))->Z F0 w q [.g h] [.tree x]->
      lx.bO h x.k x.lo.toNat x.hi.toNat x.s (ba (gG x.k)) (cL x.rx:Int) (ba out) (i:Int) q N:=by
     intro d;induction d with
     |zero=>
      intro i out q aW D aM af H n;refine lx.eh _ _ _ _ _ _ _ _ _ _ _ (bb (a2 (by omega)) ⟨?_,n.fr⟩);rw[H,c9 (by omega)];rfl
     |succ d bd=>
      intro i out q aW D aM af H n;have hg:x.l[i]? =some (x.l[i]'(by omega)):=a9 (by omega);have aG:x.l.drop i=(x.l[i]'(by omega))::x.l.drop (i+1):=dZ (by omega);generalize x.l[i]'(by omega)=c at hg aG;have hc:=aE hg;have br:=I.eG hc;rw[aG]at H af;have af:out.length+((cN (cL x.rx+1) c.rx (bj c.rx)).length+2+gW (dq (cL x.rx+1) (I.au (x.l.drop (i+1)))))<=40000000:=by
       have:gW (dq (cL x.rx+1) (I.au (c::x.l.drop (i+1))))=(cN (cL x.rx+1) c.rx (bj c.rx)).length+2+gW (dq (cL x.rx+1) (I.au (x.l.drop (i+1)))):=by simp[I.au,dq,gW]
       omega
      have H:bj x.rx=iP x.k ((if x.k=3/\eE (jN out)=true/\eE (gQ (cN (cL x.rx+1) c.rx (bj c.rx)) 0)=true then out++[32]else out)++gG x.k++cN (cL x.rx+1) c.rx (bj c.rx)) (dq (cL x.rx+1) (I.au (x.l.drop (i+1)))):=by rw[H];rfl
      have aU:0<(cN (cL x.rx+1) c.rx (bj c.rx)).length:=by have D:=zl c.rx (an c hc);have:=(qp (cL x.rx+1) c.rx (bj c.rx)).2;omega
      have ai:ad .i64 ((cL x.rx:Int)+1)=((cL x.rx+1:Nat):Int):=bA _ (by omega);refine lx.eh _ _ _ _ _ _ _ _ _ _ _ (a8 (a0 (by omega)) (iV (show x.P q from n.getD 0) rfl hg ?_));rw[ai];refine one c (cL x.rx+1) q h _ (by omega) hc n λw4 L=>?_;generalize cN (cL x.rx+1) c.rx (bj c.rx)=t at H af aU;have go:∀(o:BL) (z:C),o.length<=out.length+1->out.length<=o.length->o.length+(gG x.k).length<=out.length+1->bj x.rx=iP x.k (o++gG x.k++t) (dq (cL x.rx+1) (I.au (x.l.drop (i+1))))->Z F0 w z [.g h] [.tree x]->
        lx.aY h x.k x.lo.toNat x.hi.toNat x.s (ba (gG x.k)) (cL x.rx:Int) (ba o) (i:Int) (ba t) z N:=by
       intro o z bn bo bp aV J;refine⟨?_,?_,?_⟩
       .rw [de,de];show ¬(((_:Nat):Int)>9223372036854775807);omega
       .rw [dF,de,de];simp only[cC];show ¬(((_:Nat):Int)>9223372036854775807);omega
       .show lx.bO _ _ _ _ _ _ _ _ _ _ _;rw[dF,dF,bA _ (by omega)];refine bd (i+1) (o++gG x.k++t) z (by omega) (by omega) (by grind) (by grind) aV J
      have ap:∀z,Z F0 w z [.g h] [.tree x]->¬(x.k=3/\eE (jN out)=true/\eE (gQ t 0)=true)->lx.aY h x.k x.lo.toNat x.hi.toNat x.s (ba (gG x.k)) (cL x.rx:Int) (ba out) (i:Int) (ba t) z N:=λz J A=>go out z (by omega) (by omega) (by omega) (by rw[aq A]at H;exact H) J;have eo:ad .i64 ((((ba out).size:Nat):Int) - 1)=((out.length - 1:Nat):Int):=by rw[de,bf _ (by omega)];omega
      rw[eo];refine aJ (λaK=>⟨by omega,jN out,?_,L.ax (Gs (jN out) w4) ?_⟩) (λaK=>ap w4 L (λA=>aK A.1))
      .rw [bT,gj (s:=ba out) (by rw[de];omega),nW,IQ out aM]
      rintro _ z rfl J;refine⟨_,rfl,cK (λa4=>⟨by omega,gQ t 0,?_,J.ax (Gs (gQ t 0) z) ?_⟩) (λa4=>ap z J (λA=>by grind))⟩
      .rw [show ae 0=0 from rfl,gj (s:=ba t) (by rw[de];omega),nW]
      rintro _ w6 rfl H6;have s3:(gG x.k).length=0:=by unfold gG;grind
      refine⟨_,rfl,cK (λa5=>⟨?_,?_⟩) (λa5=>ap w6 H6 (λA=>by grind))⟩
      .rw [de];show ¬(((_+1:Nat):Int)>9223372036854775807);omega
      .have aP:ba out++av #[32]=ba (out++[32]):=by show _++ba [32]=_;rw[dF]
       rw[aP];refine go (out++[32]) w6 (by simp) (by simp) (by grind) ?_ H6
       grind
    refine y.nw λar _ ab=>?_;have az:Z F0 w ar [.g h] [.tree x]:=ab.take 1;have rest:∀(u:BL),gG x.k=u->bG [h] uB #[.agg #[.i x.k,.int .u8 (x.lo.toNat:Int),.int .u8 (x.hi.toNat:Int),x.s.v]] ar λt90 Y=>aw x.s 0 λbe=>bH Y (be.add (ae 0 *4)) λbg bh bi bk=>eM [h] jj #[.agg #[.i bg,.int .u8 bh,.int .u8 bi,bk.v],.i (ad .i64 (t90+1))] Y λt97 ay=>lx.bO h x.k x.lo.toNat x.hi.toNat x.s (ba u) t90 t97 1 ay N:=by
     intro u hu;refine az.ax (An x ar k0 k7 (az.getD 0)) ?_;rintro _ Y rfl aC;refine⟨_,rfl,iV (show x.P Y from aC.getD 0) (k:=0) rfl (by rw[jK];rfl) ?_⟩;have ai:ad .i64 ((cL x.rx:Int)+1)=((cL x.rx+1:Nat):Int):=bA _ (by omega);rw[ai];refine one a (cL x.rx+1) Y h _ (by omega) j aC λay aO=>?_;rw[<-hu];refine loop (x.l.length - 1) 1 _ ay (by omega) (by omega) ?_ ?_ ef aO
     .have D:=zl a.rx (an a j);have:=(qp (cL x.rx+1) a.rx (bj a.rx)).2;omega
     .have D:=ac a (cL x.rx+1) (by omega);have aR:=qM (cL x.rx+1) (I.au (x.l.drop 1));have h3:=U' x.l 1;omega
    rcases e with e|e|e
    .exact ⟨by rw[e];decide,by rw[e];decide,jT ⟨ba [],by rw[e];exact ab.ld 1 0,rest _ (by rw[e];rfl)⟩⟩
    .exact ⟨by rw[e];decide,by rw[e];decide,jT ⟨ba [124],by rw[e];exact ab.ld 1 1,rest _ (by rw[e];rfl)⟩⟩
    .exact ⟨by rw[e];decide,by rw[e];decide,jT ⟨ba [38],by rw[e];exact ab.ld 1 2,rest _ (by rw[e];rfl)⟩⟩
  intro x E w A a6 O W;by_cases hb:cL x.rx<E
  .have Q:=O;rw[I.e9]at Q;obtain⟨k0,k7,_,_⟩:=yl Q;refine lx.aB _ _ _ _ _ w _ ((gE W).aN λh G F=>F.ax (An x G k0 k7 (F.getD 0)) ?_);rintro _ B rfl y;refine⟨_,rfl,a8 (a0 (by omega)) (y.ax (core x 0 B A (by omega) O (y.getD 0)) ?_)⟩;rintro _ q rfl n;have bm:(bj x.rx).length<=18000000:=by have:=vR x.rx;rw[I.eF]at this;omega
   have aD:av #[40]++ba (bj x.rx)++av #[41]=ba (40::(bj x.rx++[41])):=by show ba [40]++ba (bj x.rx)++ba [41]=_;rw[dF,dF];simp
   refine⟨_,rfl,?_,?_,?_,n.fr⟩
   .rw [de];show ¬(((1+_:Nat):Int)>9223372036854775807);omega
   .have:(av #[40]++ba (bj x.rx)).size=1+(bj x.rx).length:=by show(ba [40]++_).size=_;rw[dF,de];grind
    rw[this];show ¬(((_+1:Nat):Int)>9223372036854775807);omega
   .rw [aD];unfold cN;grind
  .have:=core x E w A hb O W;have aD:cN E x.rx (bj x.rx)=bj x.rx:=by unfold cN;grind
   grind
def F8(x:I)(c:Nat)(w:C)(h:x.sz<=1000000)(d:c<=1000)(e:ih x.rx=true)(j:x.P w):ah V jj #[x.v,.i (c:Int)] w λr k=>r=U (.string (ba (cN c x.rx (bj x.rx))))/\aj w k:=F9 1000000 (b' _) x c w h d e j
def Tx{s:BL}{x:Rx}{a:Nat}{e:Int}(h:se s=some (x,a,e)):x.sz<=1000000:=by
 unfold se at h;split at h
 .simp only[fb,eX]at h;rw[<-h.1];decide
 .dsimp only at h;split at h
  .split at h
   .simp only[fb,eX]at h;rw[<-h.1];decide
   .split at h
    .cases h
    .split at h
     .simp only[fb,eX]at h;rw[<-h.1];decide
     .simp only[fb,eX]at h;rw[<-h.1];omega
  .cases h
def N5(s:ByteArray)(O:s.size<=100000)(b:Bool)(c:mZ (bl s)=some b)(w:C):ah V B9 #[.string s] w λr W=>r=U (.bool b)/\aj w W:=by
 unfold mZ at c;cases k:se (bl s)with
 |none=>rw[k]at c;cases c
 |some aa=>
  obtain⟨Y,a,L⟩:=aa;rw[k]at c;dsimp only at c;have P:=Tx k;have G:Z F0 w w [] []:=bN [] (by simp);refine Hm.aB _ w _ (G.At (OS s O Y a L k w) ?_);rintro _ w1 ⟨t,rfl,u,Q,M⟩ _ F;have H:=F.rd (.tree t) Q λb d=>M b (a4.1 d);have T:t.sz<=1000000:=by rw[<-I.eF,u];exact P
  refine⟨_,_,_,t.s,_,_,rfl,H.aN λb3 w2 x=>cD (λn=>x.ak λD h=>⟨?_,h.fr⟩) (λn=>x.ak λD h=>?_)⟩
  .rw [aq n]at c;cases c;rfl
  rw[aA n]at c;refine h7 ((OV t D T (h.getD 0)).mono ?_);rintro _ w4 ⟨⟨e,rfl,B,S,N⟩,z⟩;have J:=h.gv (.tree e) z S λb d=>(N b (a4.1 d)).imp id λd=>.inr ⟨_,aE (i:=0) rfl,a4.2 d⟩;rw[u]at B;refine⟨z,_,_,_,e.s,_,rfl,J.aN λb6 w5 y=>?_⟩;rw[u];refine aJ (λq=>y.ak λE j=>?_) (λq=>y.ak λE j=>⟨?_,j.fr⟩)
  .rw [aA q]at c;split at c
   .rename_i A;rw[<-B]at A c;refine j.ax (F8 e 0 E (by rw[<-I.eF];omega) (by omega) A.1 (j.getD 1)) ?_;rintro _ w7 rfl K;refine⟨_,rfl,?_,K.fr⟩;cases c;congr 2;have:=rl (cN 0 e.rx (bj e.rx)) (bl s);rw[mW]at this;exact this
   .cases c
  .rw [aq q]at c;cases c;rfl
set_option maxRecDepth 100000
set_option maxHeartbeats 1000000
abbrev sI(k:J)(ks:List bt):En:=.bh 3 k (ks.flatMap gm)
def I0{w:C}{k:J}{ks:List bt}(h:bF 3 w k (ks.flatMap gm)):Z F0 w w [] [sI k ks]:=bN _ (by intro d c;simp only[ay,aW,a3]at c;subst c;exact h)
def OB{w:C}{k:J}{ks:List bt}{x y B:bt}(op:Int)(h:bF 3 w k (ks.flatMap gm))(hx:ks[0]? =some x)(u:2<=cS op->ks[1]? =some y)(H:cS op=3->ks[2]? =some B)(h4:4<=op)(ag:op<=34):
  ah V Co #[.i op,k.v] w λr w'=>r=U (.bool (dm op x y B))/\aj w w':=by
 refine A1.aB _ _ w _ (eu h (rfl:(0:Int)=((0:Nat):Int)) hx λp0 al aa=>⟨x.k,x.n,x.x,aa.c0,aa.c1,aa.c2,(I0 h).aN λb5 w1 H1=>?_⟩);have main:∀(a:Bool) (N:C),a=ek x->Z F0 w N [.g b5] [sI k ks]->A1.aS op k b5 x.k x.n x.x (x.k==0) (x.k==1) a N λr w'=>r=U (.bool (dm op x y B))/\aj w w':=by
  rintro a N ha c;have q:∀{D:C} {L:List En},Z F0 w D L [sI k ks]->bF 3 D k (ks.flatMap gm):=λae=>ae.getD 0;have A:(1:Int)=((1:Nat):Int):=rfl;have K:(2:Int)=((2:Nat):Int):=rfl;rcases sa (by omega) ag with rfl|rfl|rfl|rfl|rfl|rfl|rfl|rfl|rfl|rfl|rfl|rfl|rfl|rfl|rfl|rfl|rfl|rfl|rfl|rfl|rfl|rfl|rfl|rfl|rfl|rfl|rfl|rfl|rfl|rfl|rfl|rfl|rfl|rfl|rfl
  iterate 4 omega
  all_goals repeat (first |refine bb rfl ?_|refine a8 rfl ?_)
  all_goals first |(have u:=u (by decide))|skip
  all_goals first |(have H:=H (by decide))|skip
  iterate 2 exact⟨rfl,c.fr⟩
  iterate 12
   .refine aJ (λd=>?_) (λd=>c.ak λD j=>⟨?_,j.fr⟩)
    .refine eu (q c) A u λp G _=>c.ak λD j=>?_;have e:=fS (q j) A u G;refine⟨_,_,_,e.c0,e.c1,e.c2,?_,j.fr⟩;rw[jX];show _=Ending.returned (.bool (x.k==0&&af (x=y)));rw[d];rfl
    .show _=Ending.returned (.bool (x.k==0&&af (x=y)));rw[beq_eq_false_iff_ne.2 d];rfl
  .refine eu (q c) A u λp G _=>c.ak λD j=>?_;have e:=fS (q j) A u G;have E:dm 18 x y B=(af (x=y)||(x.k==1&&y.k==1)):=rfl;rw[E];refine⟨_,_,_,e.c0,e.c1,e.c2,mE (λI=>⟨by rw[a0 I];rfl,j.fr⟩) (λI=>?_)⟩;rw[a2 I,Bool.false_or];refine aJ (λd=>eu (q j) A u λp' _ Y=>⟨_,Y.c0,?_,j.fr⟩) (λd=>⟨?_,j.fr⟩)
   .rw [d];rfl
   .rw [beq_eq_false_iff_ne.2 d];rfl
  .refine c.ak λD j=>j.ax (fo 1 D) ?_;rintro _ T rfl z;have E:dm 19 x y B=(af (x=bJ 1)&&(af (y=B)||(y.k==1&&B.k==1))):=rfl;rw[E];refine⟨_,_,_,rfl,mE (b:=bJ 1) (λI=>?_) (λI=>⟨by rw[a2 I];rfl,z.fr⟩)⟩;rw[a0 I,Bool.true_and];refine eu (q z) A u λp _ e=>⟨_,_,_,e.c0,e.c1,e.c2,eu (q z) K H λad _ F=>⟨_,_,_,F.c0,F.c1,F.c2,mE (λh2=>⟨by rw[a0 h2];rfl,z.fr⟩) (λh2=>?_)⟩⟩;rw[a2 h2,Bool.false_or];refine eu (q z) A u λp' _ Y=>⟨_,Y.c0,aJ (λd=>eu (q z) K H λq' _ d'=>⟨_,d'.c0,?_,z.fr⟩) (λd=>⟨?_,z.fr⟩)⟩
   .rw [d];rfl
   .rw [beq_eq_false_iff_ne.2 d];rfl
  .have E:dm 20 x y B=(x.k==0&&y.k==0):=rfl;rw[E];refine aJ (λd=>eu (q c) A u λp _ e=>⟨_,e.c0,?_,c.fr⟩) (λd=>⟨?_,c.fr⟩)
   .rw [d];rfl
   .rw [beq_eq_false_iff_ne.2 d];rfl
  iterate 3 exact⟨rfl,c.fr⟩
  .have E:dm 24 x y B=(ek x&&af (y=bJ x.x)):=rfl;rw[E,<-ha];refine cK (λS=>?_) (λP=>c.ak λD j=>⟨by rw[P];rfl,j.fr⟩);refine eu (q c) A u λp G _=>c.ak λD j=>?_;have e:=fS (q j) A u G;refine⟨_,_,_,e.c0,e.c1,e.c2,j.ax (fo x.x D) ?_⟩;rintro _ T rfl z;have F:=fS (q z) A u G;refine⟨_,_,_,rfl,F.c0,F.c1,F.c2,?_,z.fr⟩;rw[S,Bool.true_and];exact congrArg (λb=>Ending.returned (.bool b)) (jX y (bJ x.x))
  .have E:dm 25 x y B=(ek x&&af (y=bJ x.x)&&(af (B=hP x)||(x.k==3&&B.k==1&&af (B.n<=x.n)))):=rfl;rw[E,<-ha];refine eJ (λP=>c.ak λD j=>⟨by rw[P];rfl,j.fr⟩) (λS=>?_);rw[S,Bool.true_and];refine eu (q c) A u λp G _=>c.ak λD j=>?_;have e:=fS (q j) A u G;refine⟨_,_,_,e.c0,e.c1,e.c2,j.ax (fo x.x D) ?_⟩;rintro _ T rfl z;have F:=fS (q z) A u G;refine⟨_,_,_,rfl,F.c0,F.c1,F.c2,vo (a:=y) (b:=bJ x.x) (λQ=>⟨by rw[a2 Q];rfl,z.fr⟩) (λai=>?_)⟩;rw[a0 ai,Bool.true_and];refine eu (q z) K H λad W _=>z.ak λw5 O=>?_;have c5:=fS (q O) K H W;refine⟨_,_,_,c5.c0,c5.c1,c5.c2,O.ax (DR x w5) ?_⟩;rintro _ w6 rfl M;have d6:=fS (q M) K H W;refine⟨_,_,_,rfl,d6.c0,d6.c1,d6.c2,mE (a:=B) (b:=hP x) (λI=>⟨by rw[a0 I];rfl,M.fr⟩) (λQ=>?_)⟩;rw[a2 Q,Bool.false_or];refine aJ (λd=>eu (q M) K H λq' _ d'=>⟨_,d'.c0,aJ (λac=>eu (q M) K H λq2 _ d2=>⟨_,d2.c1,?_,M.fr⟩) (λac=>⟨?_,M.fr⟩)⟩) (λd=>⟨?_,M.fr⟩)
   .rw [d,ac];rfl
   .rw [beq_eq_false_iff_ne.2 ac,Bool.and_false];rfl
   .rw [beq_eq_false_iff_ne.2 d];rfl
  .have E:dm 26 x y B=(ek x&&af (x=y)):=rfl;rw[E,<-ha];refine cK (λS=>?_) (λP=>c.ak λD j=>⟨by rw[P];rfl,j.fr⟩);refine eu (q c) A u λp G _=>c.ak λD j=>?_;have e:=fS (q j) A u G;refine⟨_,_,_,e.c0,e.c1,e.c2,?_,j.fr⟩;rw[jX,S];rfl
  iterate 2 exact⟨rfl,c.fr⟩
  .have E:dm 29 x y B=(x.k==1&&y.k==1):=rfl;rw[E];refine aJ (λd=>eu (q c) A u λp _ e=>⟨_,e.c0,?_,c.fr⟩) (λd=>⟨?_,c.fr⟩)
   .rw [d];rfl
   .rw [beq_eq_false_iff_ne.2 d];rfl
  .have E:dm 30 x y B=(x.k==1&&af (y=bJ 7)&&af (B=bJ 7)):=rfl;rw[E];refine aJ (λd=>?_) (λd=>c.ak λD j=>⟨by rw[beq_eq_false_iff_ne.2 d];rfl,j.fr⟩);rw[d];refine eu (q c) A u λp G _=>c.ak λD j=>?_;have e:=fS (q j) A u G;refine⟨_,_,_,e.c0,e.c1,e.c2,j.ax (fo 7 D) ?_⟩;rintro _ T rfl z;have F:=fS (q z) A u G;refine⟨_,_,_,rfl,F.c0,F.c1,F.c2,mE (a:=y) (b:=bJ 7) (λI=>?_) (λQ=>⟨by rw[a2 Q];rfl,z.fr⟩)⟩;rw[a0 I];refine eu (q z) K H λad W c4=>⟨_,_,_,c4.c0,c4.c1,c4.c2,z.ax (fo 7 T) ?_⟩;rintro _ w5 rfl O;have d5:=fS (q O) K H W;exact⟨_,_,_,rfl,d5.c0,d5.c1,d5.c2,congrArg (λb=>Ending.returned (.bool b)) (jX B (bJ 7)),O.fr⟩
  .have E:dm 31 x y B=(x.k==1&&y.k==1):=rfl;rw[E];refine aJ (λd=>eu (q c) A u λp _ e=>⟨_,e.c0,?_,c.fr⟩) (λd=>⟨?_,c.fr⟩)
   .rw [d];rfl
   .rw [beq_eq_false_iff_ne.2 d];rfl
  .have E:dm 32 x y B=(x.k==1&&y.k==1&&B.k==1):=rfl;rw[E];refine aJ (λd=>eu (q c) A u λp _ e=>⟨_,e.c0,aJ (λab=>eu (q c) K H λad _ F=>⟨_,F.c0,?_,c.fr⟩) (λab=>⟨?_,c.fr⟩)⟩) (λd=>⟨?_,c.fr⟩)
   .rw [d,ab];rfl
   .rw [beq_eq_false_iff_ne.2 ab,Bool.and_false];rfl
   .rw [beq_eq_false_iff_ne.2 d];rfl
  .exact ⟨rfl,c.fr⟩
  .refine c.ak λD j=>j.ax (fo 8 D) ?_;rintro _ T rfl z;exact⟨_,_,_,rfl,congrArg (λb=>Ending.returned (.bool b)) (jX x (bJ 8)),z.fr⟩
 refine aJ (λd=>H1.ak λN c=>main true N ?_ c) (λd=>H1.ak λN c=>main _ N ?_ c)
 .unfold ek;rw[d];rfl
 .unfold ek;rw[beq_eq_false_iff_ne.2 d];rfl
def zU(n:Nx)(x y c:bt):cQ->Prop:=λr=>∃(t:bt) (b:Bool),r=U (.tuple #[dO t,.bool b])/\b=jV n x y c/\(b=true->t=hx n x y c)
def OY{w:C}{k:J}{ks:List bt}{x y T:bt}(d:Nd)(h:bF 3 w k (ks.flatMap gm))(hx:ks[0]? =some x)(D:2<=cS d.x.op->ks[1]? =some y)(M:cS d.x.op=3->ks[2]? =some T)(h4:4<=d.x.op)(ae:d.x.op<=34)(vx:cb x=true)(vy:2<=cS d.x.op->cb y=true)(vz:cS d.x.op=3->cb T=true)(hn:bn d.x.n)(hm:bn d.x.m):
  ah V Cq #[d.v,k.v] w λr Y=>zU d.x x y T r/\aj w Y:=by
 obtain⟨x1,x2,x3,x4,_⟩:=k5 vx;obtain⟨ap,ar⟩:=hn;obtain⟨an,ao⟩:=hm;refine wM.aB _ _ _ _ _ _ _ _ _ _ w _ ((I0 h).aN λb2 w1 H1=>H1.aN λb4 w2 H2=>eu (H2.getD 0) (rfl:(0:Int)=((0:Nat):Int)) hx λp0 av ab=>⟨x.k,x.n,x.x,ab.c0,ab.c1,ab.c2,H2.aN λb6 w3 W=>?_⟩);have u:∀{w3:C} {L:List En},Z F0 w w3 L [sI k ks]->bF 3 w3 k (ks.flatMap gm):=λag=>ag.getD 0;have E:(1:Int)=((1:Nat):Int):=rfl;have S:(2:Int)=((2:Nat):Int):=rfl;obtain⟨⟨H,kids,B,m,aa,tx,st⟩,au⟩:=d;simp only at D M h4 ae vy vz ap ar an ao;have S1:∀z:C,H≠16->H≠17->H≠18->H≠33->Z F0 w z [.g b2,.g b4,.g b6] [sI k ks]->wM.aZ k b2 H au B m aa tx st.k st.n st.x b4 0 0 0 b6 x.k x.n x.x H z λr Y=>zU ⟨H,kids,B,m,aa,tx,st⟩ x y T r/\aj w Y:=by
  intro z n1 n2 n3 n4 e;rcases sa (by omega) ae with rfl|rfl|rfl|rfl|rfl|rfl|rfl|rfl|rfl|rfl|rfl|rfl|rfl|rfl|rfl|rfl|rfl|rfl|rfl|rfl|rfl|rfl|rfl|rfl|rfl|rfl|rfl|rfl|rfl|rfl|rfl|rfl|rfl|rfl|rfl
  iterate 4 omega
  all_goals repeat (first |refine bb rfl ?_|refine a8 rfl ?_)
  all_goals first |(have D:=D (by decide))|skip
  all_goals first |(have M:=M (by decide))|skip
  all_goals first |(have vy:=k5 (vy (by decide)))|skip
  all_goals first |(have vz:=k5 (vz (by decide)))|skip
  iterate 12 exact e.ak λA c=>⟨⟨x,true,rfl,rfl,λ_=>rfl⟩,c.fr⟩
  iterate 3 omega
  .refine eu (u e) E D λp O ai=>⟨_,ai.c0,aJ (λhk=>?_) (λhk=>?_)⟩
   .refine eu (u e) E D λp O _=>e.ak λA c=>?_;have P:=fS (u c) E D O;refine⟨_,P.c1,eu (u c) S M λac G Q=>⟨_,Q.c1,c.ax (mY _ A) ?_⟩⟩;rintro _ I rfl j;refine⟨_,_,_,rfl,j.ak λN q=>⟨⟨_,true,rfl,rfl,λ_=>?_⟩,q.fr⟩⟩;show _=if y.k=1 then _ else _;rw[aA hk]
   .refine eu (u e) E D λp O c'=>⟨_,_,_,c'.c0,c'.c1,c'.c2,e.ak λA c=>⟨⟨y,true,rfl,rfl,λ_=>?_⟩,c.fr⟩⟩;show _=if y.k=1 then _ else _;rw[aq hk]
  .refine eu (u e) E D λp O _=>e.ak λA c=>?_;have P:=fS (u c) E D O;refine⟨_,P.c1,eu (u c) E D λac G _=>?_⟩;have Q:=fS (u c) E D G;refine⟨_,Q.c1,c.ax (fo _ A) ?_⟩;rintro _ I rfl j;refine⟨_,_,_,rfl,(fS (u j) E D G).c1,j.ak λN q=>⟨(fS (u q) E D G).c1,⟨_,_,rfl,?_,λ_=>?_⟩,q.fr⟩⟩
   .rw [bf _ (by omega)];rfl
   .show bJ _=bJ (x.n+y.n);rw[bf _ (by omega)]
  .refine e.ak λA c=>c.ax (fo _ A) ?_;rintro _ I rfl j;have hr:jV ⟨21,kids,B,m,aa,tx,st⟩ x y T=(af (0<=m)&&af (m<=B)&&af (B<x.n)):=rfl;refine⟨_,_,_,rfl,aQ (λK=>aQ (λg2=>j.ak λN q=>⟨⟨_,_,rfl,?_,λF=>?_⟩,q.fr⟩) (λg2=>j.ak λN q=>⟨⟨_,false,rfl,?_,λF=>by cases F⟩,q.fr⟩)) (λK=>j.ak λN q=>⟨⟨_,false,rfl,?_,λF=>by cases F⟩,q.fr⟩)⟩
   .rw [hr,a0 (show 0<=m from K),a0 g2];rfl
   .have F:=hC F;show bJ _=bJ (B - m+1);rw[bf (B - m) (by omega),bf _ (by omega)]
   .rw [hr,a2 g2,Bool.and_false];rfl
   .rw [hr,a2 (show ¬0<=m from K)];rfl
  iterate 2
   .refine e.ak λA c=>c.ax (fo _ A) ?_;rintro _ I rfl j;have al:ad .i64 (64 - x.n)=64 - x.n:=bf _ (by omega);rw[al];refine⟨_,_,_,rfl,aQ (λK=>j.ak λN q=>⟨⟨_,_,rfl,?_,λF=>?_⟩,q.fr⟩) (λK=>j.ak λN q=>⟨⟨_,false,rfl,?_,λF=>by cases F⟩,q.fr⟩)⟩
    .show _=(af (1<=B)&&af (B<=64 - x.n));rw[a0 (show 1<=B from K)];rfl
    .have F:=hC F;show bJ _=bJ (x.n+B);rw[bf _ (by omega)]
    .show _=(af (1<=B)&&af (B<=64 - x.n));rw[a2 (show ¬1<=B from K)];rfl
  .refine e.ax (DR x z) ?_;rintro _ A rfl c;exact⟨_,_,_,rfl,c.ak λI j=>⟨⟨_,true,rfl,rfl,λ_=>rfl⟩,j.fr⟩⟩
  .exact e.ak λA c=>⟨⟨x,true,rfl,rfl,λ_=>rfl⟩,c.fr⟩
  .refine e.ax (fo _ z) ?_;rintro _ A rfl c;exact⟨_,_,_,rfl,c.ak λI j=>⟨⟨_,true,rfl,rfl,λ_=>rfl⟩,j.fr⟩⟩
  .refine e.ax (fo _ z) ?_;rintro _ A rfl c;exact⟨_,_,_,rfl,c.ak λI j=>⟨⟨_,true,rfl,rfl,λ_=>rfl⟩,j.fr⟩⟩
  .refine e.ak λA c=>c.ax (fo _ A) ?_;rintro _ I rfl j;refine⟨_,_,_,rfl,aQ (λK=>j.ak λN q=>⟨⟨_,_,rfl,?_,λF=>rfl⟩,q.fr⟩) (λK=>j.ak λN q=>⟨⟨_,false,rfl,?_,λF=>by cases F⟩,q.fr⟩)⟩
   .show _=(af (0<=B)&&af (B<=63));rw[a0 (show 0<=B from K)];rfl
   .show _=(af (0<=B)&&af (B<=63));rw[a2 (show ¬0<=B from K)];rfl
  .refine eu (u e) E D λp O _=>e.ak λA c=>?_;have P:=fS (u c) E D O;refine⟨_,P.c1,eu (u c) E D λac G _=>?_⟩;have Q:=fS (u c) E D G;refine⟨_,Q.c1,c.ax (mY _ A) ?_⟩;rintro _ I rfl j;refine⟨_,_,_,rfl,(fS (u j) E D G).c1,j.ak λN q=>⟨(fS (u q) E D G).c1,⟨_,_,rfl,?_,λ_=>?_⟩,q.fr⟩⟩
   .rw [bf _ (by omega)];rfl
   .show eW _=eW (x.n+y.n);rw[bf _ (by omega)]
  .exact e.ak λA c=>⟨⟨x,true,rfl,rfl,λ_=>rfl⟩,c.fr⟩
  .refine e.ax (fo _ z) ?_;rintro _ A rfl c;exact⟨_,_,_,rfl,c.ak λI j=>⟨⟨_,true,rfl,rfl,λ_=>rfl⟩,j.fr⟩⟩
  .refine eu (u e) S M λp O _=>e.ak λA c=>?_;have P:=fS (u c) S M O;refine⟨_,P.c1,eu (u c) S M λac G _=>?_⟩;have Q:=fS (u c) S M G;refine⟨_,Q.c1,c.ax (mY _ A) ?_⟩;rintro _ I rfl j;refine⟨_,_,_,rfl,(fS (u j) S M G).c1,j.ak λN q=>⟨(fS (u q) S M G).c1,⟨_,_,rfl,?_,λ_=>?_⟩,q.fr⟩⟩
   .rw [bf _ (by omega)];rfl
   .show eW _=eW (x.n+T.n);rw[bf _ (by omega)]
  .omega
  .refine e.ax (mY _ z) ?_;rintro _ A rfl c;exact⟨_,_,_,rfl,c.ak λI j=>⟨⟨_,true,rfl,rfl,λ_=>rfl⟩,j.fr⟩⟩
 have S0:∀z:C,(H=16\/H=17\/H=18\/H=33)->Z F0 w z [.g b2,.g b4,.g b6] [sI k ks]->wM.aS b4 0 0 0 z λr Y=>zU ⟨H,kids,B,m,aa,tx,st⟩ x y T r/\aj w Y:=by
  intro z ho e;refine e.ax (fo 1 z) ?_;rintro _ A rfl c;refine⟨_,_,_,rfl,c.ak λI j=>⟨⟨_,true,rfl,?_,λ_=>?_⟩,j.fr⟩⟩
  .rcases ho with rfl|rfl|rfl|rfl<;>rfl
  .rcases ho with rfl|rfl|rfl|rfl<;>rfl
 exact aJ (λh=>a8 (beq_iff_eq.2 h) (W.ak λz e=>S0 z (.inl h) e)) λh1=>aJ (λh=>a8 (beq_iff_eq.2 h) (W.ak λz e=>S0 z (.inr (.inl h)) e)) λh2=>aJ (λh=>a8 (beq_iff_eq.2 h) (W.ak λz e=>S0 z (.inr (.inr (.inl h))) e)) λh3=>aJ (λh=>W.ak λz e=>S0 z (.inr (.inr (.inr h))) e) λam=>W.ak λz e=>S1 z h1 h2 h3 am e
def PV:gJ V y4 b3 (.agg #[.int .i64 0,.int .i64 0,.int .i64 0]) 3 24:=⟨by kernel_rfl,by kernel_rfl,rfl,by decide,by decide⟩
def tk(t:ByteArray):Prop:=t.size<=100000/\∃b,mZ (bl t)=some b
def tk.can{t:ByteArray}(h:tk t):mZ (bl t)=some (m0 t):=by obtain⟨b,c⟩:=h.2;unfold m0;rw[c];cases b<;>rfl
structure nS(d:Nx):Prop where
 kl:d.kids.length<=eZ
 n:bn d.n
 m:bn d.m
 tx:d.op=33->tk d.tx
structure s9(g:List Nx):Prop where
 len:g.length<=eZ
 val:∀d∈g,cb d.st=true
 vars:v9 g
def RC{l:List Nd}{n:Nx}{i:Nat}{k:Int}{e:Nd}(d:n.kids[i]? =some k)(c:l[k.toNat]? =some e):b0 (xs l) n i=e.x.st:=by unfold b0;rw[d];dsimp only;rw[sZ c]
def TO(i:Nat)(f:Nat->bt):((List.range (i+1)).map f).flatMap gm=((List.range i).map f).flatMap gm++gm (f i):=by rw[List.range_succ];simp
def Rz{op:Int}{m:Nat}(h:cS op=(m:Int))(c:m≠0):4<=op/\op<=34:=by
 unfold cS at h;split at h
 .omega
 .split at h
  .omega
  .omega
def RB{op:Int}(h:cS op=0):0<=op/\op<=3:=by
 unfold cS at h;split at h
 .omega
 .split at h
  .omega
  .split at h
   .omega
   .split at h<;>omega
def Qr{g:List Nx}{n:Nx}(h:ml g n=0):(cS n.op==(n.kids.length:Int)&&n.kids.all (fv g)&&iT n)=true:=by
 unfold ml at h;split at h
 .assumption
 .omega
def RH{g:List Nx}{n:Nx}(j:∀e∈g,cb e.st=true)(h:n.kids.all (fv g)=true){i:Nat}(hi:i<n.kids.length):cb (b0 g n i)=true:=by
 have c:=fF.1 h _ (yx hi);unfold fv at c;simp only[bC,decide_eq_true_eq]at c;unfold b0;rw[a9 hi];dsimp only;have d:(n.kids[i]).toNat<g.length:=by omega
 rw[a9 d];exact j _ (yx d)
def wo{w:C}{s:J}{l:List Nd}{d:Nd}(h:GP w s l)(hd:d.P w)(hg:s9 (xs l))(W:nS d.x):
  ah V r0 #[s.v,d.v] w λr O=>r=gk (ck (xs l) d.x)/\aj w O:=by
 have hn:=g0 h;have az:(xs l).length=l.length:=by simp[xs]
 have aD:d.ks.n=d.x.kids.length:=bo.len hd;have hl:=hg.len;have hk:=W.kl;rw[az]at hl;refine rE.aB _ _ _ _ _ _ _ _ _ _ w _ ((uu h hd).aN λag w1 H1=>H1.aN λK w2 H2=>H2.ax (OA (bU.1 (H2.getD 0)) (H2.getD 1) hk) ?_);rintro _ w3 rfl H;refine⟨_,rfl,cD (λae=>H.ak λy j=>⟨?_,j.fr⟩) (λh0=>?_)⟩
 .unfold ck;unfold ml at ae ⊢;split
  .rename_i q;rw[aA q]at ae;exact absurd rfl ae
  .rename_i q;rw[i4]at q;rw[q];rfl
 have N:=Qr h0;have au:cS d.x.op=(d.x.kids.length:Int):=by simp only[bC]at N;exact eq_of_beq N.1.1
 have am:d.x.kids.all (fv (xs l))=true:=by simp only[bC]at N;exact N.1.2
 have A:ck (xs l) d.x=if d.x.op<=3 then cH (xs l) d.x else
   if dm d.x.op (b0 (xs l) d.x 0) (b0 (xs l) d.x 1) (b0 (xs l) d.x 2)=false then(cZ,9)else
   if jV d.x (b0 (xs l) d.x 0) (b0 (xs l) d.x 1) (b0 (xs l) d.x 2)=false then(cZ,5)else
   if d.x.op=33/\m0 d.x.tx=false then(cZ,2)else(hx d.x (b0 (xs l) d.x 0) (b0 (xs l) d.x 1) (b0 (xs l) d.x 2),0):=by unfold ck;rw[N];rfl
 refine aJ (λav=>?_) (λav=>?_)
 .have hz:=RB (op:=d.x.op) (by omega);refine H.ax (OK (bU.1 (H.getD 0)) (H.getD 1) hl hz.1 hz.2 hg.vars) ?_;rintro _ y rfl j;refine⟨_,_,_,_,rfl,j.ak λY E=>⟨?_,E.fr⟩⟩;rw[A,aA hz.2]
 have S:=Rz (op:=d.x.op) au (by omega);rw[aq (by omega)]at A;unfold eZ at hk hl;have loop:∀(m i:Nat) (F:J) (y:C),i+m=d.x.kids.length->Z F0 w y [.g ag,.g K,.row b3 3 F (((List.range i).map (b0 (xs l) d.x)).flatMap gm)] (kS s l d)->
   rE.aH s ag d.x.op d.ks d.x.n d.x.m d.x.u d.x.tx d.x.st.k d.x.st.n d.x.st.x K 0 0 0 F (i:Int) y λr O=>r=gk (ck (xs l) d.x)/\aj w O:=by
  intro m;induction m with
  |zero=>
   intro i F y hi j;have hi:i=d.x.kids.length:=by omega
   subst hi;have R4:bF 3 y F (((List.range d.x.kids.length).map (b0 (xs l) d.x)).flatMap gm):=(j.get 2:aG _ _ _ _ _).bh;have G:∀B,B<d.x.kids.length->((List.range d.x.kids.length).map (b0 (xs l) d.x))[B]? =some (b0 (xs l) d.x B):=λB hj=>by rw[jk,List.getElem?_range hj];rfl
   have af:∀B,B<d.x.kids.length->cb (b0 (xs l) d.x B)=true:=λB hj=>RH hg.val am hj;refine rE.bD _ _ _ _ _ _ _ _ _ _ _ _ _ _ _ _ _ _ _ (bb (a2 (by omega)) (j.ax (OB d.x.op R4 (G 0 (by omega)) (λh2=>G 1 (by omega)) (λh3=>G 2 (by omega)) S.1 S.2) ?_));rintro _ Y rfl E;refine⟨_,rfl,eJ (λab=>E.ak λw6 H6=>⟨by rw[A,aA ab];rfl,H6.fr⟩) (λab=>?_)⟩;rw[aq (by rw[ab];simp)]at A;have R5:bF 3 Y F (((List.range d.x.kids.length).map (b0 (xs l) d.x)).flatMap gm):=(E.get 2:aG _ _ _ _ _).bh;refine E.ax (OY d R5 (G 0 (by omega)) (λh2=>G 1 (by omega)) (λh3=>G 2 (by omega)) S.1 S.2 (af 0 (by omega)) (λh2=>af 1 (by omega)) (λh3=>af 2 (by omega)) W.n W.m) ?_;rintro _ w6 ⟨t,b,rfl,M,ht⟩ H6;refine⟨_,_,_,_,rfl,H6.aN λaa w7 H7=>eJ (λao=>H7.ak λD z=>⟨?_,z.fr⟩) (λal=>?_)⟩
   .rw [A,aA (by rw[<-M,ao])];rfl
   rw[aq (by rw[<-M,al];simp)]at A;have ht:=ht al;have S1:∀(c:Bool) (D:C) (L:List En),(d.x.op=33/\m0 d.x.tx=false↔c=false)->En.g K∈L->En.g aa∈L->Z F0 w D L (kS s l d)->rE.aZ K 0 0 0 aa t.k t.n t.x c D λr O=>r=gk (ck (xs l) d.x)/\aj w O:=by
    intro c D L q m4 aC z;have ai:∀b∈[K,aa],En.g b∈L:=by
     intro b M;simp only[ay,aW,a3]at M;rcases M with rfl|rfl
     .exact m4
     .exact aC
    refine eJ (λap=>z.ak (λw9 I=>⟨?_,I.fr⟩) ai) (λar=>z.ak (λw9 I=>⟨?_,I.fr⟩) ai)
    .rw [A,aA (q.2 ap)];rfl
    .rw [A,aq (λh=>by rw[ar]at q;cases q.1 h),ht]
   refine cD (λQ=>H7.ak λD z=>S1 true D _ ⟨λh=>absurd h.1 Q,λh=>by cases h⟩ (by simp) (by simp) z) (λQ=>H7.ak λD z=>?_);have an:=W.tx Q;refine z.ax (N5 d.x.tx an.1 _ an.can D) ?_;rintro _ w9 rfl I;exact⟨_,rfl,S1 _ w9 _ ⟨λh=>h.2,λh=>⟨Q,h⟩⟩ (by simp) (by simp) I⟩
  |succ m ih=>
   intro i F y hi j;have T:d.x.kids[i]? =some (d.x.kids[i]'(by omega)):=a9 (by omega);have ad:=fF.1 am _ (aE T);generalize d.x.kids[i]'(by omega)=kx at T ad;unfold fv at ad;simp only[bC,decide_eq_true_eq]at ad;have ac:l[kx.toNat]? =some (l[kx.toNat]'(by omega)):=a9 (by omega);generalize l[kx.toNat]'(by omega)=e at ac;have aw:bo y d.ks d.x.kids:=j.getD 1;have aF:=Nd.cu (show bF 9 y s (l.flatMap Nd.c)from(bU.1 (j.getD 0)).1);refine rE.bD _ _ _ _ _ _ _ _ _ _ _ _ _ _ _ _ _ _ _ (a8 (a0 (by omega)) ⟨by omega,by omega,aw.cell T (by omega) λp hp q=>⟨kx,q,gN (bU.1 (j.getD 0)) (i:=kx.toNat) (by omega) ac λaI hq c=>⟨_,_,_,c.s0,c.s1,c.s2,?_⟩⟩⟩);have hlen:F.n=i:=by have:=(j.get 2:aG _ _ _ _ _).len;rw[LD]at this;simp at this;omega
   refine j.hL 2 PV rfl (λs' Y E=>?_) (by omega);rw[bA _ (by omega)];refine ih (i+1) s' Y (by omega) ?_;rw[TO,RC T ac];exact E
 exact loop d.x.kids.length 0 ⟨none,0,0⟩ w3 (by omega) (H.gP b3 3)
def ja:gJ V c' bV (.agg #[.int .i64 0,.slice none 0 0,.int .i64 0,.int .i64 0,.int .u64 0,.string (av #[]),.int .i64 0,.int .i64 0,.int .i64 0]) 9 96:=⟨by kernel_rfl,by kernel_rfl,rfl,by decide,by decide⟩
def lK{l:List Nd}:∀e∈l.flatMap Nd.c,e.oneCell'=true:=by intro e d;obtain⟨h,_,d⟩:=cj.1 d;simp only[Nd.c,ay,aW,a3]at d;rcases d with rfl|rfl|rfl|rfl|rfl|rfl|rfl|rfl|rfl<;>rfl
def pk{w:C}{b n sz:Nat}{cs:List ab}{T:aF}(h:w.heap[b]? =some (.cells cs.toArray T (0,0)))(d:cs.length=n *sz):bF sz w ⟨some (ag b),n,n⟩ cs:=
 ⟨d,b' _,⟨λh=>(by cases h),λi v c=>⟨ag b,rfl,cellAt (p:=ag b) h rfl (by simpa using c)⟩⟩⟩
def Oi{w:C}{a b:Nd}(Y:a.P w)(hb:b.P w)(S:a.x.kids.length<=eZ):ah V Cl #[a.v,b.v] w λr w'=>r=U (.bool (af (a.x=b.x)))/\aj w w':=by
 have T:Z F0 w w [] [dY a,dY b]:=bN _ (by
  intro ab Q;simp only[ay,aW,a3]at Q;rcases Q with rfl|rfl
  .exact Y
  .exact hb)
 obtain⟨⟨H,B,F,m,M,J,st⟩,sl⟩:=a;obtain⟨⟨I,D,G,E,N,K,y⟩,aa⟩:=b;have no:∀{O:C} {L:List En},Z F0 w O L [dY ⟨⟨H,B,F,m,M,J,st⟩,sl⟩,dY ⟨⟨I,D,G,E,N,K,y⟩,aa⟩]->(⟨H,B,F,m,M,J,st⟩:Nx)≠⟨I,D,G,E,N,K,y⟩->(Ending.returned (.bool false)=U (.bool (af ((⟨H,B,F,m,M,J,st⟩:Nx)=⟨I,D,G,E,N,K,y⟩)))/\aj w O):=λz c=>⟨by rw[a2 c],z.fr⟩;refine HF.aB _ _ _ _ _ _ _ _ _ _ _ _ _ _ _ _ _ _ w _ (T.aN λb2 O z=>z.aN λb3 w2 d=>?_);refine aJ (λe=>?_) (λe=>no d (λc=>e (congrArg Nx.op c)));refine aJ (λh=>?_) (λh=>no d (λc=>h (congrArg Nx.n c)));refine aJ (λj=>?_) (λj=>no d (λc=>j (congrArg Nx.m c)));refine aJ (λk=>?_) (λk=>no d (λc=>k (congrArg Nx.u c)));refine yH (λq=>?_) (λq=>no d (λc=>q (congrArg Nx.tx c)));refine mE (a:=st) (b:=y) (λA=>?_) (λA=>no d (λc=>A (congrArg Nx.st c)));refine d.ax (Uj (d.getD 0) (d.getD 1) (by unfold eZ at S;simp only at S ⊢;omega)) ?_;rintro _ w3 rfl W;refine⟨_,rfl,?_,W.fr⟩;simp only at e h j k q;subst e h j k q A;simp
def IX{g:List Nx}{n:Nx}{s:bt}(h:ck g n=(s,0)):ck g (gH n s)=(s,0):=by
 unfold ck at h;unfold ck;have j:(cS (gH n s).op==((gH n s).kids.length:Int)&&(gH n s).kids.all (fv g)&&iT (gH n s))=(cS n.op==(n.kids.length:Int)&&n.kids.all (fv g)&&iT n):=rfl;rw[j];split at h
 .simp at h
 .rename_i k;rw[aq k];have e:(gH n s).op=n.op:=rfl;rw[e];split at h
  .rename_i d;rw[aA d];unfold cH at h;by_cases c:n.op=2
   .rw [aA c]at h;unfold cH;rw[e,aA c];exact h
   .rw [aq c]at h;have q:s=n.st:=by
     split at h
     .simp at h
     .split at h
      .simp at h
      .split at h
       .simp at h
       .split at h
        .simp at h
        .split at h
         .simp at h
         .exact (congrArg Prod.fst h).symm
    have:gH n s=n:=by rw[q];rfl
    rw[this];unfold cH;rw[aq c];exact h
  .rename_i d;rw[aq d];exact h
def lA(g:List Nx)(n:Nx):Option Nat:=gO (if(ck g n).2=0 then gH n (ck g n).1 else n) g 0
def JL:Option Nat->Int
 |some i=>(i:Int)
 |none=>-1
def FU{w:C}{s:J}{l:List Nd}{d:Nd}(h:GP w s l)(hd:d.P w)(T:s9 (xs l))(ho:nS d.x)(ab:∀e∈l,e.x.kids.length<=eZ):
  ah V xu #[s.v,d.v] w λr M=>r=U (.i (JL (lA (xs l) d.x)))/\aj w M:=by
 have hn:=g0 h;have ac:(xs l).length=l.length:=by simp[xs]
 have W:=T.len;rw[ac]at W;unfold eZ at W;have loop:∀(m i:Nat) (c:Nat) (y:C) (e:Nd) (L:List En),e.ks=d.ks->e.x.kids=d.x.kids->i+m=l.length->gO e.x ((xs l).drop i) i=lA (xs l) d.x->En.g c∈L->Z F0 w y L (kS s l d)->
   t'.bO s c e.x.op e.ks e.x.n e.x.m e.x.u e.x.tx e.x.st.k e.x.st.n e.x.st.x (i:Int) y λr M=>r=U (.i (JL (lA (xs l) d.x)))/\aj w M:=by
  intro m;induction m with
  |zero=>
   intro i c y e L H I hi z G q;rw[c9 (by omega)]at z;exact t'.eh _ _ _ _ _ _ _ _ _ _ _ _ _ _ (bb (a2 (by omega)) ⟨by rw[<-z];rfl,q.fr⟩)
  |succ m ih=>
   intro i c y e L H I hi z G q;have A:l[i]? =some (l[i]'(by omega)):=a9 (by omega);have hx:(xs l).drop i=(l[i]'(by omega)).x::(xs l).drop (i+1):=by rw[dZ (by omega:i<(xs l).length)];simp[xs]
   rw[hx]at z;generalize l[i]'(by omega)=a at A z;have aa:∀b∈[c],En.g b∈L:=by simpa using G
   refine t'.eh _ _ _ _ _ _ _ _ _ _ _ _ _ _ (a8 (a0 (by omega)) (gN (bU.1 (q.getD 0)) rfl A λp hp _=>q.ak (λN E=>?_) aa));have O:GP N s l:=bU.1 (E.getD 0);have j:=ng O A hp (rfl:((i:Int))=(i:Int));have pe:e.P N:=by show bo N e.ks e.x.kids;rw[H,I];exact E.getD 1
   refine⟨_,_,_,_,_,_,_,_,_,j.c0,j.c1,j.c2,j.c3,j.c4,j.c5,j.c6,j.c7,j.c8,E.ax (Oi (a:=a) (b:=e) (O.2 a (aE A)) pe (ab a (aE A))) ?_⟩;rintro _ w6 rfl S;have B:(if a.x=e.x then some i else gO e.x ((xs l).drop (i+1)) (i+1))=lA (xs l) d.x:=z;refine⟨_,rfl,aQ (λK=>⟨?_,S.fr⟩) (λK=>?_)⟩
   .rw [aA K]at B;rw[<-B];rfl
   .rw [aq K]at B;rw[bA _ (by omega)];exact ih (i+1) c w6 e L H I (by omega) B G S
 refine t'.aB _ _ _ _ _ _ _ _ _ _ w _ ((uu h hd).aN λc w1 D=>D.ax (wo (bU.1 (D.getD 0)) (D.getD 1) T ho) ?_);rintro _ w2 rfl Y;refine⟨_,_,_,_,rfl,Y.aN λb5 w3 Q=>aJ (λF=>Q.ak λy q=>?_) (λF=>Q.ak λy q=>?_)⟩
 .exact loop l.length 0 c y ⟨gH d.x (ck (xs l) d.x).1,d.ks⟩ _ rfl rfl (by omega) (by unfold lA;rw[aA F];rfl) (by simp) q
 .exact loop l.length 0 c y d _ rfl rfl (by omega) (by unfold lA;rw[aq F];rfl) (by simp) q
structure GR(w:C)(B:Nat->Prop)(g:List Nx)(s:J)(w':C):Prop where
 ex:∃l':List Nd,xs l'=g/\GP w' s l'/\∀b∈(En.gr s l').fp,B b\/w.heap.size<=b
def GR.nil(w:C)(c:Nat->Prop)(w':C):GR w c [] ⟨none,0,0⟩ w':=⟨⟨[],rfl,⟨bF.nil 9 w',by simp⟩,λb e=>by
 rcases oc.1 e with d|⟨j,h,_⟩
 .cases d
 .cases h⟩⟩
def OR{w:C}{s:J}{l:List Nd}{d:Nd}(h:GP w s l)(hd:d.P w)(Q:s9 (xs l))(G:nS d.x)(af:∀k∈l,k.x.kids.length<=eZ):
  ah V Ck #[s.v,d.v] w λr w'=>(∃u:J,r=U (.tuple #[u.v,.i (gX (xs l) d.x).2.1,.i (gX (xs l) d.x).2.2])/\GR w (λb=>b∈(En.gr s l).fp\/b∈(dY d).fp) (gX (xs l) d.x).1 u w')/\aj w w':=by
 have hn:=g0 h;have aa:(xs l).length=l.length:=by simp[xs]
 refine HB.aB _ _ _ _ _ _ _ _ _ _ w _ ((uu h hd).aN λb3 w1 M=>M.ax (wo (bU.1 (M.getD 0)) (M.getD 1) Q G) ?_);rintro _ w2 rfl H2;refine⟨_,_,_,_,rfl,H2.aN λb7 w3 H3=>cD (λK=>H3.ak λw4 D=>⟨⟨⟨none,0,0⟩,?_,?_⟩,D.fr⟩) (λK=>H3.ak λw4 D=>?_)⟩
 .unfold gX;rw[aA K]
 .unfold gX;rw[aA K];exact GR.nil _ _ _
 have hs:ck (xs l) d.x=((ck (xs l) d.x).1,0):=by rw[<-K]
 have an:=IX hs;have ai:lA (xs l) (gH d.x (ck (xs l) d.x).1)=gO (gH d.x (ck (xs l) d.x).1) (xs l) 0:=by unfold lA;rw[an];rfl
 have e:gX (xs l) d.x=match gO (gH d.x (ck (xs l) d.x).1) (xs l) 0 with
   |some i=>(xs l,(i:Int),0)
   |none=>if 4096<=(xs l).length then([],0,4)else(xs l++[gH d.x (ck (xs l) d.x).1],((xs l).length:Int),0):=by unfold gX;rw[aq (by omega)];try rfl
 generalize ao:(ck (xs l) d.x).1=sr at *
 let k:Nd:=⟨gH d.x sr,d.ks⟩
 have al:nS k.x:=⟨G.kl,G.n,G.m,G.tx⟩;refine D.ax (FU (d:=k) (bU.1 (D.getD 0)) (D.getD 1) Q al af) ?_;rintro _ w5 rfl E;rw[show lA (xs l) k.x=gO (gH d.x sr) (xs l) 0 from ai];refine⟨_,rfl,?_⟩;cases hi:gO (gH d.x sr) (xs l) 0 with
 |some i=>
  rw[hi]at e;rw[e];exact a8 (a0 (Int.natCast_nonneg i)) ⟨⟨s,rfl,⟨l,rfl,bU.1 (E.getD 0),λb B=>.inl (.inl B)⟩⟩,E.fr⟩
 |none=>
  rw[hi]at e;dsimp only at e;refine bb (by decide) ?_;refine aQ (λh4=>⟨⟨⟨none,0,0⟩,?_,?_⟩,E.fr⟩) (λh4=>?_)
  .rw [e,aA (by omega)]
  .rw [e,aA (by omega)];exact GR.nil _ _ _
  rw[aq (by omega)]at e;rw[e];have O:∀{q:C} {L:List En},Z F0 w q L (kS s l d)->bF 9 q s (l.flatMap Nd.c):=λad=>(bU.1 (ad.getD 0)).1;have fin:∀(u:J) (q:C) (L:List En) (j:Nat),Z F0 w q L (kS s l d)->L[j]? =some (.row bV 9 u (l.flatMap Nd.c++k.c))->
    (∃ac:J,Ending.returned (.tuple #[u.v,.i ((s.n:Nat):Int),.i 0])=U (.tuple #[ac.v,.i ((xs l).length:Int),.i 0])/\GR w (λb=>b∈(En.gr s l).fp\/b∈(dY d).fp) (xs l++[gH d.x sr]) ac q)/\aj w q:=by
   intro u q L j y hj;have am:bF 9 q u ((l++[k]).flatMap Nd.c):=by have:aG q bV 9 u (l.flatMap Nd.c++k.c):=y.get j hj;have:=this.bh;simpa using this
   refine⟨⟨u,by rw[aa,hn],⟨l++[k],by simp[xs,k],⟨am,λa e=>?_⟩,λb B=>?_⟩⟩,y.fr⟩
   .rcases a6.1 e with e|e
    .exact (bU.1 (y.getD 0)).2 a e
    .simp only[ay,aW,a3]at e;subst e;exact y.getD 1
   .rcases oc.1 B with B|⟨a,e,B⟩
    .right;have ae:b∈(En.row bV 9 u (l.flatMap Nd.c++k.c)).fp:=by
      have:b∈(if(l++[k]).flatMap Nd.c=[]then[]else aO u):=B;split at this
      .cases this
      .exact this
     exact(y.new _ (aE hj) b ae).resolve_right id
    .rcases a6.1 e with e|e
     .exact .inl (.inl (oc.2 (.inr ⟨a,e,B⟩)))
     .simp only[ay,aW,a3]at e;subst e;exact .inl (.inr B)
  have ab:∀S∈k.c,S.oneCell'=true:=λS hu=>lK (l:=[k]) S (by simpa using hu);have hl:=Q.len;rw[aa]at hl;unfold eZ at hl;refine⟨E.ak λq y=>y.cB (n:=0) (sz:=9) (cs:=[]) rfl (by decide) λY F=>⟨?_,?_⟩,E.ak λq y=>y.nw λY _ F=>F.cB (n:=0) (sz:=9) (cs:=[]) rfl (by decide) λw8 A=>?_⟩
  .refine F.ep 2 ja (s:=⟨some (ag q.heap.size),0,0⟩) (src:=s) rfl (O F) lK (by simp only;omega) (λs1 w8 A=>?_);have H:=(A.get 2:aG _ _ _ _ _).len;rw[h0,Nd.ee]at H;refine A.hL 2 ja rfl (λI w9 z=>?_) (by omega);exact fin I w9 _ 2 z rfl
  .refine F.nw λw8 _ A=>?_;refine A.ep 2 ja (s:=⟨some (ag q.heap.size),0,0⟩) (src:=s) rfl (O A) lK (by simp only;omega) (λs1 w9 z=>?_);have H:=(z.get 2:aG _ _ _ _ _).len;rw[h0,Nd.ee]at H;refine z.ep 2 ja (src:=⟨some (ag Y.heap.size),1,1⟩) rfl (pk (cs:=k.c) (T:=bV) (z.ob 3) rfl) ab (by simp only;omega) (λI W N=>?_);exact fin I W _ 2 N rfl
  .refine A.ep 3 ja (s:=⟨some (ag Y.heap.size),0,0⟩) (src:=s) rfl (O A) lK (by simp only;omega) (λs1 w9 z=>?_);have H:=(z.get 3:aG _ _ _ _ _).len;rw[h0,Nd.ee]at H;refine z.ep 3 ja (src:=⟨some (ag q.heap.size),1,1⟩) rfl (pk (cs:=k.c) (T:=bV) (z.ob 2) rfl) ab (by simp only;omega) (λI W N=>?_);exact fin I W _ 3 N rfl
def F5{d:Sp}(M:pa d){i aD:Int}{w:C}(J:j6 w d):ah V xE #[d.v,.i i,.i aD] w (ej w (gp d.x i aD)):=by
 refine rI.aB _ _ _ _ _ _ _ _ _ w _ ((bN (w:=w) [d.hE,d.lE] (by
  intro q K;simp only[ay,aW,a3]at K;rcases K with rfl|rfl
  .exact J.2.2
  .exact J.2.1)).aN λb w1 A=>?_)
 refine aQ (λc=>⟨by rw[vx (.inl c)],A.fr⟩) (λW=>aQ (λc=>⟨by rw[vx (.inr c)],A.fr⟩) (λY=>A.ax (F' (l:=d.x.cY) (A.getD 1) (by have:=M.2.1;omega)) ?_));have G:¬(d.x.kind<0\/d.x.kind>5):=by omega
 rintro _ N rfl D;refine⟨_,rfl,cD (λc=>⟨by rw[LM G c],D.fr⟩) (λz=>?_)⟩;have I:∀H:Bool,(H=false↔(bl d.x.nm≠[]/\gg (bl d.x.nm)=false))->∀y,Z F0 w y [.g b] [d.hE,d.lE]->rI.aZ i aD b d.x.kind d.x.node d.x.dD d.p d.x.nm d.l d.h H y (ej w (gp d.x i aD)):=by
  intro H L y e;refine eJ (λn=>⟨by rw[LQ G z (L.1 n)],e.fr⟩) (λn=>?_);have n:¬(bl d.x.nm≠[]/\gg (bl d.x.nm)=false):=λc=>by rw[L.2 c]at n;cases n
  have F:bo y d.h d.x.hints:=e.getD 0;have aa:=bo.len F;have q:=LN (i:=i) (aD:=aD) G z n;have loop:∀(k j:Nat),j+k=d.x.hints.length->d.x.hints.all (λc=>af (0<=c)&&af (c<i))=(d.x.hints.drop j).all (λc=>af (0<=c)&&af (c<i))->rI.dy i aD b d.x.kind d.x.node d.x.dD d.p d.x.nm d.l d.h (j:Int) y (ej w (gp d.x i aD)):=by
   intro k;induction k with
   |zero=>
    intro j S u;rw[c9 (by omega),List.all_nil]at u;rw[u,aA rfl]at q;refine rI.ha _ _ _ _ _ _ _ _ _ _ _ _ _ (bb (a2 (by omega)) (aJ (λE=>aQ (λc=>⟨by rw[q,aA ⟨E,.inl c⟩],e.fr⟩) (λP=>aQ (λc=>⟨by rw[q,aA ⟨E,.inr c⟩],e.fr⟩) (λQ=>⟨by rw[q,aq (by omega)],e.fr⟩))) (λE=>⟨by rw[q,aq (by omega)],e.fr⟩)))
   |succ k T=>
    intro j S u;have B:d.x.hints[j]? =some d.x.hints[j]:=a9 (by omega);generalize d.x.hints[j]=x at B;rw[lu B,List.all_cons]at u;refine rI.ha _ _ _ _ _ _ _ _ _ _ _ _ _ (a8 (a0 (by omega)) ⟨by omega,by omega,bo.cell F B (by rw[bT]) λp _ z=>⟨x,z,aQ (λc=>⟨?_,e.fr⟩) (λP=>⟨by omega,by omega,bo.cell F B (by rw[bT]) λp _ z=>⟨x,z,aQ (λc=>⟨?_,e.fr⟩) (λQ=>?_)⟩⟩)⟩⟩)
    .rw [q,u,a2 (by omega)];rfl
    .rw [q,u,a2 (show ¬x<i by omega)];simp
    .rw [bA _ (by have:=M.2.2;omega)];exact T (j+1) (by omega) (by rw[u,a0 (show 0<=x by omega),a0 (show x<i by omega)];rfl)
  exact loop d.x.hints.length 0 (by omega) rfl
 refine yH (λn=>I true ⟨λc=>(by cases c),λc=>absurd (r'.1 n) c.1⟩ N D) (λn=>D.ax (F2 d.x.nm N) ?_);rintro _ y rfl e;exact⟨_,rfl,I _ ⟨λc=>⟨λO=>n (r'.2 O),c⟩,λc=>c.2⟩ y e⟩
def pI:gJ V gu dk (.agg #[.int .i64 0,.int .i64 0,.int .i64 0,.slice none 0 0,.string (av #[]),.slice none 0 0,.slice none 0 0]) 7 112:=⟨by kernel_rfl,by kernel_rfl,rfl,by decide,by decide⟩
namespace Sp
def jE(d:Sp):(c d).length=7:=rfl
def ee(l:List Sp):(l.flatMap c).length=l.length *7:=nc c 7 jE l
def one{l:List Sp}:∀e∈l.flatMap c,e.oneCell'=true:=by intro e d;obtain⟨h,_,d⟩:=cj.1 d;simp only[c,ay,aW,a3]at d;rcases d with rfl|rfl|rfl|rfl|rfl|rfl|rfl<;>rfl
structure fJ(w:C)(p:Addr)(i:Nat)(d:Sp):Prop where
 c0:w.cell? ((p.add (i *7)).add 0)=some (.i d.x.kind)
 c1:w.cell? ((p.add (i *7)).add 1)=some (.i d.x.node)
 c2:w.cell? ((p.add (i *7)).add 2)=some (.i d.x.dD)
 c3:w.cell? ((p.add (i *7)).add 3)=some d.p.v
 c4:w.cell? ((p.add (i *7)).add 4)=some (.string d.x.nm)
 c5:w.cell? ((p.add (i *7)).add 5)=some d.l.v
 c6:w.cell? ((p.add (i *7)).add 6)=some d.h.v
end Sp
def fk(w:C)(s:J)(l:List Sp):Prop:=bF 7 w s (l.flatMap Sp.c)/\∀d∈l,j6 w d
def fk.n{w:C}{s:J}{l:List Sp}(h:fk w s l):s.n=l.length:=by have:=h.1.1;rw[Sp.ee]at this;omega
def fk.get'{w:C}{s:J}{l:List Sp}(h:fk w s l){i:Nat}{d:Sp}(hi:l[i]? =some d){K:Addr->Prop}(j:∀p,s.a=some p->Sp.fJ w p i d->K p):cd s.a K:=
 eY.elem (f:=Sp.c) (sz:=7) Sp.jE (by omega) h.1.2.2 hi λp k e=>j p k ⟨e 0 _ rfl,e 1 _ rfl,e 2 _ rfl,e 3 _ rfl,e 4 _ rfl,e 5 _ rfl,e 6 _ rfl⟩
def fk.again{w:C}{s:J}{l:List Sp}(h:fk w s l){i:Nat}{d:Sp}(hi:l[i]? =some d){p:Addr}(u:s.a=some p):Sp.fJ w p i d:=by have j:=h.get' hi (K:=λe=>∃k,s.a=some k/\Sp.fJ w k i d) (λe c q=>⟨e,c,q⟩);rw[u]at j;obtain⟨e,c,n⟩:=j;cases c;exact n
def fk.get{w:C}{s:J}{l:List Sp}(h:fk w s l){i:Nat}{d:Sp}(hi:l[i]? =some d){K:Addr->Prop}(j:∀p,Sp.fJ w p i d->K p):cd s.a K:=
 eY.elem (f:=Sp.c) (sz:=7) Sp.jE (by omega) h.1.2.2 hi λp k e=>j p ⟨e 0 _ rfl,e 1 _ rfl,e 2 _ rfl,e 3 _ rfl,e 4 _ rfl,e 5 _ rfl,e 6 _ rfl⟩
abbrev jq(l:List Sp):List En:=l.flatMap λc=>[c.pE,c.hE,c.lE]
def _root_.Go.W.En.sp(s:J)(l:List Sp):En:=.all (.bh 7 s (l.flatMap Sp.c)::jq l)
def sG{w:C}{l:List Sp}:(∀d∈jq l,d.P w)↔∀c∈l,j6 w c:=by
 constructor
 .intro h c j;have g:∀d∈[c.pE,c.hE,c.lE],d.P w:=λd e=>h d (cj.2 ⟨c,j,e⟩);exact⟨g c.pE (by simp),g c.lE (by simp),g c.hE (by simp)⟩
 .intro h d e;obtain⟨c,j,e⟩:=cj.1 e;simp only[ay,aW,a3]at e;rcases e with rfl|rfl|rfl
  .exact (h c j).1
  .exact (h c j).2.2
  .exact (h c j).2.1
def dp{w:C}{s:J}{l:List Sp}:(En.sp s l).P w↔fk w s l:=by
 constructor
 .exact λd=>⟨d (.bh 7 s (l.flatMap Sp.c)) (by simp),sG.1 λh e=>d h (List.mem_cons_of_mem _ e)⟩
 .intro d h e;rcases ay.1 e with rfl|e
  .exact d.1
  .exact sG.2 d.2 h e
abbrev dE(l:List Sp):List dz:=l.map Sp.x
def k2:List dz->Int->Int->Int
 |[],_,_=>0
 |s::r,i,c=>if gp s i c≠0 then gp s i c else k2 r (i+1) c
def u1(c:List dz):Int:=if c.length>1048576 then 4 else k2 c 0 0
def yX{l:List Sp}{i:Nat}{d:Sp}(h:l[i]? =some d):(dE l).drop i=d.x::(dE l).drop (i+1):=by
 have e:(dE l)[i]? =some d.x:=by rw[jk,h];rfl
 obtain⟨j,c⟩:=dh.1 e;rw[<-c];exact dZ j
section
variable {w0:C} {s ls:J} {l:List Sp} {b:Nat}
def IM(O:l.length<=1048576)(J:∀j∈l,pa j){E:Int}{D:List En}(x:En.sp s l∈D):∀(k i:Nat) (w:C) (L:List En),i+k=l.length->En.g b∈L->Z F0 w0 w L D->E=k2 ((dE l).drop i) (i:Int) ((ls.n:Nat):Int)->
  lN.dy b ls s s ((s.n:Nat):Int) (i:Int) w (ej w0 E):=by
 intro k;induction k with
 |zero=>
  intro i w L H q h e;have I:=(dp.1 (h.rd _ x)).n;rw[c9 (by simp;omega)]at e;exact lN.ha _ _ _ _ _ _ _ _ (bb (a2 (by omega)) ⟨by rw[e];rfl,h.fr⟩)
 |succ k K=>
  intro i w L H q h e;have A:=dp.1 (h.rd _ x);have I:=A.n;have u:l[i]? =some l[i]:=a9 (by omega);generalize l[i]=j at u;have F:=aE u;rw[yX u]at e;refine lN.ha _ _ _ _ _ _ _ _ (a8 (a0 (by omega)) ⟨by omega,by omega,A.get u λp c=>?_⟩);rw[bT];refine⟨_,_,_,_,_,_,_,c.c0,c.c1,c.c2,c.c3,c.c4,c.c5,c.c6,h.aN (λN P G=>G.ak (λQ y=>y.ax (IL (d:=j) (J j F) ((dp.1 (y.rd _ x)).2 j F)) ?_) (by simp[q])) (by simp[q])⟩;rintro _ M rfl z;refine⟨_,rfl,cD (λB=>⟨by rw[e];unfold k2;rw[aA B],z.fr⟩) (λB=>?_)⟩;rw[bA _ (by omega)];refine K (i+1) M _ (by omega) (by simp[q]) z ?_;rw[e];conv=>lhs;unfold k2
  rw[aq (by omega)];rfl
def Rk(x:l.length<=1000000000)(k:∀d∈l,pa d){w:C}(h:fk w s l):ah V ow #[.agg #[(⟨none,0,0⟩:J).v,s.v]] w (ej w (u1 (dE l))):=by
 have y:=h.n;refine lN.aB _ _ w _ ((bN (w:=w) [.sp s l] (by intro u j;rw[cO.1 j];exact dp.2 h)).aN λb q c=>bb rfl (aQ (λe=>⟨?_,c.fr⟩) (λe=>?_)))
 .unfold u1;rw[aA (by simp;omega)]
 .refine lN.eh _ _ _ _ _ _ _ _ (bb rfl ?_);refine IM (by omega) k (D:=[.sp s l]) (by simp) l.length 0 q _ (by omega) (by simp) c ?_;unfold u1;rw[aq (by simp;omega),List.drop_zero];rfl
def O4(O:l.length<=1048576)(K:∀j∈l,pa j){E:Int}{D:List En}(u:En.sp s l∈D):∀(k i:Nat) (w:C) (L:List En),i+k=l.length->En.g b∈L->Z F0 w0 w L D->E=k2 ((dE l).drop i) (i:Int) ((ls.n:Nat):Int)->
  n6.dy b ls s (i:Int) w (ej w0 E):=by
 intro k;induction k with
 |zero=>
  intro i w L I x e h;have J:=(dp.1 (e.rd _ u)).n;rw[c9 (by simp;omega)]at h;exact n6.ha _ _ _ _ _ _ (bb (a2 (by omega)) ⟨by rw[h];rfl,e.fr⟩)
 |succ k M=>
  intro i w L I x e h;have J:=(dp.1 (e.rd _ u)).n;have q:l[i]? =some l[i]:=a9 (by omega);generalize l[i]=j at q;have F:=aE q;rw[yX q]at h;have G:=dp.1 (e.rd _ u);refine n6.ha _ _ _ _ _ _ (a8 (a0 (by omega)) ⟨by omega,by omega,G.get' q λp H _=>e.ak (λP y=>?_) (by simp[x])⟩);have B:=dp.1 (y.rd _ u);have c:=B.again q H;rw[bT];refine⟨_,_,_,_,_,_,_,c.c0,c.c1,c.c2,c.c3,c.c4,c.c5,c.c6,y.ax (F5 (d:=j) (K j F) (B.2 j F)) ?_⟩;rintro _ N rfl z;refine⟨_,rfl,cD (λA=>⟨by rw[h];unfold k2;rw[aA A],z.fr⟩) (λA=>?_)⟩;rw[bA _ (by omega)];refine M (i+1) N _ (by omega) x z ?_;rw[h];conv=>lhs;unfold k2
  rw[aq (by omega)];rfl
end
def _root_.Go.W.Z.kR{M:Nat->Prop}{w0 w:C}{L D:List En}(H:Z M w0 w L D)(j:List En)(h:∀c∈j,((∀d∈D,d.P w)->c.P w)/\∀b∈c.fp,∃d∈D,b∈d.fp):Z M w0 w L j:=
 ⟨H.fr,H.own,λc e=>(h c e).1 H.rd,H.new,H.nd,λc e b n k x=>by obtain⟨d,u,q⟩:=(h c e).2 b n;exact H.dj d u b q k x⟩
abbrev cP(l:List Sp):En:=.all (jq l)
def gw{es:List En}{b:Nat}:b∈(En.all es).fp↔∃c∈es,b∈c.fp:=by unfold En.all;rw[a4,cj]
def lP{w:C}{b n sz:Nat}{cs:List ab}{T:aF}(h:w.heap[b]? =some (.cells cs.toArray T (0,0)))(c:cs.length=n *sz):bF sz w ⟨some (ag b),n,n⟩ cs:=pk h c
def _root_.Go.W.Z.tP{M:Nat->Prop}{w0 w w':C}{G L u D q:List En}(H:Z M w0 w (G++L) D)(j:Z (λb=>∃c∈L,b∈c.fp) w w' u q)(F:∀c∈q,∀b∈c.fp,w.heap.size<=b\/∃x∈D,b∈x.fp):Z M w0 w' (G++u) q:=by
 have y:=H.nd;rw[ea,gT]at y;have z:∀c∈G,∀b∈c.fp,b<w.heap.size/\∀g∈L,b∉g.fp:=λc d b e=>⟨c.lt w (H.own c (bS _ d)) b e,λg h k=>y.2.2 b (cj.2 ⟨c,d,e⟩) b (cj.2 ⟨g,h,k⟩) rfl⟩;have S:∀c∈u,∀b∈c.fp,∀g∈G,b∉g.fp:=λc d b e g h k=>by
  obtain⟨P,Q⟩:=z g h b k;rcases j.new c d b e with n|⟨B,A,n⟩
  .omega
  grind
 refine⟨H.fr.trans j.fr λE O N=>?_,λc d=>?_,j.rd,λc d b e=>?_,?_,λc d b e g h k=>?_⟩
 .obtain ⟨c,d,e⟩:=N;exact(H.new c (ef _ d) E e).resolve_left (by omega)
 .rcases a6.1 d with d|d
  .exact c.st w w' (λb e K=>j.fr.cA b K λ⟨g,h,k⟩=>(z c d b e).2 g h k) (H.own c (bS _ d))
  .exact j.own c d
 .rcases a6.1 d with d|d
  .exact H.new c (bS _ d) b e
  .rcases j.new c d b e with n|⟨B,A,n⟩
   .exact .inl (bB H.fr.size n)
   .exact H.new B (ef _ A) b n
 .rw [ea,gT];refine⟨y.1,j.nd,λE O Y T c=>?_⟩
  grind
 .rcases a6.1 h with h|h
  .rcases F c d b e with n|⟨x,J,I⟩
   .grind
   .exact H.dj x J b I g (bS _ h) k
  .exact j.dj c d b e g h k
def _root_.Go.W.Z.part{M:Nat->Prop}{w0 w:C}{G L D:List En}(H:Z M w0 w (G++L) D):Z (λb=>∃c∈L,b∈c.fp) w w L D:=by have h:=H.nd;rw[ea,gT]at h;exact⟨Fr.refl _ _,λc d=>H.own c (ef _ d),H.rd,λc d b e=>.inr ⟨c,d,e⟩,h.2.1,λc d b e g j=>H.dj c d b e g (ef _ j)⟩
def H8{M:Nat->Prop}{w0 w:C}{L D:List En}{b:Nat}(H:Z M w0 w ([.g b]++L) D):∀c∈[b],¬∃d∈L,c∈d.fp:=λc j ⟨d,h,k⟩=>by have e:=H.nd;rw[ea,gT]at e;exact e.2.2 c (by simpa[En.g]using j) c (cj.2 ⟨d,h,k⟩) rfl
def iX{e:aF}{s:J}{vs:List ab}{b:Nat}(h:b∈(En.rd s vs).fp):b∈(En.row e 1 s vs).fp:=by
 have h:b∈(if vs=[]then[]else aO s):=h;split at h
 .cases h
 .exact h
def pn{w:C}{s:J}{l:List Int}(k:bo w s l)(u:∀c∈l,bn c)(i m:Int)(j:1<=m):ah V ou #[s.v,.i i,.i m] w λr y=>(∃h:Int,r=U (.i h)/\0<=h/\h<m)/\aj w y:=by have B:=bo.len k;refine Hk.ok _ _ _ w _ (aQ (λn=>⟨⟨0,rfl,by omega,by omega⟩,Fr.refl _ _⟩) (λz=>aQ (λn=>⟨⟨0,rfl,by omega,by omega⟩,Fr.refl _ _⟩) (λA=>?_)));obtain⟨e,rfl⟩:=Int.eq_ofNat_of_zero_le (by omega:0<=i);have d:l[e]? =some l[e]:=a9 (by omega);generalize l[e]=c at d;have x:=u c (aE d);refine⟨by omega,by omega,bo.cell k d (by rw[bT]) λp _ q=>⟨c,q,(z3 c m w j x).mono ?_⟩⟩;rintro _ D ⟨rfl,f⟩;exact⟨_,rfl,⟨_,rfl,hj c m j⟩,f▸Fr.refl _ _⟩
section
variable {P:aR} {o:Oper} {E E0:Env} {w:C} {K:Env->C->Prop}
def q5(op:Op)(E E0:Env):Prop:=∀d∈op.operands.toList,∃c,E.val d=some c/\E0.val d=some c
def Lc{op:Op}(h:q5 op E E0)(c:o.op=op):E.dQ o=true:=by
 unfold Env.dQ;rw[c];exact fF.2 λe d=>by
  obtain⟨k,j,_⟩:=h e d
  grind
def Ld{op:Op}(h:q5 op E E0)(j:o.op=op)(q:∀c b,op≠.select c b):execOp E.ev o=execOp E0.ev o:=
 execOp_congr o (by grind) λn k=>by rw[j]at k;obtain⟨u,d,e⟩:=h n (by grind);simp[Env.ev,d,e]
def oT{op:Op}{ty:aF}{v:ab}(c:o.op=op)(d:o.type=ty)(h:q5 op E E0)(x:∀e b,op≠.select e b)(q:∀dst pos after guard (K:Env->C->Prop),gq P ⟨dst,op,ty,pos,after,guard⟩ E w K=fP P ⟨dst,op,ty,pos,after,guard⟩ E λv _=>K (E.put dst v) w)(u:∀dst pos after guard,oG P (execOp E0.ev ⟨dst,op,ty,pos,after,guard⟩)=some (.value v))(n:K (E.put o.dst v) w):gq P o E w K:=by have j:=Lc h c;have k:=Ld h c x;obtain⟨dst,y,z,pos,after,guard⟩:=o;simp only at c d;subst c d;rw[q];unfold fP;rw[j,k,u];exact n
def sJ{op:Op}{ty:aF}{v:ab}{w':C}(c:o.op=op)(d:o.type=ty)(h:q5 op E E0)(x:∀e b,op≠.select e b)(q:∀dst pos after guard (K:Env->C->Prop),gq P ⟨dst,op,ty,pos,after,guard⟩ E w K=n7 P ⟨dst,op,ty,pos,after,guard⟩ E w λv w'=>K (E.put dst v) w')(u:∀dst pos after guard,(execOp E0.ev ⟨dst,op,ty,pos,after,guard⟩).run P w=.ok (.value v) w')(n:K (E.put o.dst v) w'):gq P o E w K:=by have j:=Lc h c;have k:=Ld h c x;obtain⟨dst,y,z,pos,after,guard⟩:=o;simp only at c d;subst c d;rw[q];unfold n7;rw[j,k,u];exact n
end
def UO{P:aR}{o:Oper}{E:Env}{w:C}{K:Env->C->Prop}{f a b:Nat}{c:ab}{ts:Array aF}{ty:aF}{x y:ab}(n:o.op=.call ⟨.value (.func f),#[.tmp a,.tmp b,.const c],ts⟩)(q:o.type=ty)(j:E.get? a=some x)(k:E.get? b=some y)(G:c=c)(D:gx P f=true)(h:ah P f #[x,y,c] w λu d=>mj (zeroOf P ty) λv=>u=U v/\K (E.put o.dst v) d):gq P o E w K:=by
 obtain⟨dst,H,e,pos,after,guard⟩:=o;simp only at n q;subst n q;show cF (E.dQ ⟨dst,.call ⟨.value (.func f),#[.tmp a,.tmp b,.const c],ts⟩,e,pos,after,guard⟩) (bif gx P f then nY P f ((#[Operand.tmp a,.tmp b,.const c]).map E.ev) (zeroOf P e) w (λv d=>K (E.put dst v) d)else ud P f ((#[Operand.tmp a,.tmp b,.const c]).map E.ev) (zeroOf P e) w (λv d=>K (E.put dst v) d));have F:E.dQ ⟨dst,.call ⟨.value (.func f),#[.tmp a,.tmp b,.const c],ts⟩,e,pos,after,guard⟩=true:=by simp[Env.dQ,Op.operands,Call.operands,Env.val,j,k]
 have z:E.ev (.tmp a)=x:=by simp[Env.ev,Env.val,j]
 have A:E.ev (.tmp b)=y:=by simp[Env.ev,Env.val,k]
 have B:E.ev (.const c)=c:=rfl;rw[F,D];simp only[List.map_toArray,kY,u9,z,A,B];exact h
def mR(T:List (Nat×Nat×(ab->Prop)))(L:Nat->Bool)(E:Env):Prop:=∀c∈T,(c.1=0\/L (c.1 - 1)=true)->∃v,E.get? c.2.1=some v/\c.2.2 v
def mR.get{T:List (Nat×Nat×(ab->Prop))}{L:Nat->Bool}{E:Env}(h:mR T L E){i d:Nat}{p:ab->Prop}(c:(i,d,p)∈T)(hi:i=0\/L (i - 1)=true):∃v,E.get? d=some v/\p v:=h _ c hi
def mR.fill{T:List (Nat×Nat×(ab->Prop))}{L:Nat->Bool}{E:Env}(h:mR T L E){i d:Nat}{v:ab}(u:∀c∈T,c.2.1=d->c.1=i+1/\c.2.2 v)(w:∀c∈T,c.1=i+1->c.2.1=d):mR T (dn L i) (E.put (some d) v):=by
 intro c j k;by_cases e:c.2.1=d
 .exact ⟨v,by rw[e];exact nf,(u c j e).2⟩
 .rw [hr (λq=>e q.symm)];by_cases n:c.1=0
  .exact h c j (.inl n)
  .refine h c j (.inr ?_);have k:=k.resolve_left n
   rwa[eK (λx=>e (w c j (by omega)))]at k
def mR.Ty{T:List (Nat×Nat×(ab->Prop))}{L:Nat->Bool}{E:Env}(h:mR T L E){i:Nat}{v:ab}(k:∀c∈T,c.1≠i+1):mR T (dn L i) (E.put none v):=by
 intro c e d;show ∃v,E.get? c.2.1=some v/\c.2.2 v;refine h c e ?_;by_cases j:c.1=0
 .omega
 .have d:=d.resolve_left j;have:=k c e;rw[eK (by omega)]at d
  grind
def UM{P:aR}{o:Oper}{E:Env}{w:C}{K:Env->C->Prop}{a b:Nat}{ts:Array aF}{ty:aF}{s t:J}(n:o.op=.call ⟨.builtin .append,#[.tmp a,.tmp b],ts⟩)(q:o.type=ty)(j:E.get? a=some s.v)(k:E.get? b=some t.v)(h:∃c d,(Builtin.append_ ts ty #[s.v,t.v]).run P w=.ok (J.v c) d/\K (E.put o.dst c.v) d):gq P o E w K:=by
 obtain⟨dst,z,e,pos,after,guard⟩:=o;simp only at n q;subst n q;have y:E.dQ ⟨dst,.call ⟨.builtin .append,#[.tmp a,.tmp b],ts⟩,e,pos,after,guard⟩=true:=by simp[Env.dQ,Op.operands,Call.operands,Env.val,j,k]
 have u:E.ev (.tmp a)=s.v:=by simp[Env.ev,Env.val,j]
 have x:E.ev (.tmp b)=t.v:=by simp[Env.ev,Env.val,k]
 show cF (E.dQ ⟨dst,.call ⟨.builtin .append,#[.tmp a,.tmp b],ts⟩,e,pos,after,guard⟩) (∃c:J,∃d,(Builtin.append_ ts e ((#[Operand.tmp a,.tmp b]).map E.ev)).run P w=.ok c.v d/\K (E.put dst c.v) d);rw[y];simp only[List.map_toArray,kY,u9,u,x];exact h
def UR{P:aR}{o:Oper}{E:Env}{w:C}{K:Env->C->Prop}{T:aF}{a b:Nat}{p:Addr}{s:J}(d:o.op=.store T (.tmp a) (.tmp b))(e:E.get? a=some (.pointer (some p)))(j:E.get? b=some s.v)(hi:(1==(match P.info? T with |some i=>i.size|none=>0)&&true&&(P.info? T).isSome)=true)(h:ao w (p.add 0) s.v λc=>K (E.put o.dst undef) c):gq P o E w K:=by
 obtain⟨dst,k,n,pos,after,guard⟩:=o;simp only at d;subst d;show(match E.val (.tmp a),E.val (.tmp b)with
  |some (.pointer (some p)),some v=>cF (v.cells.size==(match P.info? T with |some i=>i.size|none=>0)&&v.cells.toList.all qn&&(P.info? T).isSome) (oQ p v.cells.toList 0 w λc=>K (E.put dst undef) c)
  |_,_=>False)
 rw[show E.val (.tmp a)=some (.pointer (some p))from e,show E.val (.tmp b)=some s.v from j];show cF (1==(match P.info? T with |some i=>i.size|none=>0)&&true&&(P.info? T).isSome) _;rw[hi];exact h
def Bo:List (Op×Option Nat×aF×List Nat):=[
 (.fieldAddr ec (.tmp 5) 0,some 17,i1,[]),
 (.load ju (.tmp 17),some 18,ju,[0]),
 (.build b3 #[(1,.const (.int .i64 1))],some 19,b3,[]),
 (.build bV #[(0,.const (.int .i64 0)),(5,.const (.string (av #[118,48]))),(6,.tmp 19)],some 20,bV,[2]),
 (.buildSlice c' 1 #[(0,.tmp 20)],some 21,c',[3]),
 (.buildSlice cp 1 #[(0,.const (.int .i64 0))],some 22,cp,[]),
 (.move (.tmp 0),some 23,cp,[]),
 (.move (.tmp 6),some 24,bp,[]),
 (.binOp .add bp (.const (.int .i64 1)) (.tmp 24) bp,some 25,bp,[7]),
 (.call ⟨.value (.func ou),#[.tmp 23,.tmp 25,.const (.int .i64 2)],#[cp,bp,bp]⟩,some 26,bp,[6,8]),
 (.binOp .add bp (.const (.int .i64 2)) (.tmp 26) bp,some 27,bp,[9]),
 (.buildSlice cp 1 #[(0,.tmp 27)],some 28,cp,[10]),
 (.buildSlice cp 1 #[(0,.const (.int .i64 2))],some 29,cp,[]),
 (.build dk #[(0,.const (.int .i64 1)),(4,.const (.string (av #[104,48]))),(5,.tmp 29)],some 30,dk,[12]),
 (.buildSlice gu 1 #[(0,.tmp 30)],some 31,gu,[13]),
 (.build g9 #[(0,.tmp 21),(1,.tmp 22),(2,.tmp 28),(3,.tmp 31)],some 32,g9,[4,5,11,14]),
 (.buildSlice ju 1 #[(0,.tmp 32)],some 33,ju,[15]),
 (.call ⟨.builtin .append,#[.tmp 18,.tmp 33],#[ju,ju]⟩,some 34,ju,[1,16,9]),
 (.fieldAddr ec (.tmp 5) 0,some 35,i1,[0,1,2,3,4,5,6,7,8,9,10,11,12,13,14,15,16,17]),
 (.store ju (.tmp 35) (.tmp 34),none,i1,[18,17,17,0,1,2,3,4,5,6,7,8,9,10,11,12,13,14,15,16,17])]
abbrev Bm:ab:=.agg #[.i 0,.slice none 0 0,.i 0,.i 0,.u 0,.string (av #[118,48]),.i 0,.i 1,.i 0]
abbrev Bn(s:J):ab:=.agg #[.i 1,.i 0,.i 0,.slice none 0 0,.string (av #[104,48]),s.v,.slice none 0 0]
abbrev kP(v:ab):Prop:=∃s:J,v=s.v
abbrev oh(v:ab):Prop:=∃c:Int,v=.i c
def bY(k:Int)(t4:Addr)(d:J)(c:Addr)(j:Int)(aD:J):List (Nat×Nat×(ab->Prop)):=[(0,1,(·=.i k)),(0,4,(·=.pointer (some t4))),(0,0,(·=d.v)),(0,5,(·=.pointer (some c))),(0,6,(·=.i j)),
 (1,17,(·=.pointer (some (c.add 0)))),(2,18,(·=aD.v)),(3,19,(·=.agg #[.i 0,.i 1,.i 0])),(4,20,(·=Bm)),(5,21,kP),(6,22,kP),(7,23,(·=d.v)),(8,24,oh),(9,25,oh),(10,26,oh),(11,27,oh),(12,28,kP),(13,29,kP),
 (14,30,λv=>∃s:J,v=Bn s),(15,31,kP),(16,32,λv=>∃a b e h:J,v=.agg #[a.v,b.v,e.v,h.v]),(17,33,kP),(18,34,kP),(19,35,(·=.pointer (some (c.add 0))))]
structure Lm where
 g:J
 h:J
 c:J
 s:J
def Lm.cs(x:Lm):List ab:=[x.g.v,x.h.v,x.c.v,x.s.v]
def Lm.len(l:List Lm):(l.flatMap Lm.cs).length=l.length *4:=nc Lm.cs 4 (λ_=>rfl) l
def Lm.one{l:List Lm}:∀d∈l.flatMap Lm.cs,d.oneCell'=true:=by intro d c;obtain⟨e,_,c⟩:=cj.1 c;simp only[Lm.cs,ay,aW,a3]at c;rcases c with rfl|rfl|rfl|rfl<;>rfl
def AW:gJ V ju g9 (.agg #[.slice none 0 0,.slice none 0 0,.slice none 0 0,.slice none 0 0]) 4 96:=⟨by kernel_rfl,by kernel_rfl,rfl,by decide,by decide⟩
abbrev hW(d e:Nat)(aD:J)(ls:List Lm)(st:J)(ds:List Sp):List En:=[.c d [(⟨none,0,0⟩:J).v,(⟨none,0,0⟩:J).v] ec,.c e [aD.v,st.v] ec,.row g9 4 aD (ls.flatMap Lm.cs),.row dk 7 st (ds.flatMap Sp.c)]
section
variable {w0:C} {mo:Int} {b4 b5:Nat} {l0 aD st:J} {i6:Int} {ls:List Lm} {ds:List Sp} {D:List En}
def tO(i:Nat):List Nat:=(Bo.map λr=>r.2.2.2).getD i []
structure o3(w0:C)(mo:Int)(b4 b5:Nat)(l0 aD st:J)(i6:Int)(ls:List Lm)(ds:List Sp)(D:List En)(L:Nat->Bool)(E:Env)(w:C):Prop where
 t:mR (bY mo (ag b4) l0 (ag b5) i6 aD) L E
 cl:∀i,L i=true->∀j∈tO i,L j=true
 ph:(L 17=false/\L 19=false/\Z F0 w0 w (hW b4 b5 aD ls st ds) D/\(L 16=true->∃(b:Nat) (x:Lm),E.get? 33=some (.slice (some (ag b)) 1 1)/\w.heap[b]? =some (.cells x.cs.toArray g9 (0,0))))\/
  ((∀j,j<17->L j=true)/\L 17=true/\L 19=false/\∃(s:J) (x:Lm),E.get? 34=some s.v/\Z F0 w0 w [.c b4 [(⟨none,0,0⟩:J).v,(⟨none,0,0⟩:J).v] ec,.c b5 [aD.v,st.v] ec,.row g9 4 s ((ls++[x]).flatMap Lm.cs),.row dk 7 st (ds.flatMap Sp.c)] D)\/
  ((∀j,j<17->L j=true)/\L 17=true/\L 19=true/\∃(s:J) (x:Lm),Z F0 w0 w (hW b4 b5 s (ls++[x]) st ds) D)
def tH{L:Nat->Bool}{i:Nat}(h:∀i,L i=true->∀c∈tO i,L c=true)(k:∀c∈tO i,L c=true):∀d,dn L i d=true->∀c∈tO d,dn L i c=true:=by
 intro d e c n;have g:L c=true:=by
  by_cases j:d=i
  .grind
  .rw [eK j]at e;grind
 grind
def o3.a{L:Nat->Bool}{E:Env}{w w':C}(h:o3 w0 mo b4 b5 l0 aD st i6 ls ds D L E w)(i d:Nat)(v:ab)(hi:i<16)(B:∀F∈tO i,L F=true)(H:L i=false)(A:d≠33)(f:aj w w')(y:∀c∈bY mo (ag b4) l0 (ag b5) i6 aD,c.2.1=d->c.1=i+1/\c.2.2 v)(z:∀c∈bY mo (ag b4) l0 (ag b5) i6 aD,c.1=i+1->c.2.1=d):o3 w0 mo b4 b5 l0 aD st i6 ls ds D (dn L i) (E.put (some d) v) w':=by
 refine⟨h.t.fill y z,tH h.cl B,?_⟩;rcases h.ph with⟨e,n,k,q⟩|⟨e,_⟩|⟨e,_⟩
 .refine .inl ⟨by rw[eK (by omega),e],by rw[eK (by omega),n],k.ct f,λj=>?_⟩;rw[eK (by omega)]at j;obtain⟨b,G,u,x⟩:=q j;exact⟨b,G,by rw[hr A,u],f.at x id⟩
 .grind
 grind
def mD{op:Op}{a:Nat}{E:Env}{v:ab}(h:∀c∈op.operands.toList,c=.tmp a\/∃d,c=.const d)(e:E.get? a=some v):q5 op E [(a,v)]:=λc j=>by
 rcases h c j with rfl|⟨d,rfl⟩
 .exact ⟨v,e,by simp[Env.val,Env.get?]⟩
 .exact ⟨d,rfl,rfl⟩
def Ed{op:Op}{E:Env}(h:∀d∈op.operands.toList,∃c,d=.const c):q5 op E []:=λd e=>by obtain⟨c,rfl⟩:=h d e;exact⟨c,rfl,rfl⟩
def QB(an:ls.length<=1000)(ai:∀h,Z F0 w0 h (hW b4 b5 aD ls st ds) D->∃xs,bo h l0 xs/\∀A∈xs,bn A):allI (th V (o3 w0 mo b4 b5 l0 aD st i6 ls ds D)) Bo 0:=
 ⟨λy x h o k j w q e c=>by obtain⟨_,P,rfl⟩:=c.t.get (i:=0) (d:=5) (p:=(·=.pointer (some (ag b5)))) (by simp[bY]) (.inl rfl);refine oT k w (mD (by simp[Op.operands]) P) (by simp) (λ_ _ _ _ _=>rfl) (λ_ _ _ _=>by kernel_rfl) (v:=.pointer (some ((ag b5).add 0))) ?_;rw[j];exact c.a 0 17 _ (by omega) e q (by omega) (Fr.refl _ _) (by simp[bY]) (by simp[bY]),
  λy x h o k j w q e c=>by
   obtain⟨_,ae,rfl⟩:=c.t.get (i:=1) (d:=17) (p:=(·=.pointer (some ((ag b5).add 0)))) (by simp[bY]) (.inr (e 0 (by simp)));have ac:(lC V ju ((ag b5).add 0) h λv _=>o3 w0 mo b4 b5 l0 aD st i6 ls ds D (dn y 1) (x.put o.dst v) h)=(∃s:J,h.cell? ((ag b5).add 0)=some s.v/\o3 w0 mo b4 b5 l0 aD st i6 ls ds D (dn y 1) (x.put o.dst s.v) h):=by kernel_rfl
   refine oS k ae (ac▸⟨aD,?_,?_⟩)
   .rcases c.ph with⟨_,_,B,_⟩|⟨z,_⟩|⟨z,_⟩
    .exact B.ld 1 0
    .grind
    grind
   .rw [j];exact c.a 1 18 _ (by omega) e q (by omega) (Fr.refl _ _) (by simp[bY]) (by simp[bY]),
  λy x h o k j w q e c=>by refine oT k w (Ed (by simp[Op.operands])) (by simp) (λ_ _ _ _ _=>rfl) (λ_ _ _ _=>by kernel_rfl) (v:=.agg #[.i 0,.i 1,.i 0]) ?_;rw[j];exact c.a 2 19 _ (by omega) e q (by omega) (Fr.refl _ _) (by simp[bY]) (by simp[bY]),
  λy x h o k j w q e c=>by obtain⟨_,g,rfl⟩:=c.t.get (i:=3) (d:=19) (p:=(·=.agg #[.i 0,.i 1,.i 0])) (by simp[bY]) (.inr (e 2 (by simp)));refine oT k w (mD (by simp[Op.operands]) g) (by simp) (λ_ _ _ _ _=>rfl) (λ_ _ _ _=>by kernel_rfl) (v:=Bm) ?_;rw[j];exact c.a 3 20 _ (by omega) e q (by omega) (Fr.refl _ _) (by simp[bY]) (by simp[bY]),
  λy x h o k j w q e c=>by obtain⟨_,g,rfl⟩:=c.t.get (i:=4) (d:=20) (p:=(·=Bm)) (by simp[bY]) (.inr (e 3 (by simp)));refine sJ k w (mD (by simp[Op.operands]) g) (by simp) (λ_ _ _ _ _=>rfl) (λ_ _ _ _=>by kernel_rfl) (v:=.slice (some (ag h.heap.size)) 1 1) (w':=h.alloc (.cells #[.i 0,.slice none 0 0,.i 0,.i 0,.u 0,.string (av #[118,48]),.i 0,.i 1,.i 0] bV)) ?_;rw[j];exact c.a 4 21 _ (by omega) e q (by omega) (Fr.alloc _ _ _) (by simp[bY];exact⟨⟨some (ag h.heap.size),1,1⟩,rfl⟩) (by simp[bY]),
  λy x h o k j w q e c=>by refine sJ k w (Ed (by simp[Op.operands])) (by simp) (λ_ _ _ _ _=>rfl) (λ_ _ _ _=>by kernel_rfl) (v:=.slice (some (ag h.heap.size)) 1 1) (w':=h.alloc (.cells #[.i 0] bp)) ?_;rw[j];exact c.a 5 22 _ (by omega) e q (by omega) (Fr.alloc _ _ _) (by simp[bY];exact⟨⟨some (ag h.heap.size),1,1⟩,rfl⟩) (by simp[bY]),
  λy x h o k j w q e c=>by obtain⟨_,g,rfl⟩:=c.t.get (i:=0) (d:=0) (p:=(·=l0.v)) (by simp[bY]) (.inl rfl);refine lQ (.inl k) g ?_;rw[j];exact c.a 6 23 _ (by omega) e q (by omega) (Fr.refl _ _) (by simp[bY]) (by simp[bY]),
  λy x h o k j w q e c=>by obtain⟨_,g,rfl⟩:=c.t.get (i:=0) (d:=6) (p:=(·=.i i6)) (by simp[bY]) (.inl rfl);refine lQ (.inl k) g ?_;rw[j];exact c.a 7 24 _ (by omega) e q (by omega) (Fr.refl _ _) (by simp[bY];grind) (by simp[bY]),
  λy x h o k j w q e c=>by obtain⟨_,g,K,rfl⟩:=c.t.get (i:=8) (d:=24) (p:=oh) (by simp[bY]) (.inr (e 7 (by simp)));refine oT k w (mD (by simp[Op.operands]) g) (by simp) (λ_ _ _ _ _=>rfl) (λ_ _ _ _=>by kernel_rfl) (v:=.i (ad .i64 (1+K))) ?_;rw[j];exact c.a 8 25 _ (by omega) e q (by omega) (Fr.refl _ _) (by simp[bY];grind) (by simp[bY]),
  λy x h o k j w q e c=>by
   obtain⟨_,g,rfl⟩:=c.t.get (i:=7) (d:=23) (p:=(·=l0.v)) (by simp[bY]) (.inr (e 6 (by simp)));obtain⟨_,g',K,rfl⟩:=c.t.get (i:=9) (d:=25) (p:=oh) (by simp[bY]) (.inr (e 8 (by simp)));obtain⟨xs,M,aj⟩:=ai h (by
    rcases c.ph with⟨_,_,B,_⟩|⟨z,_⟩|⟨z,_⟩
    .exact B
    .grind
    grind)
   refine UO k w g g' rfl (by kernel_rfl) ((pn M aj K 2 (by omega)).mono ?_);rintro _ w2 ⟨⟨ak,rfl,_⟩,f⟩;rw[show zeroOf V bp=.i 0 from by kernel_rfl];refine⟨ak,rfl,?_⟩;rw[j];exact c.a 9 26 _ (by omega) e q (by omega) f (by simp[bY];grind) (by simp[bY]),
  λy x h o k j w q e c=>by obtain⟨_,g,K,rfl⟩:=c.t.get (i:=10) (d:=26) (p:=oh) (by simp[bY]) (.inr (e 9 (by simp)));refine oT k w (mD (by simp[Op.operands]) g) (by simp) (λ_ _ _ _ _=>rfl) (λ_ _ _ _=>by kernel_rfl) (v:=.i (ad .i64 (2+K))) ?_;rw[j];exact c.a 10 27 _ (by omega) e q (by omega) (Fr.refl _ _) (by simp[bY];grind) (by simp[bY]),
  λy x h o k j w q e c=>by obtain⟨_,g,K,rfl⟩:=c.t.get (i:=11) (d:=27) (p:=oh) (by simp[bY]) (.inr (e 10 (by simp)));refine sJ k w (mD (by simp[Op.operands]) g) (by simp) (λ_ _ _ _ _=>rfl) (λ_ _ _ _=>by kernel_rfl) (v:=.slice (some (ag h.heap.size)) 1 1) (w':=h.alloc (.cells #[.i K] bp)) ?_;rw[j];exact c.a 11 28 _ (by omega) e q (by omega) (Fr.alloc _ _ _) (by simp[bY];exact⟨⟨some (ag h.heap.size),1,1⟩,rfl⟩) (by simp[bY]),
  λy x h o k j w q e c=>by refine sJ k w (Ed (by simp[Op.operands])) (by simp) (λ_ _ _ _ _=>rfl) (λ_ _ _ _=>by kernel_rfl) (v:=.slice (some (ag h.heap.size)) 1 1) (w':=h.alloc (.cells #[.i 2] bp)) ?_;rw[j];exact c.a 12 29 _ (by omega) e q (by omega) (Fr.alloc _ _ _) (by simp[bY];exact⟨⟨some (ag h.heap.size),1,1⟩,rfl⟩) (by simp[bY]),
  λy x h o k j w q e c=>by obtain⟨_,g,s,rfl⟩:=c.t.get (i:=13) (d:=29) (p:=kP) (by simp[bY]) (.inr (e 12 (by simp)));refine oT k w (mD (by simp[Op.operands]) g) (by simp) (λ_ _ _ _ _=>rfl) (λ_ _ _ _=>by kernel_rfl) (v:=Bn s) ?_;rw[j];exact c.a 13 30 _ (by omega) e q (by omega) (Fr.refl _ _) (by simp[bY];grind) (by simp[bY]),
  λy x h o k j w q e c=>by obtain⟨_,g,s,rfl⟩:=c.t.get (i:=14) (d:=30) (p:=λv=>∃s:J,v=Bn s) (by simp[bY]) (.inr (e 13 (by simp)));refine sJ k w (mD (by simp[Op.operands]) g) (by simp) (λ_ _ _ _ _=>rfl) (λ_ _ _ _=>by kernel_rfl) (v:=.slice (some (ag h.heap.size)) 1 1) (w':=h.alloc (.cells #[.i 1,.i 0,.i 0,.slice none 0 0,.string (av #[104,48]),s.v,.slice none 0 0] dk)) ?_;rw[j];exact c.a 14 31 _ (by omega) e q (by omega) (Fr.alloc _ _ _) (by simp[bY];exact⟨⟨some (ag h.heap.size),1,1⟩,rfl⟩) (by simp[bY]),
  λy x h o k j w q e c=>by
   obtain⟨_,g1,a,rfl⟩:=c.t.get (i:=5) (d:=21) (p:=kP) (by simp[bY]) (.inr (e 4 (by simp)));obtain⟨_,g2,b,rfl⟩:=c.t.get (i:=6) (d:=22) (p:=kP) (by simp[bY]) (.inr (e 5 (by simp)));obtain⟨_,g3,G,rfl⟩:=c.t.get (i:=12) (d:=28) (p:=kP) (by simp[bY]) (.inr (e 11 (by simp)));obtain⟨_,g4,I,rfl⟩:=c.t.get (i:=15) (d:=31) (p:=kP) (by simp[bY]) (.inr (e 14 (by simp)));refine oT k w (E0:=[(21,a.v),(22,b.v),(28,G.v),(31,I.v)]) (λA M=>?_) (by simp) (λ_ _ _ _ _=>rfl) (λ_ _ _ _=>by kernel_rfl) (v:=.agg #[a.v,b.v,G.v,I.v]) ?_
   .have M:A=.tmp 21\/A=.tmp 22\/A=.tmp 28\/A=.tmp 31:=by simpa[Op.operands]using M
    rcases M with rfl|rfl|rfl|rfl
    .exact ⟨_,g1,rfl⟩
    .exact ⟨_,g2,rfl⟩
    .exact ⟨_,g3,rfl⟩
    .exact ⟨_,g4,rfl⟩
   rw[j];exact c.a 15 32 _ (by omega) e q (by omega) (Fr.refl _ _) (by simp[bY];grind) (by simp[bY]),
  λy x h o k j w q e c=>by
   obtain⟨_,g,a,b,G,I,rfl⟩:=c.t.get (i:=16) (d:=32) (p:=λv=>∃a b G I:J,v=.agg #[a.v,b.v,G.v,I.v]) (by simp[bY]) (.inr (e 15 (by simp)));refine sJ k w (mD (by simp[Op.operands]) g) (by simp) (λ_ _ _ _ _=>rfl) (λ_ _ _ _=>by kernel_rfl) (v:=.slice (some (ag h.heap.size)) 1 1) (w':=h.alloc (.cells #[a.v,b.v,G.v,I.v] g9)) ?_;rw[j];refine⟨c.t.fill (by simp[bY];exact⟨⟨some (ag h.heap.size),1,1⟩,rfl⟩) (by simp[bY]),tH c.cl e,?_⟩;rcases c.ph with⟨z,E,B,F⟩|⟨z,_⟩|⟨z,_⟩
   .exact .inl ⟨by rw[eK (by omega),z],by rw[eK (by omega),E],B.ct (Fr.alloc _ _ _),λ_=>⟨h.heap.size,⟨a,b,G,I⟩,nf,kM h _⟩⟩
   .grind
   grind,
  λy x h o k j w q e c=>by
   obtain⟨_,af,rfl⟩:=c.t.get (i:=2) (d:=18) (p:=(·=aD.v)) (by simp[bY]) (.inr (e 1 (by simp)));rcases c.ph with⟨z,E,B,F⟩|⟨_,z,_⟩|⟨_,z,_⟩
   .obtain ⟨b,A,e1,e2⟩:=F (e 16 (by simp));have hn:=(B.get 2:aG _ _ _ _ _).len;rw[Lm.len]at hn;refine UM k w af e1 (s:=aD) (t:=⟨some (ag b),1,1⟩) (B.ap 2 AW (src:=⟨some (ag b),1,1⟩) (news:=A.cs) rfl (lP (n:=1) (sz:=4) (cs:=A.cs) e2 rfl).2.2 rfl (λal hu=>Lm.one (l:=[A]) al (by grind)) (by grind) λs' w2 S _ _=>?_);rw[j];refine⟨c.t.fill (by simp[bY];grind) (by simp[bY]),tH c.cl e,.inr (.inl ⟨λN Q=>?_,yI,by rw[eK (by omega),E],s',A,nf,?_⟩)⟩
    .rw [eK (by omega)];have Y:=c.cl 16 (e 16 (by simp));have H:=c.cl 15 (Y 15 (by decide));have c4:=c.cl 4 (H 4 (by decide));have c3:=c.cl 3 (c4 3 (by decide));have T:=c.cl 11 (H 11 (by decide));have aa:=c.cl 10 (T 10 (by decide));have O:=c.cl 9 (aa 9 (by decide));have c8:=c.cl 8 (O 8 (by decide));have W:=c.cl 14 (H 14 (by decide));have ab:=c.cl 13 (W 13 (by decide));have c1:=c.cl 1 (e 1 (by simp))
     match N,Q with
     |0,_=>exact c1 0 (by decide)
     |1,_=>grind
     |2,_=>exact c3 2 (by decide)
     |3,_=>exact c4 3 (by decide)
     |4,_=>exact H 4 (by decide)
     |5,_=>exact H 5 (by decide)
     |6,_=>exact O 6 (by decide)
     |7,_=>exact c8 7 (by decide)
     |8,_=>exact O 8 (by decide)
     |9,_=>grind
     |10,_=>exact T 10 (by decide)
     |11,_=>exact H 11 (by decide)
     |12,_=>exact ab 12 (by decide)
     |13,_=>exact W 13 (by decide)
     |14,_=>exact H 14 (by decide)
     |15,_=>exact Y 15 (by decide)
     |16,_=>grind
     |N+17,am=>omega
    grind
   .grind
   grind,
  λy x h o k j w q e c=>by
   obtain⟨_,P,rfl⟩:=c.t.get (i:=0) (d:=5) (p:=(·=.pointer (some (ag b5)))) (by simp[bY]) (.inl rfl);refine oT k w (mD (by simp[Op.operands]) P) (by simp) (λ_ _ _ _ _=>rfl) (λ_ _ _ _=>by kernel_rfl) (v:=.pointer (some ((ag b5).add 0))) ?_;rw[j];refine⟨c.t.fill (by simp[bY]) (by simp[bY]),tH c.cl e,?_⟩;rcases c.ph with⟨z,_⟩|⟨z,E,F,s,A,L,a5⟩|⟨z,E,F,L⟩
   .rw [e 17 (by simp)]at z;cases z
   .exact .inr (.inl ⟨λN Q=>by grind,by grind,by rw[eK (by omega),F],s,A,by rw[hr (by omega),L],a5⟩)
   grind,
  λy x h o k j w q e c=>by
   obtain⟨_,ah,rfl⟩:=c.t.get (i:=19) (d:=35) (p:=(·=.pointer (some ((ag b5).add 0)))) (by simp[bY]) (.inr (e 18 (by simp)));rcases c.ph with⟨z,_⟩|⟨z,E,F,s,A,L,B⟩|⟨z,E,F,L⟩
   .grind
   .refine UR k ah L (by kernel_rfl) ?_;rw[add_add];refine B.st 1 0 rfl λw2 S=>?_;rw[j];refine⟨c.t.Ty (by simp[bY]),tH c.cl e,.inr (.inr ⟨λN Q=>by grind,by grind,yI,s,A,S⟩)⟩
   grind,
  trivial⟩
def QA{w:C}{R:aa}(H:Z F0 w0 w (hW b4 b5 aD ls st ds) D)(J:ls.length<=1000)(K:∀c,Z F0 w0 c (hW b4 b5 aD ls st ds) D->∃xs,bo c l0 xs/\∀h∈xs,bn h){t13:Int}(I:∀s h c,Z F0 w0 c (hW b4 b5 s (ls++[h]) st ds) D->f'.S1 l0 mo (ag b4) (ag b5) i6 c R):
  rR V f'.jy (λq w=>f'.o5 q w R) [(14,.bool (af (i6<t13))),(13,.i t13),(12,l0.v),(11,.i i6),(0,l0.v),(1,.i mo),(4,.pointer (some (ag b4))),(5,.pointer (some (ag b5))),(6,.i i6)] w:=by
 refine Bz Bo (by kernel_rfl) (o3 w0 mo b4 b5 l0 aD st i6 ls ds D) ⟨λL j n=>?_,λi k=>(by cases k),.inl ⟨rfl,rfl,H.drew,λk=>(by cases k)⟩⟩ (QB J K) λM q c y e=>?_
 .have n:L.1=0:=n.resolve_right (by simp);simp only[bY,ay,aW,a3]at j
  (repeat' rcases j with rfl|j)<;>(try subst j)<;>first |(exact⟨_,rfl,rfl⟩)|(exact Nat.noConfusion n)
 .rcases e.ph with⟨u,_⟩|⟨_,_,x,_⟩|⟨_,_,_,s,h,z⟩
  .rw [y 17 (by decide)]at u;cases u
  .rw [y 19 (by decide)]at x;cases x
  .obtain ⟨_,A,rfl⟩:=e.t.get (i:=0) (d:=0) (p:=(·=l0.v)) (by simp[bY]) (.inl rfl);obtain⟨_,B,rfl⟩:=e.t.get (i:=0) (d:=1) (p:=(·=.i mo)) (by simp[bY]) (.inl rfl);obtain⟨_,E,rfl⟩:=e.t.get (i:=0) (d:=4) (p:=(·=.pointer (some (ag b4)))) (by simp[bY]) (.inl rfl);obtain⟨_,F,rfl⟩:=e.t.get (i:=0) (d:=5) (p:=(·=.pointer (some (ag b5)))) (by simp[bY]) (.inl rfl);obtain⟨_,G,rfl⟩:=e.t.get (i:=0) (d:=6) (p:=(·=.i i6)) (by simp[bY]) (.inl rfl);unfold f'.o5;rw[A,B,E,F,G];exact I s h c z
end
def y9{s:bt}(h:(s.k=0/\1<=s.n/\s.n<=64/\s.x=0)\/(s.k=1/\0<=s.n/\s.n<=64/\s.x=0)\/(s.k=2/\1<=s.n/\s.n<=64/\1<=s.x/\s.x<=16)\/(s.k=3/\0<=s.n/\s.n<=64/\1<=s.x/\s.x<=16)):cb s=true:=by unfold cb;rcases h with⟨c,d,e,j⟩|⟨c,d,e,j⟩|⟨c,d,e,j,q⟩|⟨c,d,e,j,q⟩<;>simp[c,d,e,j]<;>simp[q]
def EV{s:bt}:cb s=true↔(s.k=0/\1<=s.n/\s.n<=64/\s.x=0)\/(s.k=1/\0<=s.n/\s.n<=64/\s.x=0)\/(s.k=2/\1<=s.n/\s.n<=64/\1<=s.x/\s.x<=16)\/(s.k=3/\0<=s.n/\s.n<=64/\1<=s.x/\s.x<=16):=by refine⟨λc=>?_,y9⟩;unfold cb at c;simp only[Bool.or_eq_true,bC,beq_iff_eq,decide_eq_true_eq]at c;omega
structure q8(g:List Nx)(n:Nx):Prop where
 kl:cS n.op=(n.kids.length:Int)
 ki:∀k∈n.kids,0<=k/\k<(g.length:Int)
 ok:iT n=true
def Eo{g:List Nx}{n:Nx}(h:(ck g n).2=0):q8 g n:=by
 unfold ck at h;split at h
 .cases h
 .rename_i c;simp only[Bool.and_eq_false_iff,not_or,Bool.not_eq_false,beq_iff_eq]at c;refine⟨c.1.1,λe d=>?_,c.2⟩;have:=fF.1 c.1.2 e d;unfold fv at this;simpa using this
def RG{g:List Nx}{n:Nx}(j:∀e∈g,cb e.st=true)(h:∀d∈n.kids,0<=d/\d<(g.length:Int)){i:Nat}(hi:i<n.kids.length):cb (b0 g n i)=true:=by
 have k:=h _ (yx hi);unfold b0;rw[a9 hi];dsimp only;have c:(n.kids[i]).toNat<g.length:=by omega
 rw[a9 c];exact j _ (yx c)
def PW{x:bt}(h:cb x=true)(c:ek x=true):cb (hP x)=true:=by
 rw[EV]at h;unfold ek at c;simp only[Bool.or_eq_true,beq_iff_eq]at c;unfold hP;refine y9 ?_;split
 .show (0=0/\1<=x.n/\x.n<=64/\0=0)\/_;left;omega
 .right;left;show(1:Int)=1/\0<=x.n/\x.n<=64/\(0:Int)=0;omega
def mX{n:Int}(c:1<=n)(d:n<=64):cb (bJ n)=true:=y9 (.inl ⟨rfl,c,d,rfl⟩)
def vz{n:Int}(c:0<=n)(d:n<=64):cb (eW n)=true:=y9 (.inr (.inl ⟨rfl,c,d,rfl⟩))
def UG{g:List Nx}{n:Nx}(S:∀K∈g,cb K.st=true)(h:(ck g n).2=0):cb (ck g n).1=true:=by
 have B:=Eo h;have A:∀i:Nat,(i:Int)<cS n.op->cb (b0 g n i)=true:=λi T=>RG S B.ki (by have:=B.kl;omega);unfold ck at h ⊢;split at h
 .cases h
 rename_i F;rw[aq F];split at h
 .rename_i E;rw[aA E];unfold cH at h ⊢;split at h
  .rename_i q;rw[aA q];split at h
   .cases h
   .rename_i Q;rw[aq Q];exact vz (by omega) (by omega)
  .rename_i q;rw[aq q];split at h
   .cases h
   rename_i L;rw[aq L];split at h
   .cases h
   rename_i e;rw[aq e];split at h
   .cases h
   rename_i N;rw[aq N];split at h
   .cases h
   rename_i O;rw[aq O];split at h
   .cases h
   rename_i P;rw[aq P];simpa using e
 rename_i E;rw[aq E];split at h
 .cases h
 rename_i c;rw[aq c];split at h
 .cases h
 rename_i d;rw[aq d];split at h
 .cases h
 rename_i G;rw[aq G];simp only[Bool.not_eq_false]at c d;have M:n.op<=34:=by
  rcases Int.lt_or_le 34 n.op with h|h
  .have:=B.kl;unfold cS at this;rw[aA (.inr h)]at this;omega
  .exact h
 generalize H:b0 g n 0=x at *;generalize I:b0 g n 1=y at *;generalize J:b0 g n 2=z at *;have j:cb x=true:=by rw[<-H];exact A 0 (by unfold cS;repeat' split<;>omega)
 have u:2<=cS n.op->cb y=true:=λh=>by rw[<-I];exact A 1 (by omega)
 have D:cS n.op=3->cb z=true:=λh=>by rw[<-J];exact A 2 (by omega)
 obtain⟨W,kids,w,m,Z,Y,st⟩:=n;simp only at *;clear H I J A B F G;rcases sa (by omega) M with rfl|rfl|rfl|rfl|rfl|rfl|rfl|rfl|rfl|rfl|rfl|rfl|rfl|rfl|rfl|rfl|rfl|rfl|rfl|rfl|rfl|rfl|rfl|rfl|rfl|rfl|rfl|rfl|rfl|rfl|rfl|rfl|rfl|rfl|rfl
 iterate 4 omega
 all_goals first |(have u:=u (by decide))|skip
 all_goals first |(have D:=D (by decide))|skip
 iterate 12 exact j
 iterate 3 exact mX (by omega) (by omega)
 .show cb (if y.k=1 then eW (if y.n<z.n then z.n else y.n)else y)=true;split
  .rename_i A;have c:(af (x=bJ 1)&&(af (y=z)||(y.k==1&&z.k==1)))=true:=c;have e:=k5 u;have q:=k5 D;exact vz (by split<;>omega) (by split<;>omega)
  .exact u
 .have c:(x.k==0&&y.k==0)=true:=c;have d:af (x.n+y.n<=64)=true:=d;simp only[bC,beq_iff_eq]at c;have e:=sV j c.1;have q:=sV u c.2;exact mX (by omega) (hC d)
 .have c:(x.k==0)=true:=c;have d:(af (0<=m)&&af (m<=w)&&af (w<x.n))=true:=d;simp only[bC,decide_eq_true_eq]at d;have e:=sV j (eq_of_beq c);show cb (bJ (w - m+1))=true;exact mX (by omega) (by omega)
 iterate 2
  .have c:(x.k==0)=true:=c;have d:(af (1<=w)&&af (w<=64 - x.n))=true:=d;simp only[bC,decide_eq_true_eq]at d;have e:=sV j (eq_of_beq c);show cb (bJ (x.n+w))=true;exact mX (by omega) (by omega)
 .have c:(ek x&&af (y=bJ x.x))=true:=c;simp only[bC]at c;exact PW j c.1
 .exact j
 .have c:(ek x&&af (x=y))=true:=c;simp only[bC]at c;have e:=c.1;unfold ek at e;simp only[Bool.or_eq_true,beq_iff_eq]at e;rw[EV]at j;exact mX (by omega) (by omega)
 .exact mX (by omega) (by omega)
 .exact mX (by omega) (by omega)
 .have d:af (x.n+y.n<=64)=true:=d;have e:=k5 j;have q:=k5 u;exact vz (by omega) (hC d)
 .exact j
 .exact mX (by omega) (by omega)
 .have d:af (x.n+z.n<=64)=true:=d;have e:=k5 j;have q:=k5 D;exact vz (by omega) (hC d)
 .exact mX (by omega) (by omega)
 .exact vz (by omega) (by omega)
def Vg.val{g:List Nx}(h:Vg g):∀d∈g,cb d.st=true:=by
 induction h with
 |nil=>simp
 |snoc k e n j=>
  intro d c;rcases a6.1 c with c|c
  .exact j d c
  .simp only[ay,aW,a3]at c;subst c;have:=UG j (by rw[e])
   rwa[e]at this
def var_eq{g D:List Nx}{a b:Nx}(e:q8 g a)(F:q8 D b)(d:a.op=0)(h:b.op=0)(H:a.tx=b.tx)(G:a.st=b.st):a=b:=by
 have j:∀{g:List Nx} {a:Nx},q8 g a->a.op=0->a.kids=[]/\a.n=0/\a.m=0/\a.u=0:=by intro g a e d;have E:=e.kl;have c:=e.ok;rw[d]at E;unfold iT at c;rw[d]at c;refine⟨List.eq_nil_of_length_eq_zero (by have:cS 0=0:=rfl;omega),?_⟩;have:od 0=false:=rfl;rw[this]at c;simp at c;exact⟨c.1.1.1,c.1.1.2,c.1.2⟩
 obtain⟨k,q,w,x⟩:=j e d;obtain⟨y,z,A,B⟩:=j F h;cases a;cases b;simp only at *;subst d h H G k q w x y z A B;rfl
def Vg.ok{g:List Nx}(h:Vg g):∀i d,g[i]? =some d->ck (g.take i) d=(d.st,0):=by
 induction h with
 |nil=>intro i d c;simp at c
 |@snoc g u n j q k=>
  intro i d c;rcases Nat.lt_or_ge i g.length with e|e
  .rw [List.getElem?_append_left e]at c;rw[List.take_append_of_le_length (by omega)];exact k i d c
  .rw [List.getElem?_append_right e]at c;have:i - g.length=0:=by have:=(dh.1 c).1;simp at this;omega
   rw[this]at c;simp at c;subst c;rw[show i=g.length by omega,List.take_left];exact j
def Vg.Ek{g:List Nx}(h:Vg g):∀i c,g[i]? =some c->q8 (g.take i) c:=λi c d=>Eo (by rw[h.ok i c d])
def Vg.kids{g:List Nx}(h:Vg g){i:Nat}{d:Nx}(e:g[i]? =some d):∀c∈d.kids,0<=c/\c<(i:Int):=λc k=>by have j:=(h.Ek i d e).ki c k;have n:=(dh.1 e).1;rw[List.length_take]at j;omega
def Vg.vars{g:List Nx}(h:Vg g):v9 g:=by
 induction h with
 |nil=>intro j d;cases d
 |@snoc g u z c A y=>
  have one:∀j∈g,j.op=0->u.op=0->j.tx=u.tx->j.st=u.st:=by
   intro j d n q k;have B:q8 g u:=Eo (by rw[c]);unfold ck at c;split at c
   .simp at c
   rw[aA (by omega:u.op<=3)]at c;unfold cH at c;rw[aq (by omega)]at c;split at c
   .simp at c
   split at c
   .simp at c
   split at c
   .simp at c
   split at c
   .simp at c
   split at c
   .simp at c
   rename_i w;simp only[q,true_and,i4]at w;rw[Mz y,List.any_eq_false]at w;rcases decEq j.st u.st with h|h
   .exact absurd (a0 ⟨n,k,h⟩) (w j d)
   .exact h
  intro j d n x e q k;have d:=a6.1 d;have e:=a6.1 e;simp only[ay,aW,a3]at d e;rcases d with d|d
  .rcases e with e|e
   .exact y j d n x e q k
   .rw [e]at k q ⊢;exact one j d n q k
  .rw [d]at k n ⊢;rcases e with e|e
   .exact (one x e q n k.symm).symm
   .rw [e]
def wX{n:Nx}:∀{g:List Nx} {i:Nat},gO n g i=none->n∉g
 |[],i,_=>by simp
 |h::g,i,c=>by
  unfold gO at c;split at c
  .cases c
  .rename_i e;simp only[ay,not_or];exact⟨λd=>e d.symm,wX c⟩
def uo{n:Nx}:∀{g:List Nx} {i k:Nat},gO n g i=some k->i<=k/\g[k - i]? =some n
 |e::g,i,k,c=>by
  unfold gO at c;split at c
  .rename_i d;cases c;simp[d]
  .have:=uo c;refine⟨by omega,?_⟩;rw[show k - i=(k - (i+1))+1 by omega];simpa using this.2
def fM(n m:Int)(w:C)(d:1<=m)(h:bn n):ah V eO #[.i n,.i m] w λr c=>r=U (.i (fe n m))/\aj w c:=(z3 n m w d h).mono λr c h=>⟨h.1,h.2▸Fr.refl _ _⟩
def qJ(t:List UInt8)(s:bt):Nx:=⟨0,[],0,0,0,ba t,s⟩
def k6(t:List UInt8)(s:bt):Nd:=⟨qJ t s,⟨none,0,0⟩⟩
def oU:List Nd:=[k6 [97] (bJ 2),k6 [98] (bJ 2),k6 [99] (bJ 1),k6 [100] (bJ 3)]
def oV:List Nd:=[k6 [109] ⟨2,2,1⟩,k6 [110] ⟨2,2,1⟩]
def lR:List Nd:=[k6 [115] (eW 2),k6 [116] (eW 1),k6 [105] (bJ 7),k6 [122] ⟨3,1,1⟩]
def gn(kind:Int):List Nd:=oU++(if kind>0 then oV else[])++(if kind>1 then lR else[])
def VF(l:List Nx):Bool:=(List.range l.length).all λi=>match l[i]? with
 |some c=>af (ck (l.take i) c=(c.st,0))&&af (c∉l.take i)
 |none=>false
def za{l:List Nx}(h:VF l=true):Vg l:=by
 have main:∀i,i<=l.length->Vg (l.take i):=by
  intro i;induction i with
  |zero=>intro _;rw[List.take_zero];exact .nil
  |succ i e=>
   intro j;have c:=fF.1 h i (List.mem_range.2 (by omega));have d:l[i]? =some (l[i]'(by omega)):=a9 (by omega);rw[d]at c;dsimp only at c;rw[List.take_add_one,d];simp only[bC,decide_eq_true_eq]at c;exact .snoc (e (by omega)) c.1 c.2
 have:=main l.length (b' _)
 rwa[List.take_length]at this
def UX(kind:Int):Vg (xs (gn kind)):=by
 unfold gn;split
 .split
  .exact za (by kernel_rfl)
  .exact za (by kernel_rfl)
 .split
  .exact za (by kernel_rfl)
  .exact za (by kernel_rfl)
structure MdN(d:Nx):Prop where
 DC:-1<=d.op
 DD:d.op<=34
 kl:d.kids.length<=3
 n:0<=d.n/\d.n<=100
 m:0<=d.m/\d.m<=100
 u:0<=d.u/\d.u<=1000
 tx:d.op≠33->d.tx.size<=16
 re:d.op=33->∃k,d.tx=ba (jY k)
structure jB(g:List Nx):Prop where
 vg:Vg g
 nd:∀d∈g,MdN d
def UW(kind:Int):jB (xs (gn kind)):=by
 refine⟨UX kind,λe j=>?_⟩;have d:∃t s,e=qJ t s/\t.length<=16:=by
  have h:e∈xs (oU++oV++lR):=by
   obtain⟨a,c,rfl⟩:=dv.1 j;refine dv.2 ⟨a,?_,rfl⟩;unfold gn at c;rcases a6.1 c with c|c
   .rcases a6.1 c with c|c
    .simp [c]
    .split at c
     .simp [c]
     .cases c
   .split at c
    .simp [c]
    .cases c
  simp only[xs,oU,oV,lR,k6,iF,h0,kY,u9,ay,aW,a3]at h;rcases h with rfl|rfl|rfl|rfl|rfl|rfl|rfl|rfl|rfl|rfl<;>exact⟨_,_,rfl,by decide⟩
 obtain⟨t,s,rfl,k⟩:=d;exact⟨by show(-1:Int)<=0;omega,by show(0:Int)<=34;omega,by simp[qJ],by simp[qJ],by simp[qJ],by simp[qJ],λ_=>by show(ba t).size<=16;rw[de];exact k,λd=>by cases d⟩
def LL{kind:Int}:∀d∈gn kind,d.x.kids=[]/\d.ks=⟨none,0,0⟩:=by
 intro d h;have e:d∈oU++oV++lR:=by
  unfold gn at h;rcases a6.1 h with c|c
  .rcases a6.1 c with c|c
   .simp [c]
   .split at c
    .simp [c]
    .cases c
  .split at c
   .simp [c]
   .cases c
 simp only[oU,oV,lR,k6,qJ,iF,h0,ay,aW,a3]at e;rcases e with rfl|rfl|rfl|rfl|rfl|rfl|rfl|rfl|rfl|rfl<;>exact⟨rfl,rfl⟩
def UT{kind:Int}{w w0:C}{s:J}(h:bF 9 w s ((gn kind).flatMap Nd.c))(q:∀b∈aO s,w0.heap.size<=b):GR w0 F0 (xs (gn kind)) s w:=by
 refine⟨gn kind,rfl,⟨h,λe k=>?_⟩,λb d=>.inr ?_⟩
 .obtain ⟨j,n⟩:=LL e k;show bo w e.ks e.x.kids;rw[j,n];exact Rd.nil w
 .rcases oc.1 d with d|⟨e,k,d⟩
  .exact yz q b d
  .obtain ⟨j,n⟩:=LL e k;unfold dY at d;rw[j]at d;cases d
def UU(kind:Int):1<=(gn kind).length/\(gn kind).length<=10:=by unfold gn;split<;>split<;>decide
def O0(kind:Int)(w:C):ah V Cr #[.i kind] w λr q=>(∃s:J,r=U s.v/\GR w F0 (xs (gn kind)) s q)/\aj w q:=by
 refine A2.ok kind w _ ((bN [] (by simp)).call (fo 2 w) ?_);rintro _ w1 rfl M;refine⟨_,_,_,rfl,M.call (fo 2 w1) ?_⟩;rintro _ w2 rfl O;refine⟨_,_,_,rfl,O.call (fo 1 w2) ?_⟩;rintro _ w3 rfl P;refine⟨_,_,_,rfl,P.call (fo 3 w3) ?_⟩;rintro _ K rfl Q;refine⟨_,_,_,rfl,Q.cB (n:=4) (sz:=9) (cs:=oU.flatMap Nd.c) rfl (by decide) λE G=>?_⟩;have fin:∀(l:J) (d:C) (L:List En) (j:Nat),Z F0 w d L []->L[j]? =some (.row bV 9 l ((gn kind).flatMap Nd.c))->(∃s:J,Ending.returned l.v=U s.v/\GR w F0 (xs (gn kind)) s d)/\aj w d:=λl d L j e h=>
  ⟨⟨l,rfl,UT (e.get j h:aG _ _ _ _ _).bh λb W=>(e.new _ (aE h) b W).resolve_right id⟩,e.fr⟩
 have H:∀(l:J) (d:C) (L:List En) (j:Nat) (ds:List Nd),Z F0 w d L []->ds.length<=6->gn kind=ds++(if kind>1 then lR else[])->L[j]? =some (.row bV 9 l (ds.flatMap Nd.c))->A2.S0 kind l d λr q=>(∃s:J,r=U s.v/\GR w F0 (xs (gn kind)) s q)/\aj w q:=by
  intro l d L j ds e ac x h;refine aQ (λB=>?_) (λB=>?_)
  .rw [aA B]at x;refine e.call (mY 2 d) ?_;rintro _ F rfl z;refine⟨_,_,_,rfl,z.call (mY 1 F) ?_⟩;rintro _ w8 rfl S;refine⟨_,_,_,rfl,S.call (fo 7 w8) ?_⟩;rintro _ u rfl T;refine⟨_,_,_,rfl,T.cB (n:=4) (sz:=9) (cs:=lR.flatMap Nd.c) rfl (by decide) λaa y=>?_⟩;have I:(L++[En.row bV 9 ⟨some (ag u.heap.size),4,4⟩ (lR.flatMap Nd.c)])[j]? =some (.row bV 9 l (ds.flatMap Nd.c)):=by rw[List.getElem?_append_left (dh.1 h).1];exact h
   have Y:(L++[En.row bV 9 ⟨some (ag u.heap.size),4,4⟩ (lR.flatMap Nd.c)])[L.length]? =some (.row bV 9 ⟨some (ag u.heap.size),4,4⟩ (lR.flatMap Nd.c)):=by simp
   have hn:l.n=ds.length:=by have:=(y.get j I:aG _ _ _ _ _).len;rw[Nd.ee]at this;omega
   have k:bF 9 aa ⟨some (ag u.heap.size),4,4⟩ (lR.flatMap Nd.c):=(y.get L.length Y:aG _ _ _ _ _).bh;refine y.ap j ja (src:=⟨some (ag u.heap.size),4,4⟩) I k.2.2 k.1 lK (by simp only;omega) (λD ab N _ _=>?_);refine fin D ab _ j N ?_;rw[List.getElem?_set_self (by simp;have:=(dh.1 h).1;omega),x,ea]
  .rw [aq B,kV]at x;rw[<-x]at h;exact fin l d L j e h
 refine aQ (λA=>G.cB (n:=2) (sz:=9) (cs:=oV.flatMap Nd.c) rfl (by decide) λd e=>?_) (λA=>?_)
 .have k:bF 9 d ⟨some (ag E.heap.size),2,2⟩ (oV.flatMap Nd.c):=(e.get 1:aG _ _ _ _ _).bh;refine e.ap 0 ja (s:=⟨some (ag K.heap.size),4,4⟩) (src:=⟨some (ag E.heap.size),2,2⟩) rfl k.2.2 k.1 lK (by show(4+2) *96<=_;omega) (λD F z _ _=>?_);refine H D F _ 0 (oU++oV) z (by decide) ?_ ?_
  .unfold gn;rw[aA A]
  .rw [ea];rfl
 .refine H ⟨some (ag K.heap.size),4,4⟩ E _ 0 oU G (by decide) ?_ rfl;unfold gn;rw[aq A,kV]
def O8(kind:Int)(s:bt)(w:C):ah V Ct #[.i kind,dO s] w λr e=>(∃b:Bool,r=U (.bool b))/\aj w e:=
 HJ.aB _ _ _ _ w _ ((bN [] (by simp)).aN λb h d=>aJ (λc=>⟨⟨_,rfl⟩,d.fr⟩) (λc=>aQ (λc=>aJ (λc=>⟨⟨_,rfl⟩,d.fr⟩) (λc=>⟨⟨_,rfl⟩,d.fr⟩)) (λc=>⟨⟨_,rfl⟩,d.fr⟩)))
def Gw{w:C}{s:J}{l:List Nd}(h:GP w s l)(H:∀(i:Nat) (d:Nd),l[i]? =some d->d.x.kids.length<=1000000/\∀k∈d.x.kids,0<=k/\k<(i:Int)):∀(n i:Nat),i<n->i<l.length->∀z,aj w z->ah V xA #[s.v,.i (i:Int)] z λr E=>(∃u:Int,r=U (.i u))/\aj w E
 |0,i,G,_,_,_=>absurd G (by omega)
 |n+1,i,G,D,z,M=>by
  have y:∀{c:C},aj w c->GP c s l:=λf=>⟨h.1.ct f,λd P=>(dY d).st w _ (λb hb S=>f.cA b S id) (h.2 d P)⟩;have q:l[i]? =some (l[i]'D):=a9 D;generalize l[i]'D=d at q;obtain⟨k1,Z⟩:=H i d q;have loop:∀(m j:Nat) (u:Int) (c:C),j+m=d.x.kids.length->aj w c->rG.L0 s (i:Int) u (j:Int) c λr E=>(∃u:Int,r=U (.i u))/\aj w E:=by
   intro m;induction m with
   |zero=>
    intro j u c Q e;have T:d.ks.n=d.x.kids.length:=bo.len ((y e).2 d (aE q));exact rG.cf _ _ _ _ _ _ (gN (y e) rfl q λp W A=>⟨_,A.c1,bb (a2 (by omega)) ⟨⟨_,rfl⟩,e⟩⟩)
   |succ m Y=>
    intro j u c Q e;have F:bo c d.ks d.x.kids:=(y e).2 d (aE q);have T:=bo.len F;have B:d.x.kids[j]? =some (d.x.kids[j]'(by omega)):=a9 (by omega);generalize d.x.kids[j]'(by omega)=k at B;have aa:=Z k (aE B);refine rG.cf _ _ _ _ _ _ (gN (y e) rfl q λp W A=>⟨_,A.c1,a8 (a0 (by omega)) (gN (y e) rfl q λp' ab K=>⟨_,K.c1,by omega,by omega,F.cell B (by omega) λac hq O=>⟨k,O,?_⟩⟩)⟩);have L:k=((k.toNat:Nat):Int):=by omega
    rw[L];refine(Gw h H n k.toNat (by omega) (by omega) c e).mono ?_;rintro _ I ⟨⟨z3,rfl⟩,N⟩;refine⟨_,rfl,?_⟩;show rG.L0 s (i:Int) _ (ad .i64 ((j:Int)+1)) I _;rw[bA _ (by omega)];exact Y (j+1) _ I (by omega) N
  exact rG.ok _ _ z _ (loop d.x.kids.length 0 1 z (by omega) M)
def yg:List ByteArray:=[ba [],ba [97],ba [98],ba [99],ba [100,100]]
structure mP(pl i aD:Nat)(s:dz):Prop where
 kind:0<=s.kind/\s.kind<=5
 node:bn s.node/\(s.kind=4->0<=s.node/\s.node<(aD:Int))
 dD:bn s.dD
 params:(∀x∈s.params,bn x)/\s.params.length<=pl
 cY:fq s.cY=0/\(∀x∈s.cY,bn x)/\s.cY.length<=3
 hints:(∀x∈s.hints,0<=x/\x<(i:Int))/\s.hints.length<=2
 nm:s.nm∈yg
def Us{M:Nat->Prop}{w0 w:C}{L D D1:List En}{l:List Sp}{d:Sp}(H:Z M w0 w L D1)(x:∀c∈D,c∈D1)(h:cP l∈D1)(u:∀c∈[d.pE,d.hE,d.lE],c∈D1\/(c.fp=[]/\∀w,c.P w)):Z M w0 w L (D++[cP (l++[d])]):=by
 have j:∀c∈jq (l++[d]),c∈jq l\/c∈[d.pE,d.hE,d.lE]:=λc e=>by grind
 refine H.kR _ λc e=>?_;rcases a6.1 e with e|e
 .grind
 .rw [cO.1 e];refine⟨λk c e=>?_,λb n=>?_⟩
  .rcases j c e with e|e
   .exact k (cP l) h c e
   grind
  .obtain ⟨c,e,q⟩:=gw.1 n;rcases j c e with e|e
   .exact ⟨cP l,h,gw.2 ⟨c,e,q⟩⟩
   grind
def r9:(En.rd ⟨none,0,0⟩ (([]:List Int).map bd)).fp=[]/\∀c,(En.rd ⟨none,0,0⟩ (([]:List Int).map bd)).P c:=⟨by simp[En.rd],λc=>Rd.nil c⟩
def s7(w0:C)(D:List En)(cm:Nat)(r:cQ)(w':C):Prop:=∃(aD st:J) (ls:List Lm) (ds:List Sp),r=U (.agg #[aD.v,st.v])/\Z F0 w0 w' [.row g9 4 aD (ls.flatMap Lm.cs),.row dk 7 st (ds.flatMap Sp.c)] (D++[cP ds])/\
 (∀b∈(cP ds).fp,w0.heap.size<=b)/\ls.length<=2/\ds.length<=cm/\∀i d,ds[i]? =some d->mP 1 i ls.length d.x
abbrev oP(d:Nat)(x:dz)(p l h:J):En:=.c d [.i x.kind,.i x.node,.i x.dD,p.v,.string x.nm,l.v,h.v] dk
section
variable {w0:C} {cm b4 b5 b9:Nat} {l0 aD st:J} {xs:List Int} {ls:List Lm} {ds:List Sp} {D:List En}
def Mx(n m:Nat):bw (n:Int) (m:Int)=((n%m:Nat):Int):=rfl
abbrev s8(w0:C)(b4 b5:Nat)(aD:J)(ls:List Lm)(st:J)(ds:List Sp)(D:List En)(w:C):Prop:=Z F0 w0 w (hW b4 b5 aD ls st ds) (D++[cP ds])
def H7{j:Nat}{x:dz}{p l h:J}{D1:List En}{w:C}{R:aa}(hi:j<=1000000)(I:ds.length<=1000000)(H:Z F0 w0 w (hW b4 b5 aD ls st ds++[oP b9 x p l h]) D1)(F:∀e∈D,e∈D1)(B:cP ds∈D1)(z:∀e∈[Sp.pE ⟨x,p,l,h⟩,Sp.hE ⟨x,p,l,h⟩,Sp.lE ⟨x,p,l,h⟩],(e∈D1\/(e.fp=[]/\∀w,e.P w)))(A:∀k n,s8 w0 b4 b5 aD ls k (ds++[⟨x,p,l,h⟩]) D n->f'.L2 l0 cm (ag b4) (ag b5) ((j+1:Nat):Int) n R):
  f'.S6 l0 cm (ag b4) (ag b5) (j:Int) (ag b9) w R:=by
 have E:=(H.get 3:aG _ _ _ _ _).len;rw[Sp.ee]at E;refine⟨st,H.ld 1 1,_,_,_,_,_,_,_,H.ld 4 0,H.ld 4 1,H.ld 4 2,H.ld 4 3,H.ld 4 4,H.ld 4 5,H.ld 4 6,H.tm 3 pI rfl (λk K q _ _=>q.st 1 1 rfl λG u=>?_) (by omega)⟩;rw[bA _ (by omega)];refine A k G (Us (l:=ds) (d:=(⟨x,p,l,h⟩:Sp)) ?_ F B z);have e:(ds++[(⟨x,p,l,h⟩:Sp)]).flatMap Sp.c=ds.flatMap Sp.c++Sp.c ⟨x,p,l,h⟩:=by simp
 have y:=u.take 4;unfold hW;rw[e];exact y
structure Np(w0:C)(b4 b5 b9:Nat)(aD:J)(ls:List Lm)(st:J)(ds:List Sp)(D:List En)(i7:Nat)(x:dz)(p l:J)(w:C):Prop where
 g:mP 1 i7 ls.length x/\x.hints=[]
 H:∃D1,Z F0 w0 w (hW b4 b5 aD ls st ds++[oP b9 x p l ⟨none,0,0⟩]) D1/\(∀e∈D,e∈D1)/\cP ds∈D1/\(∀e∈[Sp.pE ⟨x,p,l,⟨none,0,0⟩⟩,Sp.lE ⟨x,p,l,⟨none,0,0⟩⟩],(e∈D1\/(e.fp=[]/\∀w,e.P w))/\∀b∈e.fp,w0.heap.size<=b)
def uf{c n:Nat}{x:dz}{p l:J}{w:C}{R:aa}(hi:c<=1000000)(hn:n<=1073741824)(Y:ds.length<=1000000)(af:Np w0 b4 b5 b9 aD ls st ds D c x p l w)(hk:∀(d:Sp) B z,mP 1 c ls.length d.x->(∀k∈[d.pE,d.hE,d.lE],∀b∈k.fp,w0.heap.size<=b)->s8 w0 b4 b5 aD ls B (ds++[d]) D z->f'.L2 l0 cm (ag b4) (ag b5) ((c+1:Nat):Int) z R):
  f'.S4 l0 cm (ag b4) (ag b5) (c:Int) (n:Int) (ag b9) w R:=by
 obtain⟨⟨q,ab⟩,F,G,hs,hl,ac⟩:=af;have hp:=ac _ (List.mem_cons_self ..);have ao:=ac _ (List.mem_cons_of_mem _ (List.mem_cons_self ..));have W:f'.S6 l0 cm (ag b4) (ag b5) (c:Int) (ag b9) w R:=by
  refine H7 (x:=x) (p:=p) (l:=l) (h:=⟨none,0,0⟩) hi Y G hs hl (λk e=>?_) λB z K=>hk ⟨x,p,l,⟨none,0,0⟩⟩ B z q (λk e=>?_) K
  .simp only[ay,aW,a3]at e;rcases e with rfl|rfl|rfl
   .grind
   .refine .inr ?_;show(En.rd ⟨none,0,0⟩ (x.hints.map bd)).fp=[]/\∀w,(En.rd ⟨none,0,0⟩ (x.hints.map bd)).P w;rw[ab];exact r9
   grind
  .simp only[ay,aW,a3]at e;rcases e with rfl|rfl|rfl
   .grind
   .intro b j;have j:b∈(En.rd ⟨none,0,0⟩ (x.hints.map bd)).fp:=j;rw[ab,r9.1]at j;cases j
   grind
 refine aQ (λan=>?_) (λ_=>W);have T:f'.S5 l0 cm (ag b4) (ag b5) (c:Int) (n:Int) (ag b9) w R:=by
  have aj:ad .i64 (bE (n:Int) 8)=((n / 8:Nat):Int):=by rw[show bE (n:Int) 8=((n / 8:Nat):Int)from rfl,bf _ (by omega)]
  have ai:ad .i64 (bE (n:Int) 64)=((n / 64:Nat):Int):=by rw[show bE (n:Int) 64=((n / 64:Nat):Int)from rfl,bf _ (by omega)]
  have ah:ad .i64 (bE (n:Int) 256)=((n / 256:Nat):Int):=by rw[show bE (n:Int) 256=((n / 256:Nat):Int)from rfl,bf _ (by omega)]
  have fin:∀(u:List Int) (h:J) (E:C),(∀I∈u,0<=I/\I<(c:Int))->u.length<=2->Z F0 w0 E (hW b4 b5 aD ls st ds++[oP b9 x p l h,.row bp 1 h (u.map bd)]) F->f'.S6 l0 cm (ag b4) (ag b5) (c:Int) (ag b9) E R:=by
   intro u h E H M y;have ak:∀b∈aO h,w0.heap.size<=b:=λb j=>(y.new _ (aE (i:=5) rfl) b j).resolve_right id;have L:Z F0 w0 E (hW b4 b5 aD ls st ds++[oP b9 x p l h]) (F++[.rd h (u.map bd)]):=y.freeze 5 (.rd h (u.map bd)) rfl (aG.fR (y.get 5)) λb j=>iX j
   let x':dz:=⟨x.kind,x.node,x.dD,x.params,x.nm,x.cY,u⟩
   refine H7 (x:=x') (p:=p) (l:=l) (h:=h) hi Y L (λk e=>bS _ (hs k e)) (bS _ hl) (λk e=>?_) λB z K=>hk ⟨x',p,l,h⟩ B z ⟨q.kind,q.node,q.dD,q.params,q.cY,⟨H,M⟩,q.nm⟩ (λk e=>?_) K
   .grind
   .simp only[ay,aW,a3]at e;rcases e with rfl|rfl|rfl
    .grind
    .exact kZ ak
    grind
  have aq:n / 8%c<c:=Nat.mod_lt _ (by omega);have ar:n / 256%c<c:=Nat.mod_lt _ (by omega);have H0:Z F0 w0 w (hW b4 b5 aD ls st ds++[oP b9 x p l ⟨none,0,0⟩,.row bp 1 ⟨none,0,0⟩ []]) F:=G.gP bp 1;refine H0.dr λw1 N=>⟨⟨none,0,0⟩,N.ld 4 6,by omega,?_⟩;rw[aj,ai,ah,Mx,Mx];refine N.ny λE _ y al=>⟨y.ld 4 6,y.ap 5 h' (s:=⟨none,0,0⟩) (src:=⟨some (ag w1.heap.size),1,1⟩) (news:=[.i ((n / 8%c:Nat):Int)]) rfl (lP (n:=1) (sz:=1) (cs:=[.i ((n / 8%c:Nat):Int)]) al rfl).2.2 rfl (by simp[Value.oneCell']) (by grind) λA w3 L au _=>L.st 4 6 rfl λw4 H4=>?_⟩;have O:Z F0 w0 w4 (hW b4 b5 aD ls st ds++[oP b9 x p l A,.row bp 1 A ([((n / 8%c:Nat):Int)].map bd)]) F:=H4;refine aQ (λ_=>O.dr λw5 Q=>⟨A,Q.ld 4 6,by omega,?_⟩) (λ_=>fin [((n / 8%c:Nat):Int)] A w4 (λI H=>by grind) (by simp) O);refine Q.ny λw6 _ S am=>⟨S.ld 4 6,S.ap 5 h' (s:=A) (src:=⟨some (ag w5.heap.size),1,1⟩) (news:=[.i ((n / 256%c:Nat):Int)]) rfl (lP (n:=1) (sz:=1) (cs:=[.i ((n / 256%c:Nat):Int)]) am rfl).2.2 rfl (by simp[Value.oneCell']) (by grind) λM w7 ae _ _=>ae.st 4 6 rfl λw8 H8=>?_⟩;exact fin [((n / 8%c:Nat):Int),((n / 256%c:Nat):Int)] M w8 (by intro I H;simp only[ay,aW,a3]at H;omega) (by simp) H8
 exact⟨x.kind,G.ld 4 0,aJ (λ_=>T) (λ_=>⟨x.kind,G.ld 4 0,aJ (λ_=>T) (λ_=>W)⟩)⟩
def R0{c:Int}(h:c=2\/c=-2\/c=3\/c=-3):fq [c]=0/\(∀d∈[c],bn d)/\[c].length<=3:=by
 refine⟨?_,λd e=>?_,by simp⟩
 .rcases h with rfl|rfl|rfl|rfl<;>decide
 grind
def wW:bn 0:=by decide
def Qz{G n k m:Nat}{c:Int}{l:J}{D1:List En}{w:C}{R:aa}(hi:G<=1000000)(A:n<=1073741824)(u:ds.length<=1000000)(al:ls.length<=1000)(aj:k<=5)(hm:m<=2)(hc:c=2\/c=-2\/c=3\/c=-3)(H:Z F0 w0 w (hW b4 b5 aD ls st ds++[oP b9 ⟨(k:Int),(m:Int),0,[],ba [],[c],[]⟩ ⟨none,0,0⟩ l ⟨none,0,0⟩]) D1)(B:∀e∈D,e∈D1)(E:cP ds∈D1)(hl:En.rd l ([c].map bd)∈D1)(ak:∀b∈(En.rd l ([c].map bd)).fp,w0.heap.size<=b)(y:∀(d:Sp) fT w',mP 1 G ls.length d.x->(∀e∈[d.pE,d.hE,d.lE],∀b∈e.fp,w0.heap.size<=b)->s8 w0 b4 b5 aD ls fT (ds++[d]) D w'->f'.L2 l0 cm (ag b4) (ag b5) ((G+1:Nat):Int) w' R):
  f'.S3 l0 cm (ag b4) (ag b5) (G:Int) (n:Int) (ag b9) w R:=by
 have z:=R0 hc;have an:aD.n=ls.length:=by have:=(H.get 2:aG _ _ _ _ _).len;rw[Lm.len]at this;omega
 have two:∀{w':C} {x:dz},x.params=[]->x.cY=[c]->∀e∈[Sp.pE ⟨x,⟨none,0,0⟩,l,⟨none,0,0⟩⟩,Sp.lE ⟨x,⟨none,0,0⟩,l,⟨none,0,0⟩⟩],(e∈D1\/(e.fp=[]/\∀w,e.P w))/\∀b∈e.fp,w0.heap.size<=b:=by
  intro w' x S T e h;simp only[ay,aW,a3]at h;rcases h with rfl|rfl
  .have e:Sp.pE ⟨x,⟨none,0,0⟩,l,⟨none,0,0⟩⟩=.rd ⟨none,0,0⟩ (([]:List Int).map bd):=by grind
   rw[e];exact⟨.inr r9,λb j=>by rw[r9.1]at j;cases j⟩
  grind
 have ai:∀N<4,∃F,F∈yg/\(#[.string (av #[97]),.string (av #[98]),.string (av #[99]),.string (av #[100,100])]:Array ab)[N]? =some (.string F):=by
  intro N hj
  match N,hj with
  |0,_=>exact⟨_,.tail _ (.head _),rfl⟩
  |1,_=>exact⟨_,.tail _ (.tail _ (.head _)),rfl⟩
  |2,_=>exact⟨_,.tail _ (.tail _ (.tail _ (.head _))),rfl⟩
  |3,_=>exact⟨_,.tail _ (.tail _ (.tail _ (.tail _ (.head _)))),rfl⟩
 have I:ba []∈yg:=.head _;refine⟨(k:Int),H.ld 4 0,aJ (λS=>?_) (λS=>aJ (λT=>?_) (λT=>aJ (λW=>?_) (λW=>?_)))⟩
 .
  obtain⟨F,af,hg⟩:=ai (n%4) (Nat.mod_lt _ (by omega));refine H.ny λw1 _ Y ah=>⟨by grind,by grind,qo ⟨F,?_,Y.st 4 4 rfl λw2 H2=>?_⟩⟩
  .rw [show bw (n:Int) 4=((n%4:Nat):Int)from rfl,bT,Nat.mul_one];exact cellAt (p:=ag w.heap.size) ah rfl (by grind)
  .exact uf (x:=⟨(k:Int),(m:Int),0,[],F,[c],[]⟩) (p:=⟨none,0,0⟩) (l:=l) hi A u ⟨⟨⟨⟨by grind,by grind⟩,⟨by grind,λq=>by grind⟩,wW,⟨by simp,by simp⟩,z,⟨by simp,by simp⟩,af⟩,rfl⟩,D1,H2,B,E,two (w':=w) rfl rfl⟩ y
 .
  have hr:bw (n:Int) 2=((n%2:Nat):Int):=rfl;have hq:bw (ad .i64 (bE (n:Int) 2)) 3=((n / 2%3:Nat):Int):=by rw[show bE (n:Int) 2=((n / 2:Nat):Int)from rfl,bf _ (by omega)];rfl
  rw[hr,hq];refine H.st 4 2 rfl λK H3=>H3.cB (n:=1) (sz:=1) (cs:=[((n / 2%3:Nat):Int)].map bd) rfl (by decide) λw4 L=>?_;have ac:∀b∈aO ⟨some (ag K.heap.size),1,1⟩,w0.heap.size<=b:=λb j=>(L.new _ (aE (i:=5) rfl) b j).resolve_right id;have H5:Z F0 w0 w4 (hW b4 b5 aD ls st ds++[oP b9 ⟨(k:Int),(m:Int),((n%2:Nat):Int),[],ba [],[c],[]⟩ ⟨none,0,0⟩ l ⟨none,0,0⟩]) (D1++[.rd ⟨some (ag K.heap.size),1,1⟩ ([((n / 2%3:Nat):Int)].map bd)]):=L.freeze 5 (.rd ⟨some (ag K.heap.size),1,1⟩ ([((n / 2%3:Nat):Int)].map bd)) rfl (aG.fR (L.get 5)) λb j=>iX j;refine H5.st 4 3 rfl λw5 M=>?_;refine uf (x:=⟨(k:Int),(m:Int),((n%2:Nat):Int),[((n / 2%3:Nat):Int)],ba [],[c],[]⟩) (p:=⟨some (ag K.heap.size),1,1⟩) (l:=l) hi A u ⟨⟨⟨⟨by grind,by grind⟩,⟨by grind,λq=>by grind⟩,by grind,⟨λao hy=>by grind,by simp⟩,z,⟨by simp,by simp⟩,I⟩,rfl⟩,_,M,λe h=>bS _ (B e h),bS _ E,λe h=>?_⟩ y;simp only[ay,aW,a3]at h;rcases h with rfl|rfl
  .exact ⟨.inl (ef _ (cO.2 rfl)),kZ ac⟩
  grind
 .
  refine⟨aD,H.ld 1 0,aJ (λQ=>H.st 4 0 rfl λw6 M=>?_) (λQ=>⟨aD,H.ld 1 0,Q,H.st 4 1 rfl λw7 O=>?_⟩)⟩
  .exact uf (x:=⟨0,(m:Int),0,[],ba [],[c],[]⟩) (p:=⟨none,0,0⟩) (l:=l) hi A u ⟨⟨⟨⟨by grind,by grind⟩,⟨by grind,λq=>by cases q⟩,wW,⟨by simp,by simp⟩,z,⟨by simp,by simp⟩,I⟩,rfl⟩,D1,M,B,E,two (w':=w) rfl rfl⟩ y
  .have e:bw (n:Int) ((aD.n:Nat):Int)=((n%ls.length:Nat):Int):=by grind
   have ae:0<ls.length:=by omega
   have am:n%ls.length<ls.length:=Nat.mod_lt _ ae;rw[e]at O;exact uf (x:=⟨(k:Int),((n%ls.length:Nat):Int),0,[],ba [],[c],[]⟩) (p:=⟨none,0,0⟩) (l:=l) hi A u ⟨⟨⟨⟨by grind,by grind⟩,⟨by grind,λ_=>by grind⟩,wW,⟨by simp,by simp⟩,z,⟨by simp,by simp⟩,I⟩,rfl⟩,D1,O,B,E,two (w':=w) rfl rfl⟩ y
 .exact uf (x:=⟨(k:Int),(m:Int),0,[],ba [],[c],[]⟩) (p:=⟨none,0,0⟩) (l:=l) hi A u ⟨⟨⟨⟨by grind,by grind⟩,⟨by grind,λq=>absurd q W⟩,wW,⟨by simp,by simp⟩,z,⟨by simp,by simp⟩,I⟩,rfl⟩,D1,H,B,E,two (w':=w) rfl rfl⟩ y
def Qy(hx:∀z∈xs,bn z)(ax:xs.length<=9223372036854775807)(av:cm<=1000)(N:En.rd l0 (xs.map bd)∈D)(aj:ls.length<=2):∀(k d:Nat) (st:J) (ds:List Sp) (w:C),d+k=cm->ds.length=d->(∀i j,ds[i]? =some j->mP 1 i ls.length j.x)->(∀b∈(cP ds).fp,w0.heap.size<=b)->s8 w0 b4 b5 aD ls st ds D w->
  f'.L2 l0 cm (ag b4) (ag b5) (d:Int) w λr F=>s7 w0 D cm r F:=by
 intro k;have done:∀(d:Nat) (st:J) (ds:List Sp) (w:C),ds.length<=cm->(∀i j,ds[i]? =some j->mP 1 i ls.length j.x)->(∀b∈(cP ds).fp,w0.heap.size<=b)->s8 w0 b4 b5 aD ls st ds D w->f'.S7 (ag b4) (ag b5) w λr F=>s7 w0 D cm r F:=by intro d st ds w af y q e;refine⟨aD,st,e.ld 1 0,e.ld 1 1,e.jr 0 rfl λQ H=>H.st 0 1 rfl λG A=>⟨aD,st,A.ld 0 0,A.ld 0 1,aD,st,ls,ds,rfl,?_,q,aj,af,y⟩⟩;exact A.ik [false,false,true,true]
 induction k with
 |zero=>
  intro d st ds w hk O y q e;have hn:=bo.len (e.rd _ (bS _ N):bo w l0 xs);exact f'.tf _ _ _ _ _ _ _ (aQ (λ_=>bb (a2 (by omega)) (done d st ds w (by omega) y q e)) (λ_=>done d st ds w (by omega) y q e))
 |succ k ih=>
  intro d st ds w hk O y q e;have P:bo w l0 xs:=e.rd _ (bS _ N);have hn:=bo.len P;refine f'.tf _ _ _ _ _ _ _ (aQ (λau=>a8 (a0 (by omega)) ?_) (λ_=>done d st ds w (by omega) y q e));have K:xs[d]? =some xs[d]:=a9 (by omega);generalize xs[d]=z at K;have hy:=hx z (aE K);refine⟨by omega,by omega,bo.cell P K (by omega) λay _ hq=>⟨z,hq,e.call (fM z 1073741824 w (by omega) hy) ?_⟩⟩;rintro _ Q rfl H;obtain⟨r1,r2⟩:=hj z 1073741824 (by omega);obtain⟨t,ht⟩:=Int.eq_ofNat_of_zero_le r1;rw[ht]at r2 ⊢;have aa:bw (ad .i64 (bE (t:Int) 18)) 4=((t / 18%4:Nat):Int):=by rw[show bE (t:Int) 18=((t / 18:Nat):Int)from rfl,bf _ (by omega)];rfl
  have e6:bw (t:Int) 6=((t%6:Nat):Int):=rfl;have ac:bw (ad .i64 (bE (t:Int) 6)) 3=((t / 6%3:Nat):Int):=by rw[show bE (t:Int) 6=((t / 6:Nat):Int)from rfl,bf _ (by omega)];rfl
  have ae:ad .i64 (bE (t:Int) 72)=((t / 72:Nat):Int):=by rw[show bE (t:Int) 72=((t / 72:Nat):Int)from rfl,bf _ (by omega)]
  have am:∀L<4,∃h:Int,(h=2\/h=-2\/h=3\/h=-3)/\(#[.i 2,.i (-2),.i 3,.i (-3)]:Array ab)[L]? =some (.i h):=by
   intro L ai
   match L,ai with
   |0,_=>grind
   |1,_=>grind
   |2,_=>exact⟨3,.inr (.inr (.inl rfl)),rfl⟩
   |3,_=>exact⟨-3,.inr (.inr (.inr rfl)),rfl⟩
  obtain⟨h,hc,ap⟩:=am (t / 18%4) (Nat.mod_lt _ (by omega));refine⟨(t:Int),rfl,?_⟩;dsimp only;rw[aa,e6,ac,ae];refine H.ny λG _ A al=>⟨by omega,by omega,qo ⟨h,?_,?_⟩⟩
  .rw [bT,Nat.mul_one];exact cellAt (p:=ag Q.heap.size) al rfl (by grind)
  refine A.cB (n:=1) (sz:=1) (cs:=[h].map bd) rfl (by decide) λw3 I=>?_;have ah:∀b∈aO ⟨some (ag G.heap.size),1,1⟩,w0.heap.size<=b:=λb B=>(I.new _ (aE (i:=4) rfl) b B).resolve_right id;have T:Z F0 w0 w3 (hW b4 b5 aD ls st ds) (D++[cP ds]++[.rd ⟨some (ag G.heap.size),1,1⟩ ([h].map bd)]):=I.freeze 4 (.rd ⟨some (ag G.heap.size),1,1⟩ ([h].map bd)) rfl (aG.fR (I.get 4)) λb B=>iX B;refine T.nw λw4 _ W=>W.UI 4 rfl λw5 Y=>?_;refine Qz (k:=t%6) (m:=t / 6%3) (n:=t / 72) (c:=h) (l:=⟨some (ag G.heap.size),1,1⟩) (by omega) (by omega) (by omega) (by omega) (by omega) (by omega) hc Y (λM u=>bS _ (bS _ u)) (bS _ (ef _ (cO.2 rfl))) (ef _ (cO.2 rfl)) (kZ ah) λj an F ar aq S=>?_;refine ih (d+1) an (ds++[j]) F (by omega) (by simp[O]) (λi M u=>?_) (λb B=>?_) S
  .rw [List.getElem?_append]at u;split at u
   .grind
   .rename_i aw;have:i - ds.length=0:=by grind
    rw[this]at u;have u:j=M:=by grind
    have hi:i=d:=by omega
    grind
  .obtain ⟨ao,E,ak⟩:=gw.1 B;simp only[jq,ea,a6,dT,List.flatMap_nil,kV]at E;rcases E with E|E
   .exact q b (gw.2 ⟨ao,E,ak⟩)
   grind
end
def Gf{w:C}{D:List En}{n:J}{xs:List Int}(j:∀aa∈xs,bn aa)(P:xs.length<=9223372036854775807){cm:Nat}(O:cm<=1000)(h:En.rd n (xs.map bd)∈D)(H:Z F0 w w [] D):
  ah V xF #[n.v,.i (cm:Int)] w λr w'=>s7 w D cm r w':=by
 refine f'.ok _ _ w _ (H.nw λq _ E=>E.nw λu _ F=>F.jr 1 rfl λA G=>G.st 1 1 rfl λW I=>?_);have nil:∀{L:List En} {w':C},Z F0 w w' L D->Z F0 w w' L (D++[cP []]):=λH=>H.kR _ λx d=>by
  rcases a6.1 d with d|d
  .grind
  .rw [cO.1 d];exact⟨λ_=>λx d=>by grind,λb y=>by
    obtain⟨x,d,_⟩:=gw.1 y
    grind⟩
 have K:=(I.gP g9 4).gP dk 7;have loop:∀(k i:Nat) (aD:J) (ls:List Lm) (w':C),i+k=2->ls.length=i->Z F0 w w' (hW w.heap.size q.heap.size aD ls ⟨none,0,0⟩ []) D->f'.L0 n cm (ag w.heap.size) (ag q.heap.size) (i:Int) w' λr w'=>s7 w D cm r w':=by
  intro k;have next:∀(aD:J) (ls:List Lm) (w':C),ls.length<=2->Z F0 w w' (hW w.heap.size q.heap.size aD ls ⟨none,0,0⟩ []) D->f'.L2 n cm (ag w.heap.size) (ag q.heap.size) 0 w' λr w'=>s7 w D cm r w':=λaD ls w' z c=>
   Qy j P O h z cm 0 ⟨none,0,0⟩ [] w' (by omega) rfl (λi ab ac=>by grind) (λb y=>by
    obtain⟨x,d,_⟩:=gw.1 y
    grind) (nil c)
  induction k with
  |zero=>
   intro i aD ls w' N z c;refine f'.cf _ _ _ _ _ _ _ (c.call (pn (c.rd _ h) j 0 3 (by omega)) ?_);rintro _ u ⟨t,rfl,S,T⟩ e;exact⟨_,rfl,bb (a2 (by omega)) (next aD ls u (by omega) e)⟩
  |succ k Q=>
   intro i aD ls w' N z c;refine f'.cf _ _ _ _ _ _ _ (c.call (pn (c.rd _ h) j 0 3 (by omega)) ?_);rintro _ u ⟨t,rfl,S,T⟩ e;refine⟨_,rfl,aQ (λ_=>?_) (λ_=>next aD ls u (by omega) e)⟩;refine QA e (by omega) (λae B=>⟨xs,B.rd _ h,j⟩) λs Y A M=>?_;show f'.L0 _ _ _ _ (ad .i64 _) _ _;rw[bA _ (by omega)];exact Q (i+1) s (ls++[Y]) A (by omega) (by grind) M
 exact loop 2 0 ⟨none,0,0⟩ [] W rfl rfl K
set_option maxHeartbeats 2000000
def VN{P:aR}{n:Cx}{c:Code}{Q:Exit->Act->C->Prop}{E E':Env}{w:C}(h:∀t v,E'.get? t=some v->E.get? t=some v)(j:WP P n c Q E' w):WP P n c Q E w:=λa d=>j a ⟨d.defers,d.size,λt v e=>d.get t v (h t v e)⟩
def U5{E:Env}{i j:Nat}{a b:ab}(h:E.get? i=some a)(k:E.get? j=some b):∀t v,Env.get? [(i,a),(j,b)] t=some v->E.get? t=some v:=by
 intro t v c;unfold Env.get? at c;cases d:cv i t with
 |true=>
  rw[d]at c;have:=Nat.eq_of_beq_eq_true d
  grind
 |false=>
  rw[d]at c;have c:Env.get? [(j,b)] t=some v:=c;unfold Env.get? at c;cases e:cv j t with
  |true=>
   rw[e]at c;have:=Nat.eq_of_beq_eq_true e
   grind
  |false=>rw[e]at c;cases c
namespace tS
abbrev T9(s:J)(k:Int)(w:C)(R:aa):Prop:=
 (0:Int)<=(bw (ad .i64 (bE k 216)) 8)/\(bw (ad .i64 (bE k 216)) 8)<((s.n:Nat):Int)/\cd s.a λp=>bH w (p.add (ae (bw (ad .i64 (bE k 216)) 8) *4)) λa b c d=>ll qd #[.agg #[.i a,.int .u8 b,.int .u8 c,d.v]] w λe f g i h=>mc jj #[.agg #[.i e,.int .u8 f,.int .u8 g,i.v],.i 0] h λt j=>R (U (.string t)) j
def K9(R:aa)(E:Env)(w:C):Prop:=∃(s:J) (k:Int),E.get? 9=some s.v/\E.get? 3=some (.i k)/\T9 s k w R
noncomputable def C0:Code:=(Tryz.f54.body).getD .skip
noncomputable def C1:=C0.sn
noncomputable def C2:=C1.sn
noncomputable def C3:=C2.sn
noncomputable def C4:=C3.sn
noncomputable def C5:=C4.sn
noncomputable def C6:=C5.sn
noncomputable def C7:=C6.sn
noncomputable def C8:=C7.sn
noncomputable def C9:=C8.sn
def ok(j:Int)(w:C)(R:aa)(h:en eO #[.i j,.i 1048576] w λt11 w1=>ll mr #[] w1 λz A B D e=>aK e (.cells #[.i 2,.int .u8 97,.int .u8 97,.slice none 0 0,.i 2,.int .u8 98,.int .u8 98,.slice none 0 0,.i 2,.int .u8 0,.int .u8 0,.slice none 0 0,.i 2,.int .u8 97,.int .u8 98,.slice none 0 0,.i 1,.int .u8 0,.int .u8 0,.slice none 0 0,.i z,.int .u8 A,.int .u8 B,D.v] aL) λq=>
 (0:Int)<=(bw t11 6)/\(bw t11 6)<((6:Nat):Int)/\cd (some (nb e)) λF=>bH q (F.add (ae (bw t11 6) *4)) λG H I J=>aK q (.cells #[.i 0,.int .u8 0,.int .u8 0,.slice none 0 0] aL) λw4=>
 g8 w4 (nb q) (.i G) (.int .u8 H) (.int .u8 I) (J.v) λx=>(0:Int)<=(bw (ad .i64 (bE t11 6)) 6)/\(bw (ad .i64 (bE t11 6)) 6)<((6:Nat):Int)/\cd (some (nb e)) λK=>bH x (K.add (ae (bw (ad .i64 (bE t11 6)) 6) *4)) λL M N O=>aK x (.cells #[.i 0,.int .u8 0,.int .u8 0,.slice none 0 0] aL) λw9=>
 g8 w9 (nb x) (.i L) (.int .u8 M) (.int .u8 N) (O.v) λu=>(0:Int)<=(bw (ad .i64 (bE t11 36)) 6)/\(bw (ad .i64 (bE t11 36)) 6)<((6:Nat):Int)/\cd (some (nb e)) λP=>bH u (P.add (ae (bw (ad .i64 (bE t11 36)) 6) *4)) λQ S T W=>aK u (.cells #[.i 0,.int .u8 0,.int .u8 0,.slice none 0 0] aL) λaf=>
 g8 af (nb u) (.i Q) (.int .u8 S) (.int .u8 T) (W.v) λn=>bH n (nb q) λY Z ab ac=>aK n (.cells #[.i Y,.int .u8 Z,.int .u8 ab,ac.v] aL) λy=>
 aK y (.cells #[.i 0,.int .u8 0,.int .u8 0,.slice none 0 0] aL) λag=>
 g8 ag (nb y) (.i 7) (.int .u8 0) (.int .u8 0) (.slice (some (nb n)) 1 1) λai=>vq V C7 (K9 R) [(8,.pointer (some (nb y))),(38,.agg #[.i 7,.int .u8 0,.int .u8 0,.slice (some (nb n)) 1 1]),(37,.slice (some (nb n)) 1 1),(36,.agg #[.i Y,.int .u8 Z,.int .u8 ab,ac.v]),(7,.pointer (some (nb u))),(35,.agg #[.i Q,.int .u8 S,.int .u8 T,W.v]),(34,.pointer (some (P.add (ae (bw (ad .i64 (bE t11 36)) 6) *4)))),(33,.i (bw (ad .i64 (bE t11 36)) 6)),(32,.i (ad .i64 (bE t11 36))),(31,.i t11),(30,.slice (some (nb e)) 6 6),(6,.pointer (some (nb x))),(29,.agg #[.i L,.int .u8 M,.int .u8 N,O.v]),(28,.pointer (some (K.add (ae (bw (ad .i64 (bE t11 6)) 6) *4)))),(27,.i (bw (ad .i64 (bE t11 6)) 6)),(26,.i (ad .i64 (bE t11 6))),(25,.i t11),(24,.slice (some (nb e)) 6 6),(5,.pointer (some (nb q))),(23,.agg #[.i G,.int .u8 H,.int .u8 I,J.v]),(22,.pointer (some (F.add (ae (bw t11 6) *4)))),(21,.i (bw t11 6)),(20,.i t11),(19,.slice (some (nb e)) 6 6),(4,.slice (some (nb e)) 6 6),(18,.slice (some (nb e)) 6 6),(17,.agg #[.i z,.int .u8 A,.int .u8 B,D.v]),(16,.agg #[.i 1,.int .u8 0,.int .u8 0,.slice none 0 0]),(15,.agg #[.i 2,.int .u8 97,.int .u8 98,.slice none 0 0]),(14,.agg #[.i 2,.int .u8 0,.int .u8 0,.slice none 0 0]),(13,.agg #[.i 2,.int .u8 98,.int .u8 98,.slice none 0 0]),(12,.agg #[.i 2,.int .u8 97,.int .u8 97,.slice none 0 0]),(3,.i t11),(11,.i t11),(10,.i j),(2,.s0),(0,.i j)] ai):ah V Cb #[.i j] w R:=
 tD (R:=R) (fn:=Tryz.f54) (c:=C0) (args:=[.i j]) (by kernel_rfl) (by kernel_rfl) (by kernel_rfl) (sr C0 (show(λ(E:Env) (w:C)=>dJ V C0 (λE w=>dJ V C1 (λE w=>dJ V C2 (λE w=>dJ V C3 (λE w=>dJ V C4 (λE w=>dJ V C5 (λE w=>dJ V C6 (λE w=>vq V C7 (K9 R) E w) E w) E w) E w) E w) E w) E w) E w) (ke 0 [.i j]) w from mp h) λ_ _ d=>(sr C1 d λ_ _ d=>(sr C2 d λ_ _ d=>(sr C3 d λ_ _ d=>(sr C4 d λ_ _ d=>(sr C5 d λ_ _ d=>(sr C6 d λ_ _ d=>(si C7 (by kernel_rfl) d λ_ _ d=>(let ⟨s,k,h9,h3,h⟩:=d;VN (E':=[(9,s.v),(3,.i k)]) (U5 h9 h3) (sr C8 (show dJ V C8 (λE w=>kq V Tryz.f54 E w (λv=>R (U v) w)) [(9,s.v),(3,.i k)] _ from mp h) λ_ _ d=>(rt C9 λa hA=>vh hA d)))))))))))
end tS
inductive tj where
 |tr (x:Rx)
 |ls (l:List Rx)
def um(base:Nat)(w:C)(v:Option ab):tj->Prop
 |.tr c=>∃t:I,v=some t.v/\t.rx=c/\t.P w/\∀b∈t.fp,base<=b
 |.ls l=>∃(s:J) (ts:List I),v=some s.v/\I.au ts=l/\(bR s ts).P w/\∀b∈(bR s ts).fp,base<=b
def um.ct{base:Nat}{w w':C}{v:Option ab}{k:tj}(h:um base w v k)(f:aj w w'):um base w' v k:=by
 cases k with
 |tr q=>obtain⟨t,c,d,e,j⟩:=h;exact⟨t,c,d,e.ct f,j⟩
 |ls l=>obtain⟨s,n,c,d,e,j⟩:=h;exact⟨s,n,c,d,e.ct f,j⟩
def dt(i:Nat):Nat:=if i=40 then 9 else 39+i
def i9(base:Nat)(w:C)(E:Env)(t:Nat)(x:Rx):Prop:=∃(b:Nat) (u:I),E.get? t=some (.pointer (some (ag b)))/\w.heap[b]? =some (.cells u.c.toArray aL (0,0))/\u.rx=x/\u.P w/\∀d∈u.fp,base<=d
def i9.ct{base:Nat}{w w':C}{E:Env}{t:Nat}{x:Rx}(h:i9 base w E t x)(f:aj w w'):i9 base w' E t x:=by obtain⟨b,n,d,c,e,j,k⟩:=h;exact⟨b,n,d,(f.cA b (lt_of_heap c) id).trans c,e,j.ct f,k⟩
def i9.put{base:Nat}{w:C}{E:Env}{t d:Nat}{v:ab}{x:Rx}(h:i9 base w E t x)(j:d≠t):i9 base w (E.put (some d) v) t x:=by obtain⟨b,k,c,e⟩:=h;exact⟨b,k,by rw[hr j];exact c,e⟩
section
variable (w0:C) (base:Nat) (kk:Int) (Xa Xb Xc Xs:Rx)
def dI:List tj:=[.tr Xa,
 .tr Xa,
 .tr Xb,
 .ls [Xa,Xb],
 .tr (.mk 3 0 0 [Xa,Xb]),
 .tr Xa,
 .tr Xb,
 .tr Xc,
 .ls [Xa,Xb,Xc],
 .tr (.mk 4 0 0 [Xa,Xb,Xc]),
 .tr Xs,
 .tr Xs,
 .tr Xb,
 .ls [Xs,Xb],
 .tr (.mk 3 0 0 [Xs,Xb]),
 .tr Xa,
 .tr Xb,
 .ls [Xa,Xb],
 .tr (.mk 3 0 0 [Xa,Xb]),
 .ls [(.mk 3 0 0 [Xa,Xb])],
 .tr (.mk 6 0 0 [(.mk 3 0 0 [Xa,Xb])]),
 .tr Xb,
 .tr Xa,
 .tr Xc,
 .ls [Xa,Xc],
 .tr (.mk 4 0 0 [Xa,Xc]),
 .ls [(.mk 4 0 0 [Xa,Xc])],
 .tr (.mk 7 0 0 [(.mk 4 0 0 [Xa,Xc])]),
 .ls [Xb,(.mk 7 0 0 [(.mk 4 0 0 [Xa,Xc])])],
 .tr (.mk 3 0 0 [Xb,(.mk 7 0 0 [(.mk 4 0 0 [Xa,Xc])])]),
 .tr Xb,
 .ls [Xb],
 .tr (.mk 6 0 0 [Xb]),
 .tr Xa,
 .tr eH,
 .ls [Xa,eH],
 .tr (.mk 3 0 0 [Xa,eH]),
 .ls [(.mk 6 0 0 [Xb]),(.mk 3 0 0 [Xa,eH])],
 .tr (.mk 5 0 0 [(.mk 6 0 0 [Xb]),(.mk 3 0 0 [Xa,eH])]),
 .ls [Xa,(.mk 3 0 0 [Xa,Xb]),(.mk 4 0 0 [Xa,Xb,Xc]),Xs,(.mk 3 0 0 [Xs,Xb]),(.mk 6 0 0 [(.mk 3 0 0 [Xa,Xb])]),(.mk 3 0 0 [Xb,(.mk 7 0 0 [(.mk 4 0 0 [Xa,Xc])])]),(.mk 5 0 0 [(.mk 6 0 0 [Xb]),(.mk 3 0 0 [Xa,eH])])],
 .ls [Xa,(.mk 3 0 0 [Xa,Xb]),(.mk 4 0 0 [Xa,Xb,Xc]),Xs,(.mk 3 0 0 [Xs,Xb]),(.mk 6 0 0 [(.mk 3 0 0 [Xa,Xb])]),(.mk 3 0 0 [Xb,(.mk 7 0 0 [(.mk 4 0 0 [Xa,Xc])])]),(.mk 5 0 0 [(.mk 6 0 0 [Xb]),(.mk 3 0 0 [Xa,eH])])]]
structure JT(L:Nat->Bool)(E:Env)(w:C):Prop where
 fr:aj w0 w
 k:E.get? 3=some (.i kk)
 a:i9 base w E 5 Xa
 b:i9 base w E 6 Xb
 c:i9 base w E 7 Xc
 s:i9 base w E 8 Xs
 all:∀(i:Nat) (sp:tj),(dI Xa Xb Xc Xs)[i]? =some sp->L i=true->um base w (E.get? (dt i)) sp
variable {w0 base kk Xa Xb Xc Xs}
def JT.step{L:Nat->Bool}{E:Env}{w w':C}(e:JT w0 base kk Xa Xb Xc Xs L E w)(f:aj w w'){i d:Nat}(q:d=dt i){v:ab}{y:tj}(x:(dI Xa Xb Xc Xs)[i]? =some y)(h:um base w' (some v) y):JT w0 base kk Xa Xb Xc Xs (dn L i) (E.put (some d) v) w':=by
 have F:9<=d:=by rw[q];unfold dt;grind
 refine⟨e.fr.ew f,by rw[hr (by omega)];exact e.k,(e.a.ct f).put (by omega),(e.b.ct f).put (by omega),(e.c.ct f).put (by omega),(e.s.ct f).put (by omega),λj sq n D=>?_⟩;by_cases u:j=i
 .subst u;rw[x]at n;cases n;rw[<-q,nf];exact h
 .have z:d≠dt j:=by
   rw[q];have A:i<41:=(dh.1 x).1;have B:j<41:=(dh.1 n).1;unfold dt
   grind
  rw[hr z];refine(e.all j sq n ?_).ct f;have:cv j i=false:=by rw[<-i4,Nat.beq_eq];exact u
  grind
abbrev ir(w0:C)(base:Nat)(kk:Int)(Xa Xb Xc Xs:Rx)(i:Nat)(r:Op×Option Nat×aF×List Nat):Prop:=th V (JT w0 base kk Xa Xb Xc Xs) i r
def RI{b:Nat}{u:I}{w:C}(d:w.heap[b]? =some (.cells u.c.toArray aL (0,0))){K:ab->Prop}(B:K u.v):lC V aL (ag b) w λv _=>K v:=by
 have q:=cellAt (p:=ag b) (i:=0) (v:=.int .i64 u.k) d rfl rfl;have x:=cellAt (p:=ag b) (i:=1) (v:=.int .u8 (u.lo.toNat:Int)) d rfl rfl;have y:=cellAt (p:=ag b) (i:=2) (v:=.int .u8 (u.hi.toNat:Int)) d rfl rfl;have z:=cellAt (p:=ag b) (i:=3) (v:=u.s.v) d rfl rfl;have A:(lC V aL (ag b) w λv _=>K v)=(∃e:Int,∃h:Int,∃j:Int,∃n:J,w.cell? ((ag b).add 0)=some (.int .i64 e)/\w.cell? ((ag b).add 1)=some (.int .u8 h)/\w.cell? ((ag b).add 2)=some (.int .u8 j)/\w.cell? ((ag b).add 3)=some n.v/\K (.agg #[.int .i64 e,.int .u8 h,.int .u8 j,n.v])):=by kernel_rfl
 grind
def yF{ty:aF}{ds:List Nat}{t:Nat}{x:Rx}(i d:Nat)(y:d=dt i)(B:(dI Xa Xb Xc Xs)[i]? =some (.tr x))(D:∀h c e,JT w0 base kk Xa Xb Xc Xs h c e->i9 base e c t x):ir w0 base kk Xa Xb Xc Xs i (.load aL (.tmp t),some d,ty,ds):=by intro h c e o A z H G F j;obtain⟨b,E,k,n,q,u,w⟩:=D h c e j;refine oS A k (RI n ?_);rw[z];exact j.step (Fr.refl _ _) y B ⟨E,rfl,q,u,w⟩
def sA{ty:aF}{ds:List Nat}(i d:Nat)(h:(dI Xa Xb Xc Xs)[i]? =some (.tr Xa))(e:d=dt i:=by rfl):ir w0 base kk Xa Xb Xc Xs i (.load aL (.tmp 5),some d,ty,ds):=yF i d e h λ_ _ _ c=>c.a
def sB{ty:aF}{ds:List Nat}(i d:Nat)(h:(dI Xa Xb Xc Xs)[i]? =some (.tr Xb))(e:d=dt i:=by rfl):ir w0 base kk Xa Xb Xc Xs i (.load aL (.tmp 6),some d,ty,ds):=yF i d e h λ_ _ _ c=>c.b
def KX{ty:aF}{ds:List Nat}(i d:Nat)(j:(dI Xa Xb Xc Xs)[i]? =some (.tr Xc))(h:d=dt i:=by rfl):ir w0 base kk Xa Xb Xc Xs i (.load aL (.tmp 7),some d,ty,ds):=yF i d h j λ_ _ _ e=>e.c
def KY{ty:aF}{ds:List Nat}(i d:Nat)(h:(dI Xa Xb Xc Xs)[i]? =some (.tr Xs))(e:d=dt i:=by rfl):ir w0 base kk Xa Xb Xc Xs i (.load aL (.tmp 8),some d,ty,ds):=yF i d e h λ_ _ _ c=>c.s
def Ue(a:I)(w:C):(Instr.buildSlice bI 1 #[((0:Nat),a.v)]).run V w=.ok (.slice (some (ag w.heap.size)) 1 1) (w.alloc (.cells ([a].flatMap I.c).toArray aL)):=by kernel_rfl
def Uf(a b:I)(w:C):(Instr.buildSlice bI 2 #[((0:Nat),a.v),(1,b.v)]).run V w=.ok (.slice (some (ag w.heap.size)) 2 2) (w.alloc (.cells ([a,b].flatMap I.c).toArray aL)):=by kernel_rfl
def Ug(a b c:I)(w:C):(Instr.buildSlice bI 3 #[((0:Nat),a.v),(1,b.v),(2,c.v)]).run V w=.ok (.slice (some (ag w.heap.size)) 3 3) (w.alloc (.cells ([a,b,c].flatMap I.c).toArray aL)):=by kernel_rfl
def Uh(a b c d e g r s:I)(w:C):(Instr.buildSlice bI 8 #[((0:Nat),a.v),(1,b.v),(2,c.v),(3,d.v),(4,e.v),(5,g.v),(6,r.v),(7,s.v)]).run V w=.ok (.slice (some (ag w.heap.size)) 8 8) (w.alloc (.cells ([a,b,c,d,e,g,r,s].flatMap I.c).toArray aL)):=by kernel_rfl
def yU{o:Oper}{T:aF}{n:Nat}{parts:Array (Nat×Operand)}{E:Env}{w w':C}{v:ab}{K:Env->C->Prop}(c:o.op=.buildSlice T n parts)(d:E.dQ o=true)(j:(Instr.buildSlice T n (parts.map λp=>(p.1,E.ev p.2))).run V w=.ok v w')(h:K (E.put o.dst v) w'):gq V o E w K:=by
 obtain⟨dst,q,k,pos,after,guard⟩:=o;simp only at c;subst c;have e:n7 V ⟨dst,.buildSlice T n parts,k,pos,after,guard⟩ E w (λv w'=>K (E.put dst v) w'):=by unfold n7;rw[d];show cF true _;simp only[execOp];rw[show(λ(x:Nat×Operand)=>match x with |(i,x)=>(i,E.ev x))=λp=>(p.1,E.ev p.2)from rfl];simp[j];exact h
 unfold gq;simp only[calm,cond_false];unfold gZ;exact e
def jd{E:Env}{t:Nat}{v:ab}(h:E.get? t=some v):E.ev (.tmp t)=v:=by simp[Env.ev,Env.val,h]
def xc{w:C}{ts:List I}{n:Nat}(j:n=ts.length)(z:n<=1000)(k:I.Ps w ts)(y:∀b∈I.bm ts,base<=b)(x:base<=w.heap.size):
  (bR ⟨some (ag w.heap.size),n,n⟩ ts).P (w.alloc (.cells (ts.flatMap I.c).toArray aL))/\∀b∈(bR ⟨some (ag w.heap.size),n,n⟩ ts).fp,base<=b:=by
 have q:=aG.made w aL 4 n (ts.flatMap I.c) (by rw[I.ee,j]) (by unfold maxLen;omega);refine⟨dx.2 ⟨q.bh,k.ct (Fr.alloc _ _ _)⟩,λb e=>?_⟩;rcases kQ.1 e with d|d
 .exact yz (λu h=>by simp only[aO,ay,aW,a3]at h;omega) b d
 grind
def JT.tw{L:Nat->Bool}{E:Env}{w:C}(c:JT w0 base kk Xa Xb Xc Xs L E w)(d:base<=w0.heap.size):base<=w.heap.size:=bB d c.fr.size
section
variable (ug:base<=w0.heap.size)
include ug
def D7{ty:aF}{ds:List Nat}(i d e:Nat){u:Nat}{y:Rx}(J:(dI Xa Xb Xc Xs)[i]? =some (.ls [y]))(E:(dI Xa Xb Xc Xs)[e]? =some (.tr y))(K:e∈ds)(F:d=dt i:=by rfl)(D:u=dt e:=by rfl):ir w0 base kk Xa Xb Xc Xs i (.buildSlice bI 1 #[(0,.tmp u)],some d,ty,ds):=by
 intro L z h o q H O N G j;obtain⟨a,k,A,M,B⟩:=j.all e _ E (G e K);rw[<-D]at k;have x:=xc (base:=base) (w:=h) (ts:=[a]) (n:=1) rfl (by omega) (I.iE (by grind)) (by simp[I.bm];exact B) (j.tw ug);refine yU (w':=h.alloc (.cells ([a].flatMap I.c).toArray aL)) (v:=.slice (some (ag h.heap.size)) 1 1) q (by obtain⟨_,P,_,_,_,_⟩:=o;simp only at q;subst q;simp[Env.dQ,Op.operands,Env.val,k]) ?_ ?_
 .rw [show(#[((0:Nat),Operand.tmp u)].map λp=>(p.1,z.ev p.2))=#[((0:Nat),a.v)]by simp[jd k]];exact Ue a h
 .rw [H];exact j.step (Fr.alloc _ _ _) F J ⟨⟨some (ag h.heap.size),1,1⟩,[a],rfl,by simp[I.au,A],x.1,x.2⟩
def qx{ty:aF}{ds:List Nat}(i d e h:Nat){y z:Nat}{D E:Rx}(P:(dI Xa Xb Xc Xs)[i]? =some (.ls [D,E]))(L:(dI Xa Xb Xc Xs)[e]? =some (.tr D))(M:(dI Xa Xb Xc Xs)[h]? =some (.tr E))(Q:e∈ds)(m1:h∈ds)(N:d=dt i:=by rfl)(J:y=dt e:=by rfl)(K:z=dt h:=by rfl):ir w0 base kk Xa Xb Xc Xs i (.buildSlice bI 2 #[(0,.tmp y),(1,.tmp z)],some d,ty,ds):=by
 intro S F j o x O ht hi A k;obtain⟨a,q,G,T,W⟩:=k.all e _ L (A e Q);obtain⟨b,u,H,Y,Z⟩:=k.all h _ M (A h m1);rw[<-J]at q;rw[<-K]at u;have B:=xc (base:=base) (w:=j) (ts:=[a,b]) (n:=2) rfl (by omega) (I.iE (by grind)) (by simp[I.bm];grind) (k.tw ug);refine yU (w':=j.alloc (.cells ([a,b].flatMap I.c).toArray aL)) (v:=.slice (some (ag j.heap.size)) 2 2) x (by obtain⟨_,op,_,_,_,_⟩:=o;simp only at x;subst x;simp[Env.dQ,Op.operands,Env.val,q,u]) ?_ ?_
 .rw [show(#[((0:Nat),Operand.tmp y),(1,.tmp z)].map λp=>(p.1,F.ev p.2))=#[((0:Nat),a.v),(1,b.v)]by simp[jd q,jd u]];exact Uf a b j
 .rw [O];exact k.step (Fr.alloc _ _ _) N P ⟨⟨some (ag j.heap.size),2,2⟩,[a,b],rfl,by simp[I.au,G,H],B.1,B.2⟩
def T7{ty:aF}{ds:List Nat}(i d j k q:Nat){D E t2:Nat}{G H J:Rx}(hs:(dI Xa Xb Xc Xs)[i]? =some (.ls [G,H,J]))(S:(dI Xa Xb Xc Xs)[j]? =some (.tr G))(T:(dI Xa Xb Xc Xs)[k]? =some (.tr H))(W:(dI Xa Xb Xc Xs)[q]? =some (.tr J))(m0:j∈ds)(m1:k∈ds)(m2:q∈ds)(Y:d=dt i:=by rfl)(O:D=dt j:=by rfl)(P:E=dt k:=by rfl)(Q:t2=dt q:=by rfl):ir w0 base kk Xa Xb Xc Xs i (.buildSlice bI 3 #[(0,.tmp D),(1,.tmp E),(2,.tmp t2)],some d,ty,ds):=by
 intro aa K u o B Z ht hi A e;obtain⟨a,x,L,a3,a4⟩:=e.all j _ S (A j m0);obtain⟨b,y,M,b3,b4⟩:=e.all k _ T (A k m1);obtain⟨h,z,N,c3,c4⟩:=e.all q _ W (A q m2);rw[<-O]at x;rw[<-P]at y;rw[<-Q]at z;have F:=xc (base:=base) (w:=u) (ts:=[a,b,h]) (n:=3) rfl (by omega) (I.iE (by grind)) (by simp[I.bm];grind) (e.tw ug);refine yU (w':=u.alloc (.cells ([a,b,h].flatMap I.c).toArray aL)) (v:=.slice (some (ag u.heap.size)) 3 3) B (by obtain⟨_,op,_,_,_,_⟩:=o;simp only at B;subst B;simp[Env.dQ,Op.operands,Env.val,x,y,z]) ?_ ?_
 .rw [show(#[((0:Nat),Operand.tmp D),(1,.tmp E),(2,.tmp t2)].map λp=>(p.1,K.ev p.2))=#[((0:Nat),a.v),(1,b.v),(2,h.v)]by simp[jd x,jd y,jd z]];exact Ug a b h u
 .rw [Z];exact e.step (Fr.alloc _ _ _) Y hs ⟨⟨some (ag u.heap.size),3,3⟩,[a,b,h],rfl,by simp[I.au,L,M,N],F.1,F.2⟩
def T8{ty:aF}{ds:List Nat}(i d q u x y z A B D:Nat){Q S t2 t3 t4 T W Y:Nat}{x0 x1 x2 x3 x4 x5 x6 x7:Rx}(hs:(dI Xa Xb Xc Xs)[i]? =some (.ls [x0,x1,x2,x3,x4,x5,x6,x7]))(h0:(dI Xa Xb Xc Xs)[q]? =some (.tr x0))(h1:(dI Xa Xb Xc Xs)[u]? =some (.tr x1))(h2:(dI Xa Xb Xc Xs)[x]? =some (.tr x2))(h3:(dI Xa Xb Xc Xs)[y]? =some (.tr x3))(h4:(dI Xa Xb Xc Xs)[z]? =some (.tr x4))(h5:(dI Xa Xb Xc Xs)[A]? =some (.tr x5))(h6:(dI Xa Xb Xc Xs)[B]? =some (.tr x6))(h7:(dI Xa Xb Xc Xs)[D]? =some (.tr x7))(m0:q∈ds)(m1:u∈ds)(m2:x∈ds)(m3:y∈ds)(m4:z∈ds)(m5:A∈ds)(m6:B∈ds)(m7:D∈ds)(hd:d=dt i:=by rfl)(e0:Q=dt q:=by rfl)(e1:S=dt u:=by rfl)(e2:t2=dt x:=by rfl)(e3:t3=dt y:=by rfl)(e4:t4=dt z:=by rfl)(e5:T=dt A:=by rfl)(e6:W=dt B:=by rfl)(e7:Y=dt D:=by rfl):
  ir w0 base kk Xa Xb Xc Xs i (.buildSlice bI 8 #[(0,.tmp Q),(1,.tmp S),(2,.tmp t2),(3,.tmp t3),(4,.tmp t4),(5,.tmp T),(6,.tmp W),(7,.tmp Y)],some d,ty,ds):=by
 intro ad aa F o M ac ht hi h e;obtain⟨a,G,a2,ab,a4⟩:=e.all q _ h0 (h q m0);obtain⟨b,H,b2,b3,b4⟩:=e.all u _ h1 (h u m1);obtain⟨j,J,c2,c3,c4⟩:=e.all x _ h2 (h x m2);obtain⟨E,N,q2,q3,q4⟩:=e.all y _ h3 (h y m3);obtain⟨k,K,f2,f3,f4⟩:=e.all z _ h4 (h z m4);obtain⟨g,L,g2,g3,g4⟩:=e.all A _ h5 (h A m5);obtain⟨r,O,r2,r3,r4⟩:=e.all B _ h6 (h B m6);obtain⟨s,P,s2,s3,s4⟩:=e.all D _ h7 (h D m7);rw[<-e0]at G;rw[<-e1]at H;rw[<-e2]at J;rw[<-e3]at N;rw[<-e4]at K;rw[<-e5]at L;rw[<-e6]at O;rw[<-e7]at P;have Z:=xc (base:=base) (w:=F) (ts:=[a,b,j,E,k,g,r,s]) (n:=8) rfl (by omega) (I.iE (by simp[ab,b3,c3,q3,f3,g3,r3,s3])) (by
  intro ae hz;obtain⟨t,ht,hy⟩:=I.bX.1 hz;clear hz;simp only[ay,aW,a3]at ht
  grind) (e.tw ug)
 refine yU (w':=F.alloc (.cells ([a,b,j,E,k,g,r,s].flatMap I.c).toArray aL)) (v:=.slice (some (ag F.heap.size)) 8 8) M (by obtain⟨_,op,_,_,_,_⟩:=o;simp only at M;subst M;simp[Env.dQ,Op.operands,Env.val,G,H,J,N,K,L,O,P]) ?_ ?_
 .rw [show(#[((0:Nat),Operand.tmp Q),(1,.tmp S),(2,.tmp t2),(3,.tmp t3),(4,.tmp t4),(5,.tmp T),(6,.tmp W),(7,.tmp Y)].map λp=>(p.1,aa.ev p.2))=#[((0:Nat),a.v),(1,b.v),(2,j.v),(3,E.v),(4,k.v),(5,g.v),(6,r.v),(7,s.v)]by simp[jd G,jd H,jd J,jd N,jd K,jd L,jd O,jd P]];exact Uh a b j E k g r s F
 .rw [ac];exact e.step (Fr.alloc _ _ _) hd hs ⟨⟨some (ag F.heap.size),8,8⟩,[a,b,j,E,k,g,r,s],rfl,by simp[I.au,a2,b2,c2,q2,f2,g2,r2,s2],Z.1,Z.2⟩
end
def UN{o:Oper}{k:Int}{t:Nat}{s:J}{E:Env}{w:C}{K:Env->C->Prop}(y:k=3\/k=4\/k=5\/k=6\/k=7)(e:o.op=.build aL #[(0,.const (.int .i64 k)),(3,.tmp t)])(j:E.get? t=some s.v)(h:K (E.put o.dst (.agg #[.i k,.int .u8 0,.int .u8 0,s.v])) w):gq V o E w K:=by
 obtain⟨dst,z,c,pos,after,guard⟩:=o;simp only at e;subst e;show fP V _ E (λv _=>K (E.put dst v) w);have x:E.dQ ⟨dst,.build aL #[(0,.const (.int .i64 k)),(3,.tmp t)],c,pos,after,guard⟩=true:=by simp[Env.dQ,Op.operands,Env.val,j]
 unfold fP;rw[x];have n:execOp E.ev ⟨dst,.build aL #[(0,.const (.int .i64 k)),(3,.tmp t)],c,pos,after,guard⟩=execOp (λd=>match d with |.const v=>v|_=>s.v) ⟨dst,.build aL #[(0,.const (.int .i64 k)),(3,.tmp t)],c,pos,after,guard⟩:=by
  have:E.ev (.tmp t)=s.v:=jd j;have u:E.ev (.const (.int .i64 k))=.int .i64 k:=by simp[Env.ev,Env.val]
  simp only[execOp,List.map_toArray,kY,u9,this,u]
 rw[n];have q:oG V (execOp (λd=>match d with |.const v=>v|_=>s.v) ⟨dst,.build aL #[(0,.const (.int .i64 k)),(3,.tmp t)],c,pos,after,guard⟩)=some (.value (.agg #[.i k,.int .u8 0,.int .u8 0,s.v])):=by kernel_rfl
 rw[q];exact h
def vi{ty:aF}{ds:List Nat}(k:Int)(B:k=3\/k=4\/k=5\/k=6\/k=7)(i d j:Nat){t:Nat}{l:List Rx}(E:(dI Xa Xb Xc Xs)[i]? =some (.tr (.mk k 0 0 l)))(x:(dI Xa Xb Xc Xs)[j]? =some (.ls l))(m:j∈ds)(y:d=dt i)(w:t=dt j):ir w0 base kk Xa Xb Xc Xs i (.build aL #[(0,.const (.int .i64 k)),(3,.tmp t)],some d,ty,ds):=by
 intro H G L o D A K J z c;obtain⟨s,F,e,n,q,u⟩:=c.all j _ x (z j m);rw[<-w]at e;refine UN B D e ?_;rw[A];refine c.step (Fr.refl _ _) y E ⟨.mk k 0 0 s F,rfl,by rw[<-n];rfl,?_,λb h=>u b ?_⟩
 .have:=dx.1 q;unfold I.P;omega
 .unfold I.fp at h;unfold bR I.fp;exact h
def vj{ty:aF}{ds:List Nat}(i d j:Nat){t:Nat}{l:List Rx}(k:(dI Xa Xb Xc Xs)[i]? =some (.tr (.mk 3 0 0 l)))(e:(dI Xa Xb Xc Xs)[j]? =some (.ls l))(m:j∈ds)(h:d=dt i:=by rfl)(c:t=dt j:=by rfl):ir w0 base kk Xa Xb Xc Xs i (.build aL #[(0,.const (.int .i64 3)),(3,.tmp t)],some d,ty,ds):=vi 3 (by omega) i d j k e m h c
def KV{ty:aF}{ds:List Nat}(i d j:Nat){t:Nat}{l:List Rx}(k:(dI Xa Xb Xc Xs)[i]? =some (.tr (.mk 4 0 0 l)))(e:(dI Xa Xb Xc Xs)[j]? =some (.ls l))(m:j∈ds)(h:d=dt i:=by rfl)(c:t=dt j:=by rfl):ir w0 base kk Xa Xb Xc Xs i (.build aL #[(0,.const (.int .i64 4)),(3,.tmp t)],some d,ty,ds):=vi 4 (by omega) i d j k e m h c
def T5{ty:aF}{ds:List Nat}(i d j:Nat){t:Nat}{l:List Rx}(k:(dI Xa Xb Xc Xs)[i]? =some (.tr (.mk 5 0 0 l)))(e:(dI Xa Xb Xc Xs)[j]? =some (.ls l))(m:j∈ds)(h:d=dt i:=by rfl)(c:t=dt j:=by rfl):ir w0 base kk Xa Xb Xc Xs i (.build aL #[(0,.const (.int .i64 5)),(3,.tmp t)],some d,ty,ds):=vi 5 (by omega) i d j k e m h c
def KW{ty:aF}{ds:List Nat}(i d j:Nat){t:Nat}{l:List Rx}(k:(dI Xa Xb Xc Xs)[i]? =some (.tr (.mk 6 0 0 l)))(e:(dI Xa Xb Xc Xs)[j]? =some (.ls l))(m:j∈ds)(h:d=dt i:=by rfl)(c:t=dt j:=by rfl):ir w0 base kk Xa Xb Xc Xs i (.build aL #[(0,.const (.int .i64 6)),(3,.tmp t)],some d,ty,ds):=vi 6 (by omega) i d j k e m h c
def T6{ty:aF}{ds:List Nat}(i d j:Nat){t:Nat}{l:List Rx}(k:(dI Xa Xb Xc Xs)[i]? =some (.tr (.mk 7 0 0 l)))(e:(dI Xa Xb Xc Xs)[j]? =some (.ls l))(m:j∈ds)(h:d=dt i:=by rfl)(c:t=dt j:=by rfl):ir w0 base kk Xa Xb Xc Xs i (.build aL #[(0,.const (.int .i64 7)),(3,.tmp t)],some d,ty,ds):=vi 7 (by omega) i d j k e m h c
def Ua{ty:aF}{ds:List Nat}(i d j:Nat){t:Nat}{l:List Rx}(A:(dI Xa Xb Xc Xs)[i]? =some (.ls l))(u:(dI Xa Xb Xc Xs)[j]? =some (.ls l))(m:j∈ds)(w:d=dt i:=by rfl)(q:t=dt j:=by rfl):ir w0 base kk Xa Xb Xc Xs i (.assign (.tmp t),some d,ty,ds):=by intro E D H o z y G F x c;obtain⟨s,B,e,h,k,n⟩:=c.all j _ u (x j m);rw[<-q]at e;refine lQ (.inr z) e ?_;rw[y];exact c.step (Fr.refl _ _) w A ⟨s,B,rfl,h,k,n⟩
def T'{ds:List Nat}(H:base<=w0.heap.size)(i d:Nat)(N:(dI Xa Xb Xc Xs)[i]? =some (.tr eH))(M:d=dt i:=by rfl):ir w0 base kk Xa Xb Xc Xs i (.call ⟨.value (.func mr),#[],#[]⟩,some d,aL,ds):=by
 intro h c A o q n u P O j;obtain⟨dst,Q,S,pos,after,guard⟩:=o;simp only at q n u;subst q;subst n;subst u;have I:c.dQ ⟨some d,.call ⟨.value (.func mr),#[],#[]⟩,aL,pos,after,guard⟩=true:=by simp[Env.dQ,Op.operands,Call.operands,Env.val]
 have K:gx V mr=true:=by kernel_rfl
 have L:calm V ⟨some d,.call ⟨.value (.func mr),#[],#[]⟩,aL,pos,after,guard⟩=false:=rfl;unfold gq;rw[L,cond_false];unfold gZ;dsimp only;rw[I,K];simp only[List.map_toArray,u9,cond_true];refine(show nY V mr #[] (zeroOf V aL) A (λv e=>JT w0 base kk Xa Xb Xc Xs (dn h i) (c.put (some d) v) e)from ?_);refine(Aj A).mono ?_;rintro _ e ⟨⟨t,rfl,D,E,F⟩,f⟩;have B:mj (zeroOf V aL) (λv=>Ending.returned t.v=U v/\JT w0 base kk Xa Xb Xc Xs (dn h i) (c.put (some d) v) e)=∃w:Int,∃x:Int,∃y:Int,∃z:J,Ending.returned t.v=U (.agg #[.int .i64 w,.int .u8 x,.int .u8 y,z.v])/\JT w0 base kk Xa Xb Xc Xs (dn h i) (c.put (some d) (.agg #[.int .i64 w,.int .u8 x,.int .u8 y,z.v])) e:=by kernel_rfl
 rw[B];exact⟨t.k,t.lo.toNat,t.hi.toNat,t.s,rfl,j.step f M N ⟨t,rfl,D,E,λb G=>bB (j.tw H) (F b G)⟩⟩
def Mc:List (Op×Option Nat×aF×List Nat):=[(.load aL (.tmp 5),some 39,aL,[]),
 (.load aL (.tmp 5),some 40,aL,[]),
 (.load aL (.tmp 6),some 41,aL,[]),
 (.buildSlice bI 2 #[(0,.tmp 40),(1,.tmp 41)],some 42,bI,[1,2]),
 (.build aL #[(0,.const (.int .i64 3)),(3,.tmp 42)],some 43,aL,[3]),
 (.load aL (.tmp 5),some 44,aL,[]),
 (.load aL (.tmp 6),some 45,aL,[]),
 (.load aL (.tmp 7),some 46,aL,[]),
 (.buildSlice bI 3 #[(0,.tmp 44),(1,.tmp 45),(2,.tmp 46)],some 47,bI,[5,6,7]),
 (.build aL #[(0,.const (.int .i64 4)),(3,.tmp 47)],some 48,aL,[8]),
 (.load aL (.tmp 8),some 49,aL,[]),
 (.load aL (.tmp 8),some 50,aL,[]),
 (.load aL (.tmp 6),some 51,aL,[]),
 (.buildSlice bI 2 #[(0,.tmp 50),(1,.tmp 51)],some 52,bI,[11,12]),
 (.build aL #[(0,.const (.int .i64 3)),(3,.tmp 52)],some 53,aL,[13]),
 (.load aL (.tmp 5),some 54,aL,[]),
 (.load aL (.tmp 6),some 55,aL,[]),
 (.buildSlice bI 2 #[(0,.tmp 54),(1,.tmp 55)],some 56,bI,[15,16]),
 (.build aL #[(0,.const (.int .i64 3)),(3,.tmp 56)],some 57,aL,[17]),
 (.buildSlice bI 1 #[(0,.tmp 57)],some 58,bI,[18]),
 (.build aL #[(0,.const (.int .i64 6)),(3,.tmp 58)],some 59,aL,[19]),
 (.load aL (.tmp 6),some 60,aL,[]),
 (.load aL (.tmp 5),some 61,aL,[]),
 (.load aL (.tmp 7),some 62,aL,[]),
 (.buildSlice bI 2 #[(0,.tmp 61),(1,.tmp 62)],some 63,bI,[22,23]),
 (.build aL #[(0,.const (.int .i64 4)),(3,.tmp 63)],some 64,aL,[24]),
 (.buildSlice bI 1 #[(0,.tmp 64)],some 65,bI,[25]),
 (.build aL #[(0,.const (.int .i64 7)),(3,.tmp 65)],some 66,aL,[26]),
 (.buildSlice bI 2 #[(0,.tmp 60),(1,.tmp 66)],some 67,bI,[21,27]),
 (.build aL #[(0,.const (.int .i64 3)),(3,.tmp 67)],some 68,aL,[28]),
 (.load aL (.tmp 6),some 69,aL,[]),
 (.buildSlice bI 1 #[(0,.tmp 69)],some 70,bI,[30]),
 (.build aL #[(0,.const (.int .i64 6)),(3,.tmp 70)],some 71,aL,[31]),
 (.load aL (.tmp 5),some 72,aL,[]),
 (.call ⟨.value (.func mr),#[],#[]⟩,some 73,aL,[]),
 (.buildSlice bI 2 #[(0,.tmp 72),(1,.tmp 73)],some 74,bI,[33,34]),
 (.build aL #[(0,.const (.int .i64 3)),(3,.tmp 74)],some 75,aL,[35]),
 (.buildSlice bI 2 #[(0,.tmp 71),(1,.tmp 75)],some 76,bI,[32,36]),
 (.build aL #[(0,.const (.int .i64 5)),(3,.tmp 76)],some 77,aL,[37]),
 (.buildSlice bI 8 #[(0,.tmp 39),(1,.tmp 43),(2,.tmp 48),(3,.tmp 49),(4,.tmp 53),(5,.tmp 59),(6,.tmp 68),(7,.tmp 77)],some 78,bI,[0,4,9,10,14,20,29,38]),
 (.assign (.tmp 78),some 9,bI,[39,34,0,1,2,3,4,5,6,7,8,9,10,11,12,13,14,15,16,17,18,19,20,21,22,23,24,25,26,27,28,29,30,31,32,33,34,35,36,37,38,39])]
def Uc(c:base<=w0.heap.size):allI (th V (JT w0 base kk Xa Xb Xc Xs)) Mc 0:=
 ⟨(sA 0 39 rfl),
  (sA 1 40 rfl),
  (sB 2 41 rfl),
  (qx c 3 42 1 2 rfl rfl rfl (by simp) (by simp)),
  (vj 4 43 3 rfl rfl (by simp)),
  (sA 5 44 rfl),
  (sB 6 45 rfl),
  (KX 7 46 rfl),
  (T7 c 8 47 5 6 7 rfl rfl rfl rfl (by simp) (by simp) (by simp)),
  (KV 9 48 8 rfl rfl (by simp)),
  (KY 10 49 rfl),
  (KY 11 50 rfl),
  (sB 12 51 rfl),
  (qx c 13 52 11 12 rfl rfl rfl (by simp) (by simp)),
  (vj 14 53 13 rfl rfl (by simp)),
  (sA 15 54 rfl),
  (sB 16 55 rfl),
  (qx c 17 56 15 16 rfl rfl rfl (by simp) (by simp)),
  (vj 18 57 17 rfl rfl (by simp)),
  (D7 c 19 58 18 rfl rfl (by simp)),
  (KW 20 59 19 rfl rfl (by simp)),
  (sB 21 60 rfl),
  (sA 22 61 rfl),
  (KX 23 62 rfl),
  (qx c 24 63 22 23 rfl rfl rfl (by simp) (by simp)),
  (KV 25 64 24 rfl rfl (by simp)),
  (D7 c 26 65 25 rfl rfl (by simp)),
  (T6 27 66 26 rfl rfl (by simp)),
  (qx c 28 67 21 27 rfl rfl rfl (by simp) (by simp)),
  (vj 29 68 28 rfl rfl (by simp)),
  (sB 30 69 rfl),
  (D7 c 31 70 30 rfl rfl (by simp)),
  (KW 32 71 31 rfl rfl (by simp)),
  (sA 33 72 rfl),
  (T' c 34 73 rfl),
  (qx c 35 74 33 34 rfl rfl rfl (by simp) (by simp)),
  (vj 36 75 35 rfl rfl (by simp)),
  (qx c 37 76 32 36 rfl rfl rfl (by simp) (by simp)),
  (T5 38 77 37 rfl rfl (by simp)),
  (T8 c 39 78 0 4 9 10 14 20 29 38 rfl rfl rfl rfl rfl rfl rfl rfl rfl (by simp) (by simp) (by simp) (by simp) (by simp) (by simp) (by simp) (by simp)),
  (Ua 40 9 39 rfl rfl (by simp)),trivial⟩
end
def kg(k:Nat):Rx:=Bl (eR (k%6)) (eR (k / 6%6)) (eR (k / 36%6)) (k / 216%8)
def JH(k:Nat):Bool:=cM (kg k)&&Nat.ble (kg k).sz 1000&&ih (dN (kg k))&&Nat.ble (dN (kg k)).sz 1000
def Te:(List.range 1728).all JH=true:=by kernel_rfl
def H6(k:Nat):kg k=kg (k%1728):=by unfold kg;rw[show k%1728%6=k%6 by omega,show k%1728 / 6%6=k / 6%6 by omega,show k%1728 / 36%6=k / 36%6 by omega,show k%1728 / 216%8=k / 216%8 by omega]
def Vp(k:Nat):cM (kg k)=true/\(kg k).sz<=1000/\ih (dN (kg k))=true/\(dN (kg k)).sz<=1000:=by rw[H6];have:=fF.1 Te (k%1728) (List.mem_range.2 (Nat.mod_lt _ (by omega)));unfold JH at this;simp only[bC]at this;exact⟨this.1.1.1,Nat.le_of_ble_eq_true this.1.1.2,this.1.2,Nat.le_of_ble_eq_true this.2⟩
def Mt(k:Nat):jY k=bj (dN (kg k)):=rfl
def EF(k:Nat):jY k=jY (k%1728):=by rw[Mt,Mt,H6]
def Pq:(List.range 1728).all (λc=>mZ (jY c)==some true)=true:=by kernel_rfl
def Pr(k:Nat):mZ (jY k)=some true:=by rw[EF];exact eq_of_beq (fF.1 Pq (k%1728) (List.mem_range.2 (Nat.mod_lt _ (by omega))))
def Oq(n m:Int)(w:C)(d:1<=m)(h:bn n):ah V eO #[.i n,.i m] w λr c=>r=U (.i (fe n m))/\aj w c:=(z3 n m w d h).mono λr c h=>⟨h.1,h.2▸Fr.refl _ _⟩
def FH(c:I):List I:=[lD 2 97 97,lD 2 98 98,lD 2 0 0,lD 2 97 98,lD 1 0 0,c]
def z8(d:I)(e:d.rx=eH){i:Nat}(hi:i<6):∃t,(FH d)[i]? =some t/\t.rx=eR i/\(t=d\/∀c:C,t.P c/\∀b,¬b∈t.fp):=by
 have:i=0\/i=1\/i=2\/i=3\/i=4\/i=5:=by omega
 rcases this with rfl|rfl|rfl|rfl|rfl|rfl
 .exact ⟨_,rfl,rfl,.inr λc=>⟨pZ _ _ _ c,λb=>p0⟩⟩
 .exact ⟨_,rfl,rfl,.inr λc=>⟨pZ _ _ _ c,λb=>p0⟩⟩
 .exact ⟨_,rfl,rfl,.inr λc=>⟨pZ _ _ _ c,λb=>p0⟩⟩
 .exact ⟨_,rfl,rfl,.inr λc=>⟨pZ _ _ _ c,λb=>p0⟩⟩
 .exact ⟨_,rfl,rfl,.inr λc=>⟨pZ _ _ _ c,λb=>p0⟩⟩
 .exact ⟨d,rfl,e,.inl rfl⟩
def Qw(a b c:Rx){i:Nat}(hi:i<8):[a,.mk 3 0 0 [a,b],.mk 4 0 0 [a,b,c],.mk 7 0 0 [a],.mk 3 0 0 [.mk 7 0 0 [a],b],.mk 6 0 0 [.mk 3 0 0 [a,b]],.mk 3 0 0 [b,.mk 7 0 0 [.mk 4 0 0 [a,c]]],.mk 5 0 0 [.mk 6 0 0 [b],.mk 3 0 0 [a,eH]]][i]? =some (Bl a b c i):=by
 have:i=0\/i=1\/i=2\/i=3\/i=4\/i=5\/i=6\/i=7:=by omega
 rcases this with rfl|rfl|rfl|rfl|rfl|rfl|rfl|rfl<;>rfl
def yZ(k m:Nat)(c:0<m):bw (k:Int) (m:Int)=((k%m:Nat):Int):=by rw[Int.tmod_eq_emod_of_nonneg (by omega)];omega
def Ey(k m:Nat)(e:k<=1048576):ad .i64 (bE (k:Int) (m:Int))=((k / m:Nat):Int):=by
 have c:bE (k:Int) (m:Int)=((k / m:Nat):Int):=by rw[Int.tdiv_eq_ediv_of_nonneg (by omega)];rfl
 have d:k / m<=k:=Nat.div_le_self k m;rw[c];generalize k / m=q at d;rw[bf _ (by omega)]
section
variable {w VZ:C} {R:aa} {K:Nat}
def Vo(F:K<=1048576){s:J}{ts:List I}{w':C}(x:I.au ts=[eR (K%6),.mk 3 0 0 [eR (K%6),eR (K / 6%6)],.mk 4 0 0 [eR (K%6),eR (K / 6%6),eR (K / 36%6)],.mk 7 0 0 [eR (K%6)],.mk 3 0 0 [.mk 7 0 0 [eR (K%6)],eR (K / 6%6)],.mk 6 0 0 [.mk 3 0 0 [eR (K%6),eR (K / 6%6)]],.mk 3 0 0 [eR (K / 6%6),.mk 7 0 0 [.mk 4 0 0 [eR (K%6),eR (K / 36%6)]]],.mk 5 0 0 [.mk 6 0 0 [eR (K / 6%6)],.mk 3 0 0 [eR (K%6),eH]]])(h:(bR s ts).P w')(f:aj w w'):tS.T9 s (K:Int) w' λr w'=>r=U (.string (ba (jY K)))/\aj w w':=by
 have O:=I.cu (dx.1 h).1;have N:ts.length=8:=by have:=congrArg List.length x;rw[I.fy,mA]at this;simpa using this
 show(0:Int)<=bw (ad .i64 (bE (K:Int) ((216:Nat):Int))) ((8:Nat):Int)/\bw (ad .i64 (bE (K:Int) ((216:Nat):Int))) ((8:Nat):Int)<((s.n:Nat):Int)/\cd s.a λp=>bH w' (p.add (ae (bw (ad .i64 (bE (K:Int) ((216:Nat):Int))) ((8:Nat):Int)) *4)) _;rw[Ey K 216 F,yZ _ 8 (by omega)];have G:K / 216%8<8:=Nat.mod_lt _ (by omega);have e:ts[K / 216%8]? =some (ts[K / 216%8]'(by omega)):=a9 (by omega);generalize ts[K / 216%8]'(by omega)=t at e;have z:t.rx=kg K:=by have y:=Qw (eR (K%6)) (eR (K / 6%6)) (eR (K / 36%6)) G;rw[<-x,I.fy,jk,e]at y;exact Option.some.inj y
 obtain⟨k,q,j,u⟩:=Vp K;rw[<-z]at k q j u;have H:t.P w':=(dx.1 h).2.get e;refine⟨by omega,by omega,I.di (dx.1 h).1 e λp h d=>⟨_,_,_,_,d.c0,d.c1,d.c2,d.c3,(Gu t w' (by rw[<-I.eF];exact q) k H).mono ?_⟩⟩;rintro _ M ⟨⟨c,rfl,A,L,_⟩,D⟩;rw[<-A]at j u;refine⟨_,_,_,c.s,rfl,(F8 c 0 M (by rw[<-I.eF];omega) (by omega) j L).mono ?_⟩;rintro _ Q ⟨rfl,E⟩;refine⟨_,rfl,?_,(f.ew D).ew E⟩;have B:cN 0 c.rx (bj c.rx)=bj c.rx:=by unfold cN;rw[aq (by omega)]
 rw[B,A,z];rfl
end
def Nu{s:J}{k:Int}{w:C}{R c:aa}(h:tS.T9 s k w R)(D:∀r d,R r d->c r d):tS.T9 s k w c:=
 ⟨h.1,h.2.1,Tj h.2.2 λp ⟨a,b,e,j,q,u,x,y,A⟩=>⟨a,b,e,j,q,u,x,y,A.mono λr G ⟨n,f,g,i,B,F⟩=>⟨n,f,g,i,B,F.mono λr H ⟨t,E,z⟩=>⟨t,E,D _ _ z⟩⟩⟩⟩
def Om(n:Int)(hn:bn n)(w:C):ah V Cb #[.i n] w λr x=>(∃ak:Nat,r=U (.string (ba (jY ak))))/\aj w x:=by
 have hr:=hj n 1048576 (by omega);obtain⟨K,hK⟩:∃K:Nat,fe n 1048576=(K:Int):=⟨(fe n 1048576).toNat,by omega⟩;have E:K<=1048576:=by omega
 have ac:Z F0 w w [] []:=bN [] (by simp);refine tS.ok n w _ (ac.call (Oq n 1048576 w (by omega) hn) ?_);rintro _ w1 rfl J;refine⟨_,rfl,J.At (Aj w1) ?_⟩;rintro _ H ⟨q,rfl,G,al,Y⟩ _ F2;have H2:=F2.rd (.tree q) al λb u=>Y b (a4.1 u);rw[hK];have S:=yZ K 6 (by omega);have Q:=Ey K 6 E;have O:=Ey K 36 E;have W:=yZ (K / 6) 6 (by omega);have T:=yZ (K / 36) 6 (by omega);have c6:((6:Nat):Int)=6:=rfl;have ai:((36:Nat):Int)=36:=rfl;rw[c6]at S Q W T;rw[ai]at O;rw[S,Q,O,W,T];obtain⟨z,ga,ra,xa⟩:=z8 q G (i:=K%6) (Nat.mod_lt _ (by omega));obtain⟨tb,gb,rb,xb⟩:=z8 q G (i:=K / 6%6) (Nat.mod_lt _ (by omega));obtain⟨tc,gc,rc,xc⟩:=z8 q G (i:=K / 36%6) (Nat.mod_lt _ (by omega));have la:K%6<6:=Nat.mod_lt _ (by omega);have lb:K / 6%6<6:=Nat.mod_lt _ (by omega);have lc:K / 36%6<6:=Nat.mod_lt _ (by omega);have D:∀t:I,(t=q\/∀w:C,t.P w/\∀b,¬b∈t.fp)->(∀x:C,q.P x->t.P x)/\∀b∈t.fp,w.heap.size<=b:=λt j=>by
  rcases j with rfl|j
  .exact ⟨λ_ j=>j,λb u=>bB J.fr.size (Y b u)⟩
  .exact ⟨λx _=>(j x).1,λb u=>((j w).2 b u).elim⟩
 refine⟨_,_,_,q.s,rfl,H2.cB (n:=6) (sz:=4) (cs:=(FH q).flatMap I.c) rfl (by decide) λw3 M=>?_⟩;refine⟨by omega,by omega,I.di (s:=⟨some (ag H.heap.size),6,6⟩) (M.get 0:aG _ _ _ _ _).bh ga λp hp d=>?_⟩;refine⟨_,_,_,_,d.c0,d.c1,d.c2,d.c3,M.nw λw4 _ H4=>H4.jt 1 rfl λw8 N=>?_⟩;refine⟨by omega,by omega,I.di (s:=⟨some (ag H.heap.size),6,6⟩) (N.get 0:aG _ _ _ _ _).bh gb λp hp d=>?_⟩;refine⟨_,_,_,_,d.c0,d.c1,d.c2,d.c3,N.nw λw9 _ H9=>H9.jt 2 rfl λam L=>?_⟩;refine⟨by omega,by omega,I.di (s:=⟨some (ag H.heap.size),6,6⟩) (L.get 0:aG _ _ _ _ _).bh gc λp hp d=>?_⟩;refine⟨_,_,_,_,d.c0,d.c1,d.c2,d.c3,L.nw λar _ ad=>ad.jt 3 rfl λab y=>?_⟩;refine⟨_,_,_,z.s,y.ld 1 0,y.ld 1 1,y.ld 1 2,y.ld 1 3,y.cB (n:=1) (sz:=4) (cs:=[z].flatMap I.c) rfl (by decide) λan ae=>ae.nw λau _ af=>af.jt 5 rfl λe h=>?_⟩;have A:=D z xa;have pb:=D tb xb;have pc:=D tc xc;have ps:(I.mk 7 0 0 ⟨some (ag ab.heap.size),1,1⟩ [z]).P e:=by unfold I.P;exact⟨(h.get 4:aG _ _ _ _ _).bh,I.iE (by simp;exact A.1 e (h.getD 0))⟩
 have aa:aj w e:=h.fr;refine Bz Mc (by kernel_rfl) (JT e w.heap.size (K:Int) (eR (K%6)) (eR (K / 6%6)) (eR (K / 36%6)) (.mk 7 0 0 [eR (K%6)])) ?_ (Uc aa.size) ?_
 .refine ⟨Fr.drew _ _,rfl,?_,?_,?_,?_,λi sp hs F=>by cases F⟩
  .exact i9.ct (w:=e) ⟨w3.heap.size,z,rfl,h.ob 1,ra,A.1 e (h.getD 0),A.2⟩ (Fr.drew _ _)
  .exact i9.ct (w:=e) ⟨w8.heap.size,tb,rfl,h.ob 2,rb,pb.1 e (h.getD 0),pb.2⟩ (Fr.drew _ _)
  .exact i9.ct (w:=e) ⟨am.heap.size,tc,rfl,h.ob 3,rc,pc.1 e (h.getD 0),pc.2⟩ (Fr.drew _ _)
  .refine i9.ct (w:=e) ⟨an.heap.size,.mk 7 0 0 ⟨some (ag ab.heap.size),1,1⟩ [z],rfl,h.ob 5,?_,ps,DA (λb u=>?_) A.2⟩ (Fr.drew _ _)
   .rw [<-ra];rfl
   .simp only[aO,ay,aW,a3]at u;rw[u];exact y.fr.size
 .intro ap ao x F B;obtain⟨s,ts,h1,h2,h3,_⟩:=B.all 40 _ rfl (F 40 (by decide));refine⟨s,(K:Int),h1,B.k,?_⟩;refine Nu (Vo E h2 h3 (aa.ew B.fr)) λr aq j=>⟨⟨K,j.1⟩,j.2⟩
def BQ{w:C}{s:J}{l:List Nd}(h:GP w s l):Z F0 w w [] [.gr s l]:=bN _ (by intro d c;simp only[ay,aW,a3]at c;subst c;exact bU.2 h)
abbrev qk(s:J)(l:List Int):En:=.row bp 1 s (l.map bd)
def yk{w:C}{s:J}{l:List Int}(h:aG w bp 1 s (l.map bd)):bo w s l:=h.fR
def yj{w:C}{s:J}{l:List Int}(h:aG w bp 1 s (l.map bd)):s.n=l.length:=by have:=h.len;simp at this;omega
def Ae{w:C}{s:J}{l:List Nd}(h:GP w s l)(t:bt)(n:Int)(hn:bn n)(Y:l.length<=eZ):
  ah V uG #[s.v,dO t,.i n] w λr G=>(∃e:Int,r=U (.i e)/\-1<=e/\e<(l.length:Int))/\aj w G:=by
 have hs:=g0 h;unfold eZ at Y;have loop:∀(m i:Nat) (q:J) (ks:List Int) (c:Nat) (y:C),i+m=l.length->ks.length<=i->(∀E∈ks,0<=E/\E<(l.length:Int))->Z F0 w y [.g c,qk q ks] [.gr s l]->
   pM.aH s n c t.k t.n t.x q (i:Int) y λr G=>(∃e:Int,r=U (.i e)/\-1<=e/\e<(l.length:Int))/\aj w G:=by
  intro m;induction m with
  |zero=>
   intro i q ks c y T W D u;have hlen:=yj (u.get 1);refine pM.bD _ _ _ _ _ _ _ _ _ _ (bb (a2 (by omega)) (aJ (λP=>⟨⟨_,rfl,by omega,by omega⟩,u.fr⟩) (λP=>u.ax (fM n _ y (by omega) hn) ?_)));have hr:=hj n ((q.n:Nat):Int) (by omega);generalize fe n ((q.n:Nat):Int)=e at hr;rintro _ H rfl z;obtain⟨j,rfl⟩:∃j:Nat,e=(j:Int):=⟨e.toNat,by omega⟩;have A:ks[j]? =some (ks[j]'(by omega)):=a9 (by omega);have B:=D _ (aE A);exact⟨_,rfl,by omega,by omega,(yk (z.get 1)).cell A (by omega) λp I Q=>⟨_,Q,⟨⟨_,rfl,by omega,by omega⟩,z.fr⟩⟩⟩
  |succ m K=>
   intro i q ks c y T W D u;have A:l[i]? =some (l[i]'(by omega)):=a9 (by omega);generalize l[i]'(by omega)=d at A;have hlen:=yj (u.get 1);refine pM.bD _ _ _ _ _ _ _ _ _ _ (a8 (a0 (by omega)) (gN (bU.1 (u.getD 0)) rfl A λp I _=>u.ak λH z=>?_));have F:=ng (bU.1 (z.getD 0)) A I (rfl:((i:Int))=(i:Int));refine⟨_,_,_,F.s0,F.s1,F.s2,mE (a:=d.x.st) (b:=t) (λS=>?_) (λS=>?_)⟩
   .refine z.hL 1 h' rfl (λL M O=>?_) (by omega);show pM.aH s n c t.k t.n t.x L (ad .i64 ((i:Int)+1)) M _;rw[bA _ (by omega)];refine K (i+1) L (ks++[(i:Int)]) c M (by omega) (by simp;omega) (λE B=>?_) (by rw[qk,List.map_append];exact O);rcases a6.1 B with B|B
    .exact D E B
    .simp only[ay,aW,a3]at B;omega
   .show pM.aH s n c t.k t.n t.x q (ad .i64 ((i:Int)+1)) H _;rw[bA _ (by omega)];exact K (i+1) q ks c H (by omega) (by omega) D z
 exact pM.aB _ _ _ _ _ w _ ((BQ h).aN λc y N=>loop l.length 0 ⟨none,0,0⟩ [] c y (by omega) (by simp) (by simp) (N.gP bp 1))
def O7{w:C}{s:J}{l:List Nd}(h:GP w s l)(op:Int)(x:Nat)(ab n:Int)(G:x<l.length)(F:bn n):
  ah V Cs #[s.v,.i op,.i (x:Int),.i ab,.i n] w λr H=>(∃t:bt,r=U (dO t))/\aj w H:=by
 have hs:=g0 h;have N:l[x]? =some (l[x]'G):=a9 G;generalize l[x]'G=d at N;refine A3.aB _ _ _ _ _ w _ ((BQ h).aN λz w1 K=>gN (bU.1 (K.getD 0)) rfl N λp hp c=>⟨_,_,_,c.s0,c.s1,c.s2,K.aN λD w2 y=>?_⟩);have ret:∀(a b c:Int) (e:C) (bs:List Nat),(∀b∈bs,En.g b∈[En.g z,.g D])->Z F0 w e [.g z,.g D] [.gr s l]->loc bs e λO=>(∃t:bt,Ending.returned (.agg #[.i a,.i b,.i c])=U (dO t))/\aj w O:=λa b c e bs hb k=>k.ak (λO Q=>⟨⟨⟨a,b,c⟩,rfl⟩,Q.fr⟩) hb;have B:∀e,Z F0 w e [.g z,.g D] [.gr s l]->A3.aS n z 0 0 0 e λr H=>(∃t:bt,r=U (dO t))/\aj w H:=by intro e k;refine k.ax (fM n 3 e (by omega) F) ?_;rintro _ u rfl q;refine⟨_,rfl,q.ax (mY _ u) ?_⟩;rintro _ I rfl A;exact⟨_,_,_,rfl,ret _ _ _ I _ (by simp) A⟩
 refine aJ (λS=>y.ak λe k=>k.ax (fM n _ e (by omega) F) ?_) (λS=>aJ (λT=>y.ak λe k=>k.ax (fM n 3 e (by omega) F) ?_) (λT=>aJ (λW=>y.ak λe k=>k.ax (fo _ e) ?_) (λW=>aJ (λY=>aJ (λh5=>y.ak λe k=>k.ax (fo _ e) ?_) (λh5=>y.ak λe k=>k.ax (DR d.x.st e) ?_)) (λY=>aJ (λh6=>y.ak λe k=>k.ax (fo _ e) ?_) (λh6=>aJ (λL=>a8 (beq_iff_eq.2 L) (y.ak λe k=>B e k)) (λL=>aJ (λM=>a8 (beq_iff_eq.2 M) (y.ak λe k=>B e k)) (λM=>aJ (λh9=>y.ak λe k=>B e k) (λh9=>y.ak λe k=>ret _ _ _ e _ (by simp) k))))))))
 .have hr:=hj n ((s.n:Nat):Int) (by omega);generalize fe n ((s.n:Nat):Int)=P at hr;rintro _ u rfl q;obtain⟨j,rfl⟩:∃j:Nat,P=(j:Int):=⟨P.toNat,by omega⟩;have aa:l[j]? =some (l[j]'(by omega)):=a9 (by omega);exact⟨_,rfl,gN (bU.1 (q.getD 0)) rfl aa λac hq E=>⟨_,_,_,E.s0,E.s1,E.s2,ret _ _ _ u _ (by simp) q⟩⟩
 .rintro _ u rfl q;refine⟨_,rfl,q.ax (fo _ u) ?_⟩;rintro _ I rfl A;exact⟨_,_,_,rfl,ret _ _ _ I _ (by simp) A⟩
 .rintro _ u rfl q;exact⟨_,_,_,rfl,ret _ _ _ u _ (by simp) q⟩
 .rintro _ u rfl q;exact⟨_,_,_,rfl,ret _ _ _ u _ (by simp) q⟩
 .rintro _ u rfl q;exact⟨_,_,_,rfl,ret _ _ _ u _ (by simp) q⟩
 .rintro _ u rfl q;exact⟨_,_,_,rfl,ret _ _ _ u _ (by simp) q⟩
def zk(x:Int):bn (ad .i64 x):=by rw[IntKind.wrap_i64];omega
structure MdV(d:Nx):Prop extends MdN d where
 nv:d.op≠0
def lf(w:C)(r:cQ)(w':C):Prop:=∃c:Nd,r=U c.v/\MdV c.x/\c.P w'/\∀b∈aO c.ks,w.heap.size<=b
def Sf{op n m u:Int}{c:ByteArray}{st:bt}{ks:List Int}(h:MdV ⟨op,[],n,m,u,c,st⟩)(d:ks.length<=3):MdV ⟨op,ks,n,m,u,c,st⟩:=⟨⟨h.DC,h.DD,d,h.n,h.m,h.u,h.tx,h.re⟩,h.nv⟩
def Rw(op:Int):-1<=cS op/\cS op<=3:=by unfold cS;repeat' split<;>omega
section
variable {w:C} {s:J} {l:List Nd} {n1 m2 k3:Int} {b8 j7:Nat}
def SN(hm:bn m2)(D:bn k3)(hl:l.length<=eZ){op n m u:Int}{H:ByteArray}{st:bt}(hd:MdV ⟨op,[],n,m,u,H,st⟩)(many:Nat)(au:many<=3)(x:Int)(ag:-1<=x)(ah:x<(l.length:Int)):
  ∀(d i:Nat) (q:J) (ks:List Int) (F:C),i+d=many->ks.length=i->(∀P∈ks,0<=P/\P<(l.length:Int))->Z F0 w F [.g b8,.g j7,qk q ks] [.gr s l]->
   iz.hG s m2 k3 b8 0 ⟨none,0,0⟩ 0 0 0 (av #[]) 0 0 0 j7 op q n m u H st.k st.n st.x x (many:Int) (i:Int) F λr A=>lf w r A/\aj w A:=by
 intro d;unfold eZ at hl;induction d with
 |zero=>
  intro i q ks F hi hlen ab B;refine iz.mT _ _ _ _ _ _ _ _ _ _ _ _ _ _ _ _ _ _ _ _ _ _ _ _ _ _ _ _ (bb (a2 (by omega)) (B.ak λI y=>⟨⟨⟨⟨op,ks,n,m,u,H,st⟩,q⟩,rfl,Sf hd (by omega),yk (y.get 2),λb hb=>(y.new _ (aE (i:=2) rfl) b hb).resolve_right id⟩,y.fr⟩))
 |succ d ih=>
  intro i q ks F hi hlen ab B;have Y:∀(E:Int) (I:C) (L:List En),-1<=E->E<(l.length:Int)->Z F0 w I [.g b8,.g j7,qk q ks] [.gr s l]->iz.hJ s m2 k3 b8 0 ⟨none,0,0⟩ 0 0 0 (av #[]) 0 0 0 j7 op q n m u H st.k st.n st.x x (many:Int) (i:Int) E I λr A=>lf w r A/\aj w A:=by
   intro E I L h1 h2 y;refine aQ (λh0=>y.ak λS z=>⟨⟨⟨⟨-1,[],0,0,0,ba [],cZ⟩,⟨none,0,0⟩⟩,rfl,⟨⟨by decide,by decide,by decide,by decide,by decide,by decide,λ_=>by decide,λal=>by cases al⟩,by decide⟩,Rd.nil S,λb hb=>by cases hb⟩,z.fr⟩) (λh0=>?_);refine y.hL 2 h' rfl (λs' S z=>?_) (by have:=yj (y.get 2);omega);have ai:Z F0 w S [.g b8,.g j7,qk s' (ks++[E])] [.gr s l]:=by rw[qk,List.map_append];exact z
   refine ai.ak λc h=>?_;rw[bA _ (by omega)];refine ih (i+1) s' (ks++[E]) c (by omega) (by simp[hlen]) (λP D=>?_) h;rcases a6.1 D with D|D
   .exact ab P D
   .simp only[ay,aW,a3]at D;omega
  refine iz.mT _ _ _ _ _ _ _ _ _ _ _ _ _ _ _ _ _ _ _ _ _ _ _ _ _ _ _ _ (a8 (a0 (by omega)) (aQ (λam=>aQ (λao=>?_) (λao=>Y x F [] ag ah B)) (λam=>Y x F [] ag ah B)));obtain⟨T,rfl⟩:∃T:Nat,x=(T:Int):=⟨x.toNat,by omega⟩;refine B.ax (O7 (bU.1 (B.getD 0)) op T (i:Int) m2 (by omega) hm) ?_;rintro _ I ⟨t,rfl⟩ y;refine⟨_,_,_,rfl,y.aN λac S z=>?_⟩;have W:∀(t:bt) (c:C),Z F0 w c [.g b8,.g j7,qk q ks,.g ac] [.gr s l]->iz.dV s m2 k3 b8 0 ⟨none,0,0⟩ 0 0 0 (av #[]) 0 0 0 j7 op q n m u H st.k st.n st.x (T:Int) (many:Int) (i:Int) ac t.k t.n t.x c λr A=>lf w r A/\aj w A:=by intro t c h;have e5:ad .i64 (5 *(i:Int))=5 *(i:Int):=bf _ (by omega);have e6:ad .i64 (1+5 *(i:Int))=1+5 *(i:Int):=bf _ (by omega);refine⟨by rw[e5,e6];omega,h.ak λw5 M=>M.ax (Ae (bU.1 (M.getD 0)) t _ (zk _) (by unfold eZ;exact hl)) ?_⟩;rintro _ w6 ⟨ar,rfl,ap,aq⟩ H6;exact⟨_,rfl,Y ar w6 [] ap aq (H6.take 3)⟩
  refine aJ (λho=>aJ (λh2=>?_) (λh2=>z.ak λc h=>W t c h)) (λho=>z.ak λc h=>W t c h);have hn:=yj (z.get 2);have N:ks[1]? =some (ks[1]'(by omega)):=a9 (by omega);have an:=ab _ (aE N);generalize ks[1]'(by omega)=kk at N an;refine⟨by omega,by omega,(yk (z.get 2)).cell N (j:=ae 1 *1) rfl λp hp _=>z.ak λc h=>?_⟩;have af:l[kk.toNat]? =some (l[kk.toNat]'(by omega)):=a9 (by omega);generalize l[kk.toNat]'(by omega)=e at af;have G:c.cell? (p.add (ae 1 *1))=some (.int .i64 kk):=by have:=(yk (h.get 2)).cell N (j:=ae 1 *1) rfl (K:=λQ=>∃q',q.a=some q'/\c.cell? (q'.add (ae 1 *1))=some (.int .i64 kk)) (λQ O G=>⟨Q,O,G⟩);rw[hp]at this;obtain⟨Q,O,G⟩:=this;cases O;exact G
  exact⟨kk,G,gN (bU.1 (h.getD 0)) (i:=kk.toNat) (by omega) af λQ O aa=>⟨_,_,_,aa.s0,aa.s1,aa.s2,h.ak λw5 M=>W e.x.st w5 M⟩⟩
def SO(hn:bn n1)(S:bn m2)(Q:bn k3)(D:l.length<=eZ){op n m u:Int}{h:ByteArray}{st:bt}(N:MdV ⟨op,[],n,m,u,h,st⟩)(x:Int)(aa:0<=x)(T:x<(l.length:Int))(I:C)(H:Z F0 w I [.g b8,.g j7] [.gr s l]):
  iz.aY s n1 m2 k3 b8 0 ⟨none,0,0⟩ 0 0 0 (av #[]) 0 0 0 j7 op ⟨none,0,0⟩ n m u h st.k st.n st.x x I λr e=>lf w r e/\aj w e:=by
 refine H.ax (FZ op I) ?_;rintro _ y rfl j;have hr:=Rw op;have M:∀(x:Int) (c:C),-1<=x->x<(l.length:Int)->Z F0 w c [.g b8,.g j7] [.gr s l]->iz.cq s m2 k3 b8 0 ⟨none,0,0⟩ 0 0 0 (av #[]) 0 0 0 j7 op ⟨none,0,0⟩ n m u h st.k st.n st.x x (cS op) c λr e=>lf w r e/\aj w e:=by
  intro x c A B q;have d:=q.gP bp 1;by_cases Y:cS op<0
  .refine iz.mT _ _ _ _ _ _ _ _ _ _ _ _ _ _ _ _ _ _ _ _ _ _ _ _ _ _ _ _ (bb (a2 (by omega)) (d.ak λy j=>⟨⟨⟨⟨op,[],n,m,u,h,st⟩,⟨none,0,0⟩⟩,rfl,N,Rd.nil y,λb P=>by cases P⟩,j.fr⟩))
  .have O:cS op=(((cS op).toNat:Nat):Int):=by omega
   show iz.hG _ _ _ _ _ _ _ _ _ _ _ _ _ _ _ _ _ _ _ _ _ _ _ _ (cS op) 0 _ _;rw[O];exact SN S Q D N (cS op).toNat (by omega) x A B (cS op).toNat 0 ⟨none,0,0⟩ [] c (by omega) rfl (by simp) d
 have L:∀(x:Int) (c:C),-1<=x->x<(l.length:Int)->Z F0 w c [.g b8,.g j7] [.gr s l]->iz.be s n1 m2 k3 b8 0 ⟨none,0,0⟩ 0 0 0 (av #[]) 0 0 0 j7 op ⟨none,0,0⟩ n m u h st.k st.n st.x x (cS op) c λr e=>lf w r e/\aj w e:=by intro x c A B q;refine aJ (λE=>q.ax (fo 8 c) ?_) (λE=>M x c A B q);rintro _ W rfl d;refine⟨_,_,_,rfl,d.ax (Ae (bU.1 (d.getD 0)) (bJ 8) _ (zk _) D) ?_⟩;rintro _ J ⟨K,rfl,F,G⟩ z;exact⟨_,rfl,M K J F G z⟩
 refine⟨_,rfl,aJ (λE=>j.ax (fo 1 y) ?_) (λE=>L x y (by omega) T j)⟩;rintro _ W rfl d;refine⟨_,_,_,rfl,d.ax (Ae (bU.1 (d.getD 0)) (bJ 1) _ (zk _) D) ?_⟩;rintro _ J ⟨K,rfl,F,G⟩ z;exact⟨_,rfl,L K J F G z⟩
end
def opsL:List Int:=[4,5,6,7,8,9,10,11,12,13,14,15,16,17,18,19,20,21,22,23,24,25,26,27,28,29,30,31,32,33,34,1,2,3,18,18,16,6,24,25]
def Ti{i:Nat}{op:Int}(h:opsL[i]? =some op):1<=op/\op<=34:=by
 have d:(opsL.all λc=>af (1<=c)&&af (c<=34))=true:=by decide
 have:=fF.1 d op (aE h);simpa using this
def sS:List ByteArray:=[ba [],ba [97],ba [97,98],ba [98],ba [0],ba [97,97]]
def Vv{i:Nat}{t:ByteArray}(h:sS[i]? =some t):t.size<=16:=by
 have c:(sS.all λd=>af (d.size<=16))=true:=by decide
 have:=fF.1 c t (aE h);simpa using this
def Gk{w:C}{s:J}{l:List Nd}(h:GP w s l)(aH:1<=l.length)(hl:l.length<=eZ)(hv:∀ar∈l,cb ar.x.st=true)(D d B:Int)(hn:bn D)(N:bn d)(hk:bn B):
  ah V xz #[s.v,.i D,.i d,.i B] w λr z=>lf w r z/\aj w z:=by
 have hs:=g0 h;refine iz.aB _ _ _ _ w _ ((BQ h).aN λM w1 H1=>H1.nw λw2 _ H2=>H2.ax (fM D 40 w2 (by omega) hn) ?_);have hr:=hj D 40 (by omega);generalize fe D 40=ap at hr;rintro _ w3 rfl H3;obtain⟨j,rfl⟩:∃j:Nat,ap=(j:Int):=⟨ap.toNat,by omega⟩;have ai:opsL[j]? =some (opsL[j]'(by show j<40;omega)):=a9 _;have am:=Ti ai;generalize opsL[j]'(by show j<40;omega)=op at ai am;have ac:bo w3 ⟨some (ag w1.heap.size),40,40⟩ opsL:=z' (T:=bp) (H3.ob 1) rfl;refine⟨_,rfl,by omega,by show(j:Int)<40;omega,ac.cell ai (by omega) λp hp Q=>⟨op,Q,H3.aN λL w4 H4=>H4.ak λw5 H5=>H5.ax (fM _ _ w5 (by omega) (zk _)) ?_⟩⟩;have aC:=hj (ad .i64 (bE D 64)) ((s.n:Nat):Int) (by omega);generalize fe (ad .i64 (bE D 64)) ((s.n:Nat):Int)=O at aC;rintro _ H rfl E;have I:∀{n m u:Int} {tx:ByteArray} {st:bt} {A:C},MdV ⟨op,[],n,m,u,tx,st⟩->Z F0 w A [.g M,.g L] [.gr s l]->iz.aY s D d B M 0 ⟨none,0,0⟩ 0 0 0 (av #[]) 0 0 0 L op ⟨none,0,0⟩ n m u tx st.k st.n st.x O A λr z=>lf w r z/\aj w z:=λhd q=>SO hn N hk hl hd O (by omega) (by omega) _ q;have E:Z F0 w H [.g M,.g L] [.gr s l]:=E.ik [true,false,true];have em:av #[]=ba []:=rfl;have base:∀{n m u:Int} {tx:ByteArray} {st:bt},0<=n/\n<=100->0<=m/\m<=100->0<=u/\u<=1000->(op≠33->tx.size<=16)->(op=33->∃al,tx=ba (jY al))->MdV ⟨op,[],n,m,u,tx,st⟩:=λh1 h2 h3 h4 h5=>⟨⟨by show -1<=op;omega,am.2,by simp,h1,h2,h3,h4,h5⟩,by show op≠0;omega⟩;have zz:(0:Int)<=0/\(0:Int)<=100:=by decide
 have W:(0:Int)<=0/\(0:Int)<=1000:=by decide
 refine⟨_,rfl,aJ (λh1=>?_) (λh1=>aJ (λh2=>?_) (λh2=>aJ (λh3=>?_) (λh3=>aJ (λh4=>?_) (λh4=>?_))))⟩
 .refine E.ax (fM d 3 H (by omega) N) ?_;have aw:=hj d 3 (by omega);generalize fe d 3=v at aw;rintro _ A rfl q;refine⟨_,rfl,?_⟩;have S1:∀(G:Int),1<=G->G<=7->iz.aZ s D d B M 0 ⟨none,0,0⟩ 0 0 0 (av #[]) 0 0 0 L op ⟨none,0,0⟩ 0 0 0 (av #[]) 0 0 0 O G A λr z=>lf w r z/\aj w z:=by
   intro G h5 h6;refine q.ax (fo G A) ?_;rintro _ F rfl y;have Q:∃c:Nat,(if 3<G then(3:Int)else G)=(c:Int)/\1<=c/\c<=3:=⟨(if 3<G then(3:Int)else G).toNat,by split<;>omega,by split<;>omega,by split<;>omega⟩;obtain⟨c,Q,aF,aG⟩:=Q;rw[Q];have ec:ad .u64 (c:Int)=(c:Int):=IntWalk.u64_in _ (by omega);rw[ec];have ep:∃S:Int,ad .i64 (1 *2^min (ae (c:Int)) (IntKind.bits .i64))=S/\1<=S/\S<=8:=by
    have:c=1\/c=2\/c=3:=by omega
    rcases this with rfl|rfl|rfl
    .exact ⟨2,by decide,by decide,by decide⟩
    .exact ⟨4,by decide,by decide,by decide⟩
    .exact ⟨8,by decide,by decide,by decide⟩
   obtain⟨S,eq,q1,q2⟩:=ep;rw[eq];refine⟨_,_,_,rfl,by omega,y.ak λw9 P=>P.ax (fM B S w9 (by omega) hk) ?_⟩;have aA:=hj B S (by omega);generalize fe B S=a at aA;rintro _ aD rfl af;have ea:ad .u64 a=a:=IntWalk.u64_in _ (by omega);refine⟨_,rfl,af.ak λaK aq=>?_⟩;rw[ea];exact I (st:=bJ G) (base zz zz (by omega) (λ_=>by decide) (λh=>by omega)) aq
  have Y:ad .i64 (1+v)=1+v:=bf _ (by omega);show iz.aS s D d B M 0 ⟨none,0,0⟩ 0 0 0 _ 0 0 0 L op ⟨none,0,0⟩ 0 0 0 _ 0 0 0 O (ad .i64 (1+v)) A _;rw[Y];exact aJ (λ_=>S1 7 (by decide) (by decide)) (λ_=>S1 _ (by omega) (by omega))
 .refine E.nw λA _ q=>q.ax (fM d 6 A (by omega) N) ?_;have ay:=hj d 6 (by omega);generalize fe d 6=v at ay;rintro _ F rfl y;obtain⟨i,rfl⟩:∃i:Nat,v=(i:Int):=⟨v.toNat,by omega⟩;have aa:sS[i]? =some (sS[i]'(by show i<6;omega)):=a9 _;have ao:=Vv aa;generalize sS[i]'(by show i<6;omega)=t at aa ao;have ac:Rd F ⟨some (ag H.heap.size),6,6⟩ (sS.map Value.string):=rm (T:=da) (y.ob 2) rfl;refine⟨_,rfl,by omega,by show(i:Int)<6;omega,Rd.get ac (i:=i) (v:=.string t) (by simp[aa]) (by omega) λp hp Q=>⟨t,Q,y.ak λw9 P=>?_⟩⟩;exact I (st:=cZ) (base zz zz W (λ_=>ao) (λh=>by omega)) (P.take 2)
 .refine E.nw λA _ q=>q.ax (fM d 2 A (by omega) N) ?_;have ab:=hj d 2 (by omega);generalize fe d 2=v at ab;rintro _ F rfl y;obtain⟨i,rfl⟩:∃i:Nat,v=(i:Int):=⟨v.toNat,by omega⟩;have aa:([⟨2,2,1⟩,⟨3,1,1⟩]:List bt)[i]? =some (([⟨2,2,1⟩,⟨3,1,1⟩]:List bt)[i]'(by show i<2;omega)):=a9 _;generalize([⟨2,2,1⟩,⟨3,1,1⟩]:List bt)[i]'(by show i<2;omega)=t at aa;have ac:bF 3 F ⟨some (ag H.heap.size),2,2⟩ (([⟨2,2,1⟩,⟨3,1,1⟩]:List bt).flatMap gm):=pk (T:=b3) (y.ob 2) rfl;obtain⟨g1,g2,g3⟩:=eu ac rfl aa (K:=λp=>cG F (p.add (ae (i:Int) *3)) λa b c=>loc [M,L] F λw9=>iz.aY s D d B M 0 ⟨none,0,0⟩ 0 0 0 (av #[]) 0 0 0 L op ⟨none,0,0⟩ 0 0 0 (av #[]) a b c O w9 λr z=>lf w r z/\aj w z) (λp hp c=>⟨_,_,_,c.c0,c.c1,c.c2,y.ak λw9 P=>I (st:=t) (base zz zz W (λ_=>by decide) (λh=>by omega)) (P.take 2)⟩);exact⟨_,rfl,g1,g2,g3⟩
 .obtain ⟨xn,rfl⟩:∃xn:Nat,O=(xn:Int):=⟨O.toNat,by omega⟩;have hg:l[xn]? =some (l[xn]'(by omega)):=a9 (by omega);generalize l[xn]'(by omega)=e at hg;have aI:=k5 (hv e (aE hg));refine gN (bU.1 (E.getD 0)) rfl hg λp hp c=>⟨_,c.s1,E.ax (fM d _ H (by split<;>omega) N) ?_⟩;have an:=hj d (if 1<e.x.st.n then e.x.st.n else 1) (by split<;>omega);generalize fe d (if 1<e.x.st.n then e.x.st.n else 1)=a at an;have ha:a<64:=by have:=an.2;split at this<;>omega
  rintro _ A rfl q;have Y:ad .i64 (a+1)=a+1:=bf _ (by omega);refine⟨_,rfl,q.ak λF y=>y.ax (fM B _ F (by rw[Y];omega) hk) ?_⟩;rw[Y];have az:=hj B (a+1) (by omega);generalize fe B (a+1)=b at az;rintro _ w9 rfl P;exact⟨_,rfl,P.ak λaD af=>I (st:=cZ) (base (by omega) (by omega) W (λ_=>by decide) (λh=>by omega)) af⟩
 have S8:op≠33->iz.j5 s D d B M 0 ⟨none,0,0⟩ 0 0 0 (av #[]) 0 0 0 L op ⟨none,0,0⟩ 0 0 0 (av #[]) 0 0 0 O H λr z=>lf w r z/\aj w z:=by intro au;refine E.ax (fM d 2 H (by omega) N) ?_;have ab:=hj d 2 (by omega);generalize fe d 2=v at ab;rintro _ A rfl q;have Y:ad .i64 (1+v)=1+v:=bf _ (by omega);refine⟨_,rfl,q.ak λF y=>?_⟩;rw[Y];exact I (st:=cZ) (base (by omega) zz W (λ_=>by decide) (λh=>absurd h au)) y
 refine aJ (λh5=>a8 (beq_iff_eq.2 h5) (S8 (by omega))) (λh5=>aJ (λh6=>S8 (by omega)) (λh6=>aJ (λh7=>?_) (λh7=>aJ (λh8=>E.ax (Om d N H) ?_) (λh8=>I (st:=cZ) (base zz zz W (λ_=>by decide) (λh=>absurd h h8)) E))))
 .refine E.ax (fM d 3 H (by omega) N) ?_;have ab:=hj d 3 (by omega);generalize fe d 3=v at ab;rintro _ A rfl q;exact⟨_,rfl,q.ak λF y=>I (st:=cZ) (base (by omega) zz W (λ_=>by decide) (λh=>by omega)) y⟩
 .rintro _ A ⟨al,rfl⟩ q;exact⟨_,rfl,q.ak λF y=>I (st:=cZ) (base zz zz W (λh=>absurd h8 h) (λ_=>⟨al,rfl⟩)) y⟩
def RO:(List.range 1728).all (λc=>Nat.ble (jY c).length 64)=true:=by kernel_rfl
def Mu(k:Nat):(jY k).length<=64:=by rw[EF];exact Nat.le_of_ble_eq_true (fF.1 RO (k%1728) (List.mem_range.2 (Nat.mod_lt _ (by omega))))
def MdN.ok{d:Nx}(h:MdN d):nS d:=by
 refine⟨by have:=h.kl;unfold eZ;omega,?_,?_,λe=>?_⟩
 .have:=h.n;exact⟨by omega,by omega⟩
 .have:=h.m;exact⟨by omega,by omega⟩
 .obtain ⟨c,j⟩:=h.re e;rw[j];refine⟨?_,true,Pr c⟩;rw[de];have:=Mu c;omega
def jB.ok{g:List Nx}(h:jB g)(c:g.length<=eZ):s9 g:=⟨c,h.vg.val,h.vg.vars⟩
def Ny(g:List Nx)(n:Nx):(gX g n).1.length<=g.length+1:=by
 unfold gX;split
 .simp
 .split
  .simp
  .split
   .simp
   .simp
def z0{g:List Nx}{n:Nx}(h:(gX g n).2.2=0):(ck g n).2=0/\∃k:Nat,(gX g n).2.1=(k:Int)/\(gX g n).1[k]? =some (gH n (ck g n).1)/\((gX g n).1=g\/(gH n (ck g n).1∉g/\(gX g n).1=g++[gH n (ck g n).1]/\k=g.length)):=by
 unfold gX at h ⊢;split at h
 .rename_i c;exact absurd h c
 rename_i c;have c:(ck g n).2=0:=by omega
 refine⟨c,?_⟩;rw[aq (by omega)];cases d:gO (gH n (ck g n).1) g 0 with
 |some i=>
  have:=uo d;rw[Nat.sub_zero]at this;exact⟨i,rfl,this.2,.inl rfl⟩
 |none=>
  rw[d]at h;dsimp only at h ⊢;split at h
  .cases h
  .rename_i e;rw[aq e];exact⟨g.length,rfl,by simp,.inr ⟨wX d,rfl,rfl⟩⟩
def NB{g:List Nx}{n:Nx}(d:Vg g)(h:(gX g n).2.2=0):Vg (gX g n).1:=by
 obtain⟨e,q,_,_,c⟩:=z0 h;rcases c with c|⟨j,k,_⟩
 .rw [c];exact d
 .rw [k];exact .snoc d (IX (by rw[<-e])) j
def Nz{g:List Nx}{n:Nx}(j:jB g)(d:MdN n)(h:(gX g n).2.2=0):jB (gX g n).1:=by
 refine⟨NB j.vg h,λk c=>?_⟩;obtain⟨w,y,_,_,e⟩:=z0 h;rcases e with e|⟨x,q,_⟩
 .rw [e]at c;exact j.nd k c
 .rw [q]at c;rcases a6.1 c with c|c
  .exact j.nd k c
  .simp only[ay,aW,a3]at c;subst c;exact⟨d.DC,d.DD,d.kl,d.n,d.m,d.u,d.tx,d.re⟩
def jB.kl{l:List Nd}(h:jB (xs l)):∀c∈l,c.x.kids.length<=eZ:=λc d=>by have:=(h.nd c.x (dv.2 ⟨c,d,rfl⟩)).kl;unfold eZ;omega
def q2(w:C)(kind:Int)(cm:Nat)(r:cQ)(w':C):Prop:=∃(s:J) (l:List Nd),r=U s.v/\jB (xs l)/\1<=l.length/\l.length<=10+cm/\GP w' s l/\(∀b∈(En.gr s l).fp,w.heap.size<=b)/\∀c∈xs l,c.op=0->c∈xs (gn kind)
def NA{g:List Nx}{n e:Nx}(h:n.op≠0)(c:e∈(gX g n).1)(d:e.op=0):e∈g:=by
 unfold gX at c;split at c
 .cases c
 .split at c
  .exact c
  .split at c
   .cases c
   .rcases a6.1 c with c|c
    .exact c
    .rw [cO.1 c]at d;exact absurd d h
def Ni(w:C)(cm:Nat)(r:cQ)(w':C):Prop:=∃(s:J) (l:List Nd),r=U s.v/\jB (xs l)/\1<=l.length/\l.length<=10+cm/\GP w' s l/\∀b∈(En.gr s l).fp,w.heap.size<=b
def Of{w:C}{ls:J}{c:List Int}(hr:bo w ls c)(ab:∀x∈c,bn x)(aX:c.length<=9223372036854775807)(kind:Int)(cm:Nat)(hm:cm<=1000):
  ah V xw #[ls.v,.i kind,.i (cm:Int)] w λr q=>q2 w kind cm r q/\aj w q:=by
 have hn:=bo.len hr;have loop:∀(m i:Nat) (h:J) (l:List Nd) (Q:C),i+m=cm->jB (xs l)->(∀d∈xs l,d.op=0->d∈xs (gn kind))->1<=l.length->l.length<=10+i->(∀b∈(En.gr h l).fp,w.heap.size<=b)->Z F0 w Q [] [.rd ls (c.map bd),.gr h l]->
   mi.aH ls kind (cm:Int) h ((3 *i:Nat):Int) Q λr q=>q2 w kind cm r q/\aj w q:=by
  intro m;have e3:ad .i64 (3 *(cm:Int))=3 *(cm:Int):=bf _ (by omega);induction m with
  |zero=>
   intro i h l Q hi A O I h2 N G;have fin:mi.be h Q λr q=>q2 w kind cm r q/\aj w q:=⟨⟨h,l,rfl,A,I,by omega,bU.1 (G.getD 1),N,O⟩,G.fr⟩;exact mi.bD _ _ _ _ _ _ _ (aQ (λ_=>bb (a2 (by rw[e3];omega)) fin) (λ_=>fin))
  |succ m ih=>
   intro i h l Q hi A O I h2 N G;have fin:mi.be h Q λr q=>q2 w kind cm r q/\aj w q:=⟨⟨h,l,rfl,A,I,by omega,bU.1 (G.getD 1),N,O⟩,G.fr⟩;have aP:ad .i64 (((3 *i:Nat):Int)+1)=((3 *i+1:Nat):Int):=bf _ (by omega);have aR:ad .i64 (((3 *i:Nat):Int)+2)=((3 *i+2:Nat):Int):=bf _ (by omega);have aS:ad .i64 (((3 *i:Nat):Int)+3)=((3 *(i+1):Nat):Int):=bf _ (by omega);have next:∀(aa:J) (e:List Nd) (B:C),jB (xs e)->(∀d∈xs e,d.op=0->d∈xs (gn kind))->1<=e.length->e.length<=10+(i+1)->(∀b∈(En.gr aa e).fp,w.heap.size<=b)->Z F0 w B [] [.rd ls (c.map bd),.gr aa e]->mi.aY ls kind (cm:Int) aa ((3 *i:Nat):Int) B λr q=>q2 w kind cm r q/\aj w q:=by intro aa e B Y az g2 g3 g4 E;show mi.aH ls kind (cm:Int) aa (ad .i64 (((3 *i:Nat):Int)+3)) B _;rw[aS];exact ih (i+1) aa e B (by omega) Y az g2 g3 g4 E
   have S1:∀(S:Nat) (d:Nd) (H:C) (L:List En),En.g S∈L->MdV d.x->d.P H->(∀b∈aO d.ks,w.heap.size<=b)->Z F0 w H L [.rd ls (c.map bd),.gr h l,dY d]->mi.aZ ls kind (cm:Int) h ((3 *i:Nat):Int) S d.x.op d.ks d.x.n d.x.m d.x.u d.x.tx d.x.st.k d.x.st.n d.x.st.x H λr q=>q2 w kind cm r q/\aj w q:=by
    intro S d H L aT y pd W D;have aM:(xs l).length=l.length:=by simp[xs]
    have D:Z F0 w H [] [.rd ls (c.map bd),.gr h l,dY d]:=D.take 0;refine h7 ((OR (bU.1 (D.getD 1)) pd (A.ok (by rw[aM];unfold eZ;omega)) y.toMdN.ok A.kl).mono ?_);rintro _ w4 ⟨⟨s',rfl,⟨e,ae,G',F'⟩⟩,f4⟩;have af:∀b∈(En.gr s' e).fp,w.heap.size<=b:=λb F=>by
     rcases F' b F with(z|z)|z
     .exact N b z
     .exact kZ W b z
     .exact bB D.fr.size z
    have H4:=D.ct f4;have aq:Z F0 w w4 [] [.rd ls (c.map bd),.gr s' e]:=(D.gv (.gr s' e) f4 (bU.2 G') (λb F=>by
     rcases F' b F with(z|z)|z
     .exact .inr (.inr ⟨_,aE (i:=1) rfl,z⟩)
     .exact .inr (.inr ⟨_,aE (i:=2) rfl,z⟩)
     .exact .inl z)).forget _ (by simp)
    have ar:∀{w6:C},Z F0 w w6 [] [.rd ls (c.map bd),.gr h l,dY d]->Z F0 w w6 [] [.rd ls (c.map bd),.gr h l]:=λG=>G.forget _ (by simp);refine⟨f4,_,_,_,rfl,aJ (λh0=>?_) (λh0=>next h l w4 A O I (by omega) N (ar H4))⟩;obtain⟨_,M,aC,av,_⟩:=z0 h0;have ao:jB (xs e):=by rw[ae];exact Nz A y.toMdN h0
    have aL:∀T∈xs e,T.op=0->T∈xs (gn kind):=λT he z=>by rw[ae]at he;exact O T (NA y.nv he z) z
    have aF:e.length<=10+(i+1):=by have:=Ny (xs l) d.x;rw[<-ae]at this;simp only[xs,mA]at this;omega
    rw[<-ae]at av;have ac:M<e.length:=by have:=(dh.1 av).1;simpa[xs]using this
    have an:e[M]? =some (e[M]'ac):=a9 ac;generalize e[M]'ac=T at an;rw[aC];refine gN (bU.1 (aq.getD 1)) rfl an λp hp al=>⟨_,_,_,al.s0,al.s1,al.s2,?_⟩;refine h7 ((O8 kind T.x.st w4).mono ?_);rintro _ B ⟨⟨b,rfl⟩,f5⟩;have E:=aq.ct f5;have ag:=ar (H4.ct f5);refine⟨f5,_,rfl,cK (λ_=>?_) (λ_=>next h l B A O I (by omega) N ag)⟩;refine gN (bU.1 (E.getD 1)) rfl an λp' a1 c'=>⟨_,c'.s1,aQ (λ_=>?_) (λ_=>next h l B A O I (by omega) N ag)⟩;have aD:∀(i:Nat) (d:Nd),e[i]? =some d->d.x.kids.length<=1000000/\∀M∈d.x.kids,0<=M/\M<(i:Int):=λi d y=>by have au:=sZ y;have:=(ao.nd d.x (aE au)).kl;exact⟨by omega,ao.vg.kids au⟩
    refine h7 ((Gw (bU.1 (E.getD 1)) aD (M+1) M (by omega) ac B (Fr.refl _ _)).mono ?_);rintro _ w6 ⟨⟨a4,rfl⟩,f6⟩;have f6:aj B w6:=f6;exact⟨f6,_,rfl,aQ (λ_=>next s' e w6 ao aL (by omega) aF af (E.ct f6)) (λ_=>next h l w6 A O I (by omega) N (ag.ct f6))⟩
   refine mi.bD _ _ _ _ _ _ _ ?_;rw[aP,aR,e3];refine aQ (λaV=>a8 (a0 (by omega)) (G.dr λw2 H2=>?_)) (λ_=>fin);have am:bo w2 ls c:=H2.getD 0;have g0:c[3 *i]? =some (c[3 *i]'(by omega)):=a9 (by omega);have Y:c[3 *i+1]? =some (c[3 *i+1]'(by omega)):=a9 (by omega);have g2:c[3 *i+2]? =some (c[3 *i+2]'(by omega)):=a9 (by omega);generalize c[3 *i]'(by omega)=x0 at g0;generalize c[3 *i+1]'(by omega)=x1 at Y;generalize c[3 *i+2]'(by omega)=x2 at g2;refine⟨by omega,by omega,am.cell g0 (by omega) λp0 aG c0=>⟨x0,c0,by omega,by omega,am.cell Y (by omega) λp1 aI c1=>⟨x1,c1,by omega,by omega,am.cell g2 (by omega) λp2 aK c2=>⟨x2,c2,?_,?_⟩⟩⟩⟩
   .have ai:=Gk (bU.1 (H2.getD 1)) I (by unfold eZ;omega) (λd y=>A.vg.val d.x (dv.2 ⟨d,y,rfl⟩)) x0 x1 x2 (ab _ (aE g0)) (ab _ (aE Y)) (ab _ (aE g2));refine H2.At ai ?_;rintro _ H ⟨d,rfl,y,pd,W⟩ _ F3;have D:=F3.rd (dY d) pd (kZ W);refine⟨_,_,_,_,_,_,_,_,_,rfl,D.aN λS w4 H4=>H4.ak λB E=>?_⟩;exact S1 S d B _ (by simp) y (E.getD 2) (λb F=>bB H2.fr.size (W b F)) E
   .refine H2.aN λS H D=>?_;have aA:bo H ls c:=D.getD 0;have again:∀{j:Nat} {x:Int} {p:Addr} {X:Nat},c[j]? =some x->ls.a=some p->X=j *1->H.cell? (p.add X)=some (.int .i64 x):=by intro j x p X A hp hX;have:=aA.cell A hX (K:=λap=>∃q',ls.a=some q'/\H.cell? (q'.add X)=some (.int .i64 x)) (λap hq hc=>⟨ap,hq,hc⟩);rw[hp]at this;obtain⟨ap,hq,hc⟩:=this;cases hq;exact hc
    have ai:=Gk (bU.1 (D.getD 1)) I (by unfold eZ;omega) (λd y=>A.vg.val d.x (dv.2 ⟨d,y,rfl⟩)) x0 x1 x2 (ab _ (aE g0)) (ab _ (aE Y)) (ab _ (aE g2));refine⟨again g2 aK (by omega),again Y aI (by omega),again g0 aG (by omega),D.jF ai ?_⟩;rintro _ w4 ⟨d,rfl,y,pd,W⟩ _ F4;have H4:=F4.rd (dY d) pd (kZ W);refine⟨_,_,_,_,_,_,_,_,_,rfl,H4.ak λB E=>?_⟩;exact S1 S d B _ (by simp) y (E.getD 2) (λb F=>bB D.fr.size (W b F)) E
 refine mi.aB _ _ _ w _ ((O0 kind w).mono ?_);rintro _ Q ⟨⟨s,rfl,⟨l,hl,ax,aw⟩⟩,f1⟩;have hlen:=UU kind;have aU:l.length=(gn kind).length:=by have:=congrArg List.length hl;simpa[xs]using this
 have af:∀b∈(En.gr s l).fp,w.heap.size<=b:=λb F=>(aw b F).resolve_left id;have G:Z F0 w w [] [.rd ls (c.map bd)]:=bN _ (by intro T he;simp only[ay,aW,a3]at he;subst he;exact hr)
 have H1:=G.gv (.gr s l) f1 (bU.2 ax) (λb F=>.inl (af b F));exact⟨s,rfl,loop cm 0 s l Q (by omega) (by rw[hl];exact UW kind) (λd y _=>hl▸y) (by omega) (by omega) af H1⟩
def Oe{w:C}{ls:J}{c:List Int}(z:bo w ls c)(y:∀A∈c,bn A)(x:c.length<=9223372036854775807)(kind:Int)(cm:Nat)(u:cm<=1000):
  ah V xw #[ls.v,.i kind,.i (cm:Int)] w λr d=>Ni w cm r d/\aj w d:=
 (Of z y x kind cm u).mono λ_ _ ⟨⟨s,l,e,h,j,k,n,q,_⟩,f⟩=>⟨⟨s,l,e,h,j,k,n,q⟩,f⟩
def _root_.Go.W.Z.Hf{M:Nat->Prop}{w0 w w':C}{G k D X:List En}(H:Z M w0 w G D)(d:Z F0 w w' k (D++X))(q:∀e∈X,∀b∈e.fp,w.heap.size<=b):Z M w0 w' (G++k) (D++X):=by
 have n:Z M w0 w (G++[]) D:=by rw[kV];exact H
 refine n.tP (L:=[]) ⟨d.fr.mono λ_ _ j=>j.elim,d.own,d.rd,λe c b h=>(d.new e c b h).imp id λj=>j.elim,d.nd,d.dj⟩ λe c b h=>?_;rcases a6.1 c with c|c
 .exact .inr ⟨e,c,h⟩
 .exact .inl (q e c b h)
section
variable {w0:C} {b6 b7:Nat} {m1 aD st:J} {ms:List Int} {D:List En}
abbrev eL(b6 b7:Nat)(aD:J)(ls:List Lm)(st:J)(ds:List Sp):List En:=[.g b6,.g b7,.row g9 4 aD (ls.flatMap Lm.cs),.row dk 7 st (ds.flatMap Sp.c)]
def Lm.set{l:List Lm}{i:Nat}(hi:i<l.length)(x:Lm):((((l.flatMap Lm.cs).set (i *4+0) x.g.v).set (i *4+1) x.h.v).set (i *4+2) x.c.v).set (i *4+3) x.s.v=(l.set i x).flatMap Lm.cs:=by
 induction l generalizing i with
 |nil=>simp at hi
 |cons a l k=>
  cases i with
  |zero=>simp[Lm.cs]
  |succ i=>
   have j:a.cs.length=4:=rfl;have hi:i<l.length:=by simpa using hi
   have e:∀d,(i+1) *4+d=a.cs.length+(i *4+d):=λd=>by rw[j];omega
   simp only[dT,List.set_cons_succ,e];rw[List.set_append_right _ _ (by omega),List.set_append_right _ _ (by simp),List.set_append_right _ _ (by simp),List.set_append_right _ _ (by simp)];simp only[Nat.add_sub_cancel_left];rw[k hi]
def Ly{X:List En}{ls:List Lm}{ds:List Sp}{w:C}{i:Nat}{K:C->Prop}{bs:List Nat}(x:Lm)(H:Z F0 w0 w (eL b6 b7 aD ls st ds++X) D)(hi:i<ls.length)(bZ:∀b∈bs,En.g b∈[En.g b6,En.g b7]++X)(M:∀E,Z F0 w0 E (eL b6 b7 aD (ls.set i x) st ds++X) D->K E):
  aw aD (i:Int) λp=>ao w (p.add (ae (i:Int) *4)) x.g.v λk=>kept bs w k/\ao k ((p.add (ae (i:Int) *4)).add 1) x.h.v λn=>kept bs k n/\ao n ((p.add (ae (i:Int) *4)).add 2) x.c.v λq=>kept bs n q/\ao q ((p.add (ae (i:Int) *4)).add 3) x.s.v λu=>kept bs q u/\K u:=by
 have B:aG w g9 4 aD (ls.flatMap Lm.cs):=H.get 2;have O:=B.len;have y:=Lm.len ls;rw[y]at O;have j:∀(z A:En),∀b∈bs,En.g b∈(En.g b6::En.g b7::z::A::X):=λz A b d=>by
  have:=bZ b d;simp only[iF,h0,ay]at this ⊢;rcases this with d|d|d
  .exact .inl d
  .exact .inr (.inl d)
  .exact .inr (.inr (.inr (.inr d)))
 obtain⟨p,e⟩:∃p,aD.a=some p:=by
  rcases B.cases with⟨P,L⟩|⟨g,cur,N,_⟩
  .rw [L]at y;simp at y;omega
  .exact ⟨_,N⟩
 rw[bT];refine⟨by omega,by omega,uW e (H.qB 2 (i *4) rfl e (by omega) (bZ:=j _ _) λk F=>F.mG 2 (i *4) 1 rfl e (by simp only[List.length_set];omega) (bZ:=j _ _) λn G=>G.mG 2 (i *4) 2 rfl e (by simp only[List.length_set];omega) (bZ:=j _ _) λq I=>I.mG 2 (i *4) 3 rfl e (by simp only[List.length_set];omega) (bZ:=j _ _) λu J=>M u ?_)⟩;unfold eL;rw[<-Lm.set hi x];exact J
def Sp.set{l:List Sp}{i:Nat}{d:Sp}(hi:l[i]? =some d)(j:Nat)(n:j<7)(v:ab)(d':Sp)(k:d'.c=d.c.set j v):(l.flatMap Sp.c).set (i *7+j) v=(l.set i d').flatMap Sp.c:=by
 induction l generalizing i with
 |nil=>simp at hi
 |cons a l q=>
  cases i with
  |zero=>
   simp only[List.getElem?_cons_zero,fb]at hi;subst hi;simp only[dT,List.set_cons_zero,Nat.zero_mul,Nat.zero_add];rw[List.set_append_left _ _ (by rw[Sp.jE];exact n),k]
  |succ i=>
   have h:a.c.length=7:=rfl;simp only[List.getElem?_cons_succ]at hi;have e:(i+1) *7+j=a.c.length+(i *7+j):=by rw[h];omega
   simp only[dT,List.set_cons_succ,e];rw[List.set_append_right _ _ (by omega),Nat.add_sub_cancel_left,q hi]
def yP{X:List En}{ls:List Lm}{ds:List Sp}{w:C}{i:Nat}{d d':Sp}{K:C->Prop}(H:Z F0 w0 w (eL b6 b7 aD ls st ds++X) D)(hi:ds[i]? =some d)(j:Nat)(B:j<7)(v:ab)(A:d'.c=d.c.set j v)(y:∀q,Z F0 w0 q (eL b6 b7 aD ls st (ds.set i d')++X) D->K q):
  aw st (i:Int) λp=>ao w ((p.add (ae (i:Int) *7)).add j) v λe=>kept [b6,b7] w e/\K e:=by
 have k:aG w dk 7 st (ds.flatMap Sp.c):=H.get 3;have E:=k.len;have h:=Sp.ee ds;have G:=(dh.1 hi).1;rw[h]at E;obtain⟨p,n⟩:∃p,st.a=some p:=by
  rcases k.cases with⟨F,x⟩|⟨g,cur,z,_⟩
  .rw [x]at h;simp at h;omega
  .exact ⟨_,z⟩
 rw[bT];refine⟨by omega,by omega,uW n (H.mG 3 (i *7) j rfl n (by omega) λe u=>y e ?_)⟩;unfold eL;rw[<-Sp.set hi j B v d' A];exact u
structure v8(w0:C)(RM:Nat)(ds:List Sp):Prop where
 g:∀i d,ds[i]? =some d->mP 2 i RM d.x
 f:∀b∈(cP ds).fp,w0.heap.size<=b
def Pz:fq []=0:=by decide
def BZ{ds:List Sp}{i:Nat}{d':Sp}{e:En}(k:e∈jq (ds.set i d')):e∈jq ds\/e∈[d'.pE,d'.hE,d'.lE]:=by
 obtain⟨h,j,d⟩:=cj.1 k;rcases List.mem_or_eq_of_mem_set j with c|c
 .exact .inl (cj.2 ⟨h,c,d⟩)
 .rw [c]at d;exact .inr d
def yN{M:Nat->Prop}{w:C}{L D:List En}{ds:List Sp}{i:Nat}{d':Sp}(H:Z M w0 w L D)(k:cP ds∈D)(q:List En)(u:∀c∈q,c∈D)(x:∀c∈[d'.pE,d'.hE,d'.lE],(c∈D\/c∈jq ds)\/(c.fp=[]/\∀w,c.P w)):Z M w0 w L (q++[cP (ds.set i d')]):=by
 refine H.kR _ λc d=>?_;rcases a6.1 d with d|d
 .exact ⟨λh=>h c (u c d),λb n=>⟨c,u c d,n⟩⟩
 .rw [cO.1 d];refine⟨λh c d=>?_,λb n=>?_⟩
  .rcases BZ d with d|d
   .exact h (cP ds) k c d
   .rcases x c d with(e|e)|e
    .exact h c e
    .exact h (cP ds) k c e
    .exact e.2 w
  .obtain ⟨c,d,j⟩:=gw.1 n;rcases BZ d with d|d
   .exact ⟨cP ds,k,gw.2 ⟨c,d,j⟩⟩
   .rcases x c d with(e|e)|e
    .exact ⟨c,e,j⟩
    .exact ⟨cP ds,k,gw.2 ⟨c,e,j⟩⟩
    .rw [e.1]at j;cases j
def v8.set{n:Nat}{ds:List Sp}{i:Nat}{d':Sp}(h:v8 w0 n ds)(hi:i<ds.length)(y:mP 2 i n d'.x)(w:∀c∈[d'.pE,d'.hE,d'.lE],c∈jq ds\/∀b∈c.fp,w0.heap.size<=b):v8 w0 n (ds.set i d'):=by
 refine⟨λz q e=>?_,λb u=>?_⟩
 .rw [List.getElem?_set]at e;split at e
  .rename_i c;subst c;cases e;exact y
  .exact h.g z q e
 .obtain ⟨c,d,k⟩:=gw.1 u;rcases BZ d with d|d
  .exact h.f b (gw.2 ⟨c,d,k⟩)
  .rcases w c d with j|j
   .exact h.f b (gw.2 ⟨c,j,k⟩)
   .exact j b k
abbrev kC(w0:C)(b6 b7:Nat)(aD:J)(ls:List Lm)(st:J)(ds:List Sp)(D:List En)(w:C):Prop:=Z F0 w0 w (eL b6 b7 aD ls st ds) (D++[cP ds])/\v8 w0 ls.length ds
section
variable {ls:List Lm} {R:aa}
def Lw{i n:Nat}{ds:List Sp}{d:Sp}{w:C}(hi:ds[i]? =some d)(O:i<1000000)(G:kC w0 b6 b7 aD ls st ds D w)(L:∀c k,c.length=ds.length->(∀j,j≠i->c[j]? =ds[j]?)->kC w0 b6 b7 aD ls st c D k->gz.mS m1 b6 ⟨none,0,0⟩ ⟨none,0,0⟩ b7 aD st ((i+1:Nat):Int) k R):
  gz.hJ m1 b6 ⟨none,0,0⟩ ⟨none,0,0⟩ b7 aD st (i:Int) (n:Int) w R:=by
 obtain⟨B,A⟩:=G;have q:=A.g i d hi;have K:=(dh.1 hi).1;have nx:∀c k,c.length=ds.length->(∀j,j≠i->c[j]? =ds[j]?)->kC w0 b6 b7 aD ls st c D k->gz.j5 m1 b6 ⟨none,0,0⟩ ⟨none,0,0⟩ b7 aD st (i:Int) k R:=λc k H J I=>by have:=L c k H J I;rw[<-bA i (by omega)]at this;exact this
 refine aJ (λ_=>?_) (λ_=>nx ds w rfl (λ_ _=>rfl) ⟨B,A⟩)
 let u:Sp:=⟨⟨d.x.kind,d.x.node,d.x.dD,d.x.params,d.x.nm,[],d.x.hints⟩,d.p,⟨none,0,0⟩,d.h⟩
 have M:=aE hi;have z:∀y∈[d.pE,d.hE,d.lE],y∈jq ds:=λy e=>cj.2 ⟨d,M,e⟩;refine yP (X:=[]) B hi 5 (by omega) (.slice none 0 0) (d':=u) rfl λN F=>nx (ds.set i u) N (by simp) (λj P=>List.getElem?_set_ne (by omega)) ⟨?_,A.set K ⟨q.kind,q.node,q.dD,q.params,⟨Pz,by simp[u],by simp[u]⟩,q.hints,q.nm⟩ λy e=>?_⟩
 .refine yN F (by simp) D (λy e=>bS _ e) λy e=>?_;simp only[ay,aW,a3]at e;rcases e with rfl|rfl|rfl
  .exact .inl (.inr (z d.pE (by simp)))
  .exact .inl (.inr (z d.hE (by simp)))
  .exact .inr r9
 .simp only[ay,aW,a3]at e;rcases e with rfl|rfl|rfl
  .exact .inl (z d.pE (by simp))
  .exact .inl (z d.hE (by simp))
  .exact .inr λb E=>by rw[show(u.lE).fp=[]from r9.1]at E;cases E
def Lu{i n:Nat}{ds:List Sp}{d:Sp}{w:C}(hi:ds[i]? =some d)(E:i<1000000)(O:n<1048576)(I:kC w0 b6 b7 aD ls st ds D w)(F:∀q y,q.length=ds.length->(∀u,u≠i->q[u]? =ds[u]?)->kC w0 b6 b7 aD ls st q D y->gz.mS m1 b6 ⟨none,0,0⟩ ⟨none,0,0⟩ b7 aD st ((i+1:Nat):Int) y R):
  gz.dV m1 b6 ⟨none,0,0⟩ ⟨none,0,0⟩ b7 aD st (i:Int) (n:Int) w R:=by
 obtain⟨A,z⟩:=I;have k:=z.g i d hi;have B:=(dh.1 hi).1;refine aJ (λ_=>?_) (λ_=>Lw hi E ⟨A,z⟩ F);have c:ad .i64 (0 - (n:Int))=-(n:Int):=by rw[bf _ (by omega)];omega
 rw[c]
 let j:Sp:=⟨⟨d.x.kind,d.x.node,-(n:Int),d.x.params,d.x.nm,d.x.cY,d.x.hints⟩,d.p,d.l,d.h⟩
 have N:=aE hi;have G:∀c∈[j.pE,j.hE,j.lE],c∈jq ds:=λc e=>cj.2 ⟨d,N,e⟩;refine yP (X:=[]) A hi 2 (by omega) (.i (-(n:Int))) (d':=j) rfl λP H=>Lw (ds:=ds.set i j) (d:=j) (by simp[B]) E ⟨?_,z.set B ⟨k.kind,k.node,⟨by show _<=-(n:Int);omega,by show -(n:Int)<=_;omega⟩,k.params,k.cY,k.hints,k.nm⟩ λc e=>.inl (G c e)⟩ λq y J L K=>F q y (by rw[J];simp) (λu M=>by rw[L u M,List.getElem?_set_ne (by omega)]) K;exact yN H (by simp) D (λc e=>bS _ e) λc e=>.inl (.inr (G c e))
end
end
end Go.Proofs.YthkcmmldhceegaaGreatDoor
