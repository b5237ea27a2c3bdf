import Derived.Test.YtocpddmpfbfdbaaGreatDoorRF
import Derived.Test.YtocpddmpfbfdbaaGreatDoorR14
import Derived.Test.YtocpddmpfbfdbaaGreatDoorNO
import Derived.Test.YtocpddmpfbfdbaaGreatDoorT4
set_option linter.unusedVariables false
set_option maxRecDepth 100000
set_option maxHeartbeats 1000000
set_option linter.defProp false
namespace Go.Proofs.YtocpddmpfbfdbaaGreatDoor
open Go renaming World->I,Calls->ai
open Go.IntKind renaming wrap->ab
open _root_.Int renaming toNat->ag,tdiv->cz
open _root_.ByteArray renaming mk->az
open Go.IntWalk renaming i64_in->a4
open _root_.Bool renaming and_eq_true->bn
open _root_.Nat renaming le_refl->bB,le_trans->bH,zero_le->dv
open _root_.BitVec renaming ofInt->eJ
open Go.Proofs.Tryz renaming prog->U
open _root_.Decidable renaming decide->ah
open Go.Ending renaming returned->V
open List renaming mem_append->a5,mem_cons->aB,not_mem_nil->a1,mem_of_getElem?->aI,getElem?_eq_getElem->bc,getElem?_eq_some_iff->cD,length_append->cd,length_cons->fw,length_nil->iP,getElem?_append_left->yf,getElem?_append_right->rP,append_assoc->cN,mem_singleton->fJ,length_take->dL,flatMap_cons->cO,length_pos_iff->Dc,take_append_drop->uz,all_eq_true->f',append_nil->fI,getElem?_drop->lD,getElem?_take->kc
open Go Go.W
def I' (c:UInt8):rN c=kN c:=by unfold rN kN;rw [Bool.and_assoc,Bool.and_assoc];rfl
def KP (c:UInt8):jo c=cI c:=rfl
def M8:(List.range 256).all (λn=>iG .u8 (n:Int) 15==((n%16:Nat):Int))=true:=by kernel_rfl
def HD {n:Nat} (c:n<16):(az #[48,49,50,51,52,53,54,55,56,57,97,98,99,100,101,102])[n]? =some (eL n):=by
 have:n=0\/n=1\/n=2\/n=3\/n=4\/n=5\/n=6\/n=7\/n=8\/n=9\/n=10\/n=11\/n=12\/n=13\/n=14\/n=15:=by omega
 (repeat' rcases this with rfl|this)<;>(try subst this)<;>rfl
def CY (c:UInt8) (w:I):ai U tV #[.int .u8 (c.toNat:Int)] w λr A=>r=V (.string (ba (bo c)))/\ao w A:=by
 have z:=c.toNat_lt;have k:LH F0 w w [] []:=bZ [] (by simp);refine JO.ok _ w _ (k.call (FC c w) ?_);rintro _ B rfl j;refine ⟨_,rfl,bE (λd=>?_) (λd=>?_)⟩
 .rw [I'] at d;refine j.x4 (λC _ n h=>?_);have e:Bytes C ⟨some (aj B.heap.size),3,3⟩ [39,c,39]:=qO (T:=b') h rfl;refine ⟨ba [39,c,39],lX e,?_,n.fr⟩;unfold bo;rw [aq d]
 .rw [I'] at d;have x:Int.fdiv (c.toNat:Int) (2^(4))=((c.toNat / 16:Nat):Int):=by rw [Int.fdiv_eq_ediv_of_nonneg _ (by decide)];omega
  have y:iG .u8 (c.toNat:Int) 15=((c.toNat%16:Nat):Int):=eq_of_beq (f'.1 M8 c.toNat (List.mem_range.2 z));refine j.dr λD q=>?_;rw [x,y];refine ⟨by omega,_,HD (by omega),by omega,_,HD (by omega),q.x4 (λE _ u h=>?_)⟩;have e:Bytes E ⟨some (aj D.heap.size),4,4⟩ [92,120,eL (c.toNat / 16),eL (c.toNat%16)]:=qO (T:=b') h rfl;refine ⟨ba [92,120,eL (c.toNat / 16),eL (c.toNat%16)],lX e,?_,u.fr⟩;unfold bo;rw [af (by rw [d];simp)]
abbrev Ex (n:Nat):Prop:=∀(x:J) (w:I),x.sz<=n->hP x.rx=true->x.P w->ai U BX #[x.v] w λr c=>r=V (.tuple #[.string (ba (a3 x.rx)),.i (bK x.rx:Int)])/\ao w c
def I8 {n:Nat} (D:n<=1000000) (j:Ex n) (x:J) (lv:Nat) (w:I) (h:x.sz<=n) (C:lv<=1000) (q:hP x.rx=true) (u:x.P w):ai U nh #[x.v,.i (lv:Int)] w λr y=>r=V (.string (ba (cg lv x.rx (a3 x.rx))))/\ao w y:=by
 refine J7.aD _ _ _ _ _ w _ ((gq u).aL λA z c=>c.aA (j x z h q (c.getD 0)) ?_);rintro _ E rfl d;have B:(a3 x.rx).length<=18000000:=by have:=vo x.rx;rw [J.ed] at this;omega
 have e:az #[40]++ba (a3 x.rx)++az #[41]=ba (40::(a3 x.rx++[41])):=by show ba [40]++ba (a3 x.rx)++ba [41]=_;rw [dw,dw];simp
 refine ⟨_,_,rfl,aR (λk=>⟨?_,?_,?_,d.fr⟩) (λk=>⟨?_,d.fr⟩)⟩
 .rw [cT];show ¬(((1+_:Nat):Int)>9223372036854775807);omega
 .have:(az #[40]++ba (a3 x.rx)).size=1+(a3 x.rx).length:=by show (ba [40]++_).size=_;rw [dw,cT];simp;omega
  rw [this];show ¬(((_+1:Nat):Int)>9223372036854775807);omega
 .rw [e];unfold cg;rw [aq (by omega)]
 .unfold cg;rw [af (by omega)]
def I6:∀al:Nat,al<=1000000->Ex al
 |0,_=>λe B j _ _=>absurd j (by have:=J.kS e;omega)
 |al+1,hn=>by
  have ih:=I6 al (by omega);intro e B j aX px;have hs:=J.hC e;have hl:=J.fi e.l;have nr:=J.cj px.parts.1;have aJ:=aX;rw [J.eQ] at aJ;obtain ⟨k0,k7,ar,aS⟩:=x5 aJ;have ae:(J.ax e.l).length=e.l.length:=by rw [J.fh,List.length_map]
  rw [ae] at ar;have aF:∀a∈e.l,hP a.rx=true:=λa u=>x6 aS (by rw [J.fh];exact List.mem_map.2 ⟨a,u,rfl⟩);have av:∀(a:J) (lv:Nat),a.sz<=1000000->(cg lv a.rx (a3 a.rx)).length<=18000002:=λa lv u=>by have y:=vo a.rx;rw [J.ed] at y;have:=(pL lv a.rx (a3 a.rx)).1;omega
  have aB:∀c,(bo c).length<=4:=λc=>by unfold bo;split<;>simp
  let R:aa:=λr w'=>r=V (.tuple #[.string (ba (a3 e.rx)),.i (bK e.rx:Int)])/\ao B w'
  have one:∀(a:J) (Z:Nat) (q:I) (L:List En) (bs:List Nat) (K:ByteArray->I->Prop),Z<=1000->a∈e.l->LH F0 B q L [.tree e]->(∀w2,LH F0 B w2 L [.tree e]->K (ba (cg Z a.rx (a3 a.rx))) w2)->fT bs nh #[.agg #[.i a.k,.int .u8 (a.lo.toNat:Int),.int .u8 (a.hi.toNat:Int),a.s.v],.i (Z:Int)] q K:=by intro a Z q L bs K aT u h hK;have ay:=J.dV u;refine h.aA (I8 (by omega) ih a Z q (by omega) aT (aF a u) ((show e.P q from h.getD 0).parts.2.mem u)) ?_;rintro _ w2 rfl H2;exact ⟨_,rfl,hK w2 H2⟩
  have H:a3 e.rx=a3 (.mk e.k e.lo e.hi (J.ax e.l)):=by rw [J.eQ]
  have ap:bK e.rx=if e.k=6 then 3 else if e.k<3\/e.k=7\/e.l.length<2 then 4 else if e.k=3 then 2 else if e.k=4 then 0 else 1:=by rw [J.eQ];unfold bK;dsimp only;rw [ae]
  have N:(e.k<3\/e.k=7\/e.l.length<2)->e.k≠6->(4:Int)=(bK e.rx:Int):=λy z=>by rw [ap,af z,aq y];rfl
  refine oC.aD _ _ _ _ B _ ((gq px).aL λC q h=>?_);have h:LH F0 B q [.g C] [.tree e]:=h;refine aO (λhk=>⟨?_,h.fr⟩) (λO=>aO (λhk=>⟨?_,h.fr⟩) (λY=>aO (λQ=>?_) (λQ=>aO (λA=>?_) (λA=>aO (λS=>?_) (λS=>?_)))))
  .rw [<-N (.inl (by omega)) (by omega),H];unfold a3;rw [aq hk];rfl
  .rw [<-N (.inl (by omega)) (by omega),H];unfold a3;rw [af O,aq hk];rfl
  .have e2:a3 e.rx=if e.lo=e.hi then bo e.lo else 91::(bo e.lo++45::(bo e.hi++[93])):=by rw [H];unfold a3;rw [af O,af Y,aq Q]
   rw [<-N (.inl (by omega)) (by omega)];refine aO (λaG=>h.aA (CY e.lo q) ?_) (λaG=>h.au λw5 H5=>H5.aA (CY e.lo w5) ?_)
   .rintro _ D rfl x;exact ⟨_,rfl,by rw [e2,aq (UInt8.toNat_inj.1 (by omega))],x.fr⟩
   .rintro _ T rfl G;have y:=aB e.lo;have z:=aB e.hi;have s0:az #[91]++ba (bo e.lo)++az #[45]=ba (91::bo e.lo++[45]):=by show ba [91]++ba (bo e.lo)++ba [45]=_;rw [dw,dw];rfl
    refine ⟨_,rfl,?_,?_,G.aA (CY e.hi T) ?_⟩
    .rw [cT];show ¬(((1+_:Nat):Int)>9223372036854775807);omega
    .have:(az #[91]++ba (bo e.lo)).size=1+(bo e.lo).length:=by show (ba [91]++_).size=_;rw [dw,cT];simp;omega
     rw [this];show ¬(((_+1:Nat):Int)>9223372036854775807);omega
    rintro _ w rfl E;rw [s0];have:ba (91::bo e.lo++[45]++bo e.hi)++az #[93]=ba (91::bo e.lo++[45]++bo e.hi++[93]):=by show _++ba [93]=_;rw [dw]
    refine ⟨_,rfl,?_,?_,?_,E.fr⟩
    .rw [cT,cT];simp only [cd,fw,iP];show ¬(((_:Nat):Int)>9223372036854775807);omega
    .rw [dw,cT];simp only [cd,fw,iP];show ¬(((_+1:Nat):Int)>9223372036854775807);omega
    .rw [dw,this,e2,af (λj=>aG (by rw [j]))];simp
  .have y:=ar (.inl A);have e6:a3 e.rx=33::hv (cG 3 (J.ax e.l)):=by rw [H];unfold a3;rw [af O,af Y,af Q,aq A]
   have e3:(3:Int)=(bK e.rx:Int):=by rw [ap,aq A];rfl
   match dW:e.l,y with
   |[a],_=>
    have u:a∈e.l:=by rw [dW];simp
    have ay:=J.dV u;refine hR (show e.P q from h.getD 0) (k:=0) rfl (by rw [dW];rfl) (one a 3 q _ _ _ (by omega) u h λD x=>⟨?_,?_,x.fr⟩)
    .have:=av a 3 (by omega);rw [cT];show ¬(((1+_:Nat):Int)>9223372036854775807);omega
    .have:az #[33]++ba (cg 3 a.rx (a3 a.rx))=ba (33::cg 3 a.rx (a3 a.rx)):=by show ba [33]++_=_;rw [dw];rfl
     rw [this,e6,dW,<-e3];rfl
  .have y:=ar (.inr S);have e7:a3 e.rx=hv (cG 4 (J.ax e.l))++[42]:=by rw [H];unfold a3;rw [af O,af Y,af Q,af A,aq S]
   match dW:e.l,y with
   |[a],_=>
    have u:a∈e.l:=by rw [dW];simp
    have ay:=J.dV u;refine hR (show e.P q from h.getD 0) (k:=0) rfl (by rw [dW];rfl) (one a 4 q _ _ _ (by omega) u h λD x=>⟨?_,?_,x.fr⟩)
    .have:=av a 4 (by omega);rw [cT];show ¬(((_+1:Nat):Int)>9223372036854775807);omega
    .have:ba (cg 4 a.rx (a3 a.rx))++az #[42]=ba (cg 4 a.rx (a3 a.rx)++[42]):=by show _++ba [42]=_;rw [dw]
     rw [this,e7,dW,<-N (.inr (.inl S)) A];rfl
  have hk:e.k=3\/e.k=4\/e.k=5:=by omega
  have S1:∀(word sign:BL) (level:Nat),word.length=3->om e.k=word++[40]->eR e.k=sign->level<=2->(2<=e.l.length->bK e.rx=level)->oC.a2 C e.k e.lo.toNat e.hi.toNat e.s (ba word) (ba sign) (level:Int) q R:=by
   intro word sign level hw aH aw aZ ac;have ef:e.l.length<2->a3 e.rx=om e.k++(hv (cG 0 (J.ax e.l))++[41]):=λj=>by rw [H];unfold a3;rw [af O,af Y,af Q,af A,af S,aq (by rw [ae];omega)]
   refine aO (λh0=>?_) (λh0=>aO (λy=>?_) (λy=>?_))
   .have hx:e.l=[]:=List.length_eq_zero_iff.1 (by omega);refine ⟨?_,?_,h.fr⟩
    .rw [cT];show ¬(((_+2:Nat):Int)>9223372036854775807);omega
    .have:ba word++az #[40,41]=ba (word++[40,41]):=by show _++ba [40,41]=_;rw [dw]
     rw [this,<-N (.inr (.inr (by omega))) A,ef (by omega),aH,hx];simp [J.ax,cG,hv]
   .match dW:e.l with
    |[]=>rw [dW] at nr;simp at nr;omega
    |_::_::_=>rw [dW] at nr;simp at nr;omega
    |[a]=>
     have u:a∈e.l:=by rw [dW];simp
     have ay:=J.dV u;have hp:=av a 0 (by omega);refine ⟨?_,hR (show e.P q from h.getD 0) (k:=0) rfl (by rw [dW];rfl) (one a 0 q _ _ _ (by omega) u h λD x=>⟨?_,?_,?_,x.fr⟩)⟩
     .rw [cT];show ¬(((_+1:Nat):Int)>9223372036854775807);omega
     .have:ba word++az #[40]=ba (word++[40]):=by show _++ba [40]=_;rw [dw]
      rw [this,cT,cT];simp only [cd,fw,iP];show ¬(((_:Nat):Int)>9223372036854775807);omega
     .have:ba word++az #[40]++ba (cg 0 a.rx (a3 a.rx))=ba (word++[40]++cg 0 a.rx (a3 a.rx)):=by show _++ba [40]++_=_;rw [dw,dw]
      rw [this,cT];simp only [cd,fw,iP];show ¬(((_+1:Nat):Int)>9223372036854775807);omega
     .have:ba word++az #[40]++ba (cg 0 a.rx (a3 a.rx))++az #[41]=ba (word++[40]++cg 0 a.rx (a3 a.rx)++[41]):=by show _++ba [40]++_++ba [41]=_;rw [dw,dw,dw]
      rw [this,<-N (.inr (.inr (by rw [dW];simp))) A,ef (by rw [dW];simp),aH,dW];simp [J.ax,cG,hv]
   .have z:2<=e.l.length:=by omega
    have ac:=ac z;have ej:a3 e.rx=wK e.k (cG (level+1) (J.ax e.l)):=by
     conv=>lhs;rw [H];unfold a3;rw [af O,af Y,af Q,af A,af S,af (by rw [ae];omega)]
     rw [<-J.eQ,ac]
    have a1:sign.length<=1:=by rw [<-aw];unfold eR;split<;>(try split)<;>simp
    have loop:∀(d i:Nat) (out:BL) (D:I),i+d=e.l.length->(1<=i->0<out.length)->(i=0->out=[])->out.length+gE (cG (level+1) (J.ax (e.l.drop i)))<=40000000->a3 e.rx=(if i=0 then wK e.k (cG (level+1) (J.ax (e.l.drop i))) else fY e.k out (cG (level+1) (J.ax (e.l.drop i))))->LH F0 B D [.g C] [.tree e]->
      oC.kq C e.k e.lo.toNat e.hi.toNat e.s (ba sign) (level:Int) (ba out) e.s ((e.s.n:Nat):Int) (i:Int) D R:=by
     intro d;induction d with
     |zero=>
      intro i out D aP aj hz ak M x;refine oC.sB _ _ _ _ _ _ _ _ _ _ _ _ _ (a9 (a0 (by omega)) ⟨?_,x.fr⟩);rw [M,List.drop_of_length_le (by omega),af (by omega),ac];rfl
     |succ d aY=>
      intro i out D aP aj hz ak M x;have hg:e.l[i]? =some (e.l[i]'(by omega)):=bc (by omega);have aC:e.l.drop i=(e.l[i]'(by omega))::e.l.drop (i+1):=List.drop_eq_getElem_cons (by omega);generalize e.l[i]'(by omega)=c at hg aC;have hc:=aI hg;have a5:=J.dV hc;rw [aC] at M ak;have ak:out.length+((cg (level+1) c.rx (a3 c.rx)).length+2+gE (cG (level+1) (J.ax (e.l.drop (i+1)))))<=40000000:=by
       have:gE (cG (level+1) (J.ax (c::e.l.drop (i+1))))=(cg (level+1) c.rx (a3 c.rx)).length+2+gE (cG (level+1) (J.ax (e.l.drop (i+1)))):=by simp [J.ax,cG,gE]
       omega
      have aN:0<(cg (level+1) c.rx (a3 c.rx)).length:=by have y:=y5 c.rx (aF c hc);have:=(pL (level+1) c.rx (a3 c.rx)).2;omega
      have aM:ab .i64 ((level:Int)+1)=((level+1:Nat):Int):=bw _ (by omega);have aE:i=0->a3 e.rx=fY e.k (cg (level+1) c.rx (a3 c.rx)) (cG (level+1) (J.ax (e.l.drop (i+1)))):=λj=>by rw [aq j] at M;rw [M];rfl
      have F:i≠0->a3 e.rx=fY e.k ((if e.k=3/\cI (gn out)=true/\cI (gQ (cg (level+1) c.rx (a3 c.rx)) 0)=true then out++[32] else out)++eR e.k++cg (level+1) c.rx (a3 c.rx)) (cG (level+1) (J.ax (e.l.drop (i+1)))):=λj=>by rw [af j] at M;rw [M];rfl
      refine oC.sB _ _ _ _ _ _ _ _ _ _ _ _ _ (bd (aW (by omega)) (hR (show e.P D from x.getD 0) rfl hg (x.aL λb9 w4 H4=>H4.au λw5 H5=>?_)));rw [aM];refine one c (level+1) w5 _ _ _ (by omega) hc H5 λT G=>?_;have G:LH F0 B T [.g C,.g b9] [.tree e]:=G;generalize cg (level+1) c.rx (a3 c.rx)=t at aE F ak aN;have go:∀(o:BL) (w:I),o.length<=out.length+1->out.length<=o.length->a3 e.rx=fY e.k (o++t) (cG (level+1) (J.ax (e.l.drop (i+1))))->LH F0 B w [.g C,.g b9] [.tree e]->oC.bh C e.k e.lo.toNat e.hi.toNat e.s (ba sign) (level:Int) (ba o) (ba t) e.s ((e.s.n:Nat):Int) (i:Int) w R:=by
       intro o w y z h3 E;refine ⟨?_,?_⟩
       .rw [cT,cT];show ¬(((_:Nat):Int)>9223372036854775807);omega
       .rw [dw,bw _ (by omega)];refine aY (i+1) (o++t) w (by omega) (λ_=>by simp only [cd];omega) (λj=>by omega) (by simp only [cd];omega) (by rw [af (by omega)];exact h3) (E.take 1)
      refine aR (λaQ=>⟨?_,?_⟩) (λaQ=>go out T (by omega) (bB _) (by rw [hz (by omega)];exact aE (by omega)) G)
      .rw [cT,cT];show ¬(((_:Nat):Int)>9223372036854775807);omega
      have F:=F (by omega);have aj:=aj (by omega);rw [aw] at F;have ea:ba out++ba sign=ba (out++sign):=dw _ _;have am:∀w,LH F0 B w [.g C,.g b9] [.tree e]->¬(e.k=3/\cI (gn out)=true/\cI (gQ t 0)=true)->oC.bh C e.k e.lo.toNat e.hi.toNat e.s (ba sign) (level:Int) (ba (out++sign)) (ba t) e.s ((e.s.n:Nat):Int) (i:Int) w R:=λw E aV=>go (out++sign) w (by simp only [cd];omega) (by simp only [cd];omega) (by rw [af aV] at F;exact F) E;rw [ea];refine aO (λad=>?_) (λad=>am T G (λj=>ad j.1));have s3:sign=[]:=by rw [<-aw];unfold eR;rw [aq ad]
      have e9:out++sign=out:=by rw [s3,fI]
      rw [e9] at am ⊢;have eo:ab .i64 ((((ba out).size:Nat):Int) - 1)=((out.length - 1:Nat):Int):=by rw [cT,a4 _ (by omega)];omega
      rw [eo];refine ⟨by omega,gn out,?_,G.aA (vY (gn out) T) ?_⟩
      .rw [Int.toNat_natCast,gg (s:=ba out) (by rw [cT];omega),nT,H3 out aj]
      rintro _ w rfl E;refine ⟨_,rfl,bE (λah=>⟨by omega,gQ t 0,?_,E.aA (vY (gQ t 0) w) ?_⟩) (λah=>am w E (λj=>by rw [KP,j.2.1] at ah;cases ah))⟩
      .rw [show ag 0=0 from rfl,gg (s:=ba t) (by rw [cT];omega),nT]
      rintro _ w8 rfl H8;refine ⟨_,rfl,bE (λai=>⟨?_,?_⟩) (λai=>am w8 H8 (λj=>by rw [KP,j.2.2] at ai;cases ai))⟩
      .rw [cT];show ¬(((_+1:Nat):Int)>9223372036854775807);omega
      .have aK:ba out++az #[32]=ba (out++[32]):=by show _++ba [32]=_;rw [dw]
       rw [aK];refine go (out++[32]) w8 (by simp) (by simp) ?_ H8;rw [aq ⟨ad,ah,ai⟩,s3,fI] at F;exact F
    have h3:=ql (level+1) (J.ax e.l);have W:Rx.aU (J.ax e.l)=J.aU e.l:=J.uP e.l;exact loop e.l.length 0 [] q (by omega) (λj=>by omega) (λ_=>rfl) (by rw [List.drop_zero];simp;omega) (by rw [aq rfl,List.drop_zero];exact ej) h
  have an:2<=e.l.length->bK e.rx=if e.k=3 then 2 else if e.k=4 then 0 else 1:=λz=>by rw [ap,af A,af (by omega)]
  refine aO (λW=>S1 [97,108,116] [124] 0 rfl (by rw [W];rfl) (by rw [W];rfl) (by omega) (λz=>by rw [an z,W];rfl)) (λW=>aO (λh5=>S1 [97,108,108] [38] 1 rfl (by rw [h5];rfl) (by rw [h5];rfl) (by omega) (λz=>by rw [an z,h5];rfl)) (λh5=>S1 [99,97,116] [] 2 rfl (by rw [show e.k=3 by omega];rfl) (by rw [show e.k=3 by omega];rfl) (by omega) (λz=>by rw [an z,show e.k=3 by omega];rfl)))
def So (x:J) (lv:Nat) (w:I) (c:x.sz<=1000000) (d:lv<=1000) (e:hP x.rx=true) (h:x.P w):ai U nh #[x.v,.i (lv:Int)] w λr j=>r=V (.string (ba (cg lv x.rx (a3 x.rx))))/\ao w j:=I8 (bB _) (I6 1000000 (bB _)) x lv w c d e h
def QW:(List.range 1728).all (λc=>Nat.ble (kT c).length 64)=true:=by kernel_rfl
def LM (k:Nat):(kT k).length<=64:=by rw [LL];exact Nat.le_of_ble_eq_true (f'.1 QW (k%1728) (List.mem_range.2 (Nat.mod_lt _ (by omega))))
def j3 (bs k:Nat) (w:I):Prop:=w.heap[bs]? =some (.cells #[.i (k:Int)] bX (0,0))
def FV {bs k:Nat} {w:I} (c:j3 bs k w):w.cell? (aj bs)=some (.i (k:Int)):=by
 have:=cellAt (p:=aj bs) (i:=0) (v:=.i (k:Int)) c rfl rfl
 rwa [hf] at this
abbrev mw (s:O) (l:List J):J:=.mk 0 0 0 s l
def Ed {M:Nat->Prop} {t:J} {w w':I} (c:t.P w) (f:Fr M w w') (e:∀b∈t.fp,¬M b):t.P w':=J.ck t (λb d h=>f.ck b h (e b d)) c
section
variable {s:O} {l:List J} {bs:Nat}
def zN (H:J.aU l<=1000000) (M:bs∉(mw s l).fp) (i j k:Nat) (N:k<=100) (hi:i<l.length) (G:j<l.length) {w:I} (F:(mw s l).P w) (n:j3 bs k w):
  ai U ud #[s.v,.i (i:Int),.i (j:Int),.pointer (some (aj bs)),.func (.func bj) #[] #[]] w λr z=>(∃a b u:Nat,r=V (.tuple #[.i (a:Int),.i (b:Int)])/\(a=i/\b=j\/a=j/\b=i)/\u<=k+1/\j3 bs u z)/\Fr (·=bs) w z:=by
 have e:l[i]? =some l[i]:=bc hi;have h:l[j]? =some l[j]:=bc G;generalize l[i]=a at e;generalize l[j]=b at h;have K:=aI e;have y:=aI h;have c:ao w w.drew:=Fr.drew _ _;have d:=F.bA c;refine KN.ok _ _ _ _ w _ (hR d rfl h (hR d rfl e ?_));refine (vT b a w.drew (bH (J.dV y) H) (d.parts.2.mem y) (d.parts.2.mem K)).mono ?_;rintro _ L ⟨rfl,f⟩;have x:=iK n;have q:j3 bs k L:=by unfold j3 at n ⊢;rw [f.ck bs (Nat.lt_of_lt_of_le x c.size) id,c.ck bs x id];exact n
 refine ⟨_,rfl,aR (λ_=>?_) (λ_=>⟨⟨i,j,k,rfl,.inl ⟨rfl,rfl⟩,Nat.le_succ _,q⟩,(c.cR f).nl⟩)⟩;obtain ⟨A,B,C,D⟩:=pY q 0 (by simp) (.i (((k+1:Nat)):Int));rw [hf] at A B C D;refine ⟨(k:Int),FV q,A,B,?_⟩;rw [bw _ (by omega)];exact ⟨⟨j,i,k+1,rfl,.inr ⟨rfl,rfl⟩,bB _,by unfold j3;rw [C];rfl⟩,(c.cR f).nl.trans D λO _ E=>E⟩
end
def lJ {α:Type} {ts:List α} {i j:Nat} {a b:α} (hi:ts[i]? =some a) (q:ts[j]? =some b) (c:Nat):((ts.set i b).set j a)[c]? =if c=j then some a else if c=i then some b else ts[c]?:=by
 have k:=(cD.1 hi).1;have n:=(cD.1 q).1;rw [List.getElem?_set,List.length_set,List.getElem?_set];by_cases d:c=j
 .subst d;simp [n]
 .rw [af (show ¬j=c from λh=>d h.symm),af d];by_cases e:c=i
  .subst e;simp [k]
  .rw [af (show ¬i=c from λh=>e h.symm),af e]
def K8 {α:Type} {ts:List α} {i j:Nat} {a b:α} (hi:ts[i]? =some a) (e:ts[j]? =some b):((ts.set i b).set j a).Perm ts:=by obtain ⟨c,rfl⟩:=cD.1 hi;obtain ⟨d,rfl⟩:=cD.1 e;exact List.set_set_perm c d
abbrev mQ (c x:J):Prop:=a8 x.rx c.rx<0
section
variable {s:O} {l:List J} {w:I}
abbrev EK (s:O) (l:List J) (w d:I) (ts:List J):Prop:=LH (·∈ay s) w d [.row aK 4 s (ts.flatMap J.c)] [.trees l]
end
def Ja {w:I} {l m:List J} (c:J.Ps w l) (d:m.Perm l):J.Ps w m:=J.hS λt e=>c.mem (d.mem_iff.1 e)
def PV {l m:List J} (e:m.Perm l) {b:Nat} (c:b∈J.a' m):b∈J.a' l:=by obtain ⟨t,h,d⟩:=J.bR.1 c;exact J.bR.2 ⟨t,e.mem_iff.1 h,d⟩
def Sz {M:Nat->Prop} {l:List J} {w w':I} (c:J.Ps w l) (f:Fr M w w') (e:∀b∈J.a' l,¬M b):J.Ps w' l:=J.keeps l (λb d h=>f.ck b h (e b d)) c
set_option maxHeartbeats 2000000
namespace KK
noncomputable abbrev X:Fx:=⟨U,Tryz.f199,[],[]⟩
def ok (d:O) (c:Int) (e:Addr) (w:I) (R:aa) (h:di xF #[d.v,.i (ab .i64 (c - 1)),.i c,.i (ab .i64 (c+1)),.pointer (some e),.func (.func bj) #[] #[]] w λt17 j=>R (V (.i t17)) j):ai U uc #[d.v,.i c,.pointer (some e),.func (.func bj) #[] #[]] w R:=aE X [] h
end KK
namespace uW
noncomputable abbrev X:Fx:=⟨U,Tryz.f187,[(3,ls [0,1,2,3,4,5,6,7,8,9,10,11,12,13,14,15])],[]⟩
abbrev P0:Ps:=[(0,.v [.s]),(8,.v [.I]),(9,.v [.I])]
def L0 (c:O) (d e:Int) (w:I) (R:aa):Prop:=br P0 0 (X.Sem (ak [0,1,2])) c d e w R
noncomputable def aZ:=bD X (ak [0,1,2]) P0 L0::[]
abbrev S1 (c:O) (d e:Int) (w:I) (R:aa):Prop:=
 L0 c d (ab .i64 (e - 1)) w R
noncomputable def bg:=aC X aZ (ak [2,1,1,2,2]) P0 S1::aZ
def b5:∀(e:O) (c d:Int) (w:I) (R:aa) (G:Y (ah (c<d)) (bY w λh=>aw e d λj=>aV h (j.add (ag d *4)) λk n q u=>aw e c λx=>aV h (x.add (ag c *4)) λy z A B=>aw e c λC=>cJ h (C.add (ag c *4)) (.i k) (.int .u8 n) (.int .u8 q) (u.v) λE=>aw e d λD=>cJ E (D.add (ag d *4)) (.i y) (.int .u8 z) (.int .u8 A) (B.v) λF=>S1 e (ab .i64 (c+1)) d F R) (R (V (.tuple #[])) w)),L0 e c d w R:=mp (bF (X:=X) bg (ak [0,1,2]) P0)
def ok (e:O) (c d:Int) (w:I) (R:aa) (h:L0 e c (ab .i64 (d - 1)) w R):ai U Cf #[e.v,.i c,.i d,.func (.func bj) #[] #[]] w R:=aE X bg h
end uW
namespace KO
noncomputable abbrev X:Fx:=⟨U,Tryz.f198,[(1,ls [0,1,2,3,4,5,6,7,8,9]),(2,ls [0,1,2,3,4,5,6,7,8,9]),(3,ls [0,1,2,3,4,5,6,7,8,9])],[]⟩
def ok (c:Addr) (w:I) (R:aa) (q:bY w λd=>∃j:Int,d.cell? c=some (.u j)/\
 ∃k:Int,d.cell? c=some (.u k)/\
 av d c (.u (i6 .u64 j (ab .u64 (k *2^(13))))) λx=>
 bY x λe=>∃t14:Int,e.cell? c=some (.u t14)/\
 ∃t17:Int,e.cell? c=some (.u t17)/\
 av e c (.u (i6 .u64 t14 (Int.fdiv t17 (2^(7))))) λy=>
 bY y λh=>∃t23:Int,h.cell? c=some (.u t23)/\
 ∃t26:Int,h.cell? c=some (.u t26)/\
 av h c (.u (i6 .u64 t23 (ab .u64 (t26 *2^(17))))) λn=>
 ∃t32:Int,n.cell? c=some (.u t32)/\
 R (V (.u t32)) n):ai U Cg #[.pointer (some c)] w R:=aE X [] q
end KO
namespace KM
noncomputable abbrev X:Fx:=⟨U,Tryz.f197,[],[]⟩
def ok (c:Int) (w:I) (R:aa) (e:di tT #[.u (ab .u64 c)] w λd h=>¬d<0/\R (V (.u (ab .u64 (1 *2^(min (ag d) (IntKind.bits .u64)))))) h):ai U xG #[.i c] w R:=aE X [] e
end KM
namespace oF
noncomputable abbrev X:Fx:=⟨U,Tryz.f185,[(10,ls [0,1,2,3,4,5,6,7,8,9,10,11,12,13,14,15,16,17,18,19])],[]⟩
abbrev P0:Ps:=[(0,.v [.s]),(1,.v [.I]),(8,.v [.I]),(9,.v [.r]),(10,.v [.U]),(11,.v [.I])]
def L1 (d:O) (c h:Int) (k:Addr) (j e:Int) (w:I) (R:aa):Prop:=br P0 0 (X.Sem (ak [0,1,3,1,2])) d c h k j e w R
noncomputable def cC:=bD X (ak [0,1,3,1,2]) P0 L1::[]
abbrev P1:Ps:=[(0,.v [.s]),(1,.v [.I]),(8,.v [.I]),(9,.v [.r]),(10,.v [.U]),(11,.v [.I]),(12,.v [.I])]
abbrev S3 (d:O) (c k:Int) (q:Addr) (n e h:Int) (w:I) (R:aa):Prop:=
 bY w λj=>aw d (ab .i64 (c+h)) λu=>aV j (u.add (ag (ab .i64 (c+h)) *4)) λx y z A=>aw d e λB=>aV j (B.add (ag e *4)) λC D E F=>aw d e λG=>cJ j (G.add (ag e *4)) (.i x) (.int .u8 y) (.int .u8 z) (A.v) λJ=>aw d (ab .i64 (c+h)) λH=>cJ J (H.add (ag (ab .i64 (c+h)) *4)) (.i C) (.int .u8 D) (.int .u8 E) (F.v) λK=>L1 d c k q n (ab .i64 (e+1)) K R
noncomputable def bt:=aC X cC (ak [2,2,1,2,3,1,2]) P1 S3::cC
abbrev S2 (h:O) (e c:Int) (n:Addr) (k j d:Int) (w:I) (R:aa):Prop:=
 Y (ah (d>=c)) (S3 h e c n k j (ab .i64 (d - c)) w R) (S3 h e c n k j d w R)
noncomputable def bm:=aC X bt (ak [1,2,1,2,3,1,2]) P1 S2::bt
def fC:∀(k:O) (c e:Int) (j:Addr) (h d:Int) (w:I) (R:aa) (q:Y (ah (d<=(ab .i64 ((ab .i64 (c+(ab .i64 ((ab .i64 (cz e 4)) *2))))+1)))) (j2 Cg #[.pointer (some j)] w λt38 n=>S2 k c e j h d (ab .i64 (iG .u64 t38 (ab .u64 (h - 1)))) n R) (R (V (.tuple #[])) w)),L1 k c e j h d w R:=mp (bF (X:=X) bm (ak [0,1,3,1,2]) P0)
abbrev S0 (e:O) (d c:Int) (w:I) (R:aa):Prop:=
 Y (ah (c>=8)) (aN w (.cells #[.u 0] yN) λh=>
 av h (nb w) (.u (ab .u64 c)) λj=>
 j2 xG #[.i c] j λt21 k=>L1 e d c (nb w) t21 (ab .i64 ((ab .i64 (d+(ab .i64 ((ab .i64 (cz c 4)) *2)))) - 1)) k R) (R (V (.tuple #[])) w)
noncomputable def bf:=aC X bm (ak [1]) [(0,.v [.s]),(1,.v [.I]),(8,.v [.I])] S0::bm
def ok (e:O) (c d:Int) (w:I) (R:aa) (h:S0 e c (ab .i64 (d - c)) w R):ai U B' #[e.v,.i c,.i d,.func (.func bj) #[] #[]] w R:=aE X bf h
end oF
namespace uY
noncomputable abbrev X:Fx:=⟨U,Tryz.f196,[(3,ls [0,1,2,3,4,5,6,7,8,9,10,11,12,13,14,15,16,17,18,19,20,21]),(5,ls [0,1,2,3,4,5,6,7,8,9,10,11,12,13,14,15]),(6,ls [0,1,2,3,4,5,6,7,8,9,10,11,12,13,14,15,16,17,18,19,20,21,22,23])],[]⟩
abbrev P0:Ps:=[(0,.v [.s]),(2,.v [.I]),(3,.v [.I]),(4,.v [.g bj 0 0]),(10,.v [.I])]
def L0 (c:O) (e d h:Int) (w:I) (R:aa):Prop:=br P0 0 (X.Sem (ak [0,1,1])) c e d h w R
noncomputable def aZ:=bD X (ak [0,1,1]) P0 L0::[]
abbrev P1:Ps:=[(0,.v [.s]),(2,.v [.I]),(3,.v [.I]),(4,.v [.g bj 0 0]),(10,.v [.I]),(11,.v [.I])]
abbrev S2 (e:O) (q c h d:Int) (w:I) (R:aa):Prop:=
 bY w λj=>aw e (ab .i64 (c+h)) λu=>aV j (u.add (ag (ab .i64 (c+h)) *4)) λx y z A=>aw e (ab .i64 (c+d)) λB=>aV j (B.add (ag (ab .i64 (c+d)) *4)) λC D E F=>di bj #[.agg #[.i x,.int .u8 y,.int .u8 z,A.v],.agg #[.i C,.int .u8 D,.int .u8 E,F.v]] j λt56 n=>Y (!(ah (t56<0))) (R (V (.tuple #[])) n) (bY n λk=>aw e (ab .i64 (c+d)) λG=>aV k (G.add (ag (ab .i64 (c+d)) *4)) λH J K L=>aw e (ab .i64 (c+h)) λM=>aV k (M.add (ag (ab .i64 (c+h)) *4)) λN P Q S=>aw e (ab .i64 (c+h)) λT=>cJ k (T.add (ag (ab .i64 (c+h)) *4)) (.i H) (.int .u8 J) (.int .u8 K) (L.v) λw7=>aw e (ab .i64 (c+d)) λW=>cJ w7 (W.add (ag (ab .i64 (c+d)) *4)) (.i N) (.int .u8 P) (.int .u8 Q) (S.v) λZ=>L0 e q c d Z R)
noncomputable def bm:=aC X aZ (ak [3,3,1]) P1 S2::aZ
abbrev S1 (e:O) (h d k c:Int) (w:I) (R:aa):Prop:=
 Y (ah (c>=h)) (R (V (.tuple #[])) w) (bY w λj=>Y (ah ((ab .i64 (c+1))<h)) (aw e (ab .i64 (d+c)) λu=>aV j (u.add (ag (ab .i64 (d+c)) *4)) λx y z A=>(0:Int)<=(ab .i64 ((ab .i64 (d+c))+1))/\(ab .i64 ((ab .i64 (d+c))+1))<((e.n:Nat):Int)/\ct e.a λB=>aV j (B.add (ag (ab .i64 ((ab .i64 (d+c))+1)) *4)) λC D E F=>di bj #[.agg #[.i x,.int .u8 y,.int .u8 z,A.v],.agg #[.i C,.int .u8 D,.int .u8 E,F.v]] j λt38 q=>Y (ah (t38<0)) (S2 e h d k (ab .i64 (c+1)) q R) (S2 e h d k c q R)) (S2 e h d k c j R))
noncomputable def bg:=aC X bm (ak [1,3,1]) P1 S1::bm
def b5:∀(d:O) (h e c:Int) (w:I) (R:aa) (j:S1 d h e c (ab .i64 ((ab .i64 (2 *c))+1)) w R),L0 d h e c w R:=mp (bF (X:=X) bg (ak [0,1,1]) P0)
def ok (c:O) (h e d:Int) (w:I) (R:aa) (j:L0 c e d h w R):ai U xI #[c.v,.i h,.i e,.i d,.func (.func bj) #[] #[]] w R:=aE X bg j
end uY
namespace ny
noncomputable abbrev X:Fx:=⟨U,Tryz.f184,[(10,ls [0,1,2,3,4,5,6,7,8,9,10,11,12,13,14,15,16,17,18,19])],[]⟩
abbrev P0:Ps:=[(0,.v [.s]),(3,.v [.g bj 0 0]),(8,.v [.I]),(9,.v [.I]),(10,.v [.I]),(11,.v [.I])]
def L1 (c:O) (d j e h:Int) (w:I) (R:aa):Prop:=br P0 0 (X.Sem (ak [0,1,1,1,3])) c d j e h w R
noncomputable def cC:=bD X (ak [0,1,1,1,3]) P0 L1::[]
abbrev P1:Ps:=[(0,.v [.s]),(3,.v [.g bj 0 0]),(8,.v [.I]),(9,.v [.I]),(12,.v [.I])]
def L2 (c:O) (d h e:Int) (w:I) (R:aa):Prop:=br P1 0 (X.Sem (ak [0,1,5])) c d h e w R
noncomputable def hJ:=bD X (ak [0,1,5]) P1 L2::cC
def mO:∀(e:O) (c h d:Int) (w:I) (R:aa) (J:Y (ah (d>=0)) (bY w λj=>aw e (ab .i64 (c+d)) λk=>aV j (k.add (ag (ab .i64 (c+d)) *4)) λn q u x=>aw e c λy=>aV j (y.add (ag c *4)) λz A B C=>aw e c λD=>cJ j (D.add (ag c *4)) (.i n) (.int .u8 q) (.int .u8 u) (x.v) λH=>aw e (ab .i64 (c+d)) λE=>cJ H (E.add (ag (ab .i64 (c+d)) *4)) (.i z) (.int .u8 A) (.int .u8 B) (C.v) λF=>eX xI #[e.v,.i h,.i d,.i c,.func (.func bj) #[] #[]] F λG=>L2 e c h (ab .i64 (d - 1)) G R) (R (V (.tuple #[])) w)),L2 e c h d w R:=mp (bF (X:=X) hJ (ak [0,1,5]) P1)
def fC:∀(c:O) (d j e h:Int) (w:I) (R:aa) (n:Y (ah (h>=0)) (eX xI #[c.v,.i h,.i e,.i d,.func (.func bj) #[] #[]] w λk=>L1 c d j e (ab .i64 (h - 1)) k R) (L2 c d j (ab .i64 (e - 1)) w R)),L1 c d j e h w R:=mp (bF (X:=X) hJ (ak [0,1,1,1,3]) P0)
abbrev S0 (d:O) (e h c:Int) (w:I) (R:aa):Prop:=
 L1 d e h c (ab .i64 (cz (ab .i64 (c - 1)) 2)) w R
noncomputable def bf:=aC X hJ (ak [3]) [(0,.v [.s]),(3,.v [.g bj 0 0]),(8,.v [.I]),(9,.v [.I]),(10,.v [.I])] S0::hJ
def ok (e:O) (c d:Int) (w:I) (R:aa) (h:S0 e c 0 (ab .i64 (d - c)) w R):ai U Cb #[e.v,.i c,.i d,.func (.func bj) #[] #[]] w R:=aE X bf h
end ny
namespace mx
noncomputable abbrev X:Fx:=⟨U,Tryz.f189,[(1,ls [0,1,2,3,4,5,6,7,8,9,10,11,12,13,14,15]),(3,ls [0,1,2,3,4,5,6,7,8,9,10,11,12,13,14,15,16]),(5,ls [0,1,2,3,4,5,6,7,8,9,10,11,12,13,14,15]),(8,ls [0,1,2,3,4,5,6,7,8,9,10,11,12,13,14,15])],[]⟩
abbrev P0:Ps:=[(0,.v [.s]),(1,.v [.I]),(4,.v [.g bj 0 0]),(11,.v [.I]),(12,.v [.I])]
def L0 (d:O) (c e h:Int) (w:I) (R:aa):Prop:=br P0 0 (X.Sem (ak [0,2,3])) d c e h w R
noncomputable def aZ:=bD X (ak [0,2,3]) P0 L0::[]
def L1 (d:O) (c e h:Int) (w:I) (R:aa):Prop:=br P0 0 (X.Sem (ak [0,6,3])) d c e h w R
noncomputable def cC:=bD X (ak [0,6,3]) P0 L1::aZ
def L2 (d:O) (c e h:Int) (w:I) (R:aa):Prop:=br P0 0 (X.Sem (ak [0,2,1,4,3])) d c e h w R
noncomputable def hJ:=bD X (ak [0,2,1,4,3]) P0 L2::cC
abbrev S4 (d:O) (c e h:Int) (w:I) (R:aa):Prop:=
 L0 d c e (ab .i64 (h - 1)) w R
noncomputable def cZ:=aC X hJ (ak [5,4,3]) P0 S4::hJ
abbrev S3 (e:O) (j c d:Int) (w:I) (R:aa):Prop:=
 Y (ah (c>d)) (R (V (.i c)) w) (bY w λh=>aw e d λk=>aV h (k.add (ag d *4)) λn q u x=>aw e c λy=>aV h (y.add (ag c *4)) λz A B C=>aw e c λD=>cJ h (D.add (ag c *4)) (.i n) (.int .u8 q) (.int .u8 u) (x.v) λF=>aw e d λE=>cJ F (E.add (ag d *4)) (.i z) (.int .u8 A) (.int .u8 B) (C.v) λG=>S4 e j (ab .i64 (c+1)) d G R)
noncomputable def bt:=aC X cZ (ak [2,4,3]) P0 S3::cZ
def mO:∀(e:O) (d h c:Int) (w:I) (R:aa) (E:bY w λj=>Y (ah (h<=c)) (aw e d λn=>aV j (n.add (ag d *4)) λq u x y=>aw e c λz=>aV j (z.add (ag c *4)) λA B C D=>di bj #[.agg #[.i q,.int .u8 u,.int .u8 x,y.v],.agg #[.i A,.int .u8 B,.int .u8 C,D.v]] j λt63 k=>Y (ah (t63<0)) (L2 e d h (ab .i64 (c - 1)) k R) (S3 e d h c k R)) (S3 e d h c j R)),L2 e d h c w R:=mp (bF (X:=X) bt (ak [0,2,1,4,3]) P0)
def fC:∀(e:O) (d c h:Int) (w:I) (R:aa) (E:bY w λj=>Y (ah (c<=h)) (aw e d λn=>aV j (n.add (ag d *4)) λq u x y=>aw e c λz=>aV j (z.add (ag c *4)) λA B C D=>di bj #[.agg #[.i q,.int .u8 u,.int .u8 x,y.v],.agg #[.i A,.int .u8 B,.int .u8 C,D.v]] j λt44 k=>Y (!(ah (t44<0))) (L1 e d (ab .i64 (c+1)) h k R) (L2 e d c h k R)) (L2 e d c h j R)),L1 e d c h w R:=mp (bF (X:=X) bt (ak [0,6,3]) P0)
def b5:∀(d:O) (c e h:Int) (w:I) (R:aa) (j:L1 d c e h w R),L0 d c e h w R:=mp (bF (X:=X) bt (ak [0,2,3]) P0)
def ok (d:O) (c j e:Int) (w:I) (R:aa) (k:bY w λh=>aw d e λn=>aV h (n.add (ag e *4)) λq u x y=>aw d c λz=>aV h (z.add (ag c *4)) λA B C D=>aw d c λE=>cJ h (E.add (ag c *4)) (.i q) (.int .u8 u) (.int .u8 x) (y.v) λG=>aw d e λF=>cJ G (F.add (ag e *4)) (.i A) (.int .u8 B) (.int .u8 C) (D.v) λH=>L0 d c (ab .i64 (c+1)) (ab .i64 (j - 1)) H R):ai U Ce #[d.v,.i c,.i j,.i e,.func (.func bj) #[] #[]] w R:=aE X bt k
end mx
structure Sq (s:O) (l:List J) (w w1:I) (ts:List J):Prop where
 H:EK s l w w1 ts
 p:ts.Perm l
namespace Sq
variable {s:O} {l ts:List J} {w w1:I}
def len (c:Sq s l w w1 ts):ts.length=l.length:=c.p.length_eq
def n (d:Sq s l w w1 ts):s.n=l.length:=by have e:=(d.H.get 0:aS w1 aK 4 s (ts.flatMap J.c)).len;rw [rf J.c 4 J.mX] at e;have:=d.len;omega
def dr (d:Sq s l w w1 ts) {K:I->Prop} (h:∀c,Sq s l w c ts->K c):bY w1 K:=d.H.dr λc e=>h c ⟨e,d.p⟩
def fr (c:Sq s l w w1 ts):Fr (·∈ay s) w w1:=c.H.fr
def cmp (c:Sq s l w w1 ts) (N:J.aU l<=1000000) {i j:Nat} {x y:J} {X e:Int} (hi:ts[i]? =some x) (k:ts[j]? =some y) (G:X=(i:Int)) (L:e=(j:Int)) {K:Int->I->Prop} (M:∀d,Sq s l w d ts->K (a8 x.rx y.rx) d):
  aw s X λp=>aV w1 (p.add (ag X *4)) λu z A B=>aw s e λP=>aV w1 (P.add (ag e *4)) λC D E F=>di bj #[.agg #[.i u,.int .u8 z,.int .u8 A,B.v],.agg #[.i C,.int .u8 D,.int .u8 E,F.v]] w1 K:=by have n:x∈l:=c.p.mem_iff.1 (aI hi);have O:y∈l:=c.p.mem_iff.1 (aI k);have h:J.Ps w1 l:=c.H.getD 0;refine c.H.el 0 i G hi (c.H.el 0 j L k ?_);refine c.H.call (vT x y w1 (bH (J.dV n) N) (h.mem n) (h.mem O)) ?_;rintro _ d rfl q;exact ⟨_,rfl,M d ⟨q,c.p⟩⟩
def swap (u:Sq s l w w1 ts) {i j:Nat} {x y:J} {X c:Int} (hi:ts[i]? =some x) (e:ts[j]? =some y) (n:X=(i:Int)) (q:c=(j:Int)) {K:I->Prop} (O:∀k,Sq s l w k ((ts.set j x).set i y)->K k):
  bY w1 λw1=>aw s X λp=>aV w1 (p.add (ag X *4)) λB C D E=>aw s c λh=>aV w1 (h.add (ag c *4)) λF G L M=>
   aw s c λh=>cJ w1 (h.add (ag c *4)) (.i B) (.int .u8 C) (.int .u8 D) (E.v) λQ=>aw s X λp=>cJ Q (p.add (ag X *4)) (.i F) (.int .u8 G) (.int .u8 L) (M.v) K:=by have S:=(cD.1 hi).1;have N:=(cD.1 e).1;refine u.H.dr λk d=>d.el 0 i n hi (d.el 0 j q e (d.sZ 0 j (t:=x) q N λT z=>?_));refine z.sZ 0 i (t:=y) (ts:=ts.set j x) n (by rw [List.length_set];omega) λP A=>O P ⟨A,?_⟩;exact (K8 e hi).trans u.p
end Sq
def Sg (a b:Nat) (ts d:List J):Prop:=d.Perm ts/\∀c,c<a\/b<=c->d[c]? =ts[c]?
namespace Sg
variable {a b:Nat} {ts us vs:List J}
def refl (a b:Nat) (ts:List J):Sg a b ts ts:=⟨.refl _,λ_ _=>rfl⟩
def trans (c:Sg a b ts us) (k:Sg a b us vs):Sg a b ts vs:=⟨k.1.trans c.1,λe d=>(k.2 e d).trans (c.2 e d)⟩
def wide (e:Sg a b ts us) {c d:Nat} (j:c<=a) (k:b<=d):Sg c d ts us:=⟨e.1,λh n=>e.2 h (by omega)⟩
def len (c:Sg a b ts us):us.length=ts.length:=c.1.length_eq
def swap {i j:Nat} {x y:J} (hi:ts[i]? =some x) (c:ts[j]? =some y) (d:a<=i/\i<b/\a<=j/\j<b):Sg a b ts ((ts.set j x).set i y):=
 ⟨K8 c hi,λh e=>by rw [lJ c hi,af (by omega),af (by omega)]⟩
def TV (c:Sg a b ts us) (q:a<=b) (u:b<=ts.length):((us.take b).drop a).Perm ((ts.take b).drop a):=by
 have w:=c.len;have k:us.take a=ts.take a:=by
  apply List.ext_getElem?;intro h;rw [kc,kc];split
  .exact c.2 h (by omega)
  .rfl
 have n:us.drop b=ts.drop b:=by apply List.ext_getElem?;intro h;rw [lD,lD];exact c.2 _ (by omega)
 have d:∀l:List J,l=l.take a++((l.take b).drop a++l.drop b):=λl=>by
  have j:l.take a=(l.take b).take a:=by rw [List.take_take];congr 1;omega
  rw [<-cN,j,uz,uz]
 have e:=c.1;rw [d us,d ts,k,n] at e;exact (List.perm_append_right_iff _).1 ((List.perm_append_left_iff _).1 e)
def mem (d:Sg a b ts us) (e:a<=b) (h:b<=ts.length) {j:Nat} {y:J} (n:us[j]? =some y) (w:a<=j) (x:j<b):∃i,a<=i/\i<b/\ts[i]? =some y:=by have q:y∈(us.take b).drop a:=aI (i:=j - a) (by rw [lD,kc,aq (by omega),show a+(j - a)=j by omega];exact n);have u:=(d.TV e h).mem_iff.1 q;obtain ⟨i,c⟩:=List.mem_iff_getElem?.1 u;have k:=(cD.1 c).1;simp at k;rw [lD,kc,aq (by omega)] at c;exact ⟨a+i,by omega,by omega,c⟩
end Sg
def kr (ts:List J) (i j:Nat):Prop:=∀c d,ts[i]? =some c->ts[j]? =some d->a8 c.rx d.rx<=0
def i3 (a b:Nat) (ts:List J):Prop:=∀i c,a<=i->i<c->c<b->kr ts i c
def k2 (a b:Nat) (ts:List J):Prop:=∀c,a<=c->c<b->0<a->kr ts (a - 1) c
def pq {x y z:Rx} (c:a8 x y<=0) (d:a8 y z<=0):a8 x z<=0:=(sT x y z).le c d
def oq {x y:Rx} (c:¬a8 x y<0):a8 y x<=0:=by have:=i7 x y;omega
def k2.sg {a b:Nat} {ts d:List J} (e:k2 a b ts) (k:Sg a b ts d) (q:b<=ts.length):k2 a b d:=by intro B j n h z A c w;obtain ⟨i,x,y,u⟩:=k.mem (by omega) q w j n;rw [k.2 _ (by omega)] at c;exact e i x y h z A c u
def Ub {ts:List J} (d:i3 0 ts.length ts):jY (ts.map J.rx):=by unfold jY;rw [List.pairwise_map,List.pairwise_iff_getElem];intro i j e c h;exact d i j (by omega) h c _ _ (bc e) (bc c)
section
variable {s:O} {l ts:List J} {w w1:I}
def Sq.lt (c:Sq s l w w1 ts) (h:J.aU l<=1000000):ts.length<=1000000/\s.n=ts.length:=by have:=J.fi l;have d:=c.n;have e:=c.len;omega
def dS {ts:List J} {i:Nat} (c:i<ts.length):∃d,ts[i]? =some d:=⟨ts[i],bc c⟩
def SO (h:Sq s l w w1 ts) (B:J.aU l<=1000000) {a b:Nat} (F:a<b) (G:b<=ts.length):
  ai U Cf #[s.v,.i (a:Int),.i (b:Int),.func (.func bj) #[] #[]] w1 λr e=>r=V (.tuple #[])/\∃c,Sq s l w e c/\Sg a b ts c:=by
 have M:=(h.lt B).1;have loop:∀(D i j:Nat) (c:List J) (d:I),j - i<D->a<=i->i<=j+1->j<b->Sq s l w d c->Sg a b ts c->uW.L0 s (i:Int) (j:Int) d λr e=>r=V (.tuple #[])/\∃c,Sq s l w e c/\Sg a b ts c:=by
  intro D;induction D with
  |zero=>intro i j c d z;omega
  |succ D C=>
   intro i j c d z H K L k g;have hlen:=g.len;refine uW.b5 _ _ _ _ _ (aR (λA=>?_) (λA=>⟨rfl,c,k,g⟩));obtain ⟨O,q⟩:=dS (ts:=c) (i:=j) (by omega);obtain ⟨N,n⟩:=dS (ts:=c) (i:=i) (by omega);refine k.swap q n rfl rfl λE y=>?_;show uW.L0 _ _ _ _ _;have x:ab .i64 ((j:Int) - 1)=((j - 1:Nat):Int):=by rw [a4 _ (by omega)];omega
   rw [bw _ (by omega),x];exact C (i+1) (j - 1) _ E (by omega) (by omega) (by omega) (by omega) y (g.trans (Sg.swap q n (by omega)))
 have u:ab .i64 ((b:Int) - 1)=((b - 1:Nat):Int):=by rw [a4 _ (by omega)];omega
 refine uW.ok _ _ _ w1 _ ?_;rw [u];exact loop (b - 1 - a+1) a (b - 1) ts w1 (by omega) (bB _) (by omega) (by omega) h (Sg.refl _ _ _)
def Sq.tree (d:Sq s l w w1 ts):(mw s ts).P w1:=by unfold mw J.P;exact ⟨(d.H.get 0:aS w1 aK 4 s (ts.flatMap J.c)).bz,Ja (d.H.getD 0) d.p⟩
def Sq.bA (c:Sq s l w w1 ts) {d:I} (f:ao w1 d):Sq s l w d ts:=⟨c.H.bA f,c.p⟩
def Jn {bs:Nat} (n:J.aU ts<=1000000) (d:bs∉(mw s ts).fp) (a b c k:Nat) (hk:k<=90) (G:a<ts.length) (H:b<ts.length) (K:c<ts.length) {w:I} (j:(mw s ts).P w) (L:j3 bs k w):
  ai U xF #[s.v,.i (a:Int),.i (b:Int),.i (c:Int),.pointer (some (aj bs)),.func (.func bj) #[] #[]] w λr y=>(∃m x:Nat,r=V (.i (m:Int))/\(m=a\/m=b\/m=c)/\x<=k+3/\j3 bs x y)/\Fr (·=bs) w y:=by have q:∀z∈(mw s ts).fp,¬z=bs:=λz Q E=>d (E▸Q);refine KL.ok _ _ _ _ _ w _ ((zN n d a b k (by omega) G H j L).mono ?_);rintro _ w1 ⟨⟨A,B,S,rfl,h1,aa,M⟩,e⟩;refine ⟨_,_,rfl,(zN n d B c S (by omega) (by omega) K (Ed j e q) M).mono ?_⟩;rintro _ w2 ⟨⟨C,Z,T,rfl,h2,ab,N⟩,u⟩;refine ⟨_,_,rfl,(zN n d A C T (by omega) (by omega) (by omega) (Ed (Ed j e q) u q) N).mono ?_⟩;rintro _ w3 ⟨⟨Y,D,W,rfl,h3,ac,O⟩,F⟩;exact ⟨_,_,rfl,⟨D,W,rfl,by omega,by omega,O⟩,(e.trans u λ_ _ h=>h).trans F λ_ _ h=>h⟩
def SN (e:Sq s l w w1 ts) (S:J.aU l<=1000000) {a b:Nat} (af:a+12<b) (hb:b<=ts.length):
  ai U Ca #[s.v,.i (a:Int),.i (b:Int),.func (.func bj) #[] #[]] w1 λr x=>∃(p:Nat) (k:Int),r=V (.tuple #[.i (p:Int),.i k])/\a<=p/\p<b/\Sq s l w x ts:=by
 have hl:=(e.lt S).1;have T:J.aU ts<=1000000:=by rw [D0 e.p];exact S
 have E:=e.tree;obtain ⟨L,hL⟩:∃L,L=b - a:=⟨_,rfl⟩;have eL:ab .i64 ((b:Int) - (a:Int))=(L:Int):=by rw [a4 _ (by omega)];omega
 have eq:∀k:Nat,k<=3->ab .i64 ((a:Int)+ab .i64 (ab .i64 (cz (L:Int) 4) *(k:Int)))=((a+L / 4 *k:Nat):Int):=λk G=>by
  have h:cz (L:Int) 4=((L / 4:Nat):Int):=rfl;have O:L / 4 *k<=L:=bH (Nat.mul_le_mul_left _ (by omega:k<=4)) (Nat.div_mul_le_self L 4);rw [h,a4 ((L / 4:Nat):Int) (by omega)];have A:((L / 4:Nat):Int) *(k:Int)=((L / 4 *k:Nat):Int):=by rw [Int.natCast_mul]
  rw [A,a4 ((L / 4 *k:Nat):Int) (by omega),a4 _ (by omega)];omega
 have q1:=eq 1 (by omega);have q2:=eq 2 (by omega);have q3:=eq 3 (by omega);refine yx.ok _ _ _ w1 _ ?_;have N:ao w1 (w1.alloc (.cells #[.i 0] bX)):=Fr.alloc _ _ _;have P:j3 w1.heap.size 0 (w1.alloc (.cells #[.i 0] bX)):=gJ w1 _;have F:w1.heap.size∉(mw s ts).fp:=λe=>absurd (J.lt _ E _ e) (by omega);have nd:∀M∈(mw s ts).fp,¬M=w1.heap.size:=λM Q z=>F (z▸Q);have fin:∀{c:I} {p k:Nat},a<=p->p<b->j3 w1.heap.size k c->ao w1 c->yx.S5 (aj w1.heap.size) (p:Int) c λr x=>∃(p:Nat) (k:Int),r=V (.tuple #[.i (p:Int),.i k])/\a<=p/\p<b/\Sq s l w x ts:=λ{c p k} C D q f=>
  ⟨(k:Int),FV q,bE (λ_=>⟨p,1,rfl,C,D,e.bA f⟩) λ_=>bE (λ_=>⟨p,2,rfl,C,D,e.bA f⟩) λ_=>⟨p,0,rfl,C,D,e.bA f⟩⟩
 have new:∀{c d:I},ao w1 c->Fr (·=w1.heap.size) c d->ao w1 d:=λf g=>f.trans g λM Q z=>by subst z;omega
 rw [eL];show Y (ah ((L:Int)>=8)) (Y (ah ((L:Int)>=50)) _ _) _;have ac:ab .i64 ((a:Int)+ab .i64 (ab .i64 (cz (L:Int) 4) *1))=((a+L / 4 *1:Nat):Int):=q1;have ad:ab .i64 ((a:Int)+ab .i64 (ab .i64 (cz (L:Int) 4) *2))=((a+L / 4 *2:Nat):Int):=q2;have ae:ab .i64 ((a:Int)+ab .i64 (ab .i64 (cz (L:Int) 4) *3))=((a+L / 4 *3:Nat):Int):=q3;rw [ac,ad,ae];have W:∀{c:I} {i j k n:Nat},n<=60->a<=i->i<b->a<=j->j<b->a<=k->k<b->j3 w1.heap.size n c->ao w1 c->yx.S4 s (aj w1.heap.size) (i:Int) (j:Int) (k:Int) c λr x=>∃(p:Nat) (k:Int),r=V (.tuple #[.i (p:Int),.i k])/\a<=p/\p<b/\Sq s l w x ts:=by intro c i j k n hn i1 i2 j1 j2 k1 k2 q f;refine (Jn T F i j k n (by omega) (by omega) (by omega) (by omega) (E.bA f) q).mono ?_;rintro _ d ⟨⟨m,u,rfl,O,G,H⟩,B⟩;exact ⟨_,rfl,fin (by omega) (by omega) H (new f B)⟩
 have y:∀{c:I} {i n:Nat} {K:Int->I->Prop},n<=50->a+1<=i->i+1<b->j3 w1.heap.size n c->ao w1 c->(∀(m u:Nat) (d:I),a<=m->m<b->u<=n+3->j3 w1.heap.size u d->ao w1 d->K (m:Int) d)->di uc #[s.v,.i (i:Int),.pointer (some (aj w1.heap.size)),.func (.func bj) #[] #[]] c K:=by
  intro c i n K hn i1 i2 q f hK;have h:ab .i64 ((i:Int) - 1)=((i - 1:Nat):Int):=by rw [a4 _ (by omega)];omega
  refine KK.ok _ _ _ c _ ?_;rw [h,bw _ (by omega)];refine (Jn T F (i - 1) i (i+1) n (by omega) (by omega) (by omega) (by omega) (E.bA f) q).mono ?_;rintro _ d ⟨⟨m,u,rfl,O,G,H⟩,B⟩;exact ⟨_,rfl,_,rfl,hK m u d (by omega) (by omega) G H (new f B)⟩
 have d1:3<=L / 4:=by omega
 have d2:L / 4 *4<=L:=Nat.div_mul_le_self L 4;refine bd (aW (by omega)) (aR (λaa=>?_) (λaa=>W (by omega) (by omega) (by omega) (by omega) (by omega) (by omega) (by omega) P N));refine y (by omega) (by omega) (by omega) P N λm1 k1 c Z a2 ag c1 g1=>y (by omega) (by omega) (by omega) c1 g1 λm2 k2 d b1 b2 ak c2 g2=>y (by omega) (by omega) (by omega) c2 g2 λm3 k3 w4 h A al c3 g3=>W (by omega) Z a2 b1 b2 h A c3 g3
end
section
variable {s:O} {l ts:List J} {w w1:I}
def Sq.of (d:Sq s l w w1 ts) {n:I} {k:List J} (y:aS n aK 4 s (k.flatMap J.c)) (z:k.Perm ts) (f:Fr (·∈ay s) w1 n):Sq s l w n k:=by
 have q:∀b∈J.a' l,¬b∈ay s:=λb j x=>d.H.dj _ (fJ.2 rfl) b (aT.2 j) _ (fJ.2 rfl) x;refine ⟨⟨d.H.fr.trans f λ_ _ d=>d,λh e=>?_,λh e=>?_,λh e=>?_,?_,λh e b j A u=>?_⟩,z.trans d.p⟩
 .cases fJ.1 e;exact y
 .cases fJ.1 e;exact Sz (d.H.getD 0) f q
 .cases fJ.1 e;exact d.H.new (.row aK 4 s (ts.flatMap J.c)) (fJ.2 rfl)
 .exact d.H.nd
 .cases fJ.1 u;exact d.H.dj h e b j (.row aK 4 s (ts.flatMap J.c)) (fJ.2 rfl)
def Sq.dj (d:Sq s l w w1 ts):∀c∈ay s,c∉J.a' ts:=λc h e=>
 d.H.dj _ (fJ.2 rfl) c (aT.2 (PV d.p e)) _ (fJ.2 rfl) h
def Sg.RA {A X d Z:List J} (e:d.Perm X):Sg A.length (A.length+X.length) (A++X++Z) (A++d++Z):=by
 have h:=e.length_eq;refine ⟨(e.append_left A).append_right Z,λj c=>?_⟩;rw [cN,cN];rcases c with c|c
 .rw [yf c,yf c]
 .rw [rP (by omega),rP (by omega),rP (by omega),rP (by omega),h]
def Ud {A e Z:List J} (h:jY (e.map J.rx)):i3 A.length (A.length+e.length) (A++e++Z):=by
 intro i n q u w x y c d;unfold jY at h;rw [List.pairwise_map,List.pairwise_iff_getElem] at h;rw [cN,rP (by omega),yf (by omega)] at c d;obtain ⟨j,c⟩:=cD.1 c;obtain ⟨k,d⟩:=cD.1 d;have:=h (i - A.length) (n - A.length) j k (by omega)
 rwa [c,d] at this
def SJ (e:Sq s l w w1 ts) (E:J.aU l<=1000000) {a b:Nat} (K:a<=b) (L:b<=ts.length):
  ai U xE #[s.v,.i (a:Int),.i (b:Int),.func (.func bj) #[] #[]] w1 λr G=>r=V (.tuple #[])/\∃k,Sq s l w G k/\Sg a b ts k/\i3 a b k:=by
 have F:J.aU ts<=1000000:=by rw [D0 e.p];exact E
 obtain ⟨c,u⟩:∃c,c=ts.take a:=⟨_,rfl⟩;obtain ⟨X,x⟩:∃X,X=(ts.take b).drop a:=⟨_,rfl⟩;obtain ⟨d,D⟩:∃d,d=ts.drop b:=⟨_,rfl⟩;have h:c.length=a:=by rw [u,dL];omega
 have j:c.length+X.length=b:=by rw [h,x,List.length_drop,dL];omega
 have q:ts=c++X++d:=by
  have B:c=(ts.take b).take a:=by rw [u,List.take_take];congr 1;omega
  rw [B,x,uz,D,uz]
 have n:=N7 s ts w1 F (e.H.get 0) (Ja (e.H.getD 0) e.p) e.dj c X d q b j.symm;rw [h] at n;refine n.mono ?_;rintro _ M ⟨⟨rfl,C⟩,z⟩;have y:=T6 X;have g:Sg a b ts (c++fO X++d):=by have:=Sg.RA (A:=c) (Z:=d) y;rw [<-q,j,h] at this;exact this
 refine ⟨rfl,_,e.of C g.1 z,g,?_⟩;have:=Ud (A:=c) (Z:=d) (T4 X);rw [y.length_eq,j,h] at this;exact this
end
section
variable {s:O} {l ts us:List J} {w w1 w2:I}
def Sq.base (c:Sq s l w w1 ts):Sq s l w1 w1 ts:=⟨⟨Fr.refl _ _,c.H.own,c.H.rd,λh e b d=>.inr (by cases fJ.1 e;exact d),c.H.nd,c.H.dj⟩,c.p⟩
def Sq.comp (c:Sq s l w w1 ts) (k:Sq s l w1 w2 us):Sq s l w w2 us:=⟨⟨c.H.fr.trans k.H.fr λ_ _ c=>c,k.H.own,k.H.rd,λh e b d=>.inr (by cases fJ.1 e;exact d),k.H.nd,k.H.dj⟩,k.p⟩
def Sq.AL (c:Sq s l w w1 ts) {bs:Nat} (n:bs∉ay s) (q:bs∉J.a' l) (u:w.heap.size<=bs) (f:Fr (·=bs) w1 w2):Sq s l w w2 ts:=by
 refine ⟨⟨c.H.fr.trans f λy x d=>by omega,λd e=>?_,λd e=>?_,c.H.new,c.H.nd,c.H.dj⟩,c.p⟩
 .refine d.st w1 w2 (λb k j=>f.ck b j λh=>?_) (c.H.own d e);cases fJ.1 e;exact n (h▸k)
 .refine d.st w1 w2 (λb k j=>f.ck b j λh=>?_) (c.H.rd d e);cases fJ.1 e;exact q (h▸aT.1 k)
end
def UQ {t:ByteArray} {m:Nat} {K:UInt8->Prop} (d:(List.range 256).all (λm=>match t[m]? with |some b=>Nat.ble (2^b.toNat) (2 *m)||Nat.beq m 0|none=>false)=true) (j:m<256) (k:0<m) (h:∀b:UInt8,2^b.toNat<=2 *m->K b):∃b:UInt8,t[m]? =some b/\K b:=by
 have:=f'.1 d m (List.mem_range.2 j);split at this
 .rename_i b e;refine ⟨b,e,h b ?_⟩;rcases (Bool.or_eq_true _ _).mp this with c|c
  .exact Nat.le_of_ble_eq_true c
  .have:=Nat.eq_of_beq_eq_true c;omega
 .cases this
def NL (x:Nat) (d:0<x) (L:x<4294967296) (w:I):ai U tT #[.u (x:Int)] w λr z=>∃t:Nat,r=V (.i (t:Int))/\2^t<=2 *x/\z=w:=by
 let e:aa:=λr z=>∃t:Nat,r=V (.i (t:Int))/\2^t<=2 *x/\z=w
 have D:∀(y n:Nat),0<y->y<256->n<=100->y *2^n<=x->m8.S2 (y:Int) (n:Int) w e:=by
  intro y n d B G h;have E:ab .u8 (y:Int)=(y:Int):=by rw [IntKind.wrap_u8];omega
  show (0:Int)<=ab .u8 (y:Int)/\_;rw [E];refine ⟨by omega,?_⟩;refine UQ (by kernel_rfl) (show y<256 from B) (show 0<y from d) λb F=>?_;have K:=b.toNat_lt;have H:ab .i64 ((n:Int)+ab .i64 ((b.toNat:Nat):Int))=((n+b.toNat:Nat):Int):=by rw [a4 ((b.toNat:Nat):Int) (by omega),a4 _ (by omega)];omega
  refine ⟨n+b.toNat,?_,?_,rfl⟩
  .rw [H]
  .rw [Nat.pow_add]
   calc 2^n *2^b.toNat<=2^n *(2 *y):=Nat.mul_le_mul_left _ F
    _=2 *(y *2^n):=by rw [Nat.mul_comm y,Nat.mul_left_comm]
    _<=2 *x:=Nat.mul_le_mul_left _ h
 have A:∀(y k:Nat),Int.fdiv (y:Int) ((k:Nat):Int)=((y / k:Nat):Int):=λy k=>by rw [Int.fdiv_eq_ediv_of_nonneg _ (by omega)];rfl
 have C:∀(y n:Nat),0<y->y<65536->n<=50->y *2^n<=x->m8.S1 (y:Int) (n:Int) w e:=by
  intro y n d B G h;refine aR (λc=>?_) (λc=>D y n d (by omega) (by omega) h);have j:ab .i64 ((n:Int)+8)=((n+8:Nat):Int):=by rw [a4 _ (by omega)];omega
  have q:Int.fdiv (y:Int) (2^8)=((y / 256:Nat):Int):=A y 256;rw [j,q];refine D (y / 256) (n+8) (by omega) (by omega) (by omega) (bH ?_ h);rw [Nat.pow_add,Nat.mul_comm (2^n),<-Nat.mul_assoc];exact Nat.mul_le_mul_right _ (Nat.div_mul_le_self y 256)
 have J:m8.S0 (x:Int) ((0:Nat):Int) w e:=by
  refine aR (λc=>?_) (λc=>C x 0 d (by omega) (by omega) (by omega));have j:ab .i64 (((0:Nat):Int)+16)=((16:Nat):Int):=by rw [a4 _ (by omega)];rfl
  have q:Int.fdiv (x:Int) (2^16)=((x / 65536:Nat):Int):=A x 65536;rw [j,q];exact C (x / 65536) 16 (by omega) (by omega) (by omega) (Nat.div_mul_le_self x 65536)
 refine Bi.ok _ w _ ((m8.ok _ w e (a9 (a0 (by omega)) J)).mono ?_);rintro _ M ⟨t,rfl,c,rfl⟩;exact ⟨_,rfl,t,rfl,c,rfl⟩
def Od (x:Nat) (j:0<x) (y:x<=1000000) (w:I):ai U xG #[.i (x:Int)] w λr n=>∃m:Nat,r=V (.u (m:Int))/\0<m/\m<=2 *x/\n=w:=by
 refine KM.ok _ w _ ?_;have e:ab .u64 (x:Int)=(x:Int):=IntWalk.u64_in _ (by omega);rw [e];refine (NL x j (by omega) w).mono ?_;rintro _ z ⟨t,rfl,d,rfl⟩;have q:t<64:=by
  by_cases k:t<64
  .exact k
  .have:2^64<=2^t:=Nat.pow_le_pow_right (by omega) (by omega);omega
 have c:min (ag (t:Int)) (IntKind.bits .u64)=t:=by show min t 64=t;omega
 have h:ab .u64 (1 *2^t)=((2^t:Nat):Int):=by
  have:(1 *2^t:Int)=((2^t:Nat):Int):=by rw [Int.one_mul];exact (Int.natCast_pow 2 t).symm
  rw [this];clear this c;generalize 2^t=p at d ⊢;exact IntWalk.u64_in _ (by omega)
 refine ⟨_,rfl,by omega,2^t,?_,Nat.two_pow_pos t,d,rfl⟩;rw [c,h]
def M9 (t:Int) {m:Nat} (h:0<m) (e:m<4294967296):∃k:Nat,k<m/\iG .u64 t (ab .u64 ((m:Int) - 1))=(k:Int):=by
 have c:ab .u64 ((m:Int) - 1)=((m - 1:Nat):Int):=by rw [IntWalk.u64_in _ (by omega)];omega
 rw [c];unfold iG;have d:(eJ (IntKind.bits .u64) t&&& eJ (IntKind.bits .u64) ((m - 1:Nat):Int)).toNat<=m - 1:=by show (eJ 64 t&&& eJ 64 ((m - 1:Nat):Int)).toNat<=_;rw [BitVec.toNat_and,BitVec.ofInt_natCast,BitVec.toNat_ofNat,Nat.mod_eq_of_lt (by omega)];exact Nat.and_le_right
 exact ⟨_,by omega,IntWalk.u64_in _ (by omega)⟩
def ib (bs:Nat) (u:Int) (w:I):Prop:=w.heap[bs]? =some (.cells #[.u u] yN (0,0))
section
variable {bs:Nat} {u v:Int} {w w':I}
def ib.ld (c:ib bs u w):w.cell? (aj bs)=some (.u u):=by
 have:=cellAt (p:=aj bs) (i:=0) (v:=.u u) c rfl rfl
 rwa [hf] at this
def ib.fr {M:Nat->Prop} (c:ib bs u w) (f:Fr M w w') (d:¬M bs):ib bs u w':=by unfold ib at c ⊢;rw [f.ck bs (iK c) d];exact c
def ib.st (j:ib bs u w) {K:I->Prop} (k:∀w',ib bs v w'->Fr (·=bs) w w'->K w'):av w (aj bs) (.u v) K:=by obtain ⟨c,d,e,h⟩:=pY j 0 (by simp) (.u v);rw [hf] at c d e h;exact ⟨c,d,k _ (by unfold ib;rw [e];rfl) h⟩
def ib.dr (c:ib bs u w):ib bs u w.drew:=c.fr (M:=F0) (Fr.drew _ w) id
def OB (d:ib bs u w):ai U Cg #[.pointer (some (aj bs))] w λr w'=>∃t:Int,r=V (.u t)/\ib bs t w'/\Fr (·=bs) w w':=by refine KO.ok _ w _ ?_;refine ⟨_,d.dr.ld,_,d.dr.ld,d.dr.st λy h n=>⟨_,h.dr.ld,_,h.dr.ld,h.dr.st λz j q=>⟨_,j.dr.ld,_,j.dr.ld,j.dr.st λA k x=>⟨_,k.ld,_,rfl,k,?_⟩⟩⟩⟩;have e:∀w:I,Fr (·=bs) w w.drew:=λw=>Fr.drew _ _;have tr:∀{a b c:I},Fr (·=bs) a b->Fr (·=bs) b c->Fr (·=bs) a c:=λf g=>f.trans g λ_ _ d=>d;exact tr (tr (tr (e _) n) (tr (e _) q)) (tr (e _) x)
end
section
variable {s:O} {l ts:List J} {w w1:I}
def SG (n:Sq s l w w1 ts) (hz:J.aU l<=1000000) {a b:Nat} (ag:a<=b) (hb:b<=ts.length):
  ai U B' #[s.v,.i (a:Int),.i (b:Int),.func (.func bj) #[] #[]] w1 λr q=>r=V (.tuple #[])/\∃d,Sq s l w q d/\Sg a b ts d:=by
 have hl:=(n.lt hz).1;obtain ⟨L,hL⟩:∃L,L=b - a:=⟨_,rfl⟩;have Z:ab .i64 ((b:Int) - (a:Int))=(L:Int):=by rw [a4 _ (by omega)];omega
 refine oF.ok _ _ _ w1 _ ?_;rw [Z];refine aR (λh8=>?_) (λ_=>⟨rfl,ts,n,Sg.refl _ _ _⟩);have S:cz (L:Int) 4=((L / 4:Nat):Int):=rfl;have T:ab .i64 (ab .i64 (cz (L:Int) 4) *2)=((L / 4 *2:Nat):Int):=by rw [S,a4 ((L / 4:Nat):Int) (by omega),a4 _ (by omega)];omega
 have z:ab .i64 ((a:Int)+ab .i64 (ab .i64 (cz (L:Int) 4) *2))=((a+L / 4 *2:Nat):Int):=by rw [T,a4 _ (by omega)];omega
 obtain ⟨c,hc⟩:∃c,c=a+L / 4 *2:=⟨_,rfl⟩;rw [<-hc] at z;have W:ab .i64 ((c:Int)+1)=((c+1:Nat):Int):=bw _ (by omega);have Y:ab .i64 ((c:Int) - 1)=((c - 1:Nat):Int):=by rw [a4 _ (by omega)];omega
 obtain ⟨e,N⟩:∃e,e=w1.heap.size:=⟨_,rfl⟩;have hd:e∉(mw s ts).fp:=λh=>absurd (J.lt _ n.tree _ h) (by omega);have x:e∉ay s:=λh=>by have:=(En.row aK 4 s (ts.flatMap J.c)).lt w1 (n.H.own _ (fJ.2 rfl)) e h;omega
 have B:e∉J.a' l:=λh=>by have:=(En.trees l).lt w1 (n.H.rd _ (fJ.2 rfl)) e (aT.2 h);omega
 have E:w.heap.size<=e:=by have:=n.fr.size;omega
 have loop:∀(D idx m:Nat) (u:Int) (d:List J) (j:I),c+2 - idx<D->a<=idx->0<m->m<=2 *L->ib e u j->Sq s l w j d->Sg a b ts d->oF.L1 s (a:Int) (L:Int) (aj e) (m:Int) (idx:Int) j λr q=>r=V (.tuple #[])/\∃d,Sq s l w q d/\Sg a b ts d:=by
  intro D;induction D with
  |zero=>intro idx m u d j hD;omega
  |succ D ih=>
   intro idx m u d j hD hi h C hu F g;have hlen:=g.len;refine oF.fC _ _ _ _ _ _ _ _ ?_;rw [z,W];refine aR (λac=>?_) (λac=>⟨rfl,d,F,g⟩);refine (OB hu).mono ?_;rintro _ y ⟨t,rfl,af,f3⟩;refine ⟨_,rfl,?_⟩;have G:=F.AL x B E f3;obtain ⟨k,hk,ek⟩:=M9 t h (by omega);show oF.S2 _ _ _ _ _ _ (ab .i64 (iG .u64 t (ab .u64 ((m:Int) - 1)))) _ _;rw [ek,a4 ((k:Nat):Int) (by omega)];have Q:∀o:Nat,o<L->oF.S3 s (a:Int) (L:Int) (aj e) (m:Int) (idx:Int) (o:Int) y λr q=>r=V (.tuple #[])/\∃d,Sq s l w q d/\Sg a b ts d:=by
    intro o ho;have A:ab .i64 ((a:Int)+(o:Int))=((a+o:Nat):Int):=by rw [a4 _ (by omega)];omega
    obtain ⟨ah,O⟩:=dS (ts:=d) (i:=a+o) (by omega);obtain ⟨ak,P⟩:=dS (ts:=d) (i:=idx) (by omega);refine G.base.swap O P A rfl λw4 M=>?_;show oF.L1 _ _ _ _ _ _ _ _;rw [bw _ (by omega)];exact ih (idx+1) m t _ w4 (by omega) (by omega) h C (af.fr M.fr x) (G.comp M) (g.trans (Sg.swap O P (by omega)))
   refine aR (λaa=>?_) (λaa=>Q k (by omega));have A:ab .i64 ((k:Int) - (L:Int))=((k - L:Nat):Int):=by rw [a4 _ (by omega)];omega
   rw [A];exact Q (k - L) (by omega)
 have f0:Fr (·=e) w1 (w1.alloc (.cells #[.u 0] yN)):=Fr.alloc _ _ _;have ad:ib e 0 (w1.alloc (.cells #[.u 0] yN)):=N▸gJ w1 _;rw [z,Y,show nb w1=aj e from N▸rfl];refine ad.st (K:=λj=>j2 xG #[.i (L:Int)] j λt21 y=>oF.L1 s (a:Int) (L:Int) (aj e) t21 ((c - 1:Nat):Int) y λr q=>r=V (.tuple #[])/\∃d,Sq s l w q d/\Sg a b ts d) λj ae f2=>?_;refine (Od L (by omega) (by omega) j).mono ?_;rintro _ y ⟨m,rfl,h,C,rfl⟩;exact ⟨_,rfl,loop (c+2+1) (c - 1) m _ ts _ (by omega) (by omega) h C ae ((n.AL x B E f0).AL x B E f2) (Sg.refl _ _ _)⟩
end
structure vv (ts us:List J) (pv:J) (a b i j:Nat):Prop where
 g:Sg a b ts us
 z:us[a]? =some pv
 i1:a+1<=i
 ij:i<=j+1
 jb:j<b
 lo:∀(q:Nat) x,a<q->q<i->us[q]? =some x->¬a8 pv.rx x.rx<0
 hi:∀(q:Nat) x,j<q->q<b->us[q]? =some x->a8 pv.rx x.rx<0
structure vu (us:List J) (pv:J) (a m b:Nat):Prop where
 z:us[a]? =some pv
 am:a<m
 mb:m<=b
 lo:∀(q:Nat) x,a<q->q<m->us[q]? =some x->¬a8 pv.rx x.rx<0
 hi:∀(q:Nat) x,m<=q->q<b->us[q]? =some x->a8 pv.rx x.rx<0
section
variable {s:O} {l ts:List J} {w w1:I}
def SH (ah:Sq s l w w1 ts) (Z:J.aU l<=1000000) {a b p:Nat} {y:J} (hb:b<=ts.length) (S:ts[p]? =some y) (h1:a<=p) (C:p<b):
  ai U Ce #[s.v,.i (a:Int),.i (b:Int),.i (p:Int),.func (.func bj) #[] #[]] w1 λr w'=>∃(m:Nat) (d:List J),r=V (.i (m:Int))/\Sq s l w w' d/\Sg a b ts d/\vu d y a m b:=by
 have hl:=(ah.lt Z).1
 let Q:aa:=λr w'=>∃(m:Nat) (d:List J),r=V (.i (m:Int))/\Sq s l w w' d/\Sg a b ts d/\vu d y a m b
 have pr:∀{j:Nat},0<j->j<=1000000->ab .i64 ((j:Int) - 1)=((j - 1:Nat):Int):=λh1 C=>by rw [a4 _ (by omega)];omega
 have l0:∀(D i j:Nat) (d:List J) (H:I),j+1 - i<D->vv ts d y a b i j->Sq s l w H d->mx.L0 s (a:Int) (i:Int) (j:Int) H Q:=by
  intro D;induction D with
  |zero=>intro i j d H A;omega
  |succ D ih=>
   intro i j d H A c C;have hlen:=c.g.len;have s3:∀(i j:Nat) (x:I),j+1 - i<=D->vv ts d y a b i j->(i<=j->∀n,d[i]? =some n->a8 y.rx n.rx<0)->(i<=j->∀n,d[j]? =some n->¬a8 y.rx n.rx<0)->Sq s l w x d->mx.S3 s (a:Int) (i:Int) (j:Int) x Q:=by
    intro i j x A c L fy K;have ae:=c.jb;have ac:=c.i1;have ak:=c.ij;refine aR (λaj=>?_) (λN=>?_)
    .have e:i=j+1:=by omega
     exact ⟨i,d,rfl,K,c.g,c.z,by omega,by omega,c.lo,λu n h1 C=>c.hi u n (by omega) C⟩
    obtain ⟨n,q⟩:=dS (ts:=d) (i:=j) (by omega);obtain ⟨B,k⟩:=dS (ts:=d) (i:=i) (by omega);have lx:=fy (by omega) n q;have ly:=L (by omega) B k;have al:i≠j:=λe=>by subst e;rw [q] at k;cases k;exact lx ly
    refine K.swap q k rfl rfl λO E=>?_;show mx.L0 _ _ _ _ _ _;rw [bw _ (by omega),pr (by omega) (by omega)];have g:=lJ k q;refine ih (i+1) (j - 1) _ O (by omega) ⟨c.g.trans (Sg.swap q k (by omega)),?_,by omega,by omega,by omega,λu ag F G h=>?_,λu ag F G h=>?_⟩ E
    .rw [g,af (by omega),af (by omega)];exact c.z
    .rw [g,af (by omega)] at h;split at h
     .cases h;exact lx
     .exact c.lo u ag F (by omega) h
    .rw [g] at h;split at h
     .cases h;exact ly
     .rw [af (by omega)] at h;exact c.hi u ag (by omega) G h
   have l2:∀(e i j:Nat) (x:I),j+1 - i<e->j+1 - i<=D->vv ts d y a b i j->(i<=j->∀n,d[i]? =some n->a8 y.rx n.rx<0)->Sq s l w x d->mx.L2 s (a:Int) (i:Int) (j:Int) x Q:=by
    intro e;induction e with
    |zero=>intro i j x T;omega
    |succ e ad=>
     intro i j x T A c L K;have ae:=c.jb;have ac:=c.i1;have ak:=c.ij;refine mx.mO _ _ _ _ _ _ (K.dr λO E=>aR (λN=>?_) (λaj=>s3 i j O A c L (λN=>by omega) E));obtain ⟨n,q⟩:=dS (ts:=d) (i:=j) (by omega);refine E.cmp Z c.z q rfl rfl λP M=>aR (λY=>?_) (λW=>s3 i j P A c L (λ_ B k=>by rw [q] at k;cases k;exact W) M);rw [pr (by omega) (by omega)];refine ad i (j - 1) P (by omega) (by omega) ⟨c.g,c.z,ac,by omega,by omega,c.lo,λu B F G h=>?_⟩ (λN=>L (by omega)) M;by_cases eq:u=j
     .subst eq;rw [q] at h;cases h;exact Y
     .exact c.hi u B (by omega) G h
   have l1:∀(e i j:Nat) (x:I),j+1 - i<e->j+1 - i<=D->vv ts d y a b i j->Sq s l w x d->mx.L1 s (a:Int) (i:Int) (j:Int) x Q:=by
    intro e;induction e with
    |zero=>intro i j x T;omega
    |succ e ad=>
     intro i j x T A c K;have ae:=c.jb;have ac:=c.i1;have ak:=c.ij;refine mx.fC _ _ _ _ _ _ (K.dr λO E=>aR (λN=>?_) (λaj=>l2 (j+1 - i+1) i j O (by omega) A c (λN=>by omega) E));obtain ⟨n,q⟩:=dS (ts:=d) (i:=i) (by omega);refine E.cmp Z c.z q rfl rfl λP M=>dM (λW=>?_) (λY=>l2 (j+1 - i+1) i j P (by omega) A c (λ_ B k=>by rw [q] at k;cases k;exact ef Y) M);rw [bw _ (by omega)];refine ad (i+1) j P (by omega) (by omega) ⟨c.g,c.z,by omega,by omega,ae,λu B F G h=>?_,c.hi⟩ M;by_cases eq:u=i
     .subst eq;rw [q] at h;cases h;exact gS W
     .exact c.lo u B F (by omega) h
   exact mx.b5 _ _ _ _ _ _ (l1 (j+1 - i+1) i j H (by omega) (by omega) c C)
 obtain ⟨B,k⟩:=dS (ts:=ts) (i:=a) (by omega);refine mx.ok _ _ _ _ w1 _ (ah.swap S k rfl rfl λH C=>?_);rw [bw _ (by omega),pr (by omega) (by omega)];have g:=lJ k S;refine l0 (b - 1+1 - (a+1)+1) (a+1) (b - 1) _ H (by omega) ⟨Sg.swap S k (by omega),?_,by omega,by omega,by omega,λu n F G=>by omega,λu n F G=>by omega⟩ C;rw [g];split
 .rename_i e;rw [e,S] at k;rw [k]
 .rw [aq rfl]
end
structure lP (ts us:List J) (pv:J) (a b i j:Nat):Prop where
 g:Sg a b ts us
 z:us[a]? =some pv
 i1:a+1<=i
 ij:i<=j+1
 jb:j<b
 lo:∀(q:Nat) x,a<q->q<i->us[q]? =some x->mQ pv x
 hi:∀(q:Nat) x,j<q->q<b->us[q]? =some x->¬mQ pv x
structure mK (us:List J) (pv:J) (a m b:Nat):Prop where
 z:us[m]? =some pv
 am:a<=m
 mb:m<b
 lo:∀(q:Nat) x,a<=q->q<m->us[q]? =some x->mQ pv x
 hi:∀(q:Nat) x,m<q->q<b->us[q]? =some x->¬mQ pv x
abbrev ky (s:O) (l ts:List J) (w:I) (d:J) (a b:Nat):aa:=λr e=>∃(m:Nat) (t:Bool) (c:List J),r=V (.tuple #[.i (m:Int),.bool t])/\Sq s l w e c/\Sg a b ts c/\mK c d a m b
section
variable {s:O} {l ts:List J} {w w1:I} {a b:Nat} {pv:J}
def lC {j:Nat} (c:0<j) (d:j<=1000000):ab .i64 ((j:Int) - 1)=((j - 1:Nat):Int):=by rw [a4 _ (by omega)];omega
def Jb (hz:J.aU l<=1000000) (hl:ts.length<=1000000) (hb:b<=ts.length) {D:Nat} {A B C:Int->Int->I->Prop}
  (hA:∀(i j:Int) (w:I),(bY w λw1=>Y (ah (i<=j)) (aw s i λp=>aV w1 (p.add (ag i *4)) λM N O P=>aw s (a:Int) λn=>aV w1 (n.add (ag (a:Int) *4)) λQ S T W=>di bj #[.agg #[.i M,.int .u8 N,.int .u8 O,P.v],.agg #[.i Q,.int .u8 S,.int .u8 T,W.v]] w1 λt G=>Y (ah (t<0)) (A (ab .i64 (i+1)) j G) (B i j G)) (B i j w1))->A i j w)
  (hB:∀(i j:Int) (w:I),(bY w λw1=>Y (ah (i<=j)) (aw s j λp=>aV w1 (p.add (ag j *4)) λM N O P=>aw s (a:Int) λn=>aV w1 (n.add (ag (a:Int) *4)) λQ S T W=>di bj #[.agg #[.i M,.int .u8 N,.int .u8 O,P.v],.agg #[.i Q,.int .u8 S,.int .u8 T,W.v]] w1 λt G=>Y (!(ah (t<0))) (B i (ab .i64 (j - 1)) G) (C i j G)) (C i j w1))->B i j w)
  (h:List J) (hC:∀(i j:Nat) (d:I),j+1 - i<=D->lP ts h pv a b i j->(i<=j->∀k,h[i]? =some k->¬mQ pv k)->(i<=j->∀k,h[j]? =some k->mQ pv k)->Sq s l w d h->C (i:Int) (j:Int) d):
  ∀(e i j:Nat) (d:I),j+1 - i<e->j+1 - i<=D->lP ts h pv a b i j->Sq s l w d h->A (i:Int) (j:Int) d:=by
 have l2:∀(e i j:Nat) (d:I),j+1 - i<e->j+1 - i<=D->lP ts h pv a b i j->(i<=j->∀k,h[i]? =some k->¬mQ pv k)->Sq s l w d h->B (i:Int) (j:Int) d:=by
  intro e;induction e with
  |zero=>intro i j d he;omega
  |succ e ad=>
   intro i j d he E c Z h3;have af:=c.jb;have ae:=c.i1;have aj:=c.ij;have hlen:=c.g.len;refine hB _ _ _ (h3.dr λw4 x=>aR (λL=>?_) (λai=>hC i j w4 E c Z (λL=>by omega) x));obtain ⟨k,u⟩:=dS (ts:=h) (i:=j) (by omega);refine x.cmp hz u c.z rfl rfl λH y=>dM (λaa=>?_) (λac=>hC i j H E c Z (λ_ K F=>by rw [u] at F;cases F;exact ef ac) y);rw [lC (by omega) (by omega)];refine ad i (j - 1) H (by omega) (by omega) ⟨c.g,c.z,ae,by omega,by omega,c.lo,λn K q1 q2 q=>?_⟩ (λL=>Z (by omega)) y;by_cases eq:n=j
   .subst eq;rw [u] at q;cases q;exact gS aa
   .exact c.hi n K (by omega) q2 q
 intro e;induction e with
 |zero=>intro i j d he;omega
 |succ e ad=>
  intro i j d he E c h3;have af:=c.jb;have ae:=c.i1;have aj:=c.ij;have hlen:=c.g.len;refine hA _ _ _ (h3.dr λw4 x=>aR (λL=>?_) (λai=>l2 (j+1 - i+1) i j w4 (by omega) E c (λL=>by omega) x));obtain ⟨k,u⟩:=dS (ts:=h) (i:=i) (by omega);refine x.cmp hz u c.z rfl rfl λH y=>aR (λac=>?_) (λaa=>l2 (j+1 - i+1) i j H (by omega) E c (λ_ K F=>by rw [u] at F;cases F;exact aa) y);rw [bw _ (by omega)];refine ad (i+1) j H (by omega) (by omega) ⟨c.g,c.z,by omega,by omega,af,λn K q1 q2 q=>?_,c.hi⟩ y;by_cases eq:n=i
  .subst eq;rw [u] at q;cases q;exact ac
  .exact c.lo n K q1 (by omega) q
def lP.swap {d:List J} {x y:J} {i j:Nat} (E:lP ts d pv a b i j) (k:d[j]? =some x) (n:d[i]? =some y) (B:i<j) (w:mQ pv x) (A:¬mQ pv y):lP ts ((d.set i x).set j y) pv a b (i+1) (j - 1):=by
 have g:=lJ n k;have D:=E.jb;have C:=E.i1;refine ⟨E.g.trans (Sg.swap k n (by omega)),?_,by omega,by omega,by omega,λe h q u c=>?_,λe h q u c=>?_⟩
 .rw [g,af (by omega),af (by omega)];exact E.z
 .rw [g,af (by omega)] at c;split at c
  .cases c;exact w
  .exact E.lo e h q (by omega) c
 .rw [g] at c;split at c
  .cases c;exact A
  .rw [af (by omega)] at c;exact E.hi e h (by omega) u c
def lP.cut {e:List J} {y:J} {i j:Nat} (E:lP ts e pv a b i j) (x:j<i) (d:e[j]? =some y):Sg a b ts ((e.set j pv).set a y)/\mK ((e.set j pv).set a y) pv a j b:=by
 have g:=lJ d E.z;have w:=E.jb;have A:=E.i1;have B:=E.ij;refine ⟨E.g.trans (Sg.swap E.z d (by omega)),?_,by omega,w,λk n q u c=>?_,λk n q u c=>?_⟩
 .rw [g];by_cases h:j=a
  .rw [aq h];rw [h,E.z] at d;exact d.symm
  .rw [af h,aq rfl]
 .rw [g] at c;split at c
  .cases c;exact E.lo j y (by omega) (by omega) d
  .rw [af (by omega)] at c;exact E.lo k n (by omega) (by omega) c
 .rw [g,af (by omega),af (by omega)] at c;exact E.hi k n q u c
def SM (n:Sq s l w w1 ts) (S:J.aU l<=1000000) {p:Nat} (T:b<=ts.length) (M:ts[p]? =some pv) (h1:a<=p) (E:p<b):
  ai U Cd #[s.v,.i (a:Int),.i (b:Int),.i (p:Int),.func (.func bj) #[] #[]] w1 (ky s l ts w pv a b):=by
 have W:=(n.lt S).1;have l4:∀(D i j:Nat) (k:List J) (c:I),j+1 - i<D->lP ts k pv a b i j->Sq s l w c k->iS.L4 s (a:Int) (i:Int) (j:Int) c (ky s l ts w pv a b):=by
  intro D;induction D with
  |zero=>intro i j k c Q;omega
  |succ D ih=>
   intro i j k c Q e E;have hlen:=e.g.len;refine iS.vz _ _ _ _ _ _ (Jb (D:=D) S W T (A:=λi j c=>iS.L5 s (a:Int) i j c (ky s l ts w pv a b)) (B:=λi j c=>iS.L6 s (a:Int) i j c (ky s l ts w pv a b)) (C:=λi j c=>iS.S7 s (a:Int) i j c (ky s l ts w pv a b)) (λi j c n=>iS.MO s (a:Int) i j c (ky s l ts w pv a b) n) (λi j c n=>iS.qz s (a:Int) i j c (ky s l ts w pv a b) n) k ?_ (j+1 - i+1) i j c (by omega) (by omega) e E);intro i j w3 Q e O P F;have ad:=e.jb;have ab:=e.i1;have ac:=e.ij;obtain ⟨L,h⟩:=dS (ts:=k) (i:=j) (by omega);refine aR (λY=>?_) (λZ=>?_)
   .refine F.swap e.z h rfl rfl λK q=>?_;have x:=e.cut (by omega) h;exact ⟨j,false,_,rfl,q,x.1,x.2⟩
   obtain ⟨u,d⟩:=dS (ts:=k) (i:=i) (by omega);have G:=P (by omega) L h;have H:=O (by omega) u d;have aa:i≠j:=λy=>by subst y;rw [h] at d;cases d;exact H G
   refine F.swap h d rfl rfl λK q=>?_;show iS.L4 _ _ _ _ _ _;rw [bw _ (by omega),lC (by omega) (by omega)];exact ih (i+1) (j - 1) _ K (by omega) (e.swap h d (by omega) G H) q
 obtain ⟨u,d⟩:=dS (ts:=ts) (i:=a) (by omega);refine iS.ok _ _ _ _ w1 _ (n.swap M d rfl rfl λc E=>?_);rw [bw _ (by omega),lC (by omega) (by omega)];have g:=lJ d M;have N:lP ts ((ts.set a pv).set p u) pv a b (a+1) (b - 1):=⟨Sg.swap M d (by omega),by
  rw [g];split
  .rename_i y;rw [y,M] at d;rw [d]
  .rw [aq rfl],by omega,by omega,by omega,λae L q1 q2=>by omega,λae L q1 q2=>by omega⟩
 generalize (ts.set a pv).set p u=k at N E
 have hlen:=N.g.len;refine Jb (D:=b) S W T (A:=λi j c=>iS.L0 s (a:Int) i j c (ky s l ts w pv a b)) (B:=λi j c=>iS.L1 s (a:Int) i j c (ky s l ts w pv a b)) (C:=λi j c=>iS.S2 s (a:Int) i j c (ky s l ts w pv a b)) (λi j c n=>iS.b5 s (a:Int) i j c (ky s l ts w pv a b) n) (λi j c n=>iS.fC s (a:Int) i j c (ky s l ts w pv a b) n) k ?_ (b - 1+1 - (a+1)+1) (a+1) (b - 1) c (by omega) (by omega) N E;intro i j w3 Q e O P F;have ad:=e.jb;have ab:=e.i1;have ac:=e.ij;obtain ⟨L,h⟩:=dS (ts:=k) (i:=j) (by omega);refine aR (λY=>?_) (λZ=>?_)
 .refine F.swap e.z h rfl rfl λK q=>?_;have x:=e.cut (by omega) h;exact ⟨j,true,_,rfl,q,x.1,x.2⟩
 obtain ⟨u,d⟩:=dS (ts:=k) (i:=i) (by omega);have G:=P (by omega) L h;have H:=O (by omega) u d;have aa:i≠j:=λy=>by subst y;rw [h] at d;cases d;exact H G
 refine F.swap h d rfl rfl λK q=>?_;show iS.L4 _ _ _ _ _ _;rw [bw _ (by omega),lC (by omega) (by omega)];exact l4 (j - 1+1 - (i+1)+1) (i+1) (j - 1) _ K (by omega) (e.swap h d (by omega) G H) q
end
set_option maxHeartbeats 400000
def Ad (a b:Nat) (d:List J):Prop:=∀(c:Nat) x y,a<=c->c+1<b->d[c]? =some x->d[c+1]? =some y->a8 x.rx y.rx<=0
def Ad.DQ {a b:Nat} {d:List J} (q:Ad a b d) (C:b<=d.length):i3 a b d:=by
 intro i c A B;induction c with
 |zero=>omega
 |succ c x=>
  intro u y z e w;obtain ⟨k,h⟩:=dS (ts:=d) (i:=c) (by omega);have j:=q c k z (by omega) u h w;by_cases n:i=c
  .subst n;rw [h] at e;cases e;exact j
  .exact pq (x (by omega) (by omega) y k e h) j
structure qu (us:List J) (a i j:Nat):Prop where
 p:∀(q:Nat) x y,a<=q->q+1<i->q+1≠j->us[q]? =some x->us[q+1]? =some y->a8 x.rx y.rx<=0
 n:∀x y,a+1<=j->j+1<i->us[j - 1]? =some x->us[j+1]? =some y->a8 x.rx y.rx<=0
def qu.ad {e:List J} {a i j:Nat} (D:qu e a i j) (u:∀c d,a+1<=j->e[j - 1]? =some c->e[j]? =some d->a8 c.rx d.rx<=0):Ad a i e:=by
 intro q c d w x k n;by_cases h:q+1=j
 .subst h;exact u c d (by omega) k n
 .exact D.p q c d w x h k n
def qu.down {e:List J} {a i j:Nat} (D:qu e a i j) {x y:J} (B:a+1<=j) (E:j<i) (q:e[j - 1]? =some x) (C:e[j]? =some y) (F:a8 y.rx x.rx<0):qu ((e.set j x).set (j - 1) y) a i (j - 1):=by
 have g:=lJ C q;refine ⟨λu z v A w G c d=>?_,λz v A w c d=>?_⟩
 .rw [g] at c d;by_cases h:u=j - 1
  .rw [aq h] at c;rw [af (by omega),aq (by omega)] at d;cases c;cases d;omega
  by_cases k:u=j
  .rw [af h,aq k] at c;rw [af (by omega),af (by omega)] at d;cases c;subst k;exact D.n _ _ B w q d
  .rw [af h,af k] at c;rw [af (by omega),af (by omega)] at d;exact D.p u z v A w (by omega) c d
 .rw [g,af (by omega),af (by omega)] at c;rw [g,af (by omega),aq (by omega)] at d;cases d;exact D.p (j - 1 - 1) z x (by omega) (by omega) (by omega) c (by rw [show j - 1 - 1+1=j - 1 by omega];exact q)
section
variable {s:O} {l ts:List J} {w w1:I} {a b:Nat}
def SK (F:Sq s l w w1 ts) (Z:J.aU l<=1000000) (ag:a<b) (hb:b<=ts.length) (ah:k2 a b ts):
  ai U Cc #[s.v,.i (a:Int),.i (b:Int),.func (.func bj) #[] #[]] w1 λr w'=>∃(t:Bool) (c:List J),r=V (.bool t)/\Sq s l w w' c/\Sg a b ts c/\(t=true->i3 a b c):=by
 have hl:=(F.lt Z).1
 let M:aa:=λr w'=>∃(t:Bool) (c:List J),r=V (.bool t)/\Sq s l w w' c/\Sg a b ts c/\(t=true->i3 a b c)
 have l1:∀(D k i:Nat) (c:List J) (T:I),D+k=5->a<i->i<=b->Ad a i c->Sq s l w T c->Sg a b ts c->iR.L1 s (a:Int) (b:Int) (i:Int) (k:Int) T M:=by
  intro D;induction D with
  |zero=>
   intro k i c T hD y z q O g;exact iR.fC _ _ _ _ _ _ _ (a9 (a0 (by omega)) ⟨false,c,rfl,O,g,λF=>by cases F⟩)
  |succ D ih=>
   intro k i c T hD y z q O g;refine iR.fC _ _ _ _ _ _ _ (bd (aW (by omega)) ?_);have s7:∀(i:Nat) (c:List J) (d:I),a<i->i<=b->Ad a i c->Sq s l w d c->Sg a b ts c->iR.S7 s (a:Int) (b:Int) (i:Int) (k:Int) d M:=by intro i c d y z q u g;show iR.L1 _ _ _ _ _ _ _;rw [bw _ (by omega)];exact ih (k+1) i c d (by omega) y z q u g
   have l6:∀(e i j:Nat) (c:List J) (d:I),b - j<e->a<i->i<j->j<=b->Ad a i c->Sq s l w d c->Sg a b ts c->iR.L6 s (a:Int) (b:Int) (i:Int) (k:Int) (j:Int) d M:=by
    intro e;induction e with
    |zero=>intro i j c d he;omega
    |succ e ae=>
     intro i j c d he y ij jb q u g;have hlen:=g.len;refine iR.qz _ _ _ _ _ _ _ _ (aR (λaj=>u.dr λP G=>?_) (λ_=>s7 i c d y (by omega) q u g));obtain ⟨K,n⟩:=dS (ts:=c) (i:=j) (by omega);obtain ⟨H,h⟩:=dS (ts:=c) (i:=j - 1) (by omega);refine G.cmp Z n h rfl (lC (by omega) (by omega)) λQ L=>dM (λal=>s7 i c Q y (by omega) q L g) (λS=>?_);refine L.swap h n (lC (by omega) (by omega)) rfl λw6 h6=>?_;rw [bw _ (by omega)];have gg:=lJ n h;refine ae i (j+1) _ w6 (by omega) y (by omega) (by omega) (λx A v E N B C=>?_) h6 (g.trans (Sg.swap h n (by omega)));rw [gg,af (by omega),af (by omega)] at B C;exact q x A v E N B C
   have s5:∀(i:Nat) (c:List J) (d:I),a<i->i<b->Ad a i c->Sq s l w d c->Sg a b ts c->iR.S5 s (a:Int) (b:Int) (i:Int) (k:Int) d M:=by intro i c d y z q u g;refine aR (λ_=>?_) (λ_=>s7 i c d y (by omega) q u g);rw [bw _ (by omega)];exact l6 (b - (i+1)+1) i (i+1) c d (by omega) y (by omega) (by omega) q u g
   have l4:∀(j i:Nat) (c:List J) (d:I),a<=j->j<i->i<b->qu c a i j->Sq s l w d c->Sg a b ts c->iR.L4 s (a:Int) (b:Int) (i:Int) (k:Int) (j:Int) d M:=by
    intro j;induction j with
    |zero=>
     intro i c d j1 j2 z W u g;exact iR.vz _ _ _ _ _ _ _ _ (a9 (a0 (by omega)) (s5 i c d (by omega) z (W.ad λH K F=>by omega) u g))
    |succ j ak=>
     intro i c d j1 j2 z W u g;have hlen:=g.len;refine iR.vz _ _ _ _ _ _ _ _ (bd (aW (by omega)) (u.dr λP G=>?_));have ej:ab .i64 (((j+1:Nat):Int) - 1)=(j:Int):=lC (by omega) (by omega);obtain ⟨K,n⟩:=dS (ts:=c) (i:=j+1) (by omega);obtain ⟨H,h⟩:=dS (ts:=c) (i:=j) (by omega);refine G.cmp Z n h rfl ej λQ L=>dM (λac=>s5 i c Q (by omega) z (W.ad λA v _ B C=>?_) L g) (λS=>?_)
     .rw [show j+1 - 1=j from rfl,h] at B;rw [n] at C;cases B;cases C;exact oq (gS ac)
     have S:=ef S;have hj:a+1<=j+1:=by
      by_cases e:a=j+1
      .have:=(ah.sg g hb) a (bB _) ag (by omega) H K (by rw [e];exact h) (by rw [e];exact n);have:=i7 H.rx K.rx;omega
      .omega
     refine L.swap h n ej rfl λw6 h6=>?_;rw [ej];exact ak i _ w6 (by omega) (by omega) z (W.down hj j2 h n S) h6 (g.trans (Sg.swap h n (by omega)))
   have s3:∀(i:Nat) (c:List J) (d:I),a<i->i<=b->Ad a i c->Sq s l w d c->Sg a b ts c->iR.S3 s (a:Int) (b:Int) (i:Int) (k:Int) d M:=by
    intro i c d y z q u g;have hlen:=g.len;refine bE (λe=>?_) (λe=>?_)
    .have e:i=b:=by have:=eq_of_beq e;omega
     subst e;exact ⟨true,c,rfl,u,g,λ_=>q.DQ (by omega)⟩
    have e:i≠b:=λF=>by subst F;simp at e
    refine aR (λ_=>⟨false,c,rfl,u,g,λF=>by cases F⟩) (λ_=>?_);have Y:ab .i64 ((i:Int) - 1)=((i - 1:Nat):Int):=lC (by omega) (by omega);obtain ⟨K,n⟩:=dS (ts:=c) (i:=i) (by omega);obtain ⟨H,h⟩:=dS (ts:=c) (i:=i - 1) (by omega);refine u.swap h n Y rfl λP G=>?_;have gg:=lJ n h;have g2:=g.trans (Sg.swap (a:=a) (b:=b) h n (by omega));have low:∀(x:Nat) A v,a<=x->x+1<i - 1->((c.set i H).set (i - 1) K)[x]? =some A->((c.set i H).set (i - 1) K)[x+1]? =some v->a8 A.rx v.rx<=0:=λx A v E N B C=>by rw [gg,af (by omega),af (by omega)] at B C;exact q x A v E (by omega) B C
    refine aR (λO=>?_) (λO=>s5 i _ P y (by omega) (λx A v E N=>?_) G g2)
    .rw [Y];exact l4 (i - 1) i _ P (by omega) (by omega) (by omega) ⟨λx A v E N q3=>low x A v E (by omega),λA v E N=>by omega⟩ G g2
    .rw [a4 _ (by omega)] at O;omega
   have l2:∀(e i:Nat) (d:I),b - i<e->a<i->i<=b->Ad a i c->Sq s l w d c->iR.L2 s (a:Int) (b:Int) (i:Int) (k:Int) d M:=by
    intro e;induction e with
    |zero=>intro i d he;omega
    |succ e ae=>
     intro i d he y z q u;have hlen:=g.len;refine iR.mO _ _ _ _ _ _ _ (u.dr λP G=>aR (λaj=>?_) (λ_=>s3 i c P y z q G g));have Y:ab .i64 ((i:Int) - 1)=((i - 1:Nat):Int):=lC (by omega) (by omega);obtain ⟨K,n⟩:=dS (ts:=c) (i:=i) (by omega);obtain ⟨H,h⟩:=dS (ts:=c) (i:=i - 1) (by omega);refine G.cmp Z n h rfl Y λQ L=>dM (λac=>?_) (λS=>s3 i c Q y z q L g);rw [bw _ (by omega)];refine ae (i+1) Q (by omega) (by omega) (by omega) (λx A v E N B C=>?_) L;by_cases eq:x+1=i
     .subst eq;rw [show x+1 - 1=x from rfl,B] at h;rw [C] at n;cases h;cases n;exact oq (gS ac)
     .exact q x A v E (by omega) B C
   exact l2 (b - i+1) i T (by omega) y z q O
 refine iR.ok _ _ _ w1 _ ?_;rw [bw _ (by omega)];exact l1 5 0 (a+1) ts w1 rfl (by omega) (by omega) (λx H K E N=>by omega) F (Sg.refl _ _ _)
end
def ha (p c:Nat):Prop:=c=2 *p+1\/c=2 *p+2
structure oQ (us:List J) (f lo hi r:Nat):Prop where
 p:∀(p c:Nat),lo<=p->ha p c->c<hi->p≠r->kr us (f+c) (f+p)
 n:∀(p c:Nat),lo<=p->ha p r->ha r c->c<hi->kr us (f+c) (f+p)
def oR (d:List J) (f lo hi:Nat):Prop:=∀(p c:Nat),lo<=p->ha p c->c<hi->kr d (f+c) (f+p)
def oQ.heap {d:List J} {f lo hi r:Nat} (H:oQ d f lo hi r) (k:∀c,ha r c->c<hi->kr d (f+c) (f+r)):oR d f lo hi:=by
 intro p c n h j;by_cases e:p=r
 .subst e;exact k c h j
 .exact H.p p c n h j e
def oQ.down {k:List J} {f lo hi r c:Nat} (H:oQ k f lo hi r) (N:lo<=r) {x y:J} (E:ha r c) (K:c<hi) (w:k[f+c]? =some x) (L:k[f+r]? =some y) (lt:a8 y.rx x.rx<=0) (M:∀e,ha r e->e<hi->kr k (f+e) (f+c)):oQ ((k.set (f+r) x).set (f+c) y) f lo hi c:=by
 have g:=lJ L w;have G:=E;unfold ha at E;refine ⟨λp e B u j D z v d h=>?_,λp e B u j D z v d h=>?_⟩
 .have C:=u;unfold ha at u;rw [g] at d h;rw [af (by omega)] at h;by_cases q:p=r
  .subst q;rw [aq rfl] at h;cases h;by_cases A:e=c
   .subst A;rw [aq rfl] at d;cases d;exact lt
   .rw [af (by omega),af (by omega)] at d;exact M e C j z x d w
  .rw [af (by omega)] at h;by_cases A:e=r
   .subst A;rw [af (by omega),aq rfl] at d;cases d;exact H.n p c B C G K x v w h
   .rw [af (by omega),af (by omega)] at d;exact H.p p e B C j q z v d h
 .have F:=j;unfold ha at u j;have q:p=r:=by omega
  subst q;rw [g,af (by omega),af (by omega)] at d;rw [g,af (by omega),aq rfl] at h;cases h;exact H.p c e (by omega) F D (by omega) z x d w
section
variable {s:O} {l ts:List J} {w w1:I}
def Jo (L:Sq s l w w1 ts) (M:J.aU l<=1000000) {f lo hi:Nat} (hb:f+hi<=ts.length) (H:oQ ts f lo hi lo) (ag:lo<=hi):
  ai U xI #[s.v,.i (lo:Int),.i (hi:Int),.i (f:Int),.func (.func bj) #[] #[]] w1 λr O=>r=V (.tuple #[])/\∃d,Sq s l w O d/\Sg (f+lo) (f+hi) ts d/\oR d f lo hi:=by
 have hl:=(L.lt M).1
 let Q:aa:=λr O=>r=V (.tuple #[])/\∃d,Sq s l w O d/\Sg (f+lo) (f+hi) ts d/\oR d f lo hi
 have z:∀{x y:Nat},x+y<=3000000->ab .i64 ((x:Int)+(y:Int))=((x+y:Nat):Int):=λL=>by rw [a4 _ (by omega)];omega
 have loop:∀(D r:Nat) (d:List J) (K:I),hi - r<D->lo<=r->r<=1000000->oQ d f lo hi r->Sq s l w K d->Sg (f+lo) (f+hi) ts d->uY.L0 s (hi:Int) (f:Int) (r:Int) K Q:=by
  intro D;induction D with
  |zero=>intro r d K hD;omega
  |succ D ih=>
   intro r d K hD hr ak H T g;have hlen:=g.len;refine uY.b5 _ _ _ _ _ _ ?_;have e1:ab .i64 (ab .i64 (2 *(r:Int))+1)=((2 *r+1:Nat):Int):=by rw [a4 (2 *(r:Int)) (by omega),a4 _ (by omega)];omega
   rw [e1];have N:∀(c:Nat) (B:I),ha r c->c<hi->(∀n,ha r n->n<hi->kr d (f+n) (f+c))->Sq s l w B d->uY.S2 s (hi:Int) (f:Int) (r:Int) (c:Int) B Q:=by
    intro c B G A mx C;have ae:=G;unfold ha at G;obtain ⟨x,j⟩:=dS (ts:=d) (i:=f+c) (by omega);obtain ⟨y,k⟩:=dS (ts:=d) (i:=f+r) (by omega);refine C.dr λP E=>E.cmp M k j (z (by omega)) (z (by omega)) λw5 W=>dM (λZ=>⟨rfl,d,W,g,H.heap λn q F u v e h=>?_⟩) (λY=>?_)
    .rw [k] at h;cases h;exact pq (mx n q F u x e j) (oq (gS Z))
    have Y:=ef Y;refine W.swap j k (z (by omega)) (z (by omega)) λw6 h6=>?_;exact ih c _ w6 (by omega) (by omega) (by omega) (by have:=H.down hr ae A j k (by omega) mx;exact this) h6 (g.trans (Sg.swap j k (by omega)))
   refine aR (λZ=>⟨rfl,d,T,g,H.heap λc G A=>by unfold ha at G;omega⟩) (λah=>T.dr λB C=>?_);have e2:ab .i64 (((2 *r+1:Nat):Int)+1)=((2 *r+2:Nat):Int):=bw _ (by omega);rw [e2];refine aR (λaj=>?_) (λaf=>N (2 *r+1) B (.inl rfl) (by omega) (λn q F=>?_) C)
   .obtain ⟨x,j⟩:=dS (ts:=d) (i:=f+(2 *r+1)) (by omega);obtain ⟨y,k⟩:=dS (ts:=d) (i:=f+(2 *r+1)+1) (by omega);have S:ab .i64 ((f:Int)+((2 *r+1:Nat):Int))=((f+(2 *r+1):Nat):Int):=z (by omega);refine C.cmp M j k S (by rw [S,bw _ (by omega)]) λP E=>aR (λA=>?_) (λA=>?_)
    .refine N (2 *r+2) P (.inr rfl) (by omega) (λn q F u v e h=>?_) E;have ac:d[f+(2 *r+1)+1]? =some v:=h;rw [k] at ac;cases ac;rcases q with rfl|rfl
     .rw [j] at e;cases e;omega
     .rw [show f+(2 *r+2)=f+(2 *r+1)+1 from rfl,k] at e;cases e;have:=i7 y.rx y.rx;omega
    .refine N (2 *r+1) P (.inl rfl) (by omega) (λn q F u v e h=>?_) E;rw [j] at h;cases h;rcases q with rfl|rfl
     .rw [j] at e;cases e;have:=i7 x.rx x.rx;omega
     .rw [show f+(2 *r+2)=f+(2 *r+1)+1 from rfl,k] at e;cases e;exact oq A
   .intro u v e h;rcases q with rfl|rfl
    .rw [e] at h;cases h;have:=i7 u.rx u.rx;omega
    .omega
 exact uY.ok _ _ _ _ w1 _ (loop (hi - lo+1) lo ts w1 (by omega) (bB _) (by omega) H L (Sg.refl _ _ _))
end
def oR.top {d:List J} {f n:Nat} (H:oR d f 0 n) (B:f+n<=d.length):∀(D p:Nat),p<D->p<n->kr d (f+p) f:=by
 intro D;induction D with
 |zero=>intro p h;omega
 |succ D y=>
  intro p A x j z e k;by_cases w:p=0
  .subst w;rw [show f+0=f from rfl,k] at e;cases e;have:=i7 j.rx j.rx;omega
  obtain ⟨c,C⟩:∃c,c=(p - 1) / 2:=⟨_,rfl⟩;obtain ⟨u,q⟩:=dS (ts:=d) (i:=f+c) (by omega);exact pq (H c p (by omega) (by unfold ha;omega) x j u e q) (y c (by omega) (by omega) u z q k)
section
variable {s:O} {l ts:List J} {w w1:I}
def SI (ad:Sq s l w w1 ts) (T:J.aU l<=1000000) {a b:Nat} (ao:a<b) (hb:b<=ts.length):
  ai U Cb #[s.v,.i (a:Int),.i (b:Int),.func (.func bj) #[] #[]] w1 λr w'=>r=V (.tuple #[])/\∃c,Sq s l w w' c/\Sg a b ts c/\i3 a b c:=by
 have hl:=(ad.lt T).1;obtain ⟨hi,hh⟩:∃hi,hi=b - a:=⟨_,rfl⟩;have eL:ab .i64 ((b:Int) - (a:Int))=(hi:Int):=by rw [a4 _ (by omega)];omega
 let R:aa:=λr w'=>r=V (.tuple #[])/\∃c,Sq s l w w' c/\Sg a b ts c/\i3 a b c
 have l2:∀(n:Nat) (c:List J) (k:I),n<=hi->oR c a 0 n->i3 (a+n) b c->(∀p D,p<n->n<=D->D<hi->kr c (a+p) (a+D))->Sq s l w k c->Sg a b ts c->ny.L2 s (a:Int) 0 ((n:Int) - 1) k R:=by
  intro n;induction n with
  |zero=>
   intro c k Q q st L h g;exact ny.mO _ _ _ _ _ _ (a9 (a0 (by omega)) ⟨rfl,c,h,g,st⟩)
  |succ n W=>
   intro c k Q q st L h g;have hlen:=g.len;have M:((n+1:Nat):Int) - 1=(n:Int):=by omega
   have e1:ab .i64 ((a:Int)+(n:Int))=((a+n:Nat):Int):=by rw [a4 _ (by omega)];omega
   rw [M];obtain ⟨an,H⟩:=dS (ts:=c) (i:=a+n) (by omega);obtain ⟨ac,G⟩:=dS (ts:=c) (i:=a) (by omega);refine ny.mO _ _ _ _ _ _ (bd (aW (by omega)) (h.swap H G e1 rfl λw3 z=>?_));have F:=lJ G H;have N:=g.trans (Sg.swap (a:=a) (b:=b) H G (by omega));have top:=q.top (by omega);obtain ⟨vs,ak⟩:∃vs,vs=(c.set a an).set (a+n) ac:=⟨_,rfl⟩;rw [<-ak] at F N z;have ap:=N.len;have am:∀p j,p<n->vs[a+p]? =some j->∃C,C<n+1/\c[a+C]? =some j:=λp j S d=>by
    rw [F,af (by omega)] at d;split at d
    .cases d;exact ⟨n,by omega,H⟩
    .exact ⟨p,by omega,d⟩
   refine (Jo z T (f:=a) (lo:=0) (hi:=n) (by omega) ⟨λp x u B P S j v d e=>?_,λp x u Y=>by unfold ha at Y;omega⟩ (dv _)).mono ?_
   .have al:=B;unfold ha at B;rw [F,af (by omega),af (by omega)] at d e;exact q p x (dv _) al (by omega) j v d e
   rintro _ w4 ⟨rfl,Z,O,y,K⟩;refine ⟨rfl,?_⟩;have E:ab .i64 ((n:Int) - 1)=(n:Int) - 1:=a4 _ (by omega);rw [E];refine W Z w4 (by omega) K ?_ ?_ O (N.trans (y.wide (by omega) (by omega)))
   .intro i A u h z j v d e;rw [y.2 _ (by omega),F] at d e;rw [af (show ¬A=a+n by omega),af (by omega)] at e;split at d
    .cases d;exact L 0 (A - a) (by omega) (by omega) (by omega) ac v G (by rw [show a+(A - a)=A by omega];exact e)
    .rw [af (by omega)] at d;exact st i A (by omega) h z j v d e
   .intro p D S hq aj j v d e;obtain ⟨i,i1,i2,ae⟩:=y.mem (by omega) (by omega) d (by omega) (by omega);rw [show i=a+(i - a) by omega] at ae;obtain ⟨C,ag,ah⟩:=am (i - a) j (by omega) ae;rw [y.2 _ (by omega),F] at e;split at e
    .cases e;exact top (C+1) C (by omega) ag j ac ah G
    .rw [af (by omega)] at e;exact L C D ag (by omega) aj j v ah e
 have l1:∀(n:Nat) (c:List J) (k:I),n<=hi->oR c a n hi->Sq s l w k c->Sg a b ts c->ny.L1 s (a:Int) 0 (hi:Int) ((n:Int) - 1) k R:=by
  intro n;induction n with
  |zero=>
   intro c k Q q h g;refine ny.fC _ _ _ _ _ _ _ (a9 (a0 (by omega)) ?_);have E:ab .i64 ((hi:Int) - 1)=(hi:Int) - 1:=a4 _ (by omega);rw [E];exact l2 hi c k (bB _) q (λi A u h z=>by omega) (λp D u h z=>by omega) h g
  |succ n W=>
   intro c k Q q h g;have hlen:=g.len;have M:((n+1:Nat):Int) - 1=(n:Int):=by omega
   rw [M];refine ny.fC _ _ _ _ _ _ _ (bd (aW (by omega)) ?_);refine (Jo h T (f:=a) (lo:=n) (hi:=hi) (by omega) ⟨λp x u B P S=>q p x (by omega) B P,λp x u Y=>by unfold ha at Y;omega⟩ (by omega)).mono ?_;rintro _ w4 ⟨rfl,Z,O,y,K⟩;refine ⟨rfl,?_⟩;have E:ab .i64 ((n:Int) - 1)=(n:Int) - 1:=a4 _ (by omega);rw [E];exact W Z w4 (by omega) K O (g.trans (y.wide (by omega) (by omega)))
 refine ny.ok _ _ _ w1 _ ?_;rw [eL];have e3:ab .i64 (cz (ab .i64 ((hi:Int) - 1)) 2)=(((hi - 1) / 2+1:Nat):Int) - 1:=by
  have:ab .i64 ((hi:Int) - 1)=((hi - 1:Nat):Int):=by rw [a4 _ (by omega)];omega
  rw [this];have e4:cz ((hi - 1:Nat):Int) 2=(((hi - 1) / 2:Nat):Int):=rfl;rw [e4,a4 _ (by omega)];omega
 show ny.L1 _ _ _ _ _ _ _;rw [e3];exact l1 ((hi - 1) / 2+1) ts w1 (by omega) (λp x u B P=>by unfold ha at B;omega) ad (Sg.refl _ _ _)
end
def Out (d e a b:Nat) (h:List J):Prop:=∀i c,d<=i->i<c->c<e->¬(a<=i/\c<b)->kr h i c
def Out.DQ {h j a b:Nat} {e:List J} (q:Out h j a b e) (k:i3 a b e):i3 h j e:=λi d u n w=>by
 by_cases c:a<=i/\d<b
 .exact k i d c.1 n c.2
 .exact q i d u n w c
def Out.start (a b:Nat) (h:List J):Out a b a b h:=λi j c _ d e=>absurd ⟨c,d⟩ e
def Out.sg {h j a b:Nat} {n vs:List J} (k:Out h j a b n) (g:Sg a b n vs) (M:h<=a) (y:a<=b) (N:b<=j) (z:b<=n.length):Out h j a b vs:=by
 intro i c A G B E q u e d;by_cases w:a<=i/\i<b
 .obtain ⟨F,K,L,C⟩:=g.mem y z e w.1 w.2;rw [g.2 c (by omega)] at d;exact k F c (by omega) (by omega) B (by omega) q u C d
 rw [g.2 i (by omega)] at e;by_cases x:a<=c/\c<b
 .obtain ⟨H,K,L,D⟩:=g.mem y z d x.1 x.2;exact k i H A (by omega) (by omega) (by omega) q u e D
 rw [g.2 c (by omega)] at d;exact k i c A G B E q u e d
def Out.cut {x y a b m:Nat} {q:List J} {e:J} (B:Out x y a b q) (c:mK q e a m b):∀i d,x<=i->i<d->d<y->¬(a<=i/\d<m)->¬(m+1<=i/\d<b)->kr q i d:=by
 intro i d C D E G H u w h j;by_cases k:a<=i/\d<b
 .have lo:i<=m->a8 u.rx e.rx<=0:=λA=>by
   by_cases n:i=m
   .subst n;rw [c.z] at h;cases h;have:=i7 e.rx e.rx;omega
   .exact Int.le_of_lt (c.lo i u k.1 (by omega) h)
  have A:m<=d->a8 e.rx w.rx<=0:=λF=>by
   by_cases n:d=m
   .subst n;rw [c.z] at j;cases j;have:=i7 e.rx e.rx;omega
   .exact oq (c.hi d w (by omega) k.2 j)
  exact pq (lo (by omega)) (A (by omega))
 .exact B i d C D E k u w h j
def mK.low {a b m:Nat} {e:List J} {n:J} (c:mK e n a m b):k2 (m+1) b e:=by intro k u h _ w q d j;rw [show m+1 - 1=m from rfl,c.z] at d;cases d;exact oq (c.hi k q (by omega) h j)
def vu.R' {A B a b m:Nat} {n:List J} {u:J} (c:vu n u a m b) (C:Out A B a b n) (k:∀(j:Nat) d,a<=j->j<b->n[j]? =some d->a8 u.rx d.rx<=0):Out A B m b n/\k2 m b n:=by
 have lo:∀(h:Nat) d,a<=h->h<m->n[h]? =some d->a8 d.rx u.rx<=0:=λh d D y e=>by
  by_cases q:h=a
  .subst q;rw [c.z] at e;cases e;have:=i7 u.rx u.rx;omega
  .exact oq (c.lo h d (by omega) y e)
 have H:=c.am;have L:=c.mb;refine ⟨λi j E F G K d x e w=>?_,λj D y _ d x e w=>pq (lo (m - 1) d (by omega) (by omega) e) (k j x (by omega) y w)⟩;by_cases q:a<=i/\j<b
 .exact pq (lo i d q.1 (by omega) e) (k j x (by omega) q.2 w)
 .exact C i j E F G q d x e w
def mK.left {j k a b m:Nat} {q vs:List J} {M:J} (c:mK vs M a m b) (n:Out j k a b vs) (g:Sg a m vs q) (O:b<=vs.length) (N:j<=a) (P:b<=k) (st:i3 a m q):Out j k (m+1) b q:=by
 have x:=c.am;have S:=c.mb;intro i d B C D Q;by_cases y:a<=i/\d<m
 .exact st i d y.1 C y.2
 intro u w h e;by_cases z:a<=i/\i<m
 .obtain ⟨G,K,L,E⟩:=g.mem x (by omega) h z.1 z.2;rw [g.2 d (by omega)] at e;exact n.cut c G d (by omega) (by omega) D (by omega) (by omega) u w E e
 rw [g.2 i (by omega)] at h;by_cases A:a<=d/\d<m
 .obtain ⟨H,K,L,F⟩:=g.mem x (by omega) e A.1 A.2;exact n.cut c i H B (by omega) (by omega) (by omega) (by omega) u w h F
 rw [g.2 d (by omega)] at e;exact n.cut c i d B C D (by omega) (by omega) u w h e
def mK.right {j k a b m:Nat} {q vs:List J} {L:J} (c:mK vs L a m b) (n:Out j k a b vs) (g:Sg (m+1) b vs q) (O:b<=vs.length) (N:j<=a) (P:b<=k) (st:i3 (m+1) b q):Out j k a m q:=by
 have M:=c.am;have S:=c.mb;intro i d A B C Q;by_cases x:m+1<=i/\d<b
 .exact st i d x.1 B x.2
 intro u w h e;by_cases y:m+1<=i/\i<b
 .obtain ⟨F,H,K,D⟩:=g.mem (by omega) (by omega) h y.1 y.2;rw [g.2 d (by omega)] at e;exact n.cut c F d (by omega) (by omega) C (by omega) (by omega) u w D e
 rw [g.2 i (by omega)] at h;by_cases z:m+1<=d/\d<b
 .obtain ⟨G,H,K,E⟩:=g.mem (by omega) (by omega) e z.1 z.2;exact n.cut c i G A (by omega) (by omega) (by omega) (by omega) u w h E
 rw [g.2 d (by omega)] at e;exact n.cut c i d A B C (by omega) (by omega) u w h e
section
variable {s:O} {l:List J} {w:I}
abbrev qD (s:O) (l ts:List J) (w:I) (a b:Nat):aa:=λr d=>r=V (.tuple #[])/\∃c,Sq s l w d c/\Sg a b ts c/\i3 a b c
def Sx (E:J.aU l<=1000000):∀(D a b h e:Nat) (d:Int) (q u:Bool) (c ts:List J) (w2:I),b - a<D->a<=b->b<=e->e<=ts.length->h<=a->k2 a b c->Out h e a b c->Sq s l w w2 c->Sg h e ts c->my.L0 s (a:Int) (b:Int) d q u w2 (qD s l ts w h e):=by
 intro D;induction D with
 |zero=>intro a b h e d q u c ts w2 hD;omega
 |succ D Z=>
  intro a b h e d q u c ts w2 hD N n hb y low out Y g;have hl:=(Y.lt E).1;have hlen:=g.len;have eL:ab .i64 ((b:Int) - (a:Int))=((b - a:Nat):Int):=by rw [a4 _ (by omega)];omega
  have fin:∀{c vs:List J} {j:I},Out h e a b c->c.length=ts.length->Sg h e ts c->Sq s l w j vs->Sg a b c vs->i3 a b vs->qD s l ts w h e (V (.tuple #[])) j:=λout hlen g x z st=>
   ⟨rfl,_,x,g.trans (z.wide y n),(out.sg z y N n (by omega)).DQ st⟩
  have s6:∀(d L:Int) (p:Nat) (c:List J) (j:I),a<=p->p<b->c.length=ts.length->k2 a b c->Out h e a b c->Sq s l w j c->Sg h e ts c->my.S6 s (a:Int) (b:Int) d L (p:Int) j (qD s l ts w h e):=by
   intro d L p c j F G hlen low out x g;obtain ⟨pv,hp⟩:=dS (ts:=c) (i:=p) (by omega);refine (SM x E (by omega) hp F G).mono ?_;rintro _ H ⟨m,t,vs,rfl,A,C,B⟩;have ad:=B.am;have ai:=B.mb;have ae:=C.len;have ah:=low.sg C (by omega);have aj:=out.sg C y N n (by omega);have P:=g.trans (C.wide y n);have em:ab .i64 ((m:Int)+1)=((m+1:Nat):Int):=bw _ (by omega);refine ⟨_,_,rfl,bE (λ_=>?_) (λ_=>?_)⟩
   .refine (my.ok _ _ _ _ H _ (Z a m a m d true true vs vs H (by omega) ad (bB _) (by omega) (bB _) (λS T j2=>ah S T (by omega)) (Out.start _ _ _) A (Sg.refl _ _ _))).mono ?_;rintro _ W ⟨rfl,xs,M,K,st⟩;refine ⟨rfl,?_⟩;rw [em];have an:=K.len;refine Z (m+1) b h e d _ _ xs ts W (by omega) (by omega) n hb (by omega) ?_ (B.left aj K (by omega) y n st) M (P.trans (K.wide y (by omega)));intro S T j2 j0 aa ac O Q;rw [K.2 _ (by omega)] at O Q;exact B.low S T j2 j0 aa ac O Q
   .show eX _ _ _ _;rw [em];refine (my.ok _ _ _ _ H _ (Z (m+1) b (m+1) b d true true vs vs H (by omega) (by omega) (bB _) (by omega) (bB _) B.low (Out.start _ _ _) A (Sg.refl _ _ _))).mono ?_;rintro _ W ⟨rfl,xs,M,K,st⟩;refine ⟨rfl,?_⟩;have an:=K.len;refine Z a m h e d _ _ xs ts W (by omega) ad (by omega) hb y ?_ (B.right aj K (by omega) y n st) M (P.trans (K.wide (by omega) n));intro S T j2 j0 aa ac O Q;rw [K.2 _ (by omega)] at O Q;exact ah S T (by omega) j0 aa ac O Q
  have s5:∀(d L:Int) (q u:Bool) (p:Nat) (c:List J) (j:I),a<=p->p<b->c.length=ts.length->k2 a b c->Out h e a b c->Sq s l w j c->Sg h e ts c->my.S5 s (a:Int) (b:Int) d q u L (p:Int) j (qD s l ts w h e):=by
   intro d L q u p c j F G hlen low out x g;refine x.dr λH A=>aR (λh0=>?_) (λ_=>s6 d L p c H F G hlen low out A g);have af:0<a:=by omega
   obtain ⟨pv,hp⟩:=dS (ts:=c) (i:=p) (by omega);obtain ⟨aa,O⟩:=dS (ts:=c) (i:=a - 1) (by omega);refine A.cmp E O hp (lC af (by omega)) rfl λW M=>dM (λhc=>?_) (λ_=>s6 d L p c W F G hlen low out M g);have ak:=oq (gS hc);refine (SH M E (by omega) hp F G).mono ?_;rintro _ w6 ⟨m,vs,rfl,h6,g6,B⟩;have al:=low.sg g6 (by omega);have ad:=B.am;have ai:=B.mb;obtain ⟨o7,l7⟩:=B.R' (out.sg g6 y N n (by omega)) λS ac T j2 Q=>pq ak (al S T j2 af aa ac ((g6.2 _ (by omega)).trans O) Q);exact ⟨_,rfl,Z m b h e d q u vs ts w6 (by omega) ai n hb (by omega) l7 o7 h6 (g.trans (g6.wide y n))⟩
  have s4:∀(d L:Int) (q u:Bool) (p:Nat) (k:Int) (c:List J) (j:I),a<=p->p<b->c.length=ts.length->k2 a b c->Out h e a b c->Sq s l w j c->Sg h e ts c->my.S4 s (a:Int) (b:Int) d q u L (p:Int) k j (qD s l ts w h e):=by intro d L q u p k c j F G hlen low out x g;have k5:=s5 d L q u p c j F G hlen low out x g;refine bE (λ_=>bE (λ_=>bE (λ_=>?_) (λ_=>k5)) (λ_=>k5)) (λ_=>k5);refine (SK x E (by omega) (by omega) low).mono ?_;rintro _ H ⟨t,vs,rfl,A,C,st⟩;have ae:=C.len;exact ⟨_,rfl,bE (λht=>fin out hlen g A C (st ht)) (λ_=>s5 d L q u p vs H F G (by omega) (low.sg C (by omega)) (out.sg C y N n (by omega)) A (g.trans (C.wide y n)))⟩
  have s2:∀(d L:Int) (q u:Bool) (c:List J) (j:I),a+12<b->c.length=ts.length->k2 a b c->Out h e a b c->Sq s l w j c->Sg h e ts c->my.S2 s (a:Int) (b:Int) d q u L j (qD s l ts w h e):=by
   intro d L q u c j ag hlen low out x g;refine (SN x E ag (by omega)).mono ?_;rintro _ H ⟨p,k,rfl,F,G,A⟩;refine ⟨_,_,rfl,bE (λ_=>?_) (λ_=>s4 d L q u p k c H F G hlen low out A g)⟩;refine (SO A E (by omega) (by omega)).mono ?_;rintro _ W ⟨rfl,vs,M,P⟩;have ae:=P.len;have e1:ab .i64 ((b:Int) - 1)=((b - 1:Nat):Int):=lC (by omega) (by omega);have e2:ab .i64 ((p:Int) - (a:Int))=((p - a:Nat):Int):=by rw [a4 _ (by omega)];omega
   have e3:ab .i64 (((b - 1:Nat):Int) - ((p - a:Nat):Int))=((b - 1 - (p - a):Nat):Int):=by rw [a4 _ (by omega)];omega
   refine ⟨rfl,?_⟩;rw [e1,e2,e3];exact s4 d L q u _ 1 vs W (by omega) (by omega) (by omega) (low.sg P (by omega)) (out.sg P y N n (by omega)) M (g.trans (P.wide y n))
  refine my.b5 _ _ _ _ _ _ _ _ ?_;rw [eL];refine aR (λ_=>?_) (λag=>bE (λ_=>?_) (λ_=>dM (λ_=>?_) (λ_=>s2 _ _ _ _ c w2 (by omega) hlen low out Y g)))
  .refine (SJ Y E N (by omega)).mono ?_;rintro _ j ⟨rfl,vs,x,z,st⟩;exact ⟨rfl,fin out hlen g x z st⟩
  .refine (SI Y E (by omega) (by omega)).mono ?_;rintro _ j ⟨rfl,vs,x,z,st⟩;exact ⟨rfl,fin out hlen g x z st⟩
  .refine (SG Y E N (by omega)).mono ?_;rintro _ j ⟨rfl,vs,x,z⟩;have ae:=z.len;exact ⟨rfl,s2 _ _ _ _ vs j (by omega) (by omega) (low.sg z (by omega)) (out.sg z y N n (by omega)) x (g.trans (z.wide y n))⟩
end
def T3 (n:Nat):qH n:=by
 intro s l c G y h C x;have M:=J.cj h.bz;have L:=J.fi l;have k:EK s l c c l:=wP _ h (by intro F e;simp only [aB,a1,a7] at e;subst e;exact ⟨C,λE A z=>x E A (aT.1 z)⟩)
 have u:Sq s l c c l:=⟨k,.refl _⟩;refine KJ.ok _ c _ ((NK _ c).mono ?_);rintro _ j ⟨⟨t,rfl⟩,f⟩;refine ⟨t,rfl,?_⟩;have B:=Sx (s:=s) (l:=l) (w:=c) y (l.length+1) 0 l.length 0 l.length t true true l l j (by omega) (dv _) (bB _) (bB _) (bB _) (λK _ _ q=>absurd q (by omega)) (Out.start _ _ _) (u.bA f) (Sg.refl _ _ _);rw [show ((s.n:Nat):Int)=((l.length:Nat):Int) by omega];refine (my.ok _ _ _ _ j _ B).mono ?_;rintro _ N ⟨rfl,D,d,g,st⟩;exact ⟨rfl,⟨D,rfl,g.1,Ub (by rw [g.len];exact st),d.H.get 0⟩,d.fr⟩
def AN (p t:BL) (k:Nat):gQ (p++t) (p.length+k)=gQ t k:=by unfold gQ;rw [List.getD_eq_getElem?_getD,List.getD_eq_getElem?_getD,rP (by omega),Nat.add_sub_cancel_left]
def n4 (p t:BL):gQ (p++t) p.length=gQ t 0:=AN p t 0
def AO {t d:BL} {k:Nat} (c:k<t.length):gQ (t++d) k=gQ t k:=by unfold gQ;rw [List.getD_eq_getElem?_getD,List.getD_eq_getElem?_getD,yf c]
def zT (t:bx):bx:=⟨t.tx,0,t.k,t.lo,t.hi⟩
def wT (c:BL):bx:=⟨c,0,0,0,0⟩
def oW (s:BL) (i:Nat) (ts:List bx):Prop:=∀f,s.length<f+i->(kj s f i).map zT=ts
def Rq {s:BL} {i:Nat} (c:s.length<=i):oW s i [wT []]:=by
 intro f _;cases f with
 |zero=>rfl
 |succ f=>
  unfold kj;rw [aq c];rfl
def Rr {s:BL} {i:Nat} {ts:List bx} (c:i<s.length) (e:gQ s i=32) (k:oW s (i+1) ts):oW s i ts:=by
 intro f d;cases f with
 |zero=>omega
 |succ f=>
  unfold kj;rw [af (by omega),aq e];exact k f (by omega)
def wW {s:BL} {i n:Nat} {ts:List bx} (d:i<s.length) (e:gQ s i≠32) (c:n=if (e2 s i).n=0 then iu s i s.length 1 else (e2 s i).n) (h:0<n) (k:oW s (i+n) ts):oW s i (⟨(s.take (i+n)).drop i,0,(e2 s i).k,(e2 s i).lo,(e2 s i).hi⟩::ts):=by
 intro f j;cases f with
 |zero=>omega
 |succ f=>
  unfold kj;rw [af (by omega),af e];dsimp only;rw [<-c,List.map_cons,k f (by omega)];rfl
def gW (t:BL) (ts:List bx):Prop:=∀(p c:BL) (rest:List bx),(cI (gn t)=true->cI (gQ c 0)=false)->oW (p++t++c) (p.length+t.length) rest->oW (p++t++c) p.length (ts++rest)
def wL {t u:BL} (d:u≠[]):gn (t++u)=gn u:=by
 unfold gn;cases u with
 |nil=>exact absurd rfl d
 |cons c u=>
  rw [List.getLastD_eq_getLast?,List.getLastD_eq_getLast?,List.getLast?_append];cases e:(c::u).getLast? with
  |none=>simp at e
  |some h=>rfl
def gW.app {t u:BL} {ts d:List bx} (w:gW t ts) (k:gW u d) (q:u≠[]) (y:cI (gn t)=true->cI (gQ u 0)=false):gW (t++u) (ts++d):=by
 intro p c rest j n;have e:p++(t++u)++c=p++t++(u++c):=by simp
 have h:p++(t++u)++c=(p++t)++u++c:=by simp
 have z:0<u.length:=Dc.2 q;rw [cN ts d rest,e];refine w p (u++c) (d++rest) (λx=>?_) ?_
 .rw [AO z];exact y x
 .rw [<-e,h];have:=k (p++t) c rest (by rw [wL q] at j;exact j) (by rw [<-h];rw [cd] at n;rw [cd];rw [Nat.add_assoc];exact n)
  rwa [cd] at this
def Pp:gW [32] []:=by intro p d rest _ c;exact Rr (by simp) (by rw [cN,n4];rfl) c
def Fb {s:BL} {i:Nat} (e:gQ s i≠39) (h:gQ s i≠92):e6 s i=(0,0):=by
 have c:(gQ s i==39)=false:=by simpa using e
 have d:(gQ s i==92)=false:=by simpa using h
 unfold e6;rw [c,d];simp
def xZ {n:Nat} (c:n<16):eO (eL n)=(n:Int):=by
 have:n=0\/n=1\/n=2\/n=3\/n=4\/n=5\/n=6\/n=7\/n=8\/n=9\/n=10\/n=11\/n=12\/n=13\/n=14\/n=15:=by omega
 (repeat' rcases this with rfl|this)<;>(try subst this)<;>decide
def zC (c:UInt8):0<(bo c).length:=by unfold bo;split<;>simp
def NA (c:UInt8):gQ (bo c) 0=39\/gQ (bo c) 0=92:=by
 unfold bo;split
 .exact .inl rfl
 .exact .inr rfl
def NB (c:UInt8):bo c≠[]:=by unfold bo;split<;>simp
def zE (c:UInt8) (p d:BL):e6 (p++bo c++d) p.length=(c,(bo c).length):=by
 have g:∀j,gQ (p++bo c++d) (p.length+j)=gQ (bo c++d) j:=λj=>by rw [cN,AN]
 have n:gQ (p++bo c++d) p.length=gQ (bo c++d) 0:=g 0;unfold e6;rw [n,g 1,g 2,g 3];by_cases h:kN c=true
 .have e:bo c=[39,c,39]:=by unfold bo;rw [aq h]
  rw [e];have:ah (p.length+3<=(p++[39,c,39]++d).length)=true:=by simp<;>omega
  rw [this,aq]
  .rfl
  .show (true&&true&&true&&kN c)=true;rw [h];rfl
 .have e:bo c=[92,120,eL (c.toNat / 16),eL (c.toNat%16)]:=by unfold bo;rw [af h]
  have q:=c.toNat_lt;rw [e];have:ah (p.length+4<=(p++[92,120,eL (c.toNat / 16),eL (c.toNat%16)]++d).length)=true:=by simp<;>omega
  have k:(gQ ([92,120,eL (c.toNat / 16),eL (c.toNat%16)]++d) 0==39)=false:=rfl;rw [this,k,af (by simp),aq]
  .show (UInt8.ofNat ((16 *eO (eL (c.toNat / 16))+eO (eL (c.toNat%16))).toNat),4)=_;rw [xZ (by omega),xZ (by omega)];congr 1;rw [show (16 *((c.toNat / 16:Nat):Int)+((c.toNat%16:Nat):Int)).toNat=c.toNat by omega];exact UInt8.ofNat_toNat
  .show (true&&true&&true&&ah (0<=eO (eL (c.toNat / 16)))&&ah (0<=eO (eL (c.toNat%16))))=true;rw [xZ (by omega),xZ (by omega)];simp;omega
def yF (p t c:BL):((p++t++c).take (p.length+t.length)).drop p.length=t:=by
 rw [show p.length+t.length=(p++t).length by simp,List.take_left',List.drop_left']
 .rfl
 .rfl
def Pm (c:UInt8):gW (bo c) [⟨bo c,0,2,c,c⟩]:=by
 intro p d rest _ u;have q:=zE c p d;have e:=zC c;have j:e2 (p++bo c++d) p.length=⟨2,c,c,(bo c).length⟩:=by unfold e2;rw [q];exact aq e
 have k:gQ (p++bo c++d) p.length=gQ (bo c) 0:=by rw [cN,n4,AO e]
 have:=wW (s:=p++bo c++d) (i:=p.length) (n:=(bo c).length) (ts:=rest) (by simp;omega) (by rw [k];rcases NA c with h|h<;>rw [h]<;>decide) (by rw [j];exact (af (by show ¬(bo c).length=0;omega)).symm) e u;rw [j,yF] at this;exact this
def Po {lo hi:UInt8} (d:lo.toNat<=hi.toNat):gW (91::(bo lo++45::(bo hi++[93]))) [⟨91::(bo lo++45::(bo hi++[93])),0,2,lo,hi⟩]:=by
 intro p c rest _ u;obtain ⟨t,e⟩:∃t,t=91::(bo lo++45::(bo hi++[93])):=⟨_,rfl⟩;rw [<-e] at u ⊢;have B:t.length=(bo lo).length+(bo hi).length+3:=by rw [e];simp;omega
 have C:=zC lo;have D:=zC hi;have h:p++t++c=(p++[91])++bo lo++(45::(bo hi++[93])++c):=by rw [e];simp
 have j:p++t++c=(p++91::(bo lo++[45]))++bo hi++([93]++c):=by rw [e];simp
 have w:e6 (p++t++c) p.length=(0,0):=by
  have:gQ (p++t++c) p.length=91:=by rw [cN,n4,e];rfl
  exact Fb (by rw [this];decide) (by rw [this];decide)
 have x:e6 (p++t++c) (p.length+1)=(lo,(bo lo).length):=by rw [h,show p.length+1=(p++[91]).length by simp];exact zE lo _ _
 have y:e6 (p++t++c) (p.length+1+(bo lo).length+1)=(hi,(bo hi).length):=by rw [j,show p.length+1+(bo lo).length+1=(p++91::(bo lo++[45])).length by simp;omega];exact zE hi _ _
 have k:gQ (p++t++c) p.length=91:=by rw [cN,n4,e];rfl
 have z:gQ (p++t++c) (p.length+1+(bo lo).length)=45:=by rw [h,show p.length+1+(bo lo).length=(p++[91]++bo lo).length by simp;omega,n4];rfl
 have A:gQ (p++t++c) (p.length+1+(bo lo).length+1+(bo hi).length)=93:=by rw [j,show p.length+1+(bo lo).length+1+(bo hi).length=(p++91::(bo lo++[45])++bo hi).length by simp;omega,n4];rfl
 have E:(p++t++c).length=p.length+t.length+c.length:=by simp;omega
 have q:e2 (p++t++c) p.length=⟨2,lo,hi,t.length⟩:=by
  unfold e2;rw [w,x];dsimp only;rw [y,k,z];dsimp only;rw [A,af (by omega),af (by simp),af (by
   rintro (d|d|d)
   .omega
   .omega
   .exact d rfl),af (by
   rintro (d|d|d|d)
   .omega
   .omega
   .exact d rfl
   .omega)]
  congr 1;omega
 have:=wW (s:=p++t++c) (i:=p.length) (n:=t.length) (ts:=rest) (by omega) (by rw [k];decide) (by rw [q];exact (af (by show ¬t.length=0;omega)).symm) (by omega) u;rw [q,yF] at this;exact this
def TP {s:BL} {i:Nat} (hi:cI (gQ s i)=true):∀(f n m:Nat),n<=m->m<=n+f->i+m<=s.length->(∀c,n<=c->c<m->cI (gQ s (i+c))=true)->(i+m<s.length->cI (gQ s (i+m))=false)->iu s i f n=m:=by
 intro f;induction f with
 |zero=>intro n m k q _ _ _;unfold iu;omega
 |succ f w=>
  intro n m k q u e h;unfold iu;by_cases j:n=m
  .subst j;rw [af];rw [hi];intro d;simp only [Bool.true_and,bn,decide_eq_true_eq] at d;rw [h d.1] at d;cases d.2
  .rw [aq]
   .exact w (n+1) m (by omega) (by omega) u (λc y x=>e c (by omega) x) h
   .rw [hi,e n (bB _) (by omega)];simp;omega
def TO {s:BL} {i:Nat} (hi:cI (gQ s i)=false) (f:Nat):iu s i f 1=1:=by
 cases f with
 |zero=>rfl
 |succ f=>unfold iu;rw [hi];rfl
def IH {s:BL} {i:Nat} (c:gQ s i≠39) (d:gQ s i≠92) (e:gQ s i≠91):e2 s i=mj:=by unfold e2;rw [Fb c d];dsimp only;rw [af (by omega),aq e]
def nX (c:UInt8) (e:c≠39/\c≠92/\c≠91/\c≠32/\cI c=false):gW [c] [wT [c]]:=by
 intro p h rest _ q;have d:gQ (p++[c]++h) p.length=c:=by rw [cN,n4];rfl
 have k:e2 (p++[c]++h) p.length=mj:=IH (by rw [d];exact e.1) (by rw [d];exact e.2.1) (by rw [d];exact e.2.2.1);have:=wW (s:=p++[c]++h) (i:=p.length) (n:=1) (ts:=rest) (by simp<;>omega) (by rw [d];exact e.2.2.2.1) (by rw [k];exact ((aq rfl).trans (TO (by rw [d];exact e.2.2.2.2) _)).symm) (by omega) q;rw [k] at this;have j:=yF p [c] h;rw [show [c].length=1 from rfl] at j;rw [j] at this;exact this
def An {t:BL} (x:t.all cI=true) (q:t≠[]):gW t [wT t]:=by
 intro p c rest C D;have u:0<t.length:=Dc.2 q;have w:∀e,e<t.length->cI (gQ (p++t++c) (p.length+e))=true:=λe d=>by rw [cN,AN,AO d];unfold gQ;rw [List.getD_eq_getElem?_getD,bc d];exact f'.1 x _ (List.getElem_mem d)
 have h:=w 0 u;rw [Nat.add_zero] at h;have j:∀k:UInt8,cI k=false->gQ (p++t++c) p.length≠k:=λk A z=>by rw [z,A] at h;cases h
 have y:e2 (p++t++c) p.length=mj:=IH (j 39 rfl) (j 92 rfl) (j 91 rfl);have F:(p++t++c).length=p.length+t.length+c.length:=by simp;omega
 have B:cI (gn t)=true:=by unfold gn;rw [List.getLastD_eq_getLast?,List.getLast?_eq_some_getLast q];exact f'.1 x _ (List.getLast_mem q)
 have E:iu (p++t++c) p.length (p++t++c).length 1=t.length:=TP h _ 1 t.length u (by omega) (by omega) (λe _ d=>w e d) λ_=>by rw [show p.length+t.length=(p++t).length by simp,n4];exact C B
 have:=wW (s:=p++t++c) (i:=p.length) (n:=t.length) (ts:=rest) (by omega) (j 32 rfl) (by rw [y];exact ((aq rfl).trans E).symm) u D;rw [y,yF] at this;exact this
def fM (k:Int):List bx:=if k=3 then [] else [wT (eR k)]
def sc (k:Int):bx:=wT (if k=3 then [99,97,116] else if k=4 then [97,108,116] else [97,108,108])
def db (lv:Nat) (a:Rx) (t:List bx):List bx:=if bK a<lv then wT [40]::(t++[wT [41]]) else t
def tD (k:Int):List (List bx)->List bx
 |[]=>[]
 |t::c=>t++c.flatMap λd=>fM k++d
mutual
def bp:Rx->List bx
 |.mk c lo d l=>if c=0 then [wT [110,111,110,101]] else if c=1 then [wT [101,109,112,116,121]] else
  if c=2 then [⟨a3 (.mk 2 lo d []),0,2,lo,d⟩] else
  if c=6 then wT [33]::(gx 3 l).flatten else if c=7 then (gx 4 l).flatten++[wT [42]] else
  if l.length<2 then sc c::wT [40]::((gx 0 l).flatten++[wT [41]]) else
  tD c (gx (bK (.mk c lo d l)+1) l)
def gx (lv:Nat):List Rx->List (List bx)
 |[]=>[]
 |a::l=>db lv a (bp a)::gx lv l
end
def Pn {lv:Nat} {a:Rx} (c:gW (a3 a) (bp a)) (d:a3 a≠[]):gW (cg lv a (a3 a)) (db lv a (bp a)):=by
 unfold cg db;split
 .exact (nX 40 (by decide)).app (c.app (nX 41 (by decide)) (by simp) λ_=>rfl) (by simp) λc=>by cases c
 .exact c
def Sr {lv:Nat} {a:Rx} (c:a3 a≠[]):cg lv a (a3 a)≠[]:=by
 unfold cg;split
 .simp
 .exact c
def Gu {k:Int} (C:k=3\/k=4\/k=5):∀(ts:List BL) (j:List (List bx)) (out:BL) (o:List bx),out≠[]->gW out o->(ts.length=j.length/\∀(i:Nat) t e,ts[i]? =some t->j[i]? =some e->t≠[]/\gW t e)->gW (fY k out ts) (o++j.flatMap λe=>fM k++e)
 |[],[],out,o,_,n,_=>by simpa [fY] using n
 |[],_::_,_,_,_,_,c=>by cases c.1
 |_::_,[],_,_,_,_,c=>by cases c.1
 |t::ts,e::j,out,o,H,n,c=>by
  obtain ⟨u,z⟩:=c.2 0 t e rfl rfl;have go:∀(q:BL) (w:List bx),q≠[]->gW q w->gW (fY k q ts) (w++j.flatMap λe=>fM k++e):=λq w G x=>Gu C ts j q w G x ⟨by simpa using c.1,λi t e A B=>c.2 (i+1) t e A B⟩;unfold fY;rw [cO,<-cN];by_cases y:k=3
  .subst y;have E:eR 3=[]:=rfl;have F:fM 3=[]:=rfl;rw [E,F,fI,List.nil_append];refine go _ _ (by simp [u]) ?_;by_cases h:cI (gn out)=true/\cI (gQ t 0)=true
   .rw [aq ⟨rfl,h⟩];have:=(n.app Pp (by simp) λ_=>rfl).app z u λc=>by rw [wL (by simp)] at c;cases c
    simpa using this
   .rw [af (λc=>h c.2)];exact n.app z u λA=>by
     cases B:cI (gQ t 0) with
     |false=>rfl
     |true=>exact absurd ⟨A,B⟩ h
  .rw [af (λc=>y c.1)];refine go _ _ (by simp [u]) ?_;have:∃d,eR k=[d]/\fM k=[wT [d]]/\(d≠39/\d≠92/\d≠91/\d≠32/\cI d=false):=by
    rcases C with c|c|c
    .exact absurd c y
    .subst c;exact ⟨124,rfl,rfl,by decide⟩
    .subst c;exact ⟨38,rfl,rfl,by decide⟩
   obtain ⟨d,D,x,h⟩:=this;rw [D,x,<-cN];refine (n.app (nX d h) (by simp) λ_=>by simpa [gQ] using h.2.2.2.2).app z u λc=>?_;rw [wL (by simp)] at c;have:gn [d]=d:=rfl;rw [this,h.2.2.2.2] at c;cases c
mutual
def Gv:∀F:Rx,cq F=true->gW (a3 F) (bp F)/\a3 F≠[]
 |.mk e lo k l,d=>by
  obtain ⟨S,J,c⟩:=l6 d;have z:=λlv=>Gw lv l S;have one:∀(lv:Nat),l.length=1->∃t n,cG lv l=[t]/\gx lv l=[n]/\gW t n/\t≠[]:=λlv G=>by
   match l,G,z with
   |[a],_,z=>
    obtain ⟨j,h⟩:=(z lv).2 0 _ _ rfl rfl;exact ⟨_,_,rfl,rfl,h,j⟩
  unfold a3 bp;by_cases A:e=0
  .rw [aq A,aq A];exact ⟨An (by decide) (by simp),by simp⟩
  rw [af A,af A];by_cases B:e=1
  .rw [aq B,aq B];exact ⟨An (by decide) (by simp),by simp⟩
  rw [af B,af B];by_cases C:e=2
  .rw [aq C,aq C];have T:lo.toNat<=k.toNat:=by
    rcases c with c|c|c|c
    .omega
    .exact c.2.2
    .omega
    .omega
   have Q:a3 (.mk 2 lo k [])=if lo=k then bo lo else 91::(bo lo++45::(bo k++[93])):=by unfold a3;rw [af (by decide),af (by decide),aq rfl]
   rw [Q];by_cases H:lo=k
   .subst H;rw [aq rfl];exact ⟨Pm lo,NB lo⟩
   .rw [af H];exact ⟨Po T,by simp⟩
  rw [af C,af C];by_cases D:e=6
  .rw [aq D,aq D];obtain ⟨t,n,w,x,h,j⟩:=one 3 (by rcases c with c|c|c|c<;>first |omega|(obtain ⟨_,N,rfl⟩:=c;rfl));rw [w,x];refine ⟨?_,by simp⟩;have:=(nX 33 (by decide)).app h j λd=>by cases d
   simpa [hv] using this
  rw [af D,af D];by_cases E:e=7
  .rw [aq E,aq E];obtain ⟨t,n,w,x,h,j⟩:=one 4 (by rcases c with c|c|c|c<;>first |omega|(obtain ⟨_,N,rfl⟩:=c;rfl));rw [w,x];refine ⟨?_,by simp⟩;have:=h.app (nX 42 (by decide)) (by simp) λ_=>rfl;simpa [hv] using this
  rw [af E,af E];have M:e=3\/e=4\/e=5:=by omega
  by_cases q:l.length<2
  .rw [aq q,aq q];have W:∃y:BL,om e=y++[40]/\sc e=wT y/\y.all cI=true/\y≠[]:=by
    rcases M with d|d|d<;>subst d
    .exact ⟨[99,97,116],rfl,rfl,by decide,by simp⟩
    .exact ⟨[97,108,116],rfl,rfl,by decide,by simp⟩
    .exact ⟨[97,108,108],rfl,rfl,by decide,by simp⟩
   obtain ⟨y,w,x,wl,Z⟩:=W;rw [w,x];have K:=(An wl Z).app (nX 40 (by decide)) (by simp) λ_=>rfl;refine ⟨?_,by simp⟩
   match l,q,one with
   |[],_,_=>
    have:=K.app (nX 41 (by decide)) (by simp) λ_=>rfl;simpa [cG,gx,hv] using this
   |[a],_,one=>
    obtain ⟨t,n,O,P,h,j⟩:=one 0 rfl;rw [O,P];have:=K.app (h.app (nX 41 (by decide)) (by simp) λ_=>rfl) (by simp) λd=>by rw [wL (by simp)] at d;cases d
    simpa [hv] using this
  .rw [af q,af q];have u:=z (bK (.mk e lo k l)+1);generalize bK (.mk e lo k l)+1=lv at u ⊢
   match l,q,u with
   |[],d,_=>exact absurd (by simp) d
   |a::l,_,u=>
    obtain ⟨j,h⟩:=u.2 0 _ _ rfl rfl;unfold cG gx;show gW (fY e _ _) (_++_)/\fY e _ _≠[];refine ⟨Gu M _ _ _ _ j h ⟨?_,λi t n G J=>u.2 (i+1) t n G J⟩,?_⟩
    .have:=u.1;unfold cG gx at this;simpa using this
    .have:∀(ts:List BL) (out:BL),out≠[]->fY e out ts≠[]:=by
      intro ts;induction ts with
      |nil=>intro out d;exact d
      |cons t ts Y=>
       intro out d;unfold fY;refine Y _ ?_;intro L;rw [List.append_eq_nil_iff,List.append_eq_nil_iff] at L;have:=L.1.1;split at this
       .simp at this
       .exact d this
     exact this _ _ j
def Gw (lv:Nat):∀l:List Rx,dk l=true->(cG lv l).length=(gx lv l).length/\∀(i:Nat) t d,(cG lv l)[i]? =some t->(gx lv l)[i]? =some d->t≠[]/\gW t d
 |[],_=>by unfold cG gx;exact ⟨rfl,λi t d c=>by simp at c⟩
 |a::l,c=>by
  unfold dk at c;rw [bn] at c;obtain ⟨k,j⟩:=Gv a c.1;obtain ⟨n,q⟩:=Gw lv l c.2;unfold cG gx;refine ⟨by simp [n],λi t d e h=>?_⟩;cases i with
  |zero=>
   simp only [List.getElem?_cons_zero,Option.some.injEq] at e h;subst e h;exact ⟨Sr j,Pn k j⟩
  |succ i=>exact q i t d e h
end
def UY {x:Rx} (d:cq x=true):(km (cg 0 x (a3 x))).map zT=bp x++[wT []]:=by
 have c:cg 0 x (a3 x)=a3 x:=by unfold cg;rw [af (by omega)]
 rw [c];have:=(Gv x d).1 [] [] [wT []] (λ_=>rfl) (Rq (by simp));rw [List.nil_append,fI] at this;exact this _ (by simp)
def bV (l:List bx) (i:Nat) (ts:List bx):Prop:=(l.drop i).map zT=ts
def dT:List bx->BL
 |[]=>[]
 |t::_=>t.tx
section
variable {l:List bx} {i:Nat} {t:bx} {ts a b:List bx}
def bV.hd (c:bV l i (t::ts)):(dI l i).tx=t.tx/\(dI l i).k=t.k/\(dI l i).lo=t.lo/\(dI l i).hi=t.hi:=by
 unfold bV at c;cases d:l.drop i with
 |nil=>rw [d] at c;cases c
 |cons e u=>
  rw [d] at c;have h:zT e=t:=by simpa using (List.cons.inj c).1
  have n:l[i]? =some e:=by have:=lD (xs:=l) (i:=i) (j:=0);rw [d] at this;simpa using this.symm
  have q:dI l i=e:=by unfold dI;rw [List.getD_eq_getElem?_getD,n];rfl
  rw [q,<-h];exact ⟨rfl,rfl,rfl,rfl⟩
def bV.app (c:bV l i (a++b)):bV l (i+a.length) b:=by unfold bV at c ⊢;have:=congrArg (List.drop a.length) c;rw [List.drop_left' rfl,<-List.map_drop,List.drop_drop] at this;exact this
def bV.tl (c:bV l i (t::ts)):bV l (i+1) ts:=bV.app (a:=[t]) c
def bV.pW (c:bV l i ts):eG l (i,false)=dT ts:=by
 cases ts with
 |cons t ts=>exact c.hd.1
 |nil=>
  unfold bV at c;have d:l.drop i=[]:=by simpa using c
  have e:l.length<=i:=by simpa using d
  show (dI l i).tx=[];unfold dI;rw [List.getD_eq_getElem?_getD,List.getElem?_eq_none e];rfl
def bV.HE (c:bV l i (t::ts)) {s:BL} (e:t.tx=s) (d:s.isEmpty=false):dH l s (i,false)=(true,(i+1,false)):=by unfold dH;rw [c.pW,show dT (t::ts)=s from e,d];simp
def bV.tz {s:BL} (c:bV l i (wT s::ts)) (d:s.isEmpty=false):dH l s (i,false)=(true,(i+1,false)):=c.HE rfl d
def bV.m9 (c:bV l i ts) {s:BL} (e:dT ts≠s):dH l s (i,false)=(false,(i,false)):=by unfold dH;rw [c.pW,show (dT ts==s)=false by simpa using e];rfl
end
def lQ (t:bx):Prop:=t.tx≠[]/\t.tx≠[41]/\t.tx≠[44]/\t.tx≠[124]/\t.tx≠[38]/\t.tx≠[42]
def Mz (lo hi:UInt8):3<=(a3 (.mk 2 lo hi [])).length:=by
 unfold a3;rw [af (by decide),af (by decide),aq rfl];have c:3<=(bo lo).length:=by unfold bo;split<;>simp
 split
 .exact c
 .simp;omega
def wD {t:bx} (c:2<=t.tx.length):lQ t:=by refine ⟨?_,?_,?_,?_,?_,?_⟩<;>intro d<;>rw [d] at c<;>simp at c
def LO (lv:Nat):∀l:List Rx,gx lv l=l.map λa=>db lv a (bp a)
 |[]=>rfl
 |a::l=>by unfold gx;rw [LO lv l];rfl
def tk {lv:Nat} {a:Rx} (d:∃t c,bp a=t::c/\lQ t):∃t c,db lv a (bp a)=t::c/\lQ t:=by
 unfold db;split
 .exact ⟨wT [40],_,rfl,by unfold lQ wT;decide⟩
 .exact d
def Vf (k:Int):lQ (sc k):=by
 unfold sc;refine wD ?_;unfold wT;dsimp only;split
 .simp
 .split<;>simp
mutual
def wA:∀B:Rx,cq B=true->∃t h,bp B=t::h/\lQ t
 |.mk c lo u l,n=>by
  obtain ⟨C,D,d⟩:=l6 n;have e:=Hh l C;unfold bp;by_cases w:c=0
  .rw [aq w];exact ⟨_,_,rfl,wD (by simp [wT])⟩
  rw [af w];by_cases x:c=1
  .rw [aq x];exact ⟨_,_,rfl,wD (by simp [wT])⟩
  rw [af x];by_cases y:c=2
  .rw [aq y];exact ⟨_,_,rfl,wD (by have:=Mz lo u;show 2<=(a3 (.mk 2 lo u [])).length;omega)⟩
  rw [af y];by_cases z:c=6
  .rw [aq z];exact ⟨_,_,rfl,by unfold lQ wT;decide⟩
  rw [af z];by_cases A:c=7
  .rw [aq A];obtain ⟨j,rfl⟩:∃j,l=[j]:=by rcases d with d|d|d|d<;>first |omega|exact d.2
   obtain ⟨t,h,k,f⟩:=tk (lv:=4) (e j (by simp));exact ⟨t,h++[wT [42]],by simp [gx,k],f⟩
  rw [af A];by_cases q:l.length<2
  .rw [aq q];exact ⟨_,_,rfl,Vf c⟩
  rw [af q]
  match l,q,e with
  |[],n,_=>exact absurd (by simp) n
  |a::l,_,e=>
   obtain ⟨t,h,k,f⟩:=tk (lv:=bK (.mk c lo u (a::l))+1) (e a (by simp));unfold gx;exact ⟨t,_,by unfold tD;rw [k];rfl,f⟩
def Hh:∀l:List Rx,dk l=true->∀a∈l,∃t h,bp a=t::h/\lQ t
 |[],_,a,c=>by cases c
 |b::l,d,a,c=>by
  unfold dk at d;rw [bn] at d;rcases aB.1 c with e|c
  .rw [e];exact wA b d.1
  .exact Hh l d.2 a c
end
def nP (x:BL):Prop:=x=[]\/x=[41]\/x=[44]
def lR (x:BL):Prop:=nP x\/x=[124]
def lS (x:BL):Prop:=lR x\/x=[38]
def lS.ne {x:BL} (c:lS x):x≠[42]:=by rintro rfl;rcases c with ((c|c|c)|c)|c<;>cases c
def lR.ne {x:BL} (c:lR x):x≠[38]:=by rintro rfl;rcases c with (c|c|c)|c<;>cases c
def nP.ne {x:BL} (c:nP x):x≠[124]:=by rintro rfl;rcases c with c|c|c<;>cases c
section
variable {l:List bx}
def E7 {j:Nat} {rest:List bx} (c:bV l j rest) (s:lS (dT rest)):mT l (j,false)=false:=by unfold mT;rw [c.pW];rcases s with ((c|c|c)|c)|c<;>rw [c]<;>rfl
def Nr {j:Nat} {t:bx} {ts:List bx} (d:bV l j (t::ts)) (s:lQ t):mT l (j,false)=true:=by obtain ⟨e,h,k,n,q,u⟩:=s;have c:dT (t::ts)=t.tx:=rfl;unfold mT;rw [d.pW,c];simp [e,h,k,n,q]
def KZ {F j:Nat} {n:Rx} {rest:List bx} (e:1<=F) (d:bV l j rest) (s:dT rest≠[42]):iw l F n (j,false)=some (n,(j,false)):=by obtain ⟨F,rfl⟩:∃c,F=c+1:=⟨F - 1,by omega⟩;unfold iw;rw [d.m9 s]
def L3 {F i j:Nat} {n:Rx} {rest:List bx} (e:1<=F) (k:fb l F (i,false)=some (n,(j,false))) (d:bV l j rest) (s:lS (dT rest)):iv l (F+1) (i,false)=some (n,(j,false)):=by obtain ⟨F,rfl⟩:∃c,F=c+1:=⟨F - 1,by omega⟩;unfold iv;rw [k];dsimp only;unfold l9;rw [E7 d s];rfl
def LZ {F i j:Nat} {n:Rx} {rest:List bx} (e:1<=F) (k:iv l F (i,false)=some (n,(j,false))) (d:bV l j rest) (s:lR (dT rest)):ie l (F+1) (i,false)=some (n,(j,false)):=by obtain ⟨F,rfl⟩:∃c,F=c+1:=⟨F - 1,by omega⟩;unfold ie;rw [k];dsimp only;unfold lV;rw [d.m9 s.ne];rfl
def U6 {F i j:Nat} {n:Rx} {rest:List bx} (e:1<=F) (k:ie l F (i,false)=some (n,(j,false))) (d:bV l j rest) (s:nP (dT rest)):gI l (F+1) (i,false)=some (n,(j,false)):=by obtain ⟨F,rfl⟩:∃c,F=c+1:=⟨F - 1,by omega⟩;unfold gI;rw [k];dsimp only;unfold lU;rw [d.m9 s.ne];rfl
def RF {i:Nat} {t:bx} {ts:List bx} (c:bV l i (t::ts)) {s:BL} (e:t.tx=s) (d:s.isEmpty=false):hx l s (i,false)=(i+1,false):=by unfold hx;rw [c.HE e d]
def um {i:Nat} {ts:List bx} {s:BL} (c:bV l i (wT s::ts)) (d:s.isEmpty=false):hx l s (i,false)=(i+1,false):=RF c rfl d
def HV {F i:Nat} {ts:List bx} (c:bV l i ts) (s:dT ts≠[33]) {n:Rx} {j:Nat} (k:k8 l F (i,false)=some (n,(j,false))):fb l (F+1) (i,false)=iw l F n (j,false):=by unfold fb;rw [c.m9 s];dsimp only;rw [k]
def paren {F i j:Nat} {n:Rx} {ts q:List bx} (c:bV l i (wT [40]::ts)) (k:gI l F (i+1,false)=some (n,(j,false))) (d:bV l j (wT [41]::q)):fb l (F+2) (i,false)=iw l (F+1) n (j+1,false):=by
 refine HV c (by show ([40]:BL)≠[33];decide) ?_;unfold k8;have e:(dI l i).k=0:=c.hd.2.1;have h:iy l (i,false) 6 0=none:=by simp only [iy,c.pW];rfl
 dsimp only;rw [e,h,um c rfl];dsimp only;rw [k];dsimp only;rw [um d rfl];rfl
def Mq {F i k:Nat} {ts:List bx} (c:bV l i (wT (hZ k)::ts)) (d:k=0\/k=1\/k=3\/k=4\/k=5):fb l (F+2) (i,false)=if k<=2 then iw l (F+1) (.mk k 0 0 []) (i+1,false) else match j8 l F (i+1,false) with
  |some (m,st)=>iw l (F+1) (.mk k 0 0 m) st
  |none=>none:=by
 unfold fb;have h:dT (wT (hZ k)::ts)≠[33]:=by show hZ k≠[33];rcases d with rfl|rfl|rfl|rfl|rfl<;>decide
 rw [c.m9 h];dsimp only;unfold k8;have e:(dI l i).k=0:=c.hd.2.1;have j:iy l (i,false) 6 0=some k:=by simp only [iy,c.pW];rcases d with rfl|rfl|rfl|rfl|rfl<;>rfl
 dsimp only;rw [e,j];rcases d with rfl|rfl|rfl|rfl|rfl
 .rfl
 .rfl
 all_goals
  rw [af (by omega)];cases j8 l F (i+1,false)<;>rfl
def SZ {F i:Nat} {t:bx} {ts:List bx} (c:bV l i (t::ts)) (j:t.k=2) (n:t.tx≠[33]):fb l (F+2) (i,false)=iw l (F+1) (.mk 2 t.lo t.hi []) (i+1,false):=by refine HV c n ?_;unfold k8;obtain ⟨-,d,e,h⟩:=c.hd;dsimp only;rw [d,j,e,h];rfl
structure nN (l:List bx) (n:Rx):Prop where
 p4:∀i rest F,bV l i (db 4 n (bp n)++rest)->12 *n.sz+5<=F->∃F',F<=F'+12 *n.sz+4/\fb l F (i,false)=iw l F' n (i+(db 4 n (bp n)).length,false)
 p3:∀i rest F,bV l i (db 3 n (bp n)++rest)->dT rest≠[42]->12 *n.sz+5<=F->fb l F (i,false)=some (n,(i+(db 3 n (bp n)).length,false))
 p2:∀i rest F,bV l i (db 2 n (bp n)++rest)->lS (dT rest)->12 *n.sz+5<=F->iv l F (i,false)=some (n,(i+(db 2 n (bp n)).length,false))
 p1:∀i rest F,bV l i (db 1 n (bp n)++rest)->lR (dT rest)->12 *n.sz+5<=F->ie l F (i,false)=some (n,(i+(db 1 n (bp n)).length,false))
 p0:∀i rest F,bV l i (bp n++rest)->nP (dT rest)->12 *n.sz<=F->gI l F (i,false)=some (n,(i+(bp n).length,false))
def lift {n:Rx} (N:bK n<=4)
  (x:bK n=4->∀i rest c,bV l i (bp n++rest)->12 *n.sz - 6<=c->∃q,c<=q+12 *n.sz+4/\1<=q/\fb l c (i,false)=iw l q n (i+(bp n).length,false))
  (K:bK n=3->∀i rest c,bV l i (bp n++rest)->dT rest≠[42]->12 *n.sz - 6<=c->fb l c (i,false)=some (n,(i+(bp n).length,false)))
  (J:bK n=2->∀i rest c,bV l i (bp n++rest)->lS (dT rest)->12 *n.sz - 6<=c->iv l c (i,false)=some (n,(i+(bp n).length,false)))
  (H:bK n=1->∀i rest c,bV l i (bp n++rest)->lR (dT rest)->12 *n.sz - 6<=c->ie l c (i,false)=some (n,(i+(bp n).length,false)))
  (G:bK n=0->∀i rest c,bV l i (bp n++rest)->nP (dT rest)->12 *n.sz - 6<=c->gI l c (i,false)=some (n,(i+(bp n).length,false))):nN l n:=by
 have O:=r5 n;have F:3<=bK n->∀i rest c,bV l i (bp n++rest)->dT rest≠[42]->12 *n.sz - 5<=c->fb l c (i,false)=some (n,(i+(bp n).length,false)):=by
  intro e i rest c d s h;rcases Nat.lt_or_ge 3 (bK n) with k|k
  .obtain ⟨q,y,L,u⟩:=x (by omega) i rest c d (by omega);rw [u];exact KZ L d.app s
  .exact K (by omega) i rest c d s (by omega)
 have E:2<=bK n->∀i rest c,bV l i (bp n++rest)->lS (dT rest)->12 *n.sz - 4<=c->iv l c (i,false)=some (n,(i+(bp n).length,false)):=by
  intro e i rest c d s h;obtain ⟨c,rfl⟩:∃j,c=j+1:=⟨c - 1,by omega⟩;rcases Nat.lt_or_ge 2 (bK n) with k|k
  .exact L3 (by omega) (F (by omega) i rest c d s.ne (by omega)) d.app s
  .exact J (by omega) i rest _ d s (by omega)
 have D:1<=bK n->∀i rest c,bV l i (bp n++rest)->lR (dT rest)->12 *n.sz - 3<=c->ie l c (i,false)=some (n,(i+(bp n).length,false)):=by
  intro e i rest c d s h;obtain ⟨c,rfl⟩:∃j,c=j+1:=⟨c - 1,by omega⟩;rcases Nat.lt_or_ge 1 (bK n) with k|k
  .exact LZ (by omega) (E (by omega) i rest c d (.inl s) (by omega)) d.app s
  .exact H (by omega) i rest _ d s (by omega)
 have C:∀i rest c,bV l i (bp n++rest)->nP (dT rest)->12 *n.sz - 2<=c->gI l c (i,false)=some (n,(i+(bp n).length,false)):=by
  intro i rest c d s h;obtain ⟨c,rfl⟩:∃j,c=j+1:=⟨c - 1,by omega⟩;rcases Nat.lt_or_ge 0 (bK n) with k|k
  .exact U6 (by omega) (D (by omega) i rest c d (.inl s) (by omega)) d.app s
  .exact G (by omega) i rest _ d s (by omega)
 have z:∀i rest c,bV l i (wT [40]::(bp n++[wT [41]])++rest)->12 *n.sz<=c->fb l c (i,false)=iw l (c - 1) n (i+(wT [40]::(bp n++[wT [41]])).length,false):=by
  intro i rest c d h;obtain ⟨c,rfl⟩:∃j,c=j+2:=⟨c - 2,by omega⟩;have w:bV l i (wT [40]::(bp n++(wT [41]::rest))):=by simpa using d
  have u:=C (i+1) (wT [41]::rest) c w.tl (.inr (.inl rfl)) (by omega);rw [paren w u w.tl.app];have:i+(wT [40]::(bp n++[wT [41]])).length=i+1+(bp n).length+1:=by simp;omega
  rw [this];rfl
 have B:∀i rest c,bV l i (wT [40]::(bp n++[wT [41]])++rest)->dT rest≠[42]->12 *n.sz<=c->fb l c (i,false)=some (n,(i+(wT [40]::(bp n++[wT [41]])).length,false)):=by intro i rest c d s h;rw [z i rest c d h];exact KZ (by omega) d.app s
 have A:∀i rest c,bV l i (wT [40]::(bp n++[wT [41]])++rest)->lS (dT rest)->12 *n.sz+1<=c->iv l c (i,false)=some (n,(i+(wT [40]::(bp n++[wT [41]])).length,false)):=by intro i rest c d s h;obtain ⟨c,rfl⟩:∃j,c=j+1:=⟨c - 1,by omega⟩;exact L3 (by omega) (B i rest c d s.ne (by omega)) d.app s
 have M:∀i rest c,bV l i (wT [40]::(bp n++[wT [41]])++rest)->lR (dT rest)->12 *n.sz+2<=c->ie l c (i,false)=some (n,(i+(wT [40]::(bp n++[wT [41]])).length,false)):=by intro i rest c d s h;obtain ⟨c,rfl⟩:∃j,c=j+1:=⟨c - 1,by omega⟩;exact LZ (by omega) (A i rest c d (.inl s) (by omega)) d.app s
 refine ⟨?_,?_,?_,?_,λi rest c d s h=>C i rest c d s (by omega)⟩
 .intro i rest c d h;unfold db at d ⊢;split at d
  .rename_i e;rw [aq e];exact ⟨c - 1,by omega,z i rest c d (by omega)⟩
  .rename_i e;rw [af e];obtain ⟨q,y,_,u⟩:=x (by omega) i rest c d (by omega);exact ⟨q,y,u⟩
 .intro i rest c d s h;unfold db at d ⊢;split at d
  .rename_i e;rw [aq e];exact B i rest c d s (by omega)
  .rename_i e;rw [af e];exact F (by omega) i rest c d s (by omega)
 .intro i rest c d s h;unfold db at d ⊢;split at d
  .rename_i e;rw [aq e];exact A i rest c d s (by omega)
  .rename_i e;rw [af e];exact E (by omega) i rest c d s (by omega)
 .intro i rest c d s h;unfold db at d ⊢;split at d
  .rename_i e;rw [aq e];exact M i rest c d s (by omega)
  .rename_i e;rw [af e];exact D (by omega) i rest c d s (by omega)
def EW:∀(ks acc:List Rx) (i G:Nat) (rest:List bx),1<=G->(∀c∈ks,nN l c/\12 *c.sz+5+ks.length<=G)->bV l i ((ks.flatMap λa=>fM 4++db 1 a (bp a))++rest)->nP (dT rest)->lU l G acc (i,false)=some (lq 4 (acc++ks),(i+(ks.flatMap λa=>fM 4++db 1 a (bp a)).length,false))
 |[],acc,i,G,rest,q,_,d,s=>by obtain ⟨G,rfl⟩:∃e,G=e+1:=⟨G - 1,by omega⟩;unfold lU;have d:bV l i rest:=d;rw [d.m9 s.ne];simp
 |c::ks,acc,i,G,rest,q,h,d,s=>by
  obtain ⟨G,rfl⟩:∃e,G=e+1:=⟨G - 1,by omega⟩;obtain ⟨u,n⟩:=h c (by simp);rw [fw] at n;have j:bV l i (wT [124]::(db 1 c (bp c)++((ks.flatMap λa=>fM 4++db 1 a (bp a))++rest))):=by simpa [fM,eR] using d
  have st:lR (dT ((ks.flatMap λa=>fM 4++db 1 a (bp a))++rest)):=by
   cases ks with
   |nil=>exact .inl s
   |cons b ks=>exact .inr rfl
  unfold lU;rw [j.tz rfl];dsimp only;rw [u.p1 (i+1) _ G j.tl st (by omega)];dsimp only;rw [EW ks (acc++[c]) _ G rest (by omega) (λa k=>⟨(h a (by simp [k])).1,by have:=(h a (by simp [k])).2;rw [fw] at this;omega⟩) j.tl.app s];simp [fM];omega
def EX:∀(ks acc:List Rx) (i G:Nat) (rest:List bx),1<=G->(∀c∈ks,nN l c/\12 *c.sz+5+ks.length<=G)->bV l i ((ks.flatMap λa=>fM 5++db 2 a (bp a))++rest)->lR (dT rest)->lV l G acc (i,false)=some (lq 5 (acc++ks),(i+(ks.flatMap λa=>fM 5++db 2 a (bp a)).length,false))
 |[],acc,i,G,rest,q,_,d,s=>by obtain ⟨G,rfl⟩:∃e,G=e+1:=⟨G - 1,by omega⟩;unfold lV;have d:bV l i rest:=d;rw [d.m9 s.ne];simp
 |c::ks,acc,i,G,rest,q,h,d,s=>by
  obtain ⟨G,rfl⟩:∃e,G=e+1:=⟨G - 1,by omega⟩;obtain ⟨u,n⟩:=h c (by simp);rw [fw] at n;have j:bV l i (wT [38]::(db 2 c (bp c)++((ks.flatMap λa=>fM 5++db 2 a (bp a))++rest))):=by simpa [fM,eR] using d
  have st:lS (dT ((ks.flatMap λa=>fM 5++db 2 a (bp a))++rest)):=by
   cases ks with
   |nil=>exact .inl s
   |cons b ks=>exact .inr rfl
  unfold lV;rw [j.tz rfl];dsimp only;rw [u.p2 (i+1) _ G j.tl st (by omega)];dsimp only;rw [EX ks (acc++[c]) _ G rest (by omega) (λa k=>⟨(h a (by simp [k])).1,by have:=(h a (by simp [k])).2;rw [fw] at this;omega⟩) j.tl.app s];simp [fM];omega
def HX:∀(ks acc:List Rx) (i G:Nat) (rest:List bx),1<=G->(∀c∈ks,nN l c/\(∃t u,bp c=t::u/\lQ t)/\12 *c.sz+5+ks.length<=G)->bV l i ((ks.flatMap λa=>fM 3++db 3 a (bp a))++rest)->lS (dT rest)->l9 l G acc (i,false)=some (lq 3 (acc++ks),(i+(ks.flatMap λa=>fM 3++db 3 a (bp a)).length,false))
 |[],acc,i,G,rest,y,_,e,s=>by obtain ⟨G,rfl⟩:∃h,G=h+1:=⟨G - 1,by omega⟩;unfold l9;have e:bV l i rest:=e;rw [E7 e s];simp
 |c::ks,acc,i,G,rest,y,d,e,s=>by
  obtain ⟨G,rfl⟩:∃h,G=h+1:=⟨G - 1,by omega⟩;obtain ⟨A,first,x⟩:=d c (by simp);rw [fw] at x;have q:bV l i (db 3 c (bp c)++((ks.flatMap λa=>fM 3++db 3 a (bp a))++rest)):=by simpa [fM,eR] using e
  obtain ⟨t,u,j,k⟩:=tk (lv:=3) first;have st:dT ((ks.flatMap λa=>fM 3++db 3 a (bp a))++rest)≠[42]:=by
   cases ks with
   |nil=>exact s.ne
   |cons b ks=>
    obtain ⟨t,u,j,k⟩:=tk (lv:=3) (d b (by simp)).2.1;rw [cO,j];exact k.2.2.2.2.2
  have z:mT l (i,false)=true:=by have w:=q;rw [j] at w;exact Nr w k
  unfold l9;rw [z];dsimp only [cond_true];rw [A.p3 i _ G q st (by omega)];dsimp only;rw [HX ks (acc++[c]) _ G rest (by omega) (λa n=>⟨(d a (by simp [n])).1,(d a (by simp [n])).2.1,by have:=(d a (by simp [n])).2.2;rw [fw] at this;omega⟩) q.app s];simp [fM];omega
def Lb:∀(l:List Rx) (a:Rx),a∈l->a.sz+l.length<=ms Rx.sz l+1
 |b::l,a,c=>by
  have d:ms Rx.sz (b::l)=b.sz+ms Rx.sz l:=by simp [ms]
  have e:=r5 b;have h:=tJ r5 l;rw [d,fw];rcases aB.1 c with c|c
  .rw [c];omega
  .have:=Lb l a c;omega
end
def vQ (k:Int) (lo hi:UInt8) (l:List Rx):bK (.mk k lo hi l)=if k=6 then 3 else if k<3\/k=7\/l.length<2 then 4 else if k=3 then 2 else if k=4 then 0 else 1:=by unfold bK;rfl
section
variable {l:List bx}
def QJ {i F:Nat} {ts:List bx} (c:bV l i (wT [40]::wT [41]::ts)):j8 l (F+1) (i,false)=some ([],(i+2,false)):=by unfold j8;rw [um c rfl,c.tl.tz rfl];rfl
def QK {i j F:Nat} {a:Rx} {ts n:List bx} (q:1<=F) (c:bV l i (wT [40]::ts)) (h:dT ts≠[41]) (k:gI l F (i+1,false)=some (a,(j,false))) (d:bV l j (wT [41]::n)):j8 l (F+1) (i,false)=some ([a],(j+1,false)):=by obtain ⟨F,rfl⟩:∃e,F=e+1:=⟨F - 1,by omega⟩;unfold j8;rw [um c rfl,c.tl.m9 h];dsimp only;rw [k];dsimp only;unfold rs;rw [d.m9 (by show ([41]:BL)≠[44];decide)];dsimp only;rw [um d rfl];rfl
def wQ {n:Rx} (j:bK n=4) (h:∀i rest c,bV l i (bp n++rest)->12 *n.sz - 6<=c->∃d,c<=d+12 *n.sz+4/\1<=d/\fb l c (i,false)=iw l d n (i+(bp n).length,false)):nN l n:=
 lift (by omega) (λ_=>h) (λe=>by omega) (λe=>by omega) (λe=>by omega) (λe=>by omega)
def JE:∀(N:Nat) (n:Rx),n.sz<=N->cq n=true->nN l n
 |0,n,j,_=>absurd j (by have:=r5 n;omega)
 |N+1,.mk q lo J m,hN,hg=>by
  obtain ⟨hl,Z,k⟩:=l6 hg;have E:=kR q lo J m;have sub:∀a∈m,nN l a/\cq a=true/\a.sz+m.length<=ms Rx.sz m+1:=λa y=>by have h1:=Lb m a y;have Z:1<=m.length:=Dc.2 (List.ne_nil_of_mem y);have ab:cq a=true:=AQ hl y;exact ⟨JE N a (by omega) ab,ab,h1⟩
  have lp:1<=m.length->m.length<=ms Rx.sz m:=λ_=>tJ r5 m;by_cases k0:q=0\/q=1
  .obtain ⟨Q,S⟩:=Z (by omega);have W:m=[]:=by rcases k with k|k|k|k<;>first |exact k.2|omega
   subst Q S W;have hw:∃A:Nat,(A=0\/A=1)/\q=(A:Int)/\bp (.mk q 0 0 [])=[wT (hZ A)]:=by
    rcases k0 with j|j<;>subst j
    .exact ⟨0,.inl rfl,rfl,by unfold bp;rfl⟩
    .exact ⟨1,.inr rfl,rfl,by unfold bp;rfl⟩
   obtain ⟨A,hk,M,w⟩:=hw;refine wQ ?_ λi rest h e C=>?_
   .rw [vQ,af (by omega),aq (by omega)]
   rw [w] at e ⊢;obtain ⟨h,rfl⟩:∃u,h=u+2:=⟨h - 2,by omega⟩;refine ⟨h+1,by omega,by omega,?_⟩;rw [Mq e (by omega),aq (by omega),<-M];rfl
  by_cases P:q=2
  .have W:m=[]:=by rcases k with k|k|k|k<;>first |exact k.2.1|omega
   subst W P;have w:bp (.mk 2 lo J [])=[⟨a3 (.mk 2 lo J []),0,2,lo,J⟩]:=by unfold bp;rfl
   refine wQ ?_ λi rest h e C=>?_
   .rw [vQ,af (by omega),aq (by omega)]
   rw [w] at e ⊢;obtain ⟨h,rfl⟩:∃u,h=u+2:=⟨h - 2,by omega⟩;refine ⟨h+1,by omega,by omega,?_⟩;exact SZ e rfl (λG=>by have k:=Mz lo J;rw [show a3 (.mk 2 lo J [])=[33] from G] at k;simp at k)
  obtain ⟨Q,S⟩:=Z P;subst Q S;by_cases K:q=6
  .obtain ⟨c,rfl⟩:∃c,m=[c]:=by rcases k with k|k|k|k<;>first |omega|exact k.2
   subst K;obtain ⟨D,-,H⟩:=sub c (by simp);have w:bp (.mk 6 0 0 [c])=wT [33]::db 3 c (bp c):=by (conv=>lhs;unfold bp);simp [gx]
   have B:bK (.mk 6 0 0 [c])=3:=by unfold bK;rfl
   rw [List.length_singleton] at H;refine lift (by omega) (λj=>by omega) (λ_ i rest h e s C=>?_) (λj=>by omega) (λj=>by omega) (λj=>by omega);rw [w] at e ⊢;obtain ⟨h,rfl⟩:∃u,h=u+1:=⟨h - 1,by omega⟩;have e:bV l i (wT [33]::(db 3 c (bp c)++rest)):=e;unfold fb;rw [e.tz rfl];dsimp only;rw [D.p3 (i+1) rest h e.tl s (by omega)];simp;omega
  by_cases k7:q=7
  .obtain ⟨c,rfl⟩:∃c,m=[c]:=by rcases k with k|k|k|k<;>first |omega|exact k.2
   subst k7;obtain ⟨D,-,H⟩:=sub c (by simp);have w:bp (.mk 7 0 0 [c])=db 4 c (bp c)++[wT [42]]:=by (conv=>lhs;unfold bp);simp [gx]
   rw [List.length_singleton] at H;refine wQ ?_ λi rest h e C=>?_
   .unfold bK;rfl
   rw [w] at e ⊢;have e:bV l i (db 4 c (bp c)++(wT [42]::rest)):=by simpa using e
   obtain ⟨L,h1,G⟩:=D.p4 i _ h e (by omega);obtain ⟨L,rfl⟩:∃u,L=u+1:=⟨L - 1,by omega⟩;refine ⟨L,by omega,by omega,?_⟩;rw [G];conv=>lhs;unfold iw
   rw [e.app.tz rfl];simp;congr 2
  have hk:q=3\/q=4\/q=5:=by rcases k with k|k|k|k<;>omega
  by_cases O:m.length<2
  .have hw:∃A:Nat,(A=3\/A=4\/A=5)/\q=(A:Int)/\sc q=wT (hZ A):=by
    rcases hk with j|j|j<;>subst j
    .exact ⟨3,by omega,rfl,rfl⟩
    .exact ⟨4,by omega,rfl,rfl⟩
    .exact ⟨5,by omega,rfl,rfl⟩
   obtain ⟨A,ae,M,ew⟩:=hw;have w:bp (.mk q 0 0 m)=sc q::wT [40]::((gx 0 m).flatten++[wT [41]]):=by unfold bp;rw [af (by omega),af (by omega),af P,af K,af k7,aq O]
   refine wQ ?_ λi rest h e C=>?_
   .rw [vQ,af K,aq (by omega)]
   rw [w,ew] at e ⊢;obtain ⟨h,rfl⟩:∃u,h=u+2:=⟨h - 2,by omega⟩;refine ⟨h+1,by omega,by omega,?_⟩;have e:bV l i (wT (hZ A)::(wT [40]::((gx 0 m).flatten++[wT [41]])++rest)):=e;rw [Mq e (by omega),af (by omega)];obtain ⟨h,rfl⟩:∃u,h=u+1:=⟨h - 1,by omega⟩
   match m,O,sub,e,E,C with
   |[],_,_,e,E,C=>
    rw [QJ (ts:=rest) e.tl];rw [<-M];rfl
   |[c],_,sub,e,E,C=>
    obtain ⟨D,gc,H⟩:=sub c (by simp);rw [List.length_singleton] at H;obtain ⟨t,ad,T,Y⟩:=wA c gc;have e0:(gx 0 [c]).flatten=bp c:=by simp [gx,db]
    rw [e0] at e ⊢;have aa:bV l (i+1) (wT [40]::(bp c++(wT [41]::rest))):=by simpa using e.tl
    have G:=D.p0 (i+1+1) (wT [41]::rest) h aa.tl (.inr (.inl rfl)) (by omega);rw [QK (by omega) aa (by rw [T];exact Y.2.1) G aa.tl.app,<-M];have ei:i+(wT (hZ A)::wT [40]::(bp c++[wT [41]])).length=i+1+1+(bp c).length+1:=by simp;omega
    rw [ei]
  .have w:∀F,F=bK (.mk q 0 0 m)+1->bp (.mk q 0 0 m)=tD q (m.map λa=>db F a (bp a)):=λF G=>by
    rw [G,<-LO];conv=>lhs;unfold bp
    rw [af (by omega),af (by omega),af P,af K,af k7,af O]
   have B:bK (.mk q 0 0 m)=if q=3 then 2 else if q=4 then 0 else 1:=by rw [vQ,af K,af (by omega)]
   have eg:∀x ac:Rx,∀ys:List Rx,lq q (x::ac::ys)=.mk q 0 0 (x::ac::ys):=λ_ _ _=>rfl
   match m,O,sub,E,lp,w,B with
   |[],j,_,_,_,_,_=>exact absurd (by simp) j
   |[_],j,_,_,_,_,_=>exact absurd (by simp) j
   |c::d::z,_,sub,E,_,w,B=>
    obtain ⟨D,gc,H⟩:=sub c (by simp);have fin:∀a∈d::z,nN l a/\12 *a.sz+5+(d::z).length<=12 *(Rx.mk q 0 0 (c::d::z)).sz - 6 - 1:=λa y=>by obtain ⟨ra,_,sa⟩:=sub a (List.mem_cons_of_mem _ y);refine ⟨ra,?_⟩;rw [E];simp only [fw] at sa ⊢;omega
    have fc:12 *c.sz+5<=12 *(Rx.mk q 0 0 (c::d::z)).sz - 6 - 1:=by rw [E];simp only [fw] at H;omega
    have flat:∀F,(tD q ((c::d::z).map λa=>db F a (bp a)))=db F c (bp c)++(d::z).flatMap λa=>fM q++db F a (bp a):=λF=>by simp only [List.map_cons,tD,cO,List.flatMap_map]
    have ag:2<=(Rx.mk q 0 0 (c::d::z)).sz:=by rw [E];have:=tJ r5 (c::d::z);simp only [fw] at this;omega
    rcases hk with j|j|j
    .subst j;have B:bK (.mk 3 0 0 (c::d::z))=2:=B;have w:=(w 3 (by rw [B])).trans (flat 3);refine lift (by omega) (λj=>by omega) (λj=>by omega) (λ_ i rest h e s C=>?_) (λj=>by omega) (λj=>by omega);rw [w] at e ⊢;rw [cN] at e;obtain ⟨u,rfl⟩:∃u,h=u+1:=⟨h - 1,by omega⟩;have st:dT (((d::z).flatMap λa=>fM 3++db 3 a (bp a))++rest)≠[42]:=by obtain ⟨t,ad,T,Y⟩:=tk (lv:=3) (wA d (sub d (by simp)).2.1);rw [cO,T];exact Y.2.2.2.2.2
     unfold iv;rw [D.p3 i _ u e st (by omega)];dsimp only;rw [HX (d::z) [c] _ u rest (by omega) (λa y=>⟨(fin a y).1,wA a (sub a (List.mem_cons_of_mem _ y)).2.1,by have:=(fin a y).2;omega⟩) e.app s];rw [cd,Nat.add_assoc];rfl
    .subst j;have B:bK (.mk 4 0 0 (c::d::z))=0:=B;have w:=(w 1 (by rw [B])).trans (flat 1);refine lift (by omega) (λj=>by omega) (λj=>by omega) (λj=>by omega) (λj=>by omega) (λ_ i rest h e s C=>?_);rw [w] at e ⊢;rw [cN] at e;obtain ⟨u,rfl⟩:∃u,h=u+1:=⟨h - 1,by omega⟩;unfold gI;rw [D.p1 i _ u e (.inr rfl) (by omega)];dsimp only;rw [EW (d::z) [c] _ u rest (by omega) (λa y=>⟨(fin a y).1,by have:=(fin a y).2;omega⟩) e.app s];rw [cd,Nat.add_assoc];rfl
    .subst j;have B:bK (.mk 5 0 0 (c::d::z))=1:=B;have w:=(w 2 (by rw [B])).trans (flat 2);refine lift (by omega) (λj=>by omega) (λj=>by omega) (λj=>by omega) (λ_ i rest h e s C=>?_) (λj=>by omega);rw [w] at e ⊢;rw [cN] at e;obtain ⟨u,rfl⟩:∃u,h=u+1:=⟨h - 1,by omega⟩;unfold ie;rw [D.p2 i _ u e (.inr rfl) (by omega)];dsimp only;rw [EX (d::z) [c] _ u rest (by omega) (λa y=>⟨(fin a y).1,by have:=(fin a y).2;omega⟩) e.app s];rw [cd,Nat.add_assoc];rfl
end
mutual
def AR:∀k:Rx,cq k=true->hP k=true
 |.mk j lo n l,e=>by
  unfold cq at e;simp only [bn] at e;have c:=e.2;have h:dk l=true->mn l=true:=Hw l;unfold hP;split at c
  .rename_i d;have:l=[]:=by simpa using c
   subst this;have d:j=0\/j=1:=d;unfold mn;rcases d with rfl|rfl<;>decide
  .split at c
   .rename_i d;simp only [bn] at c;have:l=[]:=by simpa using c.1
    subst this;subst d;unfold mn;decide
   .split at c
    .rename_i d;rw [h c];rcases d with rfl|rfl|rfl<;>simp
    .split at c
     .rename_i d;simp only [bn,beq_iff_eq] at c;rw [h c.2];rcases d with rfl|rfl<;>simp [c.1]
     .cases c
def Hw:∀l:List Rx,dk l=true->mn l=true
 |[],_=>rfl
 |a::l,c=>by unfold dk at c;unfold mn;simp only [bn] at c;rw [AR a c.1,Hw l c.2];rfl
end
def Sw {x:Rx} (c:cq x=true) (k:x.sz<=64) (j:(cg 0 x (a3 x)).length<=4096):ot (cg 0 x (a3 x))=some (x,0,0):=by
 have e:=UY c;unfold ot;rw [af (by omega)];dsimp only;generalize km (cg 0 x (a3 x))=l at e ⊢;have d:bV l 0 (bp x++[wT []]):=e;rw [(JE x.sz x (bB _) c).p0 0 [wT []] 1000 d (.inl rfl) (by omega)];dsimp only;have h:hx l [] (0+(bp x).length,false)=(0+(bp x).length,false):=by unfold hx dH;rw [d.app.pW];rfl
 rw [h];dsimp only;rw [af (by decide),af (by omega),af (by omega)]
def R0 {t:BL} (c:ji t=true):nV t=some true:=by
 unfold ji at c;cases h:Nat.blt 4096 t.length with
 |true=>rw [h] at c;cases c
 |false=>
  rw [h] at c;dsimp only [cond_false] at c;have F:¬4096<t.length:=λu=>by rw [<-Nat.blt_eq,h] at u;cases u
  cases A:qg t with
  |inl a=>rw [A] at c;cases c
  |inr B=>
   rw [A] at c;dsimp only at c;generalize eu B.tp=x at c;cases n:Nat.blt 64 x.sz with
   |true=>rw [n] at c;cases c
   |false=>
    rw [n] at c;dsimp only [cond_false] at c;by_cases k:kL x=0
    .rw [aq k] at c;by_cases d:iY (ff x)=0
     .rw [aq d] at c;have e:=eq_of_beq c;obtain ⟨q,z⟩:=vl d;have j:dg (ff x)=ff x:=by
       refine IA _ ?_;unfold ff;split
       .rename_i E;unfold mc;split
        .exact pF
        .exact CF _ (vl E).1
       .exact pF
      have C:kL (ff x)=0:=by unfold kL;rw [aq d,j];unfold m7;rw [af (by omega)]
      have D:ff (ff x)=ff x:=by clear c e;generalize ff x=y at d j z ⊢;unfold ff;rw [aq d,j];unfold mc;rw [af (by omega)]
      have w:=Sw q z (by rw [e];omega);rw [e] at w;unfold nV;rw [w];dsimp only;rw [aq rfl,aq C,D,aq ⟨AR _ q,by omega⟩,e];simp
     .rw [af d] at c;cases c
    .rw [af k] at c;cases c
abbrev OX (bs:List Nat) (f:FuncId) (xs:Array Value) (w:I) (K:ByteArray->Int->I->Prop):Prop:=cU bs U f xs w λe h=>∃c:ByteArray,∃d:Int,e=V (.tuple #[.string c,.i d])/\K c d h
def E9 {a b:Nat} (d:¬a<b):Nat.blt a b=false:=by
 cases c:Nat.blt a b with
 |false=>rfl
 |true=>rw [Nat.blt_eq] at c;exact absurd c d
def UH (s:ByteArray) (w:I):ai U xP #[.string s] w λr w'=>r=V (.bool (ji (bl s)))/\ao w w':=by
 have hl:(bl s).length=s.size:=ep s;have W:LH F0 w w [] []:=bZ [] (by simp);refine Lz.aD s w _ ((NQ s w).mono ?_);rintro r w1 ⟨f1,Q⟩;have H1:=W.bA f1;have no:∀(a e:Int),e≠0->ji (bl s)=false->r=V (.tuple #[.agg #[.int .i64 0,.int .u8 0,.int .u8 0,.slice none 0 0],.int .i64 a,.int .i64 e])->∃(t0 t1 t2:Int) (t3:O) (t4 t5:Int),r=V (.tuple #[.agg #[.i t0,.int .u8 t1,.int .u8 t2,t3.v],.i t4,.i t5])/\aJ [] w1 λd K=>Y (t5 !=0) (loc [d] K λn=>(Ending.returned (.bool false)=V (.bool (ji (bl s)))/\ao w n)) (loc [d] K λn=>sR [d] xp #[.agg #[.i t0,.int .u8 t1,.int .u8 t2,t3.v]] n λah aj ak al am T=>aJ [d] T λE L=>
   Y (am !=0) (loc [d,E] L λS=>(Ending.returned (.bool false)=V (.bool (ji (bl s)))/\ao w S)) (loc [d,E] L λS=>OX [d,E] BW #[.agg #[.i ah,.int .u8 aj,.int .u8 ak,al.v]] S λan ap ac=>Y (ap==0) (Ending.returned (.bool (an.toList==s.toList))=V (.bool (ji (bl s)))/\ao w ac) (Ending.returned (.bool false)=V (.bool (ji (bl s)))/\ao w ac))):=λa e G hn Q=>⟨0,0,0,⟨none,0,0⟩,a,e,Q,H1.aL λd K M=>dG (λ_=>M.au λw3 C=>⟨by rw [hn],C.fr⟩) (λu=>absurd u G)⟩
 rcases Q with ⟨h1,j⟩|⟨h1,res,ag,⟨a,rfl,j⟩|⟨c,rfl,⟨F,j⟩|⟨F,t,j,z,pt,ft⟩⟩⟩
 .refine no _ _ (by decide) ?_ j;unfold ji;rw [show Nat.blt 4096 (bl s).length=true from by rw [Nat.blt_eq];omega];rfl
 all_goals have P:Nat.blt 4096 (bl s).length=false:=E9 (by omega)
 all_goals have h:=UZ ag
 .have h:Sum.inl a=qg (bl s):=h;refine no _ _ (by decide) ?_ j;unfold ji;rw [P,<-h];rfl
 .have h:Sum.inr (e9 c)=qg (bl s):=h;refine no _ _ (by decide) ?_ j;unfold ji;rw [P,<-h];dsimp only [cond_false];rw [Hb,show Nat.blt 64 (eu c.tp).sz=true from by rw [Nat.blt_eq];exact F];rfl
 .have h:Sum.inr (e9 c)=qg (bl s):=h;have aa:m4 64 (eu c.tp):=AE _ (by have:=Bg (eu c.tp);omega);have y:ji (bl s)=if kL (eu c.tp)=0 then (if iY (ff (eu c.tp))=0 then cg 0 (ff (eu c.tp)) (a3 (ff (eu c.tp)))==bl s else false) else false:=by unfold ji;rw [P,<-h];dsimp only [cond_false];have:Nat.blt 64 (eu c.tp).sz=false:=E9 (by omega);rw [Hb,this];rfl
  generalize eu c.tp=x at z aa y F;have ad:=W.fo (.tree t) f1 pt (λb N=>.inl (ft b (aT.1 N)));have ar:t.sz<=64:=by rw [<-J.ed,z];exact F
  refine ⟨_,_,_,t.s,_,_,j,ad.aL λd K M=>dG (λu=>absurd rfl u) (λ_=>M.au λw3 C=>?_)⟩;refine C.jF (NP (T3 64) (by omega) t w3 (by omega) (by rw [z];exact aa) (C.getD 0)) ?_;rintro _ w4 ⟨B,rfl,A,pu,fu⟩ _ F4;rw [z] at A;rw [z];have H4:=F4.rd (.tree B) pu λb N=>fu b (aT.1 N);refine ⟨_,_,_,B.s,_,rfl,H4.aL λE w5 Z=>dG (λH=>Z.au λn q=>⟨by rw [y,af H],q.fr⟩) (λG=>Z.au λn q=>?_)⟩;rw [aq G] at y;have ab:B.sz<=1000000:=by
   rw [<-J.ed,A];have:kL x=0:=G;unfold kL at this;unfold ff;split at this
   .rename_i k;rw [aq k];unfold m7 at this;unfold mc;split at this
    .cases this
    .rename_i ae;rw [af ae];omega
   .rename_i k;exact absurd this k
  refine iH (JM.aD _ _ _ _ n _ ((gq (q.getD 1)).aL λb1 T H7=>H7.aA (Fk B T ab (H7.getD 0)) ?_));rintro _ L rfl D;rw [A];refine ⟨_,rfl,dG (λH=>⟨D.fr,_,_,rfl,aO (λu=>absurd u H) (λ_=>⟨by rw [y,af H],(q.bA D.fr).fr⟩)⟩) (λk=>D.aA (So B 0 L ab (by omega) ?_ (D.getD 0)) ?_)⟩
  .exact AR _ (by rw [A];exact (vl k).1)
  .rintro _ w9 rfl H9;refine ⟨_,rfl,H9.fr,_,_,rfl,bd rfl ⟨?_,(q.bA H9.fr).fr⟩⟩;rw [y,aq k,A];congr 2;have:=qN (cg 0 (ff x) (a3 (ff x))) (bl s);rw [o3] at this;exact this
def IM (t:ByteArray):vB t:=λc=>UH t c
namespace u5
noncomputable abbrev X:Fx:=⟨U,Tryz.f8,[(8,ls [0,1,2,4,6,8,10,12,14,16,18,3,5,7,9,11,13,15,17,19,20,21,22,23,24,25])],[2,6]⟩
abbrev P0:Ps:=[(2,.l [.s] kV)]
abbrev aQ (t2:Nat) (d:O) (w:I) (R:aa):Prop:=
 loc [t2] w λc=>R (V (.tuple #[.agg #[.slice none 0 0],.i 2])) c
noncomputable def bf:=aC X [] (ak [0,1,1,1,3]) P0 aQ::[]
abbrev P1:Ps:=[(2,.l [.s] kV),(4,.v [.p]),(6,.l [.s] kV),(18,.v [.I]),(19,.v [.I])]
def b6 (t2:Nat) (h:O) (e:Option Addr) (c:Nat) (d:O) (t18 t19:Int) (w:I) (R:aa):Prop:=br P1 0 (X.Sem (ak [0,1,1,1,5])) t2 h e c d t18 t19 w R
noncomputable def cC:=bD X (ak [0,1,1,1,5]) P1 b6::bf
abbrev aY (t2:Nat) (d:O) (w:I) (R:aa):Prop:=
 loc [t2] w λc=>R (V (.tuple #[.agg #[.slice none 0 0],.i 2])) c
noncomputable def bm:=aC X cC (ak [0,1,1,1,6]) P0 aY::cC
def eV:∀(t2:Nat) (h:O) (d:Option Addr) (c:Nat) (e:O) (t18 t19:Int) (w:I) (R:aa) (K:Y (ah (t19<t18)) (loc [t2,c] w λE=>b0 [t2,c] jh #[.pointer d] E λt24 F=>fU [t2,c] Cv #[.pointer d] F λt26 G=>b0 [t2,c] jh #[.pointer d] G λt28 H=>b0 [t2,c] jh #[.pointer d] H λt30 J=>v' [t2,c] rG #[.pointer d] J λt32 y=>fT [t2,c] Cw #[.pointer d] y λt34 z=>b0 [t2,c] jh #[.pointer d] z λt36 A=>b0 [t2,c] jh #[.pointer d] A λt38 B=>b0 [t2,c] jh #[.pointer d] B λt40 k=>aN k (.cells #[.i t24,t26.v,.i t28,.i t30,.u t32,.string t34,.i t36,.i t38,.i t40] bC) λn=>
 ∃(t44:O) (j:I),Sem.run U (Builtin.append_ #[dZ,dZ] dZ #[e.v,.slice (some (nb k)) 1 1]) n=.ok (t44.v) j/\kept [t2,c] n j/\loc [t2,c] j λC=>b6 t2 h d c t44 t18 (ab .i64 (t19+1)) C R) (b0 [t2,c] Cu #[.pointer d] w λt48 q=>Y (t48 !=0) (aY t2 h q R) (b0 [t2,c] xL #[.agg #[e.v]] q λt52 x=>Y (t52 !=0) (aY t2 h x R) (loc [t2,c] x λD=>R (V (.tuple #[.agg #[e.v],.i 0])) D)))),b6 t2 h d c e t18 t19 w R:=mp (bF (X:=X) bm (ak [0,1,1,1,5]) P1)
def aD (e:O) (w:I) (R:aa) (k:aJ [] w λc n=>
 qR [c] xU #[e.v] n λh q=>b0 [c] jh #[.pointer h] q λt10 d=>Y (ah (t10<0)) (aQ c ⟨none,0,0⟩ d R) (Y (ah (t10>4096)) (aQ c ⟨none,0,0⟩ d R) (aJ [c] d λj u=>
 b6 c ⟨none,0,0⟩ h j ⟨none,0,0⟩ t10 0 u R))):ai U xJ #[e.v] w R:=aE X bm k
end u5
def _root_.Go.W.LH.Ka {M:Nat->Prop} {w0 w:I} {L D:List En} (H:LH M w0 w L D) (d:List En) (h:∀c∈d,c.P w) (j:∀c∈d,∀b∈c.fp,∃e∈D,b∈e.fp):LH M w0 w L d:=
 ⟨H.fr,H.own,h,H.new,H.nd,λc q b k e u=>by obtain ⟨g,x,n⟩:=j c q b k;exact H.dj g x b n e u⟩
def fk.tok {d:Nx} (W:fk d):jB d:=⟨W.kl,W.n,W.m,W.u.1,λ_=>IM d.tx⟩
def y8 (g:List Nx) (e:Int) (w:I) (r:Ending) (w':I):Prop:=∃(t:O) (l:List Nd),r=V (.tuple #[.agg #[t.v],.i e])/\xs l=g/\GP w' t l/\∀b∈(En.gr t l).fp,w.heap.size<=b
abbrev Hr (s:O) (l:List Nd):En:=.row bC 9 s (l.flatMap Nd.c)
def Ld {w:I} {s:O} {bs:List UInt8} (am:Bytes w s bs) (hl:bs.length<=1000000) (Q:c'.P w):
  ai U xJ #[s.v] w λr w'=>y8 (fq bs).1 (fq bs).2 w r w'/\ao w w':=by
 have bad:∀{w':I},fq bs=([],2)->ao w w'->y8 (fq bs).1 (fq bs).2 w (V (.tuple #[.agg #[.slice none 0 0],.i 2])) w'/\ao w w':=λE f=>by
  rw [E];exact ⟨⟨⟨none,0,0⟩,[],rfl,rfl,⟨bL.nil 9 _,by simp⟩,λb e=>by
   rcases j7.1 e with e|⟨d,h,_⟩
   .cases e
   .cases h⟩,f⟩
 obtain ⟨z,hN⟩:∃z,z=(bQ ⟨bs,0⟩).1:=⟨_,rfl⟩;obtain ⟨S,ac⟩:∃st,st=(bQ ⟨bs,0⟩).2:=⟨_,rfl⟩;have dec:∀(g:List Nx) (st:RS),¬(z<0\/4096<z)->fL z.toNat S=(g,st)->fq bs=if pN st≠0 then ([],2) else if gR g≠0 then ([],2) else (g,0):=λg st T Y=>by unfold fq;rw [<-hN,<-ac,af T,Y]
 have ar:S.bs.length<=1000000:=by have:=(oy ⟨bs,0⟩).2;rw [<-ac] at this;exact bH this hl
 have loop:∀(d j:Nat) (D:O) (l:List Nd) (st:RS) (B C rb:Nat) (fp:List Nat) (F:I),¬(z<0\/4096<z)->j+d=z.toNat->fL z.toNat S=(xs l++(fL d st).1,(fL d st).2)->l.length=j->st.bs.length<=1000000->(∀q∈l,∀b∈(cc q).fp,w.heap.size<=b)->(∀q∈l,fk q.x)->
   LH F0 w F [.g B,.kO rb st fp,.g C,Hr D l] [c',.all (l.map cc)]->
   u5.b6 B ⟨none,0,0⟩ (some (aj rb)) C D z (j:Int) F λr w'=>y8 (fq bs).1 (fq bs).2 w r w'/\ao w w':=by
  intro d;have ab:∀{F:I} {D:O} {l:List Nd} {st:RS} {B C rb:Nat} {fp:List Nat},LH F0 w F [.g B,.kO rb st fp,.g C,Hr D l] [c',.all (l.map cc)]->GP F D l:=by intro F D l st B C rb fp G;have Q:∀q∈l.map cc,q.P F:=G.getD 1;exact ⟨aS.bz (G.get 3),λd h=>Q (cc d) (List.mem_map.2 ⟨d,h,rfl⟩)⟩
  induction d with
  |zero=>
   intro j D l st B C rb fp F N hj E hm sm hf Z G;have k:fL z.toNat S=(xs l,st):=by rw [E];simp [fL]
   have dec:=dec _ _ N k;refine u5.eV _ _ _ _ _ _ _ _ _ (a9 (a0 (by omega)) (G.aA (SQ (G.get 1)) ?_));rintro _ w2 rfl H;refine ⟨_,rfl,dG (λe=>H.au λw3 A=>bad (by rw [dec,aq e]) A.fr) (λe=>H.aA (Le (ab H) (H.getD 0) (λ_ d h=>⟨(Z d h).tok,Z d h⟩)) ?_)⟩;rintro _ w3 rfl A;refine ⟨_,rfl,dG (λhv=>A.au λL y=>bad (by rw [dec,af (by simpa using e),aq hv]) y.fr) (λhv=>A.au λL y=>⟨?_,y.fr⟩)⟩;rw [dec,af (by simpa using e),af (by simpa using hv)];refine ⟨D,l,rfl,rfl,ab y,λb e=>?_⟩;rcases j7.1 e with e|⟨d,h,e⟩
   .exact uB (λb e=>(y.new _ (aI (i:=3) rfl) b e).resolve_right id) b e
   .exact hf d h b e
  |succ d ih=>
   intro j D l st B C rb fp F N hj E hm sm hf Z G;refine u5.eV _ _ _ _ _ _ _ _ _ (bd (aW (by omega)) (G.au λw2 H=>?_));refine H.rm 1 rfl (λu=>ns u) λw3 A=>⟨_,rfl,?_⟩;refine A.Tu 1 rfl (λu=>SR u) λJ L y an=>⟨_,rfl,?_⟩;refine y.rm 1 rfl (λu=>ns u) λw5 H5=>⟨_,rfl,?_⟩;refine H5.rm 1 rfl (λu=>ns u) λw6 H6=>⟨_,rfl,?_⟩;refine H6.rm 1 rfl (λu=>yj u) λw7 H7=>⟨_,rfl,?_⟩;refine H7.rm 1 rfl (λu=>SU u) λw8 H8=>⟨_,rfl,?_⟩;refine H8.rm 1 rfl (λu=>ns u) λw9 H9=>⟨_,rfl,?_⟩;refine H9.rm 1 rfl (λu=>ns u) λaw ag=>⟨_,rfl,?_⟩;refine ag.rm 1 rfl (λu=>ns u) λax ah=>⟨_,rfl,?_⟩;have hn:D.n=l.length:=fu (ab G);refine ah.i5 3 kE rfl (λae az ak=>ak.au λaa al=>?_) (by omega);rw [bw _ (by omega)];obtain ⟨o1,o2,_,_⟩:=JA st sm;have M:LH F0 w aa [.g B,.kO rb (eE st).2 fp,.g C,.row bC 9 ae (l.flatMap Nd.c++Nd.c ⟨(eE st).1,J⟩)] [c',.all (l.map cc),cc ⟨(eE st).1,J⟩]:=al;have el:l.flatMap Nd.c++Nd.c ⟨(eE st).1,J⟩=(l++[(⟨(eE st).1,J⟩:Nd)]).flatMap Nd.c:=by simp
   rw [el] at M;refine ih (j+1) ae (l++[⟨(eE st).1,J⟩]) (eE st).2 B C rb fp aa N (by omega) ?_ (by simp [hm]) (by omega) ?_ ?_ ?_
   .rw [E];simp [xs,fL]
   .intro q k b e;rcases a5.1 k with k|k
    .exact hf q k b e
    .simp at k;subst k;have e:b∈(if (List.map dp (eE st).1.kids)=[] then [] else ay J):=e;split at e
     .cases e
     .exact bH A.fr.size (an b e)
   .intro q k;rcases a5.1 k with k|k
    .exact Z q k
    .simp at k;subst k;exact o1
   .have k1:∀q∈(l++[⟨(eE st).1,J⟩]:List Nd).map cc,q.P aa:=λq k=>by
     rw [List.map_append] at k;rcases a5.1 k with k|k
     .have Q:∀q∈l.map cc,q.P aa:=M.getD 1;exact Q q k
     .simp at k;subst k;exact M.getD 2
    refine M.Ka _ (λd h=>?_) (λd h b e=>?_)
    .rcases aB.1 h with q|h
     .rw [q];exact M.getD 0
     .simp only [aB,a1,a7] at h;subst h;exact k1
    .rcases aB.1 h with q|h
     .exact ⟨c',by simp,by rw [q] at e;exact e⟩
     .simp only [aB,a1,a7] at h;subst h;unfold En.all at e;obtain ⟨av,K,e⟩:=List.mem_flatMap.1 (aT.1 e);rw [List.map_append] at K;rcases a5.1 K with K|K
      .exact ⟨.all (l.map cc),by simp,by unfold En.all;exact aT.2 (List.mem_flatMap.2 ⟨av,K,e⟩)⟩
      .simp only [List.map_cons,List.map_nil,aB,a1,a7] at K;rw [K] at e;exact ⟨cc ⟨(eE st).1,J⟩,by simp,e⟩
 have H0:LH F0 w w [] [.rd s (bs.map W.dD),c']:=bZ _ (by
  intro q E;simp only [aB,a1,a7] at E;rcases E with rfl|rfl
  .exact am
  .exact Q)
 refine u5.aD _ w _ (H0.aL λB F H1=>iH ((Jp (H1.getD 0) (by omega)).mono ?_));rintro _ w2 ⟨rb,fp,rfl,ap,f,nf⟩;have H:=H1.push (.kO rb ⟨bs,0⟩ fp) f ap (λb e=>nf b (aT.1 e));refine ⟨f,some (aj rb),rfl,?_⟩;refine H.rm 1 rfl (λu=>ns u) λw3 A=>⟨_,rfl,?_⟩;rw [<-hN];rw [<-ac] at A;have ad:z<0\/4096<z->fq bs=([],2):=λN=>by unfold fq;rw [<-hN,aq N]
 refine aR (λT=>A.au λL y=>bad (ad (.inl T)) y.fr) (λT=>aR (λY=>A.au λL y=>bad (ad (.inr Y)) y.fr) (λY=>A.aL λC L y=>?_));exact loop z.toNat 0 ⟨none,0,0⟩ [] S B C rb fp L (by omega) (by omega) (by simp) rfl ar (by simp) (by simp) ((y.jP bC 9).Ka _ (λd h=>by
  simp only [aB,a1,a7] at h;rcases h with rfl|rfl
  .exact y.getD 1
  .intro q E;cases E) (λd h b e=>by
  simp only [aB,a1,a7] at h;rcases h with rfl|rfl
  .exact ⟨c',by simp,e⟩
  .cases e))
namespace GA
noncomputable abbrev X:Fx:=⟨U,Tryz.f16,[],[1,4,7,10,12]⟩
abbrev aQ (w:I) (R:aa):Prop:=
 R (V (.bool false)) w
noncomputable def bf:=aC X [] (ak [0,1,1,1,4]) [] aQ
def aD (w:I) (R:aa) (D:OF uf #[.agg #[.slice none 0 0],.agg #[.i 0,.slice none 0 0,.i 0,.i 0,.u 0,.string (az #[120]),.i 0,.i 8,.i 0]] w λE ad F S=>aJ [] S λc w2=>
 loc [c] w2 λB=>aN B (.cells #[.i 0] bX) λw4=>
 FY [c] uf #[.agg #[E.v],.agg #[.i 4,.slice (some (nb B)) 1 1,.i 0,.i 0,.u 0,.s0,.i 0,.i 0,.i 0]] w4 λG H J w5=>aJ [c] w5 λd w6=>
 loc [c,d] w6 λC=>aN C (.cells #[.i 0] bX) λw8=>
 FY [c,d] uf #[.agg #[G.v],.agg #[.i 4,.slice (some (nb C)) 1 1,.i 0,.i 0,.u 0,.s0,.i 0,.i 0,.i 0]] w8 λy K L w9=>aJ [c,d] w9 λe j=>
 Y (F !=0) (loc [c,d,e] j λh=>aQ h R) (Y (J !=0) (loc [c,d,e] j λh=>aQ h R) (Y (L !=0) (loc [c,d,e] j λh=>aQ h R) (Y (H !=1) (loc [c,d,e] j λh=>aQ h R) (Y (K !=1) (loc [c,d,e] j λh=>aQ h R) (Y (((y.n:Nat):Int) !=2) (loc [c,d,e] j λh=>aQ h R) (loc [c,d,e] j λh=>aN h (.cells #[.i 0,.i 1] bX) λT=>
 cE [c,d,e] uh #[.agg #[y.v],.agg #[.i 20,.slice (some (nb h)) 2 2,.i 0,.i 0,.u 0,.s0,.i 0,.i 0,.i 0]] T λM N O P W=>aJ [c,d,e] W λk Z=>
 loc [c,d,e,k] Z λA=>aN A (.cells #[.i 0] bX) λab=>
 cE [c,d,e,k] uh #[.agg #[y.v],.agg #[.i 21,.slice (some (nb A)) 1 1,.i 8,.i 0,.u 0,.s0,.i 0,.i 0,.i 0]] ab λae af ag Q ac=>aJ [c,d,e,k] ac λx z=>
 Y (P==0) (Y ((M==0)&&((N==16)&&((O==0)&&true))) (loc [c,d,e,k,x] z λq=>R (V (.bool (Q==5))) q) (loc [c,d,e,k,x] z λq=>R (V (.bool false)) q)) (loc [c,d,e,k,x] z λq=>R (V (.bool false)) q)))))))):ai U Bo #[] w R:=aE X [bf] D
end GA
namespace tg
noncomputable abbrev X:Fx:=⟨U,Tryz.f11,[(6,ls [0,1,2,3,4,5,6,7,8,9])],[]⟩
abbrev P0:Ps:=[(0,.v [.s]),(1,.v [.s]),(5,.v [.I])]
def L0 (c d:O) (e:Int) (w:I) (R:aa):Prop:=br P0 0 (X.Sem (ak [0,1,1,1,2])) c d e w R
noncomputable def aZ:=bD X (ak [0,1,1,1,2]) P0 L0
def b5:∀(d e:O) (c:Int) (w:I) (R:aa) (S:Y (ah (c<((d.n:Nat):Int))) (bY w λh=>aw d c λk=>lu h (k.add (ag c *9)) λq x y z A B C D E=>aw e c λF=>lu h (F.add (ag c *9)) λG H J K L M N P Q=>gk xi #[.agg #[.i q,x.v,.i y,.i z,.u A,.string B,.i C,.i D,.i E],.agg #[.i G,H.v,.i J,.i K,.u L,.string M,.i N,.i P,.i Q]] h λt26 j=>Y (!t26) (R (V (.bool false)) j) (L0 d e (ab .i64 (c+1)) j R)) (R (V (.bool true)) w)),L0 d e c w R:=mp (bF (X:=X) [aZ] (ak [0,1,1,1,2]) P0)
def ok (c d:O) (w:I) (R:aa) (e:Y (((c.n:Nat):Int) !=((d.n:Nat):Int)) (R (V (.bool false)) w) (L0 c d 0 w R)):ai U BJ #[c.v,d.v] w R:=aE X [aZ] e
end tg
namespace q7
noncomputable abbrev X:Fx:=⟨U,Tryz.f15,[(6,(.sq [0,1,2,3,4,5,6] (.fork (ls [7,8,9,10,11,12,13]) (ls [11,7,8,9,10,12,13])))),(9,ls [0,1,2,3,4,5,6]),(11,ls [0,1,2,3,4,5,6,7,8])],[4]⟩
abbrev P0:Ps:=[(0,.v [.s]),(3,.v [.I])]
def aP (c:O) (d:Int) (w:I) (R:aa):Prop:=br P0 0 (X.Sem (ak [0,1,1,1,2])) c d w R
noncomputable def aZ:=bD X (ak [0,1,1,1,2]) P0 aP::[]
abbrev a2 (d:O) (e:Int) (h:Nat) (x y z k:Int) (w:I) (R:aa):Prop:=
 Y (k !=0) (R (V (.i k)) w) (aw d e λA=>loc [h] w λj=>cr j ((A.add (ag e *9)).add 6) λB C D=>Y (!((x==B)&&((y==C)&&((z==D)&&true)))) (R (V (.i 9)) j) ((0:Int)<=e/\e<=((d.c:Nat):Int)/\aw d e λE=>loc [h] j λn=>lu n (E.add (ag e *9)) λF G H J K L M N P=>b0 [h] xf #[.slice (if d.c=0 then d.a else d.a.map (·.add (0 *9))) ((ag e) - 0) (d.c - 0),.agg #[.i F,G.v,.i H,.i J,.u K,.string L,.i M,.i N,.i P]] n λt43 q=>Y (ah (t43>=0)) (R (V (.i 8)) q) (aP d (ab .i64 (e+1)) q R)))
noncomputable def bg:=aC X aZ (ak [1,2,1,2,1,1,2]) [(0,.v [.s]),(3,.v [.I]),(4,.l [.I,.I,.I] b3),(5,.v [.I])] a2::aZ
def bW:∀(d:O) (e:Int) (w:I) (R:aa) (ab:Y (ah (e<((d.n:Nat):Int))) (bY w λD=>(0:Int)<=e/\e<=((d.c:Nat):Int)/\aw d e λF=>lu D (F.add (ag e *9)) λj k q x y z A B C=>((OD rA #[.slice (if d.c=0 then d.a else d.a.map (·.add (0 *9))) ((ag e) - 0) (d.c - 0),.agg #[.i j,k.v,.i q,.i x,.u y,.string z,.i A,.i B,.i C]] D λH J K L T=>aJ [] T λE W=>
 loc [E] W λZ=>a2 d e E H J K L Z R)/\(aJ [] D λh G=>
 Qq G (F.add (ag e *9)) (.i j) (k.v) (.i q) (.i x) (.u y) (.string z) (.i A) (.i B) (.i C) λ_=>cE [h] rA #[.slice (if d.c=0 then d.a else d.a.map (·.add (0 *9))) ((ag e) - 0) (d.c - 0),.agg #[.i j,k.v,.i q,.i x,.u y,.string z,.i A,.i B,.i C]] G λM N P Q w8=>loc [h] w8 λS=>a2 d e h M N P Q S R))) (R (V (.i 0)) w)),aP d e w R:=mp (bF (X:=X) bg (ak [0,1,1,1,2]) P0)
def aD (c:O) (w:I) (R:aa) (d:Y (ah (((c.n:Nat):Int)>4096)) (R (V (.i 4)) w) (aP c 0 w R)):ai U BK #[c.v] w R:=aE X bg d
end q7
def AS {w:I} {s:O} {l:List Nd} (d:GP w s l) (i:Nat) (hi:i<=l.length):GP w (mz 9 s 0 i) (l.take i):=by
 have q:=fu d;have e:=d.1.sub 0 i (dv _) (by omega);refine ⟨?_,λh k=>d.2 h (List.mem_of_mem_take k)⟩;rw [Nat.zero_mul,List.drop_zero] at e;have:(l.take i).flatMap Nd.c=(l.flatMap Nd.c).take (i *9):=by
  have j:l.flatMap Nd.c=(l.take i).flatMap Nd.c++(l.drop i).flatMap Nd.c:=by rw [<-List.flatMap_append,uz]
  have n:((l.take i).flatMap Nd.c).length=i *9:=by rw [Nd.gl,dL,Nat.min_eq_left hi]
  rw [j,<-n,List.take_left]
 rw [this];exact e
def Ol {w:I} {s:O} {l:List Nd} (y:GP w s l) (F:l.length<=4096->∀d∈l,mR d.x) (hc:l.length<=1000000):
  ai U BK #[s.v] w λr J=>r=V (.i (gR (xs l)))/\ao w J:=by
 have hn:=fu y;have ag:(xs l).length=l.length:=by simp [xs]
 have W:LH F0 w w [] [.gr s l]:=bZ _ (by intro Z L;simp only [aB,a1,a7] at L;subst L;exact be.2 y)
 refine q7.aD s w _ (aR (λab=>⟨by unfold gR;rw [aq (by omega)],W.fr⟩) (λab=>?_));have F:=F (by omega);have ac:gR (xs l)=jt [] (xs l):=by unfold gR;rw [af (by omega)]
 rw [ac];have loop:∀(m i:Nat) (N:I),i+m=l.length->Vg ((xs l).take i)->jt ((xs l).take i) ((xs l).drop i)=jt [] (xs l)->LH F0 w N [] [.gr s l]->
   q7.aP s (i:Int) N λr J=>r=V (.i (jt [] (xs l)))/\ao w J:=by
  intro m;induction m with
  |zero=>
   intro i N hi M z Q;refine q7.bW _ _ _ _ (a9 (a0 (by omega)) ⟨?_,Q.fr⟩);rw [<-z,List.drop_of_length_le (by omega)];rfl
  |succ m ih=>
   intro i N hi M z Q;have q:l[i]? =some (l[i]'(by omega)):=bc (by omega);have hx:(xs l).drop i=(l[i]'(by omega)).x::(xs l).drop (i+1):=by rw [List.drop_eq_getElem_cons (by omega:i<(xs l).length)];simp [xs]
   generalize l[i]'(by omega)=d at q hx;have G:=aI q;have gx:=nK q;have D:xs (l.take i)=(xs l).take i:=by simp [xs,List.map_take]
   have ex:(xs l).take (i+1)=(xs l).take i++[d.x]:=by rw [List.take_add_one,gx];rfl
   have ae:s.n<=s.c:=y.1.2.1;rw [hx,yU] at z;have S:ss (xs (l.take i)):=⟨by rw [D,dL];unfold dQ;omega,by rw [D];exact M.val,by rw [D];exact M.vars⟩;have Y:∀(b:Nat) (P:I),LH F0 w P [.g b] [.gr s l]->q7.a2 s (i:Int) b (bU ((xs l).take i) d.x).1.k (bU ((xs l).take i) d.x).1.n (bU ((xs l).take i) d.x).1.x (bU ((xs l).take i) d.x).2 P λr J=>r=V (.i (jt [] (xs l)))/\ao w J:=by
    intro b P j;refine dG (λE=>⟨by rw [<-z,aq E],j.fr⟩) (λE=>fa (be.1 (j.getD 0)) rfl q λp T _=>j.au λw3 h=>?_);have e:=rl (be.1 (h.getD 0)) q T (X:=(i:Int)) rfl;refine ⟨d.x.st.k,d.x.st.n,d.x.st.x,e.s0,e.s1,e.s2,uQ (a:=(bU ((xs l).take i) d.x).1) (b:=d.x.st) (λH=>⟨by rw [<-z,af (λy=>y E),aq H],h.fr⟩) (λH=>⟨by omega,by omega,fa (be.1 (h.getD 0)) rfl q λA hq _=>h.au λw4 B=>?_⟩)⟩;rw [af (λy=>y E),af (λy=>y H)] at z;have e:=rl (be.1 (B.getD 0)) q hq (X:=(i:Int)) rfl;refine ⟨d.x.op,d.ks,d.x.n,d.x.m,d.x.u,d.x.tx,d.x.st.k,d.x.st.n,d.x.st.x,e.c0,e.c1,e.c2,e.c3,e.c4,e.c5,e.c6,e.c7,e.c8,?_⟩;have A:=Ff (AS (be.1 (B.getD 0)) i (by omega)) ((be.1 (B.getD 0)).2 d G) S (F d G) (λZ L=>(F Z (List.mem_of_mem_take L)).kl);rw [D,show lr ((xs l).take i) d.x=eB d.x ((xs l).take i) 0 by unfold lr;rw [aq E,H];rfl] at A
    refine B.aA A ?_;rintro _ K rfl C;refine ⟨_,rfl,?_⟩;cases aa:eB d.x ((xs l).take i) 0 with
    |some ad=>
     have hm:=aI (tB aa).2;exact bd (aW (Int.natCast_nonneg ad)) ⟨by rw [<-z,aq hm],C.fr⟩
    |none=>
     have h2:=wI aa;rw [af h2] at z;refine a9 (by decide) ?_;rw [bw _ (by omega)];exact ih (i+1) K (by omega) (by rw [ex];exact .snoc M (by rw [<-H,<-E]) h2) (by rw [ex];exact z) (C.take 0)
   refine q7.bW _ _ _ _ (bd (aW (by omega)) (Q.dr λP j=>⟨by omega,by omega,fa (be.1 (j.getD 0)) rfl q λp T e=>⟨d.x.op,d.ks,d.x.n,d.x.m,d.x.u,d.x.tx,d.x.st.k,d.x.st.n,d.x.st.x,e.c0,e.c1,e.c2,e.c3,e.c4,e.c5,e.c6,e.c7,e.c8,?_,?_⟩⟩))
   .have A:=vU (AS (be.1 (j.getD 0)) i (by omega)) ((be.1 (j.getD 0)).2 d G) S (F d G);rw [D] at A;refine j.call A ?_;rintro _ w3 rfl h;exact ⟨_,_,_,_,rfl,h.aL λb w4 B=>B.au λK C=>Y b K C⟩
   .refine j.aL λb w3 h=>?_;have e:=rl (be.1 (h.getD 0)) q T (X:=(i:Int)) rfl;refine ⟨e.c0,e.c1,e.c2,e.c3,e.c4,e.c5,e.c6,e.c7,e.c8,?_⟩;have A:=vU (AS (be.1 (h.getD 0)) i (by omega)) ((be.1 (h.getD 0)).2 d G) S (F d G);rw [D] at A;refine h.aA A ?_;rintro _ w4 rfl B;exact ⟨_,_,_,_,rfl,B.au λK C=>Y b K C⟩
 exact loop l.length 0 w (by omega) .nil rfl W
def sS (t:BL):Bool:=(match nV t with
 |some b=>ji t==b
 |none=>false)&&Nat.ble t.length 100
def ic (i:Nat):Bool:=(List.range 108).all (λc=>sS (kT (108 *i+c)))
def P9:ic 0=true:=by kernel_rfl
def P':ic 1=true:=by kernel_rfl
def Qg:ic 2=true:=by kernel_rfl
def Qh:ic 3=true:=by kernel_rfl
def Qi:ic 4=true:=by kernel_rfl
def Qj:ic 5=true:=by kernel_rfl
def Qk:ic 6=true:=by kernel_rfl
def Ql:ic 7=true:=by kernel_rfl
def Qm:ic 8=true:=by kernel_rfl
def Qn:ic 9=true:=by kernel_rfl
def Qa:ic 10=true:=by kernel_rfl
def Qb:ic 11=true:=by kernel_rfl
def Qc:ic 12=true:=by kernel_rfl
def Qd:ic 13=true:=by kernel_rfl
def Qe:ic 14=true:=by kernel_rfl
def Qf:ic 15=true:=by kernel_rfl
def P8:∀i,i<16->ic i=true:=by
 intro i d
 match i,d with
 |0,_=>exact P9
 |1,_=>exact P'
 |2,_=>exact Qg
 |3,_=>exact Qh
 |4,_=>exact Qi
 |5,_=>exact Qj
 |6,_=>exact Qk
 |7,_=>exact Ql
 |8,_=>exact Qm
 |9,_=>exact Qn
 |10,_=>exact Qa
 |11,_=>exact Qb
 |12,_=>exact Qc
 |13,_=>exact Qd
 |14,_=>exact Qe
 |15,_=>exact Qf
 |e+16,c=>exact absurd c (by omega)
def PZ (k:Nat) (e:k<1728):sS (kT k)=true:=by
 have c:=P8 (k / 108) (by omega);have d:=f'.1 c (k%108) (List.mem_range.2 (Nat.mod_lt _ (by omega)))
 rwa [Nat.div_add_mod] at d
def Hl:List BL:=[[],[97],[65],[115,101,118,101,110,116,101,101,110,45,108,101,116,116,101,114,115],[97,45,49],[45],[40],[122,122],[97,98],[98],[0],[97,97],[99],[100],[109],[110],[115],[116],[105],[122]]
def PH:Hl.all sS=true:=by kernel_rfl
def zg (t:ByteArray):Prop:=bl t∈Hl\/∃c,t=ba (kT c)
def Sa {t:ByteArray} (c:zg t):sS (bl t)=true:=by
 rcases c with c|⟨d,rfl⟩
 .exact f'.1 PH _ c
 .rw [nT,LL];exact PZ (d%1728) (Nat.mod_lt _ (by omega))
def IP {t:ByteArray} (j:zg t):vH t/\vB t/\t.size<=100:=by
 have e:=Sa j;unfold sS at e;simp only [bn] at e;obtain ⟨c,d⟩:=e;have d:=Nat.le_of_ble_eq_true d;rw [ep] at d;refine ⟨⟨by omega,?_⟩,IM t,d⟩;cases h:nV (bl t) with
 |none=>rw [h] at c;cases c
 |some b=>
  rw [h] at c;have c:=eq_of_beq c;unfold jG;rw [c]
end Go.Proofs.YtocpddmpfbfdbaaGreatDoor
