import Derived.Test.YtnpkhgljhcnpcaaGreatDoorE1
import Derived.Lib.LaidTab
import Derived.LaidByTextLater
import Derived.Test.YtnpkhgljhcnpcaaGreatDoorRows
import Derived.Test.YtnpkhgljhcnpcaaGreatDoorVB
import Derived.Test.YtnpkhgljhcnpcaaGreatDoorT1
import Derived.Test.YtnpkhgljhcnpcaaGreatDoorR3
import Derived.Test.YtnpkhgljhcnpcaaGreatDoorTP
import Derived.Test.YtnpkhgljhcnpcaaGreatDoorR1
import Derived.Test.YtnpkhgljhcnpcaaGreatDoorTM
import Derived.Test.YtnpkhgljhcnpcaaGreatDoorBK
set_option linter.unusedVariables false
set_option maxRecDepth 100000
set_option maxHeartbeats 1000000
set_option linter.defProp false
namespace Go.Proofs.YtnpkhgljhcnpcaaGreatDoor
open Go renaming World->aA,Calls->aH
open _root_.Int renaming toNat->aF
open _root_.ByteArray renaming mk->aE
open Go.Proofs.Tryz renaming prog->aB
open Go.Ending renaming returned->aJ
open List renaming mem_cons->dT,not_mem_nil->gL,mem_of_getElem?->dI,getElem?_eq_getElem->ie,getElem?_eq_some_iff->nY,mem_map->pN,length_append->nE,length_cons->xB,length_nil->JM,append_assoc->tA,all_eq_true->wo,append_nil->uL
open Go Go.W
def aa1 {W:aA} (h:laidMetH aB [("enthymeme/term.kidCounts",Rows.laid_enthymeme_term_kidCounts)] W):rV.P W:=by
 rw [MakeChecks.laidMetH_plain _ _ _ (by kernel_rfl)] at h
 have ht:=Go.Lib.tabIs_of_head (k:=.i64) (zs:=kcL) (g:=0) (t:=OL) (e:=cT) (n:=35) (by kernel_rfl) (by kernel_rfl) (by kernel_rfl) (by kernel_rfl) (by kernel_rfl) (by kernel_rfl) h
 refine RS rfl (Nat.le_refl _) (λh=>by cases h) (λi v hi=>⟨bO 0,rfl,?_⟩)
 have hl:i<kcL.length:=by
  have:=(nY.1 hi).1
  simpa using this
 have hc:=ht.cell (g:=0) (by kernel_rfl) i hl
 rw [List.getElem?_map,ie hl] at hi
 rw [List.getD,ie hl] at hc
 simp only [Option.map_some,Option.some.injEq] at hi
 rw [<-hi]
 rw [show (bO 0).add i=⟨0,i,none⟩ from aag 0 i]
 exact hc
def IN (c:UInt8):zF c=Tb c:=by
 unfold zF Tb
 rw [Bool.and_assoc,Bool.and_assoc]
 rfl
def Jb (c:UInt8):oL c=wk c:=rfl
def aah:(List.range 256).all (λn=>za .u8 (n:Int) 15==((n%16:Nat):Int))=true:=by kernel_rfl
def QQ {n:Nat} (h:n<16):(aE #[48,49,50,51,52,53,54,55,56,57,97,98,99,100,101,102])[n]? =some (uB n):=by
 have:n=0\/n=1\/n=2\/n=3\/n=4\/n=5\/n=6\/n=7\/n=8\/n=9\/n=10\/n=11\/n=12\/n=13\/n=14\/n=15:=by omega
 (repeat' rcases this with rfl|this)<;>(try subst this)<;>rfl
def xz (c:UInt8) (w:aA):aH aB kK #[.int .u8 (c.toNat:Int)] w λr w'=>r=aJ (.string (ba (eN c)))/\bW w w':=by
 have hc:=c.toNat_lt
 have H:LH F0 w w [] []:=og [] (by simp)
 refine regex_byteText.ok _ w _ (H.call (LG c w) ?_)
 rintro _ w1 rfl H1
 refine ⟨_,rfl,bR (λhp=>?_) (λhp=>?_)⟩
 .rw [IN] at hp
  refine H1.Y5 (λw2 _ H2 hb=>?_)
  have hB:Bytes w2 ⟨some (bO w1.heap.size),3,3⟩ [39,c,39]:=zb (T:=bS) hb rfl
  refine ⟨ba [39,c,39],pT hB,?_,H2.fr⟩
  unfold eN;rw [aN hp]
 .rw [IN] at hp
  have e2:Int.fdiv (c.toNat:Int) (2^(4))=((c.toNat / 16:Nat):Int):=by
   rw [Int.fdiv_eq_ediv_of_nonneg _ (by decide)];omega
  have e3:za .u8 (c.toNat:Int) 15=((c.toNat%16:Nat):Int):=eq_of_beq (wo.1 aah c.toNat (List.mem_range.2 hc))
  refine H1.dr λw3 H3=>?_
  rw [e2,e3]
  refine ⟨by omega,_,QQ (by omega),by omega,_,QQ (by omega),H3.Y5 (λw4 _ H4 hb=>?_)⟩
  have hB:Bytes w4 ⟨some (bO w3.heap.size),4,4⟩ [92,120,uB (c.toNat / 16),uB (c.toNat%16)]:=zb (T:=bS) hb rfl
  refine ⟨ba [92,120,uB (c.toNat / 16),uB (c.toNat%16)],pT hB,?_,H4.fr⟩
  unfold eN;rw [aI (by rw [hp];simp)]
abbrev O4 (n:Nat):Prop:=∀(x:Rt) (w:aA),x.sz<=n->okW x.rx=true->x.P w->aH aB tT #[x.v] w λr w'=>r=aJ (.tuple #[.string (ba (iC x.rx)),.i (dJ x.rx:Int)])/\bW w w'
def MC {n:Nat} (hn:n<=1000000) (hb:O4 n) (x:Rt) (lv:Nat) (w:aA) (h:x.sz<=n) (Wv:lv<=1000) (eL:okW x.rx=true) (px:x.P w):aH aB je #[x.v,.i (lv:Int)] w λr w'=>r=aJ (.string (ba (dN lv x.rx (iC x.rx))))/\bW w w':=by
 refine regex_text.dQ _ _ _ _ _ w _ ((Cc px).cC λb2 w1 H1=>H1.bC (hb x w1 h eL (H1.getD 0)) ?_)
 rintro _ w2 rfl H2
 have rq:(iC x.rx).length<=18000000:=by have:=Dh x.rx;rw [Rt.ja] at this;omega
 have e:aE #[40]++ba (iC x.rx)++aE #[41]=ba (40::(iC x.rx++[41])):=by
  show ba [40]++ba (iC x.rx)++ba [41]=_
  rw [dW,dW];simp
 refine ⟨_,_,rfl,bA (λjO=>⟨?_,?_,?_,H2.fr⟩) (λjO=>⟨?_,H2.fr⟩)⟩
 .rw [cN];show ¬(((1+_:Nat):Int)>9223372036854775807);omega
 .have:(aE #[40]++ba (iC x.rx)).size=1+(iC x.rx).length:=by
   show (ba [40]++_).size=_
   rw [dW,cN];simp;omega
  rw [this];show ¬(((_+1:Nat):Int)>9223372036854775807);omega
 .rw [e];unfold dN;rw [aN (by omega)]
 .unfold dN;rw [aI (by omega)]
def MA:∀n:Nat,n<=1000000->O4 n
 |0,_=>λx w h _ _=>absurd h (by have:=Rt.nZ x;omega)
 |n+1,hn=>by
  have ih:=MA n (by omega)
  intro x w h eL px
  have hs:=Rt.hM x
  have hl:=Rt.gj x.l
  have nr:=Rt.cX px.parts.1
  have HZ:=eL
  rw [Rt.eE] at HZ
  obtain ⟨k0,k7,FF,wE⟩:=vW HZ
  have Kx:(Rt.cR x.l).length=x.l.length:=by rw [Rt.fX,List.length_map]
  rw [Kx] at FF
  have FE:∀a∈x.l,okW a.rx=true:=λa ha=>yC wE (by rw [Rt.fX];exact pN.2 ⟨a,ha,rfl⟩)
  have QU:∀(a:Rt) (lv:Nat),a.sz<=1000000->(dN lv a.rx (iC a.rx)).length<=18000002:=λa lv ha=>by have h1:=Dh a.rx;rw [Rt.ja] at h1;have:=(qc lv a.rx (iC a.rx)).1;omega
  have BY:∀c,(eN c).length<=4:=λc=>by unfold eN;split<;>simp
  let R:aT:=λr w'=>r=aJ (.tuple #[.string (ba (iC x.rx)),.i (dJ x.rx:Int)])/\bW w w'
  have one:∀(a:Rt) (Rj:Nat) (w1:aA) (L:List En) (bs:List Nat) (K:ByteArray->aA->Prop),Rj<=1000->a∈x.l->LH F0 w w1 L [.tree x]->(∀w2,LH F0 w w2 L [.tree x]->K (ba (dN Rj a.rx (iC a.rx))) w2)->oW bs je #[.agg #[.i a.k,.int .u8 (a.lo.toNat:Int),.int .u8 (a.hi.toNat:Int),a.s.v],.i (Rj:Int)] w1 K:=by
   intro a Rj w1 L bs K YE ha H1 hK
   have Gu:=Rt.eM ha
   refine H1.bC (MC (by omega) ih a Rj w1 (by omega) YE (FE a ha) ((show x.P w1 from H1.getD 0).parts.2.mem ha)) ?_
   rintro _ w2 rfl H2
   exact ⟨_,rfl,hK w2 H2⟩
  have Kj:iC x.rx=iC (.mk x.k x.lo x.hi (Rt.cR x.l)):=by rw [Rt.eE]
  have ebd:dJ x.rx=if x.k=6 then 3 else if x.k<3\/x.k=7\/x.l.length<2 then 4 else if x.k=3 then 2 else if x.k=4 then 0 else 1:=by
   rw [Rt.eE];unfold dJ;dsimp only;rw [Kx]
  have b4:(x.k<3\/x.k=7\/x.l.length<2)->x.k≠6->(4:Int)=(dJ x.rx:Int):=λh1 h2=>by rw [ebd,aI h2,aN h1];rfl
  refine regex_bare.dQ _ _ _ _ w _ ((Cc px).cC λb1 w1 H1=>?_)
  have H1:LH F0 w w1 [.g b1] [.tree x]:=H1
  refine aY (λhk=>⟨?_,H1.fr⟩) (λvU=>aY (λhk=>⟨?_,H1.fr⟩) (λHW=>aY (λtN=>?_) (λtN=>aY (λGI=>?_) (λGI=>aY (λOW=>?_) (λOW=>?_)))))
  .rw [<-b4 (.inl (by omega)) (by omega),Kj];unfold iC;rw [aN hk];rfl
  .rw [<-b4 (.inl (by omega)) (by omega),Kj];unfold iC;rw [aI vU,aN hk];rfl
  .have e2:iC x.rx=if x.lo=x.hi then eN x.lo else 91::(eN x.lo++45::(eN x.hi++[93])):=by
    rw [Kj];unfold iC;rw [aI vU,aI HW,aN tN]
   rw [<-b4 (.inl (by omega)) (by omega)]
   refine aY (λUh=>H1.bC (xz x.lo w1) ?_) (λUh=>H1.bH λw5 H5=>H5.bC (xz x.lo w5) ?_)
   .rintro _ w3 rfl H3
    exact ⟨_,rfl,by rw [e2,aN (UInt8.toNat_inj.1 (by omega))],H3.fr⟩
   .rintro _ w6 rfl H6
    have h1:=BY x.lo
    have h2:=BY x.hi
    have s0:aE #[91]++ba (eN x.lo)++aE #[45]=ba (91::eN x.lo++[45]):=by
     show ba [91]++ba (eN x.lo)++ba [45]=_
     rw [dW,dW];rfl
    refine ⟨_,rfl,?_,?_,H6.bC (xz x.hi w6) ?_⟩
    .rw [cN];show ¬(((1+_:Nat):Int)>9223372036854775807);omega
    .have:(aE #[91]++ba (eN x.lo)).size=1+(eN x.lo).length:=by
      show (ba [91]++_).size=_
      rw [dW,cN];simp;omega
     rw [this];show ¬(((_+1:Nat):Int)>9223372036854775807);omega
    rintro _ w7 rfl H7
    rw [s0]
    have:ba (91::eN x.lo++[45]++eN x.hi)++aE #[93]=ba (91::eN x.lo++[45]++eN x.hi++[93]):=by
     show _++ba [93]=_
     rw [dW]
    refine ⟨_,rfl,?_,?_,?_,H7.fr⟩
    .rw [cN,cN];simp only [nE,xB,JM];show ¬(((_:Nat):Int)>9223372036854775807);omega
    .rw [dW,cN];simp only [nE,xB,JM];show ¬(((_+1:Nat):Int)>9223372036854775807);omega
    .rw [dW,this,e2,aI (λh=>Uh (by rw [h]))]
     simp
  .have h1:=FF (.inl GI)
   have e6:iC x.rx=33::xk (j9 3 (Rt.cR x.l)):=by
    rw [Kj];unfold iC;rw [aI vU,aI HW,aI tN,aN GI]
   have e3:(3:Int)=(dJ x.rx:Int):=by rw [ebd,aN GI];rfl
   match pQ:x.l,h1 with
   |[a],_=>
    have ha:a∈x.l:=by rw [pQ];simp
    have Gu:=Rt.eM ha
    refine ku (show x.P w1 from H1.getD 0) (k:=0) rfl (by rw [pQ];rfl) (one a 3 w1 _ _ _ (by omega) ha H1 λw3 H3=>⟨?_,?_,H3.fr⟩)
    .have:=QU a 3 (by omega)
     rw [cN];show ¬(((1+_:Nat):Int)>9223372036854775807);omega
    .have:aE #[33]++ba (dN 3 a.rx (iC a.rx))=ba (33::dN 3 a.rx (iC a.rx)):=by
      show ba [33]++_=_
      rw [dW];rfl
     rw [this,e6,pQ,<-e3]
     rfl
  .have h1:=FF (.inr OW)
   have e7:iC x.rx=xk (j9 4 (Rt.cR x.l))++[42]:=by
    rw [Kj];unfold iC;rw [aI vU,aI HW,aI tN,aI GI,aN OW]
   match pQ:x.l,h1 with
   |[a],_=>
    have ha:a∈x.l:=by rw [pQ];simp
    have Gu:=Rt.eM ha
    refine ku (show x.P w1 from H1.getD 0) (k:=0) rfl (by rw [pQ];rfl) (one a 4 w1 _ _ _ (by omega) ha H1 λw3 H3=>⟨?_,?_,H3.fr⟩)
    .have:=QU a 4 (by omega)
     rw [cN];show ¬(((_+1:Nat):Int)>9223372036854775807);omega
    .have:ba (dN 4 a.rx (iC a.rx))++aE #[42]=ba (dN 4 a.rx (iC a.rx)++[42]):=by
      show _++ba [42]=_
      rw [dW]
     rw [this,e7,pQ,<-b4 (.inr (.inl OW)) GI]
     rfl
  have hk:x.k=3\/x.k=4\/x.k=5:=by omega
  have S1:∀(word sign:BL) (level:Nat),word.length=3->Ci x.k=word++[40]->nf x.k=sign->level<=2->(2<=x.l.length->dJ x.rx=level)->regex_bare.gW b1 x.k x.lo.toNat x.hi.toNat x.s (ba word) (ba sign) (level:Int) w1 R:=by
   intro word sign level hw SW hsg Wv hbd
   have ef:x.l.length<2->iC x.rx=Ci x.k++(xk (j9 0 (Rt.cR x.l))++[41]):=λh=>by
    rw [Kj];unfold iC;rw [aI vU,aI HW,aI tN,aI GI,aI OW,aN (by rw [Kx];omega)]
   refine aY (λh0=>?_) (λh0=>aY (λh1=>?_) (λh1=>?_))
   .have hx:x.l=[]:=List.length_eq_zero_iff.1 (by omega)
    refine ⟨?_,?_,H1.fr⟩
    .rw [cN];show ¬(((_+2:Nat):Int)>9223372036854775807);omega
    .have:ba word++aE #[40,41]=ba (word++[40,41]):=by
      show _++ba [40,41]=_
      rw [dW]
     rw [this,<-b4 (.inr (.inr (by omega))) GI,ef (by omega),SW,hx]
     simp [Rt.cR,j9,xk]
   .match pQ:x.l with
    |[]=>rw [pQ] at nr;simp at nr;omega
    |_::_::_=>rw [pQ] at nr;simp at nr;omega
    |[a]=>
     have ha:a∈x.l:=by rw [pQ];simp
     have Gu:=Rt.eM ha
     have hp:=QU a 0 (by omega)
     refine ⟨?_,ku (show x.P w1 from H1.getD 0) (k:=0) rfl (by rw [pQ];rfl) (one a 0 w1 _ _ _ (by omega) ha H1 λw3 H3=>⟨?_,?_,?_,H3.fr⟩)⟩
     .rw [cN];show ¬(((_+1:Nat):Int)>9223372036854775807);omega
     .have:ba word++aE #[40]=ba (word++[40]):=by
       show _++ba [40]=_
       rw [dW]
      rw [this,cN,cN];simp only [nE,xB,JM];show ¬(((_:Nat):Int)>9223372036854775807);omega
     .have:ba word++aE #[40]++ba (dN 0 a.rx (iC a.rx))=ba (word++[40]++dN 0 a.rx (iC a.rx)):=by
       show _++ba [40]++_=_
       rw [dW,dW]
      rw [this,cN];simp only [nE,xB,JM];show ¬(((_+1:Nat):Int)>9223372036854775807);omega
     .have:ba word++aE #[40]++ba (dN 0 a.rx (iC a.rx))++aE #[41]=ba (word++[40]++dN 0 a.rx (iC a.rx)++[41]):=by
       show _++ba [40]++_++ba [41]=_
       rw [dW,dW,dW]
      rw [this,<-b4 (.inr (.inr (by rw [pQ];simp))) GI,ef (by rw [pQ];simp),SW,pQ]
      simp [Rt.cR,j9,xk]
   .have h2:2<=x.l.length:=by omega
    have hbd:=hbd h2
    have ej:iC x.rx=Uw x.k (j9 (level+1) (Rt.cR x.l)):=by
     conv=>lhs;rw [Kj];unfold iC;rw [aI vU,aI HW,aI tN,aI GI,aI OW,aI (by rw [Kx];omega)]
     rw [<-Rt.eE,hbd]
    have sgl:sign.length<=1:=by rw [<-hsg];unfold nf;split<;>(try split)<;>simp
    have loop:∀(d i:Nat) (out:BL) (w3:aA),i+d=x.l.length->(1<=i->0<out.length)->(i=0->out=[])->out.length+rY (j9 (level+1) (Rt.cR (x.l.drop i)))<=40000000->iC x.rx=(if i=0 then Uw x.k (j9 (level+1) (Rt.cR (x.l.drop i))) else nU x.k out (j9 (level+1) (Rt.cR (x.l.drop i))))->LH F0 w w3 [.g b1] [.tree x]->
      regex_bare.OR b1 x.k x.lo.toNat x.hi.toNat x.s (ba sign) (level:Int) (ba out) x.s ((x.s.n:Nat):Int) (i:Int) w3 R:=by
     intro d
     induction d with
     |zero=>
      intro i out w3 hi KA hz AH he H3
      refine regex_bare.uP _ _ _ _ _ _ _ _ _ _ _ _ _ (aX (aK (by omega)) ⟨?_,H3.fr⟩)
      rw [he,List.drop_of_length_le (by omega),aI (by omega),hbd]
      rfl
     |succ d rR=>
      intro i out w3 hi KA hz AH he H3
      have hg:x.l[i]? =some (x.l[i]'(by omega)):=ie (by omega)
      have DC:x.l.drop i=(x.l[i]'(by omega))::x.l.drop (i+1):=List.drop_eq_getElem_cons (by omega)
      generalize x.l[i]'(by omega)=c at hg DC
      have hc:=dI hg
      have szc:=Rt.eM hc
      rw [DC] at he AH
      have AH:out.length+((dN (level+1) c.rx (iC c.rx)).length+2+rY (j9 (level+1) (Rt.cR (x.l.drop (i+1)))))<=40000000:=by
       have:rY (j9 (level+1) (Rt.cR (c::x.l.drop (i+1))))=(dN (level+1) c.rx (iC c.rx)).length+2+rY (j9 (level+1) (Rt.cR (x.l.drop (i+1)))):=by
        simp [Rt.cR,j9,rY]
       omega
      have hcp:0<(dN (level+1) c.rx (iC c.rx)).length:=by
       have h1:=GF c.rx (FE c hc)
       have:=(qc (level+1) c.rx (iC c.rx)).2
       omega
      have eb1:IntKind.wrap .i64 ((level:Int)+1)=((level+1:Nat):Int):=bP _ (by omega)
      have SS:i=0->iC x.rx=nU x.k (dN (level+1) c.rx (iC c.rx)) (j9 (level+1) (Rt.cR (x.l.drop (i+1)))):=λh=>by
       rw [aN h] at he;rw [he];rfl
      have tw:i≠0->iC x.rx=nU x.k ((if x.k=3/\wk (sg out)=true/\wk (gQ (dN (level+1) c.rx (iC c.rx)) 0)=true then out++[32] else out)++nf x.k++dN (level+1) c.rx (iC c.rx)) (j9 (level+1) (Rt.cR (x.l.drop (i+1)))):=λh=>by
       rw [aI h] at he;rw [he];rfl
      refine regex_bare.uP _ _ _ _ _ _ _ _ _ _ _ _ _ (bF (aO (by omega)) (ku (show x.P w3 from H3.getD 0) rfl hg (H3.cC λb9 w4 H4=>H4.bH λw5 H5=>?_)))
      rw [eb1]
      refine one c (level+1) w5 _ _ _ (by omega) hc H5 λw6 H6=>?_
      have H6:LH F0 w w6 [.g b1,.g b9] [.tree x]:=H6
      generalize dN (level+1) c.rx (iC c.rx)=t at SS tw AH hcp
      have go:∀(o:BL) (w7:aA),o.length<=out.length+1->out.length<=o.length->iC x.rx=nU x.k (o++t) (j9 (level+1) (Rt.cR (x.l.drop (i+1))))->LH F0 w w7 [.g b1,.g b9] [.tree x]->regex_bare.ir b1 x.k x.lo.toNat x.hi.toNat x.s (ba sign) (level:Int) (ba o) (ba t) x.s ((x.s.n:Nat):Int) (i:Int) w7 R:=by
       intro o w7 h1 h2 h3 H7
       refine ⟨?_,?_⟩
       .rw [cN,cN];show ¬(((_:Nat):Int)>9223372036854775807);omega
       .rw [dW,bP _ (by omega)]
        refine rR (i+1) (o++t) w7 (by omega) (λ_=>by simp only [nE];omega) (λh=>by omega) (by simp only [nE];omega) (by rw [aI (by omega)];exact h3) (H7.take 1)
      refine bA (λYy=>⟨?_,?_⟩) (λYy=>go out w6 (by omega) (Nat.le_refl _) (by rw [hz (by omega)];exact SS (by omega)) H6)
      .rw [cN,cN];show ¬(((_:Nat):Int)>9223372036854775807);omega
      have tw:=tw (by omega)
      have KA:=KA (by omega)
      rw [hsg] at tw
      have ea:ba out++ba sign=ba (out++sign):=dW _ _
      have sy:∀w7,LH F0 w w7 [.g b1,.g b9] [.tree x]->¬(x.k=3/\wk (sg out)=true/\wk (gQ t 0)=true)->regex_bare.ir b1 x.k x.lo.toNat x.hi.toNat x.s (ba sign) (level:Int) (ba (out++sign)) (ba t) x.s ((x.s.n:Nat):Int) (i:Int) w7 R:=λw7 H7 tz=>go (out++sign) w7 (by simp only [nE];omega) (by simp only [nE];omega) (by rw [aI tz] at tw;exact tw) H7
      rw [ea]
      refine aY (λKw=>?_) (λKw=>sy w6 H6 (λh=>Kw h.1))
      have s3:sign=[]:=by rw [<-hsg];unfold nf;rw [aN Kw]
      have e9:out++sign=out:=by rw [s3,uL]
      rw [e9] at sy ⊢
      have eo:IntKind.wrap .i64 ((((ba out).size:Nat):Int) - 1)=((out.length - 1:Nat):Int):=by rw [cN,IntWalk.i64_in _ (by omega)];omega
      rw [eo]
      refine ⟨by omega,sg out,?_,H6.bC (AU (sg out) w6) ?_⟩
      .rw [Int.toNat_natCast,mu (s:=ba out) (by rw [cN];omega),r7,Mk out KA]
      rintro _ w7 rfl H7
      refine ⟨_,rfl,bR (λuF=>⟨by omega,gQ t 0,?_,H7.bC (AU (gQ t 0) w7) ?_⟩) (λuF=>sy w7 H7 (λh=>by rw [Jb,h.2.1] at uF;cases uF))⟩
      .rw [show aF 0=0 from rfl,mu (s:=ba t) (by rw [cN];omega),r7]
      rintro _ w8 rfl H8
      refine ⟨_,rfl,bR (λjO=>⟨?_,?_⟩) (λjO=>sy w8 H8 (λh=>by rw [Jb,h.2.2] at jO;cases jO))⟩
      .rw [cN];show ¬(((_+1:Nat):Int)>9223372036854775807);omega
      .have e32:ba out++aE #[32]=ba (out++[32]):=by
        show _++ba [32]=_
        rw [dW]
       rw [e32]
       refine go (out++[32]) w8 (by simp) (by simp) ?_ H8
       rw [aN ⟨Kw,uF,jO⟩,s3,uL] at tw
       exact tw
    have h3:=uk (level+1) (Rt.cR x.l)
    have h4:Rx.gF (Rt.cR x.l)=Rt.gF x.l:=Rt.CB x.l
    exact loop x.l.length 0 [] w1 (by omega) (λh=>by omega) (λ_=>rfl) (by rw [List.drop_zero];simp;omega) (by rw [aN rfl,List.drop_zero];exact ej) H1
  have bd:2<=x.l.length->dJ x.rx=if x.k=3 then 2 else if x.k=4 then 0 else 1:=λh2=>by rw [ebd,aI GI,aI (by omega)]
  refine aY (λh4=>S1 [97,108,116] [124] 0 rfl (by rw [h4];rfl) (by rw [h4];rfl) (by omega) (λh2=>by rw [bd h2,h4];rfl)) (λh4=>aY (λh5=>S1 [97,108,108] [38] 1 rfl (by rw [h5];rfl) (by rw [h5];rfl) (by omega) (λh2=>by rw [bd h2,h5];rfl)) (λh5=>S1 [99,97,116] [] 2 rfl (by rw [show x.k=3 by omega];rfl) (by rw [show x.k=3 by omega];rfl) (by omega) (λh2=>by rw [bd h2,show x.k=3 by omega];rfl)))
def Zc (x:Rt) (lv:Nat) (w:aA) (h:x.sz<=1000000) (Wv:lv<=1000) (eL:okW x.rx=true) (px:x.P w):aH aB je #[x.v,.i (lv:Int)] w λr w'=>r=aJ (.string (ba (dN lv x.rx (iC x.rx))))/\bW w w':=MC (Nat.le_refl _) (MA 1000000 (Nat.le_refl _)) x lv w h Wv eL px
abbrev acb (bs:List Nat) (f:FuncId) (xs:Array Value) (w:aA) (K:ByteArray->Int->aA->Prop):Prop:=fZ bs aB f xs w λr_ w1=>∃a0:ByteArray,∃a1:Int,r_=aJ (.tuple #[.string a0,.i a1])/\K a0 a1 w1
def Zt:y9 12:=by
 intro s l w h12 hl ho pl hd
 have nr:=Rt.cX ho.jG
 refine slices_SortFunc_sl_regex_Regex_regex_Regex.ok _ w _ ((aam _ w).mono ?_)
 rintro _ w1 ⟨⟨t,rfl⟩,f⟩
 refine ⟨t,rfl,slices_pdqsortCmpFunc_regex_Regex.ok _ _ _ _ w1 _ (RI hl (ho.fr f λ_ _ h=>h) (pl.qx f) hd [] l [] (by simp) h12 _ _ rfl (by simp [nr]) _ _ _ λw' h2 f2=>?_)⟩
 exact ⟨rfl,⟨kW l,rfl,Lb l,Ox l,by simpa using h2⟩,f.of0.trans f2 λx _ h=>h⟩
def aak {a b:Nat} (h:¬a<b):Nat.blt a b=false:=by
 cases hc:Nat.blt a b with
 |false=>rfl
 |true=>rw [Nat.blt_eq] at hc;exact absurd hc h
mutual
def HL:∀x:Rx,eV x=true->okW x=true
 |.mk k lo hi l,h=>by
  unfold eV at h
  simp only [Bool.and_eq_true] at h
  have h2:=h.2
  have hl:hZ l=true->DK l=true:=Ei l
  unfold okW
  split at h2
  .rename_i hk
   have:l=[]:=by simpa using h2
   subst this
   have hk:k=0\/k=1:=hk
   unfold DK
   rcases hk with rfl|rfl<;>decide
  .split at h2
   .rename_i hk
    simp only [Bool.and_eq_true] at h2
    have:l=[]:=by simpa using h2.1
    subst this
    subst hk
    unfold DK
    decide
   .split at h2
    .rename_i hk
     rw [hl h2]
     rcases hk with rfl|rfl|rfl<;>simp
    .split at h2
     .rename_i hk
      simp only [Bool.and_eq_true,beq_iff_eq] at h2
      rw [hl h2.2]
      rcases hk with rfl|rfl<;>simp [h2.1]
     .cases h2
def Ei:∀l:List Rx,hZ l=true->DK l=true
 |[],_=>rfl
 |a::l,h=>by
  unfold hZ at h
  unfold DK
  simp only [Bool.and_eq_true] at h
  rw [HL a h.1,Ei l h.2]
  rfl
end
def ur (t:BL):Bool:=bif Nat.blt 4096 t.length then false else match Xx t with
 |.inl _=>false
 |.inr S=>bif Nat.blt 64 (jH S.tp).sz then false else
  if UR (jH S.tp)=0 then (if oO (IC (jH S.tp))=0 then dN 0 (IC (jH S.tp)) (iC (IC (jH S.tp)))==t else false) else false
def Lh (s:ByteArray) (hf:∀S,Xx (bl s)=.inr S->Fy 12 (jH S.tp)) (w:aA):aH aB oz #[.string s] w λr w'=>r=aJ (.bool (ur (bl s)))/\bW w w':=by
 have hl:(bl s).length=s.size:=iH s
 have H:LH F0 w w [] []:=og [] (by simp)
 refine term_isNormal.dQ s w _ ((Ty s w).mono ?_)
 rintro r w1 ⟨f1,hr⟩
 have H1:=H.qx f1
 have no:∀(a e:Int),e≠0->ur (bl s)=false->r=aJ (.tuple #[.agg #[.int .i64 0,.int .u8 0,.int .u8 0,.slice none 0 0],.int .i64 a,.int .i64 e])->∃(t0 t1 t2:Int) (t3:Sl) (t4 t5:Int),r=aJ (.tuple #[.agg #[.i t0,.int .u8 t1,.int .u8 t2,t3.v],.i t4,.i t5])/\cB [] w1 λb3 w2=>aW (t5 !=0) (loc [b3] w2 λw6=>(Ending.returned (.bool false)=aJ (.bool (ur (bl s)))/\bW w w6)) (loc [b3] w2 λw6=>Qb [b3] po #[.agg #[.i t0,.int .u8 t1,.int .u8 t2,t3.v]] w6 λVx Vy Vz VA abx w7=>cB [b3] w7 λb6 w8=>
   aW (abx !=0) (loc [b3,b6] w8 λAO=>(Ending.returned (.bool false)=aJ (.bool (ur (bl s)))/\bW w AO)) (loc [b3,b6] w8 λAO=>acb [b3,b6] sL #[.agg #[.i Vx,.int .u8 Vy,.int .u8 Vz,VA.v]] AO λaby abz Db=>aW (abz==0) (Ending.returned (.bool (aby.toList==s.toList))=aJ (.bool (ur (bl s)))/\bW w Db) (Ending.returned (.bool false)=aJ (.bool (ur (bl s)))/\bW w Db))):=λa e he hn hr=>⟨0,0,0,⟨none,0,0⟩,a,e,hr,H1.cC λb3 w2 H2=>gB (λ_=>H2.bH λw3 H3=>⟨by rw [hn],H3.fr⟩) (λh=>absurd h he)⟩
 rcases hr with ⟨h1,h2⟩|⟨h1,res,mE,⟨a,rfl,h2⟩|⟨S',rfl,⟨h3,h2⟩|⟨h3,t,h2,ht,pt,ft⟩⟩⟩
 .refine no _ _ (by decide) ?_ h2
  unfold ur
  rw [show Nat.blt 4096 (bl s).length=true from by rw [Nat.blt_eq];omega]
  rfl
 all_goals have BX:Nat.blt 4096 (bl s).length=false:=aak (by omega)
 all_goals have N0:=ZO mE
 .have N0:Sum.inl a=Xx (bl s):=N0
  refine no _ _ (by decide) ?_ h2
  unfold ur
  rw [BX,<-N0]
  rfl
 .have N0:Sum.inr (zj S')=Xx (bl s):=N0
  refine no _ _ (by decide) ?_ h2
  unfold ur
  rw [BX,<-N0]
  dsimp only [cond_false]
  rw [Fu,show Nat.blt 64 (jH S'.tp).sz=true from by rw [Nat.blt_eq];exact h3]
  rfl
 .have N0:Sum.inr (zj S')=Xx (bl s):=N0
  have QR:=hf _ N0.symm
  rw [Fu] at QR
  have hnp:ur (bl s)=if UR (jH S'.tp)=0 then (if oO (IC (jH S'.tp))=0 then dN 0 (IC (jH S'.tp)) (iC (IC (jH S'.tp)))==bl s else false) else false:=by
   unfold ur
   rw [BX,<-N0]
   dsimp only [cond_false]
   have:Nat.blt 64 (jH S'.tp).sz=false:=aak (by omega)
   rw [Fu,this]
   rfl
  generalize jH S'.tp=x at ht QR hnp h3
  have H1':=H.pS (.tree t) f1 pt (λb hb=>.inl (ft b (aV.1 hb)))
  have W4:t.sz<=64:=by rw [<-Rt.ja,ht];exact h3
  refine ⟨_,_,_,t.s,_,_,h2,H1'.cC λb3 w2 H2=>gB (λh=>absurd rfl h) (λ_=>H2.bH λw3 H3=>?_)⟩
  refine H3.rC (PF Zt (by omega) t w3 (by omega) (by rw [ht];exact QR) (H3.getD 0)) ?_
  rintro _ w4 ⟨u,rfl,hu,pu,fu⟩ _ F4
  rw [ht] at hu
  rw [ht]
  have H4:=F4.rd (.tree u) pu λb hb=>fu b (aV.1 hb)
  refine ⟨_,_,_,u.s,_,rfl,H4.cC λb6 w5 H5=>gB (λjx=>H5.bH λw6 H6=>⟨by rw [hnp,aI jx],H6.fr⟩) (λhe=>H5.bH λw6 H6=>?_)⟩
  rw [aN he] at hnp
  have szu:u.sz<=1000000:=by
   rw [<-Rt.ja,hu]
   have:UR x=0:=he
   unfold UR at this
   unfold IC
   split at this
   .rename_i hv
    rw [aN hv]
    unfold Ip at this
    unfold Iq
    split at this
    .cases this
    .rename_i Ej
     rw [aI Ej]
     omega
   .rename_i hv
    exact absurd this hv
  refine o7 (regex_Print.dQ _ _ _ _ w6 _ ((Cc (H6.getD 1)).cC λb1 w7 H7=>H7.bC (LA u w7 szu (H7.getD 0)) ?_))
  rintro _ w8 rfl H8
  rw [hu]
  refine ⟨_,rfl,gB (λjx=>⟨H8.fr,_,_,rfl,aY (λh=>absurd h jx) (λ_=>⟨by rw [hnp,aI jx],(H6.qx H8.fr).fr⟩)⟩) (λhv=>H8.bC (Zc u 0 w8 szu (by omega) ?_ (H8.getD 0)) ?_)⟩
  .exact HL _ (by rw [hu];exact (xJ hv).1)
  .rintro _ w9 rfl H9
   refine ⟨_,rfl,H9.fr,_,_,rfl,bF rfl ⟨?_,(H6.qx H9.fr).fr⟩⟩
   rw [hnp,aN hv,hu]
   congr 2
   have:=DW (dN 0 (IC x) (iC (IC x))) (bl s)
   rw [rA] at this
   exact this
def aaG (t:BL):Bool:=match Xx t with
 |.inr S=>Nat.ble (sJ (jH S.tp)) 12
 |.inl _=>true
def Qd (t:BL):Bool:=(match Fj t with
 |some b=>ur t==b
 |none=>false)&&aaG t&&Nat.ble t.length 100
def uZ (i:Nat):Bool:=(List.range 108).all (λk=>Qd (sC (108 *i+k)))
def TY:uZ 0=true:=by kernel_rfl
def TZ:uZ 1=true:=by kernel_rfl
def T0:uZ 2=true:=by kernel_rfl
def T1:uZ 3=true:=by kernel_rfl
def T2:uZ 4=true:=by kernel_rfl
def T3:uZ 5=true:=by kernel_rfl
def T4:uZ 6=true:=by kernel_rfl
def T5:uZ 7=true:=by kernel_rfl
def T6:uZ 8=true:=by kernel_rfl
def T7:uZ 9=true:=by kernel_rfl
def QE:uZ 10=true:=by kernel_rfl
def QF:uZ 11=true:=by kernel_rfl
def QG:uZ 12=true:=by kernel_rfl
def QH:uZ 13=true:=by kernel_rfl
def QI:uZ 14=true:=by kernel_rfl
def QJ:uZ 15=true:=by kernel_rfl
def Yr:∀i,i<16->uZ i=true:=by
 intro i hi
 match i,hi with
 |0,_=>exact TY
 |1,_=>exact TZ
 |2,_=>exact T0
 |3,_=>exact T1
 |4,_=>exact T2
 |5,_=>exact T3
 |6,_=>exact T4
 |7,_=>exact T5
 |8,_=>exact T6
 |9,_=>exact T7
 |10,_=>exact QE
 |11,_=>exact QF
 |12,_=>exact QG
 |13,_=>exact QH
 |14,_=>exact QI
 |15,_=>exact QJ
 |n+16,h=>exact absurd h (by omega)
def Yq (k:Nat) (h:k<1728):Qd (sC k)=true:=by
 have h1:=Yr (k / 108) (by omega)
 have h2:=wo.1 h1 (k%108) (List.mem_range.2 (Nat.mod_lt _ (by omega)))
 rwa [Nat.div_add_mod] at h2
def aaH:List BL:=[[],[97],[65],[115,101,118,101,110,116,101,101,110,45,108,101,116,116,101,114,115],[97,45,49],[45],[40],[122,122],[97,98],[98],[0],[97,97],[99],[100],[109],[110],[115],[116],[105],[122]]
def Yl:aaH.all Qd=true:=by kernel_rfl
def OcT (t:ByteArray):Prop:=bl t∈aaH\/∃k,t=ba (sC k)
def Y6 {t:ByteArray} (h:OcT t):Qd (bl t)=true:=by
 rcases h with h|⟨k,rfl⟩
 .exact wo.1 Yl _ h
 .rw [r7,zR]
  exact Yq (k%1728) (Nat.mod_lt _ (by omega))
def WQ {t:ByteArray} (h:OcT t):Pn t/\JW t/\t.size<=100:=by
 have hc:=Y6 h
 unfold Qd at hc
 simp only [Bool.and_eq_true] at hc
 obtain ⟨⟨h1,h2⟩,h3⟩:=hc
 have h3:=Nat.le_of_ble_eq_true h3
 rw [iH] at h3
 cases hq:Fj (bl t) with
 |none=>rw [hq] at h1;cases h1
 |some b=>
  rw [hq] at h1
  have h1:=eq_of_beq h1
  have hx:Pn t:=⟨by omega,b,hq⟩
  refine ⟨hx,λw=>?_,h3⟩
  have acu:Dx t=b:=by
   have:=hx.can
   rw [hq] at this
   exact (Option.some.inj this).symm
  rw [acu,<-h1]
  refine Lh t (λS hS=>Kk _ ?_) w
  unfold aaG at h2
  rw [hS] at h2
  exact Nat.le_of_ble_eq_true h2
structure OS (c:Nat) (d:Nx):Prop where
 kl:d.kids.length<=c
 n:qS d.n
 m:qS d.m
 u:0<=d.u
 tx:d.op=33->OcT d.tx
def MdN.sp {d:Nx} (h:MdN d):OS 3 d:=⟨h.kl,⟨by have:=h.n;omega,by have:=h.n;omega⟩,⟨by have:=h.m;omega,by have:=h.m;omega⟩,h.u.1,λox=>.inr (h.re ox)⟩
def OS.le {c e:Nat} {d:Nx} (h:OS c d) (hc:c<=e):OS e d:=⟨by have:=h.kl;omega,h.n,h.m,h.u,h.tx⟩
def OS.nok {c:Nat} {d:Nx} (h:OS c d) (hc:c<=100):ZX d:=⟨by have:=h.kl;unfold pO;omega,h.n,h.m,λox=>(WQ (h.tx ox)).1⟩
def OS.tok {c:Nat} {d:Nx} (h:OS c d) (hc:c<=100):XS d:=⟨by have:=h.kl;omega,h.n,h.m,h.u,λox=>(WQ (h.tx ox)).2.1⟩
def spT:List ByteArray:=[aE #[],aE #[97],aE #[65],aE #[115,101,118,101,110,116,101,101,110,45,108,101,116,116,101,114,115],aE #[97,45,49],aE #[45],aE #[40],aE #[122,122]]
def Zu:∀t∈spT,OcT t:=by
 intro t ht
 refine .inl ?_
 revert t
 decide
structure SpQ (d:Nx) (Q:Nx->Prop):Prop where
 op:∀k,qS k->k≠33->Q {d with op:=k}
 n:∀k,qS k->Q {d with n:=k}
 m:∀k,qS k->Q {d with m:=k}
 u:∀k,0<=k->k<18446744073709551616->Q {d with u:=k}
 tx:∀t∈spT,Q {d with tx:=t}
 st:∀a b c,(qS a\/a=d.st.k)->(qS b\/b=d.st.n)->(qS c\/c=d.st.x)->Q {d with st:=⟨a,b,c⟩}
 ks:∀l:List Int,l.length<=d.kids.length+1->(∀k∈l,k∈d.kids\/(0<=k/\k<12))->Q {d with kids:=l}
def aaf (w:aA) (Q:Nx->Prop) (r:Ending) (w':aA):Prop:=∃d:Nd,r=aJ d.v/\Q d.x/\d.P w'/\∀b∈(fV d).fp,w.heap.size<=b
def OS.q {c:Nat} {d:Nx} (hs:OS c d):SpQ d (OS (c+1)):=by
 have NT:=hs.kl
 exact ⟨λk _ h=>⟨by simp only;omega,hs.n,hs.m,hs.u,λe=>absurd e h⟩,λk h=>⟨by simp only;omega,h,hs.m,hs.u,hs.tx⟩,λk h=>⟨by simp only;omega,hs.n,h,hs.u,hs.tx⟩,λk h _=>⟨by simp only;omega,hs.n,hs.m,h,hs.tx⟩,λt ht=>⟨by simp only;omega,hs.n,hs.m,hs.u,λ_=>Zu t ht⟩,λ_ _ _ _ _ _=>⟨by simp only;omega,hs.n,hs.m,hs.u,hs.tx⟩,λl h _=>⟨by simp only;omega,hs.n,hs.m,hs.u,hs.tx⟩⟩
structure Ti (c:Nat) (d:Nx):Prop where
 sp:OS c d
 wd:JZ d
 tl:d.tx.size<=1000
def Ti.le {c e:Nat} {d:Nx} (h:Ti c d) (hc:c<=e):Ti e d:=⟨h.sp.le hc,h.wd,h.tl⟩
def Ti.small {c:Nat} {d:Nx} (h:Ti c d) (hc:c<=100):(uo d).length<=1000000:=IE h.wd (by have:=h.sp.kl;omega) h.tl
def wh.gd {g:List Nx} (h:wh g) (hl:g.length<=1000):∀d∈g,Ti 3 d:=by
 intro d hd
 have hn:=h.nd d hd
 obtain ⟨i,hi⟩:=List.mem_iff_getElem?.1 hd
 have Yz:=(nY.1 hi).1
 have hk:=h.vg.kids hi
 have hv:=nL.1 (h.vg.val d hd)
 have ht:d.tx.size<=100:=by
  by_cases ox:d.op=33
  .obtain ⟨k,hk⟩:=hn.re ox
   rw [hk,cN]
   have:=CR k
   omega
  .have:=hn.tx ox
   omega
 have h1:=hn.op1
 have h2:=hn.op2
 have h3:=hn.kl
 have h4:=hn.n
 have h5:=hn.m
 have h6:=hn.u
 exact ⟨hn.sp,⟨⟨by omega,by omega⟩,λk xM=>by have:=hk k xM;exact ⟨by omega,by omega⟩,by omega,⟨by omega,by omega⟩,⟨by omega,by omega⟩,⟨by omega,by omega⟩,by omega,⟨by omega,by omega⟩,⟨by omega,by omega⟩,⟨by omega,by omega⟩⟩,by omega⟩
def Ti.q {c:Nat} {d:Nx} (h:Ti c d) (hc:c<=50):SpQ d (Ti (c+1)):=by
 have q:=h.sp.q
 have W:=h.wd
 have hs:∀t∈spT,t.size<=1000:=by decide
 exact ⟨λk h1 h2=>⟨q.op k h1 h2,⟨h1,W.ks,W.kl,W.n,W.m,W.u,W.tx,W.sk,W.sn,W.sx⟩,h.tl⟩,
  λk h1=>⟨q.n k h1,⟨W.op,W.ks,W.kl,h1,W.m,W.u,W.tx,W.sk,W.sn,W.sx⟩,h.tl⟩,
  λk h1=>⟨q.m k h1,⟨W.op,W.ks,W.kl,W.n,h1,W.u,W.tx,W.sk,W.sn,W.sx⟩,h.tl⟩,
  λk h1 h2=>⟨q.u k h1 h2,⟨W.op,W.ks,W.kl,W.n,W.m,⟨h1,h2⟩,W.tx,W.sk,W.sn,W.sx⟩,h.tl⟩,
  λt ht=>⟨q.tx t ht,⟨W.op,W.ks,W.kl,W.n,W.m,W.u,by have:=hs t ht;show t.size<=_;omega,W.sk,W.sn,W.sx⟩,hs t ht⟩,
  λa b e h1 h2 h3=>⟨q.st a b e h1 h2 h3,⟨W.op,W.ks,W.kl,W.n,W.m,W.u,W.tx,h1.elim id (λe=>e▸W.sk),h2.elim id (λe=>e▸W.sn),h3.elim id (λe=>e▸W.sx)⟩,h.tl⟩,
  λl h1 h2=>⟨q.ks l h1 h2,⟨W.op,λk hk=>(h2 k hk).elim (W.ks k) (λh=>⟨by omega,by omega⟩),by have:=h.sp.kl;show l.length<=_;omega,W.n,W.m,W.u,W.tx,W.sk,W.sn,W.sx⟩,h.tl⟩⟩
def M7:∀{r g:List Nx},Vg (g++r)->GA g r=0
 |[],_,_=>rfl
 |n::r,g,h=>by
  have hg:(g++n::r)[g.length]? =some n:=by simp
  have h1:=h.ok _ _ hg
  have h2:=C' h _ _ hg
  rw [List.take_left] at h1 h2
  rw [EU,h1,aI (λh=>h rfl),aI (λh=>h rfl),aI h2]
  exact M7 (by rw [tA];exact h)
def VK {g:List Nx} (h:Vg g) (hl:g.length<=4096):Jx g=0:=by
 unfold Jx
 rw [aI (by omega)]
 exact M7 (by rwa [List.nil_append])
def Jw (t:ByteArray) (r:List Nx):∀g:List Nx,qL (g++r) t=(qL g t).orElse λ_=>qL r t
 |[]=>by simp [qL]
 |d::g=>by
  rw [List.cons_append,qL,qL,Jw t r g]
  split<;>simp
def Vr {g r:List Nx} {n:Nx} (h:(eF g n).2=0) (hv:n.op=0->∀e∈r,e.op=0->e.tx=n.tx->e.st=n.st):eF (g++r) n=eF g n:=by
 have ho:=CG h
 have hk:∀j,jL (g++r) n j=jL g n j:=λj=>by
  unfold jL
  cases hj:n.kids[j]? with
  |none=>rfl
  |some k=>
   have:=ho.ki k (dI hj)
   dsimp only
   rw [List.getElem?_append_left (by omega)]
 have ha:n.kids.all (iJ (g++r))=n.kids.all (iJ g):=by
  have h1:n.kids.all (iJ g)=true:=wo.2 λk hk=>by
   have:=ho.ki k hk
   unfold iJ
   simp [this]
  rw [h1]
  exact wo.2 λk hk=>by
   have:=ho.ki k hk
   unfold iJ
   simp
   omega
 have hl:dH (g++r) n=dH g n:=by
  by_cases h0:n.op=0
  .have hf:pG g n=false:=by
    cases ht:pG g n with
    |false=>rfl
    |true=>
     exfalso
     unfold eF dH at h
     rw [aN (show n.op<=3 by omega),aI (show ¬n.op=2 by omega)] at h
     rw [aN (show n.op=0/\pG g n=true from ⟨h0,ht⟩)] at h
     repeat' split at h
     all_goals cases h
   have Z':pG (g++r) n=false:=by
    unfold pG at hf ⊢
    rw [Jw]
    cases hg:qL g n.tx with
    |some s=>rw [hg] at hf;exact hf
    |none=>
     cases hr:qL r n.tx with
     |none=>rfl
     |some s=>
      obtain ⟨e,he,e0,et,es⟩:=vJ hr
      have:=hv h0 e he e0 et
      dsimp only [Option.orElse]
      rw [<-es,this]
      simp
   unfold dH
   rw [hf,Z']
  .unfold dH
   simp only [h0,false_and]
 unfold eF
 rw [ha,hl,hk,hk,hk]
structure ZY (g l:List Nx) (n:Nat):Prop where
 md:wh l
 ex:∃r,l=g++r
 len:l.length<=n
def ZY.add {g l:List Nx} {n:Nat} {d:Nx} (h:ZY g l n) (hd:MdN d) (h0:(iN l d).2.2=0):ZY g (iN l d).1 (n+1):=by
 obtain ⟨r,hr⟩:=h.ex
 refine ⟨Bd h.md hd h0,?_,by have:=xT l d;have:=h.len;omega⟩
 obtain ⟨_,k,_,_,h3⟩:=wU h0
 rcases h3 with h3|⟨_,h5,_⟩
 .exact ⟨r,by rw [h3,hr]⟩
 .exact ⟨r++[gM d (eF l d).1],by rw [h5,hr,tA]⟩
def ZY.le {g l:List Nx} {n m:Nat} (h:ZY g l n) (hn:n<=m):ZY g l m:=⟨h.md,h.ex,Nat.le_trans h.len hn⟩
def qP (n:Nx) (to:List Int):Nx:={n with kids:=n.kids.map λk=>to.getD k.toNat 0}
def pj:List Nx->List Int->List Nx->List Nx×List Int×Int
 |g,to,[]=>(g,to,0)
 |g,to,n::r=>if (iN g (qP n to)).2.2≠0 then ([],[],(iN g (qP n to)).2.2) else pj (iN g (qP n to)).1 (to++[(iN g (qP n to)).2.1]) r
def tP (g:List Nx) (to:List Int) (n:Nx) (r:List Nx):pj g to (n::r)=if (iN g (qP n to)).2.2≠0 then ([],[],(iN g (qP n to)).2.2) else pj (iN g (qP n to)).1 (to++[(iN g (qP n to)).2.1]) r:=rfl
def YZ {n:Nx} {to z:List Int} (h:∀k∈n.kids,0<=k/\k<(to.length:Int)):qP n (to++z)=qP n to:=by
 unfold qP
 congr 1
 refine List.map_congr_left λk hk=>?_
 have:=h k hk
 simp only [List.getD_eq_getElem?_getD]
 rw [List.getElem?_append_left (by omega)]
def Rp {n:Nx} {to:List Int} (h:MdN n):MdN (qP n to):=⟨h.op1,h.op2,by have:=h.kl;simpa [qP] using this,h.n,h.m,h.u,h.tx,h.re⟩
def Md {g:List Nx} (h:Vg g) {k:Nat} {x:Nx} (hx:g[k]? =some x):qB x g 0=some k:=by
 cases hi:qB x g 0 with
 |none=>exact absurd (dI hx) (td hi)
 |some j=>
  have hj:=(rF hi).2
  rw [Nat.sub_zero] at hj
  rcases Nat.lt_trichotomy j k with jO|rfl|jO
  .exact absurd (dI (i:=j) (by rw [List.getElem?_take,aN jO];exact hj)) (C' h k x hx)
  .rfl
  .exact absurd (dI (i:=k) (by rw [List.getElem?_take,aN jO];exact hx)) (C' h j x hj)
def Ik:∀{r:List Nx} {g:List Nx} {to:List Int},(pj g to r).2.2=0->(∃e,(pj g to r).1=g++e)/\(∃z,(pj g to r).2.1=to++z/\z.length=r.length)
 |[],g,to,_=>⟨⟨[],by simp [pj]⟩,⟨[],by simp [pj]⟩⟩
 |n::r,g,to,h=>by
  rw [tP] at h ⊢
  split at h
  .rename_i h0
   exact absurd h h0
  .rename_i h0
   rw [aI h0]
   obtain ⟨⟨e,he⟩,z,hz,hl⟩:=Ik h
   obtain ⟨_,k,_,_,h3⟩:=wU (n:=qP n to) (g:=g) (by omega)
   refine ⟨?_,(iN g (qP n to)).2.1::z,by rw [hz];simp,by simp [hl]⟩
   rcases h3 with h3|⟨_,h5,_⟩
   .exact ⟨e,by rw [he,h3]⟩
   .exact ⟨_,by rw [he,h5,tA]⟩
def Mi:∀{r:List Nx} {g:List Nx} {to:List Int},wh g->(∀d∈r,MdN d)->wh (pj g to r).1/\(pj g to r).1.length<=g.length+r.length
 |[],g,to,h,_=>⟨h,by simp [pj]⟩
 |n::r,g,to,h,hr=>by
  rw [tP]
  split
  .exact ⟨⟨.nil,by simp⟩,by simp⟩
  .rename_i h0
   have h1:=Mi (r:=r) (g:=(iN g (qP n to)).1) (to:=to++[(iN g (qP n to)).2.1]) (Bd h (Rp (hr n (by simp))) (by omega)) (λd hd=>hr d (by simp [hd]))
   have:=xT g (qP n to)
   exact ⟨h1.1,by simp only [xB];omega⟩
section
variable {M:Nat->Prop} {w0 w:aA} {L D:List En} {bs:List Nat}
def _root_.Go.W.LH.mkg (H:LH M w0 w L D) {P:Program} {t e:TypeId} {z:Value} {sz bytes:Nat} (el:jb P t e z sz bytes) (n:Nat) (hb:n *bytes<=140737488355328) {K:Sl->aA->Prop}
  (hK:∀s w',s.n=n->LH M w0 w' (L++[.row e sz s (madeCells z.cells (n *sz)).toList]) D->K s w') (kS:∀b∈bs,En.g b∈L:=by simp):
  ∃(s:Sl) (w':aA),Sem.run P (Instr.makeSlice t (.i (n:Int)) (.i (n:Int))) w=.ok s.v w'/\kept bs w w'/\K s w':=by
 obtain ⟨w',r1,r2,r3⟩:=EA el w n hb
 exact ⟨⟨some (bO w.heap.size),n,n⟩,w',r1,λb hb=>r3.ic b (H.own _ (kS b hb)) id,hK _ w' rfl (H.RM r3 r2 (by intro b hb;simp [bQ] at hb;omega))⟩
end
def Ez (n:Nat):(madeCells (Value.int .i64 0).cells (n *1)).toList=(List.replicate n (0:Int)).map l4:=by
 rw [wH _ _ rfl,List.map_replicate]
 rfl
def Mz {w:aA} {s:Sl} {l:List Int} (h:bD w cT 1 s (l.map l4)) (hl:0<l.length):∃p,s.a=some p:=by
 have:=(sv h).cell (ie hl) rfl (K:=λq=>s.a=some q) (λp hp _=>hp)
 cases hs:s.a with
 |none=>rw [hs] at this;exact this.elim
 |some p=>exact ⟨p,rfl⟩
def Y0 {n:Nx} {to:List Int} {i:Nat} {k:Int} (hk:n.kids[i]? =some k) (h:0<=k/\k<(to.length:Int)):∃t,to[k.toNat]? =some t/\(qP n to).kids[i]? =some t:=by
 refine ⟨to[k.toNat]'(by omega),ie (by omega),?_⟩
 show (n.kids.map _)[i]? =_
 rw [List.getElem?_map,hk,Option.map_some,List.getD_eq_getElem?_getD,ie (by omega)]
 rfl
def VD {w:aA} {d:Nd} {ts:Sl} {to:List Int} (hd:d.P w) (ht:hU w ts to) (hk:∀k∈d.x.kids,0<=k/\k<(to.length:Int)) (hl:d.x.kids.length<=1000):
  aH aB tW #[d.v,ts.v] w λr w'=>aaf w (·=qP d.x to) r w'/\bW w w':=by
 have hdn:=hU.len hd
 have htn:=hU.len ht
 have hml:(qP d.x to).kids.length=d.x.kids.length:=by simp [qP]
 refine term_moved.dQ _ _ _ _ _ _ _ _ _ ts w _ ((lh2 (a:=fV d) (b:=.rd ts (to.map l4)) hd ht).cC λb2 w1 H1=>H1.cC λb4 w2 H2=>?_)
 rw [hdn]
 refine H2.mkg vR d.x.kids.length (by omega) λks w3 wE H3=>?_
 rw [Ez] at H3
 have loop:∀(m i:Nat) (K:List Int) (w4:aA),i+m=d.x.kids.length->K.length=d.x.kids.length->(∀j,j<i->K[j]? =(qP d.x to).kids[j]?)->LH F0 w w4 [.g b2,.g b4,zA ks K] [fV d,.rd ts (to.map l4)]->
   term_moved.fO ts b2 d.x.op d.ks d.x.n d.x.m d.x.u d.x.tx d.x.st.k d.x.st.n d.x.st.x b4 0 ⟨none,0,0⟩ 0 0 0 (aE #[]) 0 0 0 ks ((d.x.kids.length:Nat):Int) (i:Int) w4 λr w'=>aaf w (·=qP d.x to) r w'/\bW w w':=by
  intro m
  induction m with
  |zero=>
   intro i K w4 hi hK hj H
   refine term_moved.bT _ _ _ _ _ _ _ _ _ _ _ _ _ _ _ _ _ _ _ _ _ _ _ _ _ _ (aX (aK (by omega)) (H.bH λw5 H5=>⟨⟨⟨qP d.x to,ks⟩,rfl,rfl,?_,?_⟩,H5.fr⟩))
   .have e:K=(qP d.x to).kids:=List.ext_getElem? λj=>by
     rcases Nat.lt_or_ge j i with h|h
     .exact hj j h
     .rw [List.getElem?_eq_none (by omega),List.getElem?_eq_none (by omega)]
    show hU w5 ks (qP d.x to).kids
    rw [<-e]
    exact sv (H5.get 2)
   .exact IY λb hb=>(H5.new _ (dI (i:=2) rfl) b hb).resolve_right id
  |succ m ih=>
   intro i K w4 hi hK hj H
   have gk:d.x.kids[i]? =some (d.x.kids[i]'(by omega)):=ie (by omega)
   generalize d.x.kids[i]'(by omega)=k at gk
   have hkr:=hk k (dI gk)
   obtain ⟨t,ht1,WD⟩:=Y0 gk hkr
   obtain ⟨p,hp⟩:=Mz (H.get 2) (by omega)
   have OX:=vV (H.get 2)
   refine term_moved.bT _ _ _ _ _ _ _ _ _ _ _ _ _ _ _ _ _ _ _ _ _ _ _ _ _ _ (bF (aO (by omega)) ⟨by omega,by omega,(show hU w4 d.ks d.x.kids from H.getD 0).cell gk (by omega) λq hq hc=>⟨k,hc,by omega,by omega,(show hU w4 ts to from H.getD 1).cell ht1 rfl λq2 JI Wk=>⟨t,Wk,by omega,by omega,?_⟩⟩⟩)
   rw [hp]
   refine sw (H.OB 2 (aF (i:Int) *1) rfl hp (by simp;omega) λw5 H5=>?_)
   rw [bP _ (by omega)]
   have e1:aF (i:Int) *1=i:=by omega
   rw [e1] at H5
   refine ih (i+1) (K.set i t) w5 (by omega) (by rw [List.length_set];exact hK) (λj SV=>?_) (by rw [zA,List.map_set];exact H5)
   rcases Nat.lt_or_ge j i with h|h
   .rw [List.getElem?_set_ne (by omega)]
    exact hj j h
   .rw [show j=i by omega,List.getElem?_set_self (by omega)]
    exact WD.symm
 exact loop d.x.kids.length 0 _ w3 (by omega) (by simp) (λj h=>absurd h (by omega)) H3
def AE (l:List Nd) (d:Nd):List Nd:=if (eF (xs l) d.x).2≠0\/4096<=l.length\/gM d.x (eF (xs l) d.x).1∈xs l then l else l++[⟨gM d.x (eF (xs l) d.x).1,d.ks⟩]
def E3 {l:List Nd} {d:Nd} (h:(iN (xs l) d.x).2.2=0):xs (AE l d)=(iN (xs l) d.x).1:=by
 have pQ:(xs l).length=l.length:=by simp [xs]
 unfold iN at h ⊢
 unfold AE
 split at h
 .rename_i h0
  exact absurd h h0
 rename_i h0
 rw [aI h0]
 cases hi:qB (gM d.x (eF (xs l) d.x).1) (xs l) 0 with
 |some i=>rw [aN (.inr (.inr (dI (rF hi).2)))]
 |none=>
  rw [hi] at h
  dsimp only at h ⊢
  split at h
  .cases h
  rename_i h4
  rw [aI h4,aI (by
   rintro (h|h|h)
   .exact h0 h
   .omega
   .exact td hi h)]
  simp [xs]
def Pp {l:List Nd} {d e:Nd} (h:e∈AE l d):e∈l\/(e.ks=d.ks/\e.x.kids=d.x.kids):=by
 unfold AE at h
 split at h
 .exact .inl h
 .rcases List.mem_append.1 h with h|h
  .exact .inl h
  .simp only [dT,gL,or_false] at h
   subst h
   exact .inr ⟨rfl,rfl⟩
def Po (l:List Nd) (d:Nd):∃r,AE l d=l++r:=by
 unfold AE
 split
 .exact ⟨[],by simp⟩
 .exact ⟨_,rfl⟩
def aaj {w:aA} {bb:Nat} {l:List Nd} {own:List Nat} {d:Nd} (h:nM w bb l own) (hP:∀e∈d::l,e.P w) (hk:rV.P w) (hdj:∀e∈d::l,∀b∈(fV e).fp,b∉own) (hko:∀b∈rV.fp,b∉own) (ho:XS d.x) (W:JZ d.x) (hg:Vg (xs l)) (hu:∀e∈xs l,0<=e.u) (hl:l.length<=10000):
  aH aB oG #[.pointer (some (bO bb)),d.v] w λr w'=>r=aJ (.tuple #[.i (iN (xs l) d.x).2.1,.i (iN (xs l) d.x).2.2])/\JP w bb own (AE l d) w':=by
 have pQ:(xs l).length=l.length:=by simp [xs]
 have H:LH (·∈own) w w [.bu bb own l] [.all ((d::l).map fV),rV]:=LH.uf _ _ (by
  intro e he
  simp only [dT,gL,or_false] at he
  subst he
  exact ⟨h,λb hb=>aV.1 hb⟩) (by
  simp only [List.flatMap_cons,List.flatMap_nil,uL]
  exact kM own) (by
  intro e he
  simp only [dT,gL,or_false] at he
  have no:∀{b:Nat},b∉own->∀e'∈[En.bu bb own l],b∉e'.fp:=λhb e' lM hm=>by
   simp only [dT,gL,or_false] at lM
   subst lM
   exact hb (aV.1 hm)
  rcases he with rfl|rfl
  .refine ⟨λe he=>?_,λb hb=>no ?_⟩
   .obtain ⟨a,ha,rfl⟩:=pN.1 he
    exact hP a ha
   .obtain ⟨e,he,hb⟩:=List.mem_flatMap.1 (aV.1 hb)
    obtain ⟨a,ha,rfl⟩:=pN.1 he
    exact hdj a ha b hb
  .exact ⟨hk,λb hb=>no (hko b hb)⟩)
 have P:∀{w1:aA} {L:List En},LH (·∈own) w w1 L [.all ((d::l).map fV),rV]->∀e∈d::l,e.P w1:=λH e he=>(show ∀x∈(d::l).map fV,x.P _ from H.getD 0) (fV e) (pN.2 ⟨e,he,rfl⟩)
 refine term_builder_add.dQ _ _ _ _ _ _ _ _ _ _ w _ (H.cC λb3 w1 H1=>H1.bC (G4 (own:=own) (H1.get 0) (λe he=>P H1 e (by simp [he])) (P H1 d (by simp)) (H1.getD 1) ho (by omega) hg.val) ?_)
 rintro _ w2 rfl H2
 refine ⟨_,_,_,_,rfl,H2.cC λb6 w3 H3=>gB (λh0=>H3.bH λw4 H4=>⟨?_,own,?_,H4.fr,λx hx=>.inl hx⟩) (λh0=>H3.bH λw4 H4=>?_)⟩
 .unfold iN;rw [aN h0]
 .unfold AE;rw [aN (.inl h0)];exact H4.get 0
 have hsv:=nL.1 (EO hg.val h0)
 have hsr:eF (xs l) d.x=((eF (xs l) d.x).1,0):=by rw [<-h0]
 have hx:iN (xs l) d.x=match qB (gM d.x (eF (xs l) d.x).1) (xs l) 0 with
   |some i=>(xs l,(i:Int),0)
   |none=>if 4096<=(xs l).length then ([],0,4) else (xs l++[gM d.x (eF (xs l) d.x).1],((xs l).length:Int),0):=by
  unfold iN;rw [aI (by omega)]
  try rfl
 have hN:AE l d=if 4096<=l.length\/gM d.x (eF (xs l) d.x).1∈xs l then l else l++[⟨gM d.x (eF (xs l) d.x).1,d.ks⟩]:=by
  unfold AE
  simp only [h0,ne_eq,not_true_eq_false,false_or]
 generalize (eF (xs l) d.x).1=s at *
 let e:Nd:=⟨gM d.x s,d.ks⟩
 have We:JZ e.x:=⟨W.op,W.ks,W.kl,W.n,W.m,W.u,W.tx,⟨by show _<=s.k;omega,by show s.k<=_;omega⟩,⟨by show _<=s.n;omega,by show s.n<=_;omega⟩,⟨by show _<=s.x;omega,by show s.x<=_;omega⟩⟩
 refine H4.bC (Px (d:=e) (own:=own) (H4.get 0) (P H4 d (by simp)) We hu) ?_
 rintro _ w5 rfl H5
 refine ⟨_,_,rfl,?_⟩
 have hex:e.x=gM d.x s:=rfl
 rw [hex]
 unfold wA
 cases hi:qB (gM d.x s) (xs l) 0 with
 |some i=>
  rw [hi] at hx
  refine bF rfl ⟨by rw [hx],own,?_,H5.fr,λx hx=>.inl hx⟩
  rw [hN,aN (.inr (dI (rF hi).2))]
  exact H5.get 0
 |none=>
  rw [hi] at hx
  dsimp only at hx
  have tz:=td hi
  have hr:nM w5 bb l own:=H5.get 0
  obtain ⟨sl,mp,mv,xg,c1,wi,c2,_,_,hPu,_,_⟩:=id hr
  have jc:bD w5 bE 9 sl (l.flatMap Nd.c):=hPu _ (dI (i:=1) rfl)
  have hn:sl.n=l.length:=Nd.cX jc.jG
  refine aX rfl ⟨sl,cellAt (p:=bO bb) (hPu _ (dI (i:=0) rfl)) rfl rfl,bA (λh4=>⟨?_,own,?_,H5.fr,λx hx=>.inl hx⟩) (λh4=>?_)⟩
  .rw [hx,aN (by omega)]
  .rw [hN,aN (.inl (by omega))];exact hr
  rw [aI (by omega)] at hx
  rw [aI (by rintro (h|h);omega;exact tz h)] at hN
  have hv:Vg (xs l++[gM d.x s]):=.snoc hg (xp hsr) tz
  refine H5.buC 0 rfl (Py (d:=e) hr (P H5 d (by simp)) (λb hb=>hdj d (by simp) b hb) We hu (by omega) tz (λyn=>?_)) ?_
  .have:=Lj hv (i:=(xs l).length) (d:=gM d.x s) (by simp) yn
   rwa [List.take_left] at this
  .rintro _ w6 fF rfl H6
   refine ⟨_,rfl,by rw [hx,pQ],fF,?_,H6.fr,λx hx=>(H6.new _ (dI (i:=0) rfl) x (aV.2 hx)).symm⟩
   rw [hN]
   exact H6.get 0
def D5 (s:Sl):Sl:=⟨if s.n=0 then s.a else s.a.map (·.add (0 *9)),s.n - 0,s.n - 0⟩
def Hp {w:aA} {s:Sl} {vs:List Value} (h:lN 9 w s vs):lN 9 w (D5 s) vs/\bQ (D5 s)=bQ s:=by
 have ha:(D5 s).a=s.a:=by
  show (if s.n=0 then s.a else s.a.map (·.add (0 *9)))=s.a
  split
  .rfl
  .cases s.a with
   |none=>rfl
   |some p=>rw [Nat.zero_mul,Option.map_some,xS]
 refine ⟨⟨h.1,Nat.le_refl _,λe=>by have:=h.2.2.1 (by rw [<-ha];exact e);exact ⟨this.1,this.1⟩,λi v hv=>?_⟩,by unfold bQ;rw [ha]⟩
 obtain ⟨p,hp,hc⟩:=h.2.2.2 i v hv
 exact ⟨p,by rw [ha];exact hp,hc⟩
def ZI (s:Sl) (hc:s.n<=s.c) (w:aA):aH aB gH #[s.v] w λr w'=>r=aJ (D5 s).v/\bW w w':=
 slices_Clip_sl_api_Node_api_Node.ok s w _ ⟨by omega,by omega,by omega,by omega,rfl,Fr.refl _ _⟩
def VC {w:aA} {bb:Nat} {l lg r:List Nd} {own:List Nat} {gs:Sl} (h:nM w bb l own) (hg:GP w gs lg) (he:l=lg++r):
  aH aB mX #[.pointer (some (bO bb)),.agg #[gs.v]] w λr w'=>(∃y:Sl,r=aJ (.agg #[y.v])/\lN 9 w' y (l.flatMap Nd.c)/\∀b∈(En.jG 9 y (l.flatMap Nd.c)).fp,b∈own\/b∈(En.gr gs lg).fp)/\bW w w':=by
 obtain ⟨s,mp,mv,xg,c1,wi,c2,ho,_,hP,_,_⟩:=h
 have jc:bD w bE 9 s (l.flatMap Nd.c):=hP _ (dI (i:=1) rfl)
 have hn:s.n=l.length:=Nd.cX jc.jG
 have gn:=tL hg
 have NQ:s.n<=s.c:=jc.jG.2.1
 have H:LH F0 w w [] [.c bb [s.v,.map (some mp),.map (some mv)] ib,.row bE 9 s (l.flatMap Nd.c),.gr gs lg]:=og _ (by
  intro e he
  simp only [dT,gL,or_false] at he
  rcases he with rfl|rfl|rfl
  .exact hP _ (dI (i:=0) rfl)
  .exact jc
  .exact eG.2 hg)
 refine term_builder_graph.dQ _ gs w _ (H.cC λb3 w1 H1=>H1.cC λb4 w2 H2=>H2.bH λw3 H3=>⟨s,cellAt (p:=bO bb) (H3.getD 0) rfl rfl,aY (λhs=>H3.bH λw4 H4=>?_) (λhs=>⟨s,cellAt (p:=bO bb) (H3.getD 0) rfl rfl,H3.bC (ZI s NQ w3) ?_⟩)⟩)
 .have hr:r=[]:=by
   rw [he,nE] at hn
   exact List.length_eq_zero_iff.1 (by omega)
  subst hr
  rw [uL] at he
  subst he
  exact ⟨⟨gs,rfl,(eG.1 (H4.getD 2)).1,λb hb=>.inr (vj.2 (.inl hb))⟩,H4.fr⟩
 .rintro _ w4 rfl H4
  obtain ⟨q1,q2⟩:=Hp (H4.getD 1:bD _ _ _ _ _).jG
  refine ⟨_,rfl,H4.bH λw5 H5=>⟨⟨D5 s,rfl,(Hp (H5.getD 1:bD _ _ _ _ _).jG).1,λb hb=>.inl ?_⟩,H5.fr⟩⟩
  have hb:b∈(if l.flatMap Nd.c=[] then [] else bQ (D5 s)):=hb
  rw [q2] at hb
  split at hb
  .cases hb
  .rw [ho]
   exact List.mem_flatMap.2 ⟨_,dI (i:=1) rfl,hb⟩
def GQ (w:aA) (B:Nat->Prop) (j:List Nx×List Int×Int) (y t:Sl) (w':aA):Prop:=GR w B j.1 y w'/\hU w' t j.2.1/\∀b∈(En.rd t (j.2.1.map l4)).fp,w.heap.size<=b
def GQ.err (w w':aA) (B:Nat->Prop) (e:Int):GQ w B ([],[],e) ⟨none,0,0⟩ ⟨none,0,0⟩ w':=⟨GR.nil _ _ _,Rd.nil _,λb hb=>by cases hb⟩
def abK {d:Nx} {to:List Int} (h:JZ d) (ht:∀t∈to,qS t):JZ (qP d to):=⟨h.op,λk hk=>by
 obtain ⟨a,_,rfl⟩:=pN.1 hk
 rw [List.getD_eq_getElem?_getD]
 cases hg:to[a.toNat]? with
 |none=>exact ⟨by decide,by decide⟩
 |some t=>exact ht t (dI hg),by have:=h.kl;simpa [qP] using this,h.n,h.m,h.u,h.tx,h.sk,h.sn,h.sx⟩
def ZG {w:aA} {gs hs:Sl} {lg lh:List Nd} (hg:GP w gs lg) (hh:GP w hs lh) (hk:rV.P w) (mg:wh (xs lg)) (mh:wh (xs lh)) (l1:lg.length<=500) (l2:lh.length<=500):
  aH aB mW #[.agg #[gs.v],.agg #[hs.v]] w λr w'=>(∃y t:Sl,r=aJ (.tuple #[.agg #[y.v],t.v,.i (pj (xs lg) [] (xs lh)).2.2])/\GQ w (·∈(En.gr gs lg).fp) (pj (xs lg) [] (xs lh)) y t w')/\bW w w':=by
 have gn:=tL hg
 have hn:=tL hh
 have pQ:(xs lh).length=lh.length:=by simp [xs]
 have hxg:(xs lg).length=lg.length:=by simp [xs]
 have H:LH F0 w w [] [.gr gs lg,.gr hs lh,rV]:=og _ (by
  intro e he
  simp only [dT,gL,or_false] at he
  rcases he with rfl|rfl|rfl
  .exact eG.2 hg
  .exact eG.2 hh
  .exact hk)
 have loop:∀(m i b2 b3 b4 bb:Nat) (own:List Nat) (lb:List Nd) (to:List Int) (ts:Sl) (E:List En) (w1:aA),i+m=lh.length->wh (xs lb)->lb.length<=500+i->(∃r,lb=lg++r)->to.length=i->(∀t∈to,0<=t/\t<=10000)->(∀e∈lb,e∈lg\/fV e∈E)->(∀e∈E,∀b∈e.fp,w.heap.size<=b)->
   pj (xs lb) to ((xs lh).drop i)=pj (xs lg) [] (xs lh)->LH F0 w w1 [.g b2,.g b3,.g b4,.bu bb own lb,zA ts (to++List.replicate m 0)] ([.gr gs lg,.gr hs lh,rV]++E)->
   term_Join.fO b2 gs b4 ⟨none,0,0⟩ (some (bO bb)) ts hs ((hs.n:Nat):Int) (i:Int) w1 λr w'=>(∃y t:Sl,r=aJ (.tuple #[.agg #[y.v],t.v,.i (pj (xs lg) [] (xs lh)).2.2])/\GQ w (·∈(En.gr gs lg).fp) (pj (xs lg) [] (xs lh)) y t w')/\bW w w':=by
  intro m
  induction m with
  |zero=>
   intro i b2 b3 b4 bb own lb to ts E w1 hi mb hlb YJ Us htr hE hEf hj H1
   obtain ⟨r,hr⟩:=YJ
   rw [List.drop_of_length_le (by omega)] at hj
   rw [<-hj]
   refine term_Join.bT _ _ _ _ _ _ _ _ _ _ _ (aX (aK (by omega)) (H1.bC (VC (H1.get 3) (eG.1 (H1.getD 0)) hr) ?_))
   rintro _ w2 ⟨y,rfl,hy,hf⟩ H2
   refine ⟨_,rfl,λw3 f=>?_⟩
   have H3:=H2.ghost f (by simp)
   have tz:∀b∈(En.jG 9 y (lb.flatMap Nd.c)).fp,b∉[b2,b4]:=λb hb hm=>by
    have hg:En.g b∈[En.g b2,.g b3,.g b4,.bu bb own lb,zA ts (to++List.replicate 0 0)]:=by
     simp only [dT,gL,or_false] at hm
     rcases hm with rfl|rfl<;>simp
    rcases hf b hb with h|h
    .exact lW H2 (i:=3) rfl (PC w2 bb own lb) hg (aV.2 h)
    .exact H2.dj (.gr gs lg) (by simp) b h (.g b) hg (by simp [En.g])
   have hy3:lN 9 w3 y (lb.flatMap Nd.c):=(En.jG 9 y (lb.flatMap Nd.c)).st w2 w3 (λb hb hl=>f.ic b hl (tz b hb)) hy
   have Dp:bD w3 cT 1 ts ((to++List.replicate 0 0).map l4):=H3.get 4
   have q5:∀b∈bQ ts,w.heap.size<=b:=λb hb=>(H3.new _ (dI (i:=4) rfl) b hb).resolve_right id
   refine ⟨⟨y,ts,rfl,⟨⟨lb,rfl,⟨hy3,λa ha=>?_⟩,λb hb=>?_⟩⟩,?_,IY q5⟩,H3.fr⟩
   .rcases hE a ha with h|h
    .exact (eG.1 (H3.getD 0)).2 a h
    .exact H3.rd (fV a) (by simp [h])
   .rcases vj.1 hb with hb|⟨a,ha,hb⟩
    .rcases hf b hb with h|h
     .exact .inr ((H2.new _ (dI (i:=3) rfl) b (aV.2 h)).resolve_right id)
     .exact .inl h
    .rcases hE a ha with h|h
     .exact .inl (vj.2 (.inr ⟨a,h,hb⟩))
     .exact .inr (hEf _ h b hb)
   .rw [List.replicate_zero,uL] at Dp
    exact sv Dp
  |succ m ih=>
   intro i b2 b3 b4 bb own lb to ts E w1 hi mb hlb YJ Us htr hE hEf hj H1
   have gt:lh[i]? =some (lh[i]'(by omega)):=ie (by omega)
   have DC:(xs lh).drop i=(lh[i]'(by omega)).x::(xs lh).drop (i+1):=by
    rw [List.drop_eq_getElem_cons (by omega:i<(xs lh).length)]
    simp [xs]
   generalize lh[i]'(by omega)=d at gt DC
   have Ac:=dI gt
   have gx:=um gt
   have md:MdN d.x:=mh.nd d.x (dI gx)
   have FE:=mh.vg.kids gx
   have wd:=(mh.gd (by omega) d.x (dI gx)).wd
   rw [DC,tP] at hj
   refine term_Join.bT _ _ _ _ _ _ _ _ _ _ _ (bF (aO (by omega)) (oc (eG.1 (H1.getD 1)) rfl gt λp hp c=>⟨d.x.op,d.ks,d.x.n,d.x.m,d.x.u,d.x.tx,d.x.st.k,d.x.st.n,d.x.st.x,c.c0,c.c1,c.c2,c.c3,c.c4,c.c5,c.c6,c.c7,c.c8,H1.cC λqU w2 H2=>H2.bH λw3 H3=>?_⟩))
   refine H3.rC (VD ((eG.1 (H3.getD 1)).2 d Ac) (sv (H3.get 4)) (λk hk=>by have:=FE k hk;rw [nE,Us];omega) (by have:=md.kl;omega)) ?_
   rintro _ w4 ⟨e,rfl,hex,hep,hef⟩ _ F4
   have hex:e.x=qP d.x to:=hex.trans (YZ λk hk=>by have:=FE k hk;omega)
   have H4:=F4.rd (fV e) hep hef
   have me:MdN e.x:=hex▸Rp md
   have Ur:∀t∈to,qS t:=λt ht=>by have:=htr t ht;exact ⟨by omega,by omega⟩
   have P4:∀a∈e::lb,a.P w4/\∃x∈([En.gr gs lg,.gr hs lh,rV]++E)++[fV e],∀b∈(fV a).fp,b∈x.fp:=λa ha=>by
    rcases dT.1 ha with rfl|ha
    .exact ⟨hep,_,List.mem_append_right _ (by simp),λb hb=>hb⟩
    .rcases hE a ha with h|h
     .exact ⟨(eG.1 (H4.getD 0)).2 a h,.gr gs lg,by simp,λb hb=>vj.2 (.inr ⟨a,h,hb⟩)⟩
     .exact ⟨H4.rd (fV a) (by simp [h]),fV a,by simp [h],λb hb=>hb⟩
   have abb:∀x∈([En.gr gs lg,.gr hs lh,rV]++E)++[fV e],∀b∈x.fp,b∉own:=λx hx b hb hm=>H4.dj x hx b hb _ (dI (i:=3) rfl) (aV.2 hm)
   have hu:∀a∈xs lb,0<=a.u:=λa ha=>(mb.nd a ha).u.1
   refine ⟨e.x.op,e.ks,e.x.n,e.x.m,e.x.u,e.x.tx,e.x.st.k,e.x.st.n,e.x.st.x,rfl,?_⟩
   refine H4.buC 3 rfl (aaj (d:=e) (H4.get 3) (λa ha=>(P4 a ha).1) (H4.getD 2) (λa ha b hb=>by
    obtain ⟨_,x,hx,rU⟩:=P4 a ha
    exact abb x hx b (rU b hb)) (abb rV (by simp)) (me.sp.tok (by omega)) (hex▸abK wd Ur) mb.vg hu (by omega)) ?_
   rintro _ w5 fF rfl H5
   rw [<-hex] at hj
   refine ⟨_,_,rfl,gB (λh0=>H5.bH λw6 H6=>?_) (λh0=>?_)⟩
   .rw [aN h0] at hj
    rw [<-hj]
    exact ⟨⟨⟨none,0,0⟩,⟨none,0,0⟩,rfl,GQ.err _ _ _ _⟩,H6.fr⟩
   rw [aI (λh=>h h0)] at hj
   obtain ⟨_,k,HW,tN,_⟩:=wU h0
   have hlen:=xT (xs lb) e.x
   have NT:=(nY.1 tN).1
   simp only [xs,List.length_map] at hlen NT
   obtain ⟨q,hq⟩:=Mz (H5.get 4) (by simp;omega)
   have Dp:=vV (H5.get 4)
   rw [nE,List.length_replicate,Us] at Dp
   refine ⟨by omega,by omega,?_⟩
   rw [hq]
   refine sw (H5.OB 4 (aF (i:Int) *1) rfl hq (by simp;omega) λw6 H6=>?_)
   rw [bP _ (by omega)]
   have e1:aF (i:Int) *1=i:=by omega
   rw [e1] at H6
   have e2:((to++List.replicate (m+1) 0).map l4).set i (l4 (iN (xs lb) e.x).2.1)=((to++[(iN (xs lb) e.x).2.1])++List.replicate m 0).map l4:=by
    rw [<-List.map_set,List.replicate_succ,List.set_append,aI (by omega),show i - to.length=0 by omega,List.set_cons_zero,tA]
    rfl
   have H6:LH F0 w w6 [.g b2,.g b3,.g b4,.bu bb fF (AE lb e),zA ts ((to++[(iN (xs lb) e.x).2.1])++List.replicate m 0),.g qU] ([.gr gs lg,.gr hs lh,rV]++E++[fV e]):=by
    rw [show zA ts ((to++[(iN (xs lb) e.x).2.1])++List.replicate m 0)=.row cT 1 ts (((to++List.replicate (m+1) 0).map l4).set i (l4 (iN (xs lb) e.x).2.1)) by rw [e2]]
    exact H6
   rw [tA [En.gr gs lg,.gr hs lh,rV] E [fV e]] at H6
   obtain ⟨r,hr⟩:=YJ
   obtain ⟨r2,FI⟩:=Po lb e
   refine ih (i+1) b2 b3 b4 bb fF (AE lb e) (to++[(iN (xs lb) e.x).2.1]) ts (E++[fV e]) w6 (by omega) (by rw [E3 h0];exact Bd mb me h0) ?_ ⟨r++r2,by rw [FI,hr,tA]⟩ (by simp [Us]) (λt ht=>?_) (λa ha=>?_) (λx hx b hb=>?_) (by rw [E3 h0];exact hj) (H6.take 5)
   .have:=congrArg List.length (E3 h0)
    simp only [xs,List.length_map] at this
    omega
   .rcases List.mem_append.1 ht with h|h
    .exact htr t h
    .simp only [dT,gL,or_false] at h
     rw [h,HW]
     omega
   .rcases Pp ha with h|⟨h1,h2⟩
    .exact (hE a h).imp id λh=>List.mem_append_left _ h
    .refine .inr (List.mem_append_right _ ?_)
     show fV a∈[fV e]
     unfold fV
     rw [h1,h2]
     simp
   .rcases List.mem_append.1 hx with h|h
    .exact hEf x h b hb
    .simp only [dT,gL,or_false] at h
     subst h
     exact Nat.le_trans H3.fr.size (hef b hb)
 refine term_Join.dQ gs hs w _ (H.cC λb2 w1 H1=>H1.cC λb3 w2 H2=>H2.cC λb4 w3 H3=>?_)
 refine H3.rC (V9 (eG.1 (H3.getD 0)) mg.vg (λd hd=>(mg.gd (by omega) d hd).wd) (by omega)) ?_
 rintro _ w4 ⟨bb,own,rfl,hr,hf⟩ _ F4
 have H4:=F4.own (.bu bb own lg) hr (λb hb=>hf b (aV.1 hb))
 refine ⟨_,rfl,?_⟩
 rw [hn]
 refine H4.mkg vR lh.length (by omega) λts w5 Dp H5=>?_
 rw [Ez] at H5
 have:=loop lh.length 0 b2 b3 b4 bb own lg [] ts [] w5 (by omega) mg (by omega) ⟨[],by simp⟩ rfl (by simp) (λe he=>.inl he) (by simp) (by rw [List.drop_zero]) (by rw [uL];exact H5)
 rw [hn] at this
 exact this
end Go.Proofs.YtnpkhgljhcnpcaaGreatDoor
