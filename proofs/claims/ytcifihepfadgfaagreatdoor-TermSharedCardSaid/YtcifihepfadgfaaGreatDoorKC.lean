import Derived.Test.YtcifihepfadgfaaGreatDoorE1
import Derived.Lib.LaidTab
import Derived.LaidByTextLater
import Derived.Test.YtcifihepfadgfaaGreatDoorRows
import Derived.Test.YtcifihepfadgfaaGreatDoorVB
import Derived.Test.YtcifihepfadgfaaGreatDoorT1
import Derived.Test.YtcifihepfadgfaaGreatDoorR3
import Derived.Test.YtcifihepfadgfaaGreatDoorTP
import Derived.Test.YtcifihepfadgfaaGreatDoorR1
import Derived.Test.YtcifihepfadgfaaGreatDoorTM
import Derived.Test.YtcifihepfadgfaaGreatDoorBK
set_option linter.unusedVariables false
set_option maxRecDepth 100000
set_option maxHeartbeats 1000000
namespace Go.Proofs.YtcifihepfadgfaaGreatDoor
open List renaming mem_cons->cU,not_mem_nil->qnM,mem_of_getElem?->cZ,getElem?_eq_getElem->gW,mem_map->oT,length_append->qlA,length_cons->qlC,length_nil->qlN,mem_of_mem_take->IA,length_take->qlT,length_map->qlM,all_eq_true->qaT,nil_append->qnA0,cons_append->qcA
open Go Go.W
theorem Wy {W:World} (h:laidMetH Tryz.prog [("enthymeme/term.kidCounts",Rows.laid_enthymeme_term_kidCounts)] W):vV.P W:=by
 rw [MakeChecks.laidMetH_plain _ _ _ (by kernel_rfl)] at h
 have ht:=Go.Lib.tabIs_of_head (k:=.i64) (zs:=Ww) (g:=0) (t:=Ko) (e:=bW) (n:=35) (by kernel_rfl) (by kernel_rfl) (by kernel_rfl) (by kernel_rfl) (by kernel_rfl) (by kernel_rfl) h
 refine M8 rfl (Nat.le_refl _) (λh=>by cases h) (λi v hi=>⟨bF 0,rfl,?_⟩)
 have hl:i<Ww.length:=by
  have:=(List.getElem?_eq_some_iff.1 hi).1
  simpa using this
 have hc:=ht.cell (g:=0) (by kernel_rfl) i hl
 rw [List.getElem?_map,gW hl] at hi
 rw [List.getD,gW hl] at hc
 simp only [Option.map_some,Option.some.injEq] at hi
 rw [<-hi]
 rw [show (bF 0).add i=⟨0,i,none⟩ from Vn 0 i]
 exact hc
def KD:Nx:=⟨0,[],0,0,0,ba [120],⟨0,8,0⟩⟩
def WC:Nx:=⟨4,[0],0,0,0,ba [],oy⟩
def U8:Nx:=⟨4,[0],0,0,0,ba [],⟨0,8,0⟩⟩
def Z6:Nx:=⟨20,[0,1],0,0,0,ba [],oy⟩
def Z7:Nx:=⟨21,[0],8,0,0,ba [],oy⟩
theorem li1:jM [] KD=([KD],0,0):=by kernel_rfl
theorem li2:jM [KD] WC=([KD,U8],1,0):=by kernel_rfl
theorem li3:jM [KD,U8] WC=([KD,U8],1,0):=by kernel_rfl
theorem li4:eI [KD,U8] Z6=(⟨0,16,0⟩,0):=by kernel_rfl
theorem li5:eI [KD,U8] Z7=(oy,5):=by kernel_rfl
theorem CI {d:Nx} (h1:d.kids.length<=2) (h2:0<=d.n/\d.n<=8) (h3:d.m=0) (h4:d.u=0) (h5:d.op≠33):Hp d:=⟨by omega,⟨by omega,by omega⟩,⟨by omega,by omega⟩,by omega,λh=>absurd h h5⟩
theorem tX:Hp KD:=CI (by decide) (by decide) rfl rfl (by decide)
theorem tN:Hp WC:=CI (by decide) (by decide) rfl rfl (by decide)
theorem tC7:Hp Z6:=CI (by decide) (by decide) rfl rfl (by decide)
theorem tE:Hp Z7:=CI (by decide) (by decide) rfl rfl (by decide)
theorem qJ {g:List Nx} (h:∀d∈g,bO d.st=true/\d.kids.length<=1) {l:List Nd} (hl:xs l=g):(∀e∈xs l,bO e.st=true)/\∀e∈l,e.x.kids.length<=1000000000:=by
 subst hl
 exact ⟨λe he=>(h e he).1,λe he=>by have:=(h e.x (oT.2 ⟨e,he,rfl⟩)).2;omega⟩
theorem Hk {g:List Nx} {l:List Nd} (h:xs l=g):l.length=g.length:=by
 rw [<-h];simp [xs]
theorem Oz (w:World) (hk:vV.P w):Calls Tryz.prog jW #[] w λr w'=>r=.returned (.bool true)/\bI w w':=by
 have H:LH F0 w w [] [vV]:=mu _ (by
  intro e he
  simp only [cU,qnM,or_false] at he
  subst he
  exact hk)
 have G0:∀w:World,GP w ⟨none,0,0⟩ []:=λw=>⟨jO.nil 9 w,by simp⟩
 have s1:∀d∈([KD]:List Nx),bO d.st=true/\d.kids.length<=1:=by decide
 have s2:∀d∈([KD,U8]:List Nx),bO d.st=true/\d.kids.length<=1:=by decide
 have q1:=E3 (d:=⟨KD,⟨none,0,0⟩⟩) (G0 w) (Rd.nil w) hk tX (by decide) (by simp [xs]) (by simp)
 refine enthymemelaw07_lives.cV w _ (q1.mono ?_)
 rintro _ w1 ⟨⟨g1,rfl,⟨l1,x1,G1,F1⟩⟩,f1⟩
 rw [show xs []=([]:List Nx) from rfl,li1] at x1 ⊢
 have n1:=Hk x1
 have H1:=H.mE (.gr g1 l1) f1 (cH.2 G1) (λb hb=>.inl ((F1 b hb).resolve_left λh=>by
  rcases tC.1 h with h|⟨d,hd,_⟩
  .cases h
  .cases hd))
 refine ⟨_,_,_,rfl,H1.bJ λb1 w2 H2=>H2.aK λw3 H3=>H3.nw λw4 _ H4=>?_⟩
 have k0:fB w4 ⟨some (bF w3.heap.size),1,1⟩ [0]:=od (T:=bW) (H4.ob 1) rfl
 have q2:=E3 (d:=⟨WC,⟨some (bF w3.heap.size),1,1⟩⟩) (cH.1 (H4.getD 1)) k0 (H4.getD 0) tN (by rw [n1];decide) (qJ s1 x1).1 (qJ s1 x1).2
 refine ng (q2.mono ?_)
 rintro _ w5 ⟨⟨g2,rfl,⟨l2,x2,G2,F2⟩⟩,f5⟩
 rw [x1,li2] at x2 ⊢
 have n2:=Hk x2
 have H5:=H4.mE (.gr g2 l2) f5 (cH.2 G2) (λb hb=>(F2 b hb).elim (λh=>.inr (.inr ⟨_,cZ (i:=1) rfl,h⟩)) .inl)
 refine ⟨f5,_,_,_,rfl,H5.bJ λb4 w6 H6=>H6.aK λw7 H7=>H7.nw λw8 _ H8=>?_⟩
 have k1:fB w8 ⟨some (bF w7.heap.size),1,1⟩ [0]:=od (T:=bW) (H8.ob 3) rfl
 have q3:=E3 (d:=⟨WC,⟨some (bF w7.heap.size),1,1⟩⟩) (cH.1 (H8.getD 2)) k1 (H8.getD 0) tN (by rw [n2];decide) (qJ s2 x2).1 (qJ s2 x2).2
 refine ng (q3.mono ?_)
 rintro _ w9 ⟨⟨g3,rfl,⟨l3,x3,G3,F3⟩⟩,f9⟩
 rw [x2,li3] at x3 ⊢
 have n3:=Hk x3
 have H9:=H8.mE (.gr g3 l3) f9 (cH.2 G3) (λb hb=>(F3 b hb).elim (λh=>.inr (.inr ⟨_,cZ (i:=2) rfl,h⟩)) .inl)
 have hn3:=mX G3
 refine ⟨f9,_,_,_,rfl,H9.bJ λb7 pR m8=>aL rfl (aL rfl (aL rfl (aL rfl (aL rfl (eB (λhM=>absurd (by rw [hn3,n3];rfl) hM) (λ_=>m8.aK λrO qB=>qB.nw λqV _ qW=>?_))))))⟩
 have k2:fB qV ⟨some (bF rO.heap.size),2,2⟩ [0,1]:=od (T:=bW) (qW.ob 5) rfl
 have q4:=zL (d:=⟨Z6,⟨some (bF rO.heap.size),2,2⟩⟩) (cH.1 (qW.getD 3)) k2 (qW.getD 0) tC7 (by rw [n3];decide) (qJ s2 x3).1
 refine qW.aJ q4 ?_
 rintro _ uD rfl ux
 rw [x3,li4]
 refine ⟨_,_,_,_,rfl,ux.bJ λpo C' uy=>uy.aK λKr wX=>wX.nw λKG _ Fi=>?_⟩
 have k3:fB KG ⟨some (bF Kr.heap.size),1,1⟩ [0]:=od (T:=bW) (Fi.ob 7) rfl
 have q5:=zL (d:=⟨Z7,⟨some (bF Kr.heap.size),1,1⟩⟩) (cH.1 (Fi.getD 3)) k3 (Fi.getD 0) tE (by rw [n3];decide) (qJ s2 x3).1
 refine Fi.aJ q5 ?_
 rintro _ Sk rfl QH
 rw [x3,li5]
 exact ⟨_,_,_,_,rfl,QH.bJ λb12 X8 UP=>aQ rfl (aQ rfl (UP.aK λw23 H23=>⟨rfl,H23.fr⟩))⟩
theorem EC (c:UInt8):wH c=N4 c:=by
 unfold wH N4
 rw [Bool.and_assoc,Bool.and_assoc]
 rfl
theorem ES (c:UInt8):mN c=tv c:=rfl
theorem Vo:(List.range 256).all (λn=>Og .u8 (n:Int) 15==((n%16:Nat):Int))=true:=by kernel_rfl
theorem Mn {n:Nat} (h:n<16):(ByteArray.mk #[48,49,50,51,52,53,54,55,56,57,97,98,99,100,101,102])[n]? =some (rQ n):=by
 have:n=0\/n=1\/n=2\/n=3\/n=4\/n=5\/n=6\/n=7\/n=8\/n=9\/n=10\/n=11\/n=12\/n=13\/n=14\/n=15:=by omega
 rcases this with rfl|rfl|rfl|rfl|rfl|rfl|rfl|rfl|rfl|rfl|rfl|rfl|rfl|rfl|rfl|rfl<;>rfl
theorem uj (c:UInt8) (w:World):Calls Tryz.prog jF #[.int .u8 (c.toNat:Int)] w λr w'=>r=.returned (.string (ba (dO c)))/\bI w w':=by
 have hc:=c.toNat_lt
 have H:LH F0 w w [] []:=mu [] (by simp)
 refine regex_byteText.ok _ w _ (H.call (HD c w) ?_)
 rintro _ w1 rfl H1
 refine ⟨_,rfl,aZ (λhp=>?_) (λhp=>?_)⟩
 .rw [EC] at hp
  refine H1.XY (λw2 _ H2 hb=>?_)
  have hB:Bytes w2 ⟨some (bF w1.heap.size),3,3⟩ [39,c,39]:=vY (T:=dE) hb rfl
  refine ⟨ba [39,c,39],qD hB,?_,H2.fr⟩
  unfold dO;rw [if_pos hp]
 .rw [EC] at hp
  have e2:Int.fdiv (c.toNat:Int) (2^(4))=((c.toNat / 16:Nat):Int):=by
   rw [Int.fdiv_eq_ediv_of_nonneg _ (by decide)];omega
  have e3:Og .u8 (c.toNat:Int) 15=((c.toNat%16:Nat):Int):=eq_of_beq (qaT.1 Vo c.toNat (List.mem_range.2 hc))
  refine H1.dr λw3 H3=>?_
  rw [e2,e3]
  refine ⟨by omega,_,Mn (by omega),by omega,_,Mn (by omega),H3.XY (λw4 _ H4 hb=>?_)⟩
  have hB:Bytes w4 ⟨some (bF w3.heap.size),4,4⟩ [92,120,rQ (c.toNat / 16),rQ (c.toNat%16)]:=vY (T:=dE) hb rfl
  refine ⟨ba [92,120,rQ (c.toNat / 16),rQ (c.toNat%16)],qD hB,?_,H4.fr⟩
  unfold dO;rw [if_neg (by rw [hp];simp)]
abbrev KH (n:Nat):Prop:=∀(x:Rt) (w:World),x.sz<=n->okW x.rx=true->x.P w->Calls Tryz.prog rk #[x.v] w λr w'=>r=.returned (.tuple #[.string (ba (gJ x.rx)),.i (cL x.rx:Int)])/\bI w w'
theorem Iw {n:Nat} (hn:n<=1000000) (hb:KH n) (x:Rt) (lv:Nat) (w:World) (h:x.sz<=n) (Rm:lv<=1000) (dN:okW x.rx=true) (px:x.P w):Calls Tryz.prog hU #[x.v,.i (lv:Int)] w λr w'=>r=.returned (.string (ba (cP lv x.rx (gJ x.rx))))/\bI w w':=by
 refine regex_text.cV _ _ _ _ _ w _ ((za px).bJ λb2 w1 H1=>H1.aJ (hb x w1 h dN (H1.getD 0)) ?_)
 rintro _ w2 rfl H2
 have pU:(gJ x.rx).length<=18000000:=by have:=zW x.rx;rw [Rt.g9] at this;omega
 have e:ByteArray.mk #[40]++ba (gJ x.rx)++ByteArray.mk #[41]=ba (40::(gJ x.rx++[41])):=by
  show ba [40]++ba (gJ x.rx)++ba [41]=_
  rw [dW,dW];simp
 refine ⟨_,_,rfl,aM (λl6=>⟨?_,?_,?_,H2.fr⟩) (λl6=>⟨?_,H2.fr⟩)⟩
 .rw [cE];show ¬(((1+_:Nat):Int)>9223372036854775807);omega
 .have:(ByteArray.mk #[40]++ba (gJ x.rx)).size=1+(gJ x.rx).length:=by
   show (ba [40]++_).size=_
   rw [dW,cE];simp;omega
  rw [this];show ¬(((_+1:Nat):Int)>9223372036854775807);omega
 .rw [e];unfold cP;rw [if_pos (by omega)]
 .unfold cP;rw [if_neg (by omega)]
theorem Iu:∀n:Nat,n<=1000000->KH n
 |0,_=>λx w h _ _=>absurd h (by have:=Rt.oP x;omega)
 |n+1,hn=>by
  have ih:=Iu n (by omega)
  intro x w h dN px
  have hs:=Rt.gm x
  have hl:=Rt.eZ x.l
  have nr:=Rt.cC px.parts.1
  have D2:=dN
  rw [Rt.dC] at D2
  obtain ⟨k0,k7,Cc,sF⟩:=tf D2
  have xM:(Rt.bU x.l).length=x.l.length:=by rw [Rt.eW,qlM]
  rw [xM] at Cc
  have JF:∀a∈x.l,okW a.rx=true:=λa ha=>vt sF (by rw [Rt.eW];exact oT.2 ⟨a,ha,rfl⟩)
  have Rq:∀(a:Rt) (lv:Nat),a.sz<=1000000->(cP lv a.rx (gJ a.rx)).length<=18000002:=λa lv ha=>by have h1:=zW a.rx;rw [Rt.g9] at h1;have:=(nV lv a.rx (gJ a.rx)).1;omega
  have yV:∀c,(dO c).length<=4:=λc=>by unfold dO;split<;>simp
  let R:aD:=λr w'=>r=.returned (.tuple #[.string (ba (gJ x.rx)),.i (cL x.rx:Int)])/\bI w w'
  have one:∀(a:Rt) (MK:Nat) (w1:World) (L:List En) (bs:List Nat) (K:ByteArray->World->Prop),MK<=1000->a∈x.l->LH F0 w w1 L [.tree x]->(∀w2,LH F0 w w2 L [.tree x]->K (ba (cP MK a.rx (gJ a.rx))) w2)->pG bs hU #[.agg #[.i a.k,.int .u8 (a.lo.toNat:Int),.int .u8 (a.hi.toNat:Int),a.s.v],.i (MK:Int)] w1 K:=by
   intro a MK w1 L bs K TL ha H1 hK
   have CF:=Rt.dM ha
   refine H1.aJ (Iw (by omega) ih a MK w1 (by omega) TL (JF a ha) ((show x.P w1 from H1.getD 0).parts.2.mem ha)) ?_
   rintro _ w2 rfl H2
   exact ⟨_,rfl,hK w2 H2⟩
  have Gd:gJ x.rx=gJ (.mk x.k x.lo x.hi (Rt.bU x.l)):=by rw [Rt.dC]
  have YM:cL x.rx=if x.k=6 then 3 else if x.k<3\/x.k=7\/x.l.length<2 then 4 else if x.k=3 then 2 else if x.k=4 then 0 else 1:=by
   rw [Rt.dC];unfold cL;dsimp only;rw [xM]
  have b4:(x.k<3\/x.k=7\/x.l.length<2)->x.k≠6->(4:Int)=(cL x.rx:Int):=λh1 h2=>by rw [YM,if_neg h2,if_pos h1];rfl
  refine regex_bare.cV _ _ _ _ w _ ((za px).bJ λb1 w1 H1=>?_)
  have H1:LH F0 w w1 [.g b1] [.tree x]:=H1
  refine aH (λhk=>⟨?_,H1.fr⟩) (λz9=>aH (λhk=>⟨?_,H1.fr⟩) (λD1=>aH (λsE=>?_) (λsE=>aH (λCU=>?_) (λCU=>aH (λKA=>?_) (λKA=>?_)))))
  .rw [<-b4 (.inl (by omega)) (by omega),Gd];unfold gJ;rw [if_pos hk];rfl
  .rw [<-b4 (.inl (by omega)) (by omega),Gd];unfold gJ;rw [if_neg z9,if_pos hk];rfl
  .have e2:gJ x.rx=if x.lo=x.hi then dO x.lo else 91::(dO x.lo++45::(dO x.hi++[93])):=by
    rw [Gd];unfold gJ;rw [if_neg z9,if_neg D1,if_pos sE]
   rw [<-b4 (.inl (by omega)) (by omega)]
   refine aH (λO4=>H1.aJ (uj x.lo w1) ?_) (λO4=>H1.aK λw5 H5=>H5.aJ (uj x.lo w5) ?_)
   .rintro _ w3 rfl H3
    exact ⟨_,rfl,by rw [e2,if_pos (UInt8.toNat_inj.1 (by omega))],H3.fr⟩
   .rintro _ w6 rfl H6
    have h1:=yV x.lo
    have h2:=yV x.hi
    have s0:ByteArray.mk #[91]++ba (dO x.lo)++ByteArray.mk #[45]=ba (91::dO x.lo++[45]):=by
     show ba [91]++ba (dO x.lo)++ba [45]=_
     rw [dW,dW];rfl
    refine ⟨_,rfl,?_,?_,H6.aJ (uj x.hi w6) ?_⟩
    .rw [cE];show ¬(((1+_:Nat):Int)>9223372036854775807);omega
    .have:(ByteArray.mk #[91]++ba (dO x.lo)).size=1+(dO x.lo).length:=by
      show (ba [91]++_).size=_
      rw [dW,cE];simp;omega
     rw [this];show ¬(((_+1:Nat):Int)>9223372036854775807);omega
    rintro _ w7 rfl H7
    rw [s0]
    have:ba (91::dO x.lo++[45]++dO x.hi)++ByteArray.mk #[93]=ba (91::dO x.lo++[45]++dO x.hi++[93]):=by
     show _++ba [93]=_
     rw [dW]
    refine ⟨_,rfl,?_,?_,?_,H7.fr⟩
    .rw [cE,cE];simp only [qlA,qlC,qlN];show ¬(((_:Nat):Int)>9223372036854775807);omega
    .rw [dW,cE];simp only [qlA,qlC,qlN];show ¬(((_+1:Nat):Int)>9223372036854775807);omega
    .rw [dW,this,e2,if_neg (λh=>O4 (by rw [h]))]
     simp
  .have h1:=Cc (.inl CU)
   have e6:gJ x.rx=33::uc (jb 3 (Rt.bU x.l)):=by
    rw [Gd];unfold gJ;rw [if_neg z9,if_neg D1,if_neg sE,if_pos CU]
   have e3:(3:Int)=(cL x.rx:Int):=by rw [YM,if_pos CU];rfl
   match nR:x.l,h1 with
   |[a],_=>
    have ha:a∈x.l:=by rw [nR];simp
    have CF:=Rt.dM ha
    refine jt (show x.P w1 from H1.getD 0) (k:=0) rfl (by rw [nR];rfl) (one a 3 w1 _ _ _ (by omega) ha H1 λw3 H3=>⟨?_,?_,H3.fr⟩)
    .have:=Rq a 3 (by omega)
     rw [cE];show ¬(((1+_:Nat):Int)>9223372036854775807);omega
    .have:ByteArray.mk #[33]++ba (cP 3 a.rx (gJ a.rx))=ba (33::cP 3 a.rx (gJ a.rx)):=by
      show ba [33]++_=_
      rw [dW];rfl
     rw [this,e6,nR,<-e3]
     rfl
  .have h1:=Cc (.inr KA)
   have e7:gJ x.rx=uc (jb 4 (Rt.bU x.l))++[42]:=by
    rw [Gd];unfold gJ;rw [if_neg z9,if_neg D1,if_neg sE,if_neg CU,if_pos KA]
   match nR:x.l,h1 with
   |[a],_=>
    have ha:a∈x.l:=by rw [nR];simp
    have CF:=Rt.dM ha
    refine jt (show x.P w1 from H1.getD 0) (k:=0) rfl (by rw [nR];rfl) (one a 4 w1 _ _ _ (by omega) ha H1 λw3 H3=>⟨?_,?_,H3.fr⟩)
    .have:=Rq a 4 (by omega)
     rw [cE];show ¬(((_+1:Nat):Int)>9223372036854775807);omega
    .have:ba (cP 4 a.rx (gJ a.rx))++ByteArray.mk #[42]=ba (cP 4 a.rx (gJ a.rx)++[42]):=by
      show _++ba [42]=_
      rw [dW]
     rw [this,e7,nR,<-b4 (.inr (.inl KA)) CU]
     rfl
  have hk:x.k=3\/x.k=4\/x.k=5:=by omega
  have S1:∀(word sign:BL) (level:Nat),word.length=3->ze x.k=word++[40]->lE x.k=sign->level<=2->(2<=x.l.length->cL x.rx=level)->regex_bare.fY b1 x.k x.lo.toNat x.hi.toNat x.s (ba word) (ba sign) (level:Int) w1 R:=by
   intro word sign level hw N1 ZP Rm XD
   have ef:x.l.length<2->gJ x.rx=ze x.k++(uc (jb 0 (Rt.bU x.l))++[41]):=λh=>by
    rw [Gd];unfold gJ;rw [if_neg z9,if_neg D1,if_neg sE,if_neg CU,if_neg KA,if_pos (by rw [xM];omega)]
   refine aH (λh0=>?_) (λh0=>aH (λh1=>?_) (λh1=>?_))
   .have hx:x.l=[]:=List.length_eq_zero_iff.1 (by omega)
    refine ⟨?_,?_,H1.fr⟩
    .rw [cE];show ¬(((_+2:Nat):Int)>9223372036854775807);omega
    .have:ba word++ByteArray.mk #[40,41]=ba (word++[40,41]):=by
      show _++ba [40,41]=_
      rw [dW]
     rw [this,<-b4 (.inr (.inr (by omega))) CU,ef (by omega),N1,hx]
     simp [Rt.bU,jb,uc]
   .match nR:x.l with
    |[]=>rw [nR] at nr;simp at nr;omega
    |_::_::_=>rw [nR] at nr;simp at nr;omega
    |[a]=>
     have ha:a∈x.l:=by rw [nR];simp
     have CF:=Rt.dM ha
     have hp:=Rq a 0 (by omega)
     refine ⟨?_,jt (show x.P w1 from H1.getD 0) (k:=0) rfl (by rw [nR];rfl) (one a 0 w1 _ _ _ (by omega) ha H1 λw3 H3=>⟨?_,?_,?_,H3.fr⟩)⟩
     .rw [cE];show ¬(((_+1:Nat):Int)>9223372036854775807);omega
     .have:ba word++ByteArray.mk #[40]=ba (word++[40]):=by
       show _++ba [40]=_
       rw [dW]
      rw [this,cE,cE];simp only [qlA,qlC,qlN];show ¬(((_:Nat):Int)>9223372036854775807);omega
     .have:ba word++ByteArray.mk #[40]++ba (cP 0 a.rx (gJ a.rx))=ba (word++[40]++cP 0 a.rx (gJ a.rx)):=by
       show _++ba [40]++_=_
       rw [dW,dW]
      rw [this,cE];simp only [qlA,qlC,qlN];show ¬(((_+1:Nat):Int)>9223372036854775807);omega
     .have:ba word++ByteArray.mk #[40]++ba (cP 0 a.rx (gJ a.rx))++ByteArray.mk #[41]=ba (word++[40]++cP 0 a.rx (gJ a.rx)++[41]):=by
       show _++ba [40]++_++ba [41]=_
       rw [dW,dW,dW]
      rw [this,<-b4 (.inr (.inr (by rw [nR];simp))) CU,ef (by rw [nR];simp),N1,nR]
      simp [Rt.bU,jb,uc]
   .have h2:2<=x.l.length:=by omega
    have XD:=XD h2
    have ej:gJ x.rx=Pc x.k (jb (level+1) (Rt.bU x.l)):=by
     conv=>lhs;rw [Gd];unfold gJ;rw [if_neg z9,if_neg D1,if_neg sE,if_neg CU,if_neg KA,if_neg (by rw [xM];omega)]
     rw [<-Rt.dC,XD]
    have sgl:sign.length<=1:=by rw [<-ZP];unfold lE;split<;>(try split)<;>simp
    have loop:∀(d i:Nat) (out:BL) (w3:World),i+d=x.l.length->(1<=i->0<out.length)->(i=0->out=[])->out.length+pX (jb (level+1) (Rt.bU (x.l.drop i)))<=40000000->gJ x.rx=(if i=0 then Pc x.k (jb (level+1) (Rt.bU (x.l.drop i))) else lU x.k out (jb (level+1) (Rt.bU (x.l.drop i))))->LH F0 w w3 [.g b1] [.tree x]->
      regex_bare.Vl b1 x.k x.lo.toNat x.hi.toNat x.s (ba sign) (level:Int) (ba out) x.s ((x.s.n:Nat):Int) (i:Int) w3 R:=by
     intro d
     induction d with
     |zero=>
      intro i out w3 hi Gu hz Cd he H3
      refine regex_bare.Db _ _ _ _ _ _ _ _ _ _ _ _ _ (aL (decide_eq_false (by omega)) ⟨?_,H3.fr⟩)
      rw [he,List.drop_of_length_le (by omega),if_neg (by omega),XD]
      rfl
     |succ d pT=>
      intro i out w3 hi Gu hz Cd he H3
      have hg:x.l[i]? =some (x.l[i]'(by omega)):=gW (by omega)
      have CT:x.l.drop i=(x.l[i]'(by omega))::x.l.drop (i+1):=List.drop_eq_getElem_cons (by omega)
      generalize x.l[i]'(by omega)=c at hg CT
      have hc:=cZ hg
      have szc:=Rt.dM hc
      rw [CT] at he Cd
      have Cd:out.length+((cP (level+1) c.rx (gJ c.rx)).length+2+pX (jb (level+1) (Rt.bU (x.l.drop (i+1)))))<=40000000:=by
       have:pX (jb (level+1) (Rt.bU (c::x.l.drop (i+1))))=(cP (level+1) c.rx (gJ c.rx)).length+2+pX (jb (level+1) (Rt.bU (x.l.drop (i+1)))):=by
        simp [Rt.bU,jb,pX]
       omega
      have Zi:0<(cP (level+1) c.rx (gJ c.rx)).length:=by
       have h1:=CP c.rx (JF c hc)
       have:=(nV (level+1) c.rx (gJ c.rx)).2
       omega
      have VL:IntKind.wrap .i64 ((level:Int)+1)=((level+1:Nat):Int):=aY _ (by omega)
      have NY:i=0->gJ x.rx=lU x.k (cP (level+1) c.rx (gJ c.rx)) (jb (level+1) (Rt.bU (x.l.drop (i+1)))):=λh=>by
       rw [if_pos h] at he;rw [he];rfl
      have qU:i≠0->gJ x.rx=lU x.k ((if x.k=3/\tv (qa out)=true/\tv (gQ (cP (level+1) c.rx (gJ c.rx)) 0)=true then out++[32] else out)++lE x.k++cP (level+1) c.rx (gJ c.rx)) (jb (level+1) (Rt.bU (x.l.drop (i+1)))):=λh=>by
       rw [if_neg h] at he;rw [he];rfl
      refine regex_bare.Db _ _ _ _ _ _ _ _ _ _ _ _ _ (aQ (decide_eq_true (by omega)) (jt (show x.P w3 from H3.getD 0) rfl hg (H3.bJ λb9 w4 H4=>H4.aK λw5 H5=>?_)))
      rw [VL]
      refine one c (level+1) w5 _ _ _ (by omega) hc H5 λw6 H6=>?_
      have H6:LH F0 w w6 [.g b1,.g b9] [.tree x]:=H6
      generalize cP (level+1) c.rx (gJ c.rx)=t at NY qU Cd Zi
      have go:∀(o:BL) (w7:World),o.length<=out.length+1->out.length<=o.length->gJ x.rx=lU x.k (o++t) (jb (level+1) (Rt.bU (x.l.drop (i+1))))->LH F0 w w7 [.g b1,.g b9] [.tree x]->regex_bare.gO b1 x.k x.lo.toNat x.hi.toNat x.s (ba sign) (level:Int) (ba o) (ba t) x.s ((x.s.n:Nat):Int) (i:Int) w7 R:=by
       intro o w7 h1 h2 h3 H7
       refine ⟨?_,?_⟩
       .rw [cE,cE];show ¬(((_:Nat):Int)>9223372036854775807);omega
       .rw [dW,aY _ (by omega)]
        refine pT (i+1) (o++t) w7 (by omega) (λ_=>by simp only [qlA];omega) (λh=>by omega) (by simp only [qlA];omega) (by rw [if_neg (by omega)];exact h3) (H7.take 1)
      refine aM (λV6=>⟨?_,?_⟩) (λV6=>go out w6 (by omega) (Nat.le_refl _) (by rw [hz (by omega)];exact NY (by omega)) H6)
      .rw [cE,cE];show ¬(((_:Nat):Int)>9223372036854775807);omega
      have qU:=qU (by omega)
      have Gu:=Gu (by omega)
      rw [ZP] at qU
      have ea:ba out++ba sign=ba (out++sign):=dW _ _
      have qf:∀w7,LH F0 w w7 [.g b1,.g b9] [.tree x]->¬(x.k=3/\tv (qa out)=true/\tv (gQ t 0)=true)->regex_bare.gO b1 x.k x.lo.toNat x.hi.toNat x.s (ba sign) (level:Int) (ba (out++sign)) (ba t) x.s ((x.s.n:Nat):Int) (i:Int) w7 R:=λw7 H7 wx=>go (out++sign) w7 (by simp only [qlA];omega) (by simp only [qlA];omega) (by rw [if_neg wx] at qU;exact qU) H7
      rw [ea]
      refine aH (λGr=>?_) (λGr=>qf w6 H6 (λh=>Gr h.1))
      have s3:sign=[]:=by rw [<-ZP];unfold lE;rw [if_pos Gr]
      have e9:out++sign=out:=by rw [s3,List.append_nil]
      rw [e9] at qf ⊢
      have eo:IntKind.wrap .i64 ((((ba out).size:Nat):Int) - 1)=((out.length - 1:Nat):Int):=by rw [cE,IntWalk.i64_in _ (by omega)];omega
      rw [eo]
      refine ⟨by omega,qa out,?_,H6.aJ (xX (qa out) w6) ?_⟩
      .rw [Int.toNat_natCast,kS (s:=ba out) (by rw [cE];omega),yq,Ii out Gu]
      rintro _ w7 rfl H7
      refine ⟨_,rfl,aZ (λrT=>⟨by omega,gQ t 0,?_,H7.aJ (xX (gQ t 0) w7) ?_⟩) (λrT=>qf w7 H7 (λh=>by rw [ES,h.2.1] at rT;cases rT))⟩
      .rw [show Int.toNat 0=0 from rfl,kS (s:=ba t) (by rw [cE];omega),yq]
      rintro _ w8 rfl H8
      refine ⟨_,rfl,aZ (λl6=>⟨?_,?_⟩) (λl6=>qf w8 H8 (λh=>by rw [ES,h.2.2] at l6;cases l6))⟩
      .rw [cE];show ¬(((_+1:Nat):Int)>9223372036854775807);omega
      .have YL:ba out++ByteArray.mk #[32]=ba (out++[32]):=by
        show _++ba [32]=_
        rw [dW]
       rw [YL]
       refine go (out++[32]) w8 (by simp) (by simp) ?_ H8
       rw [if_pos ⟨Gr,rT,l6⟩,s3,List.append_nil] at qU
       exact qU
    have h3:=rE (level+1) (Rt.bU x.l)
    have h4:Rx.fK (Rt.bU x.l)=Rt.fK x.l:=Rt.zt x.l
    exact loop x.l.length 0 [] w1 (by omega) (λh=>by omega) (λ_=>rfl) (by rw [List.drop_zero];simp;omega) (by rw [if_pos rfl,List.drop_zero];exact ej) H1
  have bd:2<=x.l.length->cL x.rx=if x.k=3 then 2 else if x.k=4 then 0 else 1:=λh2=>by rw [YM,if_neg CU,if_neg (by omega)]
  refine aH (λh4=>S1 [97,108,116] [124] 0 rfl (by rw [h4];rfl) (by rw [h4];rfl) (by omega) (λh2=>by rw [bd h2,h4];rfl)) (λh4=>aH (λh5=>S1 [97,108,108] [38] 1 rfl (by rw [h5];rfl) (by rw [h5];rfl) (by omega) (λh2=>by rw [bd h2,h5];rfl)) (λh5=>S1 [99,97,116] [] 2 rfl (by rw [show x.k=3 by omega];rfl) (by rw [show x.k=3 by omega];rfl) (by omega) (λh2=>by rw [bd h2,show x.k=3 by omega];rfl)))
theorem Uc (x:Rt) (lv:Nat) (w:World) (h:x.sz<=1000000) (Rm:lv<=1000) (dN:okW x.rx=true) (px:x.P w):Calls Tryz.prog hU #[x.v,.i (lv:Int)] w λr w'=>r=.returned (.string (ba (cP lv x.rx (gJ x.rx))))/\bI w w':=Iw (Nat.le_refl _) (Iu 1000000 (Nat.le_refl _)) x lv w h Rm dN px
theorem Um:vW 12:=by
 intro s l w h12 hl ho pl hd
 have nr:=Rt.cC ho.jh
 refine slices_SortFunc_sl_regex_Regex_regex_Regex.ok _ w _ ((Vu _ w).mono ?_)
 rintro _ w1 ⟨⟨t,rfl⟩,f⟩
 refine ⟨t,rfl,slices_pdqsortCmpFunc_regex_Regex.ok _ _ _ _ w1 _ (M2 hl (ho.fr f λ_ _ h=>h) (pl.oR f) hd [] l [] (by simp) h12 _ _ rfl (by simp [nr]) _ _ _ λw' h2 f2=>?_)⟩
 exact ⟨rfl,⟨jR l,rfl,G7 l,Kb l,by simpa using h2⟩,f.of0.trans f2 λx _ h=>h⟩
theorem Vt {a b:Nat} (h:¬a<b):Nat.blt a b=false:=by
 cases hc:Nat.blt a b with
 |false=>rfl
 |true=>rw [Nat.blt_eq] at hc;exact absurd hc h
mutual
theorem DO:∀x:Rx,dT x=true->okW x=true
 |.mk k lo hi l,h=>by
  unfold dT at h
  simp only [Bool.and_eq_true] at h
  have h2:=h.2
  have hl:gw l=true->Aw l=true:=A4 l
  unfold okW
  split at h2
  .rename_i hk
   have:l=[]:=by simpa using h2
   subst this
   have hk:k=0\/k=1:=hk
   unfold Aw
   rcases hk with rfl|rfl<;>decide
  .split at h2
   .rename_i hk
    simp only [Bool.and_eq_true] at h2
    have:l=[]:=by simpa using h2.1
    subst this
    subst hk
    unfold Aw
    decide
   .split at h2
    .rename_i hk
     rw [hl h2]
     rcases hk with rfl|rfl|rfl<;>simp
    .split at h2
     .rename_i hk
      simp only [Bool.and_eq_true,beq_iff_eq] at h2
      rw [hl h2.2]
      rcases hk with rfl|rfl<;>simp [h2.1]
     .cases h2
theorem A4:∀l:List Rx,gw l=true->Aw l=true
 |[],_=>rfl
 |a::l,h=>by
  unfold gw at h
  unfold Aw
  simp only [Bool.and_eq_true] at h
  rw [DO a h.1,A4 l h.2]
  rfl
end
def rH (t:BL):Bool:=bif Nat.blt 4096 t.length then false else match Sg t with
 |.inl _=>false
 |.inr S=>bif Nat.blt 64 (iG S.tp).sz then false else
  if Py (iG S.tp)=0 then (if mP (Ev (iG S.tp))=0 then cP 0 (Ev (iG S.tp)) (gJ (Ev (iG S.tp)))==t else false) else false
theorem Hf (s:ByteArray) (hf:∀S,Sg (bl s)=.inr S->B6 12 (iG S.tp)) (w:World):Calls Tryz.prog mz #[.string s] w λr w'=>r=.returned (.bool (rH (bl s)))/\bI w w':=by
 have hl:(bl s).length=s.size:=iK s
 have H:LH F0 w w [] []:=mu [] (by simp)
 refine term_isNormal.cV s w _ ((Ot s w).mono ?_)
 rintro r w1 ⟨f1,hr⟩
 have H1:=H.oR f1
 have no:∀(a e:Int),e≠0->rH (bl s)=false->r=.returned (.tuple #[.agg #[.int .i64 0,.int .u8 0,.int .u8 0,.slice none 0 0],.int .i64 a,.int .i64 e])->∃(t0 t1 t2:Int) (t3:Sl) (t4 t5:Int),r=.returned (.tuple #[.agg #[.i t0,.int .u8 t1,.int .u8 t2,t3.v],.i t4,.i t5])/\bE [] w1 λb3 w2=>aF (t5 !=0) (loc [b3] w2 λw6=>(Ending.returned (.bool false)=.returned (.bool (rH (bl s)))/\bI w w6)) (loc [b3] w2 λw6=>Ly [b3] nu #[.agg #[.i t0,.int .u8 t1,.int .u8 t2,t3.v]] w6 λQl Qm Qn Qo Xd w7=>bE [b3] w7 λb6 w8=>
   aF (Xd !=0) (loc [b3,b6] w8 λqV=>(Ending.returned (.bool false)=.returned (.bool (rH (bl s)))/\bI w qV)) (loc [b3,b6] w8 λqV=>Th [b3,b6] qt #[.agg #[.i Ql,.int .u8 Qm,.int .u8 Qn,Qo.v]] qV λXe Xf uD=>aF (Xf==0) (Ending.returned (.bool (Xe.toList==s.toList))=.returned (.bool (rH (bl s)))/\bI w uD) (Ending.returned (.bool false)=.returned (.bool (rH (bl s)))/\bI w uD))):=λa e he hn hr=>⟨0,0,0,⟨none,0,0⟩,a,e,hr,H1.bJ λb3 w2 H2=>eB (λ_=>H2.aK λw3 H3=>⟨by rw [hn],H3.fr⟩) (λh=>absurd h he)⟩
 rcases hr with ⟨h1,h2⟩|⟨h1,res,lI,⟨a,rfl,h2⟩|⟨S',rfl,⟨h3,h2⟩|⟨h3,t,h2,ht,pt,ft⟩⟩⟩
 .refine no _ _ (by decide) ?_ h2
  unfold rH
  rw [show Nat.blt 4096 (bl s).length=true from by rw [Nat.blt_eq];omega]
  rfl
 all_goals have A5:Nat.blt 4096 (bl s).length=false:=Vt (by omega)
 all_goals have JN:=UB lI
 .have JN:Sum.inl a=Sg (bl s):=JN
  refine no _ _ (by decide) ?_ h2
  unfold rH
  rw [A5,<-JN]
  rfl
 .have JN:Sum.inr (wh S')=Sg (bl s):=JN
  refine no _ _ (by decide) ?_ h2
  unfold rH
  rw [A5,<-JN]
  dsimp only [cond_false]
  rw [B4,show Nat.blt 64 (iG S'.tp).sz=true from by rw [Nat.blt_eq];exact h3]
  rfl
 .have JN:Sum.inr (wh S')=Sg (bl s):=JN
  have Mo:=hf _ JN.symm
  rw [B4] at Mo
  have We:rH (bl s)=if Py (iG S'.tp)=0 then (if mP (Ev (iG S'.tp))=0 then cP 0 (Ev (iG S'.tp)) (gJ (Ev (iG S'.tp)))==bl s else false) else false:=by
   unfold rH
   rw [A5,<-JN]
   dsimp only [cond_false]
   have:Nat.blt 64 (iG S'.tp).sz=false:=Vt (by omega)
   rw [B4,this]
   rfl
  generalize iG S'.tp=x at ht Mo We h3
  have H1':=H.mE (.tree t) f1 pt (λb hb=>.inl (ft b (aI.1 hb)))
  have RN:t.sz<=64:=by rw [<-Rt.g9,ht];exact h3
  refine ⟨_,_,_,t.s,_,_,h2,H1'.bJ λb3 w2 H2=>eB (λh=>absurd rfl h) (λ_=>H2.aK λw3 H3=>?_)⟩
  refine H3.sh (Ld Um (by omega) t w3 (by omega) (by rw [ht];exact Mo) (H3.getD 0)) ?_
  rintro _ w4 ⟨u,rfl,hu,pu,fu⟩ _ F4
  rw [ht] at hu
  rw [ht]
  have H4:=F4.rd (.tree u) pu λb hb=>fu b (aI.1 hb)
  refine ⟨_,_,_,u.s,_,rfl,H4.bJ λb6 w5 H5=>eB (λhM=>H5.aK λw6 H6=>⟨by rw [We,if_neg hM],H6.fr⟩) (λhe=>H5.aK λw6 H6=>?_)⟩
  rw [if_pos he] at We
  have szu:u.sz<=1000000:=by
   rw [<-Rt.g9,hu]
   have:Py x=0:=he
   unfold Py at this
   unfold Ev
   split at this
   .rename_i hv
    rw [if_pos hv]
    unfold Ej at this
    unfold Ek
    split at this
    .cases this
    .rename_i Ft
     rw [if_neg Ft]
     omega
   .rename_i hv
    exact absurd this hv
  refine ng (regex_Print.cV _ _ _ _ w6 _ ((za (H6.getD 1)).bJ λb1 w7 H7=>H7.aJ (Hw u w7 szu (H7.getD 0)) ?_))
  rintro _ w8 rfl H8
  rw [hu]
  refine ⟨_,rfl,eB (λhM=>⟨H8.fr,_,_,rfl,aH (λh=>absurd h hM) (λ_=>⟨by rw [We,if_neg hM],(H6.oR H8.fr).fr⟩)⟩) (λhv=>H8.aJ (Uc u 0 w8 szu (by omega) ?_ (H8.getD 0)) ?_)⟩
  .exact DO _ (by rw [hu];exact (uw hv).1)
  .rintro _ w9 rfl H9
   refine ⟨_,rfl,H9.fr,_,_,rfl,aQ rfl ⟨?_,(H6.oR H9.fr).fr⟩⟩
   rw [We,if_pos hv,hu]
   congr 2
   have:=AL (cP 0 (Ev x) (gJ (Ev x))) (bl s)
   rw [AK] at this
   exact this
def VQ (t:BL):Bool:=match Sg t with
 |.inr S=>Nat.ble (qp (iG S.tp)) 12
 |.inl _=>true
def Lz (t:BL):Bool:=(match BZ t with
 |some b=>rH t==b
 |none=>false)&&VQ t&&Nat.ble t.length 100
def sj (i:Nat):Bool:=(List.range 108).all (λk=>Lz (qj (108 *i+k)))
theorem OM:sj 0=true:=by kernel_rfl
theorem ON:sj 1=true:=by kernel_rfl
theorem OO:sj 2=true:=by kernel_rfl
theorem OP:sj 3=true:=by kernel_rfl
theorem OQ:sj 4=true:=by kernel_rfl
theorem OR:sj 5=true:=by kernel_rfl
theorem OS:sj 6=true:=by kernel_rfl
theorem OT:sj 7=true:=by kernel_rfl
theorem OU:sj 8=true:=by kernel_rfl
theorem OV:sj 9=true:=by kernel_rfl
theorem Ma:sj 10=true:=by kernel_rfl
theorem Mb:sj 11=true:=by kernel_rfl
theorem Mc:sj 12=true:=by kernel_rfl
theorem Md:sj 13=true:=by kernel_rfl
theorem Me:sj 14=true:=by kernel_rfl
theorem Mf:sj 15=true:=by kernel_rfl
theorem Tx:∀i,i<16->sj i=true:=by
 intro i hi
 match i,hi with
 |0,_=>exact OM
 |1,_=>exact ON
 |2,_=>exact OO
 |3,_=>exact OP
 |4,_=>exact OQ
 |5,_=>exact OR
 |6,_=>exact OS
 |7,_=>exact OT
 |8,_=>exact OU
 |9,_=>exact OV
 |10,_=>exact Ma
 |11,_=>exact Mb
 |12,_=>exact Mc
 |13,_=>exact Md
 |14,_=>exact Me
 |15,_=>exact Mf
 |n+16,h=>exact absurd h (by omega)
theorem Tw (k:Nat) (h:k<1728):Lz (qj k)=true:=by
 have h1:=Tx (k / 108) (by omega)
 have h2:=qaT.1 h1 (k%108) (List.mem_range.2 (Nat.mod_lt _ (by omega)))
 rwa [Nat.div_add_mod] at h2
def VS:List BL:=[[],[97],[65],[115,101,118,101,110,116,101,101,110,45,108,101,116,116,101,114,115],[97,45,49],[45],[40],[122,122],[97,98],[98],[0],[97,97],[99],[100],[109],[110],[115],[116],[105],[122]]
theorem Ts:VS.all Lz=true:=by kernel_rfl
def Xx (t:ByteArray):Prop:=bl t∈VS\/∃k,t=ba (qj k)
theorem T5 {t:ByteArray} (h:Xx t):Lz (bl t)=true:=by
 rcases h with h|⟨k,rfl⟩
 .exact qaT.1 Ts _ h
 .rw [yq,wR]
  exact Tw (k%1728) (Nat.mod_lt _ (by omega))
theorem RH {t:ByteArray} (h:Xx t):KZ t/\FE t/\t.size<=100:=by
 have hc:=T5 h
 unfold Lz at hc
 simp only [Bool.and_eq_true] at hc
 obtain ⟨⟨h1,h2⟩,h3⟩:=hc
 have h3:=Nat.le_of_ble_eq_true h3
 rw [iK] at h3
 cases hq:BZ (bl t) with
 |none=>rw [hq] at h1;cases h1
 |some b=>
  rw [hq] at h1
  have h1:=eq_of_beq h1
  have hx:KZ t:=⟨by omega,b,hq⟩
  refine ⟨hx,λw=>?_,h3⟩
  have Zg:Ah t=b:=by
   have:=hx.can
   rw [hq] at this
   exact (Option.some.inj this).symm
  rw [Zg,<-h1]
  refine Hf t (λS hS=>Ge _ ?_) w
  unfold VQ at h2
  rw [hS] at h2
  exact Nat.le_of_ble_eq_true h2
structure Kw (c:Nat) (d:Nx):Prop where
 kl:d.kids.length<=c
 n:ow d.n
 m:ow d.m
 u:0<=d.u
 tx:d.op=33->Xx d.tx
theorem CR.sp {d:Nx} (h:CR d):Kw 3 d:=⟨h.kl,⟨by have:=h.n;omega,by have:=h.n;omega⟩,⟨by have:=h.m;omega,by have:=h.m;omega⟩,h.u.1,λnZ=>.inr (h.re nZ)⟩
theorem Kw.le {c e:Nat} {d:Nx} (h:Kw c d) (hc:c<=e):Kw e d:=⟨by have:=h.kl;omega,h.n,h.m,h.u,h.tx⟩
theorem Kw.nok {c:Nat} {d:Nx} (h:Kw c d) (hc:c<=100):UQ d:=⟨by have:=h.kl;unfold kC;omega,h.n,h.m,λnZ=>(RH (h.tx nZ)).1⟩
theorem Kw.tok {c:Nat} {d:Nx} (h:Kw c d) (hc:c<=100):Hp d:=⟨by have:=h.kl;omega,h.n,h.m,h.u,λnZ=>(RH (h.tx nZ)).2.1⟩
def spL (BQ:Int):List Int:=[BQ,-1,0,1,63,64,65,1099511627776]
def W4:List ByteArray:=[ByteArray.mk #[],ByteArray.mk #[97],ByteArray.mk #[65],ByteArray.mk #[115,101,118,101,110,116,101,101,110,45,108,101,116,116,101,114,115],ByteArray.mk #[97,45,49],ByteArray.mk #[45],ByteArray.mk #[40],ByteArray.mk #[122,122]]
theorem Uo:∀t∈W4,Xx t:=by
 intro t ht
 refine .inl ?_
 revert t
 decide
theorem Un {b:Int} {x:Int} (h:(spL b)[(dG b 8).toNat]? =some x) (hb:ow b):ow x/\x≠33:=by
 have hr:=cR b 8 (by omega)
 have nZ:b=33->dG b 8=1:=λe=>by rw [e];rfl
 generalize dG b 8=a at h hr nZ
 have:a=0\/a=1\/a=2\/a=3\/a=4\/a=5\/a=6\/a=7:=by omega
 rcases this with rfl|rfl|rfl|rfl|rfl|rfl|rfl|rfl
 all_goals
  have h:=Option.some.inj h
  subst h
 .exact ⟨hb,λe=>absurd (nZ e) (by decide)⟩
 all_goals exact ⟨⟨by decide,by decide⟩,by decide⟩
theorem Hh (n:Int):0<=IntKind.wrap .u64 n:=by
 have:IntKind.wrap .u64 n=n%18446744073709551616:=by simp [IntKind.wrap,IntKind.bits,IntKind.signed]
 omega
theorem UD (n:Int):IntKind.wrap .u64 n<18446744073709551616:=by
 have:IntKind.wrap .u64 n=n%18446744073709551616:=by simp [IntKind.wrap,IntKind.bits,IntKind.signed]
 omega
theorem Mv (n:Int):ow (IntKind.wrap .i64 n):=by
 have:IntKind.wrap .i64 n=(n+9223372036854775808)%18446744073709551616 - 9223372036854775808:=by
  simp [IntKind.wrap,IntKind.bits,IntKind.signed]
  split<;>omega
 rw [this]
 constructor<;>omega
theorem Ue {w:World} {s:Sl} {vs:List Value} (h:Rd w s vs):jO 1 w s vs:=⟨by rw [Nat.mul_one];exact h.1.symm,h.2.1,h.2.2⟩
structure Ys (d:Nx) (Q:Nx->Prop):Prop where
 op:∀k,ow k->k≠33->Q {d with op:=k}
 n:∀k,ow k->Q {d with n:=k}
 m:∀k,ow k->Q {d with m:=k}
 u:∀k,0<=k->k<18446744073709551616->Q {d with u:=k}
 tx:∀t∈W4,Q {d with tx:=t}
 st:∀a b c,(ow a\/a=d.st.k)->(ow b\/b=d.st.n)->(ow c\/c=d.st.x)->Q {d with st:=⟨a,b,c⟩}
 ks:∀l:List Int,l.length<=d.kids.length+1->(∀k∈l,k∈d.kids\/(0<=k/\k<12))->Q {d with kids:=l}
def SI (w:World) (Q:Nx->Prop) (r:Ending) (w':World):Prop:=∃d:Nd,r=.returned d.v/\Q d.x/\d.P w'/\∀b∈(gv d).fp,w.heap.size<=b
theorem UR {w:World} {d:Nd} {Q:Nx->Prop} (hd:d.P w) (hs:Ys d.x Q) (Mr:d.x.kids.length<=100) (ZF BQ:Int) (hh:ow ZF) (hb:ow BQ):
  Calls Tryz.prog mT #[d.v,.i ZF,.i BQ] w λr w'=>SI w Q r w'/\bI w w':=by
 have Wa:=fB.len hd
 have H:LH F0 w w [] [gv d]:=mu _ (by
  intro e he
  simp only [cU,qnM,or_false] at he
  subst he
  exact hd)
 refine enthymemeref07_Spoilt.cV _ _ _ _ _ _ _ _ _ _ _ w _ (H.bJ λb3 w1 H1=>H1.bJ λb6 w2 H2=>H2.iH (n:=0) (sz:=1) (cs:=[]) rfl (by decide) λw3 H3=>?_)
 refine H3.Je 2 uW (s:=⟨some (bF w2.heap.size),0,0⟩) (src:=d.ks) rfl (Ue (H3.getD 0)) (Ee _) (by simp only;omega) (λt12 w4 H4=>?_)
 have H4:LH F0 w w4 [.g b3,.g b6,ug t12 d.x.kids] [gv d]:=H4
 have fin:∀(L2:List En) (w5:World) (x:Nx) (ts:Sl),LH F0 w w5 ([.g b3,.g b6,ug ts x.kids]++L2) [gv d]->Q x->
   enthymemeref07_Spoilt.dV b3 x.op ts x.n x.m x.u x.tx x.st.k x.st.n x.st.x b6 0 ⟨none,0,0⟩ 0 0 0 (ByteArray.mk #[]) 0 0 0 w5 λr w'=>SI w Q r w'/\bI w w':=λL2 w5 x ts H5 hx=>
  H5.aK λw6 H6=>⟨⟨⟨x,ts⟩,rfl,hx,rp (H6.get 2),Bm λb hb=>(H6.new _ (cZ (i:=2) rfl) b hb).resolve_right id⟩,H6.fr⟩
 refine H4.aK λw5 H5=>H5.nw λw6 _ H6=>H6.aJ (fE BQ 8 w6 (by omega) hb) ?_
 have hr:=cR BQ 8 (by omega)
 obtain ⟨k,hk⟩:∃k,(spL BQ)[(dG BQ 8).toNat]? =some k:=⟨_,gW (by show _<8;omega)⟩
 have Gs:=Un hk hb
 rintro _ w7 rfl H7
 have k0:fB w7 ⟨some (bF w5.heap.size),8,8⟩ (spL BQ):=od (T:=bW) (H7.ob 3) rfl
 refine ⟨_,rfl,hr.1,hr.2,k0.cell hk (by omega) λp hp hc=>⟨k,hc,H7.aJ (fE ZF 10 w7 (by omega) hh) ?_⟩⟩
 rintro _ w8 rfl H8
 refine ⟨_,rfl,?_⟩
 refine aH (λ_=>H8.aK λw9 H9=>fin _ w9 {d.x with op:=k} t12 H9 (hs.op k Gs.1 Gs.2)) (λ_=>?_)
 refine aH (λ_=>H8.aK λw9 H9=>fin _ w9 {d.x with n:=k} t12 H9 (hs.n k Gs.1)) (λ_=>?_)
 refine aH (λ_=>H8.aK λw9 H9=>fin _ w9 {d.x with m:=k} t12 H9 (hs.m k Gs.1)) (λ_=>?_)
 refine aH (λ_=>H8.aK λw9 H9=>fin _ w9 {d.x with u:=IntKind.wrap .u64 k} t12 H9 (hs.u _ (Hh k) (UD k))) (λ_=>?_)
 refine aH (λ_=>?_) (λ_=>?_)
 .refine H8.nw λuD _ ux=>ux.aJ (fE BQ 8 uD (by omega) hb) ?_
  rintro _ C' rfl uy
  obtain ⟨t,ht⟩:∃t,W4[(dG BQ 8).toNat]? =some t:=⟨_,gW (by show _<8;omega)⟩
  refine ⟨_,rfl,hr.1,hr.2,yc ⟨t,?_,uy.aK λAz BD=>fin _ Az {d.x with tx:=t} t12 BD (hs.tx t (cZ ht))⟩⟩
  rw [Nat.mul_one]
  refine uy.ld 4 _ rfl ?_
  show (W4.map Value.string)[_]? =_
  rw [List.getElem?_map,ht]
  rfl
 refine aH (λ_=>H8.aK λw9 H9=>fin _ w9 {d.x with st:=⟨k,d.x.st.n,d.x.st.x⟩} t12 H9 (hs.st _ _ _ (.inl Gs.1) (.inr rfl) (.inr rfl))) (λ_=>?_)
 refine aH (λ_=>H8.aK λw9 H9=>fin _ w9 {d.x with st:=⟨d.x.st.k,k,d.x.st.x⟩} t12 H9 (hs.st _ _ _ (.inr rfl) (.inl Gs.1) (.inr rfl))) (λ_=>?_)
 refine aH (λ_=>H8.aK λw9 H9=>fin _ w9 {d.x with st:=⟨d.x.st.k,d.x.st.n,k⟩} t12 H9 (hs.st _ _ _ (.inr rfl) (.inr rfl) (.inl Gs.1))) (λ_=>?_)
 refine aH (λ_=>H8.aK λw9 H9=>H9.aJ (fE BQ 9 w9 (by omega) hb) ?_) (λ_=>?_)
 .rintro _ pR rfl m8
  have vj:t12.n=d.x.kids.length:=rn (show aP pR bW 1 t12 (d.x.kids.map jm) from m8.get 2)
  refine ⟨_,rfl,m8.tR 2 uW rfl (λs2 rO qB=>qB.aK λqV qW=>?_) (by omega)⟩
  have qW:LH F0 w qV ([.g b3,.g b6,ug s2 (d.x.kids++[dG BQ 9])]++[.c w5.heap.size [.i BQ,.i (-1),.i 0,.i 1,.i 63,.i 64,.i 65,.i 1099511627776] bW]) [gv d]:=by
   rw [show ug s2 (d.x.kids++[dG BQ 9])=.row bW 1 s2 (d.x.kids.map jm++[jm (dG BQ 9)]) by rw [ug,List.map_append];rfl];exact qW
  refine fin _ qV {d.x with kids:=d.x.kids++[dG BQ 9]} s2 qW (hs.ks _ (by simp) λk hk=>?_)
  rcases List.mem_append.1 hk with hk|hk
  .exact .inl hk
  .simp only [cU,qnM,or_false] at hk
   have:=cR BQ 9 (by omega)
   exact .inr (by omega)
 have loop:∀(m i:Nat) (ks:List Int) (L2:List En) (w9:World),i+m=ks.length->ks.length=d.x.kids.length->(∀k∈ks,k∈d.x.kids\/(0<=k/\k<12))->LH F0 w w9 ([.g b3,.g b6,ug t12 ks]++L2) [gv d]->
   enthymemeref07_Spoilt.l4 BQ b3 d.x.op t12 d.x.n d.x.m d.x.u d.x.tx d.x.st.k d.x.st.n d.x.st.x b6 0 ⟨none,0,0⟩ 0 0 0 (ByteArray.mk #[]) 0 0 0 (i:Int) w9 λr w'=>SI w Q r w'/\bI w w':=by
  intro m
  induction m with
  |zero=>
   intro i ks L2 w9 hi hl sF H9
   have vj:t12.n=ks.length:=rn (show aP w9 bW 1 t12 (ks.map jm) from H9.get 2)
   exact enthymemeref07_Spoilt.dJ _ _ _ _ _ _ _ _ _ _ _ _ _ _ _ _ _ _ _ _ _ _ _ _ (aL (decide_eq_false (by omega)) (fin L2 w9 {d.x with kids:=ks} t12 H9 (hs.ks ks (by omega) sF)))
  |succ m ih=>
   intro i ks L2 w9 hi hl sF H9
   have vj:t12.n=ks.length:=rn (show aP w9 bW 1 t12 (ks.map jm) from H9.get 2)
   refine enthymemeref07_Spoilt.dJ _ _ _ _ _ _ _ _ _ _ _ _ _ _ _ _ _ _ _ _ _ _ _ _ (aQ (decide_eq_true (by omega)) ?_)
   rw [aY _ (by omega)]
   refine ⟨by omega,H9.aK λpR m8=>m8.aJ (fE _ 12 pR (by omega) (Mv _)) ?_⟩
   rintro _ rO rfl qB
   refine ⟨_,rfl,by omega,by omega,?_⟩
   obtain ⟨k1,D1⟩:∃k1,ks[i]? =some k1:=⟨_,gW (by omega)⟩
   refine (rp (show aP rO bW 1 t12 (ks.map jm) from qB.get 2)).cell D1 (j:=Int.toNat (i:Int) *1) (by omega) λp hp _=>?_
   refine qB.N7 (bs:=[b3,b6]) 2 (Int.toNat (i:Int) *1) rfl hp (by simp;omega) (λqV qW=>?_)
   generalize hz0:dG _ 12=z at qW ⊢
   have hz:0<=z/\z<12:=by rw [<-hz0];exact cR _ 12 (by omega)
   have e1:Int.toNat (i:Int) *1=i:=by omega
   refine ih (i+1) (ks.set i z) L2 qV (by rw [List.length_set];omega) (by rw [List.length_set];exact hl) (λk hk=>?_) ?_
   .rcases List.mem_or_eq_of_mem_set hk with h|rfl
    .exact sF k h
    .exact .inr hz
   rw [e1] at qW
   rw [show ug t12 (ks.set i z)=.row bW 1 t12 ((ks.map jm).set i (jm z)) by rw [ug,List.map_set]]
   exact qW
 exact loop d.x.kids.length 0 d.x.kids _ w8 (by omega) rfl (λk h=>.inl h) H8
theorem Kw.q {c:Nat} {d:Nx} (hs:Kw c d):Ys d (Kw (c+1)):=by
 have Mr:=hs.kl
 exact ⟨λk _ h=>⟨by simp only;omega,hs.n,hs.m,hs.u,λe=>absurd e h⟩,λk h=>⟨by simp only;omega,h,hs.m,hs.u,hs.tx⟩,λk h=>⟨by simp only;omega,hs.n,h,hs.u,hs.tx⟩,λk h _=>⟨by simp only;omega,hs.n,hs.m,h,hs.tx⟩,λt ht=>⟨by simp only;omega,hs.n,hs.m,hs.u,λ_=>Uo t ht⟩,λ_ _ _ _ _ _=>⟨by simp only;omega,hs.n,hs.m,hs.u,hs.tx⟩,λl h _=>⟨by simp only;omega,hs.n,hs.m,hs.u,hs.tx⟩⟩
theorem p9 {w:World} {s t:Sl} {l m:List Nd} (h:GP w s l) (g:GP w t m) (he:xs l=xs m) (hl:l.length<=kC) (hk:∀e∈l,e.x.kids.length<=kC):
  Calls Tryz.prog dP #[s.v,t.v] w λr w'=>r=.returned (.bool true)/\bI w w':=by
 have hn:=mX h
 have hm:=mX g
 have hlm:l.length=m.length:=by have:=congrArg List.length he;simpa [xs] using this
 unfold kC at hl
 have H:LH F0 w w [] [.gr s l,.gr t m]:=mu _ (by
  intro e he
  simp only [cU,qnM,or_false] at he
  rcases he with rfl|rfl
  .exact cH.2 h
  .exact cH.2 g)
 have loop:∀(k i:Nat) (w1:World),i+k=l.length->LH F0 w w1 [] [.gr s l,.gr t m]->enthymemeref07_SameGraph.L0 s t (i:Int) w1 λr w'=>r=.returned (.bool true)/\bI w w':=by
  intro k
  induction k with
  |zero=>
   intro i w1 hi H1
   exact enthymemeref07_SameGraph.cF _ _ _ _ _ (aL (decide_eq_false (by omega)) ⟨rfl,H1.fr⟩)
  |succ k ih=>
   intro i w1 hi H1
   have ga:l[i]? =some (l[i]'(by omega)):=gW (by omega)
   have gb:m[i]? =some (m[i]'(by omega)):=gW (by omega)
   generalize l[i]'(by omega)=a at ga
   generalize m[i]'(by omega)=b at gb
   have Gl:a.x=b.x:=by
    have h1:=s5 ga
    have h2:=s5 gb
    rw [he,h2] at h1
    exact (Option.some.inj h1).symm
   refine enthymemeref07_SameGraph.cF _ _ _ _ _ (aQ (decide_eq_true (by omega)) (H1.dr λw2 H2=>kO (cH.1 (H2.getD 0)) rfl ga λp hp c=>?_))
   refine ⟨a.x.op,a.ks,a.x.n,a.x.m,a.x.u,a.x.tx,a.x.st.k,a.x.st.n,a.x.st.x,c.c0,c.c1,c.c2,c.c3,c.c4,c.c5,c.c6,c.c7,c.c8,kO (cH.1 (H2.getD 1)) rfl gb λq hq e=>?_⟩
   refine ⟨b.x.op,b.ks,b.x.n,b.x.m,b.x.u,b.x.tx,b.x.st.k,b.x.st.n,b.x.st.x,e.c0,e.c1,e.c2,e.c3,e.c4,e.c5,e.c6,e.c7,e.c8,?_⟩
   refine H2.call (Le ((cH.1 (H2.getD 0)).2 a (cZ ga)) ((cH.1 (H2.getD 1)).2 b (cZ gb)) (hk a (cZ ga))) ?_
   rintro _ w3 rfl H3
   refine ⟨_,rfl,aL (by rw [decide_eq_true Gl];rfl) ?_⟩
   rw [aY _ (by omega)]
   exact ih (i+1) w3 (by omega) H3
 refine enthymemeref07_SameGraph.ok s t w _ (eB (λhM=>absurd (by omega) hM) (λ_=>loop l.length 0 w (by omega) H))
structure SB (c:Nat) (d:Nx):Prop where
 sp:Kw c d
 wd:NW d
 tl:d.tx.size<=1000
theorem SB.le {c e:Nat} {d:Nx} (h:SB c d) (hc:c<=e):SB e d:=⟨h.sp.le hc,h.wd,h.tl⟩
theorem xH.gd {g:List Nx} (h:xH g) (hl:g.length<=1000):∀d∈g,SB 3 d:=by
 intro d hd
 have hn:=h.nd d hd
 obtain ⟨i,hi⟩:=List.mem_iff_getElem?.1 hd
 have Rk:=(List.getElem?_eq_some_iff.1 hi).1
 have hk:=h.vg.kids hi
 have hv:=wS.1 (h.vg.val d hd)
 have ht:d.tx.size<=100:=by
  by_cases nZ:d.op=33
  .obtain ⟨k,hk⟩:=hn.re nZ
   rw [hk,cE]
   have:=E7 k
   omega
  .have:=hn.tx nZ
   omega
 have h1:=hn.op1
 have h2:=hn.op2
 have h3:=hn.kl
 have h4:=hn.n
 have h5:=hn.m
 have h6:=hn.u
 exact ⟨hn.sp,⟨⟨by omega,by omega⟩,λk JE=>by have:=hk k JE;exact ⟨by omega,by omega⟩,by omega,⟨by omega,by omega⟩,⟨by omega,by omega⟩,⟨by omega,by omega⟩,by omega,⟨by omega,by omega⟩,⟨by omega,by omega⟩,⟨by omega,by omega⟩⟩,by omega⟩
theorem SB.q {c:Nat} {d:Nx} (h:SB c d) (hc:c<=50):Ys d (SB (c+1)):=by
 have q:=h.sp.q
 have W:=h.wd
 have hs:∀t∈W4,t.size<=1000:=by decide
 exact ⟨λk h1 h2=>⟨q.op k h1 h2,⟨h1,W.ks,W.kl,W.n,W.m,W.u,W.tx,W.sk,W.sn,W.sx⟩,h.tl⟩,
  λk h1=>⟨q.n k h1,⟨W.op,W.ks,W.kl,h1,W.m,W.u,W.tx,W.sk,W.sn,W.sx⟩,h.tl⟩,
  λk h1=>⟨q.m k h1,⟨W.op,W.ks,W.kl,W.n,h1,W.u,W.tx,W.sk,W.sn,W.sx⟩,h.tl⟩,
  λk h1 h2=>⟨q.u k h1 h2,⟨W.op,W.ks,W.kl,W.n,W.m,⟨h1,h2⟩,W.tx,W.sk,W.sn,W.sx⟩,h.tl⟩,
  λt ht=>⟨q.tx t ht,⟨W.op,W.ks,W.kl,W.n,W.m,W.u,by have:=hs t ht;show t.size<=_;omega,W.sk,W.sn,W.sx⟩,hs t ht⟩,
  λa b e h1 h2 h3=>⟨q.st a b e h1 h2 h3,⟨W.op,W.ks,W.kl,W.n,W.m,W.u,W.tx,h1.elim id (λe=>e▸W.sk),h2.elim id (λe=>e▸W.sn),h3.elim id (λe=>e▸W.sx)⟩,h.tl⟩,
  λl h1 h2=>⟨q.ks l h1 h2,⟨W.op,λk hk=>(h2 k hk).elim (W.ks k) (λh=>⟨by omega,by omega⟩),by have:=h.sp.kl;show l.length<=_;omega,W.n,W.m,W.u,W.tx,W.sk,W.sn,W.sx⟩,h.tl⟩⟩
theorem W8 (s:Sl) (n:Nat):Value.slice (if s.c=0 then s.a else s.a.map (·.add (0 *9))) (n - 0) (s.c - 0)=(zF 9 s 0 n).v:=rfl
theorem I6:∀{r g:List Nx},Vg (g++r)->CM g r=0
 |[],_,_=>rfl
 |n::r,g,h=>by
  have hg:(g++n::r)[g.length]? =some n:=by simp
  have h1:=h.ok _ _ hg
  have h2:=CL h _ _ hg
  rw [List.take_left] at h1 h2
  rw [BA,h1,if_neg (λh=>h rfl),if_neg (λh=>h rfl),if_neg h2]
  exact I6 (by rw [List.append_assoc];exact h)
theorem I7 {g:List Nx} (h:Vg g) (hl:g.length<=4096):Hj g=0:=by
 unfold Hj
 rw [if_neg (by omega)]
 exact I6 (by rwa [qnA0])
theorem K4 {g:List Nx} {n:Nx} (h:eI g n=(n.st,0)) (hn:n∉g) (hl:g.length<4096):jM g n=(g++[n],(g.length:Int),0):=by
 unfold jM
 rw [h,if_neg (λh=>h rfl)]
 have hw:ie n n.st=n:=rfl
 rw [hw]
 cases hi:mg n g 0 with
 |some i=>exact absurd (cZ (sG hi).2) hn
 |none=>dsimp only;rw [if_neg (by omega)]
theorem Mw {n:Nx}:∀{g:List Nx} {i:Nat},n∉g->mg n (g++[n]) i=some (i+g.length)
 |[],i,_=>by simp [mg]
 |d::g,i,h=>by
  simp only [cU,not_or] at h
  rw [qcA,mg,if_neg (λe=>h.1 e.symm),Mw h.2,qlC]
  congr 1
  omega
theorem Jc {g:List Nx} {n:Nx} (h:eI (g++[n]) n=(n.st,0)) (hn:n∉g):jM (g++[n]) n=(g++[n],(g.length:Int),0):=by
 unfold jM
 rw [h,if_neg (λh=>h rfl)]
 have hw:ie n n.st=n:=rfl
 rw [hw,Mw hn,Nat.zero_add]
theorem Fc (t:ByteArray) (r:List Nx):∀g:List Nx,nW (g++r) t=(nW g t).orElse λ_=>nW r t
 |[]=>by simp [nW]
 |d::g=>by
  rw [qcA,nW,nW,Fc t r g]
  split<;>simp
theorem Qf {g r:List Nx} {n:Nx} (h:(eI g n).2=0) (hv:n.op=0->∀e∈r,e.op=0->e.tx=n.tx->e.st=n.st):eI (g++r) n=eI g n:=by
 have ho:=CC h
 have hk:∀j,kn (g++r) n j=kn g n j:=λj=>by
  unfold kn
  cases hj:n.kids[j]? with
  |none=>rfl
  |some k=>
   have:=ho.ki k (cZ hj)
   dsimp only
   rw [List.getElem?_append_left (by omega)]
 have ha:n.kids.all (ic (g++r))=n.kids.all (ic g):=by
  have h1:n.kids.all (ic g)=true:=qaT.2 λk hk=>by
   have:=ho.ki k hk
   unfold ic
   simp [this]
  rw [h1]
  exact qaT.2 λk hk=>by
   have:=ho.ki k hk
   unfold ic
   simp
   omega
 have hl:cX (g++r) n=cX g n:=by
  by_cases h0:n.op=0
  .have hf:rN g n=false:=by
    cases ht:rN g n with
    |false=>rfl
    |true=>
     exfalso
     unfold eI cX at h
     rw [if_pos (show n.op<=3 by omega),if_neg (show ¬n.op=2 by omega)] at h
     rw [if_pos (show n.op=0/\rN g n=true from ⟨h0,ht⟩)] at h
     repeat' split at h
     all_goals cases h
   have XG:rN (g++r) n=false:=by
    unfold rN at hf ⊢
    rw [Fc]
    cases hg:nW g n.tx with
    |some s=>rw [hg] at hf;exact hf
    |none=>
     cases hr:nW r n.tx with
     |none=>rfl
     |some s=>
      obtain ⟨e,he,e0,et,es⟩:=vO hr
      have:=hv h0 e he e0 et
      dsimp only [Option.orElse]
      rw [<-es,this]
      simp
   unfold cX
   rw [hf,XG]
  .unfold cX
   simp only [h0,false_and]
 unfold eI
 rw [ha,hl,hk,hk,hk]
theorem Nq {g:List Nx} (h:Vg g) {i:Nat} {d:Nx} (hd:g[i]? =some d):eI (g.take i++[d]) d=(d.st,0):=by
 have h1:=h.ok i d hd
 rw [Qf (by rw [h1]) λ_ e he _ _=>by
  simp only [cU,qnM,or_false] at he
  rw [he],h1]
theorem Qu {g:List Nx} (h:Vg g):∀j,Vg (g.take j):=by
 induction h with
 |nil=>intro j;rw [List.take_nil];exact .nil
 |@snoc g n hg hs hn ih=>
  intro j
  rcases Nat.lt_or_ge g.length j with hj|hj
  .rw [List.take_of_length_le (by simp;omega)]
   exact .snoc hg hs hn
  .rw [List.take_append_of_le_length hj]
   exact ih j
theorem Pt {g:List Nx} (h:xH g) (j:Nat):xH (g.take j):=⟨Qu h.vg j,λd hd=>h.nd d (IA hd)⟩
section
variable {W w:World} {L D:List En} {bs:List Nat}
theorem uI (bs:List Nat) (jf:∀b∈bs,En.g b∈L) (H:LH F0 W w L D) {x t:Sl} {l m:List Nd} (hx:En.gr x l∈D) (ht:En.gr t m∈D) (hk:vV∈D) {X:Int} {i:Nat} (hX:X=(i:Int)) {d:Nd} (hd:m[i]? =some d) (ho:Hp d.x) (hl:l.length<=1000) (hv:xH (xs l)) {K:Nat->Sl->Int->Int->World->Prop}
  (next:∀b y l1 w',xs l1=(jM (xs l) d.x).1->LH F0 W w' (L++[.g b]) (D++[.gr y l1])->K b y (jM (xs l) d.x).2.1 (jM (xs l) d.x).2.2 w'):
  (0:Int)<=X/\X<((t.n:Nat):Int)/\aX t.a λp=>loc bs w λw1=>qL w1 (p.add (Int.toNat X *9)) λa0 a1 a2 a3 a4 a5 a6 a7 a8=>((xJ bs fN #[.agg #[x.v],.agg #[.i a0,a1.v,.i a2,.i a3,.u a4,.string a5,.i a6,.i a7,.i a8]] w1 λy n e w2=>bE bs w2 λb w3=>loc (bs++[b]) w3 λw4=>K b y n e w4)/\
   (bE bs w1 λb w5=>Mk w5 (p.add (Int.toNat X *9)) (.i a0) a1.v (.i a2) (.i a3) (.u a4) (.string a5) (.i a6) (.i a7) (.i a8) λ_=>xJ (bs++[b]) fN #[.agg #[x.v],.agg #[.i a0,a1.v,.i a2,.i a3,.u a4,.string a5,.i a6,.i a7,.i a8]] w5 λy n e w6=>loc (bs++[b]) w6 λw7=>K b y n e w7)):=by
 have G:∀{w:World} {L:List En},LH F0 W w L D->GP w t m:=λH=>cH.1 (H.rd _ ht)
 have HZ:=cZ hd
 have Cb:∀e∈l,e.x.kids.length<=1000000000:=λe he=>by
  have:=(hv.nd e.x (oT.2 ⟨e,he,rfl⟩)).kl
  omega
 have yU:∀(b:Nat),∀c∈bs++[b],En.g c∈L++[.g b]:=λb c hc=>by
  rcases List.mem_append.1 hc with h|h
  .exact List.mem_append_left _ (jf c h)
  .simp only [cU,qnM,or_false] at h
   subst h
   simp
 refine kO (G H) hX hd λp hp c=>H.aK (jf:=jf) λw1 H1=>?_
 have c:=sD (G H1) hd hp hX
 refine ⟨d.x.op,d.ks,d.x.n,d.x.m,d.x.u,d.x.tx,d.x.st.k,d.x.st.n,d.x.st.x,c.c0,c.c1,c.c2,c.c3,c.c4,c.c5,c.c6,c.c7,c.c8,?_,?_⟩
 .refine ng ((E3 (cH.1 (H1.rd _ hx)) ((G H1).2 d HZ) (H1.rd _ hk) ho (by omega) hv.vg.val Cb).mono ?_)
  rintro _ w2 ⟨⟨y,rfl,⟨l1,x1,G1,F1⟩⟩,f2⟩
  have H2:=H1.mE (.gr y l1) f2 (cH.2 G1) (λb hb=>(F1 b hb).elim (λh=>.inr (.inr ⟨_,hx,h⟩)) .inl)
  exact ⟨f2,_,_,_,rfl,H2.bJ (jf:=jf) λb w3 H3=>H3.aK (jf:=yU b) λw4 H4=>next b y l1 w4 x1 H4⟩
 .refine H1.bJ (jf:=jf) λb w2 H2=>?_
  have c:=sD (G H2) hd hp hX
  refine ⟨c.c0,c.c1,c.c2,c.c3,c.c4,c.c5,c.c6,c.c7,c.c8,?_⟩
  refine ng ((E3 (cH.1 (H2.rd _ hx)) ((G H2).2 d HZ) (H2.rd _ hk) ho (by omega) hv.vg.val Cb).mono ?_)
  rintro _ w3 ⟨⟨y,rfl,⟨l1,x1,G1,F1⟩⟩,f3⟩
  have H3:=H2.mE (.gr y l1) f3 (cH.2 G1) (λb hb=>(F1 b hb).elim (λh=>.inr (.inr ⟨_,hx,h⟩)) .inl)
  exact ⟨f3,_,_,_,rfl,H3.aK (jf:=yU b) λw4 H4=>next b y l1 w4 x1 H4⟩
end
structure Dd (g l:List Nx) (n:Nat):Prop where
 md:xH l
 ex:∃r,l=g++r
 len:l.length<=n
theorem Dd.add {g l:List Nx} {n:Nat} {d:Nx} (h:Dd g l n) (hd:CR d) (h0:(jM l d).2.2=0):Dd g (jM l d).1 (n+1):=by
 obtain ⟨r,hr⟩:=h.ex
 refine ⟨K3 h.md hd h0,?_,by have:=BH l d;have:=h.len;omega⟩
 obtain ⟨_,k,_,_,h3⟩:=BI h0
 rcases h3 with h3|⟨_,h5,_⟩
 .exact ⟨r,by rw [h3,hr]⟩
 .exact ⟨r++[ie d (eI l d).1],by rw [h5,hr,List.append_assoc]⟩
theorem Dd.le {g l:List Nx} {n m:Nat} (h:Dd g l n) (hn:n<=m):Dd g l m:=⟨h.md,h.ex,Nat.le_trans h.len hn⟩
section
variable {W:World} {s t:Sl} {l m:List Nd} {x9:Nat} {x:Sl} {lx:List Nd}
abbrev IL (s t x:Sl) (l m lx:List Nd):List En:=[vV,.gr s l,.gr t m,.gr x lx]
theorem Ui (A8:xH (xs l)) (xM:l.length<=100) (U6:xs lx=xs l) {Fl Fo Fp:Nat} {one two:Sl} {l1 l2:List Nd} (h1:Dd (xs l) (xs l1) 200) (h2:Dd (xs l) (xs l2) 200) (last:Sl) (Rl:last.n<=1000) {w:World}
  (H:LH F0 W w [.g x9,.g Fl,.g Fo,.g Fp] (IL s t x l m lx++[.gr one l1,.gr two l2])) (i:Nat) (hi:t.n<=i):
  enthymemelaw07_TermShared.wY s t x9 x Fl last Fo one Fp two (i:Int) w λr w'=>r=.returned (.bool true)/\bI W w':=by
 have sn:=mX (cH.1 (H.getD 1))
 have on:=mX (cH.1 (H.getD 4))
 have tn:=mX (cH.1 (H.getD 5))
 have oc:=(cH.1 (H.getD 4)).1.2.1
 have tc:=(cH.1 (H.getD 5)).1.2.1
 have Mr:∀{k:List Nd},xH (xs k)->∀e∈k,e.x.kids.length<=kC:=λh e he=>h.kl e he
 have pre:∀{k:List Nd},Dd (xs l) (xs k) 200->l.length<=k.length/\k.length<=200/\xs (k.take l.length)=xs l:=λ{k} h=>by
  obtain ⟨r,hr⟩:=h.ex
  have hlen:=congrArg List.length hr
  have h3:=h.len
  simp only [xs,qlM,qlA] at hlen h3
  refine ⟨by omega,by omega,?_⟩
  have:xs (k.take l.length)=(xs k).take l.length:=by simp [xs,List.map_take]
  rw [this,hr,show l.length=(xs l).length by simp [xs],List.take_left]
 obtain ⟨o1,o2,o3⟩:=pre h1
 obtain ⟨t1,t2,t3⟩:=pre h2
 have hT:∀{k:List Nd},Dd (xs l) (xs k) 200->k.length<=4096->∀d∈k,Hp d.x/\NW d.x:=λ{k} h _ d hd=>by
  have h3:=h.len
  have:=h.md.gd (by omega) d.x (oT.2 ⟨d,hd,rfl⟩)
  exact ⟨this.sp.tok (by omega),this.wd⟩
 have hV:∀{k:List Nd},Dd (xs l) (xs k) 200->Hj (xs k)=0:=λ{k} h=>I7 h.md.vg (by have:=h.len;omega)
 have hkx:∀e∈lx,e.x.kids.length<=kC:=Mr (by rw [U6];exact A8)
 have nR:lx.length=l.length:=by have:=congrArg List.length U6;simpa [xs] using this
 refine enthymemelaw07_TermShared.ko _ _ _ _ _ _ _ _ _ _ _ _ _ (aL (decide_eq_false (by omega)) (aQ (decide_eq_true (by omega)) (H.aJ (p9 (cH.1 (H.getD 3)) (cH.1 (H.getD 1)) U6 (by unfold kC;omega) hkx) ?_)))
 rintro _ w1 rfl H1
 have e1:(if ((s.n:Nat):Int)<((one.n:Nat):Int) then ((s.n:Nat):Int) else ((one.n:Nat):Int))=((l.length:Nat):Int):=by split<;>omega
 have e2:(if ((s.n:Nat):Int)<((two.n:Nat):Int) then ((s.n:Nat):Int) else ((two.n:Nat):Int))=((l.length:Nat):Int):=by split<;>omega
 refine ⟨_,rfl,aQ rfl ?_⟩
 rw [e1,e2,Int.toNat_natCast,W8,W8]
 refine ⟨by omega,by omega,H1.aJ (p9 (Mg (cH.1 (H1.getD 4)) l.length o1) (cH.1 (H1.getD 1)) o3 (by unfold kC;rw [qlT];omega) (λe he=>Mr h1.md e (IA he))) ?_⟩
 rintro _ w2 rfl H2
 refine ⟨_,rfl,aQ rfl ⟨by omega,by omega,H2.aJ (p9 (Mg (cH.1 (H2.getD 5)) l.length t1) (cH.1 (H2.getD 1)) t3 (by unfold kC;rw [qlT];omega) (λe he=>Mr h2.md e (IA he))) ?_⟩⟩
 rintro _ w3 rfl H3
 refine ⟨_,rfl,aQ rfl (H3.aJ (CG (cH.1 (H3.getD 4)) (H3.getD 0) (hT h1)) ?_)⟩
 rintro _ w4 rfl H4
 refine ⟨_,rfl,aH (λ_=>H4.aJ (CG (cH.1 (H4.getD 5)) (H4.getD 0) (hT h2)) ?_) (λh=>absurd (hV h1) h)⟩
 rintro _ w5 rfl H5
 refine ⟨_,rfl,aH (λ_=>H5.aJ (Oz w5 (H5.getD 0)) ?_) (λh=>absurd (hV h2) h)⟩
 rintro _ w6 rfl H6
 exact ⟨_,rfl,rfl,H6.fr⟩
theorem Uk (A8:xH (xs l)) (U3:xH (xs m)) (xM:l.length<=100) (Zx:m.length<=100) (U6:xs lx=xs l):∀(k i:Nat) (Fl Fo Fp:Nat) (one two last:Sl) (l1 l2:List Nd) (w:World),i+k=m.length->Dd (xs l) (xs l1) (100+i)->Dd (xs l) (xs l2) (100+i)->last.n<=1000->
  LH F0 W w [.g x9,.g Fl,.g Fo,.g Fp] (IL s t x l m lx++[.gr one l1,.gr two l2])->enthymemelaw07_TermShared.wY s t x9 x Fl last Fo one Fp two (i:Int) w λr w'=>r=.returned (.bool true)/\bI W w':=by
 intro k
 induction k with
 |zero=>
  intro i Fl Fo Fp one two last l1 l2 w hi h1 h2 hl H
  exact Ui A8 xM U6 (h1.le (by omega)) (h2.le (by omega)) last hl H i (by have:=mX (cH.1 (H.getD 2));omega)
 |succ k ih=>
  intro i Fl Fo Fp one two last l1 l2 w hi h1 h2 hl H
  have tn:=mX (cH.1 (H.getD 2))
  have ga:m[i]? =some (m[i]'(by omega)):=gW (by omega)
  have gb:m[m.length - 1 - i]? =some (m[m.length - 1 - i]'(by omega)):=gW (by omega)
  generalize m[i]'(by omega)=a at ga
  generalize m[m.length - 1 - i]'(by omega)=b at gb
  have ma:CR a.x:=U3.nd a.x (oT.2 ⟨a,cZ ga,rfl⟩)
  have mb:CR b.x:=U3.nd b.x (oT.2 ⟨b,cZ gb,rfl⟩)
  have eb:IntKind.wrap .i64 (IntKind.wrap .i64 (((t.n:Nat):Int) - 1) - (i:Int))=((m.length - 1 - i:Nat):Int):=by
   rw [IntWalk.i64_in (((t.n:Nat):Int) - 1) (by omega),IntWalk.i64_in _ (by omega)]
   omega
  have ll1:l1.length<=1000:=by have:=h1.len;simp only [xs,qlM] at this;omega
  have ll2:l2.length<=1000:=by have:=h2.len;simp only [xs,qlM] at this;omega
  refine enthymemelaw07_TermShared.ko _ _ _ _ _ _ _ _ _ _ _ _ _ (aQ (decide_eq_true (by omega)) ?_)
  refine uI [x9,Fl,Fo,Fp] (by simp) H (x:=one) (l:=l1) (t:=t) (m:=m) (by simp) (by simp) (by simp) rfl ga (ma.sp.tok (by omega)) ll1 h1.md λVq y la w1 xa H1=>?_
  have H1:LH F0 W w1 [.g x9,.g Fl,.g Fo,.g Fp,.g Vq] (IL s t x l m lx++[.gr one l1,.gr two l2,.gr y la]):=H1
  refine uI [x9,Fl,Fo,Fp,Vq] (by simp) H1 (x:=two) (l:=l2) (t:=t) (m:=m) (by simp) (by simp) (by simp) eb gb (mb.sp.tok (by omega)) ll2 h2.md λb24 z lb w2 xb H2=>?_
  have H2:LH F0 W w2 [.g x9,.g Fl,.g Fo,.g Fp,.g Vq,.g b24] (IL s t x l m lx++[.gr one l1,.gr two l2,.gr y la,.gr z lb]):=H2
  have yn:y.n<=1000:=by
   have h3:=mX (cH.1 (H2.getD 6))
   have h4:=BH (xs l1) a.x
   have h5:=h1.len
   rw [<-xa] at h4
   simp only [xs,qlM] at h4 h5
   omega
  have next:∀(MV NJ:Sl) (Wz WA:List Nd) (w3:World),Dd (xs l) (xs Wz) (100+(i+1))->Dd (xs l) (xs WA) (100+(i+1))->En.gr MV Wz∈[En.gr one l1,.gr y la]->En.gr NJ WA∈[En.gr two l2,.gr z lb]->
    LH F0 W w3 [.g x9,.g Fl,.g Fo,.g Fp,.g Vq,.g b24] (IL s t x l m lx++[.gr one l1,.gr two l2,.gr y la,.gr z lb])->enthymemelaw07_TermShared.QS s t x9 x Fl last Fo MV Fp NJ (i:Int) Vq y w3 λr w'=>r=.returned (.bool true)/\bI W w':=by
   intro MV NJ Wz WA w3 o1 o2 m1 m2 H3
   refine H3.aK λw4 H4=>?_
   rw [aY _ (by omega)]
   refine ih (i+1) Fl Fo Fp MV NJ y Wz WA w4 (by omega) o1 o2 yn ((H4.forget (IL s t x l m lx++[En.gr MV Wz,En.gr NJ WA]) λe he=>?_).take 4)
   simp only [IL,qcA,qnA0,cU,qnM,or_false] at he m1 m2 ⊢
   rcases he with rfl|rfl|rfl|rfl|rfl|rfl
   .simp
   .simp
   .simp
   .simp
   .rcases m1 with h|h<;>simp [h]
   .rcases m2 with h|h<;>simp [h]
  have n1:=h1.le (show 100+i<=100+(i+1) by omega)
  have n2:=h2.le (show 100+i<=100+(i+1) by omega)
  refine aH (λha=>H2.aK λw3 H3=>?_) (λha=>?_)
  .have n1':Dd (xs l) (xs la) (100+(i+1)):=by rw [xa];exact h1.add ma ha
   refine aH (λhb=>H3.aK λw4 H4=>?_) (λhb=>?_)
   .exact next y z la lb w4 n1' (by rw [xb];exact h2.add mb hb) (by simp) (by simp) H4
   .exact next y two la l2 w3 n1' n2 (by simp) (by simp) H3
  .refine aH (λhb=>H2.aK λw4 H4=>?_) (λhb=>?_)
   .exact next one z l1 lb w4 n1 (by rw [xb];exact h2.add mb hb) (by simp) (by simp) H4
   .exact next one two l1 l2 w2 n1 n2 (by simp) (by simp) H2
theorem Uj (A8:xH (xs l)) (U3:xH (xs m)) (xM:l.length<=100) (Zx:m.length<=100):∀(k i:Nat) (x:Sl) (lx:List Nd) (w:World),i+k=l.length->xs lx=(xs l).take i->LH F0 W w [.g x9] (IL s t x l m lx)->
  enthymemelaw07_TermShared.eH s t x9 x (i:Int) w λr w'=>r=.returned (.bool true)/\bI W w':=by
 have nR:(xs l).length=l.length:=by simp [xs]
 intro k
 induction k with
 |zero=>
  intro i x lx w hi hx H
  have sn:=mX (cH.1 (H.getD 1))
  rw [List.take_of_length_le (by omega)] at hx
  have hlx:lx.length=l.length:=by have:=congrArg List.length hx;simpa [xs] using this
  have hT:lx.length<=4096->∀d∈lx,Hp d.x/\NW d.x:=λ_ d hd=>by
   have:=A8.gd (by omega) d.x (by rw [<-hx];exact oT.2 ⟨d,hd,rfl⟩)
   exact ⟨this.sp.tok (by omega),this.wd⟩
  refine enthymemelaw07_TermShared.bA _ _ _ _ _ _ _ (aL (decide_eq_false (by omega)) (H.aJ (p9 (cH.1 (H.getD 3)) (cH.1 (H.getD 1)) hx (by unfold kC;omega) (xH.kl (by rw [hx];exact A8))) ?_))
  rintro _ w1 rfl H1
  refine ⟨_,rfl,aL rfl (H1.aJ (CG (cH.1 (H1.getD 3)) (H1.getD 0) hT) ?_)⟩
  rintro _ w2 rfl H2
  refine ⟨_,rfl,eB (λh=>absurd (by rw [hx];exact I7 A8.vg (by omega)) h) (λ_=>H2.bJ λFl w3 H3=>H3.bJ λFo w4 H4=>H4.bJ λFp w5 H5=>H5.aK λw6 H6=>?_)⟩
  have o:Dd (xs l) (xs lx) (100+0):=⟨by rw [hx];exact A8,⟨[],by rw [hx,List.append_nil]⟩,by rw [hx];omega⟩
  have H7:=(H6.mE (.gr x lx) (Fr.refl _ _) (H6.getD 3) λb hb=>.inr (.inr ⟨_,cZ (i:=3) rfl,hb⟩)).mE (.gr x lx) (Fr.refl _ _) (H6.getD 3) λb hb=>.inr (.inr ⟨_,cZ (i:=3) rfl,hb⟩)
  exact Uk A8 U3 xM Zx hx m.length 0 Fl Fo Fp x x ⟨none,0,0⟩ lx lx w6 (by omega) o o (by simp) H7
 |succ k ih=>
  intro i x lx w hi hx H
  have sn:=mX (cH.1 (H.getD 1))
  have hlx:lx.length=i:=by have:=congrArg List.length hx;simp only [xs,qlM,qlT] at this;omega
  have ga:l[i]? =some (l[i]'(by omega)):=gW (by omega)
  generalize l[i]'(by omega)=d at ga
  have gx:=s5 ga
  have md:CR d.x:=A8.nd d.x (cZ gx)
  have ex:(xs l).take (i+1)=(xs l).take i++[d.x]:=by rw [List.take_add_one,gx];rfl
  have qn:=CL A8.vg i d.x gx
  have dN:=A8.vg.ok i d.x gx
  have mdt:∀j,xH ((xs l).take j):=λj=>Pt A8 j
  have a1:jM (xs lx) d.x=((xs l).take (i+1),(i:Int),0):=by
   rw [hx,K4 dN qn (by rw [qlT];omega),ex,qlT,Nat.min_eq_left (by omega)]
  have ZD:eI ((xs l).take i++[d.x]) d.x=(d.x.st,0):=Nq A8.vg gx
  refine enthymemelaw07_TermShared.bA _ _ _ _ _ _ _ (aQ (decide_eq_true (by omega)) ?_)
  refine uI [x9] (by simp) H (x:=x) (l:=lx) (t:=s) (m:=l) (by simp) (by simp) (by simp) rfl ga (md.sp.tok (by omega)) (by omega) (by rw [hx];exact mdt i) λKx y ly w1 xy H1=>?_
  rw [a1] at xy
  simp only at xy
  rw [a1]
  have H1:LH F0 W w1 [.g x9,.g Kx] (IL s t x l m lx++[.gr y ly]):=H1
  have a2:jM (xs ly) d.x=((xs l).take (i+1),(i:Int),0):=by
   rw [xy,ex,Jc ZD qn,qlT,Nat.min_eq_left (by omega)]
  have hly:ly.length<=1000:=by have:=congrArg List.length xy;simp only [xs,qlM,qlT] at this;omega
  refine uI [x9,Kx] (by simp) H1 (x:=y) (l:=ly) (t:=s) (m:=l) (by simp) (by simp) (by simp) rfl ga (md.sp.tok (by omega)) hly (by rw [xy];exact mdt (i+1)) λb14 z lz w2 xz H2=>?_
  rw [a2] at xz
  simp only at xz
  rw [a2]
  have H2:LH F0 W w2 [.g x9,.g Kx,.g b14] (IL s t x l m lx++[.gr y ly,.gr z lz]):=H2
  have zy:z.n=y.n:=by
   have h1:=mX (cH.1 (H2.getD 4))
   have h2:=mX (cH.1 (H2.getD 5))
   have:=congrArg List.length (xz.trans xy.symm)
   simp only [xs,qlM] at this
   omega
  refine eB (λh=>absurd rfl h) (λ_=>eB (λh=>absurd rfl h) (λ_=>eB (λh=>absurd rfl h) (λ_=>eB (λh=>absurd rfl h) (λ_=>eB (λh=>absurd (by omega) h) (λ_=>H2.aK λw3 H3=>?_)))))
  rw [aY _ (by omega)]
  refine ih (i+1) y ly w3 (by omega) xy ((H3.forget (IL s t y l m ly) λe he=>?_).take 1)
  simp only [IL,qcA,qnA0,cU,qnM,or_false] at he ⊢
  rcases he with rfl|rfl|rfl|rfl<;>simp
end
theorem termShared_walk (W:World) (hL:laidMetH Tryz.prog [("enthymeme/term.kidCounts",Rows.laid_enthymeme_term_kidCounts)] W) (ls ms:Sl) (kind:Int) (w0:ArgNums W ls) (w1:ArgNums W ms) (w2:ow kind):
  Calls Tryz.prog kP #[ls.v,ms.v,.i kind] W λr w'=>r=.returned (.bool true)/\bI W w':=by
 obtain ⟨ns,O6,hnl,hnr⟩:=w0
 obtain ⟨qs,hqs,hql,hqr⟩:=w1
 have hk:=Wy hL
 have H:LH F0 W W [] [.rd ls (ns.map jm),.rd ms (qs.map jm),vV]:=mu _ (by
  intro e he
  simp only [cU,qnM,or_false] at he
  rcases he with rfl|rfl|rfl
  .exact O6
  .exact hqs
  .exact hk)
 refine enthymemelaw07_TermShared.cV ls ms kind W _ (H.call (fE kind 3 W (by omega) w2) ?_)
 rintro _ v1 rfl H1
 refine ⟨_,rfl,H1.Dv (Lc (H1.getD 0) hnr hnl (dG kind 3) 10 (by omega)) ?_⟩
 rintro _ v2 ⟨s,l,rfl,A8,Wb,TJ,G,F⟩ _ F2
 have H2:=F2.rd (.gr s l) (cH.2 G) F
 refine ⟨s,rfl,H2.call (fE kind 3 v2 (by omega) w2) ?_⟩
 rintro _ v3 rfl H3
 refine ⟨_,rfl,H3.Dv (Lc (H3.getD 1) hqr hql (dG kind 3) 10 (by omega)) ?_⟩
 rintro _ v4 ⟨t,m,rfl,U3,Rn,U2,G2,Fm⟩ _ F4
 have H4:=F4.rd (.gr t m) (cH.2 G2) Fm
 refine ⟨t,rfl,H4.bJ λx9 v5 H5=>?_⟩
 have H6:=H5.mE (.gr ⟨none,0,0⟩ []) (Fr.refl _ _) (cH.2 ⟨jO.nil 9 _,by simp⟩) (λb hb=>by
  rcases tC.1 hb with h|⟨d,hd,_⟩
  .cases h
  .cases hd)
 refine Uj A8 U3 (by omega) (by omega) l.length 0 ⟨none,0,0⟩ [] v5 (by omega) rfl (H6.forget (IL s t ⟨none,0,0⟩ l m []) λe he=>?_)
 simp only [IL,qcA,qnA0,cU,qnM,or_false] at he ⊢
 rcases he with rfl|rfl|rfl|rfl<;>simp
end Go.Proofs.YtcifihepfadgfaaGreatDoor
