import Derived.Test.YtcifihepfadgfaaGreatDoorE1
import Derived.Lib.LaidTab
import Derived.LaidByTextLater
import Derived.Test.YtcifihepfadgfaaGreatDoorRows
import Derived.Test.YtcifihepfadgfaaGreatDoorVB
import Derived.Test.YtcifihepfadgfaaGreatDoorT1
import Derived.Test.YtcifihepfadgfaaGreatDoorR3
import Derived.Test.YtcifihepfadgfaaGreatDoorTP
import Derived.Test.YtcifihepfadgfaaGreatDoorR1
import Derived.Test.YtcifihepfadgfaaGreatDoorTM
import Derived.Test.YtcifihepfadgfaaGreatDoorBK
set_option linter.unusedVariables false
set_option maxRecDepth 100000
set_option maxHeartbeats 1000000
namespace Go.Proofs.YtcifihepfadgfaaGreatDoor
open List renaming mem_cons->cU,not_mem_nil->qnM,mem_of_getElem?->dC,getElem?_eq_getElem->g7,getElem?_eq_some_iff->nP,mem_map->o8,length_append->qlA,length_cons->qlC,length_nil->qlN,length_take->qlT,flatMap_append->qfA,getElem?_map->qgM,all_eq_true->qaT
open Go Go.W
theorem Wq {W:World} (h:laidMetH Tryz.prog [("enthymeme/term.kidCounts",Rows.laid_enthymeme_term_kidCounts)] W):qc.P W:=by
 rw [MakeChecks.laidMetH_plain _ _ _ (by kernel_rfl)] at h
 have ht:=Go.Lib.tabIs_of_head (k:=.i64) (zs:=Wo) (g:=0) (t:=Kj) (e:=bW) (n:=35) (by kernel_rfl) (by kernel_rfl) (by kernel_rfl) (by kernel_rfl) (by kernel_rfl) (by kernel_rfl) h
 refine MY rfl (Nat.le_refl _) (λh=>by cases h) (λi v hi=>⟨bD 0,rfl,?_⟩)
 have hl:i<Wo.length:=by
  have:=(nP.1 hi).1
  simpa using this
 have hc:=ht.cell (g:=0) (by kernel_rfl) i hl
 rw [qgM,g7 hl] at hi
 rw [List.getD,g7 hl] at hc
 simp only [Option.map_some,Option.some.injEq] at hi
 rw [<-hi]
 rw [show (bD 0).add i=⟨0,i,none⟩ from Va 0 i]
 exact hc
def Kz:Nx:=⟨0,[],0,0,0,ba [120],⟨0,8,0⟩⟩
def Ws:Nx:=⟨4,[0],0,0,0,ba [],ow⟩
def UT:Nx:=⟨4,[0],0,0,0,ba [],⟨0,8,0⟩⟩
def Z1:Nx:=⟨20,[0,1],0,0,0,ba [],ow⟩
def Z2:Nx:=⟨21,[0],8,0,0,ba [],ow⟩
theorem li1:nf [] Kz=([Kz],0,0):=by kernel_rfl
theorem li2:nf [Kz] Ws=([Kz,UT],1,0):=by kernel_rfl
theorem li3:nf [Kz,UT] Ws=([Kz,UT],1,0):=by kernel_rfl
theorem li4:eU [Kz,UT] Z1=(⟨0,16,0⟩,0):=by kernel_rfl
theorem li5:eU [Kz,UT] Z2=(ow,5):=by kernel_rfl
theorem CH {d:Nx} (h1:d.kids.length<=2) (h2:0<=d.n/\d.n<=8) (h3:d.m=0) (h4:d.u=0) (h5:d.op≠33):Hj d:=⟨by omega,⟨by omega,by omega⟩,⟨by omega,by omega⟩,by omega,λh=>absurd h h5⟩
theorem tX:Hj Kz:=CH (by decide) (by decide) rfl rfl (by decide)
theorem tN:Hj Ws:=CH (by decide) (by decide) rfl rfl (by decide)
theorem tC7:Hj Z1:=CH (by decide) (by decide) rfl rfl (by decide)
theorem tE:Hj Z2:=CH (by decide) (by decide) rfl rfl (by decide)
theorem qL {g:List Nx} (h:∀d∈g,bN d.st=true/\d.kids.length<=1) {l:List Nd} (hl:xs l=g):(∀e∈xs l,bN e.st=true)/\∀e∈l,e.x.kids.length<=1000000000:=by
 subst hl
 exact ⟨λe he=>(h e he).1,λe he=>by have:=(h e.x (o8.2 ⟨e,he,rfl⟩)).2;omega⟩
theorem Hc {g:List Nx} {l:List Nd} (h:xs l=g):l.length=g.length:=by
 rw [<-h];simp [xs]
theorem On (w:World) (hk:qc.P w):Calls Tryz.prog jU #[] w λr w'=>r=.returned (.bool true)/\bF w w':=by
 have H:LH F0 w w [] [qc]:=mf _ (by
  intro e he
  simp only [cU,qnM,or_false] at he
  subst he
  exact hk)
 have G0:∀w:World,GP w ⟨none,0,0⟩ []:=λw=>⟨jJ.nil 9 w,by simp⟩
 have s1:∀d∈([Kz]:List Nx),bN d.st=true/\d.kids.length<=1:=by decide
 have s2:∀d∈([Kz,UT]:List Nx),bN d.st=true/\d.kids.length<=1:=by decide
 have q1:=No (d:=⟨Kz,⟨none,0,0⟩⟩) (G0 w) (Rd.nil w) hk tX (by decide) (by simp [xs]) (by simp)
 refine enthymemelaw07_lives.cT w _ (q1.mono ?_)
 rintro _ w1 ⟨⟨g1,rfl,⟨l1,x1,G1,F1⟩⟩,f1⟩
 rw [show xs []=([]:List Nx) from rfl,li1] at x1 ⊢
 have n1:=Hc x1
 have H1:=H.oe (.gr g1 l1) f1 (cQ.2 G1) (λb hb=>.inl ((F1 b hb).resolve_left λh=>by
  rcases sF.1 h with h|⟨d,hd,_⟩
  .cases h
  .cases hd))
 refine ⟨_,_,_,rfl,H1.bI λb1 w2 H2=>H2.aN λw3 H3=>H3.nw λw4 _ H4=>?_⟩
 have k0:fB w4 ⟨some (bD w3.heap.size),1,1⟩ [0]:=oh (T:=bW) (H4.ob 1) rfl
 have q2:=No (d:=⟨Ws,⟨some (bD w3.heap.size),1,1⟩⟩) (cQ.1 (H4.getD 1)) k0 (H4.getD 0) tN (by rw [n1];decide) (qL s1 x1).1 (qL s1 x1).2
 refine nS (q2.mono ?_)
 rintro _ w5 ⟨⟨g2,rfl,⟨l2,x2,G2,F2⟩⟩,f5⟩
 rw [x1,li2] at x2 ⊢
 have n2:=Hc x2
 have H5:=H4.oe (.gr g2 l2) f5 (cQ.2 G2) (λb hb=>(F2 b hb).elim (λh=>.inr (.inr ⟨_,dC (i:=1) rfl,h⟩)) .inl)
 refine ⟨f5,_,_,_,rfl,H5.bI λb4 w6 H6=>H6.aN λw7 H7=>H7.nw λw8 _ H8=>?_⟩
 have k1:fB w8 ⟨some (bD w7.heap.size),1,1⟩ [0]:=oh (T:=bW) (H8.ob 3) rfl
 have q3:=No (d:=⟨Ws,⟨some (bD w7.heap.size),1,1⟩⟩) (cQ.1 (H8.getD 2)) k1 (H8.getD 0) tN (by rw [n2];decide) (qL s2 x2).1 (qL s2 x2).2
 refine nS (q3.mono ?_)
 rintro _ w9 ⟨⟨g3,rfl,⟨l3,x3,G3,F3⟩⟩,f9⟩
 rw [x2,li3] at x3 ⊢
 have n3:=Hc x3
 have H9:=H8.oe (.gr g3 l3) f9 (cQ.2 G3) (λb hb=>(F3 b hb).elim (λh=>.inr (.inr ⟨_,dC (i:=2) rfl,h⟩)) .inl)
 have hn3:=qq G3
 refine ⟨f9,_,_,_,rfl,H9.bI λb7 pT mg=>aM rfl (aM rfl (aM rfl (aM rfl (aM rfl (eB (λiq=>absurd (by rw [hn3,n3];rfl) iq) (λ_=>mg.aN λrQ qn=>qn.nw λqW _ pV=>?_))))))⟩
 have k2:fB qW ⟨some (bD rQ.heap.size),2,2⟩ [0,1]:=oh (T:=bW) (pV.ob 5) rfl
 have q4:=zJ (d:=⟨Z1,⟨some (bD rQ.heap.size),2,2⟩⟩) (cQ.1 (pV.getD 3)) k2 (pV.getD 0) tC7 (by rw [n3];decide) (qL s2 x3).1
 refine pV.aL q4 ?_
 rintro _ uF rfl rG
 rw [x3,li4]
 refine ⟨_,_,_,_,rfl,rG.bI λpo CV qD=>qD.aN λKm xi=>xi.nw λKD _ Fa=>?_⟩
 have k3:fB KD ⟨some (bD Km.heap.size),1,1⟩ [0]:=oh (T:=bW) (Fa.ob 7) rfl
 have q5:=zJ (d:=⟨Z2,⟨some (bD Km.heap.size),1,1⟩⟩) (cQ.1 (Fa.getD 3)) k3 (Fa.getD 0) tE (by rw [n3];decide) (qL s2 x3).1
 refine Fa.aL q5 ?_
 rintro _ Sa rfl Qw
 rw [x3,li5]
 exact ⟨_,_,_,_,rfl,Qw.bI λb12 X0 UG=>aS rfl (aS rfl (UG.aN λw23 H23=>⟨rfl,H23.fr⟩))⟩
theorem Ew (c:UInt8):wN c=NV c:=by
 unfold wN NV
 rw [Bool.and_assoc,Bool.and_assoc]
 rfl
theorem EL (c:UInt8):mN c=tw c:=rfl
theorem Vb:(List.range 256).all (λn=>N' .u8 (n:Int) 15==((n%16:Nat):Int))=true:=by kernel_rfl
theorem Mg {n:Nat} (h:n<16):(ByteArray.mk #[48,49,50,51,52,53,54,55,56,57,97,98,99,100,101,102])[n]? =some (rS n):=by
 have:n=0\/n=1\/n=2\/n=3\/n=4\/n=5\/n=6\/n=7\/n=8\/n=9\/n=10\/n=11\/n=12\/n=13\/n=14\/n=15:=by omega
 rcases this with rfl|rfl|rfl|rfl|rfl|rfl|rfl|rfl|rfl|rfl|rfl|rfl|rfl|rfl|rfl|rfl<;>rfl
theorem uk (c:UInt8) (w:World):Calls Tryz.prog jD #[.int .u8 (c.toNat:Int)] w λr w'=>r=.returned (.string (ba (dL c)))/\bF w w':=by
 have hc:=c.toNat_lt
 have H:LH F0 w w [] []:=mf [] (by simp)
 refine regex_byteText.ok _ w _ (H.call (Hx c w) ?_)
 rintro _ w1 rfl H1
 refine ⟨_,rfl,bB (λhp=>?_) (λhp=>?_)⟩
 .rw [Ew] at hp
  refine H1.XP (λw2 _ H2 hb=>?_)
  have hB:Bytes w2 ⟨some (bD w1.heap.size),3,3⟩ [39,c,39]:=wc (T:=dB) hb rfl
  refine ⟨ba [39,c,39],qF hB,?_,H2.fr⟩
  unfold dL;rw [if_pos hp]
 .rw [Ew] at hp
  have e2:Int.fdiv (c.toNat:Int) (2^(4))=((c.toNat / 16:Nat):Int):=by
   rw [Int.fdiv_eq_ediv_of_nonneg _ (by decide)];omega
  have e3:N' .u8 (c.toNat:Int) 15=((c.toNat%16:Nat):Int):=eq_of_beq (qaT.1 Vb c.toNat (List.mem_range.2 hc))
  refine H1.dr λw3 H3=>?_
  rw [e2,e3]
  refine ⟨by omega,_,Mg (by omega),by omega,_,Mg (by omega),H3.XP (λw4 _ H4 hb=>?_)⟩
  have hB:Bytes w4 ⟨some (bD w3.heap.size),4,4⟩ [92,120,rS (c.toNat / 16),rS (c.toNat%16)]:=wc (T:=dB) hb rfl
  refine ⟨ba [92,120,rS (c.toNat / 16),rS (c.toNat%16)],qF hB,?_,H4.fr⟩
  unfold dL;rw [if_neg (by rw [hp];simp)]
abbrev KE (n:Nat):Prop:=∀(x:Rt) (w:World),x.sz<=n->okW x.rx=true->x.P w->Calls Tryz.prog rk #[x.v] w λr w'=>r=.returned (.tuple #[.string (ba (gM x.rx)),.i (cJ x.rx:Int)])/\bF w w'
theorem Ir {n:Nat} (hn:n<=1000000) (hb:KE n) (x:Rt) (lv:Nat) (w:World) (h:x.sz<=n) (Rb:lv<=1000) (dP:okW x.rx=true) (px:x.P w):Calls Tryz.prog ie #[x.v,.i (lv:Int)] w λr w'=>r=.returned (.string (ba (cN lv x.rx (gM x.rx))))/\bF w w':=by
 refine regex_text.cT _ _ _ _ _ w _ ((y9 px).bI λb2 w1 H1=>H1.aL (hb x w1 h dP (H1.getD 0)) ?_)
 rintro _ w2 rfl H2
 have pX:(gM x.rx).length<=18000000:=by have:=zW x.rx;rw [Rt.hM] at this;omega
 have e:ByteArray.mk #[40]++ba (gM x.rx)++ByteArray.mk #[41]=ba (40::(gM x.rx++[41])):=by
  show ba [40]++ba (gM x.rx)++ba [41]=_
  rw [dV,dV];simp
 refine ⟨_,_,rfl,aK (λlC=>⟨?_,?_,?_,H2.fr⟩) (λlC=>⟨?_,H2.fr⟩)⟩
 .rw [cD];show ¬(((1+_:Nat):Int)>9223372036854775807);omega
 .have:(ByteArray.mk #[40]++ba (gM x.rx)).size=1+(gM x.rx).length:=by
   show (ba [40]++_).size=_
   rw [dV,cD];simp;omega
  rw [this];show ¬(((_+1:Nat):Int)>9223372036854775807);omega
 .rw [e];unfold cN;rw [if_pos (by omega)]
 .unfold cN;rw [if_neg (by omega)]
theorem Ip:∀n:Nat,n<=1000000->KE n
 |0,_=>λx w h _ _=>absurd h (by have:=Rt.oQ x;omega)
 |n+1,hn=>by
  have ih:=Ip n (by omega)
  intro x w h dP px
  have hs:=Rt.gm x
  have hl:=Rt.eZ x.l
  have nr:=Rt.cB px.parts.1
  have DU:=dP
  rw [Rt.c9] at DU
  obtain ⟨k0,k7,Cc,sH⟩:=ti DU
  have A8:(Rt.bU x.l).length=x.l.length:=by rw [Rt.eW,List.length_map]
  rw [A8] at Cc
  have JC:∀a∈x.l,okW a.rx=true:=λa ha=>vA sH (by rw [Rt.eW];exact o8.2 ⟨a,ha,rfl⟩)
  have Rg:∀(a:Rt) (lv:Nat),a.sz<=1000000->(cN lv a.rx (gM a.rx)).length<=18000002:=λa lv ha=>by have h1:=zW a.rx;rw [Rt.hM] at h1;have:=(nY lv a.rx (gM a.rx)).1;omega
  have yV:∀c,(dL c).length<=4:=λc=>by unfold dL;split<;>simp
  let R:aD:=λr w'=>r=.returned (.tuple #[.string (ba (gM x.rx)),.i (cJ x.rx:Int)])/\bF w w'
  have one:∀(a:Rt) (MB:Nat) (w1:World) (L:List En) (bs:List Nat) (K:ByteArray->World->Prop),MB<=1000->a∈x.l->LH F0 w w1 L [.tree x]->(∀w2,LH F0 w w2 L [.tree x]->K (ba (cN MB a.rx (gM a.rx))) w2)->pE bs ie #[.agg #[.i a.k,.int .u8 (a.lo.toNat:Int),.int .u8 (a.hi.toNat:Int),a.s.v],.i (MB:Int)] w1 K:=by
   intro a MB w1 L bs K TE ha H1 hK
   have CE:=Rt.dK ha
   refine H1.aL (Ir (by omega) ih a MB w1 (by omega) TE (JC a ha) ((show x.P w1 from H1.getD 0).parts.2.mem ha)) ?_
   rintro _ w2 rfl H2
   exact ⟨_,rfl,hK w2 H2⟩
  have FT:gM x.rx=gM (.mk x.k x.lo x.hi (Rt.bU x.l)):=by rw [Rt.c9]
  have YJ:cJ x.rx=if x.k=6 then 3 else if x.k<3\/x.k=7\/x.l.length<2 then 4 else if x.k=3 then 2 else if x.k=4 then 0 else 1:=by
   rw [Rt.c9];unfold cJ;dsimp only;rw [A8]
  have b4:(x.k<3\/x.k=7\/x.l.length<2)->x.k≠6->(4:Int)=(cJ x.rx:Int):=λh1 h2=>by rw [YJ,if_neg h2,if_pos h1];rfl
  refine regex_bare.cT _ _ _ _ w _ ((y9 px).bI λb1 w1 H1=>?_)
  have H1:LH F0 w w1 [.g b1] [.tree x]:=H1
  refine aJ (λhk=>⟨?_,H1.fr⟩) (λAb=>aJ (λhk=>⟨?_,H1.fr⟩) (λDT=>aJ (λsG=>?_) (λsG=>aJ (λCR=>?_) (λCR=>aJ (λKw=>?_) (λKw=>?_)))))
  .rw [<-b4 (.inl (by omega)) (by omega),FT];unfold gM;rw [if_pos hk];rfl
  .rw [<-b4 (.inl (by omega)) (by omega),FT];unfold gM;rw [if_neg Ab,if_pos hk];rfl
  .have e2:gM x.rx=if x.lo=x.hi then dL x.lo else 91::(dL x.lo++45::(dL x.hi++[93])):=by
    rw [FT];unfold gM;rw [if_neg Ab,if_neg DT,if_pos sG]
   rw [<-b4 (.inl (by omega)) (by omega)]
   refine aJ (λOW=>H1.aL (uk x.lo w1) ?_) (λOW=>H1.aN λw5 H5=>H5.aL (uk x.lo w5) ?_)
   .rintro _ w3 rfl H3
    exact ⟨_,rfl,by rw [e2,if_pos (UInt8.toNat_inj.1 (by omega))],H3.fr⟩
   .rintro _ w6 rfl H6
    have h1:=yV x.lo
    have h2:=yV x.hi
    have s0:ByteArray.mk #[91]++ba (dL x.lo)++ByteArray.mk #[45]=ba (91::dL x.lo++[45]):=by
     show ba [91]++ba (dL x.lo)++ba [45]=_
     rw [dV,dV];rfl
    refine ⟨_,rfl,?_,?_,H6.aL (uk x.hi w6) ?_⟩
    .rw [cD];show ¬(((1+_:Nat):Int)>9223372036854775807);omega
    .have:(ByteArray.mk #[91]++ba (dL x.lo)).size=1+(dL x.lo).length:=by
      show (ba [91]++_).size=_
      rw [dV,cD];simp;omega
     rw [this];show ¬(((_+1:Nat):Int)>9223372036854775807);omega
    rintro _ w7 rfl H7
    rw [s0]
    have:ba (91::dL x.lo++[45]++dL x.hi)++ByteArray.mk #[93]=ba (91::dL x.lo++[45]++dL x.hi++[93]):=by
     show _++ba [93]=_
     rw [dV]
    refine ⟨_,rfl,?_,?_,?_,H7.fr⟩
    .rw [cD,cD];simp only [qlA,qlC,qlN];show ¬(((_:Nat):Int)>9223372036854775807);omega
    .rw [dV,cD];simp only [qlA,qlC,qlN];show ¬(((_+1:Nat):Int)>9223372036854775807);omega
    .rw [dV,this,e2,if_neg (λh=>OW (by rw [h]))]
     simp
  .have h1:=Cc (.inl CR)
   have e6:gM x.rx=33::ud (jc 3 (Rt.bU x.l)):=by
    rw [FT];unfold gM;rw [if_neg Ab,if_neg DT,if_neg sG,if_pos CR]
   have e3:(3:Int)=(cJ x.rx:Int):=by rw [YJ,if_pos CR];rfl
   match nN:x.l,h1 with
   |[a],_=>
    have ha:a∈x.l:=by rw [nN];simp
    have CE:=Rt.dK ha
    refine jo (show x.P w1 from H1.getD 0) (k:=0) rfl (by rw [nN];rfl) (one a 3 w1 _ _ _ (by omega) ha H1 λw3 H3=>⟨?_,?_,H3.fr⟩)
    .have:=Rg a 3 (by omega)
     rw [cD];show ¬(((1+_:Nat):Int)>9223372036854775807);omega
    .have:ByteArray.mk #[33]++ba (cN 3 a.rx (gM a.rx))=ba (33::cN 3 a.rx (gM a.rx)):=by
      show ba [33]++_=_
      rw [dV];rfl
     rw [this,e6,nN,<-e3]
     rfl
  .have h1:=Cc (.inr Kw)
   have e7:gM x.rx=ud (jc 4 (Rt.bU x.l))++[42]:=by
    rw [FT];unfold gM;rw [if_neg Ab,if_neg DT,if_neg sG,if_neg CR,if_pos Kw]
   match nN:x.l,h1 with
   |[a],_=>
    have ha:a∈x.l:=by rw [nN];simp
    have CE:=Rt.dK ha
    refine jo (show x.P w1 from H1.getD 0) (k:=0) rfl (by rw [nN];rfl) (one a 4 w1 _ _ _ (by omega) ha H1 λw3 H3=>⟨?_,?_,H3.fr⟩)
    .have:=Rg a 4 (by omega)
     rw [cD];show ¬(((_+1:Nat):Int)>9223372036854775807);omega
    .have:ba (cN 4 a.rx (gM a.rx))++ByteArray.mk #[42]=ba (cN 4 a.rx (gM a.rx)++[42]):=by
      show _++ba [42]=_
      rw [dV]
     rw [this,e7,nN,<-b4 (.inr (.inl Kw)) CR]
     rfl
  have hk:x.k=3\/x.k=4\/x.k=5:=by omega
  have S1:∀(word sign:BL) (level:Nat),word.length=3->zd x.k=word++[40]->lB x.k=sign->level<=2->(2<=x.l.length->cJ x.rx=level)->regex_bare.fY b1 x.k x.lo.toNat x.hi.toNat x.s (ba word) (ba sign) (level:Int) w1 R:=by
   intro word sign level hw NS ZJ Rb Xw
   have ef:x.l.length<2->gM x.rx=zd x.k++(ud (jc 0 (Rt.bU x.l))++[41]):=λh=>by
    rw [FT];unfold gM;rw [if_neg Ab,if_neg DT,if_neg sG,if_neg CR,if_neg Kw,if_pos (by rw [A8];omega)]
   refine aJ (λh0=>?_) (λh0=>aJ (λh1=>?_) (λh1=>?_))
   .have hx:x.l=[]:=List.length_eq_zero_iff.1 (by omega)
    refine ⟨?_,?_,H1.fr⟩
    .rw [cD];show ¬(((_+2:Nat):Int)>9223372036854775807);omega
    .have:ba word++ByteArray.mk #[40,41]=ba (word++[40,41]):=by
      show _++ba [40,41]=_
      rw [dV]
     rw [this,<-b4 (.inr (.inr (by omega))) CR,ef (by omega),NS,hx]
     simp [Rt.bU,jc,ud]
   .match nN:x.l with
    |[]=>rw [nN] at nr;simp at nr;omega
    |_::_::_=>rw [nN] at nr;simp at nr;omega
    |[a]=>
     have ha:a∈x.l:=by rw [nN];simp
     have CE:=Rt.dK ha
     have hp:=Rg a 0 (by omega)
     refine ⟨?_,jo (show x.P w1 from H1.getD 0) (k:=0) rfl (by rw [nN];rfl) (one a 0 w1 _ _ _ (by omega) ha H1 λw3 H3=>⟨?_,?_,?_,H3.fr⟩)⟩
     .rw [cD];show ¬(((_+1:Nat):Int)>9223372036854775807);omega
     .have:ba word++ByteArray.mk #[40]=ba (word++[40]):=by
       show _++ba [40]=_
       rw [dV]
      rw [this,cD,cD];simp only [qlA,qlC,qlN];show ¬(((_:Nat):Int)>9223372036854775807);omega
     .have:ba word++ByteArray.mk #[40]++ba (cN 0 a.rx (gM a.rx))=ba (word++[40]++cN 0 a.rx (gM a.rx)):=by
       show _++ba [40]++_=_
       rw [dV,dV]
      rw [this,cD];simp only [qlA,qlC,qlN];show ¬(((_+1:Nat):Int)>9223372036854775807);omega
     .have:ba word++ByteArray.mk #[40]++ba (cN 0 a.rx (gM a.rx))++ByteArray.mk #[41]=ba (word++[40]++cN 0 a.rx (gM a.rx)++[41]):=by
       show _++ba [40]++_++ba [41]=_
       rw [dV,dV,dV]
      rw [this,<-b4 (.inr (.inr (by rw [nN];simp))) CR,ef (by rw [nN];simp),NS,nN]
      simp [Rt.bU,jc,ud]
   .have h2:2<=x.l.length:=by omega
    have Xw:=Xw h2
    have ej:gM x.rx=O5 x.k (jc (level+1) (Rt.bU x.l)):=by
     conv=>lhs;rw [FT];unfold gM;rw [if_neg Ab,if_neg DT,if_neg sG,if_neg CR,if_neg Kw,if_neg (by rw [A8];omega)]
     rw [<-Rt.c9,Xw]
    have sgl:sign.length<=1:=by rw [<-ZJ];unfold lB;split<;>(try split)<;>simp
    have loop:∀(d i:Nat) (out:BL) (w3:World),i+d=x.l.length->(1<=i->0<out.length)->(i=0->out=[])->out.length+p9 (jc (level+1) (Rt.bU (x.l.drop i)))<=40000000->gM x.rx=(if i=0 then O5 x.k (jc (level+1) (Rt.bU (x.l.drop i))) else lV x.k out (jc (level+1) (Rt.bU (x.l.drop i))))->LH F0 w w3 [.g b1] [.tree x]->
      regex_bare.U9 b1 x.k x.lo.toNat x.hi.toNat x.s (ba sign) (level:Int) (ba out) x.s ((x.s.n:Nat):Int) (i:Int) w3 R:=by
     intro d
     induction d with
     |zero=>
      intro i out w3 hi Gk hz Cd he H3
      refine regex_bare.CW _ _ _ _ _ _ _ _ _ _ _ _ _ (aM (decide_eq_false (by omega)) ⟨?_,H3.fr⟩)
      rw [he,List.drop_of_length_le (by omega),if_neg (by omega),Xw]
      rfl
     |succ d pW=>
      intro i out w3 hi Gk hz Cd he H3
      have hg:x.l[i]? =some (x.l[i]'(by omega)):=g7 (by omega)
      have CP:x.l.drop i=(x.l[i]'(by omega))::x.l.drop (i+1):=List.drop_eq_getElem_cons (by omega)
      generalize x.l[i]'(by omega)=c at hg CP
      have hc:=dC hg
      have szc:=Rt.dK hc
      rw [CP] at he Cd
      have Cd:out.length+((cN (level+1) c.rx (gM c.rx)).length+2+p9 (jc (level+1) (Rt.bU (x.l.drop (i+1)))))<=40000000:=by
       have:p9 (jc (level+1) (Rt.bU (c::x.l.drop (i+1))))=(cN (level+1) c.rx (gM c.rx)).length+2+p9 (jc (level+1) (Rt.bU (x.l.drop (i+1)))):=by
        simp [Rt.bU,jc,p9]
       omega
      have Zf:0<(cN (level+1) c.rx (gM c.rx)).length:=by
       have h1:=CN c.rx (JC c hc)
       have:=(nY (level+1) c.rx (gM c.rx)).2
       omega
      have Vz:IntKind.wrap .i64 ((level:Int)+1)=((level+1:Nat):Int):=aZ _ (by omega)
      have NP:i=0->gM x.rx=lV x.k (cN (level+1) c.rx (gM c.rx)) (jc (level+1) (Rt.bU (x.l.drop (i+1)))):=λh=>by
       rw [if_pos h] at he;rw [he];rfl
      have qV:i≠0->gM x.rx=lV x.k ((if x.k=3/\tw (qd out)=true/\tw (gQ (cN (level+1) c.rx (gM c.rx)) 0)=true then out++[32] else out)++lB x.k++cN (level+1) c.rx (gM c.rx)) (jc (level+1) (Rt.bU (x.l.drop (i+1)))):=λh=>by
       rw [if_neg h] at he;rw [he];rfl
      refine regex_bare.CW _ _ _ _ _ _ _ _ _ _ _ _ _ (aS (decide_eq_true (by omega)) (jo (show x.P w3 from H3.getD 0) rfl hg (H3.bI λb9 w4 H4=>H4.aN λw5 H5=>?_)))
      rw [Vz]
      refine one c (level+1) w5 _ _ _ (by omega) hc H5 λw6 H6=>?_
      have H6:LH F0 w w6 [.g b1,.g b9] [.tree x]:=H6
      generalize cN (level+1) c.rx (gM c.rx)=t at NP qV Cd Zf
      have go:∀(o:BL) (w7:World),o.length<=out.length+1->out.length<=o.length->gM x.rx=lV x.k (o++t) (jc (level+1) (Rt.bU (x.l.drop (i+1))))->LH F0 w w7 [.g b1,.g b9] [.tree x]->regex_bare.hU b1 x.k x.lo.toNat x.hi.toNat x.s (ba sign) (level:Int) (ba o) (ba t) x.s ((x.s.n:Nat):Int) (i:Int) w7 R:=by
       intro o w7 h1 h2 h3 H7
       refine ⟨?_,?_⟩
       .rw [cD,cD];show ¬(((_:Nat):Int)>9223372036854775807);omega
       .rw [dV,aZ _ (by omega)]
        refine pW (i+1) (o++t) w7 (by omega) (λ_=>by simp only [qlA];omega) (λh=>by omega) (by simp only [qlA];omega) (by rw [if_neg (by omega)];exact h3) (H7.take 1)
      refine aK (λVV=>⟨?_,?_⟩) (λVV=>go out w6 (by omega) (Nat.le_refl _) (by rw [hz (by omega)];exact NP (by omega)) H6)
      .rw [cD,cD];show ¬(((_:Nat):Int)>9223372036854775807);omega
      have qV:=qV (by omega)
      have Gk:=Gk (by omega)
      rw [ZJ] at qV
      have ea:ba out++ba sign=ba (out++sign):=dV _ _
      have qi:∀w7,LH F0 w w7 [.g b1,.g b9] [.tree x]->¬(x.k=3/\tw (qd out)=true/\tw (gQ t 0)=true)->regex_bare.hU b1 x.k x.lo.toNat x.hi.toNat x.s (ba sign) (level:Int) (ba (out++sign)) (ba t) x.s ((x.s.n:Nat):Int) (i:Int) w7 R:=λw7 H7 wD=>go (out++sign) w7 (by simp only [qlA];omega) (by simp only [qlA];omega) (by rw [if_neg wD] at qV;exact qV) H7
      rw [ea]
      refine aJ (λGh=>?_) (λGh=>qi w6 H6 (λh=>Gh h.1))
      have s3:sign=[]:=by rw [<-ZJ];unfold lB;rw [if_pos Gh]
      have e9:out++sign=out:=by rw [s3,List.append_nil]
      rw [e9] at qi ⊢
      have eo:IntKind.wrap .i64 ((((ba out).size:Nat):Int) - 1)=((out.length - 1:Nat):Int):=by rw [cD,IntWalk.i64_in _ (by omega)];omega
      rw [eo]
      refine ⟨by omega,qd out,?_,H6.aL (x8 (qd out) w6) ?_⟩
      .rw [Int.toNat_natCast,kQ (s:=ba out) (by rw [cD];omega),yu,Ic out Gk]
      rintro _ w7 rfl H7
      refine ⟨_,rfl,bB (λrV=>⟨by omega,gQ t 0,?_,H7.aL (x8 (gQ t 0) w7) ?_⟩) (λrV=>qi w7 H7 (λh=>by rw [EL,h.2.1] at rV;cases rV))⟩
      .rw [show Int.toNat 0=0 from rfl,kQ (s:=ba t) (by rw [cD];omega),yu]
      rintro _ w8 rfl H8
      refine ⟨_,rfl,bB (λlC=>⟨?_,?_⟩) (λlC=>qi w8 H8 (λh=>by rw [EL,h.2.2] at lC;cases lC))⟩
      .rw [cD];show ¬(((_+1:Nat):Int)>9223372036854775807);omega
      .have YI:ba out++ByteArray.mk #[32]=ba (out++[32]):=by
        show _++ba [32]=_
        rw [dV]
       rw [YI]
       refine go (out++[32]) w8 (by simp) (by simp) ?_ H8
       rw [if_pos ⟨Gh,rV,lC⟩,s3,List.append_nil] at qV
       exact qV
    have h3:=rF (level+1) (Rt.bU x.l)
    have h4:Rx.fL (Rt.bU x.l)=Rt.fL x.l:=Rt.zr x.l
    exact loop x.l.length 0 [] w1 (by omega) (λh=>by omega) (λ_=>rfl) (by rw [List.drop_zero];simp;omega) (by rw [if_pos rfl,List.drop_zero];exact ej) H1
  have bd:2<=x.l.length->cJ x.rx=if x.k=3 then 2 else if x.k=4 then 0 else 1:=λh2=>by rw [YJ,if_neg CR,if_neg (by omega)]
  refine aJ (λh4=>S1 [97,108,116] [124] 0 rfl (by rw [h4];rfl) (by rw [h4];rfl) (by omega) (λh2=>by rw [bd h2,h4];rfl)) (λh4=>aJ (λh5=>S1 [97,108,108] [38] 1 rfl (by rw [h5];rfl) (by rw [h5];rfl) (by omega) (λh2=>by rw [bd h2,h5];rfl)) (λh5=>S1 [99,97,116] [] 2 rfl (by rw [show x.k=3 by omega];rfl) (by rw [show x.k=3 by omega];rfl) (by omega) (λh2=>by rw [bd h2,show x.k=3 by omega];rfl)))
theorem T6 (x:Rt) (lv:Nat) (w:World) (h:x.sz<=1000000) (Rb:lv<=1000) (dP:okW x.rx=true) (px:x.P w):Calls Tryz.prog ie #[x.v,.i (lv:Int)] w λr w'=>r=.returned (.string (ba (cN lv x.rx (gM x.rx))))/\bF w w':=Ir (Nat.le_refl _) (Ip 1000000 (Nat.le_refl _)) x lv w h Rb dP px
theorem Ud:vZ 12:=by
 intro s l w h12 hl ho pl hd
 have nr:=Rt.cB ho.iQ
 refine slices_SortFunc_sl_regex_Regex_regex_Regex.ok _ w _ ((Vh _ w).mono ?_)
 rintro _ w1 ⟨⟨t,rfl⟩,f⟩
 refine ⟨t,rfl,slices_pdqsortCmpFunc_regex_Regex.ok _ _ _ _ w1 _ (MS hl (ho.fr f λ_ _ h=>h) (pl.ot f) hd [] l [] (by simp) h12 _ _ rfl (by simp [nr]) _ _ _ λw' h2 f2=>?_)⟩
 exact ⟨rfl,⟨jO l,rfl,GU l,J8 l,by simpa using h2⟩,f.Z6.trans f2 λx _ h=>h⟩
theorem Vf {a b:Nat} (h:¬a<b):Nat.blt a b=false:=by
 cases hc:Nat.blt a b with
 |false=>rfl
 |true=>rw [Nat.blt_eq] at hc;exact absurd hc h
mutual
theorem DG:∀x:Rx,dS x=true->okW x=true
 |.mk k lo hi l,h=>by
  unfold dS at h
  simp only [Bool.and_eq_true] at h
  have h2:=h.2
  have hl:gA l=true->Aw l=true:=A3 l
  unfold okW
  split at h2
  .rename_i hk
   have:l=[]:=by simpa using h2
   subst this
   have hk:k=0\/k=1:=hk
   unfold Aw
   rcases hk with rfl|rfl<;>decide
  .split at h2
   .rename_i hk
    simp only [Bool.and_eq_true] at h2
    have:l=[]:=by simpa using h2.1
    subst this
    subst hk
    unfold Aw
    decide
   .split at h2
    .rename_i hk
     rw [hl h2]
     rcases hk with rfl|rfl|rfl<;>simp
    .split at h2
     .rename_i hk
      simp only [Bool.and_eq_true,beq_iff_eq] at h2
      rw [hl h2.2]
      rcases hk with rfl|rfl<;>simp [h2.1]
     .cases h2
theorem A3:∀l:List Rx,gA l=true->Aw l=true
 |[],_=>rfl
 |a::l,h=>by
  unfold gA at h
  unfold Aw
  simp only [Bool.and_eq_true] at h
  rw [DG a h.1,A3 l h.2]
  rfl
end
def rK (t:BL):Bool:=bif Nat.blt 4096 t.length then false else match R7 t with
 |.inl _=>false
 |.inr S=>bif Nat.blt 64 (iI S.tp).sz then false else
  if Po (iI S.tp)=0 then (if mP (El (iI S.tp))=0 then cN 0 (El (iI S.tp)) (gM (El (iI S.tp)))==t else false) else false
theorem G6 (s:ByteArray) (hf:∀S,R7 (bl s)=.inr S->B5 12 (iI S.tp)) (w:World):Calls Tryz.prog mC #[.string s] w λr w'=>r=.returned (.bool (rK (bl s)))/\bF w w':=by
 have hl:(bl s).length=s.size:=hV s
 have H:LH F0 w w [] []:=mf [] (by simp)
 refine term_isNormal.cT s w _ ((Oh s w).mono ?_)
 rintro r w1 ⟨f1,hr⟩
 have H1:=H.ot f1
 have no:∀(a e:Int),e≠0->rK (bl s)=false->r=.returned (.tuple #[.agg #[.int .i64 0,.int .u8 0,.int .u8 0,.slice none 0 0],.int .i64 a,.int .i64 e])->∃(t0 t1 t2:Int) (t3:Sl) (t4 t5:Int),r=.returned (.tuple #[.agg #[.i t0,.int .u8 t1,.int .u8 t2,t3.v],.i t4,.i t5])/\bH [] w1 λb3 w2=>aH (t5 !=0) (loc [b3] w2 λw6=>(Ending.returned (.bool false)=.returned (.bool (rK (bl s)))/\bF w w6)) (loc [b3] w2 λw6=>Lr [b3] nt #[.agg #[.i t0,.int .u8 t1,.int .u8 t2,t3.v]] w6 λQa Qb Qc Qd W0 w7=>bH [b3] w7 λb6 w8=>
   aH (W0 !=0) (loc [b3,b6] w8 λqW=>(Ending.returned (.bool false)=.returned (.bool (rK (bl s)))/\bF w qW)) (loc [b3,b6] w8 λqW=>Ta [b3,b6] qw #[.agg #[.i Qa,.int .u8 Qb,.int .u8 Qc,Qd.v]] qW λW2 W3 uF=>aH (W3==0) (Ending.returned (.bool (W2.toList==s.toList))=.returned (.bool (rK (bl s)))/\bF w uF) (Ending.returned (.bool false)=.returned (.bool (rK (bl s)))/\bF w uF))):=λa e he hn hr=>⟨0,0,0,⟨none,0,0⟩,a,e,hr,H1.bI λb3 w2 H2=>eB (λ_=>H2.aN λw3 H3=>⟨by rw [hn],H3.fr⟩) (λh=>absurd h he)⟩
 rcases hr with ⟨h1,h2⟩|⟨h1,res,lH,⟨a,rfl,h2⟩|⟨S',rfl,⟨h3,h2⟩|⟨h3,t,h2,ht,pt,ft⟩⟩⟩
 .refine no _ _ (by decide) ?_ h2
  unfold rK
  rw [show Nat.blt 4096 (bl s).length=true from by rw [Nat.blt_eq];omega]
  rfl
 all_goals have A5:Nat.blt 4096 (bl s).length=false:=Vf (by omega)
 all_goals have JK:=Ut lH
 .have JK:Sum.inl a=R7 (bl s):=JK
  refine no _ _ (by decide) ?_ h2
  unfold rK
  rw [A5,<-JK]
  rfl
 .have JK:Sum.inr (wq S')=R7 (bl s):=JK
  refine no _ _ (by decide) ?_ h2
  unfold rK
  rw [A5,<-JK]
  dsimp only [cond_false]
  rw [B3,show Nat.blt 64 (iI S'.tp).sz=true from by rw [Nat.blt_eq];exact h3]
  rfl
 .have JK:Sum.inr (wq S')=R7 (bl s):=JK
  have Mh:=hf _ JK.symm
  rw [B3] at Mh
  have V8:rK (bl s)=if Po (iI S'.tp)=0 then (if mP (El (iI S'.tp))=0 then cN 0 (El (iI S'.tp)) (gM (El (iI S'.tp)))==bl s else false) else false:=by
   unfold rK
   rw [A5,<-JK]
   dsimp only [cond_false]
   have:Nat.blt 64 (iI S'.tp).sz=false:=Vf (by omega)
   rw [B3,this]
   rfl
  generalize iI S'.tp=x at ht Mh V8 h3
  have H1':=H.oe (.tree t) f1 pt (λb hb=>.inl (ft b (aI.1 hb)))
  have RE:t.sz<=64:=by rw [<-Rt.hM,ht];exact h3
  refine ⟨_,_,_,t.s,_,_,h2,H1'.bI λb3 w2 H2=>eB (λh=>absurd rfl h) (λ_=>H2.aN λw3 H3=>?_)⟩
  refine H3.ss (K6 Ud (by omega) t w3 (by omega) (by rw [ht];exact Mh) (H3.getD 0)) ?_
  rintro _ w4 ⟨u,rfl,hu,pu,fu⟩ _ F4
  rw [ht] at hu
  rw [ht]
  have H4:=F4.rd (.tree u) pu λb hb=>fu b (aI.1 hb)
  refine ⟨_,_,_,u.s,_,rfl,H4.bI λb6 w5 H5=>eB (λiq=>H5.aN λw6 H6=>⟨by rw [V8,if_neg iq],H6.fr⟩) (λhe=>H5.aN λw6 H6=>?_)⟩
  rw [if_pos he] at V8
  have szu:u.sz<=1000000:=by
   rw [<-Rt.hM,hu]
   have:Po x=0:=he
   unfold Po at this
   unfold El
   split at this
   .rename_i hv
    rw [if_pos hv]
    unfold Eb at this
    unfold Ec
    split at this
    .cases this
    .rename_i Fg
     rw [if_neg Fg]
     omega
   .rename_i hv
    exact absurd this hv
  refine nS (regex_Print.cT _ _ _ _ w6 _ ((y9 (H6.getD 1)).bI λb1 w7 H7=>H7.aL (Hp u w7 szu (H7.getD 0)) ?_))
  rintro _ w8 rfl H8
  rw [hu]
  refine ⟨_,rfl,eB (λiq=>⟨H8.fr,_,_,rfl,aJ (λh=>absurd h iq) (λ_=>⟨by rw [V8,if_neg iq],(H6.ot H8.fr).fr⟩)⟩) (λhv=>H8.aL (T6 u 0 w8 szu (by omega) ?_ (H8.getD 0)) ?_)⟩
  .exact DG _ (by rw [hu];exact (uy hv).1)
  .rintro _ w9 rfl H9
   refine ⟨_,rfl,H9.fr,_,_,rfl,aS rfl ⟨?_,(H6.ot H9.fr).fr⟩⟩
   rw [V8,if_pos hv,hu]
   congr 2
   have:=AL (cN 0 (El x) (gM (El x))) (bl s)
   rw [AK] at this
   exact this
def VF (t:BL):Bool:=match R7 t with
 |.inr S=>Nat.ble (qu (iI S.tp)) 12
 |.inl _=>true
def Ls (t:BL):Bool:=(match BX t with
 |some b=>rK t==b
 |none=>false)&&VF t&&Nat.ble t.length 100
def su (i:Nat):Bool:=(List.range 108).all (λk=>Ls (qm (108 *i+k)))
theorem OE:su 0=true:=by kernel_rfl
theorem OF:su 1=true:=by kernel_rfl
theorem OG:su 2=true:=by kernel_rfl
theorem OH:su 3=true:=by kernel_rfl
theorem OI:su 4=true:=by kernel_rfl
theorem OJ:su 5=true:=by kernel_rfl
theorem OK:su 6=true:=by kernel_rfl
theorem OL:su 7=true:=by kernel_rfl
theorem OM:su 8=true:=by kernel_rfl
theorem ON:su 9=true:=by kernel_rfl
theorem L4:su 10=true:=by kernel_rfl
theorem L5:su 11=true:=by kernel_rfl
theorem L6:su 12=true:=by kernel_rfl
theorem L7:su 13=true:=by kernel_rfl
theorem L8:su 14=true:=by kernel_rfl
theorem L9:su 15=true:=by kernel_rfl
theorem To:∀i,i<16->su i=true:=by
 intro i hi
 match i,hi with
 |0,_=>exact OE
 |1,_=>exact OF
 |2,_=>exact OG
 |3,_=>exact OH
 |4,_=>exact OI
 |5,_=>exact OJ
 |6,_=>exact OK
 |7,_=>exact OL
 |8,_=>exact OM
 |9,_=>exact ON
 |10,_=>exact L4
 |11,_=>exact L5
 |12,_=>exact L6
 |13,_=>exact L7
 |14,_=>exact L8
 |15,_=>exact L9
 |n+16,h=>exact absurd h (by omega)
theorem Tn (k:Nat) (h:k<1728):Ls (qm k)=true:=by
 have h1:=To (k / 108) (by omega)
 have h2:=qaT.1 h1 (k%108) (List.mem_range.2 (Nat.mod_lt _ (by omega)))
 rwa [Nat.div_add_mod] at h2
def VH:List BL:=[[],[97],[65],[115,101,118,101,110,116,101,101,110,45,108,101,116,116,101,114,115],[97,45,49],[45],[40],[122,122],[97,98],[98],[0],[97,97],[99],[100],[109],[110],[115],[116],[105],[122]]
theorem Ti:VH.all Ls=true:=by kernel_rfl
def Xm (t:ByteArray):Prop:=bl t∈VH\/∃k,t=ba (qm k)
theorem TZ {t:ByteArray} (h:Xm t):Ls (bl t)=true:=by
 rcases h with h|⟨k,rfl⟩
 .exact qaT.1 Ti _ h
 .rw [yu,wY]
  exact Tn (k%1728) (Nat.mod_lt _ (by omega))
theorem Ry {t:ByteArray} (h:Xm t):KW t/\Fs t/\t.size<=100:=by
 have hc:=TZ h
 unfold Ls at hc
 simp only [Bool.and_eq_true] at hc
 obtain ⟨⟨h1,h2⟩,h3⟩:=hc
 have h3:=Nat.le_of_ble_eq_true h3
 rw [hV] at h3
 cases hq:BX (bl t) with
 |none=>rw [hq] at h1;cases h1
 |some b=>
  rw [hq] at h1
  have h1:=eq_of_beq h1
  have hx:KW t:=⟨by omega,b,hq⟩
  refine ⟨hx,λw=>?_,h3⟩
  have Zd:Ai t=b:=by
   have:=hx.can
   rw [hq] at this
   exact (Option.some.inj this).symm
  rw [Zd,<-h1]
  refine G6 t (λS hS=>FU _ ?_) w
  unfold VF at h2
  rw [hS] at h2
  exact Nat.le_of_ble_eq_true h2
structure Kr (c:Nat) (d:Nx):Prop where
 kl:d.kids.length<=c
 n:nO d.n
 m:nO d.m
 u:0<=d.u
 tx:d.op=33->Xm d.tx
theorem Hh.sp {d:Nx} (h:Hh d):Kr 3 d:=⟨h.kl,⟨by have:=h.n;omega,by have:=h.n;omega⟩,⟨by have:=h.m;omega,by have:=h.m;omega⟩,h.u.1,λn7=>.inr (h.re n7)⟩
theorem Kr.le {c e:Nat} {d:Nx} (h:Kr c d) (hc:c<=e):Kr e d:=⟨by have:=h.kl;omega,h.n,h.m,h.u,h.tx⟩
theorem Kr.nok {c:Nat} {d:Nx} (h:Kr c d) (hc:c<=100):QD d:=⟨by have:=h.kl;unfold m9;omega,h.n,h.m,λn7=>(Ry (h.tx n7)).1⟩
theorem Kr.tok {c:Nat} {d:Nx} (h:Kr c d) (hc:c<=100):Hj d:=⟨by have:=h.kl;omega,h.n,h.m,h.u,λn7=>(Ry (h.tx n7)).2.1⟩
def spL (xZ:Int):List Int:=[xZ,-1,0,1,63,64,65,1099511627776]
def WU:List ByteArray:=[ByteArray.mk #[],ByteArray.mk #[97],ByteArray.mk #[65],ByteArray.mk #[115,101,118,101,110,116,101,101,110,45,108,101,116,116,101,114,115],ByteArray.mk #[97,45,49],ByteArray.mk #[45],ByteArray.mk #[40],ByteArray.mk #[122,122]]
theorem Uf:∀t∈WU,Xm t:=by
 intro t ht
 refine .inl ?_
 revert t
 decide
theorem Ue {b:Int} {x:Int} (h:(spL b)[(dF b 8).toNat]? =some x) (hb:nO b):nO x/\x≠33:=by
 have hr:=cI b 8 (by omega)
 have n7:b=33->dF b 8=1:=λe=>by rw [e];rfl
 generalize dF b 8=a at h hr n7
 have:a=0\/a=1\/a=2\/a=3\/a=4\/a=5\/a=6\/a=7:=by omega
 rcases this with rfl|rfl|rfl|rfl|rfl|rfl|rfl|rfl
 all_goals
  have h:=Option.some.inj h
  subst h
 .exact ⟨hb,λe=>absurd (n7 e) (by decide)⟩
 all_goals exact ⟨⟨by decide,by decide⟩,by decide⟩
theorem G8 (n:Int):0<=IntKind.wrap .u64 n:=by
 have:IntKind.wrap .u64 n=n%18446744073709551616:=by simp [IntKind.wrap,IntKind.bits,IntKind.signed]
 omega
theorem Uv (n:Int):IntKind.wrap .u64 n<18446744073709551616:=by
 have:IntKind.wrap .u64 n=n%18446744073709551616:=by simp [IntKind.wrap,IntKind.bits,IntKind.signed]
 omega
theorem Mn (n:Int):nO (IntKind.wrap .i64 n):=by
 have:IntKind.wrap .i64 n=(n+9223372036854775808)%18446744073709551616 - 9223372036854775808:=by
  simp [IntKind.wrap,IntKind.bits,IntKind.signed]
  split<;>omega
 rw [this]
 constructor<;>omega
theorem T8 {w:World} {s:Sl} {vs:List Value} (h:Rd w s vs):jJ 1 w s vs:=⟨by rw [Nat.mul_one];exact h.1.symm,h.2.1,h.2.2⟩
structure Ym (d:Nx) (Q:Nx->Prop):Prop where
 op:∀k,nO k->k≠33->Q {d with op:=k}
 n:∀k,nO k->Q {d with n:=k}
 m:∀k,nO k->Q {d with m:=k}
 u:∀k,0<=k->k<18446744073709551616->Q {d with u:=k}
 tx:∀t∈WU,Q {d with tx:=t}
 st:∀a b c,(nO a\/a=d.st.k)->(nO b\/b=d.st.n)->(nO c\/c=d.st.x)->Q {d with st:=⟨a,b,c⟩}
 ks:∀l:List Int,l.length<=d.kids.length+1->(∀k∈l,k∈d.kids\/(0<=k/\k<12))->Q {d with kids:=l}
def Sw (w:World) (Q:Nx->Prop) (r:Ending) (w':World):Prop:=∃d:Nd,r=.returned d.v/\Q d.x/\d.P w'/\∀b∈(fF d).fp,w.heap.size<=b
theorem Jc {w:World} {d:Nd} {Q:Nx->Prop} (hd:d.P w) (hs:Ym d.x Q) (TB:d.x.kids.length<=100) (Re xZ:Int) (hh:nO Re) (hb:nO xZ):
  Calls Tryz.prog jy #[d.v,.i Re,.i xZ] w λr w'=>Sw w Q r w'/\bF w w':=by
 have V0:=fB.len hd
 have H:LH F0 w w [] [fF d]:=mf _ (by
  intro e he
  simp only [cU,qnM,or_false] at he
  subst he
  exact hd)
 refine enthymemeref07_Spoilt.cT _ _ _ _ _ _ _ _ _ _ _ w _ (H.bI λb3 w1 H1=>H1.bI λb6 w2 H2=>H2.gZ (n:=0) (sz:=1) (cs:=[]) rfl (by decide) λw3 H3=>?_)
 refine H3.I7 2 uY (s:=⟨some (bD w2.heap.size),0,0⟩) (src:=d.ks) rfl (T8 (H3.getD 0)) (D6 _) (by simp only;omega) (λt12 w4 H4=>?_)
 have H4:LH F0 w w4 [.g b3,.g b6,uh t12 d.x.kids] [fF d]:=H4
 have fin:∀(L2:List En) (w5:World) (x:Nx) (ts:Sl),LH F0 w w5 ([.g b3,.g b6,uh ts x.kids]++L2) [fF d]->Q x->
   enthymemeref07_Spoilt.dU b3 x.op ts x.n x.m x.u x.tx x.st.k x.st.n x.st.x b6 0 ⟨none,0,0⟩ 0 0 0 (ByteArray.mk #[]) 0 0 0 w5 λr w'=>Sw w Q r w'/\bF w w':=λL2 w5 x ts H5 hx=>
  H5.aN λw6 H6=>⟨⟨⟨x,ts⟩,rfl,hx,rn (H6.get 2),Bp λb hb=>(H6.new _ (dC (i:=2) rfl) b hb).resolve_right id⟩,H6.fr⟩
 refine H4.aN λw5 H5=>H5.nw λw6 _ H6=>H6.aL (fG xZ 8 w6 (by omega) hb) ?_
 have hr:=cI xZ 8 (by omega)
 obtain ⟨k,hk⟩:∃k,(spL xZ)[(dF xZ 8).toNat]? =some k:=⟨_,g7 (by show _<8;omega)⟩
 have Gi:=Ue hk hb
 rintro _ w7 rfl H7
 have k0:fB w7 ⟨some (bD w5.heap.size),8,8⟩ (spL xZ):=oh (T:=bW) (H7.ob 3) rfl
 refine ⟨_,rfl,hr.1,hr.2,k0.cell hk (by omega) λp hp hc=>⟨k,hc,H7.aL (fG Re 10 w7 (by omega) hh) ?_⟩⟩
 rintro _ w8 rfl H8
 refine ⟨_,rfl,?_⟩
 refine aJ (λ_=>H8.aN λw9 H9=>fin _ w9 {d.x with op:=k} t12 H9 (hs.op k Gi.1 Gi.2)) (λ_=>?_)
 refine aJ (λ_=>H8.aN λw9 H9=>fin _ w9 {d.x with n:=k} t12 H9 (hs.n k Gi.1)) (λ_=>?_)
 refine aJ (λ_=>H8.aN λw9 H9=>fin _ w9 {d.x with m:=k} t12 H9 (hs.m k Gi.1)) (λ_=>?_)
 refine aJ (λ_=>H8.aN λw9 H9=>fin _ w9 {d.x with u:=IntKind.wrap .u64 k} t12 H9 (hs.u _ (G8 k) (Uv k))) (λ_=>?_)
 refine aJ (λ_=>?_) (λ_=>?_)
 .refine H8.nw λuF _ rG=>rG.aL (fG xZ 8 uF (by omega) hb) ?_
  rintro _ CV rfl qD
  obtain ⟨t,ht⟩:∃t,WU[(dF xZ 8).toNat]? =some t:=⟨_,g7 (by show _<8;omega)⟩
  refine ⟨_,rfl,hr.1,hr.2,vB ⟨t,?_,qD.aN λAz vS=>fin _ Az {d.x with tx:=t} t12 vS (hs.tx t (dC ht))⟩⟩
  rw [Nat.mul_one]
  refine qD.ld 4 _ rfl ?_
  show (WU.map Value.string)[_]? =_
  rw [qgM,ht]
  rfl
 refine aJ (λ_=>H8.aN λw9 H9=>fin _ w9 {d.x with st:=⟨k,d.x.st.n,d.x.st.x⟩} t12 H9 (hs.st _ _ _ (.inl Gi.1) (.inr rfl) (.inr rfl))) (λ_=>?_)
 refine aJ (λ_=>H8.aN λw9 H9=>fin _ w9 {d.x with st:=⟨d.x.st.k,k,d.x.st.x⟩} t12 H9 (hs.st _ _ _ (.inr rfl) (.inl Gi.1) (.inr rfl))) (λ_=>?_)
 refine aJ (λ_=>H8.aN λw9 H9=>fin _ w9 {d.x with st:=⟨d.x.st.k,d.x.st.n,k⟩} t12 H9 (hs.st _ _ _ (.inr rfl) (.inr rfl) (.inl Gi.1))) (λ_=>?_)
 refine aJ (λ_=>H8.aN λw9 H9=>H9.aL (fG xZ 9 w9 (by omega) hb) ?_) (λ_=>?_)
 .rintro _ pT rfl mg
  have vm:t12.n=d.x.kids.length:=rm (show aO pT bW 1 t12 (d.x.kids.map ia) from mg.get 2)
  refine ⟨_,rfl,mg.tS 2 uY rfl (λs2 rQ qn=>qn.aN λqW pV=>?_) (by omega)⟩
  have pV:LH F0 w qW ([.g b3,.g b6,uh s2 (d.x.kids++[dF xZ 9])]++[.c w5.heap.size [.i xZ,.i (-1),.i 0,.i 1,.i 63,.i 64,.i 65,.i 1099511627776] bW]) [fF d]:=by
   rw [show uh s2 (d.x.kids++[dF xZ 9])=.row bW 1 s2 (d.x.kids.map ia++[ia (dF xZ 9)]) by rw [uh,List.map_append];rfl];exact pV
  refine fin _ qW {d.x with kids:=d.x.kids++[dF xZ 9]} s2 pV (hs.ks _ (by simp) λk hk=>?_)
  rcases List.mem_append.1 hk with hk|hk
  .exact .inl hk
  .simp only [cU,qnM,or_false] at hk
   have:=cI xZ 9 (by omega)
   exact .inr (by omega)
 have loop:∀(m i:Nat) (ks:List Int) (L2:List En) (w9:World),i+m=ks.length->ks.length=d.x.kids.length->(∀k∈ks,k∈d.x.kids\/(0<=k/\k<12))->LH F0 w w9 ([.g b3,.g b6,uh t12 ks]++L2) [fF d]->
   enthymemeref07_Spoilt.l6 xZ b3 d.x.op t12 d.x.n d.x.m d.x.u d.x.tx d.x.st.k d.x.st.n d.x.st.x b6 0 ⟨none,0,0⟩ 0 0 0 (ByteArray.mk #[]) 0 0 0 (i:Int) w9 λr w'=>Sw w Q r w'/\bF w w':=by
  intro m
  induction m with
  |zero=>
   intro i ks L2 w9 hi hl sH H9
   have vm:t12.n=ks.length:=rm (show aO w9 bW 1 t12 (ks.map ia) from H9.get 2)
   exact enthymemeref07_Spoilt.dI _ _ _ _ _ _ _ _ _ _ _ _ _ _ _ _ _ _ _ _ _ _ _ _ (aM (decide_eq_false (by omega)) (fin L2 w9 {d.x with kids:=ks} t12 H9 (hs.ks ks (by omega) sH)))
  |succ m ih=>
   intro i ks L2 w9 hi hl sH H9
   have vm:t12.n=ks.length:=rm (show aO w9 bW 1 t12 (ks.map ia) from H9.get 2)
   refine enthymemeref07_Spoilt.dI _ _ _ _ _ _ _ _ _ _ _ _ _ _ _ _ _ _ _ _ _ _ _ _ (aS (decide_eq_true (by omega)) ?_)
   rw [aZ _ (by omega)]
   refine ⟨by omega,H9.aN λpT mg=>mg.aL (fG _ 12 pT (by omega) (Mn _)) ?_⟩
   rintro _ rQ rfl qn
   refine ⟨_,rfl,by omega,by omega,?_⟩
   obtain ⟨k1,DT⟩:∃k1,ks[i]? =some k1:=⟨_,g7 (by omega)⟩
   refine (rn (show aO rQ bW 1 t12 (ks.map ia) from qn.get 2)).cell DT (j:=Int.toNat (i:Int) *1) (by omega) λp hp _=>?_
   refine qn.NY (bs:=[b3,b6]) 2 (Int.toNat (i:Int) *1) rfl hp (by simp;omega) (λqW pV=>?_)
   generalize hz0:dF _ 12=z at pV ⊢
   have hz:0<=z/\z<12:=by rw [<-hz0];exact cI _ 12 (by omega)
   have e1:Int.toNat (i:Int) *1=i:=by omega
   refine ih (i+1) (ks.set i z) L2 qW (by rw [List.length_set];omega) (by rw [List.length_set];exact hl) (λk hk=>?_) ?_
   .rcases List.mem_or_eq_of_mem_set hk with h|rfl
    .exact sH k h
    .exact .inr hz
   rw [e1] at pV
   rw [show uh t12 (ks.set i z)=.row bW 1 t12 ((ks.map ia).set i (ia z)) by rw [uh,List.map_set]]
   exact pV
 exact loop d.x.kids.length 0 d.x.kids _ w8 (by omega) rfl (λk h=>.inl h) H8
theorem Kr.q {c:Nat} {d:Nx} (hs:Kr c d):Ym d (Kr (c+1)):=by
 have TB:=hs.kl
 exact ⟨λk _ h=>⟨by simp only;omega,hs.n,hs.m,hs.u,λe=>absurd e h⟩,λk h=>⟨by simp only;omega,h,hs.m,hs.u,hs.tx⟩,λk h=>⟨by simp only;omega,hs.n,h,hs.u,hs.tx⟩,λk h _=>⟨by simp only;omega,hs.n,hs.m,h,hs.tx⟩,λt ht=>⟨by simp only;omega,hs.n,hs.m,hs.u,λ_=>Uf t ht⟩,λ_ _ _ _ _ _=>⟨by simp only;omega,hs.n,hs.m,hs.u,hs.tx⟩,λl h _=>⟨by simp only;omega,hs.n,hs.m,hs.u,hs.tx⟩⟩
structure Kq (c:Nat) (d:Nx):Prop where
 sp:Kr c d
 wd:Ks d
 tl:d.tx.size<=1000
theorem Kq.le {c e:Nat} {d:Nx} (h:Kq c d) (hc:c<=e):Kq e d:=⟨h.sp.le hc,h.wd,h.tl⟩
theorem Kq.small {c:Nat} {d:Nx} (h:Kq c d) (hc:c<=100):(lS d).length<=1000000:=Eo h.wd (by have:=h.sp.kl;omega) h.tl
theorem I5.gd {g:List Nx} (h:I5 g) (hl:g.length<=1000):∀d∈g,Kq 3 d:=by
 intro d hd
 have hn:=h.nd d hd
 obtain ⟨i,hi⟩:=List.mem_iff_getElem?.1 hd
 have NQ:=(nP.1 hi).1
 have hk:=h.vg.kids hi
 have hv:=wZ.1 (h.vg.val d hd)
 have ht:d.tx.size<=100:=by
  by_cases n7:d.op=33
  .obtain ⟨k,hk⟩:=hn.re n7
   rw [hk,cD]
   have:=E1 k
   omega
  .have:=hn.tx n7
   omega
 have h1:=hn.Z7
 have h2:=hn.Z8
 have h3:=hn.kl
 have h4:=hn.n
 have h5:=hn.m
 have h6:=hn.u
 exact ⟨hn.sp,⟨⟨by omega,by omega⟩,λk JB=>by have:=hk k JB;exact ⟨by omega,by omega⟩,by omega,⟨by omega,by omega⟩,⟨by omega,by omega⟩,⟨by omega,by omega⟩,by omega,⟨by omega,by omega⟩,⟨by omega,by omega⟩,⟨by omega,by omega⟩⟩,by omega⟩
theorem Kq.q {c:Nat} {d:Nx} (h:Kq c d) (hc:c<=50):Ym d (Kq (c+1)):=by
 have q:=h.sp.q
 have W:=h.wd
 have hs:∀t∈WU,t.size<=1000:=by decide
 exact ⟨λk h1 h2=>⟨q.op k h1 h2,⟨h1,W.ks,W.kl,W.n,W.m,W.u,W.tx,W.sk,W.sn,W.sx⟩,h.tl⟩,
  λk h1=>⟨q.n k h1,⟨W.op,W.ks,W.kl,h1,W.m,W.u,W.tx,W.sk,W.sn,W.sx⟩,h.tl⟩,
  λk h1=>⟨q.m k h1,⟨W.op,W.ks,W.kl,W.n,h1,W.u,W.tx,W.sk,W.sn,W.sx⟩,h.tl⟩,
  λk h1 h2=>⟨q.u k h1 h2,⟨W.op,W.ks,W.kl,W.n,W.m,⟨h1,h2⟩,W.tx,W.sk,W.sn,W.sx⟩,h.tl⟩,
  λt ht=>⟨q.tx t ht,⟨W.op,W.ks,W.kl,W.n,W.m,W.u,by have:=hs t ht;show t.size<=_;omega,W.sk,W.sn,W.sx⟩,hs t ht⟩,
  λa b e h1 h2 h3=>⟨q.st a b e h1 h2 h3,⟨W.op,W.ks,W.kl,W.n,W.m,W.u,W.tx,h1.elim id (λe=>e▸W.sk),h2.elim id (λe=>e▸W.sn),h3.elim id (λe=>e▸W.sx)⟩,h.tl⟩,
  λl h1 h2=>⟨q.ks l h1 h2,⟨W.op,λk hk=>(h2 k hk).elim (W.ks k) (λh=>⟨by omega,by omega⟩),by have:=h.sp.kl;show l.length<=_;omega,W.n,W.m,W.u,W.tx,W.sk,W.sn,W.sx⟩,h.tl⟩⟩
section
variable {M:Nat->Prop} {w0 w:World} {L D:List En}
theorem Ep (l:List Nd) (k:Nat) (hk:k<l.length) (e:Nd):∃(A B:List Value) (d:Nd),A.length=k *9/\l.flatMap Nd.c=A++(d.c++B)/\(l.set k e).flatMap Nd.c=A++(e.c++B):=by
 have h1:l=l.take k++l[k]::l.drop (k+1):=by rw [<-List.drop_eq_getElem_cons,List.take_append_drop]
 refine ⟨(l.take k).flatMap Nd.c,(l.drop (k+1)).flatMap Nd.c,l[k],by rw [Nd.gH,qlT];congr 1;omega,?_,?_⟩
 .conv=>lhs;rw [h1]
  rw [qfA,List.flatMap_cons]
 .rw [List.set_eq_take_append_cons_drop,if_pos hk,qfA,List.flatMap_cons]
theorem _root_.Go.W.LH.aab (H:LH M w0 w L D) (i k:Nat) {s:Sl} {l:List Nd} {e:Nd} {K:World->Prop} (hi:L[i]? =some (.row aE 9 s (l.flatMap Nd.c))) (hk:k<l.length)
  (hK:∀w',LH M w0 w' (L.set i (.row aE 9 s ((l.set k e).flatMap Nd.c))) D->K w'):
  aX s.a λp=>Ui w (p.add (k *9)) (.i e.x.op) e.ks.v (.i e.x.n) (.i e.x.m) (.u e.x.u) (.string e.x.tx) (.i e.x.st.k) (.i e.x.st.n) (.i e.x.st.x) K:=by
 obtain ⟨A,B,d,hA,e1,e2⟩:=Ep l k hk e
 have NQ:=(nP.1 hi).1
 rw [e1] at hi
 rw [e2] at hK
 obtain ⟨p,hp⟩:∃p,s.a=some p:=by
  obtain ⟨p,hp,_⟩:=yf (H.get i hi) 0 (by simp [Nd.c];omega) (.i 0)
  exact ⟨p,hp⟩
 rw [hp]
 have yh:∀{w':World} {L':List En} {vs:List Value} (c:Nat) (v:Value) {K':World->Prop},L'=L.set i (.row aE 9 s (A++(vs++B)))->vs.length=9->c<9->LH M w0 w' L' D->(∀rC,LH M w0 rC (L.set i (.row aE 9 s (A++(vs.set c v++B)))) D->K' rC)->bR w' ((p.add (k *9)).add c) v K':=by
  rintro w' _ vs c v K' rfl ZP hc H' hk
  have h:=H'.zD (bs:=[]) i (k *9) c (by rw [List.getElem?_set_self NQ]) hp (by rw [qlA,qlA,hA,ZP];omega) (K:=K') (v:=v) (λrC N3=>hk rC ?_) (by simp)
  .exact ⟨h.1,h.2.1,h.2.2.2⟩
  rw [List.set_set,IF hA,List.set_append,if_pos (by omega)] at N3
  exact N3
 have e0:L=L.set i (.row aE 9 s (A++(d.c++B))):=by
  apply List.ext_getElem?
  intro j
  rw [List.getElem?_set]
  split
  .rename_i h;subst h;rw [hi]
  .rfl
 refine vB ?_
 unfold Ui
 conv=>arg 2;rw [<-tR (p.add (k *9))]
 refine yh (vs:=d.c) 0 (.i e.x.op) e0 rfl (by decide) H λw1 H1=>?_
 refine yh 1 e.ks.v rfl rfl (by decide) H1 λw2 H2=>?_
 refine yh 2 (.i e.x.n) rfl rfl (by decide) H2 λw3 H3=>?_
 refine yh 3 (.i e.x.m) rfl rfl (by decide) H3 λw4 H4=>?_
 refine yh 4 (.u e.x.u) rfl rfl (by decide) H4 λw5 H5=>?_
 refine yh 5 (.string e.x.tx) rfl rfl (by decide) H5 λw6 H6=>?_
 refine yh 6 (.i e.x.st.k) rfl rfl (by decide) H6 λw7 H7=>?_
 refine yh 7 (.i e.x.st.n) rfl rfl (by decide) H7 λw8 H8=>?_
 exact yh 8 (.i e.x.st.x) rfl rfl (by decide) H8 hK
end
theorem Ga {w:World} {s t:Sl} {l m:List Nd} {d1:Nd} (h:GP w s l) (hd:d1.P w) (hr:jJ 9 w t (m.flatMap Nd.c)) (hm:∀d∈m,d∈l\/d=d1):GP w t m:=
 ⟨hr,λd QV=>(hm d QV).elim (h.2 d) λe=>e▸hd⟩
theorem IG {w:World} {all:Sl} {gs:List (Sl×List Nd)} (h:Rd w all (gs.map λp=>p.1.v)) {i:Nat} {g:Sl×List Nd} (hi:gs[i]? =some g) {K:Addr->Prop} (hk:∀p,w.cell? (p.add (Int.toNat (i:Int) *1))=some g.1.v->K p):(0:Int)<=(i:Int)/\(i:Int)<((all.n:Nat):Int)/\aX all.a K:=by
 have hl:=(nP.1 hi).1
 have hn:=h.1
 rw [List.length_map] at hn
 exact ⟨by omega,by omega,Rd.get h (i:=i) (v:=g.1.v) (by simp [hi]) (by omega) λp _ hc=>hk p hc⟩
theorem Ii {d:Nd}:∀u∈d.c,u.oneCell'=true:=by simp [Nd.c,Value.oneCell']
def uA:Nd:=⟨⟨0,[],0,0,0,ByteArray.mk #[],ow⟩,⟨none,0,0⟩⟩
theorem Xg:∀n:Nat,(madeCells (Value.agg #[.int .i64 0,.slice none 0 0,.int .i64 0,.int .i64 0,.int .u64 0,.string (ByteArray.mk #[]),.int .i64 0,.int .i64 0,.int .i64 0]).cells (n *9)).toList=(List.replicate n uA).flatMap Nd.c:=by
 intro n
 have hc:(Value.agg #[.int .i64 0,.slice none 0 0,.int .i64 0,.int .i64 0,.int .u64 0,.string (ByteArray.mk #[]),.int .i64 0,.int .i64 0,.int .i64 0]).cells=(uA.c).toArray:=by kernel_rfl
 rw [hc]
 apply List.ext_getElem?
 intro i
 have hz:uA.c.length=9:=rfl
 rcases Nat.lt_or_ge i (n *9) with h|h
 .have lC:i%9<9:=Nat.mod_lt _ (by omega)
  have e:=vd Nd.c 9 Nd.uP (List.replicate n uA) (i / 9) (i%9) uA (by rw [List.getElem?_replicate,if_pos (by omega)]) lC
  rw [show i / 9 *9+i%9=i by omega] at e
  rw [e]
  have h9:uA.c.toArray.size=9:=rfl
  simp only [madeCells,Array.toList_map,Array.toList_range,qgM,List.getElem?_range h,Option.map_some,h9]
  rw [g7 (by rw [hz];exact lC)]
  rw [getElem!_pos _ _ (by rw [h9];exact lC)]
  rfl
 .rw [List.getElem?_eq_none (by simp [madeCells];omega),List.getElem?_eq_none (by rw [Nd.gH,List.length_replicate];exact h)]
theorem Qj {w0:World} {all:Sl} {gs:List (Sl×List Nd)} (h5:gs.length=5) (hg:∀p∈gs,p.2.length<=1000/\∀d∈p.2,Kq 10 d.x):∀(m i:Nat) (w:World),i+m=5->LH F0 w0 w [] ([qc,.rd all (gs.map λp=>p.1.v)]++gs.map λp=>.gr p.1 p.2)->
  enthymemelaw07_TermValid.L1 all (i:Int) w λr w'=>r=.returned (.bool true)/\bF w0 w':=by
 intro m
 induction m with
 |zero=>
  intro i w hi H
  refine enthymemelaw07_TermValid.lE _ _ _ _ (aM (decide_eq_false (by omega)) ?_)
  obtain ⟨w1,r1,r2,r3⟩:=Bj (t:=aG) gR w 4097 (by omega)
  rw [Xg] at r2
  have H1:=H.ot r3
  refine ⟨⟨some (bD w.heap.size),4097,4097⟩,w1,r1,H1.call (CF (l:=List.replicate 4097 uA) ⟨r2.iQ,λd hd=>?_⟩ (H1.getD 0) (λh=>by rw [List.length_replicate] at h;omega)) ?_⟩
  .rw [List.eq_of_mem_replicate hd]
   exact Rd.nil w1
  .rintro _ w2 rfl H2
   refine ⟨_,rfl,aJ (λ_=>H2.call (On w2 (H2.getD 0)) ?_) (λh=>absurd ?_ h)⟩
   .rintro _ w3 rfl H3
    exact ⟨_,rfl,rfl,H3.fr⟩
   .unfold xf
    rw [if_pos (by simp [xs])]
 |succ m ih=>
  intro i w hi H
  have ga:gs[i]? =some (gs[i]'(by omega)):=g7 (by omega)
  generalize gs[i]'(by omega)=g at ga
  obtain ⟨h1,h2⟩:=hg g (dC ga)
  have G:∀{w1:World},LH F0 w0 w1 [] ([qc,.rd all (gs.map λp=>p.1.v)]++gs.map λp=>.gr p.1 p.2)->GP w1 g.1 g.2:=λH1=>cQ.1 (H1.rd (.gr g.1 g.2) (List.mem_append_right _ (o8.2 ⟨g,dC ga,rfl⟩)))
  have hT:g.2.length<=4096->∀d∈g.2,Hj d.x/\Ks d.x:=λ_ d hd=>⟨(h2 d hd).sp.tok (by omega),(h2 d hd).wd⟩
  have hN:g.2.length<=4096->∀d∈g.2,QD d.x:=λ_ d hd=>(h2 d hd).sp.nok (by omega)
  have hz:∀d∈xs g.2,(lS d).length<=1000000:=λd hd=>by
   obtain ⟨a,ha,rfl⟩:=o8.1 hd
   exact (h2 a ha).small (by omega)
  refine enthymemelaw07_TermValid.lE _ _ _ _ (aS (decide_eq_true (by omega)) (IG (H.getD 1) ga λp c=>⟨g.1,c,H.call (Lh (G H) hN (by omega)) ?_⟩))
  rintro _ w1 rfl H1
  refine ⟨_,rfl,IG (H1.getD 1) ga λp c=>⟨g.1,c,H1.call (EX (G H1) (H1.getD 0) hT hz) ?_⟩⟩
  rintro _ w2 ⟨t,rfl,_⟩ H2
  refine ⟨_,_,rfl,IG (H2.getD 1) ga λp c=>⟨g.1,c,H2.call (CF (G H2) (H2.getD 0) hT) ?_⟩⟩
  rintro _ w3 rfl H3
  have next:∀w4,LH F0 w0 w4 [] ([qc,.rd all (gs.map λp=>p.1.v)]++gs.map λp=>.gr p.1 p.2)->enthymemelaw07_TermValid.S3 all (i:Int) w4 λr w'=>r=.returned (.bool true)/\bF w0 w':=λw4 H4=>by
   show enthymemelaw07_TermValid.L1 _ _ _ _
   rw [aZ _ (by omega)]
   exact ih (i+1) w4 (by omega) H4
  refine ⟨_,rfl,eB (λh=>absurd rfl h) (λ_=>eB (λh=>absurd rfl h) (λ_=>eB (λhv=>IG (H3.getD 1) ga λp c=>⟨g.1,c,H3.call (Qe (G H3) (H3.getD 0) hT hz hv) ?_⟩) (λ_=>next w3 H3)))⟩
  rintro _ w4 rfl H4
  exact ⟨_,rfl,eB (λh=>absurd rfl h) (λ_=>next w4 H4)⟩
theorem termValid_walk (W:World) (hL:laidMetH Tryz.prog [("enthymeme/term.kidCounts",Rows.laid_enthymeme_term_kidCounts)] W) (ls:Sl) (kind at_ Re xZ:Int) (w0:ArgNums W ls) (w1:nO kind) (w2:nO at_) (w3:nO Re) (w4:nO xZ):
  Calls Tryz.prog kY #[ls.v,.i kind,.i at_,.i Re,.i xZ] W λr w'=>r=.returned (.bool true)/\bF W w':=by
 obtain ⟨Pq,OY,hnl,hnr⟩:=w0
 have hk:=Wq hL
 have H:LH F0 W W [] [.rd ls (Pq.map ia),qc]:=mf _ (by
  intro e he
  simp only [cU,qnM,or_false] at he
  rcases he with rfl|rfl
  .exact OY
  .exact hk)
 refine enthymemelaw07_TermValid.ok ls kind at_ Re xZ W _ (H.call (fG kind 3 W (by omega) w1) ?_)
 rintro _ v1 rfl H1
 refine ⟨_,rfl,H1.Dm (SK (H1.getD 0) hnr hnl (dF kind 3) 12 (by omega)) ?_⟩
 rintro _ v2 ⟨s,l,rfl,V4,V1,TC,G,F⟩ _ F2
 have H2:=F2.rd (.gr s l) (cQ.2 G) F
 have Rk:=qq G
 have nN:(xs l).length=l.length:=by simp [xs]
 have JA:=V4.gd (by omega)
 refine ⟨s,rfl,H2.call (fG at_ _ v2 (by omega) w2) ?_⟩
 have hra:=cI at_ ((s.n:Nat):Int) (by omega)
 generalize dF at_ ((s.n:Nat):Int)=z0 at hra
 obtain ⟨z,rfl⟩:∃z:Nat,z0=(z:Int):=⟨z0.toNat,by omega⟩
 obtain ⟨d0,h0⟩:∃d0,l[z]? =some d0:=⟨_,g7 (by omega)⟩
 have Zg:=dC h0
 have gd0:Kq 3 d0.x:=JA d0.x (o8.2 ⟨d0,Zg,rfl⟩)
 rintro _ v3 rfl H3
 refine ⟨_,rfl,H3.gZ (n:=0) (sz:=9) (cs:=[]) rfl (by decide) λv4 H4=>?_⟩
 have src:∀{w:World} {L:List En},LH F0 W w L [.rd ls (Pq.map ia),qc,.gr s l]->GP w s l:=λH=>cQ.1 (H.getD 2)
 refine H4.ap 0 gR (s:=⟨some (bD v3.heap.size),0,0⟩) (src:=s) rfl (src H4).1.2.2 (src H4).1.1 nC (by simp only;omega) λt1 v5 H5 A9 _=>?_
 have H5:LH F0 W v5 [.row aE 9 t1 (l.flatMap Nd.c)] [.rd ls (Pq.map ia),qc,.gr s l]:=H5
 refine jM (src H5) rfl h0 λp hp c=>⟨d0.x.op,d0.ks,d0.x.n,d0.x.m,d0.x.u,d0.x.tx,d0.x.st.k,d0.x.st.n,d0.x.st.x,c.c0,c.c1,c.c2,c.c3,c.c4,c.c5,c.c6,c.c7,c.c8,?_⟩
 refine H5.Dm (Jc ((src H5).2 d0 Zg) (gd0.q (by omega)) (by have:=gd0.sp.kl;omega) Re xZ w3 w4) ?_
 rintro _ v6 ⟨d1,rfl,gd1,P1,F1⟩ _ F6
 have H6:=F6.rd (fF d1) P1 F1
 simp only at A9
 refine ⟨d1.x.op,d1.ks,d1.x.n,d1.x.m,d1.x.u,d1.x.tx,d1.x.st.k,d1.x.st.n,d1.x.st.x,rfl,by omega,by omega,H6.aab 0 z rfl (by omega) λv7 H7=>H7.dr λv8 H8=>?_⟩
 have H8:LH F0 W v8 [.row aE 9 t1 ((l.set z d1).flatMap Nd.c)] [.rd ls (Pq.map ia),qc,.gr s l,fF d1]:=H8
 have e1:IntKind.wrap .i64 ((z:Int)+1)=((z+1:Nat):Int):=by rw [IntWalk.i64_in _ (by omega)];rfl
 rw [e1]
 have Mb:s.n<=s.c:=G.1.2.1
 refine ⟨by omega,by omega,by omega,by omega,H8.gZ (n:=0) (sz:=9) (cs:=[]) rfl (by decide) λv9 H9=>?_⟩
 have src:∀{w:World} {L:List En},LH F0 W w L [.rd ls (Pq.map ia),qc,.gr s l,fF d1]->GP w s l:=λH=>cQ.1 (H.getD 2)
 have g1:=B7 (src H9) z (by omega)
 refine H9.ap 1 gR (s:=⟨some (bD v8.heap.size),0,0⟩) (src:=uv 9 s 0 z) rfl g1.1.2.2 g1.1.1 nC (by simp only [uv];omega) λt2 v10 mg UP _=>?_
 have mg:LH F0 W v10 [.row aE 9 t1 ((l.set z d1).flatMap Nd.c),.row aE 9 t2 ((l.take z).flatMap Nd.c)] [.rd ls (Pq.map ia),qc,.gr s l,fF d1]:=mg
 have g2:=(src mg).1.sub (z+1) s.n (by omega) (Nat.le_refl _)
 have e2:((l.flatMap Nd.c).take (s.n *9)).drop ((z+1) *9)=(l.drop (z+1)).flatMap Nd.c:=by
  rw [List.take_of_length_le (by rw [Nd.gH];omega)]
  have e:l.flatMap Nd.c=(l.take (z+1)).flatMap Nd.c++(l.drop (z+1)).flatMap Nd.c:=by rw [<-qfA,List.take_append_drop]
  have hl:((l.take (z+1)).flatMap Nd.c).length=(z+1) *9:=by rw [Nd.gH,qlT,Nat.min_eq_left (by omega)]
  rw [e,<-hl,List.drop_left]
 rw [e2] at g2
 simp only [uv] at UP
 refine mg.ap 1 gR (s:=t2) (src:=uv 9 s (z+1) s.n) rfl g2.2.2 g2.1 nC (by simp only [uv];omega) λt3 v11 qn hn3 _=>qn.dr λXZ pV=>?_
 rw [<-qfA] at pV
 have pV:LH F0 W XZ [.row aE 9 t1 ((l.set z d1).flatMap Nd.c),.row aE 9 t3 ((l.take z++l.drop (z+1)).flatMap Nd.c)] [.rd ls (Pq.map ia),qc,.gr s l,fF d1]:=pV
 have fin:∀(L2:List En) (v:World) (t:Sl),LH F0 W v ([.row aE 9 t1 ((l.set z d1).flatMap Nd.c),.row aE 9 t3 ((l.take z++l.drop (z+1)).flatMap Nd.c)]++L2) [.rd ls (Pq.map ia),qc,.gr s l,fF d1]->aO v aE 9 t ((l++[d0]).flatMap Nd.c)->
   enthymemelaw07_TermValid.S0 s t1 t3 t v λr w'=>r=.returned (.bool true)/\bF W w':=by
  intro L2 v t Hv ho
  let gs:List (Sl×List Nd):=[(s,l),(t1,l.set z d1),(t3,l.take z++l.drop (z+1)),(t,l++[d0]),(⟨none,0,0⟩,[])]
  have f:bF v (v.alloc (.cells #[s.v,t1.v,t3.v,t.v,.slice none 0 0] aG)):=Fr.alloc _ _ _
  have Hw:=Hv.ot f
  have gw:=src Hw
  have Yd:d1.P (v.alloc (.cells #[s.v,t1.v,t3.v,t.v,.slice none 0 0] aG)):=Hw.getD 3
  have Xt:∀d∈l,Kq 10 d.x:=λd hd=>(JA d.x (o8.2 ⟨d,hd,rfl⟩)).le (by omega)
  have m1:∀d∈l.set z d1,d∈l\/d=d1:=λd hd=>List.mem_or_eq_of_mem_set hd
  have m2:∀d∈l.take z++l.drop (z+1),d∈l:=λd hd=>(List.mem_append.1 hd).elim List.mem_of_mem_take List.mem_of_mem_drop
  have m3:∀d∈l++[d0],d∈l:=λd hd=>(List.mem_append.1 hd).elim id λh=>by
   simp only [cU,qnM,or_false] at h
   exact h▸Zg
  have D:LH F0 W (v.alloc (.cells #[s.v,t1.v,t3.v,t.v,.slice none 0 0] aG)) [] ([qc,.rd ⟨some (bD v.heap.size),5,5⟩ (gs.map λp=>p.1.v)]++gs.map λp=>.gr p.1 p.2):=⟨Hw.fr,by simp,(by
   intro e he
   simp only [gs,List.map_cons,List.map_nil,List.cons_append,List.nil_append,cU,qnM,or_false] at he
   rcases he with rfl|rfl|rfl|rfl|rfl|rfl|rfl
   .exact Hw.getD 1
   .exact (Ow.made v aG [s.v,t1.v,t3.v,t.v,.slice none 0 0] 5 rfl (by omega)).rd
   .exact cQ.2 gw
   .exact cQ.2 (Ga gw Yd (Hw.get 0:aO _ _ _ _ _).iQ m1)
   .exact cQ.2 (Ga gw Yd (Hw.get 1:aO _ _ _ _ _).iQ λd hd=>.inl (m2 d hd))
   .exact cQ.2 (Ga gw Yd (ho.iQ.ot f) λd hd=>.inl (m3 d hd))
   .exact cQ.2 ⟨jJ.nil 9 _,by simp⟩),by simp,by simp,by simp⟩
  refine Qj (gs:=gs) rfl (λp hp=>?_) 5 0 _ rfl D
  simp only [gs,cU,qnM,or_false] at hp
  rcases hp with rfl|rfl|rfl|rfl|rfl
  .exact ⟨by simp only;omega,Xt⟩
  .exact ⟨by simp only [List.length_set];omega,λd hd=>(m1 d hd).elim (Xt d) λe=>e▸gd1.le (by omega)⟩
  .exact ⟨by simp only [qlA,qlT,List.length_drop];omega,λd hd=>Xt d (m2 d hd)⟩
  .exact ⟨by simp only [qlA,qlC,qlN];omega,λd hd=>Xt d (m3 d hd)⟩
  .exact ⟨by simp,by simp⟩
 refine jM (src pV) rfl h0 λq hq c=>⟨d0.x.op,d0.ks,d0.x.n,d0.x.m,d0.x.u,d0.x.tx,d0.x.st.k,d0.x.st.n,d0.x.st.x,c.c0,c.c1,c.c2,c.c3,c.c4,c.c5,c.c6,c.c7,c.c8,?_⟩
 have C:∀{w:World} {L:List En},LH F0 W w L [.rd ls (Pq.map ia),qc,.gr s l,fF d1]->Nd.od w q (Int.toNat (z:Int)) d0:=λH=>pJ (src H) h0 hq rfl
 refine ⟨?_,?_⟩
 .refine pV.gZ (n:=0) (sz:=9) (cs:=[]) rfl (by decide) λv13 rG=>?_
  have c:=C rG
  refine ⟨c.c0,c.c1,c.c2,c.c3,c.c4,c.c5,c.c6,c.c7,c.c8,?_,?_⟩
  .refine rG.ap 2 gR (s:=⟨some (bD XZ.heap.size),0,0⟩) (src:=s) rfl (src rG).1.2.2 (src rG).1.1 nC (by simp only;omega) λt4 v14 qD V6 _=>?_
   simp only at V6
   have c:=C qD
   refine ⟨c.c0,c.c1,c.c2,c.c3,c.c4,c.c5,c.c6,c.c7,c.c8,qD.Xn 2 gR rfl (λt5 v15 vS _ _=>?_) (by omega)⟩
   refine fin _ v15 t5 vS ?_
   rw [qfA]
   exact vS.get 2
  .refine rG.nw λv14 _ qD=>?_
   refine qD.ap 2 gR (s:=⟨some (bD XZ.heap.size),0,0⟩) (src:=s) rfl (src qD).1.2.2 (src qD).1.1 nC (by simp only;omega) λt4 v15 vS V6 _=>?_
   simp only at V6
   refine vS.ap 2 gR (s:=t4) (src:=⟨some (bD v13.heap.size),1,1⟩) (news:=d0.c) rfl (td (T:=aE) (n:=1) (sz:=9) (vS.ob 3) rfl).2.2 rfl Ii (by simp only;omega) λt5 v16 yl _ _=>?_
   refine fin _ v16 t5 yl ?_
   rw [qfA]
   exact yl.get 2
 .refine pV.nw λv13 _ rG=>rG.gZ (n:=0) (sz:=9) (cs:=[]) rfl (by decide) λv14 qD=>?_
  refine qD.ap 3 gR (s:=⟨some (bD v13.heap.size),0,0⟩) (src:=s) rfl (src qD).1.2.2 (src qD).1.1 nC (by simp only;omega) λt4 v15 vS V6 _=>?_
  simp only at V6
  refine vS.ap 3 gR (s:=t4) (src:=⟨some (bD XZ.heap.size),1,1⟩) (news:=d0.c) rfl (td (T:=aE) (n:=1) (sz:=9) (vS.ob 2) rfl).2.2 rfl Ii (by simp only;omega) λt5 v16 yl _ _=>?_
  refine fin _ v16 t5 yl ?_
  rw [qfA]
  exact yl.get 3
end Go.Proofs.YtcifihepfadgfaaGreatDoor
