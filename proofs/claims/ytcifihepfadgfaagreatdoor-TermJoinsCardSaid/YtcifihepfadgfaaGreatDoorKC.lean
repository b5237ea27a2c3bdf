import Derived.Test.YtcifihepfadgfaaGreatDoorE1
import Derived.Lib.LaidTab
import Derived.LaidByTextLater
import Derived.Test.YtcifihepfadgfaaGreatDoorRows
import Derived.Test.YtcifihepfadgfaaGreatDoorVB
import Derived.Test.YtcifihepfadgfaaGreatDoorT1
import Derived.Test.YtcifihepfadgfaaGreatDoorR3
import Derived.Test.YtcifihepfadgfaaGreatDoorTP
import Derived.Test.YtcifihepfadgfaaGreatDoorR1
import Derived.Test.YtcifihepfadgfaaGreatDoorTM
import Derived.Test.YtcifihepfadgfaaGreatDoorBK
set_option linter.unusedVariables false
set_option maxRecDepth 100000
set_option maxHeartbeats 1000000
namespace Go.Proofs.YtcifihepfadgfaaGreatDoor
open List renaming mem_append->fS,mem_cons->cS,not_mem_nil->fF,mem_of_getElem?->cR,getElem?_eq_getElem->g8,getElem?_eq_some_iff->ov,mem_append_right->uD,mem_flatMap->mI,mem_map->pX,length_append->qq,length_cons->GM,length_nil->JH,getElem?_append_left->Vu,append_assoc->AU,length_map->Yk,drop_eq_getElem_cons->sC,getElem?_map->Yj,all_eq_true->wD,append_nil->Cf,drop_of_length_le->sP
open Go Go.W
theorem XY {W:World} (h:laidMetH Tryz.prog [("enthymeme/term.kidCounts",Rows.laid_enthymeme_term_kidCounts)] W):pK.P W:=by
 rw [MakeChecks.laidMetH_plain _ _ _ (by kernel_rfl)] at h
 have ht:=Go.Lib.tabIs_of_head (k:=.i64) (zs:=XW) (g:=0) (t:=Lu) (e:=bP) (n:=35) (by kernel_rfl) (by kernel_rfl) (by kernel_rfl) (by kernel_rfl) (by kernel_rfl) (by kernel_rfl) h
 refine Oa rfl (Nat.le_refl _) (λh=>by cases h) (λi v hi=>⟨bD 0,rfl,?_⟩)
 have hl:i<XW.length:=by
  have:=(ov.1 hi).1
  simpa using this
 have hc:=ht.cell (g:=0) (by kernel_rfl) i hl
 rw [Yj,g8 hl] at hi
 rw [List.getD,g8 hl] at hc
 simp only [Option.map_some,Option.some.injEq] at hi
 rw [<-hi]
 rw [show (bD 0).add i=⟨0,i,none⟩ from WE 0 i]
 exact hc
def LM:Nx:=⟨0,[],0,0,0,ba [120],⟨0,8,0⟩⟩
def X0:Nx:=⟨4,[0],0,0,0,ba [],o4⟩
def Wo:Nx:=⟨4,[0],0,0,0,ba [],⟨0,8,0⟩⟩
def liC:Nx:=⟨20,[0,1],0,0,0,ba [],o4⟩
def liE:Nx:=⟨21,[0],8,0,0,ba [],o4⟩
theorem li1:eU [] LM=([LM],0,0):=by kernel_rfl
theorem li2:eU [LM] X0=([LM,Wo],1,0):=by kernel_rfl
theorem li3:eU [LM,Wo] X0=([LM,Wo],1,0):=by kernel_rfl
theorem li4:dI [LM,Wo] liC=(⟨0,16,0⟩,0):=by kernel_rfl
theorem li5:dI [LM,Wo] liE=(o4,5):=by kernel_rfl
theorem DP {d:Nx} (h1:d.kids.length<=2) (h2:0<=d.n/\d.n<=8) (h3:d.m=0) (h4:d.u=0) (h5:d.op≠33):LD d:=⟨by omega,⟨by omega,by omega⟩,⟨by omega,by omega⟩,by omega,λh=>absurd h h5⟩
theorem tX:LD LM:=DP (by decide) (by decide) rfl rfl (by decide)
theorem tN:LD X0:=DP (by decide) (by decide) rfl rfl (by decide)
theorem tC7:LD liC:=DP (by decide) (by decide) rfl rfl (by decide)
theorem tE:LD liE:=DP (by decide) (by decide) rfl rfl (by decide)
theorem rq {g:List Nx} (h:∀d∈g,bN d.st=true/\d.kids.length<=1) {l:List Nd} (hl:xs l=g):(∀e∈xs l,bN e.st=true)/\∀e∈l,e.x.kids.length<=1000000000:=by
 subst hl
 exact ⟨λe he=>(h e he).1,λe he=>by have:=(h e.x (pX.2 ⟨e,he,rfl⟩)).2;omega⟩
theorem IC {g:List Nx} {l:List Nd} (h:xs l=g):l.length=g.length:=by
 rw [<-h];simp [xs]
theorem Px (w:World) (hk:pK.P w):Calls Tryz.prog kg #[] w λr w'=>r=.returned (.bool true)/\bG w w':=by
 have H:LH F0 w w [] [pK]:=mu _ (by
  intro e he
  simp only [cS,fF,or_false] at he
  subst he
  exact hk)
 have G0:∀w:World,GP w ⟨none,0,0⟩ []:=λw=>⟨jU.nil 9 w,by simp⟩
 have s1:∀d∈([LM]:List Nx),bN d.st=true/\d.kids.length<=1:=by decide
 have s2:∀d∈([LM,Wo]:List Nx),bN d.st=true/\d.kids.length<=1:=by decide
 have q1:=OD (d:=⟨LM,⟨none,0,0⟩⟩) (G0 w) (Rd.nil w) hk tX (by decide) (by simp [xs]) (by simp)
 refine enthymemelaw07_lives.cU w _ (q1.mono ?_)
 rintro _ w1 ⟨⟨g1,rfl,⟨l1,x1,G1,F1⟩⟩,f1⟩
 rw [show xs []=([]:List Nx) from rfl,li1] at x1 ⊢
 have n1:=IC x1
 have H1:=H.nf (.gr g1 l1) f1 (cE.2 G1) (λb hb=>.inl ((F1 b hb).resolve_left λh=>by
  rcases rp.1 h with h|⟨d,hd,_⟩
  .cases h
  .cases hd))
 refine ⟨_,_,_,rfl,H1.bF λb1 w2 H2=>H2.aL λw3 H3=>H3.nw λw4 _ H4=>?_⟩
 have k0:cX w4 ⟨some (bD w3.heap.size),1,1⟩ [0]:=oP (T:=bP) (H4.ob 1) rfl
 have q2:=OD (d:=⟨X0,⟨some (bD w3.heap.size),1,1⟩⟩) (cE.1 (H4.getD 1)) k0 (H4.getD 0) tN (by rw [n1];decide) (rq s1 x1).1 (rq s1 x1).2
 refine nN (q2.mono ?_)
 rintro _ w5 ⟨⟨g2,rfl,⟨l2,x2,G2,F2⟩⟩,f5⟩
 rw [x1,li2] at x2 ⊢
 have n2:=IC x2
 have H5:=H4.nf (.gr g2 l2) f5 (cE.2 G2) (λb hb=>(F2 b hb).elim (λh=>.inr (.inr ⟨_,cR (i:=1) rfl,h⟩)) .inl)
 refine ⟨f5,_,_,_,rfl,H5.bF λb4 w6 H6=>H6.aL λw7 H7=>H7.nw λw8 _ H8=>?_⟩
 have k1:cX w8 ⟨some (bD w7.heap.size),1,1⟩ [0]:=oP (T:=bP) (H8.ob 3) rfl
 have q3:=OD (d:=⟨X0,⟨some (bD w7.heap.size),1,1⟩⟩) (cE.1 (H8.getD 2)) k1 (H8.getD 0) tN (by rw [n2];decide) (rq s2 x2).1 (rq s2 x2).2
 refine nN (q3.mono ?_)
 rintro _ w9 ⟨⟨g3,rfl,⟨l3,x3,G3,F3⟩⟩,f9⟩
 rw [x2,li3] at x3 ⊢
 have n3:=IC x3
 have H9:=H8.nf (.gr g3 l3) f9 (cE.2 G3) (λb hb=>(F3 b hb).elim (λh=>.inr (.inr ⟨_,cR (i:=2) rfl,h⟩)) .inl)
 have hn3:=oT G3
 refine ⟨f9,_,_,_,rfl,H9.bF λb7 pE mJ=>aI rfl (aI rfl (aI rfl (aI rfl (aI rfl (dX (λie=>absurd (by rw [hn3,n3];rfl) ie) (λ_=>mJ.aL λsj qR=>qR.nw λrI _ qS=>?_))))))⟩
 have k2:cX rI ⟨some (bD sj.heap.size),2,2⟩ [0,1]:=oP (T:=bP) (qS.ob 5) rfl
 have q4:=wK (d:=⟨liC,⟨some (bD sj.heap.size),2,2⟩⟩) (cE.1 (qS.getD 3)) k2 (qS.getD 0) tC7 (by rw [n3];decide) (rq s2 x3).1
 refine qS.aK q4 ?_
 rintro _ uI rfl uu
 rw [x3,li4]
 refine ⟨_,_,_,_,rfl,uu.bF λpH D3 vp=>vp.aL λLy xZ=>xZ.nw λLR _ GD=>?_⟩
 have k3:cX LR ⟨some (bD Ly.heap.size),1,1⟩ [0]:=oP (T:=bP) (GD.ob 7) rfl
 have q5:=wK (d:=⟨liE,⟨some (bD Ly.heap.size),1,1⟩⟩) (cE.1 (GD.getD 3)) k3 (GD.getD 0) tE (by rw [n3];decide) (rq s2 x3).1
 refine GD.aK q5 ?_
 rintro _ TQ rfl RV
 rw [x3,li5]
 exact ⟨_,_,_,_,rfl,RV.bF λb12 Zw V6=>aQ rfl (aQ rfl (V6.aL λw23 H23=>⟨rfl,H23.fr⟩))⟩
theorem FG (c:UInt8):xK c=O5 c:=by
 unfold xK O5
 rw [Bool.and_assoc,Bool.and_assoc]
 rfl
theorem F9 (c:UInt8):nv c=uq c:=rfl
theorem WG:(List.range 256).all (λn=>Ph .u8 (n:Int) 15==((n%16:Nat):Int))=true:=by kernel_rfl
theorem Nn {n:Nat} (h:n<16):(ByteArray.mk #[48,49,50,51,52,53,54,55,56,57,97,98,99,100,101,102])[n]? =some (sJ n):=by
 have:n=0\/n=1\/n=2\/n=3\/n=4\/n=5\/n=6\/n=7\/n=8\/n=9\/n=10\/n=11\/n=12\/n=13\/n=14\/n=15:=by omega
 rcases this with rfl|rfl|rfl|rfl|rfl|rfl|rfl|rfl|rfl|rfl|rfl|rfl|rfl|rfl|rfl|rfl<;>rfl
theorem ve (c:UInt8) (w:World):Calls Tryz.prog jQ #[.int .u8 (c.toNat:Int)] w λr w'=>r=.returned (.string (ba (dR c)))/\bG w w':=by
 have hc:=c.toNat_lt
 have H:LH F0 w w [] []:=mu [] (by simp)
 refine regex_byteText.ok _ w _ (H.call (IV c w) ?_)
 rintro _ w1 rfl H1
 refine ⟨_,rfl,bA (λhp=>?_) (λhp=>?_)⟩
 .rw [FG] at hp
  refine H1.Zj (λw2 _ H2 hb=>?_)
  have hB:Bytes w2 ⟨some (bD w1.heap.size),3,3⟩ [39,c,39]:=xd (T:=dF) hb rfl
  refine ⟨ba [39,c,39],rh hB,?_,H2.fr⟩
  unfold dR;rw [if_pos hp]
 .rw [FG] at hp
  have e2:Int.fdiv (c.toNat:Int) (2^(4))=((c.toNat / 16:Nat):Int):=by
   rw [Int.fdiv_eq_ediv_of_nonneg _ (by decide)];omega
  have e3:Ph .u8 (c.toNat:Int) 15=((c.toNat%16:Nat):Int):=eq_of_beq (wD.1 WG c.toNat (List.mem_range.2 hc))
  refine H1.dr λw3 H3=>?_
  rw [e2,e3]
  refine ⟨by omega,_,Nn (by omega),by omega,_,Nn (by omega),H3.Zj (λw4 _ H4 hb=>?_)⟩
  have hB:Bytes w4 ⟨some (bD w3.heap.size),4,4⟩ [92,120,sJ (c.toNat / 16),sJ (c.toNat%16)]:=xd (T:=dF) hb rfl
  refine ⟨ba [92,120,sJ (c.toNat / 16),sJ (c.toNat%16)],rh hB,?_,H4.fr⟩
  unfold dR;rw [if_neg (by rw [hp];simp)]
abbrev LS (n:Nat):Prop:=∀(x:Rt) (w:World),x.sz<=n->okW x.rx=true->x.P w->Calls Tryz.prog rW #[x.v] w λr w'=>r=.returned (.tuple #[.string (ba (gU x.rx)),.i (cL x.rx:Int)])/\bG w w'
theorem JD {n:Nat} (hn:n<=1000000) (hb:LS n) (x:Rt) (lv:Nat) (w:World) (h:x.sz<=n) (SC:lv<=1000) (dP:okW x.rx=true) (px:x.P w):Calls Tryz.prog im #[x.v,.i (lv:Int)] w λr w'=>r=.returned (.string (ba (cP lv x.rx (gU x.rx))))/\bG w w':=by
 refine regex_text.cU _ _ _ _ _ w _ ((zV px).bF λb2 w1 H1=>H1.aK (hb x w1 h dP (H1.getD 0)) ?_)
 rintro _ w2 rfl H2
 have qA:(gU x.rx).length<=18000000:=by have:=AQ x.rx;rw [Rt.ib] at this;omega
 have e:ByteArray.mk #[40]++ba (gU x.rx)++ByteArray.mk #[41]=ba (40::(gU x.rx++[41])):=by
  show ba [40]++ba (gU x.rx)++ba [41]=_
  rw [eB,eB];simp
 refine ⟨_,_,rfl,aN (λlV=>⟨?_,?_,?_,H2.fr⟩) (λlV=>⟨?_,H2.fr⟩)⟩
 .rw [cD];show ¬(((1+_:Nat):Int)>9223372036854775807);omega
 .have:(ByteArray.mk #[40]++ba (gU x.rx)).size=1+(gU x.rx).length:=by
   show (ba [40]++_).size=_
   rw [eB,cD];simp;omega
  rw [this];show ¬(((_+1:Nat):Int)>9223372036854775807);omega
 .rw [e];unfold cP;rw [if_pos (by omega)]
 .unfold cP;rw [if_neg (by omega)]
theorem JB:∀n:Nat,n<=1000000->LS n
 |0,_=>λx w h _ _=>absurd h (by have:=Rt.pD x;omega)
 |n+1,hn=>by
  have ih:=JB n (by omega)
  intro x w h dP px
  have hs:=Rt.gE x
  have hl:=Rt.fG x.l
  have nr:=Rt.b0 px.parts.1
  have EY:=dP
  rw [Rt.dE] at EY
  obtain ⟨k0,k7,Dj,sQ⟩:=tZ EY
  have zJ:(Rt.bV x.l).length=x.l.length:=by rw [Rt.fC,Yk]
  rw [zJ] at Dj
  have xr:∀a∈x.l,okW a.rx=true:=λa ha=>wx sQ (by rw [Rt.fC];exact pX.2 ⟨a,ha,rfl⟩)
  have SH:∀(a:Rt) (lv:Nat),a.sz<=1000000->(cP lv a.rx (gU a.rx)).length<=18000002:=λa lv ha=>by have h1:=AQ a.rx;rw [Rt.ib] at h1;have:=(oF lv a.rx (gU a.rx)).1;omega
  have zH:∀c,(dR c).length<=4:=λc=>by unfold dR;split<;>simp
  let R:aD:=λr w'=>r=.returned (.tuple #[.string (ba (gU x.rx)),.i (cL x.rx:Int)])/\bG w w'
  have one:∀(a:Rt) (NK:Nat) (w1:World) (L:List En) (bs:List Nat) (K:ByteArray->World->Prop),NK<=1000->a∈x.l->LH F0 w w1 L [.tree x]->(∀w2,LH F0 w w2 L [.tree x]->K (ba (cP NK a.rx (gU a.rx))) w2)->qj bs im #[.agg #[.i a.k,.int .u8 (a.lo.toNat:Int),.int .u8 (a.hi.toNat:Int),a.s.v],.i (NK:Int)] w1 K:=by
   intro a NK w1 L bs K UZ ha H1 hK
   have DN:=Rt.dQ ha
   refine H1.aK (JD (by omega) ih a NK w1 (by omega) UZ (xr a ha) ((show x.P w1 from H1.getD 0).parts.2.mem ha)) ?_
   rintro _ w2 rfl H2
   exact ⟨_,rfl,hK w2 H2⟩
  have Hp:gU x.rx=gU (.mk x.k x.lo x.hi (Rt.bV x.l)):=by rw [Rt.dE]
  have ebd:cL x.rx=if x.k=6 then 3 else if x.k<3\/x.k=7\/x.l.length<2 then 4 else if x.k=3 then 2 else if x.k=4 then 0 else 1:=by
   rw [Rt.dE];unfold cL;dsimp only;rw [zJ]
  have b4:(x.k<3\/x.k=7\/x.l.length<2)->x.k≠6->(4:Int)=(cL x.rx:Int):=λh1 h2=>by rw [ebd,if_neg h2,if_pos h1];rfl
  refine regex_bare.cU _ _ _ _ w _ ((zV px).bF λb1 w1 H1=>?_)
  have H1:LH F0 w w1 [.g b1] [.tree x]:=H1
  refine aJ (λhk=>⟨?_,H1.fr⟩) (λyV=>aJ (λhk=>⟨?_,H1.fr⟩) (λDi=>aJ (λsM=>?_) (λsM=>aJ (λDX=>?_) (λDX=>aJ (λLI=>?_) (λLI=>?_)))))
  .rw [<-b4 (.inl (by omega)) (by omega),Hp];unfold gU;rw [if_pos hk];rfl
  .rw [<-b4 (.inl (by omega)) (by omega),Hp];unfold gU;rw [if_neg yV,if_pos hk];rfl
  .have e2:gU x.rx=if x.lo=x.hi then dR x.lo else 91::(dR x.lo++45::(dR x.hi++[93])):=by
    rw [Hp];unfold gU;rw [if_neg yV,if_neg Di,if_pos sM]
   rw [<-b4 (.inl (by omega)) (by omega)]
   refine aJ (λLJ=>H1.aK (ve x.lo w1) ?_) (λLJ=>H1.aL λw5 H5=>H5.aK (ve x.lo w5) ?_)
   .rintro _ w3 rfl H3
    exact ⟨_,rfl,by rw [e2,if_pos (UInt8.toNat_inj.1 (by omega))],H3.fr⟩
   .rintro _ w6 rfl H6
    have h1:=zH x.lo
    have h2:=zH x.hi
    have s0:ByteArray.mk #[91]++ba (dR x.lo)++ByteArray.mk #[45]=ba (91::dR x.lo++[45]):=by
     show ba [91]++ba (dR x.lo)++ba [45]=_
     rw [eB,eB];rfl
    refine ⟨_,rfl,?_,?_,H6.aK (ve x.hi w6) ?_⟩
    .rw [cD];show ¬(((1+_:Nat):Int)>9223372036854775807);omega
    .have:(ByteArray.mk #[91]++ba (dR x.lo)).size=1+(dR x.lo).length:=by
      show (ba [91]++_).size=_
      rw [eB,cD];simp;omega
     rw [this];show ¬(((_+1:Nat):Int)>9223372036854775807);omega
    rintro _ w7 rfl H7
    rw [s0]
    have:ba (91::dR x.lo++[45]++dR x.hi)++ByteArray.mk #[93]=ba (91::dR x.lo++[45]++dR x.hi++[93]):=by
     show _++ba [93]=_
     rw [eB]
    refine ⟨_,rfl,?_,?_,?_,H7.fr⟩
    .rw [cD,cD];simp only [qq,GM,JH];show ¬(((_:Nat):Int)>9223372036854775807);omega
    .rw [eB,cD];simp only [qq,GM,JH];show ¬(((_+1:Nat):Int)>9223372036854775807);omega
    .rw [eB,this,e2,if_neg (λh=>LJ (by rw [h]))]
     simp
  .have h1:=Dj (.inl DX)
   have e6:gU x.rx=33::uZ (jr 3 (Rt.bV x.l)):=by
    rw [Hp];unfold gU;rw [if_neg yV,if_neg Di,if_neg sM,if_pos DX]
   have e3:(3:Int)=(cL x.rx:Int):=by rw [ebd,if_pos DX];rfl
   match nT:x.l,h1 with
   |[a],_=>
    have ha:a∈x.l:=by rw [nT];simp
    have DN:=Rt.dQ ha
    refine jE (show x.P w1 from H1.getD 0) (k:=0) rfl (by rw [nT];rfl) (one a 3 w1 _ _ _ (by omega) ha H1 λw3 H3=>⟨?_,?_,H3.fr⟩)
    .have:=SH a 3 (by omega)
     rw [cD];show ¬(((1+_:Nat):Int)>9223372036854775807);omega
    .have:ByteArray.mk #[33]++ba (cP 3 a.rx (gU a.rx))=ba (33::cP 3 a.rx (gU a.rx)):=by
      show ba [33]++_=_
      rw [eB];rfl
     rw [this,e6,nT,<-e3]
     rfl
  .have h1:=Dj (.inr LI)
   have e7:gU x.rx=uZ (jr 4 (Rt.bV x.l))++[42]:=by
    rw [Hp];unfold gU;rw [if_neg yV,if_neg Di,if_neg sM,if_neg DX,if_pos LI]
   match nT:x.l,h1 with
   |[a],_=>
    have ha:a∈x.l:=by rw [nT];simp
    have DN:=Rt.dQ ha
    refine jE (show x.P w1 from H1.getD 0) (k:=0) rfl (by rw [nT];rfl) (one a 4 w1 _ _ _ (by omega) ha H1 λw3 H3=>⟨?_,?_,H3.fr⟩)
    .have:=SH a 4 (by omega)
     rw [cD];show ¬(((_+1:Nat):Int)>9223372036854775807);omega
    .have:ba (cP 4 a.rx (gU a.rx))++ByteArray.mk #[42]=ba (cP 4 a.rx (gU a.rx)++[42]):=by
      show _++ba [42]=_
      rw [eB]
     rw [this,e7,nT,<-b4 (.inr (.inl LI)) DX]
     rfl
  have hk:x.k=3\/x.k=4\/x.k=5:=by omega
  have S1:∀(word sign:BL) (level:Nat),word.length=3->z9 x.k=word++[40]->lU x.k=sign->level<=2->(2<=x.l.length->cL x.rx=level)->regex_bare.gm b1 x.k x.lo.toNat x.hi.toNat x.s (ba word) (ba sign) (level:Int) w1 R:=by
   intro word sign level hw O0 hsg SC YZ
   have ef:x.l.length<2->gU x.rx=z9 x.k++(uZ (jr 0 (Rt.bV x.l))++[41]):=λh=>by
    rw [Hp];unfold gU;rw [if_neg yV,if_neg Di,if_neg sM,if_neg DX,if_neg LI,if_pos (by rw [zJ];omega)]
   refine aJ (λh0=>?_) (λh0=>aJ (λh1=>?_) (λh1=>?_))
   .have hx:x.l=[]:=List.length_eq_zero_iff.1 (by omega)
    refine ⟨?_,?_,H1.fr⟩
    .rw [cD];show ¬(((_+2:Nat):Int)>9223372036854775807);omega
    .have:ba word++ByteArray.mk #[40,41]=ba (word++[40,41]):=by
      show _++ba [40,41]=_
      rw [eB]
     rw [this,<-b4 (.inr (.inr (by omega))) DX,ef (by omega),O0,hx]
     simp [Rt.bV,jr,uZ]
   .match nT:x.l with
    |[]=>rw [nT] at nr;simp at nr;omega
    |_::_::_=>rw [nT] at nr;simp at nr;omega
    |[a]=>
     have ha:a∈x.l:=by rw [nT];simp
     have DN:=Rt.dQ ha
     have hp:=SH a 0 (by omega)
     refine ⟨?_,jE (show x.P w1 from H1.getD 0) (k:=0) rfl (by rw [nT];rfl) (one a 0 w1 _ _ _ (by omega) ha H1 λw3 H3=>⟨?_,?_,?_,H3.fr⟩)⟩
     .rw [cD];show ¬(((_+1:Nat):Int)>9223372036854775807);omega
     .have:ba word++ByteArray.mk #[40]=ba (word++[40]):=by
       show _++ba [40]=_
       rw [eB]
      rw [this,cD,cD];simp only [qq,GM,JH];show ¬(((_:Nat):Int)>9223372036854775807);omega
     .have:ba word++ByteArray.mk #[40]++ba (cP 0 a.rx (gU a.rx))=ba (word++[40]++cP 0 a.rx (gU a.rx)):=by
       show _++ba [40]++_=_
       rw [eB,eB]
      rw [this,cD];simp only [qq,GM,JH];show ¬(((_+1:Nat):Int)>9223372036854775807);omega
     .have:ba word++ByteArray.mk #[40]++ba (cP 0 a.rx (gU a.rx))++ByteArray.mk #[41]=ba (word++[40]++cP 0 a.rx (gU a.rx)++[41]):=by
       show _++ba [40]++_++ba [41]=_
       rw [eB,eB,eB]
      rw [this,<-b4 (.inr (.inr (by rw [nT];simp))) DX,ef (by rw [nT];simp),O0,nT]
      simp [Rt.bV,jr,uZ]
   .have h2:2<=x.l.length:=by omega
    have YZ:=YZ h2
    have ej:gU x.rx=Qr x.k (jr (level+1) (Rt.bV x.l)):=by
     conv=>lhs;rw [Hp];unfold gU;rw [if_neg yV,if_neg Di,if_neg sM,if_neg DX,if_neg LI,if_neg (by rw [zJ];omega)]
     rw [<-Rt.dE,YZ]
    have sgl:sign.length<=1:=by rw [<-hsg];unfold lU;split<;>(try split)<;>simp
    have loop:∀(d i:Nat) (out:BL) (w3:World),i+d=x.l.length->(1<=i->0<out.length)->(i=0->out=[])->out.length+qE (jr (level+1) (Rt.bV (x.l.drop i)))<=40000000->gU x.rx=(if i=0 then Qr x.k (jr (level+1) (Rt.bV (x.l.drop i))) else mr x.k out (jr (level+1) (Rt.bV (x.l.drop i))))->LH F0 w w3 [.g b1] [.tree x]->
      regex_bare.WB b1 x.k x.lo.toNat x.hi.toNat x.s (ba sign) (level:Int) (ba out) x.s ((x.s.n:Nat):Int) (i:Int) w3 R:=by
     intro d
     induction d with
     |zero=>
      intro i out w3 hi HL hz Dm he H3
      refine regex_bare.D6 _ _ _ _ _ _ _ _ _ _ _ _ _ (aI (decide_eq_false (by omega)) ⟨?_,H3.fr⟩)
      rw [he,sP (by omega),if_neg (by omega),YZ]
      rfl
     |succ d qz=>
      intro i out w3 hi HL hz Dm he H3
      have hg:x.l[i]? =some (x.l[i]'(by omega)):=g8 (by omega)
      have yU:x.l.drop i=(x.l[i]'(by omega))::x.l.drop (i+1):=sC (by omega)
      generalize x.l[i]'(by omega)=c at hg yU
      have hc:=cR hg
      have szc:=Rt.dQ hc
      rw [yU] at he Dm
      have Dm:out.length+((cP (level+1) c.rx (gU c.rx)).length+2+qE (jr (level+1) (Rt.bV (x.l.drop (i+1)))))<=40000000:=by
       have:qE (jr (level+1) (Rt.bV (c::x.l.drop (i+1))))=(cP (level+1) c.rx (gU c.rx)).length+2+qE (jr (level+1) (Rt.bV (x.l.drop (i+1)))):=by
        simp [Rt.bV,jr,qE]
       omega
      have hcp:0<(cP (level+1) c.rx (gU c.rx)).length:=by
       have h1:=DV c.rx (xr c hc)
       have:=(oF (level+1) c.rx (gU c.rx)).2
       omega
      have W8:IntKind.wrap .i64 ((level:Int)+1)=((level+1:Nat):Int):=aX _ (by omega)
      have OX:i=0->gU x.rx=mr x.k (cP (level+1) c.rx (gU c.rx)) (jr (level+1) (Rt.bV (x.l.drop (i+1)))):=λh=>by
       rw [if_pos h] at he;rw [he];rfl
      have rK:i≠0->gU x.rx=mr x.k ((if x.k=3/\uq (qH out)=true/\uq (gQ (cP (level+1) c.rx (gU c.rx)) 0)=true then out++[32] else out)++lU x.k++cP (level+1) c.rx (gU c.rx)) (jr (level+1) (Rt.bV (x.l.drop (i+1)))):=λh=>by
       rw [if_neg h] at he;rw [he];rfl
      refine regex_bare.D6 _ _ _ _ _ _ _ _ _ _ _ _ _ (aQ (decide_eq_true (by omega)) (jE (show x.P w3 from H3.getD 0) rfl hg (H3.bF λb9 w4 H4=>H4.aL λw5 H5=>?_)))
      rw [W8]
      refine one c (level+1) w5 _ _ _ (by omega) hc H5 λw6 H6=>?_
      have H6:LH F0 w w6 [.g b1,.g b9] [.tree x]:=H6
      generalize cP (level+1) c.rx (gU c.rx)=t at OX rK Dm hcp
      have go:∀(o:BL) (w7:World),o.length<=out.length+1->out.length<=o.length->gU x.rx=mr x.k (o++t) (jr (level+1) (Rt.bV (x.l.drop (i+1))))->LH F0 w w7 [.g b1,.g b9] [.tree x]->regex_bare.ic b1 x.k x.lo.toNat x.hi.toNat x.s (ba sign) (level:Int) (ba o) (ba t) x.s ((x.s.n:Nat):Int) (i:Int) w7 R:=by
       intro o w7 h1 h2 h3 H7
       refine ⟨?_,?_⟩
       .rw [cD,cD];show ¬(((_:Nat):Int)>9223372036854775807);omega
       .rw [eB,aX _ (by omega)]
        refine qz (i+1) (o++t) w7 (by omega) (λ_=>by simp only [qq];omega) (λh=>by omega) (by simp only [qq];omega) (by rw [if_neg (by omega)];exact h3) (H7.take 1)
      refine aN (λXw=>⟨?_,?_⟩) (λXw=>go out w6 (by omega) (Nat.le_refl _) (by rw [hz (by omega)];exact OX (by omega)) H6)
      .rw [cD,cD];show ¬(((_:Nat):Int)>9223372036854775807);omega
      have rK:=rK (by omega)
      have HL:=HL (by omega)
      rw [hsg] at rK
      have ea:ba out++ba sign=ba (out++sign):=eB _ _
      have qN:∀w7,LH F0 w w7 [.g b1,.g b9] [.tree x]->¬(x.k=3/\uq (qH out)=true/\uq (gQ t 0)=true)->regex_bare.ic b1 x.k x.lo.toNat x.hi.toNat x.s (ba sign) (level:Int) (ba (out++sign)) (ba t) x.s ((x.s.n:Nat):Int) (i:Int) w7 R:=λw7 H7 tj=>go (out++sign) w7 (by simp only [qq];omega) (by simp only [qq];omega) (by rw [if_neg tj] at rK;exact rK) H7
      rw [ea]
      refine aJ (λHH=>?_) (λHH=>qN w6 H6 (λh=>HH h.1))
      have s3:sign=[]:=by rw [<-hsg];unfold lU;rw [if_pos HH]
      have e9:out++sign=out:=by rw [s3,Cf]
      rw [e9] at qN ⊢
      have eo:IntKind.wrap .i64 ((((ba out).size:Nat):Int) - 1)=((out.length - 1:Nat):Int):=by rw [cD,IntWalk.i64_in _ (by omega)];omega
      rw [eo]
      refine ⟨by omega,qH out,?_,H6.aK (yQ (qH out) w6) ?_⟩
      .rw [Int.toNat_natCast,k8 (s:=ba out) (by rw [cD];omega),zd,Jp out HL]
      rintro _ w7 rfl H7
      refine ⟨_,rfl,bA (λsN=>⟨by omega,gQ t 0,?_,H7.aK (yQ (gQ t 0) w7) ?_⟩) (λsN=>qN w7 H7 (λh=>by rw [F9,h.2.1] at sN;cases sN))⟩
      .rw [show Int.toNat 0=0 from rfl,k8 (s:=ba t) (by rw [cD];omega),zd]
      rintro _ w8 rfl H8
      refine ⟨_,rfl,bA (λlV=>⟨?_,?_⟩) (λlV=>qN w8 H8 (λh=>by rw [F9,h.2.2] at lV;cases lV))⟩
      .rw [cD];show ¬(((_+1:Nat):Int)>9223372036854775807);omega
      .have e32:ba out++ByteArray.mk #[32]=ba (out++[32]):=by
        show _++ba [32]=_
        rw [eB]
       rw [e32]
       refine go (out++[32]) w8 (by simp) (by simp) ?_ H8
       rw [if_pos ⟨HH,sN,lV⟩,s3,Cf] at rK
       exact rK
    have h3:=su (level+1) (Rt.bV x.l)
    have h4:Rx.fQ (Rt.bV x.l)=Rt.fQ x.l:=Rt.Ao x.l
    exact loop x.l.length 0 [] w1 (by omega) (λh=>by omega) (λ_=>rfl) (by rw [List.drop_zero];simp;omega) (by rw [if_pos rfl,List.drop_zero];exact ej) H1
  have bd:2<=x.l.length->cL x.rx=if x.k=3 then 2 else if x.k=4 then 0 else 1:=λh2=>by rw [ebd,if_neg DX,if_neg (by omega)]
  refine aJ (λh4=>S1 [97,108,116] [124] 0 rfl (by rw [h4];rfl) (by rw [h4];rfl) (by omega) (λh2=>by rw [bd h2,h4];rfl)) (λh4=>aJ (λh5=>S1 [97,108,108] [38] 1 rfl (by rw [h5];rfl) (by rw [h5];rfl) (by omega) (λh2=>by rw [bd h2,h5];rfl)) (λh5=>S1 [99,97,116] [] 2 rfl (by rw [show x.k=3 by omega];rfl) (by rw [show x.k=3 by omega];rfl) (by omega) (λh2=>by rw [bd h2,show x.k=3 by omega];rfl)))
theorem Vr (x:Rt) (lv:Nat) (w:World) (h:x.sz<=1000000) (SC:lv<=1000) (dP:okW x.rx=true) (px:x.P w):Calls Tryz.prog im #[x.v,.i (lv:Int)] w λr w'=>r=.returned (.string (ba (cP lv x.rx (gU x.rx))))/\bG w w':=JD (Nat.le_refl _) (JB 1000000 (Nat.le_refl _)) x lv w h SC dP px
theorem VB:wX 12:=by
 intro s l w h12 hl ho pl hd
 have nr:=Rt.b0 ho.iD
 refine slices_SortFunc_sl_regex_Regex_regex_Regex.ok _ w _ ((WM _ w).mono ?_)
 rintro _ w1 ⟨⟨t,rfl⟩,f⟩
 refine ⟨t,rfl,slices_pdqsortCmpFunc_regex_Regex.ok _ _ _ _ w1 _ (N4 hl (ho.fr f λ_ _ h=>h) (pl.pI f) hd [] l [] (by simp) h12 _ _ rfl (by simp [nr]) _ _ _ λw' h2 f2=>?_)⟩
 exact ⟨rfl,⟨jZ l,rfl,It l,Lj l,by simpa using h2⟩,f.of0.trans f2 λx _ h=>h⟩
theorem WL {a b:Nat} (h:¬a<b):Nat.blt a b=false:=by
 cases hc:Nat.blt a b with
 |false=>rfl
 |true=>rw [Nat.blt_eq] at hc;exact absurd hc h
mutual
theorem EL:∀x:Rx,dY x=true->okW x=true
 |.mk k lo hi l,h=>by
  unfold dY at h
  simp only [Bool.and_eq_true] at h
  have h2:=h.2
  have hl:gH l=true->Bh l=true:=BT l
  unfold okW
  split at h2
  .rename_i hk
   have:l=[]:=by simpa using h2
   subst this
   have hk:k=0\/k=1:=hk
   unfold Bh
   rcases hk with rfl|rfl<;>decide
  .split at h2
   .rename_i hk
    simp only [Bool.and_eq_true] at h2
    have:l=[]:=by simpa using h2.1
    subst this
    subst hk
    unfold Bh
    decide
   .split at h2
    .rename_i hk
     rw [hl h2]
     rcases hk with rfl|rfl|rfl<;>simp
    .split at h2
     .rename_i hk
      simp only [Bool.and_eq_true,beq_iff_eq] at h2
      rw [hl h2.2]
      rcases hk with rfl|rfl<;>simp [h2.1]
     .cases h2
theorem BT:∀l:List Rx,gH l=true->Bh l=true
 |[],_=>rfl
 |a::l,h=>by
  unfold gH at h
  unfold Bh
  simp only [Bool.and_eq_true] at h
  rw [EL a h.1,BT l h.2]
  rfl
end
def sB (t:BL):Bool:=bif Nat.blt 4096 t.length then false else match TN t with
 |.inl _=>false
 |.inr S=>bif Nat.blt 64 (iP S.tp).sz then false else
  if QN (iP S.tp)=0 then (if nB (Fw (iP S.tp))=0 then cP 0 (Fw (iP S.tp)) (gU (Fw (iP S.tp)))==t else false) else false
theorem Iz (s:ByteArray) (hf:∀S,TN (bl s)=.inr S->Db 12 (iP S.tp)) (w:World):Calls Tryz.prog mZ #[.string s] w λr w'=>r=.returned (.bool (sB (bl s)))/\bG w w':=by
 have hl:(bl s).length=s.size:=iS s
 have H:LH F0 w w [] []:=mu [] (by simp)
 refine term_isNormal.cU s w _ ((Pr s w).mono ?_)
 rintro r w1 ⟨f1,hr⟩
 have H1:=H.pI f1
 have no:∀(a e:Int),e≠0->sB (bl s)=false->r=.returned (.tuple #[.agg #[.int .i64 0,.int .u8 0,.int .u8 0,.slice none 0 0],.int .i64 a,.int .i64 e])->∃(t0 t1 t2:Int) (t3:Sl) (t4 t5:Int),r=.returned (.tuple #[.agg #[.i t0,.int .u8 t1,.int .u8 t2,t3.v],.i t4,.i t5])/\bE [] w1 λb3 w2=>aG (t5 !=0) (loc [b3] w2 λw6=>(Ending.returned (.bool false)=.returned (.bool (sB (bl s)))/\bG w w6)) (loc [b3] w2 λw6=>MJ [b3] nV #[.agg #[.i t0,.int .u8 t1,.int .u8 t2,t3.v]] w6 λRw Ry Rz RA Yy w7=>bE [b3] w7 λb6 w8=>
   aG (Yy !=0) (loc [b3,b6] w8 λrI=>(Ending.returned (.bool false)=.returned (.bool (sB (bl s)))/\bG w rI)) (loc [b3,b6] w8 λrI=>Uu [b3,b6] qZ #[.agg #[.i Rw,.int .u8 Ry,.int .u8 Rz,RA.v]] rI λYz YA uI=>aG (YA==0) (Ending.returned (.bool (Yz.toList==s.toList))=.returned (.bool (sB (bl s)))/\bG w uI) (Ending.returned (.bool false)=.returned (.bool (sB (bl s)))/\bG w uI))):=λa e he hn hr=>⟨0,0,0,⟨none,0,0⟩,a,e,hr,H1.bF λb3 w2 H2=>dX (λ_=>H2.aL λw3 H3=>⟨by rw [hn],H3.fr⟩) (λh=>absurd h he)⟩
 rcases hr with ⟨h1,h2⟩|⟨h1,res,l0,⟨a,rfl,h2⟩|⟨S',rfl,⟨h3,h2⟩|⟨h3,t,h2,ht,pt,ft⟩⟩⟩
 .refine no _ _ (by decide) ?_ h2
  unfold sB
  rw [show Nat.blt 4096 (bl s).length=true from by rw [Nat.blt_eq];omega]
  rfl
 all_goals have BV:Nat.blt 4096 (bl s).length=false:=WL (by omega)
 all_goals have KP:=VS l0
 .have KP:Sum.inl a=TN (bl s):=KP
  refine no _ _ (by decide) ?_ h2
  unfold sB
  rw [BV,<-KP]
  rfl
 .have KP:Sum.inr (xl S')=TN (bl s):=KP
  refine no _ _ (by decide) ?_ h2
  unfold sB
  rw [BV,<-KP]
  dsimp only [cond_false]
  rw [C',show Nat.blt 64 (iP S'.tp).sz=true from by rw [Nat.blt_eq];exact h3]
  rfl
 .have KP:Sum.inr (xl S')=TN (bl s):=KP
  have No:=hf _ KP.symm
  rw [C'] at No
  have XF:sB (bl s)=if QN (iP S'.tp)=0 then (if nB (Fw (iP S'.tp))=0 then cP 0 (Fw (iP S'.tp)) (gU (Fw (iP S'.tp)))==bl s else false) else false:=by
   unfold sB
   rw [BV,<-KP]
   dsimp only [cond_false]
   have:Nat.blt 64 (iP S'.tp).sz=false:=WL (by omega)
   rw [C',this]
   rfl
  generalize iP S'.tp=x at ht No XF h3
  have H1':=H.nf (.tree t) f1 pt (λb hb=>.inl (ft b (aH.1 hb)))
  have Tm:t.sz<=64:=by rw [<-Rt.ib,ht];exact h3
  refine ⟨_,_,_,t.s,_,_,h2,H1'.bF λb3 w2 H2=>dX (λh=>absurd rfl h) (λ_=>H2.aL λw3 H3=>?_)⟩
  refine H3.ri (Mo VB (by omega) t w3 (by omega) (by rw [ht];exact No) (H3.getD 0)) ?_
  rintro _ w4 ⟨u,rfl,hu,pu,fu⟩ _ F4
  rw [ht] at hu
  rw [ht]
  have H4:=F4.rd (.tree u) pu λb hb=>fu b (aH.1 hb)
  refine ⟨_,_,_,u.s,_,rfl,H4.bF λb6 w5 H5=>dX (λie=>H5.aL λw6 H6=>⟨by rw [XF,if_neg ie],H6.fr⟩) (λhe=>H5.aL λw6 H6=>?_)⟩
  rw [if_pos he] at XF
  have szu:u.sz<=1000000:=by
   rw [<-Rt.ib,hu]
   have:QN x=0:=he
   unfold QN at this
   unfold Fw
   split at this
   .rename_i hv
    rw [if_pos hv]
    unfold Fh at this
    unfold Fi
    split at this
    .cases this
    .rename_i GJ
     rw [if_neg GJ]
     omega
   .rename_i hv
    exact absurd this hv
  refine nN (regex_Print.cU _ _ _ _ w6 _ ((zV (H6.getD 1)).bF λb1 w7 H7=>H7.aK (IP u w7 szu (H7.getD 0)) ?_))
  rintro _ w8 rfl H8
  rw [hu]
  refine ⟨_,rfl,dX (λie=>⟨H8.fr,_,_,rfl,aJ (λh=>absurd h ie) (λ_=>⟨by rw [XF,if_neg ie],(H6.pI H8.fr).fr⟩)⟩) (λhv=>H8.aK (Vr u 0 w8 szu (by omega) ?_ (H8.getD 0)) ?_)⟩
  .exact EL _ (by rw [hu];exact (vo hv).1)
  .rintro _ w9 rfl H9
   refine ⟨_,rfl,H9.fr,_,_,rfl,aQ rfl ⟨?_,(H6.pI H9.fr).fr⟩⟩
   rw [XF,if_pos hv,hu]
   congr 2
   have:=Bx (cP 0 (Fw x) (gU (Fw x))) (bl s)
   rw [Bw] at this
   exact this
def Xf (t:BL):Bool:=match TN t with
 |.inr S=>Nat.ble (qX (iP S.tp)) 12
 |.inl _=>true
def MK (t:BL):Bool:=(match CV t with
 |some b=>sB t==b
 |none=>false)&&Xf t&&Nat.ble t.length 100
def s5 (i:Nat):Bool:=(List.range 108).all (λk=>MK (qQ (108 *i+k)))
theorem PN:s5 0=true:=by kernel_rfl
theorem PO:s5 1=true:=by kernel_rfl
theorem PQ:s5 2=true:=by kernel_rfl
theorem PR:s5 3=true:=by kernel_rfl
theorem PT:s5 4=true:=by kernel_rfl
theorem PU:s5 5=true:=by kernel_rfl
theorem PV:s5 6=true:=by kernel_rfl
theorem PW:s5 7=true:=by kernel_rfl
theorem PX:s5 8=true:=by kernel_rfl
theorem PY:s5 9=true:=by kernel_rfl
theorem Nb:s5 10=true:=by kernel_rfl
theorem Nc:s5 11=true:=by kernel_rfl
theorem Nf:s5 12=true:=by kernel_rfl
theorem Ng:s5 13=true:=by kernel_rfl
theorem Nh:s5 14=true:=by kernel_rfl
theorem Ni:s5 15=true:=by kernel_rfl
theorem UI:∀i,i<16->s5 i=true:=by
 intro i hi
 match i,hi with
 |0,_=>exact PN
 |1,_=>exact PO
 |2,_=>exact PQ
 |3,_=>exact PR
 |4,_=>exact PT
 |5,_=>exact PU
 |6,_=>exact PV
 |7,_=>exact PW
 |8,_=>exact PX
 |9,_=>exact PY
 |10,_=>exact Nb
 |11,_=>exact Nc
 |12,_=>exact Nf
 |13,_=>exact Ng
 |14,_=>exact Nh
 |15,_=>exact Ni
 |n+16,h=>exact absurd h (by omega)
theorem UH (k:Nat) (h:k<1728):MK (qQ k)=true:=by
 have h1:=UI (k / 108) (by omega)
 have h2:=wD.1 h1 (k%108) (List.mem_range.2 (Nat.mod_lt _ (by omega)))
 rwa [Nat.div_add_mod] at h2
def Xh:List BL:=[[],[97],[65],[115,101,118,101,110,116,101,101,110,45,108,101,116,116,101,114,115],[97,45,49],[45],[40],[122,122],[97,98],[98],[0],[97,97],[99],[100],[109],[110],[115],[116],[105],[122]]
theorem UC:Xh.all MK=true:=by kernel_rfl
def YS (t:ByteArray):Prop:=bl t∈Xh\/∃k,t=ba (qQ k)
theorem Vk {t:ByteArray} (h:YS t):MK (bl t)=true:=by
 rcases h with h|⟨k,rfl⟩
 .exact wD.1 UC _ h
 .rw [zd,xV]
  exact UH (k%1728) (Nat.mod_lt _ (by omega))
theorem SZ {t:ByteArray} (h:YS t):Mb t/\GX t/\t.size<=100:=by
 have hc:=Vk h
 unfold MK at hc
 simp only [Bool.and_eq_true] at hc
 obtain ⟨⟨h1,h2⟩,h3⟩:=hc
 have h3:=Nat.le_of_ble_eq_true h3
 rw [iS] at h3
 cases hq:CV (bl t) with
 |none=>rw [hq] at h1;cases h1
 |some b=>
  rw [hq] at h1
  have h1:=eq_of_beq h1
  have hx:Mb t:=⟨by omega,b,hq⟩
  refine ⟨hx,λw=>?_,h3⟩
  have aao:A0 t=b:=by
   have:=hx.can
   rw [hq] at this
   exact (Option.some.inj this).symm
  rw [aao,<-h1]
  refine Iz t (λS hS=>Hq _ ?_) w
  unfold Xf at h2
  rw [hS] at h2
  exact Nat.le_of_ble_eq_true h2
structure LB (c:Nat) (d:Nx):Prop where
 kl:d.kids.length<=c
 n:oo d.n
 m:oo d.m
 u:0<=d.u
 tx:d.op=33->YS d.tx
theorem yC.sp {d:Nx} (h:yC d):LB 3 d:=⟨h.kl,⟨by have:=h.n;omega,by have:=h.n;omega⟩,⟨by have:=h.m;omega,by have:=h.m;omega⟩,h.u.1,λoJ=>.inr (h.re oJ)⟩
theorem LB.le {c e:Nat} {d:Nx} (h:LB c d) (hc:c<=e):LB e d:=⟨by have:=h.kl;omega,h.n,h.m,h.u,h.tx⟩
theorem LB.nok {c:Nat} {d:Nx} (h:LB c d) (hc:c<=100):V7 d:=⟨by have:=h.kl;unfold lB;omega,h.n,h.m,λoJ=>(SZ (h.tx oJ)).1⟩
theorem LB.tok {c:Nat} {d:Nx} (h:LB c d) (hc:c<=100):LD d:=⟨by have:=h.kl;omega,h.n,h.m,h.u,λoJ=>(SZ (h.tx oJ)).2.1⟩
def spL (CN:Int):List Int:=[CN,-1,0,1,63,64,65,1099511627776]
def Ys:List ByteArray:=[ByteArray.mk #[],ByteArray.mk #[97],ByteArray.mk #[65],ByteArray.mk #[115,101,118,101,110,116,101,101,110,45,108,101,116,116,101,114,115],ByteArray.mk #[97,45,49],ByteArray.mk #[45],ByteArray.mk #[40],ByteArray.mk #[122,122]]
theorem VD:∀t∈Ys,YS t:=by
 intro t ht
 refine .inl ?_
 revert t
 decide
theorem VC {b:Int} {x:Int} (h:(spL b)[(dB b 8).toNat]? =some x) (hb:oo b):oo x/\x≠33:=by
 have hr:=cH b 8 (by omega)
 have oJ:b=33->dB b 8=1:=λe=>by rw [e];rfl
 generalize dB b 8=a at h hr oJ
 have:a=0\/a=1\/a=2\/a=3\/a=4\/a=5\/a=6\/a=7:=by omega
 rcases this with rfl|rfl|rfl|rfl|rfl|rfl|rfl|rfl
 all_goals
  have h:=Option.some.inj h
  subst h
 .exact ⟨hb,λe=>absurd (oJ e) (by decide)⟩
 all_goals exact ⟨⟨by decide,by decide⟩,by decide⟩
theorem IB (n:Int):0<=IntKind.wrap .u64 n:=by
 have:IntKind.wrap .u64 n=n%18446744073709551616:=by simp [IntKind.wrap,IntKind.bits,IntKind.signed]
 omega
theorem VU (n:Int):IntKind.wrap .u64 n<18446744073709551616:=by
 have:IntKind.wrap .u64 n=n%18446744073709551616:=by simp [IntKind.wrap,IntKind.bits,IntKind.signed]
 omega
theorem E7 (n:Int):oo (IntKind.wrap .i64 n):=by
 have:IntKind.wrap .i64 n=(n+9223372036854775808)%18446744073709551616 - 9223372036854775808:=by
  simp [IntKind.wrap,IntKind.bits,IntKind.signed]
  split<;>omega
 rw [this]
 constructor<;>omega
theorem Vw {w:World} {s:Sl} {vs:List Value} (h:Rd w s vs):jU 1 w s vs:=⟨by rw [Nat.mul_one];exact h.1.symm,h.2.1,h.2.2⟩
structure ZR (d:Nx) (Q:Nx->Prop):Prop where
 op:∀k,oo k->k≠33->Q {d with op:=k}
 n:∀k,oo k->Q {d with n:=k}
 m:∀k,oo k->Q {d with m:=k}
 u:∀k,0<=k->k<18446744073709551616->Q {d with u:=k}
 tx:∀t∈Ys,Q {d with tx:=t}
 st:∀a b c,(oo a\/a=d.st.k)->(oo b\/b=d.st.n)->(oo c\/c=d.st.x)->Q {d with st:=⟨a,b,c⟩}
 ks:∀l:List Int,l.length<=d.kids.length+1->(∀k∈l,k∈d.kids\/(0<=k/\k<12))->Q {d with kids:=l}
def GY (w:World) (Q:Nx->Prop) (r:Ending) (w':World):Prop:=∃d:Nd,r=.returned d.v/\Q d.x/\d.P w'/\∀b∈(dG d).fp,w.heap.size<=b
theorem V9 {w:World} {d:Nd} {Q:Nx->Prop} (hd:d.P w) (hs:ZR d.x Q) (Qh:d.x.kids.length<=100) (O1 CN:Int) (hh:oo O1) (hb:oo CN):
  Calls Tryz.prog nG #[d.v,.i O1,.i CN] w λr w'=>GY w Q r w'/\bG w w':=by
 have SB:=cX.len hd
 have H:LH F0 w w [] [dG d]:=mu _ (by
  intro e he
  simp only [cS,fF,or_false] at he
  subst he
  exact hd)
 refine enthymemeref07_Spoilt.cU _ _ _ _ _ _ _ _ _ _ _ w _ (H.bF λb3 w1 H1=>H1.bF λb6 w2 H2=>H2.iQ (n:=0) (sz:=1) (cs:=[]) rfl (by decide) λw3 H3=>?_)
 refine H3.Kc 2 pR (s:=⟨some (bD w2.heap.size),0,0⟩) (src:=d.ks) rfl (Vw (H3.getD 0)) (Fa _) (by simp only;omega) (λt12 w4 H4=>?_)
 have H4:LH F0 w w4 [.g b3,.g b6,oW t12 d.x.kids] [dG d]:=H4
 have fin:∀(L2:List En) (w5:World) (x:Nx) (ts:Sl),LH F0 w w5 ([.g b3,.g b6,oW ts x.kids]++L2) [dG d]->Q x->
   enthymemeref07_Spoilt.dV b3 x.op ts x.n x.m x.u x.tx x.st.k x.st.n x.st.x b6 0 ⟨none,0,0⟩ 0 0 0 (ByteArray.mk #[]) 0 0 0 w5 λr w'=>GY w Q r w'/\bG w w':=λL2 w5 x ts H5 hx=>
  H5.aL λw6 H6=>⟨⟨⟨x,ts⟩,rfl,hx,kZ (H6.get 2),uE λb hb=>(H6.new _ (cR (i:=2) rfl) b hb).resolve_right id⟩,H6.fr⟩
 refine H4.aL λw5 H5=>H5.nw λw6 _ H6=>H6.aK (eX CN 8 w6 (by omega) hb) ?_
 have hr:=cH CN 8 (by omega)
 obtain ⟨k,hk⟩:∃k,(spL CN)[(dB CN 8).toNat]? =some k:=⟨_,g8 (by show _<8;omega)⟩
 have HJ:=VC hk hb
 rintro _ w7 rfl H7
 have k0:cX w7 ⟨some (bD w5.heap.size),8,8⟩ (spL CN):=oP (T:=bP) (H7.ob 3) rfl
 refine ⟨_,rfl,hr.1,hr.2,k0.cell hk (by omega) λp hp hc=>⟨k,hc,H7.aK (eX O1 10 w7 (by omega) hh) ?_⟩⟩
 rintro _ w8 rfl H8
 refine ⟨_,rfl,?_⟩
 refine aJ (λ_=>H8.aL λw9 H9=>fin _ w9 {d.x with op:=k} t12 H9 (hs.op k HJ.1 HJ.2)) (λ_=>?_)
 refine aJ (λ_=>H8.aL λw9 H9=>fin _ w9 {d.x with n:=k} t12 H9 (hs.n k HJ.1)) (λ_=>?_)
 refine aJ (λ_=>H8.aL λw9 H9=>fin _ w9 {d.x with m:=k} t12 H9 (hs.m k HJ.1)) (λ_=>?_)
 refine aJ (λ_=>H8.aL λw9 H9=>fin _ w9 {d.x with u:=IntKind.wrap .u64 k} t12 H9 (hs.u _ (IB k) (VU k))) (λ_=>?_)
 refine aJ (λ_=>?_) (λ_=>?_)
 .refine H8.nw λuI _ uu=>uu.aK (eX CN 8 uI (by omega) hb) ?_
  rintro _ D3 rfl vp
  obtain ⟨t,ht⟩:∃t,Ys[(dB CN 8).toNat]? =some t:=⟨_,g8 (by show _<8;omega)⟩
  refine ⟨_,rfl,hr.1,hr.2,ub ⟨t,?_,vp.aL λBm Cz=>fin _ Bm {d.x with tx:=t} t12 Cz (hs.tx t (cR ht))⟩⟩
  rw [Nat.mul_one]
  refine vp.ld 4 _ rfl ?_
  show (Ys.map Value.string)[_]? =_
  rw [Yj,ht]
  rfl
 refine aJ (λ_=>H8.aL λw9 H9=>fin _ w9 {d.x with st:=⟨k,d.x.st.n,d.x.st.x⟩} t12 H9 (hs.st _ _ _ (.inl HJ.1) (.inr rfl) (.inr rfl))) (λ_=>?_)
 refine aJ (λ_=>H8.aL λw9 H9=>fin _ w9 {d.x with st:=⟨d.x.st.k,k,d.x.st.x⟩} t12 H9 (hs.st _ _ _ (.inr rfl) (.inl HJ.1) (.inr rfl))) (λ_=>?_)
 refine aJ (λ_=>H8.aL λw9 H9=>fin _ w9 {d.x with st:=⟨d.x.st.k,d.x.st.n,k⟩} t12 H9 (hs.st _ _ _ (.inr rfl) (.inr rfl) (.inl HJ.1))) (λ_=>?_)
 refine aJ (λ_=>H8.aL λw9 H9=>H9.aK (eX CN 9 w9 (by omega) hb) ?_) (λ_=>?_)
 .rintro _ pE rfl mJ
  have wg:t12.n=d.x.kids.length:=n9 (show aO pE bP 1 t12 (d.x.kids.map eI) from mJ.get 2)
  refine ⟨_,rfl,mJ.uj 2 pR rfl (λs2 sj qR=>qR.aL λrI qS=>?_) (by omega)⟩
  have qS:LH F0 w rI ([.g b3,.g b6,oW s2 (d.x.kids++[dB CN 9])]++[.c w5.heap.size [.i CN,.i (-1),.i 0,.i 1,.i 63,.i 64,.i 65,.i 1099511627776] bP]) [dG d]:=by
   rw [show oW s2 (d.x.kids++[dB CN 9])=.row bP 1 s2 (d.x.kids.map eI++[eI (dB CN 9)]) by rw [oW,List.map_append];rfl];exact qS
  refine fin _ rI {d.x with kids:=d.x.kids++[dB CN 9]} s2 qS (hs.ks _ (by simp) λk hk=>?_)
  rcases fS.1 hk with hk|hk
  .exact .inl hk
  .simp only [cS,fF,or_false] at hk
   have:=cH CN 9 (by omega)
   exact .inr (by omega)
 have loop:∀(m i:Nat) (ks:List Int) (L2:List En) (w9:World),i+m=ks.length->ks.length=d.x.kids.length->(∀k∈ks,k∈d.x.kids\/(0<=k/\k<12))->LH F0 w w9 ([.g b3,.g b6,oW t12 ks]++L2) [dG d]->
   enthymemeref07_Spoilt.mD CN b3 d.x.op t12 d.x.n d.x.m d.x.u d.x.tx d.x.st.k d.x.st.n d.x.st.x b6 0 ⟨none,0,0⟩ 0 0 0 (ByteArray.mk #[]) 0 0 0 (i:Int) w9 λr w'=>GY w Q r w'/\bG w w':=by
  intro m
  induction m with
  |zero=>
   intro i ks L2 w9 hi hl sQ H9
   have wg:t12.n=ks.length:=n9 (show aO w9 bP 1 t12 (ks.map eI) from H9.get 2)
   exact enthymemeref07_Spoilt.dM _ _ _ _ _ _ _ _ _ _ _ _ _ _ _ _ _ _ _ _ _ _ _ _ (aI (decide_eq_false (by omega)) (fin L2 w9 {d.x with kids:=ks} t12 H9 (hs.ks ks (by omega) sQ)))
  |succ m ih=>
   intro i ks L2 w9 hi hl sQ H9
   have wg:t12.n=ks.length:=n9 (show aO w9 bP 1 t12 (ks.map eI) from H9.get 2)
   refine enthymemeref07_Spoilt.dM _ _ _ _ _ _ _ _ _ _ _ _ _ _ _ _ _ _ _ _ _ _ _ _ (aQ (decide_eq_true (by omega)) ?_)
   rw [aX _ (by omega)]
   refine ⟨by omega,H9.aL λpE mJ=>mJ.aK (eX _ 12 pE (by omega) (E7 _)) ?_⟩
   rintro _ sj rfl qR
   refine ⟨_,rfl,by omega,by omega,?_⟩
   obtain ⟨k1,Di⟩:∃k1,ks[i]? =some k1:=⟨_,g8 (by omega)⟩
   refine (kZ (show aO sj bP 1 t12 (ks.map eI) from qR.get 2)).cell Di (j:=Int.toNat (i:Int) *1) (by omega) λp hp _=>?_
   refine qR.LQ (bs:=[b3,b6]) 2 (Int.toNat (i:Int) *1) rfl hp (by simp;omega) (λrI qS=>?_)
   generalize hz0:dB _ 12=z at qS ⊢
   have hz:0<=z/\z<12:=by rw [<-hz0];exact cH _ 12 (by omega)
   have e1:Int.toNat (i:Int) *1=i:=by omega
   refine ih (i+1) (ks.set i z) L2 rI (by rw [List.length_set];omega) (by rw [List.length_set];exact hl) (λk hk=>?_) ?_
   .rcases List.mem_or_eq_of_mem_set hk with h|rfl
    .exact sQ k h
    .exact .inr hz
   rw [e1] at qS
   rw [show oW t12 (ks.set i z)=.row bP 1 t12 ((ks.map eI).set i (eI z)) by rw [oW,List.map_set]]
   exact qS
 exact loop d.x.kids.length 0 d.x.kids _ w8 (by omega) rfl (λk h=>.inl h) H8
theorem LB.q {c:Nat} {d:Nx} (hs:LB c d):ZR d (LB (c+1)):=by
 have Qh:=hs.kl
 exact ⟨λk _ h=>⟨by simp only;omega,hs.n,hs.m,hs.u,λe=>absurd e h⟩,λk h=>⟨by simp only;omega,h,hs.m,hs.u,hs.tx⟩,λk h=>⟨by simp only;omega,hs.n,h,hs.u,hs.tx⟩,λk h _=>⟨by simp only;omega,hs.n,hs.m,h,hs.tx⟩,λt ht=>⟨by simp only;omega,hs.n,hs.m,hs.u,λ_=>VD t ht⟩,λ_ _ _ _ _ _=>⟨by simp only;omega,hs.n,hs.m,hs.u,hs.tx⟩,λl h _=>⟨by simp only;omega,hs.n,hs.m,hs.u,hs.tx⟩⟩
def vX (g:List Nx) (n:Nx):Int×Bool:=if (dI g n).2≠0 then (0,false) else match l4 (eM n (dI g n).1) g 0 with
 |some i=>((i:Int),true)
 |none=>(0,false)
theorem VK {w:World} {s:Sl} {l:List Nd} {d:Nd} (h:GP w s l) (hd:d.P w) (hk:pK.P w) (ho:LD d.x) (zJ:l.length<=1000000000) (hv:∀e∈xs l,bN e.st=true) (A8:∀e∈l,e.x.kids.length<=1000000000):
  Calls Tryz.prog tz #[.agg #[s.v],d.v] w λr w'=>r=.returned (.tuple #[.i (vX (xs l) d.x).1,.bool (vX (xs l) d.x).2])/\bG w w':=by
 have H:LH F0 w w [] [.gr s l,dG d,pK]:=mu _ (by
  intro e he
  simp only [cS,fF,or_false] at he
  rcases he with rfl|rfl|rfl
  .exact cE.2 h
  .exact hd
  .exact hk)
 refine term_Find.cU _ _ _ _ _ _ _ _ _ _ w _ (H.bF λb2 w1 H1=>H1.nw λw2 _ H2=>?_)
 have H2:LH F0 w w2 [.g b2,.c w1.heap.size d.c aE] [.gr s l,dG d,pK]:=H2
 refine ⟨d.x.op,d.ks,d.x.n,d.x.m,d.x.u,d.x.tx,d.x.st.k,d.x.st.n,d.x.st.x,H2.ld 1 0,H2.ld 1 1,H2.ld 1 2,H2.ld 1 3,H2.ld 1 4,H2.ld 1 5,H2.ld 1 6,H2.ld 1 7,H2.ld 1 8,?_⟩
 refine H2.aK (wK (cE.1 (H2.getD 0)) (H2.getD 1) (H2.getD 2) ho zJ hv) ?_
 rintro _ w4 rfl H4
 unfold vX
 refine ⟨_,_,_,_,rfl,H4.bF λb7 w5 H5=>dX (λh0=>H5.aL λw6 H6=>⟨by rw [if_pos h0],H6.fr⟩) (λh0=>H5.aL λw6 H6=>?_)⟩
 rw [if_neg (λh=>h h0)]
 generalize (dI (xs l) d.x).1=sr at *
 refine H6.Ln 1 6 rfl (λw7 H7=>H7.Oy 1 6 1 rfl (λw8 H8=>H8.Oy 1 6 2 rfl (λw9 H9=>?_) (by simp [Nd.c])) (by simp [Nd.c])) (by simp [Nd.c])
 let e:Nd:=⟨eM d.x sr,d.ks⟩
 have H9:LH F0 w w9 [.g b2,.c w1.heap.size e.c aE,.g b7] [.gr s l,dG d,pK]:=H9
 refine H9.aK (Gl (d:=e) (cE.1 (H9.getD 0)) (xE (H9.ob 1)) (H9.getD 1) zJ A8) ?_
 rintro _ pE rfl mJ
 refine ⟨_,rfl,?_⟩
 have he:e.x=eM d.x sr:=rfl
 rw [he]
 cases hi:l4 (eM d.x sr) (xs l) 0 with
 |some i=>exact aQ (decide_eq_true (Int.natCast_nonneg i)) ⟨rfl,mJ.fr⟩
 |none=>exact aI (by decide) ⟨rfl,mJ.fr⟩
theorem yb {w:World} {s t:Sl} {l m:List Nd} (h:GP w s l) (g:GP w t m) (he:xs l=xs m) (hl:l.length<=lB) (hk:∀e∈l,e.x.kids.length<=lB):
  Calls Tryz.prog gA #[s.v,t.v] w λr w'=>r=.returned (.bool true)/\bG w w':=by
 have hn:=oT h
 have hm:=oT g
 have hlm:l.length=m.length:=by have:=congrArg List.length he;simpa [xs] using this
 unfold lB at hl
 have H:LH F0 w w [] [.gr s l,.gr t m]:=mu _ (by
  intro e he
  simp only [cS,fF,or_false] at he
  rcases he with rfl|rfl
  .exact cE.2 h
  .exact cE.2 g)
 have loop:∀(k i:Nat) (w1:World),i+k=l.length->LH F0 w w1 [] [.gr s l,.gr t m]->enthymemeref07_SameGraph.L0 s t (i:Int) w1 λr w'=>r=.returned (.bool true)/\bG w w':=by
  intro k
  induction k with
  |zero=>
   intro i w1 hi H1
   exact enthymemeref07_SameGraph.cC _ _ _ _ _ (aI (decide_eq_false (by omega)) ⟨rfl,H1.fr⟩)
  |succ k ih=>
   intro i w1 hi H1
   have ga:l[i]? =some (l[i]'(by omega)):=g8 (by omega)
   have gb:m[i]? =some (m[i]'(by omega)):=g8 (by omega)
   generalize l[i]'(by omega)=a at ga
   generalize m[i]'(by omega)=b at gb
   have Hz:a.x=b.x:=by
    have h1:=sv ga
    have h2:=sv gb
    rw [he,h2] at h1
    exact (Option.some.inj h1).symm
   refine enthymemeref07_SameGraph.cC _ _ _ _ _ (aQ (decide_eq_true (by omega)) (H1.dr λw2 H2=>kD (cE.1 (H2.getD 0)) rfl ga λp hp c=>?_))
   refine ⟨a.x.op,a.ks,a.x.n,a.x.m,a.x.u,a.x.tx,a.x.st.k,a.x.st.n,a.x.st.x,c.c0,c.c1,c.c2,c.c3,c.c4,c.c5,c.c6,c.c7,c.c8,kD (cE.1 (H2.getD 1)) rfl gb λq hq e=>?_⟩
   refine ⟨b.x.op,b.ks,b.x.n,b.x.m,b.x.u,b.x.tx,b.x.st.k,b.x.st.n,b.x.st.x,e.c0,e.c1,e.c2,e.c3,e.c4,e.c5,e.c6,e.c7,e.c8,?_⟩
   refine H2.call (Mp ((cE.1 (H2.getD 0)).2 a (cR ga)) ((cE.1 (H2.getD 1)).2 b (cR gb)) (hk a (cR ga))) ?_
   rintro _ w3 rfl H3
   refine ⟨_,rfl,aI (by rw [decide_eq_true Hz];rfl) ?_⟩
   rw [aX _ (by omega)]
   exact ih (i+1) w3 (by omega) H3
 refine enthymemeref07_SameGraph.ok s t w _ (dX (λie=>absurd (by omega) ie) (λ_=>loop l.length 0 w (by omega) H))
structure T2 (c:Nat) (d:Nx):Prop where
 sp:LB c d
 wd:Mc d
 tl:d.tx.size<=1000
theorem T2.le {c e:Nat} {d:Nx} (h:T2 c d) (hc:c<=e):T2 e d:=⟨h.sp.le hc,h.wd,h.tl⟩
theorem tT.gd {g:List Nx} (h:tT g) (hl:g.length<=1000):∀d∈g,T2 3 d:=by
 intro d hd
 have hn:=h.nd d hd
 obtain ⟨i,hi⟩:=List.mem_iff_getElem?.1 hd
 have Qf:=(ov.1 hi).1
 have hk:=h.vg.kids hi
 have hv:=ug.1 (h.vg.val d hd)
 have ht:d.tx.size<=100:=by
  by_cases oJ:d.op=33
  .obtain ⟨k,hk⟩:=hn.re oJ
   rw [hk,cD]
   have:=Gp k
   omega
  .have:=hn.tx oJ
   omega
 have h1:=hn.Zk
 have h2:=hn.Zl
 have h3:=hn.kl
 have h4:=hn.n
 have h5:=hn.m
 have h6:=hn.u
 exact ⟨hn.sp,⟨⟨by omega,by omega⟩,λk EX=>by have:=hk k EX;exact ⟨by omega,by omega⟩,by omega,⟨by omega,by omega⟩,⟨by omega,by omega⟩,⟨by omega,by omega⟩,by omega,⟨by omega,by omega⟩,⟨by omega,by omega⟩,⟨by omega,by omega⟩⟩,by omega⟩
theorem T2.q {c:Nat} {d:Nx} (h:T2 c d) (hc:c<=50):ZR d (T2 (c+1)):=by
 have q:=h.sp.q
 have W:=h.wd
 have hs:∀t∈Ys,t.size<=1000:=by decide
 exact ⟨λk h1 h2=>⟨q.op k h1 h2,⟨h1,W.ks,W.kl,W.n,W.m,W.u,W.tx,W.sk,W.sn,W.sx⟩,h.tl⟩,
  λk h1=>⟨q.n k h1,⟨W.op,W.ks,W.kl,h1,W.m,W.u,W.tx,W.sk,W.sn,W.sx⟩,h.tl⟩,
  λk h1=>⟨q.m k h1,⟨W.op,W.ks,W.kl,W.n,h1,W.u,W.tx,W.sk,W.sn,W.sx⟩,h.tl⟩,
  λk h1 h2=>⟨q.u k h1 h2,⟨W.op,W.ks,W.kl,W.n,W.m,⟨h1,h2⟩,W.tx,W.sk,W.sn,W.sx⟩,h.tl⟩,
  λt ht=>⟨q.tx t ht,⟨W.op,W.ks,W.kl,W.n,W.m,W.u,by have:=hs t ht;show t.size<=_;omega,W.sk,W.sn,W.sx⟩,hs t ht⟩,
  λa b e h1 h2 h3=>⟨q.st a b e h1 h2 h3,⟨W.op,W.ks,W.kl,W.n,W.m,W.u,W.tx,h1.elim id (λe=>e▸W.sk),h2.elim id (λe=>e▸W.sn),h3.elim id (λe=>e▸W.sx)⟩,h.tl⟩,
  λl h1 h2=>⟨q.ks l h1 h2,⟨W.op,λk hk=>(h2 k hk).elim (W.ks k) (λh=>⟨by omega,by omega⟩),by have:=h.sp.kl;show l.length<=_;omega,W.n,W.m,W.u,W.tx,W.sk,W.sn,W.sx⟩,h.tl⟩⟩
theorem aaN (s:Sl) (n:Nat):Value.slice (if s.c=0 then s.a else s.a.map (·.add (0 *9))) (n - 0) (s.c - 0)=(Ay 9 s 0 n).v:=rfl
theorem Gu (t:ByteArray) (r:List Nx):∀g:List Nx,oG (g++r) t=(oG g t).orElse λ_=>oG r t
 |[]=>by simp [oG]
 |d::g=>by
  rw [List.cons_append,oG,oG,Gu t r g]
  split<;>simp
theorem JS {g r:List Nx} {n:Nx} (h:(dI g n).2=0) (hv:n.op=0->∀e∈r,e.op=0->e.tx=n.tx->e.st=n.st):dI (g++r) n=dI g n:=by
 have ho:=DK h
 have hk:∀j,kC (g++r) n j=kC g n j:=λj=>by
  unfold kC
  cases hj:n.kids[j]? with
  |none=>rfl
  |some k=>
   have:=ho.ki k (cR hj)
   dsimp only
   rw [Vu (by omega)]
 have ha:n.kids.all (iu (g++r))=n.kids.all (iu g):=by
  have h1:n.kids.all (iu g)=true:=wD.2 λk hk=>by
   have:=ho.ki k hk
   unfold iu
   simp [this]
  rw [h1]
  exact wD.2 λk hk=>by
   have:=ho.ki k hk
   unfold iu
   simp
   omega
 have hl:cY (g++r) n=cY g n:=by
  by_cases h0:n.op=0
  .have hf:sH g n=false:=by
    cases ht:sH g n with
    |false=>rfl
    |true=>
     exfalso
     unfold dI cY at h
     rw [if_pos (show n.op<=3 by omega),if_neg (show ¬n.op=2 by omega)] at h
     rw [if_pos (show n.op=0/\sH g n=true from ⟨h0,ht⟩)] at h
     repeat' split at h
     all_goals cases h
   have Y2:sH (g++r) n=false:=by
    unfold sH at hf ⊢
    rw [Gu]
    cases hg:oG g n.tx with
    |some s=>rw [hg] at hf;exact hf
    |none=>
     cases hr:oG r n.tx with
     |none=>rfl
     |some s=>
      obtain ⟨e,he,e0,et,es⟩:=wP hr
      have:=hv h0 e he e0 et
      dsimp only [Option.orElse]
      rw [<-es,this]
      simp
   unfold cY
   rw [hf,Y2]
  .unfold cY
   simp only [h0,false_and]
 unfold dI
 rw [ha,hl,hk,hk,hk]
theorem RJ {g:List Nx} (h:Vg g):∀j,Vg (g.take j):=by
 induction h with
 |nil=>intro j;rw [List.take_nil];exact .nil
 |@snoc g n hg hs hn ih=>
  intro j
  rcases Nat.lt_or_ge g.length j with hj|hj
  .rw [List.take_of_length_le (by simp;omega)]
   exact .snoc hg hs hn
  .rw [List.take_append_of_le_length hj]
   exact ih j
theorem QI {g:List Nx} (h:tT g) (j:Nat):tT (g.take j):=⟨RJ h.vg j,λd hd=>h.nd d (List.mem_of_mem_take hd)⟩
structure V8 (g l:List Nx) (n:Nat):Prop where
 md:tT l
 ex:∃r,l=g++r
 len:l.length<=n
theorem V8.add {g l:List Nx} {n:Nat} {d:Nx} (h:V8 g l n) (hd:yC d) (h0:(eU l d).2.2=0):V8 g (eU l d).1 (n+1):=by
 obtain ⟨r,hr⟩:=h.ex
 refine ⟨wY h.md hd h0,?_,by have:=vD l d;have:=h.len;omega⟩
 obtain ⟨_,k,_,_,h3⟩:=uO h0
 rcases h3 with h3|⟨_,h5,_⟩
 .exact ⟨r,by rw [h3,hr]⟩
 .exact ⟨r++[eM d (dI l d).1],by rw [h5,hr,AU]⟩
theorem V8.le {g l:List Nx} {n m:Nat} (h:V8 g l n) (hn:n<=m):V8 g l m:=⟨h.md,h.ex,Nat.le_trans h.len hn⟩
def ph (n:Nx) (to:List Int):Nx:={n with kids:=n.kids.map λk=>to.getD k.toNat 0}
def gp:List Nx->List Int->List Nx->List Nx×List Int×Int
 |g,to,[]=>(g,to,0)
 |g,to,n::r=>if (eU g (ph n to)).2.2≠0 then ([],[],(eU g (ph n to)).2.2) else gp (eU g (ph n to)).1 (to++[(eU g (ph n to)).2.1]) r
theorem lF (g:List Nx) (to:List Int) (n:Nx) (r:List Nx):gp g to (n::r)=if (eU g (ph n to)).2.2≠0 then ([],[],(eU g (ph n to)).2.2) else gp (eU g (ph n to)).1 (to++[(eU g (ph n to)).2.1]) r:=rfl
theorem NP {n:Nx} {to z:List Int} (h:∀k∈n.kids,0<=k/\k<(to.length:Int)):ph n (to++z)=ph n to:=by
 unfold ph
 congr 1
 refine List.map_congr_left λk hk=>?_
 have:=h k hk
 simp only [List.getD_eq_getElem?_getD]
 rw [Vu (by omega)]
theorem Fp {n:Nx} {to:List Int} (h:yC n):yC (ph n to):=⟨h.Zk,h.Zl,by have:=h.kl;simpa [ph] using this,h.n,h.m,h.u,h.tx,h.re⟩
theorem Jj {g:List Nx} (h:Vg g) {k:Nat} {x:Nx} (hx:g[k]? =some x):l4 x g 0=some k:=by
 cases hi:l4 x g 0 with
 |none=>exact absurd (cR hx) (tm hi)
 |some j=>
  have hj:=(rv hi).2
  rw [Nat.sub_zero] at hj
  rcases Nat.lt_trichotomy j k with lV|rfl|lV
  .exact absurd (cR (i:=j) (by rw [List.getElem?_take,if_pos lV];exact hj)) (DS h k x hx)
  .rfl
  .exact absurd (cR (i:=k) (by rw [List.getElem?_take,if_pos lV];exact hx)) (DS h j x hj)
theorem RI {g:List Nx} {n:Nx} (h:(dI g n).2=0) (h0:n.op=0):(dI g n).1=n.st:=by
 unfold dI cY at h ⊢
 rw [if_pos (show n.op<=3 by omega),if_neg (show ¬n.op=2 by omega)] at h ⊢
 repeat' split at h
 all_goals first |cases h|skip
 rename_i c1 c2 c3 c4 c5 c6
 rw [if_neg c1,if_neg c2,if_neg c3,if_neg c4,if_neg c5,if_neg c6]
theorem PK {g r:List Nx} {n:Nx} (h0:(eU g n).2.2=0) (hv:Vg ((eU g n).1++r)):vX ((eU g n).1++r) n=((eU g n).2.1,true):=by
 obtain ⟨hs,k,hk,hg,h3⟩:=uO h0
 have A8:((eU g n).1++r)[k]? =some (eM n (dI g n).1):=by
  rw [Vu (ov.1 hg).1]
  exact hg
 obtain ⟨r',hr⟩:∃r',(eU g n).1++r=g++r':=by
  rcases h3 with h3|⟨_,h5,_⟩
  .exact ⟨r,by rw [h3]⟩
  .exact ⟨eM n (dI g n).1::r,by rw [h5];simp⟩
 have hsr:dI ((eU g n).1++r) n=dI g n:=by
  rw [hr]
  refine JS hs λho e he e0 et=>?_
  have:=hv.vars (eM n (dI g n).1) (cR A8) ho e (by rw [hr];exact uD _ he) e0 et.symm
  rw [<-this]
  exact RI hs ho
 unfold vX
 rw [hsr,if_neg (λh=>h hs),Jj hv A8,hk]
theorem zQ:∀{r:List Nx} {g:List Nx} {to:List Int},(gp g to r).2.2=0->(∃e,(gp g to r).1=g++e)/\(∃z,(gp g to r).2.1=to++z/\z.length=r.length)
 |[],g,to,_=>⟨⟨[],by simp [gp]⟩,⟨[],by simp [gp]⟩⟩
 |n::r,g,to,h=>by
  rw [lF] at h ⊢
  split at h
  .rename_i h0
   exact absurd h h0
  .rename_i h0
   rw [if_neg h0]
   obtain ⟨⟨e,he⟩,z,hz,hl⟩:=zQ h
   obtain ⟨_,k,_,_,h3⟩:=uO (n:=ph n to) (g:=g) (by omega)
   refine ⟨?_,(eU g (ph n to)).2.1::z,by rw [hz];simp,by simp [hl]⟩
   rcases h3 with h3|⟨_,h5,_⟩
   .exact ⟨e,by rw [he,h3]⟩
   .exact ⟨_,by rw [he,h5,AU]⟩
theorem Dq:∀{r:List Nx} {g:List Nx} {to:List Int},tT g->(∀d∈r,yC d)->tT (gp g to r).1/\(gp g to r).1.length<=g.length+r.length
 |[],g,to,h,_=>⟨h,by simp [gp]⟩
 |n::r,g,to,h,hr=>by
  rw [lF]
  split
  .exact ⟨⟨.nil,by simp⟩,by simp⟩
  .rename_i h0
   have h1:=Dq (r:=r) (g:=(eU g (ph n to)).1) (to:=to++[(eU g (ph n to)).2.1]) (wY h (Fp (hr n (by simp))) (by omega)) (λd hd=>hr d (by simp [hd]))
   have:=vD g (ph n to)
   exact ⟨h1.1,by simp only [GM];omega⟩
theorem B5:∀{r:List Nx} {g:List Nx} {to:List Int},tT g->(∀d∈r,yC d)->(gp g to r).2.2=0->(∀(i:Nat) (d:Nx),r[i]? =some d->∀k∈d.kids,0<=k/\k<((to.length+i:Nat):Int))->
  ∀(i:Nat) (d:Nx),r[i]? =some d->∃t:Int,(gp g to r).2.1[to.length+i]? =some t/\vX (gp g to r).1 (ph d (gp g to r).2.1)=(t,true)
 |[],g,to,_,_,_,_,i,d,hd=>by simp at hd
 |n::r,g,to,hg,hr,h,hk,i,d,hd=>by
  have Qi:=(Dq (g:=g) (to:=to) hg hr).1
  have hx:=h
  rw [lF] at h
  split at h
  .rename_i h0
   exact absurd h h0
  rename_i h0
  have e:=lF g to n r
  rw [if_neg h0] at e
  rw [e] at Qi hx ⊢
  have h0:(eU g (ph n to)).2.2=0:=by omega
  obtain ⟨⟨ex,he⟩,z,hz,hl⟩:=zQ h
  cases i with
  |zero=>
   rw [List.getElem?_cons_zero] at hd
   cases hd
   refine ⟨(eU g (ph n to)).2.1,by rw [hz,AU];simp,?_⟩
   have hmv:ph n (gp (eU g (ph n to)).1 (to++[(eU g (ph n to)).2.1]) r).2.1=ph n to:=by
    rw [hz,AU]
    exact NP λk EX=>by have:=hk 0 n rfl k EX;omega
   rw [hmv,he]
   exact PK h0 (by rw [<-he];exact Qi.vg)
  |succ i=>
   rw [List.getElem?_cons_succ] at hd
   have:=B5 (r:=r) (wY hg (Fp (hr n (by simp))) h0) (λd hd=>hr d (by simp [hd])) h (λj d' Sn k EX=>by
    have:=hk (j+1) d' (by rw [List.getElem?_cons_succ];exact Sn) k EX
    simp only [qq,GM,JH]
    omega) i d hd
   rw [qq,GM,JH] at this
   rw [show to.length+(i+1)=to.length+(0+1)+i by omega]
   exact this
def iY (i:Nat):List Int:=(List.range i).map λk:Nat=>(k:Int)
theorem X6 {n:Nx} {i:Nat} (h:∀k∈n.kids,0<=k/\k<(i:Int)):ph n (iY i)=n:=by
 have:n.kids.map (λk=>(iY i).getD k.toNat 0)=n.kids:=by
  conv=>rhs;rw [<-List.map_id n.kids]
  refine List.map_congr_left λk hk=>?_
  have:=h k hk
  rw [List.getD_eq_getElem?_getD,iY,Yj,List.getElem?_range (by omega)]
  simp
  omega
 unfold ph
 rw [this]
theorem Ua {g:List Nx} (h:Vg g) {i:Nat} {d:Nx} (hd:g[i]? =some d):eU g d=(g,(i:Int),0):=by
 have dP:=h.ok i d hd
 have hs:dI g d=(d.st,0):=by
  have:=JS (g:=g.take i) (r:=g.drop i) (n:=d) (by rw [dP]) λh0 e he e0 et=>h.vars e (List.mem_of_mem_drop he) e0 d (cR hd) h0 et
  rw [List.take_append_drop,dP] at this
  exact this
 unfold eU
 rw [hs,if_neg (λh=>h rfl)]
 have hw:eM d d.st=d:=rfl
 rw [hw,Jj h hd]
theorem B6 {g:List Nx} (h:Vg g):∀(m i:Nat),i+m<=g.length->gp g (iY i) ((g.drop i).take m)=(g,iY (i+m),0)
 |0,i,_=>by rw [List.take_zero];rfl
 |m+1,i,hi=>by
  have hd:g[i]? =some (g[i]'(by omega)):=g8 (by omega)
  rw [sC (by omega),List.take_succ_cons,lF]
  generalize g[i]'(by omega)=d at hd
  rw [X6 (h.kids hd),Ua h hd,if_neg (λh=>h rfl)]
  have e:iY i++[(i:Int)]=iY (i+1):=by simp [iY,List.range_succ]
  rw [e,B6 h m (i+1) (by omega),show i+1+m=i+(m+1) by omega]
section
variable {M:Nat->Prop} {w0 w:World} {L D:List En} {bs:List Nat}
theorem _root_.Go.W.LH.mkg (H:LH M w0 w L D) {P:Program} {t e:TypeId} {z:Value} {sz bytes:Nat} (el:iy P t e z sz bytes) (n:Nat) (hb:n *bytes<=140737488355328) {K:Sl->World->Prop}
  (hK:∀s w',s.n=n->LH M w0 w' (L++[.row e sz s (madeCells z.cells (n *sz)).toList]) D->K s w') (ke:∀b∈bs,En.g b∈L:=by simp):
  ∃(s:Sl) (w':World),Sem.run P (Instr.makeSlice t (.i (n:Int)) (.i (n:Int))) w=.ok s.v w'/\kept bs w w'/\K s w':=by
 obtain ⟨w',r1,r2,r3⟩:=Ca el w n hb
 exact ⟨⟨some (bD w.heap.size),n,n⟩,w',r1,λb hb=>r3.gY b (H.own _ (ke b hb)) id,hK _ w' rfl (H.Tc r3 r2 (by intro b hb;simp [aZ] at hb;omega))⟩
end
theorem B9 (n:Nat):(madeCells (Value.int .i64 0).cells (n *1)).toList=(List.replicate n (0:Int)).map eI:=by
 rw [Be _ _ rfl,List.map_replicate]
 rfl
theorem JA {w:World} {s:Sl} {l:List Int} (h:aO w bP 1 s (l.map eI)) (hl:0<l.length):∃p,s.a=some p:=by
 have:=(kZ h).cell (g8 hl) rfl (K:=λq=>s.a=some q) (λp hp _=>hp)
 cases hs:s.a with
 |none=>rw [hs] at this;exact this.elim
 |some p=>exact ⟨p,rfl⟩
theorem NQ {n:Nx} {to:List Int} {i:Nat} {k:Int} (hk:n.kids[i]? =some k) (h:0<=k/\k<(to.length:Int)):∃t,to[k.toNat]? =some t/\(ph n to).kids[i]? =some t:=by
 refine ⟨to[k.toNat]'(by omega),g8 (by omega),?_⟩
 show (n.kids.map _)[i]? =_
 rw [Yj,hk,Option.map_some,List.getD_eq_getElem?_getD,g8 (by omega)]
 rfl
theorem RC {w:World} {d:Nd} {ts:Sl} {to:List Int} (hd:d.P w) (ht:cX w ts to) (hk:∀k∈d.x.kids,0<=k/\k<(to.length:Int)) (hl:d.x.kids.length<=1000):
  Calls Tryz.prog rY #[d.v,ts.v] w λr w'=>GY w (·=ph d.x to) r w'/\bG w w':=by
 have hdn:=cX.len hd
 have htn:=cX.len ht
 have hml:(ph d.x to).kids.length=d.x.kids.length:=by simp [ph]
 refine term_moved.cU _ _ _ _ _ _ _ _ _ ts w _ ((lh2 (a:=dG d) (b:=.rd ts (to.map eI)) hd ht).bF λb2 w1 H1=>H1.bF λb4 w2 H2=>?_)
 rw [hdn]
 refine H2.mkg pR d.x.kids.length (by omega) λks w3 sQ H3=>?_
 rw [B9] at H3
 have loop:∀(m i:Nat) (K:List Int) (w4:World),i+m=d.x.kids.length->K.length=d.x.kids.length->(∀j,j<i->K[j]? =(ph d.x to).kids[j]?)->LH F0 w w4 [.g b2,.g b4,oW ks K] [dG d,.rd ts (to.map eI)]->
   term_moved.eE ts b2 d.x.op d.ks d.x.n d.x.m d.x.u d.x.tx d.x.st.k d.x.st.n d.x.st.x b4 0 ⟨none,0,0⟩ 0 0 0 (ByteArray.mk #[]) 0 0 0 ks ((d.x.kids.length:Nat):Int) (i:Int) w4 λr w'=>GY w (·=ph d.x to) r w'/\bG w w':=by
  intro m
  induction m with
  |zero=>
   intro i K w4 hi hK hj H
   refine term_moved.aY _ _ _ _ _ _ _ _ _ _ _ _ _ _ _ _ _ _ _ _ _ _ _ _ _ _ (aI (decide_eq_false (by omega)) (H.aL λw5 H5=>⟨⟨⟨ph d.x to,ks⟩,rfl,rfl,?_,?_⟩,H5.fr⟩))
   .have e:K=(ph d.x to).kids:=List.ext_getElem? λj=>by
     rcases Nat.lt_or_ge j i with h|h
     .exact hj j h
     .rw [List.getElem?_eq_none (by omega),List.getElem?_eq_none (by omega)]
    show cX w5 ks (ph d.x to).kids
    rw [<-e]
    exact kZ (H5.get 2)
   .exact uE λb hb=>(H5.new _ (cR (i:=2) rfl) b hb).resolve_right id
  |succ m ih=>
   intro i K w4 hi hK hj H
   have gk:d.x.kids[i]? =some (d.x.kids[i]'(by omega)):=g8 (by omega)
   generalize d.x.kids[i]'(by omega)=k at gk
   have hkr:=hk k (cR gk)
   obtain ⟨t,ht1,O2⟩:=NQ gk hkr
   obtain ⟨p,hp⟩:=JA (H.get 2) (by omega)
   have SB:=n9 (H.get 2)
   refine term_moved.aY _ _ _ _ _ _ _ _ _ _ _ _ _ _ _ _ _ _ _ _ _ _ _ _ _ _ (aQ (decide_eq_true (by omega)) ⟨by omega,by omega,(show cX w4 d.ks d.x.kids from H.getD 0).cell gk (by omega) λq hq hc=>⟨k,hc,by omega,by omega,(show cX w4 ts to from H.getD 1).cell ht1 rfl λq2 E1 Wg=>⟨t,Wg,by omega,by omega,?_⟩⟩⟩)
   rw [hp]
   refine ub (H.LQ 2 (Int.toNat (i:Int) *1) rfl hp (by simp;omega) λw5 H5=>?_)
   rw [aX _ (by omega)]
   have e1:Int.toNat (i:Int) *1=i:=by omega
   rw [e1] at H5
   refine ih (i+1) (K.set i t) w5 (by omega) (by rw [List.length_set];exact hK) (λj Y4=>?_) (by rw [oW,List.map_set];exact H5)
   rcases Nat.lt_or_ge j i with h|h
   .rw [List.getElem?_set_ne (by omega)]
    exact hj j h
   .rw [show j=i by omega,List.getElem?_set_self (by omega)]
    exact O2.symm
 exact loop d.x.kids.length 0 _ w3 (by omega) (by simp) (λj h=>absurd h (by omega)) H3
theorem IN {w:World} {d:Nd} {ts:Sl} {to:List Int} (hd:d.P w) (ht:cX w ts to) (hk:∀k∈d.x.kids,0<=k/\k<(to.length:Int)) (hl:d.x.kids.length<=1000):
  Calls Tryz.prog il #[d.v,ts.v] w λr w'=>GY w (·=ph d.x to) r w'/\bG w w':=by
 have hdn:=cX.len hd
 have htn:=cX.len ht
 have hml:(ph d.x to).kids.length=d.x.kids.length:=by simp [ph]
 refine enthymemeref07_Moved.cU _ _ _ _ _ _ _ _ _ ts w _ ((lh2 (a:=dG d) (b:=.rd ts (to.map eI)) hd ht).bF λb2 w1 H1=>H1.bF λb4 w2 H2=>?_)
 have loop:∀(m i:Nat) (ks:Sl) (w4:World),i+m=d.x.kids.length->LH F0 w w4 [.g b2,.g b4,oW ks ((ph d.x to).kids.take i)] [dG d,.rd ts (to.map eI)]->
   enthymemeref07_Moved.eE ts b2 d.x.op d.ks d.x.n d.x.m d.x.u d.x.tx d.x.st.k d.x.st.n d.x.st.x b4 0 ⟨none,0,0⟩ 0 0 0 (ByteArray.mk #[]) 0 0 0 ks (i:Int) w4 λr w'=>GY w (·=ph d.x to) r w'/\bG w w':=by
  intro m
  induction m with
  |zero=>
   intro i ks w4 hi H
   refine enthymemeref07_Moved.aY _ _ _ _ _ _ _ _ _ _ _ _ _ _ _ _ _ _ _ _ _ _ _ _ _ (aI (decide_eq_false (by omega)) (H.aL λw5 H5=>⟨⟨⟨ph d.x to,ks⟩,rfl,rfl,?_,?_⟩,H5.fr⟩))
   .have e:(ph d.x to).kids.take i=(ph d.x to).kids:=List.take_of_length_le (by omega)
    show cX w5 ks (ph d.x to).kids
    have h:=kZ (H5.get 2)
    rwa [e] at h
   .have hb:=H5.new _ (cR (i:=2) rfl)
    exact uE λb h=>(hb b h).resolve_right id
  |succ m ih=>
   intro i ks w4 hi H
   have gk:d.x.kids[i]? =some (d.x.kids[i]'(by omega)):=g8 (by omega)
   generalize d.x.kids[i]'(by omega)=k at gk
   have hkr:=hk k (cR gk)
   obtain ⟨t,ht1,O2⟩:=NQ gk hkr
   have SB:=n9 (H.get 2)
   rw [List.length_take,Nat.min_eq_left (by omega)] at SB
   refine enthymemeref07_Moved.aY _ _ _ _ _ _ _ _ _ _ _ _ _ _ _ _ _ _ _ _ _ _ _ _ _ (aQ (decide_eq_true (by omega)) ⟨by omega,by omega,(show cX w4 d.ks d.x.kids from H.getD 0).cell gk (by omega) λq hq hc=>⟨k,hc,by omega,by omega,(show cX w4 ts to from H.getD 1).cell ht1 rfl λq2 E1 Wg=>⟨t,Wg,?_⟩⟩⟩)
   refine H.uj 2 pR rfl (λs2 w5 H5=>?_) (by omega)
   rw [aX _ (by omega)]
   refine ih (i+1) s2 w5 (by omega) ?_
   rw [List.take_add_one,O2,oW,List.map_append]
   exact H5
 exact loop d.x.kids.length 0 ⟨none,0,0⟩ w2 (by omega) (H2.n7 bP 1)
def yD (l:List Nd) (d:Nd):List Nd:=if (dI (xs l) d.x).2≠0\/4096<=l.length\/eM d.x (dI (xs l) d.x).1∈xs l then l else l++[⟨eM d.x (dI (xs l) d.x).1,d.ks⟩]
theorem CF {l:List Nd} {d:Nd} (h:(eU (xs l) d.x).2.2=0):xs (yD l d)=(eU (xs l) d.x).1:=by
 have nT:(xs l).length=l.length:=by simp [xs]
 unfold eU at h ⊢
 unfold yD
 split at h
 .rename_i h0
  exact absurd h h0
 rename_i h0
 rw [if_neg h0]
 cases hi:l4 (eM d.x (dI (xs l) d.x).1) (xs l) 0 with
 |some i=>rw [if_pos (.inr (.inr (cR (rv hi).2)))]
 |none=>
  rw [hi] at h
  dsimp only at h ⊢
  split at h
  .cases h
  rename_i h4
  rw [if_neg h4,if_neg (by
   rintro (h|h|h)
   .exact h0 h
   .omega
   .exact tm hi h)]
  simp [xs]
theorem Mf {l:List Nd} {d e:Nd} (h:e∈yD l d):e∈l\/(e.ks=d.ks/\e.x.kids=d.x.kids):=by
 unfold yD at h
 split at h
 .exact .inl h
 .rcases fS.1 h with h|h
  .exact .inl h
  .simp only [cS,fF,or_false] at h
   subst h
   exact .inr ⟨rfl,rfl⟩
theorem Me (l:List Nd) (d:Nd):∃r,yD l d=l++r:=by
 unfold yD
 split
 .exact ⟨[],by simp⟩
 .exact ⟨_,rfl⟩
theorem WJ {w:World} {bb:Nat} {l:List Nd} {own:List Nat} {d:Nd} (h:ml w bb l own) (hP:∀e∈d::l,e.P w) (hk:pK.P w) (hdj:∀e∈d::l,∀b∈(dG e).fp,b∉own) (hko:∀b∈pK.fp,b∉own) (ho:LD d.x) (W:Mc d.x) (hg:Vg (xs l)) (hu:∀e∈xs l,0<=e.u) (hl:l.length<=10000):
  Calls Tryz.prog nj #[.pointer (some (bD bb)),d.v] w λr w'=>r=.returned (.tuple #[.i (eU (xs l) d.x).2.1,.i (eU (xs l) d.x).2.2])/\GS w bb own (yD l d) w':=by
 have nT:(xs l).length=l.length:=by simp [xs]
 have H:LH (·∈own) w w [.bu bb own l] [.all ((d::l).map dG),pK]:=LH.xS _ _ (by
  intro e he
  simp only [cS,fF,or_false] at he
  subst he
  exact ⟨h,λb hb=>aH.1 hb⟩) (by
  simp only [List.flatMap_cons,List.flatMap_nil,Cf]
  exact l8 own) (by
  intro e he
  simp only [cS,fF,or_false] at he
  have no:∀{b:Nat},b∉own->∀e'∈[En.bu bb own l],b∉e'.fp:=λhb e' mG hm=>by
   simp only [cS,fF,or_false] at mG
   subst mG
   exact hb (aH.1 hm)
  rcases he with rfl|rfl
  .refine ⟨λe he=>?_,λb hb=>no ?_⟩
   .obtain ⟨a,ha,rfl⟩:=pX.1 he
    exact hP a ha
   .obtain ⟨e,he,hb⟩:=mI.1 (aH.1 hb)
    obtain ⟨a,ha,rfl⟩:=pX.1 he
    exact hdj a ha b hb
  .exact ⟨hk,λb hb=>no (hko b hb)⟩)
 have P:∀{w1:World} {L:List En},LH (·∈own) w w1 L [.all ((d::l).map dG),pK]->∀e∈d::l,e.P w1:=λH e he=>(show ∀x∈(d::l).map dG,x.P _ from H.getD 0) (dG e) (pX.2 ⟨e,he,rfl⟩)
 refine term_builder_add.cU _ _ _ _ _ _ _ _ _ _ w _ (H.bF λb3 w1 H1=>H1.aK (Mj (own:=own) (H1.get 0) (λe he=>P H1 e (by simp [he])) (P H1 d (by simp)) (H1.getD 1) ho (by omega) hg.val) ?_)
 rintro _ w2 rfl H2
 refine ⟨_,_,_,_,rfl,H2.bF λb6 w3 H3=>dX (λh0=>H3.aL λw4 H4=>⟨?_,own,?_,H4.fr,λx hx=>.inl hx⟩) (λh0=>H3.aL λw4 H4=>?_)⟩
 .unfold eU;rw [if_pos h0]
 .unfold yD;rw [if_pos (.inl h0)];exact H4.get 0
 have hsv:=ug.1 (Cq hg.val h0)
 have hsr:dI (xs l) d.x=((dI (xs l) d.x).1,0):=by rw [<-h0]
 have hx:eU (xs l) d.x=match l4 (eM d.x (dI (xs l) d.x).1) (xs l) 0 with
   |some i=>(xs l,(i:Int),0)
   |none=>if 4096<=(xs l).length then ([],0,4) else (xs l++[eM d.x (dI (xs l) d.x).1],((xs l).length:Int),0):=by
  unfold eU;rw [if_neg (by omega)]
  try rfl
 have hN:yD l d=if 4096<=l.length\/eM d.x (dI (xs l) d.x).1∈xs l then l else l++[⟨eM d.x (dI (xs l) d.x).1,d.ks⟩]:=by
  unfold yD
  simp only [h0,ne_eq,not_true_eq_false,false_or]
 generalize (dI (xs l) d.x).1=s at *
 let e:Nd:=⟨eM d.x s,d.ks⟩
 have We:Mc e.x:=⟨W.op,W.ks,W.kl,W.n,W.m,W.u,W.tx,⟨by show _<=s.k;omega,by show s.k<=_;omega⟩,⟨by show _<=s.n;omega,by show s.n<=_;omega⟩,⟨by show _<=s.x;omega,by show s.x<=_;omega⟩⟩
 refine H4.aK (Uf (d:=e) (own:=own) (H4.get 0) (P H4 d (by simp)) We hu) ?_
 rintro _ w5 rfl H5
 refine ⟨_,_,rfl,?_⟩
 have hex:e.x=eM d.x s:=rfl
 rw [hex]
 unfold yh
 cases hi:l4 (eM d.x s) (xs l) 0 with
 |some i=>
  rw [hi] at hx
  refine aQ rfl ⟨by rw [hx],own,?_,H5.fr,λx hx=>.inl hx⟩
  rw [hN,if_pos (.inr (cR (rv hi).2))]
  exact H5.get 0
 |none=>
  rw [hi] at hx
  dsimp only at hx
  have tj:=tm hi
  have hr:ml w5 bb l own:=H5.get 0
  obtain ⟨sl,mp,mv,uV,c1,um,c2,_,_,hPu,_,_⟩:=id hr
  have iO:aO w5 aE 9 sl (l.flatMap Nd.c):=hPu _ (cR (i:=1) rfl)
  have hn:sl.n=l.length:=Nd.b0 iO.iD
  refine aI rfl ⟨sl,cellAt (p:=bD bb) (hPu _ (cR (i:=0) rfl)) rfl rfl,aN (λh4=>⟨?_,own,?_,H5.fr,λx hx=>.inl hx⟩) (λh4=>?_)⟩
  .rw [hx,if_pos (by omega)]
  .rw [hN,if_pos (.inl (by omega))];exact hr
  rw [if_neg (by omega)] at hx
  rw [if_neg (by rintro (h|h);omega;exact tj h)] at hN
  have hv:Vg (xs l++[eM d.x s]):=.snoc hg (va hsr) tj
  refine H5.ZV 0 rfl (Sa (d:=e) hr (P H5 d (by simp)) (λb hb=>hdj d (by simp) b hb) We hu (by omega) tj (λv9=>?_)) ?_
  .have:=OR hv (i:=(xs l).length) (d:=eM d.x s) (by simp) v9
   rwa [List.take_left] at this
  .rintro _ w6 iZ rfl H6
   refine ⟨_,rfl,by rw [hx,nT],iZ,?_,H6.fr,λx hx=>(H6.new _ (cR (i:=0) rfl) x (aH.2 hx)).symm⟩
   rw [hN]
   exact H6.get 0
def BH (s:Sl):Sl:=⟨if s.n=0 then s.a else s.a.map (·.add (0 *9)),s.n - 0,s.n - 0⟩
theorem Eu {w:World} {s:Sl} {vs:List Value} (h:jU 9 w s vs):jU 9 w (BH s) vs/\aZ (BH s)=aZ s:=by
 have ha:(BH s).a=s.a:=by
  show (if s.n=0 then s.a else s.a.map (·.add (0 *9)))=s.a
  split
  .rfl
  .cases s.a with
   |none=>rfl
   |some p=>rw [Nat.zero_mul,Option.map_some,uN]
 refine ⟨⟨h.1,Nat.le_refl _,λe=>by have:=h.2.2.1 (by rw [<-ha];exact e);exact ⟨this.1,this.1⟩,λi v hv=>?_⟩,by unfold aZ;rw [ha]⟩
 obtain ⟨p,hp,hc⟩:=h.2.2.2 i v hv
 exact ⟨p,by rw [ha];exact hp,hc⟩
theorem VM (s:Sl) (hc:s.n<=s.c) (w:World):Calls Tryz.prog fT #[s.v] w λr w'=>r=.returned (BH s).v/\bG w w':=
 slices_Clip_sl_api_Node_api_Node.ok s w _ ⟨by omega,by omega,by omega,by omega,rfl,Fr.refl _ _⟩
theorem RB {w:World} {bb:Nat} {l lg r:List Nd} {own:List Nat} {gs:Sl} (h:ml w bb l own) (hg:GP w gs lg) (he:l=lg++r):
  Calls Tryz.prog lP #[.pointer (some (bD bb)),.agg #[gs.v]] w λr w'=>(∃y:Sl,r=.returned (.agg #[y.v])/\jU 9 w' y (l.flatMap Nd.c)/\∀b∈(En.iD 9 y (l.flatMap Nd.c)).fp,b∈own\/b∈(En.gr gs lg).fp)/\bG w w':=by
 obtain ⟨s,mp,mv,uV,c1,um,c2,ho,_,hP,_,_⟩:=h
 have iO:aO w aE 9 s (l.flatMap Nd.c):=hP _ (cR (i:=1) rfl)
 have hn:s.n=l.length:=Nd.b0 iO.iD
 have gn:=oT hg
 have KF:s.n<=s.c:=iO.iD.2.1
 have H:LH F0 w w [] [.c bb [s.v,.map (some mp),.map (some mv)] gJ,.row aE 9 s (l.flatMap Nd.c),.gr gs lg]:=mu _ (by
  intro e he
  simp only [cS,fF,or_false] at he
  rcases he with rfl|rfl|rfl
  .exact hP _ (cR (i:=0) rfl)
  .exact iO
  .exact cE.2 hg)
 refine term_builder_graph.cU _ gs w _ (H.bF λb3 w1 H1=>H1.bF λb4 w2 H2=>H2.aL λw3 H3=>⟨s,cellAt (p:=bD bb) (H3.getD 0) rfl rfl,aJ (λhs=>H3.aL λw4 H4=>?_) (λhs=>⟨s,cellAt (p:=bD bb) (H3.getD 0) rfl rfl,H3.aK (VM s KF w3) ?_⟩)⟩)
 .have hr:r=[]:=by
   rw [he,qq] at hn
   exact List.length_eq_zero_iff.1 (by omega)
  subst hr
  rw [Cf] at he
  subst he
  exact ⟨⟨gs,rfl,(cE.1 (H4.getD 2)).1,λb hb=>.inr (rp.2 (.inl hb))⟩,H4.fr⟩
 .rintro _ w4 rfl H4
  obtain ⟨q1,q2⟩:=Eu (H4.getD 1:aO _ _ _ _ _).iD
  refine ⟨_,rfl,H4.aL λw5 H5=>⟨⟨BH s,rfl,(Eu (H5.getD 1:aO _ _ _ _ _).iD).1,λb hb=>.inl ?_⟩,H5.fr⟩⟩
  have hb:b∈(if l.flatMap Nd.c=[] then [] else aZ (BH s)):=hb
  rw [q2] at hb
  split at hb
  .cases hb
  .rw [ho]
   exact mI.2 ⟨_,cR (i:=1) rfl,hb⟩
def x8 (w:World) (B:Nat->Prop) (j:List Nx×List Int×Int) (y t:Sl) (w':World):Prop:=GR w B j.1 y w'/\cX w' t j.2.1/\∀b∈(En.rd t (j.2.1.map eI)).fp,w.heap.size<=b
theorem x8.err (w w':World) (B:Nat->Prop) (e:Int):x8 w B ([],[],e) ⟨none,0,0⟩ ⟨none,0,0⟩ w':=⟨GR.nil _ _ _,Rd.nil _,λb hb=>by cases hb⟩
theorem YK {d:Nx} {to:List Int} (h:Mc d) (ht:∀t∈to,oo t):Mc (ph d to):=⟨h.op,λk hk=>by
 obtain ⟨a,_,rfl⟩:=pX.1 hk
 rw [List.getD_eq_getElem?_getD]
 cases hg:to[a.toNat]? with
 |none=>exact ⟨by decide,by decide⟩
 |some t=>exact ht t (cR hg),by have:=h.kl;simpa [ph] using this,h.n,h.m,h.u,h.tx,h.sk,h.sn,h.sx⟩
theorem OE {w:World} {gs hs:Sl} {lg lh:List Nd} (hg:GP w gs lg) (hh:GP w hs lh) (hk:pK.P w) (mg:tT (xs lg)) (mh:tT (xs lh)) (l1:lg.length<=500) (l2:lh.length<=500):
  Calls Tryz.prog qJ #[.agg #[gs.v],.agg #[hs.v]] w λr w'=>(∃y t:Sl,r=.returned (.tuple #[.agg #[y.v],t.v,.i (gp (xs lg) [] (xs lh)).2.2])/\x8 w (·∈(En.gr gs lg).fp) (gp (xs lg) [] (xs lh)) y t w')/\bG w w':=by
 have gn:=oT hg
 have hn:=oT hh
 have nT:(xs lh).length=lh.length:=by simp [xs]
 have Wm:(xs lg).length=lg.length:=by simp [xs]
 have H:LH F0 w w [] [.gr gs lg,.gr hs lh,pK]:=mu _ (by
  intro e he
  simp only [cS,fF,or_false] at he
  rcases he with rfl|rfl|rfl
  .exact cE.2 hg
  .exact cE.2 hh
  .exact hk)
 have loop:∀(m i b2 b3 b4 bb:Nat) (own:List Nat) (lb:List Nd) (to:List Int) (ts:Sl) (E:List En) (w1:World),i+m=lh.length->tT (xs lb)->lb.length<=500+i->(∃r,lb=lg++r)->to.length=i->(∀t∈to,0<=t/\t<=10000)->(∀e∈lb,e∈lg\/dG e∈E)->(∀e∈E,∀b∈e.fp,w.heap.size<=b)->
   gp (xs lb) to ((xs lh).drop i)=gp (xs lg) [] (xs lh)->LH F0 w w1 [.g b2,.g b3,.g b4,.bu bb own lb,oW ts (to++List.replicate m 0)] ([.gr gs lg,.gr hs lh,pK]++E)->
   term_Join.eE b2 gs b4 ⟨none,0,0⟩ (some (bD bb)) ts hs ((hs.n:Nat):Int) (i:Int) w1 λr w'=>(∃y t:Sl,r=.returned (.tuple #[.agg #[y.v],t.v,.i (gp (xs lg) [] (xs lh)).2.2])/\x8 w (·∈(En.gr gs lg).fp) (gp (xs lg) [] (xs lh)) y t w')/\bG w w':=by
  intro m
  induction m with
  |zero=>
   intro i b2 b3 b4 bb own lb to ts E w1 hi mb hlb U1 U5 htr hE hEf hj H1
   obtain ⟨r,hr⟩:=U1
   rw [sP (by omega)] at hj
   rw [<-hj]
   refine term_Join.aY _ _ _ _ _ _ _ _ _ _ _ (aI (decide_eq_false (by omega)) (H1.aK (RB (H1.get 3) (cE.1 (H1.getD 0)) hr) ?_))
   rintro _ w2 ⟨y,rfl,hy,hf⟩ H2
   refine ⟨_,rfl,λw3 f=>?_⟩
   have H3:=H2.ghost f (by simp)
   have tj:∀b∈(En.iD 9 y (lb.flatMap Nd.c)).fp,b∉[b2,b4]:=λb hb hm=>by
    have hg:En.g b∈[En.g b2,.g b3,.g b4,.bu bb own lb,oW ts (to++List.replicate 0 0)]:=by
     simp only [cS,fF,or_false] at hm
     rcases hm with rfl|rfl<;>simp
    rcases hf b hb with h|h
    .exact oB H2 (i:=3) rfl (Ml w2 bb own lb) hg (aH.2 h)
    .exact H2.dj (.gr gs lg) (by simp) b h (.g b) hg (by simp [En.g])
   have hy3:jU 9 w3 y (lb.flatMap Nd.c):=(En.iD 9 y (lb.flatMap Nd.c)).st w2 w3 (λb hb hl=>f.gY b hl (tj b hb)) hy
   have zL:aO w3 bP 1 ts ((to++List.replicate 0 0).map eI):=H3.get 4
   have qB:∀b∈aZ ts,w.heap.size<=b:=λb hb=>(H3.new _ (cR (i:=4) rfl) b hb).resolve_right id
   refine ⟨⟨y,ts,rfl,⟨⟨lb,rfl,⟨hy3,λa ha=>?_⟩,λb hb=>?_⟩⟩,?_,uE qB⟩,H3.fr⟩
   .rcases hE a ha with h|h
    .exact (cE.1 (H3.getD 0)).2 a h
    .exact H3.rd (dG a) (by simp [h])
   .rcases rp.1 hb with hb|⟨a,ha,hb⟩
    .rcases hf b hb with h|h
     .exact .inr ((H2.new _ (cR (i:=3) rfl) b (aH.2 h)).resolve_right id)
     .exact .inl h
    .rcases hE a ha with h|h
     .exact .inl (rp.2 (.inr ⟨a,h,hb⟩))
     .exact .inr (hEf _ h b hb)
   .rw [List.replicate_zero,Cf] at zL
    exact kZ zL
  |succ m ih=>
   intro i b2 b3 b4 bb own lb to ts E w1 hi mb hlb U1 U5 htr hE hEf hj H1
   have gt:lh[i]? =some (lh[i]'(by omega)):=g8 (by omega)
   have yU:(xs lh).drop i=(lh[i]'(by omega)).x::(xs lh).drop (i+1):=by
    rw [sC (by omega:i<(xs lh).length)]
    simp [xs]
   generalize lh[i]'(by omega)=d at gt yU
   have Qa:=cR gt
   have gx:=sv gt
   have md:yC d.x:=mh.nd d.x (cR gx)
   have xr:=mh.vg.kids gx
   have wd:=(mh.gd (by omega) d.x (cR gx)).wd
   rw [yU,lF] at hj
   refine term_Join.aY _ _ _ _ _ _ _ _ _ _ _ (aQ (decide_eq_true (by omega)) (kD (cE.1 (H1.getD 1)) rfl gt λp hp c=>⟨d.x.op,d.ks,d.x.n,d.x.m,d.x.u,d.x.tx,d.x.st.k,d.x.st.n,d.x.st.x,c.c0,c.c1,c.c2,c.c3,c.c4,c.c5,c.c6,c.c7,c.c8,H1.bF λpH w2 H2=>H2.aL λw3 H3=>?_⟩))
   refine H3.ri (RC ((cE.1 (H3.getD 1)).2 d Qa) (kZ (H3.get 4)) (λk hk=>by have:=xr k hk;rw [qq,U5];omega) (by have:=md.kl;omega)) ?_
   rintro _ w4 ⟨e,rfl,hex,Wh,UQ⟩ _ F4
   have hex:e.x=ph d.x to:=hex.trans (NP λk hk=>by have:=xr k hk;omega)
   have H4:=F4.rd (dG e) Wh UQ
   have me:yC e.x:=hex▸Fp md
   have hti:∀t∈to,oo t:=λt ht=>by have:=htr t ht;exact ⟨by omega,by omega⟩
   have P4:∀a∈e::lb,a.P w4/\∃x∈([En.gr gs lg,.gr hs lh,pK]++E)++[dG e],∀b∈(dG a).fp,b∈x.fp:=λa ha=>by
    rcases cS.1 ha with rfl|ha
    .exact ⟨Wh,_,uD _ (by simp),λb hb=>hb⟩
    .rcases hE a ha with h|h
     .exact ⟨(cE.1 (H4.getD 0)).2 a h,.gr gs lg,by simp,λb hb=>rp.2 (.inr ⟨a,h,hb⟩)⟩
     .exact ⟨H4.rd (dG a) (by simp [h]),dG a,by simp [h],λb hb=>hb⟩
   have Yc:∀x∈([En.gr gs lg,.gr hs lh,pK]++E)++[dG e],∀b∈x.fp,b∉own:=λx hx b hb hm=>H4.dj x hx b hb _ (cR (i:=3) rfl) (aH.2 hm)
   have hu:∀a∈xs lb,0<=a.u:=λa ha=>(mb.nd a ha).u.1
   refine ⟨e.x.op,e.ks,e.x.n,e.x.m,e.x.u,e.x.tx,e.x.st.k,e.x.st.n,e.x.st.x,rfl,?_⟩
   refine H4.ZV 3 rfl (WJ (d:=e) (H4.get 3) (λa ha=>(P4 a ha).1) (H4.getD 2) (λa ha b hb=>by
    obtain ⟨_,x,hx,ru⟩:=P4 a ha
    exact Yc x hx b (ru b hb)) (Yc pK (by simp)) (me.sp.tok (by omega)) (hex▸YK wd hti) mb.vg hu (by omega)) ?_
   rintro _ w5 iZ rfl H5
   rw [<-hex] at hj
   refine ⟨_,_,rfl,dX (λh0=>H5.aL λw6 H6=>?_) (λh0=>?_)⟩
   .rw [if_pos h0] at hj
    rw [<-hj]
    exact ⟨⟨⟨none,0,0⟩,⟨none,0,0⟩,rfl,x8.err _ _ _ _⟩,H6.fr⟩
   rw [if_neg (λh=>h h0)] at hj
   obtain ⟨_,k,Di,sM,_⟩:=uO h0
   have hlen:=vD (xs lb) e.x
   have Qh:=(ov.1 sM).1
   simp only [xs,Yk] at hlen Qh
   obtain ⟨q,hq⟩:=JA (H5.get 4) (by simp;omega)
   have zL:=n9 (H5.get 4)
   rw [qq,List.length_replicate,U5] at zL
   refine ⟨by omega,by omega,?_⟩
   rw [hq]
   refine ub (H5.LQ 4 (Int.toNat (i:Int) *1) rfl hq (by simp;omega) λw6 H6=>?_)
   rw [aX _ (by omega)]
   have e1:Int.toNat (i:Int) *1=i:=by omega
   rw [e1] at H6
   have e2:((to++List.replicate (m+1) 0).map eI).set i (eI (eU (xs lb) e.x).2.1)=((to++[(eU (xs lb) e.x).2.1])++List.replicate m 0).map eI:=by
    rw [<-List.map_set,List.replicate_succ,List.set_append,if_neg (by omega),show i - to.length=0 by omega,List.set_cons_zero,AU]
    rfl
   have H6:LH F0 w w6 [.g b2,.g b3,.g b4,.bu bb iZ (yD lb e),oW ts ((to++[(eU (xs lb) e.x).2.1])++List.replicate m 0),.g pH] ([.gr gs lg,.gr hs lh,pK]++E++[dG e]):=by
    rw [show oW ts ((to++[(eU (xs lb) e.x).2.1])++List.replicate m 0)=.row bP 1 ts (((to++List.replicate (m+1) 0).map eI).set i (eI (eU (xs lb) e.x).2.1)) by rw [e2]]
    exact H6
   rw [AU [En.gr gs lg,.gr hs lh,pK] E [dG e]] at H6
   obtain ⟨r,hr⟩:=U1
   obtain ⟨r2,Dl⟩:=Me lb e
   refine ih (i+1) b2 b3 b4 bb iZ (yD lb e) (to++[(eU (xs lb) e.x).2.1]) ts (E++[dG e]) w6 (by omega) (by rw [CF h0];exact wY mb me h0) ?_ ⟨r++r2,by rw [Dl,hr,AU]⟩ (by simp [U5]) (λt ht=>?_) (λa ha=>?_) (λx hx b hb=>?_) (by rw [CF h0];exact hj) (H6.take 5)
   .have:=congrArg List.length (CF h0)
    simp only [xs,Yk] at this
    omega
   .rcases fS.1 ht with h|h
    .exact htr t h
    .simp only [cS,fF,or_false] at h
     rw [h,Di]
     omega
   .rcases Mf ha with h|⟨h1,h2⟩
    .exact (hE a h).imp id λh=>List.mem_append_left _ h
    .refine .inr (uD _ ?_)
     show dG a∈[dG e]
     unfold dG
     rw [h1,h2]
     simp
   .rcases fS.1 hx with h|h
    .exact hEf x h b hb
    .simp only [cS,fF,or_false] at h
     subst h
     exact Nat.le_trans H3.fr.size (UQ b hb)
 refine term_Join.cU gs hs w _ (H.bF λb2 w1 H1=>H1.bF λb3 w2 H2=>H2.bF λb4 w3 H3=>?_)
 refine H3.ri (WK (cE.1 (H3.getD 0)) mg.vg (λd hd=>(mg.gd (by omega) d hd).wd) (by omega)) ?_
 rintro _ w4 ⟨bb,own,rfl,hr,hf⟩ _ F4
 have H4:=F4.own (.bu bb own lg) hr (λb hb=>hf b (aH.1 hb))
 refine ⟨_,rfl,?_⟩
 rw [hn]
 refine H4.mkg pR lh.length (by omega) λts w5 zL H5=>?_
 rw [B9] at H5
 have:=loop lh.length 0 b2 b3 b4 bb own lg [] ts [] w5 (by omega) mg (by omega) ⟨[],by simp⟩ rfl (by simp) (λe he=>.inl he) (by simp) (by rw [List.drop_zero]) (by rw [Cf];exact H5)
 rw [hn] at this
 exact this
theorem Py {w:World} {gs hs:Sl} {lg lh:List Nd} (hg:GP w gs lg) (hh:GP w hs lh) (mg:tT (xs lg)) (mh:tT (xs lh)) (l1:lg.length<=500) (l2:lh.length<=500):
  Calls Tryz.prog kP #[gs.v,hs.v] w λr w'=>(∃y t:Sl,r=.returned (.tuple #[y.v,t.v,.i (gp (xs lg) [] (xs lh)).2.2])/\x8 w (·∈(En.gr gs lg).fp) (gp (xs lg) [] (xs lh)) y t w')/\bG w w':=by
 have gn:=oT hg
 have hn:=oT hh
 have nT:(xs lh).length=lh.length:=by simp [xs]
 have H:LH F0 w w [] [.gr gs lg,.gr hs lh,.gr gs lg]:=mu _ (by
  intro e he
  simp only [cS,fF,or_false] at he
  rcases he with rfl|rfl|rfl
  .exact cE.2 hg
  .exact cE.2 hh
  .exact cE.2 hg)
 have loop:∀(m i:Nat) (cs:Sl) (lc:List Nd) (to:List Int) (ts:Sl) (w1:World),i+m=lh.length->tT (xs lc)->lc.length<=500+i->to.length=i->(∀b∈(En.gr cs lc).fp,b∈(En.gr gs lg).fp\/w.heap.size<=b)->gp (xs lc) to ((xs lh).drop i)=gp (xs lg) [] (xs lh)->
   LH F0 w w1 [oW ts to] [.gr gs lg,.gr hs lh,.gr cs lc]->enthymemeref07_Join.L0 cs hs ts (i:Int) w1 λr w'=>(∃y t:Sl,r=.returned (.tuple #[y.v,t.v,.i (gp (xs lg) [] (xs lh)).2.2])/\x8 w (·∈(En.gr gs lg).fp) (gp (xs lg) [] (xs lh)) y t w')/\bG w w':=by
  intro m
  induction m with
  |zero=>
   intro i cs lc to ts w1 hi mc hlc U5 hf hj H1
   rw [sP (by omega)] at hj
   rw [<-hj]
   have qB:∀b∈aZ ts,w.heap.size<=b:=λb hb=>(H1.new _ (cR (i:=0) rfl) b hb).resolve_right id
   exact enthymemeref07_Join.cC _ _ _ _ _ _ (aI (decide_eq_false (by omega)) ⟨⟨cs,ts,rfl,⟨⟨lc,rfl,cE.1 (H1.getD 2),hf⟩⟩,kZ (H1.get 0),uE qB⟩,H1.fr⟩)
  |succ m ih=>
   intro i cs lc to ts w1 hi mc hlc U5 hf hj H1
   have gt:lh[i]? =some (lh[i]'(by omega)):=g8 (by omega)
   have yU:(xs lh).drop i=(lh[i]'(by omega)).x::(xs lh).drop (i+1):=by
    rw [sC (by omega:i<(xs lh).length)]
    simp [xs]
   generalize lh[i]'(by omega)=d at gt yU
   have Qa:=cR gt
   have gx:=sv gt
   have md:yC d.x:=mh.nd d.x (cR gx)
   have xr:=mh.vg.kids gx
   rw [yU,lF] at hj
   have hxc:(xs lc).length=lc.length:=by simp [xs]
   refine enthymemeref07_Join.cC _ _ _ _ _ _ (aQ (decide_eq_true (by omega)) (kD (cE.1 (H1.getD 1)) rfl gt λp hp c=>⟨d.x.op,d.ks,d.x.n,d.x.m,d.x.u,d.x.tx,d.x.st.k,d.x.st.n,d.x.st.x,c.c0,c.c1,c.c2,c.c3,c.c4,c.c5,c.c6,c.c7,c.c8,?_⟩))
   refine H1.BG (IN ((cE.1 (H1.getD 1)).2 d Qa) (kZ (H1.get 0)) (λk hk=>by have:=xr k hk;omega) (by have:=md.kl;omega)) ?_
   rintro _ w2 ⟨e,rfl,hex,Wh,UQ⟩ _ F2
   have H2:=F2.rd (dG e) Wh UQ
   have me:yC e.x:=hex▸Fp md
   refine ⟨e.x.op,e.ks,e.x.n,e.x.m,e.x.u,e.x.tx,e.x.st.k,e.x.st.n,e.x.st.x,rfl,?_⟩
   refine (My (cE.1 (H2.getD 2)) (H2.getD 3) (mc.ok (by unfold lB;omega)) (me.sp.nok (by omega)) mc.kl).mono ?_
   rintro _ w3 ⟨⟨y,rfl,⟨ly,xy,Gy,Fy⟩⟩,f3⟩
   rw [<-hex] at hj
   have H3:=H2.nf (.gr y ly) f3 (cE.2 Gy) (λb hb=>by
    rcases Fy b hb with (h|h)|h
    .exact .inr (.inr ⟨.gr cs lc,by simp,h⟩)
    .exact .inr (.inr ⟨dG e,by simp,h⟩)
    .exact .inl h)
   refine ⟨_,_,_,rfl,dX (λh0=>?_) (λh0=>?_)⟩
   .rw [if_pos h0] at hj
    rw [<-hj]
    exact ⟨⟨⟨none,0,0⟩,⟨none,0,0⟩,rfl,x8.err _ _ _ _⟩,H3.fr⟩
   rw [if_neg (λh=>h h0)] at hj
   have zL:=n9 (H3.get 0)
   refine H3.YT 0 pR rfl (λt2 w4 H4 _ _=>?_) (by omega)
   rw [aX _ (by omega)]
   have hly:ly.length<=500+(i+1):=by
    have h1:=vD (xs lc) e.x
    rw [<-xy] at h1
    simp only [xs,Yk] at h1
    omega
   have H4:LH F0 w w4 [oW t2 (to++[(eU (xs lc) e.x).2.1])] [.gr gs lg,.gr hs lh,.gr cs lc,dG e,.gr y ly]:=by
    rw [oW,List.map_append]
    exact H4
   refine ih (i+1) y ly (to++[(eU (xs lc) e.x).2.1]) t2 w4 (by omega) (by rw [xy];exact wY mc me h0) hly (by simp [U5]) (λb hb=>?_) (by rw [xy];exact hj) (H4.forget [.gr gs lg,.gr hs lh,.gr y ly] (by simp))
   rcases Fy b hb with (h|h)|h
   .exact hf b h
   .exact .inr (Nat.le_trans H1.fr.size (UQ b h))
   .exact .inr (Nat.le_trans H2.fr.size h)
 exact enthymemeref07_Join.ok gs hs w _ (loop lh.length 0 gs lg [] ⟨none,0,0⟩ w (by omega) mg (by omega) rfl (λb h=>.inl h) (by rw [List.drop_zero]) (H.n7 bP 1))
theorem Fc:∀{r:List Nx} {g:List Nx} {to:List Int},(gp g to r).2.2≠0->(gp g to r).2.1=[]
 |[],g,to,h=>absurd rfl h
 |n::r,g,to,h=>by
  rw [lF] at h ⊢
  split at h
  .rename_i h0
   rw [if_pos h0]
  .rename_i h0
   rw [if_neg h0]
   exact Fc h
theorem _root_.Go.W.LH.Md {M:Nat->Prop} {w0 w w':World} {L D:List En} (H:LH M w0 w L D) (e1 e2:En) (f:bG w w') (h1:e1.P w') (h2:e2.P w') (d1:∀b∈e1.fp,w.heap.size<=b\/∃g∈D,b∈g.fp) (d2:∀b∈e2.fp,w.heap.size<=b\/∃g∈D,b∈g.fp):LH M w0 w' L (D++[e1,e2]):=by
 have H1:=H.nf (.all [e1,e2]) f (λe he=>by
  simp only [cS,fF,or_false] at he
  rcases he with rfl|rfl
  .exact h1
  .exact h2) (λb hb=>by
  obtain ⟨e,he,hx⟩:=mI.1 (aH.1 hb)
  simp only [cS,fF,or_false] at he
  rcases he with rfl|rfl
  .exact (d1 b hx).imp id .inr
  .exact (d2 b hx).imp id .inr)
 have sub:∀e∈[e1,e2],∀b∈e.fp,b∈(En.all [e1,e2]).fp:=λe he b hb=>aH.2 (mI.2 ⟨e,he,hb⟩)
 have H2:=H1.nf e1 (Fr.refl _ _) h1 λb hb=>.inr (.inr ⟨.all [e1,e2],by simp,sub e1 (by simp) b hb⟩)
 have H3:=H2.nf e2 (Fr.refl _ _) h2 λb hb=>.inr (.inr ⟨.all [e1,e2],by simp,sub e2 (by simp) b hb⟩)
 refine H3.forget _ λe he=>?_
 rcases fS.1 he with he|he
 .simp [he]
 .simp only [cS,fF,or_false] at he
  rcases he with rfl|rfl<;>simp
section
variable {W:World} {gs hs x ts rJ:Sl} {lg lh lx:List Nd} {Ue:Nat} {to:List Int}
theorem Qs (LJ:lh.length<=1000) (mh:tT (xs lh)) (mx:tT (xs lx)) (hlx:lx.length<=1000) (hk:to=[]\/(to.length=lh.length/\∀(i:Nat) (d:Nx),(xs lh)[i]? =some d->∃t:Int,to[i]? =some t/\vX (xs lx) (ph d to)=(t,true))):∀(m i:Nat) (w:World),i+m=to.length->
  LH F0 W w [.g Ue] [pK,.gr hs lh,.gr x lx,.rd ts (to.map eI),.rd rJ (to.map eI)]->enthymemelaw07_TermJoins.WC hs Ue x ts rJ (i:Int) w λr w'=>r=.returned (.bool true)/\bG W w':=by
 intro m
 induction m with
 |zero=>
  intro i w hi H
  have tn:=cX.len (show cX w ts to from H.getD 3)
  refine enthymemelaw07_TermJoins.D7 _ _ _ _ _ _ _ _ (aI (decide_eq_false (by omega)) (H.aK (Px w (H.getD 0)) ?_))
  rintro _ w1 rfl H1
  exact ⟨_,rfl,rfl,H1.fr⟩
 |succ m ih=>
  intro i w hi H
  have tn:=cX.len (show cX w ts to from H.getD 3)
  rcases hk with yV|⟨hl,hk⟩
  .rw [yV] at hi
   simp at hi
  have gt:lh[i]? =some (lh[i]'(by omega)):=g8 (by omega)
  generalize lh[i]'(by omega)=d at gt
  have Qa:=cR gt
  have gx:=sv gt
  have md:yC d.x:=mh.nd d.x (cR gx)
  have xr:=mh.vg.kids gx
  have Qf:=(ov.1 gt).1
  obtain ⟨t,ht,hf⟩:=hk i d.x gx
  have hn:=oT (cE.1 (H.getD 1))
  refine enthymemelaw07_TermJoins.D7 _ _ _ _ _ _ _ _ (aQ (decide_eq_true (by omega)) (kD (cE.1 (H.getD 1)) rfl gt λp hp _=>H.aL λw1 H1=>?_))
  have c:=v8 (cE.1 (H1.getD 1)) gt hp (X:=(i:Int)) rfl
  refine ⟨d.x.op,d.ks,d.x.n,d.x.m,d.x.u,d.x.tx,d.x.st.k,d.x.st.n,d.x.st.x,c.c0,c.c1,c.c2,c.c3,c.c4,c.c5,c.c6,c.c7,c.c8,?_⟩
  refine H1.ri (IN ((cE.1 (H1.getD 1)).2 d Qa) (show cX w1 rJ to from H1.getD 4) (λk hk=>by have:=xr k hk;omega) (by have:=md.kl;omega)) ?_
  rintro _ w2 ⟨e,rfl,hex,Wh,UQ⟩ _ F2
  have H2:=F2.rd (dG e) Wh UQ
  have me:yC e.x:=hex▸Fp md
  refine ⟨e.x.op,e.ks,e.x.n,e.x.m,e.x.u,e.x.tx,e.x.st.k,e.x.st.n,e.x.st.x,rfl,?_⟩
  refine H2.aK (VK (cE.1 (H2.getD 2)) (H2.getD 5) (H2.getD 0) (me.sp.tok (by omega)) (by omega) mx.vg.val (λa ha=>by have:=mx.kl a ha;unfold lB at this;omega)) ?_
  rintro _ w3 rfl H3
  rw [hex,hf]
  refine ⟨_,_,rfl,aI rfl ⟨by omega,by omega,(show cX w3 ts to from H3.getD 3).cell ht (by omega) λq hq hc=>⟨t,hc,dX (λh=>absurd rfl h) (λ_=>?_)⟩⟩⟩
  rw [aX _ (by omega)]
  exact ih (i+1) w3 (by omega) (H3.forget [pK,.gr hs lh,.gr x lx,.rd ts (to.map eI),.rd rJ (to.map eI)] (by simp))
theorem Qt {same:Sl} {n:Nat} (hn:n<=1000) (LJ:lh.length<=1000) (mh:tT (xs lh)) (mx:tT (xs lx)) (hlx:lx.length<=1000) (hk:to=[]\/(to.length=lh.length/\∀(i:Nat) (d:Nx),(xs lh)[i]? =some d->∃t:Int,to[i]? =some t/\vX (xs lx) (ph d to)=(t,true))):∀(m i:Nat) (w:World),i+m=n->
  LH F0 W w [.g Ue] [pK,.gr hs lh,.gr x lx,.rd ts (to.map eI),.rd rJ (to.map eI),.rd same ((iY n).map eI)]->enthymemelaw07_TermJoins.y6 hs Ue x ts rJ same (i:Int) w λr w'=>r=.returned (.bool true)/\bG W w':=by
 have hnl:(iY n).length=n:=by simp [iY]
 intro m
 induction m with
 |zero=>
  intro i w hi H
  have sn:=cX.len (show cX w same (iY n) from H.getD 5)
  exact enthymemelaw07_TermJoins.mK _ _ _ _ _ _ _ _ _ (aI (decide_eq_false (by omega)) (Qs LJ mh mx hlx hk to.length 0 w (by omega) (H.forget [pK,.gr hs lh,.gr x lx,.rd ts (to.map eI),.rd rJ (to.map eI)] (by simp))))
 |succ m ih=>
  intro i w hi H
  have sn:=cX.len (show cX w same (iY n) from H.getD 5)
  have gi:(iY n)[i]? =some (i:Int):=by rw [iY,Yj,List.getElem?_range (by omega)];rfl
  refine enthymemelaw07_TermJoins.mK _ _ _ _ _ _ _ _ _ (aQ (decide_eq_true (by omega)) ⟨by omega,by omega,(show cX w same (iY n) from H.getD 5).cell gi (by omega) λq hq hc=>⟨(i:Int),hc,dX (λh=>absurd rfl h) (λ_=>?_)⟩⟩)
  rw [aX _ (by omega)]
  exact ih (i+1) w (by omega) H
end
theorem Jm {W w:World} {ou:Int} {gs hs:Sl} {lg lh:List Nd} (mg:tT (xs lg)) (mh:tT (xs lh)) (l1:lg.length<=100) (l2:lh.length<=100) (hm:oo ou) (H:LH F0 W w [] [pK,.gr gs lg,.gr hs lh]):
  enthymemelaw07_TermJoins.dV ou gs hs w λr w'=>r=.returned (.bool true)/\bG W w':=by
 have gn:=oT (cE.1 (H.getD 1))
 have nT:(xs lh).length=lh.length:=by simp [xs]
 have Wm:(xs lg).length=lg.length:=by simp [xs]
 have jm:=Dq (g:=xs lg) (to:=[]) mg mh.nd
 have jf:(gp (xs lg) [] (xs lh)).2.1=[]\/((gp (xs lg) [] (xs lh)).2.1.length=lh.length/\∀(i:Nat) (d:Nx),(xs lh)[i]? =some d->∃t:Int,(gp (xs lg) [] (xs lh)).2.1[i]? =some t/\vX (gp (xs lg) [] (xs lh)).1 (ph d (gp (xs lg) [] (xs lh)).2.1)=(t,true)):=by
  by_cases h0:(gp (xs lg) [] (xs lh)).2.2=0
  .refine .inr ⟨?_,λi d hd=>?_⟩
   .obtain ⟨_,z,hz,hl⟩:=zQ h0
    rw [hz,List.nil_append,hl,nT]
   .have:=B5 (g:=xs lg) (to:=[]) mg mh.nd h0 (λi d hd k hk=>by have:=mh.vg.kids hd k hk;rw [JH,Nat.zero_add];exact this) i d hd
    rw [JH,Nat.zero_add] at this
    exact this
  .exact .inl (Fc h0)
 generalize hj:gp (xs lg) [] (xs lh)=j at *
 refine (OE (cE.1 (H.getD 1)) (cE.1 (H.getD 2)) (H.getD 0) mg mh (by omega) (by omega)).mono ?_
 rw [hj]
 rintro _ w1 ⟨⟨x,ts,rfl,⟨⟨lx,xx,Gx,Fx⟩,nt,ft⟩⟩,f1⟩
 have H1:LH F0 W w1 [] [pK,.gr gs lg,.gr hs lh,.gr x lx,.rd ts (j.2.1.map eI)]:=H.Md (.gr x lx) (.rd ts (j.2.1.map eI)) f1 (cE.2 Gx) nt (λb hb=>(Fx b hb).elim (λh=>.inr ⟨.gr gs lg,by simp,h⟩) .inl) (λb hb=>.inl (ft b hb))
 have hlx:lx.length<=200:=by
  have:=jm.2
  rw [<-xx] at this
  simp only [xs,Yk] at this
  omega
 have mx:tT (xs lx):=by rw [xx];exact jm.1
 refine ⟨x,ts,j.2.2,rfl,H1.bF λUe w2 H2=>H2.aL λw3 H3=>?_⟩
 refine nN ((Py (cE.1 (H3.getD 1)) (cE.1 (H3.getD 2)) mg mh (by omega) (by omega)).mono ?_)
 rw [hj]
 rintro _ w4 ⟨⟨y,rJ,rfl,⟨⟨ly,xy,Gy,Fy⟩,ny,fy⟩⟩,f4⟩
 have H4:LH F0 W w4 [.g Ue] [pK,.gr gs lg,.gr hs lh,.gr x lx,.rd ts (j.2.1.map eI),.gr y ly,.rd rJ (j.2.1.map eI)]:=H3.Md (.gr y ly) (.rd rJ (j.2.1.map eI)) f4 (cE.2 Gy) ny (λb hb=>(Fy b hb).elim (λh=>.inr ⟨.gr gs lg,by simp,h⟩) .inl) (λb hb=>.inl (fy b hb))
 have jl:j.2.1.length<=1000000000000:=by
  rcases jf with h|h
  .rw [h];simp
  .omega
 refine ⟨f4,_,_,_,rfl,dX (λh=>absurd rfl h) (λ_=>H4.aK (yb (cE.1 (H4.getD 3)) (cE.1 (H4.getD 5)) (xx.trans xy.symm) (by unfold lB;omega) mx.kl) ?_)⟩
 rintro _ w5 rfl H5
 refine ⟨_,rfl,aI rfl (H5.aK (Cm (show cX w5 ts j.2.1 from H5.getD 4) (show cX w5 rJ j.2.1 from H5.getD 6) jl) ?_)⟩
 rintro _ w6 rfl H6
 rw [decide_eq_true rfl]
 have e1:IntKind.wrap .i64 (((gs.n:Nat):Int)+1)=((lg.length:Nat):Int)+1:=by rw [IntWalk.i64_in _ (by omega),gn]
 refine ⟨_,rfl,aI rfl ?_⟩
 rw [e1]
 refine H6.aK (eX ou _ w6 (by omega) hm) ?_
 have hra:=cH ou (((lg.length:Nat):Int)+1) (by omega)
 generalize dB ou (((lg.length:Nat):Int)+1)=k0 at hra
 obtain ⟨k,rfl⟩:∃k:Nat,k0=(k:Int):=⟨k0.toNat,by omega⟩
 have KF:gs.n<=gs.c:=(cE.1 (H.getD 1)).1.2.1
 rintro _ w7 rfl H7
 refine ⟨_,rfl,by omega,by omega,?_⟩
 rw [Int.toNat_natCast,aaN]
 refine H7.bF λb19 w8 H8=>H8.aL λw9 H9=>?_
 have et:xs (lg.take k)=(xs lg).take k:=by simp [xs,List.map_take]
 have hp:=B6 mg.vg k 0 (by omega)
 rw [List.drop_zero,<-et,Nat.zero_add] at hp
 have hp:gp (xs lg) [] (xs (lg.take k))=(xs lg,iY k,0):=hp
 refine nN ((OE (cE.1 (H9.getD 1)) (UJ (cE.1 (H9.getD 1)) k (by omega)) (H9.getD 0) mg (by rw [et];exact QI mg k) (by omega) (by rw [List.length_take];omega)).mono ?_)
 rw [hp]
 rintro _ pE ⟨⟨z,same,rfl,⟨⟨lz,xz,Gz,Fz⟩,nz,fz⟩⟩,f10⟩
 have mJ:LH F0 W pE [.g Ue,.g b19] [pK,.gr gs lg,.gr hs lh,.gr x lx,.rd ts (j.2.1.map eI),.gr y ly,.rd rJ (j.2.1.map eI),.gr z lz,.rd same ((iY k).map eI)]:=H9.Md (.gr z lz) (.rd same ((iY k).map eI)) f10 (cE.2 Gz) nz (λb hb=>(Fz b hb).elim (λh=>.inr ⟨.gr gs lg,by simp,h⟩) .inl) (λb hb=>.inl (fz b hb))
 have sn:same.n=k:=by rw [cX.len (show cX pE same (iY k) from nz)];simp [iY]
 have hlz:lz.length=lg.length:=by have:=congrArg List.length xz;simpa [xs] using this
 refine ⟨f10,_,_,_,rfl,mJ.bF λb20 sj qR=>dX (λh=>absurd rfl h) (λ_=>dX (λh=>absurd (by omega) h) (λ_=>qR.aL λrI qS=>qS.aK (yb (cE.1 (qS.getD 7)) (cE.1 (qS.getD 1)) xz (by unfold lB;omega) (tT.kl (by rw [xz];exact mg))) ?_))⟩
 rintro _ uI rfl uu
 refine ⟨_,rfl,aI rfl ?_⟩
 refine Qt (n:=k) (by omega) (by omega) mh mx (by omega) (by rw [xx];exact jf) k 0 uI (by omega) (((uu.forget [pK,.gr hs lh,.gr x lx,.rd ts (j.2.1.map eI),.rd rJ (j.2.1.map eI),.rd same ((iY k).map eI)] (by simp))).take 1)
theorem termJoins_walk (W:World) (hL:laidMetH Tryz.prog [("enthymeme/term.kidCounts",Rows.laid_enthymeme_term_kidCounts)] W) (ls ms:Sl) (kind ou O1:Int) (w0:ArgNums W ls) (w1:ArgNums W ms) (w2:oo kind) (w3:oo ou) (w4:oo O1):
  Calls Tryz.prog lH #[ls.v,ms.v,.i kind,.i ou,.i O1] W λr w'=>r=.returned (.bool true)/\bG W w':=by
 obtain ⟨ns,Qk,hnl,hnr⟩:=w0
 obtain ⟨qs,hqs,hql,hqr⟩:=w1
 have hk:=XY hL
 have H:LH F0 W W [] [.rd ls (ns.map eI),.rd ms (qs.map eI),pK]:=mu _ (by
  intro e he
  simp only [cS,fF,or_false] at he
  rcases he with rfl|rfl|rfl
  .exact Qk
  .exact hqs
  .exact hk)
 refine enthymemelaw07_TermJoins.cU ls ms kind ou O1 W _ (H.call (eX kind 3 W (by omega) w2) ?_)
 rintro _ v1 rfl H1
 refine ⟨_,rfl,H1.BG (Mn (H1.getD 0) hnr hnl (dB kind 3) 10 (by omega)) ?_⟩
 rintro _ v2 ⟨s,l,rfl,Qi,XB,UX,G,F⟩ _ F2
 have H2:=F2.rd (.gr s l) (cE.2 G) F
 refine ⟨s,rfl,H2.call (eX _ 3 v2 (by omega) (E7 _)) ?_⟩
 rintro _ v3 rfl H3
 refine ⟨_,rfl,H3.BG (Mn (H3.getD 1) hqr hql _ 10 (by omega)) ?_⟩
 rintro _ v4 ⟨t,m,rfl,hmm,SD,Wk,G2,Fm⟩ _ F4
 have H4:=F4.rd (.gr t m) (cE.2 G2) Fm
 refine ⟨t,rfl,aJ (λ_=>H4.call (eX O1 4 v4 (by omega) w4) ?_) (λ_=>Jm Qi hmm (by omega) (by omega) w3 (H4.forget [pK,.gr s l,.gr t m] (by simp)))⟩
 have hra:=cH O1 4 (by omega)
 generalize dB O1 4=z at hra
 rintro _ v5 rfl H5
 have e1:IntKind.wrap .i64 (1+z)=1+z:=IntWalk.i64_in _ (by omega)
 refine ⟨_,rfl,?_⟩
 dsimp only
 rw [e1]
 refine H5.call (oq (1+z) v5) ?_
 rintro _ v6 rfl H6
 let d:Nd:=tQ [97] (jG (1+z))
 have f:bG v6 (v6.alloc (.cells d.c.toArray aE)):=Fr.alloc _ _ _
 have G1:GP (v6.alloc (.cells d.c.toArray aE)) ⟨some (bD v6.heap.size),1,1⟩ [d]:=⟨by
  rw [show [d].flatMap Nd.c=d.c by simp]
  exact vH (T:=aE) (mO v6 _) rfl,λa ha=>by
  simp only [cS,fF,or_false] at ha
  subst ha
  exact Rd.nil _⟩
 have H7:=H6.nf (.gr ⟨some (bD v6.heap.size),1,1⟩ [d]) f (cE.2 G1) (λb hb=>.inl (by
  rcases rp.1 hb with h|⟨a,ha,h⟩
  .exact Ah (λb hb=>by simp [aZ] at hb;omega) b h
  .simp only [cS,fF,or_false] at ha
   subst ha
   cases h))
 have md:tT (xs [d]):=by
  have hz:z=0\/z=1\/z=2\/z=3:=by omega
  refine ⟨?_,λa ha=>?_⟩
  .rcases hz with rfl|rfl|rfl|rfl<;>exact Gv (by kernel_rfl)
  .simp only [xs,List.map_cons,List.map_nil,cS,fF,or_false] at ha
   subst ha
   exact ⟨by show (-1:Int)<=0;omega,by show (0:Int)<=34;omega,by simp [d,tQ,AJ],by simp [d,tQ,AJ],by simp [d,tQ,AJ],by simp [d,tQ,AJ],λ_=>by show (ba [97]).size<=16;rw [cD];decide,λh=>by cases h⟩
 exact ⟨_,_,_,rfl,Jm Qi md (by omega) (by simp) w3 (H7.forget [pK,.gr s l,.gr ⟨some (bD v6.heap.size),1,1⟩ [d]] (by simp))⟩
end Go.Proofs.YtcifihepfadgfaaGreatDoor
