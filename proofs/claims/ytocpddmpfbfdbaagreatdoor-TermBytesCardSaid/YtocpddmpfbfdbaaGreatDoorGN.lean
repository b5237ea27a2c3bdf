import Derived.Test.YtocpddmpfbfdbaaGreatDoorNO
import Derived.Test.YtocpddmpfbfdbaaGreatDoorU
import Derived.Laws.StandIn
import Derived.Lib.Bytealg
set_option linter.unusedVariables false
set_option linter.defProp false
namespace Go.Proofs.YtocpddmpfbfdbaaGreatDoor
open Go renaming World->I,Calls->ai,Value->ae,Ending->dA,FuncId->bJ,LoopState->e4
open Go.IntKind renaming wrap->ab
open _root_.Int renaming toNat->ag
open _root_.ByteArray renaming mk->az
open Go.IntWalk renaming i64_in->a4
open Go.Builtin renaming append_->bb
open Go.Sem renaming run->a6
open _root_.Nat renaming le_trans->bH
open _root_.UInt8 renaming ofNat->cS
open _root_.Option.some renaming inj->fQ
open Go.Proofs.Tryz renaming prog->U
open _root_.Decidable renaming decide->ah
open Go.Ending renaming returned->V
open List renaming mem_append->a5,mem_cons->aB,not_mem_nil->a1,mem_of_getElem?->aI,getElem?_eq_getElem->bc,getElem?_eq_some_iff->cD,mem_append_left->cW,mem_append_right->eP,mem_flatMap->ch,flatMap_append->dh,flatMap_cons->cO,mem_iff_getElem?->iQ,nodup_append->gM,append_nil->fI,map_append->ke,getElem?_set_self->hU
open Go Go.W
def RK {x:Rx} (c:NF x):0<=x.k:=by cases x;unfold NF at c;simp only [Rx.k];omega
def R2 {x:Rx} (d:cq x=true) (c:x.k<3):dg x=x:=by
 cases x with
 |mk h lo u l=>
  have w:h<3:=c;clear c;obtain ⟨n,q,e⟩:=l6 d;rcases e with ⟨c,rfl⟩|⟨rfl,rfl,y⟩|c|⟨c,j,rfl⟩
  .rcases c with rfl|rfl<;>rfl
  .rfl
  .omega
  .omega
abbrev M0 (n:Nat):Prop:=∀(x:J) (w:I),x.sz<=n->cq x.rx=true->x.P w->ai U pC #[x.v] w λr c=>fR x.fp w (dg x.rx) r c/\ao w c
def FK:∀C:Nat,C<=1000->M0 C
 |0,_=>λe u ac _ _=>absurd ac (by have:=J.kS e;omega)
 |C+1,hn=>λe u ac ad px=>by
  have ih:=FK C (by omega);have hs:=J.hC e;have hl:=J.fi e.l;have nr:=J.cj px.parts.1;refine td.aD _ _ _ _ u _ ((gq px).aL λD n H1=>H1.aL λE Q w=>aR (λhk=>w.au λS x=>⟨⟨e,rfl,(R2 ad (by rw [kg];exact hk)).symm,x.getD 0,λb h=>.inr h⟩,x.fr⟩) (λhk=>?_));have H:=ad;rw [J.eQ] at H;obtain ⟨K,ak,aq⟩:=l6 H;obtain ⟨Z,Y⟩:=ak (by omega);have af:dg e.rx=g4 (.mk e.k 0 0 (ej (J.ax e.l))):=by rw [J.eQ,Z,Y];unfold dg;rfl
  have loop:∀(d i:Nat) (acc:List J) (j:O) (n:I),i+d=e.l.length->J.ax acc=ej (J.ax (e.l.take i))->(∀b∈J.a' acc,u.heap.size<=b\/b∈e.fp)->
    LH F0 u n [.g D,.g E,.row aF 4 j (acc.flatMap J.c)] [.tree e,.trees acc]->
    td.aP D e.k e.lo.toNat e.hi.toNat e.s E 0 0 0 ⟨none,0,0⟩ j (i:Int) n λr w'=>fR e.fp u (dg e.rx) r w'/\ao u w':=by
   intro d;induction d with
   |zero=>
    intro i acc j n ai y G q;rw [List.take_of_length_le (by omega)] at y;have al:∀b∈(J.row j acc).fp,u.heap.size<=b:=λb h=>(q.new _ (aI (i:=2) rfl) b (gb h)).resolve_right id;have T:LH F0 u n [.g D,.g E] [.tree e,.trees acc,J.row j acc,.tree (.mk e.k 0 0 j acc)]:=q.pS 2 1 e.k 0 0;have aa:Rx.mk e.k 0 0 (J.ax acc)=.mk e.k 0 0 (ej (J.ax e.l)):=by rw [y]
    have an:(Rx.mk e.k e.lo e.hi (J.ax e.l)).sz<=10000:=by rw [<-J.eQ,J.ed];omega
    have L:=Hp (N:=100000) H an (AE _ (by have aj:∀ae:Rx,de ae<=ae.sz:=Bg;have:=aj (Rx.mk e.k e.lo e.hi (J.ax e.l));omega))
    unfold pJ at L;rw [Bool.and_eq_true,Bool.and_eq_true] at L;have am:(J.mk e.k 0 0 j acc).sz<=10000:=by have z:=J.ed (J.mk e.k 0 0 j acc);have h2:=xY (J.ax e.l) K;have h3:=J.uP e.l;rw [DZ] at h3;rw [<-z];show (Rx.mk e.k 0 0 (J.ax acc)).sz<=_;rw [aa,kR];omega
    have ah:jK (.mk e.k 0 0 (J.ax acc))=true:=by rw [aa];have:=L.1.1;rw [Z,Y] at this;exact this
    refine td.bW _ _ _ _ _ _ _ _ _ _ _ _ _ _ (a9 (a0 (by omega)) ?_);refine T.pa (Oq (.mk e.k 0 0 j acc) ⟨by show 3<=e.k;omega,by show e.k<=7;omega⟩ am ah (λW hc=>?_) n (T.getD 3)) (λb h=>⟨_,aI (i:=3) rfl,aT.2 h⟩) λt Q M w F=>?_
    .have ag:W.rx∈ej (J.ax e.l):=by rw [<-y,J.fh];exact List.mem_map.2 ⟨W,hc,rfl⟩
     have:=RK (CI (J.ax e.l) K _ ag)
     rwa [kg] at this
    refine ⟨_,_,_,t.s,rfl,w.au λS x=>⟨⟨t,rfl,?_,x.getD 4,λb h=>?_⟩,x.fr⟩⟩
    .rw [M,af];show g4 (Rx.mk e.k 0 0 (J.ax acc))=_;rw [y]
    .rcases F b h with h|h
     .exact .inl (bH q.fr.size h)
     .unfold J.fp at h;rcases a5.1 h with h|h
      .exact .inl (al b h)
      .exact G b h
   |succ d ap=>
    intro i acc j n ai y G q;have A:e.l[i]? =some (e.l[i]'(by omega)):=bc (by omega);generalize e.l[i]'(by omega)=a at A;have B:=aI A;have aw:=J.dV B;have ga:cq a.rx=true:=AQ K (by rw [J.fh];exact List.mem_map.2 ⟨a,B,rfl⟩);have ab:∀b∈a.fp,b∈e.fp:=λb h=>J.fX.2 (.inr (J.bR.2 ⟨a,B,h⟩));refine td.bW _ _ _ _ _ _ _ _ _ _ _ _ _ _ (bd (aW (by omega)) (hR (show e.P n from q.getD 0) rfl A ?_));refine q.pa (ih a n (by omega) ga ((show e.P n from q.getD 0).parts.2.mem B)) (λb h=>⟨_,aI (i:=0) rfl,aT.2 (ab b h)⟩) λt Q M w F=>?_;have av:=J.cj (w.get 2:aS _ _ _ _ _).bz;have ar:acc.length=i:=by have z:=congrArg List.length y;rw [J.fh,pH,J.fh] at z;simp only [List.length_map,List.length_take] at z;omega
    refine ⟨_,_,_,t.s,rfl,w.i5 2 j5 (xs:=acc.flatMap J.c) rfl (λs' S x=>?_) (by omega)⟩;have H4:=(x.p9 1 2).take 3;rw [bw _ (by omega)];refine ap (i+1) (acc++[t]) s' S (by omega) ?_ (rh G λb h=>?_) ?_
    .rw [jm,y,List.take_add_one,A,Option.toList_some,jm,pH,pH,ke];show _++[t.rx]=_;rw [M];rfl
    .rcases F b h with h|h
     .exact .inl (bH q.fr.size h)
     .exact .inr (ab b h)
    .rw [kD];exact H4.forget _ (by simp)
  exact loop e.l.length 0 [] ⟨none,0,0⟩ Q (by omega) rfl (λb h=>by unfold J.a' at h;cases h) (IJ (w.jP aF 4))
def FI (x:J) (w:I) (d:x.sz<=1000) (e:cq x.rx=true) (h:x.P w):ai U pC #[x.v] w λr c=>fR x.fp w (dg x.rx) r c/\ao w c:=FK 1000 (Nat.le_refl _) x w d e h
def ff (x:Rx):Rx:=if iY x=0 then mc (dg x) else fg
def kL (x:Rx):Int:=if iY x=0 then m7 (dg x) else iY x
def EL (d:List Nat) (w:I) (x:Rx) (c:Int) (r:dA) (w':I):Prop:=∃t:J,r=V (.tuple #[t.v,.int .i64 c])/\t.rx=x/\t.P w'/\∀b∈t.fp,w.heap.size<=b\/b∈d
def N0 (x:J) (w:I) (n:x.sz<=1000000) (u:x.P w):ai U BA #[x.v] w λr j=>EL x.fp w (mc x.rx) (m7 x.rx) r j/\ao w j:=by
 refine GO.aD _ _ _ _ w _ ((gq u).aL λA C k=>k.aL λB y e=>e.aA (zH x y n (e.getD 0)) ?_);rintro _ D rfl h;refine ⟨_,rfl,aR (λq=>h.au λz c=>⟨⟨cb,?_,?_,jQ _,λb d=>(jR d).elim⟩,c.fr⟩) (λq=>h.au λz c=>⟨⟨x,?_,?_,c.getD 0,λb d=>.inr d⟩,c.fr⟩)⟩
 .unfold m7;rw [J.ed,aq (by omega)];rfl
 .unfold mc;rw [J.ed,aq (by omega)];rfl
 .unfold m7;rw [J.ed,af (by omega)]
 .unfold mc;rw [J.ed,af (by omega)]
def On (x:J) (w:I) (G:x.sz<=1000000) (M:x.P w):ai U Bv #[x.v] w λr B=>EL x.fp w (ff x.rx) (kL x.rx) r B/\ao w B:=by
 refine GK.aD _ _ _ _ w _ ((gq M).aL λS Y D=>D.aL λT O n=>n.aA (Oo x O G (n.getD 0)) ?_);rintro _ Q rfl e;unfold ff kL;refine ⟨_,rfl,dG (λA=>e.au λC d=>⟨⟨cb,?_,?_,jQ _,λb c=>(jR c).elim⟩,d.fr⟩) (λh=>?_)⟩
 .rw [af A];rfl
 .rw [af A];rfl
 obtain ⟨z,H⟩:=vl h;have W:x.sz<=64:=by rw [<-J.ed];exact H
 rw [aq h,aq h];refine e.pa (FI x Q (by omega) z (e.getD 0)) (λb c=>⟨_,aI (i:=0) rfl,aT.2 c⟩) λt C j d F=>?_;have N:t.sz<=1000000:=by have:=CG _ z;rw [<-J.ed,j];omega
 refine ⟨_,_,_,t.s,rfl,iH ((N0 t C N (d.getD 1)).mono ?_)⟩;rintro _ Z ⟨⟨k,rfl,K,L,y⟩,u⟩;have E:=d.fo (.tree k) u L λb c=>(y b (aT.1 c)).imp id λc=>.inr ⟨_,aI (i:=1) rfl,aT.2 c⟩;refine ⟨u,_,_,_,k.s,_,rfl,E.au λw6 q=>⟨⟨k,by rw [j],by rw [K,j],q.getD 2,λb c=>?_⟩,q.fr⟩⟩;rcases y b c with c|c
 .exact .inl (bH d.fr.size c)
 .exact (F b c).imp (λc=>bH e.fr.size c) id
def NP {N:Nat} (Q:qH N) (O:N+1<=1000000) (x:J) (w:I) (A:x.sz<=1000000) (S:m4 N x.rx) (px:x.P w):ai U xp #[x.v] w λr D=>EN w (ff x.rx) (kL x.rx) r D/\ao w D:=by
 refine JL.aD _ _ _ _ w _ ((gq px).aL λb1 w1 K=>K.aL λb2 w2 q=>q.aA (Fk x w2 A (q.getD 0)) ?_);rintro _ w3 rfl u;unfold ff kL;refine ⟨_,rfl,dG (λC=>u.au λE d=>⟨⟨cb,?_,?_,jQ _,λb c=>(jR c).elim⟩,d.fr⟩) (λj=>u.au λE d=>d.jF (N4 E) ?_)⟩
 .rw [af C];rfl
 .rw [af C];rfl
 rintro _ w5 ⟨F,rfl,M,Y,W⟩ _ G;have e:=G.rd (.fm F) Y W;obtain ⟨B,hs⟩:=vl j;rw [aq j,aq j];refine ⟨_,rfl,e.pa (Oe Q O M x w5 A (Hj _ B (by omega) S) (e.getD 1) (e.getD 0)) (λb c=>?_) λt w6 k h _=>?_⟩
 .rcases a5.1 c with c|c
  .exact ⟨_,aI (i:=0) rfl,aT.2 c⟩
  .exact ⟨_,aI (i:=1) rfl,c⟩
 have aa:t.sz<=1000000:=by have:=CG _ B;rw [<-J.ed,k];omega
 refine ⟨_,_,_,t.s,rfl,h.jF (Ob t w6 aa (h.getD 2)) ?_⟩;rintro _ w7 ⟨n,rfl,T,Z,z⟩ _ H;have L:=H.rd (.tree n) Z λb c=>z b (aT.1 c);exact ⟨_,_,_,n.s,_,rfl,L.au λw8 y=>⟨⟨n,by rw [k],by rw [T,k],y.getD 3,λb c=>bH h.fr.size (z b c)⟩,y.fr⟩⟩
abbrev BL:=List UInt8
def gQ (s:BL) (i:Nat):UInt8:=s.getD i 0
def kN (c:UInt8):Bool:=ah (32<=c.toNat)&&ah (c.toNat<=126)&&!(c==39)&&!(c==92)
def cI (c:UInt8):Bool:=ah (97<=c.toNat)&&ah (c.toNat<=122)
def eL (n:Nat):UInt8:=cS (if n<10 then 48+n else 87+n)
def eO (c:UInt8):Int:=if 48<=c.toNat/\c.toNat<=57 then (c.toNat:Int) - 48 else if 97<=c.toNat/\c.toNat<=102 then (c.toNat:Int) - 87 else -1
def e6 (s:BL) (at_:Nat):UInt8×Nat:=
 if (ah (at_+3<=s.length)&&gQ s at_==39&&gQ s (at_+2)==39&&kN (gQ s (at_+1)))=true then (gQ s (at_+1),3)
 else if (ah (at_+4<=s.length)&&gQ s at_==92&&gQ s (at_+1)==120&&ah (0<=eO (gQ s (at_+2)))&&ah (0<=eO (gQ s (at_+3))))=true then (cS ((16 *eO (gQ s (at_+2))+eO (gQ s (at_+3))).toNat),4)
 else (0,0)
structure bx where
 tx:BL
 at_:Nat
 k:Nat
 lo:UInt8
 hi:UInt8
structure zk where
 k:Nat
 lo:UInt8
 hi:UInt8
 n:Nat
def mj:zk:=⟨0,0,0,0⟩
def e2 (s:BL) (i:Nat):zk:=
 let a:=e6 s i
 if 0<a.2 then ⟨2,a.1,a.1,a.2⟩ else if gQ s i≠91 then mj else
 let b:=e6 s (i+1)
 let dash:=i+1+b.2
 if b.2=0\/s.length<=dash\/gQ s dash≠45 then mj else
 let c:=e6 s (dash+1)
 let fin:=dash+1+c.2
 if c.2=0\/s.length<=fin\/gQ s fin≠93\/c.1.toNat<b.1.toNat then mj else ⟨2,b.1,c.1,fin+1 - i⟩
def iu (s:BL) (i:Nat):Nat->Nat->Nat
 |0,c=>c
 |f+1,c=>if (cI (gQ s i)&&ah (i+c<s.length)&&cI (gQ s (i+c)))=true then iu s i f (c+1) else c
def kj (s:BL):Nat->Nat->List bx
 |0,_=>[⟨[],s.length,0,0,0⟩]
 |f+1,i=>if s.length<=i then [⟨[],s.length,0,0,0⟩] else if gQ s i=32 then kj s f (i+1) else
  let r:=e2 s i
  let c:=if r.n=0 then iu s i s.length 1 else r.n
  ⟨(s.take (i+c)).drop i,i,r.k,r.lo,r.hi⟩::kj s f (i+c)
def km (s:BL):List bx:=kj s (s.length+1) 0
abbrev bN:=Nat×Bool
section
variable (l:List bx)
def dI (i:Nat):bx:=l.getD i ⟨[],0,0,0,0⟩
def eG (st:bN):BL:=bif st.2 then [32] else (dI l st.1).tx
def dH (s:BL) (st:bN):Bool×bN:=bif eG l st==s then (true,bif s.isEmpty then st else (st.1+1,st.2)) else (false,st)
def hx (s:BL) (st:bN):bN:=match dH l s st with
 |(true,st)=>st
 |(false,st)=>(st.1,true)
def mT (st:bN):Bool:=!st.2&&!(eG l st==[])&&!(eG l st==[41])&&!(eG l st==[44])&&!(eG l st==[124])&&!(eG l st==[38])
def lq (k:Int):List Rx->Rx
 |[a]=>a
 |m=>.mk k 0 0 m
def hZ:Nat->BL
 |0=>[110,111,110,101]
 |1=>[101,109,112,116,121]
 |3=>[99,97,116]
 |4=>[97,108,116]
 |5=>[97,108,108]
 |_=>[]
def iy (st:bN):Nat->Nat->Option Nat
 |0,_=>none
 |f+1,c=>bif Nat.beq c 2||!(eG l st==hZ c) then iy st f (c+1) else some c
mutual
def gI:Nat->bN->Option (Rx×bN)
 |0,_=>none
 |f+1,st=>match ie f st with
  |some (a,st)=>lU f [a] st
  |none=>none
def lU:Nat->List Rx->bN->Option (Rx×bN)
 |0,_,_=>none
 |f+1,acc,st=>match dH l [124] st with
  |(true,st)=>match ie f st with
   |some (a,st)=>lU f (acc++[a]) st
   |none=>none
  |(false,st)=>some (lq 4 acc,st)
def ie:Nat->bN->Option (Rx×bN)
 |0,_=>none
 |f+1,st=>match iv f st with
  |some (a,st)=>lV f [a] st
  |none=>none
def lV:Nat->List Rx->bN->Option (Rx×bN)
 |0,_,_=>none
 |f+1,acc,st=>match dH l [38] st with
  |(true,st)=>match iv f st with
   |some (a,st)=>lV f (acc++[a]) st
   |none=>none
  |(false,st)=>some (lq 5 acc,st)
def iv:Nat->bN->Option (Rx×bN)
 |0,_=>none
 |f+1,st=>match fb f st with
  |some (a,st)=>l9 f [a] st
  |none=>none
def l9:Nat->List Rx->bN->Option (Rx×bN)
 |0,_,_=>none
 |f+1,acc,st=>bif mT l st then match fb f st with
   |some (a,st)=>l9 f (acc++[a]) st
   |none=>none
  else some (lq 3 acc,st)
def fb:Nat->bN->Option (Rx×bN)
 |0,_=>none
 |f+1,st=>match dH l [33] st with
  |(true,st)=>match fb f st with
   |some (a,st)=>some (.mk 6 0 0 [a],st)
   |none=>none
  |(false,st)=>match k8 f st with
   |some (a,st)=>iw f a st
   |none=>none
def iw:Nat->Rx->bN->Option (Rx×bN)
 |0,_,_=>none
 |f+1,a,st=>match dH l [42] st with
  |(true,st)=>iw f (.mk 7 0 0 [a]) st
  |(false,st)=>some (a,st)
def k8:Nat->bN->Option (Rx×bN)
 |0,_=>none
 |f+1,st=>bif !st.2&&Nat.beq (dI l st.1).k 2 then some (.mk 2 (dI l st.1).lo (dI l st.1).hi [],(st.1+1,st.2)) else match iy l st 6 0 with
  |some c=>bif Nat.ble c 2 then some (.mk c 0 0 [],(st.1+1,st.2)) else match j8 f (st.1+1,st.2) with
   |some (m,st)=>some (.mk c 0 0 m,st)
   |none=>none
  |none=>let st:=hx l [40] st
   bif st.2 then some (fg,st) else match gI f st with
   |some (a,st)=>some (a,hx l [41] st)
   |none=>none
def j8:Nat->bN->Option (List Rx×bN)
 |0,_=>none
 |f+1,st=>match dH l [41] (hx l [40] st) with
  |(c,st)=>bif st.2||c then some ([],st) else match gI f st with
   |some (a,st)=>rs f [a] st
   |none=>none
def rs:Nat->List Rx->bN->Option (List Rx×bN)
 |0,_,_=>none
 |f+1,acc,st=>match dH l [44] st with
  |(true,st)=>match gI f st with
   |some (a,st)=>rs f (acc++[a]) st
   |none=>none
  |(false,st)=>some (acc,hx l [41] st)
end
end
def ot (s:BL):Option (Rx×Nat×Int):=
 if 4096<s.length then some (fg,4096,4) else
 let l:=km s
 match gI l 1000 (0,false) with
 |some (r,st)=>let st:=hx l [] st
  if st.2=true then some (fg,(dI l st.1).at_,2) else if 1000000<r.sz then none else if 64<r.sz then some (fg,s.length,4) else some (r,0,0)
 |none=>none
def bo (c:UInt8):BL:=if kN c=true then [39,c,39] else [92,120,eL (c.toNat / 16),eL (c.toNat%16)]
def bK:Rx->Nat
 |.mk c _ _ l=>if c=6 then 3 else if c<3\/c=7\/l.length<2 then 4 else if c=3 then 2 else if c=4 then 0 else 1
def cg (lv:Nat) (a:Rx) (t:BL):BL:=if bK a<lv then 40::(t++[41]) else t
def om (k:Int):BL:=if k=3 then [99,97,116,40] else if k=4 then [97,108,116,40] else [97,108,108,40]
def eR (k:Int):BL:=if k=3 then [] else if k=4 then [124] else [38]
def gn (t:BL):UInt8:=t.getLastD 0
def fY (k:Int):BL->List BL->BL
 |out,[]=>out
 |out,t::c=>fY k ((if k=3/\cI (gn out)=true/\cI (gQ t 0)=true then out++[32] else out)++eR k++t) c
def hv:List BL->BL
 |[]=>[]
 |t::_=>t
def wK (k:Int):List BL->BL
 |[]=>[]
 |t::c=>fY k t c
mutual
def a3:Rx->BL
 |.mk c lo d l=>if c=0 then [110,111,110,101] else if c=1 then [101,109,112,116,121] else
  if c=2 then (if lo=d then bo lo else 91::(bo lo++45::(bo d++[93]))) else
  if c=6 then 33::hv (cG 3 l) else if c=7 then hv (cG 4 l)++[42] else
  if l.length<2 then om c++(hv (cG 0 l)++[41]) else
  wK c (cG (bK (.mk c lo d l)+1) l)
def cG (lv:Nat):List Rx->List BL
 |[]=>[]
 |a::l=>cg lv a (a3 a)::cG lv l
end
mutual
def hP:Rx->Bool
 |.mk c _ _ l=>ah (0<=c)&&ah (c<=7)&&(ah (c<6)||ah (l.length=1))&&mn l
def mn:List Rx->Bool
 |[]=>true
 |a::l=>hP a&&mn l
end
def nV (s:BL):Option Bool:=match ot s with
 |some (r,_,c)=>if c=0 then (if kL r=0 then (if hP (ff r)=true/\(ff r).sz<=1000 then some (cg 0 (ff r) (a3 (ff r))==s) else none) else some false) else some false
 |none=>none
def yq (a b:UInt8):Rx:=.mk 2 a b []
def ey:Nat->Rx
 |0=>yq 97 97
 |1=>yq 98 98
 |2=>yq 0 0
 |3=>yq 97 98
 |4=>l2
 |_=>eg
def AK (a b c:Rx):Nat->Rx
 |0=>a
 |1=>.mk 3 0 0 [a,b]
 |2=>.mk 4 0 0 [a,b,c]
 |3=>.mk 7 0 0 [a]
 |4=>.mk 3 0 0 [.mk 7 0 0 [a],b]
 |5=>.mk 6 0 0 [.mk 3 0 0 [a,b]]
 |6=>.mk 3 0 0 [b,.mk 7 0 0 [.mk 4 0 0 [a,c]]]
 |_=>.mk 5 0 0 [.mk 6 0 0 [b],.mk 3 0 0 [a,eg]]
def kT (k:Nat):BL:=a3 (dg (AK (ey (k%6)) (ey (k / 6%6)) (ey (k / 36%6)) (k / 216%8)))
set_option maxRecDepth 100000
set_option maxHeartbeats 2000000
namespace J6
noncomputable abbrev X:Fx:=⟨U,Tryz.f167,[],[]⟩
def ok (c:Int) (w:I) (R:aa) (d:Y (ah (c>=97)) (R (V (.bool (ah (c<=122)))) w) (R (V (.bool false)) w)):ai U rF #[.int .u8 c] w R:=aE X [] d
end J6
namespace J2
noncomputable abbrev X:Fx:=⟨U,Tryz.f182,[],[]⟩
def ok (c:Int) (w:I) (R:aa) (d:Y (ah (c>=32)) (Y (ah (c<=126)) (Y (c !=39) (R (V (.bool (c !=92))) w) (R (V (.bool false)) w)) (R (V (.bool false)) w)) (R (V (.bool false)) w)):ai U xz #[.int .u8 c] w R:=aE X [] d
end J2
namespace K7
noncomputable abbrev X:Fx:=⟨U,Tryz.f166,[],[]⟩
def ok (c:ByteArray) (c1:Int) (w:I) (R:aa) (d:di BU #[.string c,.int .u8 c1] w λe h=>R (V (.i e)) h):ai U ue #[.string c,.int .u8 c1] w R:=aE X [] d
end K7
namespace HR
noncomputable abbrev X:Fx:=⟨U,Tryz.f181,[],[]⟩
def ok (c:ByteArray) (c1:Int) (w:I) (R:aa) (h:∃d:Int,∃e:I,a6 U (callFunc xo #[.string c,.int .u8 c1]) w=.ok (.value (.i d)) e/\
 R (V (.i d)) e):ai U BU #[.string c,.int .u8 c1] w R:=aE X [] h
end HR
namespace yn
noncomputable abbrev X:Fx:=⟨U,Tryz.f168,[(4,ls [0,1,2,3,5,6,7,8,4,9,10,11])],[]⟩
abbrev S1 (w:I) (R:aa):Prop:=
 R (V (.tuple #[.int .u8 0,.i 0,.bool false])) w
noncomputable def bg:=aC X [] (ak [3]) [] S1::[]
abbrev S0 (d:ByteArray) (c:Int) (w:I) (R:aa):Prop:=
 Y (ah ((ab .i64 (c+3))<((d.size:Nat):Int))) ((0:Int)<=c/\∃h:UInt8,d[ag c]? =some h/\Y (((h.toNat:Nat):Int)==92) ((0:Int)<=(ab .i64 (c+1))/\∃j:UInt8,d[ag (ab .i64 (c+1))]? =some j/\Y (((j.toNat:Nat):Int)==120) (bY w λq=>(0:Int)<=(ab .i64 (c+2))/\∃k:UInt8,d[ag (ab .i64 (c+2))]? =some k/\(0:Int)<=(ab .i64 (c+3))/\∃n:UInt8,d[ag (ab .i64 (c+3))]? =some n/\di ue #[.string (az #[48,49,50,51,52,53,54,55,56,57,97,98,99,100,101,102]),.int .u8 ((k.toNat:Nat):Int)] q λt60 u=>di ue #[.string (az #[48,49,50,51,52,53,54,55,56,57,97,98,99,100,101,102]),.int .u8 ((n.toNat:Nat):Int)] u λt65 e=>Y (ah (t60>=0)) (Y (ah (t65>=0)) (R (V (.tuple #[.int .u8 (ab .u8 (k9 .i64 (ab .i64 (t60 *2^(4))) t65)),.i 4,.bool true])) e) (S1 e R)) (S1 e R)) (S1 w R)) (S1 w R)) (S1 w R)
noncomputable def bf:=aC X bg (ak [2]) [(0,.v [.st]),(1,.v [.I])] S0::bg
def ok (d:ByteArray) (c:Int) (w:I) (R:aa) (q:Y (ah ((ab .i64 (c+2))<((d.size:Nat):Int))) ((0:Int)<=c/\∃h:UInt8,d[ag c]? =some h/\Y (((h.toNat:Nat):Int)==39) ((0:Int)<=(ab .i64 (c+1))/\∃j:UInt8,d[ag (ab .i64 (c+1))]? =some j/\gk xz #[.int .u8 ((j.toNat:Nat):Int)] w λt25 e=>Y t25 ((0:Int)<=(ab .i64 (c+2))/\∃k:UInt8,d[ag (ab .i64 (c+2))]? =some k/\Y (((k.toNat:Nat):Int)==39) ((0:Int)<=(ab .i64 (c+1))/\∃n:UInt8,d[ag (ab .i64 (c+1))]? =some n/\R (V (.tuple #[.int .u8 ((n.toNat:Nat):Int),.i 3,.bool true])) e) (S0 d c e R)) (S0 d c e R)) (S0 d c w R)) (S0 d c w R)):ai U tU #[.string d,.i c] w R:=aE X bf q
end yn
namespace rT
noncomputable abbrev X:Fx:=⟨U,Tryz.f141,[],[4]⟩
abbrev P0:Ps:=[(0,.v [.st]),(1,.v [.I]),(4,.l [.Y,.Y,.Y,.st,.I] mB),(7,.v [.I])]
def b6 (e:ByteArray) (c:Int) (t4:Nat) (h j k:Int) (n:ByteArray) (q d:Int) (w:I) (R:aa):Prop:=br P0 0 (X.Sem (ak [0,2,1,1,3,2,2])) e c t4 h j k n q d w R
noncomputable def cC:=bD X (ak [0,2,1,1,3,2,2]) P0 b6::[]
abbrev aY (e:ByteArray) (c:Int) (t4:Nat) (j k n:Int) (q:ByteArray) (u d:Int) (w:I) (R:aa):Prop:=
 (0:Int)<=d/\d<=((e.size:Nat):Int)/\(0:Int)<=c/\c<=(((ag d):Nat):Int)/\loc [t4] w λh=>R (V (.tuple #[.agg #[.int .u8 119,.int .u8 0,.int .u8 0,.string (e.extract (ag c) (ag d)),.i c],.i (ab .i64 (d - c))])) h
noncomputable def bm:=aC X cC (ak [2,1,3,2,2]) P0 aY::cC
def eV:∀(d:ByteArray) (e:Int) (t4:Nat) (h j k:Int) (n:ByteArray) (q c:Int) (w:I) (R:aa) (y:Y (ah (c<((d.size:Nat):Int))) ((0:Int)<=c/\∃u:UInt8,d[ag c]? =some u/\bM [t4] rF #[.int .u8 ((u.toNat:Nat):Int)] w λt51 x=>Y t51 (b6 d e t4 h j k n q (ab .i64 (c+1)) x R) (aY d e t4 h j k n q c x R)) (aY d e t4 h j k n q c w R)),b6 d e t4 h j k n q c w R:=mp (bF (X:=X) bm (ak [0,2,1,1,3,2,2]) P0)
abbrev cB (c:Int) (t4:Nat) (e h j:Int) (k:ByteArray) (n:Int) (w:I) (R:aa):Prop:=
 loc [t4] w λd=>R (V (.tuple #[.agg #[.int .u8 63,.int .u8 0,.int .u8 0,.s0,.i c],.i 1])) d
noncomputable def cZ:=aC X bm (ak [3]) [(1,.v [.I]),(4,.l [.Y,.Y,.Y,.st,.I] mB)] cB::bm
abbrev gZ (x:ByteArray) (c:Int) (t4:Nat) (e h j:Int) (k:ByteArray) (n u:Int) (z:Bool) (d q:Int) (w:I) (R:aa):Prop:=
 Y (!z) (cB c t4 e h j k n w R) (Y (ah (d>=((x.size:Nat):Int))) (cB c t4 e h j k n w R) ((0:Int)<=d/\∃y:UInt8,x[ag d]? =some y/\Y (((y.toNat:Nat):Int) !=93) (cB c t4 e h j k n w R) (Y (ah (u>q)) (cB c t4 e h j k n w R) (loc [t4] w λA=>R (V (.tuple #[.agg #[.int .u8 114,.int .u8 u,.int .u8 q,.s0,.i c],.i (ab .i64 ((ab .i64 (d+1)) - c))])) A))))
noncomputable def eY:=aC X cZ (ak [5,1,5,2,2]) [(0,.v [.st]),(1,.v [.I]),(4,.l [.Y,.Y,.Y,.st,.I] mB),(8,.v [.Y]),(10,.v [.b]),(11,.v [.I]),(12,.v [.Y])] gZ::cZ
abbrev bh (e:ByteArray) (d:Int) (t4:Nat) (h j k:Int) (n:ByteArray) (q x:Int) (y:Bool) (c:Int) (w:I) (R:aa):Prop:=
 Y (!y) (cB d t4 h j k n q w R) (Y (ah (c>=((e.size:Nat):Int))) (cB d t4 h j k n q w R) ((0:Int)<=c/\∃u:UInt8,e[ag c]? =some u/\Y (((u.toNat:Nat):Int) !=45) (cB d t4 h j k n q w R) (z2 [t4] tU #[.string e,.i (ab .i64 (c+1))] w λz A B C=>gZ e d t4 h j k n q x B (ab .i64 (c+(ab .i64 (1+A)))) z C R)))
noncomputable def bt:=aC X eY (ak [2,1,5,2,2]) [(0,.v [.st]),(1,.v [.I]),(4,.l [.Y,.Y,.Y,.st,.I] mB),(8,.v [.Y]),(10,.v [.b]),(11,.v [.I])] bh::eY
abbrev aQ (e:ByteArray) (c:Int) (t4:Nat) (h j k:Int) (n:ByteArray) (q d:Int) (w:I) (R:aa):Prop:=
 b0 [t4] ue #[.string (az #[40,41,44,124,38,33,42]),.int .u8 d] w λt34 y=>Y (ah (t34>=0)) (loc [t4] y λG=>R (V (.tuple #[.agg #[.int .u8 d,.int .u8 0,.int .u8 0,.s0,.i c],.i 1])) G) (bM [t4] rF #[.int .u8 d] y λt41 u=>Y t41 (b6 e c t4 h j k n q c u R) (Y (d==91) (z2 [t4] tU #[.string e,.i (ab .i64 (c+1))] u λC D E H=>bh e c t4 h j k n q C E (ab .i64 ((ab .i64 (c+1))+D)) H R) (z2 [t4] tU #[.string e,.i c] u λx A B z=>Y B (loc [t4] z λF=>R (V (.tuple #[.agg #[.int .u8 114,.int .u8 x,.int .u8 x,.s0,.i c],.i A])) F) (cB c t4 h j k n q z R))))
noncomputable def bf:=aC X bt (ak [2]) [(0,.v [.st]),(1,.v [.I]),(4,.l [.Y,.Y,.Y,.st,.I] mB),(6,.v [.Y])] aQ::bt
def aD (d:ByteArray) (c:Int) (w:I) (R:aa) (j:aJ [] w λh k=>
 (0:Int)<=c/\∃e:UInt8,d[ag c]? =some e/\aQ d c h 0 0 0 (az #[]) 0 ((e.toNat:Nat):Int) k R):ai U B2 #[.string d,.i c] w R:=aE X bf j
end rT
namespace yp
noncomputable def C0:Code:=(Tryz.f140.body).getD .skip
noncomputable def C1:=C0.fs
noncomputable def C2:=C1.sn
noncomputable def C3:=C2.fs
noncomputable def C4:=C3.fs
noncomputable def C5:=C0.sn
abbrev Q0 (R:aa):e5:=(Exit.then (e3 U (cx 39) C5 (bodyPost U Tryz.f140 R)) (bodyPost U Tryz.f140 R))
abbrev Q1 (R:aa):e5:=(Exit.inBlock 0 (Q0 R))
def L0 (e:Nat) (d:Addr) (c:Int) (w:I) (R:aa):Prop:=LP U (cx 39) C4 (Q1 R) [(0,.func (.yield e) #[] #[]),(1,.pointer (some d)),(3,.i c)] w
def nM (E:Env) (w:I) (R:aa):Prop:=W.o2 (Env.get? E 0) λe=>W.cf (Env.get? E 1) λd=>W.asInt .i64 (Env.get? E 3) λc=>L0 e d c w R
def qy:ze U 39 nM C4 Q1:=by intro w u z d;obtain ⟨A,k,e⟩:=W.sH d;obtain ⟨y,n,h⟩:=W.cu e;obtain ⟨x,q,j⟩:=W.eK h;intro a c;exact j a (c.cons k (c.cons n (c.cons q c.nil)))
noncomputable def C6:=C4.fs
noncomputable def C7:=C4.sn
noncomputable def C8:=C7.fs
noncomputable def C9:=C8.fs
noncomputable def gT:=C9.sn
noncomputable def fA:=gT.fs
noncomputable def iz:=C8.sn
noncomputable def iZ:=iz.sn
noncomputable def jw:=iZ.fs
noncomputable def gU:=iZ.sn
noncomputable def gV:=C6.sn
noncomputable def jZ:=gV.fs
noncomputable def jx:=fA.sn
noncomputable def i0:=gT.sn
noncomputable def iA:=jw.sn
noncomputable def h2:=iA.fs
noncomputable def kp:=iA.sn
noncomputable def mG:=gV.sn
def b5 (k:Nat) (j:Addr) (h:Int) (w:I) (R:aa) (A:∃y:ByteArray,w.cell? j=some (.string y)/\
 Y (ah (h<((y.size:Nat):Int))) (∃t10:ByteArray,w.cell? j=some (.string t10)/\
 (0:Int)<=h/\∃x:UInt8,t10[ag h]? =some x/\Y (((x.toNat:Nat):Int)==32) (L0 k j (ab .i64 (h+1)) w R) (∃t17:ByteArray,w.cell? j=some (.string t17)/\
 OI B2 #[.string t17,.i h] w λB C D F G H q=>aN q (.cells #[.int .u8 0,.int .u8 0,.int .u8 0,.s0,.i 0] mB) λO=>
 KY O (nb q) (.int .u8 B) (.int .u8 C) (.int .u8 D) (.string F) (.i G) λz=>H5 z (nb q) λJ K L M N=>kY U k #[.agg #[.int .u8 J,.int .u8 K,.int .u8 L,.string M,.i N]] z λ(t24:Bool) u=>Y (!t24) (R (V (.tuple #[])) u) (∃t28:Int,u.cell? ((nb q).add 0)=some (.int .u8 t28)/\
 Y (t28==63) (R (V (.tuple #[])) u) (L0 k j (ab .i64 (h+H)) u R)))) (∃t35:ByteArray,w.cell? j=some (.string t35)/\
 kY U k #[.agg #[.int .u8 36,.int .u8 0,.int .u8 0,.s0,.i ((t35.size:Nat):Int)]] w λ(t38:Bool) P=>R (V (.tuple #[])) P)):L0 k j h w R:=
 LP.step (n:=(cx 39)) (c:=C4) (E:=[(0,.func (.yield k) #[] #[]),(1,.pointer (some j)),(3,.i h)]) (w:=w) (sq C4 (sr C6 (show (λ(E:Env) (w:I)=>dN U C6 (λE w=>g1 (Env.val E (.tmp 9)) (dN U C9 (λE w=>g1 (Env.val E (.tmp 13)) (dN U fA (λE w=>nM E w R) E w) (dN U iz (λE w=>dN U jw (λE w=>g1 (Env.val E (.tmp 30)) (jU U Tryz.f140 E w (λv=>R (V v) w)) (rV U gU (λE w=>nM E w R) E w)) E w) E w)) E w) (rV U C5 (λE w=>jU U Tryz.f140 E w (λv=>R (V v) w)) E w)) E w) [(0,.func (.yield k) #[] #[]),(1,.pointer (some j)),(3,.i h)] w from mp A) λ_ _ d=>(cn gV d (λd=>(sk jZ λa e=>nx e (bk C7 1 (by kernel_rfl) (sq C8 (sr C9 d λ_ _ d=>(cn gT d (λd=>(sr fA d λ_ _ d=>(xt jx 1 (by kernel_rfl) λa e=>qy R _ _ d a e))) (λd=>(sk i0 λa e=>nx e (sr iz d λ_ _ d=>(sq iZ (sr jw d λ_ _ d=>(cn iA d (λd=>(rt h2 λa e=>rU e d)) (λd=>(sk kp λa e=>nx e (rg gU (by kernel_rfl) d λ_ _ a e d=>qy R _ _ d a e))))))))))))))) (λd=>(xt mG 0 (by kernel_rfl) λa e=>nx e (rg C5 (by kernel_rfl) d λ_ _ a e d=>rU e d))))))
def ok (e:Nat) (d:Addr) (w:I) (R:aa) (h:L0 e d 0 w R):ai U oi #[.func (.yield e) #[] #[],.pointer (some d)] w R:=
 sQ (R:=R) (fn:=Tryz.f140) (c:=C0) (args:=[.func (.yield e) #[] #[],.pointer (some d)]) (by kernel_rfl) (by kernel_rfl) (by kernel_rfl) (sq C0 (sr C1 (show (λ(E:Env) (w:I)=>dN U C1 (λE w=>nM E w R) E w) (ja 0 [.func (.yield e) #[] #[],.pointer (some d)]) w from mp h) λ_ _ j=>(bk C2 0 (by kernel_rfl) (lp C3 (by kernel_rfl) (qy R _ _ j)))))
end yp
namespace J8
noncomputable abbrev X:Fx:=⟨U,Tryz.f127,[],[]⟩
def ok (c:ByteArray) (w:I) (R:aa) (d:aN w (.cells #[.string c] dy) λe=>
 R (V (.func (.func oi) #[] #[.pointer (some (nb w))])) e):ai U Iv #[.string c] w R:=aE X [] d
end J8
namespace J1
noncomputable abbrev X:Fx:=⟨U,Tryz.f148,[],[4]⟩
def aD (h:Int) (c:O) (w:I) (R:aa) (j:aJ [] w λe d=>
 Y (((c.n:Nat):Int)==1) (aw c 0 λy=>aV d (y.add (ag 0 *4)) λk q u x=>loc [e] d λz=>R (V (.agg #[.i k,.int .u8 q,.int .u8 u,x.v])) z) (loc [e] d λA=>R (V (.agg #[.i h,.int .u8 0,.int .u8 0,c.v])) A)):ai U ng #[.i h,c.v] w R:=aE X [] j
end J1
namespace uE
noncomputable abbrev X:Fx:=⟨U,Tryz.f147,[(4,(.sq [0,1,2,3,4,5,6,7,8,10,11] (.fork (ls [9,12]) (ls [12,9]))))],[2]⟩
abbrev P0:Ps:=[(0,.v [.r]),(2,.l [.I,.Y,.Y,.s] aK)]
def aP (f0:Addr) (c:Nat) (d e h:Int) (j:O) (w:I) (R:aa):Prop:=br P0 0 (X.Sem (ak [0,2,1])) f0 c d e h j w R
noncomputable def aZ:=bD X (ak [0,2,1]) P0 aP
def bW:∀(f0:Addr) (c:Nat) (h j k:Int) (q:O) (w:I) (R:aa) (M:∃t10:Int,w.cell? (f0.add 5)=some (.i t10)/\
 Y (ah (t10>0)) (aN w (.cells #[.i h,.int .u8 j,.int .u8 k,q.v] aK) λL=>
 loc [c] L λu=>∃t15:Int,u.cell? (f0.add 5)=some (.i t15)/\
 av u (f0.add 5) (.i (ab .i64 (t15 - 1))) λH=>kept [c] u H/\
 aP f0 c 6 0 0 ⟨some (nb w),1,1⟩ H R) (loc [c] w λx=>∃t25:O,x.cell? (f0.add 4)=some (t25.v)/\
 aN x (.cells #[.i 0,.int .u8 0,.int .u8 0,.slice none 0 0] aK) λy=>
 y.cell? (f0.add 4)=some (t25.v)/\∃(t29:O) (e:I),a6 U (bb #[cw,cw] cw #[t25.v,.slice (some (nb x)) 1 1]) y=.ok (t29.v) e/\kept [c] y e/\aw t29 ((t25.n:Nat):Int) λd=>((av e (d.add (ag ((t25.n:Nat):Int) *4)) (.i h) λz=>kept [c] e z/\
 av z ((d.add (ag ((t25.n:Nat):Int) *4)).add 1) (.int .u8 j) λA=>kept [c] z A/\
 av A ((d.add (ag ((t25.n:Nat):Int) *4)).add 2) (.int .u8 k) λB=>kept [c] A B/\
 av B ((d.add (ag ((t25.n:Nat):Int) *4)).add 3) (q.v) λC=>kept [c] B C/\
 av C (f0.add 4) (t29.v) λJ=>kept [c] C J/\
 R (V (.tuple #[])) J)/\(av e (f0.add 4) (t29.v) λD=>kept [c] e D/\
 av D (d.add (ag ((t25.n:Nat):Int) *4)) (.i h) λE=>kept [c] D E/\
 av E ((d.add (ag ((t25.n:Nat):Int) *4)).add 1) (.int .u8 j) λF=>kept [c] E F/\
 av F ((d.add (ag ((t25.n:Nat):Int) *4)).add 2) (.int .u8 k) λG=>kept [c] F G/\
 av G ((d.add (ag ((t25.n:Nat):Int) *4)).add 3) (q.v) λK=>kept [c] G K/\
 R (V (.tuple #[])) K)))),aP f0 c h j k q w R:=mp (bF (X:=X) [aZ] (ak [0,2,1]) P0)
def aD (f0:Addr) (w:I) (R:aa) (d:aV w (f0.add 6) λe h j k=>aJ [] w λc n=>
 loc [c] n λq=>aP f0 c e h j k q R):ai U xx #[.pointer (some f0)] w R:=aE X [aZ] d
end uE
namespace JZ
noncomputable abbrev X:Fx:=⟨U,Tryz.f145,[(1,(.sq [0,1,2,3,4,5,6,7,9] (.fork (.sq [8,10,11,12,14,15] (.fork (ls [13,16]) (ls [16,13]))) (.sq [10,8,11,12,14,15] (.fork (ls [13,16]) (ls [16,13]))))))],[]⟩
abbrev S0 (f0:Addr) (w:I) (R:aa):Prop:=
 av w (f0.add 4) (.slice none 0 0) λc=>
 R (V (.tuple #[])) c
noncomputable def bf:=aC X [] (ak [2]) [(0,.v [.r])] S0
def ok (f0:Addr) (w:I) (R:aa) (J:eX xx #[.pointer (some f0)] w λK=>bY K λh=>∃c:O,h.cell? (f0.add 3)=some (c.v)/\
 ∃t11:O,h.cell? (f0.add 4)=some (t11.v)/\
 ((k' ng #[.i 3,t11.v] h λy z A B u=>u.cell? (f0.add 3)=some (c.v)/\aN u (.cells #[.i 0,.int .u8 0,.int .u8 0,.slice none 0 0] aK) λH=>
 H.cell? (f0.add 3)=some (c.v)/\∃(t15:O) (x:I),a6 U (bb #[cw,cw] cw #[c.v,.slice (some (nb u)) 1 1]) H=.ok (t15.v) x/\aw t15 ((c.n:Nat):Int) λd=>((cJ x (d.add (ag ((c.n:Nat):Int) *4)) (.i y) (.int .u8 z) (.int .u8 A) (B.v) λw9=>av w9 (f0.add 3) (t15.v) λL=>
 S0 f0 L R)/\(av x (f0.add 3) (t15.v) λM=>
 av M (d.add (ag ((c.n:Nat):Int) *4)) (.i y) λN=>
 av N ((d.add (ag ((c.n:Nat):Int) *4)).add 1) (.int .u8 z) λP=>
 av P ((d.add (ag ((c.n:Nat):Int) *4)).add 2) (.int .u8 A) λQ=>
 av Q ((d.add (ag ((c.n:Nat):Int) *4)).add 3) (B.v) λS=>
 S0 f0 S R)))/\(aN h (.cells #[.i 0,.int .u8 0,.int .u8 0,.slice none 0 0] aK) λk=>
 k.cell? (f0.add 4)=some (t11.v)/\k.cell? (f0.add 3)=some (c.v)/\k' ng #[.i 3,t11.v] k λC D E F G=>G.cell? (f0.add 3)=some (c.v)/\∃(j:O) (q:I),a6 U (bb #[cw,cw] cw #[c.v,.slice (some (nb h)) 1 1]) G=.ok (j.v) q/\aw j ((c.n:Nat):Int) λe=>((cJ q (e.add (ag ((c.n:Nat):Int) *4)) (.i C) (.int .u8 D) (.int .u8 E) (F.v) λT=>av T (f0.add 3) (j.v) λW=>
 S0 f0 W R)/\(av q (f0.add 3) (j.v) λY=>
 av Y (e.add (ag ((c.n:Nat):Int) *4)) (.i C) λZ=>
 av Z ((e.add (ag ((c.n:Nat):Int) *4)).add 1) (.int .u8 D) λab=>
 av ab ((e.add (ag ((c.n:Nat):Int) *4)).add 2) (.int .u8 E) λac=>
 av ac ((e.add (ag ((c.n:Nat):Int) *4)).add 3) (F.v) λad=>
 S0 f0 ad R))))):ai U xy #[.pointer (some f0)] w R:=aE X [bf] J
end JZ
namespace JX
noncomputable abbrev X:Fx:=⟨U,Tryz.f146,[(1,(.sq [0,1,2,3,4,5,6,7,9] (.fork (.sq [8,10,11,12,14,15] (.fork (ls [13,16]) (ls [16,13]))) (.sq [10,8,11,12,14,15] (.fork (ls [13,16]) (ls [16,13]))))))],[]⟩
abbrev S0 (f0:Addr) (w:I) (R:aa):Prop:=
 av w (f0.add 3) (.slice none 0 0) λc=>
 R (V (.tuple #[])) c
noncomputable def bf:=aC X [] (ak [2]) [(0,.v [.r])] S0
def ok (f0:Addr) (w:I) (R:aa) (J:eX xy #[.pointer (some f0)] w λK=>bY K λh=>∃c:O,h.cell? (f0.add 2)=some (c.v)/\
 ∃t11:O,h.cell? (f0.add 3)=some (t11.v)/\
 ((k' ng #[.i 5,t11.v] h λy z A B u=>u.cell? (f0.add 2)=some (c.v)/\aN u (.cells #[.i 0,.int .u8 0,.int .u8 0,.slice none 0 0] aK) λH=>
 H.cell? (f0.add 2)=some (c.v)/\∃(t15:O) (x:I),a6 U (bb #[cw,cw] cw #[c.v,.slice (some (nb u)) 1 1]) H=.ok (t15.v) x/\aw t15 ((c.n:Nat):Int) λd=>((cJ x (d.add (ag ((c.n:Nat):Int) *4)) (.i y) (.int .u8 z) (.int .u8 A) (B.v) λw9=>av w9 (f0.add 2) (t15.v) λL=>
 S0 f0 L R)/\(av x (f0.add 2) (t15.v) λM=>
 av M (d.add (ag ((c.n:Nat):Int) *4)) (.i y) λN=>
 av N ((d.add (ag ((c.n:Nat):Int) *4)).add 1) (.int .u8 z) λP=>
 av P ((d.add (ag ((c.n:Nat):Int) *4)).add 2) (.int .u8 A) λQ=>
 av Q ((d.add (ag ((c.n:Nat):Int) *4)).add 3) (B.v) λS=>
 S0 f0 S R)))/\(aN h (.cells #[.i 0,.int .u8 0,.int .u8 0,.slice none 0 0] aK) λk=>
 k.cell? (f0.add 3)=some (t11.v)/\k.cell? (f0.add 2)=some (c.v)/\k' ng #[.i 5,t11.v] k λC D E F G=>G.cell? (f0.add 2)=some (c.v)/\∃(j:O) (q:I),a6 U (bb #[cw,cw] cw #[c.v,.slice (some (nb h)) 1 1]) G=.ok (j.v) q/\aw j ((c.n:Nat):Int) λe=>((cJ q (e.add (ag ((c.n:Nat):Int) *4)) (.i C) (.int .u8 D) (.int .u8 E) (F.v) λT=>av T (f0.add 2) (j.v) λW=>
 S0 f0 W R)/\(av q (f0.add 2) (j.v) λY=>
 av Y (e.add (ag ((c.n:Nat):Int) *4)) (.i C) λZ=>
 av Z ((e.add (ag ((c.n:Nat):Int) *4)).add 1) (.int .u8 D) λab=>
 av ab ((e.add (ag ((c.n:Nat):Int) *4)).add 2) (.int .u8 E) λac=>
 av ac ((e.add (ag ((c.n:Nat):Int) *4)).add 3) (F.v) λad=>
 S0 f0 ad R))))):ai U xw #[.pointer (some f0)] w R:=aE X [bf] J
end JX
namespace JY
noncomputable abbrev X:Fx:=⟨U,Tryz.f130,[],[2,3]⟩
def aD (f0:Addr) (w:I) (R:aa) (n:aJ [] w λc z=>
 lZ [c] xw #[.pointer (some f0)] z λh=>∃e:O,h.cell? (f0.add 2)=some (e.v)/\
 ez [c] ng #[.i 4,e.v] h λq u x y B=>aJ [c] B λd C=>
 loc [c,d] C λj=>av j (f0.add 2) (.slice none 0 0) λk=>kept [c,d] j k/\
 loc [c,d] k λA=>R (V (.agg #[.i q,.int .u8 u,.int .u8 x,y.v])) A):ai U rD #[.pointer (some f0)] w R:=aE X [] n
end JY
namespace Dq
noncomputable abbrev X:Fx:=⟨U,Tryz.f129,[(1,ls [0,1,2,3,4,5,6,7,8,9,10,11])],[]⟩
def ok (c:Addr) (w:I) (R:aa) (h:bY w λe=>∃d:O,e.cell? (c.add 0)=some (d.v)/\
 ∃t10:O,e.cell? (c.add 0)=some (t10.v)/\
 (0:Int)<=(ab .i64 (((t10.n:Nat):Int) - 1))/\(ab .i64 (((t10.n:Nat):Int) - 1))<((d.n:Nat):Int)/\ct d.a λj=>R (V (.pointer (some (j.add (ag (ab .i64 (((t10.n:Nat):Int) - 1)) *10))))) e):ai U oh #[.pointer (some c)] w R:=aE X [] h
end Dq
namespace J5
noncomputable abbrev X:Fx:=⟨U,Tryz.f142,[],[]⟩
def ok (c:Addr) (d e:Int) (w:I) (R:aa) (j:∃t11:O,w.cell? (c.add 0)=some (t11.v)/\
 aN w (.cells #[.i d,.slice none 0 0,.slice none 0 0,.slice none 0 0,.slice none 0 0,.i 0,.i 0,.int .u8 0,.int .u8 0,.slice none 0 0] g8) λk=>
 ∃(t15:O) (h:I),a6 U (bb #[yM,yM] yM #[t11.v,.slice (some (nb w)) 1 1]) k=.ok (t15.v) h/\av h (c.add 0) (t15.v) λn=>
 av n (c.add 1) (.i e) λq=>
 R (V (.bool true)) q):ai U xB #[.pointer (some c),.i d,.i e] w R:=aE X [] j
end J5
namespace J3
noncomputable abbrev X:Fx:=⟨U,Tryz.f169,[(1,ls [0,2,1,3,4,5])],[3]⟩
def aD (e:Addr) (x y z:Int) (A:O) (w:I) (R:aa) (B:aJ [] w λc D=>
 loc [c] D λE=>qR [c] oh #[.pointer (some e)] E λC q=>ct C λd=>av q (d.add 6) (.i x) λh=>kept [c] q h/\
 av h ((d.add 6).add 1) (.int .u8 y) λj=>kept [c] h j/\
 av j ((d.add 6).add 2) (.int .u8 z) λk=>kept [c] j k/\
 av k ((d.add 6).add 3) (A.v) λn=>kept [c] k n/\
 av n (e.add 1) (.i 3) λu=>kept [c] n u/\
 R (V (.bool true)) u):ai U og #[.pointer (some e),.agg #[.i x,.int .u8 y,.int .u8 z,A.v]] w R:=aE X [] B
end J3
namespace J4
noncomputable abbrev X:Fx:=⟨U,Tryz.f143,[(2,ls [0,1,2,3,4,5,6,7,8,9,10,11,12,13,14])],[]⟩
def ok (d:Addr) (e:O) (w:I) (R:aa) (q:FP oh #[.pointer (some d)] w λB k=>ct B λC=>∃t10:Int,k.cell? (C.add 0)=some (.i t10)/\
 bY k λh=>∃t15:O,h.cell? (d.add 0)=some (t15.v)/\
 ∃t19:O,h.cell? (d.add 0)=some (t19.v)/\
 (0:Int)<=(ab .i64 (((t19.n:Nat):Int) - 1))/\(ab .i64 (((t19.n:Nat):Int) - 1))<=((t15.c:Nat):Int)/\av h (d.add 0) (.slice (if t15.c=0 then t15.a else t15.a.map (·.add (0 *10))) ((ag (ab .i64 (((t19.n:Nat):Int) - 1))) - 0) (t15.c - 0)) λj=>
 Y (ah (t10<0)) (aw e 0 λu=>aV j (u.add (ag 0 *4)) λx y z A=>gk og #[.pointer (some d),.agg #[.i x,.int .u8 y,.int .u8 z,A.v]] j λt31 D=>R (V (.bool t31)) D) (gk og #[.pointer (some d),.agg #[.i t10,.int .u8 0,.int .u8 0,e.v]] j λt36 E=>R (V (.bool t36)) E)):ai U ua #[.pointer (some d),e.v] w R:=aE X [] q
end J4
namespace Dp
noncomputable abbrev X:Fx:=⟨U,Tryz.f144,[],[3]⟩
abbrev aQ (w:I) (R:aa):Prop:=
 R (V (.bool true)) w
noncomputable def bf:=aC X [] (ak [2,1,7,1,1,1,1]) [] aQ
def aD (d:Addr) (k u x:Int) (h:ByteArray) (F:Int) (w:I) (R:aa) (C:aJ [] w λc j=>
 Y (k==33) (qR [c] oh #[.pointer (some d)] j λt10 n=>ct t10 λD=>∃t13:Int,n.cell? (D.add 5)=some (.i t13)/\
 ct t10 λE=>av n (E.add 5) (.i (ab .i64 (t13+1))) λq=>kept [c] n q/\
 av q (d.add 1) (.i 0) λB=>kept [c] q B/\
 R (V (.bool true)) B) (Y (k==40) (bM [c] xB #[.pointer (some d),.i (-1),.i 0] j λt23 G=>R (V (.bool t23)) G) (Y (k==114) (bM [c] og #[.pointer (some d),.agg #[.i 2,.int .u8 u,.int .u8 x,.slice none 0 0]] j λt32 H=>R (V (.bool t32)) H) (Y (k==119) (av j (d.add 1) (.i 2) λe=>kept [c] j e/\
 Y (h.toList==(az #[110,111,110,101]).toList) (bM [c] og #[.pointer (some d),.agg #[.i 0,.int .u8 0,.int .u8 0,.slice none 0 0]] e λt44 J=>R (V (.bool t44)) J) (Y (h.toList==(az #[101,109,112,116,121]).toList) (bM [c] og #[.pointer (some d),.agg #[.i 1,.int .u8 0,.int .u8 0,.slice none 0 0]] e λt49 K=>R (V (.bool t49)) K) (Y (h.toList==(az #[97,108,116]).toList) (av e (d.add 2) (.i 4) λy=>kept [c] e y/\
 aQ y R) (Y (h.toList==(az #[97,108,108]).toList) (av e (d.add 2) (.i 5) λz=>kept [c] e z/\
 aQ z R) (Y (h.toList==(az #[99,97,116]).toList) (av e (d.add 2) (.i 3) λA=>kept [c] e A/\
 aQ A R) (R (V (.bool false)) e)))))) (R (V (.bool false)) j))))):ai U rE #[.pointer (some d),.agg #[.int .u8 k,.int .u8 u,.int .u8 x,.string h,.i F]] w R:=aE X [bf] C
end Dp
namespace uG
noncomputable abbrev X:Fx:=⟨U,Tryz.f128,[(25,(.sq [0,1,2,3,4,6] (.fork (.sq [5,7,8,9,11,12] (.fork (ls [10,13]) (ls [13,10]))) (.sq [7,5,8,9,11,12] (.fork (ls [10,13]) (ls [13,10])))))),(28,ls [0,1,2,3,4,5,6,7,8,9,10,11,12,13,14,15,16,17,18])],[3]⟩
abbrev aQ (w:I) (R:aa):Prop:=
 R (V (.bool true)) w
noncomputable def bf:=aC X [] (ak [4]) [] aQ::[]
abbrev a2 (c:Addr) (w:I) (R:aa):Prop:=
 av w (c.add 1) (.i 0) λd=>
 aQ d R
noncomputable def bg:=aC X bf (ak [2,1,7,1,1,1,3]) [(0,.v [.r])] a2::bf
def aD (e:Addr) (j z A:Int) (B:ByteArray) (C:Int) (w:I) (R:aa) (aU:aJ [] w λc w1=>
 qR [c] oh #[.pointer (some e)] w1 λh d=>∃t11:Int,d.cell? (e.add 1)=some (.i t11)/\
 Y (t11==2) (Y (j==40) (∃t22:Int,d.cell? (e.add 2)=some (.i t22)/\
 bM [c] xB #[.pointer (some e),.i t22,.i 1] d λt23 w3=>R (V (.bool t23)) w3) (R (V (.bool false)) d)) (Y (t11==1) (Y (j==41) (bM [c] ua #[.pointer (some e),.slice none 0 0] d λt31 w4=>R (V (.bool t31)) w4) (bM [c] rE #[.pointer (some e),.agg #[.int .u8 j,.int .u8 z,.int .u8 A,.string B,.i C]] d λt34 w5=>R (V (.bool t34)) w5)) (Y (t11==0) (bM [c] rE #[.pointer (some e),.agg #[.int .u8 j,.int .u8 z,.int .u8 A,.string B,.i C]] d λt39 w6=>R (V (.bool t39)) w6) (Y (j==42) (ct h λa0=>aV d (a0.add 6) λa1 a3 a4 a5=>aN d (.cells #[.i a1,.int .u8 a3,.int .u8 a4,a5.v] aK) λw7=>
 ct h λD=>av w7 (D.add 6) (.i 7) λw8=>kept [c] w7 w8/\
 av w8 ((D.add 6).add 1) (.int .u8 0) λw9=>kept [c] w8 w9/\
 av w9 ((D.add 6).add 2) (.int .u8 0) λJ=>kept [c] w9 J/\
 av J ((D.add 6).add 3) (.slice (some (nb d)) 1 1) λaG=>kept [c] J aG/\
 aQ aG R) (Y (j==38) (lZ [c] xy #[.pointer h] d λaH=>av aH (e.add 1) (.i 0) λaI=>kept [c] aH aI/\
 aQ aI R) (Y (j==124) (lZ [c] xw #[.pointer h] d λaL=>av aL (e.add 1) (.i 0) λaM=>kept [c] aL aM/\
 aQ aM R) (Y (j==44) (ct h λa7=>∃t77:Int,d.cell? (a7.add 0)=some (.i t77)/\
 Y (ah (t77<0)) (R (V (.bool false)) d) (ct h λy=>loc [c] d λF=>∃t82:O,F.cell? (y.add 1)=some (t82.v)/\
 ((ez [c] rD #[.pointer h] F λaq ar au ax K=>K.cell? (y.add 1)=some (t82.v)/\aN K (.cells #[.i 0,.int .u8 0,.int .u8 0,.slice none 0 0] aK) λL=>
 L.cell? (y.add 1)=some (t82.v)/\∃(t87:O) (u:I),a6 U (bb #[cw,cw] cw #[t82.v,.slice (some (nb K)) 1 1]) L=.ok (t87.v) u/\kept [c] L u/\aw t87 ((t82.n:Nat):Int) λk=>ct h λaC=>((av u (k.add (ag ((t82.n:Nat):Int) *4)) (.i aq) λM=>kept [c] u M/\
 av M ((k.add (ag ((t82.n:Nat):Int) *4)).add 1) (.int .u8 ar) λN=>kept [c] M N/\
 av N ((k.add (ag ((t82.n:Nat):Int) *4)).add 2) (.int .u8 au) λP=>kept [c] N P/\
 av P ((k.add (ag ((t82.n:Nat):Int) *4)).add 3) (ax.v) λQ=>kept [c] P Q/\
 av Q (aC.add 1) (t87.v) λaO=>kept [c] Q aO/\
 a2 e aO R)/\(av u (aC.add 1) (t87.v) λS=>kept [c] u S/\
 av S (k.add (ag ((t82.n:Nat):Int) *4)) (.i aq) λT=>kept [c] S T/\
 av T ((k.add (ag ((t82.n:Nat):Int) *4)).add 1) (.int .u8 ar) λW=>kept [c] T W/\
 av W ((k.add (ag ((t82.n:Nat):Int) *4)).add 2) (.int .u8 au) λZ=>kept [c] W Z/\
 av Z ((k.add (ag ((t82.n:Nat):Int) *4)).add 3) (ax.v) λaP=>kept [c] Z aP/\
 a2 e aP R)))/\(aN F (.cells #[.i 0,.int .u8 0,.int .u8 0,.slice none 0 0] aK) λaR=>
 aR.cell? (y.add 1)=some (t82.v)/\ez [c] rD #[.pointer h] aR λay az aA aB ab=>ab.cell? (y.add 1)=some (t82.v)/\∃(E:O) (x:I),a6 U (bb #[cw,cw] cw #[t82.v,.slice (some (nb F)) 1 1]) ab=.ok (E.v) x/\kept [c] ab x/\aw E ((t82.n:Nat):Int) λq=>ct h λaF=>((av x (q.add (ag ((t82.n:Nat):Int) *4)) (.i ay) λac=>kept [c] x ac/\
 av ac ((q.add (ag ((t82.n:Nat):Int) *4)).add 1) (.int .u8 az) λad=>kept [c] ac ad/\
 av ad ((q.add (ag ((t82.n:Nat):Int) *4)).add 2) (.int .u8 aA) λae=>kept [c] ad ae/\
 av ae ((q.add (ag ((t82.n:Nat):Int) *4)).add 3) (aB.v) λaf=>kept [c] ae af/\
 av af (aF.add 1) (E.v) λaS=>kept [c] af aS/\
 a2 e aS R)/\(av x (aF.add 1) (E.v) λaj=>kept [c] x aj/\
 av aj (q.add (ag ((t82.n:Nat):Int) *4)) (.i ay) λak=>kept [c] aj ak/\
 av ak ((q.add (ag ((t82.n:Nat):Int) *4)).add 1) (.int .u8 az) λal=>kept [c] ak al/\
 av al ((q.add (ag ((t82.n:Nat):Int) *4)).add 2) (.int .u8 aA) λam=>kept [c] al am/\
 av am ((q.add (ag ((t82.n:Nat):Int) *4)).add 3) (aB.v) λaT=>kept [c] am aT/\
 a2 e aT R)))))) (Y (j==41) (loc [c] d λG=>∃t99:O,G.cell? (e.add 0)=some (t99.v)/\
 Y (ah (((t99.n:Nat):Int)>1)) (ct h λH=>∃t107:O,G.cell? (H.add 1)=some (t107.v)/\
 ez [c] rD #[.pointer h] G λaW aX aY aZ an=>an.cell? (H.add 1)=some (t107.v)/\aN an (.cells #[.i aW,.int .u8 aX,.int .u8 aY,aZ.v] aK) λao=>
 ao.cell? (H.add 1)=some (t107.v)/\∃(t111:O) (ap:I),a6 U (bb #[cw,cw] cw #[t107.v,.slice (some (nb an)) 1 1]) ao=.ok (t111.v) ap/\kept [c] ao ap/\bM [c] ua #[.pointer (some e),t111.v] ap λt112 a8=>R (V (.bool t112)) a8) (R (V (.bool false)) G)) (Y (j==36) (∃t119:O,d.cell? (e.add 0)=some (t119.v)/\
 R (V (.bool (((t119.n:Nat):Int)==1))) d) (lZ [c] xx #[.pointer h] d λa9=>bM [c] rE #[.pointer (some e),.agg #[.int .u8 j,.int .u8 z,.int .u8 A,.string B,.i C]] a9 λt46 ba=>R (V (.bool t46)) ba)))))))))):ai U B1 #[.pointer (some e),.agg #[.int .u8 j,.int .u8 z,.int .u8 A,.string B,.i C]] w R:=aE X bg aU
end uG
namespace Dm
noncomputable def C0:Code:=(Tryz.f121.body).getD .skip
noncomputable def C1:=C0.sn
noncomputable def C2:=C1.sn
noncomputable def C3:=C2.sn
noncomputable def C4:=C3.fs
noncomputable def C5:=C4.sn
noncomputable def C6:=C5.fs
noncomputable def C7:=W.Code.zv C6
noncomputable def C8:=W.Code.zy C6
noncomputable def C9:=C8.fs
noncomputable def gT:=C9.sn
noncomputable def fA:=gT.fs
abbrev Q0 (l_:Nat) (c:Loop) (R:aa):Exit->Act->I->Prop:=(roundPost U l_ R)
abbrev Q1 (l_:Nat) (c:Loop) (R:aa):Exit->Act->I->Prop:=(Exit.inBlock 1 (Q0 l_ c R))
noncomputable def iz:=fA.fs
noncomputable def iZ:=fA.sn
abbrev S3 (l_:Nat) (c:e4->Option Code->Obj) (t2 t3 t4 d:Addr) (w:I) (R:aa):Prop:=
 bY w λe=>∃t23:Int,e.cell? (d.add 4)=some (.i t23)/\
 cJ e t2 (.i 0) (.int .u8 0) (.int .u8 0) (.slice none 0 0) λh=>h.cell? (d.add 4)=some (.i t23)/\av h t3 (.i t23) λj=>
 av j t4 (.i 2) λk=>
 g6 k l_ (c .busy none) (c .done (some .ret)) λn=>R (V (.bool false)) n
def mN (l_:Nat) (c:e4->Option Code->Obj) (E:Env) (w:I) (R:aa):Prop:=W.cf (Env.get? E 2) λd=>W.cf (Env.get? E 3) λe=>W.cf (Env.get? E 4) λh=>W.cf (Env.get? E 6) λj=>S3 l_ c d e h j w R
def oU (l_:Nat) (e:Loop) (R:aa) (E:Env) (w:I) (k:mN l_ (lo e) E w R):WP U ⟨32,[],some l_⟩ fA (Q1 l_ e R) E w:=by obtain ⟨G,B,q⟩:=W.cu k;obtain ⟨H,C,u⟩:=W.cu q;obtain ⟨J,D,z⟩:=W.cu u;obtain ⟨K,F,A⟩:=W.cu z;exact λa d=>WP.at (n:=⟨32,[],some l_⟩) (E:=[(2,.pointer (some G)),(3,.pointer (some H)),(4,.pointer (some J)),(6,.pointer (some K))]) (WP.seq (c:=fA) (x:=iz) (y:=iZ) (by kernel_rfl)<|WP.draw (c:=iz) [0,1,2,3,4,5] (λE w=>g6 w l_ ((lo e) .busy none) ((lo e) .done (some .ret)) λL=>R (V (.bool false)) L) (by kernel_rfl) (mp A) λ_ _ a h j=>(WP.ret (c:=iZ) (Q:=(Q1 l_ e R)) (by kernel_rfl) λa h=>(show roundPost U l_ R .ret a _ from Ty (a:=a) (j).1 (j).2)) a h) (d.cons B (d.cons C (d.cons D (d.cons F d.nil))))
noncomputable def jw:=C9.fs
noncomputable def gU:=gT.sn
abbrev S2 (l_:Nat) (c:e4->Option Code->Obj) (t2 t3 t4 h d:Addr) (w:I) (R:aa):Prop:=
 H5 w d λj k n q u=>gk B1 #[.pointer (some h),.agg #[.int .u8 j,.int .u8 k,.int .u8 n,.string q,.i u]] w λt19 e=>Y (!t19) (S3 l_ c t2 t3 t4 d e R) (g6 e l_ (c .busy none) (c .ready none) λx=>R (V (.bool true)) x)
def k1 (l_:Nat) (c:e4->Option Code->Obj) (E:Env) (w:I) (R:aa):Prop:=W.cf (Env.get? E 2) λe=>W.cf (Env.get? E 3) λh=>W.cf (Env.get? E 4) λj=>W.cf (Env.get? E 5) λd=>W.cf (Env.get? E 6) λk=>S2 l_ c e h j d k w R
def oT (l_:Nat) (h:Loop) (R:aa) (E:Env) (w:I) (k:k1 l_ (lo h) E w R):WP U ⟨32,[],some l_⟩ C9 (Q1 l_ h R) E w:=by obtain ⟨K,C,q⟩:=W.cu k;obtain ⟨L,D,u⟩:=W.cu q;obtain ⟨M,F,z⟩:=W.cu u;obtain ⟨J,G,A⟩:=W.cu z;obtain ⟨N,H,B⟩:=W.cu A;exact λa e=>WP.at (n:=⟨32,[],some l_⟩) (E:=[(2,.pointer (some K)),(3,.pointer (some L)),(4,.pointer (some M)),(5,.pointer (some J)),(6,.pointer (some N))]) (WP.seq (c:=C9) (x:=jw) (y:=gT) (by kernel_rfl)<|WP.gN (c:=jw) (λE w=>g1 (Env.val E (.tmp 20)) (mN l_ (lo h) E w R) (g6 w l_ ((lo h) .busy none) ((lo h) .ready none) λO=>R (V (.bool true)) O)) (by kernel_rfl) (mp B) λ_ _ a j d=>(WP.g1 (c:=gT) (x:=fA) (y:=gU) (o:=.tmp 20) (by kernel_rfl) (λd=>(oU l_ h R _ _ d)) (λd=>(WP.skip (c:=gU) (by kernel_rfl) λa j=>Dw (a:=a) (d).1 (d).2)) d) a j) (e.cons C (e.cons D (e.cons F (e.cons G (e.cons H e.nil)))))
abbrev Q2 (l_:Nat) (c:Loop) (R:aa):Exit->Act->I->Prop:=(oX U 32 l_ c C8 (roundPost U l_ R))
abbrev S1 (l_:Nat) (c:e4->Option Code->Obj) (t2 t3 t4 d:Addr) (e h j:Int) (k:ByteArray) (n:Int) (w:I) (R:aa):Prop:=
 aN w (.cells #[.int .u8 0,.int .u8 0,.int .u8 0,.s0,.i 0] mB) λq=>
 KY q (nb w) (.int .u8 e) (.int .u8 h) (.int .u8 j) (.string k) (.i n) λu=>g6 u l_ (c .ready none) (c .busy none) λx=>S2 l_ c t2 t3 t4 d (nb w) x R
def sv (l_:Nat) (c:e4->Option Code->Obj) (E:Env) (w:I) (R:aa):Prop:=W.cf (Env.get? E 2) λH=>W.cf (Env.get? E 3) λJ=>W.cf (Env.get? E 4) λK=>W.cf (Env.get? E 5) λd=>W.asAgg (Env.get? E 17) λq=>W.kz q λB u=>W.asInt .u8 (some B) λe=>W.kz u λC x=>W.asInt .u8 (some C) λh=>W.kz x λD y=>W.asInt .u8 (some D) λj=>W.kz y λF z=>W.k7 (some F) λk=>W.kz z λG A=>W.asInt .i64 (some G) λn=>W.jD A<|S1 l_ c H J K d e h j k n w R
def sw (l_:Nat) (h:Loop) (R:aa) (E:Env) (w:I) (k:sv l_ (lo h) E w R):WP U ⟨32,[],some l_⟩ C7 (Q2 l_ h R) E w:=by obtain ⟨t2,Q,u⟩:=W.cu k;obtain ⟨t3,S,G⟩:=W.cu u;obtain ⟨t4,T,H⟩:=W.cu G;obtain ⟨Z,Y,J⟩:=W.cu H;obtain ⟨ag,P,K⟩:=W.Nf J;obtain ⟨am,ah,rfl,L⟩:=W.nR K;obtain ⟨ab,d,M⟩:=W.eK L;obtain rfl:=fQ d;obtain ⟨an,ai,rfl,N⟩:=W.nR M;obtain ⟨ac,d,O⟩:=W.eK N;obtain rfl:=fQ d;obtain ⟨ao,aj,rfl,y⟩:=W.nR O;obtain ⟨ad,d,z⟩:=W.eK y;obtain rfl:=fQ d;obtain ⟨ap,ak,rfl,A⟩:=W.nR z;obtain ⟨ae,d,B⟩:=W.mS A;obtain rfl:=fQ d;obtain ⟨aq,al,rfl,C⟩:=W.nR B;obtain ⟨af,d,D⟩:=W.eK C;obtain rfl:=fQ d;obtain ⟨rfl,F⟩:=W.o1 D;exact λa e=>WP.at (n:=⟨32,[],some l_⟩) (E:=[(2,.pointer (some t2)),(3,.pointer (some t3)),(4,.pointer (some t4)),(5,.pointer (some Z)),(17,.agg #[.int .u8 ab,.int .u8 ac,.int .u8 ad,.string ae,.i af])]) (WP.gN (c:=C7) (λE w=>w.heap[l_]? =some (lo h .ready none)/\((λw=>k1 l_ (lo h) E w R) (w.putObj l_ (lo h .busy none)))) (by kernel_rfl) (mp F) λ_ _ a q j=>⟨(j).1,(WP.block (c:=C8) (x:=C9) (id:=1) (by kernel_rfl) (oT l_ h R _ _ (j).2)) a q⟩) (e.cons Q (e.cons S (e.cons T (e.cons Y (e.cons P e.nil)))))
abbrev mF (l_:Nat) (c:e4->Option Code->Obj) (q:ByteArray) (t2 t3 t4 d u:Addr) (e h j:Int) (k:ByteArray) (n:Int) (w:I) (R:aa):Prop:=
 S1 l_ c t2 t3 t4 d e h j k n w R
def sG (l_:Nat) (c:Loop) (e:ByteArray) (t2 t3 t4 d h:Addr) (j k n:Int) (q:ByteArray) (u:Int) (w:I) (R:aa) (x:mF l_ (lo c) e t2 t3 t4 d h j k n q u w R):WP U ⟨32,[],some l_⟩ C7 (oX U 32 l_ c C8 (roundPost U l_ R)) (mo [(0,.string e),(2,.pointer (some t2)),(3,.pointer (some t3)),(4,.pointer (some t4)),(5,.pointer (some d)),(16,.func (.func oi) #[] #[.pointer (some h)])] [17] [.agg #[.int .u8 j,.int .u8 k,.int .u8 n,.string q,.i u]]) w:=
 (sw l_ c R _ _ (mp x))
noncomputable def gV:=C3.sn
noncomputable def jZ:=gV.sn
noncomputable def jx:=jZ.fs
noncomputable def i0:=jx.sn
noncomputable def iA:=i0.fs
noncomputable def h2:=jZ.sn
abbrev Q3 (R:aa):e5:=(Exit.then (e3 U (cx 32) h2 (bodyPostM Fence.wide 0 U Tryz.f121 R)) (bodyPostM Fence.wide 0 U Tryz.f121 R))
noncomputable def kp:=iA.fs
noncomputable def mG:=iA.sn
abbrev S6 (h:Nat) (u:ByteArray) (t2 t3 t4:Addr) (w:I) (R:aa):Prop:=
 cJ w t2 (.i 0) (.int .u8 0) (.int .u8 0) (.slice none 0 0) λx=>av x t3 (.i ((u.size:Nat):Int)) λy=>
 av y t4 (.i 4) λz=>
 g6 z h (.deferred (some [])) (.deferred none) λc=>aV c t2 λj k n q=>∃d:Int,c.cell? t3=some (.i d)/\
 ∃e:Int,c.cell? t4=some (.i e)/\
 R (V (.tuple #[.agg #[.i j,.int .u8 k,.int .u8 n,q.v],.i d,.i e])) c
def EH (c:Nat) (E:Env) (w:I) (R:aa):Prop:=W.k7 (Env.get? E 0) λd=>W.cf (Env.get? E 2) λe=>W.cf (Env.get? E 3) λh=>W.cf (Env.get? E 4) λj=>S6 c d e h j w R
def ML (e:Nat) (R:aa) (E:Env) (w:I) (j:EH e E w R):WP U (marked 32 e) iA (Q3 R) E w:=by obtain ⟨G,B,q⟩:=W.mS j;obtain ⟨H,C,u⟩:=W.cu q;obtain ⟨J,D,z⟩:=W.cu u;obtain ⟨K,F,A⟩:=W.cu z;exact λa d=>WP.at (n:=(marked 32 e)) (E:=[(0,.string G),(2,.pointer (some H)),(3,.pointer (some J)),(4,.pointer (some K))]) (WP.seq (c:=iA) (x:=kp) (y:=mG) (by kernel_rfl)<|WP.gN (c:=kp) (λE w=>uI U Tryz.f121 E w e R) (by kernel_rfl) (mp A) λ_ _ a h k=>(WP.ret (c:=mG) (by kernel_rfl) λa h=>uJ h k) a h) (d.cons B (d.cons C (d.cons D (d.cons F d.nil))))
abbrev Q4 (R:aa):e5:=(bodyPostM Fence.wide 0 U Tryz.f121 R)
noncomputable def oO:=h2.fs
noncomputable def mH:=h2.sn
abbrev S7 (h:Nat) (t2 t3 t4 D:Addr) (w:I) (R:aa):Prop:=
 aV w D λu x y z=>cJ w t2 (.i u) (.int .u8 x) (.int .u8 y) (z.v) λA=>av A t3 (.i 0) λB=>
 av B t4 (.i 0) λC=>
 g6 C h (.deferred (some [])) (.deferred none) λc=>aV c t2 λj k n q=>∃d:Int,c.cell? t3=some (.i d)/\
 ∃e:Int,c.cell? t4=some (.i e)/\
 R (V (.tuple #[.agg #[.i j,.int .u8 k,.int .u8 n,q.v],.i d,.i e])) c
def vy (c:Nat) (E:Env) (w:I) (R:aa):Prop:=W.cf (Env.get? E 2) λd=>W.cf (Env.get? E 3) λe=>W.cf (Env.get? E 4) λh=>W.cf (Env.get? E 7) λj=>S7 c d e h j w R
def zd (e:Nat) (R:aa) (E:Env) (w:I) (j:vy e E w R):WP U (marked 32 e) h2 (Q4 R) E w:=by obtain ⟨G,B,q⟩:=W.cu j;obtain ⟨H,C,u⟩:=W.cu q;obtain ⟨J,D,z⟩:=W.cu u;obtain ⟨K,F,A⟩:=W.cu z;exact λa d=>WP.at (n:=(marked 32 e)) (E:=[(2,.pointer (some G)),(3,.pointer (some H)),(4,.pointer (some J)),(7,.pointer (some K))]) (WP.seq (c:=h2) (x:=oO) (y:=mH) (by kernel_rfl)<|WP.gN (c:=oO) (λE w=>uI U Tryz.f121 E w e R) (by kernel_rfl) (mp A) λ_ _ a h k=>(WP.ret (c:=mH) (by kernel_rfl) λa h=>uJ h k) a h) (d.cons B (d.cons C (d.cons D (d.cons F d.nil))))
noncomputable def mI:=jx.fs
noncomputable def mJ:=i0.sn
abbrev S5 (c:Nat) (h:ByteArray) (t2 t3 t4 e:Addr) (w:I) (R:aa):Prop:=
 aV w e λj k n q=>gk ub #[.agg #[.i j,.int .u8 k,.int .u8 n,q.v]] w λt27 d=>Y t27 (S6 c h t2 t3 t4 d R) (S7 c t2 t3 t4 e d R)
def sy (c:Nat) (E:Env) (w:I) (R:aa):Prop:=W.k7 (Env.get? E 0) λd=>W.cf (Env.get? E 2) λe=>W.cf (Env.get? E 3) λh=>W.cf (Env.get? E 4) λj=>W.cf (Env.get? E 7) λk=>S5 c d e h j k w R
def zc (d:Nat) (R:aa) (E:Env) (w:I) (k:sy d E w R):WP U (marked 32 d) jx (Q3 R) E w:=by obtain ⟨J,C,q⟩:=W.mS k;obtain ⟨K,D,u⟩:=W.cu q;obtain ⟨L,F,z⟩:=W.cu u;obtain ⟨M,G,A⟩:=W.cu z;obtain ⟨N,H,B⟩:=W.cu A;exact λa e=>WP.at (n:=(marked 32 d)) (E:=[(0,.string J),(2,.pointer (some K)),(3,.pointer (some L)),(4,.pointer (some M)),(7,.pointer (some N))]) (WP.seq (c:=jx) (x:=mI) (y:=i0) (by kernel_rfl)<|WP.gN (c:=mI) (λE w=>g1 (Env.val E (.tmp 27)) (EH d E w R) (vy d E w R)) (by kernel_rfl) (mp B) λ_ _ a j h=>(WP.g1 (c:=i0) (x:=iA) (y:=mJ) (o:=.tmp 27) (by kernel_rfl) (λh=>(ML d R _ _ h)) (λh=>(WP.skip (c:=mJ) (by kernel_rfl) λa j=>(zd d R _ _ h) a j)) h) a j) (e.cons C (e.cons D (e.cons F (e.cons G (e.cons H e.nil)))))
noncomputable def oP:=gV.fs
abbrev S4 (d:Nat) (h:ByteArray) (t2 t3 t4 e:Addr) (w:I) (R:aa):Prop:=
 FP oh #[.pointer (some e)] w λt24 u=>k' rD #[.pointer t24] u λj k n q c=>aN c (.cells #[.i 0,.int .u8 0,.int .u8 0,.slice none 0 0] aK) λx=>
 cJ x (nb c) (.i j) (.int .u8 k) (.int .u8 n) (q.v) λy=>S5 d h t2 t3 t4 (nb c) y R
def vx (c:Nat) (E:Env) (w:I) (R:aa):Prop:=W.k7 (Env.get? E 0) λe=>W.cf (Env.get? E 2) λh=>W.cf (Env.get? E 3) λj=>W.cf (Env.get? E 4) λk=>W.cf (Env.get? E 5) λd=>S4 c e h j k d w R
def zb (e:Nat) (R:aa) (E:Env) (w:I) (h:vx e E w R):WP U (marked 32 e) gV (Q4 R) E w:=by obtain ⟨K,C,q⟩:=W.mS h;obtain ⟨L,D,u⟩:=W.cu q;obtain ⟨M,F,z⟩:=W.cu u;obtain ⟨N,G,A⟩:=W.cu z;obtain ⟨J,H,B⟩:=W.cu A;exact λa d=>WP.at (n:=(marked 32 e)) (E:=[(0,.string K),(2,.pointer (some L)),(3,.pointer (some M)),(4,.pointer (some N)),(5,.pointer (some J))]) (WP.seq (c:=gV) (x:=oP) (y:=jZ) (by kernel_rfl)<|WP.gN (c:=oP) (λE w=>sy e E w R) (by kernel_rfl) (mp B) λ_ _ a j k=>(WP.seq (c:=jZ) (x:=jx) (y:=h2) (by kernel_rfl) (zc e R _ _ k)) a j) (d.cons C (d.cons D (d.cons F (d.cons G (d.cons H d.nil)))))
abbrev S0 (y:ByteArray) (t2 t3 t4 x z:Addr) (w:I) (R:aa):Prop:=
 ∀c:e4->Option Code->Obj,(∀(A B C:Int) (D:ByteArray) (E:Int) (j:I) (k:Bool->I->Prop),j.heap[w.heap.size+1]? =some (c .ready none)->mF (w.heap.size+1) c y t2 t3 t4 x z A B C D E j (λh L=>∃n:Bool,h=V (.bool n)/\k n L)->kY U (w.heap.size+1) #[.agg #[.int .u8 A,.int .u8 B,.int .u8 C,.string D,.i E]] j k)->
 ai U oi #[.func (.yield (w.heap.size+1)) #[] #[],.pointer (some z)] ((w.alloc (.deferred (some []))).alloc (c .ready none)) λh M=>(∃K,h=V K)/\qE M (w.heap.size+1) c (λd=>S4 w.heap.size y t2 t3 t4 x d R) (λN d=>False) (λd=>g6 d w.heap.size (.deferred (some [])) (.deferred none) λe=>aV e t2 λF G H J=>∃q:Int,e.cell? t3=some (.i q)/\
 ∃u:Int,e.cell? t4=some (.i u)/\
 R (V (.tuple #[.agg #[.i F,.int .u8 G,.int .u8 H,J.v],.i q,.i u])) e)
abbrev Q5 (R:aa):e5:=(Exit.then (e3 U (cx 32) gV (bodyPostM Fence.wide 0 U Tryz.f121 R)) (bodyPostM Fence.wide 0 U Tryz.f121 R))
abbrev Q6 (R:aa):e5:=(Exit.inBlock 0 (Q5 R))
def mM (E:Env) (w:I) (R:aa):Prop:=W.k7 (Env.get? E 0) λd=>W.cf (Env.get? E 2) λq=>W.cf (Env.get? E 3) λu=>W.cf (Env.get? E 4) λx=>W.cf (Env.get? E 5) λc=>W.nS oi (Env.get? E 16) λk h=>W.jD k<|W.kz h λn j=>W.cf (some n) λe=>W.jD j<|S0 d q u x c e w R
def su:sA U 32 mM C6 Q6:=by
 intro w aq C x;obtain ⟨A,af,O⟩:=W.mS x;obtain ⟨j,ah,Q⟩:=W.cu O;obtain ⟨k,ai,S⟩:=W.cu Q;obtain ⟨q,aj,T⟩:=W.cu S;obtain ⟨z,ak,Y⟩:=W.cu T;obtain ⟨aw,au,ag,Z⟩:=W.zu Y;obtain ⟨rfl,aa⟩:=W.o1 Z;obtain ⟨ax,av,rfl,ab⟩:=W.nR aa;obtain ⟨B,N,ac⟩:=W.cu ab;obtain rfl:=fQ N;obtain ⟨rfl,P⟩:=W.o1 ac;exact λa d=>WP.at (n:=(cx 32)) (E:=[(0,.string A),(2,.pointer (some j)),(3,.pointer (some k)),(4,.pointer (some q)),(5,.pointer (some z)),(16,.func (.func oi) #[] #[.pointer (some B)])]) (WP.range (m:=32) (c:=C6) (g:=.tmp 16) (ps:=#[17]) (assign:=C7) (body:=C8) (gf:=oi) (lb:=#[.pointer (some B)]) (λe=>S4 C.heap.size A j k q z e w) (λar e=>False) (λe=>g6 e C.heap.size (.deferred (some [])) (.deferred none) λu=>aV u j λam an ao ap=>∃D:Int,u.cell? k=some (.i D)/\
 ∃F:Int,u.cell? q=some (.i F)/\
 w (V (.tuple #[.agg #[.i am,.int .u8 an,.int .u8 ao,ap.v],.i D,.i F])) u) (by kernel_rfl) rfl (by kernel_rfl)
  (λe h a y=>(zb C.heap.size w _ _ (mp h)) a y)
  (λ_ _ h=>h.elim)
  (λe h a y=>uJ y (mp h))
  (λG al=>P (lo G) (λH J K L M w_ K_ ae ad=>Ev (args:=[.agg #[.int .u8 H,.int .u8 J,.int .u8 K,.string L,.i M]]) al ae rfl (by kernel_rfl) (λ_ _ x=>x) (sG _ G A j k q z B H J K L M w_ _ ad)))) (d.cons af (d.cons ah (d.cons ai (d.cons aj (d.cons ak (d.cons ag d.nil))))))
noncomputable def qq:=C1.fs
noncomputable def qs:=qq.sn
noncomputable def qt:=qs.fs
noncomputable def vr:=qt.sn
noncomputable def MF:=qs.sn
def ok (e:ByteArray) (w:I) (R:aa) (z:aN w (.cells #[.i 0,.int .u8 0,.int .u8 0,.slice none 0 0] aK) λh=>
 aN h (.cells #[.i 0] bX) λj=>
 aN j (.cells #[.i 0] LV) λu=>
 Y (ah (((e.size:Nat):Int)>4096)) (cJ u (nb w) (.i 0) (.int .u8 0) (.int .u8 0) (.slice none 0 0) λO=>av O (nb h) (.i 4096) λP=>
 av P (nb j) (.i 4) λk=>
 aV k (nb w) λA B C D=>∃x:Int,k.cell? (nb h)=some (.i x)/\
 ∃y:Int,k.cell? (nb j)=some (.i y)/\
 R (V (.tuple #[.agg #[.i A,.int .u8 B,.int .u8 C,D.v],.i x,.i y])) k) (aN u (.cells #[.i (-1),.slice none 0 0,.slice none 0 0,.slice none 0 0,.slice none 0 0,.i 0,.i 0,.int .u8 0,.int .u8 0,.slice none 0 0] g8) λq=>
 aN q (.cells #[.slice none 0 0,.i 0,.i 0] vi) λL=>
 qa L (nb q) (.slice (some (nb u)) 1 1) (.i 0) (.i 0) λM=>zV Iv #[.string e] M λt16 N=>W.nS oi (some t16) λJ G=>W.jD J<|W.kz G λK H=>W.cf (some K) λF=>W.jD H<|S0 e (nb w) (nb h) (nb j) (nb q) F N R)):ai U BV #[.string e] w R:=
 zW (R:=R) (fn:=Tryz.f121) (c:=C0) (args:=[.string e]) (by kernel_rfl) (by kernel_rfl) (by kernel_rfl) (sr C0 (show (λ(E:Env) (w:I)=>dN U C0 (λE w=>dN U qq (λE w=>g1 (Env.val E (.tmp 10)) (dN U qt (λE w=>jU U Tryz.f121 E w (λv=>R (V v) w)) E w) (dN U C2 (λE w=>dN U C4 (λE w=>mM E w R) E w) E w)) E w) E w) (ja 0 [.string e]) w from mp z) λ_ _ d=>(sq C1 (sr qq d λ_ _ d=>(cn qs d (λd=>(sr qt d λ_ _ d=>(rt vr λa n=>Ts n d))) (λd=>(sk MF λa n=>nx n (sr C2 d λ_ _ d=>(sq C3 (sr C4 d λ_ _ d=>(bk C5 0 (by kernel_rfl) (su R _ _ d)))))))))))
end Dm
abbrev dK:=O×List ae
def _root_.Go.W.En.rows (h:List dK):En:=⟨jj (h.flatMap λp:dK=>ay p.1),λj=>(∀p∈h,aS j aK 4 p.1 p.2)/\(h.flatMap λp:dK=>ay p.1).Nodup,
 λj q k e=>⟨λp d=>(e.1 p d).ck λb c n=>k b (aT.2 (ch.2 ⟨p,d,c⟩)) n,e.2⟩,
 λj e b c=>by obtain ⟨p,d,c⟩:=ch.1 (aT.1 c);exact (e.1 p d).lt b c,nk _⟩
def Kl (d:List dK) (n:d≠[]) (w:I) (b:Nat) (c:b∈(En.rows d).fp):¬(En.rows d).P ({w with heap:=Array.replicate (b+1) (.map #[] 0)}):=by rintro ⟨e,_⟩;obtain ⟨p,j,c⟩:=ch.1 (aT.1 c);obtain ⟨k,f,h⟩:=(e p j).row.qi b c;simp at h
section
variable {M:Nat->Prop} {w0 w:I} {L D:List En} {bs:List Nat}
def Hv (H:LH M w0 w L D) {i:Nat} {c:List dK} (hi:L[i]? =some (.rows c)) {b:Nat} (k:En.g b∈L):b∉(En.rows c).fp:=by
 intro e;obtain ⟨q,d⟩:=iQ.1 k;by_cases h:i=q
 .subst h;rw [hi] at d;have j:En.rows c=En.g b:=fQ d;have n:c≠[]:=by rintro rfl;simp [En.rows,jj] at e
  refine Kl c n w b e ?_;rw [j];show b<_;simp
 .exact m1 H.nd hi d h b e (by simp [En.g])
def PL {c:List dK} {j:Nat} {s s':O} {vs q:List ae} (e:c[j]? =some (s,vs)) (h:(c.flatMap λp:dK=>ay p.1).Nodup) (k:(ay s').Nodup) (n:∀d∈ay s',d∈ay s\/d∉c.flatMap λp:dK=>ay p.1):((c.set j (s',q)).flatMap λp:dK=>ay p.1).Nodup:=
 CE (f:=λp:dK=>ay p.1) e h k n
def Nv (s:O):(ay s).Nodup:=by unfold ay;split<;>simp
def wY {α:Type} {l:List α} {j:Nat} {a x:α} (e:x∈l.set j a):x=a\/∃i,i≠j/\l[i]? =some x:=by
 obtain ⟨i,c⟩:=iQ.1 e;rw [List.getElem?_set] at c;split at c
 .split at c
  .exact .inl (fQ c).symm
  .cases c
 .rename_i h;exact .inr ⟨i,λd=>h d.symm,c⟩
def Kj {n:List dK} (k:(n.flatMap λp:dK=>ay p.1).Nodup):∀{i j:Nat} {p c:dK},n[i]? =some p->n[j]? =some c->i≠j->∀b∈ay p.1,b∉ay c.1:=by
 induction n with
 |nil=>intro i j p c h;simp at h
 |cons a l x=>
  rw [cO,gM] at k;intro i j p c d e w b q u;cases i with
  |zero=>
   simp at d;subst d;cases j with
   |zero=>exact w rfl
   |succ j=>exact k.2.2 b q b (ch.2 ⟨c,aI (by simpa using e),u⟩) rfl
  |succ i=>
   cases j with
   |zero=>
    simp at e;subst e;exact k.2.2 b u b (ch.2 ⟨p,aI (by simpa using d),q⟩) rfl
   |succ j=>exact x k.2.1 (by simpa using d) (by simpa using e) (by omega) b q u
def Dz (H:LH M w0 w L D) {w':I} (i j:Nat) {d:List dK} {s s':O} {vs z:List ae} (hi:L[i]? =some (.rows d)) (q:d[j]? =some (s,vs)) (f:Fr (λb=>b∈ay s) w w') (G:aS w' aK 4 s' z) (e:∀b∈ay s',b∈ay s\/w.heap.size<=b):
  LH M w0 w' (L.set i (.rows (d.set j (s',z)))) D:=by
 have h:(En.rows d).P w:=H.get i hi;have y:∀b∈ay s,b∈(En.rows d).fp:=λb e=>aT.2 (ch.2 ⟨_,aI q,e⟩);have F:∀b∈d.flatMap (λp:dK=>ay p.1),b<w.heap.size:=λb e=>(En.rows d).lt w h b (aT.2 e);refine H.g9 i _ hi (f.mono λn _ u=>y n u) ⟨λp c=>?_,PL q h.2 (Nv _) λn u=>(e n u).imp id λK c=>by have:=F n c;omega⟩ λb c=>?_
 .rcases wY c with rfl|⟨J,C,k⟩
  .exact G
  .exact (h.1 p (aI k)).ck λb A E=>f.ck b E λB=>Kj h.2 k q C b A B
 .obtain ⟨p,c,x⟩:=ch.1 (aT.1 c);rcases wY c with rfl|⟨J,_,k⟩
  .exact (e b x).imp (y b) id
  .exact .inl (aT.2 (ch.2 ⟨p,aI k,x⟩))
def _root_.Go.W.LH.vK (H:LH M w0 w L D) (i j:Nat) {ty:TypeId} {e:List dK} {s src:O} {vs news:List ae} {K:O->I->Prop} (hi:L[i]? =some (.rows e)) (h:e[j]? =some (s,vs)) (x:bL 4 w src news) (E:∀Q∈news,Q.oneCell'=true) (G:(s.n+src.n) *40<=140737488355328)
  (F:∀c d,LH M w0 d (L.set i (.rows (e.set j (c,vs++news)))) D->c.n=s.n+src.n->(c.a=none->s.a=none/\src.n=0)->K c d) (u:∀b∈bs,En.g b∈L:=by simp):
  ∃c d,(bb #[cw,cw] ty #[s.v,src.v]).run U w=.ok c.v d/\kept bs w d/\K c d:=by have N:(En.rows e).P w:=H.get i hi;obtain ⟨c,d,y,z,A,k,B,C⟩:=vN (ty:=ty) pf (N.1 _ (aI h)) x.2.2 x.1 E G;refine ⟨c,d,y,λb q=>?_,F c d (Dz H i j hi h k z B) A C⟩;refine k.ck b (H.own _ (u b q)) λJ=>?_;exact Hv H hi (u b q) (aT.2 (ch.2 ⟨_,aI h,J⟩))
def _root_.Go.W.LH.yy (H:LH M w0 w L D) (i j a c:Nat) {e:List dK} {s:O} {vs:List ae} {v:ae} {p:Addr} {K:I->Prop} (hi:L[i]? =some (.rows e)) (h:e[j]? =some (s,vs)) (C:s.a=some p) (A:a+c<vs.length)
  (y:∀q,LH M w0 q (L.set i (.rows (e.set j (s,vs.set (a+c) v)))) D->K q) (k:∀b∈bs,En.g b∈L:=by simp):av w ((p.add a).add c) v λu=>kept bs w u/\K u:=by have z:(En.rows e).P w:=H.get i hi;obtain ⟨N,n,J,E,F,G,x⟩:=CX (z.1 _ (aI h)) (a+c) A v;rw [C] at n;cases n;rw [add_add];refine ⟨E,F,λb d=>?_,y _ (Dz H i j hi h x G λb d=>.inl d)⟩;exact x.ck b (H.own _ (k b d)) λB=>Hv H hi (k b d) (aT.2 (ch.2 ⟨_,aI h,B⟩))
def _root_.Go.W.LH.AP (H:LH M w0 w L D) (i j:Nat) {n:List dK} {s:O} {vs:List ae} (hi:L[i]? =some (.rows n)) (q:n[j]? =some (s,vs)):LH M w0 w (L.set i (.rows (n.set j (⟨none,0,0⟩,[])))) (D++[.bz 4 s vs]):=by
 have B:(En.rows n).P w:=H.get i hi;have d:=Dz H i j hi q (Fr.refl _ _) (aS.nil w aK 4) (λb h=>by simp [ay] at h);have J:∀b∈ay s,b∈(En.rows n).fp:=λb h=>aT.2 (ch.2 ⟨_,aI q,h⟩);have N:i<L.length:=(cD.1 hi).1;refine ⟨d.fr,d.own,λk c=>?_,d.new,d.nd,λk c b h C A u=>?_⟩
 .rcases a5.1 c with c|c
  .exact d.rd k c
  .simp at c;subst c;exact (B.1 _ (aI q)).bz
 .rcases a5.1 c with c|c
  .exact d.dj k c b h C A u
  .simp at c;subst c;have z:b∈ay s:=gb (e:=aK) h;rcases wY A with rfl|⟨K,x,E⟩
   .obtain ⟨Q,G,y⟩:=ch.1 (aT.1 u);rcases wY G with rfl|⟨K,x,F⟩
    .simp [ay] at y
    .exact Kj B.2 F q x b y z
   .exact m1 H.nd hi E (λk=>x k.symm) b (J b z) u
end
structure FX where
 k:Int
 ar:O×List Rx
 al:List Rx
 an:List Rx
 ca:List Rx
 n:Nat
 la:Rx
structure FM where
 k:Int
 ar:O×List J
 al:O×List J
 an:O×List J
 ca:O×List J
 n:Nat
 la:J
def FM.x (f:FM):FX:=⟨f.k,(f.ar.1,J.ax f.ar.2),J.ax f.al.2,J.ax f.an.2,J.ax f.ca.2,f.n,f.la.rx⟩
def FM.c (f:FM):List ae:=[.int .i64 f.k,f.ar.1.v,f.al.1.v,f.an.1.v,f.ca.1.v,.int .i64 (f.n:Int),.int .i64 f.la.k,.int .u8 (f.la.lo.toNat:Int),.int .u8 (f.la.hi.toNat:Int),f.la.s.v]
def FM.rows (f:FM):List dK:=[(f.ar.1,f.ar.2.flatMap J.c),(f.al.1,f.al.2.flatMap J.c),(f.an.1,f.an.2.flatMap J.c),(f.ca.1,f.ca.2.flatMap J.c)]
def FM.ts (f:FM):List J:=f.ar.2++f.al.2++f.an.2++f.ca.2++[f.la]
def FM.mX (f:FM):f.c.length=10:=rfl
def n3 (d:List FM):(d.flatMap FM.c).length=d.length *10:=rf FM.c 10 FM.mX d
abbrev SL (rb:Nat) (d:O) (st h:Int) (cs:List ae) (e:List dK):List En:=[.c rb [d.v,.int .i64 st,.int .i64 h] vi,.row g8 10 d cs,.rows e]
def St (w:I) (rb:Nat) (f0:Addr) (lo:List FX) (k:FX) (st h:Int) (own:List Nat) (ts:List J):Prop:=
 ∃(e:O) (d:List FM) (f:FM) (p:Addr),d.map FM.x=lo/\f.x=k/\(∀g∈d++[f],∀t∈g.ts,t∈ts)/\e.a=some p/\f0=p.add (d.length *10)/\
  own=(SL rb e st h ((d++[f]).flatMap FM.c) ((d++[f]).flatMap FM.rows)).flatMap (·.fp)/\own.Nodup/\(∀j∈SL rb e st h ((d++[f]).flatMap FM.c) ((d++[f]).flatMap FM.rows),j.P w)/\J.Ps w ts/\∀b∈J.a' ts,b∉own
def hF (w:I) (own:List Nat) (ts:List J) (rb:Nat) (f0:Addr) (lo:List FX) (h:FX) (st j:Int) (A:List J->Prop) (w':I):Prop:=∃d c,St w' rb f0 lo h st j d c/\Fr (·∈own) w w'/\(∀e∈d,e∈own\/w.heap.size<=e)/\(∀b∈J.a' c,b∈J.a' ts\/b∈own\/w.heap.size<=b)/\(∀t∈ts,t∈c)/\A c
def hF.then {w u w':I} {own n:List Nat} {ts j:List J} {rb:Nat} {f0:Addr} {lo:List FX} {q:FX} {st x:Int} {A:List J->Prop} (e:Fr (·∈own) w u) (h:∀d∈n,d∈own\/w.heap.size<=d) (z:∀b∈J.a' j,b∈J.a' ts\/b∈own\/w.heap.size<=b) (L:∀t∈ts,t∈j) (c:hF u n j rb f0 lo q st x A w'):hF w own ts rb f0 lo q st x A w':=by
 obtain ⟨H,N,K,C,G,B,M,y⟩:=c;refine ⟨H,N,K,e.trans C λd k E=>(h d E).resolve_right λc=>by omega,λd k=>?_,λb D=>?_,λt F=>M t (L t F),y⟩
 .rcases G d k with c|c
  .exact h d c
  .exact .inr (bH e.size c)
 .rcases B b D with c|c|c
  .exact z b c
  .exact .inr (h b c)
  .exact .inr (.inr (bH e.size c))
def hF.mono {w w':I} {own:List Nat} {ts:List J} {rb:Nat} {f0:Addr} {lo:List FX} {c:FX} {st d:Int} {A B:List J->Prop} (k:hF w own ts rb f0 lo c st d A w') (n:∀l,A l->B l):hF w own ts rb f0 lo c st d B w':=by obtain ⟨u,z,x,j,q,h,y,e⟩:=k;exact ⟨u,z,x,j,q,h,y,n _ e⟩
def St.sI {w:I} {rb:Nat} {n:O} {d:List FM} {f:FM} {ts:List J} {st q:Int} {own:List Nat} (j:own=(SL rb n st q ((d++[f]).flatMap FM.c) ((d++[f]).flatMap FM.rows)).flatMap (·.fp)) (y:own.Nodup) (z:∀e∈SL rb n st q ((d++[f]).flatMap FM.c) ((d++[f]).flatMap FM.rows),e.P w) (A:J.Ps w ts) (x:∀b∈J.a' ts,b∉own):
  LH (·∈own) w w (SL rb n st q ((d++[f]).flatMap FM.c) ((d++[f]).flatMap FM.rows)) [.trees ts]:=by refine LH.u1 _ _ (λe h=>⟨z e h,λb k=>by rw [j];exact ch.2 ⟨e,h,k⟩⟩) (j▸y) λe h=>?_;simp only [aB,a1,a7] at h;subst h;refine ⟨A,λb k u C B=>x b (aT.1 k) ?_⟩;rw [j];exact ch.2 ⟨u,C,B⟩
def St.of {w w':I} {rb:Nat} {f0:Addr} {q:O} {d:List FM} {f:FM} {ts e:List J} {st y:Int} {own:List Nat} {p:Addr} {D:List En} {A:List J->Prop} (H:LH (·∈own) w w' (SL rb q st y ((d++[f]).flatMap FM.c) ((d++[f]).flatMap FM.rows)) D) (i:Nat) (u:D[i]? =some (.trees e)) (F:∀g∈d++[f],∀t∈g.ts,t∈e) (E:q.a=some p) (z:f0=p.add (d.length *10)) (j:∀b∈J.a' e,b∈J.a' ts\/b∈own\/w.heap.size<=b) (G:∀t∈ts,t∈e) (B:A e):
  hF w own ts rb f0 (d.map FM.x) f.x st y A w':=by
 refine ⟨_,e,⟨q,d,f,p,rfl,rfl,F,E,z,rfl,H.nd,H.own,H.getD i u,λb j C=>?_⟩,H.fr,λL K=>?_,j,G,B⟩
 .obtain ⟨h,n,k⟩:=ch.1 C;exact H.dj _ (aI u) b (aT.2 j) h n k
 .obtain ⟨h,n,k⟩:=ch.1 K;exact (H.new h n L k).symm
section
variable {M:Nat->Prop} {w0 w:I} {L D:List En} {bs:List Nat}
def _root_.Go.W.LH.gp (H:LH M w0 w L D) (i:Nat) {e:O} {d:List FM} {f:FM} {p:Addr} (hi:L[i]? =some (.row g8 10 e ((d++[f]).flatMap FM.c))) (x:e.a=some p) (j:Nat) {v:ae} (n:f.c[j]? =some v:=by rfl):w.cell? ((p.add (d.length *10)).add j)=some v:=by
 have u:aS w g8 10 e ((d++[f]).flatMap FM.c):=H.get i hi;have q:((d++[f]).flatMap FM.c)[d.length *10+j]? =some v:=by rw [dh,List.getElem?_append_right (by rw [n3];omega),n3];simpa using n
 obtain ⟨y,h,k⟩:=u.bz.2.2.2 _ _ q;rw [x] at h;cases h;rw [add_add];exact k
def PX (d:List FM) (f e:FM) (j:Nat) (v:ae) (k:j<10) (h:f.c.set j v=e.c):((d++[f]).flatMap FM.c).set (d.length *10+j) v=(d++[e]).flatMap FM.c:=by rw [dh,dh,List.set_append,af (by rw [n3];omega),n3];simp only [cO,List.flatMap_nil,fI,Nat.add_sub_cancel_left];rw [h]
def _root_.Go.W.LH.hY (H:LH M w0 w L D) (i:Nat) {k:O} {d:List FM} {f:FM} {p:Addr} {K:I->Prop} {v:ae} (h:FM) (j:Nat) (hi:L[i]? =some (.row g8 10 k ((d++[f]).flatMap FM.c))) (A:k.a=some p) (z:j<10) (y:f.c.set j v=h.c)
  (u:∀e,LH M w0 e (L.set i (.row g8 10 k ((d++[h]).flatMap FM.c))) D->K e) (x:∀b∈bs,En.g b∈L:=by simp):av w ((p.add (d.length *10)).add j) v λq=>kept bs w q/\K q:=
 H.r3 i (d.length *10) j hi A (by rw [n3];simp;omega) (λe n=>u e (by rw [PX d f h j v z y] at n;exact n)) x
def DW {w:I} {p:Addr} {v:ae} {K:I->Prop} (c:av w p v λd=>kept [] w d/\K d):av w p v K:=nz c λ_ c=>c.2
end
def pU:∀c:List FM,(c.flatMap FM.rows).length=c.length *4
 |[]=>rfl
 |f::c=>by have:=pU c;simp only [cO,List.length_append,List.length_cons];have:f.rows.length=4:=rfl;omega
def Dy (c:List FM) (f:FM) (j:Nat) (x:dK) (e:j<4):((c++[f]).flatMap FM.rows).set (c.length *4+j) x=c.flatMap FM.rows++f.rows.set j x:=by have d:=pU c;rw [dh,List.set_append,af (by omega),d];simp
def oE (c:List FM) (f:FM) (j:Nat) (x:dK) (e:f.rows[j]? =some x):((c++[f]).flatMap FM.rows)[c.length *4+j]? =some x:=by have d:=pU c;rw [dh,List.getElem?_append_right (by omega),d];simpa using e
def fG (k:Int) (s:O) (ts:List J):J:=match ts with |[c]=>c|l=>.mk k 0 0 s l
def nm (k:Int) (l:List Rx):Rx:=match l with |[c]=>c|l=>.mk k 0 0 l
def CM (k:Int) (s:O) (ts:List J):(fG k s ts).rx=nm k (J.ax ts):=by
 match ts with
 |[]=>rfl
 |[c]=>rfl
 |c::d::l=>rfl
def Se {k:Int} {s:O} {ts:List J} {b:Nat} (c:b∈(fG k s ts).fp):b∈(J.row s ts).fp\/b∈J.a' ts:=by
 match ts,c with
 |[],c=>exact J.fX.1 (show b∈(J.mk k 0 0 s []).fp from c)
 |[x],c=>exact .inr (J.bR.2 ⟨x,by simp,c⟩)
 |x::d::l,c=>exact J.fX.1 (show b∈(J.mk k 0 0 s (x::d::l)).fp from c)
def zM (k:Int) (s:O) (ts:List J) (w:I) (q:bL 4 w s (ts.flatMap J.c)):ai U ng #[.int .i64 k,s.v] w λr z=>r=V (fG k s ts).v/\ao w z:=by
 have j:=J.cj q;refine J1.aD _ _ w _ ((bZ [J.row s ts] (by intro C u;simp only [aB,a1,a7] at u;subst u;exact q)).aL λB E e=>aO (λx=>⟨by omega,by omega,?_⟩) (λx=>e.au λA h=>⟨?_,h.fr⟩))
 .have y:ts.length=1:=by omega
  obtain ⟨n,rfl⟩:=List.length_eq_one_iff.1 y;refine J.cY (e.getD 0) (i:=0) (t:=n) rfl λp D d=>⟨_,_,_,_,d.c0,d.c1,d.c2,d.c3,e.au λA h=>⟨rfl,h.fr⟩⟩
 .match ts,j with
  |[],_=>rfl
  |[n],j=>simp at j;omega
  |n::F::l,_=>rfl
section
variable {M:Nat->Prop} {w0 w:I} {L D:List En} {bs:List Nat}
def _root_.Go.W.LH.node (H:LH M w0 w L D) (i:Nat) {ts ks:List J} {s:O} (k:Int) (lo hi:UInt8) (h:D[i]? =some (.trees ts)) (n:J.row s ks∈D) (j:∀t∈ks,t∈ts):LH M w0 w L [.trees (ts++[.mk k lo hi s ks])]:=by
 have q:J.Ps w ts:=H.getD i h;have x:=H.fo (.trees (ts++[.mk k lo hi s ks])) (Fr.refl _ _) (J.hS λt c=>?_) λb y=>.inr (.inr ?_)
 .exact x.forget _ (by simp)
 .rcases a5.1 c with c|c
  .exact q.mem c
  .simp at c;subst c;unfold J.P;exact ⟨H.rd _ n,J.hS λt c=>q.mem (j t c)⟩
 .obtain ⟨t,c,e⟩:=J.bR.1 (aT.1 y);rcases a5.1 c with c|c
  .exact ⟨_,aI h,aT.2 (J.bR.2 ⟨t,c,e⟩)⟩
  .simp at c;rw [c] at e;rcases J.fX.1 e with d|d
   .exact ⟨_,n,d⟩
   .obtain ⟨u,A,z⟩:=J.bR.1 d;exact ⟨_,aI h,aT.2 (J.bR.2 ⟨u,j u A,z⟩)⟩
def _root_.Go.W.LH.IK (H:LH M w0 w L D) (i:Nat) {ts ks:List J} {s:O} (k:Int) (h:D[i]? =some (.trees ts)) (e:J.row s ks∈D) (d:∀t∈ks,t∈ts):LH M w0 w L [.trees (ts++[fG k s ks])]:=by
 match ks,e,d with
 |[],e,d=>exact H.node i k 0 0 h e d
 |j::z::l,e,d=>exact H.node i k 0 0 h e d
 |[j],e,d=>
  have u:J.Ps w ts:=H.getD i h;have q:=d j (by simp);have x:=H.fo (.trees (ts++[j])) (Fr.refl _ _) (J.hS λt c=>?_) λb y=>.inr (.inr ?_)
  .exact x.forget _ (by simp [fG])
  .rcases a5.1 c with c|c
   .exact u.mem c
   .simp at c;subst c;exact u.mem q
  .obtain ⟨t,c,n⟩:=J.bR.1 (aT.1 y);rcases a5.1 c with c|c
   .exact ⟨_,aI h,aT.2 (J.bR.2 ⟨t,c,n⟩)⟩
   .simp at c;rw [c] at n;exact ⟨_,aI h,aT.2 (J.bR.2 ⟨j,q,n⟩)⟩
abbrev z4:List ae:=[.int .i64 0,.int .u8 0,.int .u8 0,.slice none 0 0]
def vL (vs u:List ae) (n j:Nat) (v:ae) (c:vs.length=n):(vs++u).set (n+j) v=vs++u.set j v:=by rw [List.set_append,af (by omega)];congr 2;omega
def _root_.Go.W.LH.rO (H:LH M w0 w L D) (i j n:Nat) {d:List dK} {s:O} {vs:List ae} {p:Addr} {K:I->Prop} (t:J) (hi:L[i]? =some (.rows d)) (hj:d[j]? =some (s,vs++z4)) (E:s.a=some p) (h:vs.length=n *4)
  (hK:∀w',LH M w0 w' (L.set i (.rows (d.set j (s,vs++t.c)))) D->K w') (C:∀b∈bs,En.g b∈L):
  av w (p.add (ag (n:Int) *4)) (.int .i64 t.k) λz=>kept bs w z/\av z ((p.add (ag (n:Int) *4)).add 1) (.int .u8 (t.lo.toNat:Int)) λq=>kept bs z q/\av q ((p.add (ag (n:Int) *4)).add 2) (.int .u8 (t.hi.toNat:Int)) λu=>kept bs q u/\av u ((p.add (ag (n:Int) *4)).add 3) t.s.v λA=>kept bs u A/\K A:=by
 rw [Int.toNat_natCast];have aj:i<L.length:=(cD.1 hi).1;have ah:j<d.length:=(cD.1 hj).1;have N:∀{F:List En} (e:En),F.length=L.length->(F.set i e)[i]? =some e:=λ{F} e hl=>by rw [hU (by omega)]
 have G:∀(B:List dK) (x:dK),B.length=d.length->(B.set j x)[j]? =some x:=λB x hl=>by rw [hU (by omega)]
 have Q:∀{b:Nat},En.g b∈L->∀(B:List dK),En.g b∈L.set i (.rows B):=λ{b} y B=>by
  obtain ⟨ab,S⟩:=iQ.1 y;by_cases aa:i=ab
  .subst aa;exfalso;rw [hi] at S;have hP:(En.rows d).P w:=H.get i hi;have e1:En.rows d=En.g b:=fQ S;have af:(En.rows d).fp=[b]:=by rw [e1];rfl
   have ad:b∈(En.rows d).fp:=by rw [af];simp
   have ai:d≠[]:=by rintro rfl;simp at ah
   refine Kl d ai w b ad ?_;rw [e1];show b<_;simp
  .exact iQ.2 ⟨ab,by rw [List.getElem?_set_ne aa];exact S⟩
 have ac:=H.yy (bs:=bs) i j (n *4) 0 (v:=.int .i64 t.k) (K:=λz=>av z ((p.add (n *4)).add 1) (.int .u8 (t.lo.toNat:Int)) λq=>kept bs z q/\av q ((p.add (n *4)).add 2) (.int .u8 (t.hi.toNat:Int)) λu=>kept bs q u/\av u ((p.add (n *4)).add 3) t.s.v λA=>kept bs u A/\K A) hi hj E (by simp [h]) ?_ C
 .rw [hf] at ac;exact ac
 intro z T;rw [vL vs z4 (n *4) 0 _ h] at T;refine T.yy (bs:=bs) i j (n *4) 1 (N _ rfl) (G _ _ rfl) E (by simp [h]) ?_ (λb y=>Q (C b y) _);intro q Y;rw [vL vs _ (n *4) 1 _ h,List.set_set,List.set_set] at Y;refine Y.yy (bs:=bs) i j (n *4) 2 (N _ rfl) (G _ _ rfl) E (by simp [h]) ?_ (λb y=>Q (C b y) _);intro u Z;rw [vL vs _ (n *4) 2 _ h,List.set_set,List.set_set] at Z;refine Z.yy (bs:=bs) i j (n *4) 3 (N _ rfl) (G _ _ rfl) E (by simp [h]) ?_ (λb y=>Q (C b y) _);intro A H4;rw [vL vs _ (n *4) 3 _ h,List.set_set,List.set_set] at H4;exact hK A H4
def _root_.Go.W.LH.H6 (H:LH M w0 w L D) (i:Nat) {h:O} {d:List FM} {f:FM} {p:Addr} (hi:L[i]? =some (.row g8 10 h ((d++[f]).flatMap FM.c))) (e:h.a=some p):
  w.cell? (((p.add (d.length *10)).add 6).add 0)=some (.int .i64 f.la.k)/\w.cell? (((p.add (d.length *10)).add 6).add 1)=some (.int .u8 (f.la.lo.toNat:Int))/\w.cell? (((p.add (d.length *10)).add 6).add 2)=some (.int .u8 (f.la.hi.toNat:Int))/\w.cell? (((p.add (d.length *10)).add 6).add 3)=some f.la.s.v:=by
 refine ⟨?_,?_,?_,?_⟩
 .rw [hf];exact H.gp i hi e 6
 .rw [add_add];exact H.gp i hi e 7
 .rw [add_add];exact H.gp i hi e 8
 .rw [add_add];exact H.gp i hi e 9
end
def ml:Nat->Rx->Rx
 |0,r=>r
 |c+1,r=>ml c (.mk 6 0 0 [r])
def iI (f:FX):FX:=⟨f.k,f.ar,f.al,f.an,f.ca++[ml f.n f.la],0,f.la⟩
def Ft {w:I} {rb:Nat} {f0:Addr} {lo:List FX} {tp:FX} {st D:Int} {own:List Nat} {ts:List J} (F:St w rb f0 lo tp st D own ts) (hn:tp.n<=1000000) (hc:tp.ca.length<=1000000):
  ai U xx #[.pointer (some f0)] w λr w'=>r=V (.tuple #[])/\hF w own ts rb f0 lo (iI tp) st D (λ_=>True) w':=by
 obtain ⟨sl,d,f,p,rfl,rfl,K,u,rfl,h6,h7,h8,h9,ao⟩:=F;have ad:=St.sI h6 h7 h8 h9 ao;have ag:f.la∈ts:=K f (by simp) _ (by simp [FM.ts]);have aw:f.ca.2.length<=1000000:=by
  have:f.x.ca.length=f.ca.2.length:=by show (J.ax f.ca.2).length=_;rw [J.fh];simp
  omega
 have loop:∀(m:Nat) (r:J) (B:List J) (j:Nat) (C:I),m<=1000000->(∀t∈ts,t∈B)->(∀b∈J.a' B,b∈J.a' ts\/b∈own\/w.heap.size<=b)->r∈B->ml m r.rx=ml f.n f.la.rx->
   LH (·∈own) w C (SL rb sl st D ((d++[(⟨f.k,f.ar,f.al,f.an,f.ca,m,f.la⟩:FM)]).flatMap FM.c) ((d++[f]).flatMap FM.rows)++[.g j]) [.trees B]->
   uE.aP (p.add (d.length *10)) j r.k r.lo.toNat r.hi.toNat r.s C λr w'=>r=V (.tuple #[])/\hF w own ts rb (p.add (d.length *10)) (d.map FM.x) (iI f.x) st D (λ_=>True) w':=by
  intro m;induction m with
  |zero=>
   intro r B j C _ y W Y he z;refine uE.bW _ _ _ _ _ _ _ _ ⟨0,z.gp 1 rfl u 5,a9 rfl (z.au λO E=>⟨_,E.gp 1 rfl u 4,?_⟩)⟩;have ah:((d++[f]).flatMap FM.rows)[d.length *4+3]? =some (f.ca.1,f.ca.2.flatMap J.c):=oE d f 3 _ rfl;have nr:f.ca.1.n=f.ca.2.length:=by have hp:(En.rows ((d++[f]).flatMap FM.rows)).P O:=E.get 2;exact J.cj (hp.1 _ (aI ah)).bz
   refine E.eb (e:=aK) (sz:=4) (n:=1) (cs:=z4) rfl (by decide) λw3 G=>⟨G.gp 1 rfl u 4,?_⟩;refine G.vK (bs:=[j]) 2 (d.length *4+3) (src:=⟨some (aj O.heap.size),1,1⟩) (news:=z4) rfl ah (aS.bz (G.get 4)) (by simp [Value.oneCell']) (by show (f.ca.1.n+1) *40<=_;omega) (λq w4 Q ac ap=>⟨by omega,by rw [ac];show ((f.ca.1.n:Nat):Int)<((f.ca.1.n+1:Nat):Int);omega,?_⟩);obtain ⟨Z,hq⟩:∃Z,q.a=some Z:=by
    cases hs:q.a with
    |none=>have:=(ap hs).2;simp at this
    |some Z=>exact ⟨Z,rfl⟩
   rw [hq];have af:d.length *4+3<((d++[f]).flatMap FM.rows).length:=by rw [pU];simp;omega
   have S:LH (·∈own) w w4 (SL rb sl st D ((d++[(⟨f.k,f.ar,f.al,f.an,f.ca,0,f.la⟩:FM)]).flatMap FM.c) (((d++[f]).flatMap FM.rows).set (d.length *4+3) (q,f.ca.2.flatMap J.c++z4))++[.g j]) [.trees B]:=Q.take 4;have fin:∀{w':I},LH (·∈own) w w' (SL rb sl st D ((d++[(⟨f.k,f.ar,f.al,f.an,(q,f.ca.2++[r]),0,f.la⟩:FM)]).flatMap FM.c) (((d++[f]).flatMap FM.rows).set (d.length *4+3) (q,f.ca.2.flatMap J.c++r.c))++[.g j]) [.trees B]->
     (Ending.returned (.tuple #[])=V (.tuple #[])/\hF w own ts rb (p.add (d.length *10)) (d.map FM.x) (iI f.x) st D (λ_=>True) w'):=λ{w'} H'=>by
    refine ⟨rfl,?_⟩;have e1:((d++[f]).flatMap FM.rows).set (d.length *4+3) (q,f.ca.2.flatMap J.c++r.c)=(d++[(⟨f.k,f.ar,f.al,f.an,(q,f.ca.2++[r]),0,f.la⟩:FM)]).flatMap FM.rows:=by rw [Dy d f 3 _ (by omega),dh];congr 1;simp [FM.rows]
    rw [e1] at H';have:=St.of (ts:=ts) (A:=λ_=>True) (f0:=p.add (d.length *10)) (H'.take 3) 0 rfl (λg M t h=>?_) u rfl W y trivial
    .have e2:(FM.x ⟨f.k,f.ar,f.al,f.an,(q,f.ca.2++[r]),0,f.la⟩)=iI f.x:=by
      unfold FM.x iI;simp only [jm];have:J.ax [r]=[ml f.n f.la.rx]:=by rw [<-he];rfl
      rw [this]
     rw [e2] at this;exact this
    .rcases a5.1 M with M|M
     .exact y t (K g (by simp [M]) t h)
     .simp at M;subst M;simp only [FM.ts,a5,aB,a1,a7] at h;rcases h with (((h|h)|h)|(h|rfl))|rfl
      .exact y t (K f (by simp) t (by simp [FM.ts,h]))
      .exact y t (K f (by simp) t (by simp [FM.ts,h]))
      .exact y t (K f (by simp) t (by simp [FM.ts,h]))
      .exact y t (K f (by simp) t (by simp [FM.ts,h]))
      .exact Y
      .exact y _ ag
   refine ⟨?_,?_⟩
   .rw [nr];refine S.rO (bs:=[j]) 2 (d.length *4+3) f.ca.2.length r rfl (hU af) hq (J.gl _) (λw' H=>?_) (by simp);rw [List.set_set] at H;exact H.hY (bs:=[j]) (f:=⟨f.k,f.ar,f.al,f.an,f.ca,0,f.la⟩) 1 ⟨f.k,f.ar,f.al,f.an,(q,f.ca.2++[r]),0,f.la⟩ 4 rfl u (by omega) rfl (λaq T=>fin T) (by simp)
   .refine S.hY (bs:=[j]) (f:=⟨f.k,f.ar,f.al,f.an,f.ca,0,f.la⟩) 1 ⟨f.k,f.ar,f.al,f.an,(q,f.ca.2++[r]),0,f.la⟩ 4 rfl u (by omega) rfl (λw' H=>?_) (by simp);rw [nr];refine LH.rO (bs:=[j]) (L:=SL rb sl st D ((d++[(⟨f.k,f.ar,f.al,f.an,(q,f.ca.2++[r]),0,f.la⟩:FM)]).flatMap FM.c) (((d++[f]).flatMap FM.rows).set (d.length *4+3) (q,f.ca.2.flatMap J.c++z4))++[.g j]) H 2 (d.length *4+3) f.ca.2.length r rfl (hU af) hq (J.gl _) (λaq T=>?_) (by simp);rw [List.set_set] at T;exact fin T
  |succ m ih=>
   intro r B j C hm y W Y he z;refine uE.bW _ _ _ _ _ _ _ _ ⟨((m+1:Nat):Int),z.gp 1 rfl u 5,bd (aW (by omega)) ?_⟩;refine z.eb (e:=aK) (sz:=4) (n:=1) (cs:=r.c) rfl (by decide) λO E=>E.au (bs:=[j]) (λw3 G=>⟨_,G.gp 1 rfl u 5,?_⟩) (by simp);have am:ab .i64 (((m+1:Nat):Int) - 1)=(m:Int):=by rw [a4 _ (by omega)];omega
   show av w3 _ (.int .i64 (ab .i64 (((m+1:Nat):Int) - 1))) _;rw [am];refine G.hY (bs:=[j]) (f:=⟨f.k,f.ar,f.al,f.an,f.ca,m+1,f.la⟩) 1 ⟨f.k,f.ar,f.al,f.an,f.ca,m,f.la⟩ 5 rfl u (by omega) rfl (λw4 Q=>?_) (by simp);have S:=Q.freeze 4 (J.row ⟨some (aj C.heap.size),1,1⟩ [r]) rfl (by show bL 4 w4 _ ([r].flatMap J.c);rw [show [r].flatMap J.c=r.c by simp];exact aS.bz (Q.get 4)) (λb N=>gb (e:=aK) (vs:=[r].flatMap J.c) N);have H:=S.node 0 6 0 0 (s:=⟨some (aj C.heap.size),1,1⟩) (ks:=[r]) rfl (by simp) (λt h=>by simp at h;subst h;exact Y);refine ih (.mk 6 0 0 ⟨some (aj C.heap.size),1,1⟩ [r]) _ j w4 (by omega) (λt h=>by simp [y t h]) (λb N=>?_) (by simp) he H;obtain ⟨t,h,aa⟩:=J.bR.1 N;rcases a5.1 h with h|h
   .exact W b (J.bR.2 ⟨t,h,aa⟩)
   .simp at h;rw [h] at aa;rcases J.fX.1 aa with F|F
    .have:=gb (e:=aK) F;simp [En.row,ay,J.s] at this;subst this;exact .inr (.inr z.fr.size)
    .obtain ⟨t',ak,ae⟩:=J.bR.1 F;simp [J.l] at ak;rw [ak] at ae;exact W b (J.bR.2 ⟨r,Y,ae⟩)
 obtain ⟨c0,c1,c2,c3⟩:=ad.H6 1 rfl u;have ac:f.n<=1000000:=hn;refine uE.aD _ w _ ⟨_,_,_,_,c0,c1,c2,c3,ad.aL (λj C z=>z.au (λO E=>?_) (by simp)) (by simp)⟩;exact loop f.n f.la ts j O ac (λ_ F=>F) (λb N=>.inl N) ag rfl E
def FM.aX (f:FM) (j:Nat):O×List J:=if j=1 then f.ar else if j=2 then f.al else if j=3 then f.an else f.ca
def FM.put (f:FM) (j:Nat) (x:O×List J):FM:=⟨f.k,if j=1 then x else f.ar,if j=2 then x else f.al,if j=3 then x else f.an,if j=4 then x else f.ca,f.n,f.la⟩
def sV {j:Nat} (k:1<=j) (n:j<=4) {p:Nat->Prop} (c:p 1) (d:p 2) (e:p 3) (h:p 4):p j:=by
 have:j=1\/j=2\/j=3\/j=4:=by omega
 rcases this with rfl|rfl|rfl|rfl<;>assumption
def Ge (f:FM) {j:Nat} (d:1<=j) (e:j<=4):f.c[j]? =some (f.aX j).1.v:=sV (p:=λj=>f.c[j]? =some (f.aX j).1.v) d e rfl rfl rfl rfl
def qU (f:FM) {j:Nat} (d:1<=j) (e:j<=4):f.rows[j - 1]? =some ((f.aX j).1,(f.aX j).2.flatMap J.c):=sV (p:=λj=>f.rows[j - 1]? =some ((f.aX j).1,(f.aX j).2.flatMap J.c)) d e rfl rfl rfl rfl
def uw (f:FM) (x:O×List J) {j:Nat} (d:1<=j) (e:j<=4):f.c.set j x.1.v=(f.put j x).c:=sV (p:=λj=>f.c.set j x.1.v=(f.put j x).c) d e rfl rfl rfl rfl
def SD (f:FM) (x:O×List J) {j:Nat} (d:1<=j) (e:j<=4):f.rows.set (j - 1) (x.1,x.2.flatMap J.c)=(f.put j x).rows:=sV (p:=λj=>f.rows.set (j - 1) (x.1,x.2.flatMap J.c)=(f.put j x).rows) d e rfl rfl rfl rfl
def ye (f:FM) (x:O×List J) {j:Nat} (e:1<=j) (h:j<=4) {t:J} (d:t∈(f.put j x).ts):t∈f.ts\/t∈x.2:=by
 refine sV (p:=λj=>t∈(f.put j x).ts->t∈f.ts\/t∈x.2) e h ?_ ?_ ?_ ?_ d<;>
 .intro d;simp [FM.put,FM.ts] at d ⊢;rcases d with c|c|c|c|c<;>simp [c]
def mZ (f:FM) (j:Nat) {t:J} (c:t∈(f.aX j).2):t∈f.ts:=by
 unfold FM.aX at c;unfold FM.ts;split at c
 .simp [c]
 .split at c
  .simp [c]
  .split at c
   .simp [c]
   .simp [c]
def SC (f:FM) (x:O×List J) {j i:Nat} (e:i≠j) (hi:1<=i) (d:i<=4):(f.put j x).aX i=f.aX i:=by
 have:i=1\/i=2\/i=3\/i=4:=by omega
 unfold FM.put FM.aX;rcases this with rfl|rfl|rfl|rfl
 .simp;intro c;omega
 .simp;intro c;omega
 .simp;intro c;omega
 .simp;intro c;omega
section
variable {w0 w:I} {own:List Nat} {rb:Nat} {sl:O} {st wd:Int} {fs:List FM} {f:FM} {ts:List J} {p:Addr}
abbrev FS (own:List Nat) (w0 w:I) (rb:Nat) (sl:O) (st wd:Int) (fs:List FM) (f:FM) (d:List dK) (ts:List J):Prop:=LH (·∈own) w0 w (SL rb sl st wd ((fs++[f]).flatMap FM.c) d) [.trees ts]
def ri (fs:List FM) (f:FM) (x:O×List J) {j:Nat} (d:1<=j) (e:j<=4):((fs++[f]).flatMap FM.rows).set (fs.length *4+(j - 1)) (x.1,x.2.flatMap J.c)=(fs++[f.put j x]).flatMap FM.rows:=by rw [Dy fs f (j - 1) _ (by omega),SD f x d e,dh];simp
def Jg (H:FS own w0 w rb sl st wd fs f ((fs++[f]).flatMap FM.rows) ts) (B:sl.a=some p) (d:Nat) (u:1<=d) (x:d<=4) (t:J) (hb:(f.aX d).2.length<=1000000) {F:I} {src:O} (C:LH (·∈own) w0 F (SL rb sl st wd ((fs++[f]).flatMap FM.c) ((fs++[f]).flatMap FM.rows)++[.row aK 4 src z4]) [.trees ts]) (ae:src.n=1) {K:I->Prop}
  (W:∀e q,FS own w0 q rb sl st wd fs (f.put d (e,(f.aX d).2++[t])) ((fs++[f.put d (e,(f.aX d).2++[t])]).flatMap FM.rows) ts->K q):
  ∃(t15:O) (y:I),(bb #[cw,cw] cw #[(f.aX d).1.v,src.v]).run U F=.ok (t15.v) y/\(0:Int)<=(((f.aX d).1.n:Nat):Int)/\(((f.aX d).1.n:Nat):Int)<((t15.n:Nat):Int)/\ct t15.a λj=>((av y (j.add (ag (((f.aX d).1.n:Nat):Int) *4)) (.int .i64 t.k) λG=>av G ((j.add (ag (((f.aX d).1.n:Nat):Int) *4)).add 1) (.int .u8 (t.lo.toNat:Int)) λM=>av M ((j.add (ag (((f.aX d).1.n:Nat):Int) *4)).add 2) (.int .u8 (t.hi.toNat:Int)) λN=>av N ((j.add (ag (((f.aX d).1.n:Nat):Int) *4)).add 3) t.s.v λQ=>av Q ((p.add (fs.length *10)).add d) t15.v K)/\
   (av y ((p.add (fs.length *10)).add d) t15.v λab=>av ab (j.add (ag (((f.aX d).1.n:Nat):Int) *4)) (.int .i64 t.k) λG=>av G ((j.add (ag (((f.aX d).1.n:Nat):Int) *4)).add 1) (.int .u8 (t.lo.toNat:Int)) λM=>av M ((j.add (ag (((f.aX d).1.n:Nat):Int) *4)).add 2) (.int .u8 (t.hi.toNat:Int)) λN=>av N ((j.add (ag (((f.aX d).1.n:Nat):Int) *4)).add 3) t.s.v K)):=by
 have Z:((fs++[f]).flatMap FM.rows)[fs.length *4+(d - 1)]? =some ((f.aX d).1,(f.aX d).2.flatMap J.c):=oE fs f (d - 1) _ (qU f u x);have nr:(f.aX d).1.n=(f.aX d).2.length:=by have B:(En.rows ((fs++[f]).flatMap FM.rows)).P F:=C.get 2;exact J.cj (B.1 _ (aI Z)).bz
 obtain ⟨e,y,h1,_,h3⟩:=C.vK (bs:=[]) (ty:=cw) 2 (fs.length *4+(d - 1)) (src:=src) (news:=z4) (K:=λe q=>FS own w0 q rb sl st wd fs f (((fs++[f]).flatMap FM.rows).set (fs.length *4+(d - 1)) (e,(f.aX d).2.flatMap J.c++z4)) ts/\e.n=(f.aX d).1.n+1/\∃j,e.a=some j) rfl Z (aS.bz (C.get 3)) (by simp [Value.oneCell']) (by omega) (λe w4 H4 ac aa=>⟨H4.take 3,by omega,by
  cases hs:e.a with
  |none=>have:=(aa hs).2;omega
  |some j=>exact ⟨j,rfl⟩⟩) (by simp)
 obtain ⟨S,ad,j,D⟩:=h3;refine ⟨e,y,h1,by omega,by omega,?_⟩;rw [D];have Y:fs.length *4+(d - 1)<((fs++[f]).flatMap FM.rows).length:=by rw [pU];simp;omega
 have T:∀(f:FM) (t:J) (d:Nat),(f.aX d).2.flatMap J.c++t.c=((f.aX d).2++[t]).flatMap J.c:=λf t d=>by simp
 rw [nr];refine ⟨?_,?_⟩
 .have st:=LH.rO (bs:=[]) (K:=λQ=>av Q ((p.add (fs.length *10)).add d) e.v K) S 2 (fs.length *4+(d - 1)) (f.aX d).2.length t rfl (hU Y) D (J.gl _) (λq z=>?_) (by simp)
  .exact nz st λ_ h=>nz h.2 λ_ h=>nz h.2 λ_ h=>nz h.2 λ_ h=>h.2
  .rw [List.set_set,T,ri fs f (e,(f.aX d).2++[t]) u x] at z;exact DW (z.hY (bs:=[]) (f:=f) 1 (f.put d (e,(f.aX d).2++[t])) d rfl B (by omega) (uw f (e,(f.aX d).2++[t]) u x) (λE A=>W e E A) (by simp))
 .refine DW (S.hY (bs:=[]) (f:=f) 1 (f.put d (e,(f.aX d).2++[t])) d rfl B (by omega) (uw f (e,(f.aX d).2++[t]) u x) (λq z=>?_) (by simp));have st:=LH.rO (bs:=[]) (K:=K) (L:=SL rb sl st wd ((fs++[f.put d (e,(f.aX d).2++[t])]).flatMap FM.c) (((fs++[f]).flatMap FM.rows).set (fs.length *4+(d - 1)) (e,(f.aX d).2.flatMap J.c++z4))) z 2 (fs.length *4+(d - 1)) (f.aX d).2.length t rfl (hU Y) D (J.gl _) (λE A=>?_) (by simp)
  .exact nz st λ_ h=>nz h.2 λ_ h=>nz h.2 λ_ h=>nz h.2 λ_ h=>h.2
  .rw [List.set_set,T,ri fs f (e,(f.aX d).2++[t]) u x] at A;exact W e E A
def shift (H:FS own w0 w rb sl st wd fs f ((fs++[f]).flatMap FM.rows) ts) (S:sl.a=some p) (k:Int) (d s:Nat) (Y:1<=d) (hs:s=d+1) (M:s<=4) (hb:(f.aX d).2.length<=1000000) (ap:∀t∈f.ts,t∈ts) {R:aa}
  (hK:∀q w',FS own w0 w' rb sl st wd fs ((f.put d (q,(f.aX d).2++[fG k (f.aX s).1 (f.aX s).2])).put s (⟨none,0,0⟩,[])) ((fs++[(f.put d (q,(f.aX d).2++[fG k (f.aX s).1 (f.aX s).2])).put s (⟨none,0,0⟩,[])]).flatMap FM.rows) (ts++[fG k (f.aX s).1 (f.aX s).2])->R (V (.tuple #[])) w'):
  bY w λy=>∃h:O,y.cell? ((p.add (fs.length *10)).add d)=some (h.v)/\∃t11:O,y.cell? ((p.add (fs.length *10)).add s)=some (t11.v)/\
   ((ai U ng #[.i k,t11.v] y λr_ F=>∃B:Int,∃C:Int,∃D:Int,∃E:O,r_=V (.agg #[.i B,.int .u8 C,.int .u8 D,E.v])/\
    F.cell? ((p.add (fs.length *10)).add d)=some (h.v)/\aN F (.cells #[.i 0,.int .u8 0,.int .u8 0,.slice none 0 0] aK) λT=>
    T.cell? ((p.add (fs.length *10)).add d)=some (h.v)/\∃(t15:O) (K:I),a6 U (bb #[cw,cw] cw #[h.v,.slice (some (nb F)) 1 1]) T=.ok (t15.v) K/\aw t15 ((h.n:Nat):Int) λj=>((av K (j.add (ag ((h.n:Nat):Int) *4)) (.i B) λw6=>
    av w6 ((j.add (ag ((h.n:Nat):Int) *4)).add 1) (.int .u8 C) λw7=>av w7 ((j.add (ag ((h.n:Nat):Int) *4)).add 2) (.int .u8 D) λw8=>av w8 ((j.add (ag ((h.n:Nat):Int) *4)).add 3) (E.v) λw9=>
    av w9 ((p.add (fs.length *10)).add d) (t15.v) λab=>av ab ((p.add (fs.length *10)).add s) (.slice none 0 0) λu=>R (V (.tuple #[])) u)/\
    (av K ((p.add (fs.length *10)).add d) (t15.v) λac=>av ac (j.add (ag ((h.n:Nat):Int) *4)) (.i B) λad=>av ad ((j.add (ag ((h.n:Nat):Int) *4)).add 1) (.int .u8 C) λae=>
    av ae ((j.add (ag ((h.n:Nat):Int) *4)).add 2) (.int .u8 D) λaf=>av af ((j.add (ag ((h.n:Nat):Int) *4)).add 3) (E.v) λah=>av ah ((p.add (fs.length *10)).add s) (.slice none 0 0) λu=>R (V (.tuple #[])) u)))/\
   (aN y (.cells #[.i 0,.int .u8 0,.int .u8 0,.slice none 0 0] aK) λak=>ak.cell? ((p.add (fs.length *10)).add s)=some (t11.v)/\ak.cell? ((p.add (fs.length *10)).add d)=some (h.v)/\
    ai U ng #[.i k,t11.v] ak λr_ an=>∃B:Int,∃C:Int,∃D:Int,∃E:O,r_=V (.agg #[.i B,.int .u8 C,.int .u8 D,E.v])/\
    an.cell? ((p.add (fs.length *10)).add d)=some (h.v)/\∃(t15:O) (K:I),a6 U (bb #[cw,cw] cw #[h.v,.slice (some (nb y)) 1 1]) an=.ok (t15.v) K/\aw t15 ((h.n:Nat):Int) λj=>((av K (j.add (ag ((h.n:Nat):Int) *4)) (.i B) λw6=>
    av w6 ((j.add (ag ((h.n:Nat):Int) *4)).add 1) (.int .u8 C) λw7=>av w7 ((j.add (ag ((h.n:Nat):Int) *4)).add 2) (.int .u8 D) λw8=>av w8 ((j.add (ag ((h.n:Nat):Int) *4)).add 3) (E.v) λw9=>
    av w9 ((p.add (fs.length *10)).add d) (t15.v) λab=>av ab ((p.add (fs.length *10)).add s) (.slice none 0 0) λu=>R (V (.tuple #[])) u)/\
    (av K ((p.add (fs.length *10)).add d) (t15.v) λac=>av ac (j.add (ag ((h.n:Nat):Int) *4)) (.i B) λad=>av ad ((j.add (ag ((h.n:Nat):Int) *4)).add 1) (.int .u8 C) λae=>
    av ae ((j.add (ag ((h.n:Nat):Int) *4)).add 2) (.int .u8 D) λaf=>av af ((j.add (ag ((h.n:Nat):Int) *4)).add 3) (E.v) λah=>av ah ((p.add (fs.length *10)).add s) (.slice none 0 0) λu=>R (V (.tuple #[])) u)))):=by
 subst hs;have L:1<=d+1:=by omega
 have Z:d<=4:=by omega
 have ao:((fs++[f]).flatMap FM.rows)[fs.length *4+(d+1 - 1)]? =some ((f.aX (d+1)).1,(f.aX (d+1)).2.flatMap J.c):=oE fs f (d+1 - 1) _ (qU f L M);have rd:∀{w':I} {G:List En},LH (·∈own) w0 w' (SL rb sl st wd ((fs++[f]).flatMap FM.c) ((fs++[f]).flatMap FM.rows)++G) [.trees ts]->bL 4 w' (f.aX (d+1)).1 ((f.aX (d+1)).2.flatMap J.c):=λz=>by have hP:(En.rows ((fs++[f]).flatMap FM.rows)).P _:=z.get 2;exact (hP.1 _ (aI ao)).bz
 have fin:∀q w',FS own w0 w' rb sl st wd fs (f.put d (q,(f.aX d).2++[fG k (f.aX (d+1)).1 (f.aX (d+1)).2])) ((fs++[f.put d (q,(f.aX d).2++[fG k (f.aX (d+1)).1 (f.aX (d+1)).2])]).flatMap FM.rows) ts->
   av w' ((p.add (fs.length *10)).add (d+1)) (.slice none 0 0) λu=>R (V (.tuple #[])) u:=λq w' z=>by have hc:(f.put d (q,(f.aX d).2++[fG k (f.aX (d+1)).1 (f.aX (d+1)).2])).aX (d+1)=f.aX (d+1):=SC f _ (by omega) L M;refine DW (z.hY (bs:=[]) 1 ((f.put d (q,(f.aX d).2++[fG k (f.aX (d+1)).1 (f.aX (d+1)).2])).put (d+1) (⟨none,0,0⟩,[])) (d+1) rfl S (by omega) (uw _ (⟨none,0,0⟩,[]) L M) (λu H1=>hK q u ?_) (by simp));have am:=oE fs (f.put d (q,(f.aX d).2++[fG k (f.aX (d+1)).1 (f.aX (d+1)).2])) (d+1 - 1) _ (qU _ L M);rw [hc] at am;have A:=H1.AP 2 (fs.length *4+(d+1 - 1)) rfl am;have x:=A.IK 0 k (s:=(f.aX (d+1)).1) (ks:=(f.aX (d+1)).2) rfl (by simp) λt ht=>ap t (mZ f _ ht);have W:=ri fs (f.put d (q,(f.aX d).2++[fG k (f.aX (d+1)).1 (f.aX (d+1)).2])) (⟨none,0,0⟩,[]) L M;have e':(([]:List J).flatMap J.c)=[]:=rfl;rw [e'] at W;simp only at W;rw [<-W];exact x
 have Q:∀{w':I} {G:List En},LH (·∈own) w0 w' (SL rb sl st wd ((fs++[f]).flatMap FM.c) ((fs++[f]).flatMap FM.rows)++G) [.trees ts]->w'.cell? ((p.add (fs.length *10)).add d)=some ((f.aX d).1.v):=λz=>z.gp 1 rfl S d (Ge f Y Z);have al:∀{w':I} {G:List En},LH (·∈own) w0 w' (SL rb sl st wd ((fs++[f]).flatMap FM.c) ((fs++[f]).flatMap FM.rows)++G) [.trees ts]->w'.cell? ((p.add (fs.length *10)).add (d+1))=some ((f.aX (d+1)).1.v):=λz=>z.gp 1 rfl S (d+1) (Ge f L M);refine H.dr λy A=>⟨_,Q (G:=[]) A,_,al (G:=[]) A,?_,A.eb (e:=aK) (sz:=4) (n:=1) (cs:=z4) rfl (by decide) λF x=>⟨al x,Q x,?_⟩⟩
 .refine A.call (zM k _ _ y (rd (G:=[]) A)) ?_;rintro _ F rfl x;refine ⟨_,_,_,_,rfl,Q (G:=[]) x,x.eb (e:=aK) (sz:=4) (n:=1) (cs:=z4) rfl (by decide) λT N=>⟨Q N,?_⟩⟩;exact Jg H S d Y Z (fG k (f.aX (d+1)).1 (f.aX (d+1)).2) hb (src:=⟨some (aj F.heap.size),1,1⟩) N rfl fin
 .refine x.call (zM k _ _ F (rd x)) ?_;rintro _ T rfl N;refine ⟨_,_,_,_,rfl,Q N,?_⟩;exact Jg H S d Y Z (fG k (f.aX (d+1)).1 (f.aX (d+1)).2) hb (src:=⟨some (aj y.heap.size),1,1⟩) N rfl fin
end
def hG (w:I) (own:List Nat) (ts:List J) (rb:Nat) (Q:dA->Addr->List FX->FX->Int->Int->List J->Prop):aa:=λr k=>∃c d h e j,hF w own ts rb c d h e j (Q r c d h e j) k
def jJ (f:FX):FX:=⟨f.k,f.ar,f.al,f.an++[nm 3 (iI f).ca],[],0,f.la⟩
def jI (f:FX):FX:=⟨f.k,f.ar,f.al++[nm 5 (jJ f).an],[],[],0,f.la⟩
def Ap (f:FX):FX:=⟨f.k,f.ar,[],[],[],0,f.la⟩
def eu (f:FX):Rx:=nm 4 (jI f).al
def DM {w0:I} {M:Nat->Prop} {w:I} {own:List Nat} {ts q:List J} {k:Int} {s:O} {ks:List J} (j:∀b∈J.a' ts,b∈J.a' q\/b∈own\/w.heap.size<=b) (z:∀b∈ay s,b∈own\/w.heap.size<=b) (y:∀t∈ks,t∈ts):∀b∈J.a' (ts++[fG k s ks]),b∈J.a' q\/b∈own\/w.heap.size<=b:=λb u=>by
 obtain ⟨t,c,h⟩:=J.bR.1 u;rcases a5.1 c with c|c
 .exact j b (J.bR.2 ⟨t,c,h⟩)
 .simp at c;rw [c] at h;rcases Se h with d|d
  .exact .inr (z b (gb (e:=aK) d))
  .obtain ⟨n,A,x⟩:=J.bR.1 d;exact j b (J.bR.2 ⟨n,y n A,x⟩)
def Ki {own:List Nat} {w0 w:I} {rb:Nat} {n:O} {st q:Int} {c:List FM} {f:FM} {ts:List J} (H:FS own w0 w rb n st q c f ((c++[f]).flatMap FM.rows) ts) {j:Nat} (d:1<=j) (e:j<=4):∀b∈ay (f.aX j).1,b∈own\/w0.heap.size<=b:=λb h=>by have k:=oE c f (j - 1) _ (qU f d e);exact (H.new (.rows ((c++[f]).flatMap FM.rows)) (by simp) b (aT.2 (ch.2 ⟨_,aI k,h⟩))).symm
def KC {j:List FM} {f:FM} {ts:List J} {k:Int} {d s:Nat} {s':O} (h:∀g∈j++[f],∀t∈g.ts,t∈ts) (q:1<=d) (u:d<=4) (w:1<=s) (x:s<=4):∀g∈j++[(f.put d (s',(f.aX d).2++[fG k (f.aX s).1 (f.aX s).2])).put s (⟨none,0,0⟩,[])],∀t∈g.ts,t∈ts++[fG k (f.aX s).1 (f.aX s).2]:=by
 intro g e t n;rcases a5.1 e with e|e
 .exact cW _ (h g (by simp [e]) t n)
 .simp at e;subst e;rcases ye _ _ w x n with c|c
  .rcases ye _ _ q u c with c|c
   .exact cW _ (h f (by simp) t c)
   .rcases a5.1 c with c|c
    .exact cW _ (h f (by simp) t (mZ f d c))
    .exact eP _ c
  .cases c
def Fu {w:I} {rb:Nat} {f0:Addr} {lo:List FX} {c:FX} {st y:Int} {own:List Nat} {ts:List J} (G:St w rb f0 lo c st y own ts) (hn:c.n<=1000000) (Z:c.ca.length<=1000000) (P:c.an.length<=1000000):
  ai U xy #[.pointer (some f0)] w λr h=>r=V (.tuple #[])/\hF w own ts rb f0 lo (jJ c) st y (λ_=>True) h:=by
 refine JZ.ok _ w _ ((Ft G hn Z).mono ?_);rintro _ w1 ⟨rfl,af,ae,⟨sl,q,f,p,rfl,d,u,B,rfl,K,L,N,O,H⟩,F,o1,D,t1,_⟩;refine ⟨rfl,?_⟩;have z:=St.sI K L N O H;have Q:(f.aX 3).2.length<=1000000:=by
  have j:f.x.an.length=f.an.2.length:=by show (J.ax f.an.2).length=_;rw [J.fh];simp
  have E:f.x.an=c.an:=by rw [d];rfl
  show f.an.2.length<=_;rw [<-j,E];exact P
 refine shift (R:=λr h=>r=V (.tuple #[])/\hF w own ts rb (p.add (q.length *10)) (q.map FM.x) (jJ c) st y (λ_=>True) h) z B 3 3 4 (by omega) rfl (by omega) Q (λt e=>u f (by simp) t e) λs' h C=>⟨rfl,hF.then F o1 D t1 ?_⟩;have:=St.of (ts:=ae) (A:=λ_=>True) (f0:=p.add (q.length *10)) C 0 rfl (KC u (by omega) (by omega) (by omega) (by omega)) B rfl (DM (w0:=w) (M:=F0) (λb Y=>.inl Y) (Ki z (by omega) (by omega)) λt e=>u f (by simp) t (mZ f 4 e)) (λt e=>cW _ e) trivial;have j:((f.put 3 (s',(f.aX 3).2++[fG 3 (f.aX 4).1 (f.aX 4).2])).put 4 (⟨none,0,0⟩,[])).x=jJ c:=by
  have hk:f.x.k=c.k:=by rw [d];rfl
  have W:f.x.ar=c.ar:=by rw [d];rfl
  have S:f.x.al=c.al:=by rw [d];rfl
  have T:f.x.an=c.an:=by rw [d];rfl
  have aa:f.x.ca=(iI c).ca:=by rw [d]
  have ad:f.x.n=0:=by rw [d];rfl
  have ab:f.x.la=c.la:=by rw [d];rfl
  unfold jJ;rw [<-hk,<-W,<-S,<-T,<-aa,<-ab];show FX.mk f.k (f.ar.1,J.ax f.ar.2) (J.ax f.al.2) (J.ax (f.an.2++[fG 3 f.ca.1 f.ca.2])) (J.ax []) f.n f.la.rx=_;have ac:f.n=0:=ad;rw [ac,jm];simp [J.ax,CM,FM.x]
 rw [j] at this;exact this
def Fs {w:I} {rb:Nat} {f0:Addr} {lo:List FX} {c:FX} {st y:Int} {own:List Nat} {ts:List J} (G:St w rb f0 lo c st y own ts) (hn:c.n<=1000000) (Z:c.ca.length<=1000000) (P:c.an.length<=1000000) (hl:c.al.length<=1000000):
  ai U xw #[.pointer (some f0)] w λr h=>r=V (.tuple #[])/\hF w own ts rb f0 lo (jI c) st y (λ_=>True) h:=by
 refine JX.ok _ w _ ((Fu G hn Z P).mono ?_);rintro _ w1 ⟨rfl,ag,af,⟨sl,q,f,p,rfl,d,u,B,rfl,K,L,N,O,H⟩,F,o1,D,t1,_⟩;refine ⟨rfl,?_⟩;have z:=St.sI K L N O H;have Q:(f.aX 2).2.length<=1000000:=by
  have j:f.x.al.length=f.al.2.length:=by show (J.ax f.al.2).length=_;rw [J.fh];simp
  have E:f.x.al=c.al:=by rw [d];rfl
  show f.al.2.length<=_;rw [<-j,E];exact hl
 refine shift (R:=λr h=>r=V (.tuple #[])/\hF w own ts rb (p.add (q.length *10)) (q.map FM.x) (jI c) st y (λ_=>True) h) z B 5 2 3 (by omega) rfl (by omega) Q (λt e=>u f (by simp) t e) λs' h C=>⟨rfl,hF.then F o1 D t1 ?_⟩;have:=St.of (ts:=af) (A:=λ_=>True) (f0:=p.add (q.length *10)) C 0 rfl (KC u (by omega) (by omega) (by omega) (by omega)) B rfl (DM (w0:=w) (M:=F0) (λb Y=>.inl Y) (Ki z (by omega) (by omega)) λt e=>u f (by simp) t (mZ f 3 e)) (λt e=>cW _ e) trivial;have j:((f.put 2 (s',(f.aX 2).2++[fG 5 (f.aX 3).1 (f.aX 3).2])).put 3 (⟨none,0,0⟩,[])).x=jI c:=by
  have hk:f.x.k=c.k:=by rw [d];rfl
  have W:f.x.ar=c.ar:=by rw [d];rfl
  have S:f.x.al=c.al:=by rw [d];rfl
  have T:f.x.an=(jJ c).an:=by rw [d]
  have ab:f.x.ca=[]:=by rw [d];rfl
  have ae:f.x.n=0:=by rw [d];rfl
  have ac:f.x.la=c.la:=by rw [d];rfl
  unfold jI;rw [<-hk,<-W,<-S,<-T,<-ac];show FX.mk f.k (f.ar.1,J.ax f.ar.2) (J.ax (f.al.2++[fG 5 f.an.1 f.an.2])) (J.ax []) (J.ax f.ca.2) f.n f.la.rx=_;have ad:f.n=0:=ae;have aa:J.ax f.ca.2=[]:=ab;rw [ad,aa,jm];simp [J.ax,CM,FM.x]
 rw [j] at this;exact this
abbrev SF (M:Nat->Prop) (w0 w:I) (rb:Nat) (e:O) (st h:Int) (d:List FM) (f:FM) (G:List En) (ts:List J):Prop:=LH M w0 w (SL rb e st h ((d++[f]).flatMap FM.c) ((d++[f]).flatMap FM.rows)++G) [.trees ts]
section
variable {M:Nat->Prop} {w0 w:I} {bs:List Nat} {G:List En} {rb:Nat} {sl:O} {st wd:Int} {fs:List FM} {f:FM} {ts:List J} {p:Addr}
def T1 (H:SF M w0 w rb sl st wd fs f G ts) (j:∀g∈fs++[f],∀t∈g.ts,t∈ts) (u:sl.a=some p):
  St w rb (p.add (fs.length *10)) (fs.map FM.x) f.x st wd ((SL rb sl st wd ((fs++[f]).flatMap FM.c) ((fs++[f]).flatMap FM.rows)).flatMap (·.fp)) ts:=by have h:=H.nd;rw [dh,gM] at h;refine ⟨sl,fs,f,p,rfl,rfl,j,u,rfl,rfl,h.1,λd e=>H.own d (cW _ e),H.getD 0,λb k q=>?_⟩;obtain ⟨d,e,n⟩:=ch.1 q;exact H.dj (.trees ts) (by simp) b (aT.2 k) d (cW _ e) n
def T0 (H:SF M w0 w rb sl st wd fs f G ts) {w':I} {Q:Addr} {aa:List FX} {ac:FX} {ab ad:Int} {N:List Nat} {z:List J} (s:St w' rb Q aa ac ab ad N z) (S:Fr (·∈(SL rb sl st wd ((fs++[f]).flatMap FM.c) ((fs++[f]).flatMap FM.rows)).flatMap (·.fp)) w w') (o:∀n∈N,n∈(SL rb sl st wd ((fs++[f]).flatMap FM.c) ((fs++[f]).flatMap FM.rows)).flatMap (·.fp)\/w.heap.size<=n)
  (j:∀b∈J.a' z,b∈J.a' ts\/b∈(SL rb sl st wd ((fs++[f]).flatMap FM.c) ((fs++[f]).flatMap FM.rows)).flatMap (·.fp)\/w.heap.size<=b):
  ∃(E:O) (u:List FM) (A:FM) (D:Addr),u.map FM.x=aa/\A.x=ac/\(∀g∈u++[A],∀t∈g.ts,t∈z)/\E.a=some D/\Q=D.add (u.length *10)/\(∀b∈J.a' z,b∈J.a' ts\/w0.heap.size<=b\/M b)/\SF M w0 w' rb E ab ad u A G z:=by
 obtain ⟨E,u,A,D,h1,h2,h3,h4,h5,C,h7,h8,h9,ae⟩:=s;have L:=H.nd;rw [dh,gM] at L;have P:∀b∈(SL rb sl st wd ((fs++[f]).flatMap FM.c) ((fs++[f]).flatMap FM.rows)).flatMap (·.fp),w0.heap.size<=b\/M b:=λb j=>by obtain ⟨e,d,k⟩:=ch.1 j;exact H.new e (cW _ d) b k
 have T:∀e∈G,∀b∈e.fp,b<w.heap.size:=λe d b j=>e.lt w (H.own e (eP _ d)) b j;have F:∀e∈G,∀b∈e.fp,b∉(SL rb sl st wd ((fs++[f]).flatMap FM.c) ((fs++[f]).flatMap FM.rows)).flatMap (·.fp):=λe d b j K=>L.2.2 b K b (ch.2 ⟨e,d,j⟩) rfl;have Y:=H.fr.size;have ag:∀b∈N,w0.heap.size<=b\/M b:=λb j=>(o b j).elim (P b) λh=>.inl (bH Y h);refine ⟨E,u,A,D,h1,h2,h3,h4,h5,λb y=>?_,H.fr.trans S λn Z K=>(P n K).resolve_left (by omega),λe d=>?_,λe d=>?_,λe d b y=>?_,?_,λe d b y B q k=>?_⟩
 .rcases j b y with h|h|h
  .exact .inl h
  .exact .inr (P b h)
  .exact .inr (.inl (bH Y h))
 .rcases a5.1 d with d|d
  .exact h8 e d
  .exact e.st w w' (λb j hl=>S.ck b hl (F e d b j)) (H.own e (eP _ d))
 .simp at d;subst d;exact h9
 .rcases a5.1 d with d|d
  .exact ag b (by rw [C];exact ch.2 ⟨e,d,y⟩)
  .exact H.new e (eP _ d) b y
 .rw [dh,gM];refine ⟨C▸h7,L.2.1,λn Z ah hy af=>?_⟩;subst af;obtain ⟨e,d,k⟩:=ch.1 hy;rcases o n (by rw [C];exact Z) with h|h
  .exact F e d n k h
  .have:=T e d n k;omega
 .simp at d;subst d;have W:b∈J.a' z:=aT.1 y;rcases a5.1 q with q|q
  .exact ae b W (by rw [C];exact ch.2 ⟨B,q,k⟩)
  .rcases j b W with h|h|h
   .exact H.dj (.trees ts) (by simp) b (aT.2 h) B (eP _ q) k
   .exact F B q b k h
   .have:=T B q b k;omega
def _root_.Go.W.LH.kC (H:SF M w0 w rb sl st wd fs f G ts) (B:∀g∈fs++[f],∀t∈g.ts,t∈ts) (S:sl.a=some p) {g:bJ} {args:Array ae} {K:aa} {Q:dA->Addr->List FX->FX->Int->Int->List J->Prop}
  (L:∀own,St w rb (p.add (fs.length *10)) (fs.map FM.x) f.x st wd own ts->ai U g args w (hG w own ts rb Q))
  (N:∀r q (k:O) (e:List FM) (h:FM) (j:Addr) (n u:Int) (d:List J),(∀t∈ts,t∈d)->(∀g∈e++[h],∀t∈g.ts,t∈d)->k.a=some j->(∀b∈J.a' d,b∈J.a' ts\/w0.heap.size<=b\/M b)->Q r (j.add (e.length *10)) (e.map FM.x) h.x n u d->SF M w0 q rb k n u e h G d->K r q)
  (F:∀b∈bs,En.g b∈G:=by simp):cU bs U g args w K:=by
 have z:=H.nd;rw [dh,gM] at z;refine ⟨(·∈(SL rb sl st wd ((fs++[f]).flatMap FM.c) ((fs++[f]).flatMap FM.rows)).flatMap (·.fp)),λb D P=>?_,(L _ (T1 H B S)).mono ?_⟩
 .exact z.2.2 b P b (ch.2 ⟨_,F b D,by simp [En.g]⟩) rfl
 .rintro r q ⟨Z,ab,ad,n,u,ac,d,s,y,o,b,t,Y⟩;obtain ⟨k,e,h,j,rfl,rfl,C,T,rfl,E,A⟩:=T0 H s y o b;exact ⟨y,N r q k e h j n u d t C T E Y A⟩
def _root_.Go.W.LH.wa (H:SF M w0 w rb sl st wd fs f G ts) (y:∀g∈fs++[f],∀t∈g.ts,t∈ts) (B:sl.a=some p) {g:bJ} {args:Array ae} {K:aa} {Q:dA->Addr->List FX->FX->Int->Int->List J->Prop}
  (z:∀own,St w rb (p.add (fs.length *10)) (fs.map FM.x) f.x st wd own ts->ai U g args w (hG w own ts rb Q))
  (A:∀r j (n:O) (d:List FM) (e:FM) (k:Addr) (q u:Int) (c:List J),(∀t∈ts,t∈c)->(∀g∈d++[e],∀t∈g.ts,t∈c)->n.a=some k->(∀b∈J.a' c,b∈J.a' ts\/w0.heap.size<=b\/M b)->Q r (k.add (d.length *10)) (d.map FM.x) e.x q u c->SF M w0 j rb n q u d e G c->K r j):ai U g args w K:=by obtain ⟨_,_,h⟩:=H.kC (bs:=[]) y B z A (by simp);exact h.mono λr j h=>h.2
end
def AM (f:FM):f.x.ar.2.length=f.ar.2.length/\f.x.al.length=f.al.2.length/\f.x.an.length=f.an.2.length/\f.x.ca.length=f.ca.2.length:=by refine ⟨?_,?_,?_,?_⟩<;>(show (J.ax _).length=_;rw [J.fh];simp)
def vO {w:I} {own:List Nat} {ts:List J} {rb:Nat} {f0:Addr} {lo:List FX} {c:FX} {st d:Int} {g:bJ} {args:Array ae} (j:ai U g args w λr e=>r=V (.tuple #[])/\hF w own ts rb f0 lo c st d (λ_=>True) e):
  ai U g args w (hG w own ts rb λr h q x u y _=>r=V (.tuple #[])/\h=f0/\q=lo/\x=c/\u=st/\y=d):=
 j.mono λr e ⟨k,n⟩=>⟨f0,lo,c,st,d,n.mono λ_ _=>⟨k,rfl,rfl,rfl,rfl,rfl⟩⟩
structure Small (f:FX) (n:Nat):Prop where
 n':f.n<=n
 ar:f.ar.2.length<=n
 al:f.al.length<=n
 an:f.an.length<=n
 ca:f.ca.length<=n
def vV {w:I} {rb:Nat} {f0:Addr} {lo:List FX} {D:FX} {st E:Int} {own:List Nat} {ts:List J} (z:St w rb f0 lo D st E own ts) (C:Small D 1000000):
  ai U rD #[.pointer (some f0)] w (hG w own ts rb λr ac aj ap am aw aq=>ac=f0/\aj=lo/\ap=Ap D/\am=st/\aw=E/\∃t∈aq,r=V t.v/\t.rx=eu D):=by
 obtain ⟨O,N,f,p,rfl,rfl,h3,h4,rfl,h6,h7,h8,h9,ad⟩:=z;have Q:SF (·∈own) w w rb O st E N f [] ts:=by have:=St.sI h6 h7 h8 h9 ad;show LH _ _ _ (_++[]) _;rw [fI];exact this
 refine JY.aD _ w _ (Q.aL (bs:=[]) (λu w1 S=>?_) (by simp));refine (show SF (·∈own) w w1 rb O st E N f [.g u] ts from S).kC (bs:=[u]) h3 h4 (λaB s1=>vO (Fs s1 C.n' C.ca C.an C.al)) ?_ (by simp);rintro _ L ak e d p2 ao az av t2 B G aa ⟨rfl,ae,af,q,rfl,rfl⟩ A;rw [<-ae,<-af];have K:((e++[d]).flatMap FM.rows)[e.length *4+(2 - 1)]? =some ((d.aX 2).1,(d.aX 2).2.flatMap J.c):=oE e d 1 _ (qU d (j:=2) (by omega) (by omega));have ah:bL 4 L d.al.1 (d.al.2.flatMap J.c):=by have hP:(En.rows ((e++[d]).flatMap FM.rows)).P L:=A.get 2;exact (hP.1 _ (aI K)).bz
 refine ⟨rfl,d.al.1,A.gp 1 rfl G 2,A.aA (zM 4 _ _ L ah) ?_⟩;rintro _ w3 rfl W;refine ⟨_,_,_,_,rfl,W.aL (bs:=[u]) (λF w4 Y=>Y.au (bs:=[u,F]) (λw5 Z=>?_) (by simp)) (by simp)⟩;refine Z.hY (bs:=[u,F]) (f:=d) 1 (d.put 2 (⟨none,0,0⟩,[])) 2 rfl G (by omega) rfl (λw6 H6=>H6.au (bs:=[u,F]) (λw7 H7=>?_) (by simp)) (by simp);have H8:=H7.AP 2 (e.length *4+(2 - 1)) rfl K;have H9:=H8.IK 0 4 (s:=d.al.1) (ks:=d.al.2) rfl (by simp [FM.aX]) λt h=>B d (by simp) t (mZ d 2 h);have er:=ri e d (⟨none,0,0⟩,[]) (j:=2) (by omega) (by omega);have e':(([]:List J).flatMap J.c)=[]:=rfl;rw [e'] at er;simp only at er;have T:LH (·∈own) w w7 (SL rb ak ao az ((e++[d.put 2 (⟨none,0,0⟩,[])]).flatMap FM.c) ((e++[d.put 2 (⟨none,0,0⟩,[])]).flatMap FM.rows)) [.trees (av++[fG 4 d.al.1 d.al.2])]:=by rw [<-er];exact H9.take 3
 have ag:∀b∈ay d.al.1,b∈own\/w.heap.size<=b:=λb H=>(A.new (.rows ((e++[d]).flatMap FM.rows)) (by simp) b (aT.2 (ch.2 ⟨_,aI K,H⟩))).symm;have ex:(d.put 2 (⟨none,0,0⟩,[])).x=Ap f.x:=by
  have e1:d.k=f.k:=by have:=congrArg FX.k q;exact this
  have e2:(d.ar.1,J.ax d.ar.2)=f.x.ar:=by have:=congrArg FX.ar q;exact this
  have e3:J.ax d.an.2=[]:=by have:=congrArg FX.an q;exact this
  have e4:J.ax d.ca.2=[]:=by have:=congrArg FX.ca q;exact this
  have e5:d.n=0:=by have:=congrArg FX.n q;exact this
  have e6:d.la.rx=f.x.la:=by have:=congrArg FX.la q;exact this
  show FX.mk d.k (d.ar.1,J.ax d.ar.2) (J.ax []) (J.ax d.an.2) (J.ax d.ca.2) d.n d.la.rx=_;rw [e1,e2,e3,e4,e5,e6];rfl
 refine ⟨_,_,_,_,_,St.of (ts:=ts) (f0:=p2.add (e.length *10)) T 0 rfl (λg y t h=>?_) G rfl (DM (w0:=w) (M:=F0) (λb H=>(aa b H).imp id Or.symm) ag λt h=>B d (by simp) t (mZ d 2 h)) (λt h=>cW _ (t2 t h)) ⟨rfl,rfl,ex,rfl,rfl,fG 4 d.al.1 d.al.2,by simp,rfl,?_⟩⟩
 .rcases a5.1 y with y|y
  .exact cW _ (B g (by simp [y]) t h)
  .simp at y;subst y;rcases ye _ _ (by omega) (by omega) h with z|z
   .exact cW _ (B d (by simp) t z)
   .cases z
 .rw [CM];have:=congrArg FX.al q;have ab:J.ax d.al.2=(jI f.x).al:=this;rw [ab];rfl
def nn {p:Addr} {K:Addr->Prop} (c:K p):ct (some p) K:=c
def Pj:gy U yM g8 (.agg #[.int .i64 0,.slice none 0 0,.slice none 0 0,.slice none 0 0,.slice none 0 0,.int .i64 0,.int .i64 0,.int .u8 0,.int .u8 0,.slice none 0 0]) 10 152:=⟨by kernel_rfl,by kernel_rfl,rfl,by decide,by decide⟩
section
variable {M:Nat->Prop} {w0 w:I} {L D:List En} {bs:List Nat} {G:List En} {rb:Nat} {sl:O} {st wd:Int} {fs:List FM} {f:FM} {ts:List J} {p:Addr}
def _root_.Go.W.LH.r1 (H:LH M w0 w L D) (i j:Nat) {b:Nat} {vs:List ae} {T:TypeId} {v:ae} {K:I->Prop} (hi:L[i]? =some (.c b vs T)) (u:∀k,LH M w0 k (L.set i (.c b (vs.set j v) T)) D->K k) (z:j<vs.length) (h:∀b∈bs,En.g b∈L:=by simp):av w ((aj b).add j) v λn=>kept bs w n/\K n:=by
 obtain ⟨C,E,F⟩:=H.set (v:=v) i j hi z;refine ⟨C,E,λd e=>?_,u _ F⟩;have A:d≠b:=by rintro rfl;refine n5 H hi (λB x=>?_) (h _ e) (by simp [En.ob]);have q:({w with heap:=Array.replicate (B+1) (.map #[] 0)}:I).heap[d]? =some (.cells vs.toArray T (0,0)):=x;simp [Array.getElem?_replicate] at q
 have y:Fr (·=b) w (w.setCell ((aj b).add j) v):=Fr.set _ _ _ (by rw [iF])
 exact y.ck d (H.own _ (h _ e)) A
def yv (H:SF M w0 w rb sl st wd fs f G ts):sl.n=fs.length+1:=by have d:aS w g8 10 sl ((fs++[f]).flatMap FM.c):=H.get 1;have:=d.len;rw [n3] at this;simp at this;omega
def vZ (H:SF M w0 w rb sl st wd fs f G ts) (e:sl.a=some p) (k:fs.length<=1000000):ai U oh #[.pointer (some (aj rb))] w λr h=>r=V (.pointer (some (p.add (fs.length *10))))/\ao w h:=by
 have j:=yv H;have d:ab .i64 (((sl.n:Nat):Int) - 1)=(fs.length:Int):=by rw [a4 _ (by omega)];omega
 have c:SF M w0 w.drew rb sl st wd fs f G ts:=H.drew;refine Dq.ok _ w _ (show _ from ⟨sl,c.ld 0 0,sl,c.ld 0 0,?_⟩);rw [d,e];exact ⟨by omega,by omega,rfl,Fr.drew _ _⟩
def DI (H:SF M w0 w rb sl st wd fs f G ts) (k:Int) (lo hi:UInt8):SF M w0 w rb sl st wd fs f G (ts++[.mk k lo hi ⟨none,0,0⟩ []]):=by
 have e:=H.fo (.trees (ts++[.mk k lo hi ⟨none,0,0⟩ []])) (Fr.refl _ _) (J.hS λt c=>?_) λb h=>.inr (.inr ⟨.trees ts,by simp,?_⟩)
 .exact e.forget _ (by simp)
 .rcases a5.1 c with c|c
  .exact J.Ps.mem (H.getD 0) c
  .simp at c;subst c;show J.P w _;unfold J.P J.Ps;exact ⟨bL.nil 4 w,trivial⟩
 .obtain ⟨t,c,d⟩:=J.bR.1 (aT.1 h);rcases a5.1 c with c|c
  .exact aT.2 (J.bR.2 ⟨t,c,d⟩)
  .simp at c;rw [c] at d;unfold J.fp J.a' at d;simp [En.bz] at d
def wM {k:Int} {lo hi:UInt8} {b:Nat} (e:b∈J.a' (ts++[.mk k lo hi ⟨none,0,0⟩ []])):b∈J.a' ts:=by
 obtain ⟨t,c,d⟩:=J.bR.1 e;rcases a5.1 c with c|c
 .exact J.bR.2 ⟨t,c,d⟩
 .simp at c;rw [c] at d;unfold J.fp J.a' at d;simp [En.bz] at d
def TI (H:LH M w0 w L D) (i:Nat) {e:List dK} (hi:L[i]? =some (.rows e)) (n:Nat):LH M w0 w (L.set i (.rows (e++List.replicate n (⟨none,0,0⟩,[])))) D:=by
 have j:(En.rows e).P w:=H.get i hi;have h:(e++List.replicate n ((⟨none,0,0⟩,[]):dK)).flatMap (λc:dK=>ay c.1)=e.flatMap λc:dK=>ay c.1:=by
  rw [dh];have:(List.replicate n ((⟨none,0,0⟩,[]):dK)).flatMap (λc:dK=>ay c.1)=[]:=by
   induction n with
   |zero=>rfl
   |succ n q=>rw [List.replicate_succ,cO,q];rfl
  rw [this,fI]
 refine H.g9 i _ hi (Fr.refl _ _) ⟨λc d=>?_,by rw [h];exact j.2⟩ λb k=>.inl (aT.2 (by have:=aT.1 k;rw [h] at this;exact this));rcases a5.1 d with d|d
 .exact j.1 c d
 .rw [List.eq_of_mem_replicate d];exact aS.nil _ _ _
end
def ka (k:Int):FX:=⟨k,(⟨none,0,0⟩,[]),[],[],[],0,fg⟩
def iq (k:Int):FM:=⟨k,(⟨none,0,0⟩,[]),(⟨none,0,0⟩,[]),(⟨none,0,0⟩,[]),(⟨none,0,0⟩,[]),0,.mk 0 0 0 ⟨none,0,0⟩ []⟩
def x8 {w:I} {rb:Nat} {f0:Addr} {lo:List FX} {e:FX} {st h:Int} {own:List Nat} {ts:List J} (j:St w rb f0 lo e st h own ts):∃(d:O) (c:List FM) (f:FM) (p:Addr),c.map FM.x=lo/\f.x=e/\(∀g∈c++[f],∀t∈g.ts,t∈ts)/\d.a=some p/\f0=p.add (c.length *10)/\SF (·∈own) w w rb d st h c f [] ts:=by obtain ⟨d,c,f,p,k,q,u,y,z,A,B,C,D,n⟩:=j;refine ⟨d,c,f,p,k,q,u,y,z,?_⟩;have:=St.sI A B C D n;show LH _ _ _ (_++[]) _;rw [fI];exact this
def FE {w:I} {rb:Nat} {f0:Addr} {lo:List FX} {A:FX} {st q:Int} {own:List Nat} {ts:List J} (M:St w rb f0 lo A st q own ts) (P:lo.length<=1000000) (kind state:Int):
  ai U xB #[.pointer (some (aj rb)),.int .i64 kind,.int .i64 state] w (hG w own ts rb λr _ W Z Y aa _=>r=V (.bool true)/\W=lo++[A]/\Z=ka kind/\Y=state/\aa=q):=by
 obtain ⟨y,d,f,p,rfl,rfl,N,h4,rfl,x⟩:=x8 M;have hn:=yv x;have ab:d.length<=1000000:=by simpa using P
 refine J5.ok _ _ _ w _ ⟨y,x.ld 0 0,x.eb (e:=g8) (sz:=10) (n:=1) (cs:=(iq kind).c) rfl (by decide) λw1 z=>?_⟩;refine z.EY 1 Pj (src:=⟨some (aj w.heap.size),1,1⟩) (news:=(iq kind).c) rfl (aS.bz (z.get 3)).2.2 rfl (by simp [FM.c,iq,Value.oneCell']) (by show (y.n+1) *152<=_;omega) λk w2 C ac Q _=>?_;obtain ⟨j,S⟩:∃j,k.a=some j:=by
  cases T:k.a with
  |none=>have:=(Q T).2;simp at this
  |some j=>exact ⟨j,rfl⟩
 have D:LH (·∈own) w w2 [.c rb [y.v,.int .i64 st,.int .i64 q] vi,.row g8 10 k ((d++[f]).flatMap FM.c++(iq kind).c),.rows ((d++[f]).flatMap FM.rows)] [.trees ts]:=C.take 3;refine D.st 0 0 rfl (λw3 E=>E.st 0 1 rfl (λB F=>?_));have G:=TI F 2 rfl 4;have H:SF (·∈own) w B rb k state q (d++[f]) (iq kind) [] ts:=by show LH _ _ _ (SL rb k state q ((d++[f]++[iq kind]).flatMap FM.c) ((d++[f]++[iq kind]).flatMap FM.rows)++[]) _;rw [fI,dh (xs:=d++[f]),dh (xs:=d++[f])];simpa [show (iq kind).rows=[(⟨none,0,0⟩,[]),(⟨none,0,0⟩,[]),(⟨none,0,0⟩,[]),(⟨none,0,0⟩,[])] from rfl] using G
 have K:=DI H 0 0 0;have L:LH (·∈own) w B (SL rb k state q ((d++[f]++[iq kind]).flatMap FM.c) ((d++[f]++[iq kind]).flatMap FM.rows)) [.trees (ts++[.mk 0 0 0 ⟨none,0,0⟩ []])]:=K.take 3;refine ⟨_,_,_,_,_,St.of (ts:=ts) (p:=j) (f0:=j.add ((d++[f]).length *10)) L 0 rfl (λg h t u=>?_) S rfl (λb O=>.inl (wM O)) (λt u=>cW _ u) ⟨rfl,?_,rfl,rfl,rfl⟩⟩
 .rcases a5.1 h with h|h
  .exact cW _ (N g h t u)
  .simp at h;subst h;simp [FM.ts,iq] at u;simp [u]
 .simp
def h' (c:FX) (x:Rx):FX:=⟨c.k,c.ar,c.al,c.an,c.ca,c.n,x⟩
def zI {w:I} {rb:Nat} {f0:Addr} {lo:List FX} {C:FX} {st y:Int} {own:List Nat} {ts:List J} (W:St w rb f0 lo C st y own ts) (Z:lo.length<=1000000) (t:J) (z:t∈ts):
  ai U og #[.pointer (some (aj rb)),t.v] w (hG w own ts rb λr T ab ad ac ae _=>r=V (.bool true)/\T=f0/\ab=lo/\ad=h' C t.rx/\ac=3/\ae=y):=by
 obtain ⟨B,d,f,p,rfl,rfl,u,j,rfl,D⟩:=x8 W;have aa:d.length<=1000000:=by simpa using Z
 refine J3.aD _ _ _ _ _ w _ (D.aL (bs:=[]) (λh w1 E=>E.au (bs:=[h]) (λw2 F=>?_) (by simp)) (by simp));have A:SF (·∈own) w w2 rb B st y d f [.g h] ts:=F;refine A.aA (vZ A j aa) ?_;rintro _ w3 rfl G;refine ⟨_,rfl,nn ?_⟩;refine G.hY (bs:=[h]) (f:=f) 1 ⟨f.k,f.ar,f.al,f.an,f.ca,f.n,.mk t.k f.la.lo f.la.hi f.la.s f.la.l⟩ 6 rfl j (by omega) rfl (λw4 H=>?_) (by simp);have P:((p.add (d.length *10)).add 6).add 1=(p.add (d.length *10)).add 7:=add_add _ 6 1;have Q:((p.add (d.length *10)).add 6).add 2=(p.add (d.length *10)).add 8:=add_add _ 6 2;have S:((p.add (d.length *10)).add 6).add 3=(p.add (d.length *10)).add 9:=add_add _ 6 3;rw [P,Q,S];refine H.hY (bs:=[h]) (f:=⟨f.k,f.ar,f.al,f.an,f.ca,f.n,.mk t.k f.la.lo f.la.hi f.la.s f.la.l⟩) 1 ⟨f.k,f.ar,f.al,f.an,f.ca,f.n,.mk t.k t.lo f.la.hi f.la.s f.la.l⟩ 7 rfl j (by omega) rfl (λw5 K=>?_) (by simp);refine K.hY (bs:=[h]) (f:=⟨f.k,f.ar,f.al,f.an,f.ca,f.n,.mk t.k t.lo f.la.hi f.la.s f.la.l⟩) 1 ⟨f.k,f.ar,f.al,f.an,f.ca,f.n,.mk t.k t.lo t.hi f.la.s f.la.l⟩ 8 rfl j (by omega) rfl (λw6 L=>?_) (by simp);refine L.hY (bs:=[h]) (f:=⟨f.k,f.ar,f.al,f.an,f.ca,f.n,.mk t.k t.lo t.hi f.la.s f.la.l⟩) 1 ⟨f.k,f.ar,f.al,f.an,f.ca,f.n,t⟩ 9 rfl j (by omega) rfl (λw7 M=>?_) (by simp);refine M.r1 (bs:=[h]) 0 1 rfl (λw8 N=>?_) (by simp) (by simp);have er:(d++[f]).flatMap FM.rows=(d++[(⟨f.k,f.ar,f.al,f.an,f.ca,f.n,t⟩:FM)]).flatMap FM.rows:=by simp [FM.rows]
 have O:LH (·∈own) w w8 (SL rb B 3 y ((d++[(⟨f.k,f.ar,f.al,f.an,f.ca,f.n,t⟩:FM)]).flatMap FM.c) ((d++[(⟨f.k,f.ar,f.al,f.an,f.ca,f.n,t⟩:FM)]).flatMap FM.rows)) [.trees ts]:=by rw [<-er];exact N.take 3
 refine ⟨_,_,_,_,_,St.of (ts:=ts) (f0:=p.add (d.length *10)) O 0 rfl (λg q x e=>?_) j rfl (λb Y=>.inl Y) (λt z=>z) ⟨rfl,rfl,rfl,rfl,rfl,rfl⟩⟩;rcases a5.1 q with q|q
 .exact u g (by simp [q]) x e
 .simp at q;subst q;simp only [FM.ts,a5,aB,a1,a7] at e;rcases e with (((e|e)|e)|e)|rfl
  .exact u f (by simp) x (by simp [FM.ts,e])
  .exact u f (by simp) x (by simp [FM.ts,e])
  .exact u f (by simp) x (by simp [FM.ts,e])
  .exact u f (by simp) x (by simp [FM.ts,e])
  .exact z
structure Tk where
 k:UInt8
 lo:UInt8
 hi:UInt8
 s:List UInt8
 a:Int
abbrev Tk.v (t:Tk):ae:=.agg #[.int .u8 (t.k.toNat:Int),.int .u8 (t.lo.toNat:Int),.int .u8 (t.hi.toNat:Int),.string (ba t.s),.int .i64 t.a]
structure SX where
 lo:List FX
 tp:FX
 st:Int
 wd:Int
def yZ:List UInt8:=[110,111,110,101]
def yY:List UInt8:=[101,109,112,116,121]
def yW:List UInt8:=[97,108,116]
def yV:List UInt8:=[97,108,108]
def yX:List UInt8:=[99,97,116]
def fv (t:Tk) (s:SX):Option SX:=
 if t.k=33 then some ⟨s.lo,⟨s.tp.k,s.tp.ar,s.tp.al,s.tp.an,s.tp.ca,s.tp.n+1,s.tp.la⟩,0,s.wd⟩
 else if t.k=40 then some ⟨s.lo++[s.tp],ka (-1),0,s.wd⟩
 else if t.k=114 then some ⟨s.lo,h' s.tp (.mk 2 t.lo t.hi []),3,s.wd⟩
 else if t.k=119 then
  if t.s=yZ then some ⟨s.lo,h' s.tp (.mk 0 0 0 []),3,s.wd⟩
  else if t.s=yY then some ⟨s.lo,h' s.tp (.mk 1 0 0 []),3,s.wd⟩
  else if t.s=yW then some ⟨s.lo,s.tp,2,4⟩
  else if t.s=yV then some ⟨s.lo,s.tp,2,5⟩
  else if t.s=yX then some ⟨s.lo,s.tp,2,3⟩
  else none
 else none
def vE (o:Option SX):dA->Addr->List FX->FX->Int->Int->List J->Prop:=λr _ lo c st d _=>(o=none/\r=V (.bool false))\/(o=some ⟨lo,c,st,d⟩/\r=V (.bool true))
section
variable {w w':I} {own:List Nat} {G:List En} {rb:Nat} {sl:O} {st wd:Int} {fs:List FM} {f:FM} {ts vf:List J} {p:Addr}
def gP {Q:dA->Addr->List FX->FX->Int->Int->List J->Prop} {r:dA} (H:SF (·∈own) w w' rb sl st wd fs f G vf) (d:∀g∈fs++[f],∀t∈g.ts,t∈vf) (h:sl.a=some p) (e:∀b∈J.a' vf,b∈J.a' ts\/w.heap.size<=b\/b∈own) (j:∀t∈ts,t∈vf) (k:Q r (p.add (fs.length *10)) (fs.map FM.x) f.x st wd vf):hG w own ts rb Q r w':=
 ⟨_,_,_,_,_,St.of (ts:=ts) (f0:=p.add (fs.length *10)) (H.take 3) 0 rfl d h rfl (λb c=>(e b c).imp id Or.symm) j k⟩
end
def UU (s:List UInt8):(ba s).toList=s:=by rw [ByteArray.toList_eq];rfl
def UW (a:Array UInt8):(az a).toList=a.toList:=by rw [ByteArray.toList_eq]
def u3 {s:List UInt8} {a:Array UInt8} {A B:Prop} (d:s=a.toList->A) (e:s≠a.toList->B):Y ((ba s).toList==(az a).toList) A B:=by rw [UU,UW];exact bE (λc=>d (by simpa using c)) (λc=>e (by simpa using c))
def iX {x:UInt8} {n:Nat} {A B:Prop} (k:n<256) (e:x=cS n->A) (h:x≠cS n->B):Y (((x.toNat:Nat):Int)==(n:Int)) A B:=by
 have d:∀x:UInt8,x.toNat=n↔x=cS n:=λx=>by rw [<-UInt8.toNat_inj,UInt8.toNat_ofNat'];omega
 exact bE (λc=>e ((d x).1 (by have:=eq_of_beq c;omega))) (λc=>h λj=>by have:x.toNat=n:=(d x).2 j;rw [this] at c;simp at c)
def N9 {w:I} {rb:Nat} {f0:Addr} {lo:List FX} {tp:FX} {st h:Int} {own:List Nat} {ts:List J} (e:St w rb f0 lo tp st h own ts) (W:lo.length<=1000000) (hn:tp.n<=1000000) (t:Tk):
  ai U rE #[.pointer (some (aj rb)),t.v] w (hG w own ts rb (vE (fv t ⟨lo,tp,st,h⟩))):=by
 obtain ⟨D,c,f,p,rfl,rfl,A,q,rfl,ag⟩:=x8 e;have am:c.length<=1000000:=by simpa using W
 have aC:f.n<=1000000:=hn;have base:∀b∈J.a' ts,b∈J.a' ts\/w.heap.size<=b\/b∈own:=λb hb=>.inl hb;refine Dp.aD _ _ _ _ _ _ w _ (ag.aL (bs:=[]) (λd w1 u=>?_) (by simp));have u:SF (·∈own) w w1 rb D st h c f [.g d] ts:=u;have leaf:∀(k:Int) (a b:UInt8) {z:I} {ad aa:Int},SF (·∈own) w z rb D ad aa c f [.g d] ts->fv t ⟨c.map FM.x,f.x,st,h⟩=some ⟨c.map FM.x,h' f.x (.mk k a b []),3,aa⟩->
   cU [d] U og #[.pointer (some (aj rb)),.agg #[.i k,.int .u8 (a.toNat:Int),.int .u8 (b.toNat:Int),.slice none 0 0]] z λr_ w6=>∃t32:Bool,r_=V (.bool t32)/\hG w own ts rb (vE (fv t ⟨c.map FM.x,f.x,st,h⟩)) (V (.bool t32)) w6:=by
  intro k a b z ad aa j Q;have F:=DI j k a b;refine F.kC (bs:=[d]) (λg y E C=>cW _ (A g y E C)) q (λap s1=>zI s1 W (.mk k a b ⟨none,0,0⟩ []) (by simp)) ?_ (by simp);rintro _ M au ak f3 p3 aw ay ax t3 O P N ⟨rfl,aB,S,T,rfl,rfl⟩ G;refine ⟨true,rfl,gP G O P (λaz hx=>?_) (λE C=>t3 E (cW _ C)) (.inr ⟨?_,rfl⟩)⟩
  .rcases N az hx with e|e
   .exact .inl (wM e)
   .exact .inr e
  .rw [Q,S,T];rfl
 refine iX (n:=33) (by omega) (λhk:t.k=33=>u.aA (vZ u q am) ?_) (λK:t.k≠33=>iX (n:=40) (by omega) (λhk:t.k=40=>?_) (λY:t.k≠40=>iX (n:=114) (by omega) (λhk:t.k=114=>?_) (λac:t.k≠114=>iX (n:=119) (by omega) (λhk:t.k=119=>?_) (λao:t.k≠119=>?_))))
 .rintro _ z rfl j;refine ⟨_,rfl,nn ⟨_,j.gp 1 rfl q 5,nn ?_⟩⟩;have ah:ab .i64 ((f.n:Int)+1)=((f.n+1:Nat):Int):=by rw [a4 _ (by omega)];omega
  rw [ah];refine j.hY (bs:=[d]) (f:=f) 1 ⟨f.k,f.ar,f.al,f.an,f.ca,f.n+1,f.la⟩ 5 rfl q (by omega) rfl (λM F=>?_) (by simp);refine F.r1 (bs:=[d]) 0 1 rfl (λw4 G=>?_) (by simp) (by simp);have er:(c++[f]).flatMap FM.rows=(c++[(⟨f.k,f.ar,f.al,f.an,f.ca,f.n+1,f.la⟩:FM)]).flatMap FM.rows:=by simp [FM.rows]
  have H5:SF (·∈own) w w4 rb D 0 h c ⟨f.k,f.ar,f.al,f.an,f.ca,f.n+1,f.la⟩ [.g d] ts:=by show LH _ _ _ (SL rb D 0 h _ ((c++[(⟨f.k,f.ar,f.al,f.an,f.ca,f.n+1,f.la⟩:FM)]).flatMap FM.rows)++_) _;rw [<-er];exact G
  refine gP H5 (λg y E C=>?_) q base (λ_ e=>e) (.inr ⟨?_,rfl⟩)
  .rcases a5.1 y with y|y
   .exact A g (by simp [y]) E C
   .simp at y;subst y;exact A f (by simp) E C
  .unfold fv;rw [aq hk];rfl
 .refine u.kC (bs:=[d]) A q (λap s1=>FE s1 W (-1) 0) ?_ (by simp);rintro _ M au ak f3 p3 aw ay ax t3 O P N ⟨rfl,S,T,rfl,rfl⟩ G;refine ⟨true,rfl,gP G O P N t3 (.inr ⟨?_,rfl⟩)⟩;unfold fv;rw [af K,aq hk,S,T]
 .exact leaf 2 t.lo t.hi u (by unfold fv;rw [af K,af Y,aq hk])
 .refine u.r1 (bs:=[d]) 0 1 rfl (λz j=>?_) (by simp) (by simp);have j:SF (·∈own) w z rb D 2 h c f [.g d] ts:=j;have B:fv t ⟨c.map FM.x,f.x,st,h⟩=if t.s=yZ then some ⟨c.map FM.x,h' f.x (.mk 0 0 0 []),3,h⟩ else if t.s=yY then some ⟨c.map FM.x,h' f.x (.mk 1 0 0 []),3,h⟩ else if t.s=yW then some ⟨c.map FM.x,f.x,2,4⟩ else if t.s=yV then some ⟨c.map FM.x,f.x,2,5⟩ else if t.s=yX then some ⟨c.map FM.x,f.x,2,3⟩ else none:=by unfold fv;rw [af K,af Y,af ac,aq hk]
  have word:∀(k:Int),fv t ⟨c.map FM.x,f.x,st,h⟩=some ⟨c.map FM.x,f.x,2,k⟩->av z ((aj rb).add 2) (.i k) λae=>kept [d] z ae/\Dp.aQ ae (hG w own ts rb (vE (fv t ⟨c.map FM.x,f.x,st,h⟩))):=λk Q=>
   j.r1 (bs:=[d]) 0 2 rfl (λM F=>gP (show SF (·∈own) w M rb D 2 k c f [.g d] ts from F) A q base (λ_ e=>e) (.inr ⟨Q,rfl⟩)) (by simp) (by simp)
  refine u3 (λh1:t.s=yZ=>leaf 0 0 0 j (by rw [B,aq h1])) (λH:t.s≠yZ=>u3 (λh1:t.s=yY=>leaf 1 0 0 j (by rw [B,af H,aq h1])) (λL:t.s≠yY=>u3 (λh1:t.s=yW=>word 4 (by rw [B,af H,af L,aq h1])) (λZ:t.s≠yW=>u3 (λh1:t.s=yV=>word 5 (by rw [B,af H,af L,af Z,aq h1])) (λn4:t.s≠yV=>u3 (λh1:t.s=yX=>word 3 (by rw [B,af H,af L,af Z,af n4,aq h1])) (λn5:t.s≠yX=>?_)))));exact gP j A q base (λ_ e=>e) (.inl ⟨by rw [B,af H,af L,af Z,af n4,af n5],rfl⟩)
 .exact gP u A q base (λ_ e=>e) (.inl ⟨by unfold fv;rw [af K,af Y,af ac,af ao],rfl⟩)
def Sm {w:I} {e:TypeId} {sz:Nat} {s:O} {xs:List ae} {p:Addr} (d:aS w e sz s xs) (z:s.a=some p) (n:Nat) (h:n<=s.n):aS w e sz ⟨s.a,n,s.c⟩ (xs.take (n *sz)):=by
 have A:=d.len;rcases d.cases with ⟨rfl,_⟩|⟨g,cur,x,y,j,k,q,u⟩
 .cases z
 .have B:n *sz<=s.n *sz:=Nat.mul_le_mul_right _ h;refine ⟨by rw [List.length_take];show _=n *sz;omega,.inr ⟨g,s.c,cur,by rw [x],Nat.zero_le _,y,bH h j,k,q,?_⟩⟩;rw [<-u,List.take_take];congr 1;show n *sz=_;omega
section
variable {M:Nat->Prop} {w0 w:I} {L D A:List En} {bs:List Nat} {G:List En} {rb:Nat} {ts:List J}
def Kk (H:LH M w0 w L D) (i:Nat) {c h:List dK} (hi:L[i]? =some (.rows (c++h))):LH M w0 w (L.set i (.rows c)) D:=by have d:(En.rows (c++h)).P w:=H.get i hi;have e:=d.2;rw [dh,gM] at e;refine H.g9 i _ hi (Fr.refl _ _) ⟨λn k=>d.1 n (cW _ k),e.1⟩ λb j=>.inl (aT.2 ?_);rw [dh];exact cW _ (aT.1 j)
def Ra (H:LH M w0 w (A++G) [.trees ts]):LH (·∈A.flatMap (·.fp)) w w A [.trees ts]:=by have h:=H.nd;rw [dh,gM] at h;refine LH.u1 _ _ (λd c=>⟨H.own d (cW _ c),λb e=>ch.2 ⟨d,c,e⟩⟩) h.1 λd c=>?_;simp only [aB,a1,a7] at c;subst c;exact ⟨H.getD 0,λb e j n k=>H.dj (.trees ts) (by simp) b e j (cW _ n) k⟩
def QY (H:LH M w0 w (A++G) [.trees ts]) {w':I} {Q:Addr} {aa:List FX} {ac:FX} {ab ad:Int} {N:List Nat} {y:List J} (s:St w' rb Q aa ac ab ad N y) (S:Fr (·∈A.flatMap (·.fp)) w w') (o:∀k∈N,k∈A.flatMap (·.fp)\/w.heap.size<=k)
  (h:∀b∈J.a' y,b∈J.a' ts\/b∈A.flatMap (·.fp)\/w.heap.size<=b):
  ∃(E:O) (q:List FM) (z:FM) (D:Addr),q.map FM.x=aa/\z.x=ac/\(∀g∈q++[z],∀t∈g.ts,t∈y)/\E.a=some D/\Q=D.add (q.length *10)/\(∀b∈J.a' y,b∈J.a' ts\/w0.heap.size<=b\/M b)/\SF M w0 w' rb E ab ad q z G y:=by
 obtain ⟨E,q,z,D,h1,h2,h3,h4,h5,C,h7,h8,h9,ae⟩:=s;have L:=H.nd;rw [dh,gM] at L;have P:∀b∈A.flatMap (·.fp),w0.heap.size<=b\/M b:=λb h=>by obtain ⟨d,c,j⟩:=ch.1 h;exact H.new d (cW _ c) b j
 have T:∀d∈G,∀b∈d.fp,b<w.heap.size:=λd c b h=>d.lt w (H.own d (eP _ c)) b h;have F:∀d∈G,∀b∈d.fp,b∉A.flatMap (·.fp):=λd c b h K=>L.2.2 b K b (ch.2 ⟨d,c,h⟩) rfl;have Y:=H.fr.size;have ag:∀b∈N,w0.heap.size<=b\/M b:=λb h=>(o b h).elim (P b) λe=>.inl (bH Y e);refine ⟨E,q,z,D,h1,h2,h3,h4,h5,λb u=>?_,H.fr.trans S λk Z K=>(P k K).resolve_left (by omega),λd c=>?_,λd c=>?_,λd c b u=>?_,?_,λd c b u B n j=>?_⟩
 .rcases h b u with e|e|e
  .exact .inl e
  .exact .inr (P b e)
  .exact .inr (.inl (bH Y e))
 .rcases a5.1 c with c|c
  .exact h8 d c
  .exact d.st w w' (λb h hl=>S.ck b hl (F d c b h)) (H.own d (eP _ c))
 .simp at c;subst c;exact h9
 .rcases a5.1 c with c|c
  .exact ag b (by rw [C];exact ch.2 ⟨d,c,u⟩)
  .exact H.new d (eP _ c) b u
 .rw [dh,gM];refine ⟨C▸h7,L.2.1,λk Z ah hy af=>?_⟩;subst af;obtain ⟨d,c,j⟩:=ch.1 hy;rcases o k (by rw [C];exact Z) with e|e
  .exact F d c k j e
  .have:=T d c k j;omega
 .simp at c;subst c;have W:b∈J.a' y:=aT.1 u;rcases a5.1 n with n|n
  .exact ae b W (by rw [C];exact ch.2 ⟨B,n,j⟩)
  .rcases h b W with e|e|e
   .exact H.dj (.trees ts) (by simp) b (aT.2 e) B (eP _ n) j
   .exact F B n b j e
   .have:=T B n b j;omega
def _root_.Go.W.LH.O7 (H:LH M w0 w (A++G) [.trees ts]) {g:bJ} {args:Array ae} {K:aa} {Q:dA->Addr->List FX->FX->Int->Int->List J->Prop}
  (F:∀own,LH (·∈own) w w A [.trees ts]->ai U g args w (hG w own ts rb Q))
  (L:∀r n (j:O) (d:List FM) (e:FM) (h:Addr) (k q:Int) (c:List J),(∀t∈ts,t∈c)->(∀g∈d++[e],∀t∈g.ts,t∈c)->j.a=some h->(∀b∈J.a' c,b∈J.a' ts\/w0.heap.size<=b\/M b)->Q r (h.add (d.length *10)) (d.map FM.x) e.x k q c->SF M w0 n rb j k q d e G c->K r n)
  (E:∀b∈bs,En.g b∈G:=by simp):cU bs U g args w K:=by
 have y:=H.nd;rw [dh,gM] at y;refine ⟨(·∈A.flatMap (·.fp)),λb C N=>?_,(F _ (Ra H)).mono ?_⟩
 .exact y.2.2 b N b (ch.2 ⟨_,E b C,by simp [En.g]⟩) rfl
 .rintro r n ⟨T,Y,ab,k,q,Z,c,s,u,o,b,t,S⟩;obtain ⟨j,d,e,h,rfl,rfl,B,P,rfl,D,z⟩:=QY H s u o b;exact ⟨u,L r n j d e h k q c t B P D S z⟩
def Q' (H:LH M w0 w L [.trees ts]) (T:J) (e:T∈ts) (k:Int) (lo hi:UInt8):LH M w0 w L [.trees (ts++[.mk k lo hi T.s T.l])]:=by
 have h:J.Ps w ts:=H.getD 0;have j:=H.fo (.trees (ts++[.mk k lo hi T.s T.l])) (Fr.refl _ _) (J.hS λt c=>?_) λb n=>.inr (.inr ⟨.trees ts,by simp,?_⟩)
 .exact j.forget _ (by simp)
 .rcases a5.1 c with c|c
  .exact h.mem c
  .simp at c;subst c;unfold J.P;exact (h.mem e).parts
 .obtain ⟨t,c,d⟩:=J.bR.1 (aT.1 n);rcases a5.1 c with c|c
  .exact aT.2 (J.bR.2 ⟨t,c,d⟩)
  .simp at c;rw [c] at d;exact aT.2 (J.bR.2 ⟨T,e,J.fX.2 ((J.fX (t:=.mk k lo hi T.s T.l)).1 d)⟩)
def Ri {T:J} (h:T∈ts) {k:Int} {lo hi:UInt8} {b:Nat} (e:b∈J.a' (ts++[.mk k lo hi T.s T.l])):b∈J.a' ts:=by
 obtain ⟨t,c,d⟩:=J.bR.1 e;rcases a5.1 c with c|c
 .exact J.bR.2 ⟨t,c,d⟩
 .simp at c;rw [c] at d;exact J.bR.2 ⟨T,h,J.fX.2 ((J.fX (t:=.mk k lo hi T.s T.l)).1 d)⟩
def QZ (H:LH M w0 w L [.trees ts]) (T:J) (d:T∈ts):LH M w0 w L [.trees (ts++T.l)]:=by
 have h:J.Ps w ts:=H.getD 0;have j:=H.fo (.trees (ts++T.l)) (Fr.refl _ _) (J.hS λt c=>?_) λb k=>.inr (.inr ⟨.trees ts,by simp,?_⟩)
 .exact j.forget _ (by simp)
 .rcases a5.1 c with c|c
  .exact h.mem c
  .exact (h.mem d).parts.2.mem c
 .obtain ⟨t,c,e⟩:=J.bR.1 (aT.1 k);rcases a5.1 c with c|c
  .exact aT.2 (J.bR.2 ⟨t,c,e⟩)
  .exact aT.2 (J.bR.2 ⟨T,d,J.fX.2 (.inr (J.bR.2 ⟨t,c,e⟩))⟩)
def QH {T:J} (h:T∈ts) {b:Nat} (e:b∈J.a' (ts++T.l)):b∈J.a' ts:=by
 obtain ⟨t,c,d⟩:=J.bR.1 e;rcases a5.1 c with c|c
 .exact J.bR.2 ⟨t,c,d⟩
 .exact J.bR.2 ⟨T,h,J.fX.2 (.inr (J.bR.2 ⟨t,c,d⟩))⟩
end
def Oy {w:I} {rb:Nat} {c:O} {p:Addr} {n:Nat} (h:w.cell? ((aj rb).add 0)=some c.v) (q:c.n=n+1) (j:c.a=some p) (u:n<=1000000):ai U oh #[.pointer (some (aj rb))] w λr k=>r=V (.pointer (some (p.add (n *10))))/\ao w k:=by
 have e:ab .i64 (((c.n:Nat):Int) - 1)=(n:Int):=by rw [a4 _ (by omega)];omega
 have d:w.drew.cell? ((aj rb).add 0)=some c.v:=h;refine Dq.ok _ w _ (show _ from ⟨c,d,c,d,?_⟩);rw [e,j];exact ⟨by omega,by omega,rfl,Fr.drew _ _⟩
def lg (k:Int) (l:List Rx):Rx:=if k<0 then l.headD fg else .mk k 0 0 l
def NX {w:I} {rb:Nat} {d:O} {st A:Int} {e:List FM} {g f:FM} {ts:List J} {p:Addr} {own:List Nat}
  (H:LH (·∈own) w w [.c rb [d.v,.int .i64 st,.int .i64 A] vi,.row g8 10 d (((e++[g])++[f]).flatMap FM.c),.rows ((e++[g]).flatMap FM.rows)] [.trees ts])
  (h3:∀D∈e++[g],∀t∈D.ts,t∈ts) (j:d.a=some p) (hl:e.length<=999999) (T:J) (u:T∈ts) (hk:0<=f.k\/T.l≠[]):
  ai U ua #[.pointer (some (aj rb)),T.s.v] w (hG w own ts rb λr _ am au ap aw _=>r=V (.bool true)/\am=e.map FM.x/\au=h' g.x (lg f.k (J.ax T.l))/\ap=3/\aw=A):=by
 have hn:d.n=(e++[g]).length+1:=by have z:aS w g8 10 d (((e++[g])++[f]).flatMap FM.c):=H.get 1;have:=z.len;rw [n3] at this;simp at this ⊢;omega
 have az:1<=d.c:=by have z:aS w g8 10 d (((e++[g])++[f]).flatMap FM.c):=H.get 1;have:=z.cap;omega
 refine J4.ok _ _ w _ (H.call (Oy (H.ld 0 0) hn j (by simp;omega)) ?_);rintro _ w1 rfl H1;refine ⟨_,rfl,nn ⟨_,H1.gp 1 rfl j 0,?_⟩⟩;have E:=H1.drew;refine ⟨d,E.ld 0 0,d,E.ld 0 0,?_⟩;have ad:ab .i64 (((d.n:Nat):Int) - 1)=(((e++[g]).length:Nat):Int):=by rw [a4 _ (by simp at hn;omega)];omega
 rw [ad];have z:aS w g8 10 d (((e++[g])++[f]).flatMap FM.c):=H.get 1;have aA:=z.cap;refine ⟨by omega,by omega,?_⟩;have ev:Value.slice (if d.c=0 then d.a else d.a.map (·.add (0 *10))) ((ag (((e++[g]).length:Nat):Int)) - 0) (d.c - 0)=(⟨d.a,(e++[g]).length,d.c⟩:O).v:=by rw [af (by omega),j];show Value.slice (some (p.add 0)) _ _=Value.slice (some p) _ _;rw [hf];simp
 rw [ev];refine E.st 0 0 rfl λq H3=>?_;have al:aS q g8 10 d (((e++[g])++[f]).flatMap FM.c):=H3.get 1;have ac:=Sm al j (e++[g]).length (by omega);have et:(((e++[g])++[f]).flatMap FM.c).take ((e++[g]).length *10)=(e++[g]).flatMap FM.c:=by rw [dh,<-n3,List.take_left'];rfl
 rw [et] at ac;have H4:=H3.g9 1 (.row g8 10 ⟨d.a,(e++[g]).length,d.c⟩ ((e++[g]).flatMap FM.c)) rfl (Fr.refl _ _) ac λb y=>.inl y;have F:SF (·∈own) w q rb ⟨d.a,(e++[g]).length,d.c⟩ st A e g [] ts:=by show LH _ _ _ (_++[]) _;rw [fI];exact H4
 refine bE (λM=>?_) (λM=>?_)
 .have W:f.k<0:=ef M;have ak:T.l≠[]:=hk.resolve_left (by omega);obtain ⟨D,l,C⟩:=List.exists_cons_of_ne_nil ak;have hr:bL 4 q T.s (T.l.flatMap J.c):=((show J.Ps q ts from F.getD 0).mem u).parts.1;have ah:=J.cj hr;refine ⟨by omega,by rw [ah,C];simp,J.cY hr (i:=0) (t:=D) (by rw [C];rfl) λaB hq B=>⟨_,_,_,_,B.c0,B.c1,B.c2,B.c3,?_⟩⟩;have G:=QZ F T u;refine (show SF (·∈own) w q rb ⟨d.a,(e++[g]).length,d.c⟩ st A e g [] (ts++T.l) from G).wa (λaa Y t h=>cW _ (h3 aa Y t h)) j (λan Z=>zI Z (by simp;omega) D (by rw [C];simp)) ?_;rintro _ w4 ao ae f4 p4 ar ay av t4 N P L ⟨rfl,_,Q,S,rfl,rfl⟩ K;refine ⟨true,rfl,gP K N P (λb y=>(L b y).imp (QH u) id) (λt h=>t4 t (cW _ h)) ⟨rfl,Q,?_,rfl,rfl⟩⟩;rw [S,C];unfold lg;rw [aq W];rfl
 .have W:¬f.k<0:=gS M;have G:=Q' F T u f.k 0 0;refine (show SF (·∈own) w q rb ⟨d.a,(e++[g]).length,d.c⟩ st A e g [] (ts++[.mk f.k 0 0 T.s T.l]) from G).wa (λaa Y t h=>cW _ (h3 aa Y t h)) j (λan Z=>zI Z (by simp;omega) (.mk f.k 0 0 T.s T.l) (by simp)) ?_;rintro _ w4 ao ae f4 p4 ar ay av t4 N P L ⟨rfl,_,Q,S,rfl,rfl⟩ K;refine ⟨true,rfl,gP K N P (λb y=>(L b y).imp (Ri u) id) (λt h=>t4 t (cW _ h)) ⟨rfl,Q,?_,rfl,rfl⟩⟩;rw [S];unfold lg;rw [af W];rfl
def kB (s:SX) (l:List Rx):Option SX:=match s.lo.getLast? with
 |none=>none
 |some g=>some ⟨s.lo.dropLast,h' g (lg s.tp.k l),3,s.wd⟩
def E0 (s':O) (f:FX):FX:=⟨f.k,(s',f.ar.2++[eu f]),[],[],[],0,f.la⟩
def ft (s':O) (t:Tk) (s:SX):Option SX:=
 if s.st=2 then (if t.k=40 then some ⟨s.lo++[s.tp],ka s.wd,1,s.wd⟩ else none)
 else if s.st=1 then (if t.k=41 then kB s [] else fv t s)
 else if s.st=0 then fv t s
 else if t.k=42 then some ⟨s.lo,h' s.tp (.mk 7 0 0 [s.tp.la]),s.st,s.wd⟩
 else if t.k=38 then some ⟨s.lo,jJ s.tp,0,s.wd⟩
 else if t.k=124 then some ⟨s.lo,jI s.tp,0,s.wd⟩
 else if t.k=44 then (if s.tp.k<0 then none else some ⟨s.lo,E0 s' s.tp,0,s.wd⟩)
 else if t.k=41 then (if s.lo=[] then none else kB s (s.tp.ar.2++[eu s.tp]))
 else if t.k=36 then (if s.lo=[] then some s else none)
 else fv t ⟨s.lo,iI s.tp,s.st,s.wd⟩
section
variable {M:Nat->Prop} {w0 w1:I} {bs:List Nat} {G:List En} {rb:Nat} {sl:O} {st wd:Int} {fs:List FM} {f:FM} {ts:List J} {p:Addr}
abbrev EA (M:Nat->Prop) (w0 w:I) (rb:Nat) (sl:O) (st wd:Int) (fs:List FM) (f:FM) (d:List dK) (G:List En) (ts:List J):Prop:=LH M w0 w (SL rb sl st wd ((fs++[f]).flatMap FM.c) d++G) [.trees ts]
def Jf (H:SF M w0 w1 rb sl st wd fs f G ts) (i:Nat) {src:O} (hi:(SL rb sl st wd ((fs++[f]).flatMap FM.c) ((fs++[f]).flatMap FM.rows)++G)[i]? =some (.row aK 4 src z4)) (E:sl.a=some p) (d:Nat) (B:1<=d) (C:d<=4) (t:J) (Y:(f.aX d).2.length<=1000000) (ai:src.n=1) {K:I->Prop}
  (W:∀e q,SF M w0 q rb sl st wd fs (f.put d (e,(f.aX d).2++[t])) G ts->K q) (ac:∀b∈bs,En.g b∈G:=by simp):
  ∃(t15:O) (j:I),(bb #[cw,cw] cw #[(f.aX d).1.v,src.v]).run U w1=.ok (t15.v) j/\kept bs w1 j/\(0:Int)<=(((f.aX d).1.n:Nat):Int)/\(((f.aX d).1.n:Nat):Int)<((t15.n:Nat):Int)/\ct t15.a λh=>
   ((av j (h.add (ag (((f.aX d).1.n:Nat):Int) *4)) (.int .i64 t.k) λu=>kept bs j u/\av u ((h.add (ag (((f.aX d).1.n:Nat):Int) *4)).add 1) (.int .u8 (t.lo.toNat:Int)) λw=>kept bs u w/\av w ((h.add (ag (((f.aX d).1.n:Nat):Int) *4)).add 2) (.int .u8 (t.hi.toNat:Int)) λx=>kept bs w x/\av x ((h.add (ag (((f.aX d).1.n:Nat):Int) *4)).add 3) t.s.v λA=>kept bs x A/\av A ((p.add (fs.length *10)).add d) t15.v λab=>kept bs A ab/\K ab)/\
   (av j ((p.add (fs.length *10)).add d) t15.v λQ=>kept bs j Q/\av Q (h.add (ag (((f.aX d).1.n:Nat):Int) *4)) (.int .i64 t.k) λu=>kept bs Q u/\av u ((h.add (ag (((f.aX d).1.n:Nat):Int) *4)).add 1) (.int .u8 (t.lo.toNat:Int)) λw=>kept bs u w/\av w ((h.add (ag (((f.aX d).1.n:Nat):Int) *4)).add 2) (.int .u8 (t.hi.toNat:Int)) λx=>kept bs w x/\av x ((h.add (ag (((f.aX d).1.n:Nat):Int) *4)).add 3) t.s.v λA=>kept bs x A/\K A)):=by
 have aa:((fs++[f]).flatMap FM.rows)[fs.length *4+(d - 1)]? =some ((f.aX d).1,(f.aX d).2.flatMap J.c):=oE fs f (d - 1) _ (qU f B C);have nr:(f.aX d).1.n=(f.aX d).2.length:=by have E:(En.rows ((fs++[f]).flatMap FM.rows)).P w1:=H.get 2;exact J.cj (E.1 _ (aI aa)).bz
 have D:∀{L:List En},∀b∈bs,En.g b∈L++G:=λb Y=>eP _ (ac b Y);obtain ⟨e,j,h1,ad,h3⟩:=H.vK (bs:=bs) (ty:=cw) 2 (fs.length *4+(d - 1)) (src:=src) (news:=z4) (K:=λe q=>EA M w0 q rb sl st wd fs f (((fs++[f]).flatMap FM.rows).set (fs.length *4+(d - 1)) (e,(f.aX d).2.flatMap J.c++z4)) G ts/\e.n=(f.aX d).1.n+1/\∃h,e.a=some h) rfl aa (aS.bz (H.get i hi)) (by simp [Value.oneCell']) (by omega) (λe w4 H4 af ae=>⟨H4,by omega,by
  cases hs:e.a with
  |none=>have:=(ae hs).2;omega
  |some h=>exact ⟨h,rfl⟩⟩) D
 obtain ⟨S,ah,h,N⟩:=h3;refine ⟨e,j,h1,ad,by omega,by omega,?_⟩;rw [N];have Z:fs.length *4+(d - 1)<((fs++[f]).flatMap FM.rows).length:=by rw [pU];simp;omega
 have T:∀(f:FM) (t:J) (d:Nat),(f.aX d).2.flatMap J.c++t.c=((f.aX d).2++[t]).flatMap J.c:=λf t d=>by simp
 rw [nr];refine ⟨?_,?_⟩
 .refine LH.rO (bs:=bs) S 2 (fs.length *4+(d - 1)) (f.aX d).2.length t rfl (hU Z) N (J.gl _) (λq y=>?_) D;have y:EA M w0 q rb sl st wd fs f ((((fs++[f]).flatMap FM.rows).set (fs.length *4+(d - 1)) (e,(f.aX d).2.flatMap J.c++z4)).set (fs.length *4+(d - 1)) (e,(f.aX d).2.flatMap J.c++t.c)) G ts:=y;rw [List.set_set,T,ri fs f (e,(f.aX d).2++[t]) B C] at y;exact y.hY (bs:=bs) (f:=f) 1 (f.put d (e,(f.aX d).2++[t])) d rfl E (by omega) (uw f (e,(f.aX d).2++[t]) B C) (λF z=>W e F z) D
 .refine S.hY (bs:=bs) (f:=f) 1 (f.put d (e,(f.aX d).2++[t])) d rfl E (by omega) (uw f (e,(f.aX d).2++[t]) B C) (λq y=>?_) D;refine LH.rO (bs:=bs) (L:=SL rb sl st wd ((fs++[f.put d (e,(f.aX d).2++[t])]).flatMap FM.c) (((fs++[f]).flatMap FM.rows).set (fs.length *4+(d - 1)) (e,(f.aX d).2.flatMap J.c++z4))++G) y 2 (fs.length *4+(d - 1)) (f.aX d).2.length t rfl (hU Z) N (J.gl _) (λF z=>?_) D;have z:LH M w0 F (SL rb sl st wd ((fs++[f.put d (e,(f.aX d).2++[t])]).flatMap FM.c) ((((fs++[f]).flatMap FM.rows).set (fs.length *4+(d - 1)) (e,(f.aX d).2.flatMap J.c++z4)).set (fs.length *4+(d - 1)) (e,(f.aX d).2.flatMap J.c++t.c))++G) [.trees ts]:=z;rw [List.set_set,T,ri fs f (e,(f.aX d).2++[t]) B C] at z;exact W e F z
end
def pG {α:Type} (l:List α):l=[]\/∃a d,l=a++[d]:=by
 rcases List.eq_nil_or_concat l with c|⟨a,d,c⟩
 .exact .inl c
 .exact .inr ⟨a,d,by rw [c,List.concat_eq_append]⟩
def F4 (lo:List FX) (g c:FX) (st d:Int) (l:List Rx):kB ⟨lo++[g],c,st,d⟩ l=some ⟨lo,h' g (lg c.k l),3,d⟩:=by unfold kB;simp
def qw (t:Tk) (S:SX):dA->Addr->List FX->FX->Int->Int->List J->Prop:=λr c lo e st j h=>∃d,vE (ft d t S) r c lo e st j h
def NZ {w:I} {rb:Nat} {f0:Addr} {lo:List FX} {tp:FX} {st y:Int} {own:List Nat} {ts:List J} (D:St w rb f0 lo tp st y own ts) (hl:lo.length<=999999) (hs:Small tp 999999) (h1:st=1->0<=tp.k/\lo≠[]) (t:Tk):
  ai U B1 #[.pointer (some (aj rb)),t.v] w (hG w own ts rb (qw t ⟨lo,tp,st,y⟩)):=by
 obtain ⟨sl,h,f,p,rfl,rfl,M,C,rfl,bw⟩:=x8 D;have bp:h.length<=999999:=by simpa using hl
 have bQ:f.n<=999999:=hs.n';have ag:Small f.x 1000000:=⟨by have:=hs.n';omega,by have:=hs.ar;omega,by have:=hs.al;omega,by have:=hs.an;omega,by have:=hs.ca;omega⟩;have base:∀b∈J.a' ts,b∈J.a' ts\/w.heap.size<=b\/b∈own:=λb hb=>.inl hb
 let ad:O:=⟨none,0,0⟩
 refine uG.aD _ _ _ _ _ _ w _ (bw.aL (bs:=[]) (λj w1 H1=>?_) (by simp));have H1:SF (·∈own) w w1 rb sl st y h f [.g j] ts:=H1;refine H1.aA (vZ H1 C (by omega)) ?_;rintro _ w2 rfl A;have A:SF (·∈own) w w2 rb sl st y h f [.g j] ts:=A;refine ⟨_,rfl,st,A.ld 0 1,?_⟩;have item:∀{w2:I} {aC:O} {be bf:Int} {ae:List FM} {f2:FM} {ak:List J} {p2:Addr},SF (·∈own) w w2 rb aC be bf ae f2 [.g j] ak->(∀g∈ae++[f2],∀t∈g.ts,t∈ak)->aC.a=some p2->(∀b∈J.a' ak,b∈J.a' ts\/w.heap.size<=b\/b∈own)->(∀t∈ts,t∈ak)->ae.length<=1000000->f2.n<=1000000->
   ft ad t ⟨h.map FM.x,f.x,st,y⟩=fv t ⟨ae.map FM.x,f2.x,be,bf⟩->cU [j] U rE #[.pointer (some (aj rb)),t.v] w2 λr_ w5=>∃t34:Bool,r_=V (.bool t34)/\hG w own ts rb (qw t ⟨h.map FM.x,f.x,st,y⟩) (V (.bool t34)) w5:=by
  intro w2 aC be bf ae f2 ak p2 A a6 a8 ba aZ bb bS he;refine A.kC (bs:=[j]) a6 a8 (λaz s1=>N9 s1 (by simpa using bb) bS t) ?_ (by simp);rintro r w3 aa Q d p3 ah ab N t3 E B Y bV H4;have hb:∀b∈J.a' N,b∈J.a' ts\/w.heap.size<=b\/b∈own:=λb hb=>(Y b hb).elim (ba b) .inr;rcases bV with ⟨hn,rfl⟩|⟨bW,rfl⟩
  .exact ⟨false,rfl,gP H4 E B hb (λt ht=>t3 t (aZ t ht)) ⟨ad,.inl ⟨he.trans hn,rfl⟩⟩⟩
  .exact ⟨true,rfl,gP H4 E B hb (λt ht=>t3 t (aZ t ht)) ⟨ad,.inr ⟨he.trans bW,rfl⟩⟩⟩
 have close:∀{w2:I} {aC:O} {ae:List FM} {g2 f2:FM} {ak:List J} {p2:Addr} {s':O} (T:J),LH (·∈own) w w2 ([.c rb [aC.v,.int .i64 st,.int .i64 y] vi,.row g8 10 aC (((ae++[g2])++[f2]).flatMap FM.c),.rows ((ae++[g2]).flatMap FM.rows)]++[.g j]) [.trees ak]->(∀ac∈ae++[g2],∀t∈ac.ts,t∈ak)->aC.a=some p2->ae.length<=999999->T∈ak->(0<=f2.k\/T.l≠[])->(∀b∈J.a' ak,b∈J.a' ts\/w.heap.size<=b\/b∈own)->(∀t∈ts,t∈ak)->
   ft s' t ⟨h.map FM.x,f.x,st,y⟩=some ⟨ae.map FM.x,h' g2.x (lg f2.k (J.ax T.l)),3,y⟩->cU [j] U ua #[.pointer (some (aj rb)),T.s.v] w2 λr_ w5=>∃t34:Bool,r_=V (.bool t34)/\hG w own ts rb (qw t ⟨h.map FM.x,f.x,st,y⟩) (V (.bool t34)) w5:=by intro w2 aC ae g2 f2 ak p2 s' T A a6 a8 bb hT F ba aZ he;refine LH.O7 (rb:=rb) (bs:=[j]) A (λaz HA=>NX HA a6 a8 bb T hT F) ?_ (by simp);rintro r w3 aa Q d p3 ah ab N t3 E B Y ⟨rfl,S,z,rfl,rfl⟩ H4;refine ⟨true,rfl,gP H4 E B (λb hb=>(Y b hb).elim (ba b) .inr) (λt ht=>t3 t (aZ t ht)) ⟨s',.inr ⟨?_,rfl⟩⟩⟩;rw [S,z];exact he
 refine bE (λaH=>?_) (λaH=>?_)
 .have aH:st=2:=eq_of_beq aH;refine iX (n:=40) (by omega) (λF:t.k=40=>⟨y,A.ld 0 2,?_⟩) (λF:t.k≠40=>?_)
  .refine A.kC (bs:=[j]) M C (λaz s1=>FE s1 (by simp;omega) y 1) ?_ (by simp);rintro _ w3 aa Q d p3 ah ab N t3 E B Y ⟨rfl,S,z,rfl,rfl⟩ H4;refine ⟨true,rfl,gP H4 E B Y t3 ⟨ad,.inr ⟨?_,rfl⟩⟩⟩;rw [S,z];unfold ft;exact (aq aH).trans (aq F)
  .refine gP A M C base (λ_ D=>D) ⟨ad,.inl ⟨?_,rfl⟩⟩;unfold ft;exact (aq aH).trans (af F)
 have n2:st≠2:=λZ=>by rw [Z] at aH;exact absurd aH (by decide)
 refine bE (λav=>?_) (λav=>?_)
 .have av:st=1:=eq_of_beq av;obtain ⟨bO,bT⟩:=h1 av;refine iX (n:=41) (by omega) (λF:t.k=41=>?_) (λF:t.k≠41=>?_)
  .rcases pG h with rfl|⟨ap,g,rfl⟩
   .exact absurd rfl bT
   have H3:=DI A 3 0 0;have er:(((ap++[g])++[f]).flatMap FM.rows)=(ap++[g]).flatMap FM.rows++f.rows:=by rw [dh (xs:=ap++[g])];simp
   have H4:LH (·∈own) w w2 (SL rb sl st y (((ap++[g])++[f]).flatMap FM.c) ((ap++[g]).flatMap FM.rows++f.rows)++[.g j]) [.trees (ts++[.mk 3 0 0 ⟨none,0,0⟩ []])]:=by rw [<-er];exact H3
   have H5:=Kk H4 2 rfl;refine close (s':=ad) (.mk 3 0 0 ⟨none,0,0⟩ []) H5 (λac hx u q=>cW _ (M ac (cW _ hx) u q)) C (by simp at bp;omega) (by simp) (.inl bO) (λb hb=>.inl (wM hb)) (λu q=>cW _ q) ?_;unfold ft;refine (af n2).trans ((aq av).trans ((aq F).trans ?_));rw [ke];exact F4 _ _ _ _ _ _
  .refine item A M C base (λ_ D=>D) (by omega) (by omega) ?_;unfold ft;exact (af n2).trans ((aq av).trans (af F))
 have n1:st≠1:=λZ=>by rw [Z] at av;exact absurd av (by decide)
 refine bE (λaM=>?_) (λaM=>?_)
 .have aM:st=0:=eq_of_beq aM;refine item A M C base (λ_ D=>D) (by omega) (by omega) ?_;unfold ft;exact (af n2).trans ((af n1).trans (aq aM))
 have n0:st≠0:=λZ=>by rw [Z] at aM;exact absurd aM (by decide)
 have fe:∀s':O,ft s' t ⟨h.map FM.x,f.x,st,y⟩=(if t.k=42 then some ⟨h.map FM.x,h' f.x (.mk 7 0 0 [f.x.la]),st,y⟩
   else if t.k=38 then some ⟨h.map FM.x,jJ f.x,0,y⟩
   else if t.k=124 then some ⟨h.map FM.x,jI f.x,0,y⟩
   else if t.k=44 then (if f.x.k<0 then none else some ⟨h.map FM.x,E0 s' f.x,0,y⟩)
   else if t.k=41 then (if h.map FM.x=[] then none else kB ⟨h.map FM.x,f.x,st,y⟩ (f.x.ar.2++[eu f.x]))
   else if t.k=36 then (if h.map FM.x=[] then some ⟨h.map FM.x,f.x,st,y⟩ else none)
   else fv t ⟨h.map FM.x,iI f.x,st,y⟩):=λs'=>by unfold ft;exact (af n2).trans ((af n1).trans (af n0))
 refine iX (n:=42) (by omega) (λF:t.k=42=>?_) (λao:t.k≠42=>iX (n:=38) (by omega) (λF:t.k=38=>?_) (λaw:t.k≠38=>iX (n:=124) (by omega) (λF:t.k=124=>?_) (λaJ:t.k≠124=>iX (n:=44) (by omega) (λF:t.k=44=>?_) (λaR:t.k≠44=>iX (n:=41) (by omega) (λF:t.k=41=>?_) (λbc:t.k≠41=>iX (n:=36) (by omega) (λF:t.k=36=>?_) (λbY:t.k≠36=>?_))))))
 .obtain ⟨c0,c1,c2,c3⟩:=A.H6 1 rfl C;refine nn ⟨_,_,_,_,c0,c1,c2,c3,?_⟩;refine A.eb (e:=aK) (sz:=4) (n:=1) (cs:=f.la.c) rfl (by decide) λw7 H7=>nn ?_;have bI:((p.add (h.length *10)).add 6).add 1=(p.add (h.length *10)).add 7:=add_add _ 6 1;have bJ:((p.add (h.length *10)).add 6).add 2=(p.add (h.length *10)).add 8:=add_add _ 6 2;have a3:((p.add (h.length *10)).add 6).add 3=(p.add (h.length *10)).add 9:=add_add _ 6 3;rw [bI,bJ,a3];refine H7.hY (bs:=[j]) (f:=f) 1 ⟨f.k,f.ar,f.al,f.an,f.ca,f.n,.mk 7 f.la.lo f.la.hi f.la.s f.la.l⟩ 6 rfl C (by omega) rfl (λw8 H8=>?_) (by simp);refine H8.hY (bs:=[j]) (f:=⟨f.k,f.ar,f.al,f.an,f.ca,f.n,.mk 7 f.la.lo f.la.hi f.la.s f.la.l⟩) 1 ⟨f.k,f.ar,f.al,f.an,f.ca,f.n,.mk 7 0 f.la.hi f.la.s f.la.l⟩ 7 rfl C (by omega) rfl (λw9 H9=>?_) (by simp);refine H9.hY (bs:=[j]) (f:=⟨f.k,f.ar,f.al,f.an,f.ca,f.n,.mk 7 0 f.la.hi f.la.s f.la.l⟩) 1 ⟨f.k,f.ar,f.al,f.an,f.ca,f.n,.mk 7 0 0 f.la.s f.la.l⟩ 8 rfl C (by omega) rfl (λb7 bx=>?_) (by simp);refine bx.hY (bs:=[j]) (f:=⟨f.k,f.ar,f.al,f.an,f.ca,f.n,.mk 7 0 0 f.la.s f.la.l⟩) 1 ⟨f.k,f.ar,f.al,f.an,f.ca,f.n,.mk 7 0 0 ⟨some (aj w2.heap.size),1,1⟩ [f.la]⟩ 9 rfl C (by omega) rfl (λbt bg=>?_) (by simp);have bq:f.la∈ts:=M f (by simp) _ (by simp [FM.ts]);have bA:=bg.freeze 4 (J.row ⟨some (aj w2.heap.size),1,1⟩ [f.la]) rfl (by show bL 4 bt _ ([f.la].flatMap J.c);rw [show [f.la].flatMap J.c=f.la.c by simp];exact aS.bz (bg.get 4)) (λb hb=>gb (e:=aK) (vs:=[f.la].flatMap J.c) hb);have bB:=bA.node 0 7 0 0 (s:=⟨some (aj w2.heap.size),1,1⟩) (ks:=[f.la]) rfl (by simp) (λt ht=>by simp at ht;subst ht;exact bq);have er:(h++[f]).flatMap FM.rows=(h++[(⟨f.k,f.ar,f.al,f.an,f.ca,f.n,.mk 7 0 0 ⟨some (aj w2.heap.size),1,1⟩ [f.la]⟩:FM)]).flatMap FM.rows:=by simp [FM.rows]
  have bC:SF (·∈own) w bt rb sl st y h ⟨f.k,f.ar,f.al,f.an,f.ca,f.n,.mk 7 0 0 ⟨some (aj w2.heap.size),1,1⟩ [f.la]⟩ [.g j] (ts++[.mk 7 0 0 ⟨some (aj w2.heap.size),1,1⟩ [f.la]]):=by show LH _ _ _ (SL rb sl st y _ ((h++[(⟨f.k,f.ar,f.al,f.an,f.ca,f.n,.mk 7 0 0 ⟨some (aj w2.heap.size),1,1⟩ [f.la]⟩:FM)]).flatMap FM.rows)++_) _;rw [<-er];exact bB
  refine gP bC (λg hg u q=>?_) C (λb hb=>?_) (λu q=>cW _ q) ⟨ad,.inr ⟨?_,rfl⟩⟩
  .rcases a5.1 hg with hg|hg
   .exact cW _ (M g (by simp [hg]) u q)
   .simp at hg;subst hg;simp only [FM.ts,a5,aB,a1,a7] at q;rcases q with (((q|q)|q)|q)|rfl
    .exact cW _ (M f (by simp) u (by simp [FM.ts,q]))
    .exact cW _ (M f (by simp) u (by simp [FM.ts,q]))
    .exact cW _ (M f (by simp) u (by simp [FM.ts,q]))
    .exact cW _ (M f (by simp) u (by simp [FM.ts,q]))
    .simp
  .obtain ⟨u,q,aF⟩:=J.bR.1 hb;rcases a5.1 q with q|q
   .exact .inl (J.bR.2 ⟨u,q,aF⟩)
   .simp at q;rw [q] at aF;rcases J.fX.1 aF with aF|aF
    .have:=gb (e:=aK) aF;simp [En.row,ay,J.s] at this;subst this;exact .inr (.inl A.fr.size)
    .obtain ⟨t',am,aV⟩:=J.bR.1 aF;simp [J.l] at am;rw [am] at aV;exact .inl (J.bR.2 ⟨f.la,bq,aV⟩)
  .rw [fe,aq F];rfl
 .refine A.kC (bs:=[j]) M C (λaz s1=>vO (Fu s1 ag.n' ag.ca ag.an)) ?_ (by simp);rintro _ w3 aa Q d p3 ah ab N t3 E B Y ⟨rfl,bm,S,z,rfl,rfl⟩ H3;refine ⟨rfl,H3.r1 (bs:=[j]) 0 1 rfl (λw4 H4=>?_) (by simp) (by simp)⟩;refine gP (show SF (·∈own) w w4 rb aa 0 ab Q d [.g j] N from H4) E B Y t3 ⟨ad,.inr ⟨?_,rfl⟩⟩;rw [fe,af ao,aq F,S,z]
 .refine A.kC (bs:=[j]) M C (λaz s1=>vO (Fs s1 ag.n' ag.ca ag.an ag.al)) ?_ (by simp);rintro _ w3 aa Q d p3 ah ab N t3 E B Y ⟨rfl,bm,S,z,rfl,rfl⟩ H3;refine ⟨rfl,H3.r1 (bs:=[j]) 0 1 rfl (λw4 H4=>?_) (by simp) (by simp)⟩;refine gP (show SF (·∈own) w w4 rb aa 0 ab Q d [.g j] N from H4) E B Y t3 ⟨ad,.inr ⟨?_,rfl⟩⟩;rw [fe,af ao,af aw,aq F,S,z]
 .refine nn ⟨f.k,A.gp 1 rfl C 0,bE (λh0=>?_) (λh0=>?_)⟩
  .refine gP A M C base (λ_ D=>D) ⟨ad,.inl ⟨?_,rfl⟩⟩;rw [fe,af ao,af aw,af aJ,aq F];exact aq (ef h0)
  have fin:∀{w5:I} {aa:O} {Q:List FM} {d:FM} {p3:Addr} {N:List J} {s':O} {u:J} {G:List En},SF (·∈own) w w5 rb aa st y Q (d.put 1 (s',(d.aX 1).2++[u])) G N->(∀g∈Q++[d],∀t∈g.ts,t∈N)->aa.a=some p3->(∀b∈J.a' N,b∈J.a' ts\/w.heap.size<=b\/b∈own)->(∀t∈ts,t∈N)->Q.map FM.x=h.map FM.x->d.x=Ap f.x->u∈N->u.rx=eu f.x->
    uG.a2 (aj rb) w5 (hG w own ts rb (qw t ⟨h.map FM.x,f.x,st,y⟩)):=by
   intro w5 aa Q d p3 N s' u G H5 E B bK bX S z q hx;refine H5.st 0 1 rfl λw6 bH=>?_;refine gP (show SF (·∈own) w w6 rb aa 0 y Q (d.put 1 (s',(d.aX 1).2++[u])) G N from bH) (λg hg v W=>?_) B bK bX ⟨s',.inr ⟨?_,rfl⟩⟩
   .rcases a5.1 hg with hg|hg
    .exact E g (by simp [hg]) v W
    .simp at hg;subst hg;rcases ye _ _ (by omega) (by omega) W with D|D
     .exact E d (by simp) v D
     .rcases a5.1 D with D|D
      .exact E d (by simp) v (mZ d 1 D)
      .simp at D;subst D;exact q
   .have e1:d.k=f.k:=by have:=congrArg FX.k z;exact this
    have e2:J.ax d.ar.2=J.ax f.ar.2:=by have:=congrArg (λac:FX=>ac.ar.2) z;exact this
    have e3:J.ax d.al.2=[]:=by have:=congrArg FX.al z;exact this
    have e4:J.ax d.an.2=[]:=by have:=congrArg FX.an z;exact this
    have e5:J.ax d.ca.2=[]:=by have:=congrArg FX.ca z;exact this
    have e6:d.n=0:=by have:=congrArg FX.n z;exact this
    have e7:d.la.rx=f.x.la:=by have:=congrArg FX.la z;exact this
    rw [fe,af ao,af aw,af aJ,aq F];refine (af (gS h0)).trans ?_;show some (SX.mk _ ⟨_,(s',J.ax f.ar.2++[eu f.x]),[],[],[],0,f.x.la⟩ 0 y)=some (SX.mk (Q.map FM.x) ⟨d.k,(s',J.ax (d.ar.2++[u])),J.ax d.al.2,J.ax d.an.2,J.ax d.ca.2,d.n,d.la.rx⟩ 0 y);rw [S,e1,e3,e4,e5,e6,e7,jm,e2];show some (SX.mk _ ⟨_,(s',J.ax f.ar.2++[eu f.x]),[],[],[],0,f.x.la⟩ 0 y)=some (SX.mk _ ⟨_,(s',J.ax f.ar.2++[u.rx]),[],[],[],0,f.x.la⟩ 0 y);rw [hx];rfl
  refine nn (A.au (bs:=[j]) (λbu a4=>⟨f.ar.1,a4.gp 1 rfl C 1,?_,?_⟩) (by simp))
  .refine (show SF (·∈own) w bu rb sl st y h f [.g j] ts from a4).kC (bs:=[j]) M C (λaz s1=>vV s1 ag) ?_ (by simp);rintro r bv aa Q d p3 ah ab N t3 E B Y ⟨aP,S,z,rfl,rfl,u,q,rfl,hx⟩ aN;have aO:d.ar.1=f.ar.1:=by have:=congrArg (λac:FX=>ac.ar.1) z;exact this
   refine ⟨u.k,u.lo.toNat,u.hi.toNat,u.s,rfl,?_⟩;rw [<-aP,<-aO];refine ⟨aN.gp 1 rfl B 1,aN.eb (e:=aK) (sz:=4) (n:=1) (cs:=z4) rfl (by decide) λbZ bh=>⟨bh.gp 1 rfl B 1,?_⟩⟩;have aY:(d.aX 1).2.length<=1000000:=by have Z:d.x.ar.2.length=d.ar.2.length:=(AM d).1;rw [z] at Z;have:f.x.ar.2.length<=999999:=hs.ar;show d.ar.2.length<=_;rw [<-Z];show f.x.ar.2.length<=_;omega
   exact Jf (bs:=[j]) (K:=λw5=>uG.a2 (aj rb) w5 (hG w own ts rb (qw t ⟨h.map FM.x,f.x,ah,ab⟩))) (show SF (·∈own) w bZ rb aa ah ab Q d ([.g j]++[.row aK 4 ⟨some (aj bv.heap.size),1,1⟩ z4]) N from bh) 4 rfl B 1 (by omega) (by omega) u aY rfl (λs' w5 H5=>fin H5 E B Y t3 S z q hx) (by simp)
  .refine a4.eb (e:=aK) (sz:=4) (n:=1) (cs:=z4) rfl (by decide) λb0 bi=>⟨bi.gp 1 rfl C 1,?_⟩;refine (show SF (·∈own) w b0 rb sl st y h f ([.g j]++[.row aK 4 ⟨some (aj bu.heap.size),1,1⟩ z4]) ts from bi).kC (bs:=[j]) M C (λaz s1=>vV s1 ag) ?_ (by simp);rintro r bv aa Q d p3 ah ab N t3 E B Y ⟨aP,S,z,rfl,rfl,u,q,rfl,hx⟩ aN;have aO:d.ar.1=f.ar.1:=by have:=congrArg (λac:FX=>ac.ar.1) z;exact this
   refine ⟨u.k,u.lo.toNat,u.hi.toNat,u.s,rfl,?_⟩;rw [<-aP,<-aO];refine ⟨aN.gp 1 rfl B 1,?_⟩;have aY:(d.aX 1).2.length<=1000000:=by have Z:d.x.ar.2.length=d.ar.2.length:=(AM d).1;rw [z] at Z;have:f.x.ar.2.length<=999999:=hs.ar;show d.ar.2.length<=_;rw [<-Z];show f.x.ar.2.length<=_;omega
   exact Jf (bs:=[j]) (K:=λw5=>uG.a2 (aj rb) w5 (hG w own ts rb (qw t ⟨h.map FM.x,f.x,ah,ab⟩))) aN 4 rfl B 1 (by omega) (by omega) u aY rfl (λs' w5 H5=>fin H5 E B Y t3 S z q hx) (by simp)
 .refine A.au (bs:=[j]) (λb1 aE=>⟨sl,aE.ld 0 0,?_⟩) (by simp);have aE:SF (·∈own) w b1 rb sl st y h f [.g j] ts:=aE;have aQ:=yv aE;rcases pG h with rfl|⟨ap,g,rfl⟩
  .refine a9 (a0 (by rw [aQ];simp)) ?_;refine gP aE M C base (λ_ D=>D) ⟨ad,.inl ⟨?_,rfl⟩⟩;rw [fe,af ao,af aw,af aJ,af aR,aq F];rfl
  .refine bd (aW (by rw [aQ];simp;omega)) (nn ⟨f.ar.1,aE.gp 1 rfl C 1,?_⟩);refine aE.kC (bs:=[j]) M C (λaz s1=>vV s1 ag) ?_ (by simp);rintro r b2 aa Q d p3 ah ab N t3 E B Y ⟨aP,S,z,rfl,rfl,u,q,rfl,hx⟩ bj;have aO:d.ar.1=f.ar.1:=by have:=congrArg (λac:FX=>ac.ar.1) z;exact this
   refine ⟨u.k,u.lo.toNat,u.hi.toNat,u.s,rfl,?_⟩;rw [<-aP,<-aO];refine ⟨bj.gp 1 rfl B 1,bj.eb (e:=aK) (sz:=4) (n:=1) (cs:=u.c) rfl (by decide) λb4 aU=>⟨aU.gp 1 rfl B 1,?_⟩⟩;have bM:∃H L,Q=H++[L]/\H.map FM.x=ap.map FM.x/\L.x=g.x:=by
    rcases pG Q with rfl|⟨H,L,rfl⟩
    .simp at S
    .refine ⟨H,L,rfl,?_⟩;rw [ke,ke] at S;have:=List.append_inj' S rfl;exact ⟨this.1,by simpa using this.2⟩
   obtain ⟨H,L,rfl,bn,bN⟩:=bM;have br:(((H++[L])++[d]).flatMap FM.rows)[(H++[L]).length *4+0]? =some (d.ar.1,d.ar.2.flatMap J.c):=oE (H++[L]) d 0 _ rfl;have aY:d.ar.2.length<=999999:=by have Z:d.x.ar.2.length=d.ar.2.length:=(AM d).1;rw [z] at Z;have:f.x.ar.2.length<=999999:=hs.ar;rw [<-Z];exact this
   have nr:d.ar.1.n=d.ar.2.length:=by have hp:(En.rows (((H++[L])++[d]).flatMap FM.rows)).P b4:=aU.get 2;exact J.cj (hp.1 _ (aI br)).bz
   refine aU.vK (bs:=[j]) 2 ((H++[L]).length *4+0) (src:=⟨some (aj b2.heap.size),1,1⟩) (news:=u.c) rfl br (aS.bz (aU.get 4)) (by simp [Value.oneCell',J.c]) (by show (d.ar.1.n+1) *40<=_;omega) (λs' b5 bk bQ b6=>?_) (by simp);have bo:(H++[L]).length *4+0<(((H++[L])++[d]).flatMap FM.rows).length:=by rw [pU];simp
   have bU:∀b∈ay s',b∈own\/w.heap.size<=b:=λb hb=>(bk.new (.rows ((((H++[L])++[d]).flatMap FM.rows).set ((H++[L]).length *4+0) (s',d.ar.2.flatMap J.c++u.c))) (by simp) b (aT.2 (ch.2 ⟨_,aI (hU bo),hb⟩))).symm;have bl:=bk.AP 2 ((H++[L]).length *4+0) rfl (hU bo);have ec:d.ar.2.flatMap J.c++u.c=(d.ar.2++[u]).flatMap J.c:=by simp
   rw [ec] at bl;have bD:=bl.node 0 3 0 0 (s:=s') (ks:=d.ar.2++[u]) rfl (eP _ (List.mem_singleton.2 rfl)) (λv W=>by
    rcases a5.1 W with W|W
    .exact E d (by simp) v (mZ d 1 W)
    .simp at W;subst W;exact q)
   have er:(((((H++[L])++[d]).flatMap FM.rows).set ((H++[L]).length *4+0) (s',(d.ar.2++[u]).flatMap J.c)).set ((H++[L]).length *4+0) (⟨none,0,0⟩,[]))=(H++[L]).flatMap FM.rows++d.rows.set 0 (⟨none,0,0⟩,[]):=by rw [List.set_set];exact Dy (H++[L]) d 0 _ (by omega)
   have bF:LH (·∈own) w b5 (SL rb aa ah ab (((H++[L])++[d]).flatMap FM.c) ((H++[L]).flatMap FM.rows++d.rows.set 0 (⟨none,0,0⟩,[]))++[.g j]) [.trees (N++[.mk 3 0 0 s' (d.ar.2++[u])])]:=by rw [<-er];exact bD.take 4
   have bG:=Kk bF 2 rfl;have bP:d.k=f.k:=by have:=congrArg FX.k z;exact this
   refine close (s':=ad) (.mk 3 0 0 s' (d.ar.2++[u])) bG (λac hx v W=>cW _ (E ac (cW _ hx) v W)) B ?_ (by simp) (.inr (by simp [J.l])) ?_ (λv W=>cW _ (t3 v W)) ?_
   .have:=congrArg List.length bn;simp at this bp;omega
   .intro b hb;obtain ⟨v,W,aG⟩:=J.bR.1 hb;rcases a5.1 W with W|W
    .exact Y b (J.bR.2 ⟨v,W,aG⟩)
    .simp at W;rw [W] at aG;rcases J.fX.1 aG with aG|aG
     .exact .inr (bU b (gb (e:=aK) aG)).symm
     .obtain ⟨t',am,aV⟩:=J.bR.1 aG;have am:t'∈d.ar.2++[u]:=am;refine Y b (J.bR.2 ⟨t',?_,aV⟩);rcases a5.1 am with am|am
      .exact E d (by simp) t' (mZ d 1 am)
      .simp at am;subst am;exact q
   .rw [fe,af ao,af aw,af aJ,af aR,aq F];refine (af (by simp)).trans ?_;rw [ke];refine (F4 _ _ _ _ _ _).trans ?_;have e2:J.ax d.ar.2=f.x.ar.2:=by have:=congrArg (λac:FX=>ac.ar.2) z;exact this
    rw [bn,bN,bP];show _=some (SX.mk _ (h' g.x (lg f.k (J.ax (d.ar.2++[u])))) 3 ab);rw [jm,e2];show _=some (SX.mk _ (h' g.x (lg f.k (f.x.ar.2++[u.rx]))) 3 ab);rw [hx];rfl
 .refine ⟨sl,A.ld 0 0,?_⟩;have aQ:=yv A;rcases pG h with rfl|⟨ap,g,rfl⟩
  .have Z:(((sl.n:Nat):Int)==1)=true:=by rw [aQ];rfl
   rw [Z];refine gP A M C base (λ_ D=>D) ⟨ad,.inr ⟨?_,rfl⟩⟩;rw [fe,af ao,af aw,af aJ,af aR,af bc,aq F];rfl
  .have Z:(((sl.n:Nat):Int)==1)=false:=by rw [aQ];simp;omega
   rw [Z];refine gP A M C base (λ_ D=>D) ⟨ad,.inl ⟨?_,rfl⟩⟩;rw [fe,af ao,af aw,af aJ,af aR,af bc,aq F];exact af (by simp)
 .refine A.kC (bs:=[j]) M C (λaz s1=>vO (Ft s1 ag.n' ag.ca)) ?_ (by simp);rintro _ w3 aa Q d p3 ah ab N t3 E B Y ⟨rfl,bm,S,z,rfl,rfl⟩ H3;refine ⟨rfl,item H3 E B Y t3 ?_ ?_ ?_⟩
  .have:=congrArg List.length S;simp at this;omega
  .have e5:d.n=0:=by have:=congrArg FX.n z;exact this
   omega
  .rw [fe,af ao,af aw,af aJ,af aR,af bc,af bY,S,z]
def TT (s:ByteArray) (c:UInt8) (w:I):a6 U (callFunc xo #[.string s,.int .u8 (c.toNat:Int)]) w=.ok (.value (.int .i64 (Go.Lib.indexByte (bl s) c))) w:=by have d:=run_callFunc_indexByte (P:=U) (f:=xo) (fn:=(Tryz.prog.funcs[xo]?).getD default) (by kernel_rfl) (by kernel_rfl) (by kernel_rfl) (by kernel_rfl) (by kernel_rfl) #[.string s,.int .u8 (c.toNat:Int)] w;rw [d,Go.Lib.run_indexByteString];show Result.ok _ w=_;congr 4;simp
def DD (s:ByteArray) (c:UInt8) (w:I):ai U ue #[.string s,.int .u8 (c.toNat:Int)] w λr d=>r=V (.int .i64 (Go.Lib.indexByte (bl s) c))/\ao w d:=by
 refine K7.ok _ _ w _ ?_;refine (show ai U BU #[.string s,.int .u8 (c.toNat:Int)] w λr d=>r=V (.int .i64 (Go.Lib.indexByte (bl s) c))/\w=d from ?_).mono ?_
 .exact HR.ok _ _ w _ ⟨_,w,TT s c w,rfl,rfl⟩
 .rintro r e ⟨rfl,rfl⟩;exact ⟨_,rfl,rfl,Fr.refl _ _⟩
def jo (c:UInt8):Bool:=ah (97<=c.toNat)&&ah (c.toNat<=122)
def rN (c:UInt8):Bool:=ah (32<=c.toNat)&&(ah (c.toNat<=126)&&(!decide (c=39)&&!decide (c=92)))
def vY (c:UInt8) (w:I):ai U rF #[.int .u8 (c.toNat:Int)] w λr e=>r=V (.bool (jo c))/\ao w e:=by
 refine J6.ok _ w _ (aR (λd=>⟨?_,Fr.refl _ _⟩) (λd=>⟨?_,Fr.refl _ _⟩))
 .unfold jo;rw [aW (show 97<=c.toNat by omega),Bool.true_and];rw [show ah ((c.toNat:Int)<=122)=ah (c.toNat<=122) from decide_eq_decide.2 (by omega)]
 .unfold jo;rw [a0 (show ¬97<=c.toNat by omega),Bool.false_and]
def LW (c:UInt8) (n:Nat) (e:n<256):(((c.toNat:Nat):Int)==(n:Int))=ah (c=cS n):=by
 have d:c.toNat=n↔c=cS n:=by rw [<-UInt8.toNat_inj,UInt8.toNat_ofNat'];omega
 rw [Bool.eq_iff_iff,beq_iff_eq,decide_eq_true_iff,<-d];omega
def FC (c:UInt8) (w:I):ai U xz #[.int .u8 (c.toNat:Int)] w λr n=>r=V (.bool (rN c))/\ao w n:=by
 have e:(((c.toNat:Nat):Int) !=39)= !decide (c=39):=by have:=LW c 39 (by omega);show (!(((c.toNat:Nat):Int)==((39:Nat):Int)))=_;rw [this];rfl
 have h:(((c.toNat:Nat):Int) !=92)= !decide (c=92):=by have:=LW c 92 (by omega);show (!(((c.toNat:Nat):Int)==((92:Nat):Int)))=_;rw [this];rfl
 refine J2.ok _ w _ ?_;rw [e,h];unfold rN;refine aR (λj=>?_) (λj=>⟨?_,Fr.refl _ _⟩)
 .rw [aW (show 32<=c.toNat by omega),Bool.true_and];refine aR (λk=>?_) (λk=>⟨?_,Fr.refl _ _⟩)
  .rw [aW (show c.toNat<=126 by omega),Bool.true_and];refine bE (λd=>⟨?_,Fr.refl _ _⟩) (λd=>⟨?_,Fr.refl _ _⟩)
   .rw [d,Bool.true_and]
   .rw [d,Bool.false_and]
  .rw [a0 (show ¬c.toNat<=126 by omega),Bool.false_and]
 .rw [a0 (show ¬32<=c.toNat by omega),Bool.false_and]
def Nt {s:ByteArray} {l:List UInt8} (d:bl s=l) (i:Nat):s[i]? =l[i]?:=by
 subst d;by_cases c:i<s.size
 .rw [getElem?_pos s i c,bc (by rw [ep];exact c)];rfl
 .rw [getElem?_neg s i c,List.getElem?_eq_none (by rw [ep];omega)]
def kh {s:ByteArray} {i:Nat} (c:i<s.size):s[i]? =some ((bl s).getD i 0):=by
 rw [Nt (s:=s) (l:=bl s) rfl i];have d:i<(bl s).length:=by rw [ep];exact c
 rw [List.getD_eq_getElem?_getD,bc d];rfl
def n8:List UInt8:=[48,49,50,51,52,53,54,55,56,57,97,98,99,100,101,102]
def Qv (a b:Int):UInt8:=cS (ab .u8 (k9 .i64 (ab .i64 (a *2^4)) b)).toNat
def jE (l:List UInt8) (i:Nat):Option (UInt8×Nat):=
 if i+2<l.length/\l.getD i 0=39/\rN (l.getD (i+1) 0)=true/\l.getD (i+2) 0=39 then some (l.getD (i+1) 0,3)
 else if i+3<l.length/\l.getD i 0=92/\l.getD (i+1) 0=120/\0<=Go.Lib.indexByte n8 (l.getD (i+2) 0)/\0<=Go.Lib.indexByte n8 (l.getD (i+3) 0) then some (Qv (Go.Lib.indexByte n8 (l.getD (i+2) 0)) (Go.Lib.indexByte n8 (l.getD (i+3) 0)),4)
 else none
def Av:Option (UInt8×Nat)->ae
 |none=>.tuple #[.int .u8 0,.int .i64 0,.bool false]
 |some (b,n)=>.tuple #[.int .u8 (b.toNat:Int),.int .i64 (n:Int),.bool true]
def yP {x:UInt8} {n:Nat} {A B:Prop} (e:n<256) (c:x=cS n->A) (d:x≠cS n->B):Y (((x.toNat:Nat):Int)==(n:Int)) A B:=iX e c d
def Vr (x:Int):((cS (ab .u8 x).toNat).toNat:Int)=ab .u8 x:=by rw [UInt8.toNat_ofNat',IntKind.wrap_u8];omega
def zJ (s:ByteArray) (i:Nat) (hi:i<=1000000) (w:I):ai U tU #[.string s,.int .i64 (i:Int)] w λr c=>r=V (Av (jE (bl s) i))/\ao w c:=by
 have C:ab .i64 ((i:Int)+1)=((i+1:Nat):Int):=by rw [a4 _ (by omega)];omega
 have D:ab .i64 ((i:Int)+2)=((i+2:Nat):Int):=by rw [a4 _ (by omega)];omega
 have J:ab .i64 ((i:Int)+3)=((i+3:Nat):Int):=by rw [a4 _ (by omega)];omega
 have P:(bl s).length=s.size:=ep s;have j:¬(i+2<(bl s).length/\(bl s).getD i 0=39/\rN ((bl s).getD (i+1) 0)=true/\(bl s).getD (i+2) 0=39)->∀c,ao w c->yn.S0 s i c (λr c=>r=V (Av (jE (bl s) i))/\ao w c):=by
  intro E c h;have no:¬(i+3<(bl s).length/\(bl s).getD i 0=92/\(bl s).getD (i+1) 0=120/\0<=Go.Lib.indexByte n8 ((bl s).getD (i+2) 0)/\0<=Go.Lib.indexByte n8 ((bl s).getD (i+3) 0))->∀c,ao w c->yn.S1 c (λr c=>r=V (Av (jE (bl s) i))/\ao w c):=λN c h=>by refine ⟨?_,h⟩;unfold jE;rw [af E,af N];rfl
  show Y _ _ _;rw [J,D,C];refine aR (λL=>⟨by omega,_,kh (i:=i) (by omega),yP (n:=92) (by omega) (λe=>⟨by omega,_,kh (i:=i+1) (by omega),yP (n:=120) (by omega) (λA=>?_) (λA=>no (λd=>A d.2.2.1) c h)⟩) (λe=>no (λd=>e d.2.1) c h)⟩) (λL=>no (λd=>by omega) c h);refine (show LH F0 w c [] [] from ((LH.start (M:=F0) (w:=w) [] (by simp)).bA h)).dr λB G=>⟨by omega,_,kh (i:=i+2) (by omega),by omega,_,kh (i:=i+3) (by omega),G.call (DD _ _ _) ?_⟩;rintro _ Q rfl H;refine ⟨_,rfl,H.call (DD _ _ _) ?_⟩;rintro _ F rfl q;refine ⟨_,rfl,?_⟩;show Y (ah (Go.Lib.indexByte n8 _>=0)) (Y (ah (Go.Lib.indexByte n8 _>=0)) _ _) _;refine aR (λx=>aR (λy=>⟨?_,q.fr⟩) (λy=>no (λd=>y d.2.2.2.2) F q.fr)) (λx=>no (λd=>x d.2.2.2.1) F q.fr);unfold jE;rw [af E,aq ⟨by omega,e,A,x,y⟩];exact congrArg (λO=>Ending.returned (.tuple #[.int .u8 O,.int .i64 4,.bool true])) (Vr _).symm
 refine yn.ok _ _ w _ ?_;rw [D,C];refine aR (λK=>⟨by omega,_,kh (i:=i) (by omega),yP (n:=39) (by omega) (λe=>⟨by omega,_,kh (i:=i+1) (by omega),(FC _ w).mono ?_⟩) (λe=>j (λd=>e d.2.1) w (Fr.refl _ _))⟩) (λK=>j (λd=>by omega) w (Fr.refl _ _));rintro _ B ⟨rfl,u⟩;refine ⟨_,rfl,bE (λk=>⟨by omega,_,kh (i:=i+2) (by omega),yP (n:=39) (by omega) (λz=>⟨by omega,_,kh (i:=i+1) (by omega),?_,u⟩) (λz=>j (λd=>z d.2.2.2) B u)⟩) (λk=>j (λd=>by rw [d.2.2.1] at k;cases k) B u)⟩;unfold jE;rw [aq ⟨by omega,e,k,z⟩];rfl
end Go.Proofs.YtocpddmpfbfdbaaGreatDoor
