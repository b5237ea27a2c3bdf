import Derived.Test.YtnpkhgljhcnpcaaGreatDoorR1
import Derived.Test.YtnpkhgljhcnpcaaGreatDoorV
set_option linter.unusedVariables false
set_option linter.defProp false
namespace Go.Proofs.YtnpkhgljhcnpcaaGreatDoor
open Go renaming World->aA,Calls->aH
open Go.IntKind renaming wrap->aC
open Go.IntWalk renaming i64_in->aS
open Go.Proofs.Tryz renaming prog->aB
open _root_.Decidable renaming decide->aR
open Go.Ending renaming returned->aJ
open List renaming mem_append->gg,mem_cons->dT,mem_of_getElem?->dI,getElem?_eq_getElem->ie,getElem?_eq_some_iff->nY,mem_map->pN,length_take->A5,flatMap_append->rS,drop_eq_getElem_cons->Aq,take_add_one->EE,map_append->sP,drop_of_length_le->Ar,take_of_length_le->th
open Go Go.W
def yD {p:Addr} {K:Addr->Prop} (h:K p):gT (some p) K:=h
def Qh {x y:Int} (l:List Int) (h:x<y):vu (ik x y::l)=-1:=by unfold vu ik;simp [h]
def Qg {x y:Int} (l:List Int) (h:y<x):vu (ik x y::l)=1:=by
 unfold vu ik
 rw [aI (show ¬x<y by omega),aN h]
 simp
def Qf {x y:Int} (l:List Int) (h1:¬x<y) (h2:¬y<x):vu (ik x y::l)=vu l:=by
 conv=>lhs;unfold vu ik
 rw [aI h1,aI h2]
 simp
abbrev abY (n:Nat):Prop:=∀(a b:Rt) (w:aA),a.sz<=n->a.P w->b.P w->aH aB dF #[a.v,b.v] w λr w'=>r=aJ (.int .i64 (dO a.rx b.rx))/\bW w w'
def wx:∀n:Nat,n<=1000000->abY n
 |0,_=>λa b w h _ _=>absurd h (by have:=Rt.nZ a;omega)
 |n+1,hn=>λa b w h pa pb=>by
  have ih:=wx n (by omega)
  have hs:=Rt.hM a
  have hl:=Rt.gj a.l
  have na:=Rt.cX pa.parts.1
  have nbb:=Rt.cX pb.parts.1
  have e:dO a.rx b.rx=if vu [ik a.k b.k,ik a.lo.toNat b.lo.toNat,ik a.hi.toNat b.hi.toNat]≠0 then vu [ik a.k b.k,ik a.lo.toNat b.lo.toNat,ik a.hi.toNat b.hi.toNat] else cmpL (Rt.cR a.l) (Rt.cR b.l):=by
   rw [Rt.eE a,Rt.eE b];unfold dO;rfl
  have aa4:∀(d i:Nat) (b2 b3:Nat) (w1:aA),i+d=a.l.length->i<=b.l.length->cmpL (Rt.cR (a.l.drop i)) (Rt.cR (b.l.drop i))=dO a.rx b.rx->LH F0 w w1 [.g b2,.g b3] [.tree a,.tree b]->
    enthymemeref04_Compare.mC b2 a.k a.lo.toNat a.hi.toNat a.s b3 b.k b.lo.toNat b.hi.toNat b.s (i:Int) w1 λr w'=>r=aJ (.int .i64 (dO a.rx b.rx))/\bW w w':=by
   intro d
   induction d with
   |zero=>
    intro i b2 b3 w1 hi hib he H
    rw [Ar (by omega:a.l.length<=i)] at he
    refine enthymemeref04_Compare.dR _ _ _ _ _ _ _ _ _ _ _ _ _ (aX (aK (by omega)) (bA (λh=>⟨?_,H.fr⟩) (λh=>bA (λh2=>?_) (λh2=>⟨?_,H.fr⟩))))
    .rw [Aq (by omega:i<b.l.length)] at he
     rw [<-he];rfl
    .omega
    .rw [Ar (by omega:b.l.length<=i)] at he
     rw [<-he];rfl
   |succ d rR=>
    intro i b2 b3 w1 hi hib he H
    have hg:a.l[i]? =some (a.l[i]'(by omega)):=ie (by omega)
    rw [Aq (by omega:i<a.l.length)] at he
    generalize a.l[i]'(by omega)=x at hg he
    have Gu:=Rt.eM (dI hg)
    refine enthymemeref04_Compare.dR _ _ _ _ _ _ _ _ _ _ _ _ _ (bF (aO (by omega)) (bA (λjO=>⟨by omega,by omega,?_⟩) (λDD=>bA (λh=>?_) (λh=>bA (λh2=>⟨?_,H.fr⟩) (λh2=>?_)))))
    .have Wq:b.l[i]? =some (b.l[i]'(by omega)):=ie (by omega)
     rw [Aq (by omega:i<b.l.length)] at he
     generalize b.l[i]'(by omega)=y at Wq he
     refine Rt.at' (show a.P w1 from H.getD 0).parts.1 hg λp hp _=>H.bH λw3 H3=>?_
     have c:=Rt.again (show a.P w3 from H3.getD 0).parts.1 hg hp
     refine ⟨_,_,_,_,c.c0,c.c1,c.c2,c.c3,by omega,by omega,Rt.at' (show b.P w3 from H3.getD 1).parts.1 Wq λq hq c'=>⟨_,_,_,_,c'.c0,c'.c1,c'.c2,c'.c3,H3.bC (ih x y w3 (by omega) ((show a.P w3 from H3.getD 0).parts.2.get hg) ((show b.P w3 from H3.getD 1).parts.2.get Wq)) ?_⟩⟩
     rintro _ w4 rfl H4
     have e2:cmpL (Rt.cR (x::a.l.drop (i+1))) (Rt.cR (y::b.l.drop (i+1)))=if dO x.rx y.rx≠0 then dO x.rx y.rx else cmpL (Rt.cR (a.l.drop (i+1))) (Rt.cR (b.l.drop (i+1))):=rfl
     rw [e2] at he
     refine ⟨_,rfl,gB (λhc=>⟨?_,H4.fr⟩) (λhc=>?_)⟩
     .rw [aN hc] at he
      rw [he]
     .rw [aI (by simpa using hc)] at he
      rw [bP _ (by omega)]
      exact rR (i+1) b2 b3 w4 (by omega) (by omega) he H4
    .omega
    .rw [Ar (by omega:b.l.length<=i)] at he
     rw [<-he];rfl
    .omega
  have wl:∀(c:UInt8),aC .i64 (c.toNat:Int)=(c.toNat:Int):=λc=>aS _ (by have:=c.toNat_lt;omega)
  refine enthymemeref04_Compare.dQ _ _ _ _ _ _ _ _ w _ ((og [.tree a,.tree b] (by
   intro e he
   simp only [dT,List.not_mem_nil,or_false] at he
   rcases he with rfl|rfl
   .exact pa
   .exact pb)).cC λb2 w1 H1=>H1.cC λb3 w2 H2=>H2.nw λw3 _ H3=>H3.nw λw4 _ H4=>?_)
  have H4:LH F0 w w4 [.g b2,.g b3,.c w2.heap.size [.int .i64 a.k,.int .i64 (aC .i64 (a.lo.toNat:Int)),.int .i64 (aC .i64 (a.hi.toNat:Int))] cT,.c w3.heap.size [.int .i64 b.k,.int .i64 (aC .i64 (b.lo.toNat:Int)),.int .i64 (aC .i64 (b.hi.toNat:Int))] cT] [.tree a,.tree b]:=H4
  rw [wl,wl,wl,wl] at H4
  have step:∀(i:Nat) (x y:Int) (w5:aA),i<3->([.int .i64 a.k,.int .i64 (a.lo.toNat:Int),.int .i64 (a.hi.toNat:Int)]:List Value)[i]? =some (.int .i64 x)->([.int .i64 b.k,.int .i64 (b.lo.toNat:Int),.int .i64 (b.hi.toNat:Int)]:List Value)[i]? =some (.int .i64 y)->
    LH F0 w w5 [.g b2,.g b3,.c w2.heap.size [.int .i64 a.k,.int .i64 (a.lo.toNat:Int),.int .i64 (a.hi.toNat:Int)] cT,.c w3.heap.size [.int .i64 b.k,.int .i64 (b.lo.toNat:Int),.int .i64 (b.hi.toNat:Int)] cT] [.tree a,.tree b]->
    (x<y->dO a.rx b.rx=-1)->(y<x->dO a.rx b.rx=1)->
    (¬x<y->¬y<x->∀w6,LH F0 w w6 [.g b2,.g b3,.c w2.heap.size [.int .i64 a.k,.int .i64 (a.lo.toNat:Int),.int .i64 (a.hi.toNat:Int)] cT,.c w3.heap.size [.int .i64 b.k,.int .i64 (b.lo.toNat:Int),.int .i64 (b.hi.toNat:Int)] cT] [.tree a,.tree b]->enthymemeref04_Compare.fO b2 a.k a.lo.toNat a.hi.toNat a.s b3 b.k b.lo.toNat b.hi.toNat b.s ⟨some (bO w2.heap.size),3,3⟩ ⟨some (bO w3.heap.size),3,3⟩ ((i+1:Nat):Int) w6 λr w'=>r=aJ (.int .i64 (dO a.rx b.rx))/\bW w w')->
    enthymemeref04_Compare.fO b2 a.k a.lo.toNat a.hi.toNat a.s b3 b.k b.lo.toNat b.hi.toNat b.s ⟨some (bO w2.heap.size),3,3⟩ ⟨some (bO w3.heap.size),3,3⟩ (i:Int) w5 λr w'=>r=aJ (.int .i64 (dO a.rx b.rx))/\bW w w':=by
   intro i x y w5 hi hx hy H jO Ws hk
   have xW:((i:Nat):Int)<((3:Nat):Int):=by omega
   refine enthymemeref04_Compare.bT _ _ _ _ _ _ _ _ _ _ _ _ _ _ _ (bF (aO (by omega)) ⟨by omega,xW,yD (H.bH λw6 H6=>⟨x,?_,by omega,xW,yD ⟨y,?_,bA (λh=>⟨by rw [jO h],H6.fr⟩) (λh=>⟨by omega,xW,yD (H6.bH λw7 H7=>⟨x,?_,by omega,xW,yD ⟨y,?_,bA (λh2=>⟨by rw [Ws h2],H7.fr⟩) (λh2=>?_)⟩⟩)⟩)⟩⟩)⟩)
   .rw [Int.toNat_natCast,Nat.mul_one];exact H6.ld 2 i rfl hx
   .rw [Int.toNat_natCast,Nat.mul_one];exact H6.ld 3 i rfl hy
   .rw [Int.toNat_natCast,Nat.mul_one];exact H7.ld 2 i rfl hx
   .rw [Int.toNat_natCast,Nat.mul_one];exact H7.ld 3 i rfl hy
   .rw [show aC .i64 ((i:Int)+1)=((i+1:Nat):Int) by rw [aS _ (by omega)];omega]
    exact hk h h2 w7 H7
  show enthymemeref04_Compare.fO _ _ _ _ _ _ _ _ _ _ _ _ ((0:Nat):Int) _ _
  refine step 0 _ _ w4 (by omega) rfl rfl H4 (λh=>by rw [e,Qh _ h];rfl) (λh=>by rw [e,Qg _ h];rfl) (λh1 h2 w5 H5=>?_)
  rw [Qf _ h1 h2] at e
  refine step 1 _ _ w5 (by omega) rfl rfl H5 (λh=>by rw [e,Qh _ h];rfl) (λh=>by rw [e,Qg _ h];rfl) (λh1 h2 w6 H6=>?_)
  rw [Qf _ h1 h2] at e
  refine step 2 _ _ w6 (by omega) rfl rfl H6 (λh=>by rw [e,Qh _ h];rfl) (λh=>by rw [e,Qg _ h];rfl) (λh1 h2 w7 H7=>?_)
  rw [Qf _ h1 h2] at e
  refine enthymemeref04_Compare.bT _ _ _ _ _ _ _ _ _ _ _ _ _ _ _ (aX rfl (aa4 a.l.length 0 b2 b3 w7 (by omega) (by omega) ?_ (H7.take 2)))
  rw [e]
  rfl
def kY (a b:Rt) (w:aA) (h:a.sz<=1000000) (pa:a.P w) (pb:b.P w):aH aB dF #[a.v,b.v] w λr w'=>r=aJ (.int .i64 (dO a.rx b.rx))/\bW w w':=wx 1000000 (Nat.le_refl _) a b w h pa pb
abbrev abU (n:Nat):Prop:=∀(x:Rt) (w:aA),x.sz<=n->x.P w->aH aB eY #[x.v] w λr w'=>r=aJ (.int .i64 (x.sz:Int))/\bW w w'
def G9:∀n:Nat,n<=1000000->abU n
 |0,_=>λx w h _=>absurd h (by have:=Rt.nZ x;omega)
 |n+1,hn=>λx w h px=>by
  have ih:=G9 n (by omega)
  have hs:=Rt.hM x
  have hl:=Rt.gj x.l
  have nr:=Rt.cX px.parts.1
  have loop:∀(d i m b1:Nat) (w1:aA),i+d=x.l.length->m+Rt.gF (x.l.drop i)=x.sz->LH F0 w w1 [.g b1] [.tree x]->enthymemeref04_Nodes.fO b1 x.k x.lo.toNat x.hi.toNat x.s (m:Int) (i:Int) w1 λr w'=>r=aJ (.int .i64 (x.sz:Int))/\bW w w':=by
   intro d
   induction d with
   |zero=>
    intro i m b1 w1 hi he H
    rw [Ar (by omega)] at he
    refine enthymemeref04_Nodes.bT _ _ _ _ _ _ _ _ _ (aX (aK (by omega)) ⟨?_,H.fr⟩)
    have:m=x.sz:=he
    rw [this]
   |succ d rR=>
    intro i m b1 w1 hi he H
    have hg:x.l[i]? =some (x.l[i]'(by omega)):=ie (by omega)
    rw [Aq (by omega)] at he
    generalize x.l[i]'(by omega)=a at hg he
    have lM:m+(a.sz+Rt.gF (x.l.drop (i+1)))=x.sz:=he
    have ma:=dI hg
    have Gu:=Rt.eM ma
    refine enthymemeref04_Nodes.bT _ _ _ _ _ _ _ _ _ (bF (aO (by omega)) (ku (show x.P w1 from H.getD 0) rfl hg (H.bC (ih a w1 (by omega) ((show x.P w1 from H.getD 0).parts.2.mem ma)) ?_)))
    rintro _ w2 rfl H2
    refine ⟨_,rfl,?_⟩
    show enthymemeref04_Nodes.fO _ _ _ _ _ _ _ _ _
    rw [bP _ (by omega),aS _ (by omega)]
    have e:((m:Int)+(a.sz:Int))=((m+a.sz:Nat):Int):=by omega
    rw [e]
    exact rR (i+1) (m+a.sz) b1 w2 (by omega) (by omega) H2
  exact enthymemeref04_Nodes.dQ _ _ _ _ w _ ((Cc px).cC λb1 w1 H1=>loop x.l.length 0 1 b1 w1 (by omega) (by rw [List.drop_zero];omega) H1)
def Fc (x:Rt) (w:aA) (h:x.sz<=1000000) (px:x.P w):aH aB eY #[x.v] w λr w'=>r=aJ (.int .i64 (x.sz:Int))/\bW w w':=G9 1000000 (Nat.le_refl _) x w h px
def FP (k:Nat):Int:=if 6<=k then 1 else 0
def Mr (k:Nat):Int:=if k<3 then 0 else if k<6 then 64 else 1
def Rg {k:Nat} (h:k<8):([.i 0,.i 0,.i 0,.i 0,.i 0,.i 0,.i 1,.i 1]:List Value)[k]? =some (.i (FP k)):=by
 have:k=0\/k=1\/k=2\/k=3\/k=4\/k=5\/k=6\/k=7:=by omega
 rcases this with rfl|rfl|rfl|rfl|rfl|rfl|rfl|rfl<;>rfl
def UO {k:Nat} (h:k<8):([.i 0,.i 0,.i 0,.i 64,.i 64,.i 64,.i 1,.i 1]:List Value)[k]? =some (.i (Mr k)):=by
 have:k=0\/k=1\/k=2\/k=3\/k=4\/k=5\/k=6\/k=7:=by omega
 rcases this with rfl|rfl|rfl|rfl|rfl|rfl|rfl|rfl<;>rfl
abbrev abT (n:Nat):Prop:=∀(x:Rt) (w:aA),x.sz<=n->x.P w->aH aB jy #[x.v] w λr w'=>r=aJ (.bool (eV x.rx))/\bW w w'
def LF:∀n:Nat,n<=64->abT n
 |0,_=>λx w h _=>absurd h (by have:=Rt.nZ x;omega)
 |n+1,hn=>λx w h px=>by
  have ih:=LF n (by omega)
  have hs:=Rt.hM x
  have hl:=Rt.gj x.l
  have nr:=Rt.cX px.parts.1
  have el:(Rt.cR x.l).length=x.s.n:=by rw [Rt.fX];simp [nr]
  have ee:(Rt.cR x.l).isEmpty=aR (x.s.n=0):=by
   rw [<-el,Bool.eq_iff_iff]
   simp
  have eg:eV x.rx=(!(x.k !=2&&(x.lo !=0||x.hi !=0))&&(if x.k=0\/x.k=1 then (Rt.cR x.l).isEmpty else if x.k=2 then (Rt.cR x.l).isEmpty&&aR (x.lo.toNat<=x.hi.toNat) else if x.k=3\/x.k=4\/x.k=5 then hZ (Rt.cR x.l) else if x.k=6\/x.k=7 then (Rt.cR x.l).length==1&&hZ (Rt.cR x.l) else false)):=by
   rw [Rt.eE]
   unfold eV
   rfl
  rw [ee,el] at eg
  have z8:∀u:UInt8,(u !=0)=aR (u.toNat≠0):=λu=>by
   rw [Bool.eq_iff_iff]
   simp only [bne_iff_ne,ne_eq,decide_eq_true_eq]
   exact not_congr ⟨λh=>by rw [h];rfl,λh=>UInt8.toNat_inj.1 (by simpa using h)⟩
  rw [z8,z8] at eg
  have bad:∀{b1:Nat} {w':aA},eV x.rx=false->LH F0 w w' [.g b1,.c (0:Nat) [] cT] []->True:=λ_ _=>trivial
  let R:aT:=λr w'=>r=aJ (.bool (eV x.rx))/\bW w w'
  have loop:eV x.rx=hZ (Rt.cR x.l)->∀(d i b1:Nat) (w1:aA),i+d=x.l.length->hZ (Rt.cR (x.l.drop i))=hZ (Rt.cR x.l)->LH F0 w w1 [.g b1] [.tree x]->enthymemeref04_good.GU b1 x.k x.lo.toNat x.hi.toNat x.s (i:Int) w1 R:=by
   intro hx d
   induction d with
   |zero=>
    intro i b1 w1 hi he H
    rw [Ar (by omega)] at he
    refine enthymemeref04_good.ry _ _ _ _ _ _ _ _ (aX (aK (by omega)) ⟨?_,H.fr⟩)
    rw [hx,<-he];rfl
   |succ d rR=>
    intro i b1 w1 hi he H
    have hg:x.l[i]? =some (x.l[i]'(by omega)):=ie (by omega)
    rw [Aq (by omega)] at he
    generalize x.l[i]'(by omega)=a at hg he
    have ma:=dI hg
    have Gu:=Rt.eM ma
    have lM:(eV a.rx&&hZ (Rt.cR (x.l.drop (i+1))))=hZ (Rt.cR x.l):=he
    refine enthymemeref04_good.ry _ _ _ _ _ _ _ _ (bF (aO (by omega)) (ku (show x.P w1 from H.getD 0) rfl hg (H.bC (ih a w1 (by omega) ((show x.P w1 from H.getD 0).parts.2.mem ma)) ?_)))
    rintro _ w2 rfl H2
    refine ⟨_,rfl,fP (λhf=>⟨?_,H2.fr⟩) (λht=>?_)⟩
    .rw [hx,<-lM,hf];rfl
    .rw [bP _ (by omega)]
     rw [ht,Bool.true_and] at lM
     exact rR (i+1) b1 w2 (by omega) lM H2
  refine enthymemeref04_good.dQ _ _ _ _ w _ ((Cc px).cC λb1 w1 H1=>H1.nw λw2 _ H2=>H2.nw λw3 _ H3=>?_)
  have no:∀w':aA,LH F0 w w' [.g b1,.c w1.heap.size [.i 0,.i 0,.i 0,.i 64,.i 64,.i 64,.i 1,.i 1] cT,.c w2.heap.size [.i 0,.i 0,.i 0,.i 0,.i 0,.i 0,.i 1,.i 1] cT] [.tree x]->eV x.rx=false->(Ending.returned (.bool false)=aJ (.bool (eV x.rx))/\bW w w'):=λw' H' hf=>⟨by rw [hf],H'.fr⟩
  refine bA (λk0=>LH.bH H3 (λw4 H4=>no w4 H4 ?_) (by simp)) (λk0=>bA (λk7=>LH.bH H3 (λw4 H4=>no w4 H4 ?_) (by simp)) (λk7=>?_))
  .rw [eg,aI (by omega),aI (by omega),aI (by omega),aI (by omega),Bool.and_false]
  .rw [eg,aI (by omega),aI (by omega),aI (by omega),aI (by omega),Bool.and_false]
  obtain ⟨k,hk⟩:=Int.eq_ofNat_of_zero_le (by omega:0<=x.k)
  have hk8:k<8:=by omega
  refine ⟨by omega,by show x.k<((8:Nat):Int);omega,(show gT (some (nb w2)) _ from LH.bH H3 (λw4 H4=>⟨FP k,?_,?_⟩) (by simp))⟩
  .have:=LH.ld (L:=[.g b1,.c w1.heap.size [.i 0,.i 0,.i 0,.i 64,.i 64,.i 64,.i 1,.i 1] cT,.c w2.heap.size [.i 0,.i 0,.i 0,.i 0,.i 0,.i 0,.i 1,.i 1] cT]) H4 2 k rfl (Rg hk8)
   rw [hk,Int.toNat_natCast,Nat.mul_one]
   exact this
  refine bA (λhle=>no w4 H4 ?_) (λhle=>⟨by omega,by show x.k<((8:Nat):Int);omega,(show gT (some (nb w1)) _ from ⟨Mr k,?_,?_⟩)⟩)
  .unfold FP at hle
   rw [eg,aI (by split at hle<;>omega),aI (by split at hle<;>omega),aI (by split at hle<;>omega)]
   split
   .rename_i h67
    have:(x.s.n==1)=false:=by
     rw [beq_eq_false_iff_ne]
     split at hle<;>omega
    rw [this];simp
   .simp
  .have:=LH.ld (L:=[.g b1,.c w1.heap.size [.i 0,.i 0,.i 0,.i 64,.i 64,.i 64,.i 1,.i 1] cT,.c w2.heap.size [.i 0,.i 0,.i 0,.i 0,.i 0,.i 0,.i 1,.i 1] cT]) H4 1 k rfl (UO hk8)
   rw [hk,Int.toNat_natCast,Nat.mul_one]
   exact this
  refine bA (λUj=>no w4 H4 ?_) (λUj=>?_)
  .unfold Mr at Uj
   by_cases k2:k<3
   .rw [aN k2] at Uj
    have jx:aR (x.s.n=0)=false:=aK (by omega)
    rw [eg,jx]
    split
    .simp
    .split
     .simp
     .omega
   .rw [aI k2] at Uj
    by_cases k5:k<6
    .rw [aN k5] at Uj;omega
    .rw [aI k5] at Uj
     have:(x.s.n==1)=false:=by rw [beq_eq_false_iff_ne];omega
     rw [eg,this,aI (by omega),aI (by omega),aI (by omega),aN (by omega)]
     simp
  have Ul:(k<3->x.s.n=0)/\(6<=k->x.s.n=1):=by
   unfold FP at hle
   unfold Mr at Uj
   refine ⟨λh=>?_,λh=>?_⟩
   .rw [aN h] at Uj;omega
   .rw [aN h] at hle
    rw [aI (by omega),aI (by omega)] at Uj
    omega
  have H5:LH F0 w w4 [.g b1] [.tree x]:=LH.take (L:=[.g b1,.c w1.heap.size [.i 0,.i 0,.i 0,.i 64,.i 64,.i 64,.i 1,.i 1] cT,.c w2.heap.size [.i 0,.i 0,.i 0,.i 0,.i 0,.i 0,.i 1,.i 1] cT]) H4 1
  have aba:k<3->hZ (Rt.cR x.l)=true:=λh=>by
   have h0:(Rt.cR x.l).length=0:=by rw [el,Ul.1 h]
   rw [List.length_eq_zero_iff.1 h0]
   rfl
  have go:eV x.rx=hZ (Rt.cR x.l)->enthymemeref04_good.fN b1 x.k x.lo.toNat x.hi.toNat x.s w4 R:=λhx=>loop hx x.l.length 0 b1 w4 (by omega) (by simp) H5
  refine bA (λUh=>no w4 H4 ?_) (λUh=>gB (λk2=>bA (λUe=>no w4 H4 ?_) (λUe=>go ?_)) (λk2=>go ?_))
  .rw [eg]
   by_cases k2:x.k=2
   .rw [aI (by omega),aN k2,aK (show ¬x.lo.toNat<=x.hi.toNat by omega)]
    simp
   .have:(x.k !=2&&(aR (x.lo.toNat≠0)||aR (x.hi.toNat≠0)))=true:=by
     rw [aO (show x.lo.toNat≠0 by omega)]
     simp [k2]
    rw [this];rfl
  .have:(x.k !=2&&(aR (x.lo.toNat≠0)||aR (x.hi.toNat≠0)))=true:=by
    rw [aO (show x.hi.toNat≠0 by omega)]
    simp [k2]
   rw [eg,this];rfl
  .have e0:(x.k !=2&&(aR (x.lo.toNat≠0)||aR (x.hi.toNat≠0)))=false:=by
    rw [aK (show ¬x.lo.toNat≠0 by omega),aK (show ¬x.hi.toNat≠0 by omega)]
    simp
   rw [eg,e0]
   by_cases c1:x.k=0\/x.k=1
   .rw [aN c1,aba (by omega),aO (Ul.1 (by omega))];rfl
   .rw [aI c1,aI k2]
    by_cases c3:x.k=3\/x.k=4\/x.k=5
    .rw [aN c3];simp
    .rw [aI c3,aN (by omega),Ul.2 (by omega)];simp
  .have e0:(x.k !=2&&(aR (x.lo.toNat≠0)||aR (x.hi.toNat≠0)))=false:=by rw [k2];rfl
   rw [eg,e0,aI (by omega),aN k2,aba (by omega),aO (Ul.1 (by omega)),aO (show x.lo.toNat<=x.hi.toNat by omega)]
   rfl
def Kb (x:Rt) (w:aA) (h:x.sz<=1000000) (px:x.P w):aH aB lr #[x.v] w λr w'=>r=aJ (.int .i64 (oO x.rx))/\bW w w':=by
 refine enthymemeref04_Valid.dQ _ _ _ _ w _ ((Cc px).cC λb1 w1 H1=>H1.bC (Fc x w1 h (H1.getD 0)) ?_)
 rintro _ w2 rfl H2
 refine ⟨_,rfl,bA (λhl=>⟨?_,H2.fr⟩) (λhl=>H2.bC (LF 64 (Nat.le_refl _) x w2 (by omega) (H2.getD 0)) ?_)⟩
 .unfold oO;rw [Rt.ja,aN (by omega)]
 rintro _ w3 rfl H3
 refine ⟨_,rfl,fP (λhg=>⟨?_,H3.fr⟩) (λhg=>⟨?_,H3.fr⟩)⟩
 .unfold oO;rw [Rt.ja,aI (by omega),hg];rfl
 .unfold oO;rw [Rt.ja,aI (by omega),hg];rfl
def xJ {x:Rx} (h:oO x=0):eV x=true/\x.sz<=64:=by
 unfold oO at h
 split at h
 .cases h
 .split at h
  .rename_i h2
   exact ⟨h2,by omega⟩
  .cases h
def Eh:∀{l:List Rx} {a:Rx},hZ l=true->a∈l->eV a=true
 |b::l,a,h,ha=>by
  have h':(eV b&&hZ l)=true:=h
  rw [Bool.and_eq_true] at h'
  rcases dT.1 ha with rfl|ha
  .exact h'.1
  .exact Eh h'.2 ha
def pW:jb aB aM aG (.agg #[.int .i64 0,.int .u8 0,.int .u8 0,.slice none 0 0]) 4 40:=⟨by kernel_rfl,by kernel_rfl,rfl,by decide,by decide⟩
def Fe (w:aA):aH aB cL #[] w λr w'=>qz w gw r w'/\bW w w':=by
 refine enthymemeref04_Everything.dQ w _ ((og [] (by simp)).cC λb w1 H1=>H1.ko (n:=1) (sz:=4) (cs:=oA.c) rfl (by decide) λw2 H2=>H2.bH λw6 H6=>⟨⟨.mk 6 0 0 ⟨some (bO w1.heap.size),1,1⟩ [oA],rfl,rfl,?_,λc hc=>?_⟩,H6.fr⟩)
 .unfold Rt.P Rt.Ps Rt.Ps
  exact ⟨(H6.get 1:bD _ _ _ _ _).jG,yz w6,trivial⟩
 .unfold Rt.fp Rt.iD Rt.iD at hc
  rcases gg.1 hc with hc|hc
  .exact (H6.new _ (dI (i:=1) rfl) c (gP hc)).resolve_right id
  .rcases gg.1 hc with hc|hc
   .exact (pA hc).elim
   .cases hc
def rX (r:Rt):List Rt->List Rt
 |[]=>[r]
 |y::p=>if dO y.rx r.rx<0 then y::rX r p else if dO y.rx r.rx=0 then y::p else r::y::p
def RN (r:Rt):∀l:List Rt,(rX r l).map Rt.rx=zG r.rx (l.map Rt.rx)
 |[]=>rfl
 |y::p=>by
  unfold rX
  rw [List.map_cons]
  unfold zG
  split
  .rw [List.map_cons,RN r p]
  .split<;>rfl
def yI {t r:Rt}:∀{p:List Rt},t∈rX r p->t=r\/t∈p
 |[],h=>by unfold rX at h;simpa using h
 |y::p,h=>by
  unfold rX at h
  split at h
  .rcases dT.1 h with rfl|h
   .simp
   .rcases yI h with h|h<;>simp [h]
  .split at h
   .exact .inr h
   .rcases dT.1 h with rfl|h
    .simp
    .exact .inr h
def IS (r:Rt):∀l:List Rt,Rt.gF (rX r l)<=r.sz+Rt.gF l
 |[]=>by show r.sz+0<=r.sz+0;omega
 |y::p=>by
  unfold rX
  split
  .have:=IS r p
   show y.sz+Rt.gF (rX r p)<=r.sz+(y.sz+Rt.gF p)
   omega
  .split
   .show y.sz+Rt.gF p<=r.sz+(y.sz+Rt.gF p)
    omega
   .exact Nat.le_refl _
def MF {r:Rt}:∀{l:List Rt} {k:Nat},k<=l.length->(∀q t,q<k->l[q]? =some t->dO t.rx r.rx<0)->(∀t,l[k]? =some t->¬dO t.rx r.rx<0)->
  (∀t,l[k]? =some t->dO t.rx r.rx=0->rX r l=l)/\((∀t,l[k]? =some t->dO t.rx r.rx≠0)->rX r l=l.take k++r::l.drop k)
 |[],k,hk,h1,h2=>⟨λt h=>by simp at h,λ_=>by simp [rX]⟩
 |y::p,0,hk,h1,h2=>by
  have:=h2 y rfl
  unfold rX
  rw [aI this]
  refine ⟨λt h h0=>?_,λh=>?_⟩
  .cases h
   rw [aN h0]
  .rw [aI (h y rfl)]
   rfl
 |y::p,k+1,hk,h1,h2=>by
  have hy:=h1 0 y (by omega) rfl
  have ih:=MF (r:=r) (l:=p) (k:=k) (by simpa using hk) (λq t hq ht=>h1 (q+1) t (by omega) (by simpa using ht)) (λt ht=>h2 t (by simpa using ht))
  unfold rX
  rw [aN hy]
  refine ⟨λt h h0=>by rw [ih.1 t (by simpa using h) h0],λh=>by rw [ih.2 λt ht=>h t (by simpa using ht)];rfl⟩
def IZ {w:aA} {s:Sl} {l:List Rt} (h:lN 4 w s (l.flatMap Rt.c)) (a b:Nat) (NP:a<=b) (hb:b<=l.length):lN 4 w (Gt 4 s a b) (((l.take b).drop a).flatMap Rt.c):=by
 have nr:=Rt.cX h
 have:=h.sub a b NP (by omega)
 rw [Hy,D9 _ _ (by rw [A5];omega)] at this
 exact this
abbrev fD (s:Sl) (l:List Rt):Rt:=.mk 0 0 0 s l
def V4 (GL:List Nat) (w:aA) (l:List Rt) (r:Ending) (w':aA):Prop:=∃s:Sl,r=aJ s.v/\(fD s l).P w'/\∀b∈(fD s l).fp,w.heap.size<=b\/b∈GL
def gG {w:aA} {s:Sl} {l:List Rt}:(fD s l).P w↔lN 4 w s (l.flatMap Rt.c)/\Rt.Ps w l:=by
 unfold fD Rt.P
 exact Iff.rfl
def qD {s:Sl} {l:List Rt} {b:Nat}:b∈(fD s l).fp↔b∈(Rt.row s l).fp\/b∈Rt.iD l:=by
 unfold fD Rt.fp
 exact gg
def aas (s:Sl) (l:List Rt) (r:Rt) (w:aA) (hl:Rt.gF l<=100000) (hr:r.sz<=100000) (px:(fD s l).P w) (pr:r.P w):
  aH aB mR #[s.v,r.v] w λe w'=>V4 ((fD s l).fp++r.fp) w (rX r l) e w'/\bW w w':=by
 have nr:=Rt.cX (gG.1 px).1
 have ll:=Rt.gj l
 let R:aT:=λe w'=>V4 ((fD s l).fp++r.fp) w (rX r l) e w'/\bW w w'
 have fin:∀(k:Nat) (sl:Sl) (L:List En) (i:Nat) (w1:aA),k<=l.length->rX r l=l.take k++r::l.drop k->L[i]? =some (.row aG 4 sl ((l.take k++[r]).flatMap Rt.c))->LH F0 w w1 L [.tree (fD s l),.tree r]->
   enthymemeref04_put.ir s (k:Int) sl w1 R:=by
  intro k sl L i w1 hk he hi H
  have px1:(fD s l).P w1:=H.getD 0
  have hp:=IZ (gG.1 px1).1 k l.length hk (Nat.le_refl _)
  rw [List.take_length] at hp
  have jc:bD w1 aG 4 sl ((l.take k++[r]).flatMap Rt.c):=H.get i hi
  have xu:=Rt.cX jc.jG
  have ltk:(l.take k++[r]).length=k+1:=by simp [A5];omega
  refine ⟨by omega,by omega,?_⟩
  obtain ⟨s',w',h1,h2,h3⟩:=H.OT (bs:=[]) i (ty:=aM) (K:=λs' w'=>∃L',L'[i]? =some (.row aG 4 s' ((rX r l).flatMap Rt.c))/\LH F0 w w' L' [.tree (fD s l),.tree r]) pW (src:=Gt 4 s k l.length) (news:=(l.drop k).flatMap Rt.c) hi hp (D2 _) (by show (sl.n+(l.length - k)) *40<=_;omega) (λs' w' H'=>⟨_,by
   rw [List.getElem?_set_self (nY.1 hi).1,<-rS,he,List.append_assoc];rfl,H'⟩)
  obtain ⟨L',g1,g2⟩:=h3
  have e1:(Int.toNat (k:Int))=k:=rfl
  refine ⟨s',w',by rw [e1,nr];exact h1,⟨s',rfl,gG.2 ⟨(g2.get i g1:bD _ _ _ _ _).jG,Rt.qu λt ht=>?_⟩,λb hb=>?_⟩,g2.fr⟩
  .rcases yI ht with rfl|ht
   .exact g2.getD 1
   .exact (gG.1 (g2.getD 0)).2.mem ht
  .rcases qD.1 hb with hb|hb
   .exact .inl ((g2.new _ (dI g1) b (gP hb)).resolve_right id)
   .obtain ⟨t,ht,BY⟩:=Rt.bU.1 hb
    rcases yI ht with rfl|ht
    .exact .inr (List.mem_append_right _ BY)
    .exact .inr (List.mem_append_left _ (qD.2 (.inr (Rt.bU.2 ⟨t,ht,BY⟩))))
 have s2:∀(k:Nat) (b3:Nat) (w1:aA),k<=l.length->rX r l=l.take k++r::l.drop k->LH F0 w w1 [.g b3] [.tree (fD s l),.tree r]->enthymemeref04_put.fN s b3 r.k r.lo.toNat r.hi.toNat r.s (k:Int) w1 R:=by
  intro k b3 w1 hk he H
  have NQ:s.n<=s.c:=(gG.1 (show (fD s l).P w1 from H.getD 0)).1.2.1
  have Wy:∀w':aA,(fD s l).P w'->lN 4 w' (Gt 4 s 0 k) ((l.take k).flatMap Rt.c):=λw' h=>IZ (gG.1 h).1 0 k (by omega) hk
  have e1:(Int.toNat (k:Int))=k:=rfl
  refine ⟨by omega,by omega,H.bH λw2 H2=>?_,H.bH λw2 H2=>?_⟩
  .refine (H2.qb aG 4).OT 1 pW (s:=⟨none,0,0⟩) (xs:=[]) (src:=Gt 4 s 0 k) (news:=(l.take k).flatMap Rt.c) rfl (Wy w2 (H2.getD 0)) (D2 _) (by show (0+(k - 0)) *40<=_;omega) (λs' w3 H3=>?_)
   have H3:LH F0 w w3 [.g b3,.row aG 4 s' ((l.take k).flatMap Rt.c)] [.tree (fD s l),.tree r]:=H3
   have xu:=Rt.cX (H3.get 1:bD _ _ _ _ _).jG
   rw [A5] at xu
   refine H3.wV 1 pW (xs:=(l.take k).flatMap Rt.c) rfl (λs'' w4 H4=>?_) (by omega)
   refine fin k s'' _ 1 w4 hk he ?_ H4
   show some _=some _
   rw [ou]
   rfl
  .refine H2.ko (n:=1) (sz:=4) (cs:=r.c) rfl (by decide) λw3 H3=>?_
   refine (H3.qb aG 4).OT 2 pW (s:=⟨none,0,0⟩) (xs:=[]) (src:=Gt 4 s 0 k) (news:=(l.take k).flatMap Rt.c) rfl (Wy w3 (H3.getD 0)) (D2 _) (by show (0+(k - 0)) *40<=_;omega) (λs' w4 H4=>?_)
   have H4:LH F0 w w4 [.g b3,.row aG 4 ⟨some (bO w2.heap.size),1,1⟩ r.c,.row aG 4 s' ((l.take k).flatMap Rt.c)] [.tree (fD s l),.tree r]:=H4
   have xu:=Rt.cX (H4.get 2:bD _ _ _ _ _).jG
   rw [A5] at xu
   refine H4.OT 2 pW (xs:=(l.take k).flatMap Rt.c) (src:=⟨some (bO w2.heap.size),1,1⟩) (news:=r.c) rfl (H4.get 1:bD _ _ _ _ _).jG (λu hu=>D2 [r] u (by simpa using hu)) (by show (s'.n+1) *40<=_;omega) (λs'' w5 H5=>?_)
   refine fin k s'' _ 2 w5 hk he ?_ H5
   show some _=some _
   rw [ou]
 have s1:∀(k:Nat) (b3:Nat) (w1:aA),k<=l.length->(∀q t,q<k->l[q]? =some t->dO t.rx r.rx<0)->(∀t,l[k]? =some t->¬dO t.rx r.rx<0)->LH F0 w w1 [.g b3] [.tree (fD s l),.tree r]->enthymemeref04_put.gW s b3 r.k r.lo.toNat r.hi.toNat r.s (k:Int) w1 R:=by
  intro k b3 w1 hk h1 h2 H
  obtain ⟨g1,g2⟩:=MF hk h1 h2
  refine bA (λjO=>?_) (λjO=>H.bH λw2 H2=>s2 k b3 w2 hk (g2 λt ht=>by have:=(nY.1 ht).1;omega) H2)
  have hg:l[k]? =some l[k]:=ie (by omega)
  generalize l[k]'(by omega)=t at hg
  have mt:=dI hg
  refine ⟨by omega,by omega,Rt.at' (gG.1 (show (fD s l).P w1 from H.getD 0)).1 hg λp hp _=>H.bH λw2 H2=>?_⟩
  have U7:(fD s l).P w2:=H2.getD 0
  have c:=Rt.again (gG.1 U7).1 hg hp
  refine ⟨_,_,_,_,c.c0,c.c1,c.c2,c.c3,H2.bC (kY t r w2 (by have:=Rt.eM mt;omega) ((gG.1 U7).2.mem mt) (H2.getD 1)) ?_⟩
  rintro _ w3 rfl H3
  refine ⟨_,rfl,aY (λh0=>⟨⟨s,rfl,?_,λb hb=>.inr ?_⟩,H3.fr⟩) (λh0=>s2 k b3 w3 hk (g2 λt' ph=>by rw [hg] at ph;cases ph;exact h0) H3)⟩
  .rw [g1 t hg h0];exact H3.getD 0
  .rw [g1 t hg h0] at hb
   exact List.mem_append_left _ hb
 have loop:∀(d k:Nat) (b3:Nat) (w1:aA),k+d=l.length->(∀q t,q<k->l[q]? =some t->dO t.rx r.rx<0)->LH F0 w w1 [.g b3] [.tree (fD s l),.tree r]->enthymemeref04_put.fO s b3 r.k r.lo.toNat r.hi.toNat r.s (k:Int) w1 R:=by
  intro d
  induction d with
  |zero=>
   intro k b3 w1 hk h1 H
   exact enthymemeref04_put.bT _ _ _ _ _ _ _ _ _ (aX (aK (by omega)) (H.bH λw2 H2=>s1 k b3 w2 (by omega) h1 (λt ht=>by have:=(nY.1 ht).1;omega) H2))
  |succ d rR=>
   intro k b3 w1 hk h1 H
   have hg:l[k]? =some l[k]:=ie (by omega)
   generalize l[k]'(by omega)=t at hg
   have mt:=dI hg
   refine enthymemeref04_put.bT _ _ _ _ _ _ _ _ _ (bF (aO (by omega)) ⟨by omega,by omega,Rt.at' (gG.1 (show (fD s l).P w1 from H.getD 0)).1 hg λp hp _=>H.bH λw2 H2=>?_⟩)
   have U7:(fD s l).P w2:=H2.getD 0
   have c:=Rt.again (gG.1 U7).1 hg hp
   refine ⟨_,_,_,_,c.c0,c.c1,c.c2,c.c3,H2.bC (kY t r w2 (by have:=Rt.eM mt;omega) ((gG.1 U7).2.mem mt) (H2.getD 1)) ?_⟩
   rintro _ w3 rfl H3
   refine ⟨_,rfl,bA (λh0=>?_) (λh0=>s1 k b3 w3 (by omega) h1 (λt' ph=>by rw [hg] at ph;cases ph;exact h0) H3)⟩
   rw [bP _ (by omega)]
   refine rR (k+1) b3 w3 (by omega) (λq t' hq ph=>?_) H3
   by_cases e:q=k
   .subst e;rw [hg] at ph;cases ph;exact h0
   .exact h1 q t' (by omega) ph
 exact enthymemeref04_put.dQ _ _ _ _ _ w _ ((og [.tree (fD s l),.tree r] (by
  intro e he
  simp only [dT,List.not_mem_nil,or_false] at he
  rcases he with rfl|rfl
  .exact px
  .exact pr)).cC λb3 w1 H1=>loop l.length 0 b3 w1 (by omega) (λq t h=>by omega) H1)
def zD (k:Int) (t:Rx):∀(l out:List Rx),rW k out (l++[t])=if k=3 then rW k out l++[t] else zG t (rW k out l)
 |[],out=>by
  show rW k (if k=3 then out++[t] else zG t out) []=_
  unfold rW
  rfl
 |a::l,out=>by
  show rW k (if k=3 then out++[a] else zG a out) (l++[t])=_
  rw [zD k t l]
  rfl
def adh (x ev:Rt) (hk:x.k=3\/x.k=4\/x.k=5) (xL:ev.rx=gw):∃(j:Nat) (u z:Rt),aC .i64 (x.k - 3)=(j:Int)/\j<3/\[iw,oA,ev][j]? =some u/\[oA,ev,oA][j]? =some z/\(u=iw\/u=oA\/u=ev)/\(z=oA\/z=ev)/\u.rx≠z.rx/\
  oS (.mk x.k 0 0 (Rt.cR x.l))=mN x.k (Rt.cR x.l) u.rx z.rx:=by
 rcases hk with h|h|h<;>rw [h]
 .exact ⟨0,iw,oA,by decide,by decide,rfl,rfl,.inl rfl,.inl rfl,(by intro e;cases e),rfl⟩
 .exact ⟨1,oA,ev,by decide,by decide,rfl,rfl,.inr (.inl rfl),.inr rfl,(by rw [xL];intro e;cases e),by rw [xL];rfl⟩
 .exact ⟨2,ev,oA,by decide,by decide,rfl,rfl,.inr (.inr rfl),.inl rfl,(by rw [xL];intro e;cases e),by rw [xL];rfl⟩
section
variable {x ev u z:Rt} {sf:Sl} {w:aA} {b4 b8 b9:Nat}
def Vc (hx:x.sz<=10000) (xL:ev.rx=gw) (nev:∀b∈ev.fp,w.heap.size<=b) (hu:u=iw\/u=oA\/u=ev) (hzc:z=oA\/z=ev) (huz:u.rx≠z.rx) (L9:oS (.mk x.k 0 0 (Rt.cR x.l))=mN x.k (Rt.cR x.l) u.rx z.rx) {w1:aA}
  (H:LH F0 w w1 [.g b4,.g b8,.g b9] [.tree x,.tree ev,.tree (fD sf (x.l.flatMap (jI x)))]):
  enthymemeref04_normal.GU x.k b4 0 0 0 ⟨none,0,0⟩ sf b8 u.k u.lo.toNat u.hi.toNat u.s b9 z.k z.lo.toNat z.hi.toNat z.s ⟨none,0,0⟩ 0 w1 λr w'=>qT x.fp w (oS (.mk x.k 0 0 (Rt.cR x.l))) r w'/\bW w w':=by
 let R:aT:=λr w'=>qT x.fp w (oS (.mk x.k 0 0 (Rt.cR x.l))) r w'/\bW w w'
 have Ih:Sub x (x.l.flatMap (jI x)):=Sub.flat λ_ h=>h
 have aaV:Rt.gF (x.l.flatMap (jI x))<=Rt.gF x.l:=tq x x.l
 have Uc:((x.l.flatMap (jI x)).map Rt.rx).filter (λt=>!(dO t u.rx==0))=nP x.k (Rt.cR x.l) u.rx:=by
  rw [<-ym]
  unfold ml
  rw [List.filter_map]
  rfl
 generalize x.l.flatMap (jI x)=fl at H Ih aaV Uc
 have rU:=Ih
 have acS:=Rt.hM x
 have adt:Rt.gF fl<=10000:=by omega
 have lfl:=Rt.gj fl
 have nr:sf.n=fl.length:=Rt.cX (gG.1 (show (fD sf fl).P w1 from H.getD 2)).1
 have huP:∀w',ev.P w'->u.P w':=λw' h=>by
  rcases hu with rfl|rfl|rfl
  .exact AW w'
  .exact yz w'
  .exact h
 have hzP:∀w',ev.P w'->z.P w':=λw' h=>by
  rcases hzc with rfl|rfl
  .exact yz w'
  .exact h
 have huf:∀b∈u.fp,w.heap.size<=b:=λb hb=>by
  rcases hu with rfl|rfl|rfl
  .exact (yg hb).elim
  .exact (pA hb).elim
  .exact nev b hb
 have hzf:∀b∈z.fp,w.heap.size<=b:=λb hb=>by
  rcases hzc with rfl|rfl
  .exact (pA hb).elim
  .exact nev b hb
 have ej1:∀t∈fl,t.rx=z.rx->oS (.mk x.k 0 0 (Rt.cR x.l))=z.rx:=λt ht e=>by
  rw [L9]
  unfold mN
  rw [aN]
  rw [List.any_eq_true]
  refine ⟨t.rx,?_,tE.2 e⟩
  rw [<-Uc,List.mem_filter]
  exact ⟨pN.2 ⟨t,ht,rfl⟩,Qi.2 (e▸λh=>huz h.symm)⟩
 have ej2:(∀t∈fl,t.rx≠z.rx)->oS (.mk x.k 0 0 (Rt.cR x.l))=NG x.k u.rx (rW x.k [] ((fl.map Rt.rx).filter λt=>!(dO t u.rx==0))):=λh=>by
  rw [L9,U0,Uc]
  unfold mN
  rw [aI]
  .rfl
  .rw [List.any_eq_true]
   rintro ⟨t,ht,he⟩
   rw [<-Uc,List.mem_filter] at ht
   obtain ⟨t',ph,rfl⟩:=pN.1 ht.1
   exact h t' ph (tE.1 he)
 have fin:∀(ol:List Rt) (so:Sl) (L D:List En) (w1:aA),(∀t∈fl,t.rx≠z.rx)->ol.map Rt.rx=rW x.k [] ((fl.map Rt.rx).filter λt=>!(dO t u.rx==0))->(∀t∈ol,t∈fl)->LH F0 w w1 L (.tree x::.tree ev::D)->(∀b∈[b4,b8,b9],En.g b∈L)->(∀w',LH F0 w w' L (.tree x::.tree ev::D)->lN 4 w' so (ol.flatMap Rt.c)/\∀b∈(Rt.row so ol).fp,w.heap.size<=b\/b∈x.fp)->
   aW (((so.n:Nat):Int)==0) (loc [b4,b8,b9] w1 λw55=>R (aJ u.v) w55) (aW (((so.n:Nat):Int)==1) (bY so 0 λp=>cV w1 (p.add (Int.toNat 0 *4)) λa b c d=>loc [b4,b8,b9] w1 λw59=>R (aJ (.agg #[.i a,.int .u8 b,.int .u8 c,d.v])) w59) (loc [b4,b8,b9] w1 λw63=>R (aJ (.agg #[.i x.k,.int .u8 0,.int .u8 0,so.v])) w63)):=by
  intro ol so L D w1 hz ho hm H hb jc
  have hr:=jc w1 H
  have nso:=Rt.cX hr.1
  have ej:=ej2 hz
  rw [<-ho] at ej
  have wE:Sub x ol:=rU.sub hm
  refine aY (λh0=>H.bH (λw2 H2=>⟨⟨u,rfl,?_,huP w2 (H2.getD 1),λb hb=>.inl (huf b hb)⟩,H2.fr⟩) hb) (λh0=>aY (λh1=>?_) (λh1=>H.bH (λw2 H2=>⟨⟨.mk x.k 0 0 so ol,rfl,?_,?_,λb hb=>?_⟩,H2.fr⟩) hb))
  .have:ol=[]:=List.length_eq_zero_iff.1 (by omega)
   rw [ej,this];rfl
  .obtain ⟨a,rfl⟩:=List.length_eq_one_iff.1 (show ol.length=1 by omega)
   refine ⟨by omega,by omega,Rt.at' hr.1 (i:=0) (t:=a) rfl λp hp c=>⟨_,_,_,_,c.c0,c.c1,c.c2,c.c3,H.bH (λw2 H2=>⟨⟨a,rfl,?_,wE.P _ (H2.getD 0) a (by simp),λb hb=>.inr (wE.fp a (by simp) b hb)⟩,H2.fr⟩) hb⟩⟩
   rw [ej];rfl
  .rw [ej]
   unfold Rt.rx
   rw [Rt.fX]
   cases ol with
   |nil=>simp at nso;omega
   |cons a ks=>
    cases ks with
    |nil=>simp at nso;omega
    |cons b ks=>rfl
  .unfold Rt.P
   exact ⟨(jc w2 H2).1,wE.Ps (H2.getD 0)⟩
  .unfold Rt.fp at hb
   rcases gg.1 hb with hb|hb
   .exact (jc w2 H2).2 b hb
   .exact .inr (wE.iD hb)
 have aa6:x.k=3->∀(d i:Nat) (so:Sl) (ol:List Rt) (w1:aA),i+d=fl.length->(∀t∈fl.take i,t.rx≠z.rx)->ol.map Rt.rx=rW x.k [] (((fl.take i).map Rt.rx).filter λt=>!(dO t u.rx==0))->(∀t∈ol,t∈fl)->Rt.gF ol<=Rt.gF (fl.take i)->
   LH F0 w w1 [.g b4,.g b8,.g b9,.row aG 4 so (ol.flatMap Rt.c)] [.tree x,.tree ev,.tree (fD sf fl)]->enthymemeref04_normal.GU x.k b4 0 0 0 ⟨none,0,0⟩ sf b8 u.k u.lo.toNat u.hi.toNat u.s b9 z.k z.lo.toNat z.hi.toNat z.s so (i:Int) w1 R:=by
  intro hk d
  induction d with
  |zero=>
   intro i so ol w1 hi hz ho hm hs H
   rw [th (by omega)] at hz ho
   refine enthymemeref04_normal.ry _ _ _ _ _ _ _ _ _ _ _ _ _ _ _ _ _ _ _ _ _ (aX (aK (by omega)) ?_)
   exact fin ol so _ _ w1 hz ho hm H (by simp) (λw' H'=>⟨(H'.get 3:bD _ _ _ _ _).jG,λb hb=>.inl ((H'.new _ (dI (i:=3) rfl) b (gP hb)).resolve_right id)⟩)
  |succ d rR=>
   intro i so ol w1 hi hz ho hm hs H
   have hg:fl[i]? =some fl[i]:=ie (by omega)
   generalize fl[i]'(by omega)=t at hg
   have mt:=dI hg
   have W4:=Rt.eM mt
   have TU:fl.take (i+1)=fl.take i++[t]:=by rw [EE,hg];rfl
   have szk:Rt.gF (fl.take (i+1))=Rt.gF (fl.take i)+t.sz:=by rw [TU,we];rfl
   have szl:=sB fl (i+1)
   refine enthymemeref04_normal.ry _ _ _ _ _ _ _ _ _ _ _ _ _ _ _ _ _ _ _ _ _ (bF (aO (by omega)) ⟨by omega,by omega,Rt.at' (gG.1 (show (fD sf fl).P w1 from H.getD 2)).1 hg λp hp _=>H.bH λw2 H2=>?_⟩)
   have p2:(fD sf fl).P w2:=H2.getD 2
   have c2:=Rt.again (gG.1 p2).1 hg hp
   refine ⟨_,_,_,_,c2.c0,c2.c1,c2.c2,c2.c3,H2.bC (kY t z w2 (by omega) ((gG.1 p2).2.mem mt) (hzP w2 (H2.getD 1))) ?_⟩
   rintro _ w3 rfl H3
   refine ⟨_,rfl,aY (λh0=>H3.bH λw4 H4=>⟨⟨z,rfl,?_,hzP w4 (H4.getD 1),λb hb=>.inl (hzf b hb)⟩,H4.fr⟩) (λh0=>?_)⟩
   .exact (ej1 t mt (u0.1 h0)).symm
   refine ⟨by omega,by omega,Rt.at' (gG.1 (show (fD sf fl).P w3 from H3.getD 2)).1 hg λp hp _=>H3.bH λw5 H5=>?_⟩
   have p5:(fD sf fl).P w5:=H5.getD 2
   have c5:=Rt.again (gG.1 p5).1 hg hp
   refine ⟨_,_,_,_,c5.c0,c5.c1,c5.c2,c5.c3,H5.bC (kY t u w5 (by omega) ((gG.1 p5).2.mem mt) (huP w5 (H5.getD 1))) ?_⟩
   rintro _ w6 rfl H6
   have Uu:∀t'∈fl.take (i+1),t'.rx≠z.rx:=λt' ph=>by
    rw [TU] at ph
    rcases gg.1 ph with ph|ph
    .exact hz t' ph
    .simp at ph;subst ph;exact λe=>h0 (u0.2 e)
   refine ⟨_,rfl,aY (λh1=>?_) (λh1=>bF (beq_iff_eq.2 hk) ?_)⟩
   .show enthymemeref04_normal.GU _ _ _ _ _ _ _ _ _ _ _ _ _ _ _ _ _ _ _ _ _
    rw [bP _ (by omega)]
    refine rR (i+1) so ol w6 (by omega) Uu ?_ hm (by omega) H6
    rw [TU,sP,List.filter_append,ho]
    have e0:([t].map Rt.rx).filter (λt=>!(dO t u.rx==0))=[]:=by
     show [t.rx].filter _=[]
     rw [List.filter_cons_of_neg (by rw [h1];simp)]
     rfl
    rw [e0,List.append_nil]
   .have ef:((fl.take (i+1)).map Rt.rx).filter (λt=>!(dO t u.rx==0))=(((fl.take i).map Rt.rx).filter λt=>!(dO t u.rx==0))++[t.rx]:=by
     rw [TU,sP,List.filter_append]
     congr 1
     show [t.rx].filter _=[t.rx]
     rw [List.filter_cons_of_pos (by simpa using h1)]
     rfl
    refine ⟨by omega,by omega,Rt.at' (gG.1 (show (fD sf fl).P w6 from H6.getD 2)).1 hg λp hp c=>⟨_,_,_,_,c.c0,c.c1,c.c2,c.c3,?_⟩⟩
    have xu:=Rt.cX (H6.get 3:bD _ _ _ _ _).jG
    have lol:=Rt.gj ol
    refine H6.wV 3 pW (xs:=ol.flatMap Rt.c) rfl (λs' w7 H7=>?_) (by omega)
    show enthymemeref04_normal.GU _ _ _ _ _ _ _ _ _ _ _ _ _ _ _ _ _ _ _ _ _
    rw [bP _ (by omega)]
    refine rR (i+1) s' (ol++[t]) w7 (by omega) Uu ?_ (λt' ph=>?_) (by rw [we];show _+(t.sz+0)<=_;omega) ?_
    .rw [ef,zD,aN hk,sP,ho];rfl
    .rcases gg.1 ph with ph|ph
     .exact hm t' ph
     .simp at ph;subst ph;exact mt
    .rw [ou];exact H7
 have aa7:x.k≠3->∀(d i:Nat) (so:Sl) (ol:List Rt) (w1:aA),i+d=fl.length->(∀t∈fl.take i,t.rx≠z.rx)->ol.map Rt.rx=rW x.k [] (((fl.take i).map Rt.rx).filter λt=>!(dO t u.rx==0))->(∀t∈ol,t∈fl)->Rt.gF ol<=Rt.gF (fl.take i)->(∀b∈(fD so ol).fp,w.heap.size<=b\/b∈x.fp)->
   LH F0 w w1 [.g b4,.g b8,.g b9] [.tree x,.tree ev,.tree (fD sf fl),.tree (fD so ol)]->enthymemeref04_normal.GU x.k b4 0 0 0 ⟨none,0,0⟩ sf b8 u.k u.lo.toNat u.hi.toNat u.s b9 z.k z.lo.toNat z.hi.toNat z.s so (i:Int) w1 R:=by
  intro hk d
  induction d with
  |zero=>
   intro i so ol w1 hi hz ho hm hs hnb H
   rw [th (by omega)] at hz ho
   refine enthymemeref04_normal.ry _ _ _ _ _ _ _ _ _ _ _ _ _ _ _ _ _ _ _ _ _ (aX (aK (by omega)) ?_)
   exact fin ol so _ _ w1 hz ho hm H (by simp) (λw' H'=>⟨(gG.1 (show (fD so ol).P w' from H'.getD 3)).1,λb hb=>hnb b (qD.2 (.inl hb))⟩)
  |succ d rR=>
   intro i so ol w1 hi hz ho hm hs hnb H
   have hg:fl[i]? =some fl[i]:=ie (by omega)
   generalize fl[i]'(by omega)=t at hg
   have mt:=dI hg
   have W4:=Rt.eM mt
   have TU:fl.take (i+1)=fl.take i++[t]:=by rw [EE,hg];rfl
   have szk:Rt.gF (fl.take (i+1))=Rt.gF (fl.take i)+t.sz:=by rw [TU,we];rfl
   have szl:=sB fl (i+1)
   refine enthymemeref04_normal.ry _ _ _ _ _ _ _ _ _ _ _ _ _ _ _ _ _ _ _ _ _ (bF (aO (by omega)) ⟨by omega,by omega,Rt.at' (gG.1 (show (fD sf fl).P w1 from H.getD 2)).1 hg λp hp _=>H.bH λw2 H2=>?_⟩)
   have p2:(fD sf fl).P w2:=H2.getD 2
   have c2:=Rt.again (gG.1 p2).1 hg hp
   refine ⟨_,_,_,_,c2.c0,c2.c1,c2.c2,c2.c3,H2.bC (kY t z w2 (by omega) ((gG.1 p2).2.mem mt) (hzP w2 (H2.getD 1))) ?_⟩
   rintro _ w3 rfl H3
   refine ⟨_,rfl,aY (λh0=>H3.bH λw4 H4=>⟨⟨z,rfl,?_,hzP w4 (H4.getD 1),λb hb=>.inl (hzf b hb)⟩,H4.fr⟩) (λh0=>?_)⟩
   .exact (ej1 t mt (u0.1 h0)).symm
   refine ⟨by omega,by omega,Rt.at' (gG.1 (show (fD sf fl).P w3 from H3.getD 2)).1 hg λp hp _=>H3.bH λw5 H5=>?_⟩
   have p5:(fD sf fl).P w5:=H5.getD 2
   have c5:=Rt.again (gG.1 p5).1 hg hp
   refine ⟨_,_,_,_,c5.c0,c5.c1,c5.c2,c5.c3,H5.bC (kY t u w5 (by omega) ((gG.1 p5).2.mem mt) (huP w5 (H5.getD 1))) ?_⟩
   rintro _ w6 rfl H6
   have Uu:∀t'∈fl.take (i+1),t'.rx≠z.rx:=λt' ph=>by
    rw [TU] at ph
    rcases gg.1 ph with ph|ph
    .exact hz t' ph
    .simp at ph;subst ph;exact λe=>h0 (u0.2 e)
   refine ⟨_,rfl,aY (λh1=>?_) (λh1=>aX (by simpa using hk) ?_)⟩
   .show enthymemeref04_normal.GU _ _ _ _ _ _ _ _ _ _ _ _ _ _ _ _ _ _ _ _ _
    rw [bP _ (by omega)]
    refine rR (i+1) so ol w6 (by omega) Uu ?_ hm (by omega) hnb H6
    rw [TU,sP,List.filter_append,ho]
    have e0:([t].map Rt.rx).filter (λt=>!(dO t u.rx==0))=[]:=by
     show [t.rx].filter _=[]
     rw [List.filter_cons_of_neg (by rw [h1];simp)]
     rfl
    rw [e0,List.append_nil]
   .have ef:((fl.take (i+1)).map Rt.rx).filter (λt=>!(dO t u.rx==0))=(((fl.take i).map Rt.rx).filter λt=>!(dO t u.rx==0))++[t.rx]:=by
     rw [TU,sP,List.filter_append]
     congr 1
     show [t.rx].filter _=[t.rx]
     rw [List.filter_cons_of_pos (by simpa using h1)]
     rfl
    refine ⟨by omega,by omega,Rt.at' (gG.1 (show (fD sf fl).P w6 from H6.getD 2)).1 hg λp hp c=>⟨_,_,_,_,c.c0,c.c1,c.c2,c.c3,?_⟩⟩
    refine o7 ((aas so ol t w6 (by omega) (by omega) (H6.getD 3) ((gG.1 (show (fD sf fl).P w6 from H6.getD 2)).2.mem mt)).mono ?_)
    rintro _ w7 ⟨⟨s',rfl,pl',nb'⟩,f7⟩
    refine ⟨f7,?_⟩
    have nb2:∀b∈(fD s' (rX t ol)).fp,w.heap.size<=b\/b∈x.fp:=λb hb=>by
     rcases nb' b hb with hb|hb
     .exact .inl (Nat.le_trans H6.fr.size hb)
     .rcases gg.1 hb with hb|hb
      .exact hnb b hb
      .exact .inr (rU.fp t mt b hb)
    have H8:LH F0 w w7 [.g b4,.g b8,.g b9] [.tree x,.tree ev,.tree (fD sf fl),.tree (fD so ol),.tree (fD s' (rX t ol))]:=H6.pS _ f7 pl' λb hb=>by
     rcases nb' b (aV.1 hb) with hb|hb
     .exact .inl hb
     .rcases gg.1 hb with hb|hb
      .exact .inr (.inr ⟨_,dI (i:=3) rfl,aV.2 hb⟩)
      .exact .inr (.inr ⟨_,dI (i:=0) rfl,aV.2 (rU.fp t mt b hb)⟩)
    refine ⟨s',rfl,?_⟩
    show enthymemeref04_normal.GU _ _ _ _ _ _ _ _ _ _ _ _ _ _ _ _ _ _ _ _ _
    rw [bP _ (by omega)]
    refine rR (i+1) s' (rX t ol) w7 (by omega) Uu ?_ (λt' ph=>?_) (by have:=IS t ol;omega) nb2 (H8.forget _ (by simp))
    .rw [ef,zD,aI hk,RN,ho]
    .rcases yI ph with rfl|ph
     .exact mt
     .exact hm t' ph
 by_cases hk:x.k=3
 .exact aa6 hk fl.length 0 ⟨none,0,0⟩ [] w1 (by omega) (by simp) (by simp [rW]) (by simp) (by simp [Rt.gF]) (H.qb aG 4)
 .refine aa7 hk fl.length 0 ⟨none,0,0⟩ [] w1 (by omega) (by simp) (by simp [rW]) (by simp) (by simp [Rt.gF]) (λb hb=>?_) (H.pS (.tree (fD ⟨none,0,0⟩ [])) (Fr.refl _ _) (gG.2 ⟨lN.nil 4 w1,by unfold Rt.Ps;trivial⟩) λb hb=>?_)
  .rcases qD.1 hb with hb|hb
   .simp [Rt.row,En.jG] at hb
   .unfold Rt.iD at hb;cases hb
  .rcases qD.1 (aV.1 hb) with hb|hb
   .simp [Rt.row,En.jG] at hb
   .unfold Rt.iD at hb;cases hb
end
def Nu (x:Rt) (hk:3<=x.k/\x.k<=7) (hx:x.sz<=10000) (eL:pf (.mk x.k 0 0 (Rt.cR x.l))=true) (Um:∀c∈x.l,0<=c.k) (w:aA) (px:x.P w):
  aH aB kE #[.i x.k,x.s.v] w λr w'=>qT x.fp w (oS (.mk x.k 0 0 (Rt.cR x.l))) r w'/\bW w w':=by
 have nr:=Rt.cX px.parts.1
 have acS:=Rt.hM x
 have Kx:=Rt.gj x.l
 refine enthymemeref04_normal.dQ _ _ w _ ((Cc px).cC λb4 w1 H1=>H1.rC (Fe w1) ?_)
 rintro _ w2 ⟨ev,rfl,xL,pev,nev⟩ H2 F2
 have H3:LH F0 w w2 [.g b4] [.tree x,.tree ev]:=F2.rd (.tree ev) pev λb hb=>nev b (aV.1 hb)
 have acY:∀b∈ev.fp,w.heap.size<=b:=λb hb=>Nat.le_trans H1.fr.size (nev b hb)
 have pc:∀{w':aA} {c:Rt},x.P w'->x.l[0]? =some c->c.P w':=λh hg=>h.parts.2.mem (dI hg)
 have fc:∀{c:Rt},x.l[0]? =some c->∀b∈c.fp,b∈x.fp:=λhg b hb=>Rt.fJ.2 (.inr (Rt.bU.2 ⟨_,dI hg,hb⟩))
 refine ⟨_,_,_,ev.s,rfl,H3.cC λb5 w3 H4=>aY (λh6=>?_) (λh6=>aY (λh7=>?_) (λh7=>H4.bH λw4 H5=>?_))⟩
 .
  cases hl:x.l with
  |nil=>rw [hl,h6] at eL;simp [pf,Rt.cR] at eL
  |cons c l'=>
   have hg:x.l[0]? =some c:=by rw [hl];rfl
   have n2:0<x.s.n:=by rw [hl] at nr;simp at nr;omega
   have e1:Rt.cR (c::l')=c.rx::Rt.cR l':=rfl
   have ef:oS (.mk x.k 0 0 (Rt.cR (c::l')))=IF 0 0 (c.rx::Rt.cR l'):=by rw [h6];rfl
   rw [ef]
   refine ⟨by omega,by omega,Rt.at' (show x.P w3 from H4.getD 0).parts.1 hg λp hp _=>H4.bH λw5 H5=>?_⟩
   have px5:x.P w5:=H5.getD 0
   have cc:=Rt.again px5.parts.1 hg hp
   refine ⟨c.k,cc.c0,aY (λhc6=>⟨by omega,by omega,Rt.at' px5.parts.1 hg λp hp cc=>⟨c.s,cc.c3,?_⟩⟩) (λhc6=>H5.bH λw6 H6=>⟨⟨.mk 6 0 0 x.s x.l,rfl,?_,?_,λb hb=>.inr ?_⟩,H6.fr⟩)⟩
   .cases L8:c.l with
    |nil=>
     rw [hl,e1] at eL
     have e2:c.rx.l.isEmpty=true:=by rw [R0,L8];rfl
     simp [pf,h6,zK,hc6,e2] at eL
    |cons d l2=>
     have SU:c.l[0]? =some d:=by rw [L8];rfl
     refine ku (pc px5 hg) rfl SU (H5.bH λw6 H6=>⟨⟨d,rfl,?_,(pc (H6.getD 0) hg).parts.2.mem (dI SU),λb hb=>.inr (fc hg b (Rt.fJ.2 (.inr (Rt.bU.2 ⟨d,dI SU,hb⟩))))⟩,H6.fr⟩)
     show d.rx=if c.rx.k=6 then _ else _
     rw [aN (by rw [zK,hc6]),R0,L8];rfl
   .show Rx.mk 6 0 0 (Rt.cR x.l)=if c.rx.k=6 then _ else _
    rw [aI (by rw [zK];exact hc6),hl,e1]
   .unfold Rt.P
    exact (show x.P w6 from H6.getD 0).parts
   .unfold Rt.fp at hb
    exact Rt.fJ.2 (gg.1 hb)
 .
  cases hl:x.l with
  |nil=>rw [hl,h7] at eL;simp [pf,Rt.cR] at eL
  |cons c l'=>
   have hg:x.l[0]? =some c:=by rw [hl];rfl
   have n2:0<x.s.n:=by rw [hl] at nr;simp at nr;omega
   have e1:Rt.cR (c::l')=c.rx::Rt.cR l':=rfl
   have ef:oS (.mk x.k 0 0 (Rt.cR (c::l')))=tm 0 0 (c.rx::Rt.cR l'):=by rw [h7];rfl
   rw [ef]
   have est:tm 0 0 (c.rx::Rt.cR l')=if c.k=0\/c.k=1 then sF else if c.k=7\/dO c.rx gw=0 then c.rx else .mk 7 0 0 (c.rx::Rt.cR l'):=by
    unfold tm
    simp only [zK]
   have szc:c.sz<=1000000:=by have:=Rt.eM (dI hg);omega
   have s0:∀(w6:aA),¬(c.k=0\/c.k=1)->(c.k=7\/dO c.rx gw=0)->LH F0 w w6 [.g b4,.g b5] [.tree x,.tree ev]->enthymemeref04_normal.eX x.s b4 0 0 0 ⟨none,0,0⟩ w6 λr w'=>qT x.fp w (tm 0 0 (c.rx::Rt.cR l')) r w'/\bW w w':=by
    intro w6 h1 h2 H6
    refine ⟨by omega,by omega,Rt.at' (show x.P w6 from H6.getD 0).parts.1 hg λp hp cc=>⟨_,_,_,_,cc.c0,cc.c1,cc.c2,cc.c3,(H6.take 1).bH λw7 H7=>⟨⟨c,rfl,?_,pc (H7.getD 0) hg,λb hb=>.inr (fc hg b hb)⟩,H7.fr⟩⟩⟩
    rw [est,aI h1,aN h2]
   refine ⟨by omega,by omega,Rt.at' (show x.P w3 from H4.getD 0).parts.1 hg λp hp _=>H4.bH λw5 H5=>?_⟩
   have px5:x.P w5:=H5.getD 0
   have cc:=Rt.again px5.parts.1 hg hp
   have vU:0<=c.k:=Um c (dI hg)
   refine ⟨c.k,cc.c0,bA (λh2=>H5.bH λw6 H6=>⟨⟨iw,rfl,?_,AW w6,λb hb=>(yg hb).elim⟩,H6.fr⟩) (λh2=>?_)⟩
   .rw [est,aN (by omega)];rfl
   refine ⟨by omega,by omega,Rt.at' px5.parts.1 hg λp hp _=>H5.bH λw6 H6=>?_⟩
   have px6:x.P w6:=H6.getD 0
   have cc:=Rt.again px6.parts.1 hg hp
   refine ⟨c.k,cc.c0,aY (λhc7=>s0 w6 (by omega) (.inl hc7) H6) (λhc7=>⟨by omega,by omega,Rt.at' px6.parts.1 hg λp hp cc=>⟨_,_,_,_,cc.c0,cc.c1,cc.c2,cc.c3,H6.bC (kY c ev w6 szc (pc px6 hg) (H6.getD 1)) ?_⟩⟩)⟩
   rintro _ w7 rfl H7
   rw [xL]
   refine ⟨_,rfl,aY (λh0=>s0 w7 (by omega) (.inr h0) H7) (λh0=>H7.bH λw8 H8=>⟨⟨.mk 7 0 0 x.s x.l,rfl,?_,?_,λb hb=>.inr ?_⟩,H8.fr⟩)⟩
   .show Rx.mk 7 0 0 (Rt.cR x.l)=_
    rw [est,aI (by omega),aI (λh=>h.elim hc7 h0),hl,e1]
   .unfold Rt.P
    exact (show x.P w8 from H8.getD 0).parts
   .unfold Rt.fp at hb
    exact Rt.fJ.2 (gg.1 hb)
 .
  have aci:x.k=3\/x.k=4\/x.k=5:=by omega
  obtain ⟨j,u,z,ew,hj,gu,gz,hu,hzc,huz,L9⟩:=adh x ev aci xL
  have loop:∀(d i:Nat) (acc:List Rt) (sl:Sl) (w1:aA),i+d=x.l.length->acc=(x.l.take i).flatMap (jI x)->LH F0 w w1 [.g b4,.g b5,.row aG 4 sl (acc.flatMap Rt.c)] [.tree x,.tree ev]->
    enthymemeref04_normal.mC x.k x.s b4 0 0 0 ⟨none,0,0⟩ b5 ev.k ev.lo.toNat ev.hi.toNat ev.s sl (i:Int) w1 λr w'=>qT x.fp w (oS (.mk x.k 0 0 (Rt.cR x.l))) r w'/\bW w w':=by
   intro d
   induction d with
   |zero=>
    intro i acc sl w1 hi ha H
    rw [th (by omega)] at ha
    subst ha
    have Ih:Sub x (x.l.flatMap (jI x)):=Sub.flat λ_ h=>h
    have H':=(H.pS (.trees (x.l.flatMap (jI x))) (Fr.refl _ _) (Ih.Ps (H.getD 0)) (λb hb=>.inr (.inr ⟨_,dI (i:=0) rfl,aV.2 (Ih.iD (aV.1 hb))⟩))).K7 2 2 0 0 0
    have H':LH F0 w w1 [.g b4,.g b5] [.tree x,.tree ev,.tree (fD sl (x.l.flatMap (jI x)))]:=H'.forget _ (by simp)
    refine enthymemeref04_normal.dR _ _ _ _ _ _ _ _ _ _ _ _ _ _ _ _ (aX (aK (by omega)) ?_)
    refine H'.ko (n:=3) (sz:=4) (cs:=[iw,oA,ev].flatMap Rt.c) rfl (by decide) λw2 H2=>?_
    rw [ew]
    refine ⟨by omega,by omega,Rt.at' (s:=⟨some (bO w1.heap.size),3,3⟩) (l:=[iw,oA,ev]) (H2.get 2:bD _ _ _ _ _).jG gu λp hp c=>⟨_,_,_,_,c.c0,c.c1,c.c2,c.c3,H2.cC λb8 w3 H3=>H3.bH λw4 H4=>H4.ko (n:=3) (sz:=4) (cs:=[oA,ev,oA].flatMap Rt.c) rfl (by decide) λw5 H5=>⟨by omega,by omega,Rt.at' (s:=⟨some (bO w4.heap.size),3,3⟩) (l:=[oA,ev,oA]) (H5.get 4:bD _ _ _ _ _).jG gz λp hp c=>⟨_,_,_,_,c.c0,c.c1,c.c2,c.c3,H5.cC λb9 w6 H6=>H6.bH λw7 H7=>?_⟩⟩⟩⟩
    have H8:=((H7.freeze 1 (.g b5) rfl (H7.get 1) λb hb=>hb).freeze 1 _ rfl (H7.get 2) λb hb=>hb).freeze 2 _ rfl (H7.get 4) λb hb=>hb
    exact Vc hx xL acY hu hzc huz L9 (H8.forget _ (by simp))
   |succ d rR=>
    intro i acc sl w1 hi ha H
    have hg:x.l[i]? =some (x.l[i]'(by omega)):=ie (by omega)
    generalize x.l[i]'(by omega)=a at hg
    have hm:=dI hg
    have Of:x.P w1:=H.getD 0
    have Gu:=Rt.eM hm
    have ni:Rt.gF acc<=Rt.gF x.l:=by
     have h1:=tq x (x.l.take i)
     have h2:=sB x.l i
     rw [ha];omega
    have hnx:acc++jI x a=(x.l.take (i+1)).flatMap (jI x):=by rw [EE,hg,rS,ha];simp
    have xu:=Rt.cX (H.get 2:bD _ _ _ _ _).jG
    have Mb:=Rt.gj acc
    have tail:∀(s':Sl) (w':aA),LH F0 w w' [.g b4,.g b5,.row aG 4 s' ((acc++jI x a).flatMap Rt.c)] [.tree x,.tree ev]->enthymemeref04_normal.fN x.k x.s b4 0 0 0 ⟨none,0,0⟩ b5 ev.k ev.lo.toNat ev.hi.toNat ev.s s' (i:Int) w' λr w'=>qT x.fp w (oS (.mk x.k 0 0 (Rt.cR x.l))) r w'/\bW w w':=by
     intro s' w' H'
     show enthymemeref04_normal.mC _ _ _ _ _ _ _ _ _ _ _ _ _ _ _ _
     rw [bP _ (by omega)]
     exact rR (i+1) _ s' w' (by omega) hnx H'
    refine enthymemeref04_normal.dR _ _ _ _ _ _ _ _ _ _ _ _ _ _ _ _ (bF (aO (by omega)) ⟨by omega,by omega,Rt.at' Of.parts.1 hg λp hp c=>⟨a.k,c.c0,aY (λhk=>?_) (λhk=>?_)⟩⟩)
    .have pa:a.P w1:=Of.parts.2.mem hm
     have na:=Rt.cX pa.parts.1
     have Mb:=Rt.gj a.l
     have B1:=Rt.hM a
     refine ⟨by omega,by omega,Rt.at' Of.parts.1 hg λp hp c=>⟨a.s,c.c3,?_⟩⟩
     refine H.OT 2 pW (xs:=acc.flatMap Rt.c) (src:=a.s) (news:=a.l.flatMap Rt.c) rfl pa.parts.1 (D2 _) (by omega) (λs' w4 H4=>?_)
     refine tail s' w4 ?_
     have e:jI x a=a.l:=aN hk
     rw [e,rS]
     exact H4
    .refine ⟨by omega,by omega,Rt.at' Of.parts.1 hg λp hp c=>⟨_,_,_,_,c.c0,c.c1,c.c2,c.c3,?_⟩⟩
     refine H.wV 2 pW (xs:=acc.flatMap Rt.c) rfl (λs' w4 H4=>?_) (by omega)
     refine tail s' w4 ?_
     have e:jI x a=[a]:=aI hk
     rw [e,ou]
     exact H4
  exact loop x.l.length 0 [] ⟨none,0,0⟩ w4 (by omega) rfl (H5.qb aG 4)
def uX (k:Int):Rx:=if k=3 then sF else if k=4 then zx else gw
def zX (k:Int):Rx:=if k=4 then gw else zx
mutual
def NF:Rx->Prop
 |.mk k lo hi l=>SP l/\(k≠2->lo=0/\hi=0)/\(((k=0\/k=1)/\l=[])\/(k=2/\l=[]/\lo.toNat<=hi.toNat)\/
   ((k=3\/k=4\/k=5)/\2<=l.length/\(k≠3->JC l)/\∀t∈l,t.k≠k/\t≠uX k/\t≠zX k)\/
   (k=6/\∃c,l=[c]/\c.k≠6)\/(k=7/\∃c,l=[c]/\c.k≠0/\c.k≠1/\c.k≠7/\c≠gw))
def SP:List Rx->Prop
 |[]=>True
 |a::l=>NF a/\SP l
end
def xQ:∀{l:List Rx},SP l↔∀t∈l,NF t
 |[]=>by unfold SP;simp
 |a::l=>by unfold SP;rw [xQ];simp
def IB:NF zx:=by unfold zx NF SP;simp
def Cj:NF sF:=by unfold sF NF SP;simp
def IA:NF gw:=by
 unfold gw NF SP SP
 refine ⟨⟨IB,trivial⟩,by simp,.inr (.inr (.inr (.inl ⟨rfl,zx,rfl,by decide⟩)))⟩
def aa9 (k:Int):NF (uX k):=by
 unfold uX
 split
 .exact Cj
 .split
  .exact IB
  .exact IA
def aa' (k:Int):NF (zX k):=by
 unfold zX
 split
 .exact IA
 .exact IB
def aa8 {x:Rx} (h:NF x):∀t∈x.l,NF t:=by
 cases x
 unfold NF at h
 exact xQ.1 h.1
def UQ {x:Rx} {k:Int} (hk:k=3\/k=4\/k=5) (h:NF x) (hx:x.k=k):2<=x.l.length/\(k≠3->JC x.l)/\∀t∈x.l,t.k≠k/\t≠uX k/\t≠zX k:=by
 cases x with
 |mk k' lo hi l=>
  have hx:k'=k:=hx
  subst hx
  unfold NF at h
  obtain ⟨-,-,h|h|h|h|h⟩:=h
  .omega
  .omega
  .exact h.2
  .omega
  .omega
def NH {k:Int} {l:List Rx} {u t:Rx}:t∈nP k l u↔(∃c∈l,if c.k=k then t∈c.l else t=c)/\t≠u:=by
 unfold nP
 rw [List.mem_filter,List.mem_flatMap,Qi]
 refine and_congr ⟨λ⟨c,hc,h⟩=>⟨c,hc,?_⟩,λ⟨c,hc,h⟩=>⟨c,hc,?_⟩⟩ Iff.rfl
 .split at h
  .rename_i e;rw [aN e];exact h
  .rename_i e;rw [aI e];simpa using h
 .split at h
  .rename_i e;rw [aN e];exact h
  .rename_i e;rw [aI e];simpa using h
def TW {k:Int} (hk:k=3\/k=4\/k=5) {l:List Rx} (h:∀c∈l,NF c) {t:Rx} (ht:t∈nP k l (uX k)):NF t/\t.k≠k/\t≠uX k:=by
 obtain ⟨⟨c,hc,h1⟩,h2⟩:=NH.1 ht
 split at h1
 .rename_i e
  exact ⟨aa8 (h c hc) t h1,((UQ hk (h c hc) e).2.2 t h1).1,h2⟩
 .rename_i e
  subst h1
  exact ⟨h t hc,e,h2⟩
def uv (k:Int) (l:List Rx):List Rx:=if k=3 then nP k l (uX k) else Ou (nP k l (uX k))
def Oj {k:Int} {l:List Rx} {t:Rx}:t∈uv k l↔t∈nP k l (uX k):=by
 unfold uv
 split
 .exact Iff.rfl
 .exact I6
def Ev (k:Int) (l:List Rx):((nP k l (uX k)).any λt=>dO t (zX k)==0)=true↔zX k∈nP k l (uX k):=by
 rw [List.any_eq_true]
 constructor
 .rintro ⟨t,ht,h⟩
  rw [tE.1 h] at ht
  exact ht
 .exact λh=>⟨_,h,tE.2 rfl⟩
def Mh {k:Int} {l:List Rx} (h:zX k∈nP k l (uX k)):mN k l (uX k) (zX k)=zX k:=by
 unfold mN
 rw [aN ((Ev k l).2 h)]
def Mg {k:Int} {l:List Rx} (h:¬zX k∈nP k l (uX k)):mN k l (uX k) (zX k)=NG k (uX k) (uv k l):=by
 unfold mN
 rw [aI (λh'=>h ((Ev k l).1 h'))]
 rfl
def Ux {k:Int} (hk:k=3\/k=4\/k=5) {l:List Rx} (h:∀c∈l,NF c):NF (mN k l (uX k) (zX k)):=by
 by_cases hz:zX k∈nP k l (uX k)
 .rw [Mh hz]
  exact aa' k
 .rw [Mg hz]
  have hm:∀t∈uv k l,NF t/\t.k≠k/\t≠uX k/\t≠zX k:=λt ht=>by
   have ht:=Oj.1 ht
   obtain ⟨h1,h2,h3⟩:=TW hk h ht
   exact ⟨h1,h2,h3,λe=>hz (e▸ht)⟩
  have aaM:k≠3->JC (uv k l):=λh3=>by
   unfold uv
   rw [aI h3]
   exact I5 _
  generalize uv k l=m at hm aaM
  unfold NG
  split
  .exact aa9 k
  .exact (hm _ (by simp)).1
  .rename_i h0 h1
   unfold NF
   refine ⟨xQ.2 λt ht=>(hm t ht).1,λ_=>⟨rfl,rfl⟩,.inr (.inr (.inl ⟨hk,?_,aaM,λt ht=>(hm t ht).2⟩))⟩
   cases m with
   |nil=>exact absurd rfl h0
   |cons a m=>
    cases m with
    |nil=>exact absurd rfl (h1 a)
    |cons b m=>simp
def xh {k:Int} (hk:k=3\/k=4\/k=5) (lo hi:UInt8) (l:List Rx):oS (.mk k lo hi l)=mN k l (uX k) (zX k):=by
 rcases hk with rfl|rfl|rfl<;>rfl
def Y2 {c:Rx} (h:NF c):NF (IF 0 0 [c]):=by
 unfold IF
 simp only
 split
 .rename_i e
  split
  .exact IB
  .rename_i d m hm
   exact aa8 h d (by rw [hm];simp)
 .rename_i e
  unfold NF
  exact ⟨xQ.2 λt ht=>by (simp at ht;subst ht;exact h),λ_=>⟨rfl,rfl⟩,.inr (.inr (.inr (.inl ⟨rfl,c,rfl,e⟩)))⟩
def Vt {c:Rx} (h:NF c):NF (tm 0 0 [c]):=by
 unfold tm
 simp only
 split
 .exact Cj
 .rename_i e
  split
  .exact h
  .rename_i e2
   unfold NF
   exact ⟨xQ.2 λt ht=>by (simp at ht;subst ht;exact h),λ_=>⟨rfl,rfl⟩,.inr (.inr (.inr (.inr ⟨rfl,c,rfl,λh=>e (.inl h),λh=>e (.inr h),λh=>e2 (.inl h),λh=>e2 (.inr (u0.2 h))⟩)))⟩
def tK {k:Int} {lo hi:UInt8} {l:List Rx} (h:eV (.mk k lo hi l)=true):hZ l=true/\(k≠2->lo=0/\hi=0)/\(((k=0\/k=1)/\l=[])\/(k=2/\l=[]/\lo.toNat<=hi.toNat)\/(k=3\/k=4\/k=5)\/((k=6\/k=7)/\∃c,l=[c])):=by
 unfold eV at h
 rw [Bool.and_eq_true] at h
 obtain ⟨h1,h2⟩:=h
 have uF:k≠2->lo=0/\hi=0:=λhk=>by
  have e:(k !=2)=true:=by simpa using hk
  rw [e,Bool.true_and,Bool.not_eq_true',Bool.or_eq_false_iff] at h1
  simpa using h1
 split at h2
 .rename_i hk
  have:l=[]:=by simpa using h2
  subst this
  exact ⟨rfl,uF,.inl ⟨hk,rfl⟩⟩
 .split at h2
  .rename_i hk
   simp only [Bool.and_eq_true,decide_eq_true_eq] at h2
   have:l=[]:=by simpa using h2.1
   subst this
   exact ⟨rfl,uF,.inr (.inl ⟨hk,rfl,h2.2⟩)⟩
  .split at h2
   .rename_i hk
    exact ⟨h2,uF,.inr (.inr (.inl hk))⟩
   .split at h2
    .rename_i hk
     simp only [Bool.and_eq_true] at h2
     exact ⟨h2.2,uF,.inr (.inr (.inr ⟨hk,List.length_eq_one_iff.1 (eq_of_beq h2.1)⟩))⟩
    .cases h2
def abM {k:Int} {lo hi:UInt8} {l:List Rx} (h1:hZ l=true) (h2:k≠2->lo=0/\hi=0) (h3:((k=0\/k=1)/\l=[])\/(k=2/\l=[]/\lo.toNat<=hi.toNat)\/(k=3\/k=4\/k=5)\/((k=6\/k=7)/\∃c,l=[c])):eV (.mk k lo hi l)=true:=by
 unfold eV
 rw [Bool.and_eq_true]
 constructor
 .by_cases hk:k=2
  .subst hk;rfl
  .obtain ⟨rfl,rfl⟩:=h2 hk
   simp
 .rcases h3 with ⟨hk,rfl⟩|⟨rfl,rfl,hle⟩|hk|⟨hk,c,rfl⟩
  .rw [aN hk];rfl
  .rw [aI (by omega),aN rfl];simpa using hle
  .rw [aI (by omega),aI (by omega),aN hk];exact h1
  .rw [aI (by omega),aI (by omega),aI (by omega),aN hk];simpa using h1
def Rs {lo hi:UInt8} (h:lo.toNat<=hi.toNat):NF (.mk 2 lo hi []):=by
 unfold NF SP
 exact ⟨trivial,λh=>absurd rfl h,.inr (.inl ⟨rfl,rfl,h⟩)⟩
mutual
def Mx:∀x:Rx,eV x=true->NF (hG x)
 |.mk k lo hi l,h=>by
  obtain ⟨h1,h2,h3⟩:=tK h
  have ih:=Cl l h1
  unfold hG
  rcases h3 with ⟨hk,rfl⟩|⟨rfl,rfl,hle⟩|hk|⟨hk,c,rfl⟩
  .obtain ⟨rfl,rfl⟩:=h2 (by omega)
   rcases hk with rfl|rfl
   .exact IB
   .exact Cj
  .exact Rs hle
  .rw [xh hk]
   exact Ux hk ih
  .obtain ⟨rfl,rfl⟩:=h2 (by omega)
   have hc:NF (hG c):=ih _ (by unfold gS;simp)
   rcases hk with rfl|rfl
   .exact Y2 hc
   .exact Vt hc
def Cl:∀l:List Rx,hZ l=true->∀t∈gS l,NF t
 |[],_=>λt ht=>by unfold gS at ht;cases ht
 |a::l,h=>λt ht=>by
  unfold hZ at h
  rw [Bool.and_eq_true] at h
  unfold gS at ht
  rcases dT.1 ht with rfl|ht
  .exact Mx a h.1
  .exact Cl l h.2 t ht
end
section
variable {μ:Rx->Nat}
def EC (p:Rx->Bool):∀l:List Rx,ms μ (l.filter p)<=ms μ l
 |[]=>Nat.le_refl _
 |a::l=>by
  have ih:=EC p l
  rw [List.filter_cons]
  split
  .show μ a+_<=μ a+_;omega
  .show _<=μ a+_;omega
def Ch:∀{l:List Rx} {a:Rx},a∈l->μ a<=ms μ l
 |b::l,a,h=>by
  rcases dT.1 h with rfl|h
  .show μ a<=μ a+_;omega
  .have:=Ch h
   show μ a<=μ b+_;omega
def Ro (h:∀x,1<=μ x):∀l:List Rx,l.length<=ms μ l
 |[]=>Nat.le_refl _
 |a::l=>by
  have:=Ro h l
  have:=h a
  show l.length+1<=μ a+ms μ l
  omega
def Ms:∀(l:List Rx) (p:Rx),ms μ (mf p l)<=ms μ l
 |[],p=>Nat.le_refl _
 |x::l,p=>by
  have:=Ms l x
  unfold mf
  split
  .show _<=μ x+ms μ l;omega
  .show μ x+_<=μ x+ms μ l;omega
def YY (l:List Rx):ms μ (Ou l)<=ms μ l:=by
 have h1:ms μ (BD (sA l))<=ms μ (sA l):=by
  cases sA l with
  |nil=>exact Nat.le_refl _
  |cons a m=>have:=Ms (μ:=μ) m a;show μ a+_<=μ a+_;omega
 rw [<-UP (xF l)]
 exact h1
def FR (h:∀x,ms μ x.l<=μ x) (k:Int):∀l:List Rx,ms μ (l.flatMap λc=>if c.k=k then c.l else [c])<=ms μ l
 |[]=>Nat.le_refl _
 |c::l=>by
  have ih:=FR h k l
  have h1:=h c
  rw [List.flatMap_cons,Rn]
  show _<=μ c+ms μ l
  split
  .omega
  .show (μ c+0)+_<=_;omega
def Mt (h:∀x,ms μ x.l<=μ x) (k:Int) (l:List Rx):ms μ (uv k l)<=ms μ l:=by
 have h1:ms μ (nP k l (uX k))<=ms μ l:=Nat.le_trans (EC _ _) (FR h k l)
 unfold uv
 split
 .exact h1
 .exact Nat.le_trans (YY _) h1
end
def Lf:∀l:List Rx,Rx.gF l=ms Rx.sz l
 |[]=>rfl
 |a::l=>by unfold Rx.gF;rw [Lf l];rfl
def wM (k:Int) (lo hi:UInt8) (l:List Rx):(Rx.mk k lo hi l).sz=1+ms Rx.sz l:=by unfold Rx.sz;rw [Lf]
def abv (x:Rx):ms Rx.sz x.l<=x.sz:=by cases x;rw [wM];simp only [Rx.l];omega
def YV (x:Rx):ms sJ x.l<=sJ x:=by cases x;rw [Aj];simp only [Rx.l];omega
def YW (x:Rx):1<=sJ x:=by cases x;rw [Aj];omega
mutual
def WL:∀x:Rx,sJ x<=x.sz
 |.mk k lo hi l=>by
  rw [Aj,wM]
  have:=Rl l
  omega
def Rl:∀l:List Rx,ms sJ l<=ms Rx.sz l
 |[]=>Nat.le_refl _
 |a::l=>by
  have h1:=WL a
  have h2:=Rl l
  show sJ a+ms sJ l<=a.sz+ms Rx.sz l
  omega
end
def B5 {k:Int} {l:List Rx} {P:Rx->Prop} (hz:P (zX k)) (hu:P (uX k)) (h1:∀a,a∈uv k l->P a) (h2:P (.mk k 0 0 (uv k l))):P (mN k l (uX k) (zX k)):=by
 by_cases h:zX k∈nP k l (uX k)
 .rw [Mh h];exact hz
 .rw [Mg h]
  generalize hm:uv k l=m at h1 h2
  unfold NG
  split
  .exact hu
  .exact h1 _ (by simp)
  .exact h2
def Xz (k:Int):(uX k).sz<=2/\(zX k).sz<=2/\sJ (uX k)=1/\sJ (zX k)=1:=by
 unfold uX zX
 refine ⟨?_,?_,?_,?_⟩
 .split
  .decide
  .split<;>decide
 .split<;>decide
 .split
  .decide
  .split<;>decide
 .split<;>decide
def ED {k:Int} {c:Rx} (hk:k=6\/k=7) {P:Rx->Prop} (h0:P zx) (h1:P sF) (hc:P c) (hd:∀d∈c.l,P d) (h2:P (.mk k 0 0 [c])):P (oS (.mk k 0 0 [c])):=by
 rcases hk with rfl|rfl
 .show P (IF 0 0 [c])
  unfold IF
  simp only
  split
  .split
   .exact h0
   .rename_i d m hm
    exact hd d (by rw [hm];simp)
  .exact h2
 .show P (tm 0 0 [c])
  unfold tm
  simp only
  split
  .exact h1
  .split
   .exact hc
   .exact h2
mutual
def FY:∀x:Rx,eV x=true->(hG x).sz<=2 *x.sz
 |.mk k lo hi l,h=>by
  obtain ⟨h1,h2,h3⟩:=tK h
  have ih:=yA l h1
  have hx:=wM k lo hi l
  rw [hx]
  unfold hG
  rcases h3 with ⟨hk,rfl⟩|⟨rfl,rfl,hle⟩|hk|⟨hk,c,rfl⟩
  .obtain ⟨rfl,rfl⟩:=h2 (by omega)
   rcases hk with rfl|rfl<;>decide
  .show (Rx.mk 2 lo hi []).sz<=_
   rw [wM];simp only [ms];omega
  .rw [xh hk]
   have hr:=Mt (μ:=Rx.sz) abv k (gS l)
   obtain ⟨hu,hz,-,-⟩:=Xz k
   refine B5 (P:=λy=>y.sz<=2 *(1+ms Rx.sz l)) (by omega) (by omega) (λa ha=>?_) ?_
   .have:=Ch (μ:=Rx.sz) ha
    omega
   .show (Rx.mk k 0 0 _).sz<=_
    rw [wM];omega
  .obtain ⟨rfl,rfl⟩:=h2 (by omega)
   have en:gS [c]=[hG c]:=rfl
   rw [en] at ih ⊢
   have ih:(hG c).sz+0<=2 *(c.sz+0):=ih
   show _<=2 *(1+(c.sz+0))
   refine ED (P:=λy=>y.sz<=2 *(1+(c.sz+0))) hk (by show (1:Nat)<=_;omega) (by show (1:Nat)<=_;omega) (by omega) (λd hd=>?_) ?_
   .have:=Ch (μ:=Rx.sz) hd
    have:=abv (hG c)
    omega
   .show (Rx.mk k 0 0 _).sz<=_
    rw [wM];simp only [ms];omega
def yA:∀l:List Rx,hZ l=true->ms Rx.sz (gS l)<=2 *ms Rx.sz l
 |[],_=>Nat.le_refl _
 |a::l,h=>by
  unfold hZ at h
  rw [Bool.and_eq_true] at h
  have h1:=FY a h.1
  have h2:=yA l h.2
  show (hG a).sz+ms Rx.sz (gS l)<=2 *(a.sz+ms Rx.sz l)
  omega
end
mutual
def US:∀x:Rx,eV x=true->sJ (hG x)<=sJ x
 |.mk k lo hi l,h=>by
  obtain ⟨h1,h2,h3⟩:=tK h
  have ih:=Ck l h1
  have hx:=Aj k lo hi l
  rw [hx]
  unfold hG
  rcases h3 with ⟨hk,rfl⟩|⟨rfl,rfl,hle⟩|hk|⟨hk,c,rfl⟩
  .obtain ⟨rfl,rfl⟩:=h2 (by omega)
   rcases hk with rfl|rfl<;>decide
  .show sJ (Rx.mk 2 lo hi [])<=_
   rw [Aj];simp only [ms];omega
  .rw [xh hk]
   have hr:=Mt (μ:=sJ) YV k (gS l)
   obtain ⟨-,-,hu,hz⟩:=Xz k
   refine B5 (P:=λy=>sJ y<=max 1 (ms sJ l)) (by omega) (by omega) (λa ha=>?_) ?_
   .have:=Ch (μ:=sJ) ha
    omega
   .show sJ (Rx.mk k 0 0 _)<=_
    rw [Aj];omega
  .obtain ⟨rfl,rfl⟩:=h2 (by omega)
   have en:gS [c]=[hG c]:=rfl
   rw [en] at ih ⊢
   have ih:sJ (hG c)+0<=sJ c+0:=ih
   show _<=max 1 (sJ c+0)
   refine ED (P:=λy=>sJ y<=max 1 (sJ c+0)) hk (by show (1:Nat)<=_;omega) (by show (1:Nat)<=_;omega) (by omega) (λd hd=>?_) ?_
   .have:=Ch (μ:=sJ) hd
    have:=YV (hG c)
    omega
   .show sJ (Rx.mk k 0 0 _)<=_
    rw [Aj];simp only [ms];omega
def Ck:∀l:List Rx,hZ l=true->ms sJ (gS l)<=ms sJ l
 |[],_=>Nat.le_refl _
 |a::l,h=>by
  unfold hZ at h
  rw [Bool.and_eq_true] at h
  have h1:=US a h.1
  have h2:=Ck l h.2
  show sJ (hG a)+ms sJ (gS l)<=sJ a+ms sJ l
  omega
end
def LZ {N:Nat} {k:Int} {lo hi:UInt8} {l:List Rx} (h:eV (.mk k lo hi l)=true) (hs:(Rx.mk k lo hi l).sz<=10000) (hf:Fy N (.mk k lo hi l)):xw N (.mk k lo hi (gS l))=true:=by
 obtain ⟨h1,h2,h3⟩:=tK h
 have ni:=yA l h1
 have Wv:=Ck l h1
 rw [wM] at hs
 unfold Fy at hf
 unfold xw
 rw [Bool.and_eq_true,Bool.and_eq_true]
 refine ⟨⟨?_,aO (by rw [wM];omega)⟩,?_⟩
 .unfold pf
  rw [Bool.and_eq_true,Bool.and_eq_true]
  refine ⟨⟨aO (by omega),aO (by omega)⟩,?_⟩
  rcases h3 with ⟨hk,rfl⟩|⟨hk,rfl,hle⟩|hk|⟨hk,c,rfl⟩
  .show (k !=6&&k !=7)=true
   rcases hk with rfl|rfl<;>rfl
  .subst hk;rfl
  .cases gS l with
   |nil=>rcases hk with rfl|rfl|rfl<;>rfl
   |cons a m=>rcases hk with rfl|rfl|rfl<;>rfl
  .show (!(k==6&&(hG c).k==6&&(hG c).l.isEmpty))=true
   have hc:eV c=true:=by
    unfold hZ at h1
    rw [Bool.and_eq_true] at h1
    exact h1.1
   have hn:=Mx c hc
   generalize hG c=y at hn
   cases y with
   |mk k' xN y6 l'=>
    by_cases e:k'=6
    .unfold NF at hn
     obtain ⟨-,-,h|h|h|⟨_,d,hd,_⟩|h⟩:=hn
     .omega
     .omega
     .omega
     .rw [hd];simp [Rx.l]
     .omega
    .have:(Rx.k (.mk k' xN y6 l')==6)=false:=by simpa [Rx.k] using e
     rw [this];simp
 .show aR (k=4\/k=5->pcX k (gS l)<=N)=true
  refine aO λWi=>?_
  have h4:=Ro YW ((gS l).flatMap λc=>if c.k=k then c.l else [c])
  have h5:=FR (μ:=sJ) YV k (gS l)
  have h6:=hf.2 Wi
  show ((gS l).flatMap λc=>if c.k=k then c.l else [c]).length<=N
  omega
mutual
def Qx {N:Nat}:∀x:Rx,eV x=true->x.sz<=10000->Fy N x->HJ N x=true
 |.mk k lo hi l,h,hs,hf=>by
  obtain ⟨h1,-,-⟩:=tK h
  unfold HJ
  rw [LZ h hs hf,Bool.and_true]
  rw [wM] at hs
  unfold Fy at hf
  exact LX l h1 (by omega) hf.1
def LX {N:Nat}:∀l:List Rx,hZ l=true->ms Rx.sz l<=10000->BM N l->BN N l=true
 |[],_,_,_=>rfl
 |a::l,h,hs,hf=>by
  unfold hZ at h
  rw [Bool.and_eq_true] at h
  unfold BM at hf
  have hs:a.sz+ms Rx.sz l<=10000:=hs
  unfold BN
  rw [Qx a h.1 (by omega) hf.1,LX l h.2 (by omega) hf.2]
  rfl
end
end Go.Proofs.YtnpkhgljhcnpcaaGreatDoor
namespace Go.Proofs.YtnpkhgljhcnpcaaGreatDoor
open Go renaming World->aA,Calls->aH
open Go.IntKind renaming wrap->aC
open Go.IntWalk renaming i64_in->aS
open Go.Proofs.Tryz renaming prog->aB
open _root_.Decidable renaming decide->aR
open Go.Ending renaming returned->aJ
open List renaming mem_append->gg,mem_cons->dT,mem_of_getElem?->dI,getElem?_eq_getElem->ie,getElem?_eq_some_iff->nY,mem_map->pN,length_take->A5,flatMap_append->rS,drop_eq_getElem_cons->Aq,take_add_one->EE,map_append->sP,drop_of_length_le->Ar,take_of_length_le->th
open Go Go.W
def acZ {x:Rx} (h:NF x):0<=x.k:=by
 cases x
 unfold NF at h
 simp only [Rx.k]
 omega
def KJ {x:Rx} (h:eV x=true) (hk:x.k<3):hG x=x:=by
 cases x with
 |mk k lo hi l=>
  have Kw:k<3:=hk
  clear hk
  obtain ⟨h1,h2,h3⟩:=tK h
  rcases h3 with ⟨hk,rfl⟩|⟨rfl,rfl,hle⟩|hk|⟨hk,c,rfl⟩
  .rcases hk with rfl|rfl<;>rfl
  .rfl
  .omega
  .omega
abbrev ab0 (n:Nat):Prop:=∀(x:Rt) (w:aA),x.sz<=n->eV x.rx=true->x.P w->aH aB eP #[x.v] w λr w'=>qT x.fp w (hG x.rx) r w'/\bW w w'
def D4:∀n:Nat,n<=1000->ab0 n
 |0,_=>λx w h _ _=>absurd h (by have:=Rt.nZ x;omega)
 |n+1,hn=>λx w h SU px=>by
  have ih:=D4 n (by omega)
  have hs:=Rt.hM x
  have hl:=Rt.gj x.l
  have nr:=Rt.cX px.parts.1
  refine enthymemeref04_simple.dQ _ _ _ _ w _ ((Cc px).cC λb1 w1 H1=>H1.cC λb2 w2 H2=>bA (λhk=>H2.bH λw3 H3=>⟨⟨x,rfl,(KJ SU (by rw [zK];exact hk)).symm,H3.getD 0,λb hb=>.inr hb⟩,H3.fr⟩) (λhk=>?_))
  have Ad:=SU
  rw [Rt.eE] at Ad
  obtain ⟨hgl,uF,adk⟩:=tK Ad
  obtain ⟨elo,ehi⟩:=uF (by omega)
  have enx:hG x.rx=oS (.mk x.k 0 0 (gS (Rt.cR x.l))):=by
   rw [Rt.eE,elo,ehi]
   unfold hG
   rfl
  have loop:∀(d i:Nat) (acc:List Rt) (sl:Sl) (w1:aA),i+d=x.l.length->Rt.cR acc=gS (Rt.cR (x.l.take i))->(∀b∈Rt.iD acc,w.heap.size<=b\/b∈x.fp)->
    LH F0 w w1 [.g b1,.g b2,.row aG 4 sl (acc.flatMap Rt.c)] [.tree x,.trees acc]->
    enthymemeref04_simple.fO b1 x.k x.lo.toNat x.hi.toNat x.s b2 0 0 0 ⟨none,0,0⟩ sl (i:Int) w1 λr w'=>qT x.fp w (hG x.rx) r w'/\bW w w':=by
   intro d
   induction d with
   |zero=>
    intro i acc sl w1 hi he hf H
    rw [th (by omega)] at he
    have q5:∀b∈(Rt.row sl acc).fp,w.heap.size<=b:=λb hb=>(H.new _ (dI (i:=2) rfl) b (gP hb)).resolve_right id
    have H':LH F0 w w1 [.g b1,.g b2] [.tree x,.trees acc,Rt.row sl acc,.tree (.mk x.k 0 0 sl acc)]:=H.K7 2 1 x.k 0 0
    have Z2:Rx.mk x.k 0 0 (Rt.cR acc)=.mk x.k 0 0 (gS (Rt.cR x.l)):=by rw [he]
    have acR:(Rx.mk x.k x.lo x.hi (Rt.cR x.l)).sz<=10000:=by
     rw [<-Rt.eE,Rt.ja];omega
    have eL:=LZ (N:=100000) Ad acR (Kk _ (by
     have hle:∀y:Rx,sJ y<=y.sz:=WL
     have:=hle (Rx.mk x.k x.lo x.hi (Rt.cR x.l))
     omega))
    unfold xw at eL
    rw [Bool.and_eq_true,Bool.and_eq_true] at eL
    have ni:(Rt.mk x.k 0 0 sl acc).sz<=10000:=by
     have h1:=Rt.ja (Rt.mk x.k 0 0 sl acc)
     have h2:=yA (Rt.cR x.l) hgl
     have h3:=Rt.CB x.l
     rw [Lf] at h3
     rw [<-h1]
     show (Rx.mk x.k 0 0 (Rt.cR acc)).sz<=_
     rw [Z2,wM]
     omega
    have hfo:pf (.mk x.k 0 0 (Rt.cR acc))=true:=by
     rw [Z2]
     have:=eL.1.1
     rw [elo,ehi] at this
     exact this
    refine enthymemeref04_simple.bT _ _ _ _ _ _ _ _ _ _ _ _ _ _ (aX (aK (by omega)) ?_)
    refine H'.Bz (Nu (.mk x.k 0 0 sl acc) ⟨by show 3<=x.k;omega,by show x.k<=7;omega⟩ ni hfo (λc hc=>?_) w1 (H'.getD 3)) (λb hb=>⟨_,dI (i:=3) rfl,aV.2 hb⟩) λt w2 ht H2 ft=>?_
    .have Z7:c.rx∈gS (Rt.cR x.l):=by
      rw [<-he,Rt.fX]
      exact pN.2 ⟨c,hc,rfl⟩
     have:=acZ (Cl (Rt.cR x.l) hgl _ Z7)
     rwa [zK] at this
    refine ⟨_,_,_,t.s,rfl,H2.bH λw3 H3=>⟨⟨t,rfl,?_,H3.getD 4,λb hb=>?_⟩,H3.fr⟩⟩
    .rw [ht,enx]
     show oS (Rx.mk x.k 0 0 (Rt.cR acc))=_
     rw [he]
    .rcases ft b hb with hb|hb
     .exact .inl (Nat.le_trans H.fr.size hb)
     .unfold Rt.fp at hb
      rcases gg.1 hb with hb|hb
      .exact .inl (q5 b hb)
      .exact hf b hb
   |succ d rR=>
    intro i acc sl w1 hi he hf H
    have hg:x.l[i]? =some (x.l[i]'(by omega)):=ie (by omega)
    generalize x.l[i]'(by omega)=a at hg
    have ma:=dI hg
    have Gu:=Rt.eM ma
    have ga:eV a.rx=true:=Eh hgl (by rw [Rt.fX];exact pN.2 ⟨a,ma,rfl⟩)
    have ffp:∀b∈a.fp,b∈x.fp:=λb hb=>Rt.fJ.2 (.inr (Rt.bU.2 ⟨a,ma,hb⟩))
    refine enthymemeref04_simple.bT _ _ _ _ _ _ _ _ _ _ _ _ _ _ (bF (aO (by omega)) (ku (show x.P w1 from H.getD 0) rfl hg ?_))
    refine H.Bz (ih a w1 (by omega) ga ((show x.P w1 from H.getD 0).parts.2.mem ma)) (λb hb=>⟨_,dI (i:=0) rfl,aV.2 (ffp b hb)⟩) λt w2 ht H2 ft=>?_
    have xu:=Rt.cX (H2.get 2:bD _ _ _ _ _).jG
    have acX:acc.length=i:=by
     have h1:=congrArg List.length he
     rw [Rt.fX,oK,Rt.fX] at h1
     simp only [List.length_map,A5] at h1
     omega
    refine ⟨_,_,_,t.s,rfl,H2.wV 2 pW (xs:=acc.flatMap Rt.c) rfl (λs' w3 H3=>?_) (by omega)⟩
    have H4:=(H3.CF 1 2).take 3
    rw [bP _ (by omega)]
    refine rR (i+1) (acc++[t]) s' w3 (by omega) ?_ (s9 hf λb hb=>?_) ?_
    .rw [lJ,he,EE,hg,Option.toList_some,lJ,oK,oK,sP]
     show _++[t.rx]=_
     rw [ht];rfl
    .rcases ft b hb with hb|hb
     .exact .inl (Nat.le_trans H.fr.size hb)
     .exact .inr (ffp b hb)
    .rw [ou]
     exact H4.forget _ (by simp)
  exact loop x.l.length 0 [] ⟨none,0,0⟩ w2 (by omega) rfl (λb hb=>by unfold Rt.iD at hb;cases hb) (ID (H2.qb aG 4))
def Hj (x:Rt) (w:aA) (h:x.sz<=1000) (hg:eV x.rx=true) (px:x.P w):aH aB eP #[x.v] w λr w'=>qT x.fp w (hG x.rx) r w'/\bW w w':=D4 1000 (Nat.le_refl _) x w h hg px
def IC (x:Rx):Rx:=if oO x=0 then Iq (hG x) else zx
def UR (x:Rx):Int:=if oO x=0 then Ip (hG x) else oO x
def V3 (GL:List Nat) (w:aA) (x:Rx) (c:Int) (r:Ending) (w':aA):Prop:=∃t:Rt,r=aJ (.tuple #[t.v,.int .i64 c])/\t.rx=x/\t.P w'/\∀b∈t.fp,w.heap.size<=b\/b∈GL
def aan (x:Rt) (w:aA) (h:x.sz<=1000000) (px:x.P w):aH aB mQ #[x.v] w λr w'=>V3 x.fp w (Iq x.rx) (Ip x.rx) r w'/\bW w w':=by
 refine enthymemeref04_few.dQ _ _ _ _ w _ ((Cc px).cC λb1 w1 H1=>H1.cC λb2 w2 H2=>H2.bC (Fc x w2 h (H2.getD 0)) ?_)
 rintro _ w3 rfl H3
 refine ⟨_,rfl,bA (λhl=>H3.bH λw4 H4=>⟨⟨oA,?_,?_,yz _,λb hb=>(pA hb).elim⟩,H4.fr⟩) (λhl=>H3.bH λw4 H4=>⟨⟨x,?_,?_,H4.getD 0,λb hb=>.inr hb⟩,H4.fr⟩)⟩
 .unfold Ip;rw [Rt.ja,aN (by omega)];rfl
 .unfold Iq;rw [Rt.ja,aN (by omega)];rfl
 .unfold Ip;rw [Rt.ja,aI (by omega)]
 .unfold Iq;rw [Rt.ja,aI (by omega)]
def Hh (x:Rt) (w:aA) (h:x.sz<=1000000) (px:x.P w):aH aB kC #[x.v] w λr w'=>V3 x.fp w (IC x.rx) (UR x.rx) r w'/\bW w w':=by
 refine enthymemeref04_Normal.dQ _ _ _ _ w _ ((Cc px).cC λb1 w1 H1=>H1.cC λb2 w2 H2=>H2.bC (Kb x w2 h (H2.getD 0)) ?_)
 rintro _ w3 rfl H3
 unfold IC UR
 refine ⟨_,rfl,gB (λjx=>H3.bH λw4 H4=>⟨⟨oA,?_,?_,yz _,λb hb=>(pA hb).elim⟩,H4.fr⟩) (λhe=>?_)⟩
 .rw [aI jx];rfl
 .rw [aI jx];rfl
 obtain ⟨hg,hs⟩:=xJ he
 have Up:x.sz<=64:=by rw [<-Rt.ja];exact hs
 rw [aN he,aN he]
 refine H3.Bz (Hj x w3 (by omega) hg (H3.getD 0)) (λb hb=>⟨_,dI (i:=0) rfl,aV.2 hb⟩) λt w4 ht H4 ft=>?_
 have W4:t.sz<=1000000:=by
  have:=FY _ hg
  rw [<-Rt.ja,ht];omega
 refine ⟨_,_,_,t.s,rfl,o7 ((aan t w4 W4 (H4.getD 1)).mono ?_)⟩
 rintro _ w5 ⟨⟨u,rfl,hu,pu,fu⟩,f5⟩
 have H5:=H4.pS (.tree u) f5 pu λb hb=>(fu b (aV.1 hb)).imp id λhb=>.inr ⟨_,dI (i:=1) rfl,aV.2 hb⟩
 refine ⟨f5,_,_,_,u.s,_,rfl,H5.bH λw6 H6=>⟨⟨u,by rw [ht],by rw [hu,ht],H6.getD 2,λb hb=>?_⟩,H6.fr⟩⟩
 rcases fu b hb with hb|hb
 .exact .inl (Nat.le_trans H4.fr.size hb)
 .exact (ft b hb).imp (λhb=>Nat.le_trans H3.fr.size hb) id
def PF {N:Nat} (hS:y9 N) (hN:N+1<=1000000) (x:Rt) (w:aA) (h:x.sz<=1000000) (hf:Fy N x.rx) (px:x.P w):aH aB po #[x.v] w λr w'=>V5 w (IC x.rx) (UR x.rx) r w'/\bW w w':=by
 refine regex_Normal.dQ _ _ _ _ w _ ((Cc px).cC λb1 w1 H1=>H1.cC λb2 w2 H2=>H2.bC (LA x w2 h (H2.getD 0)) ?_)
 rintro _ w3 rfl H3
 unfold IC UR
 refine ⟨_,rfl,gB (λjx=>H3.bH λw4 H4=>⟨⟨oA,?_,?_,yz _,λb hb=>(pA hb).elim⟩,H4.fr⟩) (λhe=>H3.bH λw4 H4=>H4.rC (TC w4) ?_)⟩
 .rw [aI jx];rfl
 .rw [aI jx];rfl
 rintro _ w5 ⟨F,rfl,hF,pF,nF⟩ _ F5
 have H5:=F5.rd (.fm F) pF nF
 obtain ⟨hg,hs⟩:=xJ he
 rw [aN he,aN he]
 refine ⟨_,rfl,H5.Bz (PQ hS hN hF x w5 h (Qx _ hg (by omega) hf) (H5.getD 1) (H5.getD 0)) (λb hb=>?_) λt w6 ht H6 _=>?_⟩
 .rcases gg.1 hb with hb|hb
  .exact ⟨_,dI (i:=0) rfl,aV.2 hb⟩
  .exact ⟨_,dI (i:=1) rfl,hb⟩
 have W4:t.sz<=1000000:=by
  have:=FY _ hg
  rw [<-Rt.ja,ht];omega
 refine ⟨_,_,_,t.s,rfl,H6.rC (Nq t w6 W4 (H6.getD 2)) ?_⟩
 rintro _ w7 ⟨u,rfl,hu,pu,fu⟩ _ F7
 have H7:=F7.rd (.tree u) pu λb hb=>fu b (aV.1 hb)
 exact ⟨_,_,_,u.s,_,rfl,H7.bH λw8 H8=>⟨⟨u,by rw [ht],by rw [hu,ht],H8.getD 3,λb hb=>Nat.le_trans H6.fr.size (fu b hb)⟩,H8.fr⟩⟩
abbrev BL:=List UInt8
def gQ (s:BL) (i:Nat):UInt8:=s.getD i 0
def Tb (c:UInt8):Bool:=aR (32<=c.toNat)&&aR (c.toNat<=126)&&!(c==39)&&!(c==92)
def wk (c:UInt8):Bool:=aR (97<=c.toNat)&&aR (c.toNat<=122)
def uB (n:Nat):UInt8:=UInt8.ofNat (if n<10 then 48+n else 87+n)
def rf (c:UInt8):Int:=if 48<=c.toNat/\c.toNat<=57 then (c.toNat:Int) - 48 else if 97<=c.toNat/\c.toNat<=102 then (c.toNat:Int) - 87 else -1
def iR (s:BL) (at_:Nat):UInt8×Nat:=
 if (aR (at_+3<=s.length)&&gQ s at_==39&&gQ s (at_+2)==39&&Tb (gQ s (at_+1)))=true then (gQ s (at_+1),3)
 else if (aR (at_+4<=s.length)&&gQ s at_==92&&gQ s (at_+1)==120&&aR (0<=rf (gQ s (at_+2)))&&aR (0<=rf (gQ s (at_+3))))=true then (UInt8.ofNat ((16 *rf (gQ s (at_+2))+rf (gQ s (at_+3))).toNat),4)
 else (0,0)
structure kX where
 tx:BL
 at_:Nat
 k:Nat
 lo:UInt8
 hi:UInt8
structure RgQ where
 k:Nat
 lo:UInt8
 hi:UInt8
 n:Nat
def KI:RgQ:=⟨0,0,0,0⟩
def jt (s:BL) (i:Nat):RgQ:=
 let a:=iR s i
 if 0<a.2 then ⟨2,a.1,a.1,a.2⟩ else if gQ s i≠91 then KI else
 let b:=iR s (i+1)
 let dash:=i+1+b.2
 if b.2=0\/s.length<=dash\/gQ s dash≠45 then KI else
 let c:=iR s (dash+1)
 let fin:=dash+1+c.2
 if c.2=0\/s.length<=fin\/gQ s fin≠93\/c.1.toNat<b.1.toNat then KI else ⟨2,b.1,c.1,fin+1 - i⟩
def DM (s:BL) (i:Nat):Nat->Nat->Nat
 |0,n=>n
 |f+1,n=>if (wk (gQ s i)&&aR (i+n<s.length)&&wk (gQ s (i+n)))=true then DM s i f (n+1) else n
def Gv (s:BL):Nat->Nat->List kX
 |0,_=>[⟨[],s.length,0,0,0⟩]
 |f+1,i=>if s.length<=i then [⟨[],s.length,0,0,0⟩] else if gQ s i=32 then Gv s f (i+1) else
  let r:=jt s i
  let n:=if r.n=0 then DM s i s.length 1 else r.n
  ⟨(s.take (i+n)).drop i,i,r.k,r.lo,r.hi⟩::Gv s f (i+n)
def vI (s:BL):List kX:=Gv s (s.length+1) 0
abbrev lV:=Nat×Bool
section
variable (l:List kX)
def kO (i:Nat):kX:=l.getD i ⟨[],0,0,0,0⟩
def pC (st:lV):BL:=bif st.2 then [32] else (kO l st.1).tx
def ju (s:BL) (st:lV):Bool×lV:=bif pC l st==s then (true,bif s.isEmpty then st else (st.1+1,st.2)) else (false,st)
def ss (s:BL) (st:lV):lV:=match ju l s st with
 |(true,st)=>st
 |(false,st)=>(st.1,true)
def AT (st:lV):Bool:=!st.2&&!(pC l st==[])&&!(pC l st==[41])&&!(pC l st==[44])&&!(pC l st==[124])&&!(pC l st==[38])
def xi (k:Int):List Rx->Rx
 |[a]=>a
 |m=>.mk k 0 0 m
def vK:Nat->BL
 |0=>[110,111,110,101]
 |1=>[101,109,112,116,121]
 |3=>[99,97,116]
 |4=>[97,108,116]
 |5=>[97,108,108]
 |_=>[]
def qd (st:lV):Nat->Nat->Option Nat
 |0,_=>none
 |f+1,k=>bif Nat.beq k 2||!(pC l st==vK k) then qd st f (k+1) else some k
mutual
def s8:Nat->lV->Option (Rx×lV)
 |0,_=>none
 |f+1,st=>match yd f st with
  |some (a,st)=>DS f [a] st
  |none=>none
def DS:Nat->List Rx->lV->Option (Rx×lV)
 |0,_,_=>none
 |f+1,acc,st=>match ju l [124] st with
  |(true,st)=>match yd f st with
   |some (a,st)=>DS f (acc++[a]) st
   |none=>none
  |(false,st)=>some (xi 4 acc,st)
def yd:Nat->lV->Option (Rx×lV)
 |0,_=>none
 |f+1,st=>match Gl f st with
  |some (a,st)=>DT f [a] st
  |none=>none
def DT:Nat->List Rx->lV->Option (Rx×lV)
 |0,_,_=>none
 |f+1,acc,st=>match ju l [38] st with
  |(true,st)=>match Gl f st with
   |some (a,st)=>DT f (acc++[a]) st
   |none=>none
  |(false,st)=>some (xi 5 acc,st)
def Gl:Nat->lV->Option (Rx×lV)
 |0,_=>none
 |f+1,st=>match vl f st with
  |some (a,st)=>zt f [a] st
  |none=>none
def zt:Nat->List Rx->lV->Option (Rx×lV)
 |0,_,_=>none
 |f+1,acc,st=>bif AT l st then match vl f st with
   |some (a,st)=>zt f (acc++[a]) st
   |none=>none
  else some (xi 3 acc,st)
def vl:Nat->lV->Option (Rx×lV)
 |0,_=>none
 |f+1,st=>match ju l [33] st with
  |(true,st)=>match vl f st with
   |some (a,st)=>some (.mk 6 0 0 [a],st)
   |none=>none
  |(false,st)=>match Bk f st with
   |some (a,st)=>CK f a st
   |none=>none
def CK:Nat->Rx->lV->Option (Rx×lV)
 |0,_,_=>none
 |f+1,a,st=>match ju l [42] st with
  |(true,st)=>CK f (.mk 7 0 0 [a]) st
  |(false,st)=>some (a,st)
def Bk:Nat->lV->Option (Rx×lV)
 |0,_=>none
 |f+1,st=>bif !st.2&&Nat.beq (kO l st.1).k 2 then some (.mk 2 (kO l st.1).lo (kO l st.1).hi [],(st.1+1,st.2)) else match qd l st 6 0 with
  |some k=>bif Nat.ble k 2 then some (.mk k 0 0 [],(st.1+1,st.2)) else match B8 f (st.1+1,st.2) with
   |some (m,st)=>some (.mk k 0 0 m,st)
   |none=>none
  |none=>let st:=ss l [40] st
   bif st.2 then some (zx,st) else match s8 f st with
   |some (a,st)=>some (a,ss l [41] st)
   |none=>none
def B8:Nat->lV->Option (List Rx×lV)
 |0,_=>none
 |f+1,st=>match ju l [41] (ss l [40] st) with
  |(nn,st)=>bif st.2||nn then some ([],st) else match s8 f st with
   |some (a,st)=>Ix f [a] st
   |none=>none
def Ix:Nat->List Rx->lV->Option (List Rx×lV)
 |0,_,_=>none
 |f+1,acc,st=>match ju l [44] st with
  |(true,st)=>match s8 f st with
   |some (a,st)=>Ix f (acc++[a]) st
   |none=>none
  |(false,st)=>some (acc,ss l [41] st)
end
end
def zE (s:BL):Option (Rx×Nat×Int):=
 if 4096<s.length then some (zx,4096,4) else
 let l:=vI s
 match s8 l 1000 (0,false) with
 |some (r,st)=>let st:=ss l [] st
  if st.2=true then some (zx,(kO l st.1).at_,2) else if 1000000<r.sz then none else if 64<r.sz then some (zx,s.length,4) else some (r,0,0)
 |none=>none
def eN (c:UInt8):BL:=if Tb c=true then [39,c,39] else [92,120,uB (c.toNat / 16),uB (c.toNat%16)]
def dJ:Rx->Nat
 |.mk k _ _ l=>if k=6 then 3 else if k<3\/k=7\/l.length<2 then 4 else if k=3 then 2 else if k=4 then 0 else 1
def dN (lv:Nat) (a:Rx) (t:BL):BL:=if dJ a<lv then 40::(t++[41]) else t
def Ci (k:Int):BL:=if k=3 then [99,97,116,40] else if k=4 then [97,108,116,40] else [97,108,108,40]
def nf (k:Int):BL:=if k=3 then [] else if k=4 then [124] else [38]
def sg (t:BL):UInt8:=t.getLastD 0
def nU (k:Int):BL->List BL->BL
 |out,[]=>out
 |out,t::ts=>nU k ((if k=3/\wk (sg out)=true/\wk (gQ t 0)=true then out++[32] else out)++nf k++t) ts
def xk:List BL->BL
 |[]=>[]
 |t::_=>t
def Uw (k:Int):List BL->BL
 |[]=>[]
 |t::ts=>nU k t ts
mutual
def iC:Rx->BL
 |.mk k lo hi l=>if k=0 then [110,111,110,101] else if k=1 then [101,109,112,116,121] else
  if k=2 then (if lo=hi then eN lo else 91::(eN lo++45::(eN hi++[93]))) else
  if k=6 then 33::xk (j9 3 l) else if k=7 then xk (j9 4 l)++[42] else
  if l.length<2 then Ci k++(xk (j9 0 l)++[41]) else
  Uw k (j9 (dJ (.mk k lo hi l)+1) l)
def j9 (lv:Nat):List Rx->List BL
 |[]=>[]
 |a::l=>dN lv a (iC a)::j9 lv l
end
mutual
def okW:Rx->Bool
 |.mk k _ _ l=>aR (0<=k)&&aR (k<=7)&&(aR (k<6)||aR (l.length=1))&&DK l
def DK:List Rx->Bool
 |[]=>true
 |a::l=>okW a&&DK l
end
def Fj (s:BL):Option Bool:=match zE s with
 |some (r,_,e)=>if e=0 then (if UR r=0 then (if okW (IC r)=true/\(IC r).sz<=1000 then some (dN 0 (IC r) (iC (IC r))==s) else none) else some false) else some false
 |none=>none
def rgQ (a b:UInt8):Rx:=.mk 2 a b []
def gR:Nat->Rx
 |0=>rgQ 97 97
 |1=>rgQ 98 98
 |2=>rgQ 0 0
 |3=>rgQ 97 98
 |4=>sF
 |_=>gw
def Kl (a b c:Rx):Nat->Rx
 |0=>a
 |1=>.mk 3 0 0 [a,b]
 |2=>.mk 4 0 0 [a,b,c]
 |3=>.mk 7 0 0 [a]
 |4=>.mk 3 0 0 [.mk 7 0 0 [a],b]
 |5=>.mk 6 0 0 [.mk 3 0 0 [a,b]]
 |6=>.mk 3 0 0 [b,.mk 7 0 0 [.mk 4 0 0 [a,c]]]
 |_=>.mk 5 0 0 [.mk 6 0 0 [b],.mk 3 0 0 [a,gw]]
def sC (k:Nat):BL:=iC (hG (Kl (gR (k%6)) (gR (k / 6%6)) (gR (k / 36%6)) (k / 216%8)))
end Go.Proofs.YtnpkhgljhcnpcaaGreatDoor
