import Derived.Test.YtcifihepfadgfaaGreatDoorR1
import Derived.Test.YtcifihepfadgfaaGreatDoorV
set_option linter.unusedVariables false
namespace Go.Proofs.YtcifihepfadgfaaGreatDoor
open List renaming mem_append->fW,mem_cons->cU,mem_of_getElem?->cZ,getElem?_eq_getElem->gW,getElem?_eq_some_iff->oN,mem_map->oT,length_take->qlT,flatMap_append->qfA,drop_eq_getElem_cons->qdG,take_add_one->qtO,map_append->qmpA,drop_of_length_le->qdO,take_of_length_le->qtOL
open Go Go.W
theorem vu {p:Addr} {K:Addr->Prop} (h:K p):aX (some p) K:=h
theorem LF {x y:Int} (l:List Int) (h:x<y):sN (gC x y::l)=-1:=by unfold sN gC;simp [h]
theorem LD {x y:Int} (l:List Int) (h:y<x):sN (gC x y::l)=1:=by
 unfold sN gC
 rw [if_neg (show ¬x<y by omega),if_pos h]
 simp
theorem LB {x y:Int} (l:List Int) (h1:¬x<y) (h2:¬y<x):sN (gC x y::l)=sN l:=by
 conv=>lhs;unfold sN gC
 rw [if_neg h1,if_neg h2]
 simp
abbrev Yn (n:Nat):Prop:=∀(a b:Rt) (w:World),a.sz<=n->a.P w->b.P w->Calls Tryz.prog cG #[a.v,b.v] w λr w'=>r=.returned (.int .i64 (cQ a.rx b.rx))/\bI w w'
theorem tz:∀n:Nat,n<=1000000->Yn n
 |0,_=>λa b w h _ _=>absurd h (by have:=Rt.oP a;omega)
 |n+1,hn=>λa b w h pa pb=>by
  have ih:=tz n (by omega)
  have hs:=Rt.gm a
  have hl:=Rt.eZ a.l
  have na:=Rt.cC pa.parts.1
  have nbb:=Rt.cC pb.parts.1
  have e:cQ a.rx b.rx=if sN [gC a.k b.k,gC a.lo.toNat b.lo.toNat,gC a.hi.toNat b.hi.toNat]≠0 then sN [gC a.k b.k,gC a.lo.toNat b.lo.toNat,gC a.hi.toNat b.hi.toNat] else cmpL (Rt.bU a.l) (Rt.bU b.l):=by
   rw [Rt.dC a,Rt.dC b];unfold cQ;rfl
  have WE:∀(d i:Nat) (b2 b3:Nat) (w1:World),i+d=a.l.length->i<=b.l.length->cmpL (Rt.bU (a.l.drop i)) (Rt.bU (b.l.drop i))=cQ a.rx b.rx->LH F0 w w1 [.g b2,.g b3] [.tree a,.tree b]->
    enthymemeref04_Compare.l4 b2 a.k a.lo.toNat a.hi.toNat a.s b3 b.k b.lo.toNat b.hi.toNat b.s (i:Int) w1 λr w'=>r=.returned (.int .i64 (cQ a.rx b.rx))/\bI w w':=by
   intro d
   induction d with
   |zero=>
    intro i b2 b3 w1 hi U1 he H
    rw [qdO (by omega:a.l.length<=i)] at he
    refine enthymemeref04_Compare.dJ _ _ _ _ _ _ _ _ _ _ _ _ _ (aL (decide_eq_false (by omega)) (aM (λh=>⟨?_,H.fr⟩) (λh=>aM (λh2=>?_) (λh2=>⟨?_,H.fr⟩))))
    .rw [qdG (by omega:i<b.l.length)] at he
     rw [<-he];rfl
    .omega
    .rw [qdO (by omega:b.l.length<=i)] at he
     rw [<-he];rfl
   |succ d pT=>
    intro i b2 b3 w1 hi U1 he H
    have hg:a.l[i]? =some (a.l[i]'(by omega)):=gW (by omega)
    rw [qdG (by omega:i<a.l.length)] at he
    generalize a.l[i]'(by omega)=x at hg he
    have CF:=Rt.dM (cZ hg)
    refine enthymemeref04_Compare.dJ _ _ _ _ _ _ _ _ _ _ _ _ _ (aQ (decide_eq_true (by omega)) (aM (λl6=>⟨by omega,by omega,?_⟩) (λAo=>aM (λh=>?_) (λh=>aM (λh2=>⟨?_,H.fr⟩) (λh2=>?_)))))
    .have Rf:b.l[i]? =some (b.l[i]'(by omega)):=gW (by omega)
     rw [qdG (by omega:i<b.l.length)] at he
     generalize b.l[i]'(by omega)=y at Rf he
     refine Rt.at' (show a.P w1 from H.getD 0).parts.1 hg λp hp _=>H.aK λw3 H3=>?_
     have c:=Rt.again (show a.P w3 from H3.getD 0).parts.1 hg hp
     refine ⟨_,_,_,_,c.c0,c.c1,c.c2,c.c3,by omega,by omega,Rt.at' (show b.P w3 from H3.getD 1).parts.1 Rf λq hq c'=>⟨_,_,_,_,c'.c0,c'.c1,c'.c2,c'.c3,H3.aJ (ih x y w3 (by omega) ((show a.P w3 from H3.getD 0).parts.2.get hg) ((show b.P w3 from H3.getD 1).parts.2.get Rf)) ?_⟩⟩
     rintro _ w4 rfl H4
     have e2:cmpL (Rt.bU (x::a.l.drop (i+1))) (Rt.bU (y::b.l.drop (i+1)))=if cQ x.rx y.rx≠0 then cQ x.rx y.rx else cmpL (Rt.bU (a.l.drop (i+1))) (Rt.bU (b.l.drop (i+1))):=rfl
     rw [e2] at he
     refine ⟨_,rfl,eB (λhc=>⟨?_,H4.fr⟩) (λhc=>?_)⟩
     .rw [if_pos hc] at he
      rw [he]
     .rw [if_neg (by simpa using hc)] at he
      rw [aY _ (by omega)]
      exact pT (i+1) b2 b3 w4 (by omega) (by omega) he H4
    .omega
    .rw [qdO (by omega:b.l.length<=i)] at he
     rw [<-he];rfl
    .omega
  have wl:∀(c:UInt8),IntKind.wrap .i64 (c.toNat:Int)=(c.toNat:Int):=λc=>IntWalk.i64_in _ (by have:=c.toNat_lt;omega)
  refine enthymemeref04_Compare.cV _ _ _ _ _ _ _ _ w _ ((mu [.tree a,.tree b] (by
   intro e he
   simp only [cU,List.not_mem_nil,or_false] at he
   rcases he with rfl|rfl
   .exact pa
   .exact pb)).bJ λb2 w1 H1=>H1.bJ λb3 w2 H2=>H2.nw λw3 _ H3=>H3.nw λw4 _ H4=>?_)
  have H4:LH F0 w w4 [.g b2,.g b3,.c w2.heap.size [.int .i64 a.k,.int .i64 (IntKind.wrap .i64 (a.lo.toNat:Int)),.int .i64 (IntKind.wrap .i64 (a.hi.toNat:Int))] bW,.c w3.heap.size [.int .i64 b.k,.int .i64 (IntKind.wrap .i64 (b.lo.toNat:Int)),.int .i64 (IntKind.wrap .i64 (b.hi.toNat:Int))] bW] [.tree a,.tree b]:=H4
  rw [wl,wl,wl,wl] at H4
  have step:∀(i:Nat) (x y:Int) (w5:World),i<3->([.int .i64 a.k,.int .i64 (a.lo.toNat:Int),.int .i64 (a.hi.toNat:Int)]:List Value)[i]? =some (.int .i64 x)->([.int .i64 b.k,.int .i64 (b.lo.toNat:Int),.int .i64 (b.hi.toNat:Int)]:List Value)[i]? =some (.int .i64 y)->
    LH F0 w w5 [.g b2,.g b3,.c w2.heap.size [.int .i64 a.k,.int .i64 (a.lo.toNat:Int),.int .i64 (a.hi.toNat:Int)] bW,.c w3.heap.size [.int .i64 b.k,.int .i64 (b.lo.toNat:Int),.int .i64 (b.hi.toNat:Int)] bW] [.tree a,.tree b]->
    (x<y->cQ a.rx b.rx=-1)->(y<x->cQ a.rx b.rx=1)->
    (¬x<y->¬y<x->∀w6,LH F0 w w6 [.g b2,.g b3,.c w2.heap.size [.int .i64 a.k,.int .i64 (a.lo.toNat:Int),.int .i64 (a.hi.toNat:Int)] bW,.c w3.heap.size [.int .i64 b.k,.int .i64 (b.lo.toNat:Int),.int .i64 (b.hi.toNat:Int)] bW] [.tree a,.tree b]->enthymemeref04_Compare.eH b2 a.k a.lo.toNat a.hi.toNat a.s b3 b.k b.lo.toNat b.hi.toNat b.s ⟨some (bF w2.heap.size),3,3⟩ ⟨some (bF w3.heap.size),3,3⟩ ((i+1:Nat):Int) w6 λr w'=>r=.returned (.int .i64 (cQ a.rx b.rx))/\bI w w')->
    enthymemeref04_Compare.eH b2 a.k a.lo.toNat a.hi.toNat a.s b3 b.k b.lo.toNat b.hi.toNat b.s ⟨some (bF w2.heap.size),3,3⟩ ⟨some (bF w3.heap.size),3,3⟩ (i:Int) w5 λr w'=>r=.returned (.int .i64 (cQ a.rx b.rx))/\bI w w':=by
   intro i x y w5 hi hx hy H l6 Rh hk
   have uK:((i:Nat):Int)<((3:Nat):Int):=by omega
   refine enthymemeref04_Compare.bA _ _ _ _ _ _ _ _ _ _ _ _ _ _ _ (aQ (decide_eq_true (by omega)) ⟨by omega,uK,vu (H.aK λw6 H6=>⟨x,?_,by omega,uK,vu ⟨y,?_,aM (λh=>⟨by rw [l6 h],H6.fr⟩) (λh=>⟨by omega,uK,vu (H6.aK λw7 H7=>⟨x,?_,by omega,uK,vu ⟨y,?_,aM (λh2=>⟨by rw [Rh h2],H7.fr⟩) (λh2=>?_)⟩⟩)⟩)⟩⟩)⟩)
   .rw [Int.toNat_natCast,Nat.mul_one];exact H6.ld 2 i rfl hx
   .rw [Int.toNat_natCast,Nat.mul_one];exact H6.ld 3 i rfl hy
   .rw [Int.toNat_natCast,Nat.mul_one];exact H7.ld 2 i rfl hx
   .rw [Int.toNat_natCast,Nat.mul_one];exact H7.ld 3 i rfl hy
   .rw [show IntKind.wrap .i64 ((i:Int)+1)=((i+1:Nat):Int) by rw [IntWalk.i64_in _ (by omega)];omega]
    exact hk h h2 w7 H7
  show enthymemeref04_Compare.eH _ _ _ _ _ _ _ _ _ _ _ _ ((0:Nat):Int) _ _
  refine step 0 _ _ w4 (by omega) rfl rfl H4 (λh=>by rw [e,LF _ h];rfl) (λh=>by rw [e,LD _ h];rfl) (λh1 h2 w5 H5=>?_)
  rw [LB _ h1 h2] at e
  refine step 1 _ _ w5 (by omega) rfl rfl H5 (λh=>by rw [e,LF _ h];rfl) (λh=>by rw [e,LD _ h];rfl) (λh1 h2 w6 H6=>?_)
  rw [LB _ h1 h2] at e
  refine step 2 _ _ w6 (by omega) rfl rfl H6 (λh=>by rw [e,LF _ h];rfl) (λh=>by rw [e,LD _ h];rfl) (λh1 h2 w7 H7=>?_)
  rw [LB _ h1 h2] at e
  refine enthymemeref04_Compare.bA _ _ _ _ _ _ _ _ _ _ _ _ _ _ _ (aL rfl (WE a.l.length 0 b2 b3 w7 (by omega) (by omega) ?_ (H7.take 2)))
  rw [e]
  rfl
theorem jT (a b:Rt) (w:World) (h:a.sz<=1000000) (pa:a.P w) (pb:b.P w):Calls Tryz.prog cG #[a.v,b.v] w λr w'=>r=.returned (.int .i64 (cQ a.rx b.rx))/\bI w w':=tz 1000000 (Nat.le_refl _) a b w h pa pb
abbrev Yj (n:Nat):Prop:=∀(x:Rt) (w:World),x.sz<=n->x.P w->Calls Tryz.prog dX #[x.v] w λr w'=>r=.returned (.int .i64 (x.sz:Int))/\bI w w'
theorem Dk:∀n:Nat,n<=1000000->Yj n
 |0,_=>λx w h _=>absurd h (by have:=Rt.oP x;omega)
 |n+1,hn=>λx w h px=>by
  have ih:=Dk n (by omega)
  have hs:=Rt.gm x
  have hl:=Rt.eZ x.l
  have nr:=Rt.cC px.parts.1
  have loop:∀(d i m b1:Nat) (w1:World),i+d=x.l.length->m+Rt.fK (x.l.drop i)=x.sz->LH F0 w w1 [.g b1] [.tree x]->enthymemeref04_Nodes.eH b1 x.k x.lo.toNat x.hi.toNat x.s (m:Int) (i:Int) w1 λr w'=>r=.returned (.int .i64 (x.sz:Int))/\bI w w':=by
   intro d
   induction d with
   |zero=>
    intro i m b1 w1 hi he H
    rw [qdO (by omega)] at he
    refine enthymemeref04_Nodes.bA _ _ _ _ _ _ _ _ _ (aL (decide_eq_false (by omega)) ⟨?_,H.fr⟩)
    have:m=x.sz:=he
    rw [this]
   |succ d pT=>
    intro i m b1 w1 hi he H
    have hg:x.l[i]? =some (x.l[i]'(by omega)):=gW (by omega)
    rw [qdG (by omega)] at he
    generalize x.l[i]'(by omega)=a at hg he
    have mI:m+(a.sz+Rt.fK (x.l.drop (i+1)))=x.sz:=he
    have ma:=cZ hg
    have CF:=Rt.dM ma
    refine enthymemeref04_Nodes.bA _ _ _ _ _ _ _ _ _ (aQ (decide_eq_true (by omega)) (jt (show x.P w1 from H.getD 0) rfl hg (H.aJ (ih a w1 (by omega) ((show x.P w1 from H.getD 0).parts.2.mem ma)) ?_)))
    rintro _ w2 rfl H2
    refine ⟨_,rfl,?_⟩
    show enthymemeref04_Nodes.eH _ _ _ _ _ _ _ _ _
    rw [aY _ (by omega),IntWalk.i64_in _ (by omega)]
    have e:((m:Int)+(a.sz:Int))=((m+a.sz:Nat):Int):=by omega
    rw [e]
    exact pT (i+1) (m+a.sz) b1 w2 (by omega) (by omega) H2
  exact enthymemeref04_Nodes.cV _ _ _ _ w _ ((za px).bJ λb1 w1 H1=>loop x.l.length 0 1 b1 w1 (by omega) (by rw [List.drop_zero];omega) H1)
theorem BS (x:Rt) (w:World) (h:x.sz<=1000000) (px:x.P w):Calls Tryz.prog dX #[x.v] w λr w'=>r=.returned (.int .i64 (x.sz:Int))/\bI w w':=Dk 1000000 (Nat.le_refl _) x w h px
def Cg (k:Nat):Int:=if 6<=k then 1 else 0
def Ik (k:Nat):Int:=if k<3 then 0 else if k<6 then 64 else 1
theorem MH {k:Nat} (h:k<8):([.i 0,.i 0,.i 0,.i 0,.i 0,.i 0,.i 1,.i 1]:List Value)[k]? =some (.i (Cg k)):=by
 have:k=0\/k=1\/k=2\/k=3\/k=4\/k=5\/k=6\/k=7:=by omega
 rcases this with rfl|rfl|rfl|rfl|rfl|rfl|rfl|rfl<;>rfl
theorem Pv {k:Nat} (h:k<8):([.i 0,.i 0,.i 0,.i 64,.i 64,.i 64,.i 1,.i 1]:List Value)[k]? =some (.i (Ik k)):=by
 have:k=0\/k=1\/k=2\/k=3\/k=4\/k=5\/k=6\/k=7:=by omega
 rcases this with rfl|rfl|rfl|rfl|rfl|rfl|rfl|rfl<;>rfl
abbrev Yg (n:Nat):Prop:=∀(x:Rt) (w:World),x.sz<=n->x.P w->Calls Tryz.prog iy #[x.v] w λr w'=>r=.returned (.bool (dT x.rx))/\bI w w'
theorem Hz:∀n:Nat,n<=64->Yg n
 |0,_=>λx w h _=>absurd h (by have:=Rt.oP x;omega)
 |n+1,hn=>λx w h px=>by
  have ih:=Hz n (by omega)
  have hs:=Rt.gm x
  have hl:=Rt.eZ x.l
  have nr:=Rt.cC px.parts.1
  have el:(Rt.bU x.l).length=x.s.n:=by rw [Rt.eW];simp [nr]
  have ee:(Rt.bU x.l).isEmpty=decide (x.s.n=0):=by
   rw [<-el,Bool.eq_iff_iff]
   simp
  have eg:dT x.rx=(!(x.k !=2&&(x.lo !=0||x.hi !=0))&&(if x.k=0\/x.k=1 then (Rt.bU x.l).isEmpty else if x.k=2 then (Rt.bU x.l).isEmpty&&decide (x.lo.toNat<=x.hi.toNat) else if x.k=3\/x.k=4\/x.k=5 then gw (Rt.bU x.l) else if x.k=6\/x.k=7 then (Rt.bU x.l).length==1&&gw (Rt.bU x.l) else false)):=by
   rw [Rt.dC]
   unfold dT
   rfl
  rw [ee,el] at eg
  have z8:∀u:UInt8,(u !=0)=decide (u.toNat≠0):=λu=>by
   rw [Bool.eq_iff_iff]
   simp only [bne_iff_ne,ne_eq,decide_eq_true_eq]
   exact not_congr ⟨λh=>by rw [h];rfl,λh=>UInt8.toNat_inj.1 (by simpa using h)⟩
  rw [z8,z8] at eg
  have bad:∀{b1:Nat} {w':World},dT x.rx=false->LH F0 w w' [.g b1,.c (0:Nat) [] bW] []->True:=λ_ _=>trivial
  let R:aD:=λr w'=>r=.returned (.bool (dT x.rx))/\bI w w'
  have loop:dT x.rx=gw (Rt.bU x.l)->∀(d i b1:Nat) (w1:World),i+d=x.l.length->gw (Rt.bU (x.l.drop i))=gw (Rt.bU x.l)->LH F0 w w1 [.g b1] [.tree x]->enthymemeref04_good.Dc b1 x.k x.lo.toNat x.hi.toNat x.s (i:Int) w1 R:=by
   intro hx d
   induction d with
   |zero=>
    intro i b1 w1 hi he H
    rw [qdO (by omega)] at he
    refine enthymemeref04_good.pB _ _ _ _ _ _ _ _ (aL (decide_eq_false (by omega)) ⟨?_,H.fr⟩)
    rw [hx,<-he];rfl
   |succ d pT=>
    intro i b1 w1 hi he H
    have hg:x.l[i]? =some (x.l[i]'(by omega)):=gW (by omega)
    rw [qdG (by omega)] at he
    generalize x.l[i]'(by omega)=a at hg he
    have ma:=cZ hg
    have CF:=Rt.dM ma
    have mI:(dT a.rx&&gw (Rt.bU (x.l.drop (i+1))))=gw (Rt.bU x.l):=he
    refine enthymemeref04_good.pB _ _ _ _ _ _ _ _ (aQ (decide_eq_true (by omega)) (jt (show x.P w1 from H.getD 0) rfl hg (H.aJ (ih a w1 (by omega) ((show x.P w1 from H.getD 0).parts.2.mem ma)) ?_)))
    rintro _ w2 rfl H2
    refine ⟨_,rfl,eQ (λhf=>⟨?_,H2.fr⟩) (λht=>?_)⟩
    .rw [hx,<-mI,hf];rfl
    .rw [aY _ (by omega)]
     rw [ht,Bool.true_and] at mI
     exact pT (i+1) b1 w2 (by omega) mI H2
  refine enthymemeref04_good.cV _ _ _ _ w _ ((za px).bJ λb1 w1 H1=>H1.nw λw2 _ H2=>H2.nw λw3 _ H3=>?_)
  have no:∀w':World,LH F0 w w' [.g b1,.c w1.heap.size [.i 0,.i 0,.i 0,.i 64,.i 64,.i 64,.i 1,.i 1] bW,.c w2.heap.size [.i 0,.i 0,.i 0,.i 0,.i 0,.i 0,.i 1,.i 1] bW] [.tree x]->dT x.rx=false->(Ending.returned (.bool false)=.returned (.bool (dT x.rx))/\bI w w'):=λw' H' hf=>⟨by rw [hf],H'.fr⟩
  refine aM (λk0=>LH.aK H3 (λw4 H4=>no w4 H4 ?_) (by simp)) (λk0=>aM (λk7=>LH.aK H3 (λw4 H4=>no w4 H4 ?_) (by simp)) (λk7=>?_))
  .rw [eg,if_neg (by omega),if_neg (by omega),if_neg (by omega),if_neg (by omega),Bool.and_false]
  .rw [eg,if_neg (by omega),if_neg (by omega),if_neg (by omega),if_neg (by omega),Bool.and_false]
  obtain ⟨k,hk⟩:=Int.eq_ofNat_of_zero_le (by omega:0<=x.k)
  have V':k<8:=by omega
  refine ⟨by omega,by show x.k<((8:Nat):Int);omega,(show aX (some (nb w2)) _ from LH.aK H3 (λw4 H4=>⟨Cg k,?_,?_⟩) (by simp))⟩
  .have:=LH.ld (L:=[.g b1,.c w1.heap.size [.i 0,.i 0,.i 0,.i 64,.i 64,.i 64,.i 1,.i 1] bW,.c w2.heap.size [.i 0,.i 0,.i 0,.i 0,.i 0,.i 0,.i 1,.i 1] bW]) H4 2 k rfl (MH V')
   rw [hk,Int.toNat_natCast,Nat.mul_one]
   exact this
  refine aM (λhle=>no w4 H4 ?_) (λhle=>⟨by omega,by show x.k<((8:Nat):Int);omega,(show aX (some (nb w1)) _ from ⟨Ik k,?_,?_⟩)⟩)
  .unfold Cg at hle
   rw [eg,if_neg (by split at hle<;>omega),if_neg (by split at hle<;>omega),if_neg (by split at hle<;>omega)]
   split
   .rename_i h67
    have:(x.s.n==1)=false:=by
     rw [beq_eq_false_iff_ne]
     split at hle<;>omega
    rw [this];simp
   .simp
  .have:=LH.ld (L:=[.g b1,.c w1.heap.size [.i 0,.i 0,.i 0,.i 64,.i 64,.i 64,.i 1,.i 1] bW,.c w2.heap.size [.i 0,.i 0,.i 0,.i 0,.i 0,.i 0,.i 1,.i 1] bW]) H4 1 k rfl (Pv V')
   rw [hk,Int.toNat_natCast,Nat.mul_one]
   exact this
  refine aM (λO5=>no w4 H4 ?_) (λO5=>?_)
  .unfold Ik at O5
   by_cases k2:k<3
   .rw [if_pos k2] at O5
    have hM:decide (x.s.n=0)=false:=decide_eq_false (by omega)
    rw [eg,hM]
    split
    .simp
    .split
     .simp
     .omega
   .rw [if_neg k2] at O5
    by_cases k5:k<6
    .rw [if_pos k5] at O5;omega
    .rw [if_neg k5] at O5
     have:(x.s.n==1)=false:=by rw [beq_eq_false_iff_ne];omega
     rw [eg,this,if_neg (by omega),if_neg (by omega),if_neg (by omega),if_pos (by omega)]
     simp
  have O7:(k<3->x.s.n=0)/\(6<=k->x.s.n=1):=by
   unfold Cg at hle
   unfold Ik at O5
   refine ⟨λh=>?_,λh=>?_⟩
   .rw [if_pos h] at O5;omega
   .rw [if_pos h] at hle
    rw [if_neg (by omega),if_neg (by omega)] at O5
    omega
  have H5:LH F0 w w4 [.g b1] [.tree x]:=LH.take (L:=[.g b1,.c w1.heap.size [.i 0,.i 0,.i 0,.i 64,.i 64,.i 64,.i 1,.i 1] bW,.c w2.heap.size [.i 0,.i 0,.i 0,.i 0,.i 0,.i 0,.i 1,.i 1] bW]) H4 1
  have WN:k<3->gw (Rt.bU x.l)=true:=λh=>by
   have h0:(Rt.bU x.l).length=0:=by rw [el,O7.1 h]
   rw [List.length_eq_zero_iff.1 h0]
   rfl
  have go:dT x.rx=gw (Rt.bU x.l)->enthymemeref04_good.eY b1 x.k x.lo.toNat x.hi.toNat x.s w4 R:=λhx=>loop hx x.l.length 0 b1 w4 (by omega) (by simp) H5
  refine aM (λO4=>no w4 H4 ?_) (λO4=>eB (λk2=>aM (λO2=>no w4 H4 ?_) (λO2=>go ?_)) (λk2=>go ?_))
  .rw [eg]
   by_cases k2:x.k=2
   .rw [if_neg (by omega),if_pos k2,decide_eq_false (show ¬x.lo.toNat<=x.hi.toNat by omega)]
    simp
   .have:(x.k !=2&&(decide (x.lo.toNat≠0)||decide (x.hi.toNat≠0)))=true:=by
     rw [decide_eq_true (show x.lo.toNat≠0 by omega)]
     simp [k2]
    rw [this];rfl
  .have:(x.k !=2&&(decide (x.lo.toNat≠0)||decide (x.hi.toNat≠0)))=true:=by
    rw [decide_eq_true (show x.hi.toNat≠0 by omega)]
    simp [k2]
   rw [eg,this];rfl
  .have e0:(x.k !=2&&(decide (x.lo.toNat≠0)||decide (x.hi.toNat≠0)))=false:=by
    rw [decide_eq_false (show ¬x.lo.toNat≠0 by omega),decide_eq_false (show ¬x.hi.toNat≠0 by omega)]
    simp
   rw [eg,e0]
   by_cases c1:x.k=0\/x.k=1
   .rw [if_pos c1,WN (by omega),decide_eq_true (O7.1 (by omega))];rfl
   .rw [if_neg c1,if_neg k2]
    by_cases c3:x.k=3\/x.k=4\/x.k=5
    .rw [if_pos c3];simp
    .rw [if_neg c3,if_pos (by omega),O7.2 (by omega)];simp
  .have e0:(x.k !=2&&(decide (x.lo.toNat≠0)||decide (x.hi.toNat≠0)))=false:=by rw [k2];rfl
   rw [eg,e0,if_neg (by omega),if_pos k2,WN (by omega),decide_eq_true (O7.1 (by omega)),decide_eq_true (show x.lo.toNat<=x.hi.toNat by omega)]
   rfl
theorem FV (x:Rt) (w:World) (h:x.sz<=1000000) (px:x.P w):Calls Tryz.prog jY #[x.v] w λr w'=>r=.returned (.int .i64 (mP x.rx))/\bI w w':=by
 refine enthymemeref04_Valid.cV _ _ _ _ w _ ((za px).bJ λb1 w1 H1=>H1.aJ (BS x w1 h (H1.getD 0)) ?_)
 rintro _ w2 rfl H2
 refine ⟨_,rfl,aM (λhl=>⟨?_,H2.fr⟩) (λhl=>H2.aJ (Hz 64 (Nat.le_refl _) x w2 (by omega) (H2.getD 0)) ?_)⟩
 .unfold mP;rw [Rt.g9,if_pos (by omega)]
 rintro _ w3 rfl H3
 refine ⟨_,rfl,eQ (λhg=>⟨?_,H3.fr⟩) (λhg=>⟨?_,H3.fr⟩)⟩
 .unfold mP;rw [Rt.g9,if_neg (by omega),hg];rfl
 .unfold mP;rw [Rt.g9,if_neg (by omega),hg];rfl
theorem uw {x:Rx} (h:mP x=0):dT x=true/\x.sz<=64:=by
 unfold mP at h
 split at h
 .cases h
 .split at h
  .rename_i h2
   exact ⟨h2,by omega⟩
  .cases h
theorem A3:∀{l:List Rx} {a:Rx},gw l=true->a∈l->dT a=true
 |b::l,a,h,ha=>by
  have h':(dT b&&gw l)=true:=h
  rw [Bool.and_eq_true] at h'
  rcases cU.1 ha with rfl|ha
  .exact h'.1
  .exact A3 h'.2 ha
theorem nQ:iJ Tryz.prog aC aA (.agg #[.int .i64 0,.int .u8 0,.int .u8 0,.slice none 0 0]) 4 40:=⟨by kernel_rfl,by kernel_rfl,rfl,by decide,by decide⟩
theorem BT (w:World):Calls Tryz.prog bR #[] w λr w'=>oA w fD r w'/\bI w w':=by
 refine enthymemeref04_Everything.cV w _ ((mu [] (by simp)).bJ λb w1 H1=>H1.iH (n:=1) (sz:=4) (cs:=mB.c) rfl (by decide) λw2 H2=>H2.aK λw6 H6=>⟨⟨.mk 6 0 0 ⟨some (bF w1.heap.size),1,1⟩ [mB],rfl,rfl,?_,λc hc=>?_⟩,H6.fr⟩)
 .unfold Rt.P Rt.Ps Rt.Ps
  exact ⟨(H6.get 1:aP _ _ _ _ _).jh,vp w6,trivial⟩
 .unfold Rt.fp Rt.gK Rt.gK at hc
  rcases fW.1 hc with hc|hc
  .exact (H6.new _ (cZ (i:=1) rfl) c (fQ hc)).resolve_right id
  .rcases fW.1 hc with hc|hc
   .exact (nD hc).elim
   .cases hc
def pW (r:Rt):List Rt->List Rt
 |[]=>[r]
 |y::p=>if cQ y.rx r.rx<0 then y::pW r p else if cQ y.rx r.rx=0 then y::p else r::y::p
theorem M5 (r:Rt):∀l:List Rt,(pW r l).map Rt.rx=wI r.rx (l.map Rt.rx)
 |[]=>rfl
 |y::p=>by
  unfold pW
  rw [List.map_cons]
  unfold wI
  split
  .rw [List.map_cons,M5 r p]
  .split<;>rfl
theorem vB {t r:Rt}:∀{p:List Rt},t∈pW r p->t=r\/t∈p
 |[],h=>by unfold pW at h;simpa using h
 |y::p,h=>by
  unfold pW at h
  split at h
  .rcases cU.1 h with rfl|h
   .simp
   .rcases vB h with h|h<;>simp [h]
  .split at h
   .exact .inr h
   .rcases cU.1 h with rfl|h
    .simp
    .exact .inr h
theorem EF (r:Rt):∀l:List Rt,Rt.fK (pW r l)<=r.sz+Rt.fK l
 |[]=>by show r.sz+0<=r.sz+0;omega
 |y::p=>by
  unfold pW
  split
  .have:=EF r p
   show y.sz+Rt.fK (pW r p)<=r.sz+(y.sz+Rt.fK p)
   omega
  .split
   .show y.sz+Rt.fK p<=r.sz+(y.sz+Rt.fK p)
    omega
   .exact Nat.le_refl _
theorem Iz {r:Rt}:∀{l:List Rt} {k:Nat},k<=l.length->(∀q t,q<k->l[q]? =some t->cQ t.rx r.rx<0)->(∀t,l[k]? =some t->¬cQ t.rx r.rx<0)->
  (∀t,l[k]? =some t->cQ t.rx r.rx=0->pW r l=l)/\((∀t,l[k]? =some t->cQ t.rx r.rx≠0)->pW r l=l.take k++r::l.drop k)
 |[],k,hk,h1,h2=>⟨λt h=>by simp at h,λ_=>by simp [pW]⟩
 |y::p,0,hk,h1,h2=>by
  have:=h2 y rfl
  unfold pW
  rw [if_neg this]
  refine ⟨λt h h0=>?_,λh=>?_⟩
  .cases h
   rw [if_pos h0]
  .rw [if_neg (h y rfl)]
   rfl
 |y::p,k+1,hk,h1,h2=>by
  have hy:=h1 0 y (by omega) rfl
  have ih:=Iz (r:=r) (l:=p) (k:=k) (by simpa using hk) (λq t hq ht=>h1 (q+1) t (by omega) (by simpa using ht)) (λt ht=>h2 t (by simpa using ht))
  unfold pW
  rw [if_pos hy]
  refine ⟨λt h h0=>by rw [ih.1 t (by simpa using h) h0],λh=>by rw [ih.2 λt ht=>h t (by simpa using ht)];rfl⟩
theorem EJ {w:World} {s:Sl} {l:List Rt} (h:jO 4 w s (l.flatMap Rt.c)) (a b:Nat) (Gl:a<=b) (hb:b<=l.length):jO 4 w (zF 4 s a b) (((l.take b).drop a).flatMap Rt.c):=by
 have nr:=Rt.cC h
 have:=h.sub a b Gl (by omega)
 rw [DF,AW _ _ (by rw [qlT];omega)] at this
 exact this
abbrev eE (s:Sl) (l:List Rt):Rt:=.mk 0 0 0 s l
def QP (Aa:List Nat) (w:World) (l:List Rt) (r:Ending) (w':World):Prop:=∃s:Sl,r=.returned s.v/\(eE s l).P w'/\∀b∈(eE s l).fp,w.heap.size<=b\/b∈Aa
theorem fM {w:World} {s:Sl} {l:List Rt}:(eE s l).P w↔jO 4 w s (l.flatMap Rt.c)/\Rt.Ps w l:=by
 unfold eE Rt.P
 exact Iff.rfl
theorem oD {s:Sl} {l:List Rt} {b:Nat}:b∈(eE s l).fp↔b∈(Rt.row s l).fp\/b∈Rt.gK l:=by
 unfold eE Rt.fp
 exact fW
theorem Vz (s:Sl) (l:List Rt) (r:Rt) (w:World) (hl:Rt.fK l<=100000) (hr:r.sz<=100000) (px:(eE s l).P w) (pr:r.P w):
  Calls Tryz.prog lj #[s.v,r.v] w λe w'=>QP ((eE s l).fp++r.fp) w (pW r l) e w'/\bI w w':=by
 have nr:=Rt.cC (fM.1 px).1
 have ll:=Rt.eZ l
 let R:aD:=λe w'=>QP ((eE s l).fp++r.fp) w (pW r l) e w'/\bI w w'
 have fin:∀(k:Nat) (sl:Sl) (L:List En) (i:Nat) (w1:World),k<=l.length->pW r l=l.take k++r::l.drop k->L[i]? =some (.row aA 4 sl ((l.take k++[r]).flatMap Rt.c))->LH F0 w w1 L [.tree (eE s l),.tree r]->
   enthymemeref04_put.gO s (k:Int) sl w1 R:=by
  intro k sl L i w1 hk he hi H
  have px1:(eE s l).P w1:=H.getD 0
  have hp:=EJ (fM.1 px1).1 k l.length hk (Nat.le_refl _)
  rw [List.take_length] at hp
  have jN:aP w1 aA 4 sl ((l.take k++[r]).flatMap Rt.c):=H.get i hi
  have uf:=Rt.cC jN.jh
  have ltk:(l.take k++[r]).length=k+1:=by simp [qlT];omega
  refine ⟨by omega,by omega,?_⟩
  obtain ⟨s',w',h1,h2,h3⟩:=H.Je (bs:=[]) i (ty:=aC) (K:=λs' w'=>∃L',L'[i]? =some (.row aA 4 s' ((pW r l).flatMap Rt.c))/\LH F0 w w' L' [.tree (eE s l),.tree r]) nQ (src:=zF 4 s k l.length) (news:=(l.drop k).flatMap Rt.c) hi hp (AQ _) (by show (sl.n+(l.length - k)) *40<=_;omega) (λs' w' H'=>⟨_,by
   rw [List.getElem?_set_self (oN.1 hi).1,<-qfA,he,List.append_assoc];rfl,H'⟩)
  obtain ⟨L',g1,g2⟩:=h3
  have e1:(Int.toNat (k:Int))=k:=rfl
  refine ⟨s',w',by rw [e1,nr];exact h1,⟨s',rfl,fM.2 ⟨(g2.get i g1:aP _ _ _ _ _).jh,Rt.oq λt ht=>?_⟩,λb hb=>?_⟩,g2.fr⟩
  .rcases vB ht with rfl|ht
   .exact g2.getD 1
   .exact (fM.1 (g2.getD 0)).2.mem ht
  .rcases oD.1 hb with hb|hb
   .exact .inl ((g2.new _ (cZ g1) b (fQ hb)).resolve_right id)
   .obtain ⟨t,ht,yV⟩:=Rt.bD.1 hb
    rcases vB ht with rfl|ht
    .exact .inr (List.mem_append_right _ yV)
    .exact .inr (List.mem_append_left _ (oD.2 (.inr (Rt.bD.2 ⟨t,ht,yV⟩))))
 have s2:∀(k:Nat) (b3:Nat) (w1:World),k<=l.length->pW r l=l.take k++r::l.drop k->LH F0 w w1 [.g b3] [.tree (eE s l),.tree r]->enthymemeref04_put.eY s b3 r.k r.lo.toNat r.hi.toNat r.s (k:Int) w1 R:=by
  intro k b3 w1 hk he H
  have TD:s.n<=s.c:=(fM.1 (show (eE s l).P w1 from H.getD 0)).1.2.1
  have Rp:∀w':World,(eE s l).P w'->jO 4 w' (zF 4 s 0 k) ((l.take k).flatMap Rt.c):=λw' h=>EJ (fM.1 h).1 0 k (by omega) hk
  have e1:(Int.toNat (k:Int))=k:=rfl
  refine ⟨by omega,by omega,H.aK λw2 H2=>?_,H.aK λw2 H2=>?_⟩
  .refine (H2.oJ aA 4).Je 1 nQ (s:=⟨none,0,0⟩) (xs:=[]) (src:=zF 4 s 0 k) (news:=(l.take k).flatMap Rt.c) rfl (Rp w2 (H2.getD 0)) (AQ _) (by show (0+(k - 0)) *40<=_;omega) (λs' w3 H3=>?_)
   have H3:LH F0 w w3 [.g b3,.row aA 4 s' ((l.take k).flatMap Rt.c)] [.tree (eE s l),.tree r]:=H3
   have uf:=Rt.cC (H3.get 1:aP _ _ _ _ _).jh
   rw [qlT] at uf
   refine H3.tR 1 nQ (xs:=(l.take k).flatMap Rt.c) rfl (λVc w4 H4=>?_) (by omega)
   refine fin k Vc _ 1 w4 hk he ?_ H4
   show some _=some _
   rw [mq]
   rfl
  .refine H2.iH (n:=1) (sz:=4) (cs:=r.c) rfl (by decide) λw3 H3=>?_
   refine (H3.oJ aA 4).Je 2 nQ (s:=⟨none,0,0⟩) (xs:=[]) (src:=zF 4 s 0 k) (news:=(l.take k).flatMap Rt.c) rfl (Rp w3 (H3.getD 0)) (AQ _) (by show (0+(k - 0)) *40<=_;omega) (λs' w4 H4=>?_)
   have H4:LH F0 w w4 [.g b3,.row aA 4 ⟨some (bF w2.heap.size),1,1⟩ r.c,.row aA 4 s' ((l.take k).flatMap Rt.c)] [.tree (eE s l),.tree r]:=H4
   have uf:=Rt.cC (H4.get 2:aP _ _ _ _ _).jh
   rw [qlT] at uf
   refine H4.Je 2 nQ (xs:=(l.take k).flatMap Rt.c) (src:=⟨some (bF w2.heap.size),1,1⟩) (news:=r.c) rfl (H4.get 1:aP _ _ _ _ _).jh (λu hu=>AQ [r] u (by simpa using hu)) (by show (s'.n+1) *40<=_;omega) (λVc w5 H5=>?_)
   refine fin k Vc _ 2 w5 hk he ?_ H5
   show some _=some _
   rw [mq]
 have s1:∀(k:Nat) (b3:Nat) (w1:World),k<=l.length->(∀q t,q<k->l[q]? =some t->cQ t.rx r.rx<0)->(∀t,l[k]? =some t->¬cQ t.rx r.rx<0)->LH F0 w w1 [.g b3] [.tree (eE s l),.tree r]->enthymemeref04_put.fY s b3 r.k r.lo.toNat r.hi.toNat r.s (k:Int) w1 R:=by
  intro k b3 w1 hk h1 h2 H
  obtain ⟨g1,g2⟩:=Iz hk h1 h2
  refine aM (λl6=>?_) (λl6=>H.aK λw2 H2=>s2 k b3 w2 hk (g2 λt ht=>by have:=(oN.1 ht).1;omega) H2)
  have hg:l[k]? =some l[k]:=gW (by omega)
  generalize l[k]'(by omega)=t at hg
  have mt:=cZ hg
  refine ⟨by omega,by omega,Rt.at' (fM.1 (show (eE s l).P w1 from H.getD 0)).1 hg λp hp _=>H.aK λw2 H2=>?_⟩
  have PJ:(eE s l).P w2:=H2.getD 0
  have c:=Rt.again (fM.1 PJ).1 hg hp
  refine ⟨_,_,_,_,c.c0,c.c1,c.c2,c.c3,H2.aJ (jT t r w2 (by have:=Rt.dM mt;omega) ((fM.1 PJ).2.mem mt) (H2.getD 1)) ?_⟩
  rintro _ w3 rfl H3
  refine ⟨_,rfl,aH (λh0=>⟨⟨s,rfl,?_,λb hb=>.inr ?_⟩,H3.fr⟩) (λh0=>s2 k b3 w3 hk (g2 λt' np=>by rw [hg] at np;cases np;exact h0) H3)⟩
  .rw [g1 t hg h0];exact H3.getD 0
  .rw [g1 t hg h0] at hb
   exact List.mem_append_left _ hb
 have loop:∀(d k:Nat) (b3:Nat) (w1:World),k+d=l.length->(∀q t,q<k->l[q]? =some t->cQ t.rx r.rx<0)->LH F0 w w1 [.g b3] [.tree (eE s l),.tree r]->enthymemeref04_put.eH s b3 r.k r.lo.toNat r.hi.toNat r.s (k:Int) w1 R:=by
  intro d
  induction d with
  |zero=>
   intro k b3 w1 hk h1 H
   exact enthymemeref04_put.bA _ _ _ _ _ _ _ _ _ (aL (decide_eq_false (by omega)) (H.aK λw2 H2=>s1 k b3 w2 (by omega) h1 (λt ht=>by have:=(oN.1 ht).1;omega) H2))
  |succ d pT=>
   intro k b3 w1 hk h1 H
   have hg:l[k]? =some l[k]:=gW (by omega)
   generalize l[k]'(by omega)=t at hg
   have mt:=cZ hg
   refine enthymemeref04_put.bA _ _ _ _ _ _ _ _ _ (aQ (decide_eq_true (by omega)) ⟨by omega,by omega,Rt.at' (fM.1 (show (eE s l).P w1 from H.getD 0)).1 hg λp hp _=>H.aK λw2 H2=>?_⟩)
   have PJ:(eE s l).P w2:=H2.getD 0
   have c:=Rt.again (fM.1 PJ).1 hg hp
   refine ⟨_,_,_,_,c.c0,c.c1,c.c2,c.c3,H2.aJ (jT t r w2 (by have:=Rt.dM mt;omega) ((fM.1 PJ).2.mem mt) (H2.getD 1)) ?_⟩
   rintro _ w3 rfl H3
   refine ⟨_,rfl,aM (λh0=>?_) (λh0=>s1 k b3 w3 (by omega) h1 (λt' np=>by rw [hg] at np;cases np;exact h0) H3)⟩
   rw [aY _ (by omega)]
   refine pT (k+1) b3 w3 (by omega) (λq t' hq np=>?_) H3
   by_cases e:q=k
   .subst e;rw [hg] at np;cases np;exact h0
   .exact h1 q t' (by omega) np
 exact enthymemeref04_put.cV _ _ _ _ _ w _ ((mu [.tree (eE s l),.tree r] (by
  intro e he
  simp only [cU,List.not_mem_nil,or_false] at he
  rcases he with rfl|rfl
  .exact px
  .exact pr)).bJ λb3 w1 H1=>loop l.length 0 b3 w1 (by omega) (λq t h=>by omega) H1)
theorem wF (k:Int) (t:Rx):∀(l out:List Rx),pV k out (l++[t])=if k=3 then pV k out l++[t] else wI t (pV k out l)
 |[],out=>by
  show pV k (if k=3 then out++[t] else wI t out) []=_
  unfold pV
  rfl
 |a::l,out=>by
  show pV k (if k=3 then out++[a] else wI a out) (l++[t])=_
  rw [wF k t l]
  rfl
theorem aao (x ev:Rt) (hk:x.k=3\/x.k=4\/x.k=5) (uB:ev.rx=fD):∃(j:Nat) (u z:Rt),IntKind.wrap .i64 (x.k - 3)=(j:Int)/\j<3/\[gG,mB,ev][j]? =some u/\[mB,ev,mB][j]? =some z/\(u=gG\/u=mB\/u=ev)/\(z=mB\/z=ev)/\u.rx≠z.rx/\
  mS (.mk x.k 0 0 (Rt.bU x.l))=lf x.k (Rt.bU x.l) u.rx z.rx:=by
 rcases hk with h|h|h<;>rw [h]
 .exact ⟨0,gG,mB,by decide,by decide,rfl,rfl,.inl rfl,.inl rfl,(by intro e;cases e),rfl⟩
 .exact ⟨1,mB,ev,by decide,by decide,rfl,rfl,.inr (.inl rfl),.inr rfl,(by rw [uB];intro e;cases e),by rw [uB];rfl⟩
 .exact ⟨2,ev,mB,by decide,by decide,rfl,rfl,.inr (.inr rfl),.inl rfl,(by rw [uB];intro e;cases e),by rw [uB];rfl⟩
section
variable {x ev u z:Rt} {sf:Sl} {w:World} {b4 b8 b9:Nat}
theorem PN (hx:x.sz<=10000) (uB:ev.rx=fD) (WJ:∀b∈ev.fp,w.heap.size<=b) (hu:u=gG\/u=mB\/u=ev) (XR:z=mB\/z=ev) (ZT:u.rx≠z.rx) (Ia:mS (.mk x.k 0 0 (Rt.bU x.l))=lf x.k (Rt.bU x.l) u.rx z.rx) {w1:World}
  (H:LH F0 w w1 [.g b4,.g b8,.g b9] [.tree x,.tree ev,.tree (eE sf (x.l.flatMap (iI x)))]):
  enthymemeref04_normal.Dc x.k b4 0 0 0 ⟨none,0,0⟩ sf b8 u.k u.lo.toNat u.hi.toNat u.s b9 z.k z.lo.toNat z.hi.toNat z.s ⟨none,0,0⟩ 0 w1 λr w'=>oV x.fp w (mS (.mk x.k 0 0 (Rt.bU x.l))) r w'/\bI w w':=by
 let R:aD:=λr w'=>oV x.fp w (mS (.mk x.k 0 0 (Rt.bU x.l))) r w'/\bI w w'
 have Ea:Sub x (x.l.flatMap (iI x)):=Sub.flat λ_ h=>h
 have Wn:Rt.fK (x.l.flatMap (iI x))<=Rt.fK x.l:=qR x x.l
 have O0:((x.l.flatMap (iI x)).map Rt.rx).filter (λt=>!(cQ t u.rx==0))=lP x.k (Rt.bU x.l) u.rx:=by
  rw [<-vc]
  unfold kM
  rw [List.filter_map]
  rfl
 generalize x.l.flatMap (iI x)=fl at H Ea Wn O0
 have rU:=Ea
 have ZR:=Rt.gm x
 have aaz:Rt.fK fl<=10000:=by omega
 have lfl:=Rt.eZ fl
 have nr:sf.n=fl.length:=Rt.cC (fM.1 (show (eE sf fl).P w1 from H.getD 2)).1
 have ZS:∀w',ev.P w'->u.P w':=λw' h=>by
  rcases hu with rfl|rfl|rfl
  .exact xY w'
  .exact vp w'
  .exact h
 have XQ:∀w',ev.P w'->z.P w':=λw' h=>by
  rcases XR with rfl|rfl
  .exact vp w'
  .exact h
 have huf:∀b∈u.fp,w.heap.size<=b:=λb hb=>by
  rcases hu with rfl|rfl|rfl
  .exact (uZ hb).elim
  .exact (nD hb).elim
  .exact WJ b hb
 have hzf:∀b∈z.fp,w.heap.size<=b:=λb hb=>by
  rcases XR with rfl|rfl
  .exact (nD hb).elim
  .exact WJ b hb
 have ej1:∀t∈fl,t.rx=z.rx->mS (.mk x.k 0 0 (Rt.bU x.l))=z.rx:=λt ht e=>by
  rw [Ia]
  unfold lf
  rw [if_pos]
  rw [List.any_eq_true]
  refine ⟨t.rx,?_,qX.2 e⟩
  rw [<-O0,List.mem_filter]
  exact ⟨oT.2 ⟨t,ht,rfl⟩,LG.2 (e▸λh=>ZT h.symm)⟩
 have ej2:(∀t∈fl,t.rx≠z.rx)->mS (.mk x.k 0 0 (Rt.bU x.l))=Jt x.k u.rx (pV x.k [] ((fl.map Rt.rx).filter λt=>!(cQ t u.rx==0))):=λh=>by
  rw [Ia,PH,O0]
  unfold lf
  rw [if_neg]
  .rfl
  .rw [List.any_eq_true]
   rintro ⟨t,ht,he⟩
   rw [<-O0,List.mem_filter] at ht
   obtain ⟨t',np,rfl⟩:=oT.1 ht.1
   exact h t' np (qX.1 he)
 have fin:∀(ol:List Rt) (so:Sl) (L D:List En) (w1:World),(∀t∈fl,t.rx≠z.rx)->ol.map Rt.rx=pV x.k [] ((fl.map Rt.rx).filter λt=>!(cQ t u.rx==0))->(∀t∈ol,t∈fl)->LH F0 w w1 L (.tree x::.tree ev::D)->(∀b∈[b4,b8,b9],En.g b∈L)->(∀w',LH F0 w w' L (.tree x::.tree ev::D)->jO 4 w' so (ol.flatMap Rt.c)/\∀b∈(Rt.row so ol).fp,w.heap.size<=b\/b∈x.fp)->
   aF (((so.n:Nat):Int)==0) (loc [b4,b8,b9] w1 λw55=>R (.returned u.v) w55) (aF (((so.n:Nat):Int)==1) ((0:Int)<=0/\0<((so.n:Nat):Int)/\aX so.a λp=>cB w1 (p.add (Int.toNat 0 *4)) λa b c d=>loc [b4,b8,b9] w1 λw59=>R (.returned (.agg #[.i a,.int .u8 b,.int .u8 c,d.v])) w59) (loc [b4,b8,b9] w1 λw63=>R (.returned (.agg #[.i x.k,.int .u8 0,.int .u8 0,so.v])) w63)):=by
  intro ol so L D w1 hz ho hm H hb jN
  have hr:=jN w1 H
  have nso:=Rt.cC hr.1
  have ej:=ej2 hz
  rw [<-ho] at ej
  have sF:Sub x ol:=rU.sub hm
  refine aH (λh0=>H.aK (λw2 H2=>⟨⟨u,rfl,?_,ZS w2 (H2.getD 1),λb hb=>.inl (huf b hb)⟩,H2.fr⟩) hb) (λh0=>aH (λh1=>?_) (λh1=>H.aK (λw2 H2=>⟨⟨.mk x.k 0 0 so ol,rfl,?_,?_,λb hb=>?_⟩,H2.fr⟩) hb))
  .have:ol=[]:=List.length_eq_zero_iff.1 (by omega)
   rw [ej,this];rfl
  .obtain ⟨a,rfl⟩:=List.length_eq_one_iff.1 (show ol.length=1 by omega)
   refine ⟨by omega,by omega,Rt.at' hr.1 (i:=0) (t:=a) rfl λp hp c=>⟨_,_,_,_,c.c0,c.c1,c.c2,c.c3,H.aK (λw2 H2=>⟨⟨a,rfl,?_,sF.P _ (H2.getD 0) a (by simp),λb hb=>.inr (sF.fp a (by simp) b hb)⟩,H2.fr⟩) hb⟩⟩
   rw [ej];rfl
  .rw [ej]
   unfold Rt.rx
   rw [Rt.eW]
   cases ol with
   |nil=>simp at nso;omega
   |cons a ks=>
    cases ks with
    |nil=>simp at nso;omega
    |cons b ks=>rfl
  .unfold Rt.P
   exact ⟨(jN w2 H2).1,sF.Ps (H2.getD 0)⟩
  .unfold Rt.fp at hb
   rcases fW.1 hb with hb|hb
   .exact (jN w2 H2).2 b hb
   .exact .inr (sF.gK hb)
 have WH:x.k=3->∀(d i:Nat) (so:Sl) (ol:List Rt) (w1:World),i+d=fl.length->(∀t∈fl.take i,t.rx≠z.rx)->ol.map Rt.rx=pV x.k [] (((fl.take i).map Rt.rx).filter λt=>!(cQ t u.rx==0))->(∀t∈ol,t∈fl)->Rt.fK ol<=Rt.fK (fl.take i)->
   LH F0 w w1 [.g b4,.g b8,.g b9,.row aA 4 so (ol.flatMap Rt.c)] [.tree x,.tree ev,.tree (eE sf fl)]->enthymemeref04_normal.Dc x.k b4 0 0 0 ⟨none,0,0⟩ sf b8 u.k u.lo.toNat u.hi.toNat u.s b9 z.k z.lo.toNat z.hi.toNat z.s so (i:Int) w1 R:=by
  intro hk d
  induction d with
  |zero=>
   intro i so ol w1 hi hz ho hm hs H
   rw [qtOL (by omega)] at hz ho
   refine enthymemeref04_normal.pB _ _ _ _ _ _ _ _ _ _ _ _ _ _ _ _ _ _ _ _ _ (aL (decide_eq_false (by omega)) ?_)
   exact fin ol so _ _ w1 hz ho hm H (by simp) (λw' H'=>⟨(H'.get 3:aP _ _ _ _ _).jh,λb hb=>.inl ((H'.new _ (cZ (i:=3) rfl) b (fQ hb)).resolve_right id)⟩)
  |succ d pT=>
   intro i so ol w1 hi hz ho hm hs H
   have hg:fl[i]? =some fl[i]:=gW (by omega)
   generalize fl[i]'(by omega)=t at hg
   have mt:=cZ hg
   have RN:=Rt.dM mt
   have OI:fl.take (i+1)=fl.take i++[t]:=by rw [qtO,hg];rfl
   have szk:Rt.fK (fl.take (i+1))=Rt.fK (fl.take i)+t.sz:=by rw [OI,tm];rfl
   have szl:=qi fl (i+1)
   refine enthymemeref04_normal.pB _ _ _ _ _ _ _ _ _ _ _ _ _ _ _ _ _ _ _ _ _ (aQ (decide_eq_true (by omega)) ⟨by omega,by omega,Rt.at' (fM.1 (show (eE sf fl).P w1 from H.getD 2)).1 hg λp hp _=>H.aK λw2 H2=>?_⟩)
   have p2:(eE sf fl).P w2:=H2.getD 2
   have c2:=Rt.again (fM.1 p2).1 hg hp
   refine ⟨_,_,_,_,c2.c0,c2.c1,c2.c2,c2.c3,H2.aJ (jT t z w2 (by omega) ((fM.1 p2).2.mem mt) (XQ w2 (H2.getD 1))) ?_⟩
   rintro _ w3 rfl H3
   refine ⟨_,rfl,aH (λh0=>H3.aK λw4 H4=>⟨⟨z,rfl,?_,XQ w4 (H4.getD 1),λb hb=>.inl (hzf b hb)⟩,H4.fr⟩) (λh0=>?_)⟩
   .exact (ej1 t mt (sm.1 h0)).symm
   refine ⟨by omega,by omega,Rt.at' (fM.1 (show (eE sf fl).P w3 from H3.getD 2)).1 hg λp hp _=>H3.aK λw5 H5=>?_⟩
   have p5:(eE sf fl).P w5:=H5.getD 2
   have c5:=Rt.again (fM.1 p5).1 hg hp
   refine ⟨_,_,_,_,c5.c0,c5.c1,c5.c2,c5.c3,H5.aJ (jT t u w5 (by omega) ((fM.1 p5).2.mem mt) (ZS w5 (H5.getD 1))) ?_⟩
   rintro _ w6 rfl H6
   have Pa:∀t'∈fl.take (i+1),t'.rx≠z.rx:=λt' np=>by
    rw [OI] at np
    rcases fW.1 np with np|np
    .exact hz t' np
    .simp at np;subst np;exact λe=>h0 (sm.2 e)
   refine ⟨_,rfl,aH (λh1=>?_) (λh1=>aQ (beq_iff_eq.2 hk) ?_)⟩
   .show enthymemeref04_normal.Dc _ _ _ _ _ _ _ _ _ _ _ _ _ _ _ _ _ _ _ _ _
    rw [aY _ (by omega)]
    refine pT (i+1) so ol w6 (by omega) Pa ?_ hm (by omega) H6
    rw [OI,qmpA,List.filter_append,ho]
    have e0:([t].map Rt.rx).filter (λt=>!(cQ t u.rx==0))=[]:=by
     show [t.rx].filter _=[]
     rw [List.filter_cons_of_neg (by rw [h1];simp)]
     rfl
    rw [e0,List.append_nil]
   .have ef:((fl.take (i+1)).map Rt.rx).filter (λt=>!(cQ t u.rx==0))=(((fl.take i).map Rt.rx).filter λt=>!(cQ t u.rx==0))++[t.rx]:=by
     rw [OI,qmpA,List.filter_append]
     congr 1
     show [t.rx].filter _=[t.rx]
     rw [List.filter_cons_of_pos (by simpa using h1)]
     rfl
    refine ⟨by omega,by omega,Rt.at' (fM.1 (show (eE sf fl).P w6 from H6.getD 2)).1 hg λp hp c=>⟨_,_,_,_,c.c0,c.c1,c.c2,c.c3,?_⟩⟩
    have uf:=Rt.cC (H6.get 3:aP _ _ _ _ _).jh
    have lol:=Rt.eZ ol
    refine H6.tR 3 nQ (xs:=ol.flatMap Rt.c) rfl (λs' w7 H7=>?_) (by omega)
    show enthymemeref04_normal.Dc _ _ _ _ _ _ _ _ _ _ _ _ _ _ _ _ _ _ _ _ _
    rw [aY _ (by omega)]
    refine pT (i+1) s' (ol++[t]) w7 (by omega) Pa ?_ (λt' np=>?_) (by rw [tm];show _+(t.sz+0)<=_;omega) ?_
    .rw [ef,wF,if_pos hk,qmpA,ho];rfl
    .rcases fW.1 np with np|np
     .exact hm t' np
     .simp at np;subst np;exact mt
    .rw [mq];exact H7
 have WI:x.k≠3->∀(d i:Nat) (so:Sl) (ol:List Rt) (w1:World),i+d=fl.length->(∀t∈fl.take i,t.rx≠z.rx)->ol.map Rt.rx=pV x.k [] (((fl.take i).map Rt.rx).filter λt=>!(cQ t u.rx==0))->(∀t∈ol,t∈fl)->Rt.fK ol<=Rt.fK (fl.take i)->(∀b∈(eE so ol).fp,w.heap.size<=b\/b∈x.fp)->
   LH F0 w w1 [.g b4,.g b8,.g b9] [.tree x,.tree ev,.tree (eE sf fl),.tree (eE so ol)]->enthymemeref04_normal.Dc x.k b4 0 0 0 ⟨none,0,0⟩ sf b8 u.k u.lo.toNat u.hi.toNat u.s b9 z.k z.lo.toNat z.hi.toNat z.s so (i:Int) w1 R:=by
  intro hk d
  induction d with
  |zero=>
   intro i so ol w1 hi hz ho hm hs XK H
   rw [qtOL (by omega)] at hz ho
   refine enthymemeref04_normal.pB _ _ _ _ _ _ _ _ _ _ _ _ _ _ _ _ _ _ _ _ _ (aL (decide_eq_false (by omega)) ?_)
   exact fin ol so _ _ w1 hz ho hm H (by simp) (λw' H'=>⟨(fM.1 (show (eE so ol).P w' from H'.getD 3)).1,λb hb=>XK b (oD.2 (.inl hb))⟩)
  |succ d pT=>
   intro i so ol w1 hi hz ho hm hs XK H
   have hg:fl[i]? =some fl[i]:=gW (by omega)
   generalize fl[i]'(by omega)=t at hg
   have mt:=cZ hg
   have RN:=Rt.dM mt
   have OI:fl.take (i+1)=fl.take i++[t]:=by rw [qtO,hg];rfl
   have szk:Rt.fK (fl.take (i+1))=Rt.fK (fl.take i)+t.sz:=by rw [OI,tm];rfl
   have szl:=qi fl (i+1)
   refine enthymemeref04_normal.pB _ _ _ _ _ _ _ _ _ _ _ _ _ _ _ _ _ _ _ _ _ (aQ (decide_eq_true (by omega)) ⟨by omega,by omega,Rt.at' (fM.1 (show (eE sf fl).P w1 from H.getD 2)).1 hg λp hp _=>H.aK λw2 H2=>?_⟩)
   have p2:(eE sf fl).P w2:=H2.getD 2
   have c2:=Rt.again (fM.1 p2).1 hg hp
   refine ⟨_,_,_,_,c2.c0,c2.c1,c2.c2,c2.c3,H2.aJ (jT t z w2 (by omega) ((fM.1 p2).2.mem mt) (XQ w2 (H2.getD 1))) ?_⟩
   rintro _ w3 rfl H3
   refine ⟨_,rfl,aH (λh0=>H3.aK λw4 H4=>⟨⟨z,rfl,?_,XQ w4 (H4.getD 1),λb hb=>.inl (hzf b hb)⟩,H4.fr⟩) (λh0=>?_)⟩
   .exact (ej1 t mt (sm.1 h0)).symm
   refine ⟨by omega,by omega,Rt.at' (fM.1 (show (eE sf fl).P w3 from H3.getD 2)).1 hg λp hp _=>H3.aK λw5 H5=>?_⟩
   have p5:(eE sf fl).P w5:=H5.getD 2
   have c5:=Rt.again (fM.1 p5).1 hg hp
   refine ⟨_,_,_,_,c5.c0,c5.c1,c5.c2,c5.c3,H5.aJ (jT t u w5 (by omega) ((fM.1 p5).2.mem mt) (ZS w5 (H5.getD 1))) ?_⟩
   rintro _ w6 rfl H6
   have Pa:∀t'∈fl.take (i+1),t'.rx≠z.rx:=λt' np=>by
    rw [OI] at np
    rcases fW.1 np with np|np
    .exact hz t' np
    .simp at np;subst np;exact λe=>h0 (sm.2 e)
   refine ⟨_,rfl,aH (λh1=>?_) (λh1=>aL (by simpa using hk) ?_)⟩
   .show enthymemeref04_normal.Dc _ _ _ _ _ _ _ _ _ _ _ _ _ _ _ _ _ _ _ _ _
    rw [aY _ (by omega)]
    refine pT (i+1) so ol w6 (by omega) Pa ?_ hm (by omega) XK H6
    rw [OI,qmpA,List.filter_append,ho]
    have e0:([t].map Rt.rx).filter (λt=>!(cQ t u.rx==0))=[]:=by
     show [t.rx].filter _=[]
     rw [List.filter_cons_of_neg (by rw [h1];simp)]
     rfl
    rw [e0,List.append_nil]
   .have ef:((fl.take (i+1)).map Rt.rx).filter (λt=>!(cQ t u.rx==0))=(((fl.take i).map Rt.rx).filter λt=>!(cQ t u.rx==0))++[t.rx]:=by
     rw [OI,qmpA,List.filter_append]
     congr 1
     show [t.rx].filter _=[t.rx]
     rw [List.filter_cons_of_pos (by simpa using h1)]
     rfl
    refine ⟨by omega,by omega,Rt.at' (fM.1 (show (eE sf fl).P w6 from H6.getD 2)).1 hg λp hp c=>⟨_,_,_,_,c.c0,c.c1,c.c2,c.c3,?_⟩⟩
    refine ng ((Vz so ol t w6 (by omega) (by omega) (H6.getD 3) ((fM.1 (show (eE sf fl).P w6 from H6.getD 2)).2.mem mt)).mono ?_)
    rintro _ w7 ⟨⟨s',rfl,pl',nb'⟩,f7⟩
    refine ⟨f7,?_⟩
    have nb2:∀b∈(eE s' (pW t ol)).fp,w.heap.size<=b\/b∈x.fp:=λb hb=>by
     rcases nb' b hb with hb|hb
     .exact .inl (Nat.le_trans H6.fr.size hb)
     .rcases fW.1 hb with hb|hb
      .exact XK b hb
      .exact .inr (rU.fp t mt b hb)
    have H8:LH F0 w w7 [.g b4,.g b8,.g b9] [.tree x,.tree ev,.tree (eE sf fl),.tree (eE so ol),.tree (eE s' (pW t ol))]:=H6.mE _ f7 pl' λb hb=>by
     rcases nb' b (aI.1 hb) with hb|hb
     .exact .inl hb
     .rcases fW.1 hb with hb|hb
      .exact .inr (.inr ⟨_,cZ (i:=3) rfl,aI.2 hb⟩)
      .exact .inr (.inr ⟨_,cZ (i:=0) rfl,aI.2 (rU.fp t mt b hb)⟩)
    refine ⟨s',rfl,?_⟩
    show enthymemeref04_normal.Dc _ _ _ _ _ _ _ _ _ _ _ _ _ _ _ _ _ _ _ _ _
    rw [aY _ (by omega)]
    refine pT (i+1) s' (pW t ol) w7 (by omega) Pa ?_ (λt' np=>?_) (by have:=EF t ol;omega) nb2 (H8.forget _ (by simp))
    .rw [ef,wF,if_neg hk,M5,ho]
    .rcases vB np with rfl|np
     .exact mt
     .exact hm t' np
 by_cases hk:x.k=3
 .exact WH hk fl.length 0 ⟨none,0,0⟩ [] w1 (by omega) (by simp) (by simp [pV]) (by simp) (by simp [Rt.fK]) (H.oJ aA 4)
 .refine WI hk fl.length 0 ⟨none,0,0⟩ [] w1 (by omega) (by simp) (by simp [pV]) (by simp) (by simp [Rt.fK]) (λb hb=>?_) (H.mE (.tree (eE ⟨none,0,0⟩ [])) (Fr.refl _ _) (fM.2 ⟨jO.nil 4 w1,by unfold Rt.Ps;trivial⟩) λb hb=>?_)
  .rcases oD.1 hb with hb|hb
   .simp [Rt.row,En.jh] at hb
   .unfold Rt.gK at hb;cases hb
  .rcases oD.1 (aI.1 hb) with hb|hb
   .simp [Rt.row,En.jh] at hb
   .unfold Rt.gK at hb;cases hb
end
theorem Jl (x:Rt) (hk:3<=x.k/\x.k<=7) (hx:x.sz<=10000) (dN:nj (.mk x.k 0 0 (Rt.bU x.l))=true) (Wj:∀c∈x.l,0<=c.k) (w:World) (px:x.P w):
  Calls Tryz.prog jA #[.i x.k,x.s.v] w λr w'=>oV x.fp w (mS (.mk x.k 0 0 (Rt.bU x.l))) r w'/\bI w w':=by
 have nr:=Rt.cC px.parts.1
 have ZR:=Rt.gm x
 have xM:=Rt.eZ x.l
 refine enthymemeref04_normal.cV _ _ w _ ((za px).bJ λb4 w1 H1=>H1.sh (BT w1) ?_)
 rintro _ w2 ⟨ev,rfl,uB,pev,WJ⟩ H2 F2
 have H3:LH F0 w w2 [.g b4] [.tree x,.tree ev]:=F2.rd (.tree ev) pev λb hb=>WJ b (aI.1 hb)
 have Z9:∀b∈ev.fp,w.heap.size<=b:=λb hb=>Nat.le_trans H1.fr.size (WJ b hb)
 have pc:∀{w':World} {c:Rt},x.P w'->x.l[0]? =some c->c.P w':=λh hg=>h.parts.2.mem (cZ hg)
 have fc:∀{c:Rt},x.l[0]? =some c->∀b∈c.fp,b∈x.fp:=λhg b hb=>Rt.eJ.2 (.inr (Rt.bD.2 ⟨_,cZ hg,hb⟩))
 refine ⟨_,_,_,ev.s,rfl,H3.bJ λb5 w3 H4=>aH (λh6=>?_) (λh6=>aH (λh7=>?_) (λh7=>H4.aK λw4 H5=>?_))⟩
 .
  cases hl:x.l with
  |nil=>rw [hl,h6] at dN;simp [nj,Rt.bU] at dN
  |cons c l'=>
   have hg:x.l[0]? =some c:=by rw [hl];rfl
   have n2:0<x.s.n:=by rw [hl] at nr;simp at nr;omega
   have e1:Rt.bU (c::l')=c.rx::Rt.bU l':=rfl
   have ef:mS (.mk x.k 0 0 (Rt.bU (c::l')))=Ex 0 0 (c.rx::Rt.bU l'):=by rw [h6];rfl
   rw [ef]
   refine ⟨by omega,by omega,Rt.at' (show x.P w3 from H4.getD 0).parts.1 hg λp hp _=>H4.aK λw5 H5=>?_⟩
   have U':x.P w5:=H5.getD 0
   have cc:=Rt.again U'.parts.1 hg hp
   refine ⟨c.k,cc.c0,aH (λXE=>⟨by omega,by omega,Rt.at' U'.parts.1 hg λp hp cc=>⟨c.s,cc.c3,?_⟩⟩) (λXE=>H5.aK λw6 H6=>⟨⟨.mk 6 0 0 x.s x.l,rfl,?_,?_,λb hb=>.inr ?_⟩,H6.fr⟩)⟩
   .cases HY:c.l with
    |nil=>
     rw [hl,e1] at dN
     have e2:c.rx.l.isEmpty=true:=by rw [Ni,HY];rfl
     simp [nj,h6,wL,XE,e2] at dN
    |cons d l2=>
     have NZ:c.l[0]? =some d:=by rw [HY];rfl
     refine jt (pc U' hg) rfl NZ (H5.aK λw6 H6=>⟨⟨d,rfl,?_,(pc (H6.getD 0) hg).parts.2.mem (cZ NZ),λb hb=>.inr (fc hg b (Rt.eJ.2 (.inr (Rt.bD.2 ⟨d,cZ NZ,hb⟩))))⟩,H6.fr⟩)
     show d.rx=if c.rx.k=6 then _ else _
     rw [if_pos (by rw [wL,XE]),Ni,HY];rfl
   .show Rx.mk 6 0 0 (Rt.bU x.l)=if c.rx.k=6 then _ else _
    rw [if_neg (by rw [wL];exact XE),hl,e1]
   .unfold Rt.P
    exact (show x.P w6 from H6.getD 0).parts
   .unfold Rt.fp at hb
    exact Rt.eJ.2 (fW.1 hb)
 .
  cases hl:x.l with
  |nil=>rw [hl,h7] at dN;simp [nj,Rt.bU] at dN
  |cons c l'=>
   have hg:x.l[0]? =some c:=by rw [hl];rfl
   have n2:0<x.s.n:=by rw [hl] at nr;simp at nr;omega
   have e1:Rt.bU (c::l')=c.rx::Rt.bU l':=rfl
   have ef:mS (.mk x.k 0 0 (Rt.bU (c::l')))=qP 0 0 (c.rx::Rt.bU l'):=by rw [h7];rfl
   rw [ef]
   have YR:qP 0 0 (c.rx::Rt.bU l')=if c.k=0\/c.k=1 then ql else if c.k=7\/cQ c.rx fD=0 then c.rx else .mk 7 0 0 (c.rx::Rt.bU l'):=by
    unfold qP
    simp only [wL]
   have szc:c.sz<=1000000:=by have:=Rt.dM (cZ hg);omega
   have s0:∀(w6:World),¬(c.k=0\/c.k=1)->(c.k=7\/cQ c.rx fD=0)->LH F0 w w6 [.g b4,.g b5] [.tree x,.tree ev]->enthymemeref04_normal.dV x.s b4 0 0 0 ⟨none,0,0⟩ w6 λr w'=>oV x.fp w (qP 0 0 (c.rx::Rt.bU l')) r w'/\bI w w':=by
    intro w6 h1 h2 H6
    refine ⟨by omega,by omega,Rt.at' (show x.P w6 from H6.getD 0).parts.1 hg λp hp cc=>⟨_,_,_,_,cc.c0,cc.c1,cc.c2,cc.c3,(H6.take 1).aK λw7 H7=>⟨⟨c,rfl,?_,pc (H7.getD 0) hg,λb hb=>.inr (fc hg b hb)⟩,H7.fr⟩⟩⟩
    rw [YR,if_neg h1,if_pos h2]
   refine ⟨by omega,by omega,Rt.at' (show x.P w3 from H4.getD 0).parts.1 hg λp hp _=>H4.aK λw5 H5=>?_⟩
   have U':x.P w5:=H5.getD 0
   have cc:=Rt.again U'.parts.1 hg hp
   have z9:0<=c.k:=Wj c (cZ hg)
   refine ⟨c.k,cc.c0,aM (λh2=>H5.aK λw6 H6=>⟨⟨gG,rfl,?_,xY w6,λb hb=>(uZ hb).elim⟩,H6.fr⟩) (λh2=>?_)⟩
   .rw [YR,if_pos (by omega)];rfl
   refine ⟨by omega,by omega,Rt.at' U'.parts.1 hg λp hp _=>H5.aK λw6 H6=>?_⟩
   have px6:x.P w6:=H6.getD 0
   have cc:=Rt.again px6.parts.1 hg hp
   refine ⟨c.k,cc.c0,aH (λZf=>s0 w6 (by omega) (.inl Zf) H6) (λZf=>⟨by omega,by omega,Rt.at' px6.parts.1 hg λp hp cc=>⟨_,_,_,_,cc.c0,cc.c1,cc.c2,cc.c3,H6.aJ (jT c ev w6 szc (pc px6 hg) (H6.getD 1)) ?_⟩⟩)⟩
   rintro _ w7 rfl H7
   rw [uB]
   refine ⟨_,rfl,aH (λh0=>s0 w7 (by omega) (.inr h0) H7) (λh0=>H7.aK λw8 H8=>⟨⟨.mk 7 0 0 x.s x.l,rfl,?_,?_,λb hb=>.inr ?_⟩,H8.fr⟩)⟩
   .show Rx.mk 7 0 0 (Rt.bU x.l)=_
    rw [YR,if_neg (by omega),if_neg (λh=>h.elim Zf h0),hl,e1]
   .unfold Rt.P
    exact (show x.P w8 from H8.getD 0).parts
   .unfold Rt.fp at hb
    exact Rt.eJ.2 (fW.1 hb)
 .
  have YU:x.k=3\/x.k=4\/x.k=5:=by omega
  obtain ⟨j,u,z,ew,hj,gu,gz,hu,XR,ZT,Ia⟩:=aao x ev YU uB
  have loop:∀(d i:Nat) (acc:List Rt) (sl:Sl) (w1:World),i+d=x.l.length->acc=(x.l.take i).flatMap (iI x)->LH F0 w w1 [.g b4,.g b5,.row aA 4 sl (acc.flatMap Rt.c)] [.tree x,.tree ev]->
    enthymemeref04_normal.l4 x.k x.s b4 0 0 0 ⟨none,0,0⟩ b5 ev.k ev.lo.toNat ev.hi.toNat ev.s sl (i:Int) w1 λr w'=>oV x.fp w (mS (.mk x.k 0 0 (Rt.bU x.l))) r w'/\bI w w':=by
   intro d
   induction d with
   |zero=>
    intro i acc sl w1 hi ha H
    rw [qtOL (by omega)] at ha
    subst ha
    have Ea:Sub x (x.l.flatMap (iI x)):=Sub.flat λ_ h=>h
    have H':=(H.mE (.trees (x.l.flatMap (iI x))) (Fr.refl _ _) (Ea.Ps (H.getD 0)) (λb hb=>.inr (.inr ⟨_,cZ (i:=0) rfl,aI.2 (Ea.gK (aI.1 hb))⟩))).GZ 2 2 0 0 0
    have H':LH F0 w w1 [.g b4,.g b5] [.tree x,.tree ev,.tree (eE sl (x.l.flatMap (iI x)))]:=H'.forget _ (by simp)
    refine enthymemeref04_normal.dJ _ _ _ _ _ _ _ _ _ _ _ _ _ _ _ _ (aL (decide_eq_false (by omega)) ?_)
    refine H'.iH (n:=3) (sz:=4) (cs:=[gG,mB,ev].flatMap Rt.c) rfl (by decide) λw2 H2=>?_
    rw [ew]
    refine ⟨by omega,by omega,Rt.at' (s:=⟨some (bF w1.heap.size),3,3⟩) (l:=[gG,mB,ev]) (H2.get 2:aP _ _ _ _ _).jh gu λp hp c=>⟨_,_,_,_,c.c0,c.c1,c.c2,c.c3,H2.bJ λb8 w3 H3=>H3.aK λw4 H4=>H4.iH (n:=3) (sz:=4) (cs:=[mB,ev,mB].flatMap Rt.c) rfl (by decide) λw5 H5=>⟨by omega,by omega,Rt.at' (s:=⟨some (bF w4.heap.size),3,3⟩) (l:=[mB,ev,mB]) (H5.get 4:aP _ _ _ _ _).jh gz λp hp c=>⟨_,_,_,_,c.c0,c.c1,c.c2,c.c3,H5.bJ λb9 w6 H6=>H6.aK λw7 H7=>?_⟩⟩⟩⟩
    have H8:=((H7.freeze 1 (.g b5) rfl (H7.get 1) λb hb=>hb).freeze 1 _ rfl (H7.get 2) λb hb=>hb).freeze 2 _ rfl (H7.get 4) λb hb=>hb
    exact PN hx uB Z9 hu XR ZT Ia (H8.forget _ (by simp))
   |succ d pT=>
    intro i acc sl w1 hi ha H
    have hg:x.l[i]? =some (x.l[i]'(by omega)):=gW (by omega)
    generalize x.l[i]'(by omega)=a at hg
    have hm:=cZ hg
    have J2:x.P w1:=H.getD 0
    have CF:=Rt.dM hm
    have l8:Rt.fK acc<=Rt.fK x.l:=by
     have h1:=qR x (x.l.take i)
     have h2:=qi x.l i
     rw [ha];omega
    have ZC:acc++iI x a=(x.l.take (i+1)).flatMap (iI x):=by rw [qtO,hg,qfA,ha];simp
    have uf:=Rt.cC (H.get 2:aP _ _ _ _ _).jh
    have Ib:=Rt.eZ acc
    have tail:∀(s':Sl) (w':World),LH F0 w w' [.g b4,.g b5,.row aA 4 s' ((acc++iI x a).flatMap Rt.c)] [.tree x,.tree ev]->enthymemeref04_normal.eY x.k x.s b4 0 0 0 ⟨none,0,0⟩ b5 ev.k ev.lo.toNat ev.hi.toNat ev.s s' (i:Int) w' λr w'=>oV x.fp w (mS (.mk x.k 0 0 (Rt.bU x.l))) r w'/\bI w w':=by
     intro s' w' H'
     show enthymemeref04_normal.l4 _ _ _ _ _ _ _ _ _ _ _ _ _ _ _ _
     rw [aY _ (by omega)]
     exact pT (i+1) _ s' w' (by omega) ZC H'
    refine enthymemeref04_normal.dJ _ _ _ _ _ _ _ _ _ _ _ _ _ _ _ _ (aQ (decide_eq_true (by omega)) ⟨by omega,by omega,Rt.at' J2.parts.1 hg λp hp c=>⟨a.k,c.c0,aH (λhk=>?_) (λhk=>?_)⟩⟩)
    .have pa:a.P w1:=J2.parts.2.mem hm
     have na:=Rt.cC pa.parts.1
     have Ib:=Rt.eZ a.l
     have Aq:=Rt.gm a
     refine ⟨by omega,by omega,Rt.at' J2.parts.1 hg λp hp c=>⟨a.s,c.c3,?_⟩⟩
     refine H.Je 2 nQ (xs:=acc.flatMap Rt.c) (src:=a.s) (news:=a.l.flatMap Rt.c) rfl pa.parts.1 (AQ _) (by omega) (λs' w4 H4=>?_)
     refine tail s' w4 ?_
     have e:iI x a=a.l:=if_pos hk
     rw [e,qfA]
     exact H4
    .refine ⟨by omega,by omega,Rt.at' J2.parts.1 hg λp hp c=>⟨_,_,_,_,c.c0,c.c1,c.c2,c.c3,?_⟩⟩
     refine H.tR 2 nQ (xs:=acc.flatMap Rt.c) rfl (λs' w4 H4=>?_) (by omega)
     refine tail s' w4 ?_
     have e:iI x a=[a]:=if_neg hk
     rw [e,mq]
     exact H4
  exact loop x.l.length 0 [] ⟨none,0,0⟩ w4 (by omega) rfl (H5.oJ aA 4)
def uX (k:Int):Rx:=if k=3 then ql else if k=4 then wC else fD
def zX (k:Int):Rx:=if k=4 then fD else wC
mutual
def NF:Rx->Prop
 |.mk k lo hi l=>NU l/\(k≠2->lo=0/\hi=0)/\(((k=0\/k=1)/\l=[])\/(k=2/\l=[]/\lo.toNat<=hi.toNat)\/
   ((k=3\/k=4\/k=5)/\2<=l.length/\(k≠3->Fj l)/\∀t∈l,t.k≠k/\t≠uX k/\t≠zX k)\/
   (k=6/\∃c,l=[c]/\c.k≠6)\/(k=7/\∃c,l=[c]/\c.k≠0/\c.k≠1/\c.k≠7/\c≠fD))
def NU:List Rx->Prop
 |[]=>True
 |a::l=>NF a/\NU l
end
theorem uF:∀{l:List Rx},NU l↔∀t∈l,NF t
 |[]=>by unfold NU;simp
 |a::l=>by unfold NU;rw [uF];simp
theorem Eu:NF wC:=by unfold wC NF NU;simp
theorem zg:NF ql:=by unfold ql NF NU;simp
theorem Et:NF fD:=by
 unfold fD NF NU NU
 refine ⟨⟨Eu,trivial⟩,by simp,.inr (.inr (.inr (.inl ⟨rfl,wC,rfl,by decide⟩)))⟩
theorem WL (k:Int):NF (uX k):=by
 unfold uX
 split
 .exact zg
 .split
  .exact Eu
  .exact Et
theorem WM (k:Int):NF (zX k):=by
 unfold zX
 split
 .exact Et
 .exact Eu
theorem WK {x:Rx} (h:NF x):∀t∈x.l,NF t:=by
 cases x
 unfold NF at h
 exact uF.1 h.1
theorem Px {x:Rx} {k:Int} (hk:k=3\/k=4\/k=5) (h:NF x) (hx:x.k=k):2<=x.l.length/\(k≠3->Fj x.l)/\∀t∈x.l,t.k≠k/\t≠uX k/\t≠zX k:=by
 cases x with
 |mk k' lo hi l=>
  have hx:k'=k:=hx
  subst hx
  unfold NF at h
  obtain ⟨-,-,h|h|h|h|h⟩:=h
  .omega
  .omega
  .exact h.2
  .omega
  .omega
theorem Ju {k:Int} {l:List Rx} {u t:Rx}:t∈lP k l u↔(∃c∈l,if c.k=k then t∈c.l else t=c)/\t≠u:=by
 unfold lP
 rw [List.mem_filter,List.mem_flatMap,LG]
 refine and_congr ⟨λ⟨c,hc,h⟩=>⟨c,hc,?_⟩,λ⟨c,hc,h⟩=>⟨c,hc,?_⟩⟩ Iff.rfl
 .split at h
  .rename_i e;rw [if_pos e];exact h
  .rename_i e;rw [if_neg e];simpa using h
 .split at h
  .rename_i e;rw [if_pos e];exact h
  .rename_i e;rw [if_neg e];simpa using h
theorem OK {k:Int} (hk:k=3\/k=4\/k=5) {l:List Rx} (h:∀c∈l,NF c) {t:Rx} (ht:t∈lP k l (uX k)):NF t/\t.k≠k/\t≠uX k:=by
 obtain ⟨⟨c,hc,h1⟩,h2⟩:=Ju.1 ht
 split at h1
 .rename_i e
  exact ⟨WK (h c hc) t h1,((Px hk (h c hc) e).2.2 t h1).1,h2⟩
 .rename_i e
  subst h1
  exact ⟨h t hc,e,h2⟩
def rI (k:Int) (l:List Rx):List Rx:=if k=3 then lP k l (uX k) else J' (lP k l (uX k))
theorem J4 {k:Int} {l:List Rx} {t:Rx}:t∈rI k l↔t∈lP k l (uX k):=by
 unfold rI
 split
 .exact Iff.rfl
 .exact EN
theorem Bf (k:Int) (l:List Rx):((lP k l (uX k)).any λt=>cQ t (zX k)==0)=true↔zX k∈lP k l (uX k):=by
 rw [List.any_eq_true]
 constructor
 .rintro ⟨t,ht,h⟩
  rw [qX.1 h] at ht
  exact ht
 .exact λh=>⟨_,h,qX.2 rfl⟩
theorem Ih {k:Int} {l:List Rx} (h:zX k∈lP k l (uX k)):lf k l (uX k) (zX k)=zX k:=by
 unfold lf
 rw [if_pos ((Bf k l).2 h)]
theorem Ig {k:Int} {l:List Rx} (h:¬zX k∈lP k l (uX k)):lf k l (uX k) (zX k)=Jt k (uX k) (rI k l):=by
 unfold lf
 rw [if_neg (λh'=>h ((Bf k l).1 h'))]
 rfl
theorem Pd {k:Int} (hk:k=3\/k=4\/k=5) {l:List Rx} (h:∀c∈l,NF c):NF (lf k l (uX k) (zX k)):=by
 by_cases hz:zX k∈lP k l (uX k)
 .rw [Ih hz]
  exact WM k
 .rw [Ig hz]
  have hm:∀t∈rI k l,NF t/\t.k≠k/\t≠uX k/\t≠zX k:=λt ht=>by
   have ht:=J4.1 ht
   obtain ⟨h1,h2,h3⟩:=OK hk h ht
   exact ⟨h1,h2,h3,λe=>hz (e▸ht)⟩
  have V7:k≠3->Fj (rI k l):=λh3=>by
   unfold rI
   rw [if_neg h3]
   exact EM _
  generalize rI k l=m at hm V7
  unfold Jt
  split
  .exact WL k
  .exact (hm _ (by simp)).1
  .rename_i h0 h1
   unfold NF
   refine ⟨uF.2 λt ht=>(hm t ht).1,λ_=>⟨rfl,rfl⟩,.inr (.inr (.inl ⟨hk,?_,V7,λt ht=>(hm t ht).2⟩))⟩
   cases m with
   |nil=>exact absurd rfl h0
   |cons a m=>
    cases m with
    |nil=>exact absurd rfl (h1 a)
    |cons b m=>simp
theorem ua {k:Int} (hk:k=3\/k=4\/k=5) (lo hi:UInt8) (l:List Rx):mS (.mk k lo hi l)=lf k l (uX k) (zX k):=by
 rcases hk with rfl|rfl|rfl<;>rfl
theorem T2 {c:Rx} (h:NF c):NF (Ex 0 0 [c]):=by
 unfold Ex
 simp only
 split
 .rename_i e
  split
  .exact Eu
  .rename_i d m hm
   exact WK h d (by rw [hm];simp)
 .rename_i e
  unfold NF
  exact ⟨uF.2 λt ht=>by (simp at ht;subst ht;exact h),λ_=>⟨rfl,rfl⟩,.inr (.inr (.inr (.inl ⟨rfl,c,rfl,e⟩)))⟩
theorem Qg {c:Rx} (h:NF c):NF (qP 0 0 [c]):=by
 unfold qP
 simp only
 split
 .exact zg
 .rename_i e
  split
  .exact h
  .rename_i e2
   unfold NF
   exact ⟨uF.2 λt ht=>by (simp at ht;subst ht;exact h),λ_=>⟨rfl,rfl⟩,.inr (.inr (.inr (.inr ⟨rfl,c,rfl,λh=>e (.inl h),λh=>e (.inr h),λh=>e2 (.inl h),λh=>e2 (.inr (sm.2 h))⟩)))⟩
theorem q9 {k:Int} {lo hi:UInt8} {l:List Rx} (h:dT (.mk k lo hi l)=true):gw l=true/\(k≠2->lo=0/\hi=0)/\(((k=0\/k=1)/\l=[])\/(k=2/\l=[]/\lo.toNat<=hi.toNat)\/(k=3\/k=4\/k=5)\/((k=6\/k=7)/\∃c,l=[c])):=by
 unfold dT at h
 rw [Bool.and_eq_true] at h
 obtain ⟨h1,h2⟩:=h
 have rT:k≠2->lo=0/\hi=0:=λhk=>by
  have e:(k !=2)=true:=by simpa using hk
  rw [e,Bool.true_and,Bool.not_eq_true',Bool.or_eq_false_iff] at h1
  simpa using h1
 split at h2
 .rename_i hk
  have:l=[]:=by simpa using h2
  subst this
  exact ⟨rfl,rT,.inl ⟨hk,rfl⟩⟩
 .split at h2
  .rename_i hk
   simp only [Bool.and_eq_true,decide_eq_true_eq] at h2
   have:l=[]:=by simpa using h2.1
   subst this
   exact ⟨rfl,rT,.inr (.inl ⟨hk,rfl,h2.2⟩)⟩
  .split at h2
   .rename_i hk
    exact ⟨h2,rT,.inr (.inr (.inl hk))⟩
   .split at h2
    .rename_i hk
     simp only [Bool.and_eq_true] at h2
     exact ⟨h2.2,rT,.inr (.inr (.inr ⟨hk,List.length_eq_one_iff.1 (eq_of_beq h2.1)⟩))⟩
    .cases h2
theorem XB {k:Int} {lo hi:UInt8} {l:List Rx} (h1:gw l=true) (h2:k≠2->lo=0/\hi=0) (h3:((k=0\/k=1)/\l=[])\/(k=2/\l=[]/\lo.toNat<=hi.toNat)\/(k=3\/k=4\/k=5)\/((k=6\/k=7)/\∃c,l=[c])):dT (.mk k lo hi l)=true:=by
 unfold dT
 rw [Bool.and_eq_true]
 constructor
 .by_cases hk:k=2
  .subst hk;rfl
  .obtain ⟨rfl,rfl⟩:=h2 hk
   simp
 .rcases h3 with ⟨hk,rfl⟩|⟨rfl,rfl,hle⟩|hk|⟨hk,c,rfl⟩
  .rw [if_pos hk];rfl
  .rw [if_neg (by omega),if_pos rfl];simpa using hle
  .rw [if_neg (by omega),if_neg (by omega),if_pos hk];exact h1
  .rw [if_neg (by omega),if_neg (by omega),if_neg (by omega),if_pos hk];simpa using h1
theorem MQ {lo hi:UInt8} (h:lo.toNat<=hi.toNat):NF (.mk 2 lo hi []):=by
 unfold NF NU
 exact ⟨trivial,λh=>absurd rfl h,.inr (.inl ⟨rfl,rfl,h⟩)⟩
mutual
theorem Ir:∀x:Rx,dT x=true->NF (gl x)
 |.mk k lo hi l,h=>by
  obtain ⟨h1,h2,h3⟩:=q9 h
  have ih:=zi l h1
  unfold gl
  rcases h3 with ⟨hk,rfl⟩|⟨rfl,rfl,hle⟩|hk|⟨hk,c,rfl⟩
  .obtain ⟨rfl,rfl⟩:=h2 (by omega)
   rcases hk with rfl|rfl
   .exact Eu
   .exact zg
  .exact MQ hle
  .rw [ua hk]
   exact Pd hk ih
  .obtain ⟨rfl,rfl⟩:=h2 (by omega)
   have hc:NF (gl c):=ih _ (by unfold fU;simp)
   rcases hk with rfl|rfl
   .exact T2 hc
   .exact Qg hc
theorem zi:∀l:List Rx,gw l=true->∀t∈fU l,NF t
 |[],_=>λt ht=>by unfold fU at ht;cases ht
 |a::l,h=>λt ht=>by
  unfold gw at h
  rw [Bool.and_eq_true] at h
  unfold fU at ht
  rcases cU.1 ht with rfl|ht
  .exact Ir a h.1
  .exact zi l h.2 t ht
end
section
variable {μ:Rx->Nat}
theorem Bj (p:Rx->Bool):∀l:List Rx,ms μ (l.filter p)<=ms μ l
 |[]=>Nat.le_refl _
 |a::l=>by
  have ih:=Bj p l
  rw [List.filter_cons]
  split
  .show μ a+_<=μ a+_;omega
  .show _<=μ a+_;omega
theorem zd:∀{l:List Rx} {a:Rx},a∈l->μ a<=ms μ l
 |b::l,a,h=>by
  rcases cU.1 h with rfl|h
  .show μ a<=μ a+_;omega
  .have:=zd h
   show μ a<=μ b+_;omega
theorem MO (h:∀x,1<=μ x):∀l:List Rx,l.length<=ms μ l
 |[]=>Nat.le_refl _
 |a::l=>by
  have:=MO h l
  have:=h a
  show l.length+1<=μ a+ms μ l
  omega
theorem Il:∀(l:List Rx) (p:Rx),ms μ (kI p l)<=ms μ l
 |[],p=>Nat.le_refl _
 |x::l,p=>by
  have:=Il l x
  unfold kI
  split
  .show _<=μ x+ms μ l;omega
  .show μ x+_<=μ x+ms μ l;omega
theorem T0 (l:List Rx):ms μ (J' l)<=ms μ l:=by
 have h1:ms μ (yH (qh l))<=ms μ (qh l):=by
  cases qh l with
  |nil=>exact Nat.le_refl _
  |cons a m=>have:=Il (μ:=μ) m a;show μ a+_<=μ a+_;omega
 rw [<-Pw (ur l)]
 exact h1
theorem Ci (h:∀x,ms μ x.l<=μ x) (k:Int):∀l:List Rx,ms μ (l.flatMap λc=>if c.k=k then c.l else [c])<=ms μ l
 |[]=>Nat.le_refl _
 |c::l=>by
  have ih:=Ci h k l
  have h1:=h c
  rw [List.flatMap_cons,MN]
  show _<=μ c+ms μ l
  split
  .omega
  .show (μ c+0)+_<=_;omega
theorem Im (h:∀x,ms μ x.l<=μ x) (k:Int) (l:List Rx):ms μ (rI k l)<=ms μ l:=by
 have h1:ms μ (lP k l (uX k))<=ms μ l:=Nat.le_trans (Bj _ _) (Ci h k l)
 unfold rI
 split
 .exact h1
 .exact Nat.le_trans (T0 _) h1
end
theorem Hd:∀l:List Rx,Rx.fK l=ms Rx.sz l
 |[]=>rfl
 |a::l=>by unfold Rx.fK;rw [Hd l];rfl
theorem tJ (k:Int) (lo hi:UInt8) (l:List Rx):(Rx.mk k lo hi l).sz=1+ms Rx.sz l:=by unfold Rx.sz;rw [Hd]
theorem W9 (x:Rx):ms Rx.sz x.l<=x.sz:=by cases x;rw [tJ];simp only [Rx.l];omega
theorem TY (x:Rx):ms qp x.l<=qp x:=by cases x;rw [xl];simp only [Rx.l];omega
theorem TZ (x:Rx):1<=qp x:=by cases x;rw [xl];omega
mutual
theorem RE:∀x:Rx,qp x<=x.sz
 |.mk k lo hi l=>by
  rw [xl,tJ]
  have:=MM l
  omega
theorem MM:∀l:List Rx,ms qp l<=ms Rx.sz l
 |[]=>Nat.le_refl _
 |a::l=>by
  have h1:=RE a
  have h2:=MM l
  show qp a+ms qp l<=a.sz+ms Rx.sz l
  omega
end
theorem y4 {k:Int} {l:List Rx} {P:Rx->Prop} (hz:P (zX k)) (hu:P (uX k)) (h1:∀a,a∈rI k l->P a) (h2:P (.mk k 0 0 (rI k l))):P (lf k l (uX k) (zX k)):=by
 by_cases h:zX k∈lP k l (uX k)
 .rw [Ih h];exact hz
 .rw [Ig h]
  generalize hm:rI k l=m at h1 h2
  unfold Jt
  split
  .exact hu
  .exact h1 _ (by simp)
  .exact h2
theorem Sj (k:Int):(uX k).sz<=2/\(zX k).sz<=2/\qp (uX k)=1/\qp (zX k)=1:=by
 unfold uX zX
 refine ⟨?_,?_,?_,?_⟩
 .split
  .decide
  .split<;>decide
 .split<;>decide
 .split
  .decide
  .split<;>decide
 .split<;>decide
theorem Bk {k:Int} {c:Rx} (hk:k=6\/k=7) {P:Rx->Prop} (h0:P wC) (h1:P ql) (hc:P c) (hd:∀d∈c.l,P d) (h2:P (.mk k 0 0 [c])):P (mS (.mk k 0 0 [c])):=by
 rcases hk with rfl|rfl
 .show P (Ex 0 0 [c])
  unfold Ex
  simp only
  split
  .split
   .exact h0
   .rename_i d m hm
    exact hd d (by rw [hm];simp)
  .exact h2
 .show P (qP 0 0 [c])
  unfold qP
  simp only
  split
  .exact h1
  .split
   .exact hc
   .exact h2
mutual
theorem Cj:∀x:Rx,dT x=true->(gl x).sz<=2 *x.sz
 |.mk k lo hi l,h=>by
  obtain ⟨h1,h2,h3⟩:=q9 h
  have ih:=vr l h1
  have hx:=tJ k lo hi l
  rw [hx]
  unfold gl
  rcases h3 with ⟨hk,rfl⟩|⟨rfl,rfl,hle⟩|hk|⟨hk,c,rfl⟩
  .obtain ⟨rfl,rfl⟩:=h2 (by omega)
   rcases hk with rfl|rfl<;>decide
  .show (Rx.mk 2 lo hi []).sz<=_
   rw [tJ];simp only [ms];omega
  .rw [ua hk]
   have hr:=Im (μ:=Rx.sz) W9 k (fU l)
   obtain ⟨hu,hz,-,-⟩:=Sj k
   refine y4 (P:=λy=>y.sz<=2 *(1+ms Rx.sz l)) (by omega) (by omega) (λa ha=>?_) ?_
   .have:=zd (μ:=Rx.sz) ha
    omega
   .show (Rx.mk k 0 0 _).sz<=_
    rw [tJ];omega
  .obtain ⟨rfl,rfl⟩:=h2 (by omega)
   have en:fU [c]=[gl c]:=rfl
   rw [en] at ih ⊢
   have ih:(gl c).sz+0<=2 *(c.sz+0):=ih
   show _<=2 *(1+(c.sz+0))
   refine Bk (P:=λy=>y.sz<=2 *(1+(c.sz+0))) hk (by show (1:Nat)<=_;omega) (by show (1:Nat)<=_;omega) (by omega) (λd hd=>?_) ?_
   .have:=zd (μ:=Rx.sz) hd
    have:=W9 (gl c)
    omega
   .show (Rx.mk k 0 0 _).sz<=_
    rw [tJ];simp only [ms];omega
theorem vr:∀l:List Rx,gw l=true->ms Rx.sz (fU l)<=2 *ms Rx.sz l
 |[],_=>Nat.le_refl _
 |a::l,h=>by
  unfold gw at h
  rw [Bool.and_eq_true] at h
  have h1:=Cj a h.1
  have h2:=vr l h.2
  show (gl a).sz+ms Rx.sz (fU l)<=2 *(a.sz+ms Rx.sz l)
  omega
end
mutual
theorem Pz:∀x:Rx,dT x=true->qp (gl x)<=qp x
 |.mk k lo hi l,h=>by
  obtain ⟨h1,h2,h3⟩:=q9 h
  have ih:=zh l h1
  have hx:=xl k lo hi l
  rw [hx]
  unfold gl
  rcases h3 with ⟨hk,rfl⟩|⟨rfl,rfl,hle⟩|hk|⟨hk,c,rfl⟩
  .obtain ⟨rfl,rfl⟩:=h2 (by omega)
   rcases hk with rfl|rfl<;>decide
  .show qp (Rx.mk 2 lo hi [])<=_
   rw [xl];simp only [ms];omega
  .rw [ua hk]
   have hr:=Im (μ:=qp) TY k (fU l)
   obtain ⟨-,-,hu,hz⟩:=Sj k
   refine y4 (P:=λy=>qp y<=max 1 (ms qp l)) (by omega) (by omega) (λa ha=>?_) ?_
   .have:=zd (μ:=qp) ha
    omega
   .show qp (Rx.mk k 0 0 _)<=_
    rw [xl];omega
  .obtain ⟨rfl,rfl⟩:=h2 (by omega)
   have en:fU [c]=[gl c]:=rfl
   rw [en] at ih ⊢
   have ih:qp (gl c)+0<=qp c+0:=ih
   show _<=max 1 (qp c+0)
   refine Bk (P:=λy=>qp y<=max 1 (qp c+0)) hk (by show (1:Nat)<=_;omega) (by show (1:Nat)<=_;omega) (by omega) (λd hd=>?_) ?_
   .have:=zd (μ:=qp) hd
    have:=TY (gl c)
    omega
   .show qp (Rx.mk k 0 0 _)<=_
    rw [xl];simp only [ms];omega
theorem zh:∀l:List Rx,gw l=true->ms qp (fU l)<=ms qp l
 |[],_=>Nat.le_refl _
 |a::l,h=>by
  unfold gw at h
  rw [Bool.and_eq_true] at h
  have h1:=Pz a h.1
  have h2:=zh l h.2
  show qp (gl a)+ms qp (fU l)<=qp a+ms qp l
  omega
end
theorem HR {N:Nat} {k:Int} {lo hi:UInt8} {l:List Rx} (h:dT (.mk k lo hi l)=true) (hs:(Rx.mk k lo hi l).sz<=10000) (hf:B6 N (.mk k lo hi l)):uh N (.mk k lo hi (fU l))=true:=by
 obtain ⟨h1,h2,h3⟩:=q9 h
 have l8:=vr l h1
 have Rm:=zh l h1
 rw [tJ] at hs
 unfold B6 at hf
 unfold uh
 rw [Bool.and_eq_true,Bool.and_eq_true]
 refine ⟨⟨?_,decide_eq_true (by rw [tJ];omega)⟩,?_⟩
 .unfold nj
  rw [Bool.and_eq_true,Bool.and_eq_true]
  refine ⟨⟨decide_eq_true (by omega),decide_eq_true (by omega)⟩,?_⟩
  rcases h3 with ⟨hk,rfl⟩|⟨hk,rfl,hle⟩|hk|⟨hk,c,rfl⟩
  .show (k !=6&&k !=7)=true
   rcases hk with rfl|rfl<;>rfl
  .subst hk;rfl
  .cases fU l with
   |nil=>rcases hk with rfl|rfl|rfl<;>rfl
   |cons a m=>rcases hk with rfl|rfl|rfl<;>rfl
  .show (!(k==6&&(gl c).k==6&&(gl c).l.isEmpty))=true
   have hc:dT c=true:=by
    unfold gw at h1
    rw [Bool.and_eq_true] at h1
    exact h1.1
   have hn:=Ir c hc
   generalize gl c=y at hn
   cases y with
   |mk k' uC vT l'=>
    by_cases e:k'=6
    .unfold NF at hn
     obtain ⟨-,-,h|h|h|⟨_,d,hd,_⟩|h⟩:=hn
     .omega
     .omega
     .omega
     .rw [hd];simp [Rx.l]
     .omega
    .have:(Rx.k (.mk k' uC vT l')==6)=false:=by simpa [Rx.k] using e
     rw [this];simp
 .show decide (k=4\/k=5->U9 k (fU l)<=N)=true
  refine decide_eq_true λQ9=>?_
  have h4:=MO TZ ((fU l).flatMap λc=>if c.k=k then c.l else [c])
  have h5:=Ci (μ:=qp) TY k (fU l)
  have h6:=hf.2 Q9
  show ((fU l).flatMap λc=>if c.k=k then c.l else [c]).length<=N
  omega
mutual
theorem L3 {N:Nat}:∀x:Rx,dT x=true->x.sz<=10000->B6 N x->DM N x=true
 |.mk k lo hi l,h,hs,hf=>by
  obtain ⟨h1,-,-⟩:=q9 h
  unfold DM
  rw [HR h hs hf,Bool.and_true]
  rw [tJ] at hs
  unfold B6 at hf
  exact HP l h1 (by omega) hf.1
theorem HP {N:Nat}:∀l:List Rx,gw l=true->ms Rx.sz l<=10000->yN N l->yO N l=true
 |[],_,_,_=>rfl
 |a::l,h,hs,hf=>by
  unfold gw at h
  rw [Bool.and_eq_true] at h
  unfold yN at hf
  have hs:a.sz+ms Rx.sz l<=10000:=hs
  unfold yO
  rw [L3 a h.1 (by omega) hf.1,HP l h.2 (by omega) hf.2]
  rfl
end
end Go.Proofs.YtcifihepfadgfaaGreatDoor
namespace Go.Proofs.YtcifihepfadgfaaGreatDoor
open List renaming mem_append->fW,mem_cons->cU,mem_of_getElem?->cZ,getElem?_eq_getElem->gW,getElem?_eq_some_iff->oN,mem_map->oT,length_take->qlT,flatMap_append->qfA,drop_eq_getElem_cons->qdG,take_add_one->qtO,map_append->qmpA,drop_of_length_le->qdO,take_of_length_le->qtOL
open Go Go.W
theorem Z' {x:Rx} (h:NF x):0<=x.k:=by
 cases x
 unfold NF at h
 simp only [Rx.k]
 omega
theorem GG {x:Rx} (h:dT x=true) (hk:x.k<3):gl x=x:=by
 cases x with
 |mk k lo hi l=>
  have Gr:k<3:=hk
  clear hk
  obtain ⟨h1,h2,h3⟩:=q9 h
  rcases h3 with ⟨hk,rfl⟩|⟨rfl,rfl,hle⟩|hk|⟨hk,c,rfl⟩
  .rcases hk with rfl|rfl<;>rfl
  .rfl
  .omega
  .omega
abbrev Yr (n:Nat):Prop:=∀(x:Rt) (w:World),x.sz<=n->dT x.rx=true->x.P w->Calls Tryz.prog eP #[x.v] w λr w'=>oV x.fp w (gl x.rx) r w'/\bI w w'
theorem AS:∀n:Nat,n<=1000->Yr n
 |0,_=>λx w h _ _=>absurd h (by have:=Rt.oP x;omega)
 |n+1,hn=>λx w h NZ px=>by
  have ih:=AS n (by omega)
  have hs:=Rt.gm x
  have hl:=Rt.eZ x.l
  have nr:=Rt.cC px.parts.1
  refine enthymemeref04_simple.cV _ _ _ _ w _ ((za px).bJ λb1 w1 H1=>H1.bJ λb2 w2 H2=>aM (λhk=>H2.aK λw3 H3=>⟨⟨x,rfl,(GG NZ (by rw [wL];exact hk)).symm,H3.getD 0,λb hb=>.inr hb⟩,H3.fr⟩) (λhk=>?_))
  have An:=NZ
  rw [Rt.dC] at An
  obtain ⟨Zq,rT,aaq⟩:=q9 An
  obtain ⟨elo,ehi⟩:=rT (by omega)
  have YQ:gl x.rx=mS (.mk x.k 0 0 (fU (Rt.bU x.l))):=by
   rw [Rt.dC,elo,ehi]
   unfold gl
   rfl
  have loop:∀(d i:Nat) (acc:List Rt) (sl:Sl) (w1:World),i+d=x.l.length->Rt.bU acc=fU (Rt.bU (x.l.take i))->(∀b∈Rt.gK acc,w.heap.size<=b\/b∈x.fp)->
    LH F0 w w1 [.g b1,.g b2,.row aA 4 sl (acc.flatMap Rt.c)] [.tree x,.trees acc]->
    enthymemeref04_simple.eH b1 x.k x.lo.toNat x.hi.toNat x.s b2 0 0 0 ⟨none,0,0⟩ sl (i:Int) w1 λr w'=>oV x.fp w (gl x.rx) r w'/\bI w w':=by
   intro d
   induction d with
   |zero=>
    intro i acc sl w1 hi he hf H
    rw [qtOL (by omega)] at he
    have qn:∀b∈(Rt.row sl acc).fp,w.heap.size<=b:=λb hb=>(H.new _ (cZ (i:=2) rfl) b (fQ hb)).resolve_right id
    have H':LH F0 w w1 [.g b1,.g b2] [.tree x,.trees acc,Rt.row sl acc,.tree (.mk x.k 0 0 sl acc)]:=H.GZ 2 1 x.k 0 0
    have UT:Rx.mk x.k 0 0 (Rt.bU acc)=.mk x.k 0 0 (fU (Rt.bU x.l)):=by rw [he]
    have ZQ:(Rx.mk x.k x.lo x.hi (Rt.bU x.l)).sz<=10000:=by
     rw [<-Rt.dC,Rt.g9];omega
    have dN:=HR (N:=100000) An ZQ (Ge _ (by
     have hle:∀y:Rx,qp y<=y.sz:=RE
     have:=hle (Rx.mk x.k x.lo x.hi (Rt.bU x.l))
     omega))
    unfold uh at dN
    rw [Bool.and_eq_true,Bool.and_eq_true] at dN
    have l8:(Rt.mk x.k 0 0 sl acc).sz<=10000:=by
     have h1:=Rt.g9 (Rt.mk x.k 0 0 sl acc)
     have h2:=vr (Rt.bU x.l) Zq
     have h3:=Rt.zt x.l
     rw [Hd] at h3
     rw [<-h1]
     show (Rx.mk x.k 0 0 (Rt.bU acc)).sz<=_
     rw [UT,tJ]
     omega
    have hfo:nj (.mk x.k 0 0 (Rt.bU acc))=true:=by
     rw [UT]
     have:=dN.1.1
     rw [elo,ehi] at this
     exact this
    refine enthymemeref04_simple.bA _ _ _ _ _ _ _ _ _ _ _ _ _ _ (aL (decide_eq_false (by omega)) ?_)
    refine H'.yD (Jl (.mk x.k 0 0 sl acc) ⟨by show 3<=x.k;omega,by show x.k<=7;omega⟩ l8 hfo (λc hc=>?_) w1 (H'.getD 3)) (λb hb=>⟨_,cZ (i:=3) rfl,aI.2 hb⟩) λt w2 ht H2 ft=>?_
    .have UY:c.rx∈fU (Rt.bU x.l):=by
      rw [<-he,Rt.eW]
      exact oT.2 ⟨c,hc,rfl⟩
     have:=Z' (zi (Rt.bU x.l) Zq _ UY)
     rwa [wL] at this
    refine ⟨_,_,_,t.s,rfl,H2.aK λw3 H3=>⟨⟨t,rfl,?_,H3.getD 4,λb hb=>?_⟩,H3.fr⟩⟩
    .rw [ht,YQ]
     show mS (Rx.mk x.k 0 0 (Rt.bU acc))=_
     rw [he]
    .rcases ft b hb with hb|hb
     .exact .inl (Nat.le_trans H.fr.size hb)
     .unfold Rt.fp at hb
      rcases fW.1 hb with hb|hb
      .exact .inl (qn b hb)
      .exact hf b hb
   |succ d pT=>
    intro i acc sl w1 hi he hf H
    have hg:x.l[i]? =some (x.l[i]'(by omega)):=gW (by omega)
    generalize x.l[i]'(by omega)=a at hg
    have ma:=cZ hg
    have CF:=Rt.dM ma
    have ga:dT a.rx=true:=A3 Zq (by rw [Rt.eW];exact oT.2 ⟨a,ma,rfl⟩)
    have VR:∀b∈a.fp,b∈x.fp:=λb hb=>Rt.eJ.2 (.inr (Rt.bD.2 ⟨a,ma,hb⟩))
    refine enthymemeref04_simple.bA _ _ _ _ _ _ _ _ _ _ _ _ _ _ (aQ (decide_eq_true (by omega)) (jt (show x.P w1 from H.getD 0) rfl hg ?_))
    refine H.yD (ih a w1 (by omega) ga ((show x.P w1 from H.getD 0).parts.2.mem ma)) (λb hb=>⟨_,cZ (i:=0) rfl,aI.2 (VR b hb)⟩) λt w2 ht H2 ft=>?_
    have uf:=Rt.cC (H2.get 2:aP _ _ _ _ _).jh
    have Z2:acc.length=i:=by
     have h1:=congrArg List.length he
     rw [Rt.eW,mM,Rt.eW] at h1
     simp only [List.length_map,qlT] at h1
     omega
    refine ⟨_,_,_,t.s,rfl,H2.tR 2 nQ (xs:=acc.flatMap Rt.c) rfl (λs' w3 H3=>?_) (by omega)⟩
    have H4:=(H3.zv 1 2).take 3
    rw [aY _ (by omega)]
    refine pT (i+1) (acc++[t]) s' w3 (by omega) ?_ (qI hf λb hb=>?_) ?_
    .rw [kh,he,qtO,hg,Option.toList_some,kh,mM,mM,qmpA]
     show _++[t.rx]=_
     rw [ht];rfl
    .rcases ft b hb with hb|hb
     .exact .inl (Nat.le_trans H.fr.size hb)
     .exact .inr (VR b hb)
    .rw [mq]
     exact H4.forget _ (by simp)
  exact loop x.l.length 0 [] ⟨none,0,0⟩ w2 (by omega) rfl (λb hb=>by unfold Rt.gK at hb;cases hb) (Ew (H2.oJ aA 4))
theorem Dt (x:Rt) (w:World) (h:x.sz<=1000) (hg:dT x.rx=true) (px:x.P w):Calls Tryz.prog eP #[x.v] w λr w'=>oV x.fp w (gl x.rx) r w'/\bI w w':=AS 1000 (Nat.le_refl _) x w h hg px
def Ev (x:Rx):Rx:=if mP x=0 then Ek (gl x) else wC
def Py (x:Rx):Int:=if mP x=0 then Ej (gl x) else mP x
def QO (Aa:List Nat) (w:World) (x:Rx) (c:Int) (r:Ending) (w':World):Prop:=∃t:Rt,r=.returned (.tuple #[t.v,.int .i64 c])/\t.rx=x/\t.P w'/\∀b∈t.fp,w.heap.size<=b\/b∈Aa
theorem Vv (x:Rt) (w:World) (h:x.sz<=1000000) (px:x.P w):Calls Tryz.prog lh #[x.v] w λr w'=>QO x.fp w (Ek x.rx) (Ej x.rx) r w'/\bI w w':=by
 refine enthymemeref04_few.cV _ _ _ _ w _ ((za px).bJ λb1 w1 H1=>H1.bJ λb2 w2 H2=>H2.aJ (BS x w2 h (H2.getD 0)) ?_)
 rintro _ w3 rfl H3
 refine ⟨_,rfl,aM (λhl=>H3.aK λw4 H4=>⟨⟨mB,?_,?_,vp _,λb hb=>(nD hb).elim⟩,H4.fr⟩) (λhl=>H3.aK λw4 H4=>⟨⟨x,?_,?_,H4.getD 0,λb hb=>.inr hb⟩,H4.fr⟩)⟩
 .unfold Ej;rw [Rt.g9,if_pos (by omega)];rfl
 .unfold Ek;rw [Rt.g9,if_pos (by omega)];rfl
 .unfold Ej;rw [Rt.g9,if_neg (by omega)]
 .unfold Ek;rw [Rt.g9,if_neg (by omega)]
theorem Dr (x:Rt) (w:World) (h:x.sz<=1000000) (px:x.P w):Calls Tryz.prog jy #[x.v] w λr w'=>QO x.fp w (Ev x.rx) (Py x.rx) r w'/\bI w w':=by
 refine enthymemeref04_Normal.cV _ _ _ _ w _ ((za px).bJ λb1 w1 H1=>H1.bJ λb2 w2 H2=>H2.aJ (FV x w2 h (H2.getD 0)) ?_)
 rintro _ w3 rfl H3
 unfold Ev Py
 refine ⟨_,rfl,eB (λhM=>H3.aK λw4 H4=>⟨⟨mB,?_,?_,vp _,λb hb=>(nD hb).elim⟩,H4.fr⟩) (λhe=>?_)⟩
 .rw [if_neg hM];rfl
 .rw [if_neg hM];rfl
 obtain ⟨hg,hs⟩:=uw he
 have Wl:x.sz<=64:=by rw [<-Rt.g9];exact hs
 rw [if_pos he,if_pos he]
 refine H3.yD (Dt x w3 (by omega) hg (H3.getD 0)) (λb hb=>⟨_,cZ (i:=0) rfl,aI.2 hb⟩) λt w4 ht H4 ft=>?_
 have RN:t.sz<=1000000:=by
  have:=Cj _ hg
  rw [<-Rt.g9,ht];omega
 refine ⟨_,_,_,t.s,rfl,ng ((Vv t w4 RN (H4.getD 1)).mono ?_)⟩
 rintro _ w5 ⟨⟨u,rfl,hu,pu,fu⟩,f5⟩
 have H5:=H4.mE (.tree u) f5 pu λb hb=>(fu b (aI.1 hb)).imp id λhb=>.inr ⟨_,cZ (i:=1) rfl,aI.2 hb⟩
 refine ⟨f5,_,_,_,u.s,_,rfl,H5.aK λw6 H6=>⟨⟨u,by rw [ht],by rw [hu,ht],H6.getD 2,λb hb=>?_⟩,H6.fr⟩⟩
 rcases fu b hb with hb|hb
 .exact .inl (Nat.le_trans H4.fr.size hb)
 .exact (ft b hb).imp (λhb=>Nat.le_trans H3.fr.size hb) id
theorem Ld {N:Nat} (hS:vW N) (hN:N+1<=1000000) (x:Rt) (w:World) (h:x.sz<=1000000) (hf:B6 N x.rx) (px:x.P w):Calls Tryz.prog nu #[x.v] w λr w'=>QQ w (Ev x.rx) (Py x.rx) r w'/\bI w w':=by
 refine regex_Normal.cV _ _ _ _ w _ ((za px).bJ λb1 w1 H1=>H1.bJ λb2 w2 H2=>H2.aJ (Hw x w2 h (H2.getD 0)) ?_)
 rintro _ w3 rfl H3
 unfold Ev Py
 refine ⟨_,rfl,eB (λhM=>H3.aK λw4 H4=>⟨⟨mB,?_,?_,vp _,λb hb=>(nD hb).elim⟩,H4.fr⟩) (λhe=>H3.aK λw4 H4=>H4.sh (Oy w4) ?_)⟩
 .rw [if_neg hM];rfl
 .rw [if_neg hM];rfl
 rintro _ w5 ⟨F,rfl,hF,pF,nF⟩ _ F5
 have H5:=F5.rd (.fm F) pF nF
 obtain ⟨hg,hs⟩:=uw he
 rw [if_pos he,if_pos he]
 refine ⟨_,rfl,H5.yD (Ll hS hN hF x w5 h (L3 _ hg (by omega) hf) (H5.getD 1) (H5.getD 0)) (λb hb=>?_) λt w6 ht H6 _=>?_⟩
 .rcases fW.1 hb with hb|hb
  .exact ⟨_,cZ (i:=0) rfl,aI.2 hb⟩
  .exact ⟨_,cZ (i:=1) rfl,hb⟩
 have RN:t.sz<=1000000:=by
  have:=Cj _ hg
  rw [<-Rt.g9,ht];omega
 refine ⟨_,_,_,t.s,rfl,H6.sh (Jj t w6 RN (H6.getD 2)) ?_⟩
 rintro _ w7 ⟨u,rfl,hu,pu,fu⟩ _ F7
 have H7:=F7.rd (.tree u) pu λb hb=>fu b (aI.1 hb)
 exact ⟨_,_,_,u.s,_,rfl,H7.aK λw8 H8=>⟨⟨u,by rw [ht],by rw [hu,ht],H8.getD 3,λb hb=>Nat.le_trans H6.fr.size (fu b hb)⟩,H8.fr⟩⟩
abbrev BL:=List UInt8
def gQ (s:BL) (i:Nat):UInt8:=s.getD i 0
def N4 (c:UInt8):Bool:=decide (32<=c.toNat)&&decide (c.toNat<=126)&&!(c==39)&&!(c==92)
def tv (c:UInt8):Bool:=decide (97<=c.toNat)&&decide (c.toNat<=122)
def rQ (n:Nat):UInt8:=UInt8.ofNat (if n<10 then 48+n else 87+n)
def o9 (c:UInt8):Int:=if 48<=c.toNat/\c.toNat<=57 then (c.toNat:Int) - 48 else if 97<=c.toNat/\c.toNat<=102 then (c.toNat:Int) - 87 else -1
def gR (s:BL) (at_:Nat):UInt8×Nat:=
 if (decide (at_+3<=s.length)&&gQ s at_==39&&gQ s (at_+2)==39&&N4 (gQ s (at_+1)))=true then (gQ s (at_+1),3)
 else if (decide (at_+4<=s.length)&&gQ s at_==92&&gQ s (at_+1)==120&&decide (0<=o9 (gQ s (at_+2)))&&decide (0<=o9 (gQ s (at_+3))))=true then (UInt8.ofNat ((16 *o9 (gQ s (at_+2))+o9 (gQ s (at_+3))).toNat),4)
 else (0,0)
structure jS where
 tx:BL
 at_:Nat
 k:Nat
 lo:UInt8
 hi:UInt8
structure Yq where
 k:Nat
 lo:UInt8
 hi:UInt8
 n:Nat
def GF:Yq:=⟨0,0,0,0⟩
def ir (s:BL) (i:Nat):Yq:=
 let a:=gR s i
 if 0<a.2 then ⟨2,a.1,a.1,a.2⟩ else if gQ s i≠91 then GF else
 let b:=gR s (i+1)
 let dash:=i+1+b.2
 if b.2=0\/s.length<=dash\/gQ s dash≠45 then GF else
 let c:=gR s (dash+1)
 let fin:=dash+1+c.2
 if c.2=0\/s.length<=fin\/gQ s fin≠93\/c.1.toNat<b.1.toNat then GF else ⟨2,b.1,c.1,fin+1 - i⟩
def Ax (s:BL) (i:Nat):Nat->Nat->Nat
 |0,n=>n
 |f+1,n=>if (tv (gQ s i)&&decide (i+n<s.length)&&tv (gQ s (i+n)))=true then Ax s i f (n+1) else n
def CH (s:BL):Nat->Nat->List jS
 |0,_=>[⟨[],s.length,0,0,0⟩]
 |f+1,i=>if s.length<=i then [⟨[],s.length,0,0,0⟩] else if gQ s i=32 then CH s f (i+1) else
  let r:=ir s i
  let n:=if r.n=0 then Ax s i s.length 1 else r.n
  ⟨(s.take (i+n)).drop i,i,r.k,r.lo,r.hi⟩::CH s f (i+n)
def sX (s:BL):List jS:=CH s (s.length+1) 0
abbrev kz:=Nat×Bool
section
variable (l:List jS)
def jI (i:Nat):jS:=l.getD i ⟨[],0,0,0,0⟩
def nE (st:kz):BL:=bif st.2 then [32] else (jI l st.1).tx
def iu (s:BL) (st:kz):Bool×kz:=bif nE l st==s then (true,bif s.isEmpty then st else (st.1+1,st.2)) else (false,st)
def qd (s:BL) (st:kz):kz:=match iu l s st with
 |(true,st)=>st
 |(false,st)=>(st.1,true)
def xV (st:kz):Bool:=!st.2&&!(nE l st==[])&&!(nE l st==[41])&&!(nE l st==[44])&&!(nE l st==[124])&&!(nE l st==[38])
def ub (k:Int):List Rx->Rx
 |[a]=>a
 |m=>.mk k 0 0 m
def sY:Nat->BL
 |0=>[110,111,110,101]
 |1=>[101,109,112,116,121]
 |3=>[99,97,116]
 |4=>[97,108,116]
 |5=>[97,108,108]
 |_=>[]
def nX (st:kz):Nat->Nat->Option Nat
 |0,_=>none
 |f+1,k=>bif Nat.beq k 2||!(nE l st==sY k) then nX st f (k+1) else some k
mutual
def qH:Nat->kz->Option (Rx×kz)
 |0,_=>none
 |f+1,st=>match uT f st with
  |some (a,st)=>AH f [a] st
  |none=>none
def AH:Nat->List Rx->kz->Option (Rx×kz)
 |0,_,_=>none
 |f+1,acc,st=>match iu l [124] st with
  |(true,st)=>match uT f st with
   |some (a,st)=>AH f (acc++[a]) st
   |none=>none
  |(false,st)=>some (ub 4 acc,st)
def uT:Nat->kz->Option (Rx×kz)
 |0,_=>none
 |f+1,st=>match Cy f st with
  |some (a,st)=>AI f [a] st
  |none=>none
def AI:Nat->List Rx->kz->Option (Rx×kz)
 |0,_,_=>none
 |f+1,acc,st=>match iu l [38] st with
  |(true,st)=>match Cy f st with
   |some (a,st)=>AI f (acc++[a]) st
   |none=>none
  |(false,st)=>some (ub 5 acc,st)
def Cy:Nat->kz->Option (Rx×kz)
 |0,_=>none
 |f+1,st=>match sH f st with
  |some (a,st)=>wz f [a] st
  |none=>none
def wz:Nat->List Rx->kz->Option (Rx×kz)
 |0,_,_=>none
 |f+1,acc,st=>bif xV l st then match sH f st with
   |some (a,st)=>wz f (acc++[a]) st
   |none=>none
  else some (ub 3 acc,st)
def sH:Nat->kz->Option (Rx×kz)
 |0,_=>none
 |f+1,st=>match iu l [33] st with
  |(true,st)=>match sH f st with
   |some (a,st)=>some (.mk 6 0 0 [a],st)
   |none=>none
  |(false,st)=>match ym f st with
   |some (a,st)=>zC f a st
   |none=>none
def zC:Nat->Rx->kz->Option (Rx×kz)
 |0,_,_=>none
 |f+1,a,st=>match iu l [42] st with
  |(true,st)=>zC f (.mk 7 0 0 [a]) st
  |(false,st)=>some (a,st)
def ym:Nat->kz->Option (Rx×kz)
 |0,_=>none
 |f+1,st=>bif !st.2&&Nat.beq (jI l st.1).k 2 then some (.mk 2 (jI l st.1).lo (jI l st.1).hi [],(st.1+1,st.2)) else match nX l st 6 0 with
  |some k=>bif Nat.ble k 2 then some (.mk k 0 0 [],(st.1+1,st.2)) else match y6 f (st.1+1,st.2) with
   |some (m,st)=>some (.mk k 0 0 m,st)
   |none=>none
  |none=>let st:=qd l [40] st
   bif st.2 then some (wC,st) else match qH f st with
   |some (a,st)=>some (a,qd l [41] st)
   |none=>none
def y6:Nat->kz->Option (List Rx×kz)
 |0,_=>none
 |f+1,st=>match iu l [41] (qd l [40] st) with
  |(nn,st)=>bif st.2||nn then some ([],st) else match qH f st with
   |some (a,st)=>Ep f [a] st
   |none=>none
def Ep:Nat->List Rx->kz->Option (List Rx×kz)
 |0,_,_=>none
 |f+1,acc,st=>match iu l [44] st with
  |(true,st)=>match qH f st with
   |some (a,st)=>Ep f (acc++[a]) st
   |none=>none
  |(false,st)=>some (acc,qd l [41] st)
end
end
def wG (s:BL):Option (Rx×Nat×Int):=
 if 4096<s.length then some (wC,4096,4) else
 let l:=sX s
 match qH l 1000 (0,false) with
 |some (r,st)=>let st:=qd l [] st
  if st.2=true then some (wC,(jI l st.1).at_,2) else if 1000000<r.sz then none else if 64<r.sz then some (wC,s.length,4) else some (r,0,0)
 |none=>none
def dO (c:UInt8):BL:=if N4 c=true then [39,c,39] else [92,120,rQ (c.toNat / 16),rQ (c.toNat%16)]
def cL:Rx->Nat
 |.mk k _ _ l=>if k=6 then 3 else if k<3\/k=7\/l.length<2 then 4 else if k=3 then 2 else if k=4 then 0 else 1
def cP (lv:Nat) (a:Rx) (t:BL):BL:=if cL a<lv then 40::(t++[41]) else t
def ze (k:Int):BL:=if k=3 then [99,97,116,40] else if k=4 then [97,108,116,40] else [97,108,108,40]
def lE (k:Int):BL:=if k=3 then [] else if k=4 then [124] else [38]
def qa (t:BL):UInt8:=t.getLastD 0
def lU (k:Int):BL->List BL->BL
 |out,[]=>out
 |out,t::ts=>lU k ((if k=3/\tv (qa out)=true/\tv (gQ t 0)=true then out++[32] else out)++lE k++t) ts
def uc:List BL->BL
 |[]=>[]
 |t::_=>t
def Pc (k:Int):List BL->BL
 |[]=>[]
 |t::ts=>lU k t ts
mutual
def gJ:Rx->BL
 |.mk k lo hi l=>if k=0 then [110,111,110,101] else if k=1 then [101,109,112,116,121] else
  if k=2 then (if lo=hi then dO lo else 91::(dO lo++45::(dO hi++[93]))) else
  if k=6 then 33::uc (jb 3 l) else if k=7 then uc (jb 4 l)++[42] else
  if l.length<2 then ze k++(uc (jb 0 l)++[41]) else
  Pc k (jb (cL (.mk k lo hi l)+1) l)
def jb (lv:Nat):List Rx->List BL
 |[]=>[]
 |a::l=>cP lv a (gJ a)::jb lv l
end
mutual
def okW:Rx->Bool
 |.mk k _ _ l=>decide (0<=k)&&decide (k<=7)&&(decide (k<6)||decide (l.length=1))&&Aw l
def Aw:List Rx->Bool
 |[]=>true
 |a::l=>okW a&&Aw l
end
def BZ (s:BL):Option Bool:=match wG s with
 |some (r,_,e)=>if e=0 then (if Py r=0 then (if okW (Ev r)=true/\(Ev r).sz<=1000 then some (cP 0 (Ev r) (gJ (Ev r))==s) else none) else some false) else some false
 |none=>none
def X0 (a b:UInt8):Rx:=.mk 2 a b []
def fS:Nat->Rx
 |0=>X0 97 97
 |1=>X0 98 98
 |2=>X0 0 0
 |3=>X0 97 98
 |4=>ql
 |_=>fD
def Gf (a b c:Rx):Nat->Rx
 |0=>a
 |1=>.mk 3 0 0 [a,b]
 |2=>.mk 4 0 0 [a,b,c]
 |3=>.mk 7 0 0 [a]
 |4=>.mk 3 0 0 [.mk 7 0 0 [a],b]
 |5=>.mk 6 0 0 [.mk 3 0 0 [a,b]]
 |6=>.mk 3 0 0 [b,.mk 7 0 0 [.mk 4 0 0 [a,c]]]
 |_=>.mk 5 0 0 [.mk 6 0 0 [b],.mk 3 0 0 [a,fD]]
def qj (k:Nat):BL:=gJ (gl (Gf (fS (k%6)) (fS (k / 6%6)) (fS (k / 36%6)) (k / 216%8)))
end Go.Proofs.YtcifihepfadgfaaGreatDoor
