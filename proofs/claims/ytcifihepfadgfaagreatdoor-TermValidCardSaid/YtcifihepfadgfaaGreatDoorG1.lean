import Derived.Test.YtcifihepfadgfaaGreatDoorR1
import Derived.Test.YtcifihepfadgfaaGreatDoorV
set_option linter.unusedVariables false
namespace Go.Proofs.YtcifihepfadgfaaGreatDoor
open List renaming mem_append->fW,mem_cons->cU,mem_of_getElem?->dC,getElem?_eq_getElem->g7,getElem?_eq_some_iff->nP,mem_map->o8,length_take->qlT,flatMap_append->qfA,drop_eq_getElem_cons->qdG,take_add_one->qtO,map_append->qmpA,drop_of_length_le->qdO,take_of_length_le->qtOL
open Go Go.W
theorem vC {p:Addr} {K:Addr->Prop} (h:K p):aX (some p) K:=h
theorem Lx {x y:Int} (l:List Int) (h:x<y):sP (gD x y::l)=-1:=by unfold sP gD;simp [h]
theorem Lw {x y:Int} (l:List Int) (h:y<x):sP (gD x y::l)=1:=by
 unfold sP gD
 rw [if_neg (show ¬x<y by omega),if_pos h]
 simp
theorem Lu {x y:Int} (l:List Int) (h1:¬x<y) (h2:¬y<x):sP (gD x y::l)=sP l:=by
 conv=>lhs;unfold sP gD
 rw [if_neg h1,if_neg h2]
 simp
abbrev Yg (n:Nat):Prop:=∀(a b:Rt) (w:World),a.sz<=n->a.P w->b.P w->Calls Tryz.prog cE #[a.v,b.v] w λr w'=>r=.returned (.int .i64 (cP a.rx b.rx))/\bF w w'
theorem tA:∀n:Nat,n<=1000000->Yg n
 |0,_=>λa b w h _ _=>absurd h (by have:=Rt.oQ a;omega)
 |n+1,hn=>λa b w h pa pb=>by
  have ih:=tA n (by omega)
  have hs:=Rt.gm a
  have hl:=Rt.eZ a.l
  have na:=Rt.cB pa.parts.1
  have nbb:=Rt.cB pb.parts.1
  have e:cP a.rx b.rx=if sP [gD a.k b.k,gD a.lo.toNat b.lo.toNat,gD a.hi.toNat b.hi.toNat]≠0 then sP [gD a.k b.k,gD a.lo.toNat b.lo.toNat,gD a.hi.toNat b.hi.toNat] else cmpL (Rt.bU a.l) (Rt.bU b.l):=by
   rw [Rt.c9 a,Rt.c9 b];unfold cP;rfl
  have Wu:∀(d i:Nat) (b2 b3:Nat) (w1:World),i+d=a.l.length->i<=b.l.length->cmpL (Rt.bU (a.l.drop i)) (Rt.bU (b.l.drop i))=cP a.rx b.rx->LH F0 w w1 [.g b2,.g b3] [.tree a,.tree b]->
    enthymemeref04_Compare.l6 b2 a.k a.lo.toNat a.hi.toNat a.s b3 b.k b.lo.toNat b.hi.toNat b.s (i:Int) w1 λr w'=>r=.returned (.int .i64 (cP a.rx b.rx))/\bF w w':=by
   intro d
   induction d with
   |zero=>
    intro i b2 b3 w1 hi UO he H
    rw [qdO (by omega:a.l.length<=i)] at he
    refine enthymemeref04_Compare.dI _ _ _ _ _ _ _ _ _ _ _ _ _ (aM (decide_eq_false (by omega)) (aK (λh=>⟨?_,H.fr⟩) (λh=>aK (λh2=>?_) (λh2=>⟨?_,H.fr⟩))))
    .rw [qdG (by omega:i<b.l.length)] at he
     rw [<-he];rfl
    .omega
    .rw [qdO (by omega:b.l.length<=i)] at he
     rw [<-he];rfl
   |succ d pW=>
    intro i b2 b3 w1 hi UO he H
    have hg:a.l[i]? =some (a.l[i]'(by omega)):=g7 (by omega)
    rw [qdG (by omega:i<a.l.length)] at he
    generalize a.l[i]'(by omega)=x at hg he
    have CE:=Rt.dK (dC hg)
    refine enthymemeref04_Compare.dI _ _ _ _ _ _ _ _ _ _ _ _ _ (aS (decide_eq_true (by omega)) (aK (λlC=>⟨by omega,by omega,?_⟩) (λAo=>aK (λh=>?_) (λh=>aK (λh2=>⟨?_,H.fr⟩) (λh2=>?_)))))
    .have QZ:b.l[i]? =some (b.l[i]'(by omega)):=g7 (by omega)
     rw [qdG (by omega:i<b.l.length)] at he
     generalize b.l[i]'(by omega)=y at QZ he
     refine Rt.at' (show a.P w1 from H.getD 0).parts.1 hg λp hp _=>H.aN λw3 H3=>?_
     have c:=Rt.again (show a.P w3 from H3.getD 0).parts.1 hg hp
     refine ⟨_,_,_,_,c.c0,c.c1,c.c2,c.c3,by omega,by omega,Rt.at' (show b.P w3 from H3.getD 1).parts.1 QZ λq hq c'=>⟨_,_,_,_,c'.c0,c'.c1,c'.c2,c'.c3,H3.aL (ih x y w3 (by omega) ((show a.P w3 from H3.getD 0).parts.2.get hg) ((show b.P w3 from H3.getD 1).parts.2.get QZ)) ?_⟩⟩
     rintro _ w4 rfl H4
     have e2:cmpL (Rt.bU (x::a.l.drop (i+1))) (Rt.bU (y::b.l.drop (i+1)))=if cP x.rx y.rx≠0 then cP x.rx y.rx else cmpL (Rt.bU (a.l.drop (i+1))) (Rt.bU (b.l.drop (i+1))):=rfl
     rw [e2] at he
     refine ⟨_,rfl,eB (λhc=>⟨?_,H4.fr⟩) (λhc=>?_)⟩
     .rw [if_pos hc] at he
      rw [he]
     .rw [if_neg (by simpa using hc)] at he
      rw [aZ _ (by omega)]
      exact pW (i+1) b2 b3 w4 (by omega) (by omega) he H4
    .omega
    .rw [qdO (by omega:b.l.length<=i)] at he
     rw [<-he];rfl
    .omega
  have wl:∀(c:UInt8),IntKind.wrap .i64 (c.toNat:Int)=(c.toNat:Int):=λc=>IntWalk.i64_in _ (by have:=c.toNat_lt;omega)
  refine enthymemeref04_Compare.cT _ _ _ _ _ _ _ _ w _ ((mf [.tree a,.tree b] (by
   intro e he
   simp only [cU,List.not_mem_nil,or_false] at he
   rcases he with rfl|rfl
   .exact pa
   .exact pb)).bI λb2 w1 H1=>H1.bI λb3 w2 H2=>H2.nw λw3 _ H3=>H3.nw λw4 _ H4=>?_)
  have H4:LH F0 w w4 [.g b2,.g b3,.c w2.heap.size [.int .i64 a.k,.int .i64 (IntKind.wrap .i64 (a.lo.toNat:Int)),.int .i64 (IntKind.wrap .i64 (a.hi.toNat:Int))] bW,.c w3.heap.size [.int .i64 b.k,.int .i64 (IntKind.wrap .i64 (b.lo.toNat:Int)),.int .i64 (IntKind.wrap .i64 (b.hi.toNat:Int))] bW] [.tree a,.tree b]:=H4
  rw [wl,wl,wl,wl] at H4
  have step:∀(i:Nat) (x y:Int) (w5:World),i<3->([.int .i64 a.k,.int .i64 (a.lo.toNat:Int),.int .i64 (a.hi.toNat:Int)]:List Value)[i]? =some (.int .i64 x)->([.int .i64 b.k,.int .i64 (b.lo.toNat:Int),.int .i64 (b.hi.toNat:Int)]:List Value)[i]? =some (.int .i64 y)->
    LH F0 w w5 [.g b2,.g b3,.c w2.heap.size [.int .i64 a.k,.int .i64 (a.lo.toNat:Int),.int .i64 (a.hi.toNat:Int)] bW,.c w3.heap.size [.int .i64 b.k,.int .i64 (b.lo.toNat:Int),.int .i64 (b.hi.toNat:Int)] bW] [.tree a,.tree b]->
    (x<y->cP a.rx b.rx=-1)->(y<x->cP a.rx b.rx=1)->
    (¬x<y->¬y<x->∀w6,LH F0 w w6 [.g b2,.g b3,.c w2.heap.size [.int .i64 a.k,.int .i64 (a.lo.toNat:Int),.int .i64 (a.hi.toNat:Int)] bW,.c w3.heap.size [.int .i64 b.k,.int .i64 (b.lo.toNat:Int),.int .i64 (b.hi.toNat:Int)] bW] [.tree a,.tree b]->enthymemeref04_Compare.dY b2 a.k a.lo.toNat a.hi.toNat a.s b3 b.k b.lo.toNat b.hi.toNat b.s ⟨some (bD w2.heap.size),3,3⟩ ⟨some (bD w3.heap.size),3,3⟩ ((i+1:Nat):Int) w6 λr w'=>r=.returned (.int .i64 (cP a.rx b.rx))/\bF w w')->
    enthymemeref04_Compare.dY b2 a.k a.lo.toNat a.hi.toNat a.s b3 b.k b.lo.toNat b.hi.toNat b.s ⟨some (bD w2.heap.size),3,3⟩ ⟨some (bD w3.heap.size),3,3⟩ (i:Int) w5 λr w'=>r=.returned (.int .i64 (cP a.rx b.rx))/\bF w w':=by
   intro i x y w5 hi hx hy H lC Q8 hk
   have uK:((i:Nat):Int)<((3:Nat):Int):=by omega
   refine enthymemeref04_Compare.aY _ _ _ _ _ _ _ _ _ _ _ _ _ _ _ (aS (decide_eq_true (by omega)) ⟨by omega,uK,vC (H.aN λw6 H6=>⟨x,?_,by omega,uK,vC ⟨y,?_,aK (λh=>⟨by rw [lC h],H6.fr⟩) (λh=>⟨by omega,uK,vC (H6.aN λw7 H7=>⟨x,?_,by omega,uK,vC ⟨y,?_,aK (λh2=>⟨by rw [Q8 h2],H7.fr⟩) (λh2=>?_)⟩⟩)⟩)⟩⟩)⟩)
   .rw [Int.toNat_natCast,Nat.mul_one];exact H6.ld 2 i rfl hx
   .rw [Int.toNat_natCast,Nat.mul_one];exact H6.ld 3 i rfl hy
   .rw [Int.toNat_natCast,Nat.mul_one];exact H7.ld 2 i rfl hx
   .rw [Int.toNat_natCast,Nat.mul_one];exact H7.ld 3 i rfl hy
   .rw [show IntKind.wrap .i64 ((i:Int)+1)=((i+1:Nat):Int) by rw [IntWalk.i64_in _ (by omega)];omega]
    exact hk h h2 w7 H7
  show enthymemeref04_Compare.dY _ _ _ _ _ _ _ _ _ _ _ _ ((0:Nat):Int) _ _
  refine step 0 _ _ w4 (by omega) rfl rfl H4 (λh=>by rw [e,Lx _ h];rfl) (λh=>by rw [e,Lw _ h];rfl) (λh1 h2 w5 H5=>?_)
  rw [Lu _ h1 h2] at e
  refine step 1 _ _ w5 (by omega) rfl rfl H5 (λh=>by rw [e,Lx _ h];rfl) (λh=>by rw [e,Lw _ h];rfl) (λh1 h2 w6 H6=>?_)
  rw [Lu _ h1 h2] at e
  refine step 2 _ _ w6 (by omega) rfl rfl H6 (λh=>by rw [e,Lx _ h];rfl) (λh=>by rw [e,Lw _ h];rfl) (λh1 h2 w7 H7=>?_)
  rw [Lu _ h1 h2] at e
  refine enthymemeref04_Compare.aY _ _ _ _ _ _ _ _ _ _ _ _ _ _ _ (aM rfl (Wu a.l.length 0 b2 b3 w7 (by omega) (by omega) ?_ (H7.take 2)))
  rw [e]
  rfl
theorem jQ (a b:Rt) (w:World) (h:a.sz<=1000000) (pa:a.P w) (pb:b.P w):Calls Tryz.prog cE #[a.v,b.v] w λr w'=>r=.returned (.int .i64 (cP a.rx b.rx))/\bF w w':=tA 1000000 (Nat.le_refl _) a b w h pa pb
abbrev Yb (n:Nat):Prop:=∀(x:Rt) (w:World),x.sz<=n->x.P w->Calls Tryz.prog dW #[x.v] w λr w'=>r=.returned (.int .i64 (x.sz:Int))/\bF w w'
theorem Dd:∀n:Nat,n<=1000000->Yb n
 |0,_=>λx w h _=>absurd h (by have:=Rt.oQ x;omega)
 |n+1,hn=>λx w h px=>by
  have ih:=Dd n (by omega)
  have hs:=Rt.gm x
  have hl:=Rt.eZ x.l
  have nr:=Rt.cB px.parts.1
  have loop:∀(d i m b1:Nat) (w1:World),i+d=x.l.length->m+Rt.fL (x.l.drop i)=x.sz->LH F0 w w1 [.g b1] [.tree x]->enthymemeref04_Nodes.dY b1 x.k x.lo.toNat x.hi.toNat x.s (m:Int) (i:Int) w1 λr w'=>r=.returned (.int .i64 (x.sz:Int))/\bF w w':=by
   intro d
   induction d with
   |zero=>
    intro i m b1 w1 hi he H
    rw [qdO (by omega)] at he
    refine enthymemeref04_Nodes.aY _ _ _ _ _ _ _ _ _ (aM (decide_eq_false (by omega)) ⟨?_,H.fr⟩)
    have:m=x.sz:=he
    rw [this]
   |succ d pW=>
    intro i m b1 w1 hi he H
    have hg:x.l[i]? =some (x.l[i]'(by omega)):=g7 (by omega)
    rw [qdG (by omega)] at he
    generalize x.l[i]'(by omega)=a at hg he
    have mJ:m+(a.sz+Rt.fL (x.l.drop (i+1)))=x.sz:=he
    have ma:=dC hg
    have CE:=Rt.dK ma
    refine enthymemeref04_Nodes.aY _ _ _ _ _ _ _ _ _ (aS (decide_eq_true (by omega)) (jo (show x.P w1 from H.getD 0) rfl hg (H.aL (ih a w1 (by omega) ((show x.P w1 from H.getD 0).parts.2.mem ma)) ?_)))
    rintro _ w2 rfl H2
    refine ⟨_,rfl,?_⟩
    show enthymemeref04_Nodes.dY _ _ _ _ _ _ _ _ _
    rw [aZ _ (by omega),IntWalk.i64_in _ (by omega)]
    have e:((m:Int)+(a.sz:Int))=((m+a.sz:Nat):Int):=by omega
    rw [e]
    exact pW (i+1) (m+a.sz) b1 w2 (by omega) (by omega) H2
  exact enthymemeref04_Nodes.cT _ _ _ _ w _ ((y9 px).bI λb1 w1 H1=>loop x.l.length 0 1 b1 w1 (by omega) (by rw [List.drop_zero];omega) H1)
theorem BR (x:Rt) (w:World) (h:x.sz<=1000000) (px:x.P w):Calls Tryz.prog dW #[x.v] w λr w'=>r=.returned (.int .i64 (x.sz:Int))/\bF w w':=Dd 1000000 (Nat.le_refl _) x w h px
def Cg (k:Nat):Int:=if 6<=k then 1 else 0
def If (k:Nat):Int:=if k<3 then 0 else if k<6 then 64 else 1
theorem My {k:Nat} (h:k<8):([.i 0,.i 0,.i 0,.i 0,.i 0,.i 0,.i 1,.i 1]:List Value)[k]? =some (.i (Cg k)):=by
 have:k=0\/k=1\/k=2\/k=3\/k=4\/k=5\/k=6\/k=7:=by omega
 rcases this with rfl|rfl|rfl|rfl|rfl|rfl|rfl|rfl<;>rfl
theorem Pl {k:Nat} (h:k<8):([.i 0,.i 0,.i 0,.i 64,.i 64,.i 64,.i 1,.i 1]:List Value)[k]? =some (.i (If k)):=by
 have:k=0\/k=1\/k=2\/k=3\/k=4\/k=5\/k=6\/k=7:=by omega
 rcases this with rfl|rfl|rfl|rfl|rfl|rfl|rfl|rfl<;>rfl
abbrev X8 (n:Nat):Prop:=∀(x:Rt) (w:World),x.sz<=n->x.P w->Calls Tryz.prog iB #[x.v] w λr w'=>r=.returned (.bool (dS x.rx))/\bF w w'
theorem Ht:∀n:Nat,n<=64->X8 n
 |0,_=>λx w h _=>absurd h (by have:=Rt.oQ x;omega)
 |n+1,hn=>λx w h px=>by
  have ih:=Ht n (by omega)
  have hs:=Rt.gm x
  have hl:=Rt.eZ x.l
  have nr:=Rt.cB px.parts.1
  have el:(Rt.bU x.l).length=x.s.n:=by rw [Rt.eW];simp [nr]
  have ee:(Rt.bU x.l).isEmpty=decide (x.s.n=0):=by
   rw [<-el,Bool.eq_iff_iff]
   simp
  have eg:dS x.rx=(!(x.k !=2&&(x.lo !=0||x.hi !=0))&&(if x.k=0\/x.k=1 then (Rt.bU x.l).isEmpty else if x.k=2 then (Rt.bU x.l).isEmpty&&decide (x.lo.toNat<=x.hi.toNat) else if x.k=3\/x.k=4\/x.k=5 then gA (Rt.bU x.l) else if x.k=6\/x.k=7 then (Rt.bU x.l).length==1&&gA (Rt.bU x.l) else false)):=by
   rw [Rt.c9]
   unfold dS
   rfl
  rw [ee,el] at eg
  have z8:∀u:UInt8,(u !=0)=decide (u.toNat≠0):=λu=>by
   rw [Bool.eq_iff_iff]
   simp only [bne_iff_ne,ne_eq,decide_eq_true_eq]
   exact not_congr ⟨λh=>by rw [h];rfl,λh=>UInt8.toNat_inj.1 (by simpa using h)⟩
  rw [z8,z8] at eg
  have bad:∀{b1:Nat} {w':World},dS x.rx=false->LH F0 w w' [.g b1,.c (0:Nat) [] bW] []->True:=λ_ _=>trivial
  let R:aD:=λr w'=>r=.returned (.bool (dS x.rx))/\bF w w'
  have loop:dS x.rx=gA (Rt.bU x.l)->∀(d i b1:Nat) (w1:World),i+d=x.l.length->gA (Rt.bU (x.l.drop i))=gA (Rt.bU x.l)->LH F0 w w1 [.g b1] [.tree x]->enthymemeref04_good.CX b1 x.k x.lo.toNat x.hi.toNat x.s (i:Int) w1 R:=by
   intro hx d
   induction d with
   |zero=>
    intro i b1 w1 hi he H
    rw [qdO (by omega)] at he
    refine enthymemeref04_good.pA _ _ _ _ _ _ _ _ (aM (decide_eq_false (by omega)) ⟨?_,H.fr⟩)
    rw [hx,<-he];rfl
   |succ d pW=>
    intro i b1 w1 hi he H
    have hg:x.l[i]? =some (x.l[i]'(by omega)):=g7 (by omega)
    rw [qdG (by omega)] at he
    generalize x.l[i]'(by omega)=a at hg he
    have ma:=dC hg
    have CE:=Rt.dK ma
    have mJ:(dS a.rx&&gA (Rt.bU (x.l.drop (i+1))))=gA (Rt.bU x.l):=he
    refine enthymemeref04_good.pA _ _ _ _ _ _ _ _ (aS (decide_eq_true (by omega)) (jo (show x.P w1 from H.getD 0) rfl hg (H.aL (ih a w1 (by omega) ((show x.P w1 from H.getD 0).parts.2.mem ma)) ?_)))
    rintro _ w2 rfl H2
    refine ⟨_,rfl,eO (λhf=>⟨?_,H2.fr⟩) (λht=>?_)⟩
    .rw [hx,<-mJ,hf];rfl
    .rw [aZ _ (by omega)]
     rw [ht,Bool.true_and] at mJ
     exact pW (i+1) b1 w2 (by omega) mJ H2
  refine enthymemeref04_good.cT _ _ _ _ w _ ((y9 px).bI λb1 w1 H1=>H1.nw λw2 _ H2=>H2.nw λw3 _ H3=>?_)
  have no:∀w':World,LH F0 w w' [.g b1,.c w1.heap.size [.i 0,.i 0,.i 0,.i 64,.i 64,.i 64,.i 1,.i 1] bW,.c w2.heap.size [.i 0,.i 0,.i 0,.i 0,.i 0,.i 0,.i 1,.i 1] bW] [.tree x]->dS x.rx=false->(Ending.returned (.bool false)=.returned (.bool (dS x.rx))/\bF w w'):=λw' H' hf=>⟨by rw [hf],H'.fr⟩
  refine aK (λk0=>LH.aN H3 (λw4 H4=>no w4 H4 ?_) (by simp)) (λk0=>aK (λk7=>LH.aN H3 (λw4 H4=>no w4 H4 ?_) (by simp)) (λk7=>?_))
  .rw [eg,if_neg (by omega),if_neg (by omega),if_neg (by omega),if_neg (by omega),Bool.and_false]
  .rw [eg,if_neg (by omega),if_neg (by omega),if_neg (by omega),if_neg (by omega),Bool.and_false]
  obtain ⟨k,hk⟩:=Int.eq_ofNat_of_zero_le (by omega:0<=x.k)
  have VZ:k<8:=by omega
  refine ⟨by omega,by show x.k<((8:Nat):Int);omega,(show aX (some (nb w2)) _ from LH.aN H3 (λw4 H4=>⟨Cg k,?_,?_⟩) (by simp))⟩
  .have:=LH.ld (L:=[.g b1,.c w1.heap.size [.i 0,.i 0,.i 0,.i 64,.i 64,.i 64,.i 1,.i 1] bW,.c w2.heap.size [.i 0,.i 0,.i 0,.i 0,.i 0,.i 0,.i 1,.i 1] bW]) H4 2 k rfl (My VZ)
   rw [hk,Int.toNat_natCast,Nat.mul_one]
   exact this
  refine aK (λhle=>no w4 H4 ?_) (λhle=>⟨by omega,by show x.k<((8:Nat):Int);omega,(show aX (some (nb w1)) _ from ⟨If k,?_,?_⟩)⟩)
  .unfold Cg at hle
   rw [eg,if_neg (by split at hle<;>omega),if_neg (by split at hle<;>omega),if_neg (by split at hle<;>omega)]
   split
   .rename_i h67
    have:(x.s.n==1)=false:=by
     rw [beq_eq_false_iff_ne]
     split at hle<;>omega
    rw [this];simp
   .simp
  .have:=LH.ld (L:=[.g b1,.c w1.heap.size [.i 0,.i 0,.i 0,.i 64,.i 64,.i 64,.i 1,.i 1] bW,.c w2.heap.size [.i 0,.i 0,.i 0,.i 0,.i 0,.i 0,.i 1,.i 1] bW]) H4 1 k rfl (Pl VZ)
   rw [hk,Int.toNat_natCast,Nat.mul_one]
   exact this
  refine aK (λOX=>no w4 H4 ?_) (λOX=>?_)
  .unfold If at OX
   by_cases k2:k<3
   .rw [if_pos k2] at OX
    have iq:decide (x.s.n=0)=false:=decide_eq_false (by omega)
    rw [eg,iq]
    split
    .simp
    .split
     .simp
     .omega
   .rw [if_neg k2] at OX
    by_cases k5:k<6
    .rw [if_pos k5] at OX;omega
    .rw [if_neg k5] at OX
     have:(x.s.n==1)=false:=by rw [beq_eq_false_iff_ne];omega
     rw [eg,this,if_neg (by omega),if_neg (by omega),if_neg (by omega),if_pos (by omega)]
     simp
  have OZ:(k<3->x.s.n=0)/\(6<=k->x.s.n=1):=by
   unfold Cg at hle
   unfold If at OX
   refine ⟨λh=>?_,λh=>?_⟩
   .rw [if_pos h] at OX;omega
   .rw [if_pos h] at hle
    rw [if_neg (by omega),if_neg (by omega)] at OX
    omega
  have H5:LH F0 w w4 [.g b1] [.tree x]:=LH.take (L:=[.g b1,.c w1.heap.size [.i 0,.i 0,.i 0,.i 64,.i 64,.i 64,.i 1,.i 1] bW,.c w2.heap.size [.i 0,.i 0,.i 0,.i 0,.i 0,.i 0,.i 1,.i 1] bW]) H4 1
  have WD:k<3->gA (Rt.bU x.l)=true:=λh=>by
   have h0:(Rt.bU x.l).length=0:=by rw [el,OZ.1 h]
   rw [List.length_eq_zero_iff.1 h0]
   rfl
  have go:dS x.rx=gA (Rt.bU x.l)->enthymemeref04_good.eY b1 x.k x.lo.toNat x.hi.toNat x.s w4 R:=λhx=>loop hx x.l.length 0 b1 w4 (by omega) (by simp) H5
  refine aK (λOW=>no w4 H4 ?_) (λOW=>eB (λk2=>aK (λOU=>no w4 H4 ?_) (λOU=>go ?_)) (λk2=>go ?_))
  .rw [eg]
   by_cases k2:x.k=2
   .rw [if_neg (by omega),if_pos k2,decide_eq_false (show ¬x.lo.toNat<=x.hi.toNat by omega)]
    simp
   .have:(x.k !=2&&(decide (x.lo.toNat≠0)||decide (x.hi.toNat≠0)))=true:=by
     rw [decide_eq_true (show x.lo.toNat≠0 by omega)]
     simp [k2]
    rw [this];rfl
  .have:(x.k !=2&&(decide (x.lo.toNat≠0)||decide (x.hi.toNat≠0)))=true:=by
    rw [decide_eq_true (show x.hi.toNat≠0 by omega)]
    simp [k2]
   rw [eg,this];rfl
  .have e0:(x.k !=2&&(decide (x.lo.toNat≠0)||decide (x.hi.toNat≠0)))=false:=by
    rw [decide_eq_false (show ¬x.lo.toNat≠0 by omega),decide_eq_false (show ¬x.hi.toNat≠0 by omega)]
    simp
   rw [eg,e0]
   by_cases c1:x.k=0\/x.k=1
   .rw [if_pos c1,WD (by omega),decide_eq_true (OZ.1 (by omega))];rfl
   .rw [if_neg c1,if_neg k2]
    by_cases c3:x.k=3\/x.k=4\/x.k=5
    .rw [if_pos c3];simp
    .rw [if_neg c3,if_pos (by omega),OZ.2 (by omega)];simp
  .have e0:(x.k !=2&&(decide (x.lo.toNat≠0)||decide (x.hi.toNat≠0)))=false:=by rw [k2];rfl
   rw [eg,e0,if_neg (by omega),if_pos k2,WD (by omega),decide_eq_true (OZ.1 (by omega)),decide_eq_true (show x.lo.toNat<=x.hi.toNat by omega)]
   rfl
theorem FK (x:Rt) (w:World) (h:x.sz<=1000000) (px:x.P w):Calls Tryz.prog jW #[x.v] w λr w'=>r=.returned (.int .i64 (mP x.rx))/\bF w w':=by
 refine enthymemeref04_Valid.cT _ _ _ _ w _ ((y9 px).bI λb1 w1 H1=>H1.aL (BR x w1 h (H1.getD 0)) ?_)
 rintro _ w2 rfl H2
 refine ⟨_,rfl,aK (λhl=>⟨?_,H2.fr⟩) (λhl=>H2.aL (Ht 64 (Nat.le_refl _) x w2 (by omega) (H2.getD 0)) ?_)⟩
 .unfold mP;rw [Rt.hM,if_pos (by omega)]
 rintro _ w3 rfl H3
 refine ⟨_,rfl,eO (λhg=>⟨?_,H3.fr⟩) (λhg=>⟨?_,H3.fr⟩)⟩
 .unfold mP;rw [Rt.hM,if_neg (by omega),hg];rfl
 .unfold mP;rw [Rt.hM,if_neg (by omega),hg];rfl
theorem uy {x:Rx} (h:mP x=0):dS x=true/\x.sz<=64:=by
 unfold mP at h
 split at h
 .cases h
 .split at h
  .rename_i h2
   exact ⟨h2,by omega⟩
  .cases h
theorem A2:∀{l:List Rx} {a:Rx},gA l=true->a∈l->dS a=true
 |b::l,a,h,ha=>by
  have h':(dS b&&gA l)=true:=h
  rw [Bool.and_eq_true] at h'
  rcases cU.1 ha with rfl|ha
  .exact h'.1
  .exact A2 h'.2 ha
theorem nT:iK Tryz.prog aC aA (.agg #[.int .i64 0,.int .u8 0,.int .u8 0,.slice none 0 0]) 4 40:=⟨by kernel_rfl,by kernel_rfl,rfl,by decide,by decide⟩
theorem BS (w:World):Calls Tryz.prog bQ #[] w λr w'=>oC w fE r w'/\bF w w':=by
 refine enthymemeref04_Everything.cT w _ ((mf [] (by simp)).bI λb w1 H1=>H1.gZ (n:=1) (sz:=4) (cs:=mD.c) rfl (by decide) λw2 H2=>H2.aN λw6 H6=>⟨⟨.mk 6 0 0 ⟨some (bD w1.heap.size),1,1⟩ [mD],rfl,rfl,?_,λc hc=>?_⟩,H6.fr⟩)
 .unfold Rt.P Rt.Ps Rt.Ps
  exact ⟨(H6.get 1:aO _ _ _ _ _).iQ,vu w6,trivial⟩
 .unfold Rt.fp Rt.gN Rt.gN at hc
  rcases fW.1 hc with hc|hc
  .exact (H6.new _ (dC (i:=1) rfl) c (fQ hc)).resolve_right id
  .rcases fW.1 hc with hc|hc
   .exact (nD hc).elim
   .cases hc
def pZ (r:Rt):List Rt->List Rt
 |[]=>[r]
 |y::p=>if cP y.rx r.rx<0 then y::pZ r p else if cP y.rx r.rx=0 then y::p else r::y::p
theorem MV (r:Rt):∀l:List Rt,(pZ r l).map Rt.rx=wO r.rx (l.map Rt.rx)
 |[]=>rfl
 |y::p=>by
  unfold pZ
  rw [List.map_cons]
  unfold wO
  split
  .rw [List.map_cons,MV r p]
  .split<;>rfl
theorem vF {t r:Rt}:∀{p:List Rt},t∈pZ r p->t=r\/t∈p
 |[],h=>by unfold pZ at h;simpa using h
 |y::p,h=>by
  unfold pZ at h
  split at h
  .rcases cU.1 h with rfl|h
   .simp
   .rcases vF h with h|h<;>simp [h]
  .split at h
   .exact .inr h
   .rcases cU.1 h with rfl|h
    .simp
    .exact .inr h
theorem Ez (r:Rt):∀l:List Rt,Rt.fL (pZ r l)<=r.sz+Rt.fL l
 |[]=>by show r.sz+0<=r.sz+0;omega
 |y::p=>by
  unfold pZ
  split
  .have:=Ez r p
   show y.sz+Rt.fL (pZ r p)<=r.sz+(y.sz+Rt.fL p)
   omega
  .split
   .show y.sz+Rt.fL p<=r.sz+(y.sz+Rt.fL p)
    omega
   .exact Nat.le_refl _
theorem Iu {r:Rt}:∀{l:List Rt} {k:Nat},k<=l.length->(∀q t,q<k->l[q]? =some t->cP t.rx r.rx<0)->(∀t,l[k]? =some t->¬cP t.rx r.rx<0)->
  (∀t,l[k]? =some t->cP t.rx r.rx=0->pZ r l=l)/\((∀t,l[k]? =some t->cP t.rx r.rx≠0)->pZ r l=l.take k++r::l.drop k)
 |[],k,hk,h1,h2=>⟨λt h=>by simp at h,λ_=>by simp [pZ]⟩
 |y::p,0,hk,h1,h2=>by
  have:=h2 y rfl
  unfold pZ
  rw [if_neg this]
  refine ⟨λt h h0=>?_,λh=>?_⟩
  .cases h
   rw [if_pos h0]
  .rw [if_neg (h y rfl)]
   rfl
 |y::p,k+1,hk,h1,h2=>by
  have hy:=h1 0 y (by omega) rfl
  have ih:=Iu (r:=r) (l:=p) (k:=k) (by simpa using hk) (λq t hq ht=>h1 (q+1) t (by omega) (by simpa using ht)) (λt ht=>h2 t (by simpa using ht))
  unfold pZ
  rw [if_pos hy]
  refine ⟨λt h h0=>by rw [ih.1 t (by simpa using h) h0],λh=>by rw [ih.2 λt ht=>h t (by simpa using ht)];rfl⟩
theorem ED {w:World} {s:Sl} {l:List Rt} (h:jJ 4 w s (l.flatMap Rt.c)) (a b:Nat) (Jw:a<=b) (hb:b<=l.length):jJ 4 w (uv 4 s a b) (((l.take b).drop a).flatMap Rt.c):=by
 have nr:=Rt.cB h
 have:=h.sub a b Jw (by omega)
 rw [Dx,AW _ _ (by rw [qlT];omega)] at this
 exact this
abbrev eD (s:Sl) (l:List Rt):Rt:=.mk 0 0 0 s l
def QF (Ac:List Nat) (w:World) (l:List Rt) (r:Ending) (w':World):Prop:=∃s:Sl,r=.returned s.v/\(eD s l).P w'/\∀b∈(eD s l).fp,w.heap.size<=b\/b∈Ac
theorem fM {w:World} {s:Sl} {l:List Rt}:(eD s l).P w↔jJ 4 w s (l.flatMap Rt.c)/\Rt.Ps w l:=by
 unfold eD Rt.P
 exact Iff.rfl
theorem oF {s:Sl} {l:List Rt} {b:Nat}:b∈(eD s l).fp↔b∈(Rt.row s l).fp\/b∈Rt.gN l:=by
 unfold eD Rt.fp
 exact fW
theorem Vm (s:Sl) (l:List Rt) (r:Rt) (w:World) (hl:Rt.fL l<=100000) (hr:r.sz<=100000) (px:(eD s l).P w) (pr:r.P w):
  Calls Tryz.prog lf #[s.v,r.v] w λe w'=>QF ((eD s l).fp++r.fp) w (pZ r l) e w'/\bF w w':=by
 have nr:=Rt.cB (fM.1 px).1
 have ll:=Rt.eZ l
 let R:aD:=λe w'=>QF ((eD s l).fp++r.fp) w (pZ r l) e w'/\bF w w'
 have fin:∀(k:Nat) (sl:Sl) (L:List En) (i:Nat) (w1:World),k<=l.length->pZ r l=l.take k++r::l.drop k->L[i]? =some (.row aA 4 sl ((l.take k++[r]).flatMap Rt.c))->LH F0 w w1 L [.tree (eD s l),.tree r]->
   enthymemeref04_put.hU s (k:Int) sl w1 R:=by
  intro k sl L i w1 hk he hi H
  have px1:(eD s l).P w1:=H.getD 0
  have hp:=ED (fM.1 px1).1 k l.length hk (Nat.le_refl _)
  rw [List.take_length] at hp
  have jK:aO w1 aA 4 sl ((l.take k++[r]).flatMap Rt.c):=H.get i hi
  have ug:=Rt.cB jK.iQ
  have ltk:(l.take k++[r]).length=k+1:=by simp [qlT];omega
  refine ⟨by omega,by omega,?_⟩
  obtain ⟨s',w',h1,h2,h3⟩:=H.I7 (bs:=[]) i (ty:=aC) (K:=λs' w'=>∃L',L'[i]? =some (.row aA 4 s' ((pZ r l).flatMap Rt.c))/\LH F0 w w' L' [.tree (eD s l),.tree r]) nT (src:=uv 4 s k l.length) (news:=(l.drop k).flatMap Rt.c) hi hp (AQ _) (by show (sl.n+(l.length - k)) *40<=_;omega) (λs' w' H'=>⟨_,by
   rw [List.getElem?_set_self (nP.1 hi).1,<-qfA,he,List.append_assoc];rfl,H'⟩)
  obtain ⟨L',g1,g2⟩:=h3
  have e1:(Int.toNat (k:Int))=k:=rfl
  refine ⟨s',w',by rw [e1,nr];exact h1,⟨s',rfl,fM.2 ⟨(g2.get i g1:aO _ _ _ _ _).iQ,Rt.ox λt ht=>?_⟩,λb hb=>?_⟩,g2.fr⟩
  .rcases vF ht with rfl|ht
   .exact g2.getD 1
   .exact (fM.1 (g2.getD 0)).2.mem ht
  .rcases oF.1 hb with hb|hb
   .exact .inl ((g2.new _ (dC g1) b (fQ hb)).resolve_right id)
   .obtain ⟨t,ht,yV⟩:=Rt.bC.1 hb
    rcases vF ht with rfl|ht
    .exact .inr (List.mem_append_right _ yV)
    .exact .inr (List.mem_append_left _ (oF.2 (.inr (Rt.bC.2 ⟨t,ht,yV⟩))))
 have s2:∀(k:Nat) (b3:Nat) (w1:World),k<=l.length->pZ r l=l.take k++r::l.drop k->LH F0 w w1 [.g b3] [.tree (eD s l),.tree r]->enthymemeref04_put.eY s b3 r.k r.lo.toNat r.hi.toNat r.s (k:Int) w1 R:=by
  intro k b3 w1 hk he H
  have Mb:s.n<=s.c:=(fM.1 (show (eD s l).P w1 from H.getD 0)).1.2.1
  have Rf:∀w':World,(eD s l).P w'->jJ 4 w' (uv 4 s 0 k) ((l.take k).flatMap Rt.c):=λw' h=>ED (fM.1 h).1 0 k (by omega) hk
  have e1:(Int.toNat (k:Int))=k:=rfl
  refine ⟨by omega,by omega,H.aN λw2 H2=>?_,H.aN λw2 H2=>?_⟩
  .refine (H2.oL aA 4).I7 1 nT (s:=⟨none,0,0⟩) (xs:=[]) (src:=uv 4 s 0 k) (news:=(l.take k).flatMap Rt.c) rfl (Rf w2 (H2.getD 0)) (AQ _) (by show (0+(k - 0)) *40<=_;omega) (λs' w3 H3=>?_)
   have H3:LH F0 w w3 [.g b3,.row aA 4 s' ((l.take k).flatMap Rt.c)] [.tree (eD s l),.tree r]:=H3
   have ug:=Rt.cB (H3.get 1:aO _ _ _ _ _).iQ
   rw [qlT] at ug
   refine H3.tS 1 nT (xs:=(l.take k).flatMap Rt.c) rfl (λUZ w4 H4=>?_) (by omega)
   refine fin k UZ _ 1 w4 hk he ?_ H4
   show some _=some _
   rw [mw]
   rfl
  .refine H2.gZ (n:=1) (sz:=4) (cs:=r.c) rfl (by decide) λw3 H3=>?_
   refine (H3.oL aA 4).I7 2 nT (s:=⟨none,0,0⟩) (xs:=[]) (src:=uv 4 s 0 k) (news:=(l.take k).flatMap Rt.c) rfl (Rf w3 (H3.getD 0)) (AQ _) (by show (0+(k - 0)) *40<=_;omega) (λs' w4 H4=>?_)
   have H4:LH F0 w w4 [.g b3,.row aA 4 ⟨some (bD w2.heap.size),1,1⟩ r.c,.row aA 4 s' ((l.take k).flatMap Rt.c)] [.tree (eD s l),.tree r]:=H4
   have ug:=Rt.cB (H4.get 2:aO _ _ _ _ _).iQ
   rw [qlT] at ug
   refine H4.I7 2 nT (xs:=(l.take k).flatMap Rt.c) (src:=⟨some (bD w2.heap.size),1,1⟩) (news:=r.c) rfl (H4.get 1:aO _ _ _ _ _).iQ (λu hu=>AQ [r] u (by simpa using hu)) (by show (s'.n+1) *40<=_;omega) (λUZ w5 H5=>?_)
   refine fin k UZ _ 2 w5 hk he ?_ H5
   show some _=some _
   rw [mw]
 have s1:∀(k:Nat) (b3:Nat) (w1:World),k<=l.length->(∀q t,q<k->l[q]? =some t->cP t.rx r.rx<0)->(∀t,l[k]? =some t->¬cP t.rx r.rx<0)->LH F0 w w1 [.g b3] [.tree (eD s l),.tree r]->enthymemeref04_put.fY s b3 r.k r.lo.toNat r.hi.toNat r.s (k:Int) w1 R:=by
  intro k b3 w1 hk h1 h2 H
  obtain ⟨g1,g2⟩:=Iu hk h1 h2
  refine aK (λlC=>?_) (λlC=>H.aN λw2 H2=>s2 k b3 w2 hk (g2 λt ht=>by have:=(nP.1 ht).1;omega) H2)
  have hg:l[k]? =some l[k]:=g7 (by omega)
  generalize l[k]'(by omega)=t at hg
  have mt:=dC hg
  refine ⟨by omega,by omega,Rt.at' (fM.1 (show (eD s l).P w1 from H.getD 0)).1 hg λp hp _=>H.aN λw2 H2=>?_⟩
  have PA:(eD s l).P w2:=H2.getD 0
  have c:=Rt.again (fM.1 PA).1 hg hp
  refine ⟨_,_,_,_,c.c0,c.c1,c.c2,c.c3,H2.aL (jQ t r w2 (by have:=Rt.dK mt;omega) ((fM.1 PA).2.mem mt) (H2.getD 1)) ?_⟩
  rintro _ w3 rfl H3
  refine ⟨_,rfl,aJ (λh0=>⟨⟨s,rfl,?_,λb hb=>.inr ?_⟩,H3.fr⟩) (λh0=>s2 k b3 w3 hk (g2 λt' nl=>by rw [hg] at nl;cases nl;exact h0) H3)⟩
  .rw [g1 t hg h0];exact H3.getD 0
  .rw [g1 t hg h0] at hb
   exact List.mem_append_left _ hb
 have loop:∀(d k:Nat) (b3:Nat) (w1:World),k+d=l.length->(∀q t,q<k->l[q]? =some t->cP t.rx r.rx<0)->LH F0 w w1 [.g b3] [.tree (eD s l),.tree r]->enthymemeref04_put.dY s b3 r.k r.lo.toNat r.hi.toNat r.s (k:Int) w1 R:=by
  intro d
  induction d with
  |zero=>
   intro k b3 w1 hk h1 H
   exact enthymemeref04_put.aY _ _ _ _ _ _ _ _ _ (aM (decide_eq_false (by omega)) (H.aN λw2 H2=>s1 k b3 w2 (by omega) h1 (λt ht=>by have:=(nP.1 ht).1;omega) H2))
  |succ d pW=>
   intro k b3 w1 hk h1 H
   have hg:l[k]? =some l[k]:=g7 (by omega)
   generalize l[k]'(by omega)=t at hg
   have mt:=dC hg
   refine enthymemeref04_put.aY _ _ _ _ _ _ _ _ _ (aS (decide_eq_true (by omega)) ⟨by omega,by omega,Rt.at' (fM.1 (show (eD s l).P w1 from H.getD 0)).1 hg λp hp _=>H.aN λw2 H2=>?_⟩)
   have PA:(eD s l).P w2:=H2.getD 0
   have c:=Rt.again (fM.1 PA).1 hg hp
   refine ⟨_,_,_,_,c.c0,c.c1,c.c2,c.c3,H2.aL (jQ t r w2 (by have:=Rt.dK mt;omega) ((fM.1 PA).2.mem mt) (H2.getD 1)) ?_⟩
   rintro _ w3 rfl H3
   refine ⟨_,rfl,aK (λh0=>?_) (λh0=>s1 k b3 w3 (by omega) h1 (λt' nl=>by rw [hg] at nl;cases nl;exact h0) H3)⟩
   rw [aZ _ (by omega)]
   refine pW (k+1) b3 w3 (by omega) (λq t' hq nl=>?_) H3
   by_cases e:q=k
   .subst e;rw [hg] at nl;cases nl;exact h0
   .exact h1 q t' (by omega) nl
 exact enthymemeref04_put.cT _ _ _ _ _ w _ ((mf [.tree (eD s l),.tree r] (by
  intro e he
  simp only [cU,List.not_mem_nil,or_false] at he
  rcases he with rfl|rfl
  .exact px
  .exact pr)).bI λb3 w1 H1=>loop l.length 0 b3 w1 (by omega) (λq t h=>by omega) H1)
theorem wL (k:Int) (t:Rx):∀(l out:List Rx),pY k out (l++[t])=if k=3 then pY k out l++[t] else wO t (pY k out l)
 |[],out=>by
  show pY k (if k=3 then out++[t] else wO t out) []=_
  unfold pY
  rfl
 |a::l,out=>by
  show pY k (if k=3 then out++[a] else wO a out) (l++[t])=_
  rw [wL k t l]
  rfl
theorem aap (x ev:Rt) (hk:x.k=3\/x.k=4\/x.k=5) (uD:ev.rx=fE):∃(j:Nat) (u z:Rt),IntKind.wrap .i64 (x.k - 3)=(j:Int)/\j<3/\[gI,mD,ev][j]? =some u/\[mD,ev,mD][j]? =some z/\(u=gI\/u=mD\/u=ev)/\(z=mD\/z=ev)/\u.rx≠z.rx/\
  mS (.mk x.k 0 0 (Rt.bU x.l))=kX x.k (Rt.bU x.l) u.rx z.rx:=by
 rcases hk with h|h|h<;>rw [h]
 .exact ⟨0,gI,mD,by decide,by decide,rfl,rfl,.inl rfl,.inl rfl,(by intro e;cases e),rfl⟩
 .exact ⟨1,mD,ev,by decide,by decide,rfl,rfl,.inr (.inl rfl),.inr rfl,(by rw [uD];intro e;cases e),by rw [uD];rfl⟩
 .exact ⟨2,ev,mD,by decide,by decide,rfl,rfl,.inr (.inr rfl),.inl rfl,(by rw [uD];intro e;cases e),by rw [uD];rfl⟩
section
variable {x ev u z:Rt} {sf:Sl} {w:World} {b4 b8 b9:Nat}
theorem PF (hx:x.sz<=10000) (uD:ev.rx=fE) (Wy:∀b∈ev.fp,w.heap.size<=b) (hu:u=gI\/u=mD\/u=ev) (XI:z=mD\/z=ev) (ZN:u.rx≠z.rx) (HV:mS (.mk x.k 0 0 (Rt.bU x.l))=kX x.k (Rt.bU x.l) u.rx z.rx) {w1:World}
  (H:LH F0 w w1 [.g b4,.g b8,.g b9] [.tree x,.tree ev,.tree (eD sf (x.l.flatMap (iJ x)))]):
  enthymemeref04_normal.CX x.k b4 0 0 0 ⟨none,0,0⟩ sf b8 u.k u.lo.toNat u.hi.toNat u.s b9 z.k z.lo.toNat z.hi.toNat z.s ⟨none,0,0⟩ 0 w1 λr w'=>oT x.fp w (mS (.mk x.k 0 0 (Rt.bU x.l))) r w'/\bF w w':=by
 let R:aD:=λr w'=>oT x.fp w (mS (.mk x.k 0 0 (Rt.bU x.l))) r w'/\bF w w'
 have D2:Sub x (x.l.flatMap (iJ x)):=Sub.flat λ_ h=>h
 have Wg:Rt.fL (x.l.flatMap (iJ x))<=Rt.fL x.l:=qS x x.l
 have OS:((x.l.flatMap (iJ x)).map Rt.rx).filter (λt=>!(cP t u.rx==0))=lP x.k (Rt.bU x.l) u.rx:=by
  rw [<-vf]
  unfold kM
  rw [List.filter_map]
  rfl
 generalize x.l.flatMap (iJ x)=fl at H D2 Wg OS
 have rX:=D2
 have ZL:=Rt.gm x
 have aaA:Rt.fL fl<=10000:=by omega
 have lfl:=Rt.eZ fl
 have nr:sf.n=fl.length:=Rt.cB (fM.1 (show (eD sf fl).P w1 from H.getD 2)).1
 have ZM:∀w',ev.P w'->u.P w':=λw' h=>by
  rcases hu with rfl|rfl|rfl
  .exact x9 w'
  .exact vu w'
  .exact h
 have XH:∀w',ev.P w'->z.P w':=λw' h=>by
  rcases XI with rfl|rfl
  .exact vu w'
  .exact h
 have huf:∀b∈u.fp,w.heap.size<=b:=λb hb=>by
  rcases hu with rfl|rfl|rfl
  .exact (u0 hb).elim
  .exact (nD hb).elim
  .exact Wy b hb
 have hzf:∀b∈z.fp,w.heap.size<=b:=λb hb=>by
  rcases XI with rfl|rfl
  .exact (nD hb).elim
  .exact Wy b hb
 have ej1:∀t∈fl,t.rx=z.rx->mS (.mk x.k 0 0 (Rt.bU x.l))=z.rx:=λt ht e=>by
  rw [HV]
  unfold kX
  rw [if_pos]
  rw [List.any_eq_true]
  refine ⟨t.rx,?_,qX.2 e⟩
  rw [<-OS,List.mem_filter]
  exact ⟨o8.2 ⟨t,ht,rfl⟩,Ly.2 (e▸λh=>ZN h.symm)⟩
 have ej2:(∀t∈fl,t.rx≠z.rx)->mS (.mk x.k 0 0 (Rt.bU x.l))=Jo x.k u.rx (pY x.k [] ((fl.map Rt.rx).filter λt=>!(cP t u.rx==0))):=λh=>by
  rw [HV,Py,OS]
  unfold kX
  rw [if_neg]
  .rfl
  .rw [List.any_eq_true]
   rintro ⟨t,ht,he⟩
   rw [<-OS,List.mem_filter] at ht
   obtain ⟨t',nl,rfl⟩:=o8.1 ht.1
   exact h t' nl (qX.1 he)
 have fin:∀(ol:List Rt) (so:Sl) (L D:List En) (w1:World),(∀t∈fl,t.rx≠z.rx)->ol.map Rt.rx=pY x.k [] ((fl.map Rt.rx).filter λt=>!(cP t u.rx==0))->(∀t∈ol,t∈fl)->LH F0 w w1 L (.tree x::.tree ev::D)->(∀b∈[b4,b8,b9],En.g b∈L)->(∀w',LH F0 w w' L (.tree x::.tree ev::D)->jJ 4 w' so (ol.flatMap Rt.c)/\∀b∈(Rt.row so ol).fp,w.heap.size<=b\/b∈x.fp)->
   aH (((so.n:Nat):Int)==0) (loc [b4,b8,b9] w1 λw55=>R (.returned u.v) w55) (aH (((so.n:Nat):Int)==1) ((0:Int)<=0/\0<((so.n:Nat):Int)/\aX so.a λp=>cA w1 (p.add (Int.toNat 0 *4)) λa b c d=>loc [b4,b8,b9] w1 λw59=>R (.returned (.agg #[.i a,.int .u8 b,.int .u8 c,d.v])) w59) (loc [b4,b8,b9] w1 λw63=>R (.returned (.agg #[.i x.k,.int .u8 0,.int .u8 0,so.v])) w63)):=by
  intro ol so L D w1 hz ho hm H hb jK
  have hr:=jK w1 H
  have nso:=Rt.cB hr.1
  have ej:=ej2 hz
  rw [<-ho] at ej
  have sH:Sub x ol:=rX.sub hm
  refine aJ (λh0=>H.aN (λw2 H2=>⟨⟨u,rfl,?_,ZM w2 (H2.getD 1),λb hb=>.inl (huf b hb)⟩,H2.fr⟩) hb) (λh0=>aJ (λh1=>?_) (λh1=>H.aN (λw2 H2=>⟨⟨.mk x.k 0 0 so ol,rfl,?_,?_,λb hb=>?_⟩,H2.fr⟩) hb))
  .have:ol=[]:=List.length_eq_zero_iff.1 (by omega)
   rw [ej,this];rfl
  .obtain ⟨a,rfl⟩:=List.length_eq_one_iff.1 (show ol.length=1 by omega)
   refine ⟨by omega,by omega,Rt.at' hr.1 (i:=0) (t:=a) rfl λp hp c=>⟨_,_,_,_,c.c0,c.c1,c.c2,c.c3,H.aN (λw2 H2=>⟨⟨a,rfl,?_,sH.P _ (H2.getD 0) a (by simp),λb hb=>.inr (sH.fp a (by simp) b hb)⟩,H2.fr⟩) hb⟩⟩
   rw [ej];rfl
  .rw [ej]
   unfold Rt.rx
   rw [Rt.eW]
   cases ol with
   |nil=>simp at nso;omega
   |cons a ks=>
    cases ks with
    |nil=>simp at nso;omega
    |cons b ks=>rfl
  .unfold Rt.P
   exact ⟨(jK w2 H2).1,sH.Ps (H2.getD 0)⟩
  .unfold Rt.fp at hb
   rcases fW.1 hb with hb|hb
   .exact (jK w2 H2).2 b hb
   .exact .inr (sH.gN hb)
 have Ww:x.k=3->∀(d i:Nat) (so:Sl) (ol:List Rt) (w1:World),i+d=fl.length->(∀t∈fl.take i,t.rx≠z.rx)->ol.map Rt.rx=pY x.k [] (((fl.take i).map Rt.rx).filter λt=>!(cP t u.rx==0))->(∀t∈ol,t∈fl)->Rt.fL ol<=Rt.fL (fl.take i)->
   LH F0 w w1 [.g b4,.g b8,.g b9,.row aA 4 so (ol.flatMap Rt.c)] [.tree x,.tree ev,.tree (eD sf fl)]->enthymemeref04_normal.CX x.k b4 0 0 0 ⟨none,0,0⟩ sf b8 u.k u.lo.toNat u.hi.toNat u.s b9 z.k z.lo.toNat z.hi.toNat z.s so (i:Int) w1 R:=by
  intro hk d
  induction d with
  |zero=>
   intro i so ol w1 hi hz ho hm hs H
   rw [qtOL (by omega)] at hz ho
   refine enthymemeref04_normal.pA _ _ _ _ _ _ _ _ _ _ _ _ _ _ _ _ _ _ _ _ _ (aM (decide_eq_false (by omega)) ?_)
   exact fin ol so _ _ w1 hz ho hm H (by simp) (λw' H'=>⟨(H'.get 3:aO _ _ _ _ _).iQ,λb hb=>.inl ((H'.new _ (dC (i:=3) rfl) b (fQ hb)).resolve_right id)⟩)
  |succ d pW=>
   intro i so ol w1 hi hz ho hm hs H
   have hg:fl[i]? =some fl[i]:=g7 (by omega)
   generalize fl[i]'(by omega)=t at hg
   have mt:=dC hg
   have RE:=Rt.dK mt
   have OA:fl.take (i+1)=fl.take i++[t]:=by rw [qtO,hg];rfl
   have szk:Rt.fL (fl.take (i+1))=Rt.fL (fl.take i)+t.sz:=by rw [OA,tt];rfl
   have szl:=ql fl (i+1)
   refine enthymemeref04_normal.pA _ _ _ _ _ _ _ _ _ _ _ _ _ _ _ _ _ _ _ _ _ (aS (decide_eq_true (by omega)) ⟨by omega,by omega,Rt.at' (fM.1 (show (eD sf fl).P w1 from H.getD 2)).1 hg λp hp _=>H.aN λw2 H2=>?_⟩)
   have p2:(eD sf fl).P w2:=H2.getD 2
   have c2:=Rt.again (fM.1 p2).1 hg hp
   refine ⟨_,_,_,_,c2.c0,c2.c1,c2.c2,c2.c3,H2.aL (jQ t z w2 (by omega) ((fM.1 p2).2.mem mt) (XH w2 (H2.getD 1))) ?_⟩
   rintro _ w3 rfl H3
   refine ⟨_,rfl,aJ (λh0=>H3.aN λw4 H4=>⟨⟨z,rfl,?_,XH w4 (H4.getD 1),λb hb=>.inl (hzf b hb)⟩,H4.fr⟩) (λh0=>?_)⟩
   .exact (ej1 t mt (sv.1 h0)).symm
   refine ⟨by omega,by omega,Rt.at' (fM.1 (show (eD sf fl).P w3 from H3.getD 2)).1 hg λp hp _=>H3.aN λw5 H5=>?_⟩
   have p5:(eD sf fl).P w5:=H5.getD 2
   have c5:=Rt.again (fM.1 p5).1 hg hp
   refine ⟨_,_,_,_,c5.c0,c5.c1,c5.c2,c5.c3,H5.aL (jQ t u w5 (by omega) ((fM.1 p5).2.mem mt) (ZM w5 (H5.getD 1))) ?_⟩
   rintro _ w6 rfl H6
   have O3:∀t'∈fl.take (i+1),t'.rx≠z.rx:=λt' nl=>by
    rw [OA] at nl
    rcases fW.1 nl with nl|nl
    .exact hz t' nl
    .simp at nl;subst nl;exact λe=>h0 (sv.2 e)
   refine ⟨_,rfl,aJ (λh1=>?_) (λh1=>aS (beq_iff_eq.2 hk) ?_)⟩
   .show enthymemeref04_normal.CX _ _ _ _ _ _ _ _ _ _ _ _ _ _ _ _ _ _ _ _ _
    rw [aZ _ (by omega)]
    refine pW (i+1) so ol w6 (by omega) O3 ?_ hm (by omega) H6
    rw [OA,qmpA,List.filter_append,ho]
    have e0:([t].map Rt.rx).filter (λt=>!(cP t u.rx==0))=[]:=by
     show [t.rx].filter _=[]
     rw [List.filter_cons_of_neg (by rw [h1];simp)]
     rfl
    rw [e0,List.append_nil]
   .have ef:((fl.take (i+1)).map Rt.rx).filter (λt=>!(cP t u.rx==0))=(((fl.take i).map Rt.rx).filter λt=>!(cP t u.rx==0))++[t.rx]:=by
     rw [OA,qmpA,List.filter_append]
     congr 1
     show [t.rx].filter _=[t.rx]
     rw [List.filter_cons_of_pos (by simpa using h1)]
     rfl
    refine ⟨by omega,by omega,Rt.at' (fM.1 (show (eD sf fl).P w6 from H6.getD 2)).1 hg λp hp c=>⟨_,_,_,_,c.c0,c.c1,c.c2,c.c3,?_⟩⟩
    have ug:=Rt.cB (H6.get 3:aO _ _ _ _ _).iQ
    have lol:=Rt.eZ ol
    refine H6.tS 3 nT (xs:=ol.flatMap Rt.c) rfl (λs' w7 H7=>?_) (by omega)
    show enthymemeref04_normal.CX _ _ _ _ _ _ _ _ _ _ _ _ _ _ _ _ _ _ _ _ _
    rw [aZ _ (by omega)]
    refine pW (i+1) s' (ol++[t]) w7 (by omega) O3 ?_ (λt' nl=>?_) (by rw [tt];show _+(t.sz+0)<=_;omega) ?_
    .rw [ef,wL,if_pos hk,qmpA,ho];rfl
    .rcases fW.1 nl with nl|nl
     .exact hm t' nl
     .simp at nl;subst nl;exact mt
    .rw [mw];exact H7
 have Wx:x.k≠3->∀(d i:Nat) (so:Sl) (ol:List Rt) (w1:World),i+d=fl.length->(∀t∈fl.take i,t.rx≠z.rx)->ol.map Rt.rx=pY x.k [] (((fl.take i).map Rt.rx).filter λt=>!(cP t u.rx==0))->(∀t∈ol,t∈fl)->Rt.fL ol<=Rt.fL (fl.take i)->(∀b∈(eD so ol).fp,w.heap.size<=b\/b∈x.fp)->
   LH F0 w w1 [.g b4,.g b8,.g b9] [.tree x,.tree ev,.tree (eD sf fl),.tree (eD so ol)]->enthymemeref04_normal.CX x.k b4 0 0 0 ⟨none,0,0⟩ sf b8 u.k u.lo.toNat u.hi.toNat u.s b9 z.k z.lo.toNat z.hi.toNat z.s so (i:Int) w1 R:=by
  intro hk d
  induction d with
  |zero=>
   intro i so ol w1 hi hz ho hm hs XB H
   rw [qtOL (by omega)] at hz ho
   refine enthymemeref04_normal.pA _ _ _ _ _ _ _ _ _ _ _ _ _ _ _ _ _ _ _ _ _ (aM (decide_eq_false (by omega)) ?_)
   exact fin ol so _ _ w1 hz ho hm H (by simp) (λw' H'=>⟨(fM.1 (show (eD so ol).P w' from H'.getD 3)).1,λb hb=>XB b (oF.2 (.inl hb))⟩)
  |succ d pW=>
   intro i so ol w1 hi hz ho hm hs XB H
   have hg:fl[i]? =some fl[i]:=g7 (by omega)
   generalize fl[i]'(by omega)=t at hg
   have mt:=dC hg
   have RE:=Rt.dK mt
   have OA:fl.take (i+1)=fl.take i++[t]:=by rw [qtO,hg];rfl
   have szk:Rt.fL (fl.take (i+1))=Rt.fL (fl.take i)+t.sz:=by rw [OA,tt];rfl
   have szl:=ql fl (i+1)
   refine enthymemeref04_normal.pA _ _ _ _ _ _ _ _ _ _ _ _ _ _ _ _ _ _ _ _ _ (aS (decide_eq_true (by omega)) ⟨by omega,by omega,Rt.at' (fM.1 (show (eD sf fl).P w1 from H.getD 2)).1 hg λp hp _=>H.aN λw2 H2=>?_⟩)
   have p2:(eD sf fl).P w2:=H2.getD 2
   have c2:=Rt.again (fM.1 p2).1 hg hp
   refine ⟨_,_,_,_,c2.c0,c2.c1,c2.c2,c2.c3,H2.aL (jQ t z w2 (by omega) ((fM.1 p2).2.mem mt) (XH w2 (H2.getD 1))) ?_⟩
   rintro _ w3 rfl H3
   refine ⟨_,rfl,aJ (λh0=>H3.aN λw4 H4=>⟨⟨z,rfl,?_,XH w4 (H4.getD 1),λb hb=>.inl (hzf b hb)⟩,H4.fr⟩) (λh0=>?_)⟩
   .exact (ej1 t mt (sv.1 h0)).symm
   refine ⟨by omega,by omega,Rt.at' (fM.1 (show (eD sf fl).P w3 from H3.getD 2)).1 hg λp hp _=>H3.aN λw5 H5=>?_⟩
   have p5:(eD sf fl).P w5:=H5.getD 2
   have c5:=Rt.again (fM.1 p5).1 hg hp
   refine ⟨_,_,_,_,c5.c0,c5.c1,c5.c2,c5.c3,H5.aL (jQ t u w5 (by omega) ((fM.1 p5).2.mem mt) (ZM w5 (H5.getD 1))) ?_⟩
   rintro _ w6 rfl H6
   have O3:∀t'∈fl.take (i+1),t'.rx≠z.rx:=λt' nl=>by
    rw [OA] at nl
    rcases fW.1 nl with nl|nl
    .exact hz t' nl
    .simp at nl;subst nl;exact λe=>h0 (sv.2 e)
   refine ⟨_,rfl,aJ (λh1=>?_) (λh1=>aM (by simpa using hk) ?_)⟩
   .show enthymemeref04_normal.CX _ _ _ _ _ _ _ _ _ _ _ _ _ _ _ _ _ _ _ _ _
    rw [aZ _ (by omega)]
    refine pW (i+1) so ol w6 (by omega) O3 ?_ hm (by omega) XB H6
    rw [OA,qmpA,List.filter_append,ho]
    have e0:([t].map Rt.rx).filter (λt=>!(cP t u.rx==0))=[]:=by
     show [t.rx].filter _=[]
     rw [List.filter_cons_of_neg (by rw [h1];simp)]
     rfl
    rw [e0,List.append_nil]
   .have ef:((fl.take (i+1)).map Rt.rx).filter (λt=>!(cP t u.rx==0))=(((fl.take i).map Rt.rx).filter λt=>!(cP t u.rx==0))++[t.rx]:=by
     rw [OA,qmpA,List.filter_append]
     congr 1
     show [t.rx].filter _=[t.rx]
     rw [List.filter_cons_of_pos (by simpa using h1)]
     rfl
    refine ⟨by omega,by omega,Rt.at' (fM.1 (show (eD sf fl).P w6 from H6.getD 2)).1 hg λp hp c=>⟨_,_,_,_,c.c0,c.c1,c.c2,c.c3,?_⟩⟩
    refine nS ((Vm so ol t w6 (by omega) (by omega) (H6.getD 3) ((fM.1 (show (eD sf fl).P w6 from H6.getD 2)).2.mem mt)).mono ?_)
    rintro _ w7 ⟨⟨s',rfl,pl',nb'⟩,f7⟩
    refine ⟨f7,?_⟩
    have nb2:∀b∈(eD s' (pZ t ol)).fp,w.heap.size<=b\/b∈x.fp:=λb hb=>by
     rcases nb' b hb with hb|hb
     .exact .inl (Nat.le_trans H6.fr.size hb)
     .rcases fW.1 hb with hb|hb
      .exact XB b hb
      .exact .inr (rX.fp t mt b hb)
    have H8:LH F0 w w7 [.g b4,.g b8,.g b9] [.tree x,.tree ev,.tree (eD sf fl),.tree (eD so ol),.tree (eD s' (pZ t ol))]:=H6.oe _ f7 pl' λb hb=>by
     rcases nb' b (aI.1 hb) with hb|hb
     .exact .inl hb
     .rcases fW.1 hb with hb|hb
      .exact .inr (.inr ⟨_,dC (i:=3) rfl,aI.2 hb⟩)
      .exact .inr (.inr ⟨_,dC (i:=0) rfl,aI.2 (rX.fp t mt b hb)⟩)
    refine ⟨s',rfl,?_⟩
    show enthymemeref04_normal.CX _ _ _ _ _ _ _ _ _ _ _ _ _ _ _ _ _ _ _ _ _
    rw [aZ _ (by omega)]
    refine pW (i+1) s' (pZ t ol) w7 (by omega) O3 ?_ (λt' nl=>?_) (by have:=Ez t ol;omega) nb2 (H8.forget _ (by simp))
    .rw [ef,wL,if_neg hk,MV,ho]
    .rcases vF nl with rfl|nl
     .exact mt
     .exact hm t' nl
 by_cases hk:x.k=3
 .exact Ww hk fl.length 0 ⟨none,0,0⟩ [] w1 (by omega) (by simp) (by simp [pY]) (by simp) (by simp [Rt.fL]) (H.oL aA 4)
 .refine Wx hk fl.length 0 ⟨none,0,0⟩ [] w1 (by omega) (by simp) (by simp [pY]) (by simp) (by simp [Rt.fL]) (λb hb=>?_) (H.oe (.tree (eD ⟨none,0,0⟩ [])) (Fr.refl _ _) (fM.2 ⟨jJ.nil 4 w1,by unfold Rt.Ps;trivial⟩) λb hb=>?_)
  .rcases oF.1 hb with hb|hb
   .simp [Rt.row,En.iQ] at hb
   .unfold Rt.gN at hb;cases hb
  .rcases oF.1 (aI.1 hb) with hb|hb
   .simp [Rt.row,En.iQ] at hb
   .unfold Rt.gN at hb;cases hb
end
theorem Jf (x:Rt) (hk:3<=x.k/\x.k<=7) (hx:x.sz<=10000) (dP:ni (.mk x.k 0 0 (Rt.bU x.l))=true) (Wc:∀c∈x.l,0<=c.k) (w:World) (px:x.P w):
  Calls Tryz.prog jx #[.i x.k,x.s.v] w λr w'=>oT x.fp w (mS (.mk x.k 0 0 (Rt.bU x.l))) r w'/\bF w w':=by
 have nr:=Rt.cB px.parts.1
 have ZL:=Rt.gm x
 have A8:=Rt.eZ x.l
 refine enthymemeref04_normal.cT _ _ w _ ((y9 px).bI λb4 w1 H1=>H1.ss (BS w1) ?_)
 rintro _ w2 ⟨ev,rfl,uD,Z9,Wy⟩ H2 F2
 have H3:LH F0 w w2 [.g b4] [.tree x,.tree ev]:=F2.rd (.tree ev) Z9 λb hb=>Wy b (aI.1 hb)
 have Z4:∀b∈ev.fp,w.heap.size<=b:=λb hb=>Nat.le_trans H1.fr.size (Wy b hb)
 have pc:∀{w':World} {c:Rt},x.P w'->x.l[0]? =some c->c.P w':=λh hg=>h.parts.2.mem (dC hg)
 have fc:∀{c:Rt},x.l[0]? =some c->∀b∈c.fp,b∈x.fp:=λhg b hb=>Rt.eG.2 (.inr (Rt.bC.2 ⟨_,dC hg,hb⟩))
 refine ⟨_,_,_,ev.s,rfl,H3.bI λb5 w3 H4=>aJ (λh6=>?_) (λh6=>aJ (λh7=>?_) (λh7=>H4.aN λw4 H5=>?_))⟩
 .
  cases hl:x.l with
  |nil=>rw [hl,h6] at dP;simp [ni,Rt.bU] at dP
  |cons c l'=>
   have hg:x.l[0]? =some c:=by rw [hl];rfl
   have n2:0<x.s.n:=by rw [hl] at nr;simp at nr;omega
   have e1:Rt.bU (c::l')=c.rx::Rt.bU l':=rfl
   have ef:mS (.mk x.k 0 0 (Rt.bU (c::l')))=Er 0 0 (c.rx::Rt.bU l'):=by rw [h6];rfl
   rw [ef]
   refine ⟨by omega,by omega,Rt.at' (show x.P w3 from H4.getD 0).parts.1 hg λp hp _=>H4.aN λw5 H5=>?_⟩
   have UW:x.P w5:=H5.getD 0
   have cc:=Rt.again UW.parts.1 hg hp
   refine ⟨c.k,cc.c0,aJ (λXx=>⟨by omega,by omega,Rt.at' UW.parts.1 hg λp hp cc=>⟨c.s,cc.c3,?_⟩⟩) (λXx=>H5.aN λw6 H6=>⟨⟨.mk 6 0 0 x.s x.l,rfl,?_,?_,λb hb=>.inr ?_⟩,H6.fr⟩)⟩
   .cases HU:c.l with
    |nil=>
     rw [hl,e1] at dP
     have e2:c.rx.l.isEmpty=true:=by rw [M6,HU];rfl
     simp [ni,h6,wR,Xx,e2] at dP
    |cons d l2=>
     have JA:c.l[0]? =some d:=by rw [HU];rfl
     refine jo (pc UW hg) rfl JA (H5.aN λw6 H6=>⟨⟨d,rfl,?_,(pc (H6.getD 0) hg).parts.2.mem (dC JA),λb hb=>.inr (fc hg b (Rt.eG.2 (.inr (Rt.bC.2 ⟨d,dC JA,hb⟩))))⟩,H6.fr⟩)
     show d.rx=if c.rx.k=6 then _ else _
     rw [if_pos (by rw [wR,Xx]),M6,HU];rfl
   .show Rx.mk 6 0 0 (Rt.bU x.l)=if c.rx.k=6 then _ else _
    rw [if_neg (by rw [wR];exact Xx),hl,e1]
   .unfold Rt.P
    exact (show x.P w6 from H6.getD 0).parts
   .unfold Rt.fp at hb
    exact Rt.eG.2 (fW.1 hb)
 .
  cases hl:x.l with
  |nil=>rw [hl,h7] at dP;simp [ni,Rt.bU] at dP
  |cons c l'=>
   have hg:x.l[0]? =some c:=by rw [hl];rfl
   have n2:0<x.s.n:=by rw [hl] at nr;simp at nr;omega
   have e1:Rt.bU (c::l')=c.rx::Rt.bU l':=rfl
   have ef:mS (.mk x.k 0 0 (Rt.bU (c::l')))=qQ 0 0 (c.rx::Rt.bU l'):=by rw [h7];rfl
   rw [ef]
   have YO:qQ 0 0 (c.rx::Rt.bU l')=if c.k=0\/c.k=1 then qp else if c.k=7\/cP c.rx fE=0 then c.rx else .mk 7 0 0 (c.rx::Rt.bU l'):=by
    unfold qQ
    simp only [wR]
   have szc:c.sz<=1000000:=by have:=Rt.dK (dC hg);omega
   have s0:∀(w6:World),¬(c.k=0\/c.k=1)->(c.k=7\/cP c.rx fE=0)->LH F0 w w6 [.g b4,.g b5] [.tree x,.tree ev]->enthymemeref04_normal.dU x.s b4 0 0 0 ⟨none,0,0⟩ w6 λr w'=>oT x.fp w (qQ 0 0 (c.rx::Rt.bU l')) r w'/\bF w w':=by
    intro w6 h1 h2 H6
    refine ⟨by omega,by omega,Rt.at' (show x.P w6 from H6.getD 0).parts.1 hg λp hp cc=>⟨_,_,_,_,cc.c0,cc.c1,cc.c2,cc.c3,(H6.take 1).aN λw7 H7=>⟨⟨c,rfl,?_,pc (H7.getD 0) hg,λb hb=>.inr (fc hg b hb)⟩,H7.fr⟩⟩⟩
    rw [YO,if_neg h1,if_pos h2]
   refine ⟨by omega,by omega,Rt.at' (show x.P w3 from H4.getD 0).parts.1 hg λp hp _=>H4.aN λw5 H5=>?_⟩
   have UW:x.P w5:=H5.getD 0
   have cc:=Rt.again UW.parts.1 hg hp
   have Ab:0<=c.k:=Wc c (dC hg)
   refine ⟨c.k,cc.c0,aK (λh2=>H5.aN λw6 H6=>⟨⟨gI,rfl,?_,x9 w6,λb hb=>(u0 hb).elim⟩,H6.fr⟩) (λh2=>?_)⟩
   .rw [YO,if_pos (by omega)];rfl
   refine ⟨by omega,by omega,Rt.at' UW.parts.1 hg λp hp _=>H5.aN λw6 H6=>?_⟩
   have Z':x.P w6:=H6.getD 0
   have cc:=Rt.again Z'.parts.1 hg hp
   refine ⟨c.k,cc.c0,aJ (λZc=>s0 w6 (by omega) (.inl Zc) H6) (λZc=>⟨by omega,by omega,Rt.at' Z'.parts.1 hg λp hp cc=>⟨_,_,_,_,cc.c0,cc.c1,cc.c2,cc.c3,H6.aL (jQ c ev w6 szc (pc Z' hg) (H6.getD 1)) ?_⟩⟩)⟩
   rintro _ w7 rfl H7
   rw [uD]
   refine ⟨_,rfl,aJ (λh0=>s0 w7 (by omega) (.inr h0) H7) (λh0=>H7.aN λw8 H8=>⟨⟨.mk 7 0 0 x.s x.l,rfl,?_,?_,λb hb=>.inr ?_⟩,H8.fr⟩)⟩
   .show Rx.mk 7 0 0 (Rt.bU x.l)=_
    rw [YO,if_neg (by omega),if_neg (λh=>h.elim Zc h0),hl,e1]
   .unfold Rt.P
    exact (show x.P w8 from H8.getD 0).parts
   .unfold Rt.fp at hb
    exact Rt.eG.2 (fW.1 hb)
 .
  have YR:x.k=3\/x.k=4\/x.k=5:=by omega
  obtain ⟨j,u,z,ew,hj,gu,gz,hu,XI,ZN,HV⟩:=aap x ev YR uD
  have loop:∀(d i:Nat) (acc:List Rt) (sl:Sl) (w1:World),i+d=x.l.length->acc=(x.l.take i).flatMap (iJ x)->LH F0 w w1 [.g b4,.g b5,.row aA 4 sl (acc.flatMap Rt.c)] [.tree x,.tree ev]->
    enthymemeref04_normal.l6 x.k x.s b4 0 0 0 ⟨none,0,0⟩ b5 ev.k ev.lo.toNat ev.hi.toNat ev.s sl (i:Int) w1 λr w'=>oT x.fp w (mS (.mk x.k 0 0 (Rt.bU x.l))) r w'/\bF w w':=by
   intro d
   induction d with
   |zero=>
    intro i acc sl w1 hi ha H
    rw [qtOL (by omega)] at ha
    subst ha
    have D2:Sub x (x.l.flatMap (iJ x)):=Sub.flat λ_ h=>h
    have H':=(H.oe (.trees (x.l.flatMap (iJ x))) (Fr.refl _ _) (D2.Ps (H.getD 0)) (λb hb=>.inr (.inr ⟨_,dC (i:=0) rfl,aI.2 (D2.gN (aI.1 hb))⟩))).GO 2 2 0 0 0
    have H':LH F0 w w1 [.g b4,.g b5] [.tree x,.tree ev,.tree (eD sl (x.l.flatMap (iJ x)))]:=H'.forget _ (by simp)
    refine enthymemeref04_normal.dI _ _ _ _ _ _ _ _ _ _ _ _ _ _ _ _ (aM (decide_eq_false (by omega)) ?_)
    refine H'.gZ (n:=3) (sz:=4) (cs:=[gI,mD,ev].flatMap Rt.c) rfl (by decide) λw2 H2=>?_
    rw [ew]
    refine ⟨by omega,by omega,Rt.at' (s:=⟨some (bD w1.heap.size),3,3⟩) (l:=[gI,mD,ev]) (H2.get 2:aO _ _ _ _ _).iQ gu λp hp c=>⟨_,_,_,_,c.c0,c.c1,c.c2,c.c3,H2.bI λb8 w3 H3=>H3.aN λw4 H4=>H4.gZ (n:=3) (sz:=4) (cs:=[mD,ev,mD].flatMap Rt.c) rfl (by decide) λw5 H5=>⟨by omega,by omega,Rt.at' (s:=⟨some (bD w4.heap.size),3,3⟩) (l:=[mD,ev,mD]) (H5.get 4:aO _ _ _ _ _).iQ gz λp hp c=>⟨_,_,_,_,c.c0,c.c1,c.c2,c.c3,H5.bI λb9 w6 H6=>H6.aN λw7 H7=>?_⟩⟩⟩⟩
    have H8:=((H7.freeze 1 (.g b5) rfl (H7.get 1) λb hb=>hb).freeze 1 _ rfl (H7.get 2) λb hb=>hb).freeze 2 _ rfl (H7.get 4) λb hb=>hb
    exact PF hx uD Z4 hu XI ZN HV (H8.forget _ (by simp))
   |succ d pW=>
    intro i acc sl w1 hi ha H
    have hg:x.l[i]? =some (x.l[i]'(by omega)):=g7 (by omega)
    generalize x.l[i]'(by omega)=a at hg
    have hm:=dC hg
    have JY:x.P w1:=H.getD 0
    have CE:=Rt.dK hm
    have me:Rt.fL acc<=Rt.fL x.l:=by
     have h1:=qS x (x.l.take i)
     have h2:=ql x.l i
     rw [ha];omega
    have Zy:acc++iJ x a=(x.l.take (i+1)).flatMap (iJ x):=by rw [qtO,hg,qfA,ha];simp
    have ug:=Rt.cB (H.get 2:aO _ _ _ _ _).iQ
    have HW:=Rt.eZ acc
    have tail:∀(s':Sl) (w':World),LH F0 w w' [.g b4,.g b5,.row aA 4 s' ((acc++iJ x a).flatMap Rt.c)] [.tree x,.tree ev]->enthymemeref04_normal.eY x.k x.s b4 0 0 0 ⟨none,0,0⟩ b5 ev.k ev.lo.toNat ev.hi.toNat ev.s s' (i:Int) w' λr w'=>oT x.fp w (mS (.mk x.k 0 0 (Rt.bU x.l))) r w'/\bF w w':=by
     intro s' w' H'
     show enthymemeref04_normal.l6 _ _ _ _ _ _ _ _ _ _ _ _ _ _ _ _
     rw [aZ _ (by omega)]
     exact pW (i+1) _ s' w' (by omega) Zy H'
    refine enthymemeref04_normal.dI _ _ _ _ _ _ _ _ _ _ _ _ _ _ _ _ (aS (decide_eq_true (by omega)) ⟨by omega,by omega,Rt.at' JY.parts.1 hg λp hp c=>⟨a.k,c.c0,aJ (λhk=>?_) (λhk=>?_)⟩⟩)
    .have pa:a.P w1:=JY.parts.2.mem hm
     have na:=Rt.cB pa.parts.1
     have HW:=Rt.eZ a.l
     have Aq:=Rt.gm a
     refine ⟨by omega,by omega,Rt.at' JY.parts.1 hg λp hp c=>⟨a.s,c.c3,?_⟩⟩
     refine H.I7 2 nT (xs:=acc.flatMap Rt.c) (src:=a.s) (news:=a.l.flatMap Rt.c) rfl pa.parts.1 (AQ _) (by omega) (λs' w4 H4=>?_)
     refine tail s' w4 ?_
     have e:iJ x a=a.l:=if_pos hk
     rw [e,qfA]
     exact H4
    .refine ⟨by omega,by omega,Rt.at' JY.parts.1 hg λp hp c=>⟨_,_,_,_,c.c0,c.c1,c.c2,c.c3,?_⟩⟩
     refine H.tS 2 nT (xs:=acc.flatMap Rt.c) rfl (λs' w4 H4=>?_) (by omega)
     refine tail s' w4 ?_
     have e:iJ x a=[a]:=if_neg hk
     rw [e,mw]
     exact H4
  exact loop x.l.length 0 [] ⟨none,0,0⟩ w4 (by omega) rfl (H5.oL aA 4)
def uX (k:Int):Rx:=if k=3 then qp else if k=4 then wI else fE
def zX (k:Int):Rx:=if k=4 then fE else wI
mutual
def NF:Rx->Prop
 |.mk k lo hi l=>NL l/\(k≠2->lo=0/\hi=0)/\(((k=0\/k=1)/\l=[])\/(k=2/\l=[]/\lo.toNat<=hi.toNat)\/
   ((k=3\/k=4\/k=5)/\2<=l.length/\(k≠3->Fb l)/\∀t∈l,t.k≠k/\t≠uX k/\t≠zX k)\/
   (k=6/\∃c,l=[c]/\c.k≠6)\/(k=7/\∃c,l=[c]/\c.k≠0/\c.k≠1/\c.k≠7/\c≠fE))
def NL:List Rx->Prop
 |[]=>True
 |a::l=>NF a/\NL l
end
theorem uH:∀{l:List Rx},NL l↔∀t∈l,NF t
 |[]=>by unfold NL;simp
 |a::l=>by unfold NL;rw [uH];simp
theorem Ek:NF wI:=by unfold wI NF NL;simp
theorem zf:NF qp:=by unfold qp NF NL;simp
theorem Ej:NF fE:=by
 unfold fE NF NL NL
 refine ⟨⟨Ek,trivial⟩,by simp,.inr (.inr (.inr (.inl ⟨rfl,wI,rfl,by decide⟩)))⟩
theorem WB (k:Int):NF (uX k):=by
 unfold uX
 split
 .exact zf
 .split
  .exact Ek
  .exact Ej
theorem WC (k:Int):NF (zX k):=by
 unfold zX
 split
 .exact Ej
 .exact Ek
theorem WA {x:Rx} (h:NF x):∀t∈x.l,NF t:=by
 cases x
 unfold NF at h
 exact uH.1 h.1
theorem Pn {x:Rx} {k:Int} (hk:k=3\/k=4\/k=5) (h:NF x) (hx:x.k=k):2<=x.l.length/\(k≠3->Fb x.l)/\∀t∈x.l,t.k≠k/\t≠uX k/\t≠zX k:=by
 cases x with
 |mk k' lo hi l=>
  have hx:k'=k:=hx
  subst hx
  unfold NF at h
  obtain ⟨-,-,h|h|h|h|h⟩:=h
  .omega
  .omega
  .exact h.2
  .omega
  .omega
theorem Jp {k:Int} {l:List Rx} {u t:Rx}:t∈lP k l u↔(∃c∈l,if c.k=k then t∈c.l else t=c)/\t≠u:=by
 unfold lP
 rw [List.mem_filter,List.mem_flatMap,Ly]
 refine and_congr ⟨λ⟨c,hc,h⟩=>⟨c,hc,?_⟩,λ⟨c,hc,h⟩=>⟨c,hc,?_⟩⟩ Iff.rfl
 .split at h
  .rename_i e;rw [if_pos e];exact h
  .rename_i e;rw [if_neg e];simpa using h
 .split at h
  .rename_i e;rw [if_pos e];exact h
  .rename_i e;rw [if_neg e];simpa using h
theorem OC {k:Int} (hk:k=3\/k=4\/k=5) {l:List Rx} (h:∀c∈l,NF c) {t:Rx} (ht:t∈lP k l (uX k)):NF t/\t.k≠k/\t≠uX k:=by
 obtain ⟨⟨c,hc,h1⟩,h2⟩:=Jp.1 ht
 split at h1
 .rename_i e
  exact ⟨WA (h c hc) t h1,((Pn hk (h c hc) e).2.2 t h1).1,h2⟩
 .rename_i e
  subst h1
  exact ⟨h t hc,e,h2⟩
def rL (k:Int) (l:List Rx):List Rx:=if k=3 then lP k l (uX k) else J6 (lP k l (uX k))
theorem J0 {k:Int} {l:List Rx} {t:Rx}:t∈rL k l↔t∈lP k l (uX k):=by
 unfold rL
 split
 .exact Iff.rfl
 .exact EH
theorem Bg (k:Int) (l:List Rx):((lP k l (uX k)).any λt=>cP t (zX k)==0)=true↔zX k∈lP k l (uX k):=by
 rw [List.any_eq_true]
 constructor
 .rintro ⟨t,ht,h⟩
  rw [qX.1 h] at ht
  exact ht
 .exact λh=>⟨_,h,qX.2 rfl⟩
theorem Ib {k:Int} {l:List Rx} (h:zX k∈lP k l (uX k)):kX k l (uX k) (zX k)=zX k:=by
 unfold kX
 rw [if_pos ((Bg k l).2 h)]
theorem Ia {k:Int} {l:List Rx} (h:¬zX k∈lP k l (uX k)):kX k l (uX k) (zX k)=Jo k (uX k) (rL k l):=by
 unfold kX
 rw [if_neg (λh'=>h ((Bg k l).1 h'))]
 rfl
theorem O6 {k:Int} (hk:k=3\/k=4\/k=5) {l:List Rx} (h:∀c∈l,NF c):NF (kX k l (uX k) (zX k)):=by
 by_cases hz:zX k∈lP k l (uX k)
 .rw [Ib hz]
  exact WC k
 .rw [Ia hz]
  have hm:∀t∈rL k l,NF t/\t.k≠k/\t≠uX k/\t≠zX k:=λt ht=>by
   have ht:=J0.1 ht
   obtain ⟨h1,h2,h3⟩:=OC hk h ht
   exact ⟨h1,h2,h3,λe=>hz (e▸ht)⟩
  have VW:k≠3->Fb (rL k l):=λh3=>by
   unfold rL
   rw [if_neg h3]
   exact EG _
  generalize rL k l=m at hm VW
  unfold Jo
  split
  .exact WB k
  .exact (hm _ (by simp)).1
  .rename_i h0 h1
   unfold NF
   refine ⟨uH.2 λt ht=>(hm t ht).1,λ_=>⟨rfl,rfl⟩,.inr (.inr (.inl ⟨hk,?_,VW,λt ht=>(hm t ht).2⟩))⟩
   cases m with
   |nil=>exact absurd rfl h0
   |cons a m=>
    cases m with
    |nil=>exact absurd rfl (h1 a)
    |cons b m=>simp
theorem ub {k:Int} (hk:k=3\/k=4\/k=5) (lo hi:UInt8) (l:List Rx):mS (.mk k lo hi l)=kX k l (uX k) (zX k):=by
 rcases hk with rfl|rfl|rfl<;>rfl
theorem TW {c:Rx} (h:NF c):NF (Er 0 0 [c]):=by
 unfold Er
 simp only
 split
 .rename_i e
  split
  .exact Ek
  .rename_i d m hm
   exact WA h d (by rw [hm];simp)
 .rename_i e
  unfold NF
  exact ⟨uH.2 λt ht=>by (simp at ht;subst ht;exact h),λ_=>⟨rfl,rfl⟩,.inr (.inr (.inr (.inl ⟨rfl,c,rfl,e⟩)))⟩
theorem PX {c:Rx} (h:NF c):NF (qQ 0 0 [c]):=by
 unfold qQ
 simp only
 split
 .exact zf
 .rename_i e
  split
  .exact h
  .rename_i e2
   unfold NF
   exact ⟨uH.2 λt ht=>by (simp at ht;subst ht;exact h),λ_=>⟨rfl,rfl⟩,.inr (.inr (.inr (.inr ⟨rfl,c,rfl,λh=>e (.inl h),λh=>e (.inr h),λh=>e2 (.inl h),λh=>e2 (.inr (sv.2 h))⟩)))⟩
theorem rf {k:Int} {lo hi:UInt8} {l:List Rx} (h:dS (.mk k lo hi l)=true):gA l=true/\(k≠2->lo=0/\hi=0)/\(((k=0\/k=1)/\l=[])\/(k=2/\l=[]/\lo.toNat<=hi.toNat)\/(k=3\/k=4\/k=5)\/((k=6\/k=7)/\∃c,l=[c])):=by
 unfold dS at h
 rw [Bool.and_eq_true] at h
 obtain ⟨h1,h2⟩:=h
 have rV:k≠2->lo=0/\hi=0:=λhk=>by
  have e:(k !=2)=true:=by simpa using hk
  rw [e,Bool.true_and,Bool.not_eq_true',Bool.or_eq_false_iff] at h1
  simpa using h1
 split at h2
 .rename_i hk
  have:l=[]:=by simpa using h2
  subst this
  exact ⟨rfl,rV,.inl ⟨hk,rfl⟩⟩
 .split at h2
  .rename_i hk
   simp only [Bool.and_eq_true,decide_eq_true_eq] at h2
   have:l=[]:=by simpa using h2.1
   subst this
   exact ⟨rfl,rV,.inr (.inl ⟨hk,rfl,h2.2⟩)⟩
  .split at h2
   .rename_i hk
    exact ⟨h2,rV,.inr (.inr (.inl hk))⟩
   .split at h2
    .rename_i hk
     simp only [Bool.and_eq_true] at h2
     exact ⟨h2.2,rV,.inr (.inr (.inr ⟨hk,List.length_eq_one_iff.1 (eq_of_beq h2.1)⟩))⟩
    .cases h2
theorem Xu {k:Int} {lo hi:UInt8} {l:List Rx} (h1:gA l=true) (h2:k≠2->lo=0/\hi=0) (h3:((k=0\/k=1)/\l=[])\/(k=2/\l=[]/\lo.toNat<=hi.toNat)\/(k=3\/k=4\/k=5)\/((k=6\/k=7)/\∃c,l=[c])):dS (.mk k lo hi l)=true:=by
 unfold dS
 rw [Bool.and_eq_true]
 constructor
 .by_cases hk:k=2
  .subst hk;rfl
  .obtain ⟨rfl,rfl⟩:=h2 hk
   simp
 .rcases h3 with ⟨hk,rfl⟩|⟨rfl,rfl,hle⟩|hk|⟨hk,c,rfl⟩
  .rw [if_pos hk];rfl
  .rw [if_neg (by omega),if_pos rfl];simpa using hle
  .rw [if_neg (by omega),if_neg (by omega),if_pos hk];exact h1
  .rw [if_neg (by omega),if_neg (by omega),if_neg (by omega),if_pos hk];simpa using h1
theorem MH {lo hi:UInt8} (h:lo.toNat<=hi.toNat):NF (.mk 2 lo hi []):=by
 unfold NF NL
 exact ⟨trivial,λh=>absurd rfl h,.inr (.inl ⟨rfl,rfl,h⟩)⟩
mutual
theorem Im:∀x:Rx,dS x=true->NF (gl x)
 |.mk k lo hi l,h=>by
  obtain ⟨h1,h2,h3⟩:=rf h
  have ih:=zh l h1
  unfold gl
  rcases h3 with ⟨hk,rfl⟩|⟨rfl,rfl,hle⟩|hk|⟨hk,c,rfl⟩
  .obtain ⟨rfl,rfl⟩:=h2 (by omega)
   rcases hk with rfl|rfl
   .exact Ek
   .exact zf
  .exact MH hle
  .rw [ub hk]
   exact O6 hk ih
  .obtain ⟨rfl,rfl⟩:=h2 (by omega)
   have hc:NF (gl c):=ih _ (by unfold fV;simp)
   rcases hk with rfl|rfl
   .exact TW hc
   .exact PX hc
theorem zh:∀l:List Rx,gA l=true->∀t∈fV l,NF t
 |[],_=>λt ht=>by unfold fV at ht;cases ht
 |a::l,h=>λt ht=>by
  unfold gA at h
  rw [Bool.and_eq_true] at h
  unfold fV at ht
  rcases cU.1 ht with rfl|ht
  .exact Im a h.1
  .exact zh l h.2 t ht
end
section
variable {μ:Rx->Nat}
theorem Bl (p:Rx->Bool):∀l:List Rx,ms μ (l.filter p)<=ms μ l
 |[]=>Nat.le_refl _
 |a::l=>by
  have ih:=Bl p l
  rw [List.filter_cons]
  split
  .show μ a+_<=μ a+_;omega
  .show _<=μ a+_;omega
theorem zc:∀{l:List Rx} {a:Rx},a∈l->μ a<=ms μ l
 |b::l,a,h=>by
  rcases cU.1 h with rfl|h
  .show μ a<=μ a+_;omega
  .have:=zc h
   show μ a<=μ b+_;omega
theorem MF (h:∀x,1<=μ x):∀l:List Rx,l.length<=ms μ l
 |[]=>Nat.le_refl _
 |a::l=>by
  have:=MF h l
  have:=h a
  show l.length+1<=μ a+ms μ l
  omega
theorem Ig:∀(l:List Rx) (p:Rx),ms μ (kJ p l)<=ms μ l
 |[],p=>Nat.le_refl _
 |x::l,p=>by
  have:=Ig l x
  unfold kJ
  split
  .show _<=μ x+ms μ l;omega
  .show μ x+_<=μ x+ms μ l;omega
theorem TU (l:List Rx):ms μ (J6 l)<=ms μ l:=by
 have h1:ms μ (yK (qk l))<=ms μ (qk l):=by
  cases qk l with
  |nil=>exact Nat.le_refl _
  |cons a m=>have:=Ig (μ:=μ) m a;show μ a+_<=μ a+_;omega
 rw [<-Pm (uu l)]
 exact h1
theorem Ci (h:∀x,ms μ x.l<=μ x) (k:Int):∀l:List Rx,ms μ (l.flatMap λc=>if c.k=k then c.l else [c])<=ms μ l
 |[]=>Nat.le_refl _
 |c::l=>by
  have ih:=Ci h k l
  have h1:=h c
  rw [List.flatMap_cons,ME]
  show _<=μ c+ms μ l
  split
  .omega
  .show (μ c+0)+_<=_;omega
theorem Ih (h:∀x,ms μ x.l<=μ x) (k:Int) (l:List Rx):ms μ (rL k l)<=ms μ l:=by
 have h1:ms μ (lP k l (uX k))<=ms μ l:=Nat.le_trans (Bl _ _) (Ci h k l)
 unfold rL
 split
 .exact h1
 .exact Nat.le_trans (TU _) h1
end
theorem GZ:∀l:List Rx,Rx.fL l=ms Rx.sz l
 |[]=>rfl
 |a::l=>by unfold Rx.fL;rw [GZ l];rfl
theorem tK (k:Int) (lo hi:UInt8) (l:List Rx):(Rx.mk k lo hi l).sz=1+ms Rx.sz l:=by unfold Rx.sz;rw [GZ]
theorem WY (x:Rx):ms Rx.sz x.l<=x.sz:=by cases x;rw [tK];simp only [Rx.l];omega
theorem TR (x:Rx):ms qu x.l<=qu x:=by cases x;rw [xw];simp only [Rx.l];omega
theorem TT (x:Rx):1<=qu x:=by cases x;rw [xw];omega
mutual
theorem Ru:∀x:Rx,qu x<=x.sz
 |.mk k lo hi l=>by
  rw [xw,tK]
  have:=MD l
  omega
theorem MD:∀l:List Rx,ms qu l<=ms Rx.sz l
 |[]=>Nat.le_refl _
 |a::l=>by
  have h1:=Ru a
  have h2:=MD l
  show qu a+ms qu l<=a.sz+ms Rx.sz l
  omega
end
theorem y3 {k:Int} {l:List Rx} {P:Rx->Prop} (hz:P (zX k)) (hu:P (uX k)) (h1:∀a,a∈rL k l->P a) (h2:P (.mk k 0 0 (rL k l))):P (kX k l (uX k) (zX k)):=by
 by_cases h:zX k∈lP k l (uX k)
 .rw [Ib h];exact hz
 .rw [Ia h]
  generalize hm:rL k l=m at h1 h2
  unfold Jo
  split
  .exact hu
  .exact h1 _ (by simp)
  .exact h2
theorem R9 (k:Int):(uX k).sz<=2/\(zX k).sz<=2/\qu (uX k)=1/\qu (zX k)=1:=by
 unfold uX zX
 refine ⟨?_,?_,?_,?_⟩
 .split
  .decide
  .split<;>decide
 .split<;>decide
 .split
  .decide
  .split<;>decide
 .split<;>decide
theorem Bn {k:Int} {c:Rx} (hk:k=6\/k=7) {P:Rx->Prop} (h0:P wI) (h1:P qp) (hc:P c) (hd:∀d∈c.l,P d) (h2:P (.mk k 0 0 [c])):P (mS (.mk k 0 0 [c])):=by
 rcases hk with rfl|rfl
 .show P (Er 0 0 [c])
  unfold Er
  simp only
  split
  .split
   .exact h0
   .rename_i d m hm
    exact hd d (by rw [hm];simp)
  .exact h2
 .show P (qQ 0 0 [c])
  unfold qQ
  simp only
  split
  .exact h1
  .split
   .exact hc
   .exact h2
mutual
theorem Ck:∀x:Rx,dS x=true->(gl x).sz<=2 *x.sz
 |.mk k lo hi l,h=>by
  obtain ⟨h1,h2,h3⟩:=rf h
  have ih:=vw l h1
  have hx:=tK k lo hi l
  rw [hx]
  unfold gl
  rcases h3 with ⟨hk,rfl⟩|⟨rfl,rfl,hle⟩|hk|⟨hk,c,rfl⟩
  .obtain ⟨rfl,rfl⟩:=h2 (by omega)
   rcases hk with rfl|rfl<;>decide
  .show (Rx.mk 2 lo hi []).sz<=_
   rw [tK];simp only [ms];omega
  .rw [ub hk]
   have hr:=Ih (μ:=Rx.sz) WY k (fV l)
   obtain ⟨hu,hz,-,-⟩:=R9 k
   refine y3 (P:=λy=>y.sz<=2 *(1+ms Rx.sz l)) (by omega) (by omega) (λa ha=>?_) ?_
   .have:=zc (μ:=Rx.sz) ha
    omega
   .show (Rx.mk k 0 0 _).sz<=_
    rw [tK];omega
  .obtain ⟨rfl,rfl⟩:=h2 (by omega)
   have en:fV [c]=[gl c]:=rfl
   rw [en] at ih ⊢
   have ih:(gl c).sz+0<=2 *(c.sz+0):=ih
   show _<=2 *(1+(c.sz+0))
   refine Bn (P:=λy=>y.sz<=2 *(1+(c.sz+0))) hk (by show (1:Nat)<=_;omega) (by show (1:Nat)<=_;omega) (by omega) (λd hd=>?_) ?_
   .have:=zc (μ:=Rx.sz) hd
    have:=WY (gl c)
    omega
   .show (Rx.mk k 0 0 _).sz<=_
    rw [tK];simp only [ms];omega
theorem vw:∀l:List Rx,gA l=true->ms Rx.sz (fV l)<=2 *ms Rx.sz l
 |[],_=>Nat.le_refl _
 |a::l,h=>by
  unfold gA at h
  rw [Bool.and_eq_true] at h
  have h1:=Ck a h.1
  have h2:=vw l h.2
  show (gl a).sz+ms Rx.sz (fV l)<=2 *(a.sz+ms Rx.sz l)
  omega
end
mutual
theorem Pp:∀x:Rx,dS x=true->qu (gl x)<=qu x
 |.mk k lo hi l,h=>by
  obtain ⟨h1,h2,h3⟩:=rf h
  have ih:=zg l h1
  have hx:=xw k lo hi l
  rw [hx]
  unfold gl
  rcases h3 with ⟨hk,rfl⟩|⟨rfl,rfl,hle⟩|hk|⟨hk,c,rfl⟩
  .obtain ⟨rfl,rfl⟩:=h2 (by omega)
   rcases hk with rfl|rfl<;>decide
  .show qu (Rx.mk 2 lo hi [])<=_
   rw [xw];simp only [ms];omega
  .rw [ub hk]
   have hr:=Ih (μ:=qu) TR k (fV l)
   obtain ⟨-,-,hu,hz⟩:=R9 k
   refine y3 (P:=λy=>qu y<=max 1 (ms qu l)) (by omega) (by omega) (λa ha=>?_) ?_
   .have:=zc (μ:=qu) ha
    omega
   .show qu (Rx.mk k 0 0 _)<=_
    rw [xw];omega
  .obtain ⟨rfl,rfl⟩:=h2 (by omega)
   have en:fV [c]=[gl c]:=rfl
   rw [en] at ih ⊢
   have ih:qu (gl c)+0<=qu c+0:=ih
   show _<=max 1 (qu c+0)
   refine Bn (P:=λy=>qu y<=max 1 (qu c+0)) hk (by show (1:Nat)<=_;omega) (by show (1:Nat)<=_;omega) (by omega) (λd hd=>?_) ?_
   .have:=zc (μ:=qu) hd
    have:=TR (gl c)
    omega
   .show qu (Rx.mk k 0 0 _)<=_
    rw [xw];simp only [ms];omega
theorem zg:∀l:List Rx,gA l=true->ms qu (fV l)<=ms qu l
 |[],_=>Nat.le_refl _
 |a::l,h=>by
  unfold gA at h
  rw [Bool.and_eq_true] at h
  have h1:=Pp a h.1
  have h2:=zg l h.2
  show qu (gl a)+ms qu (fV l)<=qu a+ms qu l
  omega
end
theorem HN {N:Nat} {k:Int} {lo hi:UInt8} {l:List Rx} (h:dS (.mk k lo hi l)=true) (hs:(Rx.mk k lo hi l).sz<=10000) (hf:B5 N (.mk k lo hi l)):ui N (.mk k lo hi (fV l))=true:=by
 obtain ⟨h1,h2,h3⟩:=rf h
 have me:=vw l h1
 have Rb:=zg l h1
 rw [tK] at hs
 unfold B5 at hf
 unfold ui
 rw [Bool.and_eq_true,Bool.and_eq_true]
 refine ⟨⟨?_,decide_eq_true (by rw [tK];omega)⟩,?_⟩
 .unfold ni
  rw [Bool.and_eq_true,Bool.and_eq_true]
  refine ⟨⟨decide_eq_true (by omega),decide_eq_true (by omega)⟩,?_⟩
  rcases h3 with ⟨hk,rfl⟩|⟨hk,rfl,hle⟩|hk|⟨hk,c,rfl⟩
  .show (k !=6&&k !=7)=true
   rcases hk with rfl|rfl<;>rfl
  .subst hk;rfl
  .cases fV l with
   |nil=>rcases hk with rfl|rfl|rfl<;>rfl
   |cons a m=>rcases hk with rfl|rfl|rfl<;>rfl
  .show (!(k==6&&(gl c).k==6&&(gl c).l.isEmpty))=true
   have hc:dS c=true:=by
    unfold gA at h1
    rw [Bool.and_eq_true] at h1
    exact h1.1
   have hn:=Im c hc
   generalize gl c=y at hn
   cases y with
   |mk k' uE vX l'=>
    by_cases e:k'=6
    .unfold NF at hn
     obtain ⟨-,-,h|h|h|⟨_,d,hd,_⟩|h⟩:=hn
     .omega
     .omega
     .omega
     .rw [hd];simp [Rx.l]
     .omega
    .have:(Rx.k (.mk k' uE vX l')==6)=false:=by simpa [Rx.k] using e
     rw [this];simp
 .show decide (k=4\/k=5->UU k (fV l)<=N)=true
  refine decide_eq_true λQT=>?_
  have h4:=MF TT ((fV l).flatMap λc=>if c.k=k then c.l else [c])
  have h5:=Ci (μ:=qu) TR k (fV l)
  have h6:=hf.2 QT
  show ((fV l).flatMap λc=>if c.k=k then c.l else [c]).length<=N
  omega
mutual
theorem LU {N:Nat}:∀x:Rx,dS x=true->x.sz<=10000->B5 N x->DE N x=true
 |.mk k lo hi l,h,hs,hf=>by
  obtain ⟨h1,-,-⟩:=rf h
  unfold DE
  rw [HN h hs hf,Bool.and_true]
  rw [tK] at hs
  unfold B5 at hf
  exact HL l h1 (by omega) hf.1
theorem HL {N:Nat}:∀l:List Rx,gA l=true->ms Rx.sz l<=10000->yQ N l->yR N l=true
 |[],_,_,_=>rfl
 |a::l,h,hs,hf=>by
  unfold gA at h
  rw [Bool.and_eq_true] at h
  unfold yQ at hf
  have hs:a.sz+ms Rx.sz l<=10000:=hs
  unfold yR
  rw [LU a h.1 (by omega) hf.1,HL l h.2 (by omega) hf.2]
  rfl
end
end Go.Proofs.YtcifihepfadgfaaGreatDoor
namespace Go.Proofs.YtcifihepfadgfaaGreatDoor
open List renaming mem_append->fW,mem_cons->cU,mem_of_getElem?->dC,getElem?_eq_getElem->g7,getElem?_eq_some_iff->nP,mem_map->o8,length_take->qlT,flatMap_append->qfA,drop_eq_getElem_cons->qdG,take_add_one->qtO,map_append->qmpA,drop_of_length_le->qdO,take_of_length_le->qtOL
open Go Go.W
theorem Z5 {x:Rx} (h:NF x):0<=x.k:=by
 cases x
 unfold NF at h
 simp only [Rx.k]
 omega
theorem Gw {x:Rx} (h:dS x=true) (hk:x.k<3):gl x=x:=by
 cases x with
 |mk k lo hi l=>
  have Gh:k<3:=hk
  clear hk
  obtain ⟨h1,h2,h3⟩:=rf h
  rcases h3 with ⟨hk,rfl⟩|⟨rfl,rfl,hle⟩|hk|⟨hk,c,rfl⟩
  .rcases hk with rfl|rfl<;>rfl
  .rfl
  .omega
  .omega
abbrev Yl (n:Nat):Prop:=∀(x:Rt) (w:World),x.sz<=n->dS x.rx=true->x.P w->Calls Tryz.prog eM #[x.v] w λr w'=>oT x.fp w (gl x.rx) r w'/\bF w w'
theorem AS:∀n:Nat,n<=1000->Yl n
 |0,_=>λx w h _ _=>absurd h (by have:=Rt.oQ x;omega)
 |n+1,hn=>λx w h JA px=>by
  have ih:=AS n (by omega)
  have hs:=Rt.gm x
  have hl:=Rt.eZ x.l
  have nr:=Rt.cB px.parts.1
  refine enthymemeref04_simple.cT _ _ _ _ w _ ((y9 px).bI λb1 w1 H1=>H1.bI λb2 w2 H2=>aK (λhk=>H2.aN λw3 H3=>⟨⟨x,rfl,(Gw JA (by rw [wR];exact hk)).symm,H3.getD 0,λb hb=>.inr hb⟩,H3.fr⟩) (λhk=>?_))
  have An:=JA
  rw [Rt.c9] at An
  obtain ⟨Zo,rV,aar⟩:=rf An
  obtain ⟨elo,ehi⟩:=rV (by omega)
  have YN:gl x.rx=mS (.mk x.k 0 0 (fV (Rt.bU x.l))):=by
   rw [Rt.c9,elo,ehi]
   unfold gl
   rfl
  have loop:∀(d i:Nat) (acc:List Rt) (sl:Sl) (w1:World),i+d=x.l.length->Rt.bU acc=fV (Rt.bU (x.l.take i))->(∀b∈Rt.gN acc,w.heap.size<=b\/b∈x.fp)->
    LH F0 w w1 [.g b1,.g b2,.row aA 4 sl (acc.flatMap Rt.c)] [.tree x,.trees acc]->
    enthymemeref04_simple.dY b1 x.k x.lo.toNat x.hi.toNat x.s b2 0 0 0 ⟨none,0,0⟩ sl (i:Int) w1 λr w'=>oT x.fp w (gl x.rx) r w'/\bF w w':=by
   intro d
   induction d with
   |zero=>
    intro i acc sl w1 hi he hf H
    rw [qtOL (by omega)] at he
    have rW:∀b∈(Rt.row sl acc).fp,w.heap.size<=b:=λb hb=>(H.new _ (dC (i:=2) rfl) b (fQ hb)).resolve_right id
    have H':LH F0 w w1 [.g b1,.g b2] [.tree x,.trees acc,Rt.row sl acc,.tree (.mk x.k 0 0 sl acc)]:=H.GO 2 1 x.k 0 0
    have UI:Rx.mk x.k 0 0 (Rt.bU acc)=.mk x.k 0 0 (fV (Rt.bU x.l)):=by rw [he]
    have ZK:(Rx.mk x.k x.lo x.hi (Rt.bU x.l)).sz<=10000:=by
     rw [<-Rt.c9,Rt.hM];omega
    have dP:=HN (N:=100000) An ZK (FU _ (by
     have hle:∀y:Rx,qu y<=y.sz:=Ru
     have:=hle (Rx.mk x.k x.lo x.hi (Rt.bU x.l))
     omega))
    unfold ui at dP
    rw [Bool.and_eq_true,Bool.and_eq_true] at dP
    have me:(Rt.mk x.k 0 0 sl acc).sz<=10000:=by
     have h1:=Rt.hM (Rt.mk x.k 0 0 sl acc)
     have h2:=vw (Rt.bU x.l) Zo
     have h3:=Rt.zr x.l
     rw [GZ] at h3
     rw [<-h1]
     show (Rx.mk x.k 0 0 (Rt.bU acc)).sz<=_
     rw [UI,tK]
     omega
    have hfo:ni (.mk x.k 0 0 (Rt.bU acc))=true:=by
     rw [UI]
     have:=dP.1.1
     rw [elo,ehi] at this
     exact this
    refine enthymemeref04_simple.aY _ _ _ _ _ _ _ _ _ _ _ _ _ _ (aM (decide_eq_false (by omega)) ?_)
    refine H'.yG (Jf (.mk x.k 0 0 sl acc) ⟨by show 3<=x.k;omega,by show x.k<=7;omega⟩ me hfo (λc hc=>?_) w1 (H'.getD 3)) (λb hb=>⟨_,dC (i:=3) rfl,aI.2 hb⟩) λt w2 ht H2 ft=>?_
    .have UM:c.rx∈fV (Rt.bU x.l):=by
      rw [<-he,Rt.eW]
      exact o8.2 ⟨c,hc,rfl⟩
     have:=Z5 (zh (Rt.bU x.l) Zo _ UM)
     rwa [wR] at this
    refine ⟨_,_,_,t.s,rfl,H2.aN λw3 H3=>⟨⟨t,rfl,?_,H3.getD 4,λb hb=>?_⟩,H3.fr⟩⟩
    .rw [ht,YN]
     show mS (Rx.mk x.k 0 0 (Rt.bU acc))=_
     rw [he]
    .rcases ft b hb with hb|hb
     .exact .inl (Nat.le_trans H.fr.size hb)
     .unfold Rt.fp at hb
      rcases fW.1 hb with hb|hb
      .exact .inl (rW b hb)
      .exact hf b hb
   |succ d pW=>
    intro i acc sl w1 hi he hf H
    have hg:x.l[i]? =some (x.l[i]'(by omega)):=g7 (by omega)
    generalize x.l[i]'(by omega)=a at hg
    have ma:=dC hg
    have CE:=Rt.dK ma
    have ga:dS a.rx=true:=A2 Zo (by rw [Rt.eW];exact o8.2 ⟨a,ma,rfl⟩)
    have VG:∀b∈a.fp,b∈x.fp:=λb hb=>Rt.eG.2 (.inr (Rt.bC.2 ⟨a,ma,hb⟩))
    refine enthymemeref04_simple.aY _ _ _ _ _ _ _ _ _ _ _ _ _ _ (aS (decide_eq_true (by omega)) (jo (show x.P w1 from H.getD 0) rfl hg ?_))
    refine H.yG (ih a w1 (by omega) ga ((show x.P w1 from H.getD 0).parts.2.mem ma)) (λb hb=>⟨_,dC (i:=0) rfl,aI.2 (VG b hb)⟩) λt w2 ht H2 ft=>?_
    have ug:=Rt.cB (H2.get 2:aO _ _ _ _ _).iQ
    have ZX:acc.length=i:=by
     have h1:=congrArg List.length he
     rw [Rt.eW,mM,Rt.eW] at h1
     simp only [List.length_map,qlT] at h1
     omega
    refine ⟨_,_,_,t.s,rfl,H2.tS 2 nT (xs:=acc.flatMap Rt.c) rfl (λs' w3 H3=>?_) (by omega)⟩
    have H4:=(H3.zu 1 2).take 3
    rw [aZ _ (by omega)]
    refine pW (i+1) (acc++[t]) s' w3 (by omega) ?_ (qK hf λb hb=>?_) ?_
    .rw [kg,he,qtO,hg,Option.toList_some,kg,mM,mM,qmpA]
     show _++[t.rx]=_
     rw [ht];rfl
    .rcases ft b hb with hb|hb
     .exact .inl (Nat.le_trans H.fr.size hb)
     .exact .inr (VG b hb)
    .rw [mw]
     exact H4.forget _ (by simp)
  exact loop x.l.length 0 [] ⟨none,0,0⟩ w2 (by omega) rfl (λb hb=>by unfold Rt.gN at hb;cases hb) (Em (H2.oL aA 4))
theorem Dk (x:Rt) (w:World) (h:x.sz<=1000) (hg:dS x.rx=true) (px:x.P w):Calls Tryz.prog eM #[x.v] w λr w'=>oT x.fp w (gl x.rx) r w'/\bF w w':=AS 1000 (Nat.le_refl _) x w h hg px
def El (x:Rx):Rx:=if mP x=0 then Ec (gl x) else wI
def Po (x:Rx):Int:=if mP x=0 then Eb (gl x) else mP x
def QE (Ac:List Nat) (w:World) (x:Rx) (c:Int) (r:Ending) (w':World):Prop:=∃t:Rt,r=.returned (.tuple #[t.v,.int .i64 c])/\t.rx=x/\t.P w'/\∀b∈t.fp,w.heap.size<=b\/b∈Ac
theorem Vi (x:Rt) (w:World) (h:x.sz<=1000000) (px:x.P w):Calls Tryz.prog k8 #[x.v] w λr w'=>QE x.fp w (Ec x.rx) (Eb x.rx) r w'/\bF w w':=by
 refine enthymemeref04_few.cT _ _ _ _ w _ ((y9 px).bI λb1 w1 H1=>H1.bI λb2 w2 H2=>H2.aL (BR x w2 h (H2.getD 0)) ?_)
 rintro _ w3 rfl H3
 refine ⟨_,rfl,aK (λhl=>H3.aN λw4 H4=>⟨⟨mD,?_,?_,vu _,λb hb=>(nD hb).elim⟩,H4.fr⟩) (λhl=>H3.aN λw4 H4=>⟨⟨x,?_,?_,H4.getD 0,λb hb=>.inr hb⟩,H4.fr⟩)⟩
 .unfold Eb;rw [Rt.hM,if_pos (by omega)];rfl
 .unfold Ec;rw [Rt.hM,if_pos (by omega)];rfl
 .unfold Eb;rw [Rt.hM,if_neg (by omega)]
 .unfold Ec;rw [Rt.hM,if_neg (by omega)]
theorem Di (x:Rt) (w:World) (h:x.sz<=1000000) (px:x.P w):Calls Tryz.prog ju #[x.v] w λr w'=>QE x.fp w (El x.rx) (Po x.rx) r w'/\bF w w':=by
 refine enthymemeref04_Normal.cT _ _ _ _ w _ ((y9 px).bI λb1 w1 H1=>H1.bI λb2 w2 H2=>H2.aL (FK x w2 h (H2.getD 0)) ?_)
 rintro _ w3 rfl H3
 unfold El Po
 refine ⟨_,rfl,eB (λiq=>H3.aN λw4 H4=>⟨⟨mD,?_,?_,vu _,λb hb=>(nD hb).elim⟩,H4.fr⟩) (λhe=>?_)⟩
 .rw [if_neg iq];rfl
 .rw [if_neg iq];rfl
 obtain ⟨hg,hs⟩:=uy he
 have We:x.sz<=64:=by rw [<-Rt.hM];exact hs
 rw [if_pos he,if_pos he]
 refine H3.yG (Dk x w3 (by omega) hg (H3.getD 0)) (λb hb=>⟨_,dC (i:=0) rfl,aI.2 hb⟩) λt w4 ht H4 ft=>?_
 have RE:t.sz<=1000000:=by
  have:=Ck _ hg
  rw [<-Rt.hM,ht];omega
 refine ⟨_,_,_,t.s,rfl,nS ((Vi t w4 RE (H4.getD 1)).mono ?_)⟩
 rintro _ w5 ⟨⟨u,rfl,hu,pu,fu⟩,f5⟩
 have H5:=H4.oe (.tree u) f5 pu λb hb=>(fu b (aI.1 hb)).imp id λhb=>.inr ⟨_,dC (i:=1) rfl,aI.2 hb⟩
 refine ⟨f5,_,_,_,u.s,_,rfl,H5.aN λw6 H6=>⟨⟨u,by rw [ht],by rw [hu,ht],H6.getD 2,λb hb=>?_⟩,H6.fr⟩⟩
 rcases fu b hb with hb|hb
 .exact .inl (Nat.le_trans H4.fr.size hb)
 .exact (ft b hb).imp (λhb=>Nat.le_trans H3.fr.size hb) id
theorem K6 {N:Nat} (hS:vZ N) (hN:N+1<=1000000) (x:Rt) (w:World) (h:x.sz<=1000000) (hf:B5 N x.rx) (px:x.P w):Calls Tryz.prog nt #[x.v] w λr w'=>QG w (El x.rx) (Po x.rx) r w'/\bF w w':=by
 refine regex_Normal.cT _ _ _ _ w _ ((y9 px).bI λb1 w1 H1=>H1.bI λb2 w2 H2=>H2.aL (Hp x w2 h (H2.getD 0)) ?_)
 rintro _ w3 rfl H3
 unfold El Po
 refine ⟨_,rfl,eB (λiq=>H3.aN λw4 H4=>⟨⟨mD,?_,?_,vu _,λb hb=>(nD hb).elim⟩,H4.fr⟩) (λhe=>H3.aN λw4 H4=>H4.ss (Om w4) ?_)⟩
 .rw [if_neg iq];rfl
 .rw [if_neg iq];rfl
 rintro _ w5 ⟨F,rfl,hF,pF,nF⟩ _ F5
 have H5:=F5.rd (.fm F) pF nF
 obtain ⟨hg,hs⟩:=uy he
 rw [if_pos he,if_pos he]
 refine ⟨_,rfl,H5.yG (Le hS hN hF x w5 h (LU _ hg (by omega) hf) (H5.getD 1) (H5.getD 0)) (λb hb=>?_) λt w6 ht H6 _=>?_⟩
 .rcases fW.1 hb with hb|hb
  .exact ⟨_,dC (i:=0) rfl,aI.2 hb⟩
  .exact ⟨_,dC (i:=1) rfl,hb⟩
 have RE:t.sz<=1000000:=by
  have:=Ck _ hg
  rw [<-Rt.hM,ht];omega
 refine ⟨_,_,_,t.s,rfl,H6.ss (Jd t w6 RE (H6.getD 2)) ?_⟩
 rintro _ w7 ⟨u,rfl,hu,pu,fu⟩ _ F7
 have H7:=F7.rd (.tree u) pu λb hb=>fu b (aI.1 hb)
 exact ⟨_,_,_,u.s,_,rfl,H7.aN λw8 H8=>⟨⟨u,by rw [ht],by rw [hu,ht],H8.getD 3,λb hb=>Nat.le_trans H6.fr.size (fu b hb)⟩,H8.fr⟩⟩
abbrev BL:=List UInt8
def gQ (s:BL) (i:Nat):UInt8:=s.getD i 0
def NV (c:UInt8):Bool:=decide (32<=c.toNat)&&decide (c.toNat<=126)&&!(c==39)&&!(c==92)
def tw (c:UInt8):Bool:=decide (97<=c.toNat)&&decide (c.toNat<=122)
def rS (n:Nat):UInt8:=UInt8.ofNat (if n<10 then 48+n else 87+n)
def o7 (c:UInt8):Int:=if 48<=c.toNat/\c.toNat<=57 then (c.toNat:Int) - 48 else if 97<=c.toNat/\c.toNat<=102 then (c.toNat:Int) - 87 else -1
def gX (s:BL) (at_:Nat):UInt8×Nat:=
 if (decide (at_+3<=s.length)&&gQ s at_==39&&gQ s (at_+2)==39&&NV (gQ s (at_+1)))=true then (gQ s (at_+1),3)
 else if (decide (at_+4<=s.length)&&gQ s at_==92&&gQ s (at_+1)==120&&decide (0<=o7 (gQ s (at_+2)))&&decide (0<=o7 (gQ s (at_+3))))=true then (UInt8.ofNat ((16 *o7 (gQ s (at_+2))+o7 (gQ s (at_+3))).toNat),4)
 else (0,0)
structure jP where
 tx:BL
 at_:Nat
 k:Nat
 lo:UInt8
 hi:UInt8
structure Yj where
 k:Nat
 lo:UInt8
 hi:UInt8
 n:Nat
def Gv:Yj:=⟨0,0,0,0⟩
def iz (s:BL) (i:Nat):Yj:=
 let a:=gX s i
 if 0<a.2 then ⟨2,a.1,a.1,a.2⟩ else if gQ s i≠91 then Gv else
 let b:=gX s (i+1)
 let dash:=i+1+b.2
 if b.2=0\/s.length<=dash\/gQ s dash≠45 then Gv else
 let c:=gX s (dash+1)
 let fin:=dash+1+c.2
 if c.2=0\/s.length<=fin\/gQ s fin≠93\/c.1.toNat<b.1.toNat then Gv else ⟨2,b.1,c.1,fin+1 - i⟩
def Ax (s:BL) (i:Nat):Nat->Nat->Nat
 |0,n=>n
 |f+1,n=>if (tw (gQ s i)&&decide (i+n<s.length)&&tw (gQ s (i+n)))=true then Ax s i f (n+1) else n
def CG (s:BL):Nat->Nat->List jP
 |0,_=>[⟨[],s.length,0,0,0⟩]
 |f+1,i=>if s.length<=i then [⟨[],s.length,0,0,0⟩] else if gQ s i=32 then CG s f (i+1) else
  let r:=iz s i
  let n:=if r.n=0 then Ax s i s.length 1 else r.n
  ⟨(s.take (i+n)).drop i,i,r.k,r.lo,r.hi⟩::CG s f (i+n)
def s5 (s:BL):List jP:=CG s (s.length+1) 0
abbrev ky:=Nat×Bool
section
variable (l:List jP)
def jG (i:Nat):jP:=l.getD i ⟨[],0,0,0,0⟩
def nE (st:ky):BL:=bif st.2 then [32] else (jG l st.1).tx
def iA (s:BL) (st:ky):Bool×ky:=bif nE l st==s then (true,bif s.isEmpty then st else (st.1+1,st.2)) else (false,st)
def qg (s:BL) (st:ky):ky:=match iA l s st with
 |(true,st)=>st
 |(false,st)=>(st.1,true)
def xY (st:ky):Bool:=!st.2&&!(nE l st==[])&&!(nE l st==[41])&&!(nE l st==[44])&&!(nE l st==[124])&&!(nE l st==[38])
def uc (k:Int):List Rx->Rx
 |[a]=>a
 |m=>.mk k 0 0 m
def s8:Nat->BL
 |0=>[110,111,110,101]
 |1=>[101,109,112,116,121]
 |3=>[99,97,116]
 |4=>[97,108,116]
 |5=>[97,108,108]
 |_=>[]
def nZ (st:ky):Nat->Nat->Option Nat
 |0,_=>none
 |f+1,k=>bif Nat.beq k 2||!(nE l st==s8 k) then nZ st f (k+1) else some k
mutual
def qJ:Nat->ky->Option (Rx×ky)
 |0,_=>none
 |f+1,st=>match uV f st with
  |some (a,st)=>AH f [a] st
  |none=>none
def AH:Nat->List Rx->ky->Option (Rx×ky)
 |0,_,_=>none
 |f+1,acc,st=>match iA l [124] st with
  |(true,st)=>match uV f st with
   |some (a,st)=>AH f (acc++[a]) st
   |none=>none
  |(false,st)=>some (uc 4 acc,st)
def uV:Nat->ky->Option (Rx×ky)
 |0,_=>none
 |f+1,st=>match Cy f st with
  |some (a,st)=>AI f [a] st
  |none=>none
def AI:Nat->List Rx->ky->Option (Rx×ky)
 |0,_,_=>none
 |f+1,acc,st=>match iA l [38] st with
  |(true,st)=>match Cy f st with
   |some (a,st)=>AI f (acc++[a]) st
   |none=>none
  |(false,st)=>some (uc 5 acc,st)
def Cy:Nat->ky->Option (Rx×ky)
 |0,_=>none
 |f+1,st=>match sJ f st with
  |some (a,st)=>wF f [a] st
  |none=>none
def wF:Nat->List Rx->ky->Option (Rx×ky)
 |0,_,_=>none
 |f+1,acc,st=>bif xY l st then match sJ f st with
   |some (a,st)=>wF f (acc++[a]) st
   |none=>none
  else some (uc 3 acc,st)
def sJ:Nat->ky->Option (Rx×ky)
 |0,_=>none
 |f+1,st=>match iA l [33] st with
  |(true,st)=>match sJ f st with
   |some (a,st)=>some (.mk 6 0 0 [a],st)
   |none=>none
  |(false,st)=>match yq f st with
   |some (a,st)=>zA f a st
   |none=>none
def zA:Nat->Rx->ky->Option (Rx×ky)
 |0,_,_=>none
 |f+1,a,st=>match iA l [42] st with
  |(true,st)=>zA f (.mk 7 0 0 [a]) st
  |(false,st)=>some (a,st)
def yq:Nat->ky->Option (Rx×ky)
 |0,_=>none
 |f+1,st=>bif !st.2&&Nat.beq (jG l st.1).k 2 then some (.mk 2 (jG l st.1).lo (jG l st.1).hi [],(st.1+1,st.2)) else match nZ l st 6 0 with
  |some k=>bif Nat.ble k 2 then some (.mk k 0 0 [],(st.1+1,st.2)) else match y5 f (st.1+1,st.2) with
   |some (m,st)=>some (.mk k 0 0 m,st)
   |none=>none
  |none=>let st:=qg l [40] st
   bif st.2 then some (wI,st) else match qJ f st with
   |some (a,st)=>some (a,qg l [41] st)
   |none=>none
def y5:Nat->ky->Option (List Rx×ky)
 |0,_=>none
 |f+1,st=>match iA l [41] (qg l [40] st) with
  |(nn,st)=>bif st.2||nn then some ([],st) else match qJ f st with
   |some (a,st)=>Eg f [a] st
   |none=>none
def Eg:Nat->List Rx->ky->Option (List Rx×ky)
 |0,_,_=>none
 |f+1,acc,st=>match iA l [44] st with
  |(true,st)=>match qJ f st with
   |some (a,st)=>Eg f (acc++[a]) st
   |none=>none
  |(false,st)=>some (acc,qg l [41] st)
end
end
def wM (s:BL):Option (Rx×Nat×Int):=
 if 4096<s.length then some (wI,4096,4) else
 let l:=s5 s
 match qJ l 1000 (0,false) with
 |some (r,st)=>let st:=qg l [] st
  if st.2=true then some (wI,(jG l st.1).at_,2) else if 1000000<r.sz then none else if 64<r.sz then some (wI,s.length,4) else some (r,0,0)
 |none=>none
def dL (c:UInt8):BL:=if NV c=true then [39,c,39] else [92,120,rS (c.toNat / 16),rS (c.toNat%16)]
def cJ:Rx->Nat
 |.mk k _ _ l=>if k=6 then 3 else if k<3\/k=7\/l.length<2 then 4 else if k=3 then 2 else if k=4 then 0 else 1
def cN (lv:Nat) (a:Rx) (t:BL):BL:=if cJ a<lv then 40::(t++[41]) else t
def zd (k:Int):BL:=if k=3 then [99,97,116,40] else if k=4 then [97,108,116,40] else [97,108,108,40]
def lB (k:Int):BL:=if k=3 then [] else if k=4 then [124] else [38]
def qd (t:BL):UInt8:=t.getLastD 0
def lV (k:Int):BL->List BL->BL
 |out,[]=>out
 |out,t::ts=>lV k ((if k=3/\tw (qd out)=true/\tw (gQ t 0)=true then out++[32] else out)++lB k++t) ts
def ud:List BL->BL
 |[]=>[]
 |t::_=>t
def O5 (k:Int):List BL->BL
 |[]=>[]
 |t::ts=>lV k t ts
mutual
def gM:Rx->BL
 |.mk k lo hi l=>if k=0 then [110,111,110,101] else if k=1 then [101,109,112,116,121] else
  if k=2 then (if lo=hi then dL lo else 91::(dL lo++45::(dL hi++[93]))) else
  if k=6 then 33::ud (jc 3 l) else if k=7 then ud (jc 4 l)++[42] else
  if l.length<2 then zd k++(ud (jc 0 l)++[41]) else
  O5 k (jc (cJ (.mk k lo hi l)+1) l)
def jc (lv:Nat):List Rx->List BL
 |[]=>[]
 |a::l=>cN lv a (gM a)::jc lv l
end
mutual
def okW:Rx->Bool
 |.mk k _ _ l=>decide (0<=k)&&decide (k<=7)&&(decide (k<6)||decide (l.length=1))&&Aw l
def Aw:List Rx->Bool
 |[]=>true
 |a::l=>okW a&&Aw l
end
def BX (s:BL):Option Bool:=match wM s with
 |some (r,_,e)=>if e=0 then (if Po r=0 then (if okW (El r)=true/\(El r).sz<=1000 then some (cN 0 (El r) (gM (El r))==s) else none) else some false) else some false
 |none=>none
def XR (a b:UInt8):Rx:=.mk 2 a b []
def fS:Nat->Rx
 |0=>XR 97 97
 |1=>XR 98 98
 |2=>XR 0 0
 |3=>XR 97 98
 |4=>qp
 |_=>fE
def FV (a b c:Rx):Nat->Rx
 |0=>a
 |1=>.mk 3 0 0 [a,b]
 |2=>.mk 4 0 0 [a,b,c]
 |3=>.mk 7 0 0 [a]
 |4=>.mk 3 0 0 [.mk 7 0 0 [a],b]
 |5=>.mk 6 0 0 [.mk 3 0 0 [a,b]]
 |6=>.mk 3 0 0 [b,.mk 7 0 0 [.mk 4 0 0 [a,c]]]
 |_=>.mk 5 0 0 [.mk 6 0 0 [b],.mk 3 0 0 [a,fE]]
def qm (k:Nat):BL:=gM (gl (FV (fS (k%6)) (fS (k / 6%6)) (fS (k / 36%6)) (k / 216%8)))
end Go.Proofs.YtcifihepfadgfaaGreatDoor
