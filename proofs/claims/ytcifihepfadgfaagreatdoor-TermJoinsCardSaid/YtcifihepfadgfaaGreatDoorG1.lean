import Derived.Test.YtcifihepfadgfaaGreatDoorR1
import Derived.Test.YtcifihepfadgfaaGreatDoorV
set_option linter.unusedVariables false
namespace Go.Proofs.YtcifihepfadgfaaGreatDoor
open List renaming mem_append->fS,mem_cons->cS,mem_of_getElem?->cR,getElem?_eq_getElem->g8,getElem?_eq_some_iff->ov,mem_map->pX,length_take->Cg,flatMap_append->r8,drop_eq_getElem_cons->sC,take_add_one->GN,map_append->yJ,drop_of_length_le->sP,take_of_length_le->rA
open Go Go.W
theorem wy {p:Addr} {K:Addr->Prop} (h:K p):aW (some p) K:=h
theorem MO {x y:Int} (l:List Int) (h:x<y):tC (gM x y::l)=-1:=by unfold tC gM;simp [h]
theorem MN {x y:Int} (l:List Int) (h:y<x):tC (gM x y::l)=1:=by
 unfold tC gM
 rw [if_neg (show ¬x<y by omega),if_pos h]
 simp
theorem MM {x y:Int} (l:List Int) (h1:¬x<y) (h2:¬y<x):tC (gM x y::l)=tC l:=by
 conv=>lhs;unfold tC gM
 rw [if_neg h1,if_neg h2]
 simp
abbrev ZL (n:Nat):Prop:=∀(a b:Rt) (w:World),a.sz<=n->a.P w->b.P w->Calls Tryz.prog cI #[a.v,b.v] w λr w'=>r=.returned (.int .i64 (cQ a.rx b.rx))/\bG w w'
theorem uv:∀n:Nat,n<=1000000->ZL n
 |0,_=>λa b w h _ _=>absurd h (by have:=Rt.pD a;omega)
 |n+1,hn=>λa b w h pa pb=>by
  have ih:=uv n (by omega)
  have hs:=Rt.gE a
  have hl:=Rt.fG a.l
  have na:=Rt.b0 pa.parts.1
  have nbb:=Rt.b0 pb.parts.1
  have e:cQ a.rx b.rx=if tC [gM a.k b.k,gM a.lo.toNat b.lo.toNat,gM a.hi.toNat b.hi.toNat]≠0 then tC [gM a.k b.k,gM a.lo.toNat b.lo.toNat,gM a.hi.toNat b.hi.toNat] else cmpL (Rt.bV a.l) (Rt.bV b.l):=by
   rw [Rt.dE a,Rt.dE b];unfold cQ;rfl
  have X2:∀(d i:Nat) (b2 b3:Nat) (w1:World),i+d=a.l.length->i<=b.l.length->cmpL (Rt.bV (a.l.drop i)) (Rt.bV (b.l.drop i))=cQ a.rx b.rx->LH F0 w w1 [.g b2,.g b3] [.tree a,.tree b]->
    enthymemeref04_Compare.mD b2 a.k a.lo.toNat a.hi.toNat a.s b3 b.k b.lo.toNat b.hi.toNat b.s (i:Int) w1 λr w'=>r=.returned (.int .i64 (cQ a.rx b.rx))/\bG w w':=by
   intro d
   induction d with
   |zero=>
    intro i b2 b3 w1 hi Wj he H
    rw [sP (by omega:a.l.length<=i)] at he
    refine enthymemeref04_Compare.dM _ _ _ _ _ _ _ _ _ _ _ _ _ (aI (decide_eq_false (by omega)) (aN (λh=>⟨?_,H.fr⟩) (λh=>aN (λh2=>?_) (λh2=>⟨?_,H.fr⟩))))
    .rw [sC (by omega:i<b.l.length)] at he
     rw [<-he];rfl
    .omega
    .rw [sP (by omega:b.l.length<=i)] at he
     rw [<-he];rfl
   |succ d qz=>
    intro i b2 b3 w1 hi Wj he H
    have hg:a.l[i]? =some (a.l[i]'(by omega)):=g8 (by omega)
    rw [sC (by omega:i<a.l.length)] at he
    generalize a.l[i]'(by omega)=x at hg he
    have DN:=Rt.dQ (cR hg)
    refine enthymemeref04_Compare.dM _ _ _ _ _ _ _ _ _ _ _ _ _ (aQ (decide_eq_true (by omega)) (aN (λlV=>⟨by omega,by omega,?_⟩) (λA7=>aN (λh=>?_) (λh=>aN (λh2=>⟨?_,H.fr⟩) (λh2=>?_)))))
    .have Su:b.l[i]? =some (b.l[i]'(by omega)):=g8 (by omega)
     rw [sC (by omega:i<b.l.length)] at he
     generalize b.l[i]'(by omega)=y at Su he
     refine Rt.at' (show a.P w1 from H.getD 0).parts.1 hg λp hp _=>H.aL λw3 H3=>?_
     have c:=Rt.again (show a.P w3 from H3.getD 0).parts.1 hg hp
     refine ⟨_,_,_,_,c.c0,c.c1,c.c2,c.c3,by omega,by omega,Rt.at' (show b.P w3 from H3.getD 1).parts.1 Su λq hq c'=>⟨_,_,_,_,c'.c0,c'.c1,c'.c2,c'.c3,H3.aK (ih x y w3 (by omega) ((show a.P w3 from H3.getD 0).parts.2.get hg) ((show b.P w3 from H3.getD 1).parts.2.get Su)) ?_⟩⟩
     rintro _ w4 rfl H4
     have e2:cmpL (Rt.bV (x::a.l.drop (i+1))) (Rt.bV (y::b.l.drop (i+1)))=if cQ x.rx y.rx≠0 then cQ x.rx y.rx else cmpL (Rt.bV (a.l.drop (i+1))) (Rt.bV (b.l.drop (i+1))):=rfl
     rw [e2] at he
     refine ⟨_,rfl,dX (λhc=>⟨?_,H4.fr⟩) (λhc=>?_)⟩
     .rw [if_pos hc] at he
      rw [he]
     .rw [if_neg (by simpa using hc)] at he
      rw [aX _ (by omega)]
      exact qz (i+1) b2 b3 w4 (by omega) (by omega) he H4
    .omega
    .rw [sP (by omega:b.l.length<=i)] at he
     rw [<-he];rfl
    .omega
  have wl:∀(c:UInt8),IntKind.wrap .i64 (c.toNat:Int)=(c.toNat:Int):=λc=>IntWalk.i64_in _ (by have:=c.toNat_lt;omega)
  refine enthymemeref04_Compare.cU _ _ _ _ _ _ _ _ w _ ((mu [.tree a,.tree b] (by
   intro e he
   simp only [cS,List.not_mem_nil,or_false] at he
   rcases he with rfl|rfl
   .exact pa
   .exact pb)).bF λb2 w1 H1=>H1.bF λb3 w2 H2=>H2.nw λw3 _ H3=>H3.nw λw4 _ H4=>?_)
  have H4:LH F0 w w4 [.g b2,.g b3,.c w2.heap.size [.int .i64 a.k,.int .i64 (IntKind.wrap .i64 (a.lo.toNat:Int)),.int .i64 (IntKind.wrap .i64 (a.hi.toNat:Int))] bP,.c w3.heap.size [.int .i64 b.k,.int .i64 (IntKind.wrap .i64 (b.lo.toNat:Int)),.int .i64 (IntKind.wrap .i64 (b.hi.toNat:Int))] bP] [.tree a,.tree b]:=H4
  rw [wl,wl,wl,wl] at H4
  have step:∀(i:Nat) (x y:Int) (w5:World),i<3->([.int .i64 a.k,.int .i64 (a.lo.toNat:Int),.int .i64 (a.hi.toNat:Int)]:List Value)[i]? =some (.int .i64 x)->([.int .i64 b.k,.int .i64 (b.lo.toNat:Int),.int .i64 (b.hi.toNat:Int)]:List Value)[i]? =some (.int .i64 y)->
    LH F0 w w5 [.g b2,.g b3,.c w2.heap.size [.int .i64 a.k,.int .i64 (a.lo.toNat:Int),.int .i64 (a.hi.toNat:Int)] bP,.c w3.heap.size [.int .i64 b.k,.int .i64 (b.lo.toNat:Int),.int .i64 (b.hi.toNat:Int)] bP] [.tree a,.tree b]->
    (x<y->cQ a.rx b.rx=-1)->(y<x->cQ a.rx b.rx=1)->
    (¬x<y->¬y<x->∀w6,LH F0 w w6 [.g b2,.g b3,.c w2.heap.size [.int .i64 a.k,.int .i64 (a.lo.toNat:Int),.int .i64 (a.hi.toNat:Int)] bP,.c w3.heap.size [.int .i64 b.k,.int .i64 (b.lo.toNat:Int),.int .i64 (b.hi.toNat:Int)] bP] [.tree a,.tree b]->enthymemeref04_Compare.eE b2 a.k a.lo.toNat a.hi.toNat a.s b3 b.k b.lo.toNat b.hi.toNat b.s ⟨some (bD w2.heap.size),3,3⟩ ⟨some (bD w3.heap.size),3,3⟩ ((i+1:Nat):Int) w6 λr w'=>r=.returned (.int .i64 (cQ a.rx b.rx))/\bG w w')->
    enthymemeref04_Compare.eE b2 a.k a.lo.toNat a.hi.toNat a.s b3 b.k b.lo.toNat b.hi.toNat b.s ⟨some (bD w2.heap.size),3,3⟩ ⟨some (bD w3.heap.size),3,3⟩ (i:Int) w5 λr w'=>r=.returned (.int .i64 (cQ a.rx b.rx))/\bG w w':=by
   intro i x y w5 hi hx hy H lV Sx hk
   have vF:((i:Nat):Int)<((3:Nat):Int):=by omega
   refine enthymemeref04_Compare.aY _ _ _ _ _ _ _ _ _ _ _ _ _ _ _ (aQ (decide_eq_true (by omega)) ⟨by omega,vF,wy (H.aL λw6 H6=>⟨x,?_,by omega,vF,wy ⟨y,?_,aN (λh=>⟨by rw [lV h],H6.fr⟩) (λh=>⟨by omega,vF,wy (H6.aL λw7 H7=>⟨x,?_,by omega,vF,wy ⟨y,?_,aN (λh2=>⟨by rw [Sx h2],H7.fr⟩) (λh2=>?_)⟩⟩)⟩)⟩⟩)⟩)
   .rw [Int.toNat_natCast,Nat.mul_one];exact H6.ld 2 i rfl hx
   .rw [Int.toNat_natCast,Nat.mul_one];exact H6.ld 3 i rfl hy
   .rw [Int.toNat_natCast,Nat.mul_one];exact H7.ld 2 i rfl hx
   .rw [Int.toNat_natCast,Nat.mul_one];exact H7.ld 3 i rfl hy
   .rw [show IntKind.wrap .i64 ((i:Int)+1)=((i+1:Nat):Int) by rw [IntWalk.i64_in _ (by omega)];omega]
    exact hk h h2 w7 H7
  show enthymemeref04_Compare.eE _ _ _ _ _ _ _ _ _ _ _ _ ((0:Nat):Int) _ _
  refine step 0 _ _ w4 (by omega) rfl rfl H4 (λh=>by rw [e,MO _ h];rfl) (λh=>by rw [e,MN _ h];rfl) (λh1 h2 w5 H5=>?_)
  rw [MM _ h1 h2] at e
  refine step 1 _ _ w5 (by omega) rfl rfl H5 (λh=>by rw [e,MO _ h];rfl) (λh=>by rw [e,MN _ h];rfl) (λh1 h2 w6 H6=>?_)
  rw [MM _ h1 h2] at e
  refine step 2 _ _ w6 (by omega) rfl rfl H6 (λh=>by rw [e,MO _ h];rfl) (λh=>by rw [e,MN _ h];rfl) (λh1 h2 w7 H7=>?_)
  rw [MM _ h1 h2] at e
  refine enthymemeref04_Compare.aY _ _ _ _ _ _ _ _ _ _ _ _ _ _ _ (aI rfl (X2 a.l.length 0 b2 b3 w7 (by omega) (by omega) ?_ (H7.take 2)))
  rw [e]
  rfl
theorem j9 (a b:Rt) (w:World) (h:a.sz<=1000000) (pa:a.P w) (pb:b.P w):Calls Tryz.prog cI #[a.v,b.v] w λr w'=>r=.returned (.int .i64 (cQ a.rx b.rx))/\bG w w':=uv 1000000 (Nat.le_refl _) a b w h pa pb
abbrev ZH (n:Nat):Prop:=∀(x:Rt) (w:World),x.sz<=n->x.P w->Calls Tryz.prog eC #[x.v] w λr w'=>r=.returned (.int .i64 (x.sz:Int))/\bG w w'
theorem Ee:∀n:Nat,n<=1000000->ZH n
 |0,_=>λx w h _=>absurd h (by have:=Rt.pD x;omega)
 |n+1,hn=>λx w h px=>by
  have ih:=Ee n (by omega)
  have hs:=Rt.gE x
  have hl:=Rt.fG x.l
  have nr:=Rt.b0 px.parts.1
  have loop:∀(d i m b1:Nat) (w1:World),i+d=x.l.length->m+Rt.fQ (x.l.drop i)=x.sz->LH F0 w w1 [.g b1] [.tree x]->enthymemeref04_Nodes.eE b1 x.k x.lo.toNat x.hi.toNat x.s (m:Int) (i:Int) w1 λr w'=>r=.returned (.int .i64 (x.sz:Int))/\bG w w':=by
   intro d
   induction d with
   |zero=>
    intro i m b1 w1 hi he H
    rw [sP (by omega)] at he
    refine enthymemeref04_Nodes.aY _ _ _ _ _ _ _ _ _ (aI (decide_eq_false (by omega)) ⟨?_,H.fr⟩)
    have:m=x.sz:=he
    rw [this]
   |succ d qz=>
    intro i m b1 w1 hi he H
    have hg:x.l[i]? =some (x.l[i]'(by omega)):=g8 (by omega)
    rw [sC (by omega)] at he
    generalize x.l[i]'(by omega)=a at hg he
    have mG:m+(a.sz+Rt.fQ (x.l.drop (i+1)))=x.sz:=he
    have ma:=cR hg
    have DN:=Rt.dQ ma
    refine enthymemeref04_Nodes.aY _ _ _ _ _ _ _ _ _ (aQ (decide_eq_true (by omega)) (jE (show x.P w1 from H.getD 0) rfl hg (H.aK (ih a w1 (by omega) ((show x.P w1 from H.getD 0).parts.2.mem ma)) ?_)))
    rintro _ w2 rfl H2
    refine ⟨_,rfl,?_⟩
    show enthymemeref04_Nodes.eE _ _ _ _ _ _ _ _ _
    rw [aX _ (by omega),IntWalk.i64_in _ (by omega)]
    have e:((m:Int)+(a.sz:Int))=((m+a.sz:Nat):Int):=by omega
    rw [e]
    exact qz (i+1) (m+a.sz) b1 w2 (by omega) (by omega) H2
  exact enthymemeref04_Nodes.cU _ _ _ _ w _ ((zV px).bF λb1 w1 H1=>loop x.l.length 0 1 b1 w1 (by omega) (by rw [List.drop_zero];omega) H1)
theorem CP (x:Rt) (w:World) (h:x.sz<=1000000) (px:x.P w):Calls Tryz.prog eC #[x.v] w λr w'=>r=.returned (.int .i64 (x.sz:Int))/\bG w w':=Ee 1000000 (Nat.le_refl _) x w h px
def Dr (k:Nat):Int:=if 6<=k then 1 else 0
def Jr (k:Nat):Int:=if k<3 then 0 else if k<6 then 64 else 1
theorem NH {k:Nat} (h:k<8):([.i 0,.i 0,.i 0,.i 0,.i 0,.i 0,.i 1,.i 1]:List Value)[k]? =some (.i (Dr k)):=by
 have:k=0\/k=1\/k=2\/k=3\/k=4\/k=5\/k=6\/k=7:=by omega
 rcases this with rfl|rfl|rfl|rfl|rfl|rfl|rfl|rfl<;>rfl
theorem QK {k:Nat} (h:k<8):([.i 0,.i 0,.i 0,.i 64,.i 64,.i 64,.i 1,.i 1]:List Value)[k]? =some (.i (Jr k)):=by
 have:k=0\/k=1\/k=2\/k=3\/k=4\/k=5\/k=6\/k=7:=by omega
 rcases this with rfl|rfl|rfl|rfl|rfl|rfl|rfl|rfl<;>rfl
abbrev ZE (n:Nat):Prop:=∀(x:Rt) (w:World),x.sz<=n->x.P w->Calls Tryz.prog iG #[x.v] w λr w'=>r=.returned (.bool (dY x.rx))/\bG w w'
theorem IT:∀n:Nat,n<=64->ZE n
 |0,_=>λx w h _=>absurd h (by have:=Rt.pD x;omega)
 |n+1,hn=>λx w h px=>by
  have ih:=IT n (by omega)
  have hs:=Rt.gE x
  have hl:=Rt.fG x.l
  have nr:=Rt.b0 px.parts.1
  have el:(Rt.bV x.l).length=x.s.n:=by rw [Rt.fC];simp [nr]
  have ee:(Rt.bV x.l).isEmpty=decide (x.s.n=0):=by
   rw [<-el,Bool.eq_iff_iff]
   simp
  have eg:dY x.rx=(!(x.k !=2&&(x.lo !=0||x.hi !=0))&&(if x.k=0\/x.k=1 then (Rt.bV x.l).isEmpty else if x.k=2 then (Rt.bV x.l).isEmpty&&decide (x.lo.toNat<=x.hi.toNat) else if x.k=3\/x.k=4\/x.k=5 then gH (Rt.bV x.l) else if x.k=6\/x.k=7 then (Rt.bV x.l).length==1&&gH (Rt.bV x.l) else false)):=by
   rw [Rt.dE]
   unfold dY
   rfl
  rw [ee,el] at eg
  have z8:∀u:UInt8,(u !=0)=decide (u.toNat≠0):=λu=>by
   rw [Bool.eq_iff_iff]
   simp only [bne_iff_ne,ne_eq,decide_eq_true_eq]
   exact not_congr ⟨λh=>by rw [h];rfl,λh=>UInt8.toNat_inj.1 (by simpa using h)⟩
  rw [z8,z8] at eg
  have bad:∀{b1:Nat} {w':World},dY x.rx=false->LH F0 w w' [.g b1,.c (0:Nat) [] bP] []->True:=λ_ _=>trivial
  let R:aD:=λr w'=>r=.returned (.bool (dY x.rx))/\bG w w'
  have loop:dY x.rx=gH (Rt.bV x.l)->∀(d i b1:Nat) (w1:World),i+d=x.l.length->gH (Rt.bV (x.l.drop i))=gH (Rt.bV x.l)->LH F0 w w1 [.g b1] [.tree x]->enthymemeref04_good.y6 b1 x.k x.lo.toNat x.hi.toNat x.s (i:Int) w1 R:=by
   intro hx d
   induction d with
   |zero=>
    intro i b1 w1 hi he H
    rw [sP (by omega)] at he
    refine enthymemeref04_good.mK _ _ _ _ _ _ _ _ (aI (decide_eq_false (by omega)) ⟨?_,H.fr⟩)
    rw [hx,<-he];rfl
   |succ d qz=>
    intro i b1 w1 hi he H
    have hg:x.l[i]? =some (x.l[i]'(by omega)):=g8 (by omega)
    rw [sC (by omega)] at he
    generalize x.l[i]'(by omega)=a at hg he
    have ma:=cR hg
    have DN:=Rt.dQ ma
    have mG:(dY a.rx&&gH (Rt.bV (x.l.drop (i+1))))=gH (Rt.bV x.l):=he
    refine enthymemeref04_good.mK _ _ _ _ _ _ _ _ (aQ (decide_eq_true (by omega)) (jE (show x.P w1 from H.getD 0) rfl hg (H.aK (ih a w1 (by omega) ((show x.P w1 from H.getD 0).parts.2.mem ma)) ?_)))
    rintro _ w2 rfl H2
    refine ⟨_,rfl,eT (λhf=>⟨?_,H2.fr⟩) (λht=>?_)⟩
    .rw [hx,<-mG,hf];rfl
    .rw [aX _ (by omega)]
     rw [ht,Bool.true_and] at mG
     exact qz (i+1) b1 w2 (by omega) mG H2
  refine enthymemeref04_good.cU _ _ _ _ w _ ((zV px).bF λb1 w1 H1=>H1.nw λw2 _ H2=>H2.nw λw3 _ H3=>?_)
  have no:∀w':World,LH F0 w w' [.g b1,.c w1.heap.size [.i 0,.i 0,.i 0,.i 64,.i 64,.i 64,.i 1,.i 1] bP,.c w2.heap.size [.i 0,.i 0,.i 0,.i 0,.i 0,.i 0,.i 1,.i 1] bP] [.tree x]->dY x.rx=false->(Ending.returned (.bool false)=.returned (.bool (dY x.rx))/\bG w w'):=λw' H' hf=>⟨by rw [hf],H'.fr⟩
  refine aN (λk0=>LH.aL H3 (λw4 H4=>no w4 H4 ?_) (by simp)) (λk0=>aN (λk7=>LH.aL H3 (λw4 H4=>no w4 H4 ?_) (by simp)) (λk7=>?_))
  .rw [eg,if_neg (by omega),if_neg (by omega),if_neg (by omega),if_neg (by omega),Bool.and_false]
  .rw [eg,if_neg (by omega),if_neg (by omega),if_neg (by omega),if_neg (by omega),Bool.and_false]
  obtain ⟨k,hk⟩:=Int.eq_ofNat_of_zero_le (by omega:0<=x.k)
  have XA:k<8:=by omega
  refine ⟨by omega,by show x.k<((8:Nat):Int);omega,(show aW (some (nb w2)) _ from LH.aL H3 (λw4 H4=>⟨Dr k,?_,?_⟩) (by simp))⟩
  .have:=LH.ld (L:=[.g b1,.c w1.heap.size [.i 0,.i 0,.i 0,.i 64,.i 64,.i 64,.i 1,.i 1] bP,.c w2.heap.size [.i 0,.i 0,.i 0,.i 0,.i 0,.i 0,.i 1,.i 1] bP]) H4 2 k rfl (NH XA)
   rw [hk,Int.toNat_natCast,Nat.mul_one]
   exact this
  refine aN (λhle=>no w4 H4 ?_) (λhle=>⟨by omega,by show x.k<((8:Nat):Int);omega,(show aW (some (nb w1)) _ from ⟨Jr k,?_,?_⟩)⟩)
  .unfold Dr at hle
   rw [eg,if_neg (by split at hle<;>omega),if_neg (by split at hle<;>omega),if_neg (by split at hle<;>omega)]
   split
   .rename_i h67
    have:(x.s.n==1)=false:=by
     rw [beq_eq_false_iff_ne]
     split at hle<;>omega
    rw [this];simp
   .simp
  .have:=LH.ld (L:=[.g b1,.c w1.heap.size [.i 0,.i 0,.i 0,.i 64,.i 64,.i 64,.i 1,.i 1] bP,.c w2.heap.size [.i 0,.i 0,.i 0,.i 0,.i 0,.i 0,.i 1,.i 1] bP]) H4 1 k rfl (QK XA)
   rw [hk,Int.toNat_natCast,Nat.mul_one]
   exact this
  refine aN (λQj=>no w4 H4 ?_) (λQj=>?_)
  .unfold Jr at Qj
   by_cases k2:k<3
   .rw [if_pos k2] at Qj
    have ie:decide (x.s.n=0)=false:=decide_eq_false (by omega)
    rw [eg,ie]
    split
    .simp
    .split
     .simp
     .omega
   .rw [if_neg k2] at Qj
    by_cases k5:k<6
    .rw [if_pos k5] at Qj;omega
    .rw [if_neg k5] at Qj
     have:(x.s.n==1)=false:=by rw [beq_eq_false_iff_ne];omega
     rw [eg,this,if_neg (by omega),if_neg (by omega),if_neg (by omega),if_pos (by omega)]
     simp
  have Ql:(k<3->x.s.n=0)/\(6<=k->x.s.n=1):=by
   unfold Dr at hle
   unfold Jr at Qj
   refine ⟨λh=>?_,λh=>?_⟩
   .rw [if_pos h] at Qj;omega
   .rw [if_pos h] at hle
    rw [if_neg (by omega),if_neg (by omega)] at Qj
    omega
  have H5:LH F0 w w4 [.g b1] [.tree x]:=LH.take (L:=[.g b1,.c w1.heap.size [.i 0,.i 0,.i 0,.i 64,.i 64,.i 64,.i 1,.i 1] bP,.c w2.heap.size [.i 0,.i 0,.i 0,.i 0,.i 0,.i 0,.i 1,.i 1] bP]) H4 1
  have Yb:k<3->gH (Rt.bV x.l)=true:=λh=>by
   have h0:(Rt.bV x.l).length=0:=by rw [el,Ql.1 h]
   rw [List.length_eq_zero_iff.1 h0]
   rfl
  have go:dY x.rx=gH (Rt.bV x.l)->enthymemeref04_good.fB b1 x.k x.lo.toNat x.hi.toNat x.s w4 R:=λhx=>loop hx x.l.length 0 b1 w4 (by omega) (by simp) H5
  refine aN (λLJ=>no w4 H4 ?_) (λLJ=>dX (λk2=>aN (λQe=>no w4 H4 ?_) (λQe=>go ?_)) (λk2=>go ?_))
  .rw [eg]
   by_cases k2:x.k=2
   .rw [if_neg (by omega),if_pos k2,decide_eq_false (show ¬x.lo.toNat<=x.hi.toNat by omega)]
    simp
   .have:(x.k !=2&&(decide (x.lo.toNat≠0)||decide (x.hi.toNat≠0)))=true:=by
     rw [decide_eq_true (show x.lo.toNat≠0 by omega)]
     simp [k2]
    rw [this];rfl
  .have:(x.k !=2&&(decide (x.lo.toNat≠0)||decide (x.hi.toNat≠0)))=true:=by
    rw [decide_eq_true (show x.hi.toNat≠0 by omega)]
    simp [k2]
   rw [eg,this];rfl
  .have e0:(x.k !=2&&(decide (x.lo.toNat≠0)||decide (x.hi.toNat≠0)))=false:=by
    rw [decide_eq_false (show ¬x.lo.toNat≠0 by omega),decide_eq_false (show ¬x.hi.toNat≠0 by omega)]
    simp
   rw [eg,e0]
   by_cases c1:x.k=0\/x.k=1
   .rw [if_pos c1,Yb (by omega),decide_eq_true (Ql.1 (by omega))];rfl
   .rw [if_neg c1,if_neg k2]
    by_cases c3:x.k=3\/x.k=4\/x.k=5
    .rw [if_pos c3];simp
    .rw [if_neg c3,if_pos (by omega),Ql.2 (by omega)];simp
  .have e0:(x.k !=2&&(decide (x.lo.toNat≠0)||decide (x.hi.toNat≠0)))=false:=by rw [k2];rfl
   rw [eg,e0,if_neg (by omega),if_pos k2,Yb (by omega),decide_eq_true (Ql.1 (by omega)),decide_eq_true (show x.lo.toNat<=x.hi.toNat by omega)]
   rfl
theorem Hi (x:Rt) (w:World) (h:x.sz<=1000000) (px:x.P w):Calls Tryz.prog kj #[x.v] w λr w'=>r=.returned (.int .i64 (nB x.rx))/\bG w w':=by
 refine enthymemeref04_Valid.cU _ _ _ _ w _ ((zV px).bF λb1 w1 H1=>H1.aK (CP x w1 h (H1.getD 0)) ?_)
 rintro _ w2 rfl H2
 refine ⟨_,rfl,aN (λhl=>⟨?_,H2.fr⟩) (λhl=>H2.aK (IT 64 (Nat.le_refl _) x w2 (by omega) (H2.getD 0)) ?_)⟩
 .unfold nB;rw [Rt.ib,if_pos (by omega)]
 rintro _ w3 rfl H3
 refine ⟨_,rfl,eT (λhg=>⟨?_,H3.fr⟩) (λhg=>⟨?_,H3.fr⟩)⟩
 .unfold nB;rw [Rt.ib,if_neg (by omega),hg];rfl
 .unfold nB;rw [Rt.ib,if_neg (by omega),hg];rfl
theorem vo {x:Rx} (h:nB x=0):dY x=true/\x.sz<=64:=by
 unfold nB at h
 split at h
 .cases h
 .split at h
  .rename_i h2
   exact ⟨h2,by omega⟩
  .cases h
theorem BS:∀{l:List Rx} {a:Rx},gH l=true->a∈l->dY a=true
 |b::l,a,h,ha=>by
  have h':(dY b&&gH l)=true:=h
  rw [Bool.and_eq_true] at h'
  rcases cS.1 ha with rfl|ha
  .exact h'.1
  .exact BS h'.2 ha
theorem oA:iy Tryz.prog aC aA (.agg #[.int .i64 0,.int .u8 0,.int .u8 0,.slice none 0 0]) 4 40:=⟨by kernel_rfl,by kernel_rfl,rfl,by decide,by decide⟩
theorem CQ (w:World):Calls Tryz.prog bR #[] w λr w'=>o8 w fL r w'/\bG w w':=by
 refine enthymemeref04_Everything.cU w _ ((mu [] (by simp)).bF λb w1 H1=>H1.iQ (n:=1) (sz:=4) (cs:=m8.c) rfl (by decide) λw2 H2=>H2.aL λw6 H6=>⟨⟨.mk 6 0 0 ⟨some (bD w1.heap.size),1,1⟩ [m8],rfl,rfl,?_,λc hc=>?_⟩,H6.fr⟩)
 .unfold Rt.P Rt.Ps Rt.Ps
  exact ⟨(H6.get 1:aO _ _ _ _ _).iD,wo w6,trivial⟩
 .unfold Rt.fp Rt.gV Rt.gV at hc
  rcases fS.1 hc with hc|hc
  .exact (H6.new _ (cR (i:=1) rfl) c (fY hc)).resolve_right id
  .rcases fS.1 hc with hc|hc
   .exact (n8 hc).elim
   .cases hc
def qD (r:Rt):List Rt->List Rt
 |[]=>[r]
 |y::p=>if cQ y.rx r.rx<0 then y::qD r p else if cQ y.rx r.rx=0 then y::p else r::y::p
theorem N7 (r:Rt):∀l:List Rt,(qD r l).map Rt.rx=xL r.rx (l.map Rt.rx)
 |[]=>rfl
 |y::p=>by
  unfold qD
  rw [List.map_cons]
  unfold xL
  split
  .rw [List.map_cons,N7 r p]
  .split<;>rfl
theorem wB {t r:Rt}:∀{p:List Rt},t∈qD r p->t=r\/t∈p
 |[],h=>by unfold qD at h;simpa using h
 |y::p,h=>by
  unfold qD at h
  split at h
  .rcases cS.1 h with rfl|h
   .simp
   .rcases wB h with h|h<;>simp [h]
  .split at h
   .exact .inr h
   .rcases cS.1 h with rfl|h
    .simp
    .exact .inr h
theorem FK (r:Rt):∀l:List Rt,Rt.fQ (qD r l)<=r.sz+Rt.fQ l
 |[]=>by show r.sz+0<=r.sz+0;omega
 |y::p=>by
  unfold qD
  split
  .have:=FK r p
   show y.sz+Rt.fQ (qD r p)<=r.sz+(y.sz+Rt.fQ p)
   omega
  .split
   .show y.sz+Rt.fQ p<=r.sz+(y.sz+Rt.fQ p)
    omega
   .exact Nat.le_refl _
theorem JG {r:Rt}:∀{l:List Rt} {k:Nat},k<=l.length->(∀q t,q<k->l[q]? =some t->cQ t.rx r.rx<0)->(∀t,l[k]? =some t->¬cQ t.rx r.rx<0)->
  (∀t,l[k]? =some t->cQ t.rx r.rx=0->qD r l=l)/\((∀t,l[k]? =some t->cQ t.rx r.rx≠0)->qD r l=l.take k++r::l.drop k)
 |[],k,hk,h1,h2=>⟨λt h=>by simp at h,λ_=>by simp [qD]⟩
 |y::p,0,hk,h1,h2=>by
  have:=h2 y rfl
  unfold qD
  rw [if_neg this]
  refine ⟨λt h h0=>?_,λh=>?_⟩
  .cases h
   rw [if_pos h0]
  .rw [if_neg (h y rfl)]
   rfl
 |y::p,k+1,hk,h1,h2=>by
  have hy:=h1 0 y (by omega) rfl
  have ih:=JG (r:=r) (l:=p) (k:=k) (by simpa using hk) (λq t hq ht=>h1 (q+1) t (by omega) (by simpa using ht)) (λt ht=>h2 t (by simpa using ht))
  unfold qD
  rw [if_pos hy]
  refine ⟨λt h h0=>by rw [ih.1 t (by simpa using h) h0],λh=>by rw [ih.2 λt ht=>h t (by simpa using ht)];rfl⟩
theorem FP {w:World} {s:Sl} {l:List Rt} (h:jU 4 w s (l.flatMap Rt.c)) (a b:Nat) (Hz:a<=b) (hb:b<=l.length):jU 4 w (Ay 4 s a b) (((l.take b).drop a).flatMap Rt.c):=by
 have nr:=Rt.b0 h
 have:=h.sub a b Hz (by omega)
 rw [EB,BM _ _ (by rw [Cg];omega)] at this
 exact this
abbrev eJ (s:Sl) (l:List Rt):Rt:=.mk 0 0 0 s l
def R3 (AT:List Nat) (w:World) (l:List Rt) (r:Ending) (w':World):Prop:=∃s:Sl,r=.returned s.v/\(eJ s l).P w'/\∀b∈(eJ s l).fp,w.heap.size<=b\/b∈AT
theorem fR {w:World} {s:Sl} {l:List Rt}:(eJ s l).P w↔jU 4 w s (l.flatMap Rt.c)/\Rt.Ps w l:=by
 unfold eJ Rt.P
 exact Iff.rfl
theorem pg {s:Sl} {l:List Rt} {b:Nat}:b∈(eJ s l).fp↔b∈(Rt.row s l).fp\/b∈Rt.gV l:=by
 unfold eJ Rt.fp
 exact fS
theorem WS (s:Sl) (l:List Rt) (r:Rt) (w:World) (hl:Rt.fQ l<=100000) (hr:r.sz<=100000) (px:(eJ s l).P w) (pr:r.P w):
  Calls Tryz.prog lK #[s.v,r.v] w λe w'=>R3 ((eJ s l).fp++r.fp) w (qD r l) e w'/\bG w w':=by
 have nr:=Rt.b0 (fR.1 px).1
 have ll:=Rt.fG l
 let R:aD:=λe w'=>R3 ((eJ s l).fp++r.fp) w (qD r l) e w'/\bG w w'
 have fin:∀(k:Nat) (sl:Sl) (L:List En) (i:Nat) (w1:World),k<=l.length->qD r l=l.take k++r::l.drop k->L[i]? =some (.row aA 4 sl ((l.take k++[r]).flatMap Rt.c))->LH F0 w w1 L [.tree (eJ s l),.tree r]->
   enthymemeref04_put.ic s (k:Int) sl w1 R:=by
  intro k sl L i w1 hk he hi H
  have px1:(eJ s l).P w1:=H.getD 0
  have hp:=FP (fR.1 px1).1 k l.length hk (Nat.le_refl _)
  rw [List.take_length] at hp
  have iO:aO w1 aA 4 sl ((l.take k++[r]).flatMap Rt.c):=H.get i hi
  have vb:=Rt.b0 iO.iD
  have ltk:(l.take k++[r]).length=k+1:=by simp [Cg];omega
  refine ⟨by omega,by omega,?_⟩
  obtain ⟨s',w',h1,h2,h3⟩:=H.Kc (bs:=[]) i (ty:=aC) (K:=λs' w'=>∃L',L'[i]? =some (.row aA 4 s' ((qD r l).flatMap Rt.c))/\LH F0 w w' L' [.tree (eJ s l),.tree r]) oA (src:=Ay 4 s k l.length) (news:=(l.drop k).flatMap Rt.c) hi hp (BC _) (by show (sl.n+(l.length - k)) *40<=_;omega) (λs' w' H'=>⟨_,by
   rw [List.getElem?_set_self (ov.1 hi).1,<-r8,he,List.append_assoc];rfl,H'⟩)
  obtain ⟨L',g1,g2⟩:=h3
  have e1:(Int.toNat (k:Int))=k:=rfl
  refine ⟨s',w',by rw [e1,nr];exact h1,⟨s',rfl,fR.2 ⟨(g2.get i g1:aO _ _ _ _ _).iD,Rt.oX λt ht=>?_⟩,λb hb=>?_⟩,g2.fr⟩
  .rcases wB ht with rfl|ht
   .exact g2.getD 1
   .exact (fR.1 (g2.getD 0)).2.mem ht
  .rcases pg.1 hb with hb|hb
   .exact .inl ((g2.new _ (cR g1) b (fY hb)).resolve_right id)
   .obtain ⟨t,ht,zH⟩:=Rt.bC.1 hb
    rcases wB ht with rfl|ht
    .exact .inr (List.mem_append_right _ zH)
    .exact .inr (List.mem_append_left _ (pg.2 (.inr (Rt.bC.2 ⟨t,ht,zH⟩))))
 have s2:∀(k:Nat) (b3:Nat) (w1:World),k<=l.length->qD r l=l.take k++r::l.drop k->LH F0 w w1 [.g b3] [.tree (eJ s l),.tree r]->enthymemeref04_put.fB s b3 r.k r.lo.toNat r.hi.toNat r.s (k:Int) w1 R:=by
  intro k b3 w1 hk he H
  have KF:s.n<=s.c:=(fR.1 (show (eJ s l).P w1 from H.getD 0)).1.2.1
  have SG:∀w':World,(eJ s l).P w'->jU 4 w' (Ay 4 s 0 k) ((l.take k).flatMap Rt.c):=λw' h=>FP (fR.1 h).1 0 k (by omega) hk
  have e1:(Int.toNat (k:Int))=k:=rfl
  refine ⟨by omega,by omega,H.aL λw2 H2=>?_,H.aL λw2 H2=>?_⟩
  .refine (H2.n7 aA 4).Kc 1 oA (s:=⟨none,0,0⟩) (xs:=[]) (src:=Ay 4 s 0 k) (news:=(l.take k).flatMap Rt.c) rfl (SG w2 (H2.getD 0)) (BC _) (by show (0+(k - 0)) *40<=_;omega) (λs' w3 H3=>?_)
   have H3:LH F0 w w3 [.g b3,.row aA 4 s' ((l.take k).flatMap Rt.c)] [.tree (eJ s l),.tree r]:=H3
   have vb:=Rt.b0 (H3.get 1:aO _ _ _ _ _).iD
   rw [Cg] at vb
   refine H3.uj 1 oA (xs:=(l.take k).flatMap Rt.c) rfl (λWt w4 H4=>?_) (by omega)
   refine fin k Wt _ 1 w4 hk he ?_ H4
   show some _=some _
   rw [mV]
   rfl
  .refine H2.iQ (n:=1) (sz:=4) (cs:=r.c) rfl (by decide) λw3 H3=>?_
   refine (H3.n7 aA 4).Kc 2 oA (s:=⟨none,0,0⟩) (xs:=[]) (src:=Ay 4 s 0 k) (news:=(l.take k).flatMap Rt.c) rfl (SG w3 (H3.getD 0)) (BC _) (by show (0+(k - 0)) *40<=_;omega) (λs' w4 H4=>?_)
   have H4:LH F0 w w4 [.g b3,.row aA 4 ⟨some (bD w2.heap.size),1,1⟩ r.c,.row aA 4 s' ((l.take k).flatMap Rt.c)] [.tree (eJ s l),.tree r]:=H4
   have vb:=Rt.b0 (H4.get 2:aO _ _ _ _ _).iD
   rw [Cg] at vb
   refine H4.Kc 2 oA (xs:=(l.take k).flatMap Rt.c) (src:=⟨some (bD w2.heap.size),1,1⟩) (news:=r.c) rfl (H4.get 1:aO _ _ _ _ _).iD (λu hu=>BC [r] u (by simpa using hu)) (by show (s'.n+1) *40<=_;omega) (λWt w5 H5=>?_)
   refine fin k Wt _ 2 w5 hk he ?_ H5
   show some _=some _
   rw [mV]
 have s1:∀(k:Nat) (b3:Nat) (w1:World),k<=l.length->(∀q t,q<k->l[q]? =some t->cQ t.rx r.rx<0)->(∀t,l[k]? =some t->¬cQ t.rx r.rx<0)->LH F0 w w1 [.g b3] [.tree (eJ s l),.tree r]->enthymemeref04_put.gm s b3 r.k r.lo.toNat r.hi.toNat r.s (k:Int) w1 R:=by
  intro k b3 w1 hk h1 h2 H
  obtain ⟨g1,g2⟩:=JG hk h1 h2
  refine aN (λlV=>?_) (λlV=>H.aL λw2 H2=>s2 k b3 w2 hk (g2 λt ht=>by have:=(ov.1 ht).1;omega) H2)
  have hg:l[k]? =some l[k]:=g8 (by omega)
  generalize l[k]'(by omega)=t at hg
  have mt:=cR hg
  refine ⟨by omega,by omega,Rt.at' (fR.1 (show (eJ s l).P w1 from H.getD 0)).1 hg λp hp _=>H.aL λw2 H2=>?_⟩
  have QX:(eJ s l).P w2:=H2.getD 0
  have c:=Rt.again (fR.1 QX).1 hg hp
  refine ⟨_,_,_,_,c.c0,c.c1,c.c2,c.c3,H2.aK (j9 t r w2 (by have:=Rt.dQ mt;omega) ((fR.1 QX).2.mem mt) (H2.getD 1)) ?_⟩
  rintro _ w3 rfl H3
  refine ⟨_,rfl,aJ (λh0=>⟨⟨s,rfl,?_,λb hb=>.inr ?_⟩,H3.fr⟩) (λh0=>s2 k b3 w3 hk (g2 λt' nS=>by rw [hg] at nS;cases nS;exact h0) H3)⟩
  .rw [g1 t hg h0];exact H3.getD 0
  .rw [g1 t hg h0] at hb
   exact List.mem_append_left _ hb
 have loop:∀(d k:Nat) (b3:Nat) (w1:World),k+d=l.length->(∀q t,q<k->l[q]? =some t->cQ t.rx r.rx<0)->LH F0 w w1 [.g b3] [.tree (eJ s l),.tree r]->enthymemeref04_put.eE s b3 r.k r.lo.toNat r.hi.toNat r.s (k:Int) w1 R:=by
  intro d
  induction d with
  |zero=>
   intro k b3 w1 hk h1 H
   exact enthymemeref04_put.aY _ _ _ _ _ _ _ _ _ (aI (decide_eq_false (by omega)) (H.aL λw2 H2=>s1 k b3 w2 (by omega) h1 (λt ht=>by have:=(ov.1 ht).1;omega) H2))
  |succ d qz=>
   intro k b3 w1 hk h1 H
   have hg:l[k]? =some l[k]:=g8 (by omega)
   generalize l[k]'(by omega)=t at hg
   have mt:=cR hg
   refine enthymemeref04_put.aY _ _ _ _ _ _ _ _ _ (aQ (decide_eq_true (by omega)) ⟨by omega,by omega,Rt.at' (fR.1 (show (eJ s l).P w1 from H.getD 0)).1 hg λp hp _=>H.aL λw2 H2=>?_⟩)
   have QX:(eJ s l).P w2:=H2.getD 0
   have c:=Rt.again (fR.1 QX).1 hg hp
   refine ⟨_,_,_,_,c.c0,c.c1,c.c2,c.c3,H2.aK (j9 t r w2 (by have:=Rt.dQ mt;omega) ((fR.1 QX).2.mem mt) (H2.getD 1)) ?_⟩
   rintro _ w3 rfl H3
   refine ⟨_,rfl,aN (λh0=>?_) (λh0=>s1 k b3 w3 (by omega) h1 (λt' nS=>by rw [hg] at nS;cases nS;exact h0) H3)⟩
   rw [aX _ (by omega)]
   refine qz (k+1) b3 w3 (by omega) (λq t' hq nS=>?_) H3
   by_cases e:q=k
   .subst e;rw [hg] at nS;cases nS;exact h0
   .exact h1 q t' (by omega) nS
 exact enthymemeref04_put.cU _ _ _ _ _ w _ ((mu [.tree (eJ s l),.tree r] (by
  intro e he
  simp only [cS,List.not_mem_nil,or_false] at he
  rcases he with rfl|rfl
  .exact px
  .exact pr)).bF λb3 w1 H1=>loop l.length 0 b3 w1 (by omega) (λq t h=>by omega) H1)
theorem xI (k:Int) (t:Rx):∀(l out:List Rx),qC k out (l++[t])=if k=3 then qC k out l++[t] else xL t (qC k out l)
 |[],out=>by
  show qC k (if k=3 then out++[t] else xL t out) []=_
  unfold qC
  rfl
 |a::l,out=>by
  show qC k (if k=3 then out++[a] else xL a out) (l++[t])=_
  rw [xI k t l]
  rfl
theorem aa0 (x ev:Rt) (hk:x.k=3\/x.k=4\/x.k=5) (vt:ev.rx=fL):∃(j:Nat) (u z:Rt),IntKind.wrap .i64 (x.k - 3)=(j:Int)/\j<3/\[gR,m8,ev][j]? =some u/\[m8,ev,m8][j]? =some z/\(u=gR\/u=m8\/u=ev)/\(z=m8\/z=ev)/\u.rx≠z.rx/\
  nE (.mk x.k 0 0 (Rt.bV x.l))=lG x.k (Rt.bV x.l) u.rx z.rx:=by
 rcases hk with h|h|h<;>rw [h]
 .exact ⟨0,gR,m8,by decide,by decide,rfl,rfl,.inl rfl,.inl rfl,(by intro e;cases e),rfl⟩
 .exact ⟨1,m8,ev,by decide,by decide,rfl,rfl,.inr (.inl rfl),.inr rfl,(by rw [vt];intro e;cases e),by rw [vt];rfl⟩
 .exact ⟨2,ev,m8,by decide,by decide,rfl,rfl,.inr (.inr rfl),.inl rfl,(by rw [vt];intro e;cases e),by rw [vt];rfl⟩
section
variable {x ev u z:Rt} {sf:Sl} {w:World} {b4 b8 b9:Nat}
theorem Q9 (hx:x.sz<=10000) (vt:ev.rx=fL) (X7:∀b∈ev.fp,w.heap.size<=b) (hu:u=gR\/u=m8\/u=ev) (Zc:z=m8\/z=ev) (huz:u.rx≠z.rx) (Jg:nE (.mk x.k 0 0 (Rt.bV x.l))=lG x.k (Rt.bV x.l) u.rx z.rx) {w1:World}
  (H:LH F0 w w1 [.g b4,.g b8,.g b9] [.tree x,.tree ev,.tree (eJ sf (x.l.flatMap (iR x)))]):
  enthymemeref04_normal.y6 x.k b4 0 0 0 ⟨none,0,0⟩ sf b8 u.k u.lo.toNat u.hi.toNat u.s b9 z.k z.lo.toNat z.hi.toNat z.s ⟨none,0,0⟩ 0 w1 λr w'=>pM x.fp w (nE (.mk x.k 0 0 (Rt.bV x.l))) r w'/\bG w w':=by
 let R:aD:=λr w'=>pM x.fp w (nE (.mk x.k 0 0 (Rt.bV x.l))) r w'/\bG w w'
 have E5:Sub x (x.l.flatMap (iR x)):=Sub.flat λ_ h=>h
 have XO:Rt.fQ (x.l.flatMap (iR x))<=Rt.fQ x.l:=rF x x.l
 have Qc:((x.l.flatMap (iR x)).map Rt.rx).filter (λt=>!(cQ t u.rx==0))=mm x.k (Rt.bV x.l) u.rx:=by
  rw [<-vY]
  unfold kW
  rw [List.filter_map]
  rfl
 generalize x.l.flatMap (iR x)=fl at H E5 XO Qc
 have ru:=E5
 have aaE:=Rt.gE x
 have aba:Rt.fQ fl<=10000:=by omega
 have lfl:=Rt.fG fl
 have nr:sf.n=fl.length:=Rt.b0 (fR.1 (show (eJ sf fl).P w1 from H.getD 2)).1
 have huP:∀w',ev.P w'->u.P w':=λw' h=>by
  rcases hu with rfl|rfl|rfl
  .exact yR w'
  .exact wo w'
  .exact h
 have Zb:∀w',ev.P w'->z.P w':=λw' h=>by
  rcases Zc with rfl|rfl
  .exact wo w'
  .exact h
 have huf:∀b∈u.fp,w.heap.size<=b:=λb hb=>by
  rcases hu with rfl|rfl|rfl
  .exact (vT hb).elim
  .exact (n8 hb).elim
  .exact X7 b hb
 have hzf:∀b∈z.fp,w.heap.size<=b:=λb hb=>by
  rcases Zc with rfl|rfl
  .exact (n8 hb).elim
  .exact X7 b hb
 have ej1:∀t∈fl,t.rx=z.rx->nE (.mk x.k 0 0 (Rt.bV x.l))=z.rx:=λt ht e=>by
  rw [Jg]
  unfold lG
  rw [if_pos]
  rw [List.any_eq_true]
  refine ⟨t.rx,?_,rL.2 e⟩
  rw [<-Qc,List.mem_filter]
  exact ⟨pX.2 ⟨t,ht,rfl⟩,MP.2 (e▸λh=>huz h.symm)⟩
 have ej2:(∀t∈fl,t.rx≠z.rx)->nE (.mk x.k 0 0 (Rt.bV x.l))=Kw x.k u.rx (qC x.k [] ((fl.map Rt.rx).filter λt=>!(cQ t u.rx==0))):=λh=>by
  rw [Jg,QV,Qc]
  unfold lG
  rw [if_neg]
  .rfl
  .rw [List.any_eq_true]
   rintro ⟨t,ht,he⟩
   rw [<-Qc,List.mem_filter] at ht
   obtain ⟨t',nS,rfl⟩:=pX.1 ht.1
   exact h t' nS (rL.1 he)
 have fin:∀(ol:List Rt) (so:Sl) (L D:List En) (w1:World),(∀t∈fl,t.rx≠z.rx)->ol.map Rt.rx=qC x.k [] ((fl.map Rt.rx).filter λt=>!(cQ t u.rx==0))->(∀t∈ol,t∈fl)->LH F0 w w1 L (.tree x::.tree ev::D)->(∀b∈[b4,b8,b9],En.g b∈L)->(∀w',LH F0 w w' L (.tree x::.tree ev::D)->jU 4 w' so (ol.flatMap Rt.c)/\∀b∈(Rt.row so ol).fp,w.heap.size<=b\/b∈x.fp)->
   aG (((so.n:Nat):Int)==0) (loc [b4,b8,b9] w1 λw55=>R (.returned u.v) w55) (aG (((so.n:Nat):Int)==1) ((0:Int)<=0/\0<((so.n:Nat):Int)/\aW so.a λp=>bY w1 (p.add (Int.toNat 0 *4)) λa b c d=>loc [b4,b8,b9] w1 λw59=>R (.returned (.agg #[.i a,.int .u8 b,.int .u8 c,d.v])) w59) (loc [b4,b8,b9] w1 λw63=>R (.returned (.agg #[.i x.k,.int .u8 0,.int .u8 0,so.v])) w63)):=by
  intro ol so L D w1 hz ho hm H hb iO
  have hr:=iO w1 H
  have nso:=Rt.b0 hr.1
  have ej:=ej2 hz
  rw [<-ho] at ej
  have sQ:Sub x ol:=ru.sub hm
  refine aJ (λh0=>H.aL (λw2 H2=>⟨⟨u,rfl,?_,huP w2 (H2.getD 1),λb hb=>.inl (huf b hb)⟩,H2.fr⟩) hb) (λh0=>aJ (λh1=>?_) (λh1=>H.aL (λw2 H2=>⟨⟨.mk x.k 0 0 so ol,rfl,?_,?_,λb hb=>?_⟩,H2.fr⟩) hb))
  .have:ol=[]:=List.length_eq_zero_iff.1 (by omega)
   rw [ej,this];rfl
  .obtain ⟨a,rfl⟩:=List.length_eq_one_iff.1 (show ol.length=1 by omega)
   refine ⟨by omega,by omega,Rt.at' hr.1 (i:=0) (t:=a) rfl λp hp c=>⟨_,_,_,_,c.c0,c.c1,c.c2,c.c3,H.aL (λw2 H2=>⟨⟨a,rfl,?_,sQ.P _ (H2.getD 0) a (by simp),λb hb=>.inr (sQ.fp a (by simp) b hb)⟩,H2.fr⟩) hb⟩⟩
   rw [ej];rfl
  .rw [ej]
   unfold Rt.rx
   rw [Rt.fC]
   cases ol with
   |nil=>simp at nso;omega
   |cons a ks=>
    cases ks with
    |nil=>simp at nso;omega
    |cons b ks=>rfl
  .unfold Rt.P
   exact ⟨(iO w2 H2).1,sQ.Ps (H2.getD 0)⟩
  .unfold Rt.fp at hb
   rcases fS.1 hb with hb|hb
   .exact (iO w2 H2).2 b hb
   .exact .inr (sQ.gV hb)
 have X4:x.k=3->∀(d i:Nat) (so:Sl) (ol:List Rt) (w1:World),i+d=fl.length->(∀t∈fl.take i,t.rx≠z.rx)->ol.map Rt.rx=qC x.k [] (((fl.take i).map Rt.rx).filter λt=>!(cQ t u.rx==0))->(∀t∈ol,t∈fl)->Rt.fQ ol<=Rt.fQ (fl.take i)->
   LH F0 w w1 [.g b4,.g b8,.g b9,.row aA 4 so (ol.flatMap Rt.c)] [.tree x,.tree ev,.tree (eJ sf fl)]->enthymemeref04_normal.y6 x.k b4 0 0 0 ⟨none,0,0⟩ sf b8 u.k u.lo.toNat u.hi.toNat u.s b9 z.k z.lo.toNat z.hi.toNat z.s so (i:Int) w1 R:=by
  intro hk d
  induction d with
  |zero=>
   intro i so ol w1 hi hz ho hm hs H
   rw [rA (by omega)] at hz ho
   refine enthymemeref04_normal.mK _ _ _ _ _ _ _ _ _ _ _ _ _ _ _ _ _ _ _ _ _ (aI (decide_eq_false (by omega)) ?_)
   exact fin ol so _ _ w1 hz ho hm H (by simp) (λw' H'=>⟨(H'.get 3:aO _ _ _ _ _).iD,λb hb=>.inl ((H'.new _ (cR (i:=3) rfl) b (fY hb)).resolve_right id)⟩)
  |succ d qz=>
   intro i so ol w1 hi hz ho hm hs H
   have hg:fl[i]? =some fl[i]:=g8 (by omega)
   generalize fl[i]'(by omega)=t at hg
   have mt:=cR hg
   have Tm:=Rt.dQ mt
   have PI:fl.take (i+1)=fl.take i++[t]:=by rw [GN,hg];rfl
   have szk:Rt.fQ (fl.take (i+1))=Rt.fQ (fl.take i)+t.sz:=by rw [PI,uf];rfl
   have szl:=qP fl (i+1)
   refine enthymemeref04_normal.mK _ _ _ _ _ _ _ _ _ _ _ _ _ _ _ _ _ _ _ _ _ (aQ (decide_eq_true (by omega)) ⟨by omega,by omega,Rt.at' (fR.1 (show (eJ sf fl).P w1 from H.getD 2)).1 hg λp hp _=>H.aL λw2 H2=>?_⟩)
   have p2:(eJ sf fl).P w2:=H2.getD 2
   have c2:=Rt.again (fR.1 p2).1 hg hp
   refine ⟨_,_,_,_,c2.c0,c2.c1,c2.c2,c2.c3,H2.aK (j9 t z w2 (by omega) ((fR.1 p2).2.mem mt) (Zb w2 (H2.getD 1))) ?_⟩
   rintro _ w3 rfl H3
   refine ⟨_,rfl,aJ (λh0=>H3.aL λw4 H4=>⟨⟨z,rfl,?_,Zb w4 (H4.getD 1),λb hb=>.inl (hzf b hb)⟩,H4.fr⟩) (λh0=>?_)⟩
   .exact (ej1 t mt (s8.1 h0)).symm
   refine ⟨by omega,by omega,Rt.at' (fR.1 (show (eJ sf fl).P w3 from H3.getD 2)).1 hg λp hp _=>H3.aL λw5 H5=>?_⟩
   have p5:(eJ sf fl).P w5:=H5.getD 2
   have c5:=Rt.again (fR.1 p5).1 hg hp
   refine ⟨_,_,_,_,c5.c0,c5.c1,c5.c2,c5.c3,H5.aK (j9 t u w5 (by omega) ((fR.1 p5).2.mem mt) (huP w5 (H5.getD 1))) ?_⟩
   rintro _ w6 rfl H6
   have Qp:∀t'∈fl.take (i+1),t'.rx≠z.rx:=λt' nS=>by
    rw [PI] at nS
    rcases fS.1 nS with nS|nS
    .exact hz t' nS
    .simp at nS;subst nS;exact λe=>h0 (s8.2 e)
   refine ⟨_,rfl,aJ (λh1=>?_) (λh1=>aQ (beq_iff_eq.2 hk) ?_)⟩
   .show enthymemeref04_normal.y6 _ _ _ _ _ _ _ _ _ _ _ _ _ _ _ _ _ _ _ _ _
    rw [aX _ (by omega)]
    refine qz (i+1) so ol w6 (by omega) Qp ?_ hm (by omega) H6
    rw [PI,yJ,List.filter_append,ho]
    have e0:([t].map Rt.rx).filter (λt=>!(cQ t u.rx==0))=[]:=by
     show [t.rx].filter _=[]
     rw [List.filter_cons_of_neg (by rw [h1];simp)]
     rfl
    rw [e0,List.append_nil]
   .have ef:((fl.take (i+1)).map Rt.rx).filter (λt=>!(cQ t u.rx==0))=(((fl.take i).map Rt.rx).filter λt=>!(cQ t u.rx==0))++[t.rx]:=by
     rw [PI,yJ,List.filter_append]
     congr 1
     show [t.rx].filter _=[t.rx]
     rw [List.filter_cons_of_pos (by simpa using h1)]
     rfl
    refine ⟨by omega,by omega,Rt.at' (fR.1 (show (eJ sf fl).P w6 from H6.getD 2)).1 hg λp hp c=>⟨_,_,_,_,c.c0,c.c1,c.c2,c.c3,?_⟩⟩
    have vb:=Rt.b0 (H6.get 3:aO _ _ _ _ _).iD
    have lol:=Rt.fG ol
    refine H6.uj 3 oA (xs:=ol.flatMap Rt.c) rfl (λs' w7 H7=>?_) (by omega)
    show enthymemeref04_normal.y6 _ _ _ _ _ _ _ _ _ _ _ _ _ _ _ _ _ _ _ _ _
    rw [aX _ (by omega)]
    refine qz (i+1) s' (ol++[t]) w7 (by omega) Qp ?_ (λt' nS=>?_) (by rw [uf];show _+(t.sz+0)<=_;omega) ?_
    .rw [ef,xI,if_pos hk,yJ,ho];rfl
    .rcases fS.1 nS with nS|nS
     .exact hm t' nS
     .simp at nS;subst nS;exact mt
    .rw [mV];exact H7
 have X5:x.k≠3->∀(d i:Nat) (so:Sl) (ol:List Rt) (w1:World),i+d=fl.length->(∀t∈fl.take i,t.rx≠z.rx)->ol.map Rt.rx=qC x.k [] (((fl.take i).map Rt.rx).filter λt=>!(cQ t u.rx==0))->(∀t∈ol,t∈fl)->Rt.fQ ol<=Rt.fQ (fl.take i)->(∀b∈(eJ so ol).fp,w.heap.size<=b\/b∈x.fp)->
   LH F0 w w1 [.g b4,.g b8,.g b9] [.tree x,.tree ev,.tree (eJ sf fl),.tree (eJ so ol)]->enthymemeref04_normal.y6 x.k b4 0 0 0 ⟨none,0,0⟩ sf b8 u.k u.lo.toNat u.hi.toNat u.s b9 z.k z.lo.toNat z.hi.toNat z.s so (i:Int) w1 R:=by
  intro hk d
  induction d with
  |zero=>
   intro i so ol w1 hi hz ho hm hs Y7 H
   rw [rA (by omega)] at hz ho
   refine enthymemeref04_normal.mK _ _ _ _ _ _ _ _ _ _ _ _ _ _ _ _ _ _ _ _ _ (aI (decide_eq_false (by omega)) ?_)
   exact fin ol so _ _ w1 hz ho hm H (by simp) (λw' H'=>⟨(fR.1 (show (eJ so ol).P w' from H'.getD 3)).1,λb hb=>Y7 b (pg.2 (.inl hb))⟩)
  |succ d qz=>
   intro i so ol w1 hi hz ho hm hs Y7 H
   have hg:fl[i]? =some fl[i]:=g8 (by omega)
   generalize fl[i]'(by omega)=t at hg
   have mt:=cR hg
   have Tm:=Rt.dQ mt
   have PI:fl.take (i+1)=fl.take i++[t]:=by rw [GN,hg];rfl
   have szk:Rt.fQ (fl.take (i+1))=Rt.fQ (fl.take i)+t.sz:=by rw [PI,uf];rfl
   have szl:=qP fl (i+1)
   refine enthymemeref04_normal.mK _ _ _ _ _ _ _ _ _ _ _ _ _ _ _ _ _ _ _ _ _ (aQ (decide_eq_true (by omega)) ⟨by omega,by omega,Rt.at' (fR.1 (show (eJ sf fl).P w1 from H.getD 2)).1 hg λp hp _=>H.aL λw2 H2=>?_⟩)
   have p2:(eJ sf fl).P w2:=H2.getD 2
   have c2:=Rt.again (fR.1 p2).1 hg hp
   refine ⟨_,_,_,_,c2.c0,c2.c1,c2.c2,c2.c3,H2.aK (j9 t z w2 (by omega) ((fR.1 p2).2.mem mt) (Zb w2 (H2.getD 1))) ?_⟩
   rintro _ w3 rfl H3
   refine ⟨_,rfl,aJ (λh0=>H3.aL λw4 H4=>⟨⟨z,rfl,?_,Zb w4 (H4.getD 1),λb hb=>.inl (hzf b hb)⟩,H4.fr⟩) (λh0=>?_)⟩
   .exact (ej1 t mt (s8.1 h0)).symm
   refine ⟨by omega,by omega,Rt.at' (fR.1 (show (eJ sf fl).P w3 from H3.getD 2)).1 hg λp hp _=>H3.aL λw5 H5=>?_⟩
   have p5:(eJ sf fl).P w5:=H5.getD 2
   have c5:=Rt.again (fR.1 p5).1 hg hp
   refine ⟨_,_,_,_,c5.c0,c5.c1,c5.c2,c5.c3,H5.aK (j9 t u w5 (by omega) ((fR.1 p5).2.mem mt) (huP w5 (H5.getD 1))) ?_⟩
   rintro _ w6 rfl H6
   have Qp:∀t'∈fl.take (i+1),t'.rx≠z.rx:=λt' nS=>by
    rw [PI] at nS
    rcases fS.1 nS with nS|nS
    .exact hz t' nS
    .simp at nS;subst nS;exact λe=>h0 (s8.2 e)
   refine ⟨_,rfl,aJ (λh1=>?_) (λh1=>aI (by simpa using hk) ?_)⟩
   .show enthymemeref04_normal.y6 _ _ _ _ _ _ _ _ _ _ _ _ _ _ _ _ _ _ _ _ _
    rw [aX _ (by omega)]
    refine qz (i+1) so ol w6 (by omega) Qp ?_ hm (by omega) Y7 H6
    rw [PI,yJ,List.filter_append,ho]
    have e0:([t].map Rt.rx).filter (λt=>!(cQ t u.rx==0))=[]:=by
     show [t.rx].filter _=[]
     rw [List.filter_cons_of_neg (by rw [h1];simp)]
     rfl
    rw [e0,List.append_nil]
   .have ef:((fl.take (i+1)).map Rt.rx).filter (λt=>!(cQ t u.rx==0))=(((fl.take i).map Rt.rx).filter λt=>!(cQ t u.rx==0))++[t.rx]:=by
     rw [PI,yJ,List.filter_append]
     congr 1
     show [t.rx].filter _=[t.rx]
     rw [List.filter_cons_of_pos (by simpa using h1)]
     rfl
    refine ⟨by omega,by omega,Rt.at' (fR.1 (show (eJ sf fl).P w6 from H6.getD 2)).1 hg λp hp c=>⟨_,_,_,_,c.c0,c.c1,c.c2,c.c3,?_⟩⟩
    refine nN ((WS so ol t w6 (by omega) (by omega) (H6.getD 3) ((fR.1 (show (eJ sf fl).P w6 from H6.getD 2)).2.mem mt)).mono ?_)
    rintro _ w7 ⟨⟨s',rfl,pl',nb'⟩,f7⟩
    refine ⟨f7,?_⟩
    have nb2:∀b∈(eJ s' (qD t ol)).fp,w.heap.size<=b\/b∈x.fp:=λb hb=>by
     rcases nb' b hb with hb|hb
     .exact .inl (Nat.le_trans H6.fr.size hb)
     .rcases fS.1 hb with hb|hb
      .exact Y7 b hb
      .exact .inr (ru.fp t mt b hb)
    have H8:LH F0 w w7 [.g b4,.g b8,.g b9] [.tree x,.tree ev,.tree (eJ sf fl),.tree (eJ so ol),.tree (eJ s' (qD t ol))]:=H6.nf _ f7 pl' λb hb=>by
     rcases nb' b (aH.1 hb) with hb|hb
     .exact .inl hb
     .rcases fS.1 hb with hb|hb
      .exact .inr (.inr ⟨_,cR (i:=3) rfl,aH.2 hb⟩)
      .exact .inr (.inr ⟨_,cR (i:=0) rfl,aH.2 (ru.fp t mt b hb)⟩)
    refine ⟨s',rfl,?_⟩
    show enthymemeref04_normal.y6 _ _ _ _ _ _ _ _ _ _ _ _ _ _ _ _ _ _ _ _ _
    rw [aX _ (by omega)]
    refine qz (i+1) s' (qD t ol) w7 (by omega) Qp ?_ (λt' nS=>?_) (by have:=FK t ol;omega) nb2 (H8.forget _ (by simp))
    .rw [ef,xI,if_neg hk,N7,ho]
    .rcases wB nS with rfl|nS
     .exact mt
     .exact hm t' nS
 by_cases hk:x.k=3
 .exact X4 hk fl.length 0 ⟨none,0,0⟩ [] w1 (by omega) (by simp) (by simp [qC]) (by simp) (by simp [Rt.fQ]) (H.n7 aA 4)
 .refine X5 hk fl.length 0 ⟨none,0,0⟩ [] w1 (by omega) (by simp) (by simp [qC]) (by simp) (by simp [Rt.fQ]) (λb hb=>?_) (H.nf (.tree (eJ ⟨none,0,0⟩ [])) (Fr.refl _ _) (fR.2 ⟨jU.nil 4 w1,by unfold Rt.Ps;trivial⟩) λb hb=>?_)
  .rcases pg.1 hb with hb|hb
   .simp [Rt.row,En.iD] at hb
   .unfold Rt.gV at hb;cases hb
  .rcases pg.1 (aH.1 hb) with hb|hb
   .simp [Rt.row,En.iD] at hb
   .unfold Rt.gV at hb;cases hb
end
theorem Kk (x:Rt) (hk:3<=x.k/\x.k<=7) (hx:x.sz<=10000) (dP:nQ (.mk x.k 0 0 (Rt.bV x.l))=true) (XK:∀c∈x.l,0<=c.k) (w:World) (px:x.P w):
  Calls Tryz.prog jL #[.i x.k,x.s.v] w λr w'=>pM x.fp w (nE (.mk x.k 0 0 (Rt.bV x.l))) r w'/\bG w w':=by
 have nr:=Rt.b0 px.parts.1
 have aaE:=Rt.gE x
 have zJ:=Rt.fG x.l
 refine enthymemeref04_normal.cU _ _ w _ ((zV px).bF λb4 w1 H1=>H1.ri (CQ w1) ?_)
 rintro _ w2 ⟨ev,rfl,vt,pev,X7⟩ H2 F2
 have H3:LH F0 w w2 [.g b4] [.tree x,.tree ev]:=F2.rd (.tree ev) pev λb hb=>X7 b (aH.1 hb)
 have aaJ:∀b∈ev.fp,w.heap.size<=b:=λb hb=>Nat.le_trans H1.fr.size (X7 b hb)
 have pc:∀{w':World} {c:Rt},x.P w'->x.l[0]? =some c->c.P w':=λh hg=>h.parts.2.mem (cR hg)
 have fc:∀{c:Rt},x.l[0]? =some c->∀b∈c.fp,b∈x.fp:=λhg b hb=>Rt.eO.2 (.inr (Rt.bC.2 ⟨_,cR hg,hb⟩))
 refine ⟨_,_,_,ev.s,rfl,H3.bF λb5 w3 H4=>aJ (λh6=>?_) (λh6=>aJ (λh7=>?_) (λh7=>H4.aL λw4 H5=>?_))⟩
 .
  cases hl:x.l with
  |nil=>rw [hl,h6] at dP;simp [nQ,Rt.bV] at dP
  |cons c l'=>
   have hg:x.l[0]? =some c:=by rw [hl];rfl
   have n2:0<x.s.n:=by rw [hl] at nr;simp at nr;omega
   have e1:Rt.bV (c::l')=c.rx::Rt.bV l':=rfl
   have ef:nE (.mk x.k 0 0 (Rt.bV (c::l')))=FB 0 0 (c.rx::Rt.bV l'):=by rw [h6];rfl
   rw [ef]
   refine ⟨by omega,by omega,Rt.at' (show x.P w3 from H4.getD 0).parts.1 hg λp hp _=>H4.aL λw5 H5=>?_⟩
   have Wq:x.P w5:=H5.getD 0
   have cc:=Rt.again Wq.parts.1 hg hp
   refine ⟨c.k,cc.c0,aJ (λY0=>⟨by omega,by omega,Rt.at' Wq.parts.1 hg λp hp cc=>⟨c.s,cc.c3,?_⟩⟩) (λY0=>H5.aL λw6 H6=>⟨⟨.mk 6 0 0 x.s x.l,rfl,?_,?_,λb hb=>.inr ?_⟩,H6.fr⟩)⟩
   .cases Jf:c.l with
    |nil=>
     rw [hl,e1] at dP
     have e2:c.rx.l.isEmpty=true:=by rw [Oi,Jf];rfl
     simp [nQ,h6,xO,Y0,e2] at dP
    |cons d l2=>
     have OY:c.l[0]? =some d:=by rw [Jf];rfl
     refine jE (pc Wq hg) rfl OY (H5.aL λw6 H6=>⟨⟨d,rfl,?_,(pc (H6.getD 0) hg).parts.2.mem (cR OY),λb hb=>.inr (fc hg b (Rt.eO.2 (.inr (Rt.bC.2 ⟨d,cR OY,hb⟩))))⟩,H6.fr⟩)
     show d.rx=if c.rx.k=6 then _ else _
     rw [if_pos (by rw [xO,Y0]),Oi,Jf];rfl
   .show Rx.mk 6 0 0 (Rt.bV x.l)=if c.rx.k=6 then _ else _
    rw [if_neg (by rw [xO];exact Y0),hl,e1]
   .unfold Rt.P
    exact (show x.P w6 from H6.getD 0).parts
   .unfold Rt.fp at hb
    exact Rt.eO.2 (fS.1 hb)
 .
  cases hl:x.l with
  |nil=>rw [hl,h7] at dP;simp [nQ,Rt.bV] at dP
  |cons c l'=>
   have hg:x.l[0]? =some c:=by rw [hl];rfl
   have n2:0<x.s.n:=by rw [hl] at nr;simp at nr;omega
   have e1:Rt.bV (c::l')=c.rx::Rt.bV l':=rfl
   have ef:nE (.mk x.k 0 0 (Rt.bV (c::l')))=rD 0 0 (c.rx::Rt.bV l'):=by rw [h7];rfl
   rw [ef]
   have est:rD 0 0 (c.rx::Rt.bV l')=if c.k=0\/c.k=1 then qU else if c.k=7\/cQ c.rx fL=0 then c.rx else .mk 7 0 0 (c.rx::Rt.bV l'):=by
    unfold rD
    simp only [xO]
   have szc:c.sz<=1000000:=by have:=Rt.dQ (cR hg);omega
   have s0:∀(w6:World),¬(c.k=0\/c.k=1)->(c.k=7\/cQ c.rx fL=0)->LH F0 w w6 [.g b4,.g b5] [.tree x,.tree ev]->enthymemeref04_normal.dV x.s b4 0 0 0 ⟨none,0,0⟩ w6 λr w'=>pM x.fp w (rD 0 0 (c.rx::Rt.bV l')) r w'/\bG w w':=by
    intro w6 h1 h2 H6
    refine ⟨by omega,by omega,Rt.at' (show x.P w6 from H6.getD 0).parts.1 hg λp hp cc=>⟨_,_,_,_,cc.c0,cc.c1,cc.c2,cc.c3,(H6.take 1).aL λw7 H7=>⟨⟨c,rfl,?_,pc (H7.getD 0) hg,λb hb=>.inr (fc hg b hb)⟩,H7.fr⟩⟩⟩
    rw [est,if_neg h1,if_pos h2]
   refine ⟨by omega,by omega,Rt.at' (show x.P w3 from H4.getD 0).parts.1 hg λp hp _=>H4.aL λw5 H5=>?_⟩
   have Wq:x.P w5:=H5.getD 0
   have cc:=Rt.again Wq.parts.1 hg hp
   have yV:0<=c.k:=XK c (cR hg)
   refine ⟨c.k,cc.c0,aN (λh2=>H5.aL λw6 H6=>⟨⟨gR,rfl,?_,yR w6,λb hb=>(vT hb).elim⟩,H6.fr⟩) (λh2=>?_)⟩
   .rw [est,if_pos (by omega)];rfl
   refine ⟨by omega,by omega,Rt.at' Wq.parts.1 hg λp hp _=>H5.aL λw6 H6=>?_⟩
   have px6:x.P w6:=H6.getD 0
   have cc:=Rt.again px6.parts.1 hg hp
   refine ⟨c.k,cc.c0,aJ (λhc7=>s0 w6 (by omega) (.inl hc7) H6) (λhc7=>⟨by omega,by omega,Rt.at' px6.parts.1 hg λp hp cc=>⟨_,_,_,_,cc.c0,cc.c1,cc.c2,cc.c3,H6.aK (j9 c ev w6 szc (pc px6 hg) (H6.getD 1)) ?_⟩⟩)⟩
   rintro _ w7 rfl H7
   rw [vt]
   refine ⟨_,rfl,aJ (λh0=>s0 w7 (by omega) (.inr h0) H7) (λh0=>H7.aL λw8 H8=>⟨⟨.mk 7 0 0 x.s x.l,rfl,?_,?_,λb hb=>.inr ?_⟩,H8.fr⟩)⟩
   .show Rx.mk 7 0 0 (Rt.bV x.l)=_
    rw [est,if_neg (by omega),if_neg (λh=>h.elim hc7 h0),hl,e1]
   .unfold Rt.P
    exact (show x.P w8 from H8.getD 0).parts
   .unfold Rt.fp at hb
    exact Rt.eO.2 (fS.1 hb)
 .
  have aae:x.k=3\/x.k=4\/x.k=5:=by omega
  obtain ⟨j,u,z,ew,hj,gu,gz,hu,Zc,huz,Jg⟩:=aa0 x ev aae vt
  have loop:∀(d i:Nat) (acc:List Rt) (sl:Sl) (w1:World),i+d=x.l.length->acc=(x.l.take i).flatMap (iR x)->LH F0 w w1 [.g b4,.g b5,.row aA 4 sl (acc.flatMap Rt.c)] [.tree x,.tree ev]->
    enthymemeref04_normal.mD x.k x.s b4 0 0 0 ⟨none,0,0⟩ b5 ev.k ev.lo.toNat ev.hi.toNat ev.s sl (i:Int) w1 λr w'=>pM x.fp w (nE (.mk x.k 0 0 (Rt.bV x.l))) r w'/\bG w w':=by
   intro d
   induction d with
   |zero=>
    intro i acc sl w1 hi ha H
    rw [rA (by omega)] at ha
    subst ha
    have E5:Sub x (x.l.flatMap (iR x)):=Sub.flat λ_ h=>h
    have H':=(H.nf (.trees (x.l.flatMap (iR x))) (Fr.refl _ _) (E5.Ps (H.getD 0)) (λb hb=>.inr (.inr ⟨_,cR (i:=0) rfl,aH.2 (E5.gV (aH.1 hb))⟩))).Iq 2 2 0 0 0
    have H':LH F0 w w1 [.g b4,.g b5] [.tree x,.tree ev,.tree (eJ sl (x.l.flatMap (iR x)))]:=H'.forget _ (by simp)
    refine enthymemeref04_normal.dM _ _ _ _ _ _ _ _ _ _ _ _ _ _ _ _ (aI (decide_eq_false (by omega)) ?_)
    refine H'.iQ (n:=3) (sz:=4) (cs:=[gR,m8,ev].flatMap Rt.c) rfl (by decide) λw2 H2=>?_
    rw [ew]
    refine ⟨by omega,by omega,Rt.at' (s:=⟨some (bD w1.heap.size),3,3⟩) (l:=[gR,m8,ev]) (H2.get 2:aO _ _ _ _ _).iD gu λp hp c=>⟨_,_,_,_,c.c0,c.c1,c.c2,c.c3,H2.bF λb8 w3 H3=>H3.aL λw4 H4=>H4.iQ (n:=3) (sz:=4) (cs:=[m8,ev,m8].flatMap Rt.c) rfl (by decide) λw5 H5=>⟨by omega,by omega,Rt.at' (s:=⟨some (bD w4.heap.size),3,3⟩) (l:=[m8,ev,m8]) (H5.get 4:aO _ _ _ _ _).iD gz λp hp c=>⟨_,_,_,_,c.c0,c.c1,c.c2,c.c3,H5.bF λb9 w6 H6=>H6.aL λw7 H7=>?_⟩⟩⟩⟩
    have H8:=((H7.freeze 1 (.g b5) rfl (H7.get 1) λb hb=>hb).freeze 1 _ rfl (H7.get 2) λb hb=>hb).freeze 2 _ rfl (H7.get 4) λb hb=>hb
    exact Q9 hx vt aaJ hu Zc huz Jg (H8.forget _ (by simp))
   |succ d qz=>
    intro i acc sl w1 hi ha H
    have hg:x.l[i]? =some (x.l[i]'(by omega)):=g8 (by omega)
    generalize x.l[i]'(by omega)=a at hg
    have hm:=cR hg
    have K7:x.P w1:=H.getD 0
    have DN:=Rt.dQ hm
    have mH:Rt.fQ acc<=Rt.fQ x.l:=by
     have h1:=rF x (x.l.take i)
     have h2:=qP x.l i
     rw [ha];omega
    have hnx:acc++iR x a=(x.l.take (i+1)).flatMap (iR x):=by rw [GN,hg,r8,ha];simp
    have vb:=Rt.b0 (H.get 2:aO _ _ _ _ _).iD
    have Jh:=Rt.fG acc
    have tail:∀(s':Sl) (w':World),LH F0 w w' [.g b4,.g b5,.row aA 4 s' ((acc++iR x a).flatMap Rt.c)] [.tree x,.tree ev]->enthymemeref04_normal.fB x.k x.s b4 0 0 0 ⟨none,0,0⟩ b5 ev.k ev.lo.toNat ev.hi.toNat ev.s s' (i:Int) w' λr w'=>pM x.fp w (nE (.mk x.k 0 0 (Rt.bV x.l))) r w'/\bG w w':=by
     intro s' w' H'
     show enthymemeref04_normal.mD _ _ _ _ _ _ _ _ _ _ _ _ _ _ _ _
     rw [aX _ (by omega)]
     exact qz (i+1) _ s' w' (by omega) hnx H'
    refine enthymemeref04_normal.dM _ _ _ _ _ _ _ _ _ _ _ _ _ _ _ _ (aQ (decide_eq_true (by omega)) ⟨by omega,by omega,Rt.at' K7.parts.1 hg λp hp c=>⟨a.k,c.c0,aJ (λhk=>?_) (λhk=>?_)⟩⟩)
    .have pa:a.P w1:=K7.parts.2.mem hm
     have na:=Rt.b0 pa.parts.1
     have Jh:=Rt.fG a.l
     have Ba:=Rt.gE a
     refine ⟨by omega,by omega,Rt.at' K7.parts.1 hg λp hp c=>⟨a.s,c.c3,?_⟩⟩
     refine H.Kc 2 oA (xs:=acc.flatMap Rt.c) (src:=a.s) (news:=a.l.flatMap Rt.c) rfl pa.parts.1 (BC _) (by omega) (λs' w4 H4=>?_)
     refine tail s' w4 ?_
     have e:iR x a=a.l:=if_pos hk
     rw [e,r8]
     exact H4
    .refine ⟨by omega,by omega,Rt.at' K7.parts.1 hg λp hp c=>⟨_,_,_,_,c.c0,c.c1,c.c2,c.c3,?_⟩⟩
     refine H.uj 2 oA (xs:=acc.flatMap Rt.c) rfl (λs' w4 H4=>?_) (by omega)
     refine tail s' w4 ?_
     have e:iR x a=[a]:=if_neg hk
     rw [e,mV]
     exact H4
  exact loop x.l.length 0 [] ⟨none,0,0⟩ w4 (by omega) rfl (H5.n7 aA 4)
def uX (k:Int):Rx:=if k=3 then qU else if k=4 then xF else fL
def zX (k:Int):Rx:=if k=4 then fL else xF
mutual
def NF:Rx->Prop
 |.mk k lo hi l=>OV l/\(k≠2->lo=0/\hi=0)/\(((k=0\/k=1)/\l=[])\/(k=2/\l=[]/\lo.toNat<=hi.toNat)\/
   ((k=3\/k=4\/k=5)/\2<=l.length/\(k≠3->GF l)/\∀t∈l,t.k≠k/\t≠uX k/\t≠zX k)\/
   (k=6/\∃c,l=[c]/\c.k≠6)\/(k=7/\∃c,l=[c]/\c.k≠0/\c.k≠1/\c.k≠7/\c≠fL))
def OV:List Rx->Prop
 |[]=>True
 |a::l=>NF a/\OV l
end
theorem vB:∀{l:List Rx},OV l↔∀t∈l,NF t
 |[]=>by unfold OV;simp
 |a::l=>by unfold OV;rw [vB];simp
theorem Fu:NF xF:=by unfold xF NF OV;simp
theorem Aa:NF qU:=by unfold qU NF OV;simp
theorem Ft:NF fL:=by
 unfold fL NF OV OV
 refine ⟨⟨Fu,trivial⟩,by simp,.inr (.inr (.inr (.inl ⟨rfl,xF,rfl,by decide⟩)))⟩
theorem X9 (k:Int):NF (uX k):=by
 unfold uX
 split
 .exact Aa
 .split
  .exact Fu
  .exact Ft
theorem Ya (k:Int):NF (zX k):=by
 unfold zX
 split
 .exact Ft
 .exact Fu
theorem X8 {x:Rx} (h:NF x):∀t∈x.l,NF t:=by
 cases x
 unfold NF at h
 exact vB.1 h.1
theorem QM {x:Rx} {k:Int} (hk:k=3\/k=4\/k=5) (h:NF x) (hx:x.k=k):2<=x.l.length/\(k≠3->GF x.l)/\∀t∈x.l,t.k≠k/\t≠uX k/\t≠zX k:=by
 cases x with
 |mk k' lo hi l=>
  have hx:k'=k:=hx
  subst hx
  unfold NF at h
  obtain ⟨-,-,h|h|h|h|h⟩:=h
  .omega
  .omega
  .exact h.2
  .omega
  .omega
theorem Kx {k:Int} {l:List Rx} {u t:Rx}:t∈mm k l u↔(∃c∈l,if c.k=k then t∈c.l else t=c)/\t≠u:=by
 unfold mm
 rw [List.mem_filter,List.mem_flatMap,MP]
 refine and_congr ⟨λ⟨c,hc,h⟩=>⟨c,hc,?_⟩,λ⟨c,hc,h⟩=>⟨c,hc,?_⟩⟩ Iff.rfl
 .split at h
  .rename_i e;rw [if_pos e];exact h
  .rename_i e;rw [if_neg e];simpa using h
 .split at h
  .rename_i e;rw [if_pos e];exact h
  .rename_i e;rw [if_neg e];simpa using h
theorem PL {k:Int} (hk:k=3\/k=4\/k=5) {l:List Rx} (h:∀c∈l,NF c) {t:Rx} (ht:t∈mm k l (uX k)):NF t/\t.k≠k/\t≠uX k:=by
 obtain ⟨⟨c,hc,h1⟩,h2⟩:=Kx.1 ht
 split at h1
 .rename_i e
  exact ⟨X8 (h c hc) t h1,((QM hk (h c hc) e).2.2 t h1).1,h2⟩
 .rename_i e
  subst h1
  exact ⟨h t hc,e,h2⟩
def sD (k:Int) (l:List Rx):List Rx:=if k=3 then mm k l (uX k) else Lh (mm k l (uX k))
theorem Lc {k:Int} {l:List Rx} {t:Rx}:t∈sD k l↔t∈mm k l (uX k):=by
 unfold sD
 split
 .exact Iff.rfl
 .exact FU
theorem B4 (k:Int) (l:List Rx):((mm k l (uX k)).any λt=>cQ t (zX k)==0)=true↔zX k∈mm k l (uX k):=by
 rw [List.any_eq_true]
 constructor
 .rintro ⟨t,ht,h⟩
  rw [rL.1 h] at ht
  exact ht
 .exact λh=>⟨_,h,rL.2 rfl⟩
theorem Jo {k:Int} {l:List Rx} (h:zX k∈mm k l (uX k)):lG k l (uX k) (zX k)=zX k:=by
 unfold lG
 rw [if_pos ((B4 k l).2 h)]
theorem Jn {k:Int} {l:List Rx} (h:¬zX k∈mm k l (uX k)):lG k l (uX k) (zX k)=Kw k (uX k) (sD k l):=by
 unfold lG
 rw [if_neg (λh'=>h ((B4 k l).1 h'))]
 rfl
theorem Qu {k:Int} (hk:k=3\/k=4\/k=5) {l:List Rx} (h:∀c∈l,NF c):NF (lG k l (uX k) (zX k)):=by
 by_cases hz:zX k∈mm k l (uX k)
 .rw [Jo hz]
  exact Ya k
 .rw [Jn hz]
  have hm:∀t∈sD k l,NF t/\t.k≠k/\t≠uX k/\t≠zX k:=λt ht=>by
   have ht:=Lc.1 ht
   obtain ⟨h1,h2,h3⟩:=PL hk h ht
   exact ⟨h1,h2,h3,λe=>hz (e▸ht)⟩
  have Xx:k≠3->GF (sD k l):=λh3=>by
   unfold sD
   rw [if_neg h3]
   exact FT _
  generalize sD k l=m at hm Xx
  unfold Kw
  split
  .exact X9 k
  .exact (hm _ (by simp)).1
  .rename_i h0 h1
   unfold NF
   refine ⟨vB.2 λt ht=>(hm t ht).1,λ_=>⟨rfl,rfl⟩,.inr (.inr (.inl ⟨hk,?_,Xx,λt ht=>(hm t ht).2⟩))⟩
   cases m with
   |nil=>exact absurd rfl h0
   |cons a m=>
    cases m with
    |nil=>exact absurd rfl (h1 a)
    |cons b m=>simp
theorem uW {k:Int} (hk:k=3\/k=4\/k=5) (lo hi:UInt8) (l:List Rx):nE (.mk k lo hi l)=lG k l (uX k) (zX k):=by
 rcases hk with rfl|rfl|rfl<;>rfl
theorem Vh {c:Rx} (h:NF c):NF (FB 0 0 [c]):=by
 unfold FB
 simp only
 split
 .rename_i e
  split
  .exact Fu
  .rename_i d m hm
   exact X8 h d (by rw [hm];simp)
 .rename_i e
  unfold NF
  exact ⟨vB.2 λt ht=>by (simp at ht;subst ht;exact h),λ_=>⟨rfl,rfl⟩,.inr (.inr (.inr (.inl ⟨rfl,c,rfl,e⟩)))⟩
theorem Rr {c:Rx} (h:NF c):NF (rD 0 0 [c]):=by
 unfold rD
 simp only
 split
 .exact Aa
 .rename_i e
  split
  .exact h
  .rename_i e2
   unfold NF
   exact ⟨vB.2 λt ht=>by (simp at ht;subst ht;exact h),λ_=>⟨rfl,rfl⟩,.inr (.inr (.inr (.inr ⟨rfl,c,rfl,λh=>e (.inl h),λh=>e (.inr h),λh=>e2 (.inl h),λh=>e2 (.inr (s8.2 h))⟩)))⟩
theorem rR {k:Int} {lo hi:UInt8} {l:List Rx} (h:dY (.mk k lo hi l)=true):gH l=true/\(k≠2->lo=0/\hi=0)/\(((k=0\/k=1)/\l=[])\/(k=2/\l=[]/\lo.toNat<=hi.toNat)\/(k=3\/k=4\/k=5)\/((k=6\/k=7)/\∃c,l=[c])):=by
 unfold dY at h
 rw [Bool.and_eq_true] at h
 obtain ⟨h1,h2⟩:=h
 have sN:k≠2->lo=0/\hi=0:=λhk=>by
  have e:(k !=2)=true:=by simpa using hk
  rw [e,Bool.true_and,Bool.not_eq_true',Bool.or_eq_false_iff] at h1
  simpa using h1
 split at h2
 .rename_i hk
  have:l=[]:=by simpa using h2
  subst this
  exact ⟨rfl,sN,.inl ⟨hk,rfl⟩⟩
 .split at h2
  .rename_i hk
   simp only [Bool.and_eq_true,decide_eq_true_eq] at h2
   have:l=[]:=by simpa using h2.1
   subst this
   exact ⟨rfl,sN,.inr (.inl ⟨hk,rfl,h2.2⟩)⟩
  .split at h2
   .rename_i hk
    exact ⟨h2,sN,.inr (.inr (.inl hk))⟩
   .split at h2
    .rename_i hk
     simp only [Bool.and_eq_true] at h2
     exact ⟨h2.2,sN,.inr (.inr (.inr ⟨hk,List.length_eq_one_iff.1 (eq_of_beq h2.1)⟩))⟩
    .cases h2
theorem YX {k:Int} {lo hi:UInt8} {l:List Rx} (h1:gH l=true) (h2:k≠2->lo=0/\hi=0) (h3:((k=0\/k=1)/\l=[])\/(k=2/\l=[]/\lo.toNat<=hi.toNat)\/(k=3\/k=4\/k=5)\/((k=6\/k=7)/\∃c,l=[c])):dY (.mk k lo hi l)=true:=by
 unfold dY
 rw [Bool.and_eq_true]
 constructor
 .by_cases hk:k=2
  .subst hk;rfl
  .obtain ⟨rfl,rfl⟩:=h2 hk
   simp
 .rcases h3 with ⟨hk,rfl⟩|⟨rfl,rfl,hle⟩|hk|⟨hk,c,rfl⟩
  .rw [if_pos hk];rfl
  .rw [if_neg (by omega),if_pos rfl];simpa using hle
  .rw [if_neg (by omega),if_neg (by omega),if_pos hk];exact h1
  .rw [if_neg (by omega),if_neg (by omega),if_neg (by omega),if_pos hk];simpa using h1
theorem NS {lo hi:UInt8} (h:lo.toNat<=hi.toNat):NF (.mk 2 lo hi []):=by
 unfold NF OV
 exact ⟨trivial,λh=>absurd rfl h,.inr (.inl ⟨rfl,rfl,h⟩)⟩
mutual
theorem Jx:∀x:Rx,dY x=true->NF (gD x)
 |.mk k lo hi l,h=>by
  obtain ⟨h1,h2,h3⟩:=rR h
  have ih:=Ac l h1
  unfold gD
  rcases h3 with ⟨hk,rfl⟩|⟨rfl,rfl,hle⟩|hk|⟨hk,c,rfl⟩
  .obtain ⟨rfl,rfl⟩:=h2 (by omega)
   rcases hk with rfl|rfl
   .exact Fu
   .exact Aa
  .exact NS hle
  .rw [uW hk]
   exact Qu hk ih
  .obtain ⟨rfl,rfl⟩:=h2 (by omega)
   have hc:NF (gD c):=ih _ (by unfold gj;simp)
   rcases hk with rfl|rfl
   .exact Vh hc
   .exact Rr hc
theorem Ac:∀l:List Rx,gH l=true->∀t∈gj l,NF t
 |[],_=>λt ht=>by unfold gj at ht;cases ht
 |a::l,h=>λt ht=>by
  unfold gH at h
  rw [Bool.and_eq_true] at h
  unfold gj at ht
  rcases cS.1 ht with rfl|ht
  .exact Jx a h.1
  .exact Ac l h.2 t ht
end
section
variable {μ:Rx->Nat}
theorem Cc (p:Rx->Bool):∀l:List Rx,ms μ (l.filter p)<=ms μ l
 |[]=>Nat.le_refl _
 |a::l=>by
  have ih:=Cc p l
  rw [List.filter_cons]
  split
  .show μ a+_<=μ a+_;omega
  .show _<=μ a+_;omega
theorem zZ:∀{l:List Rx} {a:Rx},a∈l->μ a<=ms μ l
 |b::l,a,h=>by
  rcases cS.1 h with rfl|h
  .show μ a<=μ a+_;omega
  .have:=zZ h
   show μ a<=μ b+_;omega
theorem NO (h:∀x,1<=μ x):∀l:List Rx,l.length<=ms μ l
 |[]=>Nat.le_refl _
 |a::l=>by
  have:=NO h l
  have:=h a
  show l.length+1<=μ a+ms μ l
  omega
theorem Js:∀(l:List Rx) (p:Rx),ms μ (kT p l)<=ms μ l
 |[],p=>Nat.le_refl _
 |x::l,p=>by
  have:=Js l x
  unfold kT
  split
  .show _<=μ x+ms μ l;omega
  .show μ x+_<=μ x+ms μ l;omega
theorem Ve (l:List Rx):ms μ (Lh l)<=ms μ l:=by
 have h1:ms μ (zu (qO l))<=ms μ (qO l):=by
  cases qO l with
  |nil=>exact Nat.le_refl _
  |cons a m=>have:=Js (μ:=μ) m a;show μ a+_<=μ a+_;omega
 rw [<-QL (vl l)]
 exact h1
theorem Dt (h:∀x,ms μ x.l<=μ x) (k:Int):∀l:List Rx,ms μ (l.flatMap λc=>if c.k=k then c.l else [c])<=ms μ l
 |[]=>Nat.le_refl _
 |c::l=>by
  have ih:=Dt h k l
  have h1:=h c
  rw [List.flatMap_cons,NN]
  show _<=μ c+ms μ l
  split
  .omega
  .show (μ c+0)+_<=_;omega
theorem Jt (h:∀x,ms μ x.l<=μ x) (k:Int) (l:List Rx):ms μ (sD k l)<=ms μ l:=by
 have h1:ms μ (mm k l (uX k))<=ms μ l:=Nat.le_trans (Cc _ _) (Dt h k l)
 unfold sD
 split
 .exact h1
 .exact Nat.le_trans (Ve _) h1
end
theorem Ix:∀l:List Rx,Rx.fQ l=ms Rx.sz l
 |[]=>rfl
 |a::l=>by unfold Rx.fQ;rw [Ix l];rfl
theorem uF (k:Int) (lo hi:UInt8) (l:List Rx):(Rx.mk k lo hi l).sz=1+ms Rx.sz l:=by unfold Rx.sz;rw [Ix]
theorem Yw (x:Rx):ms Rx.sz x.l<=x.sz:=by cases x;rw [uF];simp only [Rx.l];omega
theorem Vc (x:Rx):ms qX x.l<=qX x:=by cases x;rw [yl];simp only [Rx.l];omega
theorem Vd (x:Rx):1<=qX x:=by cases x;rw [yl];omega
mutual
theorem SV:∀x:Rx,qX x<=x.sz
 |.mk k lo hi l=>by
  rw [yl,uF]
  have:=NM l
  omega
theorem NM:∀l:List Rx,ms qX l<=ms Rx.sz l
 |[]=>Nat.le_refl _
 |a::l=>by
  have h1:=SV a
  have h2:=NM l
  show qX a+ms qX l<=a.sz+ms Rx.sz l
  omega
end
theorem zP {k:Int} {l:List Rx} {P:Rx->Prop} (hz:P (zX k)) (hu:P (uX k)) (h1:∀a,a∈sD k l->P a) (h2:P (.mk k 0 0 (sD k l))):P (lG k l (uX k) (zX k)):=by
 by_cases h:zX k∈mm k l (uX k)
 .rw [Jo h];exact hz
 .rw [Jn h]
  generalize hm:sD k l=m at h1 h2
  unfold Kw
  split
  .exact hu
  .exact h1 _ (by simp)
  .exact h2
theorem TP (k:Int):(uX k).sz<=2/\(zX k).sz<=2/\qX (uX k)=1/\qX (zX k)=1:=by
 unfold uX zX
 refine ⟨?_,?_,?_,?_⟩
 .split
  .decide
  .split<;>decide
 .split<;>decide
 .split
  .decide
  .split<;>decide
 .split<;>decide
theorem Cd {k:Int} {c:Rx} (hk:k=6\/k=7) {P:Rx->Prop} (h0:P xF) (h1:P qU) (hc:P c) (hd:∀d∈c.l,P d) (h2:P (.mk k 0 0 [c])):P (nE (.mk k 0 0 [c])):=by
 rcases hk with rfl|rfl
 .show P (FB 0 0 [c])
  unfold FB
  simp only
  split
  .split
   .exact h0
   .rename_i d m hm
    exact hd d (by rw [hm];simp)
  .exact h2
 .show P (rD 0 0 [c])
  unfold rD
  simp only
  split
  .exact h1
  .split
   .exact hc
   .exact h2
mutual
theorem Du:∀x:Rx,dY x=true->(gD x).sz<=2 *x.sz
 |.mk k lo hi l,h=>by
  obtain ⟨h1,h2,h3⟩:=rR h
  have ih:=wu l h1
  have hx:=uF k lo hi l
  rw [hx]
  unfold gD
  rcases h3 with ⟨hk,rfl⟩|⟨rfl,rfl,hle⟩|hk|⟨hk,c,rfl⟩
  .obtain ⟨rfl,rfl⟩:=h2 (by omega)
   rcases hk with rfl|rfl<;>decide
  .show (Rx.mk 2 lo hi []).sz<=_
   rw [uF];simp only [ms];omega
  .rw [uW hk]
   have hr:=Jt (μ:=Rx.sz) Yw k (gj l)
   obtain ⟨hu,hz,-,-⟩:=TP k
   refine zP (P:=λy=>y.sz<=2 *(1+ms Rx.sz l)) (by omega) (by omega) (λa ha=>?_) ?_
   .have:=zZ (μ:=Rx.sz) ha
    omega
   .show (Rx.mk k 0 0 _).sz<=_
    rw [uF];omega
  .obtain ⟨rfl,rfl⟩:=h2 (by omega)
   have en:gj [c]=[gD c]:=rfl
   rw [en] at ih ⊢
   have ih:(gD c).sz+0<=2 *(c.sz+0):=ih
   show _<=2 *(1+(c.sz+0))
   refine Cd (P:=λy=>y.sz<=2 *(1+(c.sz+0))) hk (by show (1:Nat)<=_;omega) (by show (1:Nat)<=_;omega) (by omega) (λd hd=>?_) ?_
   .have:=zZ (μ:=Rx.sz) hd
    have:=Yw (gD c)
    omega
   .show (Rx.mk k 0 0 _).sz<=_
    rw [uF];simp only [ms];omega
theorem wu:∀l:List Rx,gH l=true->ms Rx.sz (gj l)<=2 *ms Rx.sz l
 |[],_=>Nat.le_refl _
 |a::l,h=>by
  unfold gH at h
  rw [Bool.and_eq_true] at h
  have h1:=Du a h.1
  have h2:=wu l h.2
  show (gD a).sz+ms Rx.sz (gj l)<=2 *(a.sz+ms Rx.sz l)
  omega
end
mutual
theorem QO:∀x:Rx,dY x=true->qX (gD x)<=qX x
 |.mk k lo hi l,h=>by
  obtain ⟨h1,h2,h3⟩:=rR h
  have ih:=Ab l h1
  have hx:=yl k lo hi l
  rw [hx]
  unfold gD
  rcases h3 with ⟨hk,rfl⟩|⟨rfl,rfl,hle⟩|hk|⟨hk,c,rfl⟩
  .obtain ⟨rfl,rfl⟩:=h2 (by omega)
   rcases hk with rfl|rfl<;>decide
  .show qX (Rx.mk 2 lo hi [])<=_
   rw [yl];simp only [ms];omega
  .rw [uW hk]
   have hr:=Jt (μ:=qX) Vc k (gj l)
   obtain ⟨-,-,hu,hz⟩:=TP k
   refine zP (P:=λy=>qX y<=max 1 (ms qX l)) (by omega) (by omega) (λa ha=>?_) ?_
   .have:=zZ (μ:=qX) ha
    omega
   .show qX (Rx.mk k 0 0 _)<=_
    rw [yl];omega
  .obtain ⟨rfl,rfl⟩:=h2 (by omega)
   have en:gj [c]=[gD c]:=rfl
   rw [en] at ih ⊢
   have ih:qX (gD c)+0<=qX c+0:=ih
   show _<=max 1 (qX c+0)
   refine Cd (P:=λy=>qX y<=max 1 (qX c+0)) hk (by show (1:Nat)<=_;omega) (by show (1:Nat)<=_;omega) (by omega) (λd hd=>?_) ?_
   .have:=zZ (μ:=qX) hd
    have:=Vc (gD c)
    omega
   .show qX (Rx.mk k 0 0 _)<=_
    rw [yl];simp only [ms];omega
theorem Ab:∀l:List Rx,gH l=true->ms qX (gj l)<=ms qX l
 |[],_=>Nat.le_refl _
 |a::l,h=>by
  unfold gH at h
  rw [Bool.and_eq_true] at h
  have h1:=QO a h.1
  have h2:=Ab l h.2
  show qX (gD a)+ms qX (gj l)<=qX a+ms qX l
  omega
end
theorem Ja {N:Nat} {k:Int} {lo hi:UInt8} {l:List Rx} (h:dY (.mk k lo hi l)=true) (hs:(Rx.mk k lo hi l).sz<=10000) (hf:Db N (.mk k lo hi l)):vc N (.mk k lo hi (gj l))=true:=by
 obtain ⟨h1,h2,h3⟩:=rR h
 have mH:=wu l h1
 have SC:=Ab l h1
 rw [uF] at hs
 unfold Db at hf
 unfold vc
 rw [Bool.and_eq_true,Bool.and_eq_true]
 refine ⟨⟨?_,decide_eq_true (by rw [uF];omega)⟩,?_⟩
 .unfold nQ
  rw [Bool.and_eq_true,Bool.and_eq_true]
  refine ⟨⟨decide_eq_true (by omega),decide_eq_true (by omega)⟩,?_⟩
  rcases h3 with ⟨hk,rfl⟩|⟨hk,rfl,hle⟩|hk|⟨hk,c,rfl⟩
  .show (k !=6&&k !=7)=true
   rcases hk with rfl|rfl<;>rfl
  .subst hk;rfl
  .cases gj l with
   |nil=>rcases hk with rfl|rfl|rfl<;>rfl
   |cons a m=>rcases hk with rfl|rfl|rfl<;>rfl
  .show (!(k==6&&(gD c).k==6&&(gD c).l.isEmpty))=true
   have hc:dY c=true:=by
    unfold gH at h1
    rw [Bool.and_eq_true] at h1
    exact h1.1
   have hn:=Jx c hc
   generalize gD c=y at hn
   cases y with
   |mk k' vu wV l'=>
    by_cases e:k'=6
    .unfold NF at hn
     obtain ⟨-,-,h|h|h|⟨_,d,hd,_⟩|h⟩:=hn
     .omega
     .omega
     .omega
     .rw [hd];simp [Rx.l]
     .omega
    .have:(Rx.k (.mk k' vu wV l')==6)=false:=by simpa [Rx.k] using e
     rw [this];simp
 .show decide (k=4\/k=5->Wp k (gj l)<=N)=true
  refine decide_eq_true λSk=>?_
  have h4:=NO Vd ((gj l).flatMap λc=>if c.k=k then c.l else [c])
  have h5:=Dt (μ:=qX) Vc k (gj l)
  have h6:=hf.2 Sk
  show ((gj l).flatMap λc=>if c.k=k then c.l else [c]).length<=N
  omega
mutual
theorem M4 {N:Nat}:∀x:Rx,dY x=true->x.sz<=10000->Db N x->EJ N x=true
 |.mk k lo hi l,h,hs,hf=>by
  obtain ⟨h1,-,-⟩:=rR h
  unfold EJ
  rw [Ja h hs hf,Bool.and_true]
  rw [uF] at hs
  unfold Db at hf
  exact I8 l h1 (by omega) hf.1
theorem I8 {N:Nat}:∀l:List Rx,gH l=true->ms Rx.sz l<=10000->zA N l->zB N l=true
 |[],_,_,_=>rfl
 |a::l,h,hs,hf=>by
  unfold gH at h
  rw [Bool.and_eq_true] at h
  unfold zA at hf
  have hs:a.sz+ms Rx.sz l<=10000:=hs
  unfold zB
  rw [M4 a h.1 (by omega) hf.1,I8 l h.2 (by omega) hf.2]
  rfl
end
end Go.Proofs.YtcifihepfadgfaaGreatDoor
namespace Go.Proofs.YtcifihepfadgfaaGreatDoor
open List renaming mem_append->fS,mem_cons->cS,mem_of_getElem?->cR,getElem?_eq_getElem->g8,getElem?_eq_some_iff->ov,mem_map->pX,length_take->Cg,flatMap_append->r8,drop_eq_getElem_cons->sC,take_add_one->GN,map_append->yJ,drop_of_length_le->sP,take_of_length_le->rA
open Go Go.W
theorem aaK {x:Rx} (h:NF x):0<=x.k:=by
 cases x
 unfold NF at h
 simp only [Rx.k]
 omega
theorem HX {x:Rx} (h:dY x=true) (hk:x.k<3):gD x=x:=by
 cases x with
 |mk k lo hi l=>
  have HH:k<3:=hk
  clear hk
  obtain ⟨h1,h2,h3⟩:=rR h
  rcases h3 with ⟨hk,rfl⟩|⟨rfl,rfl,hle⟩|hk|⟨hk,c,rfl⟩
  .rcases hk with rfl|rfl<;>rfl
  .rfl
  .omega
  .omega
abbrev ZQ (n:Nat):Prop:=∀(x:Rt) (w:World),x.sz<=n->dY x.rx=true->x.P w->Calls Tryz.prog dS #[x.v] w λr w'=>pM x.fp w (gD x.rx) r w'/\bG w w'
theorem BE:∀n:Nat,n<=1000->ZQ n
 |0,_=>λx w h _ _=>absurd h (by have:=Rt.pD x;omega)
 |n+1,hn=>λx w h OY px=>by
  have ih:=BE n (by omega)
  have hs:=Rt.gE x
  have hl:=Rt.fG x.l
  have nr:=Rt.b0 px.parts.1
  refine enthymemeref04_simple.cU _ _ _ _ w _ ((zV px).bF λb1 w1 H1=>H1.bF λb2 w2 H2=>aN (λhk=>H2.aL λw3 H3=>⟨⟨x,rfl,(HX OY (by rw [xO];exact hk)).symm,H3.getD 0,λb hb=>.inr hb⟩,H3.fr⟩) (λhk=>?_))
  have A6:=OY
  rw [Rt.dE] at A6
  obtain ⟨hgl,sN,aa2⟩:=rR A6
  obtain ⟨elo,ehi⟩:=sN (by omega)
  have enx:gD x.rx=nE (.mk x.k 0 0 (gj (Rt.bV x.l))):=by
   rw [Rt.dE,elo,ehi]
   unfold gD
   rfl
  have loop:∀(d i:Nat) (acc:List Rt) (sl:Sl) (w1:World),i+d=x.l.length->Rt.bV acc=gj (Rt.bV (x.l.take i))->(∀b∈Rt.gV acc,w.heap.size<=b\/b∈x.fp)->
    LH F0 w w1 [.g b1,.g b2,.row aA 4 sl (acc.flatMap Rt.c)] [.tree x,.trees acc]->
    enthymemeref04_simple.eE b1 x.k x.lo.toNat x.hi.toNat x.s b2 0 0 0 ⟨none,0,0⟩ sl (i:Int) w1 λr w'=>pM x.fp w (gD x.rx) r w'/\bG w w':=by
   intro d
   induction d with
   |zero=>
    intro i acc sl w1 hi he hf H
    rw [rA (by omega)] at he
    have qB:∀b∈(Rt.row sl acc).fp,w.heap.size<=b:=λb hb=>(H.new _ (cR (i:=2) rfl) b (fY hb)).resolve_right id
    have H':LH F0 w w1 [.g b1,.g b2] [.tree x,.trees acc,Rt.row sl acc,.tree (.mk x.k 0 0 sl acc)]:=H.Iq 2 1 x.k 0 0
    have Wa:Rx.mk x.k 0 0 (Rt.bV acc)=.mk x.k 0 0 (gj (Rt.bV x.l)):=by rw [he]
    have aaD:(Rx.mk x.k x.lo x.hi (Rt.bV x.l)).sz<=10000:=by
     rw [<-Rt.dE,Rt.ib];omega
    have dP:=Ja (N:=100000) A6 aaD (Hq _ (by
     have hle:∀y:Rx,qX y<=y.sz:=SV
     have:=hle (Rx.mk x.k x.lo x.hi (Rt.bV x.l))
     omega))
    unfold vc at dP
    rw [Bool.and_eq_true,Bool.and_eq_true] at dP
    have mH:(Rt.mk x.k 0 0 sl acc).sz<=10000:=by
     have h1:=Rt.ib (Rt.mk x.k 0 0 sl acc)
     have h2:=wu (Rt.bV x.l) hgl
     have h3:=Rt.Ao x.l
     rw [Ix] at h3
     rw [<-h1]
     show (Rx.mk x.k 0 0 (Rt.bV acc)).sz<=_
     rw [Wa,uF]
     omega
    have hfo:nQ (.mk x.k 0 0 (Rt.bV acc))=true:=by
     rw [Wa]
     have:=dP.1.1
     rw [elo,ehi] at this
     exact this
    refine enthymemeref04_simple.aY _ _ _ _ _ _ _ _ _ _ _ _ _ _ (aI (decide_eq_false (by omega)) ?_)
    refine H'.zp (Kk (.mk x.k 0 0 sl acc) ⟨by show 3<=x.k;omega,by show x.k<=7;omega⟩ mH hfo (λc hc=>?_) w1 (H'.getD 3)) (λb hb=>⟨_,cR (i:=3) rfl,aH.2 hb⟩) λt w2 ht H2 ft=>?_
    .have Wf:c.rx∈gj (Rt.bV x.l):=by
      rw [<-he,Rt.fC]
      exact pX.2 ⟨c,hc,rfl⟩
     have:=aaK (Ac (Rt.bV x.l) hgl _ Wf)
     rwa [xO] at this
    refine ⟨_,_,_,t.s,rfl,H2.aL λw3 H3=>⟨⟨t,rfl,?_,H3.getD 4,λb hb=>?_⟩,H3.fr⟩⟩
    .rw [ht,enx]
     show nE (Rx.mk x.k 0 0 (Rt.bV acc))=_
     rw [he]
    .rcases ft b hb with hb|hb
     .exact .inl (Nat.le_trans H.fr.size hb)
     .unfold Rt.fp at hb
      rcases fS.1 hb with hb|hb
      .exact .inl (qB b hb)
      .exact hf b hb
   |succ d qz=>
    intro i acc sl w1 hi he hf H
    have hg:x.l[i]? =some (x.l[i]'(by omega)):=g8 (by omega)
    generalize x.l[i]'(by omega)=a at hg
    have ma:=cR hg
    have DN:=Rt.dQ ma
    have ga:dY a.rx=true:=BS hgl (by rw [Rt.fC];exact pX.2 ⟨a,ma,rfl⟩)
    have Xg:∀b∈a.fp,b∈x.fp:=λb hb=>Rt.eO.2 (.inr (Rt.bC.2 ⟨a,ma,hb⟩))
    refine enthymemeref04_simple.aY _ _ _ _ _ _ _ _ _ _ _ _ _ _ (aQ (decide_eq_true (by omega)) (jE (show x.P w1 from H.getD 0) rfl hg ?_))
    refine H.zp (ih a w1 (by omega) ga ((show x.P w1 from H.getD 0).parts.2.mem ma)) (λb hb=>⟨_,cR (i:=0) rfl,aH.2 (Xg b hb)⟩) λt w2 ht H2 ft=>?_
    have vb:=Rt.b0 (H2.get 2:aO _ _ _ _ _).iD
    have aaI:acc.length=i:=by
     have h1:=congrArg List.length he
     rw [Rt.fC,nu,Rt.fC] at h1
     simp only [List.length_map,Cg] at h1
     omega
    refine ⟨_,_,_,t.s,rfl,H2.uj 2 oA (xs:=acc.flatMap Rt.c) rfl (λs' w3 H3=>?_) (by omega)⟩
    have H4:=(H3.Ar 1 2).take 3
    rw [aX _ (by omega)]
    refine qz (i+1) (acc++[t]) s' w3 (by omega) ?_ (rn hf λb hb=>?_) ?_
    .rw [kz,he,GN,hg,Option.toList_some,kz,nu,nu,yJ]
     show _++[t.rx]=_
     rw [ht];rfl
    .rcases ft b hb with hb|hb
     .exact .inl (Nat.le_trans H.fr.size hb)
     .exact .inr (Xg b hb)
    .rw [mV]
     exact H4.forget _ (by simp)
  exact loop x.l.length 0 [] ⟨none,0,0⟩ w2 (by omega) rfl (λb hb=>by unfold Rt.gV at hb;cases hb) (FA (H2.n7 aA 4))
theorem Em (x:Rt) (w:World) (h:x.sz<=1000) (hg:dY x.rx=true) (px:x.P w):Calls Tryz.prog dS #[x.v] w λr w'=>pM x.fp w (gD x.rx) r w'/\bG w w':=BE 1000 (Nat.le_refl _) x w h hg px
def Fw (x:Rx):Rx:=if nB x=0 then Fi (gD x) else xF
def QN (x:Rx):Int:=if nB x=0 then Fh (gD x) else nB x
def R1 (AT:List Nat) (w:World) (x:Rx) (c:Int) (r:Ending) (w':World):Prop:=∃t:Rt,r=.returned (.tuple #[t.v,.int .i64 c])/\t.rx=x/\t.P w'/\∀b∈t.fp,w.heap.size<=b\/b∈AT
theorem WN (x:Rt) (w:World) (h:x.sz<=1000000) (px:x.P w):Calls Tryz.prog lJ #[x.v] w λr w'=>R1 x.fp w (Fi x.rx) (Fh x.rx) r w'/\bG w w':=by
 refine enthymemeref04_few.cU _ _ _ _ w _ ((zV px).bF λb1 w1 H1=>H1.bF λb2 w2 H2=>H2.aK (CP x w2 h (H2.getD 0)) ?_)
 rintro _ w3 rfl H3
 refine ⟨_,rfl,aN (λhl=>H3.aL λw4 H4=>⟨⟨m8,?_,?_,wo _,λb hb=>(n8 hb).elim⟩,H4.fr⟩) (λhl=>H3.aL λw4 H4=>⟨⟨x,?_,?_,H4.getD 0,λb hb=>.inr hb⟩,H4.fr⟩)⟩
 .unfold Fh;rw [Rt.ib,if_pos (by omega)];rfl
 .unfold Fi;rw [Rt.ib,if_pos (by omega)];rfl
 .unfold Fh;rw [Rt.ib,if_neg (by omega)]
 .unfold Fi;rw [Rt.ib,if_neg (by omega)]
theorem Ek (x:Rt) (w:World) (h:x.sz<=1000000) (px:x.P w):Calls Tryz.prog jJ #[x.v] w λr w'=>R1 x.fp w (Fw x.rx) (QN x.rx) r w'/\bG w w':=by
 refine enthymemeref04_Normal.cU _ _ _ _ w _ ((zV px).bF λb1 w1 H1=>H1.bF λb2 w2 H2=>H2.aK (Hi x w2 h (H2.getD 0)) ?_)
 rintro _ w3 rfl H3
 unfold Fw QN
 refine ⟨_,rfl,dX (λie=>H3.aL λw4 H4=>⟨⟨m8,?_,?_,wo _,λb hb=>(n8 hb).elim⟩,H4.fr⟩) (λhe=>?_)⟩
 .rw [if_neg ie];rfl
 .rw [if_neg ie];rfl
 obtain ⟨hg,hs⟩:=vo he
 have XM:x.sz<=64:=by rw [<-Rt.ib];exact hs
 rw [if_pos he,if_pos he]
 refine H3.zp (Em x w3 (by omega) hg (H3.getD 0)) (λb hb=>⟨_,cR (i:=0) rfl,aH.2 hb⟩) λt w4 ht H4 ft=>?_
 have Tm:t.sz<=1000000:=by
  have:=Du _ hg
  rw [<-Rt.ib,ht];omega
 refine ⟨_,_,_,t.s,rfl,nN ((WN t w4 Tm (H4.getD 1)).mono ?_)⟩
 rintro _ w5 ⟨⟨u,rfl,hu,pu,fu⟩,f5⟩
 have H5:=H4.nf (.tree u) f5 pu λb hb=>(fu b (aH.1 hb)).imp id λhb=>.inr ⟨_,cR (i:=1) rfl,aH.2 hb⟩
 refine ⟨f5,_,_,_,u.s,_,rfl,H5.aL λw6 H6=>⟨⟨u,by rw [ht],by rw [hu,ht],H6.getD 2,λb hb=>?_⟩,H6.fr⟩⟩
 rcases fu b hb with hb|hb
 .exact .inl (Nat.le_trans H4.fr.size hb)
 .exact (ft b hb).imp (λhb=>Nat.le_trans H3.fr.size hb) id
theorem Mo {N:Nat} (hS:wX N) (hN:N+1<=1000000) (x:Rt) (w:World) (h:x.sz<=1000000) (hf:Db N x.rx) (px:x.P w):Calls Tryz.prog nV #[x.v] w λr w'=>R6 w (Fw x.rx) (QN x.rx) r w'/\bG w w':=by
 refine regex_Normal.cU _ _ _ _ w _ ((zV px).bF λb1 w1 H1=>H1.bF λb2 w2 H2=>H2.aK (IP x w2 h (H2.getD 0)) ?_)
 rintro _ w3 rfl H3
 unfold Fw QN
 refine ⟨_,rfl,dX (λie=>H3.aL λw4 H4=>⟨⟨m8,?_,?_,wo _,λb hb=>(n8 hb).elim⟩,H4.fr⟩) (λhe=>H3.aL λw4 H4=>H4.ri (Pw w4) ?_)⟩
 .rw [if_neg ie];rfl
 .rw [if_neg ie];rfl
 rintro _ w5 ⟨F,rfl,hF,pF,nF⟩ _ F5
 have H5:=F5.rd (.fm F) pF nF
 obtain ⟨hg,hs⟩:=vo he
 rw [if_pos he,if_pos he]
 refine ⟨_,rfl,H5.zp (Mw hS hN hF x w5 h (M4 _ hg (by omega) hf) (H5.getD 1) (H5.getD 0)) (λb hb=>?_) λt w6 ht H6 _=>?_⟩
 .rcases fS.1 hb with hb|hb
  .exact ⟨_,cR (i:=0) rfl,aH.2 hb⟩
  .exact ⟨_,cR (i:=1) rfl,hb⟩
 have Tm:t.sz<=1000000:=by
  have:=Du _ hg
  rw [<-Rt.ib,ht];omega
 refine ⟨_,_,_,t.s,rfl,H6.ri (Ki t w6 Tm (H6.getD 2)) ?_⟩
 rintro _ w7 ⟨u,rfl,hu,pu,fu⟩ _ F7
 have H7:=F7.rd (.tree u) pu λb hb=>fu b (aH.1 hb)
 exact ⟨_,_,_,u.s,_,rfl,H7.aL λw8 H8=>⟨⟨u,by rw [ht],by rw [hu,ht],H8.getD 3,λb hb=>Nat.le_trans H6.fr.size (fu b hb)⟩,H8.fr⟩⟩
abbrev BL:=List UInt8
def gQ (s:BL) (i:Nat):UInt8:=s.getD i 0
def O5 (c:UInt8):Bool:=decide (32<=c.toNat)&&decide (c.toNat<=126)&&!(c==39)&&!(c==92)
def uq (c:UInt8):Bool:=decide (97<=c.toNat)&&decide (c.toNat<=122)
def sJ (n:Nat):UInt8:=UInt8.ofNat (if n<10 then 48+n else 87+n)
def pW (c:UInt8):Int:=if 48<=c.toNat/\c.toNat<=57 then (c.toNat:Int) - 48 else if 97<=c.toNat/\c.toNat<=102 then (c.toNat:Int) - 87 else -1
def hC (s:BL) (at_:Nat):UInt8×Nat:=
 if (decide (at_+3<=s.length)&&gQ s at_==39&&gQ s (at_+2)==39&&O5 (gQ s (at_+1)))=true then (gQ s (at_+1),3)
 else if (decide (at_+4<=s.length)&&gQ s at_==92&&gQ s (at_+1)==120&&decide (0<=pW (gQ s (at_+2)))&&decide (0<=pW (gQ s (at_+3))))=true then (UInt8.ofNat ((16 *pW (gQ s (at_+2))+pW (gQ s (at_+3))).toNat),4)
 else (0,0)
structure j8 where
 tx:BL
 at_:Nat
 k:Nat
 lo:UInt8
 hi:UInt8
structure ZO where
 k:Nat
 lo:UInt8
 hi:UInt8
 n:Nat
def HW:ZO:=⟨0,0,0,0⟩
def iC (s:BL) (i:Nat):ZO:=
 let a:=hC s i
 if 0<a.2 then ⟨2,a.1,a.1,a.2⟩ else if gQ s i≠91 then HW else
 let b:=hC s (i+1)
 let dash:=i+1+b.2
 if b.2=0\/s.length<=dash\/gQ s dash≠45 then HW else
 let c:=hC s (dash+1)
 let fin:=dash+1+c.2
 if c.2=0\/s.length<=fin\/gQ s fin≠93\/c.1.toNat<b.1.toNat then HW else ⟨2,b.1,c.1,fin+1 - i⟩
def Bk (s:BL) (i:Nat):Nat->Nat->Nat
 |0,n=>n
 |f+1,n=>if (uq (gQ s i)&&decide (i+n<s.length)&&uq (gQ s (i+n)))=true then Bk s i f (n+1) else n
def DO (s:BL):Nat->Nat->List j8
 |0,_=>[⟨[],s.length,0,0,0⟩]
 |f+1,i=>if s.length<=i then [⟨[],s.length,0,0,0⟩] else if gQ s i=32 then DO s f (i+1) else
  let r:=iC s i
  let n:=if r.n=0 then Bk s i s.length 1 else r.n
  ⟨(s.take (i+n)).drop i,i,r.k,r.lo,r.hi⟩::DO s f (i+n)
def tP (s:BL):List j8:=DO s (s.length+1) 0
abbrev kI:=Nat×Bool
section
variable (l:List j8)
def jT (i:Nat):j8:=l.getD i ⟨[],0,0,0,0⟩
def oa (st:kI):BL:=bif st.2 then [32] else (jT l st.1).tx
def iE (s:BL) (st:kI):Bool×kI:=bif oa l st==s then (true,bif s.isEmpty then st else (st.1+1,st.2)) else (false,st)
def qL (s:BL) (st:kI):kI:=match iE l s st with
 |(true,st)=>st
 |(false,st)=>(st.1,true)
def yP (st:kI):Bool:=!st.2&&!(oa l st==[])&&!(oa l st==[41])&&!(oa l st==[44])&&!(oa l st==[124])&&!(oa l st==[38])
def uY (k:Int):List Rx->Rx
 |[a]=>a
 |m=>.mk k 0 0 m
def tR:Nat->BL
 |0=>[110,111,110,101]
 |1=>[101,109,112,116,121]
 |3=>[99,97,116]
 |4=>[97,108,116]
 |5=>[97,108,108]
 |_=>[]
def oH (st:kI):Nat->Nat->Option Nat
 |0,_=>none
 |f+1,k=>bif Nat.beq k 2||!(oa l st==tR k) then oH st f (k+1) else some k
mutual
def rm:Nat->kI->Option (Rx×kI)
 |0,_=>none
 |f+1,st=>match vP f st with
  |some (a,st)=>Bt f [a] st
  |none=>none
def Bt:Nat->List Rx->kI->Option (Rx×kI)
 |0,_,_=>none
 |f+1,acc,st=>match iE l [124] st with
  |(true,st)=>match vP f st with
   |some (a,st)=>Bt f (acc++[a]) st
   |none=>none
  |(false,st)=>some (uY 4 acc,st)
def vP:Nat->kI->Option (Rx×kI)
 |0,_=>none
 |f+1,st=>match DG f st with
  |some (a,st)=>Bu f [a] st
  |none=>none
def Bu:Nat->List Rx->kI->Option (Rx×kI)
 |0,_,_=>none
 |f+1,acc,st=>match iE l [38] st with
  |(true,st)=>match DG f st with
   |some (a,st)=>Bu f (acc++[a]) st
   |none=>none
  |(false,st)=>some (uY 5 acc,st)
def DG:Nat->kI->Option (Rx×kI)
 |0,_=>none
 |f+1,st=>match tq f st with
  |some (a,st)=>xB f [a] st
  |none=>none
def xB:Nat->List Rx->kI->Option (Rx×kI)
 |0,_,_=>none
 |f+1,acc,st=>bif yP l st then match tq f st with
   |some (a,st)=>xB f (acc++[a]) st
   |none=>none
  else some (uY 3 acc,st)
def tq:Nat->kI->Option (Rx×kI)
 |0,_=>none
 |f+1,st=>match iE l [33] st with
  |(true,st)=>match tq f st with
   |some (a,st)=>some (.mk 6 0 0 [a],st)
   |none=>none
  |(false,st)=>match za f st with
   |some (a,st)=>Aw f a st
   |none=>none
def Aw:Nat->Rx->kI->Option (Rx×kI)
 |0,_,_=>none
 |f+1,a,st=>match iE l [42] st with
  |(true,st)=>Aw f (.mk 7 0 0 [a]) st
  |(false,st)=>some (a,st)
def za:Nat->kI->Option (Rx×kI)
 |0,_=>none
 |f+1,st=>bif !st.2&&Nat.beq (jT l st.1).k 2 then some (.mk 2 (jT l st.1).lo (jT l st.1).hi [],(st.1+1,st.2)) else match oH l st 6 0 with
  |some k=>bif Nat.ble k 2 then some (.mk k 0 0 [],(st.1+1,st.2)) else match zS f (st.1+1,st.2) with
   |some (m,st)=>some (.mk k 0 0 m,st)
   |none=>none
  |none=>let st:=qL l [40] st
   bif st.2 then some (xF,st) else match rm f st with
   |some (a,st)=>some (a,qL l [41] st)
   |none=>none
def zS:Nat->kI->Option (List Rx×kI)
 |0,_=>none
 |f+1,st=>match iE l [41] (qL l [40] st) with
  |(nn,st)=>bif st.2||nn then some ([],st) else match rm f st with
   |some (a,st)=>Fo f [a] st
   |none=>none
def Fo:Nat->List Rx->kI->Option (List Rx×kI)
 |0,_,_=>none
 |f+1,acc,st=>match iE l [44] st with
  |(true,st)=>match rm f st with
   |some (a,st)=>Fo f (acc++[a]) st
   |none=>none
  |(false,st)=>some (acc,qL l [41] st)
end
end
def xJ (s:BL):Option (Rx×Nat×Int):=
 if 4096<s.length then some (xF,4096,4) else
 let l:=tP s
 match rm l 1000 (0,false) with
 |some (r,st)=>let st:=qL l [] st
  if st.2=true then some (xF,(jT l st.1).at_,2) else if 1000000<r.sz then none else if 64<r.sz then some (xF,s.length,4) else some (r,0,0)
 |none=>none
def dR (c:UInt8):BL:=if O5 c=true then [39,c,39] else [92,120,sJ (c.toNat / 16),sJ (c.toNat%16)]
def cL:Rx->Nat
 |.mk k _ _ l=>if k=6 then 3 else if k<3\/k=7\/l.length<2 then 4 else if k=3 then 2 else if k=4 then 0 else 1
def cP (lv:Nat) (a:Rx) (t:BL):BL:=if cL a<lv then 40::(t++[41]) else t
def z9 (k:Int):BL:=if k=3 then [99,97,116,40] else if k=4 then [97,108,116,40] else [97,108,108,40]
def lU (k:Int):BL:=if k=3 then [] else if k=4 then [124] else [38]
def qH (t:BL):UInt8:=t.getLastD 0
def mr (k:Int):BL->List BL->BL
 |out,[]=>out
 |out,t::ts=>mr k ((if k=3/\uq (qH out)=true/\uq (gQ t 0)=true then out++[32] else out)++lU k++t) ts
def uZ:List BL->BL
 |[]=>[]
 |t::_=>t
def Qr (k:Int):List BL->BL
 |[]=>[]
 |t::ts=>mr k t ts
mutual
def gU:Rx->BL
 |.mk k lo hi l=>if k=0 then [110,111,110,101] else if k=1 then [101,109,112,116,121] else
  if k=2 then (if lo=hi then dR lo else 91::(dR lo++45::(dR hi++[93]))) else
  if k=6 then 33::uZ (jr 3 l) else if k=7 then uZ (jr 4 l)++[42] else
  if l.length<2 then z9 k++(uZ (jr 0 l)++[41]) else
  Qr k (jr (cL (.mk k lo hi l)+1) l)
def jr (lv:Nat):List Rx->List BL
 |[]=>[]
 |a::l=>cP lv a (gU a)::jr lv l
end
mutual
def okW:Rx->Bool
 |.mk k _ _ l=>decide (0<=k)&&decide (k<=7)&&(decide (k<6)||decide (l.length=1))&&Bh l
def Bh:List Rx->Bool
 |[]=>true
 |a::l=>okW a&&Bh l
end
def CV (s:BL):Option Bool:=match xJ s with
 |some (r,_,e)=>if e=0 then (if QN r=0 then (if okW (Fw r)=true/\(Fw r).sz<=1000 then some (cP 0 (Fw r) (gU (Fw r))==s) else none) else some false) else some false
 |none=>none
def Zo (a b:UInt8):Rx:=.mk 2 a b []
def gg:Nat->Rx
 |0=>Zo 97 97
 |1=>Zo 98 98
 |2=>Zo 0 0
 |3=>Zo 97 98
 |4=>qU
 |_=>fL
def Hr (a b c:Rx):Nat->Rx
 |0=>a
 |1=>.mk 3 0 0 [a,b]
 |2=>.mk 4 0 0 [a,b,c]
 |3=>.mk 7 0 0 [a]
 |4=>.mk 3 0 0 [.mk 7 0 0 [a],b]
 |5=>.mk 6 0 0 [.mk 3 0 0 [a,b]]
 |6=>.mk 3 0 0 [b,.mk 7 0 0 [.mk 4 0 0 [a,c]]]
 |_=>.mk 5 0 0 [.mk 6 0 0 [b],.mk 3 0 0 [a,fL]]
def qQ (k:Nat):BL:=gU (gD (Hr (gg (k%6)) (gg (k / 6%6)) (gg (k / 36%6)) (k / 216%8)))
end Go.Proofs.YtcifihepfadgfaaGreatDoor
