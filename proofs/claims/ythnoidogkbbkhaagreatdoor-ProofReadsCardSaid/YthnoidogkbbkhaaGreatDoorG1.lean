import Derived.Test.YthnoidogkbbkhaaGreatDoorR1
import Derived.Test.YthnoidogkbbkhaaGreatDoorV
set_option linter.unusedVariables false
namespace Go.Proofs.YthnoidogkbbkhaaGreatDoor
open List renaming mem_append->qmA,mem_cons->qmC,mem_of_getElem?->qmG,getElem?_eq_getElem->qgE,getElem?_eq_some_iff->qgS,mem_map->qmM,length_take->qlT,flatMap_append->qfA,drop_eq_getElem_cons->qdG,take_add_one->qtO,map_append->qmpA,drop_of_length_le->qdO,take_of_length_le->qtOL
open Go Go.W
theorem optS {p:Addr} {K:Addr->Prop} (h:K p):optP (some p) K:=h
theorem cm_lt {x y:Int} (l:List Int) (h:x<y):orI (cmpI x y::l)=-1:=by unfold orI cmpI;simp [h]
theorem cm_gt {x y:Int} (l:List Int) (h:y<x):orI (cmpI x y::l)=1:=by
 unfold orI cmpI
 rw [if_neg (show ¬x<y by omega),if_pos h]
 simp
theorem cm_eq {x y:Int} (l:List Int) (h1:¬x<y) (h2:¬y<x):orI (cmpI x y::l)=orI l:=by
 conv=>lhs;unfold orI cmpI
 rw [if_neg h1,if_neg h2]
 simp
abbrev RcOk (n:Nat):Prop:=∀(a b:Rt) (w:World),a.sz<=n->a.P w->b.P w->Calls Tryz.prog n_enthymemeref04_Compare #[a.v,b.v] w λr w'=>r=.returned (.int .i64 (cmpR a.rx b.rx))/\Fr0 w w'
theorem c_refCompareN:∀n:Nat,n<=1000000->RcOk n
 |0,_=>λa b w h _ _=>absurd h (by have:=Rt.sz_pos a;omega)
 |n+1,hn=>λa b w h pa pb=>by
  have ih:=c_refCompareN n (by omega)
  have hs:=Rt.sz_parts a
  have hl:=Rt.szs_len a.l
  have na:=Rt.rows_n pa.parts.1
  have nbb:=Rt.rows_n pb.parts.1
  have e:cmpR a.rx b.rx=if orI [cmpI a.k b.k,cmpI a.lo.toNat b.lo.toNat,cmpI a.hi.toNat b.hi.toNat]≠0 then orI [cmpI a.k b.k,cmpI a.lo.toNat b.lo.toNat,cmpI a.hi.toNat b.hi.toNat] else cmpL (Rt.rxs a.l) (Rt.rxs b.l):=by
   rw [Rt.rx_parts a,Rt.rx_parts b];unfold cmpR;rfl
  have loop1:∀(d i:Nat) (b2 b3:Nat) (w1:World),i+d=a.l.length->i<=b.l.length->cmpL (Rt.rxs (a.l.drop i)) (Rt.rxs (b.l.drop i))=cmpR a.rx b.rx->LH F0 w w1 [.g b2,.g b3] [.tree a,.tree b]->
    enthymemeref04_Compare.L1T b2 a.k a.lo.toNat a.hi.toNat a.s b3 b.k b.lo.toNat b.hi.toNat b.s (i:Int) w1 λr w'=>r=.returned (.int .i64 (cmpR a.rx b.rx))/\Fr0 w w':=by
   intro d
   induction d with
   |zero=>
    intro i b2 b3 w1 hi hib he H
    rw [qdO (by omega:a.l.length<=i)] at he
    refine enthymemeref04_Compare.L1T_step _ _ _ _ _ _ _ _ _ _ _ _ _ (sel_false (decide_eq_false (by omega)) (sel_dec (λh=>⟨?_,H.fr⟩) (λh=>sel_dec (λh2=>?_) (λh2=>⟨?_,H.fr⟩))))
    .rw [qdG (by omega:i<b.l.length)] at he
     rw [<-he];rfl
    .omega
    .rw [qdO (by omega:b.l.length<=i)] at he
     rw [<-he];rfl
   |succ d ihd=>
    intro i b2 b3 w1 hi hib he H
    have hg:a.l[i]? =some (a.l[i]'(by omega)):=qgE (by omega)
    rw [qdG (by omega:i<a.l.length)] at he
    generalize a.l[i]'(by omega)=x at hg he
    have sza:=Rt.szs_mem (qmG hg)
    refine enthymemeref04_Compare.L1T_step _ _ _ _ _ _ _ _ _ _ _ _ _ (sel_true (decide_eq_true (by omega)) (sel_dec (λhlt=>⟨by omega,by omega,?_⟩) (λhge=>sel_dec (λh=>?_) (λh=>sel_dec (λh2=>⟨?_,H.fr⟩) (λh2=>?_)))))
    .have hgb:b.l[i]? =some (b.l[i]'(by omega)):=qgE (by omega)
     rw [qdG (by omega:i<b.l.length)] at he
     generalize b.l[i]'(by omega)=y at hgb he
     refine Rt.at' (show a.P w1 from H.getD 0).parts.1 hg λp hp _=>H.locg λw3 H3=>?_
     have c:=Rt.again (show a.P w3 from H3.getD 0).parts.1 hg hp
     refine ⟨_,_,_,_,c.c0,c.c1,c.c2,c.c3,by omega,by omega,Rt.at' (show b.P w3 from H3.getD 1).parts.1 hgb λq hq c'=>⟨_,_,_,_,c'.c0,c'.c1,c'.c2,c'.c3,H3.callg (ih x y w3 (by omega) ((show a.P w3 from H3.getD 0).parts.2.get hg) ((show b.P w3 from H3.getD 1).parts.2.get hgb)) ?_⟩⟩
     rintro _ w4 rfl H4
     have e2:cmpL (Rt.rxs (x::a.l.drop (i+1))) (Rt.rxs (y::b.l.drop (i+1)))=if cmpR x.rx y.rx≠0 then cmpR x.rx y.rx else cmpL (Rt.rxs (a.l.drop (i+1))) (Rt.rxs (b.l.drop (i+1))):=rfl
     rw [e2] at he
     refine ⟨_,rfl,sel_ne (λhc=>⟨?_,H4.fr⟩) (λhc=>?_)⟩
     .rw [if_pos hc] at he
      rw [he]
     .rw [if_neg (by simpa using hc)] at he
      rw [i64_next _ (by omega)]
      exact ihd (i+1) b2 b3 w4 (by omega) (by omega) he H4
    .omega
    .rw [qdO (by omega:b.l.length<=i)] at he
     rw [<-he];rfl
    .omega
  have wl:∀(c:UInt8),IntKind.wrap .i64 (c.toNat:Int)=(c.toNat:Int):=λc=>IntWalk.i64_in _ (by have:=c.toNat_lt;omega)
  refine enthymemeref04_Compare.okT _ _ _ _ _ _ _ _ w _ ((lh0 [.tree a,.tree b] (by
   intro e he
   simp only [qmC,List.not_mem_nil,or_false] at he
   rcases he with rfl|rfl
   .exact pa
   .exact pb)).newg λb2 w1 H1=>H1.newg λb3 w2 H2=>H2.nw λw3 _ H3=>H3.nw λw4 _ H4=>?_)
  have H4:LH F0 w w4 [.g b2,.g b3,.c w2.heap.size [.int .i64 a.k,.int .i64 (IntKind.wrap .i64 (a.lo.toNat:Int)),.int .i64 (IntKind.wrap .i64 (a.hi.toNat:Int))] ty_int,.c w3.heap.size [.int .i64 b.k,.int .i64 (IntKind.wrap .i64 (b.lo.toNat:Int)),.int .i64 (IntKind.wrap .i64 (b.hi.toNat:Int))] ty_int] [.tree a,.tree b]:=H4
  rw [wl,wl,wl,wl] at H4
  have step:∀(i:Nat) (x y:Int) (w5:World),i<3->([.int .i64 a.k,.int .i64 (a.lo.toNat:Int),.int .i64 (a.hi.toNat:Int)]:List Value)[i]? =some (.int .i64 x)->([.int .i64 b.k,.int .i64 (b.lo.toNat:Int),.int .i64 (b.hi.toNat:Int)]:List Value)[i]? =some (.int .i64 y)->
    LH F0 w w5 [.g b2,.g b3,.c w2.heap.size [.int .i64 a.k,.int .i64 (a.lo.toNat:Int),.int .i64 (a.hi.toNat:Int)] ty_int,.c w3.heap.size [.int .i64 b.k,.int .i64 (b.lo.toNat:Int),.int .i64 (b.hi.toNat:Int)] ty_int] [.tree a,.tree b]->
    (x<y->cmpR a.rx b.rx=-1)->(y<x->cmpR a.rx b.rx=1)->
    (¬x<y->¬y<x->∀w6,LH F0 w w6 [.g b2,.g b3,.c w2.heap.size [.int .i64 a.k,.int .i64 (a.lo.toNat:Int),.int .i64 (a.hi.toNat:Int)] ty_int,.c w3.heap.size [.int .i64 b.k,.int .i64 (b.lo.toNat:Int),.int .i64 (b.hi.toNat:Int)] ty_int] [.tree a,.tree b]->enthymemeref04_Compare.L0T b2 a.k a.lo.toNat a.hi.toNat a.s b3 b.k b.lo.toNat b.hi.toNat b.s ⟨some (at0 w2.heap.size),3,3⟩ ⟨some (at0 w3.heap.size),3,3⟩ ((i+1:Nat):Int) w6 λr w'=>r=.returned (.int .i64 (cmpR a.rx b.rx))/\Fr0 w w')->
    enthymemeref04_Compare.L0T b2 a.k a.lo.toNat a.hi.toNat a.s b3 b.k b.lo.toNat b.hi.toNat b.s ⟨some (at0 w2.heap.size),3,3⟩ ⟨some (at0 w3.heap.size),3,3⟩ (i:Int) w5 λr w'=>r=.returned (.int .i64 (cmpR a.rx b.rx))/\Fr0 w w':=by
   intro i x y w5 hi hx hy H hlt hgt hk
   have b3':((i:Nat):Int)<((3:Nat):Int):=by omega
   refine enthymemeref04_Compare.L0T_step _ _ _ _ _ _ _ _ _ _ _ _ _ _ _ (sel_true (decide_eq_true (by omega)) ⟨by omega,b3',optS (H.locg λw6 H6=>⟨x,?_,by omega,b3',optS ⟨y,?_,sel_dec (λh=>⟨by rw [hlt h],H6.fr⟩) (λh=>⟨by omega,b3',optS (H6.locg λw7 H7=>⟨x,?_,by omega,b3',optS ⟨y,?_,sel_dec (λh2=>⟨by rw [hgt h2],H7.fr⟩) (λh2=>?_)⟩⟩)⟩)⟩⟩)⟩)
   .rw [Int.toNat_natCast,Nat.mul_one];exact H6.ld 2 i rfl hx
   .rw [Int.toNat_natCast,Nat.mul_one];exact H6.ld 3 i rfl hy
   .rw [Int.toNat_natCast,Nat.mul_one];exact H7.ld 2 i rfl hx
   .rw [Int.toNat_natCast,Nat.mul_one];exact H7.ld 3 i rfl hy
   .rw [show IntKind.wrap .i64 ((i:Int)+1)=((i+1:Nat):Int) by rw [IntWalk.i64_in _ (by omega)];omega]
    exact hk h h2 w7 H7
  show enthymemeref04_Compare.L0T _ _ _ _ _ _ _ _ _ _ _ _ ((0:Nat):Int) _ _
  refine step 0 _ _ w4 (by omega) rfl rfl H4 (λh=>by rw [e,cm_lt _ h];rfl) (λh=>by rw [e,cm_gt _ h];rfl) (λh1 h2 w5 H5=>?_)
  rw [cm_eq _ h1 h2] at e
  refine step 1 _ _ w5 (by omega) rfl rfl H5 (λh=>by rw [e,cm_lt _ h];rfl) (λh=>by rw [e,cm_gt _ h];rfl) (λh1 h2 w6 H6=>?_)
  rw [cm_eq _ h1 h2] at e
  refine step 2 _ _ w6 (by omega) rfl rfl H6 (λh=>by rw [e,cm_lt _ h];rfl) (λh=>by rw [e,cm_gt _ h];rfl) (λh1 h2 w7 H7=>?_)
  rw [cm_eq _ h1 h2] at e
  refine enthymemeref04_Compare.L0T_step _ _ _ _ _ _ _ _ _ _ _ _ _ _ _ (sel_false rfl (loop1 a.l.length 0 b2 b3 w7 (by omega) (by omega) ?_ (H7.take 2)))
  rw [e]
  rfl
theorem c_refCompare (a b:Rt) (w:World) (h:a.sz<=1000000) (pa:a.P w) (pb:b.P w):Calls Tryz.prog n_enthymemeref04_Compare #[a.v,b.v] w λr w'=>r=.returned (.int .i64 (cmpR a.rx b.rx))/\Fr0 w w':=c_refCompareN 1000000 (Nat.le_refl _) a b w h pa pb
abbrev NdOk (n:Nat):Prop:=∀(x:Rt) (w:World),x.sz<=n->x.P w->Calls Tryz.prog n_enthymemeref04_Nodes #[x.v] w λr w'=>r=.returned (.int .i64 (x.sz:Int))/\Fr0 w w'
theorem c_NodesN:∀n:Nat,n<=1000000->NdOk n
 |0,_=>λx w h _=>absurd h (by have:=Rt.sz_pos x;omega)
 |n+1,hn=>λx w h px=>by
  have ih:=c_NodesN n (by omega)
  have hs:=Rt.sz_parts x
  have hl:=Rt.szs_len x.l
  have nr:=Rt.rows_n px.parts.1
  have loop:∀(d i m b1:Nat) (w1:World),i+d=x.l.length->m+Rt.szs (x.l.drop i)=x.sz->LH F0 w w1 [.g b1] [.tree x]->enthymemeref04_Nodes.L0T b1 x.k x.lo.toNat x.hi.toNat x.s (m:Int) (i:Int) w1 λr w'=>r=.returned (.int .i64 (x.sz:Int))/\Fr0 w w':=by
   intro d
   induction d with
   |zero=>
    intro i m b1 w1 hi he H
    rw [qdO (by omega)] at he
    refine enthymemeref04_Nodes.L0T_step _ _ _ _ _ _ _ _ _ (sel_false (decide_eq_false (by omega)) ⟨?_,H.fr⟩)
    have:m=x.sz:=he
    rw [this]
   |succ d ihd=>
    intro i m b1 w1 hi he H
    have hg:x.l[i]? =some (x.l[i]'(by omega)):=qgE (by omega)
    rw [qdG (by omega)] at he
    generalize x.l[i]'(by omega)=a at hg he
    have he':m+(a.sz+Rt.szs (x.l.drop (i+1)))=x.sz:=he
    have ma:=qmG hg
    have sza:=Rt.szs_mem ma
    refine enthymemeref04_Nodes.L0T_step _ _ _ _ _ _ _ _ _ (sel_true (decide_eq_true (by omega)) (part_el (show x.P w1 from H.getD 0) rfl hg (H.callg (ih a w1 (by omega) ((show x.P w1 from H.getD 0).parts.2.mem ma)) ?_)))
    rintro _ w2 rfl H2
    refine ⟨_,rfl,?_⟩
    show enthymemeref04_Nodes.L0T _ _ _ _ _ _ _ _ _
    rw [i64_next _ (by omega),IntWalk.i64_in _ (by omega)]
    have e:((m:Int)+(a.sz:Int))=((m+a.sz:Nat):Int):=by omega
    rw [e]
    exact ihd (i+1) (m+a.sz) b1 w2 (by omega) (by omega) H2
  exact enthymemeref04_Nodes.okT _ _ _ _ w _ ((lhT px).newg λb1 w1 H1=>loop x.l.length 0 1 b1 w1 (by omega) (by rw [List.drop_zero];omega) H1)
theorem c_Nodes (x:Rt) (w:World) (h:x.sz<=1000000) (px:x.P w):Calls Tryz.prog n_enthymemeref04_Nodes #[x.v] w λr w'=>r=.returned (.int .i64 (x.sz:Int))/\Fr0 w w':=c_NodesN 1000000 (Nat.le_refl _) x w h px
def leastV (k:Nat):Int:=if 6<=k then 1 else 0
def mostV (k:Nat):Int:=if k<3 then 0 else if k<6 then 64 else 1
theorem least_at {k:Nat} (h:k<8):([.i 0,.i 0,.i 0,.i 0,.i 0,.i 0,.i 1,.i 1]:List Value)[k]? =some (.i (leastV k)):=by
 have:k=0\/k=1\/k=2\/k=3\/k=4\/k=5\/k=6\/k=7:=by omega
 rcases this with rfl|rfl|rfl|rfl|rfl|rfl|rfl|rfl<;>rfl
theorem most_at {k:Nat} (h:k<8):([.i 0,.i 0,.i 0,.i 64,.i 64,.i 64,.i 1,.i 1]:List Value)[k]? =some (.i (mostV k)):=by
 have:k=0\/k=1\/k=2\/k=3\/k=4\/k=5\/k=6\/k=7:=by omega
 rcases this with rfl|rfl|rfl|rfl|rfl|rfl|rfl|rfl<;>rfl
abbrev GdOk (n:Nat):Prop:=∀(x:Rt) (w:World),x.sz<=n->x.P w->Calls Tryz.prog n_enthymemeref04_good #[x.v] w λr w'=>r=.returned (.bool (goodR x.rx))/\Fr0 w w'
theorem c_goodN:∀n:Nat,n<=64->GdOk n
 |0,_=>λx w h _=>absurd h (by have:=Rt.sz_pos x;omega)
 |n+1,hn=>λx w h px=>by
  have ih:=c_goodN n (by omega)
  have hs:=Rt.sz_parts x
  have hl:=Rt.szs_len x.l
  have nr:=Rt.rows_n px.parts.1
  have el:(Rt.rxs x.l).length=x.s.n:=by rw [Rt.rxs_map];simp [nr]
  have ee:(Rt.rxs x.l).isEmpty=decide (x.s.n=0):=by
   rw [<-el,Bool.eq_iff_iff]
   simp
  have eg:goodR x.rx=(!(x.k !=2&&(x.lo !=0||x.hi !=0))&&(if x.k=0\/x.k=1 then (Rt.rxs x.l).isEmpty else if x.k=2 then (Rt.rxs x.l).isEmpty&&decide (x.lo.toNat<=x.hi.toNat) else if x.k=3\/x.k=4\/x.k=5 then goodL (Rt.rxs x.l) else if x.k=6\/x.k=7 then (Rt.rxs x.l).length==1&&goodL (Rt.rxs x.l) else false)):=by
   rw [Rt.rx_parts]
   unfold goodR
   rfl
  rw [ee,el] at eg
  have z8:∀u:UInt8,(u !=0)=decide (u.toNat≠0):=λu=>by
   rw [Bool.eq_iff_iff]
   simp only [bne_iff_ne,ne_eq,decide_eq_true_eq]
   exact not_congr ⟨λh=>by rw [h];rfl,λh=>UInt8.toNat_inj.1 (by simpa using h)⟩
  rw [z8,z8] at eg
  have bad:∀{b1:Nat} {w':World},goodR x.rx=false->LH F0 w w' [.g b1,.c (0:Nat) [] ty_int] []->True:=λ_ _=>trivial
  let R:Post:=λr w'=>r=.returned (.bool (goodR x.rx))/\Fr0 w w'
  have loop:goodR x.rx=goodL (Rt.rxs x.l)->∀(d i b1:Nat) (w1:World),i+d=x.l.length->goodL (Rt.rxs (x.l.drop i))=goodL (Rt.rxs x.l)->LH F0 w w1 [.g b1] [.tree x]->enthymemeref04_good.L3T b1 x.k x.lo.toNat x.hi.toNat x.s (i:Int) w1 R:=by
   intro hx d
   induction d with
   |zero=>
    intro i b1 w1 hi he H
    rw [qdO (by omega)] at he
    refine enthymemeref04_good.L3T_step _ _ _ _ _ _ _ _ (sel_false (decide_eq_false (by omega)) ⟨?_,H.fr⟩)
    rw [hx,<-he];rfl
   |succ d ihd=>
    intro i b1 w1 hi he H
    have hg:x.l[i]? =some (x.l[i]'(by omega)):=qgE (by omega)
    rw [qdG (by omega)] at he
    generalize x.l[i]'(by omega)=a at hg he
    have ma:=qmG hg
    have sza:=Rt.szs_mem ma
    have he':(goodR a.rx&&goodL (Rt.rxs (x.l.drop (i+1))))=goodL (Rt.rxs x.l):=he
    refine enthymemeref04_good.L3T_step _ _ _ _ _ _ _ _ (sel_true (decide_eq_true (by omega)) (part_el (show x.P w1 from H.getD 0) rfl hg (H.callg (ih a w1 (by omega) ((show x.P w1 from H.getD 0).parts.2.mem ma)) ?_)))
    rintro _ w2 rfl H2
    refine ⟨_,rfl,sel_not (λhf=>⟨?_,H2.fr⟩) (λht=>?_)⟩
    .rw [hx,<-he',hf];rfl
    .rw [i64_next _ (by omega)]
     rw [ht,Bool.true_and] at he'
     exact ihd (i+1) b1 w2 (by omega) he' H2
  refine enthymemeref04_good.okT _ _ _ _ w _ ((lhT px).newg λb1 w1 H1=>H1.nw λw2 _ H2=>H2.nw λw3 _ H3=>?_)
  have no:∀w':World,LH F0 w w' [.g b1,.c w1.heap.size [.i 0,.i 0,.i 0,.i 64,.i 64,.i 64,.i 1,.i 1] ty_int,.c w2.heap.size [.i 0,.i 0,.i 0,.i 0,.i 0,.i 0,.i 1,.i 1] ty_int] [.tree x]->goodR x.rx=false->(Ending.returned (.bool false)=.returned (.bool (goodR x.rx))/\Fr0 w w'):=λw' H' hf=>⟨by rw [hf],H'.fr⟩
  refine sel_dec (λk0=>LH.locg H3 (λw4 H4=>no w4 H4 ?_) (by simp)) (λk0=>sel_dec (λk7=>LH.locg H3 (λw4 H4=>no w4 H4 ?_) (by simp)) (λk7=>?_))
  .rw [eg,if_neg (by omega),if_neg (by omega),if_neg (by omega),if_neg (by omega),Bool.and_false]
  .rw [eg,if_neg (by omega),if_neg (by omega),if_neg (by omega),if_neg (by omega),Bool.and_false]
  obtain ⟨k,hk⟩:=Int.eq_ofNat_of_zero_le (by omega:0<=x.k)
  have hk8:k<8:=by omega
  refine ⟨by omega,by show x.k<((8:Nat):Int);omega,(show optP (some (nb w2)) _ from LH.locg H3 (λw4 H4=>⟨leastV k,?_,?_⟩) (by simp))⟩
  .have:=LH.ld (L:=[.g b1,.c w1.heap.size [.i 0,.i 0,.i 0,.i 64,.i 64,.i 64,.i 1,.i 1] ty_int,.c w2.heap.size [.i 0,.i 0,.i 0,.i 0,.i 0,.i 0,.i 1,.i 1] ty_int]) H4 2 k rfl (least_at hk8)
   rw [hk,Int.toNat_natCast,Nat.mul_one]
   exact this
  refine sel_dec (λhle=>no w4 H4 ?_) (λhle=>⟨by omega,by show x.k<((8:Nat):Int);omega,(show optP (some (nb w1)) _ from ⟨mostV k,?_,?_⟩)⟩)
  .unfold leastV at hle
   rw [eg,if_neg (by split at hle<;>omega),if_neg (by split at hle<;>omega),if_neg (by split at hle<;>omega)]
   split
   .rename_i h67
    have:(x.s.n==1)=false:=by
     rw [beq_eq_false_iff_ne]
     split at hle<;>omega
    rw [this];simp
   .simp
  .have:=LH.ld (L:=[.g b1,.c w1.heap.size [.i 0,.i 0,.i 0,.i 64,.i 64,.i 64,.i 1,.i 1] ty_int,.c w2.heap.size [.i 0,.i 0,.i 0,.i 0,.i 0,.i 0,.i 1,.i 1] ty_int]) H4 1 k rfl (most_at hk8)
   rw [hk,Int.toNat_natCast,Nat.mul_one]
   exact this
  refine sel_dec (λhmo=>no w4 H4 ?_) (λhmo=>?_)
  .unfold mostV at hmo
   by_cases k2:k<3
   .rw [if_pos k2] at hmo
    have hne:decide (x.s.n=0)=false:=decide_eq_false (by omega)
    rw [eg,hne]
    split
    .simp
    .split
     .simp
     .omega
   .rw [if_neg k2] at hmo
    by_cases k5:k<6
    .rw [if_pos k5] at hmo;omega
    .rw [if_neg k5] at hmo
     have:(x.s.n==1)=false:=by rw [beq_eq_false_iff_ne];omega
     rw [eg,this,if_neg (by omega),if_neg (by omega),if_neg (by omega),if_pos (by omega)]
     simp
  have hnum:(k<3->x.s.n=0)/\(6<=k->x.s.n=1):=by
   unfold leastV at hle
   unfold mostV at hmo
   refine ⟨λh=>?_,λh=>?_⟩
   .rw [if_pos h] at hmo;omega
   .rw [if_pos h] at hle
    rw [if_neg (by omega),if_neg (by omega)] at hmo
    omega
  have H5:LH F0 w w4 [.g b1] [.tree x]:=LH.take (L:=[.g b1,.c w1.heap.size [.i 0,.i 0,.i 0,.i 64,.i 64,.i 64,.i 1,.i 1] ty_int,.c w2.heap.size [.i 0,.i 0,.i 0,.i 0,.i 0,.i 0,.i 1,.i 1] ty_int]) H4 1
  have nilG:k<3->goodL (Rt.rxs x.l)=true:=λh=>by
   have h0:(Rt.rxs x.l).length=0:=by rw [el,hnum.1 h]
   rw [List.length_eq_zero_iff.1 h0]
   rfl
  have go:goodR x.rx=goodL (Rt.rxs x.l)->enthymemeref04_good.S2T b1 x.k x.lo.toNat x.hi.toNat x.s w4 R:=λhx=>loop hx x.l.length 0 b1 w4 (by omega) (by simp) H5
  refine sel_dec (λhlh=>no w4 H4 ?_) (λhlh=>sel_ne (λk2=>sel_dec (λhhi=>no w4 H4 ?_) (λhhi=>go ?_)) (λk2=>go ?_))
  .rw [eg]
   by_cases k2:x.k=2
   .rw [if_neg (by omega),if_pos k2,decide_eq_false (show ¬x.lo.toNat<=x.hi.toNat by omega)]
    simp
   .have:(x.k !=2&&(decide (x.lo.toNat≠0)||decide (x.hi.toNat≠0)))=true:=by
     rw [decide_eq_true (show x.lo.toNat≠0 by omega)]
     simp [k2]
    rw [this];rfl
  .have:(x.k !=2&&(decide (x.lo.toNat≠0)||decide (x.hi.toNat≠0)))=true:=by
    rw [decide_eq_true (show x.hi.toNat≠0 by omega)]
    simp [k2]
   rw [eg,this];rfl
  .have e0:(x.k !=2&&(decide (x.lo.toNat≠0)||decide (x.hi.toNat≠0)))=false:=by
    rw [decide_eq_false (show ¬x.lo.toNat≠0 by omega),decide_eq_false (show ¬x.hi.toNat≠0 by omega)]
    simp
   rw [eg,e0]
   by_cases c1:x.k=0\/x.k=1
   .rw [if_pos c1,nilG (by omega),decide_eq_true (hnum.1 (by omega))];rfl
   .rw [if_neg c1,if_neg k2]
    by_cases c3:x.k=3\/x.k=4\/x.k=5
    .rw [if_pos c3];simp
    .rw [if_neg c3,if_pos (by omega),hnum.2 (by omega)];simp
  .have e0:(x.k !=2&&(decide (x.lo.toNat≠0)||decide (x.hi.toNat≠0)))=false:=by rw [k2];rfl
   rw [eg,e0,if_neg (by omega),if_pos k2,nilG (by omega),decide_eq_true (hnum.1 (by omega)),decide_eq_true (show x.lo.toNat<=x.hi.toNat by omega)]
   rfl
theorem c_refValid (x:Rt) (w:World) (h:x.sz<=1000000) (px:x.P w):Calls Tryz.prog n_enthymemeref04_Valid #[x.v] w λr w'=>r=.returned (.int .i64 (validR x.rx))/\Fr0 w w':=by
 refine enthymemeref04_Valid.okT _ _ _ _ w _ ((lhT px).newg λb1 w1 H1=>H1.callg (c_Nodes x w1 h (H1.getD 0)) ?_)
 rintro _ w2 rfl H2
 refine ⟨_,rfl,sel_dec (λhl=>⟨?_,H2.fr⟩) (λhl=>H2.callg (c_goodN 64 (Nat.le_refl _) x w2 (by omega) (H2.getD 0)) ?_)⟩
 .unfold validR;rw [Rt.rx_sz,if_pos (by omega)]
 rintro _ w3 rfl H3
 refine ⟨_,rfl,sel_not (λhg=>⟨?_,H3.fr⟩) (λhg=>⟨?_,H3.fr⟩)⟩
 .unfold validR;rw [Rt.rx_sz,if_neg (by omega),hg];rfl
 .unfold validR;rw [Rt.rx_sz,if_neg (by omega),hg];rfl
theorem valid_good {x:Rx} (h:validR x=0):goodR x=true/\x.sz<=64:=by
 unfold validR at h
 split at h
 .cases h
 .split at h
  .rename_i h2
   exact ⟨h2,by omega⟩
  .cases h
theorem goodL_mem:∀{l:List Rx} {a:Rx},goodL l=true->a∈l->goodR a=true
 |b::l,a,h,ha=>by
  have h':(goodR b&&goodL l)=true:=h
  rw [Bool.and_eq_true] at h'
  rcases qmC.1 ha with rfl|ha
  .exact h'.1
  .exact goodL_mem h'.2 ha
theorem el_rf9:ElemOk Tryz.prog ty_sl_enthymemeref04_Regex ty_enthymemeref04_Regex (.agg #[.int .i64 0,.int .u8 0,.int .u8 0,.slice none 0 0]) 4 40:=⟨by kernel_rfl,by kernel_rfl,rfl,by decide,by decide⟩
theorem c_every (w:World):Calls Tryz.prog n_enthymemeref04_Everything #[] w λr w'=>RetT w everyX r w'/\Fr0 w w':=by
 refine enthymemeref04_Everything.okT w _ ((lh0 [] (by simp)).newg λb w1 H1=>H1.nwrow (n:=1) (sz:=4) (cs:=noT.c) rfl (by decide) λw2 H2=>H2.locg λw6 H6=>⟨⟨.mk 6 0 0 ⟨some (at0 w1.heap.size),1,1⟩ [noT],rfl,rfl,?_,λc hc=>?_⟩,H6.fr⟩)
 .unfold Rt.P Rt.Ps Rt.Ps
  exact ⟨(H6.get 1:OwnRow _ _ _ _ _).rdn,no_P w6,trivial⟩
 .unfold Rt.fp Rt.fps Rt.fps at hc
  rcases qmA.1 hc with hc|hc
  .exact (H6.new _ (qmG (i:=1) rfl) c (rdn_own hc)).resolve_right id
  .rcases qmA.1 hc with hc|hc
   .exact (no_fp' hc).elim
   .cases hc
def putT (r:Rt):List Rt->List Rt
 |[]=>[r]
 |y::p=>if cmpR y.rx r.rx<0 then y::putT r p else if cmpR y.rx r.rx=0 then y::p else r::y::p
theorem put_rx (r:Rt):∀l:List Rt,(putT r l).map Rt.rx=putX r.rx (l.map Rt.rx)
 |[]=>rfl
 |y::p=>by
  unfold putT
  rw [List.map_cons]
  unfold putX
  split
  .rw [List.map_cons,put_rx r p]
  .split<;>rfl
theorem putT_mem {t r:Rt}:∀{p:List Rt},t∈putT r p->t=r\/t∈p
 |[],h=>by unfold putT at h;simpa using h
 |y::p,h=>by
  unfold putT at h
  split at h
  .rcases qmC.1 h with rfl|h
   .simp
   .rcases putT_mem h with h|h<;>simp [h]
  .split at h
   .exact .inr h
   .rcases qmC.1 h with rfl|h
    .simp
    .exact .inr h
theorem putT_szs (r:Rt):∀l:List Rt,Rt.szs (putT r l)<=r.sz+Rt.szs l
 |[]=>by show r.sz+0<=r.sz+0;omega
 |y::p=>by
  unfold putT
  split
  .have:=putT_szs r p
   show y.sz+Rt.szs (putT r p)<=r.sz+(y.sz+Rt.szs p)
   omega
  .split
   .show y.sz+Rt.szs p<=r.sz+(y.sz+Rt.szs p)
    omega
   .exact Nat.le_refl _
theorem putT_at {r:Rt}:∀{l:List Rt} {k:Nat},k<=l.length->(∀q t,q<k->l[q]? =some t->cmpR t.rx r.rx<0)->(∀t,l[k]? =some t->¬cmpR t.rx r.rx<0)->
  (∀t,l[k]? =some t->cmpR t.rx r.rx=0->putT r l=l)/\((∀t,l[k]? =some t->cmpR t.rx r.rx≠0)->putT r l=l.take k++r::l.drop k)
 |[],k,hk,h1,h2=>⟨λt h=>by simp at h,λ_=>by simp [putT]⟩
 |y::p,0,hk,h1,h2=>by
  have:=h2 y rfl
  unfold putT
  rw [if_neg this]
  refine ⟨λt h h0=>?_,λh=>?_⟩
  .cases h
   rw [if_pos h0]
  .rw [if_neg (h y rfl)]
   rfl
 |y::p,k+1,hk,h1,h2=>by
  have hy:=h1 0 y (by omega) rfl
  have ih:=putT_at (r:=r) (l:=p) (k:=k) (by simpa using hk) (λq t hq ht=>h1 (q+1) t (by omega) (by simpa using ht)) (λt ht=>h2 t (by simpa using ht))
  unfold putT
  rw [if_pos hy]
  refine ⟨λt h h0=>by rw [ih.1 t (by simpa using h) h0],λh=>by rw [ih.2 λt ht=>h t (by simpa using ht)];rfl⟩
theorem rdn_part {w:World} {s:Sl} {l:List Rt} (h:RdN 4 w s (l.flatMap Rt.c)) (a b:Nat) (hab:a<=b) (hb:b<=l.length):RdN 4 w (subN 4 s a b) (((l.take b).drop a).flatMap Rt.c):=by
 have nr:=Rt.rows_n h
 have:=h.sub a b hab (by omega)
 rw [cut_flat,drop_flat _ _ (by rw [qlT];omega)] at this
 exact this
abbrev lstT (s:Sl) (l:List Rt):Rt:=.mk 0 0 0 s l
def RetLs (old:List Nat) (w:World) (l:List Rt) (r:Ending) (w':World):Prop:=∃s:Sl,r=.returned s.v/\(lstT s l).P w'/\∀b∈(lstT s l).fp,w.heap.size<=b\/b∈old
theorem lst_P {w:World} {s:Sl} {l:List Rt}:(lstT s l).P w↔RdN 4 w s (l.flatMap Rt.c)/\Rt.Ps w l:=by
 unfold lstT Rt.P
 exact Iff.rfl
theorem lst_fp {s:Sl} {l:List Rt} {b:Nat}:b∈(lstT s l).fp↔b∈(Rt.row s l).fp\/b∈Rt.fps l:=by
 unfold lstT Rt.fp
 exact qmA
theorem c_put (s:Sl) (l:List Rt) (r:Rt) (w:World) (hl:Rt.szs l<=100000) (hr:r.sz<=100000) (px:(lstT s l).P w) (pr:r.P w):
  Calls Tryz.prog n_enthymemeref04_put #[s.v,r.v] w λe w'=>RetLs ((lstT s l).fp++r.fp) w (putT r l) e w'/\Fr0 w w':=by
 have nr:=Rt.rows_n (lst_P.1 px).1
 have ll:=Rt.szs_len l
 let R:Post:=λe w'=>RetLs ((lstT s l).fp++r.fp) w (putT r l) e w'/\Fr0 w w'
 have fin:∀(k:Nat) (sl:Sl) (L:List En) (i:Nat) (w1:World),k<=l.length->putT r l=l.take k++r::l.drop k->L[i]? =some (.row ty_enthymemeref04_Regex 4 sl ((l.take k++[r]).flatMap Rt.c))->LH F0 w w1 L [.tree (lstT s l),.tree r]->
   enthymemeref04_put.S3T s (k:Int) sl w1 R:=by
  intro k sl L i w1 hk he hi H
  have px1:(lstT s l).P w1:=H.getD 0
  have hp:=rdn_part (lst_P.1 px1).1 k l.length hk (Nat.le_refl _)
  rw [List.take_length] at hp
  have hrow:OwnRow w1 ty_enthymemeref04_Regex 4 sl ((l.take k++[r]).flatMap Rt.c):=H.get i hi
  have nrow:=Rt.rows_n hrow.rdn
  have ltk:(l.take k++[r]).length=k+1:=by simp [qlT];omega
  refine ⟨by omega,by omega,?_⟩
  obtain ⟨s',w',h1,h2,h3⟩:=H.apT (bs:=[]) i (ty:=ty_sl_enthymemeref04_Regex) (K:=λs' w'=>∃L',L'[i]? =some (.row ty_enthymemeref04_Regex 4 s' ((putT r l).flatMap Rt.c))/\LH F0 w w' L' [.tree (lstT s l),.tree r]) el_rf9 (src:=subN 4 s k l.length) (news:=(l.drop k).flatMap Rt.c) hi hp (c_one _) (by show (sl.n+(l.length - k)) *40<=_;omega) (λs' w' H'=>⟨_,by
   rw [List.getElem?_set_self (qgS.1 hi).1,<-qfA,he,List.append_assoc];rfl,H'⟩)
  obtain ⟨L',g1,g2⟩:=h3
  have e1:(Int.toNat (k:Int))=k:=rfl
  refine ⟨s',w',by rw [e1,nr];exact h1,⟨s',rfl,lst_P.2 ⟨(g2.get i g1:OwnRow _ _ _ _ _).rdn,Rt.ps_of λt ht=>?_⟩,λb hb=>?_⟩,g2.fr⟩
  .rcases putT_mem ht with rfl|ht
   .exact g2.getD 1
   .exact (lst_P.1 (g2.getD 0)).2.mem ht
  .rcases lst_fp.1 hb with hb|hb
   .exact .inl ((g2.new _ (qmG g1) b (rdn_own hb)).resolve_right id)
   .obtain ⟨t,ht,hbt⟩:=Rt.fps_iff.1 hb
    rcases putT_mem ht with rfl|ht
    .exact .inr (List.mem_append_right _ hbt)
    .exact .inr (List.mem_append_left _ (lst_fp.2 (.inr (Rt.fps_iff.2 ⟨t,ht,hbt⟩))))
 have s2:∀(k:Nat) (b3:Nat) (w1:World),k<=l.length->putT r l=l.take k++r::l.drop k->LH F0 w w1 [.g b3] [.tree (lstT s l),.tree r]->enthymemeref04_put.S2T s b3 r.k r.lo.toNat r.hi.toNat r.s (k:Int) w1 R:=by
  intro k b3 w1 hk he H
  have hcap:s.n<=s.c:=(lst_P.1 (show (lstT s l).P w1 from H.getD 0)).1.2.1
  have hpart:∀w':World,(lstT s l).P w'->RdN 4 w' (subN 4 s 0 k) ((l.take k).flatMap Rt.c):=λw' h=>rdn_part (lst_P.1 h).1 0 k (by omega) hk
  have e1:(Int.toNat (k:Int))=k:=rfl
  refine ⟨by omega,by omega,H.locg λw2 H2=>?_,H.locg λw2 H2=>?_⟩
  .refine (H2.nilrow ty_enthymemeref04_Regex 4).apT 1 el_rf9 (s:=⟨none,0,0⟩) (xs:=[]) (src:=subN 4 s 0 k) (news:=(l.take k).flatMap Rt.c) rfl (hpart w2 (H2.getD 0)) (c_one _) (by show (0+(k - 0)) *40<=_;omega) (λs' w3 H3=>?_)
   have H3:LH F0 w w3 [.g b3,.row ty_enthymemeref04_Regex 4 s' ((l.take k).flatMap Rt.c)] [.tree (lstT s l),.tree r]:=H3
   have nrow:=Rt.rows_n (H3.get 1:OwnRow _ _ _ _ _).rdn
   rw [qlT] at nrow
   refine H3.ap1T 1 el_rf9 (xs:=(l.take k).flatMap Rt.c) rfl (λs'' w4 H4=>?_) (by omega)
   refine fin k s'' _ 1 w4 hk he ?_ H4
   show some _=some _
   rw [cs_snoc]
   rfl
  .refine H2.nwrow (n:=1) (sz:=4) (cs:=r.c) rfl (by decide) λw3 H3=>?_
   refine (H3.nilrow ty_enthymemeref04_Regex 4).apT 2 el_rf9 (s:=⟨none,0,0⟩) (xs:=[]) (src:=subN 4 s 0 k) (news:=(l.take k).flatMap Rt.c) rfl (hpart w3 (H3.getD 0)) (c_one _) (by show (0+(k - 0)) *40<=_;omega) (λs' w4 H4=>?_)
   have H4:LH F0 w w4 [.g b3,.row ty_enthymemeref04_Regex 4 ⟨some (at0 w2.heap.size),1,1⟩ r.c,.row ty_enthymemeref04_Regex 4 s' ((l.take k).flatMap Rt.c)] [.tree (lstT s l),.tree r]:=H4
   have nrow:=Rt.rows_n (H4.get 2:OwnRow _ _ _ _ _).rdn
   rw [qlT] at nrow
   refine H4.apT 2 el_rf9 (xs:=(l.take k).flatMap Rt.c) (src:=⟨some (at0 w2.heap.size),1,1⟩) (news:=r.c) rfl (H4.get 1:OwnRow _ _ _ _ _).rdn (λu hu=>c_one [r] u (by simpa using hu)) (by show (s'.n+1) *40<=_;omega) (λs'' w5 H5=>?_)
   refine fin k s'' _ 2 w5 hk he ?_ H5
   show some _=some _
   rw [cs_snoc]
 have s1:∀(k:Nat) (b3:Nat) (w1:World),k<=l.length->(∀q t,q<k->l[q]? =some t->cmpR t.rx r.rx<0)->(∀t,l[k]? =some t->¬cmpR t.rx r.rx<0)->LH F0 w w1 [.g b3] [.tree (lstT s l),.tree r]->enthymemeref04_put.S1T s b3 r.k r.lo.toNat r.hi.toNat r.s (k:Int) w1 R:=by
  intro k b3 w1 hk h1 h2 H
  obtain ⟨g1,g2⟩:=putT_at hk h1 h2
  refine sel_dec (λhlt=>?_) (λhlt=>H.locg λw2 H2=>s2 k b3 w2 hk (g2 λt ht=>by have:=(qgS.1 ht).1;omega) H2)
  have hg:l[k]? =some l[k]:=qgE (by omega)
  generalize l[k]'(by omega)=t at hg
  have mt:=qmG hg
  refine ⟨by omega,by omega,Rt.at' (lst_P.1 (show (lstT s l).P w1 from H.getD 0)).1 hg λp hp _=>H.locg λw2 H2=>?_⟩
  have px2:(lstT s l).P w2:=H2.getD 0
  have c:=Rt.again (lst_P.1 px2).1 hg hp
  refine ⟨_,_,_,_,c.c0,c.c1,c.c2,c.c3,H2.callg (c_refCompare t r w2 (by have:=Rt.szs_mem mt;omega) ((lst_P.1 px2).2.mem mt) (H2.getD 1)) ?_⟩
  rintro _ w3 rfl H3
  refine ⟨_,rfl,sel_eq (λh0=>⟨⟨s,rfl,?_,λb hb=>.inr ?_⟩,H3.fr⟩) (λh0=>s2 k b3 w3 hk (g2 λt' ht'=>by rw [hg] at ht';cases ht';exact h0) H3)⟩
  .rw [g1 t hg h0];exact H3.getD 0
  .rw [g1 t hg h0] at hb
   exact List.mem_append_left _ hb
 have loop:∀(d k:Nat) (b3:Nat) (w1:World),k+d=l.length->(∀q t,q<k->l[q]? =some t->cmpR t.rx r.rx<0)->LH F0 w w1 [.g b3] [.tree (lstT s l),.tree r]->enthymemeref04_put.L0T s b3 r.k r.lo.toNat r.hi.toNat r.s (k:Int) w1 R:=by
  intro d
  induction d with
  |zero=>
   intro k b3 w1 hk h1 H
   exact enthymemeref04_put.L0T_step _ _ _ _ _ _ _ _ _ (sel_false (decide_eq_false (by omega)) (H.locg λw2 H2=>s1 k b3 w2 (by omega) h1 (λt ht=>by have:=(qgS.1 ht).1;omega) H2))
  |succ d ihd=>
   intro k b3 w1 hk h1 H
   have hg:l[k]? =some l[k]:=qgE (by omega)
   generalize l[k]'(by omega)=t at hg
   have mt:=qmG hg
   refine enthymemeref04_put.L0T_step _ _ _ _ _ _ _ _ _ (sel_true (decide_eq_true (by omega)) ⟨by omega,by omega,Rt.at' (lst_P.1 (show (lstT s l).P w1 from H.getD 0)).1 hg λp hp _=>H.locg λw2 H2=>?_⟩)
   have px2:(lstT s l).P w2:=H2.getD 0
   have c:=Rt.again (lst_P.1 px2).1 hg hp
   refine ⟨_,_,_,_,c.c0,c.c1,c.c2,c.c3,H2.callg (c_refCompare t r w2 (by have:=Rt.szs_mem mt;omega) ((lst_P.1 px2).2.mem mt) (H2.getD 1)) ?_⟩
   rintro _ w3 rfl H3
   refine ⟨_,rfl,sel_dec (λh0=>?_) (λh0=>s1 k b3 w3 (by omega) h1 (λt' ht'=>by rw [hg] at ht';cases ht';exact h0) H3)⟩
   rw [i64_next _ (by omega)]
   refine ihd (k+1) b3 w3 (by omega) (λq t' hq ht'=>?_) H3
   by_cases e:q=k
   .subst e;rw [hg] at ht';cases ht';exact h0
   .exact h1 q t' (by omega) ht'
 exact enthymemeref04_put.okT _ _ _ _ _ w _ ((lh0 [.tree (lstT s l),.tree r] (by
  intro e he
  simp only [qmC,List.not_mem_nil,or_false] at he
  rcases he with rfl|rfl
  .exact px
  .exact pr)).newg λb3 w1 H1=>loop l.length 0 b3 w1 (by omega) (λq t h=>by omega) H1)
theorem outX_snoc (k:Int) (t:Rx):∀(l out:List Rx),outX k out (l++[t])=if k=3 then outX k out l++[t] else putX t (outX k out l)
 |[],out=>by
  show outX k (if k=3 then out++[t] else putX t out) []=_
  unfold outX
  rfl
 |a::l,out=>by
  show outX k (if k=3 then out++[a] else putX a out) (l++[t])=_
  rw [outX_snoc k t l]
  rfl
theorem uz_k (x ev:Rt) (hk:x.k=3\/x.k=4\/x.k=5) (hev:ev.rx=everyX):∃(j:Nat) (u z:Rt),IntKind.wrap .i64 (x.k - 3)=(j:Int)/\j<3/\[emptyT,noT,ev][j]? =some u/\[noT,ev,noT][j]? =some z/\(u=emptyT\/u=noT\/u=ev)/\(z=noT\/z=ev)/\u.rx≠z.rx/\
  formX (.mk x.k 0 0 (Rt.rxs x.l))=joinX x.k (Rt.rxs x.l) u.rx z.rx:=by
 rcases hk with h|h|h<;>rw [h]
 .exact ⟨0,emptyT,noT,by decide,by decide,rfl,rfl,.inl rfl,.inl rfl,(by intro e;cases e),rfl⟩
 .exact ⟨1,noT,ev,by decide,by decide,rfl,rfl,.inr (.inl rfl),.inr rfl,(by rw [hev];intro e;cases e),by rw [hev];rfl⟩
 .exact ⟨2,ev,noT,by decide,by decide,rfl,rfl,.inr (.inr rfl),.inl rfl,(by rw [hev];intro e;cases e),by rw [hev];rfl⟩
section
variable {x ev u z:Rt} {sf:Sl} {w:World} {b4 b8 b9:Nat}
theorem rn_loop (hx:x.sz<=10000) (hev:ev.rx=everyX) (nev:∀b∈ev.fp,w.heap.size<=b) (hu:u=emptyT\/u=noT\/u=ev) (hzc:z=noT\/z=ev) (huz:u.rx≠z.rx) (hform:formX (.mk x.k 0 0 (Rt.rxs x.l))=joinX x.k (Rt.rxs x.l) u.rx z.rx) {w1:World}
  (H:LH F0 w w1 [.g b4,.g b8,.g b9] [.tree x,.tree ev,.tree (lstT sf (x.l.flatMap (openT x)))]):
  enthymemeref04_normal.L3T x.k b4 0 0 0 ⟨none,0,0⟩ sf b8 u.k u.lo.toNat u.hi.toNat u.s b9 z.k z.lo.toNat z.hi.toNat z.s ⟨none,0,0⟩ 0 w1 λr w'=>RetF x.fp w (formX (.mk x.k 0 0 (Rt.rxs x.l))) r w'/\Fr0 w w':=by
 let R:Post:=λr w'=>RetF x.fp w (formX (.mk x.k 0 0 (Rt.rxs x.l))) r w'/\Fr0 w w'
 have hsub0:Sub x (x.l.flatMap (openT x)):=Sub.flat λ_ h=>h
 have hszf0:Rt.szs (x.l.flatMap (openT x))<=Rt.szs x.l:=szs_open x x.l
 have hfl0:((x.l.flatMap (openT x)).map Rt.rx).filter (λt=>!(cmpR t u.rx==0))=flatX x.k (Rt.rxs x.l) u.rx:=by
  rw [<-flat_rx]
  unfold flatT
  rw [List.filter_map]
  rfl
 generalize x.l.flatMap (openT x)=fl at H hsub0 hszf0 hfl0
 have hsub:=hsub0
 have hszx:=Rt.sz_parts x
 have hszf:Rt.szs fl<=10000:=by omega
 have lfl:=Rt.szs_len fl
 have nr:sf.n=fl.length:=Rt.rows_n (lst_P.1 (show (lstT sf fl).P w1 from H.getD 2)).1
 have huP:∀w',ev.P w'->u.P w':=λw' h=>by
  rcases hu with rfl|rfl|rfl
  .exact empty_P w'
  .exact no_P w'
  .exact h
 have hzP:∀w',ev.P w'->z.P w':=λw' h=>by
  rcases hzc with rfl|rfl
  .exact no_P w'
  .exact h
 have huf:∀b∈u.fp,w.heap.size<=b:=λb hb=>by
  rcases hu with rfl|rfl|rfl
  .exact (empty_fp hb).elim
  .exact (no_fp' hb).elim
  .exact nev b hb
 have hzf:∀b∈z.fp,w.heap.size<=b:=λb hb=>by
  rcases hzc with rfl|rfl
  .exact (no_fp' hb).elim
  .exact nev b hb
 have ej1:∀t∈fl,t.rx=z.rx->formX (.mk x.k 0 0 (Rt.rxs x.l))=z.rx:=λt ht e=>by
  rw [hform]
  unfold joinX
  rw [if_pos]
  rw [List.any_eq_true]
  refine ⟨t.rx,?_,cmp_iff.2 e⟩
  rw [<-hfl0,List.mem_filter]
  exact ⟨qmM.2 ⟨t,ht,rfl⟩,cmp_ne.2 (e▸λh=>huz h.symm)⟩
 have ej2:(∀t∈fl,t.rx≠z.rx)->formX (.mk x.k 0 0 (Rt.rxs x.l))=fewX x.k u.rx (outX x.k [] ((fl.map Rt.rx).filter λt=>!(cmpR t u.rx==0))):=λh=>by
  rw [hform,outX_eq,hfl0]
  unfold joinX
  rw [if_neg]
  .rfl
  .rw [List.any_eq_true]
   rintro ⟨t,ht,he⟩
   rw [<-hfl0,List.mem_filter] at ht
   obtain ⟨t',ht',rfl⟩:=qmM.1 ht.1
   exact h t' ht' (cmp_iff.1 he)
 have fin:∀(ol:List Rt) (so:Sl) (L D:List En) (w1:World),(∀t∈fl,t.rx≠z.rx)->ol.map Rt.rx=outX x.k [] ((fl.map Rt.rx).filter λt=>!(cmpR t u.rx==0))->(∀t∈ol,t∈fl)->LH F0 w w1 L (.tree x::.tree ev::D)->(∀b∈[b4,b8,b9],En.g b∈L)->(∀w',LH F0 w w' L (.tree x::.tree ev::D)->RdN 4 w' so (ol.flatMap Rt.c)/\∀b∈(Rt.row so ol).fp,w.heap.size<=b\/b∈x.fp)->
   sel (((so.n:Nat):Int)==0) (loc [b4,b8,b9] w1 λw55=>R (.returned u.v) w55) (sel (((so.n:Nat):Int)==1) ((0:Int)<=0/\0<((so.n:Nat):Int)/\optP so.a λp=>ld4_0 w1 (p.add (Int.toNat 0 *4)) λa b c d=>loc [b4,b8,b9] w1 λw59=>R (.returned (.agg #[.i a,.int .u8 b,.int .u8 c,d.v])) w59) (loc [b4,b8,b9] w1 λw63=>R (.returned (.agg #[.i x.k,.int .u8 0,.int .u8 0,so.v])) w63)):=by
  intro ol so L D w1 hz ho hm H hb hrow
  have hr:=hrow w1 H
  have nso:=Rt.rows_n hr.1
  have ej:=ej2 hz
  rw [<-ho] at ej
  have hks:Sub x ol:=hsub.sub hm
  refine sel_eq (λh0=>H.locg (λw2 H2=>⟨⟨u,rfl,?_,huP w2 (H2.getD 1),λb hb=>.inl (huf b hb)⟩,H2.fr⟩) hb) (λh0=>sel_eq (λh1=>?_) (λh1=>H.locg (λw2 H2=>⟨⟨.mk x.k 0 0 so ol,rfl,?_,?_,λb hb=>?_⟩,H2.fr⟩) hb))
  .have:ol=[]:=List.length_eq_zero_iff.1 (by omega)
   rw [ej,this];rfl
  .obtain ⟨a,rfl⟩:=List.length_eq_one_iff.1 (show ol.length=1 by omega)
   refine ⟨by omega,by omega,Rt.at' hr.1 (i:=0) (t:=a) rfl λp hp c=>⟨_,_,_,_,c.c0,c.c1,c.c2,c.c3,H.locg (λw2 H2=>⟨⟨a,rfl,?_,hks.P _ (H2.getD 0) a (by simp),λb hb=>.inr (hks.fp a (by simp) b hb)⟩,H2.fr⟩) hb⟩⟩
   rw [ej];rfl
  .rw [ej]
   unfold Rt.rx
   rw [Rt.rxs_map]
   cases ol with
   |nil=>simp at nso;omega
   |cons a ks=>
    cases ks with
    |nil=>simp at nso;omega
    |cons b ks=>rfl
  .unfold Rt.P
   exact ⟨(hrow w2 H2).1,hks.Ps (H2.getD 0)⟩
  .unfold Rt.fp at hb
   rcases qmA.1 hb with hb|hb
   .exact (hrow w2 H2).2 b hb
   .exact .inr (hks.fps hb)
 have loopA:x.k=3->∀(d i:Nat) (so:Sl) (ol:List Rt) (w1:World),i+d=fl.length->(∀t∈fl.take i,t.rx≠z.rx)->ol.map Rt.rx=outX x.k [] (((fl.take i).map Rt.rx).filter λt=>!(cmpR t u.rx==0))->(∀t∈ol,t∈fl)->Rt.szs ol<=Rt.szs (fl.take i)->
   LH F0 w w1 [.g b4,.g b8,.g b9,.row ty_enthymemeref04_Regex 4 so (ol.flatMap Rt.c)] [.tree x,.tree ev,.tree (lstT sf fl)]->enthymemeref04_normal.L3T x.k b4 0 0 0 ⟨none,0,0⟩ sf b8 u.k u.lo.toNat u.hi.toNat u.s b9 z.k z.lo.toNat z.hi.toNat z.s so (i:Int) w1 R:=by
  intro hk d
  induction d with
  |zero=>
   intro i so ol w1 hi hz ho hm hs H
   rw [qtOL (by omega)] at hz ho
   refine enthymemeref04_normal.L3T_step _ _ _ _ _ _ _ _ _ _ _ _ _ _ _ _ _ _ _ _ _ (sel_false (decide_eq_false (by omega)) ?_)
   exact fin ol so _ _ w1 hz ho hm H (by simp) (λw' H'=>⟨(H'.get 3:OwnRow _ _ _ _ _).rdn,λb hb=>.inl ((H'.new _ (qmG (i:=3) rfl) b (rdn_own hb)).resolve_right id)⟩)
  |succ d ihd=>
   intro i so ol w1 hi hz ho hm hs H
   have hg:fl[i]? =some fl[i]:=qgE (by omega)
   generalize fl[i]'(by omega)=t at hg
   have mt:=qmG hg
   have szt:=Rt.szs_mem mt
   have etk:fl.take (i+1)=fl.take i++[t]:=by rw [qtO,hg];rfl
   have szk:Rt.szs (fl.take (i+1))=Rt.szs (fl.take i)+t.sz:=by rw [etk,szs_app];rfl
   have szl:=szs_take_le fl (i+1)
   refine enthymemeref04_normal.L3T_step _ _ _ _ _ _ _ _ _ _ _ _ _ _ _ _ _ _ _ _ _ (sel_true (decide_eq_true (by omega)) ⟨by omega,by omega,Rt.at' (lst_P.1 (show (lstT sf fl).P w1 from H.getD 2)).1 hg λp hp _=>H.locg λw2 H2=>?_⟩)
   have p2:(lstT sf fl).P w2:=H2.getD 2
   have c2:=Rt.again (lst_P.1 p2).1 hg hp
   refine ⟨_,_,_,_,c2.c0,c2.c1,c2.c2,c2.c3,H2.callg (c_refCompare t z w2 (by omega) ((lst_P.1 p2).2.mem mt) (hzP w2 (H2.getD 1))) ?_⟩
   rintro _ w3 rfl H3
   refine ⟨_,rfl,sel_eq (λh0=>H3.locg λw4 H4=>⟨⟨z,rfl,?_,hzP w4 (H4.getD 1),λb hb=>.inl (hzf b hb)⟩,H4.fr⟩) (λh0=>?_)⟩
   .exact (ej1 t mt (cmp_iff0.1 h0)).symm
   refine ⟨by omega,by omega,Rt.at' (lst_P.1 (show (lstT sf fl).P w3 from H3.getD 2)).1 hg λp hp _=>H3.locg λw5 H5=>?_⟩
   have p5:(lstT sf fl).P w5:=H5.getD 2
   have c5:=Rt.again (lst_P.1 p5).1 hg hp
   refine ⟨_,_,_,_,c5.c0,c5.c1,c5.c2,c5.c3,H5.callg (c_refCompare t u w5 (by omega) ((lst_P.1 p5).2.mem mt) (huP w5 (H5.getD 1))) ?_⟩
   rintro _ w6 rfl H6
   have hz':∀t'∈fl.take (i+1),t'.rx≠z.rx:=λt' ht'=>by
    rw [etk] at ht'
    rcases qmA.1 ht' with ht'|ht'
    .exact hz t' ht'
    .simp at ht';subst ht';exact λe=>h0 (cmp_iff0.2 e)
   refine ⟨_,rfl,sel_eq (λh1=>?_) (λh1=>sel_true (beq_iff_eq.2 hk) ?_)⟩
   .show enthymemeref04_normal.L3T _ _ _ _ _ _ _ _ _ _ _ _ _ _ _ _ _ _ _ _ _
    rw [i64_next _ (by omega)]
    refine ihd (i+1) so ol w6 (by omega) hz' ?_ hm (by omega) H6
    rw [etk,qmpA,List.filter_append,ho]
    have e0:([t].map Rt.rx).filter (λt=>!(cmpR t u.rx==0))=[]:=by
     show [t.rx].filter _=[]
     rw [List.filter_cons_of_neg (by rw [h1];simp)]
     rfl
    rw [e0,List.append_nil]
   .have ef:((fl.take (i+1)).map Rt.rx).filter (λt=>!(cmpR t u.rx==0))=(((fl.take i).map Rt.rx).filter λt=>!(cmpR t u.rx==0))++[t.rx]:=by
     rw [etk,qmpA,List.filter_append]
     congr 1
     show [t.rx].filter _=[t.rx]
     rw [List.filter_cons_of_pos (by simpa using h1)]
     rfl
    refine ⟨by omega,by omega,Rt.at' (lst_P.1 (show (lstT sf fl).P w6 from H6.getD 2)).1 hg λp hp c=>⟨_,_,_,_,c.c0,c.c1,c.c2,c.c3,?_⟩⟩
    have nrow:=Rt.rows_n (H6.get 3:OwnRow _ _ _ _ _).rdn
    have lol:=Rt.szs_len ol
    refine H6.ap1T 3 el_rf9 (xs:=ol.flatMap Rt.c) rfl (λs' w7 H7=>?_) (by omega)
    show enthymemeref04_normal.L3T _ _ _ _ _ _ _ _ _ _ _ _ _ _ _ _ _ _ _ _ _
    rw [i64_next _ (by omega)]
    refine ihd (i+1) s' (ol++[t]) w7 (by omega) hz' ?_ (λt' ht'=>?_) (by rw [szs_app];show _+(t.sz+0)<=_;omega) ?_
    .rw [ef,outX_snoc,if_pos hk,qmpA,ho];rfl
    .rcases qmA.1 ht' with ht'|ht'
     .exact hm t' ht'
     .simp at ht';subst ht';exact mt
    .rw [cs_snoc];exact H7
 have loopB:x.k≠3->∀(d i:Nat) (so:Sl) (ol:List Rt) (w1:World),i+d=fl.length->(∀t∈fl.take i,t.rx≠z.rx)->ol.map Rt.rx=outX x.k [] (((fl.take i).map Rt.rx).filter λt=>!(cmpR t u.rx==0))->(∀t∈ol,t∈fl)->Rt.szs ol<=Rt.szs (fl.take i)->(∀b∈(lstT so ol).fp,w.heap.size<=b\/b∈x.fp)->
   LH F0 w w1 [.g b4,.g b8,.g b9] [.tree x,.tree ev,.tree (lstT sf fl),.tree (lstT so ol)]->enthymemeref04_normal.L3T x.k b4 0 0 0 ⟨none,0,0⟩ sf b8 u.k u.lo.toNat u.hi.toNat u.s b9 z.k z.lo.toNat z.hi.toNat z.s so (i:Int) w1 R:=by
  intro hk d
  induction d with
  |zero=>
   intro i so ol w1 hi hz ho hm hs hnb H
   rw [qtOL (by omega)] at hz ho
   refine enthymemeref04_normal.L3T_step _ _ _ _ _ _ _ _ _ _ _ _ _ _ _ _ _ _ _ _ _ (sel_false (decide_eq_false (by omega)) ?_)
   exact fin ol so _ _ w1 hz ho hm H (by simp) (λw' H'=>⟨(lst_P.1 (show (lstT so ol).P w' from H'.getD 3)).1,λb hb=>hnb b (lst_fp.2 (.inl hb))⟩)
  |succ d ihd=>
   intro i so ol w1 hi hz ho hm hs hnb H
   have hg:fl[i]? =some fl[i]:=qgE (by omega)
   generalize fl[i]'(by omega)=t at hg
   have mt:=qmG hg
   have szt:=Rt.szs_mem mt
   have etk:fl.take (i+1)=fl.take i++[t]:=by rw [qtO,hg];rfl
   have szk:Rt.szs (fl.take (i+1))=Rt.szs (fl.take i)+t.sz:=by rw [etk,szs_app];rfl
   have szl:=szs_take_le fl (i+1)
   refine enthymemeref04_normal.L3T_step _ _ _ _ _ _ _ _ _ _ _ _ _ _ _ _ _ _ _ _ _ (sel_true (decide_eq_true (by omega)) ⟨by omega,by omega,Rt.at' (lst_P.1 (show (lstT sf fl).P w1 from H.getD 2)).1 hg λp hp _=>H.locg λw2 H2=>?_⟩)
   have p2:(lstT sf fl).P w2:=H2.getD 2
   have c2:=Rt.again (lst_P.1 p2).1 hg hp
   refine ⟨_,_,_,_,c2.c0,c2.c1,c2.c2,c2.c3,H2.callg (c_refCompare t z w2 (by omega) ((lst_P.1 p2).2.mem mt) (hzP w2 (H2.getD 1))) ?_⟩
   rintro _ w3 rfl H3
   refine ⟨_,rfl,sel_eq (λh0=>H3.locg λw4 H4=>⟨⟨z,rfl,?_,hzP w4 (H4.getD 1),λb hb=>.inl (hzf b hb)⟩,H4.fr⟩) (λh0=>?_)⟩
   .exact (ej1 t mt (cmp_iff0.1 h0)).symm
   refine ⟨by omega,by omega,Rt.at' (lst_P.1 (show (lstT sf fl).P w3 from H3.getD 2)).1 hg λp hp _=>H3.locg λw5 H5=>?_⟩
   have p5:(lstT sf fl).P w5:=H5.getD 2
   have c5:=Rt.again (lst_P.1 p5).1 hg hp
   refine ⟨_,_,_,_,c5.c0,c5.c1,c5.c2,c5.c3,H5.callg (c_refCompare t u w5 (by omega) ((lst_P.1 p5).2.mem mt) (huP w5 (H5.getD 1))) ?_⟩
   rintro _ w6 rfl H6
   have hz':∀t'∈fl.take (i+1),t'.rx≠z.rx:=λt' ht'=>by
    rw [etk] at ht'
    rcases qmA.1 ht' with ht'|ht'
    .exact hz t' ht'
    .simp at ht';subst ht';exact λe=>h0 (cmp_iff0.2 e)
   refine ⟨_,rfl,sel_eq (λh1=>?_) (λh1=>sel_false (by simpa using hk) ?_)⟩
   .show enthymemeref04_normal.L3T _ _ _ _ _ _ _ _ _ _ _ _ _ _ _ _ _ _ _ _ _
    rw [i64_next _ (by omega)]
    refine ihd (i+1) so ol w6 (by omega) hz' ?_ hm (by omega) hnb H6
    rw [etk,qmpA,List.filter_append,ho]
    have e0:([t].map Rt.rx).filter (λt=>!(cmpR t u.rx==0))=[]:=by
     show [t.rx].filter _=[]
     rw [List.filter_cons_of_neg (by rw [h1];simp)]
     rfl
    rw [e0,List.append_nil]
   .have ef:((fl.take (i+1)).map Rt.rx).filter (λt=>!(cmpR t u.rx==0))=(((fl.take i).map Rt.rx).filter λt=>!(cmpR t u.rx==0))++[t.rx]:=by
     rw [etk,qmpA,List.filter_append]
     congr 1
     show [t.rx].filter _=[t.rx]
     rw [List.filter_cons_of_pos (by simpa using h1)]
     rfl
    refine ⟨by omega,by omega,Rt.at' (lst_P.1 (show (lstT sf fl).P w6 from H6.getD 2)).1 hg λp hp c=>⟨_,_,_,_,c.c0,c.c1,c.c2,c.c3,?_⟩⟩
    refine callF0 ((c_put so ol t w6 (by omega) (by omega) (H6.getD 3) ((lst_P.1 (show (lstT sf fl).P w6 from H6.getD 2)).2.mem mt)).mono ?_)
    rintro _ w7 ⟨⟨s',rfl,pl',nb'⟩,f7⟩
    refine ⟨f7,?_⟩
    have nb2:∀b∈(lstT s' (putT t ol)).fp,w.heap.size<=b\/b∈x.fp:=λb hb=>by
     rcases nb' b hb with hb|hb
     .exact .inl (Nat.le_trans H6.fr.size hb)
     .rcases qmA.1 hb with hb|hb
      .exact hnb b hb
      .exact .inr (hsub.fp t mt b hb)
    have H8:LH F0 w w7 [.g b4,.g b8,.g b9] [.tree x,.tree ev,.tree (lstT sf fl),.tree (lstT so ol),.tree (lstT s' (putT t ol))]:=H6.addD _ f7 pl' λb hb=>by
     rcases nb' b (mem_nub.1 hb) with hb|hb
     .exact .inl hb
     .rcases qmA.1 hb with hb|hb
      .exact .inr (.inr ⟨_,qmG (i:=3) rfl,mem_nub.2 hb⟩)
      .exact .inr (.inr ⟨_,qmG (i:=0) rfl,mem_nub.2 (hsub.fp t mt b hb)⟩)
    refine ⟨s',rfl,?_⟩
    show enthymemeref04_normal.L3T _ _ _ _ _ _ _ _ _ _ _ _ _ _ _ _ _ _ _ _ _
    rw [i64_next _ (by omega)]
    refine ihd (i+1) s' (putT t ol) w7 (by omega) hz' ?_ (λt' ht'=>?_) (by have:=putT_szs t ol;omega) nb2 (H8.forget _ (by simp))
    .rw [ef,outX_snoc,if_neg hk,put_rx,ho]
    .rcases putT_mem ht' with rfl|ht'
     .exact mt
     .exact hm t' ht'
 by_cases hk:x.k=3
 .exact loopA hk fl.length 0 ⟨none,0,0⟩ [] w1 (by omega) (by simp) (by simp [outX]) (by simp) (by simp [Rt.szs]) (H.nilrow ty_enthymemeref04_Regex 4)
 .refine loopB hk fl.length 0 ⟨none,0,0⟩ [] w1 (by omega) (by simp) (by simp [outX]) (by simp) (by simp [Rt.szs]) (λb hb=>?_) (H.addD (.tree (lstT ⟨none,0,0⟩ [])) (Fr.refl _ _) (lst_P.2 ⟨RdN.nil 4 w1,by unfold Rt.Ps;trivial⟩) λb hb=>?_)
  .rcases lst_fp.1 hb with hb|hb
   .simp [Rt.row,En.rdn] at hb
   .unfold Rt.fps at hb;cases hb
  .rcases lst_fp.1 (mem_nub.1 hb) with hb|hb
   .simp [Rt.row,En.rdn] at hb
   .unfold Rt.fps at hb;cases hb
end
theorem c_refnorm (x:Rt) (hk:3<=x.k/\x.k<=7) (hx:x.sz<=10000) (hok:formOk (.mk x.k 0 0 (Rt.rxs x.l))=true) (hpos:∀c∈x.l,0<=c.k) (w:World) (px:x.P w):
  Calls Tryz.prog n_enthymemeref04_normal #[.i x.k,x.s.v] w λr w'=>RetF x.fp w (formX (.mk x.k 0 0 (Rt.rxs x.l))) r w'/\Fr0 w w':=by
 have nr:=Rt.rows_n px.parts.1
 have hszx:=Rt.sz_parts x
 have hll:=Rt.szs_len x.l
 refine enthymemeref04_normal.okT _ _ w _ ((lhT px).newg λb4 w1 H1=>H1.callr (c_every w1) ?_)
 rintro _ w2 ⟨ev,rfl,hev,pev,nev⟩ H2 F2
 have H3:LH F0 w w2 [.g b4] [.tree x,.tree ev]:=F2.rd (.tree ev) pev λb hb=>nev b (mem_nub.1 hb)
 have nev':∀b∈ev.fp,w.heap.size<=b:=λb hb=>Nat.le_trans H1.fr.size (nev b hb)
 have pc:∀{w':World} {c:Rt},x.P w'->x.l[0]? =some c->c.P w':=λh hg=>h.parts.2.mem (qmG hg)
 have fc:∀{c:Rt},x.l[0]? =some c->∀b∈c.fp,b∈x.fp:=λhg b hb=>Rt.fp_parts.2 (.inr (Rt.fps_iff.2 ⟨_,qmG hg,hb⟩))
 refine ⟨_,_,_,ev.s,rfl,H3.newg λb5 w3 H4=>sel_eq (λh6=>?_) (λh6=>sel_eq (λh7=>?_) (λh7=>H4.locg λw4 H5=>?_))⟩
 .
  cases hl:x.l with
  |nil=>rw [hl,h6] at hok;simp [formOk,Rt.rxs] at hok
  |cons c l'=>
   have hg:x.l[0]? =some c:=by rw [hl];rfl
   have n2:0<x.s.n:=by rw [hl] at nr;simp at nr;omega
   have e1:Rt.rxs (c::l')=c.rx::Rt.rxs l':=rfl
   have ef:formX (.mk x.k 0 0 (Rt.rxs (c::l')))=notX 0 0 (c.rx::Rt.rxs l'):=by rw [h6];rfl
   rw [ef]
   refine ⟨by omega,by omega,Rt.at' (show x.P w3 from H4.getD 0).parts.1 hg λp hp _=>H4.locg λw5 H5=>?_⟩
   have px5:x.P w5:=H5.getD 0
   have cc:=Rt.again px5.parts.1 hg hp
   refine ⟨c.k,cc.c0,sel_eq (λhc6=>⟨by omega,by omega,Rt.at' px5.parts.1 hg λp hp cc=>⟨c.s,cc.c3,?_⟩⟩) (λhc6=>H5.locg λw6 H6=>⟨⟨.mk 6 0 0 x.s x.l,rfl,?_,?_,λb hb=>.inr ?_⟩,H6.fr⟩)⟩
   .cases hcl:c.l with
    |nil=>
     rw [hl,e1] at hok
     have e2:c.rx.l.isEmpty=true:=by rw [rx_l,hcl];rfl
     simp [formOk,h6,rx_k,hc6,e2] at hok
    |cons d l2=>
     have hgd:c.l[0]? =some d:=by rw [hcl];rfl
     refine part_el (pc px5 hg) rfl hgd (H5.locg λw6 H6=>⟨⟨d,rfl,?_,(pc (H6.getD 0) hg).parts.2.mem (qmG hgd),λb hb=>.inr (fc hg b (Rt.fp_parts.2 (.inr (Rt.fps_iff.2 ⟨d,qmG hgd,hb⟩))))⟩,H6.fr⟩)
     show d.rx=if c.rx.k=6 then _ else _
     rw [if_pos (by rw [rx_k,hc6]),rx_l,hcl];rfl
   .show Rx.mk 6 0 0 (Rt.rxs x.l)=if c.rx.k=6 then _ else _
    rw [if_neg (by rw [rx_k];exact hc6),hl,e1]
   .unfold Rt.P
    exact (show x.P w6 from H6.getD 0).parts
   .unfold Rt.fp at hb
    exact Rt.fp_parts.2 (qmA.1 hb)
 .
  cases hl:x.l with
  |nil=>rw [hl,h7] at hok;simp [formOk,Rt.rxs] at hok
  |cons c l'=>
   have hg:x.l[0]? =some c:=by rw [hl];rfl
   have n2:0<x.s.n:=by rw [hl] at nr;simp at nr;omega
   have e1:Rt.rxs (c::l')=c.rx::Rt.rxs l':=rfl
   have ef:formX (.mk x.k 0 0 (Rt.rxs (c::l')))=starX 0 0 (c.rx::Rt.rxs l'):=by rw [h7];rfl
   rw [ef]
   have est:starX 0 0 (c.rx::Rt.rxs l')=if c.k=0\/c.k=1 then emptyX else if c.k=7\/cmpR c.rx everyX=0 then c.rx else .mk 7 0 0 (c.rx::Rt.rxs l'):=by
    unfold starX
    simp only [rx_k]
   have szc:c.sz<=1000000:=by have:=Rt.szs_mem (qmG hg);omega
   have s0:∀(w6:World),¬(c.k=0\/c.k=1)->(c.k=7\/cmpR c.rx everyX=0)->LH F0 w w6 [.g b4,.g b5] [.tree x,.tree ev]->enthymemeref04_normal.S0T x.s b4 0 0 0 ⟨none,0,0⟩ w6 λr w'=>RetF x.fp w (starX 0 0 (c.rx::Rt.rxs l')) r w'/\Fr0 w w':=by
    intro w6 h1 h2 H6
    refine ⟨by omega,by omega,Rt.at' (show x.P w6 from H6.getD 0).parts.1 hg λp hp cc=>⟨_,_,_,_,cc.c0,cc.c1,cc.c2,cc.c3,(H6.take 1).locg λw7 H7=>⟨⟨c,rfl,?_,pc (H7.getD 0) hg,λb hb=>.inr (fc hg b hb)⟩,H7.fr⟩⟩⟩
    rw [est,if_neg h1,if_pos h2]
   refine ⟨by omega,by omega,Rt.at' (show x.P w3 from H4.getD 0).parts.1 hg λp hp _=>H4.locg λw5 H5=>?_⟩
   have px5:x.P w5:=H5.getD 0
   have cc:=Rt.again px5.parts.1 hg hp
   have hk0:0<=c.k:=hpos c (qmG hg)
   refine ⟨c.k,cc.c0,sel_dec (λh2=>H5.locg λw6 H6=>⟨⟨emptyT,rfl,?_,empty_P w6,λb hb=>(empty_fp hb).elim⟩,H6.fr⟩) (λh2=>?_)⟩
   .rw [est,if_pos (by omega)];rfl
   refine ⟨by omega,by omega,Rt.at' px5.parts.1 hg λp hp _=>H5.locg λw6 H6=>?_⟩
   have px6:x.P w6:=H6.getD 0
   have cc:=Rt.again px6.parts.1 hg hp
   refine ⟨c.k,cc.c0,sel_eq (λhc7=>s0 w6 (by omega) (.inl hc7) H6) (λhc7=>⟨by omega,by omega,Rt.at' px6.parts.1 hg λp hp cc=>⟨_,_,_,_,cc.c0,cc.c1,cc.c2,cc.c3,H6.callg (c_refCompare c ev w6 szc (pc px6 hg) (H6.getD 1)) ?_⟩⟩)⟩
   rintro _ w7 rfl H7
   rw [hev]
   refine ⟨_,rfl,sel_eq (λh0=>s0 w7 (by omega) (.inr h0) H7) (λh0=>H7.locg λw8 H8=>⟨⟨.mk 7 0 0 x.s x.l,rfl,?_,?_,λb hb=>.inr ?_⟩,H8.fr⟩)⟩
   .show Rx.mk 7 0 0 (Rt.rxs x.l)=_
    rw [est,if_neg (by omega),if_neg (λh=>h.elim hc7 h0),hl,e1]
   .unfold Rt.P
    exact (show x.P w8 from H8.getD 0).parts
   .unfold Rt.fp at hb
    exact Rt.fp_parts.2 (qmA.1 hb)
 .
  have h345:x.k=3\/x.k=4\/x.k=5:=by omega
  obtain ⟨j,u,z,ew,hj,gu,gz,hu,hzc,huz,hform⟩:=uz_k x ev h345 hev
  have loop:∀(d i:Nat) (acc:List Rt) (sl:Sl) (w1:World),i+d=x.l.length->acc=(x.l.take i).flatMap (openT x)->LH F0 w w1 [.g b4,.g b5,.row ty_enthymemeref04_Regex 4 sl (acc.flatMap Rt.c)] [.tree x,.tree ev]->
    enthymemeref04_normal.L1T x.k x.s b4 0 0 0 ⟨none,0,0⟩ b5 ev.k ev.lo.toNat ev.hi.toNat ev.s sl (i:Int) w1 λr w'=>RetF x.fp w (formX (.mk x.k 0 0 (Rt.rxs x.l))) r w'/\Fr0 w w':=by
   intro d
   induction d with
   |zero=>
    intro i acc sl w1 hi ha H
    rw [qtOL (by omega)] at ha
    subst ha
    have hsub0:Sub x (x.l.flatMap (openT x)):=Sub.flat λ_ h=>h
    have H':=(H.addD (.trees (x.l.flatMap (openT x))) (Fr.refl _ _) (hsub0.Ps (H.getD 0)) (λb hb=>.inr (.inr ⟨_,qmG (i:=0) rfl,mem_nub.2 (hsub0.fps (mem_nub.1 hb))⟩))).rowT 2 2 0 0 0
    have H':LH F0 w w1 [.g b4,.g b5] [.tree x,.tree ev,.tree (lstT sl (x.l.flatMap (openT x)))]:=H'.forget _ (by simp)
    refine enthymemeref04_normal.L1T_step _ _ _ _ _ _ _ _ _ _ _ _ _ _ _ _ (sel_false (decide_eq_false (by omega)) ?_)
    refine H'.nwrow (n:=3) (sz:=4) (cs:=[emptyT,noT,ev].flatMap Rt.c) rfl (by decide) λw2 H2=>?_
    rw [ew]
    refine ⟨by omega,by omega,Rt.at' (s:=⟨some (at0 w1.heap.size),3,3⟩) (l:=[emptyT,noT,ev]) (H2.get 2:OwnRow _ _ _ _ _).rdn gu λp hp c=>⟨_,_,_,_,c.c0,c.c1,c.c2,c.c3,H2.newg λb8 w3 H3=>H3.locg λw4 H4=>H4.nwrow (n:=3) (sz:=4) (cs:=[noT,ev,noT].flatMap Rt.c) rfl (by decide) λw5 H5=>⟨by omega,by omega,Rt.at' (s:=⟨some (at0 w4.heap.size),3,3⟩) (l:=[noT,ev,noT]) (H5.get 4:OwnRow _ _ _ _ _).rdn gz λp hp c=>⟨_,_,_,_,c.c0,c.c1,c.c2,c.c3,H5.newg λb9 w6 H6=>H6.locg λw7 H7=>?_⟩⟩⟩⟩
    have H8:=((H7.freeze 1 (.g b5) rfl (H7.get 1) λb hb=>hb).freeze 1 _ rfl (H7.get 2) λb hb=>hb).freeze 2 _ rfl (H7.get 4) λb hb=>hb
    exact rn_loop hx hev nev' hu hzc huz hform (H8.forget _ (by simp))
   |succ d ihd=>
    intro i acc sl w1 hi ha H
    have hg:x.l[i]? =some (x.l[i]'(by omega)):=qgE (by omega)
    generalize x.l[i]'(by omega)=a at hg
    have hm:=qmG hg
    have pt1:x.P w1:=H.getD 0
    have sza:=Rt.szs_mem hm
    have hsz:Rt.szs acc<=Rt.szs x.l:=by
     have h1:=szs_open x (x.l.take i)
     have h2:=szs_take_le x.l i
     rw [ha];omega
    have hnx:acc++openT x a=(x.l.take (i+1)).flatMap (openT x):=by rw [qtO,hg,qfA,ha];simp
    have nrow:=Rt.rows_n (H.get 2:OwnRow _ _ _ _ _).rdn
    have hla:=Rt.szs_len acc
    have tail:∀(s':Sl) (w':World),LH F0 w w' [.g b4,.g b5,.row ty_enthymemeref04_Regex 4 s' ((acc++openT x a).flatMap Rt.c)] [.tree x,.tree ev]->enthymemeref04_normal.S2T x.k x.s b4 0 0 0 ⟨none,0,0⟩ b5 ev.k ev.lo.toNat ev.hi.toNat ev.s s' (i:Int) w' λr w'=>RetF x.fp w (formX (.mk x.k 0 0 (Rt.rxs x.l))) r w'/\Fr0 w w':=by
     intro s' w' H'
     show enthymemeref04_normal.L1T _ _ _ _ _ _ _ _ _ _ _ _ _ _ _ _
     rw [i64_next _ (by omega)]
     exact ihd (i+1) _ s' w' (by omega) hnx H'
    refine enthymemeref04_normal.L1T_step _ _ _ _ _ _ _ _ _ _ _ _ _ _ _ _ (sel_true (decide_eq_true (by omega)) ⟨by omega,by omega,Rt.at' pt1.parts.1 hg λp hp c=>⟨a.k,c.c0,sel_eq (λhk=>?_) (λhk=>?_)⟩⟩)
    .have pa:a.P w1:=pt1.parts.2.mem hm
     have na:=Rt.rows_n pa.parts.1
     have hla:=Rt.szs_len a.l
     have hsa:=Rt.sz_parts a
     refine ⟨by omega,by omega,Rt.at' pt1.parts.1 hg λp hp c=>⟨a.s,c.c3,?_⟩⟩
     refine H.apT 2 el_rf9 (xs:=acc.flatMap Rt.c) (src:=a.s) (news:=a.l.flatMap Rt.c) rfl pa.parts.1 (c_one _) (by omega) (λs' w4 H4=>?_)
     refine tail s' w4 ?_
     have e:openT x a=a.l:=if_pos hk
     rw [e,qfA]
     exact H4
    .refine ⟨by omega,by omega,Rt.at' pt1.parts.1 hg λp hp c=>⟨_,_,_,_,c.c0,c.c1,c.c2,c.c3,?_⟩⟩
     refine H.ap1T 2 el_rf9 (xs:=acc.flatMap Rt.c) rfl (λs' w4 H4=>?_) (by omega)
     refine tail s' w4 ?_
     have e:openT x a=[a]:=if_neg hk
     rw [e,cs_snoc]
     exact H4
  exact loop x.l.length 0 [] ⟨none,0,0⟩ w4 (by omega) rfl (H5.nilrow ty_enthymemeref04_Regex 4)
def uX (k:Int):Rx:=if k=3 then emptyX else if k=4 then noR else everyX
def zX (k:Int):Rx:=if k=4 then everyX else noR
mutual
def NF:Rx->Prop
 |.mk k lo hi l=>NFs l/\(k≠2->lo=0/\hi=0)/\(((k=0\/k=1)/\l=[])\/(k=2/\l=[]/\lo.toNat<=hi.toNat)\/
   ((k=3\/k=4\/k=5)/\2<=l.length/\(k≠3->Inc l)/\∀t∈l,t.k≠k/\t≠uX k/\t≠zX k)\/
   (k=6/\∃c,l=[c]/\c.k≠6)\/(k=7/\∃c,l=[c]/\c.k≠0/\c.k≠1/\c.k≠7/\c≠everyX))
def NFs:List Rx->Prop
 |[]=>True
 |a::l=>NF a/\NFs l
end
theorem NFs_iff:∀{l:List Rx},NFs l↔∀t∈l,NF t
 |[]=>by unfold NFs;simp
 |a::l=>by unfold NFs;rw [NFs_iff];simp
theorem nf_no:NF noR:=by unfold noR NF NFs;simp
theorem nf_empty:NF emptyX:=by unfold emptyX NF NFs;simp
theorem nf_every:NF everyX:=by
 unfold everyX NF NFs NFs
 refine ⟨⟨nf_no,trivial⟩,by simp,.inr (.inr (.inr (.inl ⟨rfl,noR,rfl,by decide⟩)))⟩
theorem nf_uX (k:Int):NF (uX k):=by
 unfold uX
 split
 .exact nf_empty
 .split
  .exact nf_no
  .exact nf_every
theorem nf_zX (k:Int):NF (zX k):=by
 unfold zX
 split
 .exact nf_every
 .exact nf_no
theorem nf_l {x:Rx} (h:NF x):∀t∈x.l,NF t:=by
 cases x
 unfold NF at h
 exact NFs_iff.1 h.1
theorem nf_join {x:Rx} {k:Int} (hk:k=3\/k=4\/k=5) (h:NF x) (hx:x.k=k):2<=x.l.length/\(k≠3->Inc x.l)/\∀t∈x.l,t.k≠k/\t≠uX k/\t≠zX k:=by
 cases x with
 |mk k' lo hi l=>
  have hx:k'=k:=hx
  subst hx
  unfold NF at h
  obtain ⟨-,-,h|h|h|h|h⟩:=h
  .omega
  .omega
  .exact h.2
  .omega
  .omega
theorem flatX_mem {k:Int} {l:List Rx} {u t:Rx}:t∈flatX k l u↔(∃c∈l,if c.k=k then t∈c.l else t=c)/\t≠u:=by
 unfold flatX
 rw [List.mem_filter,List.mem_flatMap,cmp_ne]
 refine and_congr ⟨λ⟨c,hc,h⟩=>⟨c,hc,?_⟩,λ⟨c,hc,h⟩=>⟨c,hc,?_⟩⟩ Iff.rfl
 .split at h
  .rename_i e;rw [if_pos e];exact h
  .rename_i e;rw [if_neg e];simpa using h
 .split at h
  .rename_i e;rw [if_pos e];exact h
  .rename_i e;rw [if_neg e];simpa using h
theorem flat_nf {k:Int} (hk:k=3\/k=4\/k=5) {l:List Rx} (h:∀c∈l,NF c) {t:Rx} (ht:t∈flatX k l (uX k)):NF t/\t.k≠k/\t≠uX k:=by
 obtain ⟨⟨c,hc,h1⟩,h2⟩:=flatX_mem.1 ht
 split at h1
 .rename_i e
  exact ⟨nf_l (h c hc) t h1,((nf_join hk (h c hc) e).2.2 t h1).1,h2⟩
 .rename_i e
  subst h1
  exact ⟨h t hc,e,h2⟩
def restX (k:Int) (l:List Rx):List Rx:=if k=3 then flatX k l (uX k) else setX (flatX k l (uX k))
theorem restX_mem {k:Int} {l:List Rx} {t:Rx}:t∈restX k l↔t∈flatX k l (uX k):=by
 unfold restX
 split
 .exact Iff.rfl
 .exact setX_mem
theorem joinX_any (k:Int) (l:List Rx):((flatX k l (uX k)).any λt=>cmpR t (zX k)==0)=true↔zX k∈flatX k l (uX k):=by
 rw [List.any_eq_true]
 constructor
 .rintro ⟨t,ht,h⟩
  rw [cmp_iff.1 h] at ht
  exact ht
 .exact λh=>⟨_,h,cmp_iff.2 rfl⟩
theorem joinX_z {k:Int} {l:List Rx} (h:zX k∈flatX k l (uX k)):joinX k l (uX k) (zX k)=zX k:=by
 unfold joinX
 rw [if_pos ((joinX_any k l).2 h)]
theorem joinX_f {k:Int} {l:List Rx} (h:¬zX k∈flatX k l (uX k)):joinX k l (uX k) (zX k)=fewX k (uX k) (restX k l):=by
 unfold joinX
 rw [if_neg (λh'=>h ((joinX_any k l).1 h'))]
 rfl
theorem join_nf {k:Int} (hk:k=3\/k=4\/k=5) {l:List Rx} (h:∀c∈l,NF c):NF (joinX k l (uX k) (zX k)):=by
 by_cases hz:zX k∈flatX k l (uX k)
 .rw [joinX_z hz]
  exact nf_zX k
 .rw [joinX_f hz]
  have hm:∀t∈restX k l,NF t/\t.k≠k/\t≠uX k/\t≠zX k:=λt ht=>by
   have ht:=restX_mem.1 ht
   obtain ⟨h1,h2,h3⟩:=flat_nf hk h ht
   exact ⟨h1,h2,h3,λe=>hz (e▸ht)⟩
  have hinc:k≠3->Inc (restX k l):=λh3=>by
   unfold restX
   rw [if_neg h3]
   exact setX_inc _
  generalize restX k l=m at hm hinc
  unfold fewX
  split
  .exact nf_uX k
  .exact (hm _ (by simp)).1
  .rename_i h0 h1
   unfold NF
   refine ⟨NFs_iff.2 λt ht=>(hm t ht).1,λ_=>⟨rfl,rfl⟩,.inr (.inr (.inl ⟨hk,?_,hinc,λt ht=>(hm t ht).2⟩))⟩
   cases m with
   |nil=>exact absurd rfl h0
   |cons a m=>
    cases m with
    |nil=>exact absurd rfl (h1 a)
    |cons b m=>simp
theorem formX_join {k:Int} (hk:k=3\/k=4\/k=5) (lo hi:UInt8) (l:List Rx):formX (.mk k lo hi l)=joinX k l (uX k) (zX k):=by
 rcases hk with rfl|rfl|rfl<;>rfl
theorem not_nf {c:Rx} (h:NF c):NF (notX 0 0 [c]):=by
 unfold notX
 simp only
 split
 .rename_i e
  split
  .exact nf_no
  .rename_i d m hm
   exact nf_l h d (by rw [hm];simp)
 .rename_i e
  unfold NF
  exact ⟨NFs_iff.2 λt ht=>by (simp at ht;subst ht;exact h),λ_=>⟨rfl,rfl⟩,.inr (.inr (.inr (.inl ⟨rfl,c,rfl,e⟩)))⟩
theorem star_nf {c:Rx} (h:NF c):NF (starX 0 0 [c]):=by
 unfold starX
 simp only
 split
 .exact nf_empty
 .rename_i e
  split
  .exact h
  .rename_i e2
   unfold NF
   exact ⟨NFs_iff.2 λt ht=>by (simp at ht;subst ht;exact h),λ_=>⟨rfl,rfl⟩,.inr (.inr (.inr (.inr ⟨rfl,c,rfl,λh=>e (.inl h),λh=>e (.inr h),λh=>e2 (.inl h),λh=>e2 (.inr (cmp_iff0.2 h))⟩)))⟩
theorem good_mk {k:Int} {lo hi:UInt8} {l:List Rx} (h:goodR (.mk k lo hi l)=true):goodL l=true/\(k≠2->lo=0/\hi=0)/\(((k=0\/k=1)/\l=[])\/(k=2/\l=[]/\lo.toNat<=hi.toNat)\/(k=3\/k=4\/k=5)\/((k=6\/k=7)/\∃c,l=[c])):=by
 unfold goodR at h
 rw [Bool.and_eq_true] at h
 obtain ⟨h1,h2⟩:=h
 have hlo:k≠2->lo=0/\hi=0:=λhk=>by
  have e:(k !=2)=true:=by simpa using hk
  rw [e,Bool.true_and,Bool.not_eq_true',Bool.or_eq_false_iff] at h1
  simpa using h1
 split at h2
 .rename_i hk
  have:l=[]:=by simpa using h2
  subst this
  exact ⟨rfl,hlo,.inl ⟨hk,rfl⟩⟩
 .split at h2
  .rename_i hk
   simp only [Bool.and_eq_true,decide_eq_true_eq] at h2
   have:l=[]:=by simpa using h2.1
   subst this
   exact ⟨rfl,hlo,.inr (.inl ⟨hk,rfl,h2.2⟩)⟩
  .split at h2
   .rename_i hk
    exact ⟨h2,hlo,.inr (.inr (.inl hk))⟩
   .split at h2
    .rename_i hk
     simp only [Bool.and_eq_true] at h2
     exact ⟨h2.2,hlo,.inr (.inr (.inr ⟨hk,List.length_eq_one_iff.1 (eq_of_beq h2.1)⟩))⟩
    .cases h2
theorem good_of {k:Int} {lo hi:UInt8} {l:List Rx} (h1:goodL l=true) (h2:k≠2->lo=0/\hi=0) (h3:((k=0\/k=1)/\l=[])\/(k=2/\l=[]/\lo.toNat<=hi.toNat)\/(k=3\/k=4\/k=5)\/((k=6\/k=7)/\∃c,l=[c])):goodR (.mk k lo hi l)=true:=by
 unfold goodR
 rw [Bool.and_eq_true]
 constructor
 .by_cases hk:k=2
  .subst hk;rfl
  .obtain ⟨rfl,rfl⟩:=h2 hk
   simp
 .rcases h3 with ⟨hk,rfl⟩|⟨rfl,rfl,hle⟩|hk|⟨hk,c,rfl⟩
  .rw [if_pos hk];rfl
  .rw [if_neg (by omega),if_pos rfl];simpa using hle
  .rw [if_neg (by omega),if_neg (by omega),if_pos hk];exact h1
  .rw [if_neg (by omega),if_neg (by omega),if_neg (by omega),if_pos hk];simpa using h1
theorem nf_range {lo hi:UInt8} (h:lo.toNat<=hi.toNat):NF (.mk 2 lo hi []):=by
 unfold NF NFs
 exact ⟨trivial,λh=>absurd rfl h,.inr (.inl ⟨rfl,rfl,h⟩)⟩
mutual
theorem norm_nf:∀x:Rx,goodR x=true->NF (normX x)
 |.mk k lo hi l,h=>by
  obtain ⟨h1,h2,h3⟩:=good_mk h
  have ih:=norms_nf l h1
  unfold normX
  rcases h3 with ⟨hk,rfl⟩|⟨rfl,rfl,hle⟩|hk|⟨hk,c,rfl⟩
  .obtain ⟨rfl,rfl⟩:=h2 (by omega)
   rcases hk with rfl|rfl
   .exact nf_no
   .exact nf_empty
  .exact nf_range hle
  .rw [formX_join hk]
   exact join_nf hk ih
  .obtain ⟨rfl,rfl⟩:=h2 (by omega)
   have hc:NF (normX c):=ih _ (by unfold normXs;simp)
   rcases hk with rfl|rfl
   .exact not_nf hc
   .exact star_nf hc
theorem norms_nf:∀l:List Rx,goodL l=true->∀t∈normXs l,NF t
 |[],_=>λt ht=>by unfold normXs at ht;cases ht
 |a::l,h=>λt ht=>by
  unfold goodL at h
  rw [Bool.and_eq_true] at h
  unfold normXs at ht
  rcases qmC.1 ht with rfl|ht
  .exact norm_nf a h.1
  .exact norms_nf l h.2 t ht
end
section
variable {μ:Rx->Nat}
theorem ms_filter (p:Rx->Bool):∀l:List Rx,ms μ (l.filter p)<=ms μ l
 |[]=>Nat.le_refl _
 |a::l=>by
  have ih:=ms_filter p l
  rw [List.filter_cons]
  split
  .show μ a+_<=μ a+_;omega
  .show _<=μ a+_;omega
theorem ms_mem:∀{l:List Rx} {a:Rx},a∈l->μ a<=ms μ l
 |b::l,a,h=>by
  rcases qmC.1 h with rfl|h
  .show μ a<=μ a+_;omega
  .have:=ms_mem h
   show μ a<=μ b+_;omega
theorem ms_len (h:∀x,1<=μ x):∀l:List Rx,l.length<=ms μ l
 |[]=>Nat.le_refl _
 |a::l=>by
  have:=ms_len h l
  have:=h a
  show l.length+1<=μ a+ms μ l
  omega
theorem ms_comp:∀(l:List Rx) (p:Rx),ms μ (compGoX p l)<=ms μ l
 |[],p=>Nat.le_refl _
 |x::l,p=>by
  have:=ms_comp l x
  unfold compGoX
  split
  .show _<=μ x+ms μ l;omega
  .show μ x+_<=μ x+ms μ l;omega
theorem ms_set (l:List Rx):ms μ (setX l)<=ms μ l:=by
 have h1:ms μ (compX (sortX l))<=ms μ (sortX l):=by
  cases sortX l with
  |nil=>exact Nat.le_refl _
  |cons a m=>have:=ms_comp (μ:=μ) m a;show μ a+_<=μ a+_;omega
 rw [<-ms_perm (sortX_perm l)]
 exact h1
theorem ms_open (h:∀x,ms μ x.l<=μ x) (k:Int):∀l:List Rx,ms μ (l.flatMap λc=>if c.k=k then c.l else [c])<=ms μ l
 |[]=>Nat.le_refl _
 |c::l=>by
  have ih:=ms_open h k l
  have h1:=h c
  rw [List.flatMap_cons,ms_app]
  show _<=μ c+ms μ l
  split
  .omega
  .show (μ c+0)+_<=_;omega
theorem ms_rest (h:∀x,ms μ x.l<=μ x) (k:Int) (l:List Rx):ms μ (restX k l)<=ms μ l:=by
 have h1:ms μ (flatX k l (uX k))<=ms μ l:=Nat.le_trans (ms_filter _ _) (ms_open h k l)
 unfold restX
 split
 .exact h1
 .exact Nat.le_trans (ms_set _) h1
end
theorem szs_ms:∀l:List Rx,Rx.szs l=ms Rx.sz l
 |[]=>rfl
 |a::l=>by unfold Rx.szs;rw [szs_ms l];rfl
theorem sz_mk (k:Int) (lo hi:UInt8) (l:List Rx):(Rx.mk k lo hi l).sz=1+ms Rx.sz l:=by unfold Rx.sz;rw [szs_ms]
theorem sz_l (x:Rx):ms Rx.sz x.l<=x.sz:=by cases x;rw [sz_mk];simp only [Rx.l];omega
theorem lv_l (x:Rx):ms lvX x.l<=lvX x:=by cases x;rw [lv_mk];simp only [Rx.l];omega
theorem lv_pos (x:Rx):1<=lvX x:=by cases x;rw [lv_mk];omega
mutual
theorem lv_sz:∀x:Rx,lvX x<=x.sz
 |.mk k lo hi l=>by
  rw [lv_mk,sz_mk]
  have:=lvs_sz l
  omega
theorem lvs_sz:∀l:List Rx,ms lvX l<=ms Rx.sz l
 |[]=>Nat.le_refl _
 |a::l=>by
  have h1:=lv_sz a
  have h2:=lvs_sz l
  show lvX a+ms lvX l<=a.sz+ms Rx.sz l
  omega
end
theorem join_cases {k:Int} {l:List Rx} {P:Rx->Prop} (hz:P (zX k)) (hu:P (uX k)) (h1:∀a,a∈restX k l->P a) (h2:P (.mk k 0 0 (restX k l))):P (joinX k l (uX k) (zX k)):=by
 by_cases h:zX k∈flatX k l (uX k)
 .rw [joinX_z h];exact hz
 .rw [joinX_f h]
  generalize hm:restX k l=m at h1 h2
  unfold fewX
  split
  .exact hu
  .exact h1 _ (by simp)
  .exact h2
theorem uz_sz (k:Int):(uX k).sz<=2/\(zX k).sz<=2/\lvX (uX k)=1/\lvX (zX k)=1:=by
 unfold uX zX
 refine ⟨?_,?_,?_,?_⟩
 .split
  .decide
  .split<;>decide
 .split<;>decide
 .split
  .decide
  .split<;>decide
 .split<;>decide
theorem one_cases {k:Int} {c:Rx} (hk:k=6\/k=7) {P:Rx->Prop} (h0:P noR) (h1:P emptyX) (hc:P c) (hd:∀d∈c.l,P d) (h2:P (.mk k 0 0 [c])):P (formX (.mk k 0 0 [c])):=by
 rcases hk with rfl|rfl
 .show P (notX 0 0 [c])
  unfold notX
  simp only
  split
  .split
   .exact h0
   .rename_i d m hm
    exact hd d (by rw [hm];simp)
  .exact h2
 .show P (starX 0 0 [c])
  unfold starX
  simp only
  split
  .exact h1
  .split
   .exact hc
   .exact h2
mutual
theorem norm_sz:∀x:Rx,goodR x=true->(normX x).sz<=2 *x.sz
 |.mk k lo hi l,h=>by
  obtain ⟨h1,h2,h3⟩:=good_mk h
  have ih:=norms_sz l h1
  have hx:=sz_mk k lo hi l
  rw [hx]
  unfold normX
  rcases h3 with ⟨hk,rfl⟩|⟨rfl,rfl,hle⟩|hk|⟨hk,c,rfl⟩
  .obtain ⟨rfl,rfl⟩:=h2 (by omega)
   rcases hk with rfl|rfl<;>decide
  .show (Rx.mk 2 lo hi []).sz<=_
   rw [sz_mk];simp only [ms];omega
  .rw [formX_join hk]
   have hr:=ms_rest (μ:=Rx.sz) sz_l k (normXs l)
   obtain ⟨hu,hz,-,-⟩:=uz_sz k
   refine join_cases (P:=λy=>y.sz<=2 *(1+ms Rx.sz l)) (by omega) (by omega) (λa ha=>?_) ?_
   .have:=ms_mem (μ:=Rx.sz) ha
    omega
   .show (Rx.mk k 0 0 _).sz<=_
    rw [sz_mk];omega
  .obtain ⟨rfl,rfl⟩:=h2 (by omega)
   have en:normXs [c]=[normX c]:=rfl
   rw [en] at ih ⊢
   have ih:(normX c).sz+0<=2 *(c.sz+0):=ih
   show _<=2 *(1+(c.sz+0))
   refine one_cases (P:=λy=>y.sz<=2 *(1+(c.sz+0))) hk (by show (1:Nat)<=_;omega) (by show (1:Nat)<=_;omega) (by omega) (λd hd=>?_) ?_
   .have:=ms_mem (μ:=Rx.sz) hd
    have:=sz_l (normX c)
    omega
   .show (Rx.mk k 0 0 _).sz<=_
    rw [sz_mk];simp only [ms];omega
theorem norms_sz:∀l:List Rx,goodL l=true->ms Rx.sz (normXs l)<=2 *ms Rx.sz l
 |[],_=>Nat.le_refl _
 |a::l,h=>by
  unfold goodL at h
  rw [Bool.and_eq_true] at h
  have h1:=norm_sz a h.1
  have h2:=norms_sz l h.2
  show (normX a).sz+ms Rx.sz (normXs l)<=2 *(a.sz+ms Rx.sz l)
  omega
end
mutual
theorem norm_lv:∀x:Rx,goodR x=true->lvX (normX x)<=lvX x
 |.mk k lo hi l,h=>by
  obtain ⟨h1,h2,h3⟩:=good_mk h
  have ih:=norms_lv l h1
  have hx:=lv_mk k lo hi l
  rw [hx]
  unfold normX
  rcases h3 with ⟨hk,rfl⟩|⟨rfl,rfl,hle⟩|hk|⟨hk,c,rfl⟩
  .obtain ⟨rfl,rfl⟩:=h2 (by omega)
   rcases hk with rfl|rfl<;>decide
  .show lvX (Rx.mk 2 lo hi [])<=_
   rw [lv_mk];simp only [ms];omega
  .rw [formX_join hk]
   have hr:=ms_rest (μ:=lvX) lv_l k (normXs l)
   obtain ⟨-,-,hu,hz⟩:=uz_sz k
   refine join_cases (P:=λy=>lvX y<=max 1 (ms lvX l)) (by omega) (by omega) (λa ha=>?_) ?_
   .have:=ms_mem (μ:=lvX) ha
    omega
   .show lvX (Rx.mk k 0 0 _)<=_
    rw [lv_mk];omega
  .obtain ⟨rfl,rfl⟩:=h2 (by omega)
   have en:normXs [c]=[normX c]:=rfl
   rw [en] at ih ⊢
   have ih:lvX (normX c)+0<=lvX c+0:=ih
   show _<=max 1 (lvX c+0)
   refine one_cases (P:=λy=>lvX y<=max 1 (lvX c+0)) hk (by show (1:Nat)<=_;omega) (by show (1:Nat)<=_;omega) (by omega) (λd hd=>?_) ?_
   .have:=ms_mem (μ:=lvX) hd
    have:=lv_l (normX c)
    omega
   .show lvX (Rx.mk k 0 0 _)<=_
    rw [lv_mk];simp only [ms];omega
theorem norms_lv:∀l:List Rx,goodL l=true->ms lvX (normXs l)<=ms lvX l
 |[],_=>Nat.le_refl _
 |a::l,h=>by
  unfold goodL at h
  rw [Bool.and_eq_true] at h
  have h1:=norm_lv a h.1
  have h2:=norms_lv l h.2
  show lvX (normX a)+ms lvX (normXs l)<=lvX a+ms lvX l
  omega
end
theorem form_of {N:Nat} {k:Int} {lo hi:UInt8} {l:List Rx} (h:goodR (.mk k lo hi l)=true) (hs:(Rx.mk k lo hi l).sz<=10000) (hf:fewR N (.mk k lo hi l)):okForm N (.mk k lo hi (normXs l))=true:=by
 obtain ⟨h1,h2,h3⟩:=good_mk h
 have hsz:=norms_sz l h1
 have hlv:=norms_lv l h1
 rw [sz_mk] at hs
 unfold fewR at hf
 unfold okForm
 rw [Bool.and_eq_true,Bool.and_eq_true]
 refine ⟨⟨?_,decide_eq_true (by rw [sz_mk];omega)⟩,?_⟩
 .unfold formOk
  rw [Bool.and_eq_true,Bool.and_eq_true]
  refine ⟨⟨decide_eq_true (by omega),decide_eq_true (by omega)⟩,?_⟩
  rcases h3 with ⟨hk,rfl⟩|⟨hk,rfl,hle⟩|hk|⟨hk,c,rfl⟩
  .show (k !=6&&k !=7)=true
   rcases hk with rfl|rfl<;>rfl
  .subst hk;rfl
  .cases normXs l with
   |nil=>rcases hk with rfl|rfl|rfl<;>rfl
   |cons a m=>rcases hk with rfl|rfl|rfl<;>rfl
  .show (!(k==6&&(normX c).k==6&&(normX c).l.isEmpty))=true
   have hc:goodR c=true:=by
    unfold goodL at h1
    rw [Bool.and_eq_true] at h1
    exact h1.1
   have hn:=norm_nf c hc
   generalize normX c=y at hn
   cases y with
   |mk k' lo' hi' l'=>
    by_cases e:k'=6
    .unfold NF at hn
     obtain ⟨-,-,h|h|h|⟨_,d,hd,_⟩|h⟩:=hn
     .omega
     .omega
     .omega
     .rw [hd];simp [Rx.l]
     .omega
    .have:(Rx.k (.mk k' lo' hi' l')==6)=false:=by simpa [Rx.k] using e
     rw [this];simp
 .show decide (k=4\/k=5->pcX k (normXs l)<=N)=true
  refine decide_eq_true λh45=>?_
  have h4:=ms_len lv_pos ((normXs l).flatMap λc=>if c.k=k then c.l else [c])
  have h5:=ms_open (μ:=lvX) lv_l k (normXs l)
  have h6:=hf.2 h45
  show ((normXs l).flatMap λc=>if c.k=k then c.l else [c]).length<=N
  omega
end Go.Proofs.YthnoidogkbbkhaaGreatDoor
namespace Go.Proofs.YthnoidogkbbkhaaGreatDoor
open List renaming mem_append->qmA,mem_cons->qmC,mem_of_getElem?->qmG,getElem?_eq_getElem->qgE,getElem?_eq_some_iff->qgS,mem_map->qmM,length_take->qlT,flatMap_append->qfA,drop_eq_getElem_cons->qdG,take_add_one->qtO,map_append->qmpA,drop_of_length_le->qdO,take_of_length_le->qtOL
open Go Go.W
theorem nf_k {x:Rx} (h:NF x):0<=x.k:=by
 cases x
 unfold NF at h
 simp only [Rx.k]
 omega
theorem norm_small {x:Rx} (h:goodR x=true) (hk:x.k<3):normX x=x:=by
 cases x with
 |mk k lo hi l=>
  have hk3:k<3:=hk
  clear hk
  obtain ⟨h1,h2,h3⟩:=good_mk h
  rcases h3 with ⟨hk,rfl⟩|⟨rfl,rfl,hle⟩|hk|⟨hk,c,rfl⟩
  .rcases hk with rfl|rfl<;>rfl
  .rfl
  .omega
  .omega
abbrev SmOk (n:Nat):Prop:=∀(x:Rt) (w:World),x.sz<=n->goodR x.rx=true->x.P w->Calls Tryz.prog n_enthymemeref04_simple #[x.v] w λr w'=>RetF x.fp w (normX x.rx) r w'/\Fr0 w w'
theorem c_simpleN:∀n:Nat,n<=1000->SmOk n
 |0,_=>λx w h _ _=>absurd h (by have:=Rt.sz_pos x;omega)
 |n+1,hn=>λx w h hgd px=>by
  have ih:=c_simpleN n (by omega)
  have hs:=Rt.sz_parts x
  have hl:=Rt.szs_len x.l
  have nr:=Rt.rows_n px.parts.1
  refine enthymemeref04_simple.okT _ _ _ _ w _ ((lhT px).newg λb1 w1 H1=>H1.newg λb2 w2 H2=>sel_dec (λhk=>H2.locg λw3 H3=>⟨⟨x,rfl,(norm_small hgd (by rw [rx_k];exact hk)).symm,H3.getD 0,λb hb=>.inr hb⟩,H3.fr⟩) (λhk=>?_))
  have hg2:=hgd
  rw [Rt.rx_parts] at hg2
  obtain ⟨hgl,hlo,hkind⟩:=good_mk hg2
  obtain ⟨elo,ehi⟩:=hlo (by omega)
  have enx:normX x.rx=formX (.mk x.k 0 0 (normXs (Rt.rxs x.l))):=by
   rw [Rt.rx_parts,elo,ehi]
   unfold normX
   rfl
  have loop:∀(d i:Nat) (acc:List Rt) (sl:Sl) (w1:World),i+d=x.l.length->Rt.rxs acc=normXs (Rt.rxs (x.l.take i))->(∀b∈Rt.fps acc,w.heap.size<=b\/b∈x.fp)->
    LH F0 w w1 [.g b1,.g b2,.row ty_enthymemeref04_Regex 4 sl (acc.flatMap Rt.c)] [.tree x,.trees acc]->
    enthymemeref04_simple.L0T b1 x.k x.lo.toNat x.hi.toNat x.s b2 0 0 0 ⟨none,0,0⟩ sl (i:Int) w1 λr w'=>RetF x.fp w (normX x.rx) r w'/\Fr0 w w':=by
   intro d
   induction d with
   |zero=>
    intro i acc sl w1 hi he hf H
    rw [qtOL (by omega)] at he
    have hnew:∀b∈(Rt.row sl acc).fp,w.heap.size<=b:=λb hb=>(H.new _ (qmG (i:=2) rfl) b (rdn_own hb)).resolve_right id
    have H':LH F0 w w1 [.g b1,.g b2] [.tree x,.trees acc,Rt.row sl acc,.tree (.mk x.k 0 0 sl acc)]:=H.rowT 2 1 x.k 0 0
    have erx:Rx.mk x.k 0 0 (Rt.rxs acc)=.mk x.k 0 0 (normXs (Rt.rxs x.l)):=by rw [he]
    have hsz0:(Rx.mk x.k x.lo x.hi (Rt.rxs x.l)).sz<=10000:=by
     rw [<-Rt.rx_parts,Rt.rx_sz];omega
    have hok:=form_of (N:=100000) hg2 hsz0 (few_lv _ (by
     have hle:∀y:Rx,lvX y<=y.sz:=lv_sz
     have:=hle (Rx.mk x.k x.lo x.hi (Rt.rxs x.l))
     omega))
    unfold okForm at hok
    rw [Bool.and_eq_true,Bool.and_eq_true] at hok
    have hsz:(Rt.mk x.k 0 0 sl acc).sz<=10000:=by
     have h1:=Rt.rx_sz (Rt.mk x.k 0 0 sl acc)
     have h2:=norms_sz (Rt.rxs x.l) hgl
     have h3:=Rt.rxs_sz x.l
     rw [szs_ms] at h3
     rw [<-h1]
     show (Rx.mk x.k 0 0 (Rt.rxs acc)).sz<=_
     rw [erx,sz_mk]
     omega
    have hfo:formOk (.mk x.k 0 0 (Rt.rxs acc))=true:=by
     rw [erx]
     have:=hok.1.1
     rw [elo,ehi] at this
     exact this
    refine enthymemeref04_simple.L0T_step _ _ _ _ _ _ _ _ _ _ _ _ _ _ (sel_false (decide_eq_false (by omega)) ?_)
    refine H'.callt (c_refnorm (.mk x.k 0 0 sl acc) ⟨by show 3<=x.k;omega,by show x.k<=7;omega⟩ hsz hfo (λc hc=>?_) w1 (H'.getD 3)) (λb hb=>⟨_,qmG (i:=3) rfl,mem_nub.2 hb⟩) λt w2 ht H2 ft=>?_
    .have hc':c.rx∈normXs (Rt.rxs x.l):=by
      rw [<-he,Rt.rxs_map]
      exact qmM.2 ⟨c,hc,rfl⟩
     have:=nf_k (norms_nf (Rt.rxs x.l) hgl _ hc')
     rwa [rx_k] at this
    refine ⟨_,_,_,t.s,rfl,H2.locg λw3 H3=>⟨⟨t,rfl,?_,H3.getD 4,λb hb=>?_⟩,H3.fr⟩⟩
    .rw [ht,enx]
     show formX (Rx.mk x.k 0 0 (Rt.rxs acc))=_
     rw [he]
    .rcases ft b hb with hb|hb
     .exact .inl (Nat.le_trans H.fr.size hb)
     .unfold Rt.fp at hb
      rcases qmA.1 hb with hb|hb
      .exact .inl (hnew b hb)
      .exact hf b hb
   |succ d ihd=>
    intro i acc sl w1 hi he hf H
    have hg:x.l[i]? =some (x.l[i]'(by omega)):=qgE (by omega)
    generalize x.l[i]'(by omega)=a at hg
    have ma:=qmG hg
    have sza:=Rt.szs_mem ma
    have ga:goodR a.rx=true:=goodL_mem hgl (by rw [Rt.rxs_map];exact qmM.2 ⟨a,ma,rfl⟩)
    have ffp:∀b∈a.fp,b∈x.fp:=λb hb=>Rt.fp_parts.2 (.inr (Rt.fps_iff.2 ⟨a,ma,hb⟩))
    refine enthymemeref04_simple.L0T_step _ _ _ _ _ _ _ _ _ _ _ _ _ _ (sel_true (decide_eq_true (by omega)) (part_el (show x.P w1 from H.getD 0) rfl hg ?_))
    refine H.callt (ih a w1 (by omega) ga ((show x.P w1 from H.getD 0).parts.2.mem ma)) (λb hb=>⟨_,qmG (i:=0) rfl,mem_nub.2 (ffp b hb)⟩) λt w2 ht H2 ft=>?_
    have nrow:=Rt.rows_n (H2.get 2:OwnRow _ _ _ _ _).rdn
    have lacc:acc.length=i:=by
     have h1:=congrArg List.length he
     rw [Rt.rxs_map,normXs_map,Rt.rxs_map] at h1
     simp only [List.length_map,qlT] at h1
     omega
    refine ⟨_,_,_,t.s,rfl,H2.ap1T 2 el_rf9 (xs:=acc.flatMap Rt.c) rfl (λs' w3 H3=>?_) (by omega)⟩
    have H4:=(H3.snocT 1 2).take 3
    rw [i64_next _ (by omega)]
    refine ihd (i+1) (acc++[t]) s' w3 (by omega) ?_ (fps_snoc hf λb hb=>?_) ?_
    .rw [rxs_app,he,qtO,hg,Option.toList_some,rxs_app,normXs_map,normXs_map,qmpA]
     show _++[t.rx]=_
     rw [ht];rfl
    .rcases ft b hb with hb|hb
     .exact .inl (Nat.le_trans H.fr.size hb)
     .exact .inr (ffp b hb)
    .rw [cs_snoc]
     exact H4.forget _ (by simp)
  exact loop x.l.length 0 [] ⟨none,0,0⟩ w2 (by omega) rfl (λb hb=>by unfold Rt.fps at hb;cases hb) (no_trees (H2.nilrow ty_enthymemeref04_Regex 4))
theorem c_simple (x:Rt) (w:World) (h:x.sz<=1000) (hg:goodR x.rx=true) (px:x.P w):Calls Tryz.prog n_enthymemeref04_simple #[x.v] w λr w'=>RetF x.fp w (normX x.rx) r w'/\Fr0 w w':=c_simpleN 1000 (Nat.le_refl _) x w h hg px
def nmR (x:Rx):Rx:=if validR x=0 then limR (normX x) else noR
def nmE (x:Rx):Int:=if validR x=0 then limE (normX x) else validR x
def RetF2 (old:List Nat) (w:World) (x:Rx) (c:Int) (r:Ending) (w':World):Prop:=∃t:Rt,r=.returned (.tuple #[t.v,.int .i64 c])/\t.rx=x/\t.P w'/\∀b∈t.fp,w.heap.size<=b\/b∈old
theorem c_few (x:Rt) (w:World) (h:x.sz<=1000000) (px:x.P w):Calls Tryz.prog n_enthymemeref04_few #[x.v] w λr w'=>RetF2 x.fp w (limR x.rx) (limE x.rx) r w'/\Fr0 w w':=by
 refine enthymemeref04_few.okT _ _ _ _ w _ ((lhT px).newg λb1 w1 H1=>H1.newg λb2 w2 H2=>H2.callg (c_Nodes x w2 h (H2.getD 0)) ?_)
 rintro _ w3 rfl H3
 refine ⟨_,rfl,sel_dec (λhl=>H3.locg λw4 H4=>⟨⟨noT,?_,?_,no_P _,λb hb=>(no_fp' hb).elim⟩,H4.fr⟩) (λhl=>H3.locg λw4 H4=>⟨⟨x,?_,?_,H4.getD 0,λb hb=>.inr hb⟩,H4.fr⟩)⟩
 .unfold limE;rw [Rt.rx_sz,if_pos (by omega)];rfl
 .unfold limR;rw [Rt.rx_sz,if_pos (by omega)];rfl
 .unfold limE;rw [Rt.rx_sz,if_neg (by omega)]
 .unfold limR;rw [Rt.rx_sz,if_neg (by omega)]
theorem c_refNormal (x:Rt) (w:World) (h:x.sz<=1000000) (px:x.P w):Calls Tryz.prog n_enthymemeref04_Normal #[x.v] w λr w'=>RetF2 x.fp w (nmR x.rx) (nmE x.rx) r w'/\Fr0 w w':=by
 refine enthymemeref04_Normal.okT _ _ _ _ w _ ((lhT px).newg λb1 w1 H1=>H1.newg λb2 w2 H2=>H2.callg (c_refValid x w2 h (H2.getD 0)) ?_)
 rintro _ w3 rfl H3
 unfold nmR nmE
 refine ⟨_,rfl,sel_ne (λhne=>H3.locg λw4 H4=>⟨⟨noT,?_,?_,no_P _,λb hb=>(no_fp' hb).elim⟩,H4.fr⟩) (λhe=>?_)⟩
 .rw [if_neg hne];rfl
 .rw [if_neg hne];rfl
 obtain ⟨hg,hs⟩:=valid_good he
 have hs':x.sz<=64:=by rw [<-Rt.rx_sz];exact hs
 rw [if_pos he,if_pos he]
 refine H3.callt (c_simple x w3 (by omega) hg (H3.getD 0)) (λb hb=>⟨_,qmG (i:=0) rfl,mem_nub.2 hb⟩) λt w4 ht H4 ft=>?_
 have szt:t.sz<=1000000:=by
  have:=norm_sz _ hg
  rw [<-Rt.rx_sz,ht];omega
 refine ⟨_,_,_,t.s,rfl,callF0 ((c_few t w4 szt (H4.getD 1)).mono ?_)⟩
 rintro _ w5 ⟨⟨u,rfl,hu,pu,fu⟩,f5⟩
 have H5:=H4.addD (.tree u) f5 pu λb hb=>(fu b (mem_nub.1 hb)).imp id λhb=>.inr ⟨_,qmG (i:=1) rfl,mem_nub.2 hb⟩
 refine ⟨f5,_,_,_,u.s,_,rfl,H5.locg λw6 H6=>⟨⟨u,by rw [ht],by rw [hu,ht],H6.getD 2,λb hb=>?_⟩,H6.fr⟩⟩
 rcases fu b hb with hb|hb
 .exact .inl (Nat.le_trans H4.fr.size hb)
 .exact (ft b hb).imp (λhb=>Nat.le_trans H3.fr.size hb) id
abbrev BL:=List UInt8
def gQ (s:BL) (i:Nat):UInt8:=s.getD i 0
def plQ (c:UInt8):Bool:=decide (32<=c.toNat)&&decide (c.toNat<=126)&&!(c==39)&&!(c==92)
def loQ (c:UInt8):Bool:=decide (97<=c.toNat)&&decide (c.toNat<=122)
def digQ (n:Nat):UInt8:=UInt8.ofNat (if n<10 then 48+n else 87+n)
def numQ (c:UInt8):Int:=if 48<=c.toNat/\c.toNat<=57 then (c.toNat:Int) - 48 else if 97<=c.toNat/\c.toNat<=102 then (c.toNat:Int) - 87 else -1
def byteAtQ (s:BL) (at_:Nat):UInt8×Nat:=
 if (decide (at_+3<=s.length)&&gQ s at_==39&&gQ s (at_+2)==39&&plQ (gQ s (at_+1)))=true then (gQ s (at_+1),3)
 else if (decide (at_+4<=s.length)&&gQ s at_==92&&gQ s (at_+1)==120&&decide (0<=numQ (gQ s (at_+2)))&&decide (0<=numQ (gQ s (at_+3))))=true then (UInt8.ofNat ((16 *numQ (gQ s (at_+2))+numQ (gQ s (at_+3))).toNat),4)
 else (0,0)
structure TokQ where
 tx:BL
 at_:Nat
 k:Nat
 lo:UInt8
 hi:UInt8
structure RgQ where
 k:Nat
 lo:UInt8
 hi:UInt8
 n:Nat
def noRg:RgQ:=⟨0,0,0,0⟩
def rangeAtQ (s:BL) (i:Nat):RgQ:=
 let a:=byteAtQ s i
 if 0<a.2 then ⟨2,a.1,a.1,a.2⟩ else if gQ s i≠91 then noRg else
 let b:=byteAtQ s (i+1)
 let dash:=i+1+b.2
 if b.2=0\/s.length<=dash\/gQ s dash≠45 then noRg else
 let c:=byteAtQ s (dash+1)
 let fin:=dash+1+c.2
 if c.2=0\/s.length<=fin\/gQ s fin≠93\/c.1.toNat<b.1.toNat then noRg else ⟨2,b.1,c.1,fin+1 - i⟩
def runQ (s:BL) (i:Nat):Nat->Nat->Nat
 |0,n=>n
 |f+1,n=>if (loQ (gQ s i)&&decide (i+n<s.length)&&loQ (gQ s (i+n)))=true then runQ s i f (n+1) else n
def tokQ (s:BL):Nat->Nat->List TokQ
 |0,_=>[⟨[],s.length,0,0,0⟩]
 |f+1,i=>if s.length<=i then [⟨[],s.length,0,0,0⟩] else if gQ s i=32 then tokQ s f (i+1) else
  let r:=rangeAtQ s i
  let n:=if r.n=0 then runQ s i s.length 1 else r.n
  ⟨(s.take (i+n)).drop i,i,r.k,r.lo,r.hi⟩::tokQ s f (i+n)
def toksQ (s:BL):List TokQ:=tokQ s (s.length+1) 0
abbrev StQ:=Nat×Bool
section
variable (l:List TokQ)
def tokAt (i:Nat):TokQ:=l.getD i ⟨[],0,0,0,0⟩
def seeQ (st:StQ):BL:=bif st.2 then [32] else (tokAt l st.1).tx
def takeQ (s:BL) (st:StQ):Bool×StQ:=bif seeQ l st==s then (true,bif s.isEmpty then st else (st.1+1,st.2)) else (false,st)
def needQ (s:BL) (st:StQ):StQ:=match takeQ l s st with
 |(true,st)=>st
 |(false,st)=>(st.1,true)
def beginsQ (st:StQ):Bool:=!st.2&&!(seeQ l st==[])&&!(seeQ l st==[41])&&!(seeQ l st==[44])&&!(seeQ l st==[124])&&!(seeQ l st==[38])
def groupQ (k:Int):List Rx->Rx
 |[a]=>a
 |m=>.mk k 0 0 m
def wordQ:Nat->BL
 |0=>[110,111,110,101]
 |1=>[101,109,112,116,121]
 |3=>[99,97,116]
 |4=>[97,108,116]
 |5=>[97,108,108]
 |_=>[]
def whichQ (st:StQ):Nat->Nat->Option Nat
 |0,_=>none
 |f+1,k=>bif Nat.beq k 2||!(seeQ l st==wordQ k) then whichQ st f (k+1) else some k
mutual
def exprQ:Nat->StQ->Option (Rx×StQ)
 |0,_=>none
 |f+1,st=>match conjQ f st with
  |some (a,st)=>altsQ f [a] st
  |none=>none
def altsQ:Nat->List Rx->StQ->Option (Rx×StQ)
 |0,_,_=>none
 |f+1,acc,st=>match takeQ l [124] st with
  |(true,st)=>match conjQ f st with
   |some (a,st)=>altsQ f (acc++[a]) st
   |none=>none
  |(false,st)=>some (groupQ 4 acc,st)
def conjQ:Nat->StQ->Option (Rx×StQ)
 |0,_=>none
 |f+1,st=>match seqQ f st with
  |some (a,st)=>andsQ f [a] st
  |none=>none
def andsQ:Nat->List Rx->StQ->Option (Rx×StQ)
 |0,_,_=>none
 |f+1,acc,st=>match takeQ l [38] st with
  |(true,st)=>match seqQ f st with
   |some (a,st)=>andsQ f (acc++[a]) st
   |none=>none
  |(false,st)=>some (groupQ 5 acc,st)
def seqQ:Nat->StQ->Option (Rx×StQ)
 |0,_=>none
 |f+1,st=>match itemQ f st with
  |some (a,st)=>itemsQ f [a] st
  |none=>none
def itemsQ:Nat->List Rx->StQ->Option (Rx×StQ)
 |0,_,_=>none
 |f+1,acc,st=>bif beginsQ l st then match itemQ f st with
   |some (a,st)=>itemsQ f (acc++[a]) st
   |none=>none
  else some (groupQ 3 acc,st)
def itemQ:Nat->StQ->Option (Rx×StQ)
 |0,_=>none
 |f+1,st=>match takeQ l [33] st with
  |(true,st)=>match itemQ f st with
   |some (a,st)=>some (.mk 6 0 0 [a],st)
   |none=>none
  |(false,st)=>match atomQ f st with
   |some (a,st)=>starsQ f a st
   |none=>none
def starsQ:Nat->Rx->StQ->Option (Rx×StQ)
 |0,_,_=>none
 |f+1,a,st=>match takeQ l [42] st with
  |(true,st)=>starsQ f (.mk 7 0 0 [a]) st
  |(false,st)=>some (a,st)
def atomQ:Nat->StQ->Option (Rx×StQ)
 |0,_=>none
 |f+1,st=>bif !st.2&&Nat.beq (tokAt l st.1).k 2 then some (.mk 2 (tokAt l st.1).lo (tokAt l st.1).hi [],(st.1+1,st.2)) else match whichQ l st 6 0 with
  |some k=>bif Nat.ble k 2 then some (.mk k 0 0 [],(st.1+1,st.2)) else match kidsQ f (st.1+1,st.2) with
   |some (m,st)=>some (.mk k 0 0 m,st)
   |none=>none
  |none=>let st:=needQ l [40] st
   bif st.2 then some (noR,st) else match exprQ f st with
   |some (a,st)=>some (a,needQ l [41] st)
   |none=>none
def kidsQ:Nat->StQ->Option (List Rx×StQ)
 |0,_=>none
 |f+1,st=>match takeQ l [41] (needQ l [40] st) with
  |(nn,st)=>bif st.2||nn then some ([],st) else match exprQ f st with
   |some (a,st)=>moreQ f [a] st
   |none=>none
def moreQ:Nat->List Rx->StQ->Option (List Rx×StQ)
 |0,_,_=>none
 |f+1,acc,st=>match takeQ l [44] st with
  |(true,st)=>match exprQ f st with
   |some (a,st)=>moreQ f (acc++[a]) st
   |none=>none
  |(false,st)=>some (acc,needQ l [41] st)
end
end
def parseQ (s:BL):Option (Rx×Nat×Int):=
 if 4096<s.length then some (noR,4096,4) else
 let l:=toksQ s
 match exprQ l 1000 (0,false) with
 |some (r,st)=>let st:=needQ l [] st
  if st.2=true then some (noR,(tokAt l st.1).at_,2) else if 1000000<r.sz then none else if 64<r.sz then some (noR,s.length,4) else some (r,0,0)
 |none=>none
def byteTx (c:UInt8):BL:=if plQ c=true then [39,c,39] else [92,120,digQ (c.toNat / 16),digQ (c.toNat%16)]
def bindsQ:Rx->Nat
 |.mk k _ _ l=>if k=6 then 3 else if k<3\/k=7\/l.length<2 then 4 else if k=3 then 2 else if k=4 then 0 else 1
def parenQ (lv:Nat) (a:Rx) (t:BL):BL:=if bindsQ a<lv then 40::(t++[41]) else t
def nameQ (k:Int):BL:=if k=3 then [99,97,116,40] else if k=4 then [97,108,116,40] else [97,108,108,40]
def signQ (k:Int):BL:=if k=3 then [] else if k=4 then [124] else [38]
def lastQ (t:BL):UInt8:=t.getLastD 0
def joinTx (k:Int):BL->List BL->BL
 |out,[]=>out
 |out,t::ts=>joinTx k ((if k=3/\loQ (lastQ out)=true/\loQ (gQ t 0)=true then out++[32] else out)++signQ k++t) ts
def hdTx:List BL->BL
 |[]=>[]
 |t::_=>t
def jnTx (k:Int):List BL->BL
 |[]=>[]
 |t::ts=>joinTx k t ts
mutual
def wrQ:Rx->BL
 |.mk k lo hi l=>if k=0 then [110,111,110,101] else if k=1 then [101,109,112,116,121] else
  if k=2 then (if lo=hi then byteTx lo else 91::(byteTx lo++45::(byteTx hi++[93]))) else
  if k=6 then 33::hdTx (wrsQ 3 l) else if k=7 then hdTx (wrsQ 4 l)++[42] else
  if l.length<2 then nameQ k++(hdTx (wrsQ 0 l)++[41]) else
  jnTx k (wrsQ (bindsQ (.mk k lo hi l)+1) l)
def wrsQ (lv:Nat):List Rx->List BL
 |[]=>[]
 |a::l=>parenQ lv a (wrQ a)::wrsQ lv l
end
mutual
def okW:Rx->Bool
 |.mk k _ _ l=>decide (0<=k)&&decide (k<=7)&&(decide (k<6)||decide (l.length=1))&&okWs l
def okWs:List Rx->Bool
 |[]=>true
 |a::l=>okW a&&okWs l
end
def canQ (s:BL):Option Bool:=match parseQ s with
 |some (r,_,e)=>if e=0 then (if nmE r=0 then (if okW (nmR r)=true/\(nmR r).sz<=1000 then some (parenQ 0 (nmR r) (wrQ (nmR r))==s) else none) else some false) else some false
 |none=>none
def rgQ (a b:UInt8):Rx:=.mk 2 a b []
def atomsQ:Nat->Rx
 |0=>rgQ 97 97
 |1=>rgQ 98 98
 |2=>rgQ 0 0
 |3=>rgQ 97 98
 |4=>emptyX
 |_=>everyX
def formsQ (a b c:Rx):Nat->Rx
 |0=>a
 |1=>.mk 3 0 0 [a,b]
 |2=>.mk 4 0 0 [a,b,c]
 |3=>.mk 7 0 0 [a]
 |4=>.mk 3 0 0 [.mk 7 0 0 [a],b]
 |5=>.mk 6 0 0 [.mk 3 0 0 [a,b]]
 |6=>.mk 3 0 0 [b,.mk 7 0 0 [.mk 4 0 0 [a,c]]]
 |_=>.mk 5 0 0 [.mk 6 0 0 [b],.mk 3 0 0 [a,everyX]]
def textQ (k:Nat):BL:=wrQ (normX (formsQ (atomsQ (k%6)) (atomsQ (k / 6%6)) (atomsQ (k / 36%6)) (k / 216%8)))
end Go.Proofs.YthnoidogkbbkhaaGreatDoor
