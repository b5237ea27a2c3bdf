import Derived.Test.YtocpddmpfbfdbaaGreatDoorR14
import Derived.Test.YtocpddmpfbfdbaaGreatDoorU
import Derived.Lib.LaidTab
import Derived.LaidByTextLater
import Derived.Test.YtocpddmpfbfdbaaGreatDoorRows
import Derived.Test.YtocpddmpfbfdbaaGreatDoorW
set_option linter.unusedVariables false
set_option linter.defProp false
namespace Go.Proofs.YtocpddmpfbfdbaaGreatDoor
open Go renaming World->I,Calls->ai,Value->ae,TypeId->aG,Ending->dA
open Go.IntKind renaming wrap->ab
open _root_.Int renaming toNat->ag,toNat_natCast->dJ
open _root_.ByteArray renaming mk->az
open Go.IntWalk renaming i64_in->a4
open Go.Builtin renaming append_->bb
open Go.Sem renaming run->a6
open _root_.Bool renaming and_eq_true->bn
open _root_.Nat renaming le_refl->bB,le_trans->bH,beq->cm,lt_of_lt_of_le->vp
open _root_.UInt8 renaming ofNat->cS
open _root_.Prod.mk renaming injEq->ee
open _root_.Option.some renaming injEq->eT
open Go.Proofs.Tryz renaming prog->U
open _root_.Decidable renaming decide->ah
open Go.Ending renaming returned->V
open List renaming mem_append->a5,mem_cons->aB,not_mem_nil->a1,getElem?_eq_getElem->bc,getElem?_eq_some_iff->cD,append_assoc->cN,mem_cons_of_mem->ec,drop_eq_getElem_cons->dq,drop_of_length_le->dt,eq_nil_of_length_eq_zero->mq
open Go Go.W
def _root_.Go.W.LH.K4 {M:Nat->Prop} {w0 w:I} {L D:List En} {bs:List Nat} (H:LH M w0 w L D) (i j:Nat) {b:Nat} {vs:List ae} {T:aG} {v:ae} {K:I->Prop} (hi:L[i]? =some (.c b vs T)) (u:∀n,LH M w0 n (L.set i (.c b (vs.set j v) T)) D->K n) (k:j<vs.length:=by simp) (h:∀b∈bs,En.g b∈L:=by simp):av w ((aj b).add j) v λq=>kept bs w q/\K q:=by obtain ⟨y,z,A⟩:=H.set (v:=v) i j hi k;obtain ⟨_,_,_,B⟩:=pY (H.ob i hi) j (by simpa using k) v;refine ⟨y,z,λd e=>?_,u _ A⟩;refine B.ck d (H.own _ (h d e)) λx=>n5 H hi (vX w b vs T) (h d e) ?_;rw [x];exact o5.2 rfl
def _root_.Go.W.LH.one {M:Nat->Prop} {w0 w:I} {L D:List En} (H:LH M w0 w L D) (i j:Nat) {e:aG} {h:O} {u:J} (k:Int) (lo hi:UInt8) (x:L[i]? =some (.row e 4 h u.c):=by rfl) (y:D[j]? =some (.tree u):=by rfl):LH M w0 w (L.eraseIdx i) (D++[.tree (.mk k lo hi h [u])]):=by
 have n:=H.sW j y;have e:[u].flatMap J.c=u.c:=by simp
 have q:=n.pS i D.length k lo hi (s:=h) (ts:=[u]) (by rw [e];exact x) (by simp);exact q.forget _ (λz d=>by
  simp only [a5,aB,a1,a7] at d ⊢;rcases d with d|d
  .exact .inl (.inl (.inl d))
  .exact .inr d)
def CO {w:I} {e:O} {u:J} {k:Int} {lo hi:UInt8} (h:∀b∈ay e,w.heap.size<=b) (j:∀b∈u.fp,w.heap.size<=b):∀b∈(J.mk k lo hi e [u]).fp,w.heap.size<=b:=λb c=>by
 unfold J.fp at c;rcases a5.1 c with c|c
 .exact uB h b c
 .obtain ⟨t,d,c⟩:=J.bR.1 c;simp at d;rw [d] at c;exact j b c
section
variable {s:O} {l:List bx} {n:Nat}
def HW (H:iE l) (G:l.length<=1000000) (e:Nat) (w:I) (x:Rx) (A:bN):∀(f:Nat) (u:J) (h j:Nat) (B:I) (st:bN),iw l f u.rx st=some (x,A)->st.1<l.length->(∀b∈u.fp,w.heap.size<=b)->
  LH (·=e) w B [cK e s st,.g h,.g j] [cP s l,.tree u]->
  wq.aP (aj e) h 0 0 0 ⟨none,0,0⟩ j u.k (u.lo.toNat:Int) (u.hi.toNat:Int) u.s B (SA e s w (λr S=>fD w x r S/\A.1<l.length) A)
 |0,u,h,j,B,st,d,_,_,_=>by unfold iw at d;cases d
 |f+1,u,h,j,B,st,d,F,E,C=>by
  unfold iw at d;refine wq.bW _ _ _ _ _ _ _ _ _ _ _ _ _ (C.hH (o7 C.fK F G [42]) ?_);have y:=qd H F [42] (by decide);rintro _ L rfl z _;refine ⟨_,rfl,?_⟩;cases P:dH l [42] st with
  |mk Q K=>
   rw [P] at d z y;cases Q with
   |true=>
    dsimp only at d y;refine bd rfl ?_;refine z.eb (n:=1) (sz:=4) (cs:=u.c) rfl (by decide) λT q=>q.au λM N=>?_;have O:LH (·=e) w M [cK e s K,.g h,.g j] [cP s l,.tree (.mk 7 0 0 ⟨some (aj L.heap.size),1,1⟩ [u])]:=(N.one 3 1 7 0 0).forget _ (by simp);refine HW H G e w x A f (.mk 7 0 0 ⟨some (aj L.heap.size),1,1⟩ [u]) h j M K d y (CO (λb D=>?_) E) O;simp only [ay,aB,a1,a7] at D;rw [D];exact z.fr.size
   |false=>
    dsimp only at d y;simp only [eT,ee] at d;obtain ⟨d,rfl⟩:=d;refine a9 rfl ?_;exact z.au λT q=>⟨⟨⟨⟨u,rfl,d,q.getD 1,E⟩,y⟩,q.get 0⟩,q.fr⟩
def QA (T:iE l) (S:l.length<=1000000) (W:k5 s l n) (h:Nat) (st:bN) (w:I) (x:Rx) (C:bN) (d:fb l (n+1) st=some (x,C)) (hi:st.1<l.length) (H:h6 h s l st w):
  ai U pA #[.pointer (some (aj h))] w (SA h s w (λr w'=>fD w x r w'/\C.1<l.length) C):=by
 unfold fb at d;refine wq.aD _ w _ (H.aL λK w1 A=>?_);have A:LH (·=h) w w1 [cK h s st,.g K] [cP s l]:=A;refine A.hH (o7 A.fK hi S [33]) ?_;have y:=qd T hi [33] (by decide);rintro _ Y rfl k _;refine ⟨_,rfl,?_⟩;cases hq:dH l [33] st with
 |mk aa D=>
  rw [hq] at d k y;cases aa with
  |true=>
   dsimp only at d y;cases q:fb l n D with
   |none=>rw [q] at d;cases d
   |some Q=>
    obtain ⟨a,z⟩:=Q;rw [q] at d;simp only [eT,ee] at d;obtain ⟨d,rfl⟩:=d;refine bd rfl ?_;refine k.hH (W.item h D Y a z q y k.fK) ?_;rintro _ O ⟨⟨j,rfl,M,N,u⟩,L⟩ _ E;have B:=E (.tree j) N λb e=>u b (aT.1 e);refine ⟨_,_,_,j.s,rfl,B.eb (n:=1) (sz:=4) (cs:=j.c) rfl (by decide) λw4 F=>F.au λP G=>?_⟩;have J:LH (·=h) w P [cK h s z,.g K] [cP s l,.tree (.mk 6 0 0 ⟨some (aj O.heap.size),1,1⟩ [j])]:=(G.one 2 1 6 0 0).forget _ (by simp);refine ⟨⟨⟨⟨.mk 6 0 0 ⟨some (aj O.heap.size),1,1⟩ [j],rfl,?_,J.getD 1,CO (λb e=>?_) (λb e=>bH k.fr.size (u b e))⟩,L⟩,J.get 0⟩,J.fr⟩
    .rw [<-d,<-M];rfl
    .simp only [ay,aB,a1,a7] at e;rw [e];exact B.fr.size
  |false=>
   dsimp only at d y;cases q:k8 l n D with
   |none=>rw [q] at d;cases d
   |some Q=>
    obtain ⟨a,z⟩:=Q;rw [q] at d;refine a9 rfl ?_;refine k.hH (W.atom h D Y a z q y k.fK) ?_;rintro _ O ⟨⟨j,rfl,M,N,u⟩,L⟩ _ E;have B:=E (.tree j) N λb e=>u b (aT.1 e);refine ⟨_,_,_,j.s,rfl,B.aL λZ w4 F=>F.au λP G=>?_⟩;exact HW T S h w x C n j K Z P z (by rw [M];exact d) L (λb e=>bH k.fr.size (u b e)) G
def H2 (F:iE l) (E:l.length<=1000000) (L:∀m,m<=n->k5 s l m) (h:Nat) (w:I) (m:List Rx) (y:bN):∀(f:Nat),f<=n->∀(acc:List J) (j:O) (A:I) (st:bN),rs l f (J.ax acc) st=some (m,y)->st.1<l.length->acc.length+f<=1000000->(∀b∈J.a' acc,w.heap.size<=b)->
  LH (·=h) w A [cK h s st,.row aF 4 j (acc.flatMap J.c)] [cP s l,.trees acc]->
  ta.L1 (aj h) j A (SA h s w (λr w'=>(∃(j:O) (a:List J),r=V j.v/\J.ax a=m/\(bO j a).P w'/\∀b∈(bO j a).fp,w.heap.size<=b)/\y.1<l.length) y)
 |0,_=>λacc j A st d=>by unfold rs at d;cases d
 |f+1,hf=>λacc j A st d K ac H B=>by
  have ad:=J.cj (B.get 1:aS _ _ _ _ _).bz;unfold rs at d;refine ta.fC _ _ _ _ (B.o9 (o7 B.fK K E [44]) ?_);have x:=qd F K [44] (by decide);rintro _ w2 rfl q _;refine ⟨_,rfl,?_⟩;cases hq:dH l [44] st with
  |mk aa N=>
   rw [hq] at d q x;cases aa with
   |true=>
    dsimp only at d x;cases D:gI l f N with
    |none=>rw [D] at d;cases d
    |some ab=>
     obtain ⟨a,z⟩:=ab;rw [D] at d;refine bd rfl ?_;refine q.o9 ((L f (by omega)).expr h N w2 a z D x q.fK) ?_;rintro _ Q ⟨⟨k,rfl,hu,pu,G⟩,Z⟩ _ T;have C:=T (.tree k) pu λb e=>G b (aT.1 e);have C:LH (·=h) w Q [cK h s z,.row aF 4 j (acc.flatMap J.c)] [cP s l,.trees acc,.tree k]:=C;refine ⟨_,_,_,k.s,rfl,C.zq 1 j5 (xs:=acc.flatMap J.c) rfl (λM S W _ _=>?_) (by omega)⟩;have Y:LH (·=h) w S [cK h s z,.row aF 4 M ((acc++[k]).flatMap J.c)] [cP s l,.trees (acc++[k])]:=by rw [kD];exact (W.p9 1 2).forget _ (by simp)
     refine H2 F E L h w m y f (by omega) (acc++[k]) M S z ?_ Z (by simp;omega) (rh H λb e=>bH q.fr.size (G b e)) Y;rw [jm];have:J.ax [k]=[a]:=by simp [J.ax,hu]
     rw [this];exact d
   |false=>
    dsimp only at d x;simp only [eT,ee] at d;obtain ⟨rfl,rfl⟩:=d;refine a9 rfl ?_;refine q.o9 (sN q.fK x E [41]) ?_;rintro _ Q rfl u _;refine ⟨rfl,⟨⟨⟨j,acc,rfl,rfl,dd.2 ⟨(u.get 1:aS _ _ _ _ _).bz,u.getD 1⟩,λb e=>?_⟩,uk F x [41] (by decide)⟩,u.get 0⟩,u.fr⟩;rcases kK.1 e with e|e
    .exact (u.new _ (List.mem_of_getElem? (i:=1) rfl) b (gb e)).resolve_right (yb u 0 rfl (gb e))
    .exact H b e
def QL (C:iE l) (B:l.length<=1000000) (hn:n<=100000) (M:∀m,m<=n->k5 s l m) (j:Nat) (st:bN) (w:I) (m:List Rx) (x:bN) (e:j8 l (n+1) st=some (m,x)) (hi:st.1<l.length) (H:h6 j s l st w):
  ai U xe #[.pointer (some (aj j))] w (SA j s w (λr E=>(∃(u:O) (a:List J),r=V u.v/\J.ax a=m/\(bO u a).P E/\∀b∈(bO u a).fp,w.heap.size<=b)/\x.1<l.length) x):=by
 unfold j8 at e;refine ta.ok _ w _ (H.o9 (sN H hi B [40]) ?_);have L:=uk C hi [40] (by decide);rintro _ w1 rfl G _;refine ⟨rfl,G.o9 (o7 G.fK L B [41]) ?_⟩;have y:=qd C L [41] (by decide);rintro _ F rfl k _;cases hq:dH l [41] (hx l [40] st) with
 |mk N z=>
  rw [hq] at e k y;have none_:some (([]:List Rx),z)=some (m,x)->ta.S0 F (SA j s w (λr E=>(∃(u:O) (a:List J),r=V u.v/\J.ax a=m/\(bO u a).P E/\∀b∈(bO u a).fp,w.heap.size<=b)/\x.1<l.length) x):=by
   intro e;simp only [eT,ee] at e;obtain ⟨rfl,rfl⟩:=e;refine ⟨⟨⟨⟨⟨none,0,0⟩,[],rfl,rfl,dd.2 ⟨bL.nil 4 F,by unfold J.Ps;trivial⟩,λb d=>?_⟩,y⟩,k.get 0⟩,k.fr⟩;rcases kK.1 d with d|d
   .simp [J.row,En.bz] at d
   .unfold J.a' at d;cases d
  refine ⟨_,rfl,z.2,k.ld 0 2,bE (λd=>none_ (by simpa [d] using e)) (λd=>bE (λq=>none_ (by have q:N=true:=q;simpa [q] using e)) (λq=>?_))⟩
  have q:N=false:=q;simp only [d,q,Bool.or_false,cond_false] at e;cases A:gI l n z with
  |none=>rw [A] at e;cases e
  |some ab=>
   obtain ⟨a,D⟩:=ab;rw [A] at e;refine k.o9 ((M n (bB _)).expr j z F a D A y k.fK) ?_;rintro _ w3 ⟨⟨h,rfl,hu,pu,K⟩,aa⟩ _ S;have T:=S (.tree h) pu λb d=>K b (aT.1 d);refine ⟨_,_,_,h.s,rfl,T.eb (n:=1) (sz:=4) (cs:=h.c) rfl (by decide) λQ W=>?_⟩;have Y:LH (·=j) w Q [cK j s D,.row aF 4 ⟨some (aj w3.heap.size),1,1⟩ ([h].flatMap J.c)] [cP s l,.trees [h]]:=by
    have Z:[h].flatMap J.c=h.c:=by simp
    rw [Z];exact (W.sW 1).forget _ (by simp)
   refine H2 C B M j w m x n (bB _) [h] _ Q D ?_ aa (by simp;omega) (λb d=>?_) Y
   .have:J.ax [h]=[a]:=by simp [J.ax,hu]
    rw [this];exact e
   .obtain ⟨t,y,d⟩:=J.bR.1 d;simp at y;rw [y] at d;exact bH k.fr.size (K b d)
end
def sj:List ae:=[.string (ba (hZ 0)),.string (ba (hZ 1)),.string (ba (hZ 2)),.string (ba (hZ 3)),.string (ba (hZ 4)),.string (ba (hZ 5))]
def Mr {k:Nat} (c:k<6):sj[k]? =some (.string (ba (hZ k))):=by
 have:k=0\/k=1\/k=2\/k=3\/k=4\/k=5:=by omega
 rcases this with rfl|rfl|rfl|rfl|rfl|rfl<;>rfl
def Mp {k:Nat} (d:k<6) (c:k≠2):hZ k≠[]/\hZ k≠[32]:=by
 have:k=0\/k=1\/k=2\/k=3\/k=4\/k=5:=by omega
 rcases this with rfl|rfl|rfl|rfl|rfl|rfl<;>first |exact absurd rfl c|exact ⟨by decide,by decide⟩
def lx (k:Int) (lo hi:UInt8):J:=.mk k lo hi ⟨none,0,0⟩ []
def pr (k:Int) (lo hi:UInt8) (w:I):(lx k lo hi).P w:=by unfold lx J.P J.Ps;exact ⟨bL.nil 4 w,trivial⟩
def pw {k:Int} {lo hi:UInt8} {b:Nat}:¬b∈(lx k lo hi).fp:=λc=>by
 unfold lx J.fp J.a' at c;rcases a5.1 c with c|c
 .simp [J.row,En.bz] at c
 .cases c
section
variable {s:O} {l:List bx} {n:Nat}
def Ng (Y:iE l) (am:l.length<=1000000) (ih:k5 s l n) (j:Nat) (st:bN) (w:I) (x:Rx) (G:bN) (d:k8 l (n+1) st=some (x,G)) (hi:st.1<l.length) (H:h6 j s l st w):
  ai U xd #[.pointer (some (aj j))] w (SA j s w (λr w'=>fD w x r w'/\G.1<l.length) G):=by
 let R:aa:=SA j s w (λr w'=>fD w x r w'/\G.1<l.length) G
 have loop:∀(f k:Nat) (q B:Nat) (C:I),f+k=6->iy l st 6 0=iy l st f k->(match iy l st 6 0 with
   |some k=>bif Nat.ble k 2 then some (Rx.mk k 0 0 [],(st.1+1,st.2)) else match j8 l n (st.1+1,st.2) with
    |some (m,st)=>some (Rx.mk k 0 0 m,st)
    |none=>none
   |none=>let st:=hx l [40] st
    bif st.2 then some (fg,st) else match gI l n st with
    |some (a,st)=>some (a,hx l [41] st)
    |none=>none)=some (x,G)->LH (·=j) w C [cK j s st,.g q,.c B sj dy] [cP s l]->
   nZ.b6 (aj j) q 0 0 0 ⟨none,0,0⟩ ⟨some (aj B),6,6⟩ (k:Int) C R:=by
  intro f;induction f with
  |zero=>
   intro k q B C hk hw d D;have e0:iy l st 0 k=none:=by unfold iy;rfl
   rw [hw,e0] at d;dsimp only at d;have ag:=uk Y hi [40] (by decide);refine nZ.eV _ _ _ _ _ _ _ _ _ _ (a9 (a0 (by omega)) (D.hH (sN D.fK hi am [40]) ?_));rintro _ u rfl e _;generalize hx l [40] st=DS at d ag e;refine ⟨rfl,DS.2,e.ld 0 2,bE (λh=>?_) (λh=>?_)⟩
   .rw [h] at d;simp only [cond_true,eT,ee] at d;obtain ⟨rfl,rfl⟩:=d;exact e.au λS y=>⟨⟨⟨⟨cb,rfl,rfl,jQ _,λb h=>(jR h).elim⟩,ag⟩,y.get 0⟩,y.fr⟩
   .rw [h] at d;dsimp only [cond_false] at d;cases F:gI l n DS with
    |none=>rw [F] at d;cases d
    |some ah=>
     obtain ⟨a,ac⟩:=ah;rw [F] at d;simp only [eT,ee] at d;obtain ⟨rfl,rfl⟩:=d;refine e.hH (ih.expr j DS u a ac F ag e.fK) ?_;rintro _ S ⟨⟨ad,rfl,hu,pu,fu⟩,W⟩ _ F3;have y:=F3 (.tree ad) pu λb h=>fu b (aT.1 h);refine ⟨_,_,_,ad.s,rfl,y.aL λar w4 z=>z.au λw5 A=>?_⟩;have A:LH (·=j) w w5 (cK j s ac::[.g q,.c B sj dy,.g ar]) [cP s l,.tree ad]:=A;refine A.hH (sN A.fK W am [41]) ?_;rintro _ w6 rfl H6 _;exact ⟨rfl,H6.au λw7 K=>⟨⟨⟨⟨ad,rfl,hu,K.getD 1,λb h=>bH e.fr.size (fu b h)⟩,uk Y W [41] (by decide)⟩,K.get 0⟩,K.fr⟩⟩
  |succ f ay=>
   intro k q B C hk hw d D;have next:iy l st (f+1) k=iy l st f (k+1)->∀u,LH (·=j) w u [cK j s st,.g q,.c B sj dy] [cP s l]->nZ.aY (aj j) q 0 0 0 ⟨none,0,0⟩ ⟨some (aj B),6,6⟩ (k:Int) u R:=by intro Q u e;show nZ.b6 _ _ _ _ _ _ _ _ _ _;rw [bw _ (by omega)];exact ay (k+1) q B u (by omega) (by rw [hw,Q]) d e
   refine nZ.eV _ _ _ _ _ _ _ _ _ _ (bd (aW (by omega)) (aO (λO=>D.au λu e=>next (by
    have:k=2:=by omega
    subst this;conv=>lhs;unfold iy
    rfl) u e) (λO=>⟨by omega,by show (k:Int)<((6:Nat):Int);omega,?_⟩)))
   have O:k≠2:=by omega
   have ak:cm k 2=false:=by
    cases E:cm k 2 with
    |false=>rfl
    |true=>exact absurd (Nat.eq_of_beq_eq_true E) O
   refine jS (D.au λu e=>?_);rw [dJ,Nat.mul_one];refine ⟨ba (hZ k),e.ld 2 k rfl (Mr (by omega)),e.aA (zS e.fK hi) ?_⟩;rintro _ S rfl y;refine ⟨_,rfl,y.ld 2 k rfl (Mr (by omega)),?_⟩;rw [qN];refine dM (λZ=>next (by
    conv=>lhs;unfold iy
    rw [ak,Z];rfl) S y) (λZ=>?_)
   have an:=eq_of_beq Z;have ax:iy l st 6 0=some k:=by
    rw [hw];conv=>lhs;unfold iy
    rw [ak,Z];rfl
   rw [ax] at d;dsimp only at d;have T:st.1+1<l.length:=by
    refine H4 Y hi (by rw [an];exact (Mp (by omega) O).1) ?_;cases h:st.2 with
    |false=>rfl
    |true=>
     exfalso;refine (Mp (k:=k) (by omega) O).2 ?_;rw [<-an];unfold eG;rw [h];rfl
   refine ⟨(st.1:Int),y.ld 0 1,?_⟩;rw [bw _ (by omega)];refine y.K4 0 1 rfl λw4 z=>?_;have z:LH (·=j) w w4 [cK j s (st.1+1,st.2),.g q,.c B sj dy] [cP s l]:=z;refine z.aL λb5 w5 A=>aR (λaw=>?_) (λaw=>?_)
   .have af:Nat.ble k 2=false:=by
     cases E:Nat.ble k 2 with
     |false=>rfl
     |true=>have:=Nat.le_of_ble_eq_true E;omega
    rw [af] at d;dsimp only [cond_false] at d;cases F:j8 l n (st.1+1,st.2) with
    |none=>rw [F] at d;cases d
    |some ah=>
     obtain ⟨m,ac⟩:=ah;rw [F] at d;simp only [eT,ee] at d;obtain ⟨Q,rfl⟩:=d;refine A.au λw9 N=>?_;have N:LH (·=j) w w9 (cK j s (st.1+1,st.2)::[.g q,.c B sj dy,.g b5]) [cP s l]:=N;refine N.hH (ih.kids j (st.1+1,st.2) w9 m ac F T N.fK) ?_;rintro _ aB ⟨⟨sl,a,rfl,ha,pa,fa⟩,W⟩ _ ao;have ap:=ao (.tree (bO sl a)) pa λb h=>fa b (aT.1 h);refine ⟨sl,rfl,ap.au λaC aq=>aq.au λaz ae=>?_⟩;refine ⟨⟨⟨⟨.mk k 0 0 sl a,rfl,?_,?_,λb h=>?_⟩,W⟩,ae.get 0⟩,ae.fr⟩
     .rw [<-Q,<-ha];rfl
     .have:=dd.1 (show (bO sl a).P az from ae.getD 1);unfold J.P;exact this
     .refine bH N.fr.size (fa b ?_);unfold J.fp at h;unfold bO J.fp;exact h
   .have af:Nat.ble k 2=true:=Nat.ble_eq_true_of_le (by omega);rw [af] at d;simp only [cond_true,eT,ee] at d;obtain ⟨Q,rfl⟩:=d;refine A.au λw6 H6=>H6.au λw7 K=>⟨⟨⟨⟨lx k 0 0,rfl,?_,pr _ _ _ _,λb h=>(pw h).elim⟩,T⟩,K.get 0⟩,K.fr⟩;rw [<-Q];rfl
 have s0:∀(q:Nat) (C:I),(!st.2&&cm (dI l st.1).k 2)=false->LH (·=j) w C [cK j s st,.g q] [cP s l]->nZ.aQ (aj j) q 0 0 0 ⟨none,0,0⟩ C R:=by intro q C hq D;unfold k8 at d;rw [hq] at d;dsimp only [cond_false] at d;refine D.nw λu _ e=>?_;exact loop 6 0 q C.heap.size u (by omega) rfl d e
 refine nZ.aD _ w _ (H.aL λq C D=>D.au λu e=>⟨st.2,e.ld 0 2,dM (λh=>?_) (λh=>s0 q u (by rw [h];rfl) e)⟩);have hn:=vb (e.getD 0:bL _ _ _ _);refine ⟨s,e.ld 0 0,(st.1:Int),e.ld 0 1,by omega,by omega,vc (e.getD 0) hi λp hp L=>⟨((dI l st.1).k:Int),?_,aO (λM=>?_) (λM=>s0 q u (by
  have:cm (dI l st.1).k 2=false:=by
   cases E:cm (dI l st.1).k 2 with
   |false=>rfl
   |true=>have:=Nat.eq_of_beq_eq_true E;omega
  rw [this];simp) e)⟩⟩
 .rw [dJ,hf];exact L.c2
 have M:(dI l st.1).k=2:=by omega
 have T:st.1+1<l.length:=by
  rcases Nat.lt_or_ge (st.1+1) l.length with E|E
  .exact E
  .exfalso;have av:st.1=l.length - 1:=by omega
   rw [av,Y.2.2] at M;cases M
 refine ⟨(st.1:Int),e.ld 0 1,?_⟩;rw [bw _ (by omega)];refine e.K4 0 1 rfl λS y=>?_;have y:LH (·=j) w S [cK j s (st.1+1,st.2),.g q] [cP s l]:=y;refine y.au λw4 z=>⟨s,z.ld 0 0,((st.1+1:Nat):Int),z.ld 0 1,?_⟩;have em:ab .i64 (((st.1+1:Nat):Int) - 1)=(st.1:Int):=by rw [a4 _ (by omega)];omega
 rw [em];unfold k8 at d;rw [h,M] at d;have d:some (Rx.mk 2 (dI l st.1).lo (dI l st.1).hi [],(st.1+1,false))=some (x,G):=d;simp only [eT,ee] at d;obtain ⟨d,al⟩:=d;refine ⟨by omega,by omega,vc (z.getD 0) hi λp hp L=>⟨2,(dI l st.1).lo.toNat,(dI l st.1).hi.toNat,⟨none,0,0⟩,?_,?_,?_,?_,z.au λw5 A=>⟨⟨⟨⟨lx 2 (dI l st.1).lo (dI l st.1).hi,rfl,d,pr _ _ _ _,λb h=>(pw h).elim⟩,by rw [<-al];exact T⟩,?_⟩,A.fr⟩⟩⟩
 .rw [dJ,hf,L.c2,M];rfl
 .rw [dJ,add_add];exact L.c3
 .rw [dJ,add_add];exact L.c4
 .rw [dJ,add_add];exact L.c5
 .have:=A.get 0;rw [<-al,<-h];exact this
def IS (w:iE l) (u:l.length<=1000000):∀n:Nat,n<=100000->∀m,m<=n->k5 s l m
 |0,_=>λm z=>by
  have:m=0:=by omega
  subst this;exact ⟨λd st h j e c=>(by unfold gI at c;cases c),λd st h j e c=>(by unfold ie at c;cases c),λd st h j e c=>(by unfold iv at c;cases c),λd st h j e c=>(by unfold fb at c;cases c),λd st h j e c=>(by unfold k8 at c;cases c),λd st h j e c=>(by unfold j8 at c;cases c)⟩
 |n+1,A=>λm z=>by
  have x:=IS w u n (by omega);rcases Nat.lt_or_ge m (n+1) with y|y
  .exact x m (by omega)
  have:m=n+1:=by omega
  subst this;exact ⟨λd st h j e c q k=>Py w u (by omega) x d st h j e c q k,λd st h j e c q k=>O4 w u (by omega) x d st h j e c q k,λd st h j e c q k=>TX w u (by omega) x d st h j e c q k,λd st h j e c q k=>QA w u (x n (bB _)) d st h j e c q k,λd st h j e c q k=>Ng w u (x n (bB _)) d st h j e c q k,λd st h j e c q k=>QL w u (by omega) x d st h j e c q k⟩
end
def _root_.Go.W.LH.perm {M:Nat->Prop} {w0 w:I} {L h D:List En} (H:LH M w0 w L D) (e:L.Perm h):LH M w0 w h D:=
 ⟨H.fr,λc d=>H.own c (e.mem_iff.2 d),H.rd,λc d=>H.new c (e.mem_iff.2 d),(e.flatMap_right (·.fp)).nodup_iff.1 H.nd,λc d b k j n=>H.dj c d b k j (e.mem_iff.2 n)⟩
def Eb (s:BL):∀(f i:Nat),s.length<f+i->∃init,kj s f i=init++[⟨[],s.length,0,0,0⟩]/\init.length+i<=max i s.length
 |0,i,d=>⟨[],rfl,by simp;omega⟩
 |f+1,i,d=>by
  unfold kj;split
  .exact ⟨[],rfl,by simp;omega⟩
  .split
   .obtain ⟨init,c,h⟩:=Eb s f (i+1) (by omega);exact ⟨init,c,by omega⟩
   .simp only;have k:=Jq s i;have q:=Km s i s.length 1 (by omega);generalize e2 s i=g at k;generalize iu s i s.length 1=e at q;have j:1<=(if g.n=0 then e else g.n)/\i+(if g.n=0 then e else g.n)<=s.length:=by split<;>omega
    generalize (if g.n=0 then e else g.n)=n at j;obtain ⟨init,c,h⟩:=Eb s f (i+n) (by omega);exact ⟨_::init,by rw [c];rfl,by simp only [List.length_cons];omega⟩
def UX (s:BL):iE (km s)/\(km s).length<=s.length+1:=by
 obtain ⟨init,h,j⟩:=Eb s (s.length+1) 0 (by omega);have e:km s=init++[⟨[],s.length,0,0,0⟩]:=h;rw [e];have c:(init++[(⟨[],s.length,0,0,0⟩:bx)]).length=init.length+1:=by simp
 have d:dI (init++[(⟨[],s.length,0,0,0⟩:bx)]) init.length=⟨[],s.length,0,0,0⟩:=by unfold dI;simp [List.getD_eq_getElem?_getD]
 refine ⟨⟨by omega,?_,?_⟩,by omega⟩
 .rw [c,Nat.add_sub_cancel,d]
 .rw [c,Nat.add_sub_cancel,d]
def MZ (w:I) (x:Rx) (a:Nat) (e:Int) (r:dA) (w':I):Prop:=∃t:J,r=V (.tuple #[t.v,.i (a:Int),.i e])/\t.rx=x/\t.P w'/\∀b∈t.fp,w.heap.size<=b
def Oj (s:ByteArray) (hs:s.size<=100000) (x:Rx) (a:Nat) (e:Int) (c:ot (bl s)=some (x,a,e)) (w:I):ai U Bw #[.string s] w λr Z=>MZ w x a e r Z/\ao w Z:=by
 have hl:(bl s).length=s.size:=ep s;obtain ⟨A,hlen⟩:=UX (bl s);unfold ot at c;refine GL.aD _ w _ ((bZ [] (by simp)).aL λO w1 M=>aR (λd=>M.au λw2 H2=>?_) (λd=>M.jF (NT s hs w1) ?_))
 .rw [aq (by omega)] at c;simp only [eT,ee] at c;obtain ⟨rfl,rfl,rfl⟩:=c;exact ⟨⟨cb,rfl,rfl,jQ _,λb d=>(jR d).elim⟩,H2.fr⟩
 rw [af (by omega)] at c;generalize km (bl s)=l at c A hlen;dsimp only at c;rintro _ L ⟨h,rfl,ho,hf⟩ _ F6;have H6:=F6.rd (cP h l) ho.bz (uB hf);cases F:gI l 1000 (0,false) with
 |none=>rw [F] at c;cases c
 |some ak=>
  obtain ⟨Y,H⟩:=ak;rw [F] at c;dsimp only at c;refine ⟨h,rfl,H6.nw λw7 _ q=>?_⟩;have q:LH F0 w w7 (cK L.heap.size h (0,false)::[.g O]) [cP h l]:=q.perm (List.Perm.swap _ _ _);refine q.hH ((IS A (by omega) 1000 (by omega) 1000 (bB _)).expr L.heap.size (0,false) w7 Y H F A.1 q.fK) ?_;rintro _ w8 ⟨⟨j,rfl,W,pu,Q⟩,S⟩ _ F8;have H8:=F8 (.tree j) pu λb d=>Q b (aT.1 d);refine ⟨_,_,_,j.s,rfl,H8.aL λb6 w9 H9=>H9.au λag u=>?_⟩;have u:LH F0 w ag (cK L.heap.size h H::[.g O,.g b6]) [cP h l,.tree j]:=u;refine u.hH (sN u.fK S (by omega) []) ?_;have E:=uk A S [] (by decide);rintro _ aa rfl k _;generalize hx l [] H=u0 at c E k;refine ⟨rfl,u0.2,k.ld 0 2,bE (λC=>k.au λam n=>?_) (λC=>?_)⟩
  .rw [aq C] at c;simp only [eT,ee] at c;obtain ⟨rfl,rfl,rfl⟩:=c;have hn:=vb (n.getD 0:bL _ _ _ _);refine ⟨h,n.ld 0 0,(u0.1:Int),n.ld 0 1,by omega,by omega,vc (n.getD 0) E λp hp ab=>⟨((dI l u0.1).at_:Int),?_,n.au λah y=>⟨?_,y.ld 0 1,y.ld 0 0,⟨cb,rfl,rfl,jQ _,λb d=>(jR d).elim⟩,y.fr⟩⟩⟩
   .rw [dJ];exact ab.c1
   .rw [dJ];have:=vc (y.getD 0) E (K:=λB=>∃G,h.a=some G/\B=G/\ES ah G u0.1 (dI l u0.1)) (λB T D=>⟨B,T,rfl,D⟩);rw [hp] at this;obtain ⟨B,T,rfl,D⟩:=this;exact D.c1
  .rw [af (by rw [C];simp)] at c;have ae:j.P aa:=k.getD 1;have al:Y.sz=j.sz:=by rw [<-W,J.ed]
   by_cases ad:j.sz<=1000000
   .rw [af (by omega)] at c;refine k.aA (zH j aa ad ae) ?_;rintro _ an rfl N;refine ⟨_,rfl,aR (λac=>N.au λaj z=>?_) (λac=>N.au λaj z=>?_)⟩
    .rw [aq (by omega)] at c;simp only [eT,ee] at c;obtain ⟨rfl,rfl,rfl⟩:=c;exact ⟨⟨cb,rfl,rfl,jQ _,λb d=>(jR d).elim⟩,z.fr⟩
    .rw [af (by omega)] at c;simp only [eT,ee] at c;obtain ⟨rfl,rfl,rfl⟩:=c;exact ⟨⟨j,rfl,W,z.getD 1,λb d=>bH q.fr.size (Q b d)⟩,z.fr⟩
   .rw [aq (by omega)] at c;cases c
def dw (a b:BL):ba a++ba b=ba (a++b):=by apply ByteArray.ext;rw [ByteArray.data_append];simp [ba]
def qO {w:I} {b n:Nat} {cs:List ae} {T:aG} (c:w.heap[b]? =some (.cells cs.toArray T (0,0))) (e:n=cs.length):Rd w ⟨some (aj b),n,n⟩ cs:=
 ym (s:=⟨some (aj b),n,n⟩) e (bB _) (λc=>by cases c) λi v d=>⟨aj b,rfl,cellAt (p:=aj b) c rfl (by simpa using d)⟩
def FG (c:UInt8) (w:I):ai U xb #[.int .u8 (c.toNat:Int)] w λr e=>r=V (.bool (cI c))/\ao w e:=by
 refine GS.ok _ w _ (aR (λd=>⟨?_,Fr.refl _ _⟩) (λd=>⟨?_,Fr.refl _ _⟩))
 .unfold cI;rw [aW (show 97<=c.toNat by omega),Bool.true_and,show ah ((c.toNat:Int)<=122)=ah (c.toNat<=122) from decide_eq_decide.2 (by omega)]
 .unfold cI;rw [a0 (show ¬97<=c.toNat by omega),Bool.false_and]
def zO (c:UInt8) (w:I):ai U tL #[.int .u8 (c.toNat:Int)] w λr D=>r=V (.string (ba (bo c)))/\ao w D:=by
 have H:=c.toNat_lt;have x:LH F0 w w [] []:=bZ [] (by simp);refine GH.ok _ w _ (x.call (FH c w) ?_);rintro _ u rfl q;refine ⟨_,rfl,bE (λk=>?_) (λk=>?_)⟩
 .refine q.x4 (λn _ d h=>?_);have G:((39:UInt8).toNat:Int)=39:=rfl;have e:Bytes n ⟨some (aj u.heap.size),3,3⟩ [39,c,39]:=qO (T:=b') h rfl;have j:=lX e;refine ⟨ba [39,c,39],j,?_,d.fr⟩;unfold bo;rw [aq k]
 .have A:ab .i64 (c.toNat:Int)=(c.toNat:Int):=a4 _ (by omega);have B:ab .i64 (Int.tdiv (c.toNat:Int) 16)=((c.toNat / 16:Nat):Int):=by rw [Int.tdiv_eq_ediv_of_nonneg (by omega),a4 _ (by omega)];omega
  have C:Int.tmod (c.toNat:Int) 16=((c.toNat%16:Nat):Int):=by rw [Int.tmod_eq_emod_of_nonneg (by omega)];omega
  rw [A,B,C];refine q.call (zR (c.toNat / 16) (by omega) u) ?_;rintro _ n rfl d;refine ⟨_,rfl,d.call (zR (c.toNat%16) (by omega) n) ?_⟩;rintro _ E rfl y;refine ⟨_,rfl,y.x4 (λF _ z h=>?_)⟩;have e:Bytes F ⟨some (aj E.heap.size),4,4⟩ [92,120,eL (c.toNat / 16),eL (c.toNat%16)]:=qO (T:=b') h rfl;have j:=lX e;refine ⟨ba [92,120,eL (c.toNat / 16),eL (c.toNat%16)],j,?_,z.fr⟩;unfold bo;rw [af (by rw [k];simp)]
set_option maxRecDepth 100000
abbrev kM (s:O) (l:List Nd) (d:Nd):List En:=[.gr s l,cc d]
def tG {w:I} {s:O} {l:List Nd} {d:Nd} (e:GP w s l) (h:d.P w):LH F0 w w [] (kM s l d):=bZ _ (by
 intro j c;simp only [aB,a1,a7] at c;rcases c with rfl|rfl
 .exact be.2 e
 .exact h)
def NJ {w:I} {s:O} {l:List Int} (c:bS w s l) (z:l.length<=1000000000000) (n:Int):ai U Bp #[s.v,.i n] w λr j=>r=V (.bool (ah (n∈l)))/\ao w j:=by
 have A:=bS.len c;have loop:∀(d i:Nat),i+d=l.length->(n∈l↔n∈l.drop i)->s3.L0 s n (i:Int) w λr j=>r=V (.bool (ah (n∈l)))/\ao w j:=by
  intro d;induction d with
  |zero=>
   intro i u e;rw [dt (by omega)] at e;exact s3.b5 _ _ _ _ _ (a9 (a0 (by omega)) ⟨by rw [a0 (λc=>by have:=e.1 c;simp at this)],Fr.refl _ _⟩)
  |succ d y=>
   intro i u e;have k:l[i]? =some (l[i]'(by omega)):=bc (by omega);rw [dq (by omega:i<l.length),aB] at e;generalize l[i]'(by omega)=x at k e;refine s3.b5 _ _ _ _ _ (bd (aW (by omega)) ⟨by omega,by omega,c.cell k (by omega) λp B q=>⟨x,q,aO (λh=>⟨?_,Fr.refl _ _⟩) (λh=>?_)⟩⟩)
   .rw [aW (e.2 (.inl h.symm))]
   .rw [bw _ (by omega)];exact y (i+1) (by omega) (e.trans ⟨λc=>c.resolve_left (λc=>h c.symm),.inr⟩)
 exact s3.ok _ _ w _ (loop l.length 0 (by omega) (by simp))
def Fz {w:I} {s:O} {l:List Int} (c:bS w s l) (d:l.length<=1000000000000) (n:Int):ai U xj #[s.v,.i n] w λr e=>r=V (.bool (ah (n∈l)))/\ao w e:=by refine G6.ok _ _ w _ ((NJ c d n).mono ?_);rintro _ h ⟨rfl,f⟩;exact ⟨_,rfl,rfl,f⟩
def o4 {w:I} {b n:Nat} {l:List Int} {T:aG} (c:w.heap[b]? =some (.cells (l.map dp).toArray T (0,0))) (d:n=l.length):bS w ⟨some (aj b),n,n⟩ l:=
 qO c (by simpa using d)
def dQ:Nat:=1000000000
def Hg (op:Int):(ah (op∈[(21:Int),22,23,28])=n6 op)/\(ah (op∈[(0:Int),2,33])=n7 op):=by
 constructor
 .unfold n6;by_cases c:op=21
  .subst c;rfl
  by_cases d:op=22
  .subst d;rfl
  by_cases e:op=23
  .subst e;rfl
  by_cases h:op=28
  .subst h;rfl
  simp [c,d,e,h]
 .unfold n7;by_cases c:op=0
  .subst c;rfl
  by_cases d:op=2
  .subst d;rfl
  by_cases e:op=33
  .subst e;rfl
  simp [c,d,e]
def Pq (t:ByteArray):(t.toList==(az #[]).toList)=ah (t=ba []):=yK _ _
def Sc {n:Nx} {A B:Prop} (h:Y (iN n) B A):∀a b:Bool,a=n6 n.op->b=n7 n.op->
  let d:=Y (!b) (Y (!(n.tx.toList==(az #[]).toList)) A B) B
  let e:=Y (n.op !=1) (Y (n.u !=0) A d) d
  let c:=Y (n.op !=21) (Y (n.m !=0) A e) e
  Y (!a) (Y (n.n !=0) A c) c:=by rintro a b rfl rfl;dsimp only;rw [Pq];unfold iN at h;have j:(n.op !=1)= !(n.op==1):=rfl;have k:(n.op !=21)= !(n.op==21):=rfl;have q:(n.n !=0)= !(n.n==0):=rfl;have w:(n.m !=0)= !(n.m==0):=rfl;have x:(n.u !=0)= !(n.u==0):=rfl;rw [j,k,q,w,x];generalize (n.op==1)=p1 at *;generalize (n.op==21)=p2 at *;generalize (n.n==0)=p3 at *;generalize (n.m==0)=p4 at *;generalize (n.u==0)=p5 at *;generalize ah (n.tx=ba [])=p6 at *;generalize n6 n.op=p7 at *;generalize n7 n.op=p8 at *;cases p1<;>cases p2<;>cases p3<;>cases p4<;>cases p5<;>cases p6<;>cases p7<;>cases p8<;>exact h
def l5 (g:List Nx) (n:Nx):Int:=if (cM n.op==(n.kids.length:Int)&&n.kids.all (fc g)&&iN n)=true then 0 else 1
def N1 {w:I} {s:O} {l:List Nd} {d:Nd} (j:GP w s l) (F:d.P w) (hk:d.x.kids.length<=dQ):ai U BM #[s.v,d.v] w λr C=>r=V (.i (l5 (xs l) d.x))/\ao w C:=by
 have hn:=fu j;have H:d.ks.n=d.x.kids.length:=bS.len F;have L:(xs l).length=l.length:=by simp [xs]
 unfold dQ at hk;have loop:∀(m i:Nat) (e:Nat) (c:I),i+m=d.x.kids.length->(cM d.x.op==(d.x.kids.length:Int))=true->(d.x.kids.all (fc (xs l))=(d.x.kids.drop i).all (fc (xs l)))->LH F0 w c [.g e] (kM s l d)->
   th.aP s e d.x.op d.ks d.x.n d.x.m d.x.u d.x.tx d.x.st.k d.x.st.n d.x.st.x (i:Int) c λr C=>r=V (.i (l5 (xs l) d.x))/\ao w C:=by
  intro m;induction m with
  |zero=>
   intro i e c hi B h q;rw [dt (by omega)] at h;refine th.bW _ _ _ _ _ _ _ _ _ _ _ _ _ _ (a9 (a0 (by omega)) (q.nw λM _ y=>y.aA (Fz (l:=[21,22,23,28]) (o4 (n:=4) (y.ob 1) rfl) (by decide) d.x.op) ?_));rintro _ N rfl z;refine ⟨_,rfl,z.nw λw4 _ D=>D.aA (Fz (l:=[0,2,33]) (o4 (n:=3) (D.ob 2) rfl) (by decide) d.x.op) ?_⟩;rintro _ w5 rfl E;refine ⟨_,rfl,?_⟩;have G:∀b:Bool,iN d.x=b->l5 (xs l) d.x=if b=true then 0 else 1:=λb W=>by unfold l5;rw [B,h,W];rfl
   exact Sc (n:=d.x) (bE (λj=>⟨by rw [G _ j];rfl,E.fr⟩) (λj=>⟨by rw [G _ j];rfl,E.fr⟩)) _ _ (Hg d.x.op).1 (Hg d.x.op).2
  |succ m ih=>
   intro i e c hi B h q;have A:d.x.kids[i]? =some (d.x.kids[i]'(by omega)):=bc (by omega);rw [dq (by omega:i<d.x.kids.length),List.all_cons] at h;generalize d.x.kids[i]'(by omega)=x at A h;have bad:fc (xs l) x=false->(Ending.returned (.i 1)=V (.i (l5 (xs l) d.x))/\ao w c):=λhx=>⟨by unfold l5;rw [h,hx];simp,q.fr⟩;have J:bS c d.ks d.x.kids:=q.getD 1;refine th.bW _ _ _ _ _ _ _ _ _ _ _ _ _ _ (bd (aW (by omega)) ⟨by omega,by omega,J.cell A (by omega) λp hp Y=>⟨x,Y,aR (λS=>bad ?_) (λS=>⟨by omega,by omega,J.cell A (by omega) λp' ab Z=>⟨x,Z,aR (λT=>bad ?_) (λT=>?_)⟩⟩)⟩⟩)
   .unfold fc;rw [a0 (by omega)];rfl
   .unfold fc;rw [a0 (show ¬x<((xs l).length:Int) by rw [L];omega)];simp
   .rw [bw _ (by omega)];refine ih (i+1) e c (by omega) B ?_ q;rw [h];unfold fc;rw [aW (show 0<=x by omega),aW (show x<((xs l).length:Int) by rw [L];omega)];rfl
 refine th.aD _ _ _ _ _ _ _ _ _ _ w _ ((tG j F).aL λe c Q=>Q.au λM y=>y.aA (Fh d.x.op M) ?_);rintro _ N rfl z;refine ⟨_,rfl,dG (λK=>⟨?_,z.fr⟩) (λaa=>?_)⟩
 .unfold l5;rw [beq_eq_false_iff_ne.2 (by rw [H] at K;exact K)];rfl
 .exact loop d.x.kids.length 0 e N (by omega) (by rw [aa,H];simp) (by simp) z
def vI (g:List Nx):Prop:=∀c∈g,c.op=0->∀d∈g,d.op=0->c.tx=d.tx->c.st=d.st
def r9 (n d:Nx):Bool:=ah (d.op=0/\d.tx=n.tx/\d.st≠n.st)
def Eo {t:ByteArray} {s:bq}:∀{g:List Nx},hD g t=some s->∃d∈g,d.op=0/\d.tx=t/\d.st=s
 |d::g,c=>by
  unfold hD at c;split at c
  .rename_i e;exact ⟨d,by simp,e.1,e.2,Option.some.inj c⟩
  .obtain ⟨h,j,c⟩:=Eo c;exact ⟨h,ec _ j,c⟩
def L9 {t:ByteArray}:∀{g:List Nx},hD g t=none->∀c∈g,c.op=0->c.tx≠t
 |a::g,d,c,e,h,j=>by
  unfold hD at d;split at d
  .cases d
  .rename_i k;rcases aB.1 e with rfl|e
   .exact k ⟨h,j⟩
   .exact L9 d c e h j
def LU {g:List Nx} (y:vI g) (n:Nx):qf g n=g.any (r9 n):=by
 unfold qf;cases k:hD g n.tx with
 |none=>
  symm;rw [List.any_eq_false];intro d e c;have c:=ef c;exact L9 k d e c.1 c.2.1
 |some s=>
  obtain ⟨d,e,q,u,w⟩:=Eo k;by_cases h:s=n.st
  .simp only [h,decide_true,Bool.not_true];symm;rw [List.any_eq_false];intro j x c;have c:=ef c;exact c.2.2 ((y j x c.1 d e q (c.2.1.trans u.symm)).trans (w.trans h))
  .simp only [h,decide_false,Bool.not_false];symm;rw [List.any_eq_true];exact ⟨d,e,aW ⟨q,u,λj=>h (w.symm.trans j)⟩⟩
def Sy (n:Int) (e:0<=n) (h:n<64):ab .u64 (1 *2^(min (ag n) (IntKind.bits .u64)))=((2^n.toNat:Nat):Int):=by
 have c:min (ag n) (IntKind.bits .u64)=n.toNat:=by show min n.toNat 64=_;omega
 have d:(2:Nat)^n.toNat<=2^63:=Nat.pow_le_pow_right (by omega) (by omega);rw [c,Int.one_mul,show ((2:Int)^n.toNat)=((2^n.toNat:Nat):Int) from by rw [Int.natCast_pow];rfl];generalize (2:Nat)^n.toNat=m at d;exact IntWalk.u64_in _ (by omega)
abbrev fN (x:bq×Int):dA:=V (.tuple #[dx x.1,.i x.2])
def sa {s:bq} (c:bT s=true) (d:s.k=0):1<=s.n/\s.n<=64/\s.x=0:=by unfold bT at c;simp [d] at c;omega
def kW {s:bq} (c:bT s=true):0<=s.n/\s.n<=64/\0<=s.x/\s.x<=16/\0<=s.k/\s.k<=3:=by unfold bT at c;simp at c;omega
def Oa {w:I} {s:O} {l:List Nd} {d:Nd} (c:GP w s l) (hd:d.P w) (hl:l.length<=dQ) (h0:0<=d.x.op) (h3:d.x.op<=3) (hv:vI (xs l)):ai U BO #[s.v,d.v] w λr j=>r=fN (cy (xs l) d.x)/\ao w j:=by
 have hn:=fu c;have ap:(xs l).length=l.length:=by simp [xs]
 unfold dQ at hl;have e0:d.x.op=0\/d.x.op=1\/d.x.op=2\/d.x.op=3:=by omega
 refine i'.aD _ _ _ _ _ _ _ _ _ _ w _ ((tG c hd).aL λA w1 H1=>H1.aL λy w2 W=>aO (λZ=>?_) (λZ=>?_))
 .refine aR (λhs=>W.au λL G=>⟨?_,G.fr⟩) (λhs=>W.aA (mW _ w2) ?_)
  .unfold cy;rw [aq Z,aq (by omega)];rfl
  .rintro _ L rfl G;refine ⟨_,_,_,rfl,G.au λw4 M=>⟨?_,M.fr⟩⟩;unfold cy;rw [aq Z,af (by omega)]
 have E:cy (xs l) d.x=if d.x.op=0/\jO (bl d.x.tx)=false then (cF,6) else
   if bT d.x.st=false then (cF,9) else
   if d.x.op=1/\d.x.st.k≠0\/d.x.op=3/\dR d.x.st=false then (cF,9) else
   if d.x.op=1/\mU d.x.u d.x.st.n=true then (cF,5) else
   if d.x.op=0/\(xs l).any (r9 d.x)=true then (cF,8) else (d.x.st,0):=by unfold cy;rw [af Z,LU hv]
 have S0:∀(nm:Bool) (L:I),nm=(!decide (d.x.op=0)||jO (bl d.x.tx))->LH F0 w L [.g A,.g y] (kM s l d)->i'.aQ s A d.x.op d.ks d.x.n d.x.m d.x.u d.x.tx d.x.st.k d.x.st.n d.x.st.x y 0 0 0 nm L λr j=>r=fN (cy (xs l) d.x)/\ao w j:=by
  intro nm L N G;refine dM (λJ=>G.au λw4 M=>⟨?_,M.fr⟩) (λD=>?_)
  .rw [J] at N;have N:=N.symm;simp only [Bool.or_eq_false_iff,Bool.not_eq_false',decide_eq_true_eq] at N;rw [E,aq N];rfl
  have ak:¬(d.x.op=0/\jO (bl d.x.tx)=false):=λae=>by rw [D,ae.2,aW ae.1] at N;simp at N
  rw [af ak] at E;refine G.aA (SP d.x.st L) ?_;rintro _ w4 rfl M;refine ⟨_,rfl,DE (λJ=>M.au λh z=>⟨?_,z.fr⟩) (λD=>?_)⟩
  .rw [E,aq J];unfold gD;rw [J];rfl
  rw [af (by rw [D];simp)] at E;have loop:∀(m i:Nat) (h:I),i+m=l.length->cy (xs l) d.x=(if d.x.op=0/\((xs l).drop i).any (r9 d.x)=true then (cF,8) else (d.x.st,0))->LH F0 w h [.g A,.g y] (kM s l d)->
    i'.hc s A d.x.op d.ks d.x.n d.x.m d.x.u d.x.tx d.x.st.k d.x.st.n d.x.st.x y 0 0 0 (i:Int) h λr j=>r=fN (cy (xs l) d.x)/\ao w j:=by
   intro m;induction m with
   |zero=>
    intro i h hi F z;rw [dt (by omega)] at F;refine i'.mP _ _ _ _ _ _ _ _ _ _ _ _ _ _ _ _ _ _ (a9 (a0 (by omega)) (z.au λB q=>⟨?_,q.fr⟩));rw [F,af (by simp)]
   |succ m ih=>
    intro i h hi F z;have T:l[i]? =some (l[i]'(by omega)):=bc (by omega);have hx:(xs l).drop i=(l[i]'(by omega)).x::(xs l).drop (i+1):=by rw [dq (by omega:i<(xs l).length)];simp [xs]
    rw [hx,List.any_cons] at F;generalize l[i]'(by omega)=e at T F;have next:∀B,LH F0 w B [.g A,.g y] (kM s l d)->(d.x.op=0->r9 d.x e.x=false)->i'.fj s A d.x.op d.ks d.x.n d.x.m d.x.u d.x.tx d.x.st.k d.x.st.n d.x.st.x y 0 0 0 (i:Int) B λr j=>r=fN (cy (xs l) d.x)/\ao w j:=by
     intro B q D;show i'.hc s A d.x.op d.ks d.x.n d.x.m d.x.u d.x.tx d.x.st.k d.x.st.n d.x.st.x y 0 0 0 (ab .i64 ((i:Int)+1)) B _;rw [bw _ (by omega)];refine ih (i+1) B (by omega) ?_ q;rw [F];by_cases Q:d.x.op=0
     .rw [D Q,Bool.false_or]
     .rw [af (λc=>Q c.1),af (λc=>Q c.1)]
    have G5:GP h s l:=be.1 (z.getD 0);refine i'.mP _ _ _ _ _ _ _ _ _ _ _ _ _ _ _ _ _ _ (bd (aW (by omega)) (aO (λQ=>?_) (λQ=>z.au λB q=>next B q (λc=>absurd c Q))));refine fa G5 rfl T λp hp _=>z.au λB q=>?_;have c6:=rl (be.1 (q.getD 0)) T hp (rfl:((i:Int))=(i:Int));refine ⟨_,c6.c0,aO (λS=>?_) (λS=>next B q λ_=>a0 λc=>S c.1)⟩;refine fa (be.1 (q.getD 0)) rfl T λp1 am aj=>⟨_,aj.c5,DF (λD=>?_) (λD=>next B q λ_=>a0 λc=>D c.2.1)⟩;refine fa (be.1 (q.getD 0)) rfl T λp2 an aa=>⟨_,_,_,aa.s0,aa.s1,aa.s2,uQ (λJ=>q.au λw7 H7=>⟨?_,H7.fr⟩) (λal=>next B q λ_=>a0 λc=>c.2.2 al)⟩;rw [F,aq ⟨Q,by rw [show r9 d.x e.x=true from aW ⟨S,D,J⟩];rfl⟩];rfl
  have S4:∀h:I,cy (xs l) d.x=(if d.x.op=0/\(xs l).any (r9 d.x)=true then (cF,8) else (d.x.st,0))->LH F0 w h [.g A,.g y] (kM s l d)->
    i'.cB s A d.x.op d.ks d.x.n d.x.m d.x.u d.x.tx d.x.st.k d.x.st.n d.x.st.x y 0 0 0 h λr j=>r=fN (cy (xs l) d.x)/\ao w j:=λh F z=>loop l.length 0 h (by omega) F z
  have S1:∀(a:Bool) (h:I),a=dR d.x.st->LH F0 w h [.g A,.g y] (kM s l d)->i'.a2 s A d.x.op d.ks d.x.n d.x.m d.x.u d.x.tx d.x.st.k d.x.st.n d.x.st.x y 0 0 0 a h λr j=>r=fN (cy (xs l) d.x)/\ao w j:=by
   rintro a h rfl z;have bad:(d.x.op=1/\d.x.st.k≠0\/d.x.op=3/\dR d.x.st=false)->i'.aY y 0 0 0 h λr j=>r=fN (cy (xs l) d.x)/\ao w j:=λC=>z.au λB q=>⟨by rw [E,aq C];rfl,q.fr⟩;have S3:¬(d.x.op=1/\d.x.st.k≠0\/d.x.op=3/\dR d.x.st=false)->i'.bh s A d.x.op d.ks d.x.n d.x.m d.x.u d.x.tx d.x.st.k d.x.st.n d.x.st.x y 0 0 0 h λr j=>r=fN (cy (xs l) d.x)/\ao w j:=λC=>by
    rw [af C] at E;refine aO (λH=>?_) (λH=>S4 h (by rw [E,af (λc=>H c.1)]) z);have K:d.x.st.k=0:=by
     rcases Int.decEq d.x.st.k 0 with c|c
     .exact absurd (.inl ⟨H,c⟩) C
     .exact c
    obtain ⟨v1,v2,_⟩:=sa D K;have ew:ab .u64 d.x.st.n=d.x.st.n:=IntWalk.u64_in _ (by omega);refine aR (λac=>⟨by rw [ew];omega,?_⟩) (λac=>S4 h (by rw [E,af];rintro ⟨_,C⟩;unfold mU at C;rw [a0 (by omega)] at C;cases C) z);rw [ew,Sy _ (by omega) ac];have hp:((2^d.x.st.n.toNat:Nat):Int)=(2:Int)^d.x.st.n.toNat:=by rw [Int.natCast_pow];rfl
    rw [hp];refine aR (λag=>z.au λB q=>⟨?_,q.fr⟩) (λag=>S4 h ?_ z)
    .rw [E,aq ⟨H,by unfold mU;rw [aW ac,aW ag];rfl⟩];rfl
    .rw [E,af];rintro ⟨_,C⟩;unfold mU at C;rw [a0 (by omega:¬(2:Int)^d.x.st.n.toNat<=d.x.u),Bool.and_false] at C;cases C
   have ah:¬(d.x.op=1/\d.x.st.k≠0)->Y (d.x.op==3) (Y (!dR d.x.st) (i'.aY y 0 0 0 h λr j=>r=fN (cy (xs l) d.x)/\ao w j) (i'.bh s A d.x.op d.ks d.x.n d.x.m d.x.u d.x.tx d.x.st.k d.x.st.n d.x.st.x y 0 0 0 h λr j=>r=fN (cy (xs l) d.x)/\ao w j)) (i'.bh s A d.x.op d.ks d.x.n d.x.m d.x.u d.x.tx d.x.st.k d.x.st.n d.x.st.x y 0 0 0 h λr j=>r=fN (cy (xs l) d.x)/\ao w j):=λK=>
    aO (λh3=>dM (λJ=>bad (.inr ⟨h3,J⟩)) (λD=>S3 (by rintro (c|c);exact K c;rw [D] at c;cases c.2))) (λh3=>S3 (by rintro (c|c);exact K c;exact h3 c.1))
   exact aO (λH=>dG (λK=>bad (.inl ⟨H,K⟩)) (λK=>ah (λc=>c.2 K))) (λH=>ah (λc=>H c.1))
  refine aO (λad=>S1 true w4 ?_ M) (λad=>S1 _ w4 ?_ M)
  .unfold dR;rw [ad];rfl
  .unfold dR;rw [beq_eq_false_iff_ne.2 ad];rfl
 refine dG (λS=>S0 true w2 ?_ W) (λS=>W.aA (NO d.x.tx w2) ?_)
 .rw [a0 S];rfl
 .rintro _ L rfl G;exact ⟨_,rfl,S0 _ L (by rw [aW S];rfl) G⟩
def yR {s:bq} (q:(s.k=0/\1<=s.n/\s.n<=64/\s.x=0)\/(s.k=1/\0<=s.n/\s.n<=64/\s.x=0)\/(s.k=2/\1<=s.n/\s.n<=64/\1<=s.x/\s.x<=16)\/(s.k=3/\0<=s.n/\s.n<=64/\1<=s.x/\s.x<=16)):bT s=true:=by unfold bT;rcases q with ⟨c,d,e,h⟩|⟨c,d,e,h⟩|⟨c,d,e,h,j⟩|⟨c,d,e,h,j⟩<;>simp [c,d,e,h]<;>simp [j]
def Em {s:bq}:bT s=true↔(s.k=0/\1<=s.n/\s.n<=64/\s.x=0)\/(s.k=1/\0<=s.n/\s.n<=64/\s.x=0)\/(s.k=2/\1<=s.n/\s.n<=64/\1<=s.x/\s.x<=16)\/(s.k=3/\0<=s.n/\s.n<=64/\1<=s.x/\s.x<=16):=by refine ⟨λc=>?_,yR⟩;unfold bT at c;simp only [Bool.or_eq_true,bn,beq_iff_eq,decide_eq_true_eq] at c;omega
structure qI (g:List Nx) (n:Nx):Prop where
 kl:cM n.op=(n.kids.length:Int)
 ki:∀k∈n.kids,0<=k/\k<(g.length:Int)
 ok:iN n=true
def DR {g:List Nx} {n:Nx} (d:(bU g n).2=0):qI g n:=by
 unfold bU at d;split at d
 .cases d
 .rename_i c;simp only [Bool.and_eq_false_iff,not_or,Bool.not_eq_false,beq_iff_eq] at c;refine ⟨c.1.1,λh e=>?_,c.2⟩;have:=List.all_eq_true.1 c.1.2 h e;unfold fc at this;simpa using this
def QR {g:List Nx} {n:Nx} (j:∀e∈g,bT e.st=true) (h:∀d∈n.kids,0<=d/\d<(g.length:Int)) {i:Nat} (hi:i<n.kids.length):bT (bP g n i)=true:=by
 have k:=h _ (List.getElem_mem hi);unfold bP;rw [bc hi];dsimp only;have c:(n.kids[i]).toNat<g.length:=by omega
 rw [bc c];exact j _ (List.getElem_mem c)
def Pl {x:bq} (d:bT x=true) (c:dR x=true):bT (hj x)=true:=by
 rw [Em] at d;unfold dR at c;simp only [Bool.or_eq_true,beq_iff_eq] at c;unfold hj;refine yR ?_;split
 .show (0=0/\1<=x.n/\x.n<=64/\0=0)\/_;left;omega
 .right;left;show (1:Int)=1/\0<=x.n/\x.n<=64/\(0:Int)=0;omega
def mV {n:Int} (c:1<=n) (d:n<=64):bT (bI n)=true:=yR (.inl ⟨rfl,c,d,rfl⟩)
def u4 {n:Int} (c:0<=n) (d:n<=64):bT (eH n)=true:=yR (.inr (.inl ⟨rfl,c,d,rfl⟩))
def Ue {g:List Nx} {n:Nx} (S:∀K∈g,bT K.st=true) (c:(bU g n).2=0):bT (bU g n).1=true:=by
 have B:=DR c;have A:∀i:Nat,(i:Int)<cM n.op->bT (bP g n i)=true:=λi T=>QR S B.ki (by have:=B.kl;omega);unfold bU at c ⊢;split at c
 .cases c
 rename_i E;rw [af E];split at c
 .rename_i D;rw [aq D];unfold cy at c ⊢;split at c
  .rename_i q;rw [aq q];split at c
   .cases c
   .rename_i Q;rw [af Q];exact u4 (by omega) (by omega)
  .rename_i q;rw [af q];split at c
   .cases c
   rename_i L;rw [af L];split at c
   .cases c
   rename_i h;rw [af h];split at c
   .cases c
   rename_i N;rw [af N];split at c
   .cases c
   rename_i O;rw [af O];split at c
   .cases c
   rename_i P;rw [af P];simpa using h
 rename_i D;rw [af D];split at c
 .cases c
 rename_i d;rw [af d];split at c
 .cases c
 rename_i e;rw [af e];split at c
 .cases c
 rename_i F;rw [af F];simp only [Bool.not_eq_false] at d e;have M:n.op<=34:=by
  rcases Int.lt_or_le 34 n.op with c|c
  .have:=B.kl;unfold cM at this;rw [aq (.inr c)] at this;omega
  .exact c
 generalize G:bP g n 0=x at *;generalize H:bP g n 1=y at *;generalize J:bP g n 2=z at *;have j:bT x=true:=by rw [<-G];exact A 0 (by unfold cM;repeat' split<;>omega)
 have u:2<=cM n.op->bT y=true:=λc=>by rw [<-H];exact A 1 (by omega)
 have C:cM n.op=3->bT z=true:=λc=>by rw [<-J];exact A 2 (by omega)
 obtain ⟨W,kids,w,m,Z,Y,st⟩:=n;simp only at *;clear G H J A B E F;rcases rK (by omega) M with rfl|rfl|rfl|rfl|rfl|rfl|rfl|rfl|rfl|rfl|rfl|rfl|rfl|rfl|rfl|rfl|rfl|rfl|rfl|rfl|rfl|rfl|rfl|rfl|rfl|rfl|rfl|rfl|rfl|rfl|rfl|rfl|rfl|rfl|rfl
 iterate 4 omega
 all_goals first |(have u:=u (by decide))|skip
 all_goals first |(have C:=C (by decide))|skip
 iterate 12 exact j
 iterate 3 exact mV (by omega) (by omega)
 .show bT (if y.k=1 then eH (if y.n<z.n then z.n else y.n) else y)=true;split
  .rename_i A;have d:(ah (x=bI 1)&&(ah (y=z)||(y.k==1&&z.k==1)))=true:=d;have h:=kW u;have q:=kW C;exact u4 (by split<;>omega) (by split<;>omega)
  .exact u
 .have d:(x.k==0&&y.k==0)=true:=d;have e:ah (x.n+y.n<=64)=true:=e;simp only [bn,beq_iff_eq] at d;have h:=sa j d.1;have q:=sa u d.2;exact mV (by omega) (ef e)
 .have d:(x.k==0)=true:=d;have e:(ah (0<=m)&&ah (m<=w)&&ah (w<x.n))=true:=e;simp only [bn,decide_eq_true_eq] at e;have h:=sa j (eq_of_beq d);show bT (bI (w - m+1))=true;exact mV (by omega) (by omega)
 iterate 2
  .have d:(x.k==0)=true:=d;have e:(ah (1<=w)&&ah (w<=64 - x.n))=true:=e;simp only [bn,decide_eq_true_eq] at e;have h:=sa j (eq_of_beq d);show bT (bI (x.n+w))=true;exact mV (by omega) (by omega)
 .have d:(dR x&&ah (y=bI x.x))=true:=d;simp only [bn] at d;exact Pl j d.1
 .exact j
 .have d:(dR x&&ah (x=y))=true:=d;simp only [bn] at d;have h:=d.1;unfold dR at h;simp only [Bool.or_eq_true,beq_iff_eq] at h;rw [Em] at j;exact mV (by omega) (by omega)
 .exact mV (by omega) (by omega)
 .exact mV (by omega) (by omega)
 .have e:ah (x.n+y.n<=64)=true:=e;have h:=kW j;have q:=kW u;exact u4 (by omega) (ef e)
 .exact j
 .exact mV (by omega) (by omega)
 .have e:ah (x.n+z.n<=64)=true:=e;have h:=kW j;have q:=kW C;exact u4 (by omega) (ef e)
 .exact mV (by omega) (by omega)
 .exact u4 (by omega) (by omega)
def Vg.val {g:List Nx} (j:Vg g):∀d∈g,bT d.st=true:=by
 induction j with
 |nil=>simp
 |snoc k e n h=>
  intro d c;rcases a5.1 c with c|c
  .exact h d c
  .simp only [aB,a1,a7] at c;subst c;have:=Ue h (by rw [e])
   rwa [e] at this
def var_eq {g C:List Nx} {a b:Nx} (e:qI g a) (E:qI C b) (d:a.op=0) (h:b.op=0) (G:a.tx=b.tx) (F:a.st=b.st):a=b:=by
 have j:∀{g:List Nx} {a:Nx},qI g a->a.op=0->a.kids=[]/\a.n=0/\a.m=0/\a.u=0:=by intro g a e d;have D:=e.kl;have c:=e.ok;rw [d] at D;unfold iN at c;rw [d] at c;refine ⟨mq (by have:cM 0=0:=rfl;omega),?_⟩;have:n6 0=false:=rfl;rw [this] at c;simp at c;exact ⟨c.1.1.1,c.1.1.2,c.1.2⟩
 obtain ⟨k,q,w,x⟩:=j e d;obtain ⟨y,z,A,B⟩:=j E h;cases a;cases b;simp only at *;subst d h G F k q w x y z A B;rfl
def Vg.ok {g:List Nx} (h:Vg g):∀i d,g[i]? =some d->bU (g.take i) d=(d.st,0):=by
 induction h with
 |nil=>intro i d c;simp at c
 |@snoc g u n j q k=>
  intro i d c;rcases Nat.lt_or_ge i g.length with e|e
  .rw [List.getElem?_append_left e] at c;rw [List.take_append_of_le_length (by omega)];exact k i d c
  .rw [List.getElem?_append_right e] at c;have:i - g.length=0:=by have:=(cD.1 c).1;simp at this;omega
   rw [this] at c;simp at c;subst c;rw [show i=g.length by omega,List.take_left];exact j
def Vg.DN {g:List Nx} (d:Vg g):∀i c,g[i]? =some c->qI (g.take i) c:=λi c e=>DR (by rw [d.ok i c e])
def Vg.kids {g:List Nx} (h:Vg g) {i:Nat} {d:Nx} (e:g[i]? =some d):∀c∈d.kids,0<=c/\c<(i:Int):=λc k=>by have j:=(h.DN i d e).ki c k;have n:=(cD.1 e).1;rw [List.length_take] at j;omega
def Vg.vars {g:List Nx} (u:Vg g):vI g:=by
 induction u with
 |nil=>intro h d;cases d
 |@snoc g q z c A y=>
  have one:∀h∈g,h.op=0->q.op=0->h.tx=q.tx->h.st=q.st:=by
   intro h d k n j;have B:qI g q:=DR (by rw [c]);unfold bU at c;split at c
   .simp at c
   rw [aq (by omega:q.op<=3)] at c;unfold cy at c;rw [af (by omega)] at c;split at c
   .simp at c
   split at c
   .simp at c
   split at c
   .simp at c
   split at c
   .simp at c
   split at c
   .simp at c
   rename_i w;simp only [n,true_and,Bool.not_eq_true] at w;rw [LU y,List.any_eq_false] at w;rcases decEq h.st q.st with u|u
   .exact absurd (aW ⟨k,j,u⟩) (w h d)
   .exact u
  intro h d k x e n j;have d:=a5.1 d;have e:=a5.1 e;simp only [aB,a1,a7] at d e;rcases d with d|d
  .rcases e with e|e
   .exact y h d k x e n j
   .rw [e] at j n ⊢;exact one h d k n j
  .rw [d] at j k ⊢;rcases e with e|e
   .exact (one x e n k j.symm).symm
   .rw [e]
def wI {n:Nx}:∀{g:List Nx} {i:Nat},eB n g i=none->n∉g
 |[],i,_=>by simp
 |h::g,i,c=>by
  unfold eB at c;split at c
  .cases c
  .rename_i e;simp only [aB,not_or];exact ⟨λd=>e d.symm,wI c⟩
def tB {n:Nx}:∀{g:List Nx} {i k:Nat},eB n g i=some k->i<=k/\g[k - i]? =some n
 |e::g,i,k,c=>by
  unfold eB at c;split at c
  .rename_i d;cases c;simp [d]
  .have:=tB c;refine ⟨by omega,?_⟩;rw [show k - i=(k - (i+1))+1 by omega];simpa using this.2
set_option maxHeartbeats 2000000
namespace yS
noncomputable abbrev X:Fx:=⟨U,Tryz.f103,[],[1]⟩
abbrev P0:Ps:=[]
abbrev a2 (w:I) (R:aa):Prop:=
 R (V (.i 9)) w
noncomputable def bg:=aC X [] (ak [0,1,1,1,3]) P0 a2::[]
abbrev aY (w:I) (R:aa):Prop:=
 R (V (.i 9)) w
noncomputable def bm:=aC X bg (ak [0,1,1,1,4]) P0 aY::bg
abbrev bh (w:I) (R:aa):Prop:=
 R (V (.i 0)) w
noncomputable def bt:=aC X bm (ak [5]) P0 bh::bm
abbrev aQ (k:Nat) (n e c h j:Int) (d:Bool) (w:I) (R:aa):Prop:=
 Y (ah (e<h)) (a2 w R) (Y (ah (e>j)) (a2 w R) (Y d (Y (ah (c<1)) (aY w R) (Y (ah (c>16)) (aY w R) (Y (!d) (Y (c !=0) (aY w R) (bh w R)) (bh w R)))) (Y (!d) (Y (c !=0) (aY w R) (bh w R)) (bh w R))))
noncomputable def bf:=aC X bt (ak [3]) [(1,.l [.I,.I,.I] b3),(3,.v [.I]),(4,.v [.I]),(5,.v [.b])] aQ::bt
def aD (c d e:Int) (w:I) (R:aa) (k:aJ [] w λj h=>
 Y (c==0) (aQ j c d e 1 64 false h R) (Y (c==1) (aQ j c d e 0 64 false h R) (Y (c==2) (aQ j c d e 1 64 true h R) (Y (c==3) (aQ j c d e 0 64 true h R) (R (V (.i 9)) h))))):ai U xT #[.agg #[.i c,.i d,.i e]] w R:=aE X bf k
end yS
namespace mA
noncomputable abbrev X:Fx:=⟨U,Tryz.f102,[],[]⟩
abbrev P0:Ps:=[]
abbrev S0 (w:I) (R:aa):Prop:=
 R (V (.bool false)) w
noncomputable def bf:=aC X [] (ak [0,1,1,1,1]) P0 S0::[]
abbrev P1:Ps:=[(0,.v [.st]),(3,.v [.I])]
def L1 (d:ByteArray) (c:Int) (w:I) (R:aa):Prop:=br P1 0 (X.Sem (ak [0,1,1,1,2])) d c w R
noncomputable def cC:=bD X (ak [0,1,1,1,2]) P1 L1::bf
abbrev S4 (w:I) (R:aa):Prop:=
 R (V (.bool false)) w
noncomputable def cZ:=aC X cC (ak [0,1,3,2,1,2,1,1,2]) P0 S4::cC
abbrev S5 (d:ByteArray) (c:Int) (w:I) (R:aa):Prop:=
 L1 d (ab .i64 (c+1)) w R
noncomputable def eY:=aC X cZ (ak [2,2,1,1,2]) P1 S5::cZ
abbrev S3 (e:ByteArray) (c d:Int) (h:Bool) (w:I) (R:aa):Prop:=
 Y (!h) (Y (c==0) (S4 w R) (Y (d !=45) (Y (ah (d<48)) (S4 w R) (Y (ah (d>57)) (S4 w R) (S5 e c w R))) (S5 e c w R))) (S5 e c w R)
noncomputable def bt:=aC X eY (ak [2,2,1,2,1,1,2]) [(0,.v [.st]),(3,.v [.I]),(4,.v [.Y]),(5,.v [.b])] S3::eY
abbrev S2 (e:ByteArray) (d c:Int) (w:I) (R:aa):Prop:=
 Y (ah (c>=97)) (S3 e d c (ah (c<=122)) w R) (S3 e d c false w R)
noncomputable def bm:=aC X bt (ak [1,2,1,2,1,1,2]) [(0,.v [.st]),(3,.v [.I]),(4,.v [.Y])] S2::bt
def fC:∀(d:ByteArray) (c:Int) (w:I) (R:aa) (h:Y (ah (c<((d.size:Nat):Int))) ((0:Int)<=c/\∃e:UInt8,d[ag c]? =some e/\S2 d c ((e.toNat:Nat):Int) w R) (R (V (.bool true)) w)),L1 d c w R:=mp (bF (X:=X) bm (ak [0,1,1,1,2]) P1)
def ok (c:ByteArray) (w:I) (R:aa) (d:Y (ah (((c.size:Nat):Int)<1)) (S0 w R) (Y (ah (((c.size:Nat):Int)>16)) (S0 w R) (L1 c 0 w R))):ai U Cl #[.string c] w R:=aE X bm d
end mA
namespace u9
noncomputable abbrev X:Fx:=⟨U,Tryz.f83,[],[]⟩
abbrev S1 (c:Addr) (E h e d:Bool) (w:I) (R:aa):Prop:=
 Y E (Y h (Y e (Y d (R (V (.bool true)) w) (∃t57:ByteArray,w.cell? (c.add 5)=some (.string t57)/\
 R (V (.bool (t57.toList==(az #[]).toList))) w)) (∃t47:Int,w.cell? (c.add 4)=some (.u t47)/\
 Y (t47==0) (Y d (R (V (.bool true)) w) (∃x:ByteArray,w.cell? (c.add 5)=some (.string x)/\
 R (V (.bool (x.toList==(az #[]).toList))) w)) (R (V (.bool false)) w))) (∃t37:Int,w.cell? (c.add 3)=some (.i t37)/\
 Y (t37==0) (Y e (Y d (R (V (.bool true)) w) (∃y:ByteArray,w.cell? (c.add 5)=some (.string y)/\
 R (V (.bool (y.toList==(az #[]).toList))) w)) (∃k:Int,w.cell? (c.add 4)=some (.u k)/\
 Y (k==0) (Y d (R (V (.bool true)) w) (∃z:ByteArray,w.cell? (c.add 5)=some (.string z)/\
 R (V (.bool (z.toList==(az #[]).toList))) w)) (R (V (.bool false)) w))) (R (V (.bool false)) w))) (∃t28:Int,w.cell? (c.add 2)=some (.i t28)/\
 Y (t28==0) (Y h (Y e (Y d (R (V (.bool true)) w) (∃A:ByteArray,w.cell? (c.add 5)=some (.string A)/\
 R (V (.bool (A.toList==(az #[]).toList))) w)) (∃n:Int,w.cell? (c.add 4)=some (.u n)/\
 Y (n==0) (Y d (R (V (.bool true)) w) (∃B:ByteArray,w.cell? (c.add 5)=some (.string B)/\
 R (V (.bool (B.toList==(az #[]).toList))) w)) (R (V (.bool false)) w))) (∃j:Int,w.cell? (c.add 3)=some (.i j)/\
 Y (j==0) (Y e (Y d (R (V (.bool true)) w) (∃C:ByteArray,w.cell? (c.add 5)=some (.string C)/\
 R (V (.bool (C.toList==(az #[]).toList))) w)) (∃q:Int,w.cell? (c.add 4)=some (.u q)/\
 Y (q==0) (Y d (R (V (.bool true)) w) (∃D:ByteArray,w.cell? (c.add 5)=some (.string D)/\
 R (V (.bool (D.toList==(az #[]).toList))) w)) (R (V (.bool false)) w))) (R (V (.bool false)) w))) (R (V (.bool false)) w))
noncomputable def bg:=aC X [] (ak [3]) [(0,.v [.r]),(3,.v [.b]),(4,.v [.b]),(5,.v [.b]),(6,.v [.b])] S1::[]
abbrev S0 (h:Addr) (d c e:Bool) (w:I) (R:aa):Prop:=
 S1 h d c e true w R
noncomputable def bf:=aC X bg (ak [0,1,1,1,1,1,2]) [(0,.v [.r]),(3,.v [.b]),(4,.v [.b]),(5,.v [.b])] S0::bg
abbrev S3 (h:Addr) (c e d:Bool) (w:I) (R:aa):Prop:=
 S1 h true c e d w R
noncomputable def bt:=aC X bf (ak [0,1,7,1,1,1,2]) [(0,.v [.r]),(4,.v [.b]),(5,.v [.b]),(6,.v [.b])] S3::bf
abbrev S2 (d:Addr) (j e h c:Bool) (t10:Int) (w:I) (R:aa):Prop:=
 Y (t10==1) (S1 d j e true c w R) (Y (t10==21) (S1 d true true h c w R) (Y (t10==22) (Y (t10==22) (S3 d e h c w R) (S1 d j e h c w R)) (Y (t10==23) (Y (t10==23) (S3 d e h c w R) (S1 d j e h c w R)) (Y (t10==28) (S3 d e h c w R) (S1 d j e h c w R)))))
noncomputable def bm:=aC X bt (ak [2,1,1,1,2]) [(0,.v [.r]),(3,.v [.b]),(4,.v [.b]),(5,.v [.b]),(6,.v [.b]),(10,.v [.I])] S2::bt
def ok (c:Addr) (w:I) (R:aa) (d:∃t10:Int,w.cell? (c.add 0)=some (.i t10)/\
 Y (t10==0) (Y (t10==0) (S0 c false false false w R) (S2 c false false false false t10 w R)) (Y (t10==2) (Y (t10==2) (S0 c false false false w R) (S2 c false false false false t10 w R)) (Y (t10==33) (S0 c false false false w R) (S2 c false false false false t10 w R)))):ai U Ck #[.pointer (some c)] w R:=aE X bm d
end u9
namespace Lw
noncomputable abbrev X:Fx:=⟨U,Tryz.f108,[],[2]⟩
def aD (c:Int) (w:I) (R:aa) (e:aJ [] w λd h=>
 loc [d] h λj=>R (V (.agg #[.i 0,.i c,.i 0])) j):ai U hN #[.i c] w R:=aE X [] e
end Lw
namespace LI
noncomputable abbrev X:Fx:=⟨U,Tryz.f104,[],[2]⟩
def aD (c:Int) (w:I) (R:aa) (e:aJ [] w λd h=>
 loc [d] h λj=>R (V (.agg #[.i 1,.i c,.i 0])) j):ai U oj #[.i c] w R:=aE X [] e
end LI
namespace Ly
noncomputable abbrev X:Fx:=⟨U,Tryz.f107,[],[1]⟩
def aD (c e h:Int) (w:I) (R:aa) (d:aJ [] w λk j=>
 R (V (.bool (c==0))) j):ai U ni #[.agg #[.i c,.i e,.i h]] w R:=aE X [] d
end Ly
namespace LA
noncomputable abbrev X:Fx:=⟨U,Tryz.f110,[],[1]⟩
def aD (c e h:Int) (w:I) (R:aa) (d:aJ [] w λk j=>
 R (V (.bool (c==1))) j):ai U hO #[.agg #[.i c,.i e,.i h]] w R:=aE X [] d
end LA
namespace Lx
noncomputable abbrev X:Fx:=⟨U,Tryz.f105,[],[1]⟩
def aD (c h j:Int) (w:I) (R:aa) (e:aJ [] w λk d=>
 Y (c==2) (R (V (.bool true)) d) (R (V (.bool (c==3))) d)):ai U ui #[.agg #[.i c,.i h,.i j]] w R:=aE X [] e
end Lx
namespace Lr
noncomputable abbrev X:Fx:=⟨U,Tryz.f109,[],[2,3]⟩
def aD (d e h j k n:Int) (w:I) (R:aa) (y:aJ [] w λc z=>
 aJ [c] z λq u=>
 Y ((d==j)&&((e==k)&&((h==n)&&true))) (R (V (.bool true)) u) (bM [c,q] hO #[.agg #[.i d,.i e,.i h]] u λt10 x=>Y t10 (bM [c,q] hO #[.agg #[.i j,.i k,.i n]] x λt13 A=>R (V (.bool t13)) A) (R (V (.bool false)) x))):ai U xM #[.agg #[.i d,.i e,.i h],.agg #[.i j,.i k,.i n]] w R:=aE X [] y
end Lr
namespace LD
noncomputable abbrev X:Fx:=⟨U,Tryz.f106,[],[3,6]⟩
def aD (d e h:Int) (q n:Bool) (w:I) (R:aa) (u:aJ [] w λc x=>
 aJ [c] x λj k=>
 Y (!q) (loc [c,j] k λz=>R (V (.tuple #[.agg #[.i d,.i e,.i h],.i 9])) z) (Y (!n) (loc [c,j] k λA=>R (V (.tuple #[.agg #[.i d,.i e,.i h],.i 5])) A) (loc [c,j] k λy=>R (V (.tuple #[.agg #[.i d,.i e,.i h],.i 0])) y))):ai U dm #[.agg #[.i d,.i e,.i h],.bool q,.bool n] w R:=aE X [] u
end LD
namespace D'
noncomputable abbrev X:Fx:=⟨U,Tryz.f84,[(7,ls [0,1,2,3,4,5,6,7,8])],[]⟩
abbrev S0 (d t4:Addr) (w:I) (R:aa):Prop:=
 cr w (d.add 6) λk n q=>qa w t4 (.i k) (.i n) (.i q) λc=>cr c t4 λe h j=>R (V (.tuple #[.agg #[.i e,.i h,.i j],.i 0])) c
noncomputable def bf:=aC X [] (ak [4]) [(0,.v [.r]),(4,.v [.r])] S0
def ok (c:Addr) (e:Fv) (w:I) (R:aa) (G:aN w (.cells #[.i 0,.i 0,.i 0] b3) λC=>
 ∃t12:ByteArray,C.cell? (c.add 5)=some (.string t12)/\
 gk Cl #[.string t12] C λt13 q=>Y (!t13) (cr q (c.add 6) λJ K L=>qa q (nb w) (.i J) (.i K) (.i L) λE=>cr E (nb w) λh j k=>R (V (.tuple #[.agg #[.i h,.i j,.i k],.i 6])) E) (cr q (c.add 6) λM N O=>di xT #[.agg #[.i M,.i N,.i O]] q λt23 u=>Y (t23 !=0) (cr u (c.add 6) λP Q S=>qa u (nb w) (.i P) (.i Q) (.i S) λF=>cr F (nb w) λh j k=>R (V (.tuple #[.agg #[.i h,.i j,.i k],.i t23])) F) (∃t36:ByteArray,u.cell? (c.add 5)=some (.string t36)/\
 cH (gF U e.n) (ai U e.n (e.bs++#[.string t36]++e.cs) u λH x=>∃y:Int,∃z:Int,∃A:Int,∃B:Bool,H=V (.tuple #[.agg #[.i y,.i z,.i A],.bool B])/\
 aN x (.cells #[.i 0,.i 0,.i 0] b3) λah=>
 qa ah (nb x) (.i y) (.i z) (.i A) λaj=>bY aj λd=>Y B (cr d (nb x) λT W Z=>cr d (c.add 6) λab ac ad=>Y (!((T==ab)&&((W==ac)&&((Z==ad)&&true)))) (cr d (c.add 6) λae af ag=>qa d (nb w) (.i ae) (.i af) (.i ag) λD=>cr D (nb w) λh j k=>R (V (.tuple #[.agg #[.i h,.i j,.i k],.i 8])) D) (S0 c (nb w) d R)) (S0 c (nb w) d R))))):ai U Ct #[.pointer (some c),e.v] w R:=aE X [bf] G
end D'
namespace D9
noncomputable abbrev X:Fx:=⟨U,Tryz.f85,[(14,ls [0,1,2,3,4,5,6,7,8,9,10,11,12,13,14,15,16,17,18])],[2]⟩
abbrev aQ (c:Addr) (t2:Nat) (k n q:Int) (w:I) (R:aa):Prop:=
 cr w (c.add 6) λd e h=>loc [t2] w λj=>R (V (.tuple #[.agg #[.i d,.i e,.i h],.i 0])) j
noncomputable def bf:=aC X [] (ak [6]) [(0,.v [.r]),(2,.l [.I,.I,.I] b3)] aQ
def aD (c:Addr) (w:I) (R:aa) (q:aJ [] w λd h=>
 ∃n:Int,h.cell? (c.add 0)=some (.i n)/\
 Y (n==2) (∃t13:ByteArray,h.cell? (c.add 5)=some (.string t13)/\
 Y (ah (((t13.size:Nat):Int)>64)) (cr h (c.add 6) λx y z=>loc [d] h λw4=>R (V (.tuple #[.agg #[.i x,.i y,.i z],.i 5])) w4) (∃t23:ByteArray,h.cell? (c.add 5)=some (.string t23)/\
 cA [d] oj #[.i ((t23.size:Nat):Int)] h λA B C w5=>loc [d] w5 λw8=>R (V (.tuple #[.agg #[.i A,.i B,.i C],.i 0])) w8)) (cr h (c.add 6) λD E F=>b0 [d] xT #[.agg #[.i D,.i E,.i F]] h λt30 e=>Y (t30 !=0) (cr e (c.add 6) λG H J=>loc [d] e λaf=>R (V (.tuple #[.agg #[.i G,.i H,.i J],.i t30])) af) (∃t41:Int,e.cell? (c.add 0)=some (.i t41)/\
 Y (t41==3) (cr e (c.add 6) λK L M=>bM [d] ui #[.agg #[.i K,.i L,.i M]] e λt47 k=>Y (!t47) (cr k (c.add 6) λN O P=>loc [d] k λaj=>R (V (.tuple #[.agg #[.i N,.i O,.i P],.i 9])) aj) (cr k (c.add 6) λQ S T=>loc [d] k λak=>R (V (.tuple #[.agg #[.i Q,.i S,.i T],.i 0])) ak)) (∃t61:Int,e.cell? ((c.add 6).add 0)=some (.i t61)/\
 Y (t61 !=0) (cr e (c.add 6) λW Z ab=>loc [d] e λal=>R (V (.tuple #[.agg #[.i W,.i Z,.i ab],.i 9])) al) (loc [d] e λj=>∃t71:Int,j.cell? ((c.add 6).add 1)=some (.i t71)/\
 Y (ah (t71<64)) (∃t77:Int,j.cell? (c.add 4)=some (.u t77)/\
 ∃t82:Int,j.cell? ((c.add 6).add 1)=some (.i t82)/\
 ¬t82<0/\Y ((Int.fdiv t77 (2^(min (ag t82) (IntKind.bits .u64)))) !=0) (cr j (c.add 6) λac ad ae=>loc [d] j λam=>R (V (.tuple #[.agg #[.i ac,.i ad,.i ae],.i 5])) am) (aQ c d 0 0 0 j R)) (aQ c d 0 0 0 j R)))))):ai U Cr #[.pointer (some c)] w R:=aE X [bf] q
end D9
namespace D8
noncomputable abbrev X:Fx:=⟨U,Tryz.f86,[(4,ls [0,1,2,3,4,5,6,7]),(7,ls [1,0,2,3,4,5,6,7,8,9,10,11,12]),(9,ls [1,2,0,3,4,5,6,7,8]),(14,ls [0,1,2,3,4,5,6,7,8,9,10,11,12,13]),(16,ls [0,1,2,3,4,6,12,13,14,15,16,17,5,7,8,9,10,11,18,19,20,21,22]),(18,ls [0,1,2,3,4,5,6,7,8,9,11,13,14,15,16,17,10,12,18,19,20,21,22,23,24,25,26,27,28,29,30,31,32,33,34,35,36,37,38,39,40,41,42]),(21,ls [0,1,2,3,4,5,6,8,10,11,12,13,14,7,9,15,16,17,18,19,20,21,22,23,24,25,26,27,28,29]),(22,ls [0,1,2,3,4,5,6,7,8,9,10,11,12])],[5,6,7,8,10]⟩
abbrev aQ (d:Nat) (e h j:Int) (c:Nat) (B C D:Int) (w:I) (R:aa):Prop:=
 loc [d,c] w λx=>bM [d,c] ni #[.agg #[.i e,.i h,.i j]] x λt20 y=>cE [d,c] dm #[.agg #[.i e,.i h,.i j],.bool t20,.bool true] y λk n q u z=>loc [d,c] z λA=>R (V (.tuple #[.agg #[.i k,.i n,.i q],.i u])) A
noncomputable def bf:=aC X [] (ak [0,1,1,1,1,1,1]) [(5,.l [.I,.I,.I] b3),(8,.l [.I,.I,.I] b3)] aQ::[]
abbrev P1:Ps:=[(5,.l [.I,.I,.I] b3),(6,.l [.I,.I,.I] b3),(8,.l [.I,.I,.I] b3)]
abbrev aY (d:Nat) (q u x:Int) (e:Nat) (N O P:Int) (c:Nat) (Q S T:Int) (w:I) (R:aa):Prop:=
 loc [d,e,c] w λG=>cA [d,e,c] hN #[.i 1] G λh j k J=>bM [d,e,c] ni #[.agg #[.i q,.i u,.i x]] J λt29 n=>Y t29 (cE [d,e,c] dm #[.agg #[.i h,.i j,.i k],.bool ((q==N)&&((u==O)&&((x==P)&&true))),.bool true] n λy z A B K=>loc [d,e,c] K λL=>R (V (.tuple #[.agg #[.i y,.i z,.i A],.i B])) L) (cE [d,e,c] dm #[.agg #[.i h,.i j,.i k],.bool false,.bool true] n λC D E F M=>loc [d,e,c] M λH=>R (V (.tuple #[.agg #[.i C,.i D,.i E],.i F])) H)
noncomputable def bm:=aC X bf (ak [0,1,3,1,1,1,1]) P1 aY::bf
abbrev cB (e:Nat) (P Q S:Int) (h:Nat) (T W Z:Int) (j:Nat) (ab ac ad:Int) (d:Nat) (ae af ag:Int) (c:Nat) (k n q:Int) (w:I) (R:aa):Prop:=
 loc [e,h,j,d,c] w λJ=>cA [e,h,j,d,c] hN #[.i 1] J λx y z u=>Y ((P==x)&&((Q==y)&&((S==z)&&true))) (bM [e,h,j,d,c] xM #[.agg #[.i T,.i W,.i Z],.agg #[.i ab,.i ac,.i ad]] u λt69 L=>cE [e,h,j,d,c] dm #[.agg #[.i k,.i n,.i q],.bool t69,.bool true] L λA B C D M=>loc [e,h,j,d,c] M λN=>R (V (.tuple #[.agg #[.i A,.i B,.i C],.i D])) N) (cE [e,h,j,d,c] dm #[.agg #[.i k,.i n,.i q],.bool false,.bool true] u λE F G H O=>loc [e,h,j,d,c] O λK=>R (V (.tuple #[.agg #[.i E,.i F,.i G],.i H])) K)
noncomputable def cZ:=aC X bm (ak [2,1,7,1,1,1,1]) [(5,.l [.I,.I,.I] b3),(6,.l [.I,.I,.I] b3),(7,.l [.I,.I,.I] b3),(8,.l [.I,.I,.I] b3),(10,.l [.I,.I,.I] b3)] cB::bm
abbrev gZ (e:Addr) (d:Nat) (L k M:Int) (c:Nat) (N O P:Int) (w:I) (R:aa):Prop:=
 loc [d,c] w λj=>∃t148:Int,j.cell? (e.add 2)=some (.i t148)/\
 ∃t156:Int,j.cell? (e.add 2)=some (.i t156)/\
 cA [d,c] hN #[.i (ab .i64 (k+t148))] j λn q u x=>x.cell? (e.add 2)=some (.i t156)/\bM [d,c] ni #[.agg #[.i L,.i k,.i M]] x λt152 h=>h.cell? (e.add 2)=some (.i t156)/\Y (ah (1<=t156)) (∃t162:Int,h.cell? (e.add 2)=some (.i t162)/\
 cE [d,c] dm #[.agg #[.i n,.i q,.i u],.bool t152,.bool (ah (t162<=(ab .i64 (64 - k))))] h λy z A B H=>loc [d,c] H λJ=>R (V (.tuple #[.agg #[.i y,.i z,.i A],.i B])) J) (cE [d,c] dm #[.agg #[.i n,.i q,.i u],.bool t152,.bool false] h λC D E F K=>loc [d,c] K λG=>R (V (.tuple #[.agg #[.i C,.i D,.i E],.i F])) G)
noncomputable def eY:=aC X cZ (ak [0,1,13,1,1,1,1]) [(0,.v [.r]),(5,.l [.I,.I,.I] b3),(8,.l [.I,.I,.I] b3)] gZ::cZ
abbrev fj (d:Nat) (h j k:Int) (e:Nat) (J K L:Int) (c:Nat) (M N O:Int) (w:I) (R:aa):Prop:=
 loc [d,e,c] w λD=>bM [d,e,c] ni #[.agg #[.i h,.i j,.i k]] D λt173 n=>Y t173 (cE [d,e,c] dm #[.agg #[.i h,.i j,.i k],.bool ((h==J)&&((j==K)&&((k==L)&&true))),.bool true] n λq u x y F=>loc [d,e,c] F λG=>R (V (.tuple #[.agg #[.i q,.i u,.i x],.i y])) G) (cE [d,e,c] dm #[.agg #[.i h,.i j,.i k],.bool false,.bool true] n λz A B C H=>loc [d,e,c] H λE=>R (V (.tuple #[.agg #[.i z,.i A,.i B],.i C])) E)
noncomputable def hh:=aC X eY (ak [2]) P1 fj::eY
abbrev P4:Ps:=[(0,.v [.r]),(5,.l [.I,.I,.I] b3),(6,.l [.I,.I,.I] b3),(7,.l [.I,.I,.I] b3),(8,.l [.I,.I,.I] b3),(14,.v [.I])]
abbrev bh (n:Addr) (d:Nat) (q k u:Int) (e:Nat) (x j y:Int) (h:Nat) (G E H:Int) (c:Nat) (A B C t14:Int) (w:I) (R:aa):Prop:=
 Y (t14==18) (loc [d,e,h,c] w λw1=>cA [d,e,h,c] hN #[.i 1] w1 λan ao ap w2=>bM [d,e,h,c] xM #[.agg #[.i q,.i k,.i u],.agg #[.i x,.i j,.i y]] w2 λt43 w3=>cE [d,e,h,c] dm #[.agg #[.i an,.i ao,.i ap],.bool t43,.bool true] w3 λaq ar au av w4=>loc [d,e,h,c] w4 λw7=>R (V (.tuple #[.agg #[.i aq,.i ar,.i au],.i av])) w7) (Y (t14==19) (aJ [d,e,h,c] w λz w8=>
 loc [d,e,h,c,z] w8 λaH=>bM [d,e,h,c,z] hO #[.agg #[.i x,.i j,.i y]] aH λt51 P=>Y t51 (bM [d,e,h,c,z] hO #[.agg #[.i G,.i E,.i H]] P λt54 Q=>Y t54 (cA [d,e,h,c,z] oj #[.i (if j<E then E else j)] Q λaw ax ay aI=>loc [d,e,h,c,z] aI λaK=>cB d q k u e x j y h G E H c A B C z aw ax ay aK R) (cB d q k u e x j y h G E H c A B C z x j y Q R)) (cB d q k u e x j y h G E H c A B C z x j y P R)) (Y (t14==20) (loc [d,e,h,c] w λaL=>cA [d,e,h,c] hN #[.i (ab .i64 (k+j))] aL λM N O aM=>bM [d,e,h,c] ni #[.agg #[.i q,.i k,.i u]] aM λt83 S=>Y t83 (bM [d,e,h,c] ni #[.agg #[.i x,.i j,.i y]] S λt86 aN=>cE [d,e,h,c] dm #[.agg #[.i M,.i N,.i O],.bool t86,.bool (ah ((ab .i64 (k+j))<=64))] aN λaz aA aB aC aO=>loc [d,e,h,c] aO λaP=>R (V (.tuple #[.agg #[.i az,.i aA,.i aB],.i aC])) aP) (cE [d,e,h,c] dm #[.agg #[.i M,.i N,.i O],.bool false,.bool (ah ((ab .i64 (k+j))<=64))] S λaD aE aF aG aQ=>loc [d,e,h,c] aQ λaR=>R (V (.tuple #[.agg #[.i aD,.i aE,.i aF],.i aG])) aR)) (Y (t14==21) (loc [d,e,h,c] w λF=>∃t102:Int,F.cell? (n.add 2)=some (.i t102)/\
 ∃t106:Int,F.cell? (n.add 3)=some (.i t106)/\
 ∃t115:Int,F.cell? (n.add 3)=some (.i t115)/\
 cA [d,e,h,c] hN #[.i (ab .i64 ((ab .i64 (t102 - t106))+1))] F λJ K L T=>T.cell? (n.add 3)=some (.i t115)/\bM [d,e,h,c] ni #[.agg #[.i q,.i k,.i u]] T λt111 D=>D.cell? (n.add 3)=some (.i t115)/\Y (ah (0<=t115)) (∃t121:Int,D.cell? (n.add 3)=some (.i t121)/\
 ∃t125:Int,D.cell? (n.add 2)=some (.i t125)/\
 Y (ah (t121<=t125)) (∃t132:Int,D.cell? (n.add 2)=some (.i t132)/\
 cE [d,e,h,c] dm #[.agg #[.i J,.i K,.i L],.bool t111,.bool (ah (t132<k))] D λW Z ac ad aS=>loc [d,e,h,c] aS λaT=>R (V (.tuple #[.agg #[.i W,.i Z,.i ac],.i ad])) aT) (cE [d,e,h,c] dm #[.agg #[.i J,.i K,.i L],.bool t111,.bool false] D λae af ag ai aU=>loc [d,e,h,c] aU λaV=>R (V (.tuple #[.agg #[.i ae,.i af,.i ag],.i ai])) aV)) (cE [d,e,h,c] dm #[.agg #[.i J,.i K,.i L],.bool t111,.bool false] D λaj ak al am aW=>loc [d,e,h,c] aW λaX=>R (V (.tuple #[.agg #[.i aj,.i ak,.i al],.i am])) aX)) (Y (t14==22) (Y (t14==22) (gZ n d q k u c A B C w R) (fj d q k u e x j y c A B C w R)) (Y (t14==23) (gZ n d q k u c A B C w R) (fj d q k u e x j y c A B C w R))))))
noncomputable def bt:=aC X hh (ak [4,1,1,1,1]) P4 bh::hh
abbrev a2 (A:Addr) (j:Nat) (k n q:Int) (u:Nat) (x y z:Int) (B:Nat) (C D E:Int) (c:Nat) (d e h t14:Int) (w:I) (R:aa):Prop:=
 Y (t14==16) (Y (t14==16) (aY j k n q u x y z c d e h w R) (bh A j k n q u x y z B C D E c d e h t14 w R)) (Y (t14==17) (aY j k n q u x y z c d e h w R) (bh A j k n q u x y z B C D E c d e h t14 w R))
noncomputable def bg:=aC X bt (ak [2,1,1,1,1]) P4 a2::bt
def aD (q:Addr) (e h j x y z A B C:Int) (w:I) (R:aa) (D:aJ [] w λc E=>
 aJ [c] E λk F=>
 aJ [c,k] F λu G=>
 aJ [c,k,u] G λn d=>
 ∃t14:Int,d.cell? (q.add 0)=some (.i t14)/\
 Y (t14==4) (Y (t14==4) (aQ c e h j n 0 0 0 d R) (a2 q c e h j k x y z u A B C n 0 0 0 t14 d R)) (Y (t14==5) (aQ c e h j n 0 0 0 d R) (a2 q c e h j k x y z u A B C n 0 0 0 t14 d R))):ai U Cq #[.pointer (some q),.agg #[.i e,.i h,.i j],.agg #[.i x,.i y,.i z],.agg #[.i A,.i B,.i C]] w R:=aE X bg D
end D8
namespace yG
noncomputable abbrev X:Fx:=⟨U,Tryz.f87,[(2,ls [0,1,3,2,4,5,6,7,8,9,10,11,12,13,14]),(6,ls [0,1,2,3,4,5,6,7,8,9]),(10,ls [0,1,2,3,4,5,6,7,8,9,10,11,12,13,14,15,16,17]),(11,ls [0,1,2,3,4,5,6,7,8,9,10,11])],[5,6,7,8,10]⟩
abbrev a2 (F:Addr) (e:Nat) (j k n:Int) (h:Nat) (D y E:Int) (d:Nat) (ax ay az:Int) (c:Nat) (z A B:Int) (q:Bool) (w:I) (R:aa):Prop:=
 ∃t51:Int,w.cell? (F.add 0)=some (.i t51)/\
 Y (t51==24) (cE [e,h,d,c] dm #[.agg #[.i z,.i A,.i B],.bool q,.bool true] w λG H J K w1=>loc [e,h,d,c] w1 λw4=>R (V (.tuple #[.agg #[.i G,.i H,.i J],.i K])) w4) (Y (j==3) (Y q (loc [e,h,d,c] w λx=>bM [e,h,d,c] hO #[.agg #[.i D,.i y,.i E]] x λt65 C=>Y t65 (cE [e,h,d,c] dm #[.agg #[.i j,.i k,.i n],.bool (ah (y<=k)),.bool true] C λL M N O w7=>loc [e,h,d,c] w7 λam=>R (V (.tuple #[.agg #[.i L,.i M,.i N],.i O])) am) (cE [e,h,d,c] dm #[.agg #[.i j,.i k,.i n],.bool false,.bool true] C λP Q S T an=>loc [e,h,d,c] an λao=>R (V (.tuple #[.agg #[.i P,.i Q,.i S],.i T])) ao)) (loc [e,h,d,c] w λx=>cE [e,h,d,c] dm #[.agg #[.i j,.i k,.i n],.bool false,.bool true] x λW Z ab ac ap=>loc [e,h,d,c] ap λaq=>R (V (.tuple #[.agg #[.i W,.i Z,.i ab],.i ac])) aq)) (Y q (loc [e,h,d,c] w λu=>cE [e,h,d,c] dm #[.agg #[.i j,.i k,.i n],.bool ((D==z)&&((y==A)&&((E==B)&&true))),.bool true] u λad ae af ag ar=>loc [e,h,d,c] ar λau=>R (V (.tuple #[.agg #[.i ad,.i ae,.i af],.i ag])) au) (loc [e,h,d,c] w λu=>cE [e,h,d,c] dm #[.agg #[.i j,.i k,.i n],.bool false,.bool true] u λai aj ak al av=>loc [e,h,d,c] av λaw=>R (V (.tuple #[.agg #[.i ai,.i aj,.i ak],.i al])) aw)))
noncomputable def bg:=aC X [] (ak [5]) [(0,.v [.r]),(5,.l [.I,.I,.I] b3),(7,.l [.I,.I,.I] b3),(8,.l [.I,.I,.I] b3),(10,.l [.I,.I,.I] b3),(11,.v [.b])] a2::[]
abbrev aQ (z:Addr) (e:Nat) (k n j:Int) (q:Nat) (N O P:Int) (h:Nat) (E F G:Int) (d:Nat) (A B C:Int) (c:Nat) (u x y:Int) (w:I) (R:aa):Prop:=
 loc [e,q,h,d,c] w λL=>bM [e,q,h,d,c] ui #[.agg #[.i k,.i n,.i j]] L λt40 D=>Y t40 (cA [e,q,h,d,c] hN #[.i j] D λH J K M=>a2 z e k n j h E F G d A B C c u x y ((N==H)&&((O==J)&&((P==K)&&true))) M R) (a2 z e k n j h E F G d A B C c u x y false D R)
noncomputable def bf:=aC X bg (ak [4]) [(0,.v [.r]),(5,.l [.I,.I,.I] b3),(6,.l [.I,.I,.I] b3),(7,.l [.I,.I,.I] b3),(8,.l [.I,.I,.I] b3),(10,.l [.I,.I,.I] b3)] aQ::bg
def aD (u:Addr) (n j q x y z C D E:Int) (w:I) (R:aa) (L:aJ [] w λc w1=>
 aJ [c] w1 λd w2=>
 aJ [c,d] w2 λe w3=>
 aJ [c,d,e] w3 λh B=>
 ∃t15:Int,B.cell? (u.add 0)=some (.i t15)/\
 Y (t15==26) (loc [c,d,e,h] B λw5=>cA [c,d,e,h] hN #[.i q] w5 λF G H w6=>bM [c,d,e,h] ui #[.agg #[.i n,.i j,.i q]] w6 λt21 K=>Y t21 (cE [c,d,e,h] dm #[.agg #[.i F,.i G,.i H],.bool ((n==x)&&((j==y)&&((q==z)&&true))),.bool true] K λM N O P w8=>loc [c,d,e,h] w8 λag=>R (V (.tuple #[.agg #[.i M,.i N,.i O],.i P])) ag) (cE [c,d,e,h] dm #[.agg #[.i F,.i G,.i H],.bool false,.bool true] K λQ S T W ah=>loc [c,d,e,h] ah λaj=>R (V (.tuple #[.agg #[.i Q,.i S,.i T],.i W])) aj)) (cA [c,d,e,h] hN #[.i j] B λZ ab ac ak=>aJ [c,d,e,h] ak λk J=>
 Y (n==3) (loc [c,d,e,h,k] J λA=>cA [c,d,e,h,k] oj #[.i j] A λad ae af al=>loc [c,d,e,h,k] al λam=>aQ u c n j q d x y z e C D E h 0 0 0 k ad ae af am R) (loc [c,d,e,h,k] J λA=>aQ u c n j q d x y z e C D E h 0 0 0 k Z ab ac A R))):ai U Cp #[.pointer (some u),.agg #[.i n,.i j,.i q],.agg #[.i x,.i y,.i z],.agg #[.i C,.i D,.i E]] w R:=aE X bf L
end yG
namespace LG
noncomputable abbrev X:Fx:=⟨U,Tryz.f88,[(3,ls [1,0,2,3,4,5,6,7]),(5,ls [1,3,4,5,6,7,0,2,8,9,10,11,12,13,14,15,16,17,18,19]),(7,ls [0,1,2,3,4,6,12,13,14,15,16,17,5,7,8,9,10,11,18,19,20,21,22]),(9,ls [0,1,2,3,4,5,6,7,8,9,10,11,12,13,14,15,16,17]),(11,ls [1,0,2,3,4,5,6,7,8,9,10,11]),(13,ls [0,1,2,3,4,6,16,17,18,19,20,21,5,7,8,9,10,11,12,13,14,15,22,23,24,25,26]),(15,ls [1,0,2,3,4,5,6,7,8])],[5,6,7,8]⟩
def aD (x:Addr) (k j n z u A G y H:Int) (w:I) (R:aa) (ak:aJ [] w λc w1=>
 aJ [c] w1 λd w2=>
 aJ [c,d] w2 λe w3=>
 aJ [c,d,e] w3 λh q=>
 ∃t13:Int,q.cell? (x.add 0)=some (.i t13)/\
 Y (t13==27) (loc [c,d,e,h] q λw5=>cA [c,d,e,h] hN #[.i 7] w5 λaP aQ aR w6=>bM [c,d,e,h] hO #[.agg #[.i k,.i j,.i n]] w6 λt18 w7=>cE [c,d,e,h] dm #[.agg #[.i aP,.i aQ,.i aR],.bool t18,.bool true] w7 λaS aT aU aV w8=>loc [c,d,e,h] w8 λbD=>R (V (.tuple #[.agg #[.i aS,.i aT,.i aU],.i aV])) bD) (Y (t13==28) (loc [c,d,e,h] q λT=>∃t30:Int,T.cell? (x.add 2)=some (.i t30)/\
 cA [c,d,e,h] hN #[.i 8] T λJ K L W=>W.cell? (x.add 2)=some (.i t30)/\bM [c,d,e,h] hO #[.agg #[.i k,.i j,.i n]] W λt26 B=>B.cell? (x.add 2)=some (.i t30)/\Y (ah (0<=t30)) (∃t36:Int,B.cell? (x.add 2)=some (.i t36)/\
 cE [c,d,e,h] dm #[.agg #[.i J,.i K,.i L],.bool t26,.bool (ah (t36<64))] B λaW aX aY aZ bE=>loc [c,d,e,h] bE λbF=>R (V (.tuple #[.agg #[.i aW,.i aX,.i aY],.i aZ])) bF) (cE [c,d,e,h] dm #[.agg #[.i J,.i K,.i L],.bool t26,.bool false] B λa0 a1 a2 a3 bG=>loc [c,d,e,h] bG λbH=>R (V (.tuple #[.agg #[.i a0,.i a1,.i a2],.i a3])) bH)) (Y (t13==29) (loc [c,d,e,h] q λbI=>cA [c,d,e,h] oj #[.i (ab .i64 (j+u))] bI λM N O bJ=>bM [c,d,e,h] hO #[.agg #[.i k,.i j,.i n]] bJ λt51 Z=>Y t51 (bM [c,d,e,h] hO #[.agg #[.i z,.i u,.i A]] Z λt54 bK=>cE [c,d,e,h] dm #[.agg #[.i M,.i N,.i O],.bool t54,.bool (ah ((ab .i64 (j+u))<=64))] bK λa4 a5 a6 a7 bL=>loc [c,d,e,h] bL λbN=>R (V (.tuple #[.agg #[.i a4,.i a5,.i a6],.i a7])) bN) (cE [c,d,e,h] dm #[.agg #[.i M,.i N,.i O],.bool false,.bool (ah ((ab .i64 (j+u))<=64))] Z λa8 a9 ba bb bO=>loc [c,d,e,h] bO λbP=>R (V (.tuple #[.agg #[.i a8,.i a9,.i ba],.i bb])) bP)) (Y (t13==30) (loc [c,d,e,h] q λbQ=>bM [c,d,e,h] hO #[.agg #[.i k,.i j,.i n]] bQ λt69 ac=>Y t69 (cA [c,d,e,h] hN #[.i 7] ac λbc bd be ad=>Y ((z==bc)&&((u==bd)&&((A==be)&&true))) (cA [c,d,e,h] hN #[.i 7] ad λbf bg bh bR=>cE [c,d,e,h] dm #[.agg #[.i k,.i j,.i n],.bool ((G==bf)&&((y==bg)&&((H==bh)&&true))),.bool true] bR λbi bj bk bl bS=>loc [c,d,e,h] bS λbT=>R (V (.tuple #[.agg #[.i bi,.i bj,.i bk],.i bl])) bT) (cE [c,d,e,h] dm #[.agg #[.i k,.i j,.i n],.bool false,.bool true] ad λbm bn bo bp bU=>loc [c,d,e,h] bU λbV=>R (V (.tuple #[.agg #[.i bm,.i bn,.i bo],.i bp])) bV)) (cE [c,d,e,h] dm #[.agg #[.i k,.i j,.i n],.bool false,.bool true] ac λbq br bs bt bW=>loc [c,d,e,h] bW λbX=>R (V (.tuple #[.agg #[.i bq,.i br,.i bs],.i bt])) bX)) (Y (t13==31) (loc [c,d,e,h] q λbY=>cA [c,d,e,h] hN #[.i 7] bY λP Q S bZ=>bM [c,d,e,h] hO #[.agg #[.i k,.i j,.i n]] bZ λt87 ae=>Y t87 (bM [c,d,e,h] hO #[.agg #[.i z,.i u,.i A]] ae λt90 b0=>cE [c,d,e,h] dm #[.agg #[.i P,.i Q,.i S],.bool t90,.bool true] b0 λbu bv bw bx b1=>loc [c,d,e,h] b1 λb2=>R (V (.tuple #[.agg #[.i bu,.i bv,.i bw],.i bx])) b2) (cE [c,d,e,h] dm #[.agg #[.i P,.i Q,.i S],.bool false,.bool true] ae λbz bA bB bC b3=>loc [c,d,e,h] b3 λb4=>R (V (.tuple #[.agg #[.i bz,.i bA,.i bB],.i bC])) b4)) (Y (t13==32) (loc [c,d,e,h] q λb9=>cA [c,d,e,h] oj #[.i (ab .i64 (j+y))] b9 λC D E ca=>bM [c,d,e,h] hO #[.agg #[.i k,.i j,.i n]] ca λt104 af=>Y t104 (bM [c,d,e,h] hO #[.agg #[.i z,.i u,.i A]] af λt107 ag=>Y t107 (bM [c,d,e,h] hO #[.agg #[.i G,.i y,.i H]] ag λt111 cb=>cE [c,d,e,h] dm #[.agg #[.i C,.i D,.i E],.bool t111,.bool (ah ((ab .i64 (j+y))<=64))] cb λal am an ao cc=>loc [c,d,e,h] cc λcd=>R (V (.tuple #[.agg #[.i al,.i am,.i an],.i ao])) cd) (cE [c,d,e,h] dm #[.agg #[.i C,.i D,.i E],.bool false,.bool (ah ((ab .i64 (j+y))<=64))] ag λap aq ar au ce=>loc [c,d,e,h] ce λcf=>R (V (.tuple #[.agg #[.i ap,.i aq,.i ar],.i au])) cf)) (cE [c,d,e,h] dm #[.agg #[.i C,.i D,.i E],.bool false,.bool (ah ((ab .i64 (j+y))<=64))] af λav aw ax ay cg=>loc [c,d,e,h] cg λch=>R (V (.tuple #[.agg #[.i av,.i aw,.i ax],.i ay])) ch)) (Y (t13==34) (loc [c,d,e,h] q λci=>cA [c,d,e,h] oj #[.i 1] ci λaz aA aB cj=>cA [c,d,e,h] hN #[.i 8] cj λaC aF aG ck=>cE [c,d,e,h] dm #[.agg #[.i az,.i aA,.i aB],.bool ((k==aC)&&((j==aF)&&((n==aG)&&true))),.bool true] ck λaH aI aK aL cl=>loc [c,d,e,h] cl λcm=>R (V (.tuple #[.agg #[.i aH,.i aI,.i aK],.i aL])) cm) (bM [c,d,e,h] hO #[.agg #[.i k,.i j,.i n]] q λt132 F=>Y (!t132) (loc [c,d,e,h] F λcn=>R (V (.tuple #[.agg #[.i k,.i j,.i n],.i 9])) cn) (∃t138:ByteArray,F.cell? (x.add 5)=some (.string t138)/\
 bM [c,d,e,h] xP #[.string t138] F λt139 aj=>Y (!t139) (loc [c,d,e,h] aj λco=>R (V (.tuple #[.agg #[.i k,.i j,.i n],.i 2])) co) (cA [c,d,e,h] hN #[.i 1] aj λaM aN aO cp=>loc [c,d,e,h] cp λcq=>R (V (.tuple #[.agg #[.i aM,.i aN,.i aO],.i 0])) cq)))))))))):ai U Cs #[.pointer (some x),.agg #[.i k,.i j,.i n],.agg #[.i z,.i u,.i A],.agg #[.i G,.i y,.i H]] w R:=aE X [] ak
end LG
namespace oJ
noncomputable abbrev X:Fx:=⟨U,Tryz.f69,[(1,ls [0,1,2,3,4,5,6,7,8,9,10,11,12,13,14,15,16,17])],[6,11]⟩
abbrev P0:Ps:=[(6,.l [.I,.I,.I] b3)]
abbrev aQ (c:Nat) (e h j:Int) (w:I) (R:aa):Prop:=
 loc [c] w λd=>R (V (.tuple #[.agg #[.i 0,.i 0,.i 0],.i 1])) d
noncomputable def bf:=aC X [] (ak [0,1,1,1,1]) P0 aQ::[]
abbrev P1:Ps:=[(0,.v [.s]),(2,.v [.f]),(4,.v [.r]),(6,.l [.I,.I,.I] b3),(8,.v [.r]),(34,.v [.I]),(35,.v [.I])]
def b6 (h:O) (d:Fv) (e:Addr) (j:Nat) (k n q:Int) (c:Addr) (t34 t35:Int) (w:I) (R:aa):Prop:=br P1 0 (X.Sem (ak [0,1,1,1,3])) h d e j k n q c t34 t35 w R
noncomputable def cC:=bD X (ak [0,1,1,1,3]) P1 b6::bf
abbrev aY (c:Nat) (e h j:Int) (w:I) (R:aa):Prop:=
 loc [c] w λd=>R (V (.tuple #[.agg #[.i 0,.i 0,.i 0],.i 1])) d
noncomputable def bm:=aC X cC (ak [0,1,1,1,2,2,2,2,1,1,3]) P0 aY::cC
abbrev bh (e:Nat) (u x y:Int) (d:Nat) (h j k c:Int) (w:I) (R:aa):Prop:=
 Y (c !=0) (loc [e,d] w λn=>R (V (.tuple #[.agg #[.i 0,.i 0,.i 0],.i c])) n) (loc [e,d] w λq=>R (V (.tuple #[.agg #[.i h,.i j,.i k],.i 0])) q)
noncomputable def bt:=aC X bm (ak [8]) [(6,.l [.I,.I,.I] b3),(11,.l [.I,.I,.I] b3),(12,.v [.I])] bh::bm
def eV:∀(x:O) (y:Fv) (j:Addr) (c:Nat) (k q u:Int) (h:Addr) (t34 t35:Int) (w:I) (R:aa) (a6:Y (ah (t35<t34)) (∃t39:O,w.cell? (j.add 1)=some (t39.v)/\
 aw t39 t35 λai=>∃t42:Int,w.cell? (ai.add (ag t35 *1))=some (.i t42)/\
 Y (ah (t42<0)) (aY c k q u w R) (Y (ah (t42>=((x.n:Nat):Int))) (aY c k q u w R) (aw x t42 λaj=>cr w ((aj.add (ag t42 *9)).add 6) λal am an=>(0:Int)<=t35/\t35<((3:Nat):Int)/\av w (h.add (ag t35 *3)) (.i al) λz=>kept [c] w z/\
 av z ((h.add (ag t35 *3)).add 1) (.i am) λA=>kept [c] z A/\
 av A ((h.add (ag t35 *3)).add 2) (.i an) λB=>kept [c] A B/\
 b6 x y j c k q u h t34 (ab .i64 (t35+1)) B R))) (bM [c] Ck #[.pointer (some j)] w λt60 C=>Y (!t60) (loc [c] C λaU=>R (V (.tuple #[.agg #[.i 0,.i 0,.i 0],.i 1])) aU) (aJ [c] C λe d=>
 ∃t75:Int,d.cell? (j.add 0)=some (.i t75)/\
 Y (t75==0) (cE [c,e] Ct #[.pointer (some j),y.v] d λaF aG aH aI aV=>loc [c,e] aV λaW=>bh c k q u e aF aG aH aI aW R) (∃t84:Int,d.cell? (j.add 0)=some (.i t84)/\
 Y (ah (t84<=3)) (cE [c,e] Cr #[.pointer (some j)] d λaK aL aM aN aX=>loc [c,e] aX λaZ=>bh c k q u e aK aL aM aN aZ R) (∃t92:Int,d.cell? (j.add 0)=some (.i t92)/\
 Y (ah (t92<=23)) ((0:Int)<=0/\0<((3:Nat):Int)/\cr d (h.add (ag 0 *3)) λaO aP aQ=>(0:Int)<=1/\1<((3:Nat):Int)/\cr d (h.add (ag 1 *3)) λaR aS aT=>(0:Int)<=2/\2<((3:Nat):Int)/\cr d (h.add (ag 2 *3)) λD E F=>cE [c,e] Cq #[.pointer (some j),.agg #[.i aO,.i aP,.i aQ],.agg #[.i aR,.i aS,.i aT],.agg #[.i D,.i E,.i F]] d λG H J K a0=>loc [c,e] a0 λa1=>bh c k q u e G H J K a1 R) (∃t106:Int,d.cell? (j.add 0)=some (.i t106)/\
 Y (ah (t106<=26)) ((0:Int)<=0/\0<((3:Nat):Int)/\cr d (h.add (ag 0 *3)) λL M N=>(0:Int)<=1/\1<((3:Nat):Int)/\cr d (h.add (ag 1 *3)) λP Q S=>(0:Int)<=2/\2<((3:Nat):Int)/\cr d (h.add (ag 2 *3)) λT W Z=>cE [c,e] Cp #[.pointer (some j),.agg #[.i L,.i M,.i N],.agg #[.i P,.i Q,.i S],.agg #[.i T,.i W,.i Z]] d λac ad ae af a2=>loc [c,e] a2 λa3=>bh c k q u e ac ad ae af a3 R) ((0:Int)<=0/\0<((3:Nat):Int)/\cr d (h.add (ag 0 *3)) λao ap aq=>(0:Int)<=1/\1<((3:Nat):Int)/\cr d (h.add (ag 1 *3)) λar au ax=>(0:Int)<=2/\2<((3:Nat):Int)/\cr d (h.add (ag 2 *3)) λay az aA=>cE [c,e] Cs #[.pointer (some j),.agg #[.i ao,.i ap,.i aq],.agg #[.i ar,.i au,.i ax],.agg #[.i ay,.i az,.i aA]] d λaB aC aD aE a4=>loc [c,e] a4 λa5=>bh c k q u e aB aC aD aE a5 R))))))),b6 x y j c k q u h t34 t35 w R:=mp (bF (X:=X) bt (ak [0,1,1,1,3]) P1)
def aD (C:O) (h:Int) (j:O) (k q x:Int) (y:ByteArray) (z A B:Int) (e:Fv) (w:I) (R:aa) (E:aN w (.cells #[.i h,j.v,.i k,.i q,.u x,.string y,.i z,.i A,.i B] bC) λF=>
 aJ [] F λd G=>
 loc [d] G λc=>∃t14:Int,c.cell? ((nb w).add 0)=some (.i t14)/\
 Y (ah (t14<0)) (aQ d 0 0 0 c R) (∃t18:Int,c.cell? ((nb w).add 0)=some (.i t18)/\
 Y (ah (t18>=35)) (aQ d 0 0 0 c R) (∃t23:O,c.cell? ((nb w).add 1)=some (t23.v)/\
 ∃t26:Int,c.cell? ((nb w).add 0)=some (.i t26)/\
 (0:Int)<=t26/\t26<((35:Nat):Int)/\∃t28:Int,c.cell? ((Addr.mk 0 0 none).add (ag t26 *1))=some (.i t28)/\
 Y (((t23.n:Nat):Int) !=t28) (aQ d 0 0 0 c R) (aN c (.cells #[.i 0,.i 0,.i 0,.i 0,.i 0,.i 0,.i 0,.i 0,.i 0] vh) λD=>
 ∃t33:O,D.cell? ((nb w).add 1)=some (t33.v)/\
 b6 C e (nb w) d 0 0 0 (nb c) ((t33.n:Nat):Int) 0 D R)))):ai U xR #[C.v,.agg #[.i h,j.v,.i k,.i q,.u x,.string y,.i z,.i A,.i B],e.v] w R:=aE X bt E
end oJ
namespace qe
noncomputable abbrev X:Fx:=⟨U,Tryz.f70,[],[3]⟩
abbrev P0:Ps:=[(0,.v [.st]),(1,.v [.r]),(3,.l [.I,.I,.I] b3),(8,.v [.I]),(9,.v [.I])]
def aP (c:ByteArray) (d:Addr) (t3:Nat) (e h j k n:Int) (w:I) (R:aa):Prop:=br P0 0 (X.Sem (ak [0,1,1,1,1])) c d t3 e h j k n w R
noncomputable def aZ:=bD X (ak [0,1,1,1,1]) P0 aP::[]
abbrev a2 (c:ByteArray) (d:Addr) (t3:Nat) (e h j k n:Int) (w:I) (R:aa):Prop:=
 aP c d t3 e h j k (ab .i64 (n+1)) w R
noncomputable def bg:=aC X aZ (ak [3,2,1,1,1]) P0 a2::aZ
def bW:∀(e:ByteArray) (d:Addr) (t3:Nat) (j k n h c:Int) (w:I) (R:aa) (D:Y (ah (c<h)) (∃t13:O,w.cell? (d.add 0)=some (t13.v)/\
 aw t13 c λq=>∃t17:Int,w.cell? ((q.add (ag c *9)).add 0)=some (.i t17)/\
 Y (t17==0) (∃t21:O,w.cell? (d.add 0)=some (t21.v)/\
 aw t21 c λu=>∃t25:ByteArray,w.cell? ((u.add (ag c *9)).add 5)=some (.string t25)/\
 Y (t25.toList==e.toList) (∃t30:O,w.cell? (d.add 0)=some (t30.v)/\
 aw t30 c λx=>cr w ((x.add (ag c *9)).add 6) λy z A=>loc [t3] w λB=>R (V (.tuple #[.agg #[.i y,.i z,.i A],.bool true])) B) (a2 e d t3 j k n h c w R)) (a2 e d t3 j k n h c w R)) (loc [t3] w λC=>R (V (.tuple #[.agg #[.i 0,.i 0,.i 0],.bool false])) C)),aP e d t3 j k n h c w R:=mp (bF (X:=X) bg (ak [0,1,1,1,1]) P0)
def aD (d:ByteArray) (c:Addr) (w:I) (R:aa) (k:aJ [] w λj h=>
 ∃e:O,h.cell? (c.add 0)=some (e.v)/\
 aP d c j 0 0 0 ((e.n:Nat):Int) 0 h R):ai U xK #[.string d,.pointer (some c)] w R:=aE X bg k
end qe
namespace Lq
noncomputable abbrev X:Fx:=⟨U,Tryz.f41,[],[3,4]⟩
def aD (e:O) (h:Int) (j:O) (k n q:Int) (x:ByteArray) (y z A:Int) (w:I) (R:aa) (D:aN w (.cells #[e.v] kV) λJ=>
 aJ [] J λc K=>
 aJ [c] K λd C=>
 ∃B:O,C.cell? ((nb w).add 0)=some (B.v)/\
 cE [c,d] xR #[B.v,.agg #[.i h,j.v,.i k,.i n,.u q,.string x,.i y,.i z,.i A],.func (.func xK) #[] #[.pointer (some (nb w))]] C λE F G H L=>loc [c,d] L λM=>R (V (.tuple #[.agg #[.i E,.i F,.i G],.i H])) M):ai U uh #[.agg #[e.v],.agg #[.i h,j.v,.i k,.i n,.u q,.string x,.i y,.i z,.i A]] w R:=aE X [] D
end Lq
namespace uU
noncomputable abbrev X:Fx:=⟨U,Tryz.f101,[(6,ls [0,1,2,3,4,5,6,7,8])],[]⟩
abbrev P0:Ps:=[(0,.v [.s]),(1,.v [.s]),(12,.v [.I]),(13,.v [.I])]
def L0 (c d:O) (t12 t13:Int) (w:I) (R:aa):Prop:=br P0 0 (X.Sem (ak [0,1,1,1,2])) c d t12 t13 w R
noncomputable def aZ:=bD X (ak [0,1,1,1,2]) P0 L0
def b5:∀(d e:O) (t12 t13:Int) (w:I) (R:aa) (k:Y (ah (t13<t12)) (bY w λc=>aw d t13 λh=>∃t19:Int,c.cell? (h.add (ag t13 *1))=some (.i t19)/\
 aw e t13 λj=>∃t23:Int,c.cell? (j.add (ag t13 *1))=some (.i t23)/\
 Y (t19 !=t23) (R (V (.bool false)) c) (L0 d e t12 (ab .i64 (t13+1)) c R)) (R (V (.bool true)) w)),L0 d e t12 t13 w R:=mp (bF (X:=X) [aZ] (ak [0,1,1,1,2]) P0)
def ok (c d:O) (w:I) (R:aa) (e:Y (((c.n:Nat):Int) !=((d.n:Nat):Int)) (R (V (.bool false)) w) (L0 c d ((c.n:Nat):Int) 0 w R)):ai U B8 #[c.v,d.v] w R:=aE X [aZ] e
end uU
namespace LF
noncomputable abbrev X:Fx:=⟨U,Tryz.f82,[(1,ls [0,1,2,3,4,5,6,7,8,9,10,11,12,13,14,15,16,17,18,19,20,21,22,23,24,25,26,27,28,29,30,31,32,33,34,35,36,37,38,39,40,41,42,43,44,45,46,47,48,49,50,51,52,53,54,55,56,57,58,59,60,61,62,63,64,65,66,67,68,69,70,71,72,73,74,75])],[]⟩
def ok (d e:Addr) (w:I) (R:aa) (k:bY w λc=>∃j:Int,c.cell? (d.add 0)=some (.i j)/\
 ∃t12:Int,c.cell? (e.add 0)=some (.i t12)/\
 Y (j==t12) (∃t18:Int,c.cell? (d.add 2)=some (.i t18)/\
 ∃t22:Int,c.cell? (e.add 2)=some (.i t22)/\
 Y (t18==t22) (∃t29:Int,c.cell? (d.add 3)=some (.i t29)/\
 ∃t33:Int,c.cell? (e.add 3)=some (.i t33)/\
 Y (t29==t33) (∃t40:Int,c.cell? (d.add 4)=some (.u t40)/\
 ∃t44:Int,c.cell? (e.add 4)=some (.u t44)/\
 Y (t40==t44) (cr c (d.add 6) λn q x=>cr c (e.add 6) λy z A=>Y ((n==y)&&((q==z)&&((x==A)&&true))) (∃t62:O,c.cell? (d.add 1)=some (t62.v)/\
 ∃t66:O,c.cell? (e.add 1)=some (t66.v)/\
 gk B8 #[t62.v,t66.v] c λt67 h=>h.cell? (e.add 3)=some (.i t33)/\h.cell? (d.add 3)=some (.i t29)/\h.cell? (e.add 2)=some (.i t22)/\h.cell? (d.add 2)=some (.i t18)/\h.cell? (e.add 0)=some (.i t12)/\h.cell? (d.add 0)=some (.i j)/\Y t67 (∃t73:ByteArray,h.cell? (d.add 5)=some (.string t73)/\
 ∃t77:ByteArray,h.cell? (e.add 5)=some (.string t77)/\
 R (V (.bool (t73.toList==t77.toList))) h) (R (V (.bool false)) h)) (R (V (.bool false)) c)) (R (V (.bool false)) c)) (R (V (.bool false)) c)) (R (V (.bool false)) c)) (R (V (.bool false)) c)):ai U Cn #[.pointer (some d),.pointer (some e)] w R:=aE X [] k
end LF
namespace va
noncomputable abbrev X:Fx:=⟨U,Tryz.f67,[],[2]⟩
abbrev P0:Ps:=[(1,.v [.r]),(2,.l [.s] kV),(8,.v [.I]),(9,.v [.I])]
def aP (e:Addr) (c:Nat) (d:O) (h j:Int) (w:I) (R:aa):Prop:=br P0 0 (X.Sem (ak [0,1,1,1,1])) e c d h j w R
noncomputable def aZ:=bD X (ak [0,1,1,1,1]) P0 aP
def bW:∀(h:Addr) (d:Nat) (e:O) (j c:Int) (w:I) (R:aa) (q:Y (ah (c<j)) (aw e c λn=>bM [d] Cn #[.pointer (some (n.add (ag c *9))),.pointer (some h)] w λt17 k=>Y t17 (R (V (.i c)) k) (aP h d e j (ab .i64 (c+1)) k R)) (R (V (.i (-1))) w)),aP h d e j c w R:=mp (bF (X:=X) [aZ] (ak [0,1,1,1,1]) P0)
def aD (c:O) (d:Addr) (w:I) (R:aa) (h:aJ [] w λe j=>
 aP d e c ((c.n:Nat):Int) 0 j R):ai U Co #[.agg #[c.v],.pointer (some d)] w R:=aE X [aZ] h
end va
namespace KH
noncomputable abbrev X:Fx:=⟨U,Tryz.f68,[],[]⟩
def ok (c:O) (w:I) (R:aa) (h:Y c.a.isNone (R (V (.slice none 0 0)) w) (aN w (.cells #[] bX) λj=>
 ∃(d:O) (e:I),a6 U (bb #[eI,eI] eI #[.slice (some (nb w)) 0 0,c.v]) j=.ok (d.v) e/\R (V (d.v)) e)):ai U B3 #[c.v] w R:=aE X [] h
end KH
namespace Lo
noncomputable abbrev X:Fx:=⟨U,Tryz.f40,[(14,ls [0,1,2,3,4,5,6,7])],[2,4,7]⟩
def aD (h:O) (L:Int) (M:O) (N P Q:Int) (S:ByteArray) (T W Z:Int) (w:I) (R:aa) (aj:aJ [] w λc k=>
 aN k (.cells #[.i L,M.v,.i N,.i P,.u Q,.string S,.i T,.i W,.i Z] bC) λw2=>
 aJ [c] w2 λd w3=>
 lu w3 (nb k) λak al am an ao ap aq ar au=>cE [c,d] uh #[.agg #[h.v],.agg #[.i ak,al.v,.i am,.i an,.u ao,.string ap,.i aq,.i ar,.i au]] w3 λax ay az ac w4=>aJ [c,d] w4 λe w5=>
 Y (ac !=0) (loc [c,d,e] w5 λw9=>R (V (.tuple #[.agg #[.slice none 0 0],.i 0,.i ac])) w9) (loc [c,d,e] w5 λw8=>av w8 ((nb k).add 6) (.i ax) λz=>kept [c,d,e] w8 z/\
 av z (((nb k).add 6).add 1) (.i ay) λA=>kept [c,d,e] z A/\
 av A (((nb k).add 6).add 2) (.i az) λad=>kept [c,d,e] A ad/\
 b0 [c,d,e] Co #[.agg #[h.v],.pointer (some (nb k))] ad λt24 x=>Y (ah (t24>=0)) (loc [c,d,e] x λaM=>R (V (.tuple #[.agg #[h.v],.i t24,.i 0])) aM) (Y (ah (((h.n:Nat):Int)>=4096)) (loc [c,d,e] x λaO=>R (V (.tuple #[.agg #[.slice none 0 0],.i 0,.i 4])) aO) (∃t35:O,x.cell? ((nb k).add 1)=some (t35.v)/\
 fU [c,d,e] B3 #[t35.v] x λt36 ae=>av ae ((nb k).add 1) (t36.v) λB=>kept [c,d,e] ae B/\
 ∃(t42:O) (y:I),a6 U (Instr.makeSlice dZ (.i (ab .i64 (((h.n:Nat):Int)+1))) (.i (ab .i64 (((h.n:Nat):Int)+1)))) B=.ok (t42.v) y/\kept [c,d,e] B y/\∃(t46:Int) (q:I),a6 U (Builtin.copy_ #[dZ,dZ] bX #[t42.v,h.v]) y=.ok (.i t46) q/\kept [c,d,e] y q/\lu q (nb k) λaA aB aC aF aG aH aI aK aL=>aw t42 ((h.n:Nat):Int) λj=>av q (j.add (ag ((h.n:Nat):Int) *9)) (.i aA) λC=>kept [c,d,e] q C/\
 av C ((j.add (ag ((h.n:Nat):Int) *9)).add 1) (aB.v) λD=>kept [c,d,e] C D/\
 av D ((j.add (ag ((h.n:Nat):Int) *9)).add 2) (.i aC) λE=>kept [c,d,e] D E/\
 av E ((j.add (ag ((h.n:Nat):Int) *9)).add 3) (.i aF) λF=>kept [c,d,e] E F/\
 av F ((j.add (ag ((h.n:Nat):Int) *9)).add 4) (.u aG) λG=>kept [c,d,e] F G/\
 av G ((j.add (ag ((h.n:Nat):Int) *9)).add 5) (.string aH) λH=>kept [c,d,e] G H/\
 av H ((j.add (ag ((h.n:Nat):Int) *9)).add 6) (.i aI) λJ=>kept [c,d,e] H J/\
 av J ((j.add (ag ((h.n:Nat):Int) *9)).add 7) (.i aK) λK=>kept [c,d,e] J K/\
 av K ((j.add (ag ((h.n:Nat):Int) *9)).add 8) (.i aL) λaf=>kept [c,d,e] K af/\
 loc [c,d,e] af λaP=>R (V (.tuple #[.agg #[t42.v],.i ((h.n:Nat):Int),.i 0])) aP)))):ai U uf #[.agg #[h.v],.agg #[.i L,M.v,.i N,.i P,.u Q,.string S,.i T,.i W,.i Z]] w R:=aE X [] aj
end Lo
set_option maxHeartbeats 1000000
def dn (w:I) (p:Addr) (d:Nd):Prop:=∀i v,(Nd.c d)[i]? =some v->w.cell? (p.add i)=some v
def dn.st {w w':I} {p:Addr} {d:Nd} (h:dn w p d) (k:p.block<w.heap.size->w'.heap[p.block]? =w.heap[p.block]?):dn w' p d:=λi v j=>by have c:=h i v j;have e:=mY c;rw [iF] at e;unfold World.cell? at c ⊢;rw [iF] at c ⊢;rw [k e];exact c
def dn.lt {w:I} {p:Addr} {d:Nd} (c:dn w p d):p.block<w.heap.size:=by
 have:=mY (c 0 _ rfl)
 rwa [iF] at this
def _root_.Go.W.En.fZ (p:Addr) (d:Nd):En:=⟨[p.block],λe=>dn e p d,λe k j c=>c.st (j p.block (by simp)),λe c b h=>by simp at h;subst h;exact dn.lt c,by simp⟩
def uj {w:I} {b:Nat} {d:Nd} {T:aG} (e:w.heap[b]? =some (.cells (Nd.c d).toArray T (0,0))):dn w (aj b) d:=λi v h=>cellAt (p:=aj b) e rfl (by simpa using h)
section
variable {w:I} {p:Addr} {d:Nd} (h:dn w p d)
include h
def dn.c0:w.cell? (p.add 0)=some (.i d.x.op):=h 0 _ rfl
def dn.c1:w.cell? (p.add 1)=some d.ks.v:=h 1 _ rfl
def dn.c2:w.cell? (p.add 2)=some (.i d.x.n):=h 2 _ rfl
def dn.c3:w.cell? (p.add 3)=some (.i d.x.m):=h 3 _ rfl
def dn.c4:w.cell? (p.add 4)=some (.u d.x.u):=h 4 _ rfl
def dn.c5:w.cell? (p.add 5)=some (.string d.x.tx):=h 5 _ rfl
def dn.s0:w.cell? ((p.add 6).add 0)=some (.i d.x.st.k):=by rw [add_add];exact h 6 _ rfl
def dn.s1:w.cell? ((p.add 6).add 1)=some (.i d.x.st.n):=by rw [add_add];exact h 7 _ rfl
def dn.s2:w.cell? ((p.add 6).add 2)=some (.i d.x.st.x):=by rw [add_add];exact h 8 _ rfl
end
def iT (n:Int) (w:I):ai U hN #[.i n] w λr e=>r=V (dx (bI n))/\ao w e:=
 Lw.aD _ w _ ((bZ [] (by simp)).aL λb h c=>c.au λj d=>⟨rfl,d.fr⟩)
def r8 (n:Int) (w:I):ai U oj #[.i n] w λr e=>r=V (dx (eH n))/\ao w e:=
 LI.aD _ w _ ((bZ [] (by simp)).aL λb h c=>c.au λj d=>⟨rfl,d.fr⟩)
def qc (s:bq) (w:I):ai U ni #[dx s] w λr d=>r=V (.bool (s.k==0))/\ao w d:=
 Ly.aD _ _ _ w _ ((bZ [] (by simp)).aL λb e c=>⟨rfl,c.fr⟩)
def iU (s:bq) (w:I):ai U hO #[dx s] w λr d=>r=V (.bool (s.k==1))/\ao w d:=
 LA.aD _ _ _ w _ ((bZ [] (by simp)).aL λb e c=>⟨rfl,c.fr⟩)
def D5 (s:bq) (w:I):ai U ui #[dx s] w λr e=>r=V (.bool (dR s))/\ao w e:=
 Lx.aD _ _ _ w _ ((bZ [] (by simp)).aL λb h d=>aO (λc=>⟨by unfold dR;rw [c];rfl,d.fr⟩) (λc=>⟨by unfold dR;rw [beq_eq_false_iff_ne.2 c];rfl,d.fr⟩))
def Lg (x y:bq) (w:I):ai U xM #[dx x,dx y] w λr q=>r=V (.bool (ah (x=y)||(x.k==1&&y.k==1)))/\ao w q:=by refine Lr.aD _ _ _ _ _ _ w _ ((bZ [] (by simp)).aL λb B j=>j.aL λA u e=>lF (a:=x) (b:=y) (λc=>⟨by rw [aW c];rfl,e.fr⟩) (λc=>e.aA (iU x u) ?_));rintro _ z rfl h;rw [a0 c,Bool.false_or];refine ⟨_,rfl,aO (λd=>h.aA (iU y z) ?_) (λd=>⟨by rw [beq_eq_false_iff_ne.2 d];rfl,h.fr⟩)⟩;rintro _ C rfl n;exact ⟨_,rfl,by rw [d];rfl,n.fr⟩
def Dr (c ranges:Bool):Int:=if c=true then (if ranges=true then 0 else 5) else 9
def UK (s:bq) (j ranges:Bool) (w:I):ai U dm #[dx s,.bool j,.bool ranges] w λr q=>r=fN (s,Dr j ranges)/\ao w q:=by refine LD.aD _ _ _ _ _ w _ ((bZ [] (by simp)).aL λb x n=>n.aL λu y e=>dM (λd=>e.au λk c=>⟨by rw [d];rfl,c.fr⟩) (λd=>dM (λh=>e.au λk c=>⟨by rw [d,h];rfl,c.fr⟩) (λh=>e.au λk c=>⟨by rw [d,h];rfl,c.fr⟩)))
def Lf (s:bq) (w:I):ai U xT #[dx s] w λr q=>r=V (.int .i64 (gD s))/\ao w q:=by
 refine yS.aD _ _ _ w _ ((bZ [] (by simp)).aL λE B D=>?_);have F:bT s=true->(Ending.returned (Value.int .i64 0)=V (.int .i64 (gD s))/\ao w B):=λh=>⟨by unfold gD;rw [aq h],D.fr⟩;have bad:bT s=false->(Ending.returned (Value.int .i64 9)=V (.int .i64 (gD s))/\ao w B):=λh=>⟨by unfold gD;rw [af (by simp [h])],D.fr⟩;have plain:∀least:Int,(∀d:least<=s.n,s.n<=64->s.x=0->bT s=true)->(¬(least<=s.n/\s.n<=64/\s.x=0)->bT s=false)->yS.aQ E s.k s.n s.x least 64 false B λr q=>r=V (.int .i64 (gD s))/\ao w q:=by intro least d c;exact aR (λh=>bad (c (by omega))) (λh=>aR (λC=>bad (c (by omega))) (λC=>a9 rfl (bd rfl (dG (λe=>bad (c (λG=>e G.2.2))) (λe=>F (d (by omega) (by omega) e))))))
 have array:∀least:Int,(∀d:least<=s.n,s.n<=64->1<=s.x->s.x<=16->bT s=true)->(¬(least<=s.n/\s.n<=64/\1<=s.x/\s.x<=16)->bT s=false)->yS.aQ E s.k s.n s.x least 64 true B λr q=>r=V (.int .i64 (gD s))/\ao w q:=by intro least d c;exact aR (λh=>bad (c (by omega))) (λh=>aR (λC=>bad (c (by omega))) (λC=>bd rfl (aR (λe=>bad (c (by omega))) (λe=>aR (λj=>bad (c (by omega))) (λj=>a9 rfl (F (d (by omega) (by omega) (by omega) (by omega))))))))
 refine aO (λu=>plain 1 (λd c e=>?_) (λh=>?_)) (λu=>aO (λy=>plain 0 (λd c e=>?_) (λh=>?_)) (λy=>aO (λz=>array 1 (λd c e j=>?_) (λh=>?_)) (λz=>aO (λA=>array 0 (λd c e j=>?_) (λh=>?_)) (λA=>bad ?_))))
 .unfold bT;simp [u,d,c,e]
 .unfold bT;rw [u];simp;omega
 .unfold bT;simp [y,d,c,e]
 .unfold bT;rw [y];simp;omega
 .unfold bT;simp [z,d,c,e,j]
 .unfold bT;rw [z];simp;omega
 .unfold bT;simp [A,d,c,e,j]
 .unfold bT;rw [A];simp;omega
 .unfold bT;simp [u,y,z,A]
def Uu {s:ByteArray} {i:Nat} (c:i<s.size):s[i]? =some (gQ (bl s) i):=by
 have e:i<(bl s).length:=c;have d:gQ (bl s) i=(bl s)[i]:=by unfold gQ;rw [List.getD_eq_getElem?_getD,bc e];rfl
 rw [d,getElem?_pos s i c];rfl
def UG (s:ByteArray) (w:I):ai U Cl #[.string s] w λr j=>r=V (.bool (jO (bl s)))/\ao w j:=by
 have h:(bl s).length=s.size:=ep s;have pE:∀(c:UInt8) (m:List UInt8),jO (c::m)=(ah (m.length<=15)&&fF c&&m.all ei):=λ_ _=>rfl;cases q:bl s with
 |nil=>
  have k:s.size=0:=by rw [<-h,q];rfl
  exact mA.ok s w _ (bd (aW (by omega)) ⟨rfl,Fr.refl _ _⟩)
 |cons c m=>
  have N:s.size=m.length+1:=by rw [<-h,q];rfl
  have D:gQ (bl s) 0=c:=by rw [q];rfl
  refine mA.ok s w _ (a9 (a0 (by omega)) (aR (λe=>⟨?_,Fr.refl _ _⟩) (λe=>?_)))
  .rw [pE,a0 (by omega)];rfl
  have G:jO (c::m)=(fF c&&m.all ei):=by rw [pE,aW (by omega:m.length<=15),Bool.true_and]
  rw [G];have loop:∀(d i:Nat),i+d=s.size->(fF c&&m.all ei)=(if i=0 then (fF c&&m.all ei) else ((bl s).drop i).all ei)->mA.L1 s (i:Int) w λr j=>r=V (.bool (fF c&&m.all ei))/\ao w j:=by
   intro d;induction d with
   |zero=>
    intro i K n;rw [dt (by omega),af (by omega)] at n;exact mA.fC _ _ _ _ (a9 (a0 (by omega)) ⟨by rw [n];rfl,Fr.refl _ _⟩)
   |succ d M=>
    intro i K n;have E:=Uu (show i<s.size by omega);have F:(bl s).drop i=gQ (bl s) i::(bl s).drop (i+1):=by rw [dq (by omega:i<(bl s).length)];unfold gQ;rw [List.getD_eq_getElem?_getD,bc (by omega:i<(bl s).length)];rfl
    have go:(if i=0 then fF (gQ (bl s) i) else ei (gQ (bl s) i))=true->mA.S5 s (i:Int) w λr j=>r=V (.bool (fF c&&m.all ei))/\ao w j:=λe=>by
     show mA.L1 s (ab .i64 ((i:Int)+1)) w _;rw [bw _ (by omega)];refine M (i+1) (by omega) ?_;rw [af (by omega)];by_cases k:i=0
     .subst k;rw [aq rfl,D] at e;rw [e,Bool.true_and];rw [q];rfl
     .rw [af k] at e n;rw [n,F,List.all_cons,e,Bool.true_and]
    have stop:(if i=0 then fF (gQ (bl s) i) else ei (gQ (bl s) i))=false->mA.S4 w λr j=>r=V (.bool (fF c&&m.all ei))/\ao w j:=λe=>by
     refine ⟨?_,Fr.refl _ _⟩;by_cases k:i=0
     .subst k;rw [aq rfl,D] at e;rw [e,Bool.false_and]
     .rw [af k] at e n;rw [n,F,List.all_cons,e,Bool.false_and]
    generalize gQ (bl s) i=x at E go stop;have C:∀l:Bool,l=fF x->mA.S3 s (i:Int) ((x.toNat:Nat):Int) l w λr j=>r=V (.bool (fF c&&m.all ei))/\ao w j:=by
     intro l h;refine dM (λJ=>?_) (λB=>go ?_)
     .rw [J] at h;refine aO (λk=>stop ?_) (λk=>?_)
      .rw [aq (by omega),<-h]
      have L:i≠0:=by omega
      rw [af L] at go stop;have u:ei x=((ah (48<=x.toNat)&&ah (x.toNat<=57))||x==45):=by unfold ei;rw [<-h,Bool.false_or]
      refine dG (λA=>aR (λz=>stop ?_) (λz=>aR (λH=>stop ?_) (λH=>go ?_))) (λA=>go ?_)
      .rw [u,a0 (show ¬48<=x.toNat by omega)];have:(x==45)=false:=beq_eq_false_iff_ne.2 λy=>A (by subst y;rfl);rw [this];rfl
      .rw [u,a0 (show ¬x.toNat<=57 by omega),Bool.and_false];have:(x==45)=false:=beq_eq_false_iff_ne.2 λy=>A (by subst y;rfl);rw [this];rfl
      .rw [u,aW (show 48<=x.toNat by omega),aW (show x.toNat<=57 by omega)];rfl
      .have:x=45:=UInt8.toNat_inj.1 (by have:((45:UInt8).toNat:Int)=45:=rfl;omega);rw [u,this];rfl
     .rw [B] at h;split
      .exact h.symm
      .unfold ei;rw [<-h];rfl
    have B:((i:Int)).toNat=i:=dJ i;refine mA.fC _ _ _ _ (bd (aW (by omega)) ⟨by omega,x,by rw [B];exact E,aR (λz=>C _ ?_) (λz=>C _ ?_)⟩)
    .unfold fF;rw [aW (show 97<=x.toNat by omega),Bool.true_and];exact decide_eq_decide.2 (by omega)
    .unfold fF;rw [a0 (show ¬97<=x.toNat by omega),Bool.false_and]
  exact loop s.size 0 (by omega) (by rw [aq rfl])
def Pr (t:ByteArray):(t.toList==(az #[]).toList)=ah (t=ba []):=yK _ _
def UF {w:I} {p:Addr} {d:Nd} (y:dn w p d):ai U Ck #[.pointer (some p)] w λr k=>r=V (.bool (iN d.x))/\ao w k:=by
 have C:∀a b e c:Bool,u9.S1 p a b e c w λr k=>r=V (.bool ((a||d.x.n==0)&&(b||d.x.m==0)&&(e||d.x.u==0)&&(c||ah (d.x.tx=ba []))))/\ao w k:=by
  intro a b e c;cases a<;>cases b<;>cases e<;>cases c;all_goals repeat (first |refine a9 rfl ?_|refine bd rfl ?_|refine ⟨_,y.c2,aO (λh=>?_) (λh=>⟨by rw [beq_eq_false_iff_ne.2 h];simp,Fr.refl _ _⟩)⟩|refine ⟨_,y.c3,aO (λj=>?_) (λj=>⟨by rw [beq_eq_false_iff_ne.2 j];simp,Fr.refl _ _⟩)⟩|refine ⟨_,y.c4,aO (λz=>?_) (λz=>⟨by rw [beq_eq_false_iff_ne.2 z];simp,Fr.refl _ _⟩)⟩|refine ⟨_,y.c5,?_,Fr.refl _ _⟩)
  all_goals first |exact ⟨by simp [*],Fr.refl _ _⟩|(rw [Pr];simp [*])
 have fin:∀a b e c:Bool,a=n6 d.x.op->b=(d.x.op==21)->e=(d.x.op==1)->c=n7 d.x.op->u9.S1 p a b e c w λr k=>r=V (.bool (iN d.x))/\ao w k:=by rintro a b e c rfl rfl rfl rfl;exact C _ _ _ _
 have H:∀A:Int,d.x.op≠A->(d.x.op==A)=false:=λA G=>beq_eq_false_iff_ne.2 G;have D:∀c:Bool,c=n7 d.x.op->u9.S2 p false false false c d.x.op w λr k=>r=V (.bool (iN d.x))/\ao w k:=by intro c q;refine aO (λE=>fin _ _ _ _ ?_ ?_ ?_ q) (λE=>aO (λh=>fin _ _ _ _ ?_ ?_ ?_ q) (λh=>aO (λj=>bd (beq_iff_eq.2 j) (fin _ _ _ _ ?_ ?_ ?_ q)) (λj=>aO (λz=>bd (beq_iff_eq.2 z) (fin _ _ _ _ ?_ ?_ ?_ q)) (λz=>aO (λF=>fin _ _ _ _ ?_ ?_ ?_ q) (λF=>fin _ _ _ _ ?_ ?_ ?_ q)))));all_goals first |(rw [‹d.x.op=_›];rfl)|(simp [n6, *])
 refine u9.ok p w _ ⟨_,y.c0,aO (λB=>bd (beq_iff_eq.2 B) (fin _ _ _ _ ?_ ?_ ?_ ?_)) (λB=>aO (λh=>bd (beq_iff_eq.2 h) (fin _ _ _ _ ?_ ?_ ?_ ?_)) (λh=>aO (λj=>fin _ _ _ _ ?_ ?_ ?_ ?_) (λj=>D _ ?_)))⟩;all_goals first |(rw [‹d.x.op=_›];rfl)|(unfold n7;simp [*])
def iC (s:bq) (e:Int) (r:dA):Prop:=∃(t:bq) (c:Int),r=fN (t,c)/\c=e/\(e=0->t=s)
def wO {w:I} {p:Addr} {d:Nd} (e:dn w p d):LH F0 w w [] [.fZ p d]:=bZ _ (by intro h c;simp only [aB,a1,a7] at c;subst c;exact e)
def hM (n:Nx) (x y z:bq):Int:=if c9 n.op x y z=false then 9 else if jl n x y z=false then 5 else if n.op=33/\jG n.tx=false then 2 else 0
def Tp {n:Nx} {x y z t:bq} {c ranges:Bool} (k:n.op≠33) (e:c=c9 n.op x y z) (h:c=true->ranges=jl n x y z) (j:c=true->ranges=true->t=g7 n x y z):iC (g7 n x y z) (hM n x y z) (fN (t,Dr c ranges)):=by
 refine ⟨t,_,rfl,?_,λd=>?_⟩
 .unfold Dr hM;rw [<-e];cases c with
  |false=>rfl
  |true=>
   rw [<-h rfl];cases ranges with
   |false=>rfl
   |true=>simp [k]
 .unfold hM at d;rw [<-e] at d;cases c with
  |false=>simp at d
  |true=>
   rw [<-h rfl] at d;cases ranges with
   |false=>simp at d
   |true=>exact j rfl rfl
section
variable {M:Nat->Prop} {w0 w:I} {L D:List En} {bs Nw:List Nat}
def dO (H:LH F0 w0 w L D) {n:Nx} {x y z:bq} (t:bq) (c ranges:Bool) (A:n.op≠33) (k:c=c9 n.op x y z) (q:c=true->ranges=jl n x y z) (u:c=true->ranges=true->t=g7 n x y z) (B:∀b∈bs,En.g b∈L:=by simp):
  cU Nw U dm #[dx t,.bool c,.bool ranges] w λr C=>∃a b d e:Int,r=V (.tuple #[.agg #[.i a,.i b,.i d],.i e])/\loc bs C λE=>iC (g7 n x y z) (hM n x y z) (V (.tuple #[.agg #[.i a,.i b,.i d],.i e]))/\ao w0 E:=by refine H.aA (UK t c ranges w) ?_;rintro _ F rfl h;exact ⟨_,_,_,_,rfl,h.au (λG j=>⟨Tp A k q u,j.fr⟩) B⟩
end
def nL (s:bq):Prop:=0<=s.n/\s.n<=64
def U8 {s:bq} (c:bT s=true):nL s:=⟨(kW c).1,(kW c).2.1⟩
def IF:nL cF:=⟨by decide,by decide⟩
def UE {w:I} {p:Addr} {d:Nd} {x y z:bq} (u:dn w p d) (h4:4<=d.x.op) (ak:d.x.op<=23) (hx:nL x) (hy:nL y) (hn:cp d.x.n) (hm:cp d.x.m):
  ai U Cq #[.pointer (some p),dx x,dx y,dx z] w λr w'=>iC (g7 d.x x y z) (hM d.x x y z) r/\ao w w':=by
 refine D8.aD _ _ _ _ _ _ _ _ _ _ w _ ((wO u).aL λb5 w1 H1=>H1.aL λb6 w2 H2=>H2.aL λb7 w3 H3=>H3.aL λb8 w4 F=>?_);obtain ⟨⟨T,kids,e,m,N,M,st⟩,aa⟩:=d;have C:∀{A:I} {L:List En},LH F0 w A L [.fZ p ⟨⟨T,kids,e,m,N,M,st⟩,aa⟩]->dn A p ⟨⟨T,kids,e,m,N,M,st⟩,aa⟩:=λag=>ag.getD 0;simp only at h4 ak hn hm;refine ⟨T,(C F).c0,?_⟩;obtain ⟨ar,av⟩:=hx;obtain ⟨aw,ax⟩:=hy;obtain ⟨an,ap⟩:=hn;obtain ⟨al,am⟩:=hm;have two:∀(c:Bool),c=true->c=true:=λ_ u=>u;rcases rK (by omega) (by omega:T<=34) with rfl|rfl|rfl|rfl|rfl|rfl|rfl|rfl|rfl|rfl|rfl|rfl|rfl|rfl|rfl|rfl|rfl|rfl|rfl|rfl|rfl|rfl|rfl|rfl|rfl|rfl|rfl|rfl|rfl|rfl|rfl|rfl|rfl|rfl|rfl
 iterate 4 omega
 rotate_left 20
 iterate 11 omega
 all_goals repeat (first |refine a9 rfl ?_|refine bd rfl ?_)
 iterate 2
  .refine F.au λA j=>j.aA (qc x A) ?_;rintro _ D rfl q;exact ⟨_,rfl,dO q x _ true (by simp) rfl (λ_=>rfl) (λ_ _=>rfl)⟩
 iterate 10
  .refine F.au λA j=>j.aA (qc x A) ?_;rintro _ D rfl q;refine ⟨_,rfl,aO (λB=>?_) (λB=>?_)⟩
   .refine dO q x _ true (by simp) ?_ (λ_=>rfl) (λ_ _=>rfl);rw [jW];show _=(x.k==0&&ah (x=y));rw [B];rfl
   .refine dO q x _ true (by simp) ?_ (λ_=>rfl) (λ_ _=>rfl);show _=(x.k==0&&ah (x=y));rw [beq_eq_false_iff_ne.2 B];rfl
 iterate 2
  .refine F.au λA j=>j.aA (iT 1 A) ?_;rintro _ D rfl q;refine ⟨_,_,_,rfl,q.aA (qc x D) ?_⟩;rintro _ G rfl h;refine ⟨_,rfl,aO (λB=>?_) (λB=>?_)⟩
   .refine dO h (bI 1) _ true (by simp) ?_ (λ_=>rfl) (λ_ _=>rfl);rw [jW];show _=(x.k==0&&ah (x=y));rw [B];rfl
   .refine dO h (bI 1) _ true (by simp) ?_ (λ_=>rfl) (λ_ _=>rfl);show _=(x.k==0&&ah (x=y));rw [beq_eq_false_iff_ne.2 B];rfl
 .refine F.au λA j=>j.aA (iT 1 A) ?_;rintro _ D rfl q;refine ⟨_,_,_,rfl,q.aA (Lg x y D) ?_⟩;rintro _ G rfl h;exact ⟨_,rfl,dO h (bI 1) _ true (by simp) rfl (λ_=>rfl) (λ_ _=>rfl)⟩
 .refine F.aL λad A j=>j.au λD q=>q.aA (iU y D) ?_;rintro _ G rfl h;have Y:∀(t:bq) (H:I),((ah (y=z)||(y.k==1&&z.k==1))=true->t=if y.k=1 then eH (if y.n<z.n then z.n else y.n) else y)->LH F0 w H [.g b5,.g b6,.g b7,.g b8,.g ad] [.fZ p ⟨⟨19,kids,e,m,N,M,st⟩,aa⟩]->D8.cB b5 x.k x.n x.x b6 y.k y.n y.x b7 z.k z.n z.x b8 0 0 0 ad t.k t.n t.x H λr w'=>iC (g7 ⟨19,kids,e,m,N,M,st⟩ x y z) (hM ⟨19,kids,e,m,N,M,st⟩ x y z) r/\ao w w':=by
   intro t H ht J;refine J.au λw9 W=>W.aA (iT 1 w9) ?_;rintro _ ac rfl Q;have O:c9 19 x y z=(ah (x=bI 1)&&(ah (y=z)||(y.k==1&&z.k==1))):=rfl;refine ⟨_,_,_,rfl,lF (a:=x) (b:=bI 1) (λZ=>Q.aA (Lg y z ac) ?_) (λZ=>?_)⟩
   .rintro _ ay rfl aj;refine ⟨_,rfl,dO aj t _ true (by simp) ?_ (λ_=>rfl) (λu _=>ht u)⟩;show _=c9 19 x y z;rw [O,aW Z];rfl
   .refine dO Q t _ true (by simp) ?_ (λ_=>rfl) (λu _=>by cases u);show _=c9 19 x y z;rw [O,a0 Z];rfl
  have yes:∀t:bq,y.k=1->z.k=1->t=eH (if y.n<z.n then z.n else y.n)->((ah (y=z)||(y.k==1&&z.k==1))=true->t=if y.k=1 then eH (if y.n<z.n then z.n else y.n) else y):=λt h1 _ h3 _=>by rw [aq h1,h3]
  refine ⟨_,rfl,aO (λB=>h.aA (iU z G) ?_) (λB=>Y y G (λ_=>by rw [af B]) h)⟩;rintro _ H rfl J;refine ⟨_,rfl,aO (λS=>J.aA (r8 _ H) ?_) (λS=>Y y H (λhf=>?_) J)⟩
  .rintro _ w9 rfl W;exact ⟨_,_,_,rfl,W.au λac Q=>Y (eH (if y.n<z.n then z.n else y.n)) ac (yes _ B S rfl) Q⟩
  .rw [beq_eq_false_iff_ne.2 S,Bool.and_false,Bool.or_false] at hf;have:=ef hf;exact absurd (by rw [<-this];exact B) S
 .have e1:ab .i64 (x.n+y.n)=x.n+y.n:=a4 _ (by omega);have O:c9 20 x y z=(x.k==0&&y.k==0):=rfl;refine F.au λA j=>?_;rw [e1];refine j.aA (iT _ A) ?_;rintro _ D rfl q;refine ⟨_,_,_,rfl,q.aA (qc x D) ?_⟩;rintro _ G rfl h;refine ⟨_,rfl,aO (λB=>h.aA (qc y G) ?_) (λB=>?_)⟩
  .rintro _ H rfl J;refine ⟨_,rfl,dO J (bI (x.n+y.n)) _ _ (by simp) ?_ (λ_=>rfl) (λ_ _=>rfl)⟩;show _=c9 20 x y z;rw [O,B];rfl
  .refine dO h (bI (x.n+y.n)) _ _ (by simp) ?_ (λu=>by cases u) (λu _=>by cases u);show _=c9 20 x y z;rw [O,beq_eq_false_iff_ne.2 B];rfl
 .have hr:jl ⟨21,kids,e,m,N,M,st⟩ x y z=(ah (0<=m)&&ah (m<=e)&&ah (e<x.n)):=rfl;refine F.au λA j=>⟨_,(C j).c2,_,(C j).c3,_,(C j).c3,j.aA (iT _ A) ?_⟩;rintro _ D rfl q;refine ⟨_,_,_,rfl,(C q).c3,q.aA (qc x D) ?_⟩;rintro _ G rfl h;refine ⟨_,rfl,(C h).c3,aR (λE=>⟨_,(C h).c3,_,(C h).c2,aR (λP=>⟨_,(C h).c2,dO h (bI _) _ _ (by simp) rfl (λ_=>?_) (λ_ K=>?_)⟩) (λP=>dO h (bI _) _ _ (by simp) rfl (λ_=>?_) (λ_ u=>by cases u))⟩) (λE=>dO h (bI _) _ _ (by simp) rfl (λ_=>?_) (λ_ u=>by cases u))⟩
  .rw [hr,aW (show 0<=m from E),aW (show m<=e from P)];rfl
  .have E:0<=m:=E;have P:m<=e:=P;have K:e<x.n:=ef K;show bI (ab .i64 (ab .i64 (e - m)+1))=bI (e - m+1);rw [a4 (e - m) (by omega),a4 _ (by omega)]
  .rw [hr,a0 (show ¬m<=e from P),Bool.and_false];rfl
  .rw [hr,a0 (show ¬0<=m from E)];rfl
 iterate 2
  .have ae:ab .i64 (64 - x.n)=64 - x.n:=a4 _ (by omega);refine F.au λA j=>⟨_,(C j).c2,_,(C j).c2,j.aA (iT _ A) ?_⟩;rintro _ D rfl q;refine ⟨_,_,_,rfl,(C q).c2,q.aA (qc x D) ?_⟩;rintro _ G rfl h;refine ⟨_,rfl,(C h).c2,aR (λE=>⟨_,(C h).c2,dO h (bI _) _ _ (by simp) rfl (λ_=>?_) (λ_ K=>?_)⟩) (λE=>dO h (bI _) _ _ (by simp) rfl (λ_=>?_) (λ_ u=>by cases u))⟩
   .show _=(ah (1<=e)&&ah (e<=64 - x.n));rw [ae,aW (show 1<=e from E)];rfl
   .have E:1<=e:=E;rw [ae] at K;have K:e<=64 - x.n:=ef K;show bI (ab .i64 (x.n+e))=bI (x.n+e);rw [a4 _ (by omega)]
   .show _=(ah (1<=e)&&ah (e<=64 - x.n));rw [a0 (show ¬1<=e from E)];rfl
def Ur {x y z:bq} (e:dR x=true):c9 25 x y z=(ah (y=bI x.x)&&(if x.k=3 then z.k==1&&ah (z.n<=x.n) else ah (z=hj x))):=by
 show (dR x&&ah (y=bI x.x)&&(ah (z=hj x)||(x.k==3&&z.k==1&&ah (z.n<=x.n))))=_;rw [e,Bool.true_and];congr 1;by_cases c:x.k=3
 .rw [aq c,c];have h:hj x=eH x.n:=by unfold hj;rw [af (by omega)]
  rw [h];by_cases d:z=eH x.n
  .subst d;simp [eH]
  .rw [a0 d];rfl
 .rw [af c,beq_eq_false_iff_ne.2 c];simp
def UD {w:I} {p:Addr} {d:Nd} {x y z:bq} (E:dn w p d) (h4:24<=d.x.op) (ag:d.x.op<=26):
  ai U Cp #[.pointer (some p),dx x,dx y,dx z] w λr G=>iC (g7 d.x x y z) (hM d.x x y z) r/\ao w G:=by
 refine yG.aD _ _ _ _ _ _ _ _ _ _ w _ ((wO E).aL λH w1 H1=>H1.aL λT w2 H2=>H2.aL λJ w3 H3=>H3.aL λK w4 Q=>?_);have ad:∀{N:I} {L:List En},LH F0 w N L [.fZ p d]->dn N p d:=λae=>ae.getD 0;refine ⟨_,(ad Q).c0,aO (λM=>Q.au λN H5=>H5.aA (iT x.x N) ?_) (λM=>Q.aA (iT x.n w4) ?_)⟩
 .rintro _ w6 rfl S;refine ⟨_,_,_,rfl,S.aA (D5 x w6) ?_⟩;rintro _ B rfl c;have fe:c9 d.x.op x y z=(dR x&&ah (x=y)):=by rw [M];rfl
  have A:jl d.x x y z=true:=by unfold jl;rw [M];rfl
  have C:g7 d.x x y z=bI x.x:=by unfold g7;rw [M];rfl
  refine ⟨_,rfl,bE (λh=>?_) (λh=>?_)⟩
  .refine dO c (bI x.x) _ true (by omega) ?_ (λ_=>A.symm) (λ_ _=>C.symm);rw [fe,jW,h];rfl
  .refine dO c (bI x.x) _ true (by omega) ?_ (λ_=>A.symm) (λ_ _=>C.symm);rw [fe,h];rfl
 rintro _ w6 rfl S;have A:jl d.x x y z=true:=by unfold jl;rw [af (by omega),af (by omega),af (by omega),af (by omega),af (by omega)]
 have S1:∀(t:bq) (j:Nat) (f:Bool) (B:I),f=(dR x&&ah (y=bI x.x))->(dR x=true->t=hj x)->LH F0 w B [.g H,.g T,.g J,.g K,.g j] [.fZ p d]->yG.a2 p H x.k x.n x.x J z.k z.n z.x K 0 0 0 j t.k t.n t.x f B λr G=>iC (g7 d.x x y z) (hM d.x x y z) r/\ao w G:=by
  intro t j f B q F c;refine ⟨_,(ad c).c0,aO (λY=>?_) (λY=>?_)⟩
  .refine dO c t f true (by omega) ?_ (λ_=>A.symm) (λhh _=>?_)
   .rw [q,Y];rfl
   .rw [q] at hh;simp only [bn] at hh;rw [F hh.1];unfold g7;rw [Y];rfl
  have Z:d.x.op=25:=by omega
  have C:g7 d.x x y z=x:=by unfold g7;rw [Z];rfl
  have ff:f=false->c9 d.x.op x y z=false:=λE=>by rw [Z];show (dR x&&ah (y=bI x.x)&&(ah (z=hj x)||(x.k==3&&z.k==1&&ah (z.n<=x.n))))=_;rw [<-q,E];rfl
  have ft:f=true->dR x=true/\c9 d.x.op x y z=(if x.k=3 then z.k==1&&ah (z.n<=x.n) else ah (z=hj x)):=λE=>by rw [E] at q;have q:=q.symm;simp only [bn] at q;refine ⟨q.1,?_⟩;rw [Z,Ur q.1,q.2,Bool.true_and]
  refine aO (λh=>bE (λab=>c.au λu e=>e.aA (iU z u) ?_) (λaa=>c.au λu e=>dO e x _ true (by omega) (ff aa).symm (λ_=>A.symm) (λ_ _=>C.symm))) (λh=>bE (λab=>c.au λu e=>dO e x _ true (by omega) ?_ (λ_=>A.symm) (λ_ _=>C.symm)) (λaa=>c.au λu e=>dO e x _ true (by omega) (ff aa).symm (λ_=>A.symm) (λ_ _=>C.symm)))
  .rintro _ O rfl D;have:=(ft ab).2;rw [aq h] at this;refine ⟨_,rfl,aO (λhz=>dO D x _ true (by omega) ?_ (λ_=>A.symm) (λ_ _=>C.symm)) (λhz=>dO D x _ true (by omega) ?_ (λ_=>A.symm) (λ_ _=>C.symm))⟩
   .rw [this,hz];rfl
   .rw [this,beq_eq_false_iff_ne.2 hz];rfl
  .have W:=ft ab;rw [af h] at W;rw [W.2,jW,F W.1]
 have S0:∀(t:bq) (j:Nat) (B:I),(dR x=true->t=hj x)->LH F0 w B [.g H,.g T,.g J,.g K,.g j] [.fZ p d]->yG.aQ p H x.k x.n x.x T y.k y.n y.x J z.k z.n z.x K 0 0 0 j t.k t.n t.x B λr G=>iC (g7 d.x x y z) (hM d.x x y z) r/\ao w G:=by intro t j B F c;refine c.au λu e=>e.aA (D5 x u) ?_;rintro _ O rfl D;refine ⟨_,rfl,bE (λh=>D.aA (iT x.x O) ?_) (λh=>S1 t j false O (by rw [h];rfl) F D)⟩;rintro _ ac rfl P;exact ⟨_,_,_,rfl,S1 t j _ ac (by rw [h];exact jW y (bI x.x)) F P⟩
 refine ⟨_,_,_,rfl,S.aL λj B c=>aO (λh=>c.au λu e=>e.aA (r8 x.n u) ?_) (λh=>c.au λu e=>S0 (bI x.n) j u (λha=>?_) e)⟩
 .rintro _ O rfl D;exact ⟨_,_,_,rfl,D.au λac P=>S0 (eH x.n) j ac (λ_=>by unfold hj;rw [af (by omega)]) P⟩
 .unfold dR at ha;simp only [Bool.or_eq_true,beq_iff_eq] at ha;unfold hj;rw [aq (by omega)]
def vB (t:ByteArray):Prop:=∀c,ai U xP #[.string t] c λr d=>r=V (.bool (jG t))/\ao c d
def UN {w:I} {p:Addr} {d:Nd} {x y z:bq} (u:dn w p d) (ae:27<=d.x.op) (ag:d.x.op<=34) (hx:nL x) (hy:nL y) (hz:nL z) (Z:d.x.op=33->vB d.x.tx):
  ai U Cs #[.pointer (some p),dx x,dx y,dx z] w λr w'=>iC (g7 d.x x y z) (hM d.x x y z) r/\ao w w':=by
 refine LG.aD _ _ _ _ _ _ _ _ _ _ w _ ((wO u).aL λb5 w1 H1=>H1.aL λb6 w2 H2=>H2.aL λb7 w3 H3=>H3.aL λb8 w4 H=>?_);obtain ⟨⟨F,kids,C,m,J,G,st⟩,T⟩:=d;have N:∀{j:I} {L:List En},LH F0 w j L [.fZ p ⟨⟨F,kids,C,m,J,G,st⟩,T⟩]->dn j p ⟨⟨F,kids,C,m,J,G,st⟩,T⟩:=λaa=>aa.getD 0;simp only at ae ag Z;refine ⟨F,(N H).c0,?_⟩;obtain ⟨ak,al⟩:=hx;obtain ⟨am,an⟩:=hy;obtain ⟨ap,ar⟩:=hz;have aj:F=27\/F=28\/F=29\/F=30\/F=31\/F=32\/F=33\/F=34:=by omega
 rcases aj with rfl|rfl|rfl|rfl|rfl|rfl|rfl|rfl;all_goals repeat (first |refine a9 rfl ?_|refine bd rfl ?_)
 .refine H.au λj q=>q.aA (iT 7 j) ?_;rintro _ A rfl e;refine ⟨_,_,_,rfl,e.aA (iU x A) ?_⟩;rintro _ E rfl c;exact ⟨_,rfl,dO c (bI 7) _ true (by simp) rfl (λ_=>rfl) (λ_ _=>rfl)⟩
 .have hr:jl ⟨28,kids,C,m,J,G,st⟩ x y z=(ah (0<=C)&&ah (C<=63)):=rfl;refine H.au λj q=>⟨_,(N q).c2,q.aA (iT 8 j) ?_⟩;rintro _ A rfl e;refine ⟨_,_,_,rfl,(N e).c2,e.aA (iU x A) ?_⟩;rintro _ E rfl c;refine ⟨_,rfl,(N c).c2,aR (λQ=>⟨_,(N c).c2,dO c (bI 8) _ _ (by simp) rfl (λ_=>?_) (λ_ _=>rfl)⟩) (λQ=>dO c (bI 8) _ _ (by simp) rfl (λ_=>?_) (λ_ u=>by cases u))⟩
  .rw [hr,aW (show 0<=C from Q),Bool.true_and];exact decide_eq_decide.2 (by show C<64↔C<=63;omega)
  .rw [hr,a0 (show ¬0<=C from Q)];rfl
 .have P:ab .i64 (x.n+y.n)=x.n+y.n:=a4 _ (by omega);have B:c9 29 x y z=(x.k==1&&y.k==1):=rfl;refine H.au λj q=>?_;rw [P];refine q.aA (r8 _ j) ?_;rintro _ A rfl e;refine ⟨_,_,_,rfl,e.aA (iU x A) ?_⟩;rintro _ E rfl c;refine ⟨_,rfl,aO (λh=>c.aA (iU y E) ?_) (λh=>?_)⟩
  .rintro _ K rfl D;refine ⟨_,rfl,dO D (eH (x.n+y.n)) _ _ (by simp) ?_ (λ_=>rfl) (λ_ _=>rfl)⟩;show _=c9 29 x y z;rw [B,h];rfl
  .refine dO c (eH (x.n+y.n)) _ _ (by simp) ?_ (λu=>by cases u) (λu _=>by cases u);show _=c9 29 x y z;rw [B,beq_eq_false_iff_ne.2 h];rfl
 .have B:c9 30 x y z=(x.k==1&&ah (y=bI 7)&&ah (z=bI 7)):=rfl;refine H.au λj q=>q.aA (iU x j) ?_;rintro _ A rfl e;refine ⟨_,rfl,aO (λh=>e.aA (iT 7 A) ?_) (λh=>dO e x _ true (by simp) ?_ (λ_=>rfl) (λ_ _=>rfl))⟩
  .rintro _ E rfl c;refine ⟨_,_,_,rfl,lF (a:=y) (b:=bI 7) (λM=>c.aA (iT 7 E) ?_) (λM=>dO c x _ true (by simp) ?_ (λ_=>rfl) (λ_ _=>rfl))⟩
   .rintro _ K rfl D;refine ⟨_,_,_,rfl,dO D x _ true (by simp) ?_ (λ_=>rfl) (λ_ _=>rfl)⟩;show _=c9 30 x y z;rw [B,h,aW M];exact jW z (bI 7)
   .show _=c9 30 x y z;rw [B,a0 M,Bool.and_false];rfl
  .show _=c9 30 x y z;rw [B,beq_eq_false_iff_ne.2 h];rfl
 .have B:c9 31 x y z=(x.k==1&&y.k==1):=rfl;refine H.au λj q=>q.aA (iT 7 j) ?_;rintro _ A rfl e;refine ⟨_,_,_,rfl,e.aA (iU x A) ?_⟩;rintro _ E rfl c;refine ⟨_,rfl,aO (λh=>c.aA (iU y E) ?_) (λh=>?_)⟩
  .rintro _ K rfl D;refine ⟨_,rfl,dO D (bI 7) _ true (by simp) ?_ (λ_=>rfl) (λ_ _=>rfl)⟩;show _=c9 31 x y z;rw [B,h];rfl
  .refine dO c (bI 7) _ true (by simp) ?_ (λ_=>rfl) (λ_ _=>rfl);show _=c9 31 x y z;rw [B,beq_eq_false_iff_ne.2 h];rfl
 .have P:ab .i64 (x.n+z.n)=x.n+z.n:=a4 _ (by omega);have B:c9 32 x y z=(x.k==1&&y.k==1&&z.k==1):=rfl;refine H.au λj q=>?_;rw [P];refine q.aA (r8 _ j) ?_;rintro _ A rfl e;refine ⟨_,_,_,rfl,e.aA (iU x A) ?_⟩;rintro _ E rfl c;have no:∀{K:I} {L:List En} {bs ac:List Nat},LH F0 w K L [.fZ p ⟨⟨32,kids,C,m,J,G,st⟩,T⟩]->(∀b∈bs,En.g b∈L)->c9 32 x y z=false->cU ac U dm #[dx (eH (x.n+z.n)),.bool false,.bool (ah (x.n+z.n<=64))] K λr j=>∃a b W Y:Int,r=V (.tuple #[.agg #[.i a,.i b,.i W],.i Y])/\loc bs j λA=>iC (g7 ⟨32,kids,C,m,J,G,st⟩ x y z) (hM ⟨32,kids,C,m,J,G,st⟩ x y z) (V (.tuple #[.agg #[.i a,.i b,.i W],.i Y]))/\ao w A:=λD hb hf=>dO D _ _ _ (by simp) hf.symm (λu=>by cases u) (λu _=>by cases u) hb;refine ⟨_,rfl,aO (λh=>c.aA (iU y E) ?_) (λh=>no c (by simp) ?_)⟩
  .rintro _ K rfl D;refine ⟨_,rfl,aO (λS=>D.aA (iU z K) ?_) (λS=>no D (by simp) ?_)⟩
   .rintro _ w9 rfl H9;refine ⟨_,rfl,dO H9 (eH (x.n+z.n)) _ _ (by simp) ?_ (λ_=>rfl) (λ_ _=>rfl)⟩;show _=c9 32 x y z;rw [B,h,S];rfl
   .rw [B,beq_eq_false_iff_ne.2 S,Bool.and_false];rfl
  .rw [B,beq_eq_false_iff_ne.2 h];rfl
 .have B:c9 33 x y z=(x.k==1):=rfl;have ad:jl ⟨33,kids,C,m,J,G,st⟩ x y z=true:=rfl;refine H.aA (iU x w4) ?_;rintro _ j rfl q;refine ⟨_,rfl,dM (λh=>q.au λA e=>⟨⟨x,9,rfl,?_,λu=>?_⟩,e.fr⟩) (λh=>⟨G,(N q).c5,q.aA (Z rfl j) ?_⟩)⟩
  .unfold hM;rw [show c9 (33:Int) x y z=false from h];rfl
  .unfold hM at u;rw [show c9 (33:Int) x y z=false from h] at u;cases u
  .rintro _ A rfl e;have M:hM ⟨33,kids,C,m,J,G,st⟩ x y z=if jG G=false then 2 else 0:=by unfold hM;rw [show c9 (33:Int) x y z=true from h,ad];simp
   refine ⟨_,rfl,dM (λO=>e.au λE c=>⟨⟨x,2,rfl,?_,λu=>?_⟩,c.fr⟩) (λO=>e.aA (iT 1 A) ?_)⟩
   .rw [M,aq O]
   .rw [M,aq O] at u;cases u
   .rintro _ E rfl c;exact ⟨_,_,_,rfl,c.au λK D=>⟨⟨bI 1,0,rfl,by rw [M,af (by rw [O];simp)],λ_=>rfl⟩,D.fr⟩⟩
 .refine H.au λj q=>q.aA (r8 1 j) ?_;rintro _ A rfl e;refine ⟨_,_,_,rfl,e.aA (iT 8 A) ?_⟩;rintro _ E rfl c;exact ⟨_,_,_,rfl,dO c (eH 1) _ true (by simp) (jW x (bI 8)) (λ_=>rfl) (λ_ _=>rfl)⟩
def Pz (u n:Int) (h:0<=u) (k:0<=n) (w:n<64):((Int.fdiv u (2^(min (ag n) (IntKind.bits .u64)))) !=0)=ah (2^n.toNat<=u):=by
 have e:min (ag n) (IntKind.bits .u64)=n.toNat:=by show min n.toNat 64=_;omega
 rw [e];have c:(0:Int)<2^n.toNat:=Int.pow_pos (by decide);generalize (2:Int)^n.toNat=q at c;have j:=Int.fdiv_eq_ediv_of_nonneg u (by omega:0<=q);rw [j];by_cases d:q<=u
 .rw [aW d];have:1<=u / q:=by rw [Int.le_ediv_iff_mul_le c];omega
  simp only [bne_iff_ne,ne_eq];omega
 .rw [a0 d];rw [Int.ediv_eq_zero_of_lt h (by omega)];rfl
def UI {w:I} {p:Addr} {d:Nd} (g:List Nx) (q:dn w p d) (P:1<=d.x.op) (Z:d.x.op<=3) (hu:0<=d.x.u):
  ai U Cr #[.pointer (some p)] w λr T=>iC (cy g d.x).1 (cy g d.x).2 r/\ao w T:=by
 refine D9.aD _ w _ ((wO q).aL λE W y=>?_);have c:∀{z:I} {L:List En},LH F0 w z L [.fZ p d]->dn z p d:=λaa=>aa.getD 0;have er:∀(t:bq) (e:Int) (z:I),e≠0->(cy g d.x)=(cF,e)->LH F0 w z [.g E] [.fZ p d]->loc [E] z λH=>iC (cy g d.x).1 (cy g d.x).2 (V (.tuple #[.agg #[.i t.k,.i t.n,.i t.x],.i e]))/\ao w H:=λt e z h0 B N=>N.au λH O=>⟨⟨t,e,rfl,by rw [B],λq=>by rw [B] at q;exact absurd q h0⟩,O.fr⟩;have ok:∀(t:bq) (z:I),(cy g d.x)=(t,0)->LH F0 w z [.g E] [.fZ p d]->loc [E] z λH=>iC (cy g d.x).1 (cy g d.x).2 (V (.tuple #[.agg #[.i t.k,.i t.n,.i t.x],.i 0]))/\ao w H:=λt z B N=>N.au λH O=>⟨⟨t,0,rfl,by rw [B],λ_=>by rw [B]⟩,O.fr⟩;refine ⟨_,(c y).c0,aO (λJ=>?_) (λJ=>?_)⟩
 .refine ⟨_,(c y).c5,aR (λhs=>⟨_,_,_,(c y).s0,(c y).s1,(c y).s2,er d.x.st 5 W (by decide) ?_ y⟩) (λhs=>⟨_,(c y).c5,y.aA (r8 _ W) ?_⟩)⟩
  .unfold cy;rw [aq J,aq (by omega)]
  .rintro _ G rfl j;refine ⟨_,_,_,rfl,ok (eH d.x.tx.size) G ?_ j⟩;unfold cy;rw [aq J,af (by omega)]
 have A:cy g d.x=if bT d.x.st=false then (cF,9) else
   if d.x.op=1/\d.x.st.k≠0\/d.x.op=3/\dR d.x.st=false then (cF,9) else
   if d.x.op=1/\mU d.x.u d.x.st.n=true then (cF,5) else (d.x.st,0):=by
  unfold cy;rw [af J,af (λq=>by omega)];have:¬(d.x.op=0/\qf g d.x=true):=λq=>by omega
  simp only [this,if_false]
 refine ⟨_,_,_,(c y).s0,(c y).s1,(c y).s2,y.aA (Lf d.x.st W) ?_⟩;rintro _ G rfl j;refine ⟨_,rfl,DE (λF=>⟨_,_,_,(c j).s0,(c j).s1,(c j).s2,?_⟩) (λF=>?_)⟩
 .have:gD d.x.st=9:=by unfold gD;rw [F];rfl
  rw [this];exact er d.x.st 9 G (by decide) (by rw [A,aq F]) j
 rw [af (by rw [F];simp)] at A;refine ⟨_,(c j).c0,aO (λZ=>⟨_,_,_,(c j).s0,(c j).s1,(c j).s2,j.aA (D5 d.x.st G) ?_⟩) (λab=>?_)⟩
 .rintro _ D rfl h;refine ⟨_,rfl,dM (λQ=>⟨_,_,_,(c h).s0,(c h).s1,(c h).s2,er d.x.st 9 D (by decide) ?_ h⟩) (λQ=>⟨_,_,_,(c h).s0,(c h).s1,(c h).s2,ok d.x.st D ?_ h⟩)⟩
  .rw [A,aq (.inr ⟨Z,Q⟩)]
  .rw [A,af (by rintro (q|q);omega;rw [Q] at q;cases q.2),af (by rintro ⟨q,_⟩;omega)]
 have P:d.x.op=1:=by omega
 refine ⟨_,(c j).s0,dG (λM=>⟨_,_,_,(c j).s0,(c j).s1,(c j).s2,er d.x.st 9 G (by decide) ?_ j⟩) (λM=>j.au λD h=>?_)⟩
 .rw [A,aq (.inl ⟨P,M⟩)]
 rw [af (by rintro (q|q);exact q.2 M;omega)] at A;obtain ⟨v1,v2,_⟩:=sa F M;have Y:cy g d.x=(d.x.st,0)->D9.aQ p E 0 0 0 D λr T=>iC (cy g d.x).1 (cy g d.x).2 r/\ao w T:=λB=>⟨_,_,_,(c h).s0,(c h).s1,(c h).s2,ok d.x.st D B h⟩;refine ⟨_,(c h).s1,aR (λK=>⟨_,(c h).c4,_,(c h).s1,by omega,?_⟩) (λK=>Y ?_)⟩
 .rw [Pz _ _ hu (by omega) K];refine aR (λS=>⟨_,_,_,(c h).s0,(c h).s1,(c h).s2,er d.x.st 5 D (by decide) ?_ h⟩) (λS=>Y ?_)
  .rw [A,aq ⟨P,by unfold mU;rw [aW K,aW S];rfl⟩]
  .rw [A,af];rintro ⟨_,C⟩;unfold mU at C;rw [a0 S,Bool.and_false] at C;cases C
 .rw [A,af];rintro ⟨_,C⟩;unfold mU at C;rw [a0 K] at C;cases C
def ly (g:List Nx) (t:ByteArray):dA:=match hD g t with
 |some s=>V (.tuple #[dx s,.bool true])
 |none=>V (.tuple #[dx cF,.bool false])
def UO {w:I} {p:Addr} {d:Nd} {D:List En} (g:List Nx) (E:Fv) (H:LH F0 w w [] (.fZ p d::D)) (hc:gF U E.n=true) (hl:∀B:I,(∀e∈D,e.P B)->ai U E.n (E.bs++#[.string d.x.tx]++E.cs) B λr ac=>r=ly g d.x.tx/\ao B ac) (h0:d.x.op=0):
  ai U Ct #[.pointer (some p),E.v] w λr B=>iC (cy g d.x).1 (cy g d.x).2 r/\ao w B:=by
 have h:∀{q:I} {L:List En},LH F0 w q L (.fZ p d::D)->dn q p d:=λH=>H.getD 0;have y:cy g d.x=if jO (bl d.x.tx)=false then (cF,6) else if bT d.x.st=false then (cF,9) else if qf g d.x=true then (cF,8) else (d.x.st,0):=by unfold cy;rw [af (by omega)];simp [h0]
 have fin:∀(e:Int) (q:I) (L:List En) (i:Nat) (b:Nat) (C c1 c2:ae),LH F0 w q L (.fZ p d::D)->L[i]? =some (.c b [C,c1,c2] b3)->cy g d.x=(if e=0 then d.x.st else cF,e)->qa q (aj b) (.i d.x.st.k) (.i d.x.st.n) (.i d.x.st.x) λT=>cr T (aj b) λa0 a1 a2=>iC (cy g d.x).1 (cy g d.x).2 (V (.tuple #[.agg #[.i a0,.i a1,.i a2],.i e]))/\ao w T:=by
  intro e q L i b C c1 c2 u K J;refine u.DT i K λT G=>?_;have Q:(L.set i (.c b [Value.i d.x.st.k,.i d.x.st.n,.i d.x.st.x] b3))[i]? =some (.c b [Value.i d.x.st.k,.i d.x.st.n,.i d.x.st.x] b3):=by rw [List.getElem?_set_self (cD.1 K).1]
  refine ⟨_,_,_,G.ld i 0 Q,G.ld i 1 Q,G.ld i 2 Q,⟨d.x.st,e,rfl,by rw [J],λZ=>?_⟩,G.fr⟩;rw [J] at Z ⊢;rw [aq Z]
 refine D'.ok p E w _ (H.nw λw1 _ W=>⟨_,(h W).c5,W.call (UG d.x.tx w1) ?_⟩);rintro _ w2 rfl z;refine ⟨_,rfl,dM (λS=>⟨_,_,_,(h z).s0,(h z).s1,(h z).s2,fin 6 w2 _ 0 _ _ _ _ z rfl (by rw [y,aq S];rfl)⟩) (λS=>⟨_,_,_,(h z).s0,(h z).s1,(h z).s2,z.call (Lf d.x.st w2) ?_⟩)⟩;rw [af (by rw [S];simp)] at y;rintro _ w3 rfl A;refine ⟨_,rfl,DE (λM=>⟨_,_,_,(h A).s0,(h A).s1,(h A).s2,?_⟩) (λM=>⟨_,(h A).c5,?_⟩)⟩
 .have:gD d.x.st=9:=by unfold gD;rw [M];rfl
  rw [this];exact fin 9 w3 _ 0 _ _ _ _ A rfl (by rw [y,aq M];rfl)
 rw [af (by rw [M];simp)] at y;rw [hc];refine (show cH true _ from ?_);refine A.call (hl w3 (λe J=>A.rd e (ec _ J))) ?_;rintro _ w4 rfl Y;have F:∀(q:I) (L:List En) (C c1 c2:ae),LH F0 w q L (.fZ p d::D)->L[0]? =some (.c w.heap.size [C,c1,c2] b3)->qf g d.x=false->D'.S0 p (aj w.heap.size) q λr B=>iC (cy g d.x).1 (cy g d.x).2 r/\ao w B:=λq L C c1 c2 u K ht=>⟨_,_,_,(h u).s0,(h u).s1,(h u).s2,fin 0 q L 0 _ C c1 c2 u K (by rw [y,af (by rw [ht];simp)];rfl)⟩;unfold qf at y F;unfold ly;cases hs:hD g d.x.tx with
 |none=>
  rw [hs] at y F;refine ⟨cF.k,cF.n,cF.x,false,rfl,Y.nw λq _ u=>u.DT 1 rfl λw8 O=>O.dr λN j=>a9 rfl ?_⟩;exact F N _ _ _ _ j rfl rfl
 |some t=>
  rw [hs] at y F;refine ⟨t.k,t.n,t.x,true,rfl,Y.nw λq _ u=>u.DT 1 rfl λw8 O=>O.dr λN j=>bd rfl ⟨_,_,_,j.ld 1 0,j.ld 1 1,j.ld 1 2,_,_,_,(h j).s0,(h j).s1,(h j).s2,uQ (a:=t) (b:=d.x.st) (λab=>⟨_,_,_,(h j).s0,(h j).s1,(h j).s2,fin 8 N _ 0 _ _ _ _ j rfl ?_⟩) (λaa=>F N _ _ _ _ j rfl ?_)⟩⟩
  .rw [y,aq (by simp [ab])];rfl
  .simp [aa]
def tF:List Int:=[0,0,0,0,1,1,2,2,2,2,2,2,2,2,2,2,2,2,2,3,2,1,1,1,2,3,2,1,1,2,3,2,3,1,1]
abbrev c':En:=.rd ⟨some (aj 0),35,35⟩ (tF.map dp)
def QC {op:Int} (c:0<=op) (d:op<=34):tF[op.toNat]? =some (cM op):=by rcases rK c d with rfl|rfl|rfl|rfl|rfl|rfl|rfl|rfl|rfl|rfl|rfl|rfl|rfl|rfl|rfl|rfl|rfl|rfl|rfl|rfl|rfl|rfl|rfl|rfl|rfl|rfl|rfl|rfl|rfl|rfl|rfl|rfl|rfl|rfl|rfl<;>rfl
section
variable {M:Nat->Prop} {w0 w:I} {L D:List En} {bs:List Nat}
def _root_.Go.W.LH.nB (H:LH M w0 w L D) (i a c:Nat) {b:Nat} {vs:List ae} {T:aG} {v:ae} {K:I->Prop} (hi:L[i]? =some (.c b vs T)) (x:∀k,LH M w0 k (L.set i (.c b (vs.set (a+c) v) T)) D->K k) (j:a+c<vs.length:=by simp [gi]) (h:∀b∈bs,En.g b∈L:=by simp):
  av w (((aj b).add a).add c) v λn=>kept bs w n/\K n:=by rw [add_add];obtain ⟨y,z,B,A⟩:=pY (H.ob i hi) (a+c) (by simpa using j) v;obtain ⟨_,_,u⟩:=H.set (v:=v) i (a+c) hi j;refine ⟨y,z,λd e=>?_,x _ u⟩;refine A.ck d (H.own _ (h d e)) λq=>?_;have:=n5 H hi (vX w b vs T) (h d e);exact this (by rw [q];exact o5.2 rfl)
def _root_.Go.W.LH.u2 (H:LH M w0 w L D) (i a:Nat) {b:Nat} {vs:List ae} {T:aG} {v:ae} {K:I->Prop} (hi:L[i]? =some (.c b vs T)) (h:∀d,LH M w0 d (L.set i (.c b (vs.set a v) T)) D->K d) (k:a<vs.length:=by simp [gi]) (j:∀b∈bs,En.g b∈L:=by simp):
  av w ((aj b).add a) v λe=>kept bs w e/\K e:=by
 have:=H.nB (v:=v) (K:=K) i a 0 hi h k j
 rwa [hf] at this
end
def Ua {g:List Nx} {n:Nx} (d:(cM n.op==(n.kids.length:Int)&&n.kids.all (fc g)&&iN n)=true) (e:¬n.op<=3):bU g n=if hM n (bP g n 0) (bP g n 1) (bP g n 2)≠0 then (cF,hM n (bP g n 0) (bP g n 1) (bP g n 2)) else (g7 n (bP g n 0) (bP g n 1) (bP g n 2),0):=by
 unfold bU hM;rw [d,af (by simp),af e];generalize c9 n.op (bP g n 0) (bP g n 1) (bP g n 2)=a;generalize jl n (bP g n 0) (bP g n 1) (bP g n 2)=b;cases a
 .rfl
 .cases b
  .rfl
  .by_cases c:n.op=33/\jG n.tx=false
   .simp [c]
   .simp [c]
def QU {g:List Nx} {n:Nx} (c:(cy g n).2≠0):cy g n=(cF,(cy g n).2):=by
 unfold cy at c ⊢;split
 .split
  .rfl
  .rename_i d q;rw [aq d,af q] at c;exact absurd rfl c
 .rename_i d;rw [af d] at c;split
  .rfl
  .rename_i e;rw [af e] at c;split
   .rfl
   .rename_i h;rw [af h] at c;split
    .rfl
    .rename_i j;rw [af j] at c;split
     .rfl
     .rename_i k;rw [af k] at c;split
      .rfl
      .rename_i u;rw [af u] at c;exact absurd rfl c
structure jB (d:Nx):Prop where
 kl:d.kids.length<=1000000000
 n:cp d.n
 m:cp d.m
 u:0<=d.u
 tx:d.op=33->vB d.tx
abbrev sX (a b c:bq):List ae:=gi a++gi b++gi c
def lM (g:List Nx) (n:Nx) (i j:Nat):bq:=if j<i then bP g n j else cF
def QQ {g:List Nx} {n:Nx} {j:Nat} (c:n.kids.length<=j):bP g n j=cF:=by unfold bP;rw [List.getElem?_eq_none c]
def QP {l:List Nd} {n:Nx} {i:Nat} {k:Int} {e:Nd} (d:n.kids[i]? =some k) (c:l[k.toNat]? =some e):bP (xs l) n i=e.x.st:=by unfold bP;rw [d];dsimp only;rw [nK c]
def QO {g:List Nx} {n:Nx} (e:∀c∈g,bT c.st=true) (j:Nat):nL (bP g n j):=by
 unfold bP;split
 .split
  .rename_i d;exact U8 (e _ (List.mem_of_getElem? d))
  .exact IF
 .exact IF
def Li {w:I} {s:O} {l:List Nd} {d:Nd} {D:List En} (Y:Fv) (H:LH F0 w w [] (.gr s l::cc d::c'::D)) (hc:gF U Y.n=true)
  (hl:∀A:I,(∀e∈D,e.P A)->ai U Y.n (Y.bs++#[.string d.x.tx]++Y.cs) A λr aM=>r=ly (xs l) d.x.tx/\ao A aM) (ho:jB d.x) (aT:l.length<=1000000000) (hv:∀e∈xs l,bT e.st=true):
  ai U xR #[s.v,d.v,Y.v] w λr A=>r=fN (bU (xs l) d.x)/\ao w A:=by
 have hn:=fu (be.1 (H.getD 0));have az:(xs l).length=l.length:=by simp [xs]
 have aS:d.ks.n=d.x.kids.length:=bS.len (H.getD 1);have aQ:=ho.kl;refine oJ.aD s _ _ _ _ _ _ _ _ _ Y w _ (H.nw λw1 _ H1=>H1.aL λN w2 H2=>H2.au λQ J=>?_);have y:∀{G:I} {L:List En},LH F0 w G (.c w.heap.size d.c bC::L) (.gr s l::cc d::c'::D)->dn G (aj w.heap.size) d:=λH=>uj (H.ob 0);have J:LH F0 w Q [.c w.heap.size d.c bC,.g N] (.gr s l::cc d::c'::D):=J;have fail:(cM d.x.op==(d.x.kids.length:Int)&&d.x.kids.all (fc (xs l))&&iN d.x)=false->∀{G:I} {L:List En} {bs:List Nat},LH F0 w G L (.gr s l::cc d::c'::D)->(∀b∈bs,En.g b∈L)->loc bs G λM=>(λr A=>r=fN (bU (xs l) d.x)/\ao w A) (V (.tuple #[.agg #[.i 0,.i 0,.i 0],.i 1])) M:=λhf _ _ _ B hb=>B.au (λM C=>⟨by unfold bU;rw [aq hf];rfl,C.fr⟩) hb;have kN:∀ah:Int,ah<0\/34<ah->cM ah=-1:=λah aE=>by unfold cM;rw [aq aE]
 refine ⟨_,(y J).c0,aR (λh0=>fail ?_ J (by simp)) (λh0=>⟨_,(y J).c0,aR (λaF=>fail ?_ J (by simp)) (λaF=>⟨_,(y J).c1,_,(y J).c0,by omega,by show d.x.op<35;omega,cM d.x.op,?_,dG (λad=>fail ?_ J (by simp)) (λam=>?_)⟩)⟩)⟩
 .rw [kN _ (.inl h0),beq_eq_false_iff_ne.2 (by omega)];rfl
 .rw [kN _ (.inr (by omega)),beq_eq_false_iff_ne.2 (by omega)];rfl
 .have hk:bS Q ⟨some (aj 0),35,35⟩ tF:=J.getD 2;exact (show W.ct (some (aj 0)) λp=>Q.cell? (p.add (ag d.x.op *1))=some (.int .i64 (cM d.x.op)) from hk.cell (QC (by omega) (by omega)) rfl λp _ hc=>hc)
 .rw [beq_eq_false_iff_ne.2 (by omega)];rfl
 have aJ:(cM d.x.op==(d.x.kids.length:Int))=true:=by rw [beq_iff_eq];omega
 have aP:d.x.kids.length<=3:=by
  have:cM d.x.op<=3:=by unfold cM;repeat' split<;>omega
  omega
 refine J.nw λw4 _ H4=>⟨_,(y H4).c1,?_⟩;have loop:∀(m i:Nat) (G:I),i+m=d.x.kids.length->d.x.kids.all (fc (xs l))=(d.x.kids.drop i).all (fc (xs l))->LH F0 w G [.c w.heap.size d.c bC,.g N,.c Q.heap.size (sX (lM (xs l) d.x i 0) (lM (xs l) d.x i 1) (lM (xs l) d.x i 2)) vh] (.gr s l::cc d::c'::D)->
   oJ.b6 s Y (aj w.heap.size) N 0 0 0 (aj Q.heap.size) ((d.ks.n:Nat):Int) (i:Int) G λr A=>r=fN (bU (xs l) d.x)/\ao w A:=by
  intro m;induction m with
  |zero=>
   intro i G hi Z B;rw [dt (by omega)] at Z;have e0:∀F,lM (xs l) d.x i F=bP (xs l) d.x F:=λF=>by
    unfold lM;split
    .rfl
    .exact (QQ (by omega)).symm
   rw [e0,e0,e0] at B;refine oJ.eV _ _ _ _ _ _ _ _ _ _ _ _ (a9 (a0 (by omega)) (B.aA (UF (y B)) ?_));rintro _ M rfl C;refine ⟨_,rfl,dM (λhf=>fail (by rw [hf,Bool.and_false]) C (by simp)) (λhf=>C.aL λac w7 h=>?_)⟩;have ar:(cM d.x.op==(d.x.kids.length:Int)&&d.x.kids.all (fc (xs l))&&iN d.x)=true:=by rw [aJ,Z,hf];rfl
   have h:LH F0 w w7 [.c w.heap.size d.c bC,.g N,.c Q.heap.size (sX (bP (xs l) d.x 0) (bP (xs l) d.x 1) (bP (xs l) d.x 2)) vh,.g ac] (.gr s l::cc d::c'::D):=h;have fin:∀(T:bq) (E:Int) (t:bq) (e:Int) (j:I),bU (xs l) d.x=(if E≠0 then (cF,E) else (T,0))->e=E->(E=0->t=T)->LH F0 w j [.c w.heap.size d.c bC,.g N,.c Q.heap.size (sX (bP (xs l) d.x 0) (bP (xs l) d.x 1) (bP (xs l) d.x 2)) vh,.g ac] (.gr s l::cc d::c'::D)->
     loc [N,ac] j λw9=>oJ.bh N 0 0 0 ac t.k t.n t.x e w9 λr A=>r=fN (bU (xs l) d.x)/\ao w A:=by intro T E t e j hs z K q;subst z;refine q.au λw9 H9=>dG (λad=>H9.au λaN al=>⟨by rw [hs,aq ad];rfl,al.fr⟩) (λh0=>H9.au λaN al=>⟨?_,al.fr⟩);rw [hs,af (by omega),K h0]
   have aC:d.x.op<=3->bU (xs l) d.x=(if (cy (xs l) d.x).2≠0 then (cF,(cy (xs l) d.x).2) else ((cy (xs l) d.x).1,0)):=λh3=>by
    unfold bU;rw [ar,af (by simp),aq h3];split
    .rename_i ad;exact QU ad
    .rename_i am;rw [Decidable.not_not] at am;rw [<-am]
   have aa:=λF=>QO (n:=d.x) hv F;refine ⟨_,(y h).c0,aO (λaw=>?_) (λaw=>⟨_,(y h).c0,aR (λap=>?_) (λap=>⟨_,(y h).c0,aR (λax=>?_) (λax=>⟨_,(y h).c0,aR (λay=>?_) (λay=>?_)⟩)⟩)⟩)⟩
   .have Hv:LH F0 w7 w7 [] (.fZ (aj w.heap.size) d::D):=bZ _ (by
     intro e z;rcases aB.1 z with rfl|z
     .exact y h
     .exact h.rd e (ec _ (ec _ (ec _ z))))
    refine h.aA (UO (xs l) Y Hv hc hl aw) ?_;rintro _ j ⟨t,e,rfl,z,K⟩ q;exact ⟨_,_,_,_,rfl,fin _ _ t e j (aC (by omega)) z K q⟩
   .refine h.aA (UI (xs l) (y h) (by omega) ap ho.u) ?_;rintro _ j ⟨t,e,rfl,z,K⟩ q;exact ⟨_,_,_,_,rfl,fin _ _ t e j (aC ap) z K q⟩
   all_goals
    have rest:=Ua ar (by omega);have S:∀(a c:Nat) (v:ae),(sX (bP (xs l) d.x 0) (bP (xs l) d.x 1) (bP (xs l) d.x 2))[a+c]? =some v->w7.cell? (((aj Q.heap.size).add a).add c)=some v:=λa c v hv=>by rw [add_add];exact h.ld 2 (a+c) rfl hv
    refine ⟨by omega,by decide,(bP (xs l) d.x 0).k,(bP (xs l) d.x 0).n,(bP (xs l) d.x 0).x,S 0 0 _ rfl,S 0 1 _ rfl,S 0 2 _ rfl,by omega,by decide,(bP (xs l) d.x 1).k,(bP (xs l) d.x 1).n,(bP (xs l) d.x 1).x,S 3 0 _ rfl,S 3 1 _ rfl,S 3 2 _ rfl,by omega,by decide,(bP (xs l) d.x 2).k,(bP (xs l) d.x 2).n,(bP (xs l) d.x 2).x,S 6 0 _ rfl,S 6 1 _ rfl,S 6 2 _ rfl,?_⟩
   .refine h.aA (UE (y h) (by omega) ax (aa 0) (aa 1) ho.n ho.m) ?_;rintro _ j ⟨t,e,rfl,z,K⟩ q;exact ⟨_,_,_,_,rfl,fin _ _ t e j rest z K q⟩
   .refine h.aA (UD (y h) (by omega) ay) ?_;rintro _ j ⟨t,e,rfl,z,K⟩ q;exact ⟨_,_,_,_,rfl,fin _ _ t e j rest z K q⟩
   .refine h.aA (UN (y h) (by omega) (by omega) (aa 0) (aa 1) (aa 2) ho.tx) ?_;rintro _ j ⟨t,e,rfl,z,K⟩ q;exact ⟨_,_,_,_,rfl,fin _ _ t e j rest z K q⟩
  |succ m ih=>
   intro i G hi Z B;have hg:d.x.kids[i]? =some (d.x.kids[i]'(by omega)):=bc (by omega);rw [dq (by omega:i<d.x.kids.length),List.all_cons] at Z;generalize d.x.kids[i]'(by omega)=x at hg Z;have bad:fc (xs l) x=false->oJ.aY N 0 0 0 G λr A=>r=fN (bU (xs l) d.x)/\ao w A:=λhx=>fail (by rw [Z,hx];simp) B (by simp);refine oJ.eV _ _ _ _ _ _ _ _ _ _ _ _ (bd (aW (by omega)) ⟨_,(y B).c1,by omega,by omega,(show bS G d.ks d.x.kids from B.getD 1).cell hg (by omega) λp hp aH=>⟨x,aH,aR (λh1=>bad ?_) (λh1=>aR (λh2=>bad ?_) (λh2=>?_))⟩⟩)
   .unfold fc;rw [a0 (by omega)];rfl
   .unfold fc;rw [a0 (show ¬x<((xs l).length:Int) by rw [az];omega)];simp
   have an:l[x.toNat]? =some (l[x.toNat]'(by omega)):=bc (by omega);generalize l[x.toNat]'(by omega)=e at an;have aK:=QP hg an;refine fa (be.1 (B.getD 0)) (i:=x.toNat) (by omega) an λaU hq c=>⟨_,_,_,c.s0,c.s1,c.s2,by omega,by show (i:Int)<3;omega,?_⟩;have aG:d.x.kids.all (fc (xs l))=(d.x.kids.drop (i+1)).all (fc (xs l)):=by rw [Z];unfold fc;rw [aW (show 0<=x by omega),aW (show x<((xs l).length:Int) by rw [az];omega)];rfl
   have ak:∀M,LH F0 w M [.c w.heap.size d.c bC,.g N,.c Q.heap.size (sX (lM (xs l) d.x (i+1) 0) (lM (xs l) d.x (i+1) 1) (lM (xs l) d.x (i+1) 2)) vh] (.gr s l::cc d::c'::D)->oJ.b6 s Y (aj w.heap.size) N 0 0 0 (aj Q.heap.size) ((d.ks.n:Nat):Int) (ab .i64 ((i:Int)+1)) M λr A=>r=fN (bU (xs l) d.x)/\ao w A:=λM C=>by rw [bw _ (by omega)];exact ih (i+1) M (by omega) aG C
   have aI:i=0\/i=1\/i=2:=by omega
   have up:∀F,lM (xs l) d.x (i+1) F=if F=i then e.x.st else lM (xs l) d.x i F:=λF=>by
    unfold lM;by_cases hj:F=i
    .rw [aq hj,aq (by omega),hj,aK]
    .rw [af hj];by_cases av:F<i
     .rw [aq av,aq (by omega)]
     .rw [af av,af (by omega)]
   rw [up 0,up 1,up 2] at ak;rcases aI with rfl|rfl|rfl
   .exact B.u2 2 0 rfl λM C=>C.nB 2 0 1 rfl λw7 h=>h.nB 2 0 2 rfl λj q=>ak j q
   .exact B.u2 2 3 rfl λM C=>C.nB 2 3 1 rfl λw7 h=>h.nB 2 3 2 rfl λj q=>ak j q
   .exact B.u2 2 6 rfl λM C=>C.nB 2 6 1 rfl λw7 h=>h.nB 2 6 2 rfl λj q=>ak j q
 exact loop d.x.kids.length 0 w4 (by omega) (by simp) H4
def UJ {w:I} {s:O} {l:List Nd} {b:Nat} (t:ByteArray) (q:GP w s l) (J:w.heap[b]? =some (.cells [s.v].toArray kV (0,0))) (Q:l.length<=1000000000):
  ai U xK #[.string t,.pointer (some (aj b))] w λr u=>r=ly (xs l) t/\ao w u:=by
 have S:=fu q;have F:LH F0 w w [] [.gr s l,.c b [s.v] kV]:=bZ _ (by
  intro k h;simp only [aB,a1,a7] at h;rcases h with rfl|rfl
  .exact be.2 q
  .exact J)
 have loop:∀(m i:Nat) (e:Nat) (j:I),i+m=l.length->hD (xs l) t=hD ((xs l).drop i) t->LH F0 w j [.g e] [.gr s l,.c b [s.v] kV]->qe.aP t (aj b) e 0 0 0 ((s.n:Nat):Int) (i:Int) j λr u=>r=ly (xs l) t/\ao w u:=by
  intro m;induction m with
  |zero=>
   intro i e j K h d;rw [dt (by simp [xs];omega)] at h;exact qe.bW _ _ _ _ _ _ _ _ _ _ (a9 (a0 (by omega)) (d.au λP z=>⟨by unfold ly;rw [h];rfl,z.fr⟩))
  |succ m N=>
   intro i e j K h d;have y:l[i]? =some (l[i]'(by omega)):=bc (by omega);have M:(xs l).drop i=(l[i]'(by omega)).x::(xs l).drop (i+1):=by rw [dq (by simp [xs];omega:i<(xs l).length)];simp [xs]
   rw [M] at h;generalize l[i]'(by omega)=k at y h;have E:hD (xs l) t=if k.x.op=0/\k.x.tx=t then some k.x.st else hD ((xs l).drop (i+1)) t:=h;have D:¬(k.x.op=0/\k.x.tx=t)->qe.a2 t (aj b) e 0 0 0 ((s.n:Nat):Int) (i:Int) j λr u=>r=ly (xs l) t/\ao w u:=λL=>by show qe.aP t (aj b) e 0 0 0 ((s.n:Nat):Int) (ab .i64 ((i:Int)+1)) j _;rw [bw _ (by omega)];exact N (i+1) e j (by omega) (by rw [E,af L]) d
   refine qe.bW _ _ _ _ _ _ _ _ _ _ (bd (aW (by omega)) ⟨s,d.eh 1 0,fa (be.1 (d.getD 0)) rfl y λp T G=>⟨_,G.c0,aO (λB=>⟨s,d.eh 1 0,fa (be.1 (d.getD 0)) rfl y λZ W H=>⟨_,H.c5,DF (λC=>⟨s,d.eh 1 0,fa (be.1 (d.getD 0)) rfl y λp3 Y A=>⟨_,_,_,A.s0,A.s1,A.s2,d.au λP z=>⟨?_,z.fr⟩⟩⟩) (λC=>D λq=>C q.2)⟩⟩) (λB=>D λq=>B q.1)⟩⟩);unfold ly;rw [E,aq ⟨B,C⟩]
 exact qe.aD t _ w _ (F.aL λe j d=>⟨s,d.eh 1 0,loop l.length 0 e j (by omega) (by simp) d⟩)
def D3 {w:I} {s:O} {l:List Nd} {d:Nd} (F:GP w s l) (G:d.P w) (H:c'.P w) (J:jB d.x) (k:l.length<=1000000000) (K:∀j∈xs l,bT j.st=true):
  ai U uh #[.agg #[s.v],d.v] w λr q=>r=fN (bU (xs l) d.x)/\ao w q:=by
 have y:LH F0 w w [] [.gr s l,cc d,c']:=bZ _ (by
  intro j h;simp only [aB,a1,a7] at h;rcases h with rfl|rfl|rfl
  .exact be.2 F
  .exact G
  .exact H)
 refine Lq.aD _ _ _ _ _ _ _ _ _ _ w _ (y.nw λN _ z=>z.aL λL Q A=>A.aL λM u e=>⟨s,e.ld 0 0,?_⟩);have E:LH F0 u u [] [.gr s l,cc d,c',.gr s l,.c w.heap.size [s.v] kV]:=bZ _ (by
  intro j h;simp only [aB,a1,a7] at h;rcases h with rfl|rfl|rfl|rfl|rfl
  .exact e.getD 0
  .exact e.getD 1
  .exact e.getD 2
  .exact e.getD 0
  .exact e.get 0)
 refine e.aA (Li (D:=[.gr s l,.c w.heap.size [s.v] kV]) ⟨xK,#[],#[.pointer (some (aj w.heap.size))]⟩ E (by kernel_rfl) (λq n=>?_) J k K) ?_
 .exact UJ d.x.tx (be.1 (n (.gr s l) (by simp))) (n (.c w.heap.size [s.v] kV) (by simp)) k
 .rintro _ S rfl B;exact ⟨_,_,_,_,rfl,B.au λT C=>⟨rfl,C.fr⟩⟩
def QD {W:I} (c:laidMetH U [("enthymeme/term.kidCounts",Rows.laid_enthymeme_term_kidCounts)] W):c'.P W:=by
 rw [MakeChecks.laidMetH_plain _ _ _ (by kernel_rfl)] at c;have q:=Go.Lib.tabIs_of_head (k:=.i64) (zs:=tF) (g:=0) (t:=U1) (e:=bX) (n:=35) (by kernel_rfl) (by kernel_rfl) (by kernel_rfl) (by kernel_rfl) (by kernel_rfl) (by kernel_rfl) c;refine ym rfl (bB _) (λc=>by cases c) (λi v d=>⟨aj 0,rfl,?_⟩);have h:i<tF.length:=by have:=(cD.1 d).1;simpa using this
 have j:=q.cell (g:=0) (by kernel_rfl) i h;rw [List.getElem?_map,bc h] at d;rw [List.getD,bc h] at j;simp only [Option.map_some,eT] at d;rw [<-d];rw [show (aj 0).add i=⟨0,i,none⟩ from ET 0 i];exact j
def dF (n:Nat):List UInt8:=if n<128 then [cS n] else cS (n%128+128)::dF (n / 128)
termination_by n
decreasing_by omega
def kF {n:Nat} (c:n<128):dF n=[cS n]:=by rw [dF,aq c]
def lk {n:Nat} (c:¬n<128):dF n=cS (n%128+128)::dF (n / 128):=by rw [dF,af c]
def Pv (n:Nat):dF n≠[]:=by
 by_cases c:n<128
 .rw [kF c];simp
 .rw [lk c];simp
def Gx:∀(d n:Nat),n<2 *128^d->(dF n).length<=d+1
 |0,n,c=>by rw [kF (by omega)];simp
 |d+1,n,c=>by
  by_cases e:n<128
  .rw [kF e];simp
  .rw [lk e];have:=Gx d (n / 128) (by rw [Nat.pow_succ] at c;omega);simp;omega
inductive RU where
 |more
 |form
 |ok (n:Nat) (rest:List UInt8)
def ia (k:Nat) (c:UInt8):Bool:=(k==9&&ah (1<c.toNat))||(ah (0<k)&&c.toNat==0)
def ik:Nat->List UInt8->RU
 |_,[]=>.more
 |d,c::l=>if ia d c then .form else if c.toNat<128 then .ok c.toNat l else
  match ik (d+1) l with
  |.ok e r=>.ok (c.toNat%128+128 *e) r
  |.more=>.more
  |.form=>.form
def Gk:∀(d k n:Nat) (r:List UInt8),k+d=9->n<2 *128^d->(0<k->0<n)->ik k (dF n++r)=.ok n r
 |d,k,n,r,y,j,w=>by
  by_cases e:n<128
  .rw [kF e];have h:ia k (cS n)=false:=by
    have c:(cS n).toNat=n:=by simp;omega
    unfold ia;rw [c];simp;refine ⟨λq=>?_,λu=>by have:=w u;omega⟩;subst q;have:d=0:=by omega
    subst this;simp at j;omega
   have c:(cS n).toNat=n:=by simp;omega
   simp [ik,h,c,e]
  .rw [lk e];have c:(cS (n%128+128)).toNat=n%128+128:=by simp;omega
   match d with
   |0=>simp at j;omega
   |d+1=>
    have h:ia k (cS (n%128+128))=false:=by unfold ia;rw [c];simp;omega
    have x:=Gk d (k+1) (n / 128) r (by omega) (by rw [Nat.pow_succ] at j;omega) (by omega);simp only [List.cons_append,ik,h,c,x];rw [af (by simp),af (by omega)];congr 1;omega
def wb:∀(d k:Nat) (bs:List UInt8) (n:Nat) (r:List UInt8),k+d=9->ik k bs=.ok n r->bs=dF n++r/\n<2 *128^d/\(0<k->0<n)
 |_,_,[],_,_,_,c=>by simp [ik] at c
 |d,k,h::l,n,r,J,c=>by
  have H:=h.toNat_lt;simp only [ik] at c;cases w:ia k h with
  |true=>rw [w] at c;simp at c
  |false=>
   rw [w] at c;simp at c;have e:=w;unfold ia at e;simp at e;by_cases q:h.toNat<128
   .rw [aq q] at c;injection c with x u
    subst x u;refine ⟨by rw [kF q];simp,?_,λD=>by have:=e.2 D;omega⟩
    match d with
    |0=>have:=e.1 (by omega);simp;omega
    |d+1=>rw [Nat.pow_succ];have:=Nat.pow_pos (n:=d) (show 0<128 by omega);omega
   .rw [af q] at c
    match d with
    |0=>have:=e.1 (by omega);omega
    |d+1=>
     cases j:ik (k+1) l with
     |more=>rw [j] at c;cases c
     |form=>rw [j] at c;cases c
     |ok y E=>
      rw [j] at c;injection c with x u
      obtain ⟨z,F,A⟩:=wb d (k+1) l y E (by omega) j;have G:=A (by omega);subst u;refine ⟨?_,by rw [Nat.pow_succ];omega,λ_=>by omega⟩;rw [lk (by omega)];have B:n%128+128=h.toNat:=by omega
      have C:n / 128=y:=by omega
      rw [B,C,z];simp
structure RS where
 bs:List UInt8
 err:Int
def eF (s:RS):Nat×RS:=
 if s.err≠0 then (0,s) else
 match ik 0 s.bs with
 |.more=>(0,⟨s.bs,3⟩)
 |.form=>(0,⟨s.bs,2⟩)
 |.ok c r=>(c,⟨r,0⟩)
def zz (n:Int):Nat:=if 0<=n then (2 *n).toNat else (-(2 *n) - 1).toNat
def mE (u:Nat):Int:=if u%2=0 then (u / 2:Nat) else -((u / 2:Nat):Int) - 1
def U5 (n:Int):mE (zz n)=n:=by unfold mE zz;split<;>split<;>omega
def Vw (u:Nat):zz (mE u)=u:=by unfold mE zz;split<;>split<;>omega
def y6 (n:Int) (c:-9223372036854775808<=n) (d:n<=9223372036854775807):zz n<18446744073709551616:=by unfold zz;split<;>omega
def LY (u:Nat) (c:u<18446744073709551616):-9223372036854775808<=mE u/\mE u<=9223372036854775807:=by unfold mE;split<;>omega
def bQ (s:RS):Int×RS:=(mE (eF s).1,(eF s).2)
def hB (s:RS):Nat×RS:=
 let (n,s'):=eF s
 if s'.err≠0 then (0,s') else if s'.bs.length<n then (0,⟨s'.bs,3⟩) else (n,s')
def hW (s:RS):List UInt8×RS:=
 let (n,s'):=hB s
 if s'.err≠0 then ([],s') else (s'.bs.take n,⟨s'.bs.drop n,0⟩)
def eD:Nat->RS->List Int×RS
 |0,s=>([],s)
 |c+1,s=>
  let (x,s'):=bQ s
  if s'.err≠0 then ([],s') else
  let (l,DC):=eD c s'
  if DC.err≠0 then ([],DC) else (x::l,DC)
def ga (s:RS):List Int×RS:=
 let (n,s'):=hB s
 if s'.err≠0 then ([],s') else eD n s'
def pN (s:RS):Int:=if s.err≠0 then s.err else if 0<s.bs.length then 2 else 0
def cL (n:Int):List UInt8:=dF (zz n)
def hL (b:List UInt8):List UInt8:=dF b.length++b
def g2 (l:List Int):List UInt8:=dF l.length++l.flatMap cL
def hl (n:Nat) (c:n<18446744073709551616):(dF n).length<=10:=Gx 9 n (by simpa using c)
def eM (n:Int) (c:cp n):(cL n).length<=10:=hl _ (y6 n c.1 c.2)
namespace KG
noncomputable abbrev X:Fx:=⟨U,Tryz.f34,[],[]⟩
def ok (c:O) (w:I) (R:aa) (h:Y c.a.isNone (R (V (.slice none 0 0)) w) (aN w (.cells #[] b') λj=>
 ∃(d:O) (e:I),a6 U (bb #[aH,aH] aH #[.slice (some (nb w)) 0 0,c.v]) j=.ok (d.v) e/\R (V (d.v)) e)):ai U xC #[c.v] w R:=aE X [] h
end KG
namespace sd
noncomputable abbrev X:Fx:=⟨U,Tryz.f52,[],[]⟩
abbrev P0:Ps:=[(0,.v [.r]),(1,.v [.U])]
def L0 (d:Addr) (c:Int) (w:I) (R:aa):Prop:=br P0 0 (X.Sem (ak [0,2])) d c w R
noncomputable def aZ:=bD X (ak [0,2]) P0 L0
def b5:∀(c:Addr) (d:Int) (w:I) (R:aa) (u:Y (ah (d>=128)) (∃t10:O,w.cell? (c.add 0)=some (t10.v)/\
 aN w (.cells #[.int .u8 (k9 .u8 (ab .u8 d) 128)] b') λj=>
 ∃(t15:O) (e:I),a6 U (bb #[aH,aH] aH #[t10.v,.slice (some (nb w)) 1 1]) j=.ok (t15.v) e/\av e (c.add 0) (t15.v) λk=>
 L0 c (Int.fdiv d (2^(7))) k R) (∃t24:O,w.cell? (c.add 0)=some (t24.v)/\
 aN w (.cells #[.int .u8 (ab .u8 d)] b') λn=>
 ∃(t28:O) (h:I),a6 U (bb #[aH,aH] aH #[t24.v,.slice (some (nb w)) 1 1]) n=.ok (t28.v) h/\av h (c.add 0) (t28.v) λq=>
 R (V (.tuple #[])) q)),L0 c d w R:=mp (bF (X:=X) [aZ] (ak [0,2]) P0)
def ok (d:Addr) (c:Int) (w:I) (R:aa) (e:L0 d c w R):ai U rH #[.pointer (some d),.u c] w R:=aE X [aZ] e
end sd
namespace Mn
noncomputable abbrev X:Fx:=⟨U,Tryz.f23,[],[]⟩
def ok (d:Addr) (c:Int) (w:I) (R:aa) (e:eX rH #[.pointer (some d),.u (i6 .u64 (ab .u64 ((ab .u64 c) *2^(1))) (ab .u64 (Int.fdiv c (2^(63)))))] w λh=>R (V (.tuple #[])) h):ai U mh #[.pointer (some d),.i c] w R:=aE X [] e
end Mn
namespace oN
noncomputable abbrev X:Fx:=⟨U,Tryz.f53,[],[]⟩
abbrev P0:Ps:=[(0,.v [.r]),(11,.v [.s]),(12,.v [.I]),(13,.v [.I])]
def L0 (c:Addr) (t11:O) (t12 t13:Int) (w:I) (R:aa):Prop:=br P0 0 (X.Sem (ak [0,1,2])) c t11 t12 t13 w R
noncomputable def aZ:=bD X (ak [0,1,2]) P0 L0
def b5:∀(c:Addr) (t11:O) (t12 t13:Int) (w:I) (R:aa) (h:Y (ah (t13<t12)) (aw t11 t13 λd=>∃t16:Int,w.cell? (d.add (ag t13 *1))=some (.i t16)/\
 eX mh #[.pointer (some c),.i t16] w λe=>L0 c t11 t12 (ab .i64 (t13+1)) e R) (R (V (.tuple #[])) w)),L0 c t11 t12 t13 w R:=mp (bF (X:=X) [aZ] (ak [0,1,2]) P0)
def ok (d:Addr) (c:O) (w:I) (R:aa) (e:eX rH #[.pointer (some d),.u (ab .u64 ((c.n:Nat):Int))] w λh=>L0 d c ((c.n:Nat):Int) 0 h R):ai U xW #[.pointer (some d),c.v] w R:=aE X [aZ] e
end oN
namespace Mo
noncomputable abbrev X:Fx:=⟨U,Tryz.f54,[],[]⟩
def ok (c:Addr) (d:ByteArray) (w:I) (R:aa) (j:eX rH #[.pointer (some c),.u (ab .u64 ((d.size:Nat):Int))] w λe=>∃t13:O,e.cell? (c.add 0)=some (t13.v)/\
 ∃(t15:O) (h:I),a6 U (bb #[aH,dy] aH #[t13.v,.string d]) e=.ok (t15.v) h/\av h (c.add 0) (t15.v) λk=>
 R (V (.tuple #[])) k):ai U Cy #[.pointer (some c),.string d] w R:=aE X [] j
end Mo
namespace Mm
noncomputable abbrev X:Fx:=⟨U,Tryz.f25,[],[]⟩
def ok (d:Addr) (w:I) (R:aa) (e:∃c:O,w.cell? (d.add 0)=some (c.v)/\
 kA xC #[c.v] w λh j=>R (V (h.v)) j):ai U xV #[.pointer (some d)] w R:=aE X [] e
end Mm
namespace LJ
noncomputable abbrev X:Fx:=⟨U,Tryz.f24,[],[]⟩
def ok (d c:Addr) (w:I) (R:aa) (A:∃e:Int,w.cell? (c.add 0)=some (.i e)/\
 eX mh #[.pointer (some d),.i e] w λh=>∃t14:O,h.cell? (c.add 1)=some (t14.v)/\
 eX xW #[.pointer (some d),t14.v] h λj=>∃t20:Int,j.cell? (c.add 2)=some (.i t20)/\
 eX mh #[.pointer (some d),.i t20] j λk=>∃t26:Int,k.cell? (c.add 3)=some (.i t26)/\
 eX mh #[.pointer (some d),.i t26] k λn=>∃t32:Int,n.cell? (c.add 4)=some (.u t32)/\
 eX rH #[.pointer (some d),.u t32] n λq=>∃t38:ByteArray,q.cell? (c.add 5)=some (.string t38)/\
 eX Cy #[.pointer (some d),.string t38] q λx=>∃t45:Int,x.cell? ((c.add 6).add 0)=some (.i t45)/\
 eX mh #[.pointer (some d),.i t45] x λy=>∃t52:Int,y.cell? ((c.add 6).add 1)=some (.i t52)/\
 eX mh #[.pointer (some d),.i t52] y λz=>∃t59:Int,z.cell? ((c.add 6).add 2)=some (.i t59)/\
 eX mh #[.pointer (some d),.i t59] z λB=>R (V (.tuple #[])) B):ai U xS #[.pointer (some d),.pointer (some c)] w R:=aE X [] A
end LJ
namespace LB
noncomputable abbrev X:Fx:=⟨U,Tryz.f76,[],[]⟩
def ok (d:Addr) (w:I) (R:aa) (h:aN w (.cells #[.slice none 0 0] nH) λk=>
 eX xS #[.pointer (some (nb w)),.pointer (some d)] k λn=>kA xV #[.pointer (some (nb w))] n λj c=>∃e:ByteArray,a6 U (Go.convert aH dy (j.v)) c=.ok (.string e) c/\R (V (.string e)) c):ai U xQ #[.pointer (some d)] w R:=aE X [] h
end LB
namespace Lu
noncomputable abbrev X:Fx:=⟨U,Tryz.f75,[],[3,5]⟩
def aD (e:ByteArray) (h:Addr) (w:I) (R:aa) (y:aJ [] w λd c=>
 ∃u:Option Addr,c.cell? h=some (.pointer u)/\
 ct u λz=>∃t11:Option Nat,c.cell? (z.add 2)=some (.map t11)/\
 ∃j:Int,∃k:Int,∃n:Int,∃q:Bool,a6 U (Instr.lookup Ei (.map t11) (.string e) true) c=.ok (.tuple #[.agg #[.i j,.i k,.i n],.bool q]) c/\aJ [d] c λx A=>
 loc [d,x] A λB=>R (V (.tuple #[.agg #[.i j,.i k,.i n],.bool q])) B):ai U xO #[.string e,.pointer (some h)] w R:=aE X [] y
end Lu
namespace Lt
noncomputable abbrev X:Fx:=⟨U,Tryz.f49,[(1,ls [0,1,2,3,4,5,6,7,8,9,10])],[3,4]⟩
def aD (h:Addr) (j:Int) (k:O) (n q x:Int) (y:ByteArray) (z A B:Int) (w:I) (R:aa) (E:aN w (.cells #[.pointer (some h)] U2) λL=>
 aJ [] L λc M=>
 aJ [c] M λd N=>
 loc [c,d] N λe=>∃C:Option Addr,e.cell? (nb w)=some (.pointer C)/\
 ct C λK=>∃D:O,e.cell? (K.add 0)=some (D.v)/\
 cE [c,d] xR #[D.v,.agg #[.i j,k.v,.i n,.i q,.u x,.string y,.i z,.i A,.i B],.func (.func xO) #[] #[.pointer (some (nb w))]] e λF G H J P=>loc [c,d] P λQ=>R (V (.tuple #[.agg #[.i F,.i G,.i H],.i J])) Q):ai U Cj #[.pointer (some h),.agg #[.i j,k.v,.i n,.i q,.u x,.string y,.i z,.i A,.i B]] w R:=aE X [] E
end Lt
namespace Ls
noncomputable abbrev X:Fx:=⟨U,Tryz.f50,[(1,ls [0,1,2,3,4,5,6,7,8,9,10])],[]⟩
def ok (d:Addr) (e:Int) (h:O) (j k n:Int) (q:ByteArray) (x y z:Int) (w:I) (R:aa) (D:aN w (.cells #[.i e,h.v,.i j,.i k,.u n,.string q,.i x,.i y,.i z] bC) λE=>
 bY E λC=>∃t12:Option Nat,C.cell? (d.add 1)=some (.map t12)/\
 qQ xQ #[.pointer (some (nb w))] C λt13 c=>c.cell? (d.add 1)=some (.map t12)/\∃A:Int,∃B:Bool,a6 U (Instr.lookup Ej (.map t12) (.string t13) true) c=.ok (.tuple #[.i A,.bool B]) c/\R (V (.tuple #[.i A,.bool B])) c):ai U Ci #[.pointer (some d),.agg #[.i e,h.v,.i j,.i k,.u n,.string q,.i x,.i y,.i z]] w R:=aE X [] D
end Ls
namespace D7
noncomputable abbrev X:Fx:=⟨U,Tryz.f51,[(1,ls [0,1,2,3,5,6,7,8,9,4,10]),(3,ls [0,1,2,3,4,5,6,7,8]),(4,ls [0,1,2,3,4,5,6,7,8,9,10])],[]⟩
abbrev S0 (c k:Addr) (w:I) (R:aa):Prop:=
 bY w λd=>∃t30:O,d.cell? (c.add 0)=some (t30.v)/\
 lu d k λq x y z A B C D E=>aN d (.cells #[.i q,x.v,.i y,.i z,.u A,.string B,.i C,.i D,.i E] bC) λe=>
 e.cell? (c.add 0)=some (t30.v)/\∃(t33:O) (h:I),a6 U (bb #[dZ,dZ] dZ #[t30.v,.slice (some (nb d)) 1 1]) e=.ok (t33.v) h/\av h (c.add 0) (t33.v) λj=>
 ∃t39:O,j.cell? (c.add 0)=some (t39.v)/\
 R (V (.i (ab .i64 (((t39.n:Nat):Int) - 1)))) j
noncomputable def bf:=aC X [] (ak [3]) [(0,.v [.r]),(3,.v [.r])] S0
def ok (c:Addr) (q:Int) (x:O) (y z A:Int) (B:ByteArray) (C D E:Int) (w:I) (R:aa) (G:aN w (.cells #[.i q,x.v,.i y,.i z,.u A,.string B,.i C,.i D,.i E] bC) λM=>
 bY M λj=>∃h:Option Nat,j.cell? (c.add 1)=some (.map h)/\
 ∃t13:O,j.cell? (c.add 0)=some (t13.v)/\
 qQ xQ #[.pointer (some (nb w))] j λL k=>k.cell? (c.add 0)=some (t13.v)/\k.cell? (c.add 1)=some (.map h)/\∃(d:I),a6 U (Instr.mapUpdate Ej (.map h) (.string L) (.i ((t13.n:Nat):Int))) k=.ok () d/\∃t16:Int,d.cell? ((nb w).add 0)=some (.i t16)/\
 Y (t16==0) (bY d λe=>∃t21:Option Nat,e.cell? (c.add 2)=some (.map t21)/\
 ∃t23:ByteArray,e.cell? ((nb w).add 5)=some (.string t23)/\
 cr e ((nb w).add 6) λH J K=>∃(F:I),a6 U (Instr.mapUpdate Ei (.map t21) (.string t23) (.agg #[.i H,.i J,.i K])) e=.ok () F/\S0 c (nb w) F R) (S0 c (nb w) d R)):ai U xN #[.pointer (some c),.agg #[.i q,x.v,.i y,.i z,.u A,.string B,.i C,.i D,.i E]] w R:=aE X [bf] G
end D7
namespace u'
noncomputable abbrev X:Fx:=⟨U,Tryz.f48,[],[1,5]⟩
abbrev P0:Ps:=[(3,.v [.r]),(11,.v [.s]),(12,.v [.I]),(13,.v [.I])]
def aP (c:Addr) (t11:O) (t12 t13:Int) (w:I) (R:aa):Prop:=br P0 0 (X.Sem (ak [0,1,1,1,2])) c t11 t12 t13 w R
noncomputable def aZ:=bD X (ak [0,1,1,1,2]) P0 aP
def bW:∀(c:Addr) (t11:O) (t12 t13:Int) (w:I) (R:aa) (E:Y (ah (t13<t12)) (aw t11 t13 λe=>lu w (e.add (ag t13 *9)) λh j k n q x y z A=>aJ [] w λd D=>
 loc [d] D λB=>b0 [d] xN #[.pointer (some c),.agg #[.i h,j.v,.i k,.i n,.u q,.string x,.i y,.i z,.i A]] B λt19 C=>aP c t11 t12 (ab .i64 (t13+1)) C R) (R (V (.pointer (some c))) w)),aP c t11 t12 t13 w R:=mp (bF (X:=X) [aZ] (ak [0,1,1,1,2]) P0)
def aD (c:O) (w:I) (R:aa) (j:aJ [] w λq d=>
 aN d (.map #[] 0) λe=>
 aN e (.map #[] 0) λh=>
 aN h (.cells #[.slice none 0 0,.map (some d.heap.size),.map (some e.heap.size)] qh) λk=>
 aP (nb h) c ((c.n:Nat):Int) 0 k R):ai U Cm #[.agg #[c.v]] w R:=aE X [aZ] j
end u'
namespace u7
noncomputable abbrev X:Fx:=⟨U,Tryz.f22,[],[1,5,6]⟩
abbrev P0:Ps:=[(3,.v [.p]),(17,.v [.s]),(18,.v [.I]),(19,.v [.I])]
def aP (c:Option Addr) (t17:O) (t18 t19:Int) (w:I) (R:aa):Prop:=br P0 0 (X.Sem (ak [0,1,1,1,3])) c t17 t18 t19 w R
noncomputable def aZ:=bD X (ak [0,1,1,1,3]) P0 aP
def bW:∀(d:Option Addr) (t17:O) (t18 t19:Int) (w:I) (R:aa) (Q:Y (ah (t19<t18)) (aw t17 t19 λF=>lu w (F.add (ag t19 *9)) λq x y z A B j k n=>aJ [] w λc P=>
 loc [c] P λL=>cE [c] Cj #[.pointer d,.agg #[.i q,x.v,.i y,.i z,.u A,.string B,.i j,.i k,.i n]] L λG H J D M=>aJ [c] M λe C=>
 Y (D !=0) (loc [c,e] C λh=>R (V (.i D)) h) (Y (!((G==j)&&((H==k)&&((J==n)&&true)))) (loc [c,e] C λh=>R (V (.i 9)) h) (loc [c,e] C λh=>OW [c,e] Ci #[.pointer d,.agg #[.i q,x.v,.i y,.i z,.u A,.string B,.i j,.i k,.i n]] h λS K E=>Y K (R (V (.i 8)) E) (b0 [c,e] xN #[.pointer d,.agg #[.i q,x.v,.i y,.i z,.u A,.string B,.i j,.i k,.i n]] E λt45 N=>aP d t17 t18 (ab .i64 (t19+1)) N R)))) (R (V (.i 0)) w)),aP d t17 t18 t19 w R:=mp (bF (X:=X) [aZ] (ak [0,1,1,1,3]) P0)
def aD (c:O) (w:I) (R:aa) (h:aJ [] w λe d=>
 Y (ah (((c.n:Nat):Int)>4096)) (R (V (.i 4)) d) (qR [e] Cm #[.agg #[.slice none 0 0]] d λt15 j=>aP t15 c ((c.n:Nat):Int) 0 j R)):ai U xL #[.agg #[c.v]] w R:=aE X [aZ] h
end u7
namespace u6
noncomputable abbrev X:Fx:=⟨U,Tryz.f6,[],[1]⟩
abbrev P0:Ps:=[(1,.l [.s] kV),(5,.v [.r]),(18,.v [.I]),(19,.v [.I])]
def aP (c:Nat) (d:O) (e:Addr) (t18 t19:Int) (w:I) (R:aa):Prop:=br P0 0 (X.Sem (ak [0,1,1,1,4])) c d e t18 t19 w R
noncomputable def aZ:=bD X (ak [0,1,1,1,4]) P0 aP
def bW:∀(c:Nat) (e:O) (d:Addr) (t18 t19:Int) (w:I) (R:aa) (n:Y (ah (t19<t18)) (aw e t19 λh=>lZ [c] xS #[.pointer (some d),.pointer (some (h.add (ag t19 *9)))] w λj=>aP c e d t18 (ab .i64 (t19+1)) j R) (fU [c] xV #[.pointer (some d)] w λt28 k=>R (V (.tuple #[t28.v,.i 0])) k)),aP c e d t18 t19 w R:=mp (bF (X:=X) [aZ] (ak [0,1,1,1,4]) P0)
def aD (c:O) (w:I) (R:aa) (j:aJ [] w λe k=>
 b0 [e] xL #[.agg #[c.v]] k λh d=>Y (h !=0) (R (V (.tuple #[.slice none 0 0,.i h])) d) (aN d (.cells #[.slice none 0 0] nH) λq=>
 lZ [e] mh #[.pointer (some (nb d)),.i ((c.n:Nat):Int)] q λu=>aP e c (nb d) ((c.n:Nat):Int) 0 u R)):ai U ug #[.agg #[c.v]] w R:=aE X [aZ] j
end u6
namespace Lp
noncomputable abbrev X:Fx:=⟨U,Tryz.f12,[],[1]⟩
def aD (d:O) (w:I) (R:aa) (h:aJ [] w λc n=>
 z1 [c] ug #[.agg #[d.v]] n λj k e=>Y (k !=0) (R (V (.u 0)) e) (v' [c] xm #[.string (az #[103,114,97,112,104]),j.v] e λt13 q=>R (V (.u t13)) q)):ai U Ch #[.agg #[d.v]] w R:=aE X [] h
end Lp
def gz (w:I) (c:Nat) (bs:List UInt8) (own:List Nat):Prop:=
 ∃s:O,own=c::ay s/\w.heap[c]? =some (.cells #[s.v] nH (0,0))/\eU w s bs
def ya {w:I} {e T:aG} {s:O} {vs:List ae} (d:Ow w e s vs) {b:Nat} {cs:Array ae} {f:Nat×Nat} (c:w.heap[b]? =some (.cells cs T f)) (h:e≠T):b∉ay s:=λk=>by
 obtain ⟨q,u,j⟩:=d.2.row.qi b k;rw [j] at c;injection c with c
 injection c with _ n _
 exact h n
def gz.lt {w:I} {j:Nat} {bs:List UInt8} {own:List Nat} (d:gz w j bs own):∀b∈own,b<w.heap.size:=by
 obtain ⟨s,rfl,e,h⟩:=d;intro b c;rcases aB.1 c with rfl|c
 .exact iK e
 .exact h.lt b c
def gz.new (w:I):gz (w.alloc (.cells #[.slice none 0 0] nH)) w.heap.size [] [w.heap.size]:=⟨⟨none,0,0⟩,rfl,gJ w _,Ow.nil _ _⟩
def h8 (w:I) (e:Nat) (own:List Nat) (bs:List UInt8) (w':I):Prop:=∃c,gz w' e bs c/\Fr (·∈own) w w'/\∀d∈c,d∈own\/w.heap.size<=d
def nQ (w:I) (d:Nat) (own:List Nat) (bs:List UInt8):aa:=λr c=>r=V (.tuple #[])/\h8 w d own bs c
def h8.refl {w:I} {d:Nat} {own:List Nat} {bs:List UInt8} (c:gz w d bs own):h8 w d own bs w:=⟨own,c,Fr.refl _ _,λ_ c=>.inl c⟩
def h8.then {w w' q:I} {u:Nat} {own n:List Nat} {e:List UInt8} (h:Fr (·∈own) w w') (j:∀d∈n,d∈own\/w.heap.size<=d) (c:h8 w' u n e q):h8 w u own e q:=by
 obtain ⟨y,r,f,o⟩:=c;refine ⟨y,r,h.trans f λd k x=>?_,λd k=>?_⟩
 .rcases j d x with c|c
  .exact c
  .omega
 .rcases o d k with c|c
  .exact j d c
  .exact .inr (bH h.size c)
def MA {w n d:I} {c:Nat} {s s':O} {bs u:List UInt8} (z:w.heap[c]? =some (.cells #[s.v] nH (0,0))) (D:eU w s bs) (j:ao w n) (A:eU d s' u) (x:Fr (·∈ay s) n d) (F:∀b∈ay s',b∈ay s\/n.heap.size<=b):
  (d.cell? ((aj c).add 0)).isSome=true/\d.frozen? ((aj c).add 0)=false/\h8 w c (c::ay s) u (d.setCell ((aj c).add 0) s'.v):=by
 have G:c∉ay s:=ya D z (by decide);have h:=x.at (j.at z id) G;have B:(d.setCell ((aj c).add 0) s'.v).heap[c]? =_:=setAt (p:=aj c) (i:=0) (v:=s'.v) h rfl;have y:Fr (·=c) d (d.setCell ((aj c).add 0) s'.v):=Fr.set _ _ _ rfl
 have H:c∉ay s':=ya A h (by decide);refine ⟨by rw [cellAt (p:=aj c) h rfl rfl];rfl,frozenAt (p:=aj c) h,c::ay s',⟨s',rfl,B,A.fr y λb E C=>H (C▸E)⟩,?_,?_⟩
 .exact ((j.nl (M:=(·∈c::ay s))).trans x λq _ e=>by simp [e]).trans y λq _ e=>by simp [e]
 .intro q e;rcases aB.1 e with rfl|e
  .exact .inl (by simp)
  .rcases F q e with k|k
   .exact .inl (by simp [k])
   .exact .inr (bH j.size k)
def y4 {w:I} {c:Nat} {s:O} (d:w.heap[c]? =some (.cells #[s.v] nH (0,0))):w.cell? ((aj c).add 0)=some s.v:=cellAt (p:=aj c) d rfl rfl
def Mf {w:I} {e:Nat} {s:O} {bs:List UInt8} (C:w.heap[e]? =some (.cells #[s.v] nH (0,0))) (j:eU w s bs) (F:bs.length<100000000000000) (c:UInt8) (K:I->Prop) (B:∀k,h8 w e (e::ay s) (bs++[c]) k->K k):
  ∃(t15:W.O) (d:I),a6 U (bb #[aH,aH] aH #[s.v,.slice (some (Addr.mk w.heap.size 0 none)) 1 1]) (w.alloc (.cells #[.int .u8 (c.toNat:Int)] b'))=.ok (t15.v) d/\(d.cell? ((aj e).add 0)).isSome=true/\d.frozen? ((aj e).add 0)=false/\K (d.setCell ((aj e).add 0) (t15.v)):=by have h:ao w (w.alloc (.cells #[.int .u8 (c.toNat:Int)] b')):=Fr.alloc _ _ _;obtain ⟨D,d,x,y,z,A,E⟩:=vM (ty:=aH) (j.bA h) (CN w c) (by simp;omega);obtain ⟨n,q,u⟩:=MA C j h y z A;exact ⟨D,d,x,n,q,B _ u⟩
def Ve {h:Nat} (R:aa):∀(n:Nat) (w:I) (bs:List UInt8) (own:List Nat),n<18446744073709551616->bs.length+(dF n).length<=100000000000000->gz w h bs own->(∀c,h8 w h own (bs++dF n) c->R (V (.tuple #[])) c)->
  sd.L0 (aj h) (n:Int) w R:=by
 intro n;induction n using Nat.strongRecOn with
 |_ n D=>
  intro w bs own J d B y;obtain ⟨s,rfl,j,x⟩:=B;refine sd.b5 _ _ _ _ ?_;refine bE (λq=>?_) (λq=>?_)
  .have e:¬n<128:=by simp at q;omega
   rw [lk e] at d;have k:ab .u8 (n:Int)=_:=Ek n;refine ⟨s,y4 j,?_⟩;rw [k,Nj _ (by omega)];have z:((n%256%128+128:Nat):Int)=((cS (n%128+128)).toNat:Int):=by simp;omega
   rw [z];refine Mf j x (by simp at d;omega) (cS (n%128+128)) (λc=>sd.L0 (aj h) (Int.fdiv (n:Int) (2^7)) c R) λc u=>?_;show sd.L0 (aj h) (Int.fdiv (n:Int) (2^7)) c R;rw [show ((2:Int)^7)=((128:Nat):Int) from rfl,AB n 128 (by omega)];obtain ⟨F,G,A,E⟩:=u;refine D (n / 128) (by omega) c _ F (by omega) (by simp at d ⊢;omega) G λH C=>y H ?_;rw [lk e,show bs++cS (n%128+128)::dF (n / 128)=(bs++[cS (n%128+128)])++dF (n / 128) by simp];exact C.then A E
  .have e:n<128:=by simp at q;omega
   rw [kF e] at d;have k:ab .u8 (n:Int)=((cS n).toNat:Int):=by rw [Ek];simp
   refine ⟨s,y4 j,?_⟩;rw [k];refine Mf j x (by simp at d;omega) (cS n) (λc=>R (V (.tuple #[])) c) λc u=>y c ?_;rw [kF e];exact u
def vm {w:I} {c:Nat} {bs:List UInt8} {own:List Nat} (h:gz w c bs own) (n:Nat) (d:n<18446744073709551616) (j:bs.length<=10000000000000):
  ai U rH #[.pointer (some (aj c)),.int .u64 (n:Int)] w (nQ w c own (bs++dF n)):=
 sd.ok _ _ w _ (Ve _ n w bs own d (by have:=hl n d;omega) h λk e=>⟨rfl,e⟩)
def Vx (n:Int) (j:cp n):W.i6 .u64 (ab .u64 ((ab .u64 n) *2^1)) (ab .u64 (Int.fdiv n (2^63)))=(zz n:Int):=by
 obtain ⟨k,q⟩:=j;have h:((2:Int)^63)=9223372036854775808:=rfl;rw [h,Int.fdiv_eq_ediv_of_nonneg _ (by omega),IntKind.wrap_u64,IntKind.wrap_u64,IntKind.wrap_u64];by_cases e:0<=n
 .have c:(n / 9223372036854775808)%18446744073709551616=((0:Nat):Int):=by omega
  have d:(n%18446744073709551616 *2^1)%18446744073709551616=((2 *n).toNat:Int):=by omega
  rw [c,d,vP _ _ (by omega) (by omega),Nat.xor_zero];unfold zz;rw [aq e]
 .have c:(n / 9223372036854775808)%18446744073709551616=((18446744073709551615:Nat):Int):=by omega
  have d:(n%18446744073709551616 *2^1)%18446744073709551616=((18446744073709551616+2 *n).toNat:Int):=by omega
  rw [c,d,vP _ _ (by omega) (by omega),Vs _ (by omega)];unfold zz;rw [af e];omega
def oL {w:I} {d:Nat} {bs:List UInt8} {own:List Nat} (j:gz w d bs own) (n:Int) (c:cp n) (h:bs.length<=10000000000000):
  ai U mh #[.pointer (some (aj d)),.int .i64 n] w (nQ w d own (bs++cL n)):=by refine Mn.ok _ _ w _ ?_;rw [Vx n c];refine (vm j (zz n) (y6 n c.1 c.2) h).mono ?_;rintro r k ⟨rfl,e⟩;exact ⟨rfl,rfl,e⟩
def Vd {w:I} {c:Nat} {bs:List UInt8} {own:List Nat} (z:gz w c bs own) (t:ByteArray) (G:bs.length+t.size<=10000000000000):
  ai U Cy #[.pointer (some (aj c)),.string t] w (nQ w c own (bs++hL (bl t))):=by refine Mo.ok _ _ w _ ?_;rw [mD _ (by omega)];refine (vm z t.size (by omega) (by omega)).mono ?_;rintro r E ⟨rfl,J,B,n,A⟩;have H:=hl t.size (by omega);obtain ⟨D,rfl,h,e⟩:=B;obtain ⟨C,F,q,u,x,y⟩:=Nb (ty:=aH) e t (by simp;omega);obtain ⟨j,k,d⟩:=MA h e (Fr.refl _ E) u x y;rw [cN] at d;exact ⟨rfl,D,y4 h,C,F,q,j,k,rfl,d.then n A⟩
def tm:∀(l:List Int),(∀c∈l,cp c)->(l.flatMap cL).length<=10 *l.length
 |[],_=>by simp
 |c::l,d=>by have k:=eM c (d c (by simp));have e:=tm l λj h=>d j (by simp [h]);simp at e ⊢;omega
def Vc {j:Nat} {s:O} {l:List Int} (R:aa) (hi:∀c∈l,cp c) (P:l.length<=100000000000):∀(d i:Nat),i+d=l.length->∀(w:I) (bs:List UInt8) (own:List Nat),gz w j bs own->bS w s l->(∀c∈ay s,c∉own)->(∀c∈ay s,c<w.heap.size)->bs.length+10 *d<=10000000000000->
  (∀B,h8 w j own (bs++(l.drop i).flatMap cL) B->R (V (.tuple #[])) B)->oN.L0 (aj j) s (l.length:Int) (i:Int) w R:=by
 intro d;induction d with
 |zero=>
  intro i F w bs own u e x q E n;refine oN.b5 _ _ _ _ _ _ ?_;refine a9 (by simp;omega) (n w ?_);rw [dt (by omega)];simpa using h8.refl u
 |succ d K=>
  intro i F w bs own u e x q E n;have G:l[i]? =some l[i]:=bc (by omega);have z:l[i]∈l:=List.getElem_mem _;refine oN.b5 _ _ _ _ _ _ ?_;refine bd (by simp;omega) ⟨by omega,by rw [bS.len e];omega,bS.cell e G (by simp) λp _ J=>⟨_,J,(oL u _ (hi _ z) (by omega)).mono ?_⟩⟩;rintro r C ⟨rfl,L,M,k,A⟩;refine ⟨rfl,?_⟩;show oN.L0 (aj j) s (l.length:Int) (ab .i64 ((i:Int)+1)) C R;rw [bw i (by omega)];have Q:=eM _ (hi _ z);refine K (i+1) (by omega) C _ L M (e.fr k x) (λc h H=>?_) (λc h=>vp (q c h) k.size) (by simp;omega) λN D=>n N ?_
  .rcases A c H with y|y
   .exact x c h y
   .have:=q c h;omega
  .rw [dq (by omega),List.flatMap_cons,<-cN];exact D.then k A
def Va {w:I} {h:Nat} {bs:List UInt8} {own:List Nat} (z:gz w h bs own) {s:O} {l:List Int} (n:bS w s l) (q:∀c∈ay s,c∉own) (u:∀c∈ay s,c<w.heap.size) (hi:∀c∈l,cp c) (D:bs.length+10 *l.length<=1000000000000):
  ai U xW #[.pointer (some (aj h)),s.v] w (nQ w h own (bs++g2 l)):=by
 refine oN.ok _ _ w _ ?_;rw [bS.len n,mD _ (by omega)];refine (vm z l.length (by omega) (by omega)).mono ?_;rintro r C ⟨rfl,A,B,e,x⟩;have E:=hl l.length (by omega);refine ⟨rfl,?_⟩;dsimp only;refine Vc _ hi (by omega) l.length 0 (by omega) C _ A B (n.fr e q) (λc d y=>?_) (λc d=>vp (u c d) e.size) (by simp;omega) λF k=>⟨rfl,?_⟩
 .rcases x c y with j|j
  .exact q c d j
  .have:=u c d;omega
 .rw [List.drop_zero,cN] at k;exact k.then e x
def F3 (s:O) (bs:List UInt8) (w:I) (h:Bytes w s bs) (F:bs.length<=140737488355328):ai U xC #[s.v] w (λr n=>∃s:O,r=V s.v/\eU n s bs/\ao w n/\∀b∈ay s,w.heap.size<=b):=by
 refine KG.ok s w _ ?_;refine bE (λd=>?_) (λd=>?_)
 .have A:bs=[]:=by have:=(h.2.2.1 (by simpa using d)).1;exact mq (by rw [<-Bytes.len h,this])
  subst A;exact ⟨⟨none,0,0⟩,rfl,Ow.nil w _,Fr.refl _ _,by simp [ay]⟩
 .show (λc:I=>∃(k:O) (e:I),a6 U (bb #[aH,aH] aH #[.slice (some (nb w)) 0 0,s.v]) c=.ok (k.v) e/\(∃s:O,Ending.returned k.v=V s.v/\eU e s bs/\ao w e/\∀b∈ay s,w.heap.size<=b)) (w.alloc (.cells #[] b'));generalize E:w.alloc (.cells #[] b')=c;subst E
  let c:=w.alloc (.cells #[] b')
  have B:eU c ⟨some ⟨w.heap.size,0,none⟩,0,0⟩ []:=Ow.made w b' [] 0 rfl (by omega);have u:Bytes c s bs:=h.bA (Fr.alloc _ _ _);obtain ⟨j,e,D,C,y,x,_⟩:=vM (ty:=aH) B u (by simp;omega);refine ⟨j,e,D,j,rfl,by simpa using C,?_,?_⟩
  .refine (Fr.alloc (λ_=>False) w _).trans y λH G z=>?_;simp [ay] at z;omega
  .intro b q;rcases x b q with d|d
   .simp [ay] at d;omega
   .have:c.heap.size=w.heap.size+1:=size_alloc _ _;omega
def Me {w:I} {d:Nat} {bs:List UInt8} {own:List Nat} (k:gz w d bs own) (n:bs.length<=100000000000000):
  ai U xV #[.pointer (some (aj d))] w (kv w bs):=by obtain ⟨s,rfl,h,j⟩:=k;refine Mm.ok _ w _ ⟨s,y4 h,(F3 s bs w j.rd (by omega)).mono ?_⟩;rintro r q ⟨c,rfl,e⟩;exact ⟨c,rfl,c,rfl,e⟩
namespace Mg
noncomputable abbrev X:Fx:=⟨U,Tryz.f9,[],[]⟩
def ok (c:O) (w:I) (R:aa) (e:kA xC #[c.v] w λh d=>aN d (.cells #[h.v,.i 0,.i 0] nG) λj=>
 R (V (.pointer (some (nb d)))) j):ai U xU #[c.v] w R:=aE X [] e
end Mg
namespace oM
noncomputable abbrev X:Fx:=⟨U,Tryz.f31,[(6,ls [0,1,2,3,4,5,6,7,8,9,10,11]),(9,ls [0,1,2,3,4,5,6,7,8,9,10,11,12])],[]⟩
abbrev P0:Ps:=[(0,.v [.r]),(3,.v [.U]),(4,.v [.I])]
def L0 (e:Addr) (d c:Int) (w:I) (R:aa):Prop:=br P0 0 (X.Sem (ak [0,1,4])) e d c w R
noncomputable def aZ:=bD X (ak [0,1,4]) P0 L0::[]
abbrev S1 (c:Addr) (w:I) (R:aa):Prop:=
 av w (c.add 2) (.i 2) λd=>
 R (V (.u 0)) d
noncomputable def bg:=aC X aZ (ak [0,1,1,1,2,4,4]) [(0,.v [.r])] S1::aZ
abbrev P2:Ps:=[(0,.v [.r]),(3,.v [.U]),(4,.v [.I]),(5,.v [.Y])]
abbrev S3 (c:Addr) (e d h:Int) (w:I) (R:aa):Prop:=
 Y (ah (h<128)) (∃t70:Int,w.cell? (c.add 1)=some (.i t70)/\
 av w (c.add 1) (.i (ab .i64 (t70+(ab .i64 (d+1))))) λj=>
 R (V (.u e)) j) (L0 c e (ab .i64 (d+1)) w R)
noncomputable def bt:=aC X bg (ak [4,4,4]) P2 S3::bg
abbrev S2 (h:Addr) (e c d:Int) (w:I) (R:aa):Prop:=
 ¬(ab .i64 (7 *c))<0/\S3 h (k9 .u64 e (ab .u64 ((ab .u64 (iG .u8 d 127)) *2^(min (ag (ab .i64 (7 *c))) (IntKind.bits .u64))))) c d w R
noncomputable def bm:=aC X bt (ak [3,4,4]) P2 S2::bt
def b5:∀(c:Addr) (h d:Int) (w:I) (R:aa) (x:bY w λj=>∃t16:Int,j.cell? (c.add 1)=some (.i t16)/\
 ∃t22:O,j.cell? (c.add 0)=some (t22.v)/\
 Y (ah ((ab .i64 (t16+d))>=((t22.n:Nat):Int))) (av j (c.add 2) (.i 3) λq=>
 R (V (.u 0)) q) (bY j λe=>∃t31:O,e.cell? (c.add 0)=some (t31.v)/\
 ∃t35:Int,e.cell? (c.add 1)=some (.i t35)/\
 aw t31 (ab .i64 (t35+d)) λk=>∃t39:Int,e.cell? (k.add (ag (ab .i64 (t35+d)) *1))=some (.int .u8 t39)/\
 Y (d==9) (Y (ah (t39>1)) (S1 c e R) (Y (ah (d>0)) (Y (t39==0) (S1 c e R) (S2 c h d t39 e R)) (S2 c h d t39 e R))) (Y (ah (d>0)) (Y (t39==0) (S1 c e R) (S2 c h d t39 e R)) (S2 c h d t39 e R)))),L0 c h d w R:=mp (bF (X:=X) bm (ak [0,1,4]) P0)
def ok (c:Addr) (w:I) (R:aa) (e:∃d:Int,w.cell? (c.add 2)=some (.i d)/\
 Y (d !=0) (R (V (.u 0)) w) (L0 c 0 0 w R)):ai U rG #[.pointer (some c)] w R:=aE X bm e
end oM
namespace Mi
noncomputable abbrev X:Fx:=⟨U,Tryz.f10,[],[]⟩
def ok (c:Addr) (w:I) (R:aa) (e:j2 rG #[.pointer (some c)] w λd h=>R (V (.i (i6 .i64 (ab .i64 (Int.fdiv d (2^(1)))) (ab .i64 (0 - (ab .i64 (iG .u64 d 1))))))) h):ai U jh #[.pointer (some c)] w R:=aE X [] e
end Mi
namespace Mh
noncomputable abbrev X:Fx:=⟨U,Tryz.f33,[(3,ls [0,1,2,3,4,5,6,7,8,9])],[]⟩
def ok (c:Addr) (w:I) (R:aa) (h:∃e:Int,w.cell? (c.add 2)=some (.i e)/\
 Y (e !=0) (∃t11:Int,w.cell? (c.add 2)=some (.i t11)/\
 R (V (.i t11)) w) (bY w λd=>∃t15:Int,d.cell? (c.add 1)=some (.i t15)/\
 ∃t19:O,d.cell? (c.add 0)=some (t19.v)/\
 Y (ah (t15<((t19.n:Nat):Int))) (R (V (.i 2)) d) (R (V (.i 0)) d))):ai U Cu #[.pointer (some c)] w R:=aE X [] h
end Mh
namespace Ml
noncomputable abbrev X:Fx:=⟨U,Tryz.f58,[(1,ls [0,1,2,3,4,5,6,7,8,9,10])],[]⟩
def ok (c:Addr) (w:I) (R:aa) (h:bY w λd=>∃e:O,d.cell? (c.add 0)=some (e.v)/\
 ∃t11:Int,d.cell? (c.add 1)=some (.i t11)/\
 aw e t11 λj=>∃t13:Int,d.cell? (j.add (ag t11 *1))=some (.int .u8 t13)/\
 ∃t17:Int,d.cell? (c.add 1)=some (.i t17)/\
 av d (c.add 1) (.i (ab .i64 (t17+1))) λk=>
 R (V (.int .u8 t13)) k):ai U pD #[.pointer (some c)] w R:=aE X [] h
end Ml
namespace se
noncomputable abbrev X:Fx:=⟨U,Tryz.f57,[(4,ls [0,1,2,3,4,5,6,7,8,9,10,11,12])],[]⟩
abbrev P0:Ps:=[(0,.v [.r]),(1,.v [.g pD 1 0,.r]),(6,.v [.s]),(33,.v [.U]),(34,.v [.U])]
def L0 (e c:Addr) (d:O) (t33 t34:Int) (w:I) (R:aa):Prop:=br P0 0 (X.Sem (ak [0,1,1,1,5])) e c d t33 t34 w R
noncomputable def aZ:=bD X (ak [0,1,1,1,5]) P0 L0
def b5:∀(h d:Addr) (e:O) (t33 t34:Int) (w:I) (R:aa) (n:Y (ah (t34<t33)) (v3 pD #[.pointer (some d)] w λt37 c=>∃t41:Int,c.cell? (h.add 2)=some (.i t41)/\
 Y (t41 !=0) (R (V (.slice none 0 0)) c) (aN c (.cells #[.int .u8 t37] b') λk=>
 ∃(t46:O) (j:I),a6 U (bb #[aH,aH] aH #[e.v,.slice (some (nb c)) 1 1]) k=.ok (t46.v) j/\L0 h d t46 t33 (ab .u64 (t34+1)) j R)) (R (V (e.v)) w)),L0 h d e t33 t34 w R:=mp (bF (X:=X) [aZ] (ak [0,1,1,1,5]) P0)
def ok (c j:Addr) (w:I) (R:aa) (q:j2 rG #[.pointer (some c)] w λe h=>∃t13:Int,h.cell? (c.add 2)=some (.i t13)/\
 Y (t13 !=0) (R (V (.slice none 0 0)) h) (bY h λd=>∃t19:O,d.cell? (c.add 0)=some (t19.v)/\
 ∃t24:Int,d.cell? (c.add 1)=some (.i t24)/\
 Y (ah (e>(ab .u64 (ab .i64 (((t19.n:Nat):Int) - t24))))) (av d (c.add 2) (.i 3) λx=>
 R (V (.slice none 0 0)) x) (∃(t32:O) (k:I),a6 U (Instr.makeSlice aH (.i 0) (.u e)) d=.ok (t32.v) k/\L0 c j t32 e 0 k R))):ai U Cz #[.pointer (some c),.func (.func pD) #[.pointer (some j)] #[]] w R:=aE X [aZ] q
end se
namespace sh
noncomputable abbrev X:Fx:=⟨U,Tryz.f56,[(4,ls [0,1,2,3,4,5,6,7,8,9,10,11,12])],[]⟩
abbrev P0:Ps:=[(0,.v [.r]),(1,.v [.g jh 1 0,.r]),(6,.v [.s]),(33,.v [.U]),(34,.v [.U])]
def L0 (e c:Addr) (d:O) (t33 t34:Int) (w:I) (R:aa):Prop:=br P0 0 (X.Sem (ak [0,1,1,1,5])) e c d t33 t34 w R
noncomputable def aZ:=bD X (ak [0,1,1,1,5]) P0 L0
def b5:∀(h d:Addr) (e:O) (t33 t34:Int) (w:I) (R:aa) (n:Y (ah (t34<t33)) (di jh #[.pointer (some d)] w λt37 c=>∃t41:Int,c.cell? (h.add 2)=some (.i t41)/\
 Y (t41 !=0) (R (V (.slice none 0 0)) c) (aN c (.cells #[.i t37] bX) λk=>
 ∃(t46:O) (j:I),a6 U (bb #[eI,eI] eI #[e.v,.slice (some (nb c)) 1 1]) k=.ok (t46.v) j/\L0 h d t46 t33 (ab .u64 (t34+1)) j R)) (R (V (e.v)) w)),L0 h d e t33 t34 w R:=mp (bF (X:=X) [aZ] (ak [0,1,1,1,5]) P0)
def ok (c j:Addr) (w:I) (R:aa) (q:j2 rG #[.pointer (some c)] w λe h=>∃t13:Int,h.cell? (c.add 2)=some (.i t13)/\
 Y (t13 !=0) (R (V (.slice none 0 0)) h) (bY h λd=>∃t19:O,d.cell? (c.add 0)=some (t19.v)/\
 ∃t24:Int,d.cell? (c.add 1)=some (.i t24)/\
 Y (ah (e>(ab .u64 (ab .i64 (((t19.n:Nat):Int) - t24))))) (av d (c.add 2) (.i 3) λx=>
 R (V (.slice none 0 0)) x) (∃(t32:O) (k:I),a6 U (Instr.makeSlice eI (.i 0) (.u e)) d=.ok (t32.v) k/\L0 c j t32 e 0 k R))):ai U CA #[.pointer (some c),.func (.func jh) #[.pointer (some j)] #[]] w R:=aE X [aZ] q
end sh
namespace Mj
noncomputable abbrev X:Fx:=⟨U,Tryz.f30,[],[]⟩
def ok (c:Addr) (w:I) (R:aa) (d:kA CA #[.pointer (some c),.func (.func jh) #[.pointer (some c)] #[]] w λe h=>R (V (e.v)) h):ai U Cv #[.pointer (some c)] w R:=aE X [] d
end Mj
namespace Mk
noncomputable abbrev X:Fx:=⟨U,Tryz.f32,[],[]⟩
def ok (c:Addr) (w:I) (R:aa) (h:kA Cz #[.pointer (some c),.func (.func pD) #[.pointer (some c)] #[]] w λj d=>∃e:ByteArray,a6 U (Go.convert aH dy (j.v)) d=.ok (.string e) d/\R (V (.string e)) d):ai U Cw #[.pointer (some c)] w R:=aE X [] h
end Mk
def dC (w:I) (rb:Nat) (st:RS) (fp:List Nat):Prop:=
 ∃(s:O) (all:List UInt8) (k:Nat),fp=rb::ay s/\w.heap[rb]? =some (.cells #[s.v,.int .i64 (k:Int),.int .i64 st.err] nG (0,0))/\eU w s all/\k<=all.length/\all.drop k=st.bs/\all.length<=1000000000000
def dC.lt {w:I} {rb:Nat} {st:RS} {fp:List Nat} (d:dC w rb st fp):∀b∈fp,b<w.heap.size:=by
 obtain ⟨s,all,j,rfl,e,h,_⟩:=d;intro b c;rcases aB.1 c with rfl|c
 .exact iK e
 .exact h.lt b c
def dC.fr {M:Nat->Prop} {w w':I} {rb:Nat} {st:RS} {fp:List Nat} (e:dC w rb st fp) (c:Fr M w w') (d:∀b∈fp,¬M b):dC w' rb st fp:=by obtain ⟨s,all,q,rfl,h,j,k⟩:=e;exact ⟨s,all,q,rfl,c.at h (d _ (by simp)),j.fr c λb n=>d b (by simp [n]),k⟩
def dC.bA {w w':I} {rb:Nat} {st:RS} {fp:List Nat} (c:dC w rb st fp) (d:ao w w'):dC w' rb st fp:=c.fr d λ_ _ c=>c
def dC.mem {w:I} {rb:Nat} {st:RS} {fp:List Nat} (c:dC w rb st fp):rb∈fp:=by obtain ⟨s,all,d,rfl,_⟩:=c;simp
def dC.small {w:I} {rb:Nat} {st:RS} {fp:List Nat} (c:dC w rb st fp):st.bs.length<=1000000000000:=by obtain ⟨s,all,h,rfl,_,_,_,d,e⟩:=c;rw [<-d];simp;omega
def sD (w:I) (rb:Nat) (fp:List Nat) (v:ae) (st:RS):aa:=λr c=>r=V v/\dC c rb st fp/\Fr (·=rb) w c
def yl {w:I} {rb:Nat} {s:O} {k:Nat} {e:Int} {all:List UInt8} (d:w.heap[rb]? =some (.cells #[s.v,.int .i64 (k:Int),.int .i64 e] nG (0,0))) (h:eU w s all) (j:k<=all.length) (n:all.length<=1000000000000) (c:Int):
  (w.cell? ((aj rb).add 2)).isSome=true/\w.frozen? ((aj rb).add 2)=false/\dC (w.setCell ((aj rb).add 2) (.int .i64 c)) rb ⟨all.drop k,c⟩ (rb::ay s)/\Fr (·=rb) w (w.setCell ((aj rb).add 2) (.int .i64 c)):=by
 have u:rb∉ay s:=ya h d (by decide);have f:Fr (·=rb) w (w.setCell ((aj rb).add 2) (.int .i64 c)):=Fr.set _ _ _ rfl
 exact ⟨by rw [cellAt (p:=aj rb) d rfl rfl];rfl,frozenAt (p:=aj rb) d,⟨s,all,k,rfl,setAt (p:=aj rb) (i:=2) d rfl,h.fr f λb q e=>u (e▸q),j,rfl,n⟩,f⟩
def JF {w:I} {rb:Nat} {s:O} {k:Nat} {e:Int} {all:List UInt8} (d:w.heap[rb]? =some (.cells #[s.v,.int .i64 (k:Int),.int .i64 e] nG (0,0))) (h:eU w s all) (n:all.length<=1000000000000) (c:Nat) (j:c<=all.length) (x:Int) (y:x=c):
  (w.cell? ((aj rb).add 1)).isSome=true/\w.frozen? ((aj rb).add 1)=false/\dC (w.setCell ((aj rb).add 1) (.int .i64 x)) rb ⟨all.drop c,e⟩ (rb::ay s)/\Fr (·=rb) w (w.setCell ((aj rb).add 1) (.int .i64 x)):=by
 subst y;have u:rb∉ay s:=ya h d (by decide);have f:Fr (·=rb) w (w.setCell ((aj rb).add 1) (.int .i64 (c:Int))):=Fr.set _ _ _ rfl
 exact ⟨by rw [cellAt (p:=aj rb) d rfl rfl];rfl,frozenAt (p:=aj rb) d,⟨s,all,c,rfl,setAt (p:=aj rb) (i:=1) d rfl,h.fr f λb q e=>u (e▸q),j,rfl,n⟩,f⟩
def rR {w:I} {rb:Nat} {s:O} {x y:ae} (c:w.heap[rb]? =some (.cells #[s.v,x,y] nG (0,0))):w.cell? ((aj rb).add 0)=some s.v:=cellAt (p:=aj rb) c rfl rfl
def oz {w:I} {rb:Nat} {s:O} {x y:ae} (c:w.heap[rb]? =some (.cells #[s.v,x,y] nG (0,0))):w.cell? ((aj rb).add 1)=some x:=cellAt (p:=aj rb) c rfl rfl
def uA {w:I} {rb:Nat} {s:O} {x y:ae} (c:w.heap[rb]? =some (.cells #[s.v,x,y] nG (0,0))):w.cell? ((aj rb).add 2)=some y:=cellAt (p:=aj rb) c rfl rfl
def Vh (acc k c:Nat) (A:k<=9) (x:acc<128^k) (z:c<128) (w:k=9->c<=1):
  ¬(ab .i64 (7 *(k:Int)))<0/\W.k9 .u64 (acc:Int) (ab .u64 ((ab .u64 ((c:Nat):Int)) *2^(min (ag (ab .i64 (7 *(k:Int)))) (IntKind.bits .u64))))=((acc+128^k *c:Nat):Int):=by
 have j:ab .i64 (7 *(k:Int))=((7 *k:Nat):Int):=by rw [a4 _ (by omega)];omega
 rw [j];refine ⟨by omega,?_⟩;have n:min (ag ((7 *k:Nat):Int)) (IntKind.bits .u64)=7 *k:=by rw [dJ];show min (7 *k) 64=7 *k;omega
 rw [n,mD c (by omega)];have q:(c:Int) *2^(7 *k)=((c *2^(7 *k):Nat):Int):=by rw [Int.natCast_mul,Int.natCast_pow];rfl
 have h:(2:Nat)^(7 *k)=128^k:=by rw [Nat.pow_mul]
 have e:c *2^(7 *k)<18446744073709551616:=by
  by_cases u:k=9
  .subst u;have:=w rfl;have:c *2^(7 *9)<=1 *2^(7 *9):=Nat.mul_le_mul_right _ this;omega
  .have d:(2:Nat)^(7 *k)<=2^56:=Nat.pow_le_pow_right (by omega) (by omega);have:c *2^(7 *k)<=127 *2^56:=Nat.mul_le_mul (by omega) d;omega
 have y:acc<18446744073709551616:=by have d:(128:Nat)^k<=128^9:=Nat.pow_le_pow_right (by omega) (by omega);omega
 rw [q,mD _ e,E5 _ _ y e,IY acc c (7 *k) (by rw [h];exact x),h,Nat.mul_comm c]
set_option maxRecDepth 100000 in
def SV {rb:Nat} (R:aa) (all:List UInt8) (p:Nat) (hp:p<=all.length) (Y:all.length<=1000000000000) (s:O):
  ∀(d k acc:Nat) (w:I),k+d=9->acc<128^k->p+k<=all.length->w.heap[rb]? =some (.cells #[s.v,.int .i64 (p:Int),.int .i64 0] nG (0,0))->eU w s all->
   (match ik k ((all.drop p).drop k) with
    |.more=>∀e,dC e rb ⟨all.drop p,3⟩ (rb::ay s)->Fr (·=rb) w e->R (V (.int .u64 0)) e
    |.form=>∀e,dC e rb ⟨all.drop p,2⟩ (rb::ay s)->Fr (·=rb) w e->R (V (.int .u64 0)) e
    |.ok N r=>∀e,dC e rb ⟨r,0⟩ (rb::ay s)->Fr (·=rb) w e->R (V (.int .u64 ((acc+128^k *N:Nat):Int))) e)->
   oM.L0 (aj rb) (acc:Int) (k:Int) w R:=by
 intro d;induction d using Nat.strongRecOn with
 |_ d ih=>
  intro k acc w hk ha ak h1 B j;refine oM.b5 _ _ _ _ _ ?_;have hn:s.n=all.length:=by simpa using B.1
  have ew:ab .i64 ((p:Int)+(k:Int))=((p+k:Nat):Int):=by rw [a4 _ (by omega)];omega
  have J:ao w w.drew:=Fr.drew _ w;have z:ao w w.drew.drew:=J.cR (Fr.drew _ _);have S:=J.at h1 id;have A:=z.at h1 id;refine ⟨_,oz S,_,rR S,?_⟩;rw [ew,hn];rw [List.drop_drop] at j;refine bE (λc=>?_) (λc=>?_)
  .have he:all.drop (p+k)=[]:=dt (by simp at c;omega);rw [he] at j;simp only [ik] at j;obtain ⟨C,D,E,F⟩:=yl S (B.bA J) hp Y 3;exact ⟨C,D,j _ E ((J.nl).trans F λ_ _ c=>c)⟩
  .have ae:p+k<all.length:=by simp at c;omega
   have hg:all[p+k]? =some all[p+k]:=bc ae;rw [dq ae] at j;generalize all[p+k]=h at hg j;have hc:=h.toNat_lt;have G:∀e,Fr (·=rb) w.drew.drew e->Fr (·=rb) w e:=λe f=>z.nl.trans f λ_ _ c=>c;refine ⟨_,rR A,_,oz A,?_⟩;rw [ew];refine ⟨by omega,by rw [hn];omega,Bytes.cell (B.bA z).rd hg (by rw [dJ]) λal _ hq=>⟨_,hq,?_⟩⟩;have form:ia k h=true->oM.S1 (aj rb) w.drew.drew R:=λx=>by simp only [ik,x,if_true] at j;obtain ⟨C,D,E,F⟩:=yl A (B.bA z) hp Y 2;exact ⟨C,D,j _ E (G _ F)⟩
   have P:ia k h=false->oM.S2 (aj rb) (acc:Int) (k:Int) (h.toNat:Int) w.drew.drew R:=λx=>by
    have M:=x;unfold ia at M;simp at M;obtain ⟨e1,e2⟩:=Vh acc k (h.toNat%128) (by omega) ha (by omega) (λy=>by have:=M.1 y;omega);unfold oM.S2;rw [Ni h];refine And.intro e1 ?_;rw [e2];obtain ⟨v,H⟩:∃v,v=acc+128^k *(h.toNat%128):=⟨_,rfl⟩;rw [<-H];refine bE (λc=>?_) (λc=>?_)
    .have K:h.toNat<128:=by simp at c;omega
     simp only [ik,x,K,if_true] at j;obtain ⟨C,D,E,F⟩:=JF A (B.bA z) Y (p+k+1) (by omega) (ab .i64 ((p:Int)+(ab .i64 ((k:Int)+1)))) (by rw [a4 ((k:Int)+1) (by omega),a4 _ (by omega)];omega);refine ⟨_,oz A,C,D,?_⟩;have:=j _ E (G _ F);rw [Nat.mod_eq_of_lt K] at H;rw [H];exact this
    .have K:¬h.toNat<128:=by simp at c;omega
     show oM.L0 (aj rb) _ (ab .i64 ((k:Int)+1)) w.drew.drew R;rw [bw k (by omega)];have ah:k≠9:=λy=>by have:=M.1 y;omega
     refine ih (d - 1) (by omega) (k+1) _ w.drew.drew (by omega) ?_ (by omega) A (B.bA z) ?_
     .rw [Nat.pow_succ,H];have:128^k *(h.toNat%128)<=128^k *127:=Nat.mul_le_mul_left _ (by omega);omega
     .rw [List.drop_drop,<-Nat.add_assoc];simp only [ik,x,K,if_false] at j;cases Z:ik (k+1) (all.drop (p+k+1)) with
      |more=>rw [Z] at j;exact λe a b=>j e a (G _ b)
      |form=>rw [Z] at j;exact λe a b=>j e a (G _ b)
      |ok N r=>
       rw [Z] at j;intro e a b;have:=j e a (G _ b);have q:acc+128^k *(h.toNat%128)+128^(k+1) *N=acc+128^k *(h.toNat%128+128 *N):=by rw [Nat.pow_succ,Nat.mul_add,Nat.mul_assoc];omega
       rw [H,q];exact this
   have af:1<h.toNat->k=9->ia k h=true:=λhx hy=>by unfold ia;rw [aW hx];simp [hy]
   have ad:h.toNat=0->0<k->ia k h=true:=λc Q=>by unfold ia;rw [c,aW Q];simp
   have ac:(k=9->¬1<h.toNat)->(0<k->h.toNat≠0)->ia k h=false:=λc Q=>by
    cases x:ia k h with
    |false=>rfl
    |true=>
     unfold ia at x;rw [Bool.or_eq_true,bn,bn] at x;rcases x with ⟨T,W⟩|⟨T,W⟩
     .exact absurd (ef W) (c (eq_of_beq T))
     .exact absurd (eq_of_beq W) (Q (ef T))
   refine bE (λy=>?_) (λy=>?_)
   .have L:k=9:=by have:=eq_of_beq y;omega
    refine bE (λc=>form (af (by have:=ef c;omega) L)) (λc=>?_);have ai:=gS c;refine bd (aW (by omega)) (bE (λu=>form (ad (by have:=eq_of_beq u;omega) (by omega))) (λu=>P (ac (λ_=>by omega) (λ_ q=>by rw [q] at u;simp at u))))
   .have L:k≠9:=λq=>by rw [q] at y;simp at y
    refine bE (λc=>bE (λu=>form (ad (by have:=eq_of_beq u;omega) (by have:=ef c;omega))) (λu=>P (ac (λq=>absurd q L) (λ_ q=>by rw [q] at u;simp at u)))) (λc=>P (ac (λq=>absurd q L) (λag=>by have:=gS c;omega)))
def yj {w:I} {rb:Nat} {st:RS} {fp:List Nat} (h:dC w rb st fp):
  ai U rG #[.pointer (some (aj rb))] w (sD w rb fp (.int .u64 ((eF st).1:Int)) (eF st).2):=by
 have x:=h;obtain ⟨s,all,y,rfl,d,k,n,q,u⟩:=h;refine oM.ok _ w _ ?_;refine ⟨_,uA d,bE (λe=>?_) (λe=>?_)⟩
 .have c:st.err≠0:=by simpa using e
  unfold eF;rw [aq c];exact ⟨rfl,x,Fr.refl _ _⟩
 .have c:st.err=0:=by simpa using e
  refine SV _ all y n u s 9 0 0 w rfl (by simp) (by omega) (by rw [c] at d;exact d) k ?_;unfold eF;rw [af (by simp [c]),List.drop_zero,q];cases z:ik 0 st.bs with
  |more=>exact λj a b=>⟨rfl,a,b⟩
  |form=>exact λj a b=>⟨rfl,a,b⟩
  |ok A r=>
   intro j a b;refine ⟨?_,a,b⟩;simp
def rQ (st:RS):(eF st).1<18446744073709551616:=by
 unfold eF;split
 .simp
 .split
  .simp
  .simp
  .rename_i d r c;have:=(wb 9 0 _ _ _ rfl c).2.1;simpa using this
def U4 (u:Nat) (e:u<18446744073709551616):W.i6 .i64 (ab .i64 (Int.fdiv (u:Int) (2^1))) (ab .i64 (0 - (ab .i64 (W.iG .u64 (u:Int) 1))))=mE u:=by
 have d:W.iG .u64 (u:Int) 1=((u%2:Nat):Int):=by have:=Nh u 1 e (by omega);rw [Nat.and_one_is_mod] at this;exact this
 rw [d,show ((2:Int)^1)=((2:Nat):Int) from rfl,AB u 2 (by omega),a4 ((u / 2:Nat):Int) (by omega),a4 ((u%2:Nat):Int) (by omega)];unfold mE;split
 .rename_i c;rw [c,a4 _ (by omega)];exact Nl _ (by omega)
 .rename_i c;rw [show u%2=1 by omega,a4 _ (by omega)];exact Nk _ (by omega)
def ns {w:I} {rb:Nat} {st:RS} {fp:List Nat} (c:dC w rb st fp):
  ai U jh #[.pointer (some (aj rb))] w (sD w rb fp (.int .i64 (bQ st).1) (bQ st).2):=by refine Mi.ok _ w _ ?_;refine (yj c).mono ?_;rintro r e ⟨rfl,d⟩;refine ⟨_,rfl,?_⟩;dsimp only;rw [U4 _ (rQ st)];exact ⟨rfl,d⟩
def SQ {w:I} {rb:Nat} {st:RS} {fp:List Nat} (q:dC w rb st fp):
  ai U Cu #[.pointer (some (aj rb))] w λr z=>r=V (.int .i64 (pN st))/\ao w z:=by
 obtain ⟨s,all,y,rfl,d,u,A,x,B⟩:=q;have c:ao w w.drew:=Fr.drew _ w;have k:=c.at d id;have D:s.n=all.length:=by simpa using u.1
 have C:st.bs.length=all.length - y:=by rw [<-x];simp
 refine Mh.ok _ w _ ?_;unfold pN;refine ⟨_,uA d,bE (λe=>?_) (λe=>?_)⟩
 .have h:st.err≠0:=by simpa using e
  rw [aq h];exact ⟨_,uA d,rfl,Fr.refl _ _⟩
 .have h:st.err=0:=by simpa using e
  rw [af (by simp [h])];refine ⟨_,oz k,_,rR k,bE (λj=>?_) (λj=>?_)⟩
  .have:=ef j;rw [aq (by omega)];exact ⟨rfl,c⟩
  .have:=gS j;rw [af (by omega)];exact ⟨rfl,c⟩
def SS {w:I} {rb:Nat} {c:UInt8} {l:List UInt8} {e:Int} {fp:List Nat} (q:dC w rb ⟨c::l,e⟩ fp):
  ai U pD #[.pointer (some (aj rb))] w (sD w rb fp (.int .u8 (c.toNat:Int)) ⟨l,e⟩):=by
 obtain ⟨s,all,k,rfl,y,u,L,d,D⟩:=q;simp only at y d;have h:ao w w.drew:=Fr.drew _ w;have j:=h.at y id;have J:s.n=all.length:=by simpa using u.1
 have z:k<all.length:=by
  by_cases H:k<all.length
  .exact H
  .rw [dt (by omega)] at d;cases d
 rw [dq z] at d;injection d with E F
 have G:all[k]? =some c:=by rw [bc z,E]
 refine Ml.ok _ w _ ?_;refine ⟨_,rR j,_,oz j,by omega,by rw [J];omega,Bytes.cell (u.bA h).rd G (by rw [dJ]) λM _ K=>⟨_,K,?_⟩⟩;obtain ⟨A,B,x,C⟩:=JF j (u.bA h) D (k+1) (by omega) (ab .i64 ((k:Int)+1)) (bw k (by omega));rw [F] at x;exact ⟨_,oz j,A,B,rfl,x,h.nl.trans C λ_ _ q=>q⟩
def Jp {w:I} {s:O} {bs:List UInt8} (y:Bytes w s bs) (z:bs.length<=1000000000000):
  ai U xU #[s.v] w λr u=>∃q n,r=V (.pointer (some (aj q)))/\dC u q ⟨bs,0⟩ n/\ao w u/\∀h∈n,w.heap.size<=h:=by
 refine Mg.ok _ w _ ((F3 s bs w y (by omega)).mono ?_);rintro r d ⟨c,rfl,x,j,A⟩;have k:ao d (d.alloc (.cells #[c.v,.int .i64 0,.int .i64 0] nG)):=Fr.alloc _ _ _;refine ⟨c,rfl,d.heap.size,d.heap.size::ay c,rfl,⟨c,bs,0,rfl,gJ _ _,x.bA k,Nat.zero_le _,rfl,z⟩,j.cR k,?_⟩;intro h e;rcases aB.1 e with rfl|e
 .exact j.size
 .exact A h e
end Go.Proofs.YtocpddmpfbfdbaaGreatDoor
