import Derived.Test.YthkcmmldhceegaaGreatDoorG9
set_option linter.unusedVariables false
set_option linter.defProp false
namespace Go.Proofs.YthkcmmldhceegaaGreatDoor
open Go renaming World->C,Calls->ah,Value->ab,TypeId->aF
open Go.IntKind renaming wrap->ad
open _root_.Int renaming toNat->ae,tdiv->bE,tmod->bw,toNat_natCast->bT
open _root_.ByteArray renaming mk->av
open Go.IntWalk renaming i64_in->bf
open Go.Builtin renaming append_->bg
open Go.Sem renaming run->a'
open _root_.Nat renaming le_refl->b',le_trans->bB,beq->cv
open _root_.Prod.mk renaming injEq->eX
open _root_.Option.some renaming injEq->fb
open Go.Proofs.Tryz renaming prog->V
open _root_.Decidable renaming decide->af
open Go.Ending renaming returned->U
open List renaming mem_cons->ay,not_mem_nil->aW,mem_of_getElem?->aE,getElem?_eq_getElem->a9,drop_eq_getElem_cons->dZ,drop_of_length_le->c9
open Go Go.W
structure lg(s:J)(l:List dK)(n:Nat):Prop where
 expr:∀(pb:Nat) (st:bQ) (w:C) (x:Rx) (fT:bQ),kf l n st=some (x,fT)->st.1<l.length->iq pb s l st w->ah V qa #[.pointer (some (ag pb))] w (SA pb s w (λr w'=>fL w x r w'/\fT.1<l.length) fT)
 G1:∀(pb:Nat) (st:bQ) (w:C) (x:Rx) (fT:bQ),m5 l n st=some (x,fT)->st.1<l.length->iq pb s l st w->ah V rY #[.pointer (some (ag pb))] w (SA pb s w (λr w'=>fL w x r w'/\fT.1<l.length) fT)
 seq:∀(pb:Nat) (st:bQ) (w:C) (x:Rx) (fT:bQ),nE l n st=some (x,fT)->st.1<l.length->iq pb s l st w->ah V rZ #[.pointer (some (ag pb))] w (SA pb s w (λr w'=>fL w x r w'/\fT.1<l.length) fT)
 item:∀(pb:Nat) (st:bQ) (w:C) (x:Rx) (fT:bQ),lB l n st=some (x,fT)->st.1<l.length->iq pb s l st w->ah V qb #[.pointer (some (ag pb))] w (SA pb s w (λr w'=>fL w x r w'/\fT.1<l.length) fT)
 atom:∀(pb:Nat) (st:bQ) (w:C) (x:Rx) (fT:bQ),pj l n st=some (x,fT)->st.1<l.length->iq pb s l st w->ah V xq #[.pointer (some (ag pb))] w (SA pb s w (λr w'=>fL w x r w'/\fT.1<l.length) fT)
 kids:∀(pb:Nat) (st:bQ) (w:C) (m:List Rx) (fT:bQ),pW l n st=some (m,fT)->st.1<l.length->iq pb s l st w->ah V xr #[.pointer (some (ag pb))] w (SA pb s w (λr w'=>(∃(sl:J) (a:List I),r=U sl.v/\I.au a=m/\(bR sl a).P w'/\∀b∈(bR sl a).fp,w.heap.size<=b)/\fT.1<l.length) fT)
def yp{M:Nat->Prop}{w0 w:C}{L D:List En}{c:Nat}{s:J}{st:bQ}(H:Z M w0 w (cR c s st::L) D)(i:Nat){e:En}(hi:L[i]? =some e){b:Nat}(h:b∈e.fp):b≠c:=λd=>
 m8 H.nd (i:=i+1) (by grind) (j:=0) rfl (by omega) b h (po.2 d)
def _root_.Go.W.Z.tL{M:Nat->Prop}{w0 w:C}{L D:List En}(H:Z M w0 w L D)(j:Nat){t:I}(e:D[j]? =some (.tree t):=by rfl):Z M w0 w L (D++[.trees [t]]):=by
 refine H.gv _ (Fr.refl _ _) (I.iE λk c=>?_) λb h=>.inr (.inr ?_)
 .simp at c;subst c;exact H.getD j e
 .obtain ⟨k,c,d⟩:=I.bX.1 (a4.1 h);simp at c;rw[c]at d;exact⟨_,aE e,a4.2 d⟩
section
variable {s:J} {l:List dK} {n:Nat}
def HP(Y:iL l)(W:l.length<=1000000)(ih:∀m,m<=n->lg s l m)(d:Nat)(w:C)(x:Rx)(y:bQ):∀(f:Nat),f<=n->∀(acc:List I) (k:J) (h:Nat) (L:C) (st:bQ),ra l f (I.au acc) st=some (x,y)->st.1<l.length->acc.length+f<=1000000->(∀b∈I.bm acc,w.heap.size<=b)->
  Z (·=d) w L [cR d s st,.g h,.row aL 4 k (acc.flatMap I.c)] [cX s l,.trees acc]->
  tW.aH (ag d) h 0 0 0 ⟨none,0,0⟩ k L (SA d s w (λr F=>fL w x r F/\y.1<l.length) y)
 |0,_=>λacc k h L st z=>by unfold ra at z;cases z
 |f+1,hf=>λacc k h L st z T ap aa M=>by
  have ar:=I.cu (M.get 2:aG _ _ _ _ _).bh;unfold ra at z;have fin:∀(q:C) (j:bQ),j.1<l.length->some (pT 4 (I.au acc),j)=some (x,y)->Z (·=d) w q [cR d s j,.g h,.row aL 4 k (acc.flatMap I.c)] [cX s l,.trees acc]->
    eT [h] ov #[.i 4,k.v] q λai aj al am w8=>loc [h] w8 λan=>SA d s w (λr F=>fL w x r F/\y.1<l.length) y (U (.agg #[.i ai,.int .u8 aj,.int .u8 al,am.v])) an:=by
   intro q j O H u;simp only[fb,eX]at H;obtain⟨rfl,rfl⟩:=H;have aq:∀b∈(bR k acc).fp,w.heap.size<=b:=λb e=>by
    rcases kQ.1 e with e|e
    .exact (u.new _ (aE (i:=2) rfl) b (gi e)).resolve_right (yp u 1 rfl (gi e))
    grind
   have N:Z (·=d) w q [cR d s j,.g h] [cX s l,.trees acc,I.row k acc,.tree (bR k acc)]:=u.qw 2 1 0 0 0;refine N.px (Ak 4 k acc q (N.getD 3)) (λb e=>⟨_,aE (i:=3) rfl,a4.2 e⟩) λt w3 E B ft=>?_;refine⟨_,_,_,t.s,rfl,B.ak λw4 D=>⟨⟨⟨⟨t,rfl,E,D.getD 4,λb e=>?_⟩,O⟩,D.get 0⟩,D.fr⟩⟩;rcases ft b e with e|e
   .exact bB N.fr.size e
   grind
  have more:∀(q:C) (j:bQ),j.1<l.length->(match m5 l f j with
   |some (a,st)=>ra l f (I.au acc++[a]) st
   |none=>none)=some (x,y)->Z (·=d) w q [cR d s j,.g h,.row aL 4 k (acc.flatMap I.c)] [cX s l,.trees acc]->
    eT [h] rY #[.pointer (some (ag d))] q λad ae af ah G=>aK G (.cells #[.i ad,.int .u8 ae,.int .u8 af,ah.v] aL) λw6=>
     ∃(t13:J) (P:C),a' V (bg #[bI,bI] bI #[k.v,.slice (some (nb G)) 1 1]) w6=.ok (t13.v) P/\kept [h] w6 P/\tW.aH (ag d) h 0 0 0 ⟨none,0,0⟩ t13 P (SA d s w (λr F=>fL w x r F/\y.1<l.length) y):=by
   intro q j O H u;cases S:m5 l f j with
   |none=>grind
   |some ao=>
    obtain⟨a,K⟩:=ao;rw[S]at H;refine u.h8 ((ih f (by omega)).G1 d j q a K S O u.fQ) ?_;rintro _ w3 ⟨⟨A,rfl,hu,pu,Q⟩,ab⟩ _ F3;have B:=F3 (.tree A) pu λb e=>Q b (a4.1 e);have B:Z (·=d) w w3 [cR d s K,.g h,.row aL 4 k (acc.flatMap I.c)] [cX s l,.trees acc,.tree A]:=B;refine⟨_,_,_,A.s,rfl,B.hL 2 ka (xs:=acc.flatMap I.c) rfl (λs' G D=>?_) (by omega)⟩;have H6:Z (·=d) w G [cR d s K,.g h,.row aL 4 s' ((acc++[A]).flatMap I.c)] [cX s l,.trees (acc++[A])]:=by rw[lr];exact(D.qA 1 2).forget _ (by simp)
    refine HP Y W ih d w x y f (by omega) (acc++[A]) s' h G K ?_ ab (by grind) (rN aa λb e=>bB u.fr.size (Q b e)) H6;rw[jm];have:I.au [A]=[a]:=by simp[I.au,hu]
    grind
  refine tW.bD _ _ _ _ _ _ _ _ _ (M.h8 (pr M.fQ T W [124]) ?_);have E:=qG Y T [124] (by decide);rintro _ q rfl u _;refine⟨_,rfl,?_⟩;cases hq:eP l [124] st with
  |mk ac j=>
   rw[hq]at z u E;cases ac with
   |true=>exact more q j E z u
   |false=>exact fin q j E z u
def Qc(Q:iL l)(P:l.length<=1000000)(hn:n<=100000)(E:∀m,m<=n->lg s l m)(d:Nat)(st:bQ)(w:C)(x:Rx)(q:bQ)(B:kf l (n+1) st=some (x,q))(hi:st.1<l.length)(H:iq d s l st w):
  ah V qa #[.pointer (some (ag d))] w (SA d s w (λr W=>fL w x r W/\q.1<l.length) q):=by
 unfold kf at B;cases A:m5 l n st with
 |none=>grind
 |some Y=>
  obtain⟨a,u⟩:=Y;rw[A]at B;refine tW.aB _ w _ (H.aN λk F j=>?_);have j:Z (·=d) w F [cR d s st,.g k] [cX s l]:=j;refine j.h8 ((E n (b' _)).G1 d st F a u A hi j.fQ) ?_;rintro _ G ⟨⟨e,rfl,S,T,z⟩,O⟩ _ K;have y:=K (.tree e) T λb h=>z b (a4.1 h);have y:Z (·=d) w G [cR d s u,.g k] [cX s l,.tree e]:=y;refine⟨_,_,_,e.s,rfl,y.cB (n:=1) (sz:=4) (cs:=e.c) rfl (by decide) λJ L=>?_⟩;have M:Z (·=d) w J [cR d s u,.g k,.row aL 4 ⟨some (ag G.heap.size),1,1⟩ ([e].flatMap I.c)] [cX s l,.trees [e]]:=by
   have N:[e].flatMap I.c=e.c:=by simp
   rw[N];exact(L.tL 1).forget _ (by simp)
  refine HP Q P E d w x q n (b' _) [e] _ k J u ?_ O (by grind) (λb h=>?_) M
  .have:I.au [e]=[a]:=by simp[I.au,S]
   grind
  .obtain ⟨t,D,h⟩:=I.bX.1 h;simp at D;rw[D]at h;exact bB j.fr.size (z b h)
def G3(Y:iL l)(W:l.length<=1000000)(ih:∀m,m<=n->lg s l m)(d:Nat)(w:C)(x:Rx)(y:bQ):∀(f:Nat),f<=n->∀(acc:List I) (k:J) (h:Nat) (L:C) (st:bQ),ri l f (I.au acc) st=some (x,y)->st.1<l.length->acc.length+f<=1000000->(∀b∈I.bm acc,w.heap.size<=b)->
  Z (·=d) w L [cR d s st,.g h,.row aL 4 k (acc.flatMap I.c)] [cX s l,.trees acc]->
  tV.aH (ag d) h 0 0 0 ⟨none,0,0⟩ k L (SA d s w (λr F=>fL w x r F/\y.1<l.length) y)
 |0,_=>λacc k h L st z=>by unfold ri at z;cases z
 |f+1,hf=>λacc k h L st z T ap aa M=>by
  have ar:=I.cu (M.get 2:aG _ _ _ _ _).bh;unfold ri at z;have fin:∀(q:C) (j:bQ),j.1<l.length->some (pT 5 (I.au acc),j)=some (x,y)->Z (·=d) w q [cR d s j,.g h,.row aL 4 k (acc.flatMap I.c)] [cX s l,.trees acc]->
    eT [h] ov #[.i 5,k.v] q λai aj al am w8=>loc [h] w8 λan=>SA d s w (λr F=>fL w x r F/\y.1<l.length) y (U (.agg #[.i ai,.int .u8 aj,.int .u8 al,am.v])) an:=by
   intro q j O H u;simp only[fb,eX]at H;obtain⟨rfl,rfl⟩:=H;have aq:∀b∈(bR k acc).fp,w.heap.size<=b:=λb e=>by
    rcases kQ.1 e with e|e
    .exact (u.new _ (aE (i:=2) rfl) b (gi e)).resolve_right (yp u 1 rfl (gi e))
    grind
   have N:Z (·=d) w q [cR d s j,.g h] [cX s l,.trees acc,I.row k acc,.tree (bR k acc)]:=u.qw 2 1 0 0 0;refine N.px (Ak 5 k acc q (N.getD 3)) (λb e=>⟨_,aE (i:=3) rfl,a4.2 e⟩) λt w3 E B ft=>?_;refine⟨_,_,_,t.s,rfl,B.ak λw4 D=>⟨⟨⟨⟨t,rfl,E,D.getD 4,λb e=>?_⟩,O⟩,D.get 0⟩,D.fr⟩⟩;rcases ft b e with e|e
   .exact bB N.fr.size e
   grind
  have more:∀(q:C) (j:bQ),j.1<l.length->(match nE l f j with
   |some (a,st)=>ri l f (I.au acc++[a]) st
   |none=>none)=some (x,y)->Z (·=d) w q [cR d s j,.g h,.row aL 4 k (acc.flatMap I.c)] [cX s l,.trees acc]->
    eT [h] rZ #[.pointer (some (ag d))] q λad ae af ah G=>aK G (.cells #[.i ad,.int .u8 ae,.int .u8 af,ah.v] aL) λw6=>
     ∃(t13:J) (P:C),a' V (bg #[bI,bI] bI #[k.v,.slice (some (nb G)) 1 1]) w6=.ok (t13.v) P/\kept [h] w6 P/\tV.aH (ag d) h 0 0 0 ⟨none,0,0⟩ t13 P (SA d s w (λr F=>fL w x r F/\y.1<l.length) y):=by
   intro q j O H u;cases S:nE l f j with
   |none=>grind
   |some ao=>
    obtain⟨a,K⟩:=ao;rw[S]at H;refine u.h8 ((ih f (by omega)).seq d j q a K S O u.fQ) ?_;rintro _ w3 ⟨⟨A,rfl,hu,pu,Q⟩,ab⟩ _ F3;have B:=F3 (.tree A) pu λb e=>Q b (a4.1 e);have B:Z (·=d) w w3 [cR d s K,.g h,.row aL 4 k (acc.flatMap I.c)] [cX s l,.trees acc,.tree A]:=B;refine⟨_,_,_,A.s,rfl,B.hL 2 ka (xs:=acc.flatMap I.c) rfl (λs' G D=>?_) (by omega)⟩;have H6:Z (·=d) w G [cR d s K,.g h,.row aL 4 s' ((acc++[A]).flatMap I.c)] [cX s l,.trees (acc++[A])]:=by rw[lr];exact(D.qA 1 2).forget _ (by simp)
    refine G3 Y W ih d w x y f (by omega) (acc++[A]) s' h G K ?_ ab (by grind) (rN aa λb e=>bB u.fr.size (Q b e)) H6;rw[jm];have:I.au [A]=[a]:=by simp[I.au,hu]
    grind
  refine tV.bD _ _ _ _ _ _ _ _ _ (M.h8 (pr M.fQ T W [38]) ?_);have E:=qG Y T [38] (by decide);rintro _ q rfl u _;refine⟨_,rfl,?_⟩;cases hq:eP l [38] st with
  |mk ac j=>
   rw[hq]at z u E;cases ac with
   |true=>exact more q j E z u
   |false=>exact fin q j E z u
def PI(Q:iL l)(P:l.length<=1000000)(hn:n<=100000)(E:∀m,m<=n->lg s l m)(d:Nat)(st:bQ)(w:C)(x:Rx)(q:bQ)(B:m5 l (n+1) st=some (x,q))(hi:st.1<l.length)(H:iq d s l st w):
  ah V rY #[.pointer (some (ag d))] w (SA d s w (λr W=>fL w x r W/\q.1<l.length) q):=by
 unfold m5 at B;cases A:nE l n st with
 |none=>grind
 |some Y=>
  obtain⟨a,u⟩:=Y;rw[A]at B;refine tV.aB _ w _ (H.aN λk F j=>?_);have j:Z (·=d) w F [cR d s st,.g k] [cX s l]:=j;refine j.h8 ((E n (b' _)).seq d st F a u A hi j.fQ) ?_;rintro _ G ⟨⟨e,rfl,S,T,z⟩,O⟩ _ K;have y:=K (.tree e) T λb h=>z b (a4.1 h);have y:Z (·=d) w G [cR d s u,.g k] [cX s l,.tree e]:=y;refine⟨_,_,_,e.s,rfl,y.cB (n:=1) (sz:=4) (cs:=e.c) rfl (by decide) λJ L=>?_⟩;have M:Z (·=d) w J [cR d s u,.g k,.row aL 4 ⟨some (ag G.heap.size),1,1⟩ ([e].flatMap I.c)] [cX s l,.trees [e]]:=by
   have N:[e].flatMap I.c=e.c:=by simp
   rw[N];exact(L.tL 1).forget _ (by simp)
  refine G3 Q P E d w x q n (b' _) [e] _ k J u ?_ O (by grind) (λb h=>?_) M
  .have:I.au [e]=[a]:=by simp[I.au,S]
   grind
  .obtain ⟨t,D,h⟩:=I.bX.1 h;simp at D;rw[D]at h;exact bB j.fr.size (z b h)
def Lh(ad:iL l)(ac:l.length<=1000000)(W:∀m,m<=n->lg s l m)(d:Nat)(w:C)(x:Rx)(y:bQ):∀(f:Nat),f<=n->∀(acc:List I) (j:J) (h:Nat) (K:C) (st:bQ),rT l f (I.au acc) st=some (x,y)->st.1<l.length->acc.length+f<=1000000->(∀b∈I.bm acc,w.heap.size<=b)->
  Z (·=d) w K [cR d s st,.g h,.row aL 4 j (acc.flatMap I.c)] [cX s l,.trees acc]->
  tY.aH (ag d) h 0 0 0 ⟨none,0,0⟩ j K (SA d s w (λr E=>fL w x r E/\y.1<l.length) y)
 |0,_=>λacc j h K st z=>by unfold rT at z;cases z
 |f+1,hf=>λacc j h K st z N aq aa L=>by
  have av:=I.cu (L.get 2:aG _ _ _ _ _).bh;unfold rT at z;have fin:∀(k:C) (q:bQ),q.1<l.length->some (pT 3 (I.au acc),q)=some (x,y)->Z (·=d) w k [cR d s q,.g h,.row aL 4 j (acc.flatMap I.c)] [cX s l,.trees acc]->
    eT [h] ov #[.i 3,j.v] k λaj al am an w8=>loc [h] w8 λao=>SA d s w (λr E=>fL w x r E/\y.1<l.length) y (U (.agg #[.i aj,.int .u8 al,.int .u8 am,an.v])) ao:=by
   intro k q O G u;simp only[fb,eX]at G;obtain⟨rfl,rfl⟩:=G;have ar:∀b∈(bR j acc).fp,w.heap.size<=b:=λb e=>by
    rcases kQ.1 e with e|e
    .exact (u.new _ (aE (i:=2) rfl) b (gi e)).resolve_right (yp u 1 rfl (gi e))
    grind
   have M:Z (·=d) w k [cR d s q,.g h] [cX s l,.trees acc,I.row j acc,.tree (bR j acc)]:=u.qw 2 1 0 0 0;refine M.px (Ak 3 j acc k (M.getD 3)) (λb e=>⟨_,aE (i:=3) rfl,a4.2 e⟩) λt w3 ht B ft=>?_;refine⟨_,_,_,t.s,rfl,B.ak λw4 D=>⟨⟨⟨⟨t,rfl,ht,D.getD 4,λb e=>?_⟩,O⟩,D.get 0⟩,D.fr⟩⟩;rcases ft b e with e|e
   .exact bB M.fr.size e
   grind
  have more:∀(k:C) (q:bQ),q.1<l.length->(match lB l f q with
   |some (a,st)=>rT l f (I.au acc++[a]) st
   |none=>none)=some (x,y)->Z (·=d) w k [cR d s q,.g h,.row aL 4 j (acc.flatMap I.c)] [cX s l,.trees acc]->
    eT [h] qb #[.pointer (some (ag d))] k λae af ah ai F=>aK F (.cells #[.i ae,.int .u8 af,.int .u8 ah,ai.v] aL) λw6=>
     ∃(t13:J) (P:C),a' V (bg #[bI,bI] bI #[j.v,.slice (some (nb F)) 1 1]) w6=.ok (t13.v) P/\kept [h] w6 P/\tY.aH (ag d) h 0 0 0 ⟨none,0,0⟩ t13 P (SA d s w (λr E=>fL w x r E/\y.1<l.length) y):=by
   intro k q O G u;cases S:lB l f q with
   |none=>grind
   |some ap=>
    obtain⟨a,H⟩:=ap;rw[S]at G;refine u.h8 ((W f (by omega)).item d q k a H S O u.fQ) ?_;rintro _ w3 ⟨⟨A,rfl,hu,pu,Q⟩,ab⟩ _ F3;have B:=F3 (.tree A) pu λb e=>Q b (a4.1 e);have B:Z (·=d) w w3 [cR d s H,.g h,.row aL 4 j (acc.flatMap I.c)] [cX s l,.trees acc,.tree A]:=B;refine⟨_,_,_,A.s,rfl,B.hL 2 ka (xs:=acc.flatMap I.c) rfl (λY F D=>?_) (by omega)⟩;have H6:Z (·=d) w F [cR d s H,.g h,.row aL 4 Y ((acc++[A]).flatMap I.c)] [cX s l,.trees (acc++[A])]:=by rw[lr];exact(D.qA 1 2).forget _ (by simp)
    refine Lh ad ac W d w x y f (by omega) (acc++[A]) Y h F H ?_ ab (by grind) (rN aa λb e=>bB u.fr.size (Q b e)) H6;rw[jm];have:I.au [A]=[a]:=by simp[I.au,hu]
    grind
  refine tY.bD _ _ _ _ _ _ _ _ _ (L.ax (Ot L.fQ N) ?_);rintro _ k rfl u;refine⟨_,rfl,?_⟩;cases T:wj l st with
  |true=>rw[T]at z;exact more k st N z u
  |false=>rw[T]at z;exact fin k st N z u
def Um(Q:iL l)(P:l.length<=1000000)(hn:n<=100000)(E:∀m,m<=n->lg s l m)(d:Nat)(st:bQ)(w:C)(x:Rx)(q:bQ)(B:nE l (n+1) st=some (x,q))(hi:st.1<l.length)(H:iq d s l st w):
  ah V rZ #[.pointer (some (ag d))] w (SA d s w (λr W=>fL w x r W/\q.1<l.length) q):=by
 unfold nE at B;cases A:lB l n st with
 |none=>grind
 |some Y=>
  obtain⟨a,u⟩:=Y;rw[A]at B;refine tY.aB _ w _ (H.aN λk F j=>?_);have j:Z (·=d) w F [cR d s st,.g k] [cX s l]:=j;refine j.h8 ((E n (b' _)).item d st F a u A hi j.fQ) ?_;rintro _ G ⟨⟨e,rfl,S,T,z⟩,O⟩ _ K;have y:=K (.tree e) T λb h=>z b (a4.1 h);have y:Z (·=d) w G [cR d s u,.g k] [cX s l,.tree e]:=y;refine⟨_,_,_,e.s,rfl,y.cB (n:=1) (sz:=4) (cs:=e.c) rfl (by decide) λJ L=>?_⟩;have M:Z (·=d) w J [cR d s u,.g k,.row aL 4 ⟨some (ag G.heap.size),1,1⟩ ([e].flatMap I.c)] [cX s l,.trees [e]]:=by
   have N:[e].flatMap I.c=e.c:=by simp
   rw[N];exact(L.tL 1).forget _ (by simp)
  refine Lh Q P E d w x q n (b' _) [e] _ k J u ?_ O (by grind) (λb h=>?_) M
  .have:I.au [e]=[a]:=by simp[I.au,S]
   grind
  .obtain ⟨t,D,h⟩:=I.bX.1 h;simp at D;rw[D]at h;exact bB j.fr.size (z b h)
end
def _root_.Go.W.Z.LW{M:Nat->Prop}{w0 w:C}{L D:List En}{bs:List Nat}(H:Z M w0 w L D)(i j:Nat){b:Nat}{vs:List ab}{T:aF}{v:ab}{K:C->Prop}(hi:L[i]? =some (.c b vs T))(q:∀k,Z M w0 k (L.set i (.c b (vs.set j v) T)) D->K k)(h:j<vs.length:=by simp)(bZ:∀b∈bs,En.g b∈L:=by simp):ao w ((ag b).add j) v λn=>kept bs w n/\K n:=by obtain⟨x,y,z⟩:=H.set (v:=v) i j hi h;obtain⟨_,_,_,A⟩:=yK (H.ob i hi) j (by simpa using h) v;refine⟨x,y,λd e=>?_,q _ z⟩;refine A.cA d (H.own _ (bZ d e)) λu=>pR H hi (wu w b vs T) (bZ d e) ?_;rw[u];exact po.2 rfl
def _root_.Go.W.Z.one{M:Nat->Prop}{w0 w:C}{L D:List En}(H:Z M w0 w L D)(i j:Nat){e:aF}{h:J}{u:I}(k:Int)(lo hi:UInt8)(x:L[i]? =some (.row e 4 h u.c):=by rfl)(y:D[j]? =some (.tree u):=by rfl):Z M w0 w (L.eraseIdx i) (D++[.tree (.mk k lo hi h [u])]):=by
 have n:=H.tL j y;have e:[u].flatMap I.c=u.c:=by simp
 have q:=n.qw i D.length k lo hi (s:=h) (ts:=[u]) (by rw[e];exact x) (by simp);exact q.forget _ (λz d=>by
  simp only[List.mem_append,ay,aW,a3]at d ⊢;rcases d with d|d
  .exact .inl (.inl (.inl d))
  .exact .inr d)
def DA{w:C}{e:J}{u:I}{k:Int}{lo hi:UInt8}(h:∀b∈aO e,w.heap.size<=b)(j:∀b∈u.fp,w.heap.size<=b):∀b∈(I.mk k lo hi e [u]).fp,w.heap.size<=b:=λb c=>by
 unfold I.fp at c;rcases List.mem_append.1 c with c|c
 .exact yz h b c
 .obtain ⟨t,d,c⟩:=I.bX.1 c;simp at d;rw[d]at c;exact j b c
section
variable {s:J} {l:List dK} {n:Nat}
def ID(J:iL l)(H:l.length<=1000000)(e:Nat)(w:C)(x:Rx)(A:bQ):∀(f:Nat) (u:I) (h j:Nat) (B:C) (st:bQ),vw l f u.rx st=some (x,A)->st.1<l.length->(∀b∈u.fp,w.heap.size<=b)->
  Z (·=e) w B [cR e s st,.g h,.g j] [cX s l,.tree u]->
  wL.aH (ag e) h 0 0 0 ⟨none,0,0⟩ j u.k (u.lo.toNat:Int) (u.hi.toNat:Int) u.s B (SA e s w (λr S=>fL w x r S/\A.1<l.length) A)
 |0,u,h,j,B,st,d,_,_,_=>by unfold vw at d;cases d
 |f+1,u,h,j,B,st,d,G,F,D=>by
  unfold vw at d;refine wL.bD _ _ _ _ _ _ _ _ _ _ _ _ _ (D.h8 (pr D.fQ G H [42]) ?_);have y:=qG J G [42] (by decide);rintro _ L rfl z _;refine⟨_,rfl,?_⟩;cases P:eP l [42] st with
  |mk Q K=>
   rw[P]at d z y;cases Q with
   |true=>
    dsimp only at d y;refine a8 rfl ?_;refine z.cB (n:=1) (sz:=4) (cs:=u.c) rfl (by decide) λT q=>q.ak λM N=>?_;have O:Z (·=e) w M [cR e s K,.g h,.g j] [cX s l,.tree (.mk 7 0 0 ⟨some (ag L.heap.size),1,1⟩ [u])]:=(N.one 3 1 7 0 0).forget _ (by simp);refine ID J H e w x A f (.mk 7 0 0 ⟨some (ag L.heap.size),1,1⟩ [u]) h j M K d y (DA (λb E=>?_) F) O;simp only[aO,ay,aW,a3]at E;rw[E];exact z.fr.size
   |false=>
    dsimp only at d y;simp only[fb,eX]at d;obtain⟨d,rfl⟩:=d;refine bb rfl ?_;exact z.ak λT q=>⟨⟨⟨⟨u,rfl,d,q.getD 1,F⟩,y⟩,q.get 0⟩,q.fr⟩
def Rh(T:iL l)(S:l.length<=1000000)(W:lg s l n)(h:Nat)(st:bQ)(w:C)(x:Rx)(D:bQ)(d:lB l (n+1) st=some (x,D))(hi:st.1<l.length)(H:iq h s l st w):
  ah V qb #[.pointer (some (ag h))] w (SA h s w (λr w'=>fL w x r w'/\D.1<l.length) D):=by
 unfold lB at d;refine wL.aB _ w _ (H.aN λK w1 A=>?_);have A:Z (·=h) w w1 [cR h s st,.g K] [cX s l]:=A;refine A.h8 (pr A.fQ hi S [33]) ?_;have y:=qG T hi [33] (by decide);rintro _ Y rfl k _;refine⟨_,rfl,?_⟩;cases hq:eP l [33] st with
 |mk aa E=>
  rw[hq]at d k y;cases aa with
  |true=>
   dsimp only at d y;cases q:lB l n E with
   |none=>rw[q]at d;cases d
   |some Q=>
    obtain⟨a,z⟩:=Q;rw[q]at d;simp only[fb,eX]at d;obtain⟨d,rfl⟩:=d;refine a8 rfl ?_;refine k.h8 (W.item h E Y a z q y k.fQ) ?_;rintro _ O ⟨⟨j,rfl,M,N,u⟩,L⟩ _ F;have B:=F (.tree j) N λb e=>u b (a4.1 e);refine⟨_,_,_,j.s,rfl,B.cB (n:=1) (sz:=4) (cs:=j.c) rfl (by decide) λw4 G=>G.ak λP I=>?_⟩;have J:Z (·=h) w P [cR h s z,.g K] [cX s l,.tree (.mk 6 0 0 ⟨some (ag O.heap.size),1,1⟩ [j])]:=(I.one 2 1 6 0 0).forget _ (by simp);refine⟨⟨⟨⟨.mk 6 0 0 ⟨some (ag O.heap.size),1,1⟩ [j],rfl,?_,J.getD 1,DA (λb e=>?_) (λb e=>bB k.fr.size (u b e))⟩,L⟩,J.get 0⟩,J.fr⟩
    .rw [<-d,<-M];rfl
    .simp only[aO,ay,aW,a3]at e;rw[e];exact B.fr.size
  |false=>
   dsimp only at d y;cases q:pj l n E with
   |none=>rw[q]at d;cases d
   |some Q=>
    obtain⟨a,z⟩:=Q;rw[q]at d;refine bb rfl ?_;refine k.h8 (W.atom h E Y a z q y k.fQ) ?_;rintro _ O ⟨⟨j,rfl,M,N,u⟩,L⟩ _ F;have B:=F (.tree j) N λb e=>u b (a4.1 e);refine⟨_,_,_,j.s,rfl,B.aN λb4 w4 G=>G.ak λP I=>?_⟩;exact ID T S h w x D n j K b4 P z (by rw[M];exact d) L (λb e=>bB k.fr.size (u b e)) I
def IP(G:iL l)(F:l.length<=1000000)(M:∀m,m<=n->lg s l m)(h:Nat)(w:C)(m:List Rx)(y:bQ):∀(f:Nat),f<=n->∀(acc:List I) (j:J) (A:C) (st:bQ),uy l f (I.au acc) st=some (m,y)->st.1<l.length->acc.length+f<=1000000->(∀b∈I.bm acc,w.heap.size<=b)->
  Z (·=h) w A [cR h s st,.row aL 4 j (acc.flatMap I.c)] [cX s l,.trees acc]->
  tX.L1 (ag h) j A (SA h s w (λr w'=>(∃(j:J) (a:List I),r=U j.v/\I.au a=m/\(bR j a).P w'/\∀b∈(bR j a).fp,w.heap.size<=b)/\y.1<l.length) y)
 |0,_=>λacc j A st d=>by unfold uy at d;cases d
 |f+1,hf=>λacc j A st d L ad K B=>by
  have ae:=I.cu (B.get 1:aG _ _ _ _ _).bh;unfold uy at d;refine tX.j3 _ _ _ _ (B.pw (pr B.fQ L F [44]) ?_);have x:=qG G L [44] (by decide);rintro _ w2 rfl q _;refine⟨_,rfl,?_⟩;cases hq:eP l [44] st with
  |mk ab O=>
   rw[hq]at d q x;cases ab with
   |true=>
    dsimp only at d x;cases E:kf l f O with
    |none=>rw[E]at d;cases d
    |some ac=>
     obtain⟨a,z⟩:=ac;rw[E]at d;refine a8 rfl ?_;refine q.pw ((M f (by omega)).expr h O w2 a z E x q.fQ) ?_;rintro _ Q ⟨⟨k,rfl,hu,pu,H⟩,aa⟩ _ T;have D:=T (.tree k) pu λb e=>H b (a4.1 e);have D:Z (·=h) w Q [cR h s z,.row aL 4 j (acc.flatMap I.c)] [cX s l,.trees acc,.tree k]:=D;refine⟨_,_,_,k.s,rfl,D.tm 1 ka (xs:=acc.flatMap I.c) rfl (λN S W _ _=>?_) (by omega)⟩;have Y:Z (·=h) w S [cR h s z,.row aL 4 N ((acc++[k]).flatMap I.c)] [cX s l,.trees (acc++[k])]:=by rw[lr];exact(W.qA 1 2).forget _ (by simp)
     refine IP G F M h w m y f (by omega) (acc++[k]) N S z ?_ aa (by simp;omega) (rN K λb e=>bB q.fr.size (H b e)) Y;rw[jm];have:I.au [k]=[a]:=by simp[I.au,hu]
     rw[this];exact d
   |false=>
    dsimp only at d x;simp only[fb,eX]at d;obtain⟨rfl,rfl⟩:=d;refine bb rfl ?_;refine q.pw (tB q.fQ x F [41]) ?_;rintro _ Q rfl u _;refine⟨rfl,⟨⟨⟨j,acc,rfl,rfl,dx.2 ⟨(u.get 1:aG _ _ _ _ _).bh,u.getD 1⟩,λb e=>?_⟩,uU G x [41] (by decide)⟩,u.get 0⟩,u.fr⟩;rcases kQ.1 e with e|e
    .exact (u.new _ (aE (i:=1) rfl) b (gi e)).resolve_right (yp u 0 rfl (gi e))
    .exact K b e
def RA(D:iL l)(B:l.length<=1000000)(hn:n<=100000)(N:∀m,m<=n->lg s l m)(j:Nat)(st:bQ)(w:C)(m:List Rx)(x:bQ)(e:pW l (n+1) st=some (m,x))(hi:st.1<l.length)(H:iq j s l st w):
  ah V xr #[.pointer (some (ag j))] w (SA j s w (λr F=>(∃(u:J) (a:List I),r=U u.v/\I.au a=m/\(bR u a).P F/\∀b∈(bR u a).fp,w.heap.size<=b)/\x.1<l.length) x):=by
 unfold pW at e;refine tX.ok _ w _ (H.pw (tB H hi B [40]) ?_);have M:=uU D hi [40] (by decide);rintro _ w1 rfl K _;refine⟨rfl,K.pw (pr K.fQ M B [41]) ?_⟩;have y:=qG D M [41] (by decide);rintro _ G rfl k _;cases hq:eP l [41] (jP l [40] st)with
 |mk O z=>
  rw[hq]at e k y;have none_:some (([]:List Rx),z)=some (m,x)->tX.S0 G (SA j s w (λr F=>(∃(u:J) (a:List I),r=U u.v/\I.au a=m/\(bR u a).P F/\∀b∈(bR u a).fp,w.heap.size<=b)/\x.1<l.length) x):=by
   intro e;simp only[fb,eX]at e;obtain⟨rfl,rfl⟩:=e;refine⟨⟨⟨⟨⟨none,0,0⟩,[],rfl,rfl,dx.2 ⟨bF.nil 4 G,by unfold I.Ps;trivial⟩,λb d=>?_⟩,y⟩,k.get 0⟩,k.fr⟩;rcases kQ.1 d with d|d
   .simp [I.row,En.bh]at d
   .unfold I.bm at d;cases d
  refine⟨_,rfl,z.2,k.ld 0 2,cK (λd=>none_ (by simpa[d]using e)) (λd=>cK (λq=>none_ (by have q:O=true:=q;simpa[q]using e)) (λq=>?_))⟩
  have q:O=false:=q;simp only[d,q,Bool.or_false,cond_false]at e;cases A:kf l n z with
  |none=>rw[A]at e;cases e
  |some ac=>
   obtain⟨a,E⟩:=ac;rw[A]at e;refine k.pw ((N n (b' _)).expr j z G a E A y k.fQ) ?_;rintro _ w3 ⟨⟨h,rfl,hu,pu,L⟩,ab⟩ _ S;have T:=S (.tree h) pu λb d=>L b (a4.1 d);refine⟨_,_,_,h.s,rfl,T.cB (n:=1) (sz:=4) (cs:=h.c) rfl (by decide) λQ W=>?_⟩;have Y:Z (·=j) w Q [cR j s E,.row aL 4 ⟨some (ag w3.heap.size),1,1⟩ ([h].flatMap I.c)] [cX s l,.trees [h]]:=by
    have aa:[h].flatMap I.c=h.c:=by simp
    rw[aa];exact(W.tL 1).forget _ (by simp)
   refine IP D B N j w m x n (b' _) [h] _ Q E ?_ ab (by simp;omega) (λb d=>?_) Y
   .have:I.au [h]=[a]:=by simp[I.au,hu]
    rw[this];exact e
   .obtain ⟨t,y,d⟩:=I.bX.1 d;simp at y;rw[y]at d;exact bB k.fr.size (L b d)
end
set_option maxRecDepth 100000
set_option maxHeartbeats 1000000
abbrev fU:En:=.rd ⟨some (ag 0),6,6⟩ (qK.map h1)
abbrev wB(i:Nat):ByteArray:=ba (qK.getD i [])
def VL{w:C}(h:fU.P w)(i:Nat)(hi:i<6):w.cell? ((Addr.mk 0 0 none).add i)=some (.string (wB i)):=by
 have c:∀i<6,(qK.map h1)[i]? =some (.string (wB i)):=by
  intro i hi
  match i,hi with
  |0,_=>rfl
  |1,_=>rfl
  |2,_=>rfl
  |3,_=>rfl
  |4,_=>rfl
  |5,_=>rfl
 obtain⟨p,e,d⟩:=(show Rd w _ _ from h).2.2.2 i _ (c i hi);cases e;exact d
structure Sp where
 x:dz
 p:J
 l:J
 h:J
namespace Sp
def c(d:Sp):List ab:=[.i d.x.kind,.i d.x.node,.i d.x.dD,d.p.v,.string d.x.nm,d.l.v,d.h.v]
abbrev v(d:Sp):ab:=.agg #[.i d.x.kind,.i d.x.node,.i d.x.dD,d.p.v,.string d.x.nm,d.l.v,d.h.v]
abbrev pE(d:Sp):En:=.rd d.p (d.x.params.map bd)
abbrev lE(d:Sp):En:=.rd d.l (d.x.cY.map bd)
abbrev hE(d:Sp):En:=.rd d.h (d.x.hints.map bd)
end Sp
set_option maxHeartbeats 2000000
namespace Hl
noncomputable abbrev X:Fx:=⟨V,Tryz.f89,[],[]⟩
def ok(c:Int)(w:C)(R:aa)(h:gL xp #[.int .u8 c] w λq d=>Y q (aK d (.cells #[.int .u8 39,.int .u8 c,.int .u8 39] db) λe=>
 ∃k:ByteArray,a' V (Go.convert bM da (.slice (some (nb d)) 3 3)) e=.ok (.string k) e/\R (U (.string k)) e) (As uD #[.i (ad .i64 (bE (ad .i64 c) 16))] d λt11 u=>As uD #[.i (bw (ad .i64 c) 16)] u λt15 n=>aK n (.cells #[.int .u8 92,.int .u8 120,.int .u8 t11,.int .u8 t15] db) λj=>
 ∃t17:ByteArray,a' V (Go.convert bM da (.slice (some (nb n)) 4 4)) j=.ok (.string t17) j/\R (U (.string t17)) j)):ah V uA #[.int .u8 c] w R:=aM X [] h
end Hl
namespace A0
noncomputable abbrev X:Fx:=⟨V,Tryz.f88,[],[1]⟩
abbrev P0:Ps:=[]
abbrev aS(w:C)(R:aa):Prop:=
 R (U (.i 4)) w
noncomputable def aT:=aC X [] (ai [0,1,1,1,2]) P0 aS
def aB(c k q:Int)(e:J)(w:C)(R:aa)(h:aP [] w λx d=>
 Y (c==6) (R (U (.i 3)) d) (Y (af (c<3)) (aS d R) (Y (c==7) (aS d R) (Y (af (((e.n:Nat):Int)<2)) (aS d R) (aK d (.cells #[.i 2,.i 0,.i 1] bp) λj=>
 (0:Int)<=(ad .i64 (c - 3))/\(ad .i64 (c - 3))<((3:Nat):Int)/\cd (some (nb d)) λu=>∃t25:Int,j.cell? (u.add (ae (ad .i64 (c - 3)) *1))=some (.i t25)/\
 R (U (.i t25)) j))))):ah V uB #[.agg #[.i c,.int .u8 k,.int .u8 q,e.v]] w R:=aM X [aT] h
end A0
namespace Hu
noncomputable abbrev X:Fx:=⟨V,Tryz.f90,[],[]⟩
def ok(c:Int)(w:C)(R:aa)(h:Y (af (c>=97)) (R (U (.bool (af (c<=122)))) w) (R (U (.bool false)) w)):ah V xo #[.int .u8 c] w R:=aM X [] h
end Hu
namespace lx
noncomputable abbrev X:Fx:=⟨V,Tryz.f74,[(11,ls [0,1,5,6,2,3,4,7,8,9,10])],[2]⟩
abbrev P0:Ps:=[(2,.l [.I,.Y,.Y,.s] aL),(5,.v [.st])]
abbrev aS(j:Nat)(d k n:Int)(q:J)(c:ByteArray)(w:C)(R:aa):Prop:=
 aK w (.cells #[.string (av #[99,97,116,40]),.string (av #[97,108,116,40]),.string (av #[97,108,108,40])] da) λe=>
 (0:Int)<=(ad .i64 (d - 3))/\(ad .i64 (d - 3))<((3:Nat):Int)/\cd (some (nb w)) λh=>∃t79:ByteArray,e.cell? (h.add (ae (ad .i64 (d - 3)) *1))=some (.string t79)/\
 ¬(((t79.size+c.size:Nat):Int)>IntKind.i64.max)/\¬((((t79++c).size+(av #[41]).size:Nat):Int)>IntKind.i64.max)/\R (U (.string ((t79++c)++(av #[41])))) e
noncomputable def aT:=aC X [] (ai [2,1,1,1,3]) P0 aS
abbrev P1:Ps:=[(2,.l [.I,.Y,.Y,.s] aL),(6,.v [.st]),(7,.v [.I]),(8,.v [.st]),(9,.v [.I])]
def bO(h:Nat)(j k n:Int)(q:J)(u:ByteArray)(e:Int)(d:ByteArray)(c:Int)(w:C)(R:aa):Prop:=bz P1 0 (X.Sem (ai [0,1,1,1,7])) h j k n q u e d c w R
noncomputable def bx:=bK X (ai [0,1,1,1,7]) P1 bO
abbrev be(h:Nat)(j k n:Int)(q:J)(u:ByteArray)(e:Int)(d:ByteArray)(c:Int)(w:C)(R:aa):Prop:=
 bO h j k n q u e d (ad .i64 (c+1)) w R
noncomputable def a7:=aC X [bx,aT] (ai [2,2,1,1,7]) P1 be
abbrev P2:Ps:=[(2,.l [.I,.Y,.Y,.s] aL),(6,.v [.st]),(7,.v [.I]),(8,.v [.st]),(9,.v [.I]),(10,.v [.st])]
abbrev aY(k:Nat)(n q u:Int)(x:J)(c:ByteArray)(j:Int)(d:ByteArray)(h:Int)(e:ByteArray)(w:C)(R:aa):Prop:=
 ¬(((d.size+c.size:Nat):Int)>IntKind.i64.max)/\¬((((d++c).size+e.size:Nat):Int)>IntKind.i64.max)/\be k n q u x c j ((d++c)++e) h w R
noncomputable def a1:=aC X [a7,bx,aT] (ai [2,2,1,2,1,1,7]) P2 aY
def eh:∀(e:Nat) (q u x:Int) (j:J) (y:ByteArray) (k:Int) (c:ByteArray) (d:Int) (w:C) (R:aa) (h:Y (af (d<((j.n:Nat):Int))) (aw j d λF=>bH w (F.add (ae d *4)) λG H I K=>eM [e] jj #[.agg #[.i G,.int .u8 H,.int .u8 I,K.v],.i (ad .i64 (k+1))] w λt112 B=>Y (q==3) ((0:Int)<=(ad .i64 (((c.size:Nat):Int) - 1))/\∃z:UInt8,c[ae (ad .i64 (((c.size:Nat):Int) - 1))]? =some z/\bP [e] xo #[.int .u8 ((z.toNat:Nat):Int)] B λt122 D=>Y t122 ((0:Int)<=0/\∃A:UInt8,t112[ae 0]? =some A/\bP [e] xo #[.int .u8 ((A.toNat:Nat):Int)] D λt127 E=>Y t127 (¬(((c.size+(av #[32]).size:Nat):Int)>IntKind.i64.max)/\aY e q u x j y k (c++(av #[32])) d t112 E R) (aY e q u x j y k c d t112 E R)) (aY e q u x j y k c d t112 D R)) (aY e q u x j y k c d t112 B R)) (R (U (.string c)) w)),bO e q u x j y k c d w R:=mp (bL (X:=X) [a1,a7,bx,aT] (ai [0,1,1,1,7]) P1)
def aB(c k q:Int)(j:J)(u:Int)(w:C)(R:aa)(h:aP [] w λd w1=>
 bG [d] uB #[.agg #[.i c,.int .u8 k,.int .u8 q,j.v]] w1 λt12 e=>Y (af (t12<u)) (eM [d] jj #[.agg #[.i c,.int .u8 k,.int .u8 q,j.v],.i 0] e λt16 w3=>¬((((av #[40]).size+t16.size:Nat):Int)>IntKind.i64.max)/\¬(((((av #[40])++t16).size+(av #[41]).size:Nat):Int)>IntKind.i64.max)/\R (U (.string (((av #[40])++t16)++(av #[41])))) w3) (Y (c==0) (R (U (.string (av #[110,111,110,101]))) e) (Y (c==1) (R (U (.string (av #[101,109,112,116,121]))) e) (Y (c==2) (Y (k==q) (eM [d] uA #[.int .u8 k] e λt34 w4=>R (U (.string t34)) w4) (loc [d] e λw5=>eM [d] uA #[.int .u8 k] w5 λt37 w6=>¬((((av #[91]).size+t37.size:Nat):Int)>IntKind.i64.max)/\¬(((((av #[91])++t37).size+(av #[45]).size:Nat):Int)>IntKind.i64.max)/\eM [d] uA #[.int .u8 q] w6 λt42 w7=>¬((((((av #[91])++t37)++(av #[45])).size+t42.size:Nat):Int)>IntKind.i64.max)/\¬(((((((av #[91])++t37)++(av #[45]))++t42).size+(av #[93]).size:Nat):Int)>IntKind.i64.max)/\R (U (.string (((((av #[91])++t37)++(av #[45]))++t42)++(av #[93])))) w7)) (Y (c==6) (aw j 0 λz=>bH e (z.add (ae 0 *4)) λA B D E=>eM [d] jj #[.agg #[.i A,.int .u8 B,.int .u8 D,E.v],.i 3] e λt51 w8=>¬((((av #[33]).size+t51.size:Nat):Int)>IntKind.i64.max)/\R (U (.string ((av #[33])++t51))) w8) (Y (c==7) (aw j 0 λF=>bH e (F.add (ae 0 *4)) λG H I K=>eM [d] jj #[.agg #[.i G,.int .u8 H,.int .u8 I,K.v],.i 4] e λt59 w9=>¬(((t59.size+(av #[42]).size:Nat):Int)>IntKind.i64.max)/\R (U (.string (t59++(av #[42])))) w9) (Y (af (((j.n:Nat):Int)<2)) (Y (((j.n:Nat):Int)==1) (aw j 0 λL=>bH e (L.add (ae 0 *4)) λM N O P=>eM [d] jj #[.agg #[.i M,.int .u8 N,.int .u8 O,P.v],.i 0] e λt73 ac=>aS d c k q j t73 ac R) (aS d c k q j (av #[]) e R)) (aK e (.cells #[.s0,.string (av #[124]),.string (av #[38])] da) λx=>
 (0:Int)<=(ad .i64 (c - 3))/\(ad .i64 (c - 3))<((3:Nat):Int)/\cd (some (nb e)) λQ=>∃t88:ByteArray,x.cell? (Q.add (ae (ad .i64 (c - 3)) *1))=some (.string t88)/\
 bG [d] uB #[.agg #[.i c,.int .u8 k,.int .u8 q,j.v]] x λt90 y=>aw j 0 λS=>bH y (S.add (ae 0 *4)) λT W Z ab=>eM [d] jj #[.agg #[.i T,.int .u8 W,.int .u8 Z,ab.v],.i (ad .i64 (t90+1))] y λt97 ag=>bO d c k q j t88 t90 t97 1 ag R)))))))):ah V jj #[.agg #[.i c,.int .u8 k,.int .u8 q,j.v],.i u] w R:=aM X [a1,a7,bx,aT] h
end lx
namespace Qa
noncomputable def C0:Code:=(Tryz.f54.body).getD .skip
noncomputable def C1:=C0.sn
noncomputable def C2:=C1.sn
noncomputable def C3:=C2.sn
noncomputable def C4:=C3.sn
noncomputable def C5:=C4.sn
noncomputable def C6:=C5.sn
noncomputable def C7:=C6.sn
noncomputable def C8:=C7.sn
abbrev Q0(R:aa):hF:=(bodyPost V Tryz.f54 R)
noncomputable def C9:=C8.sn
abbrev S0(c:Int)(d:J)(w:C)(R:aa):Prop:=
 (0:Int)<=(bw (ad .i64 (bE c 216)) 8)/\(bw (ad .i64 (bE c 216)) 8)<((d.n:Nat):Int)/\cd d.a λe=>bH w (e.add (ae (bw (ad .i64 (bE c 216)) 8) *4)) λh j k q=>ll qd #[.agg #[.i h,.int .u8 j,.int .u8 k,q.v]] w λu x y z A=>mc jj #[.agg #[.i u,.int .u8 x,.int .u8 y,z.v],.i 0] A λt86 B=>R (U (.string t86)) B
def zI(E:Env)(w:C)(R:aa):Prop:=W.asInt .i64 (Env.get? E 3) λd=>W.asSlice (Env.get? E 9) λc=>S0 d c w R
end Qa
namespace Hm
noncomputable abbrev X:Fx:=⟨V,Tryz.f71,[],[3,6]⟩
def aB(e:ByteArray)(w:C)(R:aa)(h:Gy Ca #[.string e] w λu x y z K A H=>aP [] H λc n=>
 Y (A !=0) (loc [c] n λk=>R (U (.bool false)) k) (loc [c] n λk=>tE [c] B' #[.agg #[.i u,.int .u8 x,.int .u8 y,z.v]] k λB D E F G J=>aP [c] J λd q=>
 Y (G==0) (loc [c,d] q λj=>eM [c,d] jj #[.agg #[.i B,.int .u8 D,.int .u8 E,F.v],.i 0] j λt25 I=>R (U (.bool (t25.toList==e.toList))) I) (loc [c,d] q λj=>R (U (.bool false)) j))):ah V B9 #[.string e] w R:=aM X [] h
end Hm
namespace HC
noncomputable abbrev X:Fx:=⟨V,Tryz.f52,[],[2]⟩
def aB(c:Int)(w:C)(R:aa)(h:aP [] w λd e=>
 loc [d] e λj=>R (U (.agg #[.i 0,.i c,.i 0])) j):ah V fi #[.i c] w R:=aM X [] h
end HC
namespace HG
noncomputable abbrev X:Fx:=⟨V,Tryz.f53,[],[2]⟩
def aB(c:Int)(w:C)(R:aa)(h:aP [] w λd e=>
 loc [d] e λj=>R (U (.agg #[.i 1,.i c,.i 0])) j):ah V lI #[.i c] w R:=aM X [] h
end HG
namespace HH
noncomputable abbrev X:Fx:=⟨V,Tryz.f83,[],[]⟩
def ok(c:J)(d:Int)(w:C)(R:aa)(h:gL B7 #[c.v,.i d] w λe j=>R (U (.bool e)) j):ah V xy #[c.v,.i d] w R:=aM X [] h
end HH
namespace HE
noncomputable abbrev X:Fx:=⟨V,Tryz.f55,[],[]⟩
abbrev P0:Ps:=[]
abbrev S0(w:C)(R:aa):Prop:=
 R (U (.i (-1))) w
noncomputable def aT:=aC X [] (ai [0,1,1,1,1]) P0 S0
abbrev S1(w:C)(R:aa):Prop:=
 R (U (.i 1)) w
noncomputable def aX:=aC X [aT] (ai [0,1,1,1,1,1,3]) P0 S1
abbrev S3(w:C)(R:aa):Prop:=
 R (U (.i 3)) w
noncomputable def a7:=aC X [aX,aT] (ai [0,1,3,1,1,1,3]) P0 S3
abbrev S4(w:C)(R:aa):Prop:=
 R (U (.i 2)) w
noncomputable def bq:=aC X [a7,aX,aT] (ai [4]) P0 S4
abbrev P1:Ps:=[(11,.v [.I])]
abbrev S2(t11:Int)(w:C)(R:aa):Prop:=
 Y (t11==19) (Y (t11==19) (S3 w R) (S4 w R)) (Y (t11==25) (Y (t11==25) (S3 w R) (S4 w R)) (Y (t11==30) (Y (t11==30) (S3 w R) (S4 w R)) (Y (t11==32) (S3 w R) (S4 w R))))
noncomputable def a1:=aC X [bq,a7,aX,aT] (ai [2,1,1,1,3]) P1 S2
def ok(c:Int)(w:C)(R:aa)(h:Y (af (c<0)) (S0 w R) (Y (af (c>34)) (S0 w R) (Y (af (c<=3)) (R (U (.i 0)) w) (Y (c==4) (Y (c==4) (S1 w R) (S2 c w R)) (Y (c==5) (Y (c==5) (S1 w R) (S2 c w R)) (Y (c==21) (Y (c==21) (S1 w R) (S2 c w R)) (Y (c==22) (Y (c==22) (S1 w R) (S2 c w R)) (Y (c==23) (Y (c==23) (S1 w R) (S2 c w R)) (Y (c==27) (Y (c==27) (S1 w R) (S2 c w R)) (Y (c==28) (Y (c==28) (S1 w R) (S2 c w R)) (Y (c==33) (Y (c==33) (S1 w R) (S2 c w R)) (Y (c==34) (S1 w R) (S2 c w R))))))))))))):ah V xv #[.i c] w R:=aM X [a1,bq,a7,aX,aT] h
end HE
namespace ly
noncomputable abbrev X:Fx:=⟨V,Tryz.f38,[],[]⟩
abbrev P0:Ps:=[]
abbrev S0(w:C)(R:aa):Prop:=
 R (U (.bool false)) w
noncomputable def aT:=aC X [] (ai [0,1,1,1,1]) P0 S0
abbrev P1:Ps:=[(0,.v [.st]),(3,.v [.I])]
def L1(d:ByteArray)(c:Int)(w:C)(R:aa):Prop:=bz P1 0 (X.Sem (ai [0,1,1,1,2])) d c w R
noncomputable def bx:=bK X (ai [0,1,1,1,2]) P1 L1
abbrev S4(d:ByteArray)(c:Int)(w:C)(R:aa):Prop:=
 L1 d (ad .i64 (c+1)) w R
noncomputable def bq:=aC X [bx,aT] (ai [2,2,1,1,2]) P1 S4
abbrev P2:Ps:=[(0,.v [.st]),(3,.v [.I]),(4,.v [.b]),(5,.v [.b])]
abbrev S3(d:ByteArray)(c:Int)(e h:Bool)(w:C)(R:aa):Prop:=
 Y (!e) (Y (!h) (R (U (.bool false)) w) (S4 d c w R)) (S4 d c w R)
noncomputable def a7:=aC X [bq,bx,aT] (ai [2,2,1,2,1,1,2]) P2 S3
abbrev P3:Ps:=[(0,.v [.st]),(3,.v [.I]),(4,.v [.b])]
abbrev S2(d:ByteArray)(c:Int)(e:Bool)(w:C)(R:aa):Prop:=
 (0:Int)<=c/\∃h:UInt8,d[ae c]? =some h/\Y (af (((h.toNat:Nat):Int)>=48)) ((0:Int)<=c/\∃j:UInt8,d[ae c]? =some j/\Y (af (((j.toNat:Nat):Int)<=57)) (S3 d c e true w R) ((0:Int)<=c/\∃k:UInt8,d[ae c]? =some k/\S3 d c e (((k.toNat:Nat):Int)==45) w R)) ((0:Int)<=c/\∃n:UInt8,d[ae c]? =some n/\S3 d c e (((n.toNat:Nat):Int)==45) w R)
noncomputable def a1:=aC X [a7,bq,bx,aT] (ai [1,2,1,2,1,1,2]) P3 S2
def j3:∀(d:ByteArray) (c:Int) (w:C) (R:aa) (h:Y (af (c<((d.size:Nat):Int))) ((0:Int)<=c/\∃e:UInt8,d[ae c]? =some e/\Y (af (((e.toNat:Nat):Int)>=97)) ((0:Int)<=c/\∃j:UInt8,d[ae c]? =some j/\S2 d c (af (((j.toNat:Nat):Int)<=122)) w R) (S2 d c false w R)) (R (U (.bool true)) w)),L1 d c w R:=mp (bL (X:=X) [a1,a7,bq,bx,aT] (ai [0,1,1,1,2]) P1)
def ok(c:ByteArray)(w:C)(R:aa)(h:Y (af (((c.size:Nat):Int)<1)) (S0 w R) (Y (af (((c.size:Nat):Int)>16)) (S0 w R) ((0:Int)<=0/\∃d:UInt8,c[ae 0]? =some d/\Y (af (((d.toNat:Nat):Int)<97)) (S0 w R) ((0:Int)<=0/\∃e:UInt8,c[ae 0]? =some e/\Y (af (((e.toNat:Nat):Int)>122)) (S0 w R) (L1 c 0 w R))))):ah V xx #[.string c] w R:=aM X [a1,a7,bq,bx,aT] h
end ly
namespace HA
noncomputable abbrev X:Fx:=⟨V,Tryz.f103,[],[]⟩
def ok(c e d:Int)(w:C)(R:aa)(h:Y (af (c>=e)) (R (U (.bool (af (c<=d)))) w) (R (U (.bool false)) w)):ah V lH #[.i c,.i e,.i d] w R:=aM X [] h
end HA
namespace pL
noncomputable abbrev X:Fx:=⟨V,Tryz.f84,[],[1]⟩
abbrev P0:Ps:=[(3,.v [.b])]
abbrev aS(c:Bool)(w:C)(R:aa):Prop:=
 Y (!c) (R (U (.i 9)) w) (R (U (.i 0)) w)
noncomputable def aT:=aC X [] (ai [3]) P0 aS
def aB(d e j:Int)(w:C)(R:aa)(h:aP [] w λc k=>
 Y (d==0) (bP [c] lH #[.i e,.i 1,.i 64] k λt10 n=>Y t10 (aS (j==0) n R) (aS false n R)) (Y (d==1) (bP [c] lH #[.i e,.i 0,.i 64] k λt20 q=>Y t20 (aS (j==0) q R) (aS false q R)) (Y (d==2) (bP [c] lH #[.i e,.i 1,.i 64] k λt30 u=>Y t30 (bP [c] lH #[.i j,.i 1,.i 16] u λt34 y=>aS t34 y R) (aS false u R)) (Y (d==3) (bP [c] lH #[.i e,.i 0,.i 64] k λt40 x=>Y t40 (bP [c] lH #[.i j,.i 1,.i 16] x λt44 z=>aS t44 z R) (aS false x R)) (aS false k R))))):ah V Cj #[.agg #[.i d,.i e,.i j]] w R:=aM X [aT] h
end pL
namespace ua
noncomputable abbrev X:Fx:=⟨V,Tryz.f67,[(1,ls [0,1,3,4,5,2,6])],[3]⟩
abbrev P0:Ps:=[(0,.v [.s]),(3,.l [.I,.s,.I,.I,.U,.st,.I,.I,.I] bV),(5,.v [.I])]
def aH(c:J)(e:Nat)(h:Int)(j:J)(k n q:Int)(u:ByteArray)(x y z d:Int)(w:C)(R:aa):Prop:=bz P0 0 (X.Sem (ai [0,1,1,1,2])) c e h j k n q u x y z d w R
noncomputable def az:=bK X (ai [0,1,1,1,2]) P0 aH
abbrev P1:Ps:=[]
abbrev aZ(w:C)(R:aa):Prop:=
 R (U (.i 1)) w
noncomputable def aX:=aC X [az] (ai [0,1,1,2,1,2,1,1,2]) P1 aZ
abbrev aY(w:C)(R:aa):Prop:=
 R (U (.i 1)) w
noncomputable def a1:=aC X [aX,az] (ai [0,1,1,1,5]) P1 aY
abbrev be(w:C)(R:aa):Prop:=
 R (U (.i 0)) w
noncomputable def a7:=aC X [a1,aX,az] (ai [6]) P1 be
def bD:∀(y:J) (u:Nat) (d:Int) (q:J) (z x k:Int) (e:ByteArray) (A B D j:Int) (w:C) (R:aa) (h:Y (af (j<((q.n:Nat):Int))) (aw q j λF=>∃t26:Int,w.cell? (F.add (ae j *1))=some (.i t26)/\
 Y (af (t26<0)) (aZ w R) (aw q j λG=>∃t33:Int,w.cell? (G.add (ae j *1))=some (.i t33)/\
 Y (af (t33>=((y.n:Nat):Int))) (aZ w R) (aH y u d q z x k e A B D (ad .i64 (j+1)) w R))) (aK w (.cells #[.i 21,.i 22,.i 23,.i 28] bp) λH=>
 bP [u] xy #[.slice (some (nb w)) 4 4,.i d] H λt41 E=>aK E (.cells #[.i 0,.i 2,.i 33] bp) λI=>
 bP [u] xy #[.slice (some (nb E)) 3 3,.i d] I λt45 c=>Y (!t41) (Y (z !=0) (aY c R) (Y (d !=21) (Y (x !=0) (aY c R) (Y (d !=1) (Y (k !=0) (aY c R) (Y (!t45) (Y (!(e.toList==(av #[]).toList)) (aY c R) (be c R)) (be c R))) (Y (!t45) (Y (!(e.toList==(av #[]).toList)) (aY c R) (be c R)) (be c R)))) (Y (d !=1) (Y (k !=0) (aY c R) (Y (!t45) (Y (!(e.toList==(av #[]).toList)) (aY c R) (be c R)) (be c R))) (Y (!t45) (Y (!(e.toList==(av #[]).toList)) (aY c R) (be c R)) (be c R))))) (Y (d !=21) (Y (x !=0) (aY c R) (Y (d !=1) (Y (k !=0) (aY c R) (Y (!t45) (Y (!(e.toList==(av #[]).toList)) (aY c R) (be c R)) (be c R))) (Y (!t45) (Y (!(e.toList==(av #[]).toList)) (aY c R) (be c R)) (be c R)))) (Y (d !=1) (Y (k !=0) (aY c R) (Y (!t45) (Y (!(e.toList==(av #[]).toList)) (aY c R) (be c R)) (be c R))) (Y (!t45) (Y (!(e.toList==(av #[]).toList)) (aY c R) (be c R)) (be c R)))))),aH y u d q z x k e A B D j w R:=mp (bL (X:=X) [a7,a1,aX,az] (ai [0,1,1,1,2]) P0)
def aB(j:J)(d:Int)(e:J)(k q x:Int)(y:ByteArray)(z A B:Int)(w:C)(R:aa)(h:aP [] w λc E=>
 loc [c] E λF=>bG [c] xv #[.i d] F λt10 D=>Y (t10 !=((e.n:Nat):Int)) (R (U (.i 1)) D) (aH j c d e k q x y z A B 0 D R)):ah V Cn #[j.v,.agg #[.i d,e.v,.i k,.i q,.u x,.string y,.i z,.i A,.i B]] w R:=aM X [a7,a1,aX,az] h
end ua
namespace jc
noncomputable abbrev X:Fx:=⟨V,Tryz.f68,[(19,ls [0,1,2,3,4,5,6,7,8,9,10,11,12,13,14,15,16,17,18,19,20,21,22,23,24,25,26,27,28,29,30])],[3,4]⟩
abbrev P0:Ps:=[(4,.l [.I,.I,.I] b3)]
abbrev aY(t4:Nat)(d e h:Int)(w:C)(R:aa):Prop:=
 loc [t4] w λc=>R (U (.tuple #[.agg #[.i 0,.i 0,.i 0],.i 9])) c
noncomputable def a1:=aC X [] (ai [0,1,1,1,7]) P0 aY
abbrev P1:Ps:=[(0,.v [.s]),(3,.l [.I,.s,.I,.I,.U,.st,.I,.I,.I] bV),(4,.l [.I,.I,.I] b3),(9,.v [.I])]
def hG(c:J)(e:Nat)(h:Int)(j:J)(k n q:Int)(u:ByteArray)(x y z:Int)(t4:Nat)(A B D d:Int)(w:C)(R:aa):Prop:=bz P1 0 (X.Sem (ai [0,1,1,1,9])) c e h j k n q u x y z t4 A B D d w R
noncomputable def ff:=bK X (ai [0,1,1,1,9]) P1 hG
abbrev dV(c:J)(e:Nat)(h:Int)(j:J)(k n q:Int)(u:ByteArray)(x y z:Int)(t4:Nat)(A B D d:Int)(w:C)(R:aa):Prop:=
 hG c e h j k n q u x y z t4 A B D (ad .i64 (d+1)) w R
noncomputable def df:=aC X [ff,a1] (ai [2,2,1,1,9]) P1 dV
def mT:∀(d:J) (e:Nat) (x:Int) (z:J) (A B D:Int) (y:ByteArray) (k q u:Int) (t4:Nat) (E F G c:Int) (w:C) (R:aa) (h:Y (af (c<((d.n:Nat):Int))) (Y (x==0) (aw d c λH=>loc [e,t4] w λj=>∃t103:Int,j.cell? ((H.add (ae c *9)).add 0)=some (.i t103)/\
 Y (t103==0) (aw d c λI=>∃t111:ByteArray,j.cell? ((I.add (ae c *9)).add 5)=some (.string t111)/\
 Y (t111.toList==y.toList) (aw d c λK=>cG j ((K.add (ae c *9)).add 6) λL M N=>Y (!((L==k)&&((M==q)&&((N==u)&&true)))) (loc [e,t4] j λO=>R (U (.tuple #[.agg #[.i 0,.i 0,.i 0],.i 8])) O) (dV d e x z A B D y k q u t4 E F G c j R)) (dV d e x z A B D y k q u t4 E F G c j R)) (dV d e x z A B D y k q u t4 E F G c j R)) (loc [e,t4] w λj=>dV d e x z A B D y k q u t4 E F G c j R)) (loc [e,t4] w λP=>R (U (.tuple #[.agg #[.i k,.i q,.i u],.i 0])) P)),hG d e x z A B D y k q u t4 E F G c w R:=mp (bL (X:=X) [df,ff,a1] (ai [0,1,1,1,9]) P1)
abbrev P2:Ps:=[(0,.v [.s]),(3,.l [.I,.s,.I,.I,.U,.st,.I,.I,.I] bV),(4,.l [.I,.I,.I] b3)]
abbrev cq(c:J)(d:Nat)(e:Int)(h:J)(j k n:Int)(q:ByteArray)(u x y:Int)(t4:Nat)(z A B:Int)(w:C)(R:aa):Prop:=
 hG c d e h j k n q u x y t4 z A B 0 w R
noncomputable def bq:=aC X [df,ff,a1] (ai [9]) P2 cq
abbrev be(j:J)(d:Nat)(e:Int)(k:J)(n q h:Int)(u:ByteArray)(x c y:Int)(t4:Nat)(z A B:Int)(w:C)(R:aa):Prop:=
 Y (e==1) (Y (af (c<64)) (¬(ad .u64 c)<0/\Y (af (h>=(ad .u64 (1 *2^(min (ae (ad .u64 c)) (IntKind.bits .u64)))))) (loc [d,t4] w λD=>R (U (.tuple #[.agg #[.i 0,.i 0,.i 0],.i 5])) D) (cq j d e k n q h u x c y t4 z A B w R)) (cq j d e k n q h u x c y t4 z A B w R)) (cq j d e k n q h u x c y t4 z A B w R)
noncomputable def a7:=aC X [bq,df,ff,a1] (ai [8]) P2 be
abbrev P3:Ps:=[(0,.v [.s]),(3,.l [.I,.s,.I,.I,.U,.st,.I,.I,.I] bV),(4,.l [.I,.I,.I] b3),(8,.v [.b])]
abbrev aZ(k:J)(n:Nat)(c:Int)(q:J)(u x y:Int)(z:ByteArray)(j A B:Int)(t4:Nat)(d e h:Int)(D:Bool)(w:C)(R:aa):Prop:=
 Y (c==1) (Y (j !=0) (aY t4 d e h w R) (Y (c==3) (Y (!D) (aY t4 d e h w R) (be k n c q u x y z j A B t4 d e h w R)) (be k n c q u x y z j A B t4 d e h w R))) (Y (c==3) (Y (!D) (aY t4 d e h w R) (be k n c q u x y z j A B t4 d e h w R)) (be k n c q u x y z j A B t4 d e h w R))
noncomputable def aX:=aC X [a7,bq,df,ff,a1] (ai [7]) P3 aZ
abbrev P4:Ps:=[(0,.v [.s]),(3,.l [.I,.s,.I,.I,.U,.st,.I,.I,.I] bV),(4,.l [.I,.I,.I] b3),(6,.v [.b])]
abbrev aS(k:J)(c:Nat)(n:Int)(q:J)(u x y:Int)(z:ByteArray)(d e h:Int)(t4:Nat)(A B D:Int)(E:Bool)(w:C)(R:aa):Prop:=
 Y (!E) (loc [c,t4] w λF=>R (U (.tuple #[.agg #[.i 0,.i 0,.i 0],.i 6])) F) (bG [c,t4] Cj #[.agg #[.i d,.i e,.i h]] w λt35 j=>Y (t35 !=0) (loc [c,t4] j λG=>R (U (.tuple #[.agg #[.i 0,.i 0,.i 0],.i t35])) G) (Y (d==2) (aZ k c n q u x y z d e h t4 A B D true j R) (aZ k c n q u x y z d e h t4 A B D (d==3) j R)))
noncomputable def aT:=aC X [aX,a7,bq,df,ff,a1] (ai [3]) P4 aS
def aB(n:J)(j:Int)(q:J)(x y z:Int)(e:ByteArray)(A B D:Int)(w:C)(R:aa)(h:aP [] w λc H=>
 aP [c] H λd k=>
 Y (j==2) (Y (af (((e.size:Nat):Int)>64)) (loc [c,d] k λK=>R (U (.tuple #[.agg #[.i 0,.i 0,.i 0],.i 5])) K) (cJ [c,d] lI #[.i ((e.size:Nat):Int)] k λE F G L=>loc [c,d] L λM=>R (U (.tuple #[.agg #[.i E,.i F,.i G],.i 0])) M)) (Y (j !=0) (aS n c j q x y z e A B D d 0 0 0 true k R) (bP [c,d] xx #[.string e] k λt28 I=>aS n c j q x y z e A B D d 0 0 0 t28 I R))):ah V Cp #[n.v,.agg #[.i j,q.v,.i x,.i y,.u z,.string e,.i A,.i B,.i D]] w R:=aM X [aT,aX,a7,bq,df,ff,a1] h
end jc
namespace HD
noncomputable abbrev X:Fx:=⟨V,Tryz.f76,[],[1,2]⟩
def aB(j e n:Int)(w:C)(R:aa)(h:aP [] w λc B=>
 aP [c] B λd k=>
 Y (j==2) (cJ [c,d] fi #[.i e] k λy z A E=>loc [c,d] E λF=>R (U (.agg #[.i y,.i z,.i A])) F) (cJ [c,d] lI #[.i e] k λq u x G=>loc [c,d] G λD=>R (U (.agg #[.i q,.i u,.i x])) D)):ah V uF #[.agg #[.i j,.i e,.i n]] w R:=aM X [] h
end HD
namespace A1
noncomputable abbrev X:Fx:=⟨V,Tryz.f69,[(13,ls [0,1,2,3,4,5,6,7,8,9,10,11,12,13,14,15]),(15,ls [0,1,2,3,4,5,6,7,8,9,10,11,12,13,14,15,16,17,18,19,20,21,22,23,24,25,26]),(19,ls [0,1,2,3,4,5,6,7,8,9,10]),(21,ls [0,1,2,3,4,5,6,7,8,9,10]),(23,ls [0,1,2,3,4,5,6,7,8,9,10,11,12,13,14,15,16,17,18,19,20,21,22,23,24,25,26,27]),(25,ls [0,1,2,3,4,5,6,7,8]),(34,ls [0,1,2,3,4,5,6,7,8,9,10,11,12,13,14,15]),(38,ls [0,1,2,3]),(39,ls [0,1,2,3,4,5,6,7,8])],[5]⟩
abbrev P0:Ps:=[(6,.v [.b])]
abbrev aZ(c:Bool)(w:C)(R:aa):Prop:=
 R (U (.bool c)) w
noncomputable def aX:=aC X [] (ai [0,1,1,1,1,1,5]) P0 aZ
abbrev P1:Ps:=[]
abbrev be(w:C)(R:aa):Prop:=
 R (U (.bool false)) w
noncomputable def a7:=aC X [aX] (ai [0,1,1,2,11,1,1,1,5]) P1 be
abbrev P2:Ps:=[(7,.v [.b])]
abbrev cq(c:Bool)(w:C)(R:aa):Prop:=
 R (U (.bool c)) w
noncomputable def bq:=aC X [a7,aX] (ai [0,1,15,1,1,1,5]) P2 cq
abbrev P3:Ps:=[(1,.v [.s]),(7,.v [.b])]
abbrev dV(c:J)(d:Bool)(w:C)(R:aa):Prop:=
 Y d (aw c 1 λe=>∃t164:Int,w.cell? ((e.add (ae 1 *3)).add 0)=some (.i t164)/\
 R (U (.bool (t164==1))) w) (R (U (.bool false)) w)
noncomputable def df:=aC X [bq,a7,aX] (ai [0,1,17,1,1,1,5]) P3 dV
abbrev P4:Ps:=[(1,.v [.s]),(5,.l [.I,.I,.I] b3),(6,.v [.b]),(7,.v [.b]),(26,.v [.I])]
abbrev hJ(d:J)(c:Nat)(E F G:Int)(H k:Bool)(t26:Int)(w:C)(R:aa):Prop:=
 Y (t26==30) (Y k (aw d 1 λn=>loc [c] w λe=>cG e (n.add (ae 1 *3)) λq u x=>cJ [c] fi #[.i 7] e λI K L h=>uh h (n.add (ae 1 *3)) (.i q) (.i u) (.i x) λ_=>Y ((q==I)&&((u==K)&&((x==L)&&true))) (aw d 2 λy=>cG h (y.add (ae 2 *3)) λz A B=>cJ [c] fi #[.i 7] h λM N O D=>uh D (y.add (ae 2 *3)) (.i z) (.i A) (.i B) λ_=>R (U (.bool ((z==M)&&((A==N)&&((B==O)&&true))))) D) (R (U (.bool false)) h)) (loc [c] w λe=>R (U (.bool false)) e)) (Y (t26==32) (Y k (aw d 1 λP=>∃t191:Int,w.cell? ((P.add (ae 1 *3)).add 0)=some (.i t191)/\
 Y (t191==1) (aw d 2 λQ=>∃t198:Int,w.cell? ((Q.add (ae 2 *3)).add 0)=some (.i t198)/\
 R (U (.bool (t198==1))) w) (R (U (.bool false)) w)) (R (U (.bool false)) w)) (Y (t26==34) (loc [c] w λw4=>cJ [c] fi #[.i 8] w4 λS T W w5=>R (U (.bool ((E==S)&&((F==T)&&((G==W)&&true))))) w5) (Y H (aw d 1 λZ=>loc [c] w λj=>cG j (Z.add (ae 1 *3)) λab ac ad=>R (U (.bool ((E==ab)&&((F==ac)&&((G==ad)&&true))))) j) (loc [c] w λj=>R (U (.bool false)) j))))
noncomputable def dH:=aC X [df,bq,a7,aX] (ai [18,1,1,1,5]) P4 hJ
abbrev eC(c:J)(h:Nat)(j k n:Int)(e d:Bool)(t26:Int)(w:C)(R:aa):Prop:=
 Y (t26==29) (Y (t26==29) (dV c d w R) (hJ c h j k n e d t26 w R)) (Y (t26==31) (dV c d w R) (hJ c h j k n e d t26 w R))
noncomputable def cw:=aC X [dH,df,bq,a7,aX] (ai [16,1,1,1,5]) P4 eC
abbrev P5:Ps:=[(1,.v [.s]),(5,.l [.I,.I,.I] b3),(6,.v [.b]),(7,.v [.b]),(8,.v [.b]),(26,.v [.I])]
abbrev aY(c:J)(d:Nat)(j k e:Int)(x n B:Bool)(t26:Int)(w:C)(R:aa):Prop:=
 Y (t26==18) (aw c 1 λan=>loc [d] w λu=>cG u (an.add (ae 1 *3)) λao ap aq=>Y ((j==ao)&&((k==ap)&&((e==aq)&&true))) (R (U (.bool true)) u) (Y n (aw c 1 λar=>∃t47:Int,u.cell? ((ar.add (ae 1 *3)).add 0)=some (.i t47)/\
 R (U (.bool (t47==1))) u) (R (U (.bool false)) u))) (Y (t26==19) (loc [d] w λw2=>cJ [d] fi #[.i 1] w2 λau av ax h=>Y ((j==au)&&((k==av)&&((e==ax)&&true))) (aw c 1 λay=>cG h (ay.add (ae 1 *3)) λaz aA aB=>aw c 2 λaC=>cG h (aC.add (ae 2 *3)) λaD aE aF=>Y ((az==aD)&&((aA==aE)&&((aB==aF)&&true))) (R (U (.bool true)) h) (aw c 1 λaG=>∃t68:Int,h.cell? ((aG.add (ae 1 *3)).add 0)=some (.i t68)/\
 Y (t68==1) (aw c 2 λaH=>∃t74:Int,h.cell? ((aH.add (ae 2 *3)).add 0)=some (.i t74)/\
 R (U (.bool (t74==1))) h) (R (U (.bool false)) h))) (R (U (.bool false)) h)) (Y (t26==20) (Y x (aw c 1 λaI=>∃t86:Int,w.cell? ((aI.add (ae 1 *3)).add 0)=some (.i t86)/\
 R (U (.bool (t86==0))) w) (R (U (.bool false)) w)) (Y (t26==24) (Y B (aw c 1 λN=>loc [d] w λz=>cG z (N.add (ae 1 *3)) λO P Q=>cJ [d] fi #[.i e] z λaJ aK aL S=>uh S (N.add (ae 1 *3)) (.i O) (.i P) (.i Q) λ_=>R (U (.bool ((O==aJ)&&((P==aK)&&((Q==aL)&&true))))) S) (loc [d] w λz=>R (U (.bool false)) z)) (Y (t26==25) (Y (!B) (loc [d] w λA=>be A R) (aw c 1 λE=>loc [d] w λA=>cG A (E.add (ae 1 *3)) λF G H=>cJ [d] fi #[.i e] A λW Z ab D=>uh D (E.add (ae 1 *3)) (.i F) (.i G) (.i H) λ_=>Y (!((F==W)&&((G==Z)&&((H==ab)&&true)))) (be D R) (aw c 2 λI=>loc [d] D λT=>cG T (I.add (ae 2 *3)) λK L M=>cJ [d] uF #[.agg #[.i j,.i k,.i e]] T λac ad ag q=>uh q (I.add (ae 2 *3)) (.i K) (.i L) (.i M) λ_=>Y ((K==ac)&&((L==ad)&&((M==ag)&&true))) (R (U (.bool true)) q) (Y (j==3) (aw c 2 λah=>∃t128:Int,q.cell? ((ah.add (ae 2 *3)).add 0)=some (.i t128)/\
 Y (t128==1) (aw c 2 λai=>∃t135:Int,q.cell? ((ai.add (ae 2 *3)).add 1)=some (.i t135)/\
 R (U (.bool (af (t135<=k)))) q) (R (U (.bool false)) q)) (R (U (.bool false)) q))))) (Y (t26==26) (Y B (aw c 1 λaj=>loc [d] w λy=>cG y (aj.add (ae 1 *3)) λak al am=>R (U (.bool ((j==ak)&&((k==al)&&((e==am)&&true))))) y) (loc [d] w λy=>R (U (.bool false)) y)) (Y (t26==27) (Y (t26==27) (cq n w R) (eC c d j k e x n t26 w R)) (Y (t26==28) (Y (t26==28) (cq n w R) (eC c d j k e x n t26 w R)) (Y (t26==33) (cq n w R) (eC c d j k e x n t26 w R)))))))))
noncomputable def a1:=aC X [cw,dH,df,bq,a7,aX] (ai [2,1,1,1,5]) P5 aY
abbrev P6:Ps:=[(0,.v [.I]),(1,.v [.s]),(5,.l [.I,.I,.I] b3),(6,.v [.b]),(7,.v [.b]),(8,.v [.b])]
abbrev aS(c:Int)(h:J)(k:Nat)(n q u:Int)(d j e:Bool)(w:C)(R:aa):Prop:=
 Y (c==4) (Y (c==4) (aZ d w R) (aY h k n q u d j e c w R)) (Y (c==5) (Y (c==5) (aZ d w R) (aY h k n q u d j e c w R)) (Y (c==21) (Y (c==21) (aZ d w R) (aY h k n q u d j e c w R)) (Y (c==22) (Y (c==22) (aZ d w R) (aY h k n q u d j e c w R)) (Y (c==23) (aZ d w R) (aY h k n q u d j e c w R)))))
noncomputable def aT:=aC X [a1,cw,dH,df,bq,a7,aX] (ai [5]) P6 aS
def aB(j:Int)(e:J)(w:C)(R:aa)(h:aw e 0 λx=>cG w (x.add (ae 0 *3)) λc n q=>aP [] w λd u=>
 Y (c==2) (loc [d] u λk=>aS j e d c n q (c==0) (c==1) true k R) (loc [d] u λk=>aS j e d c n q (c==0) (c==1) (c==3) k R)):ah V Co #[.i j,e.v] w R:=aM X [aT,a1,cw,dH,df,bq,a7,aX] h
end A1
namespace wM
noncomputable abbrev X:Fx:=⟨V,Tryz.f70,[(10,ls [0,1,2,3,4,5,6,7,8,9,10,11]),(13,ls [0,1,2,3,4,5,6,8,9,10,11,12,13,14,15,7,16,17]),(15,ls [0,1,2,3,4,5,7,8,9,6,10,11,12,13,14,15,16,17,18,19,20,21,22,23,24,25]),(18,ls [0,1,2,3,4,6,7,8,5,9,10,11,12,13,14,15,16,17,18]),(27,ls [1,2,3,0,4,5,6,7,8,9,10]),(29,ls [0,1,2,3,4,5,6,8,9,10,11,12,13,14,15,7,16,17]),(31,ls [0,1,2,3,4,5,6,8,9,10,11,12,13,14,15,7,16,17])],[2,4,6]⟩
abbrev P0:Ps:=[(4,.l [.I,.I,.I] b3)]
abbrev aS(t4:Nat)(k n q:Int)(w:C)(R:aa):Prop:=
 cJ [t4] fi #[.i 1] w λc d e h=>loc [t4] h λj=>R (U (.tuple #[.agg #[.i c,.i d,.i e],.bool true])) j
noncomputable def aT:=aC X [] (ai [0,1,1,1,1,1,2]) P0 aS
abbrev P1:Ps:=[(2,.l [.I,.s,.I,.I,.U,.st,.I,.I,.I] bV),(4,.l [.I,.I,.I] b3),(6,.l [.I,.I,.I] b3)]
abbrev aY(c:Nat)(z:Int)(A:J)(e B D:Int)(E:ByteArray)(F G H:Int)(t4:Nat)(I K L:Int)(d:Nat)(M q N:Int)(w:C)(R:aa):Prop:=
 loc [c,t4,d] w λu=>cJ [c,t4,d] fi #[.i (ad .i64 (q+e))] u λh j k n=>Y (af (e>=1)) (loc [c,t4,d] n λx=>R (U (.tuple #[.agg #[.i h,.i j,.i k],.bool (af (e<=(ad .i64 (64 - q))))])) x) (loc [c,t4,d] n λy=>R (U (.tuple #[.agg #[.i h,.i j,.i k],.bool false])) y)
noncomputable def a1:=aC X [aT] (ai [0,1,9,1,1,1,2]) P1 aY
abbrev cq(t4:Nat)(k n q:Int)(w:C)(R:aa):Prop:=
 cJ [t4] fi #[.i 7] w λc d e h=>loc [t4] h λj=>R (U (.tuple #[.agg #[.i c,.i d,.i e],.bool true])) j
noncomputable def bq:=aC X [a1,aT] (ai [0,1,15,1,1,1,2]) P0 cq
abbrev P2:Ps:=[(1,.v [.s]),(2,.l [.I,.s,.I,.I,.U,.st,.I,.I,.I] bV),(4,.l [.I,.I,.I] b3),(6,.l [.I,.I,.I] b3),(11,.v [.I])]
abbrev eC(h:J)(c:Nat)(ah:Int)(ai:J)(u aj ak:Int)(al:ByteArray)(am an ao:Int)(t4:Nat)(ap aq ar:Int)(d:Nat)(ac e ag t11:Int)(w:C)(R:aa):Prop:=
 Y (t11==28) (loc [c,t4,d] w λT=>cJ [c,t4,d] fi #[.i 8] T λx y z F=>Y (af (u>=0)) (loc [c,t4,d] F λw5=>R (U (.tuple #[.agg #[.i x,.i y,.i z],.bool (af (u<=63))])) w5) (loc [c,t4,d] F λw8=>R (U (.tuple #[.agg #[.i x,.i y,.i z],.bool false])) w8)) (Y (t11==29) (aw h 1 λG=>loc [c,t4,d] w λq=>∃t133:Int,q.cell? ((G.add (ae 1 *3)).add 1)=some (.i t133)/\
 aw h 1 λj=>∃t141:Int,q.cell? ((j.add (ae 1 *3)).add 1)=some (.i t141)/\
 cJ [c,t4,d] lI #[.i (ad .i64 (e+t133))] q λH I K A=>A.cell? ((j.add (ae 1 *3)).add 1)=some (.i t141)/\loc [c,t4,d] A λB=>B.cell? ((j.add (ae 1 *3)).add 1)=some (.i t141)/\R (U (.tuple #[.agg #[.i H,.i I,.i K],.bool (af ((ad .i64 (e+t141))<=64))])) B) (Y (t11==32) (aw h 2 λL=>loc [c,t4,d] w λn=>∃t151:Int,n.cell? ((L.add (ae 2 *3)).add 1)=some (.i t151)/\
 aw h 2 λk=>∃t159:Int,n.cell? ((k.add (ae 2 *3)).add 1)=some (.i t159)/\
 cJ [c,t4,d] lI #[.i (ad .i64 (e+t151))] n λM N O D=>D.cell? ((k.add (ae 2 *3)).add 1)=some (.i t159)/\loc [c,t4,d] D λE=>E.cell? ((k.add (ae 2 *3)).add 1)=some (.i t159)/\R (U (.tuple #[.agg #[.i M,.i N,.i O],.bool (af ((ad .i64 (e+t159))<=64))])) E) (Y (t11==34) (cJ [c,t4,d] lI #[.i 1] w λP Q S W=>loc [c,t4,d] W λZ=>R (U (.tuple #[.agg #[.i P,.i Q,.i S],.bool true])) Z) (loc [c,t4,d] w λab=>R (U (.tuple #[.agg #[.i ac,.i e,.i ag],.bool true])) ab))))
noncomputable def cw:=aC X [bq,a1,aT] (ai [16,1,1,1,2]) P2 eC
abbrev be(u:J)(c:Nat)(x:Int)(y:J)(z A B:Int)(D:ByteArray)(E F G:Int)(t4:Nat)(e h j:Int)(d:Nat)(n q k t11:Int)(w:C)(R:aa):Prop:=
 Y (t11==24) (cJ [c,t4,d] uF #[.agg #[.i n,.i q,.i k]] w λH I K O=>loc [c,t4,d] O λP=>R (U (.tuple #[.agg #[.i H,.i I,.i K],.bool true])) P) (Y (t11==26) (cJ [c,t4,d] fi #[.i k] w λL M N Q=>loc [c,t4,d] Q λS=>R (U (.tuple #[.agg #[.i L,.i M,.i N],.bool true])) S) (Y (t11==27) (Y (t11==27) (cq t4 e h j w R) (eC u c x y z A B D E F G t4 e h j d n q k t11 w R)) (Y (t11==31) (cq t4 e h j w R) (eC u c x y z A B D E F G t4 e h j d n q k t11 w R))))
noncomputable def a7:=aC X [cw,bq,a1,aT] (ai [10,1,1,1,2]) P2 be
abbrev aZ(e:J)(c:Nat)(n:Int)(q:J)(h j u:Int)(x:ByteArray)(y z A:Int)(t4:Nat)(B D E:Int)(d:Nat)(F k G t11:Int)(w:C)(R:aa):Prop:=
 Y (t11==19) (aw e 1 λS=>∃t23:Int,w.cell? ((S.add (ae 1 *3)).add 0)=some (.i t23)/\
 Y (t23==1) (aw e 1 λT=>loc [c,t4,d] w λM=>∃t28:Int,M.cell? ((T.add (ae 1 *3)).add 1)=some (.i t28)/\
 aw e 2 λW=>∃t32:Int,M.cell? ((W.add (ae 2 *3)).add 1)=some (.i t32)/\
 cJ [c,t4,d] lI #[.i (if t28<t32 then t32 else t28)] M λZ ab ac w2=>loc [c,t4,d] w2 λw5=>R (U (.tuple #[.agg #[.i Z,.i ab,.i ac],.bool true])) w5) (aw e 1 λag=>cG w (ag.add (ae 1 *3)) λah ai aj=>loc [c,t4,d] w λw8=>R (U (.tuple #[.agg #[.i ah,.i ai,.i aj],.bool true])) w8)) (Y (t11==20) (aw e 1 λak=>loc [c,t4,d] w λO=>∃t45:Int,O.cell? ((ak.add (ae 1 *3)).add 1)=some (.i t45)/\
 aw e 1 λH=>∃t53:Int,O.cell? ((H.add (ae 1 *3)).add 1)=some (.i t53)/\
 cJ [c,t4,d] fi #[.i (ad .i64 (k+t45))] O λal am an P=>P.cell? ((H.add (ae 1 *3)).add 1)=some (.i t53)/\loc [c,t4,d] P λQ=>Q.cell? ((H.add (ae 1 *3)).add 1)=some (.i t53)/\R (U (.tuple #[.agg #[.i al,.i am,.i an],.bool (af ((ad .i64 (k+t53))<=64))])) Q) (Y (t11==21) (loc [c,t4,d] w λao=>cJ [c,t4,d] fi #[.i (ad .i64 ((ad .i64 (h - j))+1))] ao λI K L N=>Y (af (j>=0)) (Y (af (j<=h)) (loc [c,t4,d] N λap=>R (U (.tuple #[.agg #[.i I,.i K,.i L],.bool (af (h<k))])) ap) (loc [c,t4,d] N λaq=>R (U (.tuple #[.agg #[.i I,.i K,.i L],.bool false])) aq)) (loc [c,t4,d] N λar=>R (U (.tuple #[.agg #[.i I,.i K,.i L],.bool false])) ar)) (Y (t11==22) (Y (t11==22) (aY c n q h j u x y z A t4 B D E d F k G w R) (be e c n q h j u x y z A t4 B D E d F k G t11 w R)) (Y (t11==23) (aY c n q h j u x y z A t4 B D E d F k G w R) (be e c n q h j u x y z A t4 B D E d F k G t11 w R)))))
noncomputable def aX:=aC X [a7,cw,bq,a1,aT] (ai [2,1,1,1,2]) P2 aZ
def aB(d:Int)(x:J)(y z A:Int)(B:ByteArray)(D E F:Int)(q:J)(w:C)(R:aa)(h:aP [] w λj M=>
 aP [j] M λc K=>
 aw q 0 λL=>cG K (L.add (ae 0 *3)) λG H I=>aP [j,c] K λk n=>
 Y (d==16) (Y (d==16) (loc [j,c,k] n λe=>aS c 0 0 0 e R) (loc [j,c,k] n λe=>aZ q j d x y z A B D E F c 0 0 0 k G H I d e R)) (Y (d==17) (Y (d==17) (loc [j,c,k] n λe=>aS c 0 0 0 e R) (loc [j,c,k] n λe=>aZ q j d x y z A B D E F c 0 0 0 k G H I d e R)) (Y (d==18) (Y (d==18) (loc [j,c,k] n λe=>aS c 0 0 0 e R) (loc [j,c,k] n λe=>aZ q j d x y z A B D E F c 0 0 0 k G H I d e R)) (Y (d==33) (loc [j,c,k] n λe=>aS c 0 0 0 e R) (loc [j,c,k] n λe=>aZ q j d x y z A B D E F c 0 0 0 k G H I d e R))))):ah V Cq #[.agg #[.i d,x.v,.i y,.i z,.u A,.string B,.i D,.i E,.i F],q.v] w R:=aM X [aX,a7,cw,bq,a1,aT] h
end wM
namespace rE
noncomputable abbrev X:Fx:=⟨V,Tryz.f48,[],[3,4,10]⟩
abbrev P0:Ps:=[(0,.v [.s]),(3,.l [.I,.s,.I,.I,.U,.st,.I,.I,.I] bV),(4,.l [.I,.I,.I] b3),(7,.v [.s]),(8,.v [.I])]
def aH(c:J)(h:Nat)(j:Int)(k:J)(n q u:Int)(x:ByteArray)(y z A:Int)(t4:Nat)(B D E:Int)(e:J)(d:Int)(w:C)(R:aa):Prop:=bz P0 0 (X.Sem (ai [0,1,1,1,5])) c h j k n q u x y z A t4 B D E e d w R
noncomputable def az:=bK X (ai [0,1,1,1,5]) P0 aH
abbrev P1:Ps:=[(4,.l [.I,.I,.I] b3),(10,.l [.I,.I,.I] b3),(12,.v [.b])]
abbrev aZ(t4:Nat)(q u x:Int)(c:Nat)(e h j:Int)(d:Bool)(w:C)(R:aa):Prop:=
 Y (!d) (loc [t4,c] w λk=>R (U (.tuple #[.agg #[.i 0,.i 0,.i 0],.i 2])) k) (loc [t4,c] w λn=>R (U (.tuple #[.agg #[.i e,.i h,.i j],.i 0])) n)
noncomputable def aX:=aC X [az] (ai [11]) P1 aZ
def bD:∀(B:J) (c:Nat) (j:Int) (k:J) (D E F:Int) (x:ByteArray) (G H I:Int) (t4:Nat) (y z A:Int) (q:J) (e:Int) (w:C) (R:aa) (h:Y (af (e<((k.n:Nat):Int))) (aw k e λT=>∃t42:Int,w.cell? (T.add (ae e *1))=some (.i t42)/\
 aw B t42 λW=>cG w ((W.add (ae t42 *9)).add 6) λZ ab ac=>aK w (.cells #[.i Z,.i ab,.i ac] b3) λQ=>
 ∃(t47:J) (K:C),a' V (bg #[y4,y4] y4 #[q.v,.slice (some (nb w)) 1 1]) Q=.ok (t47.v) K/\kept [c,t4] Q K/\aH B c j k D E F x G H I t4 y z A t47 (ad .i64 (e+1)) K R) (bP [c,t4] Co #[.i j,q.v] w λt51 S=>Y (!t51) (loc [c,t4] S λah=>R (U (.tuple #[.agg #[.i 0,.i 0,.i 0],.i 9])) ah) (Pu [c,t4] Cq #[.agg #[.i j,k.v,.i D,.i E,.u F,.string x,.i G,.i H,.i I],q.v] S λN O P ag aj=>aP [c,t4] aj λd L=>
 Y (!ag) (loc [c,t4,d] L λak=>R (U (.tuple #[.agg #[.i 0,.i 0,.i 0],.i 5])) ak) (Y (j !=33) (loc [c,t4,d] L λM=>aZ t4 y z A d N O P true M R) (loc [c,t4,d] L λM=>bP [c,t4,d] B9 #[.string x] M λt70 al=>aZ t4 y z A d N O P t70 al R))))),aH B c j k D E F x G H I t4 y z A q e w R:=mp (bL (X:=X) [aX,az] (ai [0,1,1,1,5]) P0)
def aB(j:J)(k:Int)(e:J)(q x y:Int)(z:ByteArray)(A B D:Int)(w:C)(R:aa)(h:aP [] w λc K=>
 aP [c] K λd M=>
 bG [c,d] Cn #[j.v,.agg #[.i k,e.v,.i q,.i x,.u y,.string z,.i A,.i B,.i D]] M λt15 E=>Y (t15 !=0) (loc [c,d] E λN=>R (U (.tuple #[.agg #[.i 0,.i 0,.i 0],.i t15])) N) (Y (((e.n:Nat):Int)==0) (cW [c,d] Cp #[j.v,.agg #[.i k,e.v,.i q,.i x,.u y,.string z,.i A,.i B,.i D]] E λF G H I O=>loc [c,d] O λL=>R (U (.tuple #[.agg #[.i F,.i G,.i H],.i I])) L) (aH j c k e q x y z A B D d 0 0 0 ⟨none,0,0⟩ 0 E R))):ah V r0 #[j.v,.agg #[.i k,e.v,.i q,.i x,.u y,.string z,.i A,.i B,.i D]] w R:=aM X [aX,az] h
end rE
namespace HF
noncomputable abbrev X:Fx:=⟨V,Tryz.f72,[],[2,3]⟩
def aB(d:Int)(e:J)(j k n:Int)(q:ByteArray)(x y z A:Int)(B:J)(D E F:Int)(G:ByteArray)(H I K:Int)(w:C)(R:aa)(h:aP [] w λL N=>
 aP [L] N λM c=>
 Y (d==A) (Y (j==D) (Y (k==E) (Y (n==F) (Y (q.toList==G.toList) (Y ((x==H)&&((y==I)&&((z==K)&&true))) (bP [L,M] B8 #[e.v,B.v] c λt50 O=>R (U (.bool t50)) O) (R (U (.bool false)) c)) (R (U (.bool false)) c)) (R (U (.bool false)) c)) (R (U (.bool false)) c)) (R (U (.bool false)) c)) (R (U (.bool false)) c)):ah V Cl #[.agg #[.i d,e.v,.i j,.i k,.u n,.string q,.i x,.i y,.i z],.agg #[.i A,B.v,.i D,.i E,.u F,.string G,.i H,.i I,.i K]] w R:=aM X [] h
end HF
namespace t'
noncomputable abbrev X:Fx:=⟨V,Tryz.f49,[(7,ls [0,1,2,3,4,5,6])],[3,5]⟩
abbrev P0:Ps:=[(0,.v [.s]),(3,.l [.I,.s,.I,.I,.U,.st,.I,.I,.I] bV),(7,.v [.I])]
def bO(c:J)(e:Nat)(h:Int)(j:J)(k n q:Int)(u:ByteArray)(x y z d:Int)(w:C)(R:aa):Prop:=bz P0 0 (X.Sem (ai [0,1,1,1,3])) c e h j k n q u x y z d w R
noncomputable def bx:=bK X (ai [0,1,1,1,3]) P0 bO
def eh:∀(d:J) (e:Nat) (j:Int) (k:J) (q x y:Int) (z:ByteArray) (A B D c:Int) (w:C) (R:aa) (h:Y (af (c<((d.n:Nat):Int))) (aw d c λG=>loc [e] w λE=>pY E (G.add (ae c *9)) λH I K L M N O P Q=>bP [e] Cl #[.agg #[.i H,I.v,.i K,.i L,.u M,.string N,.i O,.i P,.i Q],.agg #[.i j,k.v,.i q,.i x,.u y,.string z,.i A,.i B,.i D]] E λt30 F=>Y t30 (R (U (.i c)) F) (bO d e j k q x y z A B D (ad .i64 (c+1)) F R)) (R (U (.i (-1))) w)),bO d e j k q x y z A B D c w R:=mp (bL (X:=X) [bx] (ai [0,1,1,1,3]) P0)
abbrev P1:Ps:=[(0,.v [.s]),(3,.l [.I,.s,.I,.I,.U,.st,.I,.I,.I] bV)]
abbrev aS(c:J)(d:Nat)(e:Int)(h:J)(j k n:Int)(q:ByteArray)(u x y:Int)(w:C)(R:aa):Prop:=
 bO c d e h j k n q u x y 0 w R
noncomputable def aT:=aC X [bx] (ai [3]) P1 aS
def aB(d:J)(e:Int)(j:J)(k n q:Int)(x:ByteArray)(y z A:Int)(w:C)(R:aa)(h:aP [] w λc I=>
 cW [c] r0 #[d.v,.agg #[.i e,j.v,.i k,.i n,.u q,.string x,.i y,.i z,.i A]] I λE F G H K=>aP [c] K λB D=>
 Y (H==0) (loc [c,B] D λM=>aS d c e j k n q x E F G M R) (loc [c,B] D λL=>aS d c e j k n q x y z A L R)):ah V xu #[d.v,.agg #[.i e,j.v,.i k,.i n,.u q,.string x,.i y,.i z,.i A]] w R:=aM X [aT,bx] h
end t'
namespace HB
noncomputable abbrev X:Fx:=⟨V,Tryz.f35,[(10,(.sq [1,3,6,7] (.fork (.sq [0] (.fork (ls [2,4,5,8,9,10]) (ls [4,2,5,8,9,10]))) (ls [4,0,2,5,8,9,10]))))],[3,7]⟩
def aB(e:J)(j:Int)(k:J)(q x y:Int)(z:ByteArray)(O P Q:Int)(w:C)(R:aa)(h:aP [] w λc w1=>
 cW [c] r0 #[e.v,.agg #[.i j,k.v,.i q,.i x,.u y,.string z,.i O,.i P,.i Q]] w1 λB D E S w2=>aP [c] w2 λd w3=>
 Y (S !=0) (loc [c,d] w3 λw6=>R (U (.tuple #[.slice none 0 0,.i 0,.i S])) w6) (loc [c,d] w3 λw9=>bG [c,d] xu #[e.v,.agg #[.i j,k.v,.i q,.i x,.u y,.string z,.i B,.i D,.i E]] w9 λt23 F=>Y (af (t23>=0)) (R (U (.tuple #[e.v,.i t23,.i 0])) F) (Y (af (((e.n:Nat):Int)>=4096)) (R (U (.tuple #[.slice none 0 0,.i 0,.i 4])) F) (((loc [c,d] F λA=>aK A (.cells #[] bV) λG=>
 ((∃(t33:J) (H:C),a' V (bg #[c',c'] c' #[.slice (some (nb A)) 0 0,e.v]) G=.ok (t33.v) H/\kept [c,d] G H/\aK H (.cells #[.i j,k.v,.i q,.i x,.u y,.string z,.i B,.i D,.i E] bV) λac=>
 ∃(t36:J) (L:C),a' V (bg #[c',c'] c' #[t33.v,.slice (some (nb H)) 1 1]) ac=.ok (t36.v) L/\kept [c,d] ac L/\R (U (.tuple #[t36.v,.i ((e.n:Nat):Int),.i 0])) L)/\(aK G (.cells #[.i j,k.v,.i q,.i x,.u y,.string z,.i B,.i D,.i E] bV) λad=>
 ∃(T:J) (I:C),a' V (bg #[c',c'] c' #[.slice (some (nb A)) 0 0,e.v]) ad=.ok (T.v) I/\kept [c,d] ad I/\∃(Z:J) (M:C),a' V (bg #[c',c'] c' #[T.v,.slice (some (nb G)) 1 1]) I=.ok (Z.v) M/\kept [c,d] I M/\R (U (.tuple #[Z.v,.i ((e.n:Nat):Int),.i 0])) M)))/\(loc [c,d] F λA=>aK A (.cells #[.i j,k.v,.i q,.i x,.u y,.string z,.i B,.i D,.i E] bV) λae=>
 aK ae (.cells #[] bV) λag=>
 ∃(W:J) (K:C),a' V (bg #[c',c'] c' #[.slice (some (nb ae)) 0 0,e.v]) ag=.ok (W.v) K/\kept [c,d] ag K/\∃(ab:J) (N:C),a' V (bg #[c',c'] c' #[W.v,.slice (some (nb A)) 1 1]) K=.ok (ab.v) N/\kept [c,d] K N/\R (U (.tuple #[ab.v,.i ((e.n:Nat):Int),.i 0])) N)))))):ah V Ck #[e.v,.agg #[.i j,k.v,.i q,.i x,.u y,.string z,.i O,.i P,.i Q]] w R:=aM X [] h
end HB
namespace A2
noncomputable abbrev X:Fx:=⟨V,Tryz.f33,[],[]⟩
abbrev P0:Ps:=[(3,.v [.s])]
abbrev S1(c:J)(w:C)(R:aa):Prop:=
 R (U (c.v)) w
noncomputable def aX:=aC X [] (ai [4]) P0 S1
abbrev P1:Ps:=[(0,.v [.I]),(3,.v [.s])]
abbrev S0(h:Int)(c:J)(w:C)(R:aa):Prop:=
 Y (af (h>1)) (pv lI #[.i 2] w λj k n D=>pv lI #[.i 1] D λq x y E=>pv fi #[.i 7] E λz A B d=>aK d (.cells #[.i 0,.slice none 0 0,.i 0,.i 0,.u 0,.string (av #[115]),.i j,.i k,.i n,.i 0,.slice none 0 0,.i 0,.i 0,.u 0,.string (av #[116]),.i q,.i x,.i y,.i 0,.slice none 0 0,.i 0,.i 0,.u 0,.string (av #[105]),.i z,.i A,.i B,.i 0,.slice none 0 0,.i 0,.i 0,.u 0,.string (av #[122]),.i 3,.i 1,.i 1] bV) λF=>
 ∃(t34:J) (e:C),a' V (bg #[c',c'] c' #[c.v,.slice (some (nb d)) 4 4]) F=.ok (t34.v) e/\S1 t34 e R) (S1 c w R)
noncomputable def aT:=aC X [aX] (ai [3]) P1 S0
def ok(c:Int)(w:C)(R:aa)(h:pv fi #[.i 2] w λx y z H=>pv fi #[.i 2] H λA B D I=>pv fi #[.i 1] I λE F G K=>pv fi #[.i 3] K λk n q d=>aK d (.cells #[.i 0,.slice none 0 0,.i 0,.i 0,.u 0,.string (av #[97]),.i x,.i y,.i z,.i 0,.slice none 0 0,.i 0,.i 0,.u 0,.string (av #[98]),.i A,.i B,.i D,.i 0,.slice none 0 0,.i 0,.i 0,.u 0,.string (av #[99]),.i E,.i F,.i G,.i 0,.slice none 0 0,.i 0,.i 0,.u 0,.string (av #[100]),.i k,.i n,.i q] bV) λe=>
 Y (af (c>0)) (aK e (.cells #[.i 0,.slice none 0 0,.i 0,.i 0,.u 0,.string (av #[109]),.i 2,.i 2,.i 1,.i 0,.slice none 0 0,.i 0,.i 0,.u 0,.string (av #[110]),.i 2,.i 2,.i 1] bV) λL=>
 ∃(t21:J) (j:C),a' V (bg #[c',c'] c' #[.slice (some (nb d)) 4 4,.slice (some (nb e)) 2 2]) L=.ok (t21.v) j/\S0 c t21 j R) (S0 c ⟨some (nb d),4,4⟩ e R)):ah V Cr #[.i c] w R:=aM X [aT,aX] h
end A2
namespace pM
noncomputable abbrev X:Fx:=⟨V,Tryz.f56,[(5,ls [0,1,2,3,4,5,6])],[4]⟩
abbrev P0:Ps:=[(0,.v [.s]),(2,.v [.I]),(4,.l [.I,.I,.I] b3),(7,.v [.s]),(8,.v [.I])]
def aH(c:J)(h:Int)(j:Nat)(k n q:Int)(e:J)(d:Int)(w:C)(R:aa):Prop:=bz P0 0 (X.Sem (ai [0,1,1,1,2])) c h j k n q e d w R
noncomputable def az:=bK X (ai [0,1,1,1,2]) P0 aH
abbrev aZ(c:J)(h:Int)(j:Nat)(k n q:Int)(e:J)(d:Int)(w:C)(R:aa):Prop:=
 aH c h j k n q e (ad .i64 (d+1)) w R
noncomputable def aX:=aC X [az] (ai [2,2,1,1,2]) P0 aZ
def bD:∀(j:J) (k:Int) (e:Nat) (q u x:Int) (d:J) (c:Int) (w:C) (R:aa) (h:Y (af (c<((j.n:Nat):Int))) (aw j c λD=>loc [e] w λy=>cG y ((D.add (ae c *9)).add 6) λE F G=>Y ((E==q)&&((F==u)&&((G==x)&&true))) (aK y (.cells #[.i c] bp) λA=>
 ∃(t25:J) (z:C),a' V (bg #[cp,cp] cp #[d.v,.slice (some (nb y)) 1 1]) A=.ok (t25.v) z/\kept [e] A z/\aZ j k e q u x t25 c z R) (aZ j k e q u x d c y R)) (Y (((d.n:Nat):Int)==0) (R (U (.i (-1))) w) (bG [e] eO #[.i k,.i ((d.n:Nat):Int)] w λt33 B=>aw d t33 λH=>∃t35:Int,B.cell? (H.add (ae t33 *1))=some (.i t35)/\
 R (U (.i t35)) B))),aH j k e q u x d c w R:=mp (bL (X:=X) [aX,az] (ai [0,1,1,1,2]) P0)
def aB(c:J)(e j k d:Int)(w:C)(R:aa)(h:aP [] w λn q=>
 aH c d n e j k ⟨none,0,0⟩ 0 q R):ah V uG #[c.v,.agg #[.i e,.i j,.i k],.i d] w R:=aM X [aX,az] h
end pM
namespace A3
noncomputable abbrev X:Fx:=⟨V,Tryz.f57,[],[10,11]⟩
abbrev P0:Ps:=[(4,.v [.I]),(10,.l [.I,.I,.I] b3)]
abbrev aS(c:Int)(t10:Nat)(q u x:Int)(w:C)(R:aa):Prop:=
 bG [t10] eO #[.i c,.i 3] w λt56 j=>cJ [t10] lI #[.i t56] j λd e h k=>loc [t10] k λn=>R (U (.agg #[.i d,.i e,.i h])) n
noncomputable def aT:=aC X [] (ai [0,1,11,1,1,1,2]) P0 aS
abbrev P1:Ps:=[(10,.l [.I,.I,.I] b3),(11,.l [.I,.I,.I] b3)]
abbrev aZ(t10:Nat)(k n q:Int)(d:Nat)(e h j:Int)(w:C)(R:aa):Prop:=
 loc [t10,d] w λc=>R (U (.agg #[.i e,.i h,.i j])) c
noncomputable def aX:=aC X [aT] (ai [3]) P1 aZ
def aB(x:J)(k A B q:Int)(w:C)(R:aa)(h:aP [] w λc D=>
 aw x A λF=>cG D ((F.add (ae A *9)).add 6) λy z u=>aP [c] D λd j=>
 Y (k==19) (loc [c,d] j λe=>bG [c,d] eO #[.i q,.i ((x.n:Nat):Int)] e λt24 E=>aw x t24 λG=>cG E ((G.add (ae t24 *9)).add 6) λH I K=>loc [c,d] E λw9=>R (U (.agg #[.i H,.i I,.i K])) w9) (Y (k==20) (loc [c,d] j λe=>bG [c,d] eO #[.i q,.i 3] e λt31 aj=>cJ [c,d] fi #[.i (ad .i64 (1+t31))] aj λL M N ak=>loc [c,d] ak λal=>R (U (.agg #[.i L,.i M,.i N])) al) (Y (k==24) (loc [c,d] j λe=>cJ [c,d] fi #[.i u] e λO P Q am=>loc [c,d] am λan=>R (U (.agg #[.i O,.i P,.i Q])) an) (Y (k==25) (Y (B==1) (loc [c,d] j λe=>cJ [c,d] fi #[.i u] e λS T W ao=>loc [c,d] ao λap=>R (U (.agg #[.i S,.i T,.i W])) ap) (loc [c,d] j λe=>cJ [c,d] uF #[.agg #[.i y,.i z,.i u]] e λZ ab ac aq=>loc [c,d] aq λar=>R (U (.agg #[.i Z,.i ab,.i ac])) ar)) (Y (k==30) (loc [c,d] j λe=>cJ [c,d] fi #[.i 7] e λaf ag ai au=>loc [c,d] au λav=>R (U (.agg #[.i af,.i ag,.i ai])) av) (Y (k==29) (Y (k==29) (loc [c,d] j λe=>aS q c 0 0 0 e R) (loc [c,d] j λe=>aZ c 0 0 0 d y z u e R)) (Y (k==31) (Y (k==31) (loc [c,d] j λe=>aS q c 0 0 0 e R) (loc [c,d] j λe=>aZ c 0 0 0 d y z u e R)) (Y (k==32) (loc [c,d] j λe=>aS q c 0 0 0 e R) (loc [c,d] j λe=>aZ c 0 0 0 d y z u e R))))))))):ah V Cs #[x.v,.i k,.i A,.i B,.i q] w R:=aM X [aX,aT] h
end A3
namespace iz
noncomputable abbrev X:Fx:=⟨V,Tryz.f34,[(38,ls [0,1,2,3,4,5,6,7,8,9,10,11,12])],[8,10,16]⟩
abbrev P0:Ps:=[(0,.v [.s]),(2,.v [.I]),(3,.v [.I]),(8,.l [.I,.s,.I,.I,.U,.st,.I,.I,.I] bV),(10,.l [.I,.s,.I,.I,.U,.st,.I,.I,.I] bV),(11,.v [.I]),(13,.v [.I]),(14,.v [.I])]
def hG(c:J)(h e:Int)(E:Nat)(F:Int)(G:J)(H I K:Int)(L:ByteArray)(M N O:Int)(k:Nat)(n:Int)(q:J)(u x y:Int)(z:ByteArray)(A B D P j d:Int)(w:C)(R:aa):Prop:=bz P0 0 (X.Sem (ai [0,1,1,1,8])) c h e E F G H I K L M N O k n q u x y z A B D P j d w R
noncomputable def ff:=bK X (ai [0,1,1,1,8]) P0 hG
abbrev P1:Ps:=[(0,.v [.s]),(2,.v [.I]),(3,.v [.I]),(8,.l [.I,.s,.I,.I,.U,.st,.I,.I,.I] bV),(10,.l [.I,.s,.I,.I,.U,.st,.I,.I,.I] bV),(11,.v [.I]),(13,.v [.I]),(14,.v [.I]),(15,.v [.I])]
abbrev hJ(k:J)(x q:Int)(d:Nat)(K:Int)(L:J)(M N O:Int)(P:ByteArray)(Q S T:Int)(c:Nat)(z:Int)(A:J)(B D E:Int)(F:ByteArray)(G H I ab y n h:Int)(w:C)(R:aa):Prop:=
 Y (af (h<0)) (loc [d,c] w λZ=>R (U (.agg #[.i (-1),.slice none 0 0,.i 0,.i 0,.u 0,.s0,.i 0,.i 0,.i 0])) Z) (aK w (.cells #[.i h] bp) λj=>
 ∃(t177:J) (e:C),a' V (bg #[cp,cp] cp #[A.v,.slice (some (nb w)) 1 1]) j=.ok (t177.v) e/\kept [d,c] j e/\loc [d,c] e λW=>hG k x q d K L M N O P Q S T c z t177 B D E F G H I ab y (ad .i64 (n+1)) W R)
noncomputable def dH:=aC X [ff] (ai [2,2,1,2,1,1,8]) P1 hJ
abbrev P2:Ps:=[(0,.v [.s]),(2,.v [.I]),(3,.v [.I]),(8,.l [.I,.s,.I,.I,.U,.st,.I,.I,.I] bV),(10,.l [.I,.s,.I,.I,.U,.st,.I,.I,.I] bV),(11,.v [.I]),(13,.v [.I]),(14,.v [.I]),(16,.l [.I,.I,.I] b3)]
abbrev dV(h:J)(k j:Int)(e:Nat)(K:Int)(L:J)(M N O:Int)(P:ByteArray)(Q S T:Int)(d:Nat)(u:Int)(x:J)(y z A:Int)(B:ByteArray)(D E F Z q c:Int)(n:Nat)(G H I:Int)(w:C)(R:aa):Prop:=
 (ad .i64 (1+(ad .i64 (5 *c))))≠0/\loc [e,d,n] w λW=>bG [e,d,n] uG #[h.v,.agg #[.i G,.i H,.i I],.i (ad .i64 ((ad .i64 (bE j (ad .i64 (1+(ad .i64 (5 *c))))))+(ad .i64 (c *k))))] W λt169 Y=>hJ h k j e K L M N O P Q S T d u x y z A B D E F Z q c t169 Y R
noncomputable def df:=aC X [dH,ff] (ai [2,1,1,1,1,2,1,2,1,1,8]) P2 dV
def mT:∀(n:J) (y K:Int) (d:Nat) (L:Int) (M:J) (N O P:Int) (Q:ByteArray) (S T W:Int) (c:Nat) (k:Int) (q:J) (A B D:Int) (E:ByteArray) (F G H j z e:Int) (w:C) (R:aa) (h:Y (af (e<z)) (Y (af (e>0)) (Y (af (j>=0)) (cJ [d,c] Cs #[n.v,.i k,.i j,.i e,.i y] w λab ac ad w1=>aP [d,c] w1 λx Z=>
 Y (k==19) (Y (e==2) (aw q 1 λag=>loc [d,c,x] Z λI=>∃t154:Int,I.cell? (ag.add (ae 1 *1))=some (.i t154)/\
 aw n t154 λah=>cG I ((ah.add (ae t154 *9)).add 6) λaj ak al=>loc [d,c,x] I λw8=>dV n y K d L M N O P Q S T W c k q A B D E F G H j z e x aj ak al w8 R) (loc [d,c,x] Z λI=>dV n y K d L M N O P Q S T W c k q A B D E F G H j z e x ab ac ad I R)) (loc [d,c,x] Z λI=>dV n y K d L M N O P Q S T W c k q A B D E F G H j z e x ab ac ad I R)) (hJ n y K d L M N O P Q S T W c k q A B D E F G H j z e j w R)) (hJ n y K d L M N O P Q S T W c k q A B D E F G H j z e j w R)) (loc [d,c] w λam=>R (U (.agg #[.i k,q.v,.i A,.i B,.u D,.string E,.i F,.i G,.i H])) am)),hG n y K d L M N O P Q S T W c k q A B D E F G H j z e w R:=mp (bL (X:=X) [df,dH,ff] (ai [0,1,1,1,8]) P0)
abbrev P3:Ps:=[(0,.v [.s]),(2,.v [.I]),(3,.v [.I]),(8,.l [.I,.s,.I,.I,.U,.st,.I,.I,.I] bV),(10,.l [.I,.s,.I,.I,.U,.st,.I,.I,.I] bV),(11,.v [.I]),(13,.v [.I])]
abbrev cq(c:J)(e d:Int)(D:Nat)(E:Int)(F:J)(G H I:Int)(K:ByteArray)(L M N:Int)(j:Nat)(k:Int)(n:J)(q u x:Int)(y:ByteArray)(z A B O h:Int)(w:C)(R:aa):Prop:=
 hG c e d D E F G H I K L M N j k n q u x y z A B O h 0 w R
noncomputable def bq:=aC X [df,dH,ff] (ai [8]) P3 cq
abbrev P4:Ps:=[(0,.v [.s]),(1,.v [.I]),(2,.v [.I]),(3,.v [.I]),(8,.l [.I,.s,.I,.I,.U,.st,.I,.I,.I] bV),(10,.l [.I,.s,.I,.I,.U,.st,.I,.I,.I] bV),(11,.v [.I]),(13,.v [.I])]
abbrev be(e:J)(O k j:Int)(d:Nat)(E:Int)(F:J)(G H I:Int)(K:ByteArray)(L M N:Int)(c:Nat)(h:Int)(q:J)(u x y:Int)(z:ByteArray)(A B D Z n:Int)(w:C)(R:aa):Prop:=
 Y (h==34) (cJ [d,c] fi #[.i 8] w λP Q S T=>bG [d,c] uG #[e.v,.agg #[.i P,.i Q,.i S],.i (ad .i64 (bE O 64))] T λt123 W=>cq e k j d E F G H I K L M N c h q u x y z A B D t123 n W R) (cq e k j d E F G H I K L M N c h q u x y z A B D Z n w R)
noncomputable def a7:=aC X [bq,df,dH,ff] (ai [7]) P4 be
abbrev P5:Ps:=[(0,.v [.s]),(1,.v [.I]),(2,.v [.I]),(3,.v [.I]),(8,.l [.I,.s,.I,.I,.U,.st,.I,.I,.I] bV),(10,.l [.I,.s,.I,.I,.U,.st,.I,.I,.I] bV),(11,.v [.I])]
abbrev aY(h:J)(j n k:Int)(d:Nat)(E:Int)(F:J)(G H I:Int)(K:ByteArray)(L M N:Int)(c:Nat)(e:Int)(q:J)(u x y:Int)(z:ByteArray)(A B D Z:Int)(w:C)(R:aa):Prop:=
 bG [d,c] xv #[.i e] w λt107 O=>Y (e==19) (cJ [d,c] fi #[.i 1] O λP Q S T=>bG [d,c] uG #[h.v,.agg #[.i P,.i Q,.i S],.i (ad .i64 (bE j 64))] T λt115 W=>be h j n k d E F G H I K L M N c e q u x y z A B D t115 t107 W R) (be h j n k d E F G H I K L M N c e q u x y z A B D Z t107 O R)
noncomputable def a1:=aC X [a7,bq,df,dH,ff] (ai [5]) P5 aY
abbrev P6:Ps:=[(0,.v [.s]),(1,.v [.I]),(2,.v [.I]),(3,.v [.I]),(8,.l [.I,.s,.I,.I,.U,.st,.I,.I,.I] bV),(10,.l [.I,.s,.I,.I,.U,.st,.I,.I,.I] bV),(11,.v [.I]),(12,.v [.I])]
abbrev aZ(j:J)(n k h:Int)(d:Nat)(E:Int)(F:J)(G H I:Int)(K:ByteArray)(L M N:Int)(c:Nat)(q:Int)(u:J)(x y W:Int)(z:ByteArray)(Y Z ab T e:Int)(w:C)(R:aa):Prop:=
 cJ [d,c] fi #[.i e] w λA B D O=>¬(ad .u64 (if 3<e then 3 else e))<0/\loc [d,c] O λP=>bG [d,c] eO #[.i h,.i (ad .i64 (1 *2^(min (ae (ad .u64 (if 3<e then 3 else e))) (IntKind.bits .i64))))] P λt49 Q=>loc [d,c] Q λS=>aY j n k h d E F G H I K L M N c q u x y (ad .u64 t49) z A B D T S R
noncomputable def aX:=aC X [a1,a7,bq,df,dH,ff] (ai [2,1,1,1,1,1,4]) P6 aZ
abbrev aS(d:J)(h e c:Int)(D:Nat)(E:Int)(F:J)(G H I:Int)(K:ByteArray)(L M N:Int)(j:Nat)(k:Int)(n:J)(q u x:Int)(y:ByteArray)(z A B O P:Int)(w:C)(R:aa):Prop:=
 Y ((bw c 7)==0) (aZ d h e c D E F G H I K L M N j k n q u x y z A B O 7 w R) (aZ d h e c D E F G H I K L M N j k n q u x y z A B O P w R)
noncomputable def aT:=aC X [aX,a1,a7,bq,df,dH,ff] (ai [1,1,1,1,1,1,4]) P6 aS
abbrev j5(h:J)(k e j:Int)(d:Nat)(D:Int)(E:J)(F G H:Int)(I:ByteArray)(K L M:Int)(c:Nat)(n:Int)(q:J)(Q u x:Int)(y:ByteArray)(z A B P:Int)(w:C)(R:aa):Prop:=
 bG [d,c] eO #[.i e,.i 2] w λt92 N=>loc [d,c] N λO=>aY h k e j d D E F G H I K L M c n q (ad .i64 (1+t92)) u x y z A B P O R
noncomputable def e1:=aC X [aT,aX,a1,a7,bq,df,dH,ff] (ai [0,1,9,1,1,1,4]) P5 j5
abbrev P7:Ps:=[(0,.v [.s]),(1,.v [.I]),(2,.v [.I]),(3,.v [.I]),(8,.l [.I,.s,.I,.I,.U,.st,.I,.I,.I] bV),(10,.l [.I,.s,.I,.I,.U,.st,.I,.I,.I] bV),(11,.v [.I]),(32,.v [.I])]
abbrev zY(h:J)(k e j:Int)(d:Nat)(B:Int)(D:J)(E F G:Int)(H:ByteArray)(I K L:Int)(c:Nat)(n:Int)(q:J)(N u x:Int)(O:ByteArray)(y z A M t32:Int)(w:C)(R:aa):Prop:=
 Y (t32==28) (bG [d,c] eO #[.i e,.i 3] w λt98 P=>loc [d,c] P λQ=>aY h k e j d B D E F G H I K L c n q t98 u x O y z A M Q R) (Y (t32==33) (eM [d,c] Cb #[.i e] w λt103 S=>loc [d,c] S λT=>aY h k e j d B D E F G H I K L c n q N u x t103 y z A M T R) (aY h k e j d B D E F G H I K L c n q N u x O y z A M w R))
noncomputable def hO:=aC X [e1,aT,aX,a1,a7,bq,df,dH,ff] (ai [10,1,1,1,4]) P7 zY
def aB(j:J)(k e u:Int)(w:C)(R:aa)(h:aP [] w λc x=>
 aK x (.cells #[.i 4,.i 5,.i 6,.i 7,.i 8,.i 9,.i 10,.i 11,.i 12,.i 13,.i 14,.i 15,.i 16,.i 17,.i 18,.i 19,.i 20,.i 21,.i 22,.i 23,.i 24,.i 25,.i 26,.i 27,.i 28,.i 29,.i 30,.i 31,.i 32,.i 33,.i 34,.i 1,.i 2,.i 3,.i 18,.i 18,.i 16,.i 6,.i 24,.i 25] bp) λP=>
 bG [c] eO #[.i k,.i ((40:Nat):Int)] P λt22 A=>(0:Int)<=t22/\t22<((40:Nat):Int)/\cd (some (nb x)) λB=>∃t24:Int,A.cell? (B.add (ae t22 *1))=some (.i t24)/\
 aP [c] A λd w4=>
 loc [c,d] w4 λK=>bG [c,d] eO #[.i (ad .i64 (bE k 64)),.i ((j.n:Nat):Int)] K λt30 q=>Y (t24==1) (bG [c,d] eO #[.i e,.i 3] q λt36 L=>aS j k e u c 0 ⟨none,0,0⟩ 0 0 0 (av #[]) 0 0 0 d t24 ⟨none,0,0⟩ 0 0 0 (av #[]) 0 0 0 t30 (ad .i64 (1+t36)) L R) (Y (t24==2) (aK q (.cells #[.s0,.string (av #[97]),.string (av #[97,98]),.string (av #[98]),.string (av #[0]),.string (av #[97,97])] da) λM=>
 bG [c,d] eO #[.i e,.i 6] M λt56 y=>(0:Int)<=t56/\t56<((6:Nat):Int)/\cd (some (nb q)) λD=>∃t58:ByteArray,y.cell? (D.add (ae t56 *1))=some (.string t58)/\
 loc [c,d] y λN=>aY j k e u c 0 ⟨none,0,0⟩ 0 0 0 (av #[]) 0 0 0 d t24 ⟨none,0,0⟩ 0 0 0 t58 0 0 0 t30 N R) (Y (t24==3) (aK q (.cells #[.i 2,.i 2,.i 1,.i 3,.i 1,.i 1] b3) λO=>
 bG [c,d] eO #[.i e,.i 2] O λt66 z=>(0:Int)<=t66/\t66<((2:Nat):Int)/\cd (some (nb q)) λE=>cG z (E.add (ae t66 *3)) λF G H=>loc [c,d] z λQ=>aY j k e u c 0 ⟨none,0,0⟩ 0 0 0 (av #[]) 0 0 0 d t24 ⟨none,0,0⟩ 0 0 0 (av #[]) F G H t30 Q R) (Y (t24==21) (aw j t30 λI=>∃t78:Int,q.cell? (((I.add (ae t30 *9)).add 6).add 1)=some (.i t78)/\
 bG [c,d] eO #[.i e,.i (if 1<t78 then t78 else 1)] q λt80 S=>loc [c,d] S λT=>bG [c,d] eO #[.i u,.i (ad .i64 (t80+1))] T λt86 W=>loc [c,d] W λZ=>aY j k e u c 0 ⟨none,0,0⟩ 0 0 0 (av #[]) 0 0 0 d t24 ⟨none,0,0⟩ t80 t86 0 (av #[]) 0 0 0 t30 Z R) (Y (t24==22) (Y (t24==22) (j5 j k e u c 0 ⟨none,0,0⟩ 0 0 0 (av #[]) 0 0 0 d t24 ⟨none,0,0⟩ 0 0 0 (av #[]) 0 0 0 t30 q R) (zY j k e u c 0 ⟨none,0,0⟩ 0 0 0 (av #[]) 0 0 0 d t24 ⟨none,0,0⟩ 0 0 0 (av #[]) 0 0 0 t30 t24 q R)) (Y (t24==23) (j5 j k e u c 0 ⟨none,0,0⟩ 0 0 0 (av #[]) 0 0 0 d t24 ⟨none,0,0⟩ 0 0 0 (av #[]) 0 0 0 t30 q R) (zY j k e u c 0 ⟨none,0,0⟩ 0 0 0 (av #[]) 0 0 0 d t24 ⟨none,0,0⟩ 0 0 0 (av #[]) 0 0 0 t30 t24 q R))))))):ah V xz #[j.v,.i k,.i e,.i u] w R:=aM X [hO,e1,aT,aX,a1,a7,bq,df,dH,ff] h
end iz
namespace rG
noncomputable abbrev X:Fx:=⟨V,Tryz.f37,[],[]⟩
abbrev P0:Ps:=[(0,.v [.s]),(1,.v [.I]),(5,.v [.I]),(6,.v [.I])]
def L0(c:J)(d h e:Int)(w:C)(R:aa):Prop:=bz P0 0 (X.Sem (ai [0,1,1,1,2])) c d h e w R
noncomputable def az:=bK X (ai [0,1,1,1,2]) P0 L0
abbrev S1(c:J)(d h e:Int)(w:C)(R:aa):Prop:=
 L0 c d h (ad .i64 (e+1)) w R
noncomputable def aX:=aC X [az] (ai [2,2,1,1,2]) P0 S1
def cf:∀(d:J) (c j e:Int) (w:C) (R:aa) (h:aw d c λk=>∃t12:J,w.cell? ((k.add (ae c *9)).add 1)=some (t12.v)/\
 Y (af (e<((t12.n:Nat):Int))) (aw d c λq=>∃t23:J,w.cell? ((q.add (ae c *9)).add 1)=some (t23.v)/\
 aw t23 e λu=>∃t26:Int,w.cell? (u.add (ae e *1))=some (.i t26)/\
 en xA #[d.v,.i t26] w λt27 x=>S1 d c (ad .i64 (j+t27)) e x R) (R (U (.i j)) w)),L0 d c j e w R:=mp (bL (X:=X) [aX,az] (ai [0,1,1,1,2]) P0)
def ok(c:J)(d:Int)(w:C)(R:aa)(h:L0 c d 1 0 w R):ah V xA #[c.v,.i d] w R:=aM X [aX,az] h
end rG
namespace HJ
noncomputable abbrev X:Fx:=⟨V,Tryz.f36,[],[3]⟩
def aB(c e j k:Int)(w:C)(R:aa)(h:aP [] w λn d=>
 Y (e==0) (R (U (.bool true)) d) (Y (af (c>0)) (Y (e==2) (R (U (.bool true)) d) (R (U (.bool (af (c>1)))) d)) (R (U (.bool (af (c>1)))) d))):ah V Ct #[.i c,.agg #[.i e,.i j,.i k]] w R:=aM X [] h
end HJ
namespace mi
noncomputable abbrev X:Fx:=⟨V,Tryz.f14,[(5,(.sq [0,1,2,3,4,5,6,7,8,9,10,11,12,13,14] (.fork (ls [15,16,17]) (ls [16,15,17]))))],[9]⟩
abbrev P0:Ps:=[(0,.v [.s]),(1,.v [.I]),(2,.v [.I]),(7,.v [.s]),(8,.v [.I])]
def aH(h:J)(e j:Int)(c:J)(d:Int)(w:C)(R:aa):Prop:=bz P0 0 (X.Sem (ai [0,1,1,1,2])) h e j c d w R
noncomputable def az:=bK X (ai [0,1,1,1,2]) P0 aH
abbrev aY(h:J)(e j:Int)(c:J)(d:Int)(w:C)(R:aa):Prop:=
 aH h e j c (ad .i64 (d+3)) w R
noncomputable def a1:=aC X [az] (ai [2,2,1,1,2]) P0 aY
abbrev P1:Ps:=[(0,.v [.s]),(1,.v [.I]),(2,.v [.I]),(7,.v [.s]),(8,.v [.I]),(9,.l [.I,.s,.I,.I,.U,.st,.I,.I,.I] bV)]
abbrev aZ(h:J)(c j:Int)(d:J)(e:Int)(x:Nat)(A:Int)(B:J)(D E F:Int)(G:ByteArray)(H I K:Int)(w:C)(R:aa):Prop:=
 Pv [x] Ck #[d.v,.agg #[.i A,B.v,.i D,.i E,.u F,.string G,.i H,.i I,.i K]] w λn k L y=>Y (L==0) (aw n k λM=>cG y ((M.add (ae k *9)).add 6) λN O P=>bP [x] Ct #[.i c,.agg #[.i N,.i O,.i P]] y λt60 q=>Y t60 (aw n k λQ=>∃t68:Int,q.cell? (((Q.add (ae k *9)).add 6).add 1)=some (.i t68)/\
 Y (af (t68<=16)) (bG [x] xA #[n.v,.i k] q λt74 z=>Y (af (t74<=400)) (aY h c j n e z R) (aY h c j d e z R)) (aY h c j d e q R)) (aY h c j d e q R)) (aY h c j d e y R)
noncomputable def aX:=aC X [a1,az] (ai [1,2,1,2,1,1,2]) P1 aZ
abbrev P2:Ps:=[(7,.v [.s])]
abbrev be(c:J)(w:C)(R:aa):Prop:=
 R (U (c.v)) w
noncomputable def a7:=aC X [aX,a1,az] (ai [3]) P2 be
def bD:∀(e:J) (x k:Int) (d:J) (c:Int) (w:C) (R:aa) (h:Y (af ((ad .i64 (c+2))<((e.n:Nat):Int))) (Y (af (c<(ad .i64 (3 *k)))) (dM w λj=>aw e c λz=>∃t32:Int,j.cell? (z.add (ae c *1))=some (.i t32)/\
 aw e (ad .i64 (c+1)) λA=>∃t37:Int,j.cell? (A.add (ae (ad .i64 (c+1)) *1))=some (.i t37)/\
 aw e (ad .i64 (c+2)) λB=>∃t42:Int,j.cell? (B.add (ae (ad .i64 (c+2)) *1))=some (.i t42)/\
 ((Pb xz #[d.v,.i t32,.i t37,.i t42] j λD E F G H I K L M w3=>aP [] w3 λy w4=>
 loc [y] w4 λac=>aZ e x k d c y D E F G H I K L M ac R)/\(aP [] j λu q=>
 q.cell? (B.add (ae (ad .i64 (c+2)) *1))=some (.i t42)/\q.cell? (A.add (ae (ad .i64 (c+1)) *1))=some (.i t37)/\q.cell? (z.add (ae c *1))=some (.i t32)/\Pw [u] xz #[d.v,.i t32,.i t37,.i t42] q λN O P Q S T W Z ab ag=>loc [u] ag λah=>aZ e x k d c u N O P Q S T W Z ab ah R))) (be d w R)) (be d w R)),aH e x k d c w R:=mp (bL (X:=X) [a7,aX,a1,az] (ai [0,1,1,1,2]) P0)
def aB(d:J)(c e:Int)(w:C)(R:aa)(h:rp Cr #[.i c] w λt14 j=>aH d c e t14 0 j R):ah V xw #[d.v,.i c,.i e] w R:=aM X [a7,aX,a1,az] h
end mi
def fo(n:Int)(w:C):ah V fi #[.i n] w λr e=>r=U (dO (bJ n))/\aj w e:=
 HC.aB _ w _ ((bN [] (by simp)).aN λb h c=>c.ak λj d=>⟨rfl,d.fr⟩)
def mY(n:Int)(w:C):ah V lI #[.i n] w λr e=>r=U (dO (eW n))/\aj w e:=
 HG.aB _ w _ ((bN [] (by simp)).aN λb h c=>c.ak λj d=>⟨rfl,d.fr⟩)
def DR(s:bt)(w:C):ah V uF #[dO s] w λr q=>r=U (dO (hP s))/\aj w q:=by
 refine HD.aB _ _ _ w _ ((bN [] (by simp)).aN λb z k=>k.aN λy j h=>aJ (λe=>h.ax (fo s.n j) ?_) (λe=>h.ax (mY s.n j) ?_))
 .rintro _ u rfl c;exact⟨_,_,_,rfl,c.ak λx d=>⟨by unfold hP;rw[aA e],d.fr⟩⟩
 .rintro _ u rfl c;exact⟨_,_,_,rfl,c.ak λx d=>⟨by unfold hP;rw[aq e],d.fr⟩⟩
def sa{op:Int}(c:0<=op)(d:op<=34):op=0\/op=1\/op=2\/op=3\/op=4\/op=5\/op=6\/op=7\/op=8\/op=9\/op=10\/op=11\/op=12\/op=13\/op=14\/op=15\/op=16\/op=17\/op=18\/op=19\/op=20\/op=21\/op=22\/op=23\/op=24\/op=25\/op=26\/op=27\/op=28\/op=29\/op=30\/op=31\/op=32\/op=33\/op=34:=by omega
def FZ(op:Int)(w:C):ah V xv #[.i op] w λr e=>r=U (.i (cS op))/\aj w e:=by
 refine HE.ok op w _ ?_;by_cases c:op<0
 .exact a8 (a0 c) ⟨by unfold cS;rw[aA (.inl c)],Fr.refl _ _⟩
 refine bb (a2 c) ?_;by_cases d:op>34
 .exact a8 (a0 d) ⟨by unfold cS;rw[aA (.inr d)],Fr.refl _ _⟩
 refine bb (a2 d) ?_;rcases sa (by omega) (by omega:op<=34)with rfl|rfl|rfl|rfl|rfl|rfl|rfl|rfl|rfl|rfl|rfl|rfl|rfl|rfl|rfl|rfl|rfl|rfl|rfl|rfl|rfl|rfl|rfl|rfl|rfl|rfl|rfl|rfl|rfl|rfl|rfl|rfl|rfl|rfl|rfl<;>exact⟨rfl,Fr.refl _ _⟩
def Ib{s:ByteArray}{i:Nat}(h:i<s.size):s[i]? =some (gQ (bl s) i):=by
 have d:i<(bl s).length:=h;have c:gQ (bl s) i=(bl s)[i]:=by unfold gQ;rw[List.getD_eq_getElem?_getD,a9 d];rfl
 rw[c,getElem?_pos s i h];rfl
def lJ(c:UInt8)(m:List UInt8):gg (c::m)=(af (m.length<=15)&&e4 c&&m.all cT):=rfl
def F2(s:ByteArray)(w:C):ah V xx #[.string s] w λr h=>r=U (.bool (gg (bl s)))/\aj w h:=by
 have u:(bl s).length=s.size:=eS s;have no:gg (bl s)=false->(Ending.returned (.bool false)=U (.bool (gg (bl s)))/\aj w w):=λe=>⟨by rw[e],Fr.refl _ _⟩;cases y:bl s with
 |nil=>
  have A:s.size=0:=by rw[<-u,y];rfl
  exact ly.ok s w _ (a8 (a0 (by omega)) ⟨rfl,Fr.refl _ _⟩)
 |cons c m=>
  have N:s.size=m.length+1:=by rw[<-u,y];rfl
  rw[y]at no;have I:gQ (bl s) 0=c:=by rw[y];rfl
  have A:s[ae 0]? =some c:=by rw[<-I];exact Ib (by omega)
  refine ly.ok s w _ (bb (a2 (by omega)) (aQ (λe=>no ?_) (λe=>⟨by omega,c,A,aQ (λK=>no ?_) (λK=>⟨by omega,c,A,aQ (λE=>no ?_) (λE=>?_)⟩)⟩)))
  .rw [lJ,a2 (by omega)];rfl
  .rw [lJ];unfold e4;rw[a2 (show ¬97<=c.toNat by omega)];simp
  .rw [lJ];unfold e4;rw[a2 (show ¬c.toNat<=122 by omega)];simp
  have G:gg (c::m)=m.all cT:=by rw[lJ];unfold e4;rw[a0 (show m.length<=15 by omega),a0 (show 97<=c.toNat by omega),a0 (show c.toNat<=122 by omega)];simp
  have H:gg (c::m)=(bl s).all cT:=by rw[G,y,List.all_cons];unfold cT e4;rw[a0 (show 97<=c.toNat by omega),a0 (show c.toNat<=122 by omega)];simp
  rw[H];have loop:∀(d i:Nat),i+d=s.size->(bl s).all cT=((bl s).drop i).all cT->ly.L1 s (i:Int) w λr h=>r=U (.bool ((bl s).all cT))/\aj w h:=by
   intro d;induction d with
   |zero=>
    intro i L j;rw[c9 (by omega)]at j;exact ly.j3 _ _ _ _ (bb (a2 (by omega)) ⟨by rw[j];rfl,Fr.refl _ _⟩)
   |succ d M=>
    intro i L j;have k:=Ib (show i<s.size by omega);rw[dZ (by omega:i<(bl s).length),List.all_cons,show(bl s)[i]'(by omega)=gQ (bl s) i by unfold gQ;rw[List.getD_eq_getElem?_getD,a9 (by omega:i<(bl s).length)];rfl]at j;generalize gQ (bl s) i=x at k j;have go:cT x=true->ly.S4 s (i:Int) w λr h=>r=U (.bool ((bl s).all cT))/\aj w h:=λe=>by show ly.L1 s (ad .i64 ((i:Int)+1)) w _;rw[bA _ (by omega)];exact M (i+1) (by omega) (by rw[j,e,Bool.true_and])
    have stop:cT x=false->(Ending.returned (.bool false)=U (.bool ((bl s).all cT))/\aj w w):=λe=>⟨by rw[j,e,Bool.false_and],Fr.refl _ _⟩;have F:e4 x=false->∀o:Bool,o=((af (48<=x.toNat)&&af (x.toNat<=57))||x==45)->ly.S3 s (i:Int) false o w λr h=>r=U (.bool ((bl s).all cT))/\aj w h:=λn o z=>by
     refine a8 rfl (eJ (λe=>stop ?_) (λe=>go ?_))
     .unfold cT;rw[n,Bool.false_or,<-z,e]
     .unfold cT;rw[n,Bool.false_or,<-z,e]
    have D:((((x.toNat:Nat):Int)==45):Bool)=(x==45):=by
     by_cases e:x=45
     .subst e;rfl
     .rw [beq_eq_false_iff_ne.2 e,beq_eq_false_iff_ne];intro E;exact e (UInt8.toNat_inj.1 (by have:((45:UInt8).toNat:Int)=45:=rfl;omega))
    have q:((i:Int)).toNat=i:=bT i;have B:∀l:Bool,l=e4 x->ly.S2 s (i:Int) l w λr h=>r=U (.bool ((bl s).all cT))/\aj w h:=λl u=>by
     have fin:∀o:Bool,o=((af (48<=x.toNat)&&af (x.toNat<=57))||x==45)->ly.S3 s (i:Int) l o w λr h=>r=U (.bool ((bl s).all cT))/\aj w h:=λo z=>by
      cases n:e4 x with
      |true=>rw[u,n];exact bb rfl (go (by unfold cT;rw[n];rfl))
      |false=>rw[u,n];exact F n o z
     refine⟨by omega,x,by rw[q];exact k,aQ (λe=>⟨by omega,x,by rw[q];exact k,aQ (λJ=>fin true ?_) (λJ=>⟨by omega,x,by rw[q];exact k,?_⟩)⟩) (λe=>⟨by omega,x,by rw[q];exact k,?_⟩)⟩
     .rw [a0 (show 48<=x.toNat by omega),a0 (show x.toNat<=57 by omega)];rfl
     .rw [D];exact fin _ (by rw[a2 (show ¬x.toNat<=57 by omega)];simp)
     .rw [D];exact fin _ (by rw[a2 (show ¬48<=x.toNat by omega)];simp)
    refine ly.j3 _ _ _ _ (a8 (a0 (by omega)) ⟨by omega,x,by rw[q];exact k,aQ (λe=>⟨by omega,x,by rw[q];exact k,B _ ?_⟩) (λe=>B _ ?_)⟩)
    .unfold e4;rw[a0 (show 97<=x.toNat by omega),Bool.true_and];exact decide_eq_decide.2 (by omega)
    .unfold e4;rw[a2 (show ¬97<=x.toNat by omega),Bool.false_and]
  exact loop s.size 0 (by omega) (by simp)
def DS(n lo hi:Int)(w:C):ah V lH #[.int .i64 n,.int .i64 lo,.int .i64 hi] w λr e=>r=U (.bool (af (lo<=n/\n<=hi)))/\aj w e:=by
 refine HA.ok _ _ _ w _ (aQ (λc=>⟨?_,Fr.refl _ _⟩) (λc=>⟨?_,Fr.refl _ _⟩))
 .have:(lo<=n/\n<=hi)↔n<=hi:=⟨λc=>c.2,λd=>⟨c,d⟩⟩;simp only[this]
 .rw [a2 (by omega)]
def TL(s:bt)(w:C):ah V Cj #[dO s] w λr e=>r=U (.int .i64 (gV s))/\aj w e:=by
 refine pL.aB _ _ _ w _ ((bN [] (by simp)).aN λy q u=>?_);have fin:∀{c:C} {L:List En} (b:Bool),b=cb s->Z F0 w c L []->pL.aS b c λr e=>r=U (.int .i64 (gV s))/\aj w e:=by
  rintro c L b rfl E;refine eJ (λd=>⟨?_,E.fr⟩) (λd=>⟨?_,E.fr⟩)
  .unfold gV;rw[aq (by simp[d])]
  .unfold gV;rw[aA d]
 have plain:∀lo:Int,(cb s=(af (lo<=s.n/\s.n<=64)&&(s.x==0)))->cV [y] V lH #[.int .i64 s.n,.int .i64 lo,.int .i64 64] q λk c=>∃t10:Bool,k=U (.bool t10)/\Y t10 (pL.aS (s.x==0) c λr e=>r=U (.int .i64 (gV s))/\aj w e) (pL.aS false c λr e=>r=U (.int .i64 (gV s))/\aj w e):=by
  intro lo j;refine u.ax (DS _ _ _ q) ?_;rintro _ c rfl h;refine⟨_,rfl,cK (λd=>fin _ ?_ h) (λd=>fin _ ?_ h)⟩
  .rw [j,d];rfl
  .rw [j,d];rfl
 have array:∀lo:Int,(cb s=(af (lo<=s.n/\s.n<=64)&&af (1<=s.x/\s.x<=16)))->cV [y] V lH #[.int .i64 s.n,.int .i64 lo,.int .i64 64] q λk c=>∃t10:Bool,k=U (.bool t10)/\Y t10 (cV [y] V lH #[.int .i64 s.x,.int .i64 1,.int .i64 16] c λk G=>∃t34:Bool,k=U (.bool t34)/\pL.aS t34 G λr e=>r=U (.int .i64 (gV s))/\aj w e) (pL.aS false c λr e=>r=U (.int .i64 (gV s))/\aj w e):=by
  intro lo j;refine u.ax (DS _ _ _ q) ?_;rintro _ c rfl h;refine⟨_,rfl,cK (λd=>h.ax (DS _ _ _ c) ?_) (λd=>fin _ ?_ h)⟩
  .rintro _ H rfl F;exact⟨_,rfl,fin _ (by rw[j,d];rfl) F⟩
  .rw [j,d];rfl
 refine aJ (λz=>plain 1 ?_) (λz=>aJ (λA=>plain 0 ?_) (λA=>aJ (λB=>array 1 ?_) (λB=>aJ (λD=>array 0 ?_) (λD=>fin _ ?_ u))))
 .unfold cb;simp[z]
 .unfold cb;simp[A]
 .unfold cb;simp[B,Bool.and_assoc]
 .unfold cb;simp[D,Bool.and_assoc]
 .unfold cb;simp[z,A,B,D]
abbrev BT:ByteArray:=av #[115,101,118,101,110,116,101,101,110,45,108,101,116,116,101,114,115]
namespace Hk
noncomputable abbrev X:Fx:=⟨V,Tryz.f15,[],[]⟩
abbrev P0:Ps:=[]
abbrev S0(w:C)(R:aa):Prop:=
 R (U (.i 0)) w
noncomputable def aT:=aC X [] (ai [0,1,1,1,1]) P0 S0
def ok(d:J)(c e:Int)(w:C)(R:aa)(h:Y (af (c<0)) (S0 w R) (Y (af (c>=((d.n:Nat):Int))) (S0 w R) (aw d c λj=>∃t18:Int,w.cell? (j.add (ae c *1))=some (.i t18)/\
 en eO #[.i t18,.i e] w λt20 k=>R (U (.i t20)) k))):ah V ou #[d.v,.i c,.i e] w R:=aM X [aT] h
end Hk
namespace HK
noncomputable abbrev X:Fx:=⟨V,Tryz.f51,[],[]⟩
def ok(c:Int)(w:C)(R:aa)(h:Y (af (c<0)) (R (U (.i (ad .i64 (0 - c)))) w) (R (U (.i c)) w)):ah V xC #[.i c] w R:=aM X [] h
end HK
namespace pN
noncomputable abbrev X:Fx:=⟨V,Tryz.f50,[],[]⟩
abbrev P0:Ps:=[(0,.v [.s]),(3,.v [.I])]
def L0(d:J)(c:Int)(w:C)(R:aa):Prop:=bz P0 0 (X.Sem (ai [0,1,1,1,2])) d c w R
noncomputable def az:=bK X (ai [0,1,1,1,2]) P0 L0
abbrev P1:Ps:=[]
abbrev S1(w:C)(R:aa):Prop:=
 R (U (.i 1)) w
noncomputable def aX:=aC X [az] (ai [0,1,1,2,1,2,1,1,2]) P1 S1
def cf:∀(d:J) (c:Int) (w:C) (R:aa) (h:Y (af (c<((d.n:Nat):Int))) (aw d c λe=>∃t16:Int,w.cell? (e.add (ae c *1))=some (.i t16)/\
 Y (t16==0) (S1 w R) (aw d c λj=>∃t22:Int,w.cell? (j.add (ae c *1))=some (.i t22)/\
 Y (af (t22>1073741824)) (S1 w R) (aw d c λk=>∃t29:Int,w.cell? (k.add (ae c *1))=some (.i t29)/\
 Y (af (t29<(-1073741824))) (S1 w R) (L0 d (ad .i64 (c+1)) w R)))) (R (U (.i 0)) w)),L0 d c w R:=mp (bL (X:=X) [aX,az] (ai [0,1,1,1,2]) P0)
def ok(c:J)(w:C)(R:aa)(h:Y (af (((c.n:Nat):Int)>65536)) (R (U (.i 4)) w) (L0 c 0 w R)):ah V Cu #[c.v] w R:=aM X [aX,az] h
end pN
namespace rH
noncomputable abbrev X:Fx:=⟨V,Tryz.f32,[(7,ls [0,1,2,3,4,6,7,8,9,5,10,11])],[]⟩
abbrev P0:Ps:=[(0,.v [.s]),(4,.v [.I])]
def L0(c:J)(d:Int)(w:C)(R:aa):Prop:=bz P0 0 (X.Sem (ai [0,1,1,1,3])) c d w R
noncomputable def az:=bK X (ai [0,1,1,1,3]) P0 L0
def cf:∀(d:J) (c:Int) (w:C) (R:aa) (h:Y (af (c<((d.n:Nat):Int))) (dM w λe=>aw d (ad .i64 (c - 1)) λu=>∃t20:Int,e.cell? (u.add (ae (ad .i64 (c - 1)) *1))=some (.i t20)/\
 aw d c λj=>∃t25:Int,e.cell? (j.add (ae c *1))=some (.i t25)/\
 en xC #[.i t20] e λt21 k=>k.cell? (j.add (ae c *1))=some (.i t25)/\en xC #[.i t25] k λt26 q=>Y (af (t21>=t26)) (R (U (.i 10)) q) (L0 d (ad .i64 (c+1)) q R)) (R (U (.i 0)) w)),L0 d c w R:=mp (bL (X:=X) [az] (ai [0,1,1,1,3]) P0)
def ok(c:J)(w:C)(R:aa)(h:en Cu #[c.v] w λd e=>Y (d !=0) (R (U (.i d)) e) (L0 c 1 e R)):ah V xB #[c.v] w R:=aM X [az] h
end rH
namespace rI
noncomputable abbrev X:Fx:=⟨V,Tryz.f18,[],[3]⟩
abbrev P0:Ps:=[]
abbrev aS(w:C)(R:aa):Prop:=
 R (U (.i 1)) w
noncomputable def aT:=aC X [] (ai [0,1,1,1,1]) P0 aS
abbrev P1:Ps:=[(1,.v [.I]),(2,.v [.I]),(3,.l [.I,.I,.I,.s,.st,.s,.s] dk),(9,.v [.I])]
def dy(c e:Int)(h:Nat)(j k n:Int)(q:J)(u:ByteArray)(x y:J)(d:Int)(w:C)(R:aa):Prop:=bz P1 0 (X.Sem (ai [0,1,1,1,6])) c e h j k n q u x y d w R
noncomputable def dB:=bK X (ai [0,1,1,1,6]) P1 dy
abbrev be(w:C)(R:aa):Prop:=
 R (U (.i 14)) w
noncomputable def a7:=aC X [dB,aT] (ai [0,1,1,2,1,2,1,1,6]) P0 be
abbrev cq(w:C)(R:aa):Prop:=
 R (U (.i 7)) w
noncomputable def bq:=aC X [a7,dB,aT] (ai [0,1,1,1,7]) P0 cq
abbrev eC(w:C)(R:aa):Prop:=
 R (U (.i 0)) w
noncomputable def cw:=aC X [bq,a7,dB,aT] (ai [8]) P0 eC
def ha:∀(j k:Int) (u:Nat) (q e x:Int) (y:J) (z:ByteArray) (A d:J) (c:Int) (w:C) (R:aa) (h:Y (af (c<((d.n:Nat):Int))) (aw d c λB=>∃t45:Int,w.cell? (B.add (ae c *1))=some (.i t45)/\
 Y (af (t45<0)) (be w R) (aw d c λD=>∃t52:Int,w.cell? (D.add (ae c *1))=some (.i t52)/\
 Y (af (t52>=j)) (be w R) (dy j k u q e x y z A d (ad .i64 (c+1)) w R))) (Y (q==4) (Y (af (e<0)) (cq w R) (Y (af (e>=k)) (cq w R) (eC w R))) (eC w R))),dy j k u q e x y z A d c w R:=mp (bL (X:=X) [cw,bq,a7,dB,aT] (ai [0,1,1,1,6]) P1)
abbrev P2:Ps:=[(1,.v [.I]),(2,.v [.I]),(3,.l [.I,.I,.I,.s,.st,.s,.s] dk),(8,.v [.b])]
abbrev aZ(c d:Int)(h:Nat)(j k n:Int)(q:J)(u:ByteArray)(x y:J)(e:Bool)(w:C)(R:aa):Prop:=
 Y (!e) (R (U (.i 6)) w) (dy c d h j k n q u x y 0 w R)
noncomputable def aX:=aC X [cw,bq,a7,dB,aT] (ai [5]) P2 aZ
def aB(c q u:Int)(x:J)(d:ByteArray)(j y:J)(k n:Int)(w:C)(R:aa)(h:aP [] w λe z=>
 Y (af (c<0)) (aS z R) (Y (af (c>5)) (aS z R) (bG [e] xB #[j.v] z λt20 A=>Y (t20 !=0) (R (U (.i t20)) A) (Y (d.toList==(av #[]).toList) (aZ k n e c q u x d j y true A R) (bP [e] xx #[.string d] A λt30 B=>aZ k n e c q u x d j y t30 B R))))):ah V xE #[.agg #[.i c,.i q,.i u,x.v,.string d,j.v,y.v],.i k,.i n] w R:=aM X [aX,cw,bq,a7,dB,aT] h
end rI
namespace n5
noncomputable abbrev X:Fx:=⟨V,Tryz.f11,[(7,ls [0,1,2,3,4,5,6,7,8,9,10,11,12,13,14,15,16])],[1]⟩
abbrev P0:Ps:=[(1,.l [.s,.s,.s,.s] g9),(4,.v [.I])]
def aH(d:Nat)(e h j k:J)(c:Int)(w:C)(R:aa):Prop:=bz P0 0 (X.Sem (ai [0,1,1,1,3])) d e h j k c w R
noncomputable def az:=bK X (ai [0,1,1,1,3]) P0 aH
abbrev P1:Ps:=[]
abbrev aZ(w:C)(R:aa):Prop:=
 R (U (.i 7)) w
noncomputable def aX:=aC X [az] (ai [0,1,1,2,1,2,1,1,3]) P1 aZ
abbrev P2:Ps:=[(1,.l [.s,.s,.s,.s] g9),(6,.v [.I])]
def dy(d:Nat)(e h j k:J)(c:Int)(w:C)(R:aa):Prop:=bz P2 0 (X.Sem (ai [0,1,1,1,7])) d e h j k c w R
noncomputable def dB:=bK X (ai [0,1,1,1,7]) P2 dy
def ha:∀(e:Nat) (j k q d:J) (c:Int) (w:C) (R:aa) (h:Y (af (c<((d.n:Nat):Int))) (aw d c λx=>∃t60:Int,w.cell? ((x.add (ae c *7)).add 0)=some (.i t60)/\
 Y (t60==4) (R (U (.i 12)) w) (aw d c λy=>oj w (y.add (ae c *7)) λz A B D E F G=>bG [e] xE #[.agg #[.i z,.i A,.i B,D.v,.string E,F.v,G.v],.i c,.i 0] w λt68 u=>Y (t68 !=0) (R (U (.i t68)) u) (dy e j k q d (ad .i64 (c+1)) u R))) (R (U (.i 0)) w)),dy e j k q d c w R:=mp (bL (X:=X) [dB,aX,az] (ai [0,1,1,1,7]) P2)
def bD:∀(e:Nat) (k d q u:J) (c:Int) (w:C) (R:aa) (h:Y (af (c<((d.n:Nat):Int))) (aw d c λy=>loc [e] w λj=>∃t25:Int,j.cell? (y.add (ae c *1))=some (.i t25)/\
 Y (af (t25<0)) (aZ j R) (aw d c λz=>∃t32:Int,j.cell? (z.add (ae c *1))=some (.i t32)/\
 Y (af (t32>=((k.n:Nat):Int))) (aZ j R) (aH e k d q u (ad .i64 (c+1)) j R))) (bG [e] xB #[q.v] w λt40 x=>Y (t40 !=0) (R (U (.i t40)) x) (Y (af (((u.n:Nat):Int)>1048576)) (R (U (.i 4)) x) (dy e k d q u 0 x R)))),aH e k d q u c w R:=mp (bL (X:=X) [dB,aX,az] (ai [0,1,1,1,3]) P0)
def aB(c e j k:J)(w:C)(R:aa)(h:aP [] w λd q=>
 bG [d] Cm #[c.v] q λt10 n=>Y (t10 !=0) (R (U (.i t10)) n) (aH d c e j k 0 n R)):ah V xD #[.agg #[c.v,e.v,j.v,k.v]] w R:=aM X [dB,aX,az] h
end n5
namespace n6
noncomputable abbrev X:Fx:=⟨V,Tryz.f6,[(12,ls [0,1,2,3,4,5,6,7,8,9,10])],[1]⟩
abbrev P0:Ps:=[]
abbrev aS(w:C)(R:aa):Prop:=
 R (U (.i 4)) w
noncomputable def aT:=aC X [] (ai [0,1,1,1,1]) P0 aS
abbrev P1:Ps:=[(1,.l [.s,.s] ec),(3,.v [.I])]
def bO(d:Nat)(e h:J)(c:Int)(w:C)(R:aa):Prop:=bz P1 0 (X.Sem (ai [0,1,1,1,2])) d e h c w R
noncomputable def bx:=bK X (ai [0,1,1,1,2]) P1 bO
abbrev P2:Ps:=[(1,.l [.s,.s] ec),(5,.v [.I])]
def dy(d:Nat)(e h:J)(c:Int)(w:C)(R:aa):Prop:=bz P2 0 (X.Sem (ai [0,1,1,1,3])) d e h c w R
noncomputable def dB:=bK X (ai [0,1,1,1,3]) P2 dy
def ha:∀(d:Nat) (j e:J) (c:Int) (w:C) (R:aa) (h:Y (af (c<((e.n:Nat):Int))) (aw e c λu=>loc [d] w λk=>oj k (u.add (ae c *7)) λx y z A B D E=>bG [d] xE #[.agg #[.i x,.i y,.i z,A.v,.string B,D.v,E.v],.i c,.i ((j.n:Nat):Int)] k λt49 q=>Y (t49 !=0) (R (U (.i t49)) q) (dy d j e (ad .i64 (c+1)) q R)) (R (U (.i 0)) w)),dy d j e c w R:=mp (bL (X:=X) [dB,bx,aT] (ai [0,1,1,1,3]) P2)
def eh:∀(e:Nat) (d j:J) (c:Int) (w:C) (R:aa) (h:Y (af (c<((d.n:Nat):Int))) (aw d c λq=>pX w (q.add (ae c *4)) λu x y z=>bG [e] xD #[.agg #[u.v,x.v,y.v,z.v]] w λt29 k=>Y (t29 !=0) (R (U (.i t29)) k) (bO e d j (ad .i64 (c+1)) k R)) (dy e d j 0 w R)),bO e d j c w R:=mp (bL (X:=X) [dB,bx,aT] (ai [0,1,1,1,2]) P1)
def aB(c d:J)(w:C)(R:aa)(h:aP [] w λj e=>
 Y (af (((c.n:Nat):Int)>4096)) (aS e R) (Y (af (((d.n:Nat):Int)>1048576)) (aS e R) (bO j c d 0 e R))):ah V Cw #[.agg #[c.v,d.v]] w R:=aM X [dB,bx,aT] h
end n6
namespace f'
noncomputable def C0:Code:=(Tryz.f13.body).getD .skip
noncomputable def C1:=C0.sn
noncomputable def C2:=C1.sn
noncomputable def C3:=C2.fs
noncomputable def C4:=C3.sn
noncomputable def C5:=C4.fs
noncomputable def C6:=C5.fs
noncomputable def C7:=C2.sn
abbrev Q0(R:aa):hF:=(Exit.then (fB V (cx 141) C7 (bodyPost V Tryz.f13 R)) (bodyPost V Tryz.f13 R))
abbrev Q1(R:aa):hF:=(Exit.inBlock 0 (Q0 R))
def L0(d:J)(e:Int)(t4 h:Addr)(c:Int)(w:C)(R:aa):Prop:=LP V (cx 141) C6 (Q1 R) [(0,d.v),(1,.i e),(4,.pointer (some t4)),(5,.pointer (some h)),(6,.i c)] w
def nQ(E:Env)(w:C)(R:aa):Prop:=W.asSlice (Env.get? E 0) λd=>W.asInt .i64 (Env.get? E 1) λe=>W.cy (Env.get? E 4) λj=>W.cy (Env.get? E 5) λh=>W.asInt .i64 (Env.get? E 6) λc=>L0 d e j h c w R
def q1:zN V 141 nQ C6 Q1:=by intro A z H d;obtain⟨D,q,e⟩:=W.pe d;obtain⟨E,u,h⟩:=W.gK e;obtain⟨G,w,j⟩:=W.cI h;obtain⟨F,x,k⟩:=W.cI j;obtain⟨B,y,n⟩:=W.gK k;intro a c;exact n a (c.cons q (c.cons u (c.cons w (c.cons x (c.cons y c.nil)))))
noncomputable def C8:=C6.sn
noncomputable def C9:=C8.sn
abbrev Q2(R:aa):hF:=(Exit.then (k' V (cx 141) C6 (Q1 R)) (Q1 R))
abbrev S1(d:J)(e:Int)(t4 h:Addr)(c:Int)(w:C)(R:aa):Prop:=
 L0 d e t4 h (ad .i64 (c+1)) w R
def o5(E:Env)(w:C)(R:aa):Prop:=W.asSlice (Env.get? E 0) λd=>W.asInt .i64 (Env.get? E 1) λe=>W.cy (Env.get? E 4) λj=>W.cy (Env.get? E 5) λh=>W.asInt .i64 (Env.get? E 6) λc=>S1 d e j h c w R
def zJ:o8 V 141 o5 C9 Q2:=by intro e d h j;obtain⟨H,z,q⟩:=W.pe j;obtain⟨I,A,u⟩:=W.gK q;obtain⟨L,B,w⟩:=W.cI u;obtain⟨J,D,x⟩:=W.cI w;obtain⟨G,F,y⟩:=W.gK x;exact λa c=>WP.at (E:=[(0,H.v),(1,.i I),(4,.pointer (some L)),(5,.pointer (some J)),(6,.i G)]) (rg C9 (K:=λd h=>nQ d h e) (by kernel_rfl) (mp y) λ_ _ a k n=>q1 e _ _ n a k) (c.cons z (c.cons A (c.cons B (c.cons D (c.cons F c.nil)))))
noncomputable def k7:=C8.fs
noncomputable def jy:=k7.fs
noncomputable def l1:=C7.fs
noncomputable def mN:=l1.sn
noncomputable def mO:=mN.fs
noncomputable def jz:=mO.fs
noncomputable def jA:=C7.sn
abbrev Q3(R:aa):hF:=(Exit.then (fB V (cx 141) jA (bodyPost V Tryz.f13 R)) (bodyPost V Tryz.f13 R))
abbrev Q4(R:aa):hF:=(Exit.inBlock 2 (Q3 R))
def L2(d:J)(e:Int)(t4 h:Addr)(c:Int)(w:C)(R:aa):Prop:=LP V (cx 141) jz (Q4 R) [(0,d.v),(1,.i e),(4,.pointer (some t4)),(5,.pointer (some h)),(7,.i c)] w
def zH(E:Env)(w:C)(R:aa):Prop:=W.asSlice (Env.get? E 0) λd=>W.asInt .i64 (Env.get? E 1) λe=>W.cy (Env.get? E 4) λj=>W.cy (Env.get? E 5) λh=>W.asInt .i64 (Env.get? E 7) λc=>L2 d e j h c w R
def Fh:zN V 141 zH jz Q4:=by intro A z H d;obtain⟨D,q,e⟩:=W.pe d;obtain⟨E,u,h⟩:=W.gK e;obtain⟨G,w,j⟩:=W.cI h;obtain⟨F,x,k⟩:=W.cI j;obtain⟨B,y,n⟩:=W.gK k;intro a c;exact n a (c.cons q (c.cons u (c.cons w (c.cons x (c.cons y c.nil)))))
noncomputable def l2:=jz.sn
noncomputable def l3:=l2.fs
noncomputable def l4:=l3.fs
noncomputable def j1:=l4.sn
noncomputable def kB:=j1.sn
noncomputable def nO:=kB.sn
noncomputable def j2:=nO.sn
noncomputable def qS:=j2.sn
noncomputable def qT:=l2.sn
abbrev Q5(R:aa):hF:=(Exit.then (fB V (cx 141) qT (Exit.then (k' V (cx 141) jz (Q4 R)) (Q4 R))) (Exit.then (k' V (cx 141) jz (Q4 R)) (Q4 R)))
abbrev Q6(R:aa):hF:=(Exit.inBlock 3 (Q5 R))
abbrev S6(h:J)(j:Int)(t4 c:Addr)(e:Int)(k:Addr)(w:C)(R:aa):Prop:=
 ∃t135:J,w.cell? (c.add 1)=some (t135.v)/\
 oj w k λn q u x y z A=>aK w (.cells #[.i n,.i q,.i u,x.v,.string y,z.v,A.v] dk) λB=>
 ∃(t138:J) (d:C),a' V (bg #[gu,gu] gu #[t135.v,.slice (some (nb w)) 1 1]) B=.ok (t138.v) d/\ao d (c.add 1) (t138.v) λD=>
 L2 h j t4 c (ad .i64 (e+1)) D R
def o7(E:Env)(w:C)(R:aa):Prop:=W.asSlice (Env.get? E 0) λd=>W.asInt .i64 (Env.get? E 1) λe=>W.cy (Env.get? E 4) λk=>W.cy (Env.get? E 5) λh=>W.asInt .i64 (Env.get? E 7) λc=>W.cy (Env.get? E 9) λj=>S6 d e k h c j w R
def td:o8 V 141 o7 qS Q6:=by intro k d e n;obtain⟨J,A,q⟩:=W.pe n;obtain⟨L,B,u⟩:=W.gK q;obtain⟨O,D,w⟩:=W.cI u;obtain⟨M,F,x⟩:=W.cI w;obtain⟨I,G,y⟩:=W.gK x;obtain⟨N,H,z⟩:=W.cI y;exact λa c=>WP.at (E:=[(0,J.v),(1,.i L),(4,.pointer (some O)),(5,.pointer (some M)),(7,.i I),(9,.pointer (some N))]) (rg qS (K:=λd e=>nD V qT (λd e=>zH d e k) d e) (by kernel_rfl) (mp z) λ_ _ a h j=>nx h (rg qT (by kernel_rfl) j λ_ _ a h j=>Fh k _ _ j a h)) (c.cons A (c.cons B (c.cons D (c.cons F (c.cons G (c.cons H c.nil))))))
noncomputable def qU:=j2.fs
noncomputable def qV:=qU.sn
noncomputable def qW:=qV.fs
abbrev Q7(R:aa):hF:=(Exit.then (fB V (cx 141) qS (Exit.inBlock 3 (Q5 R))) (Exit.inBlock 3 (Q5 R)))
noncomputable def o0:=qW.sn
noncomputable def o1:=o0.sn
noncomputable def qX:=o1.fs
noncomputable def zn:=o1.sn
abbrev S5(k:J)(n:Int)(t4 q:Addr)(d e:Int)(c:Addr)(w:C)(R:aa):Prop:=
 dM w λh=>∃t113:J,h.cell? (c.add 6)=some (t113.v)/\
 d≠0/\aK h (.cells #[.i (bw (ad .i64 (bE e 8)) d)] bp) λu=>
 u.cell? (c.add 6)=some (t113.v)/\∃(t119:J) (x:C),a' V (bg #[cp,cp] cp #[t113.v,.slice (some (nb h)) 1 1]) u=.ok (t119.v) x/\ao x (c.add 6) (t119.v) λy=>
 Y (af ((bw (ad .i64 (bE e 64)) 3)>0)) (dM y λj=>∃t126:J,j.cell? (c.add 6)=some (t126.v)/\
 d≠0/\aK j (.cells #[.i (bw (ad .i64 (bE e 256)) d)] bp) λz=>
 z.cell? (c.add 6)=some (t126.v)/\∃(t132:J) (A:C),a' V (bg #[cp,cp] cp #[t126.v,.slice (some (nb j)) 1 1]) z=.ok (t132.v) A/\ao A (c.add 6) (t132.v) λB=>
 S6 k n t4 q d c B R) (S6 k n t4 q d c y R)
def tc(E:Env)(w:C)(R:aa):Prop:=W.asSlice (Env.get? E 0) λd=>W.asInt .i64 (Env.get? E 1) λe=>W.cy (Env.get? E 4) λn=>W.cy (Env.get? E 5) λj=>W.asInt .i64 (Env.get? E 7) λc=>W.asInt .i64 (Env.get? E 8) λh=>W.cy (Env.get? E 9) λk=>S5 d e n j c h k w R
def zL:o8 V 141 tc qW Q7:=by intro j d h n;obtain⟨M,B,q⟩:=W.pe n;obtain⟨N,D,u⟩:=W.gK q;obtain⟨S,F,w⟩:=W.cI u;obtain⟨P,G,x⟩:=W.cI w;obtain⟨L,H,y⟩:=W.gK x;obtain⟨O,I,z⟩:=W.gK y;obtain⟨Q,J,A⟩:=W.cI z;exact λa e=>WP.at (E:=[(0,M.v),(1,.i N),(4,.pointer (some S)),(5,.pointer (some P)),(7,.i L),(8,.i O),(9,.pointer (some Q))]) (sd qW (K:=λd h=>dJ V o0 (λd h=>gy (Env.val d (.tmp 124)) (AR V qX [0,1,2,3,4,5,6,7,8,9] (λd h=>o7 d h j) d h) (o7 d h j)) d h) (l:=[0,1,2,3,4,5,6,7,8,9]) (by kernel_rfl) (mp A) λ_ _ c=>(sr o0 c λ_ _ c=>(cn o1 c (λc=>(dg qX (by kernel_rfl) c λ_ _ a k c=>nx k (td j _ _ c))) (λc=>(sk zn λa k=>nx k (td j _ _ c)))))) (e.cons B (e.cons D (e.cons F (e.cons G (e.cons H (e.cons I (e.cons J e.nil)))))))
noncomputable def zo:=qV.sn
abbrev S4(e:J)(h:Int)(t4 j:Addr)(d k:Int)(c:Addr)(w:C)(R:aa):Prop:=
 Y (af (d>0)) (∃t104:Int,w.cell? (c.add 0)=some (.i t104)/\
 Y (t104==5) (S5 e h t4 j d k c w R) (∃t108:Int,w.cell? (c.add 0)=some (.i t108)/\
 Y (t108==4) (S5 e h t4 j d k c w R) (S6 e h t4 j d c w R))) (S6 e h t4 j d c w R)
def nR(E:Env)(w:C)(R:aa):Prop:=W.asSlice (Env.get? E 0) λd=>W.asInt .i64 (Env.get? E 1) λe=>W.cy (Env.get? E 4) λn=>W.cy (Env.get? E 5) λj=>W.asInt .i64 (Env.get? E 7) λc=>W.asInt .i64 (Env.get? E 8) λh=>W.cy (Env.get? E 9) λk=>S4 d e n j c h k w R
def o6:o8 V 141 nR qU Q7:=by intro h e j k;obtain⟨M,B,q⟩:=W.pe k;obtain⟨N,D,u⟩:=W.gK q;obtain⟨S,F,w⟩:=W.cI u;obtain⟨P,G,x⟩:=W.cI w;obtain⟨L,H,y⟩:=W.gK x;obtain⟨O,I,z⟩:=W.gK y;obtain⟨Q,J,A⟩:=W.cI z;exact λa c=>WP.at (E:=[(0,M.v),(1,.i N),(4,.pointer (some S)),(5,.pointer (some P)),(7,.i L),(8,.i O),(9,.pointer (some Q))]) (sr qU (K:=λe j=>gy (Env.val e (.tmp 111)) (tc e j h) (o7 e j h)) (mp A) λ_ _ d=>(cn qV d (λd=>(zL h _ _ d)) (λd=>(sk zo λa n=>nx n (td h _ _ d))))) (c.cons B (c.cons D (c.cons F (c.cons G (c.cons H (c.cons I (c.cons J c.nil)))))))
noncomputable def zp:=nO.fs
abbrev Q8(R:aa):hF:=(Exit.then (fB V (cx 141) j2 (Exit.inBlock 3 (Q5 R))) (Exit.inBlock 3 (Q5 R)))
noncomputable def E7:=zp.sn
noncomputable def zq:=E7.fs
noncomputable def zr:=zq.sn
noncomputable def E8:=zr.fs
noncomputable def zs:=zr.sn
noncomputable def zt:=zs.sn
noncomputable def zu:=zt.fs
noncomputable def E9:=zu.sn
noncomputable def zv:=zt.sn
noncomputable def zw:=zv.sn
noncomputable def zx:=zw.fs
noncomputable def zy:=zx.sn
noncomputable def Fa:=zy.fs
noncomputable def Fb:=zy.sn
noncomputable def M5:=zw.sn
abbrev S3(j:J)(k:Int)(t4 e:Addr)(h c:Int)(d:Addr)(w:C)(R:aa):Prop:=
 ∃t68:Int,w.cell? (d.add 0)=some (.i t68)/\
 Y (t68==1) (aK w (.cells #[.string (av #[97]),.string (av #[98]),.string (av #[99]),.string (av #[100,100])] da) λq=>
 (0:Int)<=(bw c 4)/\(bw c 4)<((4:Nat):Int)/\cd (some (nb w)) λx=>∃t75:ByteArray,q.cell? (x.add (ae (bw c 4) *1))=some (.string t75)/\
 ao q (d.add 4) (.string t75) λy=>
 S4 j k t4 e h c d y R) (Y (t68==2) (ao w (d.add 2) (.i (bw c 2)) λu=>
 aK u (.cells #[.i (bw (ad .i64 (bE c 2)) 3)] bp) λz=>
 ao z (d.add 3) (.slice (some (nb u)) 1 1) λA=>
 S4 j k t4 e h c d A R) (Y (t68==4) (∃t90:J,w.cell? (e.add 0)=some (t90.v)/\
 Y (((t90.n:Nat):Int)==0) (ao w (d.add 0) (.i 0) λB=>
 S4 j k t4 e h c d B R) (∃t96:J,w.cell? (e.add 0)=some (t96.v)/\
 ((t96.n:Nat):Int)≠0/\ao w (d.add 1) (.i (bw c ((t96.n:Nat):Int))) λD=>
 S4 j k t4 e h c d D R)) (S4 j k t4 e h c d w R)))
def ta(E:Env)(w:C)(R:aa):Prop:=W.asSlice (Env.get? E 0) λd=>W.asInt .i64 (Env.get? E 1) λe=>W.cy (Env.get? E 4) λn=>W.cy (Env.get? E 5) λj=>W.asInt .i64 (Env.get? E 7) λc=>W.asInt .i64 (Env.get? E 8) λh=>W.cy (Env.get? E 9) λk=>S3 d e n j c h k w R
def zK:o8 V 141 ta zp Q8:=by intro h d e n;obtain⟨M,B,q⟩:=W.pe n;obtain⟨N,D,u⟩:=W.gK q;obtain⟨S,F,w⟩:=W.cI u;obtain⟨P,G,x⟩:=W.cI w;obtain⟨L,H,y⟩:=W.gK x;obtain⟨O,I,z⟩:=W.gK y;obtain⟨Q,J,A⟩:=W.cI z;exact λa k=>WP.at (E:=[(0,M.v),(1,.i N),(4,.pointer (some S)),(5,.pointer (some P)),(7,.i L),(8,.i O),(9,.pointer (some Q))]) (sr zp (K:=λd e=>dJ V zq (λd e=>gy (Env.val d (.tmp 69)) (nD V E8 (λd e=>nR d e h) d e) (dJ V zs (λd e=>gy (Env.val d (.tmp 77)) (dJ V zu (λd e=>nD V E9 (λd e=>nR d e h) d e) d e) (dJ V zv (λd e=>gy (Env.val d (.tmp 87)) (dJ V zx (λd e=>gy (Env.val d (.tmp 92)) (nD V Fa (λd e=>nR d e h) d e) (nD V Fb (λd e=>nR d e h) d e)) d e) (nR d e h)) d e)) d e)) d e) (mp A) λ_ _ c=>(bk E7 4 (by kernel_rfl) (sr zq c λ_ _ c=>(cn zr c (λc=>(rg E8 (by kernel_rfl) c λ_ _ a j c=>nx j (sq j2 (o6 h _ _ c)))) (λc=>(sr zs c λ_ _ c=>(cn zt c (λc=>(sr zu c λ_ _ c=>(rg E9 (by kernel_rfl) c λ_ _ a j c=>nx j (sq j2 (o6 h _ _ c))))) (λc=>(sr zv c λ_ _ c=>(cn zw c (λc=>(sr zx c λ_ _ c=>(cn zy c (λc=>(rg Fa (by kernel_rfl) c λ_ _ a j c=>nx j (sq j2 (o6 h _ _ c)))) (λc=>(rg Fb (by kernel_rfl) c λ_ _ a j c=>nx j (sq j2 (o6 h _ _ c))))))) (λc=>(sk M5 λa j=>nx j (sq j2 (o6 h _ _ c)))))))))))))) (k.cons B (k.cons D (k.cons F (k.cons G (k.cons H (k.cons I (k.cons J k.nil)))))))
abbrev Q9(R:aa):hF:=(bodyPost V Tryz.f13 R)
noncomputable def M6:=jA.sn
abbrev S7(t4 d:Addr)(w:C)(R:aa):Prop:=
 rV w d λj k=>ao w t4 (j.v) λn=>
 ao n (t4.add 1) (k.v) λc=>
 rV c t4 λe h=>R (U (.agg #[e.v,h.v])) c
def te(E:Env)(w:C)(R:aa):Prop:=W.cy (Env.get? E 4) λd=>W.cy (Env.get? E 5) λc=>S7 d c w R
def zM:o8 V 141 te jA Q9:=by intro h e d j;obtain⟨z,w,q⟩:=W.cI j;obtain⟨y,x,u⟩:=W.cI q;exact λa c=>WP.at (E:=[(4,.pointer (some z)),(5,.pointer (some y))]) (sr jA (K:=λe d=>kq V Tryz.f13 e d (λv=>h (U v) d)) (mp u) λ_ _ n=>(rt M6 λa k=>vh k n)) (c.cons w (c.cons x c.nil))
noncomputable def zA:=jz.fs
noncomputable def zB:=zA.sn
noncomputable def M7:=zB.fs
noncomputable def M8:=zB.sn
def tf(j:J)(q:Int)(t4 k:Addr)(e:Int)(w:C)(R:aa)(h:Y (af (e<((j.n:Nat):Int))) (Y (af (e<q)) (aw j e λA=>∃t50:Int,w.cell? (A.add (ae e *1))=some (.i t50)/\
 en eO #[.i t50,.i 1073741824] w λt51 z=>aK z (.cells #[.i 2,.i (-2),.i 3,.i (-3)] bp) λx=>
 (0:Int)<=(bw (ad .i64 (bE t51 18)) 4)/\(bw (ad .i64 (bE t51 18)) 4)<((4:Nat):Int)/\cd (some (nb z)) λB=>∃t62:Int,x.cell? (B.add (ae (bw (ad .i64 (bE t51 18)) 4) *1))=some (.i t62)/\
 aK x (.cells #[.i t62] bp) λy=>
 aK y (.cells #[.i 0,.i 0,.i 0,.slice none 0 0,.s0,.slice none 0 0,.slice none 0 0] dk) λF=>
 UL F (nb y) (.i (bw t51 6)) (.i (bw (ad .i64 (bE t51 6)) 3)) (.i 0) (.slice none 0 0) (.s0) (.slice (some (nb x)) 1 1) (.slice none 0 0) λD=>S3 j q t4 k e (ad .i64 (bE t51 72)) (nb y) D R) (S7 t4 k w R)) (S7 t4 k w R)):L2 j q t4 k e w R:=
 LP.step (n:=(cx 141)) (c:=jz) (E:=[(0,j.v),(1,.i q),(4,.pointer (some t4)),(5,.pointer (some k)),(7,.i e)]) (w:=w) (sq jz (sr zA (show(λ(E:Env) (w:C)=>dJ V zA (λE w=>gy (Env.val E (.tmp 44)) (dJ V l4 (λE w=>dJ V j1 (λE w=>dJ V kB (λE w=>ta E w R) E w) E w) E w) (te E w R)) E w) [(0,j.v),(1,.i q),(4,.pointer (some t4)),(5,.pointer (some k)),(7,.i e)] w from mp h) λ_ _ d=>(cn zB d (λd=>(sk M7 λa u=>nx u (sq l2 (bk l3 3 (by kernel_rfl) (sr l4 d λ_ _ d=>(sr j1 d λ_ _ d=>(sr kB d λ_ _ d=>(sq nO (zK R _ _ d))))))))) (λd=>(xt M8 2 (by kernel_rfl) λa u=>nx u (zM R _ _ d))))))
noncomputable def zC:=C6.fs
noncomputable def zD:=zC.sn
noncomputable def M9:=zD.fs
noncomputable def M':=zD.sn
def cf(j:J)(q:Int)(t4 u:Addr)(e:Int)(w:C)(R:aa)(h:en ou #[j.v,.i 0,.i 3] w λt13 x=>Y (af (e<t13)) (rR V jy (λE w=>o5 E w R) [(14,.bool (af (e<t13))),(13,.i t13),(12,j.v),(11,.i e),(0,j.v),(1,.i q),(4,.pointer (some t4)),(5,.pointer (some u)),(6,.i e)] x) (L2 j q t4 u 0 x R)):L0 j q t4 u e w R:=
 LP.step (n:=(cx 141)) (c:=C6) (E:=[(0,j.v),(1,.i q),(4,.pointer (some t4)),(5,.pointer (some u)),(6,.i e)]) (w:=w) (sq C6 (sr zC (show(λ(E:Env) (w:C)=>dJ V zC (λE w=>gy (Env.val E (.tmp 14)) (rR V jy (λE w=>o5 E w R) E w) (dJ V l1 (λE w=>zH E w R) E w)) E w) [(0,j.v),(1,.i q),(4,.pointer (some t4)),(5,.pointer (some u)),(6,.i e)] w from mp h) λ_ _ d=>(cn zD d (λd=>(sk M9 λa k=>nx k (sq C8 (bk k7 1 (by kernel_rfl) (ig jy (by kernel_rfl) d λ_ _ a k d=>nx k (zJ R _ _ d)))))) (λd=>(xt M' 0 (by kernel_rfl) λa k=>nx k (sq C7 (sr l1 d λ_ _ d=>(bk mN 2 (by kernel_rfl) (lp mO (by kernel_rfl) (Fh R _ _ d))))))))))
def ok(e:J)(j:Int)(w:C)(R:aa)(h:aK w (.cells #[.slice none 0 0,.slice none 0 0] ec) λk=>
 aK k (.cells #[.slice none 0 0,.slice none 0 0] ec) λn=>
 ao n (nb k) (.slice none 0 0) λq=>
 ao q ((nb k).add 1) (.slice none 0 0) λu=>
 L0 e j (nb w) (nb k) 0 u R):ah V xF #[e.v,.i j] w R:=
 tD (R:=R) (fn:=Tryz.f13) (c:=C0) (args:=[e.v,.i j]) (by kernel_rfl) (by kernel_rfl) (by kernel_rfl) (sr C0 (show(λ(E:Env) (w:C)=>dJ V C0 (λE w=>dJ V C1 (λE w=>dJ V C3 (λE w=>nQ E w R) E w) E w) E w) (ke 0 [e.v,.i j]) w from mp h) λ_ _ d=>(sr C1 d λ_ _ d=>(sq C2 (sr C3 d λ_ _ d=>(bk C4 0 (by kernel_rfl) (lp C5 (by kernel_rfl) (q1 R _ _ d)))))))
end f'
namespace gz
noncomputable abbrev X:Fx:=⟨V,Tryz.f4,[(15,(.sq [0,1,2,3,4,5,6,7,8,11,12,13,14,16] (.fork (.sq [9] (.fork (ls [10,15,17,18,19]) (ls [15,10,17,18,19]))) (ls [15,9,10,17,18,19])))),(23,(.sq [0,1,2,4,5,6,7,8,9,11,12,13,15,16,17] (.fork (.sq [3] (.fork (ls [10,14,18,19,20,21,22,23,24]) (.sq [14,18,19] (.fork (ls [10,20,21,22,23,24]) (ls [20,10,21,22,23,24]))))) (.sq [14,18,19] (.fork (.sq [3] (.fork (ls [10,20,21,22,23,24]) (ls [20,10,21,22,23,24]))) (ls [20,3,10,21,22,23,24]))))))],[6,7,10,13]⟩
abbrev P0:Ps:=[(1,.v [.s]),(6,.l [.s,.s] ec),(7,.l [.s,.s] ec),(8,.v [.I])]
def aH(m1:J)(j:Nat)(k n:J)(d:Nat)(e h:J)(c:Int)(w:C)(R:aa):Prop:=bz P0 0 (X.Sem (ai [0,1,1,1,2])) m1 j k n d e h c w R
noncomputable def az:=bK X (ai [0,1,1,1,2]) P0 aH
abbrev P1:Ps:=[(1,.v [.s]),(6,.l [.s,.s] ec),(7,.l [.s,.s] ec),(8,.v [.I]),(9,.v [.s]),(10,.l [.s,.s] ec),(11,.v [.s]),(12,.v [.I])]
def bO(m1:J)(q:Nat)(u x:J)(h:Nat)(j k:J)(d:Int)(c:J)(y:Nat)(z A n:J)(e:Int)(w:C)(R:aa):Prop:=bz P1 0 (X.Sem (ai [0,1,1,1,3,2,1,2,1,1,2])) m1 q u x h j k d c y z A n e w R
noncomputable def bx:=bK X (ai [0,1,1,1,3,2,1,2,1,1,2]) P1 bO
abbrev P2:Ps:=[(1,.v [.s]),(6,.l [.s,.s] ec),(7,.l [.s,.s] ec),(8,.v [.I]),(9,.v [.s]),(10,.l [.s,.s] ec),(11,.v [.s]),(12,.v [.I]),(13,.l [.I,.I,.I,.s,.st,.s,.s] dk)]
abbrev aY(m1:J)(e:Nat)(z A:J)(d:Nat)(u x:J)(n:Int)(k:J)(j:Nat)(B D y:J)(q:Int)(E:Nat)(F G H:Int)(I:J)(K:ByteArray)(L M:J)(w:C)(R:aa):Prop:=
 aK w (.cells #[.i F,.i G,.i H,I.v,.string K,L.v,M.v] dk) λh=>
 ∃(t52:J) (c:C),a' V (bg #[gu,gu] gu #[y.v,.slice (some (nb w)) 1 1]) h=.ok (t52.v) c/\kept [e,d,j,E] h c/\bO m1 e z A d u x n k j B D t52 (ad .i64 (q+1)) c R
noncomputable def a1:=aC X [bx,az] (ai [2,2,1,2,1,1,3,2,1,2,1,1,2]) P2 aY
abbrev be(m1:J)(j:Nat)(k n:J)(d:Nat)(e h:J)(c:Int)(w:C)(R:aa):Prop:=
 aH m1 j k n d e h (ad .i64 (c+1)) w R
noncomputable def a7:=aC X [a1,bx,az] (ai [2,2,1,1,2]) P0 be
def eh:∀(m1:J) (e:Nat) (z A:J) (d:Nat) (k x:J) (c:Int) (q:J) (j:Nat) (W B y:J) (u:Int) (w:C) (R:aa) (h:Y (af (u<((B.n:Nat):Int))) (aw B u λaA=>oj w (aA.add (ae u *7)) λZ ab ac ag ah aj ak=>aP [e,d,j] w λD al=>
 Y (Z==4) (loc [e,d,j,D] al λaD=>aY m1 e z A d k x c q j W B y u D 5 ab ac ag ah aj ak aD R) (loc [e,d,j,D] al λaC=>aY m1 e z A d k x c q j W B y u D Z ab ac ag ah aj ak aC R)) (((loc [e,d,j] w λH=>bG [e,d,j] ou #[m1.v,.i (ad .i64 (1+c)),.i ((q.n:Nat):Int)] H λt62 I=>((aK I (.cells #[.i t62,.i 0] bp) λam=>
 aK am (.cells #[.i (ad .i64 ((-2) - c)),.i (ad .i64 (7+c))] bp) λan=>
 aw k c λE=>ao an (E.add (ae c *4)) (q.v) λK=>kept [e,d,j] an K/\
 ao K ((E.add (ae c *4)).add 1) (.slice (some (nb I)) 2 2) λL=>kept [e,d,j] K L/\
 ao L ((E.add (ae c *4)).add 2) (.slice (some (nb am)) 2 2) λM=>kept [e,d,j] L M/\
 ao M ((E.add (ae c *4)).add 3) (y.v) λap=>kept [e,d,j] M ap/\
 be m1 e z A d k x c ap R)/\(aK I (.cells #[.i (ad .i64 ((-2) - c)),.i (ad .i64 (7+c))] bp) λaq=>
 aK aq (.cells #[.i t62,.i 0] bp) λar=>
 aw k c λF=>ao ar (F.add (ae c *4)) (q.v) λN=>kept [e,d,j] ar N/\
 ao N ((F.add (ae c *4)).add 1) (.slice (some (nb aq)) 2 2) λO=>kept [e,d,j] N O/\
 ao O ((F.add (ae c *4)).add 2) (.slice (some (nb I)) 2 2) λP=>kept [e,d,j] O P/\
 ao P ((F.add (ae c *4)).add 3) (y.v) λau=>kept [e,d,j] P au/\
 be m1 e z A d k x c au R)))/\(loc [e,d,j] w λH=>aK H (.cells #[.i (ad .i64 ((-2) - c)),.i (ad .i64 (7+c))] bp) λaE=>
 bG [e,d,j] ou #[m1.v,.i (ad .i64 (1+c)),.i ((q.n:Nat):Int)] aE λaB av=>aK av (.cells #[.i aB,.i 0] bp) λax=>
 aw k c λG=>ao ax (G.add (ae c *4)) (q.v) λQ=>kept [e,d,j] ax Q/\
 ao Q ((G.add (ae c *4)).add 1) (.slice (some (nb av)) 2 2) λS=>kept [e,d,j] Q S/\
 ao S ((G.add (ae c *4)).add 2) (.slice (some (nb H)) 2 2) λT=>kept [e,d,j] S T/\
 ao T ((G.add (ae c *4)).add 3) (y.v) λay=>kept [e,d,j] T ay/\
 be m1 e z A d k x c ay R)))),bO m1 e z A d k x c q j W B y u w R:=mp (bL (X:=X) [a7,a1,bx,az] (ai [0,1,1,1,3,2,1,2,1,1,2]) P1)
abbrev P3:Ps:=[(1,.v [.s]),(6,.l [.s,.s] ec),(7,.l [.s,.s] ec),(14,.v [.I])]
def mS(m1:J)(j:Nat)(k n:J)(d:Nat)(e h:J)(c:Int)(w:C)(R:aa):Prop:=bz P3 0 (X.Sem (ai [0,1,1,1,3])) m1 j k n d e h c w R
noncomputable def pF:=bK X (ai [0,1,1,1,3]) P3 mS
abbrev j5(m1:J)(j:Nat)(k n:J)(d:Nat)(e h:J)(c:Int)(w:C)(R:aa):Prop:=
 mS m1 j k n d e h (ad .i64 (c+1)) w R
noncomputable def e1:=aC X [pF,a7,a1,bx,az] (ai [2,2,1,1,3]) P3 j5
abbrev P4:Ps:=[(1,.v [.s]),(6,.l [.s,.s] ec),(7,.l [.s,.s] ec),(14,.v [.I]),(15,.v [.I])]
abbrev hJ(m1:J)(h:Nat)(k n:J)(d:Nat)(j e:J)(c u:Int)(w:C)(R:aa):Prop:=
 Y ((bw u 11)==0) (aw e c λx=>ao w ((x.add (ae c *7)).add 5) (.slice none 0 0) λq=>kept [h,d] w q/\
 j5 m1 h k n d j e c q R) (j5 m1 h k n d j e c w R)
noncomputable def dH:=aC X [e1,pF,a7,a1,bx,az] (ai [4,2,1,2,1,1,3]) P4 hJ
abbrev dV(m1:J)(j:Nat)(n q:J)(e:Nat)(k h:J)(c d:Int)(w:C)(R:aa):Prop:=
 Y ((bw d 7)==0) (aw h c λx=>ao w ((x.add (ae c *7)).add 2) (.i (ad .i64 (0 - d))) λu=>kept [j,e] w u/\
 hJ m1 j n q e k h c d u R) (hJ m1 j n q e k h c d w R)
noncomputable def df:=aC X [dH,e1,pF,a7,a1,bx,az] (ai [3,2,1,2,1,1,3]) P4 dV
abbrev eC(m1:J)(h:Nat)(q u:J)(e:Nat)(n j:J)(c d:Int)(w:C)(R:aa):Prop:=
 Y ((bw d 5)==0) (aw j c λk=>loc [h,e] w λx=>∃t110:J,x.cell? ((k.add (ae c *7)).add 3)=some (t110.v)/\
 ((aK x (.cells #[] bp) λE=>
 E.cell? ((k.add (ae c *7)).add 3)=some (t110.v)/\((∃(t111:J) (P:C),a' V (bg #[cp,cp] cp #[.slice (some (nb x)) 0 0,t110.v]) E=.ok (t111.v) P/\kept [h,e] E P/\aK P (.cells #[.i d,.i (ad .i64 (0 - d)),.i 9223372036854775807,.i (-9223372036854775808),.i 0] bp) λw4=>
 (0:Int)<=(bw (ad .i64 (bE d 5)) 5)/\(bw (ad .i64 (bE d 5)) 5)<((5:Nat):Int)/\cd (some (nb P)) λaB=>∃t120:Int,w4.cell? (aB.add (ae (bw (ad .i64 (bE d 5)) 5) *1))=some (.i t120)/\
 aK w4 (.cells #[.i t120] bp) λw5=>
 ∃(t122:J) (S:C),a' V (bg #[cp,cp] cp #[t111.v,.slice (some (nb w4)) 1 1]) w5=.ok (t122.v) S/\kept [h,e] w5 S/\aw j c λaC=>ao S ((aC.add (ae c *7)).add 3) (t122.v) λw7=>kept [h,e] S w7/\
 dV m1 h q u e n j c d w7 R)/\(aK E (.cells #[.i d,.i (ad .i64 (0 - d)),.i 9223372036854775807,.i (-9223372036854775808),.i 0] bp) λB=>
 B.cell? ((k.add (ae c *7)).add 3)=some (t110.v)/\(0:Int)<=(bw (ad .i64 (bE d 5)) 5)/\(bw (ad .i64 (bE d 5)) 5)<((5:Nat):Int)/\cd (some (nb E)) λak=>∃G:Int,B.cell? (ak.add (ae (bw (ad .i64 (bE d 5)) 5) *1))=some (.i G)/\
 ((∃(af:J) (F:C),a' V (bg #[cp,cp] cp #[.slice (some (nb x)) 0 0,t110.v]) B=.ok (af.v) F/\kept [h,e] B F/\F.cell? (ak.add (ae (bw (ad .i64 (bE d 5)) 5) *1))=some (.i G)/\aK F (.cells #[.i G] bp) λar=>
 ∃(al:J) (H:C),a' V (bg #[cp,cp] cp #[af.v,.slice (some (nb F)) 1 1]) ar=.ok (al.v) H/\kept [h,e] ar H/\aw j c λaD=>ao H ((aD.add (ae c *7)).add 3) (al.v) λau=>kept [h,e] H au/\
 dV m1 h q u e n j c d au R)/\(aK B (.cells #[.i G] bp) λW=>
 W.cell? ((k.add (ae c *7)).add 3)=some (t110.v)/\∃(ag:J) (I:C),a' V (bg #[cp,cp] cp #[.slice (some (nb x)) 0 0,t110.v]) W=.ok (ag.v) I/\kept [h,e] W I/\∃(am:J) (K:C),a' V (bg #[cp,cp] cp #[ag.v,.slice (some (nb B)) 1 1]) I=.ok (am.v) K/\kept [h,e] I K/\aw j c λaE=>ao K ((aE.add (ae c *7)).add 3) (am.v) λav=>kept [h,e] K av/\
 dV m1 h q u e n j c d av R)))))/\(aK x (.cells #[.i d,.i (ad .i64 (0 - d)),.i 9223372036854775807,.i (-9223372036854775808),.i 0] bp) λy=>
 y.cell? ((k.add (ae c *7)).add 3)=some (t110.v)/\(0:Int)<=(bw (ad .i64 (bE d 5)) 5)/\(bw (ad .i64 (bE d 5)) 5)<((5:Nat):Int)/\cd (some (nb x)) λT=>∃z:Int,y.cell? (T.add (ae (bw (ad .i64 (bE d 5)) 5) *1))=some (.i z)/\
 ((aK y (.cells #[] bp) λA=>
 A.cell? (T.add (ae (bw (ad .i64 (bE d 5)) 5) *1))=some (.i z)/\A.cell? ((k.add (ae c *7)).add 3)=some (t110.v)/\((∃(ah:J) (D:C),a' V (bg #[cp,cp] cp #[.slice (some (nb y)) 0 0,t110.v]) A=.ok (ah.v) D/\kept [h,e] A D/\D.cell? (T.add (ae (bw (ad .i64 (bE d 5)) 5) *1))=some (.i z)/\aK D (.cells #[.i z] bp) λax=>
 ∃(an:J) (L:C),a' V (bg #[cp,cp] cp #[ah.v,.slice (some (nb D)) 1 1]) ax=.ok (an.v) L/\kept [h,e] ax L/\aw j c λaF=>ao L ((aF.add (ae c *7)).add 3) (an.v) λay=>kept [h,e] L ay/\
 dV m1 h q u e n j c d ay R)/\(aK A (.cells #[.i z] bp) λZ=>
 Z.cell? ((k.add (ae c *7)).add 3)=some (t110.v)/\∃(ai:J) (M:C),a' V (bg #[cp,cp] cp #[.slice (some (nb y)) 0 0,t110.v]) Z=.ok (ai.v) M/\kept [h,e] Z M/\∃(ap:J) (N:C),a' V (bg #[cp,cp] cp #[ai.v,.slice (some (nb A)) 1 1]) M=.ok (ap.v) N/\kept [h,e] M N/\aw j c λaG=>ao N ((aG.add (ae c *7)).add 3) (ap.v) λaz=>kept [h,e] N az/\
 dV m1 h q u e n j c d az R)))/\(aK y (.cells #[.i z] bp) λab=>
 ab.cell? ((k.add (ae c *7)).add 3)=some (t110.v)/\aK ab (.cells #[] bp) λac=>
 ac.cell? ((k.add (ae c *7)).add 3)=some (t110.v)/\∃(aj:J) (O:C),a' V (bg #[cp,cp] cp #[.slice (some (nb ab)) 0 0,t110.v]) ac=.ok (aj.v) O/\kept [h,e] ac O/\∃(aq:J) (Q:C),a' V (bg #[cp,cp] cp #[aj.v,.slice (some (nb y)) 1 1]) O=.ok (aq.v) Q/\kept [h,e] O Q/\aw j c λaH=>ao Q ((aH.add (ae c *7)).add 3) (aq.v) λaA=>kept [h,e] Q aA/\
 dV m1 h q u e n j c d aA R))))) (dV m1 h q u e n j c d w R)
noncomputable def cw:=aC X [df,dH,e1,pF,a7,a1,bx,az] (ai [2,2,1,2,1,1,3]) P4 eC
def Fj:∀(m1:J) (j:Nat) (q u:J) (d:Nat) (k e:J) (c:Int) (w:C) (R:aa) (h:Y (af (c<((e.n:Nat):Int))) (bG [j,d] ou #[m1.v,.i (ad .i64 (2+c)),.i 1048576] w λt82 x=>Y ((bw t82 3)==0) (aK x (.cells #[.i 2,.i (ad .i64 ((-3) - (bw t82 4))),.i (ad .i64 (9+(bw t82 1000)))] bp) λy=>
 aw e c λA=>ao y ((A.add (ae c *7)).add 5) (.slice (some (nb x)) 3 3) λz=>kept [j,d] y z/\
 eC m1 j q u d k e c t82 z R) (eC m1 j q u d k e c t82 x R)) (loc [j,d] w λB=>R (U (.agg #[k.v,e.v])) B)),mS m1 j q u d k e c w R:=mp (bL (X:=X) [cw,df,dH,e1,pF,a7,a1,bx,az] (ai [0,1,1,1,3]) P3)
def bD:∀(m1:J) (d:Nat) (q u:J) (c:Nat) (j k:J) (e:Int) (w:C) (R:aa) (h:Y (af (e<((j.n:Nat):Int))) (bG [d,c] ou #[m1.v,.i e,.i 3] w λt29 B=>iv [d,c] xw #[m1.v,.i t29,.i 4] B λt30 D=>tF [d,c] xF #[m1.v,.i 4] D λy z E=>aP [d,c] E λx F=>
 loc [d,c,x] F λA=>bO m1 d q u c j k e t30 x y z ⟨none,0,0⟩ 0 A R) (mS m1 d q u c j k 0 w R)),aH m1 d q u c j k e w R:=mp (bL (X:=X) [cw,df,dH,e1,pF,a7,a1,bx,az] (ai [0,1,1,1,2]) P0)
def aB(e m1:J)(j:Int)(w:C)(R:aa)(h:aP [] w λc q=>
 tF [c] xF #[e.v,.i j] q λk n u=>aP [c] u λd x=>
 loc [c,d] x λy=>aH m1 c ⟨none,0,0⟩ ⟨none,0,0⟩ d k n 0 y R):ah V Cv #[e.v,m1.v,.i j] w R:=aM X [cw,df,dH,e1,pF,a7,a1,bx,az] h
end gz
namespace A4
noncomputable abbrev X:Fx:=⟨V,Tryz.f17,[(13,ls [0,1,2,3,4,5,6,7,8,9,10,11,12])],[4,8,9]⟩
abbrev P0:Ps:=[(8,.l [.s,.s] ec),(9,.l [.s,.s] ec)]
abbrev aS(h:Nat)(k n:J)(c:Nat)(d e:J)(w:C)(R:aa):Prop:=
 loc [h,c] w λj=>R (U (.agg #[d.v,e.v])) j
noncomputable def aT:=aC X [] (ai [6]) P0 aS
def aB(k B:J)(z A q:Int)(w:C)(R:aa)(h:aP [] w λe S=>
 aP [e] S λc Z=>
 aP [e,c] Z λd w3=>
 loc [e,c,d] w3 λL=>∃(t19:J) (x:C),a' V (bg #[gu,gu] gu #[.slice none 0 0,B.v]) L=.ok (t19.v) x/\kept [e,c,d] L x/\Y (((t19.n:Nat):Int)==0) (loc [e,c,d] x λw9=>R (U (.agg #[k.v,t19.v])) w9) (loc [e,c,d] x λw7=>bG [e,c,d] eO #[.i z,.i ((t19.n:Nat):Int)] w7 λt30 T=>bG [e,c,d] eO #[.i A,.i 5] T λt32 j=>Y (t32==0) (aw t19 t30 λN=>ao j ((N.add (ae t30 *7)).add 0) (.i q) λD=>kept [e,c,d] j D/\
 aS c ⟨none,0,0⟩ ⟨none,0,0⟩ d k t19 D R) (Y (t32==1) (aw t19 t30 λO=>∃t56:J,j.cell? ((O.add (ae t30 *7)).add 6)=some (t56.v)/\
 ∃(t57:J) (y:C),a' V (bg #[cp,cp] cp #[.slice none 0 0,t56.v]) j=.ok (t57.v) y/\kept [e,c,d] j y/\loc [e,c,d] y λW=>bG [e,c,d] eO #[.i q,.i (ad .i64 (t30+2))] W λt65 E=>aK E (.cells #[.i t65] bp) λF=>
 ∃(t67:J) (u:C),a' V (bg #[cp,cp] cp #[t57.v,.slice (some (nb E)) 1 1]) F=.ok (t67.v) u/\kept [e,c,d] F u/\aw t19 t30 λP=>ao u ((P.add (ae t30 *7)).add 6) (t67.v) λG=>kept [e,c,d] u G/\
 aS c ⟨none,0,0⟩ ⟨none,0,0⟩ d k t19 G R) (Y (t32==2) (aw t19 t30 λQ=>ao j ((Q.add (ae t30 *7)).add 1) (.i q) λH=>kept [e,c,d] j H/\
 aS c ⟨none,0,0⟩ ⟨none,0,0⟩ d k t19 H R) (Y (t32==3) (loc [e,c,d] j λab=>aS c ⟨none,0,0⟩ ⟨none,0,0⟩ d ⟨none,0,0⟩ t19 ab R) (aK j (.cells #[.i q] bp) λI=>
 aw t19 t30 λM=>ao I ((M.add (ae t30 *7)).add 6) (.slice (some (nb j)) 1 1) λK=>kept [e,c,d] I K/\
 aS c ⟨none,0,0⟩ ⟨none,0,0⟩ d k t19 K R)))))):ah V Cy #[.agg #[k.v,B.v],.i z,.i A,.i q] w R:=aM X [aT] h
end A4
namespace m9
noncomputable abbrev X:Fx:=⟨V,Tryz.f5,[(12,(.sq [0,1,2,4] (.fork (ls [3,5,6,7,8,9,10]) (ls [5,3,6,7,8,9,10])))),(16,ls [0,1,2,3,4,5,6,7,8,9]),(23,(.sq [1,2,4,5,6,7] (.fork (.sq [0] (.fork (ls [3,8,9,10,11]) (ls [8,3,9,10,11]))) (ls [8,0,3,9,10,11]))))],[4,8,9,13]⟩
abbrev P0:Ps:=[(8,.l [.s,.s] ec),(9,.l [.s,.s] ec)]
abbrev aS(h:Nat)(k n:J)(c:Nat)(d e:J)(w:C)(R:aa):Prop:=
 loc [h,c] w λj=>R (U (.agg #[d.v,e.v])) j
noncomputable def aT:=aC X [] (ai [8]) P0 aS
abbrev P1:Ps:=[(8,.l [.s,.s] ec),(9,.l [.s,.s] ec),(12,.v [.I]),(13,.l [.s,.s,.s,.s] g9)]
abbrev aY(e:Nat)(E F:J)(d:Nat)(u D:J)(c:Int)(h:Nat)(y z A B:J)(w:C)(R:aa):Prop:=
 aw u c λj=>ao w (j.add (ae c *4)) (y.v) λk=>kept [e,d,h] w k/\
 ao k ((j.add (ae c *4)).add 1) (z.v) λn=>kept [e,d,h] k n/\
 ao n ((j.add (ae c *4)).add 2) (A.v) λq=>kept [e,d,h] n q/\
 ao q ((j.add (ae c *4)).add 3) (B.v) λx=>kept [e,d,h] q x/\
 aS e E F d u D x R
noncomputable def a1:=aC X [aT] (ai [3,1,1,1,7,1,1,1,7]) P1 aY
abbrev P2:Ps:=[(1,.v [.I]),(3,.v [.I]),(8,.l [.s,.s] ec),(9,.l [.s,.s] ec)]
abbrev aZ(aq ar:Int)(d:Nat)(q x:J)(c:Nat)(h k:J)(w:C)(R:aa):Prop:=
 Y (af (((h.n:Nat):Int)>0)) (bG [d,c] eO #[.i aq,.i ((h.n:Nat):Int)] w λt95 w1=>aw h t95 λau=>pX w1 (au.add (ae t95 *4)) λj B D z=>aP [d,c] w1 λe w2=>
 loc [d,c,e] w2 λw6=>bG [d,c,e] eO #[.i ar,.i 4] w6 λt102 y=>Y (t102==0) (aK y (.cells #[.i ((j.n:Nat):Int)] bp) λw8=>
 loc [d,c,e] w8 λw9=>aY d q x c h k t95 e j ⟨some (nb y),1,1⟩ D z w9 R) (Y (t102==1) (aK y (.cells #[.i 0] bp) λav=>
 loc [d,c,e] av λax=>aY d q x c h k t95 e j B ⟨some (nb y),1,1⟩ z ax R) (Y (t102==2) (aK y (.cells #[] dk) λak=>
 ∃(t130:J) (Q:C),a' V (bg #[gu,gu] gu #[.slice (some (nb y)) 0 0,z.v]) ak=.ok (t130.v) Q/\kept [d,c,e] ak Q/\aK Q (.cells #[.i 4,.i 0,.i 0,.slice none 0 0,.s0,.slice none 0 0,.slice none 0 0] dk) λal=>
 ∃(t133:J) (Z:C),a' V (bg #[gu,gu] gu #[t130.v,.slice (some (nb Q)) 1 1]) al=.ok (t133.v) Z/\kept [d,c,e] al Z/\loc [d,c,e] Z λay=>aY d q x c h k t95 e j B D t133 ay R) (aw j 0 λW=>loc [d,c,e] y λA=>pY A (W.add (ae 0 *9)) λE F G H I K L M N=>((aK A (.cells #[] bV) λO=>
 Bu O (W.add (ae 0 *9)) (.i E) (F.v) (.i G) (.i H) (.u I) (.string K) (.i L) (.i M) (.i N) λ_=>((∃(t106:J) (P:C),a' V (bg #[c',c'] c' #[.slice (some (nb A)) 0 0,j.v]) O=.ok (t106.v) P/\kept [d,c,e] O P/\Bu P (W.add (ae 0 *9)) (.i E) (F.v) (.i G) (.i H) (.u I) (.string K) (.i L) (.i M) (.i N) λ_=>aK P (.cells #[.i E,F.v,.i G,.i H,.u I,.string K,.i L,.i M,.i N] bV) λam=>
 ∃(t112:J) (ab:C),a' V (bg #[c',c'] c' #[t106.v,.slice (some (nb P)) 1 1]) am=.ok (t112.v) ab/\kept [d,c,e] am ab/\loc [d,c,e] ab λaz=>aY d q x c h k t95 e t112 B D z az R)/\(aK O (.cells #[.i E,F.v,.i G,.i H,.u I,.string K,.i L,.i M,.i N] bV) λan=>
 ∃(ag:J) (S:C),a' V (bg #[c',c'] c' #[.slice (some (nb A)) 0 0,j.v]) an=.ok (ag.v) S/\kept [d,c,e] an S/\∃(ai:J) (ac:C),a' V (bg #[c',c'] c' #[ag.v,.slice (some (nb O)) 1 1]) S=.ok (ai.v) ac/\kept [d,c,e] S ac/\loc [d,c,e] ac λaA=>aY d q x c h k t95 e ai B D z aA R)))/\(aK A (.cells #[.i E,F.v,.i G,.i H,.u I,.string K,.i L,.i M,.i N] bV) λao=>
 aK ao (.cells #[] bV) λap=>
 ∃(ah:J) (T:C),a' V (bg #[c',c'] c' #[.slice (some (nb ao)) 0 0,j.v]) ap=.ok (ah.v) T/\kept [d,c,e] ap T/\∃(aj:J) (ad:C),a' V (bg #[c',c'] c' #[ah.v,.slice (some (nb A)) 1 1]) T=.ok (aj.v) ad/\kept [d,c,e] T ad/\loc [d,c,e] ad λaB=>aY d q x c h k t95 e aj B D z aB R)))))) (aS d q x c h k w R)
noncomputable def aX:=aC X [a1,aT] (ai [0,1,7,1,1,1,7]) P2 aZ
abbrev P3:Ps:=[(1,.v [.I]),(2,.v [.I]),(3,.v [.I]),(4,.l [.s,.s] ec),(8,.l [.s,.s] ec)]
abbrev be(e j h:Int)(c:Nat)(k n:J)(d:Nat)(z A:J)(w:C)(R:aa):Prop:=
 tF [c,d] Cy #[.agg #[k.v,n.v],.i e,.i j,.i h] w λq u x=>loc [c,d] x λy=>R (U (.agg #[q.v,u.v])) y
noncomputable def a7:=aC X [aX,a1,aT] (ai [8,1,1,1,7]) P3 be
def aB(x y:J)(q u j:Int)(w:C)(R:aa)(h:aP [] w λe w1=>
 aP [e] w1 λc w2=>
 aP [e,c] w2 λd w3=>
 loc [e,c,d] w3 λW=>∃(t19:J) (H:C),a' V (bg #[ju,ju] ju #[.slice none 0 0,x.v]) W=.ok (t19.v) H/\kept [e,c,d] W H/\loc [e,c,d] H λZ=>∃(t25:J) (A:C),a' V (bg #[gu,gu] gu #[.slice none 0 0,y.v]) Z=.ok (t25.v) A/\kept [e,c,d] Z A/\Y (((t25.n:Nat):Int)==0) (loc [e,c,d] A λB=>aK B (.cells #[.i j,.i 0,.i 0,.slice none 0 0,.s0,.slice none 0 0,.slice none 0 0] dk) λK=>
 ∃(t37:J) (E:C),a' V (bg #[gu,gu] gu #[t25.v,.slice (some (nb B)) 1 1]) K=.ok (t37.v) E/\kept [e,c,d] K E/\loc [e,c,d] E λak=>R (U (.agg #[t19.v,t37.v])) ak) (loc [e,c,d] A λB=>bG [e,c,d] eO #[.i q,.i ((t25.n:Nat):Int)] B λt42 al=>bG [e,c,d] eO #[.i u,.i 8] al λt44 k=>Y (t44==0) (((loc [e,c,d] k λz=>aK z (.cells #[.s0,.string (av #[65]),.string (av #[45]),.string (av #[97,32,98]),.string BT,.string (av #[120])] da) λam=>
 bG [e,c,d] eO #[.i j,.i 6] am λt57 F=>(0:Int)<=t57/\t57<((6:Nat):Int)/\cd (some (nb z)) λab=>∃t59:ByteArray,F.cell? (ab.add (ae t57 *1))=some (.string t59)/\
 aw t25 t42 λaf=>ao F ((af.add (ae t42 *7)).add 4) (.string t59) λL=>kept [e,c,d] F L/\
 aS c ⟨none,0,0⟩ ⟨none,0,0⟩ d t19 t25 L R)/\(loc [e,c,d] k λz=>bG [e,c,d] eO #[.i j,.i 6] z λD M=>aK M (.cells #[.s0,.string (av #[65]),.string (av #[45]),.string (av #[97,32,98]),.string BT,.string (av #[120])] da) λG=>
 (0:Int)<=D/\D<((6:Nat):Int)/\cd (some (nb M)) λac=>∃I:ByteArray,G.cell? (ac.add (ae D *1))=some (.string I)/\
 aw t25 t42 λag=>ao G ((ag.add (ae t42 *7)).add 4) (.string I) λN=>kept [e,c,d] G N/\
 aS c ⟨none,0,0⟩ ⟨none,0,0⟩ d t19 t25 N R))) (Y (t44==1) (aK k (.cells #[.i j,.i 0,.i (ad .i64 (0 - j))] bp) λO=>
 aw t25 t42 λai=>ao O ((ai.add (ae t42 *7)).add 5) (.slice (some (nb k)) 3 3) λP=>kept [e,c,d] O P/\
 aS c ⟨none,0,0⟩ ⟨none,0,0⟩ d t19 t25 P R) (Y (t44==2) (loc [e,c,d] k λan=>bG [e,c,d] eO #[.i j,.i 3] an λt79 Q=>aK Q (.cells #[.i 3,.i (ad .i64 (2+t79))] bp) λS=>
 aw t25 t42 λaj=>ao S ((aj.add (ae t42 *7)).add 5) (.slice (some (nb Q)) 2 2) λT=>kept [e,c,d] S T/\
 aS c ⟨none,0,0⟩ ⟨none,0,0⟩ d t19 t25 T R) (Y (t44==3) (Y (t44==3) (aZ q j c ⟨none,0,0⟩ ⟨none,0,0⟩ d t19 t25 k R) (be q u j e x y c ⟨none,0,0⟩ ⟨none,0,0⟩ k R)) (Y (t44==4) (aZ q j c ⟨none,0,0⟩ ⟨none,0,0⟩ d t19 t25 k R) (be q u j e x y c ⟨none,0,0⟩ ⟨none,0,0⟩ k R))))))):ah V uH #[.agg #[x.v,y.v],.i q,.i u,.i j] w R:=aM X [a7,aX,a1,aT] h
end m9
def iQ(x:Int):Bool:=af (x≠0)&&af (-1073741824<=x)&&af (x<=1073741824)
def jg:List Int->Bool
 |a::b::r=>af (a.natAbs<b.natAbs)&&jg (b::r)
 |_=>true
def hX(l:List Int):Int:=if l.length>65536 then 4 else if l.all iQ then 0 else 1
def fq(l:List Int):Int:=if hX l≠0 then hX l else if jg l then 0 else 10
abbrev ej(w0:C)(n:Int):aa:=λr c=>r=U (.i n)/\aj w0 c
def lu{l:List Int}{i:Nat}{x:Int}(h:l[i]? =some x):l.drop i=x::l.drop (i+1):=by obtain⟨c,rfl⟩:=List.getElem?_eq_some_iff.1 h;exact dZ c
def ot{x:Int}:iQ x=true↔x≠0/\-1073741824<=x/\x<=1073741824:=by
 unfold iQ
 grind
section
variable {w0:C} {s:J} {l:List Int}
def Rn{w:C}(h:bo w s l)(D:l.length<=9223372036854775806):ah V B1 #[s.v] w (ej w (hX l)):=by
 have E:=bo.len h;by_cases B:l.length>65536
 .exact py.ok _ w _ (a8 (a0 (by omega)) ⟨by unfold hX;grind,Fr.refl _ _⟩)
 refine py.ok _ w _ (bb (a2 (by omega)) ?_);have A:hX l=if l.all iQ then 0 else 1:=by unfold hX;omega
 have loop:∀(k i:Nat) (w':C),i+k=l.length->aj w w'->l.all iQ=(l.drop i).all iQ->py.L0 s ((s.n:Nat):Int) (i:Int) w' (ej w (hX l)):=by
  intro k;induction k with
  |zero=>
   intro i w' z f c;rw[c9 (by omega)]at c;exact py.cf _ _ _ _ _ (bb (a2 (by omega)) ⟨by grind,f⟩)
  |succ k F=>
   intro i w' z f c;have d:l[i]? =some l[i]:=a9 (by omega);generalize l[i]=x at d;rw[lu d,List.all_cons]at c;refine py.cf _ _ _ _ _ (a8 (a0 (by omega)) ⟨by omega,by omega,bo.cell (h.ct f) d (by omega) λp _ y=>⟨x,y,?_⟩⟩);have go:iQ x=true->py.L0 s ((s.n:Nat):Int) (ad .i64 ((i:Int)+1)) w' (ej w (hX l)):=λe=>by
    rw[bA _ (by omega)]
    grind
   have stop:iQ x=false->ej w (hX l) (U (.i 1)) w':=λe=>⟨by grind,f⟩;have no:¬(x≠0/\-1073741824<=x/\x<=1073741824)->iQ x=false:=λe=>Bool.eq_false_iff.2 λh=>e (ot.1 h);refine GK.ok _ w' _ (cD (λj=>aQ (λq=>⟨_,rfl,eJ (λu=>stop (no ?_)) (λu=>go (ot.2 ?_))⟩) (λq=>⟨_,rfl,a8 rfl (stop (no ?_))⟩)) (λj=>⟨_,rfl,a8 rfl (stop (no ?_))⟩))
   .grind
   .grind
   .omega
   .omega
 exact loop l.length 0 w (by omega) (Fr.refl _ _) rfl
def Od{w:C}(h:bo w s l)(G:l.length<=9223372036854775806):ah V Cu #[s.v] w (ej w (hX l)):=by
 have H:=bo.len h;by_cases F:l.length>65536
 .exact pN.ok _ w _ (a8 (a0 (by omega)) ⟨by unfold hX;grind,Fr.refl _ _⟩)
 refine pN.ok _ w _ (bb (a2 (by omega)) ?_);have n:hX l=if l.all iQ then 0 else 1:=by unfold hX;omega
 have loop:∀(k i:Nat),i+k=l.length->l.all iQ=(l.drop i).all iQ->pN.L0 s (i:Int) w (ej w (hX l)):=by
  intro k;induction k with
  |zero=>
   intro i A c;rw[c9 (by omega)]at c;exact pN.cf _ _ _ _ (bb (a2 (by omega)) ⟨by grind,Fr.refl _ _⟩)
  |succ k E=>
   intro i A c;have e:l[i]? =some l[i]:=a9 (by omega);generalize l[i]=x at e;rw[lu e,List.all_cons]at c;have j:∀{K:Addr->Prop},(∀p,w.cell? (p.add (ae (i:Int) *1))=some (.i x)->K p)->aw s (i:Int) K:=λB=>⟨by omega,by omega,bo.cell h e (by omega) λp _ z=>B p z⟩;have stop:¬(x≠0/\-1073741824<=x/\x<=1073741824)->pN.S1 w (ej w (hX l)):=λD=>⟨by rw[n,c,Bool.eq_false_iff.2 λh=>D (ot.1 h)];rfl,Fr.refl _ _⟩;refine pN.cf _ _ _ _ (a8 (a0 (by omega)) (j λp d=>⟨x,d,aJ (λq=>stop (by omega)) (λq=>j λp d=>⟨x,d,aQ (λu=>stop (by omega)) (λu=>j λp d=>⟨x,d,aQ (λy=>stop (by omega)) (λy=>?_)⟩)⟩)⟩));rw[bA _ (by omega)];exact E (i+1) (by omega) (by rw[c,ot.2 (by omega),Bool.true_and])
 exact loop l.length 0 (by omega) rfl
def IN{x:Int}(c:-1073741824<=x/\x<=1073741824)(w:C):ah V xk #[.i x] w (ej w (x.natAbs:Int)):=by
 refine GL.ok _ w _ ⟨?_,Fr.refl _ _⟩;rw[bf _ (by omega)]
 grind
def F7{x:Int}(d:-1073741824<=x/\x<=1073741824)(w:C):ah V xC #[.i x] w (ej w (x.natAbs:Int)):=by
 refine HK.ok _ w _ (aQ (λc=>⟨?_,Fr.refl _ _⟩) (λc=>⟨?_,Fr.refl _ _⟩))
 .rw [bf _ (by omega)];grind
 grind
def IJ{w:C}(h:bo w s l)(N:l.length<=9223372036854775806):ah V xj #[s.v] w (ej w (fq l)):=by
 have O:=bo.len h;refine rq.ok _ w _ ((Rn h N).mono ?_);rintro _ S ⟨rfl,u⟩;refine⟨_,rfl,cD (λn=>⟨by unfold fq;grind,u⟩) (λn=>?_)⟩;have z:fq l=if jg l then 0 else 10:=by unfold fq;omega
 have E:∀c∈l,-1073741824<=c/\c<=1073741824:=λc j=>by
  unfold hX at n;split at n
  .omega
  .split at n
   .rename_i d;exact(ot.1 (List.all_eq_true.1 d c j)).2
   .omega
 have loop:∀(k i:Nat) (w':C),i+1+k=l.length->aj w w'->jg l=jg (l.drop i)->rq.L0 s ((i+1:Nat):Int) w' (ej w (fq l)):=by
  intro k;induction k with
  |zero=>
   intro i w' M f d;have J:∃c,l.drop i=[c]:=by
    have:(l.drop i).length=1:=by grind
    exact List.length_eq_one_iff.1 this
   obtain⟨c,j⟩:=J;rw[j]at d;exact rq.cf _ _ _ _ (bb (a2 (by omega)) ⟨by rw[z,d];rfl,f⟩)
  |succ k Q=>
   intro i w' M f d;have q:l[i]? =some l[i]:=a9 (by omega);have e:l[i+1]? =some l[i+1]:=a9 (by omega);generalize l[i]=c at q;generalize l[i+1]=y at e;rw[lu q,lu e]at d;have j:=E c (aE q);have P:=E y (aE e);have H:ad .i64 (((i+1:Nat):Int) - 1)=(i:Int):=by rw[bf _ (by omega)];omega
   refine rq.cf _ _ _ _ (a8 (a0 (by omega)) ((bN (w:=w') [] (by simp)).dr λT x=>?_));rw[H];have D:=h.ct (f.ew x.fr);refine⟨by omega,by omega,bo.cell D e (by omega) λp Z L=>⟨y,L,by omega,by omega,bo.cell D q (by omega) λaa hq F=>⟨c,F,(IN P T).mono ?_⟩⟩⟩;rintro _ W ⟨rfl,A⟩;refine⟨_,rfl,?_,(IN j W).mono ?_⟩
   .exact Aw A F λh=>h
   rintro _ Y ⟨rfl,I⟩;have B:=((f.ew x.fr).ew A).ew I;refine⟨_,rfl,aQ (λK=>⟨?_,B⟩) (λK=>?_)⟩
   .rw [z,d];unfold jg;grind
   .rw [bA _ (by omega)];refine Q (i+1) Y (by omega) B ?_;rw[d,lu e];conv=>lhs;unfold jg
    grind
 cases G:l with
 |nil=>rw[G]at O;exact rq.cf _ _ _ _ (bb (a2 (by grind)) ⟨rfl,u⟩)
 |cons c r=>rw[<-G];exact loop r.length 0 S (by grind) u rfl
def F'{w:C}(h:bo w s l)(M:l.length<=9223372036854775806):ah V xB #[s.v] w (ej w (fq l)):=by
 have N:=bo.len h;refine rH.ok _ w _ ((Od h M).mono ?_);rintro _ Q ⟨rfl,u⟩;refine⟨_,rfl,cD (λn=>⟨by unfold fq;grind,u⟩) (λn=>?_)⟩;have z:fq l=if jg l then 0 else 10:=by unfold fq;omega
 have E:∀c∈l,-1073741824<=c/\c<=1073741824:=λc j=>by
  unfold hX at n;split at n
  .omega
  .split at n
   .rename_i d;exact(ot.1 (List.all_eq_true.1 d c j)).2
   .omega
 have loop:∀(k i:Nat) (w':C),i+1+k=l.length->aj w w'->jg l=jg (l.drop i)->rH.L0 s ((i+1:Nat):Int) w' (ej w (fq l)):=by
  intro k;induction k with
  |zero=>
   intro i w' L f d;obtain⟨c,j⟩:∃c,l.drop i=[c]:=List.length_eq_one_iff.1 (by grind);rw[j]at d;exact rH.cf _ _ _ _ (bb (a2 (by omega)) ⟨by rw[z,d];rfl,f⟩)
  |succ k P=>
   intro i w' L f d;have q:l[i]? =some l[i]:=a9 (by omega);have e:l[i+1]? =some l[i+1]:=a9 (by omega);generalize l[i]=c at q;generalize l[i+1]=y at e;rw[lu q,lu e]at d;have j:=E c (aE q);have O:=E y (aE e);have H:ad .i64 (((i+1:Nat):Int) - 1)=(i:Int):=by rw[bf _ (by omega)];omega
   refine rH.cf _ _ _ _ (a8 (a0 (by omega)) ((bN (w:=w') [] (by simp)).dr λS x=>?_));rw[H];have D:=h.ct (f.ew x.fr);refine⟨by omega,by omega,bo.cell D q (by omega) λp Y K=>⟨c,K,by omega,by omega,bo.cell D e (by omega) λaa Z F=>⟨y,F,(F7 j S).mono ?_⟩⟩⟩;rintro _ T ⟨rfl,A⟩;refine⟨_,rfl,Aw A F λh=>h,(F7 O T).mono ?_⟩;rintro _ W ⟨rfl,I⟩;have B:=((f.ew x.fr).ew A).ew I;refine⟨_,rfl,aQ (λJ=>⟨?_,B⟩) (λJ=>?_)⟩
   .rw [z,d];unfold jg;grind
   .rw [bA _ (by omega)];refine P (i+1) W (by omega) B ?_;rw[d,lu e];conv=>lhs;unfold jg
    grind
 cases G:l with
 |nil=>rw[G]at N;exact rH.cf _ _ _ _ (bb (a2 (by grind)) ⟨rfl,u⟩)
 |cons c r=>rw[<-G];exact loop r.length 0 Q (by grind) u rfl
end
def Rm(s:ByteArray)(w:C):ah V CJ #[.string s] w λr e=>r=U (.bool (gg (bl s)))/\aj w e:=by
 have I:(bl s).length=s.size:=eS s;have no:gg (bl s)=false->(Ending.returned (.bool false)=U (.bool (gg (bl s)))/\aj w w):=λh=>⟨by rw[h],Fr.refl _ _⟩;cases y:bl s with
 |nil=>
  have u:s.size=0:=by grind
  exact kn.ok s w _ (a8 (by grind) ⟨rfl,Fr.refl _ _⟩)
 |cons c m=>
  have J:s.size=m.length+1:=by grind
  rw[y]at no;have u:s[ae 0]? =some c:=FN y 0;refine kn.ok s w _ (aJ (λh=>by omega) (λ_=>aQ (λh=>no ?_) (λh=>⟨by omega,c,u,aQ (λk=>no ?_) (λk=>⟨by omega,c,u,aQ (λj=>no ?_) (λj=>?_)⟩)⟩)))
  .rw [lJ,a2 (by omega)];rfl
  .rw [lJ];unfold e4;grind
  .rw [lJ];unfold e4;grind
  have D:gg (c::m)=(bl s).all cT:=by
   rw[lJ,y,List.all_cons];unfold cT e4
   grind
  rw[D];have loop:∀(d i:Nat),i+d=s.size->(bl s).all cT=((bl s).drop i).all cT->kn.L1 s ((s.size:Nat):Int) (i:Int) w λr e=>r=U (.bool ((bl s).all cT))/\aj w e:=by
   intro d;induction d with
   |zero=>
    intro i G q;rw[c9 (by omega)]at q;exact kn.j3 _ _ _ _ _ (bb (a2 (by omega)) ⟨by grind,Fr.refl _ _⟩)
   |succ d M=>
    intro i G q;have A:(bl s)[i]? =some (bl s)[i]:=a9 (by omega);have F:(bl s).drop i=(bl s)[i]::(bl s).drop (i+1):=dZ (by omega);rw[F,List.all_cons]at q;generalize(bl s)[i]=x at A q;have L:=x.toNat_lt;have go:cT x=true->kn.S4 s ((s.size:Nat):Int) (i:Int) w λr e=>r=U (.bool ((bl s).all cT))/\aj w e:=λh=>by
     show kn.L1 s _ (ad .i64 ((i:Int)+1)) w _;rw[bA _ (by omega)]
     grind
    have stop:cT x=false->(Ending.returned (.bool false)=U (.bool ((bl s).all cT))/\aj w w):=λh=>⟨by grind,Fr.refl _ _⟩;have n:cT x=true↔(97<=x.toNat/\x.toNat<=122)\/(48<=x.toNat/\x.toNat<=57)\/x.toNat=45:=by
     have H:(x==45)=true↔x.toNat=45:=by rw[beq_iff_eq];exact⟨λh=>by rw[h];rfl,λh=>UInt8.toNat_inj.1 h⟩
     unfold cT e4
     grind
    have B:¬((97<=x.toNat/\x.toNat<=122)\/(48<=x.toNat/\x.toNat<=57)\/x.toNat=45)->cT x=false:=λh=>Bool.eq_false_iff.2 λj=>h (n.1 j);have z:¬(97<=x.toNat/\x.toNat<=122)->Y (af (((x.toNat:Nat):Int)<48)) (Y (((x.toNat:Nat):Int) !=45) (kn.S3 w λr e=>r=U (.bool ((bl s).all cT))/\aj w e) (kn.S4 s ((s.size:Nat):Int) (i:Int) w λr e=>r=U (.bool ((bl s).all cT))/\aj w e)) (Y (af (((x.toNat:Nat):Int)>57)) (Y (((x.toNat:Nat):Int) !=45) (kn.S3 w λr e=>r=U (.bool ((bl s).all cT))/\aj w e) (kn.S4 s ((s.size:Nat):Int) (i:Int) w λr e=>r=U (.bool ((bl s).all cT))/\aj w e)) (kn.S4 s ((s.size:Nat):Int) (i:Int) w λr e=>r=U (.bool ((bl s).all cT))/\aj w e)):=λK=>
     aQ (λk=>cD (λj=>stop (B (by omega))) (λj=>go (n.2 (by omega)))) (λk=>aQ (λE=>cD (λj=>stop (B (by omega))) (λj=>go (n.2 (by omega)))) (λE=>go (n.2 (by omega))))
    refine kn.j3 _ _ _ _ _ (a8 (a0 (by omega)) ⟨by omega,x,by rw[bT];exact(FN rfl i).trans A,aQ (λk=>z (by omega)) (λk=>aQ (λj=>z (by omega)) (λj=>go (n.2 (by omega))))⟩)
  exact loop s.size 0 (by omega) rfl
def gp(s:dz)(i aD:Int):Int:=
 if s.kind<0\/s.kind>5 then 1 else if fq s.cY≠0 then fq s.cY else if bl s.nm≠[]/\gg (bl s.nm)=false then 6
 else if s.hints.all (λc=>af (0<=c)&&af (c<i))then(if s.kind=4/\(s.node<0\/s.node>=aD)then 7 else 0)else 14
def j6(w:C)(d:Sp):Prop:=bo w d.p d.x.params/\bo w d.l d.x.cY/\bo w d.h d.x.hints
def pa(d:Sp):Prop:=d.x.params.length<=1000000000/\d.x.cY.length<=1000000000/\d.x.hints.length<=1000000000
def vx{s:dz}{i aD:Int}(h:s.kind<0\/s.kind>5):gp s i aD=1:=by unfold gp;omega
def LM{s:dz}{i aD:Int}(h:¬(s.kind<0\/s.kind>5))(c:fq s.cY≠0):gp s i aD=fq s.cY:=by unfold gp;omega
def LQ{s:dz}{i aD:Int}(h:¬(s.kind<0\/s.kind>5))(c:fq s.cY=0)(d:bl s.nm≠[]/\gg (bl s.nm)=false):gp s i aD=6:=by unfold gp;grind
def LN{s:dz}{i aD:Int}(h:¬(s.kind<0\/s.kind>5))(c:fq s.cY=0)(d:¬(bl s.nm≠[]/\gg (bl s.nm)=false)):gp s i aD=if s.hints.all (λh=>af (0<=h)&&af (h<i))then(if s.kind=4/\(s.node<0\/s.node>=aD)then 7 else 0)else 14:=by unfold gp;grind
def r'{t:ByteArray}:t=av #[]↔bl t=[]:=⟨λc=>by rw[c];rfl,λc=>by rw[<-mW t,c];rfl⟩
def IL{d:Sp}(K:pa d){i aD:Int}{w:C}(H:j6 w d):ah V xN #[d.v,.i i,.i aD] w (ej w (gp d.x i aD)):=by
 refine ss.aB _ _ _ _ _ _ _ _ _ w _ ((bN (w:=w) [d.hE,d.lE] (by
  intro G I;simp only[ay,aW,a3]at I;rcases I with rfl|rfl
  .exact H.2.2
  .exact H.2.1)).aN λb w1 y=>?_)
 refine aQ (λc=>⟨by rw[vx (.inl c)],y.fr⟩) (λT=>aQ (λc=>⟨by rw[vx (.inr c)],y.fr⟩) (λW=>y.ax (IJ (l:=d.x.cY) (y.getD 1) (by have:=K.2.1;omega)) ?_));have E:¬(d.x.kind<0\/d.x.kind>5):=by omega
 rintro _ L rfl B;refine⟨_,rfl,cD (λc=>⟨by rw[LM E c],B.fr⟩) (λA=>?_)⟩;have F:¬(bl d.x.nm≠[]/\gg (bl d.x.nm)=false)->∀q,Z F0 w q [.g b] [d.hE,d.lE]->ss.aZ i aD b d.x.kind d.x.node d.x.dD d.p d.x.nm d.l d.h q (ej w (gp d.x i aD)):=by
  intro u q e;have J:bo q d.h d.x.hints:=e.getD 0;have Y:=bo.len J;have G:=LN (i:=i) (aD:=aD) E A u;have loop:∀(k j:Nat),j+k=d.x.hints.length->d.x.hints.all (λc=>af (0<=c)&&af (c<i))=(d.x.hints.drop j).all (λc=>af (0<=c)&&af (c<i))->ss.dy i aD b d.x.kind d.x.node d.x.dD d.p d.x.nm d.l d.h d.h ((d.h.n:Nat):Int) (j:Int) q (ej w (gp d.x i aD)):=by
   intro k;induction k with
   |zero=>
    intro j Q z;rw[c9 (by omega),List.all_nil]at z;rw[z,aA rfl]at G;refine ss.ha _ _ _ _ _ _ _ _ _ _ _ _ _ _ _ (bb (a2 (by omega)) (aJ (λN=>aQ (λc=>⟨by grind,e.fr⟩) (λO=>aQ (λc=>⟨by grind,e.fr⟩) (λP=>⟨by grind,e.fr⟩))) (λN=>⟨by grind,e.fr⟩)))
   |succ k ih=>
    intro j Q z;have D:d.x.hints[j]? =some d.x.hints[j]:=a9 (by omega);generalize d.x.hints[j]=x at D;rw[lu D,List.all_cons]at z;refine ss.ha _ _ _ _ _ _ _ _ _ _ _ _ _ _ _ (a8 (a0 (by omega)) ⟨by omega,by omega,bo.cell J D (by omega) λp _ A=>⟨x,A,aQ (λc=>⟨?_,e.fr⟩) (λO=>aQ (λc=>⟨?_,e.fr⟩) (λP=>?_))⟩⟩)
    .grind
    .grind
    .rw [bA _ (by have:=K.2.2;omega)]
     grind
  exact loop d.x.hints.length 0 (by omega) rfl
 rw[y3];refine eJ (λu=>?_) (λu=>F (λc=>c.1 (r'.1 (hC u))) L B);refine B.ax (Rm d.x.nm L) ?_;rintro _ q rfl e;refine⟨_,rfl,eJ (λc=>⟨by rw[LQ E A ⟨λM=>qP u (r'.2 M),c⟩],e.fr⟩) (λc=>F (λS=>by grind) q e)⟩
def sY:List ab:=[.string (ba (lZ 0)),.string (ba (lZ 1)),.string (ba (lZ 2)),.string (ba (lZ 3)),.string (ba (lZ 4)),.string (ba (lZ 5))]
def MU{k:Nat}(h:k<6):sY[k]? =some (.string (ba (lZ k))):=by
 have:k=0\/k=1\/k=2\/k=3\/k=4\/k=5:=by omega
 rcases this with rfl|rfl|rfl|rfl|rfl|rfl<;>rfl
def MT{k:Nat}(h:k<6)(c:k≠2):lZ k≠[]/\lZ k≠[32]:=by
 have:k=0\/k=1\/k=2\/k=3\/k=4\/k=5:=by omega
 rcases this with rfl|rfl|rfl|rfl|rfl|rfl<;>first |exact absurd rfl c|exact⟨by decide,by decide⟩
def lD(k:Int)(lo hi:UInt8):I:=.mk k lo hi ⟨none,0,0⟩ []
def pZ(k:Int)(lo hi:UInt8)(w:C):(lD k lo hi).P w:=by unfold lD I.P I.Ps;exact⟨bF.nil 4 w,trivial⟩
def p0{k:Int}{lo hi:UInt8}{b:Nat}:¬b∈(lD k lo hi).fp:=λc=>by
 unfold lD I.fp I.bm at c;rcases List.mem_append.1 c with c|c
 .simp [I.row,En.bh]at c
 .cases c
section
variable {s:J} {l:List dK} {n:Nat}
def NQ(Y:iL l)(ao:l.length<=1000000)(ih:lg s l n)(j:Nat)(st:bQ)(w:C)(x:Rx)(J:bQ)(d:pj l (n+1) st=some (x,J))(hi:st.1<l.length)(H:iq j s l st w):
  ah V xq #[.pointer (some (ag j))] w (SA j s w (λr w'=>fL w x r w'/\J.1<l.length) J):=by
 let R:aa:=SA j s w (λr w'=>fL w x r w'/\J.1<l.length) J
 have loop:∀(f k:Nat) (q B:Nat) (D:C),f+k=6->kz l st 6 0=kz l st f k->(match kz l st 6 0 with
   |some k=>bif Nat.ble k 2 then some (Rx.mk k 0 0 [],(st.1+1,st.2))else match pW l n (st.1+1,st.2)with
    |some (m,st)=>some (Rx.mk k 0 0 m,st)
    |none=>none
   |none=>let st:=jP l [40] st
    bif st.2 then some (fx,st)else match kf l n st with
    |some (a,st)=>some (a,jP l [41] st)
    |none=>none)=some (x,J)->Z (·=j) w D [cR j s st,.g q,.c B sY da] [cX s l]->
   n4.bO (ag j) q 0 0 0 ⟨none,0,0⟩ ⟨some (ag B),6,6⟩ (k:Int) D R:=by
  intro f;induction f with
  |zero=>
   intro k q B D hk hw d E;have e0:kz l st 0 k=none:=by unfold kz;rfl
   rw[hw,e0]at d;dsimp only at d;have ai:=uU Y hi [40] (by decide);refine n4.eh _ _ _ _ _ _ _ _ _ _ (bb (a2 (by omega)) (E.h8 (tB E.fQ hi ao [40]) ?_));rintro _ u rfl e _;generalize jP l [40] st=Ep at d ai e;refine⟨rfl,Ep.2,e.ld 0 2,cK (λh=>?_) (λh=>?_)⟩
   .rw [h]at d;simp only[cond_true,fb,eX]at d;obtain⟨rfl,rfl⟩:=d;exact e.ak λS y=>⟨⟨⟨⟨ch,rfl,rfl,jQ _,λb h=>(jR h).elim⟩,ai⟩,y.get 0⟩,y.fr⟩
   .rw [h]at d;dsimp only[cond_false]at d;cases G:kf l n Ep with
    |none=>rw[G]at d;cases d
    |some aj=>
     obtain⟨a,ab⟩:=aj;rw[G]at d;simp only[fb,eX]at d;obtain⟨rfl,rfl⟩:=d;refine e.h8 (ih.expr j Ep u a ab G ai e.fQ) ?_;rintro _ S ⟨⟨ac,rfl,hu,pu,fu⟩,W⟩ _ F3;have y:=F3 (.tree ac) pu λb h=>fu b (a4.1 h);refine⟨_,_,_,ac.s,rfl,y.aN λb6 w4 z=>z.ak λw5 A=>?_⟩;have A:Z (·=j) w w5 (cR j s ab::[.g q,.c B sY da,.g b6]) [cX s l,.tree ac]:=A;refine A.h8 (tB A.fQ W ao [41]) ?_;rintro _ w6 rfl H6 _;exact⟨rfl,H6.ak λw7 K=>⟨⟨⟨⟨ac,rfl,hu,K.getD 1,λb h=>bB e.fr.size (fu b h)⟩,uU Y W [41] (by decide)⟩,K.get 0⟩,K.fr⟩⟩
  |succ f az=>
   intro k q B D hk hw d E;have next:kz l st (f+1) k=kz l st f (k+1)->∀u,Z (·=j) w u [cR j s st,.g q,.c B sY da] [cX s l]->n4.aY (ag j) q 0 0 0 ⟨none,0,0⟩ ⟨some (ag B),6,6⟩ (k:Int) u R:=by intro Q u e;show n4.bO _ _ _ _ _ _ _ _ _ _;rw[bA _ (by omega)];exact az (k+1) q B u (by omega) (by rw[hw,Q]) d e
   refine n4.eh _ _ _ _ _ _ _ _ _ _ (a8 (a0 (by omega)) (aJ (λO=>E.ak λu e=>next (by
    have:k=2:=by omega
    subst this;conv=>lhs;unfold kz
    rfl) u e) (λO=>⟨by omega,by show(k:Int)<((6:Nat):Int);omega,?_⟩)))
   have O:k≠2:=by omega
   have am:cv k 2=false:=by
    cases F:cv k 2 with
    |false=>rfl
    |true=>exact absurd (Nat.eq_of_beq_eq_true F) O
   refine jT (E.ak λu e=>?_);rw[bT,Nat.mul_one];refine⟨ba (lZ k),e.ld 2 k rfl (MU (by omega)),e.ax (Aq e.fQ hi) ?_⟩;rintro _ S rfl y;refine⟨_,rfl,y.ld 2 k rfl (MU (by omega)),?_⟩;rw[rl];refine eJ (λhs=>next (by
    conv=>lhs;unfold kz
    rw[am,hs];rfl) S y) (λhs=>?_)
   have ap:=eq_of_beq hs;have ay:kz l st 6 0=some k:=by
    rw[hw];conv=>lhs;unfold kz
    rw[am,hs];rfl
   rw[ay]at d;dsimp only at d;have T:st.1+1<l.length:=by
    refine IS Y hi (by rw[ap];exact(MT (by omega) O).1) ?_;cases h:st.2 with
    |false=>rfl
    |true=>
     exfalso;refine(MT (k:=k) (by omega) O).2 ?_;rw[<-ap];unfold fa;rw[h];rfl
   refine⟨(st.1:Int),y.ld 0 1,?_⟩;rw[bA _ (by omega)];refine y.LW 0 1 rfl λw4 z=>?_;have z:Z (·=j) w w4 [cR j s (st.1+1,st.2),.g q,.c B sY da] [cX s l]:=z;refine z.aN λb5 w5 A=>aQ (λaw=>?_) (λaw=>?_)
   .have af:Nat.ble k 2=false:=by
     cases F:Nat.ble k 2 with
     |false=>rfl
     |true=>have:=Nat.le_of_ble_eq_true F;omega
    rw[af]at d;dsimp only[cond_false]at d;cases G:pW l n (st.1+1,st.2)with
    |none=>rw[G]at d;cases d
    |some aj=>
     obtain⟨m,ab⟩:=aj;rw[G]at d;simp only[fb,eX]at d;obtain⟨Q,rfl⟩:=d;refine A.ak λw9 N=>?_;have N:Z (·=j) w w9 (cR j s (st.1+1,st.2)::[.g q,.c B sY da,.g b5]) [cX s l]:=N;refine N.h8 (ih.kids j (st.1+1,st.2) w9 m ab G T N.fQ) ?_;rintro _ aC ⟨⟨sl,a,rfl,ha,pa,al⟩,W⟩ _ aq;have ar:=aq (.tree (bR sl a)) pa λb h=>al b (a4.1 h);refine⟨sl,rfl,ar.ak λaD au=>au.ak λaA ae=>?_⟩;refine⟨⟨⟨⟨.mk k 0 0 sl a,rfl,?_,?_,λb h=>?_⟩,W⟩,ae.get 0⟩,ae.fr⟩
     .rw [<-Q,<-ha];rfl
     .have:=dx.1 (show(bR sl a).P aA from ae.getD 1);unfold I.P;exact this
     .refine bB N.fr.size (al b ?_);unfold I.fp at h;unfold bR I.fp;exact h
   .have af:Nat.ble k 2=true:=Nat.ble_eq_true_of_le (by omega);rw[af]at d;simp only[cond_true,fb,eX]at d;obtain⟨Q,rfl⟩:=d;refine A.ak λw6 H6=>H6.ak λw7 K=>⟨⟨⟨⟨lD k 0 0,rfl,?_,pZ _ _ _ _,λb h=>(p0 h).elim⟩,T⟩,K.get 0⟩,K.fr⟩;rw[<-Q];rfl
 have s0:∀(q:Nat) (D:C),(!st.2&&cv (fA l st.1).k 2)=false->Z (·=j) w D [cR j s st,.g q] [cX s l]->n4.aS (ag j) q 0 0 0 ⟨none,0,0⟩ D R:=by intro q D hq E;unfold pj at d;rw[hq]at d;dsimp only[cond_false]at d;refine E.nw λu _ e=>?_;exact loop 6 0 q D.heap.size u (by omega) rfl d e
 refine n4.aB _ w _ (H.aN λq D E=>E.ak λu e=>⟨st.2,e.ld 0 2,eJ (λh=>?_) (λh=>s0 q u (by rw[h];rfl) e)⟩);have hn:=vE (e.getD 0:bF _ _ _ _);refine⟨s,e.ld 0 0,(st.1:Int),e.ld 0 1,by omega,by omega,vF (e.getD 0) hi λp hp L=>⟨((fA l st.1).k:Int),?_,aJ (λM=>?_) (λM=>s0 q u (by
  have:cv (fA l st.1).k 2=false:=by
   cases F:cv (fA l st.1).k 2 with
   |false=>rfl
   |true=>have:=Nat.eq_of_beq_eq_true F;omega
  rw[this];simp) e)⟩⟩
 .rw [bT,kD];exact L.c2
 have M:(fA l st.1).k=2:=by omega
 have T:st.1+1<l.length:=by
  rcases Nat.lt_or_ge (st.1+1) l.length with F|F
  .exact F
  .exfalso;have av:st.1=l.length - 1:=by omega
   rw[av,Y.2.2]at M;cases M
 refine⟨(st.1:Int),e.ld 0 1,?_⟩;rw[bA _ (by omega)];refine e.LW 0 1 rfl λS y=>?_;have y:Z (·=j) w S [cR j s (st.1+1,st.2),.g q] [cX s l]:=y;refine y.ak λw4 z=>⟨s,z.ld 0 0,((st.1+1:Nat):Int),z.ld 0 1,?_⟩;have em:ad .i64 (((st.1+1:Nat):Int) - 1)=(st.1:Int):=by rw[bf _ (by omega)];omega
 rw[em];unfold pj at d;rw[h,M]at d;have d:some (Rx.mk 2 (fA l st.1).lo (fA l st.1).hi [],(st.1+1,false))=some (x,J):=d;simp only[fb,eX]at d;obtain⟨d,an⟩:=d;refine⟨by omega,by omega,vF (z.getD 0) hi λp hp L=>⟨2,(fA l st.1).lo.toNat,(fA l st.1).hi.toNat,⟨none,0,0⟩,?_,?_,?_,?_,z.ak λw5 A=>⟨⟨⟨⟨lD 2 (fA l st.1).lo (fA l st.1).hi,rfl,d,pZ _ _ _ _,λb h=>(p0 h).elim⟩,by rw[<-an];exact T⟩,?_⟩,A.fr⟩⟩⟩
 .rw [bT,kD,L.c2,M];rfl
 .rw [bT,add_add];exact L.c3
 .rw [bT,add_add];exact L.c4
 .rw [bT,add_add];exact L.c5
 .have:=A.get 0;rw[<-an,<-h];exact this
def JI(w:iL l)(u:l.length<=1000000):∀n:Nat,n<=100000->∀m,m<=n->lg s l m
 |0,_=>λm z=>by
  have:m=0:=by omega
  subst this;exact⟨λd st h j e c=>(by unfold kf at c;cases c),λd st h j e c=>(by unfold m5 at c;cases c),λd st h j e c=>(by unfold nE at c;cases c),λd st h j e c=>(by unfold lB at c;cases c),λd st h j e c=>(by unfold pj at c;cases c),λd st h j e c=>(by unfold pW at c;cases c)⟩
 |n+1,A=>λm z=>by
  have x:=JI w u n (by omega);rcases Nat.lt_or_ge m (n+1)with y|y
  .exact x m (by omega)
  have:m=n+1:=by omega
  subst this;exact⟨λd st h j e c q k=>Qc w u (by omega) x d st h j e c q k,λd st h j e c q k=>PI w u (by omega) x d st h j e c q k,λd st h j e c q k=>Um w u (by omega) x d st h j e c q k,λd st h j e c q k=>Rh w u (x n (b' _)) d st h j e c q k,λd st h j e c q k=>NQ w u (x n (b' _)) d st h j e c q k,λd st h j e c q k=>RA w u (by omega) x d st h j e c q k⟩
end
def _root_.Go.W.Z.perm{M:Nat->Prop}{w0 w:C}{L e D:List En}(H:Z M w0 w L D)(h:L.Perm e):Z M w0 w e D:=
 ⟨H.fr,λc d=>H.own c (h.mem_iff.2 d),H.rd,λc d=>H.new c (h.mem_iff.2 d),(h.flatMap_right (·.fp)).nodup_iff.1 H.nd,λc d b k j n=>H.dj c d b k j (h.mem_iff.2 n)⟩
def EH(s:BL):∀(f i:Nat),s.length<f+i->∃init,nH s f i=init++[⟨[],s.length,0,0,0⟩]/\init.length+i<=max i s.length
 |0,i,d=>⟨[],rfl,by simp;omega⟩
 |f+1,i,d=>by
  unfold nH;split
  .exact ⟨[],rfl,by simp;omega⟩
  .split
   .obtain ⟨init,c,h⟩:=EH s f (i+1) (by omega);exact⟨init,c,by omega⟩
   .simp only;have k:=Kl s i;have q:=K3 s i s.length 1 (by omega);generalize jl s i=g at k;generalize mC s i s.length 1=e at q;have j:1<=(if g.n=0 then e else g.n)/\i+(if g.n=0 then e else g.n)<=s.length:=by split<;>omega
    generalize(if g.n=0 then e else g.n)=n at j;obtain⟨init,c,h⟩:=EH s f (i+n) (by omega);exact⟨_::init,by rw[c];rfl,by simp only[List.length_cons];omega⟩
def Vt(s:BL):iL (lS s)/\(lS s).length<=s.length+1:=by
 obtain⟨init,h,j⟩:=EH s (s.length+1) 0 (by omega);have e:lS s=init++[⟨[],s.length,0,0,0⟩]:=h;rw[e];have c:(init++[(⟨[],s.length,0,0,0⟩:dK)]).length=init.length+1:=by simp
 have d:fA (init++[(⟨[],s.length,0,0,0⟩:dK)]) init.length=⟨[],s.length,0,0,0⟩:=by unfold fA;simp[List.getD_eq_getElem?_getD]
 refine⟨⟨by omega,?_,?_⟩,by omega⟩
 .rw [c,Nat.add_sub_cancel,d]
 .rw [c,Nat.add_sub_cancel,d]
def Nr(w:C)(x:Rx)(a:Nat)(e:Int)(r:Ending)(w':C):Prop:=∃t:I,r=U (.tuple #[t.v,.i (a:Int),.i e])/\t.rx=x/\t.P w'/\∀b∈t.fp,w.heap.size<=b
def OS(s:ByteArray)(hs:s.size<=100000)(x:Rx)(a:Nat)(e:Int)(c:se (bl s)=some (x,a,e))(w:C):ah V Ca #[.string s] w λr w'=>Nr w x a e r w'/\aj w w':=by
 have hl:(bl s).length=s.size:=eS s;obtain⟨A,hlen⟩:=Vt (bl s);unfold se at c;refine Hp.aB _ w _ ((bN [] (by simp)).aN λO w1 M=>aQ (λd=>M.ak λw2 H2=>?_) (λd=>M.jF (On s hs w1) ?_))
 .rw [aA (by omega)]at c;simp only[fb,eX]at c;obtain⟨rfl,rfl,rfl⟩:=c;exact⟨⟨ch,rfl,rfl,jQ _,λb d=>(jR d).elim⟩,H2.fr⟩
 rw[aq (by omega)]at c;generalize lS (bl s)=l at c A hlen;dsimp only at c;rintro _ L ⟨h,rfl,ho,hf⟩ _ F6;have H6:=F6.rd (cX h l) ho.bh (yz hf);cases G:kf l 1000 (0,false)with
 |none=>rw[G]at c;cases c
 |some al=>
  obtain⟨Y,J⟩:=al;rw[G]at c;dsimp only at c;refine⟨h,rfl,H6.nw λw7 _ q=>?_⟩;have q:Z F0 w w7 (cR L.heap.size h (0,false)::[.g O]) [cX h l]:=q.perm (List.Perm.swap _ _ _);refine q.h8 ((JI A (by omega) 1000 (by omega) 1000 (b' _)).expr L.heap.size (0,false) w7 Y J G A.1 q.fQ) ?_;rintro _ w8 ⟨⟨j,rfl,W,pu,Q⟩,S⟩ _ F8;have H8:=F8 (.tree j) pu λb d=>Q b (a4.1 d);refine⟨_,_,_,j.s,rfl,H8.aN λb6 w9 H9=>H9.ak λaf u=>?_⟩;have u:Z F0 w af (cR L.heap.size h J::[.g O,.g b6]) [cX h l,.tree j]:=u;refine u.h8 (tB u.fQ S (by omega) []) ?_;have F:=uU A S [] (by decide);rintro _ aa rfl k _;generalize jP l [] J=qB at c F k;refine⟨rfl,qB.2,k.ld 0 2,cK (λD=>k.ak λan n=>?_) (λD=>?_)⟩
  .rw [aA D]at c;simp only[fb,eX]at c;obtain⟨rfl,rfl,rfl⟩:=c;have hn:=vE (n.getD 0:bF _ _ _ _);refine⟨h,n.ld 0 0,(qB.1:Int),n.ld 0 1,by omega,by omega,vF (n.getD 0) F λp hp ab=>⟨((fA l qB.1).at_:Int),?_,n.ak λag y=>⟨?_,y.ld 0 1,y.ld 0 0,⟨ch,rfl,rfl,jQ _,λb d=>(jR d).elim⟩,y.fr⟩⟩⟩
   .rw [bT];exact ab.c1
   .rw [bT];have:=vF (y.getD 0) F (K:=λB=>∃H,h.a=some H/\B=H/\Fw ag H qB.1 (fA l qB.1)) (λB T E=>⟨B,T,rfl,E⟩);rw[hp]at this;obtain⟨B,T,rfl,E⟩:=this;exact E.c1
  .rw [aq (by rw[D];simp)]at c;have ae:j.P aa:=k.getD 1;have am:Y.sz=j.sz:=by rw[<-W,I.eF]
   by_cases ad:j.sz<=1000000
   .rw [aq (by omega)]at c;refine k.ax (Af j aa ad ae) ?_;rintro _ ao rfl N;refine⟨_,rfl,aQ (λac=>N.ak λai z=>?_) (λac=>N.ak λai z=>?_)⟩
    .rw [aA (by omega)]at c;simp only[fb,eX]at c;obtain⟨rfl,rfl,rfl⟩:=c;exact⟨⟨ch,rfl,rfl,jQ _,λb d=>(jR d).elim⟩,z.fr⟩
    .rw [aq (by omega)]at c;simp only[fb,eX]at c;obtain⟨rfl,rfl,rfl⟩:=c;exact⟨⟨j,rfl,W,z.getD 1,λb d=>bB q.fr.size (Q b d)⟩,z.fr⟩
   .rw [aA (by omega)]at c;cases c
def dF(a b:BL):ba a++ba b=ba (a++b):=by apply ByteArray.ext;rw[ByteArray.data_append];simp[ba]
def rm{w:C}{b n:Nat}{cs:List ab}{T:aF}(h:w.heap[b]? =some (.cells cs.toArray T (0,0)))(d:n=cs.length):Rd w ⟨some (ag b),n,n⟩ cs:=
 yy (s:=⟨some (ag b),n,n⟩) d (b' _) (λh=>by cases h) λi v c=>⟨ag b,rfl,cellAt (p:=ag b) h rfl (by simpa using c)⟩
def Gs(c:UInt8)(w:C):ah V xo #[.int .u8 (c.toNat:Int)] w λr e=>r=U (.bool (eE c))/\aj w e:=by
 refine Hu.ok _ w _ (aQ (λd=>⟨?_,Fr.refl _ _⟩) (λd=>⟨?_,Fr.refl _ _⟩))
 .unfold eE;rw[a0 (show 97<=c.toNat by omega),Bool.true_and,show af ((c.toNat:Int)<=122)=af (c.toNat<=122)from decide_eq_decide.2 (by omega)]
 .unfold eE;rw[a2 (show ¬97<=c.toNat by omega),Bool.false_and]
def Am(c:UInt8)(w:C):ah V uA #[.int .u8 (c.toNat:Int)] w λr E=>r=U (.string (ba (dA c)))/\aj w E:=by
 have I:=c.toNat_lt;have x:Z F0 w w [] []:=bN [] (by simp);refine Hl.ok _ w _ (x.call (Gt c w) ?_);rintro _ u rfl q;refine⟨_,rfl,cK (λk=>?_) (λk=>?_)⟩
 .refine q.ny (λn _ d h=>?_);have H:((39:UInt8).toNat:Int)=39:=rfl;have e:Bytes n ⟨some (ag u.heap.size),3,3⟩ [39,c,39]:=rm (T:=db) h rfl;have j:=lk e;refine⟨ba [39,c,39],j,?_,d.fr⟩;unfold dA;rw[aA k]
 .have A:ad .i64 (c.toNat:Int)=(c.toNat:Int):=bf _ (by omega);have B:ad .i64 (bE (c.toNat:Int) 16)=((c.toNat / 16:Nat):Int):=by rw[Int.tdiv_eq_ediv_of_nonneg (by omega),bf _ (by omega)];omega
  have D:bw (c.toNat:Int) 16=((c.toNat%16:Nat):Int):=by rw[Int.tmod_eq_emod_of_nonneg (by omega)];omega
  rw[A,B,D];refine q.call (Ap (c.toNat / 16) (by omega) u) ?_;rintro _ n rfl d;refine⟨_,rfl,d.call (Ap (c.toNat%16) (by omega) n) ?_⟩;rintro _ F rfl y;refine⟨_,rfl,y.ny (λG _ z h=>?_)⟩;have e:Bytes G ⟨some (ag F.heap.size),4,4⟩ [92,120,hn (c.toNat / 16),hn (c.toNat%16)]:=rm (T:=db) h rfl;have j:=lk e;refine⟨ba [92,120,hn (c.toNat / 16),hn (c.toNat%16)],j,?_,z.fr⟩;unfold dA;rw[aq (by rw[k];simp)]
abbrev kS(s:J)(l:List Nd)(d:Nd):List En:=[.gr s l,dY d]
def uu{w:C}{s:J}{l:List Nd}{d:Nd}(h:GP w s l)(e:d.P w):Z F0 w w [] (kS s l d):=bN _ (by
 intro j c;simp only[ay,aW,a3]at c;rcases c with rfl|rfl
 .exact bU.2 h
 .exact e)
def Oa{w:C}{s:J}{l:List Int}(h:bo w s l)(z:l.length<=1000000000000)(n:Int):ah V B7 #[s.v,.i n] w λr j=>r=U (.bool (af (n∈l)))/\aj w j:=by
 have A:=bo.len h;have loop:∀(d i:Nat),i+d=l.length->(n∈l↔n∈l.drop i)->tR.L0 s n (i:Int) w λr j=>r=U (.bool (af (n∈l)))/\aj w j:=by
  intro d;induction d with
  |zero=>
   intro i u c;rw[c9 (by omega)]at c;exact tR.cf _ _ _ _ _ (bb (a2 (by omega)) ⟨by rw[a2 (λh=>by have:=c.1 h;simp at this)],Fr.refl _ _⟩)
  |succ d y=>
   intro i u c;have k:l[i]? =some (l[i]'(by omega)):=a9 (by omega);rw[dZ (by omega:i<l.length),ay]at c;generalize l[i]'(by omega)=x at k c;refine tR.cf _ _ _ _ _ (a8 (a0 (by omega)) ⟨by omega,by omega,h.cell k (by omega) λp B q=>⟨x,q,aJ (λe=>⟨?_,Fr.refl _ _⟩) (λe=>?_)⟩⟩)
   .rw [a0 (c.2 (.inl e.symm))]
   .rw [bA _ (by omega)];exact y (i+1) (by omega) (c.trans ⟨λh=>h.resolve_left (λh=>e h.symm),.inr⟩)
 exact tR.ok _ _ w _ (loop l.length 0 (by omega) (by simp))
def Gj{w:C}{s:J}{l:List Int}(h:bo w s l)(c:l.length<=1000000000000)(n:Int):ah V xy #[s.v,.i n] w λr d=>r=U (.bool (af (n∈l)))/\aj w d:=by refine HH.ok _ _ w _ ((Oa h c n).mono ?_);rintro _ e ⟨rfl,f⟩;exact⟨_,rfl,rfl,f⟩
def z'{w:C}{b n:Nat}{l:List Int}{T:aF}(h:w.heap[b]? =some (.cells (l.map bd).toArray T (0,0)))(c:n=l.length):bo w ⟨some (ag b),n,n⟩ l:=
 rm h (by simpa using c)
def eZ:Nat:=1000000000
def HX(op:Int):(af (op∈[(21:Int),22,23,28])=od op)/\(af (op∈[(0:Int),2,33])=oe op):=by
 constructor
 .unfold od;by_cases c:op=21
  .subst c;rfl
  by_cases d:op=22
  .subst d;rfl
  by_cases e:op=23
  .subst e;rfl
  by_cases h:op=28
  .subst h;rfl
  simp[c,d,e,h]
 .unfold oe;by_cases c:op=0
  .subst c;rfl
  by_cases d:op=2
  .subst d;rfl
  by_cases e:op=33
  .subst e;rfl
  simp[c,d,e]
def PX(t:ByteArray):(t.toList==(av #[]).toList)=af (t=ba []):=y3 _ _
def Td{n:Nx}{A c:Prop}(h:Y (iT n) c A):∀a b:Bool,a=od n.op->b=oe n.op->
  let e:=Y (!b) (Y (!(n.tx.toList==(av #[]).toList)) A c) c
  let j:=Y (n.op !=1) (Y (n.u !=0) A e) e
  let d:=Y (n.op !=21) (Y (n.m !=0) A j) j
  Y (!a) (Y (n.n !=0) A d) d:=by rintro a b rfl rfl;dsimp only;rw[PX];unfold iT at h;have k:(n.op !=1)= !(n.op==1):=rfl;have q:(n.op !=21)= !(n.op==21):=rfl;have w:(n.n !=0)= !(n.n==0):=rfl;have x:(n.m !=0)= !(n.m==0):=rfl;have y:(n.u !=0)= !(n.u==0):=rfl;rw[k,q,w,x,y];generalize(n.op==1)=p1 at *;generalize(n.op==21)=p2 at *;generalize(n.n==0)=p3 at *;generalize(n.m==0)=p4 at *;generalize(n.u==0)=p5 at *;generalize af (n.tx=ba [])=p6 at *;generalize od n.op=p7 at *;generalize oe n.op=p8 at *;cases p1<;>cases p2<;>cases p3<;>cases p4<;>cases p5<;>cases p6<;>cases p7<;>cases p8<;>exact h
def ml(g:List Nx)(n:Nx):Int:=if(cS n.op==(n.kids.length:Int)&&n.kids.all (fv g)&&iT n)=true then 0 else 1
def OA{w:C}{s:J}{l:List Nd}{d:Nd}(h:GP w s l)(G:d.P w)(hk:d.x.kids.length<=eZ):ah V Cn #[s.v,d.v] w λr D=>r=U (.i (ml (xs l) d.x))/\aj w D:=by
 have hn:=g0 h;have I:d.ks.n=d.x.kids.length:=bo.len G;have M:(xs l).length=l.length:=by simp[xs]
 unfold eZ at hk;have loop:∀(m i:Nat) (e:Nat) (c:C),i+m=d.x.kids.length->(cS d.x.op==(d.x.kids.length:Int))=true->(d.x.kids.all (fv (xs l))=(d.x.kids.drop i).all (fv (xs l)))->Z F0 w c [.g e] (kS s l d)->
   ua.aH s e d.x.op d.ks d.x.n d.x.m d.x.u d.x.tx d.x.st.k d.x.st.n d.x.st.x (i:Int) c λr D=>r=U (.i (ml (xs l) d.x))/\aj w D:=by
  intro m;induction m with
  |zero=>
   intro i e c hi B j q;rw[c9 (by omega)]at j;refine ua.bD _ _ _ _ _ _ _ _ _ _ _ _ _ _ (bb (a2 (by omega)) (q.nw λN _ y=>y.ax (Gj (l:=[21,22,23,28]) (z' (n:=4) (y.ob 1) rfl) (by decide) d.x.op) ?_));rintro _ O rfl z;refine⟨_,rfl,z.nw λw4 _ E=>E.ax (Gj (l:=[0,2,33]) (z' (n:=3) (E.ob 2) rfl) (by decide) d.x.op) ?_⟩;rintro _ w5 rfl F;refine⟨_,rfl,?_⟩;have H:∀b:Bool,iT d.x=b->ml (xs l) d.x=if b=true then 0 else 1:=λb W=>by unfold ml;rw[B,j,W];rfl
   exact Td (n:=d.x) (cK (λh=>⟨by rw[H _ h];rfl,F.fr⟩) (λh=>⟨by rw[H _ h];rfl,F.fr⟩)) _ _ (HX d.x.op).1 (HX d.x.op).2
  |succ m ih=>
   intro i e c hi B j q;have A:d.x.kids[i]? =some (d.x.kids[i]'(by omega)):=a9 (by omega);rw[dZ (by omega:i<d.x.kids.length),List.all_cons]at j;generalize d.x.kids[i]'(by omega)=x at A j;have bad:fv (xs l) x=false->(Ending.returned (.i 1)=U (.i (ml (xs l) d.x))/\aj w c):=λhx=>⟨by unfold ml;rw[j,hx];simp,q.fr⟩;have K:bo c d.ks d.x.kids:=q.getD 1;refine ua.bD _ _ _ _ _ _ _ _ _ _ _ _ _ _ (a8 (a0 (by omega)) ⟨by omega,by omega,K.cell A (by omega) λp hp Y=>⟨x,Y,aQ (λS=>bad ?_) (λS=>⟨by omega,by omega,K.cell A (by omega) λp' ac aa=>⟨x,aa,aQ (λT=>bad ?_) (λT=>?_)⟩⟩)⟩⟩)
   .unfold fv;rw[a2 (by omega)];rfl
   .unfold fv;rw[a2 (show ¬x<((xs l).length:Int)by rw[M];omega)];simp
   .rw [bA _ (by omega)];refine ih (i+1) e c (by omega) B ?_ q;rw[j];unfold fv;rw[a0 (show 0<=x by omega),a0 (show x<((xs l).length:Int)by rw[M];omega)];rfl
 refine ua.aB _ _ _ _ _ _ _ _ _ _ w _ ((uu h G).aN λe c Q=>Q.ak λN y=>y.ax (FZ d.x.op N) ?_);rintro _ O rfl z;refine⟨_,rfl,cD (λL=>⟨?_,z.fr⟩) (λab=>?_)⟩
 .unfold ml;rw[beq_eq_false_iff_ne.2 (by rw[I]at L;exact L)];rfl
 .exact loop d.x.kids.length 0 e O (by omega) (by rw[ab,I];simp) (by simp) z
def v9(g:List Nx):Prop:=∀c∈g,c.op=0->∀d∈g,d.op=0->c.tx=d.tx->c.st=d.st
def sR(n d:Nx):Bool:=af (d.op=0/\d.tx=n.tx/\d.st≠n.st)
def EW{t:ByteArray}{s:bt}:∀{g:List Nx},jw g t=some s->∃d∈g,d.op=0/\d.tx=t/\d.st=s
 |d::g,c=>by
  unfold jw at c;split at c
  .rename_i e;exact⟨d,by simp,e.1,e.2,Option.some.inj c⟩
  .obtain ⟨h,j,c⟩:=EW c;exact⟨h,List.mem_cons_of_mem _ j,c⟩
def MH{t:ByteArray}:∀{g:List Nx},jw g t=none->∀c∈g,c.op=0->c.tx≠t
 |a::g,d,c,e,h,j=>by
  unfold jw at d;split at d
  .cases d
  .rename_i k;rcases ay.1 e with rfl|e
   .exact k ⟨h,j⟩
   .exact MH d c e h j
def Mz{g:List Nx}(y:v9 g)(n:Nx):qH g n=g.any (sR n):=by
 unfold qH;cases k:jw g n.tx with
 |none=>
  symm;rw[List.any_eq_false];intro d e c;have c:=hC c;exact MH k d e c.1 c.2.1
 |some s=>
  obtain⟨d,e,q,u,w⟩:=EW k;by_cases h:s=n.st
  .simp only[h,decide_true,Bool.not_true];symm;rw[List.any_eq_false];intro j x c;have c:=hC c;exact c.2.2 ((y j x c.1 d e q (c.2.1.trans u.symm)).trans (w.trans h))
  .simp only[h,decide_false,Bool.not_false];symm;rw[List.any_eq_true];exact⟨d,e,a0 ⟨q,u,λj=>h (w.symm.trans j)⟩⟩
def TA(n:Int)(e:0<=n)(h:n<64):ad .u64 (1 *2^(min (ae n) (IntKind.bits .u64)))=((2^n.toNat:Nat):Int):=by
 have c:min (ae n) (IntKind.bits .u64)=n.toNat:=by show min n.toNat 64=_;omega
 have d:(2:Nat)^n.toNat<=2^63:=Nat.pow_le_pow_right (by omega) (by omega);rw[c,Int.one_mul,show((2:Int)^n.toNat)=((2^n.toNat:Nat):Int)from by rw[Int.natCast_pow];rfl];generalize(2:Nat)^n.toNat=m at d;exact IntWalk.u64_in _ (by omega)
abbrev gk(x:bt×Int):Ending:=U (.tuple #[dO x.1,.i x.2])
def sV{s:bt}(h:cb s=true)(c:s.k=0):1<=s.n/\s.n<=64/\s.x=0:=by unfold cb at h;simp[c]at h;omega
def k5{s:bt}(h:cb s=true):0<=s.n/\s.n<=64/\0<=s.x/\s.x<=16/\0<=s.k/\s.k<=3:=by unfold cb at h;simp at h;omega
def OK{w:C}{s:J}{l:List Nd}{d:Nd}(h:GP w s l)(hd:d.P w)(hl:l.length<=eZ)(h0:0<=d.x.op)(h3:d.x.op<=3)(hv:v9 (xs l)):ah V Cp #[s.v,d.v] w λr j=>r=gk (cH (xs l) d.x)/\aj w j:=by
 have hn:=g0 h;have ao:(xs l).length=l.length:=by simp[xs]
 unfold eZ at hl;have e0:d.x.op=0\/d.x.op=1\/d.x.op=2\/d.x.op=3:=by omega
 refine jc.aB _ _ _ _ _ _ _ _ _ _ w _ ((uu h hd).aN λA w1 H1=>H1.aN λy w2 W=>aJ (λh2=>?_) (λh2=>?_))
 .refine aQ (λhs=>W.ak λM H=>⟨?_,H.fr⟩) (λhs=>W.ax (mY _ w2) ?_)
  .unfold cH;rw[aA h2,aA (by omega)];rfl
  .rintro _ M rfl H;refine⟨_,_,_,rfl,H.ak λw4 N=>⟨?_,N.fr⟩⟩;unfold cH;rw[aA h2,aq (by omega)]
 have F:cH (xs l) d.x=if d.x.op=0/\gg (bl d.x.tx)=false then(cZ,6)else
   if cb d.x.st=false then(cZ,9)else
   if d.x.op=1/\d.x.st.k≠0\/d.x.op=3/\ek d.x.st=false then(cZ,9)else
   if d.x.op=1/\kE d.x.u d.x.st.n=true then(cZ,5)else
   if d.x.op=0/\(xs l).any (sR d.x)=true then(cZ,8)else(d.x.st,0):=by unfold cH;rw[aq h2,Mz hv]
 have S0:∀(nm:Bool) (M:C),nm=(!decide (d.x.op=0)||gg (bl d.x.tx))->Z F0 w M [.g A,.g y] (kS s l d)->jc.aS s A d.x.op d.ks d.x.n d.x.m d.x.u d.x.tx d.x.st.k d.x.st.n d.x.st.x y 0 0 0 nm M λr j=>r=gk (cH (xs l) d.x)/\aj w j:=by
  intro nm M O H;refine eJ (λK=>H.ak λw4 N=>⟨?_,N.fr⟩) (λE=>?_)
  .rw [K]at O;have O:=O.symm;simp only[Bool.or_eq_false_iff,Bool.not_eq_false',decide_eq_true_eq]at O;rw[F,aA O];rfl
  have ai:¬(d.x.op=0/\gg (bl d.x.tx)=false):=λhc=>by rw[E,hc.2,a0 hc.1]at O;simp at O
  rw[aq ai]at F;refine H.ax (TL d.x.st M) ?_;rintro _ w4 rfl N;refine⟨_,rfl,Ee (λK=>N.ak λc z=>⟨?_,z.fr⟩) (λE=>?_)⟩
  .rw [F,aA K];unfold gV;rw[K];rfl
  rw[aq (by rw[E];simp)]at F;have loop:∀(m i:Nat) (c:C),i+m=l.length->cH (xs l) d.x=(if d.x.op=0/\((xs l).drop i).any (sR d.x)=true then(cZ,8)else(d.x.st,0))->Z F0 w c [.g A,.g y] (kS s l d)->
    jc.hG s A d.x.op d.ks d.x.n d.x.m d.x.u d.x.tx d.x.st.k d.x.st.n d.x.st.x y 0 0 0 (i:Int) c λr j=>r=gk (cH (xs l) d.x)/\aj w j:=by
   intro m;induction m with
   |zero=>
    intro i c hi G z;rw[c9 (by omega)]at G;refine jc.mT _ _ _ _ _ _ _ _ _ _ _ _ _ _ _ _ _ _ (bb (a2 (by omega)) (z.ak λB q=>⟨?_,q.fr⟩));rw[G,aq (by simp)]
   |succ m ih=>
    intro i c hi G z;have T:l[i]? =some (l[i]'(by omega)):=a9 (by omega);have hx:(xs l).drop i=(l[i]'(by omega)).x::(xs l).drop (i+1):=by rw[dZ (by omega:i<(xs l).length)];simp[xs]
    rw[hx,List.any_cons]at G;generalize l[i]'(by omega)=e at T G;have next:∀B,Z F0 w B [.g A,.g y] (kS s l d)->(d.x.op=0->sR d.x e.x=false)->jc.dV s A d.x.op d.ks d.x.n d.x.m d.x.u d.x.tx d.x.st.k d.x.st.n d.x.st.x y 0 0 0 (i:Int) B λr j=>r=gk (cH (xs l) d.x)/\aj w j:=by
     intro B q E;show jc.hG s A d.x.op d.ks d.x.n d.x.m d.x.u d.x.tx d.x.st.k d.x.st.n d.x.st.x y 0 0 0 (ad .i64 ((i:Int)+1)) B _;rw[bA _ (by omega)];refine ih (i+1) B (by omega) ?_ q;rw[G];by_cases Q:d.x.op=0
     .rw [E Q,Bool.false_or]
     .rw [aq (λh=>Q h.1),aq (λh=>Q h.1)]
    have G5:GP c s l:=bU.1 (z.getD 0);refine jc.mT _ _ _ _ _ _ _ _ _ _ _ _ _ _ _ _ _ _ (a8 (a0 (by omega)) (aJ (λQ=>?_) (λQ=>z.ak λB q=>next B q (λh=>absurd h Q))));refine gN G5 rfl T λp hp _=>z.ak λB q=>?_;have c6:=ng (bU.1 (q.getD 0)) T hp (rfl:((i:Int))=(i:Int));refine⟨_,c6.c0,aJ (λS=>?_) (λS=>next B q λ_=>a2 λh=>S h.1)⟩;refine gN (bU.1 (q.getD 0)) rfl T λp1 am ag=>⟨_,ag.c5,yH (λE=>?_) (λE=>next B q λ_=>a2 λh=>E h.2.1)⟩;refine gN (bU.1 (q.getD 0)) rfl T λp2 an aa=>⟨_,_,_,aa.s0,aa.s1,aa.s2,vo (λK=>q.ak λw7 H7=>⟨?_,H7.fr⟩) (λal=>next B q λ_=>a2 λh=>h.2.2 al)⟩;rw[G,aA ⟨Q,by rw[show sR d.x e.x=true from a0 ⟨S,E,K⟩];rfl⟩];rfl
  have S4:∀c:C,cH (xs l) d.x=(if d.x.op=0/\(xs l).any (sR d.x)=true then(cZ,8)else(d.x.st,0))->Z F0 w c [.g A,.g y] (kS s l d)->
    jc.cq s A d.x.op d.ks d.x.n d.x.m d.x.u d.x.tx d.x.st.k d.x.st.n d.x.st.x y 0 0 0 c λr j=>r=gk (cH (xs l) d.x)/\aj w j:=λc G z=>loop l.length 0 c (by omega) G z
  have S1:∀(a:Bool) (c:C),a=ek d.x.st->Z F0 w c [.g A,.g y] (kS s l d)->jc.aZ s A d.x.op d.ks d.x.n d.x.m d.x.u d.x.tx d.x.st.k d.x.st.n d.x.st.x y 0 0 0 a c λr j=>r=gk (cH (xs l) d.x)/\aj w j:=by
   rintro a c rfl z;have bad:(d.x.op=1/\d.x.st.k≠0\/d.x.op=3/\ek d.x.st=false)->jc.aY y 0 0 0 c λr j=>r=gk (cH (xs l) d.x)/\aj w j:=λD=>z.ak λB q=>⟨by rw[F,aA D];rfl,q.fr⟩;have S3:¬(d.x.op=1/\d.x.st.k≠0\/d.x.op=3/\ek d.x.st=false)->jc.be s A d.x.op d.ks d.x.n d.x.m d.x.u d.x.tx d.x.st.k d.x.st.n d.x.st.x y 0 0 0 c λr j=>r=gk (cH (xs l) d.x)/\aj w j:=λD=>by
    rw[aq D]at F;refine aJ (λI=>?_) (λI=>S4 c (by rw[F,aq (λh=>I h.1)]) z);have L:d.x.st.k=0:=by
     rcases Int.decEq d.x.st.k 0 with h|h
     .exact absurd (.inl ⟨I,h⟩) D
     .exact h
    obtain⟨v1,v2,_⟩:=sV E L;have ew:ad .u64 d.x.st.n=d.x.st.n:=IntWalk.u64_in _ (by omega);refine aQ (λab=>⟨by rw[ew];omega,?_⟩) (λab=>S4 c (by rw[F,aq];rintro⟨_,D⟩;unfold kE at D;rw[a2 (by omega)]at D;cases D) z);rw[ew,TA _ (by omega) ab];have hp:((2^d.x.st.n.toNat:Nat):Int)=(2:Int)^d.x.st.n.toNat:=by rw[Int.natCast_pow];rfl
    rw[hp];refine aQ (λae=>z.ak λB q=>⟨?_,q.fr⟩) (λae=>S4 c ?_ z)
    .rw [F,aA ⟨I,by unfold kE;rw[a0 ab,a0 ae];rfl⟩];rfl
    .rw [F,aq];rintro⟨_,D⟩;unfold kE at D;rw[a2 (by omega:¬(2:Int)^d.x.st.n.toNat<=d.x.u),Bool.and_false]at D;cases D
   have af:¬(d.x.op=1/\d.x.st.k≠0)->Y (d.x.op==3) (Y (!ek d.x.st) (jc.aY y 0 0 0 c λr j=>r=gk (cH (xs l) d.x)/\aj w j) (jc.be s A d.x.op d.ks d.x.n d.x.m d.x.u d.x.tx d.x.st.k d.x.st.n d.x.st.x y 0 0 0 c λr j=>r=gk (cH (xs l) d.x)/\aj w j)) (jc.be s A d.x.op d.ks d.x.n d.x.m d.x.u d.x.tx d.x.st.k d.x.st.n d.x.st.x y 0 0 0 c λr j=>r=gk (cH (xs l) d.x)/\aj w j):=λL=>
    aJ (λh3=>eJ (λK=>bad (.inr ⟨h3,K⟩)) (λE=>S3 (by rintro(h|h);exact L h;rw[E]at h;cases h.2))) (λh3=>S3 (by rintro(h|h);exact L h;exact h3 h.1))
   exact aJ (λI=>cD (λL=>bad (.inl ⟨I,L⟩)) (λL=>af (λh=>h.2 L))) (λI=>af (λh=>I h.1))
  refine aJ (λac=>S1 true w4 ?_ N) (λac=>S1 _ w4 ?_ N)
  .unfold ek;rw[ac];rfl
  .unfold ek;rw[beq_eq_false_iff_ne.2 ac];rfl
 refine cD (λS=>S0 true w2 ?_ W) (λS=>W.ax (F2 d.x.tx w2) ?_)
 .rw [a2 S];rfl
 .rintro _ M rfl H;exact⟨_,rfl,S0 _ M (by rw[a0 S];rfl) H⟩
end Go.Proofs.YthkcmmldhceegaaGreatDoor
