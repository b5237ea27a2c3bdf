import Derived.Test.YtkbmpalepmakmaaGreatDoorTA
import Derived.Defers
import Derived.Recover
import Derived.Test.YtkbmpalepmakmaaGreatDoorN6
import Derived.Test.YtkbmpalepmakmaaGreatDoorVP
import Derived.Test.YtkbmpalepmakmaaGreatDoorT1
import Derived.Test.YtkbmpalepmakmaaGreatDoorN0
set_option linter.unusedVariables false
set_option maxRecDepth 100000
set_option maxHeartbeats 1000000
set_option linter.defProp false
noncomputable section
namespace Go.Proofs.YtkbmpalepmakmaaGreatDoor
open Go renaming World->I,Calls->ah,Program->au,Value->V
open Go.IntKind renaming wrap->aE
open _root_.Int renaming toNat->aY,tdiv->fj,tmod->fA,toNat_natCast->cb
open _root_.ByteArray renaming mk->bh
open _root_.Bool renaming and_eq_true->bf
open _root_.Nat renaming le_refl->bz,le_trans->bI,zero_le->dg
open _root_.UInt8 renaming ofNat->c9
open Go.Region renaming wanted->cz
open Go.Proofs.Tryz renaming prog->U
open _root_.Decidable renaming decide->ak
open Go.Ending renaming returned->ab
open List renaming mem_append->aP,mem_cons->aF,not_mem_nil->aW,mem_of_getElem?->ay,getElem?_eq_getElem->a0,getElem?_eq_some_iff->cP,mem_append_left->cm,mem_append_right->db,mem_flatMap->b',length_append->bM,length_cons->cD,getElem?_append_left->s6,append_assoc->dS,mem_singleton->cK,length_take->oa,length_drop->i9,flatMap_append->eg,flatMap_cons->dI,nodup_append->fh,mem_cons_of_mem->dJ,mem_cons_self->nq,getElem?_map->s7,all_eq_true->dF,append_nil->df,cons_append->iJ,take_add_one->ha,map_append->fv,map_cons->nr,take_of_length_le->fW
open Go Go.W
def ab9{D D':List En}{w:I}(d e:En)(h:∀b∈d.fp,w.heap.size<=b)(j:∀b∈e.fp,w.heap.size<=b):∀g∈[d,e],∀b∈g.fp,w.heap.size<=b\/∃g∈D,b∈g.fp:=λg q b k=>by grind
section
variable {T:List aN} {Y:mR} {x:bS} {D:List En}
def acv(d:hq T Y x D){w:I}(H:O (·∈(cF Y x).flatMap (·.fp)) w w (cF Y x) D):ah U F1 #[.pointer (some (aa Y.X.rb))] w (iR T Y x D w (pJ T x)):=by
 have Q:=d.ok.T;have a2:=Q.l;have q:pJ T x=(bU T 0 x.s).s x λ_ x=>(xU (eP T x) x.s).s x λt x=>if jy t.text then .er 6 t.a4 else
  (j4 T (T.length+1) [] x.s).s x λy x=>(k5 T (T.length+1) 0 x.s).s x λ_ aL=>(bU T 1 aL.s).s aL λ_ aM=>
  .ok {aM with ms:=aM.ms++[(t.text,⟨y,x.s.p,x.ms.length⟩)]}:=rfl
 refine Rl.aq (H.nw λw1 hz H1=>?_);have M:=H1.freeze 4 (.c w.heap.size [.pointer (some (aa Y.X.rb))] yR) rfl (H1.get 4) (λb h=>h);have M:O (·∈(cF Y x).flatMap (·.fp)) w w1 (cF Y x) (D++[.c w.heap.size [.pointer (some (aa Y.X.rb))] yR]):=M;clear H1;obtain⟨pE,aS⟩:∃pE,pE=En.c w.heap.size [.pointer (some (aa Y.X.rb))] yR:=⟨_,rfl⟩;obtain⟨A,a1⟩:∃A,A=D++[pE]:=⟨_,rfl⟩;have C:En.c w.heap.size [.pointer (some (aa Y.X.rb))] yR∈A:=by grind
 have M:O (·∈(cF Y x).flatMap (·.fp)) w w1 (cF Y x) A:=by grind
 have up:∀z∈D,z∈A:=λz S=>by grind
 have ac:hq T Y x A:=by obtain⟨es,c,m1,B⟩:=d.mo;exact⟨⟨up _ d.tk.t,d.tk.e⟩,⟨es,c,up _ m1,B⟩,up _ d.kc,d.gr.sub up,λB k=>up _ (d.pr B k),d.ms,d.sv,d.sm,d.pm,d.kn,d.dp,d.ok,d.p,d.tm,d.mc,d.cc⟩
 refine⟨_,kF (M.rd _ C),eZ (bs:=[]) M 0 rfl (ja (M.get 0) (cY M (i:=0) rfl rfl) ac.tk d.p) (λo s1 w2 aC H2=>⟨_,_,_,rfl,?_⟩) (λz p w' er f=>hJ (q.trans (k4 er)) f)⟩;have q:=q.trans (jN aC);have m1:=eB Q d.p dl aC;have aI:=ac.mv m1;refine⟨_,kF (H2.rd _ C),eZ (bs:=[]) H2 0 rfl (R2 (H2.get 0) (BC H2 rfl) (aI.en (λz S=>db _ S) us us) aI.p) (λt s2 w3 aH H3=>⟨_,_,_,rfl,H3.aw λL w4 H4=>H4.ae λw5 H5=>⟨_,kF (H5.rd _ C),?_⟩⟩) (λz p w' er f=>hJ (q.trans (k4 er)) f)⟩;have q:=q.trans (jN aH);obtain⟨n1,n2,n3⟩:=xV aH;have n2:lk x.vs t.text=none:=n2;have n3:lk x.ms t.text=none:=n3;have m2:=m1.tr (eB Q m1.l dl n1);have ap:=ac.mv m2;refine H5.av (R0 (H5.get 0) (BC H5 rfl) (ap.en (λz S=>db _ S) us us) t.text) ?_;rintro _ G rfl E;refine⟨_,rfl,bm (λho=>⟨_,kF (E.rd _ C),gy E (jM _ 6 t G) λw' f=>hJ (q.trans (ag ho)) f⟩) (λho=>?_)⟩;have q:=q.trans (ad (by grind));have aO:Y.Ms.length=x.ms.length:=by rw[d.ms];simp
 have hlen:=aaa (ty:=bF) AH (E.ob 2) d.sm;rw[List.length_map,aO]at hlen;have E:O (·∈(cF Y x).flatMap (·.fp)) w G (cF Y {x with s:=s2}++[.g L]) A:=E;refine⟨_,kF (E.rd _ C),_,E.ld 0 6,_,hlen,E.nw λw7 a7 H7=>adX H7 5 rfl (λw8 H8=>H8.h0 5 1 rfl (λw9 H9=>H9.h0 5 2 rfl (λW J=>?_)))⟩;have J:O (·∈(cF Y x).flatMap (·.fp)) w W [bG Y.X s2,.ob Y.X.mv (.map Y.e1 Y.c1),.ob Y.X.mm (.map Y.e2 Y.c2),.row ke 7 Y.X.cs (hx x.cs),.g L,.c G.heap.size [.slice none 0 0,.i 0,.i (x.ms.length:Int)] jg] A:=J;have aA:O (·∈(cF Y x).flatMap (·.fp)) w W ([bG Y.X s2,.c G.heap.size [.slice none 0 0,.i 0,.i (x.ms.length:Int)] jg]++[.ob Y.X.mv (.map Y.e1 Y.c1),.ob Y.X.mm (.map Y.e2 Y.c2),.row ke 7 Y.X.cs (hx x.cs),.g L]) A:=n7 J (.cons _ (List.perm_append_singleton _ [_,_,_,_]));have aT:=acz (X:=Y.X) (T:=T) (ix:=(x.ms.length:Int)) (Au aA) C ap.tk ap.p;refine aT.mono λr aK k=>?_;have kp:∀{w':I},Fr (·∈[Y.X.rb,G.heap.size]) W w'->kept [L] W w':=λf b h=>by
  have h:b=L:=by grind
  subst h;refine f.cv b ((En.g b).lt W (J.own (.g b) us) b (by simp[En.g])) λF=>?_;rcases aF.1 F with rfl|F
  .exact jX J.nd (i:=4) (j:=0) rfl rfl dl Y.X.rb (by simp[En.g]) (by simp[En.ob])
  .rw [cK]at F;subst F;exact jX J.nd (i:=4) (j:=5) rfl rfl dl G.heap.size (by simp[En.g]) (by simp[En.ob])
 unfold za at k;split at k
 case h_2 z p ex=>
  obtain⟨rfl,f⟩:=k;refine .inl ⟨_,rfl,hJ (q.trans (k4 ex)) (J.fr.trans f λb h F=>?_)⟩;rcases aF.1 F with rfl|F
  .exact b'.2 ⟨bG Y.X x.s,us,by simp[En.ob]⟩
  .rw [cK]at F;subst F;have:=E.fr.size;omega
 case h_1 y s3 ex=>
 obtain⟨rfl,sl,Z⟩:=k;refine .inr ⟨⟨_,rfl⟩,kp Z.fr,?_⟩;have q:=q.trans (jN ex);obtain⟨aV,aR,a5⟩:=GW Q _ _ _ _ _ m2.l us (dg _) ex;have m3:=m2.tr aV;have aB:O (·∈(cF Y x).flatMap (·.fp)) w aK ([bG Y.X s3,.c G.heap.size [sl.v,.i 0,.i (x.ms.length:Int)] jg,.row mJ 4 sl (fg y)]++[.ob Y.X.mv (.map Y.e1 Y.c1),.ob Y.X.mm (.map Y.e2 Y.c2),.row ke 7 Y.X.cs (hx x.cs),.g L]) (A++[]):=Av aA (by rw[df];exact Z) (λaZ hd=>by cases hd);rw[df]at aB;have ao:O (·∈(cF Y x).flatMap (·.fp)) w aK [bG Y.X s3,.ob Y.X.mv (.map Y.e1 Y.c1),.ob Y.X.mm (.map Y.e2 Y.c2),.row ke 7 Y.X.cs (hx x.cs),.c G.heap.size [sl.v,.i 0,.i (x.ms.length:Int)] jg,.row mJ 4 sl (fg y),.g L] A:=n7 aB (.cons _ (List.perm_append_comm_assoc [_,_] [_,_,_] [_]));refine⟨rfl,_,kF (ao.rd _ C),_,ao.ld 0 1,ao.h0 4 1 rfl (λa8 ai=>⟨_,kF (ai.rd _ C),eZ ai 0 rfl (acC (ai.get 0) (cY ai (i:=0) rfl rfl) ac.tk m3.l) (λu s4 bb e4 aj=>⟨rfl,_,kF (aj.rd _ C),?_⟩) (λz p w' er f=>hJ (q.trans (k4 er)) f)⟩)⟩;have q:=q.trans (jN e4);have aX:=HM Q _ _ _ _ m3.l e4;have m4:=m3.tr aX;refine eZ aj 0 rfl (ja (aj.get 0) (cY aj (i:=0) rfl rfl) ac.tk m4.l) (λcl s5 bc e5 aN=>⟨_,_,_,rfl,aN.ae λbd K=>⟨_,kF (K.rd _ C),_,K.ld 0 6,sl,(s3.p:Int),(x.ms.length:Int),K.ld 4 0,K.ld 4 1,K.ld 4 2,?_⟩⟩) (λz p w' er f=>hJ (q.trans (k4 er)) f);have q:=q.trans (jN e5);have m5:=m4.tr (eB Q m4.l dl e5);obtain⟨ax,an,u1,u2,u3,u4,_⟩:=rD AH (K.ob 2) d.sm (ba t.text) (oS (sl,⟨y,s3.p,x.ms.length⟩)) (by
  rw[aaQ];rw[d.ms,Ay (λB:Sl×PM=>B.2)]at n3;cases P:lk Y.Ms t.text with
  |none=>rfl
  |some B=>grind)
 have am:=K.fy 2 (.ob Y.X.mm (.map an (Y.c2+1))) rfl (u4.mono λx _ z=>by simp[En.ob,z]) u2 (λb h=>.inl h);refine⟨ax,u1,Iq K 2 rfl u4,?_⟩;have am:O (·∈(cF Y x).flatMap (·.fp)) w ax [bG Y.X s5,.ob Y.X.mv (.map Y.e1 Y.c1),.ob Y.X.mm (.map an (Y.c2+1)),.row ke 7 Y.X.cs (hx x.cs),.c G.heap.size [sl.v,.i (s3.p:Int),.i (x.ms.length:Int)] jg,.row mJ 4 sl (fg y),.g L] A:=am;have aU:=am.get 5;have az:=(am.freeze 5 (.a9 4 sl (fg y)) rfl (show aJ ax mJ 4 sl (fg y)from aU).a9 (λb h=>by
  have h:b∈(if fg y=[]then[]else aG sl):=h;split at h
  .cases h
  .exact h)).take 4
 have eD:A++[En.a9 4 sl (fg y)]=D++[pE,En.a9 4 sl (fg y)]:=by grind
 rw[eD]at az;have af:∀z∈D,z∈D++[pE,En.a9 4 sl (fg y)]:=λz S=>cm _ S;have N:=d.mv m5;have p5:=m5.p;have a3:=d.mc;refine vL (Y':={Y with Ms:=Y.Ms++[(t.text,(sl,⟨y,s3.p,x.ms.length⟩))],e2:=an,c2:=Y.c2+1}) q rfl az ?_ (ab9 (D':=[]) _ _ (λb h=>?_) (λb h=>?_))
 .obtain ⟨es,c,q1,q2⟩:=d.mo;refine⟨⟨af _ d.tk.t,d.tk.e⟩,⟨es,c,af _ q1,q2⟩,af _ d.kc,N.gr.sub af,λB k=>?_,?_,d.sv,?_,d.pm,d.kn,d.dp,⟨N.ok.T,N.ok.vs,N.ok.pm,λB k=>?_⟩,N.p,N.tm,?_,N.cc⟩
  .rcases aP.1 k with k|k
   .exact af _ (d.pr B k)
   grind
  .show x.ms++[(t.text,(⟨y,s3.p,x.ms.length⟩:PM))]=(Y.Ms++[_]).map _;rw[fv,<-d.ms];rfl
  .show dL an ((Y.Ms++[_]).map q6);rw[fv];exact u3
  .have k:B∈x.ms++[(t.text,(⟨y,s3.p,x.ms.length⟩:PM))]:=k;show B.2.ix<(x.ms++[(t.text,(⟨y,s3.p,x.ms.length⟩:PM))]).length/\_;rw[bM];rcases aP.1 k with k|k
   .obtain ⟨o1,o2,o3,o4⟩:=d.ok.ms B k;have o1:B.2.ix<x.ms.length:=o1;exact⟨io,o2,o3,o4⟩
   .rw [cK.1 k];have:=m3.l;exact⟨us,m3.l,aR,by grind⟩
  grind
 .rw [aS]at h;have:b=w.heap.size:=by simpa[En.ob]using h
  omega
 .have ar:b∈(En.row mJ 4 sl (fg y)).fp:=by
   have h:b∈(if fg y=[]then[]else aG sl):=h;split at h
   .cases h
   .exact h
  have aQ:=Z.new _ (ay (i:=2) rfl) b ar;have a6:w.heap.size<=W.heap.size:=J.fr.size;rcases aQ with P|P
  .omega
  .exfalso;rcases aF.1 P with rfl|P
   .exact jX Z.nd (i:=2) (j:=0) rfl rfl dl _ ar (by simp[En.ob])
   .rw [cK]at P;subst P;exact jX Z.nd (i:=2) (j:=1) rfl rfl dl _ ar (by simp[En.ob])
end
structure oz(N:Nat)(T:List aN):Prop where
 so:mS N
 n:N+1<=1000000
 f:∀t∈T,t.kind=5->∀S,h4 t.text=.inr S->jw N (cO S.tp)
 t:∀(tm:aH->PR Nat) (wd:List UInt8) (s:aH) (n:Nx) (s':aH),i5 T tm wd s=.ok n s'->kz n
section
variable {N:Nat} {T:List aN} {Y:mR} {x:bS} {D:List En}
def aeM(d:oz N T){E:b3}(h:E.T=T)(s:aH)(e:List (List UInt8×(Sl×PM))):iU E e (dO (uW E s) E) s.p/\lx E (dO (uW E s) E) s.p:=
 ⟨Hh d.so d.n d.f d.t (uW E s) E s.p h (bz _),λk n j _=>yJ _ E k n j (dg _)⟩
def acr(hX:oz N T)(C:hq T Y x D){w:I}(H:O (·∈(cF Y x).flatMap (·.fp)) w w (cF Y x) D):ah U FV #[.pointer (some (aa Y.X.rb))] w (iR T Y x D w (kH T x)):=by
 have hT:=C.ok.T;have ax:T.length<=100000:=hT.l;have e:kH T x=(bU T 2 x.s).s x λw x=>
  if w.text=[100,101,99,108,97,114,101]then pI T w x else
  if w.text=[100,101,102,105,110,101]then pJ T x else
  if w.text=[97,115,115,101,114,116]\/w.text=[101,100,105,116]then
   (bU T 2 x.s).s x λt x=>(tD T x).s x λn x=>(bU T 1 x.s).s x λ_ x=>.ok {x with cs:=x.cs++[⟨if w.text=[101,100,105,116]then 2 else 1,t.text,a5,n,0⟩]}else
  if w.text=[114,101,116,114,97,99,116]then(bU T 2 x.s).s x λt x=>(bU T 1 x.s).s x λ_ x=>.ok {x with cs:=x.cs++[⟨3,t.text,a5,0,0⟩]}else
  if w.text=[112,117,115,104]then(bU T 1 x.s).s x λ_ x=>.ok {x with cs:=x.cs++[⟨4,[],a5,0,0⟩]}else
  if w.text=[112,111,112]then(bU T 1 x.s).s x λ_ x=>.ok {x with cs:=x.cs++[⟨5,[],a5,0,0⟩]}else
  if w.text=[99,104,101,99,107]then(dw T x.s).s x λn af=>if 1099511627776<n then .er 5 (aK T x.s.p).a4 else(bU T 1 af.s).s af λ_ x=>.ok {x with cs:=x.cs++[⟨6,[],a5,0,n⟩]}else
  .er 2 w.a4:=rfl
 have az:=C.cc;generalize aA:kH T x=q at e ⊢;have fin:∀(j:Nat) (R:List En) (c:fM) (Y1:mR) (x1:bS) (D1 D':List En) (w1:I),Y1.X.rb=Y.X.rb->D1=D++D'->(∀ac∈D',∀b∈ac.fp,w.heap.size<=b\/∃g∈D,b∈g.fp)->O (·∈(cF Y x).flatMap (·.fp)) w w1 (cF Y1 x1++R) D1->hq T Y1 x1 D1->En.g j∈R->
   q=((bU T 1 x1.s).s x1 λ_ x=>.ok {x with cs:=x.cs++[c]})->vu.bL (aa Y1.X.rb) j c.k (ba c.nm) c.st.k c.st.n c.st.x c.nd c.n w1 (iR T Y x D w q):=by
  intro j R c Y1 x1 D1 D' w1 hy hD am H1 B hb e;subst hD;refine eZ (X:=Y1.X) H1 0 rfl (ja (H1.get 0) (cY H1 (i:=0) rfl rfl) B.tk B.p) (λcl P w2 K H2=>⟨_,_,_,rfl,H2.ae (λw3 W=>?_) (λb h=>?_)⟩) (λQ p w' er f=>hJ (e.trans (k4 er)) f) (λb h=>?_)
  .have m:=eB hT B.p dl K;have hp:=m.p;have h1:=B.cc;have h2:=B.p;refine Km (R:=R) (show O _ w w3 (cF Y1 {x1 with s:=P}++R) _ from W) (B.mv m) c (by grind) (by grind) (λb h=>by grind) λY' z ar y an=>?_;exact vL (e.trans (jN K)) (ar.trans hy) (y.take 4) an am
  .grind
  grind
 refine vu.aq (eZ (bs:=[]) H 0 rfl (ja (H.get 0) (cY H (i:=0) rfl rfl) C.tk C.p) (λG L w1 e1 H1=>⟨_,_,_,rfl,H1.aw λF w2 H2=>H2.aw λj w3 W=>?_⟩) (λQ p w' er f=>hJ (e.trans (k4 er)) f));have m1:=eB hT C.p dl e1;have e:=e.trans (jN e1);have B:=C.mv m1;have W:O (·∈(cF Y x).flatMap (·.fp)) w w3 (cF Y {x with s:=L}++[.g F,.g j]) D:=W;have tr:∀(k:Int) (z:I),O (·∈(cF Y x).flatMap (·.fp)) w z (cF Y {x with s:=L}++[.g F,.g j]) D->
   q=((bU T 2 L).s {x with s:=L} λt x=>(tD T x).s x λn x=>(bU T 1 x.s).s x λ_ x=>.ok {x with cs:=x.cs++[⟨k,t.text,a5,n,0⟩]})->
   vu.bg (aa Y.X.rb) j k (ba []) 0 0 0 0 0 z (iR T Y x D w q):=λk z y e=>by
  refine eZ (X:=Y.X) y 0 rfl (ja (y.get 0) (cY y (i:=0) rfl rfl) C.tk B.p) (λt P M K A=>⟨_,_,_,rfl,A.ae λw6 J=>?_⟩) (λQ p w' er f=>hJ (e.trans (k4 er)) f);have e:=e.trans (jN K);have m2:=m1.tr (eB hT B.p dl K);have S:=C.mv m2;have J:O (·∈(cF Y x).flatMap (·.fp)) w w6 (cF Y {x with s:=P}++[.g F,.g j]) D:=J;obtain⟨hC,hI⟩:=aeM hX (E:=eP T {x with s:=P}) rfl P Y.Ms;refine nB (X:=Y.X) J 0 rfl C.gr.d (acE hC hI (J.get 0) (BC J rfl) (S.en (λQ he=>db _ he) us us) (S.gr.sub λQ he=>db _ he) S.ok (bz _) S.p S.tm) (λn s3 g' l' v w7 e3 hv hG hb H7=>?_) (λQ p w' er f=>hJ (e.trans (k4 (q:=tD T _) er)) f);subst hv;have e:=e.trans (jN (q:=tD T {x with s:=P}) e3);obtain⟨n',av,e4,e5⟩:=bT e3;have e6:n'=n/\av=s3:=by grind
  rw[e6.1,e6.2]at e4;have ao:=(hI P n s3 (bz _) S.p S.tm S.gr.v S.ok e4).1;refine⟨_,rfl,H7.ae λw8 H8=>?_⟩;refine fin j [.g F,.g j] ⟨k,t.text,a5,n,0⟩ {Y with X:={Y.X with g:=g'},l:=l'} {x with s:=s3} _ [.gr g' l'] w8 rfl rfl (λac Z b aj=>?_) H8 (S.grow ao hG λQ he=>cm _ he) us e;rw[cK.1 Z]at aj;exact(hb b aj).elim (λh=>.inr ⟨_,C.gr.d,h⟩) .inl
 have rest:∀z,O (·∈(cF Y x).flatMap (·.fp)) w z (cF Y {x with s:=L}++[.g F,.g j]) D->G.text≠[100,101,99,108,97,114,101]->G.text≠[100,101,102,105,110,101]->G.text≠[97,115,115,101,114,116]->G.text≠[101,100,105,116]->
   vu.cM (aa Y.X.rb) F G.kind (ba G.text) G.a4 j 0 (ba []) 0 0 0 0 0 (ba G.text) z (iR T Y x D w q):=λz y h1 h2 h3 h4=>by
  rw[ad h1,ad h2,ad (by grind)]at e;refine ew (b:=[114,101,116,114,97,99,116]) (λh=>y.ae λM A=>?_) (λh5=>?_)
  .rw [ag h]at e;refine eZ (X:=Y.X) A 0 rfl (ja (A.get 0) (cY A (i:=0) rfl rfl) C.tk B.p) (λt P w6 K J=>⟨_,_,_,rfl,J.ae λw7 H7=>?_⟩) (λQ p w' er f=>hJ (e.trans (k4 er)) f);have m2:=m1.tr (eB hT B.p dl K);refine fin j [.g F,.g j] ⟨3,t.text,a5,0,0⟩ Y {x with s:=P} D [] w7 rfl us (λac Z=>by cases Z) H7 (C.mv m2) us (e.trans (jN K))
  rw[ad h5]at e;refine ew (b:=[112,117,115,104]) (λh=>y.ae λM A=>?_) (λh6=>?_)
  .rw [ag h]at e;exact fin j [.g F,.g j] ⟨4,[],a5,0,0⟩ Y {x with s:=L} D [] M rfl us (λac Z=>by cases Z) A B us e
  rw[ad h6]at e;refine ew (b:=[112,111,112]) (λh=>y.ae λM A=>?_) (λh7=>?_)
  .rw [ag h]at e;exact fin j [.g F,.g j] ⟨5,[],a5,0,0⟩ Y {x with s:=L} D [] M rfl us (λac Z=>by cases Z) A B us e
  rw[ad h7]at e;refine ew (b:=[99,104,101,99,107]) (λh=>y.ae λM A=>?_) (λh8=>?_)
  .rw [ag h]at e;have ht:=(o8 B.p).2;generalize aK T ({x with s:=L}:bS).s.p=t at ht e;refine⟨Y.X.tk,A.ld 0 0,_,A.ld 0 1,B7 (A.rd _ C.tk.t) rfl ht λp ap c=>⟨t.kind,ba t.text,t.a4,c.c0,c.c1,c.c2,A.aw λb4 w6 J=>?_⟩⟩;have c':=Ie (J.rd _ C.tk.t) (X:=(L.p:Int)) rfl ht ap;refine⟨c'.c0,c'.c1,c'.c2,J.ld 0 1,J.ld 0 0,J.ae λw7 H7=>?_⟩;refine eZ (X:=Y.X) H7 0 rfl (vD (H7.get 0) (cY H7 (i:=0) rfl rfl) C.tk B.p) (λn P w8 K H8=>⟨_,rfl,aS (λhn=>H8.ae λw9 H9=>?_) (λhn=>H8.ae λw9 H9=>?_)⟩) (λQ p w' er f=>hJ (e.trans (k4 er)) f)
   .exact gy H9 (jM _ 5 t w9) λw' f=>hJ ((e.trans (jN K)).trans (ag io)) f
   .have m2:=m1.tr (lH hT B.p K).1;exact fin j [.g F,.g j,.g b4] ⟨6,[],a5,0,n⟩ Y {x with s:=P} D [] w9 rfl us (λac Z=>by cases Z) H9 (C.mv m2) us ((e.trans (jN K)).trans (ad io))
  rw[ad h8]at e;have hk:=(qa e1).2.1;exact gy y (rl _ G z) λw' f=>by rw[hk];exact hJ e f
 refine ew (b:=[100,101,99,108,97,114,101]) (λh=>W.ae λz y=>?_) (λh1=>?_)
 .rw [ag h]at e;exact HF (R:=[.g F,.g j]) (show O _ w z (cF Y {x with s:=L}++[.g F,.g j]) D from y) (λH'=>acu B H' (by show x.cs.length<=100000;have:=C.p;omega) G) (λaf Y' D' M ey hy A ai hb=>⟨rfl,vL (e.trans ey) hy (A.take 4) ai hb⟩) (λQ p w' er f=>hJ (e.trans er) f)
 refine ew (b:=[100,101,102,105,110,101]) (λh=>W.ae λz y=>?_) (λh2=>?_)
 .rw [ad h1,ag h]at e;exact HF (R:=[.g F,.g j]) (show O _ w z (cF Y {x with s:=L}++[.g F,.g j]) D from y) (λH'=>acv B H') (λaf Y' D' M ey hy A ai hb=>⟨rfl,vL (e.trans ey) hy (A.take 4) ai hb⟩) (λQ p w' er f=>hJ (e.trans er) f)
 have term:(G.text=[97,115,115,101,114,116]\/G.text=[101,100,105,116])->∀z,O (·∈(cF Y x).flatMap (·.fp)) w z (cF Y {x with s:=L}++[.g F,.g j]) D->vu.aV (aa Y.X.rb) F G.kind (ba G.text) G.a4 j 0 (ba []) 0 0 0 0 0 z (iR T Y x D w q):=λh z y=>by
  rw[ad h1,ad h2,ag h]at e;refine ew (b:=[101,100,105,116]) (λh=>y.ae λM A=>?_) (λh=>y.ae λM A=>?_)
  .rw [ag h]at e;exact tr 2 M A e
  .rw [ad h]at e;exact tr 1 M A e
 refine ew (b:=[97,115,115,101,114,116]) (λh=>ew (b:=[97,115,115,101,114,116]) (λ_=>W.ae λz y=>term (.inl h) z y) λh'=>absurd h h') (λh3=>?_);exact ew (b:=[101,100,105,116]) (λh=>W.ae λz y=>term (.inr h) z y) (λh4=>W.ae λz y=>rest z y h1 h2 h3 h4)
end
def di{α:Type}{q:PR α}{y e:bS}{f:α->bS->SR}(d:q.s y f=.ok e):∃a s,q=.ok a s/\f a {y with s:=s}=.ok e:=by
 cases q with
 |ok a s=>exact⟨a,s,rfl,d⟩
 |er h p=>cases d
def VU{s q:aH}{n:Nx}{t:aN}{k:Nat}(h:ej s n t=.ok k q):(bo s.g n).2=0/\q.g[k]? =some (dc n (bo s.g n).1):=by
 unfold ej at h;split at h
 .rename_i d;cases h;unfold a3 at d ⊢;split at d
  .rename_i e;exact absurd d e
  .rename_i e;have e:(bo s.g n).2=0:=Classical.byContradiction e;refine⟨e,?_⟩;rw[ad (by rw[e];simp)];split at d
   .rename_i i j;have:=(q4 j).2;simpa using this
   .rename_i j;split at d
    .cases d
    .rename_i w;rw[ad w];simp
 .cases h
def Z8{g:List Nx}{n:Nx}(d:(bo g n).2=0)(y:n.op=0\/n.op=1\/n.op=3):dc n (bo g n).1=n:=by
 unfold bo at d ⊢;split at d
 .cases d
 rename_i w;rw[ad w];rw[ag io]at d ⊢;have x:n.op≠2:=io
 unfold b6 at d ⊢;rw[ad x]at d ⊢;repeat' split at d
 all_goals first |(cases d;done)|skip
 rename_i e h j k q;rw[ad e,ad h,ad j,ad k,ad q];rfl
def nJ(g:List Nx)(c:fM):Prop:=0<=c.nd/\(c.nd<g.length\/c.nd=0)/\((c.k=1\/c.k=2)->(g[c.nd.toNat]?).map (·.st)=some (aZ 1))/\(c.k=0->g[c.nd.toNat]? =some ⟨0,[],0,0,0,ba c.nm,c.st⟩)
def nJ.up{g r:List Nx}{c:fM}(h:nJ g c):nJ (g++r) c:=by
 have k:∀e,g[c.nd.toNat]? =some e->(g++r)[c.nd.toNat]? =some e:=λe d=>by rw[s6 (cP.1 d).1];exact d
 refine⟨h.1,h.2.1.imp (λh=>by rw[bM];omega) id,λj=>?_,λj=>k _ (h.2.2.2 j)⟩;have:=h.2.2.1 j;cases d:g[c.nd.toNat]? with
 |none=>rw[d]at this;cases this
 |some e=>rw[d]at this;rw[k e d];exact this
structure iy(T:List aN)(x:bS):Prop where
 p:x.s.p<T.length
 tm:x.s.tm<=65536
 v:Vg x.s.g
 e:e5 (eP T x) x.s.g
 c:∀c∈x.cs,nJ x.s.g c
structure ze(x y:bS):Prop where
 p:x.s.p<y.s.p
 g:∃r,y.s.g=x.s.g++r
 c:∃r,y.cs=x.cs++r
def iy.mv{T:List aN}{x:bS}(d:iy T x){h:aH}(m:Mv T x.s h):iy T {x with s:=h}:=
 ⟨m.l,by show h.tm<=_;rw[m.t];exact d.tm,by show Vg h.g;rw[m.g];exact d.v,⟨d.e.T,by rw[m.g];exact d.e.vs,by rw[m.g];exact d.e.pm,d.e.ms⟩,by show ∀c∈x.cs,nJ h.g c;rw[m.g];exact d.c⟩
def iy.go{T:List aN}{x:bS}(h:iy T x){d:aH}(m:jS T x.s d):iy T {x with s:=d}:=by have:=h.e.up m.len;obtain⟨r,j⟩:=m.g;exact⟨m.l,m.t.2,m.v,⟨this.T,this.vs,this.pm,this.ms⟩,λc k=>by show nJ d.g c;rw[j];exact(h.c c k).up⟩
section
variable {T:List aN} {x y:bS}
def X5(D:iy T x){w:aN}(e:pI T w x=.ok y):iy T y/\ze x y:=by
 have A:=D.e.T;obtain⟨u,s1,P,e⟩:=di e;obtain⟨aa,s2,Q,e⟩:=di e;obtain⟨Y,s3,S,e⟩:=di e;obtain⟨k,q,H,e⟩:=di e;cases e;have W:=(xV (E:=eP T x) P).1;have J:=eB A D.p dl W;have K:=J.tr (vR A J.l Q).1;have F:=K.tr (eB A K.l dl S);have z:=D.mv F;obtain⟨G,N⟩:=wD z.v z.p z.tm H;obtain⟨O,C⟩:=VU H;have d:=z.go G;have C:=C.trans (congrArg some (Z8 O (.inl rfl)));have Z:=F.p;have L:=G.p;obtain⟨r,er⟩:=G.g;refine⟨⟨d.p,d.tm,d.v,⟨A,λM j=>?_,d.e.pm,d.e.ms⟩,λc h=>?_⟩,⟨by show x.s.p<q.p;have L:s3.p<=q.p:=L;omega,⟨r,by show q.g=_;rw[er];show s3.g++r=_;rw[F.g]⟩,⟨_,rfl⟩⟩⟩
 .rcases aP.1 (show M∈x.vs++[(u.text,k)]from j)with j|j
  .exact d.e.vs M j
  .rw [cK.1 j];exact N
 .rcases aP.1 h with h|h
  .exact d.c c h
  .rw [cK.1 h];exact⟨Int.natCast_nonneg _,.inl (by have:k<q.g.length:=N;show(k:Int)<(q.g.length:Int);omega),λB=>(by rcases B with B|B<;>cases B),λ_=>C⟩
def X6(k:iy T x)(e:pJ T x=.ok y):iy T y/\ze x y:=by
 have d:=k.e.T;obtain⟨o,s1,H,e⟩:=di e;obtain⟨t,s2,J,e⟩:=di e;split at e
 .cases e
 obtain⟨A,s3,K,e⟩:=di e;obtain⟨u,s4,L,e⟩:=di e;obtain⟨Z,s5,M,e⟩:=di e;cases e;have C:=eB d k.p dl H;have P:=(xV (E:=eP T x) J).1;have D:=C.tr (eB d C.l dl P);obtain⟨O,N,aa⟩:=GW d _ _ _ _ _ D.l us (dg _) K;have w:=D.tr O;have F:=w.tr (HM d _ _ _ _ w.l L);have z:=F.tr (eB d F.l dl M);have j:=k.mv z;have B:=d.l;have B:T.length<=100000:=B;have Y:=w.l;refine⟨⟨j.p,j.tm,j.v,⟨d,j.e.vs,j.e.pm,λq h=>?_⟩,j.c⟩,⟨z.p,⟨[],by rw[df];exact z.g⟩,⟨[],(df _).symm⟩⟩⟩;have h:q∈x.ms++[(t.text,(⟨A,s3.p,x.ms.length⟩:PM))]:=h;show q.2.ix<(x.ms++[(t.text,(⟨A,s3.p,x.ms.length⟩:PM))]).length/\_;rw[bM];rcases aP.1 h with h|h
 .obtain ⟨G,Q,S,W⟩:=k.e.ms q h;have G:q.2.ix<x.ms.length:=G;exact⟨by simp;omega,Q,S,W⟩
 .rw [cK.1 h];exact⟨us,Y,N,by show A.length<=100000;omega⟩
def Kn(h:iy T x)(e:kH T x=.ok y):iy T y/\ze x y:=by
 have C:=h.e.T;have fin:∀{c:fM} {x1:bS},iy T x1->x.s.p<=x1.s.p->(∃r,x1.s.g=x.s.g++r)->x1.cs=x.cs->nJ x1.s.g c->((bU T 1 x1.s).s x1 λ_ x=>.ok {x with cs:=x.cs++[c]})=.ok y->iy T y/\ze x y:=λ{c x1} z hp W S A e=>by
  obtain⟨cl,B,w,e⟩:=di e;cases e;have m:=eB C z.p dl w;have d:=z.mv m;obtain⟨r,er⟩:=W;have mp:=m.p;refine⟨⟨d.p,d.tm,d.v,⟨C,d.e.vs,d.e.pm,d.e.ms⟩,λM E=>?_⟩,⟨by show x.s.p<B.p;omega,⟨r,by show B.g=_;rw[m.g];exact er⟩,⟨[c],by show x1.cs++[c]=_;rw[S]⟩⟩⟩;rcases aP.1 E with E|E
  .exact d.c M E
  .rw [cK.1 E];show nJ B.g c;rw[m.g];exact A
 have G:∀(k n:Int) (nm:List UInt8),3<=k->∀g,nJ g ⟨k,nm,a5,0,n⟩:=λk n nm A g=>⟨Int.le_refl _,.inr rfl,λh=>by have h:k=1\/k=2:=h;omega,λh=>by have h:k=0:=h;omega⟩;obtain⟨Z,F,N,e⟩:=di e;have j:=eB C h.p dl N;have z:=h.mv j;have L:=j.p;have K:∃r,F.g=x.s.g++r:=⟨[],by rw[df];exact j.g⟩;dsimp only at e;split at e
 .obtain ⟨a,b⟩:=X5 z e;obtain⟨r,er⟩:=b.g;have D:=b.p;exact⟨a,⟨by have D:F.p<y.s.p:=D;omega,⟨r,by rw[er];show F.g++r=_;rw[j.g]⟩,b.c⟩⟩
 split at e
 .obtain ⟨a,b⟩:=X6 z e;obtain⟨r,er⟩:=b.g;have D:=b.p;exact⟨a,⟨by have D:F.p<y.s.p:=D;omega,⟨r,by rw[er];show F.g++r=_;rw[j.g]⟩,b.c⟩⟩
 split at e
 .rename_i hw;obtain⟨t,B,w,e⟩:=di e;obtain⟨n,s3,O,e⟩:=di e;have q:=j.tr (eB C j.l dl w);have d:=h.mv q;obtain⟨n',aa,P,H⟩:=bT O;split at H
  .rename_i Y;cases H;obtain⟨J,_,q3⟩:=yJ _ _ B n s3 (dg _) d.p d.tm d.v d.e P;have Q:=d.go J;obtain⟨r,er⟩:=J.g;have p2:=q.p;have p3:=J.p;refine fin Q (by show x.s.p<=s3.p;omega) ⟨r,by show s3.g=_;rw[er,q.g]⟩ rfl ⟨Int.natCast_nonneg _,.inl (by show(n:Int)<(s3.g.length:Int);omega),λ_=>?_,λA=>?_⟩ e
   .exact Y
   .have A:(if Z.text=[101,100,105,116]then(2:Int)else 1)=0:=A;split at A<;>cases A
  .cases H
 split at e
 .obtain ⟨t,B,w,e⟩:=di e;have q:=j.tr (eB C j.l dl w);exact fin (h.mv q) (Nat.le_of_lt q.p) ⟨[],by rw[df];exact q.g⟩ rfl (G 3 0 _ dl _) e
 split at e
 .exact fin z (Nat.le_of_lt L) K rfl (G 4 0 _ dl _) e
 split at e
 .exact fin z (Nat.le_of_lt L) K rfl (G 5 0 _ dl _) e
 split at e
 .obtain ⟨n,B,w,e⟩:=di e;split at e
  .cases e
  .have q:=j.tr (lH C j.l w).1;exact fin (h.mv q) (Nat.le_of_lt q.p) ⟨[],by rw[df];exact q.g⟩ rfl (G 6 n _ dl _) e
 .cases e
end
def adI{x:SR}{f:bS->SR}{e:Int}{p:Nat}(d:x=.er e p):x.b f=.er e p:=by subst d;rfl
def adJ{x:SR}{f:bS->SR}{y:bS}(d:x=.ok y):x.b f=f y:=by subst d;rfl
section
variable {N:Nat} {T:List aN} {Y:mR} {x:bS} {D:List En}
def acB(hX:oz N T)(hS:hq T Y x D)(P:iy T x){w:I}(H:O (·∈(cF Y x).flatMap (·.fp)) w w (cF Y x) D):ah U F7 #[.pointer (some (aa Y.X.rb))] w (iR T Y x D w (hf T (T.length+1) x)):=by
 have hT:=P.e.T;have loop:∀(f:Nat) (d:mR) (x1:bS) (D':List En) (F:I) (q:SR),T.length - x1.s.p<f->d.X.rb=Y.X.rb->iy T x1->O (·∈(cF Y x).flatMap (·.fp)) w F (cF d x1) (D++D')->hq T d x1 (D++D')->(∀z∈D',∀b∈z.fp,w.heap.size<=b\/∃g∈D,b∈g.fp)->q=hf T f x1->Bl.aX (aa d.X.rb) F (iR T Y x D w q):=by
  intro f;induction f with
  |zero=>intro d x1 D' F q ao;omega
  |succ f ih=>
   intro d x1 D' F q ao hy S G A M j;have j:q=if(aK T x1.s.p).kind=6 then .ok x1 else if(aK T x1.s.p).kind=0 then(kH T {x1 with s:=cN (aK T x1.s.p) x1.s}).b λx=>hf T f x else .er 2 (aK T x1.s.p).a4:=j;have af:=yf (G.get 0) (cY G (i:=0) rfl rfl) A.tk A.p;have W:(aK T x1.s.p).kind≠6->Mv T x1.s (cN (aK T x1.s.p) x1.s):=λh=>rU hT A.p h;have Z:(aK T x1.s.p).kind=6->cN (aK T x1.s.p) x1.s=x1.s:=λh=>ag h;generalize aK T x1.s.p=t at j af W Z;refine Bl.bR (AK G 0 rfl rfl rfl af λw2 H2=>⟨_,_,_,rfl,H2.aw λK w3 J=>ax (λh=>J.ae λC k=>?_) (λh=>ax (λL=>J.ae λC k=>?_) (λL=>J.ae λC k=>?_))⟩)
   .have k:O (·∈(cF Y x).flatMap (·.fp)) w C ([bG d.X (cN t x1.s),.ob d.X.mv (.map d.e1 d.c1),.ob d.X.mm (.map d.e2 d.c2),.row ke 7 d.X.cs (hx x1.cs)]++[.g K]) (D++D'):=k;rw[Z h]at k;exact vL (j.trans (ag h)) hy (k.take 4) A M
   .rw [ad h,ag L]at j;have m:=W h;have mp:=m.p;refine HF (R:=[.g K]) (x:={x1 with s:=cN t x1.s}) (show O _ w C (cF d {x1 with s:=cN t x1.s}++[.g K]) _ from k) (λH'=>acr hX (A.mv m) H') (λaj Y' am w5 Q ai H5 an hb=>⟨rfl,?_⟩) (λap p w' er f=>hJ (j.trans (adI er)) f);obtain⟨o1,o2⟩:=Kn (S.mv m) Q;have q1:=o2.p;have q1:(cN t x1.s).p<aj.s.p:=q1;rw[<-ai];have ar:=S.p;refine ih Y' aj (D'++am) w5 q io (ai.trans hy) o1 (by rw[<-dS];exact H5.take 4) (by rw[<-dS];exact an) (λz y b ac=>?_) (j.trans (adJ Q));rcases aP.1 y with y|y
    .exact M z y b ac
    .rcases hb z y b ac with E|⟨g,B,E⟩
     .exact .inl E
     .rcases aP.1 B with B|B
      .exact .inr ⟨g,B,E⟩
      .exact M g B b E
   .rw [ad h,ad L]at j;exact gy k (rl _ t C) λw' f=>by rw[ad h];exact hJ j f
 exact Bl.aq (loop (T.length+1) Y x [] w _ (by have:=P.p;omega) rfl P (by rw[df];exact H) (by rw[df];exact hS) (λz y=>by cases y) rfl)
end
structure SS(P:au)(ops:Array Oper)(Q:Exit->Act->List Frame->I->Prop)(l:List Nat)(a:Act)(cs:List Frame)(w:I):Prop where
 h:wpOpsS P ops Q l a cs w
structure SW(P:au)(ops:Array Oper)(Q:Exit->Act->I->Prop)(l:List Nat)(a:Act)(w:I):Prop where
 h:wpOps P ops Q l a w
section
variable {P:au} {ops:Array Oper} {i:Nat} {rest:List Nat} {a:Act} {cs:List Frame} {w w':I} {o:Oper} {v:V}
def rj(d:(ops.toList.drop i).head? =some o):ops[i]? =some o:=by
 rw[List.head?_drop]at d
 grind
def lU{Q:Exit->Act->List Frame->I->Prop}(e:(ops.toList.drop i).head? =some o)(q:cz o (yielded ops a.tmps)=true)(k:(execOp a.eval o).run P w=.ok (.value v) w')(d:SS P ops Q rest (a.put o.dst v) cs w'):SS P ops Q (i::rest) a cs w:=by constructor;have j:=rj e;simp only[wpOpsS,j,q,if_true,k,Oper.upon_value];exact d.h
def Ti{Q:Exit->Act->List Frame->I->Prop}(e:(ops.toList.drop i).head? =some o)(q:cz o (yielded ops a.tmps)=true)(k:(execOp a.eval o).run P w=.ok .skip w')(d:SS P ops Q rest (a.put o.dst undef) cs w'):SS P ops Q (i::rest) a cs w:=by constructor;have j:=rj e;simp only[wpOpsS,j,q,if_true,k,Oper.upon_skip];exact d.h
def adh{Q:Exit->Act->List Frame->I->Prop}(e:(ops.toList.drop i).head? =some o)(x:cz o (yielded ops a.tmps)=true)(q:(execOp a.eval o).run P w=.ok .recover w')(j:recoverD cs=none)(d:SS P ops Q rest (a.put o.dst .nilIface) cs w'):SS P ops Q (i::rest) a cs w:=by constructor;have k:=rj e;simp only[wpOpsS,k,x,if_true,q,j];exact d.h
variable {Q:Exit->Act->I->Prop}
def BH(e:(ops.toList.drop i).head? =some o)(q:cz o (yielded ops a.tmps)=true)(k:(execOp a.eval o).run P w=.ok (.value v) w')(d:SW P ops Q rest (a.put o.dst v) w'):SW P ops Q (i::rest) a w:=by constructor;have j:=rj e;simp only[wpOps,j,q,if_true];refine .inl ?_;unfold Oper.wp;rw[k];exact d.h
def Tj(e:(ops.toList.drop i).head? =some o)(q:cz o (yielded ops a.tmps)=true)(k:(execOp a.eval o).run P w=.ok .skip w')(d:SW P ops Q rest (a.put o.dst undef) w'):SW P ops Q (i::rest) a w:=by constructor;have j:=rj e;simp only[wpOps,j,q,if_true];refine .inl ?_;unfold Oper.wp;rw[k];exact d.h
def adj{d:Deferred}(j:(ops.toList.drop i).head? =some o)(x:cz o (yielded ops a.tmps)=true)(q:(execOp a.eval o).run P w=.ok (.defer d) w')(e:SW P ops Q rest ({a with defers:=d::a.defers}.put o.dst undef) w'):SW P ops Q (i::rest) a w:=by constructor;have k:=rj j;simp only[wpOps,k,x,if_true];refine .inl ?_;unfold Oper.wp;rw[q];exact e.h
def BD{Q:Exit->Act->List Frame->I->Prop}(d:Q .normal a cs w):SS P ops Q [] a cs w:=⟨d⟩
def BF(d:Q .normal a w):SW P ops Q [] a w:=⟨d⟩
def BW{p:Addr}{inf:TypeInfo}{T:TypeId}{x y:Operand}(d:o.op=.store T x y)(j:a.eval x=.pointer (some p))(k:a.eval y=v)(hi:P.info? T=some inf)(h:v.cells.size=inf.size)(e:(storeCells p v.cells.toList 0).run P w=.ok () w'):(execOp a.eval o).run P w=.ok .skip w':=by simp[execOp,d,Instr.storeAt,j,k,Instr.sureAddr,storeVar,sizeOf,typeInfo,hi,h,e]
end
def BE{P:au}{id:Nat}{ops:Array Oper}{Q:Exit->Act->List Frame->I->Prop}{a:Act}{cs:List Frame}{w:I}(l:List Nat)(e:List.range ops.size=l)(d:SS P ops Q l a cs w):(Code.region id ops false).wpS P Q a cs w:=wpS_region (e▸d.h)
def BG{P:au}{id:Nat}{ops:Array Oper}{Q:Exit->Act->I->Prop}{a:Act}{w:I}(l:List Nat)(e:List.range ops.size=l)(d:SW P ops Q l a w):(Code.region id ops false).wp P Q a w:=wp_region (e▸d.h)
abbrev fZ:V:=.agg #[.i 0,.i 0]
def Ae{P:au}{T n:Nat}(d:(P.info? T).map (·.size)=some n):∃i,P.info? T=some i/\i.size=n:=Option.map_eq_some_iff.1 d
def LI:(Tryz.prog.info? lh).map (·.size)=some 2:=by kernel_rfl
def Ys:(Tryz.prog.info? hn).map (·.size)=some 1:=by kernel_rfl
def Zv:(Tryz.prog.info? bF).map (·.size)=some 1:=by kernel_rfl
def adi{P:au}{ops:Array Oper}{i:Nat}{rest:List Nat}{a:Act}{cs d:List Frame}{w w':I}{o:Oper}{v:V}{Q:Exit->Act->List Frame->I->Prop}(j:(ops.toList.drop i).head? =some o)(y:cz o (yielded ops a.tmps)=true)(x:(execOp a.eval o).run P w=.ok .recover w')(k:recoverD cs=some (v,d))(e:SS P ops Q rest (a.put o.dst v) d w'):SS P ops Q (i::rest) a cs w:=by constructor;have q:=rj j;simp only[wpOpsS,q,y,if_true,x,k];exact e.h
def afk{P:au}{id:Nat}{ops:Array Oper}{n:Cx}{K:Env->I->Prop}{a:Act}{E:Env}{w:I}{l:List Nat}(k:P.follows .mixedOrders=true)(q:dE n ops=true)(j:rh P ops l (Array.replicate ops.size false)=true)(y:l.length=ops.size)(h:Ag n a E)(e:hc P ops true K l E w.drew []):(Code.region id ops true).wp P (hR n K) a w:=by have d:=HD q l _ E _ [] a j h (λp x=>(by cases x)) e;rw[y]at d;exact wp_region_any k (yW _ [] _ _ _ (Down.zero _ _) d)
def ade(p q:Addr)(w:I):CallsD U vd #[.pointer (some p),.pointer (some q)] .returning w λx D E=>x=ab (.tuple #[])/\D=.returning/\af w E:=by
 refine callsD_of_wpS (fn:=Tryz.f43) (by kernel_rfl) rfl λc₀ k B=>?_;have z:recoverD (c₀::k)=none:=by simp[recoverD,B]
 obtain⟨inf,y,A⟩:=Ae LI;refine wpS_seq (BE [0,1,2,3,4,5,6,7] (by kernel_rfl) ?_);refine adh (i:=0) (by rfl) (by kernel_rfl) (w':=w) (by kernel_rfl) z ?_;refine lU (i:=1) (by rfl) (by kernel_rfl) (w':=w) (v:=.tuple #[fZ,.bool false]) (by kernel_rfl) ?_;refine lU (i:=2) (by rfl) (by kernel_rfl) (w':=w) (v:=.tuple #[fZ,.bool false]) (by kernel_rfl) ?_;refine lU (i:=3) (by rfl) (by kernel_rfl) (w':=w) (v:=fZ) (by kernel_rfl) ?_;refine lU (i:=4) (by rfl) (by kernel_rfl) (w':=w) (v:=.bool false) (by kernel_rfl) ?_;refine lU (i:=5) (by rfl) (by kernel_rfl) (w':=w.alloc (.cells #[.i 0,.i 0] lh)) (v:=ptr w.heap.size) (by kernel_rfl) ?_;have h:O F0 w (w.alloc (.cells #[.i 0,.i 0] lh)) [.c w.heap.size [.i 0,.i 0] lh] []:=(bZ (w:=w) [] us).alloc _;obtain⟨d,C,e⟩:∃d,(storeCells (aa w.heap.size) [.i 0,.i 0] 0).run U (w.alloc (.cells #[.i 0,.i 0] lh))=.ok () d/\O F0 w d [.c w.heap.size [.i 0,.i 0] lh] []:=
  vT (P:=U) (p:=aa w.heap.size) (i:=0) (vs:=[.i 0,.i 0]) (K:=λd=>O F0 w d [.c w.heap.size [.i 0,.i 0] lh] []) rfl (h.st 0 0 rfl λF j=>j.st 0 1 rfl λd e=>e)
 refine Ti (i:=6) (by rfl) (by kernel_rfl) (w':=d) (BW rfl (by kernel_rfl) (v:=fZ) (by kernel_rfl) y (by rw[A];rfl) C) ?_;refine lU (i:=7) (by rfl) (by kernel_rfl) (w':=d) (v:=.bool false) (by kernel_rfl) (BD ?_);refine wpS_seq (BE [0] (by kernel_rfl) ?_);refine lU (i:=0) (by rfl) (by kernel_rfl) (w':=d) (v:=.bool false) (by kernel_rfl) (BD ?_);refine wpS_cond (t:=false) (by kernel_rfl) (wpS_of_wp (wp_skip ?_));refine⟨rfl,.returning,by cases c₀;simp_all,.tuple #[],by kernel_rfl,rfl,rfl,e.fr⟩
def aan{M:Nat->Prop}{w0 w:I}{e:En}{L D:List En}(H:O M w0 w (e::L) D):O M w0 w L D:=by have h:=H.nd;rw[dI,fh]at h;exact⟨H.fr,λg d=>H.own g (dJ _ d),H.rd,λg d=>H.new g (dJ _ d),h.2.1,λj q b k g d=>H.dj j q b k g (dJ _ d)⟩
def get_mem{t:Nat}{v:V}:∀{E:Env},E.get? t=some v->(t,v)∈E
 |[],d=>by cases d
 |(h,u)::E,d=>by
  unfold Env.get? at d;cases e:Nat.beq h t with
  |true=>
   rw[e]at d;have:=Nat.eq_of_beq_eq_true e
   grind
  |false=>
   rw[e]at d;exact dJ _ (get_mem d)
def ada(p q:Nat)(x0 x:V)(e:Int)(d:Nat){M:Nat->Prop}{w0 w:I}{L D:List En}(H:O M w0 w ([.c p [x0] bF,.c q [x] hn]++L) D):CallsD U vd #[.pointer (some (aa p)),.pointer (some (aa q))] (.panicking (i2 e d)) w λr u' J=>r=ab (.tuple #[])/\settle u'=.returning/\O M w0 J ([.c p [.i (d:Int)] bF,.c q [.i e] hn]++L) D:=by
 refine callsD_of_wpS (fn:=Tryz.f43) (by kernel_rfl) rfl λc₀ F hu=>?_;have Y:recoverD (c₀::F)=some (Aa e d,{c₀ with mode:=.panicking [{v:=Aa e d,recovered:=true}]}::F):=by simp[recoverD,hu,i2]
 obtain⟨inf,W,Z⟩:=Ae LI;refine wpS_seq (BE [0,1,2,3,4,5,6,7] (by kernel_rfl) ?_);refine adi (i:=0) (by rfl) (by kernel_rfl) (w':=w) (by kernel_rfl) Y ?_;refine lU (i:=1) (by rfl) (by kernel_rfl) (w':=w) (v:=.tuple #[.agg #[.i e,.i (d:Int)],.bool true]) (by kernel_rfl) ?_;refine lU (i:=2) (by rfl) (by kernel_rfl) (w':=w) (v:=.tuple #[.agg #[.i e,.i (d:Int)],.bool true]) (by kernel_rfl) ?_;refine lU (i:=3) (by rfl) (by kernel_rfl) (w':=w) (v:=.agg #[.i e,.i (d:Int)]) (by kernel_rfl) ?_;refine lU (i:=4) (by rfl) (by kernel_rfl) (w':=w) (v:=.bool true) (by kernel_rfl) ?_;refine lU (i:=5) (by rfl) (by kernel_rfl) (w':=w.alloc (.cells #[.i 0,.i 0] lh)) (v:=ptr w.heap.size) (by kernel_rfl) ?_;have y:O M w0 (w.alloc (.cells #[.i 0,.i 0] lh)) (.c w.heap.size [.i 0,.i 0] lh::.c p [x0] bF::.c q [x] hn::L) D:=n7 (H.alloc (.cells #[.i 0,.i 0] lh)) List.perm_append_comm;obtain⟨h,r2,z⟩:∃h,(storeCells (aa w.heap.size) [.i e,.i (d:Int)] 0).run U (w.alloc (.cells #[.i 0,.i 0] lh))=.ok () h/\O M w0 h (.c w.heap.size [.i e,.i (d:Int)] lh::.c p [x0] bF::.c q [x] hn::L) D:=
  vT (P:=U) (p:=aa w.heap.size) (i:=0) (vs:=[.i e,.i (d:Int)]) (K:=λh=>O M w0 h (.c w.heap.size [.i e,.i (d:Int)] lh::.c p [x0] bF::.c q [x] hn::L) D) rfl (y.st 0 0 rfl λw1 y=>y.st 0 1 rfl λh z=>z)
 refine Ti (i:=6) (by rfl) (by kernel_rfl) (w':=h) (BW rfl (by kernel_rfl) (v:=.agg #[.i e,.i (d:Int)]) (by kernel_rfl) W (by rw[Z];rfl) r2) ?_;refine lU (i:=7) (by rfl) (by kernel_rfl) (w':=h) (v:=.bool true) (by kernel_rfl) (BD ?_);refine wpS_seq (BE [0] (by kernel_rfl) ?_);refine lU (i:=0) (by rfl) (by kernel_rfl) (w':=h) (v:=.bool true) (by kernel_rfl) (BD ?_);have A:=z.drew;have T:∃a:Int,h.drew.cell? ((aa w.heap.size).add 1)=some (.i a)/\∃b:Int,h.drew.cell? ((aa w.heap.size).add 0)=some (.i b)/\aL h.drew ((aa p).add 0) (.i a) λB=>B.cell? ((aa w.heap.size).add 0)=some (.i b)/\aL B ((aa q).add 0) (.i b) λk=>O M w0 k ([.c p [.i (d:Int)] bF,.c q [.i e] hn]++L) D:=by refine⟨_,A.ld 0 1,_,A.ld 0 0,?_⟩;exact A.st 1 0 rfl λB C=>⟨C.ld 0 0,C.st 2 0 rfl λk N=>aan N⟩
 refine wpS_cond (t:=true) (by kernel_rfl) (wpS_of_wp (Go.wp_mono (afk (n:=cx 14) (l:=[0,1,2,3,4,5]) (E:=[(2,ptr w.heap.size),(0,.pointer (some (aa p))),(1,.pointer (some (aa q)))]) (K:=λ_ k=>O M w0 k ([.c p [.i (d:Int)] bF,.c q [.i e] hn]++L) D) (by kernel_rfl) (by kernel_rfl) (by kernel_rfl) (by kernel_rfl) ⟨by kernel_rfl,by kernel_rfl,λt v j=>?_⟩ (Eq.mpr (by kernel_rfl) T)) λex a' J j=>?_))
 .have G:=get_mem j;simp only[aF,aW,a2,Prod.mk.injEq]at G;rcases G with⟨rfl,rfl⟩|⟨rfl,rfl⟩|⟨rfl,rfl⟩<;>(show _=some _;kernel_rfl)
 .cases ex with
  |normal=>
   obtain⟨E',Q,S⟩:=j;exact⟨Q.defers,.panicking [{v:=Aa e d,recovered:=true}],rfl,.tuple #[],by kernel_rfl,rfl,rfl,S⟩
  |_=>exact j.elim
def adk{P:au}{ops:Array Oper}{i:Nat}{rest:List Nat}{a:Act}{w w':I}{o:Oper}{Q:Exit->Act->I->Prop}{f:FuncId}{args:Array V}(k:(ops.toList.drop i).head? =some o)(y:cz o (yielded ops a.tmps)=true)(x:(execOp a.eval o).run P w=.ok (.enter f args) w')(d:ah P f args w' λr j=>(∃v,r=ab v/\SW P ops Q rest (a.put o.dst v) j)\/∃c,r=.panicked c/\Q (.panic c) a j):SW P ops Q (i::rest) a w:=by
 constructor;have q:=rj k;simp only[wpOps,q,y,if_true];refine .inl ?_;unfold Oper.wp;rw[x];refine Calls.mono d λr j d=>?_;rcases d with⟨v,e,d⟩|⟨c,e,d⟩
 .subst e;exact d.h
 .subst e;exact d
def Nk{P:au}{T:TypeId}{p:Addr}{n:Int}{w:I}(d:P.underlying T=some (.int .i64))(e:w.cell? p=some (.i n)):(loadVar T p).run P w=.ok (.i n) w:=by simp[loadVar,isAgg,Sem.run_bind,run_underlying d,load,Sem.run,e]
def Yq{P:au}{a:Act}{o:Oper}{w:I}{t f:Nat}{first qQ:Array V}{ts:Array TypeId}(e:o.op=.call ⟨.value (.tmp t),#[],ts⟩)(h:a.eval (.tmp t)=.func (.func f) first qQ)(d:hv P f=true):(execOp a.eval o).run P w=.ok (.enter f (first++#[]++qQ)) w:=by simp[execOp,e,resolve,h,Deferred.ofValue,invoke,ur d]
def ab6{f:FuncId}{first qQ:Array V}(hf:hv U f=true){w:I}{p:Addr}{M:Nat->Prop}(hM:∀b,M b->b<w.heap.size){Q:I->aC}(hc:∀e,af w e->e.heap.size=w.heap.size+2->ah U f (first++#[]++qQ) e λr G=>(r=ab (.tuple #[])\/∃q B,r=.panicked (i2 q B))/\Fr M e G/\Q e r G):
  ah U aa4 #[.pointer (some p),.func (.func f) first qQ] w λr G=>∃e j,af w e/\e.heap.size=w.heap.size+2/\Fr (λb=>b=w.heap.size\/b=w.heap.size+1) j G/\
   ((r=ab (.tuple #[.i 0,.i 0])/\Q e (ab (.tuple #[])) j)\/∃q B,r=ab (.tuple #[.i ((B:Nat):Int),.i q])/\Q e (.panicked (i2 q B)) j):=by
 refine calls_of_wp_defers (fn:=Tryz.f25) (by kernel_rfl) rfl ?_;obtain⟨i1,h1,s1⟩:=Ae Zv;obtain⟨ae,h2,s2⟩:=Ae Ys;obtain⟨e,H⟩:∃e,e=w.alloc (.cells #[.i 0] bF):=⟨_,rfl⟩;obtain⟨h,J⟩:∃h,h=e.alloc (.cells #[.i 0] hn):=⟨_,rfl⟩;have z1:e.heap.size=w.heap.size+1:=by rw[H];exact size_alloc _ _
 have S:h.heap.size=w.heap.size+2:=by rw[J,size_alloc,z1]
 have E:O F0 w h [.c w.heap.size [.i 0] bF,.c e.heap.size [.i 0] hn] []:=by subst J;subst H;exact((O.start [] us).alloc (.cells #[.i 0] bF)).alloc (.cells #[.i 0] hn)
 have N:af w h:=E.fr;refine wp_seq (BG [0,1] (by kernel_rfl) (BH (i:=0) (by rfl) (by kernel_rfl) (w':=e) (v:=ptr w.heap.size) (by subst H;kernel_rfl) (BH (i:=1) (by rfl) (by kernel_rfl) (w':=h) (v:=ptr e.heap.size) (by subst J;kernel_rfl) (BF ?_))));refine wp_seq (BG [0,1] (by kernel_rfl) (BH (i:=0) (by rfl) (by kernel_rfl) (w':=h) (v:=.func (.func vd) #[] #[ptr w.heap.size,ptr e.heap.size]) (by kernel_rfl) (adj (i:=1) (by rfl) (by kernel_rfl) (w':=h) (d:=⟨.fn (.func vd) #[ptr w.heap.size,ptr e.heap.size],#[]⟩) (by kernel_rfl) (BF ?_))));refine wp_seq (BG [0,1] (by kernel_rfl) (BH (i:=0) (by rfl) (by kernel_rfl) (w':=h) (v:=.func (.func f) first qQ) (by kernel_rfl) (adk (i:=1) (by rfl) (by kernel_rfl) (w':=h) (f:=f) (args:=first++#[]++qQ) ?_ ((hc h N S).mono ?_))))
 .exact Yq (t:=7) rfl (by kernel_rfl) hf
 rintro r j ⟨hr,f3,Y⟩;have W:O (λb=>b=w.heap.size\/b=w.heap.size+1) j j [.c w.heap.size [.i 0] bF,.c e.heap.size [.i 0] hn] []:=by
  have ac:∀b,w.heap.size<=b->b<h.heap.size->j.heap[b]? =h.heap[b]?:=λb F hl=>f3.cv b hl λhm=>by have:=hM b hm;omega
  refine O.og _ _ (λq Z=>?_) E.nd us;simp only[aF,aW,a2]at Z;rcases Z with rfl|rfl
  .exact ⟨(ac _ (bz _) io).trans (E.ob 0),λb F=>.inl (by simpa[En.ob]using F)⟩
  .exact ⟨(ac _ io io).trans (E.ob 1),λb F=>.inr (by rw[<-z1];simpa[En.ob]using F)⟩
 have fin:∀(z:I) (tm:Array V) (x y:Int) (r0:Ending),tm.getD 4 undef=ptr w.heap.size->tm.getD 5 undef=ptr e.heap.size->O (λb=>b=w.heap.size\/b=w.heap.size+1) j z [.c w.heap.size [.i x] bF,.c e.heap.size [.i y] hn] []->
   (results Tryz.f25 tm).run U z=.ok (.tuple #[.i x,.i y]) z:=λz tm x y r0 t4 t5 A=>by have l1:=Nk (P:=U) (T:=bF) (by kernel_rfl) (A.cC 0);have l2:=Nk (P:=U) (T:=hn) (by kernel_rfl) (A.cC 1);rw[Ht];have ad:(Tryz.f25).results=#[.cell 4 bF,.cell 5 hn]:=rfl;rw[ad];simp[qk,t4,t5,asAddr,l1,l2]
 rcases hr with rfl|⟨q,B,rfl⟩
 .refine .inl ⟨_,rfl,BF ?_⟩;obtain⟨k,r4,C⟩:∃k,(storeCells (aa w.heap.size) [.i 0] 0).run U j=.ok () k/\O (λb=>b=w.heap.size\/b=w.heap.size+1) j k [.c w.heap.size [.i 0] bF,.c e.heap.size [.i 0] hn] []:=
   vT (P:=U) (p:=aa w.heap.size) (i:=0) (vs:=[.i 0]) (K:=λk=>O (λb=>b=w.heap.size\/b=w.heap.size+1) j k [.c w.heap.size [.i 0] bF,.c e.heap.size [.i 0] hn] []) rfl (W.st 0 0 rfl λk C=>C)
  obtain⟨D,r5,H5⟩:∃D,(storeCells (aa e.heap.size) [.i 0] 0).run U k=.ok () D/\O (λb=>b=w.heap.size\/b=w.heap.size+1) j D [.c w.heap.size [.i 0] bF,.c e.heap.size [.i 0] hn] []:=
   vT (P:=U) (p:=aa e.heap.size) (i:=0) (vs:=[.i 0]) (K:=λk=>O (λb=>b=w.heap.size\/b=w.heap.size+1) j k [.c w.heap.size [.i 0] bF,.c e.heap.size [.i 0] hn] []) rfl (C.st 1 0 rfl λk C=>C)
  refine wp_seq (BG [0,1] (by kernel_rfl) (Tj (i:=0) (by rfl) (by kernel_rfl) (w':=k) (BW (by rfl) (by kernel_rfl) (v:=.i 0) (by kernel_rfl) h1 (by rw[s1];rfl) r4) (Tj (i:=1) (by rfl) (by kernel_rfl) (w':=D) (BW (by rfl) (by kernel_rfl) (v:=.i 0) (by kernel_rfl) h2 (by rw[s2];rfl) r5) (BF ?_))));refine wp_ret ?_;refine leaves_cons (f:=vd) (args:=#[ptr w.heap.size,ptr e.heap.size]) us (by kernel_rfl) ?_;refine(ade (aa w.heap.size) (aa e.heap.size) D).mono ?_;rintro _ _ z ⟨rfl,rfl,f6⟩;have A:=H5.cB f6;refine⟨.tuple #[.i 0,.i 0],?_,h,j,N,S,A.fr,.inl ⟨rfl,Y⟩⟩;refine fin z _ 0 0 .outgrown ?_ ?_ A
  .kernel_rfl
  .kernel_rfl
 .refine .inr ⟨_,rfl,?_⟩;refine leaves_cons (f:=vd) (args:=#[ptr w.heap.size,ptr e.heap.size]) us (by kernel_rfl) ?_;refine(ada w.heap.size e.heap.size (.i 0) (.i 0) q B (L:=[]) W).mono ?_;rintro _ u z ⟨rfl,hu,A⟩;show Leaves _ _ _ _ _ (settle u) z;rw[hu];refine⟨.tuple #[.i (B:Int),.i q],?_,h,j,N,S,A.fr,.inr ⟨q,B,rfl,Y⟩⟩;refine fin z _ _ _ .outgrown ?_ ?_ A
  .kernel_rfl
  .kernel_rfl
def U7(d:Nx):∀(g:List Nx) (k:Nat),iO (g++[d]) k=iO g k++(if d.op=0 then[(bl d.tx,k+g.length)]else[])
 |[],k=>by
  show(if d.op=0 then(bl d.tx,k)::[]else[])=[]++_
  grind
 |e::g,k=>by
  have h:=U7 d g (k+1);show(if e.op=0 then(bl e.tx,k)::iO (g++[d]) (k+1)else iO (g++[d]) (k+1))=(if e.op=0 then(bl e.tx,k)::iO g (k+1)else iO g (k+1))++_
  grind
def tI(g:List Nx)(i:Nat):List UInt8×Nat:=(bl (g.getD i (oX 0)).tx,i)
def Iv(g:List Nx):iO g 0=((List.range g.length).filter (hP g)).map (tI g):=by
 have main:∀n,n<=g.length->iO (g.take n) 0=((List.range n).filter (hP g)).map (tI g):=by
  intro n;induction n with
  |zero=>intro _;rfl
  |succ n q=>
   intro w;have e:g[n]? =some (g[n]'io):=a0 io;generalize g[n]'io=d at e;have j:g.take (n+1)=g.take n++[d]:=by rw[ha,e];rfl
   rw[j,U7,q io,List.range_succ,List.filter_append,fv,oa,Nat.min_eq_left io];congr 1;have k:hP g n=ak (d.op=0):=by unfold hP;rw[e]
   by_cases h:d.op=0
   .rw [ag h,List.filter_cons,k,ag (a6 h)];show[(bl d.tx,0+n)]=[tI g n];unfold tI
    grind
   grind
 grind
def U6{g:List Nx}{j i:Nat}(h:((List.range g.length).filter (hP g))[j]? =some i):∃e,g[i]? =some e/\e.op=0/\tI g i=(bl e.tx,i):=by
 have d:=ay h;rw[List.mem_filter,List.mem_range]at d;have k:g[i]? =some (g[i]'d.1):=a0 d.1;refine⟨_,k,?_,?_⟩
 .have:=d.2;unfold hP at this
  grind
 .unfold tI
  grind
def It{g:List Nx}(d:Vg g):g.Nodup:=by
 induction d with
 |nil=>grind
 |@snoc g n e j h k=>
  grind
def ae4{g:List Nx}(h:Vg g){i j:Nat}{d e:Nx}(hi:g[i]? =some d)(w:g[j]? =some e)(k:d.op=0)(q:e.op=0)(x:d.tx=e.tx):i=j:=by have y:=h.vars d (ay hi) k e (ay w) q x;have z:=var_eq (h.ti i d hi) (h.ti j e w) k q x y;exact(List.getElem?_inj (cP.1 hi).1 (It h)).1 (by grind)
def ae5{g:List Nx}(z:Vg g){j i:Nat}{d:Nx}(B:((List.range g.length).filter (hP g))[j]? =some i)(hd:g[i]? =some d)(A:d.op=0):lk ((iO g 0).take j) (bl d.tx)=none:=by
 cases C:lk ((iO g 0).take j) (bl d.tx)with
 |none=>rfl
 |some G=>
  obtain⟨k,e⟩:=List.mem_iff_getElem?.1 (j1 C);rw[Iv,<-List.map_take,s7,List.getElem?_take]at e;split at e
  .rename_i H;cases h:((List.range g.length).filter (hP g))[k]? with
   |none=>grind
   |some F=>
    rw[h]at e;obtain⟨q,w,x,y⟩:=U6 h;have e:tI g F=(bl d.tx,G):=by grind
    rw[y]at e;have E:bl q.tx=bl d.tx:=congrArg Prod.fst e;have:=ae4 z w hd x A (by have:=congrArg ba E;rwa[jW,jW]at this);subst this;have D:((List.range g.length).filter (hP g)).Nodup:=List.Nodup.sublist List.filter_sublist List.nodup_range;have:k=j:=(List.getElem?_inj (cP.1 h).1 D).1 (h.trans B.symm);omega
  grind
def abG{w0 w:I}{m:Nat}{es:Array MapEntry}{clock:Nat}{ms:List (ByteArray×V)}(H:O F0 w0 w [.ob m (.map es clock)] [])(y:dL es ms){k:ByteArray}{v:V}(z:hg ms k=none){K:I->Prop}(q:∀d e h,O F0 w0 d [.ob m (.map e h)] []->dL e (ms++[(k,v)])->K d):∃d,Sem.run U (Instr.mapUpdate Il (.map (some m)) (.string k) v) w=.ok () d/\K d:=by obtain⟨d,e,A,B,C,D,E⟩:=rD FE (H.ob 0) y k v z;exact⟨d,A,q d e _ (H.fy 0 (.ob m (.map e (clock+1))) rfl (D.mono λF _ j=>by simp[En.ob,j]) B λb x=>.inl x) C⟩
def wN(w:I):ah U OZ #[] w λr j=>(∃m e c,r=ab (.map (some m))/\w.heap.size<=m/\j.heap[m]? =some (.map e c)/\dL e sV)/\af w j:=by
 refine Rj.ok (lP (bZ [] us) λk d=>?_);have h:dL #[] []:=rfl
 iterate 26 (refine abG d h ?_ ?_;kernel_rfl;clear d h;intro k e c d h)
 exact⟨⟨_,e,c,rfl,bz _,d.ob 0,h⟩,d.fr⟩
def vz{a x y d e h j k:En}(q:List.Perm [x,y,d] [h,j,k]):List.Perm [a,x,y,d,e] [a,e,h,j,k]:=((List.perm_append_comm (l₁:=[x,y,d]) (l₂:=[e])).trans (q.cons e)).cons a
abbrev xS(rb e mv d:Nat)(h g:Sl):RC:=⟨rb,h,⟨none,0,0⟩,e,mv,d,g,none,9223372036854775807,0⟩
def y9(w:I)(y g:Sl)(vs:List (List UInt8×Nat))(x:List Nx)(r:Ending)(w':I):Prop:=∃(rb j mv h:Nat) (d e:Array MapEntry) (k q:Nat),r=ab (.pointer (some (aa rb)))/\dL d sV/\dL e (vs.map iP)/\O F0 w w' [bG (xS rb j mv h y g) ⟨0,0,x⟩,.ob j (.map d k),.ob mv (.map e q),.ob h (.map #[] 0)] []
def Xf{w:I}{D g:Sl}{l:List Nd}(ao:GP w g l)(hv:Vg (xs l))(hn:l.length<=4096):ah U OY #[D.v,.agg #[g.v]] w (y9 w D g (iO (xs l) 0) (xs l)):=by
 have ai:O F0 w w [] [.gr g l]:=bZ _ (by intro ac he;rw[cK.1 he];exact bd.2 ao);have aK:(xs l).length=l.length:=by grind
 have fin:∀{h:I} {A rb q mv C:Nat} {y:Array MapEntry} {B:Nat},dL y sV->O F0 w h [.g A,bG (xS rb q mv C D g) ⟨0,0,xs l⟩,.ob q (.map y B),.ob mv (.map #[] 0),.ob C (.map #[] 0)] [.gr g l]->vt.aV A g (aa rb) h (y9 w D g (iO (xs l) 0) (xs l)):=by
  intro h A rb q mv C y B k d;refine d.g5 (WQ (bd.1 (d.getD 0)) (by unfold eG;omega)) ?_;rintro _ L ⟨E,rfl,af,av⟩ e F7;have e:=F7.own (.row bF 1 E ((wc (xs l)).map bX)) af av;have aC:=oW af;rw[Is,List.length_map]at aC;have aH:((List.range (xs l).length).filter (hP (xs l))).length<=4096:=bI (List.length_filter_le _ _) (by grind);have loop:∀(n i:Nat) (F:I) (es:Array MapEntry) (c:Nat),i+n=E.n->dL es (((iO (xs l) 0).take i).map iP)->O F0 w F [.g A,bG (xS rb q mv C D g) ⟨0,0,xs l⟩,.ob q (.map y B),.ob mv (.map es c),.ob C (.map #[] 0),.row bF 1 E ((wc (xs l)).map bX)] [.gr g l]->
    vt.cA A g (aa rb) E (E.n:Int) (i:Int) F (y9 w D g (iO (xs l) 0) (xs l)):=by
   intro n;induction n with
   |zero=>
    intro i F es c hi M j;have ap:(iO (xs l) 0).take i=iO (xs l) 0:=fW (by rw[Iv,List.length_map];omega);rw[ap]at M;exact vt.dU (aT (a7 io) ⟨rb,q,mv,C,y,es,B,c,rfl,k,M,(j.ny [false,true,true,true,true]).forget [] us⟩)
   |succ n ih=>
    intro i F es c hi M j;have S:i<((List.range (xs l).length).filter (hP (xs l))).length:=io
    have K:((List.range (xs l).length).filter (hP (xs l)))[i]? =some (((List.range (xs l).length).filter (hP (xs l)))[i]'S):=a0 S;generalize((List.range (xs l).length).filter (hP (xs l)))[i]'S=v at K;obtain⟨an,g1,g2,g3⟩:=U6 K;have T:v<l.length:=by grind
    have gl:l[v]? =some (l[v]'T):=a0 T;generalize l[v]'T=nd at gl;have ar:nd.x=an:=by grind
    subst ar;have aG:((wc (xs l)).map bX)[i]? =some (bX (v:Int)):=by rw[Is,List.map_map,s7,K];rfl
    refine vt.dU (aR (a6 io) (acX (j.get 5) rfl aG λp hp hc=>⟨(v:Int),hc,j.ae λw9 J=>⟨_,J.ld 1 5,eJ (bd.1 (J.getD 0)) rfl gl λaL aJ am=>⟨nd.x.tx,am.c5,?_⟩⟩⟩));obtain⟨ag,ad,u1,u2,u3,u4,u5⟩:=rD va (J.ob 3) M nd.x.tx (.i (v:Int)) (by have:=ae5 hv K g1 g2;have e1:nd.x.tx=ba (bl nd.x.tx):=(jW _).symm;rw[e1,U8,this];rfl)
    have aj:=J.fy 3 (.ob mv (.map ad (c+1))) rfl (u4.mono λaM _ ac=>by simp[En.ob,ac]) u2 λb Q=>.inl Q;refine⟨ag,u1,Iq J 3 rfl u4,?_⟩;rw[bt _ io];refine ih (i+1) ag ad (c+1) io ?_ aj;have ht:(iO (xs l) 0)[i]? =some (bl nd.x.tx,v):=by rw[Iv,s7,K,<-g3];rfl
    rw[v3 ht,fv];have e2:([(bl nd.x.tx,v)]:List (List UInt8×Nat)).map iP=[(nd.x.tx,.i (v:Int))]:=by show[(ba (bl nd.x.tx),_)]=_;rw[jW]
    grind
  exact⟨_,rfl,loop E.n 0 L #[] 0 io rfl e⟩
 refine vt.aq (ai.aw λA w1 N=>⟨N.ae λW G=>G.g5 (wN W) ?_,N.ae λW G=>lP G λY H=>⟨H.g5 (wN Y) ?_,lP H λZ P=>P.g5 (wN Z) ?_⟩,N.ae λW G=>lP G λY H=>⟨H.g5 (wN Y) ?_,lP H λZ P=>P.g5 (wN Z) ?_⟩⟩);all_goals rintro _ w5 ⟨q,y,B,rfl,aI,ax,k⟩ _ F5
 all_goals have z:=F5.own (.ob q (.map y B)) ax (λb Q=>by simp[En.ob]at Q;omega)
 .refine ⟨_,rfl,lP z λh d=>lP d λL e=>e.nw λF aB j=>?_,lP z λh d=>lP d λL e=>e.nw λF aB j=>?_⟩
  .exact fin k (n7 j (vz (List.Perm.refl _)))
  .exact fin k (n7 j (vz ((List.Perm.swap _ _ _).cons _)))
 .exact ⟨_,rfl,lP z λh d=>d.nw λL aA e=>fin k (n7 e (vz (List.Perm.swap _ _ _)))⟩
 .exact ⟨_,rfl,z.nw λh az d=>fin k (n7 d (vz (List.perm_append_comm (l₁:=[_,_]) (l₂:=[_]))))⟩
 .exact ⟨_,rfl,lP z λh d=>d.nw λL aA e=>fin k (n7 e (vz (List.perm_append_comm (l₁:=[_]) (l₂:=[_,_]))))⟩
 .exact ⟨_,rfl,z.nw λh az d=>fin k (n7 d (vz (List.reverse_perm [_,_,_]).symm))⟩
inductive Lex:Nat->List UInt8->List aN->Prop
 |fin {i:Nat} {l:List UInt8}:gW (l.drop (cy false l))=.fin->Lex i l [⟨6,[],i+cy false l⟩]
 |tok {i:Nat} {l:List UInt8} {kd:Int} {t:List UInt8} {u:Nat} {L:List aN}:gW (l.drop (cy false l))=.tok kd t u->Lex (i+cy false l+u) ((l.drop (cy false l)).drop u) L->Lex i l (⟨kd,t,i+cy false l⟩::L)
def M0:∀(n i:Nat) (l:List UInt8) (L:List aN),l.length<n->lf n i l=.ok L->Lex i l L
 |0,i,l,L,q,_=>io
 |n+1,i,l,L,q,d=>by
  unfold lf at d;simp only[]at d;have x:=o5 false l;cases e:gW (l.drop (cy false l))with
  |fin=>rw[e]at d;cases d;exact .fin e
  |bad a k=>grind
  |tok z t u=>
   rw[e]at d;simp only[]at d;obtain⟨_,y,w,_⟩:=AY e;rw[i9]at w;cases h:lf n (i+cy false l+u) ((l.drop (cy false l)).drop u)with
   |bad a k=>rw[h]at d;cases d
   |ok j=>
    rw[h]at d;cases d;exact .tok e (M0 n _ _ j (by grind) h)
def aeI{i:Nat}{l:List UInt8}{L:List aN}(d:Lex i l L):∀n,l.length<n->lf n i l=.ok L:=by
 induction d with
 |fin e=>
  intro n d;obtain⟨n,rfl⟩:∃m,n=m+1:=⟨n - 1,io⟩;unfold lf
  grind
 |@tok i l w t u L e _ j=>
  intro n d;obtain⟨n,rfl⟩:∃m,n=m+1:=⟨n - 1,io⟩;unfold lf;have k:=o5 false l;obtain⟨_,q,h,_⟩:=AY e;rw[i9]at h;simp only[e,j n (by grind)];rfl
def MZ{l:List UInt8}{L:List aN}(d:tokens l=.ok L):Lex 0 l L/\l.length<=65536:=by
 unfold tokens at d;split at d
 .cases d
 .exact ⟨M0 _ _ _ _ (Nat.lt_succ_self _) d,io⟩
def of_lex{l:List UInt8}{L:List aN}(d:Lex 0 l L)(e:l.length<=65536):tokens l=.ok L:=by unfold tokens;rw[ad io];exact aeI d _ (Nat.lt_succ_self _)
def ZB{l:List UInt8}{d:UInt8}{v:Nat}(e:ef l=.ok d v):(∀r,ef (l.take v++r)=.ok d v)/\(10:UInt8)∉l.take v:=by
 have A:∀c:UInt8,cQ 16 c=true->c≠10:=λc=>nR (p:=λc=>cQ 16 c=true->c≠10) (by decide+kernel) c;cases l with
 |nil=>cases e
 |cons c l=>
  unfold ef at e;simp only at e;split at e
  .rename_i j;split at e
   .cases e
   .rename_i B;cases e;refine⟨λr=>?_,?_⟩
    .show ef (d::r)=_;unfold ef
     grind
    .simp only[List.take_succ_cons,List.take_zero,aF,aW,a2];rintro rfl
     grind
  .rename_i j;have x:(10:UInt8)≠c:=by rintro rfl;grind
   cases l with
   |nil=>cases e
   |cons h l=>
    simp only at e;split at e
    .rename_i k;cases e;refine⟨λr=>?_,?_⟩
     .show ef (c::d::r)=_;unfold ef
      grind
     .have:(10:UInt8)≠d:=by rintro rfl;grind
      grind
    .rename_i k;split at e
     .cases e
     .rename_i C;have D:(10:UInt8)≠h:=by rintro rfl;grind
      cases l with
      |nil=>cases e
      |cons q l=>
       simp only at e;split at e
       .rename_i y;cases l with
        |nil=>cases e
        |cons w l=>
         simp only at e;split at e
         .rename_i z;cases e;refine⟨λr=>?_,?_⟩
          .show ef (c::h::q::w::r)=_;unfold ef
           grind
          grind
         grind
       grind
def RV:∀(n:Nat) (l:List UInt8),l.length<n->∀(t:List UInt8) (u:Nat),qu l=.ok t u->(∀r,qu (l.take u++r)=.ok t u)/\(10:UInt8)∉l.take u
 |0,l,d=>io
 |n+1,[],_=>by intro a h d;unfold qu at d;cases d
 |n+1,c::l,D=>by
  intro t u d;by_cases j:c.toNat=34
  .unfold qu at d;rw[ag j]at d;cases d;refine⟨λr=>?_,?_⟩
   .show qu (c::r)=_;unfold qu
    grind
   .simp only[List.take_succ_cons,List.take_zero,aF,aW,a2];rintro rfl
    grind
  .rw [ye c l j]at d;cases k:ef (c::l)with
   |bad A C=>grind
   |ok B v=>
    rw[k]at d;simp only at d;have E:=Ah k;obtain⟨x,F⟩:=ZB k;cases q:qu ((c::l).drop v)with
    |bad a h=>rw[q]at d;cases d
    |ok H e=>
     rw[q]at d;cases d;obtain⟨y,G⟩:=RV n _ (by grind) _ _ q;have h:(c::l).take (v+e)=(c::l).take v++((c::l).drop v).take e:=List.take_add;refine⟨λr=>?_,?_⟩
     .rw [h,dS];have w:=x (((c::l).drop v).take e++r);have z:=y r;generalize((c::l).drop v).take e++r=X at *;obtain⟨v,rfl⟩:∃m,v=m+1:=⟨v - 1,io⟩;rw[List.take_succ_cons,iJ]at w ⊢;rw[ye _ _ j,w];simp only[List.drop_succ_cons];have hlen:(l.take v).length=v:=by grind
      rw[List.drop_append_of_le_length io,List.drop_of_length_le io,List.nil_append,z];rfl
     grind
def GG(k:Int)(r:List UInt8):Prop:=(k=0\/k=1\/k=5)\/r=[]\/∃d e,r=d::e/\mq d=true
def LW(x:UInt8):mq x=true->bw x=false:=nR (p:=λx=>mq x=true->bw x=false) (by decide+kernel) x
def aff(x:UInt8):bw x=true->x≠10:=nR (p:=λx=>bw x=true->x≠10) (by decide+kernel) x
def T3(x:UInt8):hM x=true->bw x=true/\lW x=false/\x.toNat≠59:=nR (p:=λx=>hM x=true->bw x=true/\lW x=false/\x.toNat≠59) (by decide+kernel) x
def FB:∀(t r:List UInt8),(∀d∈t,bw d=true)->(r=[]\/∃d k,r=d::k/\bw d=false)->(t++r).takeWhile bw=t
 |[],r,_,e=>by
  rcases e with rfl|⟨d,k,rfl,j⟩
  .rfl
  .simp [j]
 |c::t,r,h,e=>by rw[iJ,List.takeWhile_cons,ag (h c us),FB t r (λd j=>h d (by grind)) e]
def Nq(p:UInt8->Bool):∀l:List UInt8,l.take (l.takeWhile p).length=l.takeWhile p
 |[]=>rfl
 |c::l=>by
  rw[List.takeWhile_cons];split
  .rw [cD,List.take_succ_cons,Nq p l]
  .rfl
def Np(p:UInt8->Bool):∀(l:List UInt8),∀e∈l.takeWhile p,p e=true
 |[],e,d=>by simp at d
 |c::l,e,d=>by
  rw[List.takeWhile_cons]at d;split at d
  .rcases aF.1 d with rfl|d
   .omega
   .exact Np p l e d
  grind
structure IP(l:List UInt8)(k:Int)(t:List UInt8)(u:Nat):Prop where
 loc:∀r,GG k r->gW (l.take u++r)=.tok k t u
 ten:(10:UInt8)∉l.take u
 tail:GG k (l.drop u)
 word:(k=2\/k=3\/k=4)->l.take u=t
 kind:k=0/\t=[]\/k=1/\t=[]\/k=2\/k=3\/k=4\/k=5/\t.length<u
 skip:∀r,cy false (l.take u++r)=0
def abb{l:List UInt8}{k:Int}{t:List UInt8}{u:Nat}(d:gW l=.tok k t u):IP l k t u:=by
 cases l with
 |nil=>unfold gW at d;cases d
 |cons c l=>
  unfold gW at d;simp only at d;split at d
  .rename_i A;cases d;have q:c=40:=UInt8.toNat_inj.1 A;subst q;exact⟨λr _=>rfl,us,.inl (.inl rfl),io,.inl ⟨rfl,rfl⟩,λr=>rfl⟩
  .rename_i A;split at d
   .rename_i B;cases d;have q:c=41:=UInt8.toNat_inj.1 B;subst q;exact⟨λr _=>rfl,us,.inl (.inr (.inl rfl)),io,.inr (.inl ⟨rfl,rfl⟩),λr=>rfl⟩
   .rename_i B;split at d
    .rename_i z;have q:c=34:=UInt8.toNat_inj.1 z;subst q;split at d
     .rename_i t' E J;cases d;obtain⟨Z,q2⟩:=RV _ l (Nat.lt_succ_self _) _ _ J;have q3:=He _ l (Nat.lt_succ_self _) _ _ J;have j:(34::l).take (1+E)=34::l.take E:=by grind
      refine⟨λr _=>?_,?_,.inl (.inr (.inr rfl)),io,.inr (.inr (.inr (.inr (.inr ⟨rfl,io⟩)))),λr=>?_⟩
      .rw [j];show gW (34::(l.take E++r))=_;unfold gW
       grind
      .grind
      .rw [j];rfl
     grind
    .rename_i z;split at d
     .rename_i K;obtain⟨P,S,W⟩:=T3 c K;have x:(c::l).take ((c::l).takeWhile bw).length=(c::l).takeWhile bw:=Nq _ _;have F:=Np bw (c::l);have G:(c::l).takeWhile bw=c::l.takeWhile bw:=by rw[List.takeWhile_cons,ag P]
      have main:∀y:Int,eV ((c::l).takeWhile bw)=(y,0)->GG y ((c::l).drop ((c::l).takeWhile bw).length)->IP (c::l) y ((c::l).takeWhile bw) ((c::l).takeWhile bw).length:=by
       intro y h O;have Q:=LD h;refine⟨λr M=>?_,?_,O,λ_=>x,io,λr=>?_⟩
       .have N:r=[]\/∃e w,r=e::w/\mq e=true:=M.resolve_left io;have L:=FB _ r F (N.imp id λ⟨e,w,j,D⟩=>⟨e,w,j,LW e D⟩);rw[x];generalize(c::l).takeWhile bw=T at *;subst G;rw[iJ]at L ⊢;unfold gW;simp only;rw[ad A,ad B,ad z,ag K,L,h]
        grind
       .rw [x];exact λd=>aff _ (F _ d) rfl
       .rw [x,G];show cy false (c::_)=0;unfold cy
        grind
      cases h:eV ((c::l).takeWhile bw)with
      |mk Y j=>
       rw[h]at d;simp only at d;split at d
       .cases d
       .rename_i H;simp only[ne_eq,Decidable.not_not]at H;subst H;split at d
        .rename_i C;cases d;exact main _ h (.inr (.inl C))
        .rename_i e w C;split at d
         .rename_i D;cases d;exact main _ h (.inr (.inr ⟨e,w,C,D⟩))
         grind
     grind
structure wC(k:Int)(t:List UInt8):Prop where
 kd:0<=k/\k<=5
 i:k=4->1<=t.length/\t.length<=13/\jk 10 t
 n:k=3->∃d,(t=35::98::d/\1<=d.length/\d.length<=64/\jk 2 d)\/(t=35::120::d/\1<=d.length/\d.length<=16/\jk 16 d)
def Ef{b:Nat}(h:b=2\/b=10\/b=16){l:List UInt8}(e:l.all (cQ b)=true):jk b l:=λc j=>by
 have d:=dF.1 e c j;unfold cQ at d;unfold eR;rcases h with rfl|rfl|rfl
 .rw [ag rfl]at d;simp at d;split<;>omega
 .rw [ad dl,ad dl]at d;simp at d;split<;>omega
 .rw [ad dl,ag rfl]at d;simp at d;split<;>omega
def Im{c:UInt8}{n:Nat}(d:c.toNat=n)(e:n<256):c=c9 n:=by apply UInt8.toNat.inj;rw[d,UInt8.toNat_ofNat'];exact(Nat.mod_eq_of_lt e).symm
def LB{t:List UInt8}{k:Int}(d:eV t=(k,0)):wC k t:=by
 unfold eV at d;split at d
 .cases d
 .rename_i c l;split at d
  .split at d
   .cases d
   .split at d
    .cases d
    .cases d;exact⟨io,λd=>(by cases d),λd=>(by cases d)⟩
  .split at d
   .split at d
    .cases d
    .rename_i e;split at d
     .cases d
     .rename_i x;cases d;refine⟨io,λ_=>⟨us,io,Ef (.inr (.inl rfl)) ?_⟩,λd=>(by cases d)⟩;simp only[Bool.or_eq_true,not_or,Bool.not_eq_true,Bool.not_eq_false']at e;exact e.1
   .rename_i h;have h:c=35:=Im (n:=35) io io;unfold uR at d;split at d
    .rename_i b q r;split at d
     .rename_i j;split at d
      .rename_i e;split at d
       .cases d
       .rename_i w;cases d;refine⟨io,λd=>(by cases d),λ_=>⟨q::r,.inl ⟨by rw[h,Im j io];rfl,us,io,Ef (.inl rfl) e⟩⟩⟩
      .cases d
     .split at d
      .rename_i j;split at d
       .rename_i e;split at d
        .cases d
        .rename_i w;cases d;refine⟨io,λd=>(by cases d),λ_=>⟨q::r,.inr ⟨by rw[h,Im j io];rfl,us,io,Ef (.inr (.inr rfl)) e⟩⟩⟩
       .cases d
      .cases d
    .cases d
def Qu{l:List UInt8}{k:Int}{t:List UInt8}{u:Nat}(d:gW l=.tok k t u):wC k t:=by
 have h:∀(k:Int),(k=0\/k=1\/k=5)->∀t,wC k t:=λk x t=>⟨io,λd=>io,λd=>io⟩;cases l with
 |nil=>unfold gW at d;cases d
 |cons c l=>
  unfold gW at d;simp only[]at d;split at d
  .cases d;exact h 0 (.inl rfl) _
  split at d
  .cases d;exact h 1 (.inr (.inl rfl)) _
  split at d
  .split at d
   .cases d;exact h 5 (.inr (.inr rfl)) _
   .cases d
  split at d
  .generalize j:eV ((c::l).takeWhile bw)=q at d;obtain⟨y,w⟩:=q;split at d
   .cases d
   .rename_i e;have e:w=0:=Classical.byContradiction e;subst e;split at d
    .cases d;exact LB j
    .split at d
     .cases d;exact LB j
     .cases d
  .cases d
def MY{i:Nat}{l:List UInt8}{L:List aN}(d:Lex i l L):L.length<=l.length+1/\∀t∈L,(t.kind=6\/wC t.kind t.text)/\t.text.length<=l.length/\t.a4<=i+l.length:=by
 induction d with
 |@fin i l h=>
  have w:=o5 false l;exact⟨us,λt x=>by rw[cK.1 x];exact⟨.inl rfl,us,by show i+cy false l<=_;omega⟩⟩
 |@tok i l C t u L h _ z=>
  have w:=o5 false l;obtain⟨_,B,y,_⟩:=AY h;rw[i9]at y;obtain⟨q,k⟩:=z;simp only[i9]at q k;refine⟨by rw[cD];omega,λA j=>?_⟩;rcases aF.1 j with rfl|j
  .have e:=abb h;refine⟨.inr (Qu h),?_,by show i+cy false l<=_;omega⟩;show t.length<=l.length;rcases e.kind with⟨_,rfl⟩|⟨_,rfl⟩|d|d|d|⟨_,d⟩
   .simp
   .simp
   .have:=congrArg List.length (e.word (.inl d));rw[oa,i9]at this;omega
   .have:=congrArg List.length (e.word (.inr (.inl d)));rw[oa,i9]at this;omega
   .have:=congrArg List.length (e.word (.inr (.inr d)));rw[oa,i9]at this;omega
   .omega
  .obtain ⟨a,b,c⟩:=k A j;exact⟨a,io,io⟩
def aag{i:Nat}{l:List UInt8}{L:List aN}(q:Lex i l L):∃e t,L=e++[t]/\t.kind=6/\∀h∈e,h.kind≠6:=by
 induction q with
 |fin j=>exact⟨[],_,rfl,rfl,λh d=>(by cases d)⟩
 |@tok i l z t u L j _ y=>
  obtain⟨e,A,k,w,x⟩:=y;refine⟨_::e,A,by rw[k];rfl,w,λh d=>?_⟩;rcases aF.1 d with rfl|d
  .have:=(Qu j).kd;show z≠6;omega
  .exact x h d
def B8{l:List UInt8}{T:List aN}(d:tokens l=.ok T):hS T:=by
 obtain⟨j,x⟩:=MZ d;obtain⟨y,k⟩:=MY j;have h:∀t∈T,wC t.kind t.text\/t.kind=6:=λt e=>(k t e).1.symm;refine⟨aag j,λt e=>?_,λt e w=>?_,λt e q=>?_,io,λt e=>?_⟩
 .rcases h t e with d|d
  .have:=d.kd;omega
  .omega
 .rcases h t e with d|d
  .exact d.i w
  .omega
 .rcases h t e with d|d
  .exact d.n q
  .omega
 .obtain ⟨_,a,b⟩:=k t e;exact⟨io,io⟩
def NE{α:Type}(x:PR α):Prop:=∀d p,x=.er d p->d≠0
def gV{α:Type}{a:α}{s:aH}:NE (.ok a s):=λ_ _ d=>(by cases d)
def jF{α:Type}{e:Int}{p:Nat}(d:e≠0):NE (α:=α) (.er e p):=λ_ _ h=>(by grind)
def vi{α:Type}(t:aN):NE (α:=α) (kg t):=jF io
def eX{α β:Type}{x:PR α}{f:α->aH->PR β}(h:NE x)(e:∀a s,NE (f a s)):NE (x.b f):=by
 cases x with
 |ok a s=>exact e a s
 |er d p=>exact jF (h d p rfl)
def i3(T:List aN)(k:Int)(s:aH):NE (bU T k s):=by
 unfold bU;split
 .exact gV
 .exact vi _
def oU(T:List aN)(s:aH):NE (dw T s):=eX (i3 _ _ _) λ_ _=>gV
def Gr(T:List aN)(s:aH):NE (il T s):=by
 refine eX (i3 _ _ _) λt s=>eX (i3 _ _ _) λd s=>?_;split
 .exact vi _
 .refine eX ?_ λe s=>eX (oU _ _) λn s=>eX (i3 _ _ _) λ_ s=>?_
  .split
   .exact oU _ _
   .exact gV
  .split
   .exact gV
   .exact jF dl
def aa9(T:List aN)(s:aH):NE (rr T s):=by
 refine eX (i3 _ _ _) λt s=>?_;split
 .exact gV
 .rename_i d;exact jF d
def AW(s:aH)(n:Nx)(t:aN):NE (ej s n t):=by
 unfold ej;split
 .exact gV
 .rename_i d;exact jF d
def Gq{tm:aH->PR Nat}(d:∀s,NE (tm s)):∀(n:Nat) (s:aH),NE (gA tm n s)
 |0,_=>gV
 |n+1,s=>eX (d s) λ_ s=>eX (Gq d n s) λ_ _=>gV
def aa8(T:List aN)(w:List UInt8)(s:aH):NE (ih T w s):=by
 unfold ih;split
 .exact eX (oU _ _) λ_ _=>eX (oU _ _) λ_ _=>gV
 split
 .exact eX (Gr _ _) λ_ _=>gV
 split
 .exact eX (oU _ _) λ_ _=>eX (oU _ _) λ_ _=>gV
 split
 .exact eX (oU _ _) λ_ _=>gV
 split
 .exact eX (oU _ _) λ_ _=>gV
 split
 .exact eX (oU _ _) λ_ _=>gV
 split
 .exact eX (aa9 _ _) λ_ _=>gV
 .exact gV
def Ql{tm:b3->aH->PR Nat}(d:∀E s,NE (tm E s))(E:b3)(m:PM)(az:List Int)(s:aH):NE (h8 tm E m az s):=eX (d _ _) λ_ _=>gV
def aa'{tm:b3->aH->PR Nat}(d:∀E s,NE (tm E s))(E:b3)(s:aH):NE (ir tm E s):=by
 unfold ir;dsimp only;split
 .exact vi _
 split
 .exact jF dl
 split
 .unfold lK;split
  .exact gV
  split
  .exact gV
  split
  .split
   .exact Ql d _ _ _ _
   .exact jF dl
  .exact jF dl
 split
 .exact AW _ _ _
 split
 .exact AW _ _ _
 unfold mb;split
 .exact jF dl
 refine eX (i3 _ _ _) λe s=>?_;split
 .exact eX (eX (aa8 _ _ _) λ_ _=>eX (Gq (λs=>d _ s) _ _) λ_ _=>gV) λ_ _=>eX (i3 _ _ _) λ_ _=>AW _ _ _
 .unfold pB;split
  .exact jF dl
  .refine eX (Gq (λs=>d _ s) _ _) λ_ _=>eX (i3 _ _ _) λ_ _=>?_;split
   .exact Ql d _ _ _ _
   .exact jF dl
def Qq:∀(f:Nat) (E:b3) (s:aH),NE (dO f E s)
 |0,_,_=>jF dl
 |f+1,E,s=>aa' (Qq f) E s
def rK(x:SR):Prop:=∀d p,x=.er d p->d≠0
def AX{y:bS}:rK (.ok y):=λ_ _ d=>(by cases d)
def sQ{e:Int}{p:Nat}(d:e≠0):rK (.er e p):=λ_ _ h=>(by grind)
def kU{α:Type}{x:PR α}{y:bS}{f:α->bS->SR}(h:NE x)(e:∀a y,rK (f a y)):rK (x.s y f):=by
 cases x with
 |ok a s=>exact e a _
 |er d p=>exact sQ (h d p rfl)
def Qm(T:List aN)(x:bS):NE (vj T x):=by
 refine eX (i3 _ _ _) λt s=>?_;split
 .exact jF dl
 .exact gV
def Qn(T:List aN):∀(f:Nat) (ps:List (List UInt8×aM)) (s:aH),NE (j4 T f ps s)
 |0,_,_=>jF dl
 |f+1,ps,s=>by
  unfold j4;dsimp only;split
  .exact gV
  split
  .exact vi _
  refine eX (i3 _ _ _) λp s=>?_;split
  .exact jF dl
  .exact eX (Gr _ _) λ_ _=>eX (i3 _ _ _) λ_ _=>Qn T f _ _
def Qp(T:List aN):∀(f d:Nat) (s:aH),NE (k5 T f d s)
 |0,_,_=>jF dl
 |f+1,d,s=>by
  unfold k5;dsimp only;split
  .exact vi _
  split
  .exact vi _
  generalize(if(aK T s.p).kind=0 then d+1 else if(aK T s.p).kind=1 then d - 1 else d)=d';split
  .exact gV
  .exact Qp T f _ _
def aa7(T:List aN)(x:bS):rK (kH T x):=by
 have fin:∀(c:fM) (x:bS),rK ((bU T 1 x.s).s x λ_ x=>.ok {x with cs:=x.cs++[c]}):=λc x=>kU (i3 _ _ _) λ_ _=>AX;refine kU (i3 _ _ _) λd x=>?_;dsimp only;split
 .exact kU (Qm _ _) λ_ _=>kU (Gr _ _) λ_ _=>kU (i3 _ _ _) λ_ _=>kU (AW _ _ _) λ_ _=>AX
 split
 .refine kU (i3 _ _ _) λ_ _=>kU (Qm _ _) λ_ _=>?_;split
  .exact sQ dl
  .exact kU (Qn _ _ _ _) λ_ _=>kU (Qp _ _ _ _) λ_ _=>kU (i3 _ _ _) λ_ _=>AX
 split
 .refine kU (i3 _ _ _) λ_ _=>kU (eX (Qq _ _ _) λ_ _=>?_) λ_ _=>fin _ _;split
  .exact gV
  .exact jF dl
 split
 .exact kU (i3 _ _ _) λ_ _=>fin _ _
 split
 .exact fin _ _
 split
 .exact fin _ _
 split
 .refine kU (oU _ _) λ_ _=>?_;split
  .exact sQ dl
  .exact fin _ _
 .exact sQ dl
def Qo(T:List aN):∀(f:Nat) (x:bS),rK (hf T f x)
 |0,_=>sQ dl
 |f+1,x=>by
  unfold hf;dsimp only;split
  .exact AX
  split
  .cases e:kH T {x with s:=cN (aK T x.s.p) x.s}with
   |ok h=>exact Qo T f h
   |er d p=>exact sQ (aa7 T _ d p e)
  .exact sQ dl
def adf{M:Nat->Prop}{w0 w y z w':I}{L A D D':List En}(H:O M w0 w L D)(G:af w y)(W:y.heap.size=w.heap.size+2)(x:O (·∈L.flatMap (·.fp)) y z A (D++D'))(J:∀e∈D',∀b∈e.fp,y.heap.size<=b\/∃g∈D,b∈g.fp)(f:Fr (λb=>b=w.heap.size\/b=w.heap.size+1) z w'):O M w0 w' A (D++D'):=by
 have T:=H.fr.size;have Q:∀h∈A,∀b∈h.fp,¬(b=w.heap.size\/b=w.heap.size+1):=λh q b d K=>by
  rcases x.new h q b d with j|j
  .omega
  .have:=H.sX b j;omega
 have S:∀e∈D++D',∀b∈e.fp,¬(b=w.heap.size\/b=w.heap.size+1):=λe k b d K=>by
  rcases aP.1 k with k|k
  .have:=e.lt w (H.rd e k) b d;omega
  .rcases J e k b d with j|⟨g,P,j⟩
   .omega
   .have:=g.lt w (H.rd g P) b j;omega
 refine⟨((H.fr.gq G).trans x.fr λb d E=>?_).trans f λb d E=>io,λh q=>h.st z w' (λb d C=>f.cv b C (Q h q b d)) (x.own h q),λe k=>e.st z w' (λb d C=>f.cv b C (S e k b d)) (x.rd e k),λh q b d=>?_,x.nd,x.dj⟩
 .obtain ⟨h,q,B⟩:=b'.1 E;exact(H.new h q b B).resolve_left io
 .rcases x.new h q b d with j|j
  .omega
  .obtain ⟨F,N,B⟩:=b'.1 j;exact H.new F N b B
def _root_.Go.W.O.join{M:Nat->Prop}{w0 w w':I}{L D A B:List En}(H:O M w0 w L D)(q:O F0 w w' (A++B) []):O M w0 w' (L++A) (D++B):=by
 have J:∀e:En,e.P w->e.P w':=λe Q=>e.st w w' (λh _ N=>q.fr.cv h N id) Q;have z:∀e∈A++B,∀h∈e.fp,w.heap.size<=h:=λe d h j=>(q.new e d h j).resolve_right id;have E:=q.nd;rw[eg,fh]at E;refine⟨H.fr.gq q.fr,λe d=>?_,λe d=>?_,λe d h j=>?_,?_,λx k h j e d y=>?_⟩
 .rcases aP.1 d with d|d
  .exact J e (H.own e d)
  .exact q.own e (cm _ d)
 .rcases aP.1 d with d|d
  .exact J e (H.rd e d)
  .exact q.own e (db _ d)
 .rcases aP.1 d with d|d
  .exact H.new e d h j
  .exact .inl (bI H.fr.size (z e (cm _ d) h j))
 .rw [eg,fh];refine⟨H.nd,E.1,λa K b C=>?_⟩;obtain⟨e,d,C⟩:=b'.1 C;have F:=z e (cm _ d) b C;have G:=H.sX a K;omega
 .rcases aP.1 k with k|k
  .rcases aP.1 d with d|d
   .exact H.dj x k h j e d y
   .have F:=z e (cm _ d) h y;have G:=x.lt w (H.rd x k) h j;omega
  .rcases aP.1 d with d|d
   .have F:=z x (db _ k) h j;have G:=H.sX h (b'.2 ⟨e,d,y⟩);omega
   .exact E.2.2 h (b'.2 ⟨e,d,y⟩) h (b'.2 ⟨x,k,j⟩) rfl
def IT(w:I)(x:SR):aC:=λr d=>match x with
 |.ok k=>(∃(h:Sl) (j:List Nd) (e:Sl),r=ab (.tuple #[.agg #[h.v,e.v],.i 0,.i 0])/\GP d h j/\xs j=k.s.g/\aJ d ke 7 e (hx k.cs)/\(∀b∈(En.gr h j).fp,w.heap.size<=b\/b∈cJ.fp)/\(∀b∈aG e,w.heap.size<=b))/\af w d
 |.er q p=>r=ab (.tuple #[.agg #[.slice none 0 0,.slice none 0 0],.i (p:Int),.i q])/\af w d
def RE{w w':I}{x:SR}{e:Int}{p:Nat}(d:x=.er e p)(f:af w w'):IT w x (ab (.tuple #[.agg #[.slice none 0 0,.slice none 0 0],.i (p:Int),.i e])) w':=by subst d;exact⟨rfl,f⟩
def Ma(w:I):GP w ⟨none,0,0⟩ []:=⟨bA.nil 9 w,λe d=>by cases d⟩
def DI{N:Nat}{w:I}{s:ByteArray}(hk:cJ.P w)(hs:s.size<=1000000)(hX:∀j,tokens (bl s)=.ok j->oz N j):
  ah U q8 #[.string s] w (IT w (kY (bl s))):=by
 have ax:O F0 w w [] [.gr ⟨none,0,0⟩ [],cJ]:=bZ _ (by
  intro B he;simp only[aF,aW,a2]at he;rcases he with rfl|rfl
  .exact bd.2 (Ma w)
  .exact hk)
 have E:kY (bl s)=match tokens (bl s)with
  |.bad a B=>.er B a
  |.ok j=>hf j (j.length+1) ⟨⟨0,0,[]⟩,[],[],[]⟩:=rfl
 refine Ri.aq (ax.aw λb2 w1 H1=>?_);cases K:tokens (bl s)with
 |bad a B=>
  rw[K]at E;refine H1.av (A:=λr S=>r=ab (.tuple #[.slice none 0 0,.int .i64 (a:Int),.int .i64 B])/\B≠0) ((ML s hs w1).mono λr S hp=>by rw[K]at hp;obtain⟨h1,h2,h3⟩:=hp;exact⟨⟨h1,h2⟩,h3⟩) ?_
  rintro _ w3 ⟨rfl,h0⟩ W;exact⟨⟨none,0,0⟩,_,_,rfl,cq (λ_=>W.ae λw4 Y=>RE E Y.fr) (λh=>absurd h h0)⟩
 |ok j=>
  rw[K]at E;have hX:=hX j K;have hT:=B8 K;refine H1.g5 (A:=λr S=>∃sl:Sl,r=ab (.tuple #[sl.v,.int .i64 0,.int .i64 0])/\aJ S dz 3 sl (l1 j)/\∀b∈aG sl,w1.heap.size<=b) ((ML s hs w1).mono λr S hp=>by rw[K]at hp;obtain⟨sl,h1,h2,h3,h4⟩:=hp;exact⟨⟨sl,h1,h2,h4⟩,h3⟩) ?_
  rintro _ w3 ⟨tk,rfl,ho,am⟩ _ F3;have W:=F3.rd (.a9 3 tk (l1 j)) ho.a9 (rp am);refine⟨_,_,_,rfl,aT rfl (W.av (A:=y9 w3 tk ⟨none,0,0⟩ [] []) ((Xf (l:=[]) (Ma w3) .nil us).mono λr S h=>⟨h,by obtain⟨_,_,_,_,_,_,_,_,_,_,_,h⟩:=h;exact h.fr⟩) ?_)⟩;rintro _ w4 ⟨ad,mo,mv,mm,eo,ev,co,cv,rfl,aH,aL,HX⟩ _;have az:O F0 w3 w4 ([bG (xS ad mo mv mm tk ⟨none,0,0⟩) ⟨0,0,[]⟩,.ob mv (.map ev cv),.ob mm (.map #[] 0)]++[.ob mo (.map eo co)]) []:=n7 HX (.cons _ (List.perm_append_singleton _ [_,_]).symm);have Y:=W.join az;have Y:=Y.iH ke 7;obtain⟨z,hY⟩:∃z:mR,z=⟨xS ad mo mv mm tk ⟨none,0,0⟩,[],[],ev,cv,#[],0⟩:=⟨_,rfl⟩;obtain⟨q,L⟩:∃q:bS,q=⟨⟨0,0,[]⟩,[],[],[]⟩:=⟨_,rfl⟩;obtain⟨G,hD⟩:∃G,G=[En.gr ⟨none,0,0⟩ [],cJ,.a9 3 tk (l1 j),.ob mo (.map eo co)]:=⟨_,rfl⟩;have ai:∀ag∈G,∀b∈ag.fp,w.heap.size<=b\/b∈cJ.fp:=λag C b k=>by
   rw[hD]at C;simp only[aF,aW,a2]at C;rcases C with rfl|rfl|rfl|rfl
   .cases k
   .exact .inr k
   .exact .inl (bI H1.fr.size (rp am b k))
   .exact .inl (bI W.fr.size ((HX.new _ (ay (i:=1) rfl) b k).resolve_right id))
  have F:O F0 w w4 (cF z q++[.g b2]) G:=by rw[hY,L,hD];exact n7 Y (List.perm_append_comm (l₁:=[_]) (l₂:=[_,_,_,_]))
  have aI:0<j.length:=by obtain⟨aN,t,B,_⟩:=hT.e;rw[B];simp
  have hO:e5 (eP j q) q.s.g:=by rw[L];exact⟨hT,λac y=>(by cases y),λac y=>(by cases y),λac y=>(by cases y)⟩
  have Z:hq j z q G:=by rw[L]at hO;rw[hY,L,hD];exact⟨⟨ay (i:=2) rfl,hT⟩,⟨eo,co,ay (i:=3) rfl,aH⟩,ay (i:=1) rfl,⟨ay (i:=0) rfl,rfl,.nil,us⟩,λac y=>(by cases y),rfl,aL,rfl,rfl,rfl,rfl,hO,aI,us,us,us⟩
  have hZ:iy j q:=⟨Z.p,Z.tm,Z.gr.v,Z.ok,λc hc=>by rw[L]at hc;cases hc⟩;have E:kY (bl s)=hf j (j.length+1) q:=by rw[L];exact E
  have an:z.X.rb=ad:=by rw[hY]
  generalize y:hf j (j.length+1) q=ac at E;have aK:=ab6 (f:=F7) (first:=#[.pointer (some (aa ad))]) (qQ:=#[]) (by kernel_rfl) (p:=aa ad) (λb k=>F.sX b (by rw[eg];exact cm _ k)) (M:=(·∈(cF z q).flatMap (·.fp))) (Q:=λw1=>iR j z q G w1 ac) λw9 J z9=>by
   have:=acB hX Z hZ (Au (F.cB J));rw[y,an]at this;refine this.mono λr S h=>?_;refine⟨?_,?_,h⟩
   .unfold iR at h;split at h
    .exact .inl h.1
    .exact .inr ⟨_,_,h.1⟩
   .unfold iR at h;split at h
    .obtain ⟨_,H,ap,_,h,_⟩:=h;exact h.fr
    .exact h.2
  have aj:=F.nd;rw[eg,fh]at aj;refine⟨_,rfl,(·∈(cF z q).flatMap (·.fp)),λb k hm=>aj.2.2 b hm b (b'.2 ⟨.g b,by rw[cK.1 k];simp,by simp[En.g]⟩) rfl,aK.mono ?_⟩;rintro r ao ⟨w9,aQ,J,z9,f10,aB⟩;rcases aB with⟨rfl,D⟩|⟨B,aA,rfl,D⟩
  .unfold iR at D;split at D
   .rename_i aR;obtain⟨_,H,ap,q1,q2,q3,q4⟩:=D;have T2:=adf (Au F) J z9 q2 q4 f10;have hz:=J.size;have T3:=Av F T2 (λag C b k=>(q4 ag C b k).imp (λh=>io) id);rw[<-an,<-q1];refine⟨T2.fr,_,_,rfl,aT rfl (T3.ae λaM T=>⟨H.X.g,by rw[add_add];exact T.ld 0 2,H.X.cs,T.ld 0 3,T.ae λaO af=>?_⟩)⟩;rw[E];refine⟨⟨H.X.g,H.l,H.X.cs,rfl,bd.1 (af.rd _ q3.gr.d),q3.gr.x,af.get 3,λb k=>?_,λb k=>?_⟩,af.fr⟩
    .rcases aP.1 q3.gr.d with C|C
     .exact ai _ C b k
     .rcases q4 _ C b k with h|⟨g,hg,h⟩
      .exact .inl (by have:=F.fr.size;omega)
      .exact ai g hg b h
    .exact (af.new _ (ay (i:=3) rfl) b k).resolve_right id
   .obtain ⟨h,_⟩:=D;cases h
  .unfold iR at D;split at D
   .obtain ⟨h,_⟩:=D;cases h
   .rename_i e' p';obtain⟨h,q6⟩:=D;have aC:e'≠0:=Qo j (j.length+1) q e' p' y;have he:B=e'/\aA=p':=by simp only[Ending.panicked.injEq,List.cons.injEq,PanicEntry.mk.injEq,Value.iface.injEq,and_true,true_and]at h;simp at h;omega
    rw[he.1,he.2];have f8:Fr (·∈(cF z q).flatMap (·.fp)) w4 ao:=((J.A5.trans q6 λ_ _ h=>h).trans f10 λb k hm=>by have:=J.size;omega);have ar:O F0 w ao [.g b2] []:=Av (F.forget [] us) (CQ:=[]) (D':=[]) ⟨f8,us,us,us,us,us⟩ us;exact⟨f8,_,_,rfl,cq (λ_=>ar.ae λaM T=>RE E T.fr) (λh=>absurd h aC)⟩
set_option maxHeartbeats 2000000
namespace pM
abbrev P0:Ps:=[(0,.I),(3,.st),(4,.st),(5,.I)]
def L1:=bD (aA U Tryz.f18 [] []) [0,1,1,1,4] P0
abbrev t1:=bB L1
abbrev S3:=ai t1 [2,2,1,1,4] P0
abbrev t2:=aj S3
abbrev S2:=ai t2 [2,2,1,2,1,1,4] [(0,.I),(3,.st),(4,.st),(5,.I),(6,.I)]
abbrev t3:=aj S2
def jU:=bO t3 L1
abbrev S0:=ai t3 [3] [(0,.I),(3,.st)]
abbrev t4:=aj S0
def ok:=aB t4 FI [.I]
end pM
namespace sg
abbrev P0:Ps:=[(0,.s),(3,.s),(4,.I)]
def L0:=bD (aA U Tryz.f6 [(5,lr 7)] []) [0,1,1,1,2] P0
abbrev t1:=bB L0
abbrev S1:=ai t1 [2,2,1,1,2] P0
abbrev t2:=aj S1
def cH:=bO t2 L0
def ok:=aB t2 Oh [.s]
end sg
namespace mj
abbrev P0:Ps:=[(0,.st),(3,.st),(4,.s),(5,.I)]
def L1:=bD (aA U Tryz.f19 [(11,lr 12)] []) [0,1,1,1,3] P0
abbrev t1:=bB L1
abbrev S5:=ai t1 [2,2,1,1,3] P0
abbrev t2:=aj S5
abbrev P1:Ps:=[(0,.st),(3,.st),(4,.s),(5,.I),(6,.Y)]
abbrev S6:=ai t2 [4,2,1,2,1,1,3] P1
abbrev t3:=aj S6
abbrev S4:=ai t3 [2,2,1,2,1,1,3] P1
abbrev t4:=aj S4
abbrev S3:=ai t4 [0,1,1,1,1,2,1,2,1,1,3] P1
abbrev t5:=aj S3
abbrev S2:=ai t5 [1,2,1,2,1,1,3] P1
abbrev t6:=aj S2
def jU:=bO t6 L1
abbrev S0:=ai t6 [2] [(0,.st),(3,.st)]
abbrev t7:=aj S0
def ok:=aB t7 OG [.st]
end mj
namespace Lo
def ok:=aB (aA U Tryz.f21 [] []) OK []
end Lo
namespace Lp
def ok:=aB (aA U Tryz.f22 [] []) OL []
end Lp
namespace z1
abbrev P0:Ps:=[(1,.l [.I,.I,.I] cd),(4,.st)]
abbrev bg:=ai (aA U Tryz.f20 [] [1]) [4] P0
abbrev t1:=aj bg
abbrev aV:=ai t1 [3] P0
abbrev t2:=aj aV
def aq:=aB t2 OI [.a 3,.I,.I,.I]
end z1
namespace i0
def aX:=bD (aA U Tryz.f7 [(16,ls [1,2,0,3,4,5,6]),(21,lr 7),(25,ls [0,1,2,3,7,8,4,5,6,9,10,11])] [5]) [0,1,1,1,1,1,3,1,1,1,2] [(5,.l [.I,.s,.I,.I,.U,.st,.I,.I,.I] bP),(6,.st),(7,.I)]
abbrev t1:=bB aX
def bR:=bO t1 aX
abbrev P0:Ps:=[(0,.s),(5,.l [.I,.s,.I,.I,.U,.st,.I,.I,.I] bP),(8,.st),(9,.s),(10,.s),(11,.I)]
def l7:=bD t1 [0,1,1,1,5] P0
abbrev t2:=bB l7
abbrev cM:=ai t2 [2,2,1,1,5] P0
abbrev t3:=aj cM
abbrev P1:Ps:=[(0,.s),(5,.l [.I,.s,.I,.I,.U,.st,.I,.I,.I] bP),(8,.st),(12,.I)]
def iQ:=bD t3 [0,1,1,1,7] P1
abbrev t4:=bB iQ
abbrev lu:=ai t4 [2,2,1,1,7] P1
abbrev t5:=aj lu
def mQ:=bO t5 iQ
abbrev P2:Ps:=[(0,.s),(5,.l [.I,.s,.I,.I,.U,.st,.I,.I,.I] bP),(8,.st)]
abbrev gw:=ai t5 [7] P2
abbrev t6:=aj gw
abbrev nO:=ai t6 [0,1,3,1,1,1,6] P2
abbrev t7:=aj nO
abbrev rO:=ai t7 [4,1,1,1,6] [(0,.s),(5,.l [.I,.s,.I,.I,.U,.st,.I,.I,.I] bP),(8,.st),(85,.I)]
abbrev t8:=aj rO
def qF:=bO t8 l7
abbrev bg:=ai t8 [4] P2
abbrev t9:=aj bg
def aq:=aB t9 OJ [.s,.I]
end i0
namespace sj
abbrev P0:Ps:=[(0,.s),(3,.st),(4,.I)]
def L0:=bD (aA U Tryz.f8 [(6,lr 18)] []) [0,1,1,1,2] P0
abbrev t1:=bB L0
abbrev S1:=ai t1 [2,2,1,1,2] P0
abbrev t2:=aj S1
def cH:=bO t2 L0
def ok:=aB t2 OH [.s]
end sj
abbrev Ya:List UInt8:=[48,49,50,51,52,53,54,55,56,57]
abbrev hC:List UInt8:=Ya++[97,98,99,100,101,102]
def g6(c:UInt8):List UInt8:=if c.toNat=34\/c.toNat=92 then[92,c]else if 32<=c.toNat/\c.toNat<=126 then[c]else[92,120,hC.getD (c.toNat / 16) 0,hC.getD (c.toNat%16) 0]
def i'(l:List UInt8):List UInt8:=[34]++l.flatMap g6++[34]
def Lu(c:UInt8):1<=(g6 c).length/\(g6 c).length<=4:=by unfold g6;split<;>(try split)<;>simp
def Lw:∀l:List UInt8,l.length<=(l.flatMap g6).length/\(l.flatMap g6).length<=4 *l.length
 |[]=>us
 |c::l=>by have d:=Lu c;have e:=Lw l;rw[dI,bM,cD];omega
def Zj(c:UInt8):(bh #[48,49,50,51,52,53,54,55,56,57,97,98,99,100,101,102])[c.toNat / 16]? =some (hC.getD (c.toNat / 16) 0):=nR (p:=λc=>(bh #[48,49,50,51,52,53,54,55,56,57,97,98,99,100,101,102])[c.toNat / 16]? =some (hC.getD (c.toNat / 16) 0)) (by decide+kernel) c
def Zk(c:UInt8):(bh #[48,49,50,51,52,53,54,55,56,57,97,98,99,100,101,102])[c.toNat%16]? =some (hC.getD (c.toNat%16) 0):=nR (p:=λc=>(bh #[48,49,50,51,52,53,54,55,56,57,97,98,99,100,101,102])[c.toNat%16]? =some (hC.getD (c.toNat%16) 0)) (by decide+kernel) c
def Bb(l:List UInt8):∀u∈l.map gh,u.oneCell'=true:=λu d=>by obtain⟨c,_,rfl⟩:=List.mem_map.1 d;rfl
def abk{s:ByteArray}{k:Nat}(d:(bl s).drop k=[]):s.size<=k:=by have:=congrArg List.length d;rw[i9,dd]at this;simp at this;omega
def RY(s:ByteArray)(ae:s.size<=1000000)(w:I):ah U OG #[.string s] w λr d=>r=ab (.string (ba (i' (bl s))))/\af w d:=by
 refine mj.ok ?_;dsimp only[mj.S0,ai];refine O.fe (O.start (M:=F0) [] us) (e:=ez) (sz:=1) (n:=1) (cs:=([34]:List UInt8).map gh) rfl dl λq Q=>?_;have loop:∀(l:List UInt8) (k:Nat) (acc:List UInt8) (out:Sl) (q:I),(bl s).drop k=l->k<=s.size->acc.length<=4 *k+1->O F0 w q [.row ez 1 out (acc.map gh)] []->
   mj.L1 s (bh #[48,49,50,51,52,53,54,55,56,57,97,98,99,100,101,102]) out (k:Int) q λr d=>r=ab (.string (ba (acc++l.flatMap g6++[34])))/\af w d:=by
  intro l;induction l with
  |nil=>
   intro k acc out q F hk Y y;have:=abk F;have tn:out.n=acc.length:=by have:=aJ.len (y.get 0);simp at this;omega
   refine mj.jU (aT (a7 io) ?_);refine y.zr 0 mf (news:=([34]:List UInt8).map gh) rfl rfl (Bb _) io io λt h x=>?_;have Z:Bytes h t (acc++[34]):=by
    have:=aJ.Bs (x.get 0)
    rwa[<-fv]at this
   refine⟨_,rZ Z,?_,x.fr⟩;simp
  |cons c l ih=>
   intro k acc out q F hk Y y;obtain⟨T,aa,aj⟩:=xj F;have tn:out.n=acc.length:=by have:=aJ.len (y.get 0);simp at this;omega
   have next:∀(C:List UInt8) (j:Sl) (h:I),C=acc++g6 c->O F0 w h [.row ez 1 j (C.map gh)] []->mj.S5 s (bh #[48,49,50,51,52,53,54,55,56,57,97,98,99,100,101,102]) j (k:Int) h λr d=>r=ab (.string (ba (acc++(c::l).flatMap g6++[34])))/\af w d:=by intro C j h N x;show mj.L1 _ _ _ (aE .i64 ((k:Int)+1)) _ _;rw[bt k io];have W:=Lu c;have:=ih (k+1) C j h aa io (by rw[N,bM];omega) x;rw[N]at this;simpa[dI]using this
   refine mj.jU (aR (a6 io) ⟨io,c,by rw[cb];exact T,?_⟩);have tail:∀(pre:List UInt8) (j:Sl) (h:I),j.n<=acc.length+1->(pre=[]/\c.toNat≠34/\c.toNat≠92\/pre=[92]/\(c.toNat=34\/c.toNat=92))->O F0 w h [.row ez 1 j ((acc++pre).map gh)] []->mj.S4 s (bh #[48,49,50,51,52,53,54,55,56,57,97,98,99,100,101,102]) j (k:Int) (c.toNat:Int) h λr d=>r=ab (.string (ba (acc++(c::l).flatMap g6++[34])))/\af w d:=by
    intro pre j h hn P x;have K:¬(32<=c.toNat/\c.toNat<=126)->mj.S6 s (bh #[48,49,50,51,52,53,54,55,56,57,97,98,99,100,101,102]) j (k:Int) (c.toNat:Int) h λr d=>r=ab (.string (ba (acc++(c::l).flatMap g6++[34])))/\af w d:=λA=>by
     have ac:=c.toNat_lt;have G:aE .u8 (fj (c.toNat:Int) 16)=((c.toNat / 16:Nat):Int):=by rw[show fj (c.toNat:Int) 16=((c.toNat / 16:Nat):Int)from rfl,IntKind.wrap_u8];omega
     have H:fA (c.toNat:Int) 16=((c.toNat%16:Nat):Int):=rfl;dsimp only[mj.S6,ai];refine x.dr λw3 S=>⟨by rw[G];omega,hC.getD (c.toNat / 16) 0,by rw[G,cb];exact Zj c,by rw[H];omega,hC.getD (c.toNat%16) 0,by rw[H,cb];exact Zk c,?_⟩;refine S.zr 0 mf (news:=([92,120,hC.getD (c.toNat / 16) 0,hC.getD (c.toNat%16) 0]:List UInt8).map gh) rfl rfl (Bb _) io io λt B z=>next (acc++pre++[92,120,hC.getD (c.toNat / 16) 0,hC.getD (c.toNat%16) 0]) t B ?_ (by rw[fv];exact z)
     rcases P with⟨rfl,D,E⟩|⟨_,D⟩
     .unfold g6;rw[ad io,ad A];simp
     .exact absurd io A
    dsimp only[mj.S4,ai];refine aS (λD=>aS (λE=>?_) (λE=>K io)) (λD=>K io);refine x.zr 0 mf (news:=([c]:List UInt8).map gh) rfl rfl (Bb _) io io λt B z=>next (acc++pre++[c]) t B ?_ (by rw[fv];exact z)
    rcases P with⟨rfl,L,W⟩|⟨rfl,L⟩
    .unfold g6;rw[ad io,ag io];simp
    .unfold g6;rw[ag L];simp
   have J:(c.toNat=34\/c.toNat=92)->mj.S3 s (bh #[48,49,50,51,52,53,54,55,56,57,97,98,99,100,101,102]) out (k:Int) (c.toNat:Int) q λr d=>r=ab (.string (ba (acc++(c::l).flatMap g6++[34])))/\af w d:=λA=>
    y.zr 0 mf (news:=([92]:List UInt8).map gh) rfl rfl (Bb _) io io λt B z=>tail [92] t B (by have:=aJ.len (z.get 0);simp at this;omega) (.inr ⟨rfl,A⟩) (by rw[fv];exact z)
   refine ax (λA=>J (.inl io)) (λD=>ax (λA=>J (.inr io)) (λE=>?_));exact tail [] out q io (.inl ⟨rfl,io,io⟩) (by rw[df];exact y)
 exact loop (bl s) 0 [34] _ q rfl io us Q
def Zi(c:UInt8):cQ 16 (hC.getD (c.toNat / 16) 0)=true/\cQ 16 (hC.getD (c.toNat%16) 0)=true/\c9 (16 *eR (hC.getD (c.toNat / 16) 0)+eR (hC.getD (c.toNat%16) 0))=c:=
 nR (p:=λc=>cQ 16 (hC.getD (c.toNat / 16) 0)=true/\cQ 16 (hC.getD (c.toNat%16) 0)=true/\c9 (16 *eR (hC.getD (c.toNat / 16) 0)+eR (hC.getD (c.toNat%16) 0))=c) (by decide+kernel) c
def aco(c:UInt8)(l:List UInt8):qu (g6 c++l)=(qu l).push c (g6 c).length:=by
 unfold g6;split
 .rename_i d;show qu (92::c::l)=_;conv=>lhs;unfold qu
  rw[ad dl,ad dl];simp only[];rw[ag d];rfl
 .rename_i d;split
  .rename_i e;show qu (c::l)=_;conv=>lhs;unfold qu
   rw[ad io,ag io,ad io];rfl
  .obtain ⟨h,e,j⟩:=Zi c;generalize hC.getD (c.toNat / 16) 0=x at *;generalize hC.getD (c.toNat%16) 0=y at *;show qu (92::120::x::y::l)=_;conv=>lhs;unfold qu
   rw[ad dl,ad dl];simp only[];rw[ad dl,ad dl];simp only[h,e,if_true,j];rfl
def RW:∀(t l:List UInt8),qu (t.flatMap g6++[34]++l)=.ok t ((t.flatMap g6).length+1)
 |[],l=>by show qu (34::l)=_;unfold qu;rw[ag dl];rfl
 |c::t,l=>by rw[dI,dS,dS,aco,<-dS,RW t l,QR.push,bM,Nat.add_assoc]
def abc(t l:List UInt8):gW (i' t++l)=.tok 5 t (i' t).length:=by
 have d:i' t++l=34::(t.flatMap g6++[34]++l):=by unfold i';simp
 have e:(i' t).length=1+((t.flatMap g6).length+1):=by unfold i';simp;omega
 rw[d,e];unfold gW;simp only[];rw[ad dl,ad dl,ag dl,RW t l]
def cV(n:Nat):List UInt8:=if n<10 then[c9 (48+n)]else[c9 (48+n / 10),c9 (48+n%10)]
def hL(k:Int):List UInt8:=[[98,118],[115,116,114],[97,114,114],[97,114,115]].getD k.toNat []
def jd(s:aM):List UInt8:=40::hL s.k++(if s.k>1 then 32::cV s.x.toNat else[])++32::cV s.n.toNat++[41]
def e7(u n:Nat):List UInt8:=(List.range n).reverse.map λi=>if u.testBit i then 49 else 48
def nE:List (List UInt8):=[[],[],[],[],[110,111,116],[110,101,103],[97,110,100],[111,114],[120,111,114],[97,100,100],[109,117,108],[117,100,105,118],[117,114,101,109],[115,104,108],[108,115,104,114],[97,115,104,114],[117,108,116],[115,108,116],[101,113],[105,116,101],[99,111,110,99,97,116],[],[],[],[115,101,108,101,99,116],[115,116,111,114,101],[100,105,102,102],[108,101,110],[],[99,97,116],[115,117,98],[102,105,110,100],[114,101,112,108,97,99,101],[],[99,104,97,114]]
def k7:List (Int×List UInt8):=[(1,[110,117,109]),(3,[122,101,114,111]),(21,[101,120,116,114,97,99,116]),(22,[122,101,120,116]),(23,[115,101,120,116]),(28,[98,121,116,101]),(33,[105,110])]
def ry(op:Int)(o:List UInt8)(q:Int×List UInt8):List UInt8:=if q.1=op then q.2 else o
def dM(op:Int):List UInt8:=k7.foldl (ry op) (nE.getD op.toNat [])
def fG(d:Nx):List UInt8:=
 if d.op=21 then 32::cV d.n.toNat++32::cV d.m.toNat else
 if d.op=22\/d.op=23\/d.op=28 then 32::cV d.n.toNat else
 if d.op=33 then 32::i' (bl d.tx)else[]
def eY:Nat->List Nx->Nat->List UInt8
 |0,_,_=>[]
 |f+1,g,i=>match g[i]? with
  |none=>[]
  |some d=>
   if d.op=0 then bl d.tx else if d.op=1 then 35::98::e7 d.u.toNat d.st.n.toNat else if d.op=2 then i' (bl d.tx)else
   if d.op=3 then[40,122,101,114,111,32]++jd d.st++[41]else
   40::dM d.op++fG d++d.kids.flatMap (λe=>32::eY f g e.toNat)++[41]
abbrev TK:=Int×List UInt8
def ey(s:aM):List TK:=[(0,[]),(2,hL s.k)]++(if s.k>1 then[(4,cV s.x.toNat)]else[])++[(4,cV s.n.toNat),(1,[])]
def iE(d:Nx):List TK:=
 if d.op=21 then[(4,cV d.n.toNat),(4,cV d.m.toNat)]else
 if d.op=22\/d.op=23\/d.op=28 then[(4,cV d.n.toNat)]else
 if d.op=33 then[(5,bl d.tx)]else[]
def bY:Nat->List Nx->Nat->List TK
 |0,_,_=>[]
 |f+1,g,i=>match g[i]? with
  |none=>[]
  |some d=>
   if d.op=0 then[(2,bl d.tx)]else if d.op=1 then[(3,35::98::e7 d.u.toNat d.st.n.toNat)]else if d.op=2 then[(5,bl d.tx)]else
   if d.op=3 then[(0,[]),(2,[122,101,114,111])]++ey d.st++[(1,[])]else
   [(0,[]),(2,dM d.op)]++iE d++d.kids.flatMap (λe=>bY f g e.toNat)++[(1,[])]
def z'(r:List UInt8):Prop:=r=[]\/∃d e,r=d::e/\mq d=true
def kt(t:aN):TK:=(t.kind,t.text)
def cL(l:List UInt8)(K:List TK):Prop:=∀(r:List UInt8) (p:Nat) (e:List aN),z' r->Lex (p+l.length) r e->∃d:List aN,d.map kt=K/\Lex p (l++r) (d++e)
def kv(l:List UInt8):Prop:=∃d e,l=d::e/\mq d=true
def kv.r{l:List UInt8}(d:kv l)(r:List UInt8):z' (l++r):=by obtain⟨j,h,rfl,e⟩:=d;exact .inr ⟨j,h++r,rfl,e⟩
def m4{x:UInt8}{r:List UInt8}(d:mq x=true):kv (x::r):=⟨x,r,rfl,d⟩
def kv.app{l:List UInt8}(d:kv l)(r:List UInt8):kv (l++r):=by obtain⟨j,h,rfl,e⟩:=d;exact⟨j,h++r,rfl,e⟩
def cL.nil:cL [] []:=λr p e _ d=>⟨[],rfl,d⟩
def cL.app{e d:List UInt8}{k q:List TK}(A:cL e k)(B:cL d q)(C:kv d):cL (e++d) (k++q):=λr p j D w=>by obtain⟨h,z,F⟩:=B r (p+e.length) j D (by rw[bM,<-Nat.add_assoc]at w;exact w);obtain⟨x,y,E⟩:=A (d++r) p (h++j) (C.r r) F;exact⟨x++h,by rw[fv,y,z],by rw[dS,dS];exact E⟩
def cL.sp{l:List UInt8}{K:List TK}(z:cL l K):cL (32::l) K:=λr p h A x=>by
 obtain⟨e,y,w⟩:=z r (p+1) h A (by rw[cD]at x;rw[Nat.add_assoc,Nat.add_comm 1];exact x);refine⟨e,y,?_⟩;show Lex p (32::(l++r)) (e++h);have d:cy false (32::(l++r))=cy false (l++r)+1:=by show(if lW 32 then 1+cy false (l++r)else _)=_;rw[ag dl,Nat.add_comm]
 generalize l++r=m at w d;generalize e++h=C at w;cases w with
 |fin q=>
  have j:p+1+cy false m=p+cy false (32::m):=by rw[d];omega
  rw[j];exact .fin (by rw[d];exact q)
 |tok q k=>
  have j:p+1+cy false m=p+cy false (32::m):=by rw[d];omega
  rw[j]at k ⊢;exact .tok (by rw[d];exact q) (by rw[d];rw[d]at k;exact k)
def cL.one{l t:List UInt8}{k:Int}(w:∀r,z' r->cy false (l++r)=0)(q:∀r,z' r->gW (l++r)=.tok k t l.length):cL l [(k,t)]:=λr p h e x=>by refine⟨[⟨k,t,p⟩],rfl,?_⟩;have d:=w r e;have j:=q r e;have:Lex p (l++r) (⟨k,t,p+cy false (l++r)⟩::h):=.tok (by rw[d,List.drop_zero];exact j) (by rw[d,List.drop_zero,List.drop_left];exact x);rw[d]at this;exact this
def Fs:cL [41] [(1,[])]:=.one (λr _=>rfl) (λr _=>rfl)
def MX(t:List UInt8):cL (i' t) [(5,t)]:=.one (λr _=>rfl) (λr _=>abc t r)
def sH{t:List UInt8}{k:Int}(A:∃c l,t=c::l/\hM c=true)(B:∀d∈t,bw d=true)(z:eV t=(k,0)):cL t [(k,t)]:=by
 obtain⟨c,l,rfl,e⟩:=A;obtain⟨_,C,s3⟩:=T3 c e;have q:c.toNat≠40/\c.toNat≠41/\c.toNat≠34:=by have:∀c:UInt8,hM c=true->c.toNat≠40/\c.toNat≠41/\c.toNat≠34:=λc=>nR (p:=λc=>hM c=true->c.toNat≠40/\c.toNat≠41/\c.toNat≠34) (by decide+kernel) c;exact this c e
 refine .one (λr _=>?_) (λr w=>?_)
 .show (if lW c then _ else if c.toNat=59 then _ else 0)=0;rw[ad (by rw[C];simp),ad s3]
 .have h:((c::l)++r).takeWhile bw=c::l:=FB (c::l) r B (by
   rcases w with rfl|⟨d,x,rfl,j⟩
   .exact .inl rfl
   .exact .inr ⟨d,x,rfl,LW d j⟩)
  show gW (c::(l++r))=_;unfold gW;simp only[];rw[ad q.1,ad q.2.1,ad q.2.2,ag e];have h:(c::(l++r)).takeWhile bw=c::l:=h;rw[h,z];have y:(c::(l++r)).drop (c::l).length=r:=by show((c::l)++r).drop (c::l).length=r;exact List.drop_left
  simp only[y];rcases w with rfl|⟨d,x,rfl,j⟩
  .rfl
  .simp only[j];rfl
structure CT(G:List Nx)(d:Nx):Prop where
 ok:rP G d
 op:0<=d.op/\d.op<=34
 st:bx d.st=true
 nm:d.op=0->jE (bl d.tx)=true
 nu:d.op=1->d.st.k=0/\mU d.u d.st.n=false
 n1:d.op=21->0<=d.m/\d.m<=d.n/\d.n<=63
 n2:d.op=22\/d.op=23\/d.op=28->0<=d.n/\d.n<=64
 re:d.op=33->mW d.tx=true
def tH{g:List Nx}(j:Vg g){i:Nat}{d:Nx}(hd:g[i]? =some d):CT (g.take i) d:=by
 have e:=j.ok i d hd;have h:=j.ti i d hd;have A:=j.val d (ay hd);have G:∀q,q<d.kids.length->bx (a8 (g.take i) d q)=true:=λq F=>MK (λB E=>j.val B (List.mem_of_mem_take E)) h.ki F;have y:=h.kl;have z:0<=d.op/\d.op<=34:=by unfold ck at y;omega
 unfold bo at e;split at e
 .grind
 split at e
 .rename_i D;refine⟨h,z,A,λH=>?_,λw=>?_,λe=>io,λe=>io,λe=>io⟩
  .unfold b6 at e
   grind
  .unfold b6 at e
   grind
 .rename_i D;split at e
  .grind
  rename_i L;split at e
  .grind
  rename_i k;split at e
  .grind
  rename_i K;have k:jb d (a8 (g.take i) d 0) (a8 (g.take i) d 1) (a8 (g.take i) d 2)=true:=by grind
  have x:d.op=21\/d.op=22\/d.op=23\/d.op=28->(a8 (g.take i) d 0).n<=64/\0<=(a8 (g.take i) d 0).n:=λM=>by
   have:=G 0 (by unfold ck at y;omega);unfold bx at this
   grind
  refine⟨h,z,A,λe=>io,λe=>io,λw=>?_,λC=>?_,λJ=>?_⟩
  .have:=x (.inl w);unfold jb at k
   grind
  .have:=x (.inr C);unfold jb at k
   grind
  grind
def X2:∀n<100,(∃c l,cV n=c::l/\hM c=true)/\(∀d∈cV n,bw d=true)/\eV (cV n)=(4,0):=by
 have e:∀n<100,((cV n).head?.any hM&&(cV n).all bw&&ak (eV (cV n)=(4,0)))=true:=by decide+kernel
 intro n h;have:=e n h;simp only[bf,decide_eq_true_eq]at this;refine⟨?_,λd j=>dF.1 this.1.2 d j,this.2⟩;cases k:cV n with
 |nil=>grind
 |cons c l=>grind
def xr{n:Nat}(d:n<100):cL (cV n) [(4,cV n)]:=by obtain⟨a,b,c⟩:=X2 n d;exact sH a b c
def Jq{u n:Nat}{x:UInt8}(d:x∈e7 u n):x=48\/x=49:=by
 obtain⟨i,_,rfl⟩:=List.mem_map.1 d
 grind
def px(u n:Nat):(e7 u n).length=n:=by unfold e7;simp
def aab{u n:Nat}(j:1<=n)(k:n<=64):cL (35::98::e7 u n) [(3,35::98::e7 u n)]:=by
 have w:=px u n;have q:(e7 u n).all (cQ 2)=true:=dF.2 λe d=>by rcases Jq d with rfl|rfl<;>decide
 have x:∀e∈e7 u n,bw e=true:=λe d=>by rcases Jq d with rfl|rfl<;>decide
 refine sH ⟨_,_,rfl,dl⟩ (λe d=>?_) ?_
 .rcases aF.1 d with rfl|d
  .decide
  .rcases aF.1 d with rfl|d
   .decide
   grind
 .generalize e7 u n=b at *;cases b with
  |nil=>grind
  |cons h r=>
   unfold eV;simp only[];rw[ad dl,ad dl];unfold uR
   grind
def aad{t:List UInt8}(e:jE t=true):cL t [(2,t)]:=by
 unfold jE at e;cases t with
 |nil=>cases e
 |cons c m=>
  simp only[bf,decide_eq_true_eq]at e;obtain⟨⟨w,j⟩,x⟩:=e;have z:pX c=true:=j;have q:∀d:UInt8,dZ d=true->bw d=true/\d.toNat≠35:=λd=>nR (p:=λd=>dZ d=true->bw d=true/\d.toNat≠35) (by decide+kernel) d;have y:dZ c=true:=by unfold dZ;grind
  have k:∀d∈c::m,dZ d=true:=λd h=>by grind
  refine sH ⟨c,m,rfl,by unfold hM;grind⟩ (λd h=>(q d (k d h)).1) ?_;unfold eV
  grind
def abV{op:Int}(j:4<=op)(k:op<=34):(∃c l,dM op=c::l/\hM c=true)/\(∀d∈dM op,bw d=true)/\eV (dM op)=(2,0):=by
 have e:∀n<31,((dM ((n+4:Nat):Int)).head?.any hM&&(dM ((n+4:Nat):Int)).all bw&&ak (eV (dM ((n+4:Nat):Int))=(2,0)))=true:=by decide+kernel
 have:=e (op - 4).toNat io;rw[show(((op - 4).toNat+4:Nat):Int)=op by omega]at this;simp only[bf,decide_eq_true_eq]at this;refine⟨?_,λd h=>dF.1 this.1.2 d h,this.2⟩;cases q:dM op with
 |nil=>grind
 |cons c l=>grind
def aae{op:Int}(d:4<=op)(e:op<=34):cL (dM op) [(2,dM op)]:=by obtain⟨a,b,c⟩:=abV d e;exact sH a b c
def adK{k:Int}(d:0<=k)(e:k<=3):cL (hL k) [(2,hL k)]:=by
 have:k=0\/k=1\/k=2\/k=3:=io
 rcases this with rfl|rfl|rfl|rfl<;>exact sH ⟨_,_,rfl,dl⟩ dl dl
def tG{s:aM}(d:bx s=true):0<=s.k/\s.k<=3/\0<=s.n/\s.n<=64/\0<=s.x/\s.x<=16:=by
 unfold bx at d
 grind
def aaf{s:aM}(j:bx s=true):cL (jd s) (ey s):=by
 obtain⟨a,b,c,E,F,f⟩:=tG j;unfold jd ey;have B:=adK a b;have y:cL (32::cV s.n.toNat) [(4,cV s.n.toNat)]:=(xr io).sp;have w:kv (32::cV s.n.toNat):=m4 dl;have q:kv [41]:=m4 dl;have C:cL (40::hL s.k++(if s.k>1 then 32::cV s.x.toNat else[])) ([(0,[]),(2,hL s.k)]++(if s.k>1 then[(4,cV s.x.toNat)]else[])):=by
  have z:cL (40::hL s.k) [(0,[]),(2,hL s.k)]:=by intro r p e A G;obtain⟨d,h,D⟩:=B r (p+1) e A (by grind);refine⟨⟨0,[],p⟩::d,by rw[nr,h];rfl,?_⟩;exact .tok (i:=p) (l:=40::(hL s.k++r)) (u:=1) rfl D
  split
  .exact z.app (xr io).sp (m4 dl)
  grind
 have:=(C.app y w).app Fs q
 grind
def aac{G:List Nx}{d:Nx}(e:CT G d):cL (fG d) (iE d)/\(fG d=[]\/kv (fG d)):=by
 unfold fG iE;split
 .rename_i h;obtain⟨a,b,c⟩:=e.n1 h;exact⟨(xr io).sp.app (xr io).sp (m4 dl),.inr (m4 dl)⟩
 split
 .rename_i j;obtain⟨a,b⟩:=e.n2 io;exact⟨(xr io).sp,.inr (m4 dl)⟩
 split
 .exact ⟨(MX _).sp,.inr (m4 dl)⟩
 .exact ⟨.nil,.inl rfl⟩
def Gz{g:List Nx}(C:Vg g):∀(f i:Nat),i<f->i<g.length->cL (eY f g i) (bY f g i)
 |0,i,H,_=>absurd H io
 |f+1,i,H,A=>by
  have w:g[i]? =some (g[i]'A):=a0 A;generalize g[i]'A=d at w;have h:=tH C w;unfold eY bY;rw[w];dsimp only;split
  .rename_i L;exact aad (h.nm L)
  split
  .rename_i z;obtain⟨k0,_⟩:=h.nu z;have:=h.st;unfold bx at this;simp at this;exact aab io io
  split
  .exact MX _
  split
  .have W:cL [40,122,101,114,111] [(0,[]),(2,[122,101,114,111])]:=by intro r p y B M;obtain⟨x,j,G⟩:=(sH (t:=[122,101,114,111]) (k:=2) ⟨_,_,rfl,dl⟩ dl dl) r (p+1) y B io;refine⟨⟨0,[],p⟩::x,by rw[nr,j];rfl,?_⟩;exact .tok (i:=p) (l:=40::([122,101,114,111]++r)) (u:=1) rfl G
   have S:cL (32::jd d.st) (ey d.st):=(aaf h.st).sp;have:=(W.app S (m4 dl)).app Fs (m4 dl);simpa using this
  .rename_i aa a1 a2 a3;have Q:=h.op;have T:=aae (op:=d.op) io Q.2;have O:cL (40::dM d.op) [(0,[]),(2,dM d.op)]:=by intro r p y B M;obtain⟨x,j,G⟩:=T r (p+1) y B (by grind);refine⟨⟨0,[],p⟩::x,by rw[nr,j];rfl,?_⟩;exact .tok (i:=p) (l:=40::(dM d.op++r)) (u:=1) rfl G
   have P:cL (40::dM d.op++fG d) ([(0,[]),(2,dM d.op)]++iE d):=by
    obtain⟨m1,F⟩:=aac h;rcases F with ac|F
    .have:iE d=[]:=by
      unfold fG iE at *
      grind
     grind
    .exact O.app m1 F
   have q:∀(ks:List Int),(∀e∈ks,0<=e/\e<(i:Int))->cL (ks.flatMap λe=>32::eY f g e.toNat) (ks.flatMap λe=>bY f g e.toNat)/\((ks.flatMap λe=>32::eY f g e.toNat)=[]/\(ks.flatMap λe=>bY f g e.toNat)=[]\/kv (ks.flatMap λe=>32::eY f g e.toNat)):=by
    intro ks;induction ks with
    |nil=>intro _;exact⟨.nil,.inl ⟨rfl,rfl⟩⟩
    |cons e ks Z=>
     intro J;have ad:=J e nq;obtain⟨Y,D⟩:=Z λe q=>J e (dJ _ q);have z:cL (32::eY f g e.toNat) (bY f g e.toNat):=(Gz C f e.toNat io io).sp;rw[dI,dI];refine⟨?_,.inr (kv.app (m4 dl) _)⟩;rcases D with⟨j,K⟩|D
     .grind
     .exact z.app Y D
   obtain⟨k1,E⟩:=q d.kids λe q=>by have:=C.kids w e q;omega
   have N:cL (40::dM d.op++fG d++d.kids.flatMap λe=>32::eY f g e.toNat) ([(0,[]),(2,dM d.op)]++iE d++d.kids.flatMap λe=>bY f g e.toNat):=by
    rcases E with⟨j,K⟩|E
    .grind
    .exact P.app k1 E
   have:=N.app Fs (m4 dl);omega
def dA(d:Nx)(ks:List Int):Nx:={d with kids:=ks,st:=if d.op=1\/d.op=3 then d.st else a5}
def fa(F:Nat->List Nx->Option (Nat×List Nx)):List Int->List Nx->Option (List Int×List Nx)
 |[],d=>some ([],d)
 |e::h,d=>(F e.toNat d).bind λa=>(fa F h a.2).map λl=>((a.1:Int)::l.1,l.2)
def dT(vs:List (List UInt8×Nat))(g:List Nx):Nat->Nat->List Nx->Option (Nat×List Nx)
 |0,_,_=>none
 |f+1,i,e=>(g[i]?).bind λd=>
  if d.op=0 then(lk vs (bl d.tx)).map λh=>(h,e)else
  (fa (dT vs g f) d.kids e).bind λa=>if(a3 a.2 (dA d a.1)).2.2=0 then some ((a3 a.2 (dA d a.1)).2.1.toNat,(a3 a.2 (dA d a.1)).1)else none
def cG(T:List aN)(p:Nat)(K:List TK):Prop:=∃r,(T.drop p).map kt=K++r
def cG.app{T:List aN}{p:Nat}{e h:List TK}(d:cG T p (e++h)):cG T p e/\cG T (p+e.length) h:=by obtain⟨r,d⟩:=d;rw[dS]at d;refine⟨⟨_,d⟩,r,?_⟩;have:=congrArg (List.drop e.length) d;rw[List.drop_left,<-List.map_drop,List.drop_drop]at this;exact this
def cG.cons{T:List aN}{p:Nat}{k:Int}{t:List UInt8}{K:List TK}(d:cG T p ((k,t)::K)):(aK T p).kind=k/\(aK T p).text=t/\p<T.length/\cG T (p+1) K:=by
 obtain⟨r,d⟩:=d;have j:p<T.length:=by
  rcases Nat.lt_or_ge p T.length with e|e
  .exact e
  .rw [List.drop_of_length_le e]at d;cases d
 rw[List.drop_eq_getElem_cons j,nr,iJ,List.cons.injEq]at d;have q:aK T p=T[p]:=by unfold aK;rw[List.getD_eq_getElem?_getD,a0 j];rfl
 rw[q];have h:=d.1;unfold kt at h;exact⟨congrArg Prod.fst h,congrArg Prod.snd h,j,⟨r,d.2⟩⟩
section
variable {T:List aN} {s:aH}
def rT{t:aN}(d:t.kind≠6):cN t s={s with p:=s.p+1}:=ad d
def iG{k:Int}{t:List UInt8}{K:List TK}(e:cG T s.p ((k,t)::K))(h:k≠6):bU T k s=.ok (aK T s.p) {s with p:=s.p+1}/\(aK T s.p).text=t/\cG T (s.p+1) K:=by obtain⟨a,b,c,d⟩:=e.cons;refine⟨?_,b,d⟩;unfold bU;rw[ag a,rT (by rw[a];exact h)]
def Zu{t:List UInt8}{K:List TK}(d:cG T s.p ((4,t)::K)):dw T s=.ok ((dm 10 t:Nat):Int) {s with p:=s.p+1}/\cG T (s.p+1) K:=by obtain⟨a,b,c⟩:=iG d dl;unfold dw;rw[a];show PR.ok _ _=_/\_;rw[b];exact⟨rfl,c⟩
def X3:∀n<100,dm 10 (cV n)=n:=by decide+kernel
def wX{n:Int}{K:List TK}(d:cG T s.p ((4,cV n.toNat)::K))(e:0<=n)(h:n<100):dw T s=.ok n {s with p:=s.p+1}/\cG T (s.p+1) K:=by obtain⟨a,b⟩:=Zu d;rw[X3 _ io,Int.toNat_of_nonneg e]at a;exact⟨a,b⟩
def adM:∀k<4,vQ (hL ((k:Nat):Int))=some ((k:Nat):Int):=dl
def HU{d:aM}{K:List TK}(q:bx d=true)(j:cG T s.p (ey d++K)):il T s=.ok d {s with p:=s.p+(ey d).length}/\cG T (s.p+(ey d).length) K:=by
 obtain⟨a,b,c,S,F,f⟩:=tG q;have L:¬d.k>1->d.x=0:=λh=>by unfold bx at q;simp at q;omega
 refine⟨?_,j.app.2⟩;unfold ey at j;have j:cG T s.p ((0,[])::(2,hL d.k)::((if d.k>1 then[(4,cV d.x.toNat)]else[])++((4,cV d.n.toNat)::(1,[])::K))):=by simpa using j
 obtain⟨M,_,P⟩:=iG j dl;obtain⟨N,B,y⟩:=iG (s:={s with p:=s.p+1}) P dl;have D:=adM d.k.toNat io;rw[Int.toNat_of_nonneg a]at D;unfold il;rw[M];show PR.b (bU T 2 {s with p:=s.p+1}) _=_;rw[N];show(match vQ (aK T (s.p+1)).text with
  |none=>kg (aK T (s.p+1))
  |some w=>(if w=2\/w=3 then dw T {s with p:=s.p+1+1}else .ok 0 {s with p:=s.p+1+1}).b λx e=>(dw T e).b λn e=>(bU T 1 e).b λ_ e=>
   if bx ⟨w,n,x⟩then .ok (⟨w,n,x⟩:aM) e else .er 9 (aK T s.p).a4)=_
 have B:(aK T (s.p+1)).text=hL d.k:=B;rw[B,D];dsimp only;have fin:∀(e:aH) (x:Int),x=d.x->e.tm=s.tm->e.g=s.g->e.p+2=s.p+(ey d).length->cG T e.p ((4,cV d.n.toNat)::(1,[])::K)->((dw T e).b λn e=>(bU T 1 e).b λ_ e=>if bx ⟨d.k,n,x⟩then PR.ok (⟨d.k,n,x⟩:aM) e else .er 9 (aK T s.p).a4)=.ok d {s with p:=s.p+(ey d).length}:=by intro e x J E C H G;obtain⟨z,A⟩:=wX G c io;obtain⟨O,_,W⟩:=iG (s:={e with p:=e.p+1}) A dl;rw[z];show PR.b (bU T 1 {e with p:=e.p+1}) _=_;rw[O];subst J;show(if bx d=true then PR.ok d {e with p:=e.p+1+1}else _)=_;rw[ag q];obtain⟨Q,st,Y⟩:=e;dsimp only at E C H ⊢;subst E C;rw[show Q+1+1=s.p+(ey d).length by omega]
 by_cases h:d.k>1
 .rw [ag (show d.k=2\/d.k=3 by omega)];rw[ag h]at y;obtain⟨z,A⟩:=wX (s:={s with p:=s.p+1+1}) y F io;rw[z];exact fin {s with p:=s.p+1+1+1} d.x rfl rfl rfl (by unfold ey;rw[ag h];simp) A
 .rw [ad (show ¬(d.k=2\/d.k=3)by omega)];rw[ad h]at y;exact fin {s with p:=s.p+1+1} 0 (L h).symm rfl rfl (by unfold ey;rw[ad h];simp) y
def SI{t:List UInt8}(d:jH t=true):gZ t=(t,0):=by
 unfold jH at d;unfold gZ;cases h:Nat.blt 4096 t.length with
 |true=>rw[h]at d;cases d
 |false=>
  rw[h]at d;have:¬4096<t.length:=λe=>by rw[<-Nat.blt_eq,h]at e;cases e
  rw[ad this];dsimp only[cond_false]at d;cases q:h4 t with
  |inl a=>rw[q]at d;cases d
  |inr k=>
   rw[q]at d;dsimp only at d ⊢;cases j:Nat.blt 64 (cO k.tp).sz with
   |true=>rw[j]at d;cases d
   |false=>
    rw[j]at d;have:¬64<(cO k.tp).sz:=λe=>by rw[<-Nat.blt_eq,j]at e;cases e
    rw[ad this];split at d
    .rename_i w;rw[ag w];split at d
     .rename_i x;rw[ag x,eq_of_beq d]
     .cases d
    .cases d
end
def A4(w:List UInt8):Bool:=ak (w≠[110,117,109])&&ak (w≠[122,101,114,111])&&ak (w≠[101,120,116,114,97,99,116])&&ak (w≠[122,101,120,116])&&ak (w≠[115,101,120,116])&&ak (w≠[98,121,116,101])&&ak (w≠[105,110])
def QU:∀n<31,((n+4=21\/n+4=22\/n+4=23\/n+4=28\/n+4=33)\/A4 (dM ((n+4:Nat):Int))=true/\lk fI (dM ((n+4:Nat):Int))=some (((n+4:Nat):Int),(ck ((n+4:Nat):Int)).toNat))/\jy (dM ((n+4:Nat):Int))=true:=by decide+kernel
section
variable {T:List aN} {s:aH}
def Ze{G:List Nx}{d:Nx}(hd:CT G d)(h4:4<=d.op){K:List TK}(e:cG T s.p (iE d++K)):ih T (dM d.op) s=.ok (dA d [],d.kids.length) {s with p:=s.p+(iE d).length}/\cG T (s.p+(iE d).length) K:=by
 refine⟨?_,e.app.2⟩;have ac:=hd.op;have B:=hd.ok.ok;have aa:=hd.ok.kl;have S:d.kids.length=(ck d.op).toNat:=io
 rw[S];obtain⟨op,kids,n,m,u,h,st⟩:=d;dsimp only at *;unfold fU at B;simp only[bf,Bool.or_eq_true,beq_iff_eq,decide_eq_true_eq]at B;obtain⟨⟨⟨W,E⟩,o3⟩,Y⟩:=B;have hu:u=0:=io
 have O:dA ⟨op,kids,n,m,u,h,st⟩ []=⟨op,[],n,m,0,h,a5⟩:=by
  unfold dA
  grind
 rw[O];have mk:iE ⟨op,kids,n,m,u,h,st⟩=if op=21 then[(4,cV n.toNat),(4,cV m.toNat)]else if op=22\/op=23\/op=28 then[(4,cV n.toNat)]else if op=33 then[(5,bl h)]else[]:=rfl;generalize iE ⟨op,kids,n,m,u,h,st⟩=mid at mk e ⊢;have D:¬(op=0\/op=2\/op=33)->h=ba []:=λe=>Y.resolve_left (by unfold m7;grind);have my:¬(op=21\/op=22\/op=23\/op=28)->n=0:=λe=>W.resolve_left (by unfold m6;grind);have one:∀(w:List UInt8),(op=22\/op=23\/op=28)->(dw T s).b (λn s=>.ok ((⟨op,[],n,0,0,ba [],a5⟩:Nx),1) s)=.ok (⟨op,[],n,m,0,h,a5⟩,(ck op).toNat) {s with p:=s.p+mid.length}:=λw A=>by
  rw[ad io,ag A]at mk;rw[mk]at e ⊢;obtain⟨j,q⟩:=hd.n2 A;have j:0<=n:=j;have q:n<=64:=q;obtain⟨k,_⟩:=wX e j io;rw[k,D io,E.resolve_left io];have Q:(ck op).toNat=1:=by rcases A with rfl|rfl|rfl<;>decide
  rw[Q];rfl
 by_cases x:op=21
 .rw [ag x]at mk;rw[mk]at e ⊢;subst x;obtain⟨j,q,F⟩:=hd.n1 rfl;have j:0<=m:=j;have q:m<=n:=q;have F:n<=63:=F;obtain⟨k,Z⟩:=wX (s:=s) e io io;obtain⟨H,r2⟩:=wX (s:={s with p:=s.p+1}) Z j io;show PR.b (dw T s) (λn s=>(dw T s).b λm s=>.ok ((⟨21,[],n,m,0,ba [],a5⟩:Nx),1) s)=_;rw[k];show PR.b (dw T {s with p:=s.p+1}) _=_;rw[H,D io];rfl
 by_cases L:op=22
 .subst L;exact one [] (.inl rfl)
 by_cases M:op=23
 .subst M;exact one [] (.inr (.inl rfl))
 by_cases N:op=28
 .subst N;exact one [] (.inr (.inr rfl))
 by_cases z:op=33
 .rw [ad x,ad io,ag z]at mk;rw[mk]at e ⊢;subst z;obtain⟨k,t1,_⟩:=iG (s:=s) e dl;have P:jH (bl h)=true:=hd.re rfl;show PR.b (PR.b (bU T 5 s) _) (λr s=>.ok ((⟨33,[],0,0,0,ba r,a5⟩:Nx),1) s)=_;rw[k];show PR.b (if(gZ (aK T s.p).text).2=0 then PR.ok (gZ (aK T s.p).text).1 {s with p:=s.p+1}else .er (gZ (aK T s.p).text).2 (aK T s.p).a4) _=_;rw[t1,SI P,my io,E.resolve_left io];rw[ag rfl];show PR.ok ((⟨33,[],0,0,0,ba (bl h),a5⟩:Nx),1) _=_;rw[jW];rfl
 .rw [ad x,ad io,ad z]at mk;rw[mk]at e ⊢;have C:=(QU (op - 4).toNat io).1;rw[show(((op - 4).toNat+4:Nat):Int)=op by omega]at C;rcases C with C|⟨y,J⟩
  .omega
  .unfold A4 at y;simp only[bf,decide_eq_true_eq]at y;obtain⟨⟨⟨⟨⟨⟨w1,w2⟩,w3⟩,w4⟩,w5⟩,w6⟩,w7⟩:=y;unfold ih;rw[ad w1,ad w2,ad w3,ad w4,ad w5,ad w6,ad w7,J,D io,my io,E.resolve_left io];rfl
def Zz{op:Int}(d:4<=op)(e:op<=34):jy (dM op)=true:=by
 have:=(QU (op - 4).toNat io).2
 grind
end
def QK(u:Nat):∀(n k:Nat),k<=n->u<2^n->dm 2 ((e7 u n).take k)=u / 2^(n - k)
 |n,0,_,e=>by rw[List.take_zero,Nat.sub_zero,Nat.div_eq_of_lt e];rfl
 |n,k+1,w,e=>by
  have h:=QK u n k io e;have x:=px u n;have q:(e7 u n)[k]? =some (if u.testBit (n - 1 - k)then 49 else 48):=by
   unfold e7
   grind
  rw[ha,q];unfold dm at h ⊢;rw[List.foldl_append,h];show 2 *(u / 2^(n - k))+eR (if u.testBit (n - 1 - k)then 49 else 48)=_;have j:u / 2^(n - k)=u / 2^(n - 1 - k) / 2:=by rw[Nat.div_div_eq_div_mul,<-Nat.pow_succ,show(n - 1 - k).succ=n - k by omega]
  rw[j,show n - (k+1)=n - 1 - k by omega,Nat.testBit_eq_decide_div_mod_eq];have d:u / 2^(n - 1 - k)%2=0\/u / 2^(n - 1 - k)%2=1:=io
  rcases d with d|d<;>rw[d]
  .show _+0=_;omega
  .show _+1=_;omega
def Wn{u n:Int}(d:mU u n=false)(e:0<=u)(j:u<18446744073709551616)(h:1<=n/\n<=64):u.toNat<2^n.toNat:=by
 unfold mU at d
 grind
def R7{g:List Nx}(hv:Vg g)(hu:∀d∈g,0<=d.u/\d.u<18446744073709551616):∀(n f i:Nat) (E:b3) (s:aH) (k:Nat) (G:List Nx),i<n->i<g.length->dT E.vs g n i s.g=some (k,G)->cG E.T s.p (bY n g i)->(bY n g i).length<=f->E.dp+i<64->s.tm+ct n g i<=65536->(∀d∈g,d.op=0->lk E.pm (bl d.tx)=none)->
  dO f E s=.ok k ⟨s.p+(bY n g i).length,s.tm+ct n g i,G⟩
 |0,f,i,E,s,k,G,ac,_,_,_,_,_,_,_=>absurd ac io
 |n+1,f,i,E,s,k,G,ac,Z,j,hK,hf,aJ,aV,aw=>by
  have F:g[i]? =some (g[i]'Z):=a0 Z;generalize g[i]'Z=d at F;have ap:=ay F;have y:=tH hv F;have av:=y.op;have an:=y.ok.kl;have am:=λk H=>hv.kids F k H;unfold dT at j;rw[F]at j;have j:(if d.op=0 then(lk E.vs (bl d.tx)).map λk=>(k,s.g)else(fa (dT E.vs g n) d.kids s.g).bind λa=>if(a3 a.2 (dA d a.1)).2.2=0 then some ((a3 a.2 (dA d a.1)).2.1.toNat,(a3 a.2 (dA d a.1)).1)else none)=some (k,G):=j;have ax:ct (n+1) g i=d.kids.foldl (λC k=>C+ct n g k.toNat) 1:=by
   conv=>lhs;unfold ct
   rw[F]
  have q:bY (n+1) g i=if d.op=0 then[(2,bl d.tx)]else if d.op=1 then[(3,35::98::e7 d.u.toNat d.st.n.toNat)]else if d.op=2 then[(5,bl d.tx)]else
   if d.op=3 then[(0,[]),(2,[122,101,114,111])]++ey d.st++[(1,[])]else
   [(0,[]),(2,dM d.op)]++iE d++d.kids.flatMap (λk=>bY n g k.toNat)++[(1,[])]:=by
   conv=>lhs;unfold bY
   rw[F]
  rw[fold_add]at ax;generalize aG:ct (n+1) g i=SZ at *;generalize aI:bY (n+1) g i=TKN at *;have aS:1<=TKN.length:=by grind
  obtain⟨f,rfl⟩:∃f',f=f'+1:=⟨f - 1,io⟩;show ir (dO f) E s=_;have S:d.op<=3->d.kids=[]:=λL=>by
   have:ck d.op=0:=by unfold ck;omega
   rw[this]at an;exact List.length_eq_zero_iff.1 io
  have aX:d.op<=3->SZ=1:=λL=>by grind
  have start:∀(kd:Int) (M:List UInt8) (K:List TK),TKN=(kd,M)::K->kd≠1->kd≠4->kd≠6->(aK E.T s.p).kind=kd/\(aK E.T s.p).text=M/\cG E.T (s.p+1) K/\
    ir (dO f) E s=if kd=2 then lK (dO f) E (aK E.T s.p) {s with p:=s.p+1,tm:=s.tm+1}else if kd=3 then ej {s with p:=s.p+1,tm:=s.tm+1} (hE (aK E.T s.p).text) (aK E.T s.p)else
     if kd=5 then ej {s with p:=s.p+1,tm:=s.tm+1} ⟨2,[],0,0,0,ba (aK E.T s.p).text,a5⟩ (aK E.T s.p)else mb (dO f) E (aK E.T s.p) {s with p:=s.p+1,tm:=s.tm+1}:=λkd M K w h h4 h6=>by rw[w]at hK;obtain⟨a,b,c,A⟩:=hK.cons;refine⟨a,b,A,?_⟩;unfold ir;dsimp only;rw[ad io,ad io,rT io,a]
  by_cases h0:d.op=0
  .rw [ag h0]at j q;obtain⟨a,b,_,w⟩:=start 2 (bl d.tx) [] q dl dl dl;rw[w,ag rfl];unfold lK
   grind
  rw[ad h0]at j q;have added:∀(ks:List Int) (G1:List Nx) (e:aH) (D:Nx) (t:aN),fa (dT E.vs g n) d.kids s.g=some (ks,G1)->e.g=G1->D=dA d ks->ej e D t=.ok k {e with g:=G}:=λks G1 e D t h P L=>by
   rw[h]at j;have j:(if(a3 G1 (dA d ks)).2.2=0 then some ((a3 G1 (dA d ks)).2.1.toNat,(a3 G1 (dA d ks)).1)else none)=some (k,G):=j;split at j
   .rename_i hz;cases j;unfold ej
    grind
   grind
  by_cases h:d.op=1
  .rw [ag h]at q;obtain⟨a,b,_,w⟩:=start 3 _ [] q dl dl dl;rw[w,ad dl,ag rfl,b];have J:fa (dT E.vs g n) d.kids s.g=some ([],s.g):=by rw[S io];rfl
   obtain⟨W,O⟩:=hu d ap;obtain⟨aj,aC⟩:=y.nu h;have aa:=y.st;have ai:d.st=aZ d.st.n/\1<=d.st.n/\d.st.n<=64:=by
    unfold bx at aa;rw[aj]at aa;simp at aa;have aA:d.st.x=0:=io
    refine⟨?_,io,io⟩;show(⟨d.st.k,d.st.n,d.st.x⟩:aM)=_;rw[aj,aA];rfl
   have aT:hE (35::98::e7 d.u.toNat d.st.n.toNat)=dA d []:=by
    have ao:=Wn aC W O ai.2;have hb:=QK d.u.toNat d.st.n.toNat d.st.n.toNat (bz _) ao;rw[fW (by rw[px];omega),Nat.sub_self,Nat.pow_zero,Nat.div_one]at hb;unfold hE;rw[ad (show ¬((35:UInt8)::98::e7 d.u.toNat d.st.n.toNat)[1]? =some 120 by grind)]
    show(⟨1,[],0,0,(dm 2 (e7 d.u.toNat d.st.n.toNat):Int),ba [],aZ (((35:UInt8)::98::e7 d.u.toNat d.st.n.toNat).length - 2:Nat)⟩:Nx)=_;rw[hb,cD,cD,px,show d.st.n.toNat+1+1 - 2=d.st.n.toNat by omega,Int.toNat_of_nonneg W,Int.toNat_of_nonneg io,<-ai.1];have z:=y.ok.ok;have aR:=S io;obtain⟨op,kids,nn,m,u,M,st⟩:=d;dsimp only at *;subst h;unfold fU at z;simp[m6,m7]at z;unfold dA
    grind
   grind
  rw[ad h]at q;by_cases P:d.op=2
  .rw [ag P]at q;obtain⟨a,b,_,w⟩:=start 5 _ [] q dl dl dl;rw[w,ad dl,ad dl,ag rfl,b];have J:fa (dT E.vs g n) d.kids s.g=some ([],s.g):=by rw[S io];rfl
   have:=added [] s.g {s with p:=s.p+1,tm:=s.tm+1} ⟨2,[],0,0,0,ba (bl d.tx),a5⟩ (aK E.T s.p) J rfl (by have z:=y.ok.ok;obtain⟨op,kids,nn,m,u,M,st⟩:=d;dsimp only at *;subst P;unfold fU at z;simp[m6,m7]at z;unfold dA;simp[z,jW])
   grind
  rw[ad P]at q;have comp:∀(wd:List UInt8) (K:List TK) (D:Nx) (B:aH) (ks:List Int) (G1:List Nx),TKN=(0,[])::(2,wd)::K->jy wd=true->(cG E.T (s.p+2) K->i5 E.T (dO f {E with dp:=E.dp+1}) wd {s with p:=s.p+1+1,tm:=s.tm+1}=.ok D B/\cG E.T B.p [(1,[])])->
    fa (dT E.vs g n) d.kids s.g=some (ks,G1)->B.g=G1->D=dA d ks->B.p+1=s.p+TKN.length->B.tm=s.tm+SZ->ir (dO f) E s=.ok k ⟨s.p+TKN.length,s.tm+SZ,G⟩:=λwd K D B ks G1 w ho ar aL aO aQ hp ht=>by
   obtain⟨a,b,c,Y⟩:=start 0 [] _ w dl dl dl;rw[Y,ad dl,ad dl,ad dl];obtain⟨W,O,q3⟩:=iG (s:={s with p:=s.p+1,tm:=s.tm+1}) c dl;obtain⟨n1,n2⟩:=ar q3;unfold mb;rw[ad io,W];show(if jy (aK E.T (s.p+1)).text then _ else _)=_;have O:(aK E.T (s.p+1)).text=wd:=O;rw[O,ag ho];show PR.b (i5 E.T (dO f {E with dp:=E.dp+1}) wd {s with p:=s.p+1+1,tm:=s.tm+1}) _=_;rw[n1];show PR.b (bU E.T 1 B) _=_;obtain⟨q4,_,_⟩:=iG n2 dl;rw[q4];show ej {B with p:=B.p+1} D _=_
   grind
  by_cases L:d.op=3
  .rw [ag L]at q;have J:fa (dT E.vs g n) d.kids s.g=some ([],s.g):=by rw[S io];rfl
   have aq:(⟨3,[],0,0,0,ba [],d.st⟩:Nx)=dA d []:=by
    have z:=y.ok.ok;obtain⟨op,kids,nn,m,u,M,st⟩:=d;dsimp only at *;subst L;unfold fU at z;simp[m6,m7]at z;unfold dA
    grind
   refine comp [122,101,114,111] (ey d.st++[(1,[])]) ⟨3,[],0,0,0,ba [],d.st⟩ ⟨s.p+1+1+(ey d.st).length,s.tm+1,s.g⟩ [] s.g (by grind) dl (λH=>?_) J rfl aq (by grind) (by grind);obtain⟨z1,z2⟩:=HU (s:={s with p:=s.p+1+1,tm:=s.tm+1}) y.st H;refine⟨?_,z2⟩;show PR.b (PR.b (il E.T {s with p:=s.p+1+1,tm:=s.tm+1}) (λC s=>.ok ((⟨3,[],0,0,0,ba [],C⟩:Nx),0) s)) _=_;rw[z1];rfl
  rw[ad L]at q;have kids:∀(ks:List Int) (e:aH) (l:List Int) (G1:List Nx) (K:List TK),(∀k∈ks,0<=k/\k<(i:Int))->fa (dT E.vs g n) ks e.g=some (l,G1)->cG E.T e.p (ks.flatMap (λk=>bY n g k.toNat)++K)->(ks.flatMap λk=>bY n g k.toNat).length<=f->e.tm+ks.foldl (λC k=>C+ct n g k.toNat) 0<=65536->
    gA (dO f {E with dp:=E.dp+1}) ks.length e=.ok l ⟨e.p+(ks.flatMap λk=>bY n g k.toNat).length,e.tm+ks.foldl (λC k=>C+ct n g k.toNat) 0,G1⟩:=by
   intro ks;induction ks with
   |nil=>
    intro e l G1 K _ h _ _ _;have h:(([]:List Int),e.g)=(l,G1):=by simpa[fa]using h
    cases h;rfl
   |cons A ks aB=>
    intro e l G1 K af h Q ae az;have hq:=af A nq;rw[dI]at Q ae ⊢;rw[bM]at ae;rw[dS]at Q;rw[List.foldl_cons,fold_add,Nat.zero_add]at az ⊢;unfold fa at h;cases hF:dT E.vs g n A.toNat e.g with
    |none=>grind
    |some a=>
     obtain⟨ka,N⟩:=a;rw[hF]at h;have h:(fa (dT E.vs g n) ks N).map (λl=>((ka:Int)::l.1,l.2))=some (l,G1):=h;cases hR:fa (dT E.vs g n) ks N with
     |none=>grind
     |some b=>
      obtain⟨lb,Gb⟩:=b;rw[hR]at h;have h:((ka:Int)::lb,Gb)=(l,G1):=by grind
      cases h;have r1:=R7 hv hu n f A.toNat {E with dp:=E.dp+1} e ka N io io hF Q.app.1 io (by grind) io aw;show PR.b (dO f {E with dp:=E.dp+1} e) _=_;rw[r1];have r2:=aB ⟨e.p+(bY n g A.toNat).length,e.tm+ct n g A.toNat,N⟩ lb G1 K (λk H=>af k (dJ _ H)) hR Q.app.2 io (by grind);show PR.b (gA (dO f {E with dp:=E.dp+1}) ks.length ⟨e.p+(bY n g A.toNat).length,e.tm+ct n g A.toNat,N⟩) _=_;rw[r2];show PR.ok _ _=_
      grind
  have aU:TKN.length=2+(iE d).length+(d.kids.flatMap λk=>bY n g k.toNat).length+1:=by grind
  cases J:fa (dT E.vs g n) d.kids s.g with
  |none=>grind
  |some a=>
   obtain⟨ks,G1⟩:=a;refine comp (dM d.op) (iE d++((d.kids.flatMap λk=>bY n g k.toNat)++[(1,[])])) (dA d ks) ⟨s.p+1+1+(iE d).length+(d.kids.flatMap λk=>bY n g k.toNat).length,s.tm+1+d.kids.foldl (λC k=>C+ct n g k.toNat) 0,G1⟩ ks G1 (by grind) (Zz io av.2) (λH=>?_) J rfl rfl (by grind) (by grind);obtain⟨Y,k1⟩:=Ze (s:={s with p:=s.p+1+1,tm:=s.tm+1}) y io H;have e2:=kids d.kids {s with p:=s.p+1+1+(iE d).length,tm:=s.tm+1} ks G1 [(1,[])] am J k1 io (by grind);refine⟨?_,k1.app.2⟩;show PR.b (ih E.T (dM d.op) {s with p:=s.p+1+1,tm:=s.tm+1}) _=_;rw[Y];show PR.b (gA (dO f {E with dp:=E.dp+1}) d.kids.length {s with p:=s.p+1+1+(iE d).length,tm:=s.tm+1}) _=_;rw[e2];rfl
abbrev wY:ByteArray:=⟨#[48,49,50,51,52,53,54,55,56,57]⟩
def uB(d:Nat):ByteArray:=wY.extract d (d+1)
def X8:∀n<10,uB n++bh #[]=ba (cV n):=dl
def X9:∀n<100,10<=n->uB (n / 10)++(uB (n%10)++bh #[])=ba (cV n):=dl
def KJ:∀n<10,(uB n).size=1:=dl
section
variable {w:I} {R:aC}
def KG(k:Nat)(z:0<k)(A:k<100)(n:Int)(s:ByteArray)(B:s.size<=10)(j:pM.L1 n wY (uB (k%10)++s) ((k / 10:Nat):Int) w R):pM.L1 n wY s (k:Int) w R:=by
 have d:fA (k:Int) 10=((k%10:Nat):Int):=rfl;have q:fj (k:Int) 10=((k / 10:Nat):Int):=rfl;have x:k%10<10:=Nat.mod_lt _ io;have y:=KJ _ x;refine pM.jU (aR (by simp;omega) (aT (by rw[d];exact a7 io) ?_));rw[d];have e:aE .i64 (((k%10:Nat):Int)+1)=((k%10+1:Nat):Int):=bt _ io;have h:wY.extract (aY ((k%10:Nat):Int)) (aY ((k%10+1:Nat):Int))=uB (k%10):=rfl;dsimp only[pM.S2,ai];dsimp only[pM.S3,ai];rw[e,h,q,IntWalk.i64_in _ io];refine⟨io,?_,io,by rw[cb];omega,?_,j⟩
 .show ((k%10+1:Nat):Int)<=((10:Nat):Int);omega
 .rw [y,IntKind.max_i64];omega
end
def uo{w:I}{n:Int}(j:0<=n)(x:n<100):ah U FI #[.i n] w λr e=>r=ab (.string (ba (cV n.toNat)))/\af w e:=by
 obtain⟨m,rfl⟩:=Int.eq_ofNat_of_zero_le j;rw[cb];have fin:∀s:ByteArray,s=ba (cV m)->pM.L1 (m:Int) wY s ((0:Nat):Int) w λr e=>r=ab (.string (ba (cV m)))/\af w e:=λs k=>
  pM.jU (aT rfl (aT (a7 io) ⟨by rw[k],Fr.refl _ _⟩))
 refine pM.ok (ax (λh=>⟨by rw[show m=0 by omega];rfl,Fr.refl _ _⟩) (λh=>?_));refine KG m io io _ _ dl ?_;rcases Nat.lt_or_ge m 10 with d|d
 .rw [show m / 10=0 by omega,show m%10=m by omega];exact fin _ (X8 _ d)
 .have q:=KJ (m%10) (Nat.mod_lt _ io);refine KG (m / 10) io io _ _ (by rw[ByteArray.size_append,q];decide) ?_;rw[show m / 10 / 10=0 by omega,show m / 10%10=m / 10 by omega];exact fin _ (X9 _ io d)
def ov{a b:ByteArray}(d:a.size<=1000000)(e:b.size<=1000000):¬((((a.size+b.size:Nat)):Int)>IntKind.i64.max):=by rw[IntKind.max_i64];omega
def lD(n:Nat):(cV n).length<=2:=by unfold cV;split<;>simp
def TT(s:aM):(jd s).length<=20:=by
 have e:=lD s.x.toNat;have h:=lD s.n.toNat;have j:(hL s.k).length<=3:=by
  unfold hL;generalize s.k.toNat=d
  match d with
  |0=>decide
  |1=>decide
  |2=>decide
  |3=>decide
  |d+4=>simp
 unfold jd;split<;>simp<;>omega
def J3{s:aM}(J:bx s=true)(w:I):ah U OI #[dk s] w λr q=>r=ab (.string (ba (jd s)))/\af w q:=by
 obtain⟨a,b,c,N,F,f⟩:=tG J;have P:=lD s.x.toNat;have Q:=lD s.n.toNat;refine z1.aq ((bZ (w:=w) [] us).aw λz C E=>E.nw λh _ e=>⟨a,io,?_⟩);have e:O F0 w h [.g z,.c C.heap.size [.string (ba [98,118]),.string (ba [115,116,114]),.string (ba [97,114,114]),.string (ba [97,114,115])] eD] []:=e;have A:∀(k:Int),s.k=k->(hL k).length<=3->h.cell? ((aa C.heap.size).add (aY k *1))=some (.string (ba (hL k)))->ea (some (aa C.heap.size)) λp=>∃t:ByteArray,h.cell? (p.add (aY s.k *1))=some (.string t)/\¬((((bh #[40]).size+t.size:Nat):Int)>IntKind.i64.max)/\¬(((((bh #[40])++t).size+(bh #[32]).size:Nat):Int)>IntKind.i64.max)/\z1.aV z s.k s.n s.x (((bh #[40])++t)++(bh #[32])) h λr q=>r=ab (.string (ba (jd s)))/\af w q:=by
  intro k d M K;subst d;have T:(ba (hL s.k)).size<=3:=by rw[bC];exact M
  refine⟨_,K,ov dl io,ov (by rw[ByteArray.size_append];show 1+_<=_;omega) dl,?_⟩;have D:∀(o:List UInt8) (j:I),o.length<=20->O F0 w j [.g z] []->jd s=o++cV s.n.toNat++[41]->z1.bg z s.k s.n s.x (ba o) j λr q=>r=ab (.string (ba (jd s)))/\af w q:=by intro o j S y L;refine y.av (uo (w:=j) c io) ?_;rintro _ W rfl B;refine⟨_,rfl,ov (by rw[bC];omega) (by rw[bC];omega),ov (by rw[ByteArray.size_append,bC,bC];omega) dl,?_,B.fr⟩;rw[L,<-cg,<-cg];rfl
  have G:((bh #[40])++ba (hL s.k))++(bh #[32])=ba (40::hL s.k++[32]):=by rw[<-cg];congr 1
  rw[G];have y:=e.take 1;refine aS (λd=>?_) (λd=>?_)
  .refine y.av (uo (w:=h) F io) ?_;rintro _ j rfl B;refine⟨_,rfl,ov (by rw[bC];simp;omega) (by rw[bC];omega),ov (by rw[ByteArray.size_append,bC,bC];simp;omega) dl,?_⟩;have H:(ba (40::hL s.k++[32])++ba (cV s.x.toNat))++(bh #[32])=ba (40::hL s.k++[32]++cV s.x.toNat++[32]):=by rw[<-cg,<-cg];rfl
   rw[H];refine D _ j (by simp;omega) B ?_;unfold jd;rw[ag d];simp
  .refine D _ h (by simp;omega) y ?_;unfold jd;rw[ad d];simp
 have d:s.k=0\/s.k=1\/s.k=2\/s.k=3:=io
 rcases d with d|d|d|d
 .exact A 0 d dl (e.ld 1 0)
 .exact A 1 d dl (e.ld 1 1)
 .exact A 2 d dl (e.ld 1 2)
 .exact A 3 d dl (e.ld 1 3)
def QI{g:List Nx}(q:y7 g):∀(f i:Nat),i<f->∀e,i<e->eY f g i=eY e g i
 |0,i,j,_,_=>absurd j io
 |f+1,i,j,0,k=>absurd k io
 |f+1,i,j,e+1,k=>by
  unfold eY;cases x:g[i]? with
  |none=>rfl
  |some h=>
   dsimp only;have w:h.kids.flatMap (λd=>32::eY f g d.toNat)=h.kids.flatMap (λd=>32::eY e g d.toNat):=by rw[List.flatMap_def,List.flatMap_def];congr 1;refine List.map_congr_left λd y=>?_;obtain⟨z,A⟩:=q i h x d y;rw[QI q f d.toNat io e io]
   rw[w]
structure I1(g:List Nx):Prop where
 v:Vg g
 u:∀d∈g,0<=d.u/\d.u<18446744073709551616
 t:∀d∈g,d.tx.size<=1000000
 l:∀i<g.length,(eY (i+1) g i).length<=65536
def Wc(u i:Nat)(x:u<18446744073709551616)(hi:i<64):aE .i64 (W.rX .u64 (Int.fdiv (u:Int) (2^(min (aY (aE .u64 (i:Int))) (IntKind.bits .u64)))) 1)=if u.testBit i then 1 else 0:=by
 have e:aE .u64 (i:Int)=(i:Int):=IntWalk.u64_in _ io;have h:min (aY (i:Int)) (IntKind.bits .u64)=i:=by rw[cb];show min i 64=i;omega
 rw[e,h];have j:Int.fdiv (u:Int) (2^i)=((u / 2^i:Nat):Int):=by
  rw[Int.fdiv_eq_ediv_of_nonneg _ (by exact Int.le_of_lt (Int.pow_pos io))];have:((2:Int)^i)=((2^i:Nat):Int):=by rw[Int.natCast_pow];rfl
  rw[this];rfl
 rw[j];have w:u / 2^i<18446744073709551616:=Nat.lt_of_le_of_lt (Nat.div_le_self _ _) x;have k:W.rX .u64 ((u / 2^i:Nat):Int) 1=((u / 2^i%2:Nat):Int):=by have:=W.We (u / 2^i) 1 w dl;rw[Nat.and_one_is_mod]at this;exact this
 rw[k];have q:u.testBit i=ak (u / 2^i%2=1):=by rw[Nat.testBit_eq_decide_div_mod_eq]
 rw[q];have d:u / 2^i%2=0\/u / 2^i%2=1:=io
 rcases d with d|d<;>rw[d]<;>rfl
def Wr(u n k:Nat)(d:k<n):(e7 u n).drop (n - 1 - k)=(if u.testBit k then 49 else 48)::(e7 u n).drop (n - k):=by have e:=px u n;rw[List.drop_eq_getElem_cons io,show n - 1 - k+1=n - k by omega];congr 1;unfold e7;simp only[List.getElem_map,List.getElem_reverse,List.length_range,List.getElem_range];rw[show n - 1 - (n - 1 - k)=k by omega]
section
variable {w:I} {s:Sl} {l:List Nd}
def JH{b:Nat}{x0 x2 x3 x4 x6 x7 x8:Int}{x1:Sl}{x5:ByteArray}{L D:List En}{u n:Nat}(F:x4=(u:Int))(q:u<18446744073709551616)(E:n<=64){R:aC}(j:∀e,O F0 w e L D->R (ab (.string (ba (35::98::e7 u n)))) e)(B:En.g b∈L):∀(k:Nat) (d:I),k<=n->O F0 w d L D->
  i0.aX b x0 x1 x2 x3 x4 x5 x6 x7 x8 (ba (35::98::(e7 u n).take (n - k))) ((k:Int) - 1) d R
 |0,d,_,h=>by refine i0.bR (aT (a7 io) ?_);rw[fW (by rw[px];omega)];exact j d h
 |k+1,d,H,h=>by
  have J:=px u n;have K:((e7 u n).take (n - (k+1))).length<=64:=by rw[oa];omega
  have y:(((k+1:Nat):Int) - 1)=(k:Int):=io
  rw[y];refine i0.bR (aR (a6 io) ⟨by rw[IntWalk.u64_in _ io];omega,?_⟩);subst F;rw[Wc u k q io];have C:ah U FI #[.i (if u.testBit k then 1 else 0)] d λr e=>r=ab (.string (ba [if u.testBit k then 49 else 48]))/\af d e:=by have:=uo (w:=d) (n:=if u.testBit k then 1 else 0) (by split<;>decide) (by split<;>decide);revert this;cases u.testBit k<;>exact id
  refine h.av C ?_;rintro _ G rfl x;refine⟨_,rfl,ov (by rw[bC];simp;omega) (by rw[bC];simp),?_⟩;rw[IntWalk.i64_in _ io,cg];have z:35::98::(e7 u n).take (n - (k+1))++[if u.testBit k then 49 else 48]=35::98::(e7 u n).take (n - k):=by
   have A:(e7 u n)[n - (k+1)]? =some (if u.testBit k then 49 else 48):=by have:=Wr u n k io;rw[<-List.head?_drop,show n - (k+1)=n - 1 - k by omega,this];rfl
   show 35::98::((e7 u n).take (n - (k+1))++[_])=_;rw[show n - k=n - (k+1)+1 by omega,ha,A];rfl
  rw[z];exact JH (R:=R) rfl q E j B k G io x
end
def U2(t:ByteArray)(r:List Nx):∀g:List Nx,ga (g++r) t=(ga g t).orElse λ_=>ga r t
 |[]=>by simp[ga]
 |d::g=>by rw[iJ,ga,ga,U2 t r g];split<;>simp
def TU{g r:List Nx}{n:Nx}(e:(bo g n).2=0)(L:n.op=0->∀h∈r,h.op=0->h.tx=n.tx->h.st=n.st):bo (g++r) n=bo g n:=by
 have x:=yA e;have d:∀q,a8 (g++r) n q=a8 g n q:=λq=>by
  unfold a8;cases G:n.kids[q]? with
  |none=>rfl
  |some j=>
   have:=x.ki j (ay G);dsimp only;rw[s6 io]
 have C:n.kids.all (dx (g++r))=n.kids.all (dx g):=by
  have B:n.kids.all (dx g)=true:=dF.2 λj d=>by have:=x.ki j d;unfold dx;simp[this]
  rw[B];exact dF.2 λj d=>by have:=x.ki j d;unfold dx;simp;omega
 have H:b6 (g++r) n=b6 g n:=by
  by_cases w:n.op=0
  .have k:oi g n=false:=by
    cases K:oi g n with
    |false=>rfl
    |true=>
     exfalso;unfold bo b6 at e;rw[ag (show n.op<=3 by omega),ad (show ¬n.op=2 by omega)]at e;rw[ag (show n.op=0/\oi g n=true from⟨w,K⟩)]at e;repeat' split at e
     all_goals cases e
   have E:oi (g++r) n=false:=by
    unfold oi at k ⊢;rw[U2];cases F:ga g n.tx with
    |some s=>rw[F]at k;exact k
    |none=>
     cases J:ga r n.tx with
     |none=>rfl
     |some s=>
      obtain⟨h,D,y,A,z⟩:=Cn J;have:=L w h D y A;dsimp only[Option.orElse];rw[<-z,this];simp
   unfold b6;rw[k,E]
  .unfold b6;simp only[w,false_and]
 unfold bo;rw[C,H,d,d,d]
def Zn{g:List Nx}(h:Vg g){i:Nat}{d:Nx}(hd:g[i]? =some d):eo d g 0=some i:=by
 cases e:eo d g 0 with
 |none=>exact absurd (ay hd) (sB e)
 |some j=>
  have:=(q4 e).2;rw[Nat.sub_zero]at this;rw[(List.getElem?_inj (cP.1 hd).1 (It h)).1 (hd.trans this.symm)]
def rR(vs:List (List UInt8×Nat))(g G:List Nx):Prop:=∀d∈g,d.op=0->∃h e,lk vs (bl d.tx)=some h/\G[h]? =some e/\e.st=d.st
def Ab{α:Type}{l r:List α}{k:Nat}{e:α}(d:l[k]? =some e):(l++r)[k]? =some e:=by rw[s6 (cP.1 d).1];exact d
def rR.app{vs:List (List UInt8×Nat)}{g G:List Nx}(h:rR vs g G)(r:List Nx):rR vs g (G++r):=λd x j=>by obtain⟨y,e,k,q,w⟩:=h d x j;exact⟨y,e,k,Ab q,w⟩
def adQ{g G:List Nx}{d:Nx}{ks:List Int}(P:1<=d.op)(h:bo g d=(d.st,0))(M:ks.length=d.kids.length)(z:∀(j:Nat) (k q:Int),d.kids[j]? =some k->ks[j]? =some q->0<=q/\∃e y,g[k.toNat]? =some e/\G[q.toNat]? =some y/\y.st=e.st):bo G (dA d ks)=(d.st,0):=by
 have O:=yA (g:=g) (n:=d) (by rw[h]);have C:∀j,a8 G (dA d ks) j=a8 g d j:=λj=>by
  unfold a8;show(match ks[j]? with
   |some k=>match G[k.toNat]? with
    |some d=>d.st
    |none=>a5
   |none=>a5)=_
  cases w:d.kids[j]? with
  |none=>
   have:ks[j]? =none:=List.getElem?_eq_none (by have:=List.getElem?_eq_none_iff.1 w;omega);rw[this]
  |some k=>
   have J:=(cP.1 w).1;have x:ks[j]? =some (ks[j]'io):=a0 io;generalize ks[j]'io=q at x;obtain⟨_,e,y,a,b,c⟩:=z j k q w x;rw[x];dsimp only;rw[a,b];exact c
 have E:ks.all (dx G)=true:=dF.2 λq x=>by obtain⟨j,w⟩:=List.mem_iff_getElem?.1 x;have J:=(cP.1 w).1;have K:d.kids[j]? =some (d.kids[j]'io):=a0 io;obtain⟨a,e,y,_,b,_⟩:=z j _ q K w;have:=(cP.1 b).1;unfold dx;simp;omega
 have F:d.kids.all (dx g)=true:=dF.2 λk z=>by have:=O.ki k z;unfold dx;simp;omega
 have H:fU (dA d ks)=fU d:=rfl;have L:(ck d.op==(ks.length:Int))=(ck d.op==(d.kids.length:Int)):=by rw[M]
 have N:d.op<=3->b6 G (dA d ks)=b6 g d:=λB=>by
  by_cases A:d.op=2
  .unfold b6;rw[ag A,ag (show(dA d ks).op=2 from A)];rfl
  .have e:(dA d ks).st=d.st:=by show(if d.op=1\/d.op=3 then d.st else a5)=_;rw[ag io]
   have D:¬d.op=0:=io
   have o:(dA d ks).op=d.op:=rfl;have u:(dA d ks).u=d.u:=rfl;unfold b6;rw[e,o,u];simp only[D,false_and,A];rfl
 unfold bo at h ⊢;rw[C,C,C];show(if(ck d.op==(ks.length:Int)&&ks.all (dx G)&&fU (dA d ks))=false then(a5,1)else
  if d.op<=3 then b6 G (dA d ks)else
  if ek d.op (a8 g d 0) (a8 g d 1) (a8 g d 2)=false then(a5,9)else
  if jb d (a8 g d 0) (a8 g d 1) (a8 g d 2)=false then(a5,5)else
  if d.op=33/\mW d.tx=false then(a5,2)else(fX d (a8 g d 0) (a8 g d 1) (a8 g d 2),0))=_
 rw[E,H,L];rw[F]at h;by_cases B:d.op<=3
 .rw [N B];exact h
 .rw [ad B]at h ⊢;exact h
def I4{G:List Nx}{n:Nx}{q:aM}(w:bo G n=(q,0))(A:G.length<4096)(x:Vg G):(a3 G n).2.2=0/\∃r,(a3 G n).1=G++r/\r.length<=1/\(∀h∈r,h=dc n q)/\Vg (a3 G n).1/\(a3 G n).1[(a3 G n).2.1.toNat]? =some (dc n q):=by
 have e:(a3 G n).2.2=0:=by
  unfold a3;rw[w,ad us];dsimp only;split
  .rfl
  .rw [ad io]
 obtain⟨_,z,y,j,d⟩:=oB e;rw[w]at j d;refine⟨e,?_⟩;rw[y];show ∃r,_/\_/\_/\_/\(a3 G n).1[z]? =_;rcases d with d|⟨_,d,_⟩
 .exact ⟨[],by rw[d,df],us,λh k=>(by cases k),zo x e,j⟩
 .exact ⟨_,d,us,λh k=>cK.1 k,zo x e,j⟩
def E5{g:List Nx}(E:Vg g){vs:List (List UInt8×Nat)}:∀(n i:Nat) (G:List Nx),i<n->i<g.length->Vg G->rR vs g G->G.length+ct n g i<=4096->
  ∃k r e d,dT vs g n i G=some (k,G++r)/\r.length<=ct n g i/\Vg (G++r)/\(∀d∈r,d.op≠0)/\g[i]? =some e/\(G++r)[k]? =some d/\d.st=e.st
 |0,i,G,Q,_,_,_,_=>absurd Q io
 |n+1,i,G,Q,N,z,A,W=>by
  have y:g[i]? =some (g[i]'N):=a0 N;generalize g[i]'N=e at y;have aa:=ay y;have hd:=tH E y;have af:=hd.op;have S:=λk w=>E.kids y k w;have ac:ct (n+1) g i=e.kids.foldl (λB k=>B+ct n g k.toNat) 1:=by
   conv=>lhs;unfold ct
   rw[y]
  rw[fold_add]at ac;unfold dT;rw[y];show ∃k r d' d,(if e.op=0 then(lk vs (bl e.tx)).map λk=>(k,G)else(fa (dT vs g n) e.kids G).bind λa=>if(a3 a.2 (dA e a.1)).2.2=0 then some ((a3 a.2 (dA e a.1)).2.1.toNat,(a3 a.2 (dA e a.1)).1)else none)=some (k,G++r)/\_;by_cases D:e.op=0
  .obtain ⟨k,d,h1,h2,h3⟩:=A e aa D;rw[ag D,h1];exact⟨k,[],e,d,by rw[df];rfl,us,by rw[df];exact z,λd h=>(by cases h),rfl,by rw[df];exact h2,h3⟩
  rw[ad D];have kids:∀(ks:List Int) (G:List Nx),(∀k∈ks,0<=k/\k<(i:Int))->Vg G->rR vs g G->G.length+ks.foldl (λB k=>B+ct n g k.toNat) 0<=4096->
    ∃l r,fa (dT vs g n) ks G=some (l,G++r)/\r.length<=ks.foldl (λB k=>B+ct n g k.toNat) 0/\Vg (G++r)/\(∀d∈r,d.op≠0)/\l.length=ks.length/\
     ∀(j:Nat) (k q:Int),ks[j]? =some k->l[j]? =some q->0<=q/\∃d C,g[k.toNat]? =some d/\(G++r)[q.toNat]? =some C/\C.st=d.st:=by
   intro ks;induction ks with
   |nil=>exact λG _ z _ _=>⟨[],[],by rw[df];rfl,us,by rw[df];exact z,λd h=>(by cases h),rfl,λj k q w=>(by simp at w)⟩
   |cons k ks ih=>
    intro G T z A W;have ae:=T k nq;rw[List.foldl_cons,fold_add,Nat.zero_add]at W ⊢;obtain⟨q,F,d1,e1,Y,a2,Z,a4,a5,a6,a7⟩:=E5 E n k.toNat G io io z A io;obtain⟨l,O,H,b2,J,K,L,M⟩:=ih (G++F) (λq x=>T q (dJ _ x)) Z (A.app F) (by rw[bM];omega);refine⟨(q:Int)::l,F++O,?_,by rw[bM];omega,by rw[<-dS];exact J,λd h=>(aP.1 h).elim (a4 d) (K d),by rw[cD,cD,L],λj k' q' w x=>?_⟩
    .unfold fa;rw[Y];show(fa (dT vs g n) ks (G++F)).map (λl=>((q:Int)::l.1,l.2))=_;rw[H,dS];rfl
    .rw [<-dS];cases j with
     |zero=>
      rw[List.getElem?_cons_zero]at w x;cases w;cases x;exact⟨Int.natCast_nonneg _,d1,e1,a5,Ab (by rw[cb];exact a6),a7⟩
     |succ j=>
      rw[List.getElem?_cons_succ]at w x;exact M j k' q' w x
  obtain⟨l,r,H,b2,J,K,L,M⟩:=kids e.kids G S z A io;rw[H];show ∃k r' d' d,(if(a3 (G++r) (dA e l)).2.2=0 then some ((a3 (G++r) (dA e l)).2.1.toNat,(a3 (G++r) (dA e l)).1)else none)=some (k,G++r')/\_;have hs:=adQ (g:=g.take i) (G:=G++r) (ks:=l) io (E.ok i e y) L λj k q w x=>by obtain⟨c1,d,C,c2,c3,c4⟩:=M j k q w x;have:=S k (ay w);exact⟨c1,d,C,by rw[List.getElem?_take_of_lt io];exact c2,c3,c4⟩
  obtain⟨z0,O,P,z2,z3,z4,z5⟩:=I4 hs (by rw[bM];omega) J;rw[ag z0];refine⟨_,r++O,e,dc (dA e l) e.st,by rw[<-dS,<-P],by rw[bM];omega,by rw[<-dS,<-P];exact z4,λd h=>?_,rfl,by rw[<-dS,<-P];exact z5,rfl⟩;rcases aP.1 h with h|h
  .exact K d h
  .rw [z3 d h];exact D
def du(E:b3)(q:Nat)(K:List TK)(m:Nat)(G:List Nx)(k:Nat)(d:List Nx):Prop:=
 ∀(f:Nat) (s:aH),q<=f->cG E.T s.p K->s.g=G->s.tm+m<=65536->dO f E s=.ok k ⟨s.p+K.length,s.tm+m,d⟩
def ky(E:b3)(q n:Nat)(K:List TK)(m:Nat)(G:List Nx)(l:List Int)(d:List Nx):Prop:=
 ∀(f:Nat) (s:aH),q<=f->cG E.T s.p K->s.g=G->s.tm+m<=65536->gA (dO f E) n s=.ok l ⟨s.p+K.length,s.tm+m,d⟩
section
variable {E:b3} {G G1 G2:List Nx} {K K1:List TK} {q q1 m m1 k n:Nat} {l:List Int} {t:List UInt8}
def ky.nil:ky E 0 0 [] 0 G [] G:=λf s _ _ d _=>by subst d;rfl
def ky.cons(e:du E q K m G k G1)(h:ky E q1 n K1 m1 G1 l G2):ky E (max q q1) (n+1) (K++K1) (m+m1) G ((k:Int)::l) G2:=λf s w d j x=>by show PR.b (dO f E s) _=_;rw[e f s io d.app.1 j io];show PR.b (gA (dO f E) n ⟨s.p+K.length,s.tm+m,G1⟩) _=_;rw[h f ⟨s.p+K.length,s.tm+m,G1⟩ io d.app.2 rfl (by show s.tm+m+m1<=_;omega)];show PR.ok _ _=_;rw[bM,<-Nat.add_assoc,<-Nat.add_assoc]
def If{f:Nat}{s:aH}{kd:Int}(d:cG E.T s.p ((kd,t)::K))(e:kd≠1)(h:kd≠4)(j:kd≠6)(k:s.tm<65536):(aK E.T s.p).text=t/\cG E.T (s.p+1) K/\
  dO (f+1) E s=if kd=2 then lK (dO f) E (aK E.T s.p) {s with p:=s.p+1,tm:=s.tm+1}else if kd=3 then ej {s with p:=s.p+1,tm:=s.tm+1} (hE (aK E.T s.p).text) (aK E.T s.p)else
   if kd=5 then ej {s with p:=s.p+1,tm:=s.tm+1} ⟨2,[],0,0,0,ba (aK E.T s.p).text,a5⟩ (aK E.T s.p)else mb (dO f) E (aK E.T s.p) {s with p:=s.p+1,tm:=s.tm+1}:=by obtain⟨a,b,_,c⟩:=d.cons;refine⟨b,c,?_⟩;show ir (dO f) E s=_;unfold ir;dsimp only;rw[ad io,ad io,rT io,a]
def tu(d:q+1<=n):∃f,n=f+1/\q<=f:=⟨n - 1,io,io⟩
def du.pm(e:lk E.pm t=some k):du E 1 [(2,t)] 1 G k G:=λf s j h q w=>by obtain⟨f,rfl,_⟩:=tu j;obtain⟨a,_,d⟩:=If (f:=f) h dl dl dl io;subst q;rw[d,ag rfl];unfold lK;rw[a,e];rfl
def du.vs(h:lk E.pm t=none)(e:lk E.vs t=some k):du E 1 [(2,t)] 1 G k G:=λf s q j w x=>by obtain⟨f,rfl,_⟩:=tu q;obtain⟨a,_,d⟩:=If (f:=f) j dl dl dl io;subst w;rw[d,ag rfl];unfold lK;rw[a,h,e];rfl
def Ku{f:Nat}{s:aH}{w:List UInt8}(j:cG E.T s.p ((0,[])::(2,w)::K))(hd:E.dp<64)(k:s.tm<65536):cG E.T (s.p+2) K/\(aK E.T (s.p+1)).text=w/\
  dO (f+1) E s=if jy w then(i5 E.T (dO f {E with dp:=E.dp+1}) w ⟨s.p+2,s.tm+1,s.g⟩).b λn e=>(bU E.T 1 e).b λ_ e=>ej e n (aK E.T s.p)
   else pB (dO f) {E with dp:=E.dp+1} (aK E.T s.p) (aK E.T (s.p+1)) ⟨s.p+2,s.tm+1,s.g⟩:=by obtain⟨a,b,h⟩:=If (f:=f) j dl dl dl k;obtain⟨q1,d,q⟩:=iG (s:={s with p:=s.p+1,tm:=s.tm+1}) b dl;have d:(aK E.T (s.p+1)).text=w:=d;refine⟨q,d,?_⟩;rw[h,ad dl,ad dl,ad dl];unfold mb;rw[ad io,q1];show(if jy (aK E.T (s.p+1)).text then _ else _)=_;rw[d]
def du.op{w:List UInt8}{op:Int}(h:lk fI w=some (op,n))(e:A4 w=true)(hd:E.dp<64)(F:ky {E with dp:=E.dp+1} q n K m G l G1)(y:(a3 G1 {oX op with kids:=l}).2.2=0)(C:(a3 G1 {oX op with kids:=l}).2.1=(k:Int)):
  du E (q+1) ((0,[])::(2,w)::(K++[(1,[])])) (m+1) G k (a3 G1 {oX op with kids:=l}).1:=λf s d x A Q=>by
 obtain⟨f,rfl,z⟩:=tu d;replace d:=z;obtain⟨a,_,j⟩:=Ku (f:=f) x hd io;have D:jy w=true:=by unfold jy;rw[h];simp
 rw[j,ag D];unfold A4 at e;simp only[bf,decide_eq_true_eq]at e;obtain⟨⟨⟨⟨⟨⟨H,J⟩,L⟩,M⟩,N⟩,O⟩,P⟩:=e;have B:ih E.T w ⟨s.p+2,s.tm+1,s.g⟩=.ok (oX op,n) ⟨s.p+2,s.tm+1,s.g⟩:=by unfold ih;rw[ad H,ad J,ad L,ad M,ad N,ad O,ad P,h];rfl
 unfold i5;rw[B];show PR.b (PR.b (gA (dO f {E with dp:=E.dp+1}) n ⟨s.p+2,s.tm+1,s.g⟩) _) _=_;rw[F f ⟨s.p+2,s.tm+1,s.g⟩ d a.app.1 A (by show s.tm+1+m<=_;omega)];show PR.b (bU E.T 1 ⟨s.p+2+K.length,s.tm+1+m,G1⟩) _=_;obtain⟨c,_,_⟩:=iG (s:=⟨s.p+2+K.length,s.tm+1+m,G1⟩) a.app.2 dl;rw[c];show(if(a3 G1 {oX op with kids:=l}).2.2=0 then PR.ok (a3 G1 {oX op with kids:=l}).2.1.toNat _ else _)=_;rw[ag y,C,cb];simp only[cD,bM,List.length_nil];rw[show s.p+2+K.length+1=s.p+(K.length+(0+1)+1+1)by omega,show s.tm+1+m=s.tm+(m+1)by omega]
def du.call{w:List UInt8}{mc:PM}{KB:List TK}{q2 m2:Nat}(D:jy w=false)(hd:E.dp<64)(d:ik E w=some mc)(B:ky {E with dp:=E.dp+1} q mc.ps.length K m G l G1)(C:jO G1 mc.ps l=true)(y:cG E.T mc.b KB)(j:du {E with dp:=E.dp+1,pm:=iW mc.ps l,kn:=mc.ix} q2 KB m2 G1 k G2):du E (max q q2+1) ((0,[])::(2,w)::(K++[(1,[])])) (m+m2+1) G k G2:=λf s e x A F=>by
 obtain⟨f,rfl,z⟩:=tu e;replace e:=z;obtain⟨a,b,h⟩:=Ku (f:=f) x hd io;rw[h,ad (by rw[D];decide)];unfold pB;have d:ik {E with dp:=E.dp+1} (aK E.T (s.p+1)).text=some mc:=by rw[b];exact d
 rw[d];show PR.b (gA (dO f {E with dp:=E.dp+1}) mc.ps.length ⟨s.p+2,s.tm+1,s.g⟩) _=_;rw[B f ⟨s.p+2,s.tm+1,s.g⟩ io a.app.1 A (by show s.tm+1+m<=_;omega)];show PR.b (bU E.T 1 ⟨s.p+2+K.length,s.tm+1+m,G1⟩) _=_;obtain⟨c,_,_⟩:=iG (s:=⟨s.p+2+K.length,s.tm+1+m,G1⟩) a.app.2 dl;rw[c];show(if jO G1 mc.ps l=true then h8 (dO f) {E with dp:=E.dp+1} mc l ⟨s.p+2+K.length+1,s.tm+1+m,G1⟩else _)=_;rw[ag C];unfold h8;show PR.b (dO f {E with dp:=E.dp+1,pm:=iW mc.ps l,kn:=mc.ix} ⟨mc.b,s.tm+1+m,G1⟩) _=_;rw[j f ⟨mc.b,s.tm+1+m,G1⟩ io y rfl (by show s.tm+1+m+m2<=_;omega)];show PR.ok k _=_;simp only[cD,bM,List.length_nil];rw[show s.p+2+K.length+1=s.p+(K.length+(0+1)+1+1)by omega,show s.tm+1+m+m2=s.tm+(m+m2+1)by omega]
end
def du.tx{g:List Nx}(z:Vg g)(y:∀d∈g,0<=d.u/\d.u<18446744073709551616){E:b3}{i k:Nat}{G G1:List Nx}(hi:i<g.length)(e:dT E.vs g (i+1) i G=some (k,G1))(hd:E.dp+i<64)(w:∀d∈g,d.op=0->lk E.pm (bl d.tx)=none):
  du E (bY (i+1) g i).length (bY (i+1) g i) (ct (i+1) g i) G k G1:=λf s j h q x=>by subst q;exact R7 z y (i+1) f i E s k G1 (Nat.lt_succ_self _) hi e h j hd x w
def fN(T:List aN)(n:Nat)(K:List TK)(x y:bS):Prop:=cG T x.s.p K->y.s.p=x.s.p+K.length/\∀f,hf T (f+n) x=hf T f y
section
variable {T:List aN} {x y z:bS} {K K1:List TK} {n m:Nat}
def fN.nil:fN T 0 [] x x:=λ_=>⟨rfl,λ_=>rfl⟩
def fN.app(e:fN T n K x y)(h:fN T m K1 y z):fN T (n+m) (K++K1) x z:=λd=>by
 obtain⟨a,b⟩:=e d.app.1;obtain⟨c,j⟩:=h (by rw[a];exact d.app.2)
 grind
def adr{t:List UInt8}(d:cG T x.s.p ((6,t)::K))(f:Nat):hf T (f+1) x=.ok x:=by unfold hf;dsimp only;rw[ag d.cons.1]
def fN.one(e:cG T (x.s.p+1) K->y.s.p=x.s.p+(K.length+1)/\kH T {x with s:={x.s with p:=x.s.p+1}}=.ok y):fN T 1 ((0,[])::K) x y:=λh=>by
 obtain⟨a,_,_,b⟩:=h.cons;obtain⟨c,d⟩:=e b;refine⟨c,λf=>?_⟩;conv=>lhs;unfold hf
 dsimp only;rw[ad io,ag a,rT io,d];rfl
def mG{α:Type}{q:PR α}{a:α}{s:aH}{f:α->bS->SR}(d:q=.ok a s):q.s x f=f a {x with s:=s}:=by rw[d];rfl
def D0{w:List UInt8}(d:cG T x.s.p ((2,w)::K)):cG T (x.s.p+1) K/\∃t:aN,t.text=w/\kH T x=(let x:={x with s:={x.s with p:=x.s.p+1}}
  let fin (c:fM) (x:bS):SR:=(bU T 1 x.s).s x λ_ x=>.ok {x with cs:=x.cs++[c]}
  if w=[100,101,99,108,97,114,101]then pI T t x else
  if w=[100,101,102,105,110,101]then pJ T x else
  if w=[97,115,115,101,114,116]\/w=[101,100,105,116]then
   (bU T 2 x.s).s x λt x=>(tD T x).s x λn x=>fin ⟨if w=[101,100,105,116]then 2 else 1,t.text,a5,n,0⟩ x else
  if w=[114,101,116,114,97,99,116]then(bU T 2 x.s).s x λt x=>fin ⟨3,t.text,a5,0,0⟩ x else
  if w=[112,117,115,104]then fin ⟨4,[],a5,0,0⟩ x else
  if w=[112,111,112]then fin ⟨5,[],a5,0,0⟩ x else
  if w=[99,104,101,99,107]then(dw T x.s).s x λn y=>if 1099511627776<n then .er 5 (aK T x.s.p).a4 else fin ⟨6,[],a5,0,n⟩ y else
  .er 2 t.a4):=by obtain⟨a,b,c⟩:=iG d dl;refine⟨c,aK T x.s.p,b,?_⟩;unfold kH;rw[mG a,b]
def Qt{s:aH}{t:List UInt8}(d:cG T s.p ((2,t)::K))(h:lk x.vs t=none)(j:lk x.ms t=none)(e:x.s=s):vj T x=.ok (aK T s.p) {s with p:=s.p+1}/\(aK T s.p).text=t/\cG T (s.p+1) K:=by
 subst e;obtain⟨a,b,c⟩:=iG d dl;refine⟨?_,b,c⟩;unfold vj;rw[a];show(if(lk x.vs (aK T x.s.p).text).isSome||(lk x.ms (aK T x.s.p).text).isSome then _ else _)=_
 grind
def nX(nm:List UInt8)(z:aM):List TK:=(0,[])::(2,[100,101,99,108,97,114,101])::(2,nm)::(ey z++[(1,[])])
def fN.decl{nm:List UInt8}{st:aM}(j:lk x.vs nm=none)(k:lk x.ms nm=none)(z:bx st=true)(y:(a3 x.s.g ⟨0,[],0,0,0,ba nm,st⟩).2.2=0):
  fN T 1 (nX nm st) x {x with s:=⟨x.s.p+(nX nm st).length,x.s.tm,(a3 x.s.g ⟨0,[],0,0,0,ba nm,st⟩).1⟩,vs:=x.vs++[(nm,(a3 x.s.g ⟨0,[],0,0,0,ba nm,st⟩).2.1.toNat)],cs:=x.cs++[⟨0,nm,st,((a3 x.s.g ⟨0,[],0,0,0,ba nm,st⟩).2.1.toNat:Nat),0⟩]}:=
 .one λw=>by refine⟨rfl,?_⟩;obtain⟨A,t,_,h⟩:=D0 (x:={x with s:={x.s with p:=x.s.p+1}}) w;rw[h];dsimp only;rw[ag rfl];unfold pI;obtain⟨B,d,C⟩:=Qt (x:={x with s:={x.s with p:=x.s.p+1+1}}) (s:={x.s with p:=x.s.p+1+1}) A j k rfl;rw[mG B];obtain⟨D,E⟩:=HU (s:={x.s with p:=x.s.p+1+1+1}) z C;rw[mG D];obtain⟨e,_,F⟩:=iG (s:={x.s with p:=x.s.p+1+1+1+(ey st).length}) E dl;rw[mG e];have d:(aK T (x.s.p+1+1)).text=nm:=d;have q:ej {x.s with p:=x.s.p+1+1+1+(ey st).length+1} ⟨0,[],0,0,0,ba nm,st⟩ t=.ok (a3 x.s.g ⟨0,[],0,0,0,ba nm,st⟩).2.1.toNat ⟨x.s.p+1+1+1+(ey st).length+1,x.s.tm,(a3 x.s.g ⟨0,[],0,0,0,ba nm,st⟩).1⟩:=ag y;dsimp only;rw[d,mG q];dsimp only;rw[show x.s.p+1+1+1+(ey st).length+1=x.s.p+(nX nm st).length by unfold nX;grind]
def fV(ps:List (List UInt8×aM)):List TK:=ps.flatMap λd=>(0,[])::(2,d.1)::(ey d.2++[(1,[])])
def A9:List (List UInt8×aM)->List (List UInt8×aM)->Bool
 |_,[]=>true
 |acc,d::e=>(lk acc d.1).isNone&&bx d.2&&A9 (acc++[d]) e
def Rg:∀(ps acc:List (List UInt8×aM)) (s:aH) (f:Nat),A9 acc ps=true->ps.length<f->cG T s.p (fV ps++(1,[])::K)->j4 T f acc s=.ok (acc++ps) {s with p:=s.p+(fV ps).length+1}
 |[],acc,s,f,_,h,d=>by obtain⟨f,rfl,_⟩:=tu (Nat.succ_le_of_lt h);obtain⟨a,_⟩:=d.cons;unfold j4;dsimp only;rw[ag a,rT io,df];rfl
 |q::ps,acc,s,f,j,h,d=>by
  obtain⟨f,rfl,G⟩:=tu (Nat.succ_le_of_lt h);unfold A9 at j;simp only[bf,Option.isNone_iff_eq_none]at j;obtain⟨⟨D,E⟩,F⟩:=j;have d:cG T s.p ((0,[])::(2,q.1)::(ey q.2++(1,[])::(fV ps++(1,[])::K))):=by
   have:fV (q::ps)=(0,[])::(2,q.1)::(ey q.2++[(1,[])])++fV ps:=dI
   grind
  obtain⟨a,_,_,z⟩:=d.cons;obtain⟨k,e,A⟩:=iG (s:={s with p:=s.p+1}) z dl;obtain⟨w,B⟩:=HU (s:={s with p:=s.p+1+1}) E A;obtain⟨x,_,C⟩:=iG (s:={s with p:=s.p+1+1+(ey q.2).length}) B dl;have y:=Rg ps (acc++[q]) {s with p:=s.p+1+1+(ey q.2).length+1} f F (by grind) C;conv=>lhs;unfold j4
  dsimp only;rw[ad io,ad io,rT io,k];show(if(lk acc (aK T (s.p+1)).text).isSome then _ else _)=_;have e:(aK T (s.p+1)).text=q.1:=e;rw[e,D];show PR.b (il T {s with p:=s.p+1+1}) _=_;rw[w];show PR.b (bU T 1 {s with p:=s.p+1+1+(ey q.2).length}) _=_;rw[x];show j4 T f (acc++[q]) {s with p:=s.p+1+1+(ey q.2).length+1}=_;rw[y,dS];have:(fV (q::ps)).length=2+(ey q.2).length+1+(fV ps).length:=by
   unfold fV
   grind
  grind
def Rf:∀d:List (List UInt8×aM),d.length<=(fV d).length
 |[]=>bz _
 |q::d=>by
  have e:fV (q::d)=(0,[])::(2,q.1)::(ey q.2++[(1,[])])++fV d:=dI;have:=Rf d
  grind
def BP:Nat->List TK->Bool
 |_,[]=>false
 |d,t::K=>if t.1=6\/t.1=1/\d=0 then false else if(if t.1=0 then d+1 else if t.1=1 then d - 1 else d)=0 then K.isEmpty else BP (if t.1=0 then d+1 else if t.1=1 then d - 1 else d) K
def TE:∀(KB:List TK) (d:Nat) (s:aH) (f:Nat),BP d KB=true->KB.length<=f->cG T s.p (KB++K)->k5 T f d s=.ok () {s with p:=s.p+KB.length}
 |[],d,s,f,e,_,_=>by cases e
 |t::KB,d,s,f,e,z,y=>by
  obtain⟨f,rfl,A⟩:=tu (q:=KB.length) (n:=f) z;obtain⟨h,C⟩:=t;obtain⟨a,_,_,B⟩:=y.cons;unfold BP at e;dsimp only at e;split at e
  .cases e
  rename_i j;have k:¬h=6:=λe=>j (.inl e);have w:¬(h=1/\d=0):=λe=>j (.inr e);conv=>lhs;unfold k5
  dsimp only;rw[a,ad k,ad w,rT io];generalize(if h=0 then d+1 else if h=1 then d - 1 else d)=d' at e ⊢;by_cases x:d'=0
  .grind
  .rw [ad x]at e ⊢;rw[TE KB _ {s with p:=s.p+1} f e A B]
   grind
def m0(nm:List UInt8)(ps:List (List UInt8×aM))(KB:List TK):List TK:=(0,[])::(2,[100,101,102,105,110,101])::(0,[])::(2,nm)::(fV ps++(1,[])::(KB++[(1,[])]))
def cG.len(d:cG T n K):K.length<=T.length:=by
 obtain⟨r,d⟩:=d;have:=congrArg List.length d
 grind
def fN.defn{nm:List UInt8}{ps:List (List UInt8×aM)}{KB:List TK}(w:lk x.vs nm=none)(y:lk x.ms nm=none)(J:jy nm=false)(B:A9 [] ps=true)(A:BP 0 KB=true):
  fN T 1 (m0 nm ps KB) x {x with s:={x.s with p:=x.s.p+(m0 nm ps KB).length},ms:=x.ms++[(nm,⟨ps,x.s.p+5+(fV ps).length,x.ms.length⟩)]}:=
 .one λz=>by refine⟨rfl,?_⟩;obtain⟨D,t,_,q⟩:=D0 (x:={x with s:={x.s with p:=x.s.p+1}}) z;rw[q];dsimp only;rw[ad dl,ag rfl];unfold pJ;obtain⟨j,_,E⟩:=iG (s:={x.s with p:=x.s.p+1+1}) D dl;rw[mG j];obtain⟨F,e,d⟩:=Qt (x:={x with s:={x.s with p:=x.s.p+1+1+1}}) (s:={x.s with p:=x.s.p+1+1+1}) E w y rfl;rw[mG F];have e:(aK T (x.s.p+1+1+1)).text=nm:=e;dsimp only;rw[e,ad (by grind)];have K:=Rf ps;have C:=d.len;simp only[bM,cD,List.length_nil]at C;have G:=Rg ps [] {x.s with p:=x.s.p+1+1+1+1} (T.length+1) B io d;rw[mG G];have h:cG T (x.s.p+1+1+1+1+(fV ps).length+1) (KB++[(1,[])]):=d.app.2.cons.2.2.2;have H:=TE KB 0 {x.s with p:=x.s.p+1+1+1+1+(fV ps).length+1} (T.length+1) A io h;dsimp only;rw[mG H];obtain⟨k,_,_⟩:=iG (s:={x.s with p:=x.s.p+1+1+1+1+(fV ps).length+1+KB.length}) h.app.2 dl;dsimp only;rw[mG k];dsimp only;rw[show x.s.p+1+1+1+1+(fV ps).length+1+KB.length+1=x.s.p+(m0 nm ps KB).length by unfold m0;grind,show x.s.p+1+1+1+1+(fV ps).length+1=x.s.p+5+(fV ps).length by omega];rfl
def qL(e:Bool):List UInt8:=if e then[101,100,105,116]else[97,115,115,101,114,116]
def jr(e:Bool)(nm:List UInt8)(KT:List TK):List TK:=(0,[])::(2,qL e)::(2,nm)::(KT++[(1,[])])
def fN.Wa{e:Bool}{nm:List UInt8}{KT:List TK}{q k:Nat}{G1:List Nx}{d:Nx}(j:du (eP T x) q KT m x.s.g k G1)(hd:G1[k]? =some d)(O:d.st=aZ 1)(E:x.s.tm+m<=65536)(N:q<=x.ms.length *(T.length+1)+KT.length)(M:x.ms.length<=1000):
  fN T 1 (jr e nm KT) x {x with s:=⟨x.s.p+(jr e nm KT).length,x.s.tm+m,G1⟩,cs:=x.cs++[⟨if e then 2 else 1,nm,a5,k,0⟩]}:=
 .one λD=>by
  refine⟨rfl,?_⟩;obtain⟨F,t,_,A⟩:=D0 (x:={x with s:={x.s with p:=x.s.p+1}}) D;rw[A];dsimp only;have G:¬qL e=[100,101,99,108,97,114,101]:=by cases e<;>decide
  have H:¬qL e=[100,101,102,105,110,101]:=by cases e<;>decide
  have J:qL e=[97,115,115,101,114,116]\/qL e=[101,100,105,116]:=by cases e<;>decide
  have K:(if qL e=[101,100,105,116]then(2:Int)else 1)=if e then 2 else 1:=by cases e<;>decide
  rw[ad G,ad H,ag J,K];obtain⟨y,h,w⟩:=iG (s:={x.s with p:=x.s.p+1+1}) F dl;rw[mG y];have L:KT.length+1<=T.length - (x.s.p+1+1+1):=by
   obtain⟨r,j⟩:=w;have:=congrArg List.length j
   grind
  have B:dO (uW (eP T x) ⟨x.s.p+1+1+1,x.s.tm,x.s.g⟩) (eP T x) ⟨x.s.p+1+1+1,x.s.tm,x.s.g⟩=.ok k ⟨x.s.p+1+1+1+KT.length,x.s.tm+m,G1⟩:=j _ ⟨x.s.p+1+1+1,x.s.tm,x.s.g⟩ (by
   show q<=min 9223372036854775807 x.ms.length *(T.length+1)+(T.length - (x.s.p+1+1+1))+1
   grind) w.app.1 rfl E
  have C:tD T {x with s:=⟨x.s.p+1+1+1,x.s.tm,x.s.g⟩}=.ok k ⟨x.s.p+1+1+1+KT.length,x.s.tm+m,G1⟩:=by
   show PR.b (dO (uW (eP T x) ⟨x.s.p+1+1+1,x.s.tm,x.s.g⟩) (eP T x) ⟨x.s.p+1+1+1,x.s.tm,x.s.g⟩) _=_;rw[B];show(if(G1[k]?).map (·.st)=some (aZ 1)then PR.ok k _ else _)=_
   grind
  dsimp only;rw[mG C];obtain⟨z,_,_⟩:=iG (s:=⟨x.s.p+1+1+1+KT.length,x.s.tm+m,G1⟩) w.app.2 dl;dsimp only;rw[mG z];have h:(aK T (x.s.p+1+1)).text=nm:=h;dsimp only;rw[h,show x.s.p+1+1+1+KT.length+1=x.s.p+(jr e nm KT).length by unfold jr;grind]
end
def MJ{G:List Nx}{n:Nx}{i:Nat}{l:List Int}{d:Nx}(e:n.kids=(i:Int)::l)(hd:G[i]? =some d):a8 G n 0=d.st:=by
 unfold a8
 grind
def ZN{G:List Nx}{n:Nx}{i:Nat}{a:Int}{l:List Int}{d:Nx}(e:n.kids=a::(i:Int)::l)(hd:G[i]? =some d):a8 G n 1=d.st:=by
 unfold a8
 grind
def Al{G:List Nx}{i:Nat}{d:Nx}(hd:G[i]? =some d):dx G (i:Int)=true:=by
 have:=(cP.1 hd).1;unfold dx
 grind
def fH:List UInt8:=[109,109]
def kX:List UInt8:=[110,110]
def de(w:List UInt8)(K:List TK):List TK:=(0,[])::(2,w)::(K++[(1,[])])
def kh:bS:=⟨⟨0,0,[]⟩,[],[],[]⟩
def vN(d:Nx):Nx:=⟨0,[],0,0,0,ba (bl d.tx),d.st⟩
def mZ(x:bS)(d:Nx):bS:={x with s:=⟨x.s.p+(nX (bl d.tx) d.st).length,x.s.tm,(a3 x.s.g (vN d)).1⟩,vs:=x.vs++[(bl d.tx,(a3 x.s.g (vN d)).2.1.toNat)],cs:=x.cs++[⟨0,bl d.tx,d.st,((a3 x.s.g (vN d)).2.1.toNat:Nat),0⟩]}
def QN(x:bS)(d:Nx):Bool:=(lk x.vs (bl d.tx)).isNone&&(lk x.ms (bl d.tx)).isNone&&bx d.st&&ak ((a3 x.s.g (vN d)).2.2=0)
def A7:bS->List Nx->Bool
 |_,[]=>true
 |e,d::h=>QN e d&&A7 (mZ e d) h
def hy(L:List Nx):List TK:=L.flatMap λd=>nX (bl d.tx) d.st
def KH{T:List aN}:∀(L:List Nx) (x:bS),A7 x L=true->fN T L.length (hy L) x (L.foldl mZ x)
 |[],_,_=>.nil
 |d::L,x,e=>by
  unfold A7 QN at e;simp only[bf,Option.isNone_iff_eq_none,decide_eq_true_eq]at e;obtain⟨⟨⟨⟨h,j⟩,k⟩,q⟩,w⟩:=e;have:=(fN.decl (T:=T) h j k q).app (KH L (mZ x d) w);rw[Nat.add_comm]at this;have y:hy (d::L)=nX (bl d.tx) d.st++hy L:=dI
  grind
def FD(x:bS)(nm:List UInt8)(ps:List (List UInt8×aM))(KB:List TK):bS:={x with s:={x.s with p:=x.s.p+(m0 nm ps KB).length},ms:=x.ms++[(nm,⟨ps,x.s.p+5+(fV ps).length,x.ms.length⟩)]}
def KI{T:List aN}{p:Nat}{nm:List UInt8}{ps:List (List UInt8×aM)}{KB K:List TK}(d:cG T p (m0 nm ps KB++K)):cG T (p+5+(fV ps).length) KB:=by
 have e:=d.app.1;have h:cG T (p+1+1+1+1) (fV ps++(1,[])::(KB++[(1,[])])):=e.cons.2.2.2.cons.2.2.2.cons.2.2.2.cons.2.2.2;have j:=h.app.2.cons.2.2.2.app.1
 grind
def Nw{L:List Nx}{i:Nat}{e:aM}(h:(L[i]?).map (·.st)=some e):∃d,L[i]? =some d/\d.st=e:=by grind
end Go.Proofs.YtkbmpalepmakmaaGreatDoor
end
