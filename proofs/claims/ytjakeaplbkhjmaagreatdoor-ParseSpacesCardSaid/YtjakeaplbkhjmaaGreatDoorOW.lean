import Derived.Test.YtjakeaplbkhjmaaGreatDoorTA
import Derived.Defers
import Derived.Recover
import Derived.Test.YtjakeaplbkhjmaaGreatDoorN6
import Derived.Test.YtjakeaplbkhjmaaGreatDoorVP
import Derived.Test.YtjakeaplbkhjmaaGreatDoorT1
import Derived.Test.YtjakeaplbkhjmaaGreatDoorN0
set_option linter.unusedVariables false
set_option maxRecDepth 100000
set_option maxHeartbeats 1000000
set_option linter.defProp false
noncomputable section
namespace Go.Proofs.YtjakeaplbkhjmaaGreatDoor
open Go renaming World->J,Calls->aj,Program->au,Value->V
open Go.IntKind renaming wrap->aD
open _root_.Int renaming toNat->aZ,tdiv->dP,tmod->ez,toNat_natCast->bG
open _root_.ByteArray renaming mk->a8
open _root_.Bool renaming and_eq_true->be
open _root_.Nat renaming le_refl->bm,le_trans->bD,zero_le->di
open _root_.UInt8 renaming ofNat->ei
open Go.Region renaming wanted->ct
open Go.Proofs.Tryz renaming prog->U
open _root_.Decidable renaming decide->ai
open Go.Ending renaming returned->ad
open List renaming mem_append->aK,mem_cons->aF,not_mem_nil->a5,mem_of_getElem?->aA,getElem?_eq_getElem->a0,getElem?_eq_some_iff->cq,mem_append_left->bV,mem_append_right->cK,mem_flatMap->cl,length_append->bb,length_cons->bx,append_assoc->cE,mem_singleton->b',length_take->gK,length_drop->dM,flatMap_append->dL,flatMap_cons->da,nodup_append->eI,mem_cons_of_mem->cJ,mem_cons_self->gq,getElem?_map->px,all_eq_true->cY,append_nil->bU,cons_append->kE,take_add_one->g5,map_append->fh,map_cons->iG,take_of_length_le->fA,drop_left->xm
open Go Go.W
def ZW{D D':List En}{w:J}(d e:En)(k:∀b∈d.fp,w.heap.size<=b)(q:∀b∈e.fp,w.heap.size<=b):∀g∈[d,e],∀b∈g.fp,w.heap.size<=b\/∃g∈D,b∈g.fp:=λg j b h=>by
 rcases aF.1 j with rfl|j
 .exact .inl (k b h)
 .rw [b'.1 j]at h;exact .inl (q b h)
section
variable {T:List aG} {Y:ml} {x:bY} {D:List En}
def aan(d:hc T Y x D){w:J}(H:O (·∈(cy Y x).flatMap (·.fp)) w w (cy Y x) D):aj U ET #[.pointer (some (ab Y.X.rb))] w (iQ T Y x D w (qc T x)):=by
 have S:=d.ok.T;have a7:=S.l;have y:qc T x=(bL T 0 x.s).s x λ_ x=>(xd (iZ T x) x.s).s x λt x=>if iz t.text then .er 6 t.aT else
  (ll T (T.length+1) [] x.s).s x λq x=>(l7 T (T.length+1) 0 x.s).s x λ_ aO=>(bL T 1 aO.s).s aO λ_ aP=>
  .ok {aP with ms:=aP.ms++[(t.text,⟨q,x.s.p,x.ms.length⟩)]}:=rfl
 refine PC.aq (H.nw λw1 hz H1=>?_);have I:=H1.freeze 4 (.c w.heap.size [.pointer (some (ab Y.X.rb))] ya) rfl (H1.get 4) (λb h=>h);have I:O (·∈(cy Y x).flatMap (·.fp)) w w1 (cy Y x) (D++[.c w.heap.size [.pointer (some (ab Y.X.rb))] ya]):=I;clear H1;obtain⟨pE,ay⟩:∃pE,pE=En.c w.heap.size [.pointer (some (ab Y.X.rb))] ya:=⟨_,rfl⟩;obtain⟨A,ao⟩:∃A,A=D++[pE]:=⟨_,rfl⟩;have C:En.c w.heap.size [.pointer (some (ab Y.X.rb))] ya∈A:=by rw[ao,ay];simp
 have I:O (·∈(cy Y x).flatMap (·.fp)) w w1 (cy Y x) A:=by rw[ao,ay];exact I
 have up:∀z∈D,z∈A:=λz Q=>by rw[ao];exact bV _ Q
 have ac:hc T Y x A:=by obtain⟨es,c,m1,B⟩:=d.mo;exact⟨⟨up _ d.tk.t,d.tk.e⟩,⟨es,c,up _ m1,B⟩,up _ d.kc,d.gr.sub up,λB k=>up _ (d.pr B k),d.ms,d.sv,d.sm,d.pm,d.kn,d.dp,d.ok,d.p,d.tm,d.mc,d.cc⟩
 refine⟨_,ke (I.rd _ C),eT (bs:=[]) I 0 rfl (ja (I.get 0) (cQ I (i:=0) rfl rfl) ac.tk d.p) (λo s1 w2 aH H2=>⟨_,_,_,rfl,?_⟩) (λz p w' er f=>hB (y.trans (kH er)) f)⟩;have y:=y.trans (jF aH);have m1:=ew S d.p dl aH;have aM:=ac.mv m1;refine⟨_,ke (H2.rd _ C),eT (bs:=[]) H2 0 rfl (Qp (H2.get 0) (AH H2 rfl) (aM.en (λz Q=>cK _ Q) gs gs) aM.p) (λt s2 w3 aI H3=>⟨_,_,_,rfl,H3.ax λM w4 H4=>H4.ae λw5 H5=>⟨_,ke (H5.rd _ C),?_⟩⟩) (λz p w' er f=>hB (y.trans (kH er)) f)⟩;have y:=y.trans (jF aI);obtain⟨n1,n2,n3⟩:=z3 aI;have n2:lk x.vs t.text=none:=n2;have n3:lk x.ms t.text=none:=n3;have m2:=m1.tr (ew S m1.l dl n1);have ar:=ac.mv m2;refine H5.av (Qn (H5.get 0) (AH H5 rfl) (ar.en (λz Q=>cK _ Q) gs gs) t.text) ?_;rintro _ G rfl E;refine⟨_,rfl,bq (λho=>⟨_,ke (E.rd _ C),gi E (jE _ 6 t G) λw' f=>hB (y.trans (af ho)) f⟩) (λho=>?_)⟩;have y:=y.trans (aa (by rw[ho];simp));have aS:Y.Ms.length=x.ms.length:=by rw[d.ms];simp
 have hlen:=X8 (ty:=bA) zF (E.ob 2) d.sm;rw[List.length_map,aS]at hlen;have E:O (·∈(cy Y x).flatMap (·.fp)) w G (cy Y {x with s:=s2}++[.g M]) A:=E;refine⟨_,ke (E.rd _ C),_,E.ld 0 6,_,hlen,E.nw λw7 bf H7=>abV H7 5 rfl (λw8 H8=>H8.hS 5 1 rfl (λw9 H9=>H9.hS 5 2 rfl (λW K=>?_)))⟩;have K:O (·∈(cy Y x).flatMap (·.fp)) w W [bz Y.X s2,.ob Y.X.mv (.map Y.e1 Y.c1),.ob Y.X.mm (.map Y.e2 Y.c2),.row jK 7 Y.X.cs (de x.cs),.g M,.c G.heap.size [.slice none 0 0,.i 0,.i (x.ms.length:Int)] jf] A:=K;have aC:O (·∈(cy Y x).flatMap (·.fp)) w W ([bz Y.X s2,.c G.heap.size [.slice none 0 0,.i 0,.i (x.ms.length:Int)] jf]++[.ob Y.X.mv (.map Y.e1 Y.c1),.ob Y.X.mm (.map Y.e2 Y.c2),.row jK 7 Y.X.cs (de x.cs),.g M]) A:=nz K (.cons _ (List.perm_append_singleton _ [_,_,_,_]));have aW:=aar (X:=Y.X) (T:=T) (ix:=(x.ms.length:Int)) (zr aC) C ar.tk ar.p;refine aW.mono λr aN k=>?_;have kp:∀{w':J},Fr (·∈[Y.X.rb,G.heap.size]) W w'->kept [M] W w':=λf b h=>by
  have h:b=M:=by simpa using h
  subst h;refine f.cD b ((En.g b).lt W (K.own (.g b) gs) b (by simp[En.g])) λF=>?_;rcases aF.1 F with rfl|F
  .exact jS K.nd (i:=4) (j:=0) rfl rfl dl Y.X.rb (by simp[En.g]) (by simp[En.ob])
  .rw [b']at F;subst F;exact jS K.nd (i:=4) (j:=5) rfl rfl dl G.heap.size (by simp[En.g]) (by simp[En.ob])
 unfold yr at k;split at k
 case h_2 z p ex=>
  obtain⟨rfl,f⟩:=k;refine .inl ⟨_,rfl,hB (y.trans (kH ex)) (K.fr.trans f λb h F=>?_)⟩;rcases aF.1 F with rfl|F
  .exact cl.2 ⟨bz Y.X x.s,gs,by simp[En.ob]⟩
  .rw [b']at F;subst F;have:=E.fr.size;omega
 case h_1 q s3 ex=>
 obtain⟨rfl,sl,Z⟩:=k;refine .inr ⟨⟨_,rfl⟩,kp Z.fr,?_⟩;have y:=y.trans (jF ex);obtain⟨aY,aV,bc⟩:=FR S _ _ _ _ _ m2.l gs (di _) ex;have m3:=m2.tr aY;have aG:O (·∈(cy Y x).flatMap (·.fp)) w aN ([bz Y.X s3,.c G.heap.size [sl.v,.i 0,.i (x.ms.length:Int)] jf,.row ma 4 sl (e5 q)]++[.ob Y.X.mv (.map Y.e1 Y.c1),.ob Y.X.mm (.map Y.e2 Y.c2),.row jK 7 Y.X.cs (de x.cs),.g M]) (A++[]):=zt aC (by rw[bU];exact Z) (λa6 hd=>by cases hd);rw[bU]at aG;have ap:O (·∈(cy Y x).flatMap (·.fp)) w aN [bz Y.X s3,.ob Y.X.mv (.map Y.e1 Y.c1),.ob Y.X.mm (.map Y.e2 Y.c2),.row jK 7 Y.X.cs (de x.cs),.c G.heap.size [sl.v,.i 0,.i (x.ms.length:Int)] jf,.row ma 4 sl (e5 q),.g M] A:=nz aG (.cons _ (List.perm_append_comm_assoc [_,_] [_,_,_] [_]));refine⟨rfl,_,ke (ap.rd _ C),_,ap.ld 0 1,ap.hS 4 1 rfl (λbg ah=>⟨_,ke (ah.rd _ C),eT ah 0 rfl (aau (ah.get 0) (cQ ah (i:=0) rfl rfl) ac.tk m3.l) (λu s4 bh e4 ak=>⟨rfl,_,ke (ak.rd _ C),?_⟩) (λz p w' er f=>hB (y.trans (kH er)) f)⟩)⟩;have y:=y.trans (jF e4);have a1:=GB S _ _ _ _ m3.l e4;have m4:=m3.tr a1;refine eT ak 0 rfl (ja (ak.get 0) (cQ ak (i:=0) rfl rfl) ac.tk m4.l) (λa4 s5 bi aJ aQ=>⟨_,_,_,rfl,aQ.ae λbj L=>⟨_,ke (L.rd _ C),_,L.ld 0 6,sl,(s3.p:Int),(x.ms.length:Int),L.ld 4 0,L.ld 4 1,L.ld 4 2,?_⟩⟩) (λz p w' er f=>hB (y.trans (kH er)) f);have y:=y.trans (jF aJ);have m5:=m4.tr (ew S m4.l dl aJ);obtain⟨az,an,u1,u2,a3,u4,_⟩:=vu zF (L.ob 2) d.sm (ba t.text) (oa (sl,⟨q,s3.p,x.ms.length⟩)) (by
  rw[YQ];rw[d.ms,zw (λB:Sl×PM=>B.2)]at n3;cases N:lk Y.Ms t.text with
  |none=>rfl
  |some B=>rw[N]at n3;cases n3)
 have am:=L.gb 2 (.ob Y.X.mm (.map an (Y.c2+1))) rfl (u4.mono λx _ z=>by simp[En.ob,z]) u2 (λb h=>.inl h);refine⟨az,u1,Hf L 2 rfl u4,?_⟩;have am:O (·∈(cy Y x).flatMap (·.fp)) w az [bz Y.X s5,.ob Y.X.mv (.map Y.e1 Y.c1),.ob Y.X.mm (.map an (Y.c2+1)),.row jK 7 Y.X.cs (de x.cs),.c G.heap.size [sl.v,.i (s3.p:Int),.i (x.ms.length:Int)] jf,.row ma 4 sl (e5 q),.g M] A:=am;have aX:=am.get 5;have aB:=(am.freeze 5 (.a2 4 sl (e5 q)) rfl (show aL az ma 4 sl (e5 q)from aX).a2 (λb h=>by
  have h:b∈(if e5 q=[]then[]else aR sl):=h;split at h
  .cases h
  .exact h)).take 4
 have eD:A++[En.a2 4 sl (e5 q)]=D++[pE,En.a2 4 sl (e5 q)]:=by rw[ao];simp
 rw[eD]at aB;have ag:∀z∈D,z∈D++[pE,En.a2 4 sl (e5 q)]:=λz Q=>bV _ Q;have P:=d.mv m5;have p5:=m5.p;have a9:=d.mc;refine u3 (Y':={Y with Ms:=Y.Ms++[(t.text,(sl,⟨q,s3.p,x.ms.length⟩))],e2:=an,c2:=Y.c2+1}) y rfl aB ?_ (ZW (D':=[]) _ _ (λb h=>?_) (λb h=>?_))
 .obtain ⟨es,c,q1,q2⟩:=d.mo;refine⟨⟨ag _ d.tk.t,d.tk.e⟩,⟨es,c,ag _ q1,q2⟩,ag _ d.kc,P.gr.sub ag,λB k=>?_,?_,d.sv,?_,d.pm,d.kn,d.dp,⟨P.ok.T,P.ok.vs,P.ok.pm,λB k=>?_⟩,P.p,P.tm,?_,P.cc⟩
  .rcases aK.1 k with k|k
   .exact ag _ (d.pr B k)
   .rw [b'.1 k];exact cK _ gs
  .show x.ms++[(t.text,(⟨q,s3.p,x.ms.length⟩:PM))]=(Y.Ms++[_]).map _;rw[fh,<-d.ms];rfl
  .show eY an ((Y.Ms++[_]).map qm);rw[fh];exact a3
  .have k:B∈x.ms++[(t.text,(⟨q,s3.p,x.ms.length⟩:PM))]:=k;show B.2.ix<(x.ms++[(t.text,(⟨q,s3.p,x.ms.length⟩:PM))]).length/\_;rw[bb];rcases aK.1 k with k|k
   .obtain ⟨o1,o2,o3,o4⟩:=d.ok.ms B k;have o1:B.2.ix<x.ms.length:=o1;exact⟨by simp;omega,o2,o3,o4⟩
   .rw [b'.1 k];have:=m3.l;exact⟨gs,m3.l,aV,by show q.length<=100000;omega⟩
  .show (x.ms++[(t.text,(⟨q,s3.p,x.ms.length⟩:PM))]).length<=s5.p;rw[bb];simp;omega
 .rw [ay]at h;have:b=w.heap.size:=by simpa[En.ob]using h
  omega
 .have aw:b∈(En.row ma 4 sl (e5 q)).fp:=by
   have h:b∈(if e5 q=[]then[]else aR sl):=h;split at h
   .cases h
   .exact h
  have aU:=Z.new _ (aA (i:=2) rfl) b aw;have bd:w.heap.size<=W.heap.size:=K.fr.size;rcases aU with N|N
  .omega
  .exfalso;rcases aF.1 N with rfl|N
   .exact jS Z.nd (i:=2) (j:=0) rfl rfl dl _ aw (by simp[En.ob])
   .rw [b']at N;subst N;exact jS Z.nd (i:=2) (j:=1) rfl rfl dl _ aw (by simp[En.ob])
end
structure nQ(N:Nat)(T:List aG):Prop where
 so:mn N
 n:N+1<=1000000
 f:∀t∈T,t.kind=5->∀S,hU t.text=.inr S->jv N (cG S.tp)
 t:∀(tm:aJ->PR Nat) (wd:List UInt8) (s:aJ) (n:Nx) (s':aJ),iC T tm wd s=.ok n s'->mq n
section
variable {N:Nat} {T:List aG} {Y:ml} {x:bY} {D:List En}
def acJ(d:nQ N T){E:b3}(h:E.T=T)(s:aJ)(e:List (List UInt8×(Sl×PM))):iT E e (dO (t' E s) E) s.p/\kX E (dO (t' E s) E) s.p:=
 ⟨F6 d.so d.n d.f d.t (t' E s) E s.p h (bm _),λk n j _=>xU _ E k n j (di _)⟩
def aak(hX:nQ N T)(C:hc T Y x D){w:J}(H:O (·∈(cy Y x).flatMap (·.fp)) w w (cy Y x) D):aj U EP #[.pointer (some (ab Y.X.rb))] w (iQ T Y x D w (lN T x)):=by
 have hT:=C.ok.T;have aw:T.length<=100000:=hT.l;have e:lN T x=(bL T 2 x.s).s x λw x=>
  if w.text=[100,101,99,108,97,114,101]then qb T w x else
  if w.text=[100,101,102,105,110,101]then qc T x else
  if w.text=[97,115,115,101,114,116]\/w.text=[101,100,105,116]then
   (bL T 2 x.s).s x λt x=>(sI T x).s x λn x=>(bL T 1 x.s).s x λ_ x=>.ok {x with cs:=x.cs++[⟨if w.text=[101,100,105,116]then 2 else 1,t.text,a6,n,0⟩]}else
  if w.text=[114,101,116,114,97,99,116]then(bL T 2 x.s).s x λt x=>(bL T 1 x.s).s x λ_ x=>.ok {x with cs:=x.cs++[⟨3,t.text,a6,0,0⟩]}else
  if w.text=[112,117,115,104]then(bL T 1 x.s).s x λ_ x=>.ok {x with cs:=x.cs++[⟨4,[],a6,0,0⟩]}else
  if w.text=[112,111,112]then(bL T 1 x.s).s x λ_ x=>.ok {x with cs:=x.cs++[⟨5,[],a6,0,0⟩]}else
  if w.text=[99,104,101,99,107]then(dg T x.s).s x λn ag=>if 1099511627776<n then .er 5 (aO T x.s.p).aT else(bL T 1 ag.s).s ag λ_ x=>.ok {x with cs:=x.cs++[⟨6,[],a6,0,n⟩]}else
  .er 2 w.aT:=rfl
 have ay:=C.cc;generalize hq:lN T x=q at e ⊢;have fin:∀(j:Nat) (R:List En) (c:fE) (Y1:ml) (x1:bY) (D1 D':List En) (w1:J),Y1.X.rb=Y.X.rb->D1=D++D'->(∀ac∈D',∀b∈ac.fp,w.heap.size<=b\/∃g∈D,b∈g.fp)->O (·∈(cy Y x).flatMap (·.fp)) w w1 (cy Y1 x1++R) D1->hc T Y1 x1 D1->En.g j∈R->
   q=((bL T 1 x1.s).s x1 λ_ x=>.ok {x with cs:=x.cs++[c]})->uJ.bC (ab Y1.X.rb) j c.k (ba c.nm) c.st.k c.st.n c.st.x c.nd c.n w1 (iQ T Y x D w q):=by
  intro j R c Y1 x1 D1 D' w1 hy hD am H1 B Z e;subst hD;refine eT (X:=Y1.X) H1 0 rfl (ja (H1.get 0) (cQ H1 (i:=0) rfl rfl) B.tk B.p) (λcl M w2 K H2=>⟨_,_,_,rfl,H2.ae (λw3 W=>?_) (λb h=>?_)⟩) (λQ p w' er f=>hB (e.trans (kH er)) f) (λb h=>?_)
  .have m:=ew hT B.p dl K;have hp:=m.p;have h1:=B.cc;have h2:=B.p;refine Jf (R:=R) (show O _ w w3 (cy Y1 {x1 with s:=M}++R) _ from W) (B.mv m) c (by show x1.cs.length+1<=M.p;omega) (by show x1.cs.length<=100000;omega) (λb h=>by rw[b'.1 h];exact Z) λY' z ar y an=>?_;exact u3 (e.trans (jF K)) (ar.trans hy) (y.take 4) an am
  .rw [b'.1 h];exact cK [_,_,_,_] Z
  .rw [b'.1 h];exact cK [_,_,_] Z
 refine uJ.aq (eT (bs:=[]) H 0 rfl (ja (H.get 0) (cQ H (i:=0) rfl rfl) C.tk C.p) (λG L w1 e1 H1=>⟨_,_,_,rfl,H1.ax λF w2 H2=>H2.ax λj w3 W=>?_⟩) (λQ p w' er f=>hB (e.trans (kH er)) f));have m1:=ew hT C.p dl e1;have e:=e.trans (jF e1);have B:=C.mv m1;have W:O (·∈(cy Y x).flatMap (·.fp)) w w3 (cy Y {x with s:=L}++[.g F,.g j]) D:=W;have tr:∀(k:Int) (z:J),O (·∈(cy Y x).flatMap (·.fp)) w z (cy Y {x with s:=L}++[.g F,.g j]) D->
   q=((bL T 2 L).s {x with s:=L} λt x=>(sI T x).s x λn x=>(bL T 1 x.s).s x λ_ x=>.ok {x with cs:=x.cs++[⟨k,t.text,a6,n,0⟩]})->
   uJ.bh (ab Y.X.rb) j k (ba []) 0 0 0 0 0 z (iQ T Y x D w q):=λk z y e=>by
  refine eT (X:=Y.X) y 0 rfl (ja (y.get 0) (cQ y (i:=0) rfl rfl) C.tk B.p) (λt M P K A=>⟨_,_,_,rfl,A.ae λw6 I=>?_⟩) (λQ p w' er f=>hB (e.trans (kH er)) f);have e:=e.trans (jF K);have m2:=m1.tr (ew hT B.p dl K);have S:=C.mv m2;have I:O (·∈(cy Y x).flatMap (·.fp)) w w6 (cy Y {x with s:=M}++[.g F,.g j]) D:=I;obtain⟨hC,hI⟩:=acJ hX (E:=iZ T {x with s:=M}) rfl M Y.Ms;refine mV (X:=Y.X) I 0 rfl C.gr.d (aaw hC hI (I.get 0) (AH I rfl) (S.en (λQ he=>cK _ he) gs gs) (S.gr.sub λQ he=>cK _ he) S.ok (bm _) S.p S.tm) (λn s3 g' l' v w7 e3 hv hG Z H7=>?_) (λQ p w' er f=>hB (e.trans (kH (q:=sI T _) er)) f);subst hv;have e:=e.trans (jF (q:=sI T {x with s:=M}) e3);obtain⟨n',av,e4,e5⟩:=cU e3;have e6:n'=n/\av=s3:=by
   split at e5
   .cases e5;exact⟨rfl,rfl⟩
   .cases e5
  rw[e6.1,e6.2]at e4;have ao:=(hI M n s3 (bm _) S.p S.tm S.gr.v S.ok e4).1;refine⟨_,rfl,H7.ae λw8 H8=>?_⟩;refine fin j [.g F,.g j] ⟨k,t.text,a6,n,0⟩ {Y with X:={Y.X with g:=g'},l:=l'} {x with s:=s3} _ [.gr g' l'] w8 rfl rfl (λac hd b ak=>?_) H8 (S.grow ao hG λQ he=>bV _ he) gs e;rw[b'.1 hd]at ak;exact(Z b ak).elim (λh=>.inr ⟨_,C.gr.d,h⟩) .inl
 have rest:∀z,O (·∈(cy Y x).flatMap (·.fp)) w z (cy Y {x with s:=L}++[.g F,.g j]) D->G.text≠[100,101,99,108,97,114,101]->G.text≠[100,101,102,105,110,101]->G.text≠[97,115,115,101,114,116]->G.text≠[101,100,105,116]->
   uJ.cF (ab Y.X.rb) F G.kind (ba G.text) G.aT j 0 (ba []) 0 0 0 0 0 (ba G.text) z (iQ T Y x D w q):=λz y h1 h2 h3 h4=>by
  rw[aa h1,aa h2,aa (by simp[h3,h4])]at e;refine eo (b:=[114,101,116,114,97,99,116]) (λh=>y.ae λP A=>?_) (λh5=>?_)
  .rw [af h]at e;refine eT (X:=Y.X) A 0 rfl (ja (A.get 0) (cQ A (i:=0) rfl rfl) C.tk B.p) (λt M w6 K I=>⟨_,_,_,rfl,I.ae λw7 H7=>?_⟩) (λQ p w' er f=>hB (e.trans (kH er)) f);have m2:=m1.tr (ew hT B.p dl K);refine fin j [.g F,.g j] ⟨3,t.text,a6,0,0⟩ Y {x with s:=M} D [] w7 rfl gs (λac hd=>by cases hd) H7 (C.mv m2) gs (e.trans (jF K))
  rw[aa h5]at e;refine eo (b:=[112,117,115,104]) (λh=>y.ae λP A=>?_) (λh6=>?_)
  .rw [af h]at e;exact fin j [.g F,.g j] ⟨4,[],a6,0,0⟩ Y {x with s:=L} D [] P rfl gs (λac hd=>by cases hd) A B gs e
  rw[aa h6]at e;refine eo (b:=[112,111,112]) (λh=>y.ae λP A=>?_) (λh7=>?_)
  .rw [af h]at e;exact fin j [.g F,.g j] ⟨5,[],a6,0,0⟩ Y {x with s:=L} D [] P rfl gs (λac hd=>by cases hd) A B gs e
  rw[aa h7]at e;refine eo (b:=[99,104,101,99,107]) (λh=>y.ae λP A=>?_) (λh8=>?_)
  .rw [af h]at e;have ht:=(qH B.p).2;generalize aO T ({x with s:=L}:bY).s.p=t at ht e;refine⟨Y.X.tk,A.ld 0 0,_,A.ld 0 1,Bb (A.rd _ C.tk.t) rfl ht λp ap c=>⟨t.kind,ba t.text,t.aT,c.c0,c.c1,c.c2,A.ax λb4 w6 I=>?_⟩⟩;have c':=G5 (I.rd _ C.tk.t) (X:=(L.p:Int)) rfl ht ap;refine⟨c'.c0,c'.c1,c'.c2,I.ld 0 1,I.ld 0 0,I.ae λw7 H7=>?_⟩;refine eT (X:=Y.X) H7 0 rfl (uT (H7.get 0) (cQ H7 (i:=0) rfl rfl) C.tk B.p) (λn M w8 K H8=>⟨_,rfl,aY (λhn=>H8.ae λw9 H9=>?_) (λhn=>H8.ae λw9 H9=>?_)⟩) (λQ p w' er f=>hB (e.trans (kH er)) f)
   .exact gi H9 (jE _ 5 t w9) λw' f=>hB ((e.trans (jF K)).trans (af io)) f
   .have m2:=m1.tr (k7 hT B.p K).1;exact fin j [.g F,.g j,.g b4] ⟨6,[],a6,0,n⟩ Y {x with s:=M} D [] w9 rfl gs (λac hd=>by cases hd) H9 (C.mv m2) gs ((e.trans (jF K)).trans (aa io))
  rw[aa h8]at e;have hk:=(rY e1).2.1;exact gi y (qy _ G z) λw' f=>by rw[hk];exact hB e f
 refine eo (b:=[100,101,99,108,97,114,101]) (λh=>W.ae λz y=>?_) (λh1=>?_)
 .rw [af h]at e;exact Gu (R:=[.g F,.g j]) (show O _ w z (cy Y {x with s:=L}++[.g F,.g j]) D from y) (λH'=>aam B H' (by show x.cs.length<=100000;have:=C.p;omega) G) (λag Y' D' P ey hy A ah Z=>⟨rfl,u3 (e.trans ey) hy (A.take 4) ah Z⟩) (λQ p w' er f=>hB (e.trans er) f)
 refine eo (b:=[100,101,102,105,110,101]) (λh=>W.ae λz y=>?_) (λh2=>?_)
 .rw [aa h1,af h]at e;exact Gu (R:=[.g F,.g j]) (show O _ w z (cy Y {x with s:=L}++[.g F,.g j]) D from y) (λH'=>aan B H') (λag Y' D' P ey hy A ah Z=>⟨rfl,u3 (e.trans ey) hy (A.take 4) ah Z⟩) (λQ p w' er f=>hB (e.trans er) f)
 have term:(G.text=[97,115,115,101,114,116]\/G.text=[101,100,105,116])->∀z,O (·∈(cy Y x).flatMap (·.fp)) w z (cy Y {x with s:=L}++[.g F,.g j]) D->uJ.a1 (ab Y.X.rb) F G.kind (ba G.text) G.aT j 0 (ba []) 0 0 0 0 0 z (iQ T Y x D w q):=λh z y=>by
  rw[aa h1,aa h2,af h]at e;refine eo (b:=[101,100,105,116]) (λh=>y.ae λP A=>?_) (λh=>y.ae λP A=>?_)
  .rw [af h]at e;exact tr 2 P A e
  .rw [aa h]at e;exact tr 1 P A e
 refine eo (b:=[97,115,115,101,114,116]) (λh=>eo (b:=[97,115,115,101,114,116]) (λ_=>W.ae λz y=>term (.inl h) z y) λh'=>absurd h h') (λh3=>?_);exact eo (b:=[101,100,105,116]) (λh=>W.ae λz y=>term (.inr h) z y) (λh4=>W.ae λz y=>rest z y h1 h2 h3 h4)
end
def e6{α:Type}{q:PR α}{y z:bY}{f:α->bY->SR}(d:q.s y f=.ok z):∃a s,q=.ok a s/\f a {y with s:=s}=.ok z:=by
 cases q with
 |ok a s=>exact⟨a,s,rfl,d⟩
 |er e p=>cases d
def TZ{s q:aJ}{n:Nx}{t:aG}{k:Nat}(h:eC s n t=.ok k q):(bP s.g n).2=0/\q.g[k]? =some (eg n (bP s.g n).1):=by
 unfold eC at h;split at h
 .rename_i d;cases h;unfold bj at d ⊢;split at d
  .rename_i e;exact absurd d e
  .rename_i e;have e:(bP s.g n).2=0:=Classical.byContradiction e;refine⟨e,?_⟩;rw[aa (by rw[e];simp)];split at d
   .rename_i i j;have:=(DX j).2;simpa using this
   .rename_i j;split at d
    .cases d
    .rename_i w;rw[aa w];simp
 .cases h
def X6{g:List Nx}{n:Nx}(d:(bP g n).2=0)(y:n.op=0\/n.op=1\/n.op=3):eg n (bP g n).1=n:=by
 unfold bP at d ⊢;split at d
 .cases d
 rename_i w;rw[aa w];rw[af io]at d ⊢;have x:n.op≠2:=io
 unfold cg at d ⊢;rw[aa x]at d ⊢;repeat' split at d
 all_goals first |(cases d;done)|skip
 rename_i e h j k q;rw[aa e,aa h,aa j,aa k,aa q];rfl
def oI(g:List Nx)(c:fE):Prop:=0<=c.nd/\(c.nd<g.length\/c.nd=0)/\((c.k=1\/c.k=2)->(g[c.nd.toNat]?).map (·.st)=some (aN 1))/\(c.k=0->g[c.nd.toNat]? =some ⟨0,[],0,0,0,ba c.nm,c.st⟩)
def oI.up{g r:List Nx}{c:fE}(h:oI g c):oI (g++r) c:=by
 have k:∀e,g[c.nd.toNat]? =some e->(g++r)[c.nd.toNat]? =some e:=λe d=>by rw[List.getElem?_append_left (cq.1 d).1];exact d
 refine⟨h.1,h.2.1.imp (λh=>by rw[bb];omega) id,λj=>?_,λj=>k _ (h.2.2.2 j)⟩;have:=h.2.2.1 j;cases d:g[c.nd.toNat]? with
 |none=>rw[d]at this;cases this
 |some e=>rw[d]at this;rw[k e d];exact this
structure jk(T:List aG)(x:bY):Prop where
 p:x.s.p<T.length
 tm:x.s.tm<=65536
 v:Vg x.s.g
 e:eX (iZ T x) x.s.g
 c:∀c∈x.cs,oI x.s.g c
structure yv(x y:bY):Prop where
 p:x.s.p<y.s.p
 g:∃r,y.s.g=x.s.g++r
 c:∃r,y.cs=x.cs++r
def jk.mv{T:List aG}{x:bY}(d:jk T x){h:aJ}(m:Mv T x.s h):jk T {x with s:=h}:=
 ⟨m.l,by show h.tm<=_;rw[m.t];exact d.tm,by show Vg h.g;rw[m.g];exact d.v,⟨d.e.T,by rw[m.g];exact d.e.vs,by rw[m.g];exact d.e.pm,d.e.ms⟩,by show ∀c∈x.cs,oI h.g c;rw[m.g];exact d.c⟩
def jk.go{T:List aG}{x:bY}(h:jk T x){d:aJ}(m:jN T x.s d):jk T {x with s:=d}:=by have:=h.e.up m.len;obtain⟨r,j⟩:=m.g;exact⟨m.l,m.t.2,m.v,⟨this.T,this.vs,this.pm,this.ms⟩,λc k=>by show oI d.g c;rw[j];exact(h.c c k).up⟩
section
variable {T:List aG} {x y:bY}
def V3(D:jk T x){w:aG}(e:qb T w x=.ok y):jk T y/\yv x y:=by
 have A:=D.e.T;obtain⟨u,s1,P,e⟩:=e6 e;obtain⟨aa,s2,Q,e⟩:=e6 e;obtain⟨Y,s3,S,e⟩:=e6 e;obtain⟨k,q,H,e⟩:=e6 e;cases e;have W:=(z3 (E:=iZ T x) P).1;have I:=ew A D.p dl W;have K:=I.tr (u' A I.l Q).1;have F:=K.tr (ew A K.l dl S);have z:=D.mv F;obtain⟨G,N⟩:=vO z.v z.p z.tm H;obtain⟨O,C⟩:=TZ H;have d:=z.go G;have C:=C.trans (congrArg some (X6 O (.inl rfl)));have Z:=F.p;have L:=G.p;obtain⟨r,er⟩:=G.g;refine⟨⟨d.p,d.tm,d.v,⟨A,λM j=>?_,d.e.pm,d.e.ms⟩,λc h=>?_⟩,⟨by show x.s.p<q.p;have L:s3.p<=q.p:=L;omega,⟨r,by show q.g=_;rw[er];show s3.g++r=_;rw[F.g]⟩,⟨_,rfl⟩⟩⟩
 .rcases aK.1 (show M∈x.vs++[(u.text,k)]from j)with j|j
  .exact d.e.vs M j
  .rw [b'.1 j];exact N
 .rcases aK.1 h with h|h
  .exact d.c c h
  .rw [b'.1 h];exact⟨Int.natCast_nonneg _,.inl (by have:k<q.g.length:=N;show(k:Int)<(q.g.length:Int);omega),λB=>(by rcases B with B|B<;>cases B),λ_=>C⟩
def V4(k:jk T x)(e:qc T x=.ok y):jk T y/\yv x y:=by
 have d:=k.e.T;obtain⟨o,s1,H,e⟩:=e6 e;obtain⟨t,s2,I,e⟩:=e6 e;split at e
 .cases e
 obtain⟨A,s3,K,e⟩:=e6 e;obtain⟨u,s4,L,e⟩:=e6 e;obtain⟨Z,s5,M,e⟩:=e6 e;cases e;have C:=ew d k.p dl H;have P:=(z3 (E:=iZ T x) I).1;have D:=C.tr (ew d C.l dl P);obtain⟨O,N,aa⟩:=FR d _ _ _ _ _ D.l gs (di _) K;have w:=D.tr O;have F:=w.tr (GB d _ _ _ _ w.l L);have z:=F.tr (ew d F.l dl M);have j:=k.mv z;have B:=d.l;have B:T.length<=100000:=B;have Y:=w.l;refine⟨⟨j.p,j.tm,j.v,⟨d,j.e.vs,j.e.pm,λq h=>?_⟩,j.c⟩,⟨z.p,⟨[],by rw[bU];exact z.g⟩,⟨[],(bU _).symm⟩⟩⟩;have h:q∈x.ms++[(t.text,(⟨A,s3.p,x.ms.length⟩:PM))]:=h;show q.2.ix<(x.ms++[(t.text,(⟨A,s3.p,x.ms.length⟩:PM))]).length/\_;rw[bb];rcases aK.1 h with h|h
 .obtain ⟨G,Q,S,W⟩:=k.e.ms q h;have G:q.2.ix<x.ms.length:=G;exact⟨by simp;omega,Q,S,W⟩
 .rw [b'.1 h];exact⟨gs,Y,N,by show A.length<=100000;omega⟩
def VO(h:jk T x)(e:lN T x=.ok y):jk T y/\yv x y:=by
 have C:=h.e.T;have fin:∀{c:fE} {x1:bY},jk T x1->x.s.p<=x1.s.p->(∃r,x1.s.g=x.s.g++r)->x1.cs=x.cs->oI x1.s.g c->((bL T 1 x1.s).s x1 λ_ x=>.ok {x with cs:=x.cs++[c]})=.ok y->jk T y/\yv x y:=λ{c x1} z hp W S A e=>by
  obtain⟨cl,B,w,e⟩:=e6 e;cases e;have m:=ew C z.p dl w;have d:=z.mv m;obtain⟨r,er⟩:=W;have mp:=m.p;refine⟨⟨d.p,d.tm,d.v,⟨C,d.e.vs,d.e.pm,d.e.ms⟩,λM E=>?_⟩,⟨by show x.s.p<B.p;omega,⟨r,by show B.g=_;rw[m.g];exact er⟩,⟨[c],by show x1.cs++[c]=_;rw[S]⟩⟩⟩;rcases aK.1 E with E|E
  .exact d.c M E
  .rw [b'.1 E];show oI B.g c;rw[m.g];exact A
 have G:∀(k n:Int) (nm:List UInt8),3<=k->∀g,oI g ⟨k,nm,a6,0,n⟩:=λk n nm A g=>⟨Int.le_refl _,.inr rfl,λh=>by have h:k=1\/k=2:=h;omega,λh=>by have h:k=0:=h;omega⟩;obtain⟨Z,F,N,e⟩:=e6 e;have j:=ew C h.p dl N;have z:=h.mv j;have L:=j.p;have K:∃r,F.g=x.s.g++r:=⟨[],by rw[bU];exact j.g⟩;dsimp only at e;split at e
 .obtain ⟨a,b⟩:=V3 z e;obtain⟨r,er⟩:=b.g;have D:=b.p;exact⟨a,⟨by have D:F.p<y.s.p:=D;omega,⟨r,by rw[er];show F.g++r=_;rw[j.g]⟩,b.c⟩⟩
 split at e
 .obtain ⟨a,b⟩:=V4 z e;obtain⟨r,er⟩:=b.g;have D:=b.p;exact⟨a,⟨by have D:F.p<y.s.p:=D;omega,⟨r,by rw[er];show F.g++r=_;rw[j.g]⟩,b.c⟩⟩
 split at e
 .rename_i hw;obtain⟨t,B,w,e⟩:=e6 e;obtain⟨n,s3,O,e⟩:=e6 e;have q:=j.tr (ew C j.l dl w);have d:=h.mv q;obtain⟨n',aa,P,H⟩:=cU O;split at H
  .rename_i Y;cases H;obtain⟨I,_,q3⟩:=xU _ _ B n s3 (di _) d.p d.tm d.v d.e P;have Q:=d.go I;obtain⟨r,er⟩:=I.g;have p2:=q.p;have p3:=I.p;refine fin Q (by show x.s.p<=s3.p;omega) ⟨r,by show s3.g=_;rw[er,q.g]⟩ rfl ⟨Int.natCast_nonneg _,.inl (by show(n:Int)<(s3.g.length:Int);omega),λ_=>?_,λA=>?_⟩ e
   .exact Y
   .have A:(if Z.text=[101,100,105,116]then(2:Int)else 1)=0:=A;split at A<;>cases A
  .cases H
 split at e
 .obtain ⟨t,B,w,e⟩:=e6 e;have q:=j.tr (ew C j.l dl w);exact fin (h.mv q) (Nat.le_of_lt q.p) ⟨[],by rw[bU];exact q.g⟩ rfl (G 3 0 _ dl _) e
 split at e
 .exact fin z (Nat.le_of_lt L) K rfl (G 4 0 _ dl _) e
 split at e
 .exact fin z (Nat.le_of_lt L) K rfl (G 5 0 _ dl _) e
 split at e
 .obtain ⟨n,B,w,e⟩:=e6 e;split at e
  .cases e
  .have q:=j.tr (k7 C j.l w).1;exact fin (h.mv q) (Nat.le_of_lt q.p) ⟨[],by rw[bU];exact q.g⟩ rfl (G 6 n _ dl _) e
 .cases e
end
def abI{x:SR}{f:bY->SR}{e:Int}{p:Nat}(d:x=.er e p):x.b f=.er e p:=by subst d;rfl
def abJ{x:SR}{f:bY->SR}{y:bY}(d:x=.ok y):x.b f=f y:=by subst d;rfl
section
variable {N:Nat} {T:List aG} {Y:ml} {x:bY} {D:List En}
def aat(hX:nQ N T)(hS:hc T Y x D)(P:jk T x){w:J}(H:O (·∈(cy Y x).flatMap (·.fp)) w w (cy Y x) D):aj U EZ #[.pointer (some (ab Y.X.rb))] w (iQ T Y x D w (iH T (T.length+1) x)):=by
 have hT:=P.e.T;have loop:∀(f:Nat) (d:ml) (x1:bY) (D':List En) (F:J) (q:SR),T.length - x1.s.p<f->d.X.rb=Y.X.rb->jk T x1->O (·∈(cy Y x).flatMap (·.fp)) w F (cy d x1) (D++D')->hc T d x1 (D++D')->(∀z∈D',∀b∈z.fp,w.heap.size<=b\/∃g∈D,b∈g.fp)->q=iH T f x1->Al.a4 (ab d.X.rb) F (iQ T Y x D w q):=by
  intro f;induction f with
  |zero=>intro d x1 D' F q hf;omega
  |succ f ih=>
   intro d x1 D' F q hf hy S G A M j;have j:q=if(aO T x1.s.p).kind=6 then .ok x1 else if(aO T x1.s.p).kind=0 then(lN T {x1 with s:=cS (aO T x1.s.p) x1.s}).b λx=>iH T f x else .er 2 (aO T x1.s.p).aT:=j;have ag:=xp (G.get 0) (cQ G (i:=0) rfl rfl) A.tk A.p;have W:(aO T x1.s.p).kind≠6->Mv T x1.s (cS (aO T x1.s.p) x1.s):=λh=>tc hT A.p h;have Z:(aO T x1.s.p).kind=6->cS (aO T x1.s.p) x1.s=x1.s:=λh=>af h;generalize aO T x1.s.p=t at j ag W Z;refine Al.bR (zH G 0 rfl rfl rfl ag λw2 H2=>⟨_,_,_,rfl,H2.ax λK w3 I=>aw (λh=>I.ae λC k=>?_) (λh=>aw (λL=>I.ae λC k=>?_) (λL=>I.ae λC k=>?_))⟩)
   .have k:O (·∈(cy Y x).flatMap (·.fp)) w C ([bz d.X (cS t x1.s),.ob d.X.mv (.map d.e1 d.c1),.ob d.X.mm (.map d.e2 d.c2),.row jK 7 d.X.cs (de x1.cs)]++[.g K]) (D++D'):=k;rw[Z h]at k;exact u3 (j.trans (af h)) hy (k.take 4) A M
   .rw [aa h,af L]at j;have m:=W h;have mp:=m.p;refine Gu (R:=[.g K]) (x:={x1 with s:=cS t x1.s}) (show O _ w C (cy d {x1 with s:=cS t x1.s}++[.g K]) _ from k) (λH'=>aak hX (A.mv m) H') (λak Y' am w5 Q ah H5 an hb=>⟨rfl,?_⟩) (λao p w' er f=>hB (j.trans (abI er)) f);obtain⟨o1,o2⟩:=VO (S.mv m) Q;have q1:=o2.p;have q1:(cS t x1.s).p<ak.s.p:=q1;rw[<-ah];have ap:=S.p;refine ih Y' ak (D'++am) w5 q io (ah.trans hy) o1 (by rw[<-cE];exact H5.take 4) (by rw[<-cE];exact an) (λz y b ac=>?_) (j.trans (abJ Q));rcases aK.1 y with y|y
    .exact M z y b ac
    .rcases hb z y b ac with E|⟨g,B,E⟩
     .exact .inl E
     .rcases aK.1 B with B|B
      .exact .inr ⟨g,B,E⟩
      .exact M g B b E
   .rw [aa h,aa L]at j;exact gi k (qy _ t C) λw' f=>by rw[aa h];exact hB j f
 exact Al.aq (loop (T.length+1) Y x [] w _ (by have:=P.p;omega) rfl P (by rw[bU];exact H) (by rw[bU];exact hS) (λz y=>by cases y) rfl)
end
structure SS(P:au)(ops:Array Oper)(Q:Exit->Act->List Frame->J->Prop)(l:List Nat)(a:Act)(cs:List Frame)(w:J):Prop where
 h:wpOpsS P ops Q l a cs w
structure SW(P:au)(ops:Array Oper)(Q:Exit->Act->J->Prop)(l:List Nat)(a:Act)(w:J):Prop where
 h:wpOps P ops Q l a w
section
variable {P:au} {ops:Array Oper} {i:Nat} {rest:List Nat} {a:Act} {cs:List Frame} {w w':J} {o:Oper} {v:V}
def qv(d:(ops.toList.drop i).head? =some o):ops[i]? =some o:=by rw[List.head?_drop]at d;simpa using d
def lu{Q:Exit->Act->List Frame->J->Prop}(e:(ops.toList.drop i).head? =some o)(q:ct o (yielded ops a.tmps)=true)(k:(execOp a.eval o).run P w=.ok (.value v) w')(d:SS P ops Q rest (a.put o.dst v) cs w'):SS P ops Q (i::rest) a cs w:=by constructor;have j:=qv e;simp only[wpOpsS,j,q,if_true,k,Oper.upon_value];exact d.h
def Rp{Q:Exit->Act->List Frame->J->Prop}(e:(ops.toList.drop i).head? =some o)(q:ct o (yielded ops a.tmps)=true)(k:(execOp a.eval o).run P w=.ok .skip w')(d:SS P ops Q rest (a.put o.dst undef) cs w'):SS P ops Q (i::rest) a cs w:=by constructor;have j:=qv e;simp only[wpOpsS,j,q,if_true,k,Oper.upon_skip];exact d.h
def aa9{Q:Exit->Act->List Frame->J->Prop}(e:(ops.toList.drop i).head? =some o)(x:ct o (yielded ops a.tmps)=true)(q:(execOp a.eval o).run P w=.ok .recover w')(j:recoverD cs=none)(d:SS P ops Q rest (a.put o.dst .nilIface) cs w'):SS P ops Q (i::rest) a cs w:=by constructor;have k:=qv e;simp only[wpOpsS,k,x,if_true,q,j];exact d.h
variable {Q:Exit->Act->J->Prop}
def AM(e:(ops.toList.drop i).head? =some o)(q:ct o (yielded ops a.tmps)=true)(k:(execOp a.eval o).run P w=.ok (.value v) w')(d:SW P ops Q rest (a.put o.dst v) w'):SW P ops Q (i::rest) a w:=by constructor;have j:=qv e;simp only[wpOps,j,q,if_true];refine .inl ?_;unfold Oper.wp;rw[k];exact d.h
def Rq(e:(ops.toList.drop i).head? =some o)(q:ct o (yielded ops a.tmps)=true)(k:(execOp a.eval o).run P w=.ok .skip w')(d:SW P ops Q rest (a.put o.dst undef) w'):SW P ops Q (i::rest) a w:=by constructor;have j:=qv e;simp only[wpOps,j,q,if_true];refine .inl ?_;unfold Oper.wp;rw[k];exact d.h
def aba{d:Deferred}(j:(ops.toList.drop i).head? =some o)(x:ct o (yielded ops a.tmps)=true)(q:(execOp a.eval o).run P w=.ok (.defer d) w')(e:SW P ops Q rest ({a with defers:=d::a.defers}.put o.dst undef) w'):SW P ops Q (i::rest) a w:=by constructor;have k:=qv j;simp only[wpOps,k,x,if_true];refine .inl ?_;unfold Oper.wp;rw[q];exact e.h
def AI{Q:Exit->Act->List Frame->J->Prop}(d:Q .normal a cs w):SS P ops Q [] a cs w:=⟨d⟩
def AK(d:Q .normal a w):SW P ops Q [] a w:=⟨d⟩
def A4{p:Addr}{inf:TypeInfo}{T:TypeId}{x y:Operand}(d:o.op=.store T x y)(j:a.eval x=.pointer (some p))(k:a.eval y=v)(hi:P.info? T=some inf)(h:v.cells.size=inf.size)(e:(storeCells p v.cells.toList 0).run P w=.ok () w'):(execOp a.eval o).run P w=.ok .skip w':=by simp[execOp,d,Instr.storeAt,j,k,Instr.sureAddr,storeVar,sizeOf,typeInfo,hi,h,e]
end
def AJ{P:au}{id:Nat}{ops:Array Oper}{Q:Exit->Act->List Frame->J->Prop}{a:Act}{cs:List Frame}{w:J}(l:List Nat)(e:List.range ops.size=l)(d:SS P ops Q l a cs w):(Code.region id ops false).wpS P Q a cs w:=wpS_region (e▸d.h)
def AL{P:au}{id:Nat}{ops:Array Oper}{Q:Exit->Act->J->Prop}{a:Act}{w:J}(l:List Nat)(e:List.range ops.size=l)(d:SW P ops Q l a w):(Code.region id ops false).wp P Q a w:=wp_region (e▸d.h)
abbrev fZ:V:=.agg #[.i 0,.i 0]
def ze{P:au}{T n:Nat}(d:(P.info? T).map (·.size)=some n):∃i,P.info? T=some i/\i.size=n:=Option.map_eq_some_iff.1 d
def Kl:(Tryz.prog.info? kP).map (·.size)=some 2:=by kernel_rfl
def Wq:(Tryz.prog.info? ha).map (·.size)=some 1:=by kernel_rfl
def Xu:(Tryz.prog.info? bA).map (·.size)=some 1:=by kernel_rfl
def aa'{P:au}{ops:Array Oper}{i:Nat}{rest:List Nat}{a:Act}{cs d:List Frame}{w w':J}{o:Oper}{v:V}{Q:Exit->Act->List Frame->J->Prop}(j:(ops.toList.drop i).head? =some o)(y:ct o (yielded ops a.tmps)=true)(x:(execOp a.eval o).run P w=.ok .recover w')(k:recoverD cs=some (v,d))(e:SS P ops Q rest (a.put o.dst v) d w'):SS P ops Q (i::rest) a cs w:=by constructor;have q:=qv j;simp only[wpOpsS,q,y,if_true,x,k];exact e.h
def ada{P:au}{id:Nat}{ops:Array Oper}{n:Cx}{K:Env->J->Prop}{a:Act}{E:Env}{w:J}{l:List Nat}(k:P.follows .mixedOrders=true)(q:du n ops=true)(j:qt P ops l (Array.replicate ops.size false)=true)(y:l.length=ops.size)(h:Ag n a E)(e:g6 P ops true K l E w.drew []):(Code.region id ops true).wp P (hJ n K) a w:=by have d:=Gs q l _ E _ [] a j h (λp x=>(by cases x)) e;rw[y]at d;exact wp_region_any k (ye _ [] _ _ _ (Down.zero _ _) d)
def aa6(p q:Addr)(w:J):CallsD U uv #[.pointer (some p),.pointer (some q)] .returning w λx D E=>x=ad (.tuple #[])/\D=.returning/\ag w E:=by
 refine callsD_of_wpS (fn:=Tryz.f41) (by kernel_rfl) rfl λc₀ k B=>?_;have z:recoverD (c₀::k)=none:=by simp[recoverD,B]
 obtain⟨inf,y,A⟩:=ze Kl;refine wpS_seq (AJ [0,1,2,3,4,5,6,7] (by kernel_rfl) ?_);refine aa9 (i:=0) (by rfl) (by kernel_rfl) (w':=w) (by kernel_rfl) z ?_;refine lu (i:=1) (by rfl) (by kernel_rfl) (w':=w) (v:=.tuple #[fZ,.bool false]) (by kernel_rfl) ?_;refine lu (i:=2) (by rfl) (by kernel_rfl) (w':=w) (v:=.tuple #[fZ,.bool false]) (by kernel_rfl) ?_;refine lu (i:=3) (by rfl) (by kernel_rfl) (w':=w) (v:=fZ) (by kernel_rfl) ?_;refine lu (i:=4) (by rfl) (by kernel_rfl) (w':=w) (v:=.bool false) (by kernel_rfl) ?_;refine lu (i:=5) (by rfl) (by kernel_rfl) (w':=w.alloc (.cells #[.i 0,.i 0] kP)) (v:=ptr w.heap.size) (by kernel_rfl) ?_;have h:O F0 w (w.alloc (.cells #[.i 0,.i 0] kP)) [.c w.heap.size [.i 0,.i 0] kP] []:=(bT (w:=w) [] gs).alloc _;obtain⟨d,C,e⟩:∃d,(storeCells (ab w.heap.size) [.i 0,.i 0] 0).run U (w.alloc (.cells #[.i 0,.i 0] kP))=.ok () d/\O F0 w d [.c w.heap.size [.i 0,.i 0] kP] []:=
  vd (P:=U) (p:=ab w.heap.size) (i:=0) (vs:=[.i 0,.i 0]) (K:=λd=>O F0 w d [.c w.heap.size [.i 0,.i 0] kP] []) rfl (h.st 0 0 rfl λF j=>j.st 0 1 rfl λd e=>e)
 refine Rp (i:=6) (by rfl) (by kernel_rfl) (w':=d) (A4 rfl (by kernel_rfl) (v:=fZ) (by kernel_rfl) y (by rw[A];rfl) C) ?_;refine lu (i:=7) (by rfl) (by kernel_rfl) (w':=d) (v:=.bool false) (by kernel_rfl) (AI ?_);refine wpS_seq (AJ [0] (by kernel_rfl) ?_);refine lu (i:=0) (by rfl) (by kernel_rfl) (w':=d) (v:=.bool false) (by kernel_rfl) (AI ?_);refine wpS_cond (t:=false) (by kernel_rfl) (wpS_of_wp (wp_skip ?_));refine⟨rfl,.returning,by cases c₀;simp_all,.tuple #[],by kernel_rfl,rfl,rfl,e.fr⟩
def Yn{M:Nat->Prop}{w0 w:J}{e:En}{L D:List En}(H:O M w0 w (e::L) D):O M w0 w L D:=by have h:=H.nd;rw[da,eI]at h;exact⟨H.fr,λg d=>H.own g (cJ _ d),H.rd,λg d=>H.new g (cJ _ d),h.2.1,λj q b k g d=>H.dj j q b k g (cJ _ d)⟩
def get_mem{t:Nat}{v:V}:∀{E:Env},E.get? t=some v->(t,v)∈E
 |[],d=>by cases d
 |(h,u)::E,d=>by
  unfold Env.get? at d;cases e:Nat.beq h t with
  |true=>
   rw[e]at d;have:=Nat.eq_of_beq_eq_true e;subst this;cases d;exact gq
  |false=>
   rw[e]at d;exact cJ _ (get_mem d)
def aa4(p q:Nat)(x0 x:V)(e:Int)(d:Nat){M:Nat->Prop}{w0 w:J}{L D:List En}(H:O M w0 w ([.c p [x0] bA,.c q [x] ha]++L) D):CallsD U uv #[.pointer (some (ab p)),.pointer (some (ab q))] (.panicking (i1 e d)) w λr u' I=>r=ad (.tuple #[])/\settle u'=.returning/\O M w0 I ([.c p [.i (d:Int)] bA,.c q [.i e] ha]++L) D:=by
 refine callsD_of_wpS (fn:=Tryz.f41) (by kernel_rfl) rfl λc₀ F hu=>?_;have Y:recoverD (c₀::F)=some (za e d,{c₀ with mode:=.panicking [{v:=za e d,recovered:=true}]}::F):=by simp[recoverD,hu,i1]
 obtain⟨inf,W,Z⟩:=ze Kl;refine wpS_seq (AJ [0,1,2,3,4,5,6,7] (by kernel_rfl) ?_);refine aa' (i:=0) (by rfl) (by kernel_rfl) (w':=w) (by kernel_rfl) Y ?_;refine lu (i:=1) (by rfl) (by kernel_rfl) (w':=w) (v:=.tuple #[.agg #[.i e,.i (d:Int)],.bool true]) (by kernel_rfl) ?_;refine lu (i:=2) (by rfl) (by kernel_rfl) (w':=w) (v:=.tuple #[.agg #[.i e,.i (d:Int)],.bool true]) (by kernel_rfl) ?_;refine lu (i:=3) (by rfl) (by kernel_rfl) (w':=w) (v:=.agg #[.i e,.i (d:Int)]) (by kernel_rfl) ?_;refine lu (i:=4) (by rfl) (by kernel_rfl) (w':=w) (v:=.bool true) (by kernel_rfl) ?_;refine lu (i:=5) (by rfl) (by kernel_rfl) (w':=w.alloc (.cells #[.i 0,.i 0] kP)) (v:=ptr w.heap.size) (by kernel_rfl) ?_;have y:O M w0 (w.alloc (.cells #[.i 0,.i 0] kP)) (.c w.heap.size [.i 0,.i 0] kP::.c p [x0] bA::.c q [x] ha::L) D:=nz (H.alloc (.cells #[.i 0,.i 0] kP)) List.perm_append_comm;obtain⟨h,r2,z⟩:∃h,(storeCells (ab w.heap.size) [.i e,.i (d:Int)] 0).run U (w.alloc (.cells #[.i 0,.i 0] kP))=.ok () h/\O M w0 h (.c w.heap.size [.i e,.i (d:Int)] kP::.c p [x0] bA::.c q [x] ha::L) D:=
  vd (P:=U) (p:=ab w.heap.size) (i:=0) (vs:=[.i e,.i (d:Int)]) (K:=λh=>O M w0 h (.c w.heap.size [.i e,.i (d:Int)] kP::.c p [x0] bA::.c q [x] ha::L) D) rfl (y.st 0 0 rfl λw1 y=>y.st 0 1 rfl λh z=>z)
 refine Rp (i:=6) (by rfl) (by kernel_rfl) (w':=h) (A4 rfl (by kernel_rfl) (v:=.agg #[.i e,.i (d:Int)]) (by kernel_rfl) W (by rw[Z];rfl) r2) ?_;refine lu (i:=7) (by rfl) (by kernel_rfl) (w':=h) (v:=.bool true) (by kernel_rfl) (AI ?_);refine wpS_seq (AJ [0] (by kernel_rfl) ?_);refine lu (i:=0) (by rfl) (by kernel_rfl) (w':=h) (v:=.bool true) (by kernel_rfl) (AI ?_);have A:=z.drew;have T:∃a:Int,h.drew.cell? ((ab w.heap.size).add 1)=some (.i a)/\∃b:Int,h.drew.cell? ((ab w.heap.size).add 0)=some (.i b)/\aM h.drew ((ab p).add 0) (.i a) λB=>B.cell? ((ab w.heap.size).add 0)=some (.i b)/\aM B ((ab q).add 0) (.i b) λk=>O M w0 k ([.c p [.i (d:Int)] bA,.c q [.i e] ha]++L) D:=by refine⟨_,A.ld 0 1,_,A.ld 0 0,?_⟩;exact A.st 1 0 rfl λB C=>⟨C.ld 0 0,C.st 2 0 rfl λk N=>Yn N⟩
 refine wpS_cond (t:=true) (by kernel_rfl) (wpS_of_wp (Go.wp_mono (ada (n:=cx 14) (l:=[0,1,2,3,4,5]) (E:=[(2,ptr w.heap.size),(0,.pointer (some (ab p))),(1,.pointer (some (ab q)))]) (K:=λ_ k=>O M w0 k ([.c p [.i (d:Int)] bA,.c q [.i e] ha]++L) D) (by kernel_rfl) (by kernel_rfl) (by kernel_rfl) (by kernel_rfl) ⟨by kernel_rfl,by kernel_rfl,λt v j=>?_⟩ (Eq.mpr (by kernel_rfl) T)) λex a' I j=>?_))
 .have G:=get_mem j;simp only[aF,a5,a9,Prod.mk.injEq]at G;rcases G with⟨rfl,rfl⟩|⟨rfl,rfl⟩|⟨rfl,rfl⟩<;>(show _=some _;kernel_rfl)
 .cases ex with
  |normal=>
   obtain⟨E',Q,S⟩:=j;exact⟨Q.defers,.panicking [{v:=za e d,recovered:=true}],rfl,.tuple #[],by kernel_rfl,rfl,rfl,S⟩
  |_=>exact j.elim
def abb{P:au}{ops:Array Oper}{i:Nat}{rest:List Nat}{a:Act}{w w':J}{o:Oper}{Q:Exit->Act->J->Prop}{f:FuncId}{args:Array V}(k:(ops.toList.drop i).head? =some o)(y:ct o (yielded ops a.tmps)=true)(x:(execOp a.eval o).run P w=.ok (.enter f args) w')(d:aj P f args w' λr j=>(∃v,r=ad v/\SW P ops Q rest (a.put o.dst v) j)\/∃c,r=.panicked c/\Q (.panic c) a j):SW P ops Q (i::rest) a w:=by
 constructor;have q:=qv k;simp only[wpOps,q,y,if_true];refine .inl ?_;unfold Oper.wp;rw[x];refine Calls.mono d λr j d=>?_;rcases d with⟨v,e,d⟩|⟨c,e,d⟩
 .subst e;exact d.h
 .subst e;exact d
def LS{P:au}{T:TypeId}{p:Addr}{n:Int}{w:J}(d:P.underlying T=some (.int .i64))(e:w.cell? p=some (.i n)):(loadVar T p).run P w=.ok (.i n) w:=by simp[loadVar,isAgg,Sem.run_bind,run_underlying d,load,Sem.run,e]
def Wo{P:au}{a:Act}{o:Oper}{w:J}{t f:Nat}{first p':Array V}{ts:Array TypeId}(e:o.op=.call ⟨.value (.tmp t),#[],ts⟩)(h:a.eval (.tmp t)=.func (.func f) first p')(d:hg P f=true):(execOp a.eval o).run P w=.ok (.enter f (first++#[]++p')) w:=by simp[execOp,e,resolve,h,Deferred.ofValue,invoke,tv d]
def ZU{f:FuncId}{first p':Array V}(hf:hg U f=true){w:J}{p:Addr}{M:Nat->Prop}(hM:∀b,M b->b<w.heap.size){Q:J->aB}(hc:∀e,ag w e->e.heap.size=w.heap.size+2->aj U f (first++#[]++p') e λr G=>(r=ad (.tuple #[])\/∃q B,r=.panicked (i1 q B))/\Fr M e G/\Q e r G):
  aj U Y0 #[.pointer (some p),.func (.func f) first p'] w λr G=>∃e j,ag w e/\e.heap.size=w.heap.size+2/\Fr (λb=>b=w.heap.size\/b=w.heap.size+1) j G/\
   ((r=ad (.tuple #[.i 0,.i 0])/\Q e (ad (.tuple #[])) j)\/∃q B,r=ad (.tuple #[.i ((B:Nat):Int),.i q])/\Q e (.panicked (i1 q B)) j):=by
 refine calls_of_wp_defers (fn:=Tryz.f19) (by kernel_rfl) rfl ?_;obtain⟨ae,h1,s1⟩:=ze Xu;obtain⟨i2,h2,s2⟩:=ze Wq;obtain⟨e,H⟩:∃e,e=w.alloc (.cells #[.i 0] bA):=⟨_,rfl⟩;obtain⟨h,I⟩:∃h,h=e.alloc (.cells #[.i 0] ha):=⟨_,rfl⟩;have z1:e.heap.size=w.heap.size+1:=by rw[H];exact size_alloc _ _
 have S:h.heap.size=w.heap.size+2:=by rw[I,size_alloc,z1]
 have E:O F0 w h [.c w.heap.size [.i 0] bA,.c e.heap.size [.i 0] ha] []:=by subst I;subst H;exact((O.start [] gs).alloc (.cells #[.i 0] bA)).alloc (.cells #[.i 0] ha)
 have N:ag w h:=E.fr;refine wp_seq (AL [0,1] (by kernel_rfl) (AM (i:=0) (by rfl) (by kernel_rfl) (w':=e) (v:=ptr w.heap.size) (by subst H;kernel_rfl) (AM (i:=1) (by rfl) (by kernel_rfl) (w':=h) (v:=ptr e.heap.size) (by subst I;kernel_rfl) (AK ?_))));refine wp_seq (AL [0,1] (by kernel_rfl) (AM (i:=0) (by rfl) (by kernel_rfl) (w':=h) (v:=.func (.func uv) #[] #[ptr w.heap.size,ptr e.heap.size]) (by kernel_rfl) (aba (i:=1) (by rfl) (by kernel_rfl) (w':=h) (d:=⟨.fn (.func uv) #[ptr w.heap.size,ptr e.heap.size],#[]⟩) (by kernel_rfl) (AK ?_))));refine wp_seq (AL [0,1] (by kernel_rfl) (AM (i:=0) (by rfl) (by kernel_rfl) (w':=h) (v:=.func (.func f) first p') (by kernel_rfl) (abb (i:=1) (by rfl) (by kernel_rfl) (w':=h) (f:=f) (args:=first++#[]++p') ?_ ((hc h N S).mono ?_))))
 .exact Wo (t:=7) rfl (by kernel_rfl) hf
 rintro r j ⟨hr,f3,Y⟩;have W:O (λb=>b=w.heap.size\/b=w.heap.size+1) j j [.c w.heap.size [.i 0] bA,.c e.heap.size [.i 0] ha] []:=by
  have aa:∀b,w.heap.size<=b->b<h.heap.size->j.heap[b]? =h.heap[b]?:=λb F hl=>f3.cD b hl λhm=>by have:=hM b hm;omega
  refine O.pD _ _ (λq Z=>?_) E.nd gs;simp only[aF,a5,a9]at Z;rcases Z with rfl|rfl
  .exact ⟨(aa _ (bm _) io).trans (E.ob 0),λb F=>.inl (by simpa[En.ob]using F)⟩
  .exact ⟨(aa _ io io).trans (E.ob 1),λb F=>.inr (by rw[<-z1];simpa[En.ob]using F)⟩
 have fin:∀(z:J) (tm:Array V) (x y:Int) (r0:Ending),tm.getD 4 undef=ptr w.heap.size->tm.getD 5 undef=ptr e.heap.size->O (λb=>b=w.heap.size\/b=w.heap.size+1) j z [.c w.heap.size [.i x] bA,.c e.heap.size [.i y] ha] []->
   (results Tryz.f19 tm).run U z=.ok (.tuple #[.i x,.i y]) z:=λz tm x y r0 t4 t5 A=>by have l1:=LS (P:=U) (T:=bA) (by kernel_rfl) (A.cA 0);have l2:=LS (P:=U) (T:=ha) (by kernel_rfl) (A.cA 1);rw[Gh];have ac:(Tryz.f19).results=#[.cell 4 bA,.cell 5 ha]:=rfl;rw[ac];simp[py,t4,t5,asAddr,l1,l2]
 rcases hr with rfl|⟨q,B,rfl⟩
 .refine .inl ⟨_,rfl,AK ?_⟩;obtain⟨k,r4,C⟩:∃k,(storeCells (ab w.heap.size) [.i 0] 0).run U j=.ok () k/\O (λb=>b=w.heap.size\/b=w.heap.size+1) j k [.c w.heap.size [.i 0] bA,.c e.heap.size [.i 0] ha] []:=
   vd (P:=U) (p:=ab w.heap.size) (i:=0) (vs:=[.i 0]) (K:=λk=>O (λb=>b=w.heap.size\/b=w.heap.size+1) j k [.c w.heap.size [.i 0] bA,.c e.heap.size [.i 0] ha] []) rfl (W.st 0 0 rfl λk C=>C)
  obtain⟨D,r5,H5⟩:∃D,(storeCells (ab e.heap.size) [.i 0] 0).run U k=.ok () D/\O (λb=>b=w.heap.size\/b=w.heap.size+1) j D [.c w.heap.size [.i 0] bA,.c e.heap.size [.i 0] ha] []:=
   vd (P:=U) (p:=ab e.heap.size) (i:=0) (vs:=[.i 0]) (K:=λk=>O (λb=>b=w.heap.size\/b=w.heap.size+1) j k [.c w.heap.size [.i 0] bA,.c e.heap.size [.i 0] ha] []) rfl (C.st 1 0 rfl λk C=>C)
  refine wp_seq (AL [0,1] (by kernel_rfl) (Rq (i:=0) (by rfl) (by kernel_rfl) (w':=k) (A4 (by rfl) (by kernel_rfl) (v:=.i 0) (by kernel_rfl) h1 (by rw[s1];rfl) r4) (Rq (i:=1) (by rfl) (by kernel_rfl) (w':=D) (A4 (by rfl) (by kernel_rfl) (v:=.i 0) (by kernel_rfl) h2 (by rw[s2];rfl) r5) (AK ?_))));refine wp_ret ?_;refine leaves_cons (f:=uv) (args:=#[ptr w.heap.size,ptr e.heap.size]) gs (by kernel_rfl) ?_;refine(aa6 (ab w.heap.size) (ab e.heap.size) D).mono ?_;rintro _ _ z ⟨rfl,rfl,f6⟩;have A:=H5.cC f6;refine⟨.tuple #[.i 0,.i 0],?_,h,j,N,S,A.fr,.inl ⟨rfl,Y⟩⟩;refine fin z _ 0 0 .outgrown ?_ ?_ A
  .kernel_rfl
  .kernel_rfl
 .refine .inr ⟨_,rfl,?_⟩;refine leaves_cons (f:=uv) (args:=#[ptr w.heap.size,ptr e.heap.size]) gs (by kernel_rfl) ?_;refine(aa4 w.heap.size e.heap.size (.i 0) (.i 0) q B (L:=[]) W).mono ?_;rintro _ u z ⟨rfl,hu,A⟩;show Leaves _ _ _ _ _ (settle u) z;rw[hu];refine⟨.tuple #[.i (B:Int),.i q],?_,h,j,N,S,A.fr,.inr ⟨q,B,rfl,Y⟩⟩;refine fin z _ _ _ .outgrown ?_ ?_ A
  .kernel_rfl
  .kernel_rfl
def Th(d:Nx):∀(g:List Nx) (k:Nat),iM (g++[d]) k=iM g k++(if d.op=0 then[(bl d.tx,k+g.length)]else[])
 |[],k=>by show(if d.op=0 then(bl d.tx,k)::[]else[])=[]++_;rw[List.nil_append];rfl
 |e::g,k=>by have h:=Th d g (k+1);show(if e.op=0 then(bl e.tx,k)::iM (g++[d]) (k+1)else iM (g++[d]) (k+1))=(if e.op=0 then(bl e.tx,k)::iM g (k+1)else iM g (k+1))++_;rw[h,bx,show k+1+g.length=k+(g.length+1)by omega];split<;>rfl
def sN(g:List Nx)(i:Nat):List UInt8×Nat:=(bl (g.getD i (ho 0)).tx,i)
def Hh(g:List Nx):iM g 0=((List.range g.length).filter (gS g)).map (sN g):=by
 have main:∀n,n<=g.length->iM (g.take n) 0=((List.range n).filter (gS g)).map (sN g):=by
  intro n;induction n with
  |zero=>intro _;rfl
  |succ n q=>
   intro w;have h:g[n]? =some (g[n]'io):=a0 io;generalize g[n]'io=d at h;have k:g.take (n+1)=g.take n++[d]:=by rw[g5,h];rfl
   rw[k,Th,q io,List.range_succ,List.filter_append,fh,gK,Nat.min_eq_left io];congr 1;have j:gS g n=ai (d.op=0):=by unfold gS;rw[h]
   by_cases e:d.op=0
   .rw [af e,List.filter_cons,j,af (aQ e)];show[(bl d.tx,0+n)]=[sN g n];unfold sN;rw[List.getD_eq_getElem?_getD,h,Nat.zero_add];rfl
   .rw [aa e,List.filter_cons,j,aa (by simp[e])];rfl
 have:=main g.length (bm _)
 rwa[List.take_length]at this
def Tg{g:List Nx}{j i:Nat}(k:((List.range g.length).filter (gS g))[j]? =some i):∃e,g[i]? =some e/\e.op=0/\sN g i=(bl e.tx,i):=by
 have d:=aA k;rw[List.mem_filter,List.mem_range]at d;have h:g[i]? =some (g[i]'d.1):=a0 d.1;refine⟨_,h,?_,?_⟩
 .have:=d.2;unfold gS at this;rw[h]at this;simpa using this
 .unfold sN;rw[List.getD_eq_getElem?_getD,h];rfl
def Tf{g:List Nx}(e:Vg g):g.Nodup:=by
 induction e with
 |nil=>exact List.nodup_nil
 |@snoc g n w x k q=>
  rw[eI];exact⟨q,gs,λa h b j d=>by rw[b'.1 j]at d;exact k (d▸h)⟩
def ac3{g:List Nx}(h:Vg g){i j:Nat}{d e:Nx}(hi:g[i]? =some d)(k:g[j]? =some e)(q:d.op=0)(w:e.op=0)(x:d.tx=e.tx):i=j:=by have z:=h.vars d (aA hi) q e (aA k) w x;have y:=var_eq (h.u7 i d hi) (h.u7 j e k) q w x z;exact(List.getElem?_inj (cq.1 hi).1 (Tf h)).1 (by rw[hi,k,y])
def ac4{g:List Nx}(z:Vg g){j i:Nat}{d:Nx}(B:((List.range g.length).filter (gS g))[j]? =some i)(hd:g[i]? =some d)(A:d.op=0):lk ((iM g 0).take j) (bl d.tx)=none:=by
 cases C:lk ((iM g 0).take j) (bl d.tx)with
 |none=>rfl
 |some G=>
  obtain⟨k,e⟩:=List.mem_iff_getElem?.1 (ky C);rw[Hh,<-List.map_take,px,List.getElem?_take]at e;split at e
  .rename_i H;cases h:((List.range g.length).filter (gS g))[k]? with
   |none=>rw[h]at e;cases e
   |some F=>
    rw[h]at e;obtain⟨q,w,x,y⟩:=Tg h;have e:sN g F=(bl d.tx,G):=by simpa using e
    rw[y]at e;have E:bl q.tx=bl d.tx:=congrArg Prod.fst e;have:=ac3 z w hd x A (by have:=congrArg ba E;rwa[kZ,kZ]at this);subst this;have D:((List.range g.length).filter (gS g)).Nodup:=List.Nodup.sublist List.filter_sublist List.nodup_range;have:k=j:=(List.getElem?_inj (cq.1 h).1 D).1 (h.trans B.symm);omega
  .cases e
def Zx{w0 w:J}{m:Nat}{es:Array MapEntry}{clock:Nat}{ms:List (ByteArray×V)}(H:O F0 w0 w [.ob m (.map es clock)] [])(y:eY es ms){k:ByteArray}{v:V}(z:l6 ms k=none){K:J->Prop}(q:∀d e h,O F0 w0 d [.ob m (.map e h)] []->eY e (ms++[(k,v)])->K d):∃d,Sem.run U (Instr.mapUpdate Hc (.map (some m)) (.string k) v) w=.ok () d/\K d:=by obtain⟨d,e,A,B,C,D,E⟩:=vu Ez (H.ob 0) y k v z;exact⟨d,A,q d e _ (H.gb 0 (.ob m (.map e (clock+1))) rfl (D.mono λF _ j=>by simp[En.ob,j]) B λb x=>.inl x) C⟩
def vX(w:J):aj U ND #[] w λr j=>(∃m e c,r=ad (.map (some m))/\w.heap.size<=m/\j.heap[m]? =some (.map e c)/\eY e r4)/\ag w j:=by
 refine PA.ok (lh (bT [] gs) λk d=>?_);have h:eY #[] []:=rfl
 iterate 26 (refine Zx d h ?_ ?_;kernel_rfl;clear d h;intro k e c d h)
 exact⟨⟨_,e,c,rfl,bm _,d.ob 0,h⟩,d.fr⟩
def uO{a x y z e d h j:En}(k:List.Perm [x,y,z] [d,h,j]):List.Perm [a,x,y,z,e] [a,e,d,h,j]:=((List.perm_append_comm (l₁:=[x,y,z]) (l₂:=[e])).trans (k.cons e)).cons a
abbrev xa(rb e h d:Nat)(j g:Sl):RC:=⟨rb,j,⟨none,0,0⟩,e,h,d,g,none,9223372036854775807,0⟩
def yp(w:J)(z g:Sl)(vs:List (List UInt8×Nat))(x:List Nx)(r:Ending)(w':J):Prop:=∃(rb j k h:Nat) (d e:Array MapEntry) (q y:Nat),r=ad (.pointer (some (ab rb)))/\eY d r4/\eY e (vs.map iN)/\O F0 w w' [bz (xa rb j k h z g) ⟨0,0,x⟩,.ob j (.map d q),.ob k (.map e y),.ob h (.map #[] 0)] []
def U9{w:J}{E g:Sl}{l:List Nd}(ao:GP w g l)(hv:Vg (xs l))(hn:l.length<=4096):aj U NC #[E.v,.agg #[g.v]] w (yp w E g (iM (xs l) 0) (xs l)):=by
 have ah:O F0 w w [] [.gr g l]:=bT _ (by intro aa he;rw[b'.1 he];exact bf.2 ao);have aL:(xs l).length=l.length:=by simp[xs]
 have fin:∀{h:J} {B rb q z D:Nat} {y:Array MapEntry} {C:Nat},eY y r4->O F0 w h [.g B,bz (xa rb q z D E g) ⟨0,0,xs l⟩,.ob q (.map y C),.ob z (.map #[] 0),.ob D (.map #[] 0)] [.gr g l]->uI.a1 B g (ab rb) h (yp w E g (iM (xs l) 0) (xs l)):=by
  intro h B rb q z D y C k d;refine d.hh (UM (bf.1 (d.getD 0)) (by unfold dD;omega)) ?_;rintro _ M ⟨F,rfl,af,av⟩ e F7;have e:=F7.own (.row bA 1 F ((vx (xs l)).map bE)) af av;have aC:=qs af;rw[Hg,List.length_map]at aC;have aH:((List.range (xs l).length).filter (gS (xs l))).length<=4096:=bD (List.length_filter_le _ _) (by rw[List.length_range];omega);have loop:∀(n i:Nat) (G:J) (es:Array MapEntry) (c:Nat),i+n=F.n->eY es (((iM (xs l) 0).take i).map iN)->O F0 w G [.g B,bz (xa rb q z D E g) ⟨0,0,xs l⟩,.ob q (.map y C),.ob z (.map es c),.ob D (.map #[] 0),.row bA 1 F ((vx (xs l)).map bE)] [.gr g l]->
    uI.cu B g (ab rb) F (F.n:Int) (i:Int) G (yp w E g (iM (xs l) 0) (xs l)):=by
   intro n;induction n with
   |zero=>
    intro i G es c hi N j;have ap:(iM (xs l) 0).take i=iM (xs l) 0:=fA (by rw[Hh,List.length_map];omega);rw[ap]at N;exact uI.dQ (aW (aS io) ⟨rb,q,z,D,y,es,C,c,rfl,k,N,(j.mR [false,true,true,true,true]).forget [] gs⟩)
   |succ n ih=>
    intro i G es c hi N j;have Y:i<((List.range (xs l).length).filter (gS (xs l))).length:=io
    have L:((List.range (xs l).length).filter (gS (xs l)))[i]? =some (((List.range (xs l).length).filter (gS (xs l)))[i]'Y):=a0 Y;generalize((List.range (xs l).length).filter (gS (xs l)))[i]'Y=v at L;obtain⟨an,S,g2,g3⟩:=Tg L;have Z:v<l.length:=by have:=(cq.1 S).1;omega
    have T:l[v]? =some (l[v]'Z):=a0 Z;generalize l[v]'Z=nd at T;have ar:nd.x=an:=by have:=m4 T;rw[S]at this;exact(Option.some.inj this).symm
    subst ar;have aG:((vx (xs l)).map bE)[i]? =some (bE (v:Int)):=by rw[Hg,List.map_map,px,L];rfl
    refine uI.dQ (aU (aQ io) (aaQ (j.get 5) rfl aG λp hp hc=>⟨(v:Int),hc,j.ae λw9 K=>⟨_,K.ld 1 5,eE (bf.1 (K.getD 0)) rfl T λaM aJ am=>⟨nd.x.tx,am.c5,?_⟩⟩⟩));obtain⟨ag,ac,u1,u2,u3,u4,u5⟩:=vu uq (K.ob 3) N nd.x.tx (.i (v:Int)) (by have:=ac4 hv L S g2;have e1:nd.x.tx=ba (bl nd.x.tx):=(kZ _).symm;rw[e1,Ti,this];rfl)
    have ak:=K.gb 3 (.ob z (.map ac (c+1))) rfl (u4.mono λaN _ aa=>by simp[En.ob,aa]) u2 λb W=>.inl W;refine⟨ag,u1,Hf K 3 rfl u4,?_⟩;rw[bp _ io];refine ih (i+1) ag ac (c+1) io ?_ ak;have ht:(iM (xs l) 0)[i]? =some (bl nd.x.tx,v):=by rw[Hh,px,L,<-g3];rfl
    rw[vl ht,fh];have e2:([(bl nd.x.tx,v)]:List (List UInt8×Nat)).map iN=[(nd.x.tx,.i (v:Int))]:=by show[(ba (bl nd.x.tx),_)]=_;rw[kZ]
    rw[e2];exact u3
  exact⟨_,rfl,loop F.n 0 M #[] 0 io rfl e⟩
 refine uI.aq (ah.ax λB w1 P=>⟨P.ae λw2 H=>H.hh (vX w2) ?_,P.ae λw2 H=>lh H λw3 I=>⟨I.hh (vX w3) ?_,lh I λw4 Q=>Q.hh (vX w4) ?_⟩,P.ae λw2 H=>lh H λw3 I=>⟨I.hh (vX w3) ?_,lh I λw4 Q=>Q.hh (vX w4) ?_⟩⟩);all_goals rintro _ w5 ⟨q,y,C,rfl,aI,aw,k⟩ _ F5
 all_goals have A:=F5.own (.ob q (.map y C)) aw (λb W=>by simp[En.ob]at W;omega)
 .refine ⟨_,rfl,lh A λh d=>lh d λM e=>e.nw λG aB j=>?_,lh A λh d=>lh d λM e=>e.nw λG aB j=>?_⟩
  .exact fin k (nz j (uO (List.Perm.refl _)))
  .exact fin k (nz j (uO ((List.Perm.swap _ _ _).cons _)))
 .exact ⟨_,rfl,lh A λh d=>d.nw λM az e=>fin k (nz e (uO (List.Perm.swap _ _ _)))⟩
 .exact ⟨_,rfl,A.nw λh ay d=>fin k (nz d (uO (List.perm_append_comm (l₁:=[_,_]) (l₂:=[_]))))⟩
 .exact ⟨_,rfl,lh A λh d=>d.nw λM az e=>fin k (nz e (uO (List.perm_append_comm (l₁:=[_]) (l₂:=[_,_]))))⟩
 .exact ⟨_,rfl,A.nw λh ay d=>fin k (nz d (uO (List.reverse_perm [_,_,_]).symm))⟩
inductive Lex:Nat->List UInt8->List aG->Prop
 |fin {i:Nat} {l:List UInt8}:fV (l.drop (aH false l))=.fin->Lex i l [⟨6,[],i+aH false l⟩]
 |tok {i:Nat} {l:List UInt8} {kd:Int} {t:List UInt8} {u:Nat} {L:List aG}:fV (l.drop (aH false l))=.tok kd t u->Lex (i+aH false l+u) ((l.drop (aH false l)).drop u) L->Lex i l (⟨kd,t,i+aH false l⟩::L)
def Ly:∀(n i:Nat) (l:List UInt8) (L:List aG),l.length<n->kN n i l=.ok L->Lex i l L
 |0,i,l,L,q,_=>io
 |n+1,i,l,L,q,d=>by
  unfold kN at d;simp only[]at d;have x:=hC false l;cases e:fV (l.drop (aH false l))with
  |fin=>rw[e]at d;cases d;exact .fin e
  |bad a k=>rw[e]at d;cases d
  |tok z t u=>
   rw[e]at d;simp only[]at d;obtain⟨_,y,w,_⟩:=pf e;rw[dM]at w;cases h:kN n (i+aH false l+u) ((l.drop (aH false l)).drop u)with
   |bad a k=>rw[h]at d;cases d
   |ok j=>
    rw[h]at d;cases d;exact .tok e (Ly n _ _ j (by simp;omega) h)
def acG{i:Nat}{l:List UInt8}{L:List aG}(e:Lex i l L):∀n,l.length<n->kN n i l=.ok L:=by
 induction e with
 |fin d=>
  intro n e;obtain⟨n,rfl⟩:∃m,n=m+1:=⟨n - 1,io⟩;unfold kN;simp only[d]
 |@tok i l w t u L d _ j=>
  intro n e;obtain⟨n,rfl⟩:∃m,n=m+1:=⟨n - 1,io⟩;unfold kN;have k:=hC false l;obtain⟨_,q,h,_⟩:=pf d;rw[dM]at h;simp only[d,j n (by simp;omega)];rfl
def Em{l:List UInt8}{L:List aG}(d:tokens l=.ok L):Lex 0 l L/\l.length<=65536:=by
 unfold tokens at d;split at d
 .cases d
 .exact ⟨Ly _ _ _ _ (Nat.lt_succ_self _) d,io⟩
def of_lex{l:List UInt8}{L:List aG}(d:Lex 0 l L)(e:l.length<=65536):tokens l=.ok L:=by unfold tokens;rw[aa io];exact acG d _ (Nat.lt_succ_self _)
def XA{l:List UInt8}{d:UInt8}{v:Nat}(e:ee l=.ok d v):(∀r,ee (l.take v++r)=.ok d v)/\(10:UInt8)∉l.take v:=by
 have y:∀c:UInt8,cH 16 c=true->c≠10:=λc=>nh (p:=λc=>cH 16 c=true->c≠10) (by decide+kernel) c;cases l with
 |nil=>cases e
 |cons c l=>
  unfold ee at e;simp only at e;split at e
  .rename_i h;split at e
   .cases e
   .rename_i z;cases e;refine⟨λr=>?_,?_⟩
    .show ee (d::r)=_;unfold ee;simp only;rw[af h,aa z]
    .simp only[List.take_succ_cons,List.take_zero,aF,a5,a9];rintro rfl;exact z (.inl dl)
  .rename_i h;have q:(10:UInt8)≠c:=by rintro rfl;exact h dl
   cases l with
   |nil=>cases e
   |cons k l=>
    simp only at e;split at e
    .rename_i j;cases e;refine⟨λr=>?_,?_⟩
     .show ee (c::d::r)=_;unfold ee;simp only;rw[aa h,af j]
     .have:(10:UInt8)≠d:=by rintro rfl;revert j;decide
      simp[q,this]
    .rename_i j;split at e
     .cases e
     .rename_i A;have D:(10:UInt8)≠k:=by rintro rfl;revert A;decide
      cases l with
      |nil=>cases e
      |cons B l=>
       simp only at e;split at e
       .rename_i w;cases l with
        |nil=>cases e
        |cons C l=>
         simp only at e;split at e
         .rename_i x;cases e;refine⟨λr=>?_,?_⟩
          .show ee (c::k::B::C::r)=_;unfold ee;simp only;rw[aa h,aa j,aa A,af w,af x]
          .simp [q,D,(y B w).symm,(y C x).symm]
         .cases e
       .cases e
def Qi:∀(n:Nat) (l:List UInt8),l.length<n->∀(t:List UInt8) (u:Nat),qu l=.ok t u->(∀r,qu (l.take u++r)=.ok t u)/\(10:UInt8)∉l.take u
 |0,l,d=>io
 |n+1,[],_=>by intro a h d;unfold qu at d;cases d
 |n+1,c::l,x=>by
  intro t u d;by_cases e:c.toNat=34
  .unfold qu at d;rw[af e]at d;cases d;refine⟨λr=>?_,?_⟩
   .show qu (c::r)=_;unfold qu;rw[af e]
   .simp only[List.take_succ_cons,List.take_zero,aF,a5,a9];rintro rfl;revert e;decide
  .rw [xo c l e]at d;cases j:ee (c::l)with
   |bad E G=>rw[j]at d;cases d
   |ok F v=>
    rw[j]at d;simp only at d;have y:=zh j;obtain⟨z,A⟩:=XA j;cases q:qu ((c::l).drop v)with
    |bad a h=>rw[q]at d;cases d
    |ok H k=>
     rw[q]at d;cases d;obtain⟨B,D⟩:=Qi n _ (by simp at x ⊢;omega) _ _ q;have h:(c::l).take (v+k)=(c::l).take v++((c::l).drop v).take k:=List.take_add;refine⟨λr=>?_,?_⟩
     .rw [h,cE];have w:=z (((c::l).drop v).take k++r);have C:=B r;generalize((c::l).drop v).take k++r=X at *;obtain⟨v,rfl⟩:∃m,v=m+1:=⟨v - 1,io⟩;rw[List.take_succ_cons,kE]at w ⊢;rw[xo _ _ e,w];simp only[List.drop_succ_cons];have hlen:(l.take v).length=v:=by simp at y ⊢;omega
      rw[List.drop_append_of_le_length io,List.drop_of_length_le io,List.nil_append,C];rfl
     .rw [h,aK];exact λd=>d.elim A D
def z8(k:Int)(r:List UInt8):Prop:=(k=0\/k=1\/k=5)\/r=[]\/∃d e,r=d::e/\mD d=true
def Kx(x:UInt8):mD x=true->bO x=false:=nh (p:=λx=>mD x=true->bO x=false) (by decide+kernel) x
def ac6(x:UInt8):bO x=true->x≠10:=nh (p:=λx=>bO x=true->x≠10) (by decide+kernel) x
def R2(x:UInt8):hF x=true->bO x=true/\f' x=false/\x.toNat≠59:=nh (p:=λx=>hF x=true->bO x=true/\f' x=false/\x.toNat≠59) (by decide+kernel) x
def Ew:∀(t r:List UInt8),(∀d∈t,bO d=true)->(r=[]\/∃d k,r=d::k/\bO d=false)->(t++r).takeWhile bO=t
 |[],r,_,e=>by
  rcases e with rfl|⟨d,k,rfl,h⟩
  .rfl
  .simp [h]
 |c::t,r,j,e=>by rw[kE,List.takeWhile_cons,af (j c gs),Ew t r (λd h=>j d (by simp[h])) e]
def LZ(p:UInt8->Bool):∀l:List UInt8,l.take (l.takeWhile p).length=l.takeWhile p
 |[]=>rfl
 |c::l=>by
  rw[List.takeWhile_cons];split
  .rw [bx,List.take_succ_cons,LZ p l]
  .rfl
def LY(p:UInt8->Bool):∀(l:List UInt8),∀e∈l.takeWhile p,p e=true
 |[],e,d=>by simp at d
 |c::l,e,d=>by
  rw[List.takeWhile_cons]at d;split at d
  .rcases aF.1 d with rfl|d
   .assumption
   .exact LY p l e d
  .simp at d
structure Hz(l:List UInt8)(k:Int)(t:List UInt8)(u:Nat):Prop where
 loc:∀r,z8 k r->fV (l.take u++r)=.tok k t u
 ten:(10:UInt8)∉l.take u
 tail:z8 k (l.drop u)
 word:(k=2\/k=3\/k=4)->l.take u=t
 kind:k=0/\t=[]\/k=1/\t=[]\/k=2\/k=3\/k=4\/k=5/\t.length<u
 skip:∀r,aH false (l.take u++r)=0
def Fo{l:List UInt8}{k:Int}{t:List UInt8}{u:Nat}(d:fV l=.tok k t u):Hz l k t u:=by
 cases l with
 |nil=>unfold fV at d;cases d
 |cons c l=>
  unfold fV at d;simp only at d;split at d
  .rename_i B;cases d;have w:c=40:=UInt8.toNat_inj.1 B;subst w;exact⟨λr _=>rfl,gs,.inl (.inl rfl),io,.inl ⟨rfl,rfl⟩,λr=>rfl⟩
  .rename_i B;split at d
   .rename_i C;cases d;have w:c=41:=UInt8.toNat_inj.1 C;subst w;exact⟨λr _=>rfl,gs,.inl (.inr (.inl rfl)),io,.inr (.inl ⟨rfl,rfl⟩),λr=>rfl⟩
   .rename_i C;split at d
    .rename_i A;have w:c=34:=UInt8.toNat_inj.1 A;subst w;split at d
     .rename_i t' E I;cases d;obtain⟨W,Y⟩:=Qi _ l (Nat.lt_succ_self _) _ _ I;have q3:=F3 _ l (Nat.lt_succ_self _) _ _ I;have h:(34::l).take (1+E)=34::l.take E:=by rw[Nat.add_comm];rfl
      refine⟨λr _=>?_,?_,.inl (.inr (.inr rfl)),io,.inr (.inr (.inr (.inr (.inr ⟨rfl,io⟩)))),λr=>?_⟩
      .rw [h];show fV (34::(l.take E++r))=_;unfold fV;simp only;rw[aa dl,aa dl,af dl,W r]
      .rw [h];simp only[aF];exact λd=>d.elim dl Y
      .rw [h];rfl
     .cases d
    .rename_i A;split at d
     .rename_i L;obtain⟨S,O,P⟩:=R2 c L;have y:(c::l).take ((c::l).takeWhile bO).length=(c::l).takeWhile bO:=LZ _ _;have F:=LY bO (c::l);have G:(c::l).takeWhile bO=c::l.takeWhile bO:=by rw[List.takeWhile_cons,af S]
      have main:∀z:Int,fx ((c::l).takeWhile bO)=(z,0)->z8 z ((c::l).drop ((c::l).takeWhile bO).length)->Hz (c::l) z ((c::l).takeWhile bO) ((c::l).takeWhile bO).length:=by
       intro z j Q;have Z:=Ki j;refine⟨λr N=>?_,?_,Q,λ_=>y,io,λr=>?_⟩
       .have K:r=[]\/∃e q,r=e::q/\mD e=true:=N.resolve_left io;have M:=Ew _ r F (K.imp id λ⟨e,q,h,x⟩=>⟨e,q,h,Kx e x⟩);rw[y];generalize(c::l).takeWhile bO=T at *;subst G;rw[kE]at M ⊢;unfold fV;simp only;rw[aa B,aa C,aa A,af L,M,j];simp only[ne_eq,not_true_eq_false,if_false];rw[<-kE,xm];rcases K with rfl|⟨e,q,rfl,x⟩
        .rfl
        .simp only[x,if_true]
       .rw [y];exact λd=>ac6 _ (F _ d) rfl
       .rw [y,G];show aH false (c::_)=0;unfold aH;rw[O,aa P];rfl
      cases j:fx ((c::l).takeWhile bO)with
      |mk kd h=>
       rw[j]at d;simp only at d;split at d
       .cases d
       .rename_i H;simp only[ne_eq,Decidable.not_not]at H;subst H;split at d
        .rename_i D;cases d;exact main _ j (.inr (.inl D))
        .rename_i e q D;split at d
         .rename_i x;cases d;exact main _ j (.inr (.inr ⟨e,q,D,x⟩))
         .cases d
     .cases d
def Fl{l:List UInt8}(d:fV l=.fin):l=[]:=by
 cases l with
 |nil=>rfl
 |cons c l=>
  exfalso;unfold fV at d;simp only at d;split at d
  .cases d
  .split at d
   .cases d
   .split at d
    .split at d<;>cases d
    .split at d
     .split at d
      .cases d
      .split at d
       .cases d
       .split at d<;>cases d
     .cases d
def Dd{l:List UInt8}(d:l.drop (aH false l)=[]):aH false l=l.length:=by have e:=hC false l;have h:=List.drop_eq_nil_iff.1 d;omega
def Lx{i:Nat}{l:List UInt8}{L:List aG}(q:Lex i l L):(∃e,L=e++[⟨6,[],i+l.length⟩])/\(∀t∈L,i<=t.aT)/\List.Pairwise (λa b:aG=>a.aT<b.aT) L:=by
 induction q with
 |@fin i l h=>
  rw[Dd (Fl h)];exact⟨⟨[],rfl⟩,gs,gs⟩
 |@tok i l A t u L h _ z=>
  have B:=hC false l;obtain⟨_,C,y,_⟩:=pf h;rw[dM]at y;obtain⟨⟨e,x⟩,k,w⟩:=z;refine⟨⟨⟨A,t,i+aH false l⟩::e,?_⟩,?_,?_⟩
  .rw [x];simp only[dM,kE];rw[show i+aH false l+u+(l.length - aH false l - u)=i+l.length from by omega]
  .intro j d;rcases aF.1 d with rfl|d
   .simp
   .have:=k j d;omega
  .rw [List.pairwise_cons];exact⟨λj d=>by have:=k j d;simp only;omega,w⟩
def Yd{i:Nat}{l:List UInt8}{L:List aG}(j:Lex i l L):∀t∈L,t.aT<=i+l.length:=by
 induction j with
 |@fin i l e=>
  have:=hC false l;intro t h;simp at h;subst h;simp;omega
 |@tok i l z t u L e _ q=>
  have x:=hC false l;obtain⟨_,y,k,_⟩:=pf e;rw[dM]at k;intro w d;rcases aF.1 d with rfl|d
  .simp;omega
  .have:=q w d;simp at this;omega
def AT(k:Nat)(t:aG):aG:=⟨t.kind,t.text,t.aT+k⟩
def Yf{i:Nat}{l:List UInt8}{L:List aG}(e:Lex i l L)(k:Nat):Lex (i+k) l (L.map (AT k)):=by
 induction e with
 |@fin i l d=>
  have:=Lex.fin (i:=i+k) d;rw[iG,List.map_nil,AT];simp only;rw[show i+aH false l+k=i+k+aH false l from by omega];exact this
 |@tok i l j t u L d _ h=>
  rw[iG,AT];simp only;rw[show i+aH false l+k=i+k+aH false l from by omega];refine .tok d ?_;rw[show i+k+aH false l+u=i+aH false l+u+k from by omega];exact h
def AX:∀(l:List UInt8) (b:Bool) (r:List UInt8),aH b l=l.length->aH b (l++10::r)=l.length+1+aH false r
 |[],b,r,_=>by
  cases b
  .show aH false (10::r)=0+1+_;simp[aH,f']
  .show aH true (10::r)=0+1+_;simp[aH]
 |c::l,b,r,d=>by
  have e:=AX l false r;have h:=AX l true r;have j:=hC false l;have k:=hC true l;cases b
  .rw [kE];simp only[aH,bx]at d ⊢;split at d
   .rw [af (by assumption),e io];omega
   .rw [aa (by assumption)];split at d
    .rw [af (by assumption),h io];omega
    .omega
  .rw [kE];simp only[aH,bx]at d ⊢;split at d
   .rw [af (by assumption),e io];omega
   .rw [aa (by assumption),h io];omega
def GA:∀(l:List UInt8) (b:Bool) (r:List UInt8),aH b l<l.length->aH b (l++r)=aH b l
 |[],b,r,d=>by simp at d
 |c::l,b,r,d=>by
  have j:=GA l false r;have k:=GA l true r;cases b
  .rw [kE];simp only[aH,bx]at d ⊢;by_cases h:f' c=true
   .rw [af h]at d ⊢;rw[af h,j io]
   .rw [aa h]at d ⊢;rw[aa h];by_cases e:c.toNat=59
    .rw [af e]at d ⊢;rw[af e,k io]
    .rw [aa e,aa e]
  .rw [kE];simp only[aH,bx]at d ⊢;by_cases e:c.toNat=10
   .rw [af e]at d ⊢;rw[af e,j io]
   .rw [aa e]at d ⊢;rw[aa e,k io]
def Ye{i:Nat}{l:List UInt8}{A:List aG}(d:Lex i l A){j:Nat}{r:List UInt8}{q:List aG}(I:Lex j r q)(G:j=i+l.length+1):Lex i (l++10::r) (A.dropLast++q):=by
 induction d with
 |@fin i l h=>
  have k:=Dd (Fl h);have C:=AX l false r k;have key:∀n,aH false (l++10::r)=l.length+1+n->(l++10::r).drop (aH false (l++10::r))=r.drop n:=by intro n h;rw[h,<-List.drop_drop,<-List.drop_drop,xm];rfl
  have e:=key _ C;have w:i+aH false (l++10::r)=j+aH false r:=io
  show Lex i _ q;cases I with
  |fin y=>rw[<-w];exact .fin (by rw[e];exact y)
  |tok y x=>rw[<-w];exact .tok (by rw[e];exact y) (by rw[e,w];exact x)
 |@tok i l Q t u B h x M=>
  have K:=hC false l;obtain⟨_,P,L,_⟩:=pf h;rw[dM]at L;have k:=GA l false (10::r) io;have z:=Fo h;have e:(l++10::r).drop (aH false (l++10::r))=l.drop (aH false l)++10::r:=by rw[k,List.drop_append_of_le_length K]
  have D:l.drop (aH false l)++10::r=(l.drop (aH false l)).take u++((l.drop (aH false l)).drop u++10::r):=by rw[<-cE,List.take_append_drop]
  obtain⟨⟨O,E⟩,_⟩:=Lx x;have H:B≠[]:=by rw[E];simp
  rw[List.dropLast_cons_of_ne_nil H,kE,<-k];refine .tok (u:=u) ?_ ?_
  .rw [e,D];refine z.loc _ ?_;rcases z.tail with d|d|⟨N,S,d,F⟩
   .exact .inl d
   .rw [d];exact .inr (.inr ⟨10,r,rfl,dl⟩)
   .rw [d];exact .inr (.inr ⟨N,_,rfl,F⟩)
  .rw [e,k,List.drop_append_of_le_length (by rw[dM];omega)];exact M (by rw[G,dM,dM];omega)
structure vM(k:Int)(t:List UInt8):Prop where
 kd:0<=k/\k<=5
 i:k=4->1<=t.length/\t.length<=13/\j8 10 t
 n:k=3->∃d,(t=35::98::d/\1<=d.length/\d.length<=64/\j8 2 d)\/(t=35::120::d/\1<=d.length/\d.length<=16/\j8 16 d)
def Dc{b:Nat}(h:b=2\/b=10\/b=16){l:List UInt8}(e:l.all (cH b)=true):j8 b l:=λc j=>by
 have d:=cY.1 e c j;unfold cH at d;unfold eM;rcases h with rfl|rfl|rfl
 .rw [af rfl]at d;simp at d;split<;>omega
 .rw [aa dl,aa dl]at d;simp at d;split<;>omega
 .rw [aa dl,af rfl]at d;simp at d;split<;>omega
def Hd{c:UInt8}{n:Nat}(d:c.toNat=n)(e:n<256):c=ei n:=by apply UInt8.toNat.inj;rw[d,UInt8.toNat_ofNat'];exact(Nat.mod_eq_of_lt e).symm
def Kg{t:List UInt8}{k:Int}(d:fx t=(k,0)):vM k t:=by
 unfold fx at d;split at d
 .cases d
 .rename_i c l;split at d
  .split at d
   .cases d
   .split at d
    .cases d
    .cases d;exact⟨io,λd=>(by cases d),λd=>(by cases d)⟩
  .split at d
   .split at d
    .cases d
    .rename_i e;split at d
     .cases d
     .rename_i x;cases d;refine⟨io,λ_=>⟨gs,io,Dc (.inr (.inl rfl)) ?_⟩,λd=>(by cases d)⟩;simp only[Bool.or_eq_true,not_or,Bool.not_eq_true,Bool.not_eq_false']at e;exact e.1
   .rename_i h;have h:c=35:=Hd (n:=35) io io;unfold tV at d;split at d
    .rename_i b q r;split at d
     .rename_i j;split at d
      .rename_i e;split at d
       .cases d
       .rename_i w;cases d;refine⟨io,λd=>(by cases d),λ_=>⟨q::r,.inl ⟨by rw[h,Hd j io];rfl,gs,io,Dc (.inl rfl) e⟩⟩⟩
      .cases d
     .split at d
      .rename_i j;split at d
       .rename_i e;split at d
        .cases d
        .rename_i w;cases d;refine⟨io,λd=>(by cases d),λ_=>⟨q::r,.inr ⟨by rw[h,Hd j io];rfl,gs,io,Dc (.inr (.inr rfl)) e⟩⟩⟩
       .cases d
      .cases d
    .cases d
def OQ{l:List UInt8}{k:Int}{t:List UInt8}{u:Nat}(d:fV l=.tok k t u):vM k t:=by
 have h:∀(k:Int),(k=0\/k=1\/k=5)->∀t,vM k t:=λk x t=>⟨io,λd=>io,λd=>io⟩;cases l with
 |nil=>unfold fV at d;cases d
 |cons c l=>
  unfold fV at d;simp only[]at d;split at d
  .cases d;exact h 0 (.inl rfl) _
  split at d
  .cases d;exact h 1 (.inr (.inl rfl)) _
  split at d
  .split at d
   .cases d;exact h 5 (.inr (.inr rfl)) _
   .cases d
  split at d
  .generalize j:fx ((c::l).takeWhile bO)=q at d;obtain⟨y,w⟩:=q;split at d
   .cases d
   .rename_i e;have e:w=0:=Classical.byContradiction e;subst e;split at d
    .cases d;exact Kg j
    .split at d
     .cases d;exact Kg j
     .cases d
  .cases d
def Lw{i:Nat}{l:List UInt8}{L:List aG}(d:Lex i l L):L.length<=l.length+1/\∀t∈L,(t.kind=6\/vM t.kind t.text)/\t.text.length<=l.length/\t.aT<=i+l.length:=by
 induction d with
 |@fin i l h=>
  have w:=hC false l;exact⟨gs,λt x=>by rw[b'.1 x];exact⟨.inl rfl,gs,by show i+aH false l<=_;omega⟩⟩
 |@tok i l C t u L h _ z=>
  have w:=hC false l;obtain⟨_,B,y,_⟩:=pf h;rw[dM]at y;obtain⟨q,k⟩:=z;simp only[dM]at q k;refine⟨by rw[bx];omega,λA j=>?_⟩;rcases aF.1 j with rfl|j
  .have e:=Fo h;refine⟨.inr (OQ h),?_,by show i+aH false l<=_;omega⟩;show t.length<=l.length;rcases e.kind with⟨_,rfl⟩|⟨_,rfl⟩|d|d|d|⟨_,d⟩
   .simp
   .simp
   .have:=congrArg List.length (e.word (.inl d));rw[gK,dM]at this;omega
   .have:=congrArg List.length (e.word (.inr (.inl d)));rw[gK,dM]at this;omega
   .have:=congrArg List.length (e.word (.inr (.inr d)));rw[gK,dM]at this;omega
   .omega
  .obtain ⟨a,b,c⟩:=k A j;exact⟨a,io,io⟩
def Yg{i:Nat}{l:List UInt8}{L:List aG}(q:Lex i l L):∃e t,L=e++[t]/\t.kind=6/\∀h∈e,h.kind≠6:=by
 induction q with
 |fin j=>exact⟨[],_,rfl,rfl,λh d=>(by cases d)⟩
 |@tok i l z t u L j _ y=>
  obtain⟨e,A,k,w,x⟩:=y;refine⟨_::e,A,by rw[k];rfl,w,λh d=>?_⟩;rcases aF.1 d with rfl|d
  .have:=(OQ j).kd;show z≠6;omega
  .exact x h d
def G6{l:List UInt8}{T:List aG}(d:tokens l=.ok T):jl T:=by
 obtain⟨j,x⟩:=Em d;obtain⟨y,k⟩:=Lw j;have h:∀t∈T,vM t.kind t.text\/t.kind=6:=λt e=>(k t e).1.symm;refine⟨Yg j,λt e=>?_,λt e w=>?_,λt e q=>?_,io,λt e=>?_⟩
 .rcases h t e with d|d
  .have:=d.kd;omega
  .omega
 .rcases h t e with d|d
  .exact d.i w
  .omega
 .rcases h t e with d|d
  .exact d.n q
  .omega
 .obtain ⟨_,a,b⟩:=k t e;exact⟨io,io⟩
def NE{α:Type}(x:PR α):Prop:=∀d p,x=.er d p->d≠0
def gJ{α:Type}{a:α}{s:aJ}:NE (.ok a s):=λ_ _ d=>(by cases d)
def jA{α:Type}{e:Int}{p:Nat}(d:e≠0):NE (α:=α) (.er e p):=λ_ _ h=>(by cases h;exact d)
def uz{α:Type}(t:aG):NE (α:=α) (j4 t):=jA (by split<;>decide)
def eS{α β:Type}{x:PR α}{f:α->aJ->PR β}(h:NE x)(e:∀a s,NE (f a s)):NE (x.b f):=by
 cases x with
 |ok a s=>exact e a s
 |er d p=>exact jA (h d p rfl)
def i4(T:List aG)(k:Int)(s:aJ):NE (bL T k s):=by
 unfold bL;split
 .exact gJ
 .exact uz _
def od(T:List aG)(s:aJ):NE (dg T s):=eS (i4 _ _ _) λ_ _=>gJ
def Fj(T:List aG)(s:aJ):NE (iE T s):=by
 refine eS (i4 _ _ _) λt s=>eS (i4 _ _ _) λd s=>?_;split
 .exact uz _
 .refine eS ?_ λe s=>eS (od _ _) λn s=>eS (i4 _ _ _) λ_ s=>?_
  .split
   .exact od _ _
   .exact gJ
  .split
   .exact gJ
   .exact jA dl
def Y5(T:List aG)(s:aJ):NE (qB T s):=by
 refine eS (i4 _ _ _) λt s=>?_;split
 .exact gJ
 .rename_i d;exact jA d
def zV(s:aJ)(n:Nx)(t:aG):NE (eC s n t):=by
 unfold eC;split
 .exact gJ
 .rename_i d;exact jA d
def Fi{tm:aJ->PR Nat}(d:∀s,NE (tm s)):∀(n:Nat) (s:aJ),NE (gF tm n s)
 |0,_=>gJ
 |n+1,s=>eS (d s) λ_ s=>eS (Fi d n s) λ_ _=>gJ
def Y4(T:List aG)(w:List UInt8)(s:aJ):NE (iy T w s):=by
 unfold iy;split
 .exact eS (od _ _) λ_ _=>eS (od _ _) λ_ _=>gJ
 split
 .exact eS (Fj _ _) λ_ _=>gJ
 split
 .exact eS (od _ _) λ_ _=>eS (od _ _) λ_ _=>gJ
 split
 .exact eS (od _ _) λ_ _=>gJ
 split
 .exact eS (od _ _) λ_ _=>gJ
 split
 .exact eS (od _ _) λ_ _=>gJ
 split
 .exact eS (Y5 _ _) λ_ _=>gJ
 .exact gJ
def OG{tm:b3->aJ->PR Nat}(d:∀E s,NE (tm E s))(E:b3)(m:PM)(az:List Int)(s:aJ):NE (h4 tm E m az s):=eS (d _ _) λ_ _=>gJ
def Y6{tm:b3->aJ->PR Nat}(d:∀E s,NE (tm E s))(E:b3)(s:aJ):NE (jd tm E s):=by
 unfold jd;dsimp only;split
 .exact uz _
 split
 .exact jA dl
 split
 .unfold k9;split
  .exact gJ
  split
  .exact gJ
  split
  .split
   .exact OG d _ _ _ _
   .exact jA dl
  .exact jA dl
 split
 .exact zV _ _ _
 split
 .exact zV _ _ _
 unfold mz;split
 .exact jA dl
 refine eS (i4 _ _ _) λe s=>?_;split
 .exact eS (eS (Y4 _ _ _) λ_ _=>eS (Fi (λs=>d _ s) _ _) λ_ _=>gJ) λ_ _=>eS (i4 _ _ _) λ_ _=>zV _ _ _
 .unfold p9;split
  .exact jA dl
  .refine eS (Fi (λs=>d _ s) _ _) λ_ _=>eS (i4 _ _ _) λ_ _=>?_;split
   .exact OG d _ _ _ _
   .exact jA dl
def OL:∀(f:Nat) (E:b3) (s:aJ),NE (dO f E s)
 |0,_,_=>jA dl
 |f+1,E,s=>Y6 (OL f) E s
def qR(x:SR):Prop:=∀d p,x=.er d p->d≠0
def zW{y:bY}:qR (.ok y):=λ_ _ d=>(by cases d)
def rZ{e:Int}{p:Nat}(d:e≠0):qR (.er e p):=λ_ _ h=>(by cases h;exact d)
def kA{α:Type}{x:PR α}{y:bY}{f:α->bY->SR}(h:NE x)(e:∀a y,qR (f a y)):qR (x.s y f):=by
 cases x with
 |ok a s=>exact e a _
 |er d p=>exact rZ (h d p rfl)
def OH(T:List aG)(x:bY):NE (w9 T x):=by
 refine eS (i4 _ _ _) λt s=>?_;split
 .exact jA dl
 .exact gJ
def OI(T:List aG):∀(f:Nat) (ps:List (List UInt8×aP)) (s:aJ),NE (ll T f ps s)
 |0,_,_=>jA dl
 |f+1,ps,s=>by
  unfold ll;dsimp only;split
  .exact gJ
  split
  .exact uz _
  refine eS (i4 _ _ _) λp s=>?_;split
  .exact jA dl
  .exact eS (Fj _ _) λ_ _=>eS (i4 _ _ _) λ_ _=>OI T f _ _
def OK(T:List aG):∀(f d:Nat) (s:aJ),NE (l7 T f d s)
 |0,_,_=>jA dl
 |f+1,d,s=>by
  unfold l7;dsimp only;split
  .exact uz _
  split
  .exact uz _
  generalize(if(aO T s.p).kind=0 then d+1 else if(aO T s.p).kind=1 then d - 1 else d)=d';split
  .exact gJ
  .exact OK T f _ _
def Y3(T:List aG)(x:bY):qR (lN T x):=by
 have fin:∀(c:fE) (x:bY),qR ((bL T 1 x.s).s x λ_ x=>.ok {x with cs:=x.cs++[c]}):=λc x=>kA (i4 _ _ _) λ_ _=>zW;refine kA (i4 _ _ _) λd x=>?_;dsimp only;split
 .exact kA (OH _ _) λ_ _=>kA (Fj _ _) λ_ _=>kA (i4 _ _ _) λ_ _=>kA (zV _ _ _) λ_ _=>zW
 split
 .refine kA (i4 _ _ _) λ_ _=>kA (OH _ _) λ_ _=>?_;split
  .exact rZ dl
  .exact kA (OI _ _ _ _) λ_ _=>kA (OK _ _ _ _) λ_ _=>kA (i4 _ _ _) λ_ _=>zW
 split
 .refine kA (i4 _ _ _) λ_ _=>kA (eS (OL _ _ _) λ_ _=>?_) λ_ _=>fin _ _;split
  .exact gJ
  .exact jA dl
 split
 .exact kA (i4 _ _ _) λ_ _=>fin _ _
 split
 .exact fin _ _
 split
 .exact fin _ _
 split
 .refine kA (od _ _) λ_ _=>?_;split
  .exact rZ dl
  .exact fin _ _
 .exact rZ dl
def OJ(T:List aG):∀(f:Nat) (x:bY),qR (iH T f x)
 |0,_=>rZ dl
 |f+1,x=>by
  unfold iH;dsimp only;split
  .exact zW
  split
  .cases e:lN T {x with s:=cS (aO T x.s.p) x.s}with
   |ok h=>exact OJ T f h
   |er d p=>exact rZ (Y3 T _ d p e)
  .exact rZ dl
def aa7{M:Nat->Prop}{w0 w y A w':J}{L B D D':List En}(H:O M w0 w L D)(I:ag w y)(z:y.heap.size=w.heap.size+2)(x:O (·∈L.flatMap (·.fp)) y A B (D++D'))(K:∀e∈D',∀b∈e.fp,y.heap.size<=b\/∃g∈D,b∈g.fp)(f:Fr (λb=>b=w.heap.size\/b=w.heap.size+1) A w'):O M w0 w' B (D++D'):=by
 have W:=H.fr.size;have S:∀h∈B,∀b∈h.fp,¬(b=w.heap.size\/b=w.heap.size+1):=λh q b d N=>by
  rcases x.new h q b d with j|j
  .omega
  .have:=H.r6 b j;omega
 have T:∀e∈D++D',∀b∈e.fp,¬(b=w.heap.size\/b=w.heap.size+1):=λe k b d N=>by
  rcases aK.1 k with k|k
  .have:=e.lt w (H.rd e k) b d;omega
  .rcases K e k b d with j|⟨g,Q,j⟩
   .omega
   .have:=g.lt w (H.rd g Q) b j;omega
 refine⟨((H.fr.g' I).trans x.fr λb d F=>?_).trans f λb d F=>io,λh q=>h.st A w' (λb d E=>f.cD b E (S h q b d)) (x.own h q),λe k=>e.st A w' (λb d E=>f.cD b E (T e k b d)) (x.rd e k),λh q b d=>?_,x.nd,x.dj⟩
 .obtain ⟨h,q,C⟩:=cl.1 F;exact(H.new h q b C).resolve_left io
 .rcases x.new h q b d with j|j
  .exact .inl io
  .obtain ⟨G,P,C⟩:=cl.1 j;exact H.new G P b C
def _root_.Go.W.O.join{M:Nat->Prop}{w0 w w':J}{L D A B:List En}(H:O M w0 w L D)(q:O F0 w w' (A++B) []):O M w0 w' (L++A) (D++B):=by
 have I:∀e:En,e.P w->e.P w':=λe Q=>e.st w w' (λh _ N=>q.fr.cD h N id) Q;have z:∀e∈A++B,∀h∈e.fp,w.heap.size<=h:=λe d h j=>(q.new e d h j).resolve_right id;have E:=q.nd;rw[dL,eI]at E;refine⟨H.fr.g' q.fr,λe d=>?_,λe d=>?_,λe d h j=>?_,?_,λx k h j e d y=>?_⟩
 .rcases aK.1 d with d|d
  .exact I e (H.own e d)
  .exact q.own e (bV _ d)
 .rcases aK.1 d with d|d
  .exact I e (H.rd e d)
  .exact q.own e (cK _ d)
 .rcases aK.1 d with d|d
  .exact H.new e d h j
  .exact .inl (bD H.fr.size (z e (bV _ d) h j))
 .rw [dL,eI];refine⟨H.nd,E.1,λa K b C=>?_⟩;obtain⟨e,d,C⟩:=cl.1 C;have F:=z e (bV _ d) b C;have G:=H.r6 a K;omega
 .rcases aK.1 k with k|k
  .rcases aK.1 d with d|d
   .exact H.dj x k h j e d y
   .have F:=z e (bV _ d) h y;have G:=x.lt w (H.rd x k) h j;omega
  .rcases aK.1 d with d|d
   .have F:=z x (cK _ k) h j;have G:=H.r6 h (cl.2 ⟨e,d,y⟩);omega
   .exact E.2.2 h (cl.2 ⟨e,d,y⟩) h (cl.2 ⟨x,k,j⟩) rfl
def HB(w:J)(x:SR):aB:=λr d=>match x with
 |.ok k=>(∃(h:Sl) (j:List Nd) (e:Sl),r=ad (.tuple #[.agg #[h.v,e.v],.i 0,.i 0])/\GP d h j/\xs j=k.s.g/\aL d jK 7 e (de k.cs)/\(∀b∈(En.gr h j).fp,w.heap.size<=b\/b∈dt.fp)/\(∀b∈aR e,w.heap.size<=b))/\ag w d
 |.er q p=>r=ad (.tuple #[.agg #[.slice none 0 0,.slice none 0 0],.i (p:Int),.i q])/\ag w d
def PW{w w':J}{x:SR}{e:Int}{p:Nat}(d:x=.er e p)(f:ag w w'):HB w x (ad (.tuple #[.agg #[.slice none 0 0,.slice none 0 0],.i (p:Int),.i e])) w':=by subst d;exact⟨rfl,f⟩
def KG(w:J):GP w ⟨none,0,0⟩ []:=⟨bo.nil 9 w,λe d=>by cases d⟩
def Cw{N:Nat}{w:J}{s:ByteArray}(hk:dt.P w)(hs:s.size<=1000000)(hX:∀j,tokens (bl s)=.ok j->nQ N j):
  aj U zM #[.string s] w (HB w (kC (bl s))):=by
 have az:O F0 w w [] [.gr ⟨none,0,0⟩ [],dt]:=bT _ (by
  intro B he;simp only[aF,a5,a9]at he;rcases he with rfl|rfl
  .exact bf.2 (KG w)
  .exact hk)
 have E:kC (bl s)=match tokens (bl s)with
  |.bad a B=>.er B a
  |.ok j=>iH j (j.length+1) ⟨⟨0,0,[]⟩,[],[],[]⟩:=rfl
 refine Pz.aq (az.ax λb2 w1 H1=>?_);cases K:tokens (bl s)with
 |bad a B=>
  rw[K]at E;refine H1.av (A:=λr S=>r=ad (.tuple #[.slice none 0 0,.int .i64 (a:Int),.int .i64 B])/\B≠0) ((Ef s hs w1).mono λr S hp=>by rw[K]at hp;obtain⟨h1,h2,h3⟩:=hp;exact⟨⟨h1,h2⟩,h3⟩) ?_
  rintro _ w3 ⟨rfl,h0⟩ W;exact⟨⟨none,0,0⟩,_,_,rfl,cz (λ_=>W.ae λw4 Y=>PW E Y.fr) (λh=>absurd h h0)⟩
 |ok j=>
  rw[K]at E;have hX:=hX j K;have hT:=G6 K;refine H1.hh (A:=λr S=>∃sl:Sl,r=ad (.tuple #[sl.v,.int .i64 0,.int .i64 0])/\aL S db 3 sl (gR j)/\∀b∈aR sl,w1.heap.size<=b) ((Ef s hs w1).mono λr S hp=>by rw[K]at hp;obtain⟨sl,h1,h2,h3,h4⟩:=hp;exact⟨⟨sl,h1,h2,h4⟩,h3⟩) ?_
  rintro _ w3 ⟨tk,rfl,ho,an⟩ _ F3;have W:=F3.rd (.a2 3 tk (gR j)) ho.a2 (nD an);refine⟨_,_,_,rfl,aW rfl (W.av (A:=yp w3 tk ⟨none,0,0⟩ [] []) ((U9 (l:=[]) (KG w3) .nil gs).mono λr S h=>⟨h,by obtain⟨_,_,_,_,_,_,_,_,_,_,_,h⟩:=h;exact h.fr⟩) ?_)⟩;rintro _ w4 ⟨ac,mo,mv,mm,eo,ev,co,cv,rfl,aI,aN,HX⟩ _;have aB:O F0 w3 w4 ([bz (xa ac mo mv mm tk ⟨none,0,0⟩) ⟨0,0,[]⟩,.ob mv (.map ev cv),.ob mm (.map #[] 0)]++[.ob mo (.map eo co)]) []:=nz HX (.cons _ (List.perm_append_singleton _ [_,_]).symm);have Y:=W.join aB;have Y:=Y.hP jK 7;obtain⟨z,hY⟩:∃z:ml,z=⟨xa ac mo mv mm tk ⟨none,0,0⟩,[],[],ev,cv,#[],0⟩:=⟨_,rfl⟩;obtain⟨q,L⟩:∃q:bY,q=⟨⟨0,0,[]⟩,[],[],[]⟩:=⟨_,rfl⟩;obtain⟨G,hD⟩:∃G,G=[En.gr ⟨none,0,0⟩ [],dt,.a2 3 tk (gR j),.ob mo (.map eo co)]:=⟨_,rfl⟩;have ah:∀ag∈G,∀b∈ag.fp,w.heap.size<=b\/b∈dt.fp:=λag C b k=>by
   rw[hD]at C;simp only[aF,a5,a9]at C;rcases C with rfl|rfl|rfl|rfl
   .cases k
   .exact .inr k
   .exact .inl (bD H1.fr.size (nD an b k))
   .exact .inl (bD W.fr.size ((HX.new _ (aA (i:=1) rfl) b k).resolve_right id))
  have F:O F0 w w4 (cy z q++[.g b2]) G:=by rw[hY,L,hD];exact nz Y (List.perm_append_comm (l₁:=[_]) (l₂:=[_,_,_,_]))
  have aJ:0<j.length:=by obtain⟨aP,t,B,_⟩:=hT.e;rw[B];simp
  have hO:eX (iZ j q) q.s.g:=by rw[L];exact⟨hT,λaa y=>(by cases y),λaa y=>(by cases y),λaa y=>(by cases y)⟩
  have Z:hc j z q G:=by rw[L]at hO;rw[hY,L,hD];exact⟨⟨aA (i:=2) rfl,hT⟩,⟨eo,co,aA (i:=3) rfl,aI⟩,aA (i:=1) rfl,⟨aA (i:=0) rfl,rfl,.nil,gs⟩,λaa y=>(by cases y),rfl,aN,rfl,rfl,rfl,rfl,hO,aJ,gs,gs,gs⟩
  have hZ:jk j q:=⟨Z.p,Z.tm,Z.gr.v,Z.ok,λc ak=>by rw[L]at ak;cases ak⟩;have E:kC (bl s)=iH j (j.length+1) q:=by rw[L];exact E
  have ao:z.X.rb=ac:=by rw[hY]
  generalize y:iH j (j.length+1) q=aa at E;have aM:=ZU (f:=EZ) (first:=#[.pointer (some (ab ac))]) (p':=#[]) (by kernel_rfl) (p:=ab ac) (λb k=>F.r6 b (by rw[dL];exact bV _ k)) (M:=(·∈(cy z q).flatMap (·.fp))) (Q:=λw1=>iQ j z q G w1 aa) λw9 I z9=>by
   have:=aat hX Z hZ (zr (F.cC I));rw[y,ao]at this;refine this.mono λr S h=>?_;refine⟨?_,?_,h⟩
   .unfold iQ at h;split at h
    .exact .inl h.1
    .exact .inr ⟨_,_,h.1⟩
   .unfold iQ at h;split at h
    .obtain ⟨_,H,aw,_,h,_⟩:=h;exact h.fr
    .exact h.2
  have am:=F.nd;rw[dL,eI]at am;refine⟨_,rfl,(·∈(cy z q).flatMap (·.fp)),λb k hm=>am.2.2 b hm b (cl.2 ⟨.g b,by rw[b'.1 k];simp,by simp[En.g]⟩) rfl,aM.mono ?_⟩;rintro r ar ⟨w9,aS,I,z9,f10,aG⟩;rcases aG with⟨rfl,D⟩|⟨B,aC,rfl,D⟩
  .unfold iQ at D;split at D
   .rename_i aT;obtain⟨_,H,aw,q1,q2,q3,q4⟩:=D;have T2:=aa7 (zr F) I z9 q2 q4 f10;have hz:=I.size;have T3:=zt F T2 (λag C b k=>(q4 ag C b k).imp (λh=>io) id);rw[<-ao,<-q1];refine⟨T2.fr,_,_,rfl,aW rfl (T3.ae λaO T=>⟨H.X.g,by rw[add_add];exact T.ld 0 2,H.X.cs,T.ld 0 3,T.ae λaQ af=>?_⟩)⟩;rw[E];refine⟨⟨H.X.g,H.l,H.X.cs,rfl,bf.1 (af.rd _ q3.gr.d),q3.gr.x,af.get 3,λb k=>?_,λb k=>?_⟩,af.fr⟩
    .rcases aK.1 q3.gr.d with C|C
     .exact ah _ C b k
     .rcases q4 _ C b k with h|⟨g,hg,h⟩
      .exact .inl (by have:=F.fr.size;omega)
      .exact ah g hg b h
    .exact (af.new _ (aA (i:=3) rfl) b k).resolve_right id
   .obtain ⟨h,_⟩:=D;cases h
  .unfold iQ at D;split at D
   .obtain ⟨h,_⟩:=D;cases h
   .rename_i e' ap;obtain⟨h,q6⟩:=D;have aH:e'≠0:=OJ j (j.length+1) q e' ap y;have he:B=e'/\aC=ap:=by simp only[Ending.panicked.injEq,List.cons.injEq,PanicEntry.mk.injEq,Value.iface.injEq,and_true,true_and]at h;simp at h;omega
    rw[he.1,he.2];have f8:Fr (·∈(cy z q).flatMap (·.fp)) w4 ar:=((I.O'.trans q6 λ_ _ h=>h).trans f10 λb k hm=>by have:=I.size;omega);have ay:O F0 w ar [.g b2] []:=zt (F.forget [] gs) (BR:=[]) (D':=[]) ⟨f8,gs,gs,gs,gs,gs⟩ gs;exact⟨f8,_,_,rfl,cz (λ_=>ay.ae λaO T=>PW E T.fr) (λh=>absurd h aH)⟩
set_option maxHeartbeats 2000000
namespace wx
def L0:=bu (ay U Tryz.f8 [(6,lr 10)] []) [0,1,1,1,2] [(0,.s),(1,.s),(5,.I)]
abbrev t1:=bt L0
def cr:=bF t1 L0
def ok:=aC t1 M2 [.s,.s]
end wx
namespace JF
abbrev S0:=ah (ay U Tryz.f15 [] []) [0,1,1,1,1] []
abbrev t1:=ak S0
def ok:=aC t1 Mt [.s,.I,.I]
end JF
namespace oY
abbrev P0:Ps:=[(0,.I),(3,.st),(4,.st),(5,.I)]
def L1:=bu (ay U Tryz.f26 [] []) [0,1,1,1,4] P0
abbrev t1:=bt L1
abbrev S3:=ah t1 [2,2,1,1,4] P0
abbrev t2:=ak S3
abbrev S2:=ah t2 [2,2,1,2,1,1,4] [(0,.I),(3,.st),(4,.st),(5,.I),(6,.I)]
abbrev t3:=ak S2
def ik:=bF t3 L1
abbrev S0:=ah t3 [3] [(0,.I),(3,.st)]
abbrev t4:=ak S0
def ok:=aC t4 EE [.I]
end oY
namespace rB
abbrev P0:Ps:=[(0,.s),(3,.s),(4,.I)]
def L0:=bu (ay U Tryz.f24 [(5,lr 7)] []) [0,1,1,1,2] P0
abbrev t1:=bt L0
abbrev S1:=ah t1 [2,2,1,1,2] P0
abbrev t2:=ak S1
def cr:=bF t2 L0
def ok:=aC t2 MT [.s]
end rB
namespace o0
def L0:=bu (ay U Tryz.f12 [] []) [0,1,1,1,4] [(2,.s),(3,.I),(10,.s),(11,.s),(12,.s),(13,.I)]
abbrev t1:=bt L0
abbrev S1:=ah t1 [3,2,1,2,1,1,4] [(2,.s),(3,.I),(10,.s),(11,.s),(12,.s),(13,.I),(15,.I)]
abbrev t2:=ak S1
abbrev S2:=ah t2 [5] [(10,.s),(11,.s)]
abbrev t3:=ak S2
def cr:=bF t3 L0
def ok:=aC t3 M0 [.s,.I,.s,.I]
end o0
namespace lR
abbrev P0:Ps:=[(0,.st),(3,.st),(4,.s),(5,.I)]
def L1:=bu (ay U Tryz.f28 [(11,lr 12)] []) [0,1,1,1,3] P0
abbrev t1:=bt L1
abbrev S5:=ah t1 [2,2,1,1,3] P0
abbrev t2:=ak S5
abbrev P1:Ps:=[(0,.st),(3,.st),(4,.s),(5,.I),(6,.Y)]
abbrev S6:=ah t2 [4,2,1,2,1,1,3] P1
abbrev t3:=ak S6
abbrev S4:=ah t3 [2,2,1,2,1,1,3] P1
abbrev t4:=ak S4
abbrev S3:=ah t4 [0,1,1,1,1,2,1,2,1,1,3] P1
abbrev t5:=ak S3
abbrev S2:=ah t5 [1,2,1,2,1,1,3] P1
abbrev t6:=ak S2
def ik:=bF t6 L1
abbrev S0:=ah t6 [2] [(0,.st),(3,.st)]
abbrev t7:=ak S0
def ok:=aC t7 Nh [.st]
end lR
namespace J5
def ok:=aC (ay U Tryz.f29 [] []) Nn []
end J5
namespace J6
def ok:=aC (ay U Tryz.f30 [] []) No []
end J6
namespace y2
abbrev P0:Ps:=[(1,.l [.I,.I,.I] cb),(4,.st)]
abbrev bh:=ah (ay U Tryz.f27 [] [1]) [4] P0
abbrev t1:=ak bh
abbrev a1:=ah t1 [3] P0
abbrev t2:=ak a1
def aq:=aC t2 Nl [.a 3,.I,.I,.I]
end y2
namespace iY
def a4:=bu (ay U Tryz.f14 [(16,ls [1,2,0,3,4,5,6]),(21,lr 7),(25,ls [0,1,2,3,7,8,4,5,6,9,10,11])] [5]) [0,1,1,1,1,1,3,1,1,1,2] [(5,.l [.I,.s,.I,.I,.U,.st,.I,.I,.I] bW),(6,.st),(7,.I)]
abbrev t1:=bt a4
def bR:=bF t1 a4
abbrev P0:Ps:=[(0,.s),(5,.l [.I,.s,.I,.I,.U,.st,.I,.I,.I] bW),(8,.st),(9,.s),(10,.s),(11,.I)]
def lG:=bu t1 [0,1,1,1,5] P0
abbrev t2:=bt lG
abbrev cF:=ah t2 [2,2,1,1,5] P0
abbrev t3:=ak cF
abbrev P1:Ps:=[(0,.s),(5,.l [.I,.s,.I,.I,.U,.st,.I,.I,.I] bW),(8,.st),(12,.I)]
def iO:=bu t3 [0,1,1,1,7] P1
abbrev t4:=bt iO
abbrev kW:=ah t4 [2,2,1,1,7] P1
abbrev t5:=ak kW
def mj:=bF t5 iO
abbrev P2:Ps:=[(0,.s),(5,.l [.I,.s,.I,.I,.U,.st,.I,.I,.I] bW),(8,.st)]
abbrev ft:=ah t5 [7] P2
abbrev t6:=ak ft
abbrev ng:=ah t6 [0,1,3,1,1,1,6] P2
abbrev t7:=ak ng
abbrev qX:=ah t7 [4,1,1,1,6] [(0,.s),(5,.l [.I,.s,.I,.I,.U,.st,.I,.I,.I] bW),(8,.st),(85,.I)]
abbrev t8:=ak qX
def pS:=bF t8 lG
abbrev bh:=ah t8 [4] P2
abbrev t9:=ak bh
def aq:=aC t9 Nm [.s,.I]
end iY
namespace rD
abbrev P0:Ps:=[(0,.s),(3,.st),(4,.I)]
def L0:=bu (ay U Tryz.f13 [(6,lr 18)] []) [0,1,1,1,2] P0
abbrev t1:=bt L0
abbrev S1:=ah t1 [2,2,1,1,2] P0
abbrev t2:=ak S1
def cr:=bF t2 L0
def ok:=aC t2 Ni [.s]
end rD
namespace ko
def L1:=bu (ay U Tryz.f4 [(16,ls [0,2,3,4,8,9,10,11,12,15,1,5,6,7,13,14,16,17,18])] []) [0,1,1,1,4] [(2,.s),(7,.s),(8,.s),(9,.st),(10,.I)]
abbrev t1:=bt L1
abbrev S4:=ah t1 [4,2,1,2,1,1,4] [(2,.s),(7,.s),(8,.s),(9,.st),(10,.I),(12,.I)]
abbrev t2:=ak S4
abbrev S3:=ah t2 [3,2,1,2,1,1,4] [(2,.s),(7,.s),(8,.s),(9,.st),(10,.I),(11,.st),(12,.I)]
abbrev t3:=ak S3
abbrev S2:=ah t3 [1,1,2,2,1,2,1,1,4] [(2,.s),(7,.s),(8,.s),(9,.st),(10,.I),(11,.st),(12,.I),(42,.I)]
abbrev t4:=ak S2
def ik:=bF t4 L1
abbrev S0:=ah t4 [4] [(2,.s),(7,.s),(8,.s),(9,.st)]
abbrev t5:=ak S0
def ok:=aC t5 Nk [.s,.I,.s]
end ko
abbrev V9:List UInt8:=[48,49,50,51,52,53,54,55,56,57]
abbrev hl:List UInt8:=V9++[97,98,99,100,101,102]
def gY(c:UInt8):List UInt8:=if c.toNat=34\/c.toNat=92 then[92,c]else if 32<=c.toNat/\c.toNat<=126 then[c]else[92,120,hl.getD (c.toNat / 16) 0,hl.getD (c.toNat%16) 0]
def i'(l:List UInt8):List UInt8:=[34]++l.flatMap gY++[34]
def Ka(c:UInt8):1<=(gY c).length/\(gY c).length<=4:=by unfold gY;split<;>(try split)<;>simp
def Kb:∀l:List UInt8,l.length<=(l.flatMap gY).length/\(l.flatMap gY).length<=4 *l.length
 |[]=>gs
 |c::l=>by have d:=Ka c;have e:=Kb l;rw[da,bb,bx];omega
def Xl(c:UInt8):(a8 #[48,49,50,51,52,53,54,55,56,57,97,98,99,100,101,102])[c.toNat / 16]? =some (hl.getD (c.toNat / 16) 0):=nh (p:=λc=>(a8 #[48,49,50,51,52,53,54,55,56,57,97,98,99,100,101,102])[c.toNat / 16]? =some (hl.getD (c.toNat / 16) 0)) (by decide+kernel) c
def Xm(c:UInt8):(a8 #[48,49,50,51,52,53,54,55,56,57,97,98,99,100,101,102])[c.toNat%16]? =some (hl.getD (c.toNat%16) 0):=nh (p:=λc=>(a8 #[48,49,50,51,52,53,54,55,56,57,97,98,99,100,101,102])[c.toNat%16]? =some (hl.getD (c.toNat%16) 0)) (by decide+kernel) c
def Aa(l:List UInt8):∀u∈l.map jR,u.oneCell'=true:=λu d=>by obtain⟨c,_,rfl⟩:=List.mem_map.1 d;rfl
def Zg{s:ByteArray}{k:Nat}(d:(bl s).drop k=[]):s.size<=k:=by have:=congrArg List.length d;rw[dM,cZ]at this;simp at this;omega
def Ql(s:ByteArray)(ae:s.size<=1000000)(w:J):aj U Nh #[.string s] w λr d=>r=ad (.string (ba (i' (bl s))))/\ag w d:=by
 refine lR.ok ?_;dsimp only[lR.S0,ah];refine O.e3 (O.start (M:=F0) [] gs) (e:=hV) (sz:=1) (n:=1) (cs:=([34]:List UInt8).map jR) rfl dl λq Q=>?_;have loop:∀(l:List UInt8) (k:Nat) (acc:List UInt8) (out:Sl) (q:J),(bl s).drop k=l->k<=s.size->acc.length<=4 *k+1->O F0 w q [.row hV 1 out (acc.map jR)] []->
   lR.L1 s (a8 #[48,49,50,51,52,53,54,55,56,57,97,98,99,100,101,102]) out (k:Int) q λr d=>r=ad (.string (ba (acc++l.flatMap gY++[34])))/\ag w d:=by
  intro l;induction l with
  |nil=>
   intro k acc out q F hk Y y;have:=Zg F;have tn:out.n=acc.length:=by have:=aL.len (y.get 0);simp at this;omega
   refine lR.ik (aW (aS io) ?_);refine y.yB 0 qd (news:=([34]:List UInt8).map jR) rfl rfl (Aa _) io io λt h x=>?_;have Z:Bytes h t (acc++[34]):=by
    have:=aL.Aw (x.get 0)
    rwa[<-fh]at this
   refine⟨_,tt Z,?_,x.fr⟩;simp
  |cons c l ih=>
   intro k acc out q F hk Y y;obtain⟨T,ab,ak⟩:=wF F;have tn:out.n=acc.length:=by have:=aL.len (y.get 0);simp at this;omega
   have next:∀(C:List UInt8) (j:Sl) (h:J),C=acc++gY c->O F0 w h [.row hV 1 j (C.map jR)] []->lR.S5 s (a8 #[48,49,50,51,52,53,54,55,56,57,97,98,99,100,101,102]) j (k:Int) h λr d=>r=ad (.string (ba (acc++(c::l).flatMap gY++[34])))/\ag w d:=by intro C j h N x;show lR.L1 _ _ _ (aD .i64 ((k:Int)+1)) _ _;rw[bp k io];have W:=Ka c;have:=ih (k+1) C j h ab io (by rw[N,bb];omega) x;rw[N]at this;simpa[da]using this
   refine lR.ik (aU (aQ io) ⟨io,c,by rw[bG];exact T,?_⟩);have tail:∀(pre:List UInt8) (j:Sl) (h:J),j.n<=acc.length+1->(pre=[]/\c.toNat≠34/\c.toNat≠92\/pre=[92]/\(c.toNat=34\/c.toNat=92))->O F0 w h [.row hV 1 j ((acc++pre).map jR)] []->lR.S4 s (a8 #[48,49,50,51,52,53,54,55,56,57,97,98,99,100,101,102]) j (k:Int) (c.toNat:Int) h λr d=>r=ad (.string (ba (acc++(c::l).flatMap gY++[34])))/\ag w d:=by
    intro pre j h hn P x;have K:¬(32<=c.toNat/\c.toNat<=126)->lR.S6 s (a8 #[48,49,50,51,52,53,54,55,56,57,97,98,99,100,101,102]) j (k:Int) (c.toNat:Int) h λr d=>r=ad (.string (ba (acc++(c::l).flatMap gY++[34])))/\ag w d:=λA=>by
     have ac:=c.toNat_lt;have G:aD .u8 (dP (c.toNat:Int) 16)=((c.toNat / 16:Nat):Int):=by rw[show dP (c.toNat:Int) 16=((c.toNat / 16:Nat):Int)from rfl,IntKind.wrap_u8];omega
     have H:ez (c.toNat:Int) 16=((c.toNat%16:Nat):Int):=rfl;dsimp only[lR.S6,ah];refine x.dr λw3 S=>⟨by rw[G];omega,hl.getD (c.toNat / 16) 0,by rw[G,bG];exact Xl c,by rw[H];omega,hl.getD (c.toNat%16) 0,by rw[H,bG];exact Xm c,?_⟩;refine S.yB 0 qd (news:=([92,120,hl.getD (c.toNat / 16) 0,hl.getD (c.toNat%16) 0]:List UInt8).map jR) rfl rfl (Aa _) io io λt B z=>next (acc++pre++[92,120,hl.getD (c.toNat / 16) 0,hl.getD (c.toNat%16) 0]) t B ?_ (by rw[fh];exact z)
     rcases P with⟨rfl,D,E⟩|⟨_,D⟩
     .unfold gY;rw[aa io,aa A];simp
     .exact absurd io A
    dsimp only[lR.S4,ah];refine aY (λD=>aY (λE=>?_) (λE=>K io)) (λD=>K io);refine x.yB 0 qd (news:=([c]:List UInt8).map jR) rfl rfl (Aa _) io io λt B z=>next (acc++pre++[c]) t B ?_ (by rw[fh];exact z)
    rcases P with⟨rfl,L,W⟩|⟨rfl,L⟩
    .unfold gY;rw[aa io,af io];simp
    .unfold gY;rw[af L];simp
   have I:(c.toNat=34\/c.toNat=92)->lR.S3 s (a8 #[48,49,50,51,52,53,54,55,56,57,97,98,99,100,101,102]) out (k:Int) (c.toNat:Int) q λr d=>r=ad (.string (ba (acc++(c::l).flatMap gY++[34])))/\ag w d:=λA=>
    y.yB 0 qd (news:=([92]:List UInt8).map jR) rfl rfl (Aa _) io io λt B z=>tail [92] t B (by have:=aL.len (z.get 0);simp at this;omega) (.inr ⟨rfl,A⟩) (by rw[fh];exact z)
   refine aw (λA=>I (.inl io)) (λD=>aw (λA=>I (.inr io)) (λE=>?_));exact tail [] out q io (.inl ⟨rfl,io,io⟩) (by rw[bU];exact y)
 exact loop (bl s) 0 [34] _ q rfl io gs Q
def Xk(c:UInt8):cH 16 (hl.getD (c.toNat / 16) 0)=true/\cH 16 (hl.getD (c.toNat%16) 0)=true/\ei (16 *eM (hl.getD (c.toNat / 16) 0)+eM (hl.getD (c.toNat%16) 0))=c:=
 nh (p:=λc=>cH 16 (hl.getD (c.toNat / 16) 0)=true/\cH 16 (hl.getD (c.toNat%16) 0)=true/\ei (16 *eM (hl.getD (c.toNat / 16) 0)+eM (hl.getD (c.toNat%16) 0))=c) (by decide+kernel) c
def aah(c:UInt8)(l:List UInt8):qu (gY c++l)=(qu l).push c (gY c).length:=by
 unfold gY;split
 .rename_i d;show qu (92::c::l)=_;conv=>lhs;unfold qu
  rw[aa dl,aa dl];simp only[];rw[af d];rfl
 .rename_i d;split
  .rename_i e;show qu (c::l)=_;conv=>lhs;unfold qu
   rw[aa io,af io,aa io];rfl
  .obtain ⟨h,e,j⟩:=Xk c;generalize hl.getD (c.toNat / 16) 0=x at *;generalize hl.getD (c.toNat%16) 0=y at *;show qu (92::120::x::y::l)=_;conv=>lhs;unfold qu
   rw[aa dl,aa dl];simp only[];rw[aa dl,aa dl];simp only[h,e,if_true,j];rfl
def Qj:∀(t l:List UInt8),qu (t.flatMap gY++[34]++l)=.ok t ((t.flatMap gY).length+1)
 |[],l=>by show qu (34::l)=_;unfold qu;rw[af dl];rfl
 |c::t,l=>by rw[da,cE,cE,aah,<-cE,Qj t l,QR.push,bb,Nat.add_assoc]
def Y8(t l:List UInt8):fV (i' t++l)=.tok 5 t (i' t).length:=by
 have d:i' t++l=34::(t.flatMap gY++[34]++l):=by unfold i';simp
 have e:(i' t).length=1+((t.flatMap gY).length+1):=by unfold i';simp;omega
 rw[d,e];unfold fV;simp only[];rw[aa dl,aa dl,af dl,Qj t l]
def bN(n:Nat):List UInt8:=if n<10 then[ei (48+n)]else[ei (48+n / 10),ei (48+n%10)]
def hD(k:Int):List UInt8:=[[98,118],[115,116,114],[97,114,114],[97,114,115]].getD k.toNat []
def jH(s:aP):List UInt8:=40::hD s.k++(if s.k>1 then 32::bN s.x.toNat else[])++32::bN s.n.toNat++[41]
def fa(u n:Nat):List UInt8:=(List.range n).reverse.map λi=>if u.testBit i then 49 else 48
def m3:List (List UInt8):=[[],[],[],[],[110,111,116],[110,101,103],[97,110,100],[111,114],[120,111,114],[97,100,100],[109,117,108],[117,100,105,118],[117,114,101,109],[115,104,108],[108,115,104,114],[97,115,104,114],[117,108,116],[115,108,116],[101,113],[105,116,101],[99,111,110,99,97,116],[],[],[],[115,101,108,101,99,116],[115,116,111,114,101],[100,105,102,102],[108,101,110],[],[99,97,116],[115,117,98],[102,105,110,100],[114,101,112,108,97,99,101],[],[99,104,97,114]]
def kK:List (Int×List UInt8):=[(1,[110,117,109]),(3,[122,101,114,111]),(21,[101,120,116,114,97,99,116]),(22,[122,101,120,116]),(23,[115,101,120,116]),(28,[98,121,116,101]),(33,[105,110])]
def qF(op:Int)(o:List UInt8)(q:Int×List UInt8):List UInt8:=if q.1=op then q.2 else o
def dH(op:Int):List UInt8:=kK.foldl (qF op) (m3.getD op.toNat [])
def fJ(d:Nx):List UInt8:=
 if d.op=21 then 32::bN d.n.toNat++32::bN d.m.toNat else
 if d.op=22\/d.op=23\/d.op=28 then 32::bN d.n.toNat else
 if d.op=33 then 32::i' (bl d.tx)else[]
def eN:Nat->List Nx->Nat->List UInt8
 |0,_,_=>[]
 |f+1,g,i=>match g[i]? with
  |none=>[]
  |some d=>
   if d.op=0 then bl d.tx else if d.op=1 then 35::98::fa d.u.toNat d.st.n.toNat else if d.op=2 then i' (bl d.tx)else
   if d.op=3 then[40,122,101,114,111,32]++jH d.st++[41]else
   40::dH d.op++fJ d++d.kids.flatMap (λe=>32::eN f g e.toNat)++[41]
abbrev TK:=Int×List UInt8
def dX(s:aP):List TK:=[(0,[]),(2,hD s.k)]++(if s.k>1 then[(4,bN s.x.toNat)]else[])++[(4,bN s.n.toNat),(1,[])]
def gk(d:Nx):List TK:=
 if d.op=21 then[(4,bN d.n.toNat),(4,bN d.m.toNat)]else
 if d.op=22\/d.op=23\/d.op=28 then[(4,bN d.n.toNat)]else
 if d.op=33 then[(5,bl d.tx)]else[]
def dB:Nat->List Nx->Nat->List TK
 |0,_,_=>[]
 |f+1,g,i=>match g[i]? with
  |none=>[]
  |some d=>
   if d.op=0 then[(2,bl d.tx)]else if d.op=1 then[(3,35::98::fa d.u.toNat d.st.n.toNat)]else if d.op=2 then[(5,bl d.tx)]else
   if d.op=3 then[(0,[]),(2,[122,101,114,111])]++dX d.st++[(1,[])]else
   [(0,[]),(2,dH d.op)]++gk d++d.kids.flatMap (λe=>dB f g e.toNat)++[(1,[])]
def y'(r:List UInt8):Prop:=r=[]\/∃d e,r=d::e/\mD d=true
def kt(t:aG):TK:=(t.kind,t.text)
def bZ(l:List UInt8)(K:List TK):Prop:=∀(r:List UInt8) (p:Nat) (e:List aG),y' r->Lex (p+l.length) r e->∃d:List aG,d.map kt=K/\Lex p (l++r) (d++e)
def kT(l:List UInt8):Prop:=∃d e,l=d::e/\mD d=true
def kT.r{l:List UInt8}(d:kT l)(r:List UInt8):y' (l++r):=by obtain⟨j,h,rfl,e⟩:=d;exact .inr ⟨j,h++r,rfl,e⟩
def mC{x:UInt8}{r:List UInt8}(d:mD x=true):kT (x::r):=⟨x,r,rfl,d⟩
def kT.app{l:List UInt8}(d:kT l)(r:List UInt8):kT (l++r):=by obtain⟨j,h,rfl,e⟩:=d;exact⟨j,h++r,rfl,e⟩
def bZ.nil:bZ [] []:=λr p e _ d=>⟨[],rfl,d⟩
def bZ.app{e d:List UInt8}{k q:List TK}(A:bZ e k)(B:bZ d q)(C:kT d):bZ (e++d) (k++q):=λr p j D w=>by obtain⟨h,z,F⟩:=B r (p+e.length) j D (by rw[bb,<-Nat.add_assoc]at w;exact w);obtain⟨x,y,E⟩:=A (d++r) p (h++j) (C.r r) F;exact⟨x++h,by rw[fh,y,z],by rw[cE,cE];exact E⟩
def bZ.sp{l:List UInt8}{K:List TK}(z:bZ l K):bZ (32::l) K:=λr p h A x=>by
 obtain⟨e,y,w⟩:=z r (p+1) h A (by rw[bx]at x;rw[Nat.add_assoc,Nat.add_comm 1];exact x);refine⟨e,y,?_⟩;show Lex p (32::(l++r)) (e++h);have d:aH false (32::(l++r))=aH false (l++r)+1:=by show(if f' 32 then 1+aH false (l++r)else _)=_;rw[af dl,Nat.add_comm]
 generalize l++r=m at w d;generalize e++h=C at w;cases w with
 |fin q=>
  have j:p+1+aH false m=p+aH false (32::m):=by rw[d];omega
  rw[j];exact .fin (by rw[d];exact q)
 |tok q k=>
  have j:p+1+aH false m=p+aH false (32::m):=by rw[d];omega
  rw[j]at k ⊢;exact .tok (by rw[d];exact q) (by rw[d];rw[d]at k;exact k)
def bZ.one{l t:List UInt8}{k:Int}(w:∀r,y' r->aH false (l++r)=0)(q:∀r,y' r->fV (l++r)=.tok k t l.length):bZ l [(k,t)]:=λr p h e x=>by refine⟨[⟨k,t,p⟩],rfl,?_⟩;have d:=w r e;have j:=q r e;have:Lex p (l++r) (⟨k,t,p+aH false (l++r)⟩::h):=.tok (by rw[d,List.drop_zero];exact j) (by rw[d,List.drop_zero,xm];exact x);rw[d]at this;exact this
def zn:bZ [41] [(1,[])]:=.one (λr _=>rfl) (λr _=>rfl)
def Lt(t:List UInt8):bZ (i' t) [(5,t)]:=.one (λr _=>rfl) (λr _=>Y8 t r)
def rN{t:List UInt8}{k:Int}(A:∃c l,t=c::l/\hF c=true)(B:∀d∈t,bO d=true)(z:fx t=(k,0)):bZ t [(k,t)]:=by
 obtain⟨c,l,rfl,e⟩:=A;obtain⟨_,C,s3⟩:=R2 c e;have q:c.toNat≠40/\c.toNat≠41/\c.toNat≠34:=by have:∀c:UInt8,hF c=true->c.toNat≠40/\c.toNat≠41/\c.toNat≠34:=λc=>nh (p:=λc=>hF c=true->c.toNat≠40/\c.toNat≠41/\c.toNat≠34) (by decide+kernel) c;exact this c e
 refine .one (λr _=>?_) (λr w=>?_)
 .show (if f' c then _ else if c.toNat=59 then _ else 0)=0;rw[aa (by rw[C];simp),aa s3]
 .have h:((c::l)++r).takeWhile bO=c::l:=Ew (c::l) r B (by
   rcases w with rfl|⟨d,x,rfl,j⟩
   .exact .inl rfl
   .exact .inr ⟨d,x,rfl,Kx d j⟩)
  show fV (c::(l++r))=_;unfold fV;simp only[];rw[aa q.1,aa q.2.1,aa q.2.2,af e];have h:(c::(l++r)).takeWhile bO=c::l:=h;rw[h,z];have y:(c::(l++r)).drop (c::l).length=r:=by show((c::l)++r).drop (c::l).length=r;exact xm
  simp only[y];rcases w with rfl|⟨d,x,rfl,j⟩
  .rfl
  .simp only[j];rfl
structure BT(G:List Nx)(d:Nx):Prop where
 ok:qY G d
 op:0<=d.op/\d.op<=34
 st:bw d.st=true
 nm:d.op=0->i3 (bl d.tx)=true
 nu:d.op=1->d.st.k=0/\lL d.u d.st.n=false
 n1:d.op=21->0<=d.m/\d.m<=d.n/\d.n<=63
 n2:d.op=22\/d.op=23\/d.op=28->0<=d.n/\d.n<=64
 re:d.op=33->k1 d.tx=true
def sM{g:List Nx}(x:Vg g){i:Nat}{d:Nx}(hd:g[i]? =some d):BT (g.take i) d:=by
 have e:=x.ok i d hd;have w:=x.u7 i d hd;have C:=x.val d (aA hd);have M:∀z,z<d.kids.length->bw (bg (g.take i) d z)=true:=λz K=>Lg (λD I=>x.val D (List.mem_of_mem_take I)) w.ki K;have k:=w.kl;have B:0<=d.op/\d.op<=34:=by
  unfold b6 at k;split at k
  .omega
  .omega
 unfold bP at e;split at e
 .exact absurd (congrArg Prod.snd e) gs
 split at e
 .rename_i F;refine⟨w,B,C,λE=>?_,λq=>?_,λe=>io,λe=>io,λe=>io⟩
  .unfold cg at e;rw[aa io]at e;split at e
   .exact absurd (congrArg Prod.snd e) gs
   .rename_i N;cases y:i3 (bl d.tx)with
    |true=>rfl
    |false=>exact absurd ⟨E,y⟩ N
  .unfold cg at e;rw[aa io,aa io]at e;split at e
   .exact absurd (congrArg Prod.snd e) gs
   split at e
   .exact absurd (congrArg Prod.snd e) gs
   split at e
   .exact absurd (congrArg Prod.snd e) gs
   rename_i a b c;refine⟨Classical.byContradiction λL=>b (.inl ⟨q,L⟩),?_⟩;cases y:lL d.u d.st.n with
   |false=>rfl
   |true=>exact absurd ⟨q,y⟩ c
 .rename_i F;split at e
  .exact absurd (congrArg Prod.snd e) gs
  rename_i P;split at e
  .exact absurd (congrArg Prod.snd e) gs
  rename_i h;split at e
  .exact absurd (congrArg Prod.snd e) gs
  rename_i H;have h:ic d (bg (g.take i) d 0) (bg (g.take i) d 1) (bg (g.take i) d 2)=true:=by simpa using h
  have A:d.op=21\/d.op=22\/d.op=23\/d.op=28->(bg (g.take i) d 0).n<=64/\0<=(bg (g.take i) d 0).n:=λQ=>by have:=M 0 (by unfold b6 at k;split at k<;>(try split at k)<;>(try split at k)<;>omega);unfold bw at this;simp at this;omega
  refine⟨w,B,C,λe=>io,λe=>io,λq=>?_,λj=>?_,λG=>?_⟩
  .have:=A (.inl q);unfold ic at h;rw[aa io,af q]at h;simp at h;omega
  .have:=A (.inr j);unfold ic at h;rw[aa io,aa io]at h;rcases j with j|j|j
   .rw [af (.inl j)]at h;simp at h;omega
   .rw [af (.inr j)]at h;simp at h;omega
   .rw [aa io,af j]at h;simp at h;omega
  .cases O:k1 d.tx with
   |true=>rfl
   |false=>exact absurd ⟨G,O⟩ H
def V1:∀n<100,(∃c l,bN n=c::l/\hF c=true)/\(∀d∈bN n,bO d=true)/\fx (bN n)=(4,0):=by
 have h:∀n<100,((bN n).head?.any hF&&(bN n).all bO&&ai (fx (bN n)=(4,0)))=true:=by decide+kernel
 intro n j;have:=h n j;simp only[be,decide_eq_true_eq]at this;refine⟨?_,λd k=>cY.1 this.1.2 d k,this.2⟩;cases e:bN n with
 |nil=>rw[e]at this;simp at this
 |cons c l=>rw[e]at this;exact⟨c,l,rfl,by simpa using this.1.1⟩
def wN{n:Nat}(d:n<100):bZ (bN n) [(4,bN n)]:=by obtain⟨a,b,c⟩:=V1 n d;exact rN a b c
def Ii{u n:Nat}{x:UInt8}(d:x∈fa u n):x=48\/x=49:=by
 obtain⟨i,_,rfl⟩:=List.mem_map.1 d;split
 .exact .inr rfl
 .exact .inl rfl
def oP(u n:Nat):(fa u n).length=n:=by unfold fa;simp
def X9{u n:Nat}(w:1<=n)(x:n<=64):bZ (35::98::fa u n) [(3,35::98::fa u n)]:=by
 have j:=oP u n;have h:(fa u n).all (cH 2)=true:=cY.2 λe d=>by rcases Ii d with rfl|rfl<;>decide
 have k:∀e∈fa u n,bO e=true:=λe d=>by rcases Ii d with rfl|rfl<;>decide
 refine rN ⟨_,_,rfl,dl⟩ (λe d=>?_) ?_
 .rcases aF.1 d with rfl|d
  .decide
  .rcases aF.1 d with rfl|d
   .decide
   .exact k e d
 .generalize fa u n=b at *;cases b with
  |nil=>simp at j;omega
  |cons q r=>
   unfold fx;simp only[];rw[aa dl,aa dl];unfold tV;dsimp only;rw[af dl,af h,aa io]
def Ya{t:List UInt8}(h:i3 t=true):bZ t [(2,t)]:=by
 unfold i3 at h;cases t with
 |nil=>cases h
 |cons c m=>
  simp only[be,decide_eq_true_eq]at h;obtain⟨⟨B,j⟩,x⟩:=h;have w:o' c=true:=j;have q:∀d:UInt8,dV d=true->bO d=true/\d.toNat≠35:=λd=>nh (p:=λd=>dV d=true->bO d=true/\d.toNat≠35) (by decide+kernel) d;have z:dV c=true:=by unfold dV;rw[j];rfl
  have k:∀d∈c::m,dV d=true:=λd e=>by
   rcases aF.1 e with rfl|e
   .exact z
   .exact cY.1 x d e
  refine rN ⟨c,m,rfl,by unfold hF;rw[w];rfl⟩ (λd e=>(q d (k d e)).1) ?_;unfold fx;simp only[];rw[af w,aa,aa (by simp;omega)];intro y;obtain⟨d,e,A⟩:=List.any_eq_true.1 y;exact(q d (k d e)).2 (by simpa using A)
def ZG{op:Int}(k:4<=op)(q:op<=34):(∃c l,dH op=c::l/\hF c=true)/\(∀d∈dH op,bO d=true)/\fx (dH op)=(2,0):=by
 have h:∀n<31,((dH ((n+4:Nat):Int)).head?.any hF&&(dH ((n+4:Nat):Int)).all bO&&ai (fx (dH ((n+4:Nat):Int))=(2,0)))=true:=by decide+kernel
 have:=h (op - 4).toNat io;rw[show(((op - 4).toNat+4:Nat):Int)=op by omega]at this;simp only[be,decide_eq_true_eq]at this;refine⟨?_,λd j=>cY.1 this.1.2 d j,this.2⟩;cases e:dH op with
 |nil=>rw[e]at this;simp at this
 |cons c l=>rw[e]at this;exact⟨c,l,rfl,by simpa using this.1.1⟩
def Yb{op:Int}(d:4<=op)(e:op<=34):bZ (dH op) [(2,dH op)]:=by obtain⟨a,b,c⟩:=ZG d e;exact rN a b c
def abK{k:Int}(d:0<=k)(e:k<=3):bZ (hD k) [(2,hD k)]:=by
 have:k=0\/k=1\/k=2\/k=3:=io
 rcases this with rfl|rfl|rfl|rfl<;>exact rN ⟨_,_,rfl,dl⟩ dl dl
def sL{s:aP}(d:bw s=true):0<=s.k/\s.k<=3/\0<=s.n/\s.n<=64/\0<=s.x/\s.x<=16:=by unfold bw at d;simp at d;omega
def Yc{s:aP}(w:bw s=true):bZ (jH s) (dX s):=by
 obtain⟨a,b,c,F,G,f⟩:=sL w;unfold jH dX;have C:=abK a b;have A:bZ (32::bN s.n.toNat) [(4,bN s.n.toNat)]:=(wN io).sp;have z:kT (32::bN s.n.toNat):=mC dl;have y:kT [41]:=mC dl;have D:bZ (40::hD s.k++(if s.k>1 then 32::bN s.x.toNat else[])) ([(0,[]),(2,hD s.k)]++(if s.k>1 then[(4,bN s.x.toNat)]else[])):=by
  have e:bZ (40::hD s.k) [(0,[]),(2,hD s.k)]:=by intro r p j B d;obtain⟨h,q,E⟩:=C r (p+1) j B (by rw[bx]at d;rw[Nat.add_assoc,Nat.add_comm 1];exact d);refine⟨⟨0,[],p⟩::h,by rw[iG,q];rfl,?_⟩;exact .tok (i:=p) (l:=40::(hD s.k++r)) (u:=1) rfl E
  split
  .exact e.app (wN io).sp (mC dl)
  .rw [bU,bU];exact e
 have:=(D.app A z).app zn y;simpa using this
def X'{G:List Nx}{d:Nx}(e:BT G d):bZ (fJ d) (gk d)/\(fJ d=[]\/kT (fJ d)):=by
 unfold fJ gk;split
 .rename_i h;obtain⟨a,b,c⟩:=e.n1 h;exact⟨(wN io).sp.app (wN io).sp (mC dl),.inr (mC dl)⟩
 split
 .rename_i j;obtain⟨a,b⟩:=e.n2 io;exact⟨(wN io).sp,.inr (mC dl)⟩
 split
 .exact ⟨(Lt _).sp,.inr (mC dl)⟩
 .exact ⟨.nil,.inl rfl⟩
def O6{g:List Nx}(F:Vg g):∀(f i:Nat),i<f->i<g.length->bZ (eN f g i) (dB f g i)
 |0,i,L,_=>absurd L io
 |f+1,i,L,D=>by
  have z:g[i]? =some (g[i]'D):=a0 D;generalize g[i]'D=d at z;have q:=sM F z;unfold eN dB;rw[z];dsimp only;split
  .rename_i P;exact Ya (q.nm P)
  split
  .rename_i x;obtain⟨k0,_⟩:=q.nu x;have:=q.st;unfold bw at this;simp at this;exact X9 io io
  split
  .exact Lt _
  split
  .have Y:bZ [40,122,101,114,111] [(0,[]),(2,[122,101,114,111])]:=by intro r p B E y;obtain⟨A,j,K⟩:=(rN (t:=[122,101,114,111]) (k:=2) ⟨_,_,rfl,dl⟩ dl dl) r (p+1) B E (by rw[Nat.add_assoc];exact y);refine⟨⟨0,[],p⟩::A,by rw[iG,j];rfl,?_⟩;exact .tok (i:=p) (l:=40::([122,101,114,111]++r)) (u:=1) rfl K
   have T:bZ (32::jH d.st) (dX d.st):=(Yc q.st).sp;have:=(Y.app T (mC dl)).app zn (mC dl);simpa using this
  .rename_i ab a1 a2 a3;have S:=q.op;have W:=Yb (op:=d.op) io S.2;have N:bZ (40::dH d.op) [(0,[]),(2,dH d.op)]:=by intro r p B E y;obtain⟨A,j,K⟩:=W r (p+1) B E (by rw[bx]at y;rw[Nat.add_assoc,Nat.add_comm 1];exact y);refine⟨⟨0,[],p⟩::A,by rw[iG,j];rfl,?_⟩;exact .tok (i:=p) (l:=40::(dH d.op++r)) (u:=1) rfl K
   have O:bZ (40::dH d.op++fJ d) ([(0,[]),(2,dH d.op)]++gk d):=by
    obtain⟨m1,I⟩:=X' q;rcases I with h|I
    .have:gk d=[]:=by
      unfold fJ gk at *;split at h
      .cases h
      split at h
      .cases h
      split at h
      .cases h
      .rename_i q1 q2 q3;rw[aa q1,aa q2,aa q3]
     rw[h,this,bU,bU];exact N
    .exact N.app m1 I
   have w:∀(ks:List Int),(∀e∈ks,0<=e/\e<(i:Int))->bZ (ks.flatMap λe=>32::eN f g e.toNat) (ks.flatMap λe=>dB f g e.toNat)/\((ks.flatMap λe=>32::eN f g e.toNat)=[]/\(ks.flatMap λe=>dB f g e.toNat)=[]\/kT (ks.flatMap λe=>32::eN f g e.toNat)):=by
    intro ks;induction ks with
    |nil=>intro _;exact⟨.nil,.inl ⟨rfl,rfl⟩⟩
    |cons e ks ih=>
     intro M;have ac:=M e gq;obtain⟨Z,G⟩:=ih λe w=>M e (cJ _ w);have x:bZ (32::eN f g e.toNat) (dB f g e.toNat):=(O6 F f e.toNat io io).sp;rw[da,da];refine⟨?_,.inr (kT.app (mC dl) _)⟩;rcases G with⟨j,C⟩|G
     .rw [j,C,bU,bU];exact x
     .exact x.app Z G
   obtain⟨k1,H⟩:=w d.kids λe w=>by have:=F.kids z e w;omega
   have Q:bZ (40::dH d.op++fJ d++d.kids.flatMap λe=>32::eN f g e.toNat) ([(0,[]),(2,dH d.op)]++gk d++d.kids.flatMap λe=>dB f g e.toNat):=by
    rcases H with⟨j,C⟩|H
    .rw [j,C,bU,bU];exact O
    .exact O.app k1 H
   have:=Q.app zn (mC dl);simpa using this
def dR(d:Nx)(ks:List Int):Nx:={d with kids:=ks,st:=if d.op=1\/d.op=3 then d.st else a6}
def i2(F:Nat->List Nx->Option (Nat×List Nx)):List Int->List Nx->Option (List Int×List Nx)
 |[],d=>some ([],d)
 |e::h,d=>(F e.toNat d).bind λa=>(i2 F h a.2).map λl=>((a.1:Int)::l.1,l.2)
def ia(vs:List (List UInt8×Nat))(g:List Nx):Nat->Nat->List Nx->Option (Nat×List Nx)
 |0,_,_=>none
 |f+1,i,e=>(g[i]?).bind λd=>
  if d.op=0 then(lk vs (bl d.tx)).map λh=>(h,e)else
  (i2 (ia vs g f) d.kids e).bind λa=>if(bj a.2 (dR d a.1)).2.2=0 then some ((bj a.2 (dR d a.1)).2.1.toNat,(bj a.2 (dR d a.1)).1)else none
def ch(T:List aG)(p:Nat)(K:List TK):Prop:=∃r,(T.drop p).map kt=K++r
def ch.app{T:List aG}{p:Nat}{e h:List TK}(d:ch T p (e++h)):ch T p e/\ch T (p+e.length) h:=by obtain⟨r,d⟩:=d;rw[cE]at d;refine⟨⟨_,d⟩,r,?_⟩;have:=congrArg (List.drop e.length) d;rw[xm,<-List.map_drop,List.drop_drop]at this;exact this
def ch.cons{T:List aG}{p:Nat}{k:Int}{t:List UInt8}{K:List TK}(d:ch T p ((k,t)::K)):(aO T p).kind=k/\(aO T p).text=t/\p<T.length/\ch T (p+1) K:=by
 obtain⟨r,d⟩:=d;have j:p<T.length:=by
  rcases Nat.lt_or_ge p T.length with e|e
  .exact e
  .rw [List.drop_of_length_le e]at d;cases d
 rw[List.drop_eq_getElem_cons j,iG,kE,List.cons.injEq]at d;have q:aO T p=T[p]:=by unfold aO;rw[List.getD_eq_getElem?_getD,a0 j];rfl
 rw[q];have h:=d.1;unfold kt at h;exact⟨congrArg Prod.fst h,congrArg Prod.snd h,j,⟨r,d.2⟩⟩
section
variable {T:List aG} {s:aJ}
def q2{t:aG}(d:t.kind≠6):cS t s={s with p:=s.p+1}:=aa d
def gm{k:Int}{t:List UInt8}{K:List TK}(e:ch T s.p ((k,t)::K))(h:k≠6):bL T k s=.ok (aO T s.p) {s with p:=s.p+1}/\(aO T s.p).text=t/\ch T (s.p+1) K:=by obtain⟨a,b,c,d⟩:=e.cons;refine⟨?_,b,d⟩;unfold bL;rw[af a,q2 (by rw[a];exact h)]
def zf{t:List UInt8}{K:List TK}(d:ch T s.p ((4,t)::K)):dg T s=.ok ((c' 10 t:Nat):Int) {s with p:=s.p+1}/\ch T (s.p+1) K:=by obtain⟨a,b,c⟩:=gm d dl;unfold dg;rw[a];show PR.ok _ _=_/\_;rw[b];exact⟨rfl,c⟩
def Da:∀n<100,c' 10 (bN n)=n:=by decide+kernel
def wa{n:Int}{K:List TK}(d:ch T s.p ((4,bN n.toNat)::K))(e:0<=n)(h:n<100):dg T s=.ok n {s with p:=s.p+1}/\ch T (s.p+1) K:=by obtain⟨a,b⟩:=zf d;rw[Da _ io,Int.toNat_of_nonneg e]at a;exact⟨a,b⟩
def abL:∀k<4,u9 (hD ((k:Nat):Int))=some (k:Int):=dl
def GJ{z:aP}{K:List TK}(j:bw z=true)(h:ch T s.p (dX z++K)):iE T s=.ok z {s with p:=s.p+(dX z).length}/\ch T (s.p+(dX z).length) K:=by
 obtain⟨a,b,c,S,F,f⟩:=sL j;have L:¬z.k>1->z.x=0:=λe=>by unfold bw at j;simp at j;omega
 refine⟨?_,h.app.2⟩;unfold dX at h;have h:ch T s.p ((0,[])::(2,hD z.k)::((if z.k>1 then[(4,bN z.x.toNat)]else[])++((4,bN z.n.toNat)::(1,[])::K))):=by simpa using h
 obtain⟨M,_,P⟩:=gm h dl;obtain⟨N,B,w⟩:=gm (s:={s with p:=s.p+1}) P dl;have D:=abL z.k.toNat io;rw[Int.toNat_of_nonneg a]at D;unfold iE;rw[M];show PR.b (bL T 2 {s with p:=s.p+1}) _=_;rw[N];show(match u9 (aO T (s.p+1)).text with
  |none=>j4 (aO T (s.p+1))
  |some q=>(if q=2\/q=3 then dg T {s with p:=s.p+1+1}else .ok 0 {s with p:=s.p+1+1}).b λx d=>(dg T d).b λn d=>(bL T 1 d).b λ_ d=>
   if bw ⟨q,n,x⟩then .ok (⟨q,n,x⟩:aP) d else .er 9 (aO T s.p).aT)=_
 have B:(aO T (s.p+1)).text=hD z.k:=B;rw[B,D];dsimp only;have fin:∀(d:aJ) (x:Int),x=z.x->d.tm=s.tm->d.g=s.g->d.p+2=s.p+(dX z).length->ch T d.p ((4,bN z.n.toNat)::(1,[])::K)->((dg T d).b λn d=>(bL T 1 d).b λ_ d=>if bw ⟨z.k,n,x⟩then PR.ok (⟨z.k,n,x⟩:aP) d else .er 9 (aO T s.p).aT)=.ok z {s with p:=s.p+(dX z).length}:=by intro d x I E C H G;obtain⟨y,A⟩:=wa G c io;obtain⟨O,_,W⟩:=gm (s:={d with p:=d.p+1}) A dl;rw[y];show PR.b (bL T 1 {d with p:=d.p+1}) _=_;rw[O];subst I;show(if bw z=true then PR.ok z {d with p:=d.p+1+1}else _)=_;rw[af j];obtain⟨Q,st,Y⟩:=d;dsimp only at E C H ⊢;subst E C;rw[show Q+1+1=s.p+(dX z).length by omega]
 by_cases e:z.k>1
 .rw [af (show z.k=2\/z.k=3 by omega)];rw[af e]at w;obtain⟨y,A⟩:=wa (s:={s with p:=s.p+1+1}) w F io;rw[y];exact fin {s with p:=s.p+1+1+1} z.x rfl rfl rfl (by unfold dX;rw[af e];simp) A
 .rw [aa (show ¬(z.k=2\/z.k=3)by omega)];rw[aa e]at w;exact fin {s with p:=s.p+1+1} 0 (L e).symm rfl rfl (by unfold dX;rw[aa e];simp) w
def QY{t:List UInt8}(d:jC t=true):hy t=(t,0):=by
 unfold jC at d;unfold hy;cases h:Nat.blt 4096 t.length with
 |true=>rw[h]at d;cases d
 |false=>
  rw[h]at d;have:¬4096<t.length:=λe=>by rw[<-Nat.blt_eq,h]at e;cases e
  rw[aa this];dsimp only[cond_false]at d;cases q:hU t with
  |inl a=>rw[q]at d;cases d
  |inr k=>
   rw[q]at d;dsimp only at d ⊢;cases j:Nat.blt 64 (cG k.tp).sz with
   |true=>rw[j]at d;cases d
   |false=>
    rw[j]at d;have:¬64<(cG k.tp).sz:=λe=>by rw[<-Nat.blt_eq,j]at e;cases e
    rw[aa this];split at d
    .rename_i w;rw[af w];split at d
     .rename_i x;rw[af x,eq_of_beq d]
     .cases d
    .cases d
end
def xc(w:List UInt8):Bool:=ai (w≠[110,117,109])&&ai (w≠[122,101,114,111])&&ai (w≠[101,120,116,114,97,99,116])&&ai (w≠[122,101,120,116])&&ai (w≠[115,101,120,116])&&ai (w≠[98,121,116,101])&&ai (w≠[105,110])
def Pj:∀n<31,((n+4=21\/n+4=22\/n+4=23\/n+4=28\/n+4=33)\/xc (dH ((n+4:Nat):Int))=true/\lk fM (dH ((n+4:Nat):Int))=some (((n+4:Nat):Int),(b6 ((n+4:Nat):Int)).toNat))/\iz (dH ((n+4:Nat):Int))=true:=by decide+kernel
section
variable {T:List aG} {s:aJ}
def Xh{G:List Nx}{d:Nx}(hd:BT G d)(h4:4<=d.op){K:List TK}(e:ch T s.p (gk d++K)):iy T (dH d.op) s=.ok (dR d [],d.kids.length) {s with p:=s.p+(gk d).length}/\ch T (s.p+(gk d).length) K:=by
 refine⟨?_,e.app.2⟩;have ac:=hd.op;have B:=hd.ok.ok;have ab:=hd.ok.kl;have S:d.kids.length=(b6 d.op).toNat:=io
 rw[S];obtain⟨op,kids,n,m,u,h,st⟩:=d;dsimp only at *;unfold fL at B;simp only[be,Bool.or_eq_true,beq_iff_eq,decide_eq_true_eq]at B;obtain⟨⟨⟨Y,E⟩,o3⟩,Z⟩:=B;have W:u=0:=io
 have O:dR ⟨op,kids,n,m,u,h,st⟩ []=⟨op,[],n,m,0,h,a6⟩:=by unfold dR;dsimp only;rw[aa io,W]
 rw[O];have mk:gk ⟨op,kids,n,m,u,h,st⟩=if op=21 then[(4,bN n.toNat),(4,bN m.toNat)]else if op=22\/op=23\/op=28 then[(4,bN n.toNat)]else if op=33 then[(5,bl h)]else[]:=rfl;generalize gk ⟨op,kids,n,m,u,h,st⟩=mid at mk e ⊢;have D:¬(op=0\/op=2\/op=33)->h=ba []:=λe=>Z.resolve_left (by unfold mG;simp;omega);have lX:¬(op=21\/op=22\/op=23\/op=28)->n=0:=λe=>Y.resolve_left (by unfold mF;simp;omega);have one:∀(w:List UInt8),(op=22\/op=23\/op=28)->(dg T s).b (λn s=>.ok ((⟨op,[],n,0,0,ba [],a6⟩:Nx),1) s)=.ok (⟨op,[],n,m,0,h,a6⟩,(b6 op).toNat) {s with p:=s.p+mid.length}:=λw A=>by
  rw[aa io,af A]at mk;rw[mk]at e ⊢;obtain⟨j,q⟩:=hd.n2 A;have j:0<=n:=j;have q:n<=64:=q;obtain⟨k,_⟩:=wa e j io;rw[k,D io,E.resolve_left io];have Q:(b6 op).toNat=1:=by rcases A with rfl|rfl|rfl<;>decide
  rw[Q];rfl
 by_cases x:op=21
 .rw [af x]at mk;rw[mk]at e ⊢;subst x;obtain⟨j,q,F⟩:=hd.n1 rfl;have j:0<=m:=j;have q:m<=n:=q;have F:n<=63:=F;obtain⟨k,r1⟩:=wa (s:=s) e io io;obtain⟨H,r2⟩:=wa (s:={s with p:=s.p+1}) r1 j io;show PR.b (dg T s) (λn s=>(dg T s).b λm s=>.ok ((⟨21,[],n,m,0,ba [],a6⟩:Nx),1) s)=_;rw[k];show PR.b (dg T {s with p:=s.p+1}) _=_;rw[H,D io];rfl
 by_cases L:op=22
 .subst L;exact one [] (.inl rfl)
 by_cases M:op=23
 .subst M;exact one [] (.inr (.inl rfl))
 by_cases N:op=28
 .subst N;exact one [] (.inr (.inr rfl))
 by_cases z:op=33
 .rw [aa x,aa io,af z]at mk;rw[mk]at e ⊢;subst z;obtain⟨k,t1,_⟩:=gm (s:=s) e dl;have P:jC (bl h)=true:=hd.re rfl;show PR.b (PR.b (bL T 5 s) _) (λr s=>.ok ((⟨33,[],0,0,0,ba r,a6⟩:Nx),1) s)=_;rw[k];show PR.b (if(hy (aO T s.p).text).2=0 then PR.ok (hy (aO T s.p).text).1 {s with p:=s.p+1}else .er (hy (aO T s.p).text).2 (aO T s.p).aT) _=_;rw[t1,QY P,lX io,E.resolve_left io];rw[af rfl];show PR.ok ((⟨33,[],0,0,0,ba (bl h),a6⟩:Nx),1) _=_;rw[kZ];rfl
 .rw [aa x,aa io,aa z]at mk;rw[mk]at e ⊢;have C:=(Pj (op - 4).toNat io).1;rw[show(((op - 4).toNat+4:Nat):Int)=op by omega]at C;rcases C with C|⟨y,I⟩
  .omega
  .unfold xc at y;simp only[be,decide_eq_true_eq]at y;obtain⟨⟨⟨⟨⟨⟨w1,w2⟩,w3⟩,w4⟩,w5⟩,w6⟩,w7⟩:=y;unfold iy;rw[aa w1,aa w2,aa w3,aa w4,aa w5,aa w6,aa w7,I,D io,lX io,E.resolve_left io];rfl
def Xy{op:Int}(d:4<=op)(e:op<=34):iz (dH op)=true:=by
 have:=(Pj (op - 4).toNat io).2
 rwa[show(((op - 4).toNat+4:Nat):Int)=op by omega]at this
end
def O7(u:Nat):∀(n k:Nat),k<=n->u<2^n->c' 2 ((fa u n).take k)=u / 2^(n - k)
 |n,0,_,e=>by rw[List.take_zero,Nat.sub_zero,Nat.div_eq_of_lt e];rfl
 |n,k+1,w,e=>by
  have h:=O7 u n k io e;have x:=oP u n;have q:(fa u n)[k]? =some (if u.testBit (n - 1 - k)then 49 else 48):=by unfold fa;rw[px,List.getElem?_reverse (by simp;omega)];simp only[List.length_range];rw[List.getElem?_range io];rfl
  rw[g5,q];unfold c' at h ⊢;rw[List.foldl_append,h];show 2 *(u / 2^(n - k))+eM (if u.testBit (n - 1 - k)then 49 else 48)=_;have j:u / 2^(n - k)=u / 2^(n - 1 - k) / 2:=by rw[Nat.div_div_eq_div_mul,<-Nat.pow_succ,show(n - 1 - k).succ=n - k by omega]
  rw[j,show n - (k+1)=n - 1 - k by omega,Nat.testBit_eq_decide_div_mod_eq];have d:u / 2^(n - 1 - k)%2=0\/u / 2^(n - 1 - k)%2=1:=io
  rcases d with d|d<;>rw[d]
  .show _+0=_;omega
  .show _+1=_;omega
def Uk{u n:Int}(d:lL u n=false)(k:0<=u)(w:u<18446744073709551616)(q:1<=n/\n<=64):u.toNat<2^n.toNat:=by
 unfold lL at d;by_cases h:n<64
 .have j:¬(2^n.toNat<=u):=by simpa[h]using d
  have e:((2:Int)^n.toNat)=((2^n.toNat:Nat):Int):=by rw[Int.natCast_pow];rfl
  rw[e]at j;omega
 .have:n.toNat=64:=io
  rw[this];have:(2:Nat)^64=18446744073709551616:=dl
  omega
def Qu{g:List Nx}(hv:Vg g)(hu:∀d∈g,0<=d.u/\d.u<18446744073709551616):∀(n f i:Nat) (E:b3) (s:aJ) (k:Nat) (G:List Nx),i<n->i<g.length->ia E.vs g n i s.g=some (k,G)->ch E.T s.p (dB n g i)->(dB n g i).length<=f->E.dp+i<64->s.tm+bQ n g i<=65536->(∀d∈g,d.op=0->lk E.pm (bl d.tx)=none)->
  dO f E s=.ok k ⟨s.p+(dB n g i).length,s.tm+bQ n g i,G⟩
 |0,f,i,E,s,k,G,ae,_,_,_,_,_,_,_=>absurd ae io
 |n+1,f,i,E,s,k,G,ae,hi,q,hK,hf,aS,aV,am=>by
  have L:g[i]? =some (g[i]'hi):=a0 hi;generalize g[i]'hi=d at L;have ak:=aA L;have D:=sM hv L;have aC:=D.op;have aw:=D.ok.kl;have av:=λk M=>hv.kids L k M;unfold ia at q;rw[L]at q;have q:(if d.op=0 then(lk E.vs (bl d.tx)).map λk=>(k,s.g)else(i2 (ia E.vs g n) d.kids s.g).bind λa=>if(bj a.2 (dR d a.1)).2.2=0 then some ((bj a.2 (dR d a.1)).2.1.toNat,(bj a.2 (dR d a.1)).1)else none)=some (k,G):=q;have ac:bQ (n+1) g i=d.kids.foldl (λI k=>I+bQ n g k.toNat) 1:=by
   conv=>lhs;unfold bQ
   rw[L]
  have w:dB (n+1) g i=if d.op=0 then[(2,bl d.tx)]else if d.op=1 then[(3,35::98::fa d.u.toNat d.st.n.toNat)]else if d.op=2 then[(5,bl d.tx)]else
   if d.op=3 then[(0,[]),(2,[122,101,114,111])]++dX d.st++[(1,[])]else
   [(0,[]),(2,dH d.op)]++gk d++d.kids.flatMap (λk=>dB n g k.toNat)++[(1,[])]:=by
   conv=>lhs;unfold dB
   rw[L]
  rw[fold_add]at ac;generalize aQ:bQ (n+1) g i=SZ at *;generalize aR:dB (n+1) g i=TKN at *;have aU:1<=TKN.length:=by
   rw[w];split
   .simp
   split
   .simp
   split
   .simp
   split<;>simp
  obtain⟨f,rfl⟩:∃f',f=f'+1:=⟨f - 1,io⟩;show jd (dO f) E s=_;have Q:d.op<=3->d.kids=[]:=λC=>by
   have:b6 d.op=0:=by unfold b6;rw[aa io,af C]
   rw[this]at aw;exact List.length_eq_zero_iff.1 io
  have Y:d.op<=3->SZ=1:=λC=>by rw[ac,Q C];rfl
  have start:∀(kd:Int) (N:List UInt8) (K:List TK),TKN=(kd,N)::K->kd≠1->kd≠4->kd≠6->(aO E.T s.p).kind=kd/\(aO E.T s.p).text=N/\ch E.T (s.p+1) K/\
    jd (dO f) E s=if kd=2 then k9 (dO f) E (aO E.T s.p) {s with p:=s.p+1,tm:=s.tm+1}else if kd=3 then eC {s with p:=s.p+1,tm:=s.tm+1} (fg (aO E.T s.p).text) (aO E.T s.p)else
     if kd=5 then eC {s with p:=s.p+1,tm:=s.tm+1} ⟨2,[],0,0,0,ba (aO E.T s.p).text,a6⟩ (aO E.T s.p)else mz (dO f) E (aO E.T s.p) {s with p:=s.p+1,tm:=s.tm+1}:=λkd N K B h h4 h6=>by rw[B]at hK;obtain⟨a,b,c,A⟩:=hK.cons;refine⟨a,b,A,?_⟩;unfold jd;dsimp only;rw[aa io,aa io,q2 io,a]
  by_cases h0:d.op=0
  .rw [af h0]at q w;obtain⟨a,b,_,B⟩:=start 2 (bl d.tx) [] w dl dl dl;rw[B,af rfl];unfold k9;rw[b,am d ak h0];dsimp only;cases hl:lk E.vs (bl d.tx)with
   |none=>rw[hl]at q;cases q
   |some k'=>
    rw[hl]at q;have q:(k',s.g)=(k,G):=by simpa using q
    cases q;rw[w,Y io];rfl
  rw[aa h0]at q w;have added:∀(ks:List Int) (e:List Nx) (j:aJ) (H:Nx) (t:aG),i2 (ia E.vs g n) d.kids s.g=some (ks,e)->j.g=e->H=dR d ks->eC j H t=.ok k {j with g:=G}:=λks e j H t h P C=>by
   rw[h]at q;have q:(if(bj e (dR d ks)).2.2=0 then some ((bj e (dR d ks)).2.1.toNat,(bj e (dR d ks)).1)else none)=some (k,G):=q;split at q
   .rename_i hz;cases q;unfold eC;rw[P,C,af hz]
   .cases q
  by_cases h:d.op=1
  .rw [af h]at w;obtain⟨a,b,_,B⟩:=start 3 _ [] w dl dl dl;rw[B,aa dl,af rfl,b];have F:i2 (ia E.vs g n) d.kids s.g=some ([],s.g):=by rw[Q io];rfl
   obtain⟨Z,S⟩:=hu d ak;obtain⟨ao,aM⟩:=D.nu h;have ab:=D.st;have an:d.st=aN d.st.n/\1<=d.st.n/\d.st.n<=64:=by
    unfold bw at ab;rw[ao]at ab;simp at ab;have aL:d.st.x=0:=io
    refine⟨?_,io,io⟩;show(⟨d.st.k,d.st.n,d.st.x⟩:aP)=_;rw[ao,aL];rfl
   have aB:fg (35::98::fa d.u.toNat d.st.n.toNat)=dR d []:=by
    have ax:=Uk aM Z S an.2;have hb:=O7 d.u.toNat d.st.n.toNat d.st.n.toNat (bm _) ax;rw[fA (by rw[oP];exact bm _),Nat.sub_self,Nat.pow_zero,Nat.div_one]at hb;unfold fg;rw[aa (show ¬((35:UInt8)::98::fa d.u.toNat d.st.n.toNat)[1]? =some 120 by show ¬some (98:UInt8)=some 120;decide)]
    show(⟨1,[],0,0,(c' 2 (fa d.u.toNat d.st.n.toNat):Int),ba [],aN (((35:UInt8)::98::fa d.u.toNat d.st.n.toNat).length - 2:Nat)⟩:Nx)=_;rw[hb,bx,bx,oP,show d.st.n.toNat+1+1 - 2=d.st.n.toNat by omega,Int.toNat_of_nonneg Z,Int.toNat_of_nonneg io,<-an.1];have z:=D.ok.ok;have aT:=Q io;obtain⟨op,kids,nn,m,u,N,st⟩:=d;dsimp only at *;subst h;unfold fL at z;simp[mF,mG]at z;unfold dR;simp[z]
   have:=added [] s.g {s with p:=s.p+1,tm:=s.tm+1} _ (aO E.T s.p) F rfl aB;rw[this,w,Y io];rfl
  rw[aa h]at w;by_cases P:d.op=2
  .rw [af P]at w;obtain⟨a,b,_,B⟩:=start 5 _ [] w dl dl dl;rw[B,aa dl,aa dl,af rfl,b];have F:i2 (ia E.vs g n) d.kids s.g=some ([],s.g):=by rw[Q io];rfl
   have:=added [] s.g {s with p:=s.p+1,tm:=s.tm+1} ⟨2,[],0,0,0,ba (bl d.tx),a6⟩ (aO E.T s.p) F rfl (by have z:=D.ok.ok;obtain⟨op,kids,nn,m,u,N,st⟩:=d;dsimp only at *;subst P;unfold fL at z;simp[mF,mG]at z;unfold dR;simp[z,kZ])
   rw[this,w,Y io];rfl
  rw[aa P]at w;have comp:∀(wd:List UInt8) (K:List TK) (H:Nx) (y:aJ) (ks:List Int) (e:List Nx),TKN=(0,[])::(2,wd)::K->iz wd=true->(ch E.T (s.p+2) K->iC E.T (dO f {E with dp:=E.dp+1}) wd {s with p:=s.p+1+1,tm:=s.tm+1}=.ok H y/\ch E.T y.p [(1,[])])->
    i2 (ia E.vs g n) d.kids s.g=some (ks,e)->y.g=e->H=dR d ks->y.p+1=s.p+TKN.length->y.tm=s.tm+SZ->jd (dO f) E s=.ok k ⟨s.p+TKN.length,s.tm+SZ,G⟩:=λwd K H y ks e B ho az ap aq ar hp ht=>by obtain⟨a,b,c,e1⟩:=start 0 [] _ B dl dl dl;rw[e1,aa dl,aa dl,aa dl];obtain⟨Z,S,q3⟩:=gm (s:={s with p:=s.p+1,tm:=s.tm+1}) c dl;obtain⟨n1,n2⟩:=az q3;unfold mz;rw[aa io,Z];show(if iz (aO E.T (s.p+1)).text then _ else _)=_;have S:(aO E.T (s.p+1)).text=wd:=S;rw[S,af ho];show PR.b (iC E.T (dO f {E with dp:=E.dp+1}) wd {s with p:=s.p+1+1,tm:=s.tm+1}) _=_;rw[n1];show PR.b (bL E.T 1 y) _=_;obtain⟨q4,_,_⟩:=gm n2 dl;rw[q4];show eC {y with p:=y.p+1} H _=_;rw[added ks e {y with p:=y.p+1} H _ ap aq ar];obtain⟨p4,t4,g4⟩:=y;dsimp only at hp ht ⊢;rw[hp,ht]
  by_cases C:d.op=3
  .rw [af C]at w;have F:i2 (ia E.vs g n) d.kids s.g=some ([],s.g):=by rw[Q io];rfl
   have ay:(⟨3,[],0,0,0,ba [],d.st⟩:Nx)=dR d []:=by have z:=D.ok.ok;obtain⟨op,kids,nn,m,u,N,st⟩:=d;dsimp only at *;subst C;unfold fL at z;simp[mF,mG]at z;unfold dR;simp[z]
   refine comp [122,101,114,111] (dX d.st++[(1,[])]) ⟨3,[],0,0,0,ba [],d.st⟩ ⟨s.p+1+1+(dX d.st).length,s.tm+1,s.g⟩ [] s.g (by rw[w];simp) dl (λM=>?_) F rfl ay (by rw[w];simp;omega) (by rw[Y io]);obtain⟨z1,z2⟩:=GJ (s:={s with p:=s.p+1+1,tm:=s.tm+1}) D.st M;refine⟨?_,z2⟩;show PR.b (PR.b (iE E.T {s with p:=s.p+1+1,tm:=s.tm+1}) (λI s=>.ok ((⟨3,[],0,0,0,ba [],I⟩:Nx),0) s)) _=_;rw[z1];rfl
  rw[aa C]at w;have kids:∀(ks:List Int) (j:aJ) (l:List Int) (e:List Nx) (K:List TK),(∀k∈ks,0<=k/\k<(i:Int))->i2 (ia E.vs g n) ks j.g=some (l,e)->ch E.T j.p (ks.flatMap (λk=>dB n g k.toNat)++K)->(ks.flatMap λk=>dB n g k.toNat).length<=f->j.tm+ks.foldl (λI k=>I+bQ n g k.toNat) 0<=65536->
    gF (dO f {E with dp:=E.dp+1}) ks.length j=.ok l ⟨j.p+(ks.flatMap λk=>dB n g k.toNat).length,j.tm+ks.foldl (λI k=>I+bQ n g k.toNat) 0,e⟩:=by
   intro ks;induction ks with
   |nil=>
    intro j l e K _ h _ _ _;have h:(([]:List Int),j.g)=(l,e):=by simpa[i2]using h
    cases h;rfl
   |cons A ks ih=>
    intro j l e K ah h W ag aH;have hq:=ah A gq;rw[da]at W ag ⊢;rw[bb]at ag;rw[cE]at W;rw[List.foldl_cons,fold_add,Nat.zero_add]at aH ⊢;unfold i2 at h;cases hF:ia E.vs g n A.toNat j.g with
    |none=>rw[hF]at h;cases h
    |some a=>
     obtain⟨ka,O⟩:=a;rw[hF]at h;have h:(i2 (ia E.vs g n) ks O).map (λl=>((ka:Int)::l.1,l.2))=some (l,e):=h;cases hR:i2 (ia E.vs g n) ks O with
     |none=>rw[hR]at h;cases h
     |some b=>
      obtain⟨lb,Gb⟩:=b;rw[hR]at h;have h:((ka:Int)::lb,Gb)=(l,e):=by simpa using h
      cases h;have r1:=Qu hv hu n f A.toNat {E with dp:=E.dp+1} j ka O io io hF W.app.1 io (by show E.dp+1+A.toNat<64;omega) io am;show PR.b (dO f {E with dp:=E.dp+1} j) _=_;rw[r1];have r2:=ih ⟨j.p+(dB n g A.toNat).length,j.tm+bQ n g A.toNat,O⟩ lb e K (λk M=>ah k (cJ _ M)) hR W.app.2 io (by show j.tm+bQ n g A.toNat+_<=_;omega);show PR.b (gF (dO f {E with dp:=E.dp+1}) ks.length ⟨j.p+(dB n g A.toNat).length,j.tm+bQ n g A.toNat,O⟩) _=_;rw[r2];show PR.ok _ _=_;rw[bb,Nat.add_assoc,Nat.add_assoc]
  have aI:TKN.length=2+(gk d).length+(d.kids.flatMap λk=>dB n g k.toNat).length+1:=by rw[w];simp;omega
  cases F:i2 (ia E.vs g n) d.kids s.g with
  |none=>rw[F]at q;cases q
  |some a=>
   obtain⟨ks,e⟩:=a;refine comp (dH d.op) (gk d++((d.kids.flatMap λk=>dB n g k.toNat)++[(1,[])])) (dR d ks) ⟨s.p+1+1+(gk d).length+(d.kids.flatMap λk=>dB n g k.toNat).length,s.tm+1+d.kids.foldl (λI k=>I+bQ n g k.toNat) 0,e⟩ ks e (by rw[w];simp) (Xy io aC.2) (λM=>?_) F rfl rfl (by rw[aI];show s.p+1+1+_+_+1=_;omega) (by rw[ac];show s.tm+1+_=_;omega);obtain⟨e1,k1⟩:=Xh (s:={s with p:=s.p+1+1,tm:=s.tm+1}) D io M;have e2:=kids d.kids {s with p:=s.p+1+1+(gk d).length,tm:=s.tm+1} ks e [(1,[])] av F k1 io (by show s.tm+1+_<=_;omega);refine⟨?_,k1.app.2⟩;show PR.b (iy E.T (dH d.op) {s with p:=s.p+1+1,tm:=s.tm+1}) _=_;rw[e1];show PR.b (gF (dO f {E with dp:=E.dp+1}) d.kids.length {s with p:=s.p+1+1+(gk d).length,tm:=s.tm+1}) _=_;rw[e2];rfl
abbrev wb:ByteArray:=⟨#[48,49,50,51,52,53,54,55,56,57]⟩
def tF(d:Nat):ByteArray:=wb.extract d (d+1)
def V6:∀n<10,tF n++a8 #[]=ba (bN n):=dl
def V7:∀n<100,10<=n->tF (n / 10)++(tF (n%10)++a8 #[])=ba (bN n):=dl
def Jv:∀n<10,(tF n).size=1:=dl
section
variable {w:J} {R:aB}
def Jt(k:Nat)(z:0<k)(A:k<100)(n:Int)(s:ByteArray)(B:s.size<=10)(j:oY.L1 n wb (tF (k%10)++s) ((k / 10:Nat):Int) w R):oY.L1 n wb s (k:Int) w R:=by
 have d:ez (k:Int) 10=((k%10:Nat):Int):=rfl;have q:dP (k:Int) 10=((k / 10:Nat):Int):=rfl;have x:k%10<10:=Nat.mod_lt _ io;have y:=Jv _ x;refine oY.ik (aU (by simp;omega) (aW (by rw[d];exact aS io) ?_));rw[d];have e:aD .i64 (((k%10:Nat):Int)+1)=((k%10+1:Nat):Int):=bp _ io;have h:wb.extract (aZ ((k%10:Nat):Int)) (aZ ((k%10+1:Nat):Int))=tF (k%10):=rfl;dsimp only[oY.S2,ah];dsimp only[oY.S3,ah];rw[e,h,q,IntWalk.i64_in _ io];refine⟨io,?_,io,by rw[bG];omega,?_,j⟩
 .show ((k%10+1:Nat):Int)<=((10:Nat):Int);omega
 .rw [y,IntKind.max_i64];omega
end
def q8{w:J}{n:Int}(j:0<=n)(x:n<100):aj U EE #[.i n] w λr e=>r=ad (.string (ba (bN n.toNat)))/\ag w e:=by
 obtain⟨m,rfl⟩:=Int.eq_ofNat_of_zero_le j;rw[bG];have fin:∀s:ByteArray,s=ba (bN m)->oY.L1 (m:Int) wb s ((0:Nat):Int) w λr e=>r=ad (.string (ba (bN m)))/\ag w e:=λs k=>
  oY.ik (aW rfl (aW (aS io) ⟨by rw[k],Fr.refl _ _⟩))
 refine oY.ok (aw (λh=>⟨by rw[show m=0 by omega];rfl,Fr.refl _ _⟩) (λh=>?_));refine Jt m io io _ _ dl ?_;rcases Nat.lt_or_ge m 10 with d|d
 .rw [show m / 10=0 by omega,show m%10=m by omega];exact fin _ (V6 _ d)
 .have q:=Jv (m%10) (Nat.mod_lt _ io);refine Jt (m / 10) io io _ _ (by rw[ByteArray.size_append,q];decide) ?_;rw[show m / 10 / 10=0 by omega,show m / 10%10=m / 10 by omega];exact fin _ (V7 _ io d)
def ov{a b:ByteArray}(d:a.size<=1000000)(e:b.size<=1000000):¬((((a.size+b.size:Nat)):Int)>IntKind.i64.max):=by rw[IntKind.max_i64];omega
def jt(n:Nat):(bN n).length<=2:=by unfold bN;split<;>simp
def RW(s:aP):(jH s).length<=20:=by
 have e:=jt s.x.toNat;have h:=jt s.n.toNat;have j:(hD s.k).length<=3:=by
  unfold hD;generalize s.k.toNat=d
  match d with
  |0=>decide
  |1=>decide
  |2=>decide
  |3=>decide
  |d+4=>simp
 unfold jH;split<;>simp<;>omega
def IZ{s:aP}(I:bw s=true)(w:J):aj U Nl #[dA s] w λr q=>r=ad (.string (ba (jH s)))/\ag w q:=by
 obtain⟨a,b,c,N,F,f⟩:=sL I;have P:=jt s.x.toNat;have Q:=jt s.n.toNat;refine y2.aq ((bT (w:=w) [] gs).ax λz C E=>E.nw λh _ e=>⟨a,io,?_⟩);have e:O F0 w h [.g z,.c C.heap.size [.string (ba [98,118]),.string (ba [115,116,114]),.string (ba [97,114,114]),.string (ba [97,114,115])] fD] []:=e;have A:∀(k:Int),s.k=k->(hD k).length<=3->h.cell? ((ab C.heap.size).add (aZ k *1))=some (.string (ba (hD k)))->dv (some (ab C.heap.size)) λp=>∃t:ByteArray,h.cell? (p.add (aZ s.k *1))=some (.string t)/\¬((((a8 #[40]).size+t.size:Nat):Int)>IntKind.i64.max)/\¬(((((a8 #[40])++t).size+(a8 #[32]).size:Nat):Int)>IntKind.i64.max)/\y2.a1 z s.k s.n s.x (((a8 #[40])++t)++(a8 #[32])) h λr q=>r=ad (.string (ba (jH s)))/\ag w q:=by
  intro k d M K;subst d;have T:(ba (hD s.k)).size<=3:=by rw[bc];exact M
  refine⟨_,K,ov dl io,ov (by rw[ByteArray.size_append];show 1+_<=_;omega) dl,?_⟩;have D:∀(o:List UInt8) (j:J),o.length<=20->O F0 w j [.g z] []->jH s=o++bN s.n.toNat++[41]->y2.bh z s.k s.n s.x (ba o) j λr q=>r=ad (.string (ba (jH s)))/\ag w q:=by intro o j S y L;refine y.av (q8 (w:=j) c io) ?_;rintro _ W rfl B;refine⟨_,rfl,ov (by rw[bc];omega) (by rw[bc];omega),ov (by rw[ByteArray.size_append,bc,bc];omega) dl,?_,B.fr⟩;rw[L,<-bM,<-bM];rfl
  have G:((a8 #[40])++ba (hD s.k))++(a8 #[32])=ba (40::hD s.k++[32]):=by rw[<-bM];congr 1
  rw[G];have y:=e.take 1;refine aY (λd=>?_) (λd=>?_)
  .refine y.av (q8 (w:=h) F io) ?_;rintro _ j rfl B;refine⟨_,rfl,ov (by rw[bc];simp;omega) (by rw[bc];omega),ov (by rw[ByteArray.size_append,bc,bc];simp;omega) dl,?_⟩;have H:(ba (40::hD s.k++[32])++ba (bN s.x.toNat))++(a8 #[32])=ba (40::hD s.k++[32]++bN s.x.toNat++[32]):=by rw[<-bM,<-bM];rfl
   rw[H];refine D _ j (by simp;omega) B ?_;unfold jH;rw[af d];simp
  .refine D _ h (by simp;omega) y ?_;unfold jH;rw[aa d];simp
 have d:s.k=0\/s.k=1\/s.k=2\/s.k=3:=io
 rcases d with d|d|d|d
 .exact A 0 d dl (e.ld 1 0)
 .exact A 1 d dl (e.ld 1 1)
 .exact A 2 d dl (e.ld 1 2)
 .exact A 3 d dl (e.ld 1 3)
def O5{g:List Nx}(q:yn g):∀(f i:Nat),i<f->∀e,i<e->eN f g i=eN e g i
 |0,i,j,_,_=>absurd j io
 |f+1,i,j,0,k=>absurd k io
 |f+1,i,j,e+1,k=>by
  unfold eN;cases x:g[i]? with
  |none=>rfl
  |some h=>
   dsimp only;have w:h.kids.flatMap (λd=>32::eN f g d.toNat)=h.kids.flatMap (λd=>32::eN e g d.toNat):=by rw[List.flatMap_def,List.flatMap_def];congr 1;refine List.map_congr_left λd y=>?_;obtain⟨z,A⟩:=q i h x d y;rw[O5 q f d.toNat io e io]
   rw[w]
structure HK(g:List Nx):Prop where
 v:Vg g
 u:∀d∈g,0<=d.u/\d.u<18446744073709551616
 t:∀d∈g,d.tx.size<=1000000
 l:∀i<g.length,(eN (i+1) g i).length<=65536
def Ug(u i:Nat)(x:u<18446744073709551616)(hi:i<64):aD .i64 (W.q6 .u64 (Int.fdiv (u:Int) (2^(min (aZ (aD .u64 (i:Int))) (IntKind.bits .u64)))) 1)=if u.testBit i then 1 else 0:=by
 have e:aD .u64 (i:Int)=(i:Int):=IntWalk.u64_in _ io;have h:min (aZ (i:Int)) (IntKind.bits .u64)=i:=by rw[bG];show min i 64=i;omega
 rw[e,h];have j:Int.fdiv (u:Int) (2^i)=((u / 2^i:Nat):Int):=by
  rw[Int.fdiv_eq_ediv_of_nonneg _ (by exact Int.le_of_lt (Int.pow_pos io))];have:((2:Int)^i)=((2^i:Nat):Int):=by rw[Int.natCast_pow];rfl
  rw[this];rfl
 rw[j];have w:u / 2^i<18446744073709551616:=Nat.lt_of_le_of_lt (Nat.div_le_self _ _) x;have k:W.q6 .u64 ((u / 2^i:Nat):Int) 1=((u / 2^i%2:Nat):Int):=by have:=W.Ui (u / 2^i) 1 w dl;rw[Nat.and_one_is_mod]at this;exact this
 rw[k];have q:u.testBit i=ai (u / 2^i%2=1):=by rw[Nat.testBit_eq_decide_div_mod_eq]
 rw[q];have d:u / 2^i%2=0\/u / 2^i%2=1:=io
 rcases d with d|d<;>rw[d]<;>rfl
def Uo(u n k:Nat)(d:k<n):(fa u n).drop (n - 1 - k)=(if u.testBit k then 49 else 48)::(fa u n).drop (n - k):=by have e:=oP u n;rw[List.drop_eq_getElem_cons io,show n - 1 - k+1=n - k by omega];congr 1;unfold fa;simp only[List.getElem_map,List.getElem_reverse,List.length_range,List.getElem_range];rw[show n - 1 - (n - 1 - k)=k by omega]
section
variable {w:J} {s:Sl} {l:List Nd}
def IA{b:Nat}{x0 x2 x3 x4 x6 x7 x8:Int}{x1:Sl}{x5:ByteArray}{L D:List En}{u n:Nat}(F:x4=(u:Int))(q:u<18446744073709551616)(E:n<=64){R:aB}(j:∀e,O F0 w e L D->R (ad (.string (ba (35::98::fa u n)))) e)(B:En.g b∈L):∀(k:Nat) (d:J),k<=n->O F0 w d L D->
  iY.a4 b x0 x1 x2 x3 x4 x5 x6 x7 x8 (ba (35::98::(fa u n).take (n - k))) ((k:Int) - 1) d R
 |0,d,_,h=>by refine iY.bR (aW (aS io) ?_);rw[fA (by rw[oP];omega)];exact j d h
 |k+1,d,H,h=>by
  have I:=oP u n;have K:((fa u n).take (n - (k+1))).length<=64:=by rw[gK];omega
  have y:(((k+1:Nat):Int) - 1)=(k:Int):=io
  rw[y];refine iY.bR (aU (aQ io) ⟨by rw[IntWalk.u64_in _ io];omega,?_⟩);subst F;rw[Ug u k q io];have C:aj U EE #[.i (if u.testBit k then 1 else 0)] d λr e=>r=ad (.string (ba [if u.testBit k then 49 else 48]))/\ag d e:=by have:=q8 (w:=d) (n:=if u.testBit k then 1 else 0) (by split<;>decide) (by split<;>decide);revert this;cases u.testBit k<;>exact id
  refine h.av C ?_;rintro _ G rfl x;refine⟨_,rfl,ov (by rw[bc];simp;omega) (by rw[bc];simp),?_⟩;rw[IntWalk.i64_in _ io,bM];have z:35::98::(fa u n).take (n - (k+1))++[if u.testBit k then 49 else 48]=35::98::(fa u n).take (n - k):=by
   have A:(fa u n)[n - (k+1)]? =some (if u.testBit k then 49 else 48):=by have:=Uo u n k io;rw[<-List.head?_drop,show n - (k+1)=n - 1 - k by omega,this];rfl
   show 35::98::((fa u n).take (n - (k+1))++[_])=_;rw[show n - k=n - (k+1)+1 by omega,g5,A];rfl
  rw[z];exact IA (R:=R) rfl q E j B k G io x
end
def nS(vs:List (List UInt8×Nat))(g G:List Nx):Prop:=∀d∈g,d.op=0->∃h e,lk vs (bl d.tx)=some h/\G[h]? =some e/\e.st=d.st
def n7{α:Type}{l r:List α}{k:Nat}{e:α}(d:l[k]? =some e):(l++r)[k]? =some e:=by rw[List.getElem?_append_left (cq.1 d).1];exact d
def nS.app{vs:List (List UInt8×Nat)}{g G:List Nx}(h:nS vs g G)(r:List Nx):nS vs g (G++r):=λd x j=>by obtain⟨y,e,k,q,w⟩:=h d x j;exact⟨y,e,k,n7 q,w⟩
def abN{g G:List Nx}{d:Nx}{ks:List Int}(P:1<=d.op)(h:bP g d=(d.st,0))(M:ks.length=d.kids.length)(z:∀(j:Nat) (k q:Int),d.kids[j]? =some k->ks[j]? =some q->0<=q/\∃e y,g[k.toNat]? =some e/\G[q.toNat]? =some y/\y.st=e.st):bP G (dR d ks)=(d.st,0):=by
 have O:=A0 (g:=g) (n:=d) (by rw[h]);have C:∀j,bg G (dR d ks) j=bg g d j:=λj=>by
  unfold bg;show(match ks[j]? with
   |some k=>match G[k.toNat]? with
    |some d=>d.st
    |none=>a6
   |none=>a6)=_
  cases w:d.kids[j]? with
  |none=>
   have:ks[j]? =none:=List.getElem?_eq_none (by have:=List.getElem?_eq_none_iff.1 w;omega);rw[this]
  |some k=>
   have I:=(cq.1 w).1;have x:ks[j]? =some (ks[j]'io):=a0 io;generalize ks[j]'io=q at x;obtain⟨_,e,y,a,b,c⟩:=z j k q w x;rw[x];dsimp only;rw[a,b];exact c
 have E:ks.all (dK G)=true:=cY.2 λq x=>by obtain⟨j,w⟩:=List.mem_iff_getElem?.1 x;have I:=(cq.1 w).1;have K:d.kids[j]? =some (d.kids[j]'io):=a0 io;obtain⟨a,e,y,_,b,_⟩:=z j _ q K w;have:=(cq.1 b).1;unfold dK;simp;omega
 have F:d.kids.all (dK g)=true:=cY.2 λk z=>by have:=O.ki k z;unfold dK;simp;omega
 have H:fL (dR d ks)=fL d:=rfl;have L:(b6 d.op==(ks.length:Int))=(b6 d.op==(d.kids.length:Int)):=by rw[M]
 have N:d.op<=3->cg G (dR d ks)=cg g d:=λB=>by
  by_cases A:d.op=2
  .unfold cg;rw[af A,af (show(dR d ks).op=2 from A)];rfl
  .have e:(dR d ks).st=d.st:=by show(if d.op=1\/d.op=3 then d.st else a6)=_;rw[af io]
   have D:¬d.op=0:=io
   have o:(dR d ks).op=d.op:=rfl;have u:(dR d ks).u=d.u:=rfl;unfold cg;rw[e,o,u];simp only[D,false_and,A];rfl
 unfold bP at h ⊢;rw[C,C,C];show(if(b6 d.op==(ks.length:Int)&&ks.all (dK G)&&fL (dR d ks))=false then(a6,1)else
  if d.op<=3 then cg G (dR d ks)else
  if cX d.op (bg g d 0) (bg g d 1) (bg g d 2)=false then(a6,9)else
  if ic d (bg g d 0) (bg g d 1) (bg g d 2)=false then(a6,5)else
  if d.op=33/\k1 d.tx=false then(a6,2)else(gM d (bg g d 0) (bg g d 1) (bg g d 2),0))=_
 rw[E,H,L];rw[F]at h;by_cases B:d.op<=3
 .rw [N B];exact h
 .rw [aa B]at h ⊢;exact h
def B5{G:List Nx}{n:Nx}{z:aP}(q:bP G n=(z,0))(A:G.length<4096)(w:Vg G):(bj G n).2.2=0/\∃r,(bj G n).1=G++r/\r.length<=1/\(∀h∈r,h=eg n z)/\Vg (bj G n).1/\(bj G n).1[(bj G n).2.1.toNat]? =some (eg n z):=by
 have e:(bj G n).2.2=0:=by
  unfold bj;rw[q,aa gs];dsimp only;split
  .rfl
  .rw [aa io]
 obtain⟨_,y,x,j,d⟩:=q0 e;rw[q]at j d;refine⟨e,?_⟩;rw[x];show ∃r,_/\_/\_/\_/\(bj G n).1[y]? =_;rcases d with d|⟨_,d,_⟩
 .exact ⟨[],by rw[d,bU],gs,λh k=>(by cases k),yy w e,j⟩
 .exact ⟨_,d,gs,λh k=>b'.1 k,yy w e,j⟩
def KW{g:List Nx}(E:Vg g){vs:List (List UInt8×Nat)}:∀(n i:Nat) (G:List Nx),i<n->i<g.length->Vg G->nS vs g G->G.length+bQ n g i<=4096->
  ∃k r e d,ia vs g n i G=some (k,G++r)/\r.length<=bQ n g i/\Vg (G++r)/\(∀d∈r,d.op≠0)/\g[i]? =some e/\(G++r)[k]? =some d/\d.st=e.st
 |0,i,G,Q,_,_,_,_=>absurd Q io
 |n+1,i,G,Q,N,z,A,W=>by
  have y:g[i]? =some (g[i]'N):=a0 N;generalize g[i]'N=e at y;have ab:=aA y;have hd:=sM E y;have ag:=hd.op;have S:=λk w=>E.kids y k w;have ac:bQ (n+1) g i=e.kids.foldl (λB k=>B+bQ n g k.toNat) 1:=by
   conv=>lhs;unfold bQ
   rw[y]
  rw[fold_add]at ac;unfold ia;rw[y];show ∃k r d' d,(if e.op=0 then(lk vs (bl e.tx)).map λk=>(k,G)else(i2 (ia vs g n) e.kids G).bind λa=>if(bj a.2 (dR e a.1)).2.2=0 then some ((bj a.2 (dR e a.1)).2.1.toNat,(bj a.2 (dR e a.1)).1)else none)=some (k,G++r)/\_;by_cases D:e.op=0
  .obtain ⟨k,d,h1,h2,h3⟩:=A e ab D;rw[af D,h1];exact⟨k,[],e,d,by rw[bU];rfl,gs,by rw[bU];exact z,λd h=>(by cases h),rfl,by rw[bU];exact h2,h3⟩
  rw[aa D];have kids:∀(ks:List Int) (G:List Nx),(∀k∈ks,0<=k/\k<(i:Int))->Vg G->nS vs g G->G.length+ks.foldl (λB k=>B+bQ n g k.toNat) 0<=4096->
    ∃l r,i2 (ia vs g n) ks G=some (l,G++r)/\r.length<=ks.foldl (λB k=>B+bQ n g k.toNat) 0/\Vg (G++r)/\(∀d∈r,d.op≠0)/\l.length=ks.length/\
     ∀(j:Nat) (k q:Int),ks[j]? =some k->l[j]? =some q->0<=q/\∃d C,g[k.toNat]? =some d/\(G++r)[q.toNat]? =some C/\C.st=d.st:=by
   intro ks;induction ks with
   |nil=>exact λG _ z _ _=>⟨[],[],by rw[bU];rfl,gs,by rw[bU];exact z,λd h=>(by cases h),rfl,λj k q w=>(by simp at w)⟩
   |cons k ks ih=>
    intro G T z A W;have ae:=T k gq;rw[List.foldl_cons,fold_add,Nat.zero_add]at W ⊢;obtain⟨q,F,d1,e1,Y,a2,Z,a4,a5,a6,a7⟩:=KW E n k.toNat G io io z A io;obtain⟨l,O,H,b2,I,K,L,M⟩:=ih (G++F) (λq x=>T q (cJ _ x)) Z (A.app F) (by rw[bb];omega);refine⟨(q:Int)::l,F++O,?_,by rw[bb];omega,by rw[<-cE];exact I,λd h=>(aK.1 h).elim (a4 d) (K d),by rw[bx,bx,L],λj k' q' w x=>?_⟩
    .unfold i2;rw[Y];show(i2 (ia vs g n) ks (G++F)).map (λl=>((q:Int)::l.1,l.2))=_;rw[H,cE];rfl
    .rw [<-cE];cases j with
     |zero=>
      rw[List.getElem?_cons_zero]at w x;cases w;cases x;exact⟨Int.natCast_nonneg _,d1,e1,a5,n7 (by rw[bG];exact a6),a7⟩
     |succ j=>
      rw[List.getElem?_cons_succ]at w x;exact M j k' q' w x
  obtain⟨l,r,H,b2,I,K,L,M⟩:=kids e.kids G S z A io;rw[H];show ∃k r' d' d,(if(bj (G++r) (dR e l)).2.2=0 then some ((bj (G++r) (dR e l)).2.1.toNat,(bj (G++r) (dR e l)).1)else none)=some (k,G++r')/\_;have hs:=abN (g:=g.take i) (G:=G++r) (ks:=l) io (E.ok i e y) L λj k q w x=>by obtain⟨c1,d,C,c2,c3,c4⟩:=M j k q w x;have:=S k (aA w);exact⟨c1,d,C,by rw[List.getElem?_take_of_lt io];exact c2,c3,c4⟩
  obtain⟨z0,O,P,z2,z3,z4,z5⟩:=B5 hs (by rw[bb];omega) I;rw[af z0];refine⟨_,r++O,e,eg (dR e l) e.st,by rw[<-cE,<-P],by rw[bb];omega,by rw[<-cE,<-P];exact z4,λd h=>?_,rfl,by rw[<-cE,<-P];exact z5,rfl⟩;rcases aK.1 h with h|h
  .exact K d h
  .rw [z3 d h];exact D
def fS(E:b3)(q:Nat)(K:List TK)(m:Nat)(G:List Nx)(k:Nat)(d:List Nx):Prop:=
 ∀(f:Nat) (s:aJ),q<=f->ch E.T s.p K->s.g=G->s.tm+m<=65536->dO f E s=.ok k ⟨s.p+K.length,s.tm+m,d⟩
def iP(E:b3)(q n:Nat)(K:List TK)(m:Nat)(G:List Nx)(l:List Int)(d:List Nx):Prop:=
 ∀(f:Nat) (s:aJ),q<=f->ch E.T s.p K->s.g=G->s.tm+m<=65536->gF (dO f E) n s=.ok l ⟨s.p+K.length,s.tm+m,d⟩
section
variable {E:b3} {G G1 G2:List Nx} {K K1:List TK} {q q1 m m1 k n:Nat} {l:List Int} {t:List UInt8}
def iP.nil:iP E 0 0 [] 0 G [] G:=λf s _ _ d _=>by subst d;rfl
def iP.cons(e:fS E q K m G k G1)(h:iP E q1 n K1 m1 G1 l G2):iP E (max q q1) (n+1) (K++K1) (m+m1) G ((k:Int)::l) G2:=λf s w d j x=>by show PR.b (dO f E s) _=_;rw[e f s io d.app.1 j io];show PR.b (gF (dO f E) n ⟨s.p+K.length,s.tm+m,G1⟩) _=_;rw[h f ⟨s.p+K.length,s.tm+m,G1⟩ io d.app.2 rfl (by show s.tm+m+m1<=_;omega)];show PR.ok _ _=_;rw[bb,<-Nat.add_assoc,<-Nat.add_assoc]
def Bd{f:Nat}{s:aJ}{kd:Int}(d:ch E.T s.p ((kd,t)::K))(e:kd≠1)(h:kd≠4)(j:kd≠6)(k:s.tm<65536):(aO E.T s.p).text=t/\ch E.T (s.p+1) K/\
  dO (f+1) E s=if kd=2 then k9 (dO f) E (aO E.T s.p) {s with p:=s.p+1,tm:=s.tm+1}else if kd=3 then eC {s with p:=s.p+1,tm:=s.tm+1} (fg (aO E.T s.p).text) (aO E.T s.p)else
   if kd=5 then eC {s with p:=s.p+1,tm:=s.tm+1} ⟨2,[],0,0,0,ba (aO E.T s.p).text,a6⟩ (aO E.T s.p)else mz (dO f) E (aO E.T s.p) {s with p:=s.p+1,tm:=s.tm+1}:=by obtain⟨a,b,_,c⟩:=d.cons;refine⟨b,c,?_⟩;show jd (dO f) E s=_;unfold jd;dsimp only;rw[aa io,aa io,q2 io,a]
def pH(d:q+1<=n):∃f,n=f+1/\q<=f:=⟨n - 1,io,io⟩
def fS.pm(e:lk E.pm t=some k):fS E 1 [(2,t)] 1 G k G:=λf s j h q w=>by obtain⟨f,rfl,_⟩:=pH j;obtain⟨a,_,d⟩:=Bd (f:=f) h dl dl dl io;subst q;rw[d,af rfl];unfold k9;rw[a,e];rfl
def fS.vs(h:lk E.pm t=none)(e:lk E.vs t=some k):fS E 1 [(2,t)] 1 G k G:=λf s q j w x=>by obtain⟨f,rfl,_⟩:=pH q;obtain⟨a,_,d⟩:=Bd (f:=f) j dl dl dl io;subst w;rw[d,af rfl];unfold k9;rw[a,h,e];rfl
def fS.nm{mc:PM}(w:lk E.pm t=none)(C:lk E.vs t=none)(j:iA E t=some mc)(e:mc.ps=[])(y:ch E.T mc.b K)(B:fS {E with pm:=[],kn:=mc.ix} q K m G k G1):fS E (q+1) [(2,t)] (m+1) G k G1:=λf s d x A D=>by obtain⟨f,rfl,z⟩:=pH d;replace d:=z;obtain⟨a,_,h⟩:=Bd (f:=f) x dl dl dl io;rw[h,af rfl];unfold k9;rw[a,w,C,j];dsimp only;rw[af e];unfold h4;rw[e];show PR.b (dO f {E with pm:=[],kn:=mc.ix} ⟨mc.b,s.tm+1,s.g⟩) _=_;rw[B f ⟨mc.b,s.tm+1,s.g⟩ d y A (by show s.tm+1+m<=_;omega)];show PR.ok k _=_;rw[Nat.add_assoc,Nat.add_comm 1 m];rfl
def CS{f:Nat}{s:aJ}{w:List UInt8}(j:ch E.T s.p ((0,[])::(2,w)::K))(hd:E.dp<64)(k:s.tm<65536):ch E.T (s.p+2) K/\(aO E.T (s.p+1)).text=w/\
  dO (f+1) E s=if iz w then(iC E.T (dO f {E with dp:=E.dp+1}) w ⟨s.p+2,s.tm+1,s.g⟩).b λn e=>(bL E.T 1 e).b λ_ e=>eC e n (aO E.T s.p)
   else p9 (dO f) {E with dp:=E.dp+1} (aO E.T s.p) (aO E.T (s.p+1)) ⟨s.p+2,s.tm+1,s.g⟩:=by obtain⟨a,b,h⟩:=Bd (f:=f) j dl dl dl k;obtain⟨q1,d,q⟩:=gm (s:={s with p:=s.p+1,tm:=s.tm+1}) b dl;have d:(aO E.T (s.p+1)).text=w:=d;refine⟨q,d,?_⟩;rw[h,aa dl,aa dl,aa dl];unfold mz;rw[aa io,q1];show(if iz (aO E.T (s.p+1)).text then _ else _)=_;rw[d]
def fS.op{w:List UInt8}{op:Int}(h:lk fM w=some (op,n))(e:xc w=true)(hd:E.dp<64)(F:iP {E with dp:=E.dp+1} q n K m G l G1)(y:(bj G1 {ho op with kids:=l}).2.2=0)(C:(bj G1 {ho op with kids:=l}).2.1=(k:Int)):
  fS E (q+1) ((0,[])::(2,w)::(K++[(1,[])])) (m+1) G k (bj G1 {ho op with kids:=l}).1:=λf s d x A Q=>by
 obtain⟨f,rfl,z⟩:=pH d;replace d:=z;obtain⟨a,_,j⟩:=CS (f:=f) x hd io;have D:iz w=true:=by unfold iz;rw[h];simp
 rw[j,af D];unfold xc at e;simp only[be,decide_eq_true_eq]at e;obtain⟨⟨⟨⟨⟨⟨H,I⟩,L⟩,M⟩,N⟩,O⟩,P⟩:=e;have B:iy E.T w ⟨s.p+2,s.tm+1,s.g⟩=.ok (ho op,n) ⟨s.p+2,s.tm+1,s.g⟩:=by unfold iy;rw[aa H,aa I,aa L,aa M,aa N,aa O,aa P,h];rfl
 unfold iC;rw[B];show PR.b (PR.b (gF (dO f {E with dp:=E.dp+1}) n ⟨s.p+2,s.tm+1,s.g⟩) _) _=_;rw[F f ⟨s.p+2,s.tm+1,s.g⟩ d a.app.1 A (by show s.tm+1+m<=_;omega)];show PR.b (bL E.T 1 ⟨s.p+2+K.length,s.tm+1+m,G1⟩) _=_;obtain⟨c,_,_⟩:=gm (s:=⟨s.p+2+K.length,s.tm+1+m,G1⟩) a.app.2 dl;rw[c];show(if(bj G1 {ho op with kids:=l}).2.2=0 then PR.ok (bj G1 {ho op with kids:=l}).2.1.toNat _ else _)=_;rw[af y,C,bG];simp only[bx,bb,List.length_nil];rw[show s.p+2+K.length+1=s.p+(K.length+(0+1)+1+1)by omega,show s.tm+1+m=s.tm+(m+1)by omega]
def fS.num{u z:Nat}(A:u<100)(B:z<100)(hd:E.dp<64)(j:(bj G ⟨1,[],0,0,(u:Int),ba [],aN (z:Int)⟩).2.2=0)(y:(bj G ⟨1,[],0,0,(u:Int),ba [],aN (z:Int)⟩).2.1=(k:Int)):
  fS E 1 [(0,[]),(2,[110,117,109]),(4,bN u),(4,bN z),(1,[])] 1 G k (bj G ⟨1,[],0,0,(u:Int),ba [],aN (z:Int)⟩).1:=λf s d h w I=>by
 obtain⟨f,rfl,q⟩:=pH d;replace d:=q;obtain⟨a,_,e⟩:=CS (f:=f) h hd io;rw[e,af dl];obtain⟨C,F⟩:=zf (s:=⟨s.p+2,s.tm+1,s.g⟩) a;obtain⟨D,H⟩:=zf (s:=⟨s.p+2+1,s.tm+1,s.g⟩) F;have x:iy E.T [110,117,109] ⟨s.p+2,s.tm+1,s.g⟩=.ok (⟨1,[],0,0,(u:Int),ba [],aN (z:Int)⟩,0) ⟨s.p+2+1+1,s.tm+1,s.g⟩:=by show PR.b (dg E.T ⟨s.p+2,s.tm+1,s.g⟩) _=_;rw[C];show PR.b (dg E.T ⟨s.p+2+1,s.tm+1,s.g⟩) _=_;rw[D,Da _ A,Da _ B];rfl
 unfold iC;rw[x];show PR.b (bL E.T 1 ⟨s.p+2+1+1,s.tm+1,s.g⟩) _=_;obtain⟨c,_,_⟩:=gm (s:=⟨s.p+2+1+1,s.tm+1,s.g⟩) H dl;rw[c];subst w;show(if(bj s.g ⟨1,[],0,0,(u:Int),ba [],aN (z:Int)⟩).2.2=0 then PR.ok (bj s.g ⟨1,[],0,0,(u:Int),ba [],aN (z:Int)⟩).2.1.toNat _ else _)=_;rw[af j,y,bG];rfl
def fS.call{w:List UInt8}{mc:PM}{KB:List TK}{j d:Nat}(H:iz w=false)(hd:E.dp<64)(e:iA E w=some mc)(D:iP {E with dp:=E.dp+1} q mc.ps.length K m G l G1)(F:kJ G1 mc.ps l=true)(A:ch E.T mc.b KB)(y:fS {E with dp:=E.dp+1,pm:=iU mc.ps l,kn:=mc.ix} j KB d G1 k G2):fS E (max q j+1) ((0,[])::(2,w)::(K++[(1,[])])) (m+d+1) G k G2:=λf s h z C I=>by
 obtain⟨f,rfl,B⟩:=pH h;replace h:=B;obtain⟨a,b,x⟩:=CS (f:=f) z hd io;rw[x,aa (by rw[H];decide)];unfold p9;have e:iA {E with dp:=E.dp+1} (aO E.T (s.p+1)).text=some mc:=by rw[b];exact e
 rw[e];show PR.b (gF (dO f {E with dp:=E.dp+1}) mc.ps.length ⟨s.p+2,s.tm+1,s.g⟩) _=_;rw[D f ⟨s.p+2,s.tm+1,s.g⟩ io a.app.1 C (by show s.tm+1+m<=_;omega)];show PR.b (bL E.T 1 ⟨s.p+2+K.length,s.tm+1+m,G1⟩) _=_;obtain⟨c,_,_⟩:=gm (s:=⟨s.p+2+K.length,s.tm+1+m,G1⟩) a.app.2 dl;rw[c];show(if kJ G1 mc.ps l=true then h4 (dO f) {E with dp:=E.dp+1} mc l ⟨s.p+2+K.length+1,s.tm+1+m,G1⟩else _)=_;rw[af F];unfold h4;show PR.b (dO f {E with dp:=E.dp+1,pm:=iU mc.ps l,kn:=mc.ix} ⟨mc.b,s.tm+1+m,G1⟩) _=_;rw[y f ⟨mc.b,s.tm+1+m,G1⟩ io A rfl (by show s.tm+1+m+d<=_;omega)];show PR.ok k _=_;simp only[bx,bb,List.length_nil];rw[show s.p+2+K.length+1=s.p+(K.length+(0+1)+1+1)by omega,show s.tm+1+m+d=s.tm+(m+d+1)by omega]
end
def fS.tx{g:List Nx}(A:Vg g)(z:∀d∈g,0<=d.u/\d.u<18446744073709551616){E:b3}{i k:Nat}{G e:List Nx}(hi:i<g.length)(h:ia E.vs g (i+1) i G=some (k,e))(hd:E.dp+i<64)(x:∀d∈g,d.op=0->lk E.pm (bl d.tx)=none):
  fS E (dB (i+1) g i).length (dB (i+1) g i) (bQ (i+1) g i) G k e:=λf s q j w y=>by subst w;exact Qu A z (i+1) f i E s k e (Nat.lt_succ_self _) hi h j q hd y x
def dE(T:List aG)(n:Nat)(K:List TK)(x y:bY):Prop:=ch T x.s.p K->y.s.p=x.s.p+K.length/\∀f,iH T (f+n) x=iH T f y
section
variable {T:List aG} {x y z:bY} {K K1:List TK} {n m:Nat}
def dE.nil:dE T 0 [] x x:=λ_=>⟨rfl,λ_=>rfl⟩
def dE.app(h:dE T n K x y)(j:dE T m K1 y z):dE T (n+m) (K++K1) x z:=λd=>by obtain⟨a,b⟩:=h d.app.1;obtain⟨c,e⟩:=j (by rw[a];exact d.app.2);refine⟨by rw[c,a,bb,Nat.add_assoc],λf=>?_⟩;rw[<-e f,<-b (f+m),Nat.add_assoc,Nat.add_comm m n]
def abj{t:List UInt8}(d:ch T x.s.p ((6,t)::K))(f:Nat):iH T (f+1) x=.ok x:=by unfold iH;dsimp only;rw[af d.cons.1]
def dE.one(e:ch T (x.s.p+1) K->y.s.p=x.s.p+(K.length+1)/\lN T {x with s:={x.s with p:=x.s.p+1}}=.ok y):dE T 1 ((0,[])::K) x y:=λh=>by
 obtain⟨a,_,_,b⟩:=h.cons;obtain⟨c,d⟩:=e b;refine⟨c,λf=>?_⟩;conv=>lhs;unfold iH
 dsimp only;rw[aa (by rw[a];decide),af a,q2 (by rw[a];decide),d];rfl
def iI{α:Type}{q:PR α}{a:α}{s:aJ}{f:α->bY->SR}(d:q=.ok a s):q.s x f=f a {x with s:=s}:=by rw[d];rfl
def rp{w:List UInt8}(d:ch T x.s.p ((2,w)::K)):ch T (x.s.p+1) K/\∃t:aG,t.text=w/\lN T x=(let x:={x with s:={x.s with p:=x.s.p+1}}
  let fin (c:fE) (x:bY):SR:=(bL T 1 x.s).s x λ_ x=>.ok {x with cs:=x.cs++[c]}
  if w=[100,101,99,108,97,114,101]then qb T t x else
  if w=[100,101,102,105,110,101]then qc T x else
  if w=[97,115,115,101,114,116]\/w=[101,100,105,116]then
   (bL T 2 x.s).s x λt x=>(sI T x).s x λn x=>fin ⟨if w=[101,100,105,116]then 2 else 1,t.text,a6,n,0⟩ x else
  if w=[114,101,116,114,97,99,116]then(bL T 2 x.s).s x λt x=>fin ⟨3,t.text,a6,0,0⟩ x else
  if w=[112,117,115,104]then fin ⟨4,[],a6,0,0⟩ x else
  if w=[112,111,112]then fin ⟨5,[],a6,0,0⟩ x else
  if w=[99,104,101,99,107]then(dg T x.s).s x λn y=>if 1099511627776<n then .er 5 (aO T x.s.p).aT else fin ⟨6,[],a6,0,n⟩ y else
  .er 2 t.aT):=by obtain⟨a,b,c⟩:=gm d dl;refine⟨c,aO T x.s.p,b,?_⟩;unfold lN;rw[iI a,b]
def OO{s:aJ}{t:List UInt8}(h:ch T s.p ((2,t)::K))(d:lk x.vs t=none)(e:lk x.ms t=none)(j:x.s=s):w9 T x=.ok (aO T s.p) {s with p:=s.p+1}/\(aO T s.p).text=t/\ch T (s.p+1) K:=by subst j;obtain⟨a,b,c⟩:=gm h dl;refine⟨?_,b,c⟩;unfold w9;rw[a];show(if(lk x.vs (aO T x.s.p).text).isSome||(lk x.ms (aO T x.s.p).text).isSome then _ else _)=_;rw[b,d,e];rfl
def nW(nm:List UInt8)(z:aP):List TK:=(0,[])::(2,[100,101,99,108,97,114,101])::(2,nm)::(dX z++[(1,[])])
def dE.decl{nm:List UInt8}{st:aP}(j:lk x.vs nm=none)(k:lk x.ms nm=none)(z:bw st=true)(y:(bj x.s.g ⟨0,[],0,0,0,ba nm,st⟩).2.2=0):
  dE T 1 (nW nm st) x {x with s:=⟨x.s.p+(nW nm st).length,x.s.tm,(bj x.s.g ⟨0,[],0,0,0,ba nm,st⟩).1⟩,vs:=x.vs++[(nm,(bj x.s.g ⟨0,[],0,0,0,ba nm,st⟩).2.1.toNat)],cs:=x.cs++[⟨0,nm,st,((bj x.s.g ⟨0,[],0,0,0,ba nm,st⟩).2.1.toNat:Nat),0⟩]}:=
 .one λw=>by refine⟨rfl,?_⟩;obtain⟨A,t,_,h⟩:=rp (x:={x with s:={x.s with p:=x.s.p+1}}) w;rw[h];dsimp only;rw[af rfl];unfold qb;obtain⟨B,d,C⟩:=OO (x:={x with s:={x.s with p:=x.s.p+1+1}}) (s:={x.s with p:=x.s.p+1+1}) A j k rfl;rw[iI B];obtain⟨D,E⟩:=GJ (s:={x.s with p:=x.s.p+1+1+1}) z C;rw[iI D];obtain⟨e,_,F⟩:=gm (s:={x.s with p:=x.s.p+1+1+1+(dX st).length}) E dl;rw[iI e];have d:(aO T (x.s.p+1+1)).text=nm:=d;have q:eC {x.s with p:=x.s.p+1+1+1+(dX st).length+1} ⟨0,[],0,0,0,ba nm,st⟩ t=.ok (bj x.s.g ⟨0,[],0,0,0,ba nm,st⟩).2.1.toNat ⟨x.s.p+1+1+1+(dX st).length+1,x.s.tm,(bj x.s.g ⟨0,[],0,0,0,ba nm,st⟩).1⟩:=af y;dsimp only;rw[d,iI q];dsimp only;rw[show x.s.p+1+1+1+(dX st).length+1=x.s.p+(nW nm st).length by unfold nW;simp;omega]
def eH(ps:List (List UInt8×aP)):List TK:=ps.flatMap λd=>(0,[])::(2,d.1)::(dX d.2++[(1,[])])
def z7:List (List UInt8×aP)->List (List UInt8×aP)->Bool
 |_,[]=>true
 |acc,d::e=>(lk acc d.1).isNone&&bw d.2&&z7 (acc++[d]) e
def Py:∀(ps acc:List (List UInt8×aP)) (s:aJ) (f:Nat),z7 acc ps=true->ps.length<f->ch T s.p (eH ps++(1,[])::K)->ll T f acc s=.ok (acc++ps) {s with p:=s.p+(eH ps).length+1}
 |[],acc,s,f,_,h,d=>by obtain⟨f,rfl,_⟩:=pH (Nat.succ_le_of_lt h);obtain⟨a,_⟩:=d.cons;unfold ll;dsimp only;rw[af a,q2 (by rw[a];decide),bU];rfl
 |q::ps,acc,s,f,j,h,d=>by
  obtain⟨f,rfl,y⟩:=pH (Nat.succ_le_of_lt h);unfold z7 at j;simp only[be,Option.isNone_iff_eq_none]at j;obtain⟨⟨E,F⟩,G⟩:=j;have d:ch T s.p ((0,[])::(2,q.1)::(dX q.2++(1,[])::(eH ps++(1,[])::K))):=by have:eH (q::ps)=(0,[])::(2,q.1)::(dX q.2++[(1,[])])++eH ps:=da;rw[this]at d;simpa using d
  obtain⟨a,_,_,A⟩:=d.cons;obtain⟨k,e,B⟩:=gm (s:={s with p:=s.p+1}) A dl;obtain⟨w,C⟩:=GJ (s:={s with p:=s.p+1+1}) F B;obtain⟨x,_,D⟩:=gm (s:={s with p:=s.p+1+1+(dX q.2).length}) C dl;have z:=Py ps (acc++[q]) {s with p:=s.p+1+1+(dX q.2).length+1} f G (by rw[bx]at y;omega) D;conv=>lhs;unfold ll
  dsimp only;rw[aa (by rw[a];decide),aa (by rw[a];decide),q2 (by rw[a];decide),k];show(if(lk acc (aO T (s.p+1)).text).isSome then _ else _)=_;have e:(aO T (s.p+1)).text=q.1:=e;rw[e,E];show PR.b (iE T {s with p:=s.p+1+1}) _=_;rw[w];show PR.b (bL T 1 {s with p:=s.p+1+1+(dX q.2).length}) _=_;rw[x];show ll T f (acc++[q]) {s with p:=s.p+1+1+(dX q.2).length+1}=_;rw[z,cE];have:(eH (q::ps)).length=2+(dX q.2).length+1+(eH ps).length:=by unfold eH;rw[da];simp;omega
  rw[this];dsimp only;rw[show s.p+1+1+(dX q.2).length+1+(eH ps).length+1=s.p+(2+(dX q.2).length+1+(eH ps).length)+1 by omega];rfl
def Px:∀d:List (List UInt8×aP),d.length<=(eH d).length
 |[]=>bm _
 |q::d=>by have e:eH (q::d)=(0,[])::(2,q.1)::(dX q.2++[(1,[])])++eH d:=da;have:=Px d;rw[e];simp;omega
def AV:Nat->List TK->Bool
 |_,[]=>false
 |d,t::K=>if t.1=6\/t.1=1/\d=0 then false else if(if t.1=0 then d+1 else if t.1=1 then d - 1 else d)=0 then K.isEmpty else AV (if t.1=0 then d+1 else if t.1=1 then d - 1 else d) K
def RN:∀(KB:List TK) (d:Nat) (s:aJ) (f:Nat),AV d KB=true->KB.length<=f->ch T s.p (KB++K)->l7 T f d s=.ok () {s with p:=s.p+KB.length}
 |[],d,s,f,e,_,_=>by cases e
 |t::KB,d,s,f,e,z,y=>by
  obtain⟨f,rfl,A⟩:=pH (q:=KB.length) (n:=f) z;obtain⟨h,C⟩:=t;obtain⟨a,_,_,B⟩:=y.cons;unfold AV at e;dsimp only at e;split at e
  .cases e
  rename_i w;have j:¬h=6:=λe=>w (.inl e);have x:¬(h=1/\d=0):=λe=>w (.inr e);conv=>lhs;unfold l7
  dsimp only;rw[a,aa j,aa x,q2 (by rw[a];exact j)];generalize(if h=0 then d+1 else if h=1 then d - 1 else d)=d' at e ⊢;by_cases k:d'=0
  .rw [af k]at e ⊢;cases KB with
   |nil=>rfl
   |cons _ _=>cases e
  .rw [aa k]at e ⊢;rw[RN KB _ {s with p:=s.p+1} f e A B];dsimp only;rw[bx,Nat.add_assoc,Nat.add_comm 1]
def gX(nm:List UInt8)(ps:List (List UInt8×aP))(KB:List TK):List TK:=(0,[])::(2,[100,101,102,105,110,101])::(0,[])::(2,nm)::(eH ps++(1,[])::(KB++[(1,[])]))
def ch.len(d:ch T n K):K.length<=T.length:=by obtain⟨r,d⟩:=d;have:=congrArg List.length d;simp at this;omega
def dE.defn{nm:List UInt8}{ps:List (List UInt8×aP)}{KB:List TK}(w:lk x.vs nm=none)(y:lk x.ms nm=none)(B:iz nm=false)(C:z7 [] ps=true)(A:AV 0 KB=true):
  dE T 1 (gX nm ps KB) x {x with s:={x.s with p:=x.s.p+(gX nm ps KB).length},ms:=x.ms++[(nm,⟨ps,x.s.p+5+(eH ps).length,x.ms.length⟩)]}:=
 .one λz=>by refine⟨rfl,?_⟩;obtain⟨E,t,_,q⟩:=rp (x:={x with s:={x.s with p:=x.s.p+1}}) z;rw[q];dsimp only;rw[aa dl,af rfl];unfold qc;obtain⟨j,_,F⟩:=gm (s:={x.s with p:=x.s.p+1+1}) E dl;rw[iI j];obtain⟨G,e,d⟩:=OO (x:={x with s:={x.s with p:=x.s.p+1+1+1}}) (s:={x.s with p:=x.s.p+1+1+1}) F w y rfl;rw[iI G];have e:(aO T (x.s.p+1+1+1)).text=nm:=e;dsimp only;rw[e,aa (by rw[B];decide)];have K:=Px ps;have D:=d.len;simp only[bb,bx,List.length_nil]at D;have H:=Py ps [] {x.s with p:=x.s.p+1+1+1+1} (T.length+1) C io d;rw[iI H];have h:ch T (x.s.p+1+1+1+1+(eH ps).length+1) (KB++[(1,[])]):=d.app.2.cons.2.2.2;have I:=RN KB 0 {x.s with p:=x.s.p+1+1+1+1+(eH ps).length+1} (T.length+1) A io h;dsimp only;rw[iI I];obtain⟨k,_,_⟩:=gm (s:={x.s with p:=x.s.p+1+1+1+1+(eH ps).length+1+KB.length}) h.app.2 dl;dsimp only;rw[iI k];dsimp only;rw[show x.s.p+1+1+1+1+(eH ps).length+1+KB.length+1=x.s.p+(gX nm ps KB).length by unfold gX;simp;omega,show x.s.p+1+1+1+1+(eH ps).length+1=x.s.p+5+(eH ps).length by omega];rfl
def mw(e:Bool):List UInt8:=if e then[101,100,105,116]else[97,115,115,101,114,116]
def lJ(e:Bool)(nm:List UInt8)(KT:List TK):List TK:=(0,[])::(2,mw e)::(2,nm)::(KT++[(1,[])])
def dE.Uc{e:Bool}{nm:List UInt8}{KT:List TK}{q k:Nat}{h:List Nx}{d:Nx}(w:fS (iZ T x) q KT m x.s.g k h)(hd:h[k]? =some d)(G:d.st=aN 1)(F:x.s.tm+m<=65536)(P:q<=x.ms.length *(T.length+1)+KT.length)(O:x.ms.length<=1000):
  dE T 1 (lJ e nm KT) x {x with s:=⟨x.s.p+(lJ e nm KT).length,x.s.tm+m,h⟩,cs:=x.cs++[⟨if e then 2 else 1,nm,a6,k,0⟩]}:=
 .one λE=>by
  refine⟨rfl,?_⟩;obtain⟨H,t,_,B⟩:=rp (x:={x with s:={x.s with p:=x.s.p+1}}) E;rw[B];dsimp only;have I:¬mw e=[100,101,99,108,97,114,101]:=by cases e<;>decide
  have K:¬mw e=[100,101,102,105,110,101]:=by cases e<;>decide
  have L:mw e=[97,115,115,101,114,116]\/mw e=[101,100,105,116]:=by cases e<;>decide
  have M:(if mw e=[101,100,105,116]then(2:Int)else 1)=if e then 2 else 1:=by cases e<;>decide
  rw[aa I,aa K,af L,M];obtain⟨z,j,y⟩:=gm (s:={x.s with p:=x.s.p+1+1}) H dl;rw[iI z];have N:KT.length+1<=T.length - (x.s.p+1+1+1):=by obtain⟨r,w⟩:=y;have:=congrArg List.length w;simp at this;omega
  have C:dO (t' (iZ T x) ⟨x.s.p+1+1+1,x.s.tm,x.s.g⟩) (iZ T x) ⟨x.s.p+1+1+1,x.s.tm,x.s.g⟩=.ok k ⟨x.s.p+1+1+1+KT.length,x.s.tm+m,h⟩:=w _ ⟨x.s.p+1+1+1,x.s.tm,x.s.g⟩ (by show q<=min 9223372036854775807 x.ms.length *(T.length+1)+(T.length - (x.s.p+1+1+1))+1;rw[show min 9223372036854775807 x.ms.length=x.ms.length by omega];omega) y.app.1 rfl F
  have D:sI T {x with s:=⟨x.s.p+1+1+1,x.s.tm,x.s.g⟩}=.ok k ⟨x.s.p+1+1+1+KT.length,x.s.tm+m,h⟩:=by show PR.b (dO (t' (iZ T x) ⟨x.s.p+1+1+1,x.s.tm,x.s.g⟩) (iZ T x) ⟨x.s.p+1+1+1,x.s.tm,x.s.g⟩) _=_;rw[C];show(if(h[k]?).map (·.st)=some (aN 1)then PR.ok k _ else _)=_;rw[hd];exact af (congrArg some G)
  dsimp only;rw[iI D];obtain⟨A,_,_⟩:=gm (s:=⟨x.s.p+1+1+1+KT.length,x.s.tm+m,h⟩) y.app.2 dl;dsimp only;rw[iI A];have j:(aO T (x.s.p+1+1)).text=nm:=j;dsimp only;rw[j,show x.s.p+1+1+1+KT.length+1=x.s.p+(lJ e nm KT).length by unfold lJ;simp;omega]
def dE.push:dE T 1 [(0,[]),(2,[112,117,115,104]),(1,[])] x {x with s:={x.s with p:=x.s.p+3},cs:=x.cs++[⟨4,[],a6,0,0⟩]}:=
 .one λh=>by refine⟨rfl,?_⟩;obtain⟨j,t,_,e⟩:=rp (x:={x with s:={x.s with p:=x.s.p+1}}) h;rw[e];dsimp only;rw[aa dl,aa dl,aa dl,aa dl,af rfl];obtain⟨d,_,_⟩:=gm (s:={x.s with p:=x.s.p+1+1}) j dl;rw[iI d]
def dE.pop:dE T 1 [(0,[]),(2,[112,111,112]),(1,[])] x {x with s:={x.s with p:=x.s.p+3},cs:=x.cs++[⟨5,[],a6,0,0⟩]}:=
 .one λh=>by refine⟨rfl,?_⟩;obtain⟨j,t,_,e⟩:=rp (x:={x with s:={x.s with p:=x.s.p+1}}) h;rw[e];dsimp only;rw[aa dl,aa dl,aa dl,aa dl,aa dl,af rfl];obtain⟨d,_,_⟩:=gm (s:={x.s with p:=x.s.p+1+1}) j dl;rw[iI d]
def dE.check:dE T 1 [(0,[]),(2,[99,104,101,99,107]),(4,[49,48,48]),(1,[])] x {x with s:={x.s with p:=x.s.p+4},cs:=x.cs++[⟨6,[],a6,0,100⟩]}:=
 .one λh=>by refine⟨rfl,?_⟩;obtain⟨k,t,_,e⟩:=rp (x:={x with s:={x.s with p:=x.s.p+1}}) h;rw[e];dsimp only;rw[aa dl,aa dl,aa dl,aa dl,aa dl,aa dl,af rfl];obtain⟨j,q⟩:=zf (s:={x.s with p:=x.s.p+1+1}) k;obtain⟨d,_,_⟩:=gm (s:={x.s with p:=x.s.p+1+1+1}) q dl;rw[iI j];dsimp only;rw[iI d];rfl
def dE.aaK{nm:List UInt8}:dE T 1 [(0,[]),(2,[114,101,116,114,97,99,116]),(2,nm),(1,[])] x {x with s:={x.s with p:=x.s.p+4},cs:=x.cs++[⟨3,nm,a6,0,0⟩]}:=
 .one λk=>by refine⟨rfl,?_⟩;obtain⟨q,t,_,j⟩:=rp (x:={x with s:={x.s with p:=x.s.p+1}}) k;rw[j];dsimp only;rw[aa dl,aa dl,aa dl,af rfl];obtain⟨e,d,w⟩:=gm (s:={x.s with p:=x.s.p+1+1}) q dl;obtain⟨h,_,_⟩:=gm (s:={x.s with p:=x.s.p+1+1+1}) w dl;rw[iI e];have d:(aO T (x.s.p+1+1)).text=nm:=d;dsimp only;rw[iI h];dsimp only;rw[d]
end
structure fR(G0 G:List Nx):Prop where
 vg:Vg G
 up:∃r,G=G0++r/\∀e∈r,e.op≠0
def fR.app{e G r:List Nx}(j:fR e G)(x:Vg (G++r))(q:∀d∈r,d.op≠0):fR e (G++r):=by obtain⟨u,d,w⟩:=j.up;exact⟨x,u++r,by rw[d,cE],λh k=>(aK.1 k).elim (w h) (q h)⟩
def dJ(P:List aG->Prop)(j:List Nx)(E:b3)(q:Nat)(K:List TK)(m:Nat)(z:aP)(G:List Nx):Prop:=
 ∃h r e,(∀d,P d->fS {E with T:=d} q K m G h (G++r))/\r.length<=m/\fR j (G++r)/\(G++r)[h]? =some e/\e.st=z
def Lf{G:List Nx}{n:Nx}{i:Nat}{l:List Int}{d:Nx}(e:n.kids=(i:Int)::l)(hd:G[i]? =some d):bg G n 0=d.st:=by
 unfold bg;rw[e];show(match G[(i:Int).toNat]? with
  |some d=>d.st
  |none=>a6)=_
 rw[bG,hd]
def XM{G:List Nx}{n:Nx}{i:Nat}{a:Int}{l:List Int}{d:Nx}(e:n.kids=a::(i:Int)::l)(hd:G[i]? =some d):bg G n 1=d.st:=by
 unfold bg;rw[e];show(match G[(i:Int).toNat]? with
  |some d=>d.st
  |none=>a6)=_
 rw[bG,hd]
def Ee{G:List Nx}{i:Nat}{d:Nx}(hd:G[i]? =some d):dK G (i:Int)=true:=by have:=(cq.1 hd).1;unfold dK;simp;omega
def abQ{G:List Nx}{op:Int}{i j:Nat}{d e:Nx}{z:aP}(hd:G[i]? =some d)(q:G[j]? =some e)(sd:d.st=z)(A:e.st=z)(x:z.k=0)(w:op=6\/op=7\/op=9\/op=10\/op=16\/op=18):
  bP G {ho op with kids:=[(i:Int),(j:Int)]}=(if op=16\/op=18 then aN 1 else z,0):=by
 unfold bP;rw[Lf (n:={ho op with kids:=[(i:Int),(j:Int)]}) rfl hd,XM (n:={ho op with kids:=[(i:Int),(j:Int)]}) rfl q,sd,A];have y:(b6 op==(([(i:Int),(j:Int)]:List Int).length:Int)&&([(i:Int),(j:Int)]:List Int).all (dK G)&&fL {ho op with kids:=[(i:Int),(j:Int)]})=true:=by rw[List.all_cons,List.all_cons,Ee hd,Ee q];rcases w with rfl|rfl|rfl|rfl|rfl|rfl<;>rfl
 show(if(b6 op==(([(i:Int),(j:Int)]:List Int).length:Int)&&([(i:Int),(j:Int)]:List Int).all (dK G)&&fL {ho op with kids:=[(i:Int),(j:Int)]})=false then(a6,1)else
  if op<=3 then cg G {ho op with kids:=[(i:Int),(j:Int)]}else
  if cX op z z (bg G {ho op with kids:=[(i:Int),(j:Int)]} 2)=false then(a6,9)else
  if ic {ho op with kids:=[(i:Int),(j:Int)]} z z (bg G {ho op with kids:=[(i:Int),(j:Int)]} 2)=false then(a6,5)else
  if op=33/\k1 (ho op).tx=false then(a6,2)else(gM {ho op with kids:=[(i:Int),(j:Int)]} z z (bg G {ho op with kids:=[(i:Int),(j:Int)]} 2),0))=_
 rw[y];obtain⟨B,C,D⟩:=z;dsimp only at x;subst x;rcases w with rfl|rfl|rfl|rfl|rfl|rfl;all_goals (rw[aa dl,aa dl,aa (by simp[cX]),aa (by unfold ic;exact λh=>(by cases h)),aa (λh=>absurd h.1 dl)];rfl)
section
variable {P:List aG->Prop} {G0 G:List Nx} {E:b3} {q q1 m m1 k:Nat} {K K1:List TK} {z z1:aP} {t:List UInt8} {d:Nx}
def dJ.leaf(j:fR G0 G)(h:∀e,P e->fS {E with T:=e} q K 1 G k G)(hd:G[k]? =some d)(w:d.st=z):dJ P G0 E q K 1 z G:=
 ⟨k,[],d,by rw[bU];exact h,gs,by rw[bU];exact j,by rw[bU];exact hd,w⟩
def dJ.pm(h:fR G0 G)(e:lk E.pm t=some k)(hd:G[k]? =some d)(j:d.st=z):dJ P G0 E 1 [(2,t)] 1 z G:=.leaf h (λ_ _=>.pm e) hd j
def dJ.vs(j:fR G0 G)(h:lk E.pm t=none)(e:lk E.vs t=some k)(hd:G[k]? =some d)(q:d.st=z):dJ P G0 E 1 [(2,t)] 1 z G:=.leaf j (λ_ _=>.vs h e) hd q
def HM(j:fR G0 G){n:Nx}(w:bP G n=(z,0))(D:G.length<4096)(E:n.op≠0):(bj G n).2.2=0/\∃k r,(bj G n).2.1=((k:Nat):Int)/\(bj G n).1=G++r/\r.length<=1/\fR G0 (G++r)/\(G++r)[k]? =some (eg n z):=by obtain⟨h,r,d,x,y,A,B⟩:=B5 w D j.vg;obtain⟨_,k,e,_⟩:=q0 h;refine⟨h,k,r,e,d,x,j.app (by rw[<-d];exact A) λq C=>by rw[y q C];exact E,?_⟩;rw[<-d,<-B,e,bG]
def dJ.two{w:List UInt8}{op:Int}(hw:lk fM w=some (op,2))(hn:xc w=true)(aa:op=6\/op=7\/op=9\/op=10\/op=16\/op=18)(hz:z.k=0)(hd:E.dp<64)(hl:G.length+(m+m1+1)<=4096)(Y:dJ P G0 {E with dp:=E.dp+1} q K m z G)(Z:∀r,fR G0 (G++r)->r.length<=m->dJ P G0 {E with dp:=E.dp+1} q1 K1 m1 z (G++r)):
  dJ P G0 E (max q q1+1) ((0,[])::(2,w)::(K++K1++[(1,[])])) (m+m1+1) (if op=16\/op=18 then aN 1 else z) G:=by
 obtain⟨i,r,d,B,C,D,x,F⟩:=Y;obtain⟨j,y,ab,H,b2,I,L,M⟩:=Z r D C;have x:=n7 (r:=y) x;have hs:=abQ x L F M hz aa;obtain⟨N,k,r2,O,Q,c3,S,W⟩:=HM I hs (by rw[bb,bb];omega) (by show op≠0;omega)
 have hL:∀e,P e->iP {E with T:=e,dp:=E.dp+1} (max q q1) 2 (K++K1) (m+m1) G [(i:Int),(j:Int)] (G++r++y):=λe h=>by
  have A:=iP.cons (B e h) (iP.cons (H e h) iP.nil);rw[bU]at A
  rwa[Nat.max_zero]at A
 refine⟨k,r++y++r2,_,?_,by rw[bb,bb];omega,by rw[<-cE,<-cE];exact S,by rw[<-cE,<-cE];exact W,rfl⟩;rw[<-cE,<-cE,<-Q];exact λe h=>fS.op hw hn hd (hL e h) N O
def dJ.Vv{w L M:List UInt8}{mc:PM}{KB:List TK}{N I:Nat}{O:aP}(hw:iz w=false)(hd:E.dp<64)(hm:iA E w=some mc)(C:mc.ps=[(L,z),(M,z1)])(hb:∀h,P h->ch h mc.b KB)(ab:dJ P G0 {E with dp:=E.dp+1} q K m z G)(h1:∀r,fR G0 (G++r)->r.length<=m->dJ P G0 {E with dp:=E.dp+1} q1 K1 m1 z1 (G++r))(y:∀(i j:Nat) (r:List Nx) (d e:Nx),fR G0 (G++r)->r.length<=m+m1->(G++r)[i]? =some d->d.st=z->(G++r)[j]? =some e->e.st=z1->dJ P G0 {E with dp:=E.dp+1,pm:=[(L,i),(M,j)],kn:=mc.ix} N KB I O (G++r)):
  dJ P G0 E (max (max q q1) N+1) ((0,[])::(2,w)::(K++K1++[(1,[])])) (m+m1+I+1) O G:=by
 obtain⟨i,r,d,Q,S,W,B,D⟩:=ab;obtain⟨j,A,e,Y,b2,Z,F,H⟩:=h1 r W S;have B:=n7 (r:=A) B;have aa:fR G0 (G++(r++A)):=by rw[<-cE];exact Z
 obtain⟨k,r2,e2,c1,c2,c3,c4,c5⟩:=y i j (r++A) d e aa (by rw[bb];omega) (by rw[<-cE];exact B) D (by rw[<-cE];exact F) H;have hL:∀h,P h->iP {E with T:=h,dp:=E.dp+1} (max q q1) mc.ps.length (K++K1) (m+m1) G [(i:Int),(j:Int)] (G++(r++A)):=λh x=>by have y:=iP.cons (Q h x) (iP.cons (Y h x) iP.nil);rw[bU]at y;rw[Nat.max_zero]at y;rw[<-cE,C];exact y
 refine⟨k,r++A++r2,e2,?_,by rw[bb,bb];omega,by rw[<-cE G];exact c3,by rw[<-cE G];exact c4,c5⟩;rw[<-cE G];refine λh x=>fS.call (E:={E with T:=h}) hw hd hm (hL h x) ?_ (hb h x) ?_
 .rw [C,<-cE];unfold kJ;rw[bG,B];unfold kJ;rw[bG,F];simp[D,H,kJ]
 .rw [C];exact c1 h x
def dJ.Vu{w C:List UInt8}{mc:PM}{KB:List TK}{D B:Nat}{F:aP}(hw:iz w=false)(hd:E.dp<64)(hm:iA E w=some mc)(x:mc.ps=[(C,z)])(Z:∀e,P e->ch e mc.b KB)(W:dJ P G0 {E with dp:=E.dp+1} q K m z G)(h:∀(i:Nat) (r:List Nx) (d:Nx),fR G0 (G++r)->r.length<=m->(G++r)[i]? =some d->d.st=z->dJ P G0 {E with dp:=E.dp+1,pm:=[(C,i)],kn:=mc.ix} D KB B F (G++r)):
  dJ P G0 E (max q D+1) ((0,[])::(2,w)::(K++[(1,[])])) (m+B+1) F G:=by
 obtain⟨i,r,d,H,I,L,y,A⟩:=W;obtain⟨k,r2,S,M,c2,N,O,Q⟩:=h i r d L I y A;have Y:∀e,P e->iP {E with T:=e,dp:=E.dp+1} q mc.ps.length K m G [(i:Int)] (G++r):=λe j=>by have h:=iP.cons (H e j) iP.nil;rw[bU]at h;rw[Nat.max_zero]at h;rw[x];exact h
 refine⟨k,r++r2,S,?_,by rw[bb];omega,by rw[<-cE];exact N,by rw[<-cE];exact O,Q⟩;rw[<-cE];refine λe j=>fS.call (E:={E with T:=e}) hw hd hm (Y e j) ?_ (Z e j) ?_
 .rw [x];unfold kJ;rw[bG,y];simp[A,kJ]
 .rw [x];exact M e j
def dJ.nm{mc:PM}(y:lk E.pm t=none)(D:lk E.vs t=none)(x:iA E t=some mc)(B:mc.ps=[])(A:∀d,P d->ch d mc.b K)(C:dJ P G0 {E with pm:=[],kn:=mc.ix} q K m z G):dJ P G0 E (q+1) [(2,t)] (m+1) z G:=by obtain⟨k,r,w,h,F,j⟩:=C;exact⟨k,r,w,λd e=>fS.nm (E:={E with T:=d}) y D x B (A d e) (h d e),io,j⟩
def dJ.tx{g:List Nx}(q:Vg g)(I:∀d∈g,0<=d.u/\d.u<18446744073709551616){i:Nat}(hi:g[i]? =some d)(h:fR G0 G)(K:nS E.vs g G)(F:G.length+bQ (i+1) g i<=4096)(hd:E.dp+i<64)(H:∀d∈g,d.op=0->lk E.pm (bl d.tx)=none):
  dJ P G0 E (dB (i+1) g i).length (dB (i+1) g i) (bQ (i+1) g i) d.st G:=by have j:=(cq.1 hi).1;obtain⟨k,r,L,x,y,z,A,B,e,C,D⟩:=KW q (i+1) i G (Nat.lt_succ_self _) j h.vg K F;rw[hi]at e;cases e;exact⟨k,r,x,λw _=>fS.tx (E:={E with T:=w}) q I j y hd H,z,h.app A B,C,D⟩
end
def hn:List UInt8:=[109,109]
def hq:List UInt8:=[111,110,101]
def jW:List UInt8:=[110,110]
def zY:List UInt8:=[110,101,119]
def OP:List UInt8:=[110,101,119,101,114]
def hO:List (List UInt8×aP):=[([97],aN 2),([113],aN 2)]
def nA:List (List UInt8×aP):=[([99],aN 1)]
def lV:List TK:=(0,[])::(2,[97,100,100])::([(2,[97])]++((0,[])::(2,[109,117,108])::([(2,[113])]++[(2,[98])]++[(1,[])]))++[(1,[])])
def kg(w:List UInt8)(K:List TK):List TK:=(0,[])::(2,w)::(K++[(1,[])])
def oi:List TK:=kg [117,108,116] (kg hn ([(2,[97])]++[(2,[98])])++[(2,[98])])
def qp:List TK:=kg [111,114] ([(2,[99])]++[(2,hq)])
structure oJ(P:List aG->Prop)(G0:List Nx)(vs:List (List UInt8×Nat))(ms:List (List UInt8×PM)):Prop where
 b:∃b0 b1 b2,ms=[(hn,⟨hO,b0,0⟩),(hq,⟨[],b1,1⟩),(jW,⟨nA,b2,2⟩)]/\(∀T,P T->ch T b0 lV)/\(∀T,P T->ch T b1 oi)/\∀T,P T->ch T b2 qp
 va:lk vs [97]=some 0
 vb:lk vs [98]=some 1
 vo:lk vs hq=none
 vn:lk vs zY=none
 vw:lk vs OP=none
 g0:∃d,G0[0]? =some d/\d.st=aN 2
 g1:∃d,G0[1]? =some d/\d.st=aN 2
def fR.at{e G:List Nx}(h:fR e G){i:Nat}{d:Nx}(hd:e[i]? =some d):G[i]? =some d:=by obtain⟨r,rfl,_⟩:=h.up;exact n7 hd
section
variable {P:List aG->Prop} {G0 G:List Nx} {E:b3} {q q1 m m1:Nat} {K K1:List TK}
def L8(d:oJ P G0 E.vs E.ms)(e:fR G0 G)(k:lk E.pm [97]=none):dJ P G0 E 1 [(2,[97])] 1 (aN 2) G:=by obtain⟨q,h,j⟩:=d.g0;exact .vs e k d.va (e.at h) j
def zC(d:oJ P G0 E.vs E.ms)(e:fR G0 G)(k:lk E.pm [98]=none):dJ P G0 E 1 [(2,[98])] 1 (aN 2) G:=by obtain⟨q,h,j⟩:=d.g1;exact .vs e k d.vb (e.at h) j
def YO(k:oJ P G0 E.vs E.ms)(q:fR G0 G){i j:Nat}{d e:Nx}(h:E.pm=[([97],i),([113],j)])(hi:G[i]? =some d)(sd:d.st=aN 2)(w:G[j]? =some e)(A:e.st=aN 2)(hd:E.dp<60)(x:G.length+5<=4096):
  dJ P G0 E 3 lV 5 (aN 2) G:=
 .two (op:=9) rfl rfl dl rfl io x (.pm q (by rw[h];rfl) hi sd) λr y B=>
  .two (op:=10) rfl rfl dl rfl (by show E.dp+1<64;omega) (by rw[bb];omega) (.pm y (by rw[h];rfl) (n7 w) A) λC z _=>
   zC k z (by rw[h];rfl)
def Me(d:oJ P G0 E.vs E.ms)(y:0<E.kn)(hd:E.dp<50)(L:G.length+m+m1+5<=4096)(h:dJ P G0 {E with dp:=E.dp+1} q K m (aN 2) G)(j:∀r,fR G0 (G++r)->r.length<=m->dJ P G0 {E with dp:=E.dp+1} q1 K1 m1 (aN 2) (G++r)):
  dJ P G0 E (max (max q q1) 3+1) (kg hn (K++K1)) (m+m1+5+1) (aN 2) G:=by
 obtain⟨e,D,F,z,B,N,O⟩:=d.b;exact .Vv (mc:=⟨hO,e,0⟩) dl io (by unfold iA;rw[z];exact af y) rfl B h j λi A r H I k M w sd x C=>
  YO (E:={E with dp:=E.dp+1,pm:=[([97],i),([113],A)],kn:=0}) d k rfl w sd x C (by show E.dp+1<60;omega) (by rw[bb];omega)
def L7(d:oJ P G0 E.vs E.ms)(j:fR G0 G)(y:lk E.pm hq=none)(w:1<E.kn)(hd:E.dp<40)(D:G.length+20<=4096):dJ P G0 E 6 [(2,hq)] 11 (aN 1) G:=by
 obtain⟨B,h,C,x,F,A,H⟩:=d.b;have k:dJ P G0 {E with pm:=[],kn:=1} 5 oi 10 (aN 1) G:=.two (op:=16) (q:=4) (m:=8) (q1:=1) (m1:=1) (z:=aN 2) rfl rfl dl rfl (by show E.dp<64;omega) io
  (Me (E:={E with dp:=E.dp+1,pm:=[],kn:=1}) (q:=1) (q1:=1) (m:=1) (m1:=1) d (by show 0<1;omega) (by show E.dp+1<50;omega) io (L8 (E:={E with dp:=E.dp+1+1,pm:=[],kn:=1}) d j rfl) λr e _=>zC (E:={E with dp:=E.dp+1+1,pm:=[],kn:=1}) d e rfl) λr e _=>
   zC (E:={E with dp:=E.dp+1,pm:=[],kn:=1}) d e rfl
 exact .nm (mc:=⟨[],h,1⟩) y d.vo (by unfold iA;rw[x];exact af w) rfl A k
def Zh(d:oJ P G0 E.vs E.ms)(w:2<E.kn)(hd:E.dp<30)(D:G.length+m+40<=4096)(h:dJ P G0 {E with dp:=E.dp+1} q K m (aN 1) G):dJ P G0 E (max q 7+1) (kg jW K) (m+13+1) (aN 1) G:=by
 obtain⟨A,B,e,x,L,M,z⟩:=d.b;refine .Vu (mc:=⟨nA,e,2⟩) dl io (by unfold iA;rw[x];exact af w) rfl z h λi r C j I k sd=>?_;have H:(G++r).length+30<=4096:=by rw[bb];omega
 exact .two (op:=7) (m:=1) (m1:=11) (q:=1) (q1:=6) rfl rfl dl rfl (by show E.dp+1<64;omega) io (.pm j rfl k sd) λN y F=>
  L7 (E:={E with dp:=E.dp+1+1,pm:=[([99],i)],kn:=2}) d y rfl (by show 1<2;omega) (by show E.dp+1+1<40;omega) (by rw[bb];omega)
def mY(n:Nat)(K:List TK):List TK:=
 if n=0 then kg jW K else if n=1 then kg [97,110,100] ([(2,hq)]++K)else
 if n=2 then kg [101,113] (kg hn ([(2,[98])]++[(2,[97])])++[(0,[]),(2,[110,117,109]),(4,[50]),(4,[50]),(1,[])])else K
def vp(n m:Nat):Nat:=if n=0 then m+13+1 else if n=1 then 11+m+1 else if n=2 then 10 else m
def acI(e:oJ P G0 E.vs E.ms)(x:fR G0 G)(S:2<E.kn)(y:E.pm=[])(hd:E.dp=0)(Z:G.length+m+60<=4096)(n:Nat)(ab:q<=K.length)(C:∀(d:Nat) (r:List Nx),d<=1->fR G0 (G++r)->r.length<=11->dJ P G0 {E with dp:=d} q K m (aN 1) (G++r)):
  ∃D,D<=(mY n K).length+8/\dJ P G0 E D (mY n K) (vp n m) (aN 1) G:=by
 have A:∀d,d<=1->dJ P G0 {E with dp:=d} q K m (aN 1) G:=λd Q=>by
  have:=C d [] Q (by rw[bU];exact x) gs
  rwa[bU]at this
 unfold mY vp;by_cases j:n=0
 .rw [af j,af j];exact⟨_,by unfold kg;simp;omega,Zh e S io io (A _ io)⟩
 rw[aa j,aa j];by_cases k:n=1
 .rw [af k,af k];refine⟨max 6 q+1,by unfold kg;simp;omega,.two (op:=6) (m:=11) rfl rfl dl rfl io io (L7 (E:={E with dp:=E.dp+1}) e x (by show lk E.pm hq=none;rw[y];rfl) (by show 1<E.kn;omega) (by show E.dp+1<40;omega) io) λr h B=>?_⟩;exact C _ r io h B
 rw[aa k,aa k];by_cases w:n=2
 .rw [af w,af w];refine⟨5,io,.two (op:=18) (q:=4) (m:=8) (q1:=1) (m1:=1) (z:=aN 2) rfl rfl dl rfl io io ?_ λr h B=>?_⟩
  .exact Me (E:={E with dp:=E.dp+1}) (q:=1) (q1:=1) (m:=1) (m1:=1) e (by show 0<E.kn;omega) (by show E.dp+1<50;omega) io (zC (E:={E with dp:=E.dp+1+1}) e x (by show lk E.pm _=none;rw[y];rfl)) λr h _=>L8 (E:={E with dp:=E.dp+1+1}) e h (by show lk E.pm _=none;rw[y];rfl)
  .obtain ⟨H,W,Y,I,L,M,N,O⟩:=HM (n:=⟨1,[],0,0,((2:Nat):Int),ba [],aN ((2:Nat):Int)⟩) (z:=aN 2) h rfl (by rw[bb];omega) dl;exact⟨W,Y,_,λF _=>by rw[<-L];exact fS.num (E:={E with dp:=E.dp+1,T:=F}) (u:=2) (z:=2) dl dl (by show E.dp+1<64;omega) H I,M,N,O,rfl⟩
 .rw [aa w,aa w];have:=A 0 io;rw[<-hd]at this;exact⟨q,io,this⟩
end
end Go.Proofs.YtjakeaplbkhjmaaGreatDoor
end
