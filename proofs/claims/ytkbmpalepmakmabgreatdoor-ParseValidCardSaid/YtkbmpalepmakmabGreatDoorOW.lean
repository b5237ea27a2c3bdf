import Derived.Test.YtkbmpalepmakmabGreatDoorTA
import Derived.Defers
import Derived.Recover
import Derived.Test.YtkbmpalepmakmabGreatDoorN6
import Derived.Test.YtkbmpalepmakmabGreatDoorVP
import Derived.Test.YtkbmpalepmakmabGreatDoorT1
import Derived.Test.YtkbmpalepmakmabGreatDoorN0
set_option linter.unusedVariables false
set_option maxRecDepth 100000
set_option maxHeartbeats 1000000
set_option linter.defProp false
noncomputable section
namespace Go.Proofs.YtkbmpalepmakmabGreatDoor
open Go renaming World->I,Calls->ai,Program->au,Value->V
open Go.IntKind renaming wrap->aB
open _root_.Int renaming toNat->a0,tdiv->dV,tmod->eI,toNat_natCast->bR
open _root_.ByteArray renaming mk->a'
open _root_.Bool renaming and_eq_true->bd
open _root_.Nat renaming le_refl->bw,le_trans->bB,zero_le->dc
open _root_.UInt8 renaming ofNat->cX
open Go.Region renaming wanted->cv
open Go.Proofs.Tryz renaming prog->U
open _root_.Decidable renaming decide->ak
open Go.Ending renaming returned->ad
open List renaming mem_append->aP,mem_cons->aF,not_mem_nil->aZ,mem_of_getElem?->aD,getElem?_eq_getElem->aY,getElem?_eq_some_iff->cL,mem_append_left->cm,mem_append_right->da,mem_flatMap->ck,length_append->bG,length_cons->cC,append_assoc->cU,mem_singleton->cy,length_take->jW,length_drop->h',flatMap_append->dK,flatMap_cons->dz,nodup_append->ff,mem_cons_of_mem->cP,mem_cons_self->hJ,getElem?_map->GN,all_eq_true->dS,append_nil->cQ,cons_append->gE,take_add_one->fJ,map_append->ey,map_cons->lU,take_of_length_le->fV,drop_left->Bn
open Go Go.W
def abT{D D':List En}{w:I}(d e:En)(h:∀b∈d.fp,w.heap.size<=b)(j:∀b∈e.fp,w.heap.size<=b):∀g∈[d,e],∀b∈g.fp,w.heap.size<=b\/∃g∈D,b∈g.fp:=λg q b k=>by grind
section
variable {T:List aI} {Y:mS} {x:bJ} {D:List En}
def aci(d:hv T Y x D){w:I}(H:O (·∈(cD Y x).flatMap (·.fp)) w w (cD Y x) D):ai U FF #[.pointer (some (aa Y.X.rb))] w (i3 T Y x D w (pQ T x)):=by
 have Q:=d.ok.T;have a4:=Q.l;have q:pQ T x=(bL T 0 x.s).s x λ_ x=>(yf (gN T x) x.s).s x λt x=>if iR t.text then .er 6 t.a6 else
  (kj T (T.length+1) [] x.s).s x λy x=>(k8 T (T.length+1) 0 x.s).s x λ_ aM=>(bL T 1 aM.s).s aM λ_ aN=>
  .ok {aN with ms:=aN.ms++[(t.text,⟨y,x.s.p,x.ms.length⟩)]}:=rfl
 refine Q'.aq (H.nw λw1 hz H1=>?_);have M:=H1.freeze 4 (.c w.heap.size [.pointer (some (aa Y.X.rb))] y2) rfl (H1.get 4) (λb h=>h);have M:O (·∈(cD Y x).flatMap (·.fp)) w w1 (cD Y x) (D++[.c w.heap.size [.pointer (some (aa Y.X.rb))] y2]):=M;clear H1;obtain⟨pE,aT⟩:∃pE,pE=En.c w.heap.size [.pointer (some (aa Y.X.rb))] y2:=⟨_,rfl⟩;obtain⟨A,a2⟩:∃A,A=D++[pE]:=⟨_,rfl⟩;have C:En.c w.heap.size [.pointer (some (aa Y.X.rb))] y2∈A:=by grind
 have M:O (·∈(cD Y x).flatMap (·.fp)) w w1 (cD Y x) A:=by grind
 have up:∀z∈D,z∈A:=λz S=>by grind
 have ac:hv T Y x A:=by obtain⟨es,c,m1,B⟩:=d.mo;exact⟨⟨up _ d.tk.t,d.tk.e⟩,⟨es,c,up _ m1,B⟩,up _ d.kc,d.gr.sub up,λB k=>up _ (d.pr B k),d.ms,d.sv,d.sm,d.pm,d.kn,d.dp,d.ok,d.p,d.tm,d.mc,d.cc⟩
 refine⟨_,kJ (M.rd _ C),eZ (bs:=[]) M 0 rfl (jo (M.get 0) (cV M (i:=0) rfl rfl) ac.tk d.p) (λo s1 w2 aH H2=>⟨_,_,_,rfl,?_⟩) (λz p w' er f=>hL (q.trans (k6 er)) f)⟩;have q:=q.trans (jY aH);have m1:=eE Q d.p dl aH;have aJ:=ac.mv m1;refine⟨_,kJ (H2.rd _ C),eZ (bs:=[]) H2 0 rfl (RU (H2.get 0) (Bz H2 rfl) (aJ.en (λz S=>da _ S) gs gs) aJ.p) (λt s2 w3 aI H3=>⟨_,_,_,rfl,H3.ax λL w4 H4=>H4.ae λw5 an=>⟨_,kJ (an.rd _ C),?_⟩⟩) (λz p w' er f=>hL (q.trans (k6 er)) f)⟩;have q:=q.trans (jY aI);obtain⟨n1,n2,n3⟩:=yg aI;have n2:lk x.vs t.text=none:=n2;have n3:lk x.ms t.text=none:=n3;have m2:=m1.tr (eE Q m1.l dl n1);have ar:=ac.mv m2;refine an.av (RS (an.get 0) (Bz an rfl) (ar.en (λz S=>da _ S) gs gs) t.text) ?_;rintro _ G rfl E;refine⟨_,rfl,bn (λho=>⟨_,kJ (E.rd _ C),gw E (jX _ 6 t G) λw' f=>hL (q.trans (ag ho)) f⟩) (λho=>?_)⟩;have q:=q.trans (ab (by grind));have aQ:Y.Ms.length=x.ms.length:=by rw[d.ms];simp
 have hlen:=Z8 (ty:=bz) AJ (E.ob 2) d.sm;rw[List.length_map,aQ]at hlen;have E:O (·∈(cD Y x).flatMap (·.fp)) w G (cD Y {x with s:=s2}++[.g L]) A:=E;refine⟨_,kJ (E.rd _ C),_,E.ld 0 6,_,hlen,E.nw λw7 a9 H7=>adT H7 5 rfl (λw8 H8=>H8.ic 5 1 rfl (λw9 H9=>H9.ic 5 2 rfl (λW J=>?_)))⟩;have J:O (·∈(cD Y x).flatMap (·.fp)) w W [bx Y.X s2,.ob Y.X.mv (.map Y.e1 Y.c1),.ob Y.X.mm (.map Y.e2 Y.c2),.row ky 7 Y.X.cs (cZ x.cs),.g L,.c G.heap.size [.slice none 0 0,.i 0,.i (x.ms.length:Int)] jv] A:=J;have aA:O (·∈(cD Y x).flatMap (·.fp)) w W ([bx Y.X s2,.c G.heap.size [.slice none 0 0,.i 0,.i (x.ms.length:Int)] jv]++[.ob Y.X.mv (.map Y.e1 Y.c1),.ob Y.X.mm (.map Y.e2 Y.c2),.row ky 7 Y.X.cs (cZ x.cs),.g L]) A:=nZ J (.cons _ (List.perm_append_singleton _ [_,_,_,_]));have aU:=acn (X:=Y.X) (T:=T) (ix:=(x.ms.length:Int)) (Av aA) C ar.tk ar.p;refine aU.mono λr aL k=>?_;have kp:∀{w':I},Fr (·∈[Y.X.rb,G.heap.size]) W w'->kept [L] W w':=λf b h=>by
  have h:b=L:=by grind
  subst h;refine f.cw b ((En.g b).lt W (J.own (.g b) gs) b (by simp[En.g])) λF=>?_;rcases aF.1 F with rfl|F
  .exact j' J.nd (i:=4) (j:=0) rfl rfl dl Y.X.rb (by simp[En.g]) (by simp[En.ob])
  .rw [cy]at F;subst F;exact j' J.nd (i:=4) (j:=5) rfl rfl dl G.heap.size (by simp[En.g]) (by simp[En.ob])
 unfold zj at k;split at k
 case h_2 z p ex=>
  obtain⟨rfl,f⟩:=k;refine .inl ⟨_,rfl,hL (q.trans (k6 ex)) (J.fr.trans f λb h F=>?_)⟩;rcases aF.1 F with rfl|F
  .exact ck.2 ⟨bx Y.X x.s,gs,by simp[En.ob]⟩
  .rw [cy]at F;subst F;have:=E.fr.size;omega
 case h_1 y s3 ex=>
 obtain⟨rfl,sl,Z⟩:=k;refine .inr ⟨⟨_,rfl⟩,kp Z.fr,?_⟩;have q:=q.trans (jY ex);obtain⟨aW,aS,a7⟩:=GD Q _ _ _ _ _ m2.l gs (dc _) ex;have m3:=m2.tr aW;have aC:O (·∈(cD Y x).flatMap (·.fp)) w aL ([bx Y.X s3,.c G.heap.size [sl.v,.i 0,.i (x.ms.length:Int)] jv,.row mK 4 sl (fe y)]++[.ob Y.X.mv (.map Y.e1 Y.c1),.ob Y.X.mm (.map Y.e2 Y.c2),.row ky 7 Y.X.cs (cZ x.cs),.g L]) (A++[]):=Aw aA (by rw[cQ];exact Z) (λa1 hd=>by cases hd);rw[cQ]at aC;have ap:O (·∈(cD Y x).flatMap (·.fp)) w aL [bx Y.X s3,.ob Y.X.mv (.map Y.e1 Y.c1),.ob Y.X.mm (.map Y.e2 Y.c2),.row ky 7 Y.X.cs (cZ x.cs),.c G.heap.size [sl.v,.i 0,.i (x.ms.length:Int)] jv,.row mK 4 sl (fe y),.g L] A:=nZ aC (.cons _ (List.perm_append_comm_assoc [_,_] [_,_,_] [_]));refine⟨rfl,_,kJ (ap.rd _ C),_,ap.ld 0 1,ap.ic 4 1 rfl (λbb ah=>⟨_,kJ (ah.rd _ C),eZ ah 0 rfl (acq (ah.get 0) (cV ah (i:=0) rfl rfl) ac.tk m3.l) (λu s4 bc e4 aj=>⟨rfl,_,kJ (aj.rd _ C),?_⟩) (λz p w' er f=>hL (q.trans (k6 er)) f)⟩)⟩;have q:=q.trans (jY e4);have aX:=Hu Q _ _ _ _ m3.l e4;have m4:=m3.tr aX;refine eZ aj 0 rfl (jo (aj.get 0) (cV aj (i:=0) rfl rfl) ac.tk m4.l) (λcl s5 be e5 aO=>⟨_,_,_,rfl,aO.ae λbf K=>⟨_,kJ (K.rd _ C),_,K.ld 0 6,sl,(s3.p:Int),(x.ms.length:Int),K.ld 4 0,K.ld 4 1,K.ld 4 2,?_⟩⟩) (λz p w' er f=>hL (q.trans (k6 er)) f);have q:=q.trans (jY e5);have m5:=m4.tr (eE Q m4.l dl e5);obtain⟨ay,ao,u1,u2,u3,u4,_⟩:=rH AJ (K.ob 2) d.sm (ba t.text) (oP (sl,⟨y,s3.p,x.ms.length⟩)) (by
  rw[aaL];rw[d.ms,Az (λB:Sl×PM=>B.2)]at n3;cases P:lk Y.Ms t.text with
  |none=>rfl
  |some B=>grind)
 have am:=K.fx 2 (.ob Y.X.mm (.map ao (Y.c2+1))) rfl (u4.mono λx _ z=>by simp[En.ob,z]) u2 (λb h=>.inl h);refine⟨ay,u1,H5 K 2 rfl u4,?_⟩;have am:O (·∈(cD Y x).flatMap (·.fp)) w ay [bx Y.X s5,.ob Y.X.mv (.map Y.e1 Y.c1),.ob Y.X.mm (.map ao (Y.c2+1)),.row ky 7 Y.X.cs (cZ x.cs),.c G.heap.size [sl.v,.i (s3.p:Int),.i (x.ms.length:Int)] jv,.row mK 4 sl (fe y),.g L] A:=am;have aV:=am.get 5;have az:=(am.freeze 5 (.a3 4 sl (fe y)) rfl (show aK ay mK 4 sl (fe y)from aV).a3 (λb h=>by
  have h:b∈(if fe y=[]then[]else aG sl):=h;split at h
  .cases h
  .exact h)).take 4
 have eD:A++[En.a3 4 sl (fe y)]=D++[pE,En.a3 4 sl (fe y)]:=by grind
 rw[eD]at az;have af:∀z∈D,z∈D++[pE,En.a3 4 sl (fe y)]:=λz S=>cm _ S;have N:=d.mv m5;have p5:=m5.p;have a5:=d.mc;refine vV (Y':={Y with Ms:=Y.Ms++[(t.text,(sl,⟨y,s3.p,x.ms.length⟩))],e2:=ao,c2:=Y.c2+1}) q rfl az ?_ (abT (D':=[]) _ _ (λb h=>?_) (λb h=>?_))
 .obtain ⟨es,c,q1,q2⟩:=d.mo;refine⟨⟨af _ d.tk.t,d.tk.e⟩,⟨es,c,af _ q1,q2⟩,af _ d.kc,N.gr.sub af,λB k=>?_,?_,d.sv,?_,d.pm,d.kn,d.dp,⟨N.ok.T,N.ok.vs,N.ok.pm,λB k=>?_⟩,N.p,N.tm,?_,N.cc⟩
  .rcases aP.1 k with k|k
   .exact af _ (d.pr B k)
   grind
  .show x.ms++[(t.text,(⟨y,s3.p,x.ms.length⟩:PM))]=(Y.Ms++[_]).map _;rw[ey,<-d.ms];rfl
  .show dH ao ((Y.Ms++[_]).map q8);rw[ey];exact u3
  .have k:B∈x.ms++[(t.text,(⟨y,s3.p,x.ms.length⟩:PM))]:=k;show B.2.ix<(x.ms++[(t.text,(⟨y,s3.p,x.ms.length⟩:PM))]).length/\_;rw[bG];rcases aP.1 k with k|k
   .obtain ⟨o1,o2,o3,o4⟩:=d.ok.ms B k;have o1:B.2.ix<x.ms.length:=o1;exact⟨io,o2,o3,o4⟩
   .rw [cy.1 k];have:=m3.l;exact⟨gs,m3.l,aS,by grind⟩
  grind
 .rw [aT]at h;have:b=w.heap.size:=by simpa[En.ob]using h
  omega
 .have aw:b∈(En.row mK 4 sl (fe y)).fp:=by
   have h:b∈(if fe y=[]then[]else aG sl):=h;split at h
   .cases h
   .exact h
  have aR:=Z.new _ (aD (i:=2) rfl) b aw;have a8:w.heap.size<=W.heap.size:=J.fr.size;rcases aR with P|P
  .omega
  .exfalso;rcases aF.1 P with rfl|P
   .exact j' Z.nd (i:=2) (j:=0) rfl rfl dl _ aw (by simp[En.ob])
   .rw [cy]at P;subst P;exact j' Z.nd (i:=2) (j:=1) rfl rfl dl _ aw (by simp[En.ob])
end
structure ow(N:Nat)(T:List aI):Prop where
 so:mT N
 n:N+1<=1000000
 f:∀t∈T,t.kind=5->∀S,ie t.text=.inr S->jK N (cI S.tp)
 t:∀(tm:aH->PR Nat) (wd:List UInt8) (s:aH) (n:Nx) (s':aH),iT T tm wd s=.ok n s'->j7 n
section
variable {N:Nat} {T:List aI} {Y:mS} {x:bJ} {D:List En}
def aeG(d:ow N T){E:bW}(h:E.T=T)(s:aH)(e:List (List UInt8×(Sl×PM))):i6 E e (dE (u1 E s) E) s.p/\lD E (dE (u1 E s) E) s.p:=
 ⟨GV d.so d.n d.f d.t (u1 E s) E s.p h (bw _),λk n j _=>yR _ E k n j (dc _)⟩
def acf(hX:ow N T)(C:hv T Y x D){w:I}(H:O (·∈(cD Y x).flatMap (·.fp)) w w (cD Y x) D):ai U FC #[.pointer (some (aa Y.X.rb))] w (i3 T Y x D w (kL T x)):=by
 have hT:=C.ok.T;have ay:T.length<=100000:=hT.l;have e:kL T x=(bL T 2 x.s).s x λw x=>
  if w.text=[100,101,99,108,97,114,101]then pP T w x else
  if w.text=[100,101,102,105,110,101]then pQ T x else
  if w.text=[97,115,115,101,114,116]\/w.text=[101,100,105,116]then
   (bL T 2 x.s).s x λt x=>(tJ T x).s x λn x=>(bL T 1 x.s).s x λ_ x=>.ok {x with cs:=x.cs++[⟨if w.text=[101,100,105,116]then 2 else 1,t.text,aX,n,0⟩]}else
  if w.text=[114,101,116,114,97,99,116]then(bL T 2 x.s).s x λt x=>(bL T 1 x.s).s x λ_ x=>.ok {x with cs:=x.cs++[⟨3,t.text,aX,0,0⟩]}else
  if w.text=[112,117,115,104]then(bL T 1 x.s).s x λ_ x=>.ok {x with cs:=x.cs++[⟨4,[],aX,0,0⟩]}else
  if w.text=[112,111,112]then(bL T 1 x.s).s x λ_ x=>.ok {x with cs:=x.cs++[⟨5,[],aX,0,0⟩]}else
  if w.text=[99,104,101,99,107]then(dd T x.s).s x λn af=>if 1099511627776<n then .er 5 (aL T x.s.p).a6 else(bL T 1 af.s).s af λ_ x=>.ok {x with cs:=x.cs++[⟨6,[],aX,0,n⟩]}else
  .er 2 w.a6:=rfl
 have az:=C.cc;generalize hq:kL T x=q at e ⊢;have fin:∀(j:Nat) (R:List En) (c:fh) (Y1:mS) (x1:bJ) (D1 D':List En) (w1:I),Y1.X.rb=Y.X.rb->D1=D++D'->(∀ac∈D',∀b∈ac.fp,w.heap.size<=b\/∃g∈D,b∈g.fp)->O (·∈(cD Y x).flatMap (·.fp)) w w1 (cD Y1 x1++R) D1->hv T Y1 x1 D1->En.g j∈R->
   q=((bL T 1 x1.s).s x1 λ_ x=>.ok {x with cs:=x.cs++[c]})->vC.bH (aa Y1.X.rb) j c.k (ba c.nm) c.st.k c.st.n c.st.x c.nd c.n w1 (i3 T Y x D w q):=by
  intro j R c Y1 x1 D1 D' w1 hy hD am H1 B hb e;subst hD;refine eZ (X:=Y1.X) H1 0 rfl (jo (H1.get 0) (cV H1 (i:=0) rfl rfl) B.tk B.p) (λcl P w2 K H2=>⟨_,_,_,rfl,H2.ae (λw3 W=>?_) (λb h=>?_)⟩) (λQ p w' er f=>hL (e.trans (k6 er)) f) (λb h=>?_)
  .have m:=eE hT B.p dl K;have hp:=m.p;have h1:=B.cc;have h2:=B.p;refine J9 (R:=R) (show O _ w w3 (cD Y1 {x1 with s:=P}++R) _ from W) (B.mv m) c (by grind) (by grind) (λb h=>by grind) λY' z av y an=>?_;exact vV (e.trans (jY K)) (av.trans hy) (y.take 4) an am
  .grind
  grind
 refine vC.aq (eZ (bs:=[]) H 0 rfl (jo (H.get 0) (cV H (i:=0) rfl rfl) C.tk C.p) (λG L w1 e1 H1=>⟨_,_,_,rfl,H1.ax λF w2 H2=>H2.ax λj w3 W=>?_⟩) (λQ p w' er f=>hL (e.trans (k6 er)) f));have m1:=eE hT C.p dl e1;have e:=e.trans (jY e1);have B:=C.mv m1;have W:O (·∈(cD Y x).flatMap (·.fp)) w w3 (cD Y {x with s:=L}++[.g F,.g j]) D:=W;have tr:∀(k:Int) (z:I),O (·∈(cD Y x).flatMap (·.fp)) w z (cD Y {x with s:=L}++[.g F,.g j]) D->
   q=((bL T 2 L).s {x with s:=L} λt x=>(tJ T x).s x λn x=>(bL T 1 x.s).s x λ_ x=>.ok {x with cs:=x.cs++[⟨k,t.text,aX,n,0⟩]})->
   vC.bg (aa Y.X.rb) j k (ba []) 0 0 0 0 0 z (i3 T Y x D w q):=λk z y e=>by
  refine eZ (X:=Y.X) y 0 rfl (jo (y.get 0) (cV y (i:=0) rfl rfl) C.tk B.p) (λt P M K A=>⟨_,_,_,rfl,A.ae λw6 J=>?_⟩) (λQ p w' er f=>hL (e.trans (k6 er)) f);have e:=e.trans (jY K);have m2:=m1.tr (eE hT B.p dl K);have S:=C.mv m2;have J:O (·∈(cD Y x).flatMap (·.fp)) w w6 (cD Y {x with s:=P}++[.g F,.g j]) D:=J;obtain⟨hC,hI⟩:=aeG hX (E:=gN T {x with s:=P}) rfl P Y.Ms;refine ns (X:=Y.X) J 0 rfl C.gr.d (acs hC hI (J.get 0) (Bz J rfl) (S.en (λQ he=>da _ he) gs gs) (S.gr.sub λQ he=>da _ he) S.ok (bw _) S.p S.tm) (λn s3 g' l' v w7 e3 ar hG hb H7=>?_) (λQ p w' er f=>hL (e.trans (k6 (q:=tJ T _) er)) f);subst ar;have e:=e.trans (jY (q:=tJ T {x with s:=P}) e3);obtain⟨n',aw,e4,e5⟩:=bK e3;have e6:n'=n/\aw=s3:=by grind
  rw[e6.1,e6.2]at e4;have ao:=(hI P n s3 (bw _) S.p S.tm S.gr.v S.ok e4).1;refine⟨_,rfl,H7.ae λw8 H8=>?_⟩;refine fin j [.g F,.g j] ⟨k,t.text,aX,n,0⟩ {Y with X:={Y.X with g:=g'},l:=l'} {x with s:=s3} _ [.gr g' l'] w8 rfl rfl (λac Z b aj=>?_) H8 (S.grow ao hG λQ he=>cm _ he) gs e;rw[cy.1 Z]at aj;exact(hb b aj).elim (λh=>.inr ⟨_,C.gr.d,h⟩) .inl
 have rest:∀z,O (·∈(cD Y x).flatMap (·.fp)) w z (cD Y {x with s:=L}++[.g F,.g j]) D->G.text≠[100,101,99,108,97,114,101]->G.text≠[100,101,102,105,110,101]->G.text≠[97,115,115,101,114,116]->G.text≠[101,100,105,116]->
   vC.cG (aa Y.X.rb) F G.kind (ba G.text) G.a6 j 0 (ba []) 0 0 0 0 0 (ba G.text) z (i3 T Y x D w q):=λz y h1 h2 h3 h4=>by
  rw[ab h1,ab h2,ab (by grind)]at e;refine eA (b:=[114,101,116,114,97,99,116]) (λh=>y.ae λM A=>?_) (λh5=>?_)
  .rw [ag h]at e;refine eZ (X:=Y.X) A 0 rfl (jo (A.get 0) (cV A (i:=0) rfl rfl) C.tk B.p) (λt P w6 K J=>⟨_,_,_,rfl,J.ae λw7 H7=>?_⟩) (λQ p w' er f=>hL (e.trans (k6 er)) f);have m2:=m1.tr (eE hT B.p dl K);refine fin j [.g F,.g j] ⟨3,t.text,aX,0,0⟩ Y {x with s:=P} D [] w7 rfl gs (λac Z=>by cases Z) H7 (C.mv m2) gs (e.trans (jY K))
  rw[ab h5]at e;refine eA (b:=[112,117,115,104]) (λh=>y.ae λM A=>?_) (λh6=>?_)
  .rw [ag h]at e;exact fin j [.g F,.g j] ⟨4,[],aX,0,0⟩ Y {x with s:=L} D [] M rfl gs (λac Z=>by cases Z) A B gs e
  rw[ab h6]at e;refine eA (b:=[112,111,112]) (λh=>y.ae λM A=>?_) (λh7=>?_)
  .rw [ag h]at e;exact fin j [.g F,.g j] ⟨5,[],aX,0,0⟩ Y {x with s:=L} D [] M rfl gs (λac Z=>by cases Z) A B gs e
  rw[ab h7]at e;refine eA (b:=[99,104,101,99,107]) (λh=>y.ae λM A=>?_) (λh8=>?_)
  .rw [ag h]at e;have ht:=(o9 B.p).2;generalize aL T ({x with s:=L}:bJ).s.p=t at ht e;refine⟨Y.X.tk,A.ld 0 0,_,A.ld 0 1,B2 (A.rd _ C.tk.t) rfl ht λp ap c=>⟨t.kind,ba t.text,t.a6,c.c0,c.c1,c.c2,A.ax λb4 w6 J=>?_⟩⟩;have c':=HU (J.rd _ C.tk.t) (X:=(L.p:Int)) rfl ht ap;refine⟨c'.c0,c'.c1,c'.c2,J.ld 0 1,J.ld 0 0,J.ae λw7 H7=>?_⟩;refine eZ (X:=Y.X) H7 0 rfl (vL (H7.get 0) (cV H7 (i:=0) rfl rfl) C.tk B.p) (λn P w8 K H8=>⟨_,rfl,aT (λhn=>H8.ae λw9 H9=>?_) (λhn=>H8.ae λw9 H9=>?_)⟩) (λQ p w' er f=>hL (e.trans (k6 er)) f)
   .exact gw H9 (jX _ 5 t w9) λw' f=>hL ((e.trans (jY K)).trans (ag io)) f
   .have m2:=m1.tr (lK hT B.p K).1;exact fin j [.g F,.g j,.g b4] ⟨6,[],aX,0,n⟩ Y {x with s:=P} D [] w9 rfl gs (λac Z=>by cases Z) H9 (C.mv m2) gs ((e.trans (jY K)).trans (ab io))
  rw[ab h8]at e;have hk:=(qh e1).2.1;exact gw y (rp _ G z) λw' f=>by rw[hk];exact hL e f
 refine eA (b:=[100,101,99,108,97,114,101]) (λh=>W.ae λz y=>?_) (λh1=>?_)
 .rw [ag h]at e;exact Hm (R:=[.g F,.g j]) (show O _ w z (cD Y {x with s:=L}++[.g F,.g j]) D from y) (λH'=>ach B H' (by show x.cs.length<=100000;have:=C.p;omega) G) (λaf Y' D' M ey hy A ah hb=>⟨rfl,vV (e.trans ey) hy (A.take 4) ah hb⟩) (λQ p w' er f=>hL (e.trans er) f)
 refine eA (b:=[100,101,102,105,110,101]) (λh=>W.ae λz y=>?_) (λh2=>?_)
 .rw [ab h1,ag h]at e;exact Hm (R:=[.g F,.g j]) (show O _ w z (cD Y {x with s:=L}++[.g F,.g j]) D from y) (λH'=>aci B H') (λaf Y' D' M ey hy A ah hb=>⟨rfl,vV (e.trans ey) hy (A.take 4) ah hb⟩) (λQ p w' er f=>hL (e.trans er) f)
 have term:(G.text=[97,115,115,101,114,116]\/G.text=[101,100,105,116])->∀z,O (·∈(cD Y x).flatMap (·.fp)) w z (cD Y {x with s:=L}++[.g F,.g j]) D->vC.aV (aa Y.X.rb) F G.kind (ba G.text) G.a6 j 0 (ba []) 0 0 0 0 0 z (i3 T Y x D w q):=λh z y=>by
  rw[ab h1,ab h2,ag h]at e;refine eA (b:=[101,100,105,116]) (λh=>y.ae λM A=>?_) (λh=>y.ae λM A=>?_)
  .rw [ag h]at e;exact tr 2 M A e
  .rw [ab h]at e;exact tr 1 M A e
 refine eA (b:=[97,115,115,101,114,116]) (λh=>eA (b:=[97,115,115,101,114,116]) (λ_=>W.ae λz y=>term (.inl h) z y) λh'=>absurd h h') (λh3=>?_);exact eA (b:=[101,100,105,116]) (λh=>W.ae λz y=>term (.inr h) z y) (λh4=>W.ae λz y=>rest z y h1 h2 h3 h4)
end
def df{α:Type}{q:PR α}{y z:bJ}{f:α->bJ->SR}(d:q.s y f=.ok z):∃a s,q=.ok a s/\f a {y with s:=s}=.ok z:=by
 cases q with
 |ok a s=>exact⟨a,s,rfl,d⟩
 |er e p=>cases d
def VJ{s q:aH}{n:Nx}{t:aI}{k:Nat}(h:eu s n t=.ok k q):(bA s.g n).2=0/\q.g[k]? =some (eo n (bA s.g n).1):=by
 unfold eu at h;split at h
 .rename_i d;cases h;unfold bb at d ⊢;split at d
  .rename_i e;exact absurd d e
  .rename_i e;have e:(bA s.g n).2=0:=Classical.byContradiction e;refine⟨e,?_⟩;rw[ab (by rw[e];simp)];split at d
   .rename_i i j;have:=(xE j).2;simpa using this
   .rename_i j;split at d
    .cases d
    .rename_i w;rw[ab w];simp
 .cases h
def Z6{g:List Nx}{n:Nx}(d:(bA g n).2=0)(y:n.op=0\/n.op=1\/n.op=3):eo n (bA g n).1=n:=by
 unfold bA at d ⊢;split at d
 .cases d
 rename_i w;rw[ab w];rw[ag io]at d ⊢;have x:n.op≠2:=io
 unfold cb at d ⊢;rw[ab x]at d ⊢;repeat' split at d
 all_goals first |(cases d;done)|skip
 rename_i e h j k q;rw[ab e,ab h,ab j,ab k,ab q];rfl
def oj(g:List Nx)(c:fh):Prop:=0<=c.nd/\(c.nd<g.length\/c.nd=0)/\((c.k=1\/c.k=2)->(g[c.nd.toNat]?).map (·.st)=some (aO 1))/\(c.k=0->g[c.nd.toNat]? =some ⟨0,[],0,0,0,ba c.nm,c.st⟩)
def oj.up{g r:List Nx}{c:fh}(h:oj g c):oj (g++r) c:=by
 have k:∀e,g[c.nd.toNat]? =some e->(g++r)[c.nd.toNat]? =some e:=λe d=>by rw[List.getElem?_append_left (cL.1 d).1];exact d
 refine⟨h.1,h.2.1.imp (λh=>by rw[bG];omega) id,λj=>?_,λj=>k _ (h.2.2.2 j)⟩;have:=h.2.2.1 j;cases d:g[c.nd.toNat]? with
 |none=>rw[d]at this;cases this
 |some e=>rw[d]at this;rw[k e d];exact this
structure iK(T:List aI)(x:bJ):Prop where
 p:x.s.p<T.length
 tm:x.s.tm<=65536
 v:Vg x.s.g
 e:e5 (gN T x) x.s.g
 c:∀c∈x.cs,oj x.s.g c
structure zn(x y:bJ):Prop where
 p:x.s.p<y.s.p
 g:∃r,y.s.g=x.s.g++r
 c:∃r,y.cs=x.cs++r
def iK.mv{T:List aI}{x:bJ}(d:iK T x){h:aH}(m:Mv T x.s h):iK T {x with s:=h}:=
 ⟨m.l,by show h.tm<=_;rw[m.t];exact d.tm,by show Vg h.g;rw[m.g];exact d.v,⟨d.e.T,by rw[m.g];exact d.e.vs,by rw[m.g];exact d.e.pm,d.e.ms⟩,by show ∀c∈x.cs,oj h.g c;rw[m.g];exact d.c⟩
def iK.go{T:List aI}{x:bJ}(h:iK T x){d:aH}(m:j4 T x.s d):iK T {x with s:=d}:=by have:=h.e.up m.len;obtain⟨r,j⟩:=m.g;exact⟨m.l,m.t.2,m.v,⟨this.T,this.vs,this.pm,this.ms⟩,λc k=>by show oj d.g c;rw[j];exact(h.c c k).up⟩
section
variable {T:List aI} {x y:bJ}
def X5(D:iK T x){w:aI}(e:pP T w x=.ok y):iK T y/\zn x y:=by
 have A:=D.e.T;obtain⟨u,s1,P,e⟩:=df e;obtain⟨aa,s2,Q,e⟩:=df e;obtain⟨Y,s3,S,e⟩:=df e;obtain⟨k,q,H,e⟩:=df e;cases e;have W:=(yg (E:=gN T x) P).1;have J:=eE A D.p dl W;have K:=J.tr (v5 A J.l Q).1;have F:=K.tr (eE A K.l dl S);have z:=D.mv F;obtain⟨G,N⟩:=wL z.v z.p z.tm H;obtain⟨O,C⟩:=VJ H;have d:=z.go G;have C:=C.trans (congrArg some (Z6 O (.inl rfl)));have Z:=F.p;have L:=G.p;obtain⟨r,er⟩:=G.g;refine⟨⟨d.p,d.tm,d.v,⟨A,λM j=>?_,d.e.pm,d.e.ms⟩,λc h=>?_⟩,⟨by show x.s.p<q.p;have L:s3.p<=q.p:=L;omega,⟨r,by show q.g=_;rw[er];show s3.g++r=_;rw[F.g]⟩,⟨_,rfl⟩⟩⟩
 .rcases aP.1 (show M∈x.vs++[(u.text,k)]from j)with j|j
  .exact d.e.vs M j
  .rw [cy.1 j];exact N
 .rcases aP.1 h with h|h
  .exact d.c c h
  .rw [cy.1 h];exact⟨Int.natCast_nonneg _,.inl (by have:k<q.g.length:=N;show(k:Int)<(q.g.length:Int);omega),λB=>(by rcases B with B|B<;>cases B),λ_=>C⟩
def X6(k:iK T x)(e:pQ T x=.ok y):iK T y/\zn x y:=by
 have d:=k.e.T;obtain⟨o,s1,H,e⟩:=df e;obtain⟨t,s2,J,e⟩:=df e;split at e
 .cases e
 obtain⟨A,s3,K,e⟩:=df e;obtain⟨u,s4,L,e⟩:=df e;obtain⟨Z,s5,M,e⟩:=df e;cases e;have C:=eE d k.p dl H;have P:=(yg (E:=gN T x) J).1;have D:=C.tr (eE d C.l dl P);obtain⟨O,N,aa⟩:=GD d _ _ _ _ _ D.l gs (dc _) K;have w:=D.tr O;have F:=w.tr (Hu d _ _ _ _ w.l L);have z:=F.tr (eE d F.l dl M);have j:=k.mv z;have B:=d.l;have B:T.length<=100000:=B;have Y:=w.l;refine⟨⟨j.p,j.tm,j.v,⟨d,j.e.vs,j.e.pm,λq h=>?_⟩,j.c⟩,⟨z.p,⟨[],by rw[cQ];exact z.g⟩,⟨[],(cQ _).symm⟩⟩⟩;have h:q∈x.ms++[(t.text,(⟨A,s3.p,x.ms.length⟩:PM))]:=h;show q.2.ix<(x.ms++[(t.text,(⟨A,s3.p,x.ms.length⟩:PM))]).length/\_;rw[bG];rcases aP.1 h with h|h
 .obtain ⟨G,Q,S,W⟩:=k.e.ms q h;have G:q.2.ix<x.ms.length:=G;exact⟨by simp;omega,Q,S,W⟩
 .rw [cy.1 h];exact⟨gs,Y,N,by show A.length<=100000;omega⟩
def J'(h:iK T x)(e:kL T x=.ok y):iK T y/\zn x y:=by
 have C:=h.e.T;have fin:∀{c:fh} {x1:bJ},iK T x1->x.s.p<=x1.s.p->(∃r,x1.s.g=x.s.g++r)->x1.cs=x.cs->oj x1.s.g c->((bL T 1 x1.s).s x1 λ_ x=>.ok {x with cs:=x.cs++[c]})=.ok y->iK T y/\zn x y:=λ{c x1} z hp W S A e=>by
  obtain⟨cl,B,w,e⟩:=df e;cases e;have m:=eE C z.p dl w;have d:=z.mv m;obtain⟨r,er⟩:=W;have mp:=m.p;refine⟨⟨d.p,d.tm,d.v,⟨C,d.e.vs,d.e.pm,d.e.ms⟩,λM E=>?_⟩,⟨by show x.s.p<B.p;omega,⟨r,by show B.g=_;rw[m.g];exact er⟩,⟨[c],by show x1.cs++[c]=_;rw[S]⟩⟩⟩;rcases aP.1 E with E|E
  .exact d.c M E
  .rw [cy.1 E];show oj B.g c;rw[m.g];exact A
 have G:∀(k n:Int) (nm:List UInt8),3<=k->∀g,oj g ⟨k,nm,aX,0,n⟩:=λk n nm A g=>⟨Int.le_refl _,.inr rfl,λh=>by have h:k=1\/k=2:=h;omega,λh=>by have h:k=0:=h;omega⟩;obtain⟨Z,F,N,e⟩:=df e;have j:=eE C h.p dl N;have z:=h.mv j;have L:=j.p;have K:∃r,F.g=x.s.g++r:=⟨[],by rw[cQ];exact j.g⟩;dsimp only at e;split at e
 .obtain ⟨a,b⟩:=X5 z e;obtain⟨r,er⟩:=b.g;have D:=b.p;exact⟨a,⟨by have D:F.p<y.s.p:=D;omega,⟨r,by rw[er];show F.g++r=_;rw[j.g]⟩,b.c⟩⟩
 split at e
 .obtain ⟨a,b⟩:=X6 z e;obtain⟨r,er⟩:=b.g;have D:=b.p;exact⟨a,⟨by have D:F.p<y.s.p:=D;omega,⟨r,by rw[er];show F.g++r=_;rw[j.g]⟩,b.c⟩⟩
 split at e
 .rename_i hw;obtain⟨t,B,w,e⟩:=df e;obtain⟨n,s3,O,e⟩:=df e;have q:=j.tr (eE C j.l dl w);have d:=h.mv q;obtain⟨n',aa,P,H⟩:=bK O;split at H
  .rename_i Y;cases H;obtain⟨J,_,q3⟩:=yR _ _ B n s3 (dc _) d.p d.tm d.v d.e P;have Q:=d.go J;obtain⟨r,er⟩:=J.g;have p2:=q.p;have p3:=J.p;refine fin Q (by show x.s.p<=s3.p;omega) ⟨r,by show s3.g=_;rw[er,q.g]⟩ rfl ⟨Int.natCast_nonneg _,.inl (by show(n:Int)<(s3.g.length:Int);omega),λ_=>?_,λA=>?_⟩ e
   .exact Y
   .have A:(if Z.text=[101,100,105,116]then(2:Int)else 1)=0:=A;split at A<;>cases A
  .cases H
 split at e
 .obtain ⟨t,B,w,e⟩:=df e;have q:=j.tr (eE C j.l dl w);exact fin (h.mv q) (Nat.le_of_lt q.p) ⟨[],by rw[cQ];exact q.g⟩ rfl (G 3 0 _ dl _) e
 split at e
 .exact fin z (Nat.le_of_lt L) K rfl (G 4 0 _ dl _) e
 split at e
 .exact fin z (Nat.le_of_lt L) K rfl (G 5 0 _ dl _) e
 split at e
 .obtain ⟨n,B,w,e⟩:=df e;split at e
  .cases e
  .have q:=j.tr (lK C j.l w).1;exact fin (h.mv q) (Nat.le_of_lt q.p) ⟨[],by rw[cQ];exact q.g⟩ rfl (G 6 n _ dl _) e
 .cases e
end
def adB{x:SR}{f:bJ->SR}{e:Int}{p:Nat}(d:x=.er e p):x.b f=.er e p:=by subst d;rfl
def adC{x:SR}{f:bJ->SR}{y:bJ}(d:x=.ok y):x.b f=f y:=by subst d;rfl
section
variable {N:Nat} {T:List aI} {Y:mS} {x:bJ} {D:List En}
def acp(hX:ow N T)(hS:hv T Y x D)(P:iK T x){w:I}(H:O (·∈(cD Y x).flatMap (·.fp)) w w (cD Y x) D):ai U FN #[.pointer (some (aa Y.X.rb))] w (i3 T Y x D w (hM T (T.length+1) x)):=by
 have hT:=P.e.T;have loop:∀(f:Nat) (d:mS) (x1:bJ) (D':List En) (F:I) (q:SR),T.length - x1.s.p<f->d.X.rb=Y.X.rb->iK T x1->O (·∈(cD Y x).flatMap (·.fp)) w F (cD d x1) (D++D')->hv T d x1 (D++D')->(∀z∈D',∀b∈z.fp,w.heap.size<=b\/∃g∈D,b∈g.fp)->q=hM T f x1->Bh.a1 (aa d.X.rb) F (i3 T Y x D w q):=by
  intro f;induction f with
  |zero=>intro d x1 D' F q hf;omega
  |succ f ih=>
   intro d x1 D' F q hf hy S G A M j;have j:q=if(aL T x1.s.p).kind=6 then .ok x1 else if(aL T x1.s.p).kind=0 then(kL T {x1 with s:=cH (aL T x1.s.p) x1.s}).b λx=>hM T f x else .er 2 (aL T x1.s.p).a6:=j;have af:=yp (G.get 0) (cV G (i:=0) rfl rfl) A.tk A.p;have W:(aL T x1.s.p).kind≠6->Mv T x1.s (cH (aL T x1.s.p) x1.s):=λh=>rZ hT A.p h;have Z:(aL T x1.s.p).kind=6->cH (aL T x1.s.p) x1.s=x1.s:=λh=>ag h;generalize aL T x1.s.p=t at j af W Z;refine Bh.bS (AL G 0 rfl rfl rfl af λw2 H2=>⟨_,_,_,rfl,H2.ax λK w3 J=>aw (λh=>J.ae λC k=>?_) (λh=>aw (λL=>J.ae λC k=>?_) (λL=>J.ae λC k=>?_))⟩)
   .have k:O (·∈(cD Y x).flatMap (·.fp)) w C ([bx d.X (cH t x1.s),.ob d.X.mv (.map d.e1 d.c1),.ob d.X.mm (.map d.e2 d.c2),.row ky 7 d.X.cs (cZ x1.cs)]++[.g K]) (D++D'):=k;rw[Z h]at k;exact vV (j.trans (ag h)) hy (k.take 4) A M
   .rw [ab h,ag L]at j;have m:=W h;have mp:=m.p;refine Hm (R:=[.g K]) (x:={x1 with s:=cH t x1.s}) (show O _ w C (cD d {x1 with s:=cH t x1.s}++[.g K]) _ from k) (λH'=>acf hX (A.mv m) H') (λaj Y' am w5 Q ah H5 an hb=>⟨rfl,?_⟩) (λao p w' er f=>hL (j.trans (adB er)) f);obtain⟨o1,o2⟩:=J' (S.mv m) Q;have q1:=o2.p;have q1:(cH t x1.s).p<aj.s.p:=q1;rw[<-ah];have ap:=S.p;refine ih Y' aj (D'++am) w5 q io (ah.trans hy) o1 (by rw[<-cU];exact H5.take 4) (by rw[<-cU];exact an) (λz y b ac=>?_) (j.trans (adC Q));rcases aP.1 y with y|y
    .exact M z y b ac
    .rcases hb z y b ac with E|⟨g,B,E⟩
     .exact .inl E
     .rcases aP.1 B with B|B
      .exact .inr ⟨g,B,E⟩
      .exact M g B b E
   .rw [ab h,ab L]at j;exact gw k (rp _ t C) λw' f=>by rw[ab h];exact hL j f
 exact Bh.aq (loop (T.length+1) Y x [] w _ (by have:=P.p;omega) rfl P (by rw[cQ];exact H) (by rw[cQ];exact hS) (λz y=>by cases y) rfl)
end
structure SS(P:au)(ops:Array Oper)(Q:Exit->Act->List Frame->I->Prop)(l:List Nat)(a:Act)(cs:List Frame)(w:I):Prop where
 h:wpOpsS P ops Q l a cs w
structure SW(P:au)(ops:Array Oper)(Q:Exit->Act->I->Prop)(l:List Nat)(a:Act)(w:I):Prop where
 h:wpOps P ops Q l a w
section
variable {P:au} {ops:Array Oper} {i:Nat} {rest:List Nat} {a:Act} {cs:List Frame} {w w':I} {o:Oper} {v:V}
def rl(d:(ops.toList.drop i).head? =some o):ops[i]? =some o:=by
 rw[List.head?_drop]at d
 grind
def lX{Q:Exit->Act->List Frame->I->Prop}(e:(ops.toList.drop i).head? =some o)(q:cv o (yielded ops a.tmps)=true)(k:(execOp a.eval o).run P w=.ok (.value v) w')(d:SS P ops Q rest (a.put o.dst v) cs w'):SS P ops Q (i::rest) a cs w:=by constructor;have j:=rl e;simp only[wpOpsS,j,q,if_true,k,Oper.upon_value];exact d.h
def SY{Q:Exit->Act->List Frame->I->Prop}(e:(ops.toList.drop i).head? =some o)(q:cv o (yielded ops a.tmps)=true)(k:(execOp a.eval o).run P w=.ok .skip w')(d:SS P ops Q rest (a.put o.dst undef) cs w'):SS P ops Q (i::rest) a cs w:=by constructor;have j:=rl e;simp only[wpOpsS,j,q,if_true,k,Oper.upon_skip];exact d.h
def ac6{Q:Exit->Act->List Frame->I->Prop}(e:(ops.toList.drop i).head? =some o)(x:cv o (yielded ops a.tmps)=true)(q:(execOp a.eval o).run P w=.ok .recover w')(j:recoverD cs=none)(d:SS P ops Q rest (a.put o.dst .nilIface) cs w'):SS P ops Q (i::rest) a cs w:=by constructor;have k:=rl e;simp only[wpOpsS,k,x,if_true,q,j];exact d.h
variable {Q:Exit->Act->I->Prop}
def BE(e:(ops.toList.drop i).head? =some o)(q:cv o (yielded ops a.tmps)=true)(k:(execOp a.eval o).run P w=.ok (.value v) w')(d:SW P ops Q rest (a.put o.dst v) w'):SW P ops Q (i::rest) a w:=by constructor;have j:=rl e;simp only[wpOps,j,q,if_true];refine .inl ?_;unfold Oper.wp;rw[k];exact d.h
def S'(e:(ops.toList.drop i).head? =some o)(q:cv o (yielded ops a.tmps)=true)(k:(execOp a.eval o).run P w=.ok .skip w')(d:SW P ops Q rest (a.put o.dst undef) w'):SW P ops Q (i::rest) a w:=by constructor;have j:=rl e;simp only[wpOps,j,q,if_true];refine .inl ?_;unfold Oper.wp;rw[k];exact d.h
def ac8{d:Deferred}(j:(ops.toList.drop i).head? =some o)(x:cv o (yielded ops a.tmps)=true)(q:(execOp a.eval o).run P w=.ok (.defer d) w')(e:SW P ops Q rest ({a with defers:=d::a.defers}.put o.dst undef) w'):SW P ops Q (i::rest) a w:=by constructor;have k:=rl j;simp only[wpOps,k,x,if_true];refine .inl ?_;unfold Oper.wp;rw[q];exact e.h
def BA{Q:Exit->Act->List Frame->I->Prop}(d:Q .normal a cs w):SS P ops Q [] a cs w:=⟨d⟩
def BC(d:Q .normal a w):SW P ops Q [] a w:=⟨d⟩
def BU{p:Addr}{inf:TypeInfo}{T:TypeId}{x y:Operand}(d:o.op=.store T x y)(j:a.eval x=.pointer (some p))(k:a.eval y=v)(hi:P.info? T=some inf)(h:v.cells.size=inf.size)(e:(storeCells p v.cells.toList 0).run P w=.ok () w'):(execOp a.eval o).run P w=.ok .skip w':=by simp[execOp,d,Instr.storeAt,j,k,Instr.sureAddr,storeVar,sizeOf,typeInfo,hi,h,e]
end
def BB{P:au}{id:Nat}{ops:Array Oper}{Q:Exit->Act->List Frame->I->Prop}{a:Act}{cs:List Frame}{w:I}(l:List Nat)(e:List.range ops.size=l)(d:SS P ops Q l a cs w):(Code.region id ops false).wpS P Q a cs w:=wpS_region (e▸d.h)
def BD{P:au}{id:Nat}{ops:Array Oper}{Q:Exit->Act->I->Prop}{a:Act}{w:I}(l:List Nat)(e:List.range ops.size=l)(d:SW P ops Q l a w):(Code.region id ops false).wp P Q a w:=wp_region (e▸d.h)
abbrev fZ:V:=.agg #[.i 0,.i 0]
def Ah{P:au}{T n:Nat}(d:(P.info? T).map (·.size)=some n):∃i,P.info? T=some i/\i.size=n:=Option.map_eq_some_iff.1 d
def Lp:(Tryz.prog.info? lq).map (·.size)=some 2:=by kernel_rfl
def Yu:(Tryz.prog.info? hr).map (·.size)=some 1:=by kernel_rfl
def Zv:(Tryz.prog.info? bz).map (·.size)=some 1:=by kernel_rfl
def ac7{P:au}{ops:Array Oper}{i:Nat}{rest:List Nat}{a:Act}{cs d:List Frame}{w w':I}{o:Oper}{v:V}{Q:Exit->Act->List Frame->I->Prop}(j:(ops.toList.drop i).head? =some o)(y:cv o (yielded ops a.tmps)=true)(x:(execOp a.eval o).run P w=.ok .recover w')(k:recoverD cs=some (v,d))(e:SS P ops Q rest (a.put o.dst v) d w'):SS P ops Q (i::rest) a cs w:=by constructor;have q:=rl j;simp only[wpOpsS,q,y,if_true,x,k];exact e.h
def afd{P:au}{id:Nat}{ops:Array Oper}{n:Cx}{K:Env->I->Prop}{a:Act}{E:Env}{w:I}{l:List Nat}(k:P.follows .mixedOrders=true)(q:dD n ops=true)(j:rk P ops l (Array.replicate ops.size false)=true)(y:l.length=ops.size)(h:Ag n a E)(e:hj P ops true K l E w.drew []):(Code.region id ops true).wp P (hW n K) a w:=by have d:=Hk q l _ E _ [] a j h (λp x=>(by cases x)) e;rw[y]at d;exact wp_region_any k (y7 _ [] _ _ _ (Down.zero _ _) d)
def ac3(p q:Addr)(w:I):CallsD U vj #[.pointer (some p),.pointer (some q)] .returning w λx D E=>x=ad (.tuple #[])/\D=.returning/\af w E:=by
 refine callsD_of_wpS (fn:=Tryz.f38) (by kernel_rfl) rfl λc₀ k B=>?_;have z:recoverD (c₀::k)=none:=by simp[recoverD,B]
 obtain⟨inf,y,A⟩:=Ah Lp;refine wpS_seq (BB [0,1,2,3,4,5,6,7] (by kernel_rfl) ?_);refine ac6 (i:=0) (by rfl) (by kernel_rfl) (w':=w) (by kernel_rfl) z ?_;refine lX (i:=1) (by rfl) (by kernel_rfl) (w':=w) (v:=.tuple #[fZ,.bool false]) (by kernel_rfl) ?_;refine lX (i:=2) (by rfl) (by kernel_rfl) (w':=w) (v:=.tuple #[fZ,.bool false]) (by kernel_rfl) ?_;refine lX (i:=3) (by rfl) (by kernel_rfl) (w':=w) (v:=fZ) (by kernel_rfl) ?_;refine lX (i:=4) (by rfl) (by kernel_rfl) (w':=w) (v:=.bool false) (by kernel_rfl) ?_;refine lX (i:=5) (by rfl) (by kernel_rfl) (w':=w.alloc (.cells #[.i 0,.i 0] lq)) (v:=ptr w.heap.size) (by kernel_rfl) ?_;have h:O F0 w (w.alloc (.cells #[.i 0,.i 0] lq)) [.c w.heap.size [.i 0,.i 0] lq] []:=(bM (w:=w) [] gs).alloc _;obtain⟨d,C,e⟩:∃d,(storeCells (aa w.heap.size) [.i 0,.i 0] 0).run U (w.alloc (.cells #[.i 0,.i 0] lq))=.ok () d/\O F0 w d [.c w.heap.size [.i 0,.i 0] lq] []:=
  v8 (P:=U) (p:=aa w.heap.size) (i:=0) (vs:=[.i 0,.i 0]) (K:=λd=>O F0 w d [.c w.heap.size [.i 0,.i 0] lq] []) rfl (h.st 0 0 rfl λF j=>j.st 0 1 rfl λd e=>e)
 refine SY (i:=6) (by rfl) (by kernel_rfl) (w':=d) (BU rfl (by kernel_rfl) (v:=fZ) (by kernel_rfl) y (by rw[A];rfl) C) ?_;refine lX (i:=7) (by rfl) (by kernel_rfl) (w':=d) (v:=.bool false) (by kernel_rfl) (BA ?_);refine wpS_seq (BB [0] (by kernel_rfl) ?_);refine lX (i:=0) (by rfl) (by kernel_rfl) (w':=d) (v:=.bool false) (by kernel_rfl) (BA ?_);refine wpS_cond (t:=false) (by kernel_rfl) (wpS_of_wp (wp_skip ?_));refine⟨rfl,.returning,by cases c₀;simp_all,.tuple #[],by kernel_rfl,rfl,rfl,e.fr⟩
def aal{M:Nat->Prop}{w0 w:I}{e:En}{L D:List En}(H:O M w0 w (e::L) D):O M w0 w L D:=by have h:=H.nd;rw[dz,ff]at h;exact⟨H.fr,λg d=>H.own g (cP _ d),H.rd,λg d=>H.new g (cP _ d),h.2.1,λj q b k g d=>H.dj j q b k g (cP _ d)⟩
def get_mem{t:Nat}{v:V}:∀{E:Env},E.get? t=some v->(t,v)∈E
 |[],d=>by cases d
 |(h,u)::E,d=>by
  unfold Env.get? at d;cases e:Nat.beq h t with
  |true=>
   rw[e]at d;have:=Nat.eq_of_beq_eq_true e
   grind
  |false=>
   rw[e]at d;exact cP _ (get_mem d)
def ac1(p q:Nat)(x0 x:V)(e:Int)(d:Nat){M:Nat->Prop}{w0 w:I}{L D:List En}(H:O M w0 w ([.c p [x0] bz,.c q [x] hr]++L) D):CallsD U vj #[.pointer (some (aa p)),.pointer (some (aa q))] (.panicking (je e d)) w λr u' J=>r=ad (.tuple #[])/\settle u'=.returning/\O M w0 J ([.c p [.i (d:Int)] bz,.c q [.i e] hr]++L) D:=by
 refine callsD_of_wpS (fn:=Tryz.f38) (by kernel_rfl) rfl λc₀ F hu=>?_;have Y:recoverD (c₀::F)=some (Ac e d,{c₀ with mode:=.panicking [{v:=Ac e d,recovered:=true}]}::F):=by simp[recoverD,hu,je]
 obtain⟨inf,W,Z⟩:=Ah Lp;refine wpS_seq (BB [0,1,2,3,4,5,6,7] (by kernel_rfl) ?_);refine ac7 (i:=0) (by rfl) (by kernel_rfl) (w':=w) (by kernel_rfl) Y ?_;refine lX (i:=1) (by rfl) (by kernel_rfl) (w':=w) (v:=.tuple #[.agg #[.i e,.i (d:Int)],.bool true]) (by kernel_rfl) ?_;refine lX (i:=2) (by rfl) (by kernel_rfl) (w':=w) (v:=.tuple #[.agg #[.i e,.i (d:Int)],.bool true]) (by kernel_rfl) ?_;refine lX (i:=3) (by rfl) (by kernel_rfl) (w':=w) (v:=.agg #[.i e,.i (d:Int)]) (by kernel_rfl) ?_;refine lX (i:=4) (by rfl) (by kernel_rfl) (w':=w) (v:=.bool true) (by kernel_rfl) ?_;refine lX (i:=5) (by rfl) (by kernel_rfl) (w':=w.alloc (.cells #[.i 0,.i 0] lq)) (v:=ptr w.heap.size) (by kernel_rfl) ?_;have y:O M w0 (w.alloc (.cells #[.i 0,.i 0] lq)) (.c w.heap.size [.i 0,.i 0] lq::.c p [x0] bz::.c q [x] hr::L) D:=nZ (H.alloc (.cells #[.i 0,.i 0] lq)) List.perm_append_comm;obtain⟨h,r2,z⟩:∃h,(storeCells (aa w.heap.size) [.i e,.i (d:Int)] 0).run U (w.alloc (.cells #[.i 0,.i 0] lq))=.ok () h/\O M w0 h (.c w.heap.size [.i e,.i (d:Int)] lq::.c p [x0] bz::.c q [x] hr::L) D:=
  v8 (P:=U) (p:=aa w.heap.size) (i:=0) (vs:=[.i e,.i (d:Int)]) (K:=λh=>O M w0 h (.c w.heap.size [.i e,.i (d:Int)] lq::.c p [x0] bz::.c q [x] hr::L) D) rfl (y.st 0 0 rfl λw1 y=>y.st 0 1 rfl λh z=>z)
 refine SY (i:=6) (by rfl) (by kernel_rfl) (w':=h) (BU rfl (by kernel_rfl) (v:=.agg #[.i e,.i (d:Int)]) (by kernel_rfl) W (by rw[Z];rfl) r2) ?_;refine lX (i:=7) (by rfl) (by kernel_rfl) (w':=h) (v:=.bool true) (by kernel_rfl) (BA ?_);refine wpS_seq (BB [0] (by kernel_rfl) ?_);refine lX (i:=0) (by rfl) (by kernel_rfl) (w':=h) (v:=.bool true) (by kernel_rfl) (BA ?_);have A:=z.drew;have T:∃a:Int,h.drew.cell? ((aa w.heap.size).add 1)=some (.i a)/\∃b:Int,h.drew.cell? ((aa w.heap.size).add 0)=some (.i b)/\aN h.drew ((aa p).add 0) (.i a) λB=>B.cell? ((aa w.heap.size).add 0)=some (.i b)/\aN B ((aa q).add 0) (.i b) λk=>O M w0 k ([.c p [.i (d:Int)] bz,.c q [.i e] hr]++L) D:=by refine⟨_,A.ld 0 1,_,A.ld 0 0,?_⟩;exact A.st 1 0 rfl λB C=>⟨C.ld 0 0,C.st 2 0 rfl λk N=>aal N⟩
 refine wpS_cond (t:=true) (by kernel_rfl) (wpS_of_wp (Go.wp_mono (afd (n:=cx 14) (l:=[0,1,2,3,4,5]) (E:=[(2,ptr w.heap.size),(0,.pointer (some (aa p))),(1,.pointer (some (aa q)))]) (K:=λ_ k=>O M w0 k ([.c p [.i (d:Int)] bz,.c q [.i e] hr]++L) D) (by kernel_rfl) (by kernel_rfl) (by kernel_rfl) (by kernel_rfl) ⟨by kernel_rfl,by kernel_rfl,λt v j=>?_⟩ (Eq.mpr (by kernel_rfl) T)) λex a' J j=>?_))
 .have G:=get_mem j;simp only[aF,aZ,a7,Prod.mk.injEq]at G;rcases G with⟨rfl,rfl⟩|⟨rfl,rfl⟩|⟨rfl,rfl⟩<;>(show _=some _;kernel_rfl)
 .cases ex with
  |normal=>
   obtain⟨E',Q,S⟩:=j;exact⟨Q.defers,.panicking [{v:=Ac e d,recovered:=true}],rfl,.tuple #[],by kernel_rfl,rfl,rfl,S⟩
  |_=>exact j.elim
def ac9{P:au}{ops:Array Oper}{i:Nat}{rest:List Nat}{a:Act}{w w':I}{o:Oper}{Q:Exit->Act->I->Prop}{f:FuncId}{args:Array V}(k:(ops.toList.drop i).head? =some o)(y:cv o (yielded ops a.tmps)=true)(x:(execOp a.eval o).run P w=.ok (.enter f args) w')(d:ai P f args w' λr j=>(∃v,r=ad v/\SW P ops Q rest (a.put o.dst v) j)\/∃c,r=.panicked c/\Q (.panic c) a j):SW P ops Q (i::rest) a w:=by
 constructor;have q:=rl k;simp only[wpOps,q,y,if_true];refine .inl ?_;unfold Oper.wp;rw[x];refine Calls.mono d λr j d=>?_;rcases d with⟨v,e,d⟩|⟨c,e,d⟩
 .subst e;exact d.h
 .subst e;exact d
def M0{P:au}{T:TypeId}{p:Addr}{n:Int}{w:I}(d:P.underlying T=some (.int .i64))(e:w.cell? p=some (.i n)):(loadVar T p).run P w=.ok (.i n) w:=by simp[loadVar,isAgg,Sem.run_bind,run_underlying d,load,Sem.run,e]
def Ys{P:au}{a:Act}{o:Oper}{w:I}{t f:Nat}{first qU:Array V}{ts:Array TypeId}(e:o.op=.call ⟨.value (.tmp t),#[],ts⟩)(h:a.eval (.tmp t)=.func (.func f) first qU)(d:hy P f=true):(execOp a.eval o).run P w=.ok (.enter f (first++#[]++qU)) w:=by simp[execOp,e,resolve,h,Deferred.ofValue,invoke,uy d]
def abR{f:FuncId}{first qU:Array V}(hf:hy U f=true){w:I}{p:Addr}{M:Nat->Prop}(hM:∀b,M b->b<w.heap.size){Q:I->aC}(hc:∀e,af w e->e.heap.size=w.heap.size+2->ai U f (first++#[]++qU) e λr G=>(r=ad (.tuple #[])\/∃q B,r=.panicked (je q B))/\Fr M e G/\Q e r G):
  ai U aaV #[.pointer (some p),.func (.func f) first qU] w λr G=>∃e j,af w e/\e.heap.size=w.heap.size+2/\Fr (λb=>b=w.heap.size\/b=w.heap.size+1) j G/\
   ((r=ad (.tuple #[.i 0,.i 0])/\Q e (ad (.tuple #[])) j)\/∃q B,r=ad (.tuple #[.i ((B:Nat):Int),.i q])/\Q e (.panicked (je q B)) j):=by
 refine calls_of_wp_defers (fn:=Tryz.f18) (by kernel_rfl) rfl ?_;obtain⟨i1,h1,s1⟩:=Ah Zv;obtain⟨i2,h2,s2⟩:=Ah Yu;obtain⟨e,H⟩:∃e,e=w.alloc (.cells #[.i 0] bz):=⟨_,rfl⟩;obtain⟨h,J⟩:∃h,h=e.alloc (.cells #[.i 0] hr):=⟨_,rfl⟩;have z1:e.heap.size=w.heap.size+1:=by rw[H];exact size_alloc _ _
 have S:h.heap.size=w.heap.size+2:=by rw[J,size_alloc,z1]
 have E:O F0 w h [.c w.heap.size [.i 0] bz,.c e.heap.size [.i 0] hr] []:=by subst J;subst H;exact((O.start [] gs).alloc (.cells #[.i 0] bz)).alloc (.cells #[.i 0] hr)
 have N:af w h:=E.fr;refine wp_seq (BD [0,1] (by kernel_rfl) (BE (i:=0) (by rfl) (by kernel_rfl) (w':=e) (v:=ptr w.heap.size) (by subst H;kernel_rfl) (BE (i:=1) (by rfl) (by kernel_rfl) (w':=h) (v:=ptr e.heap.size) (by subst J;kernel_rfl) (BC ?_))));refine wp_seq (BD [0,1] (by kernel_rfl) (BE (i:=0) (by rfl) (by kernel_rfl) (w':=h) (v:=.func (.func vj) #[] #[ptr w.heap.size,ptr e.heap.size]) (by kernel_rfl) (ac8 (i:=1) (by rfl) (by kernel_rfl) (w':=h) (d:=⟨.fn (.func vj) #[ptr w.heap.size,ptr e.heap.size],#[]⟩) (by kernel_rfl) (BC ?_))));refine wp_seq (BD [0,1] (by kernel_rfl) (BE (i:=0) (by rfl) (by kernel_rfl) (w':=h) (v:=.func (.func f) first qU) (by kernel_rfl) (ac9 (i:=1) (by rfl) (by kernel_rfl) (w':=h) (f:=f) (args:=first++#[]++qU) ?_ ((hc h N S).mono ?_))))
 .exact Ys (t:=7) rfl (by kernel_rfl) hf
 rintro r j ⟨ac,f3,Y⟩;have W:O (λb=>b=w.heap.size\/b=w.heap.size+1) j j [.c w.heap.size [.i 0] bz,.c e.heap.size [.i 0] hr] []:=by
  have ab:∀b,w.heap.size<=b->b<h.heap.size->j.heap[b]? =h.heap[b]?:=λb F hl=>f3.cw b hl λhm=>by have:=hM b hm;omega
  refine O.o6 _ _ (λq Z=>?_) E.nd gs;simp only[aF,aZ,a7]at Z;rcases Z with rfl|rfl
  .exact ⟨(ab _ (bw _) io).trans (E.ob 0),λb F=>.inl (by simpa[En.ob]using F)⟩
  .exact ⟨(ab _ io io).trans (E.ob 1),λb F=>.inr (by rw[<-z1];simpa[En.ob]using F)⟩
 have fin:∀(z:I) (tm:Array V) (x y:Int) (r0:Ending),tm.getD 4 undef=ptr w.heap.size->tm.getD 5 undef=ptr e.heap.size->O (λb=>b=w.heap.size\/b=w.heap.size+1) j z [.c w.heap.size [.i x] bz,.c e.heap.size [.i y] hr] []->
   (results Tryz.f18 tm).run U z=.ok (.tuple #[.i x,.i y]) z:=λz tm x y r0 t4 t5 A=>by have l1:=M0 (P:=U) (T:=bz) (by kernel_rfl) (A.cB 0);have l2:=M0 (P:=U) (T:=hr) (by kernel_rfl) (A.cB 1);rw[G'];have ae:(Tryz.f18).results=#[.cell 4 bz,.cell 5 hr]:=rfl;rw[ae];simp[qp,t4,t5,asAddr,l1,l2]
 rcases ac with rfl|⟨q,B,rfl⟩
 .refine .inl ⟨_,rfl,BC ?_⟩;obtain⟨k,r4,C⟩:∃k,(storeCells (aa w.heap.size) [.i 0] 0).run U j=.ok () k/\O (λb=>b=w.heap.size\/b=w.heap.size+1) j k [.c w.heap.size [.i 0] bz,.c e.heap.size [.i 0] hr] []:=
   v8 (P:=U) (p:=aa w.heap.size) (i:=0) (vs:=[.i 0]) (K:=λk=>O (λb=>b=w.heap.size\/b=w.heap.size+1) j k [.c w.heap.size [.i 0] bz,.c e.heap.size [.i 0] hr] []) rfl (W.st 0 0 rfl λk C=>C)
  obtain⟨D,r5,H5⟩:∃D,(storeCells (aa e.heap.size) [.i 0] 0).run U k=.ok () D/\O (λb=>b=w.heap.size\/b=w.heap.size+1) j D [.c w.heap.size [.i 0] bz,.c e.heap.size [.i 0] hr] []:=
   v8 (P:=U) (p:=aa e.heap.size) (i:=0) (vs:=[.i 0]) (K:=λk=>O (λb=>b=w.heap.size\/b=w.heap.size+1) j k [.c w.heap.size [.i 0] bz,.c e.heap.size [.i 0] hr] []) rfl (C.st 1 0 rfl λk C=>C)
  refine wp_seq (BD [0,1] (by kernel_rfl) (S' (i:=0) (by rfl) (by kernel_rfl) (w':=k) (BU (by rfl) (by kernel_rfl) (v:=.i 0) (by kernel_rfl) h1 (by rw[s1];rfl) r4) (S' (i:=1) (by rfl) (by kernel_rfl) (w':=D) (BU (by rfl) (by kernel_rfl) (v:=.i 0) (by kernel_rfl) h2 (by rw[s2];rfl) r5) (BC ?_))));refine wp_ret ?_;refine leaves_cons (f:=vj) (args:=#[ptr w.heap.size,ptr e.heap.size]) gs (by kernel_rfl) ?_;refine(ac3 (aa w.heap.size) (aa e.heap.size) D).mono ?_;rintro _ _ z ⟨rfl,rfl,f6⟩;have A:=H5.cA f6;refine⟨.tuple #[.i 0,.i 0],?_,h,j,N,S,A.fr,.inl ⟨rfl,Y⟩⟩;refine fin z _ 0 0 .outgrown ?_ ?_ A
  .kernel_rfl
  .kernel_rfl
 .refine .inr ⟨_,rfl,?_⟩;refine leaves_cons (f:=vj) (args:=#[ptr w.heap.size,ptr e.heap.size]) gs (by kernel_rfl) ?_;refine(ac1 w.heap.size e.heap.size (.i 0) (.i 0) q B (L:=[]) W).mono ?_;rintro _ u z ⟨rfl,hu,A⟩;show Leaves _ _ _ _ _ (settle u) z;rw[hu];refine⟨.tuple #[.i (B:Int),.i q],?_,h,j,N,S,A.fr,.inr ⟨q,B,rfl,Y⟩⟩;refine fin z _ _ _ .outgrown ?_ ?_ A
  .kernel_rfl
  .kernel_rfl
def UZ(d:Nx):∀(g:List Nx) (k:Nat),i0 (g++[d]) k=i0 g k++(if d.op=0 then[(bl d.tx,k+g.length)]else[])
 |[],k=>by
  show(if d.op=0 then(bl d.tx,k)::[]else[])=[]++_
  grind
 |e::g,k=>by
  have h:=UZ d g (k+1);show(if e.op=0 then(bl e.tx,k)::i0 (g++[d]) (k+1)else i0 (g++[d]) (k+1))=(if e.op=0 then(bl e.tx,k)::i0 g (k+1)else i0 g (k+1))++_
  grind
def tM(g:List Nx)(i:Nat):List UInt8×Nat:=(bl (g.getD i (ft 0)).tx,i)
def Ia(g:List Nx):i0 g 0=((List.range g.length).filter (hS g)).map (tM g):=by
 have main:∀n,n<=g.length->i0 (g.take n) 0=((List.range n).filter (hS g)).map (tM g):=by
  intro n;induction n with
  |zero=>intro _;rfl
  |succ n q=>
   intro w;have e:g[n]? =some (g[n]'io):=aY io;generalize g[n]'io=d at e;have j:g.take (n+1)=g.take n++[d]:=by rw[fJ,e];rfl
   rw[j,UZ,q io,List.range_succ,List.filter_append,ey,jW,Nat.min_eq_left io];congr 1;have k:hS g n=ak (d.op=0):=by unfold hS;rw[e]
   by_cases h:d.op=0
   .rw [ag h,List.filter_cons,k,ag (a5 h)];show[(bl d.tx,0+n)]=[tM g n];unfold tM
    grind
   grind
 grind
def UY{g:List Nx}{j i:Nat}(h:((List.range g.length).filter (hS g))[j]? =some i):∃e,g[i]? =some e/\e.op=0/\tM g i=(bl e.tx,i):=by
 have d:=aD h;rw[List.mem_filter,List.mem_range]at d;have k:g[i]? =some (g[i]'d.1):=aY d.1;refine⟨_,k,?_,?_⟩
 .have:=d.2;unfold hS at this
  grind
 .unfold tM
  grind
def H9{g:List Nx}(d:Vg g):g.Nodup:=by
 induction d with
 |nil=>grind
 |@snoc g n e j h k=>
  grind
def ae0{g:List Nx}(h:Vg g){i j:Nat}{d e:Nx}(hi:g[i]? =some d)(w:g[j]? =some e)(k:d.op=0)(q:e.op=0)(x:d.tx=e.tx):i=j:=by have y:=h.vars d (aD hi) k e (aD w) q x;have z:=var_eq (h.ry i d hi) (h.ry j e w) k q x y;exact(List.getElem?_inj (cL.1 hi).1 (H9 h)).1 (by grind)
def ae1{g:List Nx}(z:Vg g){j i:Nat}{d:Nx}(B:((List.range g.length).filter (hS g))[j]? =some i)(hd:g[i]? =some d)(A:d.op=0):lk ((i0 g 0).take j) (bl d.tx)=none:=by
 cases C:lk ((i0 g 0).take j) (bl d.tx)with
 |none=>rfl
 |some G=>
  obtain⟨k,e⟩:=List.mem_iff_getElem?.1 (kg C);rw[Ia,<-List.map_take,GN,List.getElem?_take]at e;split at e
  .rename_i H;cases h:((List.range g.length).filter (hS g))[k]? with
   |none=>grind
   |some F=>
    rw[h]at e;obtain⟨q,w,x,y⟩:=UY h;have e:tM g F=(bl d.tx,G):=by grind
    rw[y]at e;have E:bl q.tx=bl d.tx:=congrArg Prod.fst e;have:=ae0 z w hd x A (by have:=congrArg ba E;rwa[j8,j8]at this);subst this;have D:((List.range g.length).filter (hS g)).Nodup:=List.Nodup.sublist List.filter_sublist List.nodup_range;have:k=j:=(List.getElem?_inj (cL.1 h).1 D).1 (h.trans B.symm);omega
  grind
def abx{w0 w:I}{m:Nat}{es:Array MapEntry}{clock:Nat}{ms:List (ByteArray×V)}(H:O F0 w0 w [.ob m (.map es clock)] [])(y:dH es ms){k:ByteArray}{v:V}(z:hl ms k=none){K:I->Prop}(q:∀d e h,O F0 w0 d [.ob m (.map e h)] []->dH e (ms++[(k,v)])->K d):∃d,Sem.run U (Instr.mapUpdate H0 (.map (some m)) (.string k) v) w=.ok () d/\K d:=by obtain⟨d,e,A,B,C,D,E⟩:=rH Fj (H.ob 0) y k v z;exact⟨d,A,q d e _ (H.fx 0 (.ob m (.map e (clock+1))) rfl (D.mono λF _ j=>by simp[En.ob,j]) B λb x=>.inl x) C⟩
def wV(w:I):ai U ON #[] w λr j=>(∃m e c,r=ad (.map (some m))/\w.heap.size<=m/\j.heap[m]? =some (.map e c)/\dH e ta)/\af w j:=by
 refine Q8.ok (lQ (bM [] gs) λk d=>?_);have h:dH #[] []:=rfl
 iterate 26 (refine abx d h ?_ ?_;kernel_rfl;clear d h;intro k e c d h)
 exact⟨⟨_,e,c,rfl,bw _,d.ob 0,h⟩,d.fr⟩
def vH{a x y z e d h j:En}(k:List.Perm [x,y,z] [d,h,j]):List.Perm [a,x,y,z,e] [a,e,d,h,j]:=((List.perm_append_comm (l₁:=[x,y,z]) (l₂:=[e])).trans (k.cons e)).cons a
abbrev yc(rb e mv d:Nat)(h g:Sl):RC:=⟨rb,h,⟨none,0,0⟩,e,mv,d,g,none,9223372036854775807,0⟩
def zh(w:I)(y g:Sl)(vs:List (List UInt8×Nat))(x:List Nx)(r:Ending)(w':I):Prop:=∃(rb j mv h:Nat) (d e:Array MapEntry) (k q:Nat),r=ad (.pointer (some (aa rb)))/\dH d ta/\dH e (vs.map i1)/\O F0 w w' [bx (yc rb j mv h y g) ⟨0,0,x⟩,.ob j (.map d k),.ob mv (.map e q),.ob h (.map #[] 0)] []
def W5{w:I}{D g:Sl}{l:List Nd}(ao:GP w g l)(hv:Vg (xs l))(hn:l.length<=4096):ai U OM #[D.v,.agg #[g.v]] w (zh w D g (i0 (xs l) 0) (xs l)):=by
 have ah:O F0 w w [] [.gr g l]:=bM _ (by intro ab he;rw[cy.1 he];exact a8.2 ao);have aK:(xs l).length=l.length:=by grind
 have fin:∀{h:I} {A rb q mv C:Nat} {y:Array MapEntry} {B:Nat},dH y ta->O F0 w h [.g A,bx (yc rb q mv C D g) ⟨0,0,xs l⟩,.ob q (.map y B),.ob mv (.map #[] 0),.ob C (.map #[] 0)] [.gr g l]->vB.aV A g (aa rb) h (zh w D g (i0 (xs l) 0) (xs l)):=by
  intro h A rb q mv C y B k d;refine d.g9 (WH (a8.1 (d.getD 0)) (by unfold dO;omega)) ?_;rintro _ L ⟨E,rfl,af,av⟩ e F7;have e:=F7.own (.row bz 1 E ((wo (xs l)).map bC)) af av;have aC:=rj af;rw[H8,List.length_map]at aC;have aH:((List.range (xs l).length).filter (hS (xs l))).length<=4096:=bB (List.length_filter_le _ _) (by grind);have loop:∀(n i:Nat) (F:I) (es:Array MapEntry) (c:Nat),i+n=E.n->dH es (((i0 (xs l) 0).take i).map i1)->O F0 w F [.g A,bx (yc rb q mv C D g) ⟨0,0,xs l⟩,.ob q (.map y B),.ob mv (.map es c),.ob C (.map #[] 0),.row bz 1 E ((wo (xs l)).map bC)] [.gr g l]->
    vB.cq A g (aa rb) E (E.n:Int) (i:Int) F (zh w D g (i0 (xs l) 0) (xs l)):=by
   intro n;induction n with
   |zero=>
    intro i F es c hi M j;have ap:(i0 (xs l) 0).take i=i0 (xs l) 0:=fV (by rw[Ia,List.length_map];omega);rw[ap]at M;exact vB.dF (aQ (a2 io) ⟨rb,q,mv,C,y,es,B,c,rfl,k,M,(j.nn [false,true,true,true,true]).forget [] gs⟩)
   |succ n ih=>
    intro i F es c hi M j;have S:i<((List.range (xs l).length).filter (hS (xs l))).length:=io
    have K:((List.range (xs l).length).filter (hS (xs l)))[i]? =some (((List.range (xs l).length).filter (hS (xs l)))[i]'S):=aY S;generalize((List.range (xs l).length).filter (hS (xs l)))[i]'S=v at K;obtain⟨an,g1,g2,g3⟩:=UY K;have T:v<l.length:=by grind
    have gl:l[v]? =some (l[v]'T):=aY T;generalize l[v]'T=nd at gl;have ar:nd.x=an:=by grind
    subst ar;have aG:((wo (xs l)).map bC)[i]? =some (bC (v:Int)):=by rw[H8,List.map_map,GN,K];rfl
    refine vB.dF (aR (a5 io) (acN (j.get 5) rfl aG λp hp hc=>⟨(v:Int),hc,j.ae λw9 J=>⟨_,J.ld 1 5,eh (a8.1 (J.getD 0)) rfl gl λaL aJ am=>⟨nd.x.tx,am.c5,?_⟩⟩⟩));obtain⟨ag,ac,u1,u2,u3,u4,u5⟩:=rH vf (J.ob 3) M nd.x.tx (.i (v:Int)) (by have:=ae1 hv K g1 g2;have e1:nd.x.tx=ba (bl nd.x.tx):=(j8 _).symm;rw[e1,U0,this];rfl)
    have aj:=J.fx 3 (.ob mv (.map ac (c+1))) rfl (u4.mono λaM _ ab=>by simp[En.ob,ab]) u2 λb Q=>.inl Q;refine⟨ag,u1,H5 J 3 rfl u4,?_⟩;rw[bm _ io];refine ih (i+1) ag ac (c+1) io ?_ aj;have ht:(i0 (xs l) 0)[i]? =some (bl nd.x.tx,v):=by rw[Ia,GN,K,<-g3];rfl
    rw[wg ht,ey];have e2:([(bl nd.x.tx,v)]:List (List UInt8×Nat)).map i1=[(nd.x.tx,.i (v:Int))]:=by show[(ba (bl nd.x.tx),_)]=_;rw[j8]
    grind
  exact⟨_,rfl,loop E.n 0 L #[] 0 io rfl e⟩
 refine vB.aq (ah.ax λA w1 N=>⟨N.ae λW G=>G.g9 (wV W) ?_,N.ae λW G=>lQ G λY H=>⟨H.g9 (wV Y) ?_,lQ H λZ P=>P.g9 (wV Z) ?_⟩,N.ae λW G=>lQ G λY H=>⟨H.g9 (wV Y) ?_,lQ H λZ P=>P.g9 (wV Z) ?_⟩⟩);all_goals rintro _ w5 ⟨q,y,B,rfl,aI,aw,k⟩ _ F5
 all_goals have z:=F5.own (.ob q (.map y B)) aw (λb Q=>by simp[En.ob]at Q;omega)
 .refine ⟨_,rfl,lQ z λh d=>lQ d λL e=>e.nw λF aA j=>?_,lQ z λh d=>lQ d λL e=>e.nw λF aA j=>?_⟩
  .exact fin k (nZ j (vH (List.Perm.refl _)))
  .exact fin k (nZ j (vH ((List.Perm.swap _ _ _).cons _)))
 .exact ⟨_,rfl,lQ z λh d=>d.nw λL az e=>fin k (nZ e (vH (List.Perm.swap _ _ _)))⟩
 .exact ⟨_,rfl,z.nw λh ay d=>fin k (nZ d (vH (List.perm_append_comm (l₁:=[_,_]) (l₂:=[_]))))⟩
 .exact ⟨_,rfl,lQ z λh d=>d.nw λL az e=>fin k (nZ e (vH (List.perm_append_comm (l₁:=[_]) (l₂:=[_,_]))))⟩
 .exact ⟨_,rfl,z.nw λh ay d=>fin k (nZ d (vH (List.reverse_perm [_,_,_]).symm))⟩
inductive Lex:Nat->List UInt8->List aI->Prop
 |fin {i:Nat} {l:List UInt8}:gi (l.drop (bt false l))=.fin->Lex i l [⟨6,[],i+bt false l⟩]
 |tok {i:Nat} {l:List UInt8} {kd:Int} {t:List UInt8} {u:Nat} {L:List aI}:gi (l.drop (bt false l))=.tok kd t u->Lex (i+bt false l+u) ((l.drop (bt false l)).drop u) L->Lex i l (⟨kd,t,i+bt false l⟩::L)
def MK:∀(n i:Nat) (l:List UInt8) (L:List aI),l.length<n->ll n i l=.ok L->Lex i l L
 |0,i,l,L,q,_=>io
 |n+1,i,l,L,q,d=>by
  unfold ll at d;simp only[]at d;have x:=k7 false l;cases e:gi (l.drop (bt false l))with
  |fin=>rw[e]at d;cases d;exact .fin e
  |bad a k=>grind
  |tok z t u=>
   rw[e]at d;simp only[]at d;obtain⟨_,y,w,_⟩:=vt e;rw[h']at w;cases h:ll n (i+bt false l+u) ((l.drop (bt false l)).drop u)with
   |bad a k=>rw[h]at d;cases d
   |ok j=>
    rw[h]at d;cases d;exact .tok e (MK n _ _ j (by grind) h)
def aeD{i:Nat}{l:List UInt8}{L:List aI}(d:Lex i l L):∀n,l.length<n->ll n i l=.ok L:=by
 induction d with
 |fin e=>
  intro n d;obtain⟨n,rfl⟩:∃m,n=m+1:=⟨n - 1,io⟩;unfold ll
  grind
 |@tok i l w t u L e _ j=>
  intro n d;obtain⟨n,rfl⟩:∃m,n=m+1:=⟨n - 1,io⟩;unfold ll;have k:=k7 false l;obtain⟨_,q,h,_⟩:=vt e;rw[h']at h;simp only[e,j n (by grind)];rfl
def xI{l:List UInt8}{L:List aI}(d:tokens l=.ok L):Lex 0 l L/\l.length<=65536:=by
 unfold tokens at d;split at d
 .cases d
 .exact ⟨MK _ _ _ _ (Nat.lt_succ_self _) d,io⟩
def of_lex{l:List UInt8}{L:List aI}(d:Lex 0 l L)(e:l.length<=65536):tokens l=.ok L:=by unfold tokens;rw[ab io];exact aeD d _ (Nat.lt_succ_self _)
def ZB{l:List UInt8}{d:UInt8}{v:Nat}(e:ei l=.ok d v):(∀r,ei (l.take v++r)=.ok d v)/\(10:UInt8)∉l.take v:=by
 have A:∀c:UInt8,cJ 16 c=true->c≠10:=λc=>nO (p:=λc=>cJ 16 c=true->c≠10) (by decide+kernel) c;cases l with
 |nil=>cases e
 |cons c l=>
  unfold ei at e;simp only at e;split at e
  .rename_i j;split at e
   .cases e
   .rename_i B;cases e;refine⟨λr=>?_,?_⟩
    .show ei (d::r)=_;unfold ei
     grind
    .simp only[List.take_succ_cons,List.take_zero,aF,aZ,a7];rintro rfl
     grind
  .rename_i j;have x:(10:UInt8)≠c:=by rintro rfl;grind
   cases l with
   |nil=>cases e
   |cons h l=>
    simp only at e;split at e
    .rename_i k;cases e;refine⟨λr=>?_,?_⟩
     .show ei (c::d::r)=_;unfold ei
      grind
     .have:(10:UInt8)≠d:=by rintro rfl;grind
      grind
    .rename_i k;split at e
     .cases e
     .rename_i C;have D:(10:UInt8)≠h:=by rintro rfl;grind
      cases l with
      |nil=>cases e
      |cons q l=>
       simp only at e;split at e
       .rename_i y;cases l with
        |nil=>cases e
        |cons w l=>
         simp only at e;split at e
         .rename_i z;cases e;refine⟨λr=>?_,?_⟩
          .show ei (c::h::q::w::r)=_;unfold ei
           grind
          grind
         grind
       grind
def RN:∀(n:Nat) (l:List UInt8),l.length<n->∀(t:List UInt8) (u:Nat),qu l=.ok t u->(∀r,qu (l.take u++r)=.ok t u)/\(10:UInt8)∉l.take u
 |0,l,d=>io
 |n+1,[],_=>by intro a h d;unfold qu at d;cases d
 |n+1,c::l,D=>by
  intro t u d;by_cases j:c.toNat=34
  .unfold qu at d;rw[ag j]at d;cases d;refine⟨λr=>?_,?_⟩
   .show qu (c::r)=_;unfold qu
    grind
   .simp only[List.take_succ_cons,List.take_zero,aF,aZ,a7];rintro rfl
    grind
  .rw [yo c l j]at d;cases k:ei (c::l)with
   |bad A C=>grind
   |ok B v=>
    rw[k]at d;simp only at d;have E:=Ak k;obtain⟨x,F⟩:=ZB k;cases q:qu ((c::l).drop v)with
    |bad a h=>rw[q]at d;cases d
    |ok H e=>
     rw[q]at d;cases d;obtain⟨y,G⟩:=RN n _ (by grind) _ _ q;have h:(c::l).take (v+e)=(c::l).take v++((c::l).drop v).take e:=List.take_add;refine⟨λr=>?_,?_⟩
     .rw [h,cU];have w:=x (((c::l).drop v).take e++r);have z:=y r;generalize((c::l).drop v).take e++r=X at *;obtain⟨v,rfl⟩:∃m,v=m+1:=⟨v - 1,io⟩;rw[List.take_succ_cons,gE]at w ⊢;rw[yo _ _ j,w];simp only[List.drop_succ_cons];have hlen:(l.take v).length=v:=by grind
      rw[List.drop_append_of_le_length io,List.drop_of_length_le io,List.nil_append,z];rfl
     grind
def Gp(k:Int)(r:List UInt8):Prop:=(k=0\/k=1\/k=5)\/r=[]\/∃d e,r=d::e/\m4 d=true
def LD(x:UInt8):m4 x=true->bV x=false:=nO (p:=λx=>m4 x=true->bV x=false) (by decide+kernel) x
def ae9(x:UInt8):bV x=true->x≠10:=nO (p:=λx=>bV x=true->x≠10) (by decide+kernel) x
def TN(x:UInt8):hP x=true->bV x=true/\lg x=false/\x.toNat≠59:=nO (p:=λx=>hP x=true->bV x=true/\lg x=false/\x.toNat≠59) (by decide+kernel) x
def Fh:∀(t r:List UInt8),(∀d∈t,bV d=true)->(r=[]\/∃d k,r=d::k/\bV d=false)->(t++r).takeWhile bV=t
 |[],r,_,e=>by
  rcases e with rfl|⟨d,k,rfl,j⟩
  .rfl
  .simp [j]
 |c::t,r,h,e=>by rw[gE,List.takeWhile_cons,ag (h c gs),Fh t r (λd j=>h d (by grind)) e]
def M6(p:UInt8->Bool):∀l:List UInt8,l.take (l.takeWhile p).length=l.takeWhile p
 |[]=>rfl
 |c::l=>by
  rw[List.takeWhile_cons];split
  .rw [cC,List.take_succ_cons,M6 p l]
  .rfl
def M5(p:UInt8->Bool):∀(l:List UInt8),∀e∈l.takeWhile p,p e=true
 |[],e,d=>by simp at d
 |c::l,e,d=>by
  rw[List.takeWhile_cons]at d;split at d
  .rcases aF.1 d with rfl|d
   .omega
   .exact M5 p l e d
  grind
structure Iu(l:List UInt8)(k:Int)(t:List UInt8)(u:Nat):Prop where
 loc:∀r,Gp k r->gi (l.take u++r)=.tok k t u
 ten:(10:UInt8)∉l.take u
 tail:Gp k (l.drop u)
 word:(k=2\/k=3\/k=4)->l.take u=t
 kind:k=0/\t=[]\/k=1/\t=[]\/k=2\/k=3\/k=4\/k=5/\t.length<u
 skip:∀r,bt false (l.take u++r)=0
def Qf{l:List UInt8}{k:Int}{t:List UInt8}{u:Nat}(d:gi l=.tok k t u):Iu l k t u:=by
 cases l with
 |nil=>unfold gi at d;cases d
 |cons c l=>
  unfold gi at d;simp only at d;split at d
  .rename_i A;cases d;have q:c=40:=UInt8.toNat_inj.1 A;subst q;exact⟨λr _=>rfl,gs,.inl (.inl rfl),io,.inl ⟨rfl,rfl⟩,λr=>rfl⟩
  .rename_i A;split at d
   .rename_i B;cases d;have q:c=41:=UInt8.toNat_inj.1 B;subst q;exact⟨λr _=>rfl,gs,.inl (.inr (.inl rfl)),io,.inr (.inl ⟨rfl,rfl⟩),λr=>rfl⟩
   .rename_i B;split at d
    .rename_i z;have q:c=34:=UInt8.toNat_inj.1 z;subst q;split at d
     .rename_i t' E J;cases d;obtain⟨Z,q2⟩:=RN _ l (Nat.lt_succ_self _) _ _ J;have q3:=GQ _ l (Nat.lt_succ_self _) _ _ J;have j:(34::l).take (1+E)=34::l.take E:=by grind
      refine⟨λr _=>?_,?_,.inl (.inr (.inr rfl)),io,.inr (.inr (.inr (.inr (.inr ⟨rfl,io⟩)))),λr=>?_⟩
      .rw [j];show gi (34::(l.take E++r))=_;unfold gi
       grind
      .grind
      .rw [j];rfl
     grind
    .rename_i z;split at d
     .rename_i K;obtain⟨P,S,W⟩:=TN c K;have x:(c::l).take ((c::l).takeWhile bV).length=(c::l).takeWhile bV:=M6 _ _;have F:=M5 bV (c::l);have G:(c::l).takeWhile bV=c::l.takeWhile bV:=by rw[List.takeWhile_cons,ag P]
      have main:∀y:Int,fH ((c::l).takeWhile bV)=(y,0)->Gp y ((c::l).drop ((c::l).takeWhile bV).length)->Iu (c::l) y ((c::l).takeWhile bV) ((c::l).takeWhile bV).length:=by
       intro y h O;have Q:=Lm h;refine⟨λr M=>?_,?_,O,λ_=>x,io,λr=>?_⟩
       .have N:r=[]\/∃e w,r=e::w/\m4 e=true:=M.resolve_left io;have L:=Fh _ r F (N.imp id λ⟨e,w,j,D⟩=>⟨e,w,j,LD e D⟩);rw[x];generalize(c::l).takeWhile bV=T at *;subst G;rw[gE]at L ⊢;unfold gi;simp only;rw[ab A,ab B,ab z,ag K,L,h]
        grind
       .rw [x];exact λd=>ae9 _ (F _ d) rfl
       .rw [x,G];show bt false (c::_)=0;unfold bt
        grind
      cases h:fH ((c::l).takeWhile bV)with
      |mk Y j=>
       rw[h]at d;simp only at d;split at d
       .cases d
       .rename_i H;simp only[ne_eq,Decidable.not_not]at H;subst H;split at d
        .rename_i C;cases d;exact main _ h (.inr (.inl C))
        .rename_i e w C;split at d
         .rename_i D;cases d;exact main _ h (.inr (.inr ⟨e,w,C,D⟩))
         grind
     grind
def Qe{l:List UInt8}(d:gi l=.fin):l=[]:=by
 cases l with
 |nil=>rfl
 |cons c l=>
  exfalso;unfold gi at d
  grind
def Kt{l:List UInt8}(d:l.drop (bt false l)=[]):bt false l=l.length:=by have e:=k7 false l;have h:=List.drop_eq_nil_iff.1 d;omega
def MI{i:Nat}{l:List UInt8}{L:List aI}(h:Lex i l L):(∃d,L=d++[⟨6,[],i+l.length⟩])/\(∀t∈L,i<=t.a6)/\List.Pairwise (λa b:aI=>a.a6<b.a6) L:=by
 induction h with
 |@fin i l e=>
  rw[Kt (Qe e)];exact⟨⟨[],rfl⟩,gs,gs⟩
 |@tok i l w t u L e _ q=>
  have z:=k7 false l;obtain⟨_,A,k,_⟩:=vt e;rw[h']at k;obtain⟨⟨d,j⟩,x,y⟩:=q;refine⟨⟨⟨w,t,i+bt false l⟩::d,?_⟩,?_,?_⟩
  .rw [j];simp only[h',gE];rw[show i+bt false l+u+(l.length - bt false l - u)=i+l.length from by omega]
  .grind
  .rw [List.pairwise_cons]
   grind
def tu(k:Nat)(t:aI):aI:=⟨t.kind,t.text,t.a6+k⟩
def MJ{i:Nat}{l:List UInt8}{L:List aI}(e:Lex i l L)(k:Nat):Lex (i+k) l (L.map (tu k)):=by
 induction e with
 |@fin i l d=>
  have:=Lex.fin (i:=i+k) d;rw[lU,List.map_nil,tu]
  grind
 |@tok i l j t u L d _ h=>
  rw[lU,tu];simp only;rw[show i+bt false l+k=i+k+bt false l from by omega];refine .tok d ?_
  grind
def Hs:∀(l:List UInt8) (b:Bool) (r:List UInt8),bt b l=l.length->bt b (l++10::r)=l.length+1+bt false r
 |[],b,r,_=>by
  cases b
  .show bt false (10::r)=0+1+_;simp[bt,lg]
  .show bt true (10::r)=0+1+_;simp[bt]
 |c::l,b,r,d=>by
  have e:=Hs l false r;have h:=Hs l true r;have j:=k7 false l;have k:=k7 true l;cases b
  .rw [gE];simp only[bt,cC]at d ⊢
   grind
  .rw [gE];simp only[bt,cC]at d ⊢
   grind
def Ht:∀(l:List UInt8) (b:Bool) (r:List UInt8),bt b l<l.length->bt b (l++r)=bt b l
 |[],b,r,d=>by grind
 |c::l,b,r,d=>by
  have e:=Ht l false r;have h:=Ht l true r;cases b
  .rw [gE];simp only[bt,cC]at d ⊢
   grind
  .rw [gE];simp only[bt,cC]at d ⊢
   grind
def aad{i:Nat}{l:List UInt8}{A:List aI}(d:Lex i l A){j:Nat}{r:List UInt8}{h:List aI}(G:Lex j r h)(M:j=i+l.length+1):Lex i (l++10::r) (A.dropLast++h):=by
 induction d with
 |@fin i l e=>
  have k:=Kt (Qe e);have C:=Hs l false r k;have key:∀n,bt false (l++10::r)=l.length+1+n->(l++10::r).drop (bt false (l++10::r))=r.drop n:=by intro n e;rw[e,<-List.drop_drop,<-List.drop_drop,Bn];rfl
  have q:=key _ C;have w:i+bt false (l++10::r)=j+bt false r:=io
  show Lex i _ h;cases G with
  |fin y=>rw[<-w];exact .fin (by grind)
  |tok y x=>rw[<-w];exact .tok (by rw[q];exact y) (by grind)
 |@tok i l Q t u B e x P=>
  have N:=k7 false l;obtain⟨_,O,H,_⟩:=vt e;rw[h']at H;have k:=Ht l false (10::r) io;have z:=Qf e;have q:(l++10::r).drop (bt false (l++10::r))=l.drop (bt false l)++10::r:=by grind
  have D:l.drop (bt false l)++10::r=(l.drop (bt false l)).take u++((l.drop (bt false l)).drop u++10::r):=by rw[<-cU,List.take_append_drop]
  obtain⟨⟨K,L⟩,_⟩:=MI x;have F:B≠[]:=by grind
  rw[List.dropLast_cons_of_ne_nil F,gE,<-k];refine .tok (u:=u) ?_ ?_
  .rw [q,D];refine z.loc _ ?_;rcases z.tail with d|d|⟨J,S,d,E⟩
   .exact .inl d
   .rw [d];exact .inr (.inr ⟨10,r,rfl,dl⟩)
   .rw [d];exact .inr (.inr ⟨J,_,rfl,E⟩)
  grind
structure wK(k:Int)(t:List UInt8):Prop where
 kd:0<=k/\k<=5
 i:k=4->1<=t.length/\t.length<=13/\jz 10 t
 n:k=3->∃d,(t=35::98::d/\1<=d.length/\d.length<=64/\jz 2 d)\/(t=35::120::d/\1<=d.length/\d.length<=16/\jz 16 d)
def D3{b:Nat}(h:b=2\/b=10\/b=16){l:List UInt8}(e:l.all (cJ b)=true):jz b l:=λc j=>by
 have d:=dS.1 e c j;unfold cJ at d;unfold eS;rcases h with rfl|rfl|rfl
 .rw [ag rfl]at d;simp at d;split<;>omega
 .rw [ab dl,ab dl]at d;simp at d;split<;>omega
 .rw [ab dl,ag rfl]at d;simp at d;split<;>omega
def H2{c:UInt8}{n:Nat}(d:c.toNat=n)(e:n<256):c=cX n:=by apply UInt8.toNat.inj;rw[d,UInt8.toNat_ofNat'];exact(Nat.mod_eq_of_lt e).symm
def Ll{t:List UInt8}{k:Int}(d:fH t=(k,0)):wK k t:=by
 unfold fH at d;split at d
 .cases d
 .rename_i c l;split at d
  .split at d
   .cases d
   .split at d
    .cases d
    .cases d;exact⟨io,λd=>(by cases d),λd=>(by cases d)⟩
  .split at d
   .split at d
    .cases d
    .rename_i e;split at d
     .cases d
     .rename_i x;cases d;refine⟨io,λ_=>⟨gs,io,D3 (.inr (.inl rfl)) ?_⟩,λd=>(by cases d)⟩;simp only[Bool.or_eq_true,not_or,Bool.not_eq_true,Bool.not_eq_false']at e;exact e.1
   .rename_i h;have h:c=35:=H2 (n:=35) io io;unfold uV at d;split at d
    .rename_i b q r;split at d
     .rename_i j;split at d
      .rename_i e;split at d
       .cases d
       .rename_i w;cases d;refine⟨io,λd=>(by cases d),λ_=>⟨q::r,.inl ⟨by rw[h,H2 j io];rfl,gs,io,D3 (.inl rfl) e⟩⟩⟩
      .cases d
     .split at d
      .rename_i j;split at d
       .rename_i e;split at d
        .cases d
        .rename_i w;cases d;refine⟨io,λd=>(by cases d),λ_=>⟨q::r,.inr ⟨by rw[h,H2 j io];rfl,gs,io,D3 (.inr (.inr rfl)) e⟩⟩⟩
       .cases d
      .cases d
    .cases d
def Qg{l:List UInt8}{k:Int}{t:List UInt8}{u:Nat}(d:gi l=.tok k t u):wK k t:=by
 have h:∀(k:Int),(k=0\/k=1\/k=5)->∀t,wK k t:=λk x t=>⟨io,λd=>io,λd=>io⟩;cases l with
 |nil=>unfold gi at d;cases d
 |cons c l=>
  unfold gi at d;simp only[]at d;split at d
  .cases d;exact h 0 (.inl rfl) _
  split at d
  .cases d;exact h 1 (.inr (.inl rfl)) _
  split at d
  .split at d
   .cases d;exact h 5 (.inr (.inr rfl)) _
   .cases d
  split at d
  .generalize j:fH ((c::l).takeWhile bV)=q at d;obtain⟨y,w⟩:=q;split at d
   .cases d
   .rename_i e;have e:w=0:=Classical.byContradiction e;subst e;split at d
    .cases d;exact Ll j
    .split at d
     .cases d;exact Ll j
     .cases d
  .cases d
def MH{i:Nat}{l:List UInt8}{L:List aI}(d:Lex i l L):L.length<=l.length+1/\∀t∈L,(t.kind=6\/wK t.kind t.text)/\t.text.length<=l.length/\t.a6<=i+l.length:=by
 induction d with
 |@fin i l h=>
  have w:=k7 false l;exact⟨gs,λt x=>by rw[cy.1 x];exact⟨.inl rfl,gs,by show i+bt false l<=_;omega⟩⟩
 |@tok i l C t u L h _ z=>
  have w:=k7 false l;obtain⟨_,B,y,_⟩:=vt h;rw[h']at y;obtain⟨q,k⟩:=z;simp only[h']at q k;refine⟨by rw[cC];omega,λA j=>?_⟩;rcases aF.1 j with rfl|j
  .have e:=Qf h;refine⟨.inr (Qg h),?_,by show i+bt false l<=_;omega⟩;show t.length<=l.length;rcases e.kind with⟨_,rfl⟩|⟨_,rfl⟩|d|d|d|⟨_,d⟩
   .simp
   .simp
   .have:=congrArg List.length (e.word (.inl d));rw[jW,h']at this;omega
   .have:=congrArg List.length (e.word (.inr (.inl d)));rw[jW,h']at this;omega
   .have:=congrArg List.length (e.word (.inr (.inr d)));rw[jW,h']at this;omega
   .omega
  .obtain ⟨a,b,c⟩:=k A j;exact⟨a,io,io⟩
def aae{i:Nat}{l:List UInt8}{L:List aI}(q:Lex i l L):∃e t,L=e++[t]/\t.kind=6/\∀h∈e,h.kind≠6:=by
 induction q with
 |fin j=>exact⟨[],_,rfl,rfl,λh d=>(by cases d)⟩
 |@tok i l z t u L j _ y=>
  obtain⟨e,A,k,w,x⟩:=y;refine⟨_::e,A,by rw[k];rfl,w,λh d=>?_⟩;rcases aF.1 d with rfl|d
  .have:=(Qg j).kd;show z≠6;omega
  .exact x h d
def yT{l:List UInt8}{T:List aI}(d:tokens l=.ok T):hX T:=by
 obtain⟨j,x⟩:=xI d;obtain⟨y,k⟩:=MH j;have h:∀t∈T,wK t.kind t.text\/t.kind=6:=λt e=>(k t e).1.symm;refine⟨aae j,λt e=>?_,λt e w=>?_,λt e q=>?_,io,λt e=>?_⟩
 .rcases h t e with d|d
  .have:=d.kd;omega
  .omega
 .rcases h t e with d|d
  .exact d.i w
  .omega
 .rcases h t e with d|d
  .exact d.n q
  .omega
 .obtain ⟨_,a,b⟩:=k t e;exact⟨io,io⟩
def NE{α:Type}(x:PR α):Prop:=∀d p,x=.er d p->d≠0
def gW{α:Type}{a:α}{s:aH}:NE (.ok a s):=λ_ _ d=>(by cases d)
def jQ{α:Type}{e:Int}{p:Nat}(d:e≠0):NE (α:=α) (.er e p):=λ_ _ h=>(by grind)
def vp{α:Type}(t:aI):NE (α:=α) (kA t):=jQ io
def eY{α β:Type}{x:PR α}{f:α->aH->PR β}(h:NE x)(e:∀a s,NE (f a s)):NE (x.b f):=by
 cases x with
 |ok a s=>exact e a s
 |er d p=>exact jQ (h d p rfl)
def jg(T:List aI)(k:Int)(s:aH):NE (bL T k s):=by
 unfold bL;split
 .exact gW
 .exact vp _
def oR(T:List aI)(s:aH):NE (dd T s):=eY (jg _ _ _) λ_ _=>gW
def Ga(T:List aI)(s:aH):NE (iA T s):=by
 refine eY (jg _ _ _) λt s=>eY (jg _ _ _) λd s=>?_;split
 .exact vp _
 .refine eY ?_ λe s=>eY (oR _ _) λn s=>eY (jg _ _ _) λ_ s=>?_
  .split
   .exact oR _ _
   .exact gW
  .split
   .exact gW
   .exact jQ dl
def aa1(T:List aI)(s:aH):NE (rs T s):=by
 refine eY (jg _ _ _) λt s=>?_;split
 .exact gW
 .rename_i d;exact jQ d
def AX(s:aH)(n:Nx)(t:aI):NE (eu s n t):=by
 unfold eu;split
 .exact gW
 .rename_i d;exact jQ d
def F'{tm:aH->PR Nat}(d:∀s,NE (tm s)):∀(n:Nat) (s:aH),NE (gy tm n s)
 |0,_=>gW
 |n+1,s=>eY (d s) λ_ s=>eY (F' d n s) λ_ _=>gW
def aa0(T:List aI)(w:List UInt8)(s:aH):NE (h4 T w s):=by
 unfold h4;split
 .exact eY (oR _ _) λ_ _=>eY (oR _ _) λ_ _=>gW
 split
 .exact eY (Ga _ _) λ_ _=>gW
 split
 .exact eY (oR _ _) λ_ _=>eY (oR _ _) λ_ _=>gW
 split
 .exact eY (oR _ _) λ_ _=>gW
 split
 .exact eY (oR _ _) λ_ _=>gW
 split
 .exact eY (oR _ _) λ_ _=>gW
 split
 .exact eY (aa1 _ _) λ_ _=>gW
 .exact gW
def P6{tm:bW->aH->PR Nat}(d:∀E s,NE (tm E s))(E:bW)(m:PM)(az:List Int)(s:aH):NE (hY tm E m az s):=eY (d _ _) λ_ _=>gW
def aa2{tm:bW->aH->PR Nat}(d:∀E s,NE (tm E s))(E:bW)(s:aH):NE (iE tm E s):=by
 unfold iE;dsimp only;split
 .exact vp _
 split
 .exact jQ dl
 split
 .unfold kZ;split
  .exact gW
  split
  .exact gW
  split
  .split
   .exact P6 d _ _ _ _
   .exact jQ dl
  .exact jQ dl
 split
 .exact AX _ _ _
 split
 .exact AX _ _ _
 unfold me;split
 .exact jQ dl
 refine eY (jg _ _ _) λe s=>?_;split
 .exact eY (eY (aa0 _ _ _) λ_ _=>eY (F' (λs=>d _ s) _ _) λ_ _=>gW) λ_ _=>eY (jg _ _ _) λ_ _=>AX _ _ _
 .unfold pG;split
  .exact jQ dl
  .refine eY (F' (λs=>d _ s) _ _) λ_ _=>eY (jg _ _ _) λ_ _=>?_;split
   .exact P6 d _ _ _ _
   .exact jQ dl
def Qa:∀(f:Nat) (E:bW) (s:aH),NE (dE f E s)
 |0,_,_=>jQ dl
 |f+1,E,s=>aa2 (Qa f) E s
def rQ(x:SR):Prop:=∀d p,x=.er d p->d≠0
def AY{y:bJ}:rQ (.ok y):=λ_ _ d=>(by cases d)
def s4{e:Int}{p:Nat}(d:e≠0):rQ (.er e p):=λ_ _ h=>(by grind)
def k0{α:Type}{x:PR α}{y:bJ}{f:α->bJ->SR}(h:NE x)(e:∀a y,rQ (f a y)):rQ (x.s y f):=by
 cases x with
 |ok a s=>exact e a _
 |er d p=>exact s4 (h d p rfl)
def P7(T:List aI)(x:bJ):NE (vq T x):=by
 refine eY (jg _ _ _) λt s=>?_;split
 .exact jQ dl
 .exact gW
def P8(T:List aI):∀(f:Nat) (ps:List (List UInt8×aM)) (s:aH),NE (kj T f ps s)
 |0,_,_=>jQ dl
 |f+1,ps,s=>by
  unfold kj;dsimp only;split
  .exact gW
  split
  .exact vp _
  refine eY (jg _ _ _) λp s=>?_;split
  .exact jQ dl
  .exact eY (Ga _ _) λ_ _=>eY (jg _ _ _) λ_ _=>P8 T f _ _
def P'(T:List aI):∀(f d:Nat) (s:aH),NE (k8 T f d s)
 |0,_,_=>jQ dl
 |f+1,d,s=>by
  unfold k8;dsimp only;split
  .exact vp _
  split
  .exact vp _
  generalize(if(aL T s.p).kind=0 then d+1 else if(aL T s.p).kind=1 then d - 1 else d)=d';split
  .exact gW
  .exact P' T f _ _
def aaZ(T:List aI)(x:bJ):rQ (kL T x):=by
 have fin:∀(c:fh) (x:bJ),rQ ((bL T 1 x.s).s x λ_ x=>.ok {x with cs:=x.cs++[c]}):=λc x=>k0 (jg _ _ _) λ_ _=>AY;refine k0 (jg _ _ _) λd x=>?_;dsimp only;split
 .exact k0 (P7 _ _) λ_ _=>k0 (Ga _ _) λ_ _=>k0 (jg _ _ _) λ_ _=>k0 (AX _ _ _) λ_ _=>AY
 split
 .refine k0 (jg _ _ _) λ_ _=>k0 (P7 _ _) λ_ _=>?_;split
  .exact s4 dl
  .exact k0 (P8 _ _ _ _) λ_ _=>k0 (P' _ _ _ _) λ_ _=>k0 (jg _ _ _) λ_ _=>AY
 split
 .refine k0 (jg _ _ _) λ_ _=>k0 (eY (Qa _ _ _) λ_ _=>?_) λ_ _=>fin _ _;split
  .exact gW
  .exact jQ dl
 split
 .exact k0 (jg _ _ _) λ_ _=>fin _ _
 split
 .exact fin _ _
 split
 .exact fin _ _
 split
 .refine k0 (oR _ _) λ_ _=>?_;split
  .exact s4 dl
  .exact fin _ _
 .exact s4 dl
def P9(T:List aI):∀(f:Nat) (x:bJ),rQ (hM T f x)
 |0,_=>s4 dl
 |f+1,x=>by
  unfold hM;dsimp only;split
  .exact AY
  split
  .cases e:kL T {x with s:=cH (aL T x.s.p) x.s}with
   |ok h=>exact P9 T f h
   |er d p=>exact s4 (aaZ T _ d p e)
  .exact s4 dl
def ac4{M:Nat->Prop}{w0 w y A w':I}{L B D D':List En}(H:O M w0 w L D)(J:af w y)(z:y.heap.size=w.heap.size+2)(x:O (·∈L.flatMap (·.fp)) y A B (D++D'))(K:∀e∈D',∀b∈e.fp,y.heap.size<=b\/∃g∈D,b∈g.fp)(f:Fr (λb=>b=w.heap.size\/b=w.heap.size+1) A w'):O M w0 w' B (D++D'):=by
 have W:=H.fr.size;have S:∀h∈B,∀b∈h.fp,¬(b=w.heap.size\/b=w.heap.size+1):=λh q b d N=>by
  rcases x.new h q b d with j|j
  .omega
  .have:=H.tc b j;omega
 have T:∀e∈D++D',∀b∈e.fp,¬(b=w.heap.size\/b=w.heap.size+1):=λe k b d N=>by
  rcases aP.1 k with k|k
  .have:=e.lt w (H.rd e k) b d;omega
  .rcases K e k b d with j|⟨g,Q,j⟩
   .omega
   .have:=g.lt w (H.rd g Q) b j;omega
 refine⟨((H.fr.gp J).trans x.fr λb d F=>?_).trans f λb d F=>io,λh q=>h.st A w' (λb d E=>f.cw b E (S h q b d)) (x.own h q),λe k=>e.st A w' (λb d E=>f.cw b E (T e k b d)) (x.rd e k),λh q b d=>?_,x.nd,x.dj⟩
 .obtain ⟨h,q,C⟩:=ck.1 F;exact(H.new h q b C).resolve_left io
 .rcases x.new h q b d with j|j
  .omega
  .obtain ⟨G,P,C⟩:=ck.1 j;exact H.new G P b C
def _root_.Go.W.O.join{M:Nat->Prop}{w0 w w':I}{L D A B:List En}(H:O M w0 w L D)(q:O F0 w w' (A++B) []):O M w0 w' (L++A) (D++B):=by
 have J:∀e:En,e.P w->e.P w':=λe Q=>e.st w w' (λh _ N=>q.fr.cw h N id) Q;have z:∀e∈A++B,∀h∈e.fp,w.heap.size<=h:=λe d h j=>(q.new e d h j).resolve_right id;have E:=q.nd;rw[dK,ff]at E;refine⟨H.fr.gp q.fr,λe d=>?_,λe d=>?_,λe d h j=>?_,?_,λx k h j e d y=>?_⟩
 .rcases aP.1 d with d|d
  .exact J e (H.own e d)
  .exact q.own e (cm _ d)
 .rcases aP.1 d with d|d
  .exact J e (H.rd e d)
  .exact q.own e (da _ d)
 .rcases aP.1 d with d|d
  .exact H.new e d h j
  .exact .inl (bB H.fr.size (z e (cm _ d) h j))
 .rw [dK,ff];refine⟨H.nd,E.1,λa K b C=>?_⟩;obtain⟨e,d,C⟩:=ck.1 C;have F:=z e (cm _ d) b C;have G:=H.tc a K;omega
 .rcases aP.1 k with k|k
  .rcases aP.1 d with d|d
   .exact H.dj x k h j e d y
   .have F:=z e (cm _ d) h y;have G:=x.lt w (H.rd x k) h j;omega
  .rcases aP.1 d with d|d
   .have F:=z x (da _ k) h j;have G:=H.tc h (ck.2 ⟨e,d,y⟩);omega
   .exact E.2.2 h (ck.2 ⟨e,d,y⟩) h (ck.2 ⟨x,k,j⟩) rfl
def Iw(w:I)(x:SR):aC:=λr d=>match x with
 |.ok k=>(∃(h:Sl) (j:List Nd) (e:Sl),r=ad (.tuple #[.agg #[h.v,e.v],.i 0,.i 0])/\GP d h j/\xs j=k.s.g/\aK d ky 7 e (cZ k.cs)/\(∀b∈(En.gr h j).fp,w.heap.size<=b\/b∈db.fp)/\(∀b∈aG e,w.heap.size<=b))/\af w d
 |.er q p=>r=ad (.tuple #[.agg #[.slice none 0 0,.slice none 0 0],.i (p:Int),.i q])/\af w d
def Rs{w w':I}{x:SR}{e:Int}{p:Nat}(d:x=.er e p)(f:af w w'):Iw w x (ad (.tuple #[.agg #[.slice none 0 0,.slice none 0 0],.i (p:Int),.i e])) w':=by subst d;exact⟨rfl,f⟩
def LN(w:I):GP w ⟨none,0,0⟩ []:=⟨bh.nil 9 w,λe d=>by cases d⟩
def Ds{N:Nat}{w:I}{s:ByteArray}(hk:db.P w)(hs:s.size<=1000000)(hX:∀j,tokens (bl s)=.ok j->ow N j):
  ai U xY #[.string s] w (Iw w (jT (bl s))):=by
 have aw:O F0 w w [] [.gr ⟨none,0,0⟩ [],db]:=bM _ (by
  intro B he;simp only[aF,aZ,a7]at he;rcases he with rfl|rfl
  .exact a8.2 (LN w)
  .exact hk)
 have E:jT (bl s)=match tokens (bl s)with
  |.bad a B=>.er B a
  |.ok j=>hM j (j.length+1) ⟨⟨0,0,[]⟩,[],[],[]⟩:=rfl
 refine QZ.aq (aw.ax λb2 w1 H1=>?_);cases K:tokens (bl s)with
 |bad a B=>
  rw[K]at E;refine H1.av (A:=λr S=>r=ad (.tuple #[.slice none 0 0,.int .i64 (a:Int),.int .i64 B])/\B≠0) ((Mt s hs w1).mono λr S hp=>by rw[K]at hp;obtain⟨h1,h2,h3⟩:=hp;exact⟨⟨h1,h2⟩,h3⟩) ?_
  rintro _ w3 ⟨rfl,h0⟩ W;exact⟨⟨none,0,0⟩,_,_,rfl,ct (λ_=>W.ae λw4 Y=>Rs E Y.fr) (λh=>absurd h h0)⟩
 |ok j=>
  rw[K]at E;have hX:=hX j K;have hT:=yT K;refine H1.g9 (A:=λr S=>∃sl:Sl,r=ad (.tuple #[sl.v,.int .i64 0,.int .i64 0])/\aK S du 3 sl (l1 j)/\∀b∈aG sl,w1.heap.size<=b) ((Mt s hs w1).mono λr S hp=>by rw[K]at hp;obtain⟨sl,h1,h2,h3,h4⟩:=hp;exact⟨⟨sl,h1,h2,h4⟩,h3⟩) ?_
  rintro _ w3 ⟨tk,rfl,ho,am⟩ _ F3;have W:=F3.rd (.a3 3 tk (l1 j)) ho.a3 (o1 am);refine⟨_,_,_,rfl,aQ rfl (W.av (A:=zh w3 tk ⟨none,0,0⟩ [] []) ((W5 (l:=[]) (LN w3) .nil gs).mono λr S h=>⟨h,by obtain⟨_,_,_,_,_,_,_,_,_,_,_,h⟩:=h;exact h.fr⟩) ?_)⟩;rintro _ w4 ⟨ac,mo,mv,mm,eo,ev,co,cv,rfl,aH,aL,HX⟩ _;have ay:O F0 w3 w4 ([bx (yc ac mo mv mm tk ⟨none,0,0⟩) ⟨0,0,[]⟩,.ob mv (.map ev cv),.ob mm (.map #[] 0)]++[.ob mo (.map eo co)]) []:=nZ HX (.cons _ (List.perm_append_singleton _ [_,_]).symm);have Y:=W.join ay;have Y:=Y.h8 ky 7;obtain⟨z,hY⟩:∃z:mS,z=⟨yc ac mo mv mm tk ⟨none,0,0⟩,[],[],ev,cv,#[],0⟩:=⟨_,rfl⟩;obtain⟨q,L⟩:∃q:bJ,q=⟨⟨0,0,[]⟩,[],[],[]⟩:=⟨_,rfl⟩;obtain⟨G,hD⟩:∃G,G=[En.gr ⟨none,0,0⟩ [],db,.a3 3 tk (l1 j),.ob mo (.map eo co)]:=⟨_,rfl⟩;have ah:∀ag∈G,∀b∈ag.fp,w.heap.size<=b\/b∈db.fp:=λag C b k=>by
   rw[hD]at C;simp only[aF,aZ,a7]at C;rcases C with rfl|rfl|rfl|rfl
   .cases k
   .exact .inr k
   .exact .inl (bB H1.fr.size (o1 am b k))
   .exact .inl (bB W.fr.size ((HX.new _ (aD (i:=1) rfl) b k).resolve_right id))
  have F:O F0 w w4 (cD z q++[.g b2]) G:=by rw[hY,L,hD];exact nZ Y (List.perm_append_comm (l₁:=[_]) (l₂:=[_,_,_,_]))
  have aI:0<j.length:=by obtain⟨aN,t,B,_⟩:=hT.e;rw[B];simp
  have hO:e5 (gN j q) q.s.g:=by rw[L];exact⟨hT,λab y=>(by cases y),λab y=>(by cases y),λab y=>(by cases y)⟩
  have Z:hv j z q G:=by rw[L]at hO;rw[hY,L,hD];exact⟨⟨aD (i:=2) rfl,hT⟩,⟨eo,co,aD (i:=3) rfl,aH⟩,aD (i:=1) rfl,⟨aD (i:=0) rfl,rfl,.nil,gs⟩,λab y=>(by cases y),rfl,aL,rfl,rfl,rfl,rfl,hO,aI,gs,gs,gs⟩
  have hZ:iK j q:=⟨Z.p,Z.tm,Z.gr.v,Z.ok,λc hc=>by rw[L]at hc;cases hc⟩;have E:jT (bl s)=hM j (j.length+1) q:=by rw[L];exact E
  have an:z.X.rb=ac:=by rw[hY]
  generalize y:hM j (j.length+1) q=ab at E;have aJ:=abR (f:=FN) (first:=#[.pointer (some (aa ac))]) (qU:=#[]) (by kernel_rfl) (p:=aa ac) (λb k=>F.tc b (by rw[dK];exact cm _ k)) (M:=(·∈(cD z q).flatMap (·.fp))) (Q:=λw1=>i3 j z q G w1 ab) λw9 J z9=>by
   have:=acp hX Z hZ (Av (F.cA J));rw[y,an]at this;refine this.mono λr S h=>?_;refine⟨?_,?_,h⟩
   .unfold i3 at h;split at h
    .exact .inl h.1
    .exact .inr ⟨_,_,h.1⟩
   .unfold i3 at h;split at h
    .obtain ⟨_,H,ap,_,h,_⟩:=h;exact h.fr
    .exact h.2
  have aj:=F.nd;rw[dK,ff]at aj;refine⟨_,rfl,(·∈(cD z q).flatMap (·.fp)),λb k hm=>aj.2.2 b hm b (ck.2 ⟨.g b,by rw[cy.1 k];simp,by simp[En.g]⟩) rfl,aJ.mono ?_⟩;rintro r ao ⟨w9,aR,J,z9,f10,aA⟩;rcases aA with⟨rfl,D⟩|⟨B,az,rfl,D⟩
  .unfold i3 at D;split at D
   .rename_i aS;obtain⟨_,H,ap,q1,q2,q3,q4⟩:=D;have T2:=ac4 (Av F) J z9 q2 q4 f10;have hz:=J.size;have T3:=Aw F T2 (λag C b k=>(q4 ag C b k).imp (λh=>io) id);rw[<-an,<-q1];refine⟨T2.fr,_,_,rfl,aQ rfl (T3.ae λaM T=>⟨H.X.g,by rw[add_add];exact T.ld 0 2,H.X.cs,T.ld 0 3,T.ae λaO af=>?_⟩)⟩;rw[E];refine⟨⟨H.X.g,H.l,H.X.cs,rfl,a8.1 (af.rd _ q3.gr.d),q3.gr.x,af.get 3,λb k=>?_,λb k=>?_⟩,af.fr⟩
    .rcases aP.1 q3.gr.d with C|C
     .exact ah _ C b k
     .rcases q4 _ C b k with h|⟨g,hg,h⟩
      .exact .inl (by have:=F.fr.size;omega)
      .exact ah g hg b h
    .exact (af.new _ (aD (i:=3) rfl) b k).resolve_right id
   .obtain ⟨h,_⟩:=D;cases h
  .unfold i3 at D;split at D
   .obtain ⟨h,_⟩:=D;cases h
   .rename_i e' p';obtain⟨h,q6⟩:=D;have aC:e'≠0:=P9 j (j.length+1) q e' p' y;have he:B=e'/\az=p':=by simp only[Ending.panicked.injEq,List.cons.injEq,PanicEntry.mk.injEq,Value.iface.injEq,and_true,true_and]at h;simp at h;omega
    rw[he.1,he.2];have f8:Fr (·∈(cD z q).flatMap (·.fp)) w4 ao:=((J.A2.trans q6 λ_ _ h=>h).trans f10 λb k hm=>by have:=J.size;omega);have ar:O F0 w ao [.g b2] []:=Aw (F.forget [] gs) (CG:=[]) (D':=[]) ⟨f8,gs,gs,gs,gs,gs⟩ gs;exact⟨f8,_,_,rfl,ct (λ_=>ar.ae λaM T=>Rs E T.fr) (λh=>absurd h aC)⟩
set_option maxHeartbeats 2000000
namespace xl
def L0:=bq (ay U Tryz.f10 [(6,lr 10)] []) [0,1,1,1,2] [(0,.s),(1,.s),(5,.I)]
abbrev t1:=bp L0
def b':=bE t1 L0
def ok:=aA t1 N' [.s,.s]
end xl
namespace KE
abbrev S0:=ah (ay U Tryz.f15 [] []) [0,1,1,1,1] []
abbrev t1:=aj S0
def ok:=aA t1 Nz [.s,.I,.I]
end KE
namespace pR
abbrev P0:Ps:=[(0,.I),(3,.st),(4,.st),(5,.I)]
def L1:=bq (ay U Tryz.f29 [] []) [0,1,1,1,4] P0
abbrev t1:=bp L1
abbrev S3:=ah t1 [2,2,1,1,4] P0
abbrev t2:=aj S3
abbrev S2:=ah t2 [2,2,1,2,1,1,4] [(0,.I),(3,.st),(4,.st),(5,.I),(6,.I)]
abbrev t3:=aj S2
def iH:=bE t3 L1
abbrev S0:=ah t3 [3] [(0,.I),(3,.st)]
abbrev t4:=aj S0
def ok:=aA t4 Fp [.I]
end pR
namespace sE
abbrev P0:Ps:=[(0,.s),(3,.s),(4,.I)]
def L0:=bq (ay U Tryz.f27 [(5,lr 7)] []) [0,1,1,1,2] P0
abbrev t1:=bp L0
abbrev S1:=ah t1 [2,2,1,1,2] P0
abbrev t2:=aj S1
def b':=bE t2 L0
def ok:=aA t2 N1 [.s]
end sE
namespace pT
def L0:=bq (ay U Tryz.f12 [] []) [0,1,1,1,4] [(2,.s),(3,.I),(10,.s),(11,.s),(12,.s),(13,.I)]
abbrev t1:=bp L0
abbrev S1:=ah t1 [3,2,1,2,1,1,4] [(2,.s),(3,.I),(10,.s),(11,.s),(12,.s),(13,.I),(15,.I)]
abbrev t2:=aj S1
abbrev S2:=ah t2 [5] [(10,.s),(11,.s)]
abbrev t3:=aj S2
def b':=bE t3 L0
def ok:=aA t3 N8 [.s,.I,.s,.I]
end pT
namespace ml
abbrev P0:Ps:=[(0,.st),(3,.st),(4,.s),(5,.I)]
def L1:=bq (ay U Tryz.f31 [(11,lr 12)] []) [0,1,1,1,3] P0
abbrev t1:=bp L1
abbrev S5:=ah t1 [2,2,1,1,3] P0
abbrev t2:=aj S5
abbrev P1:Ps:=[(0,.st),(3,.st),(4,.s),(5,.I),(6,.Y)]
abbrev S6:=ah t2 [4,2,1,2,1,1,3] P1
abbrev t3:=aj S6
abbrev S4:=ah t3 [2,2,1,2,1,1,3] P1
abbrev t4:=aj S4
abbrev S3:=ah t4 [0,1,1,1,1,2,1,2,1,1,3] P1
abbrev t5:=aj S3
abbrev S2:=ah t5 [1,2,1,2,1,1,3] P1
abbrev t6:=aj S2
def iH:=bE t6 L1
abbrev S0:=ah t6 [2] [(0,.st),(3,.st)]
abbrev t7:=aj S0
def ok:=aA t7 Oo [.st]
end ml
namespace K7
def ok:=aA (ay U Tryz.f32 [] []) Oy []
end K7
namespace K8
def ok:=aA (ay U Tryz.f33 [] []) Oz []
end K8
namespace z3
abbrev P0:Ps:=[(1,.l [.I,.I,.I] cd),(4,.st)]
abbrev bg:=ah (ay U Tryz.f30 [] [1]) [4] P0
abbrev t1:=aj bg
abbrev aV:=ah t1 [3] P0
abbrev t2:=aj aV
def aq:=aA t2 Ov [.a 3,.I,.I,.I]
end z3
namespace jc
def a1:=bq (ay U Tryz.f14 [(16,ls [1,2,0,3,4,5,6]),(21,lr 7),(25,ls [0,1,2,3,7,8,4,5,6,9,10,11])] [5]) [0,1,1,1,1,1,3,1,1,1,2] [(5,.l [.I,.s,.I,.I,.U,.st,.I,.I,.I] bQ),(6,.st),(7,.I)]
abbrev t1:=bp a1
def bS:=bE t1 a1
abbrev P0:Ps:=[(0,.s),(5,.l [.I,.s,.I,.I,.U,.st,.I,.I,.I] bQ),(8,.st),(9,.s),(10,.s),(11,.I)]
def l6:=bq t1 [0,1,1,1,5] P0
abbrev t2:=bp l6
abbrev cG:=ah t2 [2,2,1,1,5] P0
abbrev t3:=aj cG
abbrev P1:Ps:=[(0,.s),(5,.l [.I,.s,.I,.I,.U,.st,.I,.I,.I] bQ),(8,.st),(12,.I)]
def i2:=bq t3 [0,1,1,1,7] P1
abbrev t4:=bp i2
abbrev lC:=ah t4 [2,2,1,1,7] P1
abbrev t5:=aj lC
def mR:=bE t5 i2
abbrev P2:Ps:=[(0,.s),(5,.l [.I,.s,.I,.I,.U,.st,.I,.I,.I] bQ),(8,.st)]
abbrev fB:=ah t5 [7] P2
abbrev t6:=aj fB
abbrev nM:=ah t6 [0,1,3,1,1,1,6] P2
abbrev t7:=aj nM
abbrev rU:=ah t7 [4,1,1,1,6] [(0,.s),(5,.l [.I,.s,.I,.I,.U,.st,.I,.I,.I] bQ),(8,.st),(85,.I)]
abbrev t8:=aj rU
def qK:=bE t8 l6
abbrev bg:=ah t8 [4] P2
abbrev t9:=aj bg
def aq:=aA t9 Ox [.s,.I]
end jc
namespace sG
abbrev P0:Ps:=[(0,.s),(3,.st),(4,.I)]
def L0:=bq (ay U Tryz.f13 [(6,lr 18)] []) [0,1,1,1,2] P0
abbrev t1:=bp L0
abbrev S1:=ah t1 [2,2,1,1,2] P0
abbrev t2:=aj S1
def b':=bE t2 L0
def ok:=aA t2 Oq [.s]
end sG
namespace kR
def L1:=bq (ay U Tryz.f4 [(16,ls [0,2,3,4,8,9,10,11,12,15,1,5,6,7,13,14,16,17,18])] []) [0,1,1,1,4] [(2,.s),(7,.s),(8,.s),(9,.st),(10,.I)]
abbrev t1:=bp L1
abbrev S4:=ah t1 [4,2,1,2,1,1,4] [(2,.s),(7,.s),(8,.s),(9,.st),(10,.I),(12,.I)]
abbrev t2:=aj S4
abbrev S3:=ah t2 [3,2,1,2,1,1,4] [(2,.s),(7,.s),(8,.s),(9,.st),(10,.I),(11,.st),(12,.I)]
abbrev t3:=aj S3
abbrev S2:=ah t3 [1,1,2,2,1,2,1,1,4] [(2,.s),(7,.s),(8,.s),(9,.st),(10,.I),(11,.st),(12,.I),(42,.I)]
abbrev t4:=aj S2
def iH:=bE t4 L1
abbrev S0:=ah t4 [4] [(2,.s),(7,.s),(8,.s),(9,.st)]
abbrev t5:=aj S0
def ok:=aA t5 Ou [.s,.I,.s]
end kR
abbrev Ya:List UInt8:=[48,49,50,51,52,53,54,55,56,57]
abbrev hD:List UInt8:=Ya++[97,98,99,100,101,102]
def g'(c:UInt8):List UInt8:=if c.toNat=34\/c.toNat=92 then[92,c]else if 32<=c.toNat/\c.toNat<=126 then[c]else[92,120,hD.getD (c.toNat / 16) 0,hD.getD (c.toNat%16) 0]
def jn(l:List UInt8):List UInt8:=[34]++l.flatMap g'++[34]
def Le(c:UInt8):1<=(g' c).length/\(g' c).length<=4:=by unfold g';split<;>(try split)<;>simp
def Lf:∀l:List UInt8,l.length<=(l.flatMap g').length/\(l.flatMap g').length<=4 *l.length
 |[]=>gs
 |c::l=>by have d:=Le c;have e:=Lf l;rw[dz,bG,cC];omega
def Zo(c:UInt8):(a' #[48,49,50,51,52,53,54,55,56,57,97,98,99,100,101,102])[c.toNat / 16]? =some (hD.getD (c.toNat / 16) 0):=nO (p:=λc=>(a' #[48,49,50,51,52,53,54,55,56,57,97,98,99,100,101,102])[c.toNat / 16]? =some (hD.getD (c.toNat / 16) 0)) (by decide+kernel) c
def Zp(c:UInt8):(a' #[48,49,50,51,52,53,54,55,56,57,97,98,99,100,101,102])[c.toNat%16]? =some (hD.getD (c.toNat%16) 0):=nO (p:=λc=>(a' #[48,49,50,51,52,53,54,55,56,57,97,98,99,100,101,102])[c.toNat%16]? =some (hD.getD (c.toNat%16) 0)) (by decide+kernel) c
def A8(l:List UInt8):∀u∈l.map gb,u.oneCell'=true:=λu d=>by obtain⟨c,_,rfl⟩:=List.mem_map.1 d;rfl
def abb{s:ByteArray}{k:Nat}(d:(bl s).drop k=[]):s.size<=k:=by have:=congrArg List.length d;rw[h',cR]at this;simp at this;omega
def RQ(s:ByteArray)(ae:s.size<=1000000)(w:I):ai U Oo #[.string s] w λr d=>r=ad (.string (ba (jn (bl s))))/\af w d:=by
 refine ml.ok ?_;dsimp only[ml.S0,ah];refine O.e9 (O.start (M:=F0) [] gs) (e:=eB) (sz:=1) (n:=1) (cs:=([34]:List UInt8).map gb) rfl dl λq Q=>?_;have loop:∀(l:List UInt8) (k:Nat) (acc:List UInt8) (out:Sl) (q:I),(bl s).drop k=l->k<=s.size->acc.length<=4 *k+1->O F0 w q [.row eB 1 out (acc.map gb)] []->
   ml.L1 s (a' #[48,49,50,51,52,53,54,55,56,57,97,98,99,100,101,102]) out (k:Int) q λr d=>r=ad (.string (ba (acc++l.flatMap g'++[34])))/\af w d:=by
  intro l;induction l with
  |nil=>
   intro k acc out q F hk Y y;have:=abb F;have tn:out.n=acc.length:=by have:=aK.len (y.get 0);simp at this;omega
   refine ml.iH (aQ (a2 io) ?_);refine y.zv 0 mg (news:=([34]:List UInt8).map gb) rfl rfl (A8 _) io io λt h x=>?_;have Z:Bytes h t (acc++[34]):=by
    have:=aK.Bp (x.get 0)
    rwa[<-ey]at this
   refine⟨_,r5 Z,?_,x.fr⟩;simp
  |cons c l ih=>
   intro k acc out q F hk Y y;obtain⟨T,aa,aj⟩:=xv F;have tn:out.n=acc.length:=by have:=aK.len (y.get 0);simp at this;omega
   have next:∀(C:List UInt8) (j:Sl) (h:I),C=acc++g' c->O F0 w h [.row eB 1 j (C.map gb)] []->ml.S5 s (a' #[48,49,50,51,52,53,54,55,56,57,97,98,99,100,101,102]) j (k:Int) h λr d=>r=ad (.string (ba (acc++(c::l).flatMap g'++[34])))/\af w d:=by intro C j h N x;show ml.L1 _ _ _ (aB .i64 ((k:Int)+1)) _ _;rw[bm k io];have W:=Le c;have:=ih (k+1) C j h aa io (by rw[N,bG];omega) x;rw[N]at this;simpa[dz]using this
   refine ml.iH (aR (a5 io) ⟨io,c,by rw[bR];exact T,?_⟩);have tail:∀(pre:List UInt8) (j:Sl) (h:I),j.n<=acc.length+1->(pre=[]/\c.toNat≠34/\c.toNat≠92\/pre=[92]/\(c.toNat=34\/c.toNat=92))->O F0 w h [.row eB 1 j ((acc++pre).map gb)] []->ml.S4 s (a' #[48,49,50,51,52,53,54,55,56,57,97,98,99,100,101,102]) j (k:Int) (c.toNat:Int) h λr d=>r=ad (.string (ba (acc++(c::l).flatMap g'++[34])))/\af w d:=by
    intro pre j h hn P x;have K:¬(32<=c.toNat/\c.toNat<=126)->ml.S6 s (a' #[48,49,50,51,52,53,54,55,56,57,97,98,99,100,101,102]) j (k:Int) (c.toNat:Int) h λr d=>r=ad (.string (ba (acc++(c::l).flatMap g'++[34])))/\af w d:=λA=>by
     have ac:=c.toNat_lt;have G:aB .u8 (dV (c.toNat:Int) 16)=((c.toNat / 16:Nat):Int):=by rw[show dV (c.toNat:Int) 16=((c.toNat / 16:Nat):Int)from rfl,IntKind.wrap_u8];omega
     have H:eI (c.toNat:Int) 16=((c.toNat%16:Nat):Int):=rfl;dsimp only[ml.S6,ah];refine x.dr λw3 S=>⟨by rw[G];omega,hD.getD (c.toNat / 16) 0,by rw[G,bR];exact Zo c,by rw[H];omega,hD.getD (c.toNat%16) 0,by rw[H,bR];exact Zp c,?_⟩;refine S.zv 0 mg (news:=([92,120,hD.getD (c.toNat / 16) 0,hD.getD (c.toNat%16) 0]:List UInt8).map gb) rfl rfl (A8 _) io io λt B z=>next (acc++pre++[92,120,hD.getD (c.toNat / 16) 0,hD.getD (c.toNat%16) 0]) t B ?_ (by rw[ey];exact z)
     rcases P with⟨rfl,D,E⟩|⟨_,D⟩
     .unfold g';rw[ab io,ab A];simp
     .exact absurd io A
    dsimp only[ml.S4,ah];refine aT (λD=>aT (λE=>?_) (λE=>K io)) (λD=>K io);refine x.zv 0 mg (news:=([c]:List UInt8).map gb) rfl rfl (A8 _) io io λt B z=>next (acc++pre++[c]) t B ?_ (by rw[ey];exact z)
    rcases P with⟨rfl,L,W⟩|⟨rfl,L⟩
    .unfold g';rw[ab io,ag io];simp
    .unfold g';rw[ag L];simp
   have J:(c.toNat=34\/c.toNat=92)->ml.S3 s (a' #[48,49,50,51,52,53,54,55,56,57,97,98,99,100,101,102]) out (k:Int) (c.toNat:Int) q λr d=>r=ad (.string (ba (acc++(c::l).flatMap g'++[34])))/\af w d:=λA=>
    y.zv 0 mg (news:=([92]:List UInt8).map gb) rfl rfl (A8 _) io io λt B z=>tail [92] t B (by have:=aK.len (z.get 0);simp at this;omega) (.inr ⟨rfl,A⟩) (by rw[ey];exact z)
   refine aw (λA=>J (.inl io)) (λD=>aw (λA=>J (.inr io)) (λE=>?_));exact tail [] out q io (.inl ⟨rfl,io,io⟩) (by rw[cQ];exact y)
 exact loop (bl s) 0 [34] _ q rfl io gs Q
def Zn(c:UInt8):cJ 16 (hD.getD (c.toNat / 16) 0)=true/\cJ 16 (hD.getD (c.toNat%16) 0)=true/\cX (16 *eS (hD.getD (c.toNat / 16) 0)+eS (hD.getD (c.toNat%16) 0))=c:=
 nO (p:=λc=>cJ 16 (hD.getD (c.toNat / 16) 0)=true/\cJ 16 (hD.getD (c.toNat%16) 0)=true/\cX (16 *eS (hD.getD (c.toNat / 16) 0)+eS (hD.getD (c.toNat%16) 0))=c) (by decide+kernel) c
def acb(c:UInt8)(l:List UInt8):qu (g' c++l)=(qu l).push c (g' c).length:=by
 unfold g';split
 .rename_i d;show qu (92::c::l)=_;conv=>lhs;unfold qu
  rw[ab dl,ab dl];simp only[];rw[ag d];rfl
 .rename_i d;split
  .rename_i e;show qu (c::l)=_;conv=>lhs;unfold qu
   rw[ab io,ag io,ab io];rfl
  .obtain ⟨h,e,j⟩:=Zn c;generalize hD.getD (c.toNat / 16) 0=x at *;generalize hD.getD (c.toNat%16) 0=y at *;show qu (92::120::x::y::l)=_;conv=>lhs;unfold qu
   rw[ab dl,ab dl];simp only[];rw[ab dl,ab dl];simp only[h,e,if_true,j];rfl
def RO:∀(t l:List UInt8),qu (t.flatMap g'++[34]++l)=.ok t ((t.flatMap g').length+1)
 |[],l=>by show qu (34::l)=_;unfold qu;rw[ag dl];rfl
 |c::t,l=>by rw[dz,cU,cU,acb,<-cU,RO t l,QR.push,bG,Nat.add_assoc]
def aa4(t l:List UInt8):gi (jn t++l)=.tok 5 t (jn t).length:=by
 have d:jn t++l=34::(t.flatMap g'++[34]++l):=by unfold jn;simp
 have e:(jn t).length=1+((t.flatMap g').length+1):=by unfold jn;simp;omega
 rw[d,e];unfold gi;simp only[];rw[ab dl,ab dl,ag dl,RO t l]
def bU(n:Nat):List UInt8:=if n<10 then[cX (48+n)]else[cX (48+n / 10),cX (48+n%10)]
def hN(k:Int):List UInt8:=[[98,118],[115,116,114],[97,114,114],[97,114,115]].getD k.toNat []
def jZ(s:aM):List UInt8:=40::hN s.k++(if s.k>1 then 32::bU s.x.toNat else[])++32::bU s.n.toNat++[41]
def fi(u n:Nat):List UInt8:=(List.range n).reverse.map λi=>if u.testBit i then 49 else 48
def nD:List (List UInt8):=[[],[],[],[],[110,111,116],[110,101,103],[97,110,100],[111,114],[120,111,114],[97,100,100],[109,117,108],[117,100,105,118],[117,114,101,109],[115,104,108],[108,115,104,114],[97,115,104,114],[117,108,116],[115,108,116],[101,113],[105,116,101],[99,111,110,99,97,116],[],[],[],[115,101,108,101,99,116],[115,116,111,114,101],[100,105,102,102],[108,101,110],[],[99,97,116],[115,117,98],[102,105,110,100],[114,101,112,108,97,99,101],[],[99,104,97,114]]
def lf:List (Int×List UInt8):=[(1,[110,117,109]),(3,[122,101,114,111]),(21,[101,120,116,114,97,99,116]),(22,[122,101,120,116]),(23,[115,101,120,116]),(28,[98,121,116,101]),(33,[105,110])]
def rA(op:Int)(o:List UInt8)(q:Int×List UInt8):List UInt8:=if q.1=op then q.2 else o
def dR(op:Int):List UInt8:=lf.foldl (rA op) (nD.getD op.toNat [])
def fT(d:Nx):List UInt8:=
 if d.op=21 then 32::bU d.n.toNat++32::bU d.m.toNat else
 if d.op=22\/d.op=23\/d.op=28 then 32::bU d.n.toNat else
 if d.op=33 then 32::jn (bl d.tx)else[]
def eT:Nat->List Nx->Nat->List UInt8
 |0,_,_=>[]
 |f+1,g,i=>match g[i]? with
  |none=>[]
  |some d=>
   if d.op=0 then bl d.tx else if d.op=1 then 35::98::fi d.u.toNat d.st.n.toNat else if d.op=2 then jn (bl d.tx)else
   if d.op=3 then[40,122,101,114,111,32]++jZ d.st++[41]else
   40::dR d.op++fT d++d.kids.flatMap (λe=>32::eT f g e.toNat)++[41]
abbrev TK:=Int×List UInt8
def ej(s:aM):List TK:=[(0,[]),(2,hN s.k)]++(if s.k>1 then[(4,bU s.x.toNat)]else[])++[(4,bU s.n.toNat),(1,[])]
def gA(d:Nx):List TK:=
 if d.op=21 then[(4,bU d.n.toNat),(4,bU d.m.toNat)]else
 if d.op=22\/d.op=23\/d.op=28 then[(4,bU d.n.toNat)]else
 if d.op=33 then[(5,bl d.tx)]else[]
def dM:Nat->List Nx->Nat->List TK
 |0,_,_=>[]
 |f+1,g,i=>match g[i]? with
  |none=>[]
  |some d=>
   if d.op=0 then[(2,bl d.tx)]else if d.op=1 then[(3,35::98::fi d.u.toNat d.st.n.toNat)]else if d.op=2 then[(5,bl d.tx)]else
   if d.op=3 then[(0,[]),(2,[122,101,114,111])]++ej d.st++[(1,[])]else
   [(0,[]),(2,dR d.op)]++gA d++d.kids.flatMap (λe=>dM f g e.toNat)++[(1,[])]
def Ab(r:List UInt8):Prop:=r=[]\/∃d e,r=d::e/\m4 d=true
def kt(t:aI):TK:=(t.kind,t.text)
def b6(l:List UInt8)(K:List TK):Prop:=∀(r:List UInt8) (p:Nat) (e:List aI),Ab r->Lex (p+l.length) r e->∃d:List aI,d.map kt=K/\Lex p (l++r) (d++e)
def lA(l:List UInt8):Prop:=∃d e,l=d::e/\m4 d=true
def lA.r{l:List UInt8}(d:lA l)(r:List UInt8):Ab (l++r):=by obtain⟨j,h,rfl,e⟩:=d;exact .inr ⟨j,h++r,rfl,e⟩
def m3{x:UInt8}{r:List UInt8}(d:m4 x=true):lA (x::r):=⟨x,r,rfl,d⟩
def lA.app{l:List UInt8}(d:lA l)(r:List UInt8):lA (l++r):=by obtain⟨j,h,rfl,e⟩:=d;exact⟨j,h++r,rfl,e⟩
def b6.nil:b6 [] []:=λr p e _ d=>⟨[],rfl,d⟩
def b6.app{e d:List UInt8}{k q:List TK}(A:b6 e k)(B:b6 d q)(C:lA d):b6 (e++d) (k++q):=λr p j D w=>by obtain⟨h,z,F⟩:=B r (p+e.length) j D (by rw[bG,<-Nat.add_assoc]at w;exact w);obtain⟨x,y,E⟩:=A (d++r) p (h++j) (C.r r) F;exact⟨x++h,by rw[ey,y,z],by rw[cU,cU];exact E⟩
def b6.sp{l:List UInt8}{K:List TK}(z:b6 l K):b6 (32::l) K:=λr p h A x=>by
 obtain⟨e,y,w⟩:=z r (p+1) h A (by rw[cC]at x;rw[Nat.add_assoc,Nat.add_comm 1];exact x);refine⟨e,y,?_⟩;show Lex p (32::(l++r)) (e++h);have d:bt false (32::(l++r))=bt false (l++r)+1:=by show(if lg 32 then 1+bt false (l++r)else _)=_;rw[ag dl,Nat.add_comm]
 generalize l++r=m at w d;generalize e++h=C at w;cases w with
 |fin q=>
  have j:p+1+bt false m=p+bt false (32::m):=by rw[d];omega
  rw[j];exact .fin (by rw[d];exact q)
 |tok q k=>
  have j:p+1+bt false m=p+bt false (32::m):=by rw[d];omega
  rw[j]at k ⊢;exact .tok (by rw[d];exact q) (by rw[d];rw[d]at k;exact k)
def b6.one{l t:List UInt8}{k:Int}(w:∀r,Ab r->bt false (l++r)=0)(q:∀r,Ab r->gi (l++r)=.tok k t l.length):b6 l [(k,t)]:=λr p h e x=>by refine⟨[⟨k,t,p⟩],rfl,?_⟩;have d:=w r e;have j:=q r e;have:Lex p (l++r) (⟨k,t,p+bt false (l++r)⟩::h):=.tok (by rw[d,List.drop_zero];exact j) (by rw[d,List.drop_zero,Bn];exact x);rw[d]at this;exact this
def Aq:b6 [41] [(1,[])]:=.one (λr _=>rfl) (λr _=>rfl)
def MG(t:List UInt8):b6 (jn t) [(5,t)]:=.one (λr _=>rfl) (λr _=>aa4 t r)
def sQ{t:List UInt8}{k:Int}(A:∃c l,t=c::l/\hP c=true)(B:∀d∈t,bV d=true)(z:fH t=(k,0)):b6 t [(k,t)]:=by
 obtain⟨c,l,rfl,e⟩:=A;obtain⟨_,C,s3⟩:=TN c e;have q:c.toNat≠40/\c.toNat≠41/\c.toNat≠34:=by have:∀c:UInt8,hP c=true->c.toNat≠40/\c.toNat≠41/\c.toNat≠34:=λc=>nO (p:=λc=>hP c=true->c.toNat≠40/\c.toNat≠41/\c.toNat≠34) (by decide+kernel) c;exact this c e
 refine .one (λr _=>?_) (λr w=>?_)
 .show (if lg c then _ else if c.toNat=59 then _ else 0)=0;rw[ab (by rw[C];simp),ab s3]
 .have h:((c::l)++r).takeWhile bV=c::l:=Fh (c::l) r B (by
   rcases w with rfl|⟨d,x,rfl,j⟩
   .exact .inl rfl
   .exact .inr ⟨d,x,rfl,LD d j⟩)
  show gi (c::(l++r))=_;unfold gi;simp only[];rw[ab q.1,ab q.2.1,ab q.2.2,ag e];have h:(c::(l++r)).takeWhile bV=c::l:=h;rw[h,z];have y:(c::(l++r)).drop (c::l).length=r:=by show((c::l)++r).drop (c::l).length=r;exact Bn
  simp only[y];rcases w with rfl|⟨d,x,rfl,j⟩
  .rfl
  .simp only[j];rfl
structure CI(G:List Nx)(d:Nx):Prop where
 ok:rV G d
 op:0<=d.op/\d.op<=34
 st:br d.st=true
 nm:d.op=0->iS (bl d.tx)=true
 nu:d.op=1->d.st.k=0/\mW d.u d.st.n=false
 n1:d.op=21->0<=d.m/\d.m<=d.n/\d.n<=63
 n2:d.op=22\/d.op=23\/d.op=28->0<=d.n/\d.n<=64
 re:d.op=33->mb d.tx=true
def rJ{g:List Nx}(j:Vg g){i:Nat}{d:Nx}(hd:g[i]? =some d):CI (g.take i) d:=by
 have e:=j.ok i d hd;have h:=j.ry i d hd;have A:=j.val d (aD hd);have G:∀q,q<d.kids.length->br (bf (g.take i) d q)=true:=λq F=>Mr (λB E=>j.val B (List.mem_of_mem_take E)) h.ki F;have y:=h.kl;have z:0<=d.op/\d.op<=34:=by unfold b5 at y;omega
 unfold bA at e;split at e
 .grind
 split at e
 .rename_i D;refine⟨h,z,A,λH=>?_,λw=>?_,λe=>io,λe=>io,λe=>io⟩
  .unfold cb at e
   grind
  .unfold cb at e
   grind
 .rename_i D;split at e
  .grind
  rename_i L;split at e
  .grind
  rename_i k;split at e
  .grind
  rename_i K;have k:iC d (bf (g.take i) d 0) (bf (g.take i) d 1) (bf (g.take i) d 2)=true:=by grind
  have x:d.op=21\/d.op=22\/d.op=23\/d.op=28->(bf (g.take i) d 0).n<=64/\0<=(bf (g.take i) d 0).n:=λM=>by
   have:=G 0 (by unfold b5 at y;omega);unfold br at this
   grind
  refine⟨h,z,A,λe=>io,λe=>io,λw=>?_,λC=>?_,λJ=>?_⟩
  .have:=x (.inl w);unfold iC at k
   grind
  .have:=x (.inr C);unfold iC at k
   grind
  grind
def X3:∀n<100,(∃c l,bU n=c::l/\hP c=true)/\(∀d∈bU n,bV d=true)/\fH (bU n)=(4,0):=by
 have e:∀n<100,((bU n).head?.any hP&&(bU n).all bV&&ak (fH (bU n)=(4,0)))=true:=by decide+kernel
 intro n h;have:=e n h;simp only[bd,decide_eq_true_eq]at this;refine⟨?_,λd j=>dS.1 this.1.2 d j,this.2⟩;cases k:bU n with
 |nil=>grind
 |cons c l=>grind
def xH{n:Nat}(d:n<100):b6 (bU n) [(4,bU n)]:=by obtain⟨a,b,c⟩:=X3 n d;exact sQ a b c
def Jc{u n:Nat}{x:UInt8}(d:x∈fi u n):x=48\/x=49:=by
 obtain⟨i,_,rfl⟩:=List.mem_map.1 d
 grind
def pD(u n:Nat):(fi u n).length=n:=by unfold fi;simp
def Z9{u n:Nat}(j:1<=n)(k:n<=64):b6 (35::98::fi u n) [(3,35::98::fi u n)]:=by
 have w:=pD u n;have q:(fi u n).all (cJ 2)=true:=dS.2 λe d=>by rcases Jc d with rfl|rfl<;>decide
 have x:∀e∈fi u n,bV e=true:=λe d=>by rcases Jc d with rfl|rfl<;>decide
 refine sQ ⟨_,_,rfl,dl⟩ (λe d=>?_) ?_
 .rcases aF.1 d with rfl|d
  .decide
  .rcases aF.1 d with rfl|d
   .decide
   grind
 .generalize fi u n=b at *;cases b with
  |nil=>grind
  |cons h r=>
   unfold fH;simp only[];rw[ab dl,ab dl];unfold uV
   grind
def aaa{t:List UInt8}(e:iS t=true):b6 t [(2,t)]:=by
 unfold iS at e;cases t with
 |nil=>cases e
 |cons c m=>
  simp only[bd,decide_eq_true_eq]at e;obtain⟨⟨w,j⟩,x⟩:=e;have z:qc c=true:=j;have q:∀d:UInt8,ea d=true->bV d=true/\d.toNat≠35:=λd=>nO (p:=λd=>ea d=true->bV d=true/\d.toNat≠35) (by decide+kernel) d;have y:ea c=true:=by unfold ea;grind
  have k:∀d∈c::m,ea d=true:=λd h=>by grind
  refine sQ ⟨c,m,rfl,by unfold hP;grind⟩ (λd h=>(q d (k d h)).1) ?_;unfold fH
  grind
def abG{op:Int}(j:4<=op)(k:op<=34):(∃c l,dR op=c::l/\hP c=true)/\(∀d∈dR op,bV d=true)/\fH (dR op)=(2,0):=by
 have e:∀n<31,((dR ((n+4:Nat):Int)).head?.any hP&&(dR ((n+4:Nat):Int)).all bV&&ak (fH (dR ((n+4:Nat):Int))=(2,0)))=true:=by decide+kernel
 have:=e (op - 4).toNat io;rw[show(((op - 4).toNat+4:Nat):Int)=op by omega]at this;simp only[bd,decide_eq_true_eq]at this;refine⟨?_,λd h=>dS.1 this.1.2 d h,this.2⟩;cases q:dR op with
 |nil=>grind
 |cons c l=>grind
def aab{op:Int}(d:4<=op)(e:op<=34):b6 (dR op) [(2,dR op)]:=by obtain⟨a,b,c⟩:=abG d e;exact sQ a b c
def adD{k:Int}(d:0<=k)(e:k<=3):b6 (hN k) [(2,hN k)]:=by
 have:k=0\/k=1\/k=2\/k=3:=io
 rcases this with rfl|rfl|rfl|rfl<;>exact sQ ⟨_,_,rfl,dl⟩ dl dl
def rI{s:aM}(d:br s=true):0<=s.k/\s.k<=3/\0<=s.n/\s.n<=64/\0<=s.x/\s.x<=16:=by
 unfold br at d
 grind
def aac{s:aM}(j:br s=true):b6 (jZ s) (ej s):=by
 obtain⟨a,b,c,E,F,f⟩:=rI j;unfold jZ ej;have B:=adD a b;have y:b6 (32::bU s.n.toNat) [(4,bU s.n.toNat)]:=(xH io).sp;have w:lA (32::bU s.n.toNat):=m3 dl;have q:lA [41]:=m3 dl;have C:b6 (40::hN s.k++(if s.k>1 then 32::bU s.x.toNat else[])) ([(0,[]),(2,hN s.k)]++(if s.k>1 then[(4,bU s.x.toNat)]else[])):=by
  have z:b6 (40::hN s.k) [(0,[]),(2,hN s.k)]:=by intro r p e A G;obtain⟨d,h,D⟩:=B r (p+1) e A (by grind);refine⟨⟨0,[],p⟩::d,by rw[lU,h];rfl,?_⟩;exact .tok (i:=p) (l:=40::(hN s.k++r)) (u:=1) rfl D
  split
  .exact z.app (xH io).sp (m3 dl)
  grind
 have:=(C.app y w).app Aq q
 grind
def Z'{G:List Nx}{d:Nx}(e:CI G d):b6 (fT d) (gA d)/\(fT d=[]\/lA (fT d)):=by
 unfold fT gA;split
 .rename_i h;obtain⟨a,b,c⟩:=e.n1 h;exact⟨(xH io).sp.app (xH io).sp (m3 dl),.inr (m3 dl)⟩
 split
 .rename_i j;obtain⟨a,b⟩:=e.n2 io;exact⟨(xH io).sp,.inr (m3 dl)⟩
 split
 .exact ⟨(MG _).sp,.inr (m3 dl)⟩
 .exact ⟨.nil,.inl rfl⟩
def Qw{g:List Nx}(C:Vg g):∀(f i:Nat),i<f->i<g.length->b6 (eT f g i) (dM f g i)
 |0,i,H,_=>absurd H io
 |f+1,i,H,A=>by
  have w:g[i]? =some (g[i]'A):=aY A;generalize g[i]'A=d at w;have h:=rJ C w;unfold eT dM;rw[w];dsimp only;split
  .rename_i L;exact aaa (h.nm L)
  split
  .rename_i z;obtain⟨k0,_⟩:=h.nu z;have:=h.st;unfold br at this;simp at this;exact Z9 io io
  split
  .exact MG _
  split
  .have W:b6 [40,122,101,114,111] [(0,[]),(2,[122,101,114,111])]:=by intro r p y B M;obtain⟨x,j,G⟩:=(sQ (t:=[122,101,114,111]) (k:=2) ⟨_,_,rfl,dl⟩ dl dl) r (p+1) y B io;refine⟨⟨0,[],p⟩::x,by rw[lU,j];rfl,?_⟩;exact .tok (i:=p) (l:=40::([122,101,114,111]++r)) (u:=1) rfl G
   have S:b6 (32::jZ d.st) (ej d.st):=(aac h.st).sp;have:=(W.app S (m3 dl)).app Aq (m3 dl);simpa using this
  .rename_i a0 a1 a2 a3;have Q:=h.op;have T:=aab (op:=d.op) io Q.2;have O:b6 (40::dR d.op) [(0,[]),(2,dR d.op)]:=by intro r p y B M;obtain⟨x,j,G⟩:=T r (p+1) y B (by grind);refine⟨⟨0,[],p⟩::x,by rw[lU,j];rfl,?_⟩;exact .tok (i:=p) (l:=40::(dR d.op++r)) (u:=1) rfl G
   have P:b6 (40::dR d.op++fT d) ([(0,[]),(2,dR d.op)]++gA d):=by
    obtain⟨m1,F⟩:=Z' h;rcases F with aa|F
    .have:gA d=[]:=by
      unfold fT gA at *
      grind
     grind
    .exact O.app m1 F
   have q:∀(ks:List Int),(∀e∈ks,0<=e/\e<(i:Int))->b6 (ks.flatMap λe=>32::eT f g e.toNat) (ks.flatMap λe=>dM f g e.toNat)/\((ks.flatMap λe=>32::eT f g e.toNat)=[]/\(ks.flatMap λe=>dM f g e.toNat)=[]\/lA (ks.flatMap λe=>32::eT f g e.toNat)):=by
    intro ks;induction ks with
    |nil=>intro _;exact⟨.nil,.inl ⟨rfl,rfl⟩⟩
    |cons e ks Z=>
     intro J;have ab:=J e hJ;obtain⟨Y,D⟩:=Z λe q=>J e (cP _ q);have z:b6 (32::eT f g e.toNat) (dM f g e.toNat):=(Qw C f e.toNat io io).sp;rw[dz,dz];refine⟨?_,.inr (lA.app (m3 dl) _)⟩;rcases D with⟨j,K⟩|D
     .grind
     .exact z.app Y D
   obtain⟨k1,E⟩:=q d.kids λe q=>by have:=C.kids w e q;omega
   have N:b6 (40::dR d.op++fT d++d.kids.flatMap λe=>32::eT f g e.toNat) ([(0,[]),(2,dR d.op)]++gA d++d.kids.flatMap λe=>dM f g e.toNat):=by
    rcases E with⟨j,K⟩|E
    .grind
    .exact P.app k1 E
   have:=N.app Aq (m3 dl);omega
def dW(d:Nx)(ks:List Int):Nx:={d with kids:=ks,st:=if d.op=1\/d.op=3 then d.st else aX}
def jf(F:Nat->List Nx->Option (Nat×List Nx)):List Int->List Nx->Option (List Int×List Nx)
 |[],d=>some ([],d)
 |e::h,d=>(F e.toNat d).bind λa=>(jf F h a.2).map λl=>((a.1:Int)::l.1,l.2)
def iy(vs:List (List UInt8×Nat))(g:List Nx):Nat->Nat->List Nx->Option (Nat×List Nx)
 |0,_,_=>none
 |f+1,i,e=>(g[i]?).bind λd=>
  if d.op=0 then(lk vs (bl d.tx)).map λh=>(h,e)else
  (jf (iy vs g f) d.kids e).bind λa=>if(bb a.2 (dW d a.1)).2.2=0 then some ((bb a.2 (dW d a.1)).2.1.toNat,(bb a.2 (dW d a.1)).1)else none
def cg(T:List aI)(p:Nat)(K:List TK):Prop:=∃r,(T.drop p).map kt=K++r
def cg.app{T:List aI}{p:Nat}{e h:List TK}(d:cg T p (e++h)):cg T p e/\cg T (p+e.length) h:=by obtain⟨r,d⟩:=d;rw[cU]at d;refine⟨⟨_,d⟩,r,?_⟩;have:=congrArg (List.drop e.length) d;rw[Bn,<-List.map_drop,List.drop_drop]at this;exact this
def cg.cons{T:List aI}{p:Nat}{k:Int}{t:List UInt8}{K:List TK}(d:cg T p ((k,t)::K)):(aL T p).kind=k/\(aL T p).text=t/\p<T.length/\cg T (p+1) K:=by
 obtain⟨r,d⟩:=d;have j:p<T.length:=by
  rcases Nat.lt_or_ge p T.length with e|e
  .exact e
  .rw [List.drop_of_length_le e]at d;cases d
 rw[List.drop_eq_getElem_cons j,lU,gE,List.cons.injEq]at d;have q:aL T p=T[p]:=by unfold aL;rw[List.getD_eq_getElem?_getD,aY j];rfl
 rw[q];have h:=d.1;unfold kt at h;exact⟨congrArg Prod.fst h,congrArg Prod.snd h,j,⟨r,d.2⟩⟩
section
variable {T:List aI} {s:aH}
def rY{t:aI}(d:t.kind≠6):cH t s={s with p:=s.p+1}:=ab d
def gB{k:Int}{t:List UInt8}{K:List TK}(e:cg T s.p ((k,t)::K))(h:k≠6):bL T k s=.ok (aL T s.p) {s with p:=s.p+1}/\(aL T s.p).text=t/\cg T (s.p+1) K:=by obtain⟨a,b,c,d⟩:=e.cons;refine⟨?_,b,d⟩;unfold bL;rw[ag a,rY (by rw[a];exact h)]
def Ai{t:List UInt8}{K:List TK}(d:cg T s.p ((4,t)::K)):dd T s=.ok ((dh 10 t:Nat):Int) {s with p:=s.p+1}/\cg T (s.p+1) K:=by obtain⟨a,b,c⟩:=gB d dl;unfold dd;rw[a];show PR.ok _ _=_/\_;rw[b];exact⟨rfl,c⟩
def D2:∀n<100,dh 10 (bU n)=n:=by decide+kernel
def w6{n:Int}{K:List TK}(d:cg T s.p ((4,bU n.toNat)::K))(e:0<=n)(h:n<100):dd T s=.ok n {s with p:=s.p+1}/\cg T (s.p+1) K:=by obtain⟨a,b⟩:=Ai d;rw[D2 _ io,Int.toNat_of_nonneg e]at a;exact⟨a,b⟩
def adE:∀k<4,v3 (hN ((k:Nat):Int))=some ((k:Nat):Int):=dl
def HB{z:aM}{K:List TK}(j:br z=true)(h:cg T s.p (ej z++K)):iA T s=.ok z {s with p:=s.p+(ej z).length}/\cg T (s.p+(ej z).length) K:=by
 obtain⟨a,b,c,S,F,f⟩:=rI j;have L:¬z.k>1->z.x=0:=λe=>by unfold br at j;simp at j;omega
 refine⟨?_,h.app.2⟩;unfold ej at h;have h:cg T s.p ((0,[])::(2,hN z.k)::((if z.k>1 then[(4,bU z.x.toNat)]else[])++((4,bU z.n.toNat)::(1,[])::K))):=by simpa using h
 obtain⟨M,_,P⟩:=gB h dl;obtain⟨N,B,w⟩:=gB (s:={s with p:=s.p+1}) P dl;have D:=adE z.k.toNat io;rw[Int.toNat_of_nonneg a]at D;unfold iA;rw[M];show PR.b (bL T 2 {s with p:=s.p+1}) _=_;rw[N];show(match v3 (aL T (s.p+1)).text with
  |none=>kA (aL T (s.p+1))
  |some q=>(if q=2\/q=3 then dd T {s with p:=s.p+1+1}else .ok 0 {s with p:=s.p+1+1}).b λx d=>(dd T d).b λn d=>(bL T 1 d).b λ_ d=>
   if br ⟨q,n,x⟩then .ok (⟨q,n,x⟩:aM) d else .er 9 (aL T s.p).a6)=_
 have B:(aL T (s.p+1)).text=hN z.k:=B;rw[B,D];dsimp only;have fin:∀(d:aH) (x:Int),x=z.x->d.tm=s.tm->d.g=s.g->d.p+2=s.p+(ej z).length->cg T d.p ((4,bU z.n.toNat)::(1,[])::K)->((dd T d).b λn d=>(bL T 1 d).b λ_ d=>if br ⟨z.k,n,x⟩then PR.ok (⟨z.k,n,x⟩:aM) d else .er 9 (aL T s.p).a6)=.ok z {s with p:=s.p+(ej z).length}:=by intro d x J E C H G;obtain⟨y,A⟩:=w6 G c io;obtain⟨O,_,W⟩:=gB (s:={d with p:=d.p+1}) A dl;rw[y];show PR.b (bL T 1 {d with p:=d.p+1}) _=_;rw[O];subst J;show(if br z=true then PR.ok z {d with p:=d.p+1+1}else _)=_;rw[ag j];obtain⟨Q,st,Y⟩:=d;dsimp only at E C H ⊢;subst E C;rw[show Q+1+1=s.p+(ej z).length by omega]
 by_cases e:z.k>1
 .rw [ag (show z.k=2\/z.k=3 by omega)];rw[ag e]at w;obtain⟨y,A⟩:=w6 (s:={s with p:=s.p+1+1}) w F io;rw[y];exact fin {s with p:=s.p+1+1+1} z.x rfl rfl rfl (by unfold ej;rw[ag e];simp) A
 .rw [ab (show ¬(z.k=2\/z.k=3)by omega)];rw[ab e]at w;exact fin {s with p:=s.p+1+1} 0 (L e).symm rfl rfl (by unfold ej;rw[ab e];simp) w
def He{t:List UInt8}(d:jS t=true):g2 t=(t,0):=by
 unfold jS at d;unfold g2;cases h:Nat.blt 4096 t.length with
 |true=>rw[h]at d;cases d
 |false=>
  rw[h]at d;have:¬4096<t.length:=λe=>by rw[<-Nat.blt_eq,h]at e;cases e
  rw[ab this];dsimp only[cond_false]at d;cases q:ie t with
  |inl a=>rw[q]at d;cases d
  |inr k=>
   rw[q]at d;dsimp only at d ⊢;cases j:Nat.blt 64 (cI k.tp).sz with
   |true=>rw[j]at d;cases d
   |false=>
    rw[j]at d;have:¬64<(cI k.tp).sz:=λe=>by rw[<-Nat.blt_eq,j]at e;cases e
    rw[ab this];split at d
    .rename_i w;rw[ag w];split at d
     .rename_i x;rw[ag x,eq_of_beq d]
     .cases d
    .cases d
end
def ye(w:List UInt8):Bool:=ak (w≠[110,117,109])&&ak (w≠[122,101,114,111])&&ak (w≠[101,120,116,114,97,99,116])&&ak (w≠[122,101,120,116])&&ak (w≠[115,101,120,116])&&ak (w≠[98,121,116,101])&&ak (w≠[105,110])
def QH:∀n<31,((n+4=21\/n+4=22\/n+4=23\/n+4=28\/n+4=33)\/ye (dR ((n+4:Nat):Int))=true/\lk fu (dR ((n+4:Nat):Int))=some (((n+4:Nat):Int),(b5 ((n+4:Nat):Int)).toNat))/\iR (dR ((n+4:Nat):Int))=true:=by decide+kernel
section
variable {T:List aI} {s:aH}
def Zj{G:List Nx}{d:Nx}(hd:CI G d)(ac:4<=d.op){K:List TK}(e:cg T s.p (gA d++K)):h4 T (dR d.op) s=.ok (dW d [],d.kids.length) {s with p:=s.p+(gA d).length}/\cg T (s.p+(gA d).length) K:=by
 refine⟨?_,e.app.2⟩;have af:=hd.op;have B:=hd.ok.ok;have ae:=hd.ok.kl;have S:d.kids.length=(b5 d.op).toNat:=io
 rw[S];obtain⟨op,kids,n,m,u,h,st⟩:=d;dsimp only at *;unfold fa at B;simp only[bd,Bool.or_eq_true,beq_iff_eq,decide_eq_true_eq]at B;obtain⟨⟨⟨W,E⟩,o3⟩,Y⟩:=B;have hu:u=0:=io
 have O:dW ⟨op,kids,n,m,u,h,st⟩ []=⟨op,[],n,m,0,h,aX⟩:=by
  unfold dW
  grind
 rw[O];have mk:gA ⟨op,kids,n,m,u,h,st⟩=if op=21 then[(4,bU n.toNat),(4,bU m.toNat)]else if op=22\/op=23\/op=28 then[(4,bU n.toNat)]else if op=33 then[(5,bl h)]else[]:=rfl;generalize gA ⟨op,kids,n,m,u,h,st⟩=mid at mk e ⊢;have D:¬(op=0\/op=2\/op=33)->h=ba []:=λe=>Y.resolve_left (by unfold mu;grind);have mA:¬(op=21\/op=22\/op=23\/op=28)->n=0:=λe=>W.resolve_left (by unfold mr;grind);have one:∀(w:List UInt8),(op=22\/op=23\/op=28)->(dd T s).b (λn s=>.ok ((⟨op,[],n,0,0,ba [],aX⟩:Nx),1) s)=.ok (⟨op,[],n,m,0,h,aX⟩,(b5 op).toNat) {s with p:=s.p+mid.length}:=λw A=>by
  rw[ab io,ag A]at mk;rw[mk]at e ⊢;obtain⟨j,q⟩:=hd.n2 A;have j:0<=n:=j;have q:n<=64:=q;obtain⟨k,_⟩:=w6 e j io;rw[k,D io,E.resolve_left io];have Q:(b5 op).toNat=1:=by rcases A with rfl|rfl|rfl<;>decide
  rw[Q];rfl
 by_cases x:op=21
 .rw [ag x]at mk;rw[mk]at e ⊢;subst x;obtain⟨j,q,F⟩:=hd.n1 rfl;have j:0<=m:=j;have q:m<=n:=q;have F:n<=63:=F;obtain⟨k,Z⟩:=w6 (s:=s) e io io;obtain⟨H,r2⟩:=w6 (s:={s with p:=s.p+1}) Z j io;show PR.b (dd T s) (λn s=>(dd T s).b λm s=>.ok ((⟨21,[],n,m,0,ba [],aX⟩:Nx),1) s)=_;rw[k];show PR.b (dd T {s with p:=s.p+1}) _=_;rw[H,D io];rfl
 by_cases L:op=22
 .subst L;exact one [] (.inl rfl)
 by_cases M:op=23
 .subst M;exact one [] (.inr (.inl rfl))
 by_cases N:op=28
 .subst N;exact one [] (.inr (.inr rfl))
 by_cases z:op=33
 .rw [ab x,ab io,ag z]at mk;rw[mk]at e ⊢;subst z;obtain⟨k,t1,_⟩:=gB (s:=s) e dl;have P:jS (bl h)=true:=hd.re rfl;show PR.b (PR.b (bL T 5 s) _) (λr s=>.ok ((⟨33,[],0,0,0,ba r,aX⟩:Nx),1) s)=_;rw[k];show PR.b (if(g2 (aL T s.p).text).2=0 then PR.ok (g2 (aL T s.p).text).1 {s with p:=s.p+1}else .er (g2 (aL T s.p).text).2 (aL T s.p).a6) _=_;rw[t1,He P,mA io,E.resolve_left io];rw[ag rfl];show PR.ok ((⟨33,[],0,0,0,ba (bl h),aX⟩:Nx),1) _=_;rw[j8];rfl
 .rw [ab x,ab io,ab z]at mk;rw[mk]at e ⊢;have C:=(QH (op - 4).toNat io).1;rw[show(((op - 4).toNat+4:Nat):Int)=op by omega]at C;rcases C with C|⟨y,J⟩
  .omega
  .unfold ye at y;simp only[bd,decide_eq_true_eq]at y;obtain⟨⟨⟨⟨⟨⟨w1,w2⟩,w3⟩,w4⟩,w5⟩,aa⟩,w7⟩:=y;unfold h4;rw[ab w1,ab w2,ab w3,ab w4,ab w5,ab aa,ab w7,J,D io,mA io,E.resolve_left io];rfl
def Zz{op:Int}(d:4<=op)(e:op<=34):iR (dR op)=true:=by
 have:=(QH (op - 4).toNat io).2
 grind
end
def Qx(u:Nat):∀(n k:Nat),k<=n->u<2^n->dh 2 ((fi u n).take k)=u / 2^(n - k)
 |n,0,_,e=>by rw[List.take_zero,Nat.sub_zero,Nat.div_eq_of_lt e];rfl
 |n,k+1,w,e=>by
  have h:=Qx u n k io e;have x:=pD u n;have q:(fi u n)[k]? =some (if u.testBit (n - 1 - k)then 49 else 48):=by
   unfold fi
   grind
  rw[fJ,q];unfold dh at h ⊢;rw[List.foldl_append,h];show 2 *(u / 2^(n - k))+eS (if u.testBit (n - 1 - k)then 49 else 48)=_;have j:u / 2^(n - k)=u / 2^(n - 1 - k) / 2:=by rw[Nat.div_div_eq_div_mul,<-Nat.pow_succ,show(n - 1 - k).succ=n - k by omega]
  rw[j,show n - (k+1)=n - 1 - k by omega,Nat.testBit_eq_decide_div_mod_eq];have d:u / 2^(n - 1 - k)%2=0\/u / 2^(n - 1 - k)%2=1:=io
  rcases d with d|d<;>rw[d]
  .show _+0=_;omega
  .show _+1=_;omega
def Wb{u n:Int}(d:mW u n=false)(e:0<=u)(j:u<18446744073709551616)(h:1<=n/\n<=64):u.toNat<2^n.toNat:=by
 unfold mW at d
 grind
def RZ{g:List Nx}(hv:Vg g)(hu:∀d∈g,0<=d.u/\d.u<18446744073709551616):∀(n f i:Nat) (E:bW) (s:aH) (k:Nat) (G:List Nx),i<n->i<g.length->iy E.vs g n i s.g=some (k,G)->cg E.T s.p (dM n g i)->(dM n g i).length<=f->E.dp+i<64->s.tm+bY n g i<=65536->(∀d∈g,d.op=0->lk E.pm (bl d.tx)=none)->
  dE f E s=.ok k ⟨s.p+(dM n g i).length,s.tm+bY n g i,G⟩
 |0,f,i,E,s,k,G,ac,_,_,_,_,_,_,_=>absurd ac io
 |n+1,f,i,E,s,k,G,ac,hi,q,hK,hf,aK,aW,aw=>by
  have H:g[i]? =some (g[i]'hi):=aY hi;generalize g[i]'hi=d at H;have ap:=aD H;have z:=rJ hv H;have av:=z.op;have an:=z.ok.kl;have am:=λk J=>hv.kids H k J;unfold iy at q;rw[H]at q;have q:(if d.op=0 then(lk E.vs (bl d.tx)).map λk=>(k,s.g)else(jf (iy E.vs g n) d.kids s.g).bind λa=>if(bb a.2 (dW d a.1)).2.2=0 then some ((bb a.2 (dW d a.1)).2.1.toNat,(bb a.2 (dW d a.1)).1)else none)=some (k,G):=q;have ax:bY (n+1) g i=d.kids.foldl (λD k=>D+bY n g k.toNat) 1:=by
   conv=>lhs;unfold bY
   rw[H]
  have w:dM (n+1) g i=if d.op=0 then[(2,bl d.tx)]else if d.op=1 then[(3,35::98::fi d.u.toNat d.st.n.toNat)]else if d.op=2 then[(5,bl d.tx)]else
   if d.op=3 then[(0,[]),(2,[122,101,114,111])]++ej d.st++[(1,[])]else
   [(0,[]),(2,dR d.op)]++gA d++d.kids.flatMap (λk=>dM n g k.toNat)++[(1,[])]:=by
   conv=>lhs;unfold dM
   rw[H]
  rw[fold_add]at ax;generalize aG:bY (n+1) g i=SZ at *;generalize aJ:dM (n+1) g i=TKN at *;have aT:1<=TKN.length:=by grind
  obtain⟨f,rfl⟩:∃f',f=f'+1:=⟨f - 1,io⟩;show iE (dE f) E s=_;have W:d.op<=3->d.kids=[]:=λM=>by
   have:b5 d.op=0:=by unfold b5;omega
   rw[this]at an;exact List.length_eq_zero_iff.1 io
  have a1:d.op<=3->SZ=1:=λM=>by grind
  have start:∀(kd:Int) (N:List UInt8) (K:List TK),TKN=(kd,N)::K->kd≠1->kd≠4->kd≠6->(aL E.T s.p).kind=kd/\(aL E.T s.p).text=N/\cg E.T (s.p+1) K/\
    iE (dE f) E s=if kd=2 then kZ (dE f) E (aL E.T s.p) {s with p:=s.p+1,tm:=s.tm+1}else if kd=3 then eu {s with p:=s.p+1,tm:=s.tm+1} (hE (aL E.T s.p).text) (aL E.T s.p)else
     if kd=5 then eu {s with p:=s.p+1,tm:=s.tm+1} ⟨2,[],0,0,0,ba (aL E.T s.p).text,aX⟩ (aL E.T s.p)else me (dE f) E (aL E.T s.p) {s with p:=s.p+1,tm:=s.tm+1}:=λkd N K y j aC h6=>by rw[y]at hK;obtain⟨a,b,c,B⟩:=hK.cons;refine⟨a,b,B,?_⟩;unfold iE;dsimp only;rw[ab io,ab io,rY io,a]
  by_cases h0:d.op=0
  .rw [ag h0]at q w;obtain⟨a,b,_,y⟩:=start 2 (bl d.tx) [] w dl dl dl;rw[y,ag rfl];unfold kZ
   grind
  rw[ab h0]at q w;have added:∀(ks:List Int) (e:List Nx) (h:aH) (F:Nx) (t:aI),jf (iy E.vs g n) d.kids s.g=some (ks,e)->h.g=e->F=dW d ks->eu h F t=.ok k {h with g:=G}:=λks e h F t j Q M=>by
   rw[j]at q;have q:(if(bb e (dW d ks)).2.2=0 then some ((bb e (dW d ks)).2.1.toNat,(bb e (dW d ks)).1)else none)=some (k,G):=q;split at q
   .rename_i hz;cases q;unfold eu
    grind
   grind
  by_cases j:d.op=1
  .rw [ag j]at w;obtain⟨a,b,_,y⟩:=start 3 _ [] w dl dl dl;rw[y,ab dl,ag rfl,b];have L:jf (iy E.vs g n) d.kids s.g=some ([],s.g):=by rw[W io];rfl
   obtain⟨Y,P⟩:=hu d ap;obtain⟨aj,aA⟩:=z.nu j;have aa:=z.st;have ah:d.st=aO d.st.n/\1<=d.st.n/\d.st.n<=64:=by
    unfold br at aa;rw[aj]at aa;simp at aa;have az:d.st.x=0:=io
    refine⟨?_,io,io⟩;show(⟨d.st.k,d.st.n,d.st.x⟩:aM)=_;rw[aj,az];rfl
   have aU:hE (35::98::fi d.u.toNat d.st.n.toNat)=dW d []:=by
    have ao:=Wb aA Y P ah.2;have hb:=Qx d.u.toNat d.st.n.toNat d.st.n.toNat (bw _) ao;rw[fV (by rw[pD];omega),Nat.sub_self,Nat.pow_zero,Nat.div_one]at hb;unfold hE;rw[ab (show ¬((35:UInt8)::98::fi d.u.toNat d.st.n.toNat)[1]? =some 120 by grind)]
    show(⟨1,[],0,0,(dh 2 (fi d.u.toNat d.st.n.toNat):Int),ba [],aO (((35:UInt8)::98::fi d.u.toNat d.st.n.toNat).length - 2:Nat)⟩:Nx)=_;rw[hb,cC,cC,pD,show d.st.n.toNat+1+1 - 2=d.st.n.toNat by omega,Int.toNat_of_nonneg Y,Int.toNat_of_nonneg io,<-ah.1];have A:=z.ok.ok;have aS:=W io;obtain⟨op,kids,nn,m,u,N,st⟩:=d;dsimp only at *;subst j;unfold fa at A;simp[mr,mu]at A;unfold dW
    grind
   grind
  rw[ab j]at w;by_cases Q:d.op=2
  .rw [ag Q]at w;obtain⟨a,b,_,y⟩:=start 5 _ [] w dl dl dl;rw[y,ab dl,ab dl,ag rfl,b];have L:jf (iy E.vs g n) d.kids s.g=some ([],s.g):=by rw[W io];rfl
   have:=added [] s.g {s with p:=s.p+1,tm:=s.tm+1} ⟨2,[],0,0,0,ba (bl d.tx),aX⟩ (aL E.T s.p) L rfl (by have A:=z.ok.ok;obtain⟨op,kids,nn,m,u,N,st⟩:=d;dsimp only at *;subst Q;unfold fa at A;simp[mr,mu]at A;unfold dW;simp[A,j8])
   grind
  rw[ab Q]at w;have comp:∀(wd:List UInt8) (K:List TK) (F:Nx) (C:aH) (ks:List Int) (e:List Nx),TKN=(0,[])::(2,wd)::K->iR wd=true->(cg E.T (s.p+2) K->iT E.T (dE f {E with dp:=E.dp+1}) wd {s with p:=s.p+1+1,tm:=s.tm+1}=.ok F C/\cg E.T C.p [(1,[])])->
    jf (iy E.vs g n) d.kids s.g=some (ks,e)->C.g=e->F=dW d ks->C.p+1=s.p+TKN.length->C.tm=s.tm+SZ->iE (dE f) E s=.ok k ⟨s.p+TKN.length,s.tm+SZ,G⟩:=λwd K F C ks e y ho ar aN aQ aR hp ht=>by
   obtain⟨a,b,c,Z⟩:=start 0 [] _ y dl dl dl;rw[Z,ab dl,ab dl,ab dl];obtain⟨Y,P,q3⟩:=gB (s:={s with p:=s.p+1,tm:=s.tm+1}) c dl;obtain⟨n1,n2⟩:=ar q3;unfold me;rw[ab io,Y];show(if iR (aL E.T (s.p+1)).text then _ else _)=_;have P:(aL E.T (s.p+1)).text=wd:=P;rw[P,ag ho];show PR.b (iT E.T (dE f {E with dp:=E.dp+1}) wd {s with p:=s.p+1+1,tm:=s.tm+1}) _=_;rw[n1];show PR.b (bL E.T 1 C) _=_;obtain⟨q4,_,_⟩:=gB n2 dl;rw[q4];show eu {C with p:=C.p+1} F _=_
   grind
  by_cases M:d.op=3
  .rw [ag M]at w;have L:jf (iy E.vs g n) d.kids s.g=some ([],s.g):=by rw[W io];rfl
   have aq:(⟨3,[],0,0,0,ba [],d.st⟩:Nx)=dW d []:=by
    have A:=z.ok.ok;obtain⟨op,kids,nn,m,u,N,st⟩:=d;dsimp only at *;subst M;unfold fa at A;simp[mr,mu]at A;unfold dW
    grind
   refine comp [122,101,114,111] (ej d.st++[(1,[])]) ⟨3,[],0,0,0,ba [],d.st⟩ ⟨s.p+1+1+(ej d.st).length,s.tm+1,s.g⟩ [] s.g (by grind) dl (λJ=>?_) L rfl aq (by grind) (by grind);obtain⟨z1,z2⟩:=HB (s:={s with p:=s.p+1+1,tm:=s.tm+1}) z.st J;refine⟨?_,z2⟩;show PR.b (PR.b (iA E.T {s with p:=s.p+1+1,tm:=s.tm+1}) (λD s=>.ok ((⟨3,[],0,0,0,ba [],D⟩:Nx),0) s)) _=_;rw[z1];rfl
  rw[ab M]at w;have kids:∀(ks:List Int) (h:aH) (l:List Int) (e:List Nx) (K:List TK),(∀k∈ks,0<=k/\k<(i:Int))->jf (iy E.vs g n) ks h.g=some (l,e)->cg E.T h.p (ks.flatMap (λk=>dM n g k.toNat)++K)->(ks.flatMap λk=>dM n g k.toNat).length<=f->h.tm+ks.foldl (λD k=>D+bY n g k.toNat) 0<=65536->
    gy (dE f {E with dp:=E.dp+1}) ks.length h=.ok l ⟨h.p+(ks.flatMap λk=>dM n g k.toNat).length,h.tm+ks.foldl (λD k=>D+bY n g k.toNat) 0,e⟩:=by
   intro ks;induction ks with
   |nil=>
    intro h l e K _ j _ _ _;have j:(([]:List Int),h.g)=(l,e):=by simpa[jf]using j
    cases j;rfl
   |cons B ks ih=>
    intro h l e K af j S ae ay;have hq:=af B hJ;rw[dz]at S ae ⊢;rw[bG]at ae;rw[cU]at S;rw[List.foldl_cons,fold_add,Nat.zero_add]at ay ⊢;unfold jf at j;cases hF:iy E.vs g n B.toNat h.g with
    |none=>grind
    |some a=>
     obtain⟨ka,O⟩:=a;rw[hF]at j;have j:(jf (iy E.vs g n) ks O).map (λl=>((ka:Int)::l.1,l.2))=some (l,e):=j;cases hR:jf (iy E.vs g n) ks O with
     |none=>grind
     |some b=>
      obtain⟨lb,Gb⟩:=b;rw[hR]at j;have j:((ka:Int)::lb,Gb)=(l,e):=by grind
      cases j;have r1:=RZ hv hu n f B.toNat {E with dp:=E.dp+1} h ka O io io hF S.app.1 io (by grind) io aw;show PR.b (dE f {E with dp:=E.dp+1} h) _=_;rw[r1];have r2:=ih ⟨h.p+(dM n g B.toNat).length,h.tm+bY n g B.toNat,O⟩ lb e K (λk J=>af k (cP _ J)) hR S.app.2 io (by grind);show PR.b (gy (dE f {E with dp:=E.dp+1}) ks.length ⟨h.p+(dM n g B.toNat).length,h.tm+bY n g B.toNat,O⟩) _=_;rw[r2];show PR.ok _ _=_
      grind
  have aV:TKN.length=2+(gA d).length+(d.kids.flatMap λk=>dM n g k.toNat).length+1:=by grind
  cases L:jf (iy E.vs g n) d.kids s.g with
  |none=>grind
  |some a=>
   obtain⟨ks,e⟩:=a;refine comp (dR d.op) (gA d++((d.kids.flatMap λk=>dM n g k.toNat)++[(1,[])])) (dW d ks) ⟨s.p+1+1+(gA d).length+(d.kids.flatMap λk=>dM n g k.toNat).length,s.tm+1+d.kids.foldl (λD k=>D+bY n g k.toNat) 0,e⟩ ks e (by grind) (Zz io av.2) (λJ=>?_) L rfl rfl (by grind) (by grind);obtain⟨Z,k1⟩:=Zj (s:={s with p:=s.p+1+1,tm:=s.tm+1}) z io J;have e2:=kids d.kids {s with p:=s.p+1+1+(gA d).length,tm:=s.tm+1} ks e [(1,[])] am L k1 io (by grind);refine⟨?_,k1.app.2⟩;show PR.b (h4 E.T (dR d.op) {s with p:=s.p+1+1,tm:=s.tm+1}) _=_;rw[Z];show PR.b (gy (dE f {E with dp:=E.dp+1}) d.kids.length {s with p:=s.p+1+1+(gA d).length,tm:=s.tm+1}) _=_;rw[e2];rfl
abbrev w7:ByteArray:=⟨#[48,49,50,51,52,53,54,55,56,57]⟩
def uF(d:Nat):ByteArray:=w7.extract d (d+1)
def X8:∀n<10,uF n++a' #[]=ba (bU n):=dl
def X9:∀n<100,10<=n->uF (n / 10)++(uF (n%10)++a' #[])=ba (bU n):=dl
def Kq:∀n<10,(uF n).size=1:=dl
section
variable {w:I} {R:aC}
def Ko(k:Nat)(z:0<k)(A:k<100)(n:Int)(s:ByteArray)(B:s.size<=10)(j:pR.L1 n w7 (uF (k%10)++s) ((k / 10:Nat):Int) w R):pR.L1 n w7 s (k:Int) w R:=by
 have d:eI (k:Int) 10=((k%10:Nat):Int):=rfl;have q:dV (k:Int) 10=((k / 10:Nat):Int):=rfl;have x:k%10<10:=Nat.mod_lt _ io;have y:=Kq _ x;refine pR.iH (aR (by simp;omega) (aQ (by rw[d];exact a2 io) ?_));rw[d];have e:aB .i64 (((k%10:Nat):Int)+1)=((k%10+1:Nat):Int):=bm _ io;have h:w7.extract (a0 ((k%10:Nat):Int)) (a0 ((k%10+1:Nat):Int))=uF (k%10):=rfl;dsimp only[pR.S2,ah];dsimp only[pR.S3,ah];rw[e,h,q,IntWalk.i64_in _ io];refine⟨io,?_,io,by rw[bR];omega,?_,j⟩
 .show ((k%10+1:Nat):Int)<=((10:Nat):Int);omega
 .rw [y,IntKind.max_i64];omega
end
def r6{w:I}{n:Int}(j:0<=n)(x:n<100):ai U Fp #[.i n] w λr e=>r=ad (.string (ba (bU n.toNat)))/\af w e:=by
 obtain⟨m,rfl⟩:=Int.eq_ofNat_of_zero_le j;rw[bR];have fin:∀s:ByteArray,s=ba (bU m)->pR.L1 (m:Int) w7 s ((0:Nat):Int) w λr e=>r=ad (.string (ba (bU m)))/\af w e:=λs k=>
  pR.iH (aQ rfl (aQ (a2 io) ⟨by rw[k],Fr.refl _ _⟩))
 refine pR.ok (aw (λh=>⟨by rw[show m=0 by omega];rfl,Fr.refl _ _⟩) (λh=>?_));refine Ko m io io _ _ dl ?_;rcases Nat.lt_or_ge m 10 with d|d
 .rw [show m / 10=0 by omega,show m%10=m by omega];exact fin _ (X8 _ d)
 .have q:=Kq (m%10) (Nat.mod_lt _ io);refine Ko (m / 10) io io _ _ (by rw[ByteArray.size_append,q];decide) ?_;rw[show m / 10 / 10=0 by omega,show m / 10%10=m / 10 by omega];exact fin _ (X9 _ io d)
def ov{a b:ByteArray}(d:a.size<=1000000)(e:b.size<=1000000):¬((((a.size+b.size:Nat)):Int)>IntKind.i64.max):=by rw[IntKind.max_i64];omega
def jI(n:Nat):(bU n).length<=2:=by unfold bU;split<;>simp
def TF(s:aM):(jZ s).length<=20:=by
 have e:=jI s.x.toNat;have h:=jI s.n.toNat;have j:(hN s.k).length<=3:=by
  unfold hN;generalize s.k.toNat=d
  match d with
  |0=>decide
  |1=>decide
  |2=>decide
  |3=>decide
  |d+4=>simp
 unfold jZ;split<;>simp<;>omega
def JR{s:aM}(J:br s=true)(w:I):ai U Ov #[dg s] w λr q=>r=ad (.string (ba (jZ s)))/\af w q:=by
 obtain⟨a,b,c,N,F,f⟩:=rI J;have P:=jI s.x.toNat;have Q:=jI s.n.toNat;refine z3.aq ((bM (w:=w) [] gs).ax λz C E=>E.nw λh _ e=>⟨a,io,?_⟩);have e:O F0 w h [.g z,.c C.heap.size [.string (ba [98,118]),.string (ba [115,116,114]),.string (ba [97,114,114]),.string (ba [97,114,115])] eH] []:=e;have A:∀(k:Int),s.k=k->(hN k).length<=3->h.cell? ((aa C.heap.size).add (a0 k *1))=some (.string (ba (hN k)))->dJ (some (aa C.heap.size)) λp=>∃t:ByteArray,h.cell? (p.add (a0 s.k *1))=some (.string t)/\¬((((a' #[40]).size+t.size:Nat):Int)>IntKind.i64.max)/\¬(((((a' #[40])++t).size+(a' #[32]).size:Nat):Int)>IntKind.i64.max)/\z3.aV z s.k s.n s.x (((a' #[40])++t)++(a' #[32])) h λr q=>r=ad (.string (ba (jZ s)))/\af w q:=by
  intro k d M K;subst d;have T:(ba (hN s.k)).size<=3:=by rw[be];exact M
  refine⟨_,K,ov dl io,ov (by rw[ByteArray.size_append];show 1+_<=_;omega) dl,?_⟩;have D:∀(o:List UInt8) (j:I),o.length<=20->O F0 w j [.g z] []->jZ s=o++bU s.n.toNat++[41]->z3.bg z s.k s.n s.x (ba o) j λr q=>r=ad (.string (ba (jZ s)))/\af w q:=by intro o j S y L;refine y.av (r6 (w:=j) c io) ?_;rintro _ W rfl B;refine⟨_,rfl,ov (by rw[be];omega) (by rw[be];omega),ov (by rw[ByteArray.size_append,be,be];omega) dl,?_,B.fr⟩;rw[L,<-bT,<-bT];rfl
  have G:((a' #[40])++ba (hN s.k))++(a' #[32])=ba (40::hN s.k++[32]):=by rw[<-bT];congr 1
  rw[G];have y:=e.take 1;refine aT (λd=>?_) (λd=>?_)
  .refine y.av (r6 (w:=h) F io) ?_;rintro _ j rfl B;refine⟨_,rfl,ov (by rw[be];simp;omega) (by rw[be];omega),ov (by rw[ByteArray.size_append,be,be];simp;omega) dl,?_⟩;have H:(ba (40::hN s.k++[32])++ba (bU s.x.toNat))++(a' #[32])=ba (40::hN s.k++[32]++bU s.x.toNat++[32]):=by rw[<-bT,<-bT];rfl
   rw[H];refine D _ j (by simp;omega) B ?_;unfold jZ;rw[ag d];simp
  .refine D _ h (by simp;omega) y ?_;unfold jZ;rw[ab d];simp
 have d:s.k=0\/s.k=1\/s.k=2\/s.k=3:=io
 rcases d with d|d|d|d
 .exact A 0 d dl (e.ld 1 0)
 .exact A 1 d dl (e.ld 1 1)
 .exact A 2 d dl (e.ld 1 2)
 .exact A 3 d dl (e.ld 1 3)
def Qv{g:List Nx}(q:zf g):∀(f i:Nat),i<f->∀e,i<e->eT f g i=eT e g i
 |0,i,j,_,_=>absurd j io
 |f+1,i,j,0,k=>absurd k io
 |f+1,i,j,e+1,k=>by
  unfold eT;cases x:g[i]? with
  |none=>rfl
  |some h=>
   dsimp only;have w:h.kids.flatMap (λd=>32::eT f g d.toNat)=h.kids.flatMap (λd=>32::eT e g d.toNat):=by rw[List.flatMap_def,List.flatMap_def];congr 1;refine List.map_congr_left λd y=>?_;obtain⟨z,A⟩:=q i h x d y;rw[Qv q f d.toNat io e io]
   rw[w]
structure IC(g:List Nx):Prop where
 v:Vg g
 u:∀d∈g,0<=d.u/\d.u<18446744073709551616
 t:∀d∈g,d.tx.size<=1000000
 l:∀i<g.length,(eT (i+1) g i).length<=65536
def V3(u i:Nat)(x:u<18446744073709551616)(hi:i<64):aB .i64 (W.r3 .u64 (Int.fdiv (u:Int) (2^(min (a0 (aB .u64 (i:Int))) (IntKind.bits .u64)))) 1)=if u.testBit i then 1 else 0:=by
 have e:aB .u64 (i:Int)=(i:Int):=IntWalk.u64_in _ io;have h:min (a0 (i:Int)) (IntKind.bits .u64)=i:=by rw[bR];show min i 64=i;omega
 rw[e,h];have j:Int.fdiv (u:Int) (2^i)=((u / 2^i:Nat):Int):=by
  rw[Int.fdiv_eq_ediv_of_nonneg _ (by exact Int.le_of_lt (Int.pow_pos io))];have:((2:Int)^i)=((2^i:Nat):Int):=by rw[Int.natCast_pow];rfl
  rw[this];rfl
 rw[j];have w:u / 2^i<18446744073709551616:=Nat.lt_of_le_of_lt (Nat.div_le_self _ _) x;have k:W.r3 .u64 ((u / 2^i:Nat):Int) 1=((u / 2^i%2:Nat):Int):=by have:=W.V5 (u / 2^i) 1 w dl;rw[Nat.and_one_is_mod]at this;exact this
 rw[k];have q:u.testBit i=ak (u / 2^i%2=1):=by rw[Nat.testBit_eq_decide_div_mod_eq]
 rw[q];have d:u / 2^i%2=0\/u / 2^i%2=1:=io
 rcases d with d|d<;>rw[d]<;>rfl
def Wf(u n k:Nat)(d:k<n):(fi u n).drop (n - 1 - k)=(if u.testBit k then 49 else 48)::(fi u n).drop (n - k):=by have e:=pD u n;rw[List.drop_eq_getElem_cons io,show n - 1 - k+1=n - k by omega];congr 1;unfold fi;simp only[List.getElem_map,List.getElem_reverse,List.length_range,List.getElem_range];rw[show n - 1 - (n - 1 - k)=k by omega]
section
variable {w:I} {s:Sl} {l:List Nd}
def Ju{b:Nat}{x0 x2 x3 x4 x6 x7 x8:Int}{x1:Sl}{x5:ByteArray}{L D:List En}{u n:Nat}(F:x4=(u:Int))(q:u<18446744073709551616)(E:n<=64){R:aC}(j:∀e,O F0 w e L D->R (ad (.string (ba (35::98::fi u n)))) e)(B:En.g b∈L):∀(k:Nat) (d:I),k<=n->O F0 w d L D->
  jc.a1 b x0 x1 x2 x3 x4 x5 x6 x7 x8 (ba (35::98::(fi u n).take (n - k))) ((k:Int) - 1) d R
 |0,d,_,h=>by refine jc.bS (aQ (a2 io) ?_);rw[fV (by rw[pD];omega)];exact j d h
 |k+1,d,H,h=>by
  have J:=pD u n;have K:((fi u n).take (n - (k+1))).length<=64:=by rw[jW];omega
  have y:(((k+1:Nat):Int) - 1)=(k:Int):=io
  rw[y];refine jc.bS (aR (a5 io) ⟨by rw[IntWalk.u64_in _ io];omega,?_⟩);subst F;rw[V3 u k q io];have C:ai U Fp #[.i (if u.testBit k then 1 else 0)] d λr e=>r=ad (.string (ba [if u.testBit k then 49 else 48]))/\af d e:=by have:=r6 (w:=d) (n:=if u.testBit k then 1 else 0) (by split<;>decide) (by split<;>decide);revert this;cases u.testBit k<;>exact id
  refine h.av C ?_;rintro _ G rfl x;refine⟨_,rfl,ov (by rw[be];simp;omega) (by rw[be];simp),?_⟩;rw[IntWalk.i64_in _ io,bT];have z:35::98::(fi u n).take (n - (k+1))++[if u.testBit k then 49 else 48]=35::98::(fi u n).take (n - k):=by
   have A:(fi u n)[n - (k+1)]? =some (if u.testBit k then 49 else 48):=by have:=Wf u n k io;rw[<-List.head?_drop,show n - (k+1)=n - 1 - k by omega,this];rfl
   show 35::98::((fi u n).take (n - (k+1))++[_])=_;rw[show n - k=n - (k+1)+1 by omega,fJ,A];rfl
  rw[z];exact Ju (R:=R) rfl q E j B k G io x
end
def oy(vs:List (List UInt8×Nat))(g G:List Nx):Prop:=∀d∈g,d.op=0->∃h e,lk vs (bl d.tx)=some h/\G[h]? =some e/\e.st=d.st
def nV{α:Type}{l r:List α}{k:Nat}{e:α}(d:l[k]? =some e):(l++r)[k]? =some e:=by rw[List.getElem?_append_left (cL.1 d).1];exact d
def oy.app{vs:List (List UInt8×Nat)}{g G:List Nx}(h:oy vs g G)(r:List Nx):oy vs g (G++r):=λd x j=>by obtain⟨y,e,k,q,w⟩:=h d x j;exact⟨y,e,k,nV q,w⟩
def adH{g G:List Nx}{d:Nx}{ks:List Int}(P:1<=d.op)(h:bA g d=(d.st,0))(M:ks.length=d.kids.length)(z:∀(j:Nat) (k q:Int),d.kids[j]? =some k->ks[j]? =some q->0<=q/\∃e y,g[k.toNat]? =some e/\G[q.toNat]? =some y/\y.st=e.st):bA G (dW d ks)=(d.st,0):=by
 have O:=BQ (g:=g) (n:=d) (by rw[h]);have C:∀j,bf G (dW d ks) j=bf g d j:=λj=>by
  unfold bf;show(match ks[j]? with
   |some k=>match G[k.toNat]? with
    |some d=>d.st
    |none=>aX
   |none=>aX)=_
  cases w:d.kids[j]? with
  |none=>
   have:ks[j]? =none:=List.getElem?_eq_none (by have:=List.getElem?_eq_none_iff.1 w;omega);rw[this]
  |some k=>
   have J:=(cL.1 w).1;have x:ks[j]? =some (ks[j]'io):=aY io;generalize ks[j]'io=q at x;obtain⟨_,e,y,a,b,c⟩:=z j k q w x;rw[x];dsimp only;rw[a,b];exact c
 have E:ks.all (dI G)=true:=dS.2 λq x=>by obtain⟨j,w⟩:=List.mem_iff_getElem?.1 x;have J:=(cL.1 w).1;have K:d.kids[j]? =some (d.kids[j]'io):=aY io;obtain⟨a,e,y,_,b,_⟩:=z j _ q K w;have:=(cL.1 b).1;unfold dI;simp;omega
 have F:d.kids.all (dI g)=true:=dS.2 λk z=>by have:=O.ki k z;unfold dI;simp;omega
 have H:fa (dW d ks)=fa d:=rfl;have L:(b5 d.op==(ks.length:Int))=(b5 d.op==(d.kids.length:Int)):=by rw[M]
 have N:d.op<=3->cb G (dW d ks)=cb g d:=λB=>by
  by_cases A:d.op=2
  .unfold cb;rw[ag A,ag (show(dW d ks).op=2 from A)];rfl
  .have e:(dW d ks).st=d.st:=by show(if d.op=1\/d.op=3 then d.st else aX)=_;rw[ag io]
   have D:¬d.op=0:=io
   have o:(dW d ks).op=d.op:=rfl;have u:(dW d ks).u=d.u:=rfl;unfold cb;rw[e,o,u];simp only[D,false_and,A];rfl
 unfold bA at h ⊢;rw[C,C,C];show(if(b5 d.op==(ks.length:Int)&&ks.all (dI G)&&fa (dW d ks))=false then(aX,1)else
  if d.op<=3 then cb G (dW d ks)else
  if eD d.op (bf g d 0) (bf g d 1) (bf g d 2)=false then(aX,9)else
  if iC d (bf g d 0) (bf g d 1) (bf g d 2)=false then(aX,5)else
  if d.op=33/\mb d.tx=false then(aX,2)else(gZ d (bf g d 0) (bf g d 1) (bf g d 2),0))=_
 rw[E,H,L];rw[F]at h;by_cases B:d.op<=3
 .rw [N B];exact h
 .rw [ab B]at h ⊢;exact h
def uh{G:List Nx}{n:Nx}{z:aM}(q:bA G n=(z,0))(A:G.length<4096)(w:Vg G):(bb G n).2.2=0/\∃r,(bb G n).1=G++r/\r.length<=1/\(∀h∈r,h=eo n z)/\Vg (bb G n).1/\(bb G n).1[(bb G n).2.1.toNat]? =some (eo n z):=by
 have e:(bb G n).2.2=0:=by
  unfold bb;rw[q,ab gs];dsimp only;split
  .rfl
  .rw [ab io]
 obtain⟨_,y,x,j,d⟩:=pC e;rw[q]at j d;refine⟨e,?_⟩;rw[x];show ∃r,_/\_/\_/\_/\(bb G n).1[y]? =_;rcases d with d|⟨_,d,_⟩
 .exact ⟨[],by rw[d,cQ],gs,λh k=>(by cases k),zr w e,j⟩
 .exact ⟨_,d,gs,λh k=>cy.1 k,zr w e,j⟩
def L9{g:List Nx}(E:Vg g){vs:List (List UInt8×Nat)}:∀(n i:Nat) (G:List Nx),i<n->i<g.length->Vg G->oy vs g G->G.length+bY n g i<=4096->
  ∃k r e d,iy vs g n i G=some (k,G++r)/\r.length<=bY n g i/\Vg (G++r)/\(∀d∈r,d.op≠0)/\g[i]? =some e/\(G++r)[k]? =some d/\d.st=e.st
 |0,i,G,Q,_,_,_,_=>absurd Q io
 |n+1,i,G,Q,N,z,A,W=>by
  have y:g[i]? =some (g[i]'N):=aY N;generalize g[i]'N=e at y;have aa:=aD y;have hd:=rJ E y;have af:=hd.op;have S:=λk w=>E.kids y k w;have ac:bY (n+1) g i=e.kids.foldl (λB k=>B+bY n g k.toNat) 1:=by
   conv=>lhs;unfold bY
   rw[y]
  rw[fold_add]at ac;unfold iy;rw[y];show ∃k r d' d,(if e.op=0 then(lk vs (bl e.tx)).map λk=>(k,G)else(jf (iy vs g n) e.kids G).bind λa=>if(bb a.2 (dW e a.1)).2.2=0 then some ((bb a.2 (dW e a.1)).2.1.toNat,(bb a.2 (dW e a.1)).1)else none)=some (k,G++r)/\_;by_cases D:e.op=0
  .obtain ⟨k,d,h1,h2,h3⟩:=A e aa D;rw[ag D,h1];exact⟨k,[],e,d,by rw[cQ];rfl,gs,by rw[cQ];exact z,λd h=>(by cases h),rfl,by rw[cQ];exact h2,h3⟩
  rw[ab D];have kids:∀(ks:List Int) (G:List Nx),(∀k∈ks,0<=k/\k<(i:Int))->Vg G->oy vs g G->G.length+ks.foldl (λB k=>B+bY n g k.toNat) 0<=4096->
    ∃l r,jf (iy vs g n) ks G=some (l,G++r)/\r.length<=ks.foldl (λB k=>B+bY n g k.toNat) 0/\Vg (G++r)/\(∀d∈r,d.op≠0)/\l.length=ks.length/\
     ∀(j:Nat) (k q:Int),ks[j]? =some k->l[j]? =some q->0<=q/\∃d C,g[k.toNat]? =some d/\(G++r)[q.toNat]? =some C/\C.st=d.st:=by
   intro ks;induction ks with
   |nil=>exact λG _ z _ _=>⟨[],[],by rw[cQ];rfl,gs,by rw[cQ];exact z,λd h=>(by cases h),rfl,λj k q w=>(by simp at w)⟩
   |cons k ks ih=>
    intro G T z A W;have ae:=T k hJ;rw[List.foldl_cons,fold_add,Nat.zero_add]at W ⊢;obtain⟨q,F,d1,e1,Y,a2,Z,a4,a5,a6,a7⟩:=L9 E n k.toNat G io io z A io;obtain⟨l,O,H,b2,J,K,L,M⟩:=ih (G++F) (λq x=>T q (cP _ x)) Z (A.app F) (by rw[bG];omega);refine⟨(q:Int)::l,F++O,?_,by rw[bG];omega,by rw[<-cU];exact J,λd h=>(aP.1 h).elim (a4 d) (K d),by rw[cC,cC,L],λj k' q' w x=>?_⟩
    .unfold jf;rw[Y];show(jf (iy vs g n) ks (G++F)).map (λl=>((q:Int)::l.1,l.2))=_;rw[H,cU];rfl
    .rw [<-cU];cases j with
     |zero=>
      rw[List.getElem?_cons_zero]at w x;cases w;cases x;exact⟨Int.natCast_nonneg _,d1,e1,a5,nV (by rw[bR];exact a6),a7⟩
     |succ j=>
      rw[List.getElem?_cons_succ]at w x;exact M j k' q' w x
  obtain⟨l,r,H,b2,J,K,L,M⟩:=kids e.kids G S z A io;rw[H];show ∃k r' d' d,(if(bb (G++r) (dW e l)).2.2=0 then some ((bb (G++r) (dW e l)).2.1.toNat,(bb (G++r) (dW e l)).1)else none)=some (k,G++r')/\_;have hs:=adH (g:=g.take i) (G:=G++r) (ks:=l) io (E.ok i e y) L λj k q w x=>by obtain⟨c1,d,C,c2,c3,c4⟩:=M j k q w x;have:=S k (aD w);exact⟨c1,d,C,by rw[List.getElem?_take_of_lt io];exact c2,c3,c4⟩
  obtain⟨z0,O,P,z2,z3,z4,z5⟩:=uh hs (by rw[bG];omega) J;rw[ag z0];refine⟨_,r++O,e,eo (dW e l) e.st,by rw[<-cU,<-P],by rw[bG];omega,by rw[<-cU,<-P];exact z4,λd h=>?_,rfl,by rw[<-cU,<-P];exact z5,rfl⟩;rcases aP.1 h with h|h
  .exact K d h
  .rw [z3 d h];exact D
def eW(E:bW)(q:Nat)(K:List TK)(m:Nat)(G:List Nx)(k:Nat)(d:List Nx):Prop:=
 ∀(f:Nat) (s:aH),q<=f->cg E.T s.p K->s.g=G->s.tm+m<=65536->dE f E s=.ok k ⟨s.p+K.length,s.tm+m,d⟩
def hV(E:bW)(q n:Nat)(K:List TK)(m:Nat)(G:List Nx)(l:List Int)(d:List Nx):Prop:=
 ∀(f:Nat) (s:aH),q<=f->cg E.T s.p K->s.g=G->s.tm+m<=65536->gy (dE f E) n s=.ok l ⟨s.p+K.length,s.tm+m,d⟩
section
variable {E:bW} {G G1 G2:List Nx} {K K1:List TK} {q q1 m m1 k n:Nat} {l:List Int} {t:List UInt8}
def hV.nil:hV E 0 0 [] 0 G [] G:=λf s _ _ d _=>by subst d;rfl
def hV.cons(e:eW E q K m G k G1)(h:hV E q1 n K1 m1 G1 l G2):hV E (max q q1) (n+1) (K++K1) (m+m1) G ((k:Int)::l) G2:=λf s w d j x=>by show PR.b (dE f E s) _=_;rw[e f s io d.app.1 j io];show PR.b (gy (dE f E) n ⟨s.p+K.length,s.tm+m,G1⟩) _=_;rw[h f ⟨s.p+K.length,s.tm+m,G1⟩ io d.app.2 rfl (by show s.tm+m+m1<=_;omega)];show PR.ok _ _=_;rw[bG,<-Nat.add_assoc,<-Nat.add_assoc]
def yW{f:Nat}{s:aH}{kd:Int}(d:cg E.T s.p ((kd,t)::K))(e:kd≠1)(h:kd≠4)(j:kd≠6)(k:s.tm<65536):(aL E.T s.p).text=t/\cg E.T (s.p+1) K/\
  dE (f+1) E s=if kd=2 then kZ (dE f) E (aL E.T s.p) {s with p:=s.p+1,tm:=s.tm+1}else if kd=3 then eu {s with p:=s.p+1,tm:=s.tm+1} (hE (aL E.T s.p).text) (aL E.T s.p)else
   if kd=5 then eu {s with p:=s.p+1,tm:=s.tm+1} ⟨2,[],0,0,0,ba (aL E.T s.p).text,aX⟩ (aL E.T s.p)else me (dE f) E (aL E.T s.p) {s with p:=s.p+1,tm:=s.tm+1}:=by obtain⟨a,b,_,c⟩:=d.cons;refine⟨b,c,?_⟩;show iE (dE f) E s=_;unfold iE;dsimp only;rw[ab io,ab io,rY io,a]
def o7(d:q+1<=n):∃f,n=f+1/\q<=f:=⟨n - 1,io,io⟩
def eW.pm(e:lk E.pm t=some k):eW E 1 [(2,t)] 1 G k G:=λf s j h q w=>by obtain⟨f,rfl,_⟩:=o7 j;obtain⟨a,_,d⟩:=yW (f:=f) h dl dl dl io;subst q;rw[d,ag rfl];unfold kZ;rw[a,e];rfl
def eW.vs(h:lk E.pm t=none)(e:lk E.vs t=some k):eW E 1 [(2,t)] 1 G k G:=λf s q j w x=>by obtain⟨f,rfl,_⟩:=o7 q;obtain⟨a,_,d⟩:=yW (f:=f) j dl dl dl io;subst w;rw[d,ag rfl];unfold kZ;rw[a,h,e];rfl
def eW.nm{mc:PM}(w:lk E.pm t=none)(C:lk E.vs t=none)(j:h6 E t=some mc)(e:mc.ps=[])(y:cg E.T mc.b K)(B:eW {E with pm:=[],kn:=mc.ix} q K m G k G1):eW E (q+1) [(2,t)] (m+1) G k G1:=λf s d x A D=>by obtain⟨f,rfl,z⟩:=o7 d;replace d:=z;obtain⟨a,_,h⟩:=yW (f:=f) x dl dl dl io;rw[h,ag rfl];unfold kZ;rw[a,w,C,j];dsimp only;rw[ag e];unfold hY;rw[e];show PR.b (dE f {E with pm:=[],kn:=mc.ix} ⟨mc.b,s.tm+1,s.g⟩) _=_;rw[B f ⟨mc.b,s.tm+1,s.g⟩ d y A (by show s.tm+1+m<=_;omega)];show PR.ok k _=_;rw[Nat.add_assoc,Nat.add_comm 1 m];rfl
def DS{f:Nat}{s:aH}{w:List UInt8}(j:cg E.T s.p ((0,[])::(2,w)::K))(hd:E.dp<64)(k:s.tm<65536):cg E.T (s.p+2) K/\(aL E.T (s.p+1)).text=w/\
  dE (f+1) E s=if iR w then(iT E.T (dE f {E with dp:=E.dp+1}) w ⟨s.p+2,s.tm+1,s.g⟩).b λn e=>(bL E.T 1 e).b λ_ e=>eu e n (aL E.T s.p)
   else pG (dE f) {E with dp:=E.dp+1} (aL E.T s.p) (aL E.T (s.p+1)) ⟨s.p+2,s.tm+1,s.g⟩:=by obtain⟨a,b,h⟩:=yW (f:=f) j dl dl dl k;obtain⟨q1,d,q⟩:=gB (s:={s with p:=s.p+1,tm:=s.tm+1}) b dl;have d:(aL E.T (s.p+1)).text=w:=d;refine⟨q,d,?_⟩;rw[h,ab dl,ab dl,ab dl];unfold me;rw[ab io,q1];show(if iR (aL E.T (s.p+1)).text then _ else _)=_;rw[d]
def eW.op{w:List UInt8}{op:Int}(h:lk fu w=some (op,n))(e:ye w=true)(hd:E.dp<64)(F:hV {E with dp:=E.dp+1} q n K m G l G1)(y:(bb G1 {ft op with kids:=l}).2.2=0)(C:(bb G1 {ft op with kids:=l}).2.1=(k:Int)):
  eW E (q+1) ((0,[])::(2,w)::(K++[(1,[])])) (m+1) G k (bb G1 {ft op with kids:=l}).1:=λf s d x A Q=>by
 obtain⟨f,rfl,z⟩:=o7 d;replace d:=z;obtain⟨a,_,j⟩:=DS (f:=f) x hd io;have D:iR w=true:=by unfold iR;rw[h];simp
 rw[j,ag D];unfold ye at e;simp only[bd,decide_eq_true_eq]at e;obtain⟨⟨⟨⟨⟨⟨H,J⟩,L⟩,M⟩,N⟩,O⟩,P⟩:=e;have B:h4 E.T w ⟨s.p+2,s.tm+1,s.g⟩=.ok (ft op,n) ⟨s.p+2,s.tm+1,s.g⟩:=by unfold h4;rw[ab H,ab J,ab L,ab M,ab N,ab O,ab P,h];rfl
 unfold iT;rw[B];show PR.b (PR.b (gy (dE f {E with dp:=E.dp+1}) n ⟨s.p+2,s.tm+1,s.g⟩) _) _=_;rw[F f ⟨s.p+2,s.tm+1,s.g⟩ d a.app.1 A (by show s.tm+1+m<=_;omega)];show PR.b (bL E.T 1 ⟨s.p+2+K.length,s.tm+1+m,G1⟩) _=_;obtain⟨c,_,_⟩:=gB (s:=⟨s.p+2+K.length,s.tm+1+m,G1⟩) a.app.2 dl;rw[c];show(if(bb G1 {ft op with kids:=l}).2.2=0 then PR.ok (bb G1 {ft op with kids:=l}).2.1.toNat _ else _)=_;rw[ag y,C,bR];simp only[cC,bG,List.length_nil];rw[show s.p+2+K.length+1=s.p+(K.length+(0+1)+1+1)by omega,show s.tm+1+m=s.tm+(m+1)by omega]
def eW.num{u z:Nat}(A:u<100)(B:z<100)(hd:E.dp<64)(j:(bb G ⟨1,[],0,0,(u:Int),ba [],aO (z:Int)⟩).2.2=0)(y:(bb G ⟨1,[],0,0,(u:Int),ba [],aO (z:Int)⟩).2.1=(k:Int)):
  eW E 1 [(0,[]),(2,[110,117,109]),(4,bU u),(4,bU z),(1,[])] 1 G k (bb G ⟨1,[],0,0,(u:Int),ba [],aO (z:Int)⟩).1:=λf s d h w J=>by
 obtain⟨f,rfl,q⟩:=o7 d;replace d:=q;obtain⟨a,_,e⟩:=DS (f:=f) h hd io;rw[e,ag dl];obtain⟨C,F⟩:=Ai (s:=⟨s.p+2,s.tm+1,s.g⟩) a;obtain⟨D,H⟩:=Ai (s:=⟨s.p+2+1,s.tm+1,s.g⟩) F;have x:h4 E.T [110,117,109] ⟨s.p+2,s.tm+1,s.g⟩=.ok (⟨1,[],0,0,(u:Int),ba [],aO (z:Int)⟩,0) ⟨s.p+2+1+1,s.tm+1,s.g⟩:=by show PR.b (dd E.T ⟨s.p+2,s.tm+1,s.g⟩) _=_;rw[C];show PR.b (dd E.T ⟨s.p+2+1,s.tm+1,s.g⟩) _=_;rw[D,D2 _ A,D2 _ B];rfl
 unfold iT;rw[x];show PR.b (bL E.T 1 ⟨s.p+2+1+1,s.tm+1,s.g⟩) _=_;obtain⟨c,_,_⟩:=gB (s:=⟨s.p+2+1+1,s.tm+1,s.g⟩) H dl;rw[c];subst w;show(if(bb s.g ⟨1,[],0,0,(u:Int),ba [],aO (z:Int)⟩).2.2=0 then PR.ok (bb s.g ⟨1,[],0,0,(u:Int),ba [],aO (z:Int)⟩).2.1.toNat _ else _)=_;rw[ag j,y,bR];rfl
def eW.call{w:List UInt8}{mc:PM}{KB:List TK}{j d:Nat}(H:iR w=false)(hd:E.dp<64)(e:h6 E w=some mc)(D:hV {E with dp:=E.dp+1} q mc.ps.length K m G l G1)(F:k' G1 mc.ps l=true)(A:cg E.T mc.b KB)(y:eW {E with dp:=E.dp+1,pm:=i9 mc.ps l,kn:=mc.ix} j KB d G1 k G2):eW E (max q j+1) ((0,[])::(2,w)::(K++[(1,[])])) (m+d+1) G k G2:=λf s h z C J=>by
 obtain⟨f,rfl,B⟩:=o7 h;replace h:=B;obtain⟨a,b,x⟩:=DS (f:=f) z hd io;rw[x,ab (by rw[H];decide)];unfold pG;have e:h6 {E with dp:=E.dp+1} (aL E.T (s.p+1)).text=some mc:=by rw[b];exact e
 rw[e];show PR.b (gy (dE f {E with dp:=E.dp+1}) mc.ps.length ⟨s.p+2,s.tm+1,s.g⟩) _=_;rw[D f ⟨s.p+2,s.tm+1,s.g⟩ io a.app.1 C (by show s.tm+1+m<=_;omega)];show PR.b (bL E.T 1 ⟨s.p+2+K.length,s.tm+1+m,G1⟩) _=_;obtain⟨c,_,_⟩:=gB (s:=⟨s.p+2+K.length,s.tm+1+m,G1⟩) a.app.2 dl;rw[c];show(if k' G1 mc.ps l=true then hY (dE f) {E with dp:=E.dp+1} mc l ⟨s.p+2+K.length+1,s.tm+1+m,G1⟩else _)=_;rw[ag F];unfold hY;show PR.b (dE f {E with dp:=E.dp+1,pm:=i9 mc.ps l,kn:=mc.ix} ⟨mc.b,s.tm+1+m,G1⟩) _=_;rw[y f ⟨mc.b,s.tm+1+m,G1⟩ io A rfl (by show s.tm+1+m+d<=_;omega)];show PR.ok k _=_;simp only[cC,bG,List.length_nil];rw[show s.p+2+K.length+1=s.p+(K.length+(0+1)+1+1)by omega,show s.tm+1+m+d=s.tm+(m+d+1)by omega]
end
def eW.tx{g:List Nx}(A:Vg g)(z:∀d∈g,0<=d.u/\d.u<18446744073709551616){E:bW}{i k:Nat}{G e:List Nx}(hi:i<g.length)(h:iy E.vs g (i+1) i G=some (k,e))(hd:E.dp+i<64)(x:∀d∈g,d.op=0->lk E.pm (bl d.tx)=none):
  eW E (dM (i+1) g i).length (dM (i+1) g i) (bY (i+1) g i) G k e:=λf s q j w y=>by subst w;exact RZ A z (i+1) f i E s k e (Nat.lt_succ_self _) hi h j q hd y x
def cY(T:List aI)(n:Nat)(K:List TK)(x y:bJ):Prop:=cg T x.s.p K->y.s.p=x.s.p+K.length/\∀f,hM T (f+n) x=hM T f y
section
variable {T:List aI} {x y z:bJ} {K K1:List TK} {n m:Nat}
def cY.nil:cY T 0 [] x x:=λ_=>⟨rfl,λ_=>rfl⟩
def cY.app(e:cY T n K x y)(h:cY T m K1 y z):cY T (n+m) (K++K1) x z:=λd=>by
 obtain⟨a,b⟩:=e d.app.1;obtain⟨c,j⟩:=h (by rw[a];exact d.app.2)
 grind
def adh{t:List UInt8}(d:cg T x.s.p ((6,t)::K))(f:Nat):hM T (f+1) x=.ok x:=by unfold hM;dsimp only;rw[ag d.cons.1]
def cY.one(e:cg T (x.s.p+1) K->y.s.p=x.s.p+(K.length+1)/\kL T {x with s:={x.s with p:=x.s.p+1}}=.ok y):cY T 1 ((0,[])::K) x y:=λh=>by
 obtain⟨a,_,_,b⟩:=h.cons;obtain⟨c,d⟩:=e b;refine⟨c,λf=>?_⟩;conv=>lhs;unfold hM
 dsimp only;rw[ab io,ag a,rY io,d];rfl
def iV{α:Type}{q:PR α}{a:α}{s:aH}{f:α->bJ->SR}(d:q=.ok a s):q.s x f=f a {x with s:=s}:=by rw[d];rfl
def se{w:List UInt8}(d:cg T x.s.p ((2,w)::K)):cg T (x.s.p+1) K/\∃t:aI,t.text=w/\kL T x=(let x:={x with s:={x.s with p:=x.s.p+1}}
  let fin (c:fh) (x:bJ):SR:=(bL T 1 x.s).s x λ_ x=>.ok {x with cs:=x.cs++[c]}
  if w=[100,101,99,108,97,114,101]then pP T t x else
  if w=[100,101,102,105,110,101]then pQ T x else
  if w=[97,115,115,101,114,116]\/w=[101,100,105,116]then
   (bL T 2 x.s).s x λt x=>(tJ T x).s x λn x=>fin ⟨if w=[101,100,105,116]then 2 else 1,t.text,aX,n,0⟩ x else
  if w=[114,101,116,114,97,99,116]then(bL T 2 x.s).s x λt x=>fin ⟨3,t.text,aX,0,0⟩ x else
  if w=[112,117,115,104]then fin ⟨4,[],aX,0,0⟩ x else
  if w=[112,111,112]then fin ⟨5,[],aX,0,0⟩ x else
  if w=[99,104,101,99,107]then(dd T x.s).s x λn y=>if 1099511627776<n then .er 5 (aL T x.s.p).a6 else fin ⟨6,[],aX,0,n⟩ y else
  .er 2 t.a6):=by obtain⟨a,b,c⟩:=gB d dl;refine⟨c,aL T x.s.p,b,?_⟩;unfold kL;rw[iV a,b]
def Qd{s:aH}{t:List UInt8}(d:cg T s.p ((2,t)::K))(h:lk x.vs t=none)(j:lk x.ms t=none)(e:x.s=s):vq T x=.ok (aL T s.p) {s with p:=s.p+1}/\(aL T s.p).text=t/\cg T (s.p+1) K:=by
 subst e;obtain⟨a,b,c⟩:=gB d dl;refine⟨?_,b,c⟩;unfold vq;rw[a];show(if(lk x.vs (aL T x.s.p).text).isSome||(lk x.ms (aL T x.s.p).text).isSome then _ else _)=_
 grind
def kN(nm:List UInt8)(z:aM):List TK:=(0,[])::(2,[100,101,99,108,97,114,101])::(2,nm)::(ej z++[(1,[])])
def cY.decl{nm:List UInt8}{st:aM}(j:lk x.vs nm=none)(k:lk x.ms nm=none)(z:br st=true)(y:(bb x.s.g ⟨0,[],0,0,0,ba nm,st⟩).2.2=0):
  cY T 1 (kN nm st) x {x with s:=⟨x.s.p+(kN nm st).length,x.s.tm,(bb x.s.g ⟨0,[],0,0,0,ba nm,st⟩).1⟩,vs:=x.vs++[(nm,(bb x.s.g ⟨0,[],0,0,0,ba nm,st⟩).2.1.toNat)],cs:=x.cs++[⟨0,nm,st,((bb x.s.g ⟨0,[],0,0,0,ba nm,st⟩).2.1.toNat:Nat),0⟩]}:=
 .one λw=>by refine⟨rfl,?_⟩;obtain⟨A,t,_,h⟩:=se (x:={x with s:={x.s with p:=x.s.p+1}}) w;rw[h];dsimp only;rw[ag rfl];unfold pP;obtain⟨B,d,C⟩:=Qd (x:={x with s:={x.s with p:=x.s.p+1+1}}) (s:={x.s with p:=x.s.p+1+1}) A j k rfl;rw[iV B];obtain⟨D,E⟩:=HB (s:={x.s with p:=x.s.p+1+1+1}) z C;rw[iV D];obtain⟨e,_,F⟩:=gB (s:={x.s with p:=x.s.p+1+1+1+(ej st).length}) E dl;rw[iV e];have d:(aL T (x.s.p+1+1)).text=nm:=d;have q:eu {x.s with p:=x.s.p+1+1+1+(ej st).length+1} ⟨0,[],0,0,0,ba nm,st⟩ t=.ok (bb x.s.g ⟨0,[],0,0,0,ba nm,st⟩).2.1.toNat ⟨x.s.p+1+1+1+(ej st).length+1,x.s.tm,(bb x.s.g ⟨0,[],0,0,0,ba nm,st⟩).1⟩:=ag y;dsimp only;rw[d,iV q];dsimp only;rw[show x.s.p+1+1+1+(ej st).length+1=x.s.p+(kN nm st).length by unfold kN;grind]
def eF(ps:List (List UInt8×aM)):List TK:=ps.flatMap λd=>(0,[])::(2,d.1)::(ej d.2++[(1,[])])
def A5:List (List UInt8×aM)->List (List UInt8×aM)->Bool
 |_,[]=>true
 |acc,d::e=>(lk acc d.1).isNone&&br d.2&&A5 (acc++[d]) e
def QX:∀(ps acc:List (List UInt8×aM)) (s:aH) (f:Nat),A5 acc ps=true->ps.length<f->cg T s.p (eF ps++(1,[])::K)->kj T f acc s=.ok (acc++ps) {s with p:=s.p+(eF ps).length+1}
 |[],acc,s,f,_,h,d=>by obtain⟨f,rfl,_⟩:=o7 (Nat.succ_le_of_lt h);obtain⟨a,_⟩:=d.cons;unfold kj;dsimp only;rw[ag a,rY io,cQ];rfl
 |q::ps,acc,s,f,j,h,d=>by
  obtain⟨f,rfl,G⟩:=o7 (Nat.succ_le_of_lt h);unfold A5 at j;simp only[bd,Option.isNone_iff_eq_none]at j;obtain⟨⟨D,E⟩,F⟩:=j;have d:cg T s.p ((0,[])::(2,q.1)::(ej q.2++(1,[])::(eF ps++(1,[])::K))):=by
   have:eF (q::ps)=(0,[])::(2,q.1)::(ej q.2++[(1,[])])++eF ps:=dz
   grind
  obtain⟨a,_,_,z⟩:=d.cons;obtain⟨k,e,A⟩:=gB (s:={s with p:=s.p+1}) z dl;obtain⟨w,B⟩:=HB (s:={s with p:=s.p+1+1}) E A;obtain⟨x,_,C⟩:=gB (s:={s with p:=s.p+1+1+(ej q.2).length}) B dl;have y:=QX ps (acc++[q]) {s with p:=s.p+1+1+(ej q.2).length+1} f F (by grind) C;conv=>lhs;unfold kj
  dsimp only;rw[ab io,ab io,rY io,k];show(if(lk acc (aL T (s.p+1)).text).isSome then _ else _)=_;have e:(aL T (s.p+1)).text=q.1:=e;rw[e,D];show PR.b (iA T {s with p:=s.p+1+1}) _=_;rw[w];show PR.b (bL T 1 {s with p:=s.p+1+1+(ej q.2).length}) _=_;rw[x];show kj T f (acc++[q]) {s with p:=s.p+1+1+(ej q.2).length+1}=_;rw[y,cU];have:(eF (q::ps)).length=2+(ej q.2).length+1+(eF ps).length:=by
   unfold eF
   grind
  grind
def QW:∀d:List (List UInt8×aM),d.length<=(eF d).length
 |[]=>bw _
 |q::d=>by
  have e:eF (q::d)=(0,[])::(2,q.1)::(ej q.2++[(1,[])])++eF d:=dz;have:=QW d
  grind
def BM:Nat->List TK->Bool
 |_,[]=>false
 |d,t::K=>if t.1=6\/t.1=1/\d=0 then false else if(if t.1=0 then d+1 else if t.1=1 then d - 1 else d)=0 then K.isEmpty else BM (if t.1=0 then d+1 else if t.1=1 then d - 1 else d) K
def Tu:∀(KB:List TK) (d:Nat) (s:aH) (f:Nat),BM d KB=true->KB.length<=f->cg T s.p (KB++K)->k8 T f d s=.ok () {s with p:=s.p+KB.length}
 |[],d,s,f,e,_,_=>by cases e
 |t::KB,d,s,f,e,z,y=>by
  obtain⟨f,rfl,A⟩:=o7 (q:=KB.length) (n:=f) z;obtain⟨h,C⟩:=t;obtain⟨a,_,_,B⟩:=y.cons;unfold BM at e;dsimp only at e;split at e
  .cases e
  rename_i j;have k:¬h=6:=λe=>j (.inl e);have w:¬(h=1/\d=0):=λe=>j (.inr e);conv=>lhs;unfold k8
  dsimp only;rw[a,ab k,ab w,rY io];generalize(if h=0 then d+1 else if h=1 then d - 1 else d)=d' at e ⊢;by_cases x:d'=0
  .grind
  .rw [ab x]at e ⊢;rw[Tu KB _ {s with p:=s.p+1} f e A B]
   grind
def fR(nm:List UInt8)(ps:List (List UInt8×aM))(KB:List TK):List TK:=(0,[])::(2,[100,101,102,105,110,101])::(0,[])::(2,nm)::(eF ps++(1,[])::(KB++[(1,[])]))
def cg.len(d:cg T n K):K.length<=T.length:=by
 obtain⟨r,d⟩:=d;have:=congrArg List.length d
 grind
def cY.defn{nm:List UInt8}{ps:List (List UInt8×aM)}{KB:List TK}(w:lk x.vs nm=none)(y:lk x.ms nm=none)(J:iR nm=false)(B:A5 [] ps=true)(A:BM 0 KB=true):
  cY T 1 (fR nm ps KB) x {x with s:={x.s with p:=x.s.p+(fR nm ps KB).length},ms:=x.ms++[(nm,⟨ps,x.s.p+5+(eF ps).length,x.ms.length⟩)]}:=
 .one λz=>by refine⟨rfl,?_⟩;obtain⟨D,t,_,q⟩:=se (x:={x with s:={x.s with p:=x.s.p+1}}) z;rw[q];dsimp only;rw[ab dl,ag rfl];unfold pQ;obtain⟨j,_,E⟩:=gB (s:={x.s with p:=x.s.p+1+1}) D dl;rw[iV j];obtain⟨F,e,d⟩:=Qd (x:={x with s:={x.s with p:=x.s.p+1+1+1}}) (s:={x.s with p:=x.s.p+1+1+1}) E w y rfl;rw[iV F];have e:(aL T (x.s.p+1+1+1)).text=nm:=e;dsimp only;rw[e,ab (by grind)];have K:=QW ps;have C:=d.len;simp only[bG,cC,List.length_nil]at C;have G:=QX ps [] {x.s with p:=x.s.p+1+1+1+1} (T.length+1) B io d;rw[iV G];have h:cg T (x.s.p+1+1+1+1+(eF ps).length+1) (KB++[(1,[])]):=d.app.2.cons.2.2.2;have H:=Tu KB 0 {x.s with p:=x.s.p+1+1+1+1+(eF ps).length+1} (T.length+1) A io h;dsimp only;rw[iV H];obtain⟨k,_,_⟩:=gB (s:={x.s with p:=x.s.p+1+1+1+1+(eF ps).length+1+KB.length}) h.app.2 dl;dsimp only;rw[iV k];dsimp only;rw[show x.s.p+1+1+1+1+(eF ps).length+1+KB.length+1=x.s.p+(fR nm ps KB).length by unfold fR;grind,show x.s.p+1+1+1+1+(eF ps).length+1=x.s.p+5+(eF ps).length by omega];rfl
def mV(e:Bool):List UInt8:=if e then[101,100,105,116]else[97,115,115,101,114,116]
def i7(e:Bool)(nm:List UInt8)(KT:List TK):List TK:=(0,[])::(2,mV e)::(2,nm)::(KT++[(1,[])])
def cY.I3{e:Bool}{nm:List UInt8}{KT:List TK}{q k:Nat}{h:List Nx}{d:Nx}(w:eW (gN T x) q KT m x.s.g k h)(hd:h[k]? =some d)(P:d.st=aO 1)(F:x.s.tm+m<=65536)(O:q<=x.ms.length *(T.length+1)+KT.length)(N:x.ms.length<=1000):
  cY T 1 (i7 e nm KT) x {x with s:=⟨x.s.p+(i7 e nm KT).length,x.s.tm+m,h⟩,cs:=x.cs++[⟨if e then 2 else 1,nm,aX,k,0⟩]}:=
 .one λE=>by
  refine⟨rfl,?_⟩;obtain⟨G,t,_,B⟩:=se (x:={x with s:={x.s with p:=x.s.p+1}}) E;rw[B];dsimp only;have H:¬mV e=[100,101,99,108,97,114,101]:=by cases e<;>decide
  have J:¬mV e=[100,101,102,105,110,101]:=by cases e<;>decide
  have K:mV e=[97,115,115,101,114,116]\/mV e=[101,100,105,116]:=by cases e<;>decide
  have L:(if mV e=[101,100,105,116]then(2:Int)else 1)=if e then 2 else 1:=by cases e<;>decide
  rw[ab H,ab J,ag K,L];obtain⟨z,j,y⟩:=gB (s:={x.s with p:=x.s.p+1+1}) G dl;rw[iV z];have M:KT.length+1<=T.length - (x.s.p+1+1+1):=by
   obtain⟨r,w⟩:=y;have:=congrArg List.length w
   grind
  have C:dE (u1 (gN T x) ⟨x.s.p+1+1+1,x.s.tm,x.s.g⟩) (gN T x) ⟨x.s.p+1+1+1,x.s.tm,x.s.g⟩=.ok k ⟨x.s.p+1+1+1+KT.length,x.s.tm+m,h⟩:=w _ ⟨x.s.p+1+1+1,x.s.tm,x.s.g⟩ (by
   show q<=min 9223372036854775807 x.ms.length *(T.length+1)+(T.length - (x.s.p+1+1+1))+1
   grind) y.app.1 rfl F
  have D:tJ T {x with s:=⟨x.s.p+1+1+1,x.s.tm,x.s.g⟩}=.ok k ⟨x.s.p+1+1+1+KT.length,x.s.tm+m,h⟩:=by
   show PR.b (dE (u1 (gN T x) ⟨x.s.p+1+1+1,x.s.tm,x.s.g⟩) (gN T x) ⟨x.s.p+1+1+1,x.s.tm,x.s.g⟩) _=_;rw[C];show(if(h[k]?).map (·.st)=some (aO 1)then PR.ok k _ else _)=_
   grind
  dsimp only;rw[iV D];obtain⟨A,_,_⟩:=gB (s:=⟨x.s.p+1+1+1+KT.length,x.s.tm+m,h⟩) y.app.2 dl;dsimp only;rw[iV A];have j:(aL T (x.s.p+1+1)).text=nm:=j;dsimp only;rw[j,show x.s.p+1+1+1+KT.length+1=x.s.p+(i7 e nm KT).length by unfold i7;grind]
def cY.push:cY T 1 [(0,[]),(2,[112,117,115,104]),(1,[])] x {x with s:={x.s with p:=x.s.p+3},cs:=x.cs++[⟨4,[],aX,0,0⟩]}:=
 .one λh=>by refine⟨rfl,?_⟩;obtain⟨j,t,_,e⟩:=se (x:={x with s:={x.s with p:=x.s.p+1}}) h;rw[e];dsimp only;rw[ab dl,ab dl,ab dl,ab dl,ag rfl];obtain⟨d,_,_⟩:=gB (s:={x.s with p:=x.s.p+1+1}) j dl;rw[iV d]
def cY.pop:cY T 1 [(0,[]),(2,[112,111,112]),(1,[])] x {x with s:={x.s with p:=x.s.p+3},cs:=x.cs++[⟨5,[],aX,0,0⟩]}:=
 .one λh=>by refine⟨rfl,?_⟩;obtain⟨j,t,_,e⟩:=se (x:={x with s:={x.s with p:=x.s.p+1}}) h;rw[e];dsimp only;rw[ab dl,ab dl,ab dl,ab dl,ab dl,ag rfl];obtain⟨d,_,_⟩:=gB (s:={x.s with p:=x.s.p+1+1}) j dl;rw[iV d]
def cY.check:cY T 1 [(0,[]),(2,[99,104,101,99,107]),(4,[49,48,48]),(1,[])] x {x with s:={x.s with p:=x.s.p+4},cs:=x.cs++[⟨6,[],aX,0,100⟩]}:=
 .one λh=>by refine⟨rfl,?_⟩;obtain⟨k,t,_,e⟩:=se (x:={x with s:={x.s with p:=x.s.p+1}}) h;rw[e];dsimp only;rw[ab dl,ab dl,ab dl,ab dl,ab dl,ab dl,ag rfl];obtain⟨j,q⟩:=Ai (s:={x.s with p:=x.s.p+1+1}) k;obtain⟨d,_,_⟩:=gB (s:={x.s with p:=x.s.p+1+1+1}) q dl;rw[iV j];dsimp only;rw[iV d];rfl
def cY.acH{nm:List UInt8}:cY T 1 [(0,[]),(2,[114,101,116,114,97,99,116]),(2,nm),(1,[])] x {x with s:={x.s with p:=x.s.p+4},cs:=x.cs++[⟨3,nm,aX,0,0⟩]}:=
 .one λk=>by
  refine⟨rfl,?_⟩;obtain⟨q,t,_,j⟩:=se (x:={x with s:={x.s with p:=x.s.p+1}}) k;rw[j];dsimp only;rw[ab dl,ab dl,ab dl,ag rfl];obtain⟨e,d,w⟩:=gB (s:={x.s with p:=x.s.p+1+1}) q dl;obtain⟨h,_,_⟩:=gB (s:={x.s with p:=x.s.p+1+1+1}) w dl;rw[iV e];have d:(aL T (x.s.p+1+1)).text=nm:=d;dsimp only;rw[iV h]
  grind
end
structure f'(G0 G:List Nx):Prop where
 vg:Vg G
 up:∃r,G=G0++r/\∀e∈r,e.op≠0
def f'.app{d G r:List Nx}(j:f' d G)(x:Vg (G++r))(q:∀h∈r,h.op≠0):f' d (G++r):=by obtain⟨u,h,w⟩:=j.up;exact⟨x,u++r,by grind,λe k=>(aP.1 k).elim (w e) (q e)⟩
def dU(P:List aI->Prop)(j:List Nx)(E:bW)(q:Nat)(K:List TK)(m:Nat)(z:aM)(G:List Nx):Prop:=
 ∃h r e,(∀d,P d->eW {E with T:=d} q K m G h (G++r))/\r.length<=m/\f' j (G++r)/\(G++r)[h]? =some e/\e.st=z
def E2{G:List Nx}{n:Nx}{i:Nat}{l:List Int}{d:Nx}(e:n.kids=(i:Int)::l)(hd:G[i]? =some d):bf G n 0=d.st:=by
 unfold bf
 grind
def Mq{G:List Nx}{n:Nx}{i:Nat}{a:Int}{l:List Int}{d:Nx}(e:n.kids=a::(i:Int)::l)(hd:G[i]? =some d):bf G n 1=d.st:=by
 unfold bf
 grind
def xG{G:List Nx}{i:Nat}{d:Nx}(hd:G[i]? =some d):dI G (i:Int)=true:=by
 have:=(cL.1 hd).1;unfold dI
 grind
def adM{G:List Nx}{op:Int}{i j:Nat}{d e:Nx}{z:aM}(hd:G[i]? =some d)(q:G[j]? =some e)(sd:d.st=z)(A:e.st=z)(x:z.k=0)(w:op=6\/op=7\/op=9\/op=10\/op=16\/op=18):
  bA G {ft op with kids:=[(i:Int),(j:Int)]}=(if op=16\/op=18 then aO 1 else z,0):=by
 unfold bA;rw[E2 (n:={ft op with kids:=[(i:Int),(j:Int)]}) rfl hd,Mq (n:={ft op with kids:=[(i:Int),(j:Int)]}) rfl q,sd,A];have y:(b5 op==(([(i:Int),(j:Int)]:List Int).length:Int)&&([(i:Int),(j:Int)]:List Int).all (dI G)&&fa {ft op with kids:=[(i:Int),(j:Int)]})=true:=by rw[List.all_cons,List.all_cons,xG hd,xG q];rcases w with rfl|rfl|rfl|rfl|rfl|rfl<;>rfl
 show(if(b5 op==(([(i:Int),(j:Int)]:List Int).length:Int)&&([(i:Int),(j:Int)]:List Int).all (dI G)&&fa {ft op with kids:=[(i:Int),(j:Int)]})=false then(aX,1)else
  if op<=3 then cb G {ft op with kids:=[(i:Int),(j:Int)]}else
  if eD op z z (bf G {ft op with kids:=[(i:Int),(j:Int)]} 2)=false then(aX,9)else
  if iC {ft op with kids:=[(i:Int),(j:Int)]} z z (bf G {ft op with kids:=[(i:Int),(j:Int)]} 2)=false then(aX,5)else
  if op=33/\mb (ft op).tx=false then(aX,2)else(gZ {ft op with kids:=[(i:Int),(j:Int)]} z z (bf G {ft op with kids:=[(i:Int),(j:Int)]} 2),0))=_
 rw[y];obtain⟨B,C,D⟩:=z;dsimp only at x;subst x;rcases w with rfl|rfl|rfl|rfl|rfl|rfl;all_goals (rw[ab dl,ab dl,ab (by simp[eD]),ab (by unfold iC;exact λh=>(by cases h)),ab (λh=>absurd h.1 dl)];rfl)
section
variable {P:List aI->Prop} {G0 G:List Nx} {E:bW} {q q1 m m1 k:Nat} {K K1:List TK} {z z1:aM} {t:List UInt8} {d:Nx}
def dU.leaf(w:f' G0 G)(j:∀e,P e->eW {E with T:=e} q K 1 G k G)(hd:G[k]? =some d)(h:d.st=z):dU P G0 E q K 1 z G:=
 ⟨k,[],d,by grind,gs,by grind,by grind,h⟩
def dU.pm(h:f' G0 G)(e:lk E.pm t=some k)(hd:G[k]? =some d)(j:d.st=z):dU P G0 E 1 [(2,t)] 1 z G:=.leaf h (λ_ _=>.pm e) hd j
def dU.vs(j:f' G0 G)(h:lk E.pm t=none)(e:lk E.vs t=some k)(hd:G[k]? =some d)(q:d.st=z):dU P G0 E 1 [(2,t)] 1 z G:=.leaf j (λ_ _=>.vs h e) hd q
def IE(e:f' G0 G){n:Nx}(q:bA G n=(z,0))(B:G.length<4096)(C:n.op≠0):(bb G n).2.2=0/\∃k r,(bb G n).2.1=((k:Nat):Int)/\(bb G n).1=G++r/\r.length<=1/\f' G0 (G++r)/\(G++r)[k]? =some (eo n z):=by
 obtain⟨d,r,w,x,y,D,E⟩:=uh q B e.vg;obtain⟨_,k,j,_⟩:=pC d;refine⟨d,k,r,j,w,x,e.app (by grind) λh A=>by rw[y h A];exact C,?_⟩
 grind
def dU.two{w:List UInt8}{op:Int}(hw:lk fu w=some (op,2))(Z:ye w=true)(aa:op=6\/op=7\/op=9\/op=10\/op=16\/op=18)(hz:z.k=0)(hd:E.dp<64)(hl:G.length+(m+m1+1)<=4096)(S:dU P G0 {E with dp:=E.dp+1} q K m z G)(W:∀r,f' G0 (G++r)->r.length<=m->dU P G0 {E with dp:=E.dp+1} q1 K1 m1 z (G++r)):
  dU P G0 E (max q q1+1) ((0,[])::(2,w)::(K++K1++[(1,[])])) (m+m1+1) (if op=16\/op=18 then aO 1 else z) G:=by
 obtain⟨i,r,d,A,B,C,x,D⟩:=S;obtain⟨j,y,ab,F,b2,H,J,L⟩:=W r C B;have x:=nV (r:=y) x;have hs:=adM x J D L hz aa;obtain⟨M,k,r2,N,O,c3,c4,Q⟩:=IE H hs (by grind) (by show op≠0;omega)
 have Y:∀e,P e->hV {E with T:=e,dp:=E.dp+1} (max q q1) 2 (K++K1) (m+m1) G [(i:Int),(j:Int)] (G++r++y):=λe h=>by
  have h2:=hV.cons (A e h) (hV.cons (F e h) hV.nil)
  grind
 refine⟨k,r++y++r2,_,?_,by grind,by grind,by rw[<-cU,<-cU];exact Q,rfl⟩;rw[<-cU,<-cU,<-O];exact λe h=>eW.op hw Z hd (Y e h) M N
def dU.Xu{w J L:List UInt8}{mc:PM}{KB:List TK}{M H:Nat}{N:aM}(hw:iR w=false)(hd:E.dp<64)(hm:h6 E w=some mc)(C:mc.ps=[(J,z),(L,z1)])(hb:∀h,P h->cg h mc.b KB)(aa:dU P G0 {E with dp:=E.dp+1} q K m z G)(h1:∀r,f' G0 (G++r)->r.length<=m->dU P G0 {E with dp:=E.dp+1} q1 K1 m1 z1 (G++r))(y:∀(i j:Nat) (r:List Nx) (d e:Nx),f' G0 (G++r)->r.length<=m+m1->(G++r)[i]? =some d->d.st=z->(G++r)[j]? =some e->e.st=z1->dU P G0 {E with dp:=E.dp+1,pm:=[(J,i),(L,j)],kn:=mc.ix} M KB H N (G++r)):
  dU P G0 E (max (max q q1) M+1) ((0,[])::(2,w)::(K++K1++[(1,[])])) (m+m1+H+1) N G:=by
 obtain⟨i,r,d,O,Q,S,B,D⟩:=aa;obtain⟨j,A,e,W,b2,b3,Z,F⟩:=h1 r S Q;have B:=nV (r:=A) B;have Y:f' G0 (G++(r++A)):=by grind
 obtain⟨k,r2,e2,c1,c2,c3,c4,c5⟩:=y i j (r++A) d e Y (by grind) (by grind) D (by grind) F;have hL:∀h,P h->hV {E with T:=h,dp:=E.dp+1} (max q q1) mc.ps.length (K++K1) (m+m1) G [(i:Int),(j:Int)] (G++(r++A)):=λh x=>by have y:=hV.cons (O h x) (hV.cons (W h x) hV.nil);rw[cQ]at y;rw[Nat.max_zero]at y;rw[<-cU,C];exact y
 refine⟨k,r++A++r2,e2,?_,by grind,by grind,by grind,c5⟩;rw[<-cU G];refine λh x=>eW.call (E:={E with T:=h}) hw hd hm (hL h x) ?_ (hb h x) ?_
 .rw [C,<-cU];unfold k';rw[bR,B];unfold k';rw[bR,Z];simp[D,F,k']
 .rw [C];exact c1 h x
def dU.Xt{w C:List UInt8}{mc:PM}{KB:List TK}{D B:Nat}{F:aM}(Z:iR w=false)(hd:E.dp<64)(Y:h6 E w=some mc)(A:mc.ps=[(C,z)])(W:∀e,P e->cg e mc.b KB)(Q:dU P G0 {E with dp:=E.dp+1} q K m z G)(y:∀(i:Nat) (r:List Nx) (d:Nx),f' G0 (G++r)->r.length<=m->(G++r)[i]? =some d->d.st=z->dU P G0 {E with dp:=E.dp+1,pm:=[(C,i)],kn:=mc.ix} D KB B F (G++r)):
  dU P G0 E (max q D+1) ((0,[])::(2,w)::(K++[(1,[])])) (m+B+1) F G:=by
 obtain⟨i,r,d,H,J,L,j,x⟩:=Q;obtain⟨k,r2,O,M,c2,c3,c4,N⟩:=y i r d L J j x;have S:∀e,P e->hV {E with T:=e,dp:=E.dp+1} q mc.ps.length K m G [(i:Int)] (G++r):=λe h=>by
  have y:=hV.cons (H e h) hV.nil
  grind
 refine⟨k,r++r2,O,?_,by grind,by grind,by grind,N⟩;rw[<-cU];refine λe h=>eW.call (E:={E with T:=e}) Z hd Y (S e h) ?_ (W e h) ?_
 .rw [A];unfold k';rw[bR,j];simp[x,k']
 .rw [A];exact M e h
def dU.nm{mc:PM}(y:lk E.pm t=none)(D:lk E.vs t=none)(x:h6 E t=some mc)(B:mc.ps=[])(A:∀d,P d->cg d mc.b K)(C:dU P G0 {E with pm:=[],kn:=mc.ix} q K m z G):dU P G0 E (q+1) [(2,t)] (m+1) z G:=by obtain⟨k,r,w,h,F,j⟩:=C;exact⟨k,r,w,λd e=>eW.nm (E:={E with T:=d}) y D x B (A d e) (h d e),io,j⟩
def dU.tx{g:List Nx}(q:Vg g)(J:∀d∈g,0<=d.u/\d.u<18446744073709551616){i:Nat}(hi:g[i]? =some d)(h:f' G0 G)(K:oy E.vs g G)(F:G.length+bY (i+1) g i<=4096)(hd:E.dp+i<64)(H:∀d∈g,d.op=0->lk E.pm (bl d.tx)=none):
  dU P G0 E (dM (i+1) g i).length (dM (i+1) g i) (bY (i+1) g i) d.st G:=by have j:=(cL.1 hi).1;obtain⟨k,r,L,x,y,z,A,B,e,C,D⟩:=L9 q (i+1) i G (Nat.lt_succ_self _) j h.vg K F;rw[hi]at e;cases e;exact⟨k,r,x,λw _=>eW.tx (E:={E with T:=w}) q J j y hd H,z,h.app A B,C,D⟩
end
def gU:List UInt8:=[109,109]
def gX:List UInt8:=[111,110,101]
def ji:List UInt8:=[110,110]
def gh:List UInt8:=[110,101,119]
def h7:List UInt8:=[110,101,119,101,114]
def hf:List (List UInt8×aM):=[([97],aO 2),([113],aO 2)]
def mz:List (List UInt8×aM):=[([99],aO 1)]
def mx:List TK:=(0,[])::(2,[97,100,100])::([(2,[97])]++((0,[])::(2,[109,117,108])::([(2,[113])]++[(2,[98])]++[(1,[])]))++[(1,[])])
def hZ(w:List UInt8)(K:List TK):List TK:=(0,[])::(2,w)::(K++[(1,[])])
def oV:List TK:=hZ [117,108,116] (hZ gU ([(2,[97])]++[(2,[98])])++[(2,[98])])
def rf:List TK:=hZ [111,114] ([(2,[99])]++[(2,gX)])
structure pq(P:List aI->Prop)(G0:List Nx)(vs:List (List UInt8×Nat))(ms:List (List UInt8×PM)):Prop where
 b:∃b0 b1 b2,ms=[(gU,⟨hf,b0,0⟩),(gX,⟨[],b1,1⟩),(ji,⟨mz,b2,2⟩)]/\(∀T,P T->cg T b0 mx)/\(∀T,P T->cg T b1 oV)/\∀T,P T->cg T b2 rf
 va:lk vs [97]=some 0
 vb:lk vs [98]=some 1
 vo:lk vs gX=none
 vn:lk vs gh=none
 vw:lk vs h7=none
 g0:∃d,G0[0]? =some d/\d.st=aO 2
 g1:∃d,G0[1]? =some d/\d.st=aO 2
def f'.at{e G:List Nx}(h:f' e G){i:Nat}{d:Nx}(hd:e[i]? =some d):G[i]? =some d:=by obtain⟨r,rfl,_⟩:=h.up;exact nV hd
section
variable {P:List aI->Prop} {G0 G:List Nx} {E:bW} {q q1 m m1:Nat} {K K1:List TK}
def M8(d:pq P G0 E.vs E.ms)(e:f' G0 G)(k:lk E.pm [97]=none):dU P G0 E 1 [(2,[97])] 1 (aO 2) G:=by obtain⟨q,h,j⟩:=d.g0;exact .vs e k d.va (e.at h) j
def AG(d:pq P G0 E.vs E.ms)(e:f' G0 G)(k:lk E.pm [98]=none):dU P G0 E 1 [(2,[98])] 1 (aO 2) G:=by obtain⟨q,h,j⟩:=d.g1;exact .vs e k d.vb (e.at h) j
def aaJ(k:pq P G0 E.vs E.ms)(q:f' G0 G){i j:Nat}{d e:Nx}(h:E.pm=[([97],i),([113],j)])(hi:G[i]? =some d)(sd:d.st=aO 2)(w:G[j]? =some e)(A:e.st=aO 2)(hd:E.dp<60)(x:G.length+5<=4096):
  dU P G0 E 3 mx 5 (aO 2) G:=
 .two (op:=9) rfl rfl dl rfl io x (.pm q (by rw[h];rfl) hi sd) λr y B=>
  .two (op:=10) rfl rfl dl rfl (by show E.dp+1<64;omega) (by rw[bG];omega) (.pm y (by rw[h];rfl) (nV w) A) λC z _=>
   AG k z (by rw[h];rfl)
def Nk(d:pq P G0 E.vs E.ms)(y:0<E.kn)(hd:E.dp<50)(L:G.length+m+m1+5<=4096)(h:dU P G0 {E with dp:=E.dp+1} q K m (aO 2) G)(j:∀r,f' G0 (G++r)->r.length<=m->dU P G0 {E with dp:=E.dp+1} q1 K1 m1 (aO 2) (G++r)):
  dU P G0 E (max (max q q1) 3+1) (hZ gU (K++K1)) (m+m1+5+1) (aO 2) G:=by
 obtain⟨e,D,F,z,B,N,O⟩:=d.b;exact .Xu (mc:=⟨hf,e,0⟩) dl io (by unfold h6;rw[z];exact ag y) rfl B h j λi A r H J k M w sd x C=>
  aaJ (E:={E with dp:=E.dp+1,pm:=[([97],i),([113],A)],kn:=0}) d k rfl w sd x C (by show E.dp+1<60;omega) (by rw[bG];omega)
def M7(d:pq P G0 E.vs E.ms)(j:f' G0 G)(y:lk E.pm gX=none)(w:1<E.kn)(hd:E.dp<40)(D:G.length+20<=4096):dU P G0 E 6 [(2,gX)] 11 (aO 1) G:=by
 obtain⟨B,h,C,x,F,A,H⟩:=d.b;have k:dU P G0 {E with pm:=[],kn:=1} 5 oV 10 (aO 1) G:=.two (op:=16) (q:=4) (m:=8) (q1:=1) (m1:=1) (z:=aO 2) rfl rfl dl rfl (by show E.dp<64;omega) io
  (Nk (E:={E with dp:=E.dp+1,pm:=[],kn:=1}) (q:=1) (q1:=1) (m:=1) (m1:=1) d (by show 0<1;omega) (by show E.dp+1<50;omega) io (M8 (E:={E with dp:=E.dp+1+1,pm:=[],kn:=1}) d j rfl) λr e _=>AG (E:={E with dp:=E.dp+1+1,pm:=[],kn:=1}) d e rfl) λr e _=>
   AG (E:={E with dp:=E.dp+1,pm:=[],kn:=1}) d e rfl
 exact .nm (mc:=⟨[],h,1⟩) y d.vo (by unfold h6;rw[x];exact ag w) rfl A k
def abc(d:pq P G0 E.vs E.ms)(w:2<E.kn)(hd:E.dp<30)(D:G.length+m+40<=4096)(h:dU P G0 {E with dp:=E.dp+1} q K m (aO 1) G):dU P G0 E (max q 7+1) (hZ ji K) (m+13+1) (aO 1) G:=by
 obtain⟨A,B,e,x,L,M,z⟩:=d.b;refine .Xt (mc:=⟨mz,e,2⟩) dl io (by unfold h6;rw[x];exact ag w) rfl z h λi r C j J k sd=>?_;have H:(G++r).length+30<=4096:=by rw[bG];omega
 exact .two (op:=7) (m:=1) (m1:=11) (q:=1) (q1:=6) rfl rfl dl rfl (by show E.dp+1<64;omega) io (.pm j rfl k sd) λN y F=>
  M7 (E:={E with dp:=E.dp+1+1,pm:=[([99],i)],kn:=2}) d y rfl (by show 1<2;omega) (by show E.dp+1+1<40;omega) (by rw[bG];omega)
def nA(n:Nat)(K:List TK):List TK:=
 if n=0 then hZ ji K else if n=1 then hZ [97,110,100] ([(2,gX)]++K)else
 if n=2 then hZ [101,113] (hZ gU ([(2,[98])]++[(2,[97])])++[(0,[]),(2,[110,117,109]),(4,[50]),(4,[50]),(1,[])])else K
def yV(n m:Nat):Nat:=if n=0 then m+13+1 else if n=1 then 11+m+1 else if n=2 then 10 else m
def aeF(e:pq P G0 E.vs E.ms)(x:f' G0 G)(S:2<E.kn)(y:E.pm=[])(hd:E.dp=0)(Z:G.length+m+60<=4096)(n:Nat)(hq:q<=K.length)(C:∀(d:Nat) (r:List Nx),d<=1->f' G0 (G++r)->r.length<=11->dU P G0 {E with dp:=d} q K m (aO 1) (G++r)):
  ∃D,D<=(nA n K).length+8/\dU P G0 E D (nA n K) (yV n m) (aO 1) G:=by
 have A:∀d,d<=1->dU P G0 {E with dp:=d} q K m (aO 1) G:=λd Q=>by
  have:=C d [] Q (by rw[cQ];exact x) gs
  rwa[cQ]at this
 unfold nA yV;by_cases j:n=0
 .rw [ag j,ag j];exact⟨_,by unfold hZ;simp;omega,abc e S io io (A _ io)⟩
 rw[ab j,ab j];by_cases k:n=1
 .rw [ag k,ag k];refine⟨max 6 q+1,by unfold hZ;simp;omega,.two (op:=6) (m:=11) rfl rfl dl rfl io io (M7 (E:={E with dp:=E.dp+1}) e x (by show lk E.pm gX=none;rw[y];rfl) (by show 1<E.kn;omega) (by show E.dp+1<40;omega) io) λr h B=>?_⟩;exact C _ r io h B
 rw[ab k,ab k];by_cases w:n=2
 .rw [ag w,ag w];refine⟨5,io,.two (op:=18) (q:=4) (m:=8) (q1:=1) (m1:=1) (z:=aO 2) rfl rfl dl rfl io io ?_ λr h B=>?_⟩
  .exact Nk (E:={E with dp:=E.dp+1}) (q:=1) (q1:=1) (m:=1) (m1:=1) e (by show 0<E.kn;omega) (by show E.dp+1<50;omega) io (AG (E:={E with dp:=E.dp+1+1}) e x (by show lk E.pm _=none;rw[y];rfl)) λr h _=>M8 (E:={E with dp:=E.dp+1+1}) e h (by show lk E.pm _=none;rw[y];rfl)
  .obtain ⟨H,W,Y,J,L,M,N,O⟩:=IE (n:=⟨1,[],0,0,((2:Nat):Int),ba [],aO ((2:Nat):Int)⟩) (z:=aO 2) h rfl (by rw[bG];omega) dl;exact⟨W,Y,_,λF _=>by rw[<-L];exact eW.num (E:={E with dp:=E.dp+1,T:=F}) (u:=2) (z:=2) dl dl (by show E.dp+1<64;omega) H J,M,N,O,rfl⟩
 .rw [ab w,ab w];have:=A 0 io;rw[<-hd]at this;exact⟨q,io,this⟩
end
def dT:bJ:=⟨⟨0,0,[]⟩,[],[],[]⟩
def vN(d:Nx):Nx:=⟨0,[],0,0,0,ba (bl d.tx),d.st⟩
def eM(x:bJ)(d:Nx):bJ:={x with s:=⟨x.s.p+(kN (bl d.tx) d.st).length,x.s.tm,(bb x.s.g (vN d)).1⟩,vs:=x.vs++[(bl d.tx,(bb x.s.g (vN d)).2.1.toNat)],cs:=x.cs++[⟨0,bl d.tx,d.st,((bb x.s.g (vN d)).2.1.toNat:Nat),0⟩]}
def Qz(x:bJ)(d:Nx):Bool:=(lk x.vs (bl d.tx)).isNone&&(lk x.ms (bl d.tx)).isNone&&br d.st&&ak ((bb x.s.g (vN d)).2.2=0)
def A4:bJ->List Nx->Bool
 |_,[]=>true
 |e,d::h=>Qz e d&&A4 (eM e d) h
def kM(L:List Nx):List TK:=L.flatMap λd=>kN (bl d.tx) d.st
def Kp{T:List aI}:∀(L:List Nx) (x:bJ),A4 x L=true->cY T L.length (kM L) x (L.foldl eM x)
 |[],_,_=>.nil
 |d::L,x,e=>by
  unfold A4 Qz at e;simp only[bd,Option.isNone_iff_eq_none,decide_eq_true_eq]at e;obtain⟨⟨⟨⟨h,j⟩,k⟩,q⟩,w⟩:=e;have:=(cY.decl (T:=T) h j k q).app (Kp L (eM x d) w);rw[Nat.add_comm]at this;have y:kM (d::L)=kN (bl d.tx) d.st++kM L:=dz
  grind
def q7(x:bJ)(nm:List UInt8)(ps:List (List UInt8×aM))(KB:List TK):bJ:={x with s:={x.s with p:=x.s.p+(fR nm ps KB).length},ms:=x.ms++[(nm,⟨ps,x.s.p+5+(eF ps).length,x.ms.length⟩)]}
def oY(L:List Nx):bJ:=q7 (q7 (q7 (L.foldl eM dT) gU hf mx) gX [] oV) ji mz rf
def sT:List TK:=fR gU hf mx++(fR gX [] oV++fR ji mz rf)
def lS(L:List Nx):List TK:=kM L++sT
def n4(L:List Nx):Bool:=A4 dT L&&ak ((L.foldl eM dT).s.p=(kM L).length)&&(L.foldl eM dT).ms.isEmpty&&ak ((L.foldl eM dT).s.tm=0)&&ak ((L.foldl eM dT).s.g=L)&&
 (lk (L.foldl eM dT).vs gU).isNone&&(lk (L.foldl eM dT).vs gX).isNone&&(lk (L.foldl eM dT).vs ji).isNone&&ak (lk (L.foldl eM dT).vs [97]=some 0)&&ak (lk (L.foldl eM dT).vs [98]=some 1)&&
 (lk (L.foldl eM dT).vs gh).isNone&&(lk (L.foldl eM dT).vs h7).isNone&&L.all (λd=>ak (bl d.tx≠gh))&&ak ((L[0]?).map (·.st)=some (aO 2))&&ak ((L[1]?).map (·.st)=some (aO 2))&&
 L.all λd=>match lk (L.foldl eM dT).vs (bl d.tx)with
  |some e=>ak ((L[e]?).map (·.st)=some d.st)
  |none=>false
def abY:n4 (xs fX)=true:=by kernel_rfl
def abZ:n4 (xs (fX++hO))=true:=by kernel_rfl
def ab0:n4 (xs (fX++hO++iD))=true:=by kernel_rfl
def Rq(kind:Int):n4 (xs (bN kind))=true:=by
 unfold bN;by_cases d:kind>0
 .rw [ag d];by_cases e:kind>1
  .rw [ag e];exact ab0
  .rw [ab e,cQ];exact abZ
 .rw [ab d,ab io,cQ,cQ];exact abY
def zT{T:List aI}{p:Nat}{nm:List UInt8}{ps:List (List UInt8×aM)}{KB K:List TK}(d:cg T p (fR nm ps KB++K)):cg T (p+5+(eF ps).length) KB:=by
 have e:=d.app.1;have h:cg T (p+1+1+1+1) (eF ps++(1,[])::(KB++[(1,[])])):=e.cons.2.2.2.cons.2.2.2.cons.2.2.2.cons.2.2.2;have j:=h.app.2.cons.2.2.2.app.1
 grind
def ou(L:List Nx)(T:List aI):Prop:=cg T 0 (lS L)
def Nb{L:List Nx}{i:Nat}{z:aM}(e:(L[i]?).map (·.st)=some z):∃d,L[i]? =some d/\d.st=z:=by grind
section
variable {L:List Nx}
def ab2(h:n4 L=true)(T:List aI):cY T (L.length+3) (lS L) dT (oY L):=by unfold n4 at h;simp only[bd,Option.isNone_iff_eq_none,decide_eq_true_eq,List.isEmpty_iff]at h;obtain⟨⟨⟨⟨⟨⟨⟨⟨⟨⟨⟨⟨⟨⟨⟨z,A⟩,e⟩,B⟩,C⟩,q⟩,w⟩,y⟩,K⟩,M⟩,N⟩,O⟩,P⟩,G⟩,H⟩,J⟩:=h;have k:=Kp (T:=T) L dT z;obtain⟨d,j⟩:∃d,L.foldl eM dT=d:=⟨_,rfl⟩;rw[j]at A e B C q w y k;have D:=cY.defn (T:=T) (x:=d) (nm:=gU) (ps:=hf) (KB:=mx) q (by rw[e];rfl) dl dl dl;have E:=cY.defn (T:=T) (x:=q7 d gU hf mx) (nm:=gX) (ps:=[]) (KB:=oV) w (by show lk (d.ms++_) _=_;rw[e];rfl) dl dl dl;have F:=cY.defn (T:=T) (x:=q7 (q7 d gU hf mx) gX [] oV) (nm:=ji) (ps:=mz) (KB:=rf) y (by show lk (d.ms++_++_) _=_;rw[e];rfl) dl dl dl;have:=k.app (D.app (E.app F));unfold oY;rw[j];exact this
def ab1(h:n4 L=true):pq (ou L) L (oY L).vs (oY L).ms:=by
 unfold n4 at h;simp only[bd,Option.isNone_iff_eq_none,decide_eq_true_eq,List.isEmpty_iff]at h;obtain⟨⟨⟨⟨⟨⟨⟨⟨⟨⟨⟨⟨⟨⟨⟨D,w⟩,x⟩,E⟩,F⟩,H⟩,y⟩,J⟩,z⟩,A⟩,B⟩,C⟩,K⟩,k⟩,q⟩,G⟩:=h;have j:(oY L).ms=(L.foldl eM dT).ms++[(gU,⟨hf,(L.foldl eM dT).s.p+5+(eF hf).length,(L.foldl eM dT).ms.length⟩)]++[(gX,⟨[],(L.foldl eM dT).s.p+(fR gU hf mx).length+5+(eF []).length,((L.foldl eM dT).ms++[(gU,(⟨hf,(L.foldl eM dT).s.p+5+(eF hf).length,(L.foldl eM dT).ms.length⟩:PM))]).length⟩)]++
   [(ji,⟨mz,(L.foldl eM dT).s.p+(fR gU hf mx).length+(fR gX [] oV).length+5+(eF mz).length,((L.foldl eM dT).ms++[(gU,(⟨hf,(L.foldl eM dT).s.p+5+(eF hf).length,(L.foldl eM dT).ms.length⟩:PM))]++[(gX,(⟨[],(L.foldl eM dT).s.p+(fR gU hf mx).length+5+(eF []).length,((L.foldl eM dT).ms++[(gU,(⟨hf,(L.foldl eM dT).s.p+5+(eF hf).length,(L.foldl eM dT).ms.length⟩:PM))]).length⟩:PM))]).length⟩)]:=rfl
 rw[w,x]at j;refine⟨⟨_,_,_,j,λd e=>?_,λd e=>?_,λd e=>?_⟩,z,A,y,B,C,Nb k,Nb q⟩
 .have a:cg d (0+(kM L).length) (fR gU hf mx++(fR gX [] oV++fR ji mz rf)):=(show cg d 0 (kM L++sT)from e).app.2;rw[Nat.zero_add]at a;exact zT a
 .have a:cg d (0+(kM L).length) (fR gU hf mx++(fR gX [] oV++fR ji mz rf)):=(show cg d 0 (kM L++sT)from e).app.2;rw[Nat.zero_add]at a;exact zT a.app.2
 .have a:cg d (0+(kM L).length) (fR gU hf mx++(fR gX [] oV++fR ji mz rf)):=(show cg d 0 (kM L++sT)from e).app.2;rw[Nat.zero_add]at a;have b:=a.app.2.app.2;rw[<-cQ (fR ji mz rf)]at b;exact zT b
def Rp(j:n4 L=true):(oY L).s.g=L/\(oY L).s.tm=0/\(∀d∈L,∃e h,lk (oY L).vs (bl d.tx)=some e/\L[e]? =some h/\h.st=d.st)/\∀d∈L,bl d.tx≠gh:=by
 unfold n4 at j;simp only[bd,Option.isNone_iff_eq_none,decide_eq_true_eq,List.isEmpty_iff]at j;obtain⟨⟨⟨⟨⟨⟨⟨⟨⟨⟨⟨⟨⟨⟨⟨B,C⟩,D⟩,q⟩,w⟩,E⟩,F⟩,G⟩,H⟩,J⟩,K⟩,M⟩,y⟩,z⟩,A⟩,x⟩:=j;refine⟨w,q,λd k=>?_,λd k=>e4 (dS.1 y d k)⟩;have:=dS.1 x d k;show ∃e h,lk (L.foldl eM dT).vs (bl d.tx)=some e/\_
 grind
end
structure oi(P:List aI->Prop)(G0 g:List Nx)(x:bJ)(N:Nat):Prop where
 go:f' G0 x.s.g
 ev:pq P G0 x.vs x.ms
 vs:oy x.vs g G0
 gl:x.s.g.length<=10+N
 tm:x.s.tm<=N
def qy(n:Nat):List TK:=if n=0 then[]else if n=1 then[(0,[]),(2,[112,117,115,104]),(1,[])]else if n=2 then[(0,[]),(2,[112,111,112]),(1,[])]else
 if n=3 then[(0,[]),(2,[99,104,101,99,107]),(4,[49,48,48]),(1,[])]else[(0,[]),(2,[114,101,116,114,97,99,116]),(2,[112,48]),(1,[])]
def l8(g:List Nx):Nat->List (Nat×Nat)->List TK
 |_,[]=>[]
 |i,a::al=>i7 (ak (a.2 / 10%3=2)) (112::bU i) (nA (a.2 / 2%5) (dM (a.1+1) g a.1))++(qy (a.2 / 30%5)++l8 g (i+1) al)
section
variable {P:List aI->Prop} {G0 g:List Nx} {x:bJ} {N:Nat}
def ad'(d:oi P G0 g x N)(n:Nat):∃m h,m<=(qy n).length/\(∀e,P e->cY e m (qy n) x h)/\oi P G0 g h N:=by
 unfold qy;split
 .exact ⟨0,x,bw _,λe _=>.nil,d⟩
 split
 .exact ⟨1,_,gs,λe _=>.push,⟨d.go,d.ev,d.vs,d.gl,d.tm⟩⟩
 split
 .exact ⟨1,_,gs,λe _=>.pop,⟨d.go,d.ev,d.vs,d.gl,d.tm⟩⟩
 split
 .exact ⟨1,_,gs,λe _=>.check,⟨d.go,d.ev,d.vs,d.gl,d.tm⟩⟩
 .exact ⟨1,_,gs,λe _=>.acH,⟨d.go,d.ev,d.vs,d.gl,d.tm⟩⟩
def oy.go{vs:List (List UInt8×Nat)}{G:List Nx}(d:oy vs g G0)(e:f' G0 G):oy vs g G:=by obtain⟨r,rfl,_⟩:=e.up;exact d.app r
def V1(H:Vg g)(G:∀d∈g,0<=d.u/\d.u<18446744073709551616)(aa:g.length<=60)(Y:∀h,P h->8<=h.length)(j:oi P G0 g x N)(W:N<=3000){i n:Nat}{d:Nx}(hd:g[i]? =some d)(hz:d.st=aO 1)(hs:bY (i+1) g i<=401)(e:Bool)(nm:List UInt8):
  ∃w,(∀h,P h->cY h 1 (i7 e nm (nA n (dM (i+1) g i))) x w)/\oi P G0 g w (N+430):=by
 have ac:=(cL.1 hd).1;have ab:=j.gl;have ag:=j.tm;obtain⟨M,O,Q,ae,_⟩:=j.ev.b;obtain⟨ah,hq,J,r,S,y,L,z,A,B⟩:=aeF (E:=gN [] x) (m:=bY (i+1) g i) (K:=dM (i+1) g i) (q:=(dM (i+1) g i).length) j.ev j.go (by show 2<9223372036854775807;decide) rfl rfl io n (bw _) λC r Z k af=>by
  have:=dU.tx (P:=P) (E:={gN [] x with dp:=C}) H G hd k (j.vs.go k) (by grind) (by grind) (λ_ _ _=>rfl)
  grind
 have hm:yV n (bY (i+1) g i)<=430:=by
  unfold yV
  grind
 refine⟨{x with s:=⟨x.s.p+(i7 e nm (nA n (dM (i+1) g i))).length,x.s.tm+yV n (bY (i+1) g i),x.s.g++r⟩,cs:=x.cs++[⟨if e then 2 else 1,nm,aX,J,0⟩]},λh F D=>?_,⟨z,j.ev,j.vs,by grind,by grind⟩⟩;refine cY.I3 (T:=h) (y h F) A B io ?_ (by grind) D
 grind
def IZ(A:Vg g)(z:∀e∈g,0<=e.u/\e.u<18446744073709551616)(y:g.length<=60)(q:∀d,P d->8<=d.length):∀(al:List (Nat×Nat)) (i:Nat) (x:bJ) (N:Nat),oi P G0 g x N->N+430 *al.length<=3000->(∀a∈al,∃e,g[a.1]? =some e/\e.st=aO 1/\bY (a.1+1) g a.1<=401)->
  ∃n k,n<=(l8 g i al).length/\(∀d,P d->cY d n (l8 g i al) x k)/\oi P G0 g k (N+430 *al.length)
 |[],i,x,N,h,_,_=>⟨0,x,bw _,λd _=>.nil,h⟩
 |a::al,i,x,N,h,G,w=>by
  rw[cC]at G;obtain⟨e,B,C,D⟩:=w a hJ;obtain⟨k,J,E⟩:=V1 A z y q h io (n:=a.2 / 2%5) B C D (ak (a.2 / 10%3=2)) (112::bU i);obtain⟨m,M,S,K,F⟩:=ad' E (a.2 / 30%5);obtain⟨n,O,T,L,Q⟩:=IZ A z y q al (i+1) M (N+430) F io λb H=>w b (cP _ H);refine⟨1+(m+n),O,?_,λd j=>(J d j).app ((K d j).app (L d j)),?_⟩
  .unfold l8 i7
   grind
  grind
end
end Go.Proofs.YtkbmpalepmakmabGreatDoor
end
