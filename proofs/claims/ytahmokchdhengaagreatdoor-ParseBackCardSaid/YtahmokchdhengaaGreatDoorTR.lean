import Derived.Test.YtahmokchdhengaaGreatDoorVB
import Derived.Test.YtahmokchdhengaaGreatDoorPR
import Derived.Test.YtahmokchdhengaaGreatDoorN0
import Derived.Test.YtahmokchdhengaaGreatDoorW
import Derived.Test.YtahmokchdhengaaGreatDoorU
import Derived.Laws.StandIn
import Derived.Lib.Bytealg
import Derived.Laws.RangeString
set_option linter.unusedVariables false
set_option maxRecDepth 100000
set_option maxHeartbeats 1000000
set_option linter.defProp false
namespace Go.Proofs.YtahmokchdhengaaGreatDoor
open Go renaming World->J,Calls->aj,Value->aa,LoopState->eg
open Go.IntKind renaming wrap->aG
open _root_.Int renaming toNat->a1,toNat_natCast->bZ
open _root_.ByteArray renaming mk->bj
open Go.IntWalk renaming i64_in->bm
open _root_.Bool renaming and_eq_true->a9
open _root_.Nat renaming le_refl->be,le_trans->bp,zero_le->dc,lt_of_lt_of_le->q5
open _root_.UInt8 renaming ofNat->dw
open _root_.Option.some renaming inj->eh
open Go.Proofs.Tryz renaming prog->U
open _root_.Decidable renaming decide->ao
open Go.Ending renaming returned->ae
open List renaming mem_cons->aE,not_mem_nil->aZ,mem_of_getElem?->aB,getElem?_eq_getElem->a5,length_append->b',length_cons->cT,length_take->fx,length_drop->e8,mem_cons_of_mem->cH,drop_eq_getElem_cons->dk,all_eq_true->dK,append_nil->cP,nil_append->n8,getElem_mem->vw,drop_drop->ke,drop_of_length_le->de,take_of_length_le->dM
open Go Go.W
def Ab(n:Nx)(x y d:aU):Ending->Prop:=λr=>∃(t:aU) (b:Bool),r=ae (.tuple #[dq t,.bool b])/\b=ie n x y d/\(b=true->t=hx n x y d)
def Sc{w:J}{k:Sl}{ks:List aU}{x y T:aU}(d:Nd)(F:br 3 w k (ks.flatMap gl))(hx:ks[0]? =some x)(C:2<=cl d.x.op->ks[1]? =some y)(K:cl d.x.op=3->ks[2]? =some T)(h4:4<=d.x.op)(ad:d.x.op<=34)(vx:bo x=true)(vy:2<=cl d.x.op->bo y=true)(vz:cl d.x.op=3->bo T=true)(hn:dx d.x.n)(hm:dx d.x.m):
  aj U Km #[d.v,k.v] w λr W=>Ab d.x x y T r/\ah w W:=by
 obtain⟨x1,x2,x3,x4,_⟩:=lN vx;obtain⟨an,ap⟩:=hn;obtain⟨al,am⟩:=hm;refine xg.au _ _ _ _ _ _ _ _ _ _ w _ ((Jb F).ay λb2 w1 H1=>H1.ay λZ w2 H2=>dY (H2.getD 0) (rfl:(0:Int)=((0:Nat):Int)) hx λp0 ar aa=>⟨x.k,x.n,x.x,aa.c0,aa.c1,aa.c2,H2.ay λb6 w3 V=>?_⟩);have z:∀{w3:J} {L:List En},O F0 w w3 L [ti k ks]->br 3 w3 k (ks.flatMap gl):=λae=>ae.getD 0;have D:(1:Int)=((1:Nat):Int):=rfl;have S:(2:Int)=((2:Nat):Int):=rfl;obtain⟨⟨op,kids,n,m,u,tx,st⟩,aq⟩:=d;simp only at C K h4 ad vy vz an ap al am;have S1:∀A:J,op≠16->op≠17->op≠18->op≠33->O F0 w A [.g b2,.g Z,.g b6] [ti k ks]->xg.bb k b2 op aq n m u tx st.k st.n st.x Z 0 0 0 b6 x.k x.n x.x op A λr W=>Ab ⟨op,kids,n,m,u,tx,st⟩ x y T r/\ah w W:=by
  intro A n1 n2 n3 n4 h;rcases sL (by omega) ad with rfl|rfl|rfl|rfl|rfl|rfl|rfl|rfl|rfl|rfl|rfl|rfl|rfl|rfl|rfl|rfl|rfl|rfl|rfl|rfl|rfl|rfl|rfl|rfl|rfl|rfl|rfl|rfl|rfl|rfl|rfl|rfl|rfl|rfl|rfl
  iterate 4 omega
  all_goals repeat (first |refine aV rfl ?_|refine aT rfl ?_)
  all_goals first |(have C:=C (by decide))|skip
  all_goals first |(have K:=K (by decide))|skip
  all_goals first |(have vy:=lN (vy (by decide)))|skip
  all_goals first |(have vz:=lN (vz (by decide)))|skip
  iterate 12 exact h.af λB e=>⟨⟨x,true,rfl,rfl,λ_=>rfl⟩,e.fr⟩
  iterate 3 omega
  .refine dY (z h) D C λp N c=>⟨_,c.c0,ax (λhk=>?_) (λhk=>?_)⟩
   .refine dY (z h) D C λp N _=>h.af λB e=>?_;have P:=fP (z e) D C N;refine⟨_,P.c1,dY (z e) S K λac G Q=>⟨_,Q.c1,e.av (nC _ B) ?_⟩⟩;rintro _ H rfl j;refine⟨_,_,_,rfl,j.af λM q=>⟨⟨_,true,rfl,rfl,λ_=>?_⟩,q.fr⟩⟩;show _=if y.k=1 then _ else _;rw[ag hk]
   .refine dY (z h) D C λp N c'=>⟨_,_,_,c'.c0,c'.c1,c'.c2,h.af λB e=>⟨⟨y,true,rfl,rfl,λ_=>?_⟩,e.fr⟩⟩;show _=if y.k=1 then _ else _;rw[ab hk]
  .refine dY (z h) D C λp N _=>h.af λB e=>?_;have P:=fP (z e) D C N;refine⟨_,P.c1,dY (z e) D C λac G _=>?_⟩;have Q:=fP (z e) D C G;refine⟨_,Q.c1,e.av (ff _ B) ?_⟩;rintro _ H rfl j;refine⟨_,_,_,rfl,(fP (z j) D C G).c1,j.af λM q=>⟨(fP (z q) D C G).c1,⟨_,_,rfl,?_,λ_=>?_⟩,q.fr⟩⟩
   .rw [bm _ (by omega)];rfl
   .show a' _=a' (x.n+y.n);rw[bm _ (by omega)]
  .refine h.af λB e=>e.av (ff _ B) ?_;rintro _ H rfl j;have hr:ie ⟨21,kids,n,m,u,tx,st⟩ x y T=(ao (0<=m)&&ao (m<=n)&&ao (n<x.n)):=rfl;refine⟨_,_,_,rfl,aS (λI=>aS (λg2=>j.af λM q=>⟨⟨_,_,rfl,?_,λE=>?_⟩,q.fr⟩) (λg2=>j.af λM q=>⟨⟨_,false,rfl,?_,λE=>by cases E⟩,q.fr⟩)) (λI=>j.af λM q=>⟨⟨_,false,rfl,?_,λE=>by cases E⟩,q.fr⟩)⟩
   .rw [hr,aM (show 0<=m from I),aM g2];rfl
   .have E:=eZ E;show a' _=a' (n - m+1);rw[bm (n - m) (by omega),bm _ (by omega)]
   .rw [hr,aP g2,Bool.and_false];rfl
   .rw [hr,aP (show ¬0<=m from I)];rfl
  iterate 2
   .refine h.af λB e=>e.av (ff _ B) ?_;rintro _ H rfl j;have ai:aG .i64 (64 - x.n)=64 - x.n:=bm _ (by omega);rw[ai];refine⟨_,_,_,rfl,aS (λI=>j.af λM q=>⟨⟨_,_,rfl,?_,λE=>?_⟩,q.fr⟩) (λI=>j.af λM q=>⟨⟨_,false,rfl,?_,λE=>by cases E⟩,q.fr⟩)⟩
    .show _=(ao (1<=n)&&ao (n<=64 - x.n));rw[aM (show 1<=n from I)];rfl
    .have E:=eZ E;show a' _=a' (x.n+n);rw[bm _ (by omega)]
    .show _=(ao (1<=n)&&ao (n<=64 - x.n));rw[aP (show ¬1<=n from I)];rfl
  .refine h.av (DQ x A) ?_;rintro _ B rfl e;exact⟨_,_,_,rfl,e.af λH j=>⟨⟨_,true,rfl,rfl,λ_=>rfl⟩,j.fr⟩⟩
  .exact h.af λB e=>⟨⟨x,true,rfl,rfl,λ_=>rfl⟩,e.fr⟩
  .refine h.av (ff _ A) ?_;rintro _ B rfl e;exact⟨_,_,_,rfl,e.af λH j=>⟨⟨_,true,rfl,rfl,λ_=>rfl⟩,j.fr⟩⟩
  .refine h.av (ff _ A) ?_;rintro _ B rfl e;exact⟨_,_,_,rfl,e.af λH j=>⟨⟨_,true,rfl,rfl,λ_=>rfl⟩,j.fr⟩⟩
  .refine h.af λB e=>e.av (ff _ B) ?_;rintro _ H rfl j;refine⟨_,_,_,rfl,aS (λI=>j.af λM q=>⟨⟨_,_,rfl,?_,λE=>rfl⟩,q.fr⟩) (λI=>j.af λM q=>⟨⟨_,false,rfl,?_,λE=>by cases E⟩,q.fr⟩)⟩
   .show _=(ao (0<=n)&&ao (n<=63));rw[aM (show 0<=n from I)];rfl
   .show _=(ao (0<=n)&&ao (n<=63));rw[aP (show ¬0<=n from I)];rfl
  .refine dY (z h) D C λp N _=>h.af λB e=>?_;have P:=fP (z e) D C N;refine⟨_,P.c1,dY (z e) D C λac G _=>?_⟩;have Q:=fP (z e) D C G;refine⟨_,Q.c1,e.av (nC _ B) ?_⟩;rintro _ H rfl j;refine⟨_,_,_,rfl,(fP (z j) D C G).c1,j.af λM q=>⟨(fP (z q) D C G).c1,⟨_,_,rfl,?_,λ_=>?_⟩,q.fr⟩⟩
   .rw [bm _ (by omega)];rfl
   .show eN _=eN (x.n+y.n);rw[bm _ (by omega)]
  .exact h.af λB e=>⟨⟨x,true,rfl,rfl,λ_=>rfl⟩,e.fr⟩
  .refine h.av (ff _ A) ?_;rintro _ B rfl e;exact⟨_,_,_,rfl,e.af λH j=>⟨⟨_,true,rfl,rfl,λ_=>rfl⟩,j.fr⟩⟩
  .refine dY (z h) S K λp N _=>h.af λB e=>?_;have P:=fP (z e) S K N;refine⟨_,P.c1,dY (z e) S K λac G _=>?_⟩;have Q:=fP (z e) S K G;refine⟨_,Q.c1,e.av (nC _ B) ?_⟩;rintro _ H rfl j;refine⟨_,_,_,rfl,(fP (z j) S K G).c1,j.af λM q=>⟨(fP (z q) S K G).c1,⟨_,_,rfl,?_,λ_=>?_⟩,q.fr⟩⟩
   .rw [bm _ (by omega)];rfl
   .show eN _=eN (x.n+T.n);rw[bm _ (by omega)]
  .omega
  .refine h.av (nC _ A) ?_;rintro _ B rfl e;exact⟨_,_,_,rfl,e.af λH j=>⟨⟨_,true,rfl,rfl,λ_=>rfl⟩,j.fr⟩⟩
 have Y:∀A:J,(op=16\/op=17\/op=18\/op=33)->O F0 w A [.g b2,.g Z,.g b6] [ti k ks]->xg.aX Z 0 0 0 A λr W=>Ab ⟨op,kids,n,m,u,tx,st⟩ x y T r/\ah w W:=by
  intro A ho h;refine h.av (ff 1 A) ?_;rintro _ B rfl e;refine⟨_,_,_,rfl,e.af λH j=>⟨⟨_,true,rfl,?_,λ_=>?_⟩,j.fr⟩⟩
  .rcases ho with rfl|rfl|rfl|rfl<;>rfl
  .rcases ho with rfl|rfl|rfl|rfl<;>rfl
 exact ax (λF=>aT (beq_iff_eq.2 F) (V.af λA h=>Y A (.inl F) h)) λh1=>ax (λF=>aT (beq_iff_eq.2 F) (V.af λA h=>Y A (.inr (.inl F)) h)) λh2=>ax (λF=>aT (beq_iff_eq.2 F) (V.af λA h=>Y A (.inr (.inr (.inl F))) h)) λh3=>ax (λF=>V.af λA h=>Y A (.inr (.inr (.inr F))) h) λak=>V.af λA h=>S1 A h1 h2 h3 ak h
def Tq:fS U ZK bR (.agg #[.int .i64 0,.int .i64 0,.int .i64 0]) 3 24:=⟨by kernel_rfl,by kernel_rfl,rfl,by decide,by decide⟩
def wI(t:ByteArray):Prop:=t.size<=100000/\rJ (bl t)=some (kD t)
def wI.can{t:ByteArray}(d:wI t):rJ (bl t)=some (kD t):=d.2
structure tP(d:Nx):Prop where
 kl:d.kids.length<=eF
 n:dx d.n
 m:dx d.m
 tx:d.op=33->wI d.tx
structure wx(g:List Nx):Prop where
 len:g.length<=eF
 val:∀d∈g,bo d.st=true
 vars:wJ g
def UZ{l:List Nd}{n:Nx}{i:Nat}{k:Int}{e:Nd}(h:n.kids[i]? =some k)(d:l[k.toNat]? =some e):bx (xs l) n i=e.x.st:=by unfold bx;rw[h];dsimp only;rw[ou d]
def XF(i:Nat)(f:Nat->aU):((List.range (i+1)).map f).flatMap gl=((List.range i).map f).flatMap gl++gl (f i):=by rw[List.range_succ];simp
def UW{op:Int}{m:Nat}(d:cl op=(m:Int))(e:m≠0):4<=op/\op<=34:=by
 unfold cl at d;split at d
 .omega
 .split at d
  .omega
  .omega
def UY{op:Int}(d:cl op=0):0<=op/\op<=3:=by
 unfold cl at d;split at d
 .omega
 .split at d
  .omega
  .split at d
   .omega
   .split at d<;>omega
def TQ{g:List Nx}{n:Nx}(d:mR g n=0):(cl n.op==(n.kids.length:Int)&&n.kids.all (eu g)&&hq n)=true:=by
 unfold mR at d;split at d
 .assumption
 .omega
def U3{g:List Nx}{n:Nx}(k:∀h∈g,bo h.st=true)(j:n.kids.all (eu g)=true){i:Nat}(hi:i<n.kids.length):bo (bx g n i)=true:=by
 have d:=dK.1 j _ (vw hi);unfold eu at d;simp only[a9,decide_eq_true_eq]at d;unfold bx;rw[a5 hi];dsimp only;have e:(n.kids[i]).toNat<g.length:=by omega
 rw[a5 e];exact k _ (vw e)
def Gb{w:J}{s:Sl}{l:List Nd}{d:Nd}(j:GP w s l)(hd:d.P w)(hg:wx (xs l))(V:tP d.x):
  aj U Ke #[s.v,d.v] w λr N=>r=gk (bF (xs l) d.x)/\ah w N:=by
 have hn:=h6 j;have aC:(xs l).length=l.length:=by simp[xs]
 have aF:d.ks.n=d.x.kids.length:=bW.len hd;have hl:=hg.len;have hk:=V.kl;rw[aC]at hl;refine rZ.au _ _ _ _ _ _ _ _ _ _ w _ ((u2 j hd).ay λb3 w1 H1=>H1.ay λI w2 Y=>Y.av (RQ (bc.1 (Y.getD 0)) (Y.getD 1) hk) ?_);rintro _ w3 rfl G;refine⟨_,rfl,bY (λai=>G.af λy h=>⟨?_,h.fr⟩) (λh0=>?_)⟩
 .unfold bF;unfold mR at ai ⊢;split
  .rename_i q;rw[ag q]at ai;exact absurd rfl ai
  .rename_i q;rw[Bool.not_eq_true]at q;rw[q];rfl
 have M:=TQ h0;have aw:cl d.x.op=(d.x.kids.length:Int):=by simp only[a9]at M;exact eq_of_beq M.1.1
 have an:d.x.kids.all (eu (xs l))=true:=by simp only[a9]at M;exact M.1.2
 have A:bF (xs l) d.x=if d.x.op<=3 then bQ (xs l) d.x else
   if cR d.x.op (bx (xs l) d.x 0) (bx (xs l) d.x 1) (bx (xs l) d.x 2)=false then(bg,9)else
   if ie d.x (bx (xs l) d.x 0) (bx (xs l) d.x 1) (bx (xs l) d.x 2)=false then(bg,5)else
   if d.x.op=33/\kD d.x.tx=false then(bg,2)else(hx d.x (bx (xs l) d.x 0) (bx (xs l) d.x 1) (bx (xs l) d.x 2),0):=by unfold bF;rw[M];rfl
 refine ax (λaz=>?_) (λaz=>?_)
 .have hz:=UY (op:=d.x.op) (by omega);refine G.av (R0 (bc.1 (G.getD 0)) (G.getD 1) hl hz.1 hz.2 hg.vars) ?_;rintro _ y rfl h;refine⟨_,_,_,_,rfl,h.af λW D=>⟨?_,D.fr⟩⟩;rw[A,ag hz.2]
 have S:=UW (op:=d.x.op) aw (by omega);rw[ab (by omega)]at A;unfold eF at hk hl;have loop:∀(m i:Nat) (E:Sl) (y:J),i+m=d.x.kids.length->O F0 w y [.g b3,.g I,.row bR 3 E (((List.range i).map (bx (xs l) d.x)).flatMap gl)] (lE s l d)->
   rZ.a0 s b3 d.x.op d.ks d.x.n d.x.m d.x.u d.x.tx d.x.st.k d.x.st.n d.x.st.x I 0 0 0 E (i:Int) y λr N=>r=gk (bF (xs l) d.x)/\ah w N:=by
  intro m;induction m with
  |zero=>
   intro i E y hi h;have hi:i=d.x.kids.length:=by omega
   subst hi;have R4:br 3 y E (((List.range d.x.kids.length).map (bx (xs l) d.x)).flatMap gl):=(h.get 2:aK _ _ _ _ _).a7;have F:∀B,B<d.x.kids.length->((List.range d.x.kids.length).map (bx (xs l) d.x))[B]? =some (bx (xs l) d.x B):=λB hj=>by rw[List.getElem?_map,List.getElem?_range hj];rfl
   have ak:∀B,B<d.x.kids.length->bo (bx (xs l) d.x B)=true:=λB hj=>U3 hg.val an hj;refine rZ.bJ _ _ _ _ _ _ _ _ _ _ _ _ _ _ _ _ _ _ _ (aV (aP (by omega)) (h.av (RR d.x.op R4 (F 0 (by omega)) (λh2=>F 1 (by omega)) (λh3=>F 2 (by omega)) S.1 S.2) ?_));rintro _ W rfl D;refine⟨_,rfl,ey (λac=>D.af λw6 Z=>⟨by rw[A,ag ac];rfl,Z.fr⟩) (λac=>?_)⟩;rw[ab (by rw[ac];simp)]at A;have R5:br 3 W E (((List.range d.x.kids.length).map (bx (xs l) d.x)).flatMap gl):=(D.get 2:aK _ _ _ _ _).a7;refine D.av (Sc d R5 (F 0 (by omega)) (λh2=>F 1 (by omega)) (λh3=>F 2 (by omega)) S.1 S.2 (ak 0 (by omega)) (λh2=>ak 1 (by omega)) (λh3=>ak 2 (by omega)) V.n V.m) ?_;rintro _ w6 ⟨t,b,rfl,K,ht⟩ Z;refine⟨_,_,_,_,rfl,Z.ay λaa w7 H7=>ey (λap=>H7.af λC z=>⟨?_,z.fr⟩) (λam=>?_)⟩
   .rw [A,ag (by rw[<-K,ap])];rfl
   rw[ab (by rw[<-K,am];simp)]at A;have ht:=ht am;have S1:∀(c:Bool) (C:J) (L:List En),(d.x.op=33/\kD d.x.tx=false↔c=false)->En.g I∈L->En.g aa∈L->O F0 w C L (lE s l d)->rZ.bb I 0 0 0 aa t.k t.n t.x c C λr N=>r=gk (bF (xs l) d.x)/\ah w N:=by
    intro c C L q m4 aD z;have al:∀b∈[I,aa],En.g b∈L:=by
     intro b K;simp only[aE,aZ,a2]at K;rcases K with rfl|rfl
     .exact m4
     .exact aD
    refine ey (λaq=>z.af (λw9 H=>⟨?_,H.fr⟩) al) (λar=>z.af (λw9 H=>⟨?_,H.fr⟩) al)
    .rw [A,ag (q.2 aq)];rfl
    .rw [A,ab (λj=>by rw[ar]at q;cases q.1 j),ht]
   refine bY (λQ=>H7.af λC z=>S1 true C _ ⟨λj=>absurd j.1 Q,λj=>by cases j⟩ (by simp) (by simp) z) (λQ=>H7.af λC z=>?_);have ao:=V.tx Q;refine z.av (Rp d.x.tx ao.1 _ ao.can C) ?_;rintro _ w9 rfl H;exact⟨_,rfl,S1 _ w9 _ ⟨λj=>j.2,λj=>⟨Q,j⟩⟩ (by simp) (by simp) H⟩
  |succ m ih=>
   intro i E y hi h;have T:d.x.kids[i]? =some (d.x.kids[i]'(by omega)):=a5 (by omega);have ae:=dK.1 an _ (aB T);generalize d.x.kids[i]'(by omega)=kx at T ae;unfold eu at ae;simp only[a9,decide_eq_true_eq]at ae;have ad:l[kx.toNat]? =some (l[kx.toNat]'(by omega)):=a5 (by omega);generalize l[kx.toNat]'(by omega)=e at ad;have aA:bW y d.ks d.x.kids:=h.getD 1;have aG:=Nd.cb (show br 9 y s (l.flatMap Nd.c)from(bc.1 (h.getD 0)).1);refine rZ.bJ _ _ _ _ _ _ _ _ _ _ _ _ _ _ _ _ _ _ _ (aT (aM (by omega)) ⟨by omega,by omega,aA.cell T (by omega) λp hp q=>⟨kx,q,e4 (bc.1 (h.getD 0)) (i:=kx.toNat) (by omega) ad λaH hq c=>⟨_,_,_,c.s0,c.s1,c.s2,?_⟩⟩⟩);have hlen:E.n=i:=by have:=(h.get 2:aK _ _ _ _ _).len;rw[OX]at this;simp at this;omega
   refine h.iA 2 Tq rfl (λs' W D=>?_) (by omega);rw[bw _ (by omega)];refine ih (i+1) s' W (by omega) ?_;rw[XF,UZ T ad];exact D
 exact loop d.x.kids.length 0 ⟨none,0,0⟩ w3 (by omega) (G.h' bR 3)
def kI(k:Nat):Rx:=BD (eH (k%6)) (eH (k / 6%6)) (eH (k / 36%6)) (k / 216%8)
def Mp(k:Nat):Bool:=cE (kI k)&&Nat.ble (kI k).sz 1000&&ia (dv (kI k))&&Nat.ble (dv (kI k)).sz 1000
def WO:(List.range 1728).all Mp=true:=by kernel_rfl
def Ie(k:Nat):kI k=kI (k%1728):=by unfold kI;rw[show k%1728%6=k%6 by omega,show k%1728 / 6%6=k / 6%6 by omega,show k%1728 / 36%6=k / 36%6 by omega,show k%1728 / 216%8=k / 216%8 by omega]
def Zv(k:Nat):cE (kI k)=true/\(kI k).sz<=1000/\ia (dv (kI k))=true/\(dv (kI k)).sz<=1000:=by rw[Ie];have:=dK.1 WO (k%1728) (List.mem_range.2 (Nat.mod_lt _ (by omega)));unfold Mp at this;simp only[a9]at this;exact⟨this.1.1.1,Nat.le_of_ble_eq_true this.1.1.2,this.1.2,Nat.le_of_ble_eq_true this.2⟩
def PG(k:Nat):ng k=a6 (dv (kI k)):=rfl
def Zt(k:Nat):ng k=ng (k%1728):=by rw[PG,PG,Ie]
section
variable {s:Sl} {l:List I} {bs:Nat}
end
def W9{s:Sl}{l:List I}{w:J}(z:I.aY l<=1000000)(B:aK w aO 4 s (l.flatMap I.c))(D:I.Ps w l)(hd:∀H∈aN s,H∉I.a8 l)(A X d:List I)(h:l=A++X++d)(K:X.length<=12)(a b:Int)(x:a=(A.length:Int))(y:b=((A.length+X.length:Nat):Int))(C:Int)(F G:Bool){R:aC}(q:∀e,aK e aO 4 s ((A++fA X++d).flatMap I.c)->Fr (·∈aN s) w e->R (ae (.tuple #[])) e):zd.L0 s a b C F G w R:=by
 have M:=I.fB l;have L:A.length+X.length+d.length=l.length:=by rw[h];simp[Nat.add_assoc]
 subst x y;refine zd.cU _ _ _ _ _ _ _ _ (aT (aM ?_) ?_)
 .rw [bm _ (by omega)];omega
 refine(RW s l w z B D hd A X d h _ rfl).mono ?_;rintro _ E ⟨⟨rfl,k⟩,j⟩;exact⟨rfl,q E k j⟩
abbrev SG(bs:List Nat)(f:FuncId)(xs:Array aa)(w:J)(K:ByteArray->Int->J->Prop):Prop:=fq bs U f xs w λh j=>∃d:ByteArray,∃e:Int,h=ae (.tuple #[.string d,.i e])/\K d e j
def OS:k' 12:=by intro s l h k x e z w;have y:=I.cb e.a7;refine OQ.ok _ h _ ((Ry _ h).mono ?_);rintro _ A ⟨⟨t,rfl⟩,f⟩;refine⟨t,rfl,zd.ok _ _ _ _ A _ (W9 x (e.fr f λ_ _ d=>d) (z.cd f) w [] l [] (by simp) k _ _ rfl (by simp[y]) _ _ _ λB q j=>?_)⟩;exact⟨rfl,⟨fA l,rfl,Yz l,Yx l,by simpa using q⟩,f.Dn.trans j λC _ d=>d⟩
def F3{a b:Nat}(e:¬a<b):Nat.blt a b=false:=by
 cases d:Nat.blt a b with
 |false=>rfl
 |true=>rw[Nat.blt_eq]at d;exact absurd d e
mutual
def BH:∀q:Rx,cE q=true->ia q=true
 |.mk k lo w l,h=>by
  unfold cE at h;simp only[a9]at h;have d:=h.2;have j:dA l=true->m1 l=true:=Ik l;unfold ia;split at d
  .rename_i e;have:l=[]:=by simpa using d
   subst this;have e:k=0\/k=1:=e;unfold m1;rcases e with rfl|rfl<;>decide
  .split at d
   .rename_i e;simp only[a9]at d;have:l=[]:=by simpa using d.1
    subst this;subst e;unfold m1;decide
   .split at d
    .rename_i e;rw[j d];rcases e with rfl|rfl|rfl<;>simp
    .split at d
     .rename_i e;simp only[a9,beq_iff_eq]at d;rw[j d.2];rcases e with rfl|rfl<;>simp[d.1]
     .cases d
def Ik:∀l:List Rx,dA l=true->m1 l=true
 |[],_=>rfl
 |a::l,d=>by unfold dA at d;unfold m1;simp only[a9]at d;rw[BH a d.1,Ik l d.2];rfl
end
def Zh(s:ByteArray)(hf:∀aa,g6 (bl s)=.inr aa->iG 12 (cu aa.tp))(w:J):aj U CX #[.string s] w λr w'=>r=ae (.bool (iO (bl s)))/\ah w w':=by
 have hl:(bl s).length=s.size:=c9 s;have Z:O F0 w w [] []:=bO [] (by simp);refine Pz.au s w _ ((Ga s w).mono ?_);rintro r w1 ⟨f1,V⟩;have H1:=Z.cd f1;have no:∀(a e:Int),e≠0->iO (bl s)=false->r=ae (.tuple #[.agg #[.int .i64 0,.int .u8 0,.int .u8 0,.slice none 0 0],.int .i64 a,.int .i64 e])->∃(t0 t1 t2:Int) (t3:Sl) (t4 t5:Int),r=ae (.tuple #[.agg #[.i t0,.int .u8 t1,.int .u8 t2,t3.v],.i t4,.i t5])/\sG [] w1 λj M=>bq (t5 !=0) (loc [j] M λy=>(Ending.returned (.bool false)=ae (.bool (iO (bl s)))/\ah w y)) (loc [j] M λy=>SE [j] CK #[.agg #[.i t0,.int .u8 t1,.int .u8 t2,t3.v]] y λam an ao ap aq Y=>sG [j] Y λG N=>
   bq (aq !=0) (loc [j,G] N λW=>(Ending.returned (.bool false)=ae (.bool (iO (bl s)))/\ah w W)) (loc [j,G] N λW=>SG [j,G] KR #[.agg #[.i am,.int .u8 an,.int .u8 ao,ap.v]] W λar aw ad=>bq (aw==0) (Ending.returned (.bool (ar.toList==s.toList))=ae (.bool (iO (bl s)))/\ah w ad) (Ending.returned (.bool false)=ae (.bool (iO (bl s)))/\ah w ad))):=λa e K hn V=>⟨0,0,0,⟨none,0,0⟩,a,e,V,H1.ay λj M P=>bY (λ_=>P.af λw3 E=>⟨by rw[hn],E.fr⟩) (λA=>absurd A K)⟩
 rcases V with⟨h1,k⟩|⟨h1,res,al,⟨a,rfl,k⟩|⟨h,rfl,⟨H,k⟩|⟨H,t,k,C,pt,ft⟩⟩⟩
 .refine no _ _ (by decide) ?_ k;unfold iO;rw[show Nat.blt 4096 (bl s).length=true from by rw[Nat.blt_eq];omega];rfl
 all_goals have S:Nat.blt 4096 (bl s).length=false:=F3 (by omega)
 all_goals have d:=PU al
 .have d:Sum.inl a=g6 (bl s):=d;refine no _ _ (by decide) ?_ k;unfold iO;rw[S,<-d];rfl
 .have d:Sum.inr (eU h)=g6 (bl s):=d;refine no _ _ (by decide) ?_ k;unfold iO;rw[S,<-d];dsimp only[cond_false];rw[r5,show Nat.blt 64 (cu h.tp).sz=true from by rw[Nat.blt_eq];exact H];rfl
 .have d:Sum.inr (eU h)=g6 (bl s):=d;have T:=hf _ d.symm;rw[r5]at T;have B:iO (bl s)=if jI (cu h.tp)=0 then(if hR (fw (cu h.tp))=0 then cy 0 (fw (cu h.tp)) (a6 (fw (cu h.tp)))==bl s else false)else false:=by unfold iO;rw[S,<-d];dsimp only[cond_false];have:Nat.blt 64 (cu h.tp).sz=false:=F3 (by omega);rw[r5,this];rfl
  generalize cu h.tp=x at C T B H;have ai:=Z.ek (.tree t) f1 pt (λb Q=>.inl (ft b (a4.1 Q)));have az:t.sz<=64:=by rw[<-I.dR,C];exact H
  refine⟨_,_,_,t.s,_,_,k,ai.ay λj M P=>bY (λA=>absurd rfl A) (λ_=>P.af λw3 E=>?_)⟩;refine E.gY (F' OS (by omega) t w3 (by omega) (by rw[C];exact T) (E.getD 0)) ?_;rintro _ w4 ⟨u,rfl,D,pu,fu⟩ _ F4;rw[C]at D;rw[C];have H4:=F4.rd (.tree u) pu λb Q=>fu b (a4.1 Q);refine⟨_,_,_,u.s,_,rfl,H4.ay λG w5 H5=>bY (λL=>H5.af λy z=>⟨by rw[B,ab L],z.fr⟩) (λK=>H5.af λy z=>?_)⟩;rw[ag K]at B;have ac:u.sz<=1000000:=by
   rw[<-I.dR,D];have:jI x=0:=K;unfold jI at this;unfold fw;split at this
   .rename_i q;rw[ag q];unfold nP at this;unfold nQ;split at this
    .cases this
    .rename_i ak;rw[ab ak];omega
   .rename_i q;exact absurd this q
  refine jZ (DZ.au _ _ _ _ y _ ((ga (z.getD 1)).ay λb1 Y H7=>H7.av (AG u Y ac (H7.getD 0)) ?_));rintro _ N rfl F;rw[D];refine⟨_,rfl,bY (λL=>⟨F.fr,_,_,rfl,ax (λA=>absurd A L) (λ_=>⟨by rw[B,ab L],(z.cd F.fr).fr⟩)⟩) (λq=>F.av (MJ u 0 N ac (by omega) ?_ (F.getD 0)) ?_)⟩
  .exact BH _ (by rw[D];exact(zB q).1)
  .rintro _ w9 rfl H9;refine⟨_,rfl,H9.fr,_,_,rfl,aT rfl ⟨?_,(z.cd H9.fr).fr⟩⟩;rw[B,ag q,D];congr 2;have:=rC (cy 0 (fw x) (a6 (fw x))) (bl s);rw[jx]at this;exact this
def Wy(t:ByteArray)(e:∀d,g6 (bl t)=.inr d->iG 12 (cu d.tp)):pE t:=λh=>Zh t e h
structure aI where
 p:Nat
 tm:Nat
 g:List Nx
structure PM where
 ps:List (List UInt8×aU)
 b:Nat
 ix:Nat
structure bS where
 T:List aR
 vs:List (List UInt8×Nat)
 ms:List (List UInt8×PM)
 pm:List (List UInt8×Nat)
 kn:Nat
 dp:Nat
inductive PR (α:Type)
 |ok (a:α) (s:aI)
 |er (e:Int) (p:Nat)
def PR.b{α β:Type}(x:PR α)(f:α->aI->PR β):PR β:=match x with
 |.ok a s=>f a s
 |.er d p=>.er d p
def lk{α:Type}:List (List UInt8×α)->List UInt8->Option α
 |[],_=>none
 |(d,v)::l,t=>if d=t then some v else lk l t
def aW(T:List aR)(p:Nat):aR:=T.getD p ⟨6,[],0⟩
def cK(t:aR)(s:aI):aI:=if t.kind=6 then s else{s with p:=s.p+1}
def jl{α:Type}(t:aR):PR α:=.er (if t.kind=6 then 3 else 2) t.a3
def bM(T:List aR)(k:Int)(s:aI):PR aR:=
 if(aW T s.p).kind=k then .ok (aW T s.p) (cK (aW T s.p) s)else jl (aW T s.p)
def cV(base:Nat)(l:List UInt8):Nat:=l.foldl (λn c=>base *n+ep c) 0
def dm(T:List aR)(s:aI):PR Int:=(bM T 4 s).b λt s=>.ok (cV 10 t.text:Int) s
def tg(w:List UInt8):Option Int:=
 if w=[98,118]then some 0 else if w=[115,116,114]then some 1 else if w=[97,114,114]then some 2 else if w=[97,114,115]then some 3 else none
def ic(T:List aR)(s:aI):PR aU:=
 (bM T 0 s).b λt s=>(bM T 2 s).b λe s=>match tg e.text with
 |none=>jl e
 |some d=>(if d=2\/d=3 then dm T s else .ok 0 s).b λh s=>(dm T s).b λn s=>(bM T 1 s).b λ_ s=>
  if bo ⟨d,n,h⟩then .ok ⟨d,n,h⟩ s else .er 9 t.a3
def eR(s:aI)(n:Nx)(t:aR):PR Nat:=
 if(b6 s.g n).2.2=0 then .ok (b6 s.g n).2.1.toNat {s with g:=(b6 s.g n).1}else .er (b6 s.g n).2.2 t.a3
def yr(op:Int):Nx:=⟨op,[],0,0,0,ba [],bg⟩
def e7(l:List UInt8):Nx:=
 if l[1]? =some 120 then⟨1,[],0,0,(cV 16 (l.drop 2):Int),ba [],a' (((l.length - 2) *4:Nat):Int)⟩else⟨1,[],0,0,(cV 2 (l.drop 2):Int),ba [],a' ((l.length - 2:Nat):Int)⟩
def fM:List (List UInt8×(Int×Nat)):=[
 ([110,111,116],4,1),([110,101,103],5,1),([97,110,100],6,2),([111,114],7,2),([120,111,114],8,2),
 ([97,100,100],9,2),([109,117,108],10,2),([117,100,105,118],11,2),([117,114,101,109],12,2),([115,104,108],13,2),
 ([108,115,104,114],14,2),([97,115,104,114],15,2),([117,108,116],16,2),([115,108,116],17,2),([101,113],18,2),
 ([105,116,101],19,3),([99,111,110,99,97,116],20,2),([115,101,108,101,99,116],24,2),([115,116,111,114,101],25,3),([100,105,102,102],26,2),
 ([108,101,110],27,1),([99,97,116],29,2),([115,117,98],30,3),([102,105,110,100],31,2),([114,101,112,108,97,99,101],32,3),([99,104,97,114],34,1)]
def OU:List (List UInt8):=[[110,117,109],[122,101,114,111],[101,120,116,114,97,99,116],[122,101,120,116],[115,101,120,116],[98,121,116,101],[105,110]]
def l7(w:List UInt8):Bool:=OU.contains w||(lk fM w).isSome
def gP(t:List UInt8):List UInt8×Int:=if 4096<t.length then([],4)else match g6 t with
 |.inl _=>([],2)
 |.inr d=>if 64<(cu d.tp).sz then([],4)else
  if jI (cu d.tp)=0 then(if hR (fw (cu d.tp))=0 then(cy 0 (fw (cu d.tp)) (a6 (fw (cu d.tp))),0)else([],hR (fw (cu d.tp))))else([],jI (cu d.tp))
def pa(T:List aR)(s:aI):PR (List UInt8):=(bM T 5 s).b λt s=>if(gP t.text).2=0 then .ok (gP t.text).1 s else .er (gP t.text).2 t.a3
def ho(tm:aI->PR Nat):Nat->aI->PR (List Int)
 |0,s=>.ok [] s
 |n+1,s=>(tm s).b λk s=>(ho tm n s).b λl s=>.ok ((k:Int)::l) s
def i7(T:List aR)(w:List UInt8)(s:aI):PR (Nx×Nat):=
 if w=[110,117,109]then(dm T s).b λu s=>(dm T s).b λn s=>.ok (⟨1,[],0,0,u,ba [],a' n⟩,0) s else
 if w=[122,101,114,111]then(ic T s).b λd s=>.ok (⟨3,[],0,0,0,ba [],d⟩,0) s else
 if w=[101,120,116,114,97,99,116]then(dm T s).b λn s=>(dm T s).b λm s=>.ok (⟨21,[],n,m,0,ba [],bg⟩,1) s else
 if w=[122,101,120,116]then(dm T s).b λn s=>.ok (⟨22,[],n,0,0,ba [],bg⟩,1) s else
 if w=[115,101,120,116]then(dm T s).b λn s=>.ok (⟨23,[],n,0,0,ba [],bg⟩,1) s else
 if w=[98,121,116,101]then(dm T s).b λn s=>.ok (⟨28,[],n,0,0,ba [],bg⟩,1) s else
 if w=[105,110]then(pa T s).b λr s=>.ok (⟨33,[],0,0,0,ba r,bg⟩,1) s else
 .ok (yr ((lk fM w).getD (0,0)).1,((lk fM w).getD (0,0)).2) s
def jc(T:List aR)(tm:aI->PR Nat)(w:List UInt8)(s:aI):PR Nx:=
 (i7 T w s).b λd s=>(ho tm d.2 s).b λe s=>.ok {d.1 with kids:=e} s
def mV(E:bS)(w:List UInt8):Option PM:=match lk E.ms w with
 |some m=>if m.ix<E.kn then some m else none
 |none=>none
def i3:List (List UInt8×aU)->List Int->List (List UInt8×Nat)
 |(p,_)::e,a::d=>(p,a.toNat)::i3 e d
 |_,_=>[]
def iD(tm:bS->aI->PR Nat)(E:bS)(m:PM)(az:List Int)(s:aI):PR Nat:=
 (tm {E with pm:=i3 m.ps az,kn:=m.ix} {s with p:=m.b}).b λn d=>.ok n {d with p:=s.p}
def mY(tm:bS->aI->PR Nat)(E:bS)(t:aR)(s:aI):PR Nat:=match lk E.pm t.text with
 |some n=>.ok n s
 |none=>match lk E.vs t.text with
  |some n=>.ok n s
  |none=>match mV E t.text with
   |some m=>if m.ps=[]then iD tm E m [] s else .er 6 t.a3
   |none=>.er 6 t.a3
def pe(g:List Nx):List (List UInt8×aU)->List Int->Bool
 |(_,h)::e,a::d=>ao ((g[a.toNat]?).map (·.st)=some h)&&pe g e d
 |_,_=>true
def rH(tm:bS->aI->PR Nat)(E:bS)(t w:aR)(s:aI):PR Nat:=match mV E w.text with
 |none=>.er 6 w.a3
 |some m=>(ho (tm E) m.ps.length s).b λd s=>(bM E.T 1 s).b λ_ s=>
  if pe s.g m.ps d then iD tm E m d s else .er 9 t.a3
def mH(tm:bS->aI->PR Nat)(E:bS)(t:aR)(s:aI):PR Nat:=
 if 64<=E.dp then .er 4 t.a3 else
 (bM E.T 2 s).b λd s=>
  if l7 d.text then(jc E.T (tm {E with dp:=E.dp+1}) d.text s).b λn s=>(bM E.T 1 s).b λ_ s=>eR s n t
  else rH tm {E with dp:=E.dp+1} t d s
def ji(tm:bS->aI->PR Nat)(E:bS)(s:aI):PR Nat:=
 let t:=aW E.T s.p
 if t.kind=1\/t.kind=4\/t.kind=6 then jl t else
 if 65536<=s.tm then .er 4 t.a3 else
 let s:={cK t s with tm:=s.tm+1}
 if t.kind=2 then mY tm E t s else
 if t.kind=3 then eR s (e7 t.text) t else
 if t.kind=5 then eR s ⟨2,[],0,0,0,ba t.text,bg⟩ t else
 mH tm E t s
def fQ:Nat->bS->aI->PR Nat
 |0,_,_=>.er 1000 0
 |f+1,d,s=>ji (fQ f) d s
set_option maxHeartbeats 2000000
namespace Pb
noncomputable abbrev t0:=aA U Tryz.f131 [] []
def ok:=aF t0 Lm [.st,.v]
end Pb
namespace vZ
noncomputable abbrev t0:=aA U Tryz.f152 [] []
noncomputable def L0:=bu t0 [0,1,1,1,1] [(1,.v [.f]),(2,.v [.b]),(10,.v [.v])]
noncomputable abbrev t1:=bt L0
def cU:=bH t1 L0
def ok:=aF t1 Ln [.st,.f,.b]
end vZ
namespace I5
noncomputable abbrev t0:=aA U Tryz.f98 [] []
def ok:=aF t0 Kz [.st,.I]
end I5
namespace I6
noncomputable abbrev t0:=aA U Tryz.f132 [] []
def ok:=aF t0 sy [.i .i32,.r]
end I6
namespace I8
noncomputable abbrev t0:=aA U Tryz.f133 [] []
def ok:=aF t0 KB [.i .i32,.I]
end I8
namespace Ja
noncomputable abbrev t0:=aA U Tryz.f69 [] []
def ok:=aF t0 KH [.Y]
end Ja
namespace I7
noncomputable abbrev t0:=aA U Tryz.f70 [] []
def ok:=aF t0 KA [.Y,.I]
end I7
namespace xL
noncomputable abbrev t0:=aA U Tryz.f71 [] []
abbrev P0:Ps:=[]
noncomputable abbrev S0:=ai t0 [0,1,1,2,1,1,2] P0
noncomputable abbrev t1:=ak S0
abbrev P1:Ps:=[(0,.v [.st])]
noncomputable abbrev S1:=ai t1 [1,1,1,1,2] P1
noncomputable abbrev t2:=ak S1
noncomputable abbrev S2:=ai t2 [0,1,1,1,3] P0
noncomputable abbrev t3:=ak S2
noncomputable abbrev S4:=ai t3 [6] [(0,.v [.st]),(4,.v [.I]),(5,.v [.I])]
noncomputable abbrev t4:=ak S4
noncomputable abbrev S3:=ai t4 [4] P1
noncomputable abbrev t5:=ak S3
def ok:=aF t5 KD [.st]
end xL
namespace nO
noncomputable abbrev t0:=aA U Tryz.f97 [(4,ls [0,1,2,3,4]),(7,ls [0,1,2,3,4]),(11,ls [0,1,2,3,4]),(18,ls [0,1,2,3,4]),(20,ls [0,1,2,3,4])] [6,7,8]
noncomputable abbrev aX:=ai t0 [0,1,1,2,1,1,2] [(1,.v [.I]),(6,.l [.I,.I] ik),(8,.l [.I,.I] ik)]
noncomputable abbrev t1:=ak aX
noncomputable abbrev bA:=ai t1 [1,1,2,1,4] [(1,.v [.I]),(6,.l [.I,.I] ik),(9,.v [.Y])]
noncomputable abbrev t2:=ak bA
abbrev P0:Ps:=[(0,.v [.st]),(1,.v [.I]),(6,.l [.I,.I] ik),(7,.l [.I,.I] ik),(8,.l [.I,.I] ik),(10,.v [.I]),(11,.v [.I])]
noncomputable def hC:=bu t2 [0,1,1,1,6] P0
noncomputable abbrev t3:=bt hC
noncomputable abbrev fG:=ai t3 [2,2,1,1,6] P0
noncomputable abbrev t4:=ak fG
def mB:=bH t4 hC
noncomputable abbrev bb:=ai t4 [1,1,4] [(0,.v [.st]),(1,.v [.I]),(6,.l [.I,.I] ik),(7,.l [.I,.I] ik),(8,.l [.I,.I] ik),(9,.v [.Y])]
noncomputable abbrev t5:=ak bb
def au:=aF t5 KE [.st,.I]
end nO
def VM(s:ByteArray)(c:UInt8)(w:J):Sem.run U (callFunc sx #[.string s,.int .u8 (c.toNat:Int)]) w=.ok (.value (.int .i64 (Go.Lib.indexByte (bl s) c))) w:=by have d:=run_callFunc_indexByte (P:=U) (f:=sx) (fn:=(Tryz.prog.funcs[sx]?).getD default) (by kernel_rfl) (by kernel_rfl) (by kernel_rfl) (by kernel_rfl) (by kernel_rfl) #[.string s,.int .u8 (c.toNat:Int)] w;rw[d,Go.Lib.run_indexByteString];show Result.ok _ w=_;congr 4;simp
def xU(s:ByteArray)(c:UInt8)(w:J):aj U CV #[.string s,.int .u8 (c.toNat:Int)] w λr d=>r=ae (.int .i64 (Go.Lib.indexByte (bl s) c))/\w=d:=by
 refine EA.ok _ _ w _ ?_;refine(show aj U Ct #[.string s,.int .u8 (c.toNat:Int)] w λr d=>r=ae (.int .i64 (Go.Lib.indexByte (bl s) c))/\w=d from ?_).mono ?_
 .exact BT.ok _ _ w _ ⟨_,w,VM s c w,rfl,rfl⟩
 .rintro r e ⟨rfl,rfl⟩;exact⟨_,rfl,rfl,rfl⟩
def BQ:∀(l:List UInt8) (c:UInt8),(0<=Go.Lib.indexByte l c)=(c∈l)
 |[],c=>by simp[Go.Lib.indexByte]
 |b::l,c=>by
  unfold Go.Lib.indexByte;have k:=BQ l c;by_cases e:b=c
  .subst e;simp
  .rw [ab (by simpa using e)];have q:=Go.Lib.indexByte_ge l c;have d:(c∈b::l)=(c∈l):=by apply propext;rw[aE];exact⟨λj=>j.resolve_left λd=>e d.symm,.inr⟩
   rw[d,<-k];split
   .rename_i h;have:Go.Lib.indexByte l c=-1:=by simpa using h
    rw[this]
   .rename_i h;have:Go.Lib.indexByte l c≠-1:=by simpa using h
    apply propext;omega
def B6(c:UInt8)(w:J):aj U KH #[.int .u8 (c.toNat:Int)] w λr e=>r=ae (.bool (nR c))/\w=e:=by
 refine Ja.ok _ w _ (bh (λd=>?_) (λd=>?_))
 .have:=eZ d;refine⟨?_,rfl⟩;unfold nR;rw[aM (show 97<=c.toNat by omega),Bool.true_and];congr 2;exact decide_eq_decide.2 (by omega)
 .have:=kq d;refine⟨?_,rfl⟩;unfold nR;rw[aP (show ¬97<=c.toNat by omega),Bool.false_and]
def B4(c:UInt8)(base:Nat)(w:J):aj U KA #[.int .u8 (c.toNat:Int),.int .i64 (base:Int)] w λr A=>r=ae (.bool (cw base c))/\w=A:=by
 refine I7.ok _ _ w _ (bh (λq=>?_) (λq=>bh (λk=>?_) (λk=>?_)))
 .have h:base=2:=by have:(base:Int)=2:=(by simpa using q);omega
  subst h;refine bh (λd=>⟨?_,rfl⟩) (λd=>⟨?_,rfl⟩)<;>(congr 2;unfold cw;rw[Bool.eq_iff_iff];simp at d ⊢;omega)
 .have h:base=16:=by have:(base:Int)=16:=(by simpa using k);omega
  subst h;refine bh (λd=>bh (λx=>⟨?_,rfl⟩) (λx=>bh (λj=>⟨?_,rfl⟩) (λj=>⟨?_,rfl⟩))) (λd=>bh (λj=>⟨?_,rfl⟩) (λj=>⟨?_,rfl⟩))<;>(congr 2;unfold cw;rw[Bool.eq_iff_iff];simp at *;omega)
 .have z:base≠2:=λe=>by subst e;simp at q
  have y:base≠16:=λe=>by subst e;simp at k
  refine bh (λd=>⟨?_,rfl⟩) (λd=>⟨?_,rfl⟩)<;>(congr 2;unfold cw;rw[ab z,ab y,Bool.eq_iff_iff];simp at d ⊢;omega)
def U5(c:UInt8)(base:Nat)(w:J):aj U KB #[.int .i32 (c.toNat:Int),.int .i64 (base:Int)] w λr A=>r=ae (.bool (cw base c))/\w=A:=by
 refine I8.ok _ _ w _ (bh (λq=>?_) (λq=>bh (λk=>?_) (λk=>?_)))
 .have h:base=2:=by have:(base:Int)=2:=(by simpa using q);omega
  subst h;refine bh (λd=>⟨?_,rfl⟩) (λd=>⟨?_,rfl⟩)<;>(congr 2;unfold cw;rw[Bool.eq_iff_iff];simp at d ⊢;omega)
 .have h:base=16:=by have:(base:Int)=16:=(by simpa using k);omega
  subst h;refine bh (λd=>bh (λx=>⟨?_,rfl⟩) (λx=>bh (λj=>⟨?_,rfl⟩) (λj=>⟨?_,rfl⟩))) (λd=>bh (λj=>⟨?_,rfl⟩) (λj=>⟨?_,rfl⟩))<;>(congr 2;unfold cw;rw[Bool.eq_iff_iff];simp at *;omega)
 .have z:base≠2:=λe=>by subst e;simp at q
  have y:base≠16:=λe=>by subst e;simp at k
  refine bh (λd=>⟨?_,rfl⟩) (λd=>⟨?_,rfl⟩)<;>(congr 2;unfold cw;rw[ab z,ab y,Bool.eq_iff_iff];simp at d ⊢;omega)
def Ao{b:Bool}{p:Prop}(d:b=true)(e:p):W.cB b p:=by subst d;exact e
def BY(w:J)(s:ByteArray)(i:Nat):ah w (w.iter s i):=Fr.alloc _ _ _
def U4(c:UInt8)(base d:Nat)(w:J)(e:w.cell? (ad d)=some (.int .i64 (base:Int))):aj U sy #[.int .i32 (c.toNat:Int),.pointer (some (ad d))] w λr h=>r=ae (.bool (!(cw base c)))/\w=h:=by refine I6.ok _ _ w _ ⟨_,e,(U5 c base w).mono ?_⟩;rintro r j ⟨rfl,rfl⟩;exact⟨_,rfl,rfl,rfl⟩
def IS(s:ByteArray)(base:Nat)(w:J)(F:∀c∈bl s,c.toNat<128):aj U Kz #[.string s,.int .i64 (base:Int)] w λr k=>r=ae (.bool ((bl s).all (cw base)))/\ah w k:=by
 have I:∀(K:J->Prop),(∀e,ah w e->e.heap[w.heap.size]? =some (.cells #[.int .i64 (base:Int)] bn (0,0))->K e)->cS w (.cells #[.int .i64 (base:Int)] bn) K:=λK h=>h _ (Fr.alloc _ _ _) (oR w _);refine I5.ok _ _ w _ (I _ λe y D=>?_);have key:∀(d i:Nat),i+d=s.size->((bl s).take i).all (cw base)=true->vZ.L0 ⟨sy,#[],#[.pointer (some (ad w.heap.size))]⟩ true (.pointer (some ⟨e.heap.size,0,none⟩)) (e.iter s i)
   λr k=>(∃t:Int,r=ae (.int .i64 t)/\ao (t<0)=(bl s).all (cw base))/\ah w k:=by
  intro d;induction d with
  |zero=>
   intro i H q;refine vZ.cU _ _ _ _ _ (.inl ⟨_,run_next_end e s i _ (by omega),⟨_,rfl,?_⟩,y.gE (BY _ _ _)⟩);rw[dM (by rw[c9];omega)]at q;rw[q];rfl
  |succ d L=>
   intro i H q;have A:i<s.size:=by omega
   have z:i<(bl s).length:=by rw[c9];exact A
   have B:s[i]∈bl s:=by have:(bl s)[i]=s[i]:=rfl;rw[<-this];exact vw z
   have G:=F _ B;refine vZ.cU _ _ _ _ _ (.inr ⟨_,_,_,run_next_ascii e s i _ A G,?_⟩);have j:(bl s).take (i+1)=(bl s).take i++[s[i]]:=by rw[List.take_add_one,a5 z];rfl
   refine Ao (by kernel_rfl) ((U4 s[i] base w.heap.size (e.iter s (i+1)) ?_).mono ?_)
   .have:=(BY e s (i+1)).at D id;have:=cellAt (p:=ad w.heap.size) (i:=0) this rfl rfl
    rwa[iz]at this
   .rintro r C ⟨rfl,rfl⟩;refine⟨_,rfl,bh (λh=>?_) (λh=>?_)⟩
    .have h:((!cw base s[i])==true)=true:=h;have x:cw base s[i]=false:=by simpa using h
     refine⟨⟨_,rfl,?_⟩,y.gE (BY _ _ _)⟩;have:(bl s).all (cw base)=false:=by
      cases E:(bl s).all (cw base)with
      |false=>rfl
      |true=>have:=dK.1 E _ B;rw[x]at this;cases this
     rw[this];exact aP (by omega)
    .have h:((!cw base s[i])==true)=false:=h;have x:cw base s[i]=true:=by simpa using h
     exact L (i+1) (by omega) (by rw[j,List.all_append,q];simp[x])
 have whole:aj U Lm #[.string s,.func (.func sy) #[] #[.pointer (some (ad w.heap.size))]] e λr k=>(∃t:Int,r=ae (.int .i64 t)/\ao (t<0)=(bl s).all (cw base))/\ah w k:=by refine Pb.ok _ _ e _ ((show aj U Ln #[.string s,(⟨sy,#[],#[.pointer (some (ad w.heap.size))]⟩:W.Fv).v,.bool true] e _ from vZ.ok _ ⟨sy,#[],#[.pointer (some (ad w.heap.size))]⟩ _ e _ ⟨_,_,run_range_string e _ s zl,key s.size 0 (by omega) rfl⟩).mono ?_);rintro r C ⟨⟨t,rfl,j⟩,f⟩;exact⟨t,rfl,⟨t,rfl,j⟩,f⟩
 refine whole.mono ?_;rintro r C ⟨⟨t,rfl,j⟩,f⟩;exact⟨t,rfl,by rw[j],f⟩
def u5{s:ByteArray}{l:List UInt8}(e:bl s=l)(i:Nat):s[i]? =l[i]?:=by
 subst e;by_cases d:i<s.size
 .rw [getElem?_pos s i d,a5 (by rw[c9];exact d)];rfl
 .rw [getElem?_neg s i d,List.getElem?_eq_none (by rw[c9];omega)]
def F2(s:ByteArray)(i j:Nat):bl (s.extract i j)=((bl s).take j).drop i:=by unfold bl;rw[ByteArray.data_extract,Array.toList_extract,List.extract_eq_drop_take']
def U7(s:ByteArray)(w:J)(h0:bl s≠[])(hw:∀c∈bl s,bL c=true)(af:s.size<=1000000):aj U KD #[.string s] w λr D=>r=ae (.tuple #[.int .i64 (ft (bl s)).1,.int .i64 (ft (bl s)).2])/\ah w D:=by
 obtain⟨c,l,q⟩:∃c l,bl s=c::l:=by
  cases e:bl s with
  |nil=>exact absurd e h0
  |cons c l=>exact⟨c,l,rfl⟩
 have Q:∀j∈bl s,j.toNat<128:=λj y=>by have:=hw j y;unfold bL nR cw at this;simp at this;omega
 have B:s.size=l.length+1:=by rw[<-c9,q];rfl
 have L:s[0]? =some c:=by rw[u5 q];rfl
 refine xL.ok _ w _ ⟨by omega,c,L,(B6 c w).mono ?_⟩;rintro r I ⟨rfl,rfl⟩;refine⟨_,rfl,bh (λH=>?_) (λH=>?_)⟩
 .refine (xU s 35 w).mono ?_;rintro r I ⟨rfl,rfl⟩;refine⟨_,rfl,bh (λe=>?_) (λe=>?_)⟩
  .have S:(35:UInt8)∈bl s:=by rw[<-BQ];exact eZ e
   have A:(bl s).any (λj=>j.toNat==35)=true:=List.any_eq_true.2 ⟨35,S,rfl⟩;rw[q]at A ⊢;unfold ft;simp only[];rw[ag H,ag A];exact⟨rfl,Fr.refl _ _⟩
  .have S:¬(35:UInt8)∈bl s:=by rw[<-BQ];have:=kq e;omega
   have A:¬(bl s).any (λj=>j.toNat==35)=true:=λh=>by obtain⟨j,y,aa⟩:=List.any_eq_true.1 h;have:j=35:=UInt8.toNat_inj.1 (by simpa using aa);exact S (this▸y)
   rw[q]at A ⊢;unfold ft;simp only[];rw[ag H,ab A];refine bh (λe=>?_) (λe=>?_)
   .have:=eZ e;rw[ag (by simp;omega)];exact⟨rfl,Fr.refl _ _⟩
   .have:=kq e;rw[ab (by simp;omega)];exact⟨rfl,Fr.refl _ _⟩
 .have V:¬nR c=true:=by simpa using H
  refine⟨by omega,c,L,bh (λG=>?_) (λG=>?_)⟩
  .have ac:c.toNat≠35:=λh=>by rw[h]at G;simp at G
   refine(IS s 10 w Q).mono ?_;rintro r I ⟨rfl,k⟩;have h:ft (bl s)=if !((bl s).all (cw 10))||(c.toNat==48&&ao (1<(bl s).length))then(0,2)else if 13<(bl s).length then(0,4)else(4,0):=by
    rw[q];conv=>lhs;unfold ft
    simp only[];rw[ab V,ag ac]
   rw[h];have hlen:(bl s).length=s.size:=c9 s;refine⟨_,rfl,bh (λe=>?_) (λe=>?_)⟩
   .rw [e,Bool.true_or,ag rfl];exact⟨rfl,k⟩
   .have h':(!((bl s).all (cw 10)))=false:=e;rw[h',Bool.false_or];have tail:¬((c.toNat==48&&ao (1<(bl s).length))=true)->xL.S1 s I λr D=>r=ae (.tuple #[.int .i64 (if(c.toNat==48&&ao (1<(bl s).length))=true then((0:Int),(2:Int))else if 13<(bl s).length then(0,4)else(4,0)).1,.int .i64 (if(c.toNat==48&&ao (1<(bl s).length))=true then((0:Int),(2:Int))else if 13<(bl s).length then(0,4)else(4,0)).2])/\ah w D:=λhz=>by
     rw[ab hz];refine bh (λe=>?_) (λe=>?_)
     .have:=eZ e;rw[ag (by omega)];exact⟨rfl,k⟩
     .have:=kq e;rw[ab (by omega)];exact⟨rfl,k⟩
    refine⟨by omega,c,L,bh (λO=>bh (λM=>?_) (λM=>tail ?_)) (λO=>tail ?_)⟩
    .have Y:(c.toNat==48)=true:=by have:(c.toNat:Int)=48:=(by simpa using O);simp;omega
     have:=eZ M;rw[Y,aM (show 1<(bl s).length by omega)];exact⟨rfl,k⟩
    .have:=kq M;simp;omega
    .have:¬(c.toNat:Int)=48:=by simpa using O
     simp;omega
  .have Z:¬c.toNat≠35:=by
    have:(c.toNat:Int)=35:=by simpa using G
    omega
   rw[q]at Q ⊢;have h:ft (c::l)=r4 l:=by
    conv=>lhs;unfold ft
    simp only[];rw[ab V,ab Z]
   rw[h];refine bh (λN=>?_) (λN=>?_)
   .have:=eZ N
    match l,B with
    |[],_=>exact⟨rfl,Fr.refl _ _⟩
    |[b],_=>exact⟨rfl,Fr.refl _ _⟩
    |b::d::r,B=>simp at B;omega
   .have:=kq N;obtain⟨b,d,r,rfl⟩:∃b d r,l=b::d::r:=by
     match l,B with
     |[],e=>simp at e;omega
     |[b],e=>simp at e;omega
     |b::d::r,_=>exact⟨b,d,r,rfl⟩
    unfold r4;simp only[];have E:s[1]? =some b:=by rw[u5 q];rfl
    have T:bl (s.extract 2 s.size)=d::r:=by rw[F2,dM (by rw[c9];omega),q];rfl
    have ai:s.size=r.length+3:=by rw[B];rfl
    have fin:∀(base C:Nat),C<=100->xL.S4 s (base:Int) (C:Int) w λW D=>W=ae (.tuple #[.int .i64 (if(d::r).all (cw base)then(if C<(d::r).length then((0:Int),(4:Int))else(3,0))else(0,2)).1,.int .i64 (if(d::r).all (cw base)then(if C<(d::r).length then((0:Int),(4:Int))else(3,0))else(0,2)).2])/\ah w D:=λbase C ad=>by
     refine⟨by omega,by omega,(IS (s.extract 2 s.size) base w ?_).mono ?_⟩
     .rw [T];exact λj y=>Q j (by simp at y ⊢;rcases y with e|e<;>simp[e])
     .rintro W I ⟨rfl,k⟩;rw[T];refine⟨_,rfl,bh (λe=>?_) (λe=>?_)⟩
      .have:(d::r).all (cw base)=false:=by cases P:(d::r).all (cw base)with
        |false=>rfl
        |true=>rw[P]at e;cases e
       rw[this];exact⟨rfl,k⟩
      .have:(d::r).all (cw base)=true:=by cases P:(d::r).all (cw base)with
        |true=>rfl
        |false=>rw[P]at e;cases e
       rw[this,ag rfl];rw[bm _ (by omega)];refine bh (λe=>?_) (λe=>?_)
       .have:=eZ e;rw[ag (by simp;omega)];exact⟨rfl,k⟩
       .have:=kq e;rw[ab (by simp;omega)];exact⟨rfl,k⟩
    refine⟨by omega,b,E,bh (λx=>⟨by omega,b,E,bh (λF=>?_) (λF=>⟨by omega,b,E,?_⟩)⟩) (λx=>⟨by omega,b,E,?_⟩)⟩
    .have z:¬b.toNat=98:=λh=>by rw[h]at x;simp at x
     have K:¬b.toNat=120:=λh=>by rw[h]at F;simp at F
     rw[ab z,ab K];exact⟨rfl,Fr.refl _ _⟩
    .have z:¬b.toNat=98:=λh=>by rw[h]at x;simp at x
     have K:b.toNat=120:=by
      have:((b.toNat:Nat):Int)=120:=by simpa using F
      omega
     rw[ab z,ag K];exact aT (by rw[K];rfl) (fin 16 16 (by omega))
    .have z:b.toNat=98:=by
      have:((b.toNat:Nat):Int)=98:=by simpa using x
      omega
     rw[ag z];exact aV (by rw[z];rfl) (fin 2 64 (by omega))
def GQ{P:Program}{f:FuncId}{args:Array aa}{w:J}{A:Ending->Prop}(h:aj P f args w λr d=>A r/\w=d):aj P f args w λr d=>A r/\ah w d:=h.mono λ_ _ ⟨a,e⟩=>⟨a,e▸Fr.refl _ _⟩
def Jo(c:UInt8)(e:cw 16 c=true):Go.Lib.indexByte [48,49,50,51,52,53,54,55,56,57,97,98,99,100,101,102] c=(ep c:Int)/\ep c<16:=by
 have all:∀d:Fin 256,cw 16 (dw d.val)=true->Go.Lib.indexByte [48,49,50,51,52,53,54,55,56,57,97,98,99,100,101,102] (dw d.val)=(ep (dw d.val):Int)/\ep (dw d.val)<16:=by decide+kernel
 have:=all ⟨c.toNat,c.toNat_lt⟩;simp only[UInt8.ofNat_toNat]at this;exact this e
def Uu(x y:Nat)(d:x<16)(e:y<16):W.rB .i64 (aG .i64 ((x:Int) *2^4)) (y:Int)=((16 *x+y:Nat):Int):=by
 have all:∀x y:Fin 16,W.rB .i64 (aG .i64 ((x.val:Int) *2^4)) (y.val:Int)=((16 *x.val+y.val:Nat):Int):=by decide+kernel
 exact all ⟨x,d⟩ ⟨y,e⟩
def Fe(i:Nat)(w:J):IR->aC
 |.ok c u=>λr d=>r=ae (.tuple #[.int .u8 (c.toNat:Int),.int .i64 ((i+u:Nat):Int),.agg #[.int .i64 0,.int .i64 0]])/\ah w d
 |.bad a e=>λr d=>(∃h j,r=ae (.tuple #[.int .u8 h,.int .i64 j,.agg #[.int .i64 e,.int .i64 ((i+a:Nat):Int)]]))/\ah w d
def IT(s:ByteArray)(i:Nat)(c:UInt8)(l:List UInt8)(hl:(bl s).drop i=c::l)(aF:s.size<=1000000)(w:J):aj U KE #[.string s,.int .i64 (i:Int)] w (Fe i w (dH (c::l))):=by
 have N:s.size=i+l.length+1:=by have:=congrArg List.length hl;rw[e8,c9]at this;simp at this;omega
 have get:∀k,s[i+k]? =(c::l)[k]?:=λk=>by rw[u5 (l:=bl s) rfl,<-hl,List.getElem?_drop]
 have g0:s[i]? =some c:=get 0;have aa:s[a1 (i:Int)]? =some c:=by rw[bZ];exact g0
 have e1:aG .i64 ((i:Int)+1)=((i+1:Nat):Int):=bw i (by omega);have e2:aG .i64 ((i:Int)+2)=((i+2:Nat):Int):=by rw[bm _ (by omega)];omega
 have e4:aG .i64 ((i:Int)+4)=((i+4:Nat):Int):=by rw[bm _ (by omega)];omega
 refine nO.au _ _ w _ ((O.start (M:=F0) (w:=w) [] (by simp)).ay λD w1 H1=>H1.ay λL w2 H2=>H2.ay λF w3 K=>?_);have K:O F0 w w3 [.g D,.g L,.g F] []:=K;refine⟨by omega,c,aa,bY (λao=>?_) (λao=>?_)⟩
 .have aB:c.toNat≠92:=by omega
  have e:dH (c::l)=if c.toNat<32\/126<c.toNat then .bad 0 2 else .ok c 1:=by
   conv=>lhs;unfold dH
   simp only[ag aB]
  rw[e];have bad:c.toNat<32\/126<c.toNat->loc [D,L,F] w3 λH=>nO.aX (i:Int) D 0 0 F 2 (i:Int) H (Fe i w (if c.toNat<32\/126<c.toNat then .bad 0 2 else .ok c 1)):=λad=>by rw[ag ad];exact K.af λP z=>z.af λG C=>⟨⟨_,_,rfl⟩,C.fr⟩
  refine⟨by omega,c,aa,aS (λam=>bad (by omega)) (λam=>⟨by omega,c,aa,aS (λal=>bad (by omega)) (λal=>⟨by omega,c,aa,K.af λP z=>?_⟩)⟩)⟩;rw[ab (by omega),e1];exact⟨rfl,z.fr⟩
 .have I:¬c.toNat≠92:=by omega
  rw[e1];cases l with
  |nil=>
   have e:dH [c]=.bad 1 3:=by(conv=>lhs;unfold dH);simp only[ab I]
   rw[e];refine aT (by simp at N;simp[N]) (K.af λP z=>?_);rw[show s.size=i+1 by simpa using N];exact⟨⟨_,_,rfl⟩,z.fr⟩
  |cons h l2=>
   refine aV (by simp at N;simp;omega) ⟨by omega,h,get 1,K.af λP z=>?_⟩;have two:∀(x:Int),nO.bA (i:Int) D 0 0 x P λr q=>r=ae (.tuple #[.int .u8 x,.int .i64 ((i+2:Nat):Int),.agg #[.int .i64 0,.int .i64 0]])/\ah w q:=λx=>z.af λG C=>by rw[e2];exact⟨rfl,C.fr⟩
   refine bY (λak=>?_) (λak=>?_)
   .have aA:h.toNat≠120:=by omega
    have e:dH (c::h::l2)=if h.toNat=34\/h.toNat=92 then .ok h 2 else .bad 0 2:=by
     conv=>lhs;unfold dH
     simp only[ab I,ag aA]
    rw[e];refine bY (λan=>bY (λap=>z.af λG C=>?_) (λap=>?_)) (λan=>?_)
    .rw [ab (by omega)];exact⟨⟨_,_,rfl⟩,C.fr⟩
    .rw [ag (.inr (by omega))];exact two _
    .rw [ag (.inl (by omega))];exact two _
   .have W:¬h.toNat≠120:=by omega
    have V:¬(h.toNat=34\/h.toNat=92):=by omega
    rw[e2];have Z:∀(k:Nat) (Y:Nat) (G:J) (R:aC),k<i+4->i+2<=k->O F0 w G [.g D,.g L,.g F] []->Y<16->
      (s.size=k->∀q,ah w q->R (ae (.tuple #[.int .u8 0,.i (i:Int),.agg #[.i 3,.i ((s.size:Nat):Int)]])) q)->
      (∀x,s[k]? =some x->cw 16 x=false->∀q,ah w q->R (ae (.tuple #[.int .u8 0,.i (i:Int),.agg #[.i 2,.i (i:Int)]])) q)->
      (∀x y,s[k]? =some x->cw 16 x=true->O F0 w y [.g D,.g L,.g F] []->nO.hC s (i:Int) D 0 0 L 3 ((s.size:Nat):Int) F 2 (i:Int) ((16 *Y+ep x:Nat):Int) ((k+1:Nat):Int) y R)->k<=s.size->
      nO.hC s (i:Int) D 0 0 L 3 ((s.size:Nat):Int) F 2 (i:Int) ((Y:Nat):Int) ((k:Nat):Int) G R:=by
     intro k Y G R hk aD C hb h1 h2 h3 aE;refine nO.mB _ _ _ _ _ _ _ _ _ _ _ _ _ _ _ ?_;rw[e4];refine aT (aM (by omega)) (ax (λB=>C.af λy E=>h1 (by omega) y E.fr) (λB=>?_));have aq:k<s.size:=by omega
     have d:s[k]? =some s[k]:=getElem?_pos s k aq;generalize s[k]=x at d;refine⟨by omega,x,by rw[bZ];exact d,C.av (A:=λr _=>r=ae (.bool (cw 16 x))) (GQ (B4 x 16 G)) ?_⟩;rintro _ y rfl E;refine⟨_,rfl,ey (λj=>E.af λH S=>h2 x d j H S.fr) (λj=>⟨by omega,x,by rw[bZ];exact d,E.av (A:=λr _=>r=ae (.int .i64 (Go.Lib.indexByte [48,49,50,51,52,53,54,55,56,57,97,98,99,100,101,102] x))) (GQ (xU _ x y)) ?_⟩)⟩;rintro _ H rfl S;refine⟨_,rfl,?_⟩;obtain⟨aw,ac⟩:=Jo x j;show nO.hC _ _ _ _ _ _ _ _ _ _ _ _ (aG .i64 ((k:Int)+1)) H R;rw[aw,Uu _ _ hb ac,bw k (by omega)];exact h3 x H d j S
    cases l2 with
    |nil=>
     have e:dH [c,h]=.bad 2 3:=by
      conv=>lhs;unfold dH
      simp only[ab I,ab V,ab W]
     rw[e];have B:s.size=i+2:=by simpa using N
     refine Z (i+2) 0 P _ (by omega) (by omega) z (by omega) (λ_ q f=>?_) (λx d=>?_) (λx y d=>?_) (by omega)
     .rw [B];exact⟨⟨_,_,rfl⟩,f⟩
     .rw [get 2]at d;simp at d
     .rw [get 2]at d;simp at d
    |cons x l3=>
     have B:s.size=i+l3.length+3:=by simp at N;omega
     refine Z (i+2) 0 P _ (by omega) (by omega) z (by omega) (λad=>by omega) (λx' d j q f=>?_) (λx' y d j E=>?_) (by omega)
     .rw [get 2]at d;have:x=x':=by simpa using d
      subst this;have ar:¬cw 16 x=true:=by simp[j]
      have e:dH (c::h::x::l3)=.bad 0 2:=by
       conv=>lhs;unfold dH
       simp only[ab I,ab V,ab W,ab ar]
      rw[e];exact⟨⟨_,_,rfl⟩,f⟩
     .rw [get 2]at d;have:x=x':=by simpa using d
      subst this;have ac:=(Jo x j).2;rw[show 16 *0+ep x=ep x by omega];cases l3 with
      |nil=>
       have e:dH [c,h,x]=.bad 3 3:=by
        conv=>lhs;unfold dH
        simp only[ab I,ab V,ab W,ag j]
       rw[e];have B:s.size=i+3:=by simpa using B
       refine Z (i+3) _ y _ (by omega) (by omega) E ac (λ_ q f=>?_) (λx d=>?_) (λx y d=>?_) (by omega)
       .rw [B];exact⟨⟨_,_,rfl⟩,f⟩
       .rw [get 3]at d;simp at d
       .rw [get 3]at d;simp at d
      |cons Q l4=>
       have B:s.size=i+l4.length+4:=by simp at B;omega
       refine Z (i+3) _ y _ (by omega) (by omega) E ac (λad=>by omega) (λy' T ai q f=>?_) (λy' H T ai S=>?_) (by omega)
       .rw [get 3]at T;have:Q=y':=by simpa using T
        subst this;have az:¬cw 16 Q=true:=by simp[ai]
        have e:dH (c::h::x::Q::l4)=.bad 0 2:=by
         conv=>lhs;unfold dH
         simp only[ab I,ab V,ab W,ag j,ab az]
        rw[e];exact⟨⟨_,_,rfl⟩,f⟩
       .rw [get 3]at T;have:Q=y':=by simpa using T
        subst this;have e:dH (c::h::x::Q::l4)=.ok (dw (16 *ep x+ep Q)) 4:=by
         conv=>lhs;unfold dH
         simp only[ab I,ab V,ab W,ag j,ag ai]
        rw[e];refine nO.mB _ _ _ _ _ _ _ _ _ _ _ _ _ _ _ ?_;rw[e4];refine aV (aP (by omega)) (S.af λw8 H8=>⟨?_,H8.fr⟩);rw[ZO,UInt8.toNat_ofNat']
namespace u1
noncomputable abbrev t0:=aA U Tryz.f68 [(8,ls [0,1,2,3])] [6,10]
noncomputable def a0:=bu t0 [0,1,1,1,2] [(0,.v [.st]),(1,.v [.I]),(6,.l [.I,.I] ik),(7,.v [.s])]
noncomputable abbrev t1:=bt a0
def bJ:=bH t1 a0
def au:=aF t1 KF [.st,.I]
end u1
namespace I'
noncomputable abbrev t0:=aA U Tryz.f39 [] []
def ok:=aF t0 KG [.st]
end I'
namespace jE
noncomputable abbrev t0:=aA U Tryz.f65 [] []
abbrev P0:Ps:=[(0,.v [.r]),(1,.v [.r])]
noncomputable def L0:=bu t0 [0,1] P0
noncomputable abbrev t1:=bt L0
noncomputable def L2:=bu t1 [0,1,1,1,1,2] P0
noncomputable abbrev t2:=bt L2
def ny:=bH t2 L2
noncomputable abbrev S1:=ai t2 [1,2] P0
noncomputable abbrev t3:=ak S1
def cU:=bH t3 L0
def ok:=aF t3 nU [.r,.r]
end jE
namespace ma
noncomputable abbrev t0:=aA U Tryz.f67 [(16,ls [0,1,2,3]),(24,ls [0,1,2,3,4,5,6]),(26,ls [0,1,2,3,4]),(6,ls [0,1,2,3,4])] []
noncomputable abbrev S1:=ai t0 [5] [(3,.v [.r]),(4,.v [.r]),(5,.v [.r])]
noncomputable abbrev t1:=ak S1
abbrev P0:Ps:=[(1,.v [.r]),(2,.v [.r]),(3,.v [.r]),(4,.v [.r]),(5,.v [.r])]
noncomputable def L2:=bu t1 [0,3,7,1,1,1,4] P0
noncomputable abbrev t2:=bt L2
noncomputable abbrev S3:=ai t2 [1,4,7,1,1,1,4] P0
noncomputable abbrev t3:=ak S3
noncomputable abbrev S5:=ai t3 [5,1,7,1,1,1,4] [(3,.v [.r]),(4,.v [.r]),(5,.v [.r]),(10,.v [.I])]
noncomputable abbrev t4:=ak S5
noncomputable abbrev S4:=ai t4 [1,1,7,1,1,1,4] P0
noncomputable abbrev t5:=ak S4
def ny:=bH t5 L2
noncomputable abbrev S0:=ai t5 [1,1,4] [(1,.v [.r]),(2,.v [.r]),(3,.v [.r]),(4,.v [.r]),(5,.v [.r]),(6,.v [.Y])]
noncomputable abbrev t6:=ak S0
def ok:=aF t6 vf [.r,.r,.r]
end ma
namespace I9
noncomputable abbrev t0:=aA U Tryz.f38 [] []
def ok:=aF t0 KC [.f]
end I9
namespace xK
noncomputable def C0:Code:=(Tryz.f64.body).getD .skip
noncomputable def C1:=C0.fs
noncomputable def C2:=C1.fs
abbrev Q0(R:aC):jT:=(bodyPost U Tryz.f64 R)
abbrev Q1(R:aC):jT:=(Exit.inBlock 0 (Q0 R))
def L0(e:Nat)(d:Addr)(w:J)(R:aC):Prop:=LP U (cx 25) C2 (Q1 R) [(0,.func (.yield e) #[] #[]),(1,.pointer (some d))] w
def oA(E:Env)(w:J)(R:aC):Prop:=W.wR (Env.get? E 0) λe=>W.bN (Env.get? E 1) λd=>L0 e d w R
def rh:Fj U 25 oA C2 Q1:=by intro x w z e;obtain⟨A,k,h⟩:=W.FK e;obtain⟨y,q,j⟩:=W.bT h;intro a d;exact j a (d.cons k (d.cons q d.nil))
noncomputable def C3:=C2.fs
noncomputable def C4:=C3.sn
noncomputable def C5:=C4.sn
noncomputable def C6:=C5.fs
noncomputable def C7:=C5.sn
def cU(q:Nat)(h:Addr)(w:J)(R:aC)(G:∃j:Fv,w.cell? h=some (j.v)/\
 cB (gI U j.n) (aj U j.n (j.bs++#[]++j.cs) w λH x=>∃A:Int,∃B:ByteArray,∃C:Int,∃D:Int,∃F:Int,H=ae (.tuple #[.agg #[.i A,.string B,.i C],.agg #[.i D,.i F]])/\
 cS x (.cells #[.i 0,.s0,.i 0] cX) λk=>
 cS k (.cells #[.i 0,.i 0] ik) λO=>
 zg O (nb x) (.i A) (.string B) (.i C) λP=>aJ P (nb k) (.i D) λQ=>
 aJ Q ((nb k).add 1) (.i F) λz=>
 IX z (nb x) λI K L=>Vd z (nb k) λM N=>nl U q #[.agg #[.i I,.string K,.i L],.agg #[.i M,.i N]] z λ(t13:Bool) e=>bq (!t13) (R (ae (.tuple #[])) e) (∃t17:Int,e.cell? ((nb k).add 0)=some (.i t17)/\
 bq (t17 !=0) (R (ae (.tuple #[])) e) (∃t22:Int,e.cell? ((nb x).add 0)=some (.i t22)/\
 bq (t22==6) (R (ae (.tuple #[])) e) (L0 q h e R))))):L0 q h w R:=
 LP.step (n:=(cx 25)) (c:=C2) (E:=[(0,.func (.yield q) #[] #[]),(1,.pointer (some h))]) (w:=w) (bk C2 1 (by kernel_rfl) (sr C3 (show(λ(E:Env) (w:J)=>ez U C3 (λE w=>ez U C4 (λE w=>hG (Env.val E (.tmp 24)) (kg U Tryz.f64 E w (λv=>R (ae v) w)) (oA E w R)) E w) E w) [(0,.func (.yield q) #[] #[]),(1,.pointer (some h))] w from mp G) λ_ _ d=>(sr C4 d λ_ _ d=>(cn C5 d (λd=>(rt C6 λa y=>vH y d)) (λd=>(sk C7 λa y=>rh R _ _ d a y))))))
def ok(e:Nat)(d:Addr)(w:J)(R:aC)(h:L0 e d w R):aj U ql #[.func (.yield e) #[] #[],.pointer (some d)] w R:=
 ug (R:=R) (fn:=Tryz.f64) (c:=C0) (args:=[.func (.yield e) #[] #[],.pointer (some d)]) (by kernel_rfl) (by kernel_rfl) (by kernel_rfl) (bk C0 0 (by kernel_rfl) (lp C1 (by kernel_rfl) (rh R _ _ (show(λ(E:Env) (w:J)=>oA E w R) (jA 0 [.func (.yield e) #[] #[],.pointer (some d)]) w from mp h))))
end xK
namespace Ca
noncomputable def C0:Code:=(Tryz.f15.body).getD .skip
noncomputable def C1:=C0.sn
noncomputable def C2:=C1.sn
noncomputable def C3:=C2.sn
noncomputable def C4:=C3.fs
noncomputable def C5:=C4.sn
noncomputable def C6:=C5.fs
noncomputable def C7:=W.Code.FO C6
noncomputable def C8:=W.Code.FU C6
noncomputable def C9:=C8.fs
noncomputable def jn:=C9.fs
noncomputable def jo:=jn.sn
noncomputable def kr:=jo.fs
abbrev Q0(l_:Nat)(d:Loop)(R:aC):Exit->Act->J->Prop:=(roundPost U l_ R)
noncomputable def lQ:=C9.sn
abbrev Q1(l_:Nat)(d:Loop)(R:aC):Exit->Act->J->Prop:=(Exit.then (gn U ⟨28,[],some l_⟩ lQ (Exit.inBlock 1 (Q0 l_ d R))) (Exit.inBlock 1 (Q0 l_ d R)))
noncomputable def np:=kr.fs
noncomputable def oy:=kr.sn
abbrev S4(l_:Nat)(j:eg->Option Code->Obj)(t2 t3 t4 d:Addr)(w:J)(R:aC):Prop:=
 rS w λe=>∃t20:Int,e.cell? (d.add 1)=some (.i t20)/\
 ∃t22:Int,e.cell? (d.add 0)=some (.i t22)/\
 aJ e t2 (.slice none 0 0) λh=>
 h.cell? (d.add 0)=some (.i t22)/\h.cell? (d.add 1)=some (.i t20)/\aJ h t3 (.i t20) λk=>
 k.cell? (d.add 0)=some (.i t22)/\aJ k t4 (.i t22) λq=>
 gN q l_ (j .busy none) (j .done (some .ret)) λx=>R (ae (.bool false)) x
def wy(l_:Nat)(e:eg->Option Code->Obj)(E:Env)(w:J)(R:aC):Prop:=W.bN (Env.get? E 2) λh=>W.bN (Env.get? E 3) λj=>W.bN (Env.get? E 4) λk=>W.bN (Env.get? E 7) λd=>S4 l_ e h j k d w R
def z2(l_:Nat)(e:Loop)(R:aC)(E:Env)(w:J)(q:wy l_ (lo e) E w R):WP U ⟨28,[],some l_⟩ kr (Q1 l_ e R) E w:=by obtain⟨I,D,z⟩:=W.bT q;obtain⟨K,F,A⟩:=W.bT z;obtain⟨L,G,B⟩:=W.bT A;obtain⟨k,H,C⟩:=W.bT B;exact λa d=>WP.at (n:=⟨28,[],some l_⟩) (E:=[(2,.pointer (some I)),(3,.pointer (some K)),(4,.pointer (some L)),(7,.pointer (some k))]) (WP.seq (c:=kr) (x:=np) (y:=oy) (by kernel_rfl)<|WP.draw (c:=np) [0,1,2,3,4,5,6] (λE w=>gN w l_ ((lo e) .busy none) ((lo e) .done (some .ret)) λM=>R (ae (.bool false)) M) (by kernel_rfl) (mp C) λ_ _ a h j=>(WP.ret (c:=oy) (Q:=(Q1 l_ e R)) (by kernel_rfl) λa h=>(show roundPost U l_ R .ret a _ from N9 (a:=a) (j).1 (j).2)) a h) (d.cons D (d.cons F (d.cons G (d.cons H d.nil))))
abbrev Q2(l_:Nat)(d:Loop)(R:aC):Exit->Act->J->Prop:=(Exit.inBlock 1 (Q0 l_ d R))
abbrev S5(l_:Nat)(e:eg->Option Code->Obj)(d x:Addr)(w:J)(R:aC):Prop:=
 ∃t23:Sl,w.cell? d=some (t23.v)/\
 IX w x λj k q=>cS w (.cells #[.i j,.string k,.i q] cX) λy=>
 ∃(t26:Sl) (h:J),Sem.run U (Builtin.append_ #[pw,pw] pw #[t23.v,.slice (some (nb w)) 1 1]) y=.ok (t26.v) h/\aJ h d (t26.v) λz=>
 gN z l_ (e .busy none) (e .ready none) λA=>R (ae (.bool true)) A
def tN(l_:Nat)(e:eg->Option Code->Obj)(E:Env)(w:J)(R:aC):Prop:=W.bN (Env.get? E 5) λd=>W.bN (Env.get? E 6) λh=>S5 l_ e d h w R
def z3(l_:Nat)(d:Loop)(R:aC)(E:Env)(w:J)(j:tN l_ (lo d) E w R):WP U ⟨28,[],some l_⟩ lQ (Q2 l_ d R) E w:=by obtain⟨z,x,k⟩:=W.bT j;obtain⟨A,y,q⟩:=W.bT k;exact λa e=>WP.at (n:=⟨28,[],some l_⟩) (E:=[(5,.pointer (some z)),(6,.pointer (some A))]) (WP.kP (c:=lQ) (λE w=>gN w l_ ((lo d) .busy none) ((lo d) .ready none) λB=>R (ae (.bool true)) B) (by kernel_rfl) (mp q) λ_ _ a C h=>N8 (a:=a) (h).1 (h).2) (e.cons x (e.cons y e.nil))
noncomputable def k5:=jn.fs
noncomputable def nq:=jo.sn
abbrev S3(l_:Nat)(e:eg->Option Code->Obj)(t2 t3 t4 h j d:Addr)(w:J)(R:aC):Prop:=
 ∃t17:Int,w.cell? (d.add 0)=some (.i t17)/\
 bq (t17 !=0) (S4 l_ e t2 t3 t4 d w R) (S5 l_ e h j w R)
def tM(l_:Nat)(h:eg->Option Code->Obj)(E:Env)(w:J)(R:aC):Prop:=W.bN (Env.get? E 2) λj=>W.bN (Env.get? E 3) λk=>W.bN (Env.get? E 4) λq=>W.bN (Env.get? E 5) λe=>W.bN (Env.get? E 6) λx=>W.bN (Env.get? E 7) λd=>S3 l_ h j k q e x d w R
def z1(l_:Nat)(e:Loop)(R:aC)(E:Env)(w:J)(q:tM l_ (lo e) E w R):WP U ⟨28,[],some l_⟩ jn (Q1 l_ e R) E w:=by obtain⟨O,G,z⟩:=W.bT q;obtain⟨P,H,A⟩:=W.bT z;obtain⟨Q,I,B⟩:=W.bT A;obtain⟨N,K,C⟩:=W.bT B;obtain⟨S,L,D⟩:=W.bT C;obtain⟨k,M,F⟩:=W.bT D;exact λa d=>WP.at (n:=⟨28,[],some l_⟩) (E:=[(2,.pointer (some O)),(3,.pointer (some P)),(4,.pointer (some Q)),(5,.pointer (some N)),(6,.pointer (some S)),(7,.pointer (some k))]) (WP.seq (c:=jn) (x:=k5) (y:=jo) (by kernel_rfl)<|WP.kP (c:=k5) (λE w=>hG (Env.val E (.tmp 18)) (wy l_ (lo e) E w R) (tN l_ (lo e) E w R)) (by kernel_rfl) (mp F) λ_ _ a j h=>(WP.hG (c:=jo) (x:=kr) (y:=nq) (o:=.tmp 18) (by kernel_rfl) (λh=>(z2 l_ e R _ _ h)) (λh=>(WP.skip (c:=nq) (by kernel_rfl) λa j=>(z3 l_ e R _ _ h) a j)) h) a j) (d.cons G (d.cons H (d.cons I (d.cons K (d.cons L (d.cons M d.nil))))))
noncomputable def lR:=C7.sn
abbrev Q3(l_:Nat)(d:Loop)(R:aC):Exit->Act->J->Prop:=(tR U 28 l_ d C8 (roundPost U l_ R))
abbrev S2(l_:Nat)(d:eg->Option Code->Obj)(t2 t3 t4 e k:Addr)(h j:Int)(w:J)(R:aC):Prop:=
 cS w (.cells #[.i 0,.i 0] ik) λq=>
 aJ q (nb w) (.i h) λx=>
 aJ x ((nb w).add 1) (.i j) λy=>
 gN y l_ (d .ready none) (d .busy none) λz=>S3 l_ d t2 t3 t4 e k (nb w) z R
def tL(l_:Nat)(e:eg->Option Code->Obj)(E:Env)(w:J)(R:aC):Prop:=W.bN (Env.get? E 2) λA=>W.bN (Env.get? E 3) λB=>W.bN (Env.get? E 4) λC=>W.bN (Env.get? E 5) λd=>W.bN (Env.get? E 6) λD=>W.asAgg (Env.get? E 15) λk=>W.iB k λy q=>W.asInt .i64 (some y) λh=>W.iB q λz x=>W.asInt .i64 (some z) λj=>W.kz x<|S2 l_ e A B C d D h j w R
def z0(l_:Nat)(e:Loop)(R:aC)(E:Env)(w:J)(j:tL l_ (lo e) E w R):WP U ⟨28,[],some l_⟩ lR (Q3 l_ e R) E w:=by obtain⟨Y,M,q⟩:=W.bT j;obtain⟨Z,N,B⟩:=W.bT q;obtain⟨t4,O,C⟩:=W.bT B;obtain⟨S,P,D⟩:=W.bT C;obtain⟨t6,Q,F⟩:=W.bT D;obtain⟨aa,L,G⟩:=W.wQ F;obtain⟨ad,ab,rfl,H⟩:=W.jX G;obtain⟨T,ex,I⟩:=W.lZ H;obtain rfl:=eh ex;obtain⟨ae,ac,rfl,K⟩:=W.jX I;obtain⟨V,ex,z⟩:=W.lZ K;obtain rfl:=eh ex;obtain⟨rfl,A⟩:=W.oE z;exact λa d=>WP.at (n:=⟨28,[],some l_⟩) (E:=[(2,.pointer (some Y)),(3,.pointer (some Z)),(4,.pointer (some t4)),(5,.pointer (some S)),(6,.pointer (some t6)),(15,.agg #[.i T,.i V])]) (WP.kP (c:=lR) (λE w=>w.heap[l_]? =some (lo e .ready none)/\((λw=>tM l_ (lo e) E w R) (w.putObj l_ (lo e .busy none)))) (by kernel_rfl) (mp A) λ_ _ a k h=>⟨(h).1,(WP.block (c:=C8) (x:=C9) (id:=1) (by kernel_rfl) (WP.seq (c:=C9) (x:=jn) (y:=lQ) (by kernel_rfl) (z1 l_ e R _ _ (h).2))) a k⟩) (d.cons M (d.cons N (d.cons O (d.cons P (d.cons Q (d.cons L d.nil))))))
noncomputable def nr:=C7.fs
abbrev S1(l_:Nat)(e:eg->Option Code->Obj)(t2 t3 t4 d:Addr)(h:Int)(j:ByteArray)(k q x:Int)(w:J)(R:aC):Prop:=
 cS w (.cells #[.i 0,.s0,.i 0] cX) λy=>
 zg y (nb w) (.i h) (.string j) (.i k) λz=>S2 l_ e t2 t3 t4 d (nb w) q x z R
def zY(l_:Nat)(e:eg->Option Code->Obj)(E:Env)(w:J)(R:aC):Prop:=W.bN (Env.get? E 2) λM=>W.bN (Env.get? E 3) λN=>W.bN (Env.get? E 4) λO=>W.bN (Env.get? E 5) λd=>W.asAgg (Env.get? E 14) λq=>W.iB q λA x=>W.asInt .i64 (some A) λh=>W.iB x λB y=>W.oF (some B) λj=>W.iB y λC z=>W.asInt .i64 (some C) λk=>W.kz z<|W.asAgg (Env.get? E 15) λG=>W.iB G λK H=>W.asInt .i64 (some K) λD=>W.iB H λL I=>W.asInt .i64 (some L) λF=>W.kz I<|S1 l_ e M N O d h j k D F w R
def zZ(l_:Nat)(e:Loop)(R:aC)(E:Env)(w:J)(h:zY l_ (lo e) E w R):WP U ⟨28,[],some l_⟩ C7 (Q3 l_ e R) E w:=by obtain⟨t2,Y,q⟩:=W.bT h;obtain⟨t3,Z,K⟩:=W.bT q;obtain⟨t4,aa,L⟩:=W.bT K;obtain⟨l5,ab,M⟩:=W.bT L;obtain⟨ah,T,N⟩:=W.wQ M;obtain⟨al,ai,rfl,O⟩:=W.jX N;obtain⟨ac,ex,P⟩:=W.lZ O;obtain rfl:=eh ex;obtain⟨am,aj,rfl,Q⟩:=W.jX P;obtain⟨ad,ex,S⟩:=W.rA Q;obtain rfl:=eh ex;obtain⟨an,ak,rfl,z⟩:=W.jX S;obtain⟨ae,ex,A⟩:=W.lZ z;obtain rfl:=eh ex;obtain⟨rfl,B⟩:=W.oE A;obtain⟨ao,V,C⟩:=W.wQ B;obtain⟨ar,ap,rfl,D⟩:=W.jX C;obtain⟨af,ex,F⟩:=W.lZ D;obtain rfl:=eh ex;obtain⟨au,aq,rfl,G⟩:=W.jX F;obtain⟨ag,ex,H⟩:=W.lZ G;obtain rfl:=eh ex;obtain⟨rfl,I⟩:=W.oE H;exact λa d=>WP.at (n:=⟨28,[],some l_⟩) (E:=[(2,.pointer (some t2)),(3,.pointer (some t3)),(4,.pointer (some t4)),(5,.pointer (some l5)),(14,.agg #[.i ac,.string ad,.i ae]),(15,.agg #[.i af,.i ag])]) (WP.seq (c:=C7) (x:=nr) (y:=lR) (by kernel_rfl)<|WP.kP (c:=nr) (λE w=>tL l_ (lo e) E w R) (by kernel_rfl) (mp I) λ_ _ a j k=>(z0 l_ e R _ _ k) a j) (d.cons Y (d.cons Z (d.cons aa (d.cons ab (d.cons T (d.cons V d.nil))))))
abbrev pA(l_:Nat)(e:eg->Option Code->Obj)(t2 t3 t4 d y:Addr)(h:Int)(j:ByteArray)(k q x:Int)(w:J)(R:aC):Prop:=
 S1 l_ e t2 t3 t4 d h j k q x w R
def Al(l_:Nat)(d:Loop)(t2 t3 t4 e h:Addr)(j:Int)(k:ByteArray)(q x y:Int)(w:J)(R:aC)(z:pA l_ (lo d) t2 t3 t4 e h j k q x y w R):WP U ⟨28,[],some l_⟩ C7 (tR U 28 l_ d C8 (roundPost U l_ R)) (n5 [(2,.pointer (some t2)),(3,.pointer (some t3)),(4,.pointer (some t4)),(5,.pointer (some e)),(13,.func (.func ql) #[] #[.pointer (some h)])] [14,15] [.agg #[.i j,.string k,.i q],.agg #[.i x,.i y]]) w:=
 (zZ l_ d R _ _ (mp z))
noncomputable def jq:=C3.sn
abbrev Q4(R:aC):jT:=(bodyPostM Fence.wide 0 U Tryz.f15 R)
noncomputable def lS:=jq.fs
noncomputable def pB:=jq.sn
abbrev S6(k:Nat)(t2 t3 t4 q:Addr)(w:J)(R:aC):Prop:=
 ∃t27:Sl,w.cell? q=some (t27.v)/\
 aJ w t2 (t27.v) λx=>
 aJ x t3 (.i 0) λy=>
 aJ y t4 (.i 0) λz=>
 gN z k (.deferred (some [])) (.deferred none) λd=>∃e:Sl,d.cell? t2=some (e.v)/\
 ∃h:Int,d.cell? t3=some (.i h)/\
 ∃j:Int,d.cell? t4=some (.i j)/\
 R (ae (.tuple #[e.v,.i h,.i j])) d
def wz(d:Nat)(E:Env)(w:J)(R:aC):Prop:=W.bN (Env.get? E 2) λh=>W.bN (Env.get? E 3) λj=>W.bN (Env.get? E 4) λk=>W.bN (Env.get? E 5) λe=>S6 d h j k e w R
def z5(e:Nat)(R:aC)(E:Env)(w:J)(j:wz e E w R):WP U (marked 28 e) jq (Q4 R) E w:=by obtain⟨I,C,q⟩:=W.bT j;obtain⟨K,D,z⟩:=W.bT q;obtain⟨L,F,A⟩:=W.bT z;obtain⟨H,G,B⟩:=W.bT A;exact λa d=>WP.at (n:=(marked 28 e)) (E:=[(2,.pointer (some I)),(3,.pointer (some K)),(4,.pointer (some L)),(5,.pointer (some H))]) (WP.seq (c:=jq) (x:=lS) (y:=pB) (by kernel_rfl)<|WP.kP (c:=lS) (λE w=>yU U Tryz.f15 E w e R) (by kernel_rfl) (mp B) λ_ _ a h k=>(WP.ret (c:=pB) (by kernel_rfl) λa h=>vI h k) a h) (d.cons C (d.cons D (d.cons F (d.cons G d.nil))))
abbrev S0(t2 t3 t4 y C:Addr)(w:J)(R:aC):Prop:=
 ∀d:eg->Option Code->Obj,(∀(D:Int) (E:ByteArray) (F G H:Int) (k:J) (q:Bool->J->Prop),k.heap[w.heap.size+1]? =some (d .ready none)->pA (w.heap.size+1) d t2 t3 t4 y C D E F G H k (λj K=>∃x:Bool,j=ae (.bool x)/\q x K)->nl U (w.heap.size+1) #[.agg #[.i D,.string E,.i F],.agg #[.i G,.i H]] k q)->
 aj U ql #[.func (.yield (w.heap.size+1)) #[] #[],.pointer (some C)] ((w.alloc (.deferred (some []))).alloc (d .ready none)) λj L=>(∃I,j=ae I)/\pF L (w.heap.size+1) d (λe=>S6 w.heap.size t2 t3 t4 y e R) (λM e=>False) (λe=>gN e w.heap.size (.deferred (some [])) (.deferred none) λh=>∃z:Sl,h.cell? t2=some (z.v)/\
 ∃A:Int,h.cell? t3=some (.i A)/\
 ∃B:Int,h.cell? t4=some (.i B)/\
 R (ae (.tuple #[z.v,.i A,.i B])) h)
abbrev Q5(R:aC):jT:=(Exit.then (gn U (cx 28) jq (bodyPostM Fence.wide 0 U Tryz.f15 R)) (bodyPostM Fence.wide 0 U Tryz.f15 R))
abbrev Q6(R:aC):jT:=(Exit.inBlock 0 (Q5 R))
def rj(E:Env)(w:J)(R:aC):Prop:=W.bN (Env.get? E 2) λx=>W.bN (Env.get? E 3) λy=>W.bN (Env.get? E 4) λz=>W.bN (Env.get? E 5) λd=>W.rz ql (Env.get? E 13) λk h=>W.kz k<|W.iB h λq j=>W.bN (some q) λe=>W.kz j<|S0 x y z d e w R
def zW:Fg U 28 rj C6 Q6:=by
 intro x ak C y;obtain⟨j,af,O⟩:=W.bT y;obtain⟨k,ag,P⟩:=W.bT O;obtain⟨q,ah,Q⟩:=W.bT P;obtain⟨A,ai,S⟩:=W.bT Q;obtain⟨ao,am,ad,T⟩:=W.FI S;obtain⟨rfl,V⟩:=W.oE T;obtain⟨ap,an,rfl,Y⟩:=W.jX V;obtain⟨B,ex,Z⟩:=W.bT Y;obtain rfl:=eh ex;obtain⟨rfl,aa⟩:=W.oE Z;exact λa d=>WP.at (n:=(cx 28)) (E:=[(2,.pointer (some j)),(3,.pointer (some k)),(4,.pointer (some q)),(5,.pointer (some A)),(13,.func (.func ql) #[] #[.pointer (some B)])]) (WP.range (m:=28) (c:=C6) (g:=.tmp 13) (ps:=#[14,15]) (assign:=C7) (body:=C8) (gf:=ql) (lb:=#[.pointer (some B)]) (λe=>S6 C.heap.size j k q A e x) (λal e=>False) (λe=>gN e C.heap.size (.deferred (some [])) (.deferred none) λw=>∃D:Sl,w.cell? j=some (D.v)/\
 ∃F:Int,w.cell? k=some (.i F)/\
 ∃G:Int,w.cell? q=some (.i G)/\
 x (ae (.tuple #[D.v,.i F,.i G])) w) (by kernel_rfl) rfl (by kernel_rfl)
  (λe h a z=>(z5 C.heap.size x _ _ (mp h)) a z)
  (λ_ _ h=>h.elim)
  (λe h a z=>vI z (mp h))
  (λH aj=>aa (lo H) (λI K L M N w_ K_ ac ab=>Qj (args:=[.agg #[.i I,.string K,.i L],.agg #[.i M,.i N]]) aj ac rfl (by kernel_rfl) (λ_ _ y=>y) (Al _ H j k q A B I K L M N w_ _ ab)))) (d.cons af (d.cons ag (d.cons ah (d.cons ai (d.cons ad d.nil)))))
noncomputable def oz:=C1.fs
noncomputable def q8:=oz.sn
noncomputable def q9:=q8.fs
noncomputable def wq:=q9.sn
noncomputable def wt:=q8.sn
def ok(e:ByteArray)(w:J)(R:aC)(B:cS w (.cells #[.slice none 0 0] pw) λh=>
 cS h (.cells #[.i 0] bn) λj=>
 cS j (.cells #[.i 0] gF) λx=>
 bq (ao (((e.size:Nat):Int)>65536)) (aJ x (nb w) (.slice none 0 0) λI=>
 aJ I (nb h) (.i 65536) λK=>
 aJ K (nb j) (.i 4) λk=>
 ∃y:Sl,k.cell? (nb w)=some (y.v)/\
 ∃z:Int,k.cell? (nb h)=some (.i z)/\
 ∃A:Int,k.cell? (nb j)=some (.i A)/\
 R (ae (.tuple #[y.v,.i z,.i A])) k) (cS x (.cells #[.slice none 0 0] pw) λL=>
 AT KG #[.string e] L λt12 M=>AT KC #[t12] M λt13 N=>W.rz ql (some t13) λG D=>W.kz G<|W.iB D λH F=>W.bN (some H) λC=>W.kz F<|S0 (nb w) (nb h) (nb j) (nb x) C N R)):aj U Ky #[.string e] w R:=
 GM (R:=R) (fn:=Tryz.f15) (c:=C0) (args:=[.string e]) (by kernel_rfl) (by kernel_rfl) (by kernel_rfl) (sr C0 (show(λ(E:Env) (w:J)=>ez U C0 (λE w=>ez U oz (λE w=>hG (Env.val E (.tmp 10)) (ez U q9 (λE w=>kg U Tryz.f15 E w (λv=>R (ae v) w)) E w) (ez U C2 (λE w=>ez U C4 (λE w=>rj E w R) E w) E w)) E w) E w) (jA 0 [.string e]) w from mp B) λ_ _ d=>(sq C1 (sr oz d λ_ _ d=>(cn q8 d (λd=>(sr q9 d λ_ _ d=>(rt wq λa q=>N6 q d))) (λd=>(sk wt λa q=>nx q (sr C2 d λ_ _ d=>(sq C3 (sr C4 d λ_ _ d=>(bk C5 0 (by kernel_rfl) (zW R _ _ d)))))))))))
end Ca
def tS(k:Nat)(acc:List UInt8)(w:J):QR->aC
 |.ok t u=>λr d=>r=ae (.tuple #[.string (ba (acc++t)),.int .i64 ((k+u:Nat):Int),.agg #[.int .i64 0,.int .i64 0]])/\ah w d
 |.bad a e=>λr d=>(∃h j,r=ae (.tuple #[.string h,.int .i64 j,.agg #[.int .i64 e,.int .i64 ((k+a:Nat):Int)]]))/\ah w d
def xC{l:List UInt8}{d:UInt8}{u:Nat}(e:dH l=.ok d u):1<=u/\u<=l.length:=by
 unfold dH at e;cases l with
 |nil=>cases e
 |cons c l=>
  simp only[]at e;split at e
  .split at e
   .cases e
   .cases e;simp
  .cases l with
   |nil=>cases e
   |cons h l=>
    simp only[]at e;split at e
    .cases e;simp
    .split at e
     .cases e
     .cases l with
      |nil=>cases e
      |cons j l=>
       simp only[]at e;split at e
       .cases l with
        |nil=>cases e
        |cons k l=>
         simp only[]at e;split at e
         .cases e;simp
         .cases e
       .cases e
def IG{l:List UInt8}{a:Nat}{e:Int}(d:dH l=.bad a e):e=2\/e=3:=by
 unfold dH at d;split at d
 .cases d;simp
 .split at d
  .split at d<;>cases d;simp
  .split at d
   .cases d;simp
   .split at d
    .cases d
    .split at d
     .cases d;simp
     .split at d
      .cases d;simp
      .split at d
       .split at d
        .cases d;simp
        .split at d<;>cases d;simp
       .cases d;simp
def Qz(k:Nat)(acc:List UInt8)(w:J)(d:UInt8)(u:Nat)(q:QR):tS k acc w (q.push d u)=tS (k+u) (acc++[d]) w q:=by cases q<;>simp[tS,QR.push,Nat.add_assoc]
def U'(s:ByteArray)(H:s.size<=1000000)(w0:J)(b:Nat):∀(n k:Nat) (l acc:List UInt8) (xs:List aa) (text:Sl) (w:J),l.length<n->(bl s).drop k=l->k+l.length=s.size->acc.length<=k->xs=acc.map i4->
  O F0 w0 w [.g b,.row g7 1 text xs] []->u1.a0 s (k:Int) b 0 0 text w (tS k acc w0 (qu l)):=by
 intro n;induction n with
 |zero=>intro k l acc xs text w G;omega
 |succ n W=>
  intro k l acc xs text w G q e ha K d;cases l with
  |nil=>
   refine u1.bJ _ _ _ _ _ _ _ _ (aV (aP (by simp at e;omega)) (d.af λD x=>⟨⟨bj #[],0,?_⟩,x.fr⟩));simp at e;simp[e]
  |cons c l=>
   have ab:k<s.size:=by simp at e;omega
   have S:s[k]? =some c:=by have:=u5 (s:=s) (l:=bl s) rfl k;rw[this,<-List.head?_drop,q];rfl
   have I:aK w g7 1 text (acc.map i4):=K▸d.get 1;have tn:text.n=acc.length:=by have:=aK.len I;simp at this;omega
   refine u1.bJ _ _ _ _ _ _ _ _ (aT (aM (by omega)) ⟨by omega,c,by rw[bZ];exact S,ax (λT=>?_) (λT=>?_)⟩)
   .have Q:c.toNat=34:=by omega
    have C:qu (c::l)=.ok [] 1:=by unfold qu;rw[ag Q]
    rw[C];refine⟨_,rE (aK.yP I),d.af λD x=>⟨?_,x.fr⟩⟩;rw[bw k (by omega),cP]
   .have Y:c.toNat≠34:=by omega
    rw[vz c l Y];cases j:dH (c::l)with
    |bad a C=>
     refine d.av (A:=λr _=>∃L M,r=ae (.tuple #[.int .u8 L,.int .i64 M,.agg #[.int .i64 C,.int .i64 ((k+a:Nat):Int)]])) ((IT s k c l q H w).mono λr D h=>by rw[j]at h;exact h) ?_;rintro _ Z ⟨L,M,rfl⟩ y;have he:=IG j;exact⟨_,_,_,_,rfl,y.ay λP w2 z=>bY (λ_=>z.af λw3 B=>⟨⟨_,_,rfl⟩,B.fr⟩) (λF=>by omega)⟩
    |ok E u=>
     refine d.av (A:=λr _=>r=ae (.tuple #[.int .u8 (E.toNat:Int),.int .i64 ((k+u:Nat):Int),.agg #[.int .i64 0,.int .i64 0]])) ((IT s k c l q H w).mono λr D h=>by rw[j]at h;exact h) ?_;rintro _ Z rfl y;obtain⟨ac,V⟩:=xC j;refine⟨_,_,_,_,rfl,y.ay λP w2 z=>bY (λF=>absurd rfl F) (λ_=>z.af λw3 B=>B.iA 1 oL rfl (λt w4 N=>?_) (by omega))⟩;simp only[Qz];exact W (k+u) ((c::l).drop u) (acc++[E]) _ t w4 (by simp at G ⊢;omega) (by rw[<-q,ke]) (by simp at V e ⊢;omega) (by simp;omega) (by simp[K,i4]) (N.take 2)
def U9(s:ByteArray)(i:Nat)(c:UInt8)(l:List UInt8)(d:(bl s).drop i=c::l)(h:s.size<=1000000)(w:J):aj U KF #[.string s,.int .i64 (i:Int)] w (tS (i+1) [] w (qu l)):=by
 have hlen:i+(c::l).length=s.size:=by have:=congrArg List.length d;rw[e8,c9]at this;simp at this ⊢;omega
 refine u1.au _ _ w _ ((O.start (M:=F0) (w:=w) [] (by simp)).ay λb j e=>?_);rw[bw i (by simp at hlen;omega)];refine U' s h w _ (l.length+1) (i+1) l [] [] ⟨none,0,0⟩ j (by omega) ?_ (by simp at hlen ⊢;omega) (by simp) rfl (e.h' _ _);rw[<-ke,d];rfl
def lY{p:UInt8->Prop}(d:∀e:Fin 256,p (dw e.val))(c:UInt8):p c:=by have:=d ⟨c.toNat,c.toNat_lt⟩;simpa only[UInt8.ofNat_toNat]using this
def YE(c:UInt8):ao (0<=Go.Lib.indexByte [9,10,13,32] c)=kT c:=lY (p:=λc=>ao (0<=Go.Lib.indexByte [9,10,13,32] c)=kT c) (by decide+kernel) c
def TX(c:UInt8):ao (Go.Lib.indexByte [9,10,13,32,59,40,41,34] c<0)= !l6 c:=lY (p:=λc=>ao (Go.Lib.indexByte [9,10,13,32,59,40,41,34] c<0)= !l6 c) (by decide+kernel) c
def uR{s:ByteArray}{k:Nat}{c:UInt8}{l:List UInt8}(d:(bl s).drop k=c::l):s[k]? =some c/\(bl s).drop (k+1)=l/\k+l.length+1=s.size:=by
 refine⟨?_,by rw[<-ke,d];rfl,?_⟩
 .rw [u5 (l:=bl s) rfl,<-List.head?_drop,d];rfl
 .have:=congrArg List.length d;rw[e8,c9]at this;simp at this;omega
def Vb(s:ByteArray)(W:s.size<=1000000)(w0:J)(h bs m:Nat)(R:aC)(E:∀K,O (·=h) w0 K [.c h [.int .i64 (m:Int)] bn] [.c bs [.string s] fk]->R (ae (.tuple #[])) K):∀(n k:Nat) (l:List UInt8) (w:J),l.length<n->(bl s).drop k=l->k<=s.size->
  O (·=h) w0 w [.c h [.int .i64 (k:Int)] bn] [.c bs [.string s] fk]->(k+cG false l=m->jE.L0 (ad h) (ad bs) w R)/\(k+cG true l=m->jE.L2 (ad h) (ad bs) w R):=by
 intro n;induction n with
 |zero=>intro k l w H;omega
 |succ n T=>
  intro k l w H G V d;cases l with
  |nil=>
   have F:¬((k:Int)<((s.size:Nat):Int)):=by have:=congrArg List.length G;rw[e8,c9]at this;simp at this;omega
   have zero:k=m->jE.L0 (ad h) (ad bs) w R:=λe=>by subst e;exact jE.cU _ _ _ _ ⟨_,d.cm 0,_,d.f' 0,aV (aP F) (E w d)⟩
   exact⟨zero,λe=>jE.ny _ _ _ _ ⟨_,d.cm 0,_,d.f' 0,aV (aP F) (zero e)⟩⟩
  |cons c l=>
   obtain⟨N,Q,Y⟩:=uR G;have z:s[a1 (k:Int)]? =some c:=by rw[bZ];exact N
   have B:((k:Int)<((s.size:Nat):Int)):=by omega
   have next:∀{x:J},O (·=h) w0 x [.c h [.int .i64 ((k+1:Nat):Int)] bn] [.c bs [.string s] fk]->(k+(1+cG false l)=m->jE.L0 (ad h) (ad bs) x R)/\(k+(1+cG true l)=m->jE.L2 (ad h) (ad bs) x R):=λy=>by
    have:=T (k+1) l _ (by simp at H;omega) Q (by omega) y
    rwa[Nat.add_assoc,Nat.add_assoc]at this
   have D:c.toNat≠10->k+(1+cG true l)=m->jE.L2 (ad h) (ad bs) w R:=λq e=>by refine jE.ny _ _ _ _ ⟨_,d.cm 0,_,d.f' 0,aT (aM B) ⟨_,d.f' 0,_,d.cm 0,by omega,c,z,bY (λ_=>?_) (λj=>absurd (by omega) q)⟩⟩;refine⟨_,d.cm 0,?_⟩;rw[bw k (by omega)];exact d.eC 0 rfl λx y=>(next y).2 e
   have C:k+cG false (c::l)=m->jE.L0 (ad h) (ad bs) w R:=λe=>by
    unfold cG at e;have two:(kT c=true->c.toNat≠59->k+(1+cG false l)=m)->(c.toNat=59->k+(1+cG true l)=m)->(kT c=true\/c.toNat=59)->jE.S1 (ad h) (ad bs) w R:=λL M S=>
     ⟨_,d.f' 0,_,d.cm 0,by omega,c,z,bY (λj=>⟨_,d.cm 0,by
      rw[bw k (by omega)];exact d.eC 0 rfl λx y=>(next y).1 (L (S.resolve_right (by omega)) (by omega))⟩) (λj=>D (by omega) (M (by omega)))⟩
    refine jE.cU _ _ _ _ ⟨_,d.cm 0,_,d.f' 0,aT (aM B) ⟨_,d.f' 0,_,d.cm 0,by omega,c,z,ax (λj=>?_) (λj=>?_)⟩⟩
    .have I:¬kT c=true:=by
      unfold kT;have:c.toNat=59:=by omega
      simp[this]
     rw[ab I,ag (by omega)]at e;exact two (λj=>absurd j I) (λ_=>e) (.inr (by omega))
    .refine ⟨_,d.f' 0,_,d.cm 0,by omega,c,z,(xU _ c w).mono ?_⟩;rintro r x ⟨rfl,rfl⟩;refine⟨_,rfl,?_⟩;show bq (ao (0<=Go.Lib.indexByte [9,10,13,32] c)) _ _;rw[YE];refine bh (λA=>?_) (λA=>?_)
     .rw [ag A]at e;exact two (λ_ _=>e) (λP=>absurd P (by omega)) (.inl A)
     .rw [ab (by simp[A]),ab (by omega),Nat.add_zero]at e;subst e;exact E w d
   refine⟨C,λe=>?_⟩;unfold cG at e;by_cases q:c.toNat=10
   .rw [ag q]at e;refine jE.ny _ _ _ _ ⟨_,d.cm 0,_,d.f' 0,aT (aM B) ⟨_,d.f' 0,_,d.cm 0,by omega,c,z,bY (λj=>absurd (by omega) j) (λ_=>C ?_)⟩⟩;unfold cG;rw[ag (by unfold kT;simp[q])];exact e
   .rw [ab q]at e;exact D q e
def Va{s:ByteArray}(z:s.size<=1000000){w:J}{d bs k:Nat}(hi:w.heap[d]? =some (.cells #[.int .i64 (k:Int)] bn (0,0)))(e:w.heap[bs]? =some (.cells #[.string s] fk (0,0)))(x:k<=s.size):
  aj U nU #[.pointer (some (ad d)),.pointer (some (ad bs))] w λr h=>r=ae (.tuple #[])/\Fr (·=d) w h/\h.heap[d]? =some (.cells [Value.int .i64 ((k+cG false ((bl s).drop k):Nat):Int)].toArray bn (0,0)):=by
 have y:bs≠d:=λq=>by rw[q,hi]at e;cases e
 refine jE.ok _ _ w _ ((Vb s z w d bs _ _ (λh j=>?_) (((bl s).drop k).length+1) k _ w (by omega) rfl x ?_).1 rfl)
 .exact ⟨rfl,j.fr,j.ob 0⟩
 .exact O.og _ _ (by simp[En.ob,hi]) (by simp[En.ob]) (by simp[En.ob,e,y])
def Nm:∀(n:Nat) (l:List UInt8),l.length<n->∀(a:Nat) (e:Int),qu l=.bad a e->e=2\/e=3
 |0,l,d=>by omega
 |n+1,[],_=>by intro a e d;unfold qu at d;cases d;simp
 |n+1,c::l,x=>by
  intro a e d;by_cases k:c.toNat=34
  .unfold qu at d;rw[ag k]at d;cases d
  .rw [vz c l k]at d;cases h:dH (c::l)with
   |bad q w=>rw[h]at d;cases d;exact IG h
   |ok y u=>
    rw[h]at d;simp only at d;cases j:qu ((c::l).drop u)with
    |ok t v=>rw[j]at d;cases d
    |bad q w=>
     rw[j]at d;cases d;have:=(xC h).1;exact Nm n _ (by simp at x ⊢;omega) _ _ j
abbrev zs:aa:=.string (bj #[])
abbrev RL(d e h j k a:Nat):List En:=[.c d [.int .i64 (k:Int)] bn,.c e [.int .i64 0,zs,.int .i64 0] cX,.c h [.int .i64 0,.int .i64 0] ik,.c j [.int .i64 0,zs,.int .i64 (a:Int)] cX]
abbrev RD(bs bk:Nat)(s:ByteArray)(f:aa):List En:=[.c bs [.string s] fk,.c bk [f] ER]
def B5{M:Nat->Prop}{w0 w:J}{D:List En}{h j k q:Nat}{x z A B C E:aa}{kd a:Int}{t:ByteArray}{R:aC}(H:O M w0 w [.c h [x] bn,.c j [z,A,B] cX,.c k [C,E] ik,.c q [.int .i64 kd,.string t,.int .i64 a] cX] D)(F:∀e,Fr M w0 e->e.heap[h]? =some (.cells [x].toArray bn (0,0))->R (ae (.tuple #[.agg #[.int .i64 kd,.string t,.int .i64 a],.agg #[.int .i64 0,.int .i64 0]])) e):ma.S1 (ad j) (ad k) (ad q) w R:=
 ⟨_,_,_,H.ld 3 0,H.ld 3 1,H.ld 3 2,H.jP 1 rfl λI y=>y.iU 2 rfl λG d=>⟨_,_,_,d.ld 1 0,d.ld 1 1,d.ld 1 2,_,_,d.ld 2 0,d.ld 2 1,F G d.fr (d.ob 0)⟩⟩
def wD(e:Nat)(w0:J)(i:Nat):NT->aC
 |.fin=>λr d=>r=ae (.tuple #[.agg #[.int .i64 6,zs,.int .i64 (i:Int)],.agg #[.int .i64 0,.int .i64 0]])/\Fr (·=e) w0 d/\d.heap[e]? =some (.cells [Value.int .i64 (i:Int)].toArray bn (0,0))
 |.tok j t u=>λr d=>r=ae (.tuple #[.agg #[.int .i64 j,.string (ba t),.int .i64 (i:Int)],.agg #[.int .i64 0,.int .i64 0]])/\Fr (·=e) w0 d/\d.heap[e]? =some (.cells [Value.int .i64 ((i+u:Nat):Int)].toArray bn (0,0))
 |.bad a h=>λr d=>(∃k q w,r=ae (.tuple #[.agg #[.int .i64 k,.string q,.int .i64 w],.agg #[.int .i64 h,.int .i64 ((i+a:Nat):Int)]]))/\h≠0/\Fr (·=e) w0 d
def Vc(s:ByteArray)(W:s.size<=1000000)(w0:J)(e bs bk q x y m a:Nat)(f:aa)(R:aC)(C:∀F,O (·=e) w0 F (RL e q x y m a) (RD bs bk s f)->ma.S4 (ad e) (ad bs) (ad q) (ad x) (ad y) F R):
  ∀(n k:Nat) (l:List UInt8) (w:J),l.length<n->(bl s).drop k=l->k<=s.size->k+(l.takeWhile bL).length=m->O (·=e) w0 w (RL e q x y k a) (RD bs bk s f)->ma.L2 (ad e) (ad bs) (ad q) (ad x) (ad y) w R:=by
 intro n;induction n with
 |zero=>intro k l w E;omega
 |succ n Q=>
  intro k l w E D V h d;cases l with
  |nil=>
   have N:¬((k:Int)<((s.size:Nat):Int)):=by have:=congrArg List.length D;rw[e8,c9]at this;simp at this;omega
   simp at h;subst h;exact ma.ny _ _ _ _ _ _ _ ⟨_,d.cm 0,_,d.f' 0,aV (aP N) (C w d)⟩
  |cons c l=>
   obtain⟨K,P,Y⟩:=uR D;have z:s[a1 (k:Int)]? =some c:=by rw[bZ];exact K
   have next:bL c=true->ma.S3 (ad e) (ad bs) (ad q) (ad x) (ad y) w R:=λA=>by refine⟨_,d.cm 0,?_⟩;rw[bw k (by omega)];rw[List.takeWhile_cons,ag A,cT]at h;refine d.eC 0 rfl λB G=>?_;exact Q (k+1) l B (by simp at E;omega) P (by omega) (by omega) G
   refine ma.ny _ _ _ _ _ _ _ ⟨_,d.cm 0,_,d.f' 0,aT (aM (by omega)) ⟨_,d.f' 0,_,d.cm 0,by omega,c,z,(B6 c w).mono ?_⟩⟩;rintro r B ⟨rfl,rfl⟩;refine⟨_,rfl,bh (λj=>next (by simp[bL,j])) (λL=>⟨_,d.f' 0,_,d.cm 0,by omega,c,z,(B4 c 10 w).mono ?_⟩)⟩;rintro r B ⟨rfl,rfl⟩;refine⟨_,rfl,bh (λj=>next (by simp[bL,j])) (λM=>⟨_,d.f' 0,_,d.cm 0,by omega,c,z,ax (λj=>next ?_) (λS=>⟨_,d.f' 0,_,d.cm 0,by omega,c,z,ax (λj=>next ?_) (λT=>?_)⟩)⟩)⟩
   .have:c.toNat=45:=by omega
    simp[bL,this]
   .have:c.toNat=35:=by omega
    simp[bL,this]
   .have A:¬bL c=true:=by
     have H:c.toNat≠45:=by omega
     have I:c.toNat≠35:=by omega
     simp[bL,L,M,H,I]
    rw[List.takeWhile_cons,ab A]at h;simp at h;subst h;exact C w d
def U8{s:ByteArray}(af:s.size<=1000000){w:J}{e bs bk k:Nat}(hi:w.heap[e]? =some (.cells #[.int .i64 (k:Int)] bn (0,0)))(hs:w.heap[bs]? =some (.cells #[.string s] fk (0,0)))(hb:w.heap[bk]? =some (.cells #[.func (.func nU) #[] #[.pointer (some (ad e)),.pointer (some (ad bs))]] ER (0,0)))(hk:k<=s.size):
  aj U vf #[.pointer (some (ad bk)),.pointer (some (ad e)),.pointer (some (ad bs))] w (wD e w (k+cG false ((bl s).drop k)) (gd (((bl s).drop k).drop (cG false ((bl s).drop k))))):=by
 have az:bs≠e:=λC=>by rw[C,hi]at hs;cases hs
 have ay:bk≠e:=λC=>by rw[C,hi]at hb;cases hb
 have H0:O (·=e) w w [.c e [.int .i64 (k:Int)] bn] (RD bs bk s (.func (.func nU) #[] #[.pointer (some (ad e)),.pointer (some (ad bs))])):=
  O.og _ _ (by simp[En.ob,hi]) (by simp[En.ob]) (by simp[En.ob,hs,az,hb,ay])
 refine ma.ok _ _ _ w _ (H0.nw λH s1 H1=>H1.nw λw2 s2 L=>⟨⟨nU,#[],#[.pointer (some (ad e)),.pointer (some (ad bs))]⟩,L.f' 1,Ao (by kernel_rfl) ((Va af (L.ob 0) (show w2.heap[bs]? =_ from L.getD 0) hk).mono ?_)⟩);rintro r I ⟨rfl,f3,c3⟩;refine⟨rfl,?_⟩;have z:=L.w4 0 f3 c3;have al:=m' false ((bl s).drop k);rw[e8,c9]at al;rw[ke];generalize au:k+cG false ((bl s).drop k)=i at z;have av:i<=s.size:=by omega
 clear au f3 c3 al;refine⟨_,z.cm 0,_,z.f' 0,ax (λP=>?_) (λP=>?_)⟩
 .have:(bl s).drop i=[]:=de (by rw[c9];omega);rw[this];exact⟨_,z.cm 0,z.jP 1 rfl λaF T=>T.iU 2 rfl λD q=>⟨_,_,_,q.ld 1 0,q.ld 1 1,q.ld 1 2,_,_,q.ld 2 0,q.ld 2 1,rfl,q.fr,q.ob 0⟩⟩
 .obtain ⟨c,l,G⟩:∃c l,(bl s).drop i=c::l:=by
   cases hd:(bl s).drop i with
   |nil=>have:=congrArg List.length hd;rw[e8,c9]at this;simp at this;omega
   |cons c l=>exact⟨c,l,rfl⟩
  obtain⟨gc,aH,aI⟩:=uR G;have an:s[a1 (i:Int)]? =some c:=by rw[bZ];exact gc
  rw[G];refine⟨_,z.cm 0,z.nw λaF s4 T=>T.jP 3 rfl λD q=>⟨_,q.f' 0,_,q.cm 0,by omega,c,an,?_⟩⟩;have A:O (·=e) w D (RL e w.heap.size H.heap.size I.heap.size i i) (RD bs bk s (.func (.func nU) #[] #[.pointer (some (ad e)),.pointer (some (ad bs))])):=q;clear q T z L H1;have one:∀(kd:Int) (V:J),O (·=e) w V [.c e [.int .i64 (i:Int)] bn,.c w.heap.size [.int .i64 0,zs,.int .i64 0] cX,.c H.heap.size [.int .i64 0,.int .i64 0] ik,.c I.heap.size [.int .i64 kd,zs,.int .i64 (i:Int)] cX] (RD bs bk s (.func (.func nU) #[] #[.pointer (some (ad e)),.pointer (some (ad bs))]))->
    ∃t:Int,V.cell? (ad e)=some (.int .i64 t)/\aJ V (ad e) (.int .i64 (aG .i64 (t+1))) λah=>ma.S1 (ad w.heap.size) (ad H.heap.size) (ad I.heap.size) ah (wD e w i (.tok kd [] 1)):=λkd V K=>by refine⟨_,K.cm 0,?_⟩;rw[bw i (by omega)];exact K.eC 0 rfl λah ae=>B5 ae λV N M=>⟨rfl,N,M⟩
  unfold gd;dsimp only;refine ax (λaq=>?_) (λaq=>ax (λar=>?_) (λar=>ax (λap=>?_) (λap=>?_)))
  .rw [ag (by omega)];exact A.st 3 0 rfl λE x=>one 0 E x
  .rw [ab (by omega),ag (by omega)];exact A.st 3 0 rfl λE x=>one 1 E x
  .rw [ab (by omega),ab (by omega),ag (by omega)];refine⟨_,A.f' 0,_,A.cm 0,(U9 s i c l G af D).mono ?_⟩;intro r E W;cases hq:qu l with
   |ok t u=>
    rw[hq]at W;obtain⟨rfl,f6⟩:=W;refine⟨_,_,_,_,rfl,(A.cd f6).nw λw7 _ x=>x.iU 4 rfl λw8 B=>⟨_,B.ld 4 0,aV rfl (B.st 3 0 rfl λS h=>h.st 3 1 rfl λaa j=>j.eC 0 rfl λac d=>?_)⟩⟩;exact B5 (d.take 4) λV N M=>⟨rfl,N,by rw[M,Nat.add_assoc]⟩
   |bad a C=>
    rw[hq]at W;obtain⟨⟨y,aL,rfl⟩,f6⟩:=W;have F:=Nm _ l (Nat.lt_succ_self _) _ _ hq;refine⟨_,_,_,_,rfl,(A.cd f6).nw λw7 _ x=>x.iU 4 rfl λw8 B=>⟨_,B.ld 4 0,aT (by rcases F with rfl|rfl<;>rfl) (B.dr λS h=>?_)⟩⟩;refine⟨_,_,h.ld 4 0,h.ld 4 1,h.jP 1 rfl λaa j=>⟨j.ld 4 0,j.ld 4 1,j.iU 2 rfl λac d=>⟨_,_,_,d.ld 1 0,d.ld 1 1,d.ld 1 2,_,_,d.ld 2 0,d.ld 2 1,⟨_,_,_,by rw[Nat.add_assoc]⟩,by omega,d.fr⟩⟩⟩
  .rw [ab (by omega),ab (by omega),ab (by omega)];have word:hy c=true->ma.L2 (ad e) (ad bs) (ad w.heap.size) (ad H.heap.size) (ad I.heap.size) D (wD e w i (if hy c=true then(match ft ((c::l).takeWhile bL)with
     |(k,C)=>if C≠0 then .bad 0 C else match(c::l).drop ((c::l).takeWhile bL).length with
      |[]=>.tok k ((c::l).takeWhile bL) ((c::l).takeWhile bL).length
      |y::_=>if l6 y then .tok k ((c::l).takeWhile bL) ((c::l).takeWhile bL).length else .bad ((c::l).takeWhile bL).length 2)else .bad 0 2)):=λY=>by
    rw[ag Y];have aD:bL c=true:=by unfold hy at Y;unfold bL;simp at Y ⊢;rcases Y with(P|P)|P<;>simp[P]
    have aK:((c::l).takeWhile bL).length<=l.length+1:=by have:=(List.takeWhile_prefix (p:=bL) (l:=c::l)).length_le;simpa using this
    refine Vc s af w e bs bk _ _ _ (i+((c::l).takeWhile bL).length) i _ _ (λE x=>?_) (l.length+2) i (c::l) D (by simp) G av rfl A;have aC:(c::l).take ((c::l).takeWhile bL).length=(c::l).takeWhile bL:=(List.prefix_iff_eq_take.1 (List.takeWhile_prefix bL)).symm;have Q:bl (s.extract i (i+((c::l).takeWhile bL).length))=(c::l).takeWhile bL:=by rw[F2,List.drop_take,G,Nat.add_sub_cancel_left,aC]
    have aE:∀y∈(c::l).takeWhile bL,bL y=true:=λy Z=>by have:=List.all_takeWhile (p:=bL) (l:=c::l);exact dK.1 this y Z
    have aA:(c::l).takeWhile bL≠[]:=by rw[List.takeWhile_cons,ag aD];simp
    have ak:(bl s).drop (i+((c::l).takeWhile bL).length)=(c::l).drop ((c::l).takeWhile bL).length:=by rw[<-ke,G]
    generalize(c::l).takeWhile bL=t at *;refine⟨_,x.f' 0,_,x.ld 3 2,_,x.cm 0,by omega,by omega,by omega,by rw[bZ];omega,?_⟩;rw[bZ,bZ];refine x.st 3 1 rfl λw7 B=>⟨_,B.ld 3 1,(U7 _ w7 (by rw[Q];exact aA) (by rw[Q];exact aE) (by rw[<-c9,Q];omega)).mono ?_⟩;rintro r w8 ⟨rfl,f8⟩;rw[Q];refine⟨_,_,rfl,?_⟩;have h:=B.cd f8;rcases ft t with⟨kd,C⟩;simp only;have am:s.extract i (i+t.length)=ba t:=(jx _).symm.trans (congrArg ba Q);have ai:∀{V:J},O (·=e) w V [.c e [.int .i64 ((i+t.length:Nat):Int)] bn,.c w.heap.size [.int .i64 0,zs,.int .i64 0] cX,.c H.heap.size [.int .i64 0,.int .i64 0] ik,.c I.heap.size [.int .i64 0,.string (s.extract i (i+t.length)),.int .i64 (i:Int)] cX] (RD bs bk s (.func (.func nU) #[] #[.pointer (some (ad e)),.pointer (some (ad bs))]))->
      ma.S5 (ad w.heap.size) (ad H.heap.size) (ad I.heap.size) kd V (wD e w i (.tok kd t t.length)):=λK=>by rw[am]at K;exact K.st 3 0 rfl λah ae=>B5 ae λV N M=>⟨rfl,N,M⟩
    refine bY (λF=>?_) (λF=>?_)
    .rw [ag F];exact h.dr λS h=>⟨_,h.ld 3 2,h.jP 1 rfl λaa j=>⟨j.ld 3 2,j.iU 2 rfl λac d=>⟨_,_,_,d.ld 1 0,d.ld 1 1,d.ld 1 2,_,_,d.ld 2 0,d.ld 2 1,⟨_,_,_,rfl⟩,F,d.fr⟩⟩⟩
    .rw [ab (by simpa using F)];refine⟨_,h.cm 0,_,h.f' 0,aS (λaw=>?_) (λaw=>?_)⟩
     .obtain ⟨y,l',Z⟩:∃y l',(bl s).drop (i+t.length)=y::l':=by
       cases hd:(bl s).drop (i+t.length)with
       |nil=>have:=congrArg List.length hd;rw[e8,c9]at this;simp at this;omega
       |cons c l=>exact⟨c,l,rfl⟩
      rw[<-ak,Z];refine⟨_,h.f' 0,_,h.cm 0,by omega,y,by rw[bZ];exact(uR Z).1,(xU _ y w8).mono ?_⟩;rintro r S ⟨rfl,rfl⟩;refine⟨_,rfl,?_⟩;show bq (ao (Go.Lib.indexByte [9,10,13,32,59,40,41,34] y<0)) _ _;rw[TX];refine ey (λhf=>?_) (λhf=>?_)
      .simp only[hf];exact h.dr λS h=>⟨_,h.cm 0,h.jP 1 rfl λaa j=>⟨j.cm 0,j.iU 2 rfl λac d=>⟨_,_,_,d.ld 1 0,d.ld 1 1,d.ld 1 2,_,_,d.ld 2 0,d.ld 2 1,⟨_,_,_,rfl⟩,by omega,d.fr⟩⟩⟩
      .simp only[hf,if_true];exact ai h
     .have:(bl s).drop (i+t.length)=[]:=de (by rw[c9];omega);rw[<-ak,this];exact ai h
   refine(B6 c D).mono ?_;rintro r E ⟨rfl,rfl⟩;refine⟨_,rfl,bh (λh1=>word (by simp[hy,h1])) (λh1=>(B4 c 10 D).mono ?_)⟩;rintro r E ⟨rfl,rfl⟩;refine⟨_,rfl,bh (λh2=>word (by simp[hy,h2])) (λh2=>ax (λh3=>word ?_) (λh3=>?_))⟩
   .have:c.toNat=35:=by omega
    simp[hy,this]
   .have aB:¬hy c=true:=by
     have:c.toNat≠35:=by omega
     simp[hy,h1,h2,this]
    rw[ab aB];exact A.dr λS h=>⟨_,h.cm 0,h.jP 1 rfl λaa j=>⟨j.cm 0,j.iU 2 rfl λac d=>⟨_,_,_,d.ld 1 0,d.ld 1 1,d.ld 1 2,_,_,d.ld 2 0,d.ld 2 1,⟨_,_,_,rfl⟩,by omega,d.fr⟩⟩⟩
def DP:∀(n:Nat) (l:List UInt8),l.length<n->∀(t:List UInt8) (u:Nat),qu l=.ok t u->1<=u/\u<=l.length/\t.length<u
 |0,l,d=>by omega
 |n+1,[],_=>by intro a k d;unfold qu at d;cases d
 |n+1,c::l,q=>by
  intro t u d;by_cases j:c.toNat=34
  .unfold qu at d;rw[ag j]at d;cases d;simp
  .rw [vz c l j]at d;cases e:dH (c::l)with
   |bad x z=>rw[e]at d;cases d
   |ok y v=>
    rw[e]at d;simp only at d;have w:=xC e;cases h:qu ((c::l).drop v)with
    |bad a k=>rw[h]at d;cases d
    |ok A B=>
     rw[h]at d;cases d;have:=DP n _ (by simp at q ⊢;omega) _ _ h;simp at this ⊢ w;omega
def HY{t:List UInt8}{k:Int}(d:ft t=(k,0)):k=2\/k=3\/k=4:=by
 unfold ft at d;split at d
 .cases d
 .split at d
  .split at d
   .cases d
   .split at d<;>cases d;simp
  .split at d
   .split at d
    .cases d
    .split at d<;>cases d;simp
   .unfold r4 at d;split at d
    .split at d
     .split at d
      .split at d<;>cases d;simp
      .cases d
     .split at d
      .split at d
       .split at d<;>cases d;simp
       .cases d
      .cases d
    .cases d
def ym{l:List UInt8}{k:Int}{t:List UInt8}{u:Nat}(d:gd l=.tok k t u):k≠6/\1<=u/\u<=l.length/\t.length<=u:=by
 unfold gd at d;cases l with
 |nil=>cases d
 |cons c l=>
  simp only at d;split at d
  .cases d;simp
  .split at d
   .cases d;simp
   .split at d
    .split at d
     .rename_i C D x;cases d;have:=DP _ l (Nat.lt_succ_self _) _ _ x;simp;omega
     .cases d
    .split at d
     .rename_i e;have y:bL c=true:=by unfold hy at e;unfold bL;simp at e ⊢;rcases e with(d|d)|d<;>simp[d]
      have q:((c::l).takeWhile bL).length<=(c::l).length:=(List.takeWhile_prefix (p:=bL) (l:=c::l)).length_le;have h:1<=((c::l).takeWhile bL).length:=by rw[List.takeWhile_cons,ag y];simp
      cases w:ft ((c::l).takeWhile bL)with
      |mk B z=>
       rw[w]at d;simp only at d;split at d
       .cases d
       .rename_i j;simp only[ne_eq,Decidable.not_not]at j;subst j;have A:=HY w;split at d
        .cases d;exact⟨by omega,h,q,be _⟩
        .split at d
         .cases d;exact⟨by omega,h,q,be _⟩
         .cases d
     .cases d
def Ts:fS U pw cX (.agg #[.int .i64 0,.string (bj #[]),.int .i64 0]) 3 32:=⟨by kernel_rfl,by kernel_rfl,rfl,by decide,by decide⟩
def tz(t:aR):List aa:=[.int .i64 t.kind,.string (ba t.text),.int .i64 (t.a3:Int)]
def hB(l:List aR):List aa:=l.flatMap tz
def PN:∀l:List aR,(hB l).length=3 *l.length
 |[]=>rfl
 |t::l=>by have:=PN l;unfold hB at this ⊢;rw[List.flatMap_cons,b',this,cT];simp[tz];omega
def Zz(l:List aR)(t:aR):hB (l++[t])=hB l++tz t:=by simp[hB]
def En.nil:En:=⟨[],λ_=>True,λ_ _ _ d=>d,λ_ _ b e=>by simp at e,by simp⟩
abbrev EL(t2 t3 t4 d q l_ D:Nat)(e h j:aa)(sl:Sl)(acc:List aR)(k:En)(o:Obj):List En:=
 [.c t2 [e] pw,.c t3 [h] bn,.c t4 [j] gF,.c d [sl.v] pw,k,.row cX 3 sl (hB acc),.ob D (.deferred (some [])),.ob l_ o]
abbrev ED(bs d bk e:Nat)(s:ByteArray):List En:=
 [.c bs [.string s] fk,.c bk [.func (.func nU) #[] #[.pointer (some (ad d)),.pointer (some (ad bs))]] ER,.c e [.func (.func vf) #[] #[.pointer (some (ad bk)),.pointer (some (ad d)),.pointer (some (ad bs))]] ZF]
def wv(w0:J)(t2 t3 t4 k d l_ D bs bk h:Nat)(s:ByteArray)(q:eg->Option Code->Obj)(acc:List aR)(w:J):TR->Prop
 |.ok x=>∃sl e,O F0 w0 w (EL t2 t3 t4 k d l_ D (.slice none 0 0) (.int .i64 0) (.int .i64 0) sl (acc++x) e (q .ready none)) (ED bs d bk h s)
 |.bad a j=>j≠0/\∃sl y e,O F0 w0 w (EL t2 t3 t4 k d l_ D (.slice none 0 0) (.int .i64 (a:Int)) (.int .i64 j) sl y e (q .done (some .ret))) (ED bs d bk h s)
def Qq{w0:J}{t2 t3 t4 j d l_ D bs bk e:Nat}{s:ByteArray}{k:eg->Option Code->Obj}{acc:List aR}{w:J}{t:aR}{q:TR}(h:wv w0 t2 t3 t4 j d l_ D bs bk e s k (acc++[t]) w q):wv w0 t2 t3 t4 j d l_ D bs bk e s k acc w (q.push t):=by
 cases q with
 |ok x=>simpa[wv,TR.push]using h
 |bad a y=>exact h
def U6(s:ByteArray)(aq:s.size<=1000000)(w0:J)(t2 t3 t4 S h l_ D bs bk P:Nat)(x:Addr)(F:eg->Option Code->Obj)(hY:∀(ai:Int) (aj:ByteArray) (ak al am:Int) (w_:J) (K_:Bool->J->Prop),w_.heap[l_]? =some (F .ready none)->Ca.pA l_ F (ad t2) (ad t3) (ad t4) (ad S) x ai aj ak al am w_ (λr_ G=>∃b_:Bool,r_=ae (.bool b_)/\K_ b_ G)->W.nl U l_ #[.agg #[.int .i64 ai,.string aj,.int .i64 ak],.agg #[.int .i64 al,.int .i64 am]] w_ K_)(R:aC):∀(n k:Nat) (l:List UInt8) (acc:List aR) (sl:Sl) (w:J),l.length<n->(bl s).drop k=l->k<=s.size->acc.length<=k->
  O F0 w0 w (EL t2 t3 t4 S h l_ D (.slice none 0 0) (.int .i64 0) (.int .i64 0) sl acc (.c h [.int .i64 (k:Int)] bn) (F .ready none)) (ED bs h bk P s)->
  (∀E,wv w0 t2 t3 t4 S h l_ D bs bk P s F acc E (kZ n k l)->R (ae (.tuple #[])) E)->xK.L0 l_ (ad P) w R:=by
 intro n;induction n with
 |zero=>intro k l acc sl w hn;omega
 |succ n ih=>
  intro k l acc sl w hn hl hk aB j hR;have aE:=m' false l;have aD:l.length=s.size - k:=by rw[<-hl,e8,c9]
  have aG:sl.n=acc.length:=by have:=aK.len (j.get 5);rw[PN]at this;omega
  refine xK.cU _ _ _ _ ⟨⟨vf,#[],#[.pointer (some (ad bk)),.pointer (some (ad h)),.pointer (some (ad bs))]⟩,j.f' 2,Ao (by kernel_rfl) ((U8 aq (j.ob 4) (show w.heap[bs]? =_ from j.getD 0) (show w.heap[bk]? =_ from j.getD 1) hk).mono ?_)⟩;intro r G B;rw[hl]at B;have round:∀(kd:Int) (y:List UInt8) (i:Nat) (G:J) (e5:En) (Z:J) (p q:Nat),O F0 w0 Z (EL t2 t3 t4 S h l_ D (.slice none 0 0) (.int .i64 0) (.int .i64 0) sl acc e5 (F .ready none)++[.c p [.int .i64 kd,.string (ba y),.int .i64 (i:Int)] cX,.c q [.int .i64 0,.int .i64 0] ik]) (ED bs h bk P s)->
    ∀V:Bool->J->Prop,(∀C E,O F0 w0 E (EL t2 t3 t4 S h l_ D (.slice none 0 0) (.int .i64 0) (.int .i64 0) C (acc++[⟨kd,y,i⟩]) e5 (F .ready none)++[.c p [.int .i64 kd,.string (ba y),.int .i64 (i:Int)] cX,.c q [.int .i64 0,.int .i64 0] ik]) (ED bs h bk P s)->V true E)->
    W.nl U l_ #[.agg #[.int .i64 kd,.string (ba y),.int .i64 (i:Int)],.agg #[.int .i64 0,.int .i64 0]] Z V:=by intro kd y i G e5 Z p q H8 V hK;refine hY _ _ _ _ _ Z V (H8.ob 7) ?_;refine H8.nw λw9 _ H9=>H9.jP 10 rfl λau aa=>?_;refine aa.nw λav _ ab=>ab.iU 11 rfl λaw ac=>ac.pu 7 rfl λax e=>⟨_,e.ld 11 0,aV rfl ?_⟩;refine⟨_,e.cm 3,_,_,_,e.ld 10 0,e.ld 10 1,e.ld 10 2,e.wM 5 Ts rfl (λC ay I _ _=>?_) (by omega)⟩;refine I.eC 3 rfl λaz K=>K.pu 7 rfl λag T=>⟨true,rfl,hK C ag ?_⟩;have:=T.take 10;simp only[List.set_cons_succ,List.set_cons_zero,List.take_succ_cons,List.take_zero,List.cons_append,n8]at this;simp only[EL,Zz];exact this
  cases A:gd (l.drop (cG false l))with
  |fin=>
   rw[A]at B;obtain⟨rfl,Q,c1⟩:=B;have H:=j.w4 4 Q c1;refine⟨_,_,_,_,_,rfl,H.nw λw2 _ L=>L.nw λw3 _ M=>M.jP 8 rfl λah N=>N.iU 9 rfl λw5 d=>⟨_,_,_,d.ld 8 0,d.ld 8 1,d.ld 8 2,_,_,d.ld 9 0,d.ld 9 1,?_⟩⟩;refine round 6 [] _ G _ _ _ _ d _ (λC w6 z=>aV rfl ⟨_,z.ld 9 0,aV rfl ⟨_,z.ld 8 0,aT rfl (hR w6 ?_)⟩⟩);unfold kZ;simp only[A];exact⟨C,_,z.take 8⟩
  |tok kd y u=>
   rw[A]at B;obtain⟨rfl,Q,c1⟩:=B;have H:=j.w4 4 Q c1;obtain⟨ap,aF,ar,_⟩:=ym A;rw[e8]at ar;refine⟨_,_,_,_,_,rfl,H.nw λw2 _ L=>L.nw λw3 _ M=>M.jP 8 rfl λah N=>N.iU 9 rfl λw5 d=>⟨_,_,_,d.ld 8 0,d.ld 8 1,d.ld 8 2,_,_,d.ld 9 0,d.ld 9 1,?_⟩⟩;refine round kd y _ G _ _ _ _ d _ (λC w6 z=>aV rfl ⟨_,z.ld 9 0,aV rfl ⟨_,z.ld 8 0,aV (by simpa using ap) ?_⟩⟩);refine ih (k+cG false l+u) ((l.drop (cG false l)).drop u) (acc++[aR.mk kd y (k+cG false l)]) C w6 (by simp;omega) (by rw[<-hl,ke,ke,Nat.add_assoc]) (by omega) (by simp;omega) (z.take 8) (λE Y=>hR E ?_);unfold kZ;simp only[A];exact Qq Y
  |bad a af=>
   rw[A]at B;obtain⟨⟨x0,x1,x2,rfl⟩,Y,Q⟩:=B;have H:=j.fC 4 En.nil rfl (Q.mono λx _ af=>by simp[En.ob,af]) trivial (by simp[En.nil]);refine⟨_,_,_,_,_,rfl,H.nw λw2 _ L=>L.nw λw3 _ M=>M.jP 8 rfl λah N=>N.iU 9 rfl λw5 d=>⟨_,_,_,d.ld 8 0,d.ld 8 1,d.ld 8 2,_,_,d.ld 9 0,d.ld 9 1,?_⟩⟩;refine hY _ _ _ _ _ w5 _ (d.ob 7) ?_;refine d.nw λw9 _ H9=>H9.jP 10 rfl λau aa=>?_;refine aa.nw λav _ ab=>ab.iU 11 rfl λaw ac=>ac.pu 7 rfl λax e=>⟨_,e.ld 11 0,aT (by simpa using Y) ?_⟩;refine e.dr λay I=>⟨_,I.ld 11 1,_,I.ld 11 0,I.eC 0 rfl λaz K=>⟨K.ld 11 0,K.ld 11 1,K.eC 1 rfl λag T=>⟨T.ld 11 0,T.eC 2 rfl λaH an=>an.pu 7 rfl λaA ao=>⟨false,rfl,aT rfl (hR aA ?_)⟩⟩⟩⟩;unfold kZ;simp only[A];exact⟨Y,sl,acc,En.nil,ao.take 8⟩
def VN{d:J}{l:Nat}{o:eg->Option Code->Obj}{N:J->Prop}{X:Nat->J->Prop}{T:J->Prop}(e:gN d l (o .ready none) (o .exhausted none) N):pF d l o N X T:=.inl e
def VO{d:J}{l:Nat}{o:eg->Option Code->Obj}{N:J->Prop}{X:Nat->J->Prop}{T:J->Prop}(e:gN d l (o .done (some .ret)) (o .exhausted (some .ret)) T):pF d l o N X T:=.inr (.inr e)
def tokens(l:List UInt8):TR:=if 65536<l.length then .bad 65536 4 else kZ (l.length+1) 0 l
def QL(w:J)(q:TR):aC:=λr d=>match q with
 |.ok h=>∃sl:Sl,r=ae (.tuple #[sl.v,.int .i64 0,.int .i64 0])/\aK d cX 3 sl (hB h)/\ah w d/\∀b∈aN sl,w.heap.size<=b
 |.bad a e=>r=ae (.tuple #[.slice none 0 0,.int .i64 (a:Int),.int .i64 e])/\e≠0/\ah w d
def xH(s:ByteArray)(ae:s.size<=1000000)(w:J):aj U Ky #[.string s] w (QL w (tokens (bl s))):=by
 refine Ca.ok _ w _ ((O.start (M:=F0) [] (by simp)).nw λw1 _ L=>L.nw λw2 _ S=>S.nw λw3 _ E=>aS (λaa=>?_) (λaa=>?_))
 .refine E.eC 0 rfl λB y=>y.eC 1 rfl λC z=>z.eC 2 rfl λw6 h=>⟨⟨none,0,0⟩,h.cm 0,_,h.cm 1,_,h.cm 2,?_⟩;unfold tokens;rw[ag (by rw[c9];omega)];exact⟨rfl,by omega,h.fr⟩
 .unfold tokens;rw[ab (by rw[c9];omega)];refine E.nw λB _ y=>?_;refine I'.ok _ _ _ (y.nw λC _ z=>z.nw λw6 _ h=>h.eC 5 rfl λK T=>T.nw λw8 _ V=>V.eC 6 rfl λw9 W=>⟨_,rfl,?_⟩);refine I9.ok ⟨vf,#[],#[.pointer (some (ad K.heap.size)),.pointer (some (ad C.heap.size)),.pointer (some (ad B.heap.size))]⟩ _ _ (W.nw λq _ D=>⟨_,rfl,?_⟩);show ∀A:eg->Option Code->Obj,_;intro A hY;have Z:(q.alloc (.deferred (some []))).heap.size=q.heap.size+1:=size_alloc _ _;have F:=((D.freeze 4 _ rfl (D.get 4) (λb e=>e)));have G:=F.freeze 5 _ rfl (F.get 5) (λb e=>e);have Y:=G.freeze 5 _ rfl (G.get 5) (λb e=>e);have H:=((Y.h' cX 3).alloc (.deferred (some []))).alloc (A .ready none);rw[Z]at H;refine xK.ok _ _ _ _ (U6 s ae w w.heap.size w1.heap.size w2.heap.size w3.heap.size C.heap.size (q.heap.size+1) q.heap.size B.heap.size K.heap.size w9.heap.size _ A hY _ ((bl s).length+1) 0 (bl s) [] ⟨none,0,0⟩ _ (by omega) rfl (by omega) (by simp) H (λw' k=>⟨⟨_,rfl⟩,?_⟩));cases I:kZ ((bl s).length+1) 0 (bl s)with
  |ok ak=>
   rw[I]at k;obtain⟨sl,af,x⟩:=k;refine VN (x.pu 7 rfl λah j=>⟨sl,j.cm 3,j.eC 0 rfl λan N=>N.eC 1 rfl λao P=>P.eC 2 rfl λap Q=>Q.pu 6 rfl λai d=>⟨sl,d.cm 0,_,d.cm 1,_,d.cm 2,?_⟩⟩);exact⟨sl,rfl,d.get 5,d.fr,λb e=>(d.new _ (aB (i:=5) rfl) b e).resolve_right id⟩
  |bad a am=>
   rw[I]at k;obtain⟨ac,sl,al,af,x⟩:=k;refine VO (x.pu 7 rfl λah j=>j.pu 6 rfl λai d=>⟨⟨none,0,0⟩,d.cm 0,_,d.cm 1,_,d.cm 2,?_⟩);exact⟨rfl,ac,d.fr⟩
structure hf where
 k:Int
 nm:List UInt8
 st:aU
 nd:Int
 n:Int
deriving DecidableEq
structure cJ where
 s:aI
 vs:List (List UInt8×Nat)
 ms:List (List UInt8×PM)
 cs:List hf
inductive SR
 |ok (x:cJ)
 |er (e:Int) (p:Nat)
def SR.b(x:SR)(f:cJ->SR):SR:=match x with
 |.ok x=>f x
 |.er d p=>.er d p
def PR.s{α:Type}(x:PR α)(y:cJ)(f:α->cJ->SR):SR:=match x with
 |.ok a s=>f a {y with s:=s}
 |.er d p=>.er d p
def l4(T:List aR)(x:cJ):bS:=⟨T,x.vs,x.ms,[],9223372036854775807,0⟩
def mS(E:bS)(s:aI):Nat:=min E.kn E.ms.length *(E.T.length+1)+(E.T.length - s.p)+1
def wc(T:List aR)(x:cJ):PR Nat:=(fQ (mS (l4 T x) x.s) (l4 T x) x.s).b λn s=>
 if(s.g[n]?).map (·.st)=some (a' 1)then .ok n s else .er 9 (aW T x.s.p).a3
def Db(T:List aR)(x:cJ):PR aR:=(bM T 2 x.s).b λt s=>if(lk x.vs t.text).isSome||(lk x.ms t.text).isSome then .er 8 t.a3 else .ok t s
def ur(T:List aR)(w:aR)(x:cJ):SR:=(Db T x).s x λt x=>(ic T x.s).s x λd x=>(bM T 1 x.s).s x λ_ x=>(eR x.s ⟨0,[],0,0,0,ba t.text,d⟩ w).s x λn x=>
 .ok {x with vs:=x.vs++[(t.text,n)],cs:=x.cs++[⟨0,t.text,d,n,0⟩]}
def m3(T:List aR):Nat->List (List UInt8×aU)->aI->PR (List (List UInt8×aU))
 |0,_,_=>.er 1000 0
 |f+1,d,s=>
  let t:=aW T s.p
  if t.kind=1 then .ok d (cK t s)else if t.kind≠0 then jl t else
  (bM T 2 (cK t s)).b λp s=>if(lk d p.text).isSome then .er 8 p.a3 else(ic T s).b λe s=>(bM T 1 s).b λ_ s=>m3 T f (d++[(p.text,e)]) s
def mi(T:List aR):Nat->Nat->aI->PR Unit
 |0,_,_=>.er 1000 0
 |f+1,d,s=>
  let t:=aW T s.p
  if t.kind=6 then jl t else if t.kind=1/\d=0 then jl t else
  let d:=if t.kind=0 then d+1 else if t.kind=1 then d - 1 else d
  if d=0 then .ok () (cK t s)else mi T f d (cK t s)
def uu(T:List aR)(x:cJ):SR:=(bM T 0 x.s).s x λ_ x=>(Db T x).s x λt x=>if l7 t.text then .er 6 t.a3 else
 (m3 T (T.length+1) [] x.s).s x λh x=>(mi T (T.length+1) 0 x.s).s x λ_ d=>(bM T 1 d.s).s d λ_ e=>
  .ok {e with ms:=e.ms++[(t.text,⟨h,x.s.p,x.ms.length⟩)]}
def oK(T:List aR)(x:cJ):SR:=(bM T 2 x.s).s x λd x=>
 let fin (c:hf) (x:cJ):SR:=(bM T 1 x.s).s x λ_ x=>.ok {x with cs:=x.cs++[c]}
 if d.text=[100,101,99,108,97,114,101]then ur T d x else
 if d.text=[100,101,102,105,110,101]then uu T x else
 if d.text=[97,115,115,101,114,116]\/d.text=[101,100,105,116]then
  (bM T 2 x.s).s x λt x=>(wc T x).s x λn x=>fin ⟨if d.text=[101,100,105,116]then 2 else 1,t.text,bg,n,0⟩ x else
 if d.text=[114,101,116,114,97,99,116]then(bM T 2 x.s).s x λt x=>fin ⟨3,t.text,bg,0,0⟩ x else
 if d.text=[112,117,115,104]then fin ⟨4,[],bg,0,0⟩ x else
 if d.text=[112,111,112]then fin ⟨5,[],bg,0,0⟩ x else
 if d.text=[99,104,101,99,107]then(dm T x.s).s x λn e=>if 1099511627776<n then .er 5 (aW T x.s.p).a3 else fin ⟨6,[],bg,0,n⟩ e else
 .er 2 d.a3
def m9(T:List aR):Nat->cJ->SR
 |0,_=>.er 1000 0
 |f+1,d=>
  let t:=aW T d.s.p
  if t.kind=6 then .ok d else if t.kind=0 then(oK T {d with s:=cK t d.s}).b λd=>m9 T f d else .er 2 t.a3
def o4(l:List UInt8):SR:=match tokens l with
 |.bad a e=>.er e a
 |.ok d=>m9 d (d.length+1) ⟨⟨0,0,[]⟩,[],[],[]⟩
def eO:List Nx->Nat->List (List UInt8×Nat)
 |[],_=>[]
 |d::g,i=>if d.op=0 then(bl d.tx,i)::eO g (i+1)else eO g (i+1)
def vo(g:List Nx)(l:List UInt8):PR Nat:=match tokens l with
 |.bad a e=>.er e a
 |.ok d=>(fQ (mS ⟨d,eO g 0,[],[],9223372036854775807,0⟩ ⟨0,0,g⟩) ⟨d,eO g 0,[],[],9223372036854775807,0⟩ ⟨0,0,g⟩).b λn s=>(bM d 6 s).b λ_ s=>.ok n s
namespace UF
noncomputable abbrev t0:=aA U Tryz.f234 [] []
end UF
namespace UH
noncomputable abbrev t0:=aA U Tryz.f233 [] []
end UH
namespace UI
noncomputable abbrev t0:=aA U Tryz.f216 [] []
end UI
namespace UG
noncomputable abbrev t0:=aA U Tryz.f217 [(7,ls [0,1,2,3,4,5,6,7,8,9,10,11,12,13,14]),(8,ls [0,1,2,3,4,5,6,7,8,9,10,11,12,13,14]),(9,ls [0,1,2,3,4,5,6,7,8,9,10,11,12,13,14]),(10,ls [0,1,2,3,4,5,6,7,8,9,10,11,12,13,14]),(17,ls [0,1,2,3,4,5,6,7,8,9,10,11,12,13,14]),(18,ls [0,1,2,3,4,5,6,7,8,9,10,11,12,13,14]),(23,ls [0,1,2,3,4,5,6,7,8,9,10,11,12,13,14])] []
noncomputable def L0:=bu t0 [0,2,1] [(0,.v [.s]),(1,.v [.U]),(4,.v [.I])]
noncomputable abbrev t1:=bt L0
noncomputable abbrev S5:=ai t1 [5,1,1,3,1] [(0,.v [.s]),(1,.v [.U]),(4,.v [.I]),(8,.v [.i .u32]),(9,.v [.i .u32]),(10,.v [.i .u32]),(11,.v [.i .u32])]
noncomputable abbrev t2:=ak S5
noncomputable abbrev S4:=ai t2 [4,1,1,3,1] [(0,.v [.s]),(1,.v [.U]),(4,.v [.I]),(6,.v [.i .u32]),(8,.v [.i .u32]),(9,.v [.i .u32])]
noncomputable abbrev t3:=ak S4
noncomputable abbrev S3:=ai t3 [3,1,1,3,1] [(0,.v [.s]),(1,.v [.U]),(4,.v [.I]),(6,.v [.i .u32]),(7,.v [.i .u32])]
noncomputable abbrev t4:=ak S3
abbrev P0:Ps:=[(0,.v [.s]),(1,.v [.U]),(4,.v [.I]),(5,.v [.i .u32])]
noncomputable abbrev S2:=ai t4 [2,1,1,3,1] P0
noncomputable abbrev t5:=ak S2
noncomputable abbrev S1:=ai t5 [1,1,1,3,1] P0
noncomputable abbrev t6:=ak S1
abbrev P1:Ps:=[(0,.v [.s]),(4,.v [.I]),(12,.v [.i .u32])]
noncomputable abbrev Ah:=ai t6 [5] P1
noncomputable abbrev t7:=ak Ah
abbrev P2:Ps:=[(0,.v [.s]),(4,.v [.I]),(12,.v [.i .u32]),(16,.v [.i .u32])]
noncomputable abbrev Af:=ai t7 [2,1,1,1,4] P2
noncomputable abbrev t8:=ak Af
noncomputable abbrev tU:=ai t8 [1,1,1,1,4] P2
noncomputable abbrev t9:=ak tU
noncomputable abbrev S9:=ai t9 [4] P1
noncomputable abbrev t10:=ak S9
noncomputable abbrev S8:=ai t10 [3,1,1,1,3] [(0,.v [.s]),(4,.v [.I]),(12,.v [.i .u32]),(14,.v [.i .u32]),(15,.v [.i .u32])]
noncomputable abbrev t11:=ak S8
abbrev P3:Ps:=[(0,.v [.s]),(4,.v [.I]),(12,.v [.i .u32]),(13,.v [.i .u32])]
noncomputable abbrev S7:=ai t11 [2,1,1,1,3] P3
noncomputable abbrev t12:=ak S7
noncomputable abbrev S6:=ai t12 [1,1,1,1,3] P3
noncomputable abbrev t13:=ak S6
end UG
namespace UJ
noncomputable abbrev t0:=aA U Tryz.f215 [] []
end UJ
namespace UC
noncomputable def C0:Code:=(Tryz.f200.body).getD .skip
noncomputable def C1:=C0.sn
noncomputable def C2:=C1.fs
noncomputable def C3:=C2.sn
noncomputable def C4:=C3.fs
noncomputable def C5:=C4.fs
noncomputable def C6:=C5.sn
noncomputable def C7:=C6.fs
noncomputable def C8:=C7.sn
noncomputable def C9:=C6.sn
noncomputable def jn:=C4.sn
noncomputable def jo:=C3.sn
noncomputable def kr:=C1.sn
end UC
namespace UD
noncomputable abbrev t0:=aA U Tryz.f170 [] []
end UD
namespace Y2
noncomputable abbrev t0:=aA U Tryz.f155 [] []
end Y2
namespace IC
noncomputable abbrev t0:=aA U Tryz.f134 [] []
def ok:=aF t0 Kx [.Y]
end IC
namespace nL
noncomputable abbrev t0:=aA U Tryz.f99 [] []
abbrev P0:Ps:=[(1,.v [.I]),(8,.v [.b]),(9,.v [.st]),(10,.v [.U]),(11,.v [.U]),(12,.v [.b]),(13,.v [.U]),(99,.v [.s]),(100,.v [.I]),(101,.v [.I])]
noncomputable def L4:=bu t0 [0,1,1,1,11] P0
noncomputable abbrev t1:=bt L4
noncomputable abbrev S5:=ai t1 [3,2,1,1,11] P0
noncomputable abbrev t2:=ak S5
noncomputable abbrev tU:=ai t2 [0,1,1,1,7,2,2,2,1,1,11] [(11,.v [.U])]
noncomputable abbrev t3:=ak tU
noncomputable abbrev S9:=ai t3 [7,2,2,2,1,1,11] [(1,.v [.I]),(8,.v [.b]),(9,.v [.st]),(10,.v [.U]),(11,.v [.U]),(12,.v [.b]),(13,.v [.U]),(17,.v [.U]),(99,.v [.s]),(100,.v [.I]),(101,.v [.I])]
noncomputable abbrev t4:=ak S9
abbrev P1:Ps:=[(1,.v [.I]),(8,.v [.b]),(9,.v [.st]),(10,.v [.U]),(11,.v [.U]),(12,.v [.b]),(13,.v [.U]),(16,.v [.Y]),(99,.v [.s]),(100,.v [.I]),(101,.v [.I])]
noncomputable abbrev S8:=ai t4 [6,2,2,2,1,1,11] P1
noncomputable abbrev t5:=ak S8
noncomputable abbrev S7:=ai t5 [3,2,2,2,1,1,11] P1
noncomputable abbrev t6:=ak S7
abbrev P2:Ps:=[]
noncomputable abbrev Ah:=ai t6 [6,2,2,2,2,2,1,1,11] P2
noncomputable abbrev t7:=ak Ah
abbrev P3:Ps:=[(1,.v [.I]),(8,.v [.b]),(9,.v [.st]),(10,.v [.U]),(11,.v [.U]),(12,.v [.b]),(13,.v [.U]),(15,.v [.Y]),(99,.v [.s]),(100,.v [.I]),(101,.v [.I])]
noncomputable abbrev Af:=ai t7 [4,2,2,2,2,2,1,1,11] P3
noncomputable abbrev t8:=ak Af
noncomputable abbrev S6:=ai t8 [2,2,2,2,2,2,1,1,11] P3
noncomputable abbrev t9:=ak S6
noncomputable abbrev QC:=ai t9 [13] [(13,.v [.U])]
noncomputable abbrev t10:=ak QC
def Fi:=bH t10 L4
noncomputable abbrev S3:=ai t10 [9] [(0,.v [.st]),(1,.v [.I]),(8,.v [.b]),(9,.v [.st]),(10,.v [.U]),(11,.v [.U])]
noncomputable abbrev t11:=ak S3
noncomputable abbrev S2:=ai t11 [8] [(0,.v [.st]),(1,.v [.I]),(2,.v [.I]),(8,.v [.b]),(9,.v [.st]),(10,.v [.U])]
noncomputable abbrev t12:=ak S2
abbrev P4:Ps:=[(0,.v [.st]),(1,.v [.I]),(2,.v [.I]),(8,.v [.b]),(9,.v [.st])]
noncomputable abbrev S1:=ai t12 [6] P4
noncomputable abbrev t13:=ak S1
noncomputable abbrev QD:=ai t13 [0,1,3,1,5] P2
noncomputable abbrev t14:=ak QD
noncomputable abbrev S0:=ai t14 [5] P4
noncomputable abbrev t15:=ak S0
abbrev P5:Ps:=[(0,.v [.st]),(2,.v [.I]),(8,.v [.b]),(9,.v [.st])]
noncomputable abbrev QH:=ai t15 [6,2,2,1,3,2,4] P5
noncomputable abbrev t16:=ak QH
noncomputable abbrev QG:=ai t16 [4,2,2,1,3,2,4] P5
noncomputable abbrev t17:=ak QG
noncomputable abbrev QF:=ai t17 [2,2,2,1,3,2,4] P5
noncomputable abbrev t18:=ak QF
noncomputable abbrev QE:=ai t18 [2,2,4] P4
noncomputable abbrev t19:=ak QE
def ok:=aF t19 V9 [.st,.I,.I]
end nL
namespace UE
noncomputable abbrev t0:=aA U Tryz.f171 [] []
noncomputable abbrev S7:=ai t0 [13] [(11,.v [.I])]
noncomputable abbrev t1:=ak S7
noncomputable abbrev S6:=ai t1 [11] [(8,.v [.b]),(9,.v [.U])]
noncomputable abbrev t2:=ak S6
abbrev P0:Ps:=[(8,.v [.b]),(9,.v [.U]),(10,.v [.U])]
noncomputable abbrev S5:=ai t2 [10] P0
noncomputable abbrev t3:=ak S5
noncomputable abbrev S4:=ai t3 [9] P0
noncomputable abbrev t4:=ak S4
abbrev P1:Ps:=[(2,.v [.I]),(8,.v [.b]),(9,.v [.U])]
noncomputable abbrev S3:=ai t4 [8] P1
noncomputable abbrev t5:=ak S3
noncomputable abbrev S2:=ai t5 [7] P1
noncomputable abbrev t6:=ak S2
noncomputable abbrev S1:=ai t6 [4] [(0,.v [.st]),(1,.v [.I]),(2,.v [.I]),(8,.v [.b])]
noncomputable abbrev t7:=ak S1
noncomputable abbrev S8:=ai t7 [1,1,3,1,1,1,3] [(0,.v [.st]),(1,.v [.I]),(2,.v [.I])]
noncomputable abbrev t8:=ak S8
noncomputable abbrev S0:=ai t8 [1,1,3] [(0,.v [.st]),(1,.v [.I]),(2,.v [.I]),(8,.v [.b]),(16,.v [.Y])]
noncomputable abbrev t9:=ak S0
end UE
namespace sd
noncomputable abbrev t0:=aA U Tryz.f156 [] []
abbrev P0:Ps:=[(5,.v [.st]),(6,.v [.I]),(47,.v [.s]),(48,.v [.I]),(49,.v [.I])]
noncomputable def L3:=bu t0 [0,1,1,1,3,1,1,1,2] P0
noncomputable abbrev t1:=bt L3
noncomputable abbrev S5:=ai t1 [3,2,1,1,3,1,1,1,2] P0
noncomputable abbrev t2:=ak S5
noncomputable abbrev S4:=ai t2 [2,2,2,2,1,1,3,1,1,1,2] [(5,.v [.st]),(6,.v [.I]),(8,.v [.Y]),(47,.v [.s]),(48,.v [.I]),(49,.v [.I])]
noncomputable abbrev t3:=ak S4
noncomputable abbrev S6:=ai t3 [5,1,1,1,2] [(6,.v [.I])]
noncomputable abbrev t4:=ak S6
def Fh:=bH t4 L3
abbrev P1:Ps:=[(0,.v [.st]),(5,.v [.st])]
noncomputable abbrev S2:=ai t4 [2,1,1,1,2] P1
noncomputable abbrev t5:=ak S2
noncomputable abbrev S1:=ai t5 [1,1,1,1,1,1,1,1,2] P1
noncomputable abbrev t6:=ak S1
noncomputable abbrev S0:=ai t6 [0,1,1,1,1,1,1,1,2] P1
noncomputable abbrev t7:=ak S0
noncomputable abbrev S7:=ai t7 [3] [(0,.v [.st])]
noncomputable abbrev t8:=ak S7
def ok:=aF t8 V8 [.st]
end sd
namespace UK
noncomputable abbrev t0:=aA U Tryz.f153 [] []
end UK
namespace Y4
noncomputable abbrev t0:=aA U Tryz.f136 [(1,ls [0,1,3,2,4,5,6])] []
end Y4
namespace Y3
noncomputable abbrev t0:=aA U Tryz.f137 [(1,ls [0,1,3,2,4,5,6])] []
end Y3
namespace Y5
noncomputable abbrev t0:=aA U Tryz.f100 [] []
end Y5
namespace O'
noncomputable abbrev t0:=aA U Tryz.f140 [] []
def ok:=aF t0 Lj [.st]
end O'
namespace Pa
noncomputable abbrev t0:=aA U Tryz.f74 [] []
def ok:=aF t0 Ll [.st,.I,.I]
end Pa
def Av(l:List UInt8)(i:Nat):(ba l)[i]? =l[i]?:=by
 by_cases d:i<l.length
 .rw [a5 d];exact getElem?_pos (ba l) i (by rw[bC];exact d)
 .rw [List.getElem?_eq_none (by omega)];exact getElem?_neg (ba l) i (by rw[bC];omega)
def Dj(b:Nat)(l:List UInt8)(c:UInt8):cV b (l++[c])=b *cV b l+ep c:=by unfold cV;rw[List.foldl_append];rfl
def tw{α:Type}{l:List α}{i:Nat}{c:α}(d:l[i]? =some c):l.take (i+1)=l.take i++[c]:=by rw[List.take_add_one,d];rfl
def jr(b:Nat)(l:List UInt8):Prop:=∀c∈l,ep c<b/\(48<=c.toNat/\c.toNat<=57\/97<=c.toNat/\c.toNat<=102/\b=16)
def yL{b:Nat}(q:2<=b):∀{l:List UInt8},jr b l->∀i,cV b (l.take i)<b^(l.take i).length:=λ{l} h i=>by
 induction i with
 |zero=>simp[cV]
 |succ i d=>
  by_cases e:i<l.length
  .have j:l[i]? =some l[i]:=a5 e;rw[tw j,Dj,b'];have:=(h l[i] (vw e)).1;show _<b^((l.take i).length+1);rw[Nat.pow_succ];have k:b *cV b (l.take i)+b<=b *b^(l.take i).length:=by rw[<-Nat.mul_succ];exact Nat.mul_le_mul_left b d
   rw[Nat.mul_comm (b^_) b];omega
  .rw [dM (by omega)]at d ⊢;exact d
def uY(k:Nat)(w:J):Sem.run U (xz .neq PW (.tmp k) (.const .nilIface) .nilIface .nilIface) w=.ok (.bool false) w:=by kernel_rfl
def Iq{c:UInt8}(d:c.toNat<=57):ep c=c.toNat - 48:=by unfold ep;rw[ag d]
def Yg{l:List UInt8}(G:1<=l.length)(N:l.length<=13)(hd:jr 10 l)(w:J):aj U Lj #[.string (ba l)] w λr j=>r=ae (.tuple #[.i (cV 10 l:Int),.nilIface])/\ah w j:=by
 have W:=bC l;obtain⟨h,Y,A⟩:∃c m,l=c::m:=by
  cases l with
  |nil=>simp at G
  |cons c m=>exact⟨c,m,rfl⟩
 have P:=hd h (by rw[A];simp);have x:(ba l)[a1 0]? =some h:=by rw[Av,A];rfl
 have dec:∀c∈l,48<=c.toNat/\c.toNat<=57:=λc z=>by
  rcases(hd c z).2 with e|⟨_,_,e⟩
  .exact e
  .omega
 have S:=dec h (by rw[A];simp);have lt:∀i,cV 10 (l.take i)<10000000000000:=λi=>by have:=yL (by decide) hd i;have O:10^(l.take i).length<=10^13:=Nat.pow_le_pow_right (by decide) (by rw[fx];omega);omega
 have ne:∀k:Int,(k=45\/k=43)->((h.toNat:Nat):Int)≠k:=λk T=>by omega
 have fin:∀d,ah w d->Sem.run U (xz .neq PW (.tmp 11) (.const .nilIface) .nilIface .nilIface) d=.ok (.bool false) d:=λd _=>uY 11 d;refine O'.ok _ w _ (Calls.mono (R:=λr j=>r=ae (.tuple #[.i (cV 10 l:Int),.nilIface])/\ah w j) ?_ ?_)
 .refine sd.ok _ w _ (aT (aM (by omega)) (aT (aM (by omega)) ⟨by omega,h,x,ax (λe=>absurd e (ne 45 (.inl rfl))) (λ_=>⟨by omega,h,x,ax (λe=>absurd e (ne 43 (.inr rfl))) (λ_=>?_)⟩)⟩));obtain⟨a,d,C,y,F,_⟩:=O9 w (ba l);rw[kC]at y;have I:=Bytes.len y;refine⟨a,d,C,?_⟩;rw[I];have loop:∀(k i:Nat),i+k=l.length->sd.L3 (ba l) (cV 10 (l.take i):Int) a ((l.length:Nat):Int) (i:Int) d λr j=>r=ae (.tuple #[.i (cV 10 l:Int),.nilIface])/\ah w j:=by
   intro k;induction k with
   |zero=>
    intro i H;rw[dM (by omega)];refine sd.Fh _ _ _ _ _ _ _ (aV (aP (by omega)) ⟨by omega,h,x,ax (λe=>absurd e (ne 45 (.inl rfl))) (λ_=>⟨rfl,F⟩)⟩)
   |succ k K=>
    intro i H;have q:l[i]? =some (l[i]'(by omega)):=a5 (by omega);generalize l[i]'(by omega)=c at q;obtain⟨L,B⟩:=dec c (aB q);have Q:=c.toNat_lt;have E:aG .u8 ((c.toNat:Int) - 48)=((c.toNat - 48:Nat):Int):=by rw[IntKind.wrap_u8];omega
    refine sd.Fh _ _ _ _ _ _ _ (aT (aM (by omega)) ⟨by omega,by omega,Bytes.cell y q (by rw[bZ]) λp V z=>⟨_,z,?_⟩⟩);rw[E];refine aV (aP (by omega)) ?_;have M:cV 10 (l.take (i+1))=10 *cV 10 (l.take i)+(c.toNat - 48):=by rw[tw q,Dj,Iq B]
    have Z:=lt i;have l2:=lt (i+1);have D:aG .i64 (aG .i64 ((cV 10 (l.take i):Int) *10)+aG .i64 ((c.toNat - 48:Nat):Int))=(cV 10 (l.take (i+1)):Int):=by rw[bm (_ *10) (by omega),bm ((c.toNat - 48:Nat):Int) (by omega),bm _ (by omega)];omega
    show sd.L3 _ (aG .i64 _) _ _ (aG .i64 _) _ _;rw[D,bw _ (by omega)];exact K (i+1) (by omega)
  exact loop l.length 0 (by omega)
 .rintro _ d ⟨rfl,f⟩;exact⟨_,_,rfl,false,uY _ _,aV rfl ⟨rfl,f⟩⟩
def VK:∀c:UInt8,97<=c.toNat->c.toNat<=102->rB .u8 (c.toNat:Int) 32=(c.toNat:Int):=λc=>(by decide+kernel:∀d:Fin 256,97<=d.val->d.val<=102->rB .u8 (d.val:Int) 32=(d.val:Int)) ⟨c.toNat,c.toNat_lt⟩
def Yj{b:Nat}(Y:b=2\/b=16){l:List UInt8}(h1:1<=l.length)(h2:b^l.length<=18446744073709551616)(hd:jr b l)(w:J):aj U Ll #[.string (ba l),.i (b:Int),.i 64] w λr V=>r=ae (.tuple #[.u (cV b l:Int),.nilIface])/\ah w V:=by
 have hz:=bC l;have x:2<=b:=by omega
 have ai:l.length<=64:=by
  have h3:2^l.length<=b^l.length:=Nat.pow_le_pow_left x _;have T:2^l.length<=2^64:=by omega
  exact(Nat.pow_le_pow_iff_right (by decide)).1 T
 have aa:(ba l).toList≠(bj #[]).toList:=λM=>by have d:=wg (ba l) (ba []);rw[show(ba l).toList=(ba []).toList from M,beq_self_eq_true]at d;have:ba l=ba []:=eZ d.symm;have:=congrArg ByteArray.size this;rw[bC,bC,List.length_nil]at this;omega
 refine Pa.ok _ _ _ w _ (Calls.mono (R:=λr V=>r=ae (.tuple #[.u (cV b l:Int),.nilIface])/\ah w V) ?_ ?_)
 .obtain ⟨cut,G,F⟩:∃cut:Nat,(b:Int) *cut=18446744073709551616/\(b=2->cut=9223372036854775808)/\(b=16->cut=1152921504606846976):=by
   rcases Y with rfl|rfl
   .exact ⟨9223372036854775808,by decide,λ_=>rfl,λd=>by cases d⟩
   .exact ⟨1152921504606846976,by decide,λd=>(by cases d),λ_=>rfl⟩
  have G:b *cut=18446744073709551616:=by
   have d:((b *cut:Nat):Int)=18446744073709551616:=by rw[Int.natCast_mul];exact G
   omega
  have main:∀e:Int,e=18446744073709551615->nL.S3 (ba l) (b:Int) false (ba l) (cut:Int) e w λr V=>r=ae (.tuple #[.u (cV b l:Int),.nilIface])/\ah w V:=by
   intro e j;obtain⟨a,q,y,C,Q,_⟩:=O9 w (ba l);rw[kC]at C;have hn:=Bytes.len C;refine⟨a,q,y,?_⟩;rw[hn];have loop:∀(k i:Nat),i+k=l.length->nL.L4 (b:Int) false (ba l) (cut:Int) e false (cV b (l.take i):Int) a ((l.length:Nat):Int) (i:Int) q λr V=>r=ae (.tuple #[.u (cV b l:Int),.nilIface])/\ah w V:=by
    intro k;induction k with
    |zero=>
     intro i hi;rw[dM (by omega)];exact nL.Fi _ _ _ _ _ _ _ _ _ _ _ _ (aV (aP (by omega)) (aV rfl ⟨rfl,Q⟩))
    |succ k ih=>
     intro i hi;have h:l[i]? =some (l[i]'(by omega)):=a5 (by omega);generalize l[i]'(by omega)=c at h;obtain⟨d1,L⟩:=hd c (aB h);have ag:=c.toNat_lt;have H:=yL x hd i;have ad:=yL x hd (i+1);have li:(l.take i).length=i:=by rw[fx];omega
     have ac:(l.take (i+1)).length=i+1:=by rw[fx];omega
     rw[li]at H;rw[ac]at ad;have pw:b^(i+1)<=b^l.length:=Nat.pow_le_pow_right (by omega) (by omega);have pi:b *b^i=b^(i+1):=by rw[Nat.pow_succ,Nat.mul_comm]
     have al:cV b (l.take i)<cut:=by
      have:b *cV b (l.take i)<b *cut:=by have:=Nat.mul_lt_mul_of_pos_left H (show 0<b by omega);omega
      exact Nat.lt_of_mul_lt_mul_left this
     have A:cV b (l.take (i+1))=b *cV b (l.take i)+ep c:=by rw[tw h,Dj]
     have ak:b *cV b (l.take i)+ep c<18446744073709551616:=by omega
     have wb:aG .u64 (b:Int)=(b:Int):=by rw[IntKind.wrap_u64];omega
     have af:aG .u8 (b:Int)=(b:Int):=by rw[IntKind.wrap_u8];omega
     have E:nL.S7 (b:Int) false (ba l) (cut:Int) e false (cV b (l.take i):Int) ((ep c:Nat):Int) a ((l.length:Nat):Int) (i:Int) q λr V=>r=ae (.tuple #[.u (cV b l:Int),.nilIface])/\ah w V:=by
      have y:aG .u64 ((cV b (l.take i):Int) *aG .u64 (b:Int))=((b *cV b (l.take i):Nat):Int):=by
       rw[wb,IntKind.wrap_u64,Int.mul_comm];have:((b:Int) *(cV b (l.take i):Int))=((b *cV b (l.take i):Nat):Int):=by simp
       rw[this];omega
      have O:aG .u64 (((b *cV b (l.take i):Nat):Int)+aG .u64 ((ep c:Nat):Int))=(cV b (l.take (i+1)):Int):=by rw[IntKind.wrap_u64,IntKind.wrap_u64,A];omega
      refine aV (aP (by rw[af];omega)) (aV (aP (by omega)) ?_);show nL.S9 _ _ _ _ _ _ (aG .u64 _) (aG .u64 (aG .u64 _+aG .u64 _)) _ _ _ _ _;rw[y,O];refine aV (aP (by rw[A];omega)) (aV (aP (by rw[A,j];omega)) ?_);show nL.L4 _ _ _ _ _ _ _ _ _ (aG .i64 _) _ _;rw[bw _ (by omega)];exact ih (i+1) (by omega)
     refine nL.Fi _ _ _ _ _ _ _ _ _ _ _ _ (aT (aM (by omega)) ⟨by omega,by omega,Bytes.cell C h (by rw[bZ]) λp hp Z=>⟨_,Z,ax (λd=>absurd d (by omega)) (λ_=>?_)⟩⟩);rcases L with⟨I,D⟩|⟨I,D,q3⟩
     .have z:aG .u8 ((c.toNat:Int) - 48)=((ep c:Nat):Int):=by rw[IntKind.wrap_u8,Iq D];omega
      refine aT (aM (by omega)) (aT (aM (by omega)) ?_);rw[z];exact E
     .have hv:ep c=c.toNat - 87:=by unfold ep;rw[ab (by omega)]
      have lo:∀(V:J) {K:aC},K (ae (.int .u8 (c.toNat:Int))) V->aj U Kx #[.int .u8 (c.toNat:Int)] V K:=λV K W=>IC.ok _ V _ (by rw[VK c I D];exact W);have z:aG .u8 (aG .u8 ((c.toNat:Int) - 97)+10)=((ep c:Nat):Int):=by rw[IntKind.wrap_u8,IntKind.wrap_u8,hv];omega
      refine aT (aM (by omega)) (aV (aP (by omega)) (lo _ ⟨_,rfl,aT (aM (by omega)) (lo _ ⟨_,rfl,aT (aM (by omega)) (lo _ ⟨_,rfl,?_⟩)⟩)⟩));rw[z];exact E
   exact loop l.length 0 (by omega)
  have j:aG .u64 (aG .u64 (1 *2^(min (a1 (aG .u64 64)) (IntKind.bits .u64))) - 1)=18446744073709551615:=by decide
  refine nL.ok _ _ _ w _ (bh (λd=>absurd (by simpa using d) aa) (λ_=>aT (aM (by omega)) (aT (aM (by omega)) ?_)));have N:((b:Int)==0)=false:=by rw[beq_eq_false_iff_ne];omega
  rw[N];refine aV rfl (aV (by decide) (aV (by decide) (ax (λd=>absurd d (by omega)) (λ_=>ax (λd=>?_) (λd=>⟨?_,?_⟩)))))
  .have S:b=16:=by omega
   have:=main _ j;rw[F.2 S]at this;exact⟨by decide,this⟩
  .rw [IntKind.wrap_u64];omega
  .have B:b=2:=by omega
   have:=main _ j;rw[F.1 B,B]at this;have P:aG .u64 (aG .u64 (Int.tdiv 18446744073709551615 (aG .u64 ((2:Nat):Int)))+1)=((9223372036854775808:Nat):Int):=by decide
   rw[B,P];exact⟨by decide,this⟩
 .rintro _ q ⟨rfl,f⟩;exact⟨_,_,rfl,false,uY _ _,aV rfl ⟨rfl,f⟩⟩
def mL:fS U ZJ bI (.agg #[.int .i64 0,.slice none 0 0,.int .i64 0,.int .i64 0,.int .u64 0,.string (bj #[]),.int .i64 0,.int .i64 0,.int .i64 0]) 9 96:=⟨by kernel_rfl,by kernel_rfl,rfl,by decide,by decide⟩
def qs{l:List Nd}:∀u∈l.flatMap Nd.c,u.oneCell'=true:=by intro u d;obtain⟨e,_,d⟩:=List.mem_flatMap.1 d;simp only[Nd.c,aE,aZ,a2]at d;rcases d with rfl|rfl|rfl|rfl|rfl|rfl|rfl|rfl|rfl<;>rfl
def uc{w:J}{b n sz:Nat}{cs:List aa}{T:TypeId}(d:w.heap[b]? =some (.cells cs.toArray T (0,0)))(h:cs.length=n *sz):br sz w ⟨some (ad b),n,n⟩ cs:=
 ⟨h,be _,⟨λd=>(by cases d),λi v e=>⟨ad b,rfl,cellAt (p:=ad b) d rfl (by simpa using e)⟩⟩⟩
def RB{w:J}{a b:Nd}(V:a.P w)(W:b.P w)(Q:a.x.kids.length<=eF):aj U Kd #[a.v,b.v] w λr Z=>r=ae (.bool (ao (a.x=b.x)))/\ah w Z:=by
 have S:O F0 w w [] [cg a,cg b]:=bO _ (by
  intro aa N;simp only[aE,aZ,a2]at N;rcases N with rfl|rfl
  .exact V
  .exact W)
 obtain⟨⟨op,C,n,m,u,H,st⟩,sl⟩:=a;obtain⟨⟨G,D,F,E,K,I,z⟩,Y⟩:=b;have no:∀{M:J} {L:List En},O F0 w M L [cg ⟨⟨op,C,n,m,u,H,st⟩,sl⟩,cg ⟨⟨G,D,F,E,K,I,z⟩,Y⟩]->(⟨op,C,n,m,u,H,st⟩:Nx)≠⟨G,D,F,E,K,I,z⟩->(Ending.returned (.bool false)=ae (.bool (ao ((⟨op,C,n,m,u,H,st⟩:Nx)=⟨G,D,F,E,K,I,z⟩)))/\ah w M):=λA d=>⟨by rw[aP d],A.fr⟩;refine HH.au _ _ _ _ _ _ _ _ _ _ _ _ _ _ _ _ _ _ w _ (S.ay λb2 M A=>A.ay λb3 w2 e=>?_);refine ax (λh=>?_) (λh=>no e (λd=>h (congrArg Nx.op d)));refine ax (λj=>?_) (λj=>no e (λd=>j (congrArg Nx.n d)));refine ax (λk=>?_) (λk=>no e (λd=>k (congrArg Nx.m d)));refine ax (λq=>?_) (λq=>no e (λd=>q (congrArg Nx.u d)));refine y6 (λy=>?_) (λy=>no e (λd=>y (congrArg Nx.tx d)));refine mg (a:=st) (b:=z) (λB=>?_) (λB=>no e (λd=>B (congrArg Nx.st d)));refine e.av (Yl (e.getD 0) (e.getD 1) (by unfold eF at Q;simp only at Q ⊢;omega)) ?_;rintro _ w3 rfl T;refine⟨_,rfl,?_,T.fr⟩;simp only at h j k q y;subst h j k q y B;simp
def B9{g:List Nx}{n:Nx}{s:aU}(d:bF g n=(s,0)):bF g (dD n s)=(s,0):=by
 unfold bF at d;unfold bF;have k:(cl (dD n s).op==((dD n s).kids.length:Int)&&(dD n s).kids.all (eu g)&&hq (dD n s))=(cl n.op==(n.kids.length:Int)&&n.kids.all (eu g)&&hq n):=rfl;rw[k];split at d
 .simp at d
 .rename_i q;rw[ab q];have j:(dD n s).op=n.op:=rfl;rw[j];split at d
  .rename_i h;rw[ag h];unfold bQ at d;by_cases e:n.op=2
   .rw [ag e]at d;unfold bQ;rw[j,ag e];exact d
   .rw [ab e]at d;have w:s=n.st:=by
     split at d
     .simp at d
     .split at d
      .simp at d
      .split at d
       .simp at d
       .split at d
        .simp at d
        .split at d
         .simp at d
         .exact (congrArg Prod.fst d).symm
    have:dD n s=n:=by rw[w];rfl
    rw[this];unfold bQ;rw[ab e];exact d
  .rename_i h;rw[ab h];exact d
def nK(g:List Nx)(n:Nx):Option Nat:=e5 (if(bF g n).2=0 then dD n (bF g n).1 else n) g 0
def yx:Option Nat->Int
 |some i=>(i:Int)
 |none=>-1
def Rw{w:J}{s:Sl}{l:List Nd}{d:Nd}(S:GP w s l)(hd:d.P w)(T:wx (xs l))(ho:tP d.x)(Z:∀e∈l,e.x.kids.length<=eF):
  aj U J9 #[s.v,d.v] w λr I=>r=ae (.i (yx (nK (xs l) d.x)))/\ah w I:=by
 have hn:=h6 S;have aa:(xs l).length=l.length:=by simp[xs]
 have V:=T.len;rw[aa]at V;unfold eF at V;have loop:∀(m i:Nat) (h:Nat) (q:J) (e:Nd) (L:List En),e.ks=d.ks->e.x.kids=d.x.kids->i+m=l.length->e5 e.x ((xs l).drop i) i=nK (xs l) d.x->En.g h∈L->O F0 w q L (lE s l d)->
   uH.b5 s h e.x.op e.ks e.x.n e.x.m e.x.u e.x.tx e.x.st.k e.x.st.n e.x.st.x (i:Int) q λr I=>r=ae (.i (yx (nK (xs l) d.x)))/\ah w I:=by
  intro m;induction m with
  |zero=>
   intro i h q e L F G hi y E j;rw[de (by omega)]at y;exact uH.dy _ _ _ _ _ _ _ _ _ _ _ _ _ _ (aV (aP (by omega)) ⟨by rw[<-y];rfl,j.fr⟩)
  |succ m ih=>
   intro i h q e L F G hi y E j;have z:l[i]? =some (l[i]'(by omega)):=a5 (by omega);have hx:(xs l).drop i=(l[i]'(by omega)).x::(xs l).drop (i+1):=by rw[dk (by omega:i<(xs l).length)];simp[xs]
   rw[hx]at y;generalize l[i]'(by omega)=a at z y;have Y:∀b∈[h],En.g b∈L:=by simpa using E
   refine uH.dy _ _ _ _ _ _ _ _ _ _ _ _ _ _ (aT (aM (by omega)) (e4 (bc.1 (j.getD 0)) rfl z λp hp _=>j.af (λK C=>?_) Y));have M:GP K s l:=bc.1 (C.getD 0);have c:=BI M z hp (rfl:((i:Int))=(i:Int));have pe:e.P K:=by show bW K e.ks e.x.kids;rw[F,G];exact C.getD 1
   refine⟨_,_,_,_,_,_,_,_,_,c.c0,c.c1,c.c2,c.c3,c.c4,c.c5,c.c6,c.c7,c.c8,C.av (RB (a:=a) (b:=e) (M.2 a (aB z)) pe (Z a (aB z))) ?_⟩;rintro _ w6 rfl Q;have A:(if a.x=e.x then some i else e5 e.x ((xs l).drop (i+1)) (i+1))=nK (xs l) d.x:=y;refine⟨_,rfl,aS (λH=>⟨?_,Q.fr⟩) (λH=>?_)⟩
   .rw [ag H]at A;rw[<-A];rfl
   .rw [ab H]at A;rw[bw _ (by omega)];exact ih (i+1) h w6 e L F G (by omega) A E Q
 refine uH.au _ _ _ _ _ _ _ _ _ _ w _ ((u2 S hd).ay λh w1 B=>B.av (Gb (bc.1 (B.getD 0)) (B.getD 1) T ho) ?_);rintro _ w2 rfl W;refine⟨_,_,_,_,rfl,W.ay λac w3 N=>ax (λD=>N.af λq j=>?_) (λD=>N.af λq j=>?_)⟩
 .exact loop l.length 0 h q ⟨dD d.x (bF (xs l) d.x).1,d.ks⟩ _ rfl rfl (by omega) (by unfold nK;rw[ag D];rfl) (by simp) j
 .exact loop l.length 0 h q d _ rfl rfl (by omega) (by unfold nK;rw[ab D];rfl) (by simp) j
structure GR(w:J)(B:Nat->Prop)(g:List Nx)(s:Sl)(V:J):Prop where
 ex:∃l':List Nd,xs l'=g/\GP V s l'/\∀b∈(En.gr s l').fp,B b\/w.heap.size<=b
def GR.nil(w:J)(B:Nat->Prop)(V:J):GR w B [] ⟨none,0,0⟩ V:=⟨⟨[],rfl,⟨br.nil 9 V,by simp⟩,λb e=>by
 rcases sa.1 e with d|⟨j,h,_⟩
 .cases d
 .cases h⟩⟩
def R7{w:J}{s:Sl}{l:List Nd}{d:Nd}(Y:GP w s l)(hd:d.P w)(N:wx (xs l))(E:tP d.x)(am:∀h∈l,h.x.kids.length<=eF):
  aj U J6 #[s.v,d.v] w λr w'=>(∃s':Sl,r=ae (.tuple #[s'.v,.i (b6 (xs l) d.x).2.1,.i (b6 (xs l) d.x).2.2])/\GR w (λb=>b∈(En.gr s l).fp\/b∈(cg d).fp) (b6 (xs l) d.x).1 s' w')/\ah w w':=by
 have hn:=h6 Y;have aa:(xs l).length=l.length:=by simp[xs]
 refine HD.au _ _ _ _ _ _ _ _ _ _ w _ ((u2 Y hd).ay λb3 w1 I=>I.av (Gb (bc.1 (I.getD 0)) (I.getD 1) N E) ?_);rintro _ w2 rfl H2;refine⟨_,_,_,_,rfl,H2.ay λb7 w3 W=>bY (λH=>W.af λw4 B=>⟨⟨⟨none,0,0⟩,?_,?_⟩,B.fr⟩) (λH=>W.af λw4 B=>?_)⟩
 .unfold b6;rw[ag H]
 .unfold b6;rw[ag H];exact GR.nil _ _ _
 have hs:bF (xs l) d.x=((bF (xs l) d.x).1,0):=by rw[<-H]
 have aq:=B9 hs;have an:nK (xs l) (dD d.x (bF (xs l) d.x).1)=e5 (dD d.x (bF (xs l) d.x).1) (xs l) 0:=by unfold nK;rw[aq];rfl
 have e:b6 (xs l) d.x=match e5 (dD d.x (bF (xs l) d.x).1) (xs l) 0 with
   |some i=>(xs l,(i:Int),0)
   |none=>if 4096<=(xs l).length then([],0,4)else(xs l++[dD d.x (bF (xs l) d.x).1],((xs l).length:Int),0):=by unfold b6;rw[ab (by omega)];try rfl
 generalize ar:(bF (xs l) d.x).1=sr at *
 let h:Nd:=⟨dD d.x sr,d.ks⟩
 have ao:tP h.x:=⟨E.kl,E.n,E.m,E.tx⟩;refine B.av (Rw (d:=h) (bc.1 (B.getD 0)) (B.getD 1) N ao am) ?_;rintro _ w5 rfl C;rw[show nK (xs l) h.x=e5 (dD d.x sr) (xs l) 0 from an];refine⟨_,rfl,?_⟩;cases Z:e5 (dD d.x sr) (xs l) 0 with
 |some i=>
  rw[Z]at e;rw[e];exact aT (aM (Int.natCast_nonneg i)) ⟨⟨s,rfl,⟨l,rfl,bc.1 (C.getD 0),λb A=>.inl (.inl A)⟩⟩,C.fr⟩
 |none=>
  rw[Z]at e;dsimp only at e;refine aV (by decide) ?_;refine aS (λh4=>⟨⟨⟨none,0,0⟩,?_,?_⟩,C.fr⟩) (λh4=>?_)
  .rw [e,ag (by omega)]
  .rw [e,ag (by omega)];exact GR.nil _ _ _
  rw[ab (by omega)]at e;rw[e];have M:∀{k:J} {L:List En},O F0 w k L (lE s l d)->br 9 k s (l.flatMap Nd.c):=λak=>(bc.1 (ak.getD 0)).1;have fin:∀(s':Sl) (k:J) (L:List En) (j:Nat),O F0 w k L (lE s l d)->L[j]? =some (.row bI 9 s' (l.flatMap Nd.c++h.c))->
    (∃ai:Sl,Ending.returned (.tuple #[s'.v,.i ((s.n:Nat):Int),.i 0])=ae (.tuple #[ai.v,.i ((xs l).length:Int),.i 0])/\GR w (λb=>b∈(En.gr s l).fp\/b∈(cg d).fp) (xs l++[dD d.x sr]) ai k)/\ah w k:=by
   intro s' k L j q hj;have ap:br 9 k s' ((l++[h]).flatMap Nd.c):=by have:aK k bI 9 s' (l.flatMap Nd.c++h.c):=q.get j hj;have:=this.a7;simpa using this
   refine⟨⟨s',by rw[aa,hn],⟨l++[h],by simp[xs,h],⟨ap,λa e=>?_⟩,λb A=>?_⟩⟩,q.fr⟩
   .rcases List.mem_append.1 e with e|e
    .exact (bc.1 (q.getD 0)).2 a e
    .simp only[aE,aZ,a2]at e;subst e;exact q.getD 1
   .rcases sa.1 A with A|⟨a,e,A⟩
    .right;have al:b∈(En.row bI 9 s' (l.flatMap Nd.c++h.c)).fp:=by
      have:b∈(if(l++[h]).flatMap Nd.c=[]then[]else aN s'):=A;split at this
      .cases this
      .exact this
     exact(q.new _ (aB hj) b al).resolve_right id
    .rcases List.mem_append.1 e with e|e
     .exact .inl (.inl (sa.2 (.inr ⟨a,e,A⟩)))
     .simp only[aE,aZ,a2]at e;subst e;exact .inl (.inr A)
  have ac:∀u∈h.c,u.oneCell'=true:=λu hu=>qs (l:=[h]) u (by simpa using hu);have hl:=N.len;rw[aa]at hl;unfold eF at hl;refine⟨C.af λk q=>q.eK (n:=0) (sz:=9) (cs:=[]) rfl (by decide) λS D=>⟨?_,?_⟩,C.af λk q=>q.nw λS _ D=>D.eK (n:=0) (sz:=9) (cs:=[]) rfl (by decide) λw8 z=>?_⟩
  .refine D.eb 2 mL (s:=⟨some (ad k.heap.size),0,0⟩) (src:=s) rfl (M D) qs (by simp only;omega) (λs1 w8 z=>?_);have F:=(z.get 2:aK _ _ _ _ _).len;rw[n8,Nd.gZ]at F;refine z.iA 2 mL rfl (λG V y=>?_) (by omega);exact fin G V _ 2 y rfl
  .refine D.nw λw8 _ z=>?_;refine z.eb 2 mL (s:=⟨some (ad k.heap.size),0,0⟩) (src:=s) rfl (M z) qs (by simp only;omega) (λs1 V y=>?_);have F:=(y.get 2:aK _ _ _ _ _).len;rw[n8,Nd.gZ]at F;refine y.eb 2 mL (src:=⟨some (ad S.heap.size),1,1⟩) rfl (uc (cs:=h.c) (T:=bI) (y.ob 3) rfl) ac (by simp only;omega) (λG Q K=>?_);exact fin G Q _ 2 K rfl
  .refine z.eb 3 mL (s:=⟨some (ad S.heap.size),0,0⟩) (src:=s) rfl (M z) qs (by simp only;omega) (λs1 V y=>?_);have F:=(y.get 3:aK _ _ _ _ _).len;rw[n8,Nd.gZ]at F;refine y.eb 3 mL (src:=⟨some (ad k.heap.size),1,1⟩) rfl (uc (cs:=h.c) (T:=bI) (y.ob 2) rfl) ac (by simp only;omega) (λG Q K=>?_);exact fin G Q _ 3 K rfl
structure iy(T:List aR):Prop where
 e:∃l t,T=l++[t]/\t.kind=6/\∀x∈l,x.kind≠6
 k:∀t∈T,0<=t.kind/\t.kind<=6
 i:∀t∈T,t.kind=4->1<=t.text.length/\t.text.length<=13/\jr 10 t.text
 n:∀t∈T,t.kind=3->∃d,(t.text=35::98::d/\1<=d.length/\d.length<=64/\jr 2 d)\/(t.text=35::120::d/\1<=d.length/\d.length<=16/\jr 16 d)
 l:T.length<=100000
 x:∀t∈T,t.text.length<=65536/\t.a3<=65536
def pq{T:List aR}{p:Nat}(d:p<T.length):aW T p∈T/\T[p]? =some (aW T p):=by unfold aW;rw[List.getD_eq_getElem?_getD,a5 d];exact⟨vw d,rfl⟩
def iy.nx{T:List aR}(H:iy T){p:Nat}(q:p<T.length)(h:(aW T p).kind≠6):p+1<T.length:=by
 obtain⟨l,t,d,k,_⟩:=H.e;have w:T.length=l.length+1:=by rw[d];simp
 by_cases j:p=l.length
 .have:aW T p=t:=by unfold aW;rw[d,j,List.getD_eq_getElem?_getD,List.getElem?_append_right (be _),Nat.sub_self];rfl
  rw[this]at h;exact absurd k h
 .omega
def cL{α β:Type}{x:PR α}{f:α->aI->PR β}{b:β}{s:aI}(d:x.b f=.ok b s):∃a t,x=.ok a t/\f a t=.ok b s:=by
 cases x with
 |ok a t=>exact⟨a,t,rfl,d⟩
 |er e p=>cases d
def oZ{T:List aR}{k:Int}{s s':aI}{t:aR}(d:bM T k s=.ok t s'):t=aW T s.p/\t.kind=k/\s'=cK t s:=by
 unfold bM at d;split at d
 .rename_i e;cases d;exact⟨rfl,e,rfl⟩
 .cases d
structure Mv(T:List aR)(s s':aI):Prop where
 p:s.p<s'.p
 l:s'.p<T.length
 t:s'.tm=s.tm
 g:s'.g=s.g
def Mv.tr{T:List aR}{a b c:aI}(e:Mv T a b)(d:Mv T b c):Mv T a c:=⟨by have:=e.p;have:=d.p;omega,d.l,by rw[d.t,e.t],by rw[d.g,e.g]⟩
def rq{T:List aR}(H:iy T){s:aI}(e:s.p<T.length)(d:(aW T s.p).kind≠6):Mv T s (cK (aW T s.p) s):=by unfold cK;rw[ab d];exact⟨Nat.lt_succ_self _,H.nx e d,rfl,rfl⟩
def dW{T:List aR}(H:iy T){k:Int}{s s':aI}{t:aR}(w:s.p<T.length)(q:k≠6)(e:bM T k s=.ok t s'):Mv T s s':=by obtain⟨h,d,j⟩:=oZ e;subst j;rw[h]at d ⊢;exact rq H w (by rw[d];exact q)
def j4{T:List aR}(H:iy T){s s':aI}{n:Int}(j:s.p<T.length)(d:dm T s=.ok n s'):Mv T s s'/\0<=n:=by obtain⟨t,k,e,h⟩:=cL d;cases h;exact⟨dW H j (by decide) e,Int.natCast_nonneg _⟩
def th{T:List aR}(H:iy T){s s':aI}{A:aU}(L:s.p<T.length)(B:ic T s=.ok A s'):Mv T s s'/\bo A=true:=by
 obtain⟨t,P,C,D⟩:=cL B;obtain⟨S,z,E,j⟩:=cL D;have w:=dW H L (by decide) C;have d:=w.tr (dW H w.l (by decide) E);split at j
 .cases j
 .obtain ⟨V,s3,k,F⟩:=cL j;obtain⟨n,Q,G,I⟩:=cL F;obtain⟨_,O,K,h⟩:=cL I;have x:s3.p<T.length/\(s3=z\/Mv T z s3):=by
   split at k
   .have:=(j4 H d.l k).1;exact⟨this.l,.inr this⟩
   .cases k;exact⟨d.l,.inl rfl⟩
  have y:=(j4 H x.1 G).1;have q:=y.tr (dW H y.l (by decide) K);have N:Mv T s O:=by
   rcases x.2 with e|e
   .rw [e]at q;exact d.tr q
   .exact (d.tr e).tr q
  split at h
  .rename_i M;cases h;exact⟨N,M⟩
  .cases h
def XK{T:List aR}(H:iy T){s s':aI}{r:List UInt8}(j:s.p<T.length)(e:pa T s=.ok r s'):Mv T s s':=by
 obtain⟨t,k,h,d⟩:=cL e;split at d
 .cases d;exact dW H j (by decide) h
 .cases d
structure iZ(T:List aR)(s s':aI):Prop where
 l:s'.p<T.length
 p:s.p<=s'.p
 t:s.tm<=s'.tm/\s'.tm<=65536
 g:∃r,s'.g=s.g++r
 v:Vg s'.g
def iZ.tr{T:List aR}{a b c:aI}(e:iZ T a b)(d:iZ T b c):iZ T a c:=⟨d.l,bp e.p d.p,⟨bp e.t.1 d.t.1,d.t.2⟩,by
 obtain⟨r,h⟩:=e.g;obtain⟨k,j⟩:=d.g;exact⟨r++k,by rw[j,h,List.append_assoc]⟩,d.v⟩
def iZ.len{T:List aR}{a b:aI}(e:iZ T a b):a.g.length<=b.g.length:=by obtain⟨r,d⟩:=e.g;rw[d,b'];omega
def Mv.go{T:List aR}{s s':aI}(d:Mv T s s')(e:s.tm<=65536)(h:Vg s.g):iZ T s s':=⟨d.l,Nat.le_of_lt d.p,by rw[d.t];exact⟨be _,e⟩,⟨[],by rw[d.g,cP]⟩,by rw[d.g];exact h⟩
def Nl{n:Nx}:∀{g:List Nx} {i k:Nat},e5 n g i=some k->k<i+g.length
 |[],i,k,d=>by cases d
 |e::g,i,k,d=>by
  unfold e5 at d;split at d
  .cases d;simp
  .have:=Nl d;rw[cT];omega
def tX{T:List aR}{s s':aI}{n:Nx}{t:aR}{k:Nat}(x:Vg s.g)(q:s.p<T.length)(w:s.tm<=65536)(j:eR s n t=.ok k s'):iZ T s s'/\k<s'.g.length:=by
 unfold eR at j;split at j
 .rename_i d;cases j;unfold b6 at d ⊢;split at d
  .rename_i e;exact absurd d e
  .rename_i e;rw[ab e];split at d
   .rename_i i h;try rw[h]
    refine⟨⟨q,be _,⟨be _,w⟩,⟨[],(cP _).symm⟩,x⟩,?_⟩;have:=Nl h;show(i:Int).toNat<s.g.length;omega
   .rename_i h;try rw[h]
    split at d
    .cases d
    .rename_i y;rw[ab y];refine⟨⟨q,be _,⟨be _,w⟩,⟨_,rfl⟩,?_⟩,by show((s.g.length:Int)).toNat<(s.g++[_]).length;simp⟩;have e:(bF s.g n).2=0:=Classical.byContradiction e;exact .snoc x (B9 (by rw[<-e])) (xw h)
 .cases j
structure ei(E:bS)(g:List Nx):Prop where
 T:iy E.T
 vs:∀q∈E.vs,q.2<g.length
 pm:∀q∈E.pm,q.2<g.length
 ms:∀q∈E.ms,q.2.ix<E.ms.length/\q.2.b<E.T.length/\(q.2.ps.map (·.1)).Nodup/\q.2.ps.length<=100000
def ei.up{E:bS}{g j:List Nx}(d:ei E g)(k:g.length<=j.length):ei E j:=⟨d.T,λh e=>q5 (d.vs h e) k,λh e=>q5 (d.pm h e) k,d.ms⟩
def ei.deep{E:bS}{g:List Nx}(d:ei E g):ei {E with dp:=E.dp+1} g:=⟨d.T,d.vs,d.pm,d.ms⟩
def jb{α:Type}:∀{l:List (List UInt8×α)} {t:List UInt8} {v:α},lk l t=some v->(t,v)∈l
 |[],_,_,d=>by cases d
 |(h,v)::l,t,u,d=>by
  unfold lk at d;split at d
  .rename_i e;cases d;rw[e];exact List.mem_cons_self
  .exact cH _ (jb d)
def VR{E:bS}{w:List UInt8}{m:PM}(d:mV E w=some m):lk E.ms w=some m/\m.ix<E.kn:=by
 unfold mV at d;split at d
 .split at d
  .cases d;exact⟨by assumption,by assumption⟩
  .cases d
 .cases d
def jt(E:bS)(tm:aI->PR Nat)(p0:Nat):Prop:=∀s n d,p0<=s.p->s.p<E.T.length->s.tm<=65536->Vg s.g->ei E s.g->tm s=.ok n d->iZ E.T s d/\s.p<d.p/\n<d.g.length
def xF{E:bS}{tm:aI->PR Nat}{p0:Nat}(A:jt E tm p0):∀(k:Nat) (s:aI) (l:List Int) (s':aI),p0<=s.p->s.p<E.T.length->s.tm<=65536->Vg s.g->ei E s.g->ho tm k s=.ok l s'->iZ E.T s s'/\l.length=k/\∀h∈l,0<=h/\h<(s'.g.length:Int)
 |0,s,l,s',_,q,w,x,_,j=>by cases j;exact⟨⟨q,be _,⟨be _,w⟩,⟨[],(cP _).symm⟩,x⟩,rfl,λh e=>by cases e⟩
 |k+1,s,l,s',C,q,w,x,z,j=>by
  obtain⟨a,B,D,F⟩:=cL j;obtain⟨I,O,G,H⟩:=cL F;cases H;obtain⟨d,N,M⟩:=A s a B C q w x z D;obtain⟨y,L,K⟩:=xF A k B I _ (by omega) d.l d.t.2 d.v (z.up d.len) G;refine⟨d.tr y,by rw[cT,L],λh e=>?_⟩;have:=y.len;rcases aE.1 e with rfl|e
  .omega
  .exact K h e
def Im{T:List aR}(H:iy T){w:List UInt8}{s s':aI}{y:Nx×Nat}(j:s.p<T.length)(e:i7 T w s=.ok y s'):Mv T s s'\/s'=s:=by
 unfold i7 at e;split at e
 .obtain ⟨u,k,d,h⟩:=cL e;obtain⟨n,z,q,x⟩:=cL h;cases x;have m:=(j4 H j d).1;exact .inl (m.tr (j4 H m.l q).1)
 split at e
 .obtain ⟨u,k,d,h⟩:=cL e;cases h;exact .inl (th H j d).1
 split at e
 .obtain ⟨u,k,d,h⟩:=cL e;obtain⟨n,z,q,x⟩:=cL h;cases x;have m:=(j4 H j d).1;exact .inl (m.tr (j4 H m.l q).1)
 split at e
 .obtain ⟨u,k,d,h⟩:=cL e;cases h;exact .inl (j4 H j d).1
 split at e
 .obtain ⟨u,k,d,h⟩:=cL e;cases h;exact .inl (j4 H j d).1
 split at e
 .obtain ⟨u,k,d,h⟩:=cL e;cases h;exact .inl (j4 H j d).1
 split at e
 .obtain ⟨u,k,d,h⟩:=cL e;cases h;exact .inl (XK H j d)
 .cases e;exact .inr rfl
def Me{E:bS}{tm:aI->PR Nat}{p0:Nat}(q:jt E tm p0){w:List UInt8}{s s':aI}{n:Nx}(z:p0<=s.p)(k:s.p<E.T.length)(h:s.tm<=65536)(x:Vg s.g)(e:ei E s.g)(y:jc E.T tm w s=.ok n s'):iZ E.T s s':=by
 obtain⟨D,G,A,B⟩:=cL y;obtain⟨F,H,j,C⟩:=cL B;cases C;rcases Im e.T k A with m|rfl
 .have d:=m.go h x;exact d.tr (xF q _ _ _ _ (by have:=m.p;omega) m.l (by rw[m.t];exact h) d.v (e.up d.len) j).1
 .exact (xF q _ _ _ _ z k h x e j).1
def Ay{g:List Nx}:∀{ps:List (List UInt8×aU)} {az:List Int},(∀h∈az,0<=h/\h<(g.length:Int))->∀e∈i3 ps az,e.2<g.length
 |[],_,_,e,d=>by cases d
 |(p,_)::ps,[],_,e,d=>by cases d
 |(p,_)::ps,a::az,j,e,d=>by
  have d:e∈(p,a.toNat)::i3 ps az:=d;rcases aE.1 d with rfl|d
  .have:=j a List.mem_cons_self;show a.toNat<g.length;omega
  .exact Ay (λh k=>j h (cH _ k)) e d
def F4{tm:bS->aI->PR Nat}{E:bS}{p0:Nat}(G:∀d,d.T=E.T->d.ms=E.ms->d.kn<E.kn->jt d (tm d) 0){m:PM}{w:List UInt8}(D:mV E w=some m){az:List Int}{s s':aI}{n:Nat}(F:s.p<E.T.length)(H:s.tm<=65536)(I:Vg s.g)(e:ei E s.g)(z:∀k∈az,0<=k/\k<(s.g.length:Int))(q:iD tm E m az s=.ok n s'):iZ E.T s s'/\n<s'.g.length/\s'.p=s.p:=by obtain⟨C,B⟩:=VR D;obtain⟨j,K,x,y⟩:=cL q;cases y;have A:=e.ms _ (jb C);obtain⟨h,_,j⟩:=G {E with pm:=i3 m.ps az,kn:=m.ix} rfl rfl B {s with p:=m.b} n K (dc _) A.2.1 H I ⟨e.T,e.vs,Ay z,e.ms⟩ x;exact⟨⟨F,be _,h.t,h.g,h.v⟩,j,rfl⟩
def Zs{tm:bS->aI->PR Nat}{E:bS}{s:aI}(O:∀j,j.T=E.T->j.ms=E.ms->j.vs=E.vs->j.kn=E.kn->jt j (tm j) (s.p+1))(N:∀j,j.T=E.T->j.ms=E.ms->j.kn<E.kn->jt j (tm j) 0){n:Nat}{s':aI}(P:s.p<E.T.length)(ae:s.tm<=65536)(hv:Vg s.g)(x:ei E s.g)(d:ji tm E s=.ok n s'):iZ E.T s s'/\s.p<s'.p/\n<s'.g.length:=by
 unfold ji at d;dsimp only at d;split at d
 .cases d
 rename_i B;have w:(aW E.T s.p).kind≠6:=λZ=>B (.inr (.inr Z));split at d
 .cases d
 rename_i ad;have V:=rq x.T P w;obtain⟨y,A⟩:∃y:aI,y={cK (aW E.T s.p) s with tm:=s.tm+1}:=⟨_,rfl⟩;have p1:y.p=s.p+1:=by rw[A];unfold cK;rw[ab w]
 have C:y.g=s.g:=by rw[A];exact V.g
 have t1:y.tm=s.tm+1:=by rw[A]
 have e:iZ E.T s y:=⟨by rw[p1];exact x.T.nx P w,by omega,by omega,⟨[],by rw[C,cP]⟩,by rw[C];exact hv⟩;rw[<-A]at d;clear A V;have H:ei E y.g:=by rw[C];exact x
 split at d
 .
  unfold mY at d;split at d
  .rename_i ac B;cases d;exact⟨e,by omega,H.pm _ (jb B)⟩
  split at d
  .rename_i ac B;cases d;exact⟨e,by omega,H.vs _ (jb B)⟩
  split at d
  .rename_i m K;split at d
   .obtain ⟨a,b,c⟩:=F4 (p0:=0) N K e.l e.t.2 e.v H (λY L=>by cases L) d;exact⟨e.tr a,by omega,b⟩
   .cases d
  .cases d
 split at d
 .obtain ⟨a,b⟩:=tX e.v e.l e.t.2 d;exact⟨e.tr a,by have:=a.p;omega,b⟩
 split at d
 .obtain ⟨a,b⟩:=tX e.v e.l e.t.2 d;exact⟨e.tr a,by have:=a.p;omega,b⟩
 unfold mH at d;split at d
 .cases d
 obtain⟨af,W,h1,z⟩:=cL d;have S:=dW x.T e.l (by decide) h1;have q:=e.tr (S.go e.t.2 e.v);have I:ei {E with dp:=E.dp+1} W.g:=(x.up q.len).deep;have Q:s.p+1<=W.p:=by have:=S.p;omega
 split at z
 .obtain ⟨nd,s3,D,F⟩:=cL z;obtain⟨_,s4,G,w⟩:=cL F;have k:=Me (E:={E with dp:=E.dp+1}) (O {E with dp:=E.dp+1} rfl rfl rfl rfl) Q q.l q.t.2 q.v I D;have M:=dW x.T k.l (by decide) G;have h:=M.go k.t.2 k.v;obtain⟨a,b⟩:=tX h.v h.l h.t.2 w;refine⟨q.tr (k.tr (h.tr a)),?_,b⟩;have:=k.p;have:=h.p;have:=a.p;omega
 .unfold rH at z;split at z
  .cases z
  rename_i m K;obtain⟨az,s3,D,F⟩:=cL z;obtain⟨_,s4,G,w⟩:=cL F;obtain⟨k,hlen,aa⟩:=xF (E:={E with dp:=E.dp+1}) (O {E with dp:=E.dp+1} rfl rfl rfl rfl) _ _ _ _ Q q.l q.t.2 q.v I D;have M:=dW x.T k.l (by decide) G;have h:=M.go k.t.2 k.v;split at w
  .obtain ⟨a,b,c⟩:=F4 (p0:=0) (E:={E with dp:=E.dp+1}) N K h.l h.t.2 h.v ((I.up k.len).up h.len) (λY L=>by have:=aa Y L;have:=h.len;omega) w;refine⟨q.tr (k.tr (h.tr a)),?_,b⟩;have:=k.p;have:=h.p;omega
  .cases w
def v7:∀(f:Nat) (E:bS),jt E (fQ f E) 0
 |0,E=>λs n h _ _ _ _ _ e=>by cases e
 |f+1,E=>λs n h _ k q w j e=>Zs (λd _ _ _ _=>λs n h _=>v7 f d s n h (dc _)) (λd _ _ _=>v7 f d) k q w j e
namespace MO
noncomputable abbrev t0:=aA U Tryz.f40 [] []
def ok:=aF t0 KL []
end MO
namespace sO
noncomputable abbrev t0:=aA U Tryz.f16 [(1,(.sq [0,1] (.fork (.sq [2] (.fork (ls [3,4,5,6,7]) (ls [4,3,5,6,7]))) (.fork (.sq [3] (.fork (ls [2,4,5,6,7]) (ls [4,2,5,6,7]))) (.sq [4] (.fork (ls [2,3,5,6,7]) (ls [3,2,5,6,7]))))))),(5,ls [0,1,2,3,4,5,6,7,8,9,10,11])] [3]
noncomputable def b5:=bu t0 [0,1,1,1,2] [(3,.l [.s] lM),(5,.v [.r]),(16,.v [.s]),(17,.v [.I]),(18,.v [.I])]
noncomputable abbrev t1:=bt b5
def dy:=bH t1 b5
noncomputable abbrev aX:=ai t1 [2] [(3,.l [.s] lM),(5,.v [.r])]
noncomputable abbrev t2:=ak aX
def au:=aF t2 KK [.s,.a 1,.s]
end sO
namespace MT
noncomputable abbrev t0:=aA U Tryz.f76 [] [5]
noncomputable abbrev aX:=ai t0 [0,1,1,1,1,1,1] []
noncomputable abbrev t1:=ak aX
noncomputable abbrev bb:=ai t1 [2] [(0,.v [.r]),(1,.v [.st])]
noncomputable abbrev t2:=ak bb
def au:=aF t2 KM [.r,.st]
end MT
namespace MR
noncomputable abbrev t0:=aA U Tryz.f45 [] [5] (some [])
def au:=aF t0 iL [.r,.I,.a 3,.I,.st,.I]
end MR
namespace MY
noncomputable abbrev t0:=aA U Tryz.f43 [(1,ls [0,1,2,3,4,5,6,7,8,9,10,11])] [2,3]
noncomputable abbrev aX:=ai t0 [3] [(2,.l [.I,.st,.I] cX),(3,.l [.I,.st,.I] cX)]
noncomputable abbrev t1:=ak aX
def au:=aF t1 KO [.r]
end MY
namespace M0
noncomputable abbrev t0:=aA U Tryz.f44 [] [3] (some [iL])
noncomputable abbrev aX:=ai t0 [2] [(0,.v [.r]),(3,.l [.I,.st,.I] cX)]
noncomputable abbrev t1:=ak aX
def au:=aF t1 nV [.r,.a 3,.I,.st,.I]
end M0
namespace MW
noncomputable abbrev t0:=aA U Tryz.f20 [] [4,5] (some [nV])
noncomputable abbrev aX:=ai t0 [3] [(4,.l [.I,.st,.I] cX),(5,.l [.I,.st,.I] cX)]
noncomputable abbrev t1:=ak aX
def au:=aF t1 kK [.r,.I]
end MW
namespace MS
noncomputable abbrev t0:=aA U Tryz.f102 [] [3] (some [kK,iL])
noncomputable abbrev aX:=ai t0 [4] [(4,.v [.I])]
noncomputable abbrev t1:=ak aX
def au:=aF t1 oX [.r]
end MS
namespace vr
noncomputable abbrev t0:=aA U Tryz.f103 [] [2,3,4,5] (some [kK,nV,iL,oX])
noncomputable abbrev cv:=ai t0 [9] [(2,.l [.I,.I,.I] bR),(5,.l [.I,.I,.I] bR)]
noncomputable abbrev t1:=ak cv
abbrev P0:Ps:=[(0,.v [.r]),(2,.l [.I,.I,.I] bR),(3,.l [.I,.st,.I] cX),(5,.l [.I,.I,.I] bR)]
noncomputable abbrev bA:=ai t1 [6] P0
noncomputable abbrev t2:=ak bA
noncomputable abbrev bb:=ai t2 [0,1,1,1,5] P0
noncomputable abbrev t3:=ak bb
noncomputable abbrev aX:=ai t3 [5] P0
noncomputable abbrev t4:=ak aX
def au:=aF t4 vh [.r]
end vr
namespace DD
noncomputable abbrev t0:=aA U Tryz.f48 [(1,(.sq [0,1,2,3,4] (.fork (ls [5,6,7,8,9,10,11,12,13]) (ls [10,5,6,7,8,9,11,12,13]))))] [4,5,7] (some [iL])
noncomputable abbrev bb:=ai t0 [3] [(0,.v [.r]),(7,.l [.s] lM),(8,.v [.I])]
noncomputable abbrev t1:=ak bb
noncomputable abbrev aX:=ai t1 [2] [(0,.v [.r]),(5,.l [.I,.st,.I] cX),(7,.l [.s] lM),(8,.v [.I]),(9,.v [.I])]
noncomputable abbrev t2:=ak aX
def au:=aF t2 sA [.r,.a 9,.I,.s,.I,.I,.U,.st,.I,.I,.I,.a 3,.I,.st,.I]
end DD
namespace MV
noncomputable abbrev t0:=aA U Tryz.f46 [(1,ls [0,1,2,3,4,5,6,7,8,9,10,11]),(4,ls [0,1,2,3,4,5,6,7,8,9,10,11])] [3,9] (some [iL,yc])
noncomputable abbrev bb:=ai t0 [5] [(0,.v [.r]),(9,.l [.s,.I,.I] il)]
noncomputable abbrev t1:=ak bb
noncomputable abbrev aX:=ai t1 [0,1,1,1,4] [(0,.v [.r]),(3,.l [.I,.st,.I] cX),(9,.l [.s,.I,.I] il)]
noncomputable abbrev t2:=ak aX
def au:=aF t2 CD [.r,.a 3,.I,.st,.I]
end MV
namespace DG
noncomputable abbrev t0:=aA U Tryz.f47 [] [3] (some [iL,sA])
noncomputable abbrev bb:=ai t0 [5] [(0,.v [.r]),(3,.l [.I,.st,.I] cX),(6,.v [.I]),(7,.v [.U])]
noncomputable abbrev t1:=ak bb
noncomputable abbrev aX:=ai t1 [3] [(0,.v [.r]),(3,.l [.I,.st,.I] cX),(5,.v [.I]),(6,.v [.I])]
noncomputable abbrev t2:=ak aX
def au:=aF t2 CF [.r,.a 3,.I,.st,.I]
end DG
namespace yE
noncomputable abbrev t0:=aA U Tryz.f104 [] [3,4] (some [kK,iL])
noncomputable abbrev bA:=ai t0 [7] [(7,.v [.st])]
noncomputable abbrev t1:=ak bA
noncomputable abbrev bb:=ai t1 [6] [(0,.v [.r]),(3,.l [.I,.st,.I] cX),(6,.v [.I]),(7,.v [.st])]
noncomputable abbrev t2:=ak bb
noncomputable abbrev aX:=ai t2 [4] [(0,.v [.r]),(3,.l [.I,.st,.I] cX),(4,.l [.I,.Y,.Y,.s] aO),(6,.v [.I])]
noncomputable abbrev t3:=ak aX
def au:=aF t3 CG [.r]
end yE
namespace MU
noncomputable abbrev t0:=aA U Tryz.f72 [(2,ls [0,1,2,3,4,5,6,7,8,9,10,11,12])] [4,6]
def au:=aF t0 KN [.r,.st]
end MU
namespace qE
noncomputable abbrev t0:=aA U Tryz.f73 [(1,ls [0,1,2,3,4,5,6,7,8,9,10,11,12,13,14]),(2,(.sq [0,1,2,3,4,6,7,8,9] (.fork (ls [5,10,11,12,13,14,15,16]) (ls [10,5,11,12,13,14,15,16])))),(6,ls [0,1,2,3,4,5,6,7,8,9,10])] [4,11] (some [oY])
noncomputable def b5:=bu t0 [0,1,1,1,3] [(0,.v [.r]),(2,.v [.s]),(7,.v [.I]),(8,.v [.m]),(9,.v [.I]),(40,.v [.s]),(41,.v [.I]),(42,.v [.I])]
noncomputable abbrev t1:=bt b5
def dy:=bH t1 b5
noncomputable abbrev aX:=ai t1 [3] [(0,.v [.r]),(2,.v [.s]),(4,.l [.s,.I,.I] il),(7,.v [.I]),(8,.v [.m]),(9,.v [.I])]
noncomputable abbrev t2:=ak aX
def au:=aF t2 yc [.r,.a 3,.s,.I,.I,.s]
end qE
namespace n4
noncomputable abbrev t0:=aA U Tryz.f78 [(14,ls [0,1,2,3,4,5,6,7,8,9,10,11,12,13,14])] [4,5,7,12] (some [oY,kK,iL,yc])
noncomputable def b5:=bu t0 [0,1,1,1,4] [(0,.v [.r]),(4,.l [.I,.st,.I] cX),(7,.l [.s,.I,.I] il),(9,.v [.s]),(30,.v [.I]),(31,.v [.I])]
noncomputable abbrev t1:=bt b5
abbrev P0:Ps:=[(0,.v [.r]),(4,.l [.I,.st,.I] cX),(7,.l [.s,.I,.I] il),(9,.v [.s]),(43,.v [.s]),(44,.v [.I]),(45,.v [.I])]
noncomputable def ku:=bu t1 [0,1,1,1,6] P0
noncomputable abbrev t2:=bt ku
noncomputable abbrev cv:=ai t2 [3,2,1,1,6] P0
noncomputable abbrev t3:=ak cv
def oB:=bH t3 ku
def dy:=bH t3 b5
noncomputable abbrev aX:=ai t3 [3] [(0,.v [.r]),(4,.l [.I,.st,.I] cX),(7,.l [.s,.I,.I] il)]
noncomputable abbrev t4:=ak aX
def au:=aF t4 Cw [.r,.a 3,.I,.st,.I,.a 3,.I,.st,.I]
end n4
namespace sQ
noncomputable abbrev t0:=aA U Tryz.f77 [(4,ls [0,1,2,3,4,5,6,7,8,9,10,11,12,13,14,15,16]),(32,ls [0,1,2,3,4,5,6,7])] [4,5] (some [oY,oX,vh,CG])
noncomputable def b5:=bu t0 [0,1,1,1,4] [(0,.v [.r]),(4,.l [.I,.s,.I,.I,.U,.st,.I,.I,.I] bI),(5,.l [.I,.s,.I,.I,.U,.st,.I,.I,.I] bI),(74,.v [.I]),(75,.v [.I])]
noncomputable abbrev t1:=bt b5
def dy:=bH t1 b5
noncomputable abbrev aX:=ai t1 [4] [(0,.v [.r]),(4,.l [.I,.s,.I,.I,.U,.st,.I,.I,.I] bI),(5,.l [.I,.s,.I,.I,.U,.st,.I,.I,.I] bI),(6,.v [.I])]
noncomputable abbrev t2:=ak aX
def au:=aF t2 CE [.r,.st]
end sQ
namespace DF
noncomputable abbrev t0:=aA U Tryz.f49 [] [3,6,7] (some [kK,iL,sA,CE,Cw])
noncomputable abbrev bb:=ai t0 [6] [(0,.v [.r]),(5,.v [.I])]
noncomputable abbrev t1:=ak bb
noncomputable abbrev aX:=ai t1 [2] [(0,.v [.r]),(3,.l [.I,.st,.I] cX)]
noncomputable abbrev t2:=ak aX
def au:=aF t2 Cz [.r,.a 3,.I,.st,.I]
end DF
namespace yG
noncomputable abbrev t0:=aA U Tryz.f19 [] [3] (some [nV,iL,CD,CF,sA,Cz])
abbrev P0:Ps:=[(0,.v [.r]),(3,.l [.I,.st,.I] cX)]
noncomputable abbrev bb:=ai t0 [4] P0
noncomputable abbrev t1:=ak bb
noncomputable abbrev aX:=ai t1 [3] P0
noncomputable abbrev t2:=ak aX
noncomputable abbrev bA:=ai t2 [2,1,1,1,2] P0
noncomputable abbrev t3:=ak bA
def au:=aF t3 oY [.r]
end yG
namespace MN
noncomputable abbrev t0:=aA U Tryz.f18 [] [] (some [oY,kK])
def ok:=aF t0 Cv [.r,.r]
end MN
namespace MM
noncomputable abbrev t0:=aA U Tryz.f6 [(9,ls [0,1,2,3,4,5,6,7,8])] [2,4]
def au:=aF t0 KJ [.a 1,.s,.st]
end MM
namespace yF
noncomputable abbrev t0:=aA U Tryz.f53 [] [2] (some [nV,Cy])
noncomputable def a0:=bu t0 [0,1] [(0,.v [.r])]
noncomputable abbrev t1:=bt a0
def bJ:=bH t1 a0
def au:=aF t1 CH [.r]
end yF
namespace sP
noncomputable abbrev t0:=aA U Tryz.f86 [(24,ls [0,1,2,3,4,5,6,7,8,9,10,11]),(29,ls [0,1,2,3,4,5,6,7,8,9,10])] [2,3,4] (some [kK,nV,iL,oX,CA,CB,CJ])
abbrev P0:Ps:=[(0,.v [.r]),(3,.l [.I,.st,.I,.I,.I,.I,.I] iW)]
noncomputable abbrev bA:=ai t0 [3] P0
noncomputable abbrev t1:=ak bA
noncomputable abbrev bb:=ai t1 [2,1,5,1,1,1,2] P0
noncomputable abbrev t2:=ak bb
noncomputable abbrev aX:=ai t2 [0,1,5,1,1,1,2] [(0,.v [.r]),(2,.l [.I,.st,.I] cX),(3,.l [.I,.st,.I,.I,.I,.I,.I] iW)]
noncomputable abbrev t3:=ak aX
noncomputable abbrev cv:=ai t3 [6,1,1,1,2] [(0,.v [.r]),(2,.l [.I,.st,.I] cX),(3,.l [.I,.st,.I,.I,.I,.I,.I] iW),(9,.v [.st])]
noncomputable abbrev t4:=ak cv
def au:=aF t4 Cy [.r]
end sP
namespace MZ
noncomputable abbrev t0:=aA U Tryz.f117 [(1,ls [0,1,2,3,4,5,6,7,8,9,10,11])] [3] (some [oY,iL])
noncomputable abbrev aX:=ai t0 [4] [(4,.v [.I])]
noncomputable abbrev t1:=ak aX
def au:=aF t1 CJ [.r]
end MZ
namespace MX
noncomputable abbrev t0:=aA U Tryz.f144 [(2,ls [0,1,2,3,4,5,6,7,8,9,10,11]),(3,ls [0,1,2,3,4,5,6,7,8,9,10,11,12])] [2,3,6] (some [kK,iL])
noncomputable abbrev bb:=ai t0 [5] [(2,.l [.I,.st,.I] cX),(3,.l [.I,.st,.I] cX)]
noncomputable abbrev t1:=ak bb
noncomputable abbrev aX:=ai t1 [0,1,1,1,4] [(0,.v [.r]),(2,.l [.I,.st,.I] cX),(3,.l [.I,.st,.I] cX)]
noncomputable abbrev t2:=ak aX
def au:=aF t2 yd [.r]
end MX
namespace MP
noncomputable abbrev t0:=aA U Tryz.f115 [(6,ls [0,1,2,3,4,5,6,7,8,9,10,11,12,13])] [3,5] (some [kK,sA,vh,yd])
def au:=aF t0 CA [.r,.a 3,.I,.st,.I]
end MP
namespace yD
noncomputable abbrev t0:=aA U Tryz.f145 [(9,ls [0,1,2,3,4,5,6,7,8,9,10])] [3,4] (some [kK,nV,iL,vh])
abbrev P0:Ps:=[(0,.v [.r]),(1,.v [.r]),(2,.v [.m])]
noncomputable def a0:=bu t0 [0,1,1] P0
noncomputable abbrev t1:=bt a0
noncomputable abbrev bA:=ai t1 [5,3,1] [(0,.v [.r]),(1,.v [.r]),(2,.v [.m]),(4,.l [.I,.st,.I] cX)]
noncomputable abbrev t2:=ak bA
noncomputable abbrev bb:=ai t2 [3,3,1] P0
noncomputable abbrev t3:=ak bb
def bJ:=bH t3 a0
def au:=aF t3 CC [.r,.r]
end yD
namespace MQ
noncomputable abbrev t0:=aA U Tryz.f116 [(11,ls [0,1,2,3,4,5,6,7])] [2] (some [kK,iL,yd,CC,CI])
noncomputable abbrev aX:=ai t0 [4] [(1,.v [.r]),(2,.l [.I,.st,.I] cX)]
noncomputable abbrev t1:=ak aX
def au:=aF t1 CB [.r]
end MQ
namespace sR
noncomputable abbrev t0:=aA U Tryz.f146 [] [3] (some [nV])
abbrev P0:Ps:=[(0,.v [.r]),(2,.v [.I])]
noncomputable def a0:=bu t0 [0,1,1] P0
noncomputable abbrev t1:=bt a0
noncomputable abbrev bb:=ai t1 [2,3,1] P0
noncomputable abbrev t2:=ak bb
noncomputable abbrev bA:=ai t2 [1,1,3,1,1,1,1,3,1] P0
noncomputable abbrev t3:=ak bA
def bJ:=bH t3 a0
def au:=aF t3 CI [.r]
end sR
namespace ML
noncomputable abbrev t0:=aA U Tryz.f28 [(8,ls [0,1,2,3,4,5,6,7,8,9,10,11])] [2]
def au:=aF t0 Cu [.st]
end ML
def xE:List Int:=[0,0,0,0,1,1,2,2,2,2,2,2,2,2,2,2,2,2,2,3,2,1,1,1,2,3,2,1,1,2,3,2,3,1,1]
abbrev cO:En:=.rd ⟨some (ad 0),35,35⟩ (xE.map ct)
def US{op:Int}(d:0<=op)(e:op<=34):xE[op.toNat]? =some (cl op):=by rcases sL d e with rfl|rfl|rfl|rfl|rfl|rfl|rfl|rfl|rfl|rfl|rfl|rfl|rfl|rfl|rfl|rfl|rfl|rfl|rfl|rfl|rfl|rfl|rfl|rfl|rfl|rfl|rfl|rfl|rfl|rfl|rfl|rfl|rfl|rfl|rfl<;>rfl
section
variable {M:Nat->Prop} {w0 w:J} {L D:List En} {bs:List Nat}
def _root_.Go.W.O.mq(H:O M w0 w L D)(i a c:Nat){b:Nat}{vs:List aa}{T:TypeId}{v:aa}{K:J->Prop}(hi:L[i]? =some (.c b vs T))(z:∀k,O M w0 k (L.set i (.c b (vs.set (a+c) v) T)) D->K k)(j:a+c<vs.length:=by simp[gl])(h:∀b∈bs,En.g b∈L:=by simp):
  aJ w (((ad b).add a).add c) v λq=>kept bs w q/\K q:=by rw[add_add];obtain⟨A,B,E,C⟩:=y9 (H.ob i hi) (a+c) (by simpa using j) v;obtain⟨_,_,y⟩:=H.set (v:=v) i (a+c) hi j;refine⟨A,B,λd e=>?_,z _ y⟩;refine C.ck d (H.own _ (h d e)) λx=>?_;have:=xv H hi (AL w b vs T) (h d e);exact this (by rw[x];exact pP.2 rfl)
def _root_.Go.W.O.gT(H:O M w0 w L D)(i a:Nat){b:Nat}{vs:List aa}{T:TypeId}{v:aa}{K:J->Prop}(hi:L[i]? =some (.c b vs T))(h:∀d,O M w0 d (L.set i (.c b (vs.set a v) T)) D->K d)(k:a<vs.length:=by simp[gl])(j:∀b∈bs,En.g b∈L:=by simp):
  aJ w ((ad b).add a) v λe=>kept bs w e/\K e:=by
 have:=H.mq (v:=v) (K:=K) i a 0 hi h k j
 rwa[iz]at this
end
def YJ{g:List Nx}{n:Nx}(e:(cl n.op==(n.kids.length:Int)&&n.kids.all (eu g)&&hq n)=true)(h:¬n.op<=3):bF g n=if h5 n (bx g n 0) (bx g n 1) (bx g n 2)≠0 then(bg,h5 n (bx g n 0) (bx g n 1) (bx g n 2))else(hx n (bx g n 0) (bx g n 1) (bx g n 2),0):=by
 unfold bF h5;rw[e,ab (by simp),ab h];generalize cR n.op (bx g n 0) (bx g n 1) (bx g n 2)=a;generalize ie n (bx g n 0) (bx g n 1) (bx g n 2)=b;cases a
 .rfl
 .cases b
  .rfl
  .by_cases d:n.op=33/\kD n.tx=false
   .simp [d]
   .simp [d]
def Vf{g:List Nx}{n:Nx}(d:(bQ g n).2≠0):bQ g n=(bg,(bQ g n).2):=by
 unfold bQ at d ⊢;split
 .split
  .rfl
  .rename_i e w;rw[ag e,ab w]at d;exact absurd rfl d
 .rename_i e;rw[ab e]at d;split
  .rfl
  .rename_i h;rw[ab h]at d;split
   .rfl
   .rename_i j;rw[ab j]at d;split
    .rfl
    .rename_i k;rw[ab k]at d;split
     .rfl
     .rename_i q;rw[ab q]at d;split
      .rfl
      .rename_i x;rw[ab x]at d;exact absurd rfl d
structure jW(d:Nx):Prop where
 kl:d.kids.length<=1000000000
 n:dx d.n
 m:dx d.m
 u:0<=d.u
 tx:d.op=33->pE d.tx
abbrev uo(a b c:aU):List aa:=gl a++gl b++gl c
def my(g:List Nx)(n:Nx)(i j:Nat):aU:=if j<i then bx g n j else bg
def U2{g:List Nx}{n:Nx}{j:Nat}(d:n.kids.length<=j):bx g n j=bg:=by unfold bx;rw[List.getElem?_eq_none d]
def U1{l:List Nd}{n:Nx}{i:Nat}{k:Int}{e:Nd}(h:n.kids[i]? =some k)(d:l[k.toNat]? =some e):bx (xs l) n i=e.x.st:=by unfold bx;rw[h];dsimp only;rw[ou d]
def U0{g:List Nx}{n:Nx}(h:∀d∈g,bo d.st=true)(j:Nat):ox (bx g n j):=by
 unfold bx;split
 .split
  .rename_i e;exact ZQ (h _ (aB e))
  .exact L'
 .exact L'
def Zm{w:J}{s:Sl}{l:List Nd}{d:Nd}{D:List En}(lk:Fv)(H:O F0 w w [] (.gr s l::cg d::cO::D))(hc:gI U lk.n=true)(hl:∀A:J,(∀e∈D,e.P A)->aj U lk.n (lk.bs++#[.string d.x.tx]++lk.cs) A λr aN=>r=oT (xs l) d.x.tx/\ah A aN)(ho:jW d.x)(aX:l.length<=1000000000)(hv:∀e∈xs l,bo e.st=true):
  aj U LD #[s.v,d.v,lk.v] w λr A=>r=gk (bF (xs l) d.x)/\ah w A:=by
 have hn:=h6 (bc.1 (H.getD 0));have aB:(xs l).length=l.length:=by simp[xs]
 have aW:d.ks.n=d.x.kids.length:=bW.len (H.getD 1);have aR:=ho.kl;refine po.au s _ _ _ _ _ _ _ _ _ lk w _ (H.nw λw1 _ H1=>H1.ay λN w2 H2=>H2.af λQ I=>?_);have y:∀{G:J} {L:List En},O F0 w G (.c w.heap.size d.c bI::L) (.gr s l::cg d::cO::D)->dF G (ad w.heap.size) d:=λH=>CY (H.ob 0);have I:O F0 w Q [.c w.heap.size d.c bI,.g N] (.gr s l::cg d::cO::D):=I;have fail:(cl d.x.op==(d.x.kids.length:Int)&&d.x.kids.all (eu (xs l))&&hq d.x)=false->∀{G:J} {L:List En} {bs:List Nat},O F0 w G L (.gr s l::cg d::cO::D)->(∀b∈bs,En.g b∈L)->loc bs G λM=>(λr A=>r=gk (bF (xs l) d.x)/\ah w A) (ae (.tuple #[.agg #[.i 0,.i 0,.i 0],.i 1])) M:=λZ _ _ _ B hb=>B.af (λM C=>⟨by unfold bF;rw[ag Z];rfl,C.fr⟩) hb;have kN:∀op:Int,op<0\/34<op->cl op=-1:=λop aD=>by unfold cl;rw[ag aD]
 refine⟨_,(y I).c0,aS (λh0=>fail ?_ I (by simp)) (λh0=>⟨_,(y I).c0,aS (λaF=>fail ?_ I (by simp)) (λaF=>⟨_,(y I).c1,_,(y I).c0,by omega,by show d.x.op<35;omega,cl d.x.op,?_,bY (λak=>fail ?_ I (by simp)) (λan=>?_)⟩)⟩)⟩
 .rw [kN _ (.inl h0),beq_eq_false_iff_ne.2 (by omega)];rfl
 .rw [kN _ (.inr (by omega)),beq_eq_false_iff_ne.2 (by omega)];rfl
 .have hk:bW Q ⟨some (ad 0),35,35⟩ xE:=I.getD 2;exact(show W.dJ (some (ad 0)) λp=>Q.cell? (p.add (a1 d.x.op *1))=some (.int .i64 (cl d.x.op))from hk.cell (US (by omega) (by omega)) rfl λp _ hc=>hc)
 .rw [beq_eq_false_iff_ne.2 (by omega)];rfl
 have aK:(cl d.x.op==(d.x.kids.length:Int))=true:=by rw[beq_iff_eq];omega
 have aQ:d.x.kids.length<=3:=by
  have:cl d.x.op<=3:=by unfold cl;repeat' split<;>omega
  omega
 refine I.nw λw4 _ H4=>⟨_,(y H4).c1,?_⟩;have loop:∀(m i:Nat) (G:J),i+m=d.x.kids.length->d.x.kids.all (eu (xs l))=(d.x.kids.drop i).all (eu (xs l))->O F0 w G [.c w.heap.size d.c bI,.g N,.c Q.heap.size (uo (my (xs l) d.x i 0) (my (xs l) d.x i 1) (my (xs l) d.x i 2)) zw] (.gr s l::cg d::cO::D)->
   po.b5 s lk (ad w.heap.size) N 0 0 0 (ad Q.heap.size) ((d.ks.n:Nat):Int) (i:Int) G λr A=>r=gk (bF (xs l) d.x)/\ah w A:=by
  intro m;induction m with
  |zero=>
   intro i G hi V B;rw[de (by omega)]at V;have e0:∀F,my (xs l) d.x i F=bx (xs l) d.x F:=λF=>by
    unfold my;split
    .rfl
    .exact (U2 (by omega)).symm
   rw[e0,e0,e0]at B;refine po.dy _ _ _ _ _ _ _ _ _ _ _ _ (aV (aP (by omega)) (B.av (Zf (y B)) ?_));rintro _ M rfl C;refine⟨_,rfl,ey (λZ=>fail (by rw[Z,Bool.and_false]) C (by simp)) (λZ=>C.ay λai Y h=>?_)⟩;have aq:(cl d.x.op==(d.x.kids.length:Int)&&d.x.kids.all (eu (xs l))&&hq d.x)=true:=by rw[aK,V,Z];rfl
   have h:O F0 w Y [.c w.heap.size d.c bI,.g N,.c Q.heap.size (uo (bx (xs l) d.x 0) (bx (xs l) d.x 1) (bx (xs l) d.x 2)) zw,.g ai] (.gr s l::cg d::cO::D):=h;have fin:∀(T:aU) (E:Int) (t:aU) (e:Int) (j:J),bF (xs l) d.x=(if E≠0 then(bg,E)else(T,0))->e=E->(E=0->t=T)->O F0 w j [.c w.heap.size d.c bI,.g N,.c Q.heap.size (uo (bx (xs l) d.x 0) (bx (xs l) d.x 1) (bx (xs l) d.x 2)) zw,.g ai] (.gr s l::cg d::cO::D)->
     loc [N,ai] j λw9=>po.cv N 0 0 0 ai t.k t.n t.x e w9 λr A=>r=gk (bF (xs l) d.x)/\ah w A:=by intro T E t e j hs z K q;subst z;refine q.af λw9 H9=>bY (λak=>H9.af λaO am=>⟨by rw[hs,ag ak];rfl,am.fr⟩) (λh0=>H9.af λaO am=>⟨?_,am.fr⟩);rw[hs,ab (by omega),K h0]
   have aC:d.x.op<=3->bF (xs l) d.x=(if(bQ (xs l) d.x).2≠0 then(bg,(bQ (xs l) d.x).2)else((bQ (xs l) d.x).1,0)):=λh3=>by
    unfold bF;rw[aq,ab (by simp),ag h3];split
    .rename_i ak;exact Vf ak
    .rename_i an;rw[Decidable.not_not]at an;rw[<-an]
   have ac:=λF=>U0 (n:=d.x) hv F;refine⟨_,(y h).c0,ax (λaw=>?_) (λaw=>⟨_,(y h).c0,aS (λap=>?_) (λap=>⟨_,(y h).c0,aS (λaz=>?_) (λaz=>⟨_,(y h).c0,aS (λaA=>?_) (λaA=>?_)⟩)⟩)⟩)⟩
   .have Hv:O F0 Y Y [] (.gb (ad w.heap.size) d::D):=bO _ (by
     intro e z;rcases aE.1 z with rfl|z
     .exact y h
     .exact h.rd e (cH _ (cH _ (cH _ z))))
    refine h.av (Zo (xs l) lk Hv hc hl aw) ?_;rintro _ j ⟨t,e,rfl,z,K⟩ q;exact⟨_,_,_,_,rfl,fin _ _ t e j (aC (by omega)) z K q⟩
   .refine h.av (Zi (xs l) (y h) (by omega) ap ho.u) ?_;rintro _ j ⟨t,e,rfl,z,K⟩ q;exact⟨_,_,_,_,rfl,fin _ _ t e j (aC ap) z K q⟩
   all_goals
    have rest:=YJ aq (by omega);have S:∀(a c:Nat) (v:aa),(uo (bx (xs l) d.x 0) (bx (xs l) d.x 1) (bx (xs l) d.x 2))[a+c]? =some v->Y.cell? (((ad Q.heap.size).add a).add c)=some v:=λa c v hv=>by rw[add_add];exact h.ld 2 (a+c) rfl hv
    refine⟨by omega,by decide,(bx (xs l) d.x 0).k,(bx (xs l) d.x 0).n,(bx (xs l) d.x 0).x,S 0 0 _ rfl,S 0 1 _ rfl,S 0 2 _ rfl,by omega,by decide,(bx (xs l) d.x 1).k,(bx (xs l) d.x 1).n,(bx (xs l) d.x 1).x,S 3 0 _ rfl,S 3 1 _ rfl,S 3 2 _ rfl,by omega,by decide,(bx (xs l) d.x 2).k,(bx (xs l) d.x 2).n,(bx (xs l) d.x 2).x,S 6 0 _ rfl,S 6 1 _ rfl,S 6 2 _ rfl,?_⟩
   .refine h.av (Ze (y h) (by omega) az (ac 0) (ac 1) ho.n ho.m) ?_;rintro _ j ⟨t,e,rfl,z,K⟩ q;exact⟨_,_,_,_,rfl,fin _ _ t e j rest z K q⟩
   .refine h.av (Zd (y h) (by omega) aA) ?_;rintro _ j ⟨t,e,rfl,z,K⟩ q;exact⟨_,_,_,_,rfl,fin _ _ t e j rest z K q⟩
   .refine h.av (Zn (y h) (by omega) (by omega) (ac 0) (ac 1) (ac 2) ho.tx) ?_;rintro _ j ⟨t,e,rfl,z,K⟩ q;exact⟨_,_,_,_,rfl,fin _ _ t e j rest z K q⟩
  |succ m ih=>
   intro i G hi V B;have hg:d.x.kids[i]? =some (d.x.kids[i]'(by omega)):=a5 (by omega);rw[dk (by omega:i<d.x.kids.length),List.all_cons]at V;generalize d.x.kids[i]'(by omega)=x at hg V;have bad:eu (xs l) x=false->po.bA N 0 0 0 G λr A=>r=gk (bF (xs l) d.x)/\ah w A:=λhx=>fail (by rw[V,hx];simp) B (by simp);refine po.dy _ _ _ _ _ _ _ _ _ _ _ _ (aT (aM (by omega)) ⟨_,(y B).c1,by omega,by omega,(show bW G d.ks d.x.kids from B.getD 1).cell hg (by omega) λp hp aI=>⟨x,aI,aS (λh1=>bad ?_) (λh1=>aS (λh2=>bad ?_) (λh2=>?_))⟩⟩)
   .unfold eu;rw[aP (by omega)];rfl
   .unfold eu;rw[aP (show ¬x<((xs l).length:Int)by rw[aB];omega)];simp
   have ao:l[x.toNat]? =some (l[x.toNat]'(by omega)):=a5 (by omega);generalize l[x.toNat]'(by omega)=e at ao;have aL:=U1 hg ao;refine e4 (bc.1 (B.getD 0)) (i:=x.toNat) (by omega) ao λaZ aY c=>⟨_,_,_,c.s0,c.s1,c.s2,by omega,by show(i:Int)<3;omega,?_⟩;have aH:d.x.kids.all (eu (xs l))=(d.x.kids.drop (i+1)).all (eu (xs l)):=by rw[V];unfold eu;rw[aM (show 0<=x by omega),aM (show x<((xs l).length:Int)by rw[aB];omega)];rfl
   have al:∀M,O F0 w M [.c w.heap.size d.c bI,.g N,.c Q.heap.size (uo (my (xs l) d.x (i+1) 0) (my (xs l) d.x (i+1) 1) (my (xs l) d.x (i+1) 2)) zw] (.gr s l::cg d::cO::D)->po.b5 s lk (ad w.heap.size) N 0 0 0 (ad Q.heap.size) ((d.ks.n:Nat):Int) (aG .i64 ((i:Int)+1)) M λr A=>r=gk (bF (xs l) d.x)/\ah w A:=λM C=>by rw[bw _ (by omega)];exact ih (i+1) M (by omega) aH C
   have aJ:i=0\/i=1\/i=2:=by omega
   have up:∀F,my (xs l) d.x (i+1) F=if F=i then e.x.st else my (xs l) d.x i F:=λF=>by
    unfold my;by_cases hj:F=i
    .rw [ag hj,ag (by omega),hj,aL]
    .rw [ab hj];by_cases ar:F<i
     .rw [ag ar,ag (by omega)]
     .rw [ab ar,ab (by omega)]
   rw[up 0,up 1,up 2]at al;rcases aJ with rfl|rfl|rfl
   .exact B.gT 2 0 rfl λM C=>C.mq 2 0 1 rfl λY h=>h.mq 2 0 2 rfl λj q=>al j q
   .exact B.gT 2 3 rfl λM C=>C.mq 2 3 1 rfl λY h=>h.mq 2 3 2 rfl λj q=>al j q
   .exact B.gT 2 6 rfl λM C=>C.mq 2 6 1 rfl λY h=>h.mq 2 6 2 rfl λj q=>al j q
 exact loop d.x.kids.length 0 w4 (by omega) (by simp) H4
def Zj{w:J}{s:Sl}{l:List Nd}{b:Nat}(t:ByteArray)(q:GP w s l)(I:w.heap[b]? =some (.cells [s.v].toArray lM (0,0)))(Q:l.length<=1000000000):
  aj U CW #[.string t,.pointer (some (ad b))] w λr y=>r=oT (xs l) t/\ah w y:=by
 have S:=h6 q;have G:O F0 w w [] [.gr s l,.c b [s.v] lM]:=bO _ (by
  intro k h;simp only[aE,aZ,a2]at h;rcases h with rfl|rfl
  .exact bc.2 q
  .exact I)
 have loop:∀(m i:Nat) (e:Nat) (j:J),i+m=l.length->g8 (xs l) t=g8 ((xs l).drop i) t->O F0 w j [.g e] [.gr s l,.c b [s.v] lM]->qX.a0 t (ad b) e 0 0 0 ((s.n:Nat):Int) (i:Int) j λr y=>r=oT (xs l) t/\ah w y:=by
  intro m;induction m with
  |zero=>
   intro i e j K h d;rw[de (by simp[xs];omega)]at h;exact qX.bJ _ _ _ _ _ _ _ _ _ _ (aV (aP (by omega)) (d.af λP A=>⟨by unfold oT;rw[h];rfl,A.fr⟩))
  |succ m N=>
   intro i e j K h d;have z:l[i]? =some (l[i]'(by omega)):=a5 (by omega);have M:(xs l).drop i=(l[i]'(by omega)).x::(xs l).drop (i+1):=by rw[dk (by simp[xs];omega:i<(xs l).length)];simp[xs]
   rw[M]at h;generalize l[i]'(by omega)=k at z h;have F:g8 (xs l) t=if k.x.op=0/\k.x.tx=t then some k.x.st else g8 ((xs l).drop (i+1)) t:=h;have E:¬(k.x.op=0/\k.x.tx=t)->qX.bb t (ad b) e 0 0 0 ((s.n:Nat):Int) (i:Int) j λr y=>r=oT (xs l) t/\ah w y:=λL=>by show qX.a0 t (ad b) e 0 0 0 ((s.n:Nat):Int) (aG .i64 ((i:Int)+1)) j _;rw[bw _ (by omega)];exact N (i+1) e j (by omega) (by rw[F,ab L]) d
   refine qX.bJ _ _ _ _ _ _ _ _ _ _ (aT (aM (by omega)) ⟨s,d.dB 1 0,e4 (bc.1 (d.getD 0)) rfl z λp T c=>⟨_,c.c0,ax (λC=>⟨s,d.dB 1 0,e4 (bc.1 (d.getD 0)) rfl z λY V H=>⟨_,H.c5,y6 (λD=>⟨s,d.dB 1 0,e4 (bc.1 (d.getD 0)) rfl z λZ W B=>⟨_,_,_,B.s0,B.s1,B.s2,d.af λP A=>⟨?_,A.fr⟩⟩⟩) (λD=>E λq=>D q.2)⟩⟩) (λC=>E λq=>C q.1)⟩⟩);unfold oT;rw[F,ag ⟨C,D⟩]
 exact qX.au t _ w _ (G.ay λe j d=>⟨s,d.dB 1 0,loop l.length 0 e j (by omega) (by simp) d⟩)
def Ph{w:J}{s:Sl}{l:List Nd}{d:Nd}(H:GP w s l)(hd:d.P w)(I:cO.P w)(K:jW d.x)(k:l.length<=1000000000)(L:∀j∈xs l,bo j.st=true):
  aj U Lq #[.agg #[s.v],d.v] w λr y=>r=gk (bF (xs l) d.x)/\ah w y:=by
 have A:O F0 w w [] [.gr s l,cg d,cO]:=bO _ (by
  intro j h;simp only[aE,aZ,a2]at h;rcases h with rfl|rfl|rfl
  .exact bc.2 H
  .exact hd
  .exact I)
 refine Pu.au _ _ _ _ _ _ _ _ _ _ w _ (A.nw λQ _ B=>B.ay λM S C=>C.ay λN z e=>⟨s,e.ld 0 0,?_⟩);have G:O F0 z z [] [.gr s l,cg d,cO,.gr s l,.c w.heap.size [s.v] lM]:=bO _ (by
  intro j h;simp only[aE,aZ,a2]at h;rcases h with rfl|rfl|rfl|rfl|rfl
  .exact e.getD 0
  .exact e.getD 1
  .exact e.getD 2
  .exact e.getD 0
  .exact e.get 0)
 refine e.av (Zm (D:=[.gr s l,.c w.heap.size [s.v] lM]) ⟨CW,#[],#[.pointer (some (ad w.heap.size))]⟩ G (by kernel_rfl) (λy q=>?_) K k L) ?_
 .exact Zj d.x.tx (bc.1 (q (.gr s l) (by simp))) (q (.c w.heap.size [s.v] lM) (by simp)) k
 .rintro _ T rfl E;exact⟨_,_,_,_,rfl,E.af λV F=>⟨rfl,F.fr⟩⟩
end Go.Proofs.YtahmokchdhengaaGreatDoor
