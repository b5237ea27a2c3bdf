import Derived.Test.YtnaglpcbkhjpnabGreatDoorE3
import Derived.Test.YtnaglpcbkhjpnabGreatDoorN6
import Derived.Test.YtnaglpcbkhjpnabGreatDoorPN
import Derived.Test.YtnaglpcbkhjpnabGreatDoorU
set_option linter.unusedVariables false
set_option maxRecDepth 100000
set_option maxHeartbeats 1000000
set_option linter.defProp false
noncomputable section
namespace Go.Proofs.YtnaglpcbkhjpnabGreatDoor
open Go renaming World->J,Calls->ai,Value->aa,Ending->bW
open Go.IntKind renaming wrap->aj
open _root_.Int renaming toNat->a0,tdiv->bQ,tmod->cw,toNat_natCast->bB
open _root_.ByteArray renaming mk->bn
open Go.IntWalk renaming i64_in->aQ
open _root_.Nat renaming le_refl->br,le_trans->bb
open Go.Proofs.Tryz renaming prog->V
open Go.Ending renaming returned->ae
open List renaming mem_append->aX,mem_cons->aq,not_mem_nil->aL,mem_of_getElem?->aD,getElem?_eq_getElem->a',getElem?_eq_some_iff->cX,mem_append_left->bV,mem_append_right->eD,mem_flatMap->cc,mem_map->bS,length_append->a7,length_cons->bR,length_nil->dK,mem_of_mem_take->ky,append_assoc->ck,mem_singleton->b0,length_take->f',flatMap_append->cW,flatMap_cons->cH,mem_cons_of_mem->e6,length_map->gv,drop_eq_getElem_cons->dz,getElem?_map->ku,all_eq_true->ff,append_nil->dy,cons_append->je,take_add_one->dV,map_append->fK,getElem?_set_ne->He,drop_of_length_le->c9,take_of_length_le->eO
open Go Go.W
def _root_.Go.W.LH.Uf{M:Nat->Prop}{w0 w:J}{L D:List En}(H:LH M w0 w L D)(h:List En)(j:∀d∈h,d.P w)(k:∀d∈h,∀b∈d.fp,∃e∈D,b∈e.fp):LH M w0 w L h:=
 ⟨H.fr,H.own,j,H.new,H.nd,λd y b q e z=>by obtain⟨g,A,x⟩:=k d y b q;exact H.dj g A b x e z⟩
def fA.tok{d:Nx}(W:fA d):n4 d:=⟨W.kl,W.n,W.m,W.u.1,λ_=>RX d.tx⟩
def CT(g:List Nx)(e:Int)(w:J)(r:bW)(Y:J):Prop:=∃(t:Sl) (l:List Nd),r=ae (.tuple #[.agg #[t.v],.i e])/\xs l=g/\GP Y t l/\∀b∈(En.gr t l).fp,w.heap.size<=b
abbrev Mk(s:Sl)(l:List Nd):En:=.row cP 9 s (l.flatMap Nd.c)
def V0{w:J}{s:Sl}{U:List UInt8}(h:Bytes w s U)(hl:U.length<=1000000)(Q:cq.P w):
  ai V QR #[s.v] w λr Y=>CT (gp U).1 (gp U).2 w r Y/\af w Y:=by
 have bad:∀{Y:J},gp U=([],2)->af w Y->CT (gp U).1 (gp U).2 w (ae (.tuple #[.agg #[.slice none 0 0],.i 2])) Y/\af w Y:=λF f=>by
  rw[F];exact⟨⟨⟨none,0,0⟩,[],rfl,rfl,⟨bN.nil 9 _,ws⟩,λb k=>by
   rcases ov.1 k with k|⟨d,q,_⟩
   .cases k
   .cases q⟩,f⟩
 obtain⟨B,hN⟩:∃B,B=(bd ⟨U,0⟩).1:=⟨_,rfl⟩;obtain⟨S,ad⟩:∃st,st=(bd ⟨U,0⟩).2:=⟨_,rfl⟩;have dec:∀(g:List Nx) (st:RS),¬(B<0\/4096<B)->gI B.toNat S=(g,st)->gp U=if iP st≠0 then([],2)else if gL g≠0 then([],2)else(g,0):=λg st T Z=>by unfold gp;rw[<-hN,<-ad,ag T,Z]
 have av:S.U.length<=1000000:=by have:=(k' ⟨U,0⟩).2;rw[<-ad]at this;exact bb this hl
 have loop:∀(d j:Nat) (E:Sl) (l:List Nd) (st:RS) (b2 D rb:Nat) (fp:List Nat) (G:J),¬(B<0\/4096<B)->j+d=B.toNat->gI B.toNat S=(xs l++(gI d st).1,(gI d st).2)->l.length=j->st.U.length<=1000000->(∀e∈l,∀b∈(dt e).fp,w.heap.size<=b)->(∀e∈l,fA e.x)->
   LH F0 w G [.g b2,.ga rb st fp,.g D,Mk E l] [cq,.all (l.map dt)]->
   y0.cy b2 ⟨none,0,0⟩ (some (ab rb)) D E B (j:Int) G λr Y=>CT (gp U).1 (gp U).2 w r Y/\af w Y:=by
  intro d;have ac:∀{G:J} {E:Sl} {l:List Nd} {st:RS} {b2 D rb:Nat} {fp:List Nat},LH F0 w G [.g b2,.ga rb st fp,.g D,Mk E l] [cq,.all (l.map dt)]->GP G E l:=by intro G E l st b2 D rb fp H;have Q:∀e∈l.map dt,e.P G:=H.getD 1;exact⟨aG.bf (H.get 3),λd q=>Q (dt d) (bS.2 ⟨d,q,rfl⟩)⟩
  induction d with
  |zero=>
   intro j E l st b2 D rb fp G O hj F hm sm hf hw H;have y:gI B.toNat S=(xs l,st):=by rw[F];simp[gI]
   have dec:=dec _ _ O y;refine y0.dH (aN (aW co) (H.aA (Hh (H.get 1)) ?_));rintro _ w2 rfl I;refine⟨_,rfl,dA (λk=>I.ah λw3 C=>bad (by rw[dec,au k]) C.fr) (λk=>I.aA (Ig (ac I) (I.getD 0) (λ_ d q=>⟨(hw d q).tok,hw d q⟩)) ?_)⟩;rintro _ w3 rfl C;refine⟨_,rfl,dA (λhv=>C.ah λM A=>bad (by rw[dec,ag (by simpa using k),au hv]) A.fr) (λhv=>C.ah λM A=>⟨?_,A.fr⟩)⟩;rw[dec,ag (by simpa using k),ag (by simpa using hv)];refine⟨E,l,rfl,rfl,ac A,λb k=>?_⟩;rcases ov.1 k with k|⟨d,q,k⟩
   .exact sZ (λb k=>(A.new _ (aD (i:=3) rfl) b k).resolve_right id) b k
   .exact hf d q b k
  |succ d ih=>
   intro j E l st b2 D rb fp G O hj F hm sm hf hw H;refine y0.dH (aM (aR co) (H.ah λw2 I=>?_));refine I.rm 1 rfl (λz=>lZ z) λw3 C=>⟨_,rfl,?_⟩;refine C.mX 1 rfl (λz=>pP z) λK M A ap=>⟨_,rfl,?_⟩;refine A.rm 1 rfl (λz=>lZ z) λw5 H5=>⟨_,rfl,?_⟩;refine H5.rm 1 rfl (λz=>lZ z) λw6 H6=>⟨_,rfl,?_⟩;refine H6.rm 1 rfl (λz=>Bs z) λw7 H7=>⟨_,rfl,?_⟩;refine H7.rm 1 rfl (λz=>aeC z) λw8 H8=>⟨_,rfl,?_⟩;refine H8.rm 1 rfl (λz=>lZ z) λw9 H9=>⟨_,rfl,?_⟩;refine H9.rm 1 rfl (λz=>lZ z) λax al=>⟨_,rfl,?_⟩;refine al.rm 1 rfl (λz=>lZ z) λay am=>⟨_,rfl,?_⟩;have hn:E.n=l.length:=i4 (ac H);refine am.iD 3 oh rfl (λak aB an=>an.ah λaa ao=>?_) co;rw[bc _ co];obtain⟨o1,o2,_,_⟩:=TB st sm;have N:LH F0 w aa [.g b2,.ga rb (fq st).2 fp,.g D,.row cP 9 ak (l.flatMap Nd.c++Nd.c ⟨(fq st).1,K⟩)] [cq,.all (l.map dt),dt ⟨(fq st).1,K⟩]:=ao;have el:l.flatMap Nd.c++Nd.c ⟨(fq st).1,K⟩=(l++[(⟨(fq st).1,K⟩:Nd)]).flatMap Nd.c:=ws
   rw[el]at N;refine ih (j+1) ak (l++[⟨(fq st).1,K⟩]) (fq st).2 b2 D rb fp aa O co ?_ (by simp[hm]) co ?_ ?_ ?_
   .rw [F];simp[xs,gI]
   .intro e y b k;rcases aX.1 y with y|y
    .exact hf e y b k
    .simp at y;subst y;have k:b∈(if(List.map a5 (fq st).1.kids)=[]then[]else az K):=k;split at k
     .cases k
     .exact bb C.fr.size (ap b k)
   .intro e y;rcases aX.1 y with y|y
    .exact hw e y
    .simp at y;subst y;exact o1
   .have k1:∀e∈(l++[⟨(fq st).1,K⟩]:List Nd).map dt,e.P aa:=λe y=>by
     rw[fK]at y;rcases aX.1 y with y|y
     .have Q:∀e∈l.map dt,e.P aa:=N.getD 1;exact Q e y
     .simp at y;subst y;exact N.getD 2
    refine N.Uf _ (λd q=>?_) (λd q b k=>?_)
    .rcases aq.1 q with e|q
     .rw [e];exact N.getD 0
     .simp only[aq,aL,aO]at q;subst q;exact k1
    .rcases aq.1 q with e|q
     .exact ⟨cq,ws,by rw[e]at k;exact k⟩
     .simp only[aq,aL,aO]at q;subst q;unfold En.all at k;obtain⟨aw,L,k⟩:=cc.1 (aT.1 k);rw[fK]at L;rcases aX.1 L with L|L
      .exact ⟨.all (l.map dt),ws,by unfold En.all;exact aT.2 (cc.2 ⟨aw,L,k⟩)⟩
      .simp only[List.map_cons,List.map_nil,aq,aL,aO]at L;rw[L]at k;exact⟨dt ⟨(fq st).1,K⟩,ws,k⟩
 have H0:LH F0 w w [] [.rd s (U.map W.bL),cq]:=bK _ (by
  intro e F;simp only[aq,aL,aO]at F;rcases F with rfl|rfl
  .exact h
  .exact Q)
 refine y0.aC (H0.aH λb2 G H1=>gn ((Tl (H1.getD 0) co).mono ?_));rintro _ w2 ⟨rb,fp,rfl,ar,f,nf⟩;have I:=H1.push (.ga rb ⟨U,0⟩ fp) f ar (λb k=>nf b (aT.1 k));refine⟨f,some (ab rb),rfl,?_⟩;refine I.rm 1 rfl (λz=>lZ z) λw3 C=>⟨_,rfl,?_⟩;rw[<-hN];rw[<-ad]at C;have aj:B<0\/4096<B->gp U=([],2):=λO=>by unfold gp;rw[<-hN,au O]
 refine aF (λT=>C.ah λM A=>bad (aj (.inl T)) A.fr) (λT=>aF (λZ=>C.ah λM A=>bad (aj (.inr Z)) A.fr) (λZ=>C.aH λD M A=>?_));exact loop B.toNat 0 ⟨none,0,0⟩ [] S b2 D rb fp M co co ws rfl av ws ws ((A.fY cP 9).Uf _ (λd q=>by
  simp only[aq,aL,aO]at q;rcases q with rfl|rfl
  .exact A.getD 1
  .intro e F;cases F) (λd q b k=>by
  simp only[aq,aL,aO]at q;rcases q with rfl|rfl
  .exact ⟨cq,ws,k⟩
  .cases k))
def WL:∀{r g:List Nx},Vg (g++r)->qb g r=0
 |[],_,_=>rfl
 |n::r,g,d=>by
  have k:(g++n::r)[g.length]? =some n:=ws
  have h:=d.ok _ _ k;have j:=IG d _ _ k;rw[List.take_left]at h j;rw[WK,h,ag (λd=>d rfl),ag (λd=>d rfl),ag j];exact WL (by rw[ck];exact d)
def WM{g:List Nx}(h:Vg g)(d:g.length<=4096):gL g=0:=by unfold gL;rw[ag co];exact WL (by rwa[List.nil_append])
structure Xn(g:List Nx):Prop where
 w:∀d∈g,fA d
 n:∀d∈g,qo d
 z:∀d∈g,(dJ d).length<=1000000
def ado{g:List Nx}{d:Nx}(h:d∈g):(dJ d).length<=(cL g).length:=by
 have:(dJ d).length<=(g.flatMap dJ).length:=by
  induction g with
  |nil=>cases h
  |cons a g j=>
   rw[cH,a7];rcases aq.1 h with e|h
   .subst e;omega
   .have:=j h;omega
 unfold cL;rw[a7];omega
def ads{n:Nx}(W:fA n)(B:n.kids.length<=3)(C:n.tx.size<=100):(dJ n).length<=300:=by have h:=dk _ W.op;have j:=lO _ W.ks;have k:=dk _ W.n;have q:=dk _ W.m;have w:=eM n.u.toNat (by have:=W.u;omega);have x:=dk _ W.sk;have y:=dk _ W.sn;have z:=dk _ W.sx;have A:=eM n.kids.length co;have d:=eM (bl n.tx).length (by rw[dY];omega);have D:=dY n.tx;unfold dJ cY dF;simp only[a7];omega
def iU.abp{g:List Nx}(h:iU g)(y:g.length<=1000):Xn g/\(cL g).length<=10+300 *g.length/\gL g=0:=by
 have k:=h.gd y;have B:∀d∈g,d.tx.size<=100:=λd j=>by
  have w:=h.nd d j;by_cases q:d.op=33
  .obtain ⟨A,x⟩:=w.re q;rw[x,bU];have:=Wq A;omega
  .have:=w.tx q;omega
 refine⟨⟨λd j=>(k d j).wd,λd j=>(k d j).sp.RV co,λd j=>(k d j).small co⟩,?_,WM h.vg co⟩;have C:=A5 (z:=300) (g:=g) λd j=>ads (k d j).wd (h.nd d j).kl (B d j);have D:=dk (g.length:Int) ⟨co,co⟩;unfold cL;rw[a7];omega
def jL(w:J)(s:Sl)(l:List Lx):Prop:=bN 4 w s ((l.map Lx.m).flatMap Lm.cs)/\∀d∈l,wJ w d
def gX(s:Sl)(l:List Lx):En:=.all (.bf 4 s ((l.map Lx.m).flatMap Lm.cs)::l.map cV)
def hY{w:J}{s:Sl}{l:List Lx}:(gX s l).P w↔jL w s l:=by
 constructor
 .exact λd=>⟨d (.bf 4 s ((l.map Lx.m).flatMap Lm.cs)) ws,λh k=>oA.1 (d (cV h) (e6 _ (bS.2 ⟨h,k,rfl⟩)))⟩
 .intro d e j;rcases aq.1 j with rfl|j
  .exact d.1
  .obtain ⟨h,k,rfl⟩:=bS.1 j;exact oA.2 (d.2 h k)
def jL.n{w:J}{s:Sl}{l:List Lx}(h:jL w s l):s.n=l.length:=by have d:((l.map Lx.m).flatMap Lm.cs).length=s.n *4:=h.1.1;rw[Lm.len,gv]at d;omega
structure Lm.gy(w:J)(p:Addr)(i:Nat)(x:Lm):Prop where
 c0:w.cell? ((p.add (i *4)).add 0)=some x.g.v
 c1:w.cell? ((p.add (i *4)).add 1)=some x.h.v
 c2:w.cell? ((p.add (i *4)).add 2)=some x.c.v
 c3:w.cell? ((p.add (i *4)).add 3)=some x.s.v
def jL.again{w:J}{s:Sl}{l:List Lx}(h:jL w s l){i:Nat}{x:Lx}(hi:l[i]? =some x):∃p,s.a=some p/\Lm.gy w p i x.m:=by
 have j:(l.map Lx.m)[i]? =some x.m:=by rw[ku,hi];rfl
 have y:=(cX.1 j).1;have:=fN.elem (f:=Lm.cs) (sz:=4) (s:=s) (w:=w) (λ_=>rfl) md h.1.2.2 j (K:=λp=>s.a=some p/\Lm.gy w p i x.m) λp q d=>⟨q,d 0 _ rfl,d 1 _ rfl,d 2 _ rfl,d 3 _ rfl⟩;obtain⟨p,_,k⟩:=sV this;exact⟨p,k⟩
def jL.get{w:J}{s:Sl}{l:List Lx}(h:jL w s l){i:Nat}{x:Lx}(hi:l[i]? =some x){K:Addr->Prop}(k:∀p,s.a=some p->Lm.gy w p i x.m->K p):eh s.a K:=by obtain⟨p,d,j⟩:=h.again hi;rw[d];exact k p d j
def jR:List Lx->Int
 |[]=>0
 |d::r=>if gW d≠0 then gW d else jR r
def kr(ls:List Lx)(ss:List bO):Int:=if jR ls≠0 then jR ls else m0 ss 0 (ls.length:Int)
def I6(n:Nat)(l:List Lx):Prop:=l.length<=n/\∀d∈l,hQ n d
def Db(l:List Lx):Prop:=l.length<=4096/\∀d∈l,qn d
def IW(l:List Sp):Prop:=l.length<=1000000/\∀d∈l,mB d
section
variable {w0:J} {s t:Sl} {l:List Lx} {ds:List Sp} {b:Nat} {E:Int} {D:List En}
def AD{i:Nat}{x:Lx}(hi:l[i]? =some x):l.drop i=x::l.drop (i+1):=by obtain⟨d,e⟩:=cX.1 hi;rw[<-e];exact dz d
def FN{x:Lx}{r:List Lx}(h:gW x≠0):jR (x::r)=gW x:=by
 conv=>lhs;unfold jR
 rw[au h]
def AE{x:Lx}{r:List Lx}(h:gW x=0):jR (x::r)=jR r:=by
 conv=>lhs;unfold jR
 rw[ag co]
def abQ(G:Db l)(H:IW ds)(A:gX s l∈D)(O:En.sp t ds∈D)(N:cq∈D)(F:E=kr l (bq ds)):∀(k i:Nat) (w:J) (L:List En),i+k=l.length->En.g b∈L->LH F0 w0 w L D->jR l=jR (l.drop i)->
  oH.cy b s t s (s.n:Int) (i:Int) w (iW w0 E):=by
 have U:=G.1;intro k;induction k with
 |zero=>
  intro i w L P h d e;have K:=(hY.1 (d.rd _ A)).n;rw[c9 co]at e;refine oH.dH (aN (aW co) ?_);refine Nb (by have:=H.1;omega) H.2 O ds.length 0 w L co h d ?_;rw[F,List.drop_zero,K];unfold kr;rw[e];rfl
 |succ k Q=>
  intro i w L P h d e;have C:=hY.1 (d.rd _ A);have K:=C.n;have y:l[i]? =some l[i]:=a' co;generalize l[i]=x at y;have I:=aD y;rw[AD y]at e;refine oH.dH (aM (aR co) ⟨co,co,C.get y λp _ q=>?_⟩);rw[bB];refine⟨_,_,_,_,q.c0,q.c1,q.c2,q.c3,d.aH (λT W M=>M.ah (λY z=>z.aA (abR (G.2 x I) ((hY.1 (z.rd _ A)).2 x I) (z.rd _ N)) ?_) (by simp[h])) (by simp[h])⟩;rintro _ S rfl B;refine⟨_,rfl,dA (λj=>⟨?_,B.fr⟩) (λj=>?_)⟩
  .rw [F];unfold kr;rw[e,FN j,au j]
  .rw [bc _ co];exact Q (i+1) S _ co (by simp[h]) B (by rw[e,AE j])
def Aw(d:Db l)(j:IW ds){w:J}(h:jL w s l)(q:fP w t ds)(y:cq.P w):ai V Gi #[.agg #[s.v,t.v]] w (iW w (kr l (bq ds))):=by
 have D:=h.n;have C:=q.n;have A:=d.1;have B:=j.1;refine oH.aC ((bK (w:=w) [gX s l,.sp t ds,cq] (by
  intro e k;simp only[aq,aL,aO]at k;rcases k with rfl|rfl|rfl
  .exact hY.2 h
  .exact dM.2 q
  .exact y)).aH λb z x=>aN (aW co) (aN (aW co) ?_))
 exact abQ d j ws ws ws rfl l.length 0 z _ co ws x rfl
end
set_option maxHeartbeats 2000000
namespace yw
def a6:=bh (ax V Tryz.f27 [] [5]) [0,1,2] [(0,.r),(10,.s),(11,.I),(12,.I)]
abbrev t1:=bg a6
def bD:=bm t1 a6
def aC:=ay t1 PY [.r,.s]
end yw
namespace SQ
def aC:=ay (ax V Tryz.f26 [] [1]) PM [.a 4,.s,.s,.s,.s]
end SQ
namespace yt
def a6:=bh (ax V Tryz.f7 [] [1,7]) [0,1,1,1,4] [(1,.l [.s,.s] eL),(5,.r),(18,.s),(19,.I),(20,.I)]
abbrev t1:=bg a6
def bD:=bm t1 a6
def aC:=ay t1 PC [.a 2,.s,.s]
end yt
namespace SR
def aC:=ay (ax V Tryz.f29 [] [2]) PQ [.s]
end SR
namespace SS
def aC:=ay (ax V Tryz.f97 [] [1,2,3]) PU [.a 2,.p,.I]
end SS
namespace vz
abbrev bt:=ak (ax V Tryz.f59 [] [1]) [0,1,1,1,2] []
abbrev t1:=ao bt
def cy:=bh t1 [0,1,1,1,4] [(1,.l [.p,.I] Iv),(5,.s),(20,.I),(21,.I)]
abbrev t2:=bg cy
def dH:=bm t2 cy
def aC:=ay t2 PV [.a 2,.p,.I]
end vz
namespace G'
abbrev bt:=ak (ax V Tryz.f58 [(4,(.sq [0,1,2,3,5,6] (.fork (.sq [4] (.fork (ls [7,8,9,10]) (ls [9,7,8,10]))) (ls [9,4,7,8,10])))),(7,lr 10)] [1,2,4,6]) [4] [(1,.l [.p,.I] Iv),(2,.l [.s,.s,.s,.s] fw),(6,.l [.s,.s,.s,.s] fw)]
abbrev t1:=ao bt
def aC:=ay t1 PR [.a 2,.p,.I]
end G'
namespace yv
abbrev bt:=ak (ax V Tryz.f30 [(14,lr 10)] [1,2,5,6]) [0,1,1,1,2] [(2,.l [.s,.s] eL)]
abbrev t1:=ao bt
def cy:=bh t1 [0,1,1,1,4] [(1,.l [.p,.I] Iv),(2,.l [.s,.s] eL),(5,.l [.s,.s] eL),(20,.I),(21,.I)]
abbrev t2:=bg cy
def dH:=bm t2 cy
def aC:=ay t2 PT [.a 2,.p,.I]
end yv
namespace SM
abbrev bt:=ak (ax V Tryz.f8 [] [2,4]) [0,1,1,1,2] [(2,.l [.s,.s] eL)]
abbrev t1:=ao bt
def aC:=ay t1 PB [.s]
end SM
section
variable {M:Nat->Prop} {w0 w:J} {L D:List En} {U:List Nat}
def _root_.Go.W.LH.x'(H:LH M w0 w L D){P:Program}{t e:TypeId}{z:aa}{sz bytes:Nat}(h:g7 P t e z sz bytes)(n:Nat)(d:n *bytes<=140737488355328){K:Sl->J->Prop}(y:∀s Y,s.n=0->LH M w0 Y (L++[.row e sz s []]) D->K s Y)(bG:∀b∈U,En.g b∈L:=by simp):
  ∃(s:Sl) (Y:J),Sem.run P (Instr.makeSlice t (.i 0) (.i (n:Int))) w=.ok s.v Y/\kept U w Y/\K s Y:=by
 obtain⟨i,B,E,C,A⟩:=info_parts h.hi;have F:n<=140737488355328:=by have:=Nat.le_mul_of_pos_right n h.hb;omega
 obtain⟨Y,k,q,x⟩:=run_make_own (P:=P) w 0 t e i z sz h.ht B E C .i64 .i64 n (by rw[A,Nat.mul_comm];omega) (by unfold maxLen;omega) (Nat.zero_le _);have f:af w Y:=Fr.grown x λ_ j=>by cases j
 exact⟨⟨some (ab w.heap.size),0,n⟩,Y,k,λb d=>f.cB b (H.own _ (bG b d)) id,y _ Y rfl (H.Tb f q (by intro b d;simp[az]at d;omega))⟩
end
def vV(d:Sp):En:=.all [d.pE,d.lE,d.hE]
def ad5{w:J}{rb:Nat}{st:RS}{fp:List Nat}{size:Int}(h:dn w rb st fp):ai V PU #[.agg #[.pointer (some (ab rb)),.i size]] w (nk w rb fp λr e W=>W=(fL st).2/\∃y:Sp,r=ae y.v/\y.x=(fL st).1/\e=vV y):=by
 refine SS.aC ((NB h).aH λZ w1 D=>D.aH λb2 w2 I=>I.aH λb3 w3 K=>?_);refine K.rm 0 rfl (λd=>lZ d) λw4 L=>⟨_,rfl,L.ah λw5 M=>?_⟩;refine M.rm 0 rfl (λd=>lZ d) λw6 N=>⟨_,rfl,N.ah λw7 O=>?_⟩;refine O.rm 0 rfl (λd=>lZ d) λw8 P=>⟨_,rfl,P.ah λw9 C=>?_⟩;refine C.mX 0 rfl (λd=>pP d) λp aa E S=>⟨_,rfl,E.ah λac F=>?_⟩;refine F.mX 0 rfl (λd=>Hi d) λt Y z _=>⟨_,rfl,_,kR (show Bytes Y t _ from z.getD 1),z.ah λad A=>?_⟩;refine A.mX 0 rfl (λd=>pP d) λl af G Q=>⟨_,rfl,G.ah λag B=>?_⟩;refine B.mX 0 rfl (λd=>pP d) λU aj H T=>⟨_,rfl,H.ah λak j=>?_⟩;refine⟨vV ⟨(fL st).1,p,l,U⟩,_,⟨rfl,_,rfl,rfl,rfl⟩,λe q=>?_,λb k=>?_,j.get 0,j.fr⟩
 .simp only[aq,aL,aO]at q;rcases q with rfl|rfl|rfl
  .exact j.getD 0
  .exact j.getD 2
  .exact j.getD 3
 .obtain ⟨e,q,k⟩:=bI.1 k;simp only[aq,aL,aO]at q;rcases q with rfl|rfl|rfl
  .exact bb C.fr.size (eP S b k)
  .exact bb A.fr.size (eP Q b k)
  .exact bb B.fr.size (eP T b k)
def Sw{w:J}{rb:Nat}{st:RS}{fp:List Nat}{size:Nat}(hs:size<=1000000)(h:dn w rb st fp):ai V PV #[.agg #[.pointer (some (ab rb)),.i (size:Int)]] w (nk w rb fp λr e D=>D=(ez size st).2/\∃(s:Sl) (ds:List Sp),r=ae (.tuple #[s.v,.bool (ez size st).1.isSome])/\bq ds=(ez size st).1.getD []/\e=.sp s ds):=by
 obtain⟨x,K⟩:∃x,x=(bd st).1:=⟨_,rfl⟩;obtain⟨A,N⟩:∃D,D=(bd st).2:=⟨_,rfl⟩;have e7:aj .i64 (bQ (size:Int) 7)=((size / 7:Nat):Int):=by rw[show bQ (size:Int) 7=((size / 7:Nat):Int)from rfl];exact aQ _ co
 refine vz.aC ((NB h).aH λI w1 Y=>Y.rm 0 rfl (λM=>lZ M) λw2 F=>⟨_,rfl,?_⟩);rw[e7,<-K];rw[<-N]at F;have bad:x<0\/((size / 7:Nat):Int)<x->vz.bt w2 (nk w rb fp λr e D=>D=(ez size st).2/\∃(s:Sl) (ds:List Sp),r=ae (.tuple #[s.v,.bool (ez size st).1.isSome])/\bq ds=(ez size st).1.getD []/\e=.sp s ds):=λhc=>by
  have e:ez size st=(none,A):=by unfold ez;rw[<-K,<-N,au hc]
  rw[e];refine⟨.sp ⟨none,0,0⟩ [],A,⟨rfl,⟨none,0,0⟩,[],rfl,rfl,rfl⟩,λe d=>?_,λb q=>?_,F.get 0,F.fr⟩
  .rw [b0.1 d];exact bN.nil 7 _
  .obtain ⟨e,d,q⟩:=bI.1 q;rw[b0.1 d]at q;cases q
 refine aF (λS=>bad (.inl S)) λS=>aF (λE=>bad (.inr E)) λE=>?_;have Q:x=(x.toNat:Int):=co
 have aa:ez size st=(some (gw x.toNat A).1,(gw x.toNat A).2):=by unfold ez;rw[<-K,<-N,ag co]
 rw[aa];have loop:∀(k i:Nat) (s:Sl) (ds:List Sp) (B:RS) (v:J),i+k=x.toNat->ds.length=i->(gw x.toNat A)=(bq ds++(gw k B).1,(gw k B).2)->LH (·∈fp) w v [.ga rb B fp,.g I,.row dD 7 s (ds.flatMap Sp.c)] [bX ds]->(∀b∈(bX ds).fp,w.heap.size<=b)->
   vz.cy I (some (ab rb)) (size:Int) s x (i:Int) v (nk w rb fp λr e D=>D=(gw x.toNat A).2/\∃(s:Sl) (ds:List Sp),r=ae (.tuple #[s.v,.bool true])/\bq ds=(gw x.toNat A).1/\e=.sp s ds):=by
  intro k;induction k with
  |zero=>
   intro i s ds B v hi T d z L;simp only[gw,dy]at d;refine vz.dH (aN (aW co) ⟨.sp s ds,B,⟨by rw[d],s,ds,rfl,by rw[d],rfl⟩,?_,λb q=>?_,z.get 0,z.fr⟩)
   .intro e C;rcases aq.1 C with rfl|C
    .exact aG.bf (z.get 2)
    .exact (z.getD 0:(bX ds).P v) e C
   .obtain ⟨e,C,q⟩:=bI.1 q;rcases aq.1 C with rfl|C
    .exact sZ (λb q=>(z.new _ (aD (i:=2) rfl) b q).elim id (λh=>absurd (aT.2 h) (mE z.nd (i:=2) rfl (j:=0) rfl md b q))) b q
    .exact L b (bI.2 ⟨e,C,q⟩)
  |succ k ih=>
   intro i s ds B v hi T d z L;have ac:=(z.get 2:aG _ _ _ _ _).len;rw[Sp.e1]at ac;refine vz.dH (aM (aR co) (z.yG 0 rfl (λM=>ad5 M) ?_));rintro _ e af W ⟨rfl,y,rfl,hx,rfl⟩ H hf;refine⟨_,_,_,_,_,_,_,rfl,H.iD 2 uI rfl (λU G Z=>?_) co⟩;rw[bc _ co];have O:LH (·∈fp) w G [.ga rb (fL B).2 fp,.g I,.row dD 7 U (ds.flatMap Sp.c++Sp.c y)] ([bX ds]++[vV y]):=Z;have ec:ds.flatMap Sp.c++Sp.c y=(ds++[y]).flatMap Sp.c:=ws
   rw[ec]at O;refine ih (i+1) U (ds++[y]) (fL B).2 G co (by simp[T]) ?_ ?_ ?_
   .rw [d];simp[gw,hx]
   .refine O.iq _ λe d=>?_;rw[b0.1 d];refine⟨λh e d=>?_,λb q=>?_⟩
    .simp only[iw,cW]at d;rcases aX.1 d with d|d
     .exact (h (bX ds) ws:(bX ds).P G) e d
     .simp only[cH,List.flatMap_nil,dy,aq,aL,aO]at d;have E:(vV y).P G:=h (vV y) ws;rcases d with rfl|rfl|rfl
      .exact E y.pE ws
      .exact E y.hE ws
      .exact E y.lE ws
    .obtain ⟨e,d,q⟩:=bI.1 q;simp only[iw,cW]at d;rcases aX.1 d with d|d
     .exact ⟨bX ds,ws,bI.2 ⟨e,d,q⟩⟩
     .refine ⟨vV y,ws,bI.2 ⟨e,?_,q⟩⟩;simp only[cH,List.flatMap_nil,dy,aq,aL,aO]at d ⊢;rcases d with rfl|rfl|rfl<;>simp
   .intro b q;obtain⟨e,d,q⟩:=bI.1 q;simp only[iw,cW]at d;rcases aX.1 d with d|d
    .exact L b (bI.2 ⟨e,d,q⟩)
    .refine bb z.fr.size (hf b (bI.2 ⟨e,?_,q⟩));simp only[cH,List.flatMap_nil,dy,aq,aL,aO]at d ⊢;rcases d with rfl|rfl|rfl<;>simp
 rw[Q];refine F.x' uI x.toNat co λs W ad H=>?_;rw[<-Q];exact loop x.toNat 0 s [] A W co rfl ws (H.iq _ λe d=>by rw[b0.1 d];exact⟨λ_ e d=>(by cases d),λb q=>(by obtain⟨e,d,_⟩:=bI.1 q;cases d)⟩) (λb q=>(by obtain⟨e,d,_⟩:=bI.1 q;cases d))
def adZ{w:J}{rb:Nat}{fp:List Nat}{U:List UInt8}(hl:U.length<=100000)(hk:cq.P w)(am:∀b∈cq.fp,b∉fp)(h:dn w rb ⟨U,0⟩ fp):
  ai V PR #[.agg #[.pointer (some (ab rb)),.i (U.length:Int)]] w (nk w rb fp λr e _=>(∃(p:Lp) (x:Lx),hh U=some p/\r=ae (.tuple #[x.m.v,.bool true])/\x.p=p/\e=cV x)\/(hh U=none/\∃m:Lm,r=ae (.tuple #[m.v,.bool false]))):=by
 have s1:=vG ⟨U,0⟩;dsimp only at s1;have bad:∀{Y:J} {st:RS} {L D:List En} (m:Lm),hh U=none->LH (·∈fp) w Y (.ga rb st fp::L) D->nk w rb fp (λr e _=>(∃(p:Lp) (x:Lx),hh U=some p/\r=ae (.tuple #[x.m.v,.bool true])/\x.p=p/\e=cV x)\/(hh U=none/\∃m:Lm,r=ae (.tuple #[m.v,.bool false]))) (ae (.tuple #[m.v,.bool false])) Y:=
  λm hn K=>⟨.all [],_,.inr ⟨hn,m,rfl⟩,λe j=>(by cases j),λb d=>(by obtain⟨e,j,_⟩:=bI.1 d;cases j),K.get 0,K.fr⟩
 refine G'.aC ((FP (D:=[cq]) h (λe j=>by rw[b0.1 j];exact⟨hk,am⟩)).aH λb1 w1 H1=>H1.aH λb2 w2 H2=>H2.mX 0 rfl (λk=>Hi k) λt w3 N ht=>⟨_,rfl,N.iF (V0 (show Bytes w3 t (cA ⟨U,0⟩).1 from N.getD 1) co (N.getD 0)) ?_⟩);rintro _ w4 ⟨F,O,rfl,hx,ad,aa⟩ _ F4;have H4:=F4.rd (.gr F O) (ch.2 ad) aa;refine⟨_,_,rfl,H4.aH λb3 w5 T=>dA (λW=>T.ah λw6 A=>bad ⟨⟨none,0,0⟩,⟨none,0,0⟩,⟨none,0,0⟩,⟨none,0,0⟩⟩ (ach W) A) λW=>?_⟩;have ak:∀b∈(En.gr F O).fp,w.heap.size<=b:=λb d=>bb N.fr.size (aa b d);have fin:∀{I:Nat} {y q:Sl} {Y:J},(∀b∈az y,w.heap.size<=b)->(∀b∈az q,w.heap.size<=b)->
   LH (·∈fp) w Y [.ga rb (sE U) fp,.g b1,.g b2,.g b3,.g I] [cq,.rd t ((cA ⟨U,0⟩).1.map bL),.gr F O,.rd y ((c' (cA ⟨U,0⟩).2).1.map a5),.rd q ((c' (c' (cA ⟨U,0⟩).2).2).1.map a5)]->
   G'.bt b1 (some (ab rb)) (U.length:Int) b2 ⟨none,0,0⟩ ⟨none,0,0⟩ ⟨none,0,0⟩ ⟨none,0,0⟩ I F y q ⟨none,0,0⟩ Y (nk w rb fp λr e _=>(∃(p:Lp) (x:Lx),hh U=some p/\r=ae (.tuple #[x.m.v,.bool true])/\x.p=p/\e=cV x)\/(hh U=none/\∃m:Lm,r=ae (.tuple #[m.v,.bool false]))):=by
  intro I y q Y al aj K;have C:=acj W;refine K.yG 0 rfl (λk=>Sw co k) ?_;rintro _ e an w9 ⟨rfl,s,ds,rfl,S,rfl⟩ B hf;refine⟨_,_,rfl,?_⟩;cases ac:(ez U.length (sE U)).1 with
  |none=>
   rw[ac]at C;exact aN rfl (B.ah λZ z=>bad ⟨F,y,q,s⟩ C z)
  |some ss=>
   rw[ac]at C S;dsimp only at C;have S:bq ds=ss:=S;refine aM rfl (B.ah λZ z=>z.aA (Hh (z.get 0)) ?_);rintro _ ao rfl af;refine⟨_,rfl,af.ah λap E=>?_⟩;by_cases j:iP (ez U.length (sE U)).2=0
   .rw [au j]at C;rw[j];refine⟨cV ⟨⟨F,y,q,s⟩,O,(c' (cA ⟨U,0⟩).2).1,(c' (c' (cA ⟨U,0⟩).2).2).1,ds⟩,_,.inl ⟨_,_,C,rfl,?_,rfl⟩,?_,λb d=>?_,E.get 0,E.fr⟩
    .unfold Lx.p;dsimp only;rw[hx,S]
    .exact oA.2 ⟨ch.1 (E.getD 2),E.getD 3,E.getD 4,dM.1 (E.getD 5)⟩
    .obtain ⟨e,j,d⟩:=bI.1 d;simp only[aq,aL,aO]at j;rcases j with rfl|rfl|rfl|rfl
     .exact ak b d
     .exact eP al b d
     .exact eP aj b d
     .exact bb K.fr.size (hf b d)
   .rw [ag j]at C;have:(iP (ez U.length (sE U)).2==0)=false:=by simpa using j
    rw[this];exact bad ⟨F,y,q,s⟩ C E
 refine⟨T.ah λw6 A=>A.mX 0 rfl (λk=>pP k) λy w7 G Q=>⟨_,rfl,⟨?_,?_⟩⟩,?_⟩
 .exact G.mX 0 rfl (λk=>pP k) λq w8 H M=>⟨_,rfl,H.aH λI w9 B=>B.ah λZ z=>fin (λb d=>bb A.fr.size (Q b d)) (λb d=>bb G.fr.size (M b d)) z⟩
 .exact G.aH λI w8 H=>H.mX 0 rfl (λk=>pP k) λq w9 B M=>⟨_,rfl,B.ah λZ z=>fin (λb d=>bb A.fr.size (Q b d)) (λb d=>bb H.fr.size (M b d)) z⟩
 .exact T.aH λI w6 A=>A.mX 0 rfl (λk=>pP k) λy w7 G Q=>⟨_,rfl,G.mX 0 rfl (λk=>pP k) λq w8 H M=>⟨_,rfl,H.ah λw9 B=>fin (λb d=>bb A.fr.size (Q b d)) (λb d=>bb G.fr.size (M b d)) B⟩⟩
def Su{w:J}{s:Sl}{U:List UInt8}(h:Bytes w s U)(C:U.length<=100000):ai V PQ #[s.v] w λr q=>∃(rb:Nat) (fp:List Nat),r=ae (.agg #[.pointer (some (ab rb)),.i (U.length:Int)])/\dn q rb ⟨U,0⟩ fp/\af w q/\∀b∈fp,w.heap.size<=b:=by
 refine SR.aC ((bK (w:=w) [.rd s (U.map bL)] (by intro e y;rw[b0.1 y];exact h)).aH λB A d=>gn ((Tl (show Bytes A s U from d.getD 0) co).mono ?_))
 rintro _ D ⟨rb,fp,rfl,z,f,nf⟩;have x:=d.push (.ga rb ⟨U,0⟩ fp) f z (λb j=>nf b (aT.1 j));refine⟨f,some (ab rb),rfl,x.ah λE k=>⟨rb,fp,?_,k.get 1,k.fr,λb j=>bb d.fr.size (nf b j)⟩⟩;rw[Bytes.len h]
def Lx.e:Lx:=⟨⟨⟨none,0,0⟩,⟨none,0,0⟩,⟨none,0,0⟩,⟨none,0,0⟩⟩,[],[],[],[]⟩
def nZ.lxk{n:Nat}{x:Lx}(h:nZ n x.p)(q:n<=100000):qn x:=by
 have w:x.ds.length<=n:=by have:=h.sl;simpa[Lx.p]using this
 refine⟨λd k=>?_,bb h.hl q,bb h.cl q,bb w q,λd k=>?_⟩
 .have W:=h.g d.x (bS.2 ⟨d,k,rfl⟩);exact⟨W.tok,W⟩
 .have j:=h.s d.x (bS.2 ⟨d,k,rfl⟩);exact⟨by have:=j.p;omega,by have:=j.l;omega,by have:=j.h;omega⟩
def II{w:J}{j:Nat}{U:List UInt8}{own:List Nat}(K:fQ w j U own){s:Sl}{b:List UInt8}(z:Bytes w s b)(I:∀d∈(En.rd s (b.map bL)).fp,d∉own)(A:U.length+b.length<=10000000000000):
  ai V RA #[.pointer (some (ab j)),s.v] w (nn w j own (U++dF b)):=by refine WY.ok ?_;rw[Bytes.len z,tu _ co];refine(wj K b.length co co).mono ?_;rintro r h ⟨rfl,T,N,y,M⟩;have S:=eM b.length co;have H:Bytes h s b:=(En.rd s (b.map bL)).st w h (λd L A=>y.cB d A (I d L)) z;obtain⟨P,rfl,x,q⟩:=N;obtain⟨O,Q,D,E,F,G,_⟩:=wY (ty:=dB) q H (by simp;omega);obtain⟨B,C,k⟩:=IL x q (Fr.refl _ h) E F G;rw[ck]at k;exact⟨rfl,P,zh x,O,Q,D,B,C,rfl,k.then y M⟩
def acw{w:J}{j:Nat}{l:List UInt8}{own:List Nat}{D:List En}(y:fQ w j l own)(k:∀e∈D,e.P w/\∀b∈e.fp,b∉own):LH (·∈own) w w [.wr j l own] D:=
 ⟨Fr.refl _ _,λe d=>by rw[b0.1 d];exact y,λe d=>(k e d).1,λe d b h=>by
  rw[b0.1 d]at h;exact .inr (aT.1 h),by simp only[cH,List.flatMap_nil,dy];exact(En.wr j l own).nd,λe d b h z x q=>by rw[b0.1 x]at q;exact(k e d).2 b h (aT.1 q)⟩
def Vd{s:Sl}{ds:List Sp}{d:Sp}(w:d∈ds){e:En}(x:e∈[d.pE,d.hE,d.lE]):(∀h,(En.sp s ds).P h->e.P h)/\∀b∈e.fp,b∈(En.sp s ds).fp:=by have j:e∈En.bf 7 s (ds.flatMap Sp.c)::iw ds:=e6 _ (cc.2 ⟨d,w,x⟩);exact⟨λh k=>k e j,λb q=>bI.2 ⟨e,j,q⟩⟩
def adG{U:List Nat}{P:Program}{g:FuncId}{args:Array aa}{w:J}{K:aK}:ep U P g args w K->ai P g args w K:=λ⟨_,_,d⟩=>d.mono λ_ _ d=>d.2
def Nt{x:Lx}(h:gW x=0):gL (xs x.gl)=0:=by
 unfold gW at h;split at h
 .omega
 .omega
def AB:∀{l:List Lx},jR l=0->∀k∈l,gW k=0
 |[],_,k,d=>by cases d
 |q::r,h,k,d=>by
  by_cases j:gW q=0
  .rw [AE j]at h;rcases aq.1 d with rfl|d
   .exact j
   .exact AB h k d
  .rw [FN j]at h;exact absurd h j
def Sy{w:J}{z:Nat}{l:List UInt8}{own:List Nat}{s:Sl}{ds:List Sp}(hr:fQ w z l own)(Z:fP w s ds)(ag:∀A∈(En.sp s ds).fp,A∉own)(hd:∀d∈ds,lD d.x)(hl:l.length+(eJ (bq ds)).length<=10000000000):
  ai V PY #[.pointer (some (ab z)),s.v] w (nn w z own (l++eJ (bq ds))):=by
 have aj:=Z.n;have h7:=VH (bq ds);have aa:(bq ds).length=ds.length:=ws
 have hT:(eJ (bq ds)).length=(bJ (ds.length:Int)).length+((bq ds).flatMap ej).length:=by unfold eJ;rw[a7,aa]
 have ac:=acw (D:=[.sp s ds]) hr λe y=>by rw[b0.1 y];exact⟨dM.2 Z,ag⟩
 have hn:aY (s.n:Int):=⟨co,co⟩;refine yw.aC (adG (U:=[]) (ac.wm 0 rfl (λr=>mn r _ hn co) (λw1 G B=>⟨rfl,?_⟩) ws));have loop:∀(k i:Nat) (v:J) (F:List UInt8) (G:List Nat),i+k=ds.length->F++((bq ds).drop i).flatMap ej=l++eJ (bq ds)->LH (·∈own) w v [.wr z F G] [.sp s ds]->
   yw.a6 (ab z) s (s.n:Int) (i:Int) v (nn w z own (l++eJ (bq ds))):=by
  intro k;induction k with
  |zero=>
   intro i v F G hi y B;rw[c9 co,List.flatMap_nil,dy]at y;rw[<-y];exact yw.bD (aN (aW co) ⟨rfl,G,B.get 0,B.fr,λA q=>(B.new _ (aD (i:=0) rfl) A (aT.2 q)).symm⟩)
  |succ k ih=>
   intro i v F G hi y B;have C:=dM.1 (B.getD 0);have O:ds[i]? =some (ds[i]'co):=a' co;have q:(bq ds).drop i=(ds[i]'co).x::(bq ds).drop (i+1):=by rw[dz (by omega:i<(bq ds).length)];simp
   generalize ds[i]'co=d at O q;have N:=aD O;have j:=hd d N;rw[q,cH,<-ck]at y;have hlen:=congrArg List.length y;have ap:(ej d.x).length=(bJ d.x.kind).length+(bJ d.x.node).length+(bJ d.x.da).length+(cY d.x.params).length+(dF (bl d.x.nm)).length+(cY d.x.bM).length+(cY d.x.hints).length:=by unfold ej;simp only[a7]
   simp only[a7]at hlen;have g1:=oj d.x.params;have g2:=oj d.x.bM;have g3:=oj d.x.hints;have g4:=po (bl d.x.nm);refine yw.bD (aM (aR co) ⟨co,co,C.get O λp E=>?_⟩);rw[bB];have mD:∀e∈[d.pE,d.hE,d.lE,.sp s ds],((∀d∈[En.sp s ds],d.P v)->e.P v)/\∀b∈e.fp,∃d∈[En.sp s ds],b∈d.fp:=λe y=>by
    by_cases q:e∈[d.pE,d.hE,d.lE]
    .exact ⟨λC=>(Vd N q).1 v (C (.sp s ds) ws),λb j=>⟨.sp s ds,ws,(Vd N q).2 b j⟩⟩
    .simp only[aq,aL,aO,not_or]at y q;rcases y with rfl|rfl|rfl|rfl
     .exact absurd rfl q.1
     .exact absurd rfl q.2.1
     .exact absurd rfl q.2.2
     .exact ⟨λC=>C (.sp s ds) ws,λb j=>⟨.sp s ds,ws,j⟩⟩
   have H2:=B.iq [d.pE,d.hE,d.lE,.sp s ds] mD;have ints:∀{u:J} {S:List UInt8} {ox:List Nat} {H:Nat} {D:List En} {t:Sl} {v:List Int} {K:aK},LH (·∈own) w u [.wr z S ox,.g H] D->En.rd t (v.map a5)∈D->(∀A∈v,aY A)->S.length+v.length<=20000000000->(∀u' al,LH (·∈own) w u' [.wr z (S++cY v) al,.g H] D->K (ae (.tuple #[])) u')->
     ep [H] V yi #[.pointer (some (ab z)),t.v] u K:=λM Y hv hl hk=>M.wm 0 rfl (λr=>IH r (M.rd _ Y) (λA q Q=>M.dj _ Y A q _ (aD (i:=0) rfl) (aT.2 Q)) hv co) (λw' ak H'=>hk w' ak H') ws
   refine⟨_,_,_,_,_,_,_,E.c0,E.c1,E.c2,E.c3,E.c4,E.c5,E.c6,H2.aH λH w2 H3=>H3.ah λw9 H4=>?_⟩;refine H4.wm 0 rfl (λr=>mn r _ j.k.1 co) λar o2 H5=>⟨rfl,H5.wm 0 rfl (λr=>mn r _ j.k.2.1 (by simp only[a7];omega)) λau o3 H6=>⟨rfl,H6.wm 0 rfl (λr=>mn r _ j.k.2.2 (by simp only[a7];omega)) λav o4 H7=>⟨rfl,ints H7 ws j.p (by simp only[a7];omega) λam o5 W=>⟨rfl,?_⟩⟩⟩⟩;obtain⟨I,an,r1,r2,r3,r4⟩:=yX am d.x.nm;have L:=(W.fresh r3).rd (.rd I ((bl d.x.nm).map bL)) r2 (eP λb j=>(r4 b j).1);refine⟨I,an,r1,λb j=>r3.cB b (W.own (.g b) (by simp at j;simp[j])) id,L.wm 0 rfl (λr=>II r (L.rd (.rd I ((bl d.x.nm).map bL)) ws) (λA q Q=>L.dj (.rd I ((bl d.x.nm).map bL)) ws A q _ (aD (i:=0) rfl) (aT.2 Q)) (by simp only[a7];omega)) λaw o6 ad=>⟨rfl,ints ad ws j.l (by simp only[a7];omega) λax o7 af=>⟨rfl,ints af ws j.h (by simp only[a7];omega) λao o8 T=>⟨rfl,?_⟩⟩⟩⟩;rw[bc _ co];have e2:F++bJ d.x.kind++bJ d.x.node++bJ d.x.da++cY d.x.params++dF (bl d.x.nm)++cY d.x.bM++cY d.x.hints=F++ej d.x:=by unfold ej;simp only[ck]
   rw[e2]at T;refine ih (i+1) ao (F++ej d.x) o8 co y ((T.take 1).iq [.sp s ds] λe y=>?_);rw[b0.1 y];exact⟨λC=>C (.sp s ds) ws,λb j=>⟨.sp s ds,ws,j⟩⟩
 refine loop ds.length 0 w1 _ G co ?_ B;unfold eJ;rw[List.drop_zero,aa,aj,ck]
structure zr(x:Lx):Prop where
 k:qn x
 h:∀y∈x.hy,aY y
 c:∀y∈x.cl,aY y
 s:∀d∈x.ds,lD d.x
 z:∀d∈xs x.gl,(dJ d).length<=1000000
 b:(dx x.p).length<=1000000000
def ad0{w:J}{x:Lx}(d:zr x)(h:wJ w x)(H:cq.P w)(L:gL (xs x.gl)=0):ai V PM #[x.m.v] w (iV w (dx x.p)):=by
 have S:=d.b;unfold dx Lx.p at S;simp only[a7]at S;have g1:=po (cL (xs x.gl));have g2:=oj x.hy;have g3:=oj x.cl;have W:∀e∈[En.gr x.m.g x.gl,.rd x.m.h (x.hy.map a5),.rd x.m.c (x.cl.map a5),.sp x.m.s x.ds,cq],e.P w:=λe T=>by
  simp only[aq,aL,aO]at T;rcases T with rfl|rfl|rfl|rfl|rfl
  .exact ch.2 h.1
  .exact h.2.1
  .exact h.2.2.1
  .exact dM.2 h.2.2.2
  .exact H
 refine SQ.aC ((bK (w:=w) _ W).aH λG w1 B=>B.iF (V1 (ch.1 (B.getD 0)) (B.getD 4) (λ_=>d.k.g) d.z) ?_);rintro _ w2 ⟨t,rfl,I⟩ _ aa;obtain⟨I,hf⟩:=I L;have Z:=aa.rd (.rd t ((cL (xs x.gl)).map bL)) I.rd (eP hf);have ints:∀{u:J} {M:List UInt8} {N:Nat} {ox:List Nat} {D:List En} {t:Sl} {v:List Int} {K:aK},LH F0 w u [.g G,.wr N M ox] D->En.rd t (v.map a5)∈D->(∀x∈v,aY x)->M.length+v.length<=20000000000->(∀U ad,LH F0 w U [.g G,.wr N (M++cY v) ad] D->K (ae (.tuple #[])) U)->
   ep [G] V yi #[.pointer (some (ab N)),t.v] u K:=λF Q L hl H=>F.wm 1 rfl (λr=>IH r (F.rd _ Q) (λx hx j=>F.dj _ Q x hx _ (aD (i:=1) rfl) (aT.2 j)) L co) (λw' ac Y=>H w' ac Y) ws
 refine⟨_,_,rfl,Z.GF λw3 C=>C.wm 1 rfl (λr=>II r (C.rd (.rd t ((cL (xs x.gl)).map bL)) ws) (λy q j=>C.dj (.rd t ((cL (xs x.gl)).map bL)) ws y q _ (aD (i:=1) rfl) (aT.2 j)) (by simp only[dK];omega)) λw4 o1 H4=>⟨rfl,ints H4 ws d.h (by simp only[a7,dK];omega) λw5 o2 H5=>⟨rfl,ints H5 ws d.c (by simp only[a7,dK];omega) λw6 o3 E=>⟨rfl,?_⟩⟩⟩⟩;refine E.wm 1 rfl (λr=>Sy r (dM.1 (E.getD 3)) (λy q j=>E.dj (.sp x.m.s x.ds) ws y q _ (aD (i:=1) rfl) (aT.2 j)) d.s (by simp only[a7,dK];omega)) λw7 o4 A=>⟨rfl,?_⟩;have e:[]++dF (cL (xs x.gl))++cY x.hy++cY x.cl++eJ (bq x.ds)=dx x.p:=by unfold dx Lx.p;simp only[ck,List.nil_append]
 rw[e]at A;refine gn ((Co (show fQ w7 w2.heap.size (dx x.p) o4 from A.get 1) (by have:=d.b;omega)).mono ?_);rintro _ w8 ⟨s,rfl,hs,O,hn⟩;exact⟨O,s,rfl,s,rfl,hs,A.fr.dO O,λy q=>bb A.fr.size (hn y q)⟩
def IY(w:J)(U:List UInt8)(E:Int)(r:bW)(Y:J):Prop:=∃s:Sl,r=ae (.tuple #[s.v,.i E])/\(E=0->e0 Y s U/\∀b∈az s,w.heap.size<=b)/\(E≠0->s.n=0)
def YV{w0:J}{s t:Sl}{b:List UInt8}(q:Bytes w0 s b)(x:Bytes w0 t b)(C:b.length<=1000000000000):ai V Ob #[s.v,t.v] w0 λr j=>r=ae (.bool true)/\af w0 j:=by
 have D:=Bytes.len q;have E:=Bytes.len x;have loop:∀(k i:Nat) (w:J),i+k=b.length->af w0 w->xx.L0 s t (i:Int) w λr j=>r=ae (.bool true)/\af w0 j:=by
  intro k;induction k with
  |zero=>exact λi w A f=>xx.bE (aN (aW co) ⟨rfl,f⟩)
  |succ k B=>
   intro i w A f;have h:b[i]? =some (b[i]'co):=a' co;generalize b[i]'co=c at h;have d:af w0 w.drew:=f.dO (Fr.drew _ _);refine xx.bE (aM (aR co) ⟨co,co,Bytes.cell (q.bz d) h (by rw[bB]) λp _ y=>⟨_,y,co,co,Bytes.cell (x.bz d) h (by rw[bB]) λF _ z=>⟨_,z,aN ws ?_⟩⟩⟩);rw[bc _ co];exact B (i+1) _ co d
 exact xx.ok (aN (by simp;omega) (loop b.length 0 w0 co (Fr.refl _ _)))
def JY{w:J}{s:Sl}{l:List Nd}(h:GP w s l)(hW:∀d∈l,fA d.x)(hz:∀d∈l,(dJ d.x).length<=1000000)(hl:l.length<=4096):
  ai V ON #[s.v] w (iV w (cL (xs l))):=by
 have hn:=i4 h;have aj:(xs l).length=l.length:=by simp[xs]
 have P:LH F0 w w [] [.gr s l]:=bK _ (by intro e y;simp only[aq,aL,aO]at y;subst y;exact ch.2 h)
 have I:aY (l.length:Int):=⟨co,co⟩;have h0:=dk _ I;have loop:∀(m i:Nat) (out:Sl) (o:List UInt8) (z:J),i+m=l.length->o.length<=10+1000000 *i->o++((xs l).drop i).flatMap dJ=cL (xs l)->LH F0 w z [.by out o] [.gr s l]->
   xH.a6 s out (i:Int) z (iV w (cL (xs l))):=by
  intro m;induction m with
  |zero=>
   intro i out o z ag ho y q;refine xH.bD (aN (aW co) ⟨out,rfl,?_,q.fr,λb E=>(q.new _ (aD (i:=0) rfl) b E).resolve_right id⟩);rw[c9 co,List.flatMap_nil,dy]at y;rw[<-y];exact qW (q.get 0)
  |succ m ih=>
   intro i out o z ag ho y q;have D:l[i]? =some (l[i]'co):=a' co;have K:(xs l).drop i=(l[i]'co).x::(xs l).drop (i+1):=by rw[dz (by omega:i<(xs l).length)];simp[xs]
   generalize l[i]'co=d at D K;have F:=aD D;have W:=hW d F;have hlen:=hz d F;have ao:=hlen;have hu:=W.u;unfold dJ at hlen;simp only[a7]at hlen;refine xH.bD (aM (aR co) (iM (ch.1 (q.getD 0)) rfl D λp hp c=>⟨d.x.op,d.ks,d.x.n,d.x.m,d.x.u,d.x.tx,d.x.st.k,d.x.st.n,d.x.st.x,c.c0,c.c1,c.c2,c.c3,c.c4,c.c5,c.c6,c.c7,c.c8,q.aH λH w2 B=>B.ah λN C=>?_⟩));have C:LH F0 w N [.by out o,.g H] [.gr s l]:=C;refine C.jv (lJ _ W.op N) λt w4 H4 _ j _=>⟨t,rfl,H4.n7 0 rfl j.rd co λo1 w5 G=>?_⟩;refine G.jv (uG ((ch.1 (G.getD 0)).2 d F) W.ks W.kl) λt w6 H6 _ j _=>⟨t,rfl,H6.n7 0 rfl j.rd (by simp only[a7];omega) λo2 w7 H7=>?_⟩;refine H7.jv (lJ _ W.n w7) λt w8 H8 _ j _=>⟨t,rfl,H8.n7 0 rfl j.rd (by simp only[a7];omega) λo3 w9 H9=>?_⟩;refine H9.jv (lJ _ W.m w9) λt ar Q _ j _=>⟨t,rfl,Q.n7 0 rfl j.rd (by simp only[a7];omega) λo4 ak S=>?_⟩;have eu:d.x.u=(d.x.u.toNat:Int):=co
   rw[eu];refine S.jv (z5 d.x.u.toNat co ak) λt au T _ j _=>⟨t,rfl,T.n7 0 rfl j.rd (by simp only[a7];omega) λo5 av U=>?_⟩;refine U.str d.x.tx λtb aw Y E=>?_;have ap:=W.tx;refine Y.jv (z3 E (by rw[dY];omega)) λt ax Z _ j _=>⟨t,rfl,Z.n7 0 rfl j.rd (by simp only[a7];omega) λo6 al aa=>?_⟩;refine aa.jv (lJ _ W.sk al) λt ay ab _ j _=>⟨t,rfl,ab.n7 0 rfl j.rd (by simp only[a7];omega) λo7 am ac=>?_⟩;refine ac.jv (lJ _ W.sn am) λt az ad _ j _=>⟨t,rfl,ad.n7 0 rfl j.rd (by simp only[a7];omega) λo8 an ae=>?_⟩;refine ae.jv (lJ _ W.sx an) λt aA af _ j _=>⟨t,rfl,af.n7 0 rfl j.rd (by simp only[a7];omega) λL M A=>?_⟩;have e1:o++bJ d.x.op++cY d.x.kids++bJ d.x.n++bJ d.x.m++ew d.x.u.toNat++dF (bl d.x.tx)++bJ d.x.st.k++bJ d.x.st.n++bJ d.x.st.x=o++dJ d.x:=by unfold dJ;simp only[ck]
   have A:LH F0 w M [.by L (o++bJ d.x.op++cY d.x.kids++bJ d.x.n++bJ d.x.m++ew d.x.u.toNat++dF (bl d.x.tx)++bJ d.x.st.k++bJ d.x.st.n++bJ d.x.st.x),.g H] [.gr s l]:=A;rw[e1]at A;rw[bc _ co];refine ih (i+1) L (o++dJ d.x) M co (by rw[a7];omega) ?_ (A.take 1);rw[<-y,K,cH,ck]
 refine xH.aC ?_;rw[hn];refine P.ZK (lJ _ I w) λt z q O j nt=>⟨t,rfl,?_⟩;have B:=O.own (.by t (bJ (l.length:Int))) j.2 nt;exact loop l.length 0 t _ z co co (by rw[List.drop_zero];unfold cL;rw[aj]) B
def g8.en{n:Nat}{s:bO}(h:g8 n s)(d:n<=1000):wy s:=
 ⟨h.k.1,h.k.2.1,h.k.2.2,⟨h.p.2,by have:=h.p.1;omega⟩,⟨h.l.2,by have:=h.l.1;omega⟩,⟨h.h.2,by have:=h.h.1;omega⟩,by have:=h.t;omega⟩
def YI{w:J}{x:Lx}(j:hQ 40 x)(h:wJ w x):ai V O6 #[x.m.v] w (iV w (dx x.p)):=by
 have y:=j.g;have Q:∀d∈x.gl,(dJ d.x).length<=1000000:=λd k=>(y.2 d.x (bS.2 ⟨d,k,rfl⟩)).small co;have M:∀d∈x.gl,fA d.x:=λd k=>(y.2 d.x (bS.2 ⟨d,k,rfl⟩)).wd;have aa:(cL (xs x.gl)).length<=40000010:=by
  have W:=A5 (z:=1000000) (g:=xs x.gl) λd k=>(y.2 d k).small co;have Y:=dk ((xs x.gl).length:Int) (by simp[xs];omega);have Z:(xs x.gl).length=x.gl.length:=by simp[xs]
  unfold cL;rw[a7];omega
 have ab:=EE (b:=cL (xs x.gl)) co;have hh:=j.h.1;have hc:=j.c.1;have G:=j.s.1;have l1:=qA j.h.2 co;have l2:=qA j.c.2 co;have l3:=af8 (ss:=bq x.ds) (λs G=>by obtain⟨d,k,rfl⟩:=bS.1 G;exact(j.s.2 d k).en co) (by simp;omega);have ac:(bq x.ds).length=x.ds.length:=ws
 have H:∀e∈[En.gr x.m.g x.gl,.rd x.m.h (x.hy.map a5),.rd x.m.c (x.cl.map a5),.sp x.m.s x.ds],e.P w:=λe F=>by
  simp only[aq,aL,aO]at F;rcases F with rfl|rfl|rfl|rfl
  .exact ch.2 h.1
  .exact h.2.1
  .exact h.2.2.1
  .exact dM.2 h.2.2.2
 refine Ly.aC ((bK (w:=w) _ H).aH λU w1 A=>A.jv (JY (ch.1 (A.getD 0)) M Q co) λt T _ I O S=>⟨t,rfl,?_⟩);have B:=I.rd (.rd t ((cL (xs x.gl)).map bL)) O.rd (eP S);refine B.jv (z3 (show Bytes T t (cL (xs x.gl))from B.getD 4) co) λo w3 _ K N no=>⟨o,rfl,?_⟩;have L:=K.own (.by o (dF (cL (xs x.gl)))) N.2 no;refine L.ah λw4 C=>?_;refine C.mQ 1 rfl co co (uG (l:=x.hy) (C.getD 1) j.h.2 co) λs1 w5 D=>?_;refine D.mQ 1 rfl (by rw[a7];omega) co (uG (l:=x.cl) (D.getD 2) j.c.2 co) λs2 w6 E=>?_;refine E.mQ 1 rfl (by simp only[a7];omega) co (J5 (dM.1 (E.getD 3)) (λd k=>(j.s.2 d k).en co) co) λs3 w7 q=>?_;have e:dF (cL (xs x.gl))++cY x.hy++cY x.cl++eJ (bq x.ds)=dx x.p:=by unfold dx Lx.p;simp only[ck]
 rw[e]at q;exact⟨s3,rfl,qW (q.get 1),q.fr,λb j=>(q.new _ (aD (i:=1) rfl) b j).resolve_right id⟩
def vj:List ByteArray:=[ba [],ba [97],ba [98],ba [99],ba [100,100]]
structure j6(pl i aB:Nat)(s:bO):Prop where
 kind:0<=s.kind/\s.kind<=5
 node:aY s.node/\(s.kind=4->0<=s.node/\s.node<(aB:Int))
 da:aY s.da
 params:(∀x∈s.params,aY x)/\s.params.length<=pl
 bM:gB s.bM=0/\(∀x∈s.bM,aY x)/\s.bM.length<=3
 hints:(∀x∈s.hints,0<=x/\x<(i:Int))/\s.hints.length<=2
 nm:s.nm∈vj
def afv{M:Nat->Prop}{w0 w:J}{L D D1:List En}{l:List Sp}{d:Sp}(H:LH M w0 w L D1)(A:∀e∈D,e∈D1)(j:bX l∈D1)(z:∀e∈[d.pE,d.hE,d.lE],e∈D1\/(e.fp=[]/\∀w,e.P w)):LH M w0 w L (D++[bX (l++[d])]):=by
 have k:∀e∈iw (l++[d]),e∈iw l\/e∈[d.pE,d.hE,d.lE]:=λe h=>by grind
 refine H.iq _ λe h=>?_;rcases aX.1 h with h|h
 .grind
 .rw [b0.1 h];refine⟨λq e h=>?_,λb x=>?_⟩
  .rcases k e h with h|h
   .exact q (bX l) j e h
   grind
  .obtain ⟨e,h,y⟩:=bI.1 x;rcases k e h with h|h
   .exact ⟨bX l,j,bI.2 ⟨e,h,y⟩⟩
   grind
def vh:(En.rd ⟨none,0,0⟩ (([]:List Int).map a5)).fp=[]/\∀d,(En.rd ⟨none,0,0⟩ (([]:List Int).map a5)).P d:=⟨by simp[En.rd],λd=>Rd.nil d⟩
def wz(w0:J)(D:List En)(cD:Nat)(r:bW)(Y:J):Prop:=∃(aB st:Sl) (ls:List Lm) (ds:List Sp),r=ae (.agg #[aB.v,st.v])/\LH F0 w0 Y [.row fw 4 aB (ls.flatMap Lm.cs),.row dD 7 st (ds.flatMap Sp.c)] (D++[bX ds])/\
 (∀b∈(bX ds).fp,w0.heap.size<=b)/\ls.length<=2/\ds.length<=cD/\∀i d,ds[i]? =some d->j6 1 i ls.length d.x
abbrev q9(d:Nat)(x:bO)(p l h:Sl):En:=.c d [.i x.kind,.i x.node,.i x.da,p.v,.string x.nm,l.v,h.v] dD
section
variable {w0:J} {cD b4 b5 b9:Nat} {l0 aB st:Sl} {xs:List Int} {ls:List Lm} {ds:List Sp} {D:List En}
def Wt(n m:Nat):cw (n:Int) (m:Int)=((n%m:Nat):Int):=rfl
abbrev wC(w0:J)(b4 b5:Nat)(aB:Sl)(ls:List Lm)(st:Sl)(ds:List Sp)(D:List En)(w:J):Prop:=LH F0 w0 w (iL b4 b5 aB ls st ds) (D++[bX ds])
def Mj{j:Nat}{x:bO}{p l h:Sl}{D1:List En}{w:J}{R:aK}(hi:j<=1000000)(K:ds.length<=1000000)(H:LH F0 w0 w (iL b4 b5 aB ls st ds++[q9 b9 x p l h]) D1)(G:∀e∈D,e∈D1)(E:bX ds∈D1)(B:∀e∈[Sp.pE ⟨x,p,l,h⟩,Sp.hE ⟨x,p,l,h⟩,Sp.lE ⟨x,p,l,h⟩],(e∈D1\/(e.fp=[]/\∀w,e.P w)))(C:∀k q,wC w0 b4 b5 aB ls k (ds++[⟨x,p,l,h⟩]) D q->gS.L2 l0 cD (ab b4) (ab b5) ((j+1:Nat):Int) q R):
  gS.S6 l0 cD (ab b4) (ab b5) (j:Int) (ab b9) w R:=by
 have F:=(H.get 3:aG _ _ _ _ _).len;rw[Sp.e1]at F;refine⟨st,H.ld 1 1,_,_,_,_,_,_,_,H.ld 4 0,H.ld 4 1,H.ld 4 2,H.ld 4 3,H.ld 4 4,H.ld 4 5,H.ld 4 6,H.uf 3 uI rfl (λk L y _ _=>y.st 1 1 rfl λI z=>?_) co⟩;rw[bc _ co];refine C k I (afv (l:=ds) (d:=(⟨x,p,l,h⟩:Sp)) ?_ G E B);have e:(ds++[(⟨x,p,l,h⟩:Sp)]).flatMap Sp.c=ds.flatMap Sp.c++Sp.c ⟨x,p,l,h⟩:=ws
 have A:=z.take 4;unfold iL;rw[e];exact A
structure XB(w0:J)(b4 b5 b9:Nat)(aB:Sl)(ls:List Lm)(st:Sl)(ds:List Sp)(D:List En)(i7:Nat)(x:bO)(p l:Sl)(w:J):Prop where
 g:j6 1 i7 ls.length x/\x.hints=[]
 H:∃D1,LH F0 w0 w (iL b4 b5 aB ls st ds++[q9 b9 x p l ⟨none,0,0⟩]) D1/\(∀e∈D,e∈D1)/\bX ds∈D1/\(∀e∈[Sp.pE ⟨x,p,l,⟨none,0,0⟩⟩,Sp.lE ⟨x,p,l,⟨none,0,0⟩⟩],(e∈D1\/(e.fp=[]/\∀w,e.P w))/\∀b∈e.fp,w0.heap.size<=b)
def xU{j n:Nat}{x:bO}{p l:Sl}{w:J}{R:aK}(hi:j<=1000000)(hn:n<=1073741824)(Y:ds.length<=1000000)(ac:XB w0 b4 b5 b9 aB ls st ds D j x p l w)(hk:∀(d:Sp) E B,j6 1 j ls.length d.x->(∀e∈[d.pE,d.hE,d.lE],∀b∈e.fp,w0.heap.size<=b)->wC w0 b4 b5 aB ls E (ds++[d]) D B->gS.L2 l0 cD (ab b4) (ab b5) ((j+1:Nat):Int) B R):
  gS.S4 l0 cD (ab b4) (ab b5) (j:Int) (n:Int) (ab b9) w R:=by
 obtain⟨⟨y,Z⟩,G,H,hs,hl,aa⟩:=ac;have hp:=aa _ (List.mem_cons_self ..);have al:=aa _ (e6 _ (List.mem_cons_self ..));have W:gS.S6 l0 cD (ab b4) (ab b5) (j:Int) (ab b9) w R:=by
  refine Mj (x:=x) (p:=p) (l:=l) (h:=⟨none,0,0⟩) hi Y H hs hl (λe k=>?_) λE B L=>hk ⟨x,p,l,⟨none,0,0⟩⟩ E B y (λe k=>?_) L
  .simp only[aq,aL,aO]at k;rcases k with rfl|rfl|rfl
   .grind
   .refine .inr ?_;show(En.rd ⟨none,0,0⟩ (x.hints.map a5)).fp=[]/\∀w,(En.rd ⟨none,0,0⟩ (x.hints.map a5)).P w;rw[Z];exact vh
   grind
  .simp only[aq,aL,aO]at k;rcases k with rfl|rfl|rfl
   .grind
   .intro b q;have q:b∈(En.rd ⟨none,0,0⟩ (x.hints.map a5)).fp:=q;rw[Z,vh.1]at q;cases q
   grind
 refine aF (λak=>?_) (λ_=>W);have U:gS.S5 l0 cD (ab b4) (ab b5) (j:Int) (n:Int) (ab b9) w R:=by
  have af:aj .i64 (bQ (n:Int) 8)=((n / 8:Nat):Int):=by rw[show bQ (n:Int) 8=((n / 8:Nat):Int)from rfl,aQ _ co]
  have ae:aj .i64 (bQ (n:Int) 64)=((n / 64:Nat):Int):=by rw[show bQ (n:Int) 64=((n / 64:Nat):Int)from rfl,aQ _ co]
  have ad:aj .i64 (bQ (n:Int) 256)=((n / 256:Nat):Int):=by rw[show bQ (n:Int) 256=((n / 256:Nat):Int)from rfl,aQ _ co]
  have fin:∀(z:List Int) (h:Sl) (F:J),(∀K∈z,0<=K/\K<(j:Int))->z.length<=2->LH F0 w0 F (iL b4 b5 aB ls st ds++[q9 b9 x p l h,.row cb 1 h (z.map a5)]) G->gS.S6 l0 cD (ab b4) (ab b5) (j:Int) (ab b9) F R:=by
   intro z h F I N A;have ag:∀b∈az h,w0.heap.size<=b:=λb q=>(A.new _ (aD (i:=5) rfl) b q).resolve_right id;have M:LH F0 w0 F (iL b4 b5 aB ls st ds++[q9 b9 x p l h]) (G++[.rd h (z.map a5)]):=A.freeze 5 (.rd h (z.map a5)) rfl (aG.hq (A.get 5)) λb q=>oP q
   let x':bO:=⟨x.kind,x.node,x.da,x.params,x.nm,x.bM,z⟩
   refine Mj (x:=x') (p:=p) (l:=l) (h:=h) hi Y M (λe k=>bV _ (hs e k)) (bV _ hl) (λe k=>?_) λE B L=>hk ⟨x',p,l,h⟩ E B ⟨y.kind,y.node,y.da,y.params,y.bM,⟨I,N⟩,y.nm⟩ (λe k=>?_) L
   .grind
   .simp only[aq,aL,aO]at k;rcases k with rfl|rfl|rfl
    .grind
    .exact eP ag
    grind
  have am:n / 8%j<j:=Nat.mod_lt _ co;have an:n / 256%j<j:=Nat.mod_lt _ co;have H0:LH F0 w0 w (iL b4 b5 aB ls st ds++[q9 b9 x p l ⟨none,0,0⟩,.row cb 1 ⟨none,0,0⟩ []]) G:=H.fY cb 1;refine H0.dr λw1 O=>⟨⟨none,0,0⟩,O.ld 4 6,co,?_⟩;rw[af,ae,ad,Wt,Wt];refine O.k7 λF _ A ah=>⟨A.ld 4 6,A.ap 5 iH (s:=⟨none,0,0⟩) (src:=⟨some (ab w1.heap.size),1,1⟩) (news:=[.i ((n / 8%j:Nat):Int)]) rfl (mf (n:=1) (sz:=1) (cs:=[.i ((n / 8%j:Nat):Int)]) ah rfl).2.2 rfl (by simp[Value.oneCell']) (by grind) λC w3 M ao _=>M.st 4 6 rfl λw4 H4=>?_⟩;have Q:LH F0 w0 w4 (iL b4 b5 aB ls st ds++[q9 b9 x p l C,.row cb 1 C ([((n / 8%j:Nat):Int)].map a5)]) G:=H4;refine aF (λ_=>Q.dr λw5 S=>⟨C,S.ld 4 6,co,?_⟩) (λ_=>fin [((n / 8%j:Nat):Int)] C w4 (λK I=>by grind) ws Q);refine S.k7 λw6 _ T ai=>⟨T.ld 4 6,T.ap 5 iH (s:=C) (src:=⟨some (ab w5.heap.size),1,1⟩) (news:=[.i ((n / 256%j:Nat):Int)]) rfl (mf (n:=1) (sz:=1) (cs:=[.i ((n / 256%j:Nat):Int)]) ai rfl).2.2 rfl (by simp[Value.oneCell']) (by grind) λN w7 H7 _ _=>H7.st 4 6 rfl λw8 H8=>?_⟩;exact fin [((n / 8%j:Nat):Int),((n / 256%j:Nat):Int)] N w8 (by intro K I;simp only[aq,aL,aO]at I;omega) ws H8
 exact⟨x.kind,H.ld 4 0,aP (λ_=>U) (λ_=>⟨x.kind,H.ld 4 0,aP (λ_=>U) (λ_=>W)⟩)⟩
def acK{c:Int}(h:c=2\/c=-2\/c=3\/c=-3):gB [c]=0/\(∀d∈[c],aY d)/\[c].length<=3:=by
 refine⟨?_,λd j=>?_,ws⟩
 .rcases h with rfl|rfl|rfl|rfl<;>decide
 grind
def Ap:aY 0:=md
def aaZ{G n k m:Nat}{c:Int}{l:Sl}{D1:List En}{w:J}{R:aK}(hi:G<=1000000)(B:n<=1073741824)(y:ds.length<=1000000)(al:ls.length<=1000)(ai:k<=5)(hm:m<=2)(hc:c=2\/c=-2\/c=3\/c=-3)(H:LH F0 w0 w (iL b4 b5 aB ls st ds++[q9 b9 ⟨(k:Int),(m:Int),0,[],ba [],[c],[]⟩ ⟨none,0,0⟩ l ⟨none,0,0⟩]) D1)(C:∀e∈D,e∈D1)(E:bX ds∈D1)(hl:En.rd l ([c].map a5)∈D1)(ak:∀b∈(En.rd l ([c].map a5)).fp,w0.heap.size<=b)(z:∀(d:Sp) gg Y,j6 1 G ls.length d.x->(∀e∈[d.pE,d.hE,d.lE],∀b∈e.fp,w0.heap.size<=b)->wC w0 b4 b5 aB ls gg (ds++[d]) D Y->gS.L2 l0 cD (ab b4) (ab b5) ((G+1:Nat):Int) Y R):
  gS.S3 l0 cD (ab b4) (ab b5) (G:Int) (n:Int) (ab b9) w R:=by
 have A:=acK hc;have an:aB.n=ls.length:=by have:=(H.get 2:aG _ _ _ _ _).len;rw[Lm.len]at this;omega
 have two:∀{Y:J} {x:bO},x.params=[]->x.bM=[c]->∀e∈[Sp.pE ⟨x,⟨none,0,0⟩,l,⟨none,0,0⟩⟩,Sp.lE ⟨x,⟨none,0,0⟩,l,⟨none,0,0⟩⟩],(e∈D1\/(e.fp=[]/\∀w,e.P w))/\∀b∈e.fp,w0.heap.size<=b:=by
  intro Y x S T e h;simp only[aq,aL,aO]at h;rcases h with rfl|rfl
  .have e:Sp.pE ⟨x,⟨none,0,0⟩,l,⟨none,0,0⟩⟩=.rd ⟨none,0,0⟩ (([]:List Int).map a5):=by grind
   rw[e];exact⟨.inr vh,λb j=>by rw[vh.1]at j;cases j⟩
  grind
 have ah:∀N<4,∃F,F∈vj/\(#[.string (bn #[97]),.string (bn #[98]),.string (bn #[99]),.string (bn #[100,100])]:Array aa)[N]? =some (.string F):=by
  intro N hj
  match N,hj with
  |0,_=>exact⟨_,.tail _ (.head _),rfl⟩
  |1,_=>exact⟨_,.tail _ (.tail _ (.head _)),rfl⟩
  |2,_=>exact⟨_,.tail _ (.tail _ (.tail _ (.head _))),rfl⟩
  |3,_=>exact⟨_,.tail _ (.tail _ (.tail _ (.tail _ (.head _)))),rfl⟩
 have I:ba []∈vj:=.head _;refine⟨(k:Int),H.ld 4 0,aP (λS=>?_) (λS=>aP (λT=>?_) (λT=>aP (λU=>?_) (λU=>?_)))⟩
 .
  obtain⟨F,ae,hg⟩:=ah (n%4) (Nat.mod_lt _ co);refine H.k7 λw1 _ W ag=>⟨by grind,by grind,qV ⟨F,?_,W.st 4 4 rfl λw2 Z=>?_⟩⟩
  .rw [show cw (n:Int) 4=((n%4:Nat):Int)from rfl,bB,Nat.mul_one];exact cellAt (p:=ab w.heap.size) ag rfl (by grind)
  .exact xU (x:=⟨(k:Int),(m:Int),0,[],F,[c],[]⟩) (p:=⟨none,0,0⟩) (l:=l) hi B y ⟨⟨⟨⟨by grind,by grind⟩,⟨by grind,λq=>by grind⟩,Ap,⟨ws,ws⟩,A,⟨ws,ws⟩,ae⟩,rfl⟩,D1,Z,C,E,two (Y:=w) rfl rfl⟩ z
 .
  have hr:cw (n:Int) 2=((n%2:Nat):Int):=rfl;have af:cw (aj .i64 (bQ (n:Int) 2)) 3=((n / 2%3:Nat):Int):=by rw[show bQ (n:Int) 2=((n / 2:Nat):Int)from rfl,aQ _ co];rfl
  rw[hr,af];refine H.st 4 2 rfl λK H3=>H3.cZ (n:=1) (sz:=1) (cs:=[((n / 2%3:Nat):Int)].map a5) rfl md λw4 L=>?_;have ac:∀b∈az ⟨some (ab K.heap.size),1,1⟩,w0.heap.size<=b:=λb j=>(L.new _ (aD (i:=5) rfl) b j).resolve_right id;have H5:LH F0 w0 w4 (iL b4 b5 aB ls st ds++[q9 b9 ⟨(k:Int),(m:Int),((n%2:Nat):Int),[],ba [],[c],[]⟩ ⟨none,0,0⟩ l ⟨none,0,0⟩]) (D1++[.rd ⟨some (ab K.heap.size),1,1⟩ ([((n / 2%3:Nat):Int)].map a5)]):=L.freeze 5 (.rd ⟨some (ab K.heap.size),1,1⟩ ([((n / 2%3:Nat):Int)].map a5)) rfl (aG.hq (L.get 5)) λb j=>oP j;refine H5.st 4 3 rfl λw5 M=>?_;refine xU (x:=⟨(k:Int),(m:Int),((n%2:Nat):Int),[((n / 2%3:Nat):Int)],ba [],[c],[]⟩) (p:=⟨some (ab K.heap.size),1,1⟩) (l:=l) hi B y ⟨⟨⟨⟨by grind,by grind⟩,⟨by grind,λq=>by grind⟩,by grind,⟨λao hy=>by grind,ws⟩,A,⟨ws,ws⟩,I⟩,rfl⟩,_,M,λe h=>bV _ (C e h),bV _ E,λe h=>?_⟩ z;simp only[aq,aL,aO]at h;rcases h with rfl|rfl
  .exact ⟨.inl (eD _ (b0.2 rfl)),eP ac⟩
  grind
 .
  refine⟨aB,H.ld 1 0,aP (λQ=>H.st 4 0 rfl λw6 M=>?_) (λQ=>⟨aB,H.ld 1 0,Q,H.st 4 1 rfl λw7 O=>?_⟩)⟩
  .exact xU (x:=⟨0,(m:Int),0,[],ba [],[c],[]⟩) (p:=⟨none,0,0⟩) (l:=l) hi B y ⟨⟨⟨⟨by grind,by grind⟩,⟨by grind,λq=>by cases q⟩,Ap,⟨ws,ws⟩,A,⟨ws,ws⟩,I⟩,rfl⟩,D1,M,C,E,two (Y:=w) rfl rfl⟩ z
  .have e:cw (n:Int) (aB.n:Int)=((n%ls.length:Nat):Int):=by grind
   have ad:0<ls.length:=co
   have am:n%ls.length<ls.length:=Nat.mod_lt _ ad;rw[e]at O;exact xU (x:=⟨(k:Int),((n%ls.length:Nat):Int),0,[],ba [],[c],[]⟩) (p:=⟨none,0,0⟩) (l:=l) hi B y ⟨⟨⟨⟨by grind,by grind⟩,⟨by grind,λ_=>by grind⟩,Ap,⟨ws,ws⟩,A,⟨ws,ws⟩,I⟩,rfl⟩,D1,O,C,E,two (Y:=w) rfl rfl⟩ z
 .exact xU (x:=⟨(k:Int),(m:Int),0,[],ba [],[c],[]⟩) (p:=⟨none,0,0⟩) (l:=l) hi B y ⟨⟨⟨⟨by grind,by grind⟩,⟨by grind,λq=>absurd q U⟩,Ap,⟨ws,ws⟩,A,⟨ws,ws⟩,I⟩,rfl⟩,D1,H,C,E,two (Y:=w) rfl rfl⟩ z
def aaY(hx:∀A∈xs,aY A)(av:xs.length<=9223372036854775807)(ar:cD<=1000)(M:En.rd l0 (xs.map a5)∈D)(af:ls.length<=2):∀(k d:Nat) (st:Sl) (ds:List Sp) (w:J),d+k=cD->ds.length=d->(∀i j,ds[i]? =some j->j6 1 i ls.length j.x)->(∀b∈(bX ds).fp,w0.heap.size<=b)->wC w0 b4 b5 aB ls st ds D w->
  gS.L2 l0 cD (ab b4) (ab b5) (d:Int) w λr F=>wz w0 D cD r F:=by
 intro k;have done:∀(d:Nat) (st:Sl) (ds:List Sp) (w:J),ds.length<=cD->(∀i j,ds[i]? =some j->j6 1 i ls.length j.x)->(∀b∈(bX ds).fp,w0.heap.size<=b)->wC w0 b4 b5 aB ls st ds D w->gS.S7 (ab b4) (ab b5) w λr F=>wz w0 D cD r F:=by intro d st ds w ad z q h;refine⟨aB,st,h.ld 1 0,h.ld 1 1,h.j0 0 rfl λP H=>H.st 0 1 rfl λG B=>⟨aB,st,B.ld 0 0,B.ld 0 1,aB,st,ls,ds,rfl,?_,q,af,ad,z⟩⟩;exact B.jh [false,false,true,true]
 induction k with
 |zero=>
  intro d st ds w hk N z q h;have hn:=bx.len (h.rd _ (bV _ M):bx w l0 xs);exact gS.j7 _ _ _ _ _ _ _ (aF (λ_=>aN (aW co) (done d st ds w co z q h)) (λ_=>done d st ds w co z q h))
 |succ k ih=>
  intro d st ds w hk N z q h;have O:bx w l0 xs:=h.rd _ (bV _ M);have hn:=bx.len O;refine gS.j7 _ _ _ _ _ _ _ (aF (λaq=>aM (aR co) ?_) (λ_=>done d st ds w co z q h));have K:xs[d]? =some xs[d]:=a' co;generalize xs[d]=A at K;have hy:=hx A (aD K);refine⟨co,co,bx.cell O K co λaw _ ag=>⟨A,ag,h.call (ko A 1073741824 w co hy) ?_⟩⟩;rintro _ P rfl H;obtain⟨r1,r2⟩:=kc A 1073741824 co;obtain⟨t,ht⟩:=Int.eq_ofNat_of_zero_le r1;rw[ht]at r2 ⊢;have W:cw (aj .i64 (bQ (t:Int) 18)) 4=((t / 18%4:Nat):Int):=by rw[show bQ (t:Int) 18=((t / 18:Nat):Int)from rfl,aQ _ co];rfl
  have Y:cw (t:Int) 6=((t%6:Nat):Int):=rfl;have Z:cw (aj .i64 (bQ (t:Int) 6)) 3=((t / 6%3:Nat):Int):=by rw[show bQ (t:Int) 6=((t / 6:Nat):Int)from rfl,aQ _ co];rfl
  have ac:aj .i64 (bQ (t:Int) 72)=((t / 72:Nat):Int):=by rw[show bQ (t:Int) 72=((t / 72:Nat):Int)from rfl,aQ _ co]
  have ak:∀L<4,∃c:Int,(c=2\/c=-2\/c=3\/c=-3)/\(#[.i 2,.i (-2),.i 3,.i (-3)]:Array aa)[L]? =some (.i c):=by
   intro L hj
   match L,hj with
   |0,_=>grind
   |1,_=>grind
   |2,_=>exact⟨3,.inr (.inr (.inl rfl)),rfl⟩
   |3,_=>exact⟨-3,.inr (.inr (.inr rfl)),rfl⟩
  obtain⟨c,hc,an⟩:=ak (t / 18%4) (Nat.mod_lt _ co);refine⟨(t:Int),rfl,?_⟩;dsimp only;rw[W,Y,Z,ac];refine H.k7 λG _ B ai=>⟨co,co,qV ⟨c,?_,?_⟩⟩
  .rw [bB,Nat.mul_one];exact cellAt (p:=ab P.heap.size) ai rfl (by grind)
  refine B.cZ (n:=1) (sz:=1) (cs:=[c].map a5) rfl md λw3 I=>?_;have ae:∀b∈az ⟨some (ab G.heap.size),1,1⟩,w0.heap.size<=b:=λb C=>(I.new _ (aD (i:=4) rfl) b C).resolve_right id;have S:LH F0 w0 w3 (iL b4 b5 aB ls st ds) (D++[bX ds]++[.rd ⟨some (ab G.heap.size),1,1⟩ ([c].map a5)]):=I.freeze 4 (.rd ⟨some (ab G.heap.size),1,1⟩ ([c].map a5)) rfl (aG.hq (I.get 4)) λb C=>oP C;refine S.nw λw4 _ T=>T.st7 4 rfl λw5 U=>?_;refine aaZ (k:=t%6) (m:=t / 6%3) (n:=t / 72) (c:=c) (l:=⟨some (ab G.heap.size),1,1⟩) co co co co co co hc U (λe y=>bV _ (bV _ y)) (bV _ (eD _ (b0.2 rfl))) (eD _ (b0.2 rfl)) (eP ae) λj al F ap ao Q=>?_;refine ih (d+1) al (ds++[j]) F co (by simp[N]) (λi e y=>?_) (λb C=>?_) Q
  .rw [List.getElem?_append]at y;split at y
   .grind
   .rename_i au;have:i - ds.length=0:=by grind
    rw[this]at y;have y:j=e:=by grind
    have hi:i=d:=co
    grind
  .obtain ⟨am,E,ah⟩:=bI.1 C;simp only[iw,cW,aX,cH,List.flatMap_nil,dy]at E;rcases E with E|E
   .exact q b (bI.2 ⟨am,E,ah⟩)
   grind
end
def JM{w:J}{D:List En}{y:Sl}{xs:List Int}(x:∀ac∈xs,aY ac)(S:xs.length<=9223372036854775807){cD:Nat}(Q:cD<=1000)(q:En.rd y (xs.map a5)∈D)(H:LH F0 w w [] D):
  ai V Pb #[y.v,.i (cD:Int)] w λr Y=>wz w D cD r Y:=by
 refine gS.ok _ _ w _ (H.nw λz _ G=>G.nw λA _ I=>I.j0 1 rfl λE K=>K.st 1 1 rfl λZ M=>?_);have nil:∀{L:List En} {Y:J},LH F0 w Y L D->LH F0 w Y L (D++[bX []]):=λH=>H.iq _ λe h=>by
  rcases aX.1 h with h|h
  .grind
  .rw [b0.1 h];exact⟨λ_=>λe h=>by grind,λb B=>by
    obtain⟨e,h,_⟩:=bI.1 B
    grind⟩
 have N:=(M.fY fw 4).fY dD 7;have loop:∀(k i:Nat) (aB:Sl) (ls:List Lm) (Y:J),i+k=2->ls.length=i->LH F0 w Y (iL w.heap.size z.heap.size aB ls ⟨none,0,0⟩ []) D->gS.L0 y cD (ab w.heap.size) (ab z.heap.size) (i:Int) Y λr Y=>wz w D cD r Y:=by
  intro k;have next:∀(aB:Sl) (ls:List Lm) (Y:J),ls.length<=2->LH F0 w Y (iL w.heap.size z.heap.size aB ls ⟨none,0,0⟩ []) D->gS.L2 y cD (ab w.heap.size) (ab z.heap.size) 0 Y λr Y=>wz w D cD r Y:=λaB ls Y C d=>
   aaY x S Q q C cD 0 ⟨none,0,0⟩ [] Y co rfl (λi ad ae=>by grind) (λb B=>by
    obtain⟨e,h,_⟩:=bI.1 B
    grind) (nil d)
  induction k with
  |zero=>
   intro i aB ls Y P C d;refine gS.bE _ _ _ _ _ _ _ (d.call (rX (d.rd _ q) x 0 3 co) ?_);rintro _ A ⟨t,rfl,U,W⟩ j;exact⟨_,rfl,aN (aW co) (next aB ls A co j)⟩
  |succ k T=>
   intro i aB ls Y P C d;refine gS.bE _ _ _ _ _ _ _ (d.call (rX (d.rd _ q) x 0 3 co) ?_);rintro _ A ⟨t,rfl,U,W⟩ j;refine⟨_,rfl,aF (λ_=>?_) (λ_=>next aB ls A co j)⟩;refine aa0 j co (λaf F=>⟨xs,F.rd _ q,x⟩) λs aa E O=>?_;show gS.L0 _ _ _ _ (aj .i64 _) _ _;rw[bc _ co];exact T (i+1) s (ls++[aa]) E co (by grind) O
 exact loop 2 0 ⟨none,0,0⟩ [] Z rfl rfl N
def _root_.Go.W.LH.KU{M:Nat->Prop}{w0 w Y:J}{G L' D X:List En}(H:LH M w0 w G D)(h:LH F0 w Y L' (D++X))(x:∀e∈X,∀b∈e.fp,w.heap.size<=b):LH M w0 Y (G++L') (D++X):=by
 have q:LH M w0 w (G++[]) D:=by rw[dy];exact H
 refine q.z7 (L:=[]) ⟨h.fr.mono λ_ _ k=>k.elim,h.own,h.rd,λe d b j=>(h.new e d b j).imp id λk=>k.elim,h.nd,h.dj⟩ λe d b j=>?_;rcases aX.1 d with d|d
 .exact .inr ⟨e,d,j⟩
 .exact .inl (x e d b j)
section
variable {w0:J} {b6 b7:Nat} {m1 aB st:Sl} {ms:List Int} {D:List En}
abbrev iv(b6 b7:Nat)(aB:Sl)(ls:List Lm)(st:Sl)(ds:List Sp):List En:=[.g b6,.g b7,.row fw 4 aB (ls.flatMap Lm.cs),.row dD 7 st (ds.flatMap Sp.c)]
def Lm.set{l:List Lm}{i:Nat}(hi:i<l.length)(x:Lm):((((l.flatMap Lm.cs).set (i *4+0) x.g.v).set (i *4+1) x.h.v).set (i *4+2) x.c.v).set (i *4+3) x.s.v=(l.set i x).flatMap Lm.cs:=by
 induction l generalizing i with
 |nil=>simp at hi
 |cons a l k=>
  cases i with
  |zero=>simp[Lm.cs]
  |succ i=>
   have j:a.cs.length=4:=rfl;have hi:i<l.length:=by simpa using hi
   have e:∀d,(i+1) *4+d=a.cs.length+(i *4+d):=λd=>by rw[j];omega
   simp only[cH,List.set_cons_succ,e];rw[List.set_append_right _ _ co,List.set_append_right _ _ ws,List.set_append_right _ _ ws,List.set_append_right _ _ ws];simp only[Nat.add_sub_cancel_left];rw[k hi]
def afx{X:List En}{ls:List Lm}{ds:List Sp}{w:J}{i:Nat}{K:J->Prop}{U:List Nat}(x:Lm)(H:LH F0 w0 w (iv b6 b7 aB ls st ds++X) D)(hi:i<ls.length)(bG:∀b∈U,En.g b∈[En.g b6,En.g b7]++X)(P:∀G,LH F0 w0 G (iv b6 b7 aB (ls.set i x) st ds++X) D->K G):
  fx aB (i:Int) λp=>aS w (p.add (a0 (i:Int) *4)) x.g.v λq=>kept U w q/\aS q ((p.add (a0 (i:Int) *4)).add 1) x.h.v λy=>kept U q y/\aS y ((p.add (a0 (i:Int) *4)).add 2) x.c.v λz=>kept U y z/\aS z ((p.add (a0 (i:Int) *4)).add 3) x.s.v λA=>kept U z A/\K A:=by
 have F:aG w fw 4 aB (ls.flatMap Lm.cs):=H.get 2;have S:=F.len;have B:=Lm.len ls;rw[B]at S;have k:∀(C E:En),∀b∈U,En.g b∈(En.g b6::En.g b7::C::E::X):=λC E b d=>by
  have:=bG b d;simp only[je,List.nil_append,aq]at this ⊢;rcases this with d|d|d
  .exact .inl d
  .exact .inr (.inl d)
  .exact .inr (.inr (.inr (.inr d)))
 obtain⟨p,j⟩:∃p,aB.a=some p:=by
  rcases F.cases with⟨T,O⟩|⟨g,cur,Q,_⟩
  .rw [O]at B;simp at B;omega
  .exact ⟨_,Q⟩
 rw[bB];refine⟨co,co,ym j (H.pU 2 (i *4) rfl j co (bG:=k _ _) λq I=>I.oV 2 (i *4) 1 rfl j (by simp only[List.length_set];omega) (bG:=k _ _) λy L=>L.oV 2 (i *4) 2 rfl j (by simp only[List.length_set];omega) (bG:=k _ _) λz M=>M.oV 2 (i *4) 3 rfl j (by simp only[List.length_set];omega) (bG:=k _ _) λA N=>P A ?_)⟩;unfold iv;rw[<-Lm.set hi x];exact N
def Sp.set{l:List Sp}{i:Nat}{d:Sp}(hi:l[i]? =some d)(j:Nat)(q:j<7)(v:aa)(d':Sp)(k:d'.c=d.c.set j v):(l.flatMap Sp.c).set (i *7+j) v=(l.set i d').flatMap Sp.c:=by
 induction l generalizing i with
 |nil=>simp at hi
 |cons a l w=>
  cases i with
  |zero=>
   simp only[List.getElem?_cons_zero,Option.some.injEq]at hi;subst hi;simp only[cH,List.set_cons_zero,Nat.zero_mul,Nat.zero_add];rw[List.set_append_left _ _ (by rw[Sp.ke];exact q),k]
  |succ i=>
   have h:a.c.length=7:=rfl;simp only[List.getElem?_cons_succ]at hi;have e:(i+1) *7+j=a.c.length+(i *7+j):=by rw[h];omega
   simp only[cH,List.set_cons_succ,e];rw[List.set_append_right _ _ co,Nat.add_sub_cancel_left,w hi]
def BT{X:List En}{ls:List Lm}{ds:List Sp}{w:J}{i:Nat}{d d':Sp}{K:J->Prop}(H:LH F0 w0 w (iv b6 b7 aB ls st ds++X) D)(hi:ds[i]? =some d)(j:Nat)(F:j<7)(v:aa)(E:d'.c=d.c.set j v)(B:∀y,LH F0 w0 y (iv b6 b7 aB ls st (ds.set i d')++X) D->K y):
  fx st (i:Int) λp=>aS w ((p.add (a0 (i:Int) *7)).add j) v λh=>kept [b6,b7] w h/\K h:=by
 have q:aG w dD 7 st (ds.flatMap Sp.c):=H.get 3;have G:=q.len;have k:=Sp.e1 ds;have L:=(cX.1 hi).1;rw[k]at G;obtain⟨p,x⟩:∃p,st.a=some p:=by
  rcases q.cases with⟨I,A⟩|⟨g,cur,C,_⟩
  .rw [A]at k;simp at k;omega
  .exact ⟨_,C⟩
 rw[bB];refine⟨co,co,ym x (H.oV 3 (i *7) j rfl x co λh z=>B h ?_)⟩;unfold iv;rw[<-Sp.set hi j F v d' E];exact z
structure zB(w0:J)(acm:Nat)(ds:List Sp):Prop where
 g:∀i d,ds[i]? =some d->j6 2 i acm d.x
 f:∀b∈(bX ds).fp,w0.heap.size<=b
def ZX:gB []=0:=md
def F3{ds:List Sp}{i:Nat}{d':Sp}{e:En}(q:e∈iw (ds.set i d')):e∈iw ds\/e∈[d'.pE,d'.hE,d'.lE]:=by
 obtain⟨j,k,h⟩:=cc.1 q;rcases List.mem_or_eq_of_mem_set k with d|d
 .exact .inl (cc.2 ⟨j,d,h⟩)
 .rw [d]at h;exact .inr h
def BR{M:Nat->Prop}{w:J}{L D:List En}{ds:List Sp}{i:Nat}{d':Sp}(H:LH M w0 w L D)(q:bX ds∈D)(y:List En)(z:∀e∈y,e∈D)(A:∀e∈[d'.pE,d'.hE,d'.lE],(e∈D\/e∈iw ds)\/(e.fp=[]/\∀w,e.P w)):LH M w0 w L (y++[bX (ds.set i d')]):=by
 refine H.iq _ λe d=>?_;rcases aX.1 d with d|d
 .exact ⟨λj=>j e (z e d),λb x=>⟨e,z e d,x⟩⟩
 .rw [b0.1 d];refine⟨λj e d=>?_,λb x=>?_⟩
  .rcases F3 d with d|d
   .exact j (bX ds) q e d
   .rcases A e d with(h|h)|h
    .exact j e h
    .exact j (bX ds) q e h
    .exact h.2 w
  .obtain ⟨e,d,k⟩:=bI.1 x;rcases F3 d with d|d
   .exact ⟨bX ds,q,bI.2 ⟨e,d,k⟩⟩
   .rcases A e d with(h|h)|h
    .exact ⟨e,h,k⟩
    .exact ⟨bX ds,q,bI.2 ⟨e,h,k⟩⟩
    .rw [h.1]at k;cases k
def zB.set{w:Nat}{ds:List Sp}{i:Nat}{d':Sp}(h:zB w0 w ds)(hi:i<ds.length)(B:j6 2 i w d'.x)(A:∀e∈[d'.pE,d'.hE,d'.lE],e∈iw ds\/∀b∈e.fp,w0.heap.size<=b):zB w0 w (ds.set i d'):=by
 refine⟨λC y j=>?_,λb z=>?_⟩
 .rw [List.getElem?_set]at j;split at j
  .rename_i e;subst e;cases j;exact B
  .exact h.g C y j
 .obtain ⟨e,d,q⟩:=bI.1 z;rcases F3 d with d|d
  .exact h.f b (bI.2 ⟨e,d,q⟩)
  .rcases A e d with k|k
   .exact h.f b (bI.2 ⟨e,k,q⟩)
   .exact k b q
abbrev mA(w0:J)(b6 b7:Nat)(aB:Sl)(ls:List Lm)(st:Sl)(ds:List Sp)(D:List En)(w:J):Prop:=LH F0 w0 w (iv b6 b7 aB ls st ds) (D++[bX ds])/\zB w0 ls.length ds
section
variable {ls:List Lm} {R:aK}
def U'{i n:Nat}{ds:List Sp}{d:Sp}{w:J}(hi:ds[i]? =some d)(Q:i<1000000)(H:mA w0 b6 b7 aB ls st ds D w)(N:∀j y,j.length=ds.length->(∀q,q≠i->j[q]? =ds[q]?)->mA w0 b6 b7 aB ls st j D y->ha.rK m1 b6 ⟨none,0,0⟩ ⟨none,0,0⟩ b7 aB st ((i+1:Nat):Int) y R):
  ha.n3 m1 b6 ⟨none,0,0⟩ ⟨none,0,0⟩ b7 aB st (i:Int) (n:Int) w R:=by
 obtain⟨E,C⟩:=H;have z:=C.g i d hi;have M:=(cX.1 hi).1;have nx:∀j y,j.length=ds.length->(∀q,q≠i->j[q]? =ds[q]?)->mA w0 b6 b7 aB ls st j D y->ha.rQ m1 b6 ⟨none,0,0⟩ ⟨none,0,0⟩ b7 aB st (i:Int) y R:=λj y I L K=>by have:=N j y I L K;rw[<-bc i co]at this;exact this
 refine aP (λ_=>?_) (λ_=>nx ds w rfl (λ_ _=>rfl) ⟨E,C⟩)
 let A:Sp:=⟨⟨d.x.kind,d.x.node,d.x.da,d.x.params,d.x.nm,[],d.x.hints⟩,d.p,⟨none,0,0⟩,d.h⟩
 have O:=aD hi;have B:∀e∈[d.pE,d.hE,d.lE],e∈iw ds:=λe k=>cc.2 ⟨d,O,k⟩;refine BT (X:=[]) E hi 5 co (.slice none 0 0) (d':=A) rfl λP G=>nx (ds.set i A) P ws (λq S=>He co) ⟨?_,C.set M ⟨z.kind,z.node,z.da,z.params,⟨ZX,by simp[A],by simp[A]⟩,z.hints,z.nm⟩ λe k=>?_⟩
 .refine BR G ws D (λe k=>bV _ k) λe k=>?_;simp only[aq,aL,aO]at k;rcases k with rfl|rfl|rfl
  .exact .inl (.inr (B d.pE ws))
  .exact .inl (.inr (B d.hE ws))
  .exact .inr vh
 .simp only[aq,aL,aO]at k;rcases k with rfl|rfl|rfl
  .exact .inl (B d.pE ws)
  .exact .inl (B d.hE ws)
  .exact .inr λb F=>by rw[show(A.lE).fp=[]from vh.1]at F;cases F
def U9{i n:Nat}{ds:List Sp}{d:Sp}{w:J}(hi:ds[i]? =some d)(F:i<1000000)(Q:n<1048576)(K:mA w0 b6 b7 aB ls st ds D w)(G:∀y A,y.length=ds.length->(∀z,z≠i->y[z]? =ds[z]?)->mA w0 b6 b7 aB ls st y D A->ha.rK m1 b6 ⟨none,0,0⟩ ⟨none,0,0⟩ b7 aB st ((i+1:Nat):Int) A R):
  ha.jN m1 b6 ⟨none,0,0⟩ ⟨none,0,0⟩ b7 aB st (i:Int) (n:Int) w R:=by
 obtain⟨C,B⟩:=K;have q:=B.g i d hi;have E:=(cX.1 hi).1;refine aP (λ_=>?_) (λ_=>U' hi F ⟨C,B⟩ G);have e:aj .i64 (0 - (n:Int))=-(n:Int):=by rw[aQ _ co];omega
 rw[e]
 let k:Sp:=⟨⟨d.x.kind,d.x.node,-(n:Int),d.x.params,d.x.nm,d.x.bM,d.x.hints⟩,d.p,d.l,d.h⟩
 have P:=aD hi;have H:∀e∈[k.pE,k.hE,k.lE],e∈iw ds:=λe j=>cc.2 ⟨d,P,j⟩;refine BT (X:=[]) C hi 2 co (.i (-(n:Int))) (d':=k) rfl λS I=>U' (ds:=ds.set i k) (d:=k) (by simp[E]) F ⟨?_,B.set E ⟨q.kind,q.node,⟨by show _<=-(n:Int);omega,by show -(n:Int)<=_;omega⟩,q.params,q.bM,q.hints,q.nm⟩ λe j=>.inl (H e j)⟩ λy A L N M=>G y A (by rw[L];simp) (λz O=>by rw[N z O,He co]) M;exact BR I ws D (λe j=>bV _ j) λe j=>.inl (.inr (H e j))
end
end
section
variable {w0:J} {b6 b7:Nat} {m1 aB st:Sl} {D:List En} {ls:List Lm} {R:aK}
def aeP{w:J}{s:Sl}{l:List Int}(h:bx w s l):bN 1 w s (l.map a5):=⟨by rw[h.1,Nat.mul_one],h.2.1,h.2.2⟩
def aaI(n:Int)(j:Nat)(h:j<5)(k:0<=n/\n<=1048576):∃d:Int,aY d/\([.i n,.i (-n),.i 9223372036854775807,.i (-9223372036854775808),.i 0]:List aa)[j]? =some (.i d):=by
 match j,h with
 |0,_=>exact⟨n,co,rfl⟩
 |1,_=>exact⟨-n,co,rfl⟩
 |2,_=>exact⟨_,md,rfl⟩
 |3,_=>exact⟨_,md,rfl⟩
 |4,_=>exact⟨_,md,rfl⟩
def U8{i n:Nat}{ds:List Sp}{d:Sp}{w:J}(hi:ds[i]? =some d)(af:i<1000000)(hn:n<1048576)(ak:mA w0 b6 b7 aB ls st ds D w)(ay:d.x.params.length<=1)(hk:∀Z Y,Z.length=ds.length->(∀ac,ac≠i->Z[ac]? =ds[ac]?)->mA w0 b6 b7 aB ls st Z D Y->ha.rK m1 b6 ⟨none,0,0⟩ ⟨none,0,0⟩ b7 aB st ((i+1:Nat):Int) Y R):
  ha.mz m1 b6 ⟨none,0,0⟩ ⟨none,0,0⟩ b7 aB st (i:Int) (n:Int) w R:=by
 obtain⟨U,ad⟩:=ak;have K:=ad.g i d hi;have an:=(cX.1 hi).1;have hm:=aD hi;have aC:∀e∈[d.pE,d.hE,d.lE],e∈iw ds:=λe P=>cc.2 ⟨d,hm,P⟩;refine aP (λ_=>?_) (λ_=>U9 hi af hn ⟨U,ad⟩ hk);have ar:aj .i64 (bQ (n:Int) 5)=((n / 5:Nat):Int):=by rw[show bQ (n:Int) 5=((n / 5:Nat):Int)from rfl,aQ _ co]
 have au:cw ((n / 5:Nat):Int) 5=((n / 5%5:Nat):Int):=rfl;have ap:aj .i64 (0 - (n:Int))=-(n:Int):=by rw[aQ _ co];omega
 have ao:n / 5%5<5:=Nat.mod_lt _ co;obtain⟨j,hy,am⟩:=aaI (n:Int) (n / 5%5) ao co;have row:∀{Y:J} {X:List En},LH F0 w0 Y (iv b6 b7 aB ls st ds++X) (D++[bX ds])->fP Y st ds:=λq=>⟨(q.get 3:aG _ _ _ _ _).bf,te.1 (q.rd (bX ds) ws)⟩;have aE:=(row (X:=[]) U).n;refine⟨co,co,(row (X:=[]) U).get' hi λp hp _=>?_⟩;have F:∀{Y:J} {X:List En},LH F0 w0 Y (iv b6 b7 aB ls st ds++X) (D++[bX ds])->Y.cell? ((p.add (a0 (i:Int) *7)).add 3)=some d.p.v:=λq=>by rw[bB];exact((row q).again hi hp).c3
 have T:∀{Y:J} {X:List En},LH F0 w0 Y (iv b6 b7 aB ls st ds++X) (D++[bX ds])->bN 1 Y d.p (d.x.params.map a5):=λq=>aeP ((row q).2 d hm).1;have aA:d.p.n=d.x.params.length:=bx.len ((row (X:=[]) U).2 d hm).1;have fin:∀(t:Sl) (Y:J),LH F0 w0 Y (iv b6 b7 aB ls st ds++[.row cb 1 t ((d.x.params++[j]).map a5)]) (D++[bX ds])->
   fx st (i:Int) λav=>aS Y ((av.add (a0 (i:Int) *7)).add 3) t.v λw7=>kept [b6,b7] Y w7/\ha.jN m1 b6 ⟨none,0,0⟩ ⟨none,0,0⟩ b7 aB st (i:Int) (n:Int) w7 R:=by
  intro t Y q;have al:∀b∈az t,w0.heap.size<=b:=λb hb=>(q.new _ (aD (i:=4) rfl) b hb).resolve_right id
  let aa:Sp:=⟨⟨d.x.kind,d.x.node,d.x.da,d.x.params++[j],d.x.nm,d.x.bM,d.x.hints⟩,t,d.l,d.h⟩
  refine BT (X:=[.row cb 1 t ((d.x.params++[j]).map a5)]) q hi 3 co t.v (d':=aa) rfl λw7 H7=>?_;have I:LH F0 w0 w7 (iv b6 b7 aB ls st (ds.set i aa)) (D++[bX ds]++[.rd t ((d.x.params++[j]).map a5)]):=H7.freeze 4 (.rd t ((d.x.params++[j]).map a5)) rfl (aG.hq (H7.get 4)) λb hb=>oP hb;refine U9 (ds:=ds.set i aa) (d:=aa) (by grind) af hn ⟨?_,ad.set an ⟨K.kind,K.node,K.da,⟨λai hz=>?_,by grind⟩,K.bM,K.hints,K.nm⟩ λe P=>?_⟩ λZ Y h1 h3 h2=>hk Z Y (by grind) (λac hj=>by grind) h2
  .refine BR I ws D (λe P=>by grind) λe P=>?_
   grind
  .have hz:ai∈d.x.params++[j]:=hz;rcases aX.1 hz with ae|ae
   .exact K.params.1 ai ae
   grind
  .simp only[aq,aL,aO]at P;rcases P with rfl|rfl|rfl
   .exact .inr (eP al)
   .grind
   grind
 refine U.ah λw1 H1=>⟨d.p,F (X:=[]) H1,?_⟩;rw[ap,ar,au,bB (n / 5%5)];have i0:(0:Int)<=((n / 5%5:Nat):Int):=co
 have i5:((n / 5%5:Nat):Int)<((5:Nat):Int):=co
 have S:(0+d.p.n) *8<=140737488355328:=co
 have O:∀{b:Nat} {Y:J} {L:List En} (k:Nat),LH F0 w0 Y L (D++[bX ds])->L[k]? =some (.c b [.i (n:Int),.i (-(n:Int)),.i 9223372036854775807,.i (-9223372036854775808),.i 0] cb)->Y.cell? ((ab b).add (n / 5%5 *1))=some (.i j):=λk q hL=>by rw[Nat.mul_one];exact q.ld k _ hL am
 have Q:∀{Y:J} {L:List En} {t:Sl} (k:Nat),LH F0 w0 Y L (D++[bX ds])->L[k]? =some (.row cb 1 t (d.x.params.map a5))->(t.n+1) *8<=140737488355328:=λk q hL=>by
  have:=(q.get k hL:aG _ _ _ _ _).len
  grind
 have N:d.x.params.map a5++[Value.i j]=(d.x.params++[j]).map a5:=by rw[fK];rfl
 refine⟨H1.cZ (n:=0) (sz:=1) (cs:=[]) rfl md λw2 E=>⟨F (X:=[_]) E,?_,?_⟩,H1.nw λw2 _ E=>⟨F (X:=[_]) E,i0,i5,qV ⟨j,O 4 E rfl,?_,?_⟩⟩⟩
 .
  refine E.dp 4 iH (s:=⟨some (ab w1.heap.size),0,0⟩) (src:=d.p) (news:=d.x.params.map a5) rfl (T (X:=[_]) E) (su _) S λt w3 C=>?_;refine C.nw λw4 _ M=>⟨i0,i5,qV ⟨j,O 5 M rfl,M.nw λw5 _ H5=>?_⟩⟩;refine H5.dp 4 iH (s:=t) (src:=⟨some (ab w4.heap.size),1,1⟩) (news:=[.i j]) rfl (mf (H5.get 6) rfl) (by simp[Value.oneCell']) (Q 4 H5 rfl) λA B z=>fin A B ?_;rw[<-N];exact z.take 5
 .refine E.nw λw8 _ I=>⟨F (X:=[_,_]) I,i0,i5,qV ⟨j,O 5 I rfl,?_,?_⟩⟩
  .
   refine I.dp 4 iH (s:=⟨some (ab w1.heap.size),0,0⟩) (src:=d.p) (news:=d.x.params.map a5) rfl (T (X:=[_,_]) I) (su _) S λt w9 W=>?_;refine⟨O 5 W rfl,W.nw λaw _ G=>?_⟩;refine G.dp 4 iH (s:=t) (src:=⟨some (ab w9.heap.size),1,1⟩) (news:=[.i j]) rfl (mf (G.get 6) rfl) (by simp[Value.oneCell']) (Q 4 G rfl) λA B z=>fin A B ?_;rw[<-N];exact z.take 5
  .
   refine I.nw λax _ H=>⟨F (X:=[_,_,_]) H,?_⟩;refine H.dp 4 iH (s:=⟨some (ab w1.heap.size),0,0⟩) (src:=d.p) (news:=d.x.params.map a5) rfl (T (X:=[_,_,_]) H) (su _) S λt ag y=>?_;refine y.dp 4 iH (s:=t) (src:=⟨some (ab w8.heap.size),1,1⟩) (news:=[.i j]) rfl (mf (y.get 6) rfl) (by simp[Value.oneCell']) (Q 4 y rfl) λA B z=>fin A B ?_;rw[<-N];exact z.take 5
 .refine E.cZ (n:=0) (sz:=1) (cs:=[]) rfl md λw3 C=>⟨O 4 C rfl,F (X:=[_,_]) C,?_,?_⟩
  .
   refine C.dp 5 iH (s:=⟨some (ab w2.heap.size),0,0⟩) (src:=d.p) (news:=d.x.params.map a5) rfl (T (X:=[_,_]) C) (su _) S λt w9 W=>?_;refine⟨O 4 W rfl,W.nw λaw _ G=>?_⟩;refine G.dp 5 iH (s:=t) (src:=⟨some (ab w9.heap.size),1,1⟩) (news:=[.i j]) rfl (mf (G.get 6) rfl) (by simp[Value.oneCell']) (Q 5 G rfl) λA B z=>fin A B ?_;rw[<-N];exact z.jh [true,true,true,true,false,true,false]
  .
   refine C.nw λax _ H=>⟨F (X:=[_,_,_]) H,?_⟩;refine H.dp 5 iH (s:=⟨some (ab w2.heap.size),0,0⟩) (src:=d.p) (news:=d.x.params.map a5) rfl (T (X:=[_,_,_]) H) (su _) S λt ag y=>?_;refine y.dp 5 iH (s:=t) (src:=⟨some (ab w3.heap.size),1,1⟩) (news:=[.i j]) rfl (mf (y.get 6) rfl) (by simp[Value.oneCell']) (Q 5 y rfl) λA B z=>fin A B ?_;rw[<-N];exact z.jh [true,true,true,true,false,true,false]
 .
  refine E.nw λw3 _ C=>⟨F (X:=[_,_]) C,C.cZ (n:=0) (sz:=1) (cs:=[]) rfl md λw4 M=>⟨F (X:=[_,_,_]) M,?_⟩⟩;refine M.dp 6 iH (s:=⟨some (ab w3.heap.size),0,0⟩) (src:=d.p) (news:=d.x.params.map a5) rfl (T (X:=[_,_,_]) M) (su _) S λt ag y=>?_;refine y.dp 6 iH (s:=t) (src:=⟨some (ab w2.heap.size),1,1⟩) (news:=[.i j]) rfl (mf (y.get 5) rfl) (by simp[Value.oneCell']) (Q 6 y rfl) λA B z=>fin A B ?_;rw[<-N];exact z.jh [true,true,true,true,false,false,true]
def acL(a b:Nat)(k:a<4)(q:b<1000):gB [2,-3 - (a:Int),9+(b:Int)]=0/\(∀d∈[2,-3 - (a:Int),9+(b:Int)],aY d):=by
 have x:lQ 2=true:=md
 have y:lQ (-3 - (a:Int))=true:=x6.2 co;have z:lQ (9+(b:Int))=true:=x6.2 co;have e:[2,-3 - (a:Int),9+(b:Int)].all lQ=true:=by grind
 have j:ox [2,-3 - (a:Int),9+(b:Int)]=true:=by unfold ox;rw[aR co,Bool.true_and];unfold ox;rw[aR co];rfl
 have h:mN [2,-3 - (a:Int),9+(b:Int)]=0:=by
  unfold mN
  grind
 refine⟨by unfold gB;grind,λd w=>?_⟩
 grind
def afw{ms:List Int}{M:Nat}(al:M<=1000)(hx:∀ak∈ms,aY ak)(hm:En.rd m1 (ms.map a5)∈D)(hk:∀ds F,ds.length=M->mA w0 b6 b7 aB ls st ds D F->∀W,LH F0 w0 W (iv b6 b7 aB ls st ds) (D++[bX ds])->R (ae (.agg #[aB.v,st.v])) W):∀(k i:Nat) (ds:List Sp) (w:J),i+k=ds.length->ds.length=M->(∀q j,i<=q->ds[q]? =some j->j.x.params.length<=1)->mA w0 b6 b7 aB ls st ds D w->
  ha.rK m1 b6 ⟨none,0,0⟩ ⟨none,0,0⟩ b7 aB st (i:Int) w R:=by
 intro k;induction k with
 |zero=>
  intro i ds w af Q L y;have hn:=fP.n (w:=w) (s:=st) (l:=ds) ⟨(y.1.get 3:aG _ _ _ _ _).bf,te.1 (y.1.rd (bX ds) ws)⟩;exact ha.I4 (aN (aW co) (y.1.ah λA K=>hk ds w Q y A K))
 |succ k ih=>
  intro i ds w af Q L y;have hn:=fP.n (w:=w) (s:=st) (l:=ds) ⟨(y.1.get 3:aG _ _ _ _ _).bf,te.1 (y.1.rd (bX ds) ws)⟩;obtain⟨j,B⟩:∃j,ds[i]? =some j:=⟨ds[i],a' co⟩;have ag:=(cX.1 B).1;have ai:En.rd m1 (ms.map a5)∈D++[bX ds]:=bV _ hm;have nx:∀I:List Sp,I.length=ds.length->(∀q,q≠i->I[q]? =ds[q]?)->∀H F,H.length=I.length->(∀q,q≠i->H[q]? =I[q]?)->mA w0 b6 b7 aB ls st H D F->ha.rK m1 b6 ⟨none,0,0⟩ ⟨none,0,0⟩ b7 aB st ((i+1:Nat):Int) F R:=λI e1 e2 H F h1 h2 Z=>
   ih (i+1) H F co co (λq j hj hd=>L q j co (by rw[<-e2 q co,<-h2 q co];exact hd)) Z
  refine ha.I4 (aM (aR co) (y.1.aA (rX (y.1.rd _ ai) hx _ 1048576 co) ?_));rintro _ A ⟨n',rfl,n1,n2⟩ K;obtain⟨n,rfl⟩:=Int.eq_ofNat_of_zero_le n1;have Y1:mA w0 b6 b7 aB ls st ds D A:=⟨K,y.2⟩;have E:=y.2.g i j B;refine⟨_,rfl,aP (λ_=>?_) (λ_=>U8 B co co Y1 (L i j (br _) B) (nx ds rfl λ_ _=>rfl))⟩;have e4:aj .i64 (-3 - cw (n:Int) 4)=-3 - ((n%4:Nat):Int):=by rw[show cw (n:Int) 4=((n%4:Nat):Int)from rfl,aQ _ co]
  have e9:aj .i64 (9+cw (n:Int) 1000)=9+((n%1000:Nat):Int):=by rw[show cw (n:Int) 1000=((n%1000:Nat):Int)from rfl,aQ _ co]
  rw[e4,e9];obtain⟨T,U⟩:=acL (n%4) (n%1000) (Nat.mod_lt _ co) (Nat.mod_lt _ co);obtain⟨z,S⟩:∃z,z=[2,-3 - ((n%4:Nat):Int),9+((n%1000:Nat):Int)]:=⟨_,rfl⟩;have ac:(#[.i 2,.i (-3 - ((n%4:Nat):Int)),.i (9+((n%1000:Nat):Int))]:Array aa)=(z.map a5).toArray:=by rw[S];rfl
  rw[<-S]at T U;have am:z.length=3:=by grind
  rw[ac];refine K.cZ (n:=3) (sz:=1) (cs:=z.map a5) (by grind) md λw2 O=>?_;have ad:∀b∈az ⟨some (ab A.heap.size),3,3⟩,w0.heap.size<=b:=λb N=>(O.new _ (aD (i:=4) rfl) b N).resolve_right id
  let G:Sp:=⟨⟨j.x.kind,j.x.node,j.x.da,j.x.params,j.x.nm,z,j.x.hints⟩,j.p,⟨some (ab A.heap.size),3,3⟩,j.h⟩
  have an:∀e∈[j.pE,j.hE,j.lE],e∈iw ds:=λe C=>cc.2 ⟨j,aD B,C⟩;refine BT (X:=[.row cb 1 ⟨some (ab A.heap.size),3,3⟩ (z.map a5)]) O B 5 co (.slice (some (ab A.heap.size)) 3 3) (d':=G) rfl λw7 P=>?_;have Y:LH F0 w0 w7 (iv b6 b7 aB ls st (ds.set i G)) (D++[bX ds]++[.rd ⟨some (ab A.heap.size),3,3⟩ (z.map a5)]):=P.freeze 4 (.rd ⟨some (ab A.heap.size),3,3⟩ (z.map a5)) rfl (aG.hq (P.get 4)) λb N=>oP N;refine U8 (ds:=ds.set i G) (d:=G) (by grind) co co ⟨?_,y.2.set ag ⟨E.kind,E.node,E.da,E.params,⟨T,U,by grind⟩,E.hints,E.nm⟩ λe C=>?_⟩ (L i j (br _) B) (nx (ds.set i G) ws λq hj=>He co)
  .refine BR Y ws D (λe C=>by grind) λe C=>?_
   grind
  .simp only[aq,aL,aO]at C;rcases C with rfl|rfl|rfl
   .grind
   .grind
   .exact .inr (eP ad)
end
def gA(d:Sp):Sp:=⟨⟨if d.x.kind=4 then 5 else d.x.kind,d.x.node,d.x.da,d.x.params,d.x.nm,d.x.bM,d.x.hints⟩,d.p,d.l,d.h⟩
def Mm{pl i aB:Nat}{s:bO}(h:j6 pl i aB s)(w:pl<=40)(hi:i<=1000):g8 40 s:=by
 have q:=h.kind;have d:=h.node.1;refine⟨⟨co,d,h.da⟩,⟨by have:=h.params.2;omega,h.params.1⟩,⟨by have:=h.bM.2.2;omega,h.bM.2.1⟩,⟨by have:=h.hints.2;omega,λk j=>by have:=h.hints.1 k j;omega⟩,?_⟩;have:∀t∈vj,t.size<=40:=md
 exact this _ h.nm
def g8.gA{n:Nat}{d:Sp}(h:g8 n d.x):g8 n (gA d).x:=by
 refine⟨⟨?_,h.k.2⟩,h.p,h.l,h.h,h.t⟩;show aY (if d.x.kind=4 then 5 else d.x.kind);split
 .decide
 .exact h.k.1
def abn{pl i aB:Nat}{d:Sp}(h:j6 pl i aB d.x):(gA d).x.kind≠4/\fu (gA d).x (i:Int) 0=0:=by
 have j:(gA d).x.kind≠4/\¬((gA d).x.kind<0\/(gA d).x.kind>5):=by have:=h.kind;show(if d.x.kind=4 then 5 else d.x.kind)≠4/\¬((if d.x.kind=4 then 5 else d.x.kind)<0\/(if d.x.kind=4 then 5 else d.x.kind)>5);omega
 have k:¬(bl (gA d).x.nm≠[]/\e4 (bl (gA d).x.nm)=false):=by
  have:∀t∈vj,¬(bl t≠[]/\e4 (bl t)=false):=md
  exact this _ h.nm
 refine⟨j.1,?_⟩;rw[H9 j.2 h.bM.1 k,au,ag (λh=>j.1 h.1)];rw[ff];intro w q;have:=h.hints.1 w q
 grind
def Ml{pl aB:Nat}:∀{l:List Sp} {i:Nat},(∀(j:Nat) (d:Sp),l[j]? =some d->j6 pl (i+j) aB d.x)->i9 (bq (l.map gA)) (i:Int)=0
 |[],_,_=>rfl
 |d::l,i,h=>by
  obtain⟨q,k⟩:=abn (h 0 d rfl);rw[Nat.add_zero]at k;have w:=Ml (l:=l) (i:=i+1) λj e y=>by
   have:=h (j+1) e y
   rwa[show i+(j+1)=i+1+j by omega]at this
  show i9 ((gA d).x::bq (l.map gA)) (i:Int)=0;rw[NM q k];exact w
structure qi(y:Lx):Prop where
 e:gW y=0
 g:iU (xs y.gl)
 n:y.ds.length<=4
def afu{w:J}{xd:List Sp}(h:(bX xd).P w){d:Sp}(j:d∈xd):wS w d:=te.1 h d j
def acX{M:Nat->Prop}{w0 w:J}{L D D1:List En}{ds xd:List Sp}{x:Lx}(H:LH M w0 w L D1)(C:∀e∈D++[bX ds],e∈D1)(F:bX xd∈D1)(E:x.ds=xd.map gA)(h:∀e∈[En.gr x.m.g x.gl,.rd x.m.h (x.hy.map a5),.rd x.m.c (x.cl.map a5),.bf 7 x.m.s (x.ds.flatMap Sp.c)],e∈D1):LH M w0 w L (D++[cV x]++[bX ds]):=by
 simp only[aq,aL,aO,forall_eq_or_imp,forall_eq]at h;obtain⟨G,I,K,N⟩:=h;refine H.iq _ λe B=>?_;simp only[aX,b0]at B;have O:e∈D++[bX ds]->((∀e∈D1,e.P w)->e.P w)/\∀b∈e.fp,∃z∈D1,b∈z.fp:=λh=>⟨λq=>q e (C e h),λb k=>⟨e,C e h,k⟩⟩;rcases B with(B|rfl)|rfl
 .grind
 .refine ⟨λq=>oA.2 ⟨ch.1 (q _ G),q _ I,q _ K,q _ N,λz y=>?_⟩,λb k=>?_⟩
  .rw [E]at y;obtain⟨a,A,rfl⟩:=bS.1 y;exact afu (d:=a) (q _ F) A
  .obtain ⟨e,j,k⟩:=bI.1 k;simp only[aq,aL,aO]at j;rcases j with rfl|rfl|rfl|rfl
   .grind
   .grind
   .grind
   .obtain ⟨e,j,k⟩:=bI.1 k;rcases aq.1 j with rfl|j
    .grind
    .refine ⟨_,F,bI.2 ⟨e,?_,k⟩⟩;rw[E]at j;obtain⟨z,y,j⟩:=cc.1 j;obtain⟨a,A,rfl⟩:=bS.1 y;exact cc.2 ⟨a,A,j⟩
 grind
def Ho{e:TypeId}{s:Sl}{vs:List aa}{sz b:Nat}(h:b∈(En.bf sz s vs).fp):b∈(En.row e sz s vs).fp:=by
 have h:b∈(if vs=[]then[]else az s):=h;split at h
 .cases h
 .exact h
section
variable {w0:J} {b6 b7:Nat} {m1 aB st:Sl} {D:List En} {ls:List Lm} {R:aK}
def agm{H x0 Q:Sl}{gl:List Nd}{A q:Nat}{ds xd:List Sp}{ms:List Int}{D1:List En}(ae:q<ls.length)(am:ls.length<=2)(hx:∀y∈ms,aY y)(hm:En.rd m1 (ms.map a5)∈D)(ak:1<=H.n)(ad:gl.length<=40/\∀d∈xs gl,tP 3 d)(ac:iU (xs gl)){pl lm:Nat}(al:∀(j:Nat) (d:Sp),xd[j]? =some d->j6 pl j lm d.x)(ai:H.n=gl.length)(an:xd.length<=4)(ag:∀d∈xd,g8 40 d.x)(aa:∀e∈D++[bX ds],e∈D1)(hG:En.gr H gl∈D1)(hX:bX xd∈D1)(hk:∀(y:Lx) Y,hQ 40 y->1<=y.gl.length->qi y->LH F0 w0 Y (iv b6 b7 aB (ls.set q y.m) st ds) (D++[cV y]++[bX ds])->ha.a6 m1 b6 ⟨none,0,0⟩ ⟨none,0,0⟩ b7 aB st ((q+1:Nat):Int) Y R):
  ∀(k B:Nat) (z:Sl) (w:J),B+k=xd.length->LH F0 w0 w (iv b6 b7 aB ls st ds++[.row dD 7 Q (xd.flatMap Sp.c),.g A,.row dD 7 z (((xd.take B).map gA).flatMap Sp.c)]) D1->
  ha.cy m1 b6 ⟨none,0,0⟩ ⟨none,0,0⟩ b7 aB st (q:Int) H A x0 Q z (B:Int) w R:=by
 have gs:∀(Z:List En) (G W e3:En),∀b∈[b6,b7,A],En.g b∈(En.g b6::En.g b7::G::W::e3::En.g A::Z):=λZ G W e3 b h=>by grind
 have gm:∀(Z:List En) (G:En),∀b∈[b6,b7,A],En.g b∈[En.g b6,En.g b7]++(G::En.g A::Z):=λZ G b h=>by grind
 have fin:∀(h c z:Sl) (t:Int) (Y:J) (G:En),0<=t/\t<(H.n:Int)->LH F0 w0 Y (iv b6 b7 aB ls st ds++[G,.g A,.row dD 7 z ((xd.map gA).flatMap Sp.c),.row cb 1 h ([t,0].map a5),.row cb 1 c ([-2 - (q:Int),7+(q:Int)].map a5)]) D1->
   fx aB (q:Int) λp=>aS Y (p.add (a0 (q:Int) *4)) H.v λO=>kept [b6,b7,A] Y O/\aS O ((p.add (a0 (q:Int) *4)).add 1) h.v λC=>kept [b6,b7,A] O C/\aS C ((p.add (a0 (q:Int) *4)).add 2) c.v λK=>kept [b6,b7,A] C K/\aS K ((p.add (a0 (q:Int) *4)).add 3) z.v λP=>kept [b6,b7,A] K P/\ha.dc m1 b6 ⟨none,0,0⟩ ⟨none,0,0⟩ b7 aB st (q:Int) P R:=by
  intro h c z t Y G ht F;refine afx ⟨H,h,c,z⟩ (X:=[_,_,_,_,_]) F ae (gm _ _) λw5 H5=>?_;have H6:=H5.freeze 8 (.rd c ([-2 - (q:Int),7+(q:Int)].map a5)) rfl (aG.hq (H5.get 8)) λb T=>oP T;have H7:=H6.freeze 7 (.rd h ([t,0].map a5)) rfl (aG.hq (H6.get 7)) λb T=>oP T;have H8:=H7.freeze 6 (.bf 7 z ((xd.map gA).flatMap Sp.c)) rfl (aG.bf (H7.get 6)) λb T=>Ho T;have H9:=hk ⟨⟨H,h,c,z⟩,gl,[t,0],[-2 - (q:Int),7+(q:Int)],xd.map gA⟩ w5 ⟨ad,⟨ws,?_⟩,⟨ws,?_⟩,⟨by grind,?_⟩⟩ (by grind) ⟨?_,ac,by grind⟩ (acX (xd:=xd) (H8.take 4) (λe he=>?_) ?_ rfl ?_)
  .rw [<-bc q co]at H9;exact H9
  .grind
  .grind
  .intro d hd;obtain⟨a,S,rfl⟩:=bS.1 hd;exact(ag a S).gA
  .have G:gB [-2 - (q:Int),7+(q:Int)]=0:=by
    have h2:q=0\/q=1:=co
    rcases h2 with rfl|rfl<;>decide
   have W:qL gl.length [t,0]=true:=by
    unfold qL
    grind
   have e3:gL (xs gl)=0:=WM ac.vg (by grind);have e4:i9 (bq (xd.map gA)) 0=0:=Ml (pl:=pl) (aB:=lm) (i:=0) λj d hj=>by grind
   show gW ⟨⟨H,h,c,z⟩,gl,[t,0],[-2 - (q:Int),7+(q:Int)],xd.map gA⟩=0;unfold gW
   grind
  .grind
  .grind
  grind
 intro k;induction k with
 |zero=>
  intro B z w af F;rw[eO co]at F;have hn:=(F.get 4:aG _ _ _ _ _).len;rw[Sp.e1]at hn;have em:aj .i64 (-2 - (q:Int))=-2 - (q:Int):=aQ _ co;have e7:aj .i64 (7+(q:Int))=7+(q:Int):=aQ _ co;have G:aj .i64 (1+(q:Int))=((1+q:Nat):Int):=by rw[aQ _ co];omega
  refine ha.dH (aN (aW co) ⟨F.ah (bG:=gs _ _ _ _) λO L=>?_,F.ah (bG:=gs _ _ _ _) λO L=>?_⟩)
  .refine L.aA (rX (L.rd _ (aa _ (bV _ hm))) hx _ _ co) ?_;rintro _ C ⟨t,rfl,t1,t2⟩ E;rw[em,e7];refine⟨_,rfl,E.cZ (n:=2) (sz:=1) (cs:=[t,0].map a5) rfl md λK M=>M.cZ (n:=2) (sz:=1) (cs:=[-2 - (q:Int),7+(q:Int)].map a5) rfl md λP U=>?_,E.cZ (n:=2) (sz:=1) (cs:=[-2 - (q:Int),7+(q:Int)].map a5) rfl md λK M=>M.cZ (n:=2) (sz:=1) (cs:=[t,0].map a5) rfl md λP U=>?_⟩
   .grind
   .exact fin ⟨some (ab K.heap.size),2,2⟩ ⟨some (ab C.heap.size),2,2⟩ z t P _ ⟨t1,t2⟩ (U.perm (.cons _ (.cons _ (.cons _ (.cons _ (.cons _ (.cons _ (.cons _ (.swap _ _ [])))))))))
  .rw [em,e7];refine L.cZ (n:=2) (sz:=1) (cs:=[-2 - (q:Int),7+(q:Int)].map a5) rfl md λC E=>E.aA (rX (E.rd _ (aa _ (bV _ hm))) hx _ _ co) ?_;rintro _ K ⟨t,rfl,t1,t2⟩ M;refine⟨_,rfl,M.cZ (n:=2) (sz:=1) (cs:=[t,0].map a5) rfl md λP U=>?_⟩;exact fin ⟨some (ab K.heap.size),2,2⟩ ⟨some (ab O.heap.size),2,2⟩ z t P _ ⟨t1,t2⟩ (U.perm (.cons _ (.cons _ (.cons _ (.cons _ (.cons _ (.cons _ (.cons _ (.swap _ _ [])))))))))
 |succ k ih=>
  intro B z w af F;have ho:aG w dD 7 Q (xd.flatMap Sp.c):=F.get 4;have hn:=ho.len;rw[Sp.e1]at hn;have hs:=(F.get 6:aG _ _ _ _ _).len;rw[Sp.e1,gv,f']at hs;obtain⟨d,hi⟩:∃d,xd[B]? =some d:=⟨xd[B],a' co⟩;have ec:∀a:Int,a=(if d.x.kind=4 then 5 else d.x.kind)->((xd.take B).map gA).flatMap Sp.c++[.i a,.i d.x.node,.i d.x.da,d.p.v,.string d.x.nm,d.l.v,d.h.v]=((xd.take (B+1)).map gA).flatMap Sp.c:=λa S=>by rw[dV,hi,S];simp[gA,Sp.c]
  have nx:∀(a:Int),a=(if d.x.kind=4 then 5 else d.x.kind)->∀(I:Nat) (Y:J),LH F0 w0 Y (iv b6 b7 aB ls st ds++[.row dD 7 Q (xd.flatMap Sp.c),.g A,.row dD 7 z (((xd.take B).map gA).flatMap Sp.c),.g I]) D1->
    ha.cd m1 b6 ⟨none,0,0⟩ ⟨none,0,0⟩ b7 aB st (q:Int) H A x0 Q z (B:Int) I a d.x.node d.x.da d.p d.x.nm d.l d.h Y R:=λa S I Y H'=>by
   refine H'.iD 6 uI rfl (λs' C E=>?_) co (bG:=λb h=>?_)
   .rw [bc _ co];have M:=E.take 7;have e:=ec a S;refine ih (B+1) s' C co ?_;rw[<-e];exact M
   grind
  refine ha.dH (aM (aR co) ⟨co,co,fN.elem (f:=Sp.c) (sz:=7) Sp.ke co ho.bf.2.2 hi λp hp N=>⟨_,_,_,_,_,_,_,N 0 _ rfl,N 1 _ rfl,N 2 _ rfl,N 3 _ rfl,N 4 _ rfl,N 5 _ rfl,N 6 _ rfl,F.aH (bG:=gs _ _ _ _) λI O L=>?_⟩⟩);have gl:∀b∈[b6,b7,A,I],En.g b∈iv b6 b7 aB ls st ds++[.row dD 7 Q (xd.flatMap Sp.c),.g A,.row dD 7 z (((xd.take B).map gA).flatMap Sp.c)]++[.g I]:=λb h=>by simp only[aq,aL,aO]at h;rcases h with rfl|rfl|rfl|rfl<;>simp
  exact aP (λh4=>L.ah (bG:=gl) λC E=>nx 5 co I C E) (λh4=>L.ah (bG:=gl) λC E=>nx d.x.kind co I C E)
end
def Jb(w0:J)(D:List En)(cD:Nat)(r:bW)(Y:J):Prop:=∃(aB st:Sl) (ys:List Lx) (ds:List Sp),r=ae (.agg #[aB.v,st.v])/\LH F0 w0 Y [.row fw 4 aB ((ys.map Lx.m).flatMap Lm.cs),.row dD 7 st (ds.flatMap Sp.c)] (D++ys.map cV++[bX ds])/\I6 40 ys/\(∀h∈ys,1<=h.gl.length)/\(ys.length<=2/\∀h∈ys,qi h)/\(∀d∈ds,g8 40 d.x)/\ds.length<=cD/\∀i d,ds[i]? =some d->j6 2 i ys.length d.x
def agl{w0:J}{S T:Nat}{m1 aB st:Sl}{ms:List Int}{D:List En}{ds:List Sp}{cD:Nat}(h:∀j∈ms,aY j)(ao:ms.length<=9223372036854775807)(H:En.rd m1 (ms.map a5)∈D)(ag:ds.length<=1000)(av:ds.length<=cD)(af:∀(i:Nat) (d:Sp),ds[i]? =some d->d.x.params.length<=1):
  ∀(k i:Nat) (ys:List Lx) (ls:List Lm) (w:J),i+k=ls.length->ls.length<=2->ys.map Lx.m=ls.take i->I6 40 ys->(∀j∈ys,1<=j.gl.length)->(∀j∈ys,qi j)->mA w0 S T aB ls st ds (D++ys.map cV) w->ha.a6 m1 S ⟨none,0,0⟩ ⟨none,0,0⟩ T aB st (i:Int) w λr E=>Jb w0 D cD r E:=by
 intro k;induction k with
 |zero=>
  intro i ys ls w ak an C G W aa q;have L:aG w fw 4 aB (ls.flatMap Lm.cs):=q.1.get 2;have K:=L.len;rw[Lm.len]at K;rw[eO co]at C;have ap:ys.length=ls.length:=by grind
  refine ha.bD (aN (aW co) ?_);refine afw (m1:=m1) ag h (D:=D++ys.map cV) (bV _ H) (λad E au Q aC ac=>?_) ds.length 0 ds w co rfl (λA d _ y=>af A d y) q;refine⟨aB,st,ys,ad,rfl,?_,G,W,⟨co,aa⟩,λd y=>?_,co,by rw[ap];exact Q.2.g⟩
  .rw [C];exact ac.jh [false,false,true,true]
  .obtain ⟨A,z⟩:=List.mem_iff_getElem?.1 y;have am:=(cX.1 z).1;exact Mm (Q.2.g A d z) co co
 |succ k ih=>
  intro i ys ls w ak an C G W aa q;have L:aG w fw 4 aB (ls.flatMap Lm.cs):=q.1.get 2;have K:=L.len;rw[Lm.len]at K;have I:En.rd m1 (ms.map a5)∈D++ys.map cV++[bX ds]:=bV _ (bV _ H);refine ha.bD (aM (aR co) (q.1.aA (rX (q.1.rd _ I) h _ 3 co) ?_));rintro _ w1 ⟨t,rfl,t1,t2⟩ N;refine⟨_,rfl,N.iF (YN (N.rd _ I) h co t 4 co) ?_⟩;rintro _ w2 ⟨F,B,rfl,ab,g1,g2,Y,ai⟩ _ ae;have O:=ae.2 (.gr F B) (ch.2 Y) ai;have aj:=i4 Y;refine⟨_,rfl,gn ((JM (D:=D++ys.map cV++[bX ds]++[.gr F B]) (w:=w2) h ao (cD:=4) co (bV _ I) (bK _ O.rd)).mono ?_)⟩;rintro _ w3 ⟨x0,x1,aD,M,rfl,P,hf,_,aw,Z⟩;have H4:=O.KU P λe U=>by grind
  refine⟨P.fr,_,_,rfl,H4.aH λar w4 H5=>H5.ah λw5 H6=>?_⟩;have H7:=(H6.fY dD 7).jh [true,true,true,true,false,true,true,true];refine agm (D:=D++ys.map cV) (ls:=ls) (xd:=M) (gl:=B) (D1:=D++ys.map cV++[bX ds]++[.gr F B]++[bX M]) co co h (bV _ H) co ⟨co,ab.gd (by grind)⟩ ab Z aj co (λd y=>?_) (λe U=>bV _ (bV _ U)) ws ws (λj E ay ax az H'=>?_) M.length 0 ⟨none,0,0⟩ w5 co H7
  .obtain ⟨A,z⟩:=List.mem_iff_getElem?.1 y;have am:=(cX.1 z).1;exact Mm (Z A d z) co co
  .have al:i<ls.length:=co
   refine ih (i+1) (ys++[j]) (ls.set i j.m) E (by grind) (by grind) ?_ ⟨?_,?_⟩ ?_ ?_ ⟨?_,by grind⟩
   .rw [fK,C,dV];simp[al,List.take_set_of_le]
   .have:ys.length=(ls.take i).length:=by grind
    grind
   .intro aq h;rcases aX.1 h with h|h
    .exact G.2 aq h
    grind
   .grind
   .grind
   grind
def YX{w:J}{D:List En}{A m1:Sl}{xs ms:List Int}(Q:∀k∈xs,aY k)(S:xs.length<=9223372036854775807)(T:∀k∈ms,aY k)(P:ms.length<=9223372036854775807){cD:Nat}(aa:cD<=40)(I:En.rd A (xs.map a5)∈D)(O:En.rd m1 (ms.map a5)∈D)(H:LH F0 w w [] D):
  ai V O' #[A.v,m1.v,.i (cD:Int)] w λr W=>Jb w D cD r W:=by
 refine ha.aC (H.aH λG Y d=>?_);refine gn ((JM (D:=D) (w:=Y) Q S co I (bK _ d.rd)).mono ?_);rintro _ w2 ⟨U,st,ls,y,rfl,q,M,N,L,z⟩;have C:=d.KU q λe he=>by grind
 refine⟨q.fr,_,_,rfl,C.aH λx w3 E=>E.ah λB F=>?_⟩;have Z:LH F0 w B (iv G x U ls st y) (D++[bX y]):=F.perm (.cons _ (List.perm_append_comm (l₁:=[_,_]) (l₂:=[En.g x])));refine agl T P O co L (λi h j=>(z i h j).params.2) ls.length 0 [] ls B co N rfl ⟨ws,ws⟩ ws ws ⟨by grind,λi h j=>?_,λb K=>bb d.fr.size (M b K)⟩;have:=z i h j;exact⟨this.kind,this.node,this.da,⟨this.params.1,by have:=this.params.2;omega⟩,this.bM,this.hints,this.nm⟩
section
variable {w:J} {D:List En} {b:Nat} {l:List UInt8} {at_:Nat} {bad:Bool}
def Z'{m:Int}(h:aY m):(bF m).length<21:=by
 have d:=h.1;have j:=h.2;have:(cg m.natAbs).length<=19:=zZ co co;unfold bF
 grind
end
def M4(xs:List Int)(n:Int):hd (xs++[n])=if xs=[]then bF n else hd xs++32::bF n:=by
 induction xs with
 |nil=>rfl
 |cons h xs d=>
  rw[ag ws];cases xs with
  |nil=>rfl
  |cons j k=>
   rw[ag ws]at d;rw[je,je,sw,<-je,d,sw];simp
def ZF(w:J):ai V Pf #[] w λr h=>(∃t:Sl,r=ae t.v/\aG h dv 1 t (j5.map dN))/\af w h:=
 LA.ok ((bK (w:=w) [] ws).cZ (n:=6) (sz:=1) (cs:=j5.map dN) rfl md λj d=>⟨⟨_,rfl,d.get 0⟩,d.fr⟩)
def ag2:∀i<6,j5[i]? =some (j5.getD i []):=md
def nt{n:Int}(h:aY n):(bF n).length<=20:=by have:=Z' h;omega
def u6:∀l:List Int,(∀h∈l,aY h)->(hd l).length<=21 *l.length
 |[],_=>br _
 |[n],d=>by have:=nt (d n ws);show(bF n).length<=21;omega
 |n::m::r,d=>by have q:=nt (d n ws);have k:=u6 (m::r) λh j=>d h (by simp at j ⊢;exact .inr j);rw[sw,a7,bR];simp only[bR]at k ⊢;omega
def il{l:List Int}(h:∀d∈l,aY d):(cG l).length<=21 *l.length+2:=by have:=u6 l h;unfold cG;simp only[je,bR,a7,dK];omega
structure j8(s:bO):Prop where
 kind:0<=s.kind/\s.kind<=5
 node:aY s.node
 da:aY s.da
 params:(∀x∈s.params,aY x)/\s.params.length<=1000000
 bM:(∀x∈s.bM,aY x)/\s.bM.length<=1000000
 hints:(∀x∈s.hints,aY x)/\s.hints.length<=1000000
 nm:s.nm.size<=1000000
def A4(s:bO):(hF s).length<=s.nm.size+1:=by
 unfold hF;split
 .simp
 .rw [dY];omega
def Cq(k:Int):(g5 k).length<=7:=by
 unfold g5;have d:∀i<6,(j5.getD i []).length<=7:=md
 by_cases h:k.toNat<6
 .exact d _ h
 .rw [List.getD_eq_getElem?_getD,List.getElem?_eq_none (by show 6<=_;omega)];simp
def w8{w:J}{s:Sl}{l:List Int}(B:bx w s l)(hi:∀d∈l,aY d)(K:l.length<=1000000):ai V Pd #[s.v] w λr Y=>r=ae (.string (ba (cG l)))/\af w Y:=by
 have L:=bx.len B;refine uS.ok ?_;have loop:∀(k i:Nat) (Y:J),i+k=l.length->af w Y->uS.L0 s (ba (40::hd (l.take i))) (i:Int) Y λr Y=>r=ae (.string (ba (cG l)))/\af w Y:=by
  intro k;induction k with
  |zero=>
   intro i Y x f;have y:=u6 (l.take i) λd h=>hi d (ky h);rw[f']at y;refine uS.bE (aN (aW co) ⟨?_,?_,f⟩)
   .rw [bU,IntKind.max_i64];simp only[bR];show ¬(((_+1:Nat):Int)>_);omega
   .rw [show bn #[41]=ba [41]from rfl,cN,eO co];rfl
  |succ k H=>
   intro i Y x f;have j:l[i]? =some l[i]:=a' co;generalize l[i]=d at j;have h:=hi d (aD j);have y:=u6 (l.take i) λd h=>hi d (ky h);rw[f']at y;have C:l.take (i+1)=l.take i++[d]:=by rw[dV,j];rfl
   have z:∀out:List UInt8,out.length<=30000000->out++bF d=40::hd (l.take (i+1))->uS.S1 s (ba out) (i:Int) Y λr Y=>r=ae (.string (ba (cG l)))/\af w Y:=by
    intro out M F;refine⟨co,co,bx.cell (B.bz f) j (by rw[bB]) λp _ E=>⟨d,E,(DP h Y).mono ?_⟩⟩;rintro _ I ⟨rfl,D⟩;have:=nt h;refine⟨_,rfl,?_,?_⟩
    .rw [bU,bU,IntKind.max_i64];omega
    .rw [cN,F,bc _ co];exact H (i+1) I co (f.dO D)
   refine uS.bE (aM (aR co) (aF (λq=>⟨?_,?_⟩) (λq=>z _ (by simp only[bR];omega) ?_)))
   .rw [bU,IntKind.max_i64];simp only[bR];show ¬(((_+1:Nat):Int)>_);omega
   .rw [show bn #[32]=ba [32]from rfl,cN];refine z _ (by simp;omega) ?_;have G:l.take i≠[]:=λe=>(List.take_eq_nil_iff.1 e).elim (λA=>co) λA=>by rw[A]at x;simp at x
    rw[C,M4,ag G];simp
   .have q:i=0:=co
    subst q;rw[C];rfl
 exact loop l.length 0 w co (Fr.refl _ _)
def JB{d:Sp}(h:j8 d.x){w:J}(y:wS w d):ai V O7 #[d.v] w λr C=>r=ae (.string (ba (cU d.x)))/\af w C:=by
 have l1:=nt h.node;have l2:=nt h.da;have l3:=il h.params.1;have l4:=il h.hints.1;have l5:=il h.bM.1;have m3:=h.params.2;have m4:=h.hints.2;have m5:=h.bM.2;have m6:=A4 d.x;have m7:=h.nm;have m8:=Cq d.x.kind;have H:bn #[32]=ba [32]:=rfl;refine EK.aC ((bK (w:=w) [d.pE,d.hE,d.lE] (by
  intro e I;simp only[aq,aL,aO]at I;rcases I with rfl|rfl|rfl
  .exact y.1
  .exact y.2.2
  .exact y.2.1)).aH λb w1 O=>?_)
 have G:∀N,N=ba (hF d.x)->EK.bt b d.x.kind d.x.node d.x.da d.p d.x.nm d.l d.h N w1 λr C=>r=ae (.string (ba (cU d.x)))/\af w C:=by
  rintro _ rfl;refine O.ah λw2 P=>P.aA (DP h.node w2) ?_;rintro _ w3 rfl Q;refine⟨_,rfl,?_⟩;simp only[H,cN,bU];refine⟨?_,Q.aA (DP h.da w3) ?_⟩
  .rw [IntKind.max_i64];simp only[bR,dK];omega
  rintro _ w4 rfl S;refine⟨_,rfl,?_⟩;simp only[cN,bU];refine⟨?_,S.ah λw5 T=>T.aA (ZF w5) ?_⟩
  .rw [IntKind.max_i64];simp only[a7,bR,dK];omega
  rintro _ w6 ⟨t,rfl,Y⟩ D;obtain⟨B,K⟩:=Int.eq_ofNat_of_zero_le h.kind.1;have W:B<6:=by have:=h.kind.2;omega
  rw[K];refine⟨_,rfl,VK Y (ag2 B W) λp A=>⟨_,A,?_⟩⟩;have hw:j5.getD B []=g5 d.x.kind:=by unfold g5;rw[K];rfl
  rw[hw]at A ⊢;simp only[H,cN,bU];have gk:∀x:Nat,x<=100000000->¬((x:Int)>IntKind.i64.max):=λx hx=>by rw[IntKind.max_i64];omega
  refine⟨gk _ ?_,gk _ ?_,gk _ ?_,gk _ ?_,gk _ ?_,gn ((w8 (l:=d.x.params) (D.getD 0) h.params.1 h.params.2).mono ?_)⟩
  case' refine_6=>
   rintro _ w7 ⟨rfl,j⟩;have L:=xe j A λh=>h;have E:=D.bz j;refine⟨j,_,rfl,L,?_⟩;simp only[cN,bU];refine⟨gk _ ?_,gk _ ?_,gn ((w8 (l:=d.x.hints) (E.getD 1) h.hints.1 h.hints.2).mono ?_)⟩
  case' refine_6.refine_3=>
   rintro _ aa ⟨rfl,k⟩;have M:=xe k L λh=>h;have F:=E.bz k;refine⟨k,_,rfl,M,?_⟩;simp only[cN,bU];refine⟨gk _ ?_,gk _ ?_,gn ((w8 (l:=d.x.bM) (F.getD 2) h.bM.1 h.bM.2).mono ?_)⟩
  case' refine_6.refine_3.refine_3=>
   rintro _ w9 ⟨rfl,q⟩;have Z:=xe q M λh=>h;have U:=F.bz q;refine⟨q,_,rfl,Z,?_⟩;simp only[cN,bU];refine⟨gk _ ?_,?_,U.fr⟩
  case' refine_6.refine_3.refine_3.refine_2=>
   unfold cU;simp
  all_goals (simp only[a7,bR,dK];omega)
 exact jH (λz=>G _ (by unfold hF;rw[au (vi.1 z)];rfl)) (λz=>G _ (by unfold hF;rw[ag (λe=>z (vi.2 e)),jt]))
def acB{s:bO}(h:j8 s):(cU s).length<=70000000:=by have d:=nt h.node;have j:=nt h.da;have k:=il h.params.1;have q:=il h.hints.1;have w:=il h.bM.1;have x:=h.params.2;have y:=h.hints.2;have z:=h.bM.2;have A:=A4 s;have B:=h.nm;have C:=Cq s.kind;unfold cU;simp only[a7,bR];omega
abbrev dS(ls:List (List UInt8)):List UInt8:=ls.flatMap (·++[10])
def YZ{w:J}{s:Sl}{ls:List (List UInt8)}(h:Rd w s (ls.map dN))(x:∀t∈ls,t.length<=1000000000)(C:ls.length<=1000000):
  ai V Pa #[s.v] w λr j=>r=ae (.string (ba (dS ls)))/\af w j:=by
 have A:=h.1;simp only[gv]at A;refine uR.ok ?_;have loop:∀(k i:Nat),i+k=ls.length->(dS (ls.take i)).length<=i *2000000000->uR.L0 s (ba (dS (ls.take i))) (i:Int) w λr j=>r=ae (.string (ba (dS ls)))/\af w j:=by
  intro k;induction k with
  |zero=>
   intro i z _;refine uR.bE (aN (aW co) ⟨?_,Fr.refl _ _⟩);rw[eO co]
  |succ k B=>
   intro i z hlen;have d:ls[i]? =some ls[i]:=a' co;generalize ls[i]=t at d;have D:=x t (aD d);have q:dS (ls.take (i+1))=dS (ls.take i)++(t++[10]):=by rw[dV,d];simp[dS]
   refine uR.bE (aM (aR co) ⟨co,co,Rd.get h (i:=i) (v:=dN t) (by rw[ku,d];rfl) (by rw[bB]) λp _ y=>⟨_,y,?_,?_,?_⟩⟩)
   .rw [bU,bU,IntKind.max_i64];omega
   .rw [cN,bU,IntKind.max_i64,a7];show ¬(((_+1:Nat):Int)>_);omega
   .rw [show bn #[10]=ba [10]from rfl,cN,cN,ck,<-q];show uR.L0 _ _ (aj .i64 _) _ _;rw[bc _ co];refine B (i+1) co ?_;rw[q,a7,a7];show _+(t.length+1)<=_;omega
 exact loop ls.length 0 co (by simp[dS])
abbrev eC(s:Sl)(xs:List UInt8):En:=.row cJ 1 s (xs.map bL)
section
variable {M:Nat->Prop} {w0 w:J} {L D:List En}
def Jw{s:Sl}{xs:List UInt8}(h:(eC s xs).P w):s.n=xs.length:=by have:=(show aG w cJ 1 s (xs.map bL)from h).len;simpa using this.symm
def _root_.Go.W.LH.Jh(H:LH M w0 w L D)(i:Nat){s:Sl}{xs:List UInt8}(hi:L[i]? =some (eC s xs))(t:List UInt8)(x:xs.length+t.length<=100000000000000){K:Sl->J->Prop}(q:∀s' Y,LH M w0 Y (L.set i (eC s' (xs++t))) D->K s' Y):∃(s':Sl) (Y:J),Sem.run V (Builtin.append_ #[dB,dv] dB #[s.v,.string (ba t)]) w=.ok s'.v Y/\K s' Y:=by have y:=bU t;obtain⟨s',Y,h,d,j,k⟩:=Jk (ty:=dB) (aG.Bf (H.get i hi)) (ba t) co;rw[gm]at d;exact⟨s',Y,h,q s' Y (H.g4 i (eC s' (xs++t)) hi j d.2 k)⟩
def _root_.Go.W.LH.wX(H:LH M w0 w L D)(i:Nat){s:Sl}{xs:List UInt8}(hi:L[i]? =some (eC s xs))(c:UInt8)(k:xs.length<=100000000000000){K:Sl->J->Prop}(h:∀s' Y,LH M w0 Y (L.set i (eC s' (xs++[c]))) D->K s' Y):dG w (.cells #[.int .u8 (c.toNat:Int)] cJ) λj=>∃(s':Sl) (Y:J),Sem.run V (Builtin.append_ #[dB,dB] dB #[s.v,.slice (some (nb w)) 1 1]) j=.ok s'.v Y/\K s' Y:=by have q:=Jw (H.get i hi);refine H.uf i jz hi (λs' Y d _ _=>h s' Y ?_) co;unfold eC;rw[fK];exact d
def _root_.Go.W.LH.aU(H:LH M w0 w L D)(i:Nat){s:Sl}{xs:List UInt8}(hi:L[i]? =some (eC s xs))(Q:fU∈D){u:Nat}(x:u<2^64)(A:xs.length<=10000000000000){K:aK}(y:∀d h,LH M w0 h (L.set i (eC d (xs++cg u))) D->K (ae d.v) h):ai V Ph #[s.v,.u (u:Int),.i 10] w K:=by
 obtain⟨d1,d2,I⟩:=Ev x;have aa:=(cX.1 hi).1;refine MM.ok (aM rfl (aF (λO=>?_) (λO=>?_)))
 .rw [aQ _ co];refine(Sz u co w).mono ?_;rintro _ C ⟨rfl,e⟩;subst e;exact⟨_,rfl,H.Jh i hi _ co y⟩
 .refine H.nw (cs:=qd.toArray) λC ac j=>(JU co x C (j.rd _ Q).1).mono ?_;rintro _ w2 ⟨rfl,e⟩;subst e;have z:(L++[En.c w.heap.size qd.toArray.toList p0])[L.length]? =some (.c w.heap.size qd p0):=ws
  have Y:(En.c w.heap.size qd p0).P w2:=j.get L.length z;refine⟨_,rfl,co,co,?_⟩;rw[bB,Nat.sub_zero];have N:(if 24=0 then ab w.heap.size else(ab w.heap.size).add (0 *1))=(ab w.heap.size).add 0:=by rw[ag md]
  rw[N];refine(JO (vs:=qd) (o:=0) (nd:=(cg u).length) Y rfl co I x).mono ?_;rintro _ E ⟨rfl,B,q,T⟩;have G:LH M w0 E ((L++[En.c w.heap.size qd.toArray.toList p0]).set L.length (.c w.heap.size B p0)) D:=j.g4 L.length (.c w.heap.size B p0) z (q.fr.mono λad _ Z=>by simp[En.c,En.ob,Z]) (q.get 0) λb A=>.inl A;have U:=KJ T rfl co;have S:Bytes E ⟨some ((ab w.heap.size).add 0),(cg u).length,24⟩ (cg u):=G7 (q.get 0) rfl co U;have k:=G.take L.length;rw[List.set_append_right _ _ (br _),List.take_left' rfl]at k;refine⟨rfl,co,co,?_⟩;have hn:=Jw (k.get i hi);refine k.ap i jz (src:=⟨some ((ab w.heap.size).add 0),(cg u).length,24⟩) (news:=(cg u).map bL) hi S.2.2 ws (zM _) (by show(_+(cg u).length) *1<=_;omega) λd h F _ _=>y d h ?_;unfold eC;rw[fK];exact F
def _root_.Go.W.LH.aI(H:LH M w0 w L D)(i:Nat){s:Sl}{xs:List UInt8}(hi:L[i]? =some (eC s xs))(z:fU∈D){n:Int}(h:aY n)(N:xs.length<=1000000000000){K:aK}(C:∀d q,LH M w0 q (L.set i (eC d (xs++bF n))) D->K (ae d.v) q):ai V QF #[s.v,.i n,.i 10] w K:=by
 obtain⟨F,G,A⟩:=Wz h;have E:=(cX.1 hi).1;have imp:ai V Pg #[s.v,.i n,.i 10] w λr q=>∃d,r=ae d.v/\LH M w0 q (L.set i (eC d (xs++bF n))) D:=by
  refine ML.ok (aF (λk=>?_) (λk=>?_))
  .rw [F k,pk k];refine H.wX i hi 45 co λO B x=>x.aU i (xs:=xs++[45]) (by simp[E]) z A (by simp;omega) λy I j=>⟨_,rfl,y,rfl,?_⟩;rw[List.set_set,ck]at j;exact j
  .rw [G co,uB k];exact H.aU i hi z A co λy I j=>⟨_,rfl,y,rfl,j⟩
 refine VL.ok (imp.mono ?_);rintro _ B ⟨d,rfl,x⟩;exact⟨_,rfl,C d B x⟩
end
def yp{w:J}{s:Sl}{l:List Int}(H:bx w s l)(hi:∀d∈l,aY d)(Q:l.length<=1000000)(C:lA w):ai V PN #[s.v] w λr Y=>r=ae (.string (ba (cG l)))/\af w Y:=by
 have S:=bx.len H;have h:LH F0 w w [] [fU,.rd s (l.map a5)]:=bK _ (by
  intro e j;simp only[aq,aL,aO]at j;rcases j with rfl|rfl
  .exact C
  .exact H)
 have loop:∀(k i:Nat) (out:Sl) (Y:J),i+k=l.length->LH F0 w Y [eC out (40::hd (l.take i))] [fU,.rd s (l.map a5)]->vx.L0 out s (s.n:Int) (i:Int) Y λr Y=>r=ae (.string (ba (cG l)))/\af w Y:=by
  intro k;induction k with
  |zero=>
   intro i out Y D h;have E:=u6 (l.take i) λd q=>hi d (ky q);rw[f']at E;refine vx.bE (aN (aW co) (h.wX 0 rfl 41 (by simp only[bR];omega) λU K y=>⟨_,kR (aG.hq (y.get 0)),?_,y.fr⟩));rw[eO co];rfl
  |succ k N=>
   intro i out Y D h;have z:l[i]? =some l[i]:=a' co;generalize l[i]=d at z;have q:=hi d (aD z);have E:=u6 (l.take i) λd q=>hi d (ky q);rw[f']at E;have I:l.take (i+1)=l.take i++[d]:=by rw[dV,z];rfl
   have G:∀(out:Sl) (xs:List UInt8) (x:J),xs.length<=30000000->xs++bF d=40::hd (l.take (i+1))->LH F0 w x [eC out xs] [fU,.rd s (l.map a5)]->vx.S1 out d s (s.n:Int) (i:Int) x λr Y=>r=ae (.string (ba (cG l)))/\af w Y:=by intro out xs x T C A;refine A.aI 0 rfl ws q co λs3 P F=>⟨_,rfl,?_⟩;rw[bc _ co];rw[C]at F;exact N (i+1) s3 P co F
   refine vx.bE (aM (aR co) ⟨co,co,bx.cell (h.getD 1) z (by rw[bB]) λp _ L=>⟨d,L,aF (λB=>h.wX 0 rfl 32 (by simp only[bR];omega) λO x A=>G O _ x (by simp;omega) ?_ A) (λB=>G out _ Y (by simp only[bR];omega) ?_ h)⟩⟩)
   .have M:l.take i≠[]:=λe=>(List.take_eq_nil_iff.1 e).elim (λj=>co) λj=>by rw[j]at D;simp at D
    rw[I,M4,ag M];simp
   .have B:i=0:=co
    subst B;rw[I];rfl
 exact vx.ok (h.cZ (n:=1) (sz:=1) (cs:=[bL 40]) rfl md λK y=>loop l.length 0 _ K co y)
def iN:List (List UInt8)->List UInt8
 |[]=>[]
 |[p]=>p
 |p::d::r=>p++32::iN (d::r)
def M9(xs:List (List UInt8))(p:List UInt8):iN (xs++[p])=if xs=[]then p else iN xs++32::p:=by
 induction xs with
 |nil=>rfl
 |cons x xs h=>
  rw[ag ws];cases xs with
  |nil=>rfl
  |cons y d=>
   rw[ag ws]at h;show iN (x::((y::d)++[p]))=_;show x++32::iN ((y::d)++[p])=(x++32::iN (y::d))++32::p;rw[h];simp
section
variable {M:Nat->Prop} {w0 w:J} {D:List En}
def G2{s t:Sl}{xs:List UInt8}{ps:List (List UInt8)}(H:LH M w0 w [eC s xs] D)(E:En.rd t (ps.map dN)∈D)(hx:xs.length<=10000000000)(F:∀p∈ps,p.length<=100000000)(hl:ps.length<=10){K:aK}(N:∀L Y,LH M w0 Y [eC L (xs++(iN ps++[10]))] D->K (ae L.v) Y):ai V PD #[s.v,t.v] w K:=by
 have hn:t.n=ps.length:=by have:=(show Rd w t (ps.map dN)from H.rd _ E).1;simpa using this
 have I:∀i:Nat,(iN (ps.take i)).length<=100000001 *i:=by
  intro i;induction i with
  |zero=>exact br _
  |succ i y=>
   by_cases Q:i<ps.length
   .have d:ps[i]? =some ps[i]:=a' Q;have hh:=F _ (aD d);rw[dV,d];show(iN (ps.take i++[ps[i]])).length<=_;rw[M9];split
    .omega
    .rw [a7,bR];omega
   .rw [eO co]at y ⊢;omega
 have loop:∀(k i:Nat) (out:Sl) (Y:J),i+k=ps.length->LH M w0 Y [eC out (xs++iN (ps.take i))] D->vu.L0 out t (t.n:Int) (i:Int) Y K:=by
  intro k;induction k with
  |zero=>
   intro i out Y x H;have:=I i;refine vu.bE (aN (aW co) (H.wX 0 rfl 10 (by rw[a7];omega) λT W z=>N T W ?_));rw[eO co,ck]at z;exact z
  |succ k y=>
   intro i out Y x H;have hj:=I i;have d:ps[i]? =some ps[i]:=a' co;generalize ps[i]=p at d;have aa:=F p (aD d);have G:ps.take (i+1)=ps.take i++[p]:=by rw[dV,d];rfl
   have B:∀(out:Sl) (ys:List UInt8) (h:J),ys.length<=20000000000->ys++p=xs++iN (ps.take (i+1))->LH M w0 h [eC out ys] D->vu.S1 out (ba p) t (t.n:Int) (i:Int) h K:=by intro out ys h hy P j;refine j.Jh 0 rfl p co λs3 Z A=>?_;rw[bc _ co];rw[P]at A;exact y (i+1) s3 Z co A
   refine vu.bE (aM (aR co) ⟨co,co,Rd.get (H.rd _ E) (i:=i) (v:=dN p) (by rw[ku,d];rfl) (by rw[bB]) λab _ O=>⟨_,O,aF (λq=>H.wX 0 rfl 32 (by rw[a7];omega) λU h j=>B U _ h (by simp only[a7,bR,dK];omega) ?_ j) (λq=>B out _ Y (by rw[a7];omega) ?_ H)⟩⟩)
   .have S:ps.take i≠[]:=λe=>(List.take_eq_nil_iff.1 e).elim (λC=>co) λC=>by rw[C]at x;simp at x
    rw[G,M9,ag S];simp
   .have q:i=0:=co
    subst q;rw[G];simp[iN]
 refine vu.ok (loop ps.length 0 s w co ?_);rw[show iN (ps.take 0)=[]from rfl,dy];exact H
end
def acA(s:bO):iN [g5 s.kind,bF s.node,bF s.da,hF s,cG s.params,cG s.hints,cG s.bM]=cU s:=rfl
section
variable {M:Nat->Prop} {w0 w:J} {D:List En}
def G3{out s:Sl}{xs:List UInt8}{l:List Sp}(H:LH M w0 w [eC out xs] D)(I:fU∈D)(C:h0∈D)(hS:En.sp s l∈D)(hs:∀d∈l,j8 d.x)(hl:l.length<=100)(hx:xs.length<=1000000000){K:aK}(hK:∀L Y,LH M w0 Y [eC L (xs++(bq l).flatMap e3)] D->K (ae L.v) Y):ai V PF #[out.v,s.v] w K:=by
 have hn:=(dM.1 (H.rd _ hS)).n;have fl:∀i,(((bq l).take i).flatMap e3).length<=70000001 *i:=by
  intro i;induction i with
  |zero=>simp
  |succ i ih=>
   by_cases hi:i<l.length
   .have A:l[i]? =some l[i]:=a' hi;have hh:=acB (hs _ (aD A));rw[dV,ku,A,cW];simp only[a7,Option.map_some,Option.toList_some,cH,List.flatMap_nil,dy,e3,bR,dK];omega
   .rw [eO (by simp;omega)]at ih ⊢;omega
 have loop:∀(k i:Nat) (o:Sl) (Y:J),i+k=l.length->LH M w0 Y [eC o (xs++((bq l).take i).flatMap e3)] D->vv.a6 o s (s.n:Int) (i:Int) Y K:=by
  intro k;induction k with
  |zero=>
   intro i o Y hk H;refine vv.bD (aN (aW co) (hK o Y ?_));rw[eO (by simp;omega)]at H;exact H
  |succ k ih=>
   intro i o Y hk H;have A:l[i]? =some l[i]:=a' co;generalize l[i]=d at A;have hd:=aD A;have q:=hs d hd;have av:=fl i;refine vv.bD (aM (aR co) ⟨co,co,(dM.1 (H.rd _ hS)).get A λp y=>?_⟩);rw[bB];refine⟨_,_,_,_,_,_,_,y.c0,y.c1,y.c2,y.c3,y.c4,y.c5,y.c6,H.aH λb w1 H1=>?_⟩;have S1:∀aj B,aj=ba (hF d.x)->LH M w0 B ([eC o (xs++((bq l).take i).flatMap e3)]++[.g b]) D->vv.b3 o b d.x.kind d.x.node d.x.da d.p d.x.nm d.l d.h aj s (s.n:Int) (i:Int) B K:=by
    rintro _ B rfl F;obtain⟨j,hj⟩:=Int.eq_ofNat_of_zero_le q.kind.1;have an:j<6:=by have:=q.kind.2;omega
    have hw:j5.getD j []=g5 d.x.kind:=by unfold g5;rw[hj];rfl
    have E:∀{Y:J},h0.P Y->Y.cell? ((Addr.mk 0 0 none).add (a0 (j:Int) *1))=some (.string (ba (g5 d.x.kind))):=λG=>by rw[bB,Nat.mul_one,<-hw];exact tw G j an
    rw[hj];refine⟨co,by show(j:Int)<6;omega,F.ah λw3 W=>⟨_,E (W.rd _ C),W.aA (DQ q.node (W.rd _ I).1) ?_⟩⟩;rintro _ w4 rfl Z;refine⟨_,rfl,E (Z.rd _ C),Z.aA (DQ q.da (Z.rd _ I).1) ?_⟩;rintro _ w5 rfl N;have ad:=λ{Y:J} (H:LH M w0 Y ([eC o (xs++((bq l).take i).flatMap e3)]++[.g b]) D)=>(dM.1 (H.rd _ hS)).2 d hd;refine⟨_,rfl,E (N.rd _ C),N.aA (yp (l:=d.x.params) (ad N).1 q.params.1 q.params.2 (N.rd _ I)) ?_⟩;rintro _ w6 rfl O;refine⟨_,rfl,E (O.rd _ C),O.aA (yp (l:=d.x.hints) (ad O).2.2 q.hints.1 q.hints.2 (O.rd _ I)) ?_⟩;rintro _ w7 rfl Q;refine⟨_,rfl,E (Q.rd _ C),Q.aA (yp (l:=d.x.bM) (ad Q).2.1 q.bM.1 q.bM.2 (Q.rd _ I)) ?_⟩;rintro _ T rfl H8;refine⟨_,rfl,E (H8.rd _ C),?_⟩;obtain⟨z,S⟩:∃z,z=[g5 d.x.kind,bF d.x.node,bF d.x.da,hF d.x,cG d.x.params,cG d.x.hints,cG d.x.bM]:=⟨_,rfl⟩;have am:(#[.string (ba (g5 d.x.kind)),.string (ba (bF d.x.node)),.string (ba (bF d.x.da)),.string (ba (hF d.x)),.string (ba (cG d.x.params)),.string (ba (cG d.x.hints)),.string (ba (cG d.x.bM))]:Array aa)=(z.map dN).toArray:=by rw[S];rfl
    have ao:z.length=7:=by rw[S];rfl
    rw[am];refine H8.cZ (n:=7) (sz:=1) (cs:=z.map dN) (by simp[ao]) md λw9 H9=>?_;have al:LH M w0 w9 [eC o (xs++((bq l).take i).flatMap e3),En.g b] (D++[.rd ⟨some (ab T.heap.size),7,7⟩ (z.map dN)]):=H9.freeze 2 (.rd ⟨some (ab T.heap.size),7,7⟩ (z.map dN)) rfl (aG.hq (H9.get 2)) λap ac=>oP ac;have U:LH M w0 w9 ([En.g b]++[eC o (xs++((bq l).take i).flatMap e3)]) (D++[.rd ⟨some (ab T.heap.size),7,7⟩ (z.map dN)]):=al.perm (List.Perm.swap _ _ _);refine⟨_,Fb U,G2 (s:=o) (t:=⟨some (ab T.heap.size),7,7⟩) (xs:=xs++((bq l).take i).flatMap e3) (ps:=z) U.part (eD _ (b0.2 rfl)) (by rw[a7];omega) ?_ co λL ar af=>⟨af.fr,L,rfl,?_⟩⟩
    .have l1:=nt q.node;have l2:=nt q.da;have l3:=il q.params.1;have l4:=il q.hints.1;have l5:=il q.bM.1;have m3:=q.params.2;have m4:=q.hints.2;have m5:=q.bM.2;have m6:=A4 d.x;have m7:=q.nm;have m8:=Cq d.x.kind;intro p y;rw[S]at y;simp only[aq,aL,aO]at y;rcases y with rfl|rfl|rfl|rfl|rfl|rfl|rfl<;>omega
    .have ak:=(U.z7 af λe he ap ac=>.inr ⟨e,he,ac⟩).forget D λe he=>bV _ he;rw[bc _ co];refine ih (i+1) L ar co ?_;have et:xs++((bq l).take (i+1)).flatMap e3=xs++((bq l).take i).flatMap e3++(iN z++[10]):=by rw[S,acA,dV,ku,A];simp[e3]
     rw[et];exact(ak.perm (List.Perm.swap _ _ _)).take 1
   exact jH (λG=>H1.ah λB F=>S1 _ B (by unfold hF;rw[au (vi.1 G)];rfl) F) (λG=>H1.ah λB F=>S1 _ B (by unfold hF;rw[ag (λe=>G (vi.2 e)),jt]) F)
 refine vv.aC (loop l.length 0 out w co ?_);rw[List.take_zero,List.flatMap_nil,dy];exact H
def adX{s:Sl}{l:List Sp}(h:fP w s l)(j:∀d∈l,j8 d.x)(L:l.length<=10)(y:lA w)(H:h0.P w)(G:yr (bq l)=0):
  ai V Gh #[.agg #[(⟨none,0,0⟩:Sl).v,s.v]] w λr K=>r=ae (.tuple #[.string (ba ((bq l).flatMap e3)),.i 0])/\af w K:=by
 have F:∀d∈l,mB d:=λd q=>⟨by have:=(j d q).params.2;omega,by have:=(j d q).bM.2;omega,by have:=(j d q).hints.2;omega⟩;refine sY.aC ((bK (w:=w) [fU,h0,.sp s l] (by
  intro e C;simp only[aq,aL,aO]at C;rcases C with rfl|rfl|rfl
  .exact y
  .exact H
  .exact dM.2 h)).aH λb N z=>z.aA (abK co F (dM.1 (z.getD 2))) ?_)
 rintro _ O rfl D;refine⟨_,rfl,dA (λh=>absurd G h) (λ_=>sY.bD (aN rfl ?_))⟩;have k:=D.fY cJ 1;refine⟨_,Fb k,G3 (xs:=[]) k.part ws ws ws j co ws λI Q A=>⟨A.fr,I,rfl,?_⟩⟩;have B:=k.z7 A λe y M E=>.inr ⟨e,y,E⟩;exact⟨_,kR (aG.hq (B.get 1)),rfl,B.fr⟩
end
namespace KY
abbrev bt:=ak (ax V Tryz.f12 [] [1,2]) [5] [(3,.st),(4,.I),(5,.st)]
abbrev t1:=ao bt
def aC:=ay t1 N9 []
end KY
namespace KX
def aC:=ay (ax V Tryz.f3 [] [5,8,13]) F6 [.s,.s]
end KX
def nF:bO:=⟨0,-1,0,[0],ba [],[1],[]⟩
def x8:bO:=⟨5,0,0,[],ba [],[-3,4],[0,2]⟩
def xp{n:Int}(h:0<=n)(d:n<10):bF n=[g' n.natAbs]:=by unfold bF;rw[ag co,nu co]
def KG{n:Int}(h:n<0)(d:-10<n):bF n=[45,g' n.natAbs]:=by unfold bF;rw[au h,nu co]
def acS:e3 nF=[103,97,116,101,32,45,49,32,48,32,45,32,40,48,41,32,40,41,32,40,49,41,10]:=by have h:bF (-1)=[45,49]:=KG md md;have d:bF 0=[48]:=xp md md;have j:bF 1=[49]:=xp md md;show(g5 0++32::(bF (-1)++32::(bF 0++32::([45]++32::((40::bF 0++[41])++32::([40,41]++32::(40::bF 1++[41])))))))++[10]=_;rw[h,d,j];rfl
def acT:e3 x8=[114,101,115,111,108,118,101,32,48,32,48,32,45,32,40,41,32,40,48,32,50,41,32,40,45,51,32,52,41,10]:=by have j:bF (-3)=[45,51]:=KG md md;have d:bF 0=[48]:=xp md md;have h:bF 2=[50]:=xp md md;have k:bF 4=[52]:=xp md md;show(g5 5++32::(bF 0++32::(bF 0++32::([45]++32::([40,41]++32::((40::(bF 0++32::bF 2)++[41])++32::(40::(bF (-3)++32::bF 4)++[41])))))))++[10]=_;rw[j,d,h,k];rfl
def acW:yr [nF,nF,nF,x8]=0:=md
def AJ:j8 nF/\j8 x8:=by constructor<;>exact⟨md,md,md,⟨md,md⟩,⟨md,md⟩,⟨md,md⟩,md⟩
def acU(a l:List UInt8):ba (a++(a++(a++(l++[]))))=ba a++ba a++ba a++ba l:=by simp only[cN,dy,ck]
def Zk{w:J}(S:lA w)(U:h0.P w):ai V N9 #[] w λr w'=>r=ae (.bool true)/\af w w':=by
 refine KY.aC ((bK (w:=w) [fU,h0] (by
  intro e D;simp only[aq,aL,aO]at D;rcases D with rfl|rfl
  .exact S
  .exact U)).cZ (n:=2) (sz:=1) (cs:=[.i 0,.i 2]) rfl md λE F=>F.cZ (n:=2) (sz:=1) (cs:=[.i (-3),.i 4]) rfl md λw2 L=>L.aH λb1 w3 O=>O.ah λy G=>G.cZ (n:=1) (sz:=1) (cs:=[.i 0]) rfl md λz H=>H.cZ (n:=1) (sz:=1) (cs:=[.i 1]) rfl md λac I=>I.aH λb2 ad K=>K.ah λaa M=>?_)
 let j:List Sp:=[⟨nF,⟨some (ab y.heap.size),1,1⟩,⟨some (ab z.heap.size),1,1⟩,⟨none,0,0⟩⟩,⟨nF,⟨some (ab y.heap.size),1,1⟩,⟨some (ab z.heap.size),1,1⟩,⟨none,0,0⟩⟩,⟨nF,⟨some (ab y.heap.size),1,1⟩,⟨some (ab z.heap.size),1,1⟩,⟨none,0,0⟩⟩,⟨x8,⟨none,0,0⟩,⟨some (ab E.heap.size),2,2⟩,⟨some (ab w.heap.size),2,2⟩⟩]
 refine M.k7 λd _ h W=>?_;have Y:bx d ⟨some (ab w.heap.size),2,2⟩ [0,2]:=aG.hq (h.get 0);have Z:bx d ⟨some (ab E.heap.size),2,2⟩ [-3,4]:=aG.hq (h.get 1);have B:bx d ⟨some (ab y.heap.size),1,1⟩ [0]:=aG.hq (h.get 3);have C:bx d ⟨some (ab z.heap.size),1,1⟩ [1]:=aG.hq (h.get 4);have q:bx d ⟨none,0,0⟩ []:=Rd.nil d;have sp:fP d ⟨some (ab aa.heap.size),4,4⟩ j:=⟨mf (cs:=j.flatMap Sp.c) W rfl,λA k=>by
  simp only[j,aq,aL,aO]at k;rcases k with rfl|rfl|rfl|rfl
  .exact ⟨B,C,q⟩
  .exact ⟨B,C,q⟩
  .exact ⟨B,C,q⟩
  .exact ⟨q,Z,Y⟩⟩
 have T:∀A∈j,j8 A.x:=λA k=>by
  simp only[j,aq,aL,aO]at k;rcases k with rfl|rfl|rfl|rfl
  .exact AJ.1
  .exact AJ.1
  .exact AJ.1
  .exact AJ.2
 have Q:=adX (w:=d) sp T (Nat.le_of_ble_eq_true rfl) (h.rd fU (.head _)) (h.rd h0 (.tail _ (.head _))) acW;refine h.aA Q ?_;rintro _ ag rfl N;refine⟨_,_,rfl,aM rfl ⟨md,md,md,?_,N.fr⟩⟩;have e:(bq j).flatMap e3=e3 nF++(e3 nF++(e3 nF++(e3 x8++[]))):=rfl;rw[e,acS,acT];exact congrArg (λb=>Ending.returned (.bool b)) (beq_iff_eq.2 (congrArg ByteArray.toList (acU [103,97,116,101,32,45,49,32,48,32,45,32,40,48,41,32,40,41,32,40,49,41,10] [114,101,115,111,108,118,101,32,48,32,48,32,45,32,40,41,32,40,48,32,50,41,32,40,45,51,32,52,41,10])))
def nZ.lxw{n:Nat}{x:Lx}(h:nZ n x.p)(q:n<=100000)(k:(dx x.p).length<=1000000):zr x:=by refine⟨h.lxk q,h.h,h.c,λd j=>(h.s d.x (bS.2 ⟨d,j,rfl⟩)).i,λd j=>?_,co⟩;have w:=ado j;have y:=po (cL (xs x.gl));unfold dx Lx.p at k;simp only[a7]at k;omega
namespace gN
abbrev Xm(w:J):aK:=λr d=>r=ae (.bool true)/\af w d
def An{y:Lx}(d:hQ 40 y)(C:qi y):qm y.p/\(dx y.p).length<=30000/\zr y:=by
 obtain⟨g1,g2⟩:=d.g;obtain⟨A,hE,G⟩:=C.g.abp (by simp[xs];omega);have aa:(xs y.gl).length=y.gl.length:=by simp[xs]
 have h1:=lO y.hy d.h.2;have h2:=lO y.cl d.c.2;have h3:=eM y.hy.length (by have:=d.h.1;omega);have h4:=eM y.cl.length (by have:=d.c.1;omega);have h5:=eM (cL (xs y.gl)).length co;have h6:=dk (((bq y.ds).length:Nat):Int) (by have:=d.s.1;simp;omega);have D:∀(l:List Sp),(∀j∈l,g8 40 j.x)->((bq l).flatMap ej).length<=1400 *l.length:=λl=>by
  induction l with
  |nil=>intro _;exact br _
  |cons j l H=>
   intro B;have a:=B j ws;have b:=H λe E=>B e (by simp[E]);have I:=dk _ a.k.1;have K:=dk _ a.k.2.1;have L:=dk _ a.k.2.2;have M:=lO _ a.p.2;have N:=lO _ a.l.2;have O:=lO _ a.h.2;have P:=a.p.1;have Q:=a.l.1;have S:=a.h.1;have T:=a.t;have U:=eM j.x.params.length co;have W:=eM j.x.bM.length co;have Y:=eM j.x.hints.length co;have Z:=eM (bl j.x.nm).length (by rw[dY];omega);have e8:=dY j.x.nm;show((j.x::bq l).flatMap ej).length<=_;rw[cH,a7,bR];unfold ej at b ⊢;unfold cY dF at b ⊢;simp only[a7]at b ⊢;omega
 have h8:=D y.ds d.s.2;have hlen:(dx y.p).length<=30000:=by have:=C.n;have:=d.h.1;have:=d.c.1;have:=d.s.1;unfold dx Lx.p;dsimp only;unfold dF cY eJ;simp only[a7];omega
 refine⟨⟨A.w,by show(xs y.gl).length<=4096;omega,G,d.h.2,d.c.2,λs F=>?_⟩,hlen,d.le (by omega:40<=100) |>.k,d.h.2,d.c.2,λj q=>?_,A.z,co⟩
 .obtain ⟨j,q,rfl⟩:=bS.1 F;have a:=d.s.2 j q;exact⟨a.k,a.p.2,a.l.2,a.h.2⟩
 .have a:=d.s.2 j q;exact⟨a.k,a.p.2,a.l.2,a.h.2⟩
def ir{D:List En}{w:J}{e:En}(h:e∈D):((∀d∈D,d.P w)->e.P w)/\∀b∈e.fp,∃d∈D,b∈d.fp:=⟨λk=>k e h,λb j=>⟨e,h,j⟩⟩
end gN
def hV(n:Nat):UInt8:=UInt8.ofNat (if n<10 then 48+n else 87+n)
def eN(b:List UInt8):List UInt8:=b.flatMap λc=>[hV (c.toNat / 16),hV (c.toNat%16)]
def qK(b:List UInt8):(eN b).length=2 *b.length:=by
 unfold eN;induction b with
 |nil=>rfl
 |cons c b d=>rw[cH,a7,d];simp only[bR,dK];omega
def Mx{b:List UInt8}{i:Nat}{c:UInt8}(h:b[i]? =some c):eN (b.take (i+1))=eN (b.take i)++[hV (c.toNat / 16),hV (c.toNat%16)]:=by rw[dV,h];unfold eN;simp
def z1{n:Nat}(h:n<16):(bn #[48,49,50,51,52,53,54,55,56,57,97,98,99,100,101,102])[n]? =some (hV n):=by
 have:n=0\/n=1\/n=2\/n=3\/n=4\/n=5\/n=6\/n=7\/n=8\/n=9\/n=10\/n=11\/n=12\/n=13\/n=14\/n=15:=co
 (repeat' rcases this with rfl|this)<;>(try subst this)<;>rfl
def XW:(List.range 256).all (λn=>kP .u8 (n:Int) 15==((n%16:Nat):Int))=true:=by kernel_rfl
def MA{n:Nat}(h:n<16):Go.Lib.indexByte [48,49,50,51,52,53,54,55,56,57,97,98,99,100,101,102] (hV n)=(n:Int):=by
 have:n=0\/n=1\/n=2\/n=3\/n=4\/n=5\/n=6\/n=7\/n=8\/n=9\/n=10\/n=11\/n=12\/n=13\/n=14\/n=15:=co
 (repeat' rcases this with rfl|this)<;>(try subst this)<;>decide
def abz:(List.range 256).all (λn=>aj .u8 (n8 .i64 (aj .i64 (((n / 16:Nat):Int) *2^4)) ((n%16:Nat):Int))==(n:Int))=true:=by kernel_rfl
def Jr(l:List UInt8)(i:Nat):(ba l)[i]? =l[i]?:=by
 by_cases d:i<l.length
 .rw [a' d];exact getElem?_pos (ba l) i (by rw[bU];exact d)
 .rw [List.getElem?_eq_none co];exact getElem?_neg (ba l) i (by rw[bU];omega)
section
variable {w:J}
def adY{s:Sl}{b:List UInt8}(h:Bytes w s b)(Q:b.length<=10000000):ai V PK #[s.v] w λr Y=>r=ae (.string (ba (eN b)))/\af w Y:=by
 have S:=Bytes.len h;have d:LH F0 w w [] [.rd s (b.map bL)]:=bK _ (by intro e H;rw[b0.1 H];exact h)
 have loop:∀(k i:Nat) (out:Sl) (Y:J),i+k=b.length->LH F0 w Y [.by out (eN (b.take i))] [.rd s (b.map bL)]->vw.L0 out s (s.n:Int) (i:Int) Y λr Y=>r=ae (.string (ba (eN b)))/\af w Y:=by
  intro k;induction k with
  |zero=>
   intro i out Y I d;refine vw.bE (aN (aW co) ⟨_,kR (aG.hq (d.get 0)),?_,d.fr⟩);rw[eO co]
  |succ k M=>
   intro i out Y I d;have q:b[i]? =some b[i]:=a' co;generalize b[i]=c at q;have G:=c.toNat_lt;have B:Int.fdiv (c.toNat:Int) (2^(4))=((c.toNat / 16:Nat):Int):=by rw[Int.fdiv_eq_ediv_of_nonneg _ md];omega
   have C:kP .u8 (c.toNat:Int) 15=((c.toNat%16:Nat):Int):=eq_of_beq (ff.1 XW c.toNat (List.mem_range.2 G));refine vw.bE (aM (aR co) ⟨co,co,Rd.get (d.getD 0) (i:=i) (v:=bL c) (by rw[ku,q];rfl) (by rw[bB]) λp _ L=>⟨_,L,d.dr λN z=>?_⟩⟩);rw[B,C];refine⟨co,_,z1 co,co,_,z1 co,z.cZ (e:=cJ) (sz:=1) (n:=2) (cs:=[hV (c.toNat / 16),hV (c.toNat%16)].map bL) rfl md λT x=>?_⟩;have hlen:=qK (b.take i);rw[f']at hlen;refine x.Dy 0 (s:=out) (src:=⟨some (ab N.heap.size),2,2⟩) (m:=[hV (c.toNat / 16),hV (c.toNat%16)]) rfl (qW (x.get 1)).rd (by simp only[bR,dK];omega) λP O A=>?_;rw[bc _ co];refine M (i+1) P O co ?_;rw[Mx q];exact A.take 1
 have D:aj .i64 (2 *(s.n:Int))=((2 *b.length:Nat):Int):=by rw[aQ _ co];omega
 refine vw.ok ?_;rw[D];obtain⟨o,j,E,_,F⟩:=d.x' (U:=[]) jz (2 *b.length) co (K:=λo j=>vw.L0 o s (s.n:Int) 0 j λr Y=>r=ae (.string (ba (eN b)))/\af w Y) (λo j _ y=>loop b.length 0 o j co y) ws;exact⟨o,j,E,F⟩
def Zd{s:Sl}{b:List UInt8}(h:Bytes w s b)(N:b.length<=10000000):ai V Pc #[s.v] w λr Y=>r=ae (.string (ba (eN b)))/\af w Y:=by
 have O:=Bytes.len h;have d:LH F0 w w [] [.rd s (b.map bL)]:=bK _ (by intro e E;rw[b0.1 E];exact h)
 have loop:∀(k i:Nat) (out:Sl) (Y:J),i+k=b.length->LH F0 w Y [.by out (eN (b.take i))] [.rd s (b.map bL)]->xL.L0 s out (i:Int) Y λr Y=>r=ae (.string (ba (eN b)))/\af w Y:=by
  intro k;induction k with
  |zero=>
   intro i out Y y d;refine xL.bE (aN (aW co) ⟨_,kR (aG.hq (d.get 0)),?_,d.fr⟩);rw[eO co]
  |succ k G=>
   intro i out Y y d;have x:b[i]? =some b[i]:=a' co;generalize b[i]=c at x;have M:=c.toNat_lt;have A:aj .i64 (c.toNat:Int)=(c.toNat:Int):=aQ _ co;have C:aj .i64 (bQ (c.toNat:Int) 16)=((c.toNat / 16:Nat):Int):=by rw[show bQ (c.toNat:Int) 16=((c.toNat / 16:Nat):Int)from rfl];exact aQ _ co
   have D:cw (c.toNat:Int) 16=((c.toNat%16:Nat):Int):=rfl;have gt:∀{Y:J} {K:Addr->Prop},Rd Y s (b.map bL)->(∀p,Y.cell? (p.add ((i:Int).toNat *1))=some (bL c)->K p)->eh s.a K:=λF y=>Rd.get F (i:=i) (v:=bL c) (by rw[ku,x];rfl) (by rw[bB]) λp _ j=>y p j;refine xL.bE (aM (aR co) (d.dr λH q=>⟨co,co,gt (q.getD 0) λp j=>⟨_,j,?_⟩⟩));rw[A,C];refine⟨co,_,z1 co,co,co,gt (q.getD 0) λp j=>⟨_,j,?_⟩⟩;rw[A,D];refine⟨co,_,z1 co,q.cZ (e:=cJ) (sz:=1) (n:=2) (cs:=[hV (c.toNat / 16),hV (c.toNat%16)].map bL) rfl md λP z=>?_⟩;have hlen:=qK (b.take i);rw[f']at hlen;refine z.Dy 0 (s:=out) (src:=⟨some (ab H.heap.size),2,2⟩) (m:=[hV (c.toNat / 16),hV (c.toNat%16)]) rfl (qW (z.get 1)).rd (by simp only[bR,dK];omega) λL I B=>?_;rw[bc _ co];refine G (i+1) L I co ?_;rw[Mx x];exact B.take 1
 exact xL.ok (loop b.length 0 _ w co (d.fY cJ 1))
def ad4{b:List UInt8}(hl:b.length<=10000000):ai V PO #[.string (ba (eN b))] w λr Y=>∃s:Sl,r=ae (.tuple #[s.v,.bool true])/\e0 Y s b/\af w Y/\∀h∈az s,w.heap.size<=h:=by
 have D:(ba (eN b)).size=2 *b.length:=by rw[bU,qK]
 have d:LH F0 w w [] []:=bK [] ws;have loop:∀(k i:Nat) (out:Sl) (Y:J),i+k=b.length->LH F0 w Y [.by out (b.take i)] []->vy.L0 (ba (eN b)) out ((2 *i:Nat):Int) Y λr Y=>∃s:Sl,r=ae (.tuple #[s.v,.bool true])/\e0 Y s b/\af w Y/\∀h∈az s,w.heap.size<=h:=by
  intro k;induction k with
  |zero=>
   intro i out Y Z d;rw[eO co]at d;exact vy.bE (aN (aW co) ⟨out,rfl,qW (d.get 0),d.fr,λh hq=>(d.new _ (aD (i:=0) rfl) h hq).resolve_right id⟩)
  |succ k ih=>
   intro i out Y Z d;have A:b[i]? =some b[i]:=a' co;have C:b=b.take i++b[i]::b.drop (i+1):=by conv=>lhs;rw[<-List.take_append_drop i b,dz co]
   generalize b[i]=c at A C;have W:=c.toNat_lt;have B:eN b=eN (b.take i)++([hV (c.toNat / 16),hV (c.toNat%16)]++eN (b.drop (i+1))):=by
    conv=>lhs;rw[C]
    unfold eN;rw[cW,cH]
   have hlen:=qK (b.take i);rw[f']at hlen;have P:(ba (eN b))[2 *i]? =some (hV (c.toNat / 16)):=by rw[Jr,B,List.getElem?_append_right co,show 2 *i - (eN (b.take i)).length=0 by omega];rfl
   have Q:(ba (eN b))[2 *i+1]? =some (hV (c.toNat%16)):=by rw[Jr,B,List.getElem?_append_right co,show 2 *i+1 - (eN (b.take i)).length=1 by omega];rfl
   have z:aj .i64 (((2 *i:Nat):Int)+1)=((2 *i+1:Nat):Int):=by rw[aQ _ co];omega
   refine vy.bE (aM (aR co) (d.dr λx G=>⟨co,_,(by rw[bB];exact P),by rw[z];omega,_,(by rw[z,bB];exact Q),(HN _ _ x).mono ?_⟩));rintro _ E ⟨rfl,j⟩;rw[j];clear j;refine⟨_,rfl,(HN _ _ x).mono ?_⟩;rintro _ E ⟨rfl,j⟩;rw[j];clear j;refine⟨_,rfl,?_⟩;have M:Go.Lib.indexByte (bl (bn #[48,49,50,51,52,53,54,55,56,57,97,98,99,100,101,102])) (hV (c.toNat / 16))=((c.toNat / 16:Nat):Int):=MA co;have N:Go.Lib.indexByte (bl (bn #[48,49,50,51,52,53,54,55,56,57,97,98,99,100,101,102])) (hV (c.toNat%16))=((c.toNat%16:Nat):Int):=MA co;rw[M,N];refine aN (aW co) (aN (aW co) ?_);have O:aj .u8 (n8 .i64 (aj .i64 (((c.toNat / 16:Nat):Int) *2^4)) ((c.toNat%16:Nat):Int))=(c.toNat:Int):=eq_of_beq (ff.1 abz c.toNat (List.mem_range.2 W));rw[O];refine G.cZ (e:=cJ) (sz:=1) (n:=1) (cs:=[bL c]) rfl md λE y=>?_;refine y.Dy 0 (s:=out) (src:=⟨some (ab x.heap.size),1,1⟩) (m:=[c]) rfl (qW (y.get 1)).rd (by simp only[f',bR,dK];omega) λaa w5 H=>?_;rw[show aj .i64 (((2 *i:Nat):Int)+2)=((2 *(i+1):Nat):Int)by rw[aQ _ co];omega];refine ih (i+1) aa w5 co ?_;rw[dV,A];exact H.take 1
 have I:(cw ((ba (eN b)).size:Int) 2 !=0)=false:=by rw[D,show cw ((2 *b.length:Nat):Int) 2=(((2 *b.length)%2:Nat):Int)from rfl,Nat.mul_mod_right];rfl
 have L:aj .i64 (bQ ((ba (eN b)).size:Int) 2)=(b.length:Int):=by rw[D,show bQ ((2 *b.length:Nat):Int) 2=(((2 *b.length) / 2:Nat):Int)from rfl,Nat.mul_div_cancel_left _ co];exact aQ _ co
 refine vy.ok (aN I ?_);rw[L];obtain⟨o,q,S,_,T⟩:=d.x' (U:=[]) jz b.length co (K:=λo q=>vy.L0 (ba (eN b)) o 0 q λr Y=>∃s:Sl,r=ae (.tuple #[s.v,.bool true])/\e0 Y s b/\af w Y/\∀h∈az s,w.heap.size<=h) (λo q _ F=>loop b.length 0 o q co F) ws;exact⟨o,q,S,T⟩
end
structure Pp where
 ls:List Lp
 ss:List bO
def Pp.e:Pp:=⟨[],[]⟩
def qO:List Lp->Int
 |[]=>0
 |d::r=>if nE d≠0 then nE d else qO r
def jF(p:Pp):Int:=if qO p.ls≠0 then qO p.ls else m0 p.ss 0 (p.ls.length:Int)
def Nw:∀l:List Lx,jR l=qO (l.map Lx.p)
 |[]=>rfl
 |d::r=>by show(if gW d≠0 then gW d else jR r)=if nE d.p≠0 then nE d.p else qO (r.map Lx.p);rw[Nw r,ace]
def ct(ls:List Lx)(ds:List Sp):Pp:=⟨ls.map Lx.p,bq ds⟩
def vr(ls:List Lx)(ds:List Sp):kr ls (bq ds)=jF (ct ls ds):=by unfold kr jF ct;rw[Nw];simp only[gv]
def fC(l:List Lp):List UInt8:=l.flatMap λd=>dF (dx d)
def e5(p:Pp):List UInt8:=bJ (p.ls.length:Int)++(fC p.ls++eJ p.ss)
def AA:Option Lp->RS->Option (List Lp)×RS->Option (List Lp)×RS
 |none,s,_=>(none,s)
 |some x,_,r=>(r.1.map (x::·),r.2)
def gH:Nat->RS->Option (List Lp)×RS
 |0,st=>(some [],st)
 |n+1,st=>AA (hh (cA st).1) (cA st).2 (gH n (cA st).2)
def Ts(n:Nat)(st:RS):gH (n+1) st=AA (hh (cA st).1) (cA st).2 (gH n (cA st).2):=by conv=>lhs;unfold gH
def Hk{n:Nat}{st:RS}(h:hh (cA st).1=none):gH (n+1) st=(none,(cA st).2):=by rw[Ts,h,AA]
def Bt{n:Nat}{st:RS}{x:Lp}(h:hh (cA st).1=some x):gH (n+1) st=((gH n (cA st).2).1.map (x::·),(gH n (cA st).2).2):=by rw[Ts,h,AA]
def nI(U:List UInt8):RS:=(gH (bd ⟨U,0⟩).1.toNat (bd ⟨U,0⟩).2).2
def ho(U:List UInt8):Option Pp:=
 if(bd ⟨U,0⟩).1<0\/4096<(bd ⟨U,0⟩).1 then none else
 match(gH (bd ⟨U,0⟩).1.toNat (bd ⟨U,0⟩).2).1 with
 |none=>none
 |some l=>match(ez U.length (nI U)).1 with
  |none=>none
  |some d=>if iP (ez U.length (nI U)).2=0 then some ⟨l,d⟩else none
def SK{U:List UInt8}{p:Pp}(h:ho U=some p):¬((bd ⟨U,0⟩).1<0\/4096<(bd ⟨U,0⟩).1)/\(gH (bd ⟨U,0⟩).1.toNat (bd ⟨U,0⟩).2).1=some p.ls/\
  (ez U.length (nI U)).1=some p.ss/\iP (ez U.length (nI U)).2=0:=by
 unfold ho at h;split at h
 .cases h
 .rename_i d;split at h
  .cases h
  .rename_i l k;split at h
   .cases h
   .rename_i w q;split at h
    .rename_i j;cases h;exact⟨d,k,q,j⟩
    .cases h
def Tq:∀{l:List Lp} (_:∀x∈l,qm x) (_:(fC l).length<=1000000000000) (r:List UInt8),gH l.length ⟨fC l++r,0⟩=(some l,⟨r,0⟩)
 |[],_,_,r=>rfl
 |x::l,W,h,r=>by
  have e:fC (x::l)=dF (dx x)++fC l:=rfl;have g:=po (dx x);rw[e,a7]at h;have d:cA ⟨fC (x::l)++r,0⟩=(dx x,⟨fC l++r,0⟩):=by rw[e,ck];exact Bv _ co _
  rw[bR,Bt (x:=x) (by rw[d];exact aci (W x ws) co),d];dsimp only;rw[Tq (λk j=>W k (by simp[j])) co];rfl
def Tp:∀(n:Nat) {st:RS} {l:List Lp},(gH n st).1=some l->(gH n st).2.err=0->st.err=0/\st.U=fC l++(gH n st).2.U/\l.length=n
 |0,st,l,d,h=>by cases d;exact⟨h,rfl,rfl⟩
 |n+1,st,l,d,h=>by
  cases j:hh (cA st).1 with
  |none=>rw[Hk j]at d;cases d
  |some B=>
   rw[Bt j]at d h ⊢;obtain⟨A,z,rfl⟩:=Option.map_eq_some_iff.1 d;obtain⟨k,q,w⟩:=Tp n z h;obtain⟨x,y⟩:=Bu k;have e:=(acg j).1;refine⟨x,?_,by rw[bR,w]⟩;show st.U=(dF (dx B)++fC A)++_;rw[ck,<-q,e];exact y
def nZ.le{n m:Nat}{x:Lp}(h:nZ n x)(d:n<=m):nZ m x:=⟨h.g,bb h.hl d,h.h,bb h.cl d,h.c,bb h.sl d,λs j=>(h.s s j).le d⟩
def Tt:∀(n:Nat) {st:RS} {l:List Lp},st.U.length<=1000000->(gH n st).1=some l->(∀k∈l,nZ st.U.length k)/\(gH n st).2.U.length<=st.U.length/\l.length=n
 |0,st,l,_,d=>by cases d;exact⟨λk h=>(by cases h),br _,rfl⟩
 |n+1,st,l,C,d=>by
  obtain⟨A,q⟩:=vG st;cases h:hh (cA st).1 with
  |none=>rw[Hk h]at d;cases d
  |some k=>
   rw[Bt h]at d ⊢;obtain⟨D,z,rfl⟩:=Option.map_eq_some_iff.1 d;obtain⟨w,x,y⟩:=Tt n co z;refine⟨λB j=>?_,bb x q,by rw[bR,y]⟩;rcases aq.1 j with e|j
   .rw [e];exact(ack co h).le A
   .exact (w B j).le q
def aeh{p:Pp}(W:∀y∈p.ls,qm y)(z:p.ls.length<=4096)(x:∀s∈p.ss,lD s)(j:(e5 p).length<=1000000000000):ho (e5 p)=some p:=by
 have d:bd ⟨e5 p,0⟩=((p.ls.length:Int),⟨fC p.ls++eJ p.ss,0⟩):=mc _ ⟨co,co⟩ _;have k:=j;unfold e5 at k;simp only[a7]at k;have h:=Tq W co (eJ p.ss);have q:nI (e5 p)=⟨eJ p.ss,0⟩:=by unfold nI;rw[d];dsimp only;rw[bB,h]
 have w:ez (e5 p).length ⟨eJ p.ss,0⟩=(some p.ss,⟨[],0⟩):=by have:=TJ x (size:=(e5 p).length) (by unfold e5;simp only[a7];omega) j [];rw[dy]at this;exact this
 unfold ho;rw[d];dsimp only;rw[ag co,bB,h];dsimp only;rw[q,w];rfl
def aeg{U:List UInt8}{p:Pp}(h:ho U=some p):e5 p=U:=by obtain⟨E,A,B,C⟩:=SK h;obtain⟨y,z⟩:=To C;obtain⟨j,d⟩:=TI B y;obtain⟨k,q,w⟩:=Tp _ A j;obtain⟨D,x⟩:=ma (st:=⟨U,0⟩) k;rw[z,dy]at d;unfold e5;rw[w,Int.toNat_of_nonneg co,<-d];exact(x.trans (congrArg _ q)).symm
structure qp(n:Nat)(p:Pp):Prop where
 l:∀x∈p.ls,nZ n x
 s:∀s∈p.ss,qs n s
 m:p.ss.length<=n
 k:p.ls.length<=4096
 b:(e5 p).length<=1000000
def SJ{U:List UInt8}{p:Pp}(A:U.length<=1000000)(h:ho U=some p):qp U.length p:=by have z:=aeg h;obtain⟨F,x,y,G⟩:=SK h;have j:=(k' ⟨U,0⟩).2;dsimp only at j;obtain⟨k,d,E⟩:=Tt _ co x;have d:(nI U).U.length<=_:=d;obtain⟨q,w⟩:=TK y;exact⟨λD C=>(k D C).le j,λs B=>(q s B).le co,w,co,by rw[z];exact A⟩
def kq(U:List UInt8):Pp×Int:=match ho U with
 |some p=>if jF p=0 then(p,0)else(.e,2)
 |none=>(.e,2)
def SG{U:List UInt8}(h:ho U=none):kq U=(.e,2):=by unfold kq;rw[h]
def SE{U:List UInt8}{p:Pp}(h:ho U=some p)(d:jF p≠0):kq U=(.e,2):=by unfold kq;rw[h];dsimp only;rw[ag d]
def Bl{U:List UInt8}{p:Pp}(h:ho U=some p)(d:jF p=0):kq U=(p,0):=by unfold kq;rw[h];dsimp only;rw[au d]
def aed(U:List UInt8):(∃p,ho U=some p/\jF p=0/\kq U=(p,0))\/kq U=(.e,2):=by
 cases d:ho U with
 |none=>exact .inr (SG d)
 |some p=>
  by_cases h:jF p=0
  .exact .inl ⟨p,rfl,h,Bl d h⟩
  .exact .inr (SE d h)
structure o8(ls:List Lx)(ds:List Sp):Prop where
 n:ls.length<=4096
 l:∀x∈ls,zr x
 m:ds.length<=1000000
 k:∀d∈ds,mB d
 s:∀d∈ds,lD d.x
 b:(e5 (ct ls ds)).length<=1000000000
def o8.lk{ls:List Lx}{ds:List Sp}(h:o8 ls ds):Db ls:=⟨h.n,λj d=>(h.l j d).k⟩
def FL:∀{l:List Lx},jR l=0->∀k∈l,gW k=0
 |[],_,k,d=>by cases d
 |q::l,h,k,d=>by
  by_cases j:gW q=0
  .rw [AE j]at h;rcases aq.1 d with e|d
   .rw [e];exact j
   .exact FL h k d
  .rw [FN j]at h;exact absurd h j
def SH{ls:List Lx}{ss:List bO}(h:kr ls ss=0):jR ls=0:=by
 unfold kr at h;split at h
 .rename_i d;exact absurd h d
 .rename_i d;simpa using d
def Nv{ls:List Lx}{i:Nat}{x:Lx}(h:ls[i]? =some x):fC ((ls.drop i).map Lx.p)=dF (dx x.p)++fC ((ls.drop (i+1)).map Lx.p):=by rw[AD h];rfl
def adV{w:J}{s t:Sl}{ls:List Lx}{ds:List Sp}(q:o8 ls ds)(h:jL w s ls)(ht:fP w t ds)(hk:cq.P w):ai V PC #[.agg #[s.v,t.v]] w λr D=>IY w (e5 (ct ls ds)) (kr ls (bq ds)) r D/\af w D:=by
 have ad:=h.n;have ag:=q.n;have A:=q.b;have U:(ct ls ds).ls.length=ls.length:=by simp[ct]
 unfold e5 at A;rw[U]at A;simp only[a7]at A;have A:(bJ (ls.length:Int)).length+((fC (ls.map Lx.p)).length+(eJ (bq ds)).length)<=1000000000:=A;refine yt.aC ((bK (w:=w) [gX s ls,.sp t ds,cq] (by
  intro e d;simp only[aq,aL,aO]at d;rcases d with rfl|rfl|rfl
  .exact hY.2 h
  .exact dM.2 ht
  .exact hk)).aH λN w1 F=>F.aA (Aw q.lk ⟨q.m,q.k⟩ (hY.1 (F.getD 0)) (dM.1 (F.getD 1)) (F.getD 2)) ?_)
 rintro _ Y rfl S;refine⟨_,rfl,dA (λG=>⟨⟨⟨none,0,0⟩,rfl,λh=>absurd h G,λ_=>rfl⟩,S.fr⟩) λG=>S.GF λw3 H3=>H3.wm 1 rfl (λr=>mn r _ (by constructor<;>omega) ws) λZ W H4=>⟨rfl,?_⟩⟩;have hv:=FL (SH G);have e:e5 (ct ls ds)=bJ (ls.length:Int)++(fC (ls.map Lx.p)++eJ (bq ds)):=by unfold e5;rw[U];rfl
 rw[G,e];have loop:∀(K k i:Nat) (v:J) (C:List UInt8) (Q:List Nat),i+k=ls.length->C++fC ((ls.drop i).map Lx.p)=bJ (ls.length:Int)++fC (ls.map Lx.p)->LH F0 w v [.g N,.wr K C Q] [gX s ls,.sp t ds,cq]->
   yt.a6 N s t (ab K) s (s.n:Int) (i:Int) v λr D=>IY w (bJ (ls.length:Int)++(fC (ls.map Lx.p)++eJ (bq ds))) 0 r D/\af w D:=by
  intro K k;induction k with
  |zero=>
   intro i v C Q hi d z;rw[c9 co]at d;have d:C++[]=bJ (ls.length:Int)++fC (ls.map Lx.p):=d;rw[dy]at d;have hlen:=congrArg List.length d;rw[a7]at hlen;refine yt.bD (aN (aW co) (z.wm 1 rfl (λr=>Sy r (dM.1 (z.getD 1)) (λE B y=>z.dj (.sp t ds) ws E B _ (aD (i:=1) rfl) (aT.2 y)) q.s co) λw5 o5 j=>⟨rfl,?_⟩));rw[d,ck]at j;refine gn ((Co (show fQ w5 K _ o5 from j.get 1) (by simp only[a7];omega)).mono ?_);rintro _ w6 ⟨u,rfl,hs,T,O⟩;exact⟨T,u,rfl,⟨u,rfl,λ_=>⟨hs,λE B=>bb j.fr.size (O E B)⟩,λh=>absurd rfl h⟩,j.fr.dO T⟩
  |succ k ih=>
   intro i v C Q hi d z;have ac:=hY.1 (z.getD 0);have I:ls[i]? =some (ls[i]'co):=a' co;generalize ls[i]'co=x at I;have y:=aD I;rw[Nv I,<-ck]at d;have hlen:=congrArg List.length d;simp only[a7]at hlen;have g1:=po (dx x.p);refine yt.bD (aM (aR co) ⟨co,co,ac.get I λp _ H=>?_⟩);rw[bB];refine⟨_,_,_,_,H.c0,H.c1,H.c2,H.c3,z.aH λb5 w5 j=>j.ah λw6 L=>L.jv (ad0 (q.l x y) ((hY.1 (L.getD 0)).2 x y) (L.getD 2) (Nt (hv x y))) λu w7 _ aa hu O=>⟨u,rfl,?_⟩⟩;have M:=aa.rd (.rd u ((dx x.p).map bL)) hu.rd (eP O);refine M.wm 1 rfl (λr=>II r (M.rd (.rd u ((dx x.p).map bL)) ws) (λE B y=>M.dj (.rd u ((dx x.p).map bL)) ws E B _ (aD (i:=1) rfl) (aT.2 y)) co) λw8 ae H8=>⟨rfl,?_⟩;rw[bc _ co];exact ih (i+1) w8 _ ae co d ((H8.take 2).forget _ λe d=>bV [.rd u ((dx x.p).map bL)] d)
 have j:LH F0 w Z [.g N,.wr Y.heap.size (bJ (ls.length:Int)) W] [gX s ls,.sp t ds,cq]:=by rw[<-ad];exact H4
 exact loop Y.heap.size ls.length 0 Z _ W co (by rw[List.drop_zero]) j
end Go.Proofs.YtnaglpcbkhjpnabGreatDoor
end
