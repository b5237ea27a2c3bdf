import Derived.Test.YtnaglpcbkhjpnaaGreatDoorU
import Derived.Test.YtnaglpcbkhjpnaaGreatDoorE3
import Derived.Test.YtnaglpcbkhjpnaaGreatDoorN6
import Derived.Test.YtnaglpcbkhjpnaaGreatDoorPN
set_option linter.unusedVariables false
set_option maxRecDepth 100000
set_option maxHeartbeats 2000000
set_option linter.defProp false
namespace Go.Proofs.YtnaglpcbkhjpnaaGreatDoor
open Go renaming World->J,Calls->aj,Value->aa
open Go.IntKind renaming wrap->ah
open _root_.Int renaming toNat->a5,tdiv->bS,tmod->cp,toNat_natCast->bo
open _root_.ByteArray renaming mk->bh
open Go.IntWalk renaming i64_in->aN
open _root_.Nat renaming le_refl->bm,le_trans->bz
open Go.Proofs.Tryz renaming prog->V
open Go.Ending renaming returned->ae
open List renaming mem_append->aW,mem_cons->aq,not_mem_nil->aL,mem_of_getElem?->aG,getElem?_eq_getElem->a',getElem?_eq_some_iff->cV,mem_append_left->bG,mem_append_right->dL,mem_flatMap->bX,mem_map->bK,length_append->a9,length_cons->bI,length_nil->dH,mem_of_mem_take->hP,append_assoc->cN,mem_singleton->bY,length_take->eT,flatMap_append->de,flatMap_cons->cU,length_map->gJ,drop_eq_getElem_cons->dw,getElem?_map->ib,all_eq_true->fa,append_nil->ed,cons_append->i2,take_add_one->dM,map_append->ez,getElem?_set_ne->G5,take_of_length_le->eh
open Go Go.W
namespace yK
abbrev P0:Ps:=[(2,.l [.s] B3)]
noncomputable abbrev bD:=ak (ay V Tryz.f67 [(8,ls [0,1,2,4,6,8,10,12,14,16,18,3,5,7,9,11,13,15,17,19,20,21,22,23,24,25])] [2,6]) [0,1,1,1,3] P0
noncomputable abbrev t1:=ao bD
noncomputable def cv:=bg t1 [0,1,1,1,5] [(2,.l [.s] B3),(4,.v [.p]),(6,.l [.s] B3),(18,.v [.I]),(19,.v [.I])]
noncomputable abbrev t2:=bf cv
noncomputable abbrev cb:=ak t2 [0,1,1,1,6] P0
noncomputable abbrev t3:=ao cb
def dO:=bj t3 cv
def aD:=az t3 Qq [.s]
end yK
set_option maxHeartbeats 1000000
def _root_.Go.W.LH.Tq{M:Nat->Prop}{w0 w:J}{L D:List En}(H:LH M w0 w L D)(h:List En)(j:∀d∈h,d.P w)(k:∀d∈h,∀b∈d.fp,∃e∈D,b∈e.fp):LH M w0 w L h:=
 ⟨H.fr,H.own,j,H.new,H.nd,λd y b q e z=>by obtain⟨g,A,x⟩:=k d y b q;exact H.dj g A b x e z⟩
def fV.tok{d:Nx}(W:fV d):nT d:=⟨W.kl,W.n,W.m,W.u.1,λ_=>Rp d.tx⟩
def CK(g:List Nx)(e:Int)(w:J)(r:Ending)(Y:J):Prop:=∃(t:Sl) (l:List Nd),r=ae (.tuple #[.agg #[t.v],.i e])/\xs l=g/\GP Y t l/\∀b∈(En.gr t l).fp,w.heap.size<=b
abbrev LS(s:Sl)(l:List Nd):En:=.row cQ 9 s (l.flatMap Nd.c)
def afj{w:J}{s:Sl}{bs:List UInt8}(h:Bytes w s bs)(hl:bs.length<=1000000)(Q:cG.P w):
  aj V Qq #[s.v] w λr Y=>CK (kf bs).1 (kf bs).2 w r Y/\af w Y:=by
 have bad:∀{Y:J},kf bs=([],2)->af w Y->CK (kf bs).1 (kf bs).2 w (ae (.tuple #[.agg #[.slice none 0 0],.i 2])) Y/\af w Y:=λF f=>by
  rw[F];exact⟨⟨⟨none,0,0⟩,[],rfl,rfl,⟨bL.nil 9 _,ws⟩,λb k=>by
   rcases od.1 k with k|⟨d,q,_⟩
   .cases k
   .cases q⟩,f⟩
 obtain⟨B,hN⟩:∃B,B=(bT ⟨bs,0⟩).1:=⟨_,rfl⟩;obtain⟨S,ad⟩:∃st,st=(bT ⟨bs,0⟩).2:=⟨_,rfl⟩;have dec:∀(g:List Nx) (st:RS),¬(B<0\/4096<B)->k9 B.toNat S=(g,st)->kf bs=if sQ st≠0 then([],2)else if hB g≠0 then([],2)else(g,0):=λg st T U=>by unfold kf;rw[<-hN,<-ad,ag T,U]
 have au:S.bs.length<=1000000:=by have:=(sR ⟨bs,0⟩).2;rw[<-ad]at this;exact bz this hl
 have loop:∀(d j:Nat) (E:Sl) (l:List Nd) (st:RS) (b2 D rb:Nat) (fp:List Nat) (G:J),¬(B<0\/4096<B)->j+d=B.toNat->k9 B.toNat S=(xs l++(k9 d st).1,(k9 d st).2)->l.length=j->st.bs.length<=1000000->(∀e∈l,∀b∈(dp e).fp,w.heap.size<=b)->(∀e∈l,fV e.x)->
   LH F0 w G [.g b2,.nr rb st fp,.g D,LS E l] [cG,.all (l.map dp)]->
   yK.cv b2 ⟨none,0,0⟩ (some (ab rb)) D E B (j:Int) G λr Y=>CK (kf bs).1 (kf bs).2 w r Y/\af w Y:=by
  intro d;have ac:∀{G:J} {E:Sl} {l:List Nd} {st:RS} {b2 D rb:Nat} {fp:List Nat},LH F0 w G [.g b2,.nr rb st fp,.g D,LS E l] [cG,.all (l.map dp)]->GP G E l:=by intro G E l st b2 D rb fp H;have Q:∀e∈l.map dp,e.P G:=H.getD 1;exact⟨aF.bd (H.get 3),λd q=>Q (dp d) (bK.2 ⟨d,q,rfl⟩)⟩
  induction d with
  |zero=>
   intro j E l st b2 D rb fp G O hj F hm sm hf Z H;have y:k9 B.toNat S=(xs l,st):=by rw[F];simp[k9]
   have dec:=dec _ _ O y;refine yK.dO _ _ _ _ _ _ _ _ _ (aP (aV co) (H.aA (adn (H.get 1)) ?_));rintro _ w2 rfl I;refine⟨_,rfl,dA (λk=>I.ai λw3 C=>bad (by rw[dec,av k]) C.fr) (λk=>I.aA (H2 (ac I) (I.getD 0) (λ_ d q=>⟨(Z d q).tok,Z d q⟩)) ?_)⟩;rintro _ w3 rfl C;refine⟨_,rfl,dA (λhv=>C.ai λM A=>bad (by rw[dec,ag (by simpa using k),av hv]) A.fr) (λhv=>C.ai λM A=>⟨?_,A.fr⟩)⟩;rw[dec,ag (by simpa using k),ag (by simpa using hv)];refine⟨E,l,rfl,rfl,ac A,λb k=>?_⟩;rcases od.1 k with k|⟨d,q,k⟩
   .exact yk (λb k=>(A.new _ (aG (i:=3) rfl) b k).resolve_right id) b k
   .exact hf d q b k
  |succ d ih=>
   intro j E l st b2 D rb fp G O hj F hm sm hf Z H;refine yK.dO _ _ _ _ _ _ _ _ _ (aM (aQ co) (H.ai λw2 I=>?_));refine I.rm 1 rfl (λz=>qM z) λw3 C=>⟨_,rfl,?_⟩;refine C.rms 1 rfl (λz=>ado z) λK M A ap=>⟨_,rfl,?_⟩;refine A.rm 1 rfl (λz=>qM z) λw5 H5=>⟨_,rfl,?_⟩;refine H5.rm 1 rfl (λz=>qM z) λw6 H6=>⟨_,rfl,?_⟩;refine H6.rm 1 rfl (λz=>Bh z) λw7 H7=>⟨_,rfl,?_⟩;refine H7.rm 1 rfl (λz=>adr z) λw8 H8=>⟨_,rfl,?_⟩;refine H8.rm 1 rfl (λz=>qM z) λw9 H9=>⟨_,rfl,?_⟩;refine H9.rm 1 rfl (λz=>qM z) λay al=>⟨_,rfl,?_⟩;refine al.rm 1 rfl (λz=>qM z) λaz am=>⟨_,rfl,?_⟩;have hn:E.n=l.length:=iU (ac H);refine am.jh 3 n6 rfl (λak aB an=>an.ai λaa ao=>?_) co;rw[bb _ co];obtain⟨o1,o2,_,_⟩:=adB st sm;have N:LH F0 w aa [.g b2,.nr rb (ic st).2 fp,.g D,.row cQ 9 ak (l.flatMap Nd.c++Nd.c ⟨(ic st).1,K⟩)] [cG,.all (l.map dp),dp ⟨(ic st).1,K⟩]:=ao;have el:l.flatMap Nd.c++Nd.c ⟨(ic st).1,K⟩=(l++[(⟨(ic st).1,K⟩:Nd)]).flatMap Nd.c:=ws
   rw[el]at N;refine ih (j+1) ak (l++[⟨(ic st).1,K⟩]) (ic st).2 b2 D rb fp aa O co ?_ (by simp[hm]) co ?_ ?_ ?_
   .rw [F];simp[xs,k9]
   .intro e y b k;rcases aW.1 y with y|y
    .exact hf e y b k
    .simp at y;subst y;have k:b∈(if(List.map aY (ic st).1.kids)=[]then[]else ax K):=k;split at k
     .cases k
     .exact bz C.fr.size (ap b k)
   .intro e y;rcases aW.1 y with y|y
    .exact Z e y
    .simp at y;subst y;exact o1
   .have k1:∀e∈(l++[⟨(ic st).1,K⟩]:List Nd).map dp,e.P aa:=λe y=>by
     rw[ez]at y;rcases aW.1 y with y|y
     .have Q:∀e∈l.map dp,e.P aa:=N.getD 1;exact Q e y
     .simp at y;subst y;exact N.getD 2
    refine N.Tq _ (λd q=>?_) (λd q b k=>?_)
    .rcases aq.1 q with e|q
     .rw [e];exact N.getD 0
     .simp only[aq,aL,aR]at q;subst q;exact k1
    .rcases aq.1 q with e|q
     .exact ⟨cG,ws,by rw[e]at k;exact k⟩
     .simp only[aq,aL,aR]at q;subst q;unfold En.all at k;obtain⟨aw,L,k⟩:=bX.1 (a0.1 k);rw[ez]at L;rcases aW.1 L with L|L
      .exact ⟨.all (l.map dp),ws,by unfold En.all;exact a0.2 (bX.2 ⟨aw,L,k⟩)⟩
      .simp only[List.map_cons,List.map_nil,aq,aL,aR]at L;rw[L]at k;exact⟨dp ⟨(ic st).1,K⟩,ws,k⟩
 have H0:LH F0 w w [] [.rd s (bs.map W.cq),cG]:=bN _ (by
  intro e F;simp only[aq,aL,aR]at F;rcases F with rfl|rfl
  .exact h
  .exact Q)
 refine yK.aD _ w _ (H0.aK λb2 G H1=>hF ((adq (H1.getD 0) co).mono ?_));rintro _ w2 ⟨rb,fp,rfl,ar,f,nf⟩;have I:=H1.push (.nr rb ⟨bs,0⟩ fp) f ar (λb k=>nf b (a0.1 k));refine⟨f,some (ab rb),rfl,?_⟩;refine I.rm 1 rfl (λz=>qM z) λw3 C=>⟨_,rfl,?_⟩;rw[<-hN];rw[<-ad]at C;have ah:B<0\/4096<B->kf bs=([],2):=λO=>by unfold kf;rw[<-hN,av O]
 refine aE (λT=>C.ai λM A=>bad (ah (.inl T)) A.fr) (λT=>aE (λU=>C.ai λM A=>bad (ah (.inr U)) A.fr) (λU=>C.aK λD M A=>?_));exact loop B.toNat 0 ⟨none,0,0⟩ [] S b2 D rb fp M co co ws rfl au ws ws ((A.fN cQ 9).Tq _ (λd q=>by
  simp only[aq,aL,aR]at q;rcases q with rfl|rfl
  .exact A.getD 1
  .intro e F;cases F) (λd q b k=>by
  simp only[aq,aL,aR]at q;rcases q with rfl|rfl
  .exact ⟨cG,ws,k⟩
  .cases k))
def VT:∀{r g:List Nx},Vg (g++r)->pP g r=0
 |[],_,_=>rfl
 |n::r,g,d=>by
  have k:(g++n::r)[g.length]? =some n:=ws
  have h:=d.ok _ _ k;have j:=Ir d _ _ k;rw[List.take_left]at h j;rw[VS,h,ag (λd=>d rfl),ag (λd=>d rfl),ag j];exact VT (by rw[cN];exact d)
def VU{g:List Nx}(h:Vg g)(d:g.length<=4096):hB g=0:=by unfold hB;rw[ag co];exact VT (by rwa[List.nil_append])
structure Wp(g:List Nx):Prop where
 w:∀d∈g,fV d
 n:∀d∈g,p9 d
 z:∀d∈g,(ep d).length<=1000000
def acr{n:Nx}(W:fV n)(B:n.kids.length<=3)(C:n.tx.size<=100):(ep n).length<=300:=by have h:=da _ W.op;have j:=km _ W.ks;have k:=da _ W.n;have q:=da _ W.m;have w:=ek n.u.toNat (by have:=W.u;omega);have x:=da _ W.sk;have y:=da _ W.sn;have z:=da _ W.sx;have A:=ek n.kids.length co;have d:=ek (bl n.tx).length (by rw[dQ];omega);have D:=dQ n.tx;unfold ep dS ea;simp only[a9];omega
def iL.aar{g:List Nx}(h:iL g)(y:g.length<=1000):Wp g/\(di g).length<=10+300 *g.length/\hB g=0:=by
 have k:=h.gd y;have B:∀d∈g,d.tx.size<=100:=λd j=>by
  have w:=h.nd d j;by_cases q:d.op=33
  .obtain ⟨A,x⟩:=w.re q;rw[x,bQ];have:=Vz A;omega
  .have:=w.tx q;omega
 refine⟨⟨λd j=>(k d j).wd,λd j=>(k d j).sp.Rn co,λd j=>(k d j).small co⟩,?_,VU h.vg co⟩;have C:=AU (z:=300) (g:=g) λd j=>acr (k d j).wd (h.nd d j).kl (B d j);have D:=da (g.length:Int) ⟨co,co⟩;unfold di;rw[a9];omega
def j6(w:J)(s:Sl)(l:List Lx):Prop:=bL 4 w s ((l.map Lx.m).flatMap Lm.cs)/\∀d∈l,zc w d
def hN(s:Sl)(l:List Lx):En:=.all (.bd 4 s ((l.map Lx.m).flatMap Lm.cs)::l.map eb)
def jr{w:J}{s:Sl}{l:List Lx}:(hN s l).P w↔j6 w s l:=by
 constructor
 .exact λd=>⟨d (.bd 4 s ((l.map Lx.m).flatMap Lm.cs)) ws,λh k=>pe.1 (d (eb h) (List.mem_cons_of_mem _ (bK.2 ⟨h,k,rfl⟩)))⟩
 .intro d e j;rcases aq.1 j with rfl|j
  .exact d.1
  .obtain ⟨h,k,rfl⟩:=bK.1 j;exact pe.2 (d.2 h k)
def j6.n{w:J}{s:Sl}{l:List Lx}(h:j6 w s l):s.n=l.length:=by have d:((l.map Lx.m).flatMap Lm.cs).length=s.n *4:=h.1.1;rw[Lm.len,gJ]at d;omega
structure Lm.ga(w:J)(p:Addr)(i:Nat)(x:Lm):Prop where
 c0:w.cell? ((p.add (i *4)).add 0)=some x.g.v
 c1:w.cell? ((p.add (i *4)).add 1)=some x.h.v
 c2:w.cell? ((p.add (i *4)).add 2)=some x.c.v
 c3:w.cell? ((p.add (i *4)).add 3)=some x.s.v
def j6.again{w:J}{s:Sl}{l:List Lx}(h:j6 w s l){i:Nat}{x:Lx}(hi:l[i]? =some x):∃p,s.a=some p/\Lm.ga w p i x.m:=by
 have j:(l.map Lx.m)[i]? =some x.m:=by rw[ib,hi];rfl
 have y:=(cV.1 j).1;have:=fg.elem (f:=Lm.cs) (sz:=4) (s:=s) (w:=w) (λ_=>rfl) md h.1.2.2 j (K:=λp=>s.a=some p/\Lm.ga w p i x.m) λp q d=>⟨q,d 0 _ rfl,d 1 _ rfl,d 2 _ rfl,d 3 _ rfl⟩;obtain⟨p,_,k⟩:=sL this;exact⟨p,k⟩
def j6.get{w:J}{s:Sl}{l:List Lx}(h:j6 w s l){i:Nat}{x:Lx}(hi:l[i]? =some x){K:Addr->Prop}(k:∀p,s.a=some p->Lm.ga w p i x.m->K p):dV s.a K:=by obtain⟨p,d,j⟩:=h.again hi;rw[d];exact k p d j
def jL:List Lx->Int
 |[]=>0
 |d::r=>if gI d≠0 then gI d else jL r
def lR(ls:List Lx)(ss:List bO):Int:=if jL ls≠0 then jL ls else jA ss 0 (ls.length:Int)
def IL(n:Nat)(l:List Lx):Prop:=l.length<=n/\∀d∈l,hC n d
def CT(l:List Lx):Prop:=l.length<=4096/\∀d∈l,rD d
def IC(l:List Sp):Prop:=l.length<=1000000/\∀d∈l,mq d
section
variable {w0:J} {s t:Sl} {l:List Lx} {ds:List Sp} {b:Nat} {E:Int} {D:List En}
def Ap{i:Nat}{x:Lx}(hi:l[i]? =some x):l.drop i=x::l.drop (i+1):=by obtain⟨d,e⟩:=cV.1 hi;rw[<-e];exact dw d
def FB{x:Lx}{r:List Lx}(h:gI x≠0):jL (x::r)=gI x:=by
 conv=>lhs;unfold jL
 rw[av h]
def Aq{x:Lx}{r:List Lx}(h:gI x=0):jL (x::r)=jL r:=by
 conv=>lhs;unfold jL
 rw[ag co]
def aaR(G:CT l)(H:IC ds)(A:hN s l∈D)(O:En.sp t ds∈D)(N:cG∈D)(F:E=lR l (bx ds)):∀(k i:Nat) (w:J) (L:List En),i+k=l.length->En.g b∈L->LH F0 w0 w L D->jL l=jL (l.drop i)->
  ou.cv b s t s (s.n:Int) (i:Int) w (iM w0 E):=by
 have U:=G.1;intro k;induction k with
 |zero=>
  intro i w L P h d e;have K:=(jr.1 (d.rd _ A)).n;rw[List.drop_of_length_le co]at e;refine ou.dO _ _ _ _ _ _ _ _ (aP (aV co) ?_);refine MV (by have:=H.1;omega) H.2 O ds.length 0 w L co h d ?_;rw[F,List.drop_zero,K];unfold lR;rw[e];rfl
 |succ k Q=>
  intro i w L P h d e;have C:=jr.1 (d.rd _ A);have K:=C.n;have y:l[i]? =some l[i]:=a' co;generalize l[i]=x at y;have I:=aG y;rw[Ap y]at e;refine ou.dO _ _ _ _ _ _ _ _ (aM (aQ co) ⟨co,co,C.get y λp _ q=>?_⟩);rw[bo];refine⟨_,_,_,_,q.c0,q.c1,q.c2,q.c3,d.aK (λT W M=>M.ai (λY z=>z.aA (aaS (G.2 x I) ((jr.1 (z.rd _ A)).2 x I) (z.rd _ N)) ?_) (by simp[h])) (by simp[h])⟩;rintro _ S rfl B;refine⟨_,rfl,dA (λj=>⟨?_,B.fr⟩) (λj=>?_)⟩
  .rw [F];unfold lR;rw[e,FB j,av j]
  .rw [bb _ co];exact Q (i+1) S _ co (by simp[h]) B (by rw[e,Aq j])
def MS(d:CT l)(j:IC ds){w:J}(h:j6 w s l)(q:fB w t ds)(y:cG.P w):aj V F8 #[.agg #[s.v,t.v]] w (iM w (lR l (bx ds))):=by
 have D:=h.n;have C:=q.n;have A:=d.1;have B:=j.1;refine ou.aD _ _ w _ ((bN (w:=w) [hN s l,.sp t ds,cG] (by
  intro e k;simp only[aq,aL,aR]at k;rcases k with rfl|rfl|rfl
  .exact jr.2 h
  .exact eA.2 q
  .exact y)).aK λb z x=>aP (aV co) (aP (aV co) ?_))
 exact aaR d j ws ws ws rfl l.length 0 z _ co ws x rfl
end
section
variable {M:Nat->Prop} {w0 w:J} {L D:List En} {bs:List Nat}
def _root_.Go.W.LH.AD(H:LH M w0 w L D){P:Program}{t e:TypeId}{z:aa}{sz bytes:Nat}(h:gW P t e z sz bytes)(n:Nat)(d:n *bytes<=140737488355328){K:Sl->J->Prop}(y:∀s Y,s.n=0->LH M w0 Y (L++[.row e sz s []]) D->K s Y)(bF:∀b∈bs,En.g b∈L:=by simp):
  ∃(s:Sl) (Y:J),Sem.run P (Instr.makeSlice t (.i 0) (.i (n:Int))) w=.ok s.v Y/\kept bs w Y/\K s Y:=by
 obtain⟨i,B,E,C,A⟩:=info_parts h.hi;have F:n<=140737488355328:=by have:=Nat.le_mul_of_pos_right n h.hb;omega
 obtain⟨Y,k,q,x⟩:=run_make_own (P:=P) w 0 t e i z sz h.ht B E C .i64 .i64 n (by rw[A,Nat.mul_comm];omega) (by unfold maxLen;omega) (Nat.zero_le _);have f:af w Y:=Fr.grown x λ_ j=>by cases j
 exact⟨⟨some (ab w.heap.size),0,n⟩,Y,k,λb d=>f.cC b (H.own _ (bF b d)) id,y _ Y rfl (H.Sf f q (by intro b d;simp[ax]at d;omega))⟩
end
def Lx.e:Lx:=⟨⟨⟨none,0,0⟩,⟨none,0,0⟩,⟨none,0,0⟩,⟨none,0,0⟩⟩,[],[],[],[]⟩
def abg{x:Lx}(h:gI x=0):hB (xs x.gl)=0:=by
 unfold gI at h;split at h
 .omega
 .omega
def Ao:∀{l:List Lx},jL l=0->∀k∈l,gI k=0
 |[],_,k,d=>by cases d
 |q::r,h,k,d=>by
  by_cases j:gI q=0
  .rw [Aq j]at h;rcases aq.1 d with rfl|d
   .exact j
   .exact Ao h k d
  .rw [FB j]at h;exact absurd h j
structure IM(x:Lx):Prop where
 k:rD x
 h:∀y∈x.hy,aX y
 c:∀y∈x.cl,aX y
 s:∀d∈x.ds,nS d.x
 z:∀d∈xs x.gl,(ep d).length<=1000000
 b:(e9 x.p).length<=1000000000
def X1{w0:J}{s t:Sl}{b:List UInt8}(q:Bytes w0 s b)(x:Bytes w0 t b)(C:b.length<=1000000000000):aj V NU #[s.v,t.v] w0 λr j=>r=ae (.bool true)/\af w0 j:=by
 have D:=Bytes.len q;have E:=Bytes.len x;have loop:∀(k i:Nat) (w:J),i+k=b.length->af w0 w->xk.L0 s t (i:Int) w λr j=>r=ae (.bool true)/\af w0 j:=by
  intro k;induction k with
  |zero=>exact λi w A f=>xk.bC _ _ _ _ _ (aP (aV co) ⟨rfl,f⟩)
  |succ k B=>
   intro i w A f;have h:b[i]? =some (b[i]'co):=a' co;generalize b[i]'co=c at h;have d:af w0 w.drew:=f.dN (Fr.drew _ _);refine xk.bC _ _ _ _ _ (aM (aQ co) ⟨co,co,Bytes.cell (q.br d) h (by rw[bo]) λp _ y=>⟨_,y,co,co,Bytes.cell (x.br d) h (by rw[bo]) λF _ z=>⟨_,z,aP ws ?_⟩⟩⟩);rw[bb _ co];exact B (i+1) _ co d
 exact xk.ok _ _ w0 _ (aP (by simp;omega) (loop b.length 0 w0 co (Fr.refl _ _)))
def JF{w:J}{s:Sl}{l:List Nd}(h:GP w s l)(hW:∀d∈l,fV d.x)(hz:∀d∈l,(ep d.x).length<=1000000)(hl:l.length<=4096):
  aj V Ou #[s.v] w (jc w (di (xs l))):=by
 have hn:=iU h;have ah:(xs l).length=l.length:=by simp[xs]
 have P:LH F0 w w [] [.gr s l]:=bN _ (by intro e y;simp only[aq,aL,aR]at y;subst y;exact ct.2 h)
 have I:aX (l.length:Int):=⟨co,co⟩;have h0:=da _ I;have loop:∀(m i:Nat) (out:Sl) (o:List UInt8) (z:J),i+m=l.length->o.length<=10+1000000 *i->o++((xs l).drop i).flatMap ep=di (xs l)->LH F0 w z [.by out o] [.gr s l]->
   xw.a8 s out (i:Int) z (jc w (di (xs l))):=by
  intro m;induction m with
  |zero=>
   intro i out o z ag ho y q;refine xw.bJ _ _ _ _ _ (aP (aV co) ⟨out,rfl,?_,q.fr,λb E=>(q.new _ (aG (i:=0) rfl) b E).resolve_right id⟩);rw[List.drop_of_length_le co,List.flatMap_nil,ed]at y;rw[<-y];exact qG (q.get 0)
  |succ m ih=>
   intro i out o z ag ho y q;have D:l[i]? =some (l[i]'co):=a' co;have K:(xs l).drop i=(l[i]'co).x::(xs l).drop (i+1):=by rw[dw (by omega:i<(xs l).length)];simp[xs]
   generalize l[i]'co=d at D K;have F:=aG D;have W:=hW d F;have hlen:=hz d F;have ao:=hlen;have hu:=W.u;unfold ep at hlen;simp only[a9]at hlen;refine xw.bJ _ _ _ _ _ (aM (aQ co) (iD (ct.1 (q.getD 0)) rfl D λp hp c=>⟨d.x.op,d.ks,d.x.n,d.x.m,d.x.u,d.x.tx,d.x.st.k,d.x.st.n,d.x.st.x,c.c0,c.c1,c.c2,c.c3,c.c4,c.c5,c.c6,c.c7,c.c8,q.aK λH w2 B=>B.ai λN C=>?_⟩));have C:LH F0 w N [.by out o,.g H] [.gr s l]:=C;refine C.jH (lH _ W.op N) λt w4 H4 _ j _=>⟨t,rfl,H4.nW 0 rfl j.rd co λo1 w5 G=>?_⟩;refine G.jH (uC ((ct.1 (G.getD 0)).2 d F) W.ks W.kl) λt w6 H6 _ j _=>⟨t,rfl,H6.nW 0 rfl j.rd (by simp only[a9];omega) λo2 w7 H7=>?_⟩;refine H7.jH (lH _ W.n w7) λt w8 H8 _ j _=>⟨t,rfl,H8.nW 0 rfl j.rd (by simp only[a9];omega) λo3 w9 H9=>?_⟩;refine H9.jH (lH _ W.m w9) λt ar Q _ j _=>⟨t,rfl,Q.nW 0 rfl j.rd (by simp only[a9];omega) λo4 ak S=>?_⟩;have eu:d.x.u=(d.x.u.toNat:Int):=co
   rw[eu];refine S.jH (zR d.x.u.toNat co ak) λt au T _ j _=>⟨t,rfl,T.nW 0 rfl j.rd (by simp only[a9];omega) λo5 av U=>?_⟩;refine U.str d.x.tx λtb aw Y E=>?_;have ap:=W.tx;refine Y.jH (zQ E (by rw[dQ];omega)) λt ax Z _ j _=>⟨t,rfl,Z.nW 0 rfl j.rd (by simp only[a9];omega) λo6 al aa=>?_⟩;refine aa.jH (lH _ W.sk al) λt ay ab _ j _=>⟨t,rfl,ab.nW 0 rfl j.rd (by simp only[a9];omega) λo7 am ac=>?_⟩;refine ac.jH (lH _ W.sn am) λt az ad _ j _=>⟨t,rfl,ad.nW 0 rfl j.rd (by simp only[a9];omega) λo8 an ae=>?_⟩;refine ae.jH (lH _ W.sx an) λt aA af _ j _=>⟨t,rfl,af.nW 0 rfl j.rd (by simp only[a9];omega) λL M A=>?_⟩;have e1:o++cd d.x.op++dS d.x.kids++cd d.x.n++cd d.x.m++eF d.x.u.toNat++ea (bl d.x.tx)++cd d.x.st.k++cd d.x.st.n++cd d.x.st.x=o++ep d.x:=by unfold ep;simp only[cN]
   have A:LH F0 w M [.by L (o++cd d.x.op++dS d.x.kids++cd d.x.n++cd d.x.m++eF d.x.u.toNat++ea (bl d.x.tx)++cd d.x.st.k++cd d.x.st.n++cd d.x.st.x),.g H] [.gr s l]:=A;rw[e1]at A;rw[bb _ co];refine ih (i+1) L (o++ep d.x) M co (by rw[a9];omega) ?_ (A.take 1);rw[<-y,K,cU,cN]
 refine xw.aD s w _ ?_;rw[hn];refine P.YO (lH _ I w) λt z q O j nt=>⟨t,rfl,?_⟩;have B:=O.own (.by t (cd (l.length:Int))) j.2 nt;exact loop l.length 0 t _ z co co (by rw[List.drop_zero];unfold di;rw[ah]) B
def fC.en{n:Nat}{s:bO}(h:fC n s)(d:n<=1000):wg s:=
 ⟨h.k.1,h.k.2.1,h.k.2.2,⟨h.p.2,by have:=h.p.1;omega⟩,⟨h.l.2,by have:=h.l.1;omega⟩,⟨h.h.2,by have:=h.h.1;omega⟩,by have:=h.t;omega⟩
def XO{w:J}{x:Lx}(j:hC 40 x)(h:zc w x):aj V OO #[x.m.v] w (jc w (e9 x.p)):=by
 have y:=j.g;have Q:∀d∈x.gl,(ep d.x).length<=1000000:=λd k=>(y.2 d.x (bK.2 ⟨d,k,rfl⟩)).small co;have M:∀d∈x.gl,fV d.x:=λd k=>(y.2 d.x (bK.2 ⟨d,k,rfl⟩)).wd;have aa:(di (xs x.gl)).length<=40000010:=by
  have W:=AU (z:=1000000) (g:=xs x.gl) λd k=>(y.2 d k).small co;have Y:=da ((xs x.gl).length:Int) (by simp[xs];omega);have Z:(xs x.gl).length=x.gl.length:=by simp[xs]
  unfold di;rw[a9];omega
 have ab:=Et (b:=di (xs x.gl)) co;have hh:=j.h.1;have hc:=j.c.1;have G:=j.s.1;have l1:=qj j.h.2 co;have l2:=qj j.c.2 co;have l3:=ae2 (ss:=bx x.ds) (λs G=>by obtain⟨d,k,rfl⟩:=bK.1 G;exact(j.s.2 d k).en co) (by simp;omega);have ac:(bx x.ds).length=x.ds.length:=ws
 have H:∀e∈[En.gr x.m.g x.gl,.rd x.m.h (x.hy.map aY),.rd x.m.c (x.cl.map aY),.sp x.m.s x.ds],e.P w:=λe F=>by
  simp only[aq,aL,aR]at F;rcases F with rfl|rfl|rfl|rfl
  .exact ct.2 h.1
  .exact h.2.1
  .exact h.2.2.1
  .exact eA.2 h.2.2.2
 refine La.aD _ _ _ _ w _ ((bN (w:=w) _ H).aK λU w1 A=>A.jH (JF (ct.1 (A.getD 0)) M Q co) λt T _ I O S=>⟨t,rfl,?_⟩);have B:=I.rd (.rd t ((di (xs x.gl)).map cq)) O.rd (gq S);refine B.jH (zQ (show Bytes T t (di (xs x.gl))from B.getD 4) co) λo w3 _ K N no=>⟨o,rfl,?_⟩;have L:=K.own (.by o (ea (di (xs x.gl)))) N.2 no;refine L.ai λw4 C=>?_;refine C.mH 1 rfl co co (uC (l:=x.hy) (C.getD 1) j.h.2 co) λs1 w5 D=>?_;refine D.mH 1 rfl (by rw[a9];omega) co (uC (l:=x.cl) (D.getD 2) j.c.2 co) λs2 w6 E=>?_;refine E.mH 1 rfl (by simp only[a9];omega) co (JM (eA.1 (E.getD 3)) (λd k=>(j.s.2 d k).en co) co) λs3 w7 q=>?_;have e:ea (di (xs x.gl))++dS x.hy++dS x.cl++g' (bx x.ds)=e9 x.p:=by unfold e9 Lx.p;simp only[cN]
 rw[e]at q;exact⟨s3,rfl,qG (q.get 1),q.fr,λb j=>(q.new _ (aG (i:=1) rfl) b j).resolve_right id⟩
def ve:List ByteArray:=[ba [],ba [97],ba [98],ba [99],ba [100,100]]
structure j4(pl i aB:Nat)(s:bO):Prop where
 kind:0<=s.kind/\s.kind<=5
 node:aX s.node/\(s.kind=4->0<=s.node/\s.node<(aB:Int))
 df:aX s.df
 params:(∀x∈s.params,aX x)/\s.params.length<=pl
 bR:gh s.bR=0/\(∀x∈s.bR,aX x)/\s.bR.length<=3
 hints:(∀x∈s.hints,0<=x/\x<(i:Int))/\s.hints.length<=2
 nm:s.nm∈ve
def aen{M:Nat->Prop}{w0 w:J}{L D D1:List En}{l:List Sp}{d:Sp}(H:LH M w0 w L D1)(A:∀e∈D,e∈D1)(j:b0 l∈D1)(z:∀e∈[d.pE,d.hE,d.lE],e∈D1\/(e.fp=[]/\∀w,e.P w)):LH M w0 w L (D++[b0 (l++[d])]):=by
 have k:∀e∈jV (l++[d]),e∈jV l\/e∈[d.pE,d.hE,d.lE]:=λe h=>by grind
 refine H.kZ _ λe h=>?_;rcases aW.1 h with h|h
 .grind
 .rw [bY.1 h];refine⟨λq e h=>?_,λb x=>?_⟩
  .rcases k e h with h|h
   .exact q (b0 l) j e h
   grind
  .obtain ⟨e,h,y⟩:=cB.1 x;rcases k e h with h|h
   .exact ⟨b0 l,j,cB.2 ⟨e,h,y⟩⟩
   grind
def vc:(En.rd ⟨none,0,0⟩ (([]:List Int).map aY)).fp=[]/\∀d,(En.rd ⟨none,0,0⟩ (([]:List Int).map aY)).P d:=⟨by simp[En.rd],λd=>Rd.nil d⟩
def wh(w0:J)(D:List En)(cy:Nat)(r:Ending)(Y:J):Prop:=∃(aB st:Sl) (ls:List Lm) (ds:List Sp),r=ae (.agg #[aB.v,st.v])/\LH F0 w0 Y [.row gT 4 aB (ls.flatMap Lm.cs),.row dD 7 st (ds.flatMap Sp.c)] (D++[b0 ds])/\
 (∀b∈(b0 ds).fp,w0.heap.size<=b)/\ls.length<=2/\ds.length<=cy/\∀i d,ds[i]? =some d->j4 1 i ls.length d.x
abbrev qU(d:Nat)(x:bO)(p l h:Sl):En:=.c d [.i x.kind,.i x.node,.i x.df,p.v,.string x.nm,l.v,h.v] dD
section
variable {w0:J} {cy b4 b5 b9:Nat} {l0 aB st:Sl} {xs:List Int} {ls:List Lm} {ds:List Sp} {D:List En}
def VC(n m:Nat):cp (n:Int) (m:Int)=((n%m:Nat):Int):=rfl
abbrev wj(w0:J)(b4 b5:Nat)(aB:Sl)(ls:List Lm)(st:Sl)(ds:List Sp)(D:List En)(w:J):Prop:=LH F0 w0 w (iC b4 b5 aB ls st ds) (D++[b0 ds])
def LR{j:Nat}{x:bO}{p l h:Sl}{D1:List En}{w:J}{R:aJ}(hi:j<=1000000)(K:ds.length<=1000000)(H:LH F0 w0 w (iC b4 b5 aB ls st ds++[qU b9 x p l h]) D1)(G:∀e∈D,e∈D1)(E:b0 ds∈D1)(B:∀e∈[Sp.pE ⟨x,p,l,h⟩,Sp.hE ⟨x,p,l,h⟩,Sp.lE ⟨x,p,l,h⟩],(e∈D1\/(e.fp=[]/\∀w,e.P w)))(C:∀k q,wj w0 b4 b5 aB ls k (ds++[⟨x,p,l,h⟩]) D q->gE.L2 l0 cy (ab b4) (ab b5) ((j+1:Nat):Int) q R):
  gE.S6 l0 cy (ab b4) (ab b5) (j:Int) (ab b9) w R:=by
 have F:=(H.get 3:aF _ _ _ _ _).len;rw[Sp.e7]at F;refine⟨st,H.ld 1 1,_,_,_,_,_,_,_,H.ld 4 0,H.ld 4 1,H.ld 4 2,H.ld 4 3,H.ld 4 4,H.ld 4 5,H.ld 4 6,H.qd 3 zS rfl (λk L y _ _=>y.st 1 1 rfl λI z=>?_) co⟩;rw[bb _ co];refine C k I (aen (l:=ds) (d:=(⟨x,p,l,h⟩:Sp)) ?_ G E B);have e:(ds++[(⟨x,p,l,h⟩:Sp)]).flatMap Sp.c=ds.flatMap Sp.c++Sp.c ⟨x,p,l,h⟩:=ws
 have A:=z.take 4;unfold iC;rw[e];exact A
structure WB(w0:J)(b4 b5 b9:Nat)(aB:Sl)(ls:List Lm)(st:Sl)(ds:List Sp)(D:List En)(i7:Nat)(x:bO)(p l:Sl)(w:J):Prop where
 g:j4 1 i7 ls.length x/\x.hints=[]
 H:∃D1,LH F0 w0 w (iC b4 b5 aB ls st ds++[qU b9 x p l ⟨none,0,0⟩]) D1/\(∀e∈D,e∈D1)/\b0 ds∈D1/\(∀e∈[Sp.pE ⟨x,p,l,⟨none,0,0⟩⟩,Sp.lE ⟨x,p,l,⟨none,0,0⟩⟩],(e∈D1\/(e.fp=[]/\∀w,e.P w))/\∀b∈e.fp,w0.heap.size<=b)
def xJ{j n:Nat}{x:bO}{p l:Sl}{w:J}{R:aJ}(hi:j<=1000000)(hn:n<=1073741824)(Y:ds.length<=1000000)(ac:WB w0 b4 b5 b9 aB ls st ds D j x p l w)(hk:∀(d:Sp) E B,j4 1 j ls.length d.x->(∀e∈[d.pE,d.hE,d.lE],∀b∈e.fp,w0.heap.size<=b)->wj w0 b4 b5 aB ls E (ds++[d]) D B->gE.L2 l0 cy (ab b4) (ab b5) ((j+1:Nat):Int) B R):
  gE.S4 l0 cy (ab b4) (ab b5) (j:Int) (n:Int) (ab b9) w R:=by
 obtain⟨⟨y,Z⟩,G,H,hs,hl,aa⟩:=ac;have hp:=aa _ (List.mem_cons_self ..);have al:=aa _ (List.mem_cons_of_mem _ (List.mem_cons_self ..));have W:gE.S6 l0 cy (ab b4) (ab b5) (j:Int) (ab b9) w R:=by
  refine LR (x:=x) (p:=p) (l:=l) (h:=⟨none,0,0⟩) hi Y H hs hl (λe k=>?_) λE B L=>hk ⟨x,p,l,⟨none,0,0⟩⟩ E B y (λe k=>?_) L
  .simp only[aq,aL,aR]at k;rcases k with rfl|rfl|rfl
   .grind
   .refine .inr ?_;show(En.rd ⟨none,0,0⟩ (x.hints.map aY)).fp=[]/\∀w,(En.rd ⟨none,0,0⟩ (x.hints.map aY)).P w;rw[Z];exact vc
   grind
  .simp only[aq,aL,aR]at k;rcases k with rfl|rfl|rfl
   .grind
   .intro b q;have q:b∈(En.rd ⟨none,0,0⟩ (x.hints.map aY)).fp:=q;rw[Z,vc.1]at q;cases q
   grind
 refine aE (λak=>?_) (λ_=>W);have U:gE.S5 l0 cy (ab b4) (ab b5) (j:Int) (n:Int) (ab b9) w R:=by
  have af:ah .i64 (bS (n:Int) 8)=((n / 8:Nat):Int):=by rw[show bS (n:Int) 8=((n / 8:Nat):Int)from rfl,aN _ co]
  have ae:ah .i64 (bS (n:Int) 64)=((n / 64:Nat):Int):=by rw[show bS (n:Int) 64=((n / 64:Nat):Int)from rfl,aN _ co]
  have ad:ah .i64 (bS (n:Int) 256)=((n / 256:Nat):Int):=by rw[show bS (n:Int) 256=((n / 256:Nat):Int)from rfl,aN _ co]
  have fin:∀(z:List Int) (h:Sl) (F:J),(∀K∈z,0<=K/\K<(j:Int))->z.length<=2->LH F0 w0 F (iC b4 b5 aB ls st ds++[qU b9 x p l h,.row b' 1 h (z.map aY)]) G->gE.S6 l0 cy (ab b4) (ab b5) (j:Int) (ab b9) F R:=by
   intro z h F I N A;have ag:∀b∈ax h,w0.heap.size<=b:=λb q=>(A.new _ (aG (i:=5) rfl) b q).resolve_right id;have M:LH F0 w0 F (iC b4 b5 aB ls st ds++[qU b9 x p l h]) (G++[.rd h (z.map aY)]):=A.freeze 5 (.rd h (z.map aY)) rfl (aF.gK (A.get 5)) λb q=>oD q
   let x':bO:=⟨x.kind,x.node,x.df,x.params,x.nm,x.bR,z⟩
   refine LR (x:=x') (p:=p) (l:=l) (h:=h) hi Y M (λe k=>bG _ (hs e k)) (bG _ hl) (λe k=>?_) λE B L=>hk ⟨x',p,l,h⟩ E B ⟨y.kind,y.node,y.df,y.params,y.bR,⟨I,N⟩,y.nm⟩ (λe k=>?_) L
   .grind
   .simp only[aq,aL,aR]at k;rcases k with rfl|rfl|rfl
    .grind
    .exact gq ag
    grind
  have am:n / 8%j<j:=Nat.mod_lt _ co;have an:n / 256%j<j:=Nat.mod_lt _ co;have H0:LH F0 w0 w (iC b4 b5 aB ls st ds++[qU b9 x p l ⟨none,0,0⟩,.row b' 1 ⟨none,0,0⟩ []]) G:=H.fN b' 1;refine H0.dr λw1 O=>⟨⟨none,0,0⟩,O.ld 4 6,co,?_⟩;rw[af,ae,ad,VC,VC];refine O.k6 λF _ A ai=>⟨A.ld 4 6,A.ap 5 iy (s:=⟨none,0,0⟩) (src:=⟨some (ab w1.heap.size),1,1⟩) (news:=[.i ((n / 8%j:Nat):Int)]) rfl (lX (n:=1) (sz:=1) (cs:=[.i ((n / 8%j:Nat):Int)]) ai rfl).2.2 rfl (by simp[Value.oneCell']) (by grind) λC w3 M ao _=>M.st 4 6 rfl λw4 H4=>?_⟩;have Q:LH F0 w0 w4 (iC b4 b5 aB ls st ds++[qU b9 x p l C,.row b' 1 C ([((n / 8%j:Nat):Int)].map aY)]) G:=H4;refine aE (λ_=>Q.dr λw5 S=>⟨C,S.ld 4 6,co,?_⟩) (λ_=>fin [((n / 8%j:Nat):Int)] C w4 (λK I=>by grind) ws Q);refine S.k6 λw6 _ T aj=>⟨T.ld 4 6,T.ap 5 iy (s:=C) (src:=⟨some (ab w5.heap.size),1,1⟩) (news:=[.i ((n / 256%j:Nat):Int)]) rfl (lX (n:=1) (sz:=1) (cs:=[.i ((n / 256%j:Nat):Int)]) aj rfl).2.2 rfl (by simp[Value.oneCell']) (by grind) λN w7 H7 _ _=>H7.st 4 6 rfl λw8 H8=>?_⟩;exact fin [((n / 8%j:Nat):Int),((n / 256%j:Nat):Int)] N w8 (by intro K I;simp only[aq,aL,aR]at I;omega) ws H8
 exact⟨x.kind,H.ld 4 0,aO (λ_=>U) (λ_=>⟨x.kind,H.ld 4 0,aO (λ_=>U) (λ_=>W)⟩)⟩
def abH{c:Int}(h:c=2\/c=-2\/c=3\/c=-3):gh [c]=0/\(∀d∈[c],aX d)/\[c].length<=3:=by
 refine⟨?_,λd j=>?_,ws⟩
 .rcases h with rfl|rfl|rfl|rfl<;>decide
 grind
def Ae:aX 0:=md
def Z3{G n k m:Nat}{c:Int}{l:Sl}{D1:List En}{w:J}{R:aJ}(hi:G<=1000000)(B:n<=1073741824)(y:ds.length<=1000000)(ak:ls.length<=1000)(ai:k<=5)(hm:m<=2)(hc:c=2\/c=-2\/c=3\/c=-3)(H:LH F0 w0 w (iC b4 b5 aB ls st ds++[qU b9 ⟨(k:Int),(m:Int),0,[],ba [],[c],[]⟩ ⟨none,0,0⟩ l ⟨none,0,0⟩]) D1)(C:∀e∈D,e∈D1)(E:b0 ds∈D1)(hl:En.rd l ([c].map aY)∈D1)(aj:∀b∈(En.rd l ([c].map aY)).fp,w0.heap.size<=b)(z:∀(d:Sp) fQ Y,j4 1 G ls.length d.x->(∀e∈[d.pE,d.hE,d.lE],∀b∈e.fp,w0.heap.size<=b)->wj w0 b4 b5 aB ls fQ (ds++[d]) D Y->gE.L2 l0 cy (ab b4) (ab b5) ((G+1:Nat):Int) Y R):
  gE.S3 l0 cy (ab b4) (ab b5) (G:Int) (n:Int) (ab b9) w R:=by
 have A:=abH hc;have am:aB.n=ls.length:=by have:=(H.get 2:aF _ _ _ _ _).len;rw[Lm.len]at this;omega
 have two:∀{Y:J} {x:bO},x.params=[]->x.bR=[c]->∀e∈[Sp.pE ⟨x,⟨none,0,0⟩,l,⟨none,0,0⟩⟩,Sp.lE ⟨x,⟨none,0,0⟩,l,⟨none,0,0⟩⟩],(e∈D1\/(e.fp=[]/\∀w,e.P w))/\∀b∈e.fp,w0.heap.size<=b:=by
  intro Y x S T e h;simp only[aq,aL,aR]at h;rcases h with rfl|rfl
  .have e:Sp.pE ⟨x,⟨none,0,0⟩,l,⟨none,0,0⟩⟩=.rd ⟨none,0,0⟩ (([]:List Int).map aY):=by grind
   rw[e];exact⟨.inr vc,λb j=>by rw[vc.1]at j;cases j⟩
  grind
 have ag:∀N<4,∃F,F∈ve/\(#[.string (bh #[97]),.string (bh #[98]),.string (bh #[99]),.string (bh #[100,100])]:Array aa)[N]? =some (.string F):=by
  intro N hj
  match N,hj with
  |0,_=>exact⟨_,.tail _ (.head _),rfl⟩
  |1,_=>exact⟨_,.tail _ (.tail _ (.head _)),rfl⟩
  |2,_=>exact⟨_,.tail _ (.tail _ (.tail _ (.head _))),rfl⟩
  |3,_=>exact⟨_,.tail _ (.tail _ (.tail _ (.tail _ (.head _)))),rfl⟩
 have I:ba []∈ve:=.head _;refine⟨(k:Int),H.ld 4 0,aO (λS=>?_) (λS=>aO (λT=>?_) (λT=>aO (λU=>?_) (λU=>?_)))⟩
 .
  obtain⟨F,ae,hg⟩:=ag (n%4) (Nat.mod_lt _ co);refine H.k6 λw1 _ W af=>⟨by grind,by grind,qF ⟨F,?_,W.st 4 4 rfl λw2 Z=>?_⟩⟩
  .rw [show cp (n:Int) 4=((n%4:Nat):Int)from rfl,bo,Nat.mul_one];exact cellAt (p:=ab w.heap.size) af rfl (by grind)
  .exact xJ (x:=⟨(k:Int),(m:Int),0,[],F,[c],[]⟩) (p:=⟨none,0,0⟩) (l:=l) hi B y ⟨⟨⟨⟨by grind,by grind⟩,⟨by grind,λq=>by grind⟩,Ae,⟨ws,ws⟩,A,⟨ws,ws⟩,ae⟩,rfl⟩,D1,Z,C,E,two (Y:=w) rfl rfl⟩ z
 .
  have hr:cp (n:Int) 2=((n%2:Nat):Int):=rfl;have hq:cp (ah .i64 (bS (n:Int) 2)) 3=((n / 2%3:Nat):Int):=by rw[show bS (n:Int) 2=((n / 2:Nat):Int)from rfl,aN _ co];rfl
  rw[hr,hq];refine H.st 4 2 rfl λK H3=>H3.cZ (n:=1) (sz:=1) (cs:=[((n / 2%3:Nat):Int)].map aY) rfl md λw4 L=>?_;have ac:∀b∈ax ⟨some (ab K.heap.size),1,1⟩,w0.heap.size<=b:=λb j=>(L.new _ (aG (i:=5) rfl) b j).resolve_right id;have H5:LH F0 w0 w4 (iC b4 b5 aB ls st ds++[qU b9 ⟨(k:Int),(m:Int),((n%2:Nat):Int),[],ba [],[c],[]⟩ ⟨none,0,0⟩ l ⟨none,0,0⟩]) (D1++[.rd ⟨some (ab K.heap.size),1,1⟩ ([((n / 2%3:Nat):Int)].map aY)]):=L.freeze 5 (.rd ⟨some (ab K.heap.size),1,1⟩ ([((n / 2%3:Nat):Int)].map aY)) rfl (aF.gK (L.get 5)) λb j=>oD j;refine H5.st 4 3 rfl λw5 M=>?_;refine xJ (x:=⟨(k:Int),(m:Int),((n%2:Nat):Int),[((n / 2%3:Nat):Int)],ba [],[c],[]⟩) (p:=⟨some (ab K.heap.size),1,1⟩) (l:=l) hi B y ⟨⟨⟨⟨by grind,by grind⟩,⟨by grind,λq=>by grind⟩,by grind,⟨λan hy=>by grind,ws⟩,A,⟨ws,ws⟩,I⟩,rfl⟩,_,M,λe h=>bG _ (C e h),bG _ E,λe h=>?_⟩ z;simp only[aq,aL,aR]at h;rcases h with rfl|rfl
  .exact ⟨.inl (dL _ (bY.2 rfl)),gq ac⟩
  grind
 .
  refine⟨aB,H.ld 1 0,aO (λQ=>H.st 4 0 rfl λw6 M=>?_) (λQ=>⟨aB,H.ld 1 0,Q,H.st 4 1 rfl λw7 O=>?_⟩)⟩
  .exact xJ (x:=⟨0,(m:Int),0,[],ba [],[c],[]⟩) (p:=⟨none,0,0⟩) (l:=l) hi B y ⟨⟨⟨⟨by grind,by grind⟩,⟨by grind,λq=>by cases q⟩,Ae,⟨ws,ws⟩,A,⟨ws,ws⟩,I⟩,rfl⟩,D1,M,C,E,two (Y:=w) rfl rfl⟩ z
  .have e:cp (n:Int) (aB.n:Int)=((n%ls.length:Nat):Int):=by grind
   have ad:0<ls.length:=co
   have al:n%ls.length<ls.length:=Nat.mod_lt _ ad;rw[e]at O;exact xJ (x:=⟨(k:Int),((n%ls.length:Nat):Int),0,[],ba [],[c],[]⟩) (p:=⟨none,0,0⟩) (l:=l) hi B y ⟨⟨⟨⟨by grind,by grind⟩,⟨by grind,λ_=>by grind⟩,Ae,⟨ws,ws⟩,A,⟨ws,ws⟩,I⟩,rfl⟩,D1,O,C,E,two (Y:=w) rfl rfl⟩ z
 .exact xJ (x:=⟨(k:Int),(m:Int),0,[],ba [],[c],[]⟩) (p:=⟨none,0,0⟩) (l:=l) hi B y ⟨⟨⟨⟨by grind,by grind⟩,⟨by grind,λq=>absurd q U⟩,Ae,⟨ws,ws⟩,A,⟨ws,ws⟩,I⟩,rfl⟩,D1,H,C,E,two (Y:=w) rfl rfl⟩ z
def Z2(hx:∀A∈xs,aX A)(au:xs.length<=9223372036854775807)(aq:cy<=1000)(M:En.rd l0 (xs.map aY)∈D)(af:ls.length<=2):∀(k d:Nat) (st:Sl) (ds:List Sp) (w:J),d+k=cy->ds.length=d->(∀i j,ds[i]? =some j->j4 1 i ls.length j.x)->(∀b∈(b0 ds).fp,w0.heap.size<=b)->wj w0 b4 b5 aB ls st ds D w->
  gE.L2 l0 cy (ab b4) (ab b5) (d:Int) w λr F=>wh w0 D cy r F:=by
 intro k;have done:∀(d:Nat) (st:Sl) (ds:List Sp) (w:J),ds.length<=cy->(∀i j,ds[i]? =some j->j4 1 i ls.length j.x)->(∀b∈(b0 ds).fp,w0.heap.size<=b)->wj w0 b4 b5 aB ls st ds D w->gE.S7 (ab b4) (ab b5) w λr F=>wh w0 D cy r F:=by intro d st ds w ad z q h;refine⟨aB,st,h.ld 1 0,h.ld 1 1,h.jW 0 rfl λP H=>H.st 0 1 rfl λG B=>⟨aB,st,B.ld 0 0,B.ld 0 1,aB,st,ls,ds,rfl,?_,q,af,ad,z⟩⟩;exact B.i4 [false,false,true,true]
 induction k with
 |zero=>
  intro d st ds w hk N z q h;have hn:=bq.len (h.rd _ (bG _ M):bq w l0 xs);exact gE.j5 _ _ _ _ _ _ _ (aE (λ_=>aP (aV co) (done d st ds w co z q h)) (λ_=>done d st ds w co z q h))
 |succ k ih=>
  intro d st ds w hk N z q h;have O:bq w l0 xs:=h.rd _ (bG _ M);have hn:=bq.len O;refine gE.j5 _ _ _ _ _ _ _ (aE (λap=>aM (aQ co) ?_) (λ_=>done d st ds w co z q h));have K:xs[d]? =some xs[d]:=a' co;generalize xs[d]=A at K;have hy:=hx A (aG K);refine⟨co,co,bq.cell O K co λav _ hq=>⟨A,hq,h.call (iF A 1073741824 w co hy) ?_⟩⟩;rintro _ P rfl H;obtain⟨r1,r2⟩:=ji A 1073741824 co;obtain⟨t,ht⟩:=Int.eq_ofNat_of_zero_le r1;rw[ht]at r2 ⊢;have W:cp (ah .i64 (bS (t:Int) 18)) 4=((t / 18%4:Nat):Int):=by rw[show bS (t:Int) 18=((t / 18:Nat):Int)from rfl,aN _ co];rfl
  have Y:cp (t:Int) 6=((t%6:Nat):Int):=rfl;have Z:cp (ah .i64 (bS (t:Int) 6)) 3=((t / 6%3:Nat):Int):=by rw[show bS (t:Int) 6=((t / 6:Nat):Int)from rfl,aN _ co];rfl
  have ac:ah .i64 (bS (t:Int) 72)=((t / 72:Nat):Int):=by rw[show bS (t:Int) 72=((t / 72:Nat):Int)from rfl,aN _ co]
  have aj:∀L<4,∃c:Int,(c=2\/c=-2\/c=3\/c=-3)/\(#[.i 2,.i (-2),.i 3,.i (-3)]:Array aa)[L]? =some (.i c):=by
   intro L hj
   match L,hj with
   |0,_=>grind
   |1,_=>grind
   |2,_=>exact⟨3,.inr (.inr (.inl rfl)),rfl⟩
   |3,_=>exact⟨-3,.inr (.inr (.inr rfl)),rfl⟩
  obtain⟨c,hc,am⟩:=aj (t / 18%4) (Nat.mod_lt _ co);refine⟨(t:Int),rfl,?_⟩;dsimp only;rw[W,Y,Z,ac];refine H.k6 λG _ B ai=>⟨co,co,qF ⟨c,?_,?_⟩⟩
  .rw [bo,Nat.mul_one];exact cellAt (p:=ab P.heap.size) ai rfl (by grind)
  refine B.cZ (n:=1) (sz:=1) (cs:=[c].map aY) rfl md λw3 I=>?_;have ae:∀b∈ax ⟨some (ab G.heap.size),1,1⟩,w0.heap.size<=b:=λb C=>(I.new _ (aG (i:=4) rfl) b C).resolve_right id;have S:LH F0 w0 w3 (iC b4 b5 aB ls st ds) (D++[b0 ds]++[.rd ⟨some (ab G.heap.size),1,1⟩ ([c].map aY)]):=I.freeze 4 (.rd ⟨some (ab G.heap.size),1,1⟩ ([c].map aY)) rfl (aF.gK (I.get 4)) λb C=>oD C;refine S.nw λw4 _ T=>T.st7 4 rfl λw5 U=>?_;refine Z3 (k:=t%6) (m:=t / 6%3) (n:=t / 72) (c:=c) (l:=⟨some (ab G.heap.size),1,1⟩) co co co co co co hc U (λe y=>bG _ (bG _ y)) (bG _ (dL _ (bY.2 rfl))) (dL _ (bY.2 rfl)) (gq ae) λj ak F ao an Q=>?_;refine ih (d+1) ak (ds++[j]) F co (by simp[N]) (λi e y=>?_) (λb C=>?_) Q
  .rw [List.getElem?_append]at y;split at y
   .grind
   .rename_i ar;have:i - ds.length=0:=by grind
    rw[this]at y;have y:j=e:=by grind
    have hi:i=d:=co
    grind
  .obtain ⟨al,E,ag⟩:=cB.1 C;simp only[jV,de,aW,cU,List.flatMap_nil,ed]at E;rcases E with E|E
   .exact q b (cB.2 ⟨al,E,ag⟩)
   grind
end
def Jt{w:J}{D:List En}{y:Sl}{xs:List Int}(x:∀ac∈xs,aX ac)(S:xs.length<=9223372036854775807){cy:Nat}(Q:cy<=1000)(q:En.rd y (xs.map aY)∈D)(H:LH F0 w w [] D):
  aj V OU #[y.v,.i (cy:Int)] w λr Y=>wh w D cy r Y:=by
 refine gE.ok _ _ w _ (H.nw λz _ G=>G.nw λA _ I=>I.jW 1 rfl λE K=>K.st 1 1 rfl λZ M=>?_);have nil:∀{L:List En} {Y:J},LH F0 w Y L D->LH F0 w Y L (D++[b0 []]):=λH=>H.kZ _ λe h=>by
  rcases aW.1 h with h|h
  .grind
  .rw [bY.1 h];exact⟨λ_=>λe h=>by grind,λb B=>by
    obtain⟨e,h,_⟩:=cB.1 B
    grind⟩
 have N:=(M.fN gT 4).fN dD 7;have loop:∀(k i:Nat) (aB:Sl) (ls:List Lm) (Y:J),i+k=2->ls.length=i->LH F0 w Y (iC w.heap.size z.heap.size aB ls ⟨none,0,0⟩ []) D->gE.L0 y cy (ab w.heap.size) (ab z.heap.size) (i:Int) Y λr Y=>wh w D cy r Y:=by
  intro k;have next:∀(aB:Sl) (ls:List Lm) (Y:J),ls.length<=2->LH F0 w Y (iC w.heap.size z.heap.size aB ls ⟨none,0,0⟩ []) D->gE.L2 y cy (ab w.heap.size) (ab z.heap.size) 0 Y λr Y=>wh w D cy r Y:=λaB ls Y C d=>
   Z2 x S Q q C cy 0 ⟨none,0,0⟩ [] Y co rfl (λi ad ae=>by grind) (λb B=>by
    obtain⟨e,h,_⟩:=cB.1 B
    grind) (nil d)
  induction k with
  |zero=>
   intro i aB ls Y P C d;refine gE.bC _ _ _ _ _ _ _ (d.call (rO (d.rd _ q) x 0 3 co) ?_);rintro _ A ⟨t,rfl,U,W⟩ j;exact⟨_,rfl,aP (aV co) (next aB ls A co j)⟩
  |succ k T=>
   intro i aB ls Y P C d;refine gE.bC _ _ _ _ _ _ _ (d.call (rO (d.rd _ q) x 0 3 co) ?_);rintro _ A ⟨t,rfl,U,W⟩ j;refine⟨_,rfl,aE (λ_=>?_) (λ_=>next aB ls A co j)⟩;refine Z4 j co (λaf F=>⟨xs,F.rd _ q,x⟩) λs aa E O=>?_;show gE.L0 _ _ _ _ (ah .i64 _) _ _;rw[bb _ co];exact T (i+1) s (ls++[aa]) E co (by grind) O
 exact loop 2 0 ⟨none,0,0⟩ [] Z rfl rfl N
def _root_.Go.W.LH.KA{M:Nat->Prop}{w0 w Y:J}{G L' D X:List En}(H:LH M w0 w G D)(h:LH F0 w Y L' (D++X))(x:∀e∈X,∀b∈e.fp,w.heap.size<=b):LH M w0 Y (G++L') (D++X):=by
 have q:LH M w0 w (G++[]) D:=by rw[ed];exact H
 refine q.zU (L:=[]) ⟨h.fr.mono λ_ _ k=>k.elim,h.own,h.rd,λe d b j=>(h.new e d b j).imp id λk=>k.elim,h.nd,h.dj⟩ λe d b j=>?_;rcases aW.1 d with d|d
 .exact .inr ⟨e,d,j⟩
 .exact .inl (x e d b j)
section
variable {w0:J} {b6 b7:Nat} {m1 aB st:Sl} {ms:List Int} {D:List En}
abbrev ih(b6 b7:Nat)(aB:Sl)(ls:List Lm)(st:Sl)(ds:List Sp):List En:=[.g b6,.g b7,.row gT 4 aB (ls.flatMap Lm.cs),.row dD 7 st (ds.flatMap Sp.c)]
def Lm.set{l:List Lm}{i:Nat}(hi:i<l.length)(x:Lm):((((l.flatMap Lm.cs).set (i *4+0) x.g.v).set (i *4+1) x.h.v).set (i *4+2) x.c.v).set (i *4+3) x.s.v=(l.set i x).flatMap Lm.cs:=by
 induction l generalizing i with
 |nil=>simp at hi
 |cons a l k=>
  cases i with
  |zero=>simp[Lm.cs]
  |succ i=>
   have j:a.cs.length=4:=rfl;have hi:i<l.length:=by simpa using hi
   have e:∀d,(i+1) *4+d=a.cs.length+(i *4+d):=λd=>by rw[j];omega
   simp only[cU,List.set_cons_succ,e];rw[List.set_append_right _ _ co,List.set_append_right _ _ ws,List.set_append_right _ _ ws,List.set_append_right _ _ ws];simp only[Nat.add_sub_cancel_left];rw[k hi]
def aep{X:List En}{ls:List Lm}{ds:List Sp}{w:J}{i:Nat}{K:J->Prop}{bs:List Nat}(x:Lm)(H:LH F0 w0 w (ih b6 b7 aB ls st ds++X) D)(hi:i<ls.length)(bF:∀b∈bs,En.g b∈[En.g b6,En.g b7]++X)(P:∀G,LH F0 w0 G (ih b6 b7 aB (ls.set i x) st ds++X) D->K G):
  fo aB (i:Int) λp=>aS w (p.add (a5 (i:Int) *4)) x.g.v λq=>kept bs w q/\aS q ((p.add (a5 (i:Int) *4)).add 1) x.h.v λy=>kept bs q y/\aS y ((p.add (a5 (i:Int) *4)).add 2) x.c.v λz=>kept bs y z/\aS z ((p.add (a5 (i:Int) *4)).add 3) x.s.v λA=>kept bs z A/\K A:=by
 have F:aF w gT 4 aB (ls.flatMap Lm.cs):=H.get 2;have S:=F.len;have B:=Lm.len ls;rw[B]at S;have k:∀(C E:En),∀b∈bs,En.g b∈(En.g b6::En.g b7::C::E::X):=λC E b d=>by
  have:=bF b d;simp only[i2,List.nil_append,aq]at this ⊢;rcases this with d|d|d
  .exact .inl d
  .exact .inr (.inl d)
  .exact .inr (.inr (.inr (.inr d)))
 obtain⟨p,j⟩:∃p,aB.a=some p:=by
  rcases F.cases with⟨T,O⟩|⟨g,cur,Q,_⟩
  .rw [O]at B;simp at B;omega
  .exact ⟨_,Q⟩
 rw[bo];refine⟨co,co,ya j (H.pG 2 (i *4) rfl j co (bF:=k _ _) λq I=>I.oJ 2 (i *4) 1 rfl j (by simp only[List.length_set];omega) (bF:=k _ _) λy L=>L.oJ 2 (i *4) 2 rfl j (by simp only[List.length_set];omega) (bF:=k _ _) λz M=>M.oJ 2 (i *4) 3 rfl j (by simp only[List.length_set];omega) (bF:=k _ _) λA N=>P A ?_)⟩;unfold ih;rw[<-Lm.set hi x];exact N
def Sp.set{l:List Sp}{i:Nat}{d:Sp}(hi:l[i]? =some d)(j:Nat)(q:j<7)(v:aa)(d':Sp)(k:d'.c=d.c.set j v):(l.flatMap Sp.c).set (i *7+j) v=(l.set i d').flatMap Sp.c:=by
 induction l generalizing i with
 |nil=>simp at hi
 |cons a l w=>
  cases i with
  |zero=>
   simp only[List.getElem?_cons_zero,Option.some.injEq]at hi;subst hi;simp only[cU,List.set_cons_zero,Nat.zero_mul,Nat.zero_add];rw[List.set_append_left _ _ (by rw[Sp.ka];exact q),k]
  |succ i=>
   have h:a.c.length=7:=rfl;simp only[List.getElem?_cons_succ]at hi;have e:(i+1) *7+j=a.c.length+(i *7+j):=by rw[h];omega
   simp only[cU,List.set_cons_succ,e];rw[List.set_append_right _ _ co,Nat.add_sub_cancel_left,w hi]
def BG{X:List En}{ls:List Lm}{ds:List Sp}{w:J}{i:Nat}{d d':Sp}{K:J->Prop}(H:LH F0 w0 w (ih b6 b7 aB ls st ds++X) D)(hi:ds[i]? =some d)(j:Nat)(F:j<7)(v:aa)(E:d'.c=d.c.set j v)(B:∀y,LH F0 w0 y (ih b6 b7 aB ls st (ds.set i d')++X) D->K y):
  fo st (i:Int) λp=>aS w ((p.add (a5 (i:Int) *7)).add j) v λh=>kept [b6,b7] w h/\K h:=by
 have q:aF w dD 7 st (ds.flatMap Sp.c):=H.get 3;have G:=q.len;have k:=Sp.e7 ds;have L:=(cV.1 hi).1;rw[k]at G;obtain⟨p,x⟩:∃p,st.a=some p:=by
  rcases q.cases with⟨I,A⟩|⟨g,cur,C,_⟩
  .rw [A]at k;simp at k;omega
  .exact ⟨_,C⟩
 rw[bo];refine⟨co,co,ya x (H.oJ 3 (i *7) j rfl x co λh z=>B h ?_)⟩;unfold ih;rw[<-Sp.set hi j F v d' E];exact z
structure zm(w0:J)(abj:Nat)(ds:List Sp):Prop where
 g:∀i d,ds[i]? =some d->j4 2 i abj d.x
 f:∀b∈(b0 ds).fp,w0.heap.size<=b
def Y1:gh []=0:=md
def FN{ds:List Sp}{i:Nat}{d':Sp}{e:En}(q:e∈jV (ds.set i d')):e∈jV ds\/e∈[d'.pE,d'.hE,d'.lE]:=by
 obtain⟨j,k,h⟩:=bX.1 q;rcases List.mem_or_eq_of_mem_set k with d|d
 .exact .inl (bX.2 ⟨j,d,h⟩)
 .rw [d]at h;exact .inr h
def BE{M:Nat->Prop}{w:J}{L D:List En}{ds:List Sp}{i:Nat}{d':Sp}(H:LH M w0 w L D)(q:b0 ds∈D)(y:List En)(z:∀e∈y,e∈D)(A:∀e∈[d'.pE,d'.hE,d'.lE],(e∈D\/e∈jV ds)\/(e.fp=[]/\∀w,e.P w)):LH M w0 w L (y++[b0 (ds.set i d')]):=by
 refine H.kZ _ λe d=>?_;rcases aW.1 d with d|d
 .exact ⟨λj=>j e (z e d),λb x=>⟨e,z e d,x⟩⟩
 .rw [bY.1 d];refine⟨λj e d=>?_,λb x=>?_⟩
  .rcases FN d with d|d
   .exact j (b0 ds) q e d
   .rcases A e d with(h|h)|h
    .exact j e h
    .exact j (b0 ds) q e h
    .exact h.2 w
  .obtain ⟨e,d,k⟩:=cB.1 x;rcases FN d with d|d
   .exact ⟨b0 ds,q,cB.2 ⟨e,d,k⟩⟩
   .rcases A e d with(h|h)|h
    .exact ⟨e,h,k⟩
    .exact ⟨b0 ds,q,cB.2 ⟨e,h,k⟩⟩
    .rw [h.1]at k;cases k
def zm.set{w:Nat}{ds:List Sp}{i:Nat}{d':Sp}(h:zm w0 w ds)(hi:i<ds.length)(B:j4 2 i w d'.x)(A:∀e∈[d'.pE,d'.hE,d'.lE],e∈jV ds\/∀b∈e.fp,w0.heap.size<=b):zm w0 w (ds.set i d'):=by
 refine⟨λC y j=>?_,λb z=>?_⟩
 .rw [List.getElem?_set]at j;split at j
  .rename_i e;subst e;cases j;exact B
  .exact h.g C y j
 .obtain ⟨e,d,q⟩:=cB.1 z;rcases FN d with d|d
  .exact h.f b (cB.2 ⟨e,d,q⟩)
  .rcases A e d with k|k
   .exact h.f b (cB.2 ⟨e,k,q⟩)
   .exact k b q
abbrev mn(w0:J)(b6 b7:Nat)(aB:Sl)(ls:List Lm)(st:Sl)(ds:List Sp)(D:List En)(w:J):Prop:=LH F0 w0 w (ih b6 b7 aB ls st ds) (D++[b0 ds])/\zm w0 ls.length ds
section
variable {ls:List Lm} {R:aJ}
def Um{i n:Nat}{ds:List Sp}{d:Sp}{w:J}(hi:ds[i]? =some d)(Q:i<1000000)(H:mn w0 b6 b7 aB ls st ds D w)(N:∀j y,j.length=ds.length->(∀q,q≠i->j[q]? =ds[q]?)->mn w0 b6 b7 aB ls st j D y->gZ.rB m1 b6 ⟨none,0,0⟩ ⟨none,0,0⟩ b7 aB st ((i+1:Nat):Int) y R):
  gZ.nR m1 b6 ⟨none,0,0⟩ ⟨none,0,0⟩ b7 aB st (i:Int) (n:Int) w R:=by
 obtain⟨E,C⟩:=H;have z:=C.g i d hi;have M:=(cV.1 hi).1;have nx:∀j y,j.length=ds.length->(∀q,q≠i->j[q]? =ds[q]?)->mn w0 b6 b7 aB ls st j D y->gZ.rH m1 b6 ⟨none,0,0⟩ ⟨none,0,0⟩ b7 aB st (i:Int) y R:=λj y I L K=>by have:=N j y I L K;rw[<-bb i co]at this;exact this
 refine aO (λ_=>?_) (λ_=>nx ds w rfl (λ_ _=>rfl) ⟨E,C⟩)
 let A:Sp:=⟨⟨d.x.kind,d.x.node,d.x.df,d.x.params,d.x.nm,[],d.x.hints⟩,d.p,⟨none,0,0⟩,d.h⟩
 have O:=aG hi;have B:∀e∈[d.pE,d.hE,d.lE],e∈jV ds:=λe k=>bX.2 ⟨d,O,k⟩;refine BG (X:=[]) E hi 5 co (.slice none 0 0) (d':=A) rfl λP G=>nx (ds.set i A) P ws (λq S=>G5 co) ⟨?_,C.set M ⟨z.kind,z.node,z.df,z.params,⟨Y1,by simp[A],by simp[A]⟩,z.hints,z.nm⟩ λe k=>?_⟩
 .refine BE G ws D (λe k=>bG _ k) λe k=>?_;simp only[aq,aL,aR]at k;rcases k with rfl|rfl|rfl
  .exact .inl (.inr (B d.pE ws))
  .exact .inl (.inr (B d.hE ws))
  .exact .inr vc
 .simp only[aq,aL,aR]at k;rcases k with rfl|rfl|rfl
  .exact .inl (B d.pE ws)
  .exact .inl (B d.hE ws)
  .exact .inr λb F=>by rw[show(A.lE).fp=[]from vc.1]at F;cases F
def Ul{i n:Nat}{ds:List Sp}{d:Sp}{w:J}(hi:ds[i]? =some d)(F:i<1000000)(Q:n<1048576)(K:mn w0 b6 b7 aB ls st ds D w)(G:∀y A,y.length=ds.length->(∀z,z≠i->y[z]? =ds[z]?)->mn w0 b6 b7 aB ls st y D A->gZ.rB m1 b6 ⟨none,0,0⟩ ⟨none,0,0⟩ b7 aB st ((i+1:Nat):Int) A R):
  gZ.hW m1 b6 ⟨none,0,0⟩ ⟨none,0,0⟩ b7 aB st (i:Int) (n:Int) w R:=by
 obtain⟨C,B⟩:=K;have q:=B.g i d hi;have E:=(cV.1 hi).1;refine aO (λ_=>?_) (λ_=>Um hi F ⟨C,B⟩ G);have e:ah .i64 (0 - (n:Int))=-(n:Int):=by rw[aN _ co];omega
 rw[e]
 let k:Sp:=⟨⟨d.x.kind,d.x.node,-(n:Int),d.x.params,d.x.nm,d.x.bR,d.x.hints⟩,d.p,d.l,d.h⟩
 have P:=aG hi;have H:∀e∈[k.pE,k.hE,k.lE],e∈jV ds:=λe j=>bX.2 ⟨d,P,j⟩;refine BG (X:=[]) C hi 2 co (.i (-(n:Int))) (d':=k) rfl λS I=>Um (ds:=ds.set i k) (d:=k) (by simp[E]) F ⟨?_,B.set E ⟨q.kind,q.node,⟨by show _<=-(n:Int);omega,by show -(n:Int)<=_;omega⟩,q.params,q.bR,q.hints,q.nm⟩ λe j=>.inl (H e j)⟩ λy A L N M=>G y A (by rw[L];simp) (λz O=>by rw[N z O,G5 co]) M;exact BE I ws D (λe j=>bG _ j) λe j=>.inl (.inr (H e j))
end
end
section
variable {w0:J} {b6 b7:Nat} {m1 aB st:Sl} {D:List En} {ls:List Lm} {R:aJ}
def adF{w:J}{s:Sl}{l:List Int}(h:bq w s l):bL 1 w s (l.map aY):=⟨by rw[h.1,Nat.mul_one],h.2.1,h.2.2⟩
def ZM(n:Int)(j:Nat)(h:j<5)(k:0<=n/\n<=1048576):∃d:Int,aX d/\([.i n,.i (-n),.i 9223372036854775807,.i (-9223372036854775808),.i 0]:List aa)[j]? =some (.i d):=by
 match j,h with
 |0,_=>exact⟨n,co,rfl⟩
 |1,_=>exact⟨-n,co,rfl⟩
 |2,_=>exact⟨_,md,rfl⟩
 |3,_=>exact⟨_,md,rfl⟩
 |4,_=>exact⟨_,md,rfl⟩
def Uk{i n:Nat}{ds:List Sp}{d:Sp}{w:J}(hi:ds[i]? =some d)(af:i<1000000)(hn:n<1048576)(ak:mn w0 b6 b7 aB ls st ds D w)(az:d.x.params.length<=1)(hk:∀Z Y,Z.length=ds.length->(∀ac,ac≠i->Z[ac]? =ds[ac]?)->mn w0 b6 b7 aB ls st Z D Y->gZ.rB m1 b6 ⟨none,0,0⟩ ⟨none,0,0⟩ b7 aB st ((i+1:Nat):Int) Y R):
  gZ.jF m1 b6 ⟨none,0,0⟩ ⟨none,0,0⟩ b7 aB st (i:Int) (n:Int) w R:=by
 obtain⟨U,ad⟩:=ak;have K:=ad.g i d hi;have an:=(cV.1 hi).1;have hm:=aG hi;have aC:∀e∈[d.pE,d.hE,d.lE],e∈jV ds:=λe P=>bX.2 ⟨d,hm,P⟩;refine aO (λ_=>?_) (λ_=>Ul hi af hn ⟨U,ad⟩ hk);have ar:ah .i64 (bS (n:Int) 5)=((n / 5:Nat):Int):=by rw[show bS (n:Int) 5=((n / 5:Nat):Int)from rfl,aN _ co]
 have au:cp ((n / 5:Nat):Int) 5=((n / 5%5:Nat):Int):=rfl;have ap:ah .i64 (0 - (n:Int))=-(n:Int):=by rw[aN _ co];omega
 have ao:n / 5%5<5:=Nat.mod_lt _ co;obtain⟨j,hy,am⟩:=ZM (n:Int) (n / 5%5) ao co;have row:∀{Y:J} {X:List En},LH F0 w0 Y (ih b6 b7 aB ls st ds++X) (D++[b0 ds])->fB Y st ds:=λq=>⟨(q.get 3:aF _ _ _ _ _).bd,s6.1 (q.rd (b0 ds) ws)⟩;have aD:=(row (X:=[]) U).n;refine⟨co,co,(row (X:=[]) U).get' hi λp hp _=>?_⟩;have F:∀{Y:J} {X:List En},LH F0 w0 Y (ih b6 b7 aB ls st ds++X) (D++[b0 ds])->Y.cell? ((p.add (a5 (i:Int) *7)).add 3)=some d.p.v:=λq=>by rw[bo];exact((row q).again hi hp).c3
 have T:∀{Y:J} {X:List En},LH F0 w0 Y (ih b6 b7 aB ls st ds++X) (D++[b0 ds])->bL 1 Y d.p (d.x.params.map aY):=λq=>adF ((row q).2 d hm).1;have aA:d.p.n=d.x.params.length:=bq.len ((row (X:=[]) U).2 d hm).1;have fin:∀(t:Sl) (Y:J),LH F0 w0 Y (ih b6 b7 aB ls st ds++[.row b' 1 t ((d.x.params++[j]).map aY)]) (D++[b0 ds])->
   fo st (i:Int) λav=>aS Y ((av.add (a5 (i:Int) *7)).add 3) t.v λw7=>kept [b6,b7] Y w7/\gZ.hW m1 b6 ⟨none,0,0⟩ ⟨none,0,0⟩ b7 aB st (i:Int) (n:Int) w7 R:=by
  intro t Y q;have al:∀b∈ax t,w0.heap.size<=b:=λb hb=>(q.new _ (aG (i:=4) rfl) b hb).resolve_right id
  let aa:Sp:=⟨⟨d.x.kind,d.x.node,d.x.df,d.x.params++[j],d.x.nm,d.x.bR,d.x.hints⟩,t,d.l,d.h⟩
  refine BG (X:=[.row b' 1 t ((d.x.params++[j]).map aY)]) q hi 3 co t.v (d':=aa) rfl λw7 H7=>?_;have I:LH F0 w0 w7 (ih b6 b7 aB ls st (ds.set i aa)) (D++[b0 ds]++[.rd t ((d.x.params++[j]).map aY)]):=H7.freeze 4 (.rd t ((d.x.params++[j]).map aY)) rfl (aF.gK (H7.get 4)) λb hb=>oD hb;refine Ul (ds:=ds.set i aa) (d:=aa) (by grind) af hn ⟨?_,ad.set an ⟨K.kind,K.node,K.df,⟨λaj hz=>?_,by grind⟩,K.bR,K.hints,K.nm⟩ λe P=>?_⟩ λZ Y h1 h3 h2=>hk Z Y (by grind) (λac hj=>by grind) h2
  .refine BE I ws D (λe P=>by grind) λe P=>?_
   grind
  .have hz:aj∈d.x.params++[j]:=hz;rcases aW.1 hz with ae|ae
   .exact K.params.1 aj ae
   grind
  .simp only[aq,aL,aR]at P;rcases P with rfl|rfl|rfl
   .exact .inr (gq al)
   .grind
   grind
 refine U.ai λw1 H1=>⟨d.p,F (X:=[]) H1,?_⟩;rw[ap,ar,au,bo (n / 5%5)];have i0:(0:Int)<=((n / 5%5:Nat):Int):=co
 have i5:((n / 5%5:Nat):Int)<((5:Nat):Int):=co
 have S:(0+d.p.n) *8<=140737488355328:=co
 have O:∀{b:Nat} {Y:J} {L:List En} (k:Nat),LH F0 w0 Y L (D++[b0 ds])->L[k]? =some (.c b [.i (n:Int),.i (-(n:Int)),.i 9223372036854775807,.i (-9223372036854775808),.i 0] b')->Y.cell? ((ab b).add (n / 5%5 *1))=some (.i j):=λk q hL=>by rw[Nat.mul_one];exact q.ld k _ hL am
 have Q:∀{Y:J} {L:List En} {t:Sl} (k:Nat),LH F0 w0 Y L (D++[b0 ds])->L[k]? =some (.row b' 1 t (d.x.params.map aY))->(t.n+1) *8<=140737488355328:=λk q hL=>by
  have:=(q.get k hL:aF _ _ _ _ _).len
  grind
 have N:d.x.params.map aY++[Value.i j]=(d.x.params++[j]).map aY:=by rw[ez];rfl
 refine⟨H1.cZ (n:=0) (sz:=1) (cs:=[]) rfl md λw2 E=>⟨F (X:=[_]) E,?_,?_⟩,H1.nw λw2 _ E=>⟨F (X:=[_]) E,i0,i5,qF ⟨j,O 4 E rfl,?_,?_⟩⟩⟩
 .
  refine E.dm 4 iy (s:=⟨some (ab w1.heap.size),0,0⟩) (src:=d.p) (news:=d.x.params.map aY) rfl (T (X:=[_]) E) (r9 _) S λt w3 C=>?_;refine C.nw λw4 _ M=>⟨i0,i5,qF ⟨j,O 5 M rfl,M.nw λw5 _ H5=>?_⟩⟩;refine H5.dm 4 iy (s:=t) (src:=⟨some (ab w4.heap.size),1,1⟩) (news:=[.i j]) rfl (lX (H5.get 6) rfl) (by simp[Value.oneCell']) (Q 4 H5 rfl) λA B z=>fin A B ?_;rw[<-N];exact z.take 5
 .refine E.nw λw8 _ I=>⟨F (X:=[_,_]) I,i0,i5,qF ⟨j,O 5 I rfl,?_,?_⟩⟩
  .
   refine I.dm 4 iy (s:=⟨some (ab w1.heap.size),0,0⟩) (src:=d.p) (news:=d.x.params.map aY) rfl (T (X:=[_,_]) I) (r9 _) S λt w9 W=>?_;refine⟨O 5 W rfl,W.nw λaw _ G=>?_⟩;refine G.dm 4 iy (s:=t) (src:=⟨some (ab w9.heap.size),1,1⟩) (news:=[.i j]) rfl (lX (G.get 6) rfl) (by simp[Value.oneCell']) (Q 4 G rfl) λA B z=>fin A B ?_;rw[<-N];exact z.take 5
  .
   refine I.nw λay _ H=>⟨F (X:=[_,_,_]) H,?_⟩;refine H.dm 4 iy (s:=⟨some (ab w1.heap.size),0,0⟩) (src:=d.p) (news:=d.x.params.map aY) rfl (T (X:=[_,_,_]) H) (r9 _) S λt ag y=>?_;refine y.dm 4 iy (s:=t) (src:=⟨some (ab w8.heap.size),1,1⟩) (news:=[.i j]) rfl (lX (y.get 6) rfl) (by simp[Value.oneCell']) (Q 4 y rfl) λA B z=>fin A B ?_;rw[<-N];exact z.take 5
 .refine E.cZ (n:=0) (sz:=1) (cs:=[]) rfl md λw3 C=>⟨O 4 C rfl,F (X:=[_,_]) C,?_,?_⟩
  .
   refine C.dm 5 iy (s:=⟨some (ab w2.heap.size),0,0⟩) (src:=d.p) (news:=d.x.params.map aY) rfl (T (X:=[_,_]) C) (r9 _) S λt w9 W=>?_;refine⟨O 4 W rfl,W.nw λaw _ G=>?_⟩;refine G.dm 5 iy (s:=t) (src:=⟨some (ab w9.heap.size),1,1⟩) (news:=[.i j]) rfl (lX (G.get 6) rfl) (by simp[Value.oneCell']) (Q 5 G rfl) λA B z=>fin A B ?_;rw[<-N];exact z.i4 [true,true,true,true,false,true,false]
  .
   refine C.nw λay _ H=>⟨F (X:=[_,_,_]) H,?_⟩;refine H.dm 5 iy (s:=⟨some (ab w2.heap.size),0,0⟩) (src:=d.p) (news:=d.x.params.map aY) rfl (T (X:=[_,_,_]) H) (r9 _) S λt ag y=>?_;refine y.dm 5 iy (s:=t) (src:=⟨some (ab w3.heap.size),1,1⟩) (news:=[.i j]) rfl (lX (y.get 6) rfl) (by simp[Value.oneCell']) (Q 5 y rfl) λA B z=>fin A B ?_;rw[<-N];exact z.i4 [true,true,true,true,false,true,false]
 .
  refine E.nw λw3 _ C=>⟨F (X:=[_,_]) C,C.cZ (n:=0) (sz:=1) (cs:=[]) rfl md λw4 M=>⟨F (X:=[_,_,_]) M,?_⟩⟩;refine M.dm 6 iy (s:=⟨some (ab w3.heap.size),0,0⟩) (src:=d.p) (news:=d.x.params.map aY) rfl (T (X:=[_,_,_]) M) (r9 _) S λt ag y=>?_;refine y.dm 6 iy (s:=t) (src:=⟨some (ab w2.heap.size),1,1⟩) (news:=[.i j]) rfl (lX (y.get 5) rfl) (by simp[Value.oneCell']) (Q 6 y rfl) λA B z=>fin A B ?_;rw[<-N];exact z.i4 [true,true,true,true,false,false,true]
def abI(a b:Nat)(k:a<4)(q:b<1000):gh [2,-3 - (a:Int),9+(b:Int)]=0/\(∀d∈[2,-3 - (a:Int),9+(b:Int)],aX d):=by
 have x:lN 2=true:=md
 have y:lN (-3 - (a:Int))=true:=xT.2 co;have z:lN (9+(b:Int))=true:=xT.2 co;have e:[2,-3 - (a:Int),9+(b:Int)].all lN=true:=by grind
 have j:og [2,-3 - (a:Int),9+(b:Int)]=true:=by unfold og;rw[aQ co,Bool.true_and];unfold og;rw[aQ co];rfl
 have h:mE [2,-3 - (a:Int),9+(b:Int)]=0:=by
  unfold mE
  grind
 refine⟨by unfold gh;grind,λd w=>?_⟩
 grind
def aeo{ms:List Int}{M:Nat}(am:M<=1000)(hx:∀al∈ms,aX al)(hm:En.rd m1 (ms.map aY)∈D)(hk:∀ds F,ds.length=M->mn w0 b6 b7 aB ls st ds D F->∀W,LH F0 w0 W (ih b6 b7 aB ls st ds) (D++[b0 ds])->R (ae (.agg #[aB.v,st.v])) W):∀(k i:Nat) (ds:List Sp) (w:J),i+k=ds.length->ds.length=M->(∀q j,i<=q->ds[q]? =some j->j.x.params.length<=1)->mn w0 b6 b7 aB ls st ds D w->
  gZ.rB m1 b6 ⟨none,0,0⟩ ⟨none,0,0⟩ b7 aB st (i:Int) w R:=by
 intro k;induction k with
 |zero=>
  intro i ds w af Q L y;have hn:=fB.n (w:=w) (s:=st) (l:=ds) ⟨(y.1.get 3:aF _ _ _ _ _).bd,s6.1 (y.1.rd (b0 ds) ws)⟩;exact gZ.IJ _ _ _ _ _ _ _ _ _ _ (aP (aV co) (y.1.ai λA K=>hk ds w Q y A K))
 |succ k ak=>
  intro i ds w af Q L y;have hn:=fB.n (w:=w) (s:=st) (l:=ds) ⟨(y.1.get 3:aF _ _ _ _ _).bd,s6.1 (y.1.rd (b0 ds) ws)⟩;obtain⟨j,B⟩:∃j,ds[i]? =some j:=⟨ds[i],a' co⟩;have ag:=(cV.1 B).1;have aj:En.rd m1 (ms.map aY)∈D++[b0 ds]:=bG _ hm;have nx:∀I:List Sp,I.length=ds.length->(∀q,q≠i->I[q]? =ds[q]?)->∀H F,H.length=I.length->(∀q,q≠i->H[q]? =I[q]?)->mn w0 b6 b7 aB ls st H D F->gZ.rB m1 b6 ⟨none,0,0⟩ ⟨none,0,0⟩ b7 aB st ((i+1:Nat):Int) F R:=λI e1 e2 H F h1 h2 Z=>
   ak (i+1) H F co co (λq j hj hd=>L q j co (by rw[<-e2 q co,<-h2 q co];exact hd)) Z
  refine gZ.IJ _ _ _ _ _ _ _ _ _ _ (aM (aQ co) (y.1.aA (rO (y.1.rd _ aj) hx _ 1048576 co) ?_));rintro _ A ⟨n',rfl,n1,n2⟩ K;obtain⟨n,rfl⟩:=Int.eq_ofNat_of_zero_le n1;have Y1:mn w0 b6 b7 aB ls st ds D A:=⟨K,y.2⟩;have E:=y.2.g i j B;refine⟨_,rfl,aO (λ_=>?_) (λ_=>Uk B co co Y1 (L i j (bm _) B) (nx ds rfl λ_ _=>rfl))⟩;have e4:ah .i64 (-3 - cp (n:Int) 4)=-3 - ((n%4:Nat):Int):=by rw[show cp (n:Int) 4=((n%4:Nat):Int)from rfl,aN _ co]
  have e9:ah .i64 (9+cp (n:Int) 1000)=9+((n%1000:Nat):Int):=by rw[show cp (n:Int) 1000=((n%1000:Nat):Int)from rfl,aN _ co]
  rw[e4,e9];obtain⟨T,U⟩:=abI (n%4) (n%1000) (Nat.mod_lt _ co) (Nat.mod_lt _ co);obtain⟨z,S⟩:∃z,z=[2,-3 - ((n%4:Nat):Int),9+((n%1000:Nat):Int)]:=⟨_,rfl⟩;have ac:(#[.i 2,.i (-3 - ((n%4:Nat):Int)),.i (9+((n%1000:Nat):Int))]:Array aa)=(z.map aY).toArray:=by rw[S];rfl
  rw[<-S]at T U;have an:z.length=3:=by grind
  rw[ac];refine K.cZ (n:=3) (sz:=1) (cs:=z.map aY) (by grind) md λw2 O=>?_;have ad:∀b∈ax ⟨some (ab A.heap.size),3,3⟩,w0.heap.size<=b:=λb N=>(O.new _ (aG (i:=4) rfl) b N).resolve_right id
  let G:Sp:=⟨⟨j.x.kind,j.x.node,j.x.df,j.x.params,j.x.nm,z,j.x.hints⟩,j.p,⟨some (ab A.heap.size),3,3⟩,j.h⟩
  have ao:∀e∈[j.pE,j.hE,j.lE],e∈jV ds:=λe C=>bX.2 ⟨j,aG B,C⟩;refine BG (X:=[.row b' 1 ⟨some (ab A.heap.size),3,3⟩ (z.map aY)]) O B 5 co (.slice (some (ab A.heap.size)) 3 3) (d':=G) rfl λw7 P=>?_;have Y:LH F0 w0 w7 (ih b6 b7 aB ls st (ds.set i G)) (D++[b0 ds]++[.rd ⟨some (ab A.heap.size),3,3⟩ (z.map aY)]):=P.freeze 4 (.rd ⟨some (ab A.heap.size),3,3⟩ (z.map aY)) rfl (aF.gK (P.get 4)) λb N=>oD N;refine Uk (ds:=ds.set i G) (d:=G) (by grind) co co ⟨?_,y.2.set ag ⟨E.kind,E.node,E.df,E.params,⟨T,U,by grind⟩,E.hints,E.nm⟩ λe C=>?_⟩ (L i j (bm _) B) (nx (ds.set i G) ws λq hj=>G5 co)
  .refine BE Y ws D (λe C=>by grind) λe C=>?_
   grind
  .simp only[aq,aL,aR]at C;rcases C with rfl|rfl|rfl
   .grind
   .grind
   .exact .inr (gq ad)
end
def gg(d:Sp):Sp:=⟨⟨if d.x.kind=4 then 5 else d.x.kind,d.x.node,d.x.df,d.x.params,d.x.nm,d.x.bR,d.x.hints⟩,d.p,d.l,d.h⟩
def LW{pl i aB:Nat}{s:bO}(h:j4 pl i aB s)(w:pl<=40)(hi:i<=1000):fC 40 s:=by
 have q:=h.kind;have d:=h.node.1;refine⟨⟨co,d,h.df⟩,⟨by have:=h.params.2;omega,h.params.1⟩,⟨by have:=h.bR.2.2;omega,h.bR.2.1⟩,⟨by have:=h.hints.2;omega,λk j=>by have:=h.hints.1 k j;omega⟩,?_⟩;have:∀t∈ve,t.size<=40:=md
 exact this _ h.nm
def fC.gg{n:Nat}{d:Sp}(h:fC n d.x):fC n (gg d).x:=by
 refine⟨⟨?_,h.k.2⟩,h.p,h.l,h.h,h.t⟩;show aX (if d.x.kind=4 then 5 else d.x.kind);split
 .decide
 .exact h.k.1
def aap{pl i aB:Nat}{d:Sp}(h:j4 pl i aB d.x):(gg d).x.kind≠4/\eM (gg d).x (i:Int) 0=0:=by
 have j:(gg d).x.kind≠4/\¬((gg d).x.kind<0\/(gg d).x.kind>5):=by have:=h.kind;show(if d.x.kind=4 then 5 else d.x.kind)≠4/\¬((if d.x.kind=4 then 5 else d.x.kind)<0\/(if d.x.kind=4 then 5 else d.x.kind)>5);split<;>omega
 have k:¬(bl (gg d).x.nm≠[]/\eZ (bl (gg d).x.nm)=false):=by
  have:∀t∈ve,¬(bl t≠[]/\eZ (bl t)=false):=md
  exact this _ h.nm
 refine⟨j.1,?_⟩;rw[HU j.2 h.bR.1 k,av,ag (λh=>j.1 h.1)];rw[fa];intro w q;have:=h.hints.1 w q;rw[aQ co,aQ co];rfl
def LU{pl aB:Nat}:∀{l:List Sp} {i:Nat},(∀(j:Nat) (d:Sp),l[j]? =some d->j4 pl (i+j) aB d.x)->iW (bx (l.map gg)) (i:Int)=0
 |[],_,_=>rfl
 |d::l,i,h=>by
  obtain⟨q,k⟩:=aap (h 0 d rfl);rw[Nat.add_zero]at k;have w:=LU (l:=l) (i:=i+1) λj e y=>by
   have:=h (j+1) e y
   rwa[show i+(j+1)=i+1+j by omega]at this
  show iW ((gg d).x::bx (l.map gg)) (i:Int)=0;rw[Ns q k];exact w
structure pW(y:Lx):Prop where
 e:gI y=0
 g:iL (xs y.gl)
 n:y.ds.length<=4
def aem{w:J}{xd:List Sp}(h:(b0 xd).P w){d:Sp}(j:d∈xd):wG w d:=s6.1 h d j
def abV{M:Nat->Prop}{w0 w:J}{L D D1:List En}{ds xd:List Sp}{x:Lx}(H:LH M w0 w L D1)(I:∀e∈D++[b0 ds],e∈D1)(N:b0 xd∈D1)(K:x.ds=xd.map gg)(h:∀e∈[En.gr x.m.g x.gl,.rd x.m.h (x.hy.map aY),.rd x.m.c (x.cl.map aY),.bd 7 x.m.s (x.ds.flatMap Sp.c)],e∈D1):LH M w0 w L (D++[eb x]++[b0 ds]):=by
 simp only[aq,aL,aR,forall_eq_or_imp,forall_eq]at h;obtain⟨C,E,F,G⟩:=h;refine H.kZ _ λe z=>?_;simp only[aW,bY]at z;have O:e∈D++[b0 ds]->((∀e∈D1,e.P w)->e.P w)/\∀b∈e.fp,∃A∈D1,b∈A.fp:=λh=>⟨λq=>q e (I e h),λb j=>⟨e,I e h,j⟩⟩;rcases z with(z|rfl)|rfl
 .exact O (bG _ z)
 .refine ⟨λq=>pe.2 ⟨ct.1 (q _ C),q _ E,q _ F,q _ G,λA y=>?_⟩,λb j=>?_⟩
  .rw [K]at y;obtain⟨a,B,rfl⟩:=bK.1 y;exact aem (d:=a) (q _ N) B
  .obtain ⟨e,k,j⟩:=cB.1 j;simp only[aq,aL,aR]at k;rcases k with rfl|rfl|rfl|rfl
   .exact ⟨_,C,j⟩
   .exact ⟨_,E,j⟩
   .exact ⟨_,F,j⟩
   .obtain ⟨e,k,j⟩:=cB.1 j;rcases aq.1 k with rfl|k
    .exact ⟨_,G,j⟩
    .refine ⟨_,N,cB.2 ⟨e,?_,j⟩⟩;rw[K]at k;obtain⟨A,y,k⟩:=bX.1 k;obtain⟨a,B,rfl⟩:=bK.1 y;exact bX.2 ⟨a,B,k⟩
 .exact O (dL _ (bY.2 rfl))
def Ha{e:TypeId}{s:Sl}{vs:List aa}{sz b:Nat}(h:b∈(En.bd sz s vs).fp):b∈(En.row e sz s vs).fp:=by
 have h:b∈(if vs=[]then[]else ax s):=h;split at h
 .cases h
 .exact h
section
variable {w0:J} {b6 b7:Nat} {m1 aB st:Sl} {D:List En} {ls:List Lm} {R:aJ}
def afg{H x0 Q:Sl}{gl:List Nd}{A q:Nat}{ds xd:List Sp}{ms:List Int}{D1:List En}(aj:q<ls.length)(ar:ls.length<=2)(hx:∀y∈ms,aX y)(hm:En.rd m1 (ms.map aY)∈D)(ap:1<=H.n)(ad:gl.length<=40/\∀d∈xs gl,tI 3 d)(ae:iL (xs gl)){pl lm:Nat}(af:∀(j:Nat) (d:Sp),xd[j]? =some d->j4 pl j lm d.x)(ao:H.n=gl.length)(am:xd.length<=4)(al:∀d∈xd,fC 40 d.x)(aa:∀e∈D++[b0 ds],e∈D1)(hG:En.gr H gl∈D1)(hX:b0 xd∈D1)(hk:∀(y:Lx) Y,hC 40 y->1<=y.gl.length->pW y->LH F0 w0 Y (ih b6 b7 aB (ls.set q y.m) st ds) (D++[eb y]++[b0 ds])->gZ.a8 m1 b6 ⟨none,0,0⟩ ⟨none,0,0⟩ b7 aB st ((q+1:Nat):Int) Y R):
  ∀(k B:Nat) (z:Sl) (w:J),B+k=xd.length->LH F0 w0 w (ih b6 b7 aB ls st ds++[.row dD 7 Q (xd.flatMap Sp.c),.g A,.row dD 7 z (((xd.take B).map gg).flatMap Sp.c)]) D1->
  gZ.cv m1 b6 ⟨none,0,0⟩ ⟨none,0,0⟩ b7 aB st (q:Int) H A x0 Q z (B:Int) w R:=by
 have gs:∀(Z:List En) (G e2 e3:En),∀b∈[b6,b7,A],En.g b∈(En.g b6::En.g b7::G::e2::e3::En.g A::Z):=λZ G e2 e3 b h=>by simp only[aq,aL,aR]at h;rcases h with rfl|rfl|rfl<;>simp
 have gm:∀(Z:List En) (G:En),∀b∈[b6,b7,A],En.g b∈[En.g b6,En.g b7]++(G::En.g A::Z):=λZ G b h=>by simp only[aq,aL,aR]at h;rcases h with rfl|rfl|rfl<;>simp
 have fin:∀(h c z:Sl) (t:Int) (Y:J) (G:En),0<=t/\t<(H.n:Int)->LH F0 w0 Y (ih b6 b7 aB ls st ds++[G,.g A,.row dD 7 z ((xd.map gg).flatMap Sp.c),.row b' 1 h ([t,0].map aY),.row b' 1 c ([-2 - (q:Int),7+(q:Int)].map aY)]) D1->
   fo aB (q:Int) λp=>aS Y (p.add (a5 (q:Int) *4)) H.v λP=>kept [b6,b7,A] Y P/\aS P ((p.add (a5 (q:Int) *4)).add 1) h.v λC=>kept [b6,b7,A] P C/\aS C ((p.add (a5 (q:Int) *4)).add 2) c.v λI=>kept [b6,b7,A] C I/\aS I ((p.add (a5 (q:Int) *4)).add 3) z.v λL=>kept [b6,b7,A] I L/\gZ.cX m1 b6 ⟨none,0,0⟩ ⟨none,0,0⟩ b7 aB st (q:Int) L R:=by
  intro h c z t Y G ht F;refine aep ⟨H,h,c,z⟩ (X:=[_,_,_,_,_]) F aj (gm _ _) λw5 H5=>?_;have H6:=H5.freeze 8 (.rd c ([-2 - (q:Int),7+(q:Int)].map aY)) rfl (aF.gK (H5.get 8)) λb U=>oD U;have H7:=H6.freeze 7 (.rd h ([t,0].map aY)) rfl (aF.gK (H6.get 7)) λb U=>oD U;have H8:=H7.freeze 6 (.bd 7 z ((xd.map gg).flatMap Sp.c)) rfl (aF.bd (H7.get 6)) λb U=>Ha U;have H9:=hk ⟨⟨H,h,c,z⟩,gl,[t,0],[-2 - (q:Int),7+(q:Int)],xd.map gg⟩ w5 ⟨ad,⟨ws,?_⟩,⟨ws,?_⟩,⟨by simp;omega,?_⟩⟩ (by show 1<=gl.length;omega) ⟨?_,ae,by simpa using am⟩ (abV (xd:=xd) (H8.take 4) (λe he=>?_) ?_ rfl ?_)
  .rw [<-bb q co]at H9;exact H9
  .intro y W;simp only[aq,aL,aR]at W;rcases W with rfl|rfl
   .have:=ad.1;omega
   .decide
  .intro y W;simp only[aq,aL,aR]at W;rcases W with rfl|rfl<;>omega
  .intro d hd;obtain⟨a,T,rfl⟩:=bK.1 hd;exact(al a T).gg
  .have G:gh [-2 - (q:Int),7+(q:Int)]=0:=by
    have h2:q=0\/q=1:=co
    rcases h2 with rfl|rfl<;>decide
   have e2:qv gl.length [t,0]=true:=by unfold qv;simp only[List.all_cons,List.all_nil];rw[aQ co,aQ co,aQ co,aQ co];rfl
   have e3:hB (xs gl)=0:=VU ae.vg (by simp[xs];omega);have e4:iW (bx (xd.map gg)) 0=0:=LU (pl:=pl) (aB:=lm) (i:=0) λj d hj=>by rw[Nat.zero_add];exact af j d hj
   show gI ⟨⟨H,h,c,z⟩,gl,[t,0],[-2 - (q:Int),7+(q:Int)],xd.map gg⟩=0;unfold gI;dsimp only;rw[ag co,av e2,ag co,e4]
  .have:=aa e he;simp[this]
  .simp [hX]
  .intro e he;simp only[aq,aL,aR]at he;rcases he with rfl|rfl|rfl|rfl
   .simp [hG]
   .simp
   .simp
   .simp
 intro k;induction k with
 |zero=>
  intro B z w ak F;rw[eh co]at F;have hn:=(F.get 4:aF _ _ _ _ _).len;rw[Sp.e7]at hn;have em:ah .i64 (-2 - (q:Int))=-2 - (q:Int):=aN _ co;have ac:ah .i64 (7+(q:Int))=7+(q:Int):=aN _ co;have G:ah .i64 (1+(q:Int))=((1+q:Nat):Int):=by rw[aN _ co];omega
  refine gZ.dO _ _ _ _ _ _ _ _ _ _ _ _ _ _ _ _ (aP (aV co) ⟨F.ai (bF:=gs _ _ _ _) λP M=>?_,F.ai (bF:=gs _ _ _ _) λP M=>?_⟩)
  .refine M.aA (rO (M.rd _ (aa _ (bG _ hm))) hx _ _ co) ?_;rintro _ C ⟨t,rfl,t1,t2⟩ E;rw[em,ac];refine⟨_,rfl,E.cZ (n:=2) (sz:=1) (cs:=[t,0].map aY) rfl md λI N=>N.cZ (n:=2) (sz:=1) (cs:=[-2 - (q:Int),7+(q:Int)].map aY) rfl md λL S=>?_,E.cZ (n:=2) (sz:=1) (cs:=[-2 - (q:Int),7+(q:Int)].map aY) rfl md λI N=>N.cZ (n:=2) (sz:=1) (cs:=[t,0].map aY) rfl md λL S=>?_⟩
   .exact fin ⟨some (ab C.heap.size),2,2⟩ ⟨some (ab I.heap.size),2,2⟩ z t L _ ⟨t1,t2⟩ S
   .exact fin ⟨some (ab I.heap.size),2,2⟩ ⟨some (ab C.heap.size),2,2⟩ z t L _ ⟨t1,t2⟩ (S.perm (.cons _ (.cons _ (.cons _ (.cons _ (.cons _ (.cons _ (.cons _ (.swap _ _ [])))))))))
  .rw [em,ac];refine M.cZ (n:=2) (sz:=1) (cs:=[-2 - (q:Int),7+(q:Int)].map aY) rfl md λC E=>E.aA (rO (E.rd _ (aa _ (bG _ hm))) hx _ _ co) ?_;rintro _ I ⟨t,rfl,t1,t2⟩ N;refine⟨_,rfl,N.cZ (n:=2) (sz:=1) (cs:=[t,0].map aY) rfl md λL S=>?_⟩;exact fin ⟨some (ab I.heap.size),2,2⟩ ⟨some (ab P.heap.size),2,2⟩ z t L _ ⟨t1,t2⟩ (S.perm (.cons _ (.cons _ (.cons _ (.cons _ (.cons _ (.cons _ (.cons _ (.swap _ _ [])))))))))
 |succ k an=>
  intro B z w ak F;have ho:aF w dD 7 Q (xd.flatMap Sp.c):=F.get 4;have hn:=ho.len;rw[Sp.e7]at hn;have hs:=(F.get 6:aF _ _ _ _ _).len;rw[Sp.e7,gJ,eT]at hs;obtain⟨d,hi⟩:∃d,xd[B]? =some d:=⟨xd[B],a' co⟩;have ec:∀a:Int,a=(if d.x.kind=4 then 5 else d.x.kind)->((xd.take B).map gg).flatMap Sp.c++[.i a,.i d.x.node,.i d.x.df,d.p.v,.string d.x.nm,d.l.v,d.h.v]=((xd.take (B+1)).map gg).flatMap Sp.c:=λa T=>by rw[dM,hi,T];simp[gg,Sp.c]
  have nx:∀(a:Int),a=(if d.x.kind=4 then 5 else d.x.kind)->∀(K:Nat) (Y:J),LH F0 w0 Y (ih b6 b7 aB ls st ds++[.row dD 7 Q (xd.flatMap Sp.c),.g A,.row dD 7 z (((xd.take B).map gg).flatMap Sp.c),.g K]) D1->
    gZ.cb m1 b6 ⟨none,0,0⟩ ⟨none,0,0⟩ b7 aB st (q:Int) H A x0 Q z (B:Int) K a d.x.node d.x.df d.p d.x.nm d.l d.h Y R:=λa T K Y H'=>by
   refine H'.jh 6 zS rfl (λs' C E=>?_) co (bF:=λb h=>?_)
   .rw [bb _ co];have N:=E.take 7;have e:=ec a T;refine an (B+1) s' C co ?_;rw[<-e];exact N
   .simp only[aq,aL,aR]at h;rcases h with rfl|rfl|rfl|rfl<;>simp
  refine gZ.dO _ _ _ _ _ _ _ _ _ _ _ _ _ _ _ _ (aM (aQ co) ⟨co,co,fg.elem (f:=Sp.c) (sz:=7) Sp.ka co ho.bd.2.2 hi λp hp O=>⟨_,_,_,_,_,_,_,O 0 _ rfl,O 1 _ rfl,O 2 _ rfl,O 3 _ rfl,O 4 _ rfl,O 5 _ rfl,O 6 _ rfl,F.aK (bF:=gs _ _ _ _) λK P M=>?_⟩⟩);have gl:∀b∈[b6,b7,A,K],En.g b∈ih b6 b7 aB ls st ds++[.row dD 7 Q (xd.flatMap Sp.c),.g A,.row dD 7 z (((xd.take B).map gg).flatMap Sp.c)]++[.g K]:=λb h=>by simp only[aq,aL,aR]at h;rcases h with rfl|rfl|rfl|rfl<;>simp
  exact aO (λh4=>M.ai (bF:=gl) λC E=>nx 5 (by rw[av h4]) K C E) (λh4=>M.ai (bF:=gl) λC E=>nx d.x.kind (by rw[ag h4]) K C E)
end
def IT(w0:J)(D:List En)(cy:Nat)(r:Ending)(Y:J):Prop:=∃(aB st:Sl) (ys:List Lx) (ds:List Sp),r=ae (.agg #[aB.v,st.v])/\LH F0 w0 Y [.row gT 4 aB ((ys.map Lx.m).flatMap Lm.cs),.row dD 7 st (ds.flatMap Sp.c)] (D++ys.map eb++[b0 ds])/\IL 40 ys/\(∀h∈ys,1<=h.gl.length)/\(ys.length<=2/\∀h∈ys,pW h)/\(∀d∈ds,fC 40 d.x)/\ds.length<=cy/\∀i d,ds[i]? =some d->j4 2 i ys.length d.x
def aff{w0:J}{Y Z:Nat}{m1 aB st:Sl}{ms:List Int}{D:List En}{ds:List Sp}{cy:Nat}(h:∀j∈ms,aX j)(ap:ms.length<=9223372036854775807)(M:En.rd m1 (ms.map aY)∈D)(ah:ds.length<=1000)(ay:ds.length<=cy)(ag:∀(i:Nat) (d:Sp),ds[i]? =some d->d.x.params.length<=1):
  ∀(k i:Nat) (ys:List Lx) (ls:List Lm) (w:J),i+k=ls.length->ls.length<=2->ys.map Lx.m=ls.take i->IL 40 ys->(∀j∈ys,1<=j.gl.length)->(∀j∈ys,pW j)->mn w0 Y Z aB ls st ds (D++ys.map eb) w->gZ.a8 m1 Y ⟨none,0,0⟩ ⟨none,0,0⟩ Z aB st (i:Int) w λr F=>IT w0 D cy r F:=by
 intro k;induction k with
 |zero=>
  intro i ys ls w al ao y H K L q;have P:aF w gT 4 aB (ls.flatMap Lm.cs):=q.1.get 2;have O:=P.len;rw[Lm.len]at O;rw[eh co]at y;have av:ys.length=ls.length:=by rw[<-y];simp
  refine gZ.bJ _ _ _ _ _ _ _ _ _ _ (aP (aV co) ?_);refine aeo (m1:=m1) ah h (D:=D++ys.map eb) (bG _ M) (λae F ax W aC ad=>?_) ds.length 0 ds w co rfl (λB d _ z=>ag B d z) q;refine⟨aB,st,ys,ae,rfl,?_,H,K,⟨co,L⟩,λd z=>?_,co,by rw[av];exact W.2.g⟩
  .rw [y];exact ad.i4 [false,false,true,true]
  .obtain ⟨B,A⟩:=List.mem_iff_getElem?.1 z;have an:=(cV.1 A).1;exact LW (W.2.g B d A) co co
 |succ k ih=>
  intro i ys ls w al ao y H K L q;have P:aF w gT 4 aB (ls.flatMap Lm.cs):=q.1.get 2;have O:=P.len;rw[Lm.len]at O;have N:En.rd m1 (ms.map aY)∈D++ys.map eb++[b0 ds]:=bG _ (bG _ M);refine gZ.bJ _ _ _ _ _ _ _ _ _ _ (aM (aQ co) (q.1.aA (rO (q.1.rd _ N) h _ 3 co) ?_));rintro _ w1 ⟨t,rfl,t1,t2⟩ S;refine⟨_,rfl,S.kc (XT (S.rd _ N) h co t 4 co) ?_⟩;rintro _ w2 ⟨G,E,rfl,ac,g1,g2,aa,aj⟩ _ af;have T:=af.2 (.gr G E) (ct.2 aa) aj;have ak:=iU aa;refine⟨_,rfl,hF ((Jt (D:=D++ys.map eb++[b0 ds]++[.gr G E]) (w:=w2) h ap (cy:=4) co (bG _ N) (bN _ T.rd)).mono ?_)⟩;rintro _ w3 ⟨x0,x1,aD,Q,rfl,U,hf,_,az,ab⟩;have H4:=T.KA U λe I=>by rw[bY.1 I];exact hf
  refine⟨U.fr,_,_,rfl,H4.aK λaw w4 H5=>H5.ai λw5 H6=>?_⟩;have H7:=(H6.fN dD 7).i4 [true,true,true,true,false,true,true,true];refine afg (D:=D++ys.map eb) (ls:=ls) (xd:=Q) (gl:=E) (D1:=D++ys.map eb++[b0 ds]++[.gr G E]++[b0 Q]) co co h (bG _ M) co ⟨co,ac.gd (by simp[xs];omega)⟩ ac ab ak co (λd z=>?_) (λe I=>bG _ (bG _ I)) ws ws (λj F ar aq au H'=>?_) Q.length 0 ⟨none,0,0⟩ w5 co H7
  .obtain ⟨B,A⟩:=List.mem_iff_getElem?.1 z;have an:=(cV.1 A).1;exact LW (ab B d A) co co
  .have am:i<ls.length:=co
   refine ih (i+1) (ys++[j]) (ls.set i j.m) F (by simp;omega) (by simp;omega) ?_ ⟨?_,?_⟩ ?_ ?_ ⟨?_,by simpa using q.2⟩
   .rw [ez,y,dM];simp[am,List.take_set_of_le]
   .have:ys.length=(ls.take i).length:=by rw[<-y];simp
    simp only[a9,bI,dH,eT]at this ⊢;omega
   .intro C h;rcases aW.1 h with h|h
    .exact H.2 C h
    .rw [bY.1 h];exact ar
   .intro C h;rcases aW.1 h with h|h
    .exact K C h
    .rw [bY.1 h];exact aq
   .intro C h;rcases aW.1 h with h|h
    .exact L C h
    .rw [bY.1 h];exact au
   .rw [ez,<-cN];exact H'
def X3{w:J}{D:List En}{B m1:Sl}{xs ms:List Int}(T:∀k∈xs,aX k)(U:xs.length<=9223372036854775807)(W:∀k∈ms,aX k)(S:ms.length<=9223372036854775807){cy:Nat}(aa:cy<=40)(L:En.rd B (xs.map aY)∈D)(Q:En.rd m1 (ms.map aY)∈D)(H:LH F0 w w [] D):
  aj V OS #[B.v,m1.v,.i (cy:Int)] w λr Z=>IT w D cy r Z:=by
 refine gZ.aD _ _ _ w _ (H.aK λK w1 d=>?_);refine hF ((Jt (D:=D) (w:=w1) T U co L (bN _ d.rd)).mono ?_);rintro _ w2 ⟨Y,st,ls,y,rfl,q,z,P,N,A⟩;have E:=d.KA q λe O=>by rw[bY.1 O];exact z
 refine⟨q.fr,_,_,rfl,E.aK λx w3 F=>F.ai λC G=>?_⟩;have I:LH F0 w C (ih K x Y ls st y) (D++[b0 y]):=G.perm (.cons _ (List.perm_append_comm (l₁:=[_,_]) (l₂:=[En.g x])));refine aff W S Q co N (λi h j=>(A i h j).params.2) ls.length 0 [] ls C co P rfl ⟨ws,ws⟩ ws ws ⟨by simpa using I,λi h j=>?_,λb M=>bz d.fr.size (z b M)⟩;have:=A i h j;exact⟨this.kind,this.node,this.df,⟨this.params.1,by have:=this.params.2;omega⟩,this.bR,this.hints,this.nm⟩
section
variable {w:J} {D:List En} {b:Nat} {l:List UInt8} {at_:Nat} {bad:Bool}
def Zf{m:Int}(h:aX m):(bE m).length<21:=by
 have d:=h.1;have j:=h.2;have:(cc m.natAbs).length<=19:=zN co co;unfold bE
 grind
end
def MM(xs:List Int)(n:Int):g1 (xs++[n])=if xs=[]then bE n else g1 xs++32::bE n:=by
 induction xs with
 |nil=>rfl
 |cons h xs d=>
  rw[ag ws];cases xs with
  |nil=>rfl
  |cons j k=>
   rw[ag ws]at d;rw[i2,i2,sb,<-i2,d,sb];simp
def YJ(w:J):aj V OY #[] w λr h=>(∃t:Sl,r=ae t.v/\aF h cY 1 t (j3.map b3))/\af w h:=
 Lc.ok w _ ((bN (w:=w) [] ws).cZ (n:=6) (sz:=1) (cs:=j3.map b3) rfl md λj d=>⟨⟨_,rfl,d.get 0⟩,d.fr⟩)
def afY:∀i<6,j3[i]? =some (j3.getD i []):=md
def m6{n:Int}(h:aX n):(bE n).length<=20:=by have:=Zf h;omega
def u2:∀l:List Int,(∀h∈l,aX h)->(g1 l).length<=21 *l.length
 |[],_=>bm _
 |[n],d=>by have:=m6 (d n ws);show(bE n).length<=21;omega
 |n::m::r,d=>by have q:=m6 (d n ws);have k:=u2 (m::r) λh j=>d h (by simp at j ⊢;exact .inr j);rw[sb,a9,bI];simp only[bI]at k ⊢;omega
def h8{l:List Int}(h:∀d∈l,aX d):(cD l).length<=21 *l.length+2:=by have:=u2 l h;unfold cD;simp only[i2,bI,a9,dH];omega
structure j7(s:bO):Prop where
 kind:0<=s.kind/\s.kind<=5
 node:aX s.node
 df:aX s.df
 params:(∀x∈s.params,aX x)/\s.params.length<=1000000
 bR:(∀x∈s.bR,aX x)/\s.bR.length<=1000000
 hints:(∀x∈s.hints,aX x)/\s.hints.length<=1000000
 nm:s.nm.size<=1000000
def AT(s:bO):(hh s).length<=s.nm.size+1:=by
 unfold hh;split
 .simp
 .rw [dQ];omega
def Cg(k:Int):(gU k).length<=7:=by
 unfold gU;have d:∀i<6,(j3.getD i []).length<=7:=md
 by_cases h:k.toNat<6
 .exact d _ h
 .rw [List.getD_eq_getElem?_getD,List.getElem?_eq_none (by show 6<=_;omega)];simp
def wR{w:J}{s:Sl}{l:List Int}(B:bq w s l)(hi:∀d∈l,aX d)(K:l.length<=1000000):aj V OW #[s.v] w λr Y=>r=ae (.string (ba (cD l)))/\af w Y:=by
 have L:=bq.len B;refine uO.ok _ w _ ?_;have loop:∀(k i:Nat) (Y:J),i+k=l.length->af w Y->uO.L0 s (ba (40::g1 (l.take i))) (i:Int) Y λr Y=>r=ae (.string (ba (cD l)))/\af w Y:=by
  intro k;induction k with
  |zero=>
   intro i Y x f;have y:=u2 (l.take i) λd h=>hi d (hP h);rw[eT]at y;refine uO.bC _ _ _ _ _ (aP (aV co) ⟨?_,?_,f⟩)
   .rw [bQ,IntKind.max_i64];simp only[bI];show ¬(((_+1:Nat):Int)>_);omega
   .rw [show bh #[41]=ba [41]from rfl,cL,eh co];rfl
  |succ k H=>
   intro i Y x f;have j:l[i]? =some l[i]:=a' co;generalize l[i]=d at j;have h:=hi d (aG j);have y:=u2 (l.take i) λd h=>hi d (hP h);rw[eT]at y;have C:l.take (i+1)=l.take i++[d]:=by rw[dM,j];rfl
   have z:∀out:List UInt8,out.length<=30000000->out++bE d=40::g1 (l.take (i+1))->uO.S1 s (ba out) (i:Int) Y λr Y=>r=ae (.string (ba (cD l)))/\af w Y:=by
    intro out M F;refine⟨co,co,bq.cell (B.br f) j (by rw[bo]) λp _ E=>⟨d,E,(DA h Y).mono ?_⟩⟩;rintro _ I ⟨rfl,D⟩;have:=m6 h;refine⟨_,rfl,?_,?_⟩
    .rw [bQ,bQ,IntKind.max_i64];omega
    .rw [cL,F,bb _ co];exact H (i+1) I co (f.dN D)
   refine uO.bC _ _ _ _ _ (aM (aQ co) (aE (λq=>⟨?_,?_⟩) (λq=>z _ (by simp only[bI];omega) ?_)))
   .rw [bQ,IntKind.max_i64];simp only[bI];show ¬(((_+1:Nat):Int)>_);omega
   .rw [show bh #[32]=ba [32]from rfl,cL];refine z _ (by simp;omega) ?_;have G:l.take i≠[]:=λe=>(List.take_eq_nil_iff.1 e).elim (λA=>co) λA=>by rw[A]at x;simp at x
    rw[C,MM,ag G];simp
   .have q:i=0:=co
    subst q;rw[C];rfl
 exact loop l.length 0 w co (Fr.refl _ _)
def Jh{d:Sp}(h:j7 d.x){w:J}(y:wG w d):aj V OP #[d.v] w λr C=>r=ae (.string (ba (cM d.x)))/\af w C:=by
 have l1:=m6 h.node;have l2:=m6 h.df;have l3:=h8 h.params.1;have l4:=h8 h.hints.1;have l5:=h8 h.bR.1;have m3:=h.params.2;have m4:=h.hints.2;have m5:=h.bR.2;have aa:=AT d.x;have m7:=h.nm;have m8:=Cg d.x.kind;have H:bh #[32]=ba [32]:=rfl;refine Ez.aD _ _ _ _ _ _ _ w _ ((bN (w:=w) [d.pE,d.hE,d.lE] (by
  intro e I;simp only[aq,aL,aR]at I;rcases I with rfl|rfl|rfl
  .exact y.1
  .exact y.2.2
  .exact y.2.1)).aK λb w1 O=>?_)
 have G:∀N,N=ba (hh d.x)->Ez.bD b d.x.kind d.x.node d.x.df d.p d.x.nm d.l d.h N w1 λr C=>r=ae (.string (ba (cM d.x)))/\af w C:=by
  rintro _ rfl;refine O.ai λw2 P=>P.aA (DA h.node w2) ?_;rintro _ w3 rfl Q;refine⟨_,rfl,?_⟩;simp only[H,cL,bQ];refine⟨?_,Q.aA (DA h.df w3) ?_⟩
  .rw [IntKind.max_i64];simp only[bI,dH];omega
  rintro _ w4 rfl S;refine⟨_,rfl,?_⟩;simp only[cL,bQ];refine⟨?_,S.ai λw5 T=>T.aA (YJ w5) ?_⟩
  .rw [IntKind.max_i64];simp only[a9,bI,dH];omega
  rintro _ w6 ⟨t,rfl,Y⟩ D;obtain⟨B,K⟩:=Int.eq_ofNat_of_zero_le h.kind.1;have W:B<6:=by have:=h.kind.2;omega
  rw[K];refine⟨_,rfl,UT Y (afY B W) λp A=>⟨_,A,?_⟩⟩;have hw:j3.getD B []=gU d.x.kind:=by unfold gU;rw[K];rfl
  rw[hw]at A ⊢;simp only[H,cL,bQ];have fW:∀x:Nat,x<=100000000->¬((x:Int)>IntKind.i64.max):=λx hx=>by rw[IntKind.max_i64];omega
  refine⟨fW _ ?_,fW _ ?_,fW _ ?_,fW _ ?_,fW _ ?_,hF ((wR (l:=d.x.params) (D.getD 0) h.params.1 h.params.2).mono ?_)⟩
  case' refine_6=>
   rintro _ w7 ⟨rfl,j⟩;have L:=wX j A λh=>h;have E:=D.br j;refine⟨j,_,rfl,L,?_⟩;simp only[cL,bQ];refine⟨fW _ ?_,fW _ ?_,hF ((wR (l:=d.x.hints) (E.getD 1) h.hints.1 h.hints.2).mono ?_)⟩
  case' refine_6.refine_3=>
   rintro _ w8 ⟨rfl,k⟩;have M:=wX k L λh=>h;have F:=E.br k;refine⟨k,_,rfl,M,?_⟩;simp only[cL,bQ];refine⟨fW _ ?_,fW _ ?_,hF ((wR (l:=d.x.bR) (F.getD 2) h.bR.1 h.bR.2).mono ?_)⟩
  case' refine_6.refine_3.refine_3=>
   rintro _ w9 ⟨rfl,q⟩;have Z:=wX q M λh=>h;have U:=F.br q;refine⟨q,_,rfl,Z,?_⟩;simp only[cL,bQ];refine⟨fW _ ?_,?_,U.fr⟩
  case' refine_6.refine_3.refine_3.refine_2=>
   unfold cM;simp
  all_goals (simp only[a9,bI,dH];omega)
 exact jz (λz=>G _ (by unfold hh;rw[av (vd.1 z)];rfl)) (λz=>G _ (by unfold hh;rw[ag (λe=>z (vd.2 e)),jk]))
def abx{s:bO}(h:j7 s):(cM s).length<=70000000:=by have d:=m6 h.node;have j:=m6 h.df;have k:=h8 h.params.1;have q:=h8 h.hints.1;have w:=h8 h.bR.1;have x:=h.params.2;have y:=h.hints.2;have z:=h.bR.2;have A:=AT s;have B:=h.nm;have C:=Cg s.kind;unfold cM;simp only[a9,bI];omega
abbrev cO(ls:List (List UInt8)):List UInt8:=ls.flatMap (·++[10])
def Jk{w:J}{s:Sl}{ls:List (List UInt8)}(h:Rd w s (ls.map b3))(x:∀t∈ls,t.length<=1000000000)(C:ls.length<=1000000):
  aj V OT #[s.v] w λr j=>r=ae (.string (ba (cO ls)))/\af w j:=by
 have A:=h.1;simp only[gJ]at A;refine uN.ok _ w _ ?_;have loop:∀(k i:Nat),i+k=ls.length->(cO (ls.take i)).length<=i *2000000000->uN.L0 s (ba (cO (ls.take i))) (i:Int) w λr j=>r=ae (.string (ba (cO ls)))/\af w j:=by
  intro k;induction k with
  |zero=>
   intro i z _;refine uN.bC _ _ _ _ _ (aP (aV co) ⟨?_,Fr.refl _ _⟩);rw[eh co]
  |succ k B=>
   intro i z hlen;have d:ls[i]? =some ls[i]:=a' co;generalize ls[i]=t at d;have D:=x t (aG d);have q:cO (ls.take (i+1))=cO (ls.take i)++(t++[10]):=by rw[dM,d];simp[cO]
   refine uN.bC _ _ _ _ _ (aM (aQ co) ⟨co,co,Rd.get h (i:=i) (v:=b3 t) (by rw[ib,d];rfl) (by rw[bo]) λp _ y=>⟨_,y,?_,?_,?_⟩⟩)
   .rw [bQ,bQ,IntKind.max_i64];omega
   .rw [cL,bQ,IntKind.max_i64,a9];show ¬(((_+1:Nat):Int)>_);omega
   .rw [show bh #[10]=ba [10]from rfl,cL,cL,cN,<-q];show uN.L0 _ _ (ah .i64 _) _ _;rw[bb _ co];refine B (i+1) co ?_;rw[q,a9,a9];show _+(t.length+1)<=_;omega
 exact loop ls.length 0 co (by simp[cO])
abbrev ey(s:Sl)(xs:List UInt8):En:=.row cJ 1 s (xs.map cq)
section
variable {M:Nat->Prop} {w0 w:J} {L D:List En}
def Jc{s:Sl}{xs:List UInt8}(h:(ey s xs).P w):s.n=xs.length:=by have:=(show aF w cJ 1 s (xs.map cq)from h).len;simpa using this.symm
def _root_.Go.W.LH.IZ(H:LH M w0 w L D)(i:Nat){s:Sl}{xs:List UInt8}(hi:L[i]? =some (ey s xs))(t:List UInt8)(x:xs.length+t.length<=100000000000000){K:Sl->J->Prop}(q:∀s' Y,LH M w0 Y (L.set i (ey s' (xs++t))) D->K s' Y):∃(s':Sl) (Y:J),Sem.run V (Builtin.append_ #[dx,cY] dx #[s.v,.string (ba t)]) w=.ok s'.v Y/\K s' Y:=by have y:=bQ t;obtain⟨s',Y,h,d,j,k⟩:=I2 (ty:=dx) (aF.A5 (H.get i hi)) (ba t) co;rw[gC]at d;exact⟨s',Y,h,q s' Y (H.ha i (ey s' (xs++t)) hi j d.2 k)⟩
def _root_.Go.W.LH.wK(H:LH M w0 w L D)(i:Nat){s:Sl}{xs:List UInt8}(hi:L[i]? =some (ey s xs))(c:UInt8)(k:xs.length<=100000000000000){K:Sl->J->Prop}(h:∀s' Y,LH M w0 Y (L.set i (ey s' (xs++[c]))) D->K s' Y):dz w (.cells #[.int .u8 (c.toNat:Int)] cJ) λj=>∃(s':Sl) (Y:J),Sem.run V (Builtin.append_ #[dx,dx] dx #[s.v,.slice (some (nb w)) 1 1]) j=.ok s'.v Y/\K s' Y:=by have q:=Jc (H.get i hi);refine H.qd i jo hi (λs' Y d _ _=>h s' Y ?_) co;unfold ey;rw[ez];exact d
def _root_.Go.W.LH.aU(H:LH M w0 w L D)(i:Nat){s:Sl}{xs:List UInt8}(hi:L[i]? =some (ey s xs))(Q:dT∈D){u:Nat}(x:u<2^64)(A:xs.length<=10000000000000){K:aJ}(y:∀d h,LH M w0 h (L.set i (ey d (xs++cc u))) D->K (ae d.v) h):aj V O0 #[s.v,.u (u:Int),.i 10] w K:=by
 obtain⟨d1,d2,I⟩:=Ei x;have aa:=(cV.1 hi).1;refine Mu.ok _ _ _ w _ (aM rfl (aE (λO=>?_) (λO=>?_)))
 .rw [aN _ co];refine(RW u co w).mono ?_;rintro _ C ⟨rfl,e⟩;subst e;exact⟨_,rfl,H.IZ i hi _ co y⟩
 .refine H.nw (cs:=pR.toArray) λC ac j=>(JB co x C (j.rd _ Q).1).mono ?_;rintro _ w2 ⟨rfl,e⟩;subst e;have z:(L++[En.c w.heap.size pR.toArray.toList pL])[L.length]? =some (.c w.heap.size pR pL):=ws
  have Y:(En.c w.heap.size pR pL).P w2:=j.get L.length z;refine⟨_,rfl,co,co,?_⟩;rw[bo,Nat.sub_zero];have N:(if 24=0 then ab w.heap.size else(ab w.heap.size).add (0 *1))=(ab w.heap.size).add 0:=by rw[ag md]
  rw[N];refine(Jv (vs:=pR) (o:=0) (nd:=(cc u).length) Y rfl co I x).mono ?_;rintro _ E ⟨rfl,B,q,T⟩;have G:LH M w0 E ((L++[En.c w.heap.size pR.toArray.toList pL]).set L.length (.c w.heap.size B pL)) D:=j.ha L.length (.c w.heap.size B pL) z (q.fr.mono λad _ Z=>by simp[En.c,En.ob,Z]) (q.get 0) λb A=>.inl A;have U:=Kq T rfl co;have S:Bytes E ⟨some ((ab w.heap.size).add 0),(cc u).length,24⟩ (cc u):=GX (q.get 0) rfl co U;have k:=G.take L.length;rw[List.set_append_right _ _ (bm _),List.take_left' rfl]at k;refine⟨rfl,co,co,?_⟩;have hn:=Jc (k.get i hi);refine k.ap i jo (src:=⟨some ((ab w.heap.size).add 0),(cc u).length,24⟩) (news:=(cc u).map cq) hi S.2.2 ws (zA _) (by show(_+(cc u).length) *1<=_;omega) λd h F _ _=>y d h ?_;unfold ey;rw[ez];exact F
def _root_.Go.W.LH.aI(H:LH M w0 w L D)(i:Nat){s:Sl}{xs:List UInt8}(hi:L[i]? =some (ey s xs))(z:dT∈D){n:Int}(h:aX n)(N:xs.length<=1000000000000){K:aJ}(C:∀d q,LH M w0 q (L.set i (ey d (xs++bE n))) D->K (ae d.v) q):aj V Qe #[s.v,.i n,.i 10] w K:=by
 obtain⟨F,G,A⟩:=VI h;have E:=(cV.1 hi).1;have imp:aj V OZ #[s.v,.i n,.i 10] w λr q=>∃d,r=ae d.v/\LH M w0 q (L.set i (ey d (xs++bE n))) D:=by
  refine Mt.ok _ _ _ w _ (aE (λk=>?_) (λk=>?_))
  .rw [F k,o4 k];refine H.wK i hi 45 co λO B x=>x.aU i (xs:=xs++[45]) (by simp[E]) z A (by simp;omega) λy I j=>⟨_,rfl,y,rfl,?_⟩;rw[List.set_set,cN]at j;exact j
  .rw [G co,ux k];exact H.aU i hi z A co λy I j=>⟨_,rfl,y,rfl,j⟩
 refine UU.ok _ _ _ w _ (imp.mono ?_);rintro _ B ⟨d,rfl,x⟩;exact⟨_,rfl,C d B x⟩
end
def yd{w:J}{s:Sl}{l:List Int}(H:bq w s l)(hi:∀d∈l,aX d)(Q:l.length<=1000000)(C:lx w):aj V Pq #[s.v] w λr Y=>r=ae (.string (ba (cD l)))/\af w Y:=by
 have S:=bq.len H;have h:LH F0 w w [] [dT,.rd s (l.map aY)]:=bN _ (by
  intro e j;simp only[aq,aL,aR]at j;rcases j with rfl|rfl
  .exact C
  .exact H)
 have loop:∀(k i:Nat) (out:Sl) (Y:J),i+k=l.length->LH F0 w Y [ey out (40::g1 (l.take i))] [dT,.rd s (l.map aY)]->vr.L0 out s (s.n:Int) (i:Int) Y λr Y=>r=ae (.string (ba (cD l)))/\af w Y:=by
  intro k;induction k with
  |zero=>
   intro i out Y D h;have E:=u2 (l.take i) λd q=>hi d (hP q);rw[eT]at E;refine vr.bC _ _ _ _ _ _ (aP (aV co) (h.wK 0 rfl 41 (by simp only[bI];omega) λU K y=>⟨_,lD (aF.gK (y.get 0)),?_,y.fr⟩));rw[eh co];rfl
  |succ k N=>
   intro i out Y D h;have z:l[i]? =some l[i]:=a' co;generalize l[i]=d at z;have q:=hi d (aG z);have E:=u2 (l.take i) λd q=>hi d (hP q);rw[eT]at E;have I:l.take (i+1)=l.take i++[d]:=by rw[dM,z];rfl
   have G:∀(out:Sl) (xs:List UInt8) (x:J),xs.length<=30000000->xs++bE d=40::g1 (l.take (i+1))->LH F0 w x [ey out xs] [dT,.rd s (l.map aY)]->vr.S1 out d s (s.n:Int) (i:Int) x λr Y=>r=ae (.string (ba (cD l)))/\af w Y:=by intro out xs x T C A;refine A.aI 0 rfl ws q co λs3 P F=>⟨_,rfl,?_⟩;rw[bb _ co];rw[C]at F;exact N (i+1) s3 P co F
   refine vr.bC _ _ _ _ _ _ (aM (aQ co) ⟨co,co,bq.cell (h.getD 1) z (by rw[bo]) λp _ L=>⟨d,L,aE (λB=>h.wK 0 rfl 32 (by simp only[bI];omega) λO x A=>G O _ x (by simp;omega) ?_ A) (λB=>G out _ Y (by simp only[bI];omega) ?_ h)⟩⟩)
   .have M:l.take i≠[]:=λe=>(List.take_eq_nil_iff.1 e).elim (λj=>co) λj=>by rw[j]at D;simp at D
    rw[I,MM,ag M];simp
   .have B:i=0:=co
    subst B;rw[I];rfl
 exact vr.ok _ w _ (h.cZ (n:=1) (sz:=1) (cs:=[cq 40]) rfl md λK y=>loop l.length 0 _ K co y)
def iE:List (List UInt8)->List UInt8
 |[]=>[]
 |[p]=>p
 |p::d::r=>p++32::iE (d::r)
def MR(xs:List (List UInt8))(p:List UInt8):iE (xs++[p])=if xs=[]then p else iE xs++32::p:=by
 induction xs with
 |nil=>rfl
 |cons x xs h=>
  rw[ag ws];cases xs with
  |nil=>rfl
  |cons y d=>
   rw[ag ws]at h;show iE (x::((y::d)++[p]))=_;show x++32::iE ((y::d)++[p])=(x++32::iE (y::d))++32::p;rw[h];simp
section
variable {M:Nat->Prop} {w0 w:J} {D:List En}
def GO{s t:Sl}{xs:List UInt8}{ps:List (List UInt8)}(H:LH M w0 w [ey s xs] D)(E:En.rd t (ps.map b3)∈D)(hx:xs.length<=10000000000)(F:∀p∈ps,p.length<=100000000)(hl:ps.length<=10){K:aJ}(N:∀L Y,LH M w0 Y [ey L (xs++(iE ps++[10]))] D->K (ae L.v) Y):aj V Pg #[s.v,t.v] w K:=by
 have hn:t.n=ps.length:=by have:=(show Rd w t (ps.map b3)from H.rd _ E).1;simpa using this
 have I:∀i:Nat,(iE (ps.take i)).length<=100000001 *i:=by
  intro i;induction i with
  |zero=>exact bm _
  |succ i y=>
   by_cases Q:i<ps.length
   .have d:ps[i]? =some ps[i]:=a' Q;have hh:=F _ (aG d);rw[dM,d];show(iE (ps.take i++[ps[i]])).length<=_;rw[MR];split
    .omega
    .rw [a9,bI];omega
   .rw [eh co]at y ⊢;omega
 have loop:∀(k i:Nat) (out:Sl) (Y:J),i+k=ps.length->LH M w0 Y [ey out (xs++iE (ps.take i))] D->vo.L0 out t (t.n:Int) (i:Int) Y K:=by
  intro k;induction k with
  |zero=>
   intro i out Y x H;have:=I i;refine vo.bC _ _ _ _ _ _ (aP (aV co) (H.wK 0 rfl 10 (by rw[a9];omega) λT W z=>N T W ?_));rw[eh co,cN]at z;exact z
  |succ k y=>
   intro i out Y x H;have hj:=I i;have d:ps[i]? =some ps[i]:=a' co;generalize ps[i]=p at d;have aa:=F p (aG d);have G:ps.take (i+1)=ps.take i++[p]:=by rw[dM,d];rfl
   have B:∀(out:Sl) (ys:List UInt8) (h:J),ys.length<=20000000000->ys++p=xs++iE (ps.take (i+1))->LH M w0 h [ey out ys] D->vo.S1 out (ba p) t (t.n:Int) (i:Int) h K:=by intro out ys h hy P j;refine j.IZ 0 rfl p co λs3 Z A=>?_;rw[bb _ co];rw[P]at A;exact y (i+1) s3 Z co A
   refine vo.bC _ _ _ _ _ _ (aM (aQ co) ⟨co,co,Rd.get (H.rd _ E) (i:=i) (v:=b3 p) (by rw[ib,d];rfl) (by rw[bo]) λab _ O=>⟨_,O,aE (λq=>H.wK 0 rfl 32 (by rw[a9];omega) λU h j=>B U _ h (by simp only[a9,bI,dH];omega) ?_ j) (λq=>B out _ Y (by rw[a9];omega) ?_ H)⟩⟩)
   .have S:ps.take i≠[]:=λe=>(List.take_eq_nil_iff.1 e).elim (λC=>co) λC=>by rw[C]at x;simp at x
    rw[G,MR,ag S];simp
   .have q:i=0:=co
    subst q;rw[G];simp[iE]
 refine vo.ok _ _ w _ (loop ps.length 0 s w co ?_);rw[show iE (ps.take 0)=[]from rfl,ed];exact H
end
def abw(s:bO):iE [gU s.kind,bE s.node,bE s.df,hh s,cD s.params,cD s.hints,cD s.bR]=cM s:=rfl
section
variable {M:Nat->Prop} {w0 w:J} {D:List En}
def GQ{out s:Sl}{xs:List UInt8}{l:List Sp}(H:LH M w0 w [ey out xs] D)(I:dT∈D)(C:eI∈D)(hS:En.sp s l∈D)(hs:∀d∈l,j7 d.x)(hl:l.length<=100)(hx:xs.length<=1000000000){K:aJ}(hK:∀L Y,LH M w0 Y [ey L (xs++(bx l).flatMap eY)] D->K (ae L.v) Y):aj V Ph #[out.v,s.v] w K:=by
 have hn:=(eA.1 (H.rd _ hS)).n;have fl:∀i,(((bx l).take i).flatMap eY).length<=70000001 *i:=by
  intro i;induction i with
  |zero=>simp
  |succ i ih=>
   by_cases hi:i<l.length
   .have A:l[i]? =some l[i]:=a' hi;have au:=abx (hs _ (aG A));rw[dM,ib,A,de];simp only[a9,Option.map_some,Option.toList_some,cU,List.flatMap_nil,ed,eY,bI,dH];omega
   .rw [eh (by simp;omega)]at ih ⊢;omega
 have loop:∀(k i:Nat) (o:Sl) (Y:J),i+k=l.length->LH M w0 Y [ey o (xs++((bx l).take i).flatMap eY)] D->vp.a8 o s (s.n:Int) (i:Int) Y K:=by
  intro k;induction k with
  |zero=>
   intro i o Y hk H;refine vp.bJ _ _ _ _ _ _ (aP (aV co) (hK o Y ?_));rw[eh (by simp;omega)]at H;exact H
  |succ k ih=>
   intro i o Y hk H;have A:l[i]? =some l[i]:=a' co;generalize l[i]=d at A;have hd:=aG A;have q:=hs d hd;have ar:=fl i;refine vp.bJ _ _ _ _ _ _ (aM (aQ co) ⟨co,co,(eA.1 (H.rd _ hS)).get A λp y=>?_⟩);rw[bo];refine⟨_,_,_,_,_,_,_,y.c0,y.c1,y.c2,y.c3,y.c4,y.c5,y.c6,H.aK λb w1 H1=>?_⟩;have S1:∀af B,af=ba (hh d.x)->LH M w0 B ([ey o (xs++((bx l).take i).flatMap eY)]++[.g b]) D->vp.bW o b d.x.kind d.x.node d.x.df d.p d.x.nm d.l d.h af s (s.n:Int) (i:Int) B K:=by
    rintro _ B rfl F;obtain⟨j,hj⟩:=Int.eq_ofNat_of_zero_le q.kind.1;have am:j<6:=by have:=q.kind.2;omega
    have hw:j3.getD j []=gU d.x.kind:=by unfold gU;rw[hj];rfl
    have E:∀{Y:J},eI.P Y->Y.cell? ((Addr.mk 0 0 none).add (a5 (j:Int) *1))=some (.string (ba (gU d.x.kind))):=λG=>by rw[bo,Nat.mul_one,<-hw];exact tk G j am
    rw[hj];refine⟨co,by show(j:Int)<6;omega,F.ai λw3 W=>⟨_,E (W.rd _ C),W.aA (DB q.node (W.rd _ I).1) ?_⟩⟩;rintro _ w4 rfl Z;refine⟨_,rfl,E (Z.rd _ C),Z.aA (DB q.df (Z.rd _ I).1) ?_⟩;rintro _ w5 rfl N;have ac:=λ{Y:J} (H:LH M w0 Y ([ey o (xs++((bx l).take i).flatMap eY)]++[.g b]) D)=>(eA.1 (H.rd _ hS)).2 d hd;refine⟨_,rfl,E (N.rd _ C),N.aA (yd (l:=d.x.params) (ac N).1 q.params.1 q.params.2 (N.rd _ I)) ?_⟩;rintro _ w6 rfl O;refine⟨_,rfl,E (O.rd _ C),O.aA (yd (l:=d.x.hints) (ac O).2.2 q.hints.1 q.hints.2 (O.rd _ I)) ?_⟩;rintro _ w7 rfl Q;refine⟨_,rfl,E (Q.rd _ C),Q.aA (yd (l:=d.x.bR) (ac Q).2.1 q.bR.1 q.bR.2 (Q.rd _ I)) ?_⟩;rintro _ T rfl H8;refine⟨_,rfl,E (H8.rd _ C),?_⟩;obtain⟨z,S⟩:∃z,z=[gU d.x.kind,bE d.x.node,bE d.x.df,hh d.x,cD d.x.params,cD d.x.hints,cD d.x.bR]:=⟨_,rfl⟩;have al:(#[.string (ba (gU d.x.kind)),.string (ba (bE d.x.node)),.string (ba (bE d.x.df)),.string (ba (hh d.x)),.string (ba (cD d.x.params)),.string (ba (cD d.x.hints)),.string (ba (cD d.x.bR))]:Array aa)=(z.map b3).toArray:=by rw[S];rfl
    have an:z.length=7:=by rw[S];rfl
    rw[al];refine H8.cZ (n:=7) (sz:=1) (cs:=z.map b3) (by simp[an]) md λw9 H9=>?_;have ak:LH M w0 w9 [ey o (xs++((bx l).take i).flatMap eY),En.g b] (D++[.rd ⟨some (ab T.heap.size),7,7⟩ (z.map b3)]):=H9.freeze 2 (.rd ⟨some (ab T.heap.size),7,7⟩ (z.map b3)) rfl (aF.gK (H9.get 2)) λao hq=>oD hq;have U:LH M w0 w9 ([En.g b]++[ey o (xs++((bx l).take i).flatMap eY)]) (D++[.rd ⟨some (ab T.heap.size),7,7⟩ (z.map b3)]):=ak.perm (List.Perm.swap _ _ _);refine⟨_,EZ U,GO (s:=o) (t:=⟨some (ab T.heap.size),7,7⟩) (xs:=xs++((bx l).take i).flatMap eY) (ps:=z) U.part (dL _ (bY.2 rfl)) (by rw[a9];omega) ?_ co λL ap ad=>⟨ad.fr,L,rfl,?_⟩⟩
    .have l1:=m6 q.node;have l2:=m6 q.df;have l3:=h8 q.params.1;have l4:=h8 q.hints.1;have l5:=h8 q.bR.1;have m3:=q.params.2;have m4:=q.hints.2;have m5:=q.bR.2;have aw:=AT d.x;have m7:=q.nm;have m8:=Cg d.x.kind;intro p y;rw[S]at y;simp only[aq,aL,aR]at y;rcases y with rfl|rfl|rfl|rfl|rfl|rfl|rfl<;>omega
    .have ah:=(U.zU ad λe he ao hq=>.inr ⟨e,he,hq⟩).forget D λe he=>bG _ he;rw[bb _ co];refine ih (i+1) L ap co ?_;have et:xs++((bx l).take (i+1)).flatMap eY=xs++((bx l).take i).flatMap eY++(iE z++[10]):=by rw[S,abw,dM,ib,A];simp[eY]
     rw[et];exact(ah.perm (List.Perm.swap _ _ _)).take 1
   exact jz (λG=>H1.ai λB F=>S1 _ B (by unfold hh;rw[av (vd.1 G)];rfl) F) (λG=>H1.ai λB F=>S1 _ B (by unfold hh;rw[ag (λe=>G (vd.2 e)),jk]) F)
 refine vp.aD _ _ w _ (loop l.length 0 out w co ?_);rw[List.take_zero,List.flatMap_nil,ed];exact H
def acS{s:Sl}{l:List Sp}(h:fB w s l)(j:∀d∈l,j7 d.x)(L:l.length<=10)(y:lx w)(H:eI.P w)(G:ye (bx l)=0):
  aj V F7 #[.agg #[(⟨none,0,0⟩:Sl).v,s.v]] w λr K=>r=ae (.tuple #[.string (ba ((bx l).flatMap eY)),.i 0])/\af w K:=by
 have F:∀d∈l,mq d:=λd q=>⟨by have:=(j d q).params.2;omega,by have:=(j d q).bR.2;omega,by have:=(j d q).hints.2;omega⟩;refine sP.aD _ _ w _ ((bN (w:=w) [dT,eI,.sp s l] (by
  intro e C;simp only[aq,aL,aR]at C;rcases C with rfl|rfl|rfl
  .exact y
  .exact H
  .exact eA.2 h)).aK λb N z=>z.aA (aaL co F (eA.1 (z.getD 2))) ?_)
 rintro _ O rfl D;refine⟨_,rfl,dA (λh=>absurd G h) (λ_=>sP.bJ _ _ _ _ _ _ _ _ _ (aP rfl ?_))⟩;have k:=D.fN cJ 1;refine⟨_,EZ k,GQ (xs:=[]) k.part ws ws ws j co ws λI Q A=>⟨A.fr,I,rfl,?_⟩⟩;have B:=k.zU A λe y M E=>.inr ⟨e,y,E⟩;exact⟨_,lD (aF.gK (B.get 1)),rfl,B.fr⟩
end
namespace KD
noncomputable abbrev bD:=ak (ay V Tryz.f9 [] [1,2]) [5] [(3,.v [.st]),(4,.v [.I]),(5,.v [.st])]
noncomputable abbrev t1:=ao bD
def aD:=az t1 FR []
end KD
namespace xi
abbrev P0:Ps:=[(2,.v [.I]),(3,.v [.I]),(4,.v [.I]),(11,.l [.s,.s] e2),(12,.v [.s]),(13,.v [.I]),(14,.v [.I])]
noncomputable def cv:=bg (ay V Tryz.f3 [(12,lr 12)] [11,15,18,22]) [0,1,1,1,4] P0
noncomputable abbrev t1:=bf cv
noncomputable abbrev cb:=ak t1 [2,2,1,1,4] P0
noncomputable abbrev t2:=ao cb
noncomputable abbrev cX:=ak t2 [0,1,3,1,1,1,6] []
noncomputable abbrev t3:=ao cX
noncomputable abbrev hW:=ak t3 [13] [(12,.v [.s]),(19,.v [.I]),(20,.v [.s])]
noncomputable abbrev t4:=ao hW
noncomputable abbrev jF:=ak t4 [12] [(4,.v [.I]),(12,.v [.s]),(19,.v [.I]),(20,.v [.s])]
noncomputable abbrev t5:=ao jF
noncomputable abbrev fU:=ak t5 [7] [(2,.v [.I]),(3,.v [.I]),(4,.v [.I]),(12,.v [.s])]
noncomputable abbrev t6:=ao fU
def dO:=bj t6 cv
noncomputable abbrev bD:=ak t6 [4] [(2,.v [.I]),(3,.v [.I]),(4,.v [.I]),(11,.l [.s,.s] e2),(12,.v [.s]),(13,.v [.I])]
noncomputable abbrev t7:=ao bD
def aD:=az t7 FQ [.s,.s,.I,.I,.I]
end xi
def nj:bO:=⟨0,-1,0,[0],ba [],[1],[]⟩
def xV:bO:=⟨5,0,0,[],ba [],[-3,4],[0,2]⟩
def xb{n:Int}(h:0<=n)(d:n<10):bE n=[gY n.natAbs]:=by unfold bE;rw[ag co,m7 co]
def Kn{n:Int}(h:n<0)(d:-10<n):bE n=[45,gY n.natAbs]:=by unfold bE;rw[av h,m7 co]
def abQ:eY nj=[103,97,116,101,32,45,49,32,48,32,45,32,40,48,41,32,40,41,32,40,49,41,10]:=by have h:bE (-1)=[45,49]:=Kn md md;have d:bE 0=[48]:=xb md md;have j:bE 1=[49]:=xb md md;show(gU 0++32::(bE (-1)++32::(bE 0++32::([45]++32::((40::bE 0++[41])++32::([40,41]++32::(40::bE 1++[41])))))))++[10]=_;rw[h,d,j];rfl
def abR:eY xV=[114,101,115,111,108,118,101,32,48,32,48,32,45,32,40,41,32,40,48,32,50,41,32,40,45,51,32,52,41,10]:=by have j:bE (-3)=[45,51]:=Kn md md;have d:bE 0=[48]:=xb md md;have h:bE 2=[50]:=xb md md;have k:bE 4=[52]:=xb md md;show(gU 5++32::(bE 0++32::(bE 0++32::([45]++32::([40,41]++32::((40::(bE 0++32::bE 2)++[41])++32::(40::(bE (-3)++32::bE 4)++[41])))))))++[10]=_;rw[j,d,h,k];rfl
def abU:ye [nj,nj,nj,xV]=0:=md
def Aw:j7 nj/\j7 xV:=by constructor<;>exact⟨md,md,md,⟨md,md⟩,⟨md,md⟩,⟨md,md⟩,md⟩
def abS(a l:List UInt8):ba (a++(a++(a++(l++[]))))=ba a++ba a++ba a++ba l:=by simp only[cL,ed,cN]
def Jy{w:J}(S:lx w)(U:eI.P w):aj V FR #[] w λr w'=>r=ae (.bool true)/\af w w':=by
 refine KD.aD w _ ((bN (w:=w) [dT,eI] (by
  intro e D;simp only[aq,aL,aR]at D;rcases D with rfl|rfl
  .exact S
  .exact U)).cZ (n:=2) (sz:=1) (cs:=[.i 0,.i 2]) rfl md λE F=>F.cZ (n:=2) (sz:=1) (cs:=[.i (-3),.i 4]) rfl md λw2 L=>L.aK λb1 w3 O=>O.ai λy G=>G.cZ (n:=1) (sz:=1) (cs:=[.i 0]) rfl md λz H=>H.cZ (n:=1) (sz:=1) (cs:=[.i 1]) rfl md λac I=>I.aK λb2 ad K=>K.ai λaa M=>?_)
 let j:List Sp:=[⟨nj,⟨some (ab y.heap.size),1,1⟩,⟨some (ab z.heap.size),1,1⟩,⟨none,0,0⟩⟩,⟨nj,⟨some (ab y.heap.size),1,1⟩,⟨some (ab z.heap.size),1,1⟩,⟨none,0,0⟩⟩,⟨nj,⟨some (ab y.heap.size),1,1⟩,⟨some (ab z.heap.size),1,1⟩,⟨none,0,0⟩⟩,⟨xV,⟨none,0,0⟩,⟨some (ab E.heap.size),2,2⟩,⟨some (ab w.heap.size),2,2⟩⟩]
 refine M.k6 λd _ h W=>?_;have Y:bq d ⟨some (ab w.heap.size),2,2⟩ [0,2]:=aF.gK (h.get 0);have Z:bq d ⟨some (ab E.heap.size),2,2⟩ [-3,4]:=aF.gK (h.get 1);have B:bq d ⟨some (ab y.heap.size),1,1⟩ [0]:=aF.gK (h.get 3);have C:bq d ⟨some (ab z.heap.size),1,1⟩ [1]:=aF.gK (h.get 4);have q:bq d ⟨none,0,0⟩ []:=Rd.nil d;have sp:fB d ⟨some (ab aa.heap.size),4,4⟩ j:=⟨lX (cs:=j.flatMap Sp.c) W rfl,λA k=>by
  simp only[j,aq,aL,aR]at k;rcases k with rfl|rfl|rfl|rfl
  .exact ⟨B,C,q⟩
  .exact ⟨B,C,q⟩
  .exact ⟨B,C,q⟩
  .exact ⟨q,Z,Y⟩⟩
 have T:∀A∈j,j7 A.x:=λA k=>by
  simp only[j,aq,aL,aR]at k;rcases k with rfl|rfl|rfl|rfl
  .exact Aw.1
  .exact Aw.1
  .exact Aw.1
  .exact Aw.2
 have Q:=acS (w:=d) sp T (Nat.le_of_ble_eq_true rfl) (h.rd dT (.head _)) (h.rd eI (.tail _ (.head _))) abU;refine h.aA Q ?_;rintro _ ag rfl N;refine⟨_,_,rfl,aM rfl ⟨md,md,md,?_,N.fr⟩⟩;have e:(bx j).flatMap eY=eY nj++(eY nj++(eY nj++(eY xV++[]))):=rfl;rw[e,abQ,abR];exact congrArg (λb=>Ending.returned (.bool b)) (beq_iff_eq.2 (congrArg ByteArray.toList (abS [103,97,116,101,32,45,49,32,48,32,45,32,40,48,41,32,40,41,32,40,49,41,10] [114,101,115,111,108,118,101,32,48,32,48,32,45,32,40,41,32,40,48,32,50,41,32,40,45,51,32,52,41,10])))
namespace gx
abbrev rl(w:J):aJ:=λr d=>r=ae (.bool true)/\af w d
def Ab{y:Lx}(d:hC 40 y)(C:pW y):p0 y.p/\(e9 y.p).length<=30000/\IM y:=by
 obtain⟨g1,g2⟩:=d.g;obtain⟨A,hE,G⟩:=C.g.aar (by simp[xs];omega);have aa:(xs y.gl).length=y.gl.length:=by simp[xs]
 have h1:=km y.hy d.h.2;have h2:=km y.cl d.c.2;have h3:=ek y.hy.length (by have:=d.h.1;omega);have h4:=ek y.cl.length (by have:=d.c.1;omega);have h5:=ek (di (xs y.gl)).length co;have h6:=da (((bx y.ds).length:Nat):Int) (by have:=d.s.1;simp;omega);have D:∀(l:List Sp),(∀j∈l,fC 40 j.x)->((bx l).flatMap fb).length<=1400 *l.length:=λl=>by
  induction l with
  |nil=>intro _;exact bm _
  |cons j l H=>
   intro B;have a:=B j ws;have b:=H λe E=>B e (by simp[E]);have I:=da _ a.k.1;have K:=da _ a.k.2.1;have L:=da _ a.k.2.2;have M:=km _ a.p.2;have N:=km _ a.l.2;have O:=km _ a.h.2;have P:=a.p.1;have Q:=a.l.1;have S:=a.h.1;have T:=a.t;have U:=ek j.x.params.length co;have W:=ek j.x.bR.length co;have Y:=ek j.x.hints.length co;have Z:=ek (bl j.x.nm).length (by rw[dQ];omega);have e8:=dQ j.x.nm;show((j.x::bx l).flatMap fb).length<=_;rw[cU,a9,bI];unfold fb at b ⊢;unfold dS ea at b ⊢;simp only[a9]at b ⊢;omega
 have h8:=D y.ds d.s.2;have hlen:(e9 y.p).length<=30000:=by have:=C.n;have:=d.h.1;have:=d.c.1;have:=d.s.1;unfold e9 Lx.p;dsimp only;unfold ea dS g';simp only[a9];omega
 refine⟨⟨A.w,by show(xs y.gl).length<=4096;omega,G,d.h.2,d.c.2,λs F=>?_⟩,hlen,d.le (by omega:40<=100) |>.k,d.h.2,d.c.2,λj q=>?_,A.z,co⟩
 .obtain ⟨j,q,rfl⟩:=bK.1 F;have a:=d.s.2 j q;exact⟨a.k,a.p.2,a.l.2,a.h.2⟩
 .have a:=d.s.2 j q;exact⟨a.k,a.p.2,a.l.2,a.h.2⟩
def h'{D:List En}{w:J}{e:En}(h:e∈D):((∀d∈D,d.P w)->e.P w)/\∀b∈e.fp,∃d∈D,b∈d.fp:=⟨λk=>k e h,λb j=>⟨e,h,j⟩⟩
end gx
def hJ(n:Nat):UInt8:=UInt8.ofNat (if n<10 then 48+n else 87+n)
def eK(b:List UInt8):List UInt8:=b.flatMap λc=>[hJ (c.toNat / 16),hJ (c.toNat%16)]
def qu(b:List UInt8):(eK b).length=2 *b.length:=by
 unfold eK;induction b with
 |nil=>rfl
 |cons c b d=>rw[cU,a9,d];simp only[bI,dH];omega
def Mf{b:List UInt8}{i:Nat}{c:UInt8}(h:b[i]? =some c):eK (b.take (i+1))=eK (b.take i)++[hJ (c.toNat / 16),hJ (c.toNat%16)]:=by rw[dM,h];unfold eK;simp
def zO{n:Nat}(h:n<16):(bh #[48,49,50,51,52,53,54,55,56,57,97,98,99,100,101,102])[n]? =some (hJ n):=by
 have:n=0\/n=1\/n=2\/n=3\/n=4\/n=5\/n=6\/n=7\/n=8\/n=9\/n=10\/n=11\/n=12\/n=13\/n=14\/n=15:=co
 (repeat' rcases this with rfl|this)<;>(try subst this)<;>rfl
def WY:(List.range 256).all (λn=>kN .u8 (n:Int) 15==((n%16:Nat):Int))=true:=by kernel_rfl
def Mi{n:Nat}(h:n<16):Go.Lib.indexByte [48,49,50,51,52,53,54,55,56,57,97,98,99,100,101,102] (hJ n)=(n:Int):=by
 have:n=0\/n=1\/n=2\/n=3\/n=4\/n=5\/n=6\/n=7\/n=8\/n=9\/n=10\/n=11\/n=12\/n=13\/n=14\/n=15:=co
 (repeat' rcases this with rfl|this)<;>(try subst this)<;>decide
def aaA:(List.range 256).all (λn=>ah .u8 (nX .i64 (ah .i64 (((n / 16:Nat):Int) *2^4)) ((n%16:Nat):Int))==(n:Int))=true:=by kernel_rfl
def Dt(l:List UInt8)(i:Nat):(ba l)[i]? =l[i]?:=by
 by_cases d:i<l.length
 .rw [a' d];exact getElem?_pos (ba l) i (by rw[bQ];exact d)
 .rw [List.getElem?_eq_none co];exact getElem?_neg (ba l) i (by rw[bQ];omega)
section
variable {w:J}
def acU{s:Sl}{b:List UInt8}(h:Bytes w s b)(Q:b.length<=10000000):aj V Pn #[s.v] w λr Y=>r=ae (.string (ba (eK b)))/\af w Y:=by
 have S:=Bytes.len h;have d:LH F0 w w [] [.rd s (b.map cq)]:=bN _ (by intro e H;rw[bY.1 H];exact h)
 have loop:∀(k i:Nat) (out:Sl) (Y:J),i+k=b.length->LH F0 w Y [.by out (eK (b.take i))] [.rd s (b.map cq)]->vq.L0 out s (s.n:Int) (i:Int) Y λr Y=>r=ae (.string (ba (eK b)))/\af w Y:=by
  intro k;induction k with
  |zero=>
   intro i out Y I d;refine vq.bC _ _ _ _ _ _ (aP (aV co) ⟨_,lD (aF.gK (d.get 0)),?_,d.fr⟩);rw[eh co]
  |succ k M=>
   intro i out Y I d;have q:b[i]? =some b[i]:=a' co;generalize b[i]=c at q;have G:=c.toNat_lt;have B:Int.fdiv (c.toNat:Int) (2^(4))=((c.toNat / 16:Nat):Int):=by rw[Int.fdiv_eq_ediv_of_nonneg _ md];omega
   have C:kN .u8 (c.toNat:Int) 15=((c.toNat%16:Nat):Int):=eq_of_beq (fa.1 WY c.toNat (List.mem_range.2 G));refine vq.bC _ _ _ _ _ _ (aM (aQ co) ⟨co,co,Rd.get (d.getD 0) (i:=i) (v:=cq c) (by rw[ib,q];rfl) (by rw[bo]) λp _ L=>⟨_,L,d.dr λN z=>?_⟩⟩);rw[B,C];refine⟨co,_,zO co,co,_,zO co,z.cZ (e:=cJ) (sz:=1) (n:=2) (cs:=[hJ (c.toNat / 16),hJ (c.toNat%16)].map cq) rfl md λT x=>?_⟩;have hlen:=qu (b.take i);rw[eT]at hlen;refine x.Dm 0 (s:=out) (src:=⟨some (ab N.heap.size),2,2⟩) (m:=[hJ (c.toNat / 16),hJ (c.toNat%16)]) rfl (qG (x.get 1)).rd (by simp only[bI,dH];omega) λP O A=>?_;rw[bb _ co];refine M (i+1) P O co ?_;rw[Mf q];exact A.take 1
 have D:ah .i64 (2 *(s.n:Int))=((2 *b.length:Nat):Int):=by rw[aN _ co];omega
 refine vq.ok _ w _ ?_;rw[D];obtain⟨o,j,E,_,F⟩:=d.AD (bs:=[]) jo (2 *b.length) co (K:=λo j=>vq.L0 o s (s.n:Int) 0 j λr Y=>r=ae (.string (ba (eK b)))/\af w Y) (λo j _ y=>loop b.length 0 o j co y) ws;exact⟨o,j,E,F⟩
def Yi{s:Sl}{b:List UInt8}(h:Bytes w s b)(N:b.length<=10000000):aj V OV #[s.v] w λr Y=>r=ae (.string (ba (eK b)))/\af w Y:=by
 have O:=Bytes.len h;have d:LH F0 w w [] [.rd s (b.map cq)]:=bN _ (by intro e E;rw[bY.1 E];exact h)
 have loop:∀(k i:Nat) (out:Sl) (Y:J),i+k=b.length->LH F0 w Y [.by out (eK (b.take i))] [.rd s (b.map cq)]->xA.L0 s out (i:Int) Y λr Y=>r=ae (.string (ba (eK b)))/\af w Y:=by
  intro k;induction k with
  |zero=>
   intro i out Y y d;refine xA.bC _ _ _ _ _ (aP (aV co) ⟨_,lD (aF.gK (d.get 0)),?_,d.fr⟩);rw[eh co]
  |succ k G=>
   intro i out Y y d;have x:b[i]? =some b[i]:=a' co;generalize b[i]=c at x;have M:=c.toNat_lt;have A:ah .i64 (c.toNat:Int)=(c.toNat:Int):=aN _ co;have C:ah .i64 (bS (c.toNat:Int) 16)=((c.toNat / 16:Nat):Int):=by rw[show bS (c.toNat:Int) 16=((c.toNat / 16:Nat):Int)from rfl];exact aN _ co
   have D:cp (c.toNat:Int) 16=((c.toNat%16:Nat):Int):=rfl;have gt:∀{Y:J} {K:Addr->Prop},Rd Y s (b.map cq)->(∀p,Y.cell? (p.add ((i:Int).toNat *1))=some (cq c)->K p)->dV s.a K:=λF y=>Rd.get F (i:=i) (v:=cq c) (by rw[ib,x];rfl) (by rw[bo]) λp _ j=>y p j;refine xA.bC _ _ _ _ _ (aM (aQ co) (d.dr λH q=>⟨co,co,gt (q.getD 0) λp j=>⟨_,j,?_⟩⟩));rw[A,C];refine⟨co,_,zO co,co,co,gt (q.getD 0) λp j=>⟨_,j,?_⟩⟩;rw[A,D];refine⟨co,_,zO co,q.cZ (e:=cJ) (sz:=1) (n:=2) (cs:=[hJ (c.toNat / 16),hJ (c.toNat%16)].map cq) rfl md λP z=>?_⟩;have hlen:=qu (b.take i);rw[eT]at hlen;refine z.Dm 0 (s:=out) (src:=⟨some (ab H.heap.size),2,2⟩) (m:=[hJ (c.toNat / 16),hJ (c.toNat%16)]) rfl (qG (z.get 1)).rd (by simp only[bI,dH];omega) λL I B=>?_;rw[bb _ co];refine G (i+1) L I co ?_;rw[Mf x];exact B.take 1
 exact xA.ok _ w _ (loop b.length 0 _ w co (d.fN cJ 1))
def acX{b:List UInt8}(hl:b.length<=10000000):aj V Pr #[.string (ba (eK b))] w λr Y=>∃s:Sl,r=ae (.tuple #[s.v,.bool true])/\e6 Y s b/\af w Y/\∀h∈ax s,w.heap.size<=h:=by
 have D:(ba (eK b)).size=2 *b.length:=by rw[bQ,qu]
 have d:LH F0 w w [] []:=bN [] ws;have loop:∀(k i:Nat) (out:Sl) (Y:J),i+k=b.length->LH F0 w Y [.by out (b.take i)] []->vt.L0 (ba (eK b)) out ((2 *i:Nat):Int) Y λr Y=>∃s:Sl,r=ae (.tuple #[s.v,.bool true])/\e6 Y s b/\af w Y/\∀h∈ax s,w.heap.size<=h:=by
  intro k;induction k with
  |zero=>
   intro i out Y W d;rw[eh co]at d;exact vt.bC _ _ _ _ _ (aP (aV co) ⟨out,rfl,qG (d.get 0),d.fr,λh Z=>(d.new _ (aG (i:=0) rfl) h Z).resolve_right id⟩)
  |succ k ih=>
   intro i out Y W d;have A:b[i]? =some b[i]:=a' co;have C:b=b.take i++b[i]::b.drop (i+1):=by conv=>lhs;rw[<-List.take_append_drop i b,dw co]
   generalize b[i]=c at A C;have U:=c.toNat_lt;have B:eK b=eK (b.take i)++([hJ (c.toNat / 16),hJ (c.toNat%16)]++eK (b.drop (i+1))):=by
    conv=>lhs;rw[C]
    unfold eK;rw[de,cU]
   have hlen:=qu (b.take i);rw[eT]at hlen;have P:(ba (eK b))[2 *i]? =some (hJ (c.toNat / 16)):=by rw[Dt,B,List.getElem?_append_right co,show 2 *i - (eK (b.take i)).length=0 by omega];rfl
   have Q:(ba (eK b))[2 *i+1]? =some (hJ (c.toNat%16)):=by rw[Dt,B,List.getElem?_append_right co,show 2 *i+1 - (eK (b.take i)).length=1 by omega];rfl
   have z:ah .i64 (((2 *i:Nat):Int)+1)=((2 *i+1:Nat):Int):=by rw[aN _ co];omega
   refine vt.bC _ _ _ _ _ (aM (aQ co) (d.dr λx G=>⟨co,_,(by rw[bo];exact P),by rw[z];omega,_,(by rw[z,bo];exact Q),(Hx _ _ x).mono ?_⟩));rintro _ E ⟨rfl,j⟩;rw[j];clear j;refine⟨_,rfl,(Hx _ _ x).mono ?_⟩;rintro _ E ⟨rfl,j⟩;rw[j];clear j;refine⟨_,rfl,?_⟩;have M:Go.Lib.indexByte (bl (bh #[48,49,50,51,52,53,54,55,56,57,97,98,99,100,101,102])) (hJ (c.toNat / 16))=((c.toNat / 16:Nat):Int):=Mi co;have N:Go.Lib.indexByte (bl (bh #[48,49,50,51,52,53,54,55,56,57,97,98,99,100,101,102])) (hJ (c.toNat%16))=((c.toNat%16:Nat):Int):=Mi co;rw[M,N];refine aP (aV co) (aP (aV co) ?_);have O:ah .u8 (nX .i64 (ah .i64 (((c.toNat / 16:Nat):Int) *2^4)) ((c.toNat%16:Nat):Int))=(c.toNat:Int):=eq_of_beq (fa.1 aaA c.toNat (List.mem_range.2 U));rw[O];refine G.cZ (e:=cJ) (sz:=1) (n:=1) (cs:=[cq c]) rfl md λE y=>?_;refine y.Dm 0 (s:=out) (src:=⟨some (ab x.heap.size),1,1⟩) (m:=[c]) rfl (qG (y.get 1)).rd (by simp only[eT,bI,dH];omega) λaa w5 H=>?_;rw[show ah .i64 (((2 *i:Nat):Int)+2)=((2 *(i+1):Nat):Int)by rw[aN _ co];omega];refine ih (i+1) aa w5 co ?_;rw[dM,A];exact H.take 1
 have I:(cp ((ba (eK b)).size:Int) 2 !=0)=false:=by rw[D,show cp ((2 *b.length:Nat):Int) 2=(((2 *b.length)%2:Nat):Int)from rfl,Nat.mul_mod_right];rfl
 have L:ah .i64 (bS ((ba (eK b)).size:Int) 2)=(b.length:Int):=by rw[D,show bS ((2 *b.length:Nat):Int) 2=(((2 *b.length) / 2:Nat):Int)from rfl,Nat.mul_div_cancel_left _ co];exact aN _ co
 refine vt.ok _ w _ (aP I ?_);rw[L];obtain⟨o,q,S,_,T⟩:=d.AD (bs:=[]) jo b.length co (K:=λo q=>vt.L0 (ba (eK b)) o 0 q λr Y=>∃s:Sl,r=ae (.tuple #[s.v,.bool true])/\e6 Y s b/\af w Y/\∀h∈ax s,w.heap.size<=h) (λo q _ F=>loop b.length 0 o q co F) ws;exact⟨o,q,S,T⟩
end
structure Pp where
 ls:List Lp
 ss:List bO
def Pp.e:Pp:=⟨[],[]⟩
def qy:List Lp->Int
 |[]=>0
 |d::r=>if nh d≠0 then nh d else qy r
def iH(p:Pp):Int:=if qy p.ls≠0 then qy p.ls else jA p.ss 0 (p.ls.length:Int)
def Na:∀l:List Lx,jL l=qy (l.map Lx.p)
 |[]=>rfl
 |d::r=>by show(if gI d≠0 then gI d else jL r)=if nh d.p≠0 then nh d.p else qy (r.map Lx.p);rw[Na r,abf]
def cF(ls:List Lx)(ds:List Sp):Pp:=⟨ls.map Lx.p,bx ds⟩
def A'(ls:List Lx)(ds:List Sp):lR ls (bx ds)=iH (cF ls ds):=by unfold lR iH cF;rw[Na];simp only[gJ]
def h7(l:List Lp):List UInt8:=l.flatMap λd=>ea (e9 d)
def g7(p:Pp):List UInt8:=cd (p.ls.length:Int)++(h7 p.ls++g' p.ss)
def FA:Option Lp->RS->Option (List Lp)×RS->Option (List Lp)×RS
 |none,s,_=>(none,s)
 |some x,_,r=>(r.1.map (x::·),r.2)
def oz:Nat->RS->Option (List Lp)×RS
 |0,st=>(some [],st)
 |n+1,st=>FA (xQ (fZ st).1) (fZ st).2 (oz n (fZ st).2)
def ady(n:Nat)(st:RS):oz (n+1) st=FA (xQ (fZ st).1) (fZ st).2 (oz n (fZ st).2):=by conv=>lhs;unfold oz
def adz{n:Nat}{st:RS}{x:Lp}(h:xQ (fZ st).1=some x):oz (n+1) st=((oz n (fZ st).2).1.map (x::·),(oz n (fZ st).2).2):=by rw[ady,h,FA]
def Ba(bs:List UInt8):RS:=(oz (bT ⟨bs,0⟩).1.toNat (bT ⟨bs,0⟩).2).2
def GZ(bs:List UInt8):Option Pp:=
 if(bT ⟨bs,0⟩).1<0\/4096<(bT ⟨bs,0⟩).1 then none else
 match(oz (bT ⟨bs,0⟩).1.toNat (bT ⟨bs,0⟩).2).1 with
 |none=>none
 |some l=>match(sS bs.length (Ba bs)).1 with
  |none=>none
  |some d=>if sQ (sS bs.length (Ba bs)).2=0 then some ⟨l,d⟩else none
def Sy:∀{l:List Lp} (_:∀x∈l,p0 x) (_:(h7 l).length<=1000000000000) (r:List UInt8),oz l.length ⟨h7 l++r,0⟩=(some l,⟨r,0⟩)
 |[],_,_,r=>rfl
 |x::l,W,h,r=>by
  have e:h7 (x::l)=ea (e9 x)++h7 l:=rfl;have g:=zZ (e9 x);rw[e,a9]at h;have d:fZ ⟨h7 (x::l)++r,0⟩=(e9 x,⟨h7 l++r,0⟩):=by rw[e,cN];exact Bi _ co _
  rw[bI,adz (x:=x) (by rw[d];exact abi (W x ws) co),d];dsimp only;rw[Sy (λk j=>W k (by simp[j])) co];rfl
def ac4{p:Pp}(W:∀y∈p.ls,p0 y)(z:p.ls.length<=4096)(x:∀s∈p.ss,nS s)(j:(g7 p).length<=1000000000000):GZ (g7 p)=some p:=by
 have d:bT ⟨g7 p,0⟩=((p.ls.length:Int),⟨h7 p.ls++g' p.ss,0⟩):=lV _ ⟨co,co⟩ _;have k:=j;unfold g7 at k;simp only[a9]at k;have h:=Sy W co (g' p.ss);have q:Ba (g7 p)=⟨g' p.ss,0⟩:=by unfold Ba;rw[d];dsimp only;rw[bo,h]
 have w:sS (g7 p).length ⟨g' p.ss,0⟩=(some p.ss,⟨[],0⟩):=by have:=SI x (size:=(g7 p).length) (by unfold g7;simp only[a9];omega) j [];rw[ed]at this;exact this
 unfold GZ;rw[d];dsimp only;rw[ag co,bo,h];dsimp only;rw[q,w];rfl
structure rE(ls:List Lx)(ds:List Sp):Prop where
 n:ls.length<=4096
 l:∀x∈ls,IM x
 m:ds.length<=1000000
 k:∀d∈ds,mq d
 s:∀d∈ds,nS d.x
 b:(g7 (cF ls ds)).length<=1000000000
def rE.lk{ls:List Lx}{ds:List Sp}(h:rE ls ds):CT ls:=⟨h.n,λj d=>(h.l j d).k⟩
def M':∀{l:List Lx},jL l=0->∀k∈l,gI k=0
 |[],_,k,d=>by cases d
 |q::l,h,k,d=>by
  by_cases j:gI q=0
  .rw [Aq j]at h;rcases aq.1 d with e|d
   .rw [e];exact j
   .exact M' h k d
  .rw [FB j]at h;exact absurd h j
def ac3{ls:List Lx}{ss:List bO}(h:lR ls ss=0):jL ls=0:=by
 unfold lR at h;split at h
 .rename_i d;exact absurd h d
 .rename_i d;simpa using d
def abk{ls:List Lx}{i:Nat}{x:Lx}(h:ls[i]? =some x):h7 ((ls.drop i).map Lx.p)=ea (e9 x.p)++h7 ((ls.drop (i+1)).map Lx.p):=by rw[Ap h];rfl
end Go.Proofs.YtnaglpcbkhjpnaaGreatDoor
