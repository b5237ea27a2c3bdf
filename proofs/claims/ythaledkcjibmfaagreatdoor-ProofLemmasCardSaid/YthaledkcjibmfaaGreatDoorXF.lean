import Derived.Test.YthaledkcjibmfaaGreatDoorZ5
import Derived.Test.YthaledkcjibmfaaGreatDoorE2
import Derived.Test.YthaledkcjibmfaaGreatDoorPN
import Derived.Lib.LaidTab
import Derived.Lib.LaidU8
import Derived.LaidByTextLater
import Derived.MakeChecks
import Derived.FnData
import Derived.OpenShut
import Derived.Test.YthaledkcjibmfaaGreatDoorRows
set_option linter.unusedVariables false
set_option maxRecDepth 100000
set_option maxHeartbeats 1000000
set_option linter.defProp false
namespace Go.Proofs.YthaledkcjibmfaaGreatDoor
open Go renaming World->J,Calls->ak,Program->aF,Value->ab
open Go.IntKind renaming wrap->ao
open _root_.Int renaming toNat->aZ,tdiv->bN,tmod->bY,toNat_natCast->bF
open _root_.ByteArray renaming mk->bJ
open Go.IntWalk renaming i64_in->aS
open _root_.Nat renaming le_refl->bg,le_trans->a8,zero_le->dn
open _root_.Option.some renaming inj->e3,injEq->eH
open Go.Proofs.Tryz renaming prog->aa
open Go.Ending renaming returned->ag
open List renaming mem_append->aX,mem_cons->av,not_mem_nil->aR,mem_of_getElem?->aE,getElem?_eq_getElem->a6,getElem?_eq_some_iff->bO,mem_append_left->bt,mem_append_right->di,mem_flatMap->bA,mem_map->ch,length_append->a7,length_cons->db,length_nil->fC,append_assoc->cp,mem_singleton->bG,length_take->eA,flatMap_append->cy,flatMap_cons->b',mem_iff_getElem?->fQ,mem_cons_of_mem->dS,mem_cons_self->j5,length_map->yR,length_set->i3,getElem?_map->iM,append_nil->dt,cons_append->i2,take_add_one->ej,map_append->g2,getElem?_set_ne->yO,take_of_length_le->eZ
open Go Go.W
def QH{w:J}{h:Nat}{V:List UInt8}{own:List Nat}(I:fv w h V own){s:Sl}{b:List UInt8}(y:Bytes w s b)(H:∀d∈(En.rd s (b.map bC)).fp,d∉own)(z:V.length+b.length<=10000000000000):
  ak aa ME #[.pointer (some (ae h)),s.v] w (lW w h own (V++dJ b)):=by refine QS.ok _ _ w _ ?_;rw[Bytes.len y,q4 _ (by omega)];refine(tO I b.length (by omega) (by omega)).mono ?_;rintro r e ⟨rfl,S,M,x,L⟩;have Q:=eI b.length (by omega);have G:Bytes e s b:=(En.rd s (b.map bC)).st w e (λd K z=>x.cb d z (H d K)) y;obtain⟨O,rfl,q,k⟩:=M;obtain⟨N,P,C,D,E,F,_⟩:=uw (ty:=cV) k G (by simp;omega);obtain⟨A,B,j⟩:=E5 q k (Fr.refl _ e) D E F;rw[cp]at j;exact⟨rfl,O,wJ q,N,P,C,A,B,rfl,j.then x L⟩
def Wl{w:J}{j:Nat}{l:List UInt8}{own:List Nat}{D:List En}(y:fv w j l own)(k:∀d∈D,d.P w/\∀b∈d.fp,b∉own):LH (·∈own) w w [.wr j l own] D:=
 ⟨Fr.refl _ _,λd e=>by rw[bG.1 e];exact y,λd e=>(k d e).1,λd e b h=>by
  rw[bG.1 e]at h;exact .inr (aO.1 h),by simp only[b',List.flatMap_nil,dt];exact(En.wr j l own).nd,λd e b h z x q=>by rw[bG.1 x]at q;exact(k d e).2 b h (aO.1 q)⟩
def Po{s:Sl}{ds:List Sp}{d:Sp}(w:d∈ds){e:En}(x:e∈[d.pE,d.hE,d.lE]):(∀h,(En.sp s ds).P h->e.P h)/\∀b∈e.fp,b∈(En.sp s ds).fp:=by have j:e∈En.bc 7 s (ds.flatMap Sp.c)::gR ds:=dS _ (bA.2 ⟨d,w,x⟩);exact⟨λh k=>k e j,λb q=>dZ.2 ⟨e,j,q⟩⟩
def Xw{V:List Nat}{P:aF}{g:FuncId}{args:Array ab}{w:J}{K:aH}:ee V P g args w K->ak P g args w K:=λ⟨_,_,d⟩=>d.mono λ_ _ d=>d.2
def V'{x:Lx}(h:ky x=0):gv (xs x.gl)=0:=by
 unfold ky at h;split at h
 .omega
 .omega
def XT{w:J}{y:Nat}{l:List UInt8}{own:List Nat}{s:Sl}{ds:List Sp}(hr:fv w y l own)(Y:hV w s ds)(af:∀z∈(En.sp s ds).fp,z∉own)(hd:∀d∈ds,oD d.x)(hl:l.length+(fF (cC ds)).length<=10000000000):
  ak aa Lf #[.pointer (some (ae y)),s.v] w (lW w y own (l++fF (cC ds))):=by
 have aj:=Y.n;have h7:=PH (cC ds);have Z:(cC ds).length=ds.length:=by simp
 have hT:(fF (cC ds)).length=(bL (ds.length:Int)).length+((cC ds).flatMap eC).length:=by unfold fF;rw[a7,Z]
 have ab:=Wl (D:=[.sp s ds]) hr λF q=>by rw[bG.1 q];exact⟨fo.2 Y,af⟩
 have ah:a5 ((s.n:Nat):Int):=⟨by omega,by omega⟩;refine vN.aD _ _ w _ (Xw (V:=[]) (ab.wm 0 rfl (λr=>lM r _ ah (by omega)) (λw1 G A=>⟨rfl,?_⟩) (by simp)));have loop:∀(k i:Nat) (v:J) (E:List UInt8) (G:List Nat),i+k=ds.length->E++((cC ds).drop i).flatMap eC=l++fF (cC ds)->LH (·∈own) w v [.wr y E G] [.sp s ds]->
   vN.a2 (ae y) s ((s.n:Nat):Int) (i:Int) v (lW w y own (l++fF (cC ds))):=by
  intro k;induction k with
  |zero=>
   intro i v E G hi q A;rw[List.drop_of_length_le (by omega),List.flatMap_nil,dt]at q;rw[<-q];exact vN.bB _ _ _ _ _ _ (a1 (aV (by omega)) ⟨rfl,G,A.get 0,A.fr,λz j=>(A.new _ (aE (i:=0) rfl) z (aO.2 j)).symm⟩)
  |succ k ih=>
   intro i v E G hi q A;have B:=fo.1 (A.getD 0);have O:ds[i]? =some (ds[i]'(by omega)):=a6 (by omega);have j:(cC ds).drop i=(ds[i]'(by omega)).x::(cC ds).drop (i+1):=by rw[List.drop_eq_getElem_cons (by omega:i<(cC ds).length)];simp
   generalize ds[i]'(by omega)=d at O j;have N:=aE O;have e:=hd d N;rw[j,b',<-cp]at q;have hlen:=congrArg List.length q;have aq:(eC d.x).length=(bL d.x.kind).length+(bL d.x.node).length+(bL d.x.du).length+(cG d.x.params).length+(dJ (bl d.x.nm)).length+(cG d.x.b0).length+(cG d.x.hints).length:=by unfold eC;simp only[a7]
   simp only[a7]at hlen;have g1:=mP d.x.params;have g2:=mP d.x.b0;have g3:=mP d.x.hints;have g4:=oK (bl d.x.nm);refine vN.bB _ _ _ _ _ _ (a3 (aP (by omega)) ⟨by omega,by omega,B.get O λp C=>?_⟩);rw[bF];have mD:∀F∈[d.pE,d.hE,d.lE,.sp s ds],((∀d∈[En.sp s ds],d.P v)->F.P v)/\∀b∈F.fp,∃d∈[En.sp s ds],b∈d.fp:=λF q=>by
    by_cases j:F∈[d.pE,d.hE,d.lE]
    .exact ⟨λB=>(Po N j).1 v (B (.sp s ds) (by simp)),λb e=>⟨.sp s ds,by simp,(Po N j).2 b e⟩⟩
    .simp only[av,aR,aT,not_or]at q j;rcases q with rfl|rfl|rfl|rfl
     .exact absurd rfl j.1
     .exact absurd rfl j.2.1
     .exact absurd rfl j.2.2
     .exact ⟨λB=>B (.sp s ds) (by simp),λb e=>⟨.sp s ds,by simp,e⟩⟩
   have H2:=A.mX [d.pE,d.hE,d.lE,.sp s ds] mD;have ints:∀{u:J} {S:List UInt8} {ox:List Nat} {H:Nat} {D:List En} {t:Sl} {v:List Int} {K:aH},LH (·∈own) w u [.wr y S ox,.g H] D->En.rd t (v.map a')∈D->(∀z∈v,a5 z)->S.length+v.length<=20000000000->(∀u' am,LH (·∈own) w u' [.wr y (S++cG v) am,.g H] D->K (ag (.tuple #[])) u')->
     ee [H] aa vF #[.pointer (some (ae y)),t.v] u K:=λM W hv hl hk=>M.wm 0 rfl (λr=>E2 r (M.rd _ W) (λz j Q=>M.dj _ W z j _ (aE (i:=0) rfl) (aO.2 Q)) hv (by omega)) (λw' al H'=>hk w' al H') (by simp)
   refine⟨_,_,_,_,_,_,_,C.c0,C.c1,C.c2,C.c3,C.c4,C.c5,C.c6,H2.aJ λH w2 H3=>H3.ai λw9 H4=>?_⟩;refine H4.wm 0 rfl (λr=>lM r _ e.k.1 (by omega)) λar o2 H5=>⟨rfl,H5.wm 0 rfl (λr=>lM r _ e.k.2.1 (by simp only[a7];omega)) λau o3 H6=>⟨rfl,H6.wm 0 rfl (λr=>lM r _ e.k.2.2 (by simp only[a7];omega)) λaw o4 H7=>⟨rfl,ints H7 (by simp) e.p (by simp only[a7];omega) λan o5 U=>⟨rfl,?_⟩⟩⟩⟩;obtain⟨I,ao,r1,r2,r3,r4⟩:=Ev an d.x.nm;have L:=(U.fresh r3).rd (.rd I ((bl d.x.nm).map bC)) r2 (hn λb e=>(r4 b e).1);refine⟨I,ao,r1,λb e=>r3.cb b (U.own (.g b) (by simp at e;simp[e])) id,L.wm 0 rfl (λr=>QH r (L.rd (.rd I ((bl d.x.nm).map bC)) (by simp)) (λz j Q=>L.dj (.rd I ((bl d.x.nm).map bC)) (by simp) z j _ (aE (i:=0) rfl) (aO.2 Q)) (by simp only[a7];omega)) λax o6 ac=>⟨rfl,ints ac (by simp) e.l (by simp only[a7];omega) λay o7 ad=>⟨rfl,ints ad (by simp) e.h (by simp only[a7];omega) λap o8 T=>⟨rfl,?_⟩⟩⟩⟩;rw[bd _ (by omega)];have e2:E++bL d.x.kind++bL d.x.node++bL d.x.du++cG d.x.params++dJ (bl d.x.nm)++cG d.x.b0++cG d.x.hints=E++eC d.x:=by unfold eC;simp only[cp]
   rw[e2]at T;refine ih (i+1) ap (E++eC d.x) o8 (by omega) q ((T.take 1).mX [.sp s ds] λF q=>?_);rw[bG.1 q];exact⟨λB=>B (.sp s ds) (by simp),λb e=>⟨.sp s ds,by simp,e⟩⟩
 refine loop ds.length 0 w1 _ G (by omega) ?_ A;unfold fF;rw[List.drop_zero,Z,aj,cp]
structure uh(x:Lx):Prop where
 k:ug x
 h:∀y∈x.hy,a5 y
 c:∀y∈x.cl,a5 y
 s:∀d∈x.ds,oD d.x
 z:∀d∈xs x.gl,(dq d).length<=1000000
 b:(eE x.p).length<=1000000000
def XN{w:J}{x:Lx}(d:uh x)(h:oA w x)(H:cH.P w)(L:gv (xs x.gl)=0):ak aa K6 #[x.m.v] w (iv w (eE x.p)):=by
 have S:=d.b;unfold eE Lx.p at S;simp only[a7]at S;have g1:=oK (dK (xs x.gl));have g2:=mP x.hy;have g3:=mP x.cl;have V:∀A∈[En.gr x.m.g x.gl,.rd x.m.h (x.hy.map a'),.rd x.m.c (x.cl.map a'),.sp x.m.s x.ds,cH],A.P w:=λA T=>by
  simp only[av,aR,aT]at T;rcases T with rfl|rfl|rfl|rfl|rfl
  .exact bV.2 h.1
  .exact h.2.1
  .exact h.2.2.1
  .exact fo.2 h.2.2.2
  .exact H
 refine Nr.aD _ _ _ _ w _ ((bP (w:=w) _ V).aJ λG w1 B=>B.hD (ZW (bV.1 (B.getD 0)) (B.getD 4) (λ_=>d.k.g) d.z) ?_);rintro _ w2 ⟨t,rfl,I⟩ _ ab;obtain⟨I,hf⟩:=I L;have Y:=ab.rd (.rd t ((dK (xs x.gl)).map bC)) I.rd (hn hf);have ints:∀{u:J} {M:List UInt8} {N:Nat} {ox:List Nat} {D:List En} {t:Sl} {v:List Int} {K:aH},LH F0 w u [.g G,.wr N M ox] D->En.rd t (v.map a')∈D->(∀x∈v,a5 x)->M.length+v.length<=20000000000->(∀U af,LH F0 w U [.g G,.wr N (M++cG v) af] D->K (ag (.tuple #[])) U)->
   ee [G] aa vF #[.pointer (some (ae N)),t.v] u K:=λF Q L hl H=>F.wm 1 rfl (λr=>E2 r (F.rd _ Q) (λx hx e=>F.dj _ Q x hx _ (aE (i:=1) rfl) (aO.2 e)) L (by omega)) (λw' ad W=>H w' ad W) (by simp)
 refine⟨_,_,rfl,Y.MM λw3 C=>C.wm 1 rfl (λr=>QH r (C.rd (.rd t ((dK (xs x.gl)).map bC)) (by simp)) (λq j e=>C.dj (.rd t ((dK (xs x.gl)).map bC)) (by simp) q j _ (aE (i:=1) rfl) (aO.2 e)) (by simp only[fC];omega)) λw4 o1 Z=>⟨rfl,ints Z (by simp) d.h (by simp only[a7,fC];omega) λw5 o2 H5=>⟨rfl,ints H5 (by simp) d.c (by simp only[a7,fC];omega) λw6 o3 E=>⟨rfl,?_⟩⟩⟩⟩;refine E.wm 1 rfl (λr=>XT r (fo.1 (E.getD 3)) (λq j e=>E.dj (.sp x.m.s x.ds) (by simp) q j _ (aE (i:=1) rfl) (aO.2 e)) d.s (by simp only[a7,fC];omega)) λw7 o4 y=>⟨rfl,?_⟩;have A:[]++dJ (dK (xs x.gl))++cG x.hy++cG x.cl++fF (cC x.ds)=eE x.p:=by unfold eE Lx.p;simp only[cp,List.nil_append]
 rw[A]at y;refine ha ((E1 (show fv w7 w2.heap.size (eE x.p) o4 from y.get 1) (by have:=d.b;omega)).mono ?_);rintro _ w8 ⟨s,rfl,hs,O,ac⟩;exact⟨O,s,rfl,s,rfl,hs,y.fr.dD O,λq j=>a8 y.fr.size (ac q j)⟩
def Rn(w:J)(V:List UInt8)(E:Int)(r:Ending)(Y:J):Prop:=∃s:Sl,r=ag (.tuple #[s.v,.i E])/\(E=0->eU Y s V/\∀b∈aw s,w.heap.size<=b)/\(E≠0->s.n=0)
def Dk{w:J}{x:Lx}(j:uh x)(h:oA w x)(B:cH.P w):ak aa K0 #[x.m.v] w λr z=>Rn w (eE x.p) (ky x) r z/\ah w z:=by
 refine Nq.aD _ _ _ _ w _ ((bP (w:=w) [eY x,cH] (by
  intro F y;simp only[av,aR,aT]at y;rcases y with rfl|rfl
  .exact h6.2 h
  .exact B)).aJ λE G q=>q.ay (I1 j.k (h6.1 (q.getD 0)) (q.getD 1)) ?_)
 rintro _ H rfl d;refine⟨_,rfl,dv (λe=>⟨⟨⟨none,0,0⟩,rfl,λh=>absurd h e,λ_=>rfl⟩,d.fr⟩) λe=>d.jP (XN j (h6.1 (d.getD 0)) (d.getD 1) (V' e)) λs I A _ D C=>?_⟩;exact⟨s,rfl,⟨s,by rw[e],λ_=>⟨D,λb j=>a8 d.fr.size (C b j)⟩,λh=>absurd e h⟩,A.fr⟩
def AL{w0:J}{s t:Sl}{b:List UInt8}(j:Bytes w0 s b)(q:Bytes w0 t b)(B:b.length<=1000000000000):ak aa JU #[s.v,t.v] w0 λr h=>r=ag (.bool true)/\ah w0 h:=by
 have C:=Bytes.len j;have D:=Bytes.len q;have loop:∀(k i:Nat) (w:J),i+k=b.length->ah w0 w->uU.L0 s t (i:Int) w λr h=>r=ag (.bool true)/\ah w0 h:=by
  intro k;induction k with
  |zero=>exact λi w z f=>uU.bE _ _ _ _ _ (a1 (aV (by omega)) ⟨rfl,f⟩)
  |succ k A=>
   intro i w z f;have e:b[i]? =some (b[i]'(by omega)):=a6 (by omega);generalize b[i]'(by omega)=c at e;have d:ah w0 w.drew:=f.dD (Fr.drew _ _);refine uU.bE _ _ _ _ _ (a3 (aP (by omega)) ⟨by omega,by omega,Bytes.cell (j.bw d) e (by rw[bF]) λp _ x=>⟨_,x,by omega,by omega,Bytes.cell (q.bw d) e (by rw[bF]) λE _ y=>⟨_,y,a1 (by simp) ?_⟩⟩⟩);rw[bd _ (by omega)];exact A (i+1) _ (by omega) d
 exact uU.ok _ _ w0 _ (a1 (by simp;omega) (loop b.length 0 w0 (by omega) (Fr.refl _ _)))
def Tz{w:J}{s:Sl}{l:List Nd}(h:GP w s l)(hW:∀d∈l,e9 d.x)(hz:∀d∈l,(dq d.x).length<=1000000)(hl:l.length<=4096):
  ak aa Kq #[s.v] w (iv w (dK (xs l))):=by
 have hn:=gZ h;have ag:(xs l).length=l.length:=by simp[xs]
 have O:LH F0 w w [] [.gr s l]:=bP _ (by intro an q;simp only[av,aR,aT]at q;subst q;exact bV.2 h)
 have H:a5 ((l.length:Nat):Int):=⟨by omega,by omega⟩;have h0:=dh _ H;have loop:∀(m i:Nat) (out:Sl) (o:List UInt8) (y:J),i+m=l.length->o.length<=10+1000000 *i->o++((xs l).drop i).flatMap dq=dK (xs l)->LH F0 w y [.by out o] [.gr s l]->
   u5.a2 s out (i:Int) y (iv w (dK (xs l))):=by
  intro m;induction m with
  |zero=>
   intro i out o y af ho q j;refine u5.bB _ _ _ _ _ (a1 (aV (by omega)) ⟨out,rfl,?_,j.fr,λb D=>(j.new _ (aE (i:=0) rfl) b D).resolve_right id⟩);rw[List.drop_of_length_le (by omega),List.flatMap_nil,dt]at q;rw[<-q];exact kD (j.get 0)
  |succ m ih=>
   intro i out o y af ho q j;have C:l[i]? =some (l[i]'(by omega)):=a6 (by omega);have I:(xs l).drop i=(l[i]'(by omega)).x::(xs l).drop (i+1):=by rw[List.drop_eq_getElem_cons (by omega:i<(xs l).length)];simp[xs]
   generalize l[i]'(by omega)=d at C I;have E:=aE C;have W:=hW d E;have hlen:=hz d E;have ao:=hlen;have hu:=W.u;unfold dq at hlen;simp only[a7]at hlen;refine u5.bB _ _ _ _ _ (a3 (aP (by omega)) (hM (bV.1 (j.getD 0)) rfl C λp hp c=>⟨d.x.op,d.ks,d.x.n,d.x.m,d.x.u,d.x.tx,d.x.st.k,d.x.st.n,d.x.st.x,c.c0,c.c1,c.c2,c.c3,c.c4,c.c5,c.c6,c.c7,c.c8,j.aJ λG w2 A=>A.ai λM B=>?_⟩));have B:LH F0 w M [.by out o,.g G] [.gr s l]:=B;refine B.jP (k5 _ W.op M) λt w4 H4 _ e _=>⟨t,rfl,H4.fw 0 rfl e.rd (by omega) λo1 w5 F=>?_⟩;refine F.jP (r8 ((bV.1 (F.getD 0)).2 d E) W.ks W.kl) λt w6 H6 _ e _=>⟨t,rfl,H6.fw 0 rfl e.rd (by simp only[a7];omega) λo2 w7 H7=>?_⟩;refine H7.jP (k5 _ W.n w7) λt w8 H8 _ e _=>⟨t,rfl,H8.fw 0 rfl e.rd (by simp only[a7];omega) λo3 w9 H9=>?_⟩;refine H9.jP (k5 _ W.m w9) λt aq P _ e _=>⟨t,rfl,P.fw 0 rfl e.rd (by simp only[a7];omega) λo4 ah Q=>?_⟩;have eu:d.x.u=((d.x.u.toNat:Nat):Int):=by omega
   rw[eu];refine Q.jP (xz d.x.u.toNat (by omega) ah) λt ar S _ e _=>⟨t,rfl,S.fw 0 rfl e.rd (by simp only[a7];omega) λo5 au T=>?_⟩;refine T.str d.x.tx λtb aw U D=>?_;have ap:=W.tx;refine U.jP (Bm D (by rw[dP];omega)) λt ax V _ e _=>⟨t,rfl,V.fw 0 rfl e.rd (by simp only[a7];omega) λo6 aj Y=>?_⟩;refine Y.jP (k5 _ W.sk aj) λt ay Z _ e _=>⟨t,rfl,Z.fw 0 rfl e.rd (by simp only[a7];omega) λo7 al ab=>?_⟩;refine ab.jP (k5 _ W.sn al) λt az ac _ e _=>⟨t,rfl,ac.fw 0 rfl e.rd (by simp only[a7];omega) λo8 am ad=>?_⟩;refine ad.jP (k5 _ W.sx am) λt aA ae _ e _=>⟨t,rfl,ae.fw 0 rfl e.rd (by simp only[a7];omega) λK L z=>?_⟩;have e1:o++bL d.x.op++cG d.x.kids++bL d.x.n++bL d.x.m++dU d.x.u.toNat++dJ (bl d.x.tx)++bL d.x.st.k++bL d.x.st.n++bL d.x.st.x=o++dq d.x:=by unfold dq;simp only[cp]
   have z:LH F0 w L [.by K (o++bL d.x.op++cG d.x.kids++bL d.x.n++bL d.x.m++dU d.x.u.toNat++dJ (bl d.x.tx)++bL d.x.st.k++bL d.x.st.n++bL d.x.st.x),.g G] [.gr s l]:=z;rw[e1]at z;rw[bd _ (by omega)];refine ih (i+1) K (o++dq d.x) L (by omega) (by rw[a7];omega) ?_ (z.take 1);rw[<-q,I,b',cp]
 refine u5.aD s w _ ?_;rw[hn];refine O.TR (k5 _ H w) λt y j N e nt=>⟨t,rfl,?_⟩;have A:=N.own (.by t (bL ((l.length:Nat):Int))) e.2 nt;exact loop l.length 0 t _ y (by omega) (by omega) (by rw[List.drop_zero];unfold dK;rw[ag]) A
def UO{w:J}{s:Sl}{V:List UInt8}(d:Bytes w s V)(m:Nat)(E:m<=100000000000000):
  ak aa Cq #[s.v,.i (m:Int)] w (iv w (V.take m)):=by
 have B:=Bytes.len d;have D:=d.2.1;refine Hm.ok s m w _ ?_;have j:(if(m:Int)<((s.n:Nat):Int)then(m:Int)else((s.n:Nat):Int))=((min m V.length:Nat):Int):=by rw[B];split<;>omega
 rw[j];refine⟨by omega,by omega,?_⟩;have e:=Bytes.sub d 0 (min m V.length) (by omega) (by omega);have k:(List.take (min m V.length) V).drop 0=V.take m:=by
  rw[List.drop_zero];by_cases A:m<=V.length
  .rw [Nat.min_eq_left A]
  .rw [Nat.min_eq_right (by omega),eZ (bg _),eZ (by omega)]
 rw[k]at e;obtain⟨h,C,q,x,y,z⟩:=xQ (s:=⟨none,0,0⟩) (xs:=[]) (Fr.refl _ w) (Ow.nil w cL) (by simp[aw]) e (by simp;omega);exact⟨h,C,q,h,rfl,x,y,z⟩
def jg.en{n:Nat}{s:cv}(h:jg n s)(d:n<=1000):tW s:=
 ⟨h.k.1,h.k.2.1,h.k.2.2,⟨h.p.2,by have:=h.p.1;omega⟩,⟨h.l.2,by have:=h.l.1;omega⟩,⟨h.h.2,by have:=h.h.1;omega⟩,by have:=h.t;omega⟩
def SJ{w:J}{x:Lx}(e:mB 40 x)(h:oA w x):ak aa KJ #[x.m.v] w (iv w (eE x.p)):=by
 have y:=e.g;have Q:∀d∈x.gl,(dq d.x).length<=1000000:=λd j=>(y.2 d.x (ch.2 ⟨d,j,rfl⟩)).small (by omega);have M:∀d∈x.gl,e9 d.x:=λd j=>(y.2 d.x (ch.2 ⟨d,j,rfl⟩)).wd;have ab:(dK (xs x.gl)).length<=40000010:=by
  have V:=yr (z:=1000000) (g:=xs x.gl) λd j=>(y.2 d j).small (by omega);have W:=dh ((xs x.gl).length:Int) (by simp[xs];omega);have Y:(xs x.gl).length=x.gl.length:=by simp[xs]
  unfold dK;rw[a7];omega
 have ac:=Br (b:=dK (xs x.gl)) (by omega);have hh:=e.h.1;have Z:=e.c.1;have G:=e.s.1;have l1:=oJ e.h.2 (by omega);have l2:=oJ e.c.2 (by omega);have l3:=ZI (ss:=cC x.ds) (λs G=>by obtain⟨d,j,rfl⟩:=ch.1 G;exact(e.s.2 d j).en (by omega)) (by simp;omega);have ad:(cC x.ds).length=x.ds.length:=by simp
 have H:∀q∈[En.gr x.m.g x.gl,.rd x.m.h (x.hy.map a'),.rd x.m.c (x.cl.map a'),.sp x.m.s x.ds],q.P w:=λq F=>by
  simp only[av,aR,aT]at F;rcases F with rfl|rfl|rfl|rfl
  .exact bV.2 h.1
  .exact h.2.1
  .exact h.2.2.1
  .exact fo.2 h.2.2.2
 refine HQ.aD _ _ _ _ w _ ((bP (w:=w) _ H).aJ λU w1 A=>A.jP (Tz (bV.1 (A.getD 0)) M Q (by omega)) λt T _ I O S=>⟨t,rfl,?_⟩);have B:=I.rd (.rd t ((dK (xs x.gl)).map bC)) O.rd (hn S);refine B.jP (Bm (show Bytes T t (dK (xs x.gl))from B.getD 4) (by omega)) λo w3 _ K N no=>⟨o,rfl,?_⟩;have L:=K.own (.by o (dJ (dK (xs x.gl)))) N.2 no;refine L.ai λw4 C=>?_;refine C.mZ 1 rfl (by omega) (by omega) (r8 (l:=x.hy) (C.getD 1) e.h.2 (by omega)) λs1 w5 D=>?_;refine D.mZ 1 rfl (by rw[a7];omega) (by omega) (r8 (l:=x.cl) (D.getD 2) e.c.2 (by omega)) λs2 w6 E=>?_;refine E.mZ 1 rfl (by simp only[a7];omega) (by omega) (TI (fo.1 (E.getD 3)) (λd j=>(e.s.2 d j).en (by omega)) (by omega)) λs3 w7 k=>?_;have q:dJ (dK (xs x.gl))++cG x.hy++cG x.cl++fF (cC x.ds)=eE x.p:=by unfold eE Lx.p;simp only[cp]
 rw[q]at k;exact⟨s3,rfl,kD (k.get 1),k.fr,λb e=>(k.new _ (aE (i:=1) rfl) b e).resolve_right id⟩
def vJ:List ByteArray:=[ba [],ba [97],ba [98],ba [99],ba [100,100]]
structure kf(pl i aM:Nat)(s:cv):Prop where
 kind:0<=s.kind/\s.kind<=5
 node:a5 s.node/\(s.kind=4->0<=s.node/\s.node<(aM:Int))
 du:a5 s.du
 params:(∀x∈s.params,a5 x)/\s.params.length<=pl
 b0:gz s.b0=0/\(∀x∈s.b0,a5 x)/\s.b0.length<=3
 hints:(∀x∈s.hints,0<=x/\x<(i:Int))/\s.hints.length<=2
 nm:s.nm∈vJ
def Y7{M:Nat->Prop}{w0 w:J}{L D D1:List En}{l:List Sp}{d:Sp}(H:LH M w0 w L D1)(A:∀e∈D,e∈D1)(y:cz l∈D1)(x:∀e∈[d.pE,d.hE,d.lE],e∈D1\/(e.fp=[]/\∀w,e.P w)):LH M w0 w L (D++[cz (l++[d])]):=by
 have z:∀e∈gR (l++[d]),e∈gR l\/e∈[d.pE,d.hE,d.lE]:=λe h=>by simp only[gR,cy,aX,b',List.flatMap_nil,dt]at h;exact h
 refine H.mX _ λe h=>?_;rcases aX.1 h with h|h
 .exact ⟨λj=>j e (A e h),λb q=>⟨e,A e h,q⟩⟩
 .rw [bG.1 h];refine⟨λj e h=>?_,λb q=>?_⟩
  .rcases z e h with h|h
   .exact j (cz l) y e h
   .exact (x e h).elim (j e) λj=>j.2 w
  .obtain ⟨e,h,k⟩:=dZ.1 q;rcases z e h with h|h
   .exact ⟨cz l,y,dZ.2 ⟨e,h,k⟩⟩
   .rcases x e h with j|j
    .exact ⟨e,j,k⟩
    .rw [j.1]at k;cases k
def sN:(En.rd ⟨none,0,0⟩ (([]:List Int).map a')).fp=[]/\∀d,(En.rd ⟨none,0,0⟩ (([]:List Int).map a')).P d:=⟨by simp[En.rd],λd=>Rd.nil d⟩
def tX(w0:J)(D:List En)(cc:Nat)(r:Ending)(Y:J):Prop:=∃(aM st:Sl) (ls:List Lm) (ds:List Sp),r=ag (.agg #[aM.v,st.v])/\LH F0 w0 Y [.row il 4 aM (ls.flatMap Lm.cs),.row e2 7 st (ds.flatMap Sp.c)] (D++[cz ds])/\
 (∀b∈(cz ds).fp,w0.heap.size<=b)/\ls.length<=2/\ds.length<=cc/\∀i d,ds[i]? =some d->kf 1 i ls.length d.x
abbrev pg(d:Nat)(x:cv)(p l h:Sl):En:=.c d [.i x.kind,.i x.node,.i x.du,p.v,.string x.nm,l.v,h.v] e2
section
variable {w0:J} {cc b4 b5 b9:Nat} {l0 aM st:Sl} {xs:List Int} {ls:List Lm} {ds:List Sp} {D:List En}
def Qo(n m:Nat):bY (n:Int) (m:Int)=((n%m:Nat):Int):=rfl
abbrev tZ(w0:J)(b4 b5:Nat)(aM:Sl)(ls:List Lm)(st:Sl)(ds:List Sp)(D:List En)(w:J):Prop:=LH F0 w0 w (hL b4 b5 aM ls st ds) (D++[cz ds])
def Ii{j:Nat}{x:cv}{p l h:Sl}{D1:List En}{w:J}{R:aH}(U:j<=1000000)(K:ds.length<=1000000)(H:LH F0 w0 w (hL b4 b5 aM ls st ds++[pg b9 x p l h]) D1)(G:∀e∈D,e∈D1)(E:cz ds∈D1)(B:∀e∈[Sp.pE ⟨x,p,l,h⟩,Sp.hE ⟨x,p,l,h⟩,Sp.lE ⟨x,p,l,h⟩],(e∈D1\/(e.fp=[]/\∀w,e.P w)))(C:∀k q,tZ w0 b4 b5 aM ls k (ds++[⟨x,p,l,h⟩]) D q->f'.L2 l0 cc (ae b4) (ae b5) ((j+1:Nat):Int) q R):
  f'.S6 l0 cc (ae b4) (ae b5) (j:Int) (ae b9) w R:=by
 have F:=(H.get 3:aK _ _ _ _ _).len;rw[Sp.eW]at F;refine⟨st,H.ld 1 1,_,_,_,_,_,_,_,H.ld 4 0,H.ld 4 1,H.ld 4 2,H.ld 4 3,H.ld 4 4,H.ld 4 5,H.ld 4 6,H.uu 3 xA rfl (λk L y _ _=>y.st 1 1 rfl λI z=>?_) (by omega)⟩;rw[bd _ (by omega)];refine C k I (Y7 (l:=ds) (d:=(⟨x,p,l,h⟩:Sp)) ?_ G E B);have e:(ds++[(⟨x,p,l,h⟩:Sp)]).flatMap Sp.c=ds.flatMap Sp.c++Sp.c ⟨x,p,l,h⟩:=by simp
 have A:=z.take 4;unfold hL;rw[e];exact A
structure RC(w0:J)(b4 b5 b9:Nat)(aM:Sl)(ls:List Lm)(st:Sl)(ds:List Sp)(D:List En)(i7:Nat)(x:cv)(p l:Sl)(w:J):Prop where
 g:kf 1 i7 ls.length x/\x.hints=[]
 H:∃D1,LH F0 w0 w (hL b4 b5 aM ls st ds++[pg b9 x p l ⟨none,0,0⟩]) D1/\(∀e∈D,e∈D1)/\cz ds∈D1/\(∀e∈[Sp.pE ⟨x,p,l,⟨none,0,0⟩⟩,Sp.lE ⟨x,p,l,⟨none,0,0⟩⟩],(e∈D1\/(e.fp=[]/\∀w,e.P w))/\∀b∈e.fp,w0.heap.size<=b)
def vh{e n:Nat}{x:cv}{p l:Sl}{w:J}{R:aH}(U:e<=1000000)(ar:n<=1073741824)(aa:ds.length<=1000000)(ad:RC w0 b4 b5 b9 aM ls st ds D e x p l w)(hk:∀(d:Sp) F E,kf 1 e ls.length d.x->(∀q∈[d.pE,d.hE,d.lE],∀b∈q.fp,w0.heap.size<=b)->tZ w0 b4 b5 aM ls F (ds++[d]) D E->f'.L2 l0 cc (ae b4) (ae b5) ((e+1:Nat):Int) E R):
  f'.S4 l0 cc (ae b4) (ae b5) (e:Int) (n:Int) (ae b9) w R:=by
 obtain⟨⟨y,ab⟩,H,I,hs,hl,ac⟩:=ad;have L:=ac _ (j5 ..);have K:=ac _ (dS _ (j5 ..));have Z:f'.S6 l0 cc (ae b4) (ae b5) (e:Int) (ae b9) w R:=by
  refine Ii (x:=x) (p:=p) (l:=l) (h:=⟨none,0,0⟩) U aa I hs hl (λq j=>?_) λF E N=>hk ⟨x,p,l,⟨none,0,0⟩⟩ F E y (λq j=>?_) N
  .simp only[av,aR,aT]at j;rcases j with rfl|rfl|rfl
   .exact L.1
   .refine .inr ?_;show(En.rd ⟨none,0,0⟩ (x.hints.map a')).fp=[]/\∀w,(En.rd ⟨none,0,0⟩ (x.hints.map a')).P w;rw[ab];exact sN
   .exact K.1
  .simp only[av,aR,aT]at j;rcases j with rfl|rfl|rfl
   .exact L.2
   .intro b k;have k:b∈(En.rd ⟨none,0,0⟩ (x.hints.map a')).fp:=k;rw[ab,sN.1]at k;cases k
   .exact K.2
 refine aG (λam=>?_) (λ_=>Z);have Y:f'.S5 l0 cc (ae b4) (ae b5) (e:Int) (n:Int) (ae b9) w R:=by
  have ah:ao .i64 (bN (n:Int) 8)=((n / 8:Nat):Int):=by rw[show bN (n:Int) 8=((n / 8:Nat):Int)from rfl,aS _ (by omega)]
  have ag:ao .i64 (bN (n:Int) 64)=((n / 64:Nat):Int):=by rw[show bN (n:Int) 64=((n / 64:Nat):Int)from rfl,aS _ (by omega)]
  have af:ao .i64 (bN (n:Int) 256)=((n / 256:Nat):Int):=by rw[show bN (n:Int) 256=((n / 256:Nat):Int)from rfl,aS _ (by omega)]
  have fin:∀(z:List Int) (h:Sl) (G:J),(∀M∈z,0<=M/\M<(e:Int))->z.length<=2->LH F0 w0 G (hL b4 b5 aM ls st ds++[pg b9 x p l h,.row bR 1 h (z.map a')]) H->f'.S6 l0 cc (ae b4) (ae b5) (e:Int) (ae b9) G R:=by
   intro z h G C Q A;have ai:∀b∈aw h,w0.heap.size<=b:=λb k=>(A.new _ (aE (i:=5) rfl) b k).resolve_right id;have O:LH F0 w0 G (hL b4 b5 aM ls st ds++[pg b9 x p l h]) (H++[.rd h (z.map a')]):=A.freeze 5 (.rd h (z.map a')) rfl (aK.i4 (A.get 5)) λb k=>pe k
   let x':cv:=⟨x.kind,x.node,x.du,x.params,x.nm,x.b0,z⟩
   refine Ii (x:=x') (p:=p) (l:=l) (h:=h) U aa O (λq j=>bt _ (hs q j)) (bt _ hl) (λq j=>?_) λF E N=>hk ⟨x',p,l,h⟩ F E ⟨y.kind,y.node,y.du,y.params,y.b0,⟨C,Q⟩,y.nm⟩ (λq j=>?_) N
   .simp only[av,aR,aT]at j;rcases j with rfl|rfl|rfl
    .exact L.1.imp (λh=>bt _ h) id
    .exact .inl (di _ (bG.2 rfl))
    .exact K.1.imp (λh=>bt _ h) id
   .simp only[av,aR,aT]at j;rcases j with rfl|rfl|rfl
    .exact L.2
    .exact hn ai
    .exact K.2
  have an:n / 8%e<e:=Nat.mod_lt _ (by omega);have aq:n / 256%e<e:=Nat.mod_lt _ (by omega);have H0:LH F0 w0 w (hL b4 b5 aM ls st ds++[pg b9 x p l ⟨none,0,0⟩,.row bR 1 ⟨none,0,0⟩ []]) H:=I.h7 bR 1;refine H0.dr λw1 S=>⟨⟨none,0,0⟩,S.ld 4 6,by omega,?_⟩;rw[ah,ag,af,Qo,Qo];refine S.nY λG _ A ak=>⟨A.ld 4 6,A.ap 5 h4 (s:=⟨none,0,0⟩) (src:=⟨some (ae w1.heap.size),1,1⟩) (news:=[.i ((n / 8%e:Nat):Int)]) rfl (na (n:=1) (sz:=1) (cs:=[.i ((n / 8%e:Nat):Int)]) ak rfl).2.2 rfl (by simp[Value.oneCell']) (by show(0+1) *8<=_;omega) λB w3 O aj _=>O.st 4 6 rfl λw4 H4=>?_⟩;have T:LH F0 w0 w4 (hL b4 b5 aM ls st ds++[pg b9 x p l B,.row bR 1 B ([((n / 8%e:Nat):Int)].map a')]) H:=H4;refine aG (λ_=>T.dr λw5 V=>⟨B,V.ld 4 6,by omega,?_⟩) (λ_=>fin [((n / 8%e:Nat):Int)] B w4 (λM C=>by rw[bG.1 C];omega) (by simp) T);refine V.nY λw6 _ W al=>⟨W.ld 4 6,W.ap 5 h4 (s:=B) (src:=⟨some (ae w5.heap.size),1,1⟩) (news:=[.i ((n / 256%e:Nat):Int)]) rfl (na (n:=1) (sz:=1) (cs:=[.i ((n / 256%e:Nat):Int)]) al rfl).2.2 rfl (by simp[Value.oneCell']) (by show(B.n+1) *8<=_;rw[aj];show(0+1+1) *8<=_;omega) λQ w7 H7 _ _=>H7.st 4 6 rfl λw8 H8=>?_⟩;exact fin [((n / 8%e:Nat):Int),((n / 256%e:Nat):Int)] Q w8 (by intro M C;simp only[av,aR,aT]at C;rcases C with rfl|rfl<;>omega) (by simp) H8
 exact⟨x.kind,I.ld 4 0,aL (λ_=>Y) (λ_=>⟨x.kind,I.ld 4 0,aL (λ_=>Y) (λ_=>Z)⟩)⟩
def Wu{c:Int}(h:c=2\/c=-2\/c=3\/c=-3):gz [c]=0/\(∀d∈[c],a5 d)/\[c].length<=3:=by
 refine⟨?_,λd e=>?_,by simp⟩
 .rcases h with rfl|rfl|rfl|rfl<;>decide
 .rw [bG.1 e];omega
def xR:a5 0:=by decide
def U7{G n k m:Nat}{c:Int}{l:Sl}{D1:List En}{w:J}{R:aH}(U:G<=1000000)(B:n<=1073741824)(y:ds.length<=1000000)(aj:ls.length<=1000)(ai:k<=5)(hm:m<=2)(hc:c=2\/c=-2\/c=3\/c=-3)(H:LH F0 w0 w (hL b4 b5 aM ls st ds++[pg b9 ⟨(k:Int),(m:Int),0,[],ba [],[c],[]⟩ ⟨none,0,0⟩ l ⟨none,0,0⟩]) D1)(C:∀e∈D,e∈D1)(E:cz ds∈D1)(W:En.rd l ([c].map a')∈D1)(Z:∀b∈(En.rd l ([c].map a')).fp,w0.heap.size<=b)(z:∀(d:Sp) fV Y,kf 1 G ls.length d.x->(∀e∈[d.pE,d.hE,d.lE],∀b∈e.fp,w0.heap.size<=b)->tZ w0 b4 b5 aM ls fV (ds++[d]) D Y->f'.L2 l0 cc (ae b4) (ae b5) ((G+1:Nat):Int) Y R):
  f'.S3 l0 cc (ae b4) (ae b5) (G:Int) (n:Int) (ae b9) w R:=by
 have A:=Wu hc;have ad:aM.n=ls.length:=by have:=(H.get 2:aK _ _ _ _ _).len;rw[Lm.len]at this;omega
 have two:∀{Y:J} {x:cv},x.params=[]->x.b0=[c]->∀e∈[Sp.pE ⟨x,⟨none,0,0⟩,l,⟨none,0,0⟩⟩,Sp.lE ⟨x,⟨none,0,0⟩,l,⟨none,0,0⟩⟩],(e∈D1\/(e.fp=[]/\∀w,e.P w))/\∀b∈e.fp,w0.heap.size<=b:=by
  intro Y x N O e j;simp only[av,aR,aT]at j;rcases j with rfl|rfl
  .have e:Sp.pE ⟨x,⟨none,0,0⟩,l,⟨none,0,0⟩⟩=.rd ⟨none,0,0⟩ (([]:List Int).map a'):=by show En.rd ⟨none,0,0⟩ (x.params.map a')=_;rw[N]
   rw[e];exact⟨.inr sN,λb q=>by rw[sN.1]at q;cases q⟩
  .have e:Sp.lE ⟨x,⟨none,0,0⟩,l,⟨none,0,0⟩⟩=.rd l ([c].map a'):=by show En.rd l (x.b0.map a')=_;rw[O]
   rw[e];exact⟨.inl W,Z⟩
 have ah:∀Q<4,∃F,F∈vJ/\(#[.string (bJ #[97]),.string (bJ #[98]),.string (bJ #[99]),.string (bJ #[100,100])]:Array ab)[Q]? =some (.string F):=by
  intro Q hj
  match Q,hj with
  |0,_=>exact⟨_,.tail _ (.head _),rfl⟩
  |1,_=>exact⟨_,.tail _ (.tail _ (.head _)),rfl⟩
  |2,_=>exact⟨_,.tail _ (.tail _ (.tail _ (.head _))),rfl⟩
  |3,_=>exact⟨_,.tail _ (.tail _ (.tail _ (.tail _ (.head _)))),rfl⟩
 have I:ba []∈vJ:=.head _;refine⟨(k:Int),H.ld 4 0,aL (λN=>?_) (λN=>aL (λO=>?_) (λO=>aL (λV=>?_) (λV=>?_)))⟩
 .
  obtain⟨F,af,hg⟩:=ah (n%4) (Nat.mod_lt _ (by omega));refine H.nY λw1 _ H1 ag=>⟨by rw[show bY (n:Int) 4=((n%4:Nat):Int)from rfl];omega,by rw[show bY (n:Int) 4=((n%4:Nat):Int)from rfl];show _<(4:Int);omega,qL ⟨F,?_,H1.st 4 4 rfl λw2 H2=>?_⟩⟩
  .rw [show bY (n:Int) 4=((n%4:Nat):Int)from rfl,bF,Nat.mul_one];exact cellAt (p:=ae w.heap.size) ag rfl (by simpa using hg)
  .exact vh (x:=⟨(k:Int),(m:Int),0,[],F,[c],[]⟩) (p:=⟨none,0,0⟩) (l:=l) U B y ⟨⟨⟨⟨by show(0:Int)<=k;omega,by show(k:Int)<=5;omega⟩,⟨by show a5 (m:Int);omega,λh=>by have h:(k:Int)=4:=h;omega⟩,xR,⟨by simp,by simp⟩,A,⟨by simp,by simp⟩,af⟩,rfl⟩,D1,H2,C,E,two (Y:=w) rfl rfl⟩ z
 .
  have hr:bY (n:Int) 2=((n%2:Nat):Int):=rfl;have hq:bY (ao .i64 (bN (n:Int) 2)) 3=((n / 2%3:Nat):Int):=by rw[show bN (n:Int) 2=((n / 2:Nat):Int)from rfl,aS _ (by omega)];rfl
  rw[hr,hq];refine H.st 4 2 rfl λK H3=>H3.cR (n:=1) (sz:=1) (cs:=[((n / 2%3:Nat):Int)].map a') rfl (by decide) λw4 L=>?_;have aa:∀b∈aw ⟨some (ae K.heap.size),1,1⟩,w0.heap.size<=b:=λb q=>(L.new _ (aE (i:=5) rfl) b q).resolve_right id;have H5:LH F0 w0 w4 (hL b4 b5 aM ls st ds++[pg b9 ⟨(k:Int),(m:Int),((n%2:Nat):Int),[],ba [],[c],[]⟩ ⟨none,0,0⟩ l ⟨none,0,0⟩]) (D1++[.rd ⟨some (ae K.heap.size),1,1⟩ ([((n / 2%3:Nat):Int)].map a')]):=L.freeze 5 (.rd ⟨some (ae K.heap.size),1,1⟩ ([((n / 2%3:Nat):Int)].map a')) rfl (aK.i4 (L.get 5)) λb q=>pe q;refine H5.st 4 3 rfl λw5 M=>?_;refine vh (x:=⟨(k:Int),(m:Int),((n%2:Nat):Int),[((n / 2%3:Nat):Int)],ba [],[c],[]⟩) (p:=⟨some (ae K.heap.size),1,1⟩) (l:=l) U B y ⟨⟨⟨⟨by show(0:Int)<=k;omega,by show(k:Int)<=5;omega⟩,⟨by show a5 (m:Int);omega,λh=>by have h:(k:Int)=4:=h;omega⟩,by show a5 ((n%2:Nat):Int);omega,⟨λal hy=>by rw[bG.1 hy];omega,by simp⟩,A,⟨by simp,by simp⟩,I⟩,rfl⟩,_,M,λe j=>bt _ (C e j),bt _ E,λe j=>?_⟩ z;simp only[av,aR,aT]at j;rcases j with rfl|rfl
  .exact ⟨.inl (di _ (bG.2 rfl)),hn aa⟩
  .exact ⟨.inl (bt _ W),Z⟩
 .
  refine⟨aM,H.ld 1 0,aL (λT=>H.st 4 0 rfl λw6 M=>?_) (λT=>⟨aM,H.ld 1 0,T,H.st 4 1 rfl λw7 S=>?_⟩)⟩
  .exact vh (x:=⟨0,(m:Int),0,[],ba [],[c],[]⟩) (p:=⟨none,0,0⟩) (l:=l) U B y ⟨⟨⟨⟨by show(0:Int)<=0;omega,by show(0:Int)<=5;omega⟩,⟨by show a5 (m:Int);omega,λh=>by cases h⟩,xR,⟨by simp,by simp⟩,A,⟨by simp,by simp⟩,I⟩,rfl⟩,D1,M,C,E,two (Y:=w) rfl rfl⟩ z
  .have e:bY (n:Int) ((aM.n:Nat):Int)=((n%ls.length:Nat):Int):=by rw[ad];rfl
   have ac:0<ls.length:=by omega
   have ak:n%ls.length<ls.length:=Nat.mod_lt _ ac;rw[e]at S;exact vh (x:=⟨(k:Int),((n%ls.length:Nat):Int),0,[],ba [],[c],[]⟩) (p:=⟨none,0,0⟩) (l:=l) U B y ⟨⟨⟨⟨by show(0:Int)<=k;omega,by show(k:Int)<=5;omega⟩,⟨by show a5 ((n%ls.length:Nat):Int);omega,λ_=>by show(0:Int)<=((n%ls.length:Nat):Int)/\((n%ls.length:Nat):Int)<_;omega⟩,xR,⟨by simp,by simp⟩,A,⟨by simp,by simp⟩,I⟩,rfl⟩,D1,S,C,E,two (Y:=w) rfl rfl⟩ z
 .exact vh (x:=⟨(k:Int),(m:Int),0,[],ba [],[c],[]⟩) (p:=⟨none,0,0⟩) (l:=l) U B y ⟨⟨⟨⟨by show(0:Int)<=k;omega,by show(k:Int)<=5;omega⟩,⟨by show a5 (m:Int);omega,λh=>absurd h V⟩,xR,⟨by simp,by simp⟩,A,⟨by simp,by simp⟩,I⟩,rfl⟩,D1,H,C,E,two (Y:=w) rfl rfl⟩ z
def U6(hx:∀A∈xs,a5 A)(av:xs.length<=9223372036854775807)(ar:cc<=1000)(N:En.rd l0 (xs.map a')∈D)(aj:ls.length<=2):∀(k d:Nat) (st:Sl) (ds:List Sp) (w:J),d+k=cc->ds.length=d->(∀i j,ds[i]? =some j->kf 1 i ls.length j.x)->(∀b∈(cz ds).fp,w0.heap.size<=b)->tZ w0 b4 b5 aM ls st ds D w->
  f'.L2 l0 cc (ae b4) (ae b5) (d:Int) w λr E=>tX w0 D cc r E:=by
 intro k;have done:∀(d:Nat) (st:Sl) (ds:List Sp) (w:J),ds.length<=cc->(∀i j,ds[i]? =some j->kf 1 i ls.length j.x)->(∀b∈(cz ds).fp,w0.heap.size<=b)->tZ w0 b4 b5 aM ls st ds D w->f'.S7 (ae b4) (ae b5) w λr E=>tX w0 D cc r E:=by intro d st ds w af y q e;refine⟨aM,st,e.ld 1 0,e.ld 1 1,e.jC 0 rfl λS G=>G.st 0 1 rfl λF B=>⟨aM,st,B.ld 0 0,B.ld 0 1,aM,st,ls,ds,rfl,?_,q,aj,af,y⟩⟩;exact B.ih [false,false,true,true]
 induction k with
 |zero=>
  intro d st ds w hk O y q e;have ak:=bp.len (e.rd _ (bt _ N):bp w l0 xs);exact f'.kU _ _ _ _ _ _ _ (aG (λ_=>a1 (aV (by omega)) (done d st ds w (by omega) y q e)) (λ_=>done d st ds w (by omega) y q e))
 |succ k am=>
  intro d st ds w hk O y q e;have P:bp w l0 xs:=e.rd _ (bt _ N);have ak:=bp.len P;refine f'.kU _ _ _ _ _ _ _ (aG (λaq=>a3 (aP (by omega)) ?_) (λ_=>done d st ds w (by omega) y q e));have K:xs[d]? =some xs[d]:=a6 (by omega);generalize xs[d]=A at K;have hy:=hx A (aE K);refine⟨by omega,by omega,bp.cell P K (by rw[bF]) λax _ hq=>⟨A,hq,e.call (iY A 1073741824 w (by omega) hy) ?_⟩⟩;rintro _ S rfl G;obtain⟨r1,r2⟩:=iT A 1073741824 (by omega);obtain⟨t,ht⟩:=Int.eq_ofNat_of_zero_le r1;rw[ht]at r2 ⊢;have Z:bY (ao .i64 (bN (t:Int) 18)) 4=((t / 18%4:Nat):Int):=by rw[show bN (t:Int) 18=((t / 18:Nat):Int)from rfl,aS _ (by omega)];rfl
  have e6:bY (t:Int) 6=((t%6:Nat):Int):=rfl;have aa:bY (ao .i64 (bN (t:Int) 6)) 3=((t / 6%3:Nat):Int):=by rw[show bN (t:Int) 6=((t / 6:Nat):Int)from rfl,aS _ (by omega)];rfl
  have ac:ao .i64 (bN (t:Int) 72)=((t / 72:Nat):Int):=by rw[show bN (t:Int) 72=((t / 72:Nat):Int)from rfl,aS _ (by omega)]
  have an:∀L<4,∃c:Int,(c=2\/c=-2\/c=3\/c=-3)/\(#[.i 2,.i (-2),.i 3,.i (-3)]:Array ab)[L]? =some (.i c):=by
   intro L hj
   match L,hj with
   |0,_=>exact⟨2,.inl rfl,rfl⟩
   |1,_=>exact⟨-2,.inr (.inl rfl),rfl⟩
   |2,_=>exact⟨3,.inr (.inr (.inl rfl)),rfl⟩
   |3,_=>exact⟨-3,.inr (.inr (.inr rfl)),rfl⟩
  obtain⟨c,hc,ad⟩:=an (t / 18%4) (Nat.mod_lt _ (by omega));refine⟨(t:Int),rfl,?_⟩;dsimp only;rw[Z,e6,aa,ac];refine G.nY λF _ B al=>⟨by omega,by show((t / 18%4:Nat):Int)<4;omega,qL ⟨c,?_,?_⟩⟩
  .rw [bF,Nat.mul_one];exact cellAt (p:=ae S.heap.size) al rfl (by simpa using ad)
  refine B.cR (n:=1) (sz:=1) (cs:=[c].map a') rfl (by decide) λw3 H=>?_;have ah:∀b∈aw ⟨some (ae F.heap.size),1,1⟩,w0.heap.size<=b:=λb C=>(H.new _ (aE (i:=4) rfl) b C).resolve_right id;have V:LH F0 w0 w3 (hL b4 b5 aM ls st ds) (D++[cz ds]++[.rd ⟨some (ae F.heap.size),1,1⟩ ([c].map a')]):=H.freeze 4 (.rd ⟨some (ae F.heap.size),1,1⟩ ([c].map a')) rfl (aK.i4 (H.get 4)) λb C=>pe C;refine V.nw λw4 _ W=>W.Zp 4 rfl λw5 Y=>?_;refine U7 (k:=t%6) (m:=t / 6%3) (n:=t / 72) (c:=c) (l:=⟨some (ae F.heap.size),1,1⟩) (by omega) (by omega) (by omega) (by omega) (by omega) (by omega) hc Y (λI h=>bt _ (bt _ h)) (bt _ (di _ (bG.2 rfl))) (di _ (bG.2 rfl)) (hn ah) λj ap E ai ag U=>?_;refine am (d+1) ap (ds++[j]) E (by omega) (by simp[O]) (λi I h=>?_) (λb C=>?_) U
  .rw [List.getElem?_append]at h;split at h
   .exact y i I h
   .rename_i au;have:i - ds.length=0:=by
     rcases Nat.eq_zero_or_pos (i - ds.length)with M|M
     .exact M
     .rw [List.getElem?_eq_none (by simp;omega)]at h;cases h
    rw[this]at h;have h:j=I:=by simpa using h
    have hi:i=d:=by omega
    rw[<-h,hi];exact ai
  .obtain ⟨T,z,Q⟩:=dZ.1 C;simp only[gR,cy,aX,b',List.flatMap_nil,dt]at z;rcases z with z|z
   .exact q b (dZ.2 ⟨T,z,Q⟩)
   .exact ag T z b Q
end
def Gd{w:J}{D:List En}{A:Sl}{xs:List Int}(z:∀ac∈xs,a5 ac)(T:xs.length<=9223372036854775807){cc:Nat}(S:cc<=1000)(x:En.rd A (xs.map a')∈D)(H:LH F0 w w [] D):
  ak aa KL #[A.v,.i (cc:Int)] w λr Y=>tX w D cc r Y:=by
 refine f'.ok _ _ w _ (H.nw λB _ I=>I.nw λC _ K=>K.jC 1 rfl λF M=>M.st 1 1 rfl λZ N=>?_);have nil:∀{L:List En} {Y:J},LH F0 w Y L D->LH F0 w Y L (D++[cz []]):=λH=>H.mX _ λh d=>by
  rcases aX.1 d with d|d
  .exact ⟨λE=>E h d,λb j=>⟨h,d,j⟩⟩
  .rw [bG.1 d];exact⟨λ_=>λh d=>by simp[gR]at d,λb j=>by obtain⟨h,d,_⟩:=dZ.1 j;simp[gR]at d⟩
 have O:=(N.h7 il 4).h7 e2 7;have loop:∀(k i:Nat) (aM:Sl) (ls:List Lm) (Y:J),i+k=2->ls.length=i->LH F0 w Y (hL w.heap.size B.heap.size aM ls ⟨none,0,0⟩ []) D->f'.L0 A cc (ae w.heap.size) (ae B.heap.size) (i:Int) Y λr Y=>tX w D cc r Y:=by
  intro k;have next:∀(aM:Sl) (ls:List Lm) (Y:J),ls.length<=2->LH F0 w Y (hL w.heap.size B.heap.size aM ls ⟨none,0,0⟩ []) D->f'.L2 A cc (ae w.heap.size) (ae B.heap.size) 0 Y λr Y=>tX w D cc r Y:=λaM ls Y y e=>
   U6 z T S x y cc 0 ⟨none,0,0⟩ [] Y (by omega) rfl (λi ad E=>by simp at E) (λb j=>by obtain⟨h,d,_⟩:=dZ.1 j;simp[gR]at d) (nil e)
  induction k with
  |zero=>
   intro i aM ls Y Q y e;refine f'.bE _ _ _ _ _ _ _ (e.call (p' (e.rd _ x) z 0 3 (by omega)) ?_);rintro _ C ⟨t,rfl,V,W⟩ q;exact⟨_,rfl,a1 (aV (by omega)) (next aM ls C (by omega) q)⟩
  |succ k U=>
   intro i aM ls Y Q y e;refine f'.bE _ _ _ _ _ _ _ (e.call (p' (e.rd _ x) z 0 3 (by omega)) ?_);rintro _ C ⟨t,rfl,V,W⟩ q;refine⟨_,rfl,aG (λ_=>?_) (λ_=>next aM ls C (by omega) q)⟩;refine U8 q (by omega) (λaf G=>⟨xs,G.rd _ x,z⟩) λs ab F P=>?_;show f'.L0 _ _ _ _ (ao .i64 _) _ _;rw[bd _ (by omega)];exact U (i+1) s (ls++[ab]) F (by omega) (by simp[y]) P
 exact loop 2 0 ⟨none,0,0⟩ [] Z rfl rfl O
def _root_.Go.W.LH.Hh{M:Nat->Prop}{w0 w Y:J}{G q D X:List En}(H:LH M w0 w G D)(e:LH F0 w Y q (D++X))(y:∀h∈X,∀b∈h.fp,w.heap.size<=b):LH M w0 Y (G++q) (D++X):=by
 have x:LH M w0 w (G++[]) D:=by rw[dt];exact H
 refine x.Bp (L:=[]) ⟨e.fr.mono λ_ _ k=>k.elim,e.own,e.rd,λh d b j=>(e.new h d b j).imp id λk=>k.elim,e.nd,e.dj⟩ λh d b j=>?_;rcases aX.1 d with d|d
 .exact .inr ⟨h,d,j⟩
 .exact .inl (y h d b j)
section
variable {w0:J} {b6 b7:Nat} {m1 aM st:Sl} {ms:List Int} {D:List En}
abbrev hq(b6 b7:Nat)(aM:Sl)(ls:List Lm)(st:Sl)(ds:List Sp):List En:=[.g b6,.g b7,.row il 4 aM (ls.flatMap Lm.cs),.row e2 7 st (ds.flatMap Sp.c)]
def Lm.set{l:List Lm}{i:Nat}(U:i<l.length)(x:Lm):((((l.flatMap Lm.cs).set (i *4+0) x.g.v).set (i *4+1) x.h.v).set (i *4+2) x.c.v).set (i *4+3) x.s.v=(l.set i x).flatMap Lm.cs:=by
 induction l generalizing i with
 |nil=>simp at U
 |cons a l k=>
  cases i with
  |zero=>simp[Lm.cs]
  |succ i=>
   have j:a.cs.length=4:=rfl;have U:i<l.length:=by simpa using U
   have e:∀d,(i+1) *4+d=a.cs.length+(i *4+d):=λd=>by rw[j];omega
   simp only[b',List.set_cons_succ,e];rw[List.set_append_right _ _ (by omega),List.set_append_right _ _ (by simp),List.set_append_right _ _ (by simp),List.set_append_right _ _ (by simp)];simp only[Nat.add_sub_cancel_left];rw[k U]
def Y9{X:List En}{ls:List Lm}{ds:List Sp}{w:J}{i:Nat}{K:J->Prop}{V:List Nat}(x:Lm)(H:LH F0 w0 w (hq b6 b7 aM ls st ds++X) D)(U:i<ls.length)(br:∀b∈V,En.g b∈[En.g b6,En.g b7]++X)(O:∀F,LH F0 w0 F (hq b6 b7 aM (ls.set i x) st ds++X) D->K F):
  e8 aM (i:Int) λp=>aQ w (p.add (aZ (i:Int) *4)) x.g.v λk=>kept V w k/\aQ k ((p.add (aZ (i:Int) *4)).add 1) x.h.v λq=>kept V k q/\aQ q ((p.add (aZ (i:Int) *4)).add 2) x.c.v λy=>kept V q y/\aQ y ((p.add (aZ (i:Int) *4)).add 3) x.s.v λz=>kept V y z/\K z:=by
 have E:aK w il 4 aM (ls.flatMap Lm.cs):=H.get 2;have Q:=E.len;have A:=Lm.len ls;rw[A]at Q;have j:∀(B C:En),∀b∈V,En.g b∈(En.g b6::En.g b7::B::C::X):=λB C b d=>by
  have:=br b d;simp only[i2,List.nil_append,av]at this ⊢;rcases this with d|d|d
  .exact .inl d
  .exact .inr (.inl d)
  .exact .inr (.inr (.inr (.inr d)))
 obtain⟨p,e⟩:∃p,aM.a=some p:=by
  rcases E.cases with⟨S,N⟩|⟨g,cur,P,_⟩
  .rw [N]at A;simp at A;omega
  .exact ⟨_,P⟩
 rw[bF];refine⟨by omega,by omega,De e (H.qY 2 (i *4) rfl e (by omega) (br:=j _ _) λk G=>G.oc 2 (i *4) 1 rfl e (by simp only[i3];omega) (br:=j _ _) λq I=>I.oc 2 (i *4) 2 rfl e (by simp only[i3];omega) (br:=j _ _) λy L=>L.oc 2 (i *4) 3 rfl e (by simp only[i3];omega) (br:=j _ _) λz M=>O z ?_)⟩;unfold hq;rw[<-Lm.set U x];exact M
def Sp.set{l:List Sp}{i:Nat}{d:Sp}(U:l[i]? =some d)(j:Nat)(q:j<7)(v:ab)(d':Sp)(k:d'.c=d.c.set j v):(l.flatMap Sp.c).set (i *7+j) v=(l.set i d').flatMap Sp.c:=by
 induction l generalizing i with
 |nil=>simp at U
 |cons a l w=>
  cases i with
  |zero=>
   simp only[List.getElem?_cons_zero,eH]at U;subst U;simp only[b',List.set_cons_zero,Nat.zero_mul,Nat.zero_add];rw[List.set_append_left _ _ (by rw[Sp.jj];exact q),k]
  |succ i=>
   have h:a.c.length=7:=rfl;simp only[List.getElem?_cons_succ]at U;have e:(i+1) *7+j=a.c.length+(i *7+j):=by rw[h];omega
   simp only[b',List.set_cons_succ,e];rw[List.set_append_right _ _ (by omega),Nat.add_sub_cancel_left,w U]
def zd{X:List En}{ls:List Lm}{ds:List Sp}{w:J}{i:Nat}{d d':Sp}{K:J->Prop}(H:LH F0 w0 w (hq b6 b7 aM ls st ds++X) D)(U:ds[i]? =some d)(j:Nat)(E:j<7)(v:ab)(C:d'.c=d.c.set j v)(A:∀x,LH F0 w0 x (hq b6 b7 aM ls st (ds.set i d')++X) D->K x):
  e8 st (i:Int) λp=>aQ w ((p.add (aZ (i:Int) *7)).add j) v λe=>kept [b6,b7] w e/\K e:=by
 have k:aK w e2 7 st (ds.flatMap Sp.c):=H.get 3;have F:=k.len;have h:=Sp.eW ds;have I:=(bO.1 U).1;rw[h]at F;obtain⟨p,q⟩:∃p,st.a=some p:=by
  rcases k.cases with⟨G,z⟩|⟨g,cur,B,_⟩
  .rw [z]at h;simp at h;omega
  .exact ⟨_,B⟩
 rw[bF];refine⟨by omega,by omega,De q (H.oc 3 (i *7) j rfl q (by omega) λe y=>A e ?_)⟩;unfold hq;rw[<-Sp.set U j E v d' C];exact y
structure w5(w0:J)(Wd:Nat)(ds:List Sp):Prop where
 g:∀i d,ds[i]? =some d->kf 2 i Wd d.x
 f:∀b∈(cz ds).fp,w0.heap.size<=b
def T5:gz []=0:=by decide
def Cl{ds:List Sp}{i:Nat}{d':Sp}{e:En}(q:e∈gR (ds.set i d')):e∈gR ds\/e∈[d'.pE,d'.hE,d'.lE]:=by
 obtain⟨j,k,h⟩:=bA.1 q;rcases List.mem_or_eq_of_mem_set k with d|d
 .exact .inl (bA.2 ⟨j,d,h⟩)
 .rw [d]at h;exact .inr h
def zb{M:Nat->Prop}{w:J}{L D:List En}{ds:List Sp}{i:Nat}{d':Sp}(H:LH M w0 w L D)(q:cz ds∈D)(y:List En)(z:∀d∈y,d∈D)(A:∀d∈[d'.pE,d'.hE,d'.lE],(d∈D\/d∈gR ds)\/(d.fp=[]/\∀w,d.P w)):LH M w0 w L (y++[cz (ds.set i d')]):=by
 refine H.mX _ λd e=>?_;rcases aX.1 e with e|e
 .exact ⟨λj=>j d (z d e),λb x=>⟨d,z d e,x⟩⟩
 .rw [bG.1 e];refine⟨λj d e=>?_,λb x=>?_⟩
  .rcases Cl e with e|e
   .exact j (cz ds) q d e
   .rcases A d e with(h|h)|h
    .exact j d h
    .exact j (cz ds) q d h
    .exact h.2 w
  .obtain ⟨d,e,k⟩:=dZ.1 x;rcases Cl e with e|e
   .exact ⟨cz ds,q,dZ.2 ⟨d,e,k⟩⟩
   .rcases A d e with(h|h)|h
    .exact ⟨d,h,k⟩
    .exact ⟨cz ds,q,dZ.2 ⟨d,h,k⟩⟩
    .rw [h.1]at k;cases k
def w5.set{w:Nat}{ds:List Sp}{i:Nat}{d':Sp}(h:w5 w0 w ds)(U:i<ds.length)(B:kf 2 i w d'.x)(A:∀d∈[d'.pE,d'.hE,d'.lE],d∈gR ds\/∀b∈d.fp,w0.heap.size<=b):w5 w0 w (ds.set i d'):=by
 refine⟨λC y j=>?_,λb z=>?_⟩
 .rw [List.getElem?_set]at j;split at j
  .rename_i d;subst d;cases j;exact B
  .exact h.g C y j
 .obtain ⟨d,e,q⟩:=dZ.1 z;rcases Cl e with e|e
  .exact h.f b (dZ.2 ⟨d,e,q⟩)
  .rcases A d e with k|k
   .exact h.f b (dZ.2 ⟨d,k,q⟩)
   .exact k b q
abbrev kX(w0:J)(b6 b7:Nat)(aM:Sl)(ls:List Lm)(st:Sl)(ds:List Sp)(D:List En)(w:J):Prop:=LH F0 w0 w (hq b6 b7 aM ls st ds) (D++[cz ds])/\w5 w0 ls.length ds
section
variable {ls:List Lm} {R:aH}
def Pl{i n:Nat}{ds:List Sp}{d:Sp}{w:J}(U:ds[i]? =some d)(Q:i<1000000)(H:kX w0 b6 b7 aM ls st ds D w)(N:∀e q,e.length=ds.length->(∀k,k≠i->e[k]? =ds[k]?)->kX w0 b6 b7 aM ls st e D q->gB.kh m1 b6 ⟨none,0,0⟩ ⟨none,0,0⟩ b7 aM st ((i+1:Nat):Int) q R):
  gB.mD m1 b6 ⟨none,0,0⟩ ⟨none,0,0⟩ b7 aM st (i:Int) (n:Int) w R:=by
 obtain⟨E,C⟩:=H;have y:=C.g i d U;have M:=(bO.1 U).1;have nx:∀e q,e.length=ds.length->(∀k,k≠i->e[k]? =ds[k]?)->kX w0 b6 b7 aM ls st e D q->gB.pT m1 b6 ⟨none,0,0⟩ ⟨none,0,0⟩ b7 aM st (i:Int) q R:=λe q I L K=>by have:=N e q I L K;rw[<-bd i (by omega)]at this;exact this
 refine aL (λ_=>?_) (λ_=>nx ds w rfl (λ_ _=>rfl) ⟨E,C⟩)
 let z:Sp:=⟨⟨d.x.kind,d.x.node,d.x.du,d.x.params,d.x.nm,[],d.x.hints⟩,d.p,⟨none,0,0⟩,d.h⟩
 have O:=aE U;have B:∀A∈[d.pE,d.hE,d.lE],A∈gR ds:=λA j=>bA.2 ⟨d,O,j⟩;refine zd (X:=[]) E U 5 (by omega) (.slice none 0 0) (d':=z) rfl λP G=>nx (ds.set i z) P (by simp) (λk S=>yO (by omega)) ⟨?_,C.set M ⟨y.kind,y.node,y.du,y.params,⟨T5,by simp[z],by simp[z]⟩,y.hints,y.nm⟩ λA j=>?_⟩
 .refine zb G (by simp) D (λA j=>bt _ j) λA j=>?_;simp only[av,aR,aT]at j;rcases j with rfl|rfl|rfl
  .exact .inl (.inr (B d.pE (by simp)))
  .exact .inl (.inr (B d.hE (by simp)))
  .exact .inr sN
 .simp only[av,aR,aT]at j;rcases j with rfl|rfl|rfl
  .exact .inl (B d.pE (by simp))
  .exact .inl (B d.hE (by simp))
  .exact .inr λb F=>by rw[show(z.lE).fp=[]from sN.1]at F;cases F
def Pk{i n:Nat}{ds:List Sp}{d:Sp}{w:J}(U:ds[i]? =some d)(F:i<1000000)(Q:n<1048576)(K:kX w0 b6 b7 aM ls st ds D w)(G:∀y A,y.length=ds.length->(∀z,z≠i->y[z]? =ds[z]?)->kX w0 b6 b7 aM ls st y D A->gB.kh m1 b6 ⟨none,0,0⟩ ⟨none,0,0⟩ b7 aM st ((i+1:Nat):Int) A R):
  gB.hC m1 b6 ⟨none,0,0⟩ ⟨none,0,0⟩ b7 aM st (i:Int) (n:Int) w R:=by
 obtain⟨C,B⟩:=K;have q:=B.g i d U;have E:=(bO.1 U).1;refine aL (λ_=>?_) (λ_=>Pl U F ⟨C,B⟩ G);have e:ao .i64 (0 - (n:Int))=-(n:Int):=by rw[aS _ (by omega)];omega
 rw[e]
 let k:Sp:=⟨⟨d.x.kind,d.x.node,-(n:Int),d.x.params,d.x.nm,d.x.b0,d.x.hints⟩,d.p,d.l,d.h⟩
 have P:=aE U;have H:∀e∈[k.pE,k.hE,k.lE],e∈gR ds:=λe j=>bA.2 ⟨d,P,j⟩;refine zd (X:=[]) C U 2 (by omega) (.i (-(n:Int))) (d':=k) rfl λS I=>Pl (ds:=ds.set i k) (d:=k) (by simp[E]) F ⟨?_,B.set E ⟨q.kind,q.node,⟨by show _<=-(n:Int);omega,by show -(n:Int)<=_;omega⟩,q.params,q.b0,q.hints,q.nm⟩ λe j=>.inl (H e j)⟩ λy A L N M=>G y A (by rw[L];simp) (λz O=>by rw[N z O,yO (by omega)]) M;exact zb I (by simp) D (λe j=>bt _ j) λe j=>.inl (.inr (H e j))
end
end
set_option maxHeartbeats 2000000
section
variable {w0:J} {b6 b7:Nat} {m1 aM st:Sl} {D:List En} {ls:List Lm} {R:aH}
def Yv{w:J}{s:Sl}{l:List Int}(h:bp w s l):bx 1 w s (l.map a'):=⟨by rw[h.1,Nat.mul_one],h.2.1,h.2.2⟩
def UQ(n:Int)(j:Nat)(e:j<5)(h:0<=n/\n<=1048576):∃d:Int,a5 d/\([.i n,.i (-n),.i 9223372036854775807,.i (-9223372036854775808),.i 0]:List ab)[j]? =some (.i d):=by
 match j,e with
 |0,_=>exact⟨n,by omega,rfl⟩
 |1,_=>exact⟨-n,by omega,rfl⟩
 |2,_=>exact⟨_,by decide,rfl⟩
 |3,_=>exact⟨_,by decide,rfl⟩
 |4,_=>exact⟨_,by decide,rfl⟩
def Pj{i n:Nat}{ds:List Sp}{d:Sp}{w:J}(U:ds[i]? =some d)(ah:i<1000000)(aj:n<1048576)(am:kX w0 b6 b7 aM ls st ds D w)(aB:d.x.params.length<=1)(hk:∀W Y,W.length=ds.length->(∀aa,aa≠i->W[aa]? =ds[aa]?)->kX w0 b6 b7 aM ls st W D Y->gB.kh m1 b6 ⟨none,0,0⟩ ⟨none,0,0⟩ b7 aM st ((i+1:Nat):Int) Y R):
  gB.jM m1 b6 ⟨none,0,0⟩ ⟨none,0,0⟩ b7 aM st (i:Int) (n:Int) w R:=by
 obtain⟨T,ad⟩:=am;have K:=ad.g i d U;have ag:=(bO.1 U).1;have hm:=aE U;have ac:∀Z∈[d.pE,d.hE,d.lE],Z∈gR ds:=λZ F=>bA.2 ⟨d,hm,F⟩;refine aL (λ_=>?_) (λ_=>Pk U ah aj ⟨T,ad⟩ hk);have au:ao .i64 (bN (n:Int) 5)=((n / 5:Nat):Int):=by rw[show bN (n:Int) 5=((n / 5:Nat):Int)from rfl,aS _ (by omega)]
 have ax:bY ((n / 5:Nat):Int) 5=((n / 5%5:Nat):Int):=rfl;have ar:ao .i64 (0 - (n:Int))=-(n:Int):=by rw[aS _ (by omega)];omega
 have aq:n / 5%5<5:=Nat.mod_lt _ (by omega);obtain⟨e,hy,ap⟩:=UQ (n:Int) (n / 5%5) aq (by omega);have row:∀{Y:J} {X:List En},LH F0 w0 Y (hq b6 b7 aM ls st ds++X) (D++[cz ds])->hV Y st ds:=λj=>⟨(j.get 3:aK _ _ _ _ _).bc,tu.1 (j.rd (cz ds) (by simp))⟩;have aD:=(row (X:=[]) T).n;refine⟨by omega,by omega,(row (X:=[]) T).get' U λp hp _=>?_⟩;have E:∀{Y:J} {X:List En},LH F0 w0 Y (hq b6 b7 aM ls st ds++X) (D++[cz ds])->Y.cell? ((p.add (aZ (i:Int) *7)).add 3)=some d.p.v:=λj=>by rw[bF];exact((row j).again U hp).c3
 have S:∀{Y:J} {X:List En},LH F0 w0 Y (hq b6 b7 aM ls st ds++X) (D++[cz ds])->bx 1 Y d.p (d.x.params.map a'):=λj=>Yv ((row j).2 d hm).1;have aC:d.p.n=d.x.params.length:=bp.len ((row (X:=[]) T).2 d hm).1;have fin:∀(t:Sl) (Y:J),LH F0 w0 Y (hq b6 b7 aM ls st ds++[.row bR 1 t ((d.x.params++[e]).map a')]) (D++[cz ds])->
   e8 st (i:Int) λay=>aQ Y ((ay.add (aZ (i:Int) *7)).add 3) t.v λw7=>kept [b6,b7] Y w7/\gB.hC m1 b6 ⟨none,0,0⟩ ⟨none,0,0⟩ b7 aM st (i:Int) (n:Int) w7 R:=by
  intro t Y j;have an:∀b∈aw t,w0.heap.size<=b:=λb hb=>(j.new _ (aE (i:=4) rfl) b hb).resolve_right id
  let ab:Sp:=⟨⟨d.x.kind,d.x.node,d.x.du,d.x.params++[e],d.x.nm,d.x.b0,d.x.hints⟩,t,d.l,d.h⟩
  refine zd (X:=[.row bR 1 t ((d.x.params++[e]).map a')]) j U 3 (by omega) t.v (d':=ab) rfl λw7 H7=>?_;have I:LH F0 w0 w7 (hq b6 b7 aM ls st (ds.set i ab)) (D++[cz ds]++[.rd t ((d.x.params++[e]).map a')]):=H7.freeze 4 (.rd t ((d.x.params++[e]).map a')) rfl (aK.i4 (H7.get 4)) λb hb=>pe hb;refine Pk (ds:=ds.set i ab) (d:=ab) (by simp[ag]) ah aj ⟨?_,ad.set ag ⟨K.kind,K.node,K.du,⟨λal hz=>?_,by show(d.x.params++[e]).length<=2;simp;omega⟩,K.b0,K.hints,K.nm⟩ λZ F=>?_⟩ λW Y h1 h3 h2=>hk W Y (by rw[h1];simp) (λaa hj=>by rw[h3 aa hj,yO (by omega)]) h2
  .refine zb I (by simp) D (λZ F=>by simp[F]) λZ F=>?_;simp only[av,aR,aT]at F;rcases F with rfl|rfl|rfl
   .exact .inl (.inl (di _ (bG.2 rfl)))
   .exact .inl (.inr (ac d.hE (by simp)))
   .exact .inl (.inr (ac d.lE (by simp)))
  .have hz:al∈d.x.params++[e]:=hz;rcases aX.1 hz with af|af
   .exact K.params.1 al af
   .rw [bG.1 af];exact hy
  .simp only[av,aR,aT]at F;rcases F with rfl|rfl|rfl
   .exact .inr (hn an)
   .exact .inl (ac d.hE (by simp))
   .exact .inl (ac d.lE (by simp))
 refine T.ai λw1 H1=>⟨d.p,E (X:=[]) H1,?_⟩;rw[ar,au,ax,bF (n / 5%5)];have i0:(0:Int)<=((n / 5%5:Nat):Int):=by omega
 have i5:((n / 5%5:Nat):Int)<((5:Nat):Int):=by omega
 have Q:(0+d.p.n) *8<=140737488355328:=by omega
 have O:∀{b:Nat} {Y:J} {L:List En} (k:Nat),LH F0 w0 Y L (D++[cz ds])->L[k]? =some (.c b [.i (n:Int),.i (-(n:Int)),.i 9223372036854775807,.i (-9223372036854775808),.i 0] bR)->Y.cell? ((ae b).add (n / 5%5 *1))=some (.i e):=λk j hL=>by rw[Nat.mul_one];exact j.ld k _ hL ap
 have P:∀{Y:J} {L:List En} {t:Sl} (k:Nat),LH F0 w0 Y L (D++[cz ds])->L[k]? =some (.row bR 1 t (d.x.params.map a'))->(t.n+1) *8<=140737488355328:=λk j hL=>by have:=(j.get k hL:aK _ _ _ _ _).len;simp only[yR,Nat.mul_one]at this;omega
 have N:d.x.params.map a'++[Value.i e]=(d.x.params++[e]).map a':=by rw[g2];rfl
 refine⟨H1.cR (n:=0) (sz:=1) (cs:=[]) rfl (by decide) λw2 C=>⟨E (X:=[_]) C,?_,?_⟩,H1.nw λw2 _ C=>⟨E (X:=[_]) C,i0,i5,qL ⟨e,O 4 C rfl,?_,?_⟩⟩⟩
 .
  refine C.dd 4 h4 (s:=⟨some (ae w1.heap.size),0,0⟩) (src:=d.p) (news:=d.x.params.map a') rfl (S (X:=[_]) C) (qu _) Q λt w3 B=>?_;refine B.nw λw4 _ M=>⟨i0,i5,qL ⟨e,O 5 M rfl,M.nw λw5 _ H5=>?_⟩⟩;refine H5.dd 4 h4 (s:=t) (src:=⟨some (ae w4.heap.size),1,1⟩) (news:=[.i e]) rfl (na (H5.get 6) rfl) (by simp[Value.oneCell']) (P 4 H5 rfl) λz A y=>fin z A ?_;rw[<-N];exact y.take 5
 .refine C.nw λw8 _ I=>⟨E (X:=[_,_]) I,i0,i5,qL ⟨e,O 5 I rfl,?_,?_⟩⟩
  .
   refine I.dd 4 h4 (s:=⟨some (ae w1.heap.size),0,0⟩) (src:=d.p) (news:=d.x.params.map a') rfl (S (X:=[_,_]) I) (qu _) Q λt w9 V=>?_;refine⟨O 5 V rfl,V.nw λaz _ G=>?_⟩;refine G.dd 4 h4 (s:=t) (src:=⟨some (ae w9.heap.size),1,1⟩) (news:=[.i e]) rfl (na (G.get 6) rfl) (by simp[Value.oneCell']) (P 4 G rfl) λz A y=>fin z A ?_;rw[<-N];exact y.take 5
  .
   refine I.nw λaA _ H=>⟨E (X:=[_,_,_]) H,?_⟩;refine H.dd 4 h4 (s:=⟨some (ae w1.heap.size),0,0⟩) (src:=d.p) (news:=d.x.params.map a') rfl (S (X:=[_,_,_]) H) (qu _) Q λt ak q=>?_;refine q.dd 4 h4 (s:=t) (src:=⟨some (ae w8.heap.size),1,1⟩) (news:=[.i e]) rfl (na (q.get 6) rfl) (by simp[Value.oneCell']) (P 4 q rfl) λz A y=>fin z A ?_;rw[<-N];exact y.take 5
 .refine C.cR (n:=0) (sz:=1) (cs:=[]) rfl (by decide) λw3 B=>⟨O 4 B rfl,E (X:=[_,_]) B,?_,?_⟩
  .
   refine B.dd 5 h4 (s:=⟨some (ae w2.heap.size),0,0⟩) (src:=d.p) (news:=d.x.params.map a') rfl (S (X:=[_,_]) B) (qu _) Q λt w9 V=>?_;refine⟨O 4 V rfl,V.nw λaz _ G=>?_⟩;refine G.dd 5 h4 (s:=t) (src:=⟨some (ae w9.heap.size),1,1⟩) (news:=[.i e]) rfl (na (G.get 6) rfl) (by simp[Value.oneCell']) (P 5 G rfl) λz A y=>fin z A ?_;rw[<-N];exact y.ih [true,true,true,true,false,true,false]
  .
   refine B.nw λaA _ H=>⟨E (X:=[_,_,_]) H,?_⟩;refine H.dd 5 h4 (s:=⟨some (ae w2.heap.size),0,0⟩) (src:=d.p) (news:=d.x.params.map a') rfl (S (X:=[_,_,_]) H) (qu _) Q λt ak q=>?_;refine q.dd 5 h4 (s:=t) (src:=⟨some (ae w3.heap.size),1,1⟩) (news:=[.i e]) rfl (na (q.get 6) rfl) (by simp[Value.oneCell']) (P 5 q rfl) λz A y=>fin z A ?_;rw[<-N];exact y.ih [true,true,true,true,false,true,false]
 .
  refine C.nw λw3 _ B=>⟨E (X:=[_,_]) B,B.cR (n:=0) (sz:=1) (cs:=[]) rfl (by decide) λw4 M=>⟨E (X:=[_,_,_]) M,?_⟩⟩;refine M.dd 6 h4 (s:=⟨some (ae w3.heap.size),0,0⟩) (src:=d.p) (news:=d.x.params.map a') rfl (S (X:=[_,_,_]) M) (qu _) Q λt ak q=>?_;refine q.dd 6 h4 (s:=t) (src:=⟨some (ae w2.heap.size),1,1⟩) (news:=[.i e]) rfl (na (q.get 5) rfl) (by simp[Value.oneCell']) (P 6 q rfl) λz A y=>fin z A ?_;rw[<-N];exact y.ih [true,true,true,true,false,false,true]
def Wv(a b:Nat)(y:a<4)(z:b<1000):gz [2,-3 - (a:Int),9+(b:Int)]=0/\(∀e∈[2,-3 - (a:Int),9+(b:Int)],a5 e):=by
 have q:kz 2=true:=by decide
 have w:kz (-3 - (a:Int))=true:=vt.2 (by omega);have x:kz (9+(b:Int))=true:=vt.2 (by omega);have h:[2,-3 - (a:Int),9+(b:Int)].all kz=true:=by rw[List.all_cons,List.all_cons,List.all_cons,q,w,x];rfl
 have k:mW [2,-3 - (a:Int),9+(b:Int)]=true:=by unfold mW;rw[aP (by omega),Bool.true_and];unfold mW;rw[aP (by omega)];rfl
 have j:lj [2,-3 - (a:Int),9+(b:Int)]=0:=by unfold lj;rw[af (by simp only[db,fC];omega),h];rfl
 refine⟨by unfold gz;rw[j,k];rfl,λe d=>?_⟩;simp only[av,aR,aT]at d;rcases d with rfl|rfl|rfl<;>omega
def Y8{ms:List Int}{N:Nat}(al:N<=1000)(hx:∀ak∈ms,a5 ak)(hm:En.rd m1 (ms.map a')∈D)(hk:∀ds E,ds.length=N->kX w0 b6 b7 aM ls st ds D E->∀Y,LH F0 w0 Y (hq b6 b7 aM ls st ds) (D++[cz ds])->R (ag (.agg #[aM.v,st.v])) Y):∀(k i:Nat) (ds:List Sp) (w:J),i+k=ds.length->ds.length=N->(∀j e,i<=j->ds[j]? =some e->e.x.params.length<=1)->kX w0 b6 b7 aM ls st ds D w->
  gB.kh m1 b6 ⟨none,0,0⟩ ⟨none,0,0⟩ b7 aM st (i:Int) w R:=by
 intro k;induction k with
 |zero=>
  intro i ds w ad T L q;have aj:=hV.n (w:=w) (s:=st) (l:=ds) ⟨(q.1.get 3:aK _ _ _ _ _).bc,tu.1 (q.1.rd (cz ds) (by simp))⟩;exact gB.uf _ _ _ _ _ _ _ _ _ _ (a1 (aV (by omega)) (q.1.ai λA K=>hk ds w T q A K))
 |succ k ih=>
  intro i ds w ad T L q;have aj:=hV.n (w:=w) (s:=st) (l:=ds) ⟨(q.1.get 3:aK _ _ _ _ _).bc,tu.1 (q.1.rd (cz ds) (by simp))⟩;obtain⟨e,B⟩:∃e,ds[i]? =some e:=⟨ds[i],a6 (by omega)⟩;have U:=(bO.1 B).1;have ah:En.rd m1 (ms.map a')∈D++[cz ds]:=bt _ hm;have nx:∀H:List Sp,H.length=ds.length->(∀j,j≠i->H[j]? =ds[j]?)->∀G E,G.length=H.length->(∀j,j≠i->G[j]? =H[j]?)->kX w0 b6 b7 aM ls st G D E->gB.kh m1 b6 ⟨none,0,0⟩ ⟨none,0,0⟩ b7 aM st ((i+1:Nat):Int) E R:=λH e1 e2 G E h1 h2 Y'=>
   ih (i+1) G E (by omega) (by omega) (λj e hj hd=>L j e (by omega) (by rw[<-e2 j (by omega),<-h2 j (by omega)];exact hd)) Y'
  refine gB.uf _ _ _ _ _ _ _ _ _ _ (a3 (aP (by omega)) (q.1.ay (p' (q.1.rd _ ah) hx _ 1048576 (by omega)) ?_));rintro _ A ⟨n',rfl,n1,n2⟩ K;obtain⟨n,rfl⟩:=Int.eq_ofNat_of_zero_le n1;have Y1:kX w0 b6 b7 aM ls st ds D A:=⟨K,q.2⟩;have C:=q.2.g i e B;refine⟨_,rfl,aL (λ_=>?_) (λ_=>Pj B (by omega) (by omega) Y1 (L i e (bg _) B) (nx ds rfl λ_ _=>rfl))⟩;have e4:ao .i64 (-3 - bY (n:Int) 4)=-3 - ((n%4:Nat):Int):=by rw[show bY (n:Int) 4=((n%4:Nat):Int)from rfl,aS _ (by omega)]
  have e9:ao .i64 (9+bY (n:Int) 1000)=9+((n%1000:Nat):Int):=by rw[show bY (n:Int) 1000=((n%1000:Nat):Int)from rfl,aS _ (by omega)]
  rw[e4,e9];obtain⟨V,W⟩:=Wv (n%4) (n%1000) (Nat.mod_lt _ (by omega)) (Nat.mod_lt _ (by omega));obtain⟨y,P⟩:∃y,y=[2,-3 - ((n%4:Nat):Int),9+((n%1000:Nat):Int)]:=⟨_,rfl⟩;have aa:(#[.i 2,.i (-3 - ((n%4:Nat):Int)),.i (9+((n%1000:Nat):Int))]:Array ab)=(y.map a').toArray:=by rw[P];rfl
  rw[<-P]at V W;have af:y.length=3:=by rw[P];rfl
  rw[aa];refine K.cR (n:=3) (sz:=1) (cs:=y.map a') (by simp[af]) (by decide) λw2 Q=>?_;have ac:∀b∈aw ⟨some (ae A.heap.size),3,3⟩,w0.heap.size<=b:=λb O=>(Q.new _ (aE (i:=4) rfl) b O).resolve_right id
  let F:Sp:=⟨⟨e.x.kind,e.x.node,e.x.du,e.x.params,e.x.nm,y,e.x.hints⟩,e.p,⟨some (ae A.heap.size),3,3⟩,e.h⟩
  have M:∀I∈[e.pE,e.hE,e.lE],I∈gR ds:=λI z=>bA.2 ⟨e,aE B,z⟩;refine zd (X:=[.row bR 1 ⟨some (ae A.heap.size),3,3⟩ (y.map a')]) Q B 5 (by omega) (.slice (some (ae A.heap.size)) 3 3) (d':=F) rfl λw7 S=>?_;have Z:LH F0 w0 w7 (hq b6 b7 aM ls st (ds.set i F)) (D++[cz ds]++[.rd ⟨some (ae A.heap.size),3,3⟩ (y.map a')]):=S.freeze 4 (.rd ⟨some (ae A.heap.size),3,3⟩ (y.map a')) rfl (aK.i4 (S.get 4)) λb O=>pe O;refine Pj (ds:=ds.set i F) (d:=F) (by simp[U]) (by omega) (by omega) ⟨?_,q.2.set U ⟨C.kind,C.node,C.du,C.params,⟨V,W,by show y.length<=3;omega⟩,C.hints,C.nm⟩ λI z=>?_⟩ (L i e (bg _) B) (nx (ds.set i F) (by simp) λj hj=>yO (by omega))
  .refine zb Z (by simp) D (λI z=>by simp[z]) λI z=>?_;simp only[av,aR,aT]at z;rcases z with rfl|rfl|rfl
   .exact .inl (.inr (M e.pE (by simp)))
   .exact .inl (.inr (M e.hE (by simp)))
   .exact .inl (.inl (di _ (bG.2 rfl)))
  .simp only[av,aR,aT]at z;rcases z with rfl|rfl|rfl
   .exact .inl (M e.pE (by simp))
   .exact .inl (M e.hE (by simp))
   .exact .inr (hn ac)
end
def fL(d:Sp):Sp:=⟨⟨if d.x.kind=4 then 5 else d.x.kind,d.x.node,d.x.du,d.x.params,d.x.nm,d.x.b0,d.x.hints⟩,d.p,d.l,d.h⟩
def Im{pl i aM:Nat}{s:cv}(h:kf pl i aM s)(q:pl<=40)(U:i<=1000):jg 40 s:=by
 have k:=h.kind;have d:=h.node.1;refine⟨⟨by omega,d,h.du⟩,⟨by have:=h.params.2;omega,h.params.1⟩,⟨by have:=h.b0.2.2;omega,h.b0.2.1⟩,⟨by have:=h.hints.2;omega,λj e=>by have:=h.hints.1 j e;omega⟩,?_⟩;have:∀t∈vJ,t.size<=40:=by decide
 exact this _ h.nm
def jg.fL{n:Nat}{d:Sp}(h:jg n d.x):jg n (fL d).x:=by
 refine⟨⟨?_,h.k.2⟩,h.p,h.l,h.h,h.t⟩;show a5 (if d.x.kind=4 then 5 else d.x.kind);split
 .decide
 .exact h.k.1
def Vu{pl i aM:Nat}{d:Sp}(h:kf pl i aM d.x):(fL d).x.kind≠4/\hP (fL d).x (i:Int) 0=0:=by
 have e:(fL d).x.kind≠4/\¬((fL d).x.kind<0\/(fL d).x.kind>5):=by have:=h.kind;show(if d.x.kind=4 then 5 else d.x.kind)≠4/\¬((if d.x.kind=4 then 5 else d.x.kind)<0\/(if d.x.kind=4 then 5 else d.x.kind)>5);split<;>omega
 have j:¬(bl (fL d).x.nm≠[]/\gg (bl (fL d).x.nm)=false):=by
  have:∀t∈vJ,¬(bl t≠[]/\gg (bl t)=false):=by decide
  exact this _ h.nm
 refine⟨e.1,?_⟩;rw[Py e.2 h.b0.1 j,aj,af (λh=>e.1 h.1)];rw[List.all_eq_true];intro q k;have:=h.hints.1 q k;rw[aP (by omega),aP (by omega)];rfl
def Il{pl aM:Nat}:∀{l:List Sp} {i:Nat},(∀(j:Nat) (d:Sp),l[j]? =some d->kf pl (i+j) aM d.x)->jt (cC (l.map fL)) (i:Int)=0
 |[],_,_=>rfl
 |d::l,i,e=>by
  obtain⟨q,h⟩:=Vu (e 0 d rfl);rw[Nat.add_zero]at h;have w:=Il (l:=l) (i:=i+1) λj k y=>by
   have:=e (j+1) k y
   rwa[show i+(j+1)=i+1+j by omega]at this
  show jt ((fL d).x::cC (l.map fL)) (i:Int)=0;rw[Jv q h];exact w
structure t'(y:Lx):Prop where
 e:ky y=0
 g:hU (xs y.gl)
 n:y.ds.length<=4
def Y6{w:J}{xd:List Sp}(h:(cz xd).P w){d:Sp}(e:d∈xd):w6 w d:=tu.1 h d e
def WJ{M:Nat->Prop}{w0 w:J}{L D D1:List En}{ds xd:List Sp}{x:Lx}(H:LH M w0 w L D1)(I:∀e∈D++[cz ds],e∈D1)(N:cz xd∈D1)(K:x.ds=xd.map fL)(h:∀e∈[En.gr x.m.g x.gl,.rd x.m.h (x.hy.map a'),.rd x.m.c (x.cl.map a'),.bc 7 x.m.s (x.ds.flatMap Sp.c)],e∈D1):LH M w0 w L (D++[eY x]++[cz ds]):=by
 simp only[av,aR,aT,forall_eq_or_imp,forall_eq]at h;obtain⟨C,E,F,G⟩:=h;refine H.mX _ λe z=>?_;simp only[aX,bG]at z;have O:e∈D++[cz ds]->((∀e∈D1,e.P w)->e.P w)/\∀b∈e.fp,∃A∈D1,b∈A.fp:=λh=>⟨λq=>q e (I e h),λb j=>⟨e,I e h,j⟩⟩;rcases z with(z|rfl)|rfl
 .exact O (bt _ z)
 .refine ⟨λq=>h6.2 ⟨bV.1 (q _ C),q _ E,q _ F,q _ G,λA y=>?_⟩,λb j=>?_⟩
  .rw [K]at y;obtain⟨a,B,rfl⟩:=ch.1 y;exact Y6 (d:=a) (q _ N) B
  .obtain ⟨e,k,j⟩:=dZ.1 j;simp only[av,aR,aT]at k;rcases k with rfl|rfl|rfl|rfl
   .exact ⟨_,C,j⟩
   .exact ⟨_,E,j⟩
   .exact ⟨_,F,j⟩
   .obtain ⟨e,k,j⟩:=dZ.1 j;rcases av.1 k with rfl|k
    .exact ⟨_,G,j⟩
    .refine ⟨_,N,dZ.2 ⟨e,?_,j⟩⟩;rw[K]at k;obtain⟨A,y,k⟩:=bA.1 k;obtain⟨a,B,rfl⟩:=ch.1 y;exact bA.2 ⟨a,B,k⟩
 .exact O (di _ (bG.2 rfl))
def DI{e:TypeId}{s:Sl}{vs:List ab}{sz b:Nat}(h:b∈(En.bc sz s vs).fp):b∈(En.row e sz s vs).fp:=by
 have h:b∈(if vs=[]then[]else aw s):=h;split at h
 .cases h
 .exact h
section
variable {w0:J} {b6 b7:Nat} {m1 aM st:Sl} {D:List En} {ls:List Lm} {R:aH}
def ZT{G x0 Q:Sl}{gl:List Nd}{z e:Nat}{ds xd:List Sp}{ms:List Int}{D1:List En}(ag:e<ls.length)(ap:ls.length<=2)(hx:∀y∈ms,a5 y)(hm:En.rd m1 (ms.map a')∈D)(an:1<=G.n)(ab:gl.length<=40/\∀d∈xs gl,ry 3 d)(ac:hU (xs gl)){pl lm:Nat}(ad:∀(j:Nat) (d:Sp),xd[j]? =some d->kf pl j lm d.x)(am:G.n=gl.length)(al:xd.length<=4)(ak:∀d∈xd,jg 40 d.x)(aa:∀P∈D++[cz ds],P∈D1)(hG:En.gr G gl∈D1)(hX:cz xd∈D1)(hk:∀(y:Lx) Y,mB 40 y->1<=y.gl.length->t' y->LH F0 w0 Y (hq b6 b7 aM (ls.set e y.m) st ds) (D++[eY y]++[cz ds])->gB.a2 m1 b6 ⟨none,0,0⟩ ⟨none,0,0⟩ b7 aM st ((e+1:Nat):Int) Y R):
  ∀(k A:Nat) (q:Sl) (w:J),A+k=xd.length->LH F0 w0 w (hq b6 b7 aM ls st ds++[.row e2 7 Q (xd.flatMap Sp.c),.g z,.row e2 7 q (((xd.take A).map fL).flatMap Sp.c)]) D1->
  gB.ct m1 b6 ⟨none,0,0⟩ ⟨none,0,0⟩ b7 aM st (e:Int) G z x0 Q q (A:Int) w R:=by
 have gs:∀(Z:List En) (F W e3:En),∀b∈[b6,b7,z],En.g b∈(En.g b6::En.g b7::F::W::e3::En.g z::Z):=λZ F W e3 b h=>by simp only[av,aR,aT]at h;rcases h with rfl|rfl|rfl<;>simp
 have gm:∀(Z:List En) (F:En),∀b∈[b6,b7,z],En.g b∈[En.g b6,En.g b7]++(F::En.g z::Z):=λZ F b h=>by simp only[av,aR,aT]at h;rcases h with rfl|rfl|rfl<;>simp
 have fin:∀(h c q:Sl) (t:Int) (Y:J) (F:En),0<=t/\t<(G.n:Int)->LH F0 w0 Y (hq b6 b7 aM ls st ds++[F,.g z,.row e2 7 q ((xd.map fL).flatMap Sp.c),.row bR 1 h ([t,0].map a'),.row bR 1 c ([-2 - (e:Int),7+(e:Int)].map a')]) D1->
   e8 aM (e:Int) λp=>aQ Y (p.add (aZ (e:Int) *4)) G.v λO=>kept [b6,b7,z] Y O/\aQ O ((p.add (aZ (e:Int) *4)).add 1) h.v λB=>kept [b6,b7,z] O B/\aQ B ((p.add (aZ (e:Int) *4)).add 2) c.v λH=>kept [b6,b7,z] B H/\aQ H ((p.add (aZ (e:Int) *4)).add 3) q.v λK=>kept [b6,b7,z] H K/\gB.cJ m1 b6 ⟨none,0,0⟩ ⟨none,0,0⟩ b7 aM st (e:Int) K R:=by
  intro h c q t Y F ht E;refine Y9 ⟨G,h,c,q⟩ (X:=[_,_,_,_,_]) E ag (gm _ _) λw5 H5=>?_;have H6:=H5.freeze 8 (.rd c ([-2 - (e:Int),7+(e:Int)].map a')) rfl (aK.i4 (H5.get 8)) λb U=>pe U;have H7:=H6.freeze 7 (.rd h ([t,0].map a')) rfl (aK.i4 (H6.get 7)) λb U=>pe U;have H8:=H7.freeze 6 (.bc 7 q ((xd.map fL).flatMap Sp.c)) rfl (aK.bc (H7.get 6)) λb U=>DI U;have H9:=hk ⟨⟨G,h,c,q⟩,gl,[t,0],[-2 - (e:Int),7+(e:Int)],xd.map fL⟩ w5 ⟨ab,⟨by simp,?_⟩,⟨by simp,?_⟩,⟨by simp;omega,?_⟩⟩ (by show 1<=gl.length;omega) ⟨?_,ac,by simpa using al⟩ (WJ (xd:=xd) (H8.take 4) (λP he=>?_) ?_ rfl ?_)
  .rw [<-bd e (by omega)]at H9;exact H9
  .intro y V;simp only[av,aR,aT]at V;rcases V with rfl|rfl
   .have:=ab.1;omega
   .decide
  .intro y V;simp only[av,aR,aT]at V;rcases V with rfl|rfl<;>omega
  .intro d hd;obtain⟨a,T,rfl⟩:=ch.1 hd;exact(ak a T).fL
  .have F:gz [-2 - (e:Int),7+(e:Int)]=0:=by
    have h2:e=0\/e=1:=by omega
    rcases h2 with rfl|rfl<;>decide
   have W:oU gl.length [t,0]=true:=by unfold oU;simp only[List.all_cons,List.all_nil];rw[aP (by omega),aP (by omega),aP (by omega),aP (by omega)];rfl
   have e3:gv (xs gl)=0:=QG ac.vg (by simp[xs];omega);have e4:jt (cC (xd.map fL)) 0=0:=Il (pl:=pl) (aM:=lm) (i:=0) λj d hj=>by rw[Nat.zero_add];exact ad j d hj
   show ky ⟨⟨G,h,c,q⟩,gl,[t,0],[-2 - (e:Int),7+(e:Int)],xd.map fL⟩=0;unfold ky;dsimp only;rw[af (by omega),aj W,af (by omega),e4]
  .have:=aa P he;simp[this]
  .simp [hX]
  .intro P he;simp only[av,aR,aT]at he;rcases he with rfl|rfl|rfl|rfl
   .simp [hG]
   .simp
   .simp
   .simp
 intro k;induction k with
 |zero=>
  intro A q w ah E;rw[eZ (by omega)]at E;have hn:=(E.get 4:aK _ _ _ _ _).len;rw[Sp.eW]at hn;have em:ao .i64 (-2 - (e:Int))=-2 - (e:Int):=aS _ (by omega);have e7:ao .i64 (7+(e:Int))=7+(e:Int):=aS _ (by omega);have F:ao .i64 (1+(e:Int))=((1+e:Nat):Int):=by rw[aS _ (by omega)];omega
  refine gB.dX _ _ _ _ _ _ _ _ _ _ _ _ _ _ _ _ (a1 (aV (by omega)) ⟨E.ai (br:=gs _ _ _ _) λO L=>?_,E.ai (br:=gs _ _ _ _) λO L=>?_⟩)
  .refine L.ay (p' (L.rd _ (aa _ (bt _ hm))) hx _ _ (by omega)) ?_;rintro _ B ⟨t,rfl,t1,t2⟩ C;rw[em,e7];refine⟨_,rfl,C.cR (n:=2) (sz:=1) (cs:=[t,0].map a') rfl (by decide) λH M=>M.cR (n:=2) (sz:=1) (cs:=[-2 - (e:Int),7+(e:Int)].map a') rfl (by decide) λK S=>?_,C.cR (n:=2) (sz:=1) (cs:=[-2 - (e:Int),7+(e:Int)].map a') rfl (by decide) λH M=>M.cR (n:=2) (sz:=1) (cs:=[t,0].map a') rfl (by decide) λK S=>?_⟩
   .exact fin ⟨some (ae B.heap.size),2,2⟩ ⟨some (ae H.heap.size),2,2⟩ q t K _ ⟨t1,t2⟩ S
   .exact fin ⟨some (ae H.heap.size),2,2⟩ ⟨some (ae B.heap.size),2,2⟩ q t K _ ⟨t1,t2⟩ (S.perm (.cons _ (.cons _ (.cons _ (.cons _ (.cons _ (.cons _ (.cons _ (.swap _ _ [])))))))))
  .rw [em,e7];refine L.cR (n:=2) (sz:=1) (cs:=[-2 - (e:Int),7+(e:Int)].map a') rfl (by decide) λB C=>C.ay (p' (C.rd _ (aa _ (bt _ hm))) hx _ _ (by omega)) ?_;rintro _ H ⟨t,rfl,t1,t2⟩ M;refine⟨_,rfl,M.cR (n:=2) (sz:=1) (cs:=[t,0].map a') rfl (by decide) λK S=>?_⟩;exact fin ⟨some (ae H.heap.size),2,2⟩ ⟨some (ae O.heap.size),2,2⟩ q t K _ ⟨t1,t2⟩ (S.perm (.cons _ (.cons _ (.cons _ (.cons _ (.cons _ (.cons _ (.cons _ (.swap _ _ [])))))))))
 |succ k ih=>
  intro A q w ah E;have ho:aK w e2 7 Q (xd.flatMap Sp.c):=E.get 4;have hn:=ho.len;rw[Sp.eW]at hn;have hs:=(E.get 6:aK _ _ _ _ _).len;rw[Sp.eW,yR,eA]at hs;obtain⟨d,hi⟩:∃d,xd[A]? =some d:=⟨xd[A],a6 (by omega)⟩;have ec:∀a:Int,a=(if d.x.kind=4 then 5 else d.x.kind)->((xd.take A).map fL).flatMap Sp.c++[.i a,.i d.x.node,.i d.x.du,d.p.v,.string d.x.nm,d.l.v,d.h.v]=((xd.take (A+1)).map fL).flatMap Sp.c:=λa T=>by rw[ej,hi,T];simp[fL,Sp.c]
  have nx:∀(a:Int),a=(if d.x.kind=4 then 5 else d.x.kind)->∀(I:Nat) (Y:J),LH F0 w0 Y (hq b6 b7 aM ls st ds++[.row e2 7 Q (xd.flatMap Sp.c),.g z,.row e2 7 q (((xd.take A).map fL).flatMap Sp.c),.g I]) D1->
    gB.bU m1 b6 ⟨none,0,0⟩ ⟨none,0,0⟩ b7 aM st (e:Int) G z x0 Q q (A:Int) I a d.x.node d.x.du d.p d.x.nm d.l d.h Y R:=λa T I Y H'=>by
   refine H'.iA 6 xA rfl (λs' B C=>?_) (by omega) (br:=λb h=>?_)
   .rw [bd _ (by omega)];have M:=C.take 7;have P:=ec a T;refine ih (A+1) s' B (by omega) ?_;rw[<-P];exact M
   .simp only[av,aR,aT]at h;rcases h with rfl|rfl|rfl|rfl<;>simp
  refine gB.dX _ _ _ _ _ _ _ _ _ _ _ _ _ _ _ _ (a3 (aP (by omega)) ⟨by omega,by omega,eV.elem (f:=Sp.c) (sz:=7) Sp.jj (by omega) ho.bc.2.2 hi λp hp N=>⟨_,_,_,_,_,_,_,N 0 _ rfl,N 1 _ rfl,N 2 _ rfl,N 3 _ rfl,N 4 _ rfl,N 5 _ rfl,N 6 _ rfl,E.aJ (br:=gs _ _ _ _) λI O L=>?_⟩⟩);have gl:∀b∈[b6,b7,z,I],En.g b∈hq b6 b7 aM ls st ds++[.row e2 7 Q (xd.flatMap Sp.c),.g z,.row e2 7 q (((xd.take A).map fL).flatMap Sp.c)]++[.g I]:=λb h=>by simp only[av,aR,aT]at h;rcases h with rfl|rfl|rfl|rfl<;>simp
  exact aL (λh4=>L.ai (br:=gl) λB C=>nx 5 (by rw[aj h4]) I B C) (λh4=>L.ai (br:=gl) λB C=>nx d.x.kind (by rw[af h4]) I B C)
end
def Fz(w0:J)(D:List En)(cc:Nat)(r:Ending)(Y:J):Prop:=∃(aM st:Sl) (d:List Lx) (ds:List Sp),r=ag (.agg #[aM.v,st.v])/\LH F0 w0 Y [.row il 4 aM ((d.map Lx.m).flatMap Lm.cs),.row e2 7 st (ds.flatMap Sp.c)] (D++d.map eY++[cz ds])/\Fq 40 d/\(∀h∈d,1<=h.gl.length)/\(d.length<=2/\∀h∈d,t' h)/\(∀e∈ds,jg 40 e.x)/\ds.length<=cc/\∀i e,ds[i]? =some e->kf 2 i d.length e.x
def ZS{w0:J}{W Y:Nat}{m1 aM st:Sl}{ms:List Int}{D:List En}{ds:List Sp}{cc:Nat}(e:∀j∈ms,a5 j)(ap:ms.length<=9223372036854775807)(M:En.rd m1 (ms.map a')∈D)(ah:ds.length<=1000)(aB:ds.length<=cc)(ag:∀(i:Nat) (d:Sp),ds[i]? =some d->d.x.params.length<=1):
  ∀(k i:Nat) (h:List Lx) (ls:List Lm) (w:J),i+k=ls.length->ls.length<=2->h.map Lx.m=ls.take i->Fq 40 h->(∀j∈h,1<=j.gl.length)->(∀j∈h,t' j)->kX w0 W Y aM ls st ds (D++h.map eY) w->gB.a2 m1 W ⟨none,0,0⟩ ⟨none,0,0⟩ Y aM st (i:Int) w λr F=>Fz w0 D cc r F:=by
 intro k;induction k with
 |zero=>
  intro i h ls w al ao y H K L q;have P:aK w il 4 aM (ls.flatMap Lm.cs):=q.1.get 2;have O:=P.len;rw[Lm.len]at O;rw[eZ (by omega)]at y;have av:h.length=ls.length:=by rw[<-y];simp
  refine gB.bB _ _ _ _ _ _ _ _ _ _ (a1 (aV (by omega)) ?_);refine Y8 (m1:=m1) ah e (D:=D++h.map eY) (bt _ M) (λad F aA V aD ac=>?_) ds.length 0 ds w (by omega) rfl (λB d _ z=>ag B d z) q;refine⟨aM,st,h,ad,rfl,?_,H,K,⟨by omega,L⟩,λd z=>?_,by omega,by rw[av];exact V.2.g⟩
  .rw [y];exact ac.ih [false,false,true,true]
  .obtain ⟨B,A⟩:=fQ.1 z;have an:=(bO.1 A).1;exact Im (V.2.g B d A) (by omega) (by omega)
 |succ k aw=>
  intro i h ls w al ao y H K L q;have P:aK w il 4 aM (ls.flatMap Lm.cs):=q.1.get 2;have O:=P.len;rw[Lm.len]at O;have N:En.rd m1 (ms.map a')∈D++h.map eY++[cz ds]:=bt _ (bt _ M);refine gB.bB _ _ _ _ _ _ _ _ _ _ (a3 (aP (by omega)) (q.1.ay (p' (q.1.rd _ N) e _ 3 (by omega)) ?_));rintro _ w1 ⟨t,rfl,t1,t2⟩ S;refine⟨_,rfl,S.hD (SO (S.rd _ N) e (by omega) t 4 (by omega)) ?_⟩;rintro _ w2 ⟨G,E,rfl,ab,g1,az,Z,aj⟩ _ af;have T:=af.2 (.gr G E) (bV.2 Z) aj;have ak:=gZ Z;refine⟨_,rfl,ha ((Gd (D:=D++h.map eY++[cz ds]++[.gr G E]) (w:=w2) e ap (cc:=4) (by omega) (bt _ N) (bP _ T.rd)).mono ?_)⟩;rintro _ w3 ⟨x0,x1,aE,Q,rfl,U,hf,_,aC,aa⟩;have H4:=T.Hh U λae I=>by rw[bG.1 I];exact hf
  refine⟨U.fr,_,_,rfl,H4.aJ λax w4 H5=>H5.ai λw5 H6=>?_⟩;have H7:=(H6.h7 e2 7).ih [true,true,true,true,false,true,true,true];refine ZT (D:=D++h.map eY) (ls:=ls) (xd:=Q) (gl:=E) (D1:=D++h.map eY++[cz ds]++[.gr G E]++[cz Q]) (by omega) (by omega) e (bt _ M) (by omega) ⟨by omega,ab.gd (by simp[xs];omega)⟩ ab aa ak (by omega) (λd z=>?_) (λae I=>bt _ (bt _ I)) (by simp) (by simp) (λj F ar aq au H'=>?_) Q.length 0 ⟨none,0,0⟩ w5 (by omega) H7
  .obtain ⟨B,A⟩:=fQ.1 z;have an:=(bO.1 A).1;exact Im (aa B d A) (by omega) (by omega)
  .have am:i<ls.length:=by omega
   refine aw (i+1) (h++[j]) (ls.set i j.m) F (by simp;omega) (by simp;omega) ?_ ⟨?_,?_⟩ ?_ ?_ ⟨?_,by simpa using q.2⟩
   .rw [g2,y,ej];simp[am,List.take_set_of_le]
   .have:h.length=(ls.take i).length:=by rw[<-y];simp
    simp only[a7,db,fC,eA]at this ⊢;omega
   .intro C e;rcases aX.1 e with e|e
    .exact H.2 C e
    .rw [bG.1 e];exact ar
   .intro C e;rcases aX.1 e with e|e
    .exact K C e
    .rw [bG.1 e];exact aq
   .intro C e;rcases aX.1 e with e|e
    .exact L C e
    .rw [bG.1 e];exact au
   .rw [g2,<-cp];exact H'
def SV{w:J}{D:List En}{A m1:Sl}{xs ms:List Int}(S:∀j∈xs,a5 j)(T:xs.length<=9223372036854775807)(U:∀j∈ms,a5 j)(Q:ms.length<=9223372036854775807){cc:Nat}(ab:cc<=40)(K:En.rd A (xs.map a')∈D)(P:En.rd m1 (ms.map a')∈D)(H:LH F0 w w [] D):
  ak aa KK #[A.v,m1.v,.i (cc:Int)] w λr W=>Fz w D cc r W:=by
 refine gB.aD _ _ _ w _ (H.aJ λI Y d=>?_);refine ha ((Gd (D:=D) (w:=Y) S T (by omega) K (bP _ d.rd)).mono ?_);rintro _ w2 ⟨V,st,ls,x,rfl,k,y,O,M,z⟩;have C:=d.Hh k λZ N=>by rw[bG.1 N];exact y
 refine⟨k.fr,_,_,rfl,C.aJ λq w3 E=>E.ai λB F=>?_⟩;have G:LH F0 w B (hq I q V ls st x) (D++[cz x]):=F.perm (.cons _ (List.perm_append_comm (l₁:=[_,_]) (l₂:=[En.g q])));refine ZS U Q P (by omega) M (λi e h=>(z i e h).params.2) ls.length 0 [] ls B (by omega) O rfl ⟨by simp,by simp⟩ (by simp) (by simp) ⟨by simpa using G,λi e h=>?_,λb L=>a8 d.fr.size (y b L)⟩;have:=z i e h;exact⟨this.kind,this.node,this.du,⟨this.params.1,by have:=this.params.2;omega⟩,this.b0,this.hints,this.nm⟩
section
variable {w:J} {D:List En} {b:Nat} {l:List UInt8} {at_:Nat} {bad:Bool}
def Ug{m:Int}(h:a5 m):(ck m).length<21:=by
 have d:=h.1;have e:=h.2;have:(bZ m.natAbs).length<=19:=xw (by omega) (by omega);unfold ck;split
 .rw [db];omega
 .omega
end
def VI(xs:List Int)(n:Int):nP (xs++[n])=if xs=[]then ck n else nP xs++32::ck n:=by
 induction xs with
 |nil=>rfl
 |cons e xs d=>
  rw[af (by simp)];cases xs with
  |nil=>rfl
  |cons h j=>
   rw[af (by simp)]at d;rw[i2,i2,B',<-i2,d,B'];simp
def r3{n:Int}(h:a5 n):(ck n).length<=20:=by have:=Ug h;omega
def xU:∀l:List Int,(∀e∈l,a5 e)->(nP l).length<=21 *l.length
 |[],_=>bg _
 |[n],d=>by have:=r3 (d n (by simp));show(ck n).length<=21;omega
 |n::m::r,d=>by have k:=r3 (d n (by simp));have j:=xU (m::r) λe h=>d e (by simp at h ⊢;exact .inr h);rw[B',a7,db];simp only[db]at j ⊢;omega
def sG{l:List Int}(h:∀d∈l,a5 d):(iH l).length<=21 *l.length+2:=by have:=xU l h;unfold iH;simp only[i2,db,a7,fC];omega
structure rB(s:cv):Prop where
 kind:0<=s.kind/\s.kind<=5
 node:a5 s.node
 du:a5 s.du
 params:(∀x∈s.params,a5 x)/\s.params.length<=1000000
 b0:(∀x∈s.b0,a5 x)/\s.b0.length<=1000000
 hints:(∀x∈s.hints,a5 x)/\s.hints.length<=1000000
 nm:s.nm.size<=1000000
def MR(s:cv):(nV s).length<=s.nm.size+1:=by
 unfold nV;split
 .simp
 .rw [dP];omega
def QW(k:Int):(mr k).length<=7:=by
 unfold mr;have d:∀i<6,(q6.getD i []).length<=7:=by decide
 by_cases e:k.toNat<6
 .exact d _ e
 .rw [List.getD_eq_getElem?_getD,List.getElem?_eq_none (by show 6<=_;omega)];simp
def Wo{s:cv}(h:rB s):(x5 s).length<=70000000:=by have d:=r3 h.node;have e:=r3 h.du;have j:=sG h.params.1;have k:=sG h.hints.1;have q:=sG h.b0.1;have w:=h.params.2;have x:=h.hints.2;have y:=h.b0.2;have z:=MR s;have A:=h.nm;have B:=QW s.kind;unfold x5;simp only[a7,db];omega
abbrev fx(s:Sl)(xs:List UInt8):En:=.row cL 1 s (xs.map bC)
section
variable {M:Nat->Prop} {w0 w:J} {L D:List En}
def FY{s:Sl}{xs:List UInt8}(h:(fx s xs).P w):s.n=xs.length:=by have:=(show aK w cL 1 s (xs.map bC)from h).len;simpa using this.symm
def _root_.Go.W.LH.FF(H:LH M w0 w L D)(i:Nat){s:Sl}{xs:List UInt8}(U:L[i]? =some (fx s xs))(t:List UInt8)(q:xs.length+t.length<=100000000000000){K:Sl->J->Prop}(k:∀s' Y,LH M w0 Y (L.set i (fx s' (xs++t))) D->K s' Y):∃(s':Sl) (Y:J),Sem.run aa (Builtin.append_ #[cV,fW] cV #[s.v,.string (ba t)]) w=.ok s'.v Y/\K s' Y:=by have x:=cS t;obtain⟨s',Y,e,d,h,j⟩:=FI (ty:=cV) (aK.yE (H.get i U)) (ba t) (by omega);rw[mG]at d;exact⟨s',Y,e,k s' Y (H.gu i (fx s' (xs++t)) U h d.2 j)⟩
def _root_.Go.W.LH.uv(H:LH M w0 w L D)(i:Nat){s:Sl}{xs:List UInt8}(U:L[i]? =some (fx s xs))(c:UInt8)(j:xs.length<=100000000000000){K:Sl->J->Prop}(e:∀s' Y,LH M w0 Y (L.set i (fx s' (xs++[c]))) D->K s' Y):cZ w (.cells #[.int .u8 (c.toNat:Int)] cL) λh=>∃(s':Sl) (Y:J),Sem.run aa (Builtin.append_ #[cV,cV] cV #[s.v,.slice (some (nb w)) 1 1]) h=.ok s'.v Y/\K s' Y:=by have k:=FY (H.get i U);refine H.uu i kq U (λs' Y d _ _=>e s' Y ?_) (by omega);unfold fx;rw[g2];exact d
def _root_.Go.W.LH.aU(H:LH M w0 w L D)(i:Nat){s:Sl}{xs:List UInt8}(U:L[i]? =some (fx s xs))(Q:k8∈D){u:Nat}(x:u<2^64)(A:xs.length<=10000000000000){K:aH}(y:∀d e,LH M w0 e (L.set i (fx d (xs++bZ u))) D->K (ag d.v) e):ak aa KO #[s.v,.u (u:Int),.i 10] w K:=by
 obtain⟨d1,d2,I⟩:=G6 x;have ab:=(bO.1 U).1;refine II.ok _ _ _ w _ (a3 rfl (aG (λO=>?_) (λO=>?_)))
 .rw [aS _ (by omega)];refine(Nm u (by omega) w).mono ?_;rintro _ C ⟨rfl,q⟩;subst q;exact⟨_,rfl,H.FF i U _ (by omega) y⟩
 .refine H.nw (cs:=ou.toArray) λC ac h=>(Gk (by omega) x C (h.rd _ Q).1).mono ?_;rintro _ w2 ⟨rfl,q⟩;subst q;have z:(L++[En.c w.heap.size ou.toArray.toList oi])[L.length]? =some (.c w.heap.size ou oi):=by simp
  have Y:(En.c w.heap.size ou oi).P w2:=h.get L.length z;refine⟨_,rfl,by omega,by omega,?_⟩;rw[bF,Nat.sub_zero];have N:(if 24=0 then ae w.heap.size else(ae w.heap.size).add (0 *1))=(ae w.heap.size).add 0:=by rw[af (by decide)]
  rw[N];refine(Gf (vs:=ou) (o:=0) (nd:=(bZ u).length) Y rfl (by omega) I x).mono ?_;rintro _ E ⟨rfl,B,k,T⟩;have G:LH M w0 E ((L++[En.c w.heap.size ou.toArray.toList oi]).set L.length (.c w.heap.size B oi)) D:=h.gu L.length (.c w.heap.size B oi) z (k.fr.mono λad _ Z=>by simp[En.c,En.ob,Z]) (k.get 0) λb A=>.inl A;have V:=G' T rfl (by omega);have S:Bytes E ⟨some ((ae w.heap.size).add 0),(bZ u).length,24⟩ (bZ u):=Dp (k.get 0) rfl (by omega) V;have j:=G.take L.length;rw[List.set_append_right _ _ (bg _),List.take_left' rfl]at j;refine⟨rfl,by omega,by omega,?_⟩;have hn:=FY (j.get i U);refine j.ap i kq (src:=⟨some ((ae w.heap.size).add 0),(bZ u).length,24⟩) (news:=(bZ u).map bC) U S.2.2 (by simp) (xi _) (by show(_+(bZ u).length) *1<=_;omega) λd e F _ _=>y d e ?_;unfold fx;rw[g2];exact F
def _root_.Go.W.LH.aI(H:LH M w0 w L D)(i:Nat){s:Sl}{xs:List UInt8}(U:L[i]? =some (fx s xs))(y:k8∈D){n:Int}(h:a5 n)(I:xs.length<=1000000000000){K:aH}(B:∀d k,LH M w0 k (L.set i (fx d (xs++ck n))) D->K (ag d.v) k):ak aa L3 #[s.v,.i n,.i 10] w K:=by
 obtain⟨E,F,z⟩:=Qv h;have C:=(bO.1 U).1;have imp:ak aa KN #[s.v,.i n,.i 10] w λr k=>∃d,r=ag d.v/\LH M w0 k (L.set i (fx d (xs++ck n))) D:=by
  refine IH.ok _ _ _ w _ (aG (λj=>?_) (λj=>?_))
  .rw [E j,Uh j];refine H.uv i U 45 (by omega) λN A q=>q.aU i (xs:=xs++[45]) (by simp[C]) y z (by simp;omega) λx G e=>⟨_,rfl,x,rfl,?_⟩;rw[List.set_set,cp]at e;exact e
  .rw [F (by omega),Ui j];exact H.aU i U y z (by omega) λx G e=>⟨_,rfl,x,rfl,e⟩
 refine PL.ok _ _ _ w _ (imp.mono ?_);rintro _ A ⟨d,rfl,q⟩;exact⟨_,rfl,B d A q⟩
end
def Dm{w:J}{s:Sl}{l:List Int}(H:bp w s l)(U:∀d∈l,a5 d)(Q:l.length<=1000000)(B:ru w):ak aa K7 #[s.v] w λr Y=>r=ag (.string (ba (iH l)))/\ah w Y:=by
 have S:=bp.len H;have e:LH F0 w w [] [k8,.rd s (l.map a')]:=bP _ (by
  intro G h;simp only[av,aR,aT]at h;rcases h with rfl|rfl
  .exact B
  .exact H)
 have loop:∀(k i:Nat) (out:Sl) (Y:J),i+k=l.length->LH F0 w Y [fx out (40::nP (l.take i))] [k8,.rd s (l.map a')]->sX.L0 out s ((s.n:Nat):Int) (i:Int) Y λr Y=>r=ag (.string (ba (iH l)))/\ah w Y:=by
  intro k;induction k with
  |zero=>
   intro i out Y C e;have D:=xU (l.take i) λd j=>U d (List.mem_of_mem_take j);rw[eA]at D;refine sX.bE _ _ _ _ _ _ (a1 (aV (by omega)) (e.uv 0 rfl 41 (by simp only[db];omega) λV K x=>⟨_,lZ (aK.i4 (x.get 0)),?_,x.fr⟩));rw[eZ (by omega)];rfl
  |succ k N=>
   intro i out Y C e;have y:l[i]? =some l[i]:=a6 (by omega);generalize l[i]=d at y;have j:=U d (aE y);have D:=xU (l.take i) λd j=>U d (List.mem_of_mem_take j);rw[eA]at D;have I:l.take (i+1)=l.take i++[d]:=by rw[ej,y];rfl
   have F:∀(out:Sl) (xs:List UInt8) (q:J),xs.length<=30000000->xs++ck d=40::nP (l.take (i+1))->LH F0 w q [fx out xs] [k8,.rd s (l.map a')]->sX.S1 out d s ((s.n:Nat):Int) (i:Int) q λr Y=>r=ag (.string (ba (iH l)))/\ah w Y:=by intro out xs q T B z;refine z.aI 0 rfl (by simp) j (by omega) λs3 P E=>⟨_,rfl,?_⟩;rw[bd _ (by omega)];rw[B]at E;exact N (i+1) s3 P (by omega) E
   refine sX.bE _ _ _ _ _ _ (a3 (aP (by omega)) ⟨by omega,by omega,bp.cell (e.getD 1) y (by rw[bF]) λp _ L=>⟨d,L,aG (λA=>e.uv 0 rfl 32 (by simp only[db];omega) λO q z=>F O _ q (by simp;omega) ?_ z) (λA=>F out _ Y (by simp only[db];omega) ?_ e)⟩⟩)
   .have M:l.take i≠[]:=λG=>(List.take_eq_nil_iff.1 G).elim (λh=>by omega) λh=>by rw[h]at C;simp at C
    rw[I,VI,af M];simp
   .have A:i=0:=by omega
    subst A;rw[I];rfl
 exact sX.ok _ w _ (e.cR (n:=1) (sz:=1) (cs:=[bC 40]) rfl (by decide) λK x=>loop l.length 0 _ K (by omega) x)
def jr:List (List UInt8)->List UInt8
 |[]=>[]
 |[p]=>p
 |p::d::r=>p++32::jr (d::r)
def IZ(xs:List (List UInt8))(p:List UInt8):jr (xs++[p])=if xs=[]then p else jr xs++32::p:=by
 induction xs with
 |nil=>rfl
 |cons x xs e=>
  rw[af (by simp)];cases xs with
  |nil=>rfl
  |cons y d=>
   rw[af (by simp)]at e;show jr (x::((y::d)++[p]))=_;show x++32::jr ((y::d)++[p])=(x++32::jr (y::d))++32::p;rw[e];simp
section
variable {M:Nat->Prop} {w0 w:J} {D:List En}
def XK{s t:Sl}{xs:List UInt8}{ps:List (List UInt8)}(H:LH M w0 w [fx s xs] D)(E:En.rd t (ps.map mj)∈D)(hx:xs.length<=10000000000)(F:∀p∈ps,p.length<=100000000)(hl:ps.length<=10){K:aH}(O:∀L Y,LH M w0 Y [fx L (xs++(jr ps++[10]))] D->K (ag L.v) Y):ak aa K3 #[s.v,t.v] w K:=by
 have hn:t.n=ps.length:=by have:=(show Rd w t (ps.map mj)from H.rd _ E).1;simpa using this
 have I:∀i:Nat,(jr (ps.take i)).length<=100000001 *i:=by
  intro i;induction i with
  |zero=>exact bg _
  |succ i y=>
   by_cases S:i<ps.length
   .have d:ps[i]? =some ps[i]:=a6 S;have hh:=F _ (aE d);rw[ej,d];show(jr (ps.take i++[ps[i]])).length<=_;rw[IZ];split
    .omega
    .rw [a7,db];omega
   .rw [eZ (by omega)]at y ⊢;omega
 have loop:∀(k i:Nat) (out:Sl) (Y:J),i+k=ps.length->LH M w0 Y [fx out (xs++jr (ps.take i))] D->sV.L0 out t ((t.n:Nat):Int) (i:Int) Y K:=by
  intro k;induction k with
  |zero=>
   intro i out Y x H;have:=I i;refine sV.bE _ _ _ _ _ _ (a1 (aV (by omega)) (H.uv 0 rfl 10 (by rw[a7];omega) λU W z=>O U W ?_));rw[eZ (by omega),cp]at z;exact z
  |succ k y=>
   intro i out Y x H;have hj:=I i;have d:ps[i]? =some ps[i]:=a6 (by omega);generalize ps[i]=p at d;have ab:=F p (aE d);have G:ps.take (i+1)=ps.take i++[p]:=by rw[ej,d];rfl
   have B:∀(out:Sl) (h:List UInt8) (e:J),h.length<=20000000000->h++p=xs++jr (ps.take (i+1))->LH M w0 e [fx out h] D->sV.S1 out (ba p) t ((t.n:Nat):Int) (i:Int) e K:=by intro out h e hy Q j;refine j.FF 0 rfl p (by omega) λs3 Z A=>?_;rw[bd _ (by omega)];rw[Q]at A;exact y (i+1) s3 Z (by omega) A
   refine sV.bE _ _ _ _ _ _ (a3 (aP (by omega)) ⟨by omega,by omega,Rd.get (H.rd _ E) (i:=i) (v:=mj p) (by rw[iM,d];rfl) (by rw[bF]) λac _ P=>⟨_,P,aG (λq=>H.uv 0 rfl 32 (by rw[a7];omega) λV e j=>B V _ e (by simp only[a7,db,fC];omega) ?_ j) (λq=>B out _ Y (by rw[a7];omega) ?_ H)⟩⟩)
   .have T:ps.take i≠[]:=λN=>(List.take_eq_nil_iff.1 N).elim (λC=>by omega) λC=>by rw[C]at x;simp at x
    rw[G,IZ,af T];simp
   .have q:i=0:=by omega
    subst q;rw[G];simp[jr]
 refine sV.ok _ _ w _ (loop ps.length 0 s w (by omega) ?_);rw[show jr (ps.take 0)=[]from rfl,dt];exact H
end
def Wn(s:cv):jr [mr s.kind,ck s.node,ck s.du,nV s,iH s.params,iH s.hints,iH s.b0]=x5 s:=rfl
section
variable {M:Nat->Prop} {w0 w:J} {D:List En}
def XL{out s:Sl}{xs:List UInt8}{l:List Sp}(H:LH M w0 w [fx out xs] D)(G:k8∈D)(B:kO∈D)(Z:En.sp s l∈D)(hs:∀d∈l,rB d.x)(hl:l.length<=100)(hx:xs.length<=1000000000){K:aH}(hK:∀I Y,LH M w0 Y [fx I (xs++(cC l).flatMap hj)] D->K (ag I.v) Y):ak aa K4 #[out.v,s.v] w K:=by
 have hn:=(fo.1 (H.rd _ Z)).n;have fl:∀i,(((cC l).take i).flatMap hj).length<=70000001 *i:=by
  intro i;induction i with
  |zero=>simp
  |succ i ih=>
   by_cases hi:i<l.length
   .have z:l[i]? =some l[i]:=a6 hi;have hh:=Wo (hs _ (aE z));rw[ej,iM,z,cy];simp only[a7,Option.map_some,Option.toList_some,b',List.flatMap_nil,dt,hj,db,fC];omega
   .rw [eZ (by simp;omega)]at ih ⊢;omega
 have loop:∀(k i:Nat) (o:Sl) (Y:J),i+k=l.length->LH M w0 Y [fx o (xs++((cC l).take i).flatMap hj)] D->sW.a2 o s ((s.n:Nat):Int) (i:Int) Y K:=by
  intro k;induction k with
  |zero=>
   intro i o Y hk H;refine sW.bB _ _ _ _ _ _ (a1 (aV (by omega)) (hK o Y ?_));rw[eZ (by simp;omega)]at H;exact H
  |succ k ih=>
   intro i o Y hk H;have z:l[i]? =some l[i]:=a6 (by omega);generalize l[i]=d at z;have hd:=aE z;have e:=hs d hd;have aw:=fl i;refine sW.bB _ _ _ _ _ _ (a3 (aP (by omega)) ⟨by omega,by omega,(fo.1 (H.rd _ Z)).get z λp q=>?_⟩);rw[bF];refine⟨_,_,_,_,_,_,_,q.c0,q.c1,q.c2,q.c3,q.c4,q.c5,q.c6,H.aJ λb w1 H1=>?_⟩;have S1:∀al A,al=ba (nV d.x)->LH M w0 A ([fx o (xs++((cC l).take i).flatMap hj)]++[.g b]) D->sW.bT o b d.x.kind d.x.node d.x.du d.p d.x.nm d.l d.h al s ((s.n:Nat):Int) (i:Int) A K:=by
    rintro _ A rfl E;obtain⟨j,ah⟩:=Int.eq_ofNat_of_zero_le e.kind.1;have ap:j<6:=by have:=e.kind.2;omega
    have hw:q6.getD j []=mr d.x.kind:=by unfold mr;rw[ah];rfl
    have C:∀{Y:J},kO.P Y->Y.cell? ((Addr.mk 0 0 none).add (aZ (j:Int) *1))=some (.string (ba (mr d.x.kind))):=λF=>by rw[bF,Nat.mul_one,<-hw];exact aax F j ap
    rw[ah];refine⟨by omega,by show(j:Int)<6;omega,E.ai λw3 V=>⟨_,C (V.rd _ B),V.ay (F2 e.node (V.rd _ G).1) ?_⟩⟩;rintro _ w4 rfl W;refine⟨_,rfl,C (W.rd _ B),W.ay (F2 e.du (W.rd _ G).1) ?_⟩;rintro _ w5 rfl L;have ac:=λ{Y:J} (H:LH M w0 Y ([fx o (xs++((cC l).take i).flatMap hj)]++[.g b]) D)=>(fo.1 (H.rd _ Z)).2 d hd;refine⟨_,rfl,C (L.rd _ B),L.ay (Dm (l:=d.x.params) (ac L).1 e.params.1 e.params.2 (L.rd _ G)) ?_⟩;rintro _ w6 rfl N;refine⟨_,rfl,C (N.rd _ B),N.ay (Dm (l:=d.x.hints) (ac N).2.2 e.hints.1 e.hints.2 (N.rd _ G)) ?_⟩;rintro _ w7 rfl O;refine⟨_,rfl,C (O.rd _ B),O.ay (Dm (l:=d.x.b0) (ac O).2.1 e.b0.1 e.b0.2 (O.rd _ G)) ?_⟩;rintro _ T rfl H8;refine⟨_,rfl,C (H8.rd _ B),?_⟩;obtain⟨y,S⟩:∃y,y=[mr d.x.kind,ck d.x.node,ck d.x.du,nV d.x,iH d.x.params,iH d.x.hints,iH d.x.b0]:=⟨_,rfl⟩;have ao:(#[.string (ba (mr d.x.kind)),.string (ba (ck d.x.node)),.string (ba (ck d.x.du)),.string (ba (nV d.x)),.string (ba (iH d.x.params)),.string (ba (iH d.x.hints)),.string (ba (iH d.x.b0))]:Array ab)=(y.map mj).toArray:=by rw[S];rfl
    have aq:y.length=7:=by rw[S];rfl
    rw[ao];refine H8.cR (n:=7) (sz:=1) (cs:=y.map mj) (by simp[aq]) (by decide) λw9 H9=>?_;have an:LH M w0 w9 [fx o (xs++((cC l).take i).flatMap hj),En.g b] (D++[.rd ⟨some (ae T.heap.size),7,7⟩ (y.map mj)]):=H9.freeze 2 (.rd ⟨some (ae T.heap.size),7,7⟩ (y.map mj)) rfl (aK.i4 (H9.get 2)) λar hq=>pe hq;have U:LH M w0 w9 ([En.g b]++[fx o (xs++((cC l).take i).flatMap hj)]) (D++[.rd ⟨some (ae T.heap.size),7,7⟩ (y.map mj)]):=an.perm (List.Perm.swap _ _ _);refine⟨_,Ik U,XK (s:=o) (t:=⟨some (ae T.heap.size),7,7⟩) (xs:=xs++((cC l).take i).flatMap hj) (ps:=y) U.part (di _ (bG.2 rfl)) (by rw[a7];omega) ?_ (by omega) λI au ad=>⟨ad.fr,I,rfl,?_⟩⟩
    .have l1:=r3 e.node;have l2:=r3 e.du;have l3:=sG e.params.1;have l4:=sG e.hints.1;have l5:=sG e.b0.1;have m3:=e.params.2;have m4:=e.hints.2;have m5:=e.b0.2;have m6:=MR d.x;have m7:=e.nm;have m8:=QW d.x.kind;intro p q;rw[S]at q;simp only[av,aR,aT]at q;rcases q with rfl|rfl|rfl|rfl|rfl|rfl|rfl<;>omega
    .have am:=(U.Bp ad λQ he ar hq=>.inr ⟨Q,he,hq⟩).forget D λQ he=>bt _ he;rw[bd _ (by omega)];refine ih (i+1) I au (by omega) ?_;have et:xs++((cC l).take (i+1)).flatMap hj=xs++((cC l).take i).flatMap hj++(jr y++[10]):=by rw[S,Wn,ej,iM,z];simp[hj]
     rw[et];exact(am.perm (List.Perm.swap _ _ _)).take 1
   exact Eb (λF=>H1.ai λA E=>S1 _ A (by unfold nV;rw[aj (yq.1 F)];rfl) E) (λF=>H1.ai λA E=>S1 _ A (by unfold nV;rw[af (λQ=>F (yq.2 Q)),lX]) E)
 refine sW.aD _ _ w _ (loop l.length 0 out w (by omega) ?_);rw[List.take_zero,List.flatMap_nil,dt];exact H
def XJ{s:Sl}{l:List Sp}(h:hV w s l)(e:∀d∈l,rB d.x)(L:l.length<=10)(q:ru w)(H:kO.P w)(G:vM (cC l)=0):
  ak aa K1 #[.agg #[(⟨none,0,0⟩:Sl).v,s.v]] w λr K=>r=ag (.tuple #[.string (ba ((cC l).flatMap hj)),.i 0])/\ah w K:=by
 have F:∀d∈l,pU d:=λd k=>⟨by have:=(e d k).params.2;omega,by have:=(e d k).b0.2;omega,by have:=(e d k).hints.2;omega⟩;refine Dr.aD _ _ w _ ((bP (w:=w) [k8,kO,.sp s l] (by
  intro B C;simp only[av,aR,aT]at C;rcases C with rfl|rfl|rfl
  .exact q
  .exact H
  .exact fo.2 h)).aJ λb N y=>y.ay (VK (by omega) F (fo.1 (y.getD 2))) ?_)
 rintro _ O rfl D;refine⟨_,rfl,dv (λh=>absurd G h) (λ_=>Dr.bB _ _ _ _ _ _ _ _ _ (a1 rfl ?_))⟩;have j:=D.h7 cL 1;refine⟨_,Ik j,XL (xs:=[]) j.part (by simp) (by simp) (by simp) e (by omega) (by simp) λI Q z=>⟨z.fr,I,rfl,?_⟩⟩;have A:=j.Bp z λB q M E=>.inr ⟨B,q,E⟩;exact⟨_,lZ (aK.i4 (A.get 1)),rfl,A.fr⟩
end
namespace Hk
noncomputable abbrev t0:=aA aa Tryz.f14 [] [1,2]
noncomputable abbrev bq:=ax t0 [5] [(3,.v [.st]),(4,.v [.I]),(5,.v [.st])]
noncomputable abbrev t1:=az bq
def aD:=aB t1 JR []
end Hk
namespace uS
noncomputable abbrev t0:=aA aa Tryz.f3 [(12,ls [0,1,2,3,4,5,6,7,8,9,10,11,12,13,14,15,16,17,18,19,20,21,22,23,24]),(17,(.sq [0,1,2,3,4,7,9] (.fork (.sq [5] (.fork (.sq [6] (.fork (ls [8,10,11,12,13]) (ls [10,8,11,12,13]))) (ls [10,6,8,11,12,13]))) (.fork (.sq [6] (.fork (.sq [5] (.fork (ls [8,10,11,12,13]) (ls [10,8,11,12,13]))) (ls [10,5,8,11,12,13]))) (.sq [10] (.fork (ls [5,6,8,11,12,13]) (ls [6,5,8,11,12,13])))))))] [11,15,18,26]
noncomputable def a2:=bj t0 [0,1,1,1,2] [(2,.v [.I]),(3,.v [.Y]),(4,.v [.s]),(11,.l [.s,.s] fH),(12,.v [.I])]
noncomputable abbrev t1:=bh a2
abbrev P0:Ps:=[]
noncomputable abbrev bT:=ax t1 [0,1,1,1,3,2,1,2,1,1,2] P0
noncomputable abbrev t2:=az bT
noncomputable abbrev bU:=ax t2 [0,1,1,1,6,2,1,2,1,1,2] P0
noncomputable abbrev t3:=az bU
abbrev P1:Ps:=[(2,.v [.I]),(3,.v [.Y]),(4,.v [.s]),(11,.l [.s,.s] fH),(12,.v [.I]),(24,.v [.s]),(25,.v [.I])]
noncomputable def kh:=bj t3 [0,1,12,2,1,2,1,1,2] P1
noncomputable abbrev t4:=bh kh
noncomputable abbrev jM:=ax t4 [0,1,3,2,1,2,12,2,1,2,1,1,2] P0
noncomputable abbrev t5:=az jM
noncomputable abbrev hC:=ax t5 [2,2,12,2,1,2,1,1,2] P1
noncomputable abbrev t6:=az hC
def uf:=bm t6 kh
noncomputable abbrev cJ:=ax t6 [11,2,1,2,1,1,2] [(2,.v [.I]),(3,.v [.Y]),(4,.v [.s]),(11,.l [.s,.s] fH),(12,.v [.I]),(24,.v [.s])]
noncomputable abbrev t7:=az cJ
def bB:=bm t7 a2
def aD:=aB t7 Cp [.s,.s,.I,.Y,.s]
end uS
def l8:cv:=⟨0,-1,0,[0],ba [],[1],[]⟩
def vv:cv:=⟨5,0,0,[],ba [],[-3,4],[0,2]⟩
def uO{n:Int}(h:0<=n)(d:n<10):ck n=[gX n.natAbs]:=by unfold ck;rw[af (by omega),nI (by omega)]
def G7{n:Int}(h:n<0)(d:-10<n):ck n=[45,gX n.natAbs]:=by unfold ck;rw[aj h,nI (by omega)]
def WC:hj l8=[103,97,116,101,32,45,49,32,48,32,45,32,40,48,41,32,40,41,32,40,49,41,10]:=by have e:ck (-1)=[45,49]:=G7 (by decide) (by decide);have d:ck 0=[48]:=uO (by decide) (by decide);have h:ck 1=[49]:=uO (by decide) (by decide);show(mr 0++32::(ck (-1)++32::(ck 0++32::([45]++32::((40::ck 0++[41])++32::([40,41]++32::(40::ck 1++[41])))))))++[10]=_;rw[e,d,h];rfl
def WD:hj vv=[114,101,115,111,108,118,101,32,48,32,48,32,45,32,40,41,32,40,48,32,50,41,32,40,45,51,32,52,41,10]:=by have h:ck (-3)=[45,51]:=G7 (by decide) (by decide);have d:ck 0=[48]:=uO (by decide) (by decide);have e:ck 2=[50]:=uO (by decide) (by decide);have j:ck 4=[52]:=uO (by decide) (by decide);show(mr 5++32::(ck 0++32::(ck 0++32::([45]++32::([40,41]++32::((40::(ck 0++32::ck 2)++[41])++32::(40::(ck (-3)++32::ck 4)++[41])))))))++[10]=_;rw[h,d,e,j];rfl
def WH:vM [l8,l8,l8,vv]=0:=by decide
def x7:rB l8/\rB vv:=by constructor<;>exact⟨by decide,by decide,by decide,⟨by decide,by decide⟩,⟨by decide,by decide⟩,⟨by decide,by decide⟩,by decide⟩
def WE(a l:List UInt8):ba (a++(a++(a++(l++[]))))=ba a++ba a++ba a++ba l:=by simp only[dF,dt,cp]
def Tt{w:J}(S:ru w)(U:kO.P w):ak aa JR #[] w λr w'=>r=ag (.bool true)/\ah w w':=by
 refine Hk.aD w _ ((bP (w:=w) [k8,kO] (by
  intro C D;simp only[av,aR,aT]at D;rcases D with rfl|rfl
  .exact S
  .exact U)).cR (n:=2) (sz:=1) (cs:=[.i 0,.i 2]) rfl (by decide) λE F=>F.cR (n:=2) (sz:=1) (cs:=[.i (-3),.i 4]) rfl (by decide) λw2 L=>L.aJ λb1 w3 O=>O.ai λq G=>G.cR (n:=1) (sz:=1) (cs:=[.i 0]) rfl (by decide) λy H=>H.cR (n:=1) (sz:=1) (cs:=[.i 1]) rfl (by decide) λac I=>I.aJ λb2 ad K=>K.ai λab M=>?_)
 let h:List Sp:=[⟨l8,⟨some (ae q.heap.size),1,1⟩,⟨some (ae y.heap.size),1,1⟩,⟨none,0,0⟩⟩,⟨l8,⟨some (ae q.heap.size),1,1⟩,⟨some (ae y.heap.size),1,1⟩,⟨none,0,0⟩⟩,⟨l8,⟨some (ae q.heap.size),1,1⟩,⟨some (ae y.heap.size),1,1⟩,⟨none,0,0⟩⟩,⟨vv,⟨none,0,0⟩,⟨some (ae E.heap.size),2,2⟩,⟨some (ae w.heap.size),2,2⟩⟩]
 refine M.nY λd _ e V=>?_;have W:bp d ⟨some (ae w.heap.size),2,2⟩ [0,2]:=aK.i4 (e.get 0);have Y:bp d ⟨some (ae E.heap.size),2,2⟩ [-3,4]:=aK.i4 (e.get 1);have A:bp d ⟨some (ae q.heap.size),1,1⟩ [0]:=aK.i4 (e.get 3);have B:bp d ⟨some (ae y.heap.size),1,1⟩ [1]:=aK.i4 (e.get 4);have k:bp d ⟨none,0,0⟩ []:=Rd.nil d;have Z:hV d ⟨some (ae ab.heap.size),4,4⟩ h:=⟨na (cs:=h.flatMap Sp.c) V rfl,λz j=>by
  simp only[h,av,aR,aT]at j;rcases j with rfl|rfl|rfl|rfl
  .exact ⟨A,B,k⟩
  .exact ⟨A,B,k⟩
  .exact ⟨A,B,k⟩
  .exact ⟨k,Y,W⟩⟩
 have T:∀z∈h,rB z.x:=λz j=>by
  simp only[h,av,aR,aT]at j;rcases j with rfl|rfl|rfl|rfl
  .exact x7.1
  .exact x7.1
  .exact x7.1
  .exact x7.2
 have Q:=XJ (w:=d) Z T (Nat.le_of_ble_eq_true rfl) (e.rd k8 (.head _)) (e.rd kO (.tail _ (.head _))) WH;refine e.ay Q ?_;rintro _ af rfl N;refine⟨_,_,rfl,a3 rfl ⟨by decide,by decide,by decide,?_,N.fr⟩⟩;have C:(cC h).flatMap hj=hj l8++(hj l8++(hj l8++(hj vv++[]))):=rfl;rw[C,WC,WD];exact congrArg (λb=>Ending.returned (.bool b)) (beq_iff_eq.2 (congrArg ByteArray.toList (WE [103,97,116,101,32,45,49,32,48,32,45,32,40,48,41,32,40,41,32,40,49,41,10] [114,101,115,111,108,118,101,32,48,32,48,32,45,32,40,41,32,40,48,32,50,41,32,40,45,51,32,52,41,10])))
def pQ.Jz{n:Nat}{x:Lx}(h:pQ n x.p)(k:n<=100000)(j:(eE x.p).length<=1000000):uh x:=by refine⟨h.Jy k,h.h,h.c,λd e=>(h.s d.x (ch.2 ⟨d,e,rfl⟩)).i,λd e=>?_,by omega⟩;have q:=W' e;have w:=oK (dK (xs x.gl));unfold eE Lx.p at j;simp only[a7]at j;omega
namespace wU
abbrev lP(w:J):aH:=λr d=>r=ag (.bool true)/\ah w d
abbrev pV(row:Sl)(l:List (Sl×List UInt8)):En:=.all (.rd row (l.map λp=>p.1.v)::l.map λp=>.rd p.1 (p.2.map W.bC))
def EH{w:J}{row:Sl}{l:List (Sl×List UInt8)}(h:(pV row l).P w):Rd w row (l.map λp=>p.1.v):=h _ j5
def Qq{w:J}{row:Sl}{l:List (Sl×List UInt8)}(h:(pV row l).P w){i:Nat}{s:Sl}{b:List UInt8}(U:l[i]? =some (s,b)):Bytes w s b:=
 h (.rd s (b.map W.bC)) (dS _ (ch.2 ⟨(s,b),aE U,rfl⟩))
def WK{x:Lx}:x.gl.length=x.p.g.length/\x.ds.length=x.p.ss.length:=by simp[Lx.p,xs]
def Vb{y:Lx}(d:mB 40 y)(B:t' y):Fp y.p/\(eE y.p).length<=30000/\uh y:=by
 obtain⟨g1,g2⟩:=d.g;obtain⟨q,hE,G⟩:=B.g.Vv (by simp[xs];omega);have aa:(xs y.gl).length=y.gl.length:=by simp[xs]
 have h1:=mT y.hy d.h.2;have h2:=mT y.cl d.c.2;have h3:=eI y.hy.length (by have:=d.h.1;omega);have h4:=eI y.cl.length (by have:=d.c.1;omega);have h5:=eI (dK (xs y.gl)).length (by omega);have h6:=dh (((cC y.ds).length:Nat):Int) (by have:=d.s.1;simp;omega);have D:∀(l:List Sp),(∀e∈l,jg 40 e.x)->((cC l).flatMap eC).length<=1400 *l.length:=λl=>by
  induction l with
  |nil=>intro _;exact bg _
  |cons e l H=>
   intro A;have a:=A e (by simp);have b:=H λC E=>A C (by simp[E]);have I:=dh _ a.k.1;have K:=dh _ a.k.2.1;have L:=dh _ a.k.2.2;have M:=mT _ a.p.2;have N:=mT _ a.l.2;have O:=mT _ a.h.2;have P:=a.p.1;have Q:=a.l.1;have S:=a.h.1;have T:=a.t;have U:=eI e.x.params.length (by omega);have V:=eI e.x.b0.length (by omega);have W:=eI e.x.hints.length (by omega);have Y:=eI (bl e.x.nm).length (by rw[dP];omega);have Z:=dP e.x.nm;show((e.x::cC l).flatMap eC).length<=_;rw[b',a7,db];unfold eC at b ⊢;unfold cG dJ at b ⊢;simp only[a7]at b ⊢;omega
 have h8:=D y.ds d.s.2;have hlen:(eE y.p).length<=30000:=by have:=B.n;have:=d.h.1;have:=d.c.1;have:=d.s.1;unfold eE Lx.p;dsimp only;unfold dJ cG fF;simp only[a7];omega
 refine⟨⟨q.w,by show(xs y.gl).length<=4096;omega,G,d.h.2,d.c.2,λs F=>?_⟩,hlen,d.le (by omega:40<=100) |>.k,d.h.2,d.c.2,λe j=>?_,q.z,by omega⟩
 .obtain ⟨e,j,rfl⟩:=ch.1 F;have a:=d.s.2 e j;exact⟨a.k,a.p.2,a.l.2,a.h.2⟩
 .have a:=d.s.2 e j;exact⟨a.k,a.p.2,a.l.2,a.h.2⟩
def ZD{M:Nat->Prop}{w0 w:J}{L D:List En}{V:List Nat}(H:LH M w0 w L D)(i:Nat){s:Sl}{l:List UInt8}(j:Nat)(c:UInt8){K:J->Prop}(U:L[i]? =some (.by s l))(y:j<l.length)(x:∀e,LH M w0 e (L.set i (.by s (l.set j c))) D->K e)(br:∀b∈V,En.g b∈L:=by simp):
  dM s.a λp=>aQ w (p.add (j *1)) (.int .u8 (c.toNat:Int)) λh=>kept V w h/\K h:=by
 obtain⟨p,A,E,B,C,k,q⟩:=yH (H.get i U) (j *1) (by simpa using y) (W.bC c);rw[A];refine⟨B,C,λb d=>?_,x _ (H.gu i (.by s (l.set j c)) U q ?_ (λb d=>.inl d))⟩
 .exact q.cb b (H.own _ (br b d)) λz=>H.vi U (br b d) z
 .rw [Nat.mul_one,<-List.map_set]at k;rw[Nat.mul_one];exact k
def AG{w:J}{s:Sl}{l:List UInt8}(h:(En.by s l).P w):Rd w s (l.map W.bC):=(kD h).rd
def yy{D:List En}{w:J}{e:En}(h:e∈D):((∀d∈D,d.P w)->e.P w)/\∀b∈e.fp,∃d∈D,b∈d.fp:=⟨λk=>k e h,λb j=>⟨e,h,j⟩⟩
end wU
namespace wU
def Ju(n:Nat):pQ n Lp.e:=⟨λh d=>(by cases d),dn _,λh d=>(by cases d),dn _,λh d=>(by cases d),dn _,λh d=>(by cases d)⟩
def Jf:(eE Lp.e).length<=100:=by have d:=dh 0 ⟨by decide,by decide⟩;have h:=eI 0 (by decide);have j:=eI (bL 0).length (by omega);show(dJ (bL 0++[])++(cG []++(cG []++(bL 0++[])))).length<=100;unfold dJ cG;simp only[dt,List.flatMap_nil,a7,fC];omega
def Jg{V:List UInt8}(d:V.length<=100000):pQ 100000 (gL V).1/\(eE (gL V).1).length<=1000000:=by
 unfold gL;cases e:g1 V with
 |none=>exact⟨Ju _,a8 Jf (by omega)⟩
 |some k=>
  dsimp only;split
  .have ok:=Ji (by omega) e;exact⟨⟨ok.g,a8 ok.hl d,ok.h,a8 ok.cl d,ok.c,a8 ok.sl d,λs j=>(ok.s s j).le d⟩,by rw[(Jh e).1];omega⟩
  .exact ⟨Ju _,a8 Jf (by omega)⟩
def V9{V:List UInt8}(h:(gL V).2=0):eE (gL V).1=V/\xZ (gL V).1=0:=by
 unfold gL at h ⊢;cases d:g1 V with
 |none=>rw[d]at h;cases h
 |some j=>
  rw[d]at h;dsimp only at h ⊢;split at h
  .rename_i e;rw[aj e];exact⟨(Jh d).1,e⟩
  .cases h
def V8{V:List UInt8}(h:(gL V).2≠0):gL V=(.e,2):=by
 unfold gL at h ⊢;cases d:g1 V with
 |none=>rfl
 |some k=>
  rw[d]at h;dsimp only at h ⊢;split at h
  .exact absurd rfl h
  .rename_i j;rw[af j]
section
variable {w:J}
open uS in
def Wz{M c1:Int}{raw aM st:Sl}{y i:Nat}(D:List En)(aa:cH∈D)(tr:Sl)(lt:List (Sl×List UInt8))(ad:∀p∈lt,p.2.length<=100000)(ht:lt.length=4)(F:pV tr lt∈D)(K:∀j,LH F0 w j [.g y] D->a2 M c1 raw y aM st (ao .i64 ((i:Int)+1)) j (lP w)):
  ∀(d n:Nat) (j:J),n+d=4->LH F0 w j [.g y] D->kh M c1 raw y aM st (i:Int) tr (n:Int) j (lP w):=by
 intro d;induction d with
 |zero=>exact λn j I k=>uf _ _ _ _ _ _ _ _ _ _ _ (a1 (aV (by omega)) (K j k))
 |succ d ih=>
  intro n j I k;have nr:=(EH (k.rd _ F)).1;simp only[yR]at nr;have B:lt[n]? =some (lt[n]'(by omega)):=a6 (by omega);have C:=ad _ (aE B);generalize lt[n]'(by omega)=p at B C;obtain⟨s,b⟩:=p;have C:b.length<=100000:=C;have ab:(lt.map λp=>p.1.v)[n]? =some s.v:=by rw[iM,B];rfl
  have next:∀{G:J} {L E:List En},LH F0 w G ([.g y]++L) (D++E)->hC M c1 raw y aM st (i:Int) tr (n:Int) G (lP w):=λ{G} {L} {E} z=>by show kh _ _ _ _ _ _ _ _ _ _ _;rw[bd _ (by omega)];exact ih (n+1) G (by omega) ((z.take 1).forget _ λY A=>bt _ A)
  refine uf _ _ _ _ _ _ _ _ _ _ _ (a3 (aP (by omega)) ⟨by omega,by omega,(EH (k.rd _ F)).get ab rfl λp hp O=>⟨_,O,k.hD (Ni (Qq (k.rd _ F) B) C (k.rd _ aa)) ?_⟩⟩);rintro _ w2 ⟨h,rfl,P,Q,ae⟩ _ F2;have H2:=F2.rd (eY h) (h6.2 Q) ae;obtain⟨k1,k2⟩:=Jg C;rw[<-P]at k1 k2;have I:=WK (x:=h);refine⟨_,_,_,_,_,rfl,H2.aJ λV w3 H3=>H3.ai λG z=>z.hD (Dk (k1.Jz (bg _) k2) (h6.1 (z.rd (eY h) (by simp))) (z.rd cH (by simp[aa]))) ?_⟩;rintro _ w5 ⟨t,rfl,h5,_⟩ _ T;rw[vq,P]at h5 ⊢;refine⟨_,_,rfl,?_⟩;by_cases N:(gL b).2=0
  .obtain ⟨e1,Z⟩:=V9 N;obtain⟨S,nb⟩:=h5 Z;rw[e1]at S;have q:=T.rd (.rd t (b.map W.bC)) S.rd (hn nb);rw[N,Z];refine a1 rfl (a3 rfl (a1 rfl ⟨by omega,by omega,(EH (q.rd (pV tr lt) (by simp[F]))).get ab rfl λp hp O=>⟨_,O,q.ay (AL S.rd (Qq (q.rd (pV tr lt) (by simp[F])) B) (by omega)) ?_⟩⟩));rintro _ w6 rfl U;exact⟨_,rfl,a1 rfl (next (L:=[.g V]) (E:=[eY h,.rd t (b.map W.bC)]) (by rw[cp]at U;exact U))⟩
  .have H:=V8 N;have ac:h.p=Lp.e:=by rw[P,H]
   have q:=T.rd (.all []) (λY A=>(by cases A)) (λb H=>(by obtain⟨Y,A,_⟩:=dZ.1 H;cases A));have l0:h.m.g.n=0/\h.m.s.n=0:=by
    have af:=gZ Q.1;have ag:=Q.2.2.2.n;have n1:h.gl.length=0:=by rw[I.1,ac];rfl
    have n2:h.ds.length=0:=by rw[I.2,ac];rfl
    omega
   rw[H];refine a3 rfl (a1 rfl (a1 (by rw[l0.1,l0.2];decide) (a1 rfl (next (L:=[.g V]) (E:=[eY h,.all []]) (by rw[cp]at q;exact q)))))
open uS in
def fin{T c1:Int}{raw aM st:Sl}{y i:Nat}{Y:J}{L D:List En}{j f x z:Sl}{E N X Z:List UInt8}(H:LH F0 w Y L D)(F:En.g y∈L)(hk:cH∈D)(A:En.rd j (E.map W.bC)∈D)(hf:En.by f N∈L)(hx:En.by x X∈L)(hz:En.by z Z∈L)(lE:E.length<=100000)(lF:N.length<=100000)(lX:X.length<=100000)(lZ:Z.length<=100000)(k:Nat)(ac:k<=E.length)(K:∀P,LH F0 w P [.g y] D->a2 T c1 raw y aM st (ao .i64 ((i:Int)+1)) P (lP w)):
  cZ Y (.cells #[x.v,.slice (if j.c=0 then j.a else j.a.map (·.add (0 *1))) ((aZ (k:Int)) - 0) (j.c - 0),f.v,z.v] cV) λM=>cJ T c1 raw y aM st (i:Int) ⟨some (nb Y),4,4⟩ M (lP w):=by
 rw[bF];refine H.cR (e:=cV) (sz:=1) (n:=4) (cs:=[x.v,(sub j 0 k).v,f.v,z.v]) rfl (by decide) λM h=>?_;have U:=Bytes.sub (show Bytes M j E from h.rd _ A) 0 k (dn _) ac;rw[List.drop_zero]at U;obtain⟨lt,O⟩:∃lt:List (Sl×List UInt8),lt=[(x,X),(sub j 0 k,E.take k),(f,N),(z,Z)]:=⟨_,rfl⟩;obtain⟨tr,Q⟩:∃tr:Sl,tr=⟨some (ae Y.heap.size),4,4⟩:=⟨_,rfl⟩;have rows:∀{e:TypeId} {sz:Nat} {s:Sl} {vs:List ab},En.row e sz s vs∈L++[.row cV 1 ⟨some (ae Y.heap.size),4,4⟩ [x.v,(sub j 0 k).v,f.v,z.v]]->∀b∈aw s,b≠y:=λhm b d e=>by obtain⟨ag,hj⟩:=fQ.1 hm;exact h.vi hj (b:=y) (bt _ F) (e▸d)
 have I:∀{s:Sl} {vs:List ab} {b:Nat},b∈(En.rd s vs).fp->b∈aw s:=λC=>by
  have C:_∈(if _=[]then[]else aw _):=C;split at C
  .cases C
  .exact C
 have HT:LH F0 w M [.g y] (D++[pV tr lt]):=by
  refine⟨h.fr,λe q=>by rw[bG.1 q];exact h.own _ (bt _ F),λe q=>?_,λe q b d=>by rw[bG.1 q]at d;exact h.new _ (bt _ F) b d,by simp[En.g],λaa G b d e q B=>?_⟩
  .rcases aX.1 q with q|q
   .exact h.rd e q
   .rw [bG.1 q,O,Q];intro e A;simp only[List.map_cons,List.map_nil,av,aR,aT]at A;rcases A with rfl|rfl|rfl|rfl|rfl
    .exact aK.i4 (h.own (.row cV 1 ⟨some (ae Y.heap.size),4,4⟩ _) (by simp))
    .exact AG (h.own (.by x X) (by simp[hx]))
    .exact U
    .exact AG (h.own (.by f N) (by simp[hf]))
    .exact AG (h.own (.by z Z) (by simp[hz]))
  .rw [bG.1 q]at B;have B:b=y:=by simpa[En.g]using B
   rcases aX.1 G with G|G
   .exact h.dj aa G b d (.g y) (bt _ F) (by simp[En.g,B])
   .rw [bG.1 G,O,Q]at d;obtain⟨e,A,d⟩:=dZ.1 d;simp only[List.map_cons,List.map_nil,av,aR,aT]at A;rcases A with rfl|rfl|rfl|rfl|rfl
    .exact rows (di _ (bG.2 rfl)) b (I d) B
    .exact rows (bt _ hx) b (I d) B
    .have h3:b∈(En.rd j (E.map W.bC)).fp:=by
      have V:=I d;rw[ZP]at V;have ad:E.map W.bC≠[]:=λh0=>by
       have:E=[]:=by simpa using h0
       subst this;have d:b∈(if((([]:List UInt8).take k).map W.bC)=[]then[]else aw (sub j 0 k)):=d;rw[aj (by simp)]at d;cases d
      show b∈(if E.map W.bC=[]then[]else aw j);rw[af ad];exact V
     exact h.dj _ A b h3 (.g y) (bt _ F) (by simp[En.g,B])
    .exact rows (bt _ hf) b (I d) B
    .exact rows (bt _ hz) b (I d) B
 show kh _ _ _ _ _ _ _ _ _ _ _;rw[show(⟨some (nb Y),4,4⟩:Sl)=tr from Q.symm];refine Wz (D++[pV tr lt]) (bt _ hk) tr lt (λp S=>?_) (by rw[O];rfl) (by simp) (λP H1=>K P (H1.forget _ λe A=>bt _ A)) 4 0 M rfl HT;rw[O]at S;simp only[av,aR,aT]at S;rcases S with rfl|rfl|rfl|rfl
 .exact lX
 .simp;omega
 .exact lF
 .exact lZ
open uS in
def one{ab:Int}{C:UInt8}{raw aM st:Sl}{ly:List UInt8}{G i:Nat}{ys:List Lx}{y:Lx}{D:List En}(a8:a5 ab)(U:i<100)(hy:ys[i]? =some y)(yb:mB 40 y)(yg:t' y)(hk:cH∈D)(hm:nR aM ys∈D)(hr:En.rd raw (ly.map W.bC)∈D)(K:∀I,LH F0 w I [.g G] D->a2 ab (C.toNat:Int) raw G aM st (ao .i64 ((i:Int)+1)) I (lP w)){I:J}(H:LH F0 w I [.g G] D):a2 ab (C.toNat:Int) raw G aM st (i:Int) I (lP w):=by
 have au:=sH.1 (H.rd (nR aM ys) hm);have bn:=au.n;have bm:=(bO.1 hy).1;have ax:=aE hy;obtain⟨lp,lB,lw⟩:=Vb yb yg;obtain⟨d,N⟩:∃d,d=eE y.p:=⟨_,rfl⟩;have bo:d.length<=90000:=by rw[N];omega
 have dec:gL d=(y.p,0):=by unfold gL;rw[N,Wb lp (by omega)];dsimp only;rw[aj (by rw[<-vq];exact yg.e)]
 have bb:(dc ⟨d,0⟩).1=dK y.p.g:=by
  have h1:=oK (dK y.p.g);have h2:(dJ (dK y.p.g)).length<=d.length:=by rw[N];unfold eE;rw[a7];omega
  rw[N];unfold eE;rw[yT _ (by omega)]
 have hE:(dK y.p.g).length<=90000:=by
  have h1:=oK (dK y.p.g);have h2:(dJ (dK y.p.g)).length<=d.length:=by rw[N];unfold eE;rw[a7];omega
  omega
 have pB:1<=d.length:=by have h1:=oK (dK y.p.g);rw[N];unfold eE;rw[a7];omega
 refine bB _ _ _ _ _ _ _ _ _ (a3 (aP (by omega)) ⟨by omega,by omega,au.get hy λp _ O=>?_⟩);rw[bF];refine⟨_,_,_,_,O.c0,O.c1,O.c2,O.c3,H.hD (Dk lw (au.2 y ax) (H.rd cH hk)) ?_⟩;rintro _ w2 ⟨s,rfl,h1,_⟩ _ F2;rw[yg.e]at h1 ⊢;obtain⟨ob,bh⟩:=h1 rfl;rw[<-N]at ob;have H2:=F2.rd (.rd s (d.map W.bC)) ob.rd (hn bh);refine⟨_,_,rfl,H2.hD (Ni (show Bytes w2 s d from H2.rd (.rd s (d.map W.bC)) (by simp)) (by omega) (H2.rd cH (by simp[hk]))) ?_⟩;rw[dec];rintro _ w3 ⟨z,rfl,hz,bc,bd⟩ _ F3;have hz:z.p=y.p:=hz;have H3:=F3.rd (eY z) (h6.2 bc) bd;have zw:uh z:=by have k:=Jg (V:=d) (by omega);rw[dec,<-hz]at k;exact k.1.Jz (bg _) k.2
 refine⟨_,_,_,_,_,rfl,H3.aJ λb2 w4 H4=>H4.ai λw5 H5=>ha ((DA (show Bytes w5 s d from H5.rd (.rd s (d.map W.bC)) (by simp)) (by omega)).mono ?_)⟩;rintro _ w6 ⟨rb,fp,rfl,bj,f6,nf⟩;have H6:=H5.push (.gj rb ⟨d,0⟩ fp) f6 bj (λbi hq=>nf bi (aO.1 hq));have nB:=Bytes.len (show Bytes w6 s d from H6.rd (.rd s (d.map W.bC)) (by simp));refine⟨f6,some (ae rb),rfl,a1 rfl (a1 rfl (a1 rfl (a1 (by simp;omega) ⟨by omega,by omega,(sH.1 (H6.rd (nR aM ys) (by simp[hm]))).get hy λp _ O=>?_⟩)))⟩;refine⟨_,_,_,_,O.c0,O.c1,O.c2,O.c3,H6.jP (SJ yb ((sH.1 (H6.rd (nR aM ys) (by simp[hm]))).2 y ax)) λt w7 _ F7 ht nt=>⟨t,rfl,?_⟩⟩;rw[<-N]at ht;have H7:=F7.rd (.rd t (d.map W.bC)) ht.rd (hn nt);refine H7.ay (AL (show Bytes w7 s d from H7.rd (.rd s (d.map W.bC)) (by simp)) ht.rd (by omega)) ?_;rintro _ w8 rfl H8;refine⟨_,rfl,a1 rfl (H8.lF 2 rfl (λhr=>Dz hr) λg w9 H9 _=>⟨_,rfl,H9.hD (PT (V:=dK y.p.g) (by rw[<-bb];exact H9.rd (.rd g ((dc ⟨d,0⟩).1.map W.bC)) (by simp)) (by omega) (H9.rd cH (by simp[hk]))) ?_⟩)⟩;rw[G9 lp.g lp.n lp.v];rintro _ bp ⟨gs,av,rfl,aw,aB,Fg⟩ _ aU;have aw:xs av=y.p.g:=aw;have aC:=aU.rd (.gr gs av) (bV.2 aB) Fg;refine⟨_,_,rfl,aC.aJ λb3 bq aD=>aD.ai λbr al=>al.hD (Dk zw (h6.1 (al.rd (eY z) (by simp))) (al.rd cH (by simp[hk]))) ?_⟩;rintro _ bs ⟨s2,rfl,h2,_⟩ _ aV;rw[vq,hz,<-vq,yg.e]at h2 ⊢;obtain⟨aS,bf⟩:=h2 rfl;rw[<-N]at aS;have ap:=aV.rd (.rd s2 (d.map W.bC)) aS.rd (hn bf);refine⟨_,_,rfl,a1 rfl (a1 rfl ⟨by omega,by omega,?_⟩)⟩;obtain⟨p,hp,_⟩:=(sH.1 (ap.rd (nR aM ys) (by simp[hm]))).again hy;refine De hp (ap.ai λam ad=>?_);have aL:=sH.1 (ad.rd (nR aM ys) (by simp[hm]));obtain⟨p',aR,a9⟩:=aL.again hy;rw[hp]at aR;cases aR;have hlen:gs.n=y.m.g.n:=by
  have aN:=gZ aB;have aQ:=gZ (aL.2 y ax).1;have aY:(xs av).length=(xs y.gl).length:=by rw[aw];rfl
  simp[xs]at aY;omega
 refine⟨_,a9.c0,a1 (by rw[hlen];simp) (ad.ay (AL (show Bytes am s d from ad.rd (.rd s (d.map W.bC)) (by simp)) (show Bytes am s2 d from ad.rd (.rd s2 (d.map W.bC)) (by simp)) (by omega)) ?_)⟩;rintro _ bk rfl aF;refine⟨_,rfl,a1 rfl (aF.ay (iY ab ((s.n:Nat):Int) bk (by omega) a8) ?_)⟩;have ba:=iT ab ((s.n:Nat):Int) (by omega);generalize gy ab ((s.n:Nat):Int)=z0 at ba;obtain⟨k,rfl⟩:∃k:Nat,z0=(k:Int):=⟨z0.toNat,by omega⟩;rintro _ az rfl aG;have aq:LH F0 w az [.g G,.g b2,.g b3] (D++[.rd s (d.map W.bC)]):=(aG.ih [true,true,false,true]).forget _ λa6 he=>by
  rcases aX.1 he with he|he
  .simp [he]
  .rw [bG.1 he];simp
 clear H H2 H3 H4 H5 H6 H7 H8 H9 aC aD al ap ad aF aG;obtain⟨q,ak⟩:∃q:List En,q=D++[.rd s (d.map W.bC)]:=⟨_,rfl⟩;have mk:cH∈q:=by simp[ak,hk]
 have mr:En.rd raw (ly.map W.bC)∈q:=by simp[ak,hr]
 have me:En.rd s (d.map W.bC)∈q:=by simp[ak]
 rw[<-ak]at aq;have cE:s.n<=s.c:=(show Bytes az s d from aq.rd _ me).2.1;have K2:∀I,LH F0 w I [.g G] q->a2 ab (C.toNat:Int) raw G aM st (ao .i64 ((i:Int)+1)) I (lP w):=λI H1=>K I (H1.forget _ λa6 he=>by simp[ak,he]);have M:∀{Y:J} {L:List En},LH F0 w Y L q->Bytes Y s d:=λH=>H.rd _ me;have P:([]:List UInt8).length+d.length<=100000000000000:=by simp only[fC];omega
 have l2:d.length+[C].length<=100000000000000:=by simp only[List.length_singleton];omega
 refine⟨_,rfl,aq.cR (e:=cL) (sz:=1) (n:=0) (cs:=[]) rfl (by decide) λbt aI=>?_⟩;refine aI.fw 3 (s:=⟨some (ae az.heap.size),0,0⟩) (l:=[]) (src:=s) rfl (M aI) P λaA bu aK=>?_;have nx:=(kD (aK.get 3)).1;simp only[yR,List.nil_append]at nx;refine⟨by omega,by omega,ZD aK 3 k C rfl (by simp;omega) λbl aW=>⟨by omega,by omega,?_⟩⟩;have ar:LH F0 w bl [.g G,.g b2,.g b3,.by aA (d.set k C)] q:=aW;have lX:(d.set k C).length<=100000:=by rw[i3];omega
 have lZ:(d++[C]).length<=100000:=by simp only[a7,List.length_singleton];omega
 have be:(ly.take 30).length<=100000:=by rw[eA];omega
 have ah:∀{Y:J} {L:List En} {K:aH},LH F0 w Y L q->(∀t F,LH F0 w F (L++[.by t (ly.take 30)]) q->K (ag t.v) F)->ee [G,b2,b3] aa Cq #[raw.v,.i 30] Y K:=λH' hK=>H'.jP (UO (H'.rd _ mr) 30 (by omega)) λt F _ aT ht nt=>hK t F (aT.own (.by t _) ht.2 nt);have af:∀{Y:J} {L:List En} {K:J->Prop},LH F0 w Y L q->(∀F,LH F0 w F (L++[.by ⟨some (ae Y.heap.size),0,0⟩ []]) q->K F)->cZ Y (.cells #[] cL) K:=λH' hK=>H'.cR (e:=cL) (sz:=1) (n:=0) (cs:=[]) rfl (by decide) λF an=>hK F an;have ac:∀{Y:J} {L:List En} {K:J->Prop},LH F0 w Y L q->(∀F,LH F0 w F (L++[.by ⟨some (ae Y.heap.size),1,1⟩ [C]]) q->K F)->cZ Y (.cells #[.int .u8 (C.toNat:Int)] cL) K:=λH' hK=>H'.cR (e:=cL) (sz:=1) (n:=1) (cs:=[W.bC C]) rfl (by decide) λF an=>hK F an;have Z:∀{Y:J} {L:List En} (f z:Sl),LH F0 w Y L q->En.g G∈L->En.by f (ly.take 30)∈L->En.by aA (d.set k C)∈L->En.by z (d++[C])∈L->
   cZ Y (.cells #[aA.v,.slice (if s.c=0 then s.a else s.a.map (·.add (0 *1))) ((aZ (k:Int)) - 0) (s.c - 0),f.v,z.v] cV) λam=>cJ ab (C.toNat:Int) raw G aM st (i:Int) ⟨some (nb Y),4,4⟩ am (lP w):=λf z H a0 aN aQ a4=>fin (E:=d) H a0 mk me aN aQ a4 (by omega) be lX lZ k (by omega) K2
 refine⟨ar.ai λu1 J1=>ah J1 λf u2 T=>⟨f,rfl,af T λQ x=>⟨?_,ac x λS j=>?_⟩,ac T λQ x=>af x λS j=>?_⟩,ar.ai λu1 J1=>af J1 λu2 T=>⟨ah T λf Q x=>⟨f,rfl,?_,ac x λS j=>?_⟩,ac T λQ x=>ah x λf S j=>⟨f,rfl,?_⟩⟩,ar.ai λu1 J1=>ac J1 λu2 T=>⟨ah T λf Q x=>⟨f,rfl,af x λS j=>?_⟩,af T λQ x=>ah x λf S j=>⟨f,rfl,?_⟩⟩⟩
 .refine x.fw 5 (s:=⟨some (ae u2.heap.size),0,0⟩) (l:=[]) (src:=s) rfl (M x) P λB S j=>ac j λu5 h=>?_;refine h.fw 5 (s:=B) (src:=⟨some (ae S.heap.size),1,1⟩) rfl (kD (h.get 6)).rd l2 λz u6 A=>?_;exact Z f z A (by simp) (by simp) (by simp) (by simp)
 .refine j.fw 5 (s:=⟨some (ae u2.heap.size),0,0⟩) (l:=[]) (src:=s) rfl (M j) P λB u5 h=>?_;refine h.fw 5 (s:=B) (src:=⟨some (ae Q.heap.size),1,1⟩) rfl (kD (h.get 6)).rd l2 λz u6 A=>?_;exact Z f z A (by simp) (by simp) (by simp) (by simp)
 .refine j.fw 6 (s:=⟨some (ae Q.heap.size),0,0⟩) (l:=[]) (src:=s) rfl (M j) P λB u5 h=>?_;refine h.fw 6 (s:=B) (src:=⟨some (ae u2.heap.size),1,1⟩) rfl (kD (h.get 5)).rd l2 λz u6 A=>?_;exact Z f z A (by simp) (by simp) (by simp) (by simp)
 .refine x.fw 4 (s:=⟨some (ae u1.heap.size),0,0⟩) (l:=[]) (src:=s) rfl (M x) P λB S j=>ac j λu5 h=>?_;refine h.fw 4 (s:=B) (src:=⟨some (ae S.heap.size),1,1⟩) rfl (kD (h.get 6)).rd l2 λz u6 A=>?_;exact Z f z A (by simp) (by simp) (by simp) (by simp)
 .refine j.fw 4 (s:=⟨some (ae u1.heap.size),0,0⟩) (l:=[]) (src:=s) rfl (M j) P λB u5 h=>?_;refine h.fw 4 (s:=B) (src:=⟨some (ae Q.heap.size),1,1⟩) rfl (kD (h.get 6)).rd l2 λz u6 A=>?_;exact Z f z A (by simp) (by simp) (by simp) (by simp)
 .refine j.fw 4 (s:=⟨some (ae u1.heap.size),0,0⟩) (l:=[]) (src:=s) rfl (M j) P λB u5 h=>?_;refine h.fw 4 (s:=B) (src:=⟨some (ae u2.heap.size),1,1⟩) rfl (kD (h.get 5)).rd l2 λz u6 A=>?_;exact Z f z A (by simp) (by simp) (by simp) (by simp)
 .refine j.fw 6 (s:=⟨some (ae Q.heap.size),0,0⟩) (l:=[]) (src:=s) rfl (M j) P λB u5 h=>?_;refine h.fw 6 (s:=B) (src:=⟨some (ae u1.heap.size),1,1⟩) rfl (kD (h.get 4)).rd l2 λz u6 A=>?_;exact Z f z A (by simp) (by simp) (by simp) (by simp)
 .refine j.fw 5 (s:=⟨some (ae u2.heap.size),0,0⟩) (l:=[]) (src:=s) rfl (M j) P λB u5 h=>?_;refine h.fw 5 (s:=B) (src:=⟨some (ae u1.heap.size),1,1⟩) rfl (kD (h.get 4)).rd l2 λz u6 A=>?_;exact Z f z A (by simp) (by simp) (by simp) (by simp)
open uS in
def law{G m1 raw:Sl}{xs ms:List Int}{ly:List UInt8}{E c1:Int}(hx:∀q∈xs,a5 q)(ab:xs.length<=9223372036854775807)(z:∀q∈ms,a5 q)(Z:ms.length<=9223372036854775807)(V:bp w G xs)(Y:bp w m1 ms)(hr:Bytes w raw ly)(Q:a5 E)(hc:0<=c1/\c1<=255)(U:cH.P w)(e:ru w)(hw:kO.P w):
  ak aa Cp #[G.v,m1.v,.i E,.int .u8 c1,raw.v] w (lP w):=by
 obtain⟨F,rfl⟩:∃F:UInt8,c1=(F.toNat:Int):=⟨UInt8.ofNat c1.toNat,by rw[UInt8.toNat_ofNat'];omega⟩;have h:LH F0 w w [] [cH,k8,kO,.rd G (xs.map a'),.rd m1 (ms.map a'),.rd raw (ly.map W.bC)]:=bP _ (by
  intro x y;simp only[av,aR,aT]at y;rcases y with rfl|rfl|rfl|rfl|rfl|rfl
  .exact U
  .exact e
  .exact hw
  .exact V
  .exact Y
  .exact hr)
 refine aD _ _ _ _ _ w _ ((SV hx ab z Z (cc:=3) (by omega) (by simp) (by simp) h).mono ?_);rintro _ w1 ⟨A,st,j,O,rfl,C,yb,_,⟨y2,yg⟩,db,dl,_⟩;have M:=(C.freeze 1 (.bc 7 st (O.flatMap Sp.c)) rfl (aK.bc (C.get 1)) λb k=>DI k).freeze 0 (.bc 4 A ((j.map Lx.m).flatMap Lm.cs)) rfl (aK.bc (C.get 0)) λb k=>DI k;have N:LH F0 w w1 [] [cH,k8,kO,nR A j,.rd raw (ly.map W.bC)]:=(M.take 0).mX _ λx y=>by
  simp only[av,aR,aT]at y;rcases y with rfl|rfl|rfl|rfl|rfl
  .exact yy (by simp)
  .exact yy (by simp)
  .exact yy (by simp)
  .refine ⟨λS x e=>S x ?_,λb k=>?_⟩
   .rcases av.1 e with rfl|e
    .simp
    .simp [e]
   .obtain ⟨x,e,k⟩:=dZ.1 k;refine⟨x,?_,k⟩;rcases av.1 e with rfl|e
    .simp
    .simp [e]
  .exact yy (by simp)
 refine⟨_,_,rfl,N.aJ λb w2 K=>K.ai λw3 L=>?_⟩;have loop:∀(d i:Nat) (B:J),i+d=j.length->LH F0 w B [.g b] [cH,k8,kO,nR A j,.rd raw (ly.map W.bC)]->a2 E (F.toNat:Int) raw b A st (i:Int) B (lP w):=by
  intro d;induction d with
  |zero=>
   intro i B T h;have hn:=(sH.1 (h.getD 3)).n;refine bB _ _ _ _ _ _ _ _ _ (a1 (aV (by omega)) (h.ay (Tt (h.getD 1) (h.getD 2)) ?_));rintro _ I rfl D;exact⟨_,rfl,rfl,D.fr⟩
  |succ d ih=>
   intro i B T h;have z:j[i]? =some (j[i]'(by omega)):=a6 (by omega);generalize j[i]'(by omega)=q at z;have H:=aE z;exact one (ly:=ly) Q (by omega) z (yb.2 q H) (yg q H) (by simp) (by simp) (by simp) (λI D=>by rw[bd _ (by omega)];exact ih (i+1) I (by omega) D) h
 exact loop j.length 0 w3 (by omega) L
end
end wU
def EX{P:aF}{W:J}{n:String}{g m:Nat}{cs:Array ab}{vs:List ab}(h:P.globalNamed n=some g)(q:W.var? P n=some cs)(e:cs.toList=vs)(k:m=vs.length):Rd W ⟨some (ae g),m,m⟩ vs:=by refine vT k (bg _) (λd=>by cases d) λi v j=>⟨ae g,rfl,?_⟩;rw[show(ae g).add i=⟨g,i,none⟩from FC g i,World.var?_cell h q i,<-j,<-e,Array.getElem?_toList]
def ZN{P:aF}{w:J}{fuel n:Nat}{t e:TypeId}{cs:List ab}{O:List (List UInt8)}{p:List MemPlace}(F:P.underlying t=some (.array n e))(C:P.underlying e=some .string)(A:P.cellsOf e=1)(I:P.cellsOf t=n)(h:DataW.trod (λ_=>()) P w 0 (λ_=>true) false fuel t cs=some (.agg (O.map λs=>.lit (.string s)),p)):cs=O.map mj:=by
 obtain⟨xs,m,rfl,G,K,M,z⟩:=DataW.trod_array F h;have q:xs.map (·.1)=O.map λs=>(DataW.lit (.string s):DataW Unit):=by have:=congrArg Prod.fst G;simpa using this.symm
 have L:O.length=n:=by have:=congrArg List.length q;simp at this;omega
 apply List.ext_getElem?;intro i;by_cases D:i<n
 .have j:=z i D;obtain⟨b,k⟩:∃b,xs[i]? =some b:=⟨xs[i]'(by omega),a6 (by omega)⟩;rw[k,A,Nat.mul_one]at j;obtain⟨s,B,rfl,_⟩:=DataW.trod_string C j;have y:cs[i]? =some (.string s):=by have:=congrArg (·[0]?) B;simpa[List.getElem?_take,List.getElem?_drop]using this
  have d:(xs.map (·.1))[i]? =some (DataW.lit (.string s.data.toList):DataW Unit):=by simp[k]
  rw[q]at d;simp only[iM,Option.map_eq_some_iff,DataW.lit.injEq,Lit.string.injEq]at d;obtain⟨H,E,x⟩:=d;rw[y,iM,E];show _=some (Value.string (ba H));rw[x];exact congrArg some (congrArg Value.string (lX s).symm)
 .rw [List.getElem?_eq_none (by omega),List.getElem?_eq_none (by simp;omega)]
def X4{W:J}(h:laidMetH aa [("math/bits.deBruijn32tab",Rows.laid_math_bits_deBruijn32tab),("math/bits.deBruijn64tab",Rows.laid_math_bits_deBruijn64tab),("internal/strconv.uint64pow10",Rows.laid_internal_strconv_uint64pow10),("enthymeme/term.kidCounts",Rows.laid_enthymeme_term_kidCounts),("enthymeme/proof.words",Rows.laid_enthymeme_proof_words)] W):cH.P W/\ru W/\kO.P W:=by
 rw[MakeChecks.laidMetH_plain _ _ _ (by kernel_rfl)]at h;refine⟨?_,⟨?_,trivial⟩,?_⟩
 .obtain ⟨g,t,x,fuel,p,j,k,q,w⟩:=Lib.laidMet.reads h (n:="enthymeme/term.kidCounts") (d:=Lib.tabData .i64 xW) (.tail _ (.tail _ (.tail _ (.head _))));obtain rfl:=e3 ((show Tryz.prog.globalNamed "enthymeme/term.kidCounts"=some 1 by kernel_rfl).symm.trans j);obtain rfl:=e3 ((show(Tryz.prog.globals[1]?).map (·.type)=some aag by kernel_rfl).symm.trans k);exact EX j q (Lib.cells_of_tab (e:=bR) (n:=35) (by kernel_rfl) (by kernel_rfl) (by kernel_rfl) (by kernel_rfl) w) rfl
 .obtain ⟨g,t,x,fuel,p,j,k,q,w⟩:=Lib.laidMet.reads h (n:="internal/strconv.uint64pow10") (d:=Lib.tabData .u64 yI) (.tail _ (.tail _ (.head _)));obtain rfl:=e3 ((show Tryz.prog.globalNamed "internal/strconv.uint64pow10"=some 2 by kernel_rfl).symm.trans j);obtain rfl:=e3 ((show(Tryz.prog.globals[2]?).map (·.type)=some aaf by kernel_rfl).symm.trans k);exact EX j q (Lib.cells_of_tab (e:=aam) (n:=20) (by kernel_rfl) (by kernel_rfl) (by kernel_rfl) (by kernel_rfl) w) rfl
 .obtain ⟨g,t,x,fuel,p,j,k,q,w⟩:=Lib.laidMet.reads h (n:="enthymeme/proof.words") (d:=.agg (q6.map λs=>.lit (.string s))) (.tail _ (.tail _ (.tail _ (.tail _ (.head _)))));obtain rfl:=e3 ((show Tryz.prog.globalNamed "enthymeme/proof.words"=some 0 by kernel_rfl).symm.trans j);obtain rfl:=e3 ((show(Tryz.prog.globals[0]?).map (·.type)=some aah by kernel_rfl).symm.trans k);exact EX j q (ZN (e:=fW) (n:=6) (by kernel_rfl) (by kernel_rfl) (by kernel_rfl) (by kernel_rfl) w) rfl
def proofLemmas_walk(W:J)(e:laidMetH aa [("math/bits.deBruijn32tab",Rows.laid_math_bits_deBruijn32tab),("math/bits.deBruijn64tab",Rows.laid_math_bits_deBruijn64tab),("internal/strconv.uint64pow10",Rows.laid_internal_strconv_uint64pow10),("enthymeme/term.kidCounts",Rows.laid_enthymeme_term_kidCounts),("enthymeme/proof.words",Rows.laid_enthymeme_proof_words)] W)(ls ms:Sl)(d c1:Int)(raw:Sl)(w0:ArgNums W ls)(B:ArgNums W ms)(C:a5 d)(D:0<=c1/\c1<=255)(E:ArgBytes W raw):
  ak aa Cp #[ls.v,ms.v,.i d,.int .u8 c1,raw.v] W λr A=>r=ag (.bool true)/\ah W A:=by obtain⟨j,h,z⟩:=X4 e;obtain⟨H,k,F,q⟩:=w0;obtain⟨I,w,G,x⟩:=B;obtain⟨K,y,_⟩:=E;exact wU.law q (by omega) x (by omega) k w y C D j h z
end Go.Proofs.YthaledkcjibmfaaGreatDoor
