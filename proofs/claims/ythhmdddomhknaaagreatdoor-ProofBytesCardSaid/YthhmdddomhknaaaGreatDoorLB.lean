import Derived.Test.YthhmdddomhknaaaGreatDoorZ7
import Derived.Test.YthhmdddomhknaaaGreatDoorE2
import Derived.Test.YthhmdddomhknaaaGreatDoorPM
import Derived.Lib.LaidTab
import Derived.Lib.LaidU8
import Derived.LaidByTextLater
import Derived.MakeChecks
import Derived.FnData
import Derived.OpenShut
import Derived.Test.YthhmdddomhknaaaGreatDoorRows
set_option linter.unusedVariables false
set_option maxRecDepth 100000
set_option maxHeartbeats 1000000
set_option linter.defProp false
namespace Go.Proofs.YthhmdddomhknaaaGreatDoor
open Go renaming World->J,Calls->ai,Value->aa,Ending->ch
open Go.IntKind renaming wrap->aj
open _root_.Int renaming toNat->aV,tdiv->bL,tmod->ck,toNat_natCast->bH
open _root_.ByteArray renaming mk->bG
open Go.IntWalk renaming i64_in->aQ
open _root_.Nat renaming le_refl->bm,le_trans->a6,zero_le->dv
open _root_.Option.some renaming inj->fe,injEq->eI
open Go.Proofs.Tryz renaming prog->Y
open Go.Ending renaming returned->ae
open List renaming mem_append->aY,mem_cons->au,not_mem_nil->aO,mem_of_getElem?->aD,getElem?_eq_getElem->a4,getElem?_eq_some_iff->cz,mem_append_left->bK,mem_append_right->dV,mem_flatMap->bS,mem_map->bZ,length_append->bc,length_cons->dE,length_nil->gS,append_assoc->cp,mem_singleton->bT,length_take->gJ,flatMap_cons->cV,mem_cons_self->kf,length_map->tg,length_set->y6,getElem?_map->hr,append_nil->eP,cons_append->jc,take_add_one->eA,map_append->hv,getElem?_set_ne->D3,drop_of_length_le->cU,take_of_length_le->fQ
open Go Go.W
def NX{w:J}{y:Nat}{l:List UInt8}{own:List Nat}{s:Sl}{ds:List Sp}(hr:fg w y l own)(Z:f' w s ds)(ag:∀z∈(En.sp s ds).fp,z∉own)(hd:∀d∈ds,l6 d.x)(hl:l.length+(eg (bA ds)).length<=10000000000):
  ai Y LS #[.pointer (some (ab y)),s.v] w (l7 w y own (l++eg (bA ds))):=by
 have aj:=Z.n;have h7:=QA (bA ds);have aa:(bA ds).length=ds.length:=by simp
 have hT:(eg (bA ds)).length=(bt (ds.length:Int)).length+((bA ds).flatMap dP).length:=by unfold eg;rw[bc,aa]
 have ac:=Xe (D:=[.sp s ds]) hr λF q=>by rw[bT.1 q];exact⟨dX.2 Z,ag⟩
 have hn:a7 ((s.n:Nat):Int):=⟨by omega,by omega⟩;refine v3.aB _ _ w _ (Yk (U:=[]) (ac.wm 0 rfl (λr=>k2 r _ hn (by omega)) (λw1 G A=>⟨rfl,?_⟩) (by simp)));have loop:∀(k i:Nat) (v:J) (E:List UInt8) (G:List Nat),i+k=ds.length->E++((bA ds).drop i).flatMap dP=l++eg (bA ds)->LH (·∈own) w v [.wr y E G] [.sp s ds]->
   v3.a2 (ab y) s ((s.n:Nat):Int) (i:Int) v (l7 w y own (l++eg (bA ds))):=by
  intro k;induction k with
  |zero=>
   intro i v E G hi q A;rw[cU (by omega),List.flatMap_nil,eP]at q;rw[<-q];exact v3.bw _ _ _ _ _ _ (aZ (aW (by omega)) ⟨rfl,G,A.get 0,A.fr,λz j=>(A.new _ (aD (i:=0) rfl) z (aM.2 j)).symm⟩)
  |succ k ih=>
   intro i v E G hi q A;have B:=dX.1 (A.getD 0);have O:ds[i]? =some (ds[i]'(by omega)):=a4 (by omega);have j:(bA ds).drop i=(ds[i]'(by omega)).x::(bA ds).drop (i+1):=by rw[List.drop_eq_getElem_cons (by omega:i<(bA ds).length)];simp
   generalize ds[i]'(by omega)=d at O j;have N:=aD O;have e:=hd d N;rw[j,cV,<-cp]at q;have hlen:=congrArg List.length q;have ap:(dP d.x).length=(bt d.x.kind).length+(bt d.x.node).length+(bt d.x.du).length+(cH d.x.params).length+(df (bl d.x.nm)).length+(cH d.x.bY).length+(cH d.x.hints).length:=by unfold dP;simp only[bc]
   simp only[bc]at hlen;have g1:=mZ d.x.params;have g2:=mZ d.x.bY;have g3:=mZ d.x.hints;have g4:=nT (bl d.x.nm);refine v3.bw _ _ _ _ _ _ (a1 (aS (by omega)) ⟨by omega,by omega,B.get O λp C=>?_⟩);rw[bH];have mD:∀F∈[d.pE,d.hE,d.lE,.sp s ds],((∀d∈[En.sp s ds],d.P v)->F.P v)/\∀b∈F.fp,∃d∈[En.sp s ds],b∈d.fp:=λF q=>by
    by_cases j:F∈[d.pE,d.hE,d.lE]
    .exact ⟨λB=>(Qj N j).1 v (B (.sp s ds) (by simp)),λb e=>⟨.sp s ds,by simp,(Qj N j).2 b e⟩⟩
    .simp only[au,aO,aR,not_or]at q j;rcases q with rfl|rfl|rfl|rfl
     .exact absurd rfl j.1
     .exact absurd rfl j.2.1
     .exact absurd rfl j.2.2
     .exact ⟨λB=>B (.sp s ds) (by simp),λb e=>⟨.sp s ds,by simp,e⟩⟩
   have H2:=A.lH [d.pE,d.hE,d.lE,.sp s ds] mD;have ints:∀{u:J} {S:List UInt8} {ox:List Nat} {H:Nat} {D:List En} {t:Sl} {v:List Int} {K:aH},LH (·∈own) w u [.wr y S ox,.g H] D->En.rd t (v.map a')∈D->(∀z∈v,a7 z)->S.length+v.length<=20000000000->(∀u' al,LH (·∈own) w u' [.wr y (S++cH v) al,.g H] D->K (ae (.tuple #[])) u')->
     ee [H] Y vR #[.pointer (some (ab y)),t.v] u K:=λM W hv hl hk=>M.wm 0 rfl (λr=>FA r (M.rd _ W) (λz j Q=>M.dj _ W z j _ (aD (i:=0) rfl) (aM.2 Q)) hv (by omega)) (λw' ak H'=>hk w' ak H') (by simp)
   refine⟨_,_,_,_,_,_,_,C.c0,C.c1,C.c2,C.c3,C.c4,C.c5,C.c6,H2.aG λH w2 H3=>H3.ah λw9 H4=>?_⟩;refine H4.wm 0 rfl (λr=>k2 r _ e.k.1 (by omega)) λaq o2 H5=>⟨rfl,H5.wm 0 rfl (λr=>k2 r _ e.k.2.1 (by simp only[bc];omega)) λar o3 H6=>⟨rfl,H6.wm 0 rfl (λr=>k2 r _ e.k.2.2 (by simp only[bc];omega)) λav o4 H7=>⟨rfl,ints H7 (by simp) e.p (by simp only[bc];omega) λam o5 V=>⟨rfl,?_⟩⟩⟩⟩;obtain⟨I,an,r1,r2,r3,r4⟩:=EX am d.x.nm;have L:=(V.fresh r3).rd (.rd I ((bl d.x.nm).map bD)) r2 (gU λb e=>(r4 b e).1);refine⟨I,an,r1,λb e=>r3.cb b (V.own (.g b) (by simp at e;simp[e])) id,L.wm 0 rfl (λr=>FB r (L.rd (.rd I ((bl d.x.nm).map bD)) (by simp)) (λz j Q=>L.dj (.rd I ((bl d.x.nm).map bD)) (by simp) z j _ (aD (i:=0) rfl) (aM.2 Q)) (by simp only[bc];omega)) λaw o6 ad=>⟨rfl,ints ad (by simp) e.l (by simp only[bc];omega) λax o7 af=>⟨rfl,ints af (by simp) e.h (by simp only[bc];omega) λao o8 T=>⟨rfl,?_⟩⟩⟩⟩;rw[bb _ (by omega)];have e2:E++bt d.x.kind++bt d.x.node++bt d.x.du++cH d.x.params++df (bl d.x.nm)++cH d.x.bY++cH d.x.hints=E++dP d.x:=by unfold dP;simp only[cp]
   rw[e2]at T;refine ih (i+1) ao (E++dP d.x) o8 (by omega) q ((T.take 1).lH [.sp s ds] λF q=>?_);rw[bT.1 q];exact⟨λB=>B (.sp s ds) (by simp),λb e=>⟨.sp s ds,by simp,e⟩⟩
 refine loop ds.length 0 w1 _ G (by omega) ?_ A;unfold eg;rw[List.drop_zero,aa,aj,cp]
structure xb(x:Lx):Prop where
 k:rL x
 h:∀y∈x.hy,a7 y
 c:∀y∈x.cl,a7 y
 s:∀d∈x.ds,l6 d.x
 z:∀d∈xs x.gl,(dq d).length<=1000000
 b:(de x.p).length<=1000000000
def YB{w:J}{x:Lx}(d:xb x)(h:uu w x)(H:b'.P w)(L:gw (xs x.gl)=0):ai Y LI #[x.m.v] w (hH w (de x.p)):=by
 have S:=d.b;unfold de Lx.p at S;simp only[bc]at S;have g1:=nT (eJ (xs x.gl));have g2:=mZ x.hy;have g3:=mZ x.cl;have V:∀A∈[En.gr x.m.g x.gl,.rd x.m.h (x.hy.map a'),.rd x.m.c (x.cl.map a'),.sp x.m.s x.ds,b'],A.P w:=λA T=>by
  simp only[au,aO,aR]at T;rcases T with rfl|rfl|rfl|rfl|rfl
  .exact bR.2 h.1
  .exact h.2.1
  .exact h.2.2.1
  .exact dX.2 h.2.2.2
  .exact H
 refine N'.aB _ _ _ _ w _ ((bI (w:=w) _ V).aG λG w1 B=>B.iZ (aaL (bR.1 (B.getD 0)) (B.getD 4) (λ_=>d.k.g) d.z) ?_);rintro _ w2 ⟨t,rfl,I⟩ _ aa;obtain⟨I,hf⟩:=I L;have Z:=aa.rd (.rd t ((eJ (xs x.gl)).map bD)) I.rd (gU hf);have ints:∀{u:J} {M:List UInt8} {N:Nat} {ox:List Nat} {D:List En} {t:Sl} {v:List Int} {K:aH},LH F0 w u [.g G,.wr N M ox] D->En.rd t (v.map a')∈D->(∀x∈v,a7 x)->M.length+v.length<=20000000000->(∀U ad,LH F0 w U [.g G,.wr N (M++cH v) ad] D->K (ae (.tuple #[])) U)->
   ee [G] Y vR #[.pointer (some (ab N)),t.v] u K:=λF Q L hl H=>F.wm 1 rfl (λr=>FA r (F.rd _ Q) (λx hx e=>F.dj _ Q x hx _ (aD (i:=1) rfl) (aM.2 e)) L (by omega)) (λw' ac W=>H w' ac W) (by simp)
 refine⟨_,_,rfl,Z.Dp λw3 C=>C.wm 1 rfl (λr=>FB r (C.rd (.rd t ((eJ (xs x.gl)).map bD)) (by simp)) (λq j e=>C.dj (.rd t ((eJ (xs x.gl)).map bD)) (by simp) q j _ (aD (i:=1) rfl) (aM.2 e)) (by simp only[gS];omega)) λw4 o1 H4=>⟨rfl,ints H4 (by simp) d.h (by simp only[bc,gS];omega) λw5 o2 H5=>⟨rfl,ints H5 (by simp) d.c (by simp only[bc,gS];omega) λw6 o3 E=>⟨rfl,?_⟩⟩⟩⟩;refine E.wm 1 rfl (λr=>NX r (dX.1 (E.getD 3)) (λq j e=>E.dj (.sp x.m.s x.ds) (by simp) q j _ (aD (i:=1) rfl) (aM.2 e)) d.s (by simp only[bc,gS];omega)) λw7 o4 y=>⟨rfl,?_⟩;have A:[]++df (eJ (xs x.gl))++cH x.hy++cH x.cl++eg (bA x.ds)=de x.p:=by unfold de Lx.p;simp only[cp,List.nil_append]
 rw[A]at y;refine gN ((zW (show fg w7 w2.heap.size (de x.p) o4 from y.get 1) (by have:=d.b;omega)).mono ?_);rintro _ w8 ⟨s,rfl,hs,O,hn⟩;exact⟨O,s,rfl,s,rfl,hs,y.fr.dA O,λq j=>a6 y.fr.size (hn q j)⟩
def FR(w:J)(U:List UInt8)(E:Int)(r:ch)(w':J):Prop:=∃s:Sl,r=ae (.tuple #[s.v,.i E])/\(E=0->eU w' s U/\∀b∈ax s,w.heap.size<=b)/\(E≠0->s.n=0)
def A6{w0:J}{s t:Sl}{b:List UInt8}(j:Bytes w0 s b)(q:Bytes w0 t b)(B:b.length<=1000000000000):ai Y Kn #[s.v,t.v] w0 λr h=>r=ae (.bool true)/\ag w0 h:=by
 have C:=Bytes.len j;have D:=Bytes.len q;have loop:∀(k i:Nat) (w:J),i+k=b.length->ag w0 w->u7.L0 s t (i:Int) w λr h=>r=ae (.bool true)/\ag w0 h:=by
  intro k;induction k with
  |zero=>exact λi w z f=>u7.bC _ _ _ _ _ (aZ (aW (by omega)) ⟨rfl,f⟩)
  |succ k A=>
   intro i w z f;have e:b[i]? =some (b[i]'(by omega)):=a4 (by omega);generalize b[i]'(by omega)=c at e;have d:ag w0 w.drew:=f.dA (Fr.drew _ _);refine u7.bC _ _ _ _ _ (a1 (aS (by omega)) ⟨by omega,by omega,Bytes.cell (j.br d) e (by rw[bH]) λp _ x=>⟨_,x,by omega,by omega,Bytes.cell (q.br d) e (by rw[bH]) λE _ y=>⟨_,y,aZ (by simp) ?_⟩⟩⟩);rw[bb _ (by omega)];exact A (i+1) _ (by omega) d
 exact u7.ok _ _ w0 _ (aZ (by simp;omega) (loop b.length 0 w0 (by omega) (Fr.refl _ _)))
def Ul{w:J}{s:Sl}{l:List Nd}(h:GP w s l)(hW:∀d∈l,ff d.x)(hz:∀d∈l,(dq d.x).length<=1000000)(hl:l.length<=4096):
  ai Y KW #[s.v] w (hH w (eJ (xs l))):=by
 have hn:=ih h;have ag:(xs l).length=l.length:=by simp[xs]
 have O:LH F0 w w [] [.gr s l]:=bI _ (by intro ao q;simp only[au,aO,aR]at q;subst q;exact bR.2 h)
 have H:a7 ((l.length:Nat):Int):=⟨by omega,by omega⟩;have h0:=cR _ H;have loop:∀(m i:Nat) (out:Sl) (o:List UInt8) (y:J),i+m=l.length->o.length<=10+1000000 *i->o++((xs l).drop i).flatMap dq=eJ (xs l)->LH F0 w y [.by out o] [.gr s l]->
   vi.a2 s out (i:Int) y (hH w (eJ (xs l))):=by
  intro m;induction m with
  |zero=>
   intro i out o y af ho q j;refine vi.bw _ _ _ _ _ (aZ (aW (by omega)) ⟨out,rfl,?_,j.fr,λb D=>(j.new _ (aD (i:=0) rfl) b D).resolve_right id⟩);rw[cU (by omega),List.flatMap_nil,eP]at q;rw[<-q];exact kc (j.get 0)
  |succ m aj=>
   intro i out o y af ho q j;have C:l[i]? =some (l[i]'(by omega)):=a4 (by omega);have I:(xs l).drop i=(l[i]'(by omega)).x::(xs l).drop (i+1):=by rw[List.drop_eq_getElem_cons (by omega:i<(xs l).length)];simp[xs]
   generalize l[i]'(by omega)=d at C I;have E:=aD C;have W:=hW d E;have hlen:=hz d E;have ap:=hlen;have hu:=W.u;unfold dq at hlen;simp only[bc]at hlen;refine vi.bw _ _ _ _ _ (a1 (aS (by omega)) (hQ (bR.1 (j.getD 0)) rfl C λp hp c=>⟨d.x.op,d.ks,d.x.n,d.x.m,d.x.u,d.x.tx,d.x.st.k,d.x.st.n,d.x.st.x,c.c0,c.c1,c.c2,c.c3,c.c4,c.c5,c.c6,c.c7,c.c8,j.aG λG w2 A=>A.ah λM B=>?_⟩));have B:LH F0 w M [.by out o,.g G] [.gr s l]:=B;refine B.h' (kG _ W.op M) λt w4 H4 _ e _=>⟨t,rfl,H4.fy 0 rfl e.rd (by omega) λo1 w5 F=>?_⟩;refine F.h' (sm ((bR.1 (F.getD 0)).2 d E) W.ks W.kl) λt w6 H6 _ e _=>⟨t,rfl,H6.fy 0 rfl e.rd (by simp only[bc];omega) λo2 w7 H7=>?_⟩;refine H7.h' (kG _ W.n w7) λt w8 H8 _ e _=>⟨t,rfl,H8.fy 0 rfl e.rd (by simp only[bc];omega) λo3 w9 H9=>?_⟩;refine H9.h' (kG _ W.m w9) λt ar P _ e _=>⟨t,rfl,P.fy 0 rfl e.rd (by simp only[bc];omega) λo4 ak Q=>?_⟩;have eu:d.x.u=((d.x.u.toNat:Nat):Int):=by omega
   rw[eu];refine Q.h' (xO d.x.u.toNat (by omega) ak) λt av S _ e _=>⟨t,rfl,S.fy 0 rfl e.rd (by simp only[bc];omega) λo5 aw T=>?_⟩;refine T.str d.x.tx λtb ax U D=>?_;have aq:=W.tx;refine U.h' (xN D (by rw[dH];omega)) λt ay V _ e _=>⟨t,rfl,V.fy 0 rfl e.rd (by simp only[bc];omega) λo6 al Z=>?_⟩;refine Z.h' (kG _ W.sk al) λt az aa _ e _=>⟨t,rfl,aa.fy 0 rfl e.rd (by simp only[bc];omega) λo7 am ab=>?_⟩;refine ab.h' (kG _ W.sn am) λt aA ac _ e _=>⟨t,rfl,ac.fy 0 rfl e.rd (by simp only[bc];omega) λo8 an ad=>?_⟩;refine ad.h' (kG _ W.sx an) λt aC ae _ e _=>⟨t,rfl,ae.fy 0 rfl e.rd (by simp only[bc];omega) λK L z=>?_⟩;have e1:o++bt d.x.op++cH d.x.kids++bt d.x.n++bt d.x.m++dT d.x.u.toNat++df (bl d.x.tx)++bt d.x.st.k++bt d.x.st.n++bt d.x.st.x=o++dq d.x:=by unfold dq;simp only[cp]
   have z:LH F0 w L [.by K (o++bt d.x.op++cH d.x.kids++bt d.x.n++bt d.x.m++dT d.x.u.toNat++df (bl d.x.tx)++bt d.x.st.k++bt d.x.st.n++bt d.x.st.x),.g G] [.gr s l]:=z;rw[e1]at z;rw[bb _ (by omega)];refine aj (i+1) K (o++dq d.x) L (by omega) (by rw[bc];omega) ?_ (z.take 1);rw[<-q,I,cV,cp]
 refine vi.aB s w _ ?_;rw[hn];refine O.UC (kG _ H w) λt y j N e nt=>⟨t,rfl,?_⟩;have A:=N.own (.by t (bt ((l.length:Nat):Int))) e.2 nt;exact loop l.length 0 t _ y (by omega) (by omega) (by rw[List.drop_zero];unfold eJ;rw[ag]) A
def Vz{w:J}{s:Sl}{U:List UInt8}(d:Bytes w s U)(m:Nat)(E:m<=100000000000000):
  ai Y CN #[s.v,.i (m:Int)] w (hH w (U.take m)):=by
 have B:=Bytes.len d;have D:=d.2.1;refine HS.ok s m w _ ?_;have j:(if(m:Int)<((s.n:Nat):Int)then(m:Int)else((s.n:Nat):Int))=((min m U.length:Nat):Int):=by rw[B];split<;>omega
 rw[j];refine⟨by omega,by omega,?_⟩;have e:=Bytes.sub d 0 (min m U.length) (by omega) (by omega);have k:(List.take (min m U.length) U).drop 0=U.take m:=by
  rw[List.drop_zero];by_cases A:m<=U.length
  .rw [Nat.min_eq_left A]
  .rw [Nat.min_eq_right (by omega),fQ (bm _),fQ (by omega)]
 rw[k]at e;obtain⟨h,C,q,x,y,z⟩:=x9 (s:=⟨none,0,0⟩) (xs:=[]) (Fr.refl _ w) (Ow.nil w cD) (by simp[ax]) e (by simp;omega);exact⟨h,C,q,h,rfl,x,y,z⟩
def iD.en{n:Nat}{s:ct}(h:iD n s)(d:n<=1000):ug s:=
 ⟨h.k.1,h.k.2.1,h.k.2.2,⟨h.p.2,by have:=h.p.1;omega⟩,⟨h.l.2,by have:=h.l.1;omega⟩,⟨h.h.2,by have:=h.h.1;omega⟩,by have:=h.t;omega⟩
def TH{w:J}{x:Lx}(e:iA 40 x)(h:uu w x):ai Y Lg #[x.m.v] w (hH w (de x.p)):=by
 have y:=e.g;have Q:∀d∈x.gl,(dq d.x).length<=1000000:=λd j=>(y.2 d.x (bZ.2 ⟨d,j,rfl⟩)).small (by omega);have M:∀d∈x.gl,ff d.x:=λd j=>(y.2 d.x (bZ.2 ⟨d,j,rfl⟩)).wd;have aa:(eJ (xs x.gl)).length<=40000010:=by
  have V:=yJ (z:=1000000) (g:=xs x.gl) λd j=>(y.2 d j).small (by omega);have W:=cR ((xs x.gl).length:Int) (by simp[xs];omega);have Z:(xs x.gl).length=x.gl.length:=by simp[xs]
  unfold eJ;rw[bc];omega
 have ab:=BK (b:=eJ (xs x.gl)) (by omega);have hh:=e.h.1;have hc:=e.c.1;have G:=e.s.1;have l1:=oT e.h.2 (by omega);have l2:=oT e.c.2 (by omega);have l3:=aax (ss:=bA x.ds) (λs G=>by obtain⟨d,j,rfl⟩:=bZ.1 G;exact(e.s.2 d j).en (by omega)) (by simp;omega);have ac:(bA x.ds).length=x.ds.length:=by simp
 have H:∀q∈[En.gr x.m.g x.gl,.rd x.m.h (x.hy.map a'),.rd x.m.c (x.cl.map a'),.sp x.m.s x.ds],q.P w:=λq F=>by
  simp only[au,aO,aR]at F;rcases F with rfl|rfl|rfl|rfl
  .exact bR.2 h.1
  .exact h.2.1
  .exact h.2.2.1
  .exact dX.2 h.2.2.2
 refine Io.aB _ _ _ _ w _ ((bI (w:=w) _ H).aG λU w1 A=>A.h' (Ul (bR.1 (A.getD 0)) M Q (by omega)) λt T _ I O S=>⟨t,rfl,?_⟩);have B:=I.rd (.rd t ((eJ (xs x.gl)).map bD)) O.rd (gU S);refine B.h' (xN (show Bytes T t (eJ (xs x.gl))from B.getD 4) (by omega)) λo w3 _ K N no=>⟨o,rfl,?_⟩;have L:=K.own (.by o (df (eJ (xs x.gl)))) N.2 no;refine L.ah λw4 C=>?_;refine C.lI 1 rfl (by omega) (by omega) (sm (l:=x.hy) (C.getD 1) e.h.2 (by omega)) λs1 w5 D=>?_;refine D.lI 1 rfl (by rw[bc];omega) (by omega) (sm (l:=x.cl) (D.getD 2) e.c.2 (by omega)) λs2 w6 E=>?_;refine E.lI 1 rfl (by simp only[bc];omega) (by omega) (G3 (dX.1 (E.getD 3)) (λd j=>(e.s.2 d j).en (by omega)) (by omega)) λs3 w7 k=>?_;have q:df (eJ (xs x.gl))++cH x.hy++cH x.cl++eg (bA x.ds)=de x.p:=by unfold de Lx.p;simp only[cp]
 rw[q]at k;exact⟨s3,rfl,kc (k.get 1),k.fr,λb e=>(k.new _ (aD (i:=1) rfl) b e).resolve_right id⟩
def sW:List ByteArray:=[ba [],ba [97],ba [98],ba [99],ba [100,100]]
structure jl(pl i aJ:Nat)(s:ct):Prop where
 kind:0<=s.kind/\s.kind<=5
 node:a7 s.node/\(s.kind=4->0<=s.node/\s.node<(aJ:Int))
 du:a7 s.du
 params:(∀x∈s.params,a7 x)/\s.params.length<=pl
 bY:gA s.bY=0/\(∀x∈s.bY,a7 x)/\s.bY.length<=3
 hints:(∀x∈s.hints,0<=x/\x<(i:Int))/\s.hints.length<=2
 nm:s.nm∈sW
def ZX{M:Nat->Prop}{w0 w:J}{L D D1:List En}{l:List Sp}{d:Sp}(H:LH M w0 w L D1)(A:∀e∈D,e∈D1)(j:cu l∈D1)(z:∀e∈[d.pE,d.hE,d.lE],e∈D1\/(e.fp=[]/\∀w,e.P w)):LH M w0 w L (D++[cu (l++[d])]):=by
 have k:∀e∈iv (l++[d]),e∈iv l\/e∈[d.pE,d.hE,d.lE]:=λe h=>by grind
 refine H.lH _ λe h=>?_;rcases aY.1 h with h|h
 .grind
 .rw [bT.1 h];refine⟨λq e h=>?_,λb x=>?_⟩
  .rcases k e h with h|h
   .exact q (cu l) j e h
   grind
  .obtain ⟨e,h,y⟩:=cO.1 x;rcases k e h with h|h
   .exact ⟨cu l,j,cO.2 ⟨e,h,y⟩⟩
   grind
def sV:(En.rd ⟨none,0,0⟩ (([]:List Int).map a')).fp=[]/\∀d,(En.rd ⟨none,0,0⟩ (([]:List Int).map a')).P d:=⟨by simp[En.rd],λd=>Rd.nil d⟩
def uh(w0:J)(D:List En)(cc:Nat)(r:ch)(w':J):Prop:=∃(aJ st:Sl) (ls:List Lm) (ds:List Sp),r=ae (.agg #[aJ.v,st.v])/\LH F0 w0 w' [.row g9 4 aJ (ls.flatMap Lm.cs),.row e4 7 st (ds.flatMap Sp.c)] (D++[cu ds])/\
 (∀b∈(cu ds).fp,w0.heap.size<=b)/\ls.length<=2/\ds.length<=cc/\∀i d,ds[i]? =some d->jl 1 i ls.length d.x
abbrev px(d:Nat)(x:ct)(p l h:Sl):En:=.c d [.i x.kind,.i x.node,.i x.du,p.v,.string x.nm,l.v,h.v] e4
section
variable {w0:J} {cc b4 b5 b9:Nat} {l0 aJ st:Sl} {xs:List Int} {ls:List Lm} {ds:List Sp} {D:List En}
def Rl(n m:Nat):ck (n:Int) (m:Int)=((n%m:Nat):Int):=rfl
abbrev uj(w0:J)(b4 b5:Nat)(aJ:Sl)(ls:List Lm)(st:Sl)(ds:List Sp)(D:List En)(w:J):Prop:=LH F0 w0 w (hP b4 b5 aJ ls st ds) (D++[cu ds])
def IQ{j:Nat}{x:ct}{p l h:Sl}{D1:List En}{w:J}{R:aH}(V:j<=1000000)(K:ds.length<=1000000)(H:LH F0 w0 w (hP b4 b5 aJ ls st ds++[px b9 x p l h]) D1)(G:∀e∈D,e∈D1)(E:cu ds∈D1)(B:∀e∈[Sp.pE ⟨x,p,l,h⟩,Sp.hE ⟨x,p,l,h⟩,Sp.lE ⟨x,p,l,h⟩],(e∈D1\/(e.fp=[]/\∀w,e.P w)))(C:∀k q,uj w0 b4 b5 aJ ls k (ds++[⟨x,p,l,h⟩]) D q->gb.L2 l0 cc (ab b4) (ab b5) ((j+1:Nat):Int) q R):
  gb.S6 l0 cc (ab b4) (ab b5) (j:Int) (ab b9) w R:=by
 have F:=(H.get 3:aK _ _ _ _ _).len;rw[Sp.eW]at F;refine⟨st,H.ld 1 1,_,_,_,_,_,_,_,H.ld 4 0,H.ld 4 1,H.ld 4 2,H.ld 4 3,H.ld 4 4,H.ld 4 5,H.ld 4 6,H.uE 3 xP rfl (λk L y _ _=>y.st 1 1 rfl λI z=>?_) (by omega)⟩;rw[bb _ (by omega)];refine C k I (ZX (l:=ds) (d:=(⟨x,p,l,h⟩:Sp)) ?_ G E B);have e:(ds++[(⟨x,p,l,h⟩:Sp)]).flatMap Sp.c=ds.flatMap Sp.c++Sp.c ⟨x,p,l,h⟩:=by simp
 have A:=z.take 4;unfold hP;rw[e];exact A
structure Su(w0:J)(b4 b5 b9:Nat)(aJ:Sl)(ls:List Lm)(st:Sl)(ds:List Sp)(D:List En)(i7:Nat)(x:ct)(p l:Sl)(w:J):Prop where
 g:jl 1 i7 ls.length x/\x.hints=[]
 H:∃D1,LH F0 w0 w (hP b4 b5 aJ ls st ds++[px b9 x p l ⟨none,0,0⟩]) D1/\(∀e∈D,e∈D1)/\cu ds∈D1/\(∀e∈[Sp.pE ⟨x,p,l,⟨none,0,0⟩⟩,Sp.lE ⟨x,p,l,⟨none,0,0⟩⟩],(e∈D1\/(e.fp=[]/\∀w,e.P w))/\∀b∈e.fp,w0.heap.size<=b)
def vv{e n:Nat}{x:ct}{p l:Sl}{w:J}{R:aH}(V:e<=1000000)(hn:n<=1073741824)(Z:ds.length<=1000000)(Y:Su w0 b4 b5 b9 aJ ls st ds D e x p l w)(hk:∀(d:Sp) E B,jl 1 e ls.length d.x->(∀q∈[d.pE,d.hE,d.lE],∀b∈q.fp,w0.heap.size<=b)->uj w0 b4 b5 aJ ls E (ds++[d]) D B->gb.L2 l0 cc (ab b4) (ab b5) ((e+1:Nat):Int) B R):
  gb.S4 l0 cc (ab b4) (ab b5) (e:Int) (n:Int) (ab b9) w R:=by
 obtain⟨⟨y,aa⟩,G,H,hs,hl,ac⟩:=Y;have hp:=ac _ (kf ..);have al:=ac _ (List.mem_cons_of_mem _ (kf ..));have W:gb.S6 l0 cc (ab b4) (ab b5) (e:Int) (ab b9) w R:=by
  refine IQ (x:=x) (p:=p) (l:=l) (h:=⟨none,0,0⟩) V Z H hs hl (λq j=>?_) λE B L=>hk ⟨x,p,l,⟨none,0,0⟩⟩ E B y (λq j=>?_) L
  .simp only[au,aO,aR]at j;rcases j with rfl|rfl|rfl
   .grind
   .refine .inr ?_;show(En.rd ⟨none,0,0⟩ (x.hints.map a')).fp=[]/\∀w,(En.rd ⟨none,0,0⟩ (x.hints.map a')).P w;rw[aa];exact sV
   grind
  .simp only[au,aO,aR]at j;rcases j with rfl|rfl|rfl
   .grind
   .intro b k;have k:b∈(En.rd ⟨none,0,0⟩ (x.hints.map a')).fp:=k;rw[aa,sV.1]at k;cases k
   grind
 refine aF (λak=>?_) (λ_=>W);have U:gb.S5 l0 cc (ab b4) (ab b5) (e:Int) (n:Int) (ab b9) w R:=by
  have af:aj .i64 (bL (n:Int) 8)=((n / 8:Nat):Int):=by rw[show bL (n:Int) 8=((n / 8:Nat):Int)from rfl,aQ _ (by omega)]
  have ae:aj .i64 (bL (n:Int) 64)=((n / 64:Nat):Int):=by rw[show bL (n:Int) 64=((n / 64:Nat):Int)from rfl,aQ _ (by omega)]
  have ad:aj .i64 (bL (n:Int) 256)=((n / 256:Nat):Int):=by rw[show bL (n:Int) 256=((n / 256:Nat):Int)from rfl,aQ _ (by omega)]
  have fin:∀(z:List Int) (h:Sl) (F:J),(∀K∈z,0<=K/\K<(e:Int))->z.length<=2->LH F0 w0 F (hP b4 b5 aJ ls st ds++[px b9 x p l h,.row bN 1 h (z.map a')]) G->gb.S6 l0 cc (ab b4) (ab b5) (e:Int) (ab b9) F R:=by
   intro z h F I N A;have ag:∀b∈ax h,w0.heap.size<=b:=λb k=>(A.new _ (aD (i:=5) rfl) b k).resolve_right id;have M:LH F0 w0 F (hP b4 b5 aJ ls st ds++[px b9 x p l h]) (G++[.rd h (z.map a')]):=A.freeze 5 (.rd h (z.map a')) rfl (aK.jd (A.get 5)) λb k=>pr k
   let x':ct:=⟨x.kind,x.node,x.du,x.params,x.nm,x.bY,z⟩
   refine IQ (x:=x') (p:=p) (l:=l) (h:=h) V Z M (λq j=>bK _ (hs q j)) (bK _ hl) (λq j=>?_) λE B L=>hk ⟨x',p,l,h⟩ E B ⟨y.kind,y.node,y.du,y.params,y.bY,⟨I,N⟩,y.nm⟩ (λq j=>?_) L
   .grind
   .simp only[au,aO,aR]at j;rcases j with rfl|rfl|rfl
    .grind
    .exact gU ag
    grind
  have am:n / 8%e<e:=Nat.mod_lt _ (by omega);have an:n / 256%e<e:=Nat.mod_lt _ (by omega);have H0:LH F0 w0 w (hP b4 b5 aJ ls st ds++[px b9 x p l ⟨none,0,0⟩,.row bN 1 ⟨none,0,0⟩ []]) G:=H.hR bN 1;refine H0.dr λw1 O=>⟨⟨none,0,0⟩,O.ld 4 6,by omega,?_⟩;rw[af,ae,ad,Rl,Rl];refine O.oa λF _ A ah=>⟨A.ld 4 6,A.ap 5 ic (s:=⟨none,0,0⟩) (src:=⟨some (ab w1.heap.size),1,1⟩) (news:=[.i ((n / 8%e:Nat):Int)]) rfl (nq (n:=1) (sz:=1) (cs:=[.i ((n / 8%e:Nat):Int)]) ah rfl).2.2 rfl (by simp[Value.oneCell']) (by grind) λC w3 M ao _=>M.st 4 6 rfl λw4 H4=>?_⟩;have Q:LH F0 w0 w4 (hP b4 b5 aJ ls st ds++[px b9 x p l C,.row bN 1 C ([((n / 8%e:Nat):Int)].map a')]) G:=H4;refine aF (λ_=>Q.dr λw5 S=>⟨C,S.ld 4 6,by omega,?_⟩) (λ_=>fin [((n / 8%e:Nat):Int)] C w4 (λK I=>by grind) (by simp) Q);refine S.oa λw6 _ T ai=>⟨T.ld 4 6,T.ap 5 ic (s:=C) (src:=⟨some (ab w5.heap.size),1,1⟩) (news:=[.i ((n / 256%e:Nat):Int)]) rfl (nq (n:=1) (sz:=1) (cs:=[.i ((n / 256%e:Nat):Int)]) ai rfl).2.2 rfl (by simp[Value.oneCell']) (by grind) λN w7 H7 _ _=>H7.st 4 6 rfl λw8 H8=>?_⟩;exact fin [((n / 8%e:Nat):Int),((n / 256%e:Nat):Int)] N w8 (by intro K I;simp only[au,aO,aR]at I;omega) (by simp) H8
 exact⟨x.kind,H.ld 4 0,aL (λ_=>U) (λ_=>⟨x.kind,H.ld 4 0,aL (λ_=>U) (λ_=>W)⟩)⟩
def Xn{c:Int}(h:c=2\/c=-2\/c=3\/c=-3):gA [c]=0/\(∀d∈[c],a7 d)/\[c].length<=3:=by
 refine⟨?_,λd e=>?_,by simp⟩
 .rcases h with rfl|rfl|rfl|rfl<;>decide
 grind
def x':a7 0:=by decide
def VR{G n k m:Nat}{c:Int}{l:Sl}{D1:List En}{w:J}{R:aH}(V:G<=1000000)(B:n<=1073741824)(y:ds.length<=1000000)(ak:ls.length<=1000)(ah:k<=5)(hm:m<=2)(hc:c=2\/c=-2\/c=3\/c=-3)(H:LH F0 w0 w (hP b4 b5 aJ ls st ds++[px b9 ⟨(k:Int),(m:Int),0,[],ba [],[c],[]⟩ ⟨none,0,0⟩ l ⟨none,0,0⟩]) D1)(C:∀e∈D,e∈D1)(E:cu ds∈D1)(hl:En.rd l ([c].map a')∈D1)(ai:∀b∈(En.rd l ([c].map a')).fp,w0.heap.size<=b)(z:∀(d:Sp) fW w',jl 1 G ls.length d.x->(∀e∈[d.pE,d.hE,d.lE],∀b∈e.fp,w0.heap.size<=b)->uj w0 b4 b5 aJ ls fW (ds++[d]) D w'->gb.L2 l0 cc (ab b4) (ab b5) ((G+1:Nat):Int) w' R):
  gb.S3 l0 cc (ab b4) (ab b5) (G:Int) (n:Int) (ab b9) w R:=by
 have A:=Xn hc;have am:aJ.n=ls.length:=by have:=(H.get 2:aK _ _ _ _ _).len;rw[Lm.len]at this;omega
 have two:∀{w':J} {x:ct},x.params=[]->x.bY=[c]->∀e∈[Sp.pE ⟨x,⟨none,0,0⟩,l,⟨none,0,0⟩⟩,Sp.lE ⟨x,⟨none,0,0⟩,l,⟨none,0,0⟩⟩],(e∈D1\/(e.fp=[]/\∀w,e.P w))/\∀b∈e.fp,w0.heap.size<=b:=by
  intro w' x S T e h;simp only[au,aO,aR]at h;rcases h with rfl|rfl
  .have e:Sp.pE ⟨x,⟨none,0,0⟩,l,⟨none,0,0⟩⟩=.rd ⟨none,0,0⟩ (([]:List Int).map a'):=by grind
   rw[e];exact⟨.inr sV,λb j=>by rw[sV.1]at j;cases j⟩
  grind
 have ag:∀N<4,∃F,F∈sW/\(#[.string (bG #[97]),.string (bG #[98]),.string (bG #[99]),.string (bG #[100,100])]:Array aa)[N]? =some (.string F):=by
  intro N hj
  match N,hj with
  |0,_=>exact⟨_,.tail _ (.head _),rfl⟩
  |1,_=>exact⟨_,.tail _ (.tail _ (.head _)),rfl⟩
  |2,_=>exact⟨_,.tail _ (.tail _ (.tail _ (.head _))),rfl⟩
  |3,_=>exact⟨_,.tail _ (.tail _ (.tail _ (.tail _ (.head _)))),rfl⟩
 have I:ba []∈sW:=.head _;refine⟨(k:Int),H.ld 4 0,aL (λS=>?_) (λS=>aL (λT=>?_) (λT=>aL (λU=>?_) (λU=>?_)))⟩
 .
  obtain⟨F,ae,hg⟩:=ag (n%4) (Nat.mod_lt _ (by omega));refine H.oa λw1 _ W af=>⟨by grind,by grind,qS ⟨F,?_,W.st 4 4 rfl λw2 Z=>?_⟩⟩
  .rw [show ck (n:Int) 4=((n%4:Nat):Int)from rfl,bH,Nat.mul_one];exact cellAt (p:=ab w.heap.size) af rfl (by grind)
  .exact vv (x:=⟨(k:Int),(m:Int),0,[],F,[c],[]⟩) (p:=⟨none,0,0⟩) (l:=l) V B y ⟨⟨⟨⟨by grind,by grind⟩,⟨by grind,λq=>by grind⟩,x',⟨by simp,by simp⟩,A,⟨by simp,by simp⟩,ae⟩,rfl⟩,D1,Z,C,E,two (w':=w) rfl rfl⟩ z
 .
  have hr:ck (n:Int) 2=((n%2:Nat):Int):=rfl;have hq:ck (aj .i64 (bL (n:Int) 2)) 3=((n / 2%3:Nat):Int):=by rw[show bL (n:Int) 2=((n / 2:Nat):Int)from rfl,aQ _ (by omega)];rfl
  rw[hr,hq];refine H.st 4 2 rfl λK H3=>H3.cN (n:=1) (sz:=1) (cs:=[((n / 2%3:Nat):Int)].map a') rfl (by decide) λw4 L=>?_;have ac:∀b∈ax ⟨some (ab K.heap.size),1,1⟩,w0.heap.size<=b:=λb j=>(L.new _ (aD (i:=5) rfl) b j).resolve_right id;have H5:LH F0 w0 w4 (hP b4 b5 aJ ls st ds++[px b9 ⟨(k:Int),(m:Int),((n%2:Nat):Int),[],ba [],[c],[]⟩ ⟨none,0,0⟩ l ⟨none,0,0⟩]) (D1++[.rd ⟨some (ab K.heap.size),1,1⟩ ([((n / 2%3:Nat):Int)].map a')]):=L.freeze 5 (.rd ⟨some (ab K.heap.size),1,1⟩ ([((n / 2%3:Nat):Int)].map a')) rfl (aK.jd (L.get 5)) λb j=>pr j;refine H5.st 4 3 rfl λw5 M=>?_;refine vv (x:=⟨(k:Int),(m:Int),((n%2:Nat):Int),[((n / 2%3:Nat):Int)],ba [],[c],[]⟩) (p:=⟨some (ab K.heap.size),1,1⟩) (l:=l) V B y ⟨⟨⟨⟨by grind,by grind⟩,⟨by grind,λq=>by grind⟩,by grind,⟨λan hy=>by grind,by simp⟩,A,⟨by simp,by simp⟩,I⟩,rfl⟩,_,M,λe h=>bK _ (C e h),bK _ E,λe h=>?_⟩ z;simp only[au,aO,aR]at h;rcases h with rfl|rfl
  .exact ⟨.inl (dV _ (bT.2 rfl)),gU ac⟩
  grind
 .
  refine⟨aJ,H.ld 1 0,aL (λQ=>H.st 4 0 rfl λw6 M=>?_) (λQ=>⟨aJ,H.ld 1 0,Q,H.st 4 1 rfl λw7 O=>?_⟩)⟩
  .exact vv (x:=⟨0,(m:Int),0,[],ba [],[c],[]⟩) (p:=⟨none,0,0⟩) (l:=l) V B y ⟨⟨⟨⟨by grind,by grind⟩,⟨by grind,λq=>by cases q⟩,x',⟨by simp,by simp⟩,A,⟨by simp,by simp⟩,I⟩,rfl⟩,D1,M,C,E,two (w':=w) rfl rfl⟩ z
  .have e:ck (n:Int) ((aJ.n:Nat):Int)=((n%ls.length:Nat):Int):=by grind
   have ad:0<ls.length:=by omega
   have al:n%ls.length<ls.length:=Nat.mod_lt _ ad;rw[e]at O;exact vv (x:=⟨(k:Int),((n%ls.length:Nat):Int),0,[],ba [],[c],[]⟩) (p:=⟨none,0,0⟩) (l:=l) V B y ⟨⟨⟨⟨by grind,by grind⟩,⟨by grind,λ_=>by grind⟩,x',⟨by simp,by simp⟩,A,⟨by simp,by simp⟩,I⟩,rfl⟩,D1,O,C,E,two (w':=w) rfl rfl⟩ z
 .exact vv (x:=⟨(k:Int),(m:Int),0,[],ba [],[c],[]⟩) (p:=⟨none,0,0⟩) (l:=l) V B y ⟨⟨⟨⟨by grind,by grind⟩,⟨by grind,λq=>absurd q U⟩,x',⟨by simp,by simp⟩,A,⟨by simp,by simp⟩,I⟩,rfl⟩,D1,H,C,E,two (w':=w) rfl rfl⟩ z
def VQ(hx:∀z∈xs,a7 z)(au:xs.length<=9223372036854775807)(aq:cc<=1000)(M:En.rd l0 (xs.map a')∈D)(af:ls.length<=2):∀(k d:Nat) (st:Sl) (ds:List Sp) (w:J),d+k=cc->ds.length=d->(∀i h,ds[i]? =some h->jl 1 i ls.length h.x)->(∀b∈(cu ds).fp,w0.heap.size<=b)->uj w0 b4 b5 aJ ls st ds D w->
  gb.L2 l0 cc (ab b4) (ab b5) (d:Int) w λr E=>uh w0 D cc r E:=by
 intro k;have done:∀(d:Nat) (st:Sl) (ds:List Sp) (w:J),ds.length<=cc->(∀i h,ds[i]? =some h->jl 1 i ls.length h.x)->(∀b∈(cu ds).fp,w0.heap.size<=b)->uj w0 b4 b5 aJ ls st ds D w->gb.S7 (ab b4) (ab b5) w λr E=>uh w0 D cc r E:=by intro d st ds w ad y j e;refine⟨aJ,st,e.ld 1 0,e.ld 1 1,e.jK 0 rfl λP G=>G.st 0 1 rfl λF A=>⟨aJ,st,A.ld 0 0,A.ld 0 1,aJ,st,ls,ds,rfl,?_,j,af,ad,y⟩⟩;exact A.iQ [false,false,true,true]
 induction k with
 |zero=>
  intro d st ds w hk N y j e;have hn:=bo.len (e.rd _ (bK _ M):bo w l0 xs);exact gb.k9 _ _ _ _ _ _ _ (aF (λ_=>aZ (aW (by omega)) (done d st ds w (by omega) y j e)) (λ_=>done d st ds w (by omega) y j e))
 |succ k ih=>
  intro d st ds w hk N y j e;have O:bo w l0 xs:=e.rd _ (bK _ M);have hn:=bo.len O;refine gb.k9 _ _ _ _ _ _ _ (aF (λap=>a1 (aS (by omega)) ?_) (λ_=>done d st ds w (by omega) y j e));have I:xs[d]? =some xs[d]:=a4 (by omega);generalize xs[d]=z at I;have hy:=hx z (aD I);refine⟨by omega,by omega,bo.cell O I (by omega) λav _ hq=>⟨z,hq,e.call (i5 z 1073741824 w (by omega) hy) ?_⟩⟩;rintro _ P rfl G;obtain⟨r1,r2⟩:=iY z 1073741824 (by omega);obtain⟨t,ht⟩:=Int.eq_ofNat_of_zero_le r1;rw[ht]at r2 ⊢;have V:ck (aj .i64 (bL (t:Int) 18)) 4=((t / 18%4:Nat):Int):=by rw[show bL (t:Int) 18=((t / 18:Nat):Int)from rfl,aQ _ (by omega)];rfl
  have W:ck (t:Int) 6=((t%6:Nat):Int):=rfl;have Z:ck (aj .i64 (bL (t:Int) 6)) 3=((t / 6%3:Nat):Int):=by rw[show bL (t:Int) 6=((t / 6:Nat):Int)from rfl,aQ _ (by omega)];rfl
  have ac:aj .i64 (bL (t:Int) 72)=((t / 72:Nat):Int):=by rw[show bL (t:Int) 72=((t / 72:Nat):Int)from rfl,aQ _ (by omega)]
  have ai:∀K<4,∃c:Int,(c=2\/c=-2\/c=3\/c=-3)/\(#[.i 2,.i (-2),.i 3,.i (-3)]:Array aa)[K]? =some (.i c):=by
   intro K hj
   match K,hj with
   |0,_=>grind
   |1,_=>grind
   |2,_=>exact⟨3,.inr (.inr (.inl rfl)),rfl⟩
   |3,_=>exact⟨-3,.inr (.inr (.inr rfl)),rfl⟩
  obtain⟨c,hc,am⟩:=ai (t / 18%4) (Nat.mod_lt _ (by omega));refine⟨(t:Int),rfl,?_⟩;dsimp only;rw[V,W,Z,ac];refine G.oa λF _ A ah=>⟨by omega,by omega,qS ⟨c,?_,?_⟩⟩
  .rw [bH,Nat.mul_one];exact cellAt (p:=ab P.heap.size) ah rfl (by grind)
  refine A.cN (n:=1) (sz:=1) (cs:=[c].map a') rfl (by decide) λw3 H=>?_;have ae:∀b∈ax ⟨some (ab F.heap.size),1,1⟩,w0.heap.size<=b:=λb B=>(H.new _ (aD (i:=4) rfl) b B).resolve_right id;have S:LH F0 w0 w3 (hP b4 b5 aJ ls st ds) (D++[cu ds]++[.rd ⟨some (ab F.heap.size),1,1⟩ ([c].map a')]):=H.freeze 4 (.rd ⟨some (ab F.heap.size),1,1⟩ ([c].map a')) rfl (aK.jd (H.get 4)) λb B=>pr B;refine S.nw λw4 _ T=>T.st7 4 rfl λw5 U=>?_;refine VR (k:=t%6) (m:=t / 6%3) (n:=t / 72) (c:=c) (l:=⟨some (ab F.heap.size),1,1⟩) (by omega) (by omega) (by omega) (by omega) (by omega) (by omega) hc U (λL q=>bK _ (bK _ q)) (bK _ (dV _ (bT.2 rfl))) (dV _ (bT.2 rfl)) (gU ae) λh ak E ao an Q=>?_;refine ih (d+1) ak (ds++[h]) E (by omega) (by simp[N]) (λi L q=>?_) (λb B=>?_) Q
  .rw [List.getElem?_append]at q;split at q
   .grind
   .rename_i ar;have:i - ds.length=0:=by grind
    rw[this]at q;have q:h=L:=by grind
    have hi:i=d:=by omega
    grind
  .obtain ⟨al,C,ag⟩:=cO.1 B;simp only[iv,List.flatMap_append,aY,cV,List.flatMap_nil,eP]at C;rcases C with C|C
   .exact j b (cO.2 ⟨al,C,ag⟩)
   grind
end
def GJ{w:J}{D:List En}{x:Sl}{xs:List Int}(q:∀aa∈xs,a7 aa)(S:xs.length<=9223372036854775807){cc:Nat}(Q:cc<=1000)(j:En.rd x (xs.map a')∈D)(H:LH F0 w w [] D):
  ai Y Lj #[x.v,.i (cc:Int)] w λr w'=>uh w D cc r w':=by
 refine gb.ok _ _ w _ (H.nw λy _ G=>G.nw λz _ I=>I.jK 1 rfl λE K=>K.st 1 1 rfl λW M=>?_);have nil:∀{L:List En} {w':J},LH F0 w w' L D->LH F0 w w' L (D++[cu []]):=λH=>H.lH _ λA e=>by
  rcases aY.1 e with e|e
  .grind
  .rw [bT.1 e];exact⟨λ_=>λA e=>by grind,λb B=>by
    obtain⟨A,e,_⟩:=cO.1 B
    grind⟩
 have N:=(M.hR g9 4).hR e4 7;have loop:∀(k i:Nat) (aJ:Sl) (ls:List Lm) (w':J),i+k=2->ls.length=i->LH F0 w w' (hP w.heap.size y.heap.size aJ ls ⟨none,0,0⟩ []) D->gb.L0 x cc (ab w.heap.size) (ab y.heap.size) (i:Int) w' λr w'=>uh w D cc r w':=by
  intro k;have next:∀(aJ:Sl) (ls:List Lm) (w':J),ls.length<=2->LH F0 w w' (hP w.heap.size y.heap.size aJ ls ⟨none,0,0⟩ []) D->gb.L2 x cc (ab w.heap.size) (ab y.heap.size) 0 w' λr w'=>uh w D cc r w':=λaJ ls w' C d=>
   VQ q S Q j C cc 0 ⟨none,0,0⟩ [] w' (by omega) rfl (λi ac ad=>by grind) (λb B=>by
    obtain⟨A,e,_⟩:=cO.1 B
    grind) (nil d)
  induction k with
  |zero=>
   intro i aJ ls w' P C d;refine gb.bC _ _ _ _ _ _ _ (d.call (qf (d.rd _ j) q 0 3 (by omega)) ?_);rintro _ z ⟨t,rfl,U,V⟩ h;exact⟨_,rfl,aZ (aW (by omega)) (next aJ ls z (by omega) h)⟩
  |succ k T=>
   intro i aJ ls w' P C d;refine gb.bC _ _ _ _ _ _ _ (d.call (qf (d.rd _ j) q 0 3 (by omega)) ?_);rintro _ z ⟨t,rfl,U,V⟩ h;refine⟨_,rfl,aF (λ_=>?_) (λ_=>next aJ ls z (by omega) h)⟩;refine VS h (by omega) (λae F=>⟨xs,F.rd _ j,q⟩) λs Z E O=>?_;show gb.L0 _ _ _ _ (aj .i64 _) _ _;rw[bb _ (by omega)];exact T (i+1) s (ls++[Z]) E (by omega) (by grind) O
 exact loop 2 0 ⟨none,0,0⟩ [] W rfl rfl N
def _root_.Go.W.LH.HN{M:Nat->Prop}{w0 w w':J}{G q D X:List En}(H:LH M w0 w G D)(e:LH F0 w w' q (D++X))(y:∀h∈X,∀b∈h.fp,w.heap.size<=b):LH M w0 w' (G++q) (D++X):=by
 have x:LH M w0 w (G++[]) D:=by rw[eP];exact H
 refine x.BI (L:=[]) ⟨e.fr.mono λ_ _ k=>k.elim,e.own,e.rd,λh d b j=>(e.new h d b j).imp id λk=>k.elim,e.nd,e.dj⟩ λh d b j=>?_;rcases aY.1 d with d|d
 .exact .inr ⟨h,d,j⟩
 .exact .inl (y h d b j)
section
variable {w0:J} {b6 b7:Nat} {m1 aJ st:Sl} {ms:List Int} {D:List En}
abbrev hB(b6 b7:Nat)(aJ:Sl)(ls:List Lm)(st:Sl)(ds:List Sp):List En:=[.g b6,.g b7,.row g9 4 aJ (ls.flatMap Lm.cs),.row e4 7 st (ds.flatMap Sp.c)]
def Lm.set{l:List Lm}{i:Nat}(V:i<l.length)(x:Lm):((((l.flatMap Lm.cs).set (i *4+0) x.g.v).set (i *4+1) x.h.v).set (i *4+2) x.c.v).set (i *4+3) x.s.v=(l.set i x).flatMap Lm.cs:=by
 induction l generalizing i with
 |nil=>simp at V
 |cons a l k=>
  cases i with
  |zero=>simp[Lm.cs]
  |succ i=>
   have j:a.cs.length=4:=rfl;have V:i<l.length:=by simpa using V
   have e:∀d,(i+1) *4+d=a.cs.length+(i *4+d):=λd=>by rw[j];omega
   simp only[cV,List.set_cons_succ,e];rw[List.set_append_right _ _ (by omega),List.set_append_right _ _ (by simp),List.set_append_right _ _ (by simp),List.set_append_right _ _ (by simp)];simp only[Nat.add_sub_cancel_left];rw[k V]
def ZZ{X:List En}{ls:List Lm}{ds:List Sp}{w:J}{i:Nat}{K:J->Prop}{U:List Nat}(x:Lm)(H:LH F0 w0 w (hB b6 b7 aJ ls st ds++X) D)(V:i<ls.length)(bp:∀b∈U,En.g b∈[En.g b6,En.g b7]++X)(O:∀F,LH F0 w0 F (hB b6 b7 aJ (ls.set i x) st ds++X) D->K F):
  fb aJ (i:Int) λp=>aP w (p.add (aV (i:Int) *4)) x.g.v λk=>kept U w k/\aP k ((p.add (aV (i:Int) *4)).add 1) x.h.v λq=>kept U k q/\aP q ((p.add (aV (i:Int) *4)).add 2) x.c.v λy=>kept U q y/\aP y ((p.add (aV (i:Int) *4)).add 3) x.s.v λz=>kept U y z/\K z:=by
 have E:aK w g9 4 aJ (ls.flatMap Lm.cs):=H.get 2;have Q:=E.len;have A:=Lm.len ls;rw[A]at Q;have j:∀(B C:En),∀b∈U,En.g b∈(En.g b6::En.g b7::B::C::X):=λB C b d=>by
  have:=bp b d;simp only[jc,List.nil_append,au]at this ⊢;rcases this with d|d|d
  .exact .inl d
  .exact .inr (.inl d)
  .exact .inr (.inr (.inr (.inr d)))
 obtain⟨p,e⟩:∃p,aJ.a=some p:=by
  rcases E.cases with⟨S,N⟩|⟨g,cur,P,_⟩
  .rw [N]at A;simp at A;omega
  .exact ⟨_,P⟩
 rw[bH];refine⟨by omega,by omega,NI e (H.q5 2 (i *4) rfl e (by omega) (bp:=j _ _) λk G=>G.ou 2 (i *4) 1 rfl e (by simp only[y6];omega) (bp:=j _ _) λq I=>I.ou 2 (i *4) 2 rfl e (by simp only[y6];omega) (bp:=j _ _) λy L=>L.ou 2 (i *4) 3 rfl e (by simp only[y6];omega) (bp:=j _ _) λz M=>O z ?_)⟩;unfold hB;rw[<-Lm.set V x];exact M
def Sp.set{l:List Sp}{i:Nat}{d:Sp}(V:l[i]? =some d)(j:Nat)(q:j<7)(v:aa)(d':Sp)(k:d'.c=d.c.set j v):(l.flatMap Sp.c).set (i *7+j) v=(l.set i d').flatMap Sp.c:=by
 induction l generalizing i with
 |nil=>simp at V
 |cons a l w=>
  cases i with
  |zero=>
   simp only[List.getElem?_cons_zero,eI]at V;subst V;simp only[cV,List.set_cons_zero,Nat.zero_mul,Nat.zero_add];rw[List.set_append_left _ _ (by rw[Sp.jq];exact q),k]
  |succ i=>
   have h:a.c.length=7:=rfl;simp only[List.getElem?_cons_succ]at V;have e:(i+1) *7+j=a.c.length+(i *7+j):=by rw[h];omega
   simp only[cV,List.set_cons_succ,e];rw[List.set_append_right _ _ (by omega),Nat.add_sub_cancel_left,w V]
def zt{X:List En}{ls:List Lm}{ds:List Sp}{w:J}{i:Nat}{d d':Sp}{K:J->Prop}(H:LH F0 w0 w (hB b6 b7 aJ ls st ds++X) D)(V:ds[i]? =some d)(j:Nat)(E:j<7)(v:aa)(C:d'.c=d.c.set j v)(A:∀x,LH F0 w0 x (hB b6 b7 aJ ls st (ds.set i d')++X) D->K x):
  fb st (i:Int) λp=>aP w ((p.add (aV (i:Int) *7)).add j) v λe=>kept [b6,b7] w e/\K e:=by
 have k:aK w e4 7 st (ds.flatMap Sp.c):=H.get 3;have F:=k.len;have h:=Sp.eW ds;have I:=(cz.1 V).1;rw[h]at F;obtain⟨p,q⟩:∃p,st.a=some p:=by
  rcases k.cases with⟨G,z⟩|⟨g,cur,B,_⟩
  .rw [z]at h;simp at h;omega
  .exact ⟨_,B⟩
 rw[bH];refine⟨by omega,by omega,NI q (H.ou 3 (i *7) j rfl q (by omega) λe y=>A e ?_)⟩;unfold hB;rw[<-Sp.set V j E v d' C];exact y
structure xk(w0:J)(W3:Nat)(ds:List Sp):Prop where
 g:∀i d,ds[i]? =some d->jl 2 i W3 d.x
 f:∀b∈(cu ds).fp,w0.heap.size<=b
def UP:gA []=0:=by decide
def CI{ds:List Sp}{i:Nat}{d':Sp}{e:En}(q:e∈iv (ds.set i d')):e∈iv ds\/e∈[d'.pE,d'.hE,d'.lE]:=by
 obtain⟨j,k,h⟩:=bS.1 q;rcases List.mem_or_eq_of_mem_set k with d|d
 .exact .inl (bS.2 ⟨j,d,h⟩)
 .rw [d]at h;exact .inr h
def zr{M:Nat->Prop}{w:J}{L D:List En}{ds:List Sp}{i:Nat}{d':Sp}(H:LH M w0 w L D)(q:cu ds∈D)(y:List En)(z:∀d∈y,d∈D)(A:∀d∈[d'.pE,d'.hE,d'.lE],(d∈D\/d∈iv ds)\/(d.fp=[]/\∀w,d.P w)):LH M w0 w L (y++[cu (ds.set i d')]):=by
 refine H.lH _ λd e=>?_;rcases aY.1 e with e|e
 .exact ⟨λj=>j d (z d e),λb x=>⟨d,z d e,x⟩⟩
 .rw [bT.1 e];refine⟨λj d e=>?_,λb x=>?_⟩
  .rcases CI e with e|e
   .exact j (cu ds) q d e
   .rcases A d e with(h|h)|h
    .exact j d h
    .exact j (cu ds) q d h
    .exact h.2 w
  .obtain ⟨d,e,k⟩:=cO.1 x;rcases CI e with e|e
   .exact ⟨cu ds,q,cO.2 ⟨d,e,k⟩⟩
   .rcases A d e with(h|h)|h
    .exact ⟨d,h,k⟩
    .exact ⟨cu ds,q,cO.2 ⟨d,h,k⟩⟩
    .rw [h.1]at k;cases k
def xk.set{w:Nat}{ds:List Sp}{i:Nat}{d':Sp}(h:xk w0 w ds)(V:i<ds.length)(B:jl 2 i w d'.x)(A:∀d∈[d'.pE,d'.hE,d'.lE],d∈iv ds\/∀b∈d.fp,w0.heap.size<=b):xk w0 w (ds.set i d'):=by
 refine⟨λC y j=>?_,λb z=>?_⟩
 .rw [List.getElem?_set]at j;split at j
  .rename_i d;subst d;cases j;exact B
  .exact h.g C y j
 .obtain ⟨d,e,q⟩:=cO.1 z;rcases CI e with e|e
  .exact h.f b (cO.2 ⟨d,e,q⟩)
  .rcases A d e with k|k
   .exact h.f b (cO.2 ⟨d,k,q⟩)
   .exact k b q
abbrev lh(w0:J)(b6 b7:Nat)(aJ:Sl)(ls:List Lm)(st:Sl)(ds:List Sp)(D:List En)(w:J):Prop:=LH F0 w0 w (hB b6 b7 aJ ls st ds) (D++[cu ds])/\xk w0 ls.length ds
section
variable {ls:List Lm} {R:aH}
def Qg{i n:Nat}{ds:List Sp}{d:Sp}{w:J}(V:ds[i]? =some d)(Q:i<1000000)(H:lh w0 b6 b7 aJ ls st ds D w)(N:∀e q,e.length=ds.length->(∀k,k≠i->e[k]? =ds[k]?)->lh w0 b6 b7 aJ ls st e D q->gC.pX m1 b6 ⟨none,0,0⟩ ⟨none,0,0⟩ b7 aJ st ((i+1:Nat):Int) q R):
  gC.mP m1 b6 ⟨none,0,0⟩ ⟨none,0,0⟩ b7 aJ st (i:Int) (n:Int) w R:=by
 obtain⟨E,C⟩:=H;have y:=C.g i d V;have M:=(cz.1 V).1;have nx:∀e q,e.length=ds.length->(∀k,k≠i->e[k]? =ds[k]?)->lh w0 b6 b7 aJ ls st e D q->gC.p0 m1 b6 ⟨none,0,0⟩ ⟨none,0,0⟩ b7 aJ st (i:Int) q R:=λe q I L K=>by have:=N e q I L K;rw[<-bb i (by omega)]at this;exact this
 refine aL (λ_=>?_) (λ_=>nx ds w rfl (λ_ _=>rfl) ⟨E,C⟩)
 let z:Sp:=⟨⟨d.x.kind,d.x.node,d.x.du,d.x.params,d.x.nm,[],d.x.hints⟩,d.p,⟨none,0,0⟩,d.h⟩
 have O:=aD V;have B:∀A∈[d.pE,d.hE,d.lE],A∈iv ds:=λA j=>bS.2 ⟨d,O,j⟩;refine zt (X:=[]) E V 5 (by omega) (.slice none 0 0) (d':=z) rfl λP G=>nx (ds.set i z) P (by simp) (λk S=>D3 (by omega)) ⟨?_,C.set M ⟨y.kind,y.node,y.du,y.params,⟨UP,by simp[z],by simp[z]⟩,y.hints,y.nm⟩ λA j=>?_⟩
 .refine zr G (by simp) D (λA j=>bK _ j) λA j=>?_;simp only[au,aO,aR]at j;rcases j with rfl|rfl|rfl
  .exact .inl (.inr (B d.pE (by simp)))
  .exact .inl (.inr (B d.hE (by simp)))
  .exact .inr sV
 .simp only[au,aO,aR]at j;rcases j with rfl|rfl|rfl
  .exact .inl (B d.pE (by simp))
  .exact .inl (B d.hE (by simp))
  .exact .inr λb F=>by rw[show(z.lE).fp=[]from sV.1]at F;cases F
def Qf{i n:Nat}{ds:List Sp}{d:Sp}{w:J}(V:ds[i]? =some d)(F:i<1000000)(Q:n<1048576)(K:lh w0 b6 b7 aJ ls st ds D w)(G:∀y A,y.length=ds.length->(∀z,z≠i->y[z]? =ds[z]?)->lh w0 b6 b7 aJ ls st y D A->gC.pX m1 b6 ⟨none,0,0⟩ ⟨none,0,0⟩ b7 aJ st ((i+1:Nat):Int) A R):
  gC.iV m1 b6 ⟨none,0,0⟩ ⟨none,0,0⟩ b7 aJ st (i:Int) (n:Int) w R:=by
 obtain⟨C,B⟩:=K;have q:=B.g i d V;have E:=(cz.1 V).1;refine aL (λ_=>?_) (λ_=>Qg V F ⟨C,B⟩ G);have e:aj .i64 (0 - (n:Int))=-(n:Int):=by rw[aQ _ (by omega)];omega
 rw[e]
 let k:Sp:=⟨⟨d.x.kind,d.x.node,-(n:Int),d.x.params,d.x.nm,d.x.bY,d.x.hints⟩,d.p,d.l,d.h⟩
 have P:=aD V;have H:∀e∈[k.pE,k.hE,k.lE],e∈iv ds:=λe j=>bS.2 ⟨d,P,j⟩;refine zt (X:=[]) C V 2 (by omega) (.i (-(n:Int))) (d':=k) rfl λS I=>Qg (ds:=ds.set i k) (d:=k) (by simp[E]) F ⟨?_,B.set E ⟨q.kind,q.node,⟨by show _<=-(n:Int);omega,by show -(n:Int)<=_;omega⟩,q.params,q.bY,q.hints,q.nm⟩ λe j=>.inl (H e j)⟩ λy A L N M=>G y A (by rw[L];simp) (λz O=>by rw[N z O,D3 (by omega)]) M;exact zr I (by simp) D (λe j=>bK _ j) λe j=>.inl (.inr (H e j))
end
end
set_option maxHeartbeats 2000000
section
variable {w0:J} {b6 b7:Nat} {m1 aJ st:Sl} {D:List En} {ls:List Lm} {R:aH}
def Zl{w:J}{s:Sl}{l:List Int}(h:bo w s l):bx 1 w s (l.map a'):=⟨by rw[h.1,Nat.mul_one],h.2.1,h.2.2⟩
def VB(n:Int)(j:Nat)(e:j<5)(h:0<=n/\n<=1048576):∃d:Int,a7 d/\([.i n,.i (-n),.i 9223372036854775807,.i (-9223372036854775808),.i 0]:List aa)[j]? =some (.i d):=by
 match j,e with
 |0,_=>exact⟨n,by omega,rfl⟩
 |1,_=>exact⟨-n,by omega,rfl⟩
 |2,_=>exact⟨_,by decide,rfl⟩
 |3,_=>exact⟨_,by decide,rfl⟩
 |4,_=>exact⟨_,by decide,rfl⟩
def Qe{i n:Nat}{ds:List Sp}{d:Sp}{w:J}(V:ds[i]? =some d)(af:i<1000000)(hn:n<1048576)(Y:lh w0 b6 b7 aJ ls st ds D w)(ay:d.x.params.length<=1)(hk:∀W w',W.length=ds.length->(∀ac,ac≠i->W[ac]? =ds[ac]?)->lh w0 b6 b7 aJ ls st W D w'->gC.pX m1 b6 ⟨none,0,0⟩ ⟨none,0,0⟩ b7 aJ st ((i+1:Nat):Int) w' R):
  gC.lg m1 b6 ⟨none,0,0⟩ ⟨none,0,0⟩ b7 aJ st (i:Int) (n:Int) w R:=by
 obtain⟨T,ad⟩:=Y;have I:=ad.g i d V;have am:=(cz.1 V).1;have hm:=aD V;have aA:∀Z∈[d.pE,d.hE,d.lE],Z∈iv ds:=λZ O=>bS.2 ⟨d,hm,O⟩;refine aL (λ_=>?_) (λ_=>Qf V af hn ⟨T,ad⟩ hk);have ap:aj .i64 (bL (n:Int) 5)=((n / 5:Nat):Int):=by rw[show bL (n:Int) 5=((n / 5:Nat):Int)from rfl,aQ _ (by omega)]
 have aq:ck ((n / 5:Nat):Int) 5=((n / 5%5:Nat):Int):=rfl;have ao:aj .i64 (0 - (n:Int))=-(n:Int):=by rw[aQ _ (by omega)];omega
 have an:n / 5%5<5:=Nat.mod_lt _ (by omega);obtain⟨e,hy,al⟩:=VB (n:Int) (n / 5%5) an (by omega);have row:∀{w':J} {X:List En},LH F0 w0 w' (hB b6 b7 aJ ls st ds++X) (D++[cu ds])->f' w' st ds:=λj=>⟨(j.get 3:aK _ _ _ _ _).bd,tH.1 (j.rd (cu ds) (by simp))⟩;have aB:=(row (X:=[]) T).n;refine⟨by omega,by omega,(row (X:=[]) T).get' V λp hp _=>?_⟩;have E:∀{w':J} {X:List En},LH F0 w0 w' (hB b6 b7 aJ ls st ds++X) (D++[cu ds])->w'.cell? ((p.add (aV (i:Int) *7)).add 3)=some d.p.v:=λj=>by rw[bH];exact((row j).again V hp).c3
 have S:∀{w':J} {X:List En},LH F0 w0 w' (hB b6 b7 aJ ls st ds++X) (D++[cu ds])->bx 1 w' d.p (d.x.params.map a'):=λj=>Zl ((row j).2 d hm).1;have az:d.p.n=d.x.params.length:=bo.len ((row (X:=[]) T).2 d hm).1;have fin:∀(t:Sl) (w':J),LH F0 w0 w' (hB b6 b7 aJ ls st ds++[.row bN 1 t ((d.x.params++[e]).map a')]) (D++[cu ds])->
   fb st (i:Int) λar=>aP w' ((ar.add (aV (i:Int) *7)).add 3) t.v λw7=>kept [b6,b7] w' w7/\gC.iV m1 b6 ⟨none,0,0⟩ ⟨none,0,0⟩ b7 aJ st (i:Int) (n:Int) w7 R:=by
  intro t w' j;have ak:∀b∈ax t,w0.heap.size<=b:=λb hb=>(j.new _ (aD (i:=4) rfl) b hb).resolve_right id
  let aa:Sp:=⟨⟨d.x.kind,d.x.node,d.x.du,d.x.params++[e],d.x.nm,d.x.bY,d.x.hints⟩,t,d.l,d.h⟩
  refine zt (X:=[.row bN 1 t ((d.x.params++[e]).map a')]) j V 3 (by omega) t.v (d':=aa) rfl λw7 H7=>?_;have H:LH F0 w0 w7 (hB b6 b7 aJ ls st (ds.set i aa)) (D++[cu ds]++[.rd t ((d.x.params++[e]).map a')]):=H7.freeze 4 (.rd t ((d.x.params++[e]).map a')) rfl (aK.jd (H7.get 4)) λb hb=>pr hb;refine Qf (ds:=ds.set i aa) (d:=aa) (by grind) af hn ⟨?_,ad.set am ⟨I.kind,I.node,I.du,⟨λai hz=>?_,by grind⟩,I.bY,I.hints,I.nm⟩ λZ O=>?_⟩ λW w' h1 h3 h2=>hk W w' (by grind) (λac hj=>by grind) h2
  .refine zr H (by simp) D (λZ O=>by grind) λZ O=>?_
   grind
  .have hz:ai∈d.x.params++[e]:=hz;rcases aY.1 hz with ae|ae
   .exact I.params.1 ai ae
   grind
  .simp only[au,aO,aR]at O;rcases O with rfl|rfl|rfl
   .exact .inr (gU ak)
   .grind
   grind
 refine T.ah λw1 H1=>⟨d.p,E (X:=[]) H1,?_⟩;rw[ao,ap,aq,bH (n / 5%5)];have i0:(0:Int)<=((n / 5%5:Nat):Int):=by omega
 have i5:((n / 5%5:Nat):Int)<((5:Nat):Int):=by omega
 have Q:(0+d.p.n) *8<=140737488355328:=by omega
 have N:∀{b:Nat} {w':J} {L:List En} (k:Nat),LH F0 w0 w' L (D++[cu ds])->L[k]? =some (.c b [.i (n:Int),.i (-(n:Int)),.i 9223372036854775807,.i (-9223372036854775808),.i 0] bN)->w'.cell? ((ab b).add (n / 5%5 *1))=some (.i e):=λk j hL=>by rw[Nat.mul_one];exact j.ld k _ hL al
 have P:∀{w':J} {L:List En} {t:Sl} (k:Nat),LH F0 w0 w' L (D++[cu ds])->L[k]? =some (.row bN 1 t (d.x.params.map a'))->(t.n+1) *8<=140737488355328:=λk j hL=>by
  have:=(j.get k hL:aK _ _ _ _ _).len
  grind
 have M:d.x.params.map a'++[Value.i e]=(d.x.params++[e]).map a':=by rw[hv];rfl
 refine⟨H1.cN (n:=0) (sz:=1) (cs:=[]) rfl (by decide) λw2 C=>⟨E (X:=[_]) C,?_,?_⟩,H1.nw λw2 _ C=>⟨E (X:=[_]) C,i0,i5,qS ⟨e,N 4 C rfl,?_,?_⟩⟩⟩
 .
  refine C.dc 4 ic (s:=⟨some (ab w1.heap.size),0,0⟩) (src:=d.p) (news:=d.x.params.map a') rfl (S (X:=[_]) C) (qA _) Q λt w3 B=>?_;refine B.nw λw4 _ K=>⟨i0,i5,qS ⟨e,N 5 K rfl,K.nw λw5 _ H5=>?_⟩⟩;refine H5.dc 4 ic (s:=t) (src:=⟨some (ab w4.heap.size),1,1⟩) (news:=[.i e]) rfl (nq (H5.get 6) rfl) (by simp[Value.oneCell']) (P 4 H5 rfl) λz A y=>fin z A ?_;rw[<-M];exact y.take 5
 .refine C.nw λw8 _ H=>⟨E (X:=[_,_]) H,i0,i5,qS ⟨e,N 5 H rfl,?_,?_⟩⟩
  .
   refine H.dc 4 ic (s:=⟨some (ab w1.heap.size),0,0⟩) (src:=d.p) (news:=d.x.params.map a') rfl (S (X:=[_,_]) H) (qA _) Q λt w9 U=>?_;refine⟨N 5 U rfl,U.nw λav _ F=>?_⟩;refine F.dc 4 ic (s:=t) (src:=⟨some (ab w9.heap.size),1,1⟩) (news:=[.i e]) rfl (nq (F.get 6) rfl) (by simp[Value.oneCell']) (P 4 F rfl) λz A y=>fin z A ?_;rw[<-M];exact y.take 5
  .
   refine H.nw λaw _ G=>⟨E (X:=[_,_,_]) G,?_⟩;refine G.dc 4 ic (s:=⟨some (ab w1.heap.size),0,0⟩) (src:=d.p) (news:=d.x.params.map a') rfl (S (X:=[_,_,_]) G) (qA _) Q λt ag q=>?_;refine q.dc 4 ic (s:=t) (src:=⟨some (ab w8.heap.size),1,1⟩) (news:=[.i e]) rfl (nq (q.get 6) rfl) (by simp[Value.oneCell']) (P 4 q rfl) λz A y=>fin z A ?_;rw[<-M];exact y.take 5
 .refine C.cN (n:=0) (sz:=1) (cs:=[]) rfl (by decide) λw3 B=>⟨N 4 B rfl,E (X:=[_,_]) B,?_,?_⟩
  .
   refine B.dc 5 ic (s:=⟨some (ab w2.heap.size),0,0⟩) (src:=d.p) (news:=d.x.params.map a') rfl (S (X:=[_,_]) B) (qA _) Q λt w9 U=>?_;refine⟨N 4 U rfl,U.nw λav _ F=>?_⟩;refine F.dc 5 ic (s:=t) (src:=⟨some (ab w9.heap.size),1,1⟩) (news:=[.i e]) rfl (nq (F.get 6) rfl) (by simp[Value.oneCell']) (P 5 F rfl) λz A y=>fin z A ?_;rw[<-M];exact y.iQ [true,true,true,true,false,true,false]
  .
   refine B.nw λaw _ G=>⟨E (X:=[_,_,_]) G,?_⟩;refine G.dc 5 ic (s:=⟨some (ab w2.heap.size),0,0⟩) (src:=d.p) (news:=d.x.params.map a') rfl (S (X:=[_,_,_]) G) (qA _) Q λt ag q=>?_;refine q.dc 5 ic (s:=t) (src:=⟨some (ab w3.heap.size),1,1⟩) (news:=[.i e]) rfl (nq (q.get 6) rfl) (by simp[Value.oneCell']) (P 5 q rfl) λz A y=>fin z A ?_;rw[<-M];exact y.iQ [true,true,true,true,false,true,false]
 .
  refine C.nw λw3 _ B=>⟨E (X:=[_,_]) B,B.cN (n:=0) (sz:=1) (cs:=[]) rfl (by decide) λw4 K=>⟨E (X:=[_,_,_]) K,?_⟩⟩;refine K.dc 6 ic (s:=⟨some (ab w3.heap.size),0,0⟩) (src:=d.p) (news:=d.x.params.map a') rfl (S (X:=[_,_,_]) K) (qA _) Q λt ag q=>?_;refine q.dc 6 ic (s:=t) (src:=⟨some (ab w2.heap.size),1,1⟩) (news:=[.i e]) rfl (nq (q.get 5) rfl) (by simp[Value.oneCell']) (P 6 q rfl) λz A y=>fin z A ?_;rw[<-M];exact y.iQ [true,true,true,true,false,false,true]
def Xo(a b:Nat)(k:a<4)(q:b<1000):gA [2,-3 - (a:Int),9+(b:Int)]=0/\(∀d∈[2,-3 - (a:Int),9+(b:Int)],a7 d):=by
 have x:kN 2=true:=by decide
 have y:kN (-3 - (a:Int))=true:=vF.2 (by omega);have z:kN (9+(b:Int))=true:=vF.2 (by omega);have e:[2,-3 - (a:Int),9+(b:Int)].all kN=true:=by grind
 have j:m8 [2,-3 - (a:Int),9+(b:Int)]=true:=by unfold m8;rw[aS (by omega),Bool.true_and];unfold m8;rw[aS (by omega)];rfl
 have h:lF [2,-3 - (a:Int),9+(b:Int)]=0:=by
  unfold lF
  grind
 refine⟨by unfold gA;grind,λd w=>?_⟩
 grind
def ZY{ms:List Int}{M:Nat}(al:M<=1000)(hx:∀ak∈ms,a7 ak)(hm:En.rd m1 (ms.map a')∈D)(hk:∀ds E,ds.length=M->lh w0 b6 b7 aJ ls st ds D E->∀V,LH F0 w0 V (hB b6 b7 aJ ls st ds) (D++[cu ds])->R (ae (.agg #[aJ.v,st.v])) V):∀(k i:Nat) (ds:List Sp) (w:J),i+k=ds.length->ds.length=M->(∀j e,i<=j->ds[j]? =some e->e.x.params.length<=1)->lh w0 b6 b7 aJ ls st ds D w->
  gC.pX m1 b6 ⟨none,0,0⟩ ⟨none,0,0⟩ b7 aJ st (i:Int) w R:=by
 intro k;induction k with
 |zero=>
  intro i ds w af Q L q;have hn:=f'.n (w:=w) (s:=st) (l:=ds) ⟨(q.1.get 3:aK _ _ _ _ _).bd,tH.1 (q.1.rd (cu ds) (by simp))⟩;exact gC.FZ _ _ _ _ _ _ _ _ _ _ (aZ (aW (by omega)) (q.1.ah λz K=>hk ds w Q q z K))
 |succ k ih=>
  intro i ds w af Q L q;have hn:=f'.n (w:=w) (s:=st) (l:=ds) ⟨(q.1.get 3:aK _ _ _ _ _).bd,tH.1 (q.1.rd (cu ds) (by simp))⟩;obtain⟨e,A⟩:∃e,ds[i]? =some e:=⟨ds[i],a4 (by omega)⟩;have ag:=(cz.1 A).1;have ai:En.rd m1 (ms.map a')∈D++[cu ds]:=bK _ hm;have nx:∀H:List Sp,H.length=ds.length->(∀j,j≠i->H[j]? =ds[j]?)->∀G E,G.length=H.length->(∀j,j≠i->G[j]? =H[j]?)->lh w0 b6 b7 aJ ls st G D E->gC.pX m1 b6 ⟨none,0,0⟩ ⟨none,0,0⟩ b7 aJ st ((i+1:Nat):Int) E R:=λH e1 e2 G E h1 h2 Z=>
   ih (i+1) G E (by omega) (by omega) (λj e hj hd=>L j e (by omega) (by rw[<-e2 j (by omega),<-h2 j (by omega)];exact hd)) Z
  refine gC.FZ _ _ _ _ _ _ _ _ _ _ (a1 (aS (by omega)) (q.1.aw (qf (q.1.rd _ ai) hx _ 1048576 (by omega)) ?_));rintro _ z ⟨n',rfl,n1,n2⟩ K;obtain⟨n,rfl⟩:=Int.eq_ofNat_of_zero_le n1;have Y1:lh w0 b6 b7 aJ ls st ds D z:=⟨K,q.2⟩;have C:=q.2.g i e A;refine⟨_,rfl,aL (λ_=>?_) (λ_=>Qe A (by omega) (by omega) Y1 (L i e (bm _) A) (nx ds rfl λ_ _=>rfl))⟩;have e4:aj .i64 (-3 - ck (n:Int) 4)=-3 - ((n%4:Nat):Int):=by rw[show ck (n:Int) 4=((n%4:Nat):Int)from rfl,aQ _ (by omega)]
  have e9:aj .i64 (9+ck (n:Int) 1000)=9+((n%1000:Nat):Int):=by rw[show ck (n:Int) 1000=((n%1000:Nat):Int)from rfl,aQ _ (by omega)]
  rw[e4,e9];obtain⟨T,U⟩:=Xo (n%4) (n%1000) (Nat.mod_lt _ (by omega)) (Nat.mod_lt _ (by omega));obtain⟨y,S⟩:∃y,y=[2,-3 - ((n%4:Nat):Int),9+((n%1000:Nat):Int)]:=⟨_,rfl⟩;have ac:(#[.i 2,.i (-3 - ((n%4:Nat):Int)),.i (9+((n%1000:Nat):Int))]:Array aa)=(y.map a').toArray:=by rw[S];rfl
  rw[<-S]at T U;have am:y.length=3:=by grind
  rw[ac];refine K.cN (n:=3) (sz:=1) (cs:=y.map a') (by grind) (by decide) λw2 O=>?_;have ad:∀b∈ax ⟨some (ab z.heap.size),3,3⟩,w0.heap.size<=b:=λb N=>(O.new _ (aD (i:=4) rfl) b N).resolve_right id
  let F:Sp:=⟨⟨e.x.kind,e.x.node,e.x.du,e.x.params,e.x.nm,y,e.x.hints⟩,e.p,⟨some (ab z.heap.size),3,3⟩,e.h⟩
  have an:∀I∈[e.pE,e.hE,e.lE],I∈iv ds:=λI B=>bS.2 ⟨e,aD A,B⟩;refine zt (X:=[.row bN 1 ⟨some (ab z.heap.size),3,3⟩ (y.map a')]) O A 5 (by omega) (.slice (some (ab z.heap.size)) 3 3) (d':=F) rfl λw7 P=>?_;have W:LH F0 w0 w7 (hB b6 b7 aJ ls st (ds.set i F)) (D++[cu ds]++[.rd ⟨some (ab z.heap.size),3,3⟩ (y.map a')]):=P.freeze 4 (.rd ⟨some (ab z.heap.size),3,3⟩ (y.map a')) rfl (aK.jd (P.get 4)) λb N=>pr N;refine Qe (ds:=ds.set i F) (d:=F) (by grind) (by omega) (by omega) ⟨?_,q.2.set ag ⟨C.kind,C.node,C.du,C.params,⟨T,U,by grind⟩,C.hints,C.nm⟩ λI B=>?_⟩ (L i e (bm _) A) (nx (ds.set i F) (by simp) λj hj=>D3 (by omega))
  .refine zr W (by simp) D (λI B=>by grind) λI B=>?_
   grind
  .simp only[au,aO,aR]at B;rcases B with rfl|rfl|rfl
   .grind
   .grind
   .exact .inr (gU ad)
end
def fL(d:Sp):Sp:=⟨⟨if d.x.kind=4 then 5 else d.x.kind,d.x.node,d.x.du,d.x.params,d.x.nm,d.x.bY,d.x.hints⟩,d.p,d.l,d.h⟩
def IV{pl i aJ:Nat}{s:ct}(h:jl pl i aJ s)(q:pl<=40)(V:i<=1000):iD 40 s:=by
 have k:=h.kind;have d:=h.node.1;refine⟨⟨by omega,d,h.du⟩,⟨by have:=h.params.2;omega,h.params.1⟩,⟨by have:=h.bY.2.2;omega,h.bY.2.1⟩,⟨by have:=h.hints.2;omega,λj e=>by have:=h.hints.1 j e;omega⟩,?_⟩;have:∀t∈sW,t.size<=40:=by decide
 exact this _ h.nm
def iD.fL{n:Nat}{d:Sp}(h:iD n d.x):iD n (fL d).x:=by
 refine⟨⟨?_,h.k.2⟩,h.p,h.l,h.h,h.t⟩;show a7 (if d.x.kind=4 then 5 else d.x.kind);split
 .decide
 .exact h.k.1
def Wd{pl i aJ:Nat}{d:Sp}(h:jl pl i aJ d.x):(fL d).x.kind≠4/\gX (fL d).x (i:Int) 0=0:=by
 have e:(fL d).x.kind≠4/\¬((fL d).x.kind<0\/(fL d).x.kind>5):=by have:=h.kind;show(if d.x.kind=4 then 5 else d.x.kind)≠4/\¬((if d.x.kind=4 then 5 else d.x.kind)<0\/(if d.x.kind=4 then 5 else d.x.kind)>5);split<;>omega
 have j:¬(bl (fL d).x.nm≠[]/\fE (bl (fL d).x.nm)=false):=by
  have:∀t∈sW,¬(bl t≠[]/\fE (bl t)=false):=by decide
  exact this _ h.nm
 refine⟨e.1,?_⟩;rw[EV e.2 h.bY.1 j,aq,af (λh=>e.1 h.1)];rw[List.all_eq_true];intro q k;have:=h.hints.1 q k;rw[aS (by omega),aS (by omega)];rfl
def IU{pl aJ:Nat}:∀{l:List Sp} {i:Nat},(∀(j:Nat) (d:Sp),l[j]? =some d->jl pl (i+j) aJ d.x)->jB (bA (l.map fL)) (i:Int)=0
 |[],_,_=>rfl
 |d::l,i,e=>by
  obtain⟨q,h⟩:=Wd (e 0 d rfl);rw[Nat.add_zero]at h;have w:=IU (l:=l) (i:=i+1) λj k y=>by
   have:=e (j+1) k y
   rwa[show i+(j+1)=i+1+j by omega]at this
  show jB ((fL d).x::bA (l.map fL)) (i:Int)=0;rw[J1 q h];exact w
structure rH(y:Lx):Prop where
 e:gj y=0
 g:h0 (xs y.gl)
 n:y.ds.length<=4
def ZW{w:J}{xd:List Sp}(h:(cu xd).P w){d:Sp}(e:d∈xd):xl w d:=tH.1 h d e
def XB{M:Nat->Prop}{w0 w:J}{L D D1:List En}{ds xd:List Sp}{x:Lx}(H:LH M w0 w L D1)(I:∀e∈D++[cu ds],e∈D1)(N:cu xd∈D1)(K:x.ds=xd.map fL)(h:∀e∈[En.gr x.m.g x.gl,.rd x.m.h (x.hy.map a'),.rd x.m.c (x.cl.map a'),.bd 7 x.m.s (x.ds.flatMap Sp.c)],e∈D1):LH M w0 w L (D++[ej x]++[cu ds]):=by
 simp only[au,aO,aR,forall_eq_or_imp,forall_eq]at h;obtain⟨C,E,F,G⟩:=h;refine H.lH _ λe z=>?_;simp only[aY,bT]at z;have O:e∈D++[cu ds]->((∀e∈D1,e.P w)->e.P w)/\∀b∈e.fp,∃A∈D1,b∈A.fp:=λh=>⟨λq=>q e (I e h),λb j=>⟨e,I e h,j⟩⟩;rcases z with(z|rfl)|rfl
 .exact O (bK _ z)
 .refine ⟨λq=>n3.2 ⟨bR.1 (q _ C),q _ E,q _ F,q _ G,λA y=>?_⟩,λb j=>?_⟩
  .rw [K]at y;obtain⟨a,B,rfl⟩:=bZ.1 y;exact ZW (d:=a) (q _ N) B
  .obtain ⟨e,k,j⟩:=cO.1 j;simp only[au,aO,aR]at k;rcases k with rfl|rfl|rfl|rfl
   .exact ⟨_,C,j⟩
   .exact ⟨_,E,j⟩
   .exact ⟨_,F,j⟩
   .obtain ⟨e,k,j⟩:=cO.1 j;rcases au.1 k with rfl|k
    .exact ⟨_,G,j⟩
    .refine ⟨_,N,cO.2 ⟨e,?_,j⟩⟩;rw[K]at k;obtain⟨A,y,k⟩:=bS.1 k;obtain⟨a,B,rfl⟩:=bZ.1 y;exact bS.2 ⟨a,B,k⟩
 .exact O (dV _ (bT.2 rfl))
def Ec{e:TypeId}{s:Sl}{vs:List aa}{sz b:Nat}(h:b∈(En.bd sz s vs).fp):b∈(En.row e sz s vs).fp:=by
 have h:b∈(if vs=[]then[]else ax s):=h;split at h
 .cases h
 .exact h
section
variable {w0:J} {b6 b7:Nat} {m1 aJ st:Sl} {D:List En} {ls:List Lm} {R:aH}
def aaH{G x0 Q:Sl}{gl:List Nd}{z e:Nat}{ds xd:List Sp}{ms:List Int}{D1:List En}(ai:e<ls.length)(ap:ls.length<=2)(hx:∀y∈ms,a7 y)(hm:En.rd m1 (ms.map a')∈D)(ao:1<=G.n)(ac:gl.length<=40/\∀d∈xs gl,rG 3 d)(ad:h0 (xs gl)){pl lm:Nat}(ag:∀(j:Nat) (d:Sp),xd[j]? =some d->jl pl j lm d.x)(an:G.n=gl.length)(am:xd.length<=4)(al:∀d∈xd,iD 40 d.x)(aa:∀P∈D++[cu ds],P∈D1)(hG:En.gr G gl∈D1)(hX:cu xd∈D1)(hk:∀(y:Lx) w',iA 40 y->1<=y.gl.length->rH y->LH F0 w0 w' (hB b6 b7 aJ (ls.set e y.m) st ds) (D++[ej y]++[cu ds])->gC.a2 m1 b6 ⟨none,0,0⟩ ⟨none,0,0⟩ b7 aJ st ((e+1:Nat):Int) w' R):
  ∀(k A:Nat) (q:Sl) (w:J),A+k=xd.length->LH F0 w0 w (hB b6 b7 aJ ls st ds++[.row e4 7 Q (xd.flatMap Sp.c),.g z,.row e4 7 q (((xd.take A).map fL).flatMap Sp.c)]) D1->
  gC.cm m1 b6 ⟨none,0,0⟩ ⟨none,0,0⟩ b7 aJ st (e:Int) G z x0 Q q (A:Int) w R:=by
 have gs:∀(Z:List En) (F W e3:En),∀b∈[b6,b7,z],En.g b∈(En.g b6::En.g b7::F::W::e3::En.g z::Z):=λZ F W e3 b h=>by simp only[au,aO,aR]at h;rcases h with rfl|rfl|rfl<;>simp
 have gm:∀(Z:List En) (F:En),∀b∈[b6,b7,z],En.g b∈[En.g b6,En.g b7]++(F::En.g z::Z):=λZ F b h=>by simp only[au,aO,aR]at h;rcases h with rfl|rfl|rfl<;>simp
 have fin:∀(h c q:Sl) (t:Int) (w':J) (F:En),0<=t/\t<(G.n:Int)->LH F0 w0 w' (hB b6 b7 aJ ls st ds++[F,.g z,.row e4 7 q ((xd.map fL).flatMap Sp.c),.row bN 1 h ([t,0].map a'),.row bN 1 c ([-2 - (e:Int),7+(e:Int)].map a')]) D1->
   fb aJ (e:Int) λp=>aP w' (p.add (aV (e:Int) *4)) G.v λO=>kept [b6,b7,z] w' O/\aP O ((p.add (aV (e:Int) *4)).add 1) h.v λB=>kept [b6,b7,z] O B/\aP B ((p.add (aV (e:Int) *4)).add 2) c.v λH=>kept [b6,b7,z] B H/\aP H ((p.add (aV (e:Int) *4)).add 3) q.v λK=>kept [b6,b7,z] H K/\gC.cM m1 b6 ⟨none,0,0⟩ ⟨none,0,0⟩ b7 aJ st (e:Int) K R:=by
  intro h c q t w' F ht E;refine ZZ ⟨G,h,c,q⟩ (X:=[_,_,_,_,_]) E ai (gm _ _) λw5 H5=>?_;have H6:=H5.freeze 8 (.rd c ([-2 - (e:Int),7+(e:Int)].map a')) rfl (aK.jd (H5.get 8)) λb U=>pr U;have H7:=H6.freeze 7 (.rd h ([t,0].map a')) rfl (aK.jd (H6.get 7)) λb U=>pr U;have H8:=H7.freeze 6 (.bd 7 q ((xd.map fL).flatMap Sp.c)) rfl (aK.bd (H7.get 6)) λb U=>Ec U;have H9:=hk ⟨⟨G,h,c,q⟩,gl,[t,0],[-2 - (e:Int),7+(e:Int)],xd.map fL⟩ w5 ⟨ac,⟨by simp,?_⟩,⟨by simp,?_⟩,⟨by simp;omega,?_⟩⟩ (by show 1<=gl.length;omega) ⟨?_,ad,by simpa using am⟩ (XB (xd:=xd) (H8.take 4) (λP he=>?_) ?_ rfl ?_)
  .rw [<-bb e (by omega)]at H9;exact H9
  .intro y V;simp only[au,aO,aR]at V;rcases V with rfl|rfl
   .have:=ac.1;omega
   .decide
  .intro y V;simp only[au,aO,aR]at V;rcases V with rfl|rfl<;>omega
  .intro d hd;obtain⟨a,T,rfl⟩:=bZ.1 hd;exact(al a T).fL
  .have F:gA [-2 - (e:Int),7+(e:Int)]=0:=by
    have h2:e=0\/e=1:=by omega
    rcases h2 with rfl|rfl<;>decide
   have W:o3 gl.length [t,0]=true:=by unfold o3;simp only[List.all_cons,List.all_nil];rw[aS (by omega),aS (by omega),aS (by omega),aS (by omega)];rfl
   have e3:gw (xs gl)=0:=RE ad.vg (by simp[xs];omega);have ae:jB (bA (xd.map fL)) 0=0:=IU (pl:=pl) (aJ:=lm) (i:=0) λj d hj=>by rw[Nat.zero_add];exact ag j d hj
   show gj ⟨⟨G,h,c,q⟩,gl,[t,0],[-2 - (e:Int),7+(e:Int)],xd.map fL⟩=0;unfold gj;dsimp only;rw[af (by omega),aq W,af (by omega),ae]
  .have:=aa P he;simp[this]
  .simp [hX]
  .intro P he;simp only[au,aO,aR]at he;rcases he with rfl|rfl|rfl|rfl
   .simp [hG]
   .simp
   .simp
   .simp
 intro k;induction k with
 |zero=>
  intro A q w ak E;rw[fQ (by omega)]at E;have hn:=(E.get 4:aK _ _ _ _ _).len;rw[Sp.eW]at hn;have em:aj .i64 (-2 - (e:Int))=-2 - (e:Int):=aQ _ (by omega);have e7:aj .i64 (7+(e:Int))=7+(e:Int):=aQ _ (by omega);have F:aj .i64 (1+(e:Int))=((1+e:Nat):Int):=by rw[aQ _ (by omega)];omega
  refine gC.dB _ _ _ _ _ _ _ _ _ _ _ _ _ _ _ _ (aZ (aW (by omega)) ⟨E.ah (bp:=gs _ _ _ _) λO L=>?_,E.ah (bp:=gs _ _ _ _) λO L=>?_⟩)
  .refine L.aw (qf (L.rd _ (aa _ (bK _ hm))) hx _ _ (by omega)) ?_;rintro _ B ⟨t,rfl,t1,t2⟩ C;rw[em,e7];refine⟨_,rfl,C.cN (n:=2) (sz:=1) (cs:=[t,0].map a') rfl (by decide) λH M=>M.cN (n:=2) (sz:=1) (cs:=[-2 - (e:Int),7+(e:Int)].map a') rfl (by decide) λK S=>?_,C.cN (n:=2) (sz:=1) (cs:=[-2 - (e:Int),7+(e:Int)].map a') rfl (by decide) λH M=>M.cN (n:=2) (sz:=1) (cs:=[t,0].map a') rfl (by decide) λK S=>?_⟩
   .exact fin ⟨some (ab B.heap.size),2,2⟩ ⟨some (ab H.heap.size),2,2⟩ q t K _ ⟨t1,t2⟩ S
   .exact fin ⟨some (ab H.heap.size),2,2⟩ ⟨some (ab B.heap.size),2,2⟩ q t K _ ⟨t1,t2⟩ (S.perm (.cons _ (.cons _ (.cons _ (.cons _ (.cons _ (.cons _ (.cons _ (.swap _ _ [])))))))))
  .rw [em,e7];refine L.cN (n:=2) (sz:=1) (cs:=[-2 - (e:Int),7+(e:Int)].map a') rfl (by decide) λB C=>C.aw (qf (C.rd _ (aa _ (bK _ hm))) hx _ _ (by omega)) ?_;rintro _ H ⟨t,rfl,t1,t2⟩ M;refine⟨_,rfl,M.cN (n:=2) (sz:=1) (cs:=[t,0].map a') rfl (by decide) λK S=>?_⟩;exact fin ⟨some (ab H.heap.size),2,2⟩ ⟨some (ab O.heap.size),2,2⟩ q t K _ ⟨t1,t2⟩ (S.perm (.cons _ (.cons _ (.cons _ (.cons _ (.cons _ (.cons _ (.cons _ (.swap _ _ [])))))))))
 |succ k ih=>
  intro A q w ak E;have ho:aK w e4 7 Q (xd.flatMap Sp.c):=E.get 4;have hn:=ho.len;rw[Sp.eW]at hn;have hs:=(E.get 6:aK _ _ _ _ _).len;rw[Sp.eW,tg,gJ]at hs;obtain⟨d,hi⟩:∃d,xd[A]? =some d:=⟨xd[A],a4 (by omega)⟩;have ec:∀a:Int,a=(if d.x.kind=4 then 5 else d.x.kind)->((xd.take A).map fL).flatMap Sp.c++[.i a,.i d.x.node,.i d.x.du,d.p.v,.string d.x.nm,d.l.v,d.h.v]=((xd.take (A+1)).map fL).flatMap Sp.c:=λa T=>by rw[eA,hi,T];simp[fL,Sp.c]
  have nx:∀(a:Int),a=(if d.x.kind=4 then 5 else d.x.kind)->∀(I:Nat) (w':J),LH F0 w0 w' (hB b6 b7 aJ ls st ds++[.row e4 7 Q (xd.flatMap Sp.c),.g z,.row e4 7 q (((xd.take A).map fL).flatMap Sp.c),.g I]) D1->
    gC.bV m1 b6 ⟨none,0,0⟩ ⟨none,0,0⟩ b7 aJ st (e:Int) G z x0 Q q (A:Int) I a d.x.node d.x.du d.p d.x.nm d.l d.h w' R:=λa T I w' H'=>by
   refine H'.h7 6 xP rfl (λs' B C=>?_) (by omega) (bp:=λb h=>?_)
   .rw [bb _ (by omega)];have M:=C.take 7;have P:=ec a T;refine ih (A+1) s' B (by omega) ?_;rw[<-P];exact M
   .simp only[au,aO,aR]at h;rcases h with rfl|rfl|rfl|rfl<;>simp
  refine gC.dB _ _ _ _ _ _ _ _ _ _ _ _ _ _ _ _ (a1 (aS (by omega)) ⟨by omega,by omega,eV.elem (f:=Sp.c) (sz:=7) Sp.jq (by omega) ho.bd.2.2 hi λp hp N=>⟨_,_,_,_,_,_,_,N 0 _ rfl,N 1 _ rfl,N 2 _ rfl,N 3 _ rfl,N 4 _ rfl,N 5 _ rfl,N 6 _ rfl,E.aG (bp:=gs _ _ _ _) λI O L=>?_⟩⟩);have gl:∀b∈[b6,b7,z,I],En.g b∈hB b6 b7 aJ ls st ds++[.row e4 7 Q (xd.flatMap Sp.c),.g z,.row e4 7 q (((xd.take A).map fL).flatMap Sp.c)]++[.g I]:=λb h=>by simp only[au,aO,aR]at h;rcases h with rfl|rfl|rfl|rfl<;>simp
  exact aL (λh4=>L.ah (bp:=gl) λB C=>nx 5 (by rw[aq h4]) I B C) (λh4=>L.ah (bp:=gl) λB C=>nx d.x.kind (by rw[af h4]) I B C)
end
def F9(w0:J)(D:List En)(cc:Nat)(r:ch)(w':J):Prop:=∃(aJ st:Sl) (d:List Lx) (ds:List Sp),r=ae (.agg #[aJ.v,st.v])/\LH F0 w0 w' [.row g9 4 aJ ((d.map Lx.m).flatMap Lm.cs),.row e4 7 st (ds.flatMap Sp.c)] (D++d.map ej++[cu ds])/\F2 40 d/\(∀h∈d,1<=h.gl.length)/\(d.length<=2/\∀h∈d,rH h)/\(∀e∈ds,iD 40 e.x)/\ds.length<=cc/\∀i e,ds[i]? =some e->jl 2 i d.length e.x
def aaG{w0:J}{W Z:Nat}{m1 aJ st:Sl}{ms:List Int}{D:List En}{ds:List Sp}{cc:Nat}(e:∀j∈ms,a7 j)(aq:ms.length<=9223372036854775807)(M:En.rd m1 (ms.map a')∈D)(aj:ds.length<=1000)(aB:ds.length<=cc)(ai:∀(i:Nat) (d:Sp),ds[i]? =some d->d.x.params.length<=1):
  ∀(k i:Nat) (h:List Lx) (ls:List Lm) (w:J),i+k=ls.length->ls.length<=2->h.map Lx.m=ls.take i->F2 40 h->(∀j∈h,1<=j.gl.length)->(∀j∈h,rH j)->lh w0 W Z aJ ls st ds (D++h.map ej) w->gC.a2 m1 W ⟨none,0,0⟩ ⟨none,0,0⟩ Z aJ st (i:Int) w λr F=>F9 w0 D cc r F:=by
 intro k;induction k with
 |zero=>
  intro i h ls w am ap y H K L q;have P:aK w g9 4 aJ (ls.flatMap Lm.cs):=q.1.get 2;have O:=P.len;rw[Lm.len]at O;rw[fQ (by omega)]at y;have ax:h.length=ls.length:=by rw[<-y];simp
  refine gC.bw _ _ _ _ _ _ _ _ _ _ (aZ (aW (by omega)) ?_);refine ZY (m1:=m1) aj e (D:=D++h.map ej) (bK _ M) (λae F aA V aD ad=>?_) ds.length 0 ds w (by omega) rfl (λB d _ z=>ai B d z) q;refine⟨aJ,st,h,ae,rfl,?_,H,K,⟨by omega,L⟩,λd z=>?_,by omega,by rw[ax];exact V.2.g⟩
  .rw [y];exact ad.iQ [false,false,true,true]
  .obtain ⟨B,A⟩:=List.mem_iff_getElem?.1 z;have ao:=(cz.1 A).1;exact IV (V.2.g B d A) (by omega) (by omega)
 |succ k ay=>
  intro i h ls w am ap y H K L q;have P:aK w g9 4 aJ (ls.flatMap Lm.cs):=q.1.get 2;have O:=P.len;rw[Lm.len]at O;have N:En.rd m1 (ms.map a')∈D++h.map ej++[cu ds]:=bK _ (bK _ M);refine gC.bw _ _ _ _ _ _ _ _ _ _ (a1 (aS (by omega)) (q.1.aw (qf (q.1.rd _ N) e _ 3 (by omega)) ?_));rintro _ w1 ⟨t,rfl,t1,t2⟩ S;refine⟨_,rfl,S.iZ (TL (S.rd _ N) e (by omega) t 4 (by omega)) ?_⟩;rintro _ w2 ⟨G,E,rfl,ac,g1,g2,aa,ak⟩ _ ag;have T:=ag.2 (.gr G E) (bR.2 aa) ak;have al:=ih aa;refine⟨_,rfl,gN ((GJ (D:=D++h.map ej++[cu ds]++[.gr G E]) (w:=w2) e aq (cc:=4) (by omega) (bK _ N) (bI _ T.rd)).mono ?_)⟩;rintro _ w3 ⟨x0,x1,aE,Q,rfl,U,hf,_,aC,ab⟩;have H4:=T.HN U λaf I=>by rw[bT.1 I];exact hf
  refine⟨U.fr,_,_,rfl,H4.aG λaz w4 H5=>H5.ah λw5 H6=>?_⟩;have H7:=(H6.hR e4 7).iQ [true,true,true,true,false,true,true,true];refine aaH (D:=D++h.map ej) (ls:=ls) (xd:=Q) (gl:=E) (D1:=D++h.map ej++[cu ds]++[.gr G E]++[cu Q]) (by omega) (by omega) e (bK _ M) (by omega) ⟨by omega,ac.gd (by simp[xs];omega)⟩ ac ab al (by omega) (λd z=>?_) (λaf I=>bK _ (bK _ I)) (by simp) (by simp) (λj F au ar av H'=>?_) Q.length 0 ⟨none,0,0⟩ w5 (by omega) H7
  .obtain ⟨B,A⟩:=List.mem_iff_getElem?.1 z;have ao:=(cz.1 A).1;exact IV (ab B d A) (by omega) (by omega)
  .have an:i<ls.length:=by omega
   refine ay (i+1) (h++[j]) (ls.set i j.m) F (by simp;omega) (by simp;omega) ?_ ⟨?_,?_⟩ ?_ ?_ ⟨?_,by simpa using q.2⟩
   .rw [hv,y,eA];simp[an,List.take_set_of_le]
   .have:h.length=(ls.take i).length:=by rw[<-y];simp
    simp only[bc,dE,gS,gJ]at this ⊢;omega
   .intro C e;rcases aY.1 e with e|e
    .exact H.2 C e
    .rw [bT.1 e];exact au
   .intro C e;rcases aY.1 e with e|e
    .exact K C e
    .rw [bT.1 e];exact ar
   .intro C e;rcases aY.1 e with e|e
    .exact L C e
    .rw [bT.1 e];exact av
   .rw [hv,<-cp];exact H'
def TT{w:J}{D:List En}{A m1:Sl}{xs ms:List Int}(S:∀j∈xs,a7 j)(T:xs.length<=9223372036854775807)(U:∀j∈ms,a7 j)(Q:ms.length<=9223372036854775807){cc:Nat}(ab:cc<=40)(K:En.rd A (xs.map a')∈D)(P:En.rd m1 (ms.map a')∈D)(H:LH F0 w w [] D):
  ai Y Li #[A.v,m1.v,.i (cc:Int)] w λr W=>F9 w D cc r W:=by
 refine gC.aB _ _ _ w _ (H.aG λI Z d=>?_);refine gN ((GJ (D:=D) (w:=Z) S T (by omega) K (bI _ d.rd)).mono ?_);rintro _ w2 ⟨V,st,ls,x,rfl,k,y,O,M,z⟩;have C:=d.HN k λaa N=>by rw[bT.1 N];exact y
 refine⟨k.fr,_,_,rfl,C.aG λq w3 E=>E.ah λB F=>?_⟩;have G:LH F0 w B (hB I q V ls st x) (D++[cu x]):=F.perm (.cons _ (List.perm_append_comm (l₁:=[_,_]) (l₂:=[En.g q])));refine aaG U Q P (by omega) M (λi e h=>(z i e h).params.2) ls.length 0 [] ls B (by omega) O rfl ⟨by simp,by simp⟩ (by simp) (by simp) ⟨by simpa using G,λi e h=>?_,λb L=>a6 d.fr.size (y b L)⟩;have:=z i e h;exact⟨this.kind,this.node,this.du,⟨this.params.1,by have:=this.params.2;omega⟩,this.bY,this.hints,this.nm⟩
section
variable {w:J} {D:List En} {b:Nat} {l:List UInt8} {at_:Nat} {bad:Bool}
def U1{m:Int}(h:a7 m):(cq m).length<21:=by
 have d:=h.1;have e:=h.2;have:(b0 m.natAbs).length<=19:=xK (by omega) (by omega);unfold cq
 grind
end
def Ws(xs:List Int)(n:Int):n0 (xs++[n])=if xs=[]then cq n else n0 xs++32::cq n:=by
 induction xs with
 |nil=>rfl
 |cons e xs d=>
  rw[af (by simp)];cases xs with
  |nil=>rfl
  |cons h j=>
   rw[af (by simp)]at d;rw[jc,jc,Ct,<-jc,d,Ct];simp
def sb{n:Int}(h:a7 n):(cq n).length<=20:=by have:=U1 h;omega
def yc:∀l:List Int,(∀e∈l,a7 e)->(n0 l).length<=21 *l.length
 |[],_=>bm _
 |[n],d=>by have:=sb (d n (by simp));show(cq n).length<=21;omega
 |n::m::r,d=>by have k:=sb (d n (by simp));have j:=yc (m::r) λe h=>d e (by simp at h ⊢;exact .inr h);rw[Ct,bc,dE];simp only[dE]at j ⊢;omega
def sP{l:List Int}(h:∀d∈l,a7 d):(iL l).length<=21 *l.length+2:=by have:=yc l h;unfold iL;simp only[jc,dE,bc,gS];omega
structure rK(s:ct):Prop where
 kind:0<=s.kind/\s.kind<=5
 node:a7 s.node
 du:a7 s.du
 params:(∀x∈s.params,a7 x)/\s.params.length<=1000000
 bY:(∀x∈s.bY,a7 x)/\s.bY.length<=1000000
 hints:(∀x∈s.hints,a7 x)/\s.hints.length<=1000000
 nm:s.nm.size<=1000000
def Nn(s:ct):(n7 s).length<=s.nm.size+1:=by
 unfold n7;split
 .simp
 .rw [dH];omega
def RV(k:Int):(mF k).length<=7:=by
 unfold mF;have d:∀i<6,(rj.getD i []).length<=7:=by decide
 by_cases e:k.toNat<6
 .exact d _ e
 .rw [List.getD_eq_getElem?_getD,List.getElem?_eq_none (by show 6<=_;omega)];simp
def Xh{s:ct}(h:rK s):(ym s).length<=70000000:=by have d:=sb h.node;have e:=sb h.du;have j:=sP h.params.1;have k:=sP h.hints.1;have q:=sP h.bY.1;have w:=h.params.2;have x:=h.hints.2;have y:=h.bY.2;have z:=Nn s;have A:=h.nm;have B:=RV s.kind;unfold ym;simp only[bc,dE];omega
abbrev fA(s:Sl)(xs:List UInt8):En:=.row cD 1 s (xs.map bD)
section
variable {M:Nat->Prop} {w0 w:J} {L D:List En}
def Gt{s:Sl}{xs:List UInt8}(h:(fA s xs).P w):s.n=xs.length:=by have:=(show aK w cD 1 s (xs.map bD)from h).len;simpa using this.symm
def _root_.Go.W.LH.Ge(H:LH M w0 w L D)(i:Nat){s:Sl}{xs:List UInt8}(V:L[i]? =some (fA s xs))(t:List UInt8)(q:xs.length+t.length<=100000000000000){K:Sl->J->Prop}(k:∀s' w',LH M w0 w' (L.set i (fA s' (xs++t))) D->K s' w'):∃(s':Sl) (w':J),Sem.run Y (Builtin.append_ #[c',fX] c' #[s.v,.string (ba t)]) w=.ok s'.v w'/\K s' w':=by have x:=cP t;obtain⟨s',w',e,d,h,j⟩:=Gh (ty:=c') (aK.yW (H.get i V)) (ba t) (by omega);rw[mS]at d;exact⟨s',w',e,k s' w' (H.gv i (fA s' (xs++t)) V h d.2 j)⟩
def _root_.Go.W.LH.uF(H:LH M w0 w L D)(i:Nat){s:Sl}{xs:List UInt8}(V:L[i]? =some (fA s xs))(c:UInt8)(j:xs.length<=100000000000000){K:Sl->J->Prop}(e:∀s' w',LH M w0 w' (L.set i (fA s' (xs++[c]))) D->K s' w'):c9 w (.cells #[.int .u8 (c.toNat:Int)] cD) λh=>∃(s':Sl) (w':J),Sem.run Y (Builtin.append_ #[c',c'] c' #[s.v,.slice (some (nb w)) 1 1]) h=.ok s'.v w'/\K s' w':=by have k:=Gt (H.get i V);refine H.uE i kH V (λs' w' d _ _=>e s' w' ?_) (by omega);unfold fA;rw[hv];exact d
def _root_.Go.W.LH.aU(H:LH M w0 w L D)(i:Nat){s:Sl}{xs:List UInt8}(V:L[i]? =some (fA s xs))(Q:jv∈D){u:Nat}(x:u<2^64)(A:xs.length<=10000000000000){K:aH}(y:∀d e,LH M w0 e (L.set i (fA d (xs++b0 u))) D->K (ae d.v) e):ai Y Ln #[s.v,.u (u:Int),.i 10] w K:=by
 obtain⟨d1,d2,I⟩:=HA x;have aa:=(cz.1 V).1;refine Jf.ok _ _ _ w _ (a1 rfl (aF (λO=>?_) (λO=>?_)))
 .rw [aQ _ (by omega)];refine(NY u (by omega) w).mono ?_;rintro _ C ⟨rfl,q⟩;subst q;exact⟨_,rfl,H.Ge i V _ (by omega) y⟩
 .refine H.nw (cs:=oF.toArray) λC ac h=>(GS (by omega) x C (h.rd _ Q).1).mono ?_;rintro _ w2 ⟨rfl,q⟩;subst q;have z:(L++[En.c w.heap.size oF.toArray.toList oz])[L.length]? =some (.c w.heap.size oF oz):=by simp
  have Z:(En.c w.heap.size oF oz).P w2:=h.get L.length z;refine⟨_,rfl,by omega,by omega,?_⟩;rw[bH,Nat.sub_zero];have N:(if 24=0 then ab w.heap.size else(ab w.heap.size).add (0 *1))=(ab w.heap.size).add 0:=by rw[af (by decide)]
  rw[N];refine(GL (vs:=oF) (o:=0) (nd:=(b0 u).length) Z rfl (by omega) I x).mono ?_;rintro _ E ⟨rfl,B,k,T⟩;have G:LH M w0 E ((L++[En.c w.heap.size oF.toArray.toList oz]).set L.length (.c w.heap.size B oz)) D:=h.gv L.length (.c w.heap.size B oz) z (k.fr.mono λad _ hx=>by simp[En.c,En.ob,hx]) (k.get 0) λb A=>.inl A;have U:=HD T rfl (by omega);have S:Bytes E ⟨some ((ab w.heap.size).add 0),(b0 u).length,24⟩ (b0 u):=DQ (k.get 0) rfl (by omega) U;have j:=G.take L.length;rw[List.set_append_right _ _ (bm _),List.take_left' rfl]at j;refine⟨rfl,by omega,by omega,?_⟩;have hn:=Gt (j.get i V);refine j.ap i kH (src:=⟨some ((ab w.heap.size).add 0),(b0 u).length,24⟩) (news:=(b0 u).map bD) V S.2.2 (by simp) (xy _) (by show(_+(b0 u).length) *1<=_;omega) λd e F _ _=>y d e ?_;unfold fA;rw[hv];exact F
def _root_.Go.W.LH.aI(H:LH M w0 w L D)(i:Nat){s:Sl}{xs:List UInt8}(V:L[i]? =some (fA s xs))(y:jv∈D){n:Int}(h:a7 n)(I:xs.length<=1000000000000){K:aH}(B:∀d k,LH M w0 k (L.set i (fA d (xs++cq n))) D->K (ae d.v) k):ai Y MA #[s.v,.i n,.i 10] w K:=by
 obtain⟨E,F,z⟩:=Rr h;have C:=(cz.1 V).1;have imp:ai Y Ll #[s.v,.i n,.i 10] w λr k=>∃d,r=ae d.v/\LH M w0 k (L.set i (fA d (xs++cq n))) D:=by
  refine Je.ok _ _ _ w _ (aF (λj=>?_) (λj=>?_))
  .rw [E j,U2 j];refine H.uF i V 45 (by omega) λN A q=>q.aU i (xs:=xs++[45]) (by simp[C]) y z (by simp;omega) λx G e=>⟨_,rfl,x,rfl,?_⟩;rw[List.set_set,cp]at e;exact e
  .rw [F (by omega),U3 j];exact H.aU i V y z (by omega) λx G e=>⟨_,rfl,x,rfl,e⟩
 refine QE.ok _ _ _ w _ (imp.mono ?_);rintro _ A ⟨d,rfl,q⟩;exact⟨_,rfl,B d A q⟩
end
def DO{w:J}{s:Sl}{l:List Int}(H:bo w s l)(V:∀d∈l,a7 d)(Q:l.length<=1000000)(B:rE w):ai Y LJ #[s.v] w λr w'=>r=ae (.string (ba (iL l)))/\ag w w':=by
 have S:=bo.len H;have e:LH F0 w w [] [jv,.rd s (l.map a')]:=bI _ (by
  intro G h;simp only[au,aO,aR]at h;rcases h with rfl|rfl
  .exact B
  .exact H)
 have loop:∀(k i:Nat) (out:Sl) (w':J),i+k=l.length->LH F0 w w' [fA out (40::n0 (l.take i))] [jv,.rd s (l.map a')]->s9.L0 out s ((s.n:Nat):Int) (i:Int) w' λr w'=>r=ae (.string (ba (iL l)))/\ag w w':=by
  intro k;induction k with
  |zero=>
   intro i out w' C e;have D:=yc (l.take i) λd j=>V d (List.mem_of_mem_take j);rw[gJ]at D;refine s9.bC _ _ _ _ _ _ (aZ (aW (by omega)) (e.uF 0 rfl 41 (by simp only[dE];omega) λU K x=>⟨_,ma (aK.jd (x.get 0)),?_,x.fr⟩));rw[fQ (by omega)];rfl
  |succ k N=>
   intro i out w' C e;have y:l[i]? =some l[i]:=a4 (by omega);generalize l[i]=d at y;have j:=V d (aD y);have D:=yc (l.take i) λd j=>V d (List.mem_of_mem_take j);rw[gJ]at D;have I:l.take (i+1)=l.take i++[d]:=by rw[eA,y];rfl
   have F:∀(out:Sl) (xs:List UInt8) (q:J),xs.length<=30000000->xs++cq d=40::n0 (l.take (i+1))->LH F0 w q [fA out xs] [jv,.rd s (l.map a')]->s9.S1 out d s ((s.n:Nat):Int) (i:Int) q λr w'=>r=ae (.string (ba (iL l)))/\ag w w':=by intro out xs q T B z;refine z.aI 0 rfl (by simp) j (by omega) λs3 P E=>⟨_,rfl,?_⟩;rw[bb _ (by omega)];rw[B]at E;exact N (i+1) s3 P (by omega) E
   refine s9.bC _ _ _ _ _ _ (a1 (aS (by omega)) ⟨by omega,by omega,bo.cell (e.getD 1) y (by rw[bH]) λp _ L=>⟨d,L,aF (λA=>e.uF 0 rfl 32 (by simp only[dE];omega) λO q z=>F O _ q (by simp;omega) ?_ z) (λA=>F out _ w' (by simp only[dE];omega) ?_ e)⟩⟩)
   .have M:l.take i≠[]:=λG=>(List.take_eq_nil_iff.1 G).elim (λh=>by omega) λh=>by rw[h]at C;simp at C
    rw[I,Ws,af M];simp
   .have A:i=0:=by omega
    subst A;rw[I];rfl
 exact s9.ok _ w _ (e.cN (n:=1) (sz:=1) (cs:=[bD 40]) rfl (by decide) λK x=>loop l.length 0 _ K (by omega) x)
def jz:List (List UInt8)->List UInt8
 |[]=>[]
 |[p]=>p
 |p::d::r=>p++32::jz (d::r)
def Ju(xs:List (List UInt8))(p:List UInt8):jz (xs++[p])=if xs=[]then p else jz xs++32::p:=by
 induction xs with
 |nil=>rfl
 |cons x xs e=>
  rw[af (by simp)];cases xs with
  |nil=>rfl
  |cons y d=>
   rw[af (by simp)]at e;show jz (x::((y::d)++[p]))=_;show x++32::jz ((y::d)++[p])=(x++32::jz (y::d))++32::p;rw[e];simp
section
variable {M:Nat->Prop} {w0 w:J} {D:List En}
def Yy{s t:Sl}{xs:List UInt8}{ps:List (List UInt8)}(H:LH M w0 w [fA s xs] D)(E:En.rd t (ps.map mA)∈D)(hx:xs.length<=10000000000)(F:∀p∈ps,p.length<=100000000)(hl:ps.length<=10){K:aH}(O:∀L w',LH M w0 w' [fA L (xs++(jz ps++[10]))] D->K (ae L.v) w'):ai Y LD #[s.v,t.v] w K:=by
 have hn:t.n=ps.length:=by have:=(show Rd w t (ps.map mA)from H.rd _ E).1;simpa using this
 have I:∀i:Nat,(jz (ps.take i)).length<=100000001 *i:=by
  intro i;induction i with
  |zero=>exact bm _
  |succ i y=>
   by_cases S:i<ps.length
   .have d:ps[i]? =some ps[i]:=a4 S;have hh:=F _ (aD d);rw[eA,d];show(jz (ps.take i++[ps[i]])).length<=_;rw[Ju];split
    .omega
    .rw [bc,dE];omega
   .rw [fQ (by omega)]at y ⊢;omega
 have loop:∀(k i:Nat) (out:Sl) (w':J),i+k=ps.length->LH M w0 w' [fA out (xs++jz (ps.take i))] D->s7.L0 out t ((t.n:Nat):Int) (i:Int) w' K:=by
  intro k;induction k with
  |zero=>
   intro i out w' x H;have:=I i;refine s7.bC _ _ _ _ _ _ (aZ (aW (by omega)) (H.uF 0 rfl 10 (by rw[bc];omega) λU W z=>O U W ?_));rw[fQ (by omega),cp]at z;exact z
  |succ k y=>
   intro i out w' x H;have hj:=I i;have d:ps[i]? =some ps[i]:=a4 (by omega);generalize ps[i]=p at d;have aa:=F p (aD d);have G:ps.take (i+1)=ps.take i++[p]:=by rw[eA,d];rfl
   have B:∀(out:Sl) (h:List UInt8) (e:J),h.length<=20000000000->h++p=xs++jz (ps.take (i+1))->LH M w0 e [fA out h] D->s7.S1 out (ba p) t ((t.n:Nat):Int) (i:Int) e K:=by intro out h e hy Q j;refine j.Ge 0 rfl p (by omega) λs3 Z A=>?_;rw[bb _ (by omega)];rw[Q]at A;exact y (i+1) s3 Z (by omega) A
   refine s7.bC _ _ _ _ _ _ (a1 (aS (by omega)) ⟨by omega,by omega,Rd.get (H.rd _ E) (i:=i) (v:=mA p) (by rw[hr,d];rfl) (by rw[bH]) λab _ P=>⟨_,P,aF (λq=>H.uF 0 rfl 32 (by rw[bc];omega) λV e j=>B V _ e (by simp only[bc,dE,gS];omega) ?_ j) (λq=>B out _ w' (by rw[bc];omega) ?_ H)⟩⟩)
   .have T:ps.take i≠[]:=λN=>(List.take_eq_nil_iff.1 N).elim (λC=>by omega) λC=>by rw[C]at x;simp at x
    rw[G,Ju,af T];simp
   .have q:i=0:=by omega
    subst q;rw[G];simp[jz]
 refine s7.ok _ _ w _ (loop ps.length 0 s w (by omega) ?_);rw[show jz (ps.take 0)=[]from rfl,eP];exact H
end
def Xg(s:ct):jz [mF s.kind,cq s.node,cq s.du,n7 s,iL s.params,iL s.hints,iL s.bY]=ym s:=rfl
section
variable {M:Nat->Prop} {w0 w:J} {D:List En}
def Yz{out s:Sl}{xs:List UInt8}{l:List Sp}(H:LH M w0 w [fA out xs] D)(G:jv∈D)(B:jk∈D)(Z:En.sp s l∈D)(hs:∀d∈l,rK d.x)(hl:l.length<=100)(hx:xs.length<=1000000000){K:aH}(hK:∀I w',LH M w0 w' [fA I (xs++(bA l).flatMap hq)] D->K (ae I.v) w'):ai Y LF #[out.v,s.v] w K:=by
 have hn:=(dX.1 (H.rd _ Z)).n;have fl:∀i,(((bA l).take i).flatMap hq).length<=70000001 *i:=by
  intro i;induction i with
  |zero=>simp
  |succ i ih=>
   by_cases hi:i<l.length
   .have z:l[i]? =some l[i]:=a4 hi;have hh:=Xh (hs _ (aD z));rw[eA,hr,z,List.flatMap_append];simp only[bc,Option.map_some,Option.toList_some,cV,List.flatMap_nil,eP,hq,dE,gS];omega
   .rw [fQ (by simp;omega)]at ih ⊢;omega
 have loop:∀(k i:Nat) (o:Sl) (w':J),i+k=l.length->LH M w0 w' [fA o (xs++((bA l).take i).flatMap hq)] D->s8.a2 o s ((s.n:Nat):Int) (i:Int) w' K:=by
  intro k;induction k with
  |zero=>
   intro i o w' hk H;refine s8.bw _ _ _ _ _ _ (aZ (aW (by omega)) (hK o w' ?_));rw[fQ (by simp;omega)]at H;exact H
  |succ k ih=>
   intro i o w' hk H;have z:l[i]? =some l[i]:=a4 (by omega);generalize l[i]=d at z;have hd:=aD z;have e:=hs d hd;have av:=fl i;refine s8.bw _ _ _ _ _ _ (a1 (aS (by omega)) ⟨by omega,by omega,(dX.1 (H.rd _ Z)).get z λp q=>?_⟩);rw[bH];refine⟨_,_,_,_,_,_,_,q.c0,q.c1,q.c2,q.c3,q.c4,q.c5,q.c6,H.aG λb w1 H1=>?_⟩;have S1:∀aj A,aj=ba (n7 d.x)->LH M w0 A ([fA o (xs++((bA l).take i).flatMap hq)]++[.g b]) D->s8.bM o b d.x.kind d.x.node d.x.du d.p d.x.nm d.l d.h aj s ((s.n:Nat):Int) (i:Int) A K:=by
    rintro _ A rfl E;obtain⟨j,hj⟩:=Int.eq_ofNat_of_zero_le e.kind.1;have an:j<6:=by have:=e.kind.2;omega
    have hw:rj.getD j []=mF d.x.kind:=by unfold mF;rw[hj];rfl
    have C:∀{w':J},jk.P w'->w'.cell? ((Addr.mk 0 0 none).add (aV (j:Int) *1))=some (.string (ba (mF d.x.kind))):=λF=>by rw[bH,Nat.mul_one,<-hw];exact abm F j an
    rw[hj];refine⟨by omega,by show(j:Int)<6;omega,E.ah λw3 V=>⟨_,C (V.rd _ B),V.aw (Gw e.node (V.rd _ G).1) ?_⟩⟩;rintro _ w4 rfl W;refine⟨_,rfl,C (W.rd _ B),W.aw (Gw e.du (W.rd _ G).1) ?_⟩;rintro _ w5 rfl L;have ad:=λ{w':J} (H:LH M w0 w' ([fA o (xs++((bA l).take i).flatMap hq)]++[.g b]) D)=>(dX.1 (H.rd _ Z)).2 d hd;refine⟨_,rfl,C (L.rd _ B),L.aw (DO (l:=d.x.params) (ad L).1 e.params.1 e.params.2 (L.rd _ G)) ?_⟩;rintro _ w6 rfl N;refine⟨_,rfl,C (N.rd _ B),N.aw (DO (l:=d.x.hints) (ad N).2.2 e.hints.1 e.hints.2 (N.rd _ G)) ?_⟩;rintro _ w7 rfl O;refine⟨_,rfl,C (O.rd _ B),O.aw (DO (l:=d.x.bY) (ad O).2.1 e.bY.1 e.bY.2 (O.rd _ G)) ?_⟩;rintro _ T rfl H8;refine⟨_,rfl,C (H8.rd _ B),?_⟩;obtain⟨y,S⟩:∃y,y=[mF d.x.kind,cq d.x.node,cq d.x.du,n7 d.x,iL d.x.params,iL d.x.hints,iL d.x.bY]:=⟨_,rfl⟩;have am:(#[.string (ba (mF d.x.kind)),.string (ba (cq d.x.node)),.string (ba (cq d.x.du)),.string (ba (n7 d.x)),.string (ba (iL d.x.params)),.string (ba (iL d.x.hints)),.string (ba (iL d.x.bY))]:Array aa)=(y.map mA).toArray:=by rw[S];rfl
    have ao:y.length=7:=by rw[S];rfl
    rw[am];refine H8.cN (n:=7) (sz:=1) (cs:=y.map mA) (by simp[ao]) (by decide) λw9 H9=>?_;have al:LH M w0 w9 [fA o (xs++((bA l).take i).flatMap hq),En.g b] (D++[.rd ⟨some (ab T.heap.size),7,7⟩ (y.map mA)]):=H9.freeze 2 (.rd ⟨some (ab T.heap.size),7,7⟩ (y.map mA)) rfl (aK.jd (H9.get 2)) λap ac=>pr ac;have U:LH M w0 w9 ([En.g b]++[fA o (xs++((bA l).take i).flatMap hq)]) (D++[.rd ⟨some (ab T.heap.size),7,7⟩ (y.map mA)]):=al.perm (List.Perm.swap _ _ _);refine⟨_,IT U,Yy (s:=o) (t:=⟨some (ab T.heap.size),7,7⟩) (xs:=xs++((bA l).take i).flatMap hq) (ps:=y) U.part (dV _ (bT.2 rfl)) (by rw[bc];omega) ?_ (by omega) λI ar ag=>⟨ag.fr,I,rfl,?_⟩⟩
    .have l1:=sb e.node;have l2:=sb e.du;have l3:=sP e.params.1;have l4:=sP e.hints.1;have l5:=sP e.bY.1;have m3:=e.params.2;have m4:=e.hints.2;have m5:=e.bY.2;have m6:=Nn d.x;have m7:=e.nm;have m8:=RV d.x.kind;intro p q;rw[S]at q;simp only[au,aO,aR]at q;rcases q with rfl|rfl|rfl|rfl|rfl|rfl|rfl<;>omega
    .have ak:=(U.BI ag λQ he ap ac=>.inr ⟨Q,he,ac⟩).forget D λQ he=>bK _ he;rw[bb _ (by omega)];refine ih (i+1) I ar (by omega) ?_;have et:xs++((bA l).take (i+1)).flatMap hq=xs++((bA l).take i).flatMap hq++(jz y++[10]):=by rw[S,Xg,eA,hr,z];simp[hq]
     rw[et];exact(ak.perm (List.Perm.swap _ _ _)).take 1
   exact ED (λF=>H1.ah λA E=>S1 _ A (by unfold n7;rw[aq (yI.1 F)];rfl) E) (λF=>H1.ah λA E=>S1 _ A (by unfold n7;rw[af (λQ=>F (yI.2 Q)),l8]) E)
 refine s8.aB _ _ w _ (loop l.length 0 out w (by omega) ?_);rw[List.take_zero,List.flatMap_nil,eP];exact H
def Yx{s:Sl}{l:List Sp}(h:f' w s l)(e:∀d∈l,rK d.x)(L:l.length<=10)(q:rE w)(H:jk.P w)(G:vX (bA l)=0):
  ai Y LB #[.agg #[(⟨none,0,0⟩:Sl).v,s.v]] w λr K=>r=ae (.tuple #[.string (ba ((bA l).flatMap hq)),.i 0])/\ag w K:=by
 have F:∀d∈l,nK d:=λd k=>⟨by have:=(e d k).params.2;omega,by have:=(e d k).bY.2;omega,by have:=(e d k).hints.2;omega⟩;refine DU.aB _ _ w _ ((bI (w:=w) [jv,jk,.sp s l] (by
  intro B C;simp only[au,aO,aR]at C;rcases C with rfl|rfl|rfl
  .exact q
  .exact H
  .exact dX.2 h)).aG λb N y=>y.aw (Wu (by omega) F (dX.1 (y.getD 2))) ?_)
 rintro _ O rfl D;refine⟨_,rfl,di (λh=>absurd G h) (λ_=>DU.bw _ _ _ _ _ _ _ _ _ (aZ rfl ?_))⟩;have j:=D.hR cD 1;refine⟨_,IT j,Yz (xs:=[]) j.part (by simp) (by simp) (by simp) e (by omega) (by simp) λI Q z=>⟨z.fr,I,rfl,?_⟩⟩;have A:=j.BI z λB q M E=>.inr ⟨B,q,E⟩;exact⟨_,ma (aK.jd (A.get 1)),rfl,A.fr⟩
end
namespace HQ
noncomputable abbrev t0:=az Y Tryz.f14 [] [1,2]
noncomputable abbrev bn:=av t0 [5] [(3,.v [.st]),(4,.v [.I]),(5,.v [.st])]
noncomputable abbrev t1:=ay bn
def aB:=aA t1 Kl []
end HQ
namespace xV
noncomputable abbrev t0:=az Y Tryz.f3 [(5,ls [0,1,2,3,4,5,6,7,8,9,10,11,12,13,14,15,16,18,19,20,17,21,22,23,24,25,26,27,28,29,30,31,32,33,34,35]),(10,(.sq [0,1,2,3,4,7,9] (.fork (.sq [5] (.fork (.sq [6] (.fork (ls [8,10,11,12,13]) (ls [10,8,11,12,13]))) (ls [10,6,8,11,12,13]))) (.fork (.sq [6] (.fork (.sq [5] (.fork (ls [8,10,11,12,13]) (ls [10,8,11,12,13]))) (ls [10,5,8,11,12,13]))) (.sq [10] (.fork (ls [5,6,8,11,12,13]) (ls [6,5,8,11,12,13])))))))] [11,14,21]
abbrev P0:Ps:=[]
noncomputable abbrev bn:=av t0 [0,1,1,1,5] P0
noncomputable abbrev t1:=ay bn
abbrev P1:Ps:=[(19,.v [.s]),(20,.v [.I])]
noncomputable def g1:=bf t1 [0,1,1,1,10] P1
noncomputable abbrev t2:=be g1
noncomputable abbrev cM:=av t2 [0,1,3,2,1,2,1,1,10] P0
noncomputable abbrev t3:=ay cM
noncomputable abbrev fK:=av t3 [2,2,1,1,10] P1
noncomputable abbrev t4:=ay fK
def jT:=bg t4 g1
noncomputable abbrev bM:=av t4 [10] [(19,.v [.s])]
noncomputable abbrev t5:=ay bM
def aB:=aA t5 CM [.s,.s,.I,.Y,.s]
end xV
def mm:ct:=⟨0,-1,0,[0],ba [],[1],[]⟩
def vH:ct:=⟨5,0,0,[],ba [],[-3,4],[0,2]⟩
def u0{n:Int}(h:0<=n)(d:n<10):cq n=[g4 n.natAbs]:=by unfold cq;rw[af (by omega),nS (by omega)]
def HB{n:Int}(h:n<0)(d:-10<n):cq n=[45,g4 n.natAbs]:=by unfold cq;rw[aq h,nS (by omega)]
def Xw:hq mm=[103,97,116,101,32,45,49,32,48,32,45,32,40,48,41,32,40,41,32,40,49,41,10]:=by have e:cq (-1)=[45,49]:=HB (by decide) (by decide);have d:cq 0=[48]:=u0 (by decide) (by decide);have h:cq 1=[49]:=u0 (by decide) (by decide);show(mF 0++32::(cq (-1)++32::(cq 0++32::([45]++32::((40::cq 0++[41])++32::([40,41]++32::(40::cq 1++[41])))))))++[10]=_;rw[e,d,h];rfl
def Xx:hq vH=[114,101,115,111,108,118,101,32,48,32,48,32,45,32,40,41,32,40,48,32,50,41,32,40,45,51,32,52,41,10]:=by have h:cq (-3)=[45,51]:=HB (by decide) (by decide);have d:cq 0=[48]:=u0 (by decide) (by decide);have e:cq 2=[50]:=u0 (by decide) (by decide);have j:cq 4=[52]:=u0 (by decide) (by decide);show(mF 5++32::(cq 0++32::(cq 0++32::([45]++32::([40,41]++32::((40::(cq 0++32::cq 2)++[41])++32::(40::(cq (-3)++32::cq 4)++[41])))))))++[10]=_;rw[h,d,e,j];rfl
def XA:vX [mm,mm,mm,vH]=0:=by decide
def yo:rK mm/\rK vH:=by constructor<;>exact⟨by decide,by decide,by decide,⟨by decide,by decide⟩,⟨by decide,by decide⟩,⟨by decide,by decide⟩,by decide⟩
def Xy(a l:List UInt8):ba (a++(a++(a++(l++[]))))=ba a++ba a++ba a++ba l:=by simp only[dG,eP,cp]
def Uf{w:J}(S:rE w)(U:jk.P w):ai Y Kl #[] w λr w'=>r=ae (.bool true)/\ag w w':=by
 refine HQ.aB w _ ((bI (w:=w) [jv,jk] (by
  intro C D;simp only[au,aO,aR]at D;rcases D with rfl|rfl
  .exact S
  .exact U)).cN (n:=2) (sz:=1) (cs:=[.i 0,.i 2]) rfl (by decide) λE F=>F.cN (n:=2) (sz:=1) (cs:=[.i (-3),.i 4]) rfl (by decide) λw2 L=>L.aG λb1 w3 O=>O.ah λq G=>G.cN (n:=1) (sz:=1) (cs:=[.i 0]) rfl (by decide) λy H=>H.cN (n:=1) (sz:=1) (cs:=[.i 1]) rfl (by decide) λac I=>I.aG λb2 ad K=>K.ah λaa M=>?_)
 let h:List Sp:=[⟨mm,⟨some (ab q.heap.size),1,1⟩,⟨some (ab y.heap.size),1,1⟩,⟨none,0,0⟩⟩,⟨mm,⟨some (ab q.heap.size),1,1⟩,⟨some (ab y.heap.size),1,1⟩,⟨none,0,0⟩⟩,⟨mm,⟨some (ab q.heap.size),1,1⟩,⟨some (ab y.heap.size),1,1⟩,⟨none,0,0⟩⟩,⟨vH,⟨none,0,0⟩,⟨some (ab E.heap.size),2,2⟩,⟨some (ab w.heap.size),2,2⟩⟩]
 refine M.oa λd _ e V=>?_;have W:bo d ⟨some (ab w.heap.size),2,2⟩ [0,2]:=aK.jd (e.get 0);have Z:bo d ⟨some (ab E.heap.size),2,2⟩ [-3,4]:=aK.jd (e.get 1);have A:bo d ⟨some (ab q.heap.size),1,1⟩ [0]:=aK.jd (e.get 3);have B:bo d ⟨some (ab y.heap.size),1,1⟩ [1]:=aK.jd (e.get 4);have k:bo d ⟨none,0,0⟩ []:=Rd.nil d;have sp:f' d ⟨some (ab aa.heap.size),4,4⟩ h:=⟨nq (cs:=h.flatMap Sp.c) V rfl,λz j=>by
  simp only[h,au,aO,aR]at j;rcases j with rfl|rfl|rfl|rfl
  .exact ⟨A,B,k⟩
  .exact ⟨A,B,k⟩
  .exact ⟨A,B,k⟩
  .exact ⟨k,Z,W⟩⟩
 have T:∀z∈h,rK z.x:=λz j=>by
  simp only[h,au,aO,aR]at j;rcases j with rfl|rfl|rfl|rfl
  .exact yo.1
  .exact yo.1
  .exact yo.1
  .exact yo.2
 have Q:=Yx (w:=d) sp T (Nat.le_of_ble_eq_true rfl) (e.rd jv (.head _)) (e.rd jk (.tail _ (.head _))) XA;refine e.aw Q ?_;rintro _ af rfl N;refine⟨_,_,rfl,a1 rfl ⟨by decide,by decide,by decide,?_,N.fr⟩⟩;have C:(bA h).flatMap hq=hq mm++(hq mm++(hq mm++(hq vH++[]))):=rfl;rw[C,Xw,Xx];exact congrArg (λb=>Ending.returned (.bool b)) (beq_iff_eq.2 (congrArg ByteArray.toList (Xy [103,97,116,101,32,45,49,32,48,32,45,32,40,48,41,32,40,41,32,40,49,41,10] [114,101,115,111,108,118,101,32,48,32,48,32,45,32,40,41,32,40,48,32,50,41,32,40,45,51,32,52,41,10])))
def mN.XE{n:Nat}{x:Lx}(h:mN n x.p)(k:n<=100000)(j:(de x.p).length<=1000000):xb x:=by refine⟨h.XD k,h.h,h.c,λd e=>(h.s d.x (bZ.2 ⟨d,e,rfl⟩)).i,λd e=>?_,by omega⟩;have q:=X2 e;have w:=nT (eJ (xs x.gl));unfold de Lx.p at j;simp only[bc]at j;omega
namespace Ay
abbrev uf(w:J):aH:=λr d=>r=ae (.bool true)/\ag w d
abbrev p9(row:Sl)(l:List (Sl×List UInt8)):En:=.all (.rd row (l.map λp=>p.1.v)::l.map λp=>.rd p.1 (p.2.map W.bD))
def Fa{w:J}{row:Sl}{l:List (Sl×List UInt8)}(h:(p9 row l).P w):Rd w row (l.map λp=>p.1.v):=h _ kf
def Rn{w:J}{row:Sl}{l:List (Sl×List UInt8)}(h:(p9 row l).P w){i:Nat}{s:Sl}{b:List UInt8}(V:l[i]? =some (s,b)):Bytes w s b:=
 h (.rd s (b.map W.bD)) (List.mem_cons_of_mem _ (bZ.2 ⟨(s,b),aD V,rfl⟩))
def Cd{y:Lx}(d:iA 40 y)(B:rH y):xa y.p/\(de y.p).length<=30000/\xb y:=by
 obtain⟨g1,g2⟩:=d.g;obtain⟨q,hE,G⟩:=B.g.Wf (by simp[xs];omega);have aa:(xs y.gl).length=y.gl.length:=by simp[xs]
 have h1:=kL y.hy d.h.2;have h2:=kL y.cl d.c.2;have h3:=ei y.hy.length (by have:=d.h.1;omega);have h4:=ei y.cl.length (by have:=d.c.1;omega);have h5:=ei (eJ (xs y.gl)).length (by omega);have h6:=cR (((bA y.ds).length:Nat):Int) (by have:=d.s.1;simp;omega);have D:∀(l:List Sp),(∀e∈l,iD 40 e.x)->((bA l).flatMap dP).length<=1400 *l.length:=λl=>by
  induction l with
  |nil=>intro _;exact bm _
  |cons e l H=>
   intro A;have a:=A e (by simp);have b:=H λC E=>A C (by simp[E]);have I:=cR _ a.k.1;have K:=cR _ a.k.2.1;have L:=cR _ a.k.2.2;have M:=kL _ a.p.2;have N:=kL _ a.l.2;have O:=kL _ a.h.2;have P:=a.p.1;have Q:=a.l.1;have S:=a.h.1;have T:=a.t;have U:=ei e.x.params.length (by omega);have V:=ei e.x.bY.length (by omega);have W:=ei e.x.hints.length (by omega);have Z:=ei (bl e.x.nm).length (by rw[dH];omega);have e8:=dH e.x.nm;show((e.x::bA l).flatMap dP).length<=_;rw[cV,bc,dE];unfold dP at b ⊢;unfold cH df at b ⊢;simp only[bc]at b ⊢;omega
 have h8:=D y.ds d.s.2;have hlen:(de y.p).length<=30000:=by have:=B.n;have:=d.h.1;have:=d.c.1;have:=d.s.1;unfold de Lx.p;dsimp only;unfold df cH eg;simp only[bc];omega
 refine⟨⟨q.w,by show(xs y.gl).length<=4096;omega,G,d.h.2,d.c.2,λs F=>?_⟩,hlen,d.le (by omega:40<=100) |>.k,d.h.2,d.c.2,λe j=>?_,q.z,by omega⟩
 .obtain ⟨e,j,rfl⟩:=bZ.1 F;have a:=d.s.2 e j;exact⟨a.k,a.p.2,a.l.2,a.h.2⟩
 .have a:=d.s.2 e j;exact⟨a.k,a.p.2,a.l.2,a.h.2⟩
def aar{M:Nat->Prop}{w0 w:J}{L D:List En}{U:List Nat}(H:LH M w0 w L D)(i:Nat){s:Sl}{l:List UInt8}(j:Nat)(c:UInt8){K:J->Prop}(V:L[i]? =some (.by s l))(y:j<l.length)(x:∀e,LH M w0 e (L.set i (.by s (l.set j c))) D->K e)(bp:∀b∈U,En.g b∈L:=by simp):
  dM s.a λp=>aP w (p.add (j *1)) (.int .u8 (c.toNat:Int)) λh=>kept U w h/\K h:=by
 obtain⟨p,A,E,B,C,k,q⟩:=yZ (H.get i V) (j *1) (by simpa using y) (W.bD c);rw[A];refine⟨B,C,λb d=>?_,x _ (H.gv i (.by s (l.set j c)) V q ?_ (λb d=>.inl d))⟩
 .exact q.cb b (H.own _ (bp b d)) λz=>H.x8 V (bp b d) z
 .rw [Nat.mul_one,<-List.map_set]at k;rw[Nat.mul_one];exact k
def A0{w:J}{s:Sl}{l:List UInt8}(h:(En.by s l).P w):Rd w s (l.map W.bD):=(kc h).rd
def yQ{D:List En}{w:J}{e:En}(h:e∈D):((∀d∈D,d.P w)->e.P w)/\∀b∈e.fp,∃d∈D,b∈d.fp:=⟨λk=>k e h,λb j=>⟨e,h,j⟩⟩
end Ay
structure Pp where
 ls:List Lp
 ss:List ct
def Pp.e:Pp:=⟨[],[]⟩
def vD:List Lp->Int
 |[]=>0
 |d::r=>if sO d≠0 then sO d else vD r
def qU(p:Pp):Int:=if vD p.ls≠0 then vD p.ls else ot p.ss 0 (p.ls.length:Int)
def JP:∀l:List Lx,i3 l=vD (l.map Lx.p)
 |[]=>rfl
 |d::r=>by show(if gj d≠0 then gj d else i3 r)=if sO d.p≠0 then sO d.p else vD (r.map Lx.p);rw[JP r,WV]
def dy(ls:List Lx)(ds:List Sp):Pp:=⟨ls.map Lx.p,bA ds⟩
def DT(ls:List Lx)(ds:List Sp):lK ls (bA ds)=qU (dy ls ds):=by unfold lK qU dy;rw[JP];simp only[tg]
def eY(l:List Lp):List UInt8:=l.flatMap λd=>df (de d)
def ez(p:Pp):List UInt8:=bt (p.ls.length:Int)++(eY p.ls++eg p.ss)
def yh:Option Lp->RS->Option (List Lp)×RS->Option (List Lp)×RS
 |none,s,_=>(none,s)
 |some x,_,r=>(r.1.map (x::·),r.2)
def fS:Nat->RS->Option (List Lp)×RS
 |0,st=>(some [],st)
 |n+1,st=>yh (gF (bX st).1) (bX st).2 (fS n (bX st).2)
def OC(n:Nat)(st:RS):fS (n+1) st=yh (gF (bX st).1) (bX st).2 (fS n (bX st).2):=by conv=>lhs;unfold fS
def D9{n:Nat}{st:RS}(h:gF (bX st).1=none):fS (n+1) st=(none,(bX st).2):=by rw[OC,h,yh]
def y8{n:Nat}{st:RS}{x:Lp}(h:gF (bX st).1=some x):fS (n+1) st=((fS n (bX st).2).1.map (x::·),(fS n (bX st).2).2):=by rw[OC,h,yh]
def mu(U:List UInt8):RS:=(fS (a3 ⟨U,0⟩).1.toNat (a3 ⟨U,0⟩).2).2
def gI(U:List UInt8):Option Pp:=
 if(a3 ⟨U,0⟩).1<0\/4096<(a3 ⟨U,0⟩).1 then none else
 match(fS (a3 ⟨U,0⟩).1.toNat (a3 ⟨U,0⟩).2).1 with
 |none=>none
 |some l=>match(dW U.length (mu U)).1 with
  |none=>none
  |some d=>if hU (dW U.length (mu U)).2=0 then some ⟨l,d⟩else none
def N8{U:List UInt8}{p:Pp}(h:gI U=some p):¬((a3 ⟨U,0⟩).1<0\/4096<(a3 ⟨U,0⟩).1)/\(fS (a3 ⟨U,0⟩).1.toNat (a3 ⟨U,0⟩).2).1=some p.ls/\
  (dW U.length (mu U)).1=some p.ss/\hU (dW U.length (mu U)).2=0:=by
 unfold gI at h;split at h
 .cases h
 .rename_i d;split at h
  .cases h
  .rename_i l j;split at h
   .cases h
   .rename_i q k;split at h
    .rename_i e;cases h;exact⟨d,j,k,e⟩
    .cases h
def OB:∀{l:List Lp} (_:∀x∈l,xa x) (_:(eY l).length<=1000000000000) (r:List UInt8),fS l.length ⟨eY l++r,0⟩=(some l,⟨r,0⟩)
 |[],_,_,r=>rfl
 |x::l,W,h,r=>by
  have d:eY (x::l)=df (de x)++eY l:=rfl;have g:=nT (de x);rw[d,bc]at h;have e:bX ⟨eY (x::l)++r,0⟩=(de x,⟨eY l++r,0⟩):=by rw[d,cp];exact y' _ (by omega) _
  rw[dE,y8 (x:=x) (by rw[e];exact WZ (W x (by simp)) (by omega)),e];dsimp only;rw[OB (λk j=>W k (by simp[j])) (by omega)];rfl
def OA:∀(n:Nat) {st:RS} {l:List Lp},(fS n st).1=some l->(fS n st).2.err=0->st.err=0/\st.U=eY l++(fS n st).2.U/\l.length=n
 |0,st,l,d,e=>by cases d;exact⟨e,rfl,rfl⟩
 |n+1,st,l,d,e=>by
  cases h:gF (bX st).1 with
  |none=>rw[D9 h]at d;cases d
  |some B=>
   rw[y8 h]at d e ⊢;obtain⟨A,z,rfl⟩:=Option.map_eq_some_iff.1 d;obtain⟨j,k,q⟩:=OA n z e;obtain⟨w,x⟩:=y9 j;have y:=(WX h).1;refine⟨w,?_,by rw[dE,q]⟩;show st.U=(df (de B)++eY A)++_;rw[cp,<-k,y];exact x
def mN.le{n m:Nat}{x:Lp}(h:mN n x)(d:n<=m):mN m x:=⟨h.g,a6 h.hl d,h.h,a6 h.cl d,h.c,a6 h.sl d,λs e=>(h.s s e).le d⟩
def OD:∀(n:Nat) {st:RS} {l:List Lp},st.U.length<=1000000->(fS n st).1=some l->(∀j∈l,mN st.U.length j)/\(fS n st).2.U.length<=st.U.length/\l.length=n
 |0,st,l,_,d=>by cases d;exact⟨λj e=>(by cases e),bm _,rfl⟩
 |n+1,st,l,C,d=>by
  obtain⟨A,k⟩:=tk st;cases e:gF (bX st).1 with
  |none=>rw[D9 e]at d;cases d
  |some j=>
   rw[y8 e]at d ⊢;obtain⟨D,z,rfl⟩:=Option.map_eq_some_iff.1 d;obtain⟨q,w,x⟩:=OD n (by omega) z;refine⟨λB h=>?_,a6 w k,by rw[dE,x]⟩;rcases au.1 h with y|h
   .rw [y];exact(W2 (by omega) e).le A
   .exact (q B h).le k
def YO{p:Pp}(W:∀x∈p.ls,xa x)(y:p.ls.length<=4096)(w:∀s∈p.ss,l6 s)(h:(ez p).length<=1000000000000):gI (ez p)=some p:=by
 have d:a3 ⟨ez p,0⟩=((p.ls.length:Int),⟨eY p.ls++eg p.ss,0⟩):=kh _ ⟨by omega,by omega⟩ _;have j:=h;unfold ez at j;simp only[bc]at j;have e:=OB W (by omega) (eg p.ss);have k:mu (ez p)=⟨eg p.ss,0⟩:=by unfold mu;rw[d];dsimp only;rw[bH,e]
 have q:dW (ez p).length ⟨eg p.ss,0⟩=(some p.ss,⟨[],0⟩):=by have:=OT w (size:=(ez p).length) (by unfold ez;simp only[bc];omega) h [];rw[eP]at this;exact this
 unfold gI;rw[d];dsimp only;rw[af (by omega),bH,e];dsimp only;rw[k,q];rfl
def N5{U:List UInt8}{p:Pp}(h:gI U=some p):ez p=U:=by obtain⟨D,z,A,B⟩:=N8 h;obtain⟨x,y⟩:=Oz B;obtain⟨e,d⟩:=OS A x;obtain⟨j,k,q⟩:=OA _ z e;obtain⟨C,w⟩:=kU (st:=⟨U,0⟩) j;rw[y,eP]at d;unfold ez;rw[q,Int.toNat_of_nonneg (by omega),<-d];exact(w.trans (congrArg _ k)).symm
structure uw(n:Nat)(p:Pp):Prop where
 l:∀x∈p.ls,mN n x
 s:∀s∈p.ss,oN n s
 m:p.ss.length<=n
 k:p.ls.length<=4096
 b:(ez p).length<=1000000
def N7{U:List UInt8}{p:Pp}(z:U.length<=1000000)(h:gI U=some p):uw U.length p:=by have y:=N5 h;obtain⟨E,w,x,F⟩:=N8 h;have e:=(kj ⟨U,0⟩).2;dsimp only at e;obtain⟨j,d,D⟩:=OD _ (by omega) w;have d:(mu U).U.length<=_:=d;obtain⟨k,q⟩:=OU x;exact⟨λC B=>(j C B).le e,λs A=>(k s A).le (by omega),q,by omega,by rw[y];exact z⟩
def jE(U:List UInt8):Pp×Int:=match gI U with
 |some p=>if qU p=0 then(p,0)else(.e,2)
 |none=>(.e,2)
def N4{U:List UInt8}(h:gI U=none):jE U=(.e,2):=by unfold jE;rw[h]
def N2{U:List UInt8}{p:Pp}(h:gI U=some p)(d:qU p≠0):jE U=(.e,2):=by unfold jE;rw[h];dsimp only;rw[af d]
def DS{U:List UInt8}{p:Pp}(h:gI U=some p)(d:qU p=0):jE U=(p,0):=by unfold jE;rw[h];dsimp only;rw[aq d]
def N3(U:List UInt8):(∃p,gI U=some p/\qU p=0/\jE U=(p,0))\/jE U=(.e,2):=by
 cases d:gI U with
 |none=>exact .inr (N4 d)
 |some p=>
  by_cases h:qU p=0
  .exact .inl ⟨p,rfl,h,DS d h⟩
  .exact .inr (N2 d h)
structure ux(ls:List Lx)(ds:List Sp):Prop where
 n:ls.length<=4096
 l:∀x∈ls,xb x
 m:ds.length<=1000000
 k:∀d∈ds,nK d
 s:∀d∈ds,l6 d.x
 b:(ez (dy ls ds)).length<=1000000000
def ux.lk{ls:List Lx}{ds:List Sp}(h:ux ls ds):Az ls:=⟨h.n,λe d=>(h.l e d).k⟩
def JO:∀{l:List Lx},i3 l=0->∀j∈l,gj j=0
 |[],_,j,d=>by cases d
 |q::l,e,j,d=>by
  by_cases h:gj q=0
  .rw [yj h]at e;rcases au.1 d with k|d
   .rw [k];exact h
   .exact JO e j d
  .rw [CA h]at e;exact absurd e h
def YN{ls:List Lx}{ss:List ct}(h:lK ls ss=0):i3 ls=0:=by
 unfold lK at h;split at h
 .rename_i d;exact absurd h d
 .rename_i d;simpa using d
def JN{ls:List Lx}{i:Nat}{x:Lx}(h:ls[i]? =some x):eY ((ls.drop i).map Lx.p)=df (de x.p)++eY ((ls.drop (i+1)).map Lx.p):=by rw[JQ h];rfl
def NR{w:J}{s t:Sl}{ls:List Lx}{ds:List Sp}(j:ux ls ds)(h:kB w s ls)(ht:f' w t ds)(hk:b'.P w):ai Y LA #[.agg #[s.v,t.v]] w λr C=>FR w (ez (dy ls ds)) (lK ls (bA ds)) r C/\ag w C:=by
 have ad:=h.n;have ae:=j.n;have z:=j.b;have U:(dy ls ds).ls.length=ls.length:=by simp[dy]
 unfold ez at z;rw[U]at z;simp only[bc]at z;have z:(bt (ls.length:Int)).length+((eY (ls.map Lx.p)).length+(eg (bA ds)).length)<=1000000000:=z;refine vY.aB _ _ w _ ((bI (w:=w) [kO s ls,.sp t ds,b'] (by
  intro N d;simp only[au,aO,aR]at d;rcases d with rfl|rfl|rfl
  .exact jA.2 h
  .exact dX.2 ht
  .exact hk)).aG λM w1 E=>E.aw (Jv j.lk ⟨j.m,j.k⟩ (jA.1 (E.getD 0)) (dX.1 (E.getD 1)) (E.getD 2)) ?_)
 rintro _ W rfl S;refine⟨_,rfl,di (λF=>⟨⟨⟨none,0,0⟩,rfl,λh=>absurd h F,λ_=>rfl⟩,S.fr⟩) λF=>S.Dp λw3 H3=>H3.wm 1 rfl (λr=>k2 r _ (by constructor<;>omega) (by simp)) λZ V H4=>⟨rfl,?_⟩⟩;have hv:=JO (YN F);have N:ez (dy ls ds)=bt (ls.length:Int)++(eY (ls.map Lx.p)++eg (bA ds)):=by unfold ez;rw[U];rfl
 rw[F,N];have loop:∀(I k i:Nat) (v:J) (B:List UInt8) (Q:List Nat),i+k=ls.length->B++eY ((ls.drop i).map Lx.p)=bt (ls.length:Int)++eY (ls.map Lx.p)->LH F0 w v [.g M,.wr I B Q] [kO s ls,.sp t ds,b']->
   vY.a2 M s t (ab I) s ((s.n:Nat):Int) (i:Int) v λr C=>FR w (bt (ls.length:Int)++(eY (ls.map Lx.p)++eg (bA ds))) 0 r C/\ag w C:=by
  intro I k;induction k with
  |zero=>
   intro i v B Q hi d y;rw[cU (by omega)]at d;have d:B++[]=bt (ls.length:Int)++eY (ls.map Lx.p):=d;rw[eP]at d;have hlen:=congrArg List.length d;rw[bc]at hlen;refine vY.bw _ _ _ _ _ _ _ _ _ (aZ (aW (by omega)) (y.wm 1 rfl (λr=>NX r (dX.1 (y.getD 1)) (λD A q=>y.dj (.sp t ds) (by simp) D A _ (aD (i:=1) rfl) (aM.2 q)) j.s (by omega)) λw5 o5 e=>⟨rfl,?_⟩));rw[d,cp]at e;refine gN ((zW (show fg w5 I _ o5 from e.get 1) (by simp only[bc];omega)).mono ?_);rintro _ w6 ⟨u,rfl,hs,T,O⟩;exact⟨T,u,rfl,⟨u,rfl,λ_=>⟨hs,λD A=>a6 e.fr.size (O D A)⟩,λh=>absurd rfl h⟩,e.fr.dA T⟩
  |succ k ih=>
   intro i v B Q hi d y;have ac:=jA.1 (y.getD 0);have H:ls[i]? =some (ls[i]'(by omega)):=a4 (by omega);generalize ls[i]'(by omega)=x at H;have q:=aD H;rw[JN H,<-cp]at d;have hlen:=congrArg List.length d;simp only[bc]at hlen;have g1:=nT (de x.p);refine vY.bw _ _ _ _ _ _ _ _ _ (a1 (aS (by omega)) ⟨by omega,by omega,ac.get H λp _ G=>?_⟩);rw[bH];refine⟨_,_,_,_,G.c0,G.c1,G.c2,G.c3,y.aG λb5 w5 e=>e.ah λw6 K=>K.h' (YB (j.l x q) ((jA.1 (K.getD 0)).2 x q) (K.getD 2) (WW (hv x q))) λu w7 _ aa hu O=>⟨u,rfl,?_⟩⟩;have L:=aa.rd (.rd u ((de x.p).map bD)) hu.rd (gU O);refine L.wm 1 rfl (λr=>FB r (L.rd (.rd u ((de x.p).map bD)) (by simp)) (λD A q=>L.dj (.rd u ((de x.p).map bD)) (by simp) D A _ (aD (i:=1) rfl) (aM.2 q)) (by omega)) λw8 o8 H8=>⟨rfl,?_⟩;rw[bb _ (by omega)];exact ih (i+1) w8 _ o8 (by omega) d ((H8.take 2).forget _ λN d=>bK [.rd u ((de x.p).map bD)] d)
 have e:LH F0 w Z [.g M,.wr W.heap.size (bt (ls.length:Int)) V] [kO s ls,.sp t ds,b']:=by rw[<-ad];exact H4
 exact loop W.heap.size ls.length 0 Z _ V (by omega) (by rw[List.drop_zero]) e
def jD(aJ st:Sl)(ls:List Lx)(ds:List Sp):En:=.all [kO aJ ls,.sp st ds]
def AE(U:List UInt8)(r:ch)(e:En)(_:RS):Prop:=(∃(p:Pp) (aJ st:Sl) (ls:List Lx) (ds:List Sp),gI U=some p/\r=ae (.tuple #[.agg #[aJ.v,st.v],.bool true])/\dy ls ds=p/\e=jD aJ st ls ds)\/(gI U=none/\∃aJ st:Sl,r=ae (.tuple #[.agg #[aJ.v,st.v],.bool false]))
def N6{U:List UInt8}(h:(a3 ⟨U,0⟩).1<0\/4096<(a3 ⟨U,0⟩).1):gI U=none:=by unfold gI;rw[aq h]
def YQ{U:List UInt8}(h:(fS (a3 ⟨U,0⟩).1.toNat (a3 ⟨U,0⟩).2).1=none):gI U=none:=by
 unfold gI;split
 .rfl
 .rw [h]
def YP{U:List UInt8}{l:List Lp}(d:¬((a3 ⟨U,0⟩).1<0\/4096<(a3 ⟨U,0⟩).1))(h:(fS (a3 ⟨U,0⟩).1.toNat (a3 ⟨U,0⟩).2).1=some l):gI U=match(dW U.length (mu U)).1 with
  |none=>none
  |some e=>if hU (dW U.length (mu U)).2=0 then some ⟨l,e⟩else none:=by unfold gI;rw[af d,h];try rfl
def Ze(st:RS):(bX st).1.length<=st.U.length/\(bX st).2.U.length<=st.U.length:=tk st
def YD{w:J}{rb:Nat}{fp:List Nat}{U:List UInt8}(hl:U.length<=100000)(hk:b'.P w)(am:∀b∈b'.fp,b∉fp)(h:cW w rb ⟨U,0⟩ fp):
  ai Y LM #[.agg #[.pointer (some (ab rb)),.i ((U.length:Nat):Int)]] w (l5 w rb fp (AE U)):=by
 have bad:∀{w':J} {st:RS} {L D:List En} (aJ aa:Sl),gI U=none->LH (·∈fp) w w' (.fa rb st fp::L) D->l5 w rb fp (AE U) (ae (.tuple #[.agg #[aJ.v,aa.v],.bool false])) w':=
  λm t N E=>⟨.all [],_,.inr ⟨N,m,t,rfl⟩,λq d=>(by cases d),λb e=>(by obtain⟨q,d,_⟩:=cO.1 e;cases d),E.get 0,E.fr⟩
 obtain⟨B,M⟩:∃B,B=(a3 ⟨U,0⟩).1:=⟨_,rfl⟩;obtain⟨V,O⟩:∃aa,aa=(a3 ⟨U,0⟩).2:=⟨_,rfl⟩;have s0:V.U.length<=U.length:=by rw[O];exact(kj ⟨U,0⟩).2
 refine vZ.aB _ _ w _ ((CC (D:=[b']) h (λq d=>by rw[bT.1 d];exact⟨hk,am⟩)).aG λb1 w1 H1=>H1.aG λb2 w2 H2=>H2.rm 0 rfl (λF=>kg F) λw3 Q=>⟨_,rfl,?_⟩);rw[<-M];rw[<-O]at Q;refine aF (λK=>Q.ah (λw4 H=>bad ⟨none,0,0⟩ ⟨none,0,0⟩ (N6 (.inl (by omega))) H) (by simp)) λK=>aF (λh2=>Q.ah (λw4 H=>bad ⟨none,0,0⟩ ⟨none,0,0⟩ (N6 (.inr (by omega))) H) (by simp)) λh2=>Q.aG λb3 w4 H=>?_;have eN:B=((B.toNat:Nat):Int):=by omega
 have loop:∀(k i:Nat) (aJ:Sl) (ls:List Lx) (x:RS) (v:J),i+k=B.toNat->ls.length=i->x.U.length<=U.length->fS B.toNat V=((fS k x).1.map (ls.map Lx.p++·),(fS k x).2)->
   LH (·∈fp) w v [.fa rb x fp,.g b1,.g b2,.g b3,.row g9 4 aJ ((ls.map Lx.m).flatMap Lm.cs)] [b',.all (ls.map ej)]->(∀b∈(En.all (ls.map ej)).fp,w.heap.size<=b)->
   vZ.cm b1 (some (ab rb)) ((U.length:Nat):Int) b2 ⟨none,0,0⟩ ⟨none,0,0⟩ b3 aJ ⟨none,0,0⟩ B (i:Int) v (l5 w rb fp (AE U)):=by
  intro k;induction k with
  |zero=>
   intro i aJ ls x v hi hd e d E N;have ak:(fS (a3 ⟨U,0⟩).1.toNat (a3 ⟨U,0⟩).2).1=some (ls.map Lx.p):=by rw[<-M,<-O,d];show some (ls.map Lx.p++[])=_;rw[eP]
   have al:mu U=x:=by unfold mu;rw[<-M,<-O,d];rfl
   have C:=YP (by rw[<-M];omega) ak;rw[al]at C;refine vZ.dB _ _ _ _ _ _ _ _ _ _ _ _ _ (aZ (aW (by omega)) (E.wi 0 rfl (λF=>NV (by omega) F) ?_));rintro _ q ay w5 ⟨rfl,s,ds,rfl,T,rfl⟩ I hf;refine⟨_,_,rfl,?_⟩;cases ac:(dW U.length x).1 with
   |none=>
    rw[ac]at C;exact aZ rfl (I.ah λad G=>bad _ _ C G)
   |some ss=>
    rw[ac]at C T;dsimp only at C;have T:bA ds=ss:=T;refine a1 rfl (I.ah λad G=>G.aw (D5 (G.get 0)) ?_);rintro _ W rfl Z;refine⟨_,rfl,Z.ah λag z=>?_⟩;by_cases d:hU (dW U.length x).2=0
    .rw [aq d]at C;rw[d];have ar:aK ag g9 4 aJ ((ls.map Lx.m).flatMap Lm.cs):=z.get 4;have ao:(En.all (ls.map ej)).P ag:=z.getD 1;refine⟨jD aJ s ls ds,_,.inl ⟨_,aJ,s,ls,ds,C,rfl,?_,rfl⟩,?_,λb e=>?_,z.get 0,z.fr⟩
     .unfold dy;rw[T]
     .intro q y;simp only[au,aO,aR]at y;rcases y with rfl|rfl
      .intro q y;rcases au.1 y with rfl|y
       .exact aK.bd ar
       .exact ao q y
      .exact z.getD 2
     .obtain ⟨q,y,e⟩:=cO.1 e;simp only[au,aO,aR]at y;rcases y with rfl|rfl
      .obtain ⟨q,y,e⟩:=cO.1 e;rcases au.1 y with rfl|y
       .exact qV (λb e=>(z.new _ (aD (i:=4) rfl) b e).elim id (λh=>absurd (aM.2 h) (mf z.nd (i:=4) rfl (j:=0) rfl (by decide) b e))) b e
       .exact N b (cO.2 ⟨q,y,e⟩)
      .exact a6 E.fr.size (hf b e)
    .rw [af d]at C;have:(hU (dW U.length x).2==0)=false:=by simpa using d
     rw[this];exact bad _ _ C z
  |succ k ih=>
   intro i aJ ls x v hi hd e d E N;obtain⟨q1,q2⟩:=Ze x;have an:=(E.get 4:aK _ _ _ _ _).len;rw[Lm.len,tg]at an;refine vZ.dB _ _ _ _ _ _ _ _ _ _ _ _ _ (a1 (aS (by omega)) (E.lQ 0 rfl (λF=>D6 F) λt w5 I ht=>⟨_,rfl,gN ((NU (show Bytes w5 t (bX x).1 from I.getD 2) (by omega)).mono ?_)⟩));rintro _ w6 ⟨av,aj,rfl,ax,f,nf⟩;have S:=I.push (.fa av ⟨(bX x).1,0⟩ aj) f ax (λb e=>nf b (aM.1 e));refine⟨f,_,_,rfl,S.wi 5 rfl (λF=>YA (by omega) (S.getD 0) (λb e hm=>S.dj b' (by simp) b e _ (aD (i:=5) rfl) (aM.2 hm)) F) ?_⟩;rintro _ q st w7 hq H7 hf;rcases hq with⟨p,A,K,rfl,hp,rfl⟩|⟨K,m,rfl⟩
   .rw [y8 K]at d;refine⟨_,_,_,_,_,rfl,H7.aG λb4 w8 H8=>aZ rfl (H8.ah λw9 H9=>H9.h7 4 HK rfl (λs' ad G=>G.ah λW Z=>?_) (by omega))⟩;rw[bb _ (by omega)];have ec:(ls.map Lx.m).flatMap Lm.cs++Lm.cs A.m=((ls++[A]).map Lx.m).flatMap Lm.cs:=by simp
    have z:LH (·∈fp) w W [.fa rb (bX x).2 fp,.g b1,.g b2,.g b3,.row g9 4 s' ((ls.map Lx.m).flatMap Lm.cs++Lm.cs A.m)] ([b',.all (ls.map ej),.rd t ((bX x).1.map bD)]++[ej A]):=Z.take 5;rw[ec]at z;refine ih (i+1) s' (ls++[A]) (bX x).2 W (by omega) (by simp[hd]) (by omega) ?_ (z.lH _ λq d=>?_) λb e=>?_
    .rw [d];refine Prod.ext ?_ rfl;show((fS k (bX x).2).1.map (p::·)).map _=_;rw[Option.map_map,<-hp];congr 1;funext l;simp
    .simp only[au,aO,aR]at d;rcases d with rfl|rfl
     .exact ⟨λh=>h b' (by simp),λb e=>⟨b',by simp,e⟩⟩
     .refine ⟨λh q d=>?_,λb e=>?_⟩
      .rw [hv,aY]at d;rcases d with d|d
       .exact (h (.all (ls.map ej)) (by simp):(En.all (ls.map ej)).P W) q d
       .have d:q=ej A:=by simpa using d
        rw[d];exact h (ej A) (by simp)
      .obtain ⟨q,d,e⟩:=cO.1 e;rw[hv,aY]at d;rcases d with d|d
       .exact ⟨.all (ls.map ej),by simp,cO.2 ⟨q,d,e⟩⟩
       .have d:q=ej A:=by simpa using d
        rw[d]at e;exact⟨ej A,by simp,e⟩
    .obtain ⟨q,d,e⟩:=cO.1 e;rw[hv,aY]at d;rcases d with d|d
     .exact N b (cO.2 ⟨q,d,e⟩)
     .have d:q=ej A:=by simpa using d
      rw[d]at e;exact a6 S.fr.size (hf b e)
   .have ap:gI U=none:=YQ (by rw[<-M,<-O,d,D9 K];rfl);exact⟨_,_,_,_,_,rfl,H7.aG λb4 w8 H8=>a1 rfl (H8.ah λw9 H9=>bad ⟨none,0,0⟩ ⟨none,0,0⟩ ap H9)⟩
 rw[eN];rw[<-eN];exact loop B.toNat 0 ⟨none,0,0⟩ [] V w4 (by omega) rfl s0 (Prod.ext (by show _=(fS B.toNat V).1.map ([]++·);simp) rfl) (((H.hR g9 4)).lH _ λq d=>by
  simp only[List.map_nil,au,aO,aR]at d;rcases d with rfl|rfl
  .exact ⟨λh=>h b' (by simp),λb e=>⟨b',by simp,e⟩⟩
  .exact ⟨λ_ q d=>(by cases d),λb e=>(by obtain⟨q,d,_⟩:=cO.1 e;cases d)⟩) (λb e=>(by obtain⟨q,d,_⟩:=cO.1 e;cases d))
def W4{l:List Lp}{x:Lp}(h:x∈l):(de x).length<=(eY l).length:=by
 induction l with
 |nil=>cases h
 |cons y l d=>
  have g:=nT (de y);have e:(eY (y::l)).length=(df (de y)).length+(eY l).length:=by show(df (de y)++eY l).length=_;rw[bc]
  rcases au.1 h with rfl|h
  .omega
  .have:=d h;omega
def YL{p:Pp}{x:Lp}(h:x∈p.ls):(de x).length<=(ez p).length:=by have:=W4 h;unfold ez;simp only[bc];omega
def uw.w{n:Nat}{ls:List Lx}{ds:List Sp}(h:uw n (dy ls ds))(D:n<=100000):ux ls ds:=by
 have C:(bA ds).length<=n:=h.m;have y:(ls.map Lx.p).length<=4096:=h.k;have B:=h.b;rw[tg]at C y;have z:∀d∈ds,oN n d.x:=λd e=>h.s d.x (bZ.2 ⟨d,e,rfl⟩);refine⟨y,λq E=>?_,by omega,λd e=>?_,λd e=>(z d e).i,by omega⟩
 .have A:q.p∈(dy ls ds).ls:=bZ.2 ⟨q,E,rfl⟩;exact(h.l q.p A).XE D (a6 (YL A) B)
 .have j:=z d e;exact⟨by have:=j.p;omega,by have:=j.l;omega,by have:=j.h;omega⟩
def F3(w:J)(p:Pp)(E:Int)(r:ch)(w':J):Prop:=∃(aJ st:Sl) (ls:List Lx) (ds:List Sp),r=ae (.tuple #[.agg #[aJ.v,st.v],.i E])/\dy ls ds=p/\(jD aJ st ls ds).P w'/\∀b∈(jD aJ st ls ds).fp,w.heap.size<=b
def ke{w:J}{aJ st:Sl}{ls:List Lx}{ds:List Sp}(h:(jD aJ st ls ds).P w):kB w aJ ls/\f' w st ds:=⟨jA.1 (h (kO aJ ls) (by simp)),dX.1 (h (.sp st ds) (by simp))⟩
def N1(w:J):(jD ⟨none,0,0⟩ ⟨none,0,0⟩ [] []).P w/\∀b∈(jD ⟨none,0,0⟩ ⟨none,0,0⟩ [] []).fp,w.heap.size<=b:=by
 refine⟨λh d=>?_,λb e=>?_⟩
 .simp only[au,aO,aR]at d;rcases d with rfl|rfl
  .intro h d;rw[bT.1 d];exact bx.nil 4 _
  .intro h d;rw[bT.1 d];exact bx.nil 7 _
 .obtain ⟨h,d,e⟩:=cO.1 e;simp only[au,aO,aR]at d;rcases d with rfl|rfl
  .obtain ⟨h,d,e⟩:=cO.1 e;rw[bT.1 d]at e;cases e
  .obtain ⟨h,d,e⟩:=cO.1 e;rw[bT.1 d]at e;cases e
def NQ{w:J}{s:Sl}{U:List UInt8}(h:Bytes w s U)(C:U.length<=100000)(V:b'.P w):ai Y Lz #[s.v] w λr w'=>F3 w (jE U).1 (jE U).2 r w'/\ag w w':=by
 have bad:∀{w':J},jE U=(.e,2)->ag w w'->F3 w (jE U).1 (jE U).2 (ae (.tuple #[.agg #[(⟨none,0,0⟩:Sl).v,(⟨none,0,0⟩:Sl).v],.i 2])) w'/\ag w w':=λ{w'} A f=>by rw[A];exact⟨⟨⟨none,0,0⟩,⟨none,0,0⟩,[],[],rfl,rfl,(N1 w').1,(N1 w).2⟩,f⟩
 refine N9.aB _ w _ ((bI (w:=w) [.rd s (U.map bD),b'] (by
  intro A K;simp only[au,aO,aR]at K;rcases K with rfl|rfl
  .exact h
  .exact V)).aG λb1 w1 F=>gN ((NU (show Bytes w1 s U from F.getD 0) C).mono ?_))
 rintro _ w2 ⟨rb,S,rfl,aa,f,nf⟩;have y:=F.push (.fa rb ⟨U,0⟩ S) f aa (λb x=>nf b (aM.1 x));refine⟨f,_,_,rfl,y.wi 1 rfl (λhr=>YD C (y.getD 1) (λb x Z=>y.dj b' (by simp) b x _ (aD (i:=1) rfl) (aM.2 Z)) hr) ?_⟩;rintro _ A st w3 hq G T;rcases hq with⟨p,E,t,ls,I,q,rfl,D,rfl⟩|⟨q,E,t,rfl⟩
 .refine ⟨_,_,_,rfl,G.aG λQ w4 z=>aZ rfl (z.ah λL j=>?_)⟩;have ok:=N7 (by omega) q;rw[<-D]at ok;have W:=ok.w C;obtain⟨N,O⟩:=ke (show(jD E t ls I).P L from j.getD 2);refine j.aw (Jv W.lk ⟨W.m,W.k⟩ N O (j.getD 1)) ?_;rintro _ w6 rfl H;rw[DT,D];refine⟨_,rfl,di (λB=>?_) λB=>H.ah λM d=>?_⟩
  .exact H.ah (λM d=>bad (N2 q B) d.fr) (by simp)
  .rw [DS q B];exact⟨⟨E,t,ls,I,rfl,D,d.getD 2,λb x=>a6 y.fr.size (T b x)⟩,d.fr⟩
 .exact ⟨_,_,_,rfl,G.aG λQ w4 z=>a1 rfl (z.ah λL j=>j.ah (λM d=>bad (N4 q) d.fr) (by simp))⟩
def A3{w:J}{s t:Sl}{ls:List Lx}{ds:List Sp}(C:∀e∈ls,iA 40 e)(H:mL 40 ds)(E:(ez (dy ls ds)).length<=10000000)(D:ls.length<=4096)(h:kB w s ls)(V:f' w t ds):ai Y Lf #[.agg #[s.v,t.v]] w (hH w (ez (dy ls ds))):=by
 have U:=h.n;have Z:(dy ls ds).ls.length=ls.length:=by simp[dy]
 have y:ez (dy ls ds)=bt (ls.length:Int)++(eY (ls.map Lx.p)++eg (bA ds)):=by unfold ez;rw[Z];rfl
 have I:=E;rw[y]at I;simp only[bc]at I;refine vl.aB _ _ w _ ((bI (w:=w) [kO s ls,.sp t ds] (by
  intro y d;simp only[au,aO,aR]at d;rcases d with rfl|rfl
  .exact jA.2 h
  .exact dX.2 V)).aG λb w1 M=>M.h' (kG ((s.n:Nat):Int) (by constructor<;>omega) w1) λo K _ B T S=>⟨o,rfl,?_⟩)
 have F:LH F0 w K [.g b,.row cD 1 o ((bt ((s.n:Nat):Int)).map bD)] [kO s ls,.sp t ds]:=B.own (.row cD 1 o ((bt ((s.n:Nat):Int)).map bD)) T.2 S;have loop:∀(k i:Nat) (v:J) (o:Sl) (x:List UInt8),i+k=ls.length->x++eY ((ls.drop i).map Lx.p)=bt (ls.length:Int)++eY (ls.map Lx.p)->LH F0 w v [.g b,.row cD 1 o (x.map bD)] [kO s ls,.sp t ds]->
   vl.a2 b s t o (i:Int) v (hH w (ez (dy ls ds))):=by
  intro k;induction k with
  |zero=>
   intro i v o x Q d q;rw[cU (by omega)]at d;have d:x++[]=bt (ls.length:Int)++eY (ls.map Lx.p):=d;rw[eP]at d;have hlen:=congrArg List.length d;rw[bc]at hlen;refine vl.bw _ _ _ _ _ _ _ (aZ (aW (by omega)) (q.lI 1 rfl (by omega) (by omega) (G3 (dX.1 (q.getD 1)) (λO P=>(H.2 O P).en (by omega)) (by have:=H.1;omega)) λs3 L j=>?_));rw[d,cp,<-y]at j;exact⟨s3,rfl,kc (j.get 1),j.fr,λb C=>(j.new _ (aD (i:=1) rfl) b C).resolve_right id⟩
  |succ k ih=>
   intro i v o x Q d q;have G:=jA.1 (q.getD 0);have A:ls[i]? =some (ls[i]'(by omega)):=a4 (by omega);generalize ls[i]'(by omega)=e at A;have D:=aD A;rw[JN A,<-cp]at d;have hlen:=congrArg List.length d;simp only[bc]at hlen;have g1:=nT (de e.p);refine vl.bw _ _ _ _ _ _ _ (a1 (aS (by omega)) ⟨by omega,by omega,G.get A λp _ z=>?_⟩);rw[bH];refine⟨_,_,_,_,z.c0,z.c1,z.c2,z.c3,q.h' (TH (C e D) (G.2 e D)) λu L _ B W E=>⟨u,rfl,?_⟩⟩;have j:=B.rd (.rd u ((de e.p).map bD)) W.rd (gU E);refine j.lI 1 rfl (by omega) (by omega) (xN (show Bytes L u (de e.p)from j.getD 2) (by omega)) λs2 w8 N=>?_;rw[bb _ (by omega)];exact ih (i+1) w8 s2 _ (by omega) d (N.forget _ λy d=>bK [.rd u ((de e.p).map bD)] d)
 rw[U]at F;exact loop ls.length 0 K o _ (by omega) (by rw[List.drop_zero]) F
def TR{w:J}{s t s' x:Sl}{ls e:List Lx}{ds j:List Sp}(H:∀y∈ls,iA 40 y)(K:mL 40 ds)(I:∀y∈e,iA 40 y)(L:mL 40 j)(A:(ez (dy ls ds)).length<=10000000)(M:ls.length<=4096)(d:dy e j=dy ls ds)(h:kB w s ls)(N:f' w t ds)(G:kB w s' e)(O:f' w x j):ai Y Lh #[.agg #[s.v,t.v],.agg #[s'.v,x.v]] w λr T=>r=ae (.bool true)/\ag w T:=by
 have W:e.length=ls.length:=by have:=congrArg (λp:Pp=>p.ls.length) d;simpa[dy]using this
 refine Ip.aB _ _ _ _ w _ ((bI (w:=w) [kO s ls,.sp t ds,kO s' e,.sp x j] (by
  intro V d;simp only[au,aO,aR]at d;rcases d with rfl|rfl|rfl|rfl
  .exact jA.2 h
  .exact dX.2 N
  .exact jA.2 G
  .exact dX.2 O)).aG λb Z D=>D.aG λU w2 E=>E.ah λw3 k=>k.h' (A3 H K A M (jA.1 (k.getD 0)) (dX.1 (k.getD 1))) λu w4 _ C P Q=>⟨u,rfl,?_⟩)
 have q:=C.rd (.rd u ((ez (dy ls ds)).map bD)) P.rd (gU Q);refine q.h' (A3 I L (by rw[d];exact A) (by omega) (jA.1 (q.getD 2)) (dX.1 (q.getD 3))) λS w5 z _ B _=>⟨S,rfl,z.aw (A6 (b:=ez (dy ls ds)) (z.getD 4) (by rw[d]at B;exact B.rd) (by omega)) ?_⟩;rintro _ w6 rfl F;exact⟨_,rfl,rfl,F.fr⟩
namespace w3
open Ay
def IW{pl aJ:Nat}:∀{l:List Sp} {i:Nat},(∀(j:Nat) (d:Sp),l[j]? =some d->jl pl (i+j) aJ d.x)->ot (bA l) (i:Int) (aJ:Int)=0
 |[],_,_=>rfl
 |d::l,i,e=>by
  have g:=e 0 d rfl;rw[Nat.add_zero]at g;have B:gX d.x (i:Int) (aJ:Int)=0:=by
   have y:¬(bl d.x.nm≠[]/\fE (bl d.x.nm)=false):=by
    have:∀t∈sW,¬(bl t≠[]/\fE (bl t)=false):=by decide
    exact this _ g.nm
   rw[EV (by have:=g.kind;omega) g.bY.1 y,aq,af]
   .rintro ⟨q,C⟩;have:=g.node.2 q;omega
   .rw [List.all_eq_true];intro A z;have:=g.hints.1 A z;rw[aS (by omega),aS (by omega)];rfl
  have k:=IW (aJ:=aJ) (l:=l) (i:=i+1) λj h w=>by
   have:=e (j+1) h w
   rwa[show i+(j+1)=i+1+j by omega]at this
  show(if gX d.x (i:Int) (aJ:Int)≠0 then gX d.x (i:Int) (aJ:Int)else ot (bA l) ((i:Int)+1) (aJ:Int))=0;rw[af (by omega)];exact k
def yi:∀{l:List Lx},(∀d∈l,gj d=0)->i3 l=0
 |[],_=>rfl
 |j::l,e=>by rw[yj (e j (by simp))];exact yi λd h=>e d (by simp[h])
def aau{d:Sp}(h:iD 40 d.x):(dP d.x).length<=1400:=by have e:=cR _ h.k.1;have j:=cR _ h.k.2.1;have q:=cR _ h.k.2.2;have w:=kL _ h.p.2;have y:=kL _ h.l.2;have z:=kL _ h.h.2;have A:=h.p.1;have B:=h.l.1;have C:=h.h.1;have D:=h.t;have E:=ei d.x.params.length (by omega);have F:=ei d.x.bY.length (by omega);have G:=ei d.x.hints.length (by omega);have H:=ei (bl d.x.nm).length (by rw[dH];omega);have I:=dH d.x.nm;unfold dP cH df;simp only[bc];omega
def Wc{w:List Lx}{ds:List Sp}(y:∀d∈w,iA 40 d)(z:w.length<=2/\∀d∈w,rH d)(B:mL 40 ds)(S:ds.length<=7)(A:∀i q,ds[i]? =some q->jl 2 i w.length q.x):
  ux w ds/\(ez (dy w ds)).length<=80000/\gI (ez (dy w ds))=some (dy w ds)/\lK w (bA ds)=0:=by
 have H:(dy w ds).ls.length=w.length:=by simp[dy]
 have I:lK w (bA ds)=0:=by unfold lK;rw[yi λd j=>(z.2 d j).e,af (λj=>j rfl)];exact IW (i:=0) λQ q j=>by rw[Nat.zero_add];exact A Q q j
 have K:∀l:List Lx,(∀d∈l,iA 40 d)->(∀d∈l,rH d)->(eY (l.map Lx.p)).length<=30010 *l.length:=λl=>by
  induction l with
  |nil=>intro _ _;exact bm _
  |cons d l D=>
   intro y A;have a:=(Cd (y d (by simp)) (A d (by simp))).2.1;have b:=D (λE C=>y E (by simp[C])) λE C=>A E (by simp[C]);have c:=ei (de d.p).length (by omega);show(df (de d.p)++eY (l.map Lx.p)).length<=_;unfold df;simp only[bc,dE];omega
 have L:∀l:List Sp,(∀q∈l,iD 40 q.x)->((bA l).flatMap dP).length<=1400 *l.length:=λl=>by
  induction l with
  |nil=>intro _;exact bm _
  |cons q l D=>
   intro j;have a:=aau (j q (by simp));have b:=D λF O=>j F (by simp[O]);show(dP q.x++(bA l).flatMap dP).length<=_;simp only[bc,dE];omega
 have hlen:(ez (dy w ds)).length<=80000:=by have a:=K w y z.2;have b:=L ds B.2;have c:=cR (w.length:Int) (by constructor<;>omega);have F:=cR (((bA ds).length:Nat):Int) (by simp;omega);have U:=z.1;unfold ez;rw[H];show(bt (w.length:Int)++(eY (w.map Lx.p)++(bt (((bA ds).length:Nat):Int)++(bA ds).flatMap dP))).length<=80000;simp only[bc];omega
 have G:∀q∈ds,l6 q.x:=λq M=>by have a:=B.2 q M;exact⟨a.k,a.p.2,a.l.2,a.h.2⟩
 refine⟨⟨by omega,λd j=>(Cd (y d j) (z.2 d j)).2.2,by omega,λq j=>((B.2 q j).le (by omega:40<=100)).Qk,G,by omega⟩,hlen,YO (λT P=>?_) (by rw[H];omega) (λs j=>?_) (by omega),I⟩
 .obtain ⟨d,j,rfl⟩:=bZ.1 P;exact(Cd (y d j) (z.2 d j)).1
 .obtain ⟨q,N,rfl⟩:=bZ.1 j;exact G q N
def XC{n:Nat}{x y:Lx}(e:x.p=y.p)(h:iA n y):iA n x:=by
 have j:xs x.gl=xs y.gl:=congrArg Lp.g e;have z:x.hy=y.hy:=congrArg Lp.hy e;have w:x.cl=y.cl:=congrArg Lp.cl e;have k:bA x.ds=bA y.ds:=congrArg Lp.ss e;have E:=congrArg List.length j;have D:=congrArg List.length k;simp[xs]at E D;refine⟨⟨by have:=h.g.1;omega,by rw[j];exact h.g.2⟩,by rw[z];exact h.h,by rw[w];exact h.c,⟨by have:=h.s.1;omega,λd C=>?_⟩⟩;have:d.x∈bA y.ds:=by rw[<-k];exact bZ.2 ⟨d,C,rfl⟩
 obtain⟨q,A,B⟩:=bZ.1 this;rw[<-B];exact h.s.2 q A
def YK:uw 100000 Pp.e:=by refine⟨λj d=>(by cases d),λs d=>(by cases d),dv _,dv _,?_⟩;have h:=cR 0 ⟨by decide,by decide⟩;show(bt 0++([]++(bt 0++[]))).length<=1000000;simp only[bc,gS];omega
def YM{U:List UInt8}(e:U.length<=100000):uw 100000 (jE U).1:=by
 rcases N3 U with⟨p,j,_,q⟩|h
 .rw [q];have d:=N7 (by omega) j;exact⟨λy x=>(d.l y x).le e,λs w=>(d.s s w).le e,a6 d.m e,d.k,d.b⟩
 .rw [h];exact YK
end w3
namespace w3
open Ay
section
variable {w:J}
open xV in
def Xt(D:List En)(Z:b'∈D)(tr:Sl)(lt:List (Sl×List UInt8))(ac:∀p∈lt,p.2.length<=100000)(ht:lt.length=4)(C:p9 tr lt∈D)(hv:jv∈D)(ad:jk∈D):
  ∀(d n:Nat) (H:J),n+d=4->LH F0 w H [] D->g1 tr (n:Int) H (uf w):=by
 intro d;induction d with
 |zero=>
  intro n H hn h;refine jT _ _ _ _ (aZ (aW (by omega)) (h.uP (Uf (h.rd _ hv) (h.rd _ ad)) ?_));rintro _ w5 rfl j _;exact⟨_,rfl,rfl,j.fr⟩
 |succ d ih=>
  intro n H hn h;have nr:=(Fa (h.rd _ C)).1;simp only[tg]at nr;have A:lt[n]? =some (lt[n]'(by omega)):=a4 (by omega);have B:=ac _ (aD A);generalize lt[n]'(by omega)=p at A B;obtain⟨s,b⟩:=p;have B:b.length<=100000:=B;have aa:(lt.map λp=>p.1.v)[n]? =some s.v:=by rw[hr,A];rfl
  have next:∀{F:J} {L E:List En},LH F0 w F L (D++E)->fK tr (n:Int) F (uf w):=λ{F} {L} {E} q=>by show g1 _ _ _ _;rw[bb _ (by omega)];exact ih (n+1) F (by omega) ((q.take 0).forget _ λU z=>bK _ z)
  refine jT _ _ _ _ (a1 (aS (by omega)) ⟨by omega,by omega,(Fa (h.rd _ C)).get aa rfl λp hp K=>⟨_,K,h.uP (NQ (Rn (h.rd _ C) A) B (h.rd _ Z)) ?_⟩⟩);rintro _ w2 ⟨x,y,ls,k,rfl,M,N,ae⟩ _ F2;have H2:=F2.rd (jD x y ls k) N ae;have k1:=YM B;rw[<-M]at k1;refine⟨_,_,_,rfl,H2.aG λb2 w3 H3=>H3.ah λF q=>q.iZ (NR (k1.w (bm _)) (ke (q.rd (jD x y ls k) (by simp))).1 (ke (q.rd (jD x y ls k) (by simp))).2 (q.rd b' (by simp[Z]))) ?_⟩;rintro _ w5 ⟨t,rfl,I,_⟩ _ P;rw[DT,M]at I ⊢;refine⟨_,_,rfl,?_⟩;rcases N3 b with⟨p',h1,V,h3⟩|G
  .rw [h3]at I ⊢;obtain⟨O,nb⟩:=I V;rw[N5 h1]at O;have j:=P.rd (.rd t (b.map W.bD)) O.rd (gU nb);dsimp only;rw[V];refine aZ rfl (a1 rfl (aZ rfl ⟨by omega,by omega,(Fa (j.rd (p9 tr lt) (by simp[C]))).get aa rfl λp hp K=>⟨_,K,j.aw (A6 O.rd (Rn (j.rd (p9 tr lt) (by simp[C])) A) (by omega)) ?_⟩⟩));rintro _ w6 rfl Q;exact⟨_,rfl,aZ rfl (next (E:=[jD x y ls k,.rd t (b.map W.bD)]) (by rw[cp]at Q;exact Q))⟩
  .have ab:dy ls k=Pp.e:=by rw[M,G]
   have j:=P.rd (.all []) (λU z=>(by cases z)) (λb G=>(by obtain⟨U,z,_⟩:=cO.1 G;cases z));have l0:x.n=0/\y.n=0:=by
    have S:=(ke N).1.n;have T:=(ke N).2.n;have n1:(dy ls k).ls.length=0:=by rw[ab];rfl
    have n2:(dy ls k).ss.length=0:=by rw[ab];rfl
    simp[dy]at n1 n2;rw[n1]at S;rw[n2]at T;exact⟨S,T⟩
   rw[G];refine a1 rfl (aZ rfl (aZ (by rw[l0.1,l0.2];decide) (aZ rfl (next (E:=[jD x y ls k,.all []]) (by rw[cp]at j;exact j)))))
open xV in
def fin{w':J}{L D:List En}{h f x z:Sl}{E B X Z:List UInt8}(H:LH F0 w w' L D)(M:b'∈D)(d:En.rd h (E.map W.bD)∈D)(K:En.by f B∈L)(Q:En.by x X∈L)(S:En.by z Z∈L)(lE:E.length<=100000)(T:B.length<=100000)(U:X.length<=100000)(V:Z.length<=100000)(k:Nat)(N:k<=E.length)(O:jv∈D)(P:jk∈D):
  c9 w' (.cells #[x.v,.slice (if h.c=0 then h.a else h.a.map (·.add (0 *1))) ((aV (k:Int)) - 0) (h.c - 0),f.v,z.v] c') λA=>bM ⟨some (nb w'),4,4⟩ A (uf w):=by
 rw[bH];refine H.cN (e:=c') (sz:=1) (n:=4) (cs:=[x.v,(sub h 0 k).v,f.v,z.v]) rfl (by decide) λA j=>?_;have I:=Bytes.sub (show Bytes A h E from j.rd _ d) 0 k (dv _) N;rw[List.drop_zero]at I;obtain⟨lt,C⟩:∃lt:List (Sl×List UInt8),lt=[(x,X),(sub h 0 k,E.take k),(f,B),(z,Z)]:=⟨_,rfl⟩;obtain⟨tr,G⟩:∃tr:Sl,tr=⟨some (ab w'.heap.size),4,4⟩:=⟨_,rfl⟩;have HT:LH F0 w A [] (D++[p9 tr lt]):=by
  refine⟨j.fr,λq d=>(by cases d),λq y=>?_,λq d=>(by cases d),(by simp),λaa hd b ac q d=>(by cases d)⟩;rcases aY.1 y with y|y
  .exact j.rd q y
  .rw [bT.1 y,C,G];intro q d;simp only[List.map_cons,List.map_nil,au,aO,aR]at d;rcases d with rfl|rfl|rfl|rfl|rfl
   .exact aK.jd (j.own (.row c' 1 ⟨some (ab w'.heap.size),4,4⟩ _) (by simp))
   .exact A0 (j.own (.by x X) (by simp[Q]))
   .exact I
   .exact A0 (j.own (.by f B) (by simp[K]))
   .exact A0 (j.own (.by z Z) (by simp[S]))
 show g1 _ _ _ _;rw[show(⟨some (nb w'),4,4⟩:Sl)=tr from G.symm];refine Xt (D++[p9 tr lt]) (bK _ M) tr lt (λp F=>?_) (by rw[C];rfl) (by simp) (bK _ O) (bK _ P) 4 0 A rfl HT;rw[C]at F;simp only[au,aO,aR]at F;rcases F with rfl|rfl|rfl|rfl
 .exact U
 .simp;omega
 .exact T
 .exact V
open xV in
def law{l0 m1 raw:Sl}{xs ms:List Int}{V:List UInt8}{al c1:Int}(hx:∀Z∈xs,a7 Z)(aU:xs.length<=9223372036854775807)(hy:∀Z∈ms,a7 Z)(aS:ms.length<=9223372036854775807)(hl:bo w l0 xs)(hm:bo w m1 ms)(hr:Bytes w raw V)(ha:a7 al)(hc:0<=c1/\c1<=255)(hk:b'.P w)(d:rE w)(hw:jk.P w):
  ai Y CM #[l0.v,m1.v,.i al,.int .u8 c1,raw.v] w (uf w):=by
 obtain⟨I,rfl⟩:∃I:UInt8,c1=(I.toNat:Int):=⟨UInt8.ofNat c1.toNat,by rw[UInt8.toNat_ofNat'];omega⟩;have af:LH F0 w w [] [b',jv,jk,.rd l0 (xs.map a'),.rd m1 (ms.map a'),.rd raw (V.map W.bD)]:=bI _ (by
  intro A an;simp only[au,aO,aR]at an;rcases an with rfl|rfl|rfl|rfl|rfl|rfl
  .exact hk
  .exact d
  .exact hw
  .exact hl
  .exact hm
  .exact hr)
 refine aB _ _ _ _ _ w _ ((TT hx aU hy aS (cc:=7) (by omega) (by simp) (by simp) af).mono ?_);rintro _ w1 ⟨av,st,ys,G,rfl,H1,yb,_,yg,db,dl,dg⟩;have H2:=(H1.freeze 1 (.bd 7 st (G.flatMap Sp.c)) rfl (aK.bd (H1.get 1)) λb H=>Ec H).freeze 0 (.bd 4 av ((ys.map Lx.m).flatMap Lm.cs)) rfl (aK.bd (H1.get 0)) λb H=>Ec H;have H3:LH F0 w w1 [] [b',jv,jk,jD av st ys G,.rd raw (V.map W.bD)]:=(H2.take 0).lH _ λA an=>by
  simp only[au,aO,aR]at an;rcases an with rfl|rfl|rfl|rfl|rfl
  .exact yQ (by simp)
  .exact yQ (by simp)
  .exact yQ (by simp)
  .refine ⟨λhh A d=>?_,λb H=>?_⟩
   .simp only[au,aO,aR]at d;rcases d with rfl|rfl
    .intro A d;refine hh A ?_;rcases au.1 d with rfl|d
     .simp
     .simp [d]
    .intro A d;rcases au.1 d with rfl|d
     .exact hh _ (by simp)
     .exact (hh (cu G) (by simp):(cu G).P w1) A d
   .obtain ⟨A,d,H⟩:=cO.1 H;simp only[au,aO,aR]at d;rcases d with rfl|rfl
    .obtain ⟨A,d,H⟩:=cO.1 H;refine⟨A,?_,H⟩;rcases au.1 d with rfl|d
     .simp
     .simp [d]
    .obtain ⟨A,d,H⟩:=cO.1 H;rcases au.1 d with rfl|d
     .exact ⟨_,by simp,H⟩
     .exact ⟨cu G,by simp,cO.2 ⟨A,d,H⟩⟩
  .exact yQ (by simp)
 have hd:mL 40 G:=⟨by omega,db⟩;obtain⟨pw,pB,pr,p0⟩:=Wc yb.2 yg hd dl dg;obtain⟨h,eB⟩:∃h,h=ez (dy ys G):=⟨_,rfl⟩;rw[<-eB]at pB pr;have dec:jE h=(dy ys G,0):=DS pr (by rw[<-DT];exact p0);have pos:1<=h.length:=by have:=u5 ((dy ys G).ls.length:Int);rw[eB];unfold ez;simp only[bc];omega
 refine⟨_,_,rfl,H3.aG λb1 w2 G2=>G2.ah λw3 G3=>G3.iZ (NR pw (ke (G3.getD 3)).1 (ke (G3.getD 3)).2 (G3.getD 0)) ?_⟩;rintro _ w4 ⟨s,rfl,h1,_⟩ _ F4;rw[p0]at h1 ⊢;obtain⟨ob,a6⟩:=h1 rfl;rw[<-eB]at ob;have G4:=F4.rd (.rd s (h.map W.bD)) ob.rd (gU a6);refine⟨_,_,rfl,G4.iZ (NQ (show Bytes w4 s h from G4.getD 5) (by omega) (G4.getD 0)) ?_⟩;rw[dec];rintro _ w5 ⟨zl,zs,ax,ao,rfl,hz,a0,a5⟩ _ F5;have hz:dy ax ao=dy ys G:=hz;have G5:=F5.rd (jD zl zs ax ao) a0 a5;refine⟨_,_,_,rfl,G5.aG λb2 w6 G6=>G6.ah λw7 G7=>gN ((D7 (show Bytes w7 s h from G7.getD 5) (by omega)).mono ?_)⟩;rintro _ w8 ⟨rb,fp,rfl,a9,f8,nf⟩;have G8:=G7.push (.fa rb ⟨h,0⟩ fp) f8 a9 (λa8 hq=>nf a8 (aM.1 hq));have nB:=Bytes.len (show Bytes w8 s h from G8.getD 5);refine⟨f8,some (ab rb),rfl,aZ rfl (aZ rfl (aZ (by simp;omega) (aZ rfl (G8.ah λw9 G9=>G9.rm 2 rfl (λhr=>kg hr) λbh aj=>⟨_,rfl,?_⟩))))⟩;have e1:(a3 ⟨h,0⟩).1=((av.n:Nat):Int):=by rw[(ke (aj.getD 3)).1.n,eB];unfold ez;rw[kh _ (by simp[dy];omega)];simp[dy]
 have bg:∀Z∈ax,iA 40 Z:=λZ aW=>by
  have:Z.p∈(dy ys G).ls:=by rw[<-hz];exact bZ.2 ⟨Z,aW,rfl⟩
  obtain⟨z,aX,aY⟩:=bZ.1 this;exact XC aY.symm (yb.2 z aX)
 have aP:mL 40 ao:=by
  have A:=congrArg Pp.ss hz;have A:bA ao=bA G:=A;refine⟨by have:=congrArg List.length A;simp at this;omega,λaI aQ=>?_⟩;have:aI.x∈bA G:=by rw[<-A];exact bZ.2 ⟨aI,aQ,rfl⟩
  obtain⟨d0,h2,h3⟩:=bZ.1 this;rw[<-h3];exact db d0 h2
 refine aZ (by rw[e1];simp) (aj.h' (A3 yb.2 hd (by rw[<-eB];omega) (by omega) (ke (aj.getD 3)).1 (ke (aj.getD 3)).2) λt ba _ aL ht nt=>⟨t,rfl,?_⟩);rw[<-eB]at ht;have ap:=aL.rd (.rd t (h.map W.bD)) ht.rd (gU nt);refine ap.aw (A6 (show Bytes ba s h from ap.getD 5) ht.rd (by omega)) ?_;rintro _ bi rfl ad;refine⟨_,rfl,aZ rfl (ad.aw (TR yb.2 hd bg aP (by rw[<-eB];omega) (by omega) hz (ke (ad.getD 3)).1 (ke (ad.getD 3)).2 (ke (ad.getD 6)).1 (ke (ad.getD 6)).2) ?_)⟩;rintro _ bb rfl aA;refine⟨_,rfl,aZ rfl (aA.aw (i5 al ((s.n:Nat):Int) bb (by omega) ha) ?_)⟩;have aT:=iY al ((s.n:Nat):Int) (by omega);generalize gz al ((s.n:Nat):Int)=z0 at aT;obtain⟨k,rfl⟩:∃k:Nat,z0=(k:Int):=⟨z0.toNat,by omega⟩;rintro _ ay rfl aC;obtain⟨y,ag⟩:∃y:List En,y=[b',jv,jk,.rd raw (V.map W.bD),.rd s (h.map W.bD)]:=⟨_,rfl⟩;have aD:LH F0 w ay [.g b1,.g b2] y:=(aC.take 2).forget _ λA d=>by rw[ag]at d;simp only[au,aO,aR]at d;rcases d with rfl|rfl|rfl|rfl|rfl<;>simp
 clear af H2 H3 G2 G3 G4 G5 G6 G7 G8 G9 aj ap ad aA aC;have mk:b'∈y:=by simp[ag]
 have mv:jv∈y:=by simp[ag]
 have mw:jk∈y:=by simp[ag]
 have mr:En.rd raw (V.map W.bD)∈y:=by simp[ag]
 have me:En.rd s (h.map W.bD)∈y:=by simp[ag]
 have cE:s.n<=s.c:=(show Bytes ay s h from aD.rd _ me).2.1;have M:∀{w':J} {L:List En},LH F0 w w' L y->Bytes w' s h:=λaf=>af.rd _ me;have N:([]:List UInt8).length+h.length<=100000000000000:=by simp only[gS];omega
 have U:h.length+[I].length<=100000000000000:=by simp only[List.length_singleton];omega
 refine⟨_,rfl,aD.cN (e:=cD) (sz:=1) (n:=0) (cs:=[]) rfl (by decide) λbj aE=>?_⟩;refine aE.fy 2 (s:=⟨some (ab ay.heap.size),0,0⟩) (l:=[]) (src:=s) rfl (M aE) N λaz bk aF=>?_;have nx:=(kc (aF.get 2)).1;simp only[tg,List.nil_append]at nx;refine⟨by omega,by omega,aar aF 2 k I rfl (by simp;omega) λbf aN=>⟨by omega,by omega,?_⟩⟩;have ar:LH F0 w bf [.g b1,.g b2,.by az (h.set k I)] y:=aN;have lX:(h.set k I).length<=100000:=by rw[y6];omega
 have lZ:(h++[I]).length<=100000:=by simp only[bc,List.length_singleton];omega
 have lF:(V.take 30).length<=100000:=by rw[gJ];omega
 have am:∀{w':J} {L:List En} {K:aH},LH F0 w w' L y->(∀t F,LH F0 w F (L++[.by t (V.take 30)]) y->K (ae t.v) F)->ee [b1,b2] Y CN #[raw.v,.i 30] w' K:=λH' hK=>H'.h' (Vz (H'.rd _ mr) 30 (by omega)) λt F _ aJ ht nt=>hK t F (aJ.own (.by t _) ht.2 nt);have ak:∀{w':J} {L:List En} {K:J->Prop},LH F0 w w' L y->(∀F,LH F0 w F (L++[.by ⟨some (ab w'.heap.size),0,0⟩ []]) y->K F)->c9 w' (.cells #[] cD) K:=λH' hK=>H'.cN (e:=cD) (sz:=1) (n:=0) (cs:=[]) rfl (by decide) λF aq=>hK F aq;have aa:∀{w':J} {L:List En} {K:J->Prop},LH F0 w w' L y->(∀F,LH F0 w F (L++[.by ⟨some (ab w'.heap.size),1,1⟩ [I]]) y->K F)->c9 w' (.cells #[.int .u8 (I.toNat:Int)] cD) K:=λH' hK=>H'.cN (e:=cD) (sz:=1) (n:=1) (cs:=[W.bD I]) rfl (by decide) λF aq=>hK F aq;have T:∀{w':J} {L:List En} (f z:Sl),LH F0 w w' L y->En.by f (V.take 30)∈L->En.by az (h.set k I)∈L->En.by z (h++[I])∈L->
   c9 w' (.cells #[az.v,.slice (if s.c=0 then s.a else s.a.map (·.add (0 *1))) ((aV (k:Int)) - 0) (s.c - 0),f.v,z.v] c') λbe=>bM ⟨some (nb w'),4,4⟩ be (uf w):=λf z af a1 a2 a4=>fin (E:=h) af mk me a1 a2 a4 (by omega) lF lX lZ k (by omega) mv mw
 refine⟨ar.ah λu1 J1=>am J1 λf u2 S=>⟨f,rfl,ak S λO B=>⟨?_,aa B λQ q=>?_⟩,aa S λO B=>ak B λQ q=>?_⟩,ar.ah λu1 J1=>ak J1 λu2 S=>⟨am S λf O B=>⟨f,rfl,?_,aa B λQ q=>?_⟩,aa S λO B=>am B λf Q q=>⟨f,rfl,?_⟩⟩,ar.ah λu1 J1=>aa J1 λu2 S=>⟨am S λf O B=>⟨f,rfl,ak B λQ q=>?_⟩,ak S λO B=>am B λf Q q=>⟨f,rfl,?_⟩⟩⟩
 .refine B.fy 4 (s:=⟨some (ab u2.heap.size),0,0⟩) (l:=[]) (src:=s) rfl (M B) N λD Q q=>aa q λac j=>?_;refine j.fy 4 (s:=D) (src:=⟨some (ab Q.heap.size),1,1⟩) rfl (kc (j.get 5)).rd U λz u6 C=>?_;exact T f z C (by simp) (by simp) (by simp)
 .refine q.fy 4 (s:=⟨some (ab u2.heap.size),0,0⟩) (l:=[]) (src:=s) rfl (M q) N λD ac j=>?_;refine j.fy 4 (s:=D) (src:=⟨some (ab O.heap.size),1,1⟩) rfl (kc (j.get 5)).rd U λz u6 C=>?_;exact T f z C (by simp) (by simp) (by simp)
 .refine q.fy 5 (s:=⟨some (ab O.heap.size),0,0⟩) (l:=[]) (src:=s) rfl (M q) N λD ac j=>?_;refine j.fy 5 (s:=D) (src:=⟨some (ab u2.heap.size),1,1⟩) rfl (kc (j.get 4)).rd U λz u6 C=>?_;exact T f z C (by simp) (by simp) (by simp)
 .refine B.fy 3 (s:=⟨some (ab u1.heap.size),0,0⟩) (l:=[]) (src:=s) rfl (M B) N λD Q q=>aa q λac j=>?_;refine j.fy 3 (s:=D) (src:=⟨some (ab Q.heap.size),1,1⟩) rfl (kc (j.get 5)).rd U λz u6 C=>?_;exact T f z C (by simp) (by simp) (by simp)
 .refine q.fy 3 (s:=⟨some (ab u1.heap.size),0,0⟩) (l:=[]) (src:=s) rfl (M q) N λD ac j=>?_;refine j.fy 3 (s:=D) (src:=⟨some (ab O.heap.size),1,1⟩) rfl (kc (j.get 5)).rd U λz u6 C=>?_;exact T f z C (by simp) (by simp) (by simp)
 .refine q.fy 3 (s:=⟨some (ab u1.heap.size),0,0⟩) (l:=[]) (src:=s) rfl (M q) N λD ac j=>?_;refine j.fy 3 (s:=D) (src:=⟨some (ab u2.heap.size),1,1⟩) rfl (kc (j.get 4)).rd U λz u6 C=>?_;exact T f z C (by simp) (by simp) (by simp)
 .refine q.fy 5 (s:=⟨some (ab O.heap.size),0,0⟩) (l:=[]) (src:=s) rfl (M q) N λD ac j=>?_;refine j.fy 5 (s:=D) (src:=⟨some (ab u1.heap.size),1,1⟩) rfl (kc (j.get 3)).rd U λz u6 C=>?_;exact T f z C (by simp) (by simp) (by simp)
 .refine q.fy 4 (s:=⟨some (ab u2.heap.size),0,0⟩) (l:=[]) (src:=s) rfl (M q) N λD ac j=>?_;refine j.fy 4 (s:=D) (src:=⟨some (ab u1.heap.size),1,1⟩) rfl (kc (j.get 3)).rd U λz u6 C=>?_;exact T f z C (by simp) (by simp) (by simp)
end
end w3
def Fw{P:Program}{W:J}{n:String}{g m:Nat}{cs:Array aa}{vs:List aa}(h:P.globalNamed n=some g)(q:W.var? P n=some cs)(e:cs.toList=vs)(k:m=vs.length):Rd W ⟨some (ab g),m,m⟩ vs:=by refine v' k (bm _) (λd=>by cases d) λi v j=>⟨ab g,rfl,?_⟩;rw[show(ab g).add i=⟨g,i,none⟩from Gb g i,World.var?_cell h q i,<-j,<-e,Array.getElem?_toList]
def aaC{P:Program}{w:J}{fuel n:Nat}{t e:TypeId}{cs:List aa}{O:List (List UInt8)}{p:List MemPlace}(F:P.underlying t=some (.array n e))(C:P.underlying e=some .string)(A:P.cellsOf e=1)(I:P.cellsOf t=n)(h:DataW.trod (λ_=>()) P w 0 (λ_=>true) false fuel t cs=some (.agg (O.map λs=>.lit (.string s)),p)):cs=O.map mA:=by
 obtain⟨xs,m,rfl,G,K,M,z⟩:=DataW.trod_array F h;have q:xs.map (·.1)=O.map λs=>(DataW.lit (.string s):DataW Unit):=by have:=congrArg Prod.fst G;simpa using this.symm
 have L:O.length=n:=by have:=congrArg List.length q;simp at this;omega
 apply List.ext_getElem?;intro i;by_cases D:i<n
 .have j:=z i D;obtain⟨b,k⟩:∃b,xs[i]? =some b:=⟨xs[i]'(by omega),a4 (by omega)⟩;rw[k,A,Nat.mul_one]at j;obtain⟨s,B,rfl,_⟩:=DataW.trod_string C j;have y:cs[i]? =some (.string s):=by have:=congrArg (·[0]?) B;simpa[List.getElem?_take,List.getElem?_drop]using this
  have d:(xs.map (·.1))[i]? =some (DataW.lit (.string s.data.toList):DataW Unit):=by simp[k]
  rw[q]at d;simp only[hr,Option.map_eq_some_iff,DataW.lit.injEq,Lit.string.injEq]at d;obtain⟨H,E,x⟩:=d;rw[y,hr,E];show _=some (Value.string (ba H));rw[x];exact congrArg some (congrArg Value.string (l8 s).symm)
 .rw [List.getElem?_eq_none (by omega),List.getElem?_eq_none (by simp;omega)]
def YX{W:J}(h:laidMetH Y [("math/bits.deBruijn32tab",Rows.laid_math_bits_deBruijn32tab),("math/bits.deBruijn64tab",Rows.laid_math_bits_deBruijn64tab),("internal/strconv.uint64pow10",Rows.laid_internal_strconv_uint64pow10),("enthymeme/term.kidCounts",Rows.laid_enthymeme_term_kidCounts),("enthymeme/proof.words",Rows.laid_enthymeme_proof_words)] W):b'.P W/\rE W/\jk.P W:=by
 rw[MakeChecks.laidMetH_plain _ _ _ (by kernel_rfl)]at h;refine⟨?_,⟨?_,trivial⟩,?_⟩
 .obtain ⟨g,t,x,fuel,p,j,k,q,w⟩:=Lib.laidMet.reads h (n:="enthymeme/term.kidCounts") (d:=Lib.tabData .i64 ye) (.tail _ (.tail _ (.tail _ (.head _))));obtain rfl:=fe ((show Tryz.prog.globalNamed "enthymeme/term.kidCounts"=some 1 by kernel_rfl).symm.trans j);obtain rfl:=fe ((show(Tryz.prog.globals[1]?).map (·.type)=some aa6 by kernel_rfl).symm.trans k);exact Fw j q (Lib.cells_of_tab (e:=bN) (n:=35) (by kernel_rfl) (by kernel_rfl) (by kernel_rfl) (by kernel_rfl) w) rfl
 .obtain ⟨g,t,x,fuel,p,j,k,q,w⟩:=Lib.laidMet.reads h (n:="internal/strconv.uint64pow10") (d:=Lib.tabData .u64 y0) (.tail _ (.tail _ (.head _)));obtain rfl:=fe ((show Tryz.prog.globalNamed "internal/strconv.uint64pow10"=some 2 by kernel_rfl).symm.trans j);obtain rfl:=fe ((show(Tryz.prog.globals[2]?).map (·.type)=some aa5 by kernel_rfl).symm.trans k);exact Fw j q (Lib.cells_of_tab (e:=abb) (n:=20) (by kernel_rfl) (by kernel_rfl) (by kernel_rfl) (by kernel_rfl) w) rfl
 .obtain ⟨g,t,x,fuel,p,j,k,q,w⟩:=Lib.laidMet.reads h (n:="enthymeme/proof.words") (d:=.agg (rj.map λs=>.lit (.string s))) (.tail _ (.tail _ (.tail _ (.tail _ (.head _)))));obtain rfl:=fe ((show Tryz.prog.globalNamed "enthymeme/proof.words"=some 0 by kernel_rfl).symm.trans j);obtain rfl:=fe ((show(Tryz.prog.globals[0]?).map (·.type)=some aa7 by kernel_rfl).symm.trans k);exact Fw j q (aaC (e:=fX) (n:=6) (by kernel_rfl) (by kernel_rfl) (by kernel_rfl) (by kernel_rfl) w) rfl
def proofBytes_walk(W:J)(e:laidMetH Y [("math/bits.deBruijn32tab",Rows.laid_math_bits_deBruijn32tab),("math/bits.deBruijn64tab",Rows.laid_math_bits_deBruijn64tab),("internal/strconv.uint64pow10",Rows.laid_internal_strconv_uint64pow10),("enthymeme/term.kidCounts",Rows.laid_enthymeme_term_kidCounts),("enthymeme/proof.words",Rows.laid_enthymeme_proof_words)] W)(ls ms:Sl)(d c1:Int)(raw:Sl)(w0:ArgNums W ls)(B:ArgNums W ms)(C:a7 d)(D:0<=c1/\c1<=255)(E:ArgBytes W raw):
  ai Y CM #[ls.v,ms.v,.i d,.int .u8 c1,raw.v] W λr A=>r=ae (.bool true)/\ag W A:=by obtain⟨j,h,z⟩:=YX e;obtain⟨H,k,F,q⟩:=w0;obtain⟨I,w,G,x⟩:=B;obtain⟨K,y,_⟩:=E;exact w3.law q (by omega) x (by omega) k w y C D j h z
end Go.Proofs.YthhmdddomhknaaaGreatDoor
