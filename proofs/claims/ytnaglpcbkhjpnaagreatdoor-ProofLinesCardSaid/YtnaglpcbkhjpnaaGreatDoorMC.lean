import Derived.Test.YtnaglpcbkhjpnaaGreatDoorVWr
import Derived.Test.YtnaglpcbkhjpnaaGreatDoorPN
import Derived.Lib.LaidTab
import Derived.Lib.LaidU8
import Derived.LaidByTextLater
import Derived.MakeChecks
import Derived.FnData
import Derived.OpenShut
import Derived.Test.YtnaglpcbkhjpnaaGreatDoorRows
set_option linter.unusedVariables false
set_option maxRecDepth 100000
set_option maxHeartbeats 1000000
set_option linter.defProp false
namespace Go.Proofs.YtnaglpcbkhjpnaaGreatDoor
open Go renaming World->J,Calls->aj,Program->aH,Value->aa
open Go.IntKind renaming wrap->ah
open Go.IntWalk renaming i64_in->aN
open _root_.Nat renaming le_refl->bm,le_trans->bz,zero_le->dI
open _root_.Option.some renaming inj->e5
open _root_.Int renaming toNat_natCast->bo
open Go.Proofs.Tryz renaming prog->V
open Go.Ending renaming returned->ae
open List renaming mem_append->aW,mem_cons->aq,not_mem_nil->aL,mem_of_getElem?->aG,getElem?_eq_getElem->a',mem_append_left->bG,mem_append_right->dL,mem_flatMap->bX,mem_map->bK,length_append->a9,length_cons->bI,length_nil->dH,mem_of_mem_take->hP,append_assoc->cN,mem_singleton->bY,length_take->eT,flatMap_append->de,flatMap_cons->cU,length_map->gJ,getElem?_map->ib,append_nil->ed,map_append->ez,map_cons->hn,drop_of_length_le->du,take_of_length_le->eh
open Go Go.W
def ia(aB st:Sl)(ls:List Lx)(ds:List Sp):En:=.all [hN aB ls,.sp st ds]
def mJ{w:J}{aB st:Sl}{ls:List Lx}{ds:List Sp}(h:(ia aB st ls ds).P w):j6 w aB ls/\fB w st ds:=⟨jr.1 (h (hN aB ls) ws),eA.1 (h (.sp st ds) ws)⟩
def R3(w:J):(ia ⟨none,0,0⟩ ⟨none,0,0⟩ [] []).P w/\∀b∈(ia ⟨none,0,0⟩ ⟨none,0,0⟩ [] []).fp,w.heap.size<=b:=by
 refine⟨λe d=>?_,λb h=>?_⟩
 .simp only[aq,aL,aR]at d;rcases d with rfl|rfl
  .intro e d;rw[bY.1 d];exact bL.nil 4 _
  .intro e d;rw[bY.1 d];exact bL.nil 7 _
 .obtain ⟨e,d,h⟩:=cB.1 h;simp only[aq,aL,aR]at d;rcases d with rfl|rfl
  .obtain ⟨e,d,h⟩:=cB.1 h;rw[bY.1 d]at h;cases h
  .obtain ⟨e,d,h⟩:=cB.1 h;rw[bY.1 d]at h;cases h
def Jd{w:J}{s t:Sl}{ls:List Lx}{ds:List Sp}(C:∀j∈ls,hC 40 j)(H:kH 40 ds)(E:(g7 (cF ls ds)).length<=10000000)(D:ls.length<=4096)(h:j6 w s ls)(W:fB w t ds):aj V ON #[.agg #[s.v,t.v]] w (jc w (g7 (cF ls ds))):=by
 have U:=h.n;have Z:(cF ls ds).ls.length=ls.length:=by simp[cF]
 have e:g7 (cF ls ds)=cd (ls.length:Int)++(h7 (ls.map Lx.p)++g' (bx ds)):=by unfold g7;rw[Z];rfl
 have I:=E;rw[e]at I;simp only[a9]at I;refine xz.aD _ _ w _ ((bN (w:=w) [hN s ls,.sp t ds] (by
  intro e d;simp only[aq,aL,aR]at d;rcases d with rfl|rfl
  .exact jr.2 h
  .exact eA.2 W)).aK λb w1 M=>M.jH (lH (s.n:Int) (by constructor<;>omega) w1) λo K _ B T S=>⟨o,rfl,?_⟩)
 have F:LH F0 w K [.g b,.row cJ 1 o ((cd (s.n:Int)).map cq)] [hN s ls,.sp t ds]:=B.own (.row cJ 1 o ((cd (s.n:Int)).map cq)) T.2 S;have loop:∀(k i:Nat) (v:J) (o:Sl) (y:List UInt8),i+k=ls.length->y++h7 ((ls.drop i).map Lx.p)=cd (ls.length:Int)++h7 (ls.map Lx.p)->LH F0 w v [.g b,.row cJ 1 o (y.map cq)] [hN s ls,.sp t ds]->
   xz.a8 b s t o (i:Int) v (jc w (g7 (cF ls ds))):=by
  intro k;induction k with
  |zero=>
   intro i v o y Q d x;rw[du co]at d;have d:y++[]=cd (ls.length:Int)++h7 (ls.map Lx.p):=d;rw[ed]at d;have hlen:=congrArg List.length d;rw[a9]at hlen;refine xz.bJ _ _ _ _ _ _ _ (aP (aV co) (x.mH 1 rfl co co (JM (eA.1 (x.getD 1)) (λO P=>(H.2 O P).en co) (by have:=H.1;omega)) λs3 L q=>?_));rw[d,cN,<-e]at q;exact⟨s3,rfl,qG (q.get 1),q.fr,λb C=>(q.new _ (aG (i:=1) rfl) b C).resolve_right id⟩
  |succ k ih=>
   intro i v o y Q d x;have G:=jr.1 (x.getD 0);have A:ls[i]? =some (ls[i]'co):=a' co;generalize ls[i]'co=j at A;have D:=aG A;rw[abk A,<-cN]at d;have hlen:=congrArg List.length d;simp only[a9]at hlen;have g1:=zZ (e9 j.p);refine xz.bJ _ _ _ _ _ _ _ (aM (aQ co) ⟨co,co,G.get A λp _ z=>?_⟩);rw[bo];refine⟨_,_,_,_,z.c0,z.c1,z.c2,z.c3,x.jH (XO (C j D) (G.2 j D)) λu L _ B Y E=>⟨u,rfl,?_⟩⟩;have q:=B.rd (.rd u ((e9 j.p).map cq)) Y.rd (gq E);refine q.mH 1 rfl co co (zQ (show Bytes L u (e9 j.p)from q.getD 2) co) λs2 w8 N=>?_;rw[bb _ co];exact ih (i+1) w8 s2 _ co d (N.forget _ λe d=>bG [.rd u ((e9 j.p).map cq)] d)
 rw[U]at F;exact loop ls.length 0 K o _ co (by rw[List.drop_zero]) F
def X2{w:J}{s t s' t':Sl}{ls j:List Lx}{ds k:List Sp}(H:∀y∈ls,hC 40 y)(K:kH 40 ds)(I:∀y∈j,hC 40 y)(L:kH 40 k)(A:(g7 (cF ls ds)).length<=10000000)(M:ls.length<=4096)(d:cF j k=cF ls ds)(h:j6 w s ls)(N:fB w t ds)(G:j6 w s' j)(O:fB w t' k):aj V OR #[.agg #[s.v,t.v],.agg #[s'.v,t'.v]] w λr T=>r=ae (.bool true)/\af w T:=by
 have W:j.length=ls.length:=by have:=congrArg (λp:Pp=>p.ls.length) d;simpa[cF]using this
 refine Lb.aD _ _ _ _ w _ ((bN (w:=w) [hN s ls,.sp t ds,hN s' j,.sp t' k] (by
  intro e d;simp only[aq,aL,aR]at d;rcases d with rfl|rfl|rfl|rfl
  .exact jr.2 h
  .exact eA.2 N
  .exact jr.2 G
  .exact eA.2 O)).aK λb Y D=>D.aK λU Z E=>E.ai λw3 q=>q.jH (Jd H K A M (jr.1 (q.getD 0)) (eA.1 (q.getD 1))) λu w4 _ C P Q=>⟨u,rfl,?_⟩)
 have x:=C.rd (.rd u ((g7 (cF ls ds)).map cq)) P.rd (gq Q);refine x.jH (Jd I L (by rw[d];exact A) co (jr.1 (x.getD 2)) (eA.1 (x.getD 3))) λS w5 z _ B _=>⟨S,rfl,z.aA (X1 (b:=g7 (cF ls ds)) (z.getD 4) (by rw[d]at B;exact B.rd) co) ?_⟩;rintro _ w6 rfl F;exact⟨_,rfl,rfl,F.fr⟩
def gB(x:Lp):List UInt8:=[98,101,103,105,110]++32::(cD x.hy++32::(cD x.cl++32::eK (di x.g)))
def fu(x:Lp):List (List UInt8):=gB x::(x.ss.map cM++[[101,110,100]])
def jM(p:Pp):List (List UInt8):=p.ls.flatMap fu++p.ss.map cM
def H9(ss:List bO):cO (ss.map cM)=ss.flatMap eY:=by
 induction ss with
 |nil=>rfl
 |cons s ss d=>
  show(cM s++[10])++cO (ss.map cM)=eY s++ss.flatMap eY;rw[d];rfl
def tg(a b:List (List UInt8)):cO (a++b)=cO a++cO b:=de
def Vy(x:Lp):cO (fu x)=(gB x++[10])++(x.ss.flatMap eY++([101,110,100]++[10])):=by unfold fu;show(gB x++[10])++cO (x.ss.map cM++[[101,110,100]])=_;rw[tg,H9];rfl
section
variable {w:J}
def _root_.Go.W.LH.zH{z:Nat->Prop}{w0 w:J}{G D:List En}{o:Sl}{xs ys:List UInt8}{bs:List Nat}(H:LH z w0 w (G++[ey o xs]) D)(A:∀k∈bs,En.g k∈G){g:FuncId}{args:Array aa}{K:aJ}(B:∀{K':aJ},LH (λb=>∃e∈[ey o xs],b∈e.fp) w w [ey o xs] D->(∀d h,LH (λb=>∃e∈[ey o xs],b∈e.fp) w h [ey d ys] D->K' (ae d.v) h)->aj V g args w K')(C:∀d h,LH z w0 h (G++[ey d ys]) D->K (ae d.v) h):eJ bs V g args w K:=by refine⟨λb=>∃e∈[ey o xs],b∈e.fp,λk x j=>?_,B H.part λd h y=>⟨y.fr,C d h (H.zU y λe q k x=>.inr ⟨e,q,x⟩)⟩⟩;obtain⟨e,q,j⟩:=j;rw[bY.1 q]at j;exact H.Ac (show(G++[ey o xs])[G.length]? =some (.row cJ 1 o (xs.map cq))by simp) (bG _ (A k x)) j
def so{s:Sl}{ls:List Lx}{x:Lx}(j:x∈ls){e:En}(d:e∈[En.gr x.m.g x.gl,.rd x.m.h (x.hy.map aY),.rd x.m.c (x.cl.map aY),.sp x.m.s x.ds]):(∀w,(hN s ls).P w->e.P w)/\∀b∈e.fp,b∈(hN s ls).fp:=
 ⟨λw k=>(k (eb x) (List.mem_cons_of_mem _ (bK.2 ⟨x,j,rfl⟩)):(eb x).P w) e d,λb q=>cB.2 ⟨eb x,List.mem_cons_of_mem _ (bK.2 ⟨x,j,rfl⟩),cB.2 ⟨e,d,q⟩⟩⟩
structure wC(ls:List Lx)(ds:List Sp):Prop where
 l:∀x∈ls,x.ds.length<=100/\∀d∈x.ds,j7 d.x
 h:∀x∈ls,x.hy.length<=1000000/\x.cl.length<=1000000/\(di (xs x.gl)).length<=10000000
 m:ds.length<=100
 d:∀d∈ds,j7 d.x
 t:(cO (jM (cF ls ds))).length<=1000000000
def acT{s t:Sl}{ls:List Lx}{ds:List Sp}(x:rE ls ds)(I:wC ls ds)(h:j6 w s ls)(ht:fB w t ds)(hk:cG.P w)(q:lx w)(hw:eI.P w)(h0:lR ls (bx ds)=0):
  aj V F7 #[.agg #[s.v,t.v]] w λr Z=>r=ae (.tuple #[.string (ba (cO (jM (cF ls ds)))),.i 0])/\af w Z:=by
 have aN:=h.n;have aJ:=x.n;have hv:=M' (ac3 h0);have aE:=I.t;obtain⟨F,hT⟩:∃F,F=cO (jM (cF ls ds)):=⟨_,rfl⟩;rw[<-hT]at aE ⊢;refine sP.aD _ _ w _ ((bN (w:=w) [dT,eI,cG,hN s ls,.sp t ds] (by
  intro e h';simp only[aq,aL,aR]at h';rcases h' with rfl|rfl|rfl|rfl|rfl
  .exact q
  .exact hw
  .exact hk
  .exact jr.2 h
  .exact eA.2 ht)).aK λA w1 L=>L.aA (MS x.lk ⟨x.m,x.k⟩ (jr.1 (L.getD 3)) (eA.1 (L.getD 4)) (L.getD 2)) ?_)
 rintro _ w2 rfl H2;refine⟨_,rfl,dA (λh=>absurd h0 h) (λ_=>?_)⟩;have loop:∀(k i:Nat) (v:J) (o:Sl) (a:List UInt8),i+k=ls.length->a++(cO ((ls.drop i).flatMap λj=>fu j.p)++(bx ds).flatMap eY)=F->LH F0 w v [.g A,ey o a] [dT,eI,cG,hN s ls,.sp t ds]->
   sP.a8 A s t o s (s.n:Int) (i:Int) v λr Z=>r=ae (.tuple #[.string (ba F),.i 0])/\af w Z:=by
  intro k;induction k with
  |zero=>
   intro i v o a hi q K;rw[du co]at q;have q:a++(bx ds).flatMap eY=F:=q;have hlen:=congrArg List.length q;rw[a9]at hlen;refine sP.bJ _ _ _ _ _ _ _ _ _ (aP (aV co) (LH.zH (G:=[.g A]) (ys:=a++(bx ds).flatMap eY) K ws (λy B=>GQ y ws ws ws I.d I.m co B) λs' w3 H3=>⟨_,rfl,_,lD (aF.gK (H3.get 1)),?_,H3.fr⟩));rw[q]
  |succ k ih=>
   intro i v o a hi q K;have au:=jr.1 (K.getD 3);have O:ls[i]? =some (ls[i]'co):=a' co;generalize ls[i]'co=j at O;have D:=aG O;have C:=x.l j D;obtain⟨aB,aC⟩:=I.l j D;obtain⟨ax,ay,az⟩:=I.h j D;have ex:(ls.drop i).flatMap (λj=>fu j.p)=fu j.p++(ls.drop (i+1)).flatMap λj=>fu j.p:=by rw[Ap O];rfl
   rw[ex,tg,Vy]at q;have hlen:=congrArg List.length q;simp only[a9,bI,dH]at hlen;have Y:(cD j.hy).length<=100000000/\(cD j.cl).length<=100000000/\(eK (di (xs j.gl))).length<=100000000:=by have l1:=h8 C.h;have l2:=h8 C.c;have l3:=qu (di (xs j.gl));omega
   refine sP.bJ _ _ _ _ _ _ _ _ _ (aM (aQ co) ⟨co,co,au.get O λp _ N=>?_⟩);rw[bo];have H0:=K.kZ ([dT,eI,cG,hN s ls,.sp t ds]++[.gr j.m.g j.gl,.rd j.m.h (j.hy.map aY),.rd j.m.c (j.cl.map aY),.sp j.m.s j.ds]) λe q=>by
    rcases aW.1 q with q|q
    .exact ⟨λU=>U e q,λb x=>⟨e,q,x⟩⟩
    .exact ⟨λU=>(so D q).1 _ (U (hN s ls) ws),λb x=>⟨hN s ls,ws,(so D q).2 b x⟩⟩
   refine⟨_,_,_,_,N.c0,N.c1,N.c2,N.c3,H0.aK λM w5 H5=>H5.ai λw6 Q=>Q.kc (afk (ct.1 (Q.rd (.gr j.m.g j.gl) ws)) (Q.rd cG ws) (λ_=>C.k.g) C.z) ?_⟩;rintro _ w7 ⟨u,rfl,W⟩ _ aw;obtain⟨W,hf⟩:=W (abg (hv j D));have H7:=aw.rd (.rd u ((di (xs j.gl)).map cq)) W.rd (gq hf);refine⟨_,_,rfl,H7.ai λw8 S=>S.aA (yd (S.rd (.rd j.m.h (j.hy.map aY)) ws) C.h ax (S.rd dT ws)) ?_⟩;rintro _ w9 rfl T;refine⟨_,rfl,T.aA (yd (T.rd (.rd j.m.c (j.cl.map aY)) ws) C.c ay (T.rd dT ws)) ?_⟩;rintro _ aH rfl aa;refine⟨_,rfl,aa.aA (acU (show Bytes aH u (di (xs j.gl))from aa.rd (.rd u ((di (xs j.gl)).map cq)) ws) az) ?_⟩;rintro _ ah rfl al;obtain⟨E,H⟩:∃E:List (List UInt8),E=[[98,101,103,105,110],cD j.hy,cD j.cl,eK (di (xs j.gl))]:=⟨_,rfl⟩;refine⟨_,rfl,al.cZ (e:=cY) (sz:=1) (n:=4) (cs:=[b3 [98,101,103,105,110],b3 (cD j.hy),b3 (cD j.cl),b3 (eK (di (xs j.gl)))]) rfl md λaS ac=>?_⟩;have am:=ac.freeze 3 (.rd ⟨some (ab ah.heap.size),4,4⟩ (E.map b3)) rfl (by rw[H];exact aF.gK (ac.get 3)) λb x=>by rw[H]at x;exact oD x
   have an:=am.perm (L':=[.g A,.g M,ey o a]) (.cons _ (.swap _ _ _));have ej:iE E++[10]=gB j.p++[10]:=by rw[H];rfl
   refine LH.zH (G:=[.g A,.g M]) (ys:=a++(iE E++[10])) an ws (λy B=>GO (t:=⟨some (ab ah.heap.size),4,4⟩) (ps:=E) y ws co (by
    rw[H];intro aO hq;simp only[aq,aL,aR]at hq;rcases hq with rfl|rfl|rfl|rfl
    .decide
    .exact Y.1
    .exact Y.2.1
    .exact Y.2.2) (by rw[H];show 4<=10;omega) B) λo1 aT ad=>⟨_,rfl,?_⟩
   rw[ej]at ad;refine LH.zH (G:=[.g A,.g M]) (ys:=a++(gB j.p++[10])++(bx j.ds).flatMap eY) ad ws (λy B=>GQ y ws ws ws aC aB (by simp only[a9,bI,dH];omega) B) λo2 ak ao=>⟨_,rfl,?_⟩;refine ao.cZ (e:=cY) (sz:=1) (n:=1) (cs:=[b3 [101,110,100]]) rfl md λaU ag=>?_;have ap:=ag.freeze 3 (.rd ⟨some (ab ak.heap.size),1,1⟩ ([[101,110,100]].map b3)) rfl (aF.gK (ag.get 3)) λb x=>oD x;have av:(bx j.ds).flatMap eY=j.p.ss.flatMap eY:=rfl;refine LH.zH (G:=[.g A,.g M]) (ys:=a++(gB j.p++[10])++(bx j.ds).flatMap eY++(iE [[101,110,100]]++[10])) ap ws (λy B=>GO (t:=⟨some (ab ak.heap.size),1,1⟩) (ps:=[[101,110,100]]) y ws (by rw[av];simp only[a9,bI,dH];omega) md md B) λo3 aI ar=>⟨_,rfl,?_⟩;rw[bb _ co];refine ih (i+1) aI o3 (a++(gB j.p++[10])++(bx j.ds).flatMap eY++(iE [[101,110,100]]++[10])) co ?_ ((ar.i4 [true,false,true]).forget _ λe q=>by simp only[aq,aL,aR]at q;rcases q with rfl|rfl|rfl|rfl|rfl<;>simp)
   rw[<-q];show _++([101,110,100]++[10])++_=_;simp only[cN];rfl
 refine loop ls.length 0 w2 ⟨none,0,0⟩ [] co ?_ (H2.fN cJ 1);rw[hT];unfold jM cF;rw[tg,H9,List.nil_append,List.drop_zero];have fm:(ls.map Lx.p).flatMap fu=ls.flatMap λj=>fu j.p:=by rw[List.flatMap_map]
 dsimp only;rw[fm]
end
def acW{x:Lp}(W:p0 x)(hh:x.hy.length<=1000000)(hc:x.cl.length<=1000000)(hg:(di x.g).length<=1000000){w:J}{D:List En}(N:dT∈D)(hk:cG∈D)(H:LH F0 w w [] D):
  aj V F9 #[.string (ba (gB x))] w λr q=>∃(g h c:Sl) (gl:List Nd),r=ae (.tuple #[.agg #[g.v,h.v,c.v,.slice none 0 0],.bool true])/\xs gl=x.g/\(En.gr g gl).P q/\bq q h x.hy/\bq q c x.cl/\(∀e∈[En.gr g gl,.rd h (x.hy.map aY),.rd c (x.cl.map aY)],∀b∈e.fp,w.heap.size<=b)/\af w q:=by
 have l1:=h8 W.h;have l2:=h8 W.c;have l3:=qu (di x.g);have hl:(gB x).length<=1000000000:=by unfold gB;simp only[a9,bI,dH];omega
 refine yf.aD _ w _ (H.aK λb2 w1 Y=>Y.nw λw2 _ H2=>H2.hH 1 rfl (λH=>u5 hl H) ?_);rintro _ w3 m1 ac ⟨a,rfl,hw⟩ I _;obtain⟨rfl,rfl,rfl⟩:=y0 hw (a:=[98,101,103,105,110]) rfl md;refine⟨_,rfl,jz (λ_=>⟨true,I.ld 1 1,I.q2 1 1 rfl λw4 K=>?_⟩) (λh=>absurd rfl h)⟩;refine K.hH 1 rfl (λH=>sc (by simp only[a9,bI];omega) N H) ?_;rintro _ w5 m2 ad ⟨v1,⟨E,rfl,p1,Q⟩,r1⟩ _ N5;obtain⟨z,A,B⟩:=r1.2.2.2 x.hy _ W.h rfl rfl;subst z A B;have H5:=N5 (.rd E (x.hy.map aY)) p1 (gq Q);refine⟨_,rfl,H5.hH 1 rfl (λH=>u4 H) ?_⟩;rintro _ w6 m3 ag ⟨rfl,t1⟩ L _;obtain⟨rfl,rfl⟩:=BH t1 rfl;refine⟨rfl,L.hH 1 rfl (λH=>sc (by simp only[a9,bI];omega) (bG _ N) H) ?_⟩;rintro _ w7 m4 ah ⟨v2,⟨F,rfl,p2,S⟩,r2⟩ _ N7;obtain⟨z,A,B⟩:=r2.2.2.2 x.cl _ W.c rfl rfl;subst z A B;have H7:=N7 (.rd F (x.cl.map aY)) p2 (gq S);refine⟨_,rfl,H7.hH 1 rfl (λH=>u4 H) ?_⟩;rintro _ w8 m5 ak ⟨rfl,t2⟩ y _;obtain⟨rfl,rfl⟩:=BH t2 rfl;refine⟨rfl,true,y.ld 1 1,aP rfl ⟨_,y.ld 1 0,hF ((acX co).mono ?_)⟩⟩;rintro _ w9 ⟨u,rfl,hu,M,nu⟩;have k:=y.gz (.rd u ((di x.g).map cq)) M hu.rd λb d=>.inl (gq nu b d);refine⟨M,_,_,rfl,aP rfl (k.kc (afj (show Bytes w9 u (di x.g)from k.rd (.rd u ((di x.g).map cq)) ws) hg (k.rd cG (by simp[hk]))) ?_)⟩;rw[Kp W.g W.n W.v];rintro _ al ⟨C,gl,rfl,ab,U,G⟩ _ T;have Z:=T.rd (.gr C gl) (ct.2 U) G;refine⟨_,_,rfl,Z.aK λb3 am aa=>aP rfl (aa.ai λan j=>⟨C,E,F,gl,rfl,ab,j.rd (.gr C gl) ws,j.rd (.rd E (x.hy.map aY)) ws,j.rd (.rd F (x.cl.map aY)) ws,λe O b d=>?_,j.fr⟩)⟩;simp only[aq,aL,aR]at O;rcases O with rfl|rfl|rfl
 .exact bz k.fr.size (G b d)
 .exact bz K.fr.size (gq Q b d)
 .exact bz L.fr.size (gq S b d)
def pr(x:Lx):En:=.all [.gr x.m.g x.gl,.rd x.m.h (x.hy.map aY),.rd x.m.c (x.cl.map aY),b0 x.ds]
def k7:Option Lx->En
 |none=>.all []
 |some d=>pr d
def sK:Option Lx->List Sp
 |none=>[]
 |some d=>d.ds
abbrev oB(d h:Nat)(aB st j:Sl)(ls:List Lx)(cur:Option Lx)(ds:List Sp):List En:=[.c d [aB.v,st.v] e2,.c h [.bool cur.isSome] afH,.row gT 4 aB (((ls++cur.toList).map Lx.m).flatMap Lm.cs),.row dD 7 st (ds.flatMap Sp.c),.row dD 7 j ((sK cur).flatMap Sp.c)]
abbrev mL(ls:List Lx)(cur:Option Lx)(ds:List Sp):List En:=[dT,eI,cG,.all (ls.map eb),k7 cur,b0 ds]
def Rs(M:Nat->Prop)(w0 w:J)(j k:Nat)(aB st d:Sl)(ls:List Lx)(cur:Option Lx)(ds:List Sp):Prop:=LH M w0 w (oB j k aB st d ls cur ds) (mL ls cur ds)/\∀h,cur=some h->h.m.s=d
def Nw{x:Lx}{w:Sl}(h:x.m.s=w):(∀k,(pr x).P k->(En.bd 7 w (x.ds.flatMap Sp.c)).P k->(eb x).P k)/\∀b∈(eb x).fp,b∈(pr x).fp\/b∈(En.bd 7 w (x.ds.flatMap Sp.c)).fp:=by
 subst h;refine⟨λk q y e j=>?_,λb d=>?_⟩
 .simp only[aq,aL,aR]at j;rcases j with rfl|rfl|rfl|rfl
  .exact q (.gr x.m.g x.gl) ws
  .exact q (.rd x.m.h (x.hy.map aY)) ws
  .exact q (.rd x.m.c (x.cl.map aY)) ws
  .intro e j;rcases aq.1 j with rfl|j
   .exact y
   .exact (q (b0 x.ds) ws:(b0 x.ds).P k) e j
 .obtain ⟨e,j,d⟩:=cB.1 d;simp only[aq,aL,aR]at j;rcases j with rfl|rfl|rfl|rfl
  .exact .inl (cB.2 ⟨.gr x.m.g x.gl,ws,d⟩)
  .exact .inl (cB.2 ⟨.rd x.m.h (x.hy.map aY),ws,d⟩)
  .exact .inl (cB.2 ⟨.rd x.m.c (x.cl.map aY),ws,d⟩)
  .rcases Up.1 d with d|d
   .exact .inr d
   .exact .inl (cB.2 ⟨b0 x.ds,ws,d⟩)
section
variable {M:Nat->Prop} {w:J} {bp bw:Nat} {aB st cu:Sl} {ls:List Lx} {cur:Option Lx} {ds:List Sp} {K:aJ}
def aaP(H:Rs M w w bp bw aB st cu ls cur ds)(E:∀q,cur=none->LH M w q (oB bp bw aB st cu ls cur ds) (mL ls cur ds)->K (ae (.bool false)) q)(F:∀h q,cur=some h->Rs M w q bp bw aB st ⟨none,0,0⟩ (ls++[h]) none ds->K (ae (.bool true)) q):
  aj V AK #[.pointer (some (ab bp)),.pointer (some (ab bw)),.string (ba [101,110,100])] w K:=by
 obtain⟨H,D⟩:=H;refine Bb.aD _ _ _ w _ (jz (λ_=>⟨cur.isSome,H.iV 1 rfl rfl,H.jW 1 rfl (λx y=>?_) ws⟩) (λk=>absurd rfl k));cases cur with
 |none=>exact E x rfl y
 |some h=>
  have z:=y.freeze 4 (.bd 7 cu (h.ds.flatMap Sp.c)) rfl (aF.bd (y.get 4)) λb j=>yu j;refine F h x rfl ⟨?_,λG k=>by cases k⟩;have A:=(z.fN dD 7).kZ (mL (ls++[h]) none ds) λe d=>by
   simp only[aq,aL,aR]at d;obtain⟨B,C⟩:=Nw (D h rfl);rcases d with rfl|rfl|rfl|rfl|rfl|rfl
   .exact gx.h' ws
   .exact gx.h' ws
   .exact gx.h' ws
   .refine ⟨λk e d=>?_,λb j=>?_⟩
    .rw [ez,aW]at d;rcases d with d|d
     .exact (k (.all (ls.map eb)) ws:(En.all (ls.map eb)).P x) e d
     .have d:e=eb h:=by simpa using d
      rw[d];exact B x (k (pr h) (by simp[k7])) (k (.bd 7 cu (h.ds.flatMap Sp.c)) ws)
    .obtain ⟨e,d,j⟩:=cB.1 j;rw[ez,aW]at d;rcases d with d|d
     .exact ⟨.all (ls.map eb),ws,cB.2 ⟨e,d,j⟩⟩
     .have d:e=eb h:=by simpa using d
      rw[d]at j;rcases C b j with j|j
      .exact ⟨pr h,by simp[k7],j⟩
      .exact ⟨.bd 7 cu (h.ds.flatMap Sp.c),ws,j⟩
   .exact ⟨λ_ e d=>(by cases d),λb j=>(by obtain⟨e,d,_⟩:=cB.1 j;cases d)⟩
   .exact gx.h' ws
  have e:((ls++[h])++(none:Option Lx).toList)=ls++(some h).toList:=ws
  show LH M w x (oB bp bw aB st ⟨none,0,0⟩ (ls++[h]) none ds) _;unfold oB;rw[e];exact A
def aaO{x:Lp}(W:p0 x)(A:x.hy.length<=1000000)(aa:x.cl.length<=1000000)(hg:(di x.g).length<=1000000)(ag:ls.length<=1000000)(H:Rs M w w bp bw aB st cu ls cur ds)(E:cu=⟨none,0,0⟩\/cur≠none)(N:∀B,cur≠none\/ds≠[]->LH M w B [] []->K (ae (.bool false)) B)(af:∀(y:Lx) G B,cur=none->ds=[]->y.p=⟨x.g,x.hy,x.cl,[]⟩->Rs M w B bp bw G st cu ls (some y) ds->(∀b∈(pr y).fp,w.heap.size<=b)->K (ae (.bool true)) B):
  aj V AK #[.pointer (some (ab bp)),.pointer (some (ab bw)),.string (ba (gB x))] w K:=by
 obtain⟨H,hc⟩:=H;refine Bb.aD _ _ _ w _ (jz (λd=>?_) (λ_=>?_))
 .have d:gB x=[101,110,100]:=oW d;have:=congrArg (λl=>l[0]?) d;cases this
 refine(acW W A aa hg (D:=mL ls cur ds) ws ws (LH.start _ H.rd)).mono ?_;rintro _ w1 ⟨g,h,c,q,rfl,ad,P1,P2,P3,z,f1⟩;have Q:=(((H.br f1).sB H.oq (.gr g q) P1 (z _ ws)).sB H.oq (.rd h (x.hy.map aY)) P2 (z _ ws)).sB H.oq (.rd c (x.cl.map aY)) P3 (z _ ws);refine⟨g,h,c,⟨none,0,0⟩,true,rfl,Q.aK λb8 w3 U=>aM rfl (U.ai λP k=>⟨cur.isSome,k.iV 1 rfl rfl,?_⟩)⟩;cases cur with
 |some y=>exact aM rfl (N P (.inl ws) ((k.take 0).kZ [] λe h=>(by cases h)))
 |none=>
  have F:=(k.get 3:aF _ _ _ _ _).len;rw[Sp.e7]at F;refine aP rfl ⟨st,k.ld 0 1 rfl rfl,aE (λhd=>N P (.inr λe=>?_) ((k.take 0).kZ [] λe h=>(by cases h))) (λhd=>k.ai λw5 C=>?_)⟩
  .rw [e]at F;simp at F;omega
  have ac:ds=[]:=List.eq_nil_of_length_eq_zero co;have L:=(C.get 2:aF _ _ _ _ _).len;rw[Lm.len,gJ]at L;simp only[Option.toList_none,ed]at L;refine⟨aB,C.ld 0 0 rfl rfl,C.k6 λw6 _ I hx=>?_⟩;refine⟨I.ld 0 0 rfl rfl,I.dm 2 Kx (src:=⟨some (ab w5.heap.size),1,1⟩) (news:=Lm.cs ⟨g,h,c,⟨none,0,0⟩⟩) rfl (lX (cs:=Lm.cs ⟨g,h,c,⟨none,0,0⟩⟩) hx rfl) (λu O=>?_) (by show(aB.n+1) *96<=_;omega) λG w7 Y=>Y.q2 0 0 rfl λw8 Z=>Z.q2 1 0 rfl λw9 H9=>?_⟩
  .simp only[Lm.cs,aq,aL,aR]at O;rcases O with rfl|rfl|rfl|rfl<;>rfl
  have S:=H9.take 5;have E:cu=⟨none,0,0⟩:=E.resolve_right λh=>h rfl;subst E;have T:=S.kZ (mL ls (some ⟨⟨g,h,c,⟨none,0,0⟩⟩,q,x.hy,x.cl,[]⟩) ds) λe d=>by
   simp only[aq,aL,aR]at d;rcases d with rfl|rfl|rfl|rfl|rfl|rfl
   .exact gx.h' ws
   .exact gx.h' ws
   .exact gx.h' ws
   .exact gx.h' ws
   .refine ⟨λA e d=>?_,λb j=>?_⟩
    .simp only[aq,aL,aR]at d;rcases d with rfl|rfl|rfl|rfl
     .exact A (.gr g q) ws
     .exact A (.rd h (x.hy.map aY)) ws
     .exact A (.rd c (x.cl.map aY)) ws
     .exact λe d=>by cases d
    .obtain ⟨e,d,j⟩:=cB.1 j;simp only[aq,aL,aR]at d;rcases d with rfl|rfl|rfl|rfl
     .exact ⟨.gr g q,ws,j⟩
     .exact ⟨.rd h (x.hy.map aY),ws,j⟩
     .exact ⟨.rd c (x.cl.map aY),ws,j⟩
     .obtain ⟨e,d,_⟩:=cB.1 j;cases d
   .exact gx.h' ws
  refine af ⟨⟨g,h,c,⟨none,0,0⟩⟩,q,x.hy,x.cl,[]⟩ G w9 rfl ac ?_ ⟨?_,λah hz=>by cases hz;rfl⟩ λb j=>?_
  .unfold Lx.p;dsimp only;rw[ad];rfl
  .have e:((ls++(none:Option Lx).toList).map Lx.m).flatMap Lm.cs++Lm.cs ⟨g,h,c,⟨none,0,0⟩⟩=((ls++(some (⟨⟨g,h,c,⟨none,0,0⟩⟩,q,x.hy,x.cl,[]⟩:Lx)).toList).map Lx.m).flatMap Lm.cs:=ws
   unfold oB;rw[<-e];exact T
  .obtain ⟨e,d,j⟩:=cB.1 j;simp only[aq,aL,aR]at d;rcases d with rfl|rfl|rfl|rfl
   .exact z _ ws b j
   .exact z _ ws b j
   .exact z _ ws b j
   .obtain ⟨e,d,_⟩:=cB.1 j;cases d
def abz{s:bO}:∀r,cM s≠[98,101,103,105,110]++32::r:=λr e=>by
 have d:gU s.kind=[98,101,103,105,110]:=(qi (Ch s.kind) md e).1;have h:∀i<6,j3.getD i []≠[98,101,103,105,110]:=md
 unfold gU at d;by_cases j:s.kind.toNat<6
 .exact h _ j d
 .rw [List.getD_eq_getElem?_getD,List.getElem?_eq_none (by show 6<=_;omega)]at d;cases d
def abA{s:bO}:cM s≠[101,110,100]:=λe=>by
 have d:(32:UInt8)∈cM s:=by unfold cM;simp
 rw[e]at d;revert d;decide
def Lx.more(x:Lx)(cu:Sl)(d:Sp):Lx:=⟨⟨x.m.g,x.m.h,x.m.c,cu⟩,x.gl,x.hy,x.cl,x.ds++[d]⟩
def Ub{w:J}{l:List Sp}{d:Sp}(h:(b0 l).P w)(k:∀e∈[d.pE,d.hE,d.lE],e.P w):(b0 (l++[d])).P w:=λe j=>by
 simp only[jV,de]at j;rcases aW.1 j with j|j
 .exact h e j
 .simp only[cU,List.flatMap_nil,ed]at j;exact k e j
def yC{l:List Sp}{d:Sp}{b:Nat}(j:b∈(b0 (l++[d])).fp):b∈(b0 l).fp\/∃e∈[d.pE,d.hE,d.lE],b∈e.fp:=by
 obtain⟨e,h,j⟩:=cB.1 j;simp only[jV,de]at h;rcases aW.1 h with h|h
 .exact .inl (cB.2 ⟨e,h,j⟩)
 .simp only[cU,List.flatMap_nil,ed]at h;exact .inr ⟨e,h,j⟩
def aaQ{s:bO}(hs:kM s)(hl:(cM s).length<=1000000000)(aC:ls.length<=1000000)(ay:ds.length<=1000000)(ad:(sK cur).length<=1000000)(H:Rs M w w bp bw aB st cu ls cur ds)(h1:∀(d:Sp) fQ Y,cur=none->d.x=s->Rs M w Y bp bw aB fQ cu ls none (ds++[d])->(∀e∈[d.pE,d.hE,d.lE],∀b∈e.fp,w.heap.size<=b)->K (ae (.bool true)) Y)(h2:∀(d:Sp) (x:Lx) y Y,cur=some x->d.x=s->Rs M w Y bp bw aB st y ls (some (x.more y d)) ds->(∀e∈[d.pE,d.hE,d.lE],∀b∈e.fp,w.heap.size<=b)->K (ae (.bool true)) Y):
  aj V AK #[.pointer (some (ab bp)),.pointer (some (ab bw)),.string (ba (cM s))] w K:=by
 obtain⟨H,U⟩:=H;refine Bb.aD _ _ _ w _ (jz (λj=>absurd (oW j) abA) (λ_=>?_));refine(Yw hl abz (D:=mL ls cur ds) ws (LH.start _ H.rd)).mono ?_;rintro _ w1 ⟨rfl,f1⟩;have H1:=H.br f1;refine⟨⟨none,0,0⟩,⟨none,0,0⟩,⟨none,0,0⟩,⟨none,0,0⟩,false,rfl,H1.aK λb8 w3 H3=>aP rfl (H3.ai λw7 H7=>Yx hl ws ws H7 (λd w8 Z H8=>absurd rfl (Z s hs)) (λd w8 ar hd H8 hf=>?_))⟩;have af:d.x=s:=abv ar hs hd.symm;have ak:∀e∈[d.pE,d.hE,d.lE],∀b∈e.fp,w.heap.size<=b:=λe j b k=>bz H7.fr.size (hf e j b k);refine⟨_,_,_,_,_,_,_,_,rfl,H8.aK λax w9 H9=>aP rfl (H9.ai λaG N=>⟨cur.isSome,N.iV 1 rfl rfl,?_⟩)⟩;have E:∀{Y:J} {e:En},e∈[d.pE,d.hE,d.lE]->e∈mL ls cur ds++[d.pE]++[d.hE]++[d.lE]:=λj=>by simp only[aq,aL,aR]at j;rcases j with rfl|rfl|rfl<;>simp
 cases cur with
 |none=>
  refine aP rfl (N.ai λam q=>⟨st,q.ld 0 1 rfl rfl,q.k6 λan _ z hx=>?_⟩);have Z:=(z.get 3:aF _ _ _ _ _).len;rw[Sp.e7]at Z;refine⟨z.ld 0 1 rfl rfl,z.dm 3 zS (src:=⟨some (ab am.heap.size),1,1⟩) (news:=d.c) rfl (lX (cs:=d.c) hx rfl) (λu hu=>Sp.one (l:=[d]) u (by simpa using hu)) (by show(st.n+1) *112<=_;omega) λs' av C=>C.q2 0 1 rfl λI O=>?_⟩;refine h1 d s' I rfl af ⟨?_,λaw T=>by cases T⟩ ak;have Q:=(O.take 5).kZ (mL ls none (ds++[d])) λe j=>by
   simp only[aq,aL,aR]at j;rcases j with rfl|rfl|rfl|rfl|rfl|rfl
   .exact gx.h' ws
   .exact gx.h' ws
   .exact gx.h' ws
   .exact gx.h' ws
   .exact gx.h' ws
   .refine ⟨λA=>Ub (A (b0 ds) ws) λe j=>A e (E (Y:=I) j),λb k=>?_⟩;rcases yC k with k|⟨e,j,k⟩
    .exact ⟨b0 ds,ws,k⟩
    .exact ⟨e,E (Y:=I) j,k⟩
  have e:(ds++[d]).flatMap Sp.c=ds.flatMap Sp.c++d.c:=ws
  unfold oB;rw[e];exact Q
 |some x=>
  have au:=U x rfl;refine aM rfl (N.ai λam q=>⟨aB,q.ld 0 0 rfl rfl,aB,q.ld 0 0 rfl rfl,?_⟩);have al:=(q.get 2:aF _ _ _ _ _).len;rw[Lm.len,gJ]at al;simp only[Option.toList_some,a9,bI,dH]at al;have ew:ah .i64 ((aB.n:Int) - 1)=(ls.length:Int):=by rw[aN _ co];omega
  rw[ew,bo];have ap:((ls++(some x).toList).map Lx.m)[ls.length]? =some x.m:=ws
  have at_:∀{Y:J},aF Y gT 4 aB (((ls++(some x).toList).map Lx.m).flatMap Lm.cs)->∃p,aB.a=some p/\Y.cell? ((p.add (ls.length *4)).add 3)=some cu.v:=λ{Y} S=>by obtain⟨p,_,G,aa⟩:=sL (fg.elem (f:=Lm.cs) (sz:=4) (s:=aB) (λ_=>rfl) md S.bd.2.2 ap (K:=λp=>aB.a=some p/\Y.cell? ((p.add (ls.length *4)).add 3)=some cu.v) λp B U=>⟨B,by rw[<-au];exact U 3 _ rfl⟩);exact⟨p,G,aa⟩
  obtain⟨p,B,_⟩:=at_ (q.get 2);have ac:∀{Y:J},aF Y gT 4 aB (((ls++(some x).toList).map Lx.m).flatMap Lm.cs)->Y.cell? ((p.add (ls.length *4)).add 3)=some cu.v:=λS=>by obtain⟨aE,G,aa⟩:=at_ S;rw[B]at G;cases G;exact aa
  have W:=(q.get 4:aF _ _ _ _ _).len;rw[Sp.e7]at W;have ad:x.ds.length<=1000000:=ad;have W:x.ds.length *7=cu.n *7:=W;have aA:(((ls++(some x).toList).map Lx.m).flatMap Lm.cs).length=4 *(ls.length+1):=by rw[Lm.len,gJ];simp;omega
  refine⟨co,co,ya B (q.ai λan z=>⟨cu,ac (z.get 2),z.k6 λav _ C hx=>⟨ac (C.get 2),C.dm 4 zS (src:=⟨some (ab an.heap.size),1,1⟩) (news:=d.c) rfl (lX (cs:=d.c) hx rfl) (λu hu=>Sp.one (l:=[d]) u (by simpa using hu)) (by show(cu.n+1) *112<=_;omega) λy I O=>O.oJ 2 (ls.length *4) 3 rfl B co λL Q=>?_⟩⟩)⟩;refine h2 d x y L rfl af ⟨?_,λaw T=>by cases T;rfl⟩ ak;have ao:=(Q.take 5).kZ (mL ls (some (x.more y d)) ds) λe j=>by
   simp only[aq,aL,aR]at j;rcases j with rfl|rfl|rfl|rfl|rfl|rfl
   .exact gx.h' ws
   .exact gx.h' ws
   .exact gx.h' ws
   .exact gx.h' ws
   .refine ⟨λA e j=>?_,λb k=>?_⟩
    .have F:(pr x).P L:=A (k7 (some x)) ws;simp only[aq,aL,aR]at j;rcases j with rfl|rfl|rfl|rfl
     .exact F (.gr x.m.g x.gl) ws
     .exact F (.rd x.m.h (x.hy.map aY)) ws
     .exact F (.rd x.m.c (x.cl.map aY)) ws
     .exact Ub (F (b0 x.ds) ws) λe j=>A e (E (Y:=L) j)
    .obtain ⟨e,j,k⟩:=cB.1 k;simp only[aq,aL,aR]at j;rcases j with rfl|rfl|rfl|rfl
     .exact ⟨k7 (some x),ws,cB.2 ⟨.gr x.m.g x.gl,ws,k⟩⟩
     .exact ⟨k7 (some x),ws,cB.2 ⟨.rd x.m.h (x.hy.map aY),ws,k⟩⟩
     .exact ⟨k7 (some x),ws,cB.2 ⟨.rd x.m.c (x.cl.map aY),ws,k⟩⟩
     .rcases yC k with k|⟨e,j,k⟩
      .exact ⟨k7 (some x),ws,cB.2 ⟨b0 x.ds,ws,k⟩⟩
      .exact ⟨e,E (Y:=L) j,k⟩
   .exact gx.h' ws
  have e1:(sK (some (x.more y d))).flatMap Sp.c=(sK (some x)).flatMap Sp.c++d.c:=by simp[sK,Lx.more]
  have e2:((ls++(some (x.more y d)).toList).map Lx.m).flatMap Lm.cs=(((ls++(some x).toList).map Lx.m).flatMap Lm.cs).set (ls.length *4+3) y.v:=by
   have az:((ls.map Lx.m).flatMap Lm.cs).length=4 *ls.length:=by rw[Lm.len,gJ];omega
   simp only[Option.toList_some,ez,hn,List.map_nil,de,cU,List.flatMap_nil,ed];rw[List.set_append,ag co,show ls.length *4+3 - ((ls.map Lx.m).flatMap Lm.cs).length=3 by omega];rfl
  unfold oB;rw[e1,e2];exact ao
end
inductive Ln
 |b (x:Lp)
 |s (s:bO)
 |e
def bB:Ln->List UInt8
 |.b d=>gB d
 |.s s=>cM s
 |.e=>[101,110,100]
structure Mc where
 ls:List Lp
 cur:Option Lp
 ss:List bO
def Mc.o:Mc:=⟨[],none,[]⟩
def jX(m:Mc):Ln->Option Mc
 |.e=>m.cur.map λd=>⟨m.ls++[d],none,m.ss⟩
 |.b d=>if m.cur.isNone&&m.ss.isEmpty then some ⟨m.ls,some ⟨d.g,d.hy,d.cl,[]⟩,[]⟩else none
 |.s s=>match m.cur with
  |some d=>some ⟨m.ls,some ⟨d.g,d.hy,d.cl,d.ss++[s]⟩,m.ss⟩
  |none=>some ⟨m.ls,none,m.ss++[s]⟩
def g6(m:Mc)(n:Nat):List Ln->Pp×Nat×Int
 |[]=>if m.cur.isSome then(.e,n,2)else if iH ⟨m.ls,m.ss⟩=0 then(⟨m.ls,m.ss⟩,0,0)else(.e,n,iH ⟨m.ls,m.ss⟩)
 |t::r=>match jX m t with
  |none=>(.e,n,2)
  |some d=>g6 d (n+((bB t).length+1)) r
def uv:Option Lp->List (List UInt8)
 |none=>[]
 |some d=>gB d::d.ss.map cM
def qB(m:Mc):List (List UInt8):=m.ls.flatMap fu++(uv m.cur++m.ss.map cM)
def aeX{m d:Mc}{t:Ln}(hi:m.cur=none\/m.ss=[])(h:jX m t=some d):qB d=qB m++[bB t]/\(d.cur=none\/d.ss=[]):=by
 obtain⟨ls,cur,j⟩:=m;cases t with
 |e=>
  cases cur with
  |none=>cases h
  |some k=>
   cases h;have hi:j=[]:=hi.resolve_left λe=>by cases e
   subst hi;refine⟨?_,.inl rfl⟩;simp[qB,uv,fu,bB]
 |b k=>
  cases cur with
  |some q=>cases h
  |none=>
   cases j with
   |cons s r=>cases h
   |nil=>
    cases h;refine⟨?_,.inr rfl⟩;simp[qB,uv,bB];rfl
 |s s=>
  cases cur with
  |none=>
   cases h;refine⟨?_,.inl rfl⟩;simp[qB,uv,bB]
  |some k=>
   cases h;have hi:j=[]:=hi.resolve_left λe=>by cases e
   subst hi;refine⟨?_,.inr rfl⟩;simp[qB,uv,bB,gB]
def RX:∀{U:List Ln} {m:Mc} {n:Nat} {h:Pp} {k:Nat},(m.cur=none\/m.ss=[])->g6 m n U=(h,k,0)->jM h=qB m++U.map bB/\k=0/\iH h=0
 |[],m,n,h,k,w,d=>by
  obtain⟨ls,cur,E⟩:=m;unfold g6 at d;split at d
  .cases d
  .rename_i q;have q:cur=none:=by cases cur with
    |none=>rfl
    |some F=>exact absurd rfl q
   subst q;split at d
   .rename_i j;cases d;exact⟨by simp[jM,qB,uv],rfl,j⟩
   .rename_i j;simp only[Prod.mk.injEq]at d;exact absurd d.2.2 j
 |t::r,m,n,h,k,w,d=>by
  unfold g6 at d;split at d
  .cases d
  .rename_i D C;obtain⟨x,y⟩:=aeX w C;obtain⟨z,A,B⟩:=RX y d;refine⟨?_,A,B⟩;rw[z,x];simp
def _root_.Go.W.LH.uF{M:Nat->Prop}{w0 w Y:J}{G L L' D C:List En}(H:LH M w0 w (G++L) D)(q:LH (λb=>∃e∈L,b∈e.fp) w Y L' C)(P:∀e∈C,∀b∈e.fp,w.heap.size<=b\/(∃x∈D,b∈x.fp)\/∃x∈L,b∈x.fp):LH M w0 Y (G++L') C:=by
 have I:=H.nd;rw[de,List.nodup_append]at I;have B:∀e∈G,∀b∈e.fp,b<w.heap.size/\∀g∈L,b∉g.fp:=λe d b j=>⟨e.lt w (H.own e (bG _ d)) b j,λg h k=>I.2.2 b (bX.2 ⟨e,d,j⟩) b (bX.2 ⟨g,h,k⟩) rfl⟩;have Q:∀e∈L',∀b∈e.fp,∀g∈G,b∉g.fp:=λe d b j g h k=>by
  obtain⟨h1,O⟩:=B g h b k;rcases q.new e d b j with y|⟨A,z,y⟩
  .omega
  .exact O A z y
 refine⟨H.fr.trans q.fr λK N U=>?_,λe d=>?_,q.rd,λe d b j=>?_,?_,λe d b j g h k=>?_⟩
 .obtain ⟨e,d,j⟩:=U;exact(H.new e (dL _ d) K j).resolve_left co
 .rcases aW.1 d with d|d
  .exact e.st w Y (λb j T=>q.fr.cC b T λ⟨g,h,k⟩=>(B e d b j).2 g h k) (H.own e (bG _ d))
  .exact q.own e d
 .rcases aW.1 d with d|d
  .exact H.new e (bG _ d) b j
  .rcases q.new e d b j with y|⟨A,z,y⟩
   .exact .inl (bz H.fr.size y)
   .exact H.new A (dL _ z) b y
 .rw [de,List.nodup_append];refine⟨I.1,q.nd,λK N aa Z e=>?_⟩;subst e;obtain⟨g,h,k⟩:=bX.1 N;obtain⟨A,z,S⟩:=bX.1 Z;exact Q A z K S g h k
 .rcases aW.1 h with h|h
  .rcases P e d b j with y|⟨x,F,E⟩|⟨x,F,E⟩
   .have:=(B g h b k).1;omega
   .exact H.dj x F b E g (bG _ h) k
   .exact (B g h b k).2 x F E
  .exact q.dj e d b j g h k
def GV{m:Mc}{n:Nat}{t:Ln}{r:List Ln}(h:jX m t=none):g6 m n (t::r)=(.e,n,2):=by
 conv=>lhs;unfold g6
 rw[h]
def sN{m d:Mc}{n:Nat}{t:Ln}{r:List Ln}(h:jX m t=some d):g6 m n (t::r)=g6 d (n+((bB t).length+1)) r:=by
 conv=>lhs;unfold g6
 rw[h]
structure Cr(x:Lp):Prop where
 i:p0 x
 t:∀d∈x.g,nT d/\fV d
 h:x.hy.length<=100000
 c:x.cl.length<=100000
 g:(di x.g).length<=1000000
def nN:Ln->Prop
 |.b d=>Cr d
 |.s s=>kM s/\10∉cM s/\s.params.length<=100000/\s.bR.length<=100000/\s.hints.length<=100000
 |.e=>True
def aaz(b:List UInt8):10∉eK b:=λj=>by
 obtain⟨c,_,d⟩:=bX.1 j;have h:∀n<16,hJ n≠10:=md
 have:=c.toNat_lt;simp only[aq,aL,aR]at d;rcases d with d|d
 .exact h _ co d.symm
 .exact h _ co d.symm
def aby{t:Ln}(h:nN t):10∉bB t:=by
 cases t with
 |e=>decide
 |s s=>exact h.2.1
 |b d=>
  show 10∉[98,101,103,105,110]++32::(cD d.hy++32::(cD d.cl++32::eK (di d.g)));have j:∀l,(10:UInt8)∉cD l:=λl=>Au md md md md;have k:=aaz (di d.g);simp[j,k]
def wy(w0:J)(p:Pp×Nat×Int)(r:Ending)(Y:J):Prop:=∃(aB st:Sl) (ls:List Lx) (ds:List Sp),r=ae (.tuple #[.agg #[aB.v,st.v],.i (p.2.1:Int),.i p.2.2])/\cF ls ds=p.1/\(ia aB st ls ds).P Y/\(∀b∈(ia aB st ls ds).fp,w0.heap.size<=b)/\af w0 Y
def GW{w0 Y:J}{n:Nat}{e:Int}(f:af w0 Y):wy w0 (.e,n,e) (ae (.tuple #[.agg #[(⟨none,0,0⟩:Sl).v,(⟨none,0,0⟩:Sl).v],.i (n:Int),.i e])) Y:=⟨⟨none,0,0⟩,⟨none,0,0⟩,[],[],rfl,rfl,(R3 Y).1,(R3 w0).2,f⟩
def mG(ls:List Lx)(cur:Option Lx)(ds:List Sp):Mc:=⟨ls.map Lx.p,cur.map Lx.p,bx ds⟩
structure WE(n:Nat)(cu:Sl)(ls:List Lx)(cur:Option Lx)(ds:List Sp):Prop where
 n:n+ls.length+(sK cur).length+ds.length<=4000
 l:∀x∈ls,rD x
 c:∀x,cur=some x->rD x/\x.m.s=cu
 u:cur=none->cu=⟨none,0,0⟩
 d:∀d∈ds,mq d
def aa'{t:List UInt8}(aE:t.length<=10000000){b2 bp bw:Nat}{w0:J}:∀(U:List Ln) (A:List UInt8) (aB st S:Sl) (ls:List Lx) (cur:Option Lx) (ds:List Sp) (w:J),t=A++cO (U.map bB)->(∀x∈U,nN x)->WE U.length S ls cur ds->
  (∀e∈[En.all (ls.map eb),k7 cur,b0 ds],∀b∈e.fp,w0.heap.size<=b)->LH F0 w0 w ([.g b2]++oB bp bw aB st S ls cur ds) (mL ls cur ds)->
  vn.a8 (ba t) b2 ⟨none,0,0⟩ ⟨none,0,0⟩ (ab bp) (ab bw) (A.length:Int) w (wy w0 (g6 (mG ls cur ds) A.length U)):=by
 have Q:=bQ t;intro U;induction U with
 |nil=>
  intro A aB st S ls cur ds w ht Z C I H;have ht:t=A:=by rw[ht];exact ed _
  subst ht;refine vn.bJ _ _ _ _ _ _ _ _ _ (aP (aV co) ⟨cur.isSome,H.iV 2 rfl rfl,?_⟩);cases cur with
  |some x=>
   refine aM rfl (H.ai λw1 E=>?_);rw[Q];exact GW E.fr
  |none=>
   have hn:=C.n;have am:∀{Y:J} {L D:List En},LH F0 w0 Y ([.g b2]++oB bp bw aB st S ls none ds++L) D->(∀e∈mL ls none ds,e∈D)->j6 Y aB ls/\fB Y st ds:=λ{Y} {L} {D} H hD=>by have r1:aF Y gT 4 aB (((ls++(none:Option Lx).toList).map Lx.m).flatMap Lm.cs):=H.get 3;have r2:aF Y dD 7 st (ds.flatMap Sp.c):=H.get 4;simp only[Option.toList_none,ed]at r1;exact⟨⟨r1.bd,λx O=>pe.1 ((H.rd (.all (ls.map eb)) (hD _ ws):(En.all (ls.map eb)).P Y) (eb x) (bK.2 ⟨x,O,rfl⟩))⟩,⟨r2.bd,s6.1 (H.rd (b0 ds) (hD _ ws))⟩⟩
   obtain⟨P1,P2⟩:=am (L:=[]) (by rw[ed];exact H) λe q=>q;refine aP rfl ⟨aB,st,H.ld 1 0 rfl rfl,H.ld 1 1 rfl rfl,H.aA (MS ⟨co,C.l⟩ ⟨co,C.d⟩ P1 P2 (H.rd cG ws)) ?_⟩;rintro _ w1 rfl E;rw[A'];have ep:g6 (mG ls none ds) t.length []=if iH (cF ls ds)=0 then(cF ls ds,0,0)else(.e,t.length,iH (cF ls ds)):=rfl;rw[ep];refine⟨_,rfl,dA (λh0=>E.ai λN y=>?_) (λh0=>⟨aB,st,E.ld 1 0 rfl rfl,E.ld 1 1 rfl rfl,E.ai λN y=>?_⟩)⟩
   .rw [ag h0,Q];exact GW y.fr
   .rw [av h0];obtain⟨Q1,Q2⟩:=am (L:=[]) (by rw[ed];exact y) λe q=>q;refine⟨aB,st,ls,ds,rfl,rfl,λe q=>?_,λb k=>?_,y.fr⟩
    .simp only[aq,aL,aR]at q;rcases q with rfl|rfl
     .exact jr.2 Q1
     .exact eA.2 Q2
    .obtain ⟨e,q,k⟩:=cB.1 k;have n1:=y.new _ (aG (i:=3) rfl);have n2:=y.new _ (aG (i:=4) rfl);simp only[aq,aL,aR]at q;rcases q with rfl|rfl
     .obtain ⟨e,q,k⟩:=cB.1 k;rcases aq.1 q with rfl|q
      .exact (n1 b (by simpa using yu (e:=gT) k)).resolve_right id
      .exact I _ ws b (cB.2 ⟨e,q,k⟩)
     .rcases Up.1 k with k|k
      .exact (n2 b (yu (e:=dD) k)).resolve_right id
      .exact I _ ws b k
 |cons l r ih=>
  intro A aB st S ls cur ds w ht Z C I H;have aj:=Z l ws;have ar:=aby aj;have ad:t=A++(bB l++10::cO (r.map bB)):=by rw[ht];show A++((bB l++[10])++cO (r.map bB))=_;simp
  have hl:t.length=A.length+((bB l).length+((cO (r.map bB)).length+1)):=by rw[ad];simp only[a9,bI]
  have ae:t=(A++(bB l++[10]))++cO (r.map bB):=by rw[ad];simp
  have hA:(A++(bB l++[10])).length=A.length+(bB l).length+1:=by simp only[a9,bI,dH];omega
  have ac:(A++(bB l++[10])).length=A.length+((bB l).length+1):=co
  refine vn.bJ _ _ _ _ _ _ _ _ _ (aM (aQ co) ⟨co,co,?_⟩);have e1:(ba t).extract (Int.toNat (A.length:Int)) (ba t).size=ba (bB l++10::cO (r.map bB)):=by rw[bo,Q,ad];have:=Lu (A:=A) (a:=bB l++10::cO (r.map bB)) (b:=[]) rfl (j:=A.length+(bB l++10::cO (r.map bB)).length) rfl;rw[ed]at this;rw[a9];exact this
  rw[e1];refine H.aA ((Hx (ba (bB l++10::cO (r.map bB))) 10 w).mono λr Y B=>⟨B.1,B.2▸Fr.refl _ _⟩) ?_;rintro _ w1 rfl E;rw[gC,uW ar];have az:ah .i64 ((A.length:Int)+((bB l).length:Int))=((A.length+(bB l).length:Nat):Int):=by rw[aN _ co];omega
  have aC:ah .i64 ((A.length:Int)+ah .i64 (((bB l).length:Int)+1))=((A.length+(bB l).length+1:Nat):Int):=by rw[bb _ co,aN _ co];omega
  refine⟨_,rfl,aP (aV co) ?_⟩;rw[az,aC,bo,bo];have e2:(ba t).extract A.length (A.length+(bB l).length)=ba (bB l):=by rw[ad];exact Lu rfl rfl
  rw[e2];refine⟨co,co,co,co,_,EZ E,?_⟩;have stop:∀{Y:J} {L D:List En},LH F0 w0 Y ([.g b2]++L) D->jX (mG ls cur ds) l=none->vn.bW b2 ⟨none,0,0⟩ ⟨none,0,0⟩ (A.length:Int) Y (wy w0 (g6 (mG ls cur ds) A.length (l::r))):=λH' B=>H'.ai λaH ap=>by rw[GV B];exact GW ap.fr
  have bn:=C.n;rw[bI]at bn;have H0:=E.part;rw[<-hA];cases l with
  |e=>
   refine aaP ⟨H0,λx B=>(C.c x B).2⟩ (λN G y=>?_) (λx N G y=>?_)
   .have M:=E.uF y λe q b k=>.inr (.inl ⟨e,q,k⟩);exact⟨y.fr,_,rfl,aM rfl (stop M (by rw[G];rfl))⟩
   .subst G;obtain⟨c1,c2⟩:=Nw ((C.c x rfl).2);have al:∀b∈(En.all ((ls++[x]).map eb)).fp,b∈(En.all (ls.map eb)).fp\/b∈(k7 (some x)).fp\/b∈(En.bd 7 S (x.ds.flatMap Sp.c)).fp:=λb k=>by
     obtain⟨e,q,k⟩:=cB.1 k;rw[ez,aW]at q;rcases q with q|q
     .exact .inl (cB.2 ⟨e,q,k⟩)
     .have q:e=eb x:=by simpa using q
      rw[q]at k;exact .inr (c2 b k)
    have M:=E.uF y.1 λe q b k=>by
     simp only[aq,aL,aR]at q;rcases q with rfl|rfl|rfl|rfl|rfl|rfl
     .exact .inr (.inl ⟨dT,ws,k⟩)
     .exact .inr (.inl ⟨eI,ws,k⟩)
     .exact .inr (.inl ⟨cG,ws,k⟩)
     .rcases al b k with k|k|k
      .exact .inr (.inl ⟨_,ws,k⟩)
      .exact .inr (.inl ⟨k7 (some x),ws,k⟩)
      .exact .inr (.inr ⟨_,aG (i:=4) rfl,yu (e:=dD) k⟩)
     .obtain ⟨e,q,_⟩:=cB.1 k;cases q
     .exact .inr (.inl ⟨b0 ds,ws,k⟩)
    have T:jX (mG ls (some x) ds) .e=some (mG (ls++[x]) none ds):=by show some (⟨ls.map Lx.p++[x.p],none,bx ds⟩:Mc)=some ⟨(ls++[x]).map Lx.p,none,bx ds⟩;rw[ez];rfl
    refine⟨y.1.fr,_,rfl,aP rfl ?_⟩;rw[sN T,<-ac];refine ih _ aB st ⟨none,0,0⟩ (ls++[x]) none ds N ae (λz F=>Z z (by simp[F])) ?_ ?_ M
    .have ak:r.length+1+ls.length+x.ds.length+ds.length<=4000:=bn;refine⟨?_,λz F=>?_,λz B=>(by cases B),λ_=>rfl,C.d⟩
     .show r.length+(ls++[x]).length+0+ds.length<=4000;rw[a9];show r.length+(ls.length+1)+0+ds.length<=4000;omega
     .rcases aW.1 F with F|F
      .exact C.l z F
      .rw [bY.1 F];exact(C.c x rfl).1
    .intro e q b k;simp only[aq,aL,aR]at q;rcases q with rfl|rfl|rfl
     .rcases al b k with k|k|k
      .exact I _ ws b k
      .exact I _ ws b k
      .exact (E.new _ (aG (i:=5) rfl) b (yu (e:=dD) k)).resolve_right id
     .obtain ⟨e,q,_⟩:=cB.1 k;cases q
     .exact I _ ws b k
  |b x=>
   have O:Cr x:=aj;have aD:ls.length<=4000:=co
   refine aaO O.i (by have:=O.h;omega) (by have:=O.c;omega) O.g co ⟨H0,λx B=>(C.c x B).2⟩ ?_ (λN G y=>?_) (λz ax N G K F y W=>?_)
   .cases cur with
    |none=>exact .inl (C.u rfl)
    |some z=>exact .inr ws
   .have M:=E.uF y λe q=>by cases q
    refine⟨y.fr,_,rfl,aM rfl (stop M ?_)⟩;show(if(cur.map Lx.p).isNone&&(bx ds).isEmpty then _ else none)=none;rw[ag];intro B;rw[Bool.and_eq_true]at B;rcases G with G|G
    .cases cur with
     |none=>exact G rfl
     |some z=>simp at B
    .cases ds with
     |nil=>exact G rfl
     |cons d ds=>simp[bx]at B
   .subst G;subst K;have T:jX (mG ls none []) (.b x)=some (mG ls (some z) []):=by show some (⟨ls.map Lx.p,some ⟨x.g,x.hy,x.cl,[]⟩,[]⟩:Mc)=some ⟨ls.map Lx.p,some z.p,[]⟩;rw[F]
    have M:=E.uF y.1 λe q b k=>by
     simp only[aq,aL,aR]at q;rcases q with rfl|rfl|rfl|rfl|rfl|rfl
     .exact .inr (.inl ⟨dT,ws,k⟩)
     .exact .inr (.inl ⟨eI,ws,k⟩)
     .exact .inr (.inl ⟨cG,ws,k⟩)
     .exact .inr (.inl ⟨.all (ls.map eb),ws,k⟩)
     .exact .inl (W b k)
     .exact .inr (.inl ⟨b0 [],ws,k⟩)
    refine⟨y.1.fr,_,rfl,aP rfl ?_⟩;rw[sN T,<-ac];have yd:z.ds=[]:=by
     have:bx z.ds=[]:=congrArg Lp.ss F;cases aw:z.ds with
     |nil=>rfl
     |cons d l=>rw[aw]at this;cases this
    have yg:xs z.gl=x.g:=congrArg Lp.g F;refine ih _ ax st S ls (some z) [] N ae (λz F=>Z z (by simp[F])) ?_ ?_ M
    .refine ⟨?_,C.l,λao Q=>?_,λB=>(by cases B),C.d⟩
     .show r.length+ls.length+z.ds.length+0<=4000;rw[yd];show r.length+ls.length+0+0<=4000;omega
     .cases Q;refine⟨⟨λd K=>O.t _ (by rw[<-yg];exact bK.2 ⟨d,K,rfl⟩),?_,?_,by rw[yd];exact dI _,λd K=>(by rw[yd]at K;cases K)⟩,y.2 z rfl⟩
      .rw [show z.hy=x.hy from congrArg Lp.hy F];exact O.h
      .rw [show z.cl=x.cl from congrArg Lp.cl F];exact O.c
    .intro e q b k;simp only[aq,aL,aR]at q;rcases q with rfl|rfl|rfl
     .exact I _ ws b k
     .exact bz E.fr.size (W b k)
     .exact I _ ws b k
  |s s=>
   obtain⟨hs,_,q1,q2,q3⟩:kM s/\10∉cM s/\s.params.length<=100000/\s.bR.length<=100000/\s.hints.length<=100000:=aj;have au:(cM s).length<=1000000000:=by have:(bB (.s s)).length=(cM s).length:=rfl;omega
   have sE:∀{d:Sp} {e:En} {b:Nat},b∈e.fp->e∈[d.pE,d.hE,d.lE]->(∀e∈[d.pE,d.hE,d.lE],∀b∈e.fp,w1.heap.size<=b)->w1.heap.size<=b:=λk q B=>B _ q _ k;refine aaQ hs au co co co ⟨H0,λx B=>(C.c x B).2⟩ (λd ay N G K y W=>?_) (λd x aa N G K y W=>?_)
   .subst G;have T:jX (mG ls none ds) (.s s)=some (mG ls none (ds++[d])):=by show some (⟨ls.map Lx.p,none,bx ds++[s]⟩:Mc)=some ⟨ls.map Lx.p,none,bx (ds++[d])⟩;rw[<-K];simp[bx]
    have M:=E.uF y.1 λe q b k=>by
     simp only[aq,aL,aR]at q;rcases q with rfl|rfl|rfl|rfl|rfl|rfl
     .exact .inr (.inl ⟨dT,ws,k⟩)
     .exact .inr (.inl ⟨eI,ws,k⟩)
     .exact .inr (.inl ⟨cG,ws,k⟩)
     .exact .inr (.inl ⟨.all (ls.map eb),ws,k⟩)
     .exact .inr (.inl ⟨k7 none,ws,k⟩)
     .rcases yC k with k|⟨e,q,k⟩
      .exact .inr (.inl ⟨b0 ds,ws,k⟩)
      .exact .inl (W e q b k)
    refine⟨y.1.fr,_,rfl,aP rfl ?_⟩;rw[sN T,<-ac];refine ih _ aB ay S ls none (ds++[d]) N ae (λz F=>Z z (by simp[F])) ?_ ?_ M
    .refine ⟨?_,C.l,λao Q=>(by cases Q),λ_=>C.u rfl,λe q=>?_⟩
     .have ak:r.length+1+ls.length+0+ds.length<=4000:=bn;show r.length+ls.length+0+(ds++[d]).length<=4000;rw[a9];show r.length+ls.length+0+(ds.length+1)<=4000;omega
     .rcases aW.1 q with q|q
      .exact C.d e q
      .rw [bY.1 q];unfold mq;rw[K];exact⟨co,co,co⟩
    .intro e q b k;simp only[aq,aL,aR]at q;rcases q with rfl|rfl|rfl
     .exact I _ ws b k
     .exact I _ ws b k
     .rcases yC k with k|⟨e,q,k⟩
      .exact I _ ws b k
      .exact bz E.fr.size (W e q b k)
   .subst G;have T:jX (mG ls (some x) ds) (.s s)=some (mG ls (some (x.more aa d)) ds):=by show some (⟨ls.map Lx.p,some ⟨x.p.g,x.p.hy,x.p.cl,x.p.ss++[s]⟩,bx ds⟩:Mc)=some ⟨ls.map Lx.p,some (x.more aa d).p,bx ds⟩;rw[<-K];simp[Lx.more,Lx.p,bx]
    have an:∀b∈(pr (x.more aa d)).fp,b∈(pr x).fp\/w1.heap.size<=b:=λb k=>by
     obtain⟨e,q,k⟩:=cB.1 k;simp only[aq,aL,aR]at q;rcases q with rfl|rfl|rfl|rfl
     .exact .inl (cB.2 ⟨.gr x.m.g x.gl,ws,k⟩)
     .exact .inl (cB.2 ⟨.rd x.m.h (x.hy.map aY),ws,k⟩)
     .exact .inl (cB.2 ⟨.rd x.m.c (x.cl.map aY),ws,k⟩)
     .rcases yC k with k|⟨e,q,k⟩
      .exact .inl (cB.2 ⟨b0 x.ds,ws,k⟩)
      .exact .inr (W e q b k)
    have M:=E.uF y.1 λe q b k=>by
     simp only[aq,aL,aR]at q;rcases q with rfl|rfl|rfl|rfl|rfl|rfl
     .exact .inr (.inl ⟨dT,ws,k⟩)
     .exact .inr (.inl ⟨eI,ws,k⟩)
     .exact .inr (.inl ⟨cG,ws,k⟩)
     .exact .inr (.inl ⟨.all (ls.map eb),ws,k⟩)
     .rcases an b k with k|k
      .exact .inr (.inl ⟨k7 (some x),ws,k⟩)
      .exact .inl k
     .exact .inr (.inl ⟨b0 ds,ws,k⟩)
    have af:=(C.c x rfl).1;have ak:r.length+1+ls.length+x.ds.length+ds.length<=4000:=bn;refine⟨y.1.fr,_,rfl,aP rfl ?_⟩;rw[sN T,<-ac];refine ih _ aB st aa ls (some (x.more aa d)) ds N ae (λz F=>Z z (by simp[F])) ?_ ?_ M
    .refine ⟨?_,C.l,λao Q=>?_,λB=>(by cases B),C.d⟩
     .show r.length+ls.length+(x.ds++[d]).length+ds.length<=4000;rw[a9];show r.length+ls.length+(x.ds.length+1)+ds.length<=4000;omega
     .cases Q;refine⟨⟨af.g,af.h,af.c,?_,λe q=>?_⟩,y.2 _ rfl⟩
      .show (x.ds++[d]).length<=100000;rw[a9];show x.ds.length+1<=100000;omega
      .rcases aW.1 q with q|q
       .exact af.d e q
       .rw [bY.1 q];unfold mq;rw[K];exact⟨co,co,co⟩
    .intro e q b k;simp only[aq,aL,aR]at q;rcases q with rfl|rfl|rfl
     .exact I _ ws b k
     .rcases an b k with k|k
      .exact I (k7 (some x)) ws b k
      .exact bz E.fr.size k
     .exact I _ ws b k
def aaK{U:List Ln}(I:∀k∈U,nN k)(L:U.length<=4000)(K:(cO (U.map bB)).length<=10000000){w:J}{D:List En}(d:dT∈D)(z:eI∈D)(y:cG∈D)(H:LH F0 w w [] D):
  aj V F6 #[.string (ba (cO (U.map bB)))] w (wy w (g6 Mc.o 0 U)):=by
 have Q:=bQ (cO (U.map bB));refine vn.aD _ w _ (H.aK λq M B=>aP (aV co) (B.nw λN O C=>C.nw λS P E=>E.ae7 2 rfl λA F=>?_));have G:LH F0 w A ([.g q]++oB M.heap.size N.heap.size ⟨none,0,0⟩ ⟨none,0,0⟩ ⟨none,0,0⟩ [] none []) (mL [] none []):=(((F.fN gT 4).fN dD 7).fN dD 7).kZ _ λe x=>by
  simp only[aq,aL,aR]at x;rcases x with rfl|rfl|rfl|rfl|rfl|rfl
  .exact ⟨λj=>j _ d,λb h=>⟨_,d,h⟩⟩
  .exact ⟨λj=>j _ z,λb h=>⟨_,z,h⟩⟩
  .exact ⟨λj=>j _ y,λb h=>⟨_,y,h⟩⟩
  .exact ⟨λ_=>λe d=>(by cases d),λb h=>by obtain⟨e,d,_⟩:=cB.1 h;cases d⟩
  .exact ⟨λ_=>λe d=>(by cases d),λb h=>by obtain⟨e,d,_⟩:=cB.1 h;cases d⟩
  .exact ⟨λ_=>λe d=>(by cases d),λb h=>by obtain⟨e,d,_⟩:=cB.1 h;cases d⟩
 exact aa' K (b2:=q) (w0:=w) U [] ⟨none,0,0⟩ ⟨none,0,0⟩ ⟨none,0,0⟩ [] none [] A rfl I ⟨by simpa[sK]using L,λk j=>(by cases j),λk j=>(by cases j),λ_=>rfl,λk j=>(by cases j)⟩ (λe d b h=>by simp only[aq,aL,aR]at d;rcases d with rfl|rfl|rfl<;>(obtain⟨e,d,_⟩:=cB.1 h;cases d)) G
set_option maxHeartbeats 2000000
namespace Cs
open gx
def LX{pl aB:Nat}:∀{l:List Sp} {i:Nat},(∀(j:Nat) (d:Sp),l[j]? =some d->j4 pl (i+j) aB d.x)->jA (bx l) (i:Int) (aB:Int)=0
 |[],_,_=>rfl
 |d::l,i,h=>by
  have g:=h 0 d rfl;rw[Nat.add_zero]at g;have B:eM d.x (i:Int) (aB:Int)=0:=by
   have y:¬(bl d.x.nm≠[]/\eZ (bl d.x.nm)=false):=by
    have:∀t∈ve,¬(bl t≠[]/\eZ (bl t)=false):=md
    exact this _ g.nm
   rw[HU (by have:=g.kind;omega) g.bR.1 y,av,ag]
   .rintro ⟨q,C⟩;have:=g.node.2 q;omega
   .rw [List.all_eq_true];intro A z;have:=g.hints.1 A z;rw[aQ co,aQ co];rfl
  have k:=LX (aB:=aB) (l:=l) (i:=i+1) λj e w=>by
   have:=h (j+1) e w
   rwa[show i+(j+1)=i+1+j by omega]at this
  show(if eM d.x (i:Int) (aB:Int)≠0 then eM d.x (i:Int) (aB:Int)else jA (bx l) ((i:Int)+1) (aB:Int))=0;rw[ag co];exact k
def Ao:∀{l:List Lx},(∀d∈l,gI d=0)->jL l=0
 |[],_=>rfl
 |k::l,h=>by rw[Aq (h k ws)];exact Ao λd j=>h d (by simp[j])
def UI{d:Sp}(h:fC 40 d.x):(fb d.x).length<=1400:=by have j:=da _ h.k.1;have q:=da _ h.k.2.1;have w:=da _ h.k.2.2;have y:=km _ h.p.2;have z:=km _ h.l.2;have A:=km _ h.h.2;have B:=h.p.1;have C:=h.l.1;have D:=h.h.1;have E:=h.t;have F:=ek d.x.params.length co;have G:=ek d.x.bR.length co;have H:=ek d.x.hints.length co;have I:=ek (bl d.x.nm).length (by rw[dQ];omega);have K:=dQ d.x.nm;unfold fb dS ea;simp only[a9];omega
def LV{ys:List Lx}{ds:List Sp}(w:∀d∈ys,hC 40 d)(y:ys.length<=2/\∀d∈ys,pW d)(A:kH 40 ds)(P:ds.length<=7)(z:∀i q,ds[i]? =some q->j4 2 i ys.length q.x):
  rE ys ds/\(g7 (cF ys ds)).length<=80000/\GZ (g7 (cF ys ds))=some (cF ys ds)/\lR ys (bx ds)=0:=by
 have F:(cF ys ds).ls.length=ys.length:=by simp[cF]
 have G:lR ys (bx ds)=0:=by unfold lR;rw[Ao λd j=>(y.2 d j).e,ag (λj=>j rfl)];exact LX (i:=0) λO q j=>by rw[Nat.zero_add];exact z O q j
 have H:∀l:List Lx,(∀d∈l,hC 40 d)->(∀d∈l,pW d)->(h7 (l.map Lx.p)).length<=30010 *l.length:=λl=>by
  induction l with
  |nil=>intro _ _;exact bm _
  |cons d l C=>
   intro w z;have a:=(Ab (w d ws) (z d ws)).2.1;have b:=C (λD B=>w D (by simp[B])) λD B=>z D (by simp[B]);have c:=ek (e9 d.p).length co;show(ea (e9 d.p)++h7 (l.map Lx.p)).length<=_;unfold ea;simp only[a9,bI];omega
 have I:∀l:List Sp,(∀q∈l,fC 40 q.x)->((bx l).flatMap fb).length<=1400 *l.length:=λl=>by
  induction l with
  |nil=>intro _;exact bm _
  |cons q l C=>
   intro j;have a:=UI (j q ws);have b:=C λe M=>j e (by simp[M]);show(fb q.x++(bx l).flatMap fb).length<=_;simp only[a9,bI];omega
 have hlen:(g7 (cF ys ds)).length<=80000:=by have a:=H ys w y.2;have b:=I ds A.2;have c:=da (ys.length:Int) (by constructor<;>omega);have e:=da (((bx ds).length:Nat):Int) (by simp;omega);have S:=y.1;unfold g7;rw[F];show(cd (ys.length:Int)++(h7 (ys.map Lx.p)++(cd (((bx ds).length:Nat):Int)++(bx ds).flatMap fb))).length<=80000;simp only[a9];omega
 have E:∀q∈ds,nS q.x:=λq K=>by have a:=A.2 q K;exact⟨a.k,a.p.2,a.l.2,a.h.2⟩
 refine⟨⟨co,λd j=>(Ab (w d j) (y.2 d j)).2.2,co,λq j=>((A.2 q j).le (by omega:40<=100)).BI,E,co⟩,hlen,ac4 (λQ N=>?_) (by rw[F];omega) (λs j=>?_) co,G⟩
 .obtain ⟨d,j,rfl⟩:=bK.1 N;exact(Ab (w d j) (y.2 d j)).1
 .obtain ⟨q,L,rfl⟩:=bK.1 j;exact E q L
def abX{n:Nat}{x y:Lx}(e:x.p=y.p)(h:hC n y):hC n x:=by
 have j:xs x.gl=xs y.gl:=congrArg Lp.g e;have z:x.hy=y.hy:=congrArg Lp.hy e;have w:x.cl=y.cl:=congrArg Lp.cl e;have k:bx x.ds=bx y.ds:=congrArg Lp.ss e;have E:=congrArg List.length j;have D:=congrArg List.length k;simp[xs]at E D;refine⟨⟨by have:=h.g.1;omega,by rw[j];exact h.g.2⟩,by rw[z];exact h.h,by rw[w];exact h.c,⟨by have:=h.s.1;omega,λd C=>?_⟩⟩;have:d.x∈bx y.ds:=by rw[<-k];exact bK.2 ⟨d,C,rfl⟩
 obtain⟨q,A,B⟩:=bK.1 this;rw[<-B];exact h.s.2 q A
end Cs
namespace tP
def Gs{l:List UInt8}(h:eZ l=true):∀c∈l,c≠32/\c≠10/\c≠40:=by
 have key:∀c:UInt8,dc c=true->c≠32/\c≠10/\c≠40:=λc k=>by refine⟨λe=>?_,λe=>?_,λe=>?_⟩<;>(subst e;revert k;decide)
 unfold eZ at h;split at h
 .cases h
 .rename_i c m;simp only[Bool.and_eq_true,List.all_eq_true]at h;intro d j;rcases aq.1 j with rfl|j
  .exact key d (by unfold dc;rw[h.1.2];rfl)
  .exact key d (h.2 d j)
def aca{l:List UInt8}(h:eZ l=true):l≠[45]:=λe=>by subst e;revert h;decide
def ae0{s:bO}{i aB:Int}(hi:nS s)(h:eM s i aB=0):kM s/\10∉cM s:=by
 have x:¬(s.kind<0\/s.kind>5):=λx=>by rw[HV x]at h;omega
 have w:gh s.bR=0:=by
  by_cases w:gh s.bR=0
  .exact w
  .rw [UG x w]at h;exact absurd h w
 have q:bl s.nm=[]\/eZ (bl s.nm)=true:=by
  by_cases q:bl s.nm≠[]/\eZ (bl s.nm)=false
  .rw [UH x w q]at h;omega
  .by_cases d:bl s.nm=[]
   .exact .inl d
   .refine .inr ?_;cases y:eZ (bl s.nm)with
    |true=>rfl
    |false=>exact absurd ⟨d,y⟩ q
 refine⟨⟨co,hi.k.2.1,hi.k.2.2,hi.p,hi.l,hi.h,λj=>?_,λe=>?_,λl e=>?_⟩,abu λj=>?_⟩
 .rcases q with d|d
  .rw [d]at j;cases j
  .exact (Gs d _ j).1 rfl
 .rcases q with d|d
  .rw [d]at e;cases e
  .exact aca d e
 .rcases q with d|d
  .rw [d]at e;cases e
  .exact (Gs d 40 (by rw[e];simp)).2.2 rfl
 .unfold hh at j;split at j
  .revert j;decide
  .rcases q with d|d
   .rw [d]at j;cases j
   .exact (Gs d _ j).2.1 rfl
def UP:∀{l:List bO} {i aB:Int},jA l i aB=0->∀s∈l,∃w,eM s w aB=0
 |[],_,_,_,s,d=>by cases d
 |q::l,i,aB,d,s,k=>by
  have h:(if eM q i aB≠0 then eM q i aB else jA l (i+1) aB)=0:=d;split at h
  .rename_i j;exact absurd h j
  .rename_i j;rcases aq.1 k with rfl|k
   .exact ⟨i,Classical.byContradiction j⟩
   .exact UP h s k
def Nt:∀{l:List bO} {i:Int},iW l i=0->∀s∈l,∃w,eM s w 0=0
 |[],_,_,s,h=>by cases h
 |q::l,i,h,s,k=>by
  have d:(if q.kind=4 then(12:Int)else if eM q i 0≠0 then eM q i 0 else iW l (i+1))=0:=h;split at d
  .exact absurd d md
  .split at d
   .rename_i j;exact absurd d j
   .rename_i j;rcases aq.1 k with rfl|k
    .exact ⟨i,Classical.byContradiction j⟩
    .exact Nt d s k
def jt(x:Lp):List Ln:=.b x::(x.ss.map .s++[.e])
def jO(p:Pp):List Ln:=p.ls.flatMap jt++p.ss.map .s
def abJ(x:Lp):(jt x).map bB=fu x:=by unfold jt fu;rw[hn,ez,List.map_map];rfl
def Nl(p:Pp):(jO p).map bB=jM p:=by unfold jO jM;rw[ez,List.map_map,List.map_flatMap];congr 1;exact congrArg (λf=>p.ls.flatMap f) (funext abJ)
def jy:Mc->List Ln->Option Mc
 |m,[]=>some m
 |m,t::r=>match jX m t with
  |none=>none
  |some d=>jy d r
def Bv:∀{a:List Ln} {m d:Mc} {b:List Ln},jy m a=some d->jy m (a++b)=jy d b
 |[],m,d,b,h=>by cases h;rfl
 |t::r,m,d,b,h=>by
  show(match jX m t with |none=>none|some d=>jy d (r++b))=_;have h:(match jX m t with |none=>none|some d=>jy d r)=some d:=h;split at h
  .cases h
  .exact Bv h
def TG:∀(ss:List bO) (ls:List Lp) (d:List bO),jy ⟨ls,none,d⟩ (ss.map .s)=some ⟨ls,none,d++ss⟩
 |[],ls,d=>by rw[ed];rfl
 |s::ss,ls,d=>by show jy ⟨ls,none,d++[s]⟩ (ss.map .s)=_;rw[TG ss,cN];rfl
def TE:∀(ss:List bO) (ls:List Lp) (x:Lp),jy ⟨ls,some x,[]⟩ (ss.map .s)=some ⟨ls,some ⟨x.g,x.hy,x.cl,x.ss++ss⟩,[]⟩
 |[],ls,x=>by rw[ed];rfl
 |s::ss,ls,x=>by show jy ⟨ls,some ⟨x.g,x.hy,x.cl,x.ss++[s]⟩,[]⟩ (ss.map .s)=_;rw[TE ss ls ⟨x.g,x.hy,x.cl,x.ss++[s]⟩];show some (⟨ls,some ⟨x.g,x.hy,x.cl,(x.ss++[s])++ss⟩,[]⟩:Mc)=_;rw[cN];rfl
def ad6(ls:List Lp)(x:Lp):jy ⟨ls,none,[]⟩ (jt x)=some ⟨ls++[x],none,[]⟩:=by show jy ⟨ls,some ⟨x.g,x.hy,x.cl,[]⟩,[]⟩ (x.ss.map .s++[.e])=_;rw[Bv (TE x.ss ls ⟨x.g,x.hy,x.cl,[]⟩)];rfl
def TF:∀(l ls:List Lp),jy ⟨ls,none,[]⟩ (l.flatMap jt)=some ⟨ls++l,none,[]⟩
 |[],ls=>by rw[ed];rfl
 |d::l,ls=>by rw[cU,Bv (ad6 ls d),TF l,cN];rfl
def ad7(p:Pp):jy Mc.o (jO p)=some ⟨p.ls,none,p.ss⟩:=by show jy ⟨[],none,[]⟩ (p.ls.flatMap jt++p.ss.map .s)=_;rw[Bv (TF p.ls []),TG p.ss];rfl
def RZ:∀{a:List Ln} {m h:Mc} {n:Nat} {b:List Ln},jy m a=some h->g6 m n (a++b)=g6 h (n+(cO (a.map bB)).length) b
 |[],m,h,n,b,d=>by cases d;rfl
 |t::r,m,h,n,b,d=>by
  have d:(match jX m t with |none=>none|some h=>jy h r)=some h:=d;split at d
  .cases d
  .rename_i k j;rw[List.cons_append,sN j,RZ d];congr 1;show _=n+((bB t++[10])++cO (r.map bB)).length;simp only[a9,bI,dH];omega
def acZ{p:Pp}(h:iH p=0):g6 Mc.o 0 (jO p)=(p,0,0):=by have d:=RZ (n:=0) (b:=[]) (ad7 p);rw[ed]at d;rw[d];show(if(none:Option Lp).isSome then _ else if iH ⟨p.ls,p.ss⟩=0 then _ else _)=_;rw[ag ws,av h]
def RY:∀{U:List Ln} {m:Mc} {n:Nat},(g6 m n U).2.2≠0->(g6 m n U).1=.e/\∃a b,U=a++b/\(g6 m n U).2.1=n+(cO (a.map bB)).length
 |[],m,n,d=>by
  have e:g6 m n []=if m.cur.isSome then(.e,n,2)else if iH ⟨m.ls,m.ss⟩=0 then(⟨m.ls,m.ss⟩,0,0)else(.e,n,iH ⟨m.ls,m.ss⟩):=rfl;rw[e]at d ⊢;split at d
  .rename_i h;rw[av h];exact⟨rfl,[],[],rfl,rfl⟩
  .rename_i h;rw[ag h];split at d
   .exact absurd rfl d
   .rename_i k;rw[ag k];exact⟨rfl,[],[],rfl,rfl⟩
 |t::r,m,n,d=>by
  cases j:jX m t with
  |none=>
   rw[GV j];exact⟨rfl,[],t::r,rfl,rfl⟩
  |some y=>
   rw[sN j]at d ⊢;obtain⟨q,a,b,w,x⟩:=RY d;refine⟨q,t::a,b,by rw[w];rfl,?_⟩;rw[x];show _=n+((bB t++[10])++cO (a.map bB)).length;simp only[a9,bI,dH];omega
def acH:∀(a:List (List UInt8)) (b:List UInt8),(cO a).length=0\/(cO a++b)[(cO a).length - 1]? =some 10:=λa b=>by
 rcases List.eq_nil_or_concat a with rfl|⟨l,d,rfl⟩
 .exact .inl rfl
 .right;have e:cO (l++[d])=(cO l++d)++[10]:=by rw[tg];show cO l++((d++[10])++[])=_;simp
  rw[List.concat_eq_append,e,cN _ [10],a9];simp
end tP
def za(w0:J)(ls:List (List UInt8))(r:Ending)(Y:J):Prop:=∃t:Sl,r=ae t.v/\aF Y cY 1 t (ls.map b3)/\∀b∈ax t,w0.heap.size<=b
def xS{p d:List UInt8}{n:Nat}(h:p.length+d.length<=n)(j:n<=9000000000000000000):¬(((ba p).size+(ba d).size:Nat):Int)>IntKind.i64.max:=by rw[bQ,bQ,IntKind.max_i64];omega
section
variable {w:J}
def XS{s t:Sl}{ls:List Lx}{ds:List Sp}(hb:rE ls ds)(hB:∀x∈ls,hC 40 x)(y:wC ls ds)(h:j6 w s ls)(ht:fB w t ds):
  aj V OQ #[.agg #[s.v,t.v]] w λr F=>za w (jM (cF ls ds)) r F/\af w F:=by
 have aI:=h.n;have aJ:=ht.n;have aH:=hb.n;have aC:=y.m;obtain⟨E,hT⟩:∃E,E=jM (cF ls ds):=⟨_,rfl⟩;rw[<-hT];have aB:E.length<=500000:=by
  have fl:∀l:List Lx,(∀x∈l,x.ds.length<=100)->(l.flatMap λx=>fu x.p).length<=102 *l.length:=λl=>by
   induction l with
   |nil=>intro _;exact bm _
   |cons x l W=>
    intro hh;have a:=W λaz ao=>hh az (by simp[ao]);have b:=hh x ws;have e:(fu x.p).length=x.ds.length+2:=by simp[fu,Lx.p]
    rw[cU,a9,bI];omega
  have a:=fl ls λx O=>(y.l x O).1;have b:=y.m;have fm:(ls.map Lx.p).flatMap fu=ls.flatMap λx=>fu x.p:=by rw[List.flatMap_map]
  have e:E.length=(ls.flatMap λx=>fu x.p).length+ds.length:=by rw[hT];unfold jM cF;dsimp only;rw[fm];simp
  omega
 refine m'.aD _ _ w _ ((bN (w:=w) [hN s ls,.sp t ds] (by
  intro e q;simp only[aq,aL,aR]at q;rcases q with rfl|rfl
  .exact jr.2 h
  .exact eA.2 ht)).aK λb w1 H1=>?_)
 have one:∀(D:List En) (bs:List Nat) (o:Sl) (a:List (List UInt8)) (l:List UInt8) (v:J) (L:List En) (K:Sl->J->Prop),a.length<=1000000->LH F0 w v (.g b::.row cY 1 o (a.map b3)::L) D->(∀aw∈bs,En.g aw∈.g b::.row cY 1 o (a.map b3)::L)->(∀G v',LH F0 w v' (.g b::.row cY 1 G ((a++[l]).map b3)::L) D->K G v')->
   dz v (.cells #[.string (ba l)] cY) λw1=>∃(x:Sl) (Q:J),Sem.run V (Builtin.append_ #[B2,B2] B2 #[o.v,.slice (some (nb v)) 1 1]) w1=.ok x.v Q/\kept bs w1 Q/\K x Q:=by
  intro D bs o a l v L K ha A C hK;have al:=(A.get 1:aF _ _ _ _ _).len;rw[gJ]at al;exact A.jh 1 uE rfl (λG v' H'=>hK G v' (by
   have e:a.map b3++#[Value.string (ba l)].toList=(a++[l]).map b3:=by simp[b3]
   rw[e]at H';exact H')) co (bF:=C)
 have av:∀(k i:Nat) (v:J) (o:Sl) (a:List (List UInt8)),i+k=ds.length->a++((bx ds).drop i).map cM=E->LH F0 w v [.g b,.row cY 1 o (a.map b3)] [hN s ls,.sp t ds]->
   m'.iv b s t o (i:Int) v λr F=>za w E r F/\af w F:=by
  intro k;induction k with
  |zero=>
   intro i v o a hi q A;rw[du (by simp;omega),List.map_nil,ed]at q;refine m'.kI _ _ _ _ _ _ _ (aP (aV co) ⟨⟨o,rfl,?_,λx O=>(A.new _ (aG (i:=1) rfl) x O).resolve_right id⟩,A.fr⟩);rw[<-q];exact A.get 1
  |succ k W=>
   intro i v o a hi q A;have C:ds[i]? =some ds[i]:=a' co;generalize ds[i]=B at C;have H:=aG C;have S:=eA.1 (A.getD 1);rw[BQ C,hn]at q;have P:=congrArg List.length q;simp only[a9,bI]at P;refine m'.kI _ _ _ _ _ _ _ (aM (aQ co) ⟨co,co,S.get C λp y=>?_⟩);rw[bo];refine⟨_,_,_,_,_,_,_,y.c0,y.c1,y.c2,y.c3,y.c4,y.c5,y.c6,A.aA (Jh (d:=B) (wC.d ‹wC ls ds› B H) (S.2 B H)) ?_⟩;rintro _ Q rfl H2;refine⟨_,rfl,one _ [b] o a (cM B.x) Q [] _ co H2 ws λG Y T=>?_⟩;rw[bb _ co];exact W (i+1) Y G (a++[cM B.x]) co (by rw[<-q];simp) T
 have ar:∀(k i:Nat) (v:J) (o:Sl) (a:List (List UInt8)),i+k=ls.length->a++((ls.drop i).flatMap (λx=>fu x.p)++(bx ds).map cM)=E->LH F0 w v [.g b,.row cY 1 o (a.map b3)] [hN s ls,.sp t ds]->
   m'.a8 b s t o (i:Int) v λr F=>za w E r F/\af w F:=by
  intro k;induction k with
  |zero=>
   intro i v o a hi q A;rw[du co]at q;exact m'.bJ _ _ _ _ _ _ _ (aP (aV co) (av ds.length 0 v o a co (by rw[List.drop_zero];exact q) A))
  |succ k W=>
   intro i v o a hi q A;have ad:=jr.1 (A.getD 0);have O:ls[i]? =some (ls[i]'co):=a' co;generalize ls[i]'co=x at O;have I:=aG O;have U:=hb.l x I;obtain⟨aE,ak⟩:=y.l x I;obtain⟨ae,ag,ah⟩:=y.h x I;have ex:(ls.drop i).flatMap (λx=>fu x.p)=fu x.p++(ls.drop (i+1)).flatMap λx=>fu x.p:=by rw[Ap O];rfl
   rw[ex]at q;have q:a++((gB x.p::((bx x.ds).map cM++[[101,110,100]]))++(ls.drop (i+1)).flatMap (λx=>fu x.p)++(bx ds).map cM)=E:=q;have P:=congrArg List.length q;simp only[a9,bI,gJ,dH]at P;have l1:=h8 U.h;have l2:=h8 U.c;have l3:=qu (di (xs x.gl));have C:=(hB x I).g;refine m'.bJ _ _ _ _ _ _ _ (aM (aQ co) ⟨co,co,ad.get O λp _ Z=>?_⟩);rw[bo];refine⟨_,_,_,_,Z.c0,Z.c1,Z.c2,Z.c3,A.aK λN w5 H5=>H5.ai λw6 H6=>H6.aA (wR ((so I (e:=.rd x.m.h (x.hy.map aY)) ws).1 _ (H6.getD 0)) U.h ae) ?_⟩;rintro _ w7 rfl H7;have e1:ByteArray.mk #[98,101,103,105,110,32]=ba [98,101,103,105,110,32]:=rfl;have e2:ByteArray.mk #[32]=ba [32]:=rfl;refine⟨_,rfl,?_⟩;rw[e1,e2];simp only[cL];refine⟨xS (n:=100000000) (by simp only[a9,bI,dH];omega) co,xS (n:=100000000) (by simp only[a9,bI,dH];omega) co,H7.aA (wR ((so I (e:=.rd x.m.c (x.cl.map aY)) ws).1 _ (H7.getD 0)) U.c ag) ?_⟩;rintro _ w8 rfl H8;refine⟨_,rfl,?_⟩;simp only[cL];refine⟨xS (n:=100000000) (by simp only[a9,bI,dH];omega) co,xS (n:=100000000) (by simp only[a9,bI,dH];omega) co,H8.jH (JF (ct.1 ((so I (e:=.gr x.m.g x.gl) ws).1 _ (H8.getD 0))) (λB H=>(C.2 B.x (bK.2 ⟨B,H,rfl⟩)).wd) (λB H=>U.z B.x (bK.2 ⟨B,H,rfl⟩)) co) λu w9 _ aa hu nu=>⟨u,rfl,?_⟩⟩;have H9:=aa.rd (.rd u ((di (xs x.gl)).map cq)) hu.rd (gq nu);refine H9.aA (Yi (show Bytes w9 u (di (xs x.gl))from H9.getD 2) ah) ?_;rintro _ ax rfl ab;refine⟨_,rfl,?_⟩;simp only[cL];refine⟨xS (n:=1000000000) (by simp only[a9,bI,dH];omega) co,?_⟩;have eb:[98,101,103,105,110,32]++cD x.hy++[32]++cD x.cl++[32]++eK (di (xs x.gl))=gB x.p:=by show _=[98,101,103,105,110]++32::(cD x.hy++32::(cD x.cl++32::eK (di (xs x.gl))));simp
   rw[eb];refine one _ [b,N] o a (gB x.p) ax [.g N] _ co ab ws λo1 ay ac=>?_;have au:∀(k j:Nat) (v:J) (o:Sl) (M:List (List UInt8)),j+k=x.ds.length->M++(((bx x.ds).drop j).map cM++[[101,110,100]]++(ls.drop (i+1)).flatMap (λx=>fu x.p)++(bx ds).map cM)=E->LH F0 w v [.g b,.row cY 1 o (M.map b3),.g N] [hN s ls,.sp t ds]->
     m'.cv b s t o (i:Int) N x.m.g x.m.h x.m.c x.m.s (j:Int) v λr F=>za w E r F/\af w F:=by
    intro k;induction k with
    |zero=>
     intro j v o M hj q A;rw[du (by simp;omega),List.map_nil,List.nil_append]at q;have am:=eA.1 ((so I (e:=.sp x.m.s x.ds) ws).1 _ (A.getD 0));have an:=am.n;have P:=congrArg List.length q;simp only[a9,bI,dH]at P;refine m'.dO _ _ _ _ _ _ _ _ _ _ _ _ _ (aP (aV co) (one _ [b,N] o M [101,110,100] v [.g N] _ co A ws λG Y T=>?_));rw[bb _ co];exact W (i+1) Y G (M++[[101,110,100]]) co (by rw[<-q];simp) (T.take 2)
    |succ k ap=>
     intro j v o M hj q A;have C:x.ds[j]? =some x.ds[j]:=a' co;generalize x.ds[j]=B at C;have H:=aG C;have S:=eA.1 ((so I (e:=.sp x.m.s x.ds) ws).1 _ (A.getD 0));have an:=S.n;rw[BQ C,hn]at q;have P:=congrArg List.length q;simp only[a9,bI]at P;refine m'.dO _ _ _ _ _ _ _ _ _ _ _ _ _ (aM (aQ co) ⟨co,co,S.get C λp y=>?_⟩);rw[bo];refine⟨_,_,_,_,_,_,_,y.c0,y.c1,y.c2,y.c3,y.c4,y.c5,y.c6,A.aA (Jh (d:=B) (ak B H) (S.2 B H)) ?_⟩;rintro _ Q rfl H2;refine⟨_,rfl,one _ [b,N] o M (cM B.x) Q [.g N] _ co H2 ws λG Y T=>?_⟩;rw[bb _ co];exact ap (j+1) Y G (M++[cM B.x]) co (by rw[<-q];simp) T
   refine au x.ds.length 0 ay o1 (a++[gB x.p]) co (by rw[List.drop_zero,<-q];simp) (ac.forget _ λe q=>by simp only[aq,aL,aR]at q;rcases q with rfl|rfl<;>simp)
 refine ar ls.length 0 w1 ⟨none,0,0⟩ [] co ?_ (H1.fN cY 1);rw[hT];have fm:(ls.map Lx.p).flatMap fu=ls.flatMap λx=>fu x.p:=by rw[List.flatMap_map]
 unfold jM cF;dsimp only;rw[fm,List.drop_zero,List.nil_append]
end
namespace tP
open gx Cs
structure wA(p:Pp):Prop where
 l:∀x∈p.ls,x.ss.length<=100/\∀s∈x.ss,j7 s
 h:∀x∈p.ls,x.hy.length<=1000000/\x.cl.length<=1000000/\(di x.g).length<=10000000
 m:p.ss.length<=100
 d:∀s∈p.ss,j7 s
 t:(cO (jM p)).length<=6000000
 n:(jO p).length<=1000
 k:∀x∈jO p,nN x
def wA.R5{ls:List Lx}{ds:List Sp}(h:wA (cF ls ds)):wC ls ds:=by
 refine⟨λk w=>?_,λk w=>?_,?_,λj q=>h.d j.x (bK.2 ⟨j,q,rfl⟩),by have:=h.t;omega⟩
 .obtain ⟨a,b⟩:=h.l k.p (bK.2 ⟨k,w,rfl⟩);exact⟨by simpa[Lx.p]using a,λj q=>b j.x (bK.2 ⟨j,q,rfl⟩)⟩
 .exact h.h k.p (bK.2 ⟨k,w,rfl⟩)
 .simpa [cF]using h.m
def aeU{s:bO}(h:fC 40 s)(d:0<=s.kind/\s.kind<=5):j7 s:=
 ⟨d,h.k.2.1,h.k.2.2,⟨h.p.2,by have:=h.p.1;omega⟩,⟨h.l.2,by have:=h.l.1;omega⟩,⟨h.h.2,by have:=h.h.1;omega⟩,by have:=h.t;omega⟩
def HR{s:bO}(h:fC 40 s):(cM s).length<=3000:=by have x:=m6 h.k.2.1;have y:=m6 h.k.2.2;have z:=h8 h.p.2;have A:=h8 h.l.2;have B:=h8 h.h.2;have C:=AT s;have D:=Cg s.kind;have d:=h.p.1;have j:=h.l.1;have q:=h.h.1;have w:=h.t;unfold cM;simp only[a9,bI];omega
def FD:∀l:List bO,(∀s∈l,(cM s).length<=3000)->(cO (l.map cM)).length<=3001 *l.length
 |[],_=>bm _
 |s::l,d=>by have a:=d s ws;have b:=FD l λj h=>d j (by simp[h]);show((cM s++[10])++cO (l.map cM)).length<=_;simp only[a9,bI,dH];omega
def BO{s:bO}(h:fC 40 s):nS s:=⟨h.k,h.p.2,h.l.2,h.h.2⟩
def UD{s:bO}{i aB:Int}(h:fC 40 s)(d:eM s i aB=0):nN (.s s)/\j7 s:=by obtain⟨a,b⟩:=ae0 (BO h) d;exact⟨⟨a,b,by have:=h.p.1;omega,by have:=h.l.1;omega,by have:=h.h.1;omega⟩,aeU h a.kind⟩
def Nb:∀{l:List Lp},qy l=0->∀d∈l,nh d=0
 |[],_,d,h=>by cases h
 |w::l,h,d,q=>by
  have j:(if nh w≠0 then nh w else qy l)=0:=h;split at j
  .rename_i k;exact absurd j k
  .rename_i k;rcases aq.1 q with rfl|q
   .exact Classical.byContradiction k
   .exact Nb j d q
def abh{x:Lp}(h:nh x=0):iW x.ss 0=0:=by
 unfold nh at h;split at h
 .rename_i d;exact absurd h d
 .split at h
  .split at h
   .rename_i d;exact absurd h d
   .exact h
  .cases h
structure tK(x:Lp):Prop where
 g:∀d∈x.g,nT d/\fV d
 n:x.g.length<=4096
 v:hB x.g=0
 h:nM 40 x.hy
 c:nM 40 x.cl
 e:(di x.g).length<=30000
 z:∀d∈x.g,(ep d).length<=1000000
structure kJ(n:Nat)(x:Lp):Prop where
 h:tK x
 n:x.ss.length<=n
 s:∀s∈x.ss,fC 40 s
structure nP(n:Nat)(p:Pp):Prop where
 nl:p.ls.length<=n
 l:∀x∈p.ls,kJ n x
 ns:p.ss.length<=n
 s:∀s∈p.ss,fC 40 s
def kJ.le{n m:Nat}{x:Lp}(h:kJ n x)(d:n<=m):kJ m x:=⟨h.h,bz h.n d,h.s⟩
def kJ.i{n:Nat}{x:Lp}(h:kJ n x):p0 x:=⟨λd j=>(h.h.g d j).2,h.h.n,h.h.v,h.h.h.2,h.h.c.2,λs k=>BO (h.s s k)⟩
def kJ.b{n:Nat}{x:Lp}(h:kJ n x):Cr x:=⟨h.i,h.h.g,by have:=h.h.h.1;omega,by have:=h.h.c.1;omega,by have:=h.h.e;omega⟩
def kJ.zw{n:Nat}{x:Lp}(h:kJ n x):(gB x).length<=70000:=by have d:=h8 h.h.h.2;have j:=h8 h.h.c.2;have k:=h.h.h.1;have q:=h.h.c.1;have w:=qu (di x.g);have y:=h.h.e;unfold gB;simp only[a9,bI,dH];omega
def E1{ys:List Lx}{ds:List Sp}(E:∀d∈ys,hC 40 d)(y:ys.length<=2/\∀d∈ys,pW d)(q:kH 40 ds)(G:ds.length<=7):nP 7 (cF ys ds):=by
 refine⟨by have:=y.1;simp[cF];omega,λL H=>?_,by simpa[cF]using G,λs x=>?_⟩
 .obtain ⟨d,A,rfl⟩:=bK.1 H;have b:=E d A;have g:=y.2 d A;obtain⟨B,K,C⟩:=Ab b g;have I:(di d.p.g).length<=(e9 d.p).length:=by unfold e9 ea;simp only[a9];omega
  refine⟨⟨λj q=>?_,B.n,B.v,b.h,b.c,co,C.z⟩,?_,λs x=>?_⟩
  .obtain ⟨D,F,rfl⟩:=bK.1 q;exact C.k.g D F
  .have:=g.n;show(bx d.ds).length<=7;simp;omega
  .obtain ⟨j,w,rfl⟩:=bK.1 x;exact b.s.2 j w
 .obtain ⟨j,w,rfl⟩:=bK.1 x;exact q.2 j w
def R4{p:Pp}(d:iH p=0):qy p.ls=0/\jA p.ss 0 (p.ls.length:Int)=0:=by
 unfold iH at d;split at d
 .rename_i h;exact absurd d h
 .rename_i h;exact⟨Classical.byContradiction h,d⟩
def nP.pl{n:Nat}{p:Pp}(h:nP n p)(K:n<=30)(F:iH p=0):wA p:=by
 obtain⟨D,E⟩:=R4 F;have C:∀s∈p.ss,nN (.s s)/\j7 s:=λs j=>by obtain⟨G,x⟩:=UP E s j;exact UD (h.s s j) x
 have B:∀d∈p.ls,∀s∈d.ss,nN (.s s)/\j7 s:=λd q s j=>by obtain⟨G,x⟩:=Nt (abh (Nb D d q)) s j;exact UD ((h.l d q).s s j) x
 have L:=h.nl;have M:=h.ns;refine⟨λd q=>⟨by have:=(h.l d q).n;omega,λs j=>(B d q s j).2⟩,λd q=>?_,co,λs j=>(C s j).2,?_,?_,λt k=>?_⟩
 .have a:=(h.l d q).b;exact⟨by have:=a.h;omega,by have:=a.c;omega,by have:=a.g;omega⟩
 .have f:∀l:List Lp,(∀d∈l,d∈p.ls)->(cO (l.flatMap fu)).length<=170000 *l.length:=λl=>by
   induction l with
   |nil=>intro _;exact bm _
   |cons d l z=>
    intro w;have a:=z λA y=>w A (by simp[y]);have q:=h.l d (w d ws);have H:=q.n;have I:=q.zw;have c:=FD d.ss λs j=>HR (q.s s j);rw[cU,tg,a9,bI];have e:(cO (fu d)).length=(gB d).length+1+((cO (d.ss.map cM)).length+4):=by rw[Vy,H9];simp only[a9,bI,dH]
    omega
  have a:=f p.ls λd h=>h;have b:=FD p.ss λs j=>HR (h.s s j);unfold jM;rw[tg,a9];omega
 .have f:∀l:List Lp,(∀d∈l,d∈p.ls)->(l.flatMap jt).length<=32 *l.length:=λl=>by
   induction l with
   |nil=>intro _;exact bm _
   |cons d l z=>
    intro w;have a:=z λA y=>w A (by simp[y]);have b:=(h.l d (w d ws)).n;rw[cU,a9,bI];have e:(jt d).length=d.ss.length+2:=by simp[jt]
    omega
  have a:=f p.ls λd h=>h;unfold jO;rw[a9,gJ];omega
 .rcases aW.1 k with k|k
  .obtain ⟨d,q,k⟩:=bX.1 k;unfold jt at k;rcases aq.1 k with rfl|k
   .exact (h.l d q).b
   .rcases aW.1 k with k|k
    .obtain ⟨s,j,rfl⟩:=bK.1 k;exact(B d q s j).1
    .rw [bY.1 k];trivial
  .obtain ⟨s,j,rfl⟩:=bK.1 k;exact(C s j).1
def nP.w{n:Nat}{ls:List Lx}{ds:List Sp}(h:nP n (cF ls ds))(T:n<=30):rE ls ds:=by
 have U:ls.length<=n:=by simpa[cF]using h.nl
 have W:ds.length<=n:=by simpa[cF]using h.ns
 have st:∀(l:List bO),(∀s∈l,fC 40 s)->(l.flatMap fb).length<=1400 *l.length:=λl=>by
  induction l with
  |nil=>intro _;exact bm _
  |cons s l D=>
   intro A;have a:=D λE C=>A E (by simp[C]);have b:(fb s).length<=1400:=UI (d:=⟨s,⟨none,0,0⟩,⟨none,0,0⟩,⟨none,0,0⟩⟩) (A s ws);rw[cU,a9,bI];omega
 have G:∀j∈ls,(e9 j.p).length<=100000:=λj B=>by have q:=h.l j.p (bK.2 ⟨j,B,rfl⟩);have a:=st j.p.ss q.s;have b:=q.n;have c:=q.h.e;have L:=km j.p.hy q.h.h.2;have M:=km j.p.cl q.h.c.2;have N:=ek j.p.hy.length (by have:=q.h.h.1;omega);have O:=ek j.p.cl.length (by have:=q.h.c.1;omega);have P:=ek (di j.p.g).length co;have Q:=da (j.p.ss.length:Int) (by constructor<;>omega);have I:=q.h.h.1;have K:=q.h.c.1;unfold e9;unfold ea dS g';simp only[a9];omega
 refine⟨co,λj B=>?_,co,λk y=>?_,λk y=>?_,?_⟩
 .have q:=h.l j.p (bK.2 ⟨j,B,rfl⟩);have H:∀k∈j.gl,k.x∈j.p.g:=λk y=>bK.2 ⟨k,y,rfl⟩;have F:∀k∈j.ds,fC 40 k.x:=λk y=>q.s k.x (bK.2 ⟨k,y,rfl⟩);refine⟨⟨λk y=>q.h.g _ (H k y),?_,?_,?_,λk y=>((F k y).le (by omega:40<=100)).BI⟩,q.h.h.2,q.h.c.2,λk y=>BO (F k y),q.h.z,by have:=G j B;omega⟩
  .have:j.hy.length<=40:=q.h.h.1;omega
  .have:j.cl.length<=40:=q.h.c.1;omega
  .have:(bx j.ds).length<=n:=q.n;simp at this;omega
 .exact ((h.s k.x (bK.2 ⟨k,y,rfl⟩)).le (by omega:40<=100)).BI
 .exact BO (h.s k.x (bK.2 ⟨k,y,rfl⟩))
 .have f:∀l:List Lx,(∀j∈l,j∈ls)->(h7 (l.map Lx.p)).length<=100010 *l.length:=λl=>by
   induction l with
   |nil=>intro _;exact bm _
   |cons j l D=>
    intro A;have a:=D λE C=>A E (by simp[C]);have b:=G j (A j ws);have c:=ek (e9 j.p).length co;show(ea (e9 j.p)++h7 (l.map Lx.p)).length<=_;unfold ea;simp only[a9,bI];omega
  have a:=f ls λj h=>h;have b:=st (bx ds) h.s;have S:(bx ds).length<=n:=h.ns;have c:=da ((((cF ls ds).ls.length:Nat)):Int) (by have:=h.nl;constructor<;>omega);have e:=da (((bx ds).length:Nat):Int) (by constructor<;>omega);unfold g7;show(cd _++(h7 (ls.map Lx.p)++(cd (((bx ds).length:Nat):Int)++(bx ds).flatMap fb))).length<=_;simp only[a9];omega
def pZ:Ln->Prop
 |.b d=>tK d
 |.s s=>fC 40 s
 |.e=>True
structure ze(n:Nat)(m:Mc):Prop where
 nl:m.ls.length<=n
 l:∀x∈m.ls,kJ n x
 c:∀x,m.cur=some x->kJ n x
 ns:m.ss.length<=n
 s:∀s∈m.ss,fC 40 s
def aeY{n:Nat}{m B:Mc}{t:Ln}(h:ze n m)(A:pZ t)(e:jX m t=some B):ze (n+1) B:=by
 obtain⟨ls,cur,y⟩:=m;have C:ls.length<=n:=h.nl;have D:y.length<=n:=h.ns;have x:∀q∈ls,kJ (n+1) q:=λq j=>(h.l q j).le co;cases t with
 |e=>
  cases cur with
  |none=>cases e
  |some q=>
   cases e;refine⟨by simp;omega,λk d=>?_,λk d=>(by cases d),by show y.length<=_;omega,h.s⟩;rcases aW.1 d with d|d
   .exact x k d
   .rw [bY.1 d];exact(h.c q rfl).le co
 |b q=>
  cases cur with
  |some k=>cases e
  |none=>
   cases y with
   |cons s r=>cases e
   |nil=>
    cases e;refine⟨by show ls.length<=_;omega,x,λk d=>?_,dI _,λs w=>(by cases w)⟩;cases d;have j:tK q:=A;exact⟨⟨j.g,j.n,j.v,j.h,j.c,j.e,j.z⟩,dI _,λs w=>(by cases w)⟩
 |s s=>
  have w:fC 40 s:=A;cases cur with
  |none=>
   cases e;refine⟨by show ls.length<=_;omega,x,λk d=>(by cases d),by simp;omega,λk d=>?_⟩;rcases aW.1 d with d|d
   .exact h.s k d
   .rw [bY.1 d];exact w
  |some q=>
   cases e;refine⟨by show ls.length<=_;omega,x,λk d=>?_,by show y.length<=_;omega,h.s⟩;cases d;have j:=h.c q rfl;refine⟨⟨j.h.g,j.h.n,j.h.v,j.h.h,j.h.c,j.h.e,j.h.z⟩,by have:=j.n;simp;omega,λk d=>?_⟩;rcases aW.1 d with d|d
   .exact j.s k d
   .rw [bY.1 d];exact w
def R0:∀{U:List Ln} {n k:Nat} {m:Mc} {q:Pp} {j:Nat},ze n m->(∀t∈U,pZ t)->g6 m k U=(q,j,0)->nP (n+U.length) q
 |[],n,k,m,q,j,h,_,e=>by
  have d:(if m.cur.isSome then((.e,k,2):Pp×Nat×Int)else if iH ⟨m.ls,m.ss⟩=0 then(⟨m.ls,m.ss⟩,0,0)else(.e,k,iH ⟨m.ls,m.ss⟩))=(q,j,0):=e;split at d
  .simp at d
  .split at d
   .cases d;exact⟨h.nl,h.l,h.ns,h.s⟩
   .rename_i y;simp only[Prod.mk.injEq]at d;exact absurd d.2.2 y
 |t::r,n,k,m,q,j,h,x,e=>by
  cases w:jX m t with
  |none=>
   rw[GV w]at e;simp at e
  |some B=>
   rw[sN w]at e;have:=R0 (aeY h (x t ws) w) (λA z=>x A (by simp[z])) e;rw[bI,show n+(r.length+1)=n+1+r.length by omega];exact this
def nP.Nk{n:Nat}{p:Pp}(h:nP n p):∀t∈jO p,pZ t:=λt d=>by
 rcases aW.1 d with d|d
 .obtain ⟨q,k,d⟩:=bX.1 d;unfold jt at d;rcases aq.1 d with rfl|d
  .exact (h.l q k).h
  .rcases aW.1 d with d|d
   .obtain ⟨s,j,rfl⟩:=bK.1 d;exact(h.l q k).s s j
   .rw [bY.1 d];trivial
 .obtain ⟨s,j,rfl⟩:=bK.1 d;exact h.s s j
def aao{ys:List Lx}{ds:List Sp}(j:∀d∈ys,hC 40 d)(w:ys.length<=2/\∀d∈ys,pW d)(k:kH 40 ds)(q:ds.length<=7)(h:lR ys (bx ds)=0):wA (cF ys ds):=
 (E1 j w k q).pl co (by rw[<-A'];exact h)
section
variable {w:J}
def RQ{U:List Ln}(z:∀G∈U,nN G)(C:U.length<=4000)(B:(cO (U.map bB)).length<=10000000)(y:dT.P w)(E:eI.P w)(A:cG.P w):
  aj V F6 #[.string (ba (cO (U.map bB)))] w λr h=>wy w (g6 Mc.o 0 U) r h/\af w h:=by
 refine(aaK z C B (D:=[dT,eI,cG]) ws ws ws (bN _ λe d=>?_)).mono λr h d=>?_
 .simp only[aq,aL,aR]at d;rcases d with rfl|rfl|rfl
  .exact y
  .exact E
  .exact A
 .obtain ⟨F,st,ls,j,e,k,q,x,f⟩:=d;exact⟨⟨F,st,ls,j,e,k,q,x,f⟩,f⟩
def aet{M:Nat->Prop}{w0:J}{D:List En}{aB st:Sl}{ys:List Lx}{ds:List Sp}(H:LH M w0 w [.row gT 4 aB ((ys.map Lx.m).flatMap Lm.cs),.row dD 7 st (ds.flatMap Sp.c)] (D++ys.map eb++[b0 ds])):LH M w0 w [] (D++[ia aB st ys ds]):=by
 have q:=(H.freeze 1 (.bd 7 st (ds.flatMap Sp.c)) rfl (aF.bd (H.get 1)) λb h=>Ha h).freeze 0 (.bd 4 aB ((ys.map Lx.m).flatMap Lm.cs)) rfl (aF.bd (H.get 0)) λb h=>Ha h;refine(q.take 0).kZ _ λe j=>?_;rcases aW.1 j with j|j
 .exact gx.h' (by simp[j])
 .rw [bY.1 j];refine⟨λk e d=>?_,λb h=>?_⟩
  .simp only[aq,aL,aR]at d;rcases d with rfl|rfl
   .intro e d;refine k e ?_;rcases aq.1 d with rfl|d
    .simp
    .simp [d]
   .intro e d;rcases aq.1 d with rfl|d
    .exact k _ ws
    .exact (k (b0 ds) ws:(b0 ds).P w) e d
  .obtain ⟨e,d,h⟩:=cB.1 h;simp only[aq,aL,aR]at d;rcases d with rfl|rfl
   .obtain ⟨e,d,h⟩:=cB.1 h;refine⟨e,?_,h⟩;rcases aq.1 d with rfl|d
    .simp
    .simp [d]
   .obtain ⟨e,d,h⟩:=cB.1 h;rcases aq.1 d with rfl|d
    .exact ⟨_,ws,h⟩
    .exact ⟨b0 ds,ws,cB.2 ⟨e,d,h⟩⟩
def abW{ys ls:List Lx}{ds h:List Sp}(j:∀d∈ys,hC 40 d)(q:cF ls h=cF ys ds):∀d∈ls,hC 40 d:=λd k=>by
 have:d.p∈(cF ys ds).ls:=by rw[<-q];exact bK.2 ⟨d,k,rfl⟩
 obtain⟨y,w,x⟩:=bK.1 this;exact abX x.symm (j y w)
def Zl{ys ls:List Lx}{ds d:List Sp}(j:kH 40 ds)(z:cF ls d=cF ys ds):kH 40 d:=by
 have e:bx d=bx ds:=congrArg Pp.ss z;refine⟨by have:=congrArg List.length e;simp at this;have:=j.1;omega,λh y=>?_⟩;have:h.x∈bx ds:=by rw[<-e];exact bK.2 ⟨h,y,rfl⟩
 obtain⟨k,q,w⟩:=bK.1 this;rw[<-w];exact j.2 k q
end
end tP
namespace tP
open gx Cs
def tK.zw{x:Lp}(h:tK x):(gB x).length<=70000:=(kJ.zw (n:=0) (x:=⟨x.g,x.hy,x.cl,[]⟩) ⟨⟨h.g,h.n,h.v,h.h,h.c,h.e,h.z⟩,bm _,λs d=>(by cases d)⟩:(gB ⟨x.g,x.hy,x.cl,[]⟩).length<=70000)
def pZ.len{t:Ln}(h:pZ t):(bB t).length<=70000:=by
 cases t with
 |b d=>exact tK.zw h
 |s s=>have:=HR (s:=s) h;show(cM s).length<=_;omega
 |e=>decide
def Nm:∀{Q:List Ln},(∀t∈Q,pZ t)->(cO (Q.map bB)).length<=70001 *Q.length
 |[],_=>bm _
 |t::r,d=>by have a:=(d t ws).len;have b:=Nm (Q:=r) λj h=>d j (by simp[h]);show((bB t++[10])++cO (r.map bB)).length<=_;simp only[a9,bI,dH];omega
structure zb(L:List Ln):Prop where
 k:∀t∈L,nN t
 s:∀t∈L,pZ t
 n:L.length<=28
def ab0:ze 0 Mc.o:=⟨bm _,λh d=>(by cases d),λh d=>(by cases d),bm _,λh d=>(by cases d)⟩
section
variable {w:J} {D:List En} {t:Sl} {L:List Ln}
abbrev Bt(o:Sl)(O:List Ln):En:=.row cY 1 o ((O.map bB).map b3)
open xi in
def q6(W:zb L)(hv:dT∈D)(ab:eI∈D)(hk:cG∈D)(ht:En.rd t ((L.map bB).map b3)∈D){k:Nat}(aB:k<L.length){o:Sl}{O:List Ln}(hO:∀d∈O,d∈L)(ax:O.length<=k+2){K:J}(H:LH F0 w K [Bt o O] D):hW t (k:Int) o K (rl w):=by
 have aw:=W.n;have aj:=(H.rd _ ht:Rd K t ((L.map bB).map b3));have aD:t.n=L.length:=by have:=aj.1;simpa using this
 have e1:ah .i64 ((k:Int)+1)=((k+1:Nat):Int):=bb k co;dsimp only[hW,ak];rw[e1];have aa:=Rd.sub aj (k+1) t.n co (by simp;omega);have an:(((L.map bB).map b3).take t.n).drop (k+1)=((L.drop (k+1)).map bB).map b3:=by rw[eh (by simp;omega),List.map_drop,List.map_drop]
 rw[an]at aa;have aC:o.n=O.length:=by have:=(H.get 0:aF _ _ _ _ _).len;simpa using this.symm
 refine⟨co,co,H.ap 0 uE (src:=sub t (k+1) t.n) (news:=((L.drop (k+1)).map bB).map b3) rfl aa.2.2 (by have:=aa.1;omega) (λu hu=>by obtain⟨d,_,rfl⟩:=bK.1 hu;rfl) (by show(o.n+(t.n - (k+1))) *16<=_;omega) λo' w2 M _ _=>?_⟩;obtain⟨j,Q⟩:∃j,j=O++L.drop (k+1):=⟨_,rfl⟩;have M:LH F0 w w2 [Bt o' j] D:=by rw[Q];show LH F0 w w2 [.row cY 1 o' (((O++L.drop (k+1)).map bB).map b3)] D;rw[ez,ez];exact M
 have hQ:∀d∈j,d∈L:=λd h=>by
  rw[Q]at h;rcases aW.1 h with h|h
  .exact hO d h
  .exact List.mem_of_mem_drop h
 have ag:j.length<=30:=by rw[Q,a9,List.length_drop];omega
 have aq:∀d∈j,nN d:=λd h=>W.k d (hQ d h);have Z:∀d∈j,pZ d:=λd h=>W.s d (hQ d h);have ar:=Nm Z;refine M.call (Jk (aF.gK (M.get 0)) (λd h=>?_) (by simp;omega)) ?_
 .obtain ⟨l,hl,rfl⟩:=bK.1 h;have:=(Z l hl).len;omega
 rintro _ w3 rfl N;obtain⟨C,S⟩:∃C,C=cO (j.map bB):=⟨_,rfl⟩;have hP:=RQ aq co co (N.rd _ hv) (N.rd _ ab) (N.rd _ hk);rw[<-S]at hP ar ⊢;refine⟨_,rfl,N.zJ hP ?_⟩;obtain⟨p,I⟩:∃p,p=g6 Mc.o 0 j:=⟨_,rfl⟩;rw[<-I];rintro _ w4 ⟨al,am,B,y,rfl,x,ac,au,_⟩ _ F4;have H4:=F4.rd (ia al am B y) ac au;have lv:∀{Y:J} {b:Nat} {A E:List En},LH F0 w Y A (D++E)->eJ [b] V FR #[] Y λr K=>∃d,r=Ending.returned (Value.bool d)/\rl w (Ending.returned (Value.bool d)) K:=λ{Y} {b} {A} {E} H=>by refine H.aA (Jy (H.rd _ (bG _ hv)) (H.rd _ (bG _ ab))) ?_;rintro _ w5 rfl G;exact⟨_,rfl,rfl,G.fr⟩
 obtain⟨ae,n,e⟩:=p;refine⟨_,_,_,_,rfl,H4.aK λb w5 G=>aO (λz=>G.ai λw6 q=>?_) (λz=>?_)⟩
 .have z:e=0:=z;subst z;obtain⟨F,P,a3⟩:=RX (.inl rfl) I.symm;have F:jM ae=j.map bB:=F;have x:cF B y=ae:=x;have ad:=R0 ab0 Z I.symm;rw[Nat.zero_add]at ad;have pw:rE B y:=nP.w (by rw[x];exact ad) ag;have av:wA (cF B y):=by rw[x];exact ad.pl ag a3
  refine q.aA (acT pw av.R5 (mJ (q.rd _ (dL _ (bY.2 rfl)))).1 (mJ (q.rd _ (dL _ (bY.2 rfl)))).2 (q.rd _ (bG _ hk)) (q.rd _ (bG _ hv)) (q.rd _ (bG _ ab)) (by rw[A',x];exact a3)) ?_;rw[x,F,<-S];rintro _ w7 rfl H7;refine⟨_,_,rfl,aM (by subst P;rfl) (aM rfl (aM ws (lv H7)))⟩
 .have z:e≠0:=z;have hb:=RY (U:=j) (m:=Mc.o) (n:=0) (by rw[<-I];exact z);rw[<-I]at hb;obtain⟨T,a,b',h2,h3⟩:=hb;have T:ae=.e:=T;have h3:n=0+(cO (a.map bB)).length:=h3;have x:cF B y=.e:=by rw[<-T];exact x
  have l0:al.n=0/\am.n=0:=by
   have F:=(mJ ac).1.n;have P:=(mJ ac).2.n;have n1:(cF B y).ls.length=0:=by rw[x];rfl
   have n2:(cF B y).ss.length=0:=by rw[x];rfl
   simp[cF]at n1 n2;rw[n1]at F;rw[n2]at P;exact⟨F,P⟩
  have hT:C=cO (a.map bB)++cO (b'.map bB):=by rw[S,h2,ez,tg]
  have ay:n<=C.length:=by rw[hT,a9];omega
  have az:=bQ C;refine aM (by rw[l0.1,l0.2];rfl) (aM (aQ (by show(0:Int)<=(n:Int);omega)) (aM (aQ (by show(n:Int)<=_;omega)) (aO (λ_=>G.ai λw6 q=>lv q) (λhn=>?_))));have hn:(n:Int)≠0:=hn;have e2:ah .i64 ((n:Int) - 1)=((n - 1:Nat):Int):=by rw[aN _ co];omega
  have ao:(ba C)[n - 1]? =some 10:=by
   rw[Dt,hT];rcases acH (a.map bB) (cO (b'.map bB))with af|af
   .omega
   .rw [show n - 1=(cO (a.map bB)).length - 1 by omega];exact af
  show(0:Int)<=ah .i64 ((n:Int) - 1)/\_;rw[e2,bo];exact⟨co,10,ao,aM rfl (G.ai λw6 q=>lv q)⟩
def Nj(H:Rd w t ((L.map bB).map b3)){i:Nat}{x:Ln}(hi:L[i]? =some x){K:Addr->Prop}(d:∀p,t.a=some p->w.cell? (p.add (Int.toNat (i:Int) *1))=some (.string (ba (bB x)))->K p):dV t.a K:=
 Rd.get H (i:=i) (v:=b3 (bB x)) (by rw[ib,ib,hi];rfl) (by rw[bo]) d
open xi in
def q5(z:zb L)(F:dT∈D)(G:eI∈D)(E:cG∈D)(j:En.rd t ((L.map bB).map b3)∈D){k:Nat}(h:k<L.length){A:Int}(M:aX A){o:Sl}{O:List Ln}(B:∀x∈O,x∈L)(U:O.length<=k+1){q:J}(H:LH F0 w q [Bt o O] D):jF A t (k:Int) o q (rl w):=by
 have T:=z.n;have Z:t.n=L.length:=by have:=(H.rd _ j:Rd q t ((L.map bB).map b3)).1;simpa using this
 have W:o.n=O.length:=by have:=(H.get 0:aF _ _ _ _ _).len;simpa using this.symm
 dsimp only[jF,ak];refine H.call (iF A 3 q co M) ?_;rintro _ w2 rfl y;refine⟨_,rfl,aE (λ_=>⟨co,co,?_⟩) (λ_=>q6 z F G E j h B co y)⟩;have C:L[k]? =some L[k]:=a' h;generalize N:L[k]=x at C;refine Nj (y.rd _ j) C λp Y K=>⟨_,K,y.qd 0 uE rfl (λP Q I _ _=>q6 (O:=O++[x]) z F G E j h (λS d=>?_) (by simp;omega) ?_) co⟩
 .rcases aW.1 d with d|d
  .exact B S d
  .rw [bY.1 d,<-N];exact List.getElem_mem h
 .show LH F0 w Q [.row cY 1 P (((O++[x]).map bB).map b3)] D;rw[ez,ez];exact I
open xi in
def q4(F:zb L)(M:dT∈D)(N:eI∈D)(W:cG∈D)(j:En.rd t ((L.map bB).map b3)∈D){h q I:Int}(ha:aX h)(ac:aX q)(G:aX I){C:J}{A:List En}(H:LH F0 w C A D):fU h q I t C (rl w):=by
 have ad:=F.n;have aa:=(H.rd _ j:Rd C t ((L.map bB).map b3));have ah:t.n=L.length:=by have:=aa.1;simpa using this
 have ag:=aa.2.1;have x:=H.take 0;dsimp only[fU,ak];refine aO (λ_=>?_) (λZ=>?_)
 .refine x.call (Jy (x.rd _ M) (x.rd _ N)) ?_;rintro _ w5 rfl z;exact⟨_,rfl,rfl,z.fr⟩
 have Z:(t.n:Int)≠0:=Z;refine x.call (iF h (t.n:Int) C co ha) ?_;rintro _ w2 rfl Q;obtain⟨k1,k2⟩:=ji h (t.n:Int) co;generalize gA h (t.n:Int)=k0 at *;obtain⟨d,rfl⟩:=Int.eq_ofNat_of_zero_le k1;have Y:d<L.length:=co
 have K:=Rd.sub (Q.rd _ j:Rd w2 t ((L.map bB).map b3)) 0 d co (by simp;omega);have ab:(((L.map bB).map b3).take d).drop 0=((L.take d).map bB).map b3:=by rw[List.drop_zero,List.map_take,List.map_take]
 rw[ab]at K;refine⟨_,rfl,k1,co,?_⟩;rw[bo];refine(Q.fN cY 1).ap 0 uE (s:=⟨none,0,0⟩) (src:=sub t 0 d) (news:=((L.take d).map bB).map b3) rfl K.2.2 (by have:=K.1;omega) (λu hu=>by obtain⟨E,_,rfl⟩:=bK.1 hu;rfl) (by show(0+(d - 0)) *16<=_;omega) λo w3 y _ _=>?_;have y:LH F0 w w3 [Bt o (L.take d)] D:=y;have af:o.n=(L.take d).length:=by have:=(y.get 0:aF _ _ _ _ _).len;simpa using this.symm
 have ae:(L.take d).length=d:=by rw[eT];omega
 refine y.call (iF I 3 w3 co G) ?_;rintro _ w4 rfl S;refine⟨_,rfl,aE (λ_=>?_) (λ_=>q5 F M N W j Y G (λE P=>hP P) co S)⟩;refine S.call (iF q (t.n:Int) w4 co ac) ?_;rintro _ w5 rfl z;obtain⟨j1,j2⟩:=ji q (t.n:Int) co;generalize gA q (t.n:Int)=j0 at *;obtain⟨B,rfl⟩:=Int.eq_ofNat_of_zero_le j1;have U:B<L.length:=co
 have T:L[B]? =some L[B]:=a' U;generalize P:L[B]=E at T;refine⟨_,rfl,j1,co,Nj (z.rd _ j) T λp hp hc=>⟨_,hc,z.qd 0 uE rfl (λo' w6 H6 _ _=>q5 (O:=L.take d++[E]) F M N W j Y G (λai k=>?_) (by simp;omega) ?_) co⟩⟩
 .rcases aW.1 k with k|k
  .exact hP k
  .rw [bY.1 k,<-P];exact List.getElem_mem U
 .show LH F0 w w6 [.row cY 1 o' (((L.take d++[E]).map bB).map b3)] D;rw[ez,ez];exact H6
def iQ(l:List Lx):Nat:=(l.map λd=>d.ds.length).sum
def Y3{l:List Lx}{i:Nat}{y:Lx}(h:l[i]? =some y):iQ (l.take (i+1))=iQ (l.take i)+y.ds.length:=by unfold iQ;rw[List.take_add_one,h];simp
def Y4{l:List Lx}(h:∀d∈l,d.ds.length<=40):iQ l<=40 *l.length:=by
 induction l with
 |nil=>exact bm _
 |cons d l k=>
  have a:=k λq j=>h q (by simp[j]);have b:=h d ws;unfold iQ at a ⊢;simp only[hn,List.sum_cons,bI];omega
def abK(ls:List Lx)(ds:List Sp):(jO (cF ls ds)).length=ds.length+2 *ls.length+iQ ls:=by
 have f:∀l:List Lx,((l.map Lx.p).flatMap jt).length=2 *l.length+iQ l:=λl=>by
  induction l with
  |nil=>rfl
  |cons d l h=>
   have e:(jt d.p).length=d.ds.length+2:=by simp[jt,Lx.p]
   rw[hn,cU,a9,e,h];simp only[iQ,hn,List.sum_cons,bI];omega
 unfold jO;show(((ls.map Lx.p).flatMap jt)++(bx ds).map Ln.s).length=_;rw[a9,f ls,gJ];simp;omega
def UQ:∀{a b:List bO} {i aB:Int},jA (a++b) i aB=0->jA a i aB=0
 |[],_,_,_,_=>rfl
 |s::a,b,i,aB,j=>by
  have d:(if eM s i aB≠0 then eM s i aB else jA (a++b) (i+1) aB)=0:=j;show(if eM s i aB≠0 then eM s i aB else jA a (i+1) aB)=0;split at d
  .rename_i h;exact absurd d h
  .rename_i h;rw[ag h];exact UQ d
def aeB{st:Sl}{ds:List Sp}(h:fB w st ds){k:Nat}(y:k<=ds.length):fB w (nA 7 st 0 k) (ds.take k):=by
 have z:=h.n;refine⟨?_,λd q=>h.2 d (hP q)⟩;have j:=bL.sub h.1 0 k co co;have e:((ds.flatMap Sp.c).take (k *7)).drop (0 *7)=(ds.take k).flatMap Sp.c:=by
  rw[Nat.zero_mul,List.drop_zero];have f:∀(l:List Sp) (k:Nat),(l.flatMap Sp.c).take (k *7)=(l.take k).flatMap Sp.c:=λl=>by
   induction l with
   |nil=>intro k;simp
   |cons d l x=>
    intro k;cases k with
    |zero=>simp
    |succ k=>
     rw[cU,List.take_succ_cons,cU,<-x k,List.take_append];have e:(Sp.c d).length=7:=rfl;rw[e,eh (by rw[e];omega),show(k+1) *7 - 7=k *7 by omega]
  exact f ds k
 rw[e]at j;exact j
open xi in
def aba{E m1:Sl}{xs ms:List Int}{Z am ae:Int}(hx:∀y∈xs,aX y)(aW:xs.length<=9223372036854775807)(hy:∀y∈ms,aX y)(aT:ms.length<=9223372036854775807)(S:bq w E xs)(hm:bq w m1 ms)(ha:aX Z)(ay:aX am)(hh:aX ae)(hk:cG.P w)(he:lx w)(hw:eI.P w):
  aj V FQ #[E.v,m1.v,.i Z,.i am,.i ae] w (rl w):=by
 have G:LH F0 w w [] [cG,dT,eI,.rd E (xs.map aY),.rd m1 (ms.map aY)]:=bN _ (by
  intro e q;simp only[aq,aL,aR]at q;rcases q with rfl|rfl|rfl|rfl|rfl
  .exact hk
  .exact he
  .exact hw
  .exact S
  .exact hm)
 refine aD _ _ _ _ _ w _ ((X3 hx aW hy aT (cy:=7) co ws ws G).mono ?_);rintro _ w1 ⟨z,st,j,h,rfl,H1,H,_,F,db,dl,dg⟩;have H3:=aet H1;have Q:kH 40 h:=⟨co,db⟩;obtain⟨pw,pB,pr,p0⟩:=LV H.2 F Q dl dg;have aB:=aao H.2 F Q dl p0;have a3:=E1 H.2 F Q dl;have pP:iH (cF j h)=0:=by rw[<-A'];exact p0
 have ar:=abK j h;have a5:iQ j<=4 *j.length:=by
  have:∀l:List Lx,(∀y∈l,y.ds.length<=4)->iQ l<=4 *l.length:=λl=>by
   induction l with
   |nil=>intro _;exact bm _
   |cons y l ih=>
    intro q;have a:=ih λao A=>q ao (by simp[A]);have b:=q y ws;unfold iQ at a ⊢;simp only[hn,List.sum_cons,bI];omega
  exact this j λy q=>(F.2 y q).n
 have y2:=F.1;obtain⟨L,eL⟩:∃L,L=jO (cF j h):=⟨_,rfl⟩;have hL:zb L:=by rw[eL];exact⟨aB.k,a3.Nk,co⟩
 have aH:jM (cF j h)=L.map bB:=by rw[eL,Nl]
 rw[<-eL]at ar;refine⟨_,_,rfl,H3.aK λb w2 G2=>G2.ai λw3 G3=>G3.kc (XS pw H.2 aB.R5 (mJ (G3.getD 5)).1 (mJ (G3.getD 5)).2) ?_⟩;rw[aH];rintro _ w4 ⟨t,rfl,row,nw⟩ _ F4;have N:=F4.rd (.rd t ((L.map bB).map b3)) (aF.gK row) (gq nw);have K:ia z st j h∈[cG,dT,eI,.rd E (xs.map aY),.rd m1 (ms.map aY)]++[ia z st j h]++[En.rd t ((L.map bB).map b3)]:=ws
 have T:En.rd t ((L.map bB).map b3)∈[cG,dT,eI,.rd E (xs.map aY),.rd m1 (ms.map aY)]++[ia z st j h]++[En.rd t ((L.map bB).map b3)]:=ws
 have ab:cG∈[cG,dT,eI,.rd E (xs.map aY),.rd m1 (ms.map aY)]++[ia z st j h]++[En.rd t ((L.map bB).map b3)]:=ws
 have ac:dT∈[cG,dT,eI,.rd E (xs.map aY),.rd m1 (ms.map aY)]++[ia z st j h]++[En.rd t ((L.map bB).map b3)]:=ws
 have ad:eI∈[cG,dT,eI,.rd E (xs.map aY),.rd m1 (ms.map aY)]++[ia z st j h]++[En.rd t ((L.map bB).map b3)]:=ws
 generalize[cG,dT,eI,.rd E (xs.map aY),.rd m1 (ms.map aY)]++[ia z st j h]++[En.rd t ((L.map bB).map b3)]=D at N K T ab ac ad;have av:=(mJ (N.rd _ K)).2.n;have a6:=(mJ (N.rd _ K)).1.n;have ax:=(N.rd _ T:Rd w4 t ((L.map bB).map b3));have aU:t.n=L.length:=by have:=ax.1;simpa using this
 have a8:=ax.2.1;refine⟨t,rfl,?_⟩;have e0:ah .i64 ((st.n:Int)+ah .i64 (2 *(z.n:Int)))=((h.length+2 *j.length+iQ (j.take 0):Nat):Int):=by have:iQ (j.take 0)=0:=rfl;rw[aN (2 *_) co,aN _ co];omega
 rw[e0];show cv Z am ae b z st t _ ((0:Nat):Int) w4 (rl w);have loop:∀(d i:Nat) (M:J),i+d=j.length->LH F0 w M [.g b] D->cv Z am ae b z st t ((h.length+2 *j.length+iQ (j.take i):Nat):Int) (i:Int) M (rl w):=by
  intro d;induction d with
  |succ d ih=>
   intro i M hi G;have af:j[i]? =some (j[i]'co):=a' co;generalize j[i]'co=y at af;have az:=aG af;have ap:=(mJ (G.rd _ K)).1;have cn:y.m.s.n=y.ds.length:=fB.n (ap.2 y az).2.2.2;refine dO _ _ _ _ _ _ _ _ _ _ _ (aM (aQ co) ⟨co,co,ap.get af λp _ hc=>⟨y.m.s,by rw[bo];exact hc.c3,?_⟩⟩);have c1:=Y3 af;have c2:iQ (j.take i)<=100:=by
    have:=Y4 (l:=j.take i) λao A=>by have:=(F.2 ao (hP A)).n;omega
    rw[eT]at this;omega
   have y4:=(F.2 y az).n;show cv _ _ _ _ _ _ _ (ah .i64 (((h.length+2 *j.length+iQ (j.take i):Nat):Int)+(y.m.s.n:Int))) (ah .i64 ((i:Int)+1)) _ _;rw[bb _ co,aN _ co,cn];have:=ih (i+1) M co G;rw[c1]at this;rw[show((h.length+2 *j.length+iQ (j.take i):Nat):Int)+(y.ds.length:Int)=((h.length+2 *j.length+(iQ (j.take i)+y.ds.length):Nat):Int)by omega];exact this
  |zero=>
   intro i M hi G;rw[eh co,<-ar];refine dO _ _ _ _ _ _ _ _ _ _ _ (aP (aV co) (dA (λq=>absurd co q) (λ_=>aE (λhs=>?_) (λ_=>q4 hL ac ad ab T ha ay hh G))));have e1:ah .i64 ((t.n:Int) - 1)=((t.n - 1:Nat):Int):=by rw[aN _ co];omega
   have e2:ah .i64 ((st.n:Int) - 1)=((h.length - 1:Nat):Int):=by rw[aN _ co];omega
   rw[e1,e2,bo,bo];obtain⟨B,I⟩:∃B,B=cF j (h.take (h.length - 1)):=⟨_,rfl⟩;have C:h≠[]:=λq=>by rw[q]at av;simp at av;omega
   have aO:h=h.take (h.length - 1)++[h.getLast C]:=by rw[<-List.dropLast_eq_take];exact(List.dropLast_concat_getLast C).symm
   have xe:bx h=bx (h.take (h.length - 1))++[(h.getLast C).x]:=(congrArg bx aO).trans (by show(h.take (h.length - 1)++[h.getLast C]).map Sp.x=_;rw[ez];rfl)
   have aJ:L.take (t.n - 1)=jO B:=by
    have e:L=jO B++[.s (h.getLast C).x]:=by rw[eL,I];unfold jO;show(j.map Lx.p).flatMap jt++(bx h).map Ln.s=((j.map Lx.p).flatMap jt++(bx (h.take (h.length - 1))).map Ln.s)++[Ln.s (h.getLast C).x];rw[cN];congr 1;refine(congrArg (λl=>l.map Ln.s) xe).trans ?_;show(bx (h.take (h.length - 1))++[(h.getLast C).x]).map Ln.s=_;rw[ez];rfl
    have S:t.n - 1=(jO B).length:=by rw[aU,e];simp
    rw[S,e,List.take_left]
   have aa:kH 40 (h.take (h.length - 1)):=⟨by rw[eT];omega,λd Q=>db d (hP Q)⟩;have Qs:nP 7 B:=by rw[I];exact E1 H.2 F aa (by rw[eT];omega)
   have QP:iH B=0:=by obtain⟨a1,a2⟩:=R4 pP;rw[I];unfold iH;rw[ag (λq=>q a1)];refine UQ (b:=[(h.getLast C).x]) ?_;show jA (bx (h.take (h.length - 1))++[(h.getLast C).x]) 0 _=0;rw[<-xe];exact a2
   have Y:=Qs.pl co QP;have aw:=Rd.sub (G.rd _ T:Rd M t ((L.map bB).map b3)) 0 (t.n - 1) co (by simp;omega);have aI:(((L.map bB).map b3).take (t.n - 1)).drop 0=((jO B).map bB).map b3:=by rw[List.drop_zero,<-List.map_take,<-List.map_take,aJ]
   rw[aI]at aw;refine⟨co,co,G.aA (Jk (s:=sub t 0 (t.n - 1)) aw (λbc hx=>?_) (by have:=Y.n;simp;omega)) ?_⟩
   .obtain ⟨l,S,rfl⟩:=bK.1 hx;have:=(Qs.Nk l S).len;omega
   rintro _ w6 rfl W;have au:=RQ Y.k (by have:=Y.n;omega) (by rw[Nl];have:=Y.t;omega) (W.rd _ ac) (W.rd _ ad) (W.rd _ ab);rw[acZ QP]at au;refine⟨_,rfl,W.kc au ?_⟩;rintro _ w7 ⟨ak,al,U,O,rfl,A,aZ,a0,_⟩ _ F7;have A:cF U O=B:=A;have H7:=F7.rd (ia ak al U O) aZ a0;have a7:=(mJ (H7.rd (ia z st j h) (bG _ K))).2.1.2.1;refine⟨_,_,_,_,rfl,H7.aK λb2 w8 H8=>⟨co,co,H8.aK λa4 w9 H9=>aP rfl (H9.ai λa9 an=>?_)⟩⟩;have hq:ia ak al U O∈D++[ia ak al U O]:=ws
   have P1:=mJ (an.rd (ia z st j h) (bG _ K));have P2:=mJ (an.rd _ hq);have aS:(g7 B).length<=10000000:=by
    have:=(LV H.2 F aa (by rw[eT];omega) λi d q=>dg i d (by
     rw[List.getElem?_take]at q;split at q
     .exact q
     .cases q)).2.1
    rw[I];omega
   refine an.aA (X2 (s':=z) (t':=nA 7 st 0 (h.length - 1)) (abW H.2 (by rw[A,I])) (Zl aa (by rw[A,I])) H.2 aa (by rw[A];exact aS) (by have:=Qs.nl;rw[<-A]at this;simp[cF]at this;omega) (by rw[A,I]) P2.1 P2.2 P1.1 (aeB P1.2 co)) ?_;rintro _ ba rfl aC;exact⟨_,rfl,aP rfl (q4 (D:=D++[ia ak al U O]) hL (bG _ ac) (bG _ ad) (bG _ ab) (bG _ T) ha ay hh aC)⟩
 exact loop j.length 0 w4 co N
end
end tP
def yY{P:aH}{W:J}{n:String}{g m:Nat}{cs:Array aa}{vs:List aa}(h:P.globalNamed n=some g)(q:W.var? P n=some cs)(e:cs.toList=vs)(k:m=vs.length):Rd W ⟨some (ab g),m,m⟩ vs:=by refine Bl k (bm _) (λd=>by cases d) λi v j=>⟨ab g,rfl,?_⟩;rw[show(ab g).add i=⟨g,i,none⟩from IW g i,World.var?_cell h q i,<-j,<-e,Array.getElem?_toList]
def afa{P:aH}{w:J}{fuel n:Nat}{t e:TypeId}{cs:List aa}{U:List (List UInt8)}{p:List MemPlace}(F:P.underlying t=some (.array n e))(C:P.underlying e=some .string)(A:P.cellsOf e=1)(I:P.cellsOf t=n)(h:DataW.trod (λ_=>()) P w 0 (λ_=>true) false fuel t cs=some (.agg (U.map λs=>.lit (.string s)),p)):cs=U.map b3:=by
 obtain⟨xs,m,rfl,G,K,M,z⟩:=DataW.trod_array F h;have q:xs.map (·.1)=U.map λs=>(DataW.lit (.string s):DataW Unit):=by have:=congrArg Prod.fst G;simpa using this.symm
 have L:U.length=n:=by have:=congrArg List.length q;simp at this;omega
 apply List.ext_getElem?;intro i;by_cases D:i<n
 .have j:=z i D;obtain⟨b,k⟩:∃b,xs[i]? =some b:=⟨xs[i]'co,a' co⟩;rw[k,A,Nat.mul_one]at j;obtain⟨s,B,rfl,_⟩:=DataW.trod_string C j;have y:cs[i]? =some (.string s):=by have:=congrArg (·[0]?) B;simpa[List.getElem?_take,List.getElem?_drop]using this
  have d:(xs.map (·.1))[i]? =some (DataW.lit (.string s.data.toList):DataW Unit):=by simp[k]
  rw[q]at d;simp only[ib,Option.map_eq_some_iff,DataW.lit.injEq,Lit.string.injEq]at d;obtain⟨H,E,x⟩:=d;rw[y,ib,E];show _=some (Value.string (ba H));rw[x];exact congrArg some (congrArg Value.string (jk s).symm)
 .rw [List.getElem?_eq_none co,List.getElem?_eq_none (by simp;omega)]
def Lk{P:aH}{w:J}{fuel:Nat}{t:TypeId}{ms:Array String}{cs:List aa}{k:String}{d:DataW Unit}{p:List MemPlace}(j:∃a,P.underlying t=some (.interface a))(h:DataW.trod (λ_=>()) P w 0 (λ_=>true) false fuel t cs=some (.iface k d,p)):∃u v,cs=[.iface u v]:=by
 obtain⟨a,j⟩:=j;cases fuel with
 |zero=>simp[DataW.trod]at h
 |succ m=>
  unfold DataW.trod at h;rw[j]at h;split at h<;>simp_all
def ada{W:J}(h:laidMetH V [("math/bits.deBruijn32tab",Rows.laid_math_bits_deBruijn32tab),("math/bits.deBruijn64tab",Rows.laid_math_bits_deBruijn64tab),("internal/strconv.uint64pow10",Rows.laid_internal_strconv_uint64pow10),("unicode/utf8.acceptRanges",Rows.laid_unicode_utf8_acceptRanges),("strconv.ErrRange",Rows.laid_strconv_ErrRange),("strconv.ErrSyntax",Rows.laid_strconv_ErrSyntax),("enthymeme/term.kidCounts",Rows.laid_enthymeme_term_kidCounts),("enthymeme/proof.words",Rows.laid_enthymeme_proof_words),("unicode/utf8.first",Rows.laid_unicode_utf8_first)] W):cG.P W/\lx W/\eI.P W:=by
 rw[MakeChecks.laidMetH_plain _ _ _ (by kernel_rfl)]at h;refine⟨?_,⟨?_,?_,?_⟩,?_⟩
 .obtain ⟨g,t,x,fuel,p,j,k,q,w⟩:=Lib.laidMet.reads h (n:="enthymeme/term.kidCounts") (d:=Lib.tabData .i64 Al) (.tail _ (.tail _ (.tail _ (.tail _ (.tail _ (.tail _ (.head _)))))));obtain rfl:=e5 ((show Tryz.prog.globalNamed "enthymeme/term.kidCounts"=some 2 by kernel_rfl).symm.trans j);obtain rfl:=e5 ((show(Tryz.prog.globals[2]?).map (·.type)=some afF by kernel_rfl).symm.trans k);exact yY j q (Lib.cells_of_tab (e:=b') (n:=35) (by kernel_rfl) (by kernel_rfl) (by kernel_rfl) (by kernel_rfl) w) rfl
 .obtain ⟨g,t,x,fuel,p,j,k,q,w⟩:=Lib.laidMet.reads h (n:="internal/strconv.uint64pow10") (d:=Lib.tabData .u64 vj) (.tail _ (.tail _ (.head _)));obtain rfl:=e5 ((show Tryz.prog.globalNamed "internal/strconv.uint64pow10"=some 3 by kernel_rfl).symm.trans j);obtain rfl:=e5 ((show(Tryz.prog.globals[3]?).map (·.type)=some afE by kernel_rfl).symm.trans k);exact yY j q (Lib.cells_of_tab (e:=afO) (n:=20) (by kernel_rfl) (by kernel_rfl) (by kernel_rfl) (by kernel_rfl) w) rfl
 .obtain ⟨g,t,x,fuel,p,j,k,q,w⟩:=Lib.laidMet.reads h (n:="strconv.ErrSyntax") (d:=Rows.laid_strconv_ErrSyntax) (.tail _ (.tail _ (.tail _ (.tail _ (.tail _ (.head _))))));obtain rfl:=e5 ((show Tryz.prog.globalNamed "strconv.ErrSyntax"=some 4 by kernel_rfl).symm.trans j);obtain rfl:=e5 ((show(Tryz.prog.globals[4]?).map (·.type)=some ll by kernel_rfl).symm.trans k);obtain⟨u,v,e⟩:=Lk (ms:=#[]) ⟨_,rfl⟩ w;exact⟨u,v,yY j q e rfl⟩
 .obtain ⟨g,t,x,fuel,p,j,k,q,w⟩:=Lib.laidMet.reads h (n:="strconv.ErrRange") (d:=Rows.laid_strconv_ErrRange) (.tail _ (.tail _ (.tail _ (.tail _ (.head _)))));obtain rfl:=e5 ((show Tryz.prog.globalNamed "strconv.ErrRange"=some 5 by kernel_rfl).symm.trans j);obtain rfl:=e5 ((show(Tryz.prog.globals[5]?).map (·.type)=some ll by kernel_rfl).symm.trans k);obtain⟨u,v,e⟩:=Lk (ms:=#[]) ⟨_,rfl⟩ w;exact⟨u,v,yY j q e rfl⟩
 .obtain ⟨g,t,x,fuel,p,j,k,q,w⟩:=Lib.laidMet.reads h (n:="enthymeme/proof.words") (d:=.agg (j3.map λs=>.lit (.string s))) (.tail _ (.tail _ (.tail _ (.tail _ (.tail _ (.tail _ (.tail _ (.head _))))))));obtain rfl:=e5 ((show Tryz.prog.globalNamed "enthymeme/proof.words"=some 0 by kernel_rfl).symm.trans j);obtain rfl:=e5 ((show(Tryz.prog.globals[0]?).map (·.type)=some afG by kernel_rfl).symm.trans k);exact yY j q (afa (e:=cY) (n:=6) (by kernel_rfl) (by kernel_rfl) (by kernel_rfl) (by kernel_rfl) w) rfl
def proofLines_walk(W:J)(k:laidMetH V [("math/bits.deBruijn32tab",Rows.laid_math_bits_deBruijn32tab),("math/bits.deBruijn64tab",Rows.laid_math_bits_deBruijn64tab),("internal/strconv.uint64pow10",Rows.laid_internal_strconv_uint64pow10),("unicode/utf8.acceptRanges",Rows.laid_unicode_utf8_acceptRanges),("strconv.ErrRange",Rows.laid_strconv_ErrRange),("strconv.ErrSyntax",Rows.laid_strconv_ErrSyntax),("enthymeme/term.kidCounts",Rows.laid_enthymeme_term_kidCounts),("enthymeme/proof.words",Rows.laid_enthymeme_proof_words),("unicode/utf8.first",Rows.laid_unicode_utf8_first)] W)(ls ms:Sl)(d j h:Int)(w0:ArgNums W ls)(D:ArgNums W ms)(E:aX d)(F:aX j)(G:aX h):
  aj V FQ #[ls.v,ms.v,.i d,.i j,.i h] W λr C=>r=ae (.bool true)/\af W C:=by obtain⟨w,q,B⟩:=ada k;obtain⟨K,x,H,y⟩:=w0;obtain⟨L,z,I,A⟩:=D;exact tP.aba y co A co x z E F G w q B
end Go.Proofs.YtnaglpcbkhjpnaaGreatDoor
