import Derived.Test.YtnaglpcbkhjpnabGreatDoorDD
import Derived.Test.YtnaglpcbkhjpnabGreatDoorPN
import Derived.Lib.LaidTab
import Derived.Lib.LaidU8
import Derived.LaidByTextLater
import Derived.MakeChecks
import Derived.FnData
import Derived.OpenShut
import Derived.Test.YtnaglpcbkhjpnabGreatDoorRows
set_option linter.unusedVariables false
set_option maxRecDepth 100000
set_option maxHeartbeats 1000000
set_option linter.defProp false
noncomputable section
namespace Go.Proofs.YtnaglpcbkhjpnabGreatDoor
open Go renaming World->J,Calls->ai,Program->aJ,Value->aa,Ending->bW
open Go.IntKind renaming wrap->aj
open Go.IntWalk renaming i64_in->aQ
open _root_.Nat renaming le_refl->br,le_trans->bb,zero_le->dW
open _root_.Option.some renaming inj->fb
open _root_.Int renaming toNat_natCast->bB
open Go.Proofs.Tryz renaming prog->V
open Go.Ending renaming returned->ae
open List renaming mem_append->aX,mem_cons->aq,not_mem_nil->aL,mem_of_getElem?->aD,getElem?_eq_getElem->a',mem_append_left->bV,mem_flatMap->cc,mem_map->bS,length_append->a7,length_cons->bR,length_nil->dK,append_assoc->ck,mem_singleton->b0,flatMap_append->cW,flatMap_cons->cH,length_map->gv,append_nil->dy,map_append->fK,map_cons->jf,drop_of_length_le->c9
open Go Go.W
def lU(aB st:Sl)(ls:List Lx)(ds:List Sp):En:=.all [gX aB ls,.sp st ds]
def Di(U:List UInt8)(r:bW)(e:En)(_:RS):Prop:=(∃(p:Pp) (aB st:Sl) (ls:List Lx) (ds:List Sp),ho U=some p/\r=ae (.tuple #[.agg #[aB.v,st.v],.bool true])/\ct ls ds=p/\e=lU aB st ls ds)\/(ho U=none/\∃aB st:Sl,r=ae (.tuple #[.agg #[aB.v,st.v],.bool false]))
def SI{U:List UInt8}(h:(bd ⟨U,0⟩).1<0\/4096<(bd ⟨U,0⟩).1):ho U=none:=by unfold ho;rw[au h]
def aej{U:List UInt8}(h:(gH (bd ⟨U,0⟩).1.toNat (bd ⟨U,0⟩).2).1=none):ho U=none:=by
 unfold ho;split
 .rfl
 .rw [h]
def aei{U:List UInt8}{l:List Lp}(d:¬((bd ⟨U,0⟩).1<0\/4096<(bd ⟨U,0⟩).1))(h:(gH (bd ⟨U,0⟩).1.toNat (bd ⟨U,0⟩).2).1=some l):ho U=match(ez U.length (nI U)).1 with
  |none=>none
  |some j=>if iP (ez U.length (nI U)).2=0 then some ⟨l,j⟩else none:=by unfold ho;rw[ag d,h];try rfl
def aeI(st:RS):(cA st).1.length<=st.U.length/\(cA st).2.U.length<=st.U.length:=vG st
def ad2{w:J}{rb:Nat}{fp:List Nat}{U:List UInt8}(hl:U.length<=100000)(hk:cq.P w)(an:∀b∈cq.fp,b∉fp)(h:dn w rb ⟨U,0⟩ fp):
  ai V PT #[.agg #[.pointer (some (ab rb)),.i (U.length:Int)]] w (nk w rb fp (Di U)):=by
 have bad:∀{Y:J} {st:RS} {L D:List En} (aB ac:Sl),ho U=none->LH (·∈fp) w Y (.ga rb st fp::L) D->nk w rb fp (Di U) (ae (.tuple #[.agg #[aB.v,ac.v],.bool false])) Y:=
  λm t N E=>⟨.all [],_,.inr ⟨N,m,t,rfl⟩,λe d=>(by cases d),λb q=>(by obtain⟨e,d,_⟩:=bI.1 q;cases d),E.get 0,E.fr⟩
 obtain⟨B,M⟩:∃B,B=(bd ⟨U,0⟩).1:=⟨_,rfl⟩;obtain⟨W,O⟩:∃ac,ac=(bd ⟨U,0⟩).2:=⟨_,rfl⟩;have s0:W.U.length<=U.length:=by rw[O];exact(k' ⟨U,0⟩).2
 refine yv.aC ((FP (D:=[cq]) h (λe d=>by rw[b0.1 d];exact⟨hk,an⟩)).aH λb1 w1 H1=>H1.aH λb2 w2 H2=>H2.rm 0 rfl (λF=>lZ F) λw3 Q=>⟨_,rfl,?_⟩);rw[<-M];rw[<-O]at Q;refine aF (λK=>Q.ah (λw4 H=>bad ⟨none,0,0⟩ ⟨none,0,0⟩ (SI (.inl co)) H) ws) λK=>aF (λh2=>Q.ah (λw4 H=>bad ⟨none,0,0⟩ ⟨none,0,0⟩ (SI (.inr co)) H) ws) λh2=>Q.aH λb3 w4 H=>?_;have eN:B=(B.toNat:Int):=co
 have loop:∀(k i:Nat) (aB:Sl) (ls:List Lx) (x:RS) (v:J),i+k=B.toNat->ls.length=i->x.U.length<=U.length->gH B.toNat W=((gH k x).1.map (ls.map Lx.p++·),(gH k x).2)->
   LH (·∈fp) w v [.ga rb x fp,.g b1,.g b2,.g b3,.row fw 4 aB ((ls.map Lx.m).flatMap Lm.cs)] [cq,.all (ls.map cV)]->(∀b∈(En.all (ls.map cV)).fp,w.heap.size<=b)->
   yv.cy b1 (some (ab rb)) (U.length:Int) b2 ⟨none,0,0⟩ ⟨none,0,0⟩ b3 aB ⟨none,0,0⟩ B (i:Int) v (nk w rb fp (Di U)):=by
  intro k;induction k with
  |zero=>
   intro i aB ls x v hi hd q d E N;have al:(gH (bd ⟨U,0⟩).1.toNat (bd ⟨U,0⟩).2).1=some (ls.map Lx.p):=by rw[<-M,<-O,d];show some (ls.map Lx.p++[])=_;rw[dy]
   have am:nI U=x:=by unfold nI;rw[<-M,<-O,d];rfl
   have C:=aei (by rw[<-M];omega) al;rw[am]at C;refine yv.dH (aN (aW co) (E.yG 0 rfl (λF=>Sw co F) ?_));rintro _ e ay w5 ⟨rfl,s,ds,rfl,T,rfl⟩ I hf;refine⟨_,_,rfl,?_⟩;cases ad:(ez U.length x).1 with
   |none=>
    rw[ad]at C;exact aN rfl (I.ah λaf G=>bad _ _ C G)
   |some ss=>
    rw[ad]at C T;dsimp only at C;have T:bq ds=ss:=T;refine aM rfl (I.ah λaf G=>G.aA (Hh (G.get 0)) ?_);rintro _ Z rfl aa;refine⟨_,rfl,aa.ah λaj z=>?_⟩;by_cases d:iP (ez U.length x).2=0
    .rw [au d]at C;rw[d];have av:aG aj fw 4 aB ((ls.map Lx.m).flatMap Lm.cs):=z.get 4;have ap:(En.all (ls.map cV)).P aj:=z.getD 1;refine⟨lU aB s ls ds,_,.inl ⟨_,aB,s,ls,ds,C,rfl,?_,rfl⟩,?_,λb q=>?_,z.get 0,z.fr⟩
     .unfold ct;rw[T]
     .intro e y;simp only[aq,aL,aO]at y;rcases y with rfl|rfl
      .intro e y;rcases aq.1 y with rfl|y
       .exact aG.bf av
       .exact ap e y
      .exact z.getD 2
     .obtain ⟨e,y,q⟩:=bI.1 q;simp only[aq,aL,aO]at y;rcases y with rfl|rfl
      .obtain ⟨e,y,q⟩:=bI.1 q;rcases aq.1 y with rfl|y
       .exact sZ (λb q=>(z.new _ (aD (i:=4) rfl) b q).elim id (λh=>absurd (aT.2 h) (mE z.nd (i:=4) rfl (j:=0) rfl md b q))) b q
       .exact N b (bI.2 ⟨e,y,q⟩)
      .exact bb E.fr.size (hf b q)
    .rw [ag d]at C;have:(iP (ez U.length x).2==0)=false:=by simpa using d
     rw[this];exact bad _ _ C z
  |succ k ih=>
   intro i aB ls x v hi hd q d E N;obtain⟨q1,q2⟩:=aeI x;have ao:=(E.get 4:aG _ _ _ _ _).len;rw[Lm.len,gv]at ao;refine yv.dH (aM (aR co) (E.mX 0 rfl (λF=>Hi F) λt w5 I ht=>⟨_,rfl,gn ((Su (show Bytes w5 t (cA x).1 from I.getD 2) co).mono ?_)⟩));rintro _ w6 ⟨aw,ak,rfl,ax,f,nf⟩;have S:=I.push (.ga aw ⟨(cA x).1,0⟩ ak) f ax (λb q=>nf b (aT.1 q));refine⟨f,_,_,rfl,S.yG 5 rfl (λF=>adZ co (S.getD 0) (λb q hm=>S.dj cq ws b q _ (aD (i:=5) rfl) (aT.2 hm)) F) ?_⟩;rintro _ e st w7 hq H7 hf;rcases hq with⟨p,A,K,rfl,hp,rfl⟩|⟨K,m,rfl⟩
   .rw [Bt K]at d;refine⟨_,_,_,_,_,rfl,H7.aH λb4 w8 H8=>aN rfl (H8.ah λw9 H9=>H9.iD 4 EB rfl (λs' af G=>G.ah λZ aa=>?_) co)⟩;rw[bc _ co];have ec:(ls.map Lx.m).flatMap Lm.cs++Lm.cs A.m=((ls++[A]).map Lx.m).flatMap Lm.cs:=ws
    have z:LH (·∈fp) w Z [.ga rb (cA x).2 fp,.g b1,.g b2,.g b3,.row fw 4 s' ((ls.map Lx.m).flatMap Lm.cs++Lm.cs A.m)] ([cq,.all (ls.map cV),.rd t ((cA x).1.map bL)]++[cV A]):=aa.take 5;rw[ec]at z;refine ih (i+1) s' (ls++[A]) (cA x).2 Z co (by simp[hd]) co ?_ (z.iq _ λe d=>?_) λb q=>?_
    .rw [d];refine Prod.ext ?_ rfl;show((gH k (cA x).2).1.map (p::·)).map _=_;rw[Option.map_map,<-hp];congr 1;funext l;simp
    .simp only[aq,aL,aO]at d;rcases d with rfl|rfl
     .exact ⟨λh=>h cq ws,λb q=>⟨cq,ws,q⟩⟩
     .refine ⟨λh e d=>?_,λb q=>?_⟩
      .rw [fK,aX]at d;rcases d with d|d
       .exact (h (.all (ls.map cV)) ws:(En.all (ls.map cV)).P Z) e d
       .have d:e=cV A:=by simpa using d
        rw[d];exact h (cV A) ws
      .obtain ⟨e,d,q⟩:=bI.1 q;rw[fK,aX]at d;rcases d with d|d
       .exact ⟨.all (ls.map cV),ws,bI.2 ⟨e,d,q⟩⟩
       .have d:e=cV A:=by simpa using d
        rw[d]at q;exact⟨cV A,ws,q⟩
    .obtain ⟨e,d,q⟩:=bI.1 q;rw[fK,aX]at d;rcases d with d|d
     .exact N b (bI.2 ⟨e,d,q⟩)
     .have d:e=cV A:=by simpa using d
      rw[d]at q;exact bb S.fr.size (hf b q)
   .have ar:ho U=none:=aej (by rw[<-M,<-O,d,Hk K];rfl);exact⟨_,_,_,_,_,rfl,H7.aH λb4 w8 H8=>aM rfl (H8.ah λw9 H9=>bad ⟨none,0,0⟩ ⟨none,0,0⟩ ar H9)⟩
 rw[eN];rw[<-eN];exact loop B.toNat 0 ⟨none,0,0⟩ [] W w4 co rfl s0 (Prod.ext (by show _=(gH B.toNat W).1.map ([]++·);simp) rfl) (((H.fY fw 4)).iq _ λe d=>by
  simp only[List.map_nil,aq,aL,aO]at d;rcases d with rfl|rfl
  .exact ⟨λh=>h cq ws,λb q=>⟨cq,ws,q⟩⟩
  .exact ⟨λ_ e d=>(by cases d),λb q=>(by obtain⟨e,d,_⟩:=bI.1 q;cases d)⟩) (λb q=>(by obtain⟨e,d,_⟩:=bI.1 q;cases d))
def acn{l:List Lp}{x:Lp}(h:x∈l):(dx x).length<=(fC l).length:=by
 induction l with
 |nil=>cases h
 |cons y l d=>
  have g:=po (dx y);have e:(fC (y::l)).length=(dF (dx y)).length+(fC l).length:=by show(dF (dx y)++fC l).length=_;rw[a7]
  rcases aq.1 h with rfl|h
  .omega
  .have:=d h;omega
def aec{p:Pp}{x:Lp}(h:x∈p.ls):(dx x).length<=(e5 p).length:=by have:=acn h;unfold e5;simp only[a7];omega
def qp.w{n:Nat}{ls:List Lx}{ds:List Sp}(h:qp n (ct ls ds))(E:n<=100000):o8 ls ds:=by
 have D:(bq ds).length<=n:=h.m;have z:(ls.map Lx.p).length<=4096:=h.k;have C:=h.b;rw[gv]at D z;have A:∀d∈ds,qs n d.x:=λd j=>h.s d.x (bS.2 ⟨d,j,rfl⟩);refine⟨z,λy F=>?_,co,λd j=>?_,λd j=>(A d j).i,co⟩
 .have B:y.p∈(ct ls ds).ls:=bS.2 ⟨y,F,rfl⟩;exact(h.l y.p B).lxw E (bb (aec B) C)
 .have q:=A d j;exact⟨by have:=q.p;omega,by have:=q.l;omega,by have:=q.h;omega⟩
def I7(w:J)(p:Pp)(E:Int)(r:bW)(Y:J):Prop:=∃(aB st:Sl) (ls:List Lx) (ds:List Sp),r=ae (.tuple #[.agg #[aB.v,st.v],.i E])/\ct ls ds=p/\(lU aB st ls ds).P Y/\∀b∈(lU aB st ls ds).fp,w.heap.size<=b
def lV{w:J}{aB st:Sl}{ls:List Lx}{ds:List Sp}(h:(lU aB st ls ds).P w):jL w aB ls/\fP w st ds:=⟨hY.1 (h (gX aB ls) ws),dM.1 (h (.sp st ds) ws)⟩
def Bk(w:J):(lU ⟨none,0,0⟩ ⟨none,0,0⟩ [] []).P w/\∀b∈(lU ⟨none,0,0⟩ ⟨none,0,0⟩ [] []).fp,w.heap.size<=b:=by
 refine⟨λe d=>?_,λb h=>?_⟩
 .simp only[aq,aL,aO]at d;rcases d with rfl|rfl
  .intro e d;rw[b0.1 d];exact bN.nil 4 _
  .intro e d;rw[b0.1 d];exact bN.nil 7 _
 .obtain ⟨e,d,h⟩:=bI.1 h;simp only[aq,aL,aO]at d;rcases d with rfl|rfl
  .obtain ⟨e,d,h⟩:=bI.1 h;rw[b0.1 d]at h;cases h
  .obtain ⟨e,d,h⟩:=bI.1 h;rw[b0.1 d]at h;cases h
def adU{w:J}{s:Sl}{U:List UInt8}(h:Bytes w s U)(B:U.length<=100000)(T:cq.P w):ai V PB #[s.v] w λr Y=>I7 w (kq U).1 (kq U).2 r Y/\af w Y:=by
 have bad:∀{Y:J},kq U=(.e,2)->af w Y->I7 w (kq U).1 (kq U).2 (ae (.tuple #[.agg #[(⟨none,0,0⟩:Sl).v,(⟨none,0,0⟩:Sl).v],.i 2])) Y/\af w Y:=λ{Y} e f=>by rw[e];exact⟨⟨⟨none,0,0⟩,⟨none,0,0⟩,[],[],rfl,rfl,(Bk Y).1,(Bk w).2⟩,f⟩
 refine SM.aC ((bK (w:=w) [.rd s (U.map bL),cq] (by
  intro e I;simp only[aq,aL,aO]at I;rcases I with rfl|rfl
  .exact h
  .exact T)).aH λb1 w1 E=>gn ((Su (show Bytes w1 s U from E.getD 0) B).mono ?_))
 rintro _ w2 ⟨rb,Q,rfl,aa,f,nf⟩;have y:=E.push (.ga rb ⟨U,0⟩ Q) f aa (λb x=>nf b (aT.1 x));refine⟨f,_,_,rfl,y.yG 1 rfl (λhr=>ad2 B (y.getD 1) (λb x Z=>y.dj cq ws b x _ (aD (i:=1) rfl) (aT.2 Z)) hr) ?_⟩;rintro _ e st w3 hq F S;rcases hq with⟨p,D,t,ls,H,q,rfl,C,rfl⟩|⟨q,D,t,rfl⟩
 .refine ⟨_,_,_,rfl,F.aH λO w4 z=>aN rfl (z.ah λK j=>?_)⟩;have ok:=SJ co q;rw[<-C]at ok;have W:=ok.w B;obtain⟨M,N⟩:=lV (show(lU D t ls H).P K from j.getD 2);refine j.aA (Aw W.lk ⟨W.m,W.k⟩ M N (j.getD 1)) ?_;rintro _ w6 rfl G;rw[vr,C];refine⟨_,rfl,dA (λA=>?_) λA=>G.ah λL d=>?_⟩
  .exact G.ah (λL d=>bad (SE q A) d.fr) ws
  .rw [Bl q A];exact⟨⟨D,t,ls,H,rfl,C,d.getD 2,λb x=>bb y.fr.size (S b x)⟩,d.fr⟩
 .exact ⟨_,_,_,rfl,F.aH λO w4 z=>aM rfl (z.ah λK j=>j.ah (λL d=>bad (SG q) d.fr) ws)⟩
def Jx{w:J}{s t:Sl}{ls:List Lx}{ds:List Sp}(C:∀j∈ls,hQ 40 j)(H:ly 40 ds)(E:(e5 (ct ls ds)).length<=10000000)(D:ls.length<=4096)(h:jL w s ls)(W:fP w t ds):ai V O5 #[.agg #[s.v,t.v]] w (iV w (e5 (ct ls ds))):=by
 have U:=h.n;have Z:(ct ls ds).ls.length=ls.length:=by simp[ct]
 have e:e5 (ct ls ds)=bJ (ls.length:Int)++(fC (ls.map Lx.p)++eJ (bq ds)):=by unfold e5;rw[Z];rfl
 have I:=E;rw[e]at I;simp only[a7]at I;refine xK.aC ((bK (w:=w) [gX s ls,.sp t ds] (by
  intro e d;simp only[aq,aL,aO]at d;rcases d with rfl|rfl
  .exact hY.2 h
  .exact dM.2 W)).aH λb w1 M=>M.jv (lJ (s.n:Int) (by constructor<;>omega) w1) λo K _ B T S=>⟨o,rfl,?_⟩)
 have F:LH F0 w K [.g b,.row cJ 1 o ((bJ (s.n:Int)).map bL)] [gX s ls,.sp t ds]:=B.own (.row cJ 1 o ((bJ (s.n:Int)).map bL)) T.2 S;have loop:∀(k i:Nat) (v:J) (o:Sl) (y:List UInt8),i+k=ls.length->y++fC ((ls.drop i).map Lx.p)=bJ (ls.length:Int)++fC (ls.map Lx.p)->LH F0 w v [.g b,.row cJ 1 o (y.map bL)] [gX s ls,.sp t ds]->
   xK.a6 b s t o (i:Int) v (iV w (e5 (ct ls ds))):=by
  intro k;induction k with
  |zero=>
   intro i v o y Q d x;rw[c9 co]at d;have d:y++[]=bJ (ls.length:Int)++fC (ls.map Lx.p):=d;rw[dy]at d;have hlen:=congrArg List.length d;rw[a7]at hlen;refine xK.bD (aN (aW co) (x.mQ 1 rfl co co (J5 (dM.1 (x.getD 1)) (λO P=>(H.2 O P).en co) (by have:=H.1;omega)) λs3 L q=>?_));rw[d,ck,<-e]at q;exact⟨s3,rfl,qW (q.get 1),q.fr,λb C=>(q.new _ (aD (i:=1) rfl) b C).resolve_right id⟩
  |succ k ih=>
   intro i v o y Q d x;have G:=hY.1 (x.getD 0);have A:ls[i]? =some (ls[i]'co):=a' co;generalize ls[i]'co=j at A;have D:=aD A;rw[Nv A,<-ck]at d;have hlen:=congrArg List.length d;simp only[a7]at hlen;have g1:=po (dx j.p);refine xK.bD (aM (aR co) ⟨co,co,G.get A λp _ z=>?_⟩);rw[bB];refine⟨_,_,_,_,z.c0,z.c1,z.c2,z.c3,x.jv (YI (C j D) (G.2 j D)) λu L _ B Y E=>⟨u,rfl,?_⟩⟩;have q:=B.rd (.rd u ((dx j.p).map bL)) Y.rd (eP E);refine q.mQ 1 rfl co co (z3 (show Bytes L u (dx j.p)from q.getD 2) co) λs2 w8 N=>?_;rw[bc _ co];exact ih (i+1) w8 s2 _ co d (N.forget _ λe d=>bV [.rd u ((dx j.p).map bL)] d)
 rw[U]at F;exact loop ls.length 0 K o _ co (by rw[List.drop_zero]) F
def YW{w:J}{s t s' y:Sl}{ls j:List Lx}{ds k:List Sp}(I:∀z∈ls,hQ 40 z)(L:ly 40 ds)(K:∀z∈j,hQ 40 z)(M:ly 40 k)(B:(e5 (ct ls ds)).length<=10000000)(N:ls.length<=4096)(d:ct j k=ct ls ds)(h:jL w s ls)(O:fP w t ds)(H:jL w s' j)(P:fP w y k):ai V O9 #[.agg #[s.v,t.v],.agg #[s'.v,y.v]] w λr U=>r=ae (.bool true)/\af w U:=by
 have Y:j.length=ls.length:=by have:=congrArg (λp:Pp=>p.ls.length) d;simpa[ct]using this
 refine Lz.aC ((bK (w:=w) [gX s ls,.sp t ds,gX s' j,.sp y k] (by
  intro e d;simp only[aq,aL,aO]at d;rcases d with rfl|rfl|rfl|rfl
  .exact hY.2 h
  .exact dM.2 O
  .exact hY.2 H
  .exact dM.2 P)).aH λb Z E=>E.aH λW w2 F=>F.ah λw3 q=>q.jv (Jx I L B N (hY.1 (q.getD 0)) (dM.1 (q.getD 1))) λu w4 _ D Q S=>⟨u,rfl,?_⟩)
 have x:=D.rd (.rd u ((e5 (ct ls ds)).map bL)) Q.rd (eP S);refine x.jv (Jx K M (by rw[d];exact B) co (hY.1 (x.getD 2)) (dM.1 (x.getD 3))) λT w5 A _ C _=>⟨T,rfl,A.aA (YV (b:=e5 (ct ls ds)) (A.getD 4) (by rw[d]at C;exact C.rd) co) ?_⟩;rintro _ w6 rfl G;exact⟨_,rfl,rfl,G.fr⟩
def h8(x:Lp):List UInt8:=[98,101,103,105,110]++32::(cG x.hy++32::(cG x.cl++32::eN (cL x.g)))
def fW(x:Lp):List (List UInt8):=h8 x::(x.ss.map cU++[[101,110,100]])
def jS(p:Pp):List (List UInt8):=p.ls.flatMap fW++p.ss.map cU
def Io(ss:List bO):dS (ss.map cU)=ss.flatMap e3:=by
 induction ss with
 |nil=>rfl
 |cons s ss d=>
  show(cU s++[10])++dS (ss.map cU)=e3 s++ss.flatMap e3;rw[d];rfl
def v9(a b:List (List UInt8)):dS (a++b)=dS a++dS b:=cW
def Wp(x:Lp):dS (fW x)=(h8 x++[10])++(x.ss.flatMap e3++([101,110,100]++[10])):=by unfold fW;show(h8 x++[10])++dS (x.ss.map cU++[[101,110,100]])=_;rw[v9,Io];rfl
section
variable {w:J}
def _root_.Go.W.LH.zT{z:Nat->Prop}{w0 w:J}{G D:List En}{o:Sl}{xs ys:List UInt8}{U:List Nat}(H:LH z w0 w (G++[eC o xs]) D)(A:∀k∈U,En.g k∈G){g:FuncId}{args:Array aa}{K:aK}(B:∀{K':aK},LH (λb=>∃e∈[eC o xs],b∈e.fp) w w [eC o xs] D->(∀d h,LH (λb=>∃e∈[eC o xs],b∈e.fp) w h [eC d ys] D->K' (ae d.v) h)->ai V g args w K')(C:∀d h,LH z w0 h (G++[eC d ys]) D->K (ae d.v) h):ep U V g args w K:=by refine⟨λb=>∃e∈[eC o xs],b∈e.fp,λk x j=>?_,B H.part λd h y=>⟨y.fr,C d h (H.z7 y λe q k x=>.inr ⟨e,q,x⟩)⟩⟩;obtain⟨e,q,j⟩:=j;rw[b0.1 q]at j;exact H.Ao (show(G++[eC o xs])[G.length]? =some (.row cJ 1 o (xs.map bL))by simp) (bV _ (A k x)) j
def sF{s:Sl}{ls:List Lx}{x:Lx}(j:x∈ls){e:En}(d:e∈[En.gr x.m.g x.gl,.rd x.m.h (x.hy.map a5),.rd x.m.c (x.cl.map a5),.sp x.m.s x.ds]):(∀w,(gX s ls).P w->e.P w)/\∀b∈e.fp,b∈(gX s ls).fp:=
 ⟨λw k=>(k (cV x) (List.mem_cons_of_mem _ (bS.2 ⟨x,j,rfl⟩)):(cV x).P w) e d,λb q=>bI.2 ⟨cV x,List.mem_cons_of_mem _ (bS.2 ⟨x,j,rfl⟩),bI.2 ⟨e,d,q⟩⟩⟩
structure wO(ls:List Lx)(ds:List Sp):Prop where
 l:∀x∈ls,x.ds.length<=100/\∀d∈x.ds,j8 d.x
 h:∀x∈ls,x.hy.length<=1000000/\x.cl.length<=1000000/\(cL (xs x.gl)).length<=10000000
 m:ds.length<=100
 d:∀d∈ds,j8 d.x
 t:(dS (jS (ct ls ds))).length<=1000000000
def Sn{s t:Sl}{ls:List Lx}{ds:List Sp}(x:o8 ls ds)(I:wO ls ds)(h:jL w s ls)(ht:fP w t ds)(hk:cq.P w)(q:lA w)(hw:h0.P w)(aj:kr ls (bq ds)=0):
  ai V Gh #[.agg #[s.v,t.v]] w λr Z=>r=ae (.tuple #[.string (ba (dS (jS (ct ls ds)))),.i 0])/\af w Z:=by
 have aS:=h.n;have aQ:=x.n;have hv:=FL (SH aj);have aJ:=I.t;obtain⟨F,hT⟩:∃F,F=dS (jS (ct ls ds)):=⟨_,rfl⟩;rw[<-hT]at aJ ⊢;refine sY.aC ((bK (w:=w) [fU,h0,cq,gX s ls,.sp t ds] (by
  intro e h';simp only[aq,aL,aO]at h';rcases h' with rfl|rfl|rfl|rfl|rfl
  .exact q
  .exact hw
  .exact hk
  .exact hY.2 h
  .exact dM.2 ht)).aH λA w1 L=>L.aA (Aw x.lk ⟨x.m,x.k⟩ (hY.1 (L.getD 3)) (dM.1 (L.getD 4)) (L.getD 2)) ?_)
 rintro _ w2 rfl H2;refine⟨_,rfl,dA (λh=>absurd aj h) (λ_=>?_)⟩;have loop:∀(k i:Nat) (v:J) (o:Sl) (a:List UInt8),i+k=ls.length->a++(dS ((ls.drop i).flatMap λj=>fW j.p)++(bq ds).flatMap e3)=F->LH F0 w v [.g A,eC o a] [fU,h0,cq,gX s ls,.sp t ds]->
   sY.a6 A s t o s (s.n:Int) (i:Int) v λr Z=>r=ae (.tuple #[.string (ba F),.i 0])/\af w Z:=by
  intro k;induction k with
  |zero=>
   intro i v o a hi q K;rw[c9 co]at q;have q:a++(bq ds).flatMap e3=F:=q;have hlen:=congrArg List.length q;rw[a7]at hlen;refine sY.bD (aN (aW co) (LH.zT (G:=[.g A]) (ys:=a++(bq ds).flatMap e3) K ws (λy B=>G3 y ws ws ws I.d I.m co B) λs' w3 H3=>⟨_,rfl,_,kR (aG.hq (H3.get 1)),?_,H3.fr⟩));rw[q]
  |succ k ih=>
   intro i v o a hi q K;have aw:=hY.1 (K.getD 3);have O:ls[i]? =some (ls[i]'co):=a' co;generalize ls[i]'co=j at O;have D:=aD O;have C:=x.l j D;obtain⟨aF,aI⟩:=I.l j D;obtain⟨az,aB,aE⟩:=I.h j D;have ex:(ls.drop i).flatMap (λj=>fW j.p)=fW j.p++(ls.drop (i+1)).flatMap λj=>fW j.p:=by rw[AD O];rfl
   rw[ex,v9,Wp]at q;have hlen:=congrArg List.length q;simp only[a7,bR,dK]at hlen;have Y:(cG j.hy).length<=100000000/\(cG j.cl).length<=100000000/\(eN (cL (xs j.gl))).length<=100000000:=by have l1:=il C.h;have l2:=il C.c;have l3:=qK (cL (xs j.gl));omega
   refine sY.bD (aM (aR co) ⟨co,co,aw.get O λp _ N=>?_⟩);rw[bB];have H0:=K.iq ([fU,h0,cq,gX s ls,.sp t ds]++[.gr j.m.g j.gl,.rd j.m.h (j.hy.map a5),.rd j.m.c (j.cl.map a5),.sp j.m.s j.ds]) λe q=>by
    rcases aX.1 q with q|q
    .exact ⟨λU=>U e q,λb x=>⟨e,q,x⟩⟩
    .exact ⟨λU=>(sF D q).1 _ (U (gX s ls) ws),λb x=>⟨gX s ls,ws,(sF D q).2 b x⟩⟩
   refine⟨_,_,_,_,N.c0,N.c1,N.c2,N.c3,H0.aH λM w5 H5=>H5.ah λw6 Q=>Q.iF (V1 (ch.1 (Q.rd (.gr j.m.g j.gl) ws)) (Q.rd cq ws) (λ_=>C.k.g) C.z) ?_⟩;rintro _ w7 ⟨u,rfl,W⟩ _ ay;obtain⟨W,hf⟩:=W (Nt (hv j D));have H7:=ay.rd (.rd u ((cL (xs j.gl)).map bL)) W.rd (eP hf);refine⟨_,_,rfl,H7.ah λw8 S=>S.aA (yp (S.rd (.rd j.m.h (j.hy.map a5)) ws) C.h az (S.rd fU ws)) ?_⟩;rintro _ w9 rfl T;refine⟨_,rfl,T.aA (yp (T.rd (.rd j.m.c (j.cl.map a5)) ws) C.c aB (T.rd fU ws)) ?_⟩;rintro _ aK rfl aa;refine⟨_,rfl,aa.aA (adY (show Bytes aK u (cL (xs j.gl))from aa.rd (.rd u ((cL (xs j.gl)).map bL)) ws) aE) ?_⟩;rintro _ al rfl an;obtain⟨E,H⟩:∃E:List (List UInt8),E=[[98,101,103,105,110],cG j.hy,cG j.cl,eN (cL (xs j.gl))]:=⟨_,rfl⟩;refine⟨_,rfl,an.cZ (e:=dv) (sz:=1) (n:=4) (cs:=[dN [98,101,103,105,110],dN (cG j.hy),dN (cG j.cl),dN (eN (cL (xs j.gl)))]) rfl md λaU ac=>?_⟩;have ao:=ac.freeze 3 (.rd ⟨some (ab al.heap.size),4,4⟩ (E.map dN)) rfl (by rw[H];exact aG.hq (ac.get 3)) λb x=>by rw[H]at x;exact oP x
   have ap:=ao.perm (L':=[.g A,.g M,eC o a]) (.cons _ (.swap _ _ _));have ej:iN E++[10]=h8 j.p++[10]:=by rw[H];rfl
   refine LH.zT (G:=[.g A,.g M]) (ys:=a++(iN E++[10])) ap ws (λy B=>G2 (t:=⟨some (ab al.heap.size),4,4⟩) (ps:=E) y ws co (by
    rw[H];intro aT ak;simp only[aq,aL,aO]at ak;rcases ak with rfl|rfl|rfl|rfl
    .decide
    .exact Y.1
    .exact Y.2.1
    .exact Y.2.2) (by rw[H];show 4<=10;omega) B) λo1 aV ad=>⟨_,rfl,?_⟩
   rw[ej]at ad;refine LH.zT (G:=[.g A,.g M]) (ys:=a++(h8 j.p++[10])++(bq j.ds).flatMap e3) ad ws (λy B=>G3 y ws ws ws aI aF (by simp only[a7,bR,dK];omega) B) λo2 am ar=>⟨_,rfl,?_⟩;refine ar.cZ (e:=dv) (sz:=1) (n:=1) (cs:=[dN [101,110,100]]) rfl md λaY ag=>?_;have au:=ag.freeze 3 (.rd ⟨some (ab am.heap.size),1,1⟩ ([[101,110,100]].map dN)) rfl (aG.hq (ag.get 3)) λb x=>oP x;have ax:(bq j.ds).flatMap e3=j.p.ss.flatMap e3:=rfl;refine LH.zT (G:=[.g A,.g M]) (ys:=a++(h8 j.p++[10])++(bq j.ds).flatMap e3++(iN [[101,110,100]]++[10])) au ws (λy B=>G2 (t:=⟨some (ab am.heap.size),1,1⟩) (ps:=[[101,110,100]]) y ws (by rw[ax];simp only[a7,bR,dK];omega) md md B) λo3 aP av=>⟨_,rfl,?_⟩;rw[bc _ co];refine ih (i+1) aP o3 (a++(h8 j.p++[10])++(bq j.ds).flatMap e3++(iN [[101,110,100]]++[10])) co ?_ ((av.jh [true,false,true]).forget _ λe q=>by simp only[aq,aL,aO]at q;rcases q with rfl|rfl|rfl|rfl|rfl<;>simp)
   rw[<-q];show _++([101,110,100]++[10])++_=_;simp only[ck];rfl
 refine loop ls.length 0 w2 ⟨none,0,0⟩ [] co ?_ (H2.fY cJ 1);rw[hT];unfold jS ct;rw[v9,Io,List.nil_append,List.drop_zero];have fm:(ls.map Lx.p).flatMap fW=ls.flatMap λj=>fW j.p:=by rw[List.flatMap_map]
 dsimp only;rw[fm]
end
def ad3{x:Lp}(W:qm x)(hh:x.hy.length<=1000000)(hc:x.cl.length<=1000000)(hg:(cL x.g).length<=1000000){w:J}{D:List En}(N:fU∈D)(hk:cq∈D)(H:LH F0 w w [] D):
  ai V Gj #[.string (ba (h8 x))] w λr q=>∃(g h c:Sl) (gl:List Nd),r=ae (.tuple #[.agg #[g.v,h.v,c.v,.slice none 0 0],.bool true])/\xs gl=x.g/\(En.gr g gl).P q/\bx q h x.hy/\bx q c x.cl/\(∀e∈[En.gr g gl,.rd h (x.hy.map a5),.rd c (x.cl.map a5)],∀b∈e.fp,w.heap.size<=b)/\af w q:=by
 have l1:=il W.h;have l2:=il W.c;have l3:=qK (cL x.g);have hl:(h8 x).length<=1000000000:=by unfold h8;simp only[a7,bR,dK];omega
 refine yu.aC (H.aH λb2 w1 Y=>Y.nw λw2 _ H2=>H2.hU 1 rfl (λH=>u' hl H) ?_);rintro _ w3 m1 ac ⟨a,rfl,hw⟩ I _;obtain⟨rfl,rfl,rfl⟩:=ze hw (a:=[98,101,103,105,110]) rfl md;refine⟨_,rfl,jH (λ_=>⟨true,I.ld 1 1,I.rn 1 1 rfl λw4 K=>?_⟩) (λh=>absurd rfl h)⟩;refine K.hU 1 rfl (λH=>sy (by simp only[a7,bR];omega) N H) ?_;rintro _ w5 m2 ad ⟨v1,⟨E,rfl,p1,Q⟩,r1⟩ _ N5;obtain⟨z,A,B⟩:=r1.2.2.2 x.hy _ W.h rfl rfl;subst z A B;have H5:=N5 (.rd E (x.hy.map a5)) p1 (eP Q);refine⟨_,rfl,H5.hU 1 rfl (λH=>u9 H) ?_⟩;rintro _ w6 m3 ag ⟨rfl,t1⟩ L _;obtain⟨rfl,rfl⟩:=BU t1 rfl;refine⟨rfl,L.hU 1 rfl (λH=>sy (by simp only[a7,bR];omega) (bV _ N) H) ?_⟩;rintro _ w7 m4 aj ⟨v2,⟨F,rfl,p2,S⟩,r2⟩ _ N7;obtain⟨z,A,B⟩:=r2.2.2.2 x.cl _ W.c rfl rfl;subst z A B;have H7:=N7 (.rd F (x.cl.map a5)) p2 (eP S);refine⟨_,rfl,H7.hU 1 rfl (λH=>u9 H) ?_⟩;rintro _ w8 m5 ak ⟨rfl,t2⟩ y _;obtain⟨rfl,rfl⟩:=BU t2 rfl;refine⟨rfl,true,y.ld 1 1,aN rfl ⟨_,y.ld 1 0,gn ((ad4 co).mono ?_)⟩⟩;rintro _ w9 ⟨u,rfl,hu,M,nu⟩;have k:=y.gP (.rd u ((cL x.g).map bL)) M hu.rd λb d=>.inl (eP nu b d);refine⟨M,_,_,rfl,aN rfl (k.iF (V0 (show Bytes w9 u (cL x.g)from k.rd (.rd u ((cL x.g).map bL)) ws) hg (k.rd cq (by simp[hk]))) ?_)⟩;rw[KI W.g W.n W.v];rintro _ al ⟨C,gl,rfl,ab,U,G⟩ _ T;have Z:=T.rd (.gr C gl) (ch.2 U) G;refine⟨_,_,rfl,Z.aH λb3 am aa=>aN rfl (aa.ah λan j=>⟨C,E,F,gl,rfl,ab,j.rd (.gr C gl) ws,j.rd (.rd E (x.hy.map a5)) ws,j.rd (.rd F (x.cl.map a5)) ws,λe O b d=>?_,j.fr⟩)⟩;simp only[aq,aL,aO]at O;rcases O with rfl|rfl|rfl
 .exact bb k.fr.size (G b d)
 .exact bb K.fr.size (eP Q b d)
 .exact bb L.fr.size (eP S b d)
def pK(x:Lx):En:=.all [.gr x.m.g x.gl,.rd x.m.h (x.hy.map a5),.rd x.m.c (x.cl.map a5),bX x.ds]
def mS:Option Lx->En
 |none=>.all []
 |some d=>pK d
def sU:Option Lx->List Sp
 |none=>[]
 |some d=>d.ds
abbrev oN(d h:Nat)(aB st j:Sl)(ls:List Lx)(cur:Option Lx)(ds:List Sp):List En:=[.c d [aB.v,st.v] eL,.c h [.bool cur.isSome] agL,.row fw 4 aB (((ls++cur.toList).map Lx.m).flatMap Lm.cs),.row dD 7 st (ds.flatMap Sp.c),.row dD 7 j ((sU cur).flatMap Sp.c)]
abbrev mV(ls:List Lx)(cur:Option Lx)(ds:List Sp):List En:=[fU,h0,cq,.all (ls.map cV),mS cur,bX ds]
def Rs(M:Nat->Prop)(w0 w:J)(j k:Nat)(aB st d:Sl)(ls:List Lx)(cur:Option Lx)(ds:List Sp):Prop:=LH M w0 w (oN j k aB st d ls cur ds) (mV ls cur ds)/\∀h,cur=some h->h.m.s=d
def NQ{x:Lx}{w:Sl}(h:x.m.s=w):(∀k,(pK x).P k->(En.bf 7 w (x.ds.flatMap Sp.c)).P k->(cV x).P k)/\∀b∈(cV x).fp,b∈(pK x).fp\/b∈(En.bf 7 w (x.ds.flatMap Sp.c)).fp:=by
 subst h;refine⟨λk q y e j=>?_,λb d=>?_⟩
 .simp only[aq,aL,aO]at j;rcases j with rfl|rfl|rfl|rfl
  .exact q (.gr x.m.g x.gl) ws
  .exact q (.rd x.m.h (x.hy.map a5)) ws
  .exact q (.rd x.m.c (x.cl.map a5)) ws
  .intro e j;rcases aq.1 j with rfl|j
   .exact y
   .exact (q (bX x.ds) ws:(bX x.ds).P k) e j
 .obtain ⟨e,j,d⟩:=bI.1 d;simp only[aq,aL,aO]at j;rcases j with rfl|rfl|rfl|rfl
  .exact .inl (bI.2 ⟨.gr x.m.g x.gl,ws,d⟩)
  .exact .inl (bI.2 ⟨.rd x.m.h (x.hy.map a5),ws,d⟩)
  .exact .inl (bI.2 ⟨.rd x.m.c (x.cl.map a5),ws,d⟩)
  .rcases Vc.1 d with d|d
   .exact .inr d
   .exact .inl (bI.2 ⟨bX x.ds,ws,d⟩)
section
variable {M:Nat->Prop} {w:J} {bp bw:Nat} {aB st cu:Sl} {ls:List Lx} {cur:Option Lx} {ds:List Sp} {K:aK}
def abO(H:Rs M w w bp bw aB st cu ls cur ds)(E:∀q,cur=none->LH M w q (oN bp bw aB st cu ls cur ds) (mV ls cur ds)->K (ae (.bool false)) q)(F:∀h q,cur=some h->Rs M w q bp bw aB st ⟨none,0,0⟩ (ls++[h]) none ds->K (ae (.bool true)) q):
  ai V AV #[.pointer (some (ab bp)),.pointer (some (ab bw)),.string (ba [101,110,100])] w K:=by
 obtain⟨H,D⟩:=H;refine Bm.aC (jH (λ_=>⟨cur.isSome,H.i5 1 rfl rfl,H.j0 1 rfl (λx y=>?_) ws⟩) (λk=>absurd rfl k));cases cur with
 |none=>exact E x rfl y
 |some h=>
  have z:=y.freeze 4 (.bf 7 cu (h.ds.flatMap Sp.c)) rfl (aG.bf (y.get 4)) λb j=>yJ j;refine F h x rfl ⟨?_,λG k=>by cases k⟩;have A:=(z.fY dD 7).iq (mV (ls++[h]) none ds) λe d=>by
   simp only[aq,aL,aO]at d;obtain⟨B,C⟩:=NQ (D h rfl);rcases d with rfl|rfl|rfl|rfl|rfl|rfl
   .exact gN.ir ws
   .exact gN.ir ws
   .exact gN.ir ws
   .refine ⟨λk e d=>?_,λb j=>?_⟩
    .rw [fK,aX]at d;rcases d with d|d
     .exact (k (.all (ls.map cV)) ws:(En.all (ls.map cV)).P x) e d
     .have d:e=cV h:=by simpa using d
      rw[d];exact B x (k (pK h) (by simp[mS])) (k (.bf 7 cu (h.ds.flatMap Sp.c)) ws)
    .obtain ⟨e,d,j⟩:=bI.1 j;rw[fK,aX]at d;rcases d with d|d
     .exact ⟨.all (ls.map cV),ws,bI.2 ⟨e,d,j⟩⟩
     .have d:e=cV h:=by simpa using d
      rw[d]at j;rcases C b j with j|j
      .exact ⟨pK h,by simp[mS],j⟩
      .exact ⟨.bf 7 cu (h.ds.flatMap Sp.c),ws,j⟩
   .exact ⟨λ_ e d=>(by cases d),λb j=>(by obtain⟨e,d,_⟩:=bI.1 j;cases d)⟩
   .exact gN.ir ws
  have e:((ls++[h])++(none:Option Lx).toList)=ls++(some h).toList:=ws
  show LH M w x (oN bp bw aB st ⟨none,0,0⟩ (ls++[h]) none ds) _;unfold oN;rw[e];exact A
def abN{x:Lp}(W:qm x)(A:x.hy.length<=1000000)(aa:x.cl.length<=1000000)(hg:(cL x.g).length<=1000000)(ag:ls.length<=1000000)(H:Rs M w w bp bw aB st cu ls cur ds)(E:cu=⟨none,0,0⟩\/cur≠none)(N:∀B,cur≠none\/ds≠[]->LH M w B [] []->K (ae (.bool false)) B)(af:∀(y:Lx) G B,cur=none->ds=[]->y.p=⟨x.g,x.hy,x.cl,[]⟩->Rs M w B bp bw G st cu ls (some y) ds->(∀b∈(pK y).fp,w.heap.size<=b)->K (ae (.bool true)) B):
  ai V AV #[.pointer (some (ab bp)),.pointer (some (ab bw)),.string (ba (h8 x))] w K:=by
 obtain⟨H,hc⟩:=H;refine Bm.aC (jH (λd=>?_) (λ_=>?_))
 .have d:h8 x=[101,110,100]:=o' d;have:=congrArg (λl=>l[0]?) d;cases this
 refine(ad3 W A aa hg (D:=mV ls cur ds) ws ws (LH.start _ H.rd)).mono ?_;rintro _ w1 ⟨g,h,c,q,rfl,ad,P1,P2,P3,z,f1⟩;have Q:=(((H.bz f1).sL H.oF (.gr g q) P1 (z _ ws)).sL H.oF (.rd h (x.hy.map a5)) P2 (z _ ws)).sL H.oF (.rd c (x.cl.map a5)) P3 (z _ ws);refine⟨g,h,c,⟨none,0,0⟩,true,rfl,Q.aH λb8 w3 U=>aM rfl (U.ah λP k=>⟨cur.isSome,k.i5 1 rfl rfl,?_⟩)⟩;cases cur with
 |some y=>exact aM rfl (N P (.inl ws) ((k.take 0).iq [] λe h=>(by cases h)))
 |none=>
  have F:=(k.get 3:aG _ _ _ _ _).len;rw[Sp.e1]at F;refine aN rfl ⟨st,k.ld 0 1 rfl rfl,aF (λhd=>N P (.inr λe=>?_) ((k.take 0).iq [] λe h=>(by cases h))) (λhd=>k.ah λw5 C=>?_)⟩
  .rw [e]at F;simp at F;omega
  have ac:ds=[]:=List.eq_nil_of_length_eq_zero co;have L:=(C.get 2:aG _ _ _ _ _).len;rw[Lm.len,gv]at L;simp only[Option.toList_none,dy]at L;refine⟨aB,C.ld 0 0 rfl rfl,C.k7 λw6 _ I hx=>?_⟩;refine⟨I.ld 0 0 rfl rfl,I.dp 2 EB (src:=⟨some (ab w5.heap.size),1,1⟩) (news:=Lm.cs ⟨g,h,c,⟨none,0,0⟩⟩) rfl (mf (cs:=Lm.cs ⟨g,h,c,⟨none,0,0⟩⟩) hx rfl) (λu O=>?_) (by show(aB.n+1) *96<=_;omega) λG w7 Y=>Y.rn 0 0 rfl λw8 Z=>Z.rn 1 0 rfl λw9 H9=>?_⟩
  .simp only[Lm.cs,aq,aL,aO]at O;rcases O with rfl|rfl|rfl|rfl<;>rfl
  have S:=H9.take 5;have E:cu=⟨none,0,0⟩:=E.resolve_right λh=>h rfl;subst E;have T:=S.iq (mV ls (some ⟨⟨g,h,c,⟨none,0,0⟩⟩,q,x.hy,x.cl,[]⟩) ds) λe d=>by
   simp only[aq,aL,aO]at d;rcases d with rfl|rfl|rfl|rfl|rfl|rfl
   .exact gN.ir ws
   .exact gN.ir ws
   .exact gN.ir ws
   .exact gN.ir ws
   .refine ⟨λA e d=>?_,λb j=>?_⟩
    .simp only[aq,aL,aO]at d;rcases d with rfl|rfl|rfl|rfl
     .exact A (.gr g q) ws
     .exact A (.rd h (x.hy.map a5)) ws
     .exact A (.rd c (x.cl.map a5)) ws
     .exact λe d=>by cases d
    .obtain ⟨e,d,j⟩:=bI.1 j;simp only[aq,aL,aO]at d;rcases d with rfl|rfl|rfl|rfl
     .exact ⟨.gr g q,ws,j⟩
     .exact ⟨.rd h (x.hy.map a5),ws,j⟩
     .exact ⟨.rd c (x.cl.map a5),ws,j⟩
     .obtain ⟨e,d,_⟩:=bI.1 j;cases d
   .exact gN.ir ws
  refine af ⟨⟨g,h,c,⟨none,0,0⟩⟩,q,x.hy,x.cl,[]⟩ G w9 rfl ac ?_ ⟨?_,λaj hz=>by cases hz;rfl⟩ λb j=>?_
  .unfold Lx.p;dsimp only;rw[ad];rfl
  .have e:((ls++(none:Option Lx).toList).map Lx.m).flatMap Lm.cs++Lm.cs ⟨g,h,c,⟨none,0,0⟩⟩=((ls++(some (⟨⟨g,h,c,⟨none,0,0⟩⟩,q,x.hy,x.cl,[]⟩:Lx)).toList).map Lx.m).flatMap Lm.cs:=ws
   unfold oN;rw[<-e];exact T
  .obtain ⟨e,d,j⟩:=bI.1 j;simp only[aq,aL,aO]at d;rcases d with rfl|rfl|rfl|rfl
   .exact z _ ws b j
   .exact z _ ws b j
   .exact z _ ws b j
   .obtain ⟨e,d,_⟩:=bI.1 j;cases d
def acD{s:bO}:∀r,cU s≠[98,101,103,105,110]++32::r:=λr e=>by
 have d:g5 s.kind=[98,101,103,105,110]:=(qz (Cr s.kind) md e).1;have h:∀i<6,j5.getD i []≠[98,101,103,105,110]:=md
 unfold g5 at d;by_cases j:s.kind.toNat<6
 .exact h _ j d
 .rw [List.getD_eq_getElem?_getD,List.getElem?_eq_none (by show 6<=_;omega)]at d;cases d
def acE{s:bO}:cU s≠[101,110,100]:=λe=>by
 have d:(32:UInt8)∈cU s:=by unfold cU;simp
 rw[e]at d;revert d;decide
def Lx.more(x:Lx)(cu:Sl)(d:Sp):Lx:=⟨⟨x.m.g,x.m.h,x.m.c,cu⟩,x.gl,x.hy,x.cl,x.ds++[d]⟩
def UZ{w:J}{l:List Sp}{d:Sp}(h:(bX l).P w)(k:∀e∈[d.pE,d.hE,d.lE],e.P w):(bX (l++[d])).P w:=λe j=>by
 simp only[iw,cW]at j;rcases aX.1 j with j|j
 .exact h e j
 .simp only[cH,List.flatMap_nil,dy]at j;exact k e j
def yR{l:List Sp}{d:Sp}{b:Nat}(j:b∈(bX (l++[d])).fp):b∈(bX l).fp\/∃e∈[d.pE,d.hE,d.lE],b∈e.fp:=by
 obtain⟨e,h,j⟩:=bI.1 j;simp only[iw,cW]at h;rcases aX.1 h with h|h
 .exact .inl (bI.2 ⟨e,h,j⟩)
 .simp only[cH,List.flatMap_nil,dy]at h;exact .inr ⟨e,h,j⟩
def abP{s:bO}(hs:kO s)(hl:(cU s).length<=1000000000)(aD:ls.length<=1000000)(ay:ds.length<=1000000)(ac:(sU cur).length<=1000000)(H:Rs M w w bp bw aB st cu ls cur ds)(h1:∀(d:Sp) gg Y,cur=none->d.x=s->Rs M w Y bp bw aB gg cu ls none (ds++[d])->(∀e∈[d.pE,d.hE,d.lE],∀b∈e.fp,w.heap.size<=b)->K (ae (.bool true)) Y)(h2:∀(d:Sp) (x:Lx) y Y,cur=some x->d.x=s->Rs M w Y bp bw aB st y ls (some (x.more y d)) ds->(∀e∈[d.pE,d.hE,d.lE],∀b∈e.fp,w.heap.size<=b)->K (ae (.bool true)) Y):
  ai V AV #[.pointer (some (ab bp)),.pointer (some (ab bw)),.string (ba (cU s))] w K:=by
 obtain⟨H,U⟩:=H;refine Bm.aC (jH (λj=>absurd (o' j) acE) (λ_=>?_));refine(Zs hl acD (D:=mV ls cur ds) ws (LH.start _ H.rd)).mono ?_;rintro _ w1 ⟨rfl,f1⟩;have H1:=H.bz f1;refine⟨⟨none,0,0⟩,⟨none,0,0⟩,⟨none,0,0⟩,⟨none,0,0⟩,false,rfl,H1.aH λb8 w3 H3=>aN rfl (H3.ah λw7 H7=>Zt hl ws ws H7 (λd w8 Z H8=>absurd rfl (Z s hs)) (λd w8 ar hd H8 hf=>?_))⟩;have ad:d.x=s:=acz ar hs hd.symm;have af:∀e∈[d.pE,d.hE,d.lE],∀b∈e.fp,w.heap.size<=b:=λe j b k=>bb H7.fr.size (hf e j b k);refine⟨_,_,_,_,_,_,_,_,rfl,H8.aH λax w9 H9=>aN rfl (H9.ah λaF N=>⟨cur.isSome,N.i5 1 rfl rfl,?_⟩)⟩;have E:∀{Y:J} {e:En},e∈[d.pE,d.hE,d.lE]->e∈mV ls cur ds++[d.pE]++[d.hE]++[d.lE]:=λj=>by simp only[aq,aL,aO]at j;rcases j with rfl|rfl|rfl<;>simp
 cases cur with
 |none=>
  refine aN rfl (N.ah λal q=>⟨st,q.ld 0 1 rfl rfl,q.k7 λam _ z hx=>?_⟩);have Z:=(z.get 3:aG _ _ _ _ _).len;rw[Sp.e1]at Z;refine⟨z.ld 0 1 rfl rfl,z.dp 3 uI (src:=⟨some (ab al.heap.size),1,1⟩) (news:=d.c) rfl (mf (cs:=d.c) hx rfl) (λu hu=>Sp.one (l:=[d]) u (by simpa using hu)) (by show(st.n+1) *112<=_;omega) λs' av C=>C.rn 0 1 rfl λI O=>?_⟩;refine h1 d s' I rfl ad ⟨?_,λaw T=>by cases T⟩ af;have Q:=(O.take 5).iq (mV ls none (ds++[d])) λe j=>by
   simp only[aq,aL,aO]at j;rcases j with rfl|rfl|rfl|rfl|rfl|rfl
   .exact gN.ir ws
   .exact gN.ir ws
   .exact gN.ir ws
   .exact gN.ir ws
   .exact gN.ir ws
   .refine ⟨λA=>UZ (A (bX ds) ws) λe j=>A e (E (Y:=I) j),λb k=>?_⟩;rcases yR k with k|⟨e,j,k⟩
    .exact ⟨bX ds,ws,k⟩
    .exact ⟨e,E (Y:=I) j,k⟩
  have e:(ds++[d]).flatMap Sp.c=ds.flatMap Sp.c++d.c:=ws
  unfold oN;rw[e];exact Q
 |some x=>
  have au:=U x rfl;refine aM rfl (N.ah λal q=>⟨aB,q.ld 0 0 rfl rfl,aB,q.ld 0 0 rfl rfl,?_⟩);have ak:=(q.get 2:aG _ _ _ _ _).len;rw[Lm.len,gv]at ak;simp only[Option.toList_some,a7,bR,dK]at ak;have ew:aj .i64 ((aB.n:Int) - 1)=(ls.length:Int):=by rw[aQ _ co];omega
  rw[ew,bB];have ap:((ls++(some x).toList).map Lx.m)[ls.length]? =some x.m:=ws
  have at_:∀{Y:J},aG Y fw 4 aB (((ls++(some x).toList).map Lx.m).flatMap Lm.cs)->∃p,aB.a=some p/\Y.cell? ((p.add (ls.length *4)).add 3)=some cu.v:=λ{Y} S=>by obtain⟨p,_,G,q2⟩:=sV (fN.elem (f:=Lm.cs) (sz:=4) (s:=aB) (λ_=>rfl) md S.bf.2.2 ap (K:=λp=>aB.a=some p/\Y.cell? ((p.add (ls.length *4)).add 3)=some cu.v) λp B U=>⟨B,by rw[<-au];exact U 3 _ rfl⟩);exact⟨p,G,q2⟩
  obtain⟨p,B,_⟩:=at_ (q.get 2);have aa:∀{Y:J},aG Y fw 4 aB (((ls++(some x).toList).map Lx.m).flatMap Lm.cs)->Y.cell? ((p.add (ls.length *4)).add 3)=some cu.v:=λS=>by obtain⟨aE,G,q2⟩:=at_ S;rw[B]at G;cases G;exact q2
  have W:=(q.get 4:aG _ _ _ _ _).len;rw[Sp.e1]at W;have ac:x.ds.length<=1000000:=ac;have W:x.ds.length *7=cu.n *7:=W;have aA:(((ls++(some x).toList).map Lx.m).flatMap Lm.cs).length=4 *(ls.length+1):=by rw[Lm.len,gv];simp;omega
  refine⟨co,co,ym B (q.ah λam z=>⟨cu,aa (z.get 2),z.k7 λav _ C hx=>⟨aa (C.get 2),C.dp 4 uI (src:=⟨some (ab am.heap.size),1,1⟩) (news:=d.c) rfl (mf (cs:=d.c) hx rfl) (λu hu=>Sp.one (l:=[d]) u (by simpa using hu)) (by show(cu.n+1) *112<=_;omega) λy I O=>O.oV 2 (ls.length *4) 3 rfl B co λL Q=>?_⟩⟩)⟩;refine h2 d x y L rfl ad ⟨?_,λaw T=>by cases T;rfl⟩ af;have an:=(Q.take 5).iq (mV ls (some (x.more y d)) ds) λe j=>by
   simp only[aq,aL,aO]at j;rcases j with rfl|rfl|rfl|rfl|rfl|rfl
   .exact gN.ir ws
   .exact gN.ir ws
   .exact gN.ir ws
   .exact gN.ir ws
   .refine ⟨λA e j=>?_,λb k=>?_⟩
    .have F:(pK x).P L:=A (mS (some x)) ws;simp only[aq,aL,aO]at j;rcases j with rfl|rfl|rfl|rfl
     .exact F (.gr x.m.g x.gl) ws
     .exact F (.rd x.m.h (x.hy.map a5)) ws
     .exact F (.rd x.m.c (x.cl.map a5)) ws
     .exact UZ (F (bX x.ds) ws) λe j=>A e (E (Y:=L) j)
    .obtain ⟨e,j,k⟩:=bI.1 k;simp only[aq,aL,aO]at j;rcases j with rfl|rfl|rfl|rfl
     .exact ⟨mS (some x),ws,bI.2 ⟨.gr x.m.g x.gl,ws,k⟩⟩
     .exact ⟨mS (some x),ws,bI.2 ⟨.rd x.m.h (x.hy.map a5),ws,k⟩⟩
     .exact ⟨mS (some x),ws,bI.2 ⟨.rd x.m.c (x.cl.map a5),ws,k⟩⟩
     .rcases yR k with k|⟨e,j,k⟩
      .exact ⟨mS (some x),ws,bI.2 ⟨bX x.ds,ws,k⟩⟩
      .exact ⟨e,E (Y:=L) j,k⟩
   .exact gN.ir ws
  have ao:(sU (some (x.more y d))).flatMap Sp.c=(sU (some x)).flatMap Sp.c++d.c:=by simp[sU,Lx.more]
  have e2:((ls++(some (x.more y d)).toList).map Lx.m).flatMap Lm.cs=(((ls++(some x).toList).map Lx.m).flatMap Lm.cs).set (ls.length *4+3) y.v:=by
   have az:((ls.map Lx.m).flatMap Lm.cs).length=4 *ls.length:=by rw[Lm.len,gv];omega
   simp only[Option.toList_some,fK,jf,List.map_nil,cW,cH,List.flatMap_nil,dy];rw[List.set_append,ag co,show ls.length *4+3 - ((ls.map Lx.m).flatMap Lm.cs).length=3 by omega];rfl
  unfold oN;rw[ao,e2];exact an
end
inductive Ln
 |b (x:Lp)
 |s (s:bO)
 |e
def ef:Ln->List UInt8
 |.b d=>h8 d
 |.s s=>cU s
 |.e=>[101,110,100]
structure Mc where
 ls:List Lp
 cur:Option Lp
 ss:List bO
def Mc.o:Mc:=⟨[],none,[]⟩
def mZ(m:Mc):Ln->Option Mc
 |.e=>m.cur.map λd=>⟨m.ls++[d],none,m.ss⟩
 |.b d=>if m.cur.isNone&&m.ss.isEmpty then some ⟨m.ls,some ⟨d.g,d.hy,d.cl,[]⟩,[]⟩else none
 |.s s=>match m.cur with
  |some d=>some ⟨m.ls,some ⟨d.g,d.hy,d.cl,d.ss++[s]⟩,m.ss⟩
  |none=>some ⟨m.ls,none,m.ss++[s]⟩
def k9(m:Mc)(n:Nat):List Ln->Pp×Nat×Int
 |[]=>if m.cur.isSome then(.e,n,2)else if jF ⟨m.ls,m.ss⟩=0 then(⟨m.ls,m.ss⟩,0,0)else(.e,n,jF ⟨m.ls,m.ss⟩)
 |t::r=>match mZ m t with
  |none=>(.e,n,2)
  |some d=>k9 d (n+((ef t).length+1)) r
def _root_.Go.W.LH.uJ{M:Nat->Prop}{w0 w Y:J}{G L L' D z:List En}(H:LH M w0 w (G++L) D)(k:LH (λb=>∃e∈L,b∈e.fp) w Y L' z)(N:∀e∈z,∀b∈e.fp,w.heap.size<=b\/(∃x∈D,b∈x.fp)\/∃x∈L,b∈x.fp):LH M w0 Y (G++L') z:=by
 have A:=H.nd;rw[cW,List.nodup_append]at A;have B:∀e∈G,∀b∈e.fp,b<w.heap.size/\∀g∈L,b∉g.fp:=λe d b h=>⟨e.lt w (H.own e (bV _ d)) b h,λg j q=>A.2.2 b (cc.2 ⟨e,d,h⟩) b (cc.2 ⟨g,j,q⟩) rfl⟩;have U:∀e∈L',∀b∈e.fp,∀g∈G,b∉g.fp:=λe d b h g j q=>by
  obtain⟨S,T⟩:=B g j b q;rcases k.new e d b h with y|⟨I,F,y⟩
  .omega
  grind
 refine⟨H.fr.trans k.fr λK Q P=>?_,λe d=>?_,k.rd,λe d b h=>?_,?_,λe d b h g j q=>?_⟩
 .obtain ⟨e,d,h⟩:=P;exact(H.new e (List.mem_append_right _ d) K h).resolve_left co
 .rcases aX.1 d with d|d
  .exact e.st w Y (λb h O=>k.fr.cB b O λ⟨g,j,q⟩=>(B e d b h).2 g j q) (H.own e (bV _ d))
  .exact k.own e d
 .rcases aX.1 d with d|d
  .exact H.new e (bV _ d) b h
  .rcases k.new e d b h with y|⟨I,F,y⟩
   .exact .inl (bb H.fr.size y)
   .exact H.new I (List.mem_append_right _ F) b y
 .rw [cW,List.nodup_append];refine⟨A.1,k.nd,λK Q aa Z e=>?_⟩
  grind
 .rcases aX.1 j with j|j
  .rcases N e d b h with y|⟨x,E,C⟩|⟨x,E,C⟩
   .grind
   .exact H.dj x E b C g (bV _ j) q
   grind
  .exact k.dj e d b h g j q
def ad8{m:Mc}{n:Nat}{t:Ln}{r:List Ln}(h:mZ m t=none):k9 m n (t::r)=(.e,n,2):=by
 conv=>lhs;unfold k9
 rw[h]
def yq{m d:Mc}{n:Nat}{t:Ln}{r:List Ln}(h:mZ m t=some d):k9 m n (t::r)=k9 d (n+((ef t).length+1)) r:=by
 conv=>lhs;unfold k9
 rw[h]
structure CB(x:Lp):Prop where
 i:qm x
 t:∀d∈x.g,n4 d/\fA d
 h:x.hy.length<=100000
 c:x.cl.length<=100000
 g:(cL x.g).length<=1000000
def ql:Ln->Prop
 |.b d=>CB d
 |.s s=>kO s/\10∉cU s/\s.params.length<=100000/\s.bM.length<=100000/\s.hints.length<=100000
 |.e=>True
def aby(b:List UInt8):10∉eN b:=λd=>by
 obtain⟨c,_,j⟩:=cc.1 d;have h:∀n<16,hV n≠10:=md
 have:=c.toNat_lt
 grind
def acC{t:Ln}(h:ql t):10∉ef t:=by
 cases t with
 |e=>decide
 |s s=>exact h.2.1
 |b d=>
  show 10∉[98,101,103,105,110]++32::(cG d.hy++32::(cG d.cl++32::eN (cL d.g)));have j:∀l,(10:UInt8)∉cG l:=λl=>AH md md md md;have k:=aby (cL d.g);simp[j,k]
def wL(w0:J)(p:Pp×Nat×Int)(r:bW)(Y:J):Prop:=∃(aB st:Sl) (ls:List Lx) (ds:List Sp),r=ae (.tuple #[.agg #[aB.v,st.v],.i (p.2.1:Int),.i p.2.2])/\ct ls ds=p.1/\(lU aB st ls ds).P Y/\(∀b∈(lU aB st ls ds).fp,w0.heap.size<=b)/\af w0 Y
def G6{w0 Y:J}{n:Nat}{e:Int}(f:af w0 Y):wL w0 (.e,n,e) (ae (.tuple #[.agg #[(⟨none,0,0⟩:Sl).v,(⟨none,0,0⟩:Sl).v],.i (n:Int),.i e])) Y:=⟨⟨none,0,0⟩,⟨none,0,0⟩,[],[],rfl,rfl,(Bk Y).1,(Bk w0).2,f⟩
def mP(ls:List Lx)(cur:Option Lx)(ds:List Sp):Mc:=⟨ls.map Lx.p,cur.map Lx.p,bq ds⟩
structure XE(n:Nat)(cu:Sl)(ls:List Lx)(cur:Option Lx)(ds:List Sp):Prop where
 n:n+ls.length+(sU cur).length+ds.length<=4000
 l:∀x∈ls,qn x
 c:∀x,cur=some x->qn x/\x.m.s=cu
 u:cur=none->cu=⟨none,0,0⟩
 d:∀d∈ds,mB d
def ab9{t:List UInt8}(aC:t.length<=10000000){b2 bp bw:Nat}{w0:J}:∀(O:List Ln) (A:List UInt8) (aB st Q:Sl) (ls:List Lx) (cur:Option Lx) (ds:List Sp) (w:J),t=A++dS (O.map ef)->(∀x∈O,ql x)->XE O.length Q ls cur ds->
  (∀e∈[En.all (ls.map cV),mS cur,bX ds],∀b∈e.fp,w0.heap.size<=b)->LH F0 w0 w ([.g b2]++oN bp bw aB st Q ls cur ds) (mV ls cur ds)->
  vt.a6 (ba t) b2 ⟨none,0,0⟩ ⟨none,0,0⟩ (ab bp) (ab bw) (A.length:Int) w (wL w0 (k9 (mP ls cur ds) A.length O)):=by
 have N:=bU t;intro O;induction O with
 |nil=>
  intro A aB st Q ls cur ds w ht T B hf G;have ht:t=A:=by grind
  subst ht;refine vt.bD (aN (aW co) ⟨cur.isSome,G.i5 2 rfl rfl,?_⟩);cases cur with
  |some x=>
   refine aM rfl (G.ah λw1 E=>?_);rw[N];exact G6 E.fr
  |none=>
   have hn:=B.n;have ai:∀{Y:J} {L D:List En},LH F0 w0 Y ([.g b2]++oN bp bw aB st Q ls none ds++L) D->(∀e∈mV ls none ds,e∈D)->jL Y aB ls/\fP Y st ds:=λ{Y} {L} {D} G hD=>by have r1:aG Y fw 4 aB (((ls++(none:Option Lx).toList).map Lx.m).flatMap Lm.cs):=G.get 3;have r2:aG Y dD 7 st (ds.flatMap Sp.c):=G.get 4;simp only[Option.toList_none,dy]at r1;exact⟨⟨r1.bf,λx M=>oA.1 ((G.rd (.all (ls.map cV)) (hD _ ws):(En.all (ls.map cV)).P Y) (cV x) (bS.2 ⟨x,M,rfl⟩))⟩,⟨r2.bf,te.1 (G.rd (bX ds) (hD _ ws))⟩⟩
   obtain⟨P1,P2⟩:=ai (L:=[]) (by rw[dy];exact G) λe k=>k;refine aN rfl ⟨aB,st,G.ld 1 0 rfl rfl,G.ld 1 1 rfl rfl,G.aA (Aw ⟨co,B.l⟩ ⟨co,B.d⟩ P1 P2 (G.rd cq ws)) ?_⟩;rintro _ w1 rfl E;rw[vr];have ep:k9 (mP ls none ds) t.length []=if jF (ct ls ds)=0 then(ct ls ds,0,0)else(.e,t.length,jF (ct ls ds)):=rfl;rw[ep];refine⟨_,rfl,dA (λh0=>E.ah λK y=>?_) (λh0=>⟨aB,st,E.ld 1 0 rfl rfl,E.ld 1 1 rfl rfl,E.ah λK y=>?_⟩)⟩
   .rw [ag h0,N];exact G6 y.fr
   .rw [au h0];obtain⟨Q1,Q2⟩:=ai (L:=[]) (by rw[dy];exact y) λe k=>k;refine⟨aB,st,ls,ds,rfl,rfl,λe k=>?_,λb q=>?_,y.fr⟩
    .simp only[aq,aL,aO]at k;rcases k with rfl|rfl
     .exact hY.2 Q1
     .exact dM.2 Q2
    .obtain ⟨e,k,q⟩:=bI.1 q;have n1:=y.new _ (aD (i:=3) rfl);have n2:=y.new _ (aD (i:=4) rfl);simp only[aq,aL,aO]at k;rcases k with rfl|rfl
     .obtain ⟨e,k,q⟩:=bI.1 q;rcases aq.1 k with rfl|k
      .exact (n1 b (by simpa using yJ (e:=fw) q)).resolve_right id
      .exact hf _ ws b (bI.2 ⟨e,k,q⟩)
     .rcases Vc.1 q with q|q
      .exact (n2 b (yJ (e:=dD) q)).resolve_right id
      grind
 |cons l r ih=>
  intro A aB st Q ls cur ds w ht T B hf G;have ae:=T l ws;have ap:=acC ae;have ak:t=A++(ef l++10::dS (r.map ef)):=by grind
  have hl:t.length=A.length+((ef l).length+((dS (r.map ef)).length+1)):=by grind
  have ac:t=(A++(ef l++[10]))++dS (r.map ef):=by grind
  have hA:(A++(ef l++[10])).length=A.length+(ef l).length+1:=by grind
  have aa:(A++(ef l++[10])).length=A.length+((ef l).length+1):=co
  refine vt.bD (aM (aR co) ⟨co,co,?_⟩);have e1:(ba t).extract (Int.toNat (A.length:Int)) (ba t).size=ba (ef l++10::dS (r.map ef)):=by
   rw[bB,N,ak];have:=LU (A:=A) (a:=ef l++10::dS (r.map ef)) (b:=[]) rfl (j:=A.length+(ef l++10::dS (r.map ef)).length) rfl
   grind
  rw[e1];refine G.aA ((HN (ba (ef l++10::dS (r.map ef))) 10 w).mono λr Y C=>⟨C.1,C.2▸Fr.refl _ _⟩) ?_;rintro _ w1 rfl E;rw[gm,u1 ap];have ax:aj .i64 ((A.length:Int)+((ef l).length:Int))=((A.length+(ef l).length:Nat):Int):=by rw[aQ _ co];omega
  have ay:aj .i64 ((A.length:Int)+aj .i64 (((ef l).length:Int)+1))=((A.length+(ef l).length+1:Nat):Int):=by rw[bc _ co,aQ _ co];omega
  refine⟨_,rfl,aN (aW co) ?_⟩;rw[ax,ay,bB,bB];have e2:(ba t).extract A.length (A.length+(ef l).length)=ba (ef l):=by rw[ak];exact LU rfl rfl
  rw[e2];refine⟨co,co,co,co,_,Fb E,?_⟩;have stop:∀{Y:J} {L D:List En},LH F0 w0 Y ([.g b2]++L) D->mZ (mP ls cur ds) l=none->vt.b3 b2 ⟨none,0,0⟩ ⟨none,0,0⟩ (A.length:Int) Y (wL w0 (k9 (mP ls cur ds) A.length (l::r))):=λH' C=>H'.ah λaF an=>by rw[ad8 C];exact G6 an.fr
  have bn:=B.n;rw[bR]at bn;have H0:=E.part;rw[<-hA];cases l with
  |e=>
   refine abO ⟨H0,λx C=>(B.c x C).2⟩ (λK H y=>?_) (λx K H y=>?_)
   .have I:=E.uJ y λe k b q=>.inr (.inl ⟨e,k,q⟩);exact⟨y.fr,_,rfl,aM rfl (stop I (by rw[H];rfl))⟩
   .subst H;obtain⟨c1,c2⟩:=NQ ((B.c x rfl).2);have af:∀b∈(En.all ((ls++[x]).map cV)).fp,b∈(En.all (ls.map cV)).fp\/b∈(mS (some x)).fp\/b∈(En.bf 7 Q (x.ds.flatMap Sp.c)).fp:=λb q=>by
     obtain⟨e,k,q⟩:=bI.1 q;rw[fK,aX]at k;rcases k with k|k
     .exact .inl (bI.2 ⟨e,k,q⟩)
     .have k:e=cV x:=by grind
      rw[k]at q;exact .inr (c2 b q)
    have I:=E.uJ y.1 λe k b q=>by
     simp only[aq,aL,aO]at k;rcases k with rfl|rfl|rfl|rfl|rfl|rfl
     .grind
     .grind
     .grind
     .rcases af b q with q|q|q
      .grind
      .grind
      .exact .inr (.inr ⟨_,aD (i:=4) rfl,yJ (e:=dD) q⟩)
     .obtain ⟨e,k,_⟩:=bI.1 q;cases k
     grind
    have S:mZ (mP ls (some x) ds) .e=some (mP (ls++[x]) none ds):=by
     show some (⟨ls.map Lx.p++[x.p],none,bq ds⟩:Mc)=some ⟨(ls++[x]).map Lx.p,none,bq ds⟩
     grind
    refine⟨y.1.fr,_,rfl,aN rfl ?_⟩;rw[yq S,<-aa];refine ih _ aB st ⟨none,0,0⟩ (ls++[x]) none ds K ac (λz F=>T z (by grind)) ?_ ?_ I
    .have ao:r.length+1+ls.length+x.ds.length+ds.length<=4000:=bn;refine⟨?_,λz F=>?_,λz C=>(by cases C),λ_=>rfl,B.d⟩
     .show r.length+(ls++[x]).length+0+ds.length<=4000
      grind
     .rcases aX.1 F with F|F
      .exact B.l z F
      .rw [b0.1 F];exact(B.c x rfl).1
    .intro e k b q;simp only[aq,aL,aO]at k;rcases k with rfl|rfl|rfl
     .rcases af b q with q|q|q
      .grind
      .grind
      .exact (E.new _ (aD (i:=5) rfl) b (yJ (e:=dD) q)).resolve_right id
     .obtain ⟨e,k,_⟩:=bI.1 q;cases k
     grind
  |b x=>
   have M:CB x:=ae;have az:ls.length<=4000:=co
   refine abN M.i (by have:=M.h;omega) (by have:=M.c;omega) M.g co ⟨H0,λx C=>(B.c x C).2⟩ ?_ (λK H y=>?_) (λz av K H U F y Z=>?_)
   .cases cur with
    |none=>exact .inl (B.u rfl)
    |some z=>grind
   .have I:=E.uJ y λe k=>by cases k
    refine⟨y.fr,_,rfl,aM rfl (stop I ?_)⟩;show(if(cur.map Lx.p).isNone&&(bq ds).isEmpty then _ else none)=none;rw[ag];intro C;rw[Bool.and_eq_true]at C;rcases H with H|H
    .cases cur with
     |none=>grind
     |some z=>grind
    .cases ds with
     |nil=>grind
     |cons d ds=>grind
   .subst H;subst U;have S:mZ (mP ls none []) (.b x)=some (mP ls (some z) []):=by show some (⟨ls.map Lx.p,some ⟨x.g,x.hy,x.cl,[]⟩,[]⟩:Mc)=some ⟨ls.map Lx.p,some z.p,[]⟩;rw[F]
    have I:=E.uJ y.1 λe k b q=>by
     simp only[aq,aL,aO]at k;rcases k with rfl|rfl|rfl|rfl|rfl|rfl
     .grind
     .grind
     .grind
     .grind
     .exact .inl (Z b q)
     grind
    refine⟨y.1.fr,_,rfl,aN rfl ?_⟩;rw[yq S,<-aa];have yd:z.ds=[]:=by
     have:bq z.ds=[]:=congrArg Lp.ss F;cases aE:z.ds with
     |nil=>rfl
     |cons d l=>grind
    have yg:xs z.gl=x.g:=congrArg Lp.g F;refine ih _ av st Q ls (some z) [] K ac (λz F=>T z (by grind)) ?_ ?_ I
    .refine ⟨?_,B.l,λam N=>?_,λC=>(by cases C),B.d⟩
     .show r.length+ls.length+z.ds.length+0<=4000
      grind
     .cases N;refine⟨⟨λd U=>M.t _ (by grind),?_,?_,by grind,λd U=>(by grind)⟩,y.2 z rfl⟩
      .rw [show z.hy=x.hy from congrArg Lp.hy F];exact M.h
      .rw [show z.cl=x.cl from congrArg Lp.cl F];exact M.c
    .intro e k b q;simp only[aq,aL,aO]at k;rcases k with rfl|rfl|rfl
     .grind
     .exact bb E.fr.size (Z b q)
     grind
  |s s=>
   obtain⟨hs,_,q1,q2,q3⟩:kO s/\10∉cU s/\s.params.length<=100000/\s.bM.length<=100000/\s.hints.length<=100000:=ae;have ar:(cU s).length<=1000000000:=by have:(ef (.s s)).length=(cU s).length:=rfl;omega
   have sE:∀{d:Sp} {e:En} {b:Nat},b∈e.fp->e∈[d.pE,d.hE,d.lE]->(∀e∈[d.pE,d.hE,d.lE],∀b∈e.fp,w1.heap.size<=b)->w1.heap.size<=b:=λq k C=>C _ k _ q;refine abP hs ar co co co ⟨H0,λx C=>(B.c x C).2⟩ (λd aw K H U y Z=>?_) (λd x W K H U y Z=>?_)
   .subst H;have S:mZ (mP ls none ds) (.s s)=some (mP ls none (ds++[d])):=by
     show some (⟨ls.map Lx.p,none,bq ds++[s]⟩:Mc)=some ⟨ls.map Lx.p,none,bq (ds++[d])⟩
     grind
    have I:=E.uJ y.1 λe k b q=>by
     simp only[aq,aL,aO]at k;rcases k with rfl|rfl|rfl|rfl|rfl|rfl
     .grind
     .grind
     .grind
     .grind
     .grind
     .rcases yR q with q|⟨e,k,q⟩
      .grind
      grind
    refine⟨y.1.fr,_,rfl,aN rfl ?_⟩;rw[yq S,<-aa];refine ih _ aB aw Q ls none (ds++[d]) K ac (λz F=>T z (by grind)) ?_ ?_ I
    .refine ⟨?_,B.l,λam N=>(by cases N),λ_=>B.u rfl,λe k=>?_⟩
     .grind
     .rcases aX.1 k with k|k
      .exact B.d e k
      .rw [b0.1 k];unfold mB
       grind
    .intro e k b q;simp only[aq,aL,aO]at k;rcases k with rfl|rfl|rfl
     .grind
     .grind
     .rcases yR q with q|⟨e,k,q⟩
      .grind
      .exact bb E.fr.size (Z e k b q)
   .subst H;have S:mZ (mP ls (some x) ds) (.s s)=some (mP ls (some (x.more W d)) ds):=by show some (⟨ls.map Lx.p,some ⟨x.p.g,x.p.hy,x.p.cl,x.p.ss++[s]⟩,bq ds⟩:Mc)=some ⟨ls.map Lx.p,some (x.more W d).p,bq ds⟩;rw[<-U];simp[Lx.more,Lx.p,bq]
    have al:∀b∈(pK (x.more W d)).fp,b∈(pK x).fp\/w1.heap.size<=b:=λb q=>by
     obtain⟨e,k,q⟩:=bI.1 q;simp only[aq,aL,aO]at k;rcases k with rfl|rfl|rfl|rfl
     .exact .inl (bI.2 ⟨.gr x.m.g x.gl,ws,q⟩)
     .exact .inl (bI.2 ⟨.rd x.m.h (x.hy.map a5),ws,q⟩)
     .exact .inl (bI.2 ⟨.rd x.m.c (x.cl.map a5),ws,q⟩)
     .rcases yR q with q|⟨e,k,q⟩
      .exact .inl (bI.2 ⟨bX x.ds,ws,q⟩)
      grind
    have I:=E.uJ y.1 λe k b q=>by
     simp only[aq,aL,aO]at k;rcases k with rfl|rfl|rfl|rfl|rfl|rfl
     .grind
     .grind
     .grind
     .grind
     .rcases al b q with q|q
      .exact .inr (.inl ⟨mS (some x),ws,q⟩)
      omega
     grind
    have ad:=(B.c x rfl).1;have ao:r.length+1+ls.length+x.ds.length+ds.length<=4000:=bn;refine⟨y.1.fr,_,rfl,aN rfl ?_⟩;rw[yq S,<-aa];refine ih _ aB st W ls (some (x.more W d)) ds K ac (λz F=>T z (by grind)) ?_ ?_ I
    .refine ⟨?_,B.l,λam N=>?_,λC=>(by cases C),B.d⟩
     .show r.length+ls.length+(x.ds++[d]).length+ds.length<=4000
      grind
     .cases N;refine⟨⟨ad.g,ad.h,ad.c,?_,λe k=>?_⟩,y.2 _ rfl⟩
      .show (x.ds++[d]).length<=100000
       grind
      .rcases aX.1 k with k|k
       .exact ad.d e k
       .rw [b0.1 k];unfold mB
        grind
    .intro e k b q;simp only[aq,aL,aO]at k;rcases k with rfl|rfl|rfl
     .grind
     .rcases al b q with q|q
      .exact hf (mS (some x)) ws b q
      .exact bb E.fr.size q
     grind
def abJ{O:List Ln}(F:∀k∈O,ql k)(I:O.length<=4000)(G:(dS (O.map ef)).length<=10000000){w:J}{D:List En}(d:fU∈D)(Q:h0∈D)(P:cq∈D)(H:LH F0 w w [] D):
  ai V Gg #[.string (ba (dS (O.map ef)))] w (wL w (k9 Mc.o 0 O)):=by
 have S:=bU (dS (O.map ef));refine vt.aC (H.aH λq K z=>aN (aW co) (z.nw λL M A=>A.nw λT N B=>B.agb 2 rfl λy C=>?_));have E:LH F0 w y ([.g q]++oN K.heap.size L.heap.size ⟨none,0,0⟩ ⟨none,0,0⟩ ⟨none,0,0⟩ [] none []) (mV [] none []):=(((C.fY fw 4).fY dD 7).fY dD 7).iq _ λe x=>by
  simp only[aq,aL,aO]at x;rcases x with rfl|rfl|rfl|rfl|rfl|rfl
  .grind
  .grind
  .grind
  .exact ⟨λ_=>λe d=>(by cases d),λb h=>by obtain⟨e,d,_⟩:=bI.1 h;cases d⟩
  .exact ⟨λ_=>λe d=>(by cases d),λb h=>by obtain⟨e,d,_⟩:=bI.1 h;cases d⟩
  .exact ⟨λ_=>λe d=>(by cases d),λb h=>by obtain⟨e,d,_⟩:=bI.1 h;cases d⟩
 exact ab9 G (b2:=q) (w0:=w) O [] ⟨none,0,0⟩ ⟨none,0,0⟩ ⟨none,0,0⟩ [] none [] y rfl F ⟨by simpa[sU]using I,λk j=>(by cases j),λk j=>(by cases j),λ_=>rfl,λk j=>(by cases j)⟩ (λe d b h=>by simp only[aq,aL,aO]at d;rcases d with rfl|rfl|rfl<;>(obtain⟨e,d,_⟩:=bI.1 h;cases d)) E
set_option maxHeartbeats 2000000
namespace CC
open gN
def Mn{pl aB:Nat}:∀{l:List Sp} {i:Nat},(∀(j:Nat) (d:Sp),l[j]? =some d->j6 pl (i+j) aB d.x)->m0 (bq l) (i:Int) (aB:Int)=0
 |[],_,_=>rfl
 |d::l,i,h=>by
  have g:=h 0 d rfl;rw[Nat.add_zero]at g;have B:fu d.x (i:Int) (aB:Int)=0:=by
   have y:¬(bl d.x.nm≠[]/\e4 (bl d.x.nm)=false):=by
    have:∀t∈vj,¬(bl t≠[]/\e4 (bl t)=false):=md
    exact this _ g.nm
   rw[H9 (by have:=g.kind;omega) g.bM.1 y,au,ag]
   .rintro ⟨q,C⟩;have:=g.node.2 q;omega
   .rw [List.all_eq_true];intro A z;have:=g.hints.1 A z;rw[aR co,aR co];rfl
  have k:=Mn (aB:=aB) (l:=l) (i:=i+1) λj e w=>by
   have:=h (j+1) e w
   rwa[show i+(j+1)=i+1+j by omega]at this
  show(if fu d.x (i:Int) (aB:Int)≠0 then fu d.x (i:Int) (aB:Int)else m0 (bq l) ((i:Int)+1) (aB:Int))=0;rw[ag co];exact k
def AB:∀{l:List Lx},(∀d∈l,gW d=0)->jR l=0
 |[],_=>rfl
 |k::l,h=>by rw[AE (h k ws)];exact AB λd j=>h d (by simp[j])
def af2{d:Sp}(h:g8 40 d.x):(ej d.x).length<=1400:=by have j:=dk _ h.k.1;have q:=dk _ h.k.2.1;have w:=dk _ h.k.2.2;have y:=lO _ h.p.2;have z:=lO _ h.l.2;have A:=lO _ h.h.2;have B:=h.p.1;have C:=h.l.1;have D:=h.h.1;have E:=h.t;have F:=eM d.x.params.length co;have G:=eM d.x.bM.length co;have H:=eM d.x.hints.length co;have I:=eM (bl d.x.nm).length (by rw[dY];omega);have K:=dY d.x.nm;unfold ej cY dF;simp only[a7];omega
def abl{ys:List Lx}{ds:List Sp}(w:∀d∈ys,hQ 40 d)(y:ys.length<=2/\∀d∈ys,qi d)(A:ly 40 ds)(P:ds.length<=7)(z:∀i q,ds[i]? =some q->j6 2 i ys.length q.x):
  o8 ys ds/\(e5 (ct ys ds)).length<=80000/\ho (e5 (ct ys ds))=some (ct ys ds)/\kr ys (bq ds)=0:=by
 have F:(ct ys ds).ls.length=ys.length:=by simp[ct]
 have G:kr ys (bq ds)=0:=by unfold kr;rw[AB λd j=>(y.2 d j).e,ag (λj=>j rfl)];exact Mn (i:=0) λO q j=>by rw[Nat.zero_add];exact z O q j
 have H:∀l:List Lx,(∀d∈l,hQ 40 d)->(∀d∈l,qi d)->(fC (l.map Lx.p)).length<=30010 *l.length:=λl=>by
  induction l with
  |nil=>intro _ _;exact br _
  |cons d l C=>
   intro w z;have a:=(An (w d ws) (z d ws)).2.1;have b:=C (λD B=>w D (by simp[B])) λD B=>z D (by simp[B]);have c:=eM (dx d.p).length co;show(dF (dx d.p)++fC (l.map Lx.p)).length<=_;unfold dF;simp only[a7,bR];omega
 have I:∀l:List Sp,(∀q∈l,g8 40 q.x)->((bq l).flatMap ej).length<=1400 *l.length:=λl=>by
  induction l with
  |nil=>intro _;exact br _
  |cons q l C=>
   intro j;have a:=af2 (j q ws);have b:=C λe M=>j e (by simp[M]);show(ej q.x++(bq l).flatMap ej).length<=_;simp only[a7,bR];omega
 have hlen:(e5 (ct ys ds)).length<=80000:=by have a:=H ys w y.2;have b:=I ds A.2;have c:=dk (ys.length:Int) (by constructor<;>omega);have e:=dk (((bq ds).length:Nat):Int) (by simp;omega);have S:=y.1;unfold e5;rw[F];show(bJ (ys.length:Int)++(fC (ys.map Lx.p)++(bJ (((bq ds).length:Nat):Int)++(bq ds).flatMap ej))).length<=80000;simp only[a7];omega
 have E:∀q∈ds,lD q.x:=λq K=>by have a:=A.2 q K;exact⟨a.k,a.p.2,a.l.2,a.h.2⟩
 refine⟨⟨co,λd j=>(An (w d j) (y.2 d j)).2.2,co,λq j=>((A.2 q j).le (by omega:40<=100)).Vi,E,co⟩,hlen,aeh (λQ N=>?_) (by rw[F];omega) (λs j=>?_) co,G⟩
 .obtain ⟨d,j,rfl⟩:=bS.1 N;exact(An (w d j) (y.2 d j)).1
 .obtain ⟨q,L,rfl⟩:=bS.1 j;exact E q L
def acZ{n:Nat}{x y:Lx}(e:x.p=y.p)(h:hQ n y):hQ n x:=by
 have j:xs x.gl=xs y.gl:=congrArg Lp.g e;have z:x.hy=y.hy:=congrArg Lp.hy e;have w:x.cl=y.cl:=congrArg Lp.cl e;have k:bq x.ds=bq y.ds:=congrArg Lp.ss e;have E:=congrArg List.length j;have D:=congrArg List.length k;simp[xs]at E D;refine⟨⟨by have:=h.g.1;omega,by rw[j];exact h.g.2⟩,by rw[z];exact h.h,by rw[w];exact h.c,⟨by have:=h.s.1;omega,λd C=>?_⟩⟩;have:d.x∈bq y.ds:=by rw[<-k];exact bS.2 ⟨d,C,rfl⟩
 obtain⟨q,A,B⟩:=bS.1 this;rw[<-B];exact h.s.2 q A
def aeb:qp 100000 Pp.e:=by refine⟨λj d=>(by cases d),λs d=>(by cases d),dW _,dW _,?_⟩;have h:=dk 0 ⟨md,md⟩;show(bJ 0++([]++(bJ 0++[]))).length<=1000000;simp only[a7,dK];omega
def aee{U:List UInt8}(h:U.length<=100000):qp 100000 (kq U).1:=by
 rcases aed U with⟨p,q,_,w⟩|j
 .rw [w];have d:=SJ co q;exact⟨λz y=>(d.l z y).le h,λs x=>(d.s s x).le h,bb d.m h,d.k,d.b⟩
 .rw [j];exact aeb
end CC
namespace tV
def GC{l:List UInt8}(h:e4 l=true):∀c∈l,c≠32/\c≠10/\c≠40:=by
 have key:∀c:UInt8,df c=true->c≠32/\c≠10/\c≠40:=λc k=>by refine⟨λe=>?_,λe=>?_,λe=>?_⟩<;>(subst e;revert k;decide)
 unfold e4 at h;split at h
 .cases h
 .rename_i c m;simp only[Bool.and_eq_true,List.all_eq_true]at h;intro d j;rcases aq.1 j with rfl|j
  .exact key d (by unfold df;rw[h.1.2];rfl)
  .exact key d (h.2 d j)
def adb{l:List UInt8}(h:e4 l=true):l≠[45]:=λe=>by subst e;revert h;decide
def af6{s:bO}{i aB:Int}(hi:lD s)(h:fu s i aB=0):kO s/\10∉cU s:=by
 have x:¬(s.kind<0\/s.kind>5):=λx=>by rw[H' x]at h;omega
 have w:gB s.bM=0:=by
  by_cases w:gB s.bM=0
  .exact w
  .rw [Vy x w]at h;exact absurd h w
 have q:bl s.nm=[]\/e4 (bl s.nm)=true:=by
  by_cases q:bl s.nm≠[]/\e4 (bl s.nm)=false
  .rw [Vz x w q]at h;omega
  .by_cases d:bl s.nm=[]
   .exact .inl d
   .refine .inr ?_;cases y:e4 (bl s.nm)with
    |true=>rfl
    |false=>exact absurd ⟨d,y⟩ q
 refine⟨⟨co,hi.k.2.1,hi.k.2.2,hi.p,hi.l,hi.h,λj=>?_,λe=>?_,λl e=>?_⟩,acy λj=>?_⟩
 .rcases q with d|d
  .rw [d]at j;cases j
  .exact (GC d _ j).1 rfl
 .rcases q with d|d
  .rw [d]at e;cases e
  .exact adb d e
 .rcases q with d|d
  .rw [d]at e;cases e
  .exact (GC d 40 (by rw[e];simp)).2.2 rfl
 .unfold hF at j;split at j
  .revert j;decide
  .rcases q with d|d
   .rw [d]at j;cases j
   .exact (GC d _ j).2.1 rfl
def VG:∀{l:List bO} {i aB:Int},m0 l i aB=0->∀s∈l,∃w,fu s w aB=0
 |[],_,_,_,s,d=>by cases d
 |q::l,i,aB,d,s,k=>by
  have h:(if fu q i aB≠0 then fu q i aB else m0 l (i+1) aB)=0:=d;split at h
  .rename_i j;exact absurd h j
  .rename_i j;rcases aq.1 k with rfl|k
   .exact ⟨i,Classical.byContradiction j⟩
   .exact VG h s k
def NN:∀{l:List bO} {i:Int},i9 l i=0->∀s∈l,∃w,fu s w 0=0
 |[],_,_,s,h=>by cases h
 |q::l,i,h,s,k=>by
  have d:(if q.kind=4 then(12:Int)else if fu q i 0≠0 then fu q i 0 else i9 l (i+1))=0:=h;split at d
  .exact absurd d md
  .split at d
   .rename_i j;exact absurd d j
   .rename_i j;rcases aq.1 k with rfl|k
    .exact ⟨i,Classical.byContradiction j⟩
    .exact NN d s k
def oz(x:Lp):List Ln:=.b x::(x.ss.map .s++[.e])
def qR(p:Pp):List Ln:=p.ls.flatMap oz++p.ss.map .s
def acM(x:Lp):(oz x).map ef=fW x:=by unfold oz fW;rw[jf,fK,List.map_map];rfl
def FU(p:Pp):(qR p).map ef=jS p:=by unfold qR jS;rw[fK,List.map_map,List.map_flatMap];congr 1;exact congrArg (λf=>p.ls.flatMap f) (funext acM)
def jG:Mc->List Ln->Option Mc
 |m,[]=>some m
 |m,t::r=>match mZ m t with
  |none=>none
  |some d=>jG d r
def BH:∀{a:List Ln} {m d:Mc} {b:List Ln},jG m a=some d->jG m (a++b)=jG d b
 |[],m,d,b,h=>by cases h;rfl
 |t::r,m,d,b,h=>by
  show(match mZ m t with |none=>none|some d=>jG d (r++b))=_;have h:(match mZ m t with |none=>none|some d=>jG d r)=some d:=h;split at h
  .cases h
  .exact BH h
def Uu:∀(ss:List bO) (ls:List Lp) (d:List bO),jG ⟨ls,none,d⟩ (ss.map .s)=some ⟨ls,none,d++ss⟩
 |[],ls,d=>by rw[dy];rfl
 |s::ss,ls,d=>by show jG ⟨ls,none,d++[s]⟩ (ss.map .s)=_;rw[Uu ss,ck];rfl
def Us:∀(ss:List bO) (ls:List Lp) (x:Lp),jG ⟨ls,some x,[]⟩ (ss.map .s)=some ⟨ls,some ⟨x.g,x.hy,x.cl,x.ss++ss⟩,[]⟩
 |[],ls,x=>by rw[dy];rfl
 |s::ss,ls,x=>by show jG ⟨ls,some ⟨x.g,x.hy,x.cl,x.ss++[s]⟩,[]⟩ (ss.map .s)=_;rw[Us ss ls ⟨x.g,x.hy,x.cl,x.ss++[s]⟩];show some (⟨ls,some ⟨x.g,x.hy,x.cl,(x.ss++[s])++ss⟩,[]⟩:Mc)=_;rw[ck];rfl
def afd(ls:List Lp)(x:Lp):jG ⟨ls,none,[]⟩ (oz x)=some ⟨ls++[x],none,[]⟩:=by show jG ⟨ls,some ⟨x.g,x.hy,x.cl,[]⟩,[]⟩ (x.ss.map .s++[.e])=_;rw[BH (Us x.ss ls ⟨x.g,x.hy,x.cl,[]⟩)];rfl
def Ut:∀(l ls:List Lp),jG ⟨ls,none,[]⟩ (l.flatMap oz)=some ⟨ls++l,none,[]⟩
 |[],ls=>by rw[dy];rfl
 |d::l,ls=>by rw[cH,BH (afd ls d),Ut l,ck];rfl
def afe(p:Pp):jG Mc.o (qR p)=some ⟨p.ls,none,p.ss⟩:=by show jG ⟨[],none,[]⟩ (p.ls.flatMap oz++p.ss.map .s)=_;rw[BH (Ut p.ls []),Uu p.ss];rfl
def SB:∀{a:List Ln} {m h:Mc} {n:Nat} {b:List Ln},jG m a=some h->k9 m n (a++b)=k9 h (n+(dS (a.map ef)).length) b
 |[],m,h,n,b,d=>by cases d;rfl
 |t::r,m,h,n,b,d=>by
  have d:(match mZ m t with |none=>none|some h=>jG h r)=some h:=d;split at d
  .cases d
  .rename_i k j;rw[List.cons_append,yq j,SB d];congr 1;show _=n+((ef t++[10])++dS (r.map ef)).length;simp only[a7,bR,dK];omega
def ad7{p:Pp}(h:jF p=0):k9 Mc.o 0 (qR p)=(p,0,0):=by have d:=SB (n:=0) (b:=[]) (afe p);rw[dy]at d;rw[d];show(if(none:Option Lp).isSome then _ else if jF ⟨p.ls,p.ss⟩=0 then _ else _)=_;rw[ag ws,au h]
end tV
def zq(w0:J)(ls:List (List UInt8))(r:bW)(Y:J):Prop:=∃t:Sl,r=ae t.v/\aG Y dv 1 t (ls.map dN)/\∀b∈az t,w0.heap.size<=b
def x5{p d:List UInt8}{n:Nat}(h:p.length+d.length<=n)(j:n<=9000000000000000000):¬(((ba p).size+(ba d).size:Nat):Int)>IntKind.i64.max:=by rw[bU,bU,IntKind.max_i64];omega
section
variable {w:J}
def YM{s t:Sl}{ls:List Lx}{ds:List Sp}(hb:o8 ls ds)(hB:∀x∈ls,hQ 40 x)(y:wO ls ds)(h:jL w s ls)(ht:fP w t ds):
  ai V O8 #[.agg #[s.v,t.v]] w λr F=>zq w (jS (ct ls ds)) r F/\af w F:=by
 have aJ:=h.n;have aK:=ht.n;have aI:=hb.n;have aE:=y.m;obtain⟨E,hT⟩:∃E,E=jS (ct ls ds):=⟨_,rfl⟩;rw[<-hT];have aB:E.length<=500000:=by
  have fl:∀l:List Lx,(∀x∈l,x.ds.length<=100)->(l.flatMap λx=>fW x.p).length<=102 *l.length:=λl=>by
   induction l with
   |nil=>intro _;exact br _
   |cons x l Y=>
    intro hh;have a:=Y λaz ao=>hh az (by simp[ao]);have b:=hh x ws;have e:(fW x.p).length=x.ds.length+2:=by simp[fW,Lx.p]
    rw[cH,a7,bR];omega
  have a:=fl ls λx O=>(y.l x O).1;have b:=y.m;have fm:(ls.map Lx.p).flatMap fW=ls.flatMap λx=>fW x.p:=by rw[List.flatMap_map]
  have e:E.length=(ls.flatMap λx=>fW x.p).length+ds.length:=by rw[hT];unfold jS ct;dsimp only;rw[fm];simp
  omega
 refine nA.aC ((bK (w:=w) [gX s ls,.sp t ds] (by
  intro e q;simp only[aq,aL,aO]at q;rcases q with rfl|rfl
  .exact hY.2 h
  .exact dM.2 ht)).aH λb w1 H1=>?_)
 have one:∀(D:List En) (U:List Nat) (o:Sl) (a:List (List UInt8)) (l:List UInt8) (v:J) (L:List En) (K:Sl->J->Prop),a.length<=1000000->LH F0 w v (.g b::.row dv 1 o (a.map dN)::L) D->(∀aw∈U,En.g aw∈.g b::.row dv 1 o (a.map dN)::L)->(∀G v',LH F0 w v' (.g b::.row dv 1 G ((a++[l]).map dN)::L) D->K G v')->
   dG v (.cells #[.string (ba l)] dv) λw1=>∃(x:Sl) (Q:J),Sem.run V (Builtin.append_ #[Ca,Ca] Ca #[o.v,.slice (some (nb v)) 1 1]) w1=.ok x.v Q/\kept U w1 Q/\K x Q:=by
  intro D U o a l v L K ha A C hK;have al:=(A.get 1:aG _ _ _ _ _).len;rw[gv]at al;exact A.iD 1 KP rfl (λG v' H'=>hK G v' (by
   have e:a.map dN++#[Value.string (ba l)].toList=(a++[l]).map dN:=by simp[dN]
   rw[e]at H';exact H')) co (bG:=C)
 have av:∀(k i:Nat) (v:J) (o:Sl) (a:List (List UInt8)),i+k=ds.length->a++((bq ds).drop i).map cU=E->LH F0 w v [.g b,.row dv 1 o (a.map dN)] [gX s ls,.sp t ds]->
   nA.iC b s t o (i:Int) v λr F=>zq w E r F/\af w F:=by
  intro k;induction k with
  |zero=>
   intro i v o a hi q A;rw[c9 (by simp;omega),List.map_nil,dy]at q;refine nA.kL (aN (aW co) ⟨⟨o,rfl,?_,λx O=>(A.new _ (aD (i:=1) rfl) x O).resolve_right id⟩,A.fr⟩);rw[<-q];exact A.get 1
  |succ k Y=>
   intro i v o a hi q A;have C:ds[i]? =some ds[i]:=a' co;generalize ds[i]=B at C;have H:=aD C;have S:=dM.1 (A.getD 1);rw[B0 C,jf]at q;have P:=congrArg List.length q;simp only[a7,bR]at P;refine nA.kL (aM (aR co) ⟨co,co,S.get C λp y=>?_⟩);rw[bB];refine⟨_,_,_,_,_,_,_,y.c0,y.c1,y.c2,y.c3,y.c4,y.c5,y.c6,A.aA (JB (d:=B) (wO.d ‹wO ls ds› B H) (S.2 B H)) ?_⟩;rintro _ Q rfl H2;refine⟨_,rfl,one _ [b] o a (cU B.x) Q [] _ co H2 ws λG Z T=>?_⟩;rw[bc _ co];exact Y (i+1) Z G (a++[cU B.x]) co (by rw[<-q];simp) T
 have ar:∀(k i:Nat) (v:J) (o:Sl) (a:List (List UInt8)),i+k=ls.length->a++((ls.drop i).flatMap (λx=>fW x.p)++(bq ds).map cU)=E->LH F0 w v [.g b,.row dv 1 o (a.map dN)] [gX s ls,.sp t ds]->
   nA.a6 b s t o (i:Int) v λr F=>zq w E r F/\af w F:=by
  intro k;induction k with
  |zero=>
   intro i v o a hi q A;rw[c9 co]at q;exact nA.bD (aN (aW co) (av ds.length 0 v o a co (by rw[List.drop_zero];exact q) A))
  |succ k Y=>
   intro i v o a hi q A;have ad:=hY.1 (A.getD 0);have O:ls[i]? =some (ls[i]'co):=a' co;generalize ls[i]'co=x at O;have I:=aD O;have W:=hb.l x I;obtain⟨aF,ak⟩:=y.l x I;obtain⟨ae,ag,aj⟩:=y.h x I;have ex:(ls.drop i).flatMap (λx=>fW x.p)=fW x.p++(ls.drop (i+1)).flatMap λx=>fW x.p:=by rw[AD O];rfl
   rw[ex]at q;have q:a++((h8 x.p::((bq x.ds).map cU++[[101,110,100]]))++(ls.drop (i+1)).flatMap (λx=>fW x.p)++(bq ds).map cU)=E:=q;have P:=congrArg List.length q;simp only[a7,bR,gv,dK]at P;have l1:=il W.h;have l2:=il W.c;have l3:=qK (cL (xs x.gl));have C:=(hB x I).g;refine nA.bD (aM (aR co) ⟨co,co,ad.get O λp _ hc=>?_⟩);rw[bB];refine⟨_,_,_,_,hc.c0,hc.c1,hc.c2,hc.c3,A.aH λN w5 H5=>H5.ah λw6 H6=>H6.aA (w8 ((sF I (e:=.rd x.m.h (x.hy.map a5)) ws).1 _ (H6.getD 0)) W.h ae) ?_⟩;rintro _ w7 rfl H7;have e1:ByteArray.mk #[98,101,103,105,110,32]=ba [98,101,103,105,110,32]:=rfl;have e2:ByteArray.mk #[32]=ba [32]:=rfl;refine⟨_,rfl,?_⟩;rw[e1,e2];simp only[cN];refine⟨x5 (n:=100000000) (by simp only[a7,bR,dK];omega) co,x5 (n:=100000000) (by simp only[a7,bR,dK];omega) co,H7.aA (w8 ((sF I (e:=.rd x.m.c (x.cl.map a5)) ws).1 _ (H7.getD 0)) W.c ag) ?_⟩;rintro _ aP rfl H8;refine⟨_,rfl,?_⟩;simp only[cN];refine⟨x5 (n:=100000000) (by simp only[a7,bR,dK];omega) co,x5 (n:=100000000) (by simp only[a7,bR,dK];omega) co,H8.jv (JY (ch.1 ((sF I (e:=.gr x.m.g x.gl) ws).1 _ (H8.getD 0))) (λB H=>(C.2 B.x (bS.2 ⟨B,H,rfl⟩)).wd) (λB H=>W.z B.x (bS.2 ⟨B,H,rfl⟩)) co) λu w9 _ aa hu nu=>⟨u,rfl,?_⟩⟩;have H9:=aa.rd (.rd u ((cL (xs x.gl)).map bL)) hu.rd (eP nu);refine H9.aA (Zd (show Bytes w9 u (cL (xs x.gl))from H9.getD 2) aj) ?_;rintro _ ax rfl ab;refine⟨_,rfl,?_⟩;simp only[cN];refine⟨x5 (n:=1000000000) (by simp only[a7,bR,dK];omega) co,?_⟩;have eb:[98,101,103,105,110,32]++cG x.hy++[32]++cG x.cl++[32]++eN (cL (xs x.gl))=h8 x.p:=by show _=[98,101,103,105,110]++32::(cG x.hy++32::(cG x.cl++32::eN (cL (xs x.gl))));simp
   rw[eb];refine one _ [b,N] o a (h8 x.p) ax [.g N] _ co ab ws λo1 ay ac=>?_;have au:∀(k j:Nat) (v:J) (o:Sl) (M:List (List UInt8)),j+k=x.ds.length->M++(((bq x.ds).drop j).map cU++[[101,110,100]]++(ls.drop (i+1)).flatMap (λx=>fW x.p)++(bq ds).map cU)=E->LH F0 w v [.g b,.row dv 1 o (M.map dN),.g N] [gX s ls,.sp t ds]->
     nA.cy b s t o (i:Int) N x.m.g x.m.h x.m.c x.m.s (j:Int) v λr F=>zq w E r F/\af w F:=by
    intro k;induction k with
    |zero=>
     intro j v o M hj q A;rw[c9 (by simp;omega),List.map_nil,List.nil_append]at q;have am:=dM.1 ((sF I (e:=.sp x.m.s x.ds) ws).1 _ (A.getD 0));have an:=am.n;have P:=congrArg List.length q;simp only[a7,bR,dK]at P;refine nA.dH (aN (aW co) (one _ [b,N] o M [101,110,100] v [.g N] _ co A ws λG Z T=>?_));rw[bc _ co];exact Y (i+1) Z G (M++[[101,110,100]]) co (by rw[<-q];simp) (T.take 2)
    |succ k ap=>
     intro j v o M hj q A;have C:x.ds[j]? =some x.ds[j]:=a' co;generalize x.ds[j]=B at C;have H:=aD C;have S:=dM.1 ((sF I (e:=.sp x.m.s x.ds) ws).1 _ (A.getD 0));have an:=S.n;rw[B0 C,jf]at q;have P:=congrArg List.length q;simp only[a7,bR]at P;refine nA.dH (aM (aR co) ⟨co,co,S.get C λp y=>?_⟩);rw[bB];refine⟨_,_,_,_,_,_,_,y.c0,y.c1,y.c2,y.c3,y.c4,y.c5,y.c6,A.aA (JB (d:=B) (ak B H) (S.2 B H)) ?_⟩;rintro _ Q rfl H2;refine⟨_,rfl,one _ [b,N] o M (cU B.x) Q [.g N] _ co H2 ws λG Z T=>?_⟩;rw[bc _ co];exact ap (j+1) Z G (M++[cU B.x]) co (by rw[<-q];simp) T
   refine au x.ds.length 0 ay o1 (a++[h8 x.p]) co (by rw[List.drop_zero,<-q];simp) (ac.forget _ λe q=>by simp only[aq,aL,aO]at q;rcases q with rfl|rfl<;>simp)
 refine ar ls.length 0 w1 ⟨none,0,0⟩ [] co ?_ (H1.fY dv 1);rw[hT];have fm:(ls.map Lx.p).flatMap fW=ls.flatMap λx=>fW x.p:=by rw[List.flatMap_map]
 unfold jS ct;dsimp only;rw[fm,List.drop_zero,List.nil_append]
end
namespace tV
open gN CC
structure wN(p:Pp):Prop where
 l:∀x∈p.ls,x.ss.length<=100/\∀s∈x.ss,j8 s
 h:∀x∈p.ls,x.hy.length<=1000000/\x.cl.length<=1000000/\(cL x.g).length<=10000000
 m:p.ss.length<=100
 d:∀s∈p.ss,j8 s
 t:(dS (jS p)).length<=6000000
 n:(qR p).length<=1000
 k:∀x∈qR p,ql x
def wN.G9{ls:List Lx}{ds:List Sp}(h:wN (ct ls ds)):wO ls ds:=by
 refine⟨λk w=>?_,λk w=>?_,?_,λj q=>h.d j.x (bS.2 ⟨j,q,rfl⟩),by have:=h.t;omega⟩
 .obtain ⟨a,b⟩:=h.l k.p (bS.2 ⟨k,w,rfl⟩);exact⟨by simpa[Lx.p]using a,λj q=>b j.x (bS.2 ⟨j,q,rfl⟩)⟩
 .exact h.h k.p (bS.2 ⟨k,w,rfl⟩)
 .simpa [ct]using h.m
def af1{s:bO}(h:g8 40 s)(d:0<=s.kind/\s.kind<=5):j8 s:=
 ⟨d,h.k.2.1,h.k.2.2,⟨h.p.2,by have:=h.p.1;omega⟩,⟨h.l.2,by have:=h.l.1;omega⟩,⟨h.h.2,by have:=h.h.1;omega⟩,by have:=h.t;omega⟩
def Vw{s:bO}(h:g8 40 s):(cU s).length<=3000:=by have x:=nt h.k.2.1;have y:=nt h.k.2.2;have z:=il h.p.2;have A:=il h.l.2;have B:=il h.h.2;have C:=A4 s;have D:=Cq s.kind;have d:=h.p.1;have j:=h.l.1;have q:=h.h.1;have w:=h.t;unfold cU;simp only[a7,bR];omega
def FQ:∀l:List bO,(∀s∈l,(cU s).length<=3000)->(dS (l.map cU)).length<=3001 *l.length
 |[],_=>br _
 |s::l,d=>by have a:=d s ws;have b:=FQ l λj h=>d j (by simp[h]);show((cU s++[10])++dS (l.map cU)).length<=_;simp only[a7,bR,dK];omega
def Vx{s:bO}(h:g8 40 s):lD s:=⟨h.k,h.p.2,h.l.2,h.h.2⟩
def Vt{s:bO}{i aB:Int}(h:g8 40 s)(d:fu s i aB=0):ql (.s s)/\j8 s:=by obtain⟨a,b⟩:=af6 (Vx h) d;exact⟨⟨a,b,by have:=h.p.1;omega,by have:=h.l.1;omega,by have:=h.h.1;omega⟩,af1 h a.kind⟩
def Ny:∀{l:List Lp},qO l=0->∀d∈l,nE d=0
 |[],_,d,h=>by cases h
 |w::l,h,d,q=>by
  have j:(if nE w≠0 then nE w else qO l)=0:=h;split at j
  .rename_i k;exact absurd j k
  .rename_i k;rcases aq.1 q with rfl|q
   .exact Classical.byContradiction k
   .exact Ny j d q
def acf{x:Lp}(h:nE x=0):i9 x.ss 0=0:=by
 unfold nE at h;split at h
 .rename_i d;exact absurd h d
 .split at h
  .split at h
   .rename_i d;exact absurd h d
   .exact h
  .cases h
structure Xp(x:Lp):Prop where
 g:∀d∈x.g,n4 d/\fA d
 n:x.g.length<=4096
 v:gL x.g=0
 h:nY 40 x.hy
 c:nY 40 x.cl
 e:(cL x.g).length<=30000
 z:∀d∈x.g,(dJ d).length<=1000000
structure rM(n:Nat)(x:Lp):Prop where
 h:Xp x
 n:x.ss.length<=n
 s:∀s∈x.ss,g8 40 s
structure Dh(n:Nat)(p:Pp):Prop where
 nl:p.ls.length<=n
 l:∀x∈p.ls,rM n x
 ns:p.ss.length<=n
 s:∀s∈p.ss,g8 40 s
def rM.i{n:Nat}{x:Lp}(h:rM n x):qm x:=⟨λd j=>(h.h.g d j).2,h.h.n,h.h.v,h.h.h.2,h.h.c.2,λs k=>Vx (h.s s k)⟩
def rM.b{n:Nat}{x:Lp}(h:rM n x):CB x:=⟨h.i,h.h.g,by have:=h.h.h.1;omega,by have:=h.h.c.1;omega,by have:=h.h.e;omega⟩
def rM.Yl{n:Nat}{x:Lp}(h:rM n x):(h8 x).length<=70000:=by have d:=il h.h.h.2;have j:=il h.h.c.2;have k:=h.h.h.1;have q:=h.h.c.1;have w:=qK (cL x.g);have y:=h.h.e;unfold h8;simp only[a7,bR,dK];omega
def abm{ys:List Lx}{ds:List Sp}(E:∀d∈ys,hQ 40 d)(y:ys.length<=2/\∀d∈ys,qi d)(q:ly 40 ds)(G:ds.length<=7):Dh 7 (ct ys ds):=by
 refine⟨by have:=y.1;simp[ct];omega,λL H=>?_,by simpa[ct]using G,λs x=>?_⟩
 .obtain ⟨d,A,rfl⟩:=bS.1 H;have b:=E d A;have g:=y.2 d A;obtain⟨B,K,C⟩:=An b g;have I:(cL d.p.g).length<=(dx d.p).length:=by unfold dx dF;simp only[a7];omega
  refine⟨⟨λj q=>?_,B.n,B.v,b.h,b.c,co,C.z⟩,?_,λs x=>?_⟩
  .obtain ⟨D,F,rfl⟩:=bS.1 q;exact C.k.g D F
  .have:=g.n;show(bq d.ds).length<=7;simp;omega
  .obtain ⟨j,w,rfl⟩:=bS.1 x;exact b.s.2 j w
 .obtain ⟨j,w,rfl⟩:=bS.1 x;exact q.2 j w
def aef{p:Pp}(d:jF p=0):qO p.ls=0/\m0 p.ss 0 (p.ls.length:Int)=0:=by
 unfold jF at d;split at d
 .rename_i h;exact absurd d h
 .rename_i h;exact⟨Classical.byContradiction h,d⟩
def Dh.pl{n:Nat}{p:Pp}(h:Dh n p)(K:n<=30)(F:jF p=0):wN p:=by
 obtain⟨D,E⟩:=aef F;have C:∀s∈p.ss,ql (.s s)/\j8 s:=λs j=>by obtain⟨G,x⟩:=VG E s j;exact Vt (h.s s j) x
 have B:∀d∈p.ls,∀s∈d.ss,ql (.s s)/\j8 s:=λd q s j=>by obtain⟨G,x⟩:=NN (acf (Ny D d q)) s j;exact Vt ((h.l d q).s s j) x
 have L:=h.nl;have M:=h.ns;refine⟨λd q=>⟨by have:=(h.l d q).n;omega,λs j=>(B d q s j).2⟩,λd q=>?_,co,λs j=>(C s j).2,?_,?_,λt k=>?_⟩
 .have a:=(h.l d q).b;exact⟨by have:=a.h;omega,by have:=a.c;omega,by have:=a.g;omega⟩
 .have f:∀l:List Lp,(∀d∈l,d∈p.ls)->(dS (l.flatMap fW)).length<=170000 *l.length:=λl=>by
   induction l with
   |nil=>intro _;exact br _
   |cons d l z=>
    intro w;have a:=z λA y=>w A (by simp[y]);have q:=h.l d (w d ws);have H:=q.n;have I:=q.Yl;have c:=FQ d.ss λs j=>Vw (q.s s j);rw[cH,v9,a7,bR];have e:(dS (fW d)).length=(h8 d).length+1+((dS (d.ss.map cU)).length+4):=by rw[Wp,Io];simp only[a7,bR,dK]
    omega
  have a:=f p.ls λd h=>h;have b:=FQ p.ss λs j=>Vw (h.s s j);unfold jS;rw[v9,a7];omega
 .have f:∀l:List Lp,(∀d∈l,d∈p.ls)->(l.flatMap oz).length<=32 *l.length:=λl=>by
   induction l with
   |nil=>intro _;exact br _
   |cons d l z=>
    intro w;have a:=z λA y=>w A (by simp[y]);have b:=(h.l d (w d ws)).n;rw[cH,a7,bR];have e:(oz d).length=d.ss.length+2:=by simp[oz]
    omega
  have a:=f p.ls λd h=>h;unfold qR;rw[a7,gv];omega
 .rcases aX.1 k with k|k
  .obtain ⟨d,q,k⟩:=cc.1 k;unfold oz at k;rcases aq.1 k with rfl|k
   .exact (h.l d q).b
   .rcases aX.1 k with k|k
    .obtain ⟨s,j,rfl⟩:=bS.1 k;exact(B d q s j).1
    .rw [b0.1 k];trivial
  .obtain ⟨s,j,rfl⟩:=bS.1 k;exact(C s j).1
def abk{ys:List Lx}{ds:List Sp}(j:∀d∈ys,hQ 40 d)(w:ys.length<=2/\∀d∈ys,qi d)(k:ly 40 ds)(q:ds.length<=7)(h:kr ys (bq ds)=0):wN (ct ys ds):=
 (abm j w k q).pl co (by rw[<-vr];exact h)
section
variable {w:J}
def adW{O:List Ln}(z:∀G∈O,ql G)(C:O.length<=4000)(B:(dS (O.map ef)).length<=10000000)(y:fU.P w)(E:h0.P w)(A:cq.P w):
  ai V Gg #[.string (ba (dS (O.map ef)))] w λr h=>wL w (k9 Mc.o 0 O) r h/\af w h:=by
 refine(abJ z C B (D:=[fU,h0,cq]) ws ws ws (bK _ λe d=>?_)).mono λr h d=>?_
 .simp only[aq,aL,aO]at d;rcases d with rfl|rfl|rfl
  .exact y
  .exact E
  .exact A
 .obtain ⟨F,st,ls,j,e,k,q,x,f⟩:=d;exact⟨⟨F,st,ls,j,e,k,q,x,f⟩,f⟩
def afB{M:Nat->Prop}{w0:J}{D:List En}{aB st:Sl}{ys:List Lx}{ds:List Sp}(H:LH M w0 w [.row fw 4 aB ((ys.map Lx.m).flatMap Lm.cs),.row dD 7 st (ds.flatMap Sp.c)] (D++ys.map cV++[bX ds])):LH M w0 w [] (D++[lU aB st ys ds]):=by
 have q:=(H.freeze 1 (.bf 7 st (ds.flatMap Sp.c)) rfl (aG.bf (H.get 1)) λb h=>Ho h).freeze 0 (.bf 4 aB ((ys.map Lx.m).flatMap Lm.cs)) rfl (aG.bf (H.get 0)) λb h=>Ho h;refine(q.take 0).iq _ λe j=>?_;rcases aX.1 j with j|j
 .exact gN.ir (by simp[j])
 .rw [b0.1 j];refine⟨λk e d=>?_,λb h=>?_⟩
  .simp only[aq,aL,aO]at d;rcases d with rfl|rfl
   .intro e d;refine k e ?_;rcases aq.1 d with rfl|d
    .simp
    .simp [d]
   .intro e d;rcases aq.1 d with rfl|d
    .exact k _ ws
    .exact (k (bX ds) ws:(bX ds).P w) e d
  .obtain ⟨e,d,h⟩:=bI.1 h;simp only[aq,aL,aO]at d;rcases d with rfl|rfl
   .obtain ⟨e,d,h⟩:=bI.1 h;refine⟨e,?_,h⟩;rcases aq.1 d with rfl|d
    .simp
    .simp [d]
   .obtain ⟨e,d,h⟩:=bI.1 h;rcases aq.1 d with rfl|d
    .exact ⟨_,ws,h⟩
    .exact ⟨bX ds,ws,bI.2 ⟨e,d,h⟩⟩
def acY{ys ls:List Lx}{ds h:List Sp}(j:∀d∈ys,hQ 40 d)(q:ct ls h=ct ys ds):∀d∈ls,hQ 40 d:=λd k=>by
 have:d.p∈(ct ys ds).ls:=by rw[<-q];exact bS.2 ⟨d,k,rfl⟩
 obtain⟨y,w,x⟩:=bS.1 this;exact acZ x.symm (j y w)
def aah{ys ls:List Lx}{ds d:List Sp}(j:ly 40 ds)(z:ct ls d=ct ys ds):ly 40 d:=by
 have e:bq d=bq ds:=congrArg Pp.ss z;refine⟨by have:=congrArg List.length e;simp at this;have:=j.1;omega,λh y=>?_⟩;have:h.x∈bq ds:=by rw[<-e];exact bS.2 ⟨h,y,rfl⟩
 obtain⟨k,q,w⟩:=bS.1 this;rw[<-w];exact j.2 k q
end
end tV
namespace tV
open gN CC
section
variable {w:J}
open KX in
def law{l0 m1:Sl}{xs ms:List Int}(F:∀aa∈xs,aY aa)(ap:xs.length<=9223372036854775807)(hy:∀aa∈ms,aY aa)(an:ms.length<=9223372036854775807)(hl:bx w l0 xs)(hm:bx w m1 ms)(hk:cq.P w)(he:lA w)(hw:h0.P w):
  ai V F6 #[l0.v,m1.v] w (Xm w):=by
 have al:LH F0 w w [] [cq,fU,h0,.rd l0 (xs.map a5),.rd m1 (ms.map a5)]:=bK _ (by
  intro e ad;simp only[aq,aL,aO]at ad;rcases ad with rfl|rfl|rfl|rfl|rfl
  .exact hk
  .exact he
  .exact hw
  .exact hl
  .exact hm)
 refine aC ((YX F ap hy an (cD:=7) co ws ws al).mono ?_);rintro _ w1 ⟨aF,st,h,d,rfl,H1,B,_,yg,db,dl,dg⟩;have H3:=afB H1;have M:ly 40 d:=⟨co,db⟩;obtain⟨pw,pB,pr,p0⟩:=abl B.2 yg M dl dg;have j:=abk B.2 yg M dl p0;have G:jF (ct h d)=0:=by rw[<-vr];exact p0
 obtain⟨C,Z⟩:∃C,C=e5 (ct h d):=⟨_,rfl⟩;have pn:qp 100000 (ct h d):=by
  have:=aee (U:=e5 (ct h d)) co
  rwa[Bl pr G]at this
 obtain⟨ac,E⟩:∃ac,ac=dS (jS (ct h d)):=⟨_,rfl⟩;have pt:=j.t;rw[<-E]at pt;rw[<-Z]at pB pr;have dec:kq C=(ct h d,0):=Bl pr G;refine⟨_,_,rfl,H3.aH λb1 w2 G2=>G2.ah λw3 y=>y.aA (Sn pw j.G9 (lV (y.getD 5)).1 (lV (y.getD 5)).2 (y.getD 0) (y.getD 1) (y.getD 2) p0) ?_⟩;rw[<-E];rintro _ w4 rfl H;have ae:=adW (O:=qR (ct h d)) j.k (by have:=j.n;omega) (by rw[FU];have:=j.t;omega) (H.getD 1) (H.getD 2) (H.getD 0);rw[FU,<-E,ad7 G]at ae;refine⟨_,_,rfl,H.iF ae ?_⟩;rintro _ w5 ⟨ar,aD,N,K,rfl,q,hP,hn,_⟩ _ F5;have q:ct N K=ct h d:=q;have G5:=F5.rd (lU ar aD N K) hP hn;have az:o8 N K:=qp.w (by rw[q];exact pn) (br _);have ax:kr N (bq K)=0:=by rw[vr,q];exact G
 refine⟨_,_,_,_,rfl,G5.aH λb2 w6 G6=>G6.ah λw7 I=>I.iF (adV az (lV (I.getD 6)).1 (lV (I.getD 6)).2 (I.getD 0)) ?_⟩;rintro _ w8 ⟨s,rfl,h1,_⟩ _ F8;rw[ax]at h1 ⊢;obtain⟨ob,av⟩:=h1 rfl;rw[q,<-Z]at ob;have Y:=F8.rd (.rd s (C.map W.bL)) ob.rd (eP av);refine⟨_,_,rfl,Y.iF (adU (show Bytes w8 s C from Y.getD 7) co (Y.getD 0)) ?_⟩;rw[dec];rintro _ w9 ⟨au,aE,Q,L,rfl,z,am,ao⟩ _ F9;have z:ct Q L=ct h d:=z;have ak:=F9.rd (lU au aE Q L) am ao;have aB:o8 Q L:=qp.w (by rw[z];exact pn) (br _);have ay:wN (ct Q L):=by rw[z];exact j
 refine⟨_,_,_,rfl,ak.aH λb3 aI ag=>ag.ah λaJ x=>x.aA (Sn aB ay.G9 (lV (x.getD 8)).1 (lV (x.getD 8)).2 (x.getD 0) (x.getD 1) (x.getD 2) (by rw[vr,z];exact G)) ?_⟩;rw[z,<-E];rintro _ aK rfl S;refine⟨_,_,rfl,aM rfl (aM rfl (aM rfl (aM rfl (aM rfl (aM rfl (S.iF (YM pw B.2 j.G9 (lV (S.getD 5)).1 (lV (S.getD 5)).2) ?_))))))⟩;rintro _ aN ⟨t,rfl,row,aw⟩ _ af;have ab:=af.rd (.rd t ((jS (ct h d)).map dN)) (aG.hq row) (eP aw);have lt:∀A∈jS (ct h d),A.length<=6000000:=λA F=>by
  have:A.length<=(dS (jS (ct h d))).length:=by obtain⟨a,b,e⟩:=List.append_of_mem F;rw[e,v9,a7];show _<=_+((A++[10])++dS b).length;simp only[a7];omega
  have:=j.t;omega
 refine⟨_,rfl,ab.aA (YZ (ab.getD 9) (λA F=>by have:=lt A F;omega) (by have:=j.n;rw[<-FU,gv];omega)) ?_⟩;rw[<-E];rintro _ aP rfl D;refine⟨_,rfl,aM ws (aM ws (D.aA (YW B.2 M (acY B.2 q) (aah M q) (by rw[<-Z];omega) (by have:=B.1;omega) q (lV (D.getD 5)).1 (lV (D.getD 5)).2 (lV (D.getD 6)).1 (lV (D.getD 6)).2) ?_))⟩;rintro _ aQ rfl T;refine⟨_,rfl,aM rfl (T.aA (Zk (T.getD 1) (T.getD 2)) ?_)⟩;rintro _ aR rfl aj;exact⟨_,rfl,rfl,aj.fr⟩
end
end tV
def zd{P:aJ}{W:J}{n:String}{g m:Nat}{cs:Array aa}{vs:List aa}(h:P.globalNamed n=some g)(q:W.var? P n=some cs)(e:cs.toList=vs)(k:m=vs.length):Rd W ⟨some (ab g),m,m⟩ vs:=by refine By k (br _) (λd=>by cases d) λi v j=>⟨ab g,rfl,?_⟩;rw[show(ab g).add i=⟨g,i,none⟩from Je g i,World.var?_cell h q i,<-j,<-e,Array.getElem?_toList]
def agf{P:aJ}{w:J}{fuel n:Nat}{t e:TypeId}{cs:List aa}{O:List (List UInt8)}{p:List MemPlace}(F:P.underlying t=some (.array n e))(C:P.underlying e=some .string)(A:P.cellsOf e=1)(I:P.cellsOf t=n)(h:DataW.trod (λ_=>()) P w 0 (λ_=>true) false fuel t cs=some (.agg (O.map λs=>.lit (.string s)),p)):cs=O.map dN:=by
 obtain⟨xs,m,rfl,G,K,M,z⟩:=DataW.trod_array F h;have q:xs.map (·.1)=O.map λs=>(DataW.lit (.string s):DataW Unit):=by have:=congrArg Prod.fst G;simpa using this.symm
 have L:O.length=n:=by have:=congrArg List.length q;simp at this;omega
 apply List.ext_getElem?;intro i;by_cases D:i<n
 .have j:=z i D;obtain⟨b,k⟩:∃b,xs[i]? =some b:=⟨xs[i]'co,a' co⟩;rw[k,A,Nat.mul_one]at j;obtain⟨s,B,rfl,_⟩:=DataW.trod_string C j;have y:cs[i]? =some (.string s):=by have:=congrArg (·[0]?) B;simpa[List.getElem?_take,List.getElem?_drop]using this
  have d:(xs.map (·.1))[i]? =some (DataW.lit (.string s.data.toList):DataW Unit):=by simp[k]
  rw[q]at d;simp only[List.getElem?_map,Option.map_eq_some_iff,DataW.lit.injEq,Lit.string.injEq]at d;obtain⟨H,E,x⟩:=d;rw[y,List.getElem?_map,E];show _=some (Value.string (ba H));rw[x];exact congrArg some (congrArg Value.string (jt s).symm)
 .rw [List.getElem?_eq_none co,List.getElem?_eq_none (by simp;omega)]
def LL{P:aJ}{w:J}{fuel:Nat}{t:TypeId}{ms:Array String}{cs:List aa}{k:String}{d:DataW Unit}{p:List MemPlace}(j:∃a,P.underlying t=some (.interface a))(h:DataW.trod (λ_=>()) P w 0 (λ_=>true) false fuel t cs=some (.iface k d,p)):∃u v,cs=[.iface u v]:=by
 obtain⟨a,j⟩:=j;cases fuel with
 |zero=>simp[DataW.trod]at h
 |succ m=>
  unfold DataW.trod at h;rw[j]at h;split at h<;>simp_all
def aeq{W:J}(h:laidMetH V [("math/bits.deBruijn32tab",Rows.laid_math_bits_deBruijn32tab),("math/bits.deBruijn64tab",Rows.laid_math_bits_deBruijn64tab),("internal/strconv.uint64pow10",Rows.laid_internal_strconv_uint64pow10),("unicode/utf8.acceptRanges",Rows.laid_unicode_utf8_acceptRanges),("strconv.ErrRange",Rows.laid_strconv_ErrRange),("strconv.ErrSyntax",Rows.laid_strconv_ErrSyntax),("enthymeme/term.kidCounts",Rows.laid_enthymeme_term_kidCounts),("enthymeme/proof.words",Rows.laid_enthymeme_proof_words),("unicode/utf8.first",Rows.laid_unicode_utf8_first)] W):cq.P W/\lA W/\h0.P W:=by
 rw[MakeChecks.laidMetH_plain _ _ _ (by kernel_rfl)]at h;refine⟨?_,⟨?_,?_,?_⟩,?_⟩
 .obtain ⟨g,t,x,fuel,p,j,k,q,w⟩:=Lib.laidMet.reads h (n:="enthymeme/term.kidCounts") (d:=Lib.tabData .i64 Ax) (.tail _ (.tail _ (.tail _ (.tail _ (.tail _ (.tail _ (.head _)))))));obtain rfl:=fb ((show Tryz.prog.globalNamed "enthymeme/term.kidCounts"=some 2 by kernel_rfl).symm.trans j);obtain rfl:=fb ((show(Tryz.prog.globals[2]?).map (·.type)=some agJ by kernel_rfl).symm.trans k);exact zd j q (Lib.cells_of_tab (e:=cb) (n:=35) (by kernel_rfl) (by kernel_rfl) (by kernel_rfl) (by kernel_rfl) w) rfl
 .obtain ⟨g,t,x,fuel,p,j,k,q,w⟩:=Lib.laidMet.reads h (n:="internal/strconv.uint64pow10") (d:=Lib.tabData .u64 vn) (.tail _ (.tail _ (.head _)));obtain rfl:=fb ((show Tryz.prog.globalNamed "internal/strconv.uint64pow10"=some 3 by kernel_rfl).symm.trans j);obtain rfl:=fb ((show(Tryz.prog.globals[3]?).map (·.type)=some agI by kernel_rfl).symm.trans k);exact zd j q (Lib.cells_of_tab (e:=agS) (n:=20) (by kernel_rfl) (by kernel_rfl) (by kernel_rfl) (by kernel_rfl) w) rfl
 .obtain ⟨g,t,x,fuel,p,j,k,q,w⟩:=Lib.laidMet.reads h (n:="strconv.ErrSyntax") (d:=Rows.laid_strconv_ErrSyntax) (.tail _ (.tail _ (.tail _ (.tail _ (.tail _ (.head _))))));obtain rfl:=fb ((show Tryz.prog.globalNamed "strconv.ErrSyntax"=some 4 by kernel_rfl).symm.trans j);obtain rfl:=fb ((show(Tryz.prog.globals[4]?).map (·.type)=some ln by kernel_rfl).symm.trans k);obtain⟨u,v,e⟩:=LL (ms:=#[]) ⟨_,rfl⟩ w;exact⟨u,v,zd j q e rfl⟩
 .obtain ⟨g,t,x,fuel,p,j,k,q,w⟩:=Lib.laidMet.reads h (n:="strconv.ErrRange") (d:=Rows.laid_strconv_ErrRange) (.tail _ (.tail _ (.tail _ (.tail _ (.head _)))));obtain rfl:=fb ((show Tryz.prog.globalNamed "strconv.ErrRange"=some 5 by kernel_rfl).symm.trans j);obtain rfl:=fb ((show(Tryz.prog.globals[5]?).map (·.type)=some ln by kernel_rfl).symm.trans k);obtain⟨u,v,e⟩:=LL (ms:=#[]) ⟨_,rfl⟩ w;exact⟨u,v,zd j q e rfl⟩
 .obtain ⟨g,t,x,fuel,p,j,k,q,w⟩:=Lib.laidMet.reads h (n:="enthymeme/proof.words") (d:=.agg (j5.map λs=>.lit (.string s))) (.tail _ (.tail _ (.tail _ (.tail _ (.tail _ (.tail _ (.tail _ (.head _))))))));obtain rfl:=fb ((show Tryz.prog.globalNamed "enthymeme/proof.words"=some 0 by kernel_rfl).symm.trans j);obtain rfl:=fb ((show(Tryz.prog.globals[0]?).map (·.type)=some agK by kernel_rfl).symm.trans k);exact zd j q (agf (e:=dv) (n:=6) (by kernel_rfl) (by kernel_rfl) (by kernel_rfl) (by kernel_rfl) w) rfl
def proofPrints_walk(W:J)(d:laidMetH V [("math/bits.deBruijn32tab",Rows.laid_math_bits_deBruijn32tab),("math/bits.deBruijn64tab",Rows.laid_math_bits_deBruijn64tab),("internal/strconv.uint64pow10",Rows.laid_internal_strconv_uint64pow10),("unicode/utf8.acceptRanges",Rows.laid_unicode_utf8_acceptRanges),("strconv.ErrRange",Rows.laid_strconv_ErrRange),("strconv.ErrSyntax",Rows.laid_strconv_ErrSyntax),("enthymeme/term.kidCounts",Rows.laid_enthymeme_term_kidCounts),("enthymeme/proof.words",Rows.laid_enthymeme_proof_words),("unicode/utf8.first",Rows.laid_unicode_utf8_first)] W)(ls ms:Sl)(w0:ArgNums W ls)(A:ArgNums W ms):
  ai V F6 #[ls.v,ms.v] W λr z=>r=ae (.bool true)/\af W z:=by obtain⟨j,h,y⟩:=aeq d;obtain⟨D,k,B,q⟩:=w0;obtain⟨E,w,C,x⟩:=A;exact tV.law q co x co k w j h y
end Go.Proofs.YtnaglpcbkhjpnabGreatDoor
end
