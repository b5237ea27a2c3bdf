import Derived.Test.YthaledkcjibmfaaGreatDoorR14
import Derived.Test.YthaledkcjibmfaaGreatDoorU
import Derived.Test.YthaledkcjibmfaaGreatDoorG9
import Derived.Laws.CopyRow
import Derived.Test.YthaledkcjibmfaaGreatDoorWN
import Derived.Lib.Bytealg
import Derived.Laws.StandIn
set_option linter.unusedVariables false
set_option maxRecDepth 100000
set_option maxHeartbeats 1000000
set_option linter.defProp false
namespace Go.Proofs.YthaledkcjibmfaaGreatDoor
open Go renaming World->J,Calls->ak,Value->ab,TypeId->aC,Ending->cr
open Go.IntKind renaming wrap->ao
open _root_.Int renaming toNat->aZ,tdiv->bN,tmod->bY,toNat_natCast->bF
open _root_.ByteArray renaming mk->bJ
open Go.IntWalk renaming i64_in->aS
open _root_.Bool renaming and_eq_true->bf,not_eq_true->iN
open _root_.Nat renaming le_refl->bg,le_trans->a8,zero_le->dn,beq->bQ
open _root_.Prod.mk renaming injEq->eu
open _root_.Option.some renaming injEq->eH
open Go.Proofs.Tryz renaming prog->aa
open _root_.Decidable renaming decide->aq
open Go.Ending renaming returned->ag
open List renaming mem_append->aX,mem_cons->av,not_mem_nil->aR,mem_of_getElem?->aE,getElem?_eq_getElem->a6,getElem?_eq_some_iff->bO,mem_flatMap->bA,mem_map->ch,length_append->a7,length_cons->db,length_nil->fC,mem_of_mem_take->m8,append_assoc->cp,length_take->eA,flatMap_append->cy,flatMap_cons->b',mem_cons_of_mem->dS,drop_eq_getElem_cons->dy,all_eq_true->fi,append_nil->dt,nil_append->lr,cons_append->i2,take_add_one->ej,map_cons->lq,drop_of_length_le->dC
open Go Go.W
def iO(s:bo)(e:Int)(r:cr):Prop:=∃(t:bo) (d:Int),r=gm (t,d)/\d=e/\(e=0->t=s)
def x3{w:J}{p:Addr}{d:Nd}(h:eb w p d):LH F0 w w [] [.iZ p d]:=bP _ (by intro j e;simp only[av,aR,aT]at e;subst e;exact h)
def h5(n:Nx)(x y z:bo):Int:=if df n.op x y z=false then 9 else if jy n x y z=false then 5 else if n.op=33/\mJ n.tx=false then 2 else 0
def YA{n:Nx}{x y z t:bo}{d ranges:Bool}(q:n.op≠33)(h:d=df n.op x y z)(j:d=true->ranges=jy n x y z)(k:d=true->ranges=true->t=ho n x y z):iO (ho n x y z) (h5 n x y z) (gm (t,DT d ranges)):=by
 refine⟨t,_,rfl,?_,λe=>?_⟩
 .unfold DT h5;rw[<-h];cases d with
  |false=>rfl
  |true=>
   rw[<-j rfl];cases ranges with
   |false=>rfl
   |true=>simp[q]
 .unfold h5 at e;rw[<-h]at e;cases d with
  |false=>simp at e
  |true=>
   rw[<-j rfl]at e;cases ranges with
   |false=>simp at e
   |true=>exact k rfl rfl
section
variable {M:Nat->Prop} {w0 w:J} {L D:List En} {V Su:List Nat}
def ea(H:LH F0 w0 w L D){n:Nx}{x y z:bo}(t:bo)(d ranges:Bool)(B:n.op≠33)(k:d=df n.op x y z)(q:d=true->ranges=jy n x y z)(A:d=true->ranges=true->t=ho n x y z)(br:∀b∈V,En.g b∈L:=by simp):
  ee Su aa yn #[dO t,.bool d,.bool ranges] w λr C=>∃a b c e:Int,r=ag (.tuple #[.agg #[.i a,.i b,.i c],.i e])/\loc V C λE=>iO (ho n x y z) (h5 n x y z) (ag (.tuple #[.agg #[.i a,.i b,.i c],.i e]))/\ah w0 E:=by refine H.ay (Z3 t d ranges w) ?_;rintro _ F rfl h;exact⟨_,_,_,_,rfl,h.ai (λG j=>⟨YA B k q A,j.fr⟩) br⟩
end
def ov(s:bo):Prop:=0<=s.n/\s.n<=64
def aar{s:bo}(h:bW s=true):ov s:=⟨(lK h).1,(lK h).2.1⟩
def MT:ov cY:=⟨by decide,by decide⟩
def ZY{w:J}{p:Addr}{d:Nd}{x y z:bo}(h:eb w p d)(h4:4<=d.x.op)(ag:d.x.op<=23)(hx:ov x)(hy:ov y)(hn:a5 d.x.n)(hm:a5 d.x.m):
  ak aa Mp #[.pointer (some p),dO x,dO y,dO z] w λr Y=>iO (ho d.x x y z) (h5 d.x x y z) r/\ah w Y:=by
 refine EC.aD _ _ _ _ _ _ _ _ _ _ w _ ((x3 h).aJ λb5 w1 H1=>H1.aJ λb6 w2 H2=>H2.aJ λb7 w3 H3=>H3.aJ λb8 w4 F=>?_);obtain⟨⟨op,kids,n,m,u,M,st⟩,W⟩:=d;have C:∀{A:J} {L:List En},LH F0 w A L [.iZ p ⟨⟨op,kids,n,m,u,M,st⟩,W⟩]->eb A p ⟨⟨op,kids,n,m,u,M,st⟩,W⟩:=λad=>ad.getD 0;simp only at h4 ag hn hm;refine⟨op,(C F).c0,?_⟩;obtain⟨ar,au⟩:=hx;obtain⟨av,aw⟩:=hy;obtain⟨an,ap⟩:=hn;obtain⟨al,am⟩:=hm;have two:∀(c:Bool),c=true->c=true:=λ_ h=>h;rcases sP (by omega) (by omega:op<=34)with rfl|rfl|rfl|rfl|rfl|rfl|rfl|rfl|rfl|rfl|rfl|rfl|rfl|rfl|rfl|rfl|rfl|rfl|rfl|rfl|rfl|rfl|rfl|rfl|rfl|rfl|rfl|rfl|rfl|rfl|rfl|rfl|rfl|rfl|rfl
 iterate 4 omega
 rotate_left 20
 iterate 11 omega
 all_goals repeat (first |refine a1 rfl ?_|refine a3 rfl ?_)
 iterate 2
  .refine F.ai λA j=>j.ay (q0 x A) ?_;rintro _ D rfl q;exact⟨_,rfl,ea q x _ true (by simp) rfl (λ_=>rfl) (λ_ _=>rfl)⟩
 iterate 10
  .refine F.ai λA j=>j.ay (q0 x A) ?_;rintro _ D rfl q;refine⟨_,rfl,aL (λB=>?_) (λB=>?_)⟩
   .refine ea q x _ true (by simp) ?_ (λ_=>rfl) (λ_ _=>rfl);rw[j8];show _=(x.k==0&&aq (x=y));rw[B];rfl
   .refine ea q x _ true (by simp) ?_ (λ_=>rfl) (λ_ _=>rfl);show _=(x.k==0&&aq (x=y));rw[beq_eq_false_iff_ne.2 B];rfl
 iterate 2
  .refine F.ai λA j=>j.ay (i' 1 A) ?_;rintro _ D rfl q;refine⟨_,_,_,rfl,q.ay (q0 x D) ?_⟩;rintro _ G rfl e;refine⟨_,rfl,aL (λB=>?_) (λB=>?_)⟩
   .refine ea e (bz 1) _ true (by simp) ?_ (λ_=>rfl) (λ_ _=>rfl);rw[j8];show _=(x.k==0&&aq (x=y));rw[B];rfl
   .refine ea e (bz 1) _ true (by simp) ?_ (λ_=>rfl) (λ_ _=>rfl);show _=(x.k==0&&aq (x=y));rw[beq_eq_false_iff_ne.2 B];rfl
 .refine F.ai λA j=>j.ay (i' 1 A) ?_;rintro _ D rfl q;refine⟨_,_,_,rfl,q.ay (PV x y D) ?_⟩;rintro _ G rfl e;exact⟨_,rfl,ea e (bz 1) _ true (by simp) rfl (λ_=>rfl) (λ_ _=>rfl)⟩
 .refine F.aJ λab A j=>j.ai λD q=>q.ay (ja y D) ?_;rintro _ G rfl e;have T:∀(t:bo) (H:J),((aq (y=z)||(y.k==1&&z.k==1))=true->t=if y.k=1 then eT (if y.n<z.n then z.n else y.n)else y)->LH F0 w H [.g b5,.g b6,.g b7,.g b8,.g ab] [.iZ p ⟨⟨19,kids,n,m,u,M,st⟩,W⟩]->EC.gI b5 x.k x.n x.x b6 y.k y.n y.x b7 z.k z.n z.x b8 0 0 0 ab t.k t.n t.x H λr Y=>iO (ho ⟨19,kids,n,m,u,M,st⟩ x y z) (h5 ⟨19,kids,n,m,u,M,st⟩ x y z) r/\ah w Y:=by
   intro t H ht I;refine I.ai λw9 S=>S.ay (i' 1 w9) ?_;rintro _ Z rfl P;have N:df 19 x y z=(aq (x=bz 1)&&(aq (y=z)||(y.k==1&&z.k==1))):=rfl;refine⟨_,_,_,rfl,nh (a:=x) (b:=bz 1) (λU=>P.ay (PV y z Z) ?_) (λU=>?_)⟩
   .rintro _ ax rfl ae;refine⟨_,rfl,ea ae t _ true (by simp) ?_ (λ_=>rfl) (λh _=>ht h)⟩;show _=df 19 x y z;rw[N,aP U];rfl
   .refine ea P t _ true (by simp) ?_ (λ_=>rfl) (λh _=>by cases h);show _=df 19 x y z;rw[N,aV U];rfl
  have yes:∀t:bo,y.k=1->z.k=1->t=eT (if y.n<z.n then z.n else y.n)->((aq (y=z)||(y.k==1&&z.k==1))=true->t=if y.k=1 then eT (if y.n<z.n then z.n else y.n)else y):=λt h1 _ h3 _=>by rw[aj h1,h3]
  refine⟨_,rfl,aL (λB=>e.ay (ja z G) ?_) (λB=>T y G (λ_=>by rw[af B]) e)⟩;rintro _ H rfl I;refine⟨_,rfl,aL (λQ=>I.ay (tF _ H) ?_) (λQ=>T y H (λhf=>?_) I)⟩
  .rintro _ w9 rfl S;exact⟨_,_,_,rfl,S.ai λZ P=>T (eT (if y.n<z.n then z.n else y.n)) Z (yes _ B Q rfl) P⟩
  .rw [beq_eq_false_iff_ne.2 Q,Bool.and_false,Bool.or_false]at hf;have:=ew hf;exact absurd (by rw[<-this];exact B) Q
 .have e1:ao .i64 (x.n+y.n)=x.n+y.n:=aS _ (by omega);have N:df 20 x y z=(x.k==0&&y.k==0):=rfl;refine F.ai λA j=>?_;rw[e1];refine j.ay (i' _ A) ?_;rintro _ D rfl q;refine⟨_,_,_,rfl,q.ay (q0 x D) ?_⟩;rintro _ G rfl e;refine⟨_,rfl,aL (λB=>e.ay (q0 y G) ?_) (λB=>?_)⟩
  .rintro _ H rfl I;refine⟨_,rfl,ea I (bz (x.n+y.n)) _ _ (by simp) ?_ (λ_=>rfl) (λ_ _=>rfl)⟩;show _=df 20 x y z;rw[N,B];rfl
  .refine ea e (bz (x.n+y.n)) _ _ (by simp) ?_ (λh=>by cases h) (λh _=>by cases h);show _=df 20 x y z;rw[N,beq_eq_false_iff_ne.2 B];rfl
 .have V:jy ⟨21,kids,n,m,u,M,st⟩ x y z=(aq (0<=m)&&aq (m<=n)&&aq (n<x.n)):=rfl;refine F.ai λA j=>⟨_,(C j).c2,_,(C j).c3,_,(C j).c3,j.ay (i' _ A) ?_⟩;rintro _ D rfl q;refine⟨_,_,_,rfl,(C q).c3,q.ay (q0 x D) ?_⟩;rintro _ G rfl e;refine⟨_,rfl,(C e).c3,aG (λE=>⟨_,(C e).c3,_,(C e).c2,aG (λO=>⟨_,(C e).c2,ea e (bz _) _ _ (by simp) rfl (λ_=>?_) (λ_ K=>?_)⟩) (λO=>ea e (bz _) _ _ (by simp) rfl (λ_=>?_) (λ_ h=>by cases h))⟩) (λE=>ea e (bz _) _ _ (by simp) rfl (λ_=>?_) (λ_ h=>by cases h))⟩
  .rw [V,aP (show 0<=m from E),aP (show m<=n from O)];rfl
  .have E:0<=m:=E;have O:m<=n:=O;have K:n<x.n:=ew K;show bz (ao .i64 (ao .i64 (n - m)+1))=bz (n - m+1);rw[aS (n - m) (by omega),aS _ (by omega)]
  .rw [V,aV (show ¬m<=n from O),Bool.and_false];rfl
  .rw [V,aV (show ¬0<=m from E)];rfl
 iterate 2
  .have ac:ao .i64 (64 - x.n)=64 - x.n:=aS _ (by omega);refine F.ai λA j=>⟨_,(C j).c2,_,(C j).c2,j.ay (i' _ A) ?_⟩;rintro _ D rfl q;refine⟨_,_,_,rfl,(C q).c2,q.ay (q0 x D) ?_⟩;rintro _ G rfl e;refine⟨_,rfl,(C e).c2,aG (λE=>⟨_,(C e).c2,ea e (bz _) _ _ (by simp) rfl (λ_=>?_) (λ_ K=>?_)⟩) (λE=>ea e (bz _) _ _ (by simp) rfl (λ_=>?_) (λ_ h=>by cases h))⟩
   .show _=(aq (1<=n)&&aq (n<=64 - x.n));rw[ac,aP (show 1<=n from E)];rfl
   .have E:1<=n:=E;rw[ac]at K;have K:n<=64 - x.n:=ew K;show bz (ao .i64 (x.n+n))=bz (x.n+n);rw[aS _ (by omega)]
   .show _=(aq (1<=n)&&aq (n<=64 - x.n));rw[aV (show ¬1<=n from E)];rfl
def ZJ{x y z:bo}(h:ec x=true):df 25 x y z=(aq (y=bz x.x)&&(if x.k=3 then z.k==1&&aq (z.n<=x.n)else aq (z=hG x))):=by
 show(ec x&&aq (y=bz x.x)&&(aq (z=hG x)||(x.k==3&&z.k==1&&aq (z.n<=x.n))))=_;rw[h,Bool.true_and];congr 1;by_cases d:x.k=3
 .rw [aj d,d];have j:hG x=eT x.n:=by unfold hG;rw[af (by omega)]
  rw[j];by_cases e:z=eT x.n
  .subst e;simp[eT]
  .rw [aV e];rfl
 .rw [af d,beq_eq_false_iff_ne.2 d];simp
def ZX{w:J}{p:Addr}{d:Nd}{x y z:bo}(h:eb w p d)(h4:24<=d.x.op)(al:d.x.op<=26):
  ak aa Mo #[.pointer (some p),dO x,dO y,dO z] w λr I=>iO (ho d.x x y z) (h5 d.x x y z) r/\ah w I:=by
 refine zm.aD _ _ _ _ _ _ _ _ _ _ w _ ((x3 h).aJ λK w1 H1=>H1.aJ λV w2 H2=>H2.aJ λM w3 H3=>H3.aJ λN w4 T=>?_);have ae:∀{P:J} {L:List En},LH F0 w P L [.iZ p d]->eb P p d:=λag=>ag.getD 0;refine⟨_,(ae T).c0,aL (λO=>T.ai λP H5=>H5.ay (i' x.x P) ?_) (λO=>T.ay (i' x.n w4) ?_)⟩
 .rintro _ w6 rfl U;refine⟨_,_,_,rfl,U.ay (EB x w6) ?_⟩;rintro _ E rfl e;have fe:df d.x.op x y z=(ec x&&aq (x=y)):=by rw[O];rfl
  have D:jy d.x x y z=true:=by unfold jy;rw[O];rfl
  have F:ho d.x x y z=bz x.x:=by unfold ho;rw[O];rfl
  refine⟨_,rfl,bD (λq=>?_) (λq=>?_)⟩
  .refine ea e (bz x.x) _ true (by omega) ?_ (λ_=>D.symm) (λ_ _=>F.symm);rw[fe,j8,q];rfl
  .refine ea e (bz x.x) _ true (by omega) ?_ (λ_=>D.symm) (λ_ _=>F.symm);rw[fe,q];rfl
 rintro _ w6 rfl U;have D:jy d.x x y z=true:=by unfold jy;rw[af (by omega),af (by omega),af (by omega),af (by omega),af (by omega)]
 have S1:∀(t:bo) (A:Nat) (f:Bool) (E:J),f=(ec x&&aq (y=bz x.x))->(ec x=true->t=hG x)->LH F0 w E [.g K,.g V,.g M,.g N,.g A] [.iZ p d]->zm.bT p K x.k x.n x.x M z.k z.n z.x N 0 0 0 A t.k t.n t.x f E λr I=>iO (ho d.x x y z) (h5 d.x x y z) r/\ah w I:=by
  intro t A f E B H e;refine⟨_,(ae e).c0,aL (λY=>?_) (λY=>?_)⟩
  .refine ea e t f true (by omega) ?_ (λ_=>D.symm) (λhh _=>?_)
   .rw [B,Y];rfl
   .rw [B]at hh;simp only[bf]at hh;rw[H hh.1];unfold ho;rw[Y];rfl
  have Z:d.x.op=25:=by omega
  have F:ho d.x x y z=x:=by unfold ho;rw[Z];rfl
  have ff:f=false->df d.x.op x y z=false:=λh=>by rw[Z];show(ec x&&aq (y=bz x.x)&&(aq (z=hG x)||(x.k==3&&z.k==1&&aq (z.n<=x.n))))=_;rw[<-B,h];rfl
  have ft:f=true->ec x=true/\df d.x.op x y z=(if x.k=3 then z.k==1&&aq (z.n<=x.n)else aq (z=hG x)):=λh=>by rw[h]at B;have B:=B.symm;simp only[bf]at B;refine⟨B.1,?_⟩;rw[Z,ZJ B.1,B.2,Bool.true_and]
  refine aL (λq=>bD (λac=>e.ai λC j=>j.ay (ja z C) ?_) (λab=>e.ai λC j=>ea j x _ true (by omega) (ff ab).symm (λ_=>D.symm) (λ_ _=>F.symm))) (λq=>bD (λac=>e.ai λC j=>ea j x _ true (by omega) ?_ (λ_=>D.symm) (λ_ _=>F.symm)) (λab=>e.ai λC j=>ea j x _ true (by omega) (ff ab).symm (λ_=>D.symm) (λ_ _=>F.symm)))
  .rintro _ Q rfl G;have:=(ft ac).2;rw[aj q]at this;refine⟨_,rfl,aL (λhz=>ea G x _ true (by omega) ?_ (λ_=>D.symm) (λ_ _=>F.symm)) (λhz=>ea G x _ true (by omega) ?_ (λ_=>D.symm) (λ_ _=>F.symm))⟩
   .rw [this,hz];rfl
   .rw [this,beq_eq_false_iff_ne.2 hz];rfl
  .have W:=ft ac;rw[af q]at W;rw[W.2,j8,H W.1]
 have S0:∀(t:bo) (A:Nat) (E:J),(ec x=true->t=hG x)->LH F0 w E [.g K,.g V,.g M,.g N,.g A] [.iZ p d]->zm.bq p K x.k x.n x.x V y.k y.n y.x M z.k z.n z.x N 0 0 0 A t.k t.n t.x E λr I=>iO (ho d.x x y z) (h5 d.x x y z) r/\ah w I:=by intro t A E H e;refine e.ai λC j=>j.ay (EB x C) ?_;rintro _ Q rfl G;refine⟨_,rfl,bD (λq=>G.ay (i' x.x Q) ?_) (λq=>S1 t A false Q (by rw[q];rfl) H G)⟩;rintro _ ad rfl S;exact⟨_,_,_,rfl,S1 t A _ ad (by rw[q];exact j8 y (bz x.x)) H S⟩
 refine⟨_,_,_,rfl,U.aJ λA E e=>aL (λq=>e.ai λC j=>j.ay (tF x.n C) ?_) (λq=>e.ai λC j=>S0 (bz x.n) A C (λha=>?_) j)⟩
 .rintro _ Q rfl G;exact⟨_,_,_,rfl,G.ai λad S=>S0 (eT x.n) A ad (λ_=>by unfold hG;rw[af (by omega)]) S⟩
 .unfold ec at ha;simp only[Bool.or_eq_true,beq_iff_eq]at ha;unfold hG;rw[aj (by omega)]
def wW(t:ByteArray):Prop:=∀d,ak aa CP #[.string t] d λr e=>r=ag (.bool (mJ t))/\ah d e
def Z5{w:J}{p:Addr}{d:Nd}{x y z:bo}(h:eb w p d)(ad:27<=d.x.op)(ae:d.x.op<=34)(hx:ov x)(hy:ov y)(hz:ov z)(U:d.x.op=33->wW d.x.tx):
  ak aa Mr #[.pointer (some p),dO x,dO y,dO z] w λr w'=>iO (ho d.x x y z) (h5 d.x x y z) r/\ah w w':=by
 refine Qg.aD _ _ _ _ _ _ _ _ _ _ w _ ((x3 h).aJ λb5 w1 Z=>Z.aJ λb6 w2 H2=>H2.aJ λb7 w3 H3=>H3.aJ λb8 w4 H=>?_);obtain⟨⟨op,kids,n,m,u,G,st⟩,S⟩:=d;have M:∀{A:J} {L:List En},LH F0 w A L [.iZ p ⟨⟨op,kids,n,m,u,G,st⟩,S⟩]->eb A p ⟨⟨op,kids,n,m,u,G,st⟩,S⟩:=λY=>Y.getD 0;simp only at ad ae U;refine⟨op,(M H).c0,?_⟩;obtain⟨am,an⟩:=hx;obtain⟨ap,ar⟩:=hy;obtain⟨au,av⟩:=hz;have al:op=27\/op=28\/op=29\/op=30\/op=31\/op=32\/op=33\/op=34:=by omega
 rcases al with rfl|rfl|rfl|rfl|rfl|rfl|rfl|rfl;all_goals repeat (first |refine a1 rfl ?_|refine a3 rfl ?_)
 .refine H.ai λA B=>B.ay (i' 7 A) ?_;rintro _ C rfl j;refine⟨_,_,_,rfl,j.ay (ja x C) ?_⟩;rintro _ F rfl e;exact⟨_,rfl,ea e (bz 7) _ true (by simp) rfl (λ_=>rfl) (λ_ _=>rfl)⟩
 .have W:jy ⟨28,kids,n,m,u,G,st⟩ x y z=(aq (0<=n)&&aq (n<=63)):=rfl;refine H.ai λA B=>⟨_,(M B).c2,B.ay (i' 8 A) ?_⟩;rintro _ C rfl j;refine⟨_,_,_,rfl,(M j).c2,j.ay (ja x C) ?_⟩;rintro _ F rfl e;refine⟨_,rfl,(M e).c2,aG (λP=>⟨_,(M e).c2,ea e (bz 8) _ _ (by simp) rfl (λ_=>?_) (λ_ _=>rfl)⟩) (λP=>ea e (bz 8) _ _ (by simp) rfl (λ_=>?_) (λ_ h=>by cases h))⟩
  .rw [W,aP (show 0<=n from P),Bool.true_and];exact decide_eq_decide.2 (by show n<64↔n<=63;omega)
  .rw [W,aV (show ¬0<=n from P)];rfl
 .have O:ao .i64 (x.n+y.n)=x.n+y.n:=aS _ (by omega);have D:df 29 x y z=(x.k==1&&y.k==1):=rfl;refine H.ai λA B=>?_;rw[O];refine B.ay (tF _ A) ?_;rintro _ C rfl j;refine⟨_,_,_,rfl,j.ay (ja x C) ?_⟩;rintro _ F rfl e;refine⟨_,rfl,aL (λq=>e.ay (ja y F) ?_) (λq=>?_)⟩
  .rintro _ I rfl E;refine⟨_,rfl,ea E (eT (x.n+y.n)) _ _ (by simp) ?_ (λ_=>rfl) (λ_ _=>rfl)⟩;show _=df 29 x y z;rw[D,q];rfl
  .refine ea e (eT (x.n+y.n)) _ _ (by simp) ?_ (λh=>by cases h) (λh _=>by cases h);show _=df 29 x y z;rw[D,beq_eq_false_iff_ne.2 q];rfl
 .have D:df 30 x y z=(x.k==1&&aq (y=bz 7)&&aq (z=bz 7)):=rfl;refine H.ai λA B=>B.ay (ja x A) ?_;rintro _ C rfl j;refine⟨_,rfl,aL (λq=>j.ay (i' 7 C) ?_) (λq=>ea j x _ true (by simp) ?_ (λ_=>rfl) (λ_ _=>rfl))⟩
  .rintro _ F rfl e;refine⟨_,_,_,rfl,nh (a:=y) (b:=bz 7) (λK=>e.ay (i' 7 F) ?_) (λK=>ea e x _ true (by simp) ?_ (λ_=>rfl) (λ_ _=>rfl))⟩
   .rintro _ I rfl E;refine⟨_,_,_,rfl,ea E x _ true (by simp) ?_ (λ_=>rfl) (λ_ _=>rfl)⟩;show _=df 30 x y z;rw[D,q,aP K];exact j8 z (bz 7)
   .show _=df 30 x y z;rw[D,aV K,Bool.and_false];rfl
  .show _=df 30 x y z;rw[D,beq_eq_false_iff_ne.2 q];rfl
 .have D:df 31 x y z=(x.k==1&&y.k==1):=rfl;refine H.ai λA B=>B.ay (i' 7 A) ?_;rintro _ C rfl j;refine⟨_,_,_,rfl,j.ay (ja x C) ?_⟩;rintro _ F rfl e;refine⟨_,rfl,aL (λq=>e.ay (ja y F) ?_) (λq=>?_)⟩
  .rintro _ I rfl E;refine⟨_,rfl,ea E (bz 7) _ true (by simp) ?_ (λ_=>rfl) (λ_ _=>rfl)⟩;show _=df 31 x y z;rw[D,q];rfl
  .refine ea e (bz 7) _ true (by simp) ?_ (λ_=>rfl) (λ_ _=>rfl);show _=df 31 x y z;rw[D,beq_eq_false_iff_ne.2 q];rfl
 .have O:ao .i64 (x.n+z.n)=x.n+z.n:=aS _ (by omega);have D:df 32 x y z=(x.k==1&&y.k==1&&z.k==1):=rfl;refine H.ai λA B=>?_;rw[O];refine B.ay (tF _ A) ?_;rintro _ C rfl j;refine⟨_,_,_,rfl,j.ay (ja x C) ?_⟩;rintro _ F rfl e;have no:∀{I:J} {L:List En} {V ab:List Nat},LH F0 w I L [.iZ p ⟨⟨32,kids,n,m,u,G,st⟩,S⟩]->(∀b∈V,En.g b∈L)->df 32 x y z=false->ee ab aa yn #[dO (eT (x.n+z.n)),.bool false,.bool (aq (x.n+z.n<=64))] I λr A=>∃a b c T:Int,r=ag (.tuple #[.agg #[.i a,.i b,.i c],.i T])/\loc V A λC=>iO (ho ⟨32,kids,n,m,u,G,st⟩ x y z) (h5 ⟨32,kids,n,m,u,G,st⟩ x y z) (ag (.tuple #[.agg #[.i a,.i b,.i c],.i T]))/\ah w C:=λE hb hf=>ea E _ _ _ (by simp) hf.symm (λh=>by cases h) (λh _=>by cases h) hb;refine⟨_,rfl,aL (λq=>e.ay (ja y F) ?_) (λq=>no e (by simp) ?_)⟩
  .rintro _ I rfl E;refine⟨_,rfl,aL (λQ=>E.ay (ja z I) ?_) (λQ=>no E (by simp) ?_)⟩
   .rintro _ w9 rfl H9;refine⟨_,rfl,ea H9 (eT (x.n+z.n)) _ _ (by simp) ?_ (λ_=>rfl) (λ_ _=>rfl)⟩;show _=df 32 x y z;rw[D,q,Q];rfl
   .rw [D,beq_eq_false_iff_ne.2 Q,Bool.and_false];rfl
  .rw [D,beq_eq_false_iff_ne.2 q];rfl
 .have D:df 33 x y z=(x.k==1):=rfl;have ac:jy ⟨33,kids,n,m,u,G,st⟩ x y z=true:=rfl;refine H.ay (ja x w4) ?_;rintro _ A rfl B;refine⟨_,rfl,dN (λq=>B.ai λC j=>⟨⟨x,9,rfl,?_,λh=>?_⟩,j.fr⟩) (λq=>⟨G,(M B).c5,B.ay (U rfl A) ?_⟩)⟩
  .unfold h5;rw[show df (33:Int) x y z=false from q];rfl
  .unfold h5 at h;rw[show df (33:Int) x y z=false from q]at h;cases h
  .rintro _ C rfl j;have K:h5 ⟨33,kids,n,m,u,G,st⟩ x y z=if mJ G=false then 2 else 0:=by unfold h5;rw[show df (33:Int) x y z=true from q,ac];simp
   refine⟨_,rfl,dN (λN=>j.ai λF e=>⟨⟨x,2,rfl,?_,λh=>?_⟩,e.fr⟩) (λN=>j.ay (i' 1 C) ?_)⟩
   .rw [K,aj N]
   .rw [K,aj N]at h;cases h
   .rintro _ F rfl e;exact⟨_,_,_,rfl,e.ai λI E=>⟨⟨bz 1,0,rfl,by rw[K,af (by rw[N];simp)],λ_=>rfl⟩,E.fr⟩⟩
 .refine H.ai λA B=>B.ay (tF 1 A) ?_;rintro _ C rfl j;refine⟨_,_,_,rfl,j.ay (i' 8 C) ?_⟩;rintro _ F rfl e;exact⟨_,_,_,rfl,ea e (eT 1) _ true (by simp) (j8 x (bz 8)) (λ_=>rfl) (λ_ _=>rfl)⟩
def UJ(u n:Int)(j:0<=u)(w:0<=n)(x:n<64):((Int.fdiv u (2^(min (aZ n) (IntKind.bits .u64)))) !=0)=aq (2^n.toNat<=u):=by
 have h:min (aZ n) (IntKind.bits .u64)=n.toNat:=by show min n.toNat 64=_;omega
 rw[h];have d:(0:Int)<2^n.toNat:=Int.pow_pos (by decide);generalize(2:Int)^n.toNat=q at d;have k:=Int.fdiv_eq_ediv_of_nonneg u (by omega:0<=q);rw[k];by_cases e:q<=u
 .rw [aP e];have:1<=u / q:=by rw[Int.le_ediv_iff_mul_le d];omega
  simp only[bne_iff_ne,ne_eq];omega
 .rw [aV e];rw[Int.ediv_eq_zero_of_lt j (by omega)];rfl
def Z2{w:J}{p:Addr}{d:Nd}(g:List Nx)(h:eb w p d)(Q:1<=d.x.op)(Y:d.x.op<=3)(hu:0<=d.x.u):
  ak aa Mq #[.pointer (some p)] w λr U=>iO (cB g d.x).1 (cB g d.x).2 r/\ah w U:=by
 refine ED.aD _ w _ ((x3 h).aJ λF V z=>?_);have j:∀{A:J} {L:List En},LH F0 w A L [.iZ p d]->eb A p d:=λZ=>Z.getD 0;have er:∀(t:bo) (e:Int) (A:J),e≠0->(cB g d.x)=(cY,e)->LH F0 w A [.g F] [.iZ p d]->loc [F] A λI=>iO (cB g d.x).1 (cB g d.x).2 (ag (.tuple #[.agg #[.i t.k,.i t.n,.i t.x],.i e]))/\ah w I:=λt e A h0 C O=>O.ai λI P=>⟨⟨t,e,rfl,by rw[C],λh=>by rw[C]at h;exact absurd h h0⟩,P.fr⟩;have ok:∀(t:bo) (A:J),(cB g d.x)=(t,0)->LH F0 w A [.g F] [.iZ p d]->loc [F] A λI=>iO (cB g d.x).1 (cB g d.x).2 (ag (.tuple #[.agg #[.i t.k,.i t.n,.i t.x],.i 0]))/\ah w I:=λt A C O=>O.ai λI P=>⟨⟨t,0,rfl,by rw[C],λ_=>by rw[C]⟩,P.fr⟩;refine⟨_,(j z).c0,aL (λK=>?_) (λK=>?_)⟩
 .refine ⟨_,(j z).c5,aG (λhs=>⟨_,_,_,(j z).s0,(j z).s1,(j z).s2,er d.x.st 5 V (by decide) ?_ z⟩) (λhs=>⟨_,(j z).c5,z.ay (tF _ V) ?_⟩)⟩
  .unfold cB;rw[aj K,aj (by omega)]
  .rintro _ H rfl y;refine⟨_,_,_,rfl,ok (eT d.x.tx.size) H ?_ y⟩;unfold cB;rw[aj K,af (by omega)]
 have B:cB g d.x=if bW d.x.st=false then(cY,9)else
   if d.x.op=1/\d.x.st.k≠0\/d.x.op=3/\ec d.x.st=false then(cY,9)else
   if d.x.op=1/\kZ d.x.u d.x.st.n=true then(cY,5)else(d.x.st,0):=by
  unfold cB;rw[af K,af (λh=>by omega)];have:¬(d.x.op=0/\q2 g d.x=true):=λh=>by omega
  simp only[this,if_false]
 refine⟨_,_,_,(j z).s0,(j z).s1,(j z).s2,z.ay (PU d.x.st V) ?_⟩;rintro _ H rfl y;refine⟨_,rfl,Ea (λG=>⟨_,_,_,(j y).s0,(j y).s1,(j y).s2,?_⟩) (λG=>?_)⟩
 .have:gP d.x.st=9:=by unfold gP;rw[G];rfl
  rw[this];exact er d.x.st 9 H (by decide) (by rw[B,aj G]) y
 rw[af (by rw[G];simp)]at B;refine⟨_,(j y).c0,aL (λY=>⟨_,_,_,(j y).s0,(j y).s1,(j y).s2,y.ay (EB d.x.st H) ?_⟩) (λab=>?_)⟩
 .rintro _ E rfl q;refine⟨_,rfl,dN (λS=>⟨_,_,_,(j q).s0,(j q).s1,(j q).s2,er d.x.st 9 E (by decide) ?_ q⟩) (λS=>⟨_,_,_,(j q).s0,(j q).s1,(j q).s2,ok d.x.st E ?_ q⟩)⟩
  .rw [B,aj (.inr ⟨Y,S⟩)]
  .rw [B,af (by rintro(h|h);omega;rw[S]at h;cases h.2),af (by rintro⟨h,_⟩;omega)]
 have Q:d.x.op=1:=by omega
 refine⟨_,(j y).s0,dv (λN=>⟨_,_,_,(j y).s0,(j y).s1,(j y).s2,er d.x.st 9 H (by decide) ?_ y⟩) (λN=>y.ai λE q=>?_)⟩
 .rw [B,aj (.inl ⟨Q,N⟩)]
 rw[af (by rintro(h|h);exact h.2 N;omega)]at B;obtain⟨v1,v2,_⟩:=tN G N;have W:cB g d.x=(d.x.st,0)->ED.bq p F 0 0 0 E λr U=>iO (cB g d.x).1 (cB g d.x).2 r/\ah w U:=λC=>⟨_,_,_,(j q).s0,(j q).s1,(j q).s2,ok d.x.st E C q⟩;refine⟨_,(j q).s1,aG (λM=>⟨_,(j q).c4,_,(j q).s1,by omega,?_⟩) (λM=>W ?_)⟩
 .rw [UJ _ _ hu (by omega) M];refine aG (λT=>⟨_,_,_,(j q).s0,(j q).s1,(j q).s2,er d.x.st 5 E (by decide) ?_ q⟩) (λT=>W ?_)
  .rw [B,aj ⟨Q,by unfold kZ;rw[aP M,aP T];rfl⟩]
  .rw [B,af];rintro⟨_,D⟩;unfold kZ at D;rw[aV T,Bool.and_false]at D;cases D
 .rw [B,af];rintro⟨_,D⟩;unfold kZ at D;rw[aV M]at D;cases D
def sI(g:List Nx)(t:ByteArray):cr:=match jG g t with
 |some s=>ag (.tuple #[dO s,.bool true])
 |none=>ag (.tuple #[dO cY,.bool false])
def Z6{w:J}{p:Addr}{d:Nd}{D:List En}(g:List Nx)(F:Fv)(H:LH F0 w w [] (.iZ p d::D))(hc:gW aa F.n=true)(hl:∀C:J,(∀e∈D,e.P C)->ak aa F.n (F.V++#[.string d.x.tx]++F.cs) C λr al=>r=sI g d.x.tx/\ah C al)(h0:d.x.op=0):
  ak aa Ms #[.pointer (some p),F.v] w λr C=>iO (cB g d.x).1 (cB g d.x).2 r/\ah w C:=by
 have h:∀{q:J} {L:List En},LH F0 w q L (.iZ p d::D)->eb q p d:=λH=>H.getD 0;have z:cB g d.x=if gg (bl d.x.tx)=false then(cY,6)else if bW d.x.st=false then(cY,9)else if q2 g d.x=true then(cY,8)else(d.x.st,0):=by unfold cB;rw[af (by omega)];simp[h0]
 have fin:∀(e:Int) (q:J) (L:List En) (i:Nat) (b:Nat) (E c1 c2:ab),LH F0 w q L (.iZ p d::D)->L[i]? =some (.c b [E,c1,c2] cg)->cB g d.x=(if e=0 then d.x.st else cY,e)->Pv q (ae b) (.i d.x.st.k) (.i d.x.st.n) (.i d.x.st.x) λU=>I9 U (ae b) λa0 ac a2=>iO (cB g d.x).1 (cB g d.x).2 (ag (.tuple #[.agg #[.i a0,.i ac,.i a2],.i e]))/\ah w U:=by
  intro e q L i b E c1 c2 y M K;refine y.Eo i M λU I=>?_;have S:(L.set i (.c b [Value.i d.x.st.k,.i d.x.st.n,.i d.x.st.x] cg))[i]? =some (.c b [Value.i d.x.st.k,.i d.x.st.n,.i d.x.st.x] cg):=by rw[List.getElem?_set_self (bO.1 M).1]
  refine⟨_,_,_,I.ld i 0 S,I.ld i 1 S,I.ld i 2 S,⟨d.x.st,e,rfl,by rw[K],λZ=>?_⟩,I.fr⟩;rw[K]at Z ⊢;rw[aj Z]
 refine EE.ok p F w _ (H.nw λw1 _ W=>⟨_,(h W).c5,W.call (Z0 d.x.tx w1) ?_⟩);rintro _ w2 rfl A;refine⟨_,rfl,dN (λT=>⟨_,_,_,(h A).s0,(h A).s1,(h A).s2,fin 6 w2 _ 0 _ _ _ _ A rfl (by rw[z,aj T];rfl)⟩) (λT=>⟨_,_,_,(h A).s0,(h A).s1,(h A).s2,A.call (PU d.x.st w2) ?_⟩)⟩;rw[af (by rw[T];simp)]at z;rintro _ w3 rfl B;refine⟨_,rfl,Ea (λN=>⟨_,_,_,(h B).s0,(h B).s1,(h B).s2,?_⟩) (λN=>⟨_,(h B).c5,?_⟩)⟩
 .have:gP d.x.st=9:=by unfold gP;rw[N];rfl
  rw[this];exact fin 9 w3 _ 0 _ _ _ _ B rfl (by rw[z,aj N];rfl)
 rw[af (by rw[N];simp)]at z;rw[hc];refine(show cE true _ from ?_);refine B.call (hl w3 (λe K=>B.rd e (dS _ K))) ?_;rintro _ w4 rfl Y;have G:∀(q:J) (L:List En) (E c1 c2:ab),LH F0 w q L (.iZ p d::D)->L[0]? =some (.c w.heap.size [E,c1,c2] cg)->q2 g d.x=false->EE.S0 p (ae w.heap.size) q λr C=>iO (cB g d.x).1 (cB g d.x).2 r/\ah w C:=λq L E c1 c2 y M ht=>⟨_,_,_,(h y).s0,(h y).s1,(h y).s2,fin 0 q L 0 _ E c1 c2 y M (by rw[z,af (by rw[ht];simp)];rfl)⟩;unfold q2 at z G;unfold sI;cases hs:jG g d.x.tx with
 |none=>
  rw[hs]at z G;refine⟨cY.k,cY.n,cY.x,false,rfl,Y.nw λq _ y=>y.Eo 1 rfl λw8 Q=>Q.dr λO j=>a1 rfl ?_⟩;exact G O _ _ _ _ j rfl rfl
 |some t=>
  rw[hs]at z G;refine⟨t.k,t.n,t.x,true,rfl,Y.nw λq _ y=>y.Eo 1 rfl λw8 Q=>Q.dr λO j=>a3 rfl ⟨_,_,_,j.ld 1 0,j.ld 1 1,j.ld 1 2,_,_,_,(h j).s0,(h j).s1,(h j).s2,y6 (a:=t) (b:=d.x.st) (λai=>⟨_,_,_,(h j).s0,(h j).s1,(h j).s2,fin 8 O _ 0 _ _ _ _ j rfl ?_⟩) (λad=>G O _ _ _ _ j rfl ?_)⟩⟩
  .rw [z,aj (by simp[ai])];rfl
  .simp [ad]
def xW:List Int:=[0,0,0,0,1,1,2,2,2,2,2,2,2,2,2,2,2,2,2,3,2,1,1,1,2,3,2,1,1,2,3,2,3,1,1]
abbrev cH:En:=.rd ⟨some (ae 1),35,35⟩ (xW.map a')
def VQ{op:Int}(d:0<=op)(e:op<=34):xW[op.toNat]? =some (cU op):=by rcases sP d e with rfl|rfl|rfl|rfl|rfl|rfl|rfl|rfl|rfl|rfl|rfl|rfl|rfl|rfl|rfl|rfl|rfl|rfl|rfl|rfl|rfl|rfl|rfl|rfl|rfl|rfl|rfl|rfl|rfl|rfl|rfl|rfl|rfl|rfl|rfl<;>rfl
section
variable {M:Nat->Prop} {w0 w:J} {L D:List En} {V:List Nat}
def _root_.Go.W.LH.qZ(H:LH M w0 w L D)(i a c:Nat){b:Nat}{vs:List ab}{T:aC}{v:ab}{K:J->Prop}(U:L[i]? =some (.c b vs T))(y:∀j,LH M w0 j (L.set i (.c b (vs.set (a+c) v) T)) D->K j)(h:a+c<vs.length:=by simp[gn])(br:∀b∈V,En.g b∈L:=by simp):
  aQ w (((ae b).add a).add c) v λk=>kept V w k/\K k:=by rw[add_add];obtain⟨z,A,C,B⟩:=tk (H.ob i U) (a+c) (by simpa using h) v;obtain⟨_,_,x⟩:=H.set (v:=v) i (a+c) U h;refine⟨z,A,λd e=>?_,y _ x⟩;refine B.cb d (H.own _ (br d e)) λq=>?_;have:=nN H U (xm w b vs T) (br d e);exact this (by rw[q];exact qa.2 rfl)
def _root_.Go.W.LH.Et(H:LH M w0 w L D)(i a:Nat){b:Nat}{vs:List ab}{T:aC}{v:ab}{K:J->Prop}(U:L[i]? =some (.c b vs T))(h:∀d,LH M w0 d (L.set i (.c b (vs.set a v) T)) D->K d)(j:a<vs.length:=by simp[gn])(br:∀b∈V,En.g b∈L:=by simp):
  aQ w ((ae b).add a) v λe=>kept V w e/\K e:=by
 have:=H.qZ (v:=v) (K:=K) i a 0 U h j br
 rwa[iS]at this
end
def Zk{g:List Nx}{n:Nx}(h:(cU n.op==(n.kids.length:Int)&&n.kids.all (ff g)&&i0 n)=true)(e:¬n.op<=3):cq g n=if h5 n (bK g n 0) (bK g n 1) (bK g n 2)≠0 then(cY,h5 n (bK g n 0) (bK g n 1) (bK g n 2))else(ho n (bK g n 0) (bK g n 1) (bK g n 2),0):=by
 unfold cq h5;rw[h,af (by simp),af e];generalize df n.op (bK g n 0) (bK g n 1) (bK g n 2)=a;generalize jy n (bK g n 0) (bK g n 1) (bK g n 2)=b;cases a
 .rfl
 .cases b
  .rfl
  .by_cases d:n.op=33/\mJ n.tx=false
   .simp [d]
   .simp [d]
def V6{g:List Nx}{n:Nx}(h:(cB g n).2≠0):cB g n=(cY,(cB g n).2):=by
 unfold cB at h ⊢;split
 .split
  .rfl
  .rename_i d w;rw[aj d,af w]at h;exact absurd rfl h
 .rename_i d;rw[af d]at h;split
  .rfl
  .rename_i e;rw[af e]at h;split
   .rfl
   .rename_i j;rw[af j]at h;split
    .rfl
    .rename_i k;rw[af k]at h;split
     .rfl
     .rename_i q;rw[af q]at h;split
      .rfl
      .rename_i x;rw[af x]at h;exact absurd rfl h
structure oE(d:Nx):Prop where
 kl:d.kids.length<=1000000000
 n:a5 d.n
 m:a5 d.m
 u:0<=d.u
 tx:d.op=33->wW d.tx
abbrev uN(a b c:bo):List ab:=gn a++gn b++gn c
def mq(g:List Nx)(n:Nx)(i j:Nat):bo:=if j<i then bK g n j else cY
def V1{g:List Nx}{n:Nx}{j:Nat}(h:n.kids.length<=j):bK g n j=cY:=by unfold bK;rw[List.getElem?_eq_none h]
def V0{l:List Nd}{n:Nx}{i:Nat}{k:Int}{e:Nd}(h:n.kids[i]? =some k)(d:l[k.toNat]? =some e):bK (xs l) n i=e.x.st:=by unfold bK;rw[h];dsimp only;rw[tT d]
def VZ{g:List Nx}{n:Nx}(h:∀d∈g,bW d.st=true)(j:Nat):ov (bK g n j):=by
 unfold bK;split
 .split
  .rename_i e;exact aar (h _ (aE e))
  .exact MT
 .exact MT
def Z4{w:J}{s:Sl}{l:List Nd}{d:Nd}{D:List En}(S:Fv)(H:LH F0 w w [] (.gr s l::cX d::cH::D))(hc:gW aa S.n=true)(hl:∀A:J,(∀e∈D,e.P A)->ak aa S.n (S.V++#[.string d.x.tx]++S.cs) A λr aO=>r=sI (xs l) d.x.tx/\ah A aO)(ho:oE d.x)(aU:l.length<=1000000000)(hv:∀e∈xs l,bW e.st=true):
  ak aa Mn #[s.v,d.v,S.v] w λr A=>r=gm (cq (xs l) d.x)/\ah w A:=by
 have hn:=gZ (bV.1 (H.getD 0));have aB:(xs l).length=l.length:=by simp[xs]
 have aT:d.ks.n=d.x.kids.length:=bp.len (H.getD 1);have aS:=ho.kl;refine px.aD s _ _ _ _ _ _ _ _ _ S w _ (H.nw λw1 _ H1=>H1.aJ λN w2 H2=>H2.ai λO I=>?_);have y:∀{G:J} {L:List En},LH F0 w G (.c w.heap.size d.c cA::L) (.gr s l::cX d::cH::D)->eb G (ae w.heap.size) d:=λH=>yo (H.ob 0);have I:LH F0 w O [.c w.heap.size d.c cA,.g N] (.gr s l::cX d::cH::D):=I;have fail:(cU d.x.op==(d.x.kids.length:Int)&&d.x.kids.all (ff (xs l))&&i0 d.x)=false->∀{G:J} {L:List En} {V:List Nat},LH F0 w G L (.gr s l::cX d::cH::D)->(∀b∈V,En.g b∈L)->loc V G λM=>(λr A=>r=gm (cq (xs l) d.x)/\ah w A) (ag (.tuple #[.agg #[.i 0,.i 0,.i 0],.i 1])) M:=λZ _ _ _ B hb=>B.ai (λM C=>⟨by unfold cq;rw[aj Z];rfl,C.fr⟩) hb;have kN:∀op:Int,op<0\/34<op->cU op=-1:=λop aE=>by unfold cU;rw[aj aE]
 refine⟨_,(y I).c0,aG (λh0=>fail ?_ I (by simp)) (λh0=>⟨_,(y I).c0,aG (λaF=>fail ?_ I (by simp)) (λaF=>⟨_,(y I).c1,_,(y I).c0,by omega,by show d.x.op<35;omega,cU d.x.op,?_,dv (λal=>fail ?_ I (by simp)) (λap=>?_)⟩)⟩)⟩
 .rw [kN _ (.inl h0),beq_eq_false_iff_ne.2 (by omega)];rfl
 .rw [kN _ (.inr (by omega)),beq_eq_false_iff_ne.2 (by omega)];rfl
 .have hk:bp O ⟨some (ae 1),35,35⟩ xW:=I.getD 2;exact(show W.dM (some (ae 1)) λp=>O.cell? (p.add (aZ d.x.op *1))=some (.int .i64 (cU d.x.op))from hk.cell (VQ (by omega) (by omega)) rfl λp _ hc=>hc)
 .rw [beq_eq_false_iff_ne.2 (by omega)];rfl
 have aM:(cU d.x.op==(d.x.kids.length:Int))=true:=by rw[beq_iff_eq];omega
 have aR:d.x.kids.length<=3:=by
  have:cU d.x.op<=3:=by unfold cU;repeat' split<;>omega
  omega
 refine I.nw λw4 _ H4=>⟨_,(y H4).c1,?_⟩;have loop:∀(m i:Nat) (G:J),i+m=d.x.kids.length->d.x.kids.all (ff (xs l))=(d.x.kids.drop i).all (ff (xs l))->LH F0 w G [.c w.heap.size d.c cA,.g N,.c O.heap.size (uN (mq (xs l) d.x i 0) (mq (xs l) d.x i 1) (mq (xs l) d.x i 2)) zr] (.gr s l::cX d::cH::D)->
   px.ct s S (ae w.heap.size) N 0 0 0 (ae O.heap.size) ((d.ks.n:Nat):Int) (i:Int) G λr A=>r=gm (cq (xs l) d.x)/\ah w A:=by
  intro m;induction m with
  |zero=>
   intro i G hi U B;rw[dC (by omega)]at U;have e0:∀F,mq (xs l) d.x i F=bK (xs l) d.x F:=λF=>by
    unfold mq;split
    .rfl
    .exact (V1 (by omega)).symm
   rw[e0,e0,e0]at B;refine px.dX _ _ _ _ _ _ _ _ _ _ _ _ (a1 (aV (by omega)) (B.ay (ZZ (y B)) ?_));rintro _ M rfl C;refine⟨_,rfl,dN (λZ=>fail (by rw[Z,Bool.and_false]) C (by simp)) (λZ=>C.aJ λad Y h=>?_)⟩;have au:(cU d.x.op==(d.x.kids.length:Int)&&d.x.kids.all (ff (xs l))&&i0 d.x)=true:=by rw[aM,U,Z];rfl
   have h:LH F0 w Y [.c w.heap.size d.c cA,.g N,.c O.heap.size (uN (bK (xs l) d.x 0) (bK (xs l) d.x 1) (bK (xs l) d.x 2)) zr,.g ad] (.gr s l::cX d::cH::D):=h;have fin:∀(T:bo) (E:Int) (t:bo) (e:Int) (j:J),cq (xs l) d.x=(if E≠0 then(cY,E)else(T,0))->e=E->(E=0->t=T)->LH F0 w j [.c w.heap.size d.c cA,.g N,.c O.heap.size (uN (bK (xs l) d.x 0) (bK (xs l) d.x 1) (bK (xs l) d.x 2)) zr,.g ad] (.gr s l::cX d::cH::D)->
     loc [N,ad] j λw9=>px.cJ N 0 0 0 ad t.k t.n t.x e w9 λr A=>r=gm (cq (xs l) d.x)/\ah w A:=by intro T E t e j hs z K q;subst z;refine q.ai λw9 H9=>dv (λal=>H9.ai λaQ an=>⟨by rw[hs,aj al];rfl,an.fr⟩) (λh0=>H9.ai λaQ an=>⟨?_,an.fr⟩);rw[hs,af (by omega),K h0]
   have aC:d.x.op<=3->cq (xs l) d.x=(if(cB (xs l) d.x).2≠0 then(cY,(cB (xs l) d.x).2)else((cB (xs l) d.x).1,0)):=λh3=>by
    unfold cq;rw[au,af (by simp),aj h3];split
    .rename_i al;exact V6 al
    .rename_i ap;rw[Decidable.not_not]at ap;rw[<-ap]
   have ac:=λF=>VZ (n:=d.x) hv F;refine⟨_,(y h).c0,aL (λax=>?_) (λax=>⟨_,(y h).c0,aG (λar=>?_) (λar=>⟨_,(y h).c0,aG (λaz=>?_) (λaz=>⟨_,(y h).c0,aG (λaA=>?_) (λaA=>?_)⟩)⟩)⟩)⟩
   .have Hv:LH F0 Y Y [] (.iZ (ae w.heap.size) d::D):=bP _ (by
     intro e z;rcases av.1 z with rfl|z
     .exact y h
     .exact h.rd e (dS _ (dS _ (dS _ z))))
    refine h.ay (Z6 (xs l) S Hv hc hl ax) ?_;rintro _ j ⟨t,e,rfl,z,K⟩ q;exact⟨_,_,_,_,rfl,fin _ _ t e j (aC (by omega)) z K q⟩
   .refine h.ay (Z2 (xs l) (y h) (by omega) ar ho.u) ?_;rintro _ j ⟨t,e,rfl,z,K⟩ q;exact⟨_,_,_,_,rfl,fin _ _ t e j (aC ar) z K q⟩
   all_goals
    have rest:=Zk au (by omega);have Q:∀(a c:Nat) (v:ab),(uN (bK (xs l) d.x 0) (bK (xs l) d.x 1) (bK (xs l) d.x 2))[a+c]? =some v->Y.cell? (((ae O.heap.size).add a).add c)=some v:=λa c v hv=>by rw[add_add];exact h.ld 2 (a+c) rfl hv
    refine⟨by omega,by decide,(bK (xs l) d.x 0).k,(bK (xs l) d.x 0).n,(bK (xs l) d.x 0).x,Q 0 0 _ rfl,Q 0 1 _ rfl,Q 0 2 _ rfl,by omega,by decide,(bK (xs l) d.x 1).k,(bK (xs l) d.x 1).n,(bK (xs l) d.x 1).x,Q 3 0 _ rfl,Q 3 1 _ rfl,Q 3 2 _ rfl,by omega,by decide,(bK (xs l) d.x 2).k,(bK (xs l) d.x 2).n,(bK (xs l) d.x 2).x,Q 6 0 _ rfl,Q 6 1 _ rfl,Q 6 2 _ rfl,?_⟩
   .refine h.ay (ZY (y h) (by omega) az (ac 0) (ac 1) ho.n ho.m) ?_;rintro _ j ⟨t,e,rfl,z,K⟩ q;exact⟨_,_,_,_,rfl,fin _ _ t e j rest z K q⟩
   .refine h.ay (ZX (y h) (by omega) aA) ?_;rintro _ j ⟨t,e,rfl,z,K⟩ q;exact⟨_,_,_,_,rfl,fin _ _ t e j rest z K q⟩
   .refine h.ay (Z5 (y h) (by omega) (by omega) (ac 0) (ac 1) (ac 2) ho.tx) ?_;rintro _ j ⟨t,e,rfl,z,K⟩ q;exact⟨_,_,_,_,rfl,fin _ _ t e j rest z K q⟩
  |succ m ih=>
   intro i G hi U B;have hg:d.x.kids[i]? =some (d.x.kids[i]'(by omega)):=a6 (by omega);rw[dy (by omega:i<d.x.kids.length),List.all_cons]at U;generalize d.x.kids[i]'(by omega)=x at hg U;have bad:ff (xs l) x=false->px.bU N 0 0 0 G λr A=>r=gm (cq (xs l) d.x)/\ah w A:=λhx=>fail (by rw[U,hx];simp) B (by simp);refine px.dX _ _ _ _ _ _ _ _ _ _ _ _ (a3 (aP (by omega)) ⟨_,(y B).c1,by omega,by omega,(show bp G d.ks d.x.kids from B.getD 1).cell hg (by omega) λp hp aI=>⟨x,aI,aG (λh1=>bad ?_) (λh1=>aG (λh2=>bad ?_) (λh2=>?_))⟩⟩)
   .unfold ff;rw[aV (by omega)];rfl
   .unfold ff;rw[aV (show ¬x<((xs l).length:Int)by rw[aB];omega)];simp
   have aq:l[x.toNat]? =some (l[x.toNat]'(by omega)):=a6 (by omega);generalize l[x.toNat]'(by omega)=e at aq;have aN:=V0 hg aq;refine hM (bV.1 (B.getD 0)) (i:=x.toNat) (by omega) aq λaW hq c=>⟨_,_,_,c.s0,c.s1,c.s2,by omega,by show(i:Int)<3;omega,?_⟩;have aH:d.x.kids.all (ff (xs l))=(d.x.kids.drop (i+1)).all (ff (xs l)):=by rw[U];unfold ff;rw[aP (show 0<=x by omega),aP (show x<((xs l).length:Int)by rw[aB];omega)];rfl
   have am:∀M,LH F0 w M [.c w.heap.size d.c cA,.g N,.c O.heap.size (uN (mq (xs l) d.x (i+1) 0) (mq (xs l) d.x (i+1) 1) (mq (xs l) d.x (i+1) 2)) zr] (.gr s l::cX d::cH::D)->px.ct s S (ae w.heap.size) N 0 0 0 (ae O.heap.size) ((d.ks.n:Nat):Int) (ao .i64 ((i:Int)+1)) M λr A=>r=gm (cq (xs l) d.x)/\ah w A:=λM C=>by rw[bd _ (by omega)];exact ih (i+1) M (by omega) aH C
   have aK:i=0\/i=1\/i=2:=by omega
   have up:∀F,mq (xs l) d.x (i+1) F=if F=i then e.x.st else mq (xs l) d.x i F:=λF=>by
    unfold mq;by_cases hj:F=i
    .rw [aj hj,aj (by omega),hj,aN]
    .rw [af hj];by_cases aw:F<i
     .rw [aj aw,aj (by omega)]
     .rw [af aw,af (by omega)]
   rw[up 0,up 1,up 2]at am;rcases aK with rfl|rfl|rfl
   .exact B.Et 2 0 rfl λM C=>C.qZ 2 0 1 rfl λY h=>h.qZ 2 0 2 rfl λj q=>am j q
   .exact B.Et 2 3 rfl λM C=>C.qZ 2 3 1 rfl λY h=>h.qZ 2 3 2 rfl λj q=>am j q
   .exact B.Et 2 6 rfl λM C=>C.qZ 2 6 1 rfl λY h=>h.qZ 2 6 2 rfl λj q=>am j q
 exact loop d.x.kids.length 0 w4 (by omega) (by simp) H4
def gS(O:List BL):Nat:=(O.map λt=>t.length+2).sum
def qM(d:Nat)(a:Rx)(t:BL):(cO d a t).length<=t.length+2/\t.length<=(cO d a t).length:=by
 unfold cO;split
 .simp;omega
 .simp
def Ca(k:Int):∀(O:List BL) (out:BL),(iW k out O).length<=out.length+gS O/\out.length<=(iW k out O).length
 |[],out=>by simp[iW,gS]
 |t::O,out=>by
  unfold iW;have h:=Ca k O ((if k=3/\ez (jY out)=true/\ez (gQ t 0)=true then out++[32]else out)++gG k++t);have j:(gG k).length<=1:=by unfold gG;split<;>(try split)<;>simp
  have e:k=3->(gG k).length=0:=λd=>by unfold gG;rw[aj d];rfl
  have q:((if k=3/\ez (jY out)=true/\ez (gQ t 0)=true then out++[32]else out):BL).length<=out.length+2 - (gG k).length/\out.length<=((if k=3/\ez (jY out)=true/\ez (gQ t 0)=true then out++[32]else out):BL).length:=by
   split
   .rename_i d;rw[e d.1];simp
   .omega
  simp only[a7]at h;have w:gS (t::O)=t.length+2+gS O:=by simp[gS]
  omega
mutual
def wK:∀x:Rx,(bb x).length+4<=18 *x.sz
 |.mk d lo j l=>by
  have q:∀c,(dB c).length<=4:=λc=>by unfold dB;split<;>simp
  have D:=q8 3 l;have E:=q8 4 l;have C:=q8 0 l;have H:(qC d).length=4:=by unfold qC;split<;>(try split)<;>rfl
  have h:∀e,(jq (dm e l)).length<=gS (dm e l):=λe=>by
   cases dm e l with
   |nil=>simp[jq]
   |cons t k=>simp[jq,gS];omega
  have A:=h 3;have B:=h 4;have z:=h 0;have G:=q lo;have F:=q j;unfold Rx.sz;unfold bb;split
  .simp;omega
  .split
   .simp;omega
   .split
    .split
     .omega
     .simp only[db,a7,fC];omega
    .split
     .simp only[db];omega
     .split
      .simp only[a7,db,fC];omega
      .split
       .simp only[a7,db,fC];omega
       .have w:=q8 (cM (.mk d lo j l)+1) l;cases y:dm (cM (.mk d lo j l)+1) l with
        |nil=>show 0+4<=_;omega
        |cons t k=>
         rw[y]at w;have:=(Ca d k t).1;simp only[gS,lq,List.sum_cons]at w;simp only[gS]at this;show(iW d t k).length+4<=_;omega
def q8(d:Nat):∀l:List Rx,gS (dm d l)<=18 *Rx.aY l
 |[]=>by simp[dm,gS]
 |a::l=>by have h:=wK a;have e:=q8 d l;have j:=(qM d a (bb a)).1;unfold dm Rx.aY;simp only[gS,lq,List.sum_cons]at e ⊢;omega
end
def yw{k:Int}{lo U:UInt8}{l:List Rx}(h:h8 (.mk k lo U l)=true):0<=k/\k<=7/\(k=6\/k=7->l.length=1)/\m4 l=true:=by unfold h8 at h;simp only[bf,decide_eq_true_eq,Bool.or_eq_true]at h;exact⟨h.1.1.1,h.1.1.2,λd=>by omega,h.2⟩
def yx:∀{l:List Rx} {a:Rx},m4 l=true->a∈l->h8 a=true
 |b::l,a,d,e=>by
  unfold m4 at d;rw[bf]at d;rcases av.1 e with rfl|e
  .exact d.1
  .exact yx d.2 e
def zK:∀k:Rx,h8 k=true->0<(bb k).length
 |.mk e lo j l=>λq=>by
  obtain⟨x,y,z,h⟩:=yw q;have w:∀c,0<(dB c).length:=λc=>by unfold dB;split<;>simp
  unfold bb;split
  .simp
  .split
   .simp
   .split
    .split
     .exact w lo
     .simp
    .split
     .simp
     .split
      .simp
      .split
       .simp only[a7,db];omega
       .rename_i d
        match l,h,d with
        |[],_,d=>simp at d
        |a::m,h,d=>
         have:=zK a (yx h (by simp));unfold dm;show 0<(iW _ _ _).length;have A:=(Ca e (dm (cM (.mk e lo j (a::m))+1) m) (cO (cM (.mk e lo j (a::m))+1) a (bb a))).2;have B:=(qM (cM (.mk e lo j (a::m))+1) a (bb a)).2;omega
def AT(x:I)(w:J)(H:0<=x.k)(K:x.k<=7)(B:x.P w):ak aa Ct #[x.v] w λr e=>r=ag (.i (cM x.rx:Int))/\ah w e:=by
 have L:=I.cm B.parts.1;have G:(I.au x.l).length=x.l.length:=by rw[I.fk,List.length_map]
 have D:cM x.rx=if x.k=6 then 3 else if x.k<3\/x.k=7\/x.l.length<2 then 4 else if x.k=3 then 2 else if x.k=4 then 0 else 1:=by rw[I.e0];unfold cM;dsimp only;rw[G]
 rw[D];have four:∀e,ah w e->x.k≠6->(x.k<3\/x.k=7\/x.l.length<2)->Bt.bq e λr e=>r=ag (.i ((if x.k=6 then 3 else if x.k<3\/x.k=7\/x.l.length<2 then 4 else if x.k=3 then 2 else if x.k=4 then 0 else 1:Nat):Int))/\ah w e:=λe f d E=>⟨by rw[af d,aj E];rfl,f⟩;refine Bt.aD _ _ _ _ w _ ((gE B).aJ λb y j=>aL (λd=>⟨by rw[aj d];rfl,j.fr⟩) (λd=>aG (λz=>four y j.fr d (.inl z)) (λz=>aL (λA=>four y j.fr d (.inr (.inl A))) (λA=>aG (λF=>four y j.fr d (.inr (.inr (by omega)))) (λF=>?_)))));refine j.nw λM _ h=>?_;have q:x.k=3\/x.k=4\/x.k=5:=by omega
 have C:(if x.k=6 then 3 else if x.k<3\/x.k=7\/x.l.length<2 then 4 else if x.k=3 then 2 else if x.k=4 then 0 else 1:Nat)=if x.k=3 then 2 else if x.k=4 then 0 else 1:=by rw[af d,af (by omega)]
 rw[C];rcases q with q|q|q<;>rw[q]
 .exact ⟨by decide,by decide,j4 ⟨2,h.ld 1 0,rfl,h.fr⟩⟩
 .exact ⟨by decide,by decide,j4 ⟨0,h.ld 1 1,rfl,h.fr⟩⟩
 .exact ⟨by decide,by decide,j4 ⟨1,h.ld 1 2,rfl,h.fr⟩⟩
def I6(t:BL)(h:0<t.length):gQ t (t.length - 1)=jY t:=by unfold gQ jY;rw[List.getD_eq_getElem?_getD,List.getLastD_eq_getLast?,List.getLast?_eq_getElem?]
def ZU(l:List I)(i:Nat):Rx.aY (I.au (l.drop i))<=I.aY l:=by
 rw[I.v'];induction l generalizing i with
 |nil=>simp
 |cons a l d=>
  cases i with
  |zero=>exact bg _
  |succ i=>have:=d i;show _<=a.sz+I.aY l;exact a8 this (by omega)
abbrev RJ(n:Nat):Prop:=∀(x:I) (d:Nat) (w:J),x.sz<=n->d<=1000->h8 x.rx=true->x.P w->ak aa o0 #[x.v,.i (d:Int)] w λr e=>r=ag (.string (ba (cO d x.rx (bb x.rx))))/\ah w e
def F8:∀n:Nat,n<=1000000->RJ n
 |0,_=>λx F w A _ _ _=>absurd A (by have:=I.lH x;omega)
 |n+1,hn=>by
  have ih:=F8 n (by omega);have core:∀(x:I) (F:Nat) (w:J),x.sz<=n+1->¬cM x.rx<F->h8 x.rx=true->x.P w->ak aa o0 #[x.v,.i (F:Int)] w λr w'=>r=ag (.string (ba (bb x.rx)))/\ah w w':=by
   intro x F w A a5 Z px;have hs:=I.hQ x;have hl:=I.fq x.l;have V:=I.cm px.parts.1;have ab:=Z;rw[I.e0]at ab;obtain⟨k0,ar,aC,a2⟩:=yw ab;have aB:(I.au x.l).length=x.l.length:=by rw[I.fk,List.length_map]
   rw[aB]at aC;have aA:∀a∈x.l,h8 a.rx=true:=λa j=>yx a2 (by rw[I.fk];exact ch.2 ⟨a,j,rfl⟩);have aX:∀a:I,a.sz<=1000000->(bb a.rx).length<=18000000:=λa j=>by have:=wK a.rx;rw[I.eB]at this;omega
   have ap:∀(a:I) (F:Nat),a.sz<=1000000->(cO F a.rx (bb a.rx)).length<=18000002:=λa F j=>by have D:=aX a j;have:=(qM F a.rx (bb a.rx)).1;omega
   have aO:∀c,(dB c).length<=4:=λc=>by unfold dB;split<;>simp
   let O:aH:=λr w'=>r=ag (.string (ba (bb x.rx)))/\ah w w'
   have one:∀(a:I) (ac:Nat) (H:J) (h:Nat) (K:ByteArray->J->Prop),ac<=1000->a∈x.l->LH F0 w H [.g h] [.tree x]->(∀B,LH F0 w B [.g h] [.tree x]->K (ba (cO ac a.rx (bb a.rx))) B)->A1 [h] o0 #[.agg #[.i a.k,.int .u8 (a.lo.toNat:Int),.int .u8 (a.U.toNat:Int),a.s.v],.i (ac:Int)] H K:=by intro a ac H h K a8 j G hK;have av:=I.eg j;refine G.ay (ih a ac H (by omega) a8 (aA a j) ((show x.P H from G.getD 0).parts.2.mem j)) ?_;rintro _ B rfl q;exact⟨_,rfl,hK B q⟩
   refine k7.aD _ _ _ _ _ w _ ((gE px).aJ λh H G=>?_);have G:LH F0 w H [.g h] [.tree x]:=G;refine G.ay (AT x H k0 ar (G.getD 0)) ?_;rintro _ B rfl q;have N:bb x.rx=bb (.mk x.k x.lo x.U (I.au x.l)):=by rw[I.e0]
   refine⟨_,rfl,a1 (aV (by omega)) (aL (λe=>⟨?_,q.fr⟩) (λQ=>aL (λe=>⟨?_,q.fr⟩) (λW=>aL (λS=>?_) (λS=>aL (λT=>?_) (λT=>aL (λY=>?_) (λY=>aG (λa4=>?_) (λa4=>?_)))))))⟩
   .rw [N];unfold bb;rw[aj e];rfl
   .rw [N];unfold bb;rw[af Q,aj e];rfl
   .have e2:bb x.rx=if x.lo=x.U then dB x.lo else 91::(dB x.lo++45::(dB x.U++[93])):=by rw[N];unfold bb;rw[af Q,af W,aj S]
    refine aL (λaR=>q.ay (AS x.lo B) ?_) (λaR=>q.ai λC L=>L.ay (AS x.lo C) ?_)
    .rintro _ z rfl y;exact⟨_,rfl,by rw[e2,aj (UInt8.toNat_inj.1 (by omega))],y.fr⟩
    .rintro _ w6 rfl H6;have D:=aO x.lo;have h2:=aO x.U;have s0:bJ #[91]++ba (dB x.lo)++bJ #[45]=ba (91::dB x.lo++[45]):=by show ba [91]++ba (dB x.lo)++ba [45]=_;rw[dF,dF];rfl
     refine⟨_,rfl,?_,?_,H6.ay (AS x.U w6) ?_⟩
     .rw [cS];show ¬(((1+_:Nat):Int)>9223372036854775807);omega
     .have:(bJ #[91]++ba (dB x.lo)).size=1+(dB x.lo).length:=by show(ba [91]++_).size=_;rw[dF,cS];simp;omega
      rw[this];show ¬(((_+1:Nat):Int)>9223372036854775807);omega
     rintro _ w7 rfl H7;rw[s0];have:ba (91::dB x.lo++[45]++dB x.U)++bJ #[93]=ba (91::dB x.lo++[45]++dB x.U++[93]):=by show _++ba [93]=_;rw[dF]
     refine⟨_,rfl,?_,?_,?_,H7.fr⟩
     .rw [cS,cS];simp only[a7,db,fC];show ¬(((_:Nat):Int)>9223372036854775807);omega
     .rw [dF,cS];simp only[a7,db,fC];show ¬(((_+1:Nat):Int)>9223372036854775807);omega
     .rw [dF,this,e2,af (λA=>aR (by rw[A]))];simp
   .have D:=aC (.inl T);have e6:bb x.rx=33::jq (dm 3 (I.au x.l)):=by rw[N];unfold bb;rw[af Q,af W,af S,aj T]
    match eh:x.l,D with
    |[a],_=>
     have j:a∈x.l:=by rw[eh];simp
     have av:=I.eg j;refine ia (show x.P B from q.getD 0) (k:=0) rfl (by rw[eh];rfl) (one a 3 B h _ (by omega) j q λz y=>⟨?_,?_,y.fr⟩)
     .have:=ap a 3 (by omega);rw[cS];show ¬(((1+_:Nat):Int)>9223372036854775807);omega
     .have:bJ #[33]++ba (cO 3 a.rx (bb a.rx))=ba (33::cO 3 a.rx (bb a.rx)):=by show ba [33]++_=_;rw[dF];rfl
      rw[this,e6,eh];rfl
   .have D:=aC (.inr Y);have e7:bb x.rx=jq (dm 4 (I.au x.l))++[42]:=by rw[N];unfold bb;rw[af Q,af W,af S,af T,aj Y]
    match eh:x.l,D with
    |[a],_=>
     have j:a∈x.l:=by rw[eh];simp
     have av:=I.eg j;refine ia (show x.P B from q.getD 0) (k:=0) rfl (by rw[eh];rfl) (one a 4 B h _ (by omega) j q λz y=>⟨?_,?_,y.fr⟩)
     .have:=ap a 4 (by omega);rw[cS];show ¬(((_+1:Nat):Int)>9223372036854775807);omega
     .have:ba (cO 4 a.rx (bb a.rx))++bJ #[42]=ba (cO 4 a.rx (bb a.rx)++[42]):=by show _++ba [42]=_;rw[dF]
      rw[this,e7,eh];rfl
   .
    have e:x.k=3\/x.k=4\/x.k=5:=by omega
    have ef:bb x.rx=qC x.k++(jq (dm 0 (I.au x.l))++[41]):=by rw[N];unfold bb;rw[af Q,af W,af S,af T,af Y,aj (by rw[aB];omega)]
    have fin:∀(t:BL) (z:J),t.length<=18000002->jq (dm 0 (I.au x.l))=t->LH F0 w z [.g h] [.tree x]->k7.bq h x.k x.lo.toNat x.U.toNat x.s (ba t) z O:=by
     intro t z ht E y;dsimp only[k7.bq,ax];refine y.nw λw4 _ M=>?_;have key:∀(u:BL),u.length=4->qC x.k=u->¬((((ba u).size+(ba t).size:Nat):Int)>IntKind.i64.max)/\¬((((ba u++ba t).size+(bJ #[41]).size:Nat):Int)>IntKind.i64.max)/\O (ag (.string ((ba u++ba t)++(bJ #[41])))) w4:=by
      intro u hu hn;refine⟨?_,?_,?_,M.fr⟩
      .rw [cS,cS];show ¬(((_:Nat):Int)>9223372036854775807);omega
      .rw [dF,cS];simp only[a7];show ¬(((_+1:Nat):Int)>9223372036854775807);omega
      .have:ba u++ba t++bJ #[41]=ba (u++(t++[41])):=by show _++_++ba [41]=_;rw[dF,dF];simp
       rw[this,ef,hn,E]
     rcases e with e|e|e<;>rw[e]
     .exact ⟨by decide,by decide,j4 ⟨ba [99,97,116,40],M.ld 1 0,key _ rfl (by rw[e];rfl)⟩⟩
     .exact ⟨by decide,by decide,j4 ⟨ba [97,108,116,40],M.ld 1 1,key _ rfl (by rw[e];rfl)⟩⟩
     .exact ⟨by decide,by decide,j4 ⟨ba [97,108,108,40],M.ld 1 2,key _ rfl (by rw[e];rfl)⟩⟩
    refine aL (λD=>?_) (λD=>?_)
    .match eh:x.l with
     |[]=>rw[eh]at V;simp at V;omega
     |_::_::_=>rw[eh]at V;simp at V;omega
     |[a]=>
      have j:a∈x.l:=by rw[eh];simp
      have av:=I.eg j;refine ia (show x.P B from q.getD 0) (k:=0) rfl (by rw[eh];rfl) (one a 0 B h _ (by omega) j q λz y=>?_);exact fin _ z (ap a 0 (by omega)) (by rw[eh];rfl) y
    .have:x.l=[]:=List.length_eq_zero_iff.1 (by omega);exact fin [] B (by simp) (by rw[this];rfl) q
   .
    have e:x.k=3\/x.k=4\/x.k=5:=by omega
    match eh:x.l with
    |[]=>rw[eh]at V;simp at V;omega
    |a::m=>
    have j:a∈x.l:=by rw[eh];simp
    have av:=I.eg j;have bn:(gG x.k).length<=1:=by unfold gG;split<;>(try split)<;>simp
    have ef:bb x.rx=iW x.k (cO (cM x.rx+1) a.rx (bb a.rx)) (dm (cM x.rx+1) (I.au (x.l.drop 1))):=by
     have e1:bb x.rx=xV x.k (dm (cM x.rx+1) (I.au x.l)):=by
      conv=>lhs;rw[N];unfold bb;rw[af Q,af W,af S,af T,af Y,af (by rw[aB];omega)]
      rw[<-I.e0]
     rw[e1,eh];rfl
    have bi:cM x.rx<=4:=by rw[I.e0];unfold cM;dsimp only;repeat (first |omega|split)
    have loop:∀(d i:Nat) (out:BL) (z:J),i+d=x.l.length->1<=i->0<out.length->out.length+gS (dm (cM x.rx+1) (I.au (x.l.drop i)))<=40000000->bb x.rx=iW x.k out (dm (cM x.rx+1) (I.au (x.l.drop i)))->LH F0 w z [.g h] [.tree x]->
      k7.ct h x.k x.lo.toNat x.U.toNat x.s (ba (gG x.k)) (cM x.rx:Int) (ba out) (i:Int) z O:=by
     intro d;induction d with
     |zero=>
      intro i out z hi D aT aq E y;refine k7.dX _ _ _ _ _ _ _ _ _ _ _ (a1 (aV (by omega)) ⟨?_,y.fr⟩);rw[E,dC (by omega)];rfl
     |succ d a9=>
      intro i out z hi D aT aq E y;have hg:x.l[i]? =some (x.l[i]'(by omega)):=a6 (by omega);have aQ:x.l.drop i=(x.l[i]'(by omega))::x.l.drop (i+1):=dy (by omega);generalize x.l[i]'(by omega)=c at hg aQ;have hc:=aE hg;have bo:=I.eg hc;rw[aQ]at E aq;have aq:out.length+((cO (cM x.rx+1) c.rx (bb c.rx)).length+2+gS (dm (cM x.rx+1) (I.au (x.l.drop (i+1)))))<=40000000:=by
       have:gS (dm (cM x.rx+1) (I.au (c::x.l.drop (i+1))))=(cO (cM x.rx+1) c.rx (bb c.rx)).length+2+gS (dm (cM x.rx+1) (I.au (x.l.drop (i+1)))):=by simp[I.au,dm,gS]
       omega
      have E:bb x.rx=iW x.k ((if x.k=3/\ez (jY out)=true/\ez (gQ (cO (cM x.rx+1) c.rx (bb c.rx)) 0)=true then out++[32]else out)++gG x.k++cO (cM x.rx+1) c.rx (bb c.rx)) (dm (cM x.rx+1) (I.au (x.l.drop (i+1)))):=by rw[E];rfl
      have aY:0<(cO (cM x.rx+1) c.rx (bb c.rx)).length:=by have D:=zK c.rx (aA c hc);have:=(qM (cM x.rx+1) c.rx (bb c.rx)).2;omega
      have az:ao .i64 ((cM x.rx:Int)+1)=((cM x.rx+1:Nat):Int):=bd _ (by omega);refine k7.dX _ _ _ _ _ _ _ _ _ _ _ (a3 (aP (by omega)) (ia (show x.P z from y.getD 0) rfl hg ?_));rw[az];refine one c (cM x.rx+1) z h _ (by omega) hc y λw4 M=>?_;generalize cO (cM x.rx+1) c.rx (bb c.rx)=t at E aq aY;have go:∀(o:BL) (C:J),o.length<=out.length+1->out.length<=o.length->o.length+(gG x.k).length<=out.length+1->bb x.rx=iW x.k (o++gG x.k++t) (dm (cM x.rx+1) (I.au (x.l.drop (i+1))))->LH F0 w C [.g h] [.tree x]->
        k7.bU h x.k x.lo.toNat x.U.toNat x.s (ba (gG x.k)) (cM x.rx:Int) (ba o) (i:Int) (ba t) C O:=by
       intro o C bk bl bm a0 L;refine⟨?_,?_,?_⟩
       .rw [cS,cS];show ¬(((_:Nat):Int)>9223372036854775807);omega
       .rw [dF,cS,cS];simp only[a7];show ¬(((_:Nat):Int)>9223372036854775807);omega
       .show k7.ct _ _ _ _ _ _ _ _ _ _ _;rw[dF,dF,bd _ (by omega)];refine a9 (i+1) (o++gG x.k++t) C (by omega) (by omega) (by simp only[a7];omega) (by simp only[a7];omega) a0 L
      have aF:∀C,LH F0 w C [.g h] [.tree x]->¬(x.k=3/\ez (jY out)=true/\ez (gQ t 0)=true)->k7.bU h x.k x.lo.toNat x.U.toNat x.s (ba (gG x.k)) (cM x.rx:Int) (ba out) (i:Int) (ba t) C O:=λC L A=>go out C (by omega) (by omega) (by omega) (by rw[af A]at E;exact E) L;have eo:ao .i64 ((((ba out).size:Nat):Int) - 1)=((out.length - 1:Nat):Int):=by rw[cS,aS _ (by omega)];omega
      rw[eo];refine aL (λal=>⟨by omega,jY out,?_,M.ay (Gq (jY out) w4) ?_⟩) (λal=>aF w4 M (λA=>al A.1))
      .rw [bF,gk (s:=ba out) (by rw[cS];omega),mG,I6 out aT]
      rintro _ C rfl L;refine⟨_,rfl,bD (λam=>⟨by omega,gQ t 0,?_,L.ay (Gq (gQ t 0) C) ?_⟩) (λam=>aF C L (λA=>by rw[A.2.1]at am;cases am))⟩
      .rw [show aZ 0=0 from rfl,gk (s:=ba t) (by rw[cS];omega),mG]
      rintro _ w6 rfl H6;have s3:(gG x.k).length=0:=by unfold gG;rw[aj al];rfl
      refine⟨_,rfl,bD (λan=>⟨?_,?_⟩) (λan=>aF w6 H6 (λA=>by rw[A.2.2]at an;cases an))⟩
      .rw [cS];show ¬(((_+1:Nat):Int)>9223372036854775807);omega
      .have aW:ba out++bJ #[32]=ba (out++[32]):=by show _++ba [32]=_;rw[dF]
       rw[aW];refine go (out++[32]) w6 (by simp) (by simp) (by simp;omega) ?_ H6;rw[aj ⟨al,am,an⟩]at E;exact E
    refine q.nw λaI _ ae=>?_;have aM:LH F0 w aI [.g h] [.tree x]:=ae.take 1;have rest:∀(u:BL),gG x.k=u->T2 [h] Ct #[.agg #[.i x.k,.int .u8 (x.lo.toNat:Int),.int .u8 (x.U.toNat:Int),x.s.v]] aI λt90 ad=>e8 x.s 0 λbc=>fM ad (bc.add (aZ 0 *4)) λbe bf bg bh=>A1 [h] o0 #[.agg #[.i be,.int .u8 bf,.int .u8 bg,bh.v],.i (ao .i64 (t90+1))] ad λt97 aK=>k7.ct h x.k x.lo.toNat x.U.toNat x.s (ba u) t90 t97 1 aK O:=by
     intro u hu;refine aM.ay (AT x aI k0 ar (aM.getD 0)) ?_;rintro _ ad rfl aN;refine⟨_,rfl,ia (show x.P ad from aN.getD 0) (k:=0) rfl (by rw[eh];rfl) ?_⟩;have az:ao .i64 ((cM x.rx:Int)+1)=((cM x.rx+1:Nat):Int):=bd _ (by omega);rw[az];refine one a (cM x.rx+1) ad h _ (by omega) j aN λaK aU=>?_;rw[<-hu];refine loop (x.l.length - 1) 1 _ aK (by omega) (by omega) ?_ ?_ ef aU
     .have D:=zK a.rx (aA a j);have:=(qM (cM x.rx+1) a.rx (bb a.rx)).2;omega
     .have D:=ap a (cM x.rx+1) (by omega);have h2:=q8 (cM x.rx+1) (I.au (x.l.drop 1));have h3:=ZU x.l 1;omega
    rcases e with e|e|e
    .exact ⟨by rw[e];decide,by rw[e];decide,j4 ⟨ba [],by rw[e];exact ae.ld 1 0,rest _ (by rw[e];rfl)⟩⟩
    .exact ⟨by rw[e];decide,by rw[e];decide,j4 ⟨ba [124],by rw[e];exact ae.ld 1 1,rest _ (by rw[e];rfl)⟩⟩
    .exact ⟨by rw[e];decide,by rw[e];decide,j4 ⟨ba [38],by rw[e];exact ae.ld 1 2,rest _ (by rw[e];rfl)⟩⟩
  intro x F w A a5 Z px;by_cases hb:cM x.rx<F
  .have ab:=Z;rw[I.e0]at ab;obtain⟨k0,ar,_,_⟩:=yw ab;refine k7.aD _ _ _ _ _ w _ ((gE px).aJ λh H G=>G.ay (AT x H k0 ar (G.getD 0)) ?_);rintro _ B rfl q;refine⟨_,rfl,a3 (aP (by omega)) (q.ay (core x 0 B A (by omega) Z (q.getD 0)) ?_)⟩;rintro _ z rfl y;have bj:(bb x.rx).length<=18000000:=by have:=wK x.rx;rw[I.eB]at this;omega
   have aw:bJ #[40]++ba (bb x.rx)++bJ #[41]=ba (40::(bb x.rx++[41])):=by show ba [40]++ba (bb x.rx)++ba [41]=_;rw[dF,dF];simp
   refine⟨_,rfl,?_,?_,?_,y.fr⟩
   .rw [cS];show ¬(((1+_:Nat):Int)>9223372036854775807);omega
   .have:(bJ #[40]++ba (bb x.rx)).size=1+(bb x.rx).length:=by show(ba [40]++_).size=_;rw[dF,cS];simp;omega
    rw[this];show ¬(((_+1:Nat):Int)>9223372036854775807);omega
   .rw [aw];unfold cO;rw[aj hb]
  .have:=core x F w A hb Z px;have aw:cO F x.rx (bb x.rx)=bb x.rx:=by unfold cO;rw[af hb]
   rw[aw];exact this
def F7(x:I)(d:Nat)(w:J)(h:x.sz<=1000000)(e:d<=1000)(j:h8 x.rx=true)(k:x.P w):ak aa o0 #[x.v,.i (d:Int)] w λr q=>r=ag (.string (ba (cO d x.rx (bb x.rx))))/\ah w q:=F8 1000000 (bg _) x d w h e j k
def XU{s:BL}{x:Rx}{a:Nat}{e:Int}(h:sR s=some (x,a,e)):x.sz<=1000000:=by
 unfold sR at h;split at h
 .simp only[eH,eu]at h;rw[<-h.1];decide
 .dsimp only at h;split at h
  .split at h
   .simp only[eH,eu]at h;rw[<-h.1];decide
   .split at h
    .cases h
    .split at h
     .simp only[eH,eu]at h;rw[<-h.1];decide
     .simp only[eH,eu]at h;rw[<-h.1];omega
  .cases h
def Sz(s:ByteArray)(Q:s.size<=100000)(b:Bool)(d:rW (bl s)=some b)(w:J):ak aa J2 #[.string s] w λr W=>r=ag (.bool b)/\ah w W:=by
 unfold rW at d;cases k:sR (bl s)with
 |none=>rw[k]at d;cases d
 |some Z=>
  obtain⟨Y,a,N⟩:=Z;rw[k]at d;dsimp only at d;have S:=XU k;have H:LH F0 w w [] []:=bP [] (by simp);refine Hs.aD _ w _ (H.AY (TA s Q Y a N k w) ?_);rintro _ w1 ⟨t,rfl,y,T,O⟩ _ G;have K:=G.rd (.tree t) T λb e=>O b (aO.1 e);have V:t.sz<=1000000:=by rw[<-I.eB,y];exact S
  refine⟨_,_,_,t.s,_,_,rfl,K.aJ λb3 w2 z=>dv (λq=>z.ai λE h=>⟨?_,h.fr⟩) (λq=>z.ai λE h=>?_)⟩
  .rw [af q]at d;cases d;rfl
  rw[aj q]at d;refine ha ((TC t E V (h.getD 0)).mono ?_);rintro _ w4 ⟨⟨u,rfl,D,U,P⟩,B⟩;have L:=h.gx (.tree u) B U λb e=>(P b (aO.1 e)).imp id λe=>.inr ⟨_,aE (i:=0) rfl,aO.2 e⟩;rw[y]at D;refine⟨B,_,_,_,u.s,_,rfl,L.aJ λb6 w5 A=>?_⟩;rw[y];refine aL (λx=>A.ai λF j=>?_) (λx=>A.ai λF j=>⟨?_,j.fr⟩)
  .rw [aj x]at d;split at d
   .rename_i C;rw[<-D]at C d;refine j.ay (F7 u 0 F (by rw[<-I.eB];omega) (by omega) C.1 (j.getD 1)) ?_;rintro _ w7 rfl M;refine⟨_,rfl,?_,M.fr⟩;cases d;congr 2;have:=rR (cO 0 u.rx (bb u.rx)) (bl s);rw[lX]at this;exact this
   .cases d
  .rw [af x]at d;cases d;rfl
abbrev tv(k:Sl)(ks:List bo):En:=.bc 3 k (ks.flatMap gn)
def Jk{w:J}{k:Sl}{ks:List bo}(h:bx 3 w k (ks.flatMap gn)):LH F0 w w [] [tv k ks]:=bP _ (by intro e d;simp only[av,aR,aT]at d;subst d;exact h)
def Tg{w:J}{k:Sl}{ks:List bo}{x y z:bo}(op:Int)(h:bx 3 w k (ks.flatMap gn))(hx:ks[0]? =some x)(A:2<=cU op->ks[1]? =some y)(H:cU op=3->ks[2]? =some z)(h4:4<=op)(af:op<=34):
  ak aa KA #[.i op,k.v] w λr w'=>r=ag (.bool (df op x y z))/\ah w w':=by
 refine Bu.aD _ _ w _ (ek h (rfl:(0:Int)=((0:Nat):Int)) hx λp0 al W=>⟨x.k,x.n,x.x,W.c0,W.c1,W.c2,(Jk h).aJ λb5 w1 H1=>?_⟩);have main:∀(a:Bool) (N:J),a=ec x->LH F0 w N [.g b5] [tv k ks]->Bu.bq op k b5 x.k x.n x.x (x.k==0) (x.k==1) a N λr w'=>r=ag (.bool (df op x y z))/\ah w w':=by
  rintro a N ha d;have q:∀{D:J} {L:List En},LH F0 w D L [tv k ks]->bx 3 D k (ks.flatMap gn):=λae=>ae.getD 0;have C:(1:Int)=((1:Nat):Int):=rfl;have K:(2:Int)=((2:Nat):Int):=rfl;rcases sP (by omega) af with rfl|rfl|rfl|rfl|rfl|rfl|rfl|rfl|rfl|rfl|rfl|rfl|rfl|rfl|rfl|rfl|rfl|rfl|rfl|rfl|rfl|rfl|rfl|rfl|rfl|rfl|rfl|rfl|rfl|rfl|rfl|rfl|rfl|rfl|rfl
  iterate 4 omega
  all_goals repeat (first |refine a1 rfl ?_|refine a3 rfl ?_)
  all_goals first |(have A:=A (by decide))|skip
  all_goals first |(have H:=H (by decide))|skip
  iterate 2 exact⟨rfl,d.fr⟩
  iterate 12
   .refine aL (λe=>?_) (λe=>d.ai λD j=>⟨?_,j.fr⟩)
    .refine ek (q d) C A λp G _=>d.ai λD j=>?_;have c:=fU (q j) C A G;refine⟨_,_,_,c.c0,c.c1,c.c2,?_,j.fr⟩;rw[j8];show _=Ending.returned (.bool (x.k==0&&aq (x=y)));rw[e];rfl
    .show _=Ending.returned (.bool (x.k==0&&aq (x=y)));rw[beq_eq_false_iff_ne.2 e];rfl
  .refine ek (q d) C A λp G _=>d.ai λD j=>?_;have c:=fU (q j) C A G;have E:df 18 x y z=(aq (x=y)||(x.k==1&&y.k==1)):=rfl;rw[E];refine⟨_,_,_,c.c0,c.c1,c.c2,nh (λI=>⟨by rw[aP I];rfl,j.fr⟩) (λI=>?_)⟩;rw[aV I,Bool.false_or];refine aL (λe=>ek (q j) C A λp' _ V=>⟨_,V.c0,?_,j.fr⟩) (λe=>⟨?_,j.fr⟩)
   .rw [e];rfl
   .rw [beq_eq_false_iff_ne.2 e];rfl
  .refine d.ai λD j=>j.ay (fa 1 D) ?_;rintro _ T rfl B;have E:df 19 x y z=(aq (x=bz 1)&&(aq (y=z)||(y.k==1&&z.k==1))):=rfl;rw[E];refine⟨_,_,_,rfl,nh (b:=bz 1) (λI=>?_) (λI=>⟨by rw[aV I];rfl,B.fr⟩)⟩;rw[aP I,Bool.true_and];refine ek (q B) C A λp _ c=>⟨_,_,_,c.c0,c.c1,c.c2,ek (q B) K H λad _ F=>⟨_,_,_,F.c0,F.c1,F.c2,nh (λh2=>⟨by rw[aP h2];rfl,B.fr⟩) (λh2=>?_)⟩⟩;rw[aV h2,Bool.false_or];refine ek (q B) C A λp' _ V=>⟨_,V.c0,aL (λe=>ek (q B) K H λq' _ d'=>⟨_,d'.c0,?_,B.fr⟩) (λe=>⟨?_,B.fr⟩)⟩
   .rw [e];rfl
   .rw [beq_eq_false_iff_ne.2 e];rfl
  .have E:df 20 x y z=(x.k==0&&y.k==0):=rfl;rw[E];refine aL (λe=>ek (q d) C A λp _ c=>⟨_,c.c0,?_,d.fr⟩) (λe=>⟨?_,d.fr⟩)
   .rw [e];rfl
   .rw [beq_eq_false_iff_ne.2 e];rfl
  iterate 3 exact⟨rfl,d.fr⟩
  .have E:df 24 x y z=(ec x&&aq (y=bz x.x)):=rfl;rw[E,<-ha];refine bD (λS=>?_) (λP=>d.ai λD j=>⟨by rw[P];rfl,j.fr⟩);refine ek (q d) C A λp G _=>d.ai λD j=>?_;have c:=fU (q j) C A G;refine⟨_,_,_,c.c0,c.c1,c.c2,j.ay (fa x.x D) ?_⟩;rintro _ T rfl B;have F:=fU (q B) C A G;refine⟨_,_,_,rfl,F.c0,F.c1,F.c2,?_,B.fr⟩;rw[S,Bool.true_and];exact congrArg (λb=>Ending.returned (.bool b)) (j8 y (bz x.x))
  .have E:df 25 x y z=(ec x&&aq (y=bz x.x)&&(aq (z=hG x)||(x.k==3&&z.k==1&&aq (z.n<=x.n)))):=rfl;rw[E,<-ha];refine dN (λP=>d.ai λD j=>⟨by rw[P];rfl,j.fr⟩) (λS=>?_);rw[S,Bool.true_and];refine ek (q d) C A λp G _=>d.ai λD j=>?_;have c:=fU (q j) C A G;refine⟨_,_,_,c.c0,c.c1,c.c2,j.ay (fa x.x D) ?_⟩;rintro _ T rfl B;have F:=fU (q B) C A G;refine⟨_,_,_,rfl,F.c0,F.c1,F.c2,y6 (a:=y) (b:=bz x.x) (λQ=>⟨by rw[aV Q];rfl,B.fr⟩) (λaj=>?_)⟩;rw[aP aj,Bool.true_and];refine ek (q B) K H λad U _=>B.ai λw5 O=>?_;have Z:=fU (q O) K H U;refine⟨_,_,_,Z.c0,Z.c1,Z.c2,O.ay (Dy x w5) ?_⟩;rintro _ w6 rfl M;have d6:=fU (q M) K H U;refine⟨_,_,_,rfl,d6.c0,d6.c1,d6.c2,nh (a:=z) (b:=hG x) (λI=>⟨by rw[aP I];rfl,M.fr⟩) (λQ=>?_)⟩;rw[aV Q,Bool.false_or];refine aL (λe=>ek (q M) K H λq' _ d'=>⟨_,d'.c0,aL (λac=>ek (q M) K H λq2 _ d2=>⟨_,d2.c1,?_,M.fr⟩) (λac=>⟨?_,M.fr⟩)⟩) (λe=>⟨?_,M.fr⟩)
   .rw [e,ac];rfl
   .rw [beq_eq_false_iff_ne.2 ac,Bool.and_false];rfl
   .rw [beq_eq_false_iff_ne.2 e];rfl
  .have E:df 26 x y z=(ec x&&aq (x=y)):=rfl;rw[E,<-ha];refine bD (λS=>?_) (λP=>d.ai λD j=>⟨by rw[P];rfl,j.fr⟩);refine ek (q d) C A λp G _=>d.ai λD j=>?_;have c:=fU (q j) C A G;refine⟨_,_,_,c.c0,c.c1,c.c2,?_,j.fr⟩;rw[j8,S];rfl
  iterate 2 exact⟨rfl,d.fr⟩
  .have E:df 29 x y z=(x.k==1&&y.k==1):=rfl;rw[E];refine aL (λe=>ek (q d) C A λp _ c=>⟨_,c.c0,?_,d.fr⟩) (λe=>⟨?_,d.fr⟩)
   .rw [e];rfl
   .rw [beq_eq_false_iff_ne.2 e];rfl
  .have E:df 30 x y z=(x.k==1&&aq (y=bz 7)&&aq (z=bz 7)):=rfl;rw[E];refine aL (λe=>?_) (λe=>d.ai λD j=>⟨by rw[beq_eq_false_iff_ne.2 e];rfl,j.fr⟩);rw[e];refine ek (q d) C A λp G _=>d.ai λD j=>?_;have c:=fU (q j) C A G;refine⟨_,_,_,c.c0,c.c1,c.c2,j.ay (fa 7 D) ?_⟩;rintro _ T rfl B;have F:=fU (q B) C A G;refine⟨_,_,_,rfl,F.c0,F.c1,F.c2,nh (a:=y) (b:=bz 7) (λI=>?_) (λQ=>⟨by rw[aV Q];rfl,B.fr⟩)⟩;rw[aP I];refine ek (q B) K H λad U Y=>⟨_,_,_,Y.c0,Y.c1,Y.c2,B.ay (fa 7 T) ?_⟩;rintro _ w5 rfl O;have d5:=fU (q O) K H U;exact⟨_,_,_,rfl,d5.c0,d5.c1,d5.c2,congrArg (λb=>Ending.returned (.bool b)) (j8 z (bz 7)),O.fr⟩
  .have E:df 31 x y z=(x.k==1&&y.k==1):=rfl;rw[E];refine aL (λe=>ek (q d) C A λp _ c=>⟨_,c.c0,?_,d.fr⟩) (λe=>⟨?_,d.fr⟩)
   .rw [e];rfl
   .rw [beq_eq_false_iff_ne.2 e];rfl
  .have E:df 32 x y z=(x.k==1&&y.k==1&&z.k==1):=rfl;rw[E];refine aL (λe=>ek (q d) C A λp _ c=>⟨_,c.c0,aL (λab=>ek (q d) K H λad _ F=>⟨_,F.c0,?_,d.fr⟩) (λab=>⟨?_,d.fr⟩)⟩) (λe=>⟨?_,d.fr⟩)
   .rw [e,ab];rfl
   .rw [beq_eq_false_iff_ne.2 ab,Bool.and_false];rfl
   .rw [beq_eq_false_iff_ne.2 e];rfl
  .exact ⟨rfl,d.fr⟩
  .refine d.ai λD j=>j.ay (fa 8 D) ?_;rintro _ T rfl B;exact⟨_,_,_,rfl,congrArg (λb=>Ending.returned (.bool b)) (j8 x (bz 8)),B.fr⟩
 refine aL (λe=>H1.ai λN d=>main true N ?_ d) (λe=>H1.ai λN d=>main _ N ?_ d)
 .unfold ec;rw[e];rfl
 .unfold ec;rw[beq_eq_false_iff_ne.2 e];rfl
def Am(n:Nx)(x y z:bo):cr->Prop:=λr=>∃(t:bo) (b:Bool),r=ag (.tuple #[dO t,.bool b])/\b=jy n x y z/\(b=true->t=ho n x y z)
def TF{w:J}{k:Sl}{ks:List bo}{x y z:bo}(d:Nd)(h:bx 3 w k (ks.flatMap gn))(hx:ks[0]? =some x)(E:2<=cU d.x.op->ks[1]? =some y)(M:cU d.x.op=3->ks[2]? =some z)(h4:4<=d.x.op)(ad:d.x.op<=34)(vx:bW x=true)(vy:2<=cU d.x.op->bW y=true)(vz:cU d.x.op=3->bW z=true)(hn:a5 d.x.n)(hm:a5 d.x.m):
  ak aa KE #[d.v,k.v] w λr U=>Am d.x x y z r/\ah w U:=by
 obtain⟨x1,x2,x3,x4,_⟩:=lK vx;obtain⟨ap,ar⟩:=hn;obtain⟨am,an⟩:=hm;refine xI.aD _ _ _ _ _ _ _ _ _ _ w _ ((Jk h).aJ λZ w1 H1=>H1.aJ λW w2 H2=>ek (H2.getD 0) (rfl:(0:Int)=((0:Nat):Int)) hx λp0 av ab=>⟨x.k,x.n,x.x,ab.c0,ab.c1,ab.c2,H2.aJ λb6 w3 T=>?_⟩);have B:∀{w3:J} {L:List En},LH F0 w w3 L [tv k ks]->bx 3 w3 k (ks.flatMap gn):=λae=>ae.getD 0;have F:(1:Int)=((1:Nat):Int):=rfl;have S:(2:Int)=((2:Nat):Int):=rfl;obtain⟨⟨op,kids,n,m,u,Y,st⟩,au⟩:=d;simp only at E M h4 ad vy vz ap ar am an;have S1:∀C:J,op≠16->op≠17->op≠18->op≠33->LH F0 w C [.g Z,.g W,.g b6] [tv k ks]->xI.bT k Z op au n m u Y st.k st.n st.x W 0 0 0 b6 x.k x.n x.x op C λr U=>Am ⟨op,kids,n,m,u,Y,st⟩ x y z r/\ah w U:=by
  intro C n1 n2 n3 n4 j;rcases sP (by omega) ad with rfl|rfl|rfl|rfl|rfl|rfl|rfl|rfl|rfl|rfl|rfl|rfl|rfl|rfl|rfl|rfl|rfl|rfl|rfl|rfl|rfl|rfl|rfl|rfl|rfl|rfl|rfl|rfl|rfl|rfl|rfl|rfl|rfl|rfl|rfl
  iterate 4 omega
  all_goals repeat (first |refine a1 rfl ?_|refine a3 rfl ?_)
  all_goals first |(have E:=E (by decide))|skip
  all_goals first |(have M:=M (by decide))|skip
  all_goals first |(have vy:=lK (vy (by decide)))|skip
  all_goals first |(have vz:=lK (vz (by decide)))|skip
  iterate 12 exact j.ai λD e=>⟨⟨x,true,rfl,rfl,λ_=>rfl⟩,e.fr⟩
  iterate 3 omega
  .refine ek (B j) F E λp O c=>⟨_,c.c0,aL (λhk=>?_) (λhk=>?_)⟩
   .refine ek (B j) F E λp O _=>j.ai λD e=>?_;have P:=fU (B e) F E O;refine⟨_,P.c1,ek (B e) S M λac H Q=>⟨_,Q.c1,e.ay (nD _ D) ?_⟩⟩;rintro _ I rfl q;refine⟨_,_,_,rfl,q.ai λN A=>⟨⟨_,true,rfl,rfl,λ_=>?_⟩,A.fr⟩⟩;show _=if y.k=1 then _ else _;rw[aj hk]
   .refine ek (B j) F E λp O c'=>⟨_,_,_,c'.c0,c'.c1,c'.c2,j.ai λD e=>⟨⟨y,true,rfl,rfl,λ_=>?_⟩,e.fr⟩⟩;show _=if y.k=1 then _ else _;rw[af hk]
  .refine ek (B j) F E λp O _=>j.ai λD e=>?_;have P:=fU (B e) F E O;refine⟨_,P.c1,ek (B e) F E λac H _=>?_⟩;have Q:=fU (B e) F E H;refine⟨_,Q.c1,e.ay (fa _ D) ?_⟩;rintro _ I rfl q;refine⟨_,_,_,rfl,(fU (B q) F E H).c1,q.ai λN A=>⟨(fU (B A) F E H).c1,⟨_,_,rfl,?_,λ_=>?_⟩,A.fr⟩⟩
   .rw [aS _ (by omega)];rfl
   .show bz _=bz (x.n+y.n);rw[aS _ (by omega)]
  .refine j.ai λD e=>e.ay (fa _ D) ?_;rintro _ I rfl q;have hr:jy ⟨21,kids,n,m,u,Y,st⟩ x y z=(aq (0<=m)&&aq (m<=n)&&aq (n<x.n)):=rfl;refine⟨_,_,_,rfl,aG (λK=>aG (λg2=>q.ai λN A=>⟨⟨_,_,rfl,?_,λG=>?_⟩,A.fr⟩) (λg2=>q.ai λN A=>⟨⟨_,false,rfl,?_,λG=>by cases G⟩,A.fr⟩)) (λK=>q.ai λN A=>⟨⟨_,false,rfl,?_,λG=>by cases G⟩,A.fr⟩)⟩
   .rw [hr,aP (show 0<=m from K),aP g2];rfl
   .have G:=ew G;show bz _=bz (n - m+1);rw[aS (n - m) (by omega),aS _ (by omega)]
   .rw [hr,aV g2,Bool.and_false];rfl
   .rw [hr,aV (show ¬0<=m from K)];rfl
  iterate 2
   .refine j.ai λD e=>e.ay (fa _ D) ?_;rintro _ I rfl q;have ag:ao .i64 (64 - x.n)=64 - x.n:=aS _ (by omega);rw[ag];refine⟨_,_,_,rfl,aG (λK=>q.ai λN A=>⟨⟨_,_,rfl,?_,λG=>?_⟩,A.fr⟩) (λK=>q.ai λN A=>⟨⟨_,false,rfl,?_,λG=>by cases G⟩,A.fr⟩)⟩
    .show _=(aq (1<=n)&&aq (n<=64 - x.n));rw[aP (show 1<=n from K)];rfl
    .have G:=ew G;show bz _=bz (x.n+n);rw[aS _ (by omega)]
    .show _=(aq (1<=n)&&aq (n<=64 - x.n));rw[aV (show ¬1<=n from K)];rfl
  .refine j.ay (Dy x C) ?_;rintro _ D rfl e;exact⟨_,_,_,rfl,e.ai λI q=>⟨⟨_,true,rfl,rfl,λ_=>rfl⟩,q.fr⟩⟩
  .exact j.ai λD e=>⟨⟨x,true,rfl,rfl,λ_=>rfl⟩,e.fr⟩
  .refine j.ay (fa _ C) ?_;rintro _ D rfl e;exact⟨_,_,_,rfl,e.ai λI q=>⟨⟨_,true,rfl,rfl,λ_=>rfl⟩,q.fr⟩⟩
  .refine j.ay (fa _ C) ?_;rintro _ D rfl e;exact⟨_,_,_,rfl,e.ai λI q=>⟨⟨_,true,rfl,rfl,λ_=>rfl⟩,q.fr⟩⟩
  .refine j.ai λD e=>e.ay (fa _ D) ?_;rintro _ I rfl q;refine⟨_,_,_,rfl,aG (λK=>q.ai λN A=>⟨⟨_,_,rfl,?_,λG=>rfl⟩,A.fr⟩) (λK=>q.ai λN A=>⟨⟨_,false,rfl,?_,λG=>by cases G⟩,A.fr⟩)⟩
   .show _=(aq (0<=n)&&aq (n<=63));rw[aP (show 0<=n from K)];rfl
   .show _=(aq (0<=n)&&aq (n<=63));rw[aV (show ¬0<=n from K)];rfl
  .refine ek (B j) F E λp O _=>j.ai λD e=>?_;have P:=fU (B e) F E O;refine⟨_,P.c1,ek (B e) F E λac H _=>?_⟩;have Q:=fU (B e) F E H;refine⟨_,Q.c1,e.ay (nD _ D) ?_⟩;rintro _ I rfl q;refine⟨_,_,_,rfl,(fU (B q) F E H).c1,q.ai λN A=>⟨(fU (B A) F E H).c1,⟨_,_,rfl,?_,λ_=>?_⟩,A.fr⟩⟩
   .rw [aS _ (by omega)];rfl
   .show eT _=eT (x.n+y.n);rw[aS _ (by omega)]
  .exact j.ai λD e=>⟨⟨x,true,rfl,rfl,λ_=>rfl⟩,e.fr⟩
  .refine j.ay (fa _ C) ?_;rintro _ D rfl e;exact⟨_,_,_,rfl,e.ai λI q=>⟨⟨_,true,rfl,rfl,λ_=>rfl⟩,q.fr⟩⟩
  .refine ek (B j) S M λp O _=>j.ai λD e=>?_;have P:=fU (B e) S M O;refine⟨_,P.c1,ek (B e) S M λac H _=>?_⟩;have Q:=fU (B e) S M H;refine⟨_,Q.c1,e.ay (nD _ D) ?_⟩;rintro _ I rfl q;refine⟨_,_,_,rfl,(fU (B q) S M H).c1,q.ai λN A=>⟨(fU (B A) S M H).c1,⟨_,_,rfl,?_,λ_=>?_⟩,A.fr⟩⟩
   .rw [aS _ (by omega)];rfl
   .show eT _=eT (x.n+z.n);rw[aS _ (by omega)]
  .omega
  .refine j.ay (nD _ C) ?_;rintro _ D rfl e;exact⟨_,_,_,rfl,e.ai λI q=>⟨⟨_,true,rfl,rfl,λ_=>rfl⟩,q.fr⟩⟩
 have V:∀C:J,(op=16\/op=17\/op=18\/op=33)->LH F0 w C [.g Z,.g W,.g b6] [tv k ks]->xI.bq W 0 0 0 C λr U=>Am ⟨op,kids,n,m,u,Y,st⟩ x y z r/\ah w U:=by
  intro C ho j;refine j.ay (fa 1 C) ?_;rintro _ D rfl e;refine⟨_,_,_,rfl,e.ai λI q=>⟨⟨_,true,rfl,?_,λ_=>?_⟩,q.fr⟩⟩
  .rcases ho with rfl|rfl|rfl|rfl<;>rfl
  .rcases ho with rfl|rfl|rfl|rfl<;>rfl
 exact aL (λh=>a3 (beq_iff_eq.2 h) (T.ai λC j=>V C (.inl h) j)) λh1=>aL (λh=>a3 (beq_iff_eq.2 h) (T.ai λC j=>V C (.inr (.inl h)) j)) λh2=>aL (λh=>a3 (beq_iff_eq.2 h) (T.ai λC j=>V C (.inr (.inr (.inl h))) j)) λh3=>aL (λh=>T.ai λC j=>V C (.inr (.inr (.inr h))) j) λal=>T.ai λC j=>S1 C h1 h2 h3 al j
def Uw:gU aa aak cg (.agg #[.int .i64 0,.int .i64 0,.int .i64 0]) 3 24:=⟨by kernel_rfl,by kernel_rfl,rfl,by decide,by decide⟩
def w7(t:ByteArray):Prop:=t.size<=100000/\rW (bl t)=some (mJ t)
def w7.can{t:ByteArray}(h:w7 t):rW (bl t)=some (mJ t):=h.2
structure oB(d:Nx):Prop where
 kl:d.kids.length<=e4
 n:a5 d.n
 m:a5 d.m
 tx:d.op=33->w7 d.tx
structure wR(g:List Nx):Prop where
 len:g.length<=e4
 val:∀d∈g,bW d.st=true
 vars:w8 g
def VY{l:List Nd}{n:Nx}{i:Nat}{k:Int}{e:Nd}(h:n.kids[i]? =some k)(d:l[k.toNat]? =some e):bK (xs l) n i=e.x.st:=by unfold bK;rw[h];dsimp only;rw[tT d]
def Yj(i:Nat)(f:Nat->bo):((List.range (i+1)).map f).flatMap gn=((List.range i).map f).flatMap gn++gn (f i):=by rw[List.range_succ];simp
def VV{op:Int}{m:Nat}(h:cU op=(m:Int))(d:m≠0):4<=op/\op<=34:=by
 unfold cU at h;split at h
 .omega
 .split at h
  .omega
  .omega
def VX{op:Int}(h:cU op=0):0<=op/\op<=3:=by
 unfold cU at h;split at h
 .omega
 .split at h
  .omega
  .split at h
   .omega
   .split at h<;>omega
def UX{g:List Nx}{n:Nx}(h:mU g n=0):(cU n.op==(n.kids.length:Int)&&n.kids.all (ff g)&&i0 n)=true:=by
 unfold mU at h;split at h
 .assumption
 .omega
def V3{g:List Nx}{n:Nx}(k:∀h∈g,bW h.st=true)(j:n.kids.all (ff g)=true){i:Nat}(U:i<n.kids.length):bW (bK g n i)=true:=by
 have d:=fi.1 j _ (List.getElem_mem U);unfold ff at d;simp only[bf,decide_eq_true_eq]at d;unfold bK;rw[a6 U];dsimp only;have e:(n.kids[i]).toNat<g.length:=by omega
 rw[a6 e];exact k _ (List.getElem_mem e)
def F5{w:J}{s:Sl}{l:List Nd}{d:Nd}(h:GP w s l)(hd:d.P w)(hg:wR (xs l))(T:oB d.x):
  ak aa Kx #[s.v,d.v] w λr N=>r=gm (cq (xs l) d.x)/\ah w N:=by
 have hn:=gZ h;have az:(xs l).length=l.length:=by simp[xs]
 have aB:d.ks.n=d.x.kids.length:=bp.len hd;have hl:=hg.len;have hk:=T.kl;rw[az]at hl;refine sj.aD _ _ _ _ _ _ _ _ _ _ w _ ((vr h hd).aJ λb3 w1 H1=>H1.aJ λI w2 V=>V.ay (Tf (bV.1 (V.getD 0)) (V.getD 1) hk) ?_);rintro _ w3 rfl G;refine⟨_,rfl,dv (λae=>G.ai λy j=>⟨?_,j.fr⟩) (λh0=>?_)⟩
 .unfold cq;unfold mU at ae ⊢;split
  .rename_i q;rw[aj q]at ae;exact absurd rfl ae
  .rename_i q;rw[iN]at q;rw[q];rfl
 have M:=UX h0;have au:cU d.x.op=(d.x.kids.length:Int):=by simp only[bf]at M;exact eq_of_beq M.1.1
 have an:d.x.kids.all (ff (xs l))=true:=by simp only[bf]at M;exact M.1.2
 have A:cq (xs l) d.x=if d.x.op<=3 then cB (xs l) d.x else
   if df d.x.op (bK (xs l) d.x 0) (bK (xs l) d.x 1) (bK (xs l) d.x 2)=false then(cY,9)else
   if jy d.x (bK (xs l) d.x 0) (bK (xs l) d.x 1) (bK (xs l) d.x 2)=false then(cY,5)else
   if d.x.op=33/\mJ d.x.tx=false then(cY,2)else(ho d.x (bK (xs l) d.x 0) (bK (xs l) d.x 1) (bK (xs l) d.x 2),0):=by unfold cq;rw[M];rfl
 refine aL (λaw=>?_) (λaw=>?_)
 .have hz:=VX (op:=d.x.op) (by omega);refine G.ay (Tq (bV.1 (G.getD 0)) (G.getD 1) hl hz.1 hz.2 hg.vars) ?_;rintro _ y rfl j;refine⟨_,_,_,_,rfl,j.ai λU D=>⟨?_,D.fr⟩⟩;rw[A,aj hz.2]
 have Q:=VV (op:=d.x.op) au (by omega);rw[af (by omega)]at A;unfold e4 at hk hl;have loop:∀(m i:Nat) (E:Sl) (y:J),i+m=d.x.kids.length->LH F0 w y [.g b3,.g I,.row cg 3 E (((List.range i).map (bK (xs l) d.x)).flatMap gn)] (ll s l d)->
   sj.a2 s b3 d.x.op d.ks d.x.n d.x.m d.x.u d.x.tx d.x.st.k d.x.st.n d.x.st.x I 0 0 0 E (i:Int) y λr N=>r=gm (cq (xs l) d.x)/\ah w N:=by
  intro m;induction m with
  |zero=>
   intro i E y hi j;have hi:i=d.x.kids.length:=by omega
   subst hi;have R4:bx 3 y E (((List.range d.x.kids.length).map (bK (xs l) d.x)).flatMap gn):=(j.get 2:aK _ _ _ _ _).bc;have F:∀B,B<d.x.kids.length->((List.range d.x.kids.length).map (bK (xs l) d.x))[B]? =some (bK (xs l) d.x B):=λB hj=>by rw[List.getElem?_map,List.getElem?_range hj];rfl
   have ag:∀B,B<d.x.kids.length->bW (bK (xs l) d.x B)=true:=λB hj=>V3 hg.val an hj;refine sj.bB _ _ _ _ _ _ _ _ _ _ _ _ _ _ _ _ _ _ _ (a1 (aV (by omega)) (j.ay (Tg d.x.op R4 (F 0 (by omega)) (λh2=>F 1 (by omega)) (λh3=>F 2 (by omega)) Q.1 Q.2) ?_));rintro _ U rfl D;refine⟨_,rfl,dN (λab=>D.ai λw6 W=>⟨by rw[A,aj ab];rfl,W.fr⟩) (λab=>?_)⟩;rw[af (by rw[ab];simp)]at A;have R5:bx 3 U E (((List.range d.x.kids.length).map (bK (xs l) d.x)).flatMap gn):=(D.get 2:aK _ _ _ _ _).bc;refine D.ay (TF d R5 (F 0 (by omega)) (λh2=>F 1 (by omega)) (λh3=>F 2 (by omega)) Q.1 Q.2 (ag 0 (by omega)) (λh2=>ag 1 (by omega)) (λh3=>ag 2 (by omega)) T.n T.m) ?_;rintro _ w6 ⟨t,b,rfl,K,ht⟩ W;refine⟨_,_,_,_,rfl,W.aJ λZ w7 Y=>dN (λap=>Y.ai λC z=>⟨?_,z.fr⟩) (λam=>?_)⟩
   .rw [A,aj (by rw[<-K,ap])];rfl
   rw[af (by rw[<-K,am];simp)]at A;have ht:=ht am;have S1:∀(c:Bool) (C:J) (L:List En),(d.x.op=33/\mJ d.x.tx=false↔c=false)->En.g I∈L->En.g Z∈L->LH F0 w C L (ll s l d)->sj.bT I 0 0 0 Z t.k t.n t.x c C λr N=>r=gm (cq (xs l) d.x)/\ah w N:=by
    intro c C L q m4 aA z;have al:∀b∈[I,Z],En.g b∈L:=by
     intro b K;simp only[av,aR,aT]at K;rcases K with rfl|rfl
     .exact m4
     .exact aA
    refine dN (λaq=>z.ai (λw9 H=>⟨?_,H.fr⟩) al) (λar=>z.ai (λw9 H=>⟨?_,H.fr⟩) al)
    .rw [A,aj (q.2 aq)];rfl
    .rw [A,af (λh=>by rw[ar]at q;cases q.1 h),ht]
   refine dv (λO=>Y.ai λC z=>S1 true C _ ⟨λh=>absurd h.1 O,λh=>by cases h⟩ (by simp) (by simp) z) (λO=>Y.ai λC z=>?_);have ao:=T.tx O;refine z.ay (Sz d.x.tx ao.1 _ ao.can C) ?_;rintro _ w9 rfl H;exact⟨_,rfl,S1 _ w9 _ ⟨λh=>h.2,λh=>⟨O,h⟩⟩ (by simp) (by simp) H⟩
  |succ m ih=>
   intro i E y hi j;have S:d.x.kids[i]? =some (d.x.kids[i]'(by omega)):=a6 (by omega);have ad:=fi.1 an _ (aE S);generalize d.x.kids[i]'(by omega)=kx at S ad;unfold ff at ad;simp only[bf,decide_eq_true_eq]at ad;have ac:l[kx.toNat]? =some (l[kx.toNat]'(by omega)):=a6 (by omega);generalize l[kx.toNat]'(by omega)=e at ac;have ax:bp y d.ks d.x.kids:=j.getD 1;have aC:=Nd.cm (show bx 9 y s (l.flatMap Nd.c)from(bV.1 (j.getD 0)).1);refine sj.bB _ _ _ _ _ _ _ _ _ _ _ _ _ _ _ _ _ _ _ (a3 (aP (by omega)) ⟨by omega,by omega,ax.cell S (by omega) λp hp q=>⟨kx,q,hM (bV.1 (j.getD 0)) (i:=kx.toNat) (by omega) ac λaF hq c=>⟨_,_,_,c.s0,c.s1,c.s2,?_⟩⟩⟩);have hlen:E.n=i:=by have:=(j.get 2:aK _ _ _ _ _).len;rw[Pp]at this;simp at this;omega
   refine j.iA 2 Uw rfl (λs' U D=>?_) (by omega);rw[bd _ (by omega)];refine ih (i+1) s' U (by omega) ?_;rw[Yj,VY S ac];exact D
 exact loop d.x.kids.length 0 ⟨none,0,0⟩ w3 (by omega) (G.h7 cg 3)
def mN:gU aa EM cA (.agg #[.int .i64 0,.slice none 0 0,.int .i64 0,.int .i64 0,.int .u64 0,.string (bJ #[]),.int .i64 0,.int .i64 0,.int .i64 0]) 9 96:=⟨by kernel_rfl,by kernel_rfl,rfl,by decide,by decide⟩
def qD{l:List Nd}:∀u∈l.flatMap Nd.c,u.oneCell'=true:=by intro u d;obtain⟨e,_,d⟩:=bA.1 d;simp only[Nd.c,av,aR,aT]at d;rcases d with rfl|rfl|rfl|rfl|rfl|rfl|rfl|rfl|rfl<;>rfl
def uB{w:J}{b n sz:Nat}{cs:List ab}{T:aC}(h:w.heap[b]? =some (.cells cs.toArray T (0,0)))(e:cs.length=n *sz):bx sz w ⟨some (ae b),n,n⟩ cs:=
 ⟨e,bg _,⟨λh=>(by cases h),λi v d=>⟨ae b,rfl,cellAt (p:=ae b) h rfl (by simpa using d)⟩⟩⟩
def SU{w:J}{a b:Nd}(T:a.P w)(U:b.P w)(O:a.x.kids.length<=e4):ak aa Kw #[a.v,b.v] w λr W=>r=ag (.bool (aq (a.x=b.x)))/\ah w W:=by
 have Q:LH F0 w w [] [cX a,cX b]:=bP _ (by
  intro ab N;simp only[av,aR,aT]at N;rcases N with rfl|rfl
  .exact T
  .exact U)
 obtain⟨⟨op,C,n,m,u,H,st⟩,sl⟩:=a;obtain⟨⟨G,D,F,E,K,I,z⟩,V⟩:=b;have no:∀{M:J} {L:List En},LH F0 w M L [cX ⟨⟨op,C,n,m,u,H,st⟩,sl⟩,cX ⟨⟨G,D,F,E,K,I,z⟩,V⟩]->(⟨op,C,n,m,u,H,st⟩:Nx)≠⟨G,D,F,E,K,I,z⟩->(Ending.returned (.bool false)=ag (.bool (aq ((⟨op,C,n,m,u,H,st⟩:Nx)=⟨G,D,F,E,K,I,z⟩)))/\ah w M):=λA d=>⟨by rw[aV d],A.fr⟩;refine HM.aD _ _ _ _ _ _ _ _ _ _ _ _ _ _ _ _ _ _ w _ (Q.aJ λY M A=>A.aJ λZ w2 e=>?_);refine aL (λh=>?_) (λh=>no e (λd=>h (congrArg Nx.op d)));refine aL (λj=>?_) (λj=>no e (λd=>j (congrArg Nx.n d)));refine aL (λk=>?_) (λk=>no e (λd=>k (congrArg Nx.m d)));refine aL (λq=>?_) (λq=>no e (λd=>q (congrArg Nx.u d)));refine Eb (λy=>?_) (λy=>no e (λd=>y (congrArg Nx.tx d)));refine nh (a:=st) (b:=z) (λB=>?_) (λB=>no e (λd=>B (congrArg Nx.st d)));refine e.ay (YY (e.getD 0) (e.getD 1) (by unfold e4 at O;simp only at O ⊢;omega)) ?_;rintro _ w3 rfl S;refine⟨_,rfl,?_,S.fr⟩;simp only at h j k q y;subst h j k q y B;simp
def Jd{g:List Nx}{n:Nx}{s:bo}(h:cq g n=(s,0)):cq g (gH n s)=(s,0):=by
 unfold cq at h;unfold cq;have k:(cU (gH n s).op==((gH n s).kids.length:Int)&&(gH n s).kids.all (ff g)&&i0 (gH n s))=(cU n.op==(n.kids.length:Int)&&n.kids.all (ff g)&&i0 n):=rfl;rw[k];split at h
 .simp at h
 .rename_i q;rw[af q];have j:(gH n s).op=n.op:=rfl;rw[j];split at h
  .rename_i e;rw[aj e];unfold cB at h;by_cases d:n.op=2
   .rw [aj d]at h;unfold cB;rw[j,aj d];exact h
   .rw [af d]at h;have w:s=n.st:=by
     split at h
     .simp at h
     .split at h
      .simp at h
      .split at h
       .simp at h
       .split at h
        .simp at h
        .split at h
         .simp at h
         .exact (congrArg Prod.fst h).symm
    have:gH n s=n:=by rw[w];rfl
    rw[this];unfold cB;rw[af d];exact h
  .rename_i e;rw[af e];exact h
def nO(g:List Nx)(n:Nx):Option Nat:=hg (if(cq g n).2=0 then gH n (cq g n).1 else n) g 0
def M8:Option Nat->Int
 |some i=>(i:Int)
 |none=>-1
def SI{w:J}{s:Sl}{l:List Nd}{d:Nd}(h:GP w s l)(W:d.P w)(S:wR (xs l))(ho:oB d.x)(Y:∀e∈l,e.x.kids.length<=e4):
  ak aa Kr #[s.v,d.v] w λr K=>r=ag (.i (M8 (nO (xs l) d.x)))/\ah w K:=by
 have hn:=gZ h;have ab:(xs l).length=l.length:=by simp[xs]
 have T:=S.len;rw[ab]at T;unfold e4 at T;have loop:∀(m i:Nat) (j:Nat) (y:J) (e:Nd) (L:List En),e.ks=d.ks->e.x.kids=d.x.kids->i+m=l.length->hg e.x ((xs l).drop i) i=nO (xs l) d.x->En.g j∈L->LH F0 w y L (ll s l d)->
   u6.ct s j e.x.op e.ks e.x.n e.x.m e.x.u e.x.tx e.x.st.k e.x.st.n e.x.st.x (i:Int) y λr K=>r=ag (.i (M8 (nO (xs l) d.x)))/\ah w K:=by
  intro m;induction m with
  |zero=>
   intro i j y e L G H Z z F q;rw[dC (by omega)]at z;exact u6.dX _ _ _ _ _ _ _ _ _ _ _ _ _ _ (a1 (aV (by omega)) ⟨by rw[<-z];rfl,q.fr⟩)
  |succ m ih=>
   intro i j y e L G H Z z F q;have A:l[i]? =some (l[i]'(by omega)):=a6 (by omega);have hx:(xs l).drop i=(l[i]'(by omega)).x::(xs l).drop (i+1):=by rw[dy (by omega:i<(xs l).length)];simp[xs]
   rw[hx]at z;generalize l[i]'(by omega)=a at A z;have V:∀b∈[j],En.g b∈L:=by simpa using F
   refine u6.dX _ _ _ _ _ _ _ _ _ _ _ _ _ _ (a3 (aP (by omega)) (hM (bV.1 (q.getD 0)) rfl A λp hp _=>q.ai (λM D=>?_) V));have N:GP M s l:=bV.1 (D.getD 0);have c:=BW N A hp (rfl:((i:Int))=(i:Int));have pe:e.P M:=by show bp M e.ks e.x.kids;rw[G,H];exact D.getD 1
   refine⟨_,_,_,_,_,_,_,_,_,c.c0,c.c1,c.c2,c.c3,c.c4,c.c5,c.c6,c.c7,c.c8,D.ay (SU (a:=a) (b:=e) (N.2 a (aE A)) pe (Y a (aE A))) ?_⟩;rintro _ w6 rfl Q;have B:(if a.x=e.x then some i else hg e.x ((xs l).drop (i+1)) (i+1))=nO (xs l) d.x:=z;refine⟨_,rfl,aG (λI=>⟨?_,Q.fr⟩) (λI=>?_)⟩
   .rw [aj I]at B;rw[<-B];rfl
   .rw [af I]at B;rw[bd _ (by omega)];exact ih (i+1) j w6 e L G H (by omega) B F Q
 refine u6.aD _ _ _ _ _ _ _ _ _ _ w _ ((vr h W).aJ λj w1 C=>C.ay (F5 (bV.1 (C.getD 0)) (C.getD 1) S ho) ?_);rintro _ w2 rfl U;refine⟨_,_,_,_,rfl,U.aJ λb5 w3 O=>aL (λE=>O.ai λy q=>?_) (λE=>O.ai λy q=>?_)⟩
 .exact loop l.length 0 j y ⟨gH d.x (cq (xs l) d.x).1,d.ks⟩ _ rfl rfl (by omega) (by unfold nO;rw[aj E];rfl) (by simp) q
 .exact loop l.length 0 j y d _ rfl rfl (by omega) (by unfold nO;rw[af E];rfl) (by simp) q
structure GR(w:J)(B:Nat->Prop)(g:List Nx)(s:Sl)(Y:J):Prop where
 ex:∃l':List Nd,xs l'=g/\GP Y s l'/\∀b∈(En.gr s l').fp,B b\/w.heap.size<=b
def GR.nil(w:J)(B:Nat->Prop)(Y:J):GR w B [] ⟨none,0,0⟩ Y:=⟨⟨[],rfl,⟨bx.nil 9 Y,by simp⟩,λb e=>by
 rcases l4.1 e with d|⟨j,h,_⟩
 .cases d
 .cases h⟩⟩
def Ty{w:J}{s:Sl}{l:List Nd}{d:Nd}(h:GP w s l)(hd:d.P w)(O:wR (xs l))(F:oB d.x)(an:∀k∈l,k.x.kids.length<=e4):
  ak aa Kn #[s.v,d.v] w λr w'=>(∃s':Sl,r=ag (.tuple #[s'.v,.i (gV (xs l) d.x).2.1,.i (gV (xs l) d.x).2.2])/\GR w (λb=>b∈(En.gr s l).fp\/b∈(cX d).fp) (gV (xs l) d.x).1 s' w')/\ah w w':=by
 have hn:=gZ h;have ab:(xs l).length=l.length:=by simp[xs]
 refine HH.aD _ _ _ _ _ _ _ _ _ _ w _ ((vr h hd).aJ λb3 w1 K=>K.ay (F5 (bV.1 (K.getD 0)) (K.getD 1) O F) ?_);rintro _ w2 rfl H2;refine⟨_,_,_,_,rfl,H2.aJ λb7 w3 V=>dv (λI=>V.ai λw4 C=>⟨⟨⟨none,0,0⟩,?_,?_⟩,C.fr⟩) (λI=>V.ai λw4 C=>?_)⟩
 .unfold gV;rw[aj I]
 .unfold gV;rw[aj I];exact GR.nil _ _ _
 have hs:cq (xs l) d.x=((cq (xs l) d.x).1,0):=by rw[<-I]
 have ar:=Jd hs;have ao:nO (xs l) (gH d.x (cq (xs l) d.x).1)=hg (gH d.x (cq (xs l) d.x).1) (xs l) 0:=by unfold nO;rw[ar];rfl
 have e:gV (xs l) d.x=match hg (gH d.x (cq (xs l) d.x).1) (xs l) 0 with
   |some i=>(xs l,(i:Int),0)
   |none=>if 4096<=(xs l).length then([],0,4)else(xs l++[gH d.x (cq (xs l) d.x).1],((xs l).length:Int),0):=by unfold gV;rw[af (by omega)];try rfl
 generalize au:(cq (xs l) d.x).1=sr at *
 let k:Nd:=⟨gH d.x sr,d.ks⟩
 have ap:oB k.x:=⟨F.kl,F.n,F.m,F.tx⟩;refine C.ay (SI (d:=k) (bV.1 (C.getD 0)) (C.getD 1) O ap an) ?_;rintro _ w5 rfl D;rw[show nO (xs l) k.x=hg (gH d.x sr) (xs l) 0 from ao];refine⟨_,rfl,?_⟩;cases W:hg (gH d.x sr) (xs l) 0 with
 |some i=>
  rw[W]at e;rw[e];exact a3 (aP (Int.natCast_nonneg i)) ⟨⟨s,rfl,⟨l,rfl,bV.1 (D.getD 0),λb B=>.inl (.inl B)⟩⟩,D.fr⟩
 |none=>
  rw[W]at e;dsimp only at e;refine a1 (by decide) ?_;refine aG (λh4=>⟨⟨⟨none,0,0⟩,?_,?_⟩,D.fr⟩) (λh4=>?_)
  .rw [e,aj (by omega)]
  .rw [e,aj (by omega)];exact GR.nil _ _ _
  rw[af (by omega)]at e;rw[e];have N:∀{q:J} {L:List En},LH F0 w q L (ll s l d)->bx 9 q s (l.flatMap Nd.c):=λal=>(bV.1 (al.getD 0)).1;have fin:∀(s':Sl) (q:J) (L:List En) (j:Nat),LH F0 w q L (ll s l d)->L[j]? =some (.row cA 9 s' (l.flatMap Nd.c++k.c))->
    (∃ad:Sl,Ending.returned (.tuple #[s'.v,.i ((s.n:Nat):Int),.i 0])=ag (.tuple #[ad.v,.i ((xs l).length:Int),.i 0])/\GR w (λb=>b∈(En.gr s l).fp\/b∈(cX d).fp) (xs l++[gH d.x sr]) ad q)/\ah w q:=by
   intro s' q L j y Y;have aq:bx 9 q s' ((l++[k]).flatMap Nd.c):=by have:aK q cA 9 s' (l.flatMap Nd.c++k.c):=y.get j Y;have:=this.bc;simpa using this
   refine⟨⟨s',by rw[ab,hn],⟨l++[k],by simp[xs,k],⟨aq,λa e=>?_⟩,λb B=>?_⟩⟩,y.fr⟩
   .rcases aX.1 e with e|e
    .exact (bV.1 (y.getD 0)).2 a e
    .simp only[av,aR,aT]at e;subst e;exact y.getD 1
   .rcases l4.1 B with B|⟨a,e,B⟩
    .right;have am:b∈(En.row cA 9 s' (l.flatMap Nd.c++k.c)).fp:=by
      have:b∈(if(l++[k]).flatMap Nd.c=[]then[]else aw s'):=B;split at this
      .cases this
      .exact this
     exact(y.new _ (aE Y) b am).resolve_right id
    .rcases aX.1 e with e|e
     .exact .inl (.inl (l4.2 (.inr ⟨a,e,B⟩)))
     .simp only[av,aR,aT]at e;subst e;exact .inl (.inr B)
  have ac:∀u∈k.c,u.oneCell'=true:=λu hu=>qD (l:=[k]) u (by simpa using hu);have Z:=O.len;rw[ab]at Z;unfold e4 at Z;refine⟨D.ai λq y=>y.cR (n:=0) (sz:=9) (cs:=[]) rfl (by decide) λS E=>⟨?_,?_⟩,D.ai λq y=>y.nw λS _ E=>E.cR (n:=0) (sz:=9) (cs:=[]) rfl (by decide) λw8 A=>?_⟩
  .refine E.dd 2 mN (s:=⟨some (ae q.heap.size),0,0⟩) (src:=s) rfl (N E) qD (by simp only;omega) (λs1 w8 A=>?_);have G:=(A.get 2:aK _ _ _ _ _).len;rw[lr,Nd.eW]at G;refine A.iA 2 mN rfl (λH U z=>?_) (by omega);exact fin H U _ 2 z rfl
  .refine E.nw λw8 _ A=>?_;refine A.dd 2 mN (s:=⟨some (ae q.heap.size),0,0⟩) (src:=s) rfl (N A) qD (by simp only;omega) (λs1 U z=>?_);have G:=(z.get 2:aK _ _ _ _ _).len;rw[lr,Nd.eW]at G;refine z.dd 2 mN (src:=⟨some (ae S.heap.size),1,1⟩) rfl (uB (cs:=k.c) (T:=cA) (z.ob 3) rfl) ac (by simp only;omega) (λH Q M=>?_);exact fin H Q _ 2 M rfl
  .refine A.dd 3 mN (s:=⟨some (ae S.heap.size),0,0⟩) (src:=s) rfl (N A) qD (by simp only;omega) (λs1 U z=>?_);have G:=(z.get 3:aK _ _ _ _ _).len;rw[lr,Nd.eW]at G;refine z.dd 3 mN (src:=⟨some (ae q.heap.size),1,1⟩) rfl (uB (cs:=k.c) (T:=cA) (z.ob 2) rfl) ac (by simp only;omega) (λH Q M=>?_);exact fin H Q _ 3 M rfl
def iY(n m:Int)(w:J)(e:1<=m)(h:a5 n):ak aa sJ #[.i n,.i m] w λr d=>r=ag (.i (gy n m))/\ah w d:=(Aw n m w e h).mono λr d h=>⟨h.1,h.2▸Fr.refl _ _⟩
def q5(t:List UInt8)(s:bo):Nx:=⟨0,[],0,0,0,ba t,s⟩
def lL(t:List UInt8)(s:bo):Nd:=⟨q5 t s,⟨none,0,0⟩⟩
def pr:List Nd:=[lL [97] (bz 2),lL [98] (bz 2),lL [99] (bz 1),lL [100] (bz 3)]
def pw:List Nd:=[lL [109] ⟨2,2,1⟩,lL [110] ⟨2,2,1⟩]
def mi:List Nd:=[lL [115] (eT 2),lL [116] (eT 1),lL [105] (bz 7),lL [122] ⟨3,1,1⟩]
def gp(kind:Int):List Nd:=pr++(if kind>0 then pw else[])++(if kind>1 then mi else[])
def vgB(l:List Nx):Bool:=(List.range l.length).all λi=>match l[i]? with
 |some n=>aq (cq (l.take i) n=(n.st,0))&&aq (n∉l.take i)
 |none=>false
def zA{l:List Nx}(h:vgB l=true):Vg l:=by
 have main:∀i,i<=l.length->Vg (l.take i):=by
  intro i;induction i with
  |zero=>intro _;rw[List.take_zero];exact .nil
  |succ i j=>
   intro k;have d:=fi.1 h i (List.mem_range.2 (by omega));have e:l[i]? =some (l[i]'(by omega)):=a6 (by omega);rw[e]at d;dsimp only at d;rw[ej,e];simp only[bf,decide_eq_true_eq]at d;exact .snoc (j (by omega)) d.1 d.2
 have:=main l.length (bg _)
 rwa[List.take_length]at this
def ZC(kind:Int):Vg (xs (gp kind)):=by
 unfold gp;split
 .split
  .exact zA (by kernel_rfl)
  .exact zA (by kernel_rfl)
 .split
  .exact zA (by kernel_rfl)
  .exact zA (by kernel_rfl)
structure MdN(d:Nx):Prop where
 Dc:-1<=d.op
 Dd:d.op<=34
 kl:d.kids.length<=3
 n:0<=d.n/\d.n<=100
 m:0<=d.m/\d.m<=100
 u:0<=d.u/\d.u<=1000
 tx:d.op≠33->d.tx.size<=16
 re:d.op=33->∃k,d.tx=ba (lI k)
structure hU(g:List Nx):Prop where
 vg:Vg g
 nd:∀d∈g,MdN d
def ZB(kind:Int):hU (xs (gp kind)):=by
 refine⟨ZC kind,λh k=>?_⟩;have e:∃t s,h=q5 t s/\t.length<=16:=by
  have j:h∈xs (pr++pw++mi):=by
   obtain⟨a,d,rfl⟩:=ch.1 k;refine ch.2 ⟨a,?_,rfl⟩;unfold gp at d;rcases aX.1 d with d|d
   .rcases aX.1 d with d|d
    .simp [d]
    .split at d
     .simp [d]
     .cases d
   .split at d
    .simp [d]
    .cases d
  simp only[xs,pr,pw,mi,lL,i2,lr,lq,List.map_nil,av,aR,aT]at j;rcases j with rfl|rfl|rfl|rfl|rfl|rfl|rfl|rfl|rfl|rfl<;>exact⟨_,_,rfl,by decide⟩
 obtain⟨t,s,rfl,q⟩:=e;exact⟨by show(-1:Int)<=0;omega,by show(0:Int)<=34;omega,by simp[q5],by simp[q5],by simp[q5],by simp[q5],λ_=>by show(ba t).size<=16;rw[cS];exact q,λe=>by cases e⟩
def Px{kind:Int}:∀e∈gp kind,e.x.kids=[]/\e.ks=⟨none,0,0⟩:=by
 intro e j;have h:e∈pr++pw++mi:=by
  unfold gp at j;rcases aX.1 j with d|d
  .rcases aX.1 d with d|d
   .simp [d]
   .split at d
    .simp [d]
    .cases d
  .split at d
   .simp [d]
   .cases d
 simp only[pr,pw,mi,lL,q5,i2,lr,av,aR,aT]at h;rcases h with rfl|rfl|rfl|rfl|rfl|rfl|rfl|rfl|rfl|rfl<;>exact⟨rfl,rfl⟩
def Zz{kind:Int}{w w0:J}{s:Sl}(h:bx 9 w s ((gp kind).flatMap Nd.c))(y:∀b∈aw s,w0.heap.size<=b):GR w0 F0 (xs (gp kind)) s w:=by
 refine⟨gp kind,rfl,⟨h,λe k=>?_⟩,λb d=>.inr ?_⟩
 .obtain ⟨j,q⟩:=Px e k;show bp w e.ks e.x.kids;rw[j,q];exact Rd.nil w
 .rcases l4.1 d with d|⟨e,k,d⟩
  .exact ta y b d
  .obtain ⟨j,q⟩:=Px e k;unfold cX at d;rw[j]at d;cases d
def ZA(kind:Int):1<=(gp kind).length/\(gp kind).length<=10:=by unfold gp;split<;>split<;>decide
def TH(kind:Int)(w:J):ak aa KG #[.i kind] w λr q=>(∃s:Sl,r=ag s.v/\GR w F0 (xs (gp kind)) s q)/\ah w q:=by
 refine Bv.ok kind w _ ((bP [] (by simp)).call (fa 2 w) ?_);rintro _ W rfl M;refine⟨_,_,_,rfl,M.call (fa 2 W) ?_⟩;rintro _ w2 rfl O;refine⟨_,_,_,rfl,O.call (fa 1 w2) ?_⟩;rintro _ w3 rfl P;refine⟨_,_,_,rfl,P.call (fa 3 w3) ?_⟩;rintro _ K rfl Q;refine⟨_,_,_,rfl,Q.cR (n:=4) (sz:=9) (cs:=pr.flatMap Nd.c) rfl (by decide) λE G=>?_⟩;have fin:∀(l:Sl) (d:J) (L:List En) (j:Nat),LH F0 w d L []->L[j]? =some (.row cA 9 l ((gp kind).flatMap Nd.c))->(∃s:Sl,Ending.returned l.v=ag s.v/\GR w F0 (xs (gp kind)) s d)/\ah w d:=λl d L j e h=>
  ⟨⟨l,rfl,Zz (e.get j h:aK _ _ _ _ _).bc λb U=>(e.new _ (aE h) b U).resolve_right id⟩,e.fr⟩
 have H:∀(l:Sl) (d:J) (L:List En) (j:Nat) (ds:List Nd),LH F0 w d L []->ds.length<=6->gp kind=ds++(if kind>1 then mi else[])->L[j]? =some (.row cA 9 l (ds.flatMap Nd.c))->Bv.S0 kind l d λr q=>(∃s:Sl,r=ag s.v/\GR w F0 (xs (gp kind)) s q)/\ah w q:=by
  intro l d L j ds e ab y h;refine aG (λC=>?_) (λC=>?_)
  .rw [aj C]at y;refine e.call (nD 2 d) ?_;rintro _ F rfl A;refine⟨_,_,_,rfl,A.call (nD 1 F) ?_⟩;rintro _ w8 rfl S;refine⟨_,_,_,rfl,S.call (fa 7 w8) ?_⟩;rintro _ x rfl T;refine⟨_,_,_,rfl,T.cR (n:=4) (sz:=9) (cs:=mi.flatMap Nd.c) rfl (by decide) λY z=>?_⟩;have I:(L++[En.row cA 9 ⟨some (ae x.heap.size),4,4⟩ (mi.flatMap Nd.c)])[j]? =some (.row cA 9 l (ds.flatMap Nd.c)):=by rw[List.getElem?_append_left (bO.1 h).1];exact h
   have V:(L++[En.row cA 9 ⟨some (ae x.heap.size),4,4⟩ (mi.flatMap Nd.c)])[L.length]? =some (.row cA 9 ⟨some (ae x.heap.size),4,4⟩ (mi.flatMap Nd.c)):=by simp
   have hn:l.n=ds.length:=by have:=(z.get j I:aK _ _ _ _ _).len;rw[Nd.eW]at this;omega
   have k:bx 9 Y ⟨some (ae x.heap.size),4,4⟩ (mi.flatMap Nd.c):=(z.get L.length V:aK _ _ _ _ _).bc;refine z.ap j mN (src:=⟨some (ae x.heap.size),4,4⟩) I k.2.2 k.1 qD (by simp only;omega) (λD Z N _ _=>?_);refine fin D Z _ j N ?_;rw[List.getElem?_set_self (by simp;have:=(bO.1 h).1;omega),y,cy]
  .rw [af C,dt]at y;rw[<-y]at h;exact fin l d L j e h
 refine aG (λB=>G.cR (n:=2) (sz:=9) (cs:=pw.flatMap Nd.c) rfl (by decide) λd e=>?_) (λB=>?_)
 .have k:bx 9 d ⟨some (ae E.heap.size),2,2⟩ (pw.flatMap Nd.c):=(e.get 1:aK _ _ _ _ _).bc;refine e.ap 0 mN (s:=⟨some (ae K.heap.size),4,4⟩) (src:=⟨some (ae E.heap.size),2,2⟩) rfl k.2.2 k.1 qD (by show(4+2) *96<=_;omega) (λD F A _ _=>?_);refine H D F _ 0 (pr++pw) A (by decide) ?_ ?_
  .unfold gp;rw[aj B]
  .rw [cy];rfl
 .refine H ⟨some (ae K.heap.size),4,4⟩ E _ 0 pr G (by decide) ?_ rfl;unfold gp;rw[af B,dt]
def TM(kind:Int)(s:bo)(w:J):ak aa KI #[.i kind,dO s] w λr h=>(∃b:Bool,r=ag (.bool b))/\ah w h:=
 HP.aD _ _ _ _ w _ ((bP [] (by simp)).aJ λb j e=>aL (λd=>⟨⟨_,rfl⟩,e.fr⟩) (λd=>aG (λd=>aL (λd=>⟨⟨_,rfl⟩,e.fr⟩) (λd=>⟨⟨_,rfl⟩,e.fr⟩)) (λd=>⟨⟨_,rfl⟩,e.fr⟩)))
def Gu{w:J}{s:Sl}{l:List Nd}(h:GP w s l)(H:∀(i:Nat) (d:Nd),l[i]? =some d->d.x.kids.length<=1000000/\∀q∈d.x.kids,0<=q/\q<(i:Int)):∀(n i:Nat),i<n->i<l.length->∀B,ah w B->ak aa KF #[s.v,.i (i:Int)] B λr E=>(∃z:Int,r=ag (.i z))/\ah w E
 |0,i,G,_,_,_=>absurd G (by omega)
 |n+1,i,G,D,B,M=>by
  have A:∀{e:J},ah w e->GP e s l:=λf=>⟨h.1.bw f,λd P=>(cX d).st w _ (λb Y S=>f.cb b S id) (h.2 d P)⟩;have y:l[i]? =some (l[i]'D):=a6 D;generalize l[i]'D=d at y;obtain⟨k1,W⟩:=H i d y;have loop:∀(m j:Nat) (z:Int) (e:J),j+m=d.x.kids.length->ah w e->sm.L0 s (i:Int) z (j:Int) e λr E=>(∃z:Int,r=ag (.i z))/\ah w E:=by
   intro m;induction m with
   |zero=>
    intro j z e Q k;have T:d.ks.n=d.x.kids.length:=bp.len ((A k).2 d (aE y));exact sm.bE _ _ _ _ _ _ (hM (A k) rfl y λp U c=>⟨_,c.c1,a1 (aV (by omega)) ⟨⟨_,rfl⟩,k⟩⟩)
   |succ m V=>
    intro j z e Q k;have F:bp e d.ks d.x.kids:=(A k).2 d (aE y);have T:=bp.len F;have C:d.x.kids[j]? =some (d.x.kids[j]'(by omega)):=a6 (by omega);generalize d.x.kids[j]'(by omega)=q at C;have Z:=W q (aE C);refine sm.bE _ _ _ _ _ _ (hM (A k) rfl y λp U c=>⟨_,c.c1,a3 (aP (by omega)) (hM (A k) rfl y λp' ab K=>⟨_,K.c1,by omega,by omega,F.cell C (by omega) λac hq O=>⟨q,O,?_⟩⟩)⟩);have L:q=((q.toNat:Nat):Int):=by omega
    rw[L];refine(Gu h H n q.toNat (by omega) (by omega) e k).mono ?_;rintro _ I ⟨⟨z3,rfl⟩,N⟩;refine⟨_,rfl,?_⟩;show sm.L0 s (i:Int) _ (ao .i64 ((j:Int)+1)) I _;rw[bd _ (by omega)];exact V (j+1) _ I (by omega) N
  exact sm.ok _ _ B _ (loop d.x.kids.length 0 1 B (by omega) M)
set_option maxHeartbeats 2000000
def aaz{P:Program}{n:Cx}{c:Code}{Q:Exit->Act->J->Prop}{E E':Env}{w:J}(h:∀t v,E'.get? t=some v->E.get? t=some v)(j:WP P n c Q E' w):WP P n c Q E w:=λa d=>j a ⟨d.defers,d.size,λt v e=>d.get t v (h t v e)⟩
def ZO{E:Env}{i j:Nat}{a b:ab}(k:E.get? i=some a)(q:E.get? j=some b):∀t v,Env.get? [(i,a),(j,b)] t=some v->E.get? t=some v:=by
 intro t v d;unfold Env.get? at d;cases e:bQ i t with
 |true=>
  rw[e]at d;have:=Nat.eq_of_beq_eq_true e;subst this;rw[k];exact d
 |false=>
  rw[e]at d;have d:Env.get? [(j,b)] t=some v:=d;unfold Env.get? at d;cases h:bQ j t with
  |true=>
   rw[h]at d;have:=Nat.eq_of_beq_eq_true h;subst this;rw[q];exact d
  |false=>rw[h]at d;cases d
namespace uW
abbrev T9(s:Sl)(k:Int)(w:J)(R:aH):Prop:=
 (0:Int)<=(bY (ao .i64 (bN k 216)) 8)/\(bY (ao .i64 (bN k 216)) 8)<((s.n:Nat):Int)/\dM s.a λp=>fM w (p.add (aZ (bY (ao .i64 (bN k 216)) 8) *4)) λa b c d=>xp vA #[.agg #[.i a,.int .u8 b,.int .u8 c,d.v]] w λe f g i h=>Gx o0 #[.agg #[.i e,.int .u8 f,.int .u8 g,i.v],.i 0] h λt j=>R (ag (.string t)) j
def K9(R:aH)(E:Env)(w:J):Prop:=∃(s:Sl) (k:Int),E.get? 9=some s.v/\E.get? 3=some (.i k)/\T9 s k w R
noncomputable def C0:Code:=(Tryz.f63.body).getD .skip
noncomputable def C1:=C0.sn
noncomputable def C2:=C1.sn
noncomputable def C3:=C2.sn
noncomputable def C4:=C3.sn
noncomputable def C5:=C4.sn
noncomputable def C6:=C5.sn
noncomputable def C7:=C6.sn
noncomputable def C8:=C7.sn
noncomputable def C9:=C8.sn
def ok(j:Int)(w:J)(R:aH)(h:qd sJ #[.i j,.i 1048576] w λt11 w1=>xp nT #[] w1 λB C D F e=>cZ e (.cells #[.i 2,.int .u8 97,.int .u8 97,.slice none 0 0,.i 2,.int .u8 98,.int .u8 98,.slice none 0 0,.i 2,.int .u8 0,.int .u8 0,.slice none 0 0,.i 2,.int .u8 97,.int .u8 98,.slice none 0 0,.i 1,.int .u8 0,.int .u8 0,.slice none 0 0,.i B,.int .u8 C,.int .u8 D,F.v] aN) λx=>
 (0:Int)<=(bY t11 6)/\(bY t11 6)<((6:Nat):Int)/\dM (some (nb e)) λG=>fM x (G.add (aZ (bY t11 6) *4)) λH I K L=>cZ x (.cells #[.i 0,.int .u8 0,.int .u8 0,.slice none 0 0] aN) λw4=>
 kJ w4 (nb x) (.i H) (.int .u8 I) (.int .u8 K) (L.v) λz=>(0:Int)<=(bY (ao .i64 (bN t11 6)) 6)/\(bY (ao .i64 (bN t11 6)) 6)<((6:Nat):Int)/\dM (some (nb e)) λM=>fM z (M.add (aZ (bY (ao .i64 (bN t11 6)) 6) *4)) λN O P Q=>cZ z (.cells #[.i 0,.int .u8 0,.int .u8 0,.slice none 0 0] aN) λw9=>
 kJ w9 (nb z) (.i N) (.int .u8 O) (.int .u8 P) (Q.v) λy=>(0:Int)<=(bY (ao .i64 (bN t11 36)) 6)/\(bY (ao .i64 (bN t11 36)) 6)<((6:Nat):Int)/\dM (some (nb e)) λS=>fM y (S.add (aZ (bY (ao .i64 (bN t11 36)) 6) *4)) λT U V W=>cZ y (.cells #[.i 0,.int .u8 0,.int .u8 0,.slice none 0 0] aN) λad=>
 kJ ad (nb y) (.i T) (.int .u8 U) (.int .u8 V) (W.v) λq=>fM q (nb x) λY Z ab ac=>cZ q (.cells #[.i Y,.int .u8 Z,.int .u8 ab,ac.v] aN) λA=>
 cZ A (.cells #[.i 0,.int .u8 0,.int .u8 0,.slice none 0 0] aN) λae=>
 kJ ae (nb A) (.i 7) (.int .u8 0) (.int .u8 0) (.slice (some (nb q)) 1 1) λaf=>wb aa C7 (K9 R) [(8,.pointer (some (nb A))),(38,.agg #[.i 7,.int .u8 0,.int .u8 0,.slice (some (nb q)) 1 1]),(37,.slice (some (nb q)) 1 1),(36,.agg #[.i Y,.int .u8 Z,.int .u8 ab,ac.v]),(7,.pointer (some (nb y))),(35,.agg #[.i T,.int .u8 U,.int .u8 V,W.v]),(34,.pointer (some (S.add (aZ (bY (ao .i64 (bN t11 36)) 6) *4)))),(33,.i (bY (ao .i64 (bN t11 36)) 6)),(32,.i (ao .i64 (bN t11 36))),(31,.i t11),(30,.slice (some (nb e)) 6 6),(6,.pointer (some (nb z))),(29,.agg #[.i N,.int .u8 O,.int .u8 P,Q.v]),(28,.pointer (some (M.add (aZ (bY (ao .i64 (bN t11 6)) 6) *4)))),(27,.i (bY (ao .i64 (bN t11 6)) 6)),(26,.i (ao .i64 (bN t11 6))),(25,.i t11),(24,.slice (some (nb e)) 6 6),(5,.pointer (some (nb x))),(23,.agg #[.i H,.int .u8 I,.int .u8 K,L.v]),(22,.pointer (some (G.add (aZ (bY t11 6) *4)))),(21,.i (bY t11 6)),(20,.i t11),(19,.slice (some (nb e)) 6 6),(4,.slice (some (nb e)) 6 6),(18,.slice (some (nb e)) 6 6),(17,.agg #[.i B,.int .u8 C,.int .u8 D,F.v]),(16,.agg #[.i 1,.int .u8 0,.int .u8 0,.slice none 0 0]),(15,.agg #[.i 2,.int .u8 97,.int .u8 98,.slice none 0 0]),(14,.agg #[.i 2,.int .u8 0,.int .u8 0,.slice none 0 0]),(13,.agg #[.i 2,.int .u8 98,.int .u8 98,.slice none 0 0]),(12,.agg #[.i 2,.int .u8 97,.int .u8 97,.slice none 0 0]),(3,.i t11),(11,.i t11),(10,.i j),(2,.s0),(0,.i j)] af):ak aa J5 #[.i j] w R:=
 uF (R:=R) (fn:=Tryz.f63) (c:=C0) (args:=[.i j]) (by kernel_rfl) (by kernel_rfl) (by kernel_rfl) (sr C0 (show(λ(E:Env) (w:J)=>dH aa C0 (λE w=>dH aa C1 (λE w=>dH aa C2 (λE w=>dH aa C3 (λE w=>dH aa C4 (λE w=>dH aa C5 (λE w=>dH aa C6 (λE w=>wb aa C7 (K9 R) E w) E w) E w) E w) E w) E w) E w) E w) (jT 0 [.i j]) w from mp h) λ_ _ d=>(sr C1 d λ_ _ d=>(sr C2 d λ_ _ d=>(sr C3 d λ_ _ d=>(sr C4 d λ_ _ d=>(sr C5 d λ_ _ d=>(sr C6 d λ_ _ d=>(si C7 (by kernel_rfl) d λ_ _ d=>(let ⟨s,k,h9,h3,h⟩:=d;aaz (E':=[(9,s.v),(3,.i k)]) (ZO h9 h3) (sr C8 (show dH aa C8 (λE w=>kG aa Tryz.f63 E w (λv=>R (ag v) w)) [(9,s.v),(3,.i k)] _ from mp h) λ_ _ d=>(rt C9 λa hA=>vZ hA d)))))))))))
end uW
inductive uo where
 |tr (x:Rx)
 |ls (l:List Rx)
def vn(base:Nat)(w:J)(v:Option ab):uo->Prop
 |.tr d=>∃t:I,v=some t.v/\t.rx=d/\t.P w/\∀b∈t.fp,base<=b
 |.ls l=>∃(s:Sl) (O:List I),v=some s.v/\I.au O=l/\(bI s O).P w/\∀b∈(bI s O).fp,base<=b
def vn.bw{base:Nat}{w Y:J}{v:Option ab}{q:uo}(h:vn base w v q)(f:ah w Y):vn base Y v q:=by
 cases q with
 |tr y=>obtain⟨t,d,e,j,k⟩:=h;exact⟨t,d,e,j.bw f,k⟩
 |ls l=>obtain⟨s,x,d,e,j,k⟩:=h;exact⟨s,x,d,e,j.bw f,k⟩
def dp(i:Nat):Nat:=if i=40 then 9 else 39+i
def jh(base:Nat)(w:J)(E:Env)(t:Nat)(x:Rx):Prop:=∃(b:Nat) (u:I),E.get? t=some (.pointer (some (ae b)))/\w.heap[b]? =some (.cells u.c.toArray aN (0,0))/\u.rx=x/\u.P w/\∀c∈u.fp,base<=c
def jh.bw{base:Nat}{w Y:J}{E:Env}{t:Nat}{x:Rx}(h:jh base w E t x)(f:ah w Y):jh base Y E t x:=by obtain⟨b,u,e,d,j,k,q⟩:=h;exact⟨b,u,e,(f.cb b (lt_of_heap d) id).trans d,j,k.bw f,q⟩
def jh.put{base:Nat}{w:J}{E:Env}{t d:Nat}{v:ab}{x:Rx}(h:jh base w E t x)(k:d≠t):jh base w (E.put (some d) v) t x:=by obtain⟨b,u,e,j⟩:=h;exact⟨b,u,by rw[hf k];exact e,j⟩
section
variable (w0:J) (base:Nat) (kk:Int) (Xa Xb Xc Xs:Rx)
def dG:List uo:=[.tr Xa,
 .tr Xa,
 .tr Xb,
 .ls [Xa,Xb],
 .tr (.mk 3 0 0 [Xa,Xb]),
 .tr Xa,
 .tr Xb,
 .tr Xc,
 .ls [Xa,Xb,Xc],
 .tr (.mk 4 0 0 [Xa,Xb,Xc]),
 .tr Xs,
 .tr Xs,
 .tr Xb,
 .ls [Xs,Xb],
 .tr (.mk 3 0 0 [Xs,Xb]),
 .tr Xa,
 .tr Xb,
 .ls [Xa,Xb],
 .tr (.mk 3 0 0 [Xa,Xb]),
 .ls [(.mk 3 0 0 [Xa,Xb])],
 .tr (.mk 6 0 0 [(.mk 3 0 0 [Xa,Xb])]),
 .tr Xb,
 .tr Xa,
 .tr Xc,
 .ls [Xa,Xc],
 .tr (.mk 4 0 0 [Xa,Xc]),
 .ls [(.mk 4 0 0 [Xa,Xc])],
 .tr (.mk 7 0 0 [(.mk 4 0 0 [Xa,Xc])]),
 .ls [Xb,(.mk 7 0 0 [(.mk 4 0 0 [Xa,Xc])])],
 .tr (.mk 3 0 0 [Xb,(.mk 7 0 0 [(.mk 4 0 0 [Xa,Xc])])]),
 .tr Xb,
 .ls [Xb],
 .tr (.mk 6 0 0 [Xb]),
 .tr Xa,
 .tr eD,
 .ls [Xa,eD],
 .tr (.mk 3 0 0 [Xa,eD]),
 .ls [(.mk 6 0 0 [Xb]),(.mk 3 0 0 [Xa,eD])],
 .tr (.mk 5 0 0 [(.mk 6 0 0 [Xb]),(.mk 3 0 0 [Xa,eD])]),
 .ls [Xa,(.mk 3 0 0 [Xa,Xb]),(.mk 4 0 0 [Xa,Xb,Xc]),Xs,(.mk 3 0 0 [Xs,Xb]),(.mk 6 0 0 [(.mk 3 0 0 [Xa,Xb])]),(.mk 3 0 0 [Xb,(.mk 7 0 0 [(.mk 4 0 0 [Xa,Xc])])]),(.mk 5 0 0 [(.mk 6 0 0 [Xb]),(.mk 3 0 0 [Xa,eD])])],
 .ls [Xa,(.mk 3 0 0 [Xa,Xb]),(.mk 4 0 0 [Xa,Xb,Xc]),Xs,(.mk 3 0 0 [Xs,Xb]),(.mk 6 0 0 [(.mk 3 0 0 [Xa,Xb])]),(.mk 3 0 0 [Xb,(.mk 7 0 0 [(.mk 4 0 0 [Xa,Xc])])]),(.mk 5 0 0 [(.mk 6 0 0 [Xb]),(.mk 3 0 0 [Xa,eD])])]]
structure JT(L:Nat->Bool)(E:Env)(w:J):Prop where
 fr:ah w0 w
 k:E.get? 3=some (.i kk)
 a:jh base w E 5 Xa
 b:jh base w E 6 Xb
 c:jh base w E 7 Xc
 s:jh base w E 8 Xs
 all:∀(i:Nat) (sp:uo),(dG Xa Xb Xc Xs)[i]? =some sp->L i=true->vn base w (E.get? (dp i)) sp
variable {w0 base kk Xa Xb Xc Xs}
def JT.step{L:Nat->Bool}{E:Env}{w Y:J}(e:JT w0 base kk Xa Xb Xc Xs L E w)(f:ah w Y){i d:Nat}(x:d=dp i){v:ab}{A:uo}(z:(dG Xa Xb Xc Xs)[i]? =some A)(h:vn base Y (some v) A):JT w0 base kk Xa Xb Xc Xs (cP L i) (E.put (some d) v) Y:=by
 have G:9<=d:=by rw[x];unfold dp;split<;>omega
 refine⟨e.fr.dD f,by rw[hf (by omega)];exact e.k,(e.a.bw f).put (by omega),(e.b.bw f).put (by omega),(e.c.bw f).put (by omega),(e.s.bw f).put (by omega),λj sq q B=>?_⟩;by_cases y:j=i
 .subst y;rw[z]at q;cases q;rw[<-x,nM];exact h
 .have C:d≠dp j:=by rw[x];have D:i<41:=(bO.1 z).1;have F:j<41:=(bO.1 q).1;unfold dp;split<;>split<;>omega
  rw[hf C];refine(e.all j sq q ?_).bw f;have:bQ j i=false:=by rw[<-iN,Nat.beq_eq];exact y
  simpa[cP,this]using B
abbrev ix(w0:J)(base:Nat)(kk:Int)(Xa Xb Xc Xs:Rx)(i:Nat)(r:Op×Option Nat×aC×List Nat):Prop:=uk aa (JT w0 base kk Xa Xb Xc Xs) i r
def V5{b:Nat}{u:I}{w:J}(d:w.heap[b]? =some (.cells u.c.toArray aN (0,0))){K:ab->Prop}(C:K u.v):l6 aa aN (ae b) w λv _=>K v:=by
 have x:=cellAt (p:=ae b) (i:=0) (v:=.int .i64 u.k) d rfl rfl;have y:=cellAt (p:=ae b) (i:=1) (v:=.int .u8 (u.lo.toNat:Int)) d rfl rfl;have z:=cellAt (p:=ae b) (i:=2) (v:=.int .u8 (u.U.toNat:Int)) d rfl rfl;have A:=cellAt (p:=ae b) (i:=3) (v:=u.s.v) d rfl rfl;have B:(l6 aa aN (ae b) w λv _=>K v)=(∃e:Int,∃h:Int,∃j:Int,∃q:Sl,w.cell? ((ae b).add 0)=some (.int .i64 e)/\w.cell? ((ae b).add 1)=some (.int .u8 h)/\w.cell? ((ae b).add 2)=some (.int .u8 j)/\w.cell? ((ae b).add 3)=some q.v/\K (.agg #[.int .i64 e,.int .u8 h,.int .u8 j,q.v])):=by kernel_rfl
 rw[B];exact⟨_,_,_,u.s,x,y,z,A,C⟩
def y3{ty:aC}{ds:List Nat}{t:Nat}{x:Rx}(i d:Nat)(B:d=dp i)(E:(dG Xa Xb Xc Xs)[i]? =some (.tr x))(F:∀j e h,JT w0 base kk Xa Xb Xc Xs j e h->jh base h e t x):ix w0 base kk Xa Xb Xc Xs i (.load aN (.tmp t),some d,ty,ds):=by intro j e h o D C I H G k;obtain⟨b,u,q,w,y,z,A⟩:=F j e h k;refine po D q (V5 w ?_);rw[C];exact k.step (Fr.refl _ _) B E ⟨u,rfl,y,z,A⟩
def tg{ty:aC}{ds:List Nat}(i d:Nat)(j:(dG Xa Xb Xc Xs)[i]? =some (.tr Xa))(h:d=dp i:=by rfl):ix w0 base kk Xa Xb Xc Xs i (.load aN (.tmp 5),some d,ty,ds):=y3 i d h j λ_ _ _ e=>e.a
def th{ty:aC}{ds:List Nat}(i d:Nat)(j:(dG Xa Xb Xc Xs)[i]? =some (.tr Xb))(h:d=dp i:=by rfl):ix w0 base kk Xa Xb Xc Xs i (.load aN (.tmp 6),some d,ty,ds):=y3 i d h j λ_ _ _ e=>e.b
def OH{ty:aC}{ds:List Nat}(i d:Nat)(j:(dG Xa Xb Xc Xs)[i]? =some (.tr Xc))(h:d=dp i:=by rfl):ix w0 base kk Xa Xb Xc Xs i (.load aN (.tmp 7),some d,ty,ds):=y3 i d h j λ_ _ _ e=>e.c
def OI{ty:aC}{ds:List Nat}(i d:Nat)(j:(dG Xa Xb Xc Xs)[i]? =some (.tr Xs))(h:d=dp i:=by rfl):ix w0 base kk Xa Xb Xc Xs i (.load aN (.tmp 8),some d,ty,ds):=y3 i d h j λ_ _ _ e=>e.s
def YT(a:I)(w:J):(Instr.buildSlice dk 1 #[((0:Nat),a.v)]).run aa w=.ok (.slice (some (ae w.heap.size)) 1 1) (w.alloc (.cells ([a].flatMap I.c).toArray aN)):=by kernel_rfl
def YU(a b:I)(w:J):(Instr.buildSlice dk 2 #[((0:Nat),a.v),(1,b.v)]).run aa w=.ok (.slice (some (ae w.heap.size)) 2 2) (w.alloc (.cells ([a,b].flatMap I.c).toArray aN)):=by kernel_rfl
def YV(a b c:I)(w:J):(Instr.buildSlice dk 3 #[((0:Nat),a.v),(1,b.v),(2,c.v)]).run aa w=.ok (.slice (some (ae w.heap.size)) 3 3) (w.alloc (.cells ([a,b,c].flatMap I.c).toArray aN)):=by kernel_rfl
def YW(a b c d e g r s:I)(w:J):(Instr.buildSlice dk 8 #[((0:Nat),a.v),(1,b.v),(2,c.v),(3,d.v),(4,e.v),(5,g.v),(6,r.v),(7,s.v)]).run aa w=.ok (.slice (some (ae w.heap.size)) 8 8) (w.alloc (.cells ([a,b,c,d,e,g,r,s].flatMap I.c).toArray aN)):=by kernel_rfl
def zf{o:Oper}{T:aC}{n:Nat}{parts:Array (Nat×Operand)}{E:Env}{w Y:J}{v:ab}{K:Env->J->Prop}(d:o.op=.buildSlice T n parts)(e:E.dQ o=true)(k:(Instr.buildSlice T n (parts.map λp=>(p.1,E.ev p.2))).run aa w=.ok v Y)(h:K (E.put o.dst v) Y):gq aa o E w K:=by
 obtain⟨dst,op,q,pos,after,guard⟩:=o;simp only at d;subst d;have j:oM aa ⟨dst,.buildSlice T n parts,q,pos,after,guard⟩ E w (λv Y=>K (E.put dst v) Y):=by unfold oM;rw[e];show cE true _;simp only[execOp];rw[show(λ(x:Nat×Operand)=>match x with |(i,x)=>(i,E.ev x))=λp=>(p.1,E.ev p.2)from rfl];simp[k];exact h
 unfold gq;simp only[calm,cond_false];unfold gY;exact j
def jn{E:Env}{t:Nat}{v:ab}(h:E.get? t=some v):E.ev (.tmp t)=v:=by simp[Env.ev,Env.val,h]
def x9{w:J}{O:List I}{n:Nat}(q:n=O.length)(z:n<=1000)(x:I.Ps w O)(k:∀b∈I.a9 O,base<=b)(h:base<=w.heap.size):
  (bI ⟨some (ae w.heap.size),n,n⟩ O).P (w.alloc (.cells (O.flatMap I.c).toArray aN))/\∀b∈(bI ⟨some (ae w.heap.size),n,n⟩ O).fp,base<=b:=by
 have y:=aK.made w aN 4 n (O.flatMap I.c) (by rw[I.eW,q]) (by unfold maxLen;omega);refine⟨dw.2 ⟨y.bc,x.bw (Fr.alloc _ _ _)⟩,λb j=>?_⟩;rcases lk.1 j with d|d
 .exact ta (λc e=>by simp only[aw,av,aR,aT]at e;rw[e];exact h) b d
 .exact k b d
def JT.uA{L:Nat->Bool}{E:Env}{w:J}(d:JT w0 base kk Xa Xb Xc Xs L E w)(e:base<=w0.heap.size):base<=w.heap.size:=a8 e d.fr.size
section
variable (vj:base<=w0.heap.size)
include vj
def D3{ty:aC}{ds:List Nat}(i d e:Nat){x:Nat}{z:Rx}(L:(dG Xa Xb Xc Xs)[i]? =some (.ls [z]))(F:(dG Xa Xb Xc Xs)[e]? =some (.tr z))(M:e∈ds)(G:d=dp i:=by rfl)(E:x=dp e:=by rfl):ix w0 base kk Xa Xb Xc Xs i (.buildSlice dk 1 #[(0,.tmp x)],some d,ty,ds):=by
 intro N A h o q K Q P H j;obtain⟨a,k,B,C,D⟩:=j.all e _ F (H e M);rw[<-E]at k;have y:=x9 (base:=base) (w:=h) (O:=[a]) (n:=1) rfl (by omega) (I.ib (by simp[C])) (by simp[I.a9];exact D) (j.uA vj);refine zf (Y:=h.alloc (.cells ([a].flatMap I.c).toArray aN)) (v:=.slice (some (ae h.heap.size)) 1 1) q (by obtain⟨_,op,_,_,_,_⟩:=o;simp only at q;subst q;simp[Env.dQ,Op.operands,Env.val,k]) ?_ ?_
 .rw [show(#[((0:Nat),Operand.tmp x)].map λp=>(p.1,A.ev p.2))=#[((0:Nat),a.v)]by simp[jn k]];exact YT a h
 .rw [K];exact j.step (Fr.alloc _ _ _) G L ⟨⟨some (ae h.heap.size),1,1⟩,[a],rfl,by simp[I.au,B],y.1,y.2⟩
def qT{ty:aC}{ds:List Nat}(i d e h:Nat){z A:Nat}{D E:Rx}(Z:(dG Xa Xb Xc Xs)[i]? =some (.ls [D,E]))(S:(dG Xa Xb Xc Xs)[e]? =some (.tr D))(T:(dG Xa Xb Xc Xs)[h]? =some (.tr E))(m0:e∈ds)(m1:h∈ds)(V:d=dp i:=by rfl)(P:z=dp e:=by rfl)(Q:A=dp h:=by rfl):ix w0 base kk Xa Xb Xc Xs i (.buildSlice dk 2 #[(0,.tmp z),(1,.tmp A)],some d,ty,ds):=by
 intro aa F j o y W ht hi B k;obtain⟨a,q,G,H,K⟩:=k.all e _ S (B e m0);obtain⟨b,x,L,M,N⟩:=k.all h _ T (B h m1);rw[<-P]at q;rw[<-Q]at x;have C:=x9 (base:=base) (w:=j) (O:=[a,b]) (n:=2) rfl (by omega) (I.ib (by simp[H,M])) (by simp[I.a9];exact λc U=>U.elim (K c) (N c)) (k.uA vj);refine zf (Y:=j.alloc (.cells ([a,b].flatMap I.c).toArray aN)) (v:=.slice (some (ae j.heap.size)) 2 2) y (by obtain⟨_,op,_,_,_,_⟩:=o;simp only at y;subst y;simp[Env.dQ,Op.operands,Env.val,q,x]) ?_ ?_
 .rw [show(#[((0:Nat),Operand.tmp z),(1,.tmp A)].map λp=>(p.1,F.ev p.2))=#[((0:Nat),a.v),(1,b.v)]by simp[jn q,jn x]];exact YU a b j
 .rw [W];exact k.step (Fr.alloc _ _ _) V Z ⟨⟨some (ae j.heap.size),2,2⟩,[a,b],rfl,by simp[I.au,G,L],C.1,C.2⟩
def YM{ty:aC}{ds:List Nat}(i d h j k:Nat){D E t2:Nat}{H K L:Rx}(hs:(dG Xa Xb Xc Xs)[i]? =some (.ls [H,K,L]))(h0:(dG Xa Xb Xc Xs)[h]? =some (.tr H))(h1:(dG Xa Xb Xc Xs)[j]? =some (.tr K))(h2:(dG Xa Xb Xc Xs)[k]? =some (.tr L))(m0:h∈ds)(m1:j∈ds)(m2:k∈ds)(hd:d=dp i:=by rfl)(e0:D=dp h:=by rfl)(e1:E=dp j:=by rfl)(e2:t2=dp k:=by rfl):ix w0 base kk Xa Xb Xc Xs i (.buildSlice dk 3 #[(0,.tmp D),(1,.tmp E),(2,.tmp t2)],some d,ty,ds):=by
 intro ab M q o B aa ht hi A e;obtain⟨a,x,N,P,Q⟩:=e.all h _ h0 (A h m0);obtain⟨b,y,S,T,U⟩:=e.all j _ h1 (A j m1);obtain⟨c,z,V,W,Z⟩:=e.all k _ h2 (A k m2);rw[<-e0]at x;rw[<-e1]at y;rw[<-e2]at z;have G:=x9 (base:=base) (w:=q) (O:=[a,b,c]) (n:=3) rfl (by omega) (I.ib (by simp[P,T,W])) (by simp[I.a9];exact λF C=>C.elim (Q F) (λC=>C.elim (U F) (Z F))) (e.uA vj);refine zf (Y:=q.alloc (.cells ([a,b,c].flatMap I.c).toArray aN)) (v:=.slice (some (ae q.heap.size)) 3 3) B (by obtain⟨_,op,_,_,_,_⟩:=o;simp only at B;subst B;simp[Env.dQ,Op.operands,Env.val,x,y,z]) ?_ ?_
 .rw [show(#[((0:Nat),Operand.tmp D),(1,.tmp E),(2,.tmp t2)].map λp=>(p.1,M.ev p.2))=#[((0:Nat),a.v),(1,b.v),(2,c.v)]by simp[jn x,jn y,jn z]];exact YV a b c q
 .rw [aa];exact e.step (Fr.alloc _ _ _) hd hs ⟨⟨some (ae q.heap.size),3,3⟩,[a,b,c],rfl,by simp[I.au,N,S,V],G.1,G.2⟩
def YN{ty:aC}{ds:List Nat}(i d x y z A B C D E:Nat){V W t2 t3 t4 Z t6 t7:Nat}{x0 x1 x2 x3 x4 x5 x6 x7:Rx}(hs:(dG Xa Xb Xc Xs)[i]? =some (.ls [x0,x1,x2,x3,x4,x5,x6,x7]))(h0:(dG Xa Xb Xc Xs)[x]? =some (.tr x0))(h1:(dG Xa Xb Xc Xs)[y]? =some (.tr x1))(h2:(dG Xa Xb Xc Xs)[z]? =some (.tr x2))(h3:(dG Xa Xb Xc Xs)[A]? =some (.tr x3))(h4:(dG Xa Xb Xc Xs)[B]? =some (.tr x4))(h5:(dG Xa Xb Xc Xs)[C]? =some (.tr x5))(h6:(dG Xa Xb Xc Xs)[D]? =some (.tr x6))(h7:(dG Xa Xb Xc Xs)[E]? =some (.tr x7))(m0:x∈ds)(m1:y∈ds)(m2:z∈ds)(m3:A∈ds)(m4:B∈ds)(m5:C∈ds)(m6:D∈ds)(m7:E∈ds)(hd:d=dp i:=by rfl)(e0:V=dp x:=by rfl)(e1:W=dp y:=by rfl)(e2:t2=dp z:=by rfl)(e3:t3=dp A:=by rfl)(e4:t4=dp B:=by rfl)(e5:Z=dp C:=by rfl)(e6:t6=dp D:=by rfl)(e7:t7=dp E:=by rfl):
  ix w0 base kk Xa Xb Xc Xs i (.buildSlice dk 8 #[(0,.tmp V),(1,.tmp W),(2,.tmp t2),(3,.tmp t3),(4,.tmp t4),(5,.tmp Z),(6,.tmp t6),(7,.tmp t7)],some d,ty,ds):=by
 intro ac aa G o P ab Q hi h e;obtain⟨a,H,a2,a3,a4⟩:=e.all x _ h0 (h x m0);obtain⟨b,K,b2,b3,b4⟩:=e.all y _ h1 (h y m1);obtain⟨c,L,c2,c3,c4⟩:=e.all z _ h2 (h z m2);obtain⟨F,S,q2,q3,q4⟩:=e.all A _ h3 (h A m3);obtain⟨q,M,f2,f3,f4⟩:=e.all B _ h4 (h B m4);obtain⟨g,N,g2,g3,g4⟩:=e.all C _ h5 (h C m5);obtain⟨r,T,r2,r3,r4⟩:=e.all D _ h6 (h D m6);obtain⟨s,U,s2,s3,s4⟩:=e.all E _ h7 (h E m7);rw[<-e0]at H;rw[<-e1]at K;rw[<-e2]at L;rw[<-e3]at S;rw[<-e4]at M;rw[<-e5]at N;rw[<-e6]at T;rw[<-e7]at U;have hm:=x9 (base:=base) (w:=G) (O:=[a,b,c,F,q,g,r,s]) (n:=8) rfl (by omega) (I.ib (by simp[a3,b3,c3,q3,f3,g3,r3,s3])) (by
  intro k hz;obtain⟨t,Q,j⟩:=I.bM.1 hz;clear hz;simp only[av,aR,aT]at Q;rcases Q with rfl|rfl|rfl|rfl|rfl|rfl|rfl|rfl
  .exact a4 k j
  .exact b4 k j
  .exact c4 k j
  .exact q4 k j
  .exact f4 k j
  .exact g4 k j
  .exact r4 k j
  .exact s4 k j) (e.uA vj)
 refine zf (Y:=G.alloc (.cells ([a,b,c,F,q,g,r,s].flatMap I.c).toArray aN)) (v:=.slice (some (ae G.heap.size)) 8 8) P (by obtain⟨_,op,_,_,_,_⟩:=o;simp only at P;subst P;simp[Env.dQ,Op.operands,Env.val,H,K,L,S,M,N,T,U]) ?_ ?_
 .rw [show(#[((0:Nat),Operand.tmp V),(1,.tmp W),(2,.tmp t2),(3,.tmp t3),(4,.tmp t4),(5,.tmp Z),(6,.tmp t6),(7,.tmp t7)].map λp=>(p.1,aa.ev p.2))=#[((0:Nat),a.v),(1,b.v),(2,c.v),(3,F.v),(4,q.v),(5,g.v),(6,r.v),(7,s.v)]by simp[jn H,jn K,jn L,jn S,jn M,jn N,jn T,jn U]];exact YW a b c F q g r s G
 .rw [ab];exact e.step (Fr.alloc _ _ _) hd hs ⟨⟨some (ae G.heap.size),8,8⟩,[a,b,c,F,q,g,r,s],rfl,by simp[I.au,a2,b2,c2,q2,f2,g2,r2,s2],hm.1,hm.2⟩
end
def Zt{o:Oper}{k:Int}{t:Nat}{s:Sl}{E:Env}{w:J}{K:Env->J->Prop}(B:k=3\/k=4\/k=5\/k=6\/k=7)(j:o.op=.build aN #[(0,.const (.int .i64 k)),(3,.tmp t)])(q:E.get? t=some s.v)(h:K (E.put o.dst (.agg #[.i k,.int .u8 0,.int .u8 0,s.v])) w):gq aa o E w K:=by
 obtain⟨dst,op,d,pos,after,guard⟩:=o;simp only at j;subst j;show fP aa _ E (λv _=>K (E.put dst v) w);have A:E.dQ ⟨dst,.build aN #[(0,.const (.int .i64 k)),(3,.tmp t)],d,pos,after,guard⟩=true:=by simp[Env.dQ,Op.operands,Env.val,q]
 unfold fP;rw[A];have x:execOp E.ev ⟨dst,.build aN #[(0,.const (.int .i64 k)),(3,.tmp t)],d,pos,after,guard⟩=execOp (λe=>match e with |.const v=>v|_=>s.v) ⟨dst,.build aN #[(0,.const (.int .i64 k)),(3,.tmp t)],d,pos,after,guard⟩:=by
  have:E.ev (.tmp t)=s.v:=jn q;have z:E.ev (.const (.int .i64 k))=.int .i64 k:=by simp[Env.ev,Env.val]
  simp only[execOp,List.map_toArray,lq,List.map_nil,this,z]
 rw[x];have y:o5 aa (execOp (λe=>match e with |.const v=>v|_=>s.v) ⟨dst,.build aN #[(0,.const (.int .i64 k)),(3,.tmp t)],d,pos,after,guard⟩)=some (.value (.agg #[.i k,.int .u8 0,.int .u8 0,s.v])):=by kernel_rfl
 rw[y];exact h
def v3{ty:aC}{ds:List Nat}(k:Int)(E:k=3\/k=4\/k=5\/k=6\/k=7)(i d j:Nat){t:Nat}{l:List Rx}(G:(dG Xa Xb Xc Xs)[i]? =some (.tr (.mk k 0 0 l)))(A:(dG Xa Xb Xc Xs)[j]? =some (.ls l))(m:j∈ds)(B:d=dp i)(z:t=dp j):ix w0 base kk Xa Xb Xc Xs i (.build aN #[(0,.const (.int .i64 k)),(3,.tmp t)],some d,ty,ds):=by
 intro L K O o F D N M C e;obtain⟨s,H,h,w,x,y⟩:=e.all j _ A (C j m);rw[<-z]at h;refine Zt E F h ?_;rw[D];refine e.step (Fr.refl _ _) B G ⟨.mk k 0 0 s H,rfl,by rw[<-w];rfl,?_,λb q=>y b ?_⟩
 .have:=dw.1 x;unfold I.P;exact this
 .unfold I.fp at q;unfold bI I.fp;exact q
def v5{ty:aC}{ds:List Nat}(i d j:Nat){t:Nat}{l:List Rx}(q:(dG Xa Xb Xc Xs)[i]? =some (.tr (.mk 3 0 0 l)))(h:(dG Xa Xb Xc Xs)[j]? =some (.ls l))(m:j∈ds)(k:d=dp i:=by rfl)(e:t=dp j:=by rfl):ix w0 base kk Xa Xb Xc Xs i (.build aN #[(0,.const (.int .i64 3)),(3,.tmp t)],some d,ty,ds):=v3 3 (by omega) i d j q h m k e
def OF{ty:aC}{ds:List Nat}(i d j:Nat){t:Nat}{l:List Rx}(q:(dG Xa Xb Xc Xs)[i]? =some (.tr (.mk 4 0 0 l)))(h:(dG Xa Xb Xc Xs)[j]? =some (.ls l))(m:j∈ds)(k:d=dp i:=by rfl)(e:t=dp j:=by rfl):ix w0 base kk Xa Xb Xc Xs i (.build aN #[(0,.const (.int .i64 4)),(3,.tmp t)],some d,ty,ds):=v3 4 (by omega) i d j q h m k e
def YK{ty:aC}{ds:List Nat}(i d j:Nat){t:Nat}{l:List Rx}(q:(dG Xa Xb Xc Xs)[i]? =some (.tr (.mk 5 0 0 l)))(h:(dG Xa Xb Xc Xs)[j]? =some (.ls l))(m:j∈ds)(k:d=dp i:=by rfl)(e:t=dp j:=by rfl):ix w0 base kk Xa Xb Xc Xs i (.build aN #[(0,.const (.int .i64 5)),(3,.tmp t)],some d,ty,ds):=v3 5 (by omega) i d j q h m k e
def OG{ty:aC}{ds:List Nat}(i d j:Nat){t:Nat}{l:List Rx}(q:(dG Xa Xb Xc Xs)[i]? =some (.tr (.mk 6 0 0 l)))(h:(dG Xa Xb Xc Xs)[j]? =some (.ls l))(m:j∈ds)(k:d=dp i:=by rfl)(e:t=dp j:=by rfl):ix w0 base kk Xa Xb Xc Xs i (.build aN #[(0,.const (.int .i64 6)),(3,.tmp t)],some d,ty,ds):=v3 6 (by omega) i d j q h m k e
def YL{ty:aC}{ds:List Nat}(i d j:Nat){t:Nat}{l:List Rx}(q:(dG Xa Xb Xc Xs)[i]? =some (.tr (.mk 7 0 0 l)))(h:(dG Xa Xb Xc Xs)[j]? =some (.ls l))(m:j∈ds)(k:d=dp i:=by rfl)(e:t=dp j:=by rfl):ix w0 base kk Xa Xb Xc Xs i (.build aN #[(0,.const (.int .i64 7)),(3,.tmp t)],some d,ty,ds):=v3 7 (by omega) i d j q h m k e
def YP{ty:aC}{ds:List Nat}(i d j:Nat){t:Nat}{l:List Rx}(D:(dG Xa Xb Xc Xs)[i]? =some (.ls l))(y:(dG Xa Xb Xc Xs)[j]? =some (.ls l))(m:j∈ds)(z:d=dp i:=by rfl)(x:t=dp j:=by rfl):ix w0 base kk Xa Xb Xc Xs i (.assign (.tmp t),some d,ty,ds):=by intro G F K o C B I H A e;obtain⟨s,E,h,k,q,w⟩:=e.all j _ y (A j m);rw[<-x]at h;refine mh (.inr C) h ?_;rw[B];exact e.step (Fr.refl _ _) z D ⟨s,E,rfl,k,q,w⟩
def YO{ds:List Nat}(K:base<=w0.heap.size)(i d:Nat)(P:(dG Xa Xb Xc Xs)[i]? =some (.tr eD))(O:d=dp i:=by rfl):ix w0 base kk Xa Xb Xc Xs i (.call ⟨.value (.func nT),#[],#[]⟩,some d,aN,ds):=by
 intro j e D o x w y S Q q;obtain⟨dst,op,T,pos,after,guard⟩:=o;simp only at x w y;subst x;subst w;subst y;have L:e.dQ ⟨some d,.call ⟨.value (.func nT),#[],#[]⟩,aN,pos,after,guard⟩=true:=by simp[Env.dQ,Op.operands,Call.operands,Env.val]
 have M:gW aa nT=true:=by kernel_rfl
 have N:calm aa ⟨some d,.call ⟨.value (.func nT),#[],#[]⟩,aN,pos,after,guard⟩=false:=rfl;unfold gq;rw[N,cond_false];unfold gY;dsimp only;rw[L,M];simp only[List.map_toArray,List.map_nil,cond_true];refine(show oI aa nT #[] (zeroOf aa aN) D (λv h=>JT w0 base kk Xa Xb Xc Xs (cP j i) (e.put (some d) v) h)from ?_);refine(AO D).mono ?_;rintro _ h ⟨⟨t,rfl,F,G,H⟩,f⟩;have E:mS (zeroOf aa aN) (λv=>Ending.returned t.v=ag v/\JT w0 base kk Xa Xb Xc Xs (cP j i) (e.put (some d) v) h)=∃z:Int,∃A:Int,∃B:Int,∃C:Sl,Ending.returned t.v=ag (.agg #[.int .i64 z,.int .u8 A,.int .u8 B,C.v])/\JT w0 base kk Xa Xb Xc Xs (cP j i) (e.put (some d) (.agg #[.int .i64 z,.int .u8 A,.int .u8 B,C.v])) h:=by kernel_rfl
 rw[E];exact⟨t.k,t.lo.toNat,t.U.toNat,t.s,rfl,q.step f O P ⟨t,rfl,F,G,λb I=>a8 (q.uA K) (H b I)⟩⟩
def PZ:List (Op×Option Nat×aC×List Nat):=[(.load aN (.tmp 5),some 39,aN,[]),
 (.load aN (.tmp 5),some 40,aN,[]),
 (.load aN (.tmp 6),some 41,aN,[]),
 (.buildSlice dk 2 #[(0,.tmp 40),(1,.tmp 41)],some 42,dk,[1,2]),
 (.build aN #[(0,.const (.int .i64 3)),(3,.tmp 42)],some 43,aN,[3]),
 (.load aN (.tmp 5),some 44,aN,[]),
 (.load aN (.tmp 6),some 45,aN,[]),
 (.load aN (.tmp 7),some 46,aN,[]),
 (.buildSlice dk 3 #[(0,.tmp 44),(1,.tmp 45),(2,.tmp 46)],some 47,dk,[5,6,7]),
 (.build aN #[(0,.const (.int .i64 4)),(3,.tmp 47)],some 48,aN,[8]),
 (.load aN (.tmp 8),some 49,aN,[]),
 (.load aN (.tmp 8),some 50,aN,[]),
 (.load aN (.tmp 6),some 51,aN,[]),
 (.buildSlice dk 2 #[(0,.tmp 50),(1,.tmp 51)],some 52,dk,[11,12]),
 (.build aN #[(0,.const (.int .i64 3)),(3,.tmp 52)],some 53,aN,[13]),
 (.load aN (.tmp 5),some 54,aN,[]),
 (.load aN (.tmp 6),some 55,aN,[]),
 (.buildSlice dk 2 #[(0,.tmp 54),(1,.tmp 55)],some 56,dk,[15,16]),
 (.build aN #[(0,.const (.int .i64 3)),(3,.tmp 56)],some 57,aN,[17]),
 (.buildSlice dk 1 #[(0,.tmp 57)],some 58,dk,[18]),
 (.build aN #[(0,.const (.int .i64 6)),(3,.tmp 58)],some 59,aN,[19]),
 (.load aN (.tmp 6),some 60,aN,[]),
 (.load aN (.tmp 5),some 61,aN,[]),
 (.load aN (.tmp 7),some 62,aN,[]),
 (.buildSlice dk 2 #[(0,.tmp 61),(1,.tmp 62)],some 63,dk,[22,23]),
 (.build aN #[(0,.const (.int .i64 4)),(3,.tmp 63)],some 64,aN,[24]),
 (.buildSlice dk 1 #[(0,.tmp 64)],some 65,dk,[25]),
 (.build aN #[(0,.const (.int .i64 7)),(3,.tmp 65)],some 66,aN,[26]),
 (.buildSlice dk 2 #[(0,.tmp 60),(1,.tmp 66)],some 67,dk,[21,27]),
 (.build aN #[(0,.const (.int .i64 3)),(3,.tmp 67)],some 68,aN,[28]),
 (.load aN (.tmp 6),some 69,aN,[]),
 (.buildSlice dk 1 #[(0,.tmp 69)],some 70,dk,[30]),
 (.build aN #[(0,.const (.int .i64 6)),(3,.tmp 70)],some 71,aN,[31]),
 (.load aN (.tmp 5),some 72,aN,[]),
 (.call ⟨.value (.func nT),#[],#[]⟩,some 73,aN,[]),
 (.buildSlice dk 2 #[(0,.tmp 72),(1,.tmp 73)],some 74,dk,[33,34]),
 (.build aN #[(0,.const (.int .i64 3)),(3,.tmp 74)],some 75,aN,[35]),
 (.buildSlice dk 2 #[(0,.tmp 71),(1,.tmp 75)],some 76,dk,[32,36]),
 (.build aN #[(0,.const (.int .i64 5)),(3,.tmp 76)],some 77,aN,[37]),
 (.buildSlice dk 8 #[(0,.tmp 39),(1,.tmp 43),(2,.tmp 48),(3,.tmp 49),(4,.tmp 53),(5,.tmp 59),(6,.tmp 68),(7,.tmp 77)],some 78,dk,[0,4,9,10,14,20,29,38]),
 (.assign (.tmp 78),some 9,dk,[39,34,0,1,2,3,4,5,6,7,8,9,10,11,12,13,14,15,16,17,18,19,20,21,22,23,24,25,26,27,28,29,30,31,32,33,34,35,36,37,38,39])]
def YR(d:base<=w0.heap.size):allI (uk aa (JT w0 base kk Xa Xb Xc Xs)) PZ 0:=
 ⟨(tg 0 39 rfl),
  (tg 1 40 rfl),
  (th 2 41 rfl),
  (qT d 3 42 1 2 rfl rfl rfl (by simp) (by simp)),
  (v5 4 43 3 rfl rfl (by simp)),
  (tg 5 44 rfl),
  (th 6 45 rfl),
  (OH 7 46 rfl),
  (YM d 8 47 5 6 7 rfl rfl rfl rfl (by simp) (by simp) (by simp)),
  (OF 9 48 8 rfl rfl (by simp)),
  (OI 10 49 rfl),
  (OI 11 50 rfl),
  (th 12 51 rfl),
  (qT d 13 52 11 12 rfl rfl rfl (by simp) (by simp)),
  (v5 14 53 13 rfl rfl (by simp)),
  (tg 15 54 rfl),
  (th 16 55 rfl),
  (qT d 17 56 15 16 rfl rfl rfl (by simp) (by simp)),
  (v5 18 57 17 rfl rfl (by simp)),
  (D3 d 19 58 18 rfl rfl (by simp)),
  (OG 20 59 19 rfl rfl (by simp)),
  (th 21 60 rfl),
  (tg 22 61 rfl),
  (OH 23 62 rfl),
  (qT d 24 63 22 23 rfl rfl rfl (by simp) (by simp)),
  (OF 25 64 24 rfl rfl (by simp)),
  (D3 d 26 65 25 rfl rfl (by simp)),
  (YL 27 66 26 rfl rfl (by simp)),
  (qT d 28 67 21 27 rfl rfl rfl (by simp) (by simp)),
  (v5 29 68 28 rfl rfl (by simp)),
  (th 30 69 rfl),
  (D3 d 31 70 30 rfl rfl (by simp)),
  (OG 32 71 31 rfl rfl (by simp)),
  (tg 33 72 rfl),
  (YO d 34 73 rfl),
  (qT d 35 74 33 34 rfl rfl rfl (by simp) (by simp)),
  (v5 36 75 35 rfl rfl (by simp)),
  (qT d 37 76 32 36 rfl rfl rfl (by simp) (by simp)),
  (YK 38 77 37 rfl rfl (by simp)),
  (YN d 39 78 0 4 9 10 14 20 29 38 rfl rfl rfl rfl rfl rfl rfl rfl rfl (by simp) (by simp) (by simp) (by simp) (by simp) (by simp) (by simp) (by simp)),
  (YP 40 9 39 rfl rfl (by simp)),trivial⟩
end
def kv(k:Nat):Rx:=BP (eL (k%6)) (eL (k / 6%6)) (eL (k / 36%6)) (k / 216%8)
def M3(k:Nat):Bool:=cN (kv k)&&Nat.ble (kv k).sz 1000&&h8 (dL (kv k))&&Nat.ble (dL (kv k)).sz 1000
def XA:(List.range 1728).all M3=true:=by kernel_rfl
def Ih(k:Nat):kv k=kv (k%1728):=by unfold kv;rw[show k%1728%6=k%6 by omega,show k%1728 / 6%6=k / 6%6 by omega,show k%1728 / 36%6=k / 36%6 by omega,show k%1728 / 216%8=k / 216%8 by omega]
def Z'(k:Nat):cN (kv k)=true/\(kv k).sz<=1000/\h8 (dL (kv k))=true/\(dL (kv k)).sz<=1000:=by rw[Ih];have:=fi.1 XA (k%1728) (List.mem_range.2 (Nat.mod_lt _ (by omega)));unfold M3 at this;simp only[bf]at this;exact⟨this.1.1.1,Nat.le_of_ble_eq_true this.1.1.2,this.1.2,Nat.le_of_ble_eq_true this.2⟩
def Qj(k:Nat):lI k=bb (dL (kv k)):=rfl
def Qk(k:Nat):lI k=lI (k%1728):=by rw[Qj,Qj,Ih]
def SZ(n m:Int)(w:J)(e:1<=m)(h:a5 n):ak aa sJ #[.i n,.i m] w λr d=>r=ag (.i (gy n m))/\ah w d:=(Aw n m w e h).mono λr d h=>⟨h.1,h.2▸Fr.refl _ _⟩
def FO(d:I):List I:=[l7 2 97 97,l7 2 98 98,l7 2 0 0,l7 2 97 98,l7 1 0 0,d]
def AA(e:I)(h:e.rx=eD){i:Nat}(U:i<6):∃t,(FO e)[i]? =some t/\t.rx=eL i/\(t=e\/∀d:J,t.P d/\∀b,¬b∈t.fp):=by
 have:i=0\/i=1\/i=2\/i=3\/i=4\/i=5:=by omega
 rcases this with rfl|rfl|rfl|rfl|rfl|rfl
 .exact ⟨_,rfl,rfl,.inr λd=>⟨qx _ _ _ d,λb=>qy⟩⟩
 .exact ⟨_,rfl,rfl,.inr λd=>⟨qx _ _ _ d,λb=>qy⟩⟩
 .exact ⟨_,rfl,rfl,.inr λd=>⟨qx _ _ _ d,λb=>qy⟩⟩
 .exact ⟨_,rfl,rfl,.inr λd=>⟨qx _ _ _ d,λb=>qy⟩⟩
 .exact ⟨_,rfl,rfl,.inr λd=>⟨qx _ _ _ d,λb=>qy⟩⟩
 .exact ⟨e,rfl,h,.inl rfl⟩
def U2(a b c:Rx){i:Nat}(U:i<8):[a,.mk 3 0 0 [a,b],.mk 4 0 0 [a,b,c],.mk 7 0 0 [a],.mk 3 0 0 [.mk 7 0 0 [a],b],.mk 6 0 0 [.mk 3 0 0 [a,b]],.mk 3 0 0 [b,.mk 7 0 0 [.mk 4 0 0 [a,c]]],.mk 5 0 0 [.mk 6 0 0 [b],.mk 3 0 0 [a,eD]]][i]? =some (BP a b c i):=by
 have:i=0\/i=1\/i=2\/i=3\/i=4\/i=5\/i=6\/i=7:=by omega
 rcases this with rfl|rfl|rfl|rfl|rfl|rfl|rfl|rfl<;>rfl
def zj(k m:Nat)(d:0<m):bY (k:Int) (m:Int)=((k%m:Nat):Int):=by rw[Int.tmod_eq_emod_of_nonneg (by omega)];omega
def EA(k m:Nat)(h:k<=1048576):ao .i64 (bN (k:Int) (m:Int))=((k / m:Nat):Int):=by
 have d:bN (k:Int) (m:Int)=((k / m:Nat):Int):=by rw[Int.tdiv_eq_ediv_of_nonneg (by omega)];rfl
 have e:k / m<=k:=Nat.div_le_self k m;rw[d];generalize k / m=q at e;rw[aS _ (by omega)]
section
variable {w w24:J} {R:aH} {K:Nat}
def Z9(E:K<=1048576){s:Sl}{O:List I}{Y:J}(x:I.au O=[eL (K%6),.mk 3 0 0 [eL (K%6),eL (K / 6%6)],.mk 4 0 0 [eL (K%6),eL (K / 6%6),eL (K / 36%6)],.mk 7 0 0 [eL (K%6)],.mk 3 0 0 [.mk 7 0 0 [eL (K%6)],eL (K / 6%6)],.mk 6 0 0 [.mk 3 0 0 [eL (K%6),eL (K / 6%6)]],.mk 3 0 0 [eL (K / 6%6),.mk 7 0 0 [.mk 4 0 0 [eL (K%6),eL (K / 36%6)]]],.mk 5 0 0 [.mk 6 0 0 [eL (K / 6%6)],.mk 3 0 0 [eL (K%6),eD]]])(e:(bI s O).P Y)(f:ah w Y):uW.T9 s (K:Int) Y λr Y=>r=ag (.string (ba (lI K)))/\ah w Y:=by
 have N:=I.cm (dw.1 e).1;have M:O.length=8:=by have:=congrArg List.length x;rw[I.fk,List.length_map]at this;simpa using this
 show(0:Int)<=bY (ao .i64 (bN (K:Int) ((216:Nat):Int))) ((8:Nat):Int)/\bY (ao .i64 (bN (K:Int) ((216:Nat):Int))) ((8:Nat):Int)<((s.n:Nat):Int)/\dM s.a λp=>fM Y (p.add (aZ (bY (ao .i64 (bN (K:Int) ((216:Nat):Int))) ((8:Nat):Int)) *4)) _;rw[EA K 216 E,zj _ 8 (by omega)];have F:K / 216%8<8:=Nat.mod_lt _ (by omega);have d:O[K / 216%8]? =some (O[K / 216%8]'(by omega)):=a6 (by omega);generalize O[K / 216%8]'(by omega)=t at d;have z:t.rx=kv K:=by have y:=U2 (eL (K%6)) (eL (K / 6%6)) (eL (K / 36%6)) F;rw[<-x,I.fk,List.getElem?_map,d]at y;exact Option.some.inj y
 obtain⟨j,k,h,q⟩:=Z' K;rw[<-z]at j k h q;have G:t.P Y:=(dw.1 e).2.get d;refine⟨by omega,by omega,I.de (dw.1 e).1 d λp e c=>⟨_,_,_,_,c.c0,c.c1,c.c2,c.c3,(Gs t Y (by rw[<-I.eB];exact k) j G).mono ?_⟩⟩;rintro _ L ⟨⟨u,rfl,A,H,_⟩,C⟩;rw[<-A]at h q;refine⟨_,_,_,u.s,rfl,(F7 u 0 L (by rw[<-I.eB];omega) (by omega) h H).mono ?_⟩;rintro _ Q ⟨rfl,D⟩;refine⟨_,rfl,?_,(f.dD C).dD D⟩;have B:cO 0 u.rx (bb u.rx)=bb u.rx:=by unfold cO;rw[af (by omega)]
 rw[B,A,z];rfl
end
def RI{s:Sl}{k:Int}{w:J}{R d:aH}(h:uW.T9 s k w R)(E:∀r e,R r e->d r e):uW.T9 s k w d:=
 ⟨h.1,h.2.1,XD h.2.2 λp ⟨a,b,c,j,x,y,z,A,C⟩=>⟨a,b,c,j,x,y,z,A,C.mono λr H ⟨q,f,g,i,D,G⟩=>⟨q,f,g,i,D,G.mono λr I ⟨t,F,B⟩=>⟨t,F,E _ _ B⟩⟩⟩⟩
def SW(n:Int)(hn:a5 n)(w:J):ak aa J5 #[.i n] w λr x=>(∃al:Nat,r=ag (.string (ba (lI al))))/\ah w x:=by
 have hr:=iT n 1048576 (by omega);obtain⟨K,hK⟩:∃K:Nat,gy n 1048576=(K:Int):=⟨(gy n 1048576).toNat,by omega⟩;have D:K<=1048576:=by omega
 have ac:LH F0 w w [] []:=bP [] (by simp);refine uW.ok n w _ (ac.call (SZ n 1048576 w (by omega) hn) ?_);rintro _ w1 rfl H;refine⟨_,rfl,H.AY (AO w1) ?_⟩;rintro _ G ⟨j,rfl,F,am,V⟩ _ F2;have H2:=F2.rd (.tree j) am λb q=>V b (aO.1 q);rw[hK];have S:=zj K 6 (by omega);have Q:=EA K 6 D;have O:=EA K 36 D;have U:=zj (K / 6) 6 (by omega);have T:=zj (K / 36) 6 (by omega);have c6:((6:Nat):Int)=6:=rfl;have aj:((36:Nat):Int)=36:=rfl;rw[c6]at S Q U T;rw[aj]at O;rw[S,Q,O,U,T];obtain⟨z,ga,ra,xa⟩:=AA j F (i:=K%6) (Nat.mod_lt _ (by omega));obtain⟨tb,gb,rb,xb⟩:=AA j F (i:=K / 6%6) (Nat.mod_lt _ (by omega));obtain⟨tc,gc,rc,xc⟩:=AA j F (i:=K / 36%6) (Nat.mod_lt _ (by omega));have la:K%6<6:=Nat.mod_lt _ (by omega);have lb:K / 6%6<6:=Nat.mod_lt _ (by omega);have lc:K / 36%6<6:=Nat.mod_lt _ (by omega);have C:∀t:I,(t=j\/∀w:J,t.P w/\∀b,¬b∈t.fp)->(∀x:J,j.P x->t.P x)/\∀b∈t.fp,w.heap.size<=b:=λt h=>by
  rcases h with rfl|h
  .exact ⟨λ_ h=>h,λb q=>a8 H.fr.size (V b q)⟩
  .exact ⟨λx _=>(h x).1,λb q=>((h w).2 b q).elim⟩
 refine⟨_,_,_,j.s,rfl,H2.cR (n:=6) (sz:=4) (cs:=(FO j).flatMap I.c) rfl (by decide) λw3 M=>?_⟩;refine⟨by omega,by omega,I.de (s:=⟨some (ae G.heap.size),6,6⟩) (M.get 0:aK _ _ _ _ _).bc ga λp Y c=>?_⟩;refine⟨_,_,_,_,c.c0,c.c1,c.c2,c.c3,M.nw λw4 _ H4=>H4.jD 1 rfl λw8 N=>?_⟩;refine⟨by omega,by omega,I.de (s:=⟨some (ae G.heap.size),6,6⟩) (N.get 0:aK _ _ _ _ _).bc gb λp Y c=>?_⟩;refine⟨_,_,_,_,c.c0,c.c1,c.c2,c.c3,N.nw λw9 _ H9=>H9.jD 2 rfl λan L=>?_⟩;refine⟨by omega,by omega,I.de (s:=⟨some (ae G.heap.size),6,6⟩) (L.get 0:aK _ _ _ _ _).bc gc λp Y c=>?_⟩;refine⟨_,_,_,_,c.c0,c.c1,c.c2,c.c3,L.nw λau _ ad=>ad.jD 3 rfl λab y=>?_⟩;refine⟨_,_,_,z.s,y.ld 1 0,y.ld 1 1,y.ld 1 2,y.ld 1 3,y.cR (n:=1) (sz:=4) (cs:=[z].flatMap I.c) rfl (by decide) λao af=>af.nw λax _ ai=>ai.jD 5 rfl λd e=>?_⟩;have A:=C z xa;have Z:=C tb xb;have pc:=C tc xc;have ps:(I.mk 7 0 0 ⟨some (ae ab.heap.size),1,1⟩ [z]).P d:=by unfold I.P;exact⟨(e.get 4:aK _ _ _ _ _).bc,I.ib (by simp;exact A.1 d (e.getD 0))⟩
 have W:ah w d:=e.fr;refine B3 PZ (by kernel_rfl) (JT d w.heap.size (K:Int) (eL (K%6)) (eL (K / 6%6)) (eL (K / 36%6)) (.mk 7 0 0 [eL (K%6)])) ?_ (YR W.size) ?_
 .refine ⟨Fr.drew _ _,rfl,?_,?_,?_,?_,λi sp hs E=>by cases E⟩
  .exact jh.bw (w:=d) ⟨w3.heap.size,z,rfl,e.ob 1,ra,A.1 d (e.getD 0),A.2⟩ (Fr.drew _ _)
  .exact jh.bw (w:=d) ⟨w8.heap.size,tb,rfl,e.ob 2,rb,Z.1 d (e.getD 0),Z.2⟩ (Fr.drew _ _)
  .exact jh.bw (w:=d) ⟨an.heap.size,tc,rfl,e.ob 3,rc,pc.1 d (e.getD 0),pc.2⟩ (Fr.drew _ _)
  .refine jh.bw (w:=d) ⟨ao.heap.size,.mk 7 0 0 ⟨some (ae ab.heap.size),1,1⟩ [z],rfl,e.ob 5,?_,ps,Da (λb q=>?_) A.2⟩ (Fr.drew _ _)
   .rw [<-ra];rfl
   .simp only[aw,av,aR,aT]at q;rw[q];exact y.fr.size
 .intro aq ap x E B;obtain⟨s,ts,h1,h2,h3,_⟩:=B.all 40 _ rfl (E 40 (by decide));refine⟨s,(K:Int),h1,B.k,?_⟩;refine RI (Z9 D h2 h3 (W.dD B.fr)) λr ar h=>⟨⟨K,h.1⟩,h.2⟩
def Cf{w:J}{s:Sl}{l:List Nd}(h:GP w s l):LH F0 w w [] [.gr s l]:=bP _ (by intro e d;simp only[av,aR,aT]at d;subst d;exact bV.2 h)
abbrev qH(s:Sl)(l:List Int):En:=.row bR 1 s (l.map a')
def yu{w:J}{s:Sl}{l:List Int}(h:aK w bR 1 s (l.map a')):bp w s l:=h.i4
def yt{w:J}{s:Sl}{l:List Int}(h:aK w bR 1 s (l.map a')):s.n=l.length:=by have:=h.len;simp at this;omega
def AJ{w:J}{s:Sl}{l:List Nd}(h:GP w s l)(t:bo)(n:Int)(W:a5 n)(V:l.length<=e4):
  ak aa Kt #[s.v,dO t,.i n] w λr G=>(∃q:Int,r=ag (.i q)/\-1<=q/\q<(l.length:Int))/\ah w G:=by
 have Z:=gZ h;unfold e4 at V;have loop:∀(m i:Nat) (y:Sl) (ks:List Int) (e:Nat) (A:J),i+m=l.length->ks.length<=i->(∀F∈ks,0<=F/\F<(l.length:Int))->LH F0 w A [.g e,qH y ks] [.gr s l]->
   qn.a2 s n e t.k t.n t.x y (i:Int) A λr G=>(∃q:Int,r=ag (.i q)/\-1<=q/\q<(l.length:Int))/\ah w G:=by
  intro m;induction m with
  |zero=>
   intro i y ks e A T U E z;have hlen:=yt (z.get 1);refine qn.bB _ _ _ _ _ _ _ _ _ _ (a1 (aV (by omega)) (aL (λP=>⟨⟨_,rfl,by omega,by omega⟩,z.fr⟩) (λP=>z.ay (iY n _ A (by omega) W) ?_)));have Y:=iT n ((y.n:Nat):Int) (by omega);generalize gy n ((y.n:Nat):Int)=q at Y;rintro _ H rfl B;obtain⟨j,rfl⟩:∃j:Nat,q=(j:Int):=⟨q.toNat,by omega⟩;have C:ks[j]? =some (ks[j]'(by omega)):=a6 (by omega);have D:=E _ (aE C);exact⟨_,rfl,by omega,by omega,(yu (B.get 1)).cell C (by omega) λp I Q=>⟨_,Q,⟨⟨_,rfl,by omega,by omega⟩,B.fr⟩⟩⟩
  |succ m K=>
   intro i y ks e A T U E z;have C:l[i]? =some (l[i]'(by omega)):=a6 (by omega);generalize l[i]'(by omega)=d at C;have hlen:=yt (z.get 1);refine qn.bB _ _ _ _ _ _ _ _ _ _ (a3 (aP (by omega)) (hM (bV.1 (z.getD 0)) rfl C λp I _=>z.ai λH B=>?_));have c:=BW (bV.1 (B.getD 0)) C I (rfl:((i:Int))=(i:Int));refine⟨_,_,_,c.s0,c.s1,c.s2,nh (a:=d.x.st) (b:=t) (λS=>?_) (λS=>?_)⟩
   .refine B.iA 1 h4 rfl (λL M O=>?_) (by omega);show qn.a2 s n e t.k t.n t.x L (ao .i64 ((i:Int)+1)) M _;rw[bd _ (by omega)];refine K (i+1) L (ks++[(i:Int)]) e M (by omega) (by simp;omega) (λF D=>?_) (by rw[qH,List.map_append];exact O);rcases aX.1 D with D|D
    .exact E F D
    .simp only[av,aR,aT]at D;omega
   .show qn.a2 s n e t.k t.n t.x y (ao .i64 ((i:Int)+1)) H _;rw[bd _ (by omega)];exact K (i+1) y ks e H (by omega) (by omega) E B
 exact qn.aD _ _ _ _ _ w _ ((Cf h).aJ λe A N=>loop l.length 0 ⟨none,0,0⟩ [] e A (by omega) (by simp) (by simp) (N.h7 bR 1))
def TL{w:J}{s:Sl}{l:List Nd}(h:GP w s l)(op:Int)(x:Nat)(ac n:Int)(G:x<l.length)(F:a5 n):
  ak aa KH #[s.v,.i op,.i (x:Int),.i ac,.i n] w λr H=>(∃t:bo,r=ag (dO t))/\ah w H:=by
 have hs:=gZ h;have N:l[x]? =some (l[x]'G):=a6 G;generalize l[x]'G=d at N;refine Bw.aD _ _ _ _ _ w _ ((Cf h).aJ λA w1 K=>hM (bV.1 (K.getD 0)) rfl N λp hp c=>⟨_,_,_,c.s0,c.s1,c.s2,K.aJ λD w2 z=>?_⟩);have ret:∀(a b c:Int) (e:J) (V:List Nat),(∀b∈V,En.g b∈[En.g A,.g D])->LH F0 w e [.g A,.g D] [.gr s l]->loc V e λO=>(∃t:bo,Ending.returned (.agg #[.i a,.i b,.i c])=ag (dO t))/\ah w O:=λa b c e V hb k=>k.ai (λO Q=>⟨⟨⟨a,b,c⟩,rfl⟩,Q.fr⟩) hb;have C:∀e,LH F0 w e [.g A,.g D] [.gr s l]->Bw.bq n A 0 0 0 e λr H=>(∃t:bo,r=ag (dO t))/\ah w H:=by intro e k;refine k.ay (iY n 3 e (by omega) F) ?_;rintro _ y rfl q;refine⟨_,rfl,q.ay (nD _ y) ?_⟩;rintro _ I rfl B;exact⟨_,_,_,rfl,ret _ _ _ I _ (by simp) B⟩
 refine aL (λS=>z.ai λe k=>k.ay (iY n _ e (by omega) F) ?_) (λS=>aL (λT=>z.ai λe k=>k.ay (iY n 3 e (by omega) F) ?_) (λT=>aL (λU=>z.ai λe k=>k.ay (fa _ e) ?_) (λU=>aL (λW=>aL (λY=>z.ai λe k=>k.ay (fa _ e) ?_) (λY=>z.ai λe k=>k.ay (Dy d.x.st e) ?_)) (λW=>aL (λZ=>z.ai λe k=>k.ay (fa _ e) ?_) (λZ=>aL (λL=>a3 (beq_iff_eq.2 L) (z.ai λe k=>C e k)) (λL=>aL (λM=>a3 (beq_iff_eq.2 M) (z.ai λe k=>C e k)) (λM=>aL (λh9=>z.ai λe k=>C e k) (λh9=>z.ai λe k=>ret _ _ _ e _ (by simp) k))))))))
 .have hr:=iT n ((s.n:Nat):Int) (by omega);generalize gy n ((s.n:Nat):Int)=P at hr;rintro _ y rfl q;obtain⟨j,rfl⟩:∃j:Nat,P=(j:Int):=⟨P.toNat,by omega⟩;have ab:l[j]? =some (l[j]'(by omega)):=a6 (by omega);exact⟨_,rfl,hM (bV.1 (q.getD 0)) rfl ab λad hq E=>⟨_,_,_,E.s0,E.s1,E.s2,ret _ _ _ y _ (by simp) q⟩⟩
 .rintro _ y rfl q;refine⟨_,rfl,q.ay (fa _ y) ?_⟩;rintro _ I rfl B;exact⟨_,_,_,rfl,ret _ _ _ I _ (by simp) B⟩
 .rintro _ y rfl q;exact⟨_,_,_,rfl,ret _ _ _ y _ (by simp) q⟩
 .rintro _ y rfl q;exact⟨_,_,_,rfl,ret _ _ _ y _ (by simp) q⟩
 .rintro _ y rfl q;exact⟨_,_,_,rfl,ret _ _ _ y _ (by simp) q⟩
 .rintro _ y rfl q;exact⟨_,_,_,rfl,ret _ _ _ y _ (by simp) q⟩
def Vw{w:J}{s:Sl}{l:List Nd}(h:GP w s l){i:Nat}{d:Nd}(U:l[i]? =some d){K:Addr->Prop}{X:Int}(e:X=(i:Int))(k:∀p,s.a=some p->eb w (p.add (aZ X *9)) d->K p):e8 s X K:=by have y:=gZ h;have x:=(bO.1 U).1;subst e;exact⟨by omega,by omega,eV.elem (f:=Nd.c) (sz:=9) Nd.jj (by omega) h.1.2.2 U λp q j=>k p q j⟩
abbrev kR(d:Nat)(s:Sl)(mp mv:Nat)(l:List Nd)(hJ:Array MapEntry)(c1:Nat)(hc:Array MapEntry)(c2:Nat):List En:=
 [.c d [s.v,.map (some mp),.map (some mv)] tK,.row cA 9 s (l.flatMap Nd.c),.ob mp (.map hJ c1),.ob mv (.map hc c2)]
def hv(w:J)(d:Nat)(l:List Nd)(own:List Nat):Prop:=∃(s:Sl) (mp mv:Nat) (hJ:Array MapEntry) (c1:Nat) (hc:Array MapEntry) (c2:Nat),own=(kR d s mp mv l hJ c1 hc c2).flatMap (·.fp)/\own.Nodup/\(∀e∈kR d s mp mv l hJ c1 hc c2,e.P w)/\jN hJ (iL (xs l) 0)/\jN hc (hS (xs l))
def rh(w:J)(h:Nat)(own:List Nat)(l:List Nd)(Y:J):Prop:=∃d,hv Y h l d/\Fr (·∈own) w Y/\∀e∈d,e∈own\/w.heap.size<=e
def hv.open{w:J}{j:Nat}{l:List Nd}{own:List Nat}(h:hv w j l own)(D:List En)(q:∀d∈D,d.P w/\∀b∈d.fp,b∉own):
  ∃(s:Sl) (mp mv:Nat) (hJ:Array MapEntry) (c1:Nat) (hc:Array MapEntry) (c2:Nat),jN hJ (iL (xs l) 0)/\jN hc (hS (xs l))/\LH (·∈own) w w (kR j s mp mv l hJ c1 hc c2) D:=by
 obtain⟨s,mp,mv,hJ,c1,hc,c2,y,G,C,A,B⟩:=h;have x:∀d∈kR j s mp mv l hJ c1 hc c2,∀b∈d.fp,b∈own:=λd e b k=>by rw[y];exact bA.2 ⟨d,e,k⟩
 exact⟨s,mp,mv,hJ,c1,hc,c2,A,B,LH.tz _ _ (λd e=>⟨C d e,x d e⟩) (y▸G) (λd e=>⟨(q d e).1,λb k z E F=>(q d e).2 b k (x z E b F)⟩)⟩
def hv.close{w Y:J}{d:Nat}{l:List Nd}{own:List Nat}{s:Sl}{mp mv:Nat}{hJ:Array MapEntry}{c1:Nat}{hc:Array MapEntry}{c2:Nat}{D:List En}(H:LH (·∈own) w Y (kR d s mp mv l hJ c1 hc c2) D)(h:jN hJ (iL (xs l) 0))(j:jN hc (hS (xs l))):rh w d own l Y:=
 ⟨_,⟨s,mp,mv,hJ,c1,hc,c2,rfl,H.nd,H.own,h,j⟩,H.fr,λy x=>by obtain⟨e,q,k⟩:=bA.1 x;exact(H.new e q y k).symm⟩
def JB:w3 aa aaj fW bR (.int .i64 0):=⟨by kernel_rfl,by kernel_rfl,by kernel_rfl⟩
def JC:w3 aa aai fW cg (.agg #[.int .i64 0,.int .i64 0,.int .i64 0]):=⟨by kernel_rfl,by kernel_rfl,by kernel_rfl⟩
def _root_.Go.W.En.cl(p:Addr)(v:ab):En:=⟨[p.block],λe=>e.cell? p=some v,λe q j d=>by have k:=nE d;unfold World.cell? at d ⊢;rw[j p.block (by simp) k];exact d,λe d b h=>by simp at h;subst h;exact nE d,by simp⟩
def Wx{l:List Nd}(t:ByteArray):∃(a b c:Int) (y:Bool),((jA (hS (xs l)) t).getD (.agg #[.int .i64 0,.int .i64 0,.int .i64 0]))=.agg #[.i a,.i b,.i c]/\(jA (hS (xs l)) t).isSome=y/\sI (xs l) t=ag (.tuple #[.agg #[.i a,.i b,.i c],.bool y]):=by
 rw[EY];unfold sI;cases jG (xs l) t with
 |none=>exact⟨0,0,0,false,rfl,rfl,rfl⟩
 |some s=>exact⟨s.k,s.n,s.x,true,rfl,rfl,rfl⟩
def Sa{w:J}{e:Nat}{l:List Nd}{s:Sl}{mp mv:Nat}{hJ:Array MapEntry}{c1:Nat}{hc:Array MapEntry}{c2:Nat}{k:Addr}(h:∀q∈kR e s mp mv l hJ c1 hc c2,q.P w)(D:jN hc (hS (xs l)))(E:w.cell? k=some (.pointer (some (ae e))))(t:ByteArray):
  ak aa CO #[.string t,.pointer (some k)] w λr F=>r=sI (xs l) t/\ah w F:=by
 have x:LH F0 w w [] (kR e s mp mv l hJ c1 hc c2++[.cl k (.pointer (some (ae e)))]):=bP _ (by
  intro q d;rcases aX.1 d with d|d
  .exact h q d
  .simp only[av,aR,aT]at d;subst d;exact E)
 obtain⟨a,b,c,G,A,B,C⟩:=Wx (l:=l) t;refine P9.aD t k w _ (x.aJ λH K j=>⟨_,j.getD 4,qL ⟨some mv,cellAt (p:=ae e) (j.getD 0) rfl rfl,a,b,c,G,?_,j.aJ λI L y=>y.ai λM z=>⟨C.symm,z.fr⟩⟩⟩);rw[Js JC (j.getD 3) D t,A,B]
def Sc{w:J}{q:Nat}{l:List Nd}{own:List Nat}{d:Nd}(h:hv w q l own)(U:∀k∈l,k.P w)(S:d.P w)(T:cH.P w)(W:oE d.x)(V:l.length<=1000000000)(Z:∀k∈xs l,bW k.st=true):
  ak aa Me #[.pointer (some (ae q)),d.v] w λr F=>r=gm (cq (xs l) d.x)/\ah w F:=by
 obtain⟨s,mp,E,A,y,B,z,_,_,C,_,Q⟩:=h;have Y:aK w cA 9 s (l.flatMap Nd.c):=C _ (aE (i:=1) rfl);have H:LH F0 w w [] (kR q s mp E l A y B z++[.gr s l,cX d,cH]):=bP _ (by
  intro k j;rcases aX.1 j with j|j
  .exact C k j
  .simp only[av,aR,aT]at j;rcases j with rfl|rfl|rfl
   .exact bV.2 ⟨Y.bc,U⟩
   .exact S
   .exact T)
 refine P8.aD _ _ _ _ _ _ _ _ _ _ w _ (H.nw λw1 _ I=>I.aJ λb3 w2 K=>K.aJ λb4 w3 L=>L.ai λG e=>⟨_,e.jZ 0,qL ⟨s,cellAt (p:=ae q) (e.getD 0) rfl rfl,?_⟩⟩);have O:LH F0 G G [] (.gr s l::cX d::cH::(kR q s mp E l A y B z++[.cl (ae w.heap.size) (.pointer (some (ae q)))])):=bP _ (by
  intro k j;simp only[i2,lr,av,aR,aT]at j;rcases j with rfl|rfl|rfl|rfl|rfl|rfl|rfl|rfl
  .exact e.getD 4
  .exact e.getD 5
  .exact e.getD 6
  .exact e.getD 0
  .exact e.getD 1
  .exact e.getD 2
  .exact e.getD 3
  .exact e.jZ 0)
 refine e.ay (Z4 ⟨CO,#[],#[.pointer (some (ae w.heap.size))]⟩ O (by kernel_rfl) (λF D=>?_) W V Z) ?_
 .exact Sa (λk j=>D k (List.mem_append_left _ j)) Q (D (.cl (ae w.heap.size) (.pointer (some (ae q)))) (by simp)) d.x.tx
 .rintro _ w5 rfl M;exact⟨_,_,_,_,rfl,M.ai λw6 N=>⟨rfl,N.fr⟩⟩
def nL(g:List Nx)(n:Nx):Int×Bool:=match hg n g 0 with
 |some i=>((i:Int),true)
 |none=>(0,false)
def find_eq{g:List Nx}{n:Nx}(e:0<=n.u)(h:∀d∈g,0<=d.u):(jA (iL g 0) (jX n)).getD (.int .i64 0)=.i (nL g n).1/\(jA (iL g 0) (jX n)).isSome=(nL g n).2:=by
 rw[Dq e h];unfold nL;cases hg n g 0 with
 |none=>exact⟨rfl,rfl⟩
 |some i=>exact⟨rfl,rfl⟩
def R'{w:J}{j:Nat}{l:List Nd}{own:List Nat}{d:Nd}(h:hv w j l own)(K:d.P w)(W:e9 d.x)(L:∀y∈xs l,0<=y.u):
  ak aa Mc #[.pointer (some (ae j)),d.v] w λr N=>r=ag (.tuple #[.i (nL (xs l) d.x).1,.bool (nL (xs l) d.x).2])/\ah w N:=by
 obtain⟨s,mp,M,F,B,G,C,_,_,I,H,_⟩:=h;have z:LH F0 w w [] (kR j s mp M l F B G C++[cX d]):=bP _ (by
  intro y e;rcases aX.1 e with e|e
  .exact I y e
  .simp only[av,aR,aT]at e;subst e;exact K)
 refine P7.ok _ _ _ _ _ _ _ _ _ _ w _ (z.nw λO _ A=>A.dr λQ k=>⟨some mp,cellAt (p:=ae j) (k.getD 0) rfl rfl,k.call (PW (d:=d) (yo (k.ob 0)) (k.getD 4) W) ?_⟩);rintro _ S rfl q;obtain⟨D,E⟩:=find_eq W.u.1 L;refine⟨_,rfl,cellAt (p:=ae j) (q.getD 0) rfl rfl,(nL (xs l) d.x).1,(nL (xs l) d.x).2,?_,rfl,q.fr⟩;have:=Js JB (q.getD 2) H (jX d.x);rw[D,E]at this;exact this
def FQ{w:J}{z:Nat}{l:List Nd}{own:List Nat}{d:Nd}(h:hv w z l own)(hd:d.P w)(ai:∀b∈(cX d).fp,b∉own)(W:e9 d.x)(hu:∀A∈xs l,0<=A.u)(hl:l.length<=100000)(al:d.x∉xs l)(an:d.x.op=0->jG (xs l) d.x.tx=none):
  ak aa Md #[.pointer (some (ae z)),d.v] w λr U=>r=ag (.i (l.length:Int))/\rh w z own (l++[d]) U:=by
 obtain⟨s,mp,G,aq,L,ah,N,h1,h2,Z⟩:=h.open [cX d] (by intro A he;simp only[av,aR,aT]at he;subst he;exact⟨hd,ai⟩)
 have hn:s.n=l.length:=Nd.cm (show bx 9 w s (l.flatMap Nd.c)from(show aK w cA 9 s (l.flatMap Nd.c)from Z.get 1).bc);have g1:jA (iL (xs l) 0) (jX d.x)=none:=by
  rw[Dq W.u.1 hu];cases hi:hg d.x (xs l) 0 with
  |none=>rfl
  |some i=>
   have:=(xS hi).2;exact absurd (aE this) al
 have ac:xs (l++[d])=xs l++[d.x]:=by simp[xs]
 have p1:iL (xs (l++[d])) 0=iL (xs l) 0++[(jX d.x,.i (l.length:Int))]:=by rw[ac,Nn];simp[xs]
 have p2:hS (xs (l++[d]))=hS (xs l)++(if d.x.op=0 then[(d.x.tx,dO d.x.st)]else[]):=by rw[ac,QC]
 have ab:∀(E:Array MapEntry) (M:Nat) (y:Array MapEntry) (O S:Nat) (I:J),jN E (iL (xs (l++[d])) 0)->jN y (hS (xs (l++[d])))->LH (·∈own) w I (kR z s mp G l E M y O++[.c S d.c cA]) [cX d]->
   zl.S0 (ae z) (ae S) I λr U=>r=ag (.i (l.length:Int))/\rh w z own (l++[d]) U:=by
  intro E M y O S I H q2 K;dsimp only[zl.S0,ax];refine K.dr λV e=>⟨s,e.ld 0 0,?_⟩;refine⟨d.x.op,d.ks,d.x.n,d.x.m,d.x.u,d.x.tx,d.x.st.k,d.x.st.n,d.x.st.x,e.ld 4 0,e.ld 4 1,e.ld 4 2,e.ld 4 3,e.ld 4 4,e.ld 4 5,e.ld 4 6,e.ld 4 7,e.ld 4 8,e.nw λw3 _ j=>⟨j.ld 0 0,?_⟩⟩;have ad:bx 9 w3 ⟨some (ae V.heap.size),1,1⟩ ([d].flatMap Nd.c):=by rw[show[d].flatMap Nd.c=d.c by simp];exact uB (T:=cA) (j.ob 5) rfl
  refine j.ap 1 mN (src:=⟨some (ae V.heap.size),1,1⟩) rfl ad.2.2 ad.1 qD (by simp only;omega) (λs' Y B am _=>B.st 0 0 rfl (λw5 q=>⟨s',q.ld 0 0,?_⟩));refine⟨?_,hv.close (s:=s') (mp:=mp) (mv:=G) (hJ:=E) (c1:=M) (hc:=y) (c2:=O) (D:=[cX d]) ?_ H q2⟩
  .rw [am,aS _ (by simp only;omega)];simp only;rw[hn];congr 2;omega
  .have:=q.take 4;unfold kR;rw[show(l++[d]).flatMap Nd.c=l.flatMap Nd.c++[d].flatMap Nd.c from cy];exact this
 refine zl.ok _ _ _ _ _ _ _ _ _ _ w _ (Z.nw λI _ K=>K.dr λV e=>⟨some mp,e.ld 0 1,s,e.ld 0 0,e.call (PW (d:=d) (yo (e.ob 4)) (e.getD 0) W) ?_⟩);rintro _ w3 rfl j;obtain⟨Y,C,u1,u2,u3,u4,_⟩:=Qz JB (j.ob 2) h1 (jX d.x) (.i ((s.n:Nat):Int)) g1;have B:=j.gu 2 (.ob mp (.map C (L+1))) rfl (u4.mono λao _ A=>by simp[En.ob,A]) u2 (λb Q=>.inl Q);have H:jN C (iL (xs (l++[d])) 0):=by rw[p1,<-hn];exact u3
 refine⟨_,rfl,j.ld 0 0,j.ld 0 1,Y,u1,d.x.op,B.ld 4 0,aL (λF=>?_) (λF=>?_)⟩
 .refine B.dr λw5 q=>⟨some G,q.ld 0 2,d.x.tx,q.ld 4 5,?_⟩;have g2:jA (hS (xs l)) d.x.tx=none:=by rw[EY,an F];rfl
  obtain⟨w6,y,v1,v2,v3,v4,_⟩:=Qz JC (q.ob 3) h2 d.x.tx (dO d.x.st) g2;have H6:=q.gu 3 (.ob G (.map y (N+1))) rfl (v4.mono λao _ A=>by simp[En.ob,A]) v2 (λb Q=>.inl Q);have a:=yo (d:=d) (q.ob 4);refine⟨d.x.st.k,d.x.st.n,d.x.st.x,a.s0,a.s1,a.s2,w6,v1,ab C (L+1) y (N+1) w.heap.size w6 H ?_ H6⟩;rw[p2,aj F];exact v3
 .refine ab C (L+1) ah N w.heap.size Y H ?_ B;rw[p2,af F,dt];exact h2
def hv.st{w Y:J}{e:Nat}{l:List Nd}{own:List Nat}(h:hv w e l own)(k:∀b∈own,b<w.heap.size->Y.heap[b]? =w.heap[b]?):hv Y e l own:=by obtain⟨s,mp,H,z,x,A,y,q,G,D,B,C⟩:=h;exact⟨s,mp,H,z,x,A,y,q,G,λd j=>d.st w Y (λb E F=>k b (by rw[q];exact bA.2 ⟨d,j,E⟩) F) (D d j),B,C⟩
def hv.lt{w:J}{j:Nat}{l:List Nd}{own:List Nat}(h:hv w j l own):∀b∈own,b<w.heap.size:=by obtain⟨s,mp,F,A,y,B,z,x,E,k,C,D⟩:=h;intro b d;rw[x]at d;obtain⟨e,q,d⟩:=bA.1 d;exact e.lt w (k e q) b d
def _root_.Go.W.En.bu(j:Nat)(own:List Nat)(l:List Nd):En:=⟨ju own,λh=>hv h j l own,λh q k e=>e.st λb d=>k b (aO.2 d),λh e b d=>e.lt b (aO.1 d),nX _⟩
def Sx(w:J)(d:Nat)(own:List Nat)(l:List Nd)(b:Nat):¬(En.bu d own l).P ({w with heap:=Array.replicate (b+1) (.map #[] 0)}):=by rintro⟨s,mp,C,q,j,x,k,B,A,h,y,z⟩;have e:=h _ (aE (i:=0) rfl);exact xm w d _ tK b e
section
variable {M:Nat->Prop} {w0 w:J} {L D:List En} {V:List Nat}
def _root_.Go.W.LH.Sw(H:LH M w0 w L D)(i:Nat){d:Nat}{own:List Nat}{l j:List Nd}{Y:J}(U:L[i]? =some (.bu d own l))(h:rh w d own j Y):∃e,LH M w0 Y (L.set i (.bu d e j)) D/\hv Y d j e:=by obtain⟨e,r,f,o⟩:=h;exact⟨e,H.gu i (.bu d e j) U (f.mono λx _ q=>aO.2 q) r (λb k=>(o b (aO.1 k)).imp aO.2 id),r⟩
def _root_.Go.W.LH.FV(H:LH M w0 w L D)(i:Nat){e:Nat}{own:List Nat}{l k:List Nd}{P:Program}{g:FuncId}{args:Array ab}{A:cr->Prop}{K:aH}(U:L[i]? =some (.bu e own l))(z:ak P g args w λr d=>A r/\rh w e own k d)(B:∀r d h,A r->LH M w0 d (L.set i (.bu e h k)) D->K r d)(br:∀b∈V,En.g b∈L:=by simp):ee V P g args w K:=
 ⟨(·∈own),λb y C=>nN H U (Sx w e own l) (br b y) (aO.2 C),z.mono λr d ⟨x,j⟩=>by obtain⟨_,_,f,_⟩:=id j;obtain⟨h,q,_⟩:=H.Sw i U j;exact⟨f,B r d h x q⟩⟩
end
def hv.nil(w:J):rh w (w.heap.size+2) [] [] ((((w.alloc (.map #[] 0)).alloc (.map #[] 0)).alloc (.cells #[.slice none 0 0,.map (some w.heap.size),.map (some (w.heap.size+1))] tK))):=by
 have k:(w.alloc (.map #[] 0)).heap.size=w.heap.size+1:=size_alloc _ _;have y:((w.alloc (.map #[] 0)).alloc (.map #[] 0)).heap.size=w.heap.size+2:=by rw[size_alloc,k]
 have q:(w.alloc (.map #[] 0)).heap[w.heap.size]? =some (.map #[] 0):=jV w _;have x:=(Fr.alloc F0 (w.alloc (.map #[] 0)) (.map #[] 0)).at q id;have j:=jV (w.alloc (.map #[] 0)) (.map #[] 0);rw[k]at j;have d:=Fr.alloc F0 ((w.alloc (.map #[] 0)).alloc (.map #[] 0)) (.cells #[.slice none 0 0,.map (some w.heap.size),.map (some (w.heap.size+1))] tK);have c:=jV ((w.alloc (.map #[] 0)).alloc (.map #[] 0)) (.cells #[.slice none 0 0,.map (some w.heap.size),.map (some (w.heap.size+1))] tK);rw[y]at c;have f:ah w (((w.alloc (.map #[] 0)).alloc (.map #[] 0)).alloc (.cells #[.slice none 0 0,.map (some w.heap.size),.map (some (w.heap.size+1))] tK)):=((Fr.alloc F0 w _).dD (Fr.alloc F0 _ _)).dD d;refine⟨_,⟨⟨none,0,0⟩,w.heap.size,w.heap.size+1,#[],0,#[],0,rfl,?_,λA h=>?_,rfl,rfl⟩,f.nZ,λz e=>?_⟩
 .show ([w.heap.size+2]++([]++([w.heap.size]++([w.heap.size+1]++[])))).Nodup;simp
 .simp only[av,aR,aT]at h;rcases h with rfl|rfl|rfl|rfl
  .exact c
  .exact aK.nil _ _ _
  .exact d.at x id
  .exact d.at j id
 .have e:z∈[w.heap.size+2]++([]++([w.heap.size]++([w.heap.size+1]++[]))):=e;simp at e;right;omega
def EZ{g:List Nx}(h:Vg g):∀i e,g[i]? =some e->e∉g.take i:=by
 induction h with
 |nil=>intro i e d;simp at d
 |@snoc g n w x k q=>
  intro i e d;rcases Nat.lt_or_ge i g.length with j|j
  .rw [List.getElem?_append_left j]at d;rw[List.take_append_of_le_length (by omega)];exact q i e d
  .rw [List.getElem?_append_right j]at d;have:i - g.length=0:=by have:=(bO.1 d).1;simp at this;omega
   rw[this]at d;simp at d;subst d;rw[show i=g.length by omega,List.take_left];exact k
def QD{g:List Nx}(h:Vg g){i:Nat}{d:Nx}(e:g[i]? =some d)(x:d.op=0):jG (g.take i) d.tx=none:=by
 cases A:jG (g.take i) d.tx with
 |none=>rfl
 |some s=>
  obtain⟨k,j,q,w,_⟩:=EW A;obtain⟨B,y⟩:=List.mem_iff_getElem?.1 (m8 j);have z:=h.vars k (m8 j) q d (aE e) x w;have:=var_eq (h.Eh B k y) (h.Eh i d e) q x w z;exact absurd (this▸j) (EZ h i d e)
def Sb{w:J}{s:Sl}{l:List Nd}(h:GP w s l)(O:Vg (xs l))(N:∀e∈xs l,e9 e)(hl:l.length<=100000):
  ak aa Mm #[.agg #[s.v]] w λr D=>(∃j own,r=ag (.pointer (some (ae j)))/\hv D j l own/\∀A∈own,w.heap.size<=A)/\ah w D:=by
 have hn:=gZ h;have P:LH F0 w w [] [.gr s l]:=bP _ (by intro L C;simp only[av,aR,aT]at C;subst C;exact bV.2 h)
 have loop:∀(m i z j:Nat) (own:List Nat) (q:J),i+m=l.length->LH F0 w q [.g z,.bu j own (l.take i)] [.gr s l]->
   wy.a2 (ae j) s ((s.n:Nat):Int) (i:Int) q λr D=>(∃j own,r=ag (.pointer (some (ae j)))/\hv D j l own/\∀A∈own,w.heap.size<=A)/\ah w D:=by
  intro m;induction m with
  |zero=>
   intro i z j own q V y;refine wy.bB _ _ _ _ _ _ (a1 (aV (by omega)) ⟨⟨j,own,rfl,?_,λA K=>(y.new _ (aE (i:=1) rfl) A (aO.2 K)).resolve_right id⟩,y.fr⟩);have:=y.get 1;rw[List.take_of_length_le (by omega)]at this;exact this
  |succ m Y=>
   intro i z j own q V y;have B:l[i]? =some (l[i]'(by omega)):=a6 (by omega);generalize l[i]'(by omega)=e at B;refine wy.bB _ _ _ _ _ _ (a3 (aP (by omega)) (hM (bV.1 (y.getD 0)) rfl B λp hp c=>⟨e.x.op,e.ks,e.x.n,e.x.m,e.x.u,e.x.tx,e.x.st.k,e.x.st.n,e.x.st.x,c.c0,c.c1,c.c2,c.c3,c.c4,c.c5,c.c6,c.c7,c.c8,y.aJ λb5 w2 F=>F.ai λw3 E=>?_⟩));have I:=aE B;have M:=tT B;have G:xs (l.take i)=(xs l).take i:=by simp[xs,List.map_take]
   have T:l.take (i+1)=l.take i++[e]:=by rw[ej,B];rfl
   refine E.FV 1 rfl (FQ (l:=l.take i) (d:=e) (E.get 1) ((bV.1 (E.getD 0)).2 e I) (λb H W=>E.dj (.gr s l) (by simp) b (l4.2 (.inr ⟨e,I,H⟩)) (.bu j own (l.take i)) (by simp) (aO.2 W)) (N _ (ch.2 ⟨e,I,rfl⟩)) (λL C=>(N L (by rw[G]at C;exact m8 C)).u.1) (by rw[eA];omega) (by rw[G];exact EZ O i e.x M) (λU=>by rw[G];exact QD O M U)) ?_;rintro _ w4 Z rfl Q;refine⟨_,rfl,?_⟩;rw[bd _ (by omega)];refine Y (i+1) z j Z w4 (by omega) ?_;rw[T];exact Q.take 2
 refine wy.aD s w _ (P.aJ λz q y=>?_);obtain⟨own,r,f,o⟩:=hv.nil q;have F:=(y.fresh (f.mono λA _ K=>by cases K)).own (.bu (q.heap.size+2) own []) r (λb H=>(o b (aO.1 H)).resolve_left (by simp));have S:((q.alloc (.map #[] 0)).alloc (.map #[] 0)).heap.size=q.heap.size+2:=by rw[size_alloc,size_alloc]
 have:=loop l.length 0 z (q.heap.size+2) own _ (by omega) F;have s1:(q.alloc (.map #[] 0)).heap.size=q.heap.size+1:=size_alloc _ _;rw[<-S,<-s1]at this;exact this
def oq:List Nx->List Nx->Int
 |_,[]=>0
 |g,n::r=>if(cq g n).2≠0 then(cq g n).2 else if(cq g n).1≠n.st then 9 else if n∈g then 8 else oq (g++[n]) r
def QE(g:List Nx)(n:Nx)(r:List Nx):oq g (n::r)=if(cq g n).2≠0 then(cq g n).2 else if(cq g n).1≠n.st then 9 else if n∈g then 8 else oq (g++[n]) r:=rfl
def gv(g:List Nx):Int:=if 4096<g.length then 4 else oq [] g
def UP{g:List Nx}{n:Nx}:(nL g n).2=aq (n∈g):=by
 unfold nL;cases d:hg n g 0 with
 |none=>exact(aV (B1 d)).symm
 |some i=>exact(aP (aE (xS d).2)).symm
def Ez{w:J}{s:Sl}{l:List Nd}(h:GP w s l)(hk:cH.P w)(D:l.length<=4096->∀e∈l,oE e.x/\e9 e.x):
  ak aa Ma #[.agg #[s.v]] w λr U=>r=ag (.i (gv (xs l)))/\ah w U:=by
 have hn:=gZ h;have an:(xs l).length=l.length:=by simp[xs]
 have ab:LH F0 w w [] [.gr s l,cH]:=bP _ (by
  intro I E;simp only[av,aR,aT]at E;rcases E with rfl|rfl
  .exact bV.2 h
  .exact hk)
 refine wv.aD s w _ (ab.aJ λC F y=>aG (λac=>⟨by unfold gv;rw[aj (by omega)],y.fr⟩) (λac=>?_));have D:=D (by omega);have al:gv (xs l)=oq [] (xs l):=by unfold gv;rw[af (by omega)]
 rw[al];have loop:∀(m i C j:Nat) (own:List Nat) (F:J),i+m=l.length->Vg ((xs l).take i)->oq ((xs l).take i) ((xs l).drop i)=oq [] (xs l)->LH F0 w F [.g C,.bu j own (l.take i)] [.gr s l,cH]->
   wv.a2 (some (ae j)) s ((s.n:Nat):Int) (i:Int) F λr U=>r=ag (.i (oq [] (xs l)))/\ah w U:=by
  intro m;induction m with
  |zero=>
   intro i C j own F hi T q y;refine wv.bB _ _ _ _ _ _ (a1 (aV (by omega)) ⟨?_,y.fr⟩);rw[<-q,dC (by omega)];rfl
  |succ m ih=>
   intro i C j own F hi T q y;have L:l[i]? =some (l[i]'(by omega)):=a6 (by omega);have Z:(xs l).drop i=(l[i]'(by omega)).x::(xs l).drop (i+1):=by rw[dy (by omega:i<(xs l).length)];simp[xs]
   generalize l[i]'(by omega)=e at L Z;have B:=aE L;have V:=tT L;have K:xs (l.take i)=(xs l).take i:=by simp[xs,List.map_take]
   have es:l.take (i+1)=l.take i++[e]:=by rw[ej,L];rfl
   have ex:(xs l).take (i+1)=(xs l).take i++[e.x]:=by rw[ej,V];rfl
   rw[Z,QE]at q;have Y:∀I∈xs (l.take i),0<=I.u:=λI E=>by obtain⟨a,ha,rfl⟩:=ch.1 E;exact(D a (m8 ha)).2.u.1
   refine wv.bB _ _ _ _ _ _ (a3 (aP (by omega)) (hM (bV.1 (y.getD 0)) rfl L λp hp c=>⟨e.x.op,e.ks,e.x.n,e.x.m,e.x.u,e.x.tx,e.x.st.k,e.x.st.n,e.x.st.x,c.c0,c.c1,c.c2,c.c3,c.c4,c.c5,c.c6,c.c7,c.c8,y.aJ λb5 w2 O=>O.ai λw3 G=>?_⟩));refine G.ay (Sc (l:=l.take i) (d:=e) (G.get 1) (λI E=>(bV.1 (G.getD 0)).2 I (m8 E)) ((bV.1 (G.getD 0)).2 e B) (G.getD 1) (D e B).1 (by rw[eA];omega) (by rw[K];exact T.val)) ?_;rintro _ w4 rfl H4;rw[K];refine⟨_,_,_,_,rfl,H4.aJ λb6 w5 Q=>dv (λA=>Q.ai λw6 z=>⟨by rw[<-q,aj A],z.fr⟩) (λA=>y6 (a:=(cq ((xs l).take i) e.x).1) (b:=e.x.st) (λN=>Q.ai λw6 z=>⟨by rw[<-q,af (λh=>h A),aj N],z.fr⟩) (λN=>Q.ai λw6 z=>?_))⟩;rw[af (λh=>h A),af (λh=>h N)]at q;refine z.ay (R' (l:=l.take i) (d:=e) (z.get 1) ((bV.1 (z.getD 0)).2 e B) (D e B).2 Y) ?_;rintro _ w7 rfl H;refine⟨_,_,rfl,?_⟩;rw[UP,K];refine aG (λM=>⟨by rw[<-q,aj M],H.fr⟩) (λM=>?_);rw[af M]at q;have W:Vg ((xs l).take (i+1)):=by rw[ex];exact .snoc T (by rw[<-N,<-A]) M
   have gt:((xs l).take (i+1))[i]? =some e.x:=by rw[List.getElem?_take,aj (by omega)];exact V
   have ad:((xs l).take (i+1)).take i=(xs l).take i:=by rw[List.take_take];congr 1;omega
   refine H.FV 1 rfl (FQ (l:=l.take i) (d:=e) (H.get 1) ((bV.1 (H.getD 0)).2 e B) (λb S hm=>H.dj (.gr s l) (by simp) b (l4.2 (.inr ⟨e,B,S⟩)) (.bu j own (l.take i)) (by simp) (aO.2 hm)) (D e B).2 Y (by rw[eA];omega) (by rw[K];exact M) (λA=>by rw[K,<-ad];exact QD W gt A)) ?_;rintro _ w8 am rfl H8;refine⟨_,rfl,?_⟩;rw[bd _ (by omega)];refine ih (i+1) C j am w8 (by omega) W (by rw[ex];exact q) ?_;rw[es];exact H8.take 2
 refine y.hD (Sb (s:=⟨none,0,0⟩) (l:=[]) ⟨bx.nil 9 F,by simp⟩ .nil (by simp[xs]) (by simp)) ?_;rintro _ w2 ⟨j,own,rfl,r,o⟩ _ F2;have O:=F2.own (.bu j own []) r (λb S=>o b (aO.1 S));exact⟨_,rfl,loop l.length 0 C j own w2 (by omega) .nil rfl O⟩
def _root_.Go.W.En.wr(k:Nat)(V:List UInt8)(own:List Nat):En:=⟨ju own,λe=>fv e k V own,λe y x j=>(by obtain⟨s,rfl,q,h⟩:=j;have w:∀b∈k::aw s,y.heap[b]? =e.heap[b]?:=λb d=>x b (aO.2 d) (fv.lt ⟨s,rfl,q,h⟩ b d);exact⟨s,rfl,(w k (by simp)).trans q,h.1,h.2.cb λb d _=>w b (by simp[d])⟩),λe j b d=>j.lt b (aO.1 d),nX _⟩
def aaE(e:Nat)(V:List UInt8)(own:List Nat)(w:J)(b:Nat):¬(En.wr e V own).P ({w with heap:=Array.replicate (b+1) (.map #[] 0)}):=by rintro⟨s,_,d,_⟩;simp[Array.getElem?_replicate]at d
section
variable {M:Nat->Prop} {w0 w:J} {L D:List En} {V:List Nat}
def _root_.Go.W.LH.wm(H:LH M w0 w L D)(i:Nat){d:Nat}{l k:List UInt8}{own:List Nat}{g:FuncId}{args:Array ab}{K:aH}(U:L[i]? =some (.wr d l own))(q:fv w d l own->ak aa g args w (lW w d own k))(x:∀h e,LH M w0 h (L.set i (.wr d k e)) D->K (ag (.tuple #[])) h)(br:∀b∈V,En.g b∈L:=by simp):ee V aa g args w K:=by
 refine⟨(·∈own),λb j y=>?_,(q (H.get i U)).mono λr h ⟨z,e,B,f,o⟩=>⟨f,?_⟩⟩
 .exact nN H U (aaE d l own w) (br b j) (aO.2 y)
 .subst z;refine x h e (H.gu i (.wr d k e) U (f.mono λC _ A=>aO.2 A) B λb j=>?_);exact(o b (aO.1 j)).imp aO.2 id
def _root_.Go.W.LH.MM(H:LH M w0 w L D){K:J->Prop}(h:∀d,LH M w0 d (L++[.wr w.heap.size [] [w.heap.size]]) D->K d):cZ w (.cells #[.slice none 0 0] q3) K:=
 h _ (H.push _ (Fr.alloc _ _ _) (fv.new w) λb e=>by have:=aO.1 e;simp at this;omega)
end
def dK(g:List Nx):List UInt8:=bL g.length++g.flatMap dq
def yr{z:Nat}:∀{g:List Nx},(∀d∈g,(dq d).length<=z)->(g.flatMap dq).length<=z *g.length
 |[],_=>by simp
 |d::g,e=>by have k:=yr (g:=g) λh j=>e h (by simp[j]);have q:=e d (by simp);simp only[b',a7,db];rw[Nat.mul_add,Nat.mul_one];omega
def Fg(g:List Nx)(w:J)(r:cr)(Y:J):Prop:=∃t:Sl,r=ag (.tuple #[t.v,.i (gv g)])/\(gv g=0->eU Y t (dK g)/\∀b∈aw t,w.heap.size<=b)
def ZW{w:J}{s:Sl}{l:List Nd}(h:GP w s l)(hk:cH.P w)(z:l.length<=4096->∀d∈l,oE d.x/\e9 d.x)(hz:∀d∈xs l,(dq d).length<=1000000):
  ak aa L' #[.agg #[s.v]] w λr k=>Fg (xs l) w r k/\ah w k:=by
 have N:=gZ h;have ag:(xs l).length=l.length:=by simp[xs]
 have U:LH F0 w w [] [.gr s l,cH]:=bP _ (by
  intro I A;simp only[av,aR,aT]at A;rcases A with rfl|rfl
  .exact bV.2 h
  .exact hk)
 refine wu.aD s w _ (U.aJ λE w1 C=>C.ay (Ez (bV.1 (C.getD 0)) (C.getD 1) z) ?_);rintro _ B rfl H;refine⟨_,rfl,dv (λj=>⟨⟨⟨none,0,0⟩,rfl,λh=>absurd h j⟩,H.fr⟩) (λj=>H.MM λw3 V=>?_)⟩;have ac:l.length<=4096:=by
  rcases Nat.lt_or_ge 4096 l.length with h|h
  .unfold gv at j;rw[aj (by omega)]at j;cases j
  .exact h
 have z:=z ac;have Q:∀i,(((xs l).take i).flatMap dq).length<=4096000000:=λi=>by
  have:=yr (g:=(xs l).take i) λd Z=>hz d (m8 Z);rw[eA]at this;have h2:min i (xs l).length<=4096:=by omega
  omega
 have M:a5 ((s.n:Nat):Int):=⟨by omega,by omega⟩;have A:=dh _ M;rw[N]at A;refine V.wm 1 rfl (λr=>lM r _ M (by simp)) λS own D=>?_;have D:LH F0 w S [.g E,.wr B.heap.size (bL ((l.length:Nat):Int)++((xs l).take 0).flatMap dq) own] [.gr s l,cH]:=by rw[List.take_zero,List.flatMap_nil,dt,<-N];exact D
 have loop:∀(m i:Nat) (own:List Nat) (q:J),i+m=l.length->LH F0 w q [.g E,.wr B.heap.size (bL ((l.length:Nat):Int)++((xs l).take i).flatMap dq) own] [.gr s l,cH]->
   wu.a2 E s (ae B.heap.size) ((s.n:Nat):Int) (i:Int) q λr k=>Fg (xs l) w r k/\ah w k:=by
  intro m;induction m with
  |zero=>
   intro i own q ab e;refine wu.bB _ _ _ _ _ _ _ (a1 (aV (by omega)) ?_);have al:fv q B.heap.size (bL ((l.length:Nat):Int)++((xs l).take i).flatMap dq) own:=e.get 1;refine ha ((E1 al (by have:=Q i;simp only[a7];omega)).mono ?_);rintro _ T ⟨t,rfl,O,K,hf⟩;rw[List.take_of_length_le (by omega)]at O;refine⟨K,t,rfl,⟨t,by rw[j],λ_=>⟨?_,λb F=>a8 e.fr.size (hf b F)⟩⟩,e.fr.dD K⟩;unfold dK;rw[ag];exact O
  |succ m ih=>
   intro i own q ab e;have y:l[i]? =some (l[i]'(by omega)):=a6 (by omega);generalize l[i]'(by omega)=d at y;have G:=aE y;have Y:=tT y;have ex:(xs l).take (i+1)=(xs l).take i++[d.x]:=by rw[ej,Y];rfl
   refine wu.bB _ _ _ _ _ _ _ (a3 (aP (by omega)) (Vw (bV.1 (e.getD 0)) y rfl λp hp c=>?_));have L:∀b,b∈(En.gr s l).fp->b∉own:=λb F hm=>e.dj (.gr s l) (by simp) b F _ (aE (i:=1) rfl) (aO.2 hm);have ad:(p.add (aZ (i:Int) *9)).block∈(En.gr s l).fp:=by refine l4.2 (.inl ?_);show _∈(if l.flatMap Nd.c=[]then[]else aw s);rw[af (λI=>by have:=congrArg List.length I;rw[Nd.eW]at this;simp at this;omega)];simp[aw,hp,iz]
   refine e.wm 1 rfl (λr=>PX r c ((bV.1 (e.getD 0)).2 d G) (L _ ad) (λam hx=>L am (l4.2 (.inr ⟨d,G,hx⟩))) (z d G).2 (by have:=Q i;simp only[a7];omega)) λT ai W=>⟨rfl,?_⟩;rw[bd _ (by omega)];refine ih (i+1) ai T (by omega) ?_;rw[ex,cy,<-cp,b',List.flatMap_nil,dt];exact W
 exact⟨rfl,loop l.length 0 own S (by omega) D⟩
def Xf{n:Nx}(W:e9 n)(A:n.kids.length<=100)(B:n.tx.size<=1000):(dq n).length<=1000000:=by have e:=dh _ W.op;have h:=mT _ W.ks;have j:=dh _ W.n;have k:=dh _ W.m;have q:=eI n.u.toNat (by have:=W.u;omega);have w:=dh _ W.sk;have x:=dh _ W.sn;have y:=dh _ W.sx;have z:=eI n.kids.length (by omega);have d:=eI (bl n.tx).length (by rw[dP];omega);have C:=dP n.tx;unfold dq cG dJ;simp only[a7];omega
def NV:∀(n:Nat) (st:RS),(eQ n st).2.V.length<=st.V.length
 |0,st=>bg _
 |n+1,st=>by
  have h:(be st).2.V.length<=st.V.length:=yV (st:=st) (bg _);simp only[eQ];by_cases e:(be st).2.err≠0
  .simp only[aj e];exact h
  .simp only[af e];have j:=NV n (be st).2;by_cases d:(eQ n (be st).2).2.err≠0
   .simp only[aj d];omega
   .simp only[af d];omega
def yU(st:RS):(dc st).1.length<=st.V.length/\(dc st).2.V.length<=st.V.length:=by
 have d:=NR st;unfold dc;generalize hO st=q at d ⊢;obtain⟨n,s⟩:=q;dsimp only at d ⊢;split
 .exact ⟨dn _,d.2⟩
 .simp only[eA,List.length_drop];omega
def s7(st:RS):(cK st).1.length<=st.V.length/\(∀h∈(cK st).1,a5 h)/\(cK st).2.V.length<=st.V.length:=by
 have d:=NR st;unfold cK;generalize hO st=q at d ⊢;obtain⟨n,s⟩:=q;dsimp only at d ⊢;split
 .exact ⟨dn _,by simp,d.2⟩
 .have e:=NU n s;have j:=NV n s;exact⟨by omega,e.2,by omega⟩
def lC(st:RS):a5 (be st).1/\(be st).2.V.length<=st.V.length:=⟨Qy _ (s8 st),yV (st:=st) (bg _)⟩
def eR(st:RS):Nx×RS:=
 let o:=be st
 let d:=cK o.2
 let n:=be d.2
 let m:=be n.2
 let u:=eS m.2
 let t:=dc u.2
 let a:=be t.2
 let b:=be a.2
 let c:=be b.2
 (⟨o.1,d.1,n.1,m.1,(u.1:Int),ba t.1,⟨a.1,b.1,c.1⟩⟩,c.2)
def fS:Nat->RS->List Nx×RS
 |0,st=>([],st)
 |n+1,st=>((eR st).1::(fS n (eR st).2).1,(fS n (eR st).2).2)
def fy(V:List UInt8):List Nx×Int:=
 if(be ⟨V,0⟩).1<0\/4096<(be ⟨V,0⟩).1 then([],2)else
 if j6 (fS (be ⟨V,0⟩).1.toNat (be ⟨V,0⟩).2).2≠0 then([],2)else
 if gv (fS (be ⟨V,0⟩).1.toNat (be ⟨V,0⟩).2).1≠0 then([],2)else((fS (be ⟨V,0⟩).1.toNat (be ⟨V,0⟩).2).1,0)
def Yn{d:Nx}(W:e9 d)(r:List UInt8):eR ⟨dq d++r,0⟩=(d,⟨r,0⟩):=by
 obtain⟨op,e,n,m,u,h,⟨a,b,c⟩⟩:=d;have j:=W.u;have w:=W.tx;have q:=W.kl;dsimp only at j w q;have k:dq ⟨op,e,n,m,u,h,⟨a,b,c⟩⟩++r=bL op++(cG e++(bL n++(bL m++(dU u.toNat++(dJ (bl h)++(bL a++(bL b++(bL c++r)))))))):=by unfold dq;simp only[cp]
 unfold eR;rw[k];dsimp only;rw[lB _ W.op];dsimp only;rw[s6 e (by omega) W.ks];dsimp only;rw[lB _ W.n];dsimp only;rw[lB _ W.m];dsimp only;rw[DF _ (by omega)];dsimp only;rw[yT (bl h) (by rw[dP];omega)];dsimp only;rw[lB _ W.sk];dsimp only;rw[lB _ W.sn];dsimp only;rw[lB _ W.sx,lX,Int.toNat_of_nonneg j.1]
def NY:∀{g:List Nx} (_:∀d∈g,e9 d) (r:List UInt8),fS g.length ⟨g.flatMap dq++r,0⟩=(g,⟨r,0⟩)
 |[],_,r=>rfl
 |d::g,W,r=>by rw[b',cp,db];unfold fS;rw[Yn (W d (by simp))];dsimp only;rw[NY (λe h=>W e (by simp[h]))]
def G9{g:List Nx}(W:∀e∈g,e9 e)(k:g.length<=4096)(j:gv g=0):fy (dK g)=(g,0):=by have h:be ⟨dK g,0⟩=((g.length:Int),⟨g.flatMap dq,0⟩):=lB _ ⟨by omega,by omega⟩ _;have d:=NY W [];rw[dt]at d;unfold fy;rw[h];dsimp only;rw[bF,d,af (by omega)];dsimp only;rw[af (by unfold j6;simp),af (by simpa using j)]
def Ym{st:RS}(h:(eR st).2.err=0):st.err=0/\st.V=dq (eR st).1++(eR st).2.V:=by obtain⟨I,z⟩:=lA h;obtain⟨H,y⟩:=lA I;obtain⟨G,x⟩:=lA H;obtain⟨F,w⟩:=DC G;obtain⟨E,q⟩:=DD F;obtain⟨D,k⟩:=lA E;obtain⟨C,j⟩:=lA D;obtain⟨B,e⟩:=s5 C;obtain⟨A,d⟩:=lA B;refine⟨A,?_⟩;rw[d,e,j,k,q,w,x,y,z];unfold dq eR;simp only[cp,bF,mG]
def NX:∀(n:Nat) {st:RS},(fS n st).2.err=0->st.err=0/\st.V=(fS n st).1.flatMap dq++(fS n st).2.V/\(fS n st).1.length=n
 |0,st,d=>⟨d,rfl,rfl⟩
 |n+1,st,d=>by obtain⟨e,h,q⟩:=NX n (st:=(eR st).2) d;obtain⟨j,k⟩:=Ym e;refine⟨j,?_,by show(fS n (eR st).2).1.length+1=n+1;omega⟩;show st.V=((eR st).1::(fS n (eR st).2).1).flatMap dq++(fS n (eR st).2).2.V;rw[b',cp,<-h];exact k
def Um{V:List UInt8}(h:(fy V).2=0):dK (fy V).1=V/\gv (fy V).1=0:=by
 unfold fy at h ⊢;split at h
 .cases h
 .rename_i z;rw[af z];split at h
  .cases h
  .rename_i d;rw[af d];split at h
   .cases h
   .rename_i q;rw[af q];have d:j6 (fS (be ⟨V,0⟩).1.toNat (be ⟨V,0⟩).2).2=0:=by simpa using d
    unfold j6 at d;have w:(fS (be ⟨V,0⟩).1.toNat (be ⟨V,0⟩).2).2.err=0:=by
     split at d
     .rename_i e;exact absurd d e
     .rename_i e;simpa using e
    rw[af (by simpa using w)]at d;have A:(fS (be ⟨V,0⟩).1.toNat (be ⟨V,0⟩).2).2.V=[]:=by
     split at d
     .cases d
     .rename_i e;exact List.eq_nil_of_length_eq_zero (by omega)
    obtain⟨x,j,y⟩:=NX _ w;obtain⟨B,k⟩:=lA (st:=⟨V,0⟩) x;refine⟨?_,by simpa using q⟩;rw[A,dt]at j;unfold dK;dsimp only at k ⊢;rw[y,<-j,Int.toNat_of_nonneg (by omega)];exact k.symm
def NW(st:RS)(w:st.V.length<=1000000):e9 (eR st).1/\(eR st).2.V.length<=st.V.length/\(eR st).1.kids.length<=st.V.length/\(eR st).1.tx.size<=st.V.length:=by have d:=lC st;have e:=s7 (be st).2;have s3:=lC (cK (be st).2).2;have h:=lC (be (cK (be st).2).2).2;have x:=yV (st:=(be (be (cK (be st).2).2).2).2) (bg _);have z:=s8 (be (be (cK (be st).2).2).2).2;have y:=yU (eS (be (be (cK (be st).2).2).2).2).2;have j:=lC (dc (eS (be (be (cK (be st).2).2).2).2).2).2;have k:=lC (be (dc (eS (be (be (cK (be st).2).2).2).2).2).2).2;have q:=lC (be (be (dc (eS (be (be (cK (be st).2).2).2).2).2).2).2).2;unfold eR;dsimp only;refine⟨⟨d.1,e.2.1,by dsimp only;omega,s3.1,h.1,⟨by dsimp only;omega,by dsimp only;omega⟩,by dsimp only;rw[cS];omega,j.1,k.1,q.1⟩,by omega,by omega,by rw[cS];omega⟩
def NZ:∀(n:Nat) (st:RS),st.V.length<=1000000->∀d∈(fS n st).1,e9 d/\d.kids.length<=st.V.length/\d.tx.size<=st.V.length
 |0,st,_,d,e=>by cases e
 |n+1,st,w,d,e=>by
  obtain⟨j,y,k,q⟩:=NW st w;rcases av.1 e with h|e
  .rw [h];exact⟨j,k,q⟩
  .obtain ⟨x,z,A⟩:=NZ n (eR st).2 (by omega) d e;exact⟨x,by omega,by omega⟩
def gX(d:Nat):UInt8:=UInt8.ofNat (48+d)
def vp(c:UInt8):Bool:=aq (48<=c.toNat)&&aq (c.toNat<=57)
def bZ(n:Nat):List UInt8:=if n<10 then[gX n]else bZ (n / 10)++[gX (n%10)]
termination_by n
def ck(n:Int):List UInt8:=if n<0 then 45::bZ n.natAbs else bZ n.natAbs
def Bl:∀d<10,(gX d).toNat=48+d:=by decide
def Ha:∀d<10,vp (gX d)=true:=by decide
def nI{n:Nat}(h:n<10):bZ n=[gX n]:=by rw[bZ,aj h]
def r4{n:Nat}(h:¬n<10):bZ n=bZ (n / 10)++[gX (n%10)]:=by rw[bZ,af h]
def Bh(n:Nat):∀c∈bZ n,vp c=true:=by
 induction n using Nat.strongRecOn with
 |_ n h=>
  by_cases e:n<10
  .rw [nI e];intro c d;rw[List.mem_singleton.1 d];exact Ha n e
  .rw [r4 e];intro c d;rcases aX.1 d with d|d
   .exact h (n / 10) (by omega) c d
   .rw [List.mem_singleton.1 d];exact Ha _ (Nat.mod_lt _ (by omega))
def tM(a:Nat)(l:List UInt8):Nat:=l.foldl (λa c=>10 *a+(c.toNat - 48)) a
def aaq(a:Nat)(l:List UInt8)(c:UInt8):tM a (l++[c])=10 *tM a l+(c.toNat - 48):=by unfold tM;rw[List.foldl_append];rfl
def ET(n:Nat):tM 0 (bZ n)=n:=by
 induction n using Nat.strongRecOn with
 |_ n e=>
  by_cases d:n<10
  .rw [nI d];show 10 *0+((gX n).toNat - 48)=n;rw[Bl n d];omega
  .rw [r4 d,aaq,e (n / 10) (by omega),Bl _ (Nat.mod_lt _ (by omega))];omega
def Bi(n:Nat):bZ n≠[]:=by
 by_cases d:n<10
 .rw [nI d];simp
 .rw [r4 d];simp
def xw{n k:Nat}(w:1<=k)(h:n<10^k):(bZ n).length<=k:=by
 induction k generalizing n with
 |zero=>omega
 |succ k q=>
  by_cases e:n<10
  .rw [nI e];simp
  .have j:1<=k:=by
    rcases Nat.eq_zero_or_pos k with d|d
    .subst d;rw[Nat.zero_add,Nat.pow_one]at h;omega
    .exact d
   have:n / 10<10^k:=by rw[Nat.div_lt_iff_lt_mul (by omega),<-Nat.pow_succ];exact h
   rw[r4 e,a7];have:=q j this;simp only[db,fC];omega
def Uj(n:Nat):bZ n=(List.range (bZ n).length).map λd=>gX (n / 10^((bZ n).length - 1 - d)%10):=by
 induction n using Nat.strongRecOn with
 |_ n k=>
  by_cases e:n<10
  .rw [nI e];show _=[gX (n / 10^0%10)];rw[Nat.pow_zero,Nat.div_one,Nat.mod_eq_of_lt e]
  .have i:=k (n / 10) (by omega);rw[r4 e,a7,db,fC,Nat.zero_add,List.range_succ,List.map_append];have q:1<=(bZ (n / 10)).length:=by
    cases j:bZ (n / 10)with
    |nil=>exact absurd j (Bi _)
    |cons c l=>simp
   congr 1
   .conv=>lhs;rw[i]
    refine List.map_congr_left λd h=>?_;have h:=List.mem_range.1 h;rw[Nat.div_div_eq_div_mul,<-Nat.pow_succ',show((bZ (n / 10)).length - 1 - d).succ=(bZ (n / 10)).length+1 - 1 - d by omega]
   .simp
def ES(l:List UInt8)(h:∀c∈l,vp c=true):tM 0 l<10^l.length:=by
 have gen:∀(r l:List UInt8),(∀c∈r,vp c=true)->∀a,a<10^l.length->tM a r<10^(l.length+r.length):=by
  intro r;induction r with
  |nil=>intro l _ a d;exact d
  |cons c r w=>
   intro l j a d;have e:=j c (by simp);unfold vp at e;simp only[bf,decide_eq_true_eq]at e;have:=w (l++[c]) (λk q=>j k (by simp[q])) (10 *a+(c.toNat - 48)) (by rw[a7,db,fC,Nat.zero_add,Nat.pow_succ];omega);rw[a7,db,fC,Nat.zero_add,Nat.add_assoc,Nat.add_comm 1]at this;exact this
 simpa using gen l [] h 0 (by simp)
def nP:List Int->List UInt8
 |[]=>[]
 |[n]=>ck n
 |n::m::r=>ck n++32::nP (m::r)
def iH(l:List Int):List UInt8:=40::nP l++[41]
def B'(n m:Int)(r:List Int):nP (n::m::r)=ck n++32::nP (m::r):=rfl
structure cv where
 kind:Int
 node:Int
 du:Int
 params:List Int
 nm:ByteArray
 b0:List Int
 hints:List Int
def q6:List (List UInt8):=[[103,97,116,101],[97,115,115,101,114,116],[97,120,105,111,109],[101,113,117,97,108],[108,101,109,109,97],[114,101,115,111,108,118,101]]
def mr(k:Int):List UInt8:=q6.getD k.toNat []
def nV(s:cv):List UInt8:=if bl s.nm=[]then[45]else bl s.nm
def x5(s:cv):List UInt8:=mr s.kind++32::(ck s.node++32::(ck s.du++32::(nV s++32::(iH s.params++32::(iH s.hints++32::iH s.b0)))))
def De{a:Option Addr}{p:Addr}{K:Addr->Prop}(d:a=some p)(h:K p):dM a K:=by rw[d];exact h
def mj(l:List UInt8):ab:=.string (ba l)
abbrev vu:ByteArray:=bJ #[48,48,48,49,48,50,48,51,48,52,48,53,48,54,48,55,48,56,48,57,49,48,49,49,49,50,49,51,49,52,49,53,49,54,49,55,49,56,49,57,50,48,50,49,50,50,50,51,50,52,50,53,50,54,50,55,50,56,50,57,51,48,51,49,51,50,51,51,51,52,51,53,51,54,51,55,51,56,51,57,52,48,52,49,52,50,52,51,52,52,52,53,52,54,52,55,52,56,52,57,53,48,53,49,53,50,53,51,53,52,53,53,53,54,53,55,53,56,53,57,54,48,54,49,54,50,54,51,54,52,54,53,54,54,54,55,54,56,54,57,55,48,55,49,55,50,55,51,55,52,55,53,55,54,55,55,55,56,55,57,56,48,56,49,56,50,56,51,56,52,56,53,56,54,56,55,56,56,56,57,57,48,57,49,57,50,57,51,57,52,57,53,57,54,57,55,57,56,57,57]
abbrev Ws:ByteArray:=bJ #[48,49,50,51,52,53,54,55,56,57,97,98,99,100,101,102,103,104,105,106,107,108,109,110,111,112,113,114,115,116,117,118,119,120,121,122]
namespace IK
noncomputable abbrev t0:=aA aa Tryz.f160 [] []
def ok:=aB t0 KS [.b]
end IK
namespace IL
noncomputable abbrev t0:=aA aa Tryz.f158 [] []
def ok:=aB t0 WY [.I]
end IL
namespace IM
noncomputable abbrev t0:=aA aa Tryz.f140 [] []
def ok:=aB t0 KV [.U]
end IM
namespace jW
noncomputable abbrev t0:=aA aa Tryz.f141 [(7,ls [0,1,2,3,4,5,6,7,8,9,10,11,12,13,14]),(8,ls [0,1,2,3,4,5,6,7,8,9,10,11,12,13,14]),(9,ls [0,1,2,3,4,5,6,7,8,9,10,11,12,13,14]),(10,ls [0,1,2,3,4,5,6,7,8,9,10,11,12,13,14]),(17,ls [0,1,2,3,4,5,6,7,8,9,10,11,12,13,14]),(18,ls [0,1,2,3,4,5,6,7,8,9,10,11,12,13,14]),(23,ls [0,1,2,3,4,5,6,7,8,9,10,11,12,13,14])] []
noncomputable def L0:=bj t0 [0,2,1] [(0,.v [.s]),(1,.v [.U]),(4,.v [.I])]
noncomputable abbrev t1:=bh L0
noncomputable abbrev S5:=ax t1 [5,1,1,3,1] [(0,.v [.s]),(1,.v [.U]),(4,.v [.I]),(8,.v [.i .u32]),(9,.v [.i .u32]),(10,.v [.i .u32]),(11,.v [.i .u32])]
noncomputable abbrev t2:=az S5
noncomputable abbrev S4:=ax t2 [4,1,1,3,1] [(0,.v [.s]),(1,.v [.U]),(4,.v [.I]),(6,.v [.i .u32]),(8,.v [.i .u32]),(9,.v [.i .u32])]
noncomputable abbrev t3:=az S4
noncomputable abbrev S3:=ax t3 [3,1,1,3,1] [(0,.v [.s]),(1,.v [.U]),(4,.v [.I]),(6,.v [.i .u32]),(7,.v [.i .u32])]
noncomputable abbrev t4:=az S3
abbrev P0:Ps:=[(0,.v [.s]),(1,.v [.U]),(4,.v [.I]),(5,.v [.i .u32])]
noncomputable abbrev S2:=ax t4 [2,1,1,3,1] P0
noncomputable abbrev t5:=az S2
noncomputable abbrev S1:=ax t5 [1,1,1,3,1] P0
noncomputable abbrev t6:=az S1
abbrev P1:Ps:=[(0,.v [.s]),(4,.v [.I]),(12,.v [.i .u32])]
noncomputable abbrev Fy:=ax t6 [5] P1
noncomputable abbrev t7:=az Fy
abbrev P2:Ps:=[(0,.v [.s]),(4,.v [.I]),(12,.v [.i .u32]),(16,.v [.i .u32])]
noncomputable abbrev RF:=ax t7 [2,1,1,1,4] P2
noncomputable abbrev t8:=az RF
noncomputable abbrev wZ:=ax t8 [1,1,1,1,4] P2
noncomputable abbrev t9:=az wZ
noncomputable abbrev S9:=ax t9 [4] P1
noncomputable abbrev t10:=az S9
noncomputable abbrev S8:=ax t10 [3,1,1,1,3] [(0,.v [.s]),(4,.v [.I]),(12,.v [.i .u32]),(14,.v [.i .u32]),(15,.v [.i .u32])]
noncomputable abbrev t11:=az S8
abbrev P3:Ps:=[(0,.v [.s]),(4,.v [.I]),(12,.v [.i .u32]),(13,.v [.i .u32])]
noncomputable abbrev S7:=ax t11 [2,1,1,1,3] P3
noncomputable abbrev t12:=az S7
noncomputable abbrev S6:=ax t12 [1,1,1,1,3] P3
noncomputable abbrev t13:=az S6
def bE:=bm t13 L0
def ok:=aB t13 KU [.s,.U]
end jW
namespace IN
noncomputable abbrev t0:=aA aa Tryz.f139 [] []
def ok:=aB t0 KW [.I]
end IN
namespace vo
noncomputable abbrev t0:=aA aa Tryz.f123 [] []
noncomputable abbrev S1:=ax t0 [4,1,1,1,1] [(0,.v [.I]),(5,.v [.r]),(6,.v [.U])]
noncomputable abbrev t1:=az S1
noncomputable abbrev S0:=ax t1 [1,1,1,1,1] [(0,.v [.I])]
noncomputable abbrev t2:=az S0
def ok:=aB t2 KP [.I,.I]
end vo
namespace IJ
noncomputable abbrev t0:=aA aa Tryz.f101 [] []
def ok:=aB t0 KR [.I]
end IJ
namespace PM
noncomputable abbrev t0:=aA aa Tryz.f81 [] []
def ok:=aB t0 L7 [.I]
end PM
namespace II
noncomputable abbrev t0:=aA aa Tryz.f122 [] []
def ok:=aB t0 KO [.s,.U,.I]
end II
namespace IH
noncomputable abbrev t0:=aA aa Tryz.f100 [] []
noncomputable abbrev S0:=ax t0 [3] [(0,.v [.s]),(2,.v [.I]),(7,.v [.U])]
noncomputable abbrev t1:=az S0
def ok:=aB t1 KN [.s,.I,.I]
end IH
namespace PL
noncomputable abbrev t0:=aA aa Tryz.f80 [] []
def ok:=aB t0 L3 [.s,.I,.I]
end PL
end Go.Proofs.YthaledkcjibmfaaGreatDoor
