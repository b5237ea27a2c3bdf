import Derived.Test.YthhmdddomhknaaaGreatDoorR14
import Derived.Test.YthhmdddomhknaaaGreatDoorU
import Derived.Test.YthhmdddomhknaaaGreatDoorG9
import Derived.Laws.CopyRow
import Derived.Test.YthhmdddomhknaaaGreatDoorWB
import Derived.Lib.Bytealg
import Derived.Laws.StandIn
set_option linter.unusedVariables false
set_option maxRecDepth 100000
set_option maxHeartbeats 1000000
set_option linter.defProp false
namespace Go.Proofs.YthhmdddomhknaaaGreatDoor
open Go renaming World->J,Calls->ai,Value->aa,TypeId->aC,Ending->ch
open Go.IntKind renaming wrap->aj
open _root_.Int renaming toNat->aV,tdiv->bL,tmod->ck,toNat_natCast->bH
open _root_.ByteArray renaming mk->bG
open Go.IntWalk renaming i64_in->aQ
open _root_.Bool renaming and_eq_true->bq,not_eq_true->iR
open _root_.Nat renaming le_refl->bm,le_trans->a6,zero_le->dv,beq->bO,lt_of_lt_of_le->kr
open _root_.UInt8 renaming ofNat->cE
open _root_.Prod.mk renaming injEq->eC
open _root_.Option.some renaming injEq->eI
open Go.Proofs.Tryz renaming prog->Y
open _root_.Decidable renaming decide->ak
open Go.Ending renaming returned->ae
open List renaming mem_append->aY,mem_cons->au,not_mem_nil->aO,mem_of_getElem?->aD,getElem?_eq_getElem->a4,getElem?_eq_some_iff->cz,mem_flatMap->bS,mem_map->bZ,length_append->bc,length_cons->dE,length_nil->gS,mem_of_mem_take->nl,append_assoc->cp,length_take->gJ,flatMap_append->dt,flatMap_cons->cV,mem_cons_of_mem->e8,drop_eq_getElem_cons->dz,getElem?_map->hr,all_eq_true->ft,append_nil->eP,nil_append->lN,cons_append->jc,take_add_one->eA,map_cons->lM,drop_of_length_le->cU
open Go Go.W
def iS(s:bj)(e:Int)(r:ch):Prop:=∃(t:bj) (d:Int),r=gn (t,d)/\d=e/\(e=0->t=s)
def yk{w:J}{p:Addr}{d:Nd}(h:eb w p d):LH F0 w w [] [.i9 p d]:=bI _ (by intro j e;simp only[au,aO,aR]at e;subst e;exact h)
def ie(n:Nx)(x y z:bj):Int:=if dh n.op x y z=false then 9 else if km n x y z=false then 5 else if n.op=33/\nN n.tx=false then 2 else 0
def Zq{n:Nx}{x y z t:bj}{d ranges:Bool}(q:n.op≠33)(h:d=dh n.op x y z)(j:d=true->ranges=km n x y z)(k:d=true->ranges=true->t=hx n x y z):iS (hx n x y z) (ie n x y z) (gn (t,Ek d ranges)):=by
 refine⟨t,_,rfl,?_,λe=>?_⟩
 .unfold Ek ie;rw[<-h];cases d with
  |false=>rfl
  |true=>
   rw[<-j rfl];cases ranges with
   |false=>rfl
   |true=>simp[q]
 .unfold ie at e;rw[<-h]at e;cases d with
  |false=>simp at e
  |true=>
   rw[<-j rfl]at e;cases ranges with
   |false=>simp at e
   |true=>exact k rfl rfl
section
variable {M:Nat->Prop} {w0 w:J} {L D:List En} {U Tv:List Nat}
def ea(H:LH F0 w0 w L D){n:Nx}{x y z:bj}(t:bj)(d ranges:Bool)(B:n.op≠33)(k:d=dh n.op x y z)(q:d=true->ranges=km n x y z)(A:d=true->ranges=true->t=hx n x y z)(bp:∀b∈U,En.g b∈L:=by simp):
  ee Tv Y yF #[dO t,.bool d,.bool ranges] w λr C=>∃a b c e:Int,r=ae (.tuple #[.agg #[.i a,.i b,.i c],.i e])/\loc U C λE=>iS (hx n x y z) (ie n x y z) (ae (.tuple #[.agg #[.i a,.i b,.i c],.i e]))/\ag w0 E:=by refine H.aw (aaS t d ranges w) ?_;rintro _ F rfl h;exact⟨_,_,_,_,rfl,h.ah (λG j=>⟨Zq B k q A,j.fr⟩) bp⟩
end
def oH(s:bj):Prop:=0<=s.n/\s.n<=64
def abg{s:bj}(h:bU s=true):oH s:=⟨(lV h).1,(lV h).2.1⟩
def Np:oH cZ:=⟨by decide,by decide⟩
def aaN{w:J}{p:Addr}{d:Nd}{x y z:bj}(h:eb w p d)(h4:4<=d.x.op)(al:d.x.op<=23)(am:oH x)(hy:oH y)(hn:a7 d.x.n)(hm:a7 d.x.m):
  ai Y MU #[.pointer (some p),dO x,dO y,dO z] w λr Z=>iS (hx d.x x y z) (ie d.x x y z) r/\ag w Z:=by
 refine E5.aB _ _ _ _ _ _ _ _ _ _ w _ ((yk h).aG λb5 w1 H1=>H1.aG λb6 w2 H2=>H2.aG λb7 w3 H3=>H3.aG λb8 w4 F=>?_);obtain⟨⟨op,kids,n,m,u,M,st⟩,W⟩:=d;have C:∀{A:J} {L:List En},LH F0 w A L [.i9 p ⟨⟨op,kids,n,m,u,M,st⟩,W⟩]->eb A p ⟨⟨op,kids,n,m,u,M,st⟩,W⟩:=λad=>ad.getD 0;simp only at h4 al hn hm;refine⟨op,(C F).c0,?_⟩;obtain⟨au,av⟩:=am;obtain⟨ax,ay⟩:=hy;obtain⟨ap,ar⟩:=hn;obtain⟨an,ao⟩:=hm;have two:∀(c:Bool),c=true->c=true:=λ_ h=>h;rcases sY (by omega) (by omega:op<=34)with rfl|rfl|rfl|rfl|rfl|rfl|rfl|rfl|rfl|rfl|rfl|rfl|rfl|rfl|rfl|rfl|rfl|rfl|rfl|rfl|rfl|rfl|rfl|rfl|rfl|rfl|rfl|rfl|rfl|rfl|rfl|rfl|rfl|rfl|rfl
 iterate 4 omega
 rotate_left 20
 iterate 11 omega
 all_goals repeat (first |refine aZ rfl ?_|refine a1 rfl ?_)
 iterate 2
  .refine F.ah λA j=>j.aw (q8 x A) ?_;rintro _ D rfl q;exact⟨_,rfl,ea q x _ true (by simp) rfl (λ_=>rfl) (λ_ _=>rfl)⟩
 iterate 10
  .refine F.ah λA j=>j.aw (q8 x A) ?_;rintro _ D rfl q;refine⟨_,rfl,aL (λB=>?_) (λB=>?_)⟩
   .refine ea q x _ true (by simp) ?_ (λ_=>rfl) (λ_ _=>rfl);rw[ko];show _=(x.k==0&&ak (x=y));rw[B];rfl
   .refine ea q x _ true (by simp) ?_ (λ_=>rfl) (λ_ _=>rfl);show _=(x.k==0&&ak (x=y));rw[beq_eq_false_iff_ne.2 B];rfl
 iterate 2
  .refine F.ah λA j=>j.aw (jg 1 A) ?_;rintro _ D rfl q;refine⟨_,_,_,rfl,q.aw (q8 x D) ?_⟩;rintro _ G rfl e;refine⟨_,rfl,aL (λB=>?_) (λB=>?_)⟩
   .refine ea e (bz 1) _ true (by simp) ?_ (λ_=>rfl) (λ_ _=>rfl);rw[ko];show _=(x.k==0&&ak (x=y));rw[B];rfl
   .refine ea e (bz 1) _ true (by simp) ?_ (λ_=>rfl) (λ_ _=>rfl);show _=(x.k==0&&ak (x=y));rw[beq_eq_false_iff_ne.2 B];rfl
 .refine F.ah λA j=>j.aw (jg 1 A) ?_;rintro _ D rfl q;refine⟨_,_,_,rfl,q.aw (QL x y D) ?_⟩;rintro _ G rfl e;exact⟨_,rfl,ea e (bz 1) _ true (by simp) rfl (λ_=>rfl) (λ_ _=>rfl)⟩
 .refine F.aG λab A j=>j.ah λD q=>q.aw (jh y D) ?_;rintro _ G rfl e;have T:∀(t:bj) (H:J),((ak (y=z)||(y.k==1&&z.k==1))=true->t=if y.k=1 then eT (if y.n<z.n then z.n else y.n)else y)->LH F0 w H [.g b5,.g b6,.g b7,.g b8,.g ab] [.i9 p ⟨⟨19,kids,n,m,u,M,st⟩,W⟩]->E5.fK b5 x.k x.n x.x b6 y.k y.n y.x b7 z.k z.n z.x b8 0 0 0 ab t.k t.n t.x H λr Z=>iS (hx ⟨19,kids,n,m,u,M,st⟩ x y z) (ie ⟨19,kids,n,m,u,M,st⟩ x y z) r/\ag w Z:=by
   intro t H ht I;refine I.ah λw9 S=>S.aw (jg 1 w9) ?_;rintro _ aa rfl P;have N:dh 19 x y z=(ak (x=bz 1)&&(ak (y=z)||(y.k==1&&z.k==1))):=rfl;refine⟨_,_,_,rfl,nt (a:=x) (b:=bz 1) (λU=>P.aw (QL y z aa) ?_) (λU=>?_)⟩
   .rintro _ az rfl ae;refine⟨_,rfl,ea ae t _ true (by simp) ?_ (λ_=>rfl) (λh _=>ht h)⟩;show _=dh 19 x y z;rw[N,aS U];rfl
   .refine ea P t _ true (by simp) ?_ (λ_=>rfl) (λh _=>by cases h);show _=dh 19 x y z;rw[N,aW U];rfl
  have yes:∀t:bj,y.k=1->z.k=1->t=eT (if y.n<z.n then z.n else y.n)->((ak (y=z)||(y.k==1&&z.k==1))=true->t=if y.k=1 then eT (if y.n<z.n then z.n else y.n)else y):=λt h1 _ h3 _=>by rw[aq h1,h3]
  refine⟨_,rfl,aL (λB=>e.aw (jh z G) ?_) (λB=>T y G (λ_=>by rw[af B]) e)⟩;rintro _ H rfl I;refine⟨_,rfl,aL (λQ=>I.aw (tQ _ H) ?_) (λQ=>T y H (λhf=>?_) I)⟩
  .rintro _ w9 rfl S;exact⟨_,_,_,rfl,S.ah λaa P=>T (eT (if y.n<z.n then z.n else y.n)) aa (yes _ B Q rfl) P⟩
  .rw [beq_eq_false_iff_ne.2 Q,Bool.and_false,Bool.or_false]at hf;have:=eH hf;exact absurd (by rw[<-this];exact B) Q
 .have e1:aj .i64 (x.n+y.n)=x.n+y.n:=aQ _ (by omega);have N:dh 20 x y z=(x.k==0&&y.k==0):=rfl;refine F.ah λA j=>?_;rw[e1];refine j.aw (jg _ A) ?_;rintro _ D rfl q;refine⟨_,_,_,rfl,q.aw (q8 x D) ?_⟩;rintro _ G rfl e;refine⟨_,rfl,aL (λB=>e.aw (q8 y G) ?_) (λB=>?_)⟩
  .rintro _ H rfl I;refine⟨_,rfl,ea I (bz (x.n+y.n)) _ _ (by simp) ?_ (λ_=>rfl) (λ_ _=>rfl)⟩;show _=dh 20 x y z;rw[N,B];rfl
  .refine ea e (bz (x.n+y.n)) _ _ (by simp) ?_ (λh=>by cases h) (λh _=>by cases h);show _=dh 20 x y z;rw[N,beq_eq_false_iff_ne.2 B];rfl
 .have V:km ⟨21,kids,n,m,u,M,st⟩ x y z=(ak (0<=m)&&ak (m<=n)&&ak (n<x.n)):=rfl;refine F.ah λA j=>⟨_,(C j).c2,_,(C j).c3,_,(C j).c3,j.aw (jg _ A) ?_⟩;rintro _ D rfl q;refine⟨_,_,_,rfl,(C q).c3,q.aw (q8 x D) ?_⟩;rintro _ G rfl e;refine⟨_,rfl,(C e).c3,aF (λE=>⟨_,(C e).c3,_,(C e).c2,aF (λO=>⟨_,(C e).c2,ea e (bz _) _ _ (by simp) rfl (λ_=>?_) (λ_ K=>?_)⟩) (λO=>ea e (bz _) _ _ (by simp) rfl (λ_=>?_) (λ_ h=>by cases h))⟩) (λE=>ea e (bz _) _ _ (by simp) rfl (λ_=>?_) (λ_ h=>by cases h))⟩
  .rw [V,aS (show 0<=m from E),aS (show m<=n from O)];rfl
  .have E:0<=m:=E;have O:m<=n:=O;have K:n<x.n:=eH K;show bz (aj .i64 (aj .i64 (n - m)+1))=bz (n - m+1);rw[aQ (n - m) (by omega),aQ _ (by omega)]
  .rw [V,aW (show ¬m<=n from O),Bool.and_false];rfl
  .rw [V,aW (show ¬0<=m from E)];rfl
 iterate 2
  .have ac:aj .i64 (64 - x.n)=64 - x.n:=aQ _ (by omega);refine F.ah λA j=>⟨_,(C j).c2,_,(C j).c2,j.aw (jg _ A) ?_⟩;rintro _ D rfl q;refine⟨_,_,_,rfl,(C q).c2,q.aw (q8 x D) ?_⟩;rintro _ G rfl e;refine⟨_,rfl,(C e).c2,aF (λE=>⟨_,(C e).c2,ea e (bz _) _ _ (by simp) rfl (λ_=>?_) (λ_ K=>?_)⟩) (λE=>ea e (bz _) _ _ (by simp) rfl (λ_=>?_) (λ_ h=>by cases h))⟩
   .show _=(ak (1<=n)&&ak (n<=64 - x.n));rw[ac,aS (show 1<=n from E)];rfl
   .have E:1<=n:=E;rw[ac]at K;have K:n<=64 - x.n:=eH K;show bz (aj .i64 (x.n+n))=bz (x.n+n);rw[aQ _ (by omega)]
   .show _=(ak (1<=n)&&ak (n<=64 - x.n));rw[aW (show ¬1<=n from E)];rfl
def aay{x y z:bj}(h:ec x=true):dh 25 x y z=(ak (y=bz x.x)&&(if x.k=3 then z.k==1&&ak (z.n<=x.n)else ak (z=hM x))):=by
 show(ec x&&ak (y=bz x.x)&&(ak (z=hM x)||(x.k==3&&z.k==1&&ak (z.n<=x.n))))=_;rw[h,Bool.true_and];congr 1;by_cases d:x.k=3
 .rw [aq d,d];have j:hM x=eT x.n:=by unfold hM;rw[af (by omega)]
  rw[j];by_cases e:z=eT x.n
  .subst e;simp[eT]
  .rw [aW e];rfl
 .rw [af d,beq_eq_false_iff_ne.2 d];simp
def aaM{w:J}{p:Addr}{d:Nd}{x y z:bj}(h:eb w p d)(h4:24<=d.x.op)(al:d.x.op<=26):
  ai Y MT #[.pointer (some p),dO x,dO y,dO z] w λr I=>iS (hx d.x x y z) (ie d.x x y z) r/\ag w I:=by
 refine zD.aB _ _ _ _ _ _ _ _ _ _ w _ ((yk h).aG λK w1 H1=>H1.aG λV w2 H2=>H2.aG λM w3 H3=>H3.aG λN w4 T=>?_);have ae:∀{P:J} {L:List En},LH F0 w P L [.i9 p d]->eb P p d:=λaj=>aj.getD 0;refine⟨_,(ae T).c0,aL (λO=>T.ah λP H5=>H5.aw (jg x.x P) ?_) (λO=>T.aw (jg x.n w4) ?_)⟩
 .rintro _ w6 rfl U;refine⟨_,_,_,rfl,U.aw (E4 x w6) ?_⟩;rintro _ E rfl e;have fe:dh d.x.op x y z=(ec x&&ak (x=y)):=by rw[O];rfl
  have D:km d.x x y z=true:=by unfold km;rw[O];rfl
  have F:hx d.x x y z=bz x.x:=by unfold hx;rw[O];rfl
  refine⟨_,rfl,bB (λq=>?_) (λq=>?_)⟩
  .refine ea e (bz x.x) _ true (by omega) ?_ (λ_=>D.symm) (λ_ _=>F.symm);rw[fe,ko,q];rfl
  .refine ea e (bz x.x) _ true (by omega) ?_ (λ_=>D.symm) (λ_ _=>F.symm);rw[fe,q];rfl
 rintro _ w6 rfl U;have D:km d.x x y z=true:=by unfold km;rw[af (by omega),af (by omega),af (by omega),af (by omega),af (by omega)]
 have S1:∀(t:bj) (A:Nat) (f:Bool) (E:J),f=(ec x&&ak (y=bz x.x))->(ec x=true->t=hM x)->LH F0 w E [.g K,.g V,.g M,.g N,.g A] [.i9 p d]->zD.bM p K x.k x.n x.x M z.k z.n z.x N 0 0 0 A t.k t.n t.x f E λr I=>iS (hx d.x x y z) (ie d.x x y z) r/\ag w I:=by
  intro t A f E B H e;refine⟨_,(ae e).c0,aL (λZ=>?_) (λZ=>?_)⟩
  .refine ea e t f true (by omega) ?_ (λ_=>D.symm) (λhh _=>?_)
   .rw [B,Z];rfl
   .rw [B]at hh;simp only[bq]at hh;rw[H hh.1];unfold hx;rw[Z];rfl
  have aa:d.x.op=25:=by omega
  have F:hx d.x x y z=x:=by unfold hx;rw[aa];rfl
  have ff:f=false->dh d.x.op x y z=false:=λh=>by rw[aa];show(ec x&&ak (y=bz x.x)&&(ak (z=hM x)||(x.k==3&&z.k==1&&ak (z.n<=x.n))))=_;rw[<-B,h];rfl
  have ft:f=true->ec x=true/\dh d.x.op x y z=(if x.k=3 then z.k==1&&ak (z.n<=x.n)else ak (z=hM x)):=λh=>by rw[h]at B;have B:=B.symm;simp only[bq]at B;refine⟨B.1,?_⟩;rw[aa,aay B.1,B.2,Bool.true_and]
  refine aL (λq=>bB (λac=>e.ah λC j=>j.aw (jh z C) ?_) (λab=>e.ah λC j=>ea j x _ true (by omega) (ff ab).symm (λ_=>D.symm) (λ_ _=>F.symm))) (λq=>bB (λac=>e.ah λC j=>ea j x _ true (by omega) ?_ (λ_=>D.symm) (λ_ _=>F.symm)) (λab=>e.ah λC j=>ea j x _ true (by omega) (ff ab).symm (λ_=>D.symm) (λ_ _=>F.symm)))
  .rintro _ Q rfl G;have:=(ft ac).2;rw[aq q]at this;refine⟨_,rfl,aL (λhz=>ea G x _ true (by omega) ?_ (λ_=>D.symm) (λ_ _=>F.symm)) (λhz=>ea G x _ true (by omega) ?_ (λ_=>D.symm) (λ_ _=>F.symm))⟩
   .rw [this,hz];rfl
   .rw [this,beq_eq_false_iff_ne.2 hz];rfl
  .have W:=ft ac;rw[af q]at W;rw[W.2,ko,H W.1]
 have S0:∀(t:bj) (A:Nat) (E:J),(ec x=true->t=hM x)->LH F0 w E [.g K,.g V,.g M,.g N,.g A] [.i9 p d]->zD.bn p K x.k x.n x.x V y.k y.n y.x M z.k z.n z.x N 0 0 0 A t.k t.n t.x E λr I=>iS (hx d.x x y z) (ie d.x x y z) r/\ag w I:=by intro t A E H e;refine e.ah λC j=>j.aw (E4 x C) ?_;rintro _ Q rfl G;refine⟨_,rfl,bB (λq=>G.aw (jg x.x Q) ?_) (λq=>S1 t A false Q (by rw[q];rfl) H G)⟩;rintro _ ad rfl S;exact⟨_,_,_,rfl,S1 t A _ ad (by rw[q];exact ko y (bz x.x)) H S⟩
 refine⟨_,_,_,rfl,U.aG λA E e=>aL (λq=>e.ah λC j=>j.aw (tQ x.n C) ?_) (λq=>e.ah λC j=>S0 (bz x.n) A C (λha=>?_) j)⟩
 .rintro _ Q rfl G;exact⟨_,_,_,rfl,G.ah λad S=>S0 (eT x.n) A ad (λ_=>by unfold hM;rw[af (by omega)]) S⟩
 .unfold ec at ha;simp only[Bool.or_eq_true,beq_iff_eq]at ha;unfold hM;rw[aq (by omega)]
def xe(t:ByteArray):Prop:=∀d,ai Y Dm #[.string t] d λr e=>r=ae (.bool (nN t))/\ag d e
def aaU{w:J}{p:Addr}{d:Nd}{x y z:bj}(h:eb w p d)(ac:27<=d.x.op)(ad:d.x.op<=34)(am:oH x)(hy:oH y)(hz:oH z)(V:d.x.op=33->xe d.x.tx):
  ai Y MW #[.pointer (some p),dO x,dO y,dO z] w λr w'=>iS (hx d.x x y z) (ie d.x x y z) r/\ag w w':=by
 refine Rc.aB _ _ _ _ _ _ _ _ _ _ w _ ((yk h).aG λb5 w1 H1=>H1.aG λb6 w2 H2=>H2.aG λb7 w3 H3=>H3.aG λb8 w4 H=>?_);obtain⟨⟨op,kids,n,m,u,G,st⟩,S⟩:=d;have M:∀{A:J} {L:List En},LH F0 w A L [.i9 p ⟨⟨op,kids,n,m,u,G,st⟩,S⟩]->eb A p ⟨⟨op,kids,n,m,u,G,st⟩,S⟩:=λZ=>Z.getD 0;simp only at ac ad V;refine⟨op,(M H).c0,?_⟩;obtain⟨an,ao⟩:=am;obtain⟨ap,ar⟩:=hy;obtain⟨au,av⟩:=hz;have al:op=27\/op=28\/op=29\/op=30\/op=31\/op=32\/op=33\/op=34:=by omega
 rcases al with rfl|rfl|rfl|rfl|rfl|rfl|rfl|rfl;all_goals repeat (first |refine aZ rfl ?_|refine a1 rfl ?_)
 .refine H.ah λA B=>B.aw (jg 7 A) ?_;rintro _ C rfl j;refine⟨_,_,_,rfl,j.aw (jh x C) ?_⟩;rintro _ F rfl e;exact⟨_,rfl,ea e (bz 7) _ true (by simp) rfl (λ_=>rfl) (λ_ _=>rfl)⟩
 .have W:km ⟨28,kids,n,m,u,G,st⟩ x y z=(ak (0<=n)&&ak (n<=63)):=rfl;refine H.ah λA B=>⟨_,(M B).c2,B.aw (jg 8 A) ?_⟩;rintro _ C rfl j;refine⟨_,_,_,rfl,(M j).c2,j.aw (jh x C) ?_⟩;rintro _ F rfl e;refine⟨_,rfl,(M e).c2,aF (λP=>⟨_,(M e).c2,ea e (bz 8) _ _ (by simp) rfl (λ_=>?_) (λ_ _=>rfl)⟩) (λP=>ea e (bz 8) _ _ (by simp) rfl (λ_=>?_) (λ_ h=>by cases h))⟩
  .rw [W,aS (show 0<=n from P),Bool.true_and];exact decide_eq_decide.2 (by show n<64↔n<=63;omega)
  .rw [W,aW (show ¬0<=n from P)];rfl
 .have O:aj .i64 (x.n+y.n)=x.n+y.n:=aQ _ (by omega);have D:dh 29 x y z=(x.k==1&&y.k==1):=rfl;refine H.ah λA B=>?_;rw[O];refine B.aw (tQ _ A) ?_;rintro _ C rfl j;refine⟨_,_,_,rfl,j.aw (jh x C) ?_⟩;rintro _ F rfl e;refine⟨_,rfl,aL (λq=>e.aw (jh y F) ?_) (λq=>?_)⟩
  .rintro _ I rfl E;refine⟨_,rfl,ea E (eT (x.n+y.n)) _ _ (by simp) ?_ (λ_=>rfl) (λ_ _=>rfl)⟩;show _=dh 29 x y z;rw[D,q];rfl
  .refine ea e (eT (x.n+y.n)) _ _ (by simp) ?_ (λh=>by cases h) (λh _=>by cases h);show _=dh 29 x y z;rw[D,beq_eq_false_iff_ne.2 q];rfl
 .have D:dh 30 x y z=(x.k==1&&ak (y=bz 7)&&ak (z=bz 7)):=rfl;refine H.ah λA B=>B.aw (jh x A) ?_;rintro _ C rfl j;refine⟨_,rfl,aL (λq=>j.aw (jg 7 C) ?_) (λq=>ea j x _ true (by simp) ?_ (λ_=>rfl) (λ_ _=>rfl))⟩
  .rintro _ F rfl e;refine⟨_,_,_,rfl,nt (a:=y) (b:=bz 7) (λK=>e.aw (jg 7 F) ?_) (λK=>ea e x _ true (by simp) ?_ (λ_=>rfl) (λ_ _=>rfl))⟩
   .rintro _ I rfl E;refine⟨_,_,_,rfl,ea E x _ true (by simp) ?_ (λ_=>rfl) (λ_ _=>rfl)⟩;show _=dh 30 x y z;rw[D,q,aS K];exact ko z (bz 7)
   .show _=dh 30 x y z;rw[D,aW K,Bool.and_false];rfl
  .show _=dh 30 x y z;rw[D,beq_eq_false_iff_ne.2 q];rfl
 .have D:dh 31 x y z=(x.k==1&&y.k==1):=rfl;refine H.ah λA B=>B.aw (jg 7 A) ?_;rintro _ C rfl j;refine⟨_,_,_,rfl,j.aw (jh x C) ?_⟩;rintro _ F rfl e;refine⟨_,rfl,aL (λq=>e.aw (jh y F) ?_) (λq=>?_)⟩
  .rintro _ I rfl E;refine⟨_,rfl,ea E (bz 7) _ true (by simp) ?_ (λ_=>rfl) (λ_ _=>rfl)⟩;show _=dh 31 x y z;rw[D,q];rfl
  .refine ea e (bz 7) _ true (by simp) ?_ (λ_=>rfl) (λ_ _=>rfl);show _=dh 31 x y z;rw[D,beq_eq_false_iff_ne.2 q];rfl
 .have O:aj .i64 (x.n+z.n)=x.n+z.n:=aQ _ (by omega);have D:dh 32 x y z=(x.k==1&&y.k==1&&z.k==1):=rfl;refine H.ah λA B=>?_;rw[O];refine B.aw (tQ _ A) ?_;rintro _ C rfl j;refine⟨_,_,_,rfl,j.aw (jh x C) ?_⟩;rintro _ F rfl e;have no:∀{I:J} {L:List En} {U aa:List Nat},LH F0 w I L [.i9 p ⟨⟨32,kids,n,m,u,G,st⟩,S⟩]->(∀b∈U,En.g b∈L)->dh 32 x y z=false->ee aa Y yF #[dO (eT (x.n+z.n)),.bool false,.bool (ak (x.n+z.n<=64))] I λr A=>∃a b c T:Int,r=ae (.tuple #[.agg #[.i a,.i b,.i c],.i T])/\loc U A λC=>iS (hx ⟨32,kids,n,m,u,G,st⟩ x y z) (ie ⟨32,kids,n,m,u,G,st⟩ x y z) (ae (.tuple #[.agg #[.i a,.i b,.i c],.i T]))/\ag w C:=λE hb hf=>ea E _ _ _ (by simp) hf.symm (λh=>by cases h) (λh _=>by cases h) hb;refine⟨_,rfl,aL (λq=>e.aw (jh y F) ?_) (λq=>no e (by simp) ?_)⟩
  .rintro _ I rfl E;refine⟨_,rfl,aL (λQ=>E.aw (jh z I) ?_) (λQ=>no E (by simp) ?_)⟩
   .rintro _ w9 rfl H9;refine⟨_,rfl,ea H9 (eT (x.n+z.n)) _ _ (by simp) ?_ (λ_=>rfl) (λ_ _=>rfl)⟩;show _=dh 32 x y z;rw[D,q,Q];rfl
   .rw [D,beq_eq_false_iff_ne.2 Q,Bool.and_false];rfl
  .rw [D,beq_eq_false_iff_ne.2 q];rfl
 .have D:dh 33 x y z=(x.k==1):=rfl;have ab:km ⟨33,kids,n,m,u,G,st⟩ x y z=true:=rfl;refine H.aw (jh x w4) ?_;rintro _ A rfl B;refine⟨_,rfl,dN (λq=>B.ah λC j=>⟨⟨x,9,rfl,?_,λh=>?_⟩,j.fr⟩) (λq=>⟨G,(M B).c5,B.aw (V rfl A) ?_⟩)⟩
  .unfold ie;rw[show dh (33:Int) x y z=false from q];rfl
  .unfold ie at h;rw[show dh (33:Int) x y z=false from q]at h;cases h
  .rintro _ C rfl j;have K:ie ⟨33,kids,n,m,u,G,st⟩ x y z=if nN G=false then 2 else 0:=by unfold ie;rw[show dh (33:Int) x y z=true from q,ab];simp
   refine⟨_,rfl,dN (λN=>j.ah λF e=>⟨⟨x,2,rfl,?_,λh=>?_⟩,e.fr⟩) (λN=>j.aw (jg 1 C) ?_)⟩
   .rw [K,aq N]
   .rw [K,aq N]at h;cases h
   .rintro _ F rfl e;exact⟨_,_,_,rfl,e.ah λI E=>⟨⟨bz 1,0,rfl,by rw[K,af (by rw[N];simp)],λ_=>rfl⟩,E.fr⟩⟩
 .refine H.ah λA B=>B.aw (tQ 1 A) ?_;rintro _ C rfl j;refine⟨_,_,_,rfl,j.aw (jg 8 C) ?_⟩;rintro _ F rfl e;exact⟨_,_,_,rfl,ea e (eT 1) _ true (by simp) (ko x (bz 8)) (λ_=>rfl) (λ_ _=>rfl)⟩
def Vu(u n:Int)(j:0<=u)(w:0<=n)(x:n<64):((Int.fdiv u (2^(min (aV n) (IntKind.bits .u64)))) !=0)=ak (2^n.toNat<=u):=by
 have h:min (aV n) (IntKind.bits .u64)=n.toNat:=by show min n.toNat 64=_;omega
 rw[h];have d:(0:Int)<2^n.toNat:=Int.pow_pos (by decide);generalize(2:Int)^n.toNat=q at d;have k:=Int.fdiv_eq_ediv_of_nonneg u (by omega:0<=q);rw[k];by_cases e:q<=u
 .rw [aS e];have:1<=u / q:=by rw[Int.le_ediv_iff_mul_le d];omega
  simp only[bne_iff_ne,ne_eq];omega
 .rw [aW e];rw[Int.ediv_eq_zero_of_lt j (by omega)];rfl
def aaR{w:J}{p:Addr}{d:Nd}(g:List Nx)(h:eb w p d)(Q:1<=d.x.op)(Z:d.x.op<=3)(hu:0<=d.x.u):
  ai Y MV #[.pointer (some p)] w λr U=>iS (cC g d.x).1 (cC g d.x).2 r/\ag w U:=by
 refine E6.aB _ w _ ((yk h).aG λF V z=>?_);have j:∀{A:J} {L:List En},LH F0 w A L [.i9 p d]->eb A p d:=λaa=>aa.getD 0;have er:∀(t:bj) (e:Int) (A:J),e≠0->(cC g d.x)=(cZ,e)->LH F0 w A [.g F] [.i9 p d]->loc [F] A λI=>iS (cC g d.x).1 (cC g d.x).2 (ae (.tuple #[.agg #[.i t.k,.i t.n,.i t.x],.i e]))/\ag w I:=λt e A h0 C O=>O.ah λI P=>⟨⟨t,e,rfl,by rw[C],λh=>by rw[C]at h;exact absurd h h0⟩,P.fr⟩;have ok:∀(t:bj) (A:J),(cC g d.x)=(t,0)->LH F0 w A [.g F] [.i9 p d]->loc [F] A λI=>iS (cC g d.x).1 (cC g d.x).2 (ae (.tuple #[.agg #[.i t.k,.i t.n,.i t.x],.i 0]))/\ag w I:=λt A C O=>O.ah λI P=>⟨⟨t,0,rfl,by rw[C],λ_=>by rw[C]⟩,P.fr⟩;refine⟨_,(j z).c0,aL (λK=>?_) (λK=>?_)⟩
 .refine ⟨_,(j z).c5,aF (λhs=>⟨_,_,_,(j z).s0,(j z).s1,(j z).s2,er d.x.st 5 V (by decide) ?_ z⟩) (λhs=>⟨_,(j z).c5,z.aw (tQ _ V) ?_⟩)⟩
  .unfold cC;rw[aq K,aq (by omega)]
  .rintro _ H rfl y;refine⟨_,_,_,rfl,ok (eT d.x.tx.size) H ?_ y⟩;unfold cC;rw[aq K,af (by omega)]
 have B:cC g d.x=if bU d.x.st=false then(cZ,9)else
   if d.x.op=1/\d.x.st.k≠0\/d.x.op=3/\ec d.x.st=false then(cZ,9)else
   if d.x.op=1/\ll d.x.u d.x.st.n=true then(cZ,5)else(d.x.st,0):=by
  unfold cC;rw[af K,af (λh=>by omega)];have:¬(d.x.op=0/\q' g d.x=true):=λh=>by omega
  simp only[this,if_false]
 refine⟨_,_,_,(j z).s0,(j z).s1,(j z).s2,z.aw (QK d.x.st V) ?_⟩;rintro _ H rfl y;refine⟨_,rfl,EC (λG=>⟨_,_,_,(j y).s0,(j y).s1,(j y).s2,?_⟩) (λG=>?_)⟩
 .have:gW d.x.st=9:=by unfold gW;rw[G];rfl
  rw[this];exact er d.x.st 9 H (by decide) (by rw[B,aq G]) y
 rw[af (by rw[G];simp)]at B;refine⟨_,(j y).c0,aL (λZ=>⟨_,_,_,(j y).s0,(j y).s1,(j y).s2,y.aw (E4 d.x.st H) ?_⟩) (λab=>?_)⟩
 .rintro _ E rfl q;refine⟨_,rfl,dN (λS=>⟨_,_,_,(j q).s0,(j q).s1,(j q).s2,er d.x.st 9 E (by decide) ?_ q⟩) (λS=>⟨_,_,_,(j q).s0,(j q).s1,(j q).s2,ok d.x.st E ?_ q⟩)⟩
  .rw [B,aq (.inr ⟨Z,S⟩)]
  .rw [B,af (by rintro(h|h);omega;rw[S]at h;cases h.2),af (by rintro⟨h,_⟩;omega)]
 have Q:d.x.op=1:=by omega
 refine⟨_,(j y).s0,di (λN=>⟨_,_,_,(j y).s0,(j y).s1,(j y).s2,er d.x.st 9 H (by decide) ?_ y⟩) (λN=>y.ah λE q=>?_)⟩
 .rw [B,aq (.inl ⟨Q,N⟩)]
 rw[af (by rintro(h|h);exact h.2 N;omega)]at B;obtain⟨v1,v2,_⟩:=tY G N;have W:cC g d.x=(d.x.st,0)->E6.bn p F 0 0 0 E λr U=>iS (cC g d.x).1 (cC g d.x).2 r/\ag w U:=λC=>⟨_,_,_,(j q).s0,(j q).s1,(j q).s2,ok d.x.st E C q⟩;refine⟨_,(j q).s1,aF (λM=>⟨_,(j q).c4,_,(j q).s1,by omega,?_⟩) (λM=>W ?_)⟩
 .rw [Vu _ _ hu (by omega) M];refine aF (λT=>⟨_,_,_,(j q).s0,(j q).s1,(j q).s2,er d.x.st 5 E (by decide) ?_ q⟩) (λT=>W ?_)
  .rw [B,aq ⟨Q,by unfold ll;rw[aS M,aS T];rfl⟩]
  .rw [B,af];rintro⟨_,D⟩;unfold ll at D;rw[aW T,Bool.and_false]at D;cases D
 .rw [B,af];rintro⟨_,D⟩;unfold ll at D;rw[aW M]at D;cases D
def sQ(g:List Nx)(t:ByteArray):ch:=match jO g t with
 |some s=>ae (.tuple #[dO s,.bool true])
 |none=>ae (.tuple #[dO cZ,.bool false])
def aaV{w:J}{p:Addr}{d:Nd}{D:List En}(g:List Nx)(F:Fv)(H:LH F0 w w [] (.i9 p d::D))(hc:g3 Y F.n=true)(hl:∀C:J,(∀e∈D,e.P C)->ai Y F.n (F.U++#[.string d.x.tx]++F.cs) C λr ak=>r=sQ g d.x.tx/\ag C ak)(h0:d.x.op=0):
  ai Y MX #[.pointer (some p),F.v] w λr C=>iS (cC g d.x).1 (cC g d.x).2 r/\ag w C:=by
 have h:∀{q:J} {L:List En},LH F0 w q L (.i9 p d::D)->eb q p d:=λH=>H.getD 0;have z:cC g d.x=if fE (bl d.x.tx)=false then(cZ,6)else if bU d.x.st=false then(cZ,9)else if q' g d.x=true then(cZ,8)else(d.x.st,0):=by unfold cC;rw[af (by omega)];simp[h0]
 have fin:∀(e:Int) (q:J) (L:List En) (i:Nat) (b:Nat) (E c1 c2:aa),LH F0 w q L (.i9 p d::D)->L[i]? =some (.c b [E,c1,c2] cg)->cC g d.x=(if e=0 then d.x.st else cZ,e)->Qq q (ab b) (.i d.x.st.k) (.i d.x.st.n) (.i d.x.st.x) λV=>JF V (ab b) λa0 ad a2=>iS (cC g d.x).1 (cC g d.x).2 (ae (.tuple #[.agg #[.i a0,.i ad,.i a2],.i e]))/\ag w V:=by
  intro e q L i b E c1 c2 y M K;refine y.EP i M λV I=>?_;have S:(L.set i (.c b [Value.i d.x.st.k,.i d.x.st.n,.i d.x.st.x] cg))[i]? =some (.c b [Value.i d.x.st.k,.i d.x.st.n,.i d.x.st.x] cg):=by rw[List.getElem?_set_self (cz.1 M).1]
  refine⟨_,_,_,I.ld i 0 S,I.ld i 1 S,I.ld i 2 S,⟨d.x.st,e,rfl,by rw[K],λac=>?_⟩,I.fr⟩;rw[K]at ac ⊢;rw[aq ac]
 refine E7.ok p F w _ (H.nw λw1 _ W=>⟨_,(h W).c5,W.call (aaP d.x.tx w1) ?_⟩);rintro _ w2 rfl A;refine⟨_,rfl,dN (λT=>⟨_,_,_,(h A).s0,(h A).s1,(h A).s2,fin 6 w2 _ 0 _ _ _ _ A rfl (by rw[z,aq T];rfl)⟩) (λT=>⟨_,_,_,(h A).s0,(h A).s1,(h A).s2,A.call (QK d.x.st w2) ?_⟩)⟩;rw[af (by rw[T];simp)]at z;rintro _ w3 rfl B;refine⟨_,rfl,EC (λN=>⟨_,_,_,(h B).s0,(h B).s1,(h B).s2,?_⟩) (λN=>⟨_,(h B).c5,?_⟩)⟩
 .have:gW d.x.st=9:=by unfold gW;rw[N];rfl
  rw[this];exact fin 9 w3 _ 0 _ _ _ _ B rfl (by rw[z,aq N];rfl)
 rw[af (by rw[N];simp)]at z;rw[hc];refine(show cF true _ from ?_);refine B.call (hl w3 (λe K=>B.rd e (e8 _ K))) ?_;rintro _ w4 rfl Z;have G:∀(q:J) (L:List En) (E c1 c2:aa),LH F0 w q L (.i9 p d::D)->L[0]? =some (.c w.heap.size [E,c1,c2] cg)->q' g d.x=false->E7.S0 p (ab w.heap.size) q λr C=>iS (cC g d.x).1 (cC g d.x).2 r/\ag w C:=λq L E c1 c2 y M ht=>⟨_,_,_,(h y).s0,(h y).s1,(h y).s2,fin 0 q L 0 _ E c1 c2 y M (by rw[z,af (by rw[ht];simp)];rfl)⟩;unfold q' at z G;unfold sQ;cases hs:jO g d.x.tx with
 |none=>
  rw[hs]at z G;refine⟨cZ.k,cZ.n,cZ.x,false,rfl,Z.nw λq _ y=>y.EP 1 rfl λw8 Q=>Q.dr λO j=>aZ rfl ?_⟩;exact G O _ _ _ _ j rfl rfl
 |some t=>
  rw[hs]at z G;refine⟨t.k,t.n,t.x,true,rfl,Z.nw λq _ y=>y.EP 1 rfl λw8 Q=>Q.dr λO j=>a1 rfl ⟨_,_,_,j.ld 1 0,j.ld 1 1,j.ld 1 2,_,_,_,(h j).s0,(h j).s1,(h j).s2,zl (a:=t) (b:=d.x.st) (λaj=>⟨_,_,_,(h j).s0,(h j).s1,(h j).s2,fin 8 O _ 0 _ _ _ _ j rfl ?_⟩) (λah=>G O _ _ _ _ j rfl ?_)⟩⟩
  .rw [z,aq (by simp[aj])];rfl
  .simp [ah]
def ye:List Int:=[0,0,0,0,1,1,2,2,2,2,2,2,2,2,2,2,2,2,2,3,2,1,1,1,2,3,2,1,1,2,3,2,3,1,1]
abbrev b':En:=.rd ⟨some (ab 1),35,35⟩ (ye.map a')
def WB{op:Int}(d:0<=op)(e:op<=34):ye[op.toNat]? =some (cS op):=by rcases sY d e with rfl|rfl|rfl|rfl|rfl|rfl|rfl|rfl|rfl|rfl|rfl|rfl|rfl|rfl|rfl|rfl|rfl|rfl|rfl|rfl|rfl|rfl|rfl|rfl|rfl|rfl|rfl|rfl|rfl|rfl|rfl|rfl|rfl|rfl|rfl<;>rfl
section
variable {M:Nat->Prop} {w0 w:J} {L D:List En} {U:List Nat}
def _root_.Go.W.LH.q6(H:LH M w0 w L D)(i a c:Nat){b:Nat}{vs:List aa}{T:aC}{v:aa}{K:J->Prop}(V:L[i]? =some (.c b vs T))(x:∀h,LH M w0 h (L.set i (.c b (vs.set (a+c) v) T)) D->K h)(y:a+c<vs.length:=by simp[gp])(bp:∀b∈U,En.g b∈L:=by simp):
  aP w (((ab b).add a).add c) v λj=>kept U w j/\K j:=by rw[add_add];obtain⟨z,A,C,B⟩:=tC (H.ob i V) (a+c) (by omega) v;obtain⟨_,_,q⟩:=H.set (v:=v) i (a+c) V y;refine⟨z,A,λd e=>?_,x _ q⟩;refine B.cb d (H.own _ (bp d e)) λk=>?_;have:=nY H V (xC w b vs T) (bp d e);exact this (by rw[k];exact qg.2 rfl)
def _root_.Go.W.LH.EU(H:LH M w0 w L D)(i a:Nat){b:Nat}{vs:List aa}{T:aC}{v:aa}{K:J->Prop}(V:L[i]? =some (.c b vs T))(h:∀d,LH M w0 d (L.set i (.c b (vs.set a v) T)) D->K d)(j:a<vs.length:=by simp[gp])(bp:∀b∈U,En.g b∈L:=by simp):
  aP w ((ab b).add a) v λe=>kept U w e/\K e:=by
 have:=H.q6 (v:=v) (K:=K) i a 0 V h j bp
 rwa[iW]at this
end
def Z'{g:List Nx}{n:Nx}(h:(cS n.op==(n.kids.length:Int)&&n.kids.all (fk g)&&i' n)=true)(d:¬n.op<=3):cv g n=if ie n (bQ g n 0) (bQ g n 1) (bQ g n 2)≠0 then(cZ,ie n (bQ g n 0) (bQ g n 1) (bQ g n 2))else(hx n (bQ g n 0) (bQ g n 1) (bQ g n 2),0):=by
 unfold cv ie;rw[h,af (by simp),af d]
 grind
def WT{g:List Nx}{n:Nx}(h:(cC g n).2≠0):cC g n=(cZ,(cC g n).2):=by
 unfold cC at h ⊢
 grind
structure oO(d:Nx):Prop where
 kl:d.kids.length<=1000000000
 n:a7 d.n
 m:a7 d.m
 u:0<=d.u
 tx:d.op=33->xe d.tx
abbrev uZ(a b c:bj):List aa:=gp a++gp b++gp c
def mE(g:List Nx)(n:Nx)(i j:Nat):bj:=if j<i then bQ g n j else cZ
def WN{g:List Nx}{n:Nx}{j:Nat}(h:n.kids.length<=j):bQ g n j=cZ:=by
 unfold bQ
 grind
def WM{l:List Nd}{n:Nx}{i:Nat}{k:Int}{e:Nd}(h:n.kids[i]? =some k)(d:l[k.toNat]? =some e):bQ (xs l) n i=e.x.st:=by
 unfold bQ
 grind
def WL{g:List Nx}{n:Nx}(h:∀d∈g,bU d.st=true)(j:Nat):oH (bQ g n j):=by
 unfold bQ;split
 .split
  .rename_i e;exact abg (h _ (aD e))
  .exact Np
 .exact Np
def aaT{w:J}{s:Sl}{l:List Nd}{d:Nd}{D:List En}(S:Fv)(H:LH F0 w w [] (.gr s l::cY d::b'::D))(hc:g3 Y S.n=true)(hl:∀A:J,(∀e∈D,e.P A)->ai Y S.n (S.U++#[.string d.x.tx]++S.cs) A λr aD=>r=sQ (xs l) d.x.tx/\ag A aD)(ho:oO d.x)(aQ:l.length<=1000000000)(hv:∀e∈xs l,bU e.st=true):
  ai Y MS #[s.v,d.v,S.v] w λr A=>r=gn (cv (xs l) d.x)/\ag w A:=by
 have hn:=ih (bR.1 (H.getD 0));have aR:(xs l).length=l.length:=by grind
 have aO:d.ks.n=d.x.kids.length:=bo.len (H.getD 1);have aN:=ho.kl;refine pH.aB s _ _ _ _ _ _ _ _ _ S w _ (H.nw λw1 _ H1=>H1.aG λI w2 H2=>H2.ah λN F=>?_);have y:∀{C:J} {L:List En},LH F0 w C (.c w.heap.size d.c cA::L) (.gr s l::cY d::b'::D)->eb C (ab w.heap.size) d:=λH=>yG (H.ob 0);have F:LH F0 w N [.c w.heap.size d.c cA,.g I] (.gr s l::cY d::b'::D):=F;have fail:(cS d.x.op==(d.x.kids.length:Int)&&d.x.kids.all (fk (xs l))&&i' d.x)=false->∀{C:J} {L:List En} {U:List Nat},LH F0 w C L (.gr s l::cY d::b'::D)->(∀b∈U,En.g b∈L)->loc U C λO=>(λr A=>r=gn (cv (xs l) d.x)/\ag w A) (ae (.tuple #[.agg #[.i 0,.i 0,.i 0],.i 1])) O:=λhf _ _ _ B hb=>B.ah (λO G=>⟨by unfold cv;rw[aq hf];rfl,G.fr⟩) hb;have kN:∀op:Int,op<0\/34<op->cS op=-1:=λop aH=>by unfold cS;omega
 refine⟨_,(y F).c0,aF (λh0=>fail ?_ F (by simp)) (λh0=>⟨_,(y F).c0,aF (λaz=>fail ?_ F (by simp)) (λaz=>⟨_,(y F).c1,_,(y F).c0,by omega,by omega,cS d.x.op,?_,di (λak=>fail ?_ F (by simp)) (λaJ=>?_)⟩)⟩)⟩
 .grind
 .grind
 .have hk:bo N ⟨some (ab 1),35,35⟩ ye:=F.getD 2;exact(show W.dM (some (ab 1)) λp=>N.cell? (p.add (aV d.x.op *1))=some (.int .i64 (cS d.x.op))from hk.cell (WB (by omega) (by omega)) rfl λp _ hc=>hc)
 .grind
 have aM:(cS d.x.op==(d.x.kids.length:Int))=true:=by grind
 have aK:d.x.kids.length<=3:=by
  have:cS d.x.op<=3:=by unfold cS;omega
  omega
 refine F.nw λw4 _ H4=>⟨_,(y H4).c1,?_⟩;have loop:∀(m i:Nat) (C:J),i+m=d.x.kids.length->d.x.kids.all (fk (xs l))=(d.x.kids.drop i).all (fk (xs l))->LH F0 w C [.c w.heap.size d.c cA,.g I,.c N.heap.size (uZ (mE (xs l) d.x i 0) (mE (xs l) d.x i 1) (mE (xs l) d.x i 2)) zI] (.gr s l::cY d::b'::D)->
   pH.cm s S (ab w.heap.size) I 0 0 0 (ab N.heap.size) ((d.ks.n:Nat):Int) (i:Int) C λr A=>r=gn (cv (xs l) d.x)/\ag w A:=by
  intro m;induction m with
  |zero=>
   intro i C hi Z B;rw[cU (by omega)]at Z;have e0:∀M,mE (xs l) d.x i M=bQ (xs l) d.x M:=λM=>by
    unfold mE;split
    .rfl
    .exact (WN (by omega)).symm
   rw[e0,e0,e0]at B;refine pH.dB _ _ _ _ _ _ _ _ _ _ _ _ (aZ (aW (by omega)) (B.aw (aaO (y B)) ?_));rintro _ O rfl G;refine⟨_,rfl,dN (λhf=>fail (by grind) G (by simp)) (λhf=>G.aG λad V h=>?_)⟩;have ap:(cS d.x.op==(d.x.kids.length:Int)&&d.x.kids.all (fk (xs l))&&i' d.x)=true:=by grind
   have h:LH F0 w V [.c w.heap.size d.c cA,.g I,.c N.heap.size (uZ (bQ (xs l) d.x 0) (bQ (xs l) d.x 1) (bQ (xs l) d.x 2)) zI,.g ad] (.gr s l::cY d::b'::D):=h;have fin:∀(T:bj) (E:Int) (t:bj) (e:Int) (j:J),cv (xs l) d.x=(if E≠0 then(cZ,E)else(T,0))->e=E->(E=0->t=T)->LH F0 w j [.c w.heap.size d.c cA,.g I,.c N.heap.size (uZ (bQ (xs l) d.x 0) (bQ (xs l) d.x 1) (bQ (xs l) d.x 2)) zI,.g ad] (.gr s l::cY d::b'::D)->
     loc [I,ad] j λw9=>pH.cM I 0 0 0 ad t.k t.n t.x e w9 λr A=>r=gn (cv (xs l) d.x)/\ag w A:=by
    intro T E t e j hs z K q;subst z;refine q.ah λw9 H9=>di (λak=>H9.ah λaE am=>⟨by rw[hs,aq ak];rfl,am.fr⟩) (λh0=>H9.ah λaE am=>⟨?_,am.fr⟩)
    grind
   have ay:d.x.op<=3->cv (xs l) d.x=(if(cC (xs l) d.x).2≠0 then(cZ,(cC (xs l) d.x).2)else((cC (xs l) d.x).1,0)):=λh3=>by
    unfold cv;rw[ap,af (by simp),aq h3];split
    .rename_i ak;exact WT ak
    grind
   have ac:=λM=>WL (n:=d.x) hv M;refine⟨_,(y h).c0,aL (λar=>?_) (λar=>⟨_,(y h).c0,aF (λao=>?_) (λao=>⟨_,(y h).c0,aF (λav=>?_) (λav=>⟨_,(y h).c0,aF (λax=>?_) (λax=>?_)⟩)⟩)⟩)⟩
   .have Hv:LH F0 V V [] (.i9 (ab w.heap.size) d::D):=bI _ (by
     intro e z;rcases au.1 z with rfl|z
     .exact y h
     .exact h.rd e (e8 _ (e8 _ (e8 _ z))))
    refine h.aw (aaV (xs l) S Hv hc hl ar) ?_;rintro _ j ⟨t,e,rfl,z,K⟩ q;exact⟨_,_,_,_,rfl,fin _ _ t e j (ay (by omega)) z K q⟩
   .refine h.aw (aaR (xs l) (y h) (by omega) ao ho.u) ?_;rintro _ j ⟨t,e,rfl,z,K⟩ q;exact⟨_,_,_,_,rfl,fin _ _ t e j (ay ao) z K q⟩
   all_goals
    have rest:=Z' ap (by omega);have Q:∀(a c:Nat) (v:aa),(uZ (bQ (xs l) d.x 0) (bQ (xs l) d.x 1) (bQ (xs l) d.x 2))[a+c]? =some v->V.cell? (((ab N.heap.size).add a).add c)=some v:=λa c v hv=>by rw[add_add];exact h.ld 2 (a+c) rfl hv
    refine⟨by omega,by decide,(bQ (xs l) d.x 0).k,(bQ (xs l) d.x 0).n,(bQ (xs l) d.x 0).x,Q 0 0 _ rfl,Q 0 1 _ rfl,Q 0 2 _ rfl,by omega,by decide,(bQ (xs l) d.x 1).k,(bQ (xs l) d.x 1).n,(bQ (xs l) d.x 1).x,Q 3 0 _ rfl,Q 3 1 _ rfl,Q 3 2 _ rfl,by omega,by decide,(bQ (xs l) d.x 2).k,(bQ (xs l) d.x 2).n,(bQ (xs l) d.x 2).x,Q 6 0 _ rfl,Q 6 1 _ rfl,Q 6 2 _ rfl,?_⟩
   .refine h.aw (aaN (y h) (by omega) av (ac 0) (ac 1) ho.n ho.m) ?_;rintro _ j ⟨t,e,rfl,z,K⟩ q;exact⟨_,_,_,_,rfl,fin _ _ t e j rest z K q⟩
   .refine h.aw (aaM (y h) (by omega) ax) ?_;rintro _ j ⟨t,e,rfl,z,K⟩ q;exact⟨_,_,_,_,rfl,fin _ _ t e j rest z K q⟩
   .refine h.aw (aaU (y h) (by omega) (by omega) (ac 0) (ac 1) (ac 2) ho.tx) ?_;rintro _ j ⟨t,e,rfl,z,K⟩ q;exact⟨_,_,_,_,rfl,fin _ _ t e j rest z K q⟩
  |succ m aT=>
   intro i C hi Z B;have hg:d.x.kids[i]? =some (d.x.kids[i]'(by omega)):=a4 (by omega);rw[dz (by omega:i<d.x.kids.length),List.all_cons]at Z;generalize d.x.kids[i]'(by omega)=x at hg Z;have bad:fk (xs l) x=false->pH.bV I 0 0 0 C λr A=>r=gn (cv (xs l) d.x)/\ag w A:=λhx=>fail (by grind) B (by simp);refine pH.dB _ _ _ _ _ _ _ _ _ _ _ _ (a1 (aS (by omega)) ⟨_,(y B).c1,by omega,by omega,(show bo C d.ks d.x.kids from B.getD 1).cell hg (by omega) λp hp aA=>⟨x,aA,aF (λh1=>bad ?_) (λh1=>aF (λh2=>bad ?_) (λh2=>?_))⟩⟩)
   .unfold fk;grind
   .unfold fk;grind
   have an:l[x.toNat]? =some (l[x.toNat]'(by omega)):=a4 (by omega);generalize l[x.toNat]'(by omega)=e at an;have aP:=WM hg an;refine hQ (bR.1 (B.getD 0)) (i:=x.toNat) (by omega) an λaU hq c=>⟨_,_,_,c.s0,c.s1,c.s2,by omega,by omega,?_⟩;have aI:d.x.kids.all (fk (xs l))=(d.x.kids.drop (i+1)).all (fk (xs l)):=by
    rw[Z];unfold fk
    grind
   have al:∀O,LH F0 w O [.c w.heap.size d.c cA,.g I,.c N.heap.size (uZ (mE (xs l) d.x (i+1) 0) (mE (xs l) d.x (i+1) 1) (mE (xs l) d.x (i+1) 2)) zI] (.gr s l::cY d::b'::D)->pH.cm s S (ab w.heap.size) I 0 0 0 (ab N.heap.size) ((d.ks.n:Nat):Int) (aj .i64 ((i:Int)+1)) O λr A=>r=gn (cv (xs l) d.x)/\ag w A:=λO G=>by
    rw[bb _ (by omega)]
    grind
   have aC:i=0\/i=1\/i=2:=by omega
   have up:∀M,mE (xs l) d.x (i+1) M=if M=i then e.x.st else mE (xs l) d.x i M:=λM=>by
    unfold mE
    grind
   rw[up 0,up 1,up 2]at al;rcases aC with rfl|rfl|rfl
   .exact B.EU 2 0 rfl λO G=>G.q6 2 0 1 rfl λV h=>h.q6 2 0 2 rfl λj q=>al j q
   .exact B.EU 2 3 rfl λO G=>G.q6 2 3 1 rfl λV h=>h.q6 2 3 2 rfl λj q=>al j q
   .exact B.EU 2 6 rfl λO G=>G.q6 2 6 1 rfl λV h=>h.q6 2 6 2 rfl λj q=>al j q
 exact loop d.x.kids.length 0 w4 (by omega) (by simp) H4
def gY(O:List BL):Nat:=(O.map λt=>t.length+2).sum
def qT(d:Nat)(a:Rx)(t:BL):(cL d a t).length<=t.length+2/\t.length<=(cL d a t).length:=by
 unfold cL
 grind
def Cu(k:Int):∀(O:List BL) (out:BL),(i2 k out O).length<=out.length+gY O/\out.length<=(i2 k out O).length
 |[],out=>by simp[i2,gY]
 |t::O,out=>by
  unfold i2;have d:=Cu k O ((if k=3/\ey (j5 out)=true/\ey (gQ t 0)=true then out++[32]else out)++gK k++t);have h:(gK k).length<=1:=by unfold gK;grind
  have q:k=3->(gK k).length=0:=λe=>by unfold gK;grind
  have j:((if k=3/\ey (j5 out)=true/\ey (gQ t 0)=true then out++[32]else out):BL).length<=out.length+2 - (gK k).length/\out.length<=((if k=3/\ey (j5 out)=true/\ey (gQ t 0)=true then out++[32]else out):BL).length:=by grind
  simp only[bc]at d;have w:gY (t::O)=t.length+2+gY O:=by simp[gY]
  omega
mutual
def wX:∀x:Rx,(a9 x).length+4<=18 *x.sz
 |.mk d lo j l=>by
  have q:∀c,(dD c).length<=4:=λc=>by unfold dD;grind
  have D:=rl 3 l;have E:=rl 4 l;have C:=rl 0 l;have H:(qJ d).length=4:=by unfold qJ;grind
  have h:∀e,(jy (dn e l)).length<=gY (dn e l):=λe=>by
   cases dn e l with
   |nil=>simp[jy]
   |cons t k=>simp[jy,gY];omega
  have A:=h 3;have B:=h 4;have z:=h 0;have G:=q lo;have F:=q j;unfold Rx.sz;unfold a9;split
  .grind
  .split
   .simp;omega
   .split
    .grind
    .split
     .grind
     .split
      .grind
      .split
       .grind
       .have w:=rl (cJ (.mk d lo j l)+1) l;cases y:dn (cJ (.mk d lo j l)+1) l with
        |nil=>show 0+4<=_;omega
        |cons t k=>
         rw[y]at w;have:=(Cu d k t).1;simp only[gY,lM,List.sum_cons]at w;simp only[gY]at this;show(i2 d t k).length+4<=_;omega
def rl(d:Nat):∀l:List Rx,gY (dn d l)<=18 *Rx.a0 l
 |[]=>by simp[dn,gY]
 |a::l=>by have h:=wX a;have e:=rl d l;have j:=(qT d a (a9 a)).1;unfold dn Rx.a0;simp only[gY,lM,List.sum_cons]at e ⊢;omega
end
def yO{k:Int}{lo V:UInt8}{l:List Rx}(h:il (.mk k lo V l)=true):0<=k/\k<=7/\(k=6\/k=7->l.length=1)/\nc l=true:=by
 unfold il at h
 grind
def yP:∀{l:List Rx} {a:Rx},nc l=true->a∈l->il a=true
 |b::l,a,d,e=>by
  unfold nc at d;rw[bq]at d;rcases au.1 e with rfl|e
  .grind
  .exact yP d.2 e
def z2:∀k:Rx,il k=true->0<(a9 k).length
 |.mk d lo j l=>λq=>by
  obtain⟨w,x,y,e⟩:=yO q;have z:∀c,0<(dD c).length:=λc=>by unfold dD;grind
  unfold a9;split
  .simp
  .split
   .simp
   .split
    .grind
    .split
     .simp
     .split
      .simp
      .split
       .grind
       .rename_i h
        match l,e,h with
        |[],_,h=>grind
        |a::m,e,h=>
         have:=z2 a (yP e (by simp));unfold dn;show 0<(i2 _ _ _).length;have A:=(Cu d (dn (cJ (.mk d lo j (a::m))+1) m) (cL (cJ (.mk d lo j (a::m))+1) a (a9 a))).2;have B:=(qT (cJ (.mk d lo j (a::m))+1) a (a9 a)).2;omega
def Bd(x:I)(w:J)(G:0<=x.k)(H:x.k<=7)(B:x.P w):ai Y CQ #[x.v] w λr d=>r=ae (.i (cJ x.rx:Int))/\ag w d:=by
 have L:=I.cr B.parts.1;have K:(I.ao x.l).length=x.l.length:=by rw[I.fu,List.length_map]
 have D:cJ x.rx=if x.k=6 then 3 else if x.k<3\/x.k=7\/x.l.length<2 then 4 else if x.k=3 then 2 else if x.k=4 then 0 else 1:=by
  rw[I.e1];unfold cJ
  grind
 rw[D];have four:∀d,ag w d->x.k≠6->(x.k<3\/x.k=7\/x.l.length<2)->BN.bn d λr d=>r=ae (.i ((if x.k=6 then 3 else if x.k<3\/x.k=7\/x.l.length<2 then 4 else if x.k=3 then 2 else if x.k=4 then 0 else 1:Nat):Int))/\ag w d:=λd f j F=>⟨by grind,f⟩;refine BN.aB _ _ _ _ w _ ((gG B).aG λb y h=>aL (λj=>⟨by grind,h.fr⟩) (λj=>aF (λz=>four y h.fr j (.inl z)) (λz=>aL (λA=>four y h.fr j (.inr (.inl A))) (λA=>aF (λE=>four y h.fr j (.inr (.inr (by omega)))) (λE=>?_)))));refine h.nw λM _ e=>?_;have q:x.k=3\/x.k=4\/x.k=5:=by omega
 have C:(if x.k=6 then 3 else if x.k<3\/x.k=7\/x.l.length<2 then 4 else if x.k=3 then 2 else if x.k=4 then 0 else 1:Nat)=if x.k=3 then 2 else if x.k=4 then 0 else 1:=by grind
 rw[C];rcases q with q|q|q<;>rw[q]
 .exact ⟨by decide,by decide,ka ⟨2,e.ld 1 0,rfl,e.fr⟩⟩
 .exact ⟨by decide,by decide,ka ⟨0,e.ld 1 1,rfl,e.fr⟩⟩
 .exact ⟨by decide,by decide,ka ⟨1,e.ld 1 2,rfl,e.fr⟩⟩
def JC(t:BL)(h:0<t.length):gQ t (t.length - 1)=j5 t:=by
 unfold gQ j5
 grind
def aaI(l:List I)(i:Nat):Rx.a0 (I.ao (l.drop i))<=I.a0 l:=by
 rw[I.wu];induction l generalizing i with
 |nil=>simp
 |cons a l d=>
  cases i with
  |zero=>grind
  |succ i=>have:=d i;show _<=a.sz+I.a0 l;grind
abbrev SD(n:Nat):Prop:=∀(x:I) (d:Nat) (w:J),x.sz<=n->d<=1000->il x.rx=true->x.P w->ai Y o8 #[x.v,.i (d:Int)] w λr e=>r=ae (.string (ba (cL d x.rx (a9 x.rx))))/\ag w e
def GC:∀n:Nat,n<=1000000->SD n
 |0,_=>λx F w A _ _ _=>absurd A (by have:=I.lS x;omega)
 |n+1,hn=>by
  have ih:=GC n (by omega);have core:∀(x:I) (F:Nat) (w:J),x.sz<=n+1->¬cJ x.rx<F->il x.rx=true->x.P w->ai Y o8 #[x.v,.i (F:Int)] w λr w'=>r=ae (.string (ba (a9 x.rx)))/\ag w w':=by
   intro x F w A a6 aa px;have hs:=I.hW x;have hl:=I.fv x.l;have U:=I.cr px.parts.1;have ab:=aa;rw[I.e1]at ab;obtain⟨k0,k7,aC,a3⟩:=yO ab;have aA:(I.ao x.l).length=x.l.length:=by rw[I.fu,List.length_map]
   rw[aA]at aC;have az:∀a∈x.l,il a.rx=true:=λa j=>yP a3 (by rw[I.fu];exact bZ.2 ⟨a,j,rfl⟩);have aY:∀a:I,a.sz<=1000000->(a9 a.rx).length<=18000000:=λa j=>by have:=wX a.rx;rw[I.eB]at this;omega
   have ap:∀(a:I) (F:Nat),a.sz<=1000000->(cL F a.rx (a9 a.rx)).length<=18000002:=λa F j=>by have D:=aY a j;have:=(qT F a.rx (a9 a.rx)).1;omega
   have aN:∀c,(dD c).length<=4:=λc=>by unfold dD;split<;>simp
   let O:aH:=λr w'=>r=ae (.string (ba (a9 x.rx)))/\ag w w'
   have one:∀(a:I) (ac:Nat) (H:J) (h:Nat) (K:ByteArray->J->Prop),ac<=1000->a∈x.l->LH F0 w H [.g h] [.tree x]->(∀B,LH F0 w B [.g h] [.tree x]->K (ba (cL ac a.rx (a9 a.rx))) B)->Bk [h] o8 #[.agg #[.i a.k,.int .u8 (a.lo.toNat:Int),.int .u8 (a.V.toNat:Int),a.s.v],.i (ac:Int)] H K:=by intro a ac H h K a7 j G hK;have au:=I.eh j;refine G.aw (ih a ac H (by omega) a7 (az a j) ((show x.P H from G.getD 0).parts.2.mem j)) ?_;rintro _ B rfl q;exact⟨_,rfl,hK B q⟩
   refine lx.aB _ _ _ _ _ w _ ((gG px).aG λh H G=>?_);have G:LH F0 w H [.g h] [.tree x]:=G;refine G.aw (Bd x H k0 k7 (G.getD 0)) ?_;rintro _ B rfl q;have N:a9 x.rx=a9 (.mk x.k x.lo x.V (I.ao x.l)):=by rw[I.e1]
   refine⟨_,rfl,aZ (aW (by omega)) (aL (λe=>⟨?_,q.fr⟩) (λQ=>aL (λe=>⟨?_,q.fr⟩) (λW=>aL (λS=>?_) (λS=>aL (λT=>?_) (λT=>aL (λZ=>?_) (λZ=>aF (λa5=>?_) (λa5=>?_)))))))⟩
   .rw [N];unfold a9;rw[aq e];rfl
   .rw [N];unfold a9;rw[af Q,aq e];rfl
   .have e2:a9 x.rx=if x.lo=x.V then dD x.lo else 91::(dD x.lo++45::(dD x.V++[93])):=by rw[N];unfold a9;rw[af Q,af W,aq S]
    refine aL (λaP=>q.aw (Bc x.lo B) ?_) (λaP=>q.ah λC L=>L.aw (Bc x.lo C) ?_)
    .rintro _ z rfl y;exact⟨_,rfl,by rw[e2,aq (UInt8.toNat_inj.1 (by omega))],y.fr⟩
    .rintro _ w6 rfl H6;have D:=aN x.lo;have h2:=aN x.V;have s0:bG #[91]++ba (dD x.lo)++bG #[45]=ba (91::dD x.lo++[45]):=by show ba [91]++ba (dD x.lo)++ba [45]=_;rw[dG,dG];rfl
     refine⟨_,rfl,?_,?_,H6.aw (Bc x.V w6) ?_⟩
     .rw [cP];show ¬(((1+_:Nat):Int)>9223372036854775807);omega
     .have:(bG #[91]++ba (dD x.lo)).size=1+(dD x.lo).length:=by show(ba [91]++_).size=_;rw[dG,cP];simp;omega
      rw[this];show ¬(((_+1:Nat):Int)>9223372036854775807);omega
     rintro _ w7 rfl H7;rw[s0];have:ba (91::dD x.lo++[45]++dD x.V)++bG #[93]=ba (91::dD x.lo++[45]++dD x.V++[93]):=by show _++ba [93]=_;rw[dG]
     refine⟨_,rfl,?_,?_,?_,H7.fr⟩
     .rw [cP,cP];simp only[bc,dE,gS];show ¬(((_:Nat):Int)>9223372036854775807);omega
     .rw [dG,cP];simp only[bc,dE,gS];show ¬(((_+1:Nat):Int)>9223372036854775807);omega
     .rw [dG,this,e2,af (λA=>aP (by rw[A]))];simp
   .have D:=aC (.inl T);have e6:a9 x.rx=33::jy (dn 3 (I.ao x.l)):=by rw[N];unfold a9;rw[af Q,af W,af S,aq T]
    match gi:x.l,D with
    |[a],_=>
     have j:a∈x.l:=by rw[gi];simp
     have au:=I.eh j;refine iq (show x.P B from q.getD 0) (k:=0) rfl (by rw[gi];rfl) (one a 3 B h _ (by omega) j q λz y=>⟨?_,?_,y.fr⟩)
     .have:=ap a 3 (by omega);rw[cP];show ¬(((1+_:Nat):Int)>9223372036854775807);omega
     .have:bG #[33]++ba (cL 3 a.rx (a9 a.rx))=ba (33::cL 3 a.rx (a9 a.rx)):=by show ba [33]++_=_;rw[dG];rfl
      rw[this,e6,gi];rfl
   .have D:=aC (.inr Z);have e7:a9 x.rx=jy (dn 4 (I.ao x.l))++[42]:=by rw[N];unfold a9;rw[af Q,af W,af S,af T,aq Z]
    match gi:x.l,D with
    |[a],_=>
     have j:a∈x.l:=by rw[gi];simp
     have au:=I.eh j;refine iq (show x.P B from q.getD 0) (k:=0) rfl (by rw[gi];rfl) (one a 4 B h _ (by omega) j q λz y=>⟨?_,?_,y.fr⟩)
     .have:=ap a 4 (by omega);rw[cP];show ¬(((_+1:Nat):Int)>9223372036854775807);omega
     .have:ba (cL 4 a.rx (a9 a.rx))++bG #[42]=ba (cL 4 a.rx (a9 a.rx)++[42]):=by show _++ba [42]=_;rw[dG]
      rw[this,e7,gi];rfl
   .
    have e:x.k=3\/x.k=4\/x.k=5:=by omega
    have ef:a9 x.rx=qJ x.k++(jy (dn 0 (I.ao x.l))++[41]):=by rw[N];unfold a9;rw[af Q,af W,af S,af T,af Z,aq (by rw[aA];omega)]
    have fin:∀(t:BL) (z:J),t.length<=18000002->jy (dn 0 (I.ao x.l))=t->LH F0 w z [.g h] [.tree x]->lx.bn h x.k x.lo.toNat x.V.toNat x.s (ba t) z O:=by
     intro t z ht E y;dsimp only[lx.bn,av];refine y.nw λw4 _ M=>?_;have key:∀(u:BL),u.length=4->qJ x.k=u->¬((((ba u).size+(ba t).size:Nat):Int)>IntKind.i64.max)/\¬((((ba u++ba t).size+(bG #[41]).size:Nat):Int)>IntKind.i64.max)/\O (ae (.string ((ba u++ba t)++(bG #[41])))) w4:=by
      intro u hu hn;refine⟨?_,?_,?_,M.fr⟩
      .rw [cP,cP];show ¬(((_:Nat):Int)>9223372036854775807);omega
      .rw [dG,cP];simp only[bc];show ¬(((_+1:Nat):Int)>9223372036854775807);omega
      .have:ba u++ba t++bG #[41]=ba (u++(t++[41])):=by show _++_++ba [41]=_;rw[dG,dG];simp
       rw[this,ef,hn,E]
     rcases e with e|e|e<;>rw[e]
     .exact ⟨by decide,by decide,ka ⟨ba [99,97,116,40],M.ld 1 0,key _ rfl (by rw[e];rfl)⟩⟩
     .exact ⟨by decide,by decide,ka ⟨ba [97,108,116,40],M.ld 1 1,key _ rfl (by rw[e];rfl)⟩⟩
     .exact ⟨by decide,by decide,ka ⟨ba [97,108,108,40],M.ld 1 2,key _ rfl (by rw[e];rfl)⟩⟩
    refine aL (λD=>?_) (λD=>?_)
    .match gi:x.l with
     |[]=>rw[gi]at U;simp at U;omega
     |_::_::_=>rw[gi]at U;simp at U;omega
     |[a]=>
      have j:a∈x.l:=by rw[gi];simp
      have au:=I.eh j;refine iq (show x.P B from q.getD 0) (k:=0) rfl (by rw[gi];rfl) (one a 0 B h _ (by omega) j q λz y=>?_);exact fin _ z (ap a 0 (by omega)) (by rw[gi];rfl) y
    .have:x.l=[]:=List.length_eq_zero_iff.1 (by omega);exact fin [] B (by simp) (by rw[this];rfl) q
   .
    have e:x.k=3\/x.k=4\/x.k=5:=by omega
    match gi:x.l with
    |[]=>rw[gi]at U;simp at U;omega
    |a::m=>
    have j:a∈x.l:=by rw[gi];simp
    have au:=I.eh j;have bo:(gK x.k).length<=1:=by unfold gK;split<;>(try split)<;>simp
    have ef:a9 x.rx=i2 x.k (cL (cJ x.rx+1) a.rx (a9 a.rx)) (dn (cJ x.rx+1) (I.ao (x.l.drop 1))):=by
     have aU:a9 x.rx=yd x.k (dn (cJ x.rx+1) (I.ao x.l)):=by
      conv=>lhs;rw[N];unfold a9;rw[af Q,af W,af S,af T,af Z,af (by rw[aA];omega)]
      rw[<-I.e1]
     rw[aU,gi];rfl
    have bi:cJ x.rx<=4:=by rw[I.e1];unfold cJ;dsimp only;repeat (first |omega|split)
    have loop:∀(d i:Nat) (out:BL) (z:J),i+d=x.l.length->1<=i->0<out.length->out.length+gY (dn (cJ x.rx+1) (I.ao (x.l.drop i)))<=40000000->a9 x.rx=i2 x.k out (dn (cJ x.rx+1) (I.ao (x.l.drop i)))->LH F0 w z [.g h] [.tree x]->
      lx.cm h x.k x.lo.toNat x.V.toNat x.s (ba (gK x.k)) (cJ x.rx:Int) (ba out) (i:Int) z O:=by
     intro d;induction d with
     |zero=>
      intro i out z hi D aR ar E y;refine lx.dB _ _ _ _ _ _ _ _ _ _ _ (aZ (aW (by omega)) ⟨?_,y.fr⟩);rw[E,cU (by omega)];rfl
     |succ d a8=>
      intro i out z hi D aR ar E y;have hg:x.l[i]? =some (x.l[i]'(by omega)):=a4 (by omega);have aO:x.l.drop i=(x.l[i]'(by omega))::x.l.drop (i+1):=dz (by omega);generalize x.l[i]'(by omega)=c at hg aO;have hc:=aD hg;have bp:=I.eh hc;rw[aO]at E ar;have ar:out.length+((cL (cJ x.rx+1) c.rx (a9 c.rx)).length+2+gY (dn (cJ x.rx+1) (I.ao (x.l.drop (i+1)))))<=40000000:=by
       have:gY (dn (cJ x.rx+1) (I.ao (c::x.l.drop (i+1))))=(cL (cJ x.rx+1) c.rx (a9 c.rx)).length+2+gY (dn (cJ x.rx+1) (I.ao (x.l.drop (i+1)))):=by simp[I.ao,dn,gY]
       omega
      have E:a9 x.rx=i2 x.k ((if x.k=3/\ey (j5 out)=true/\ey (gQ (cL (cJ x.rx+1) c.rx (a9 c.rx)) 0)=true then out++[32]else out)++gK x.k++cL (cJ x.rx+1) c.rx (a9 c.rx)) (dn (cJ x.rx+1) (I.ao (x.l.drop (i+1)))):=by rw[E];rfl
      have a0:0<(cL (cJ x.rx+1) c.rx (a9 c.rx)).length:=by have D:=z2 c.rx (az c hc);have:=(qT (cJ x.rx+1) c.rx (a9 c.rx)).2;omega
      have ay:aj .i64 ((cJ x.rx:Int)+1)=((cJ x.rx+1:Nat):Int):=bb _ (by omega);refine lx.dB _ _ _ _ _ _ _ _ _ _ _ (a1 (aS (by omega)) (iq (show x.P z from y.getD 0) rfl hg ?_));rw[ay];refine one c (cJ x.rx+1) z h _ (by omega) hc y λw4 M=>?_;generalize cL (cJ x.rx+1) c.rx (a9 c.rx)=t at E ar a0;have go:∀(o:BL) (C:J),o.length<=out.length+1->out.length<=o.length->o.length+(gK x.k).length<=out.length+1->a9 x.rx=i2 x.k (o++gK x.k++t) (dn (cJ x.rx+1) (I.ao (x.l.drop (i+1))))->LH F0 w C [.g h] [.tree x]->
        lx.bV h x.k x.lo.toNat x.V.toNat x.s (ba (gK x.k)) (cJ x.rx:Int) (ba o) (i:Int) (ba t) C O:=by
       intro o C bk bl bm a2 L;refine⟨?_,?_,?_⟩
       .rw [cP,cP];show ¬(((_:Nat):Int)>9223372036854775807);omega
       .rw [dG,cP,cP];simp only[bc];show ¬(((_:Nat):Int)>9223372036854775807);omega
       .show lx.cm _ _ _ _ _ _ _ _ _ _ _;rw[dG,dG,bb _ (by omega)];refine a8 (i+1) (o++gK x.k++t) C (by omega) (by omega) (by simp only[bc];omega) (by simp only[bc];omega) a2 L
      have aE:∀C,LH F0 w C [.g h] [.tree x]->¬(x.k=3/\ey (j5 out)=true/\ey (gQ t 0)=true)->lx.bV h x.k x.lo.toNat x.V.toNat x.s (ba (gK x.k)) (cJ x.rx:Int) (ba out) (i:Int) (ba t) C O:=λC L A=>go out C (by omega) (by omega) (by omega) (by rw[af A]at E;exact E) L;have eo:aj .i64 ((((ba out).size:Nat):Int) - 1)=((out.length - 1:Nat):Int):=by rw[cP,aQ _ (by omega)];omega
      rw[eo];refine aL (λal=>⟨by omega,j5 out,?_,M.aw (GY (j5 out) w4) ?_⟩) (λal=>aE w4 M (λA=>al A.1))
      .rw [bH,gm (s:=ba out) (by rw[cP];omega),mS,JC out aR]
      rintro _ C rfl L;refine⟨_,rfl,bB (λam=>⟨by omega,gQ t 0,?_,L.aw (GY (gQ t 0) C) ?_⟩) (λam=>aE C L (λA=>by rw[A.2.1]at am;cases am))⟩
      .rw [show aV 0=0 from rfl,gm (s:=ba t) (by rw[cP];omega),mS]
      rintro _ w6 rfl H6;have s3:(gK x.k).length=0:=by unfold gK;rw[aq al];rfl
      refine⟨_,rfl,bB (λan=>⟨?_,?_⟩) (λan=>aE w6 H6 (λA=>by rw[A.2.2]at an;cases an))⟩
      .rw [cP];show ¬(((_+1:Nat):Int)>9223372036854775807);omega
      .have aX:ba out++bG #[32]=ba (out++[32]):=by show _++ba [32]=_;rw[dG]
       rw[aX];refine go (out++[32]) w6 (by simp) (by simp) (by simp;omega) ?_ H6;rw[aq ⟨al,am,an⟩]at E;exact E
    refine q.nw λaI _ ak=>?_;have aK:LH F0 w aI [.g h] [.tree x]:=ak.take 1;have rest:∀(u:BL),gK x.k=u->UM [h] CQ #[.agg #[.i x.k,.int .u8 (x.lo.toNat:Int),.int .u8 (x.V.toNat:Int),x.s.v]] aI λt90 ad=>fb x.s 0 λbd=>fM ad (bd.add (aV 0 *4)) λbe bf bg bh=>Bk [h] o8 #[.agg #[.i be,.int .u8 bf,.int .u8 bg,bh.v],.i (aj .i64 (t90+1))] ad λt97 aJ=>lx.cm h x.k x.lo.toNat x.V.toNat x.s (ba u) t90 t97 1 aJ O:=by
     intro u hu;refine aK.aw (Bd x aI k0 k7 (aK.getD 0)) ?_;rintro _ ad rfl aM;refine⟨_,rfl,iq (show x.P ad from aM.getD 0) (k:=0) rfl (by rw[gi];rfl) ?_⟩;have ay:aj .i64 ((cJ x.rx:Int)+1)=((cJ x.rx+1:Nat):Int):=bb _ (by omega);rw[ay];refine one a (cJ x.rx+1) ad h _ (by omega) j aM λaJ aT=>?_;rw[<-hu];refine loop (x.l.length - 1) 1 _ aJ (by omega) (by omega) ?_ ?_ ef aT
     .have D:=z2 a.rx (az a j);have:=(qT (cJ x.rx+1) a.rx (a9 a.rx)).2;omega
     .have D:=ap a (cJ x.rx+1) (by omega);have h2:=rl (cJ x.rx+1) (I.ao (x.l.drop 1));have h3:=aaI x.l 1;omega
    rcases e with e|e|e
    .exact ⟨by rw[e];decide,by rw[e];decide,ka ⟨ba [],by rw[e];exact ak.ld 1 0,rest _ (by rw[e];rfl)⟩⟩
    .exact ⟨by rw[e];decide,by rw[e];decide,ka ⟨ba [124],by rw[e];exact ak.ld 1 1,rest _ (by rw[e];rfl)⟩⟩
    .exact ⟨by rw[e];decide,by rw[e];decide,ka ⟨ba [38],by rw[e];exact ak.ld 1 2,rest _ (by rw[e];rfl)⟩⟩
  intro x F w A a6 aa px;by_cases hb:cJ x.rx<F
  .have ab:=aa;rw[I.e1]at ab;obtain⟨k0,k7,_,_⟩:=yO ab;refine lx.aB _ _ _ _ _ w _ ((gG px).aG λh H G=>G.aw (Bd x H k0 k7 (G.getD 0)) ?_);rintro _ B rfl q;refine⟨_,rfl,a1 (aS (by omega)) (q.aw (core x 0 B A (by omega) aa (q.getD 0)) ?_)⟩;rintro _ z rfl y;have bj:(a9 x.rx).length<=18000000:=by have:=wX x.rx;rw[I.eB]at this;omega
   have ax:bG #[40]++ba (a9 x.rx)++bG #[41]=ba (40::(a9 x.rx++[41])):=by show ba [40]++ba (a9 x.rx)++ba [41]=_;rw[dG,dG];simp
   refine⟨_,rfl,?_,?_,?_,y.fr⟩
   .rw [cP];show ¬(((1+_:Nat):Int)>9223372036854775807);omega
   .have:(bG #[40]++ba (a9 x.rx)).size=1+(a9 x.rx).length:=by show(ba [40]++_).size=_;rw[dG,cP];simp;omega
    rw[this];show ¬(((_+1:Nat):Int)>9223372036854775807);omega
   .rw [ax];unfold cL;rw[aq hb]
  .have:=core x F w A hb aa px;have ax:cL F x.rx (a9 x.rx)=a9 x.rx:=by unfold cL;rw[af hb]
   rw[ax];exact this
def GB(x:I)(d:Nat)(w:J)(h:x.sz<=1000000)(e:d<=1000)(j:il x.rx=true)(k:x.P w):ai Y o8 #[x.v,.i (d:Int)] w λr q=>r=ae (.string (ba (cL d x.rx (a9 x.rx))))/\ag w q:=GC 1000000 (bm _) x d w h e j k
def YG{s:BL}{x:Rx}{a:Nat}{e:Int}(h:s4 s=some (x,a,e)):x.sz<=1000000:=by
 unfold s4 at h;split at h
 .simp only[eI,eC]at h;rw[<-h.1];decide
 .dsimp only at h;split at h
  .split at h
   .simp only[eI,eC]at h;rw[<-h.1];decide
   .split at h
    .cases h
    .split at h
     .simp only[eI,eC]at h;rw[<-h.1];decide
     .simp only[eI,eC]at h;rw[<-h.1];omega
  .cases h
def Tz(s:ByteArray)(Q:s.size<=100000)(b:Bool)(d:r5 (bl s)=some b)(w:J):ai Y Kw #[.string s] w λr W=>r=ae (.bool b)/\ag w W:=by
 unfold r5 at d;cases k:s4 (bl s)with
 |none=>rw[k]at d;cases d
 |some aa=>
  obtain⟨Z,a,N⟩:=aa;rw[k]at d;dsimp only at d;have S:=YG k;have H:LH F0 w w [] []:=bI [] (by simp);refine HZ.aB _ w _ (H.uP (Um s Q Z a N k w) ?_);rintro _ w1 ⟨t,rfl,y,T,O⟩ _ G;have K:=G.rd (.tree t) T λb e=>O b (aM.1 e);have V:t.sz<=1000000:=by rw[<-I.eB,y];exact S
  refine⟨_,_,_,t.s,_,_,rfl,K.aG λb3 w2 z=>di (λq=>z.ah λE h=>⟨?_,h.fr⟩) (λq=>z.ah λE h=>?_)⟩
  .rw [af q]at d;cases d;rfl
  rw[aq q]at d;refine gN ((Uo t E V (h.getD 0)).mono ?_);rintro _ w4 ⟨⟨u,rfl,D,U,P⟩,B⟩;have L:=h.gy (.tree u) B U λb e=>(P b (aM.1 e)).imp id λe=>.inr ⟨_,aD (i:=0) rfl,aM.2 e⟩;rw[y]at D;refine⟨B,_,_,_,u.s,_,rfl,L.aG λb6 w5 A=>?_⟩;rw[y];refine aL (λx=>A.ah λF j=>?_) (λx=>A.ah λF j=>⟨?_,j.fr⟩)
  .rw [aq x]at d;split at d
   .rename_i C;rw[<-D]at C d;refine j.aw (GB u 0 F (by rw[<-I.eB];omega) (by omega) C.1 (j.getD 1)) ?_;rintro _ w7 rfl M;refine⟨_,rfl,?_,M.fr⟩;cases d;congr 2;have:=r0 (cL 0 u.rx (a9 u.rx)) (bl s);rw[l8]at this;exact this
   .cases d
  .rw [af x]at d;cases d;rfl
abbrev tI(k:Sl)(ks:List bj):En:=.bd 3 k (ks.flatMap gp)
def JR{w:J}{k:Sl}{ks:List bj}(h:bx 3 w k (ks.flatMap gp)):LH F0 w w [] [tI k ks]:=bI _ (by intro e d;simp only[au,aO,aR]at d;subst d;exact h)
def T4{w:J}{k:Sl}{ks:List bj}{x y z:bj}(op:Int)(h:bx 3 w k (ks.flatMap gp))(hx:ks[0]? =some x)(A:2<=cS op->ks[1]? =some y)(H:cS op=3->ks[2]? =some z)(h4:4<=op)(af:op<=34):
  ai Y K5 #[.i op,k.v] w λr w'=>r=ae (.bool (dh op x y z))/\ag w w':=by
 refine BO.aB _ _ w _ (ek h (rfl:(0:Int)=((0:Nat):Int)) hx λp0 al W=>⟨x.k,x.n,x.x,W.c0,W.c1,W.c2,(JR h).aG λb5 w1 H1=>?_⟩);have main:∀(a:Bool) (N:J),a=ec x->LH F0 w N [.g b5] [tI k ks]->BO.bn op k b5 x.k x.n x.x (x.k==0) (x.k==1) a N λr w'=>r=ae (.bool (dh op x y z))/\ag w w':=by
  rintro a N ha d;have q:∀{D:J} {L:List En},LH F0 w D L [tI k ks]->bx 3 D k (ks.flatMap gp):=λad=>ad.getD 0;have C:(1:Int)=((1:Nat):Int):=rfl;have K:(2:Int)=((2:Nat):Int):=rfl;rcases sY (by omega) af with rfl|rfl|rfl|rfl|rfl|rfl|rfl|rfl|rfl|rfl|rfl|rfl|rfl|rfl|rfl|rfl|rfl|rfl|rfl|rfl|rfl|rfl|rfl|rfl|rfl|rfl|rfl|rfl|rfl|rfl|rfl|rfl|rfl|rfl|rfl
  iterate 4 omega
  all_goals repeat (first |refine aZ rfl ?_|refine a1 rfl ?_)
  all_goals first |(have A:=A (by decide))|skip
  all_goals first |(have H:=H (by decide))|skip
  iterate 2 exact⟨rfl,d.fr⟩
  iterate 12
   .refine aL (λe=>?_) (λe=>d.ah λD j=>⟨?_,j.fr⟩)
    .refine ek (q d) C A λp G _=>d.ah λD j=>?_;have c:=fV (q j) C A G;refine⟨_,_,_,c.c0,c.c1,c.c2,?_,j.fr⟩;rw[ko];show _=Ending.returned (.bool (x.k==0&&ak (x=y)));rw[e];rfl
    .show _=Ending.returned (.bool (x.k==0&&ak (x=y)));rw[beq_eq_false_iff_ne.2 e];rfl
  .refine ek (q d) C A λp G _=>d.ah λD j=>?_;have c:=fV (q j) C A G;have E:dh 18 x y z=(ak (x=y)||(x.k==1&&y.k==1)):=rfl;rw[E];refine⟨_,_,_,c.c0,c.c1,c.c2,nt (λI=>⟨by rw[aS I];rfl,j.fr⟩) (λI=>?_)⟩;rw[aW I,Bool.false_or];refine aL (λe=>ek (q j) C A λp' _ V=>⟨_,V.c0,?_,j.fr⟩) (λe=>⟨?_,j.fr⟩)
   .rw [e];rfl
   .rw [beq_eq_false_iff_ne.2 e];rfl
  .refine d.ah λD j=>j.aw (fh 1 D) ?_;rintro _ T rfl B;have E:dh 19 x y z=(ak (x=bz 1)&&(ak (y=z)||(y.k==1&&z.k==1))):=rfl;rw[E];refine⟨_,_,_,rfl,nt (b:=bz 1) (λI=>?_) (λI=>⟨by rw[aW I];rfl,B.fr⟩)⟩;rw[aS I,Bool.true_and];refine ek (q B) C A λp _ c=>⟨_,_,_,c.c0,c.c1,c.c2,ek (q B) K H λac _ F=>⟨_,_,_,F.c0,F.c1,F.c2,nt (λh2=>⟨by rw[aS h2];rfl,B.fr⟩) (λh2=>?_)⟩⟩;rw[aW h2,Bool.false_or];refine ek (q B) C A λp' _ V=>⟨_,V.c0,aL (λe=>ek (q B) K H λq' _ d'=>⟨_,d'.c0,?_,B.fr⟩) (λe=>⟨?_,B.fr⟩)⟩
   .rw [e];rfl
   .rw [beq_eq_false_iff_ne.2 e];rfl
  .have E:dh 20 x y z=(x.k==0&&y.k==0):=rfl;rw[E];refine aL (λe=>ek (q d) C A λp _ c=>⟨_,c.c0,?_,d.fr⟩) (λe=>⟨?_,d.fr⟩)
   .rw [e];rfl
   .rw [beq_eq_false_iff_ne.2 e];rfl
  iterate 3 exact⟨rfl,d.fr⟩
  .have E:dh 24 x y z=(ec x&&ak (y=bz x.x)):=rfl;rw[E,<-ha];refine bB (λS=>?_) (λP=>d.ah λD j=>⟨by rw[P];rfl,j.fr⟩);refine ek (q d) C A λp G _=>d.ah λD j=>?_;have c:=fV (q j) C A G;refine⟨_,_,_,c.c0,c.c1,c.c2,j.aw (fh x.x D) ?_⟩;rintro _ T rfl B;have F:=fV (q B) C A G;refine⟨_,_,_,rfl,F.c0,F.c1,F.c2,?_,B.fr⟩;rw[S,Bool.true_and];exact congrArg (λb=>Ending.returned (.bool b)) (ko y (bz x.x))
  .have E:dh 25 x y z=(ec x&&ak (y=bz x.x)&&(ak (z=hM x)||(x.k==3&&z.k==1&&ak (z.n<=x.n)))):=rfl;rw[E,<-ha];refine dN (λP=>d.ah λD j=>⟨by rw[P];rfl,j.fr⟩) (λS=>?_);rw[S,Bool.true_and];refine ek (q d) C A λp G _=>d.ah λD j=>?_;have c:=fV (q j) C A G;refine⟨_,_,_,c.c0,c.c1,c.c2,j.aw (fh x.x D) ?_⟩;rintro _ T rfl B;have F:=fV (q B) C A G;refine⟨_,_,_,rfl,F.c0,F.c1,F.c2,zl (a:=y) (b:=bz x.x) (λQ=>⟨by rw[aW Q];rfl,B.fr⟩) (λaj=>?_)⟩;rw[aS aj,Bool.true_and];refine ek (q B) K H λac U _=>B.ah λw5 O=>?_;have c5:=fV (q O) K H U;refine⟨_,_,_,c5.c0,c5.c1,c5.c2,O.aw (D4 x w5) ?_⟩;rintro _ w6 rfl M;have d6:=fV (q M) K H U;refine⟨_,_,_,rfl,d6.c0,d6.c1,d6.c2,nt (a:=z) (b:=hM x) (λI=>⟨by rw[aS I];rfl,M.fr⟩) (λQ=>?_)⟩;rw[aW Q,Bool.false_or];refine aL (λe=>ek (q M) K H λq' _ d'=>⟨_,d'.c0,aL (λab=>ek (q M) K H λq2 _ d2=>⟨_,d2.c1,?_,M.fr⟩) (λab=>⟨?_,M.fr⟩)⟩) (λe=>⟨?_,M.fr⟩)
   .rw [e,ab];rfl
   .rw [beq_eq_false_iff_ne.2 ab,Bool.and_false];rfl
   .rw [beq_eq_false_iff_ne.2 e];rfl
  .have E:dh 26 x y z=(ec x&&ak (x=y)):=rfl;rw[E,<-ha];refine bB (λS=>?_) (λP=>d.ah λD j=>⟨by rw[P];rfl,j.fr⟩);refine ek (q d) C A λp G _=>d.ah λD j=>?_;have c:=fV (q j) C A G;refine⟨_,_,_,c.c0,c.c1,c.c2,?_,j.fr⟩;rw[ko,S];rfl
  iterate 2 exact⟨rfl,d.fr⟩
  .have E:dh 29 x y z=(x.k==1&&y.k==1):=rfl;rw[E];refine aL (λe=>ek (q d) C A λp _ c=>⟨_,c.c0,?_,d.fr⟩) (λe=>⟨?_,d.fr⟩)
   .rw [e];rfl
   .rw [beq_eq_false_iff_ne.2 e];rfl
  .have E:dh 30 x y z=(x.k==1&&ak (y=bz 7)&&ak (z=bz 7)):=rfl;rw[E];refine aL (λe=>?_) (λe=>d.ah λD j=>⟨by rw[beq_eq_false_iff_ne.2 e];rfl,j.fr⟩);rw[e];refine ek (q d) C A λp G _=>d.ah λD j=>?_;have c:=fV (q j) C A G;refine⟨_,_,_,c.c0,c.c1,c.c2,j.aw (fh 7 D) ?_⟩;rintro _ T rfl B;have F:=fV (q B) C A G;refine⟨_,_,_,rfl,F.c0,F.c1,F.c2,nt (a:=y) (b:=bz 7) (λI=>?_) (λQ=>⟨by rw[aW Q];rfl,B.fr⟩)⟩;rw[aS I];refine ek (q B) K H λac U Z=>⟨_,_,_,Z.c0,Z.c1,Z.c2,B.aw (fh 7 T) ?_⟩;rintro _ w5 rfl O;have d5:=fV (q O) K H U;exact⟨_,_,_,rfl,d5.c0,d5.c1,d5.c2,congrArg (λb=>Ending.returned (.bool b)) (ko z (bz 7)),O.fr⟩
  .have E:dh 31 x y z=(x.k==1&&y.k==1):=rfl;rw[E];refine aL (λe=>ek (q d) C A λp _ c=>⟨_,c.c0,?_,d.fr⟩) (λe=>⟨?_,d.fr⟩)
   .rw [e];rfl
   .rw [beq_eq_false_iff_ne.2 e];rfl
  .have E:dh 32 x y z=(x.k==1&&y.k==1&&z.k==1):=rfl;rw[E];refine aL (λe=>ek (q d) C A λp _ c=>⟨_,c.c0,aL (λaa=>ek (q d) K H λac _ F=>⟨_,F.c0,?_,d.fr⟩) (λaa=>⟨?_,d.fr⟩)⟩) (λe=>⟨?_,d.fr⟩)
   .rw [e,aa];rfl
   .rw [beq_eq_false_iff_ne.2 aa,Bool.and_false];rfl
   .rw [beq_eq_false_iff_ne.2 e];rfl
  .exact ⟨rfl,d.fr⟩
  .refine d.ah λD j=>j.aw (fh 8 D) ?_;rintro _ T rfl B;exact⟨_,_,_,rfl,congrArg (λb=>Ending.returned (.bool b)) (ko x (bz 8)),B.fr⟩
 refine aL (λe=>H1.ah λN d=>main true N ?_ d) (λe=>H1.ah λN d=>main _ N ?_ d)
 .unfold ec;rw[e];rfl
 .unfold ec;rw[beq_eq_false_iff_ne.2 e];rfl
def AI(n:Nx)(x y z:bj):ch->Prop:=λr=>∃(t:bj) (b:Bool),r=ae (.tuple #[dO t,.bool b])/\b=km n x y z/\(b=true->t=hx n x y z)
def Ur{w:J}{k:Sl}{ks:List bj}{x y z:bj}(d:Nd)(h:bx 3 w k (ks.flatMap gp))(hx:ks[0]? =some x)(E:2<=cS d.x.op->ks[1]? =some y)(M:cS d.x.op=3->ks[2]? =some z)(h4:4<=d.x.op)(ac:d.x.op<=34)(vx:bU x=true)(vy:2<=cS d.x.op->bU y=true)(vz:cS d.x.op=3->bU z=true)(hn:a7 d.x.n)(hm:a7 d.x.m):
  ai Y La #[d.v,k.v] w λr U=>AI d.x x y z r/\ag w U:=by
 obtain⟨x1,x2,x3,x4,_⟩:=lV vx;obtain⟨ao,ap⟩:=hn;obtain⟨am,an⟩:=hm;refine xX.aB _ _ _ _ _ _ _ _ _ _ w _ ((JR h).aG λb2 w1 H1=>H1.aG λW w2 H2=>ek (H2.getD 0) (rfl:(0:Int)=((0:Nat):Int)) hx λp0 au aa=>⟨x.k,x.n,x.x,aa.c0,aa.c1,aa.c2,H2.aG λb6 w3 T=>?_⟩);have B:∀{w3:J} {L:List En},LH F0 w w3 L [tI k ks]->bx 3 w3 k (ks.flatMap gp):=λad=>ad.getD 0;have F:(1:Int)=((1:Nat):Int):=rfl;have S:(2:Int)=((2:Nat):Int):=rfl;obtain⟨⟨op,kids,n,m,u,Z,st⟩,ar⟩:=d;simp only at E M h4 ac vy vz ao ap am an;have S1:∀C:J,op≠16->op≠17->op≠18->op≠33->LH F0 w C [.g b2,.g W,.g b6] [tI k ks]->xX.bM k b2 op ar n m u Z st.k st.n st.x W 0 0 0 b6 x.k x.n x.x op C λr U=>AI ⟨op,kids,n,m,u,Z,st⟩ x y z r/\ag w U:=by
  intro C n1 n2 n3 n4 j;rcases sY (by omega) ac with rfl|rfl|rfl|rfl|rfl|rfl|rfl|rfl|rfl|rfl|rfl|rfl|rfl|rfl|rfl|rfl|rfl|rfl|rfl|rfl|rfl|rfl|rfl|rfl|rfl|rfl|rfl|rfl|rfl|rfl|rfl|rfl|rfl|rfl|rfl
  iterate 4 omega
  all_goals repeat (first |refine aZ rfl ?_|refine a1 rfl ?_)
  all_goals first |(have E:=E (by decide))|skip
  all_goals first |(have M:=M (by decide))|skip
  all_goals first |(have vy:=lV (vy (by decide)))|skip
  all_goals first |(have vz:=lV (vz (by decide)))|skip
  iterate 12 exact j.ah λD e=>⟨⟨x,true,rfl,rfl,λ_=>rfl⟩,e.fr⟩
  iterate 3 omega
  .refine ek (B j) F E λp O c=>⟨_,c.c0,aL (λhk=>?_) (λhk=>?_)⟩
   .refine ek (B j) F E λp O _=>j.ah λD e=>?_;have P:=fV (B e) F E O;refine⟨_,P.c1,ek (B e) S M λab H Q=>⟨_,Q.c1,e.aw (nM _ D) ?_⟩⟩;rintro _ I rfl q;refine⟨_,_,_,rfl,q.ah λN A=>⟨⟨_,true,rfl,rfl,λ_=>?_⟩,A.fr⟩⟩;show _=if y.k=1 then _ else _;rw[aq hk]
   .refine ek (B j) F E λp O c'=>⟨_,_,_,c'.c0,c'.c1,c'.c2,j.ah λD e=>⟨⟨y,true,rfl,rfl,λ_=>?_⟩,e.fr⟩⟩;show _=if y.k=1 then _ else _;rw[af hk]
  .refine ek (B j) F E λp O _=>j.ah λD e=>?_;have P:=fV (B e) F E O;refine⟨_,P.c1,ek (B e) F E λab H _=>?_⟩;have Q:=fV (B e) F E H;refine⟨_,Q.c1,e.aw (fh _ D) ?_⟩;rintro _ I rfl q;refine⟨_,_,_,rfl,(fV (B q) F E H).c1,q.ah λN A=>⟨(fV (B A) F E H).c1,⟨_,_,rfl,?_,λ_=>?_⟩,A.fr⟩⟩
   .rw [aQ _ (by omega)];rfl
   .show bz _=bz (x.n+y.n);rw[aQ _ (by omega)]
  .refine j.ah λD e=>e.aw (fh _ D) ?_;rintro _ I rfl q;have hr:km ⟨21,kids,n,m,u,Z,st⟩ x y z=(ak (0<=m)&&ak (m<=n)&&ak (n<x.n)):=rfl;refine⟨_,_,_,rfl,aF (λK=>aF (λg2=>q.ah λN A=>⟨⟨_,_,rfl,?_,λG=>?_⟩,A.fr⟩) (λg2=>q.ah λN A=>⟨⟨_,false,rfl,?_,λG=>by cases G⟩,A.fr⟩)) (λK=>q.ah λN A=>⟨⟨_,false,rfl,?_,λG=>by cases G⟩,A.fr⟩)⟩
   .rw [hr,aS (show 0<=m from K),aS g2];rfl
   .have G:=eH G;show bz _=bz (n - m+1);rw[aQ (n - m) (by omega),aQ _ (by omega)]
   .rw [hr,aW g2,Bool.and_false];rfl
   .rw [hr,aW (show ¬0<=m from K)];rfl
  iterate 2
   .refine j.ah λD e=>e.aw (fh _ D) ?_;rintro _ I rfl q;have ae:aj .i64 (64 - x.n)=64 - x.n:=aQ _ (by omega);rw[ae];refine⟨_,_,_,rfl,aF (λK=>q.ah λN A=>⟨⟨_,_,rfl,?_,λG=>?_⟩,A.fr⟩) (λK=>q.ah λN A=>⟨⟨_,false,rfl,?_,λG=>by cases G⟩,A.fr⟩)⟩
    .show _=(ak (1<=n)&&ak (n<=64 - x.n));rw[aS (show 1<=n from K)];rfl
    .have G:=eH G;show bz _=bz (x.n+n);rw[aQ _ (by omega)]
    .show _=(ak (1<=n)&&ak (n<=64 - x.n));rw[aW (show ¬1<=n from K)];rfl
  .refine j.aw (D4 x C) ?_;rintro _ D rfl e;exact⟨_,_,_,rfl,e.ah λI q=>⟨⟨_,true,rfl,rfl,λ_=>rfl⟩,q.fr⟩⟩
  .exact j.ah λD e=>⟨⟨x,true,rfl,rfl,λ_=>rfl⟩,e.fr⟩
  .refine j.aw (fh _ C) ?_;rintro _ D rfl e;exact⟨_,_,_,rfl,e.ah λI q=>⟨⟨_,true,rfl,rfl,λ_=>rfl⟩,q.fr⟩⟩
  .refine j.aw (fh _ C) ?_;rintro _ D rfl e;exact⟨_,_,_,rfl,e.ah λI q=>⟨⟨_,true,rfl,rfl,λ_=>rfl⟩,q.fr⟩⟩
  .refine j.ah λD e=>e.aw (fh _ D) ?_;rintro _ I rfl q;refine⟨_,_,_,rfl,aF (λK=>q.ah λN A=>⟨⟨_,_,rfl,?_,λG=>rfl⟩,A.fr⟩) (λK=>q.ah λN A=>⟨⟨_,false,rfl,?_,λG=>by cases G⟩,A.fr⟩)⟩
   .show _=(ak (0<=n)&&ak (n<=63));rw[aS (show 0<=n from K)];rfl
   .show _=(ak (0<=n)&&ak (n<=63));rw[aW (show ¬0<=n from K)];rfl
  .refine ek (B j) F E λp O _=>j.ah λD e=>?_;have P:=fV (B e) F E O;refine⟨_,P.c1,ek (B e) F E λab H _=>?_⟩;have Q:=fV (B e) F E H;refine⟨_,Q.c1,e.aw (nM _ D) ?_⟩;rintro _ I rfl q;refine⟨_,_,_,rfl,(fV (B q) F E H).c1,q.ah λN A=>⟨(fV (B A) F E H).c1,⟨_,_,rfl,?_,λ_=>?_⟩,A.fr⟩⟩
   .rw [aQ _ (by omega)];rfl
   .show eT _=eT (x.n+y.n);rw[aQ _ (by omega)]
  .exact j.ah λD e=>⟨⟨x,true,rfl,rfl,λ_=>rfl⟩,e.fr⟩
  .refine j.aw (fh _ C) ?_;rintro _ D rfl e;exact⟨_,_,_,rfl,e.ah λI q=>⟨⟨_,true,rfl,rfl,λ_=>rfl⟩,q.fr⟩⟩
  .refine ek (B j) S M λp O _=>j.ah λD e=>?_;have P:=fV (B e) S M O;refine⟨_,P.c1,ek (B e) S M λab H _=>?_⟩;have Q:=fV (B e) S M H;refine⟨_,Q.c1,e.aw (nM _ D) ?_⟩;rintro _ I rfl q;refine⟨_,_,_,rfl,(fV (B q) S M H).c1,q.ah λN A=>⟨(fV (B A) S M H).c1,⟨_,_,rfl,?_,λ_=>?_⟩,A.fr⟩⟩
   .rw [aQ _ (by omega)];rfl
   .show eT _=eT (x.n+z.n);rw[aQ _ (by omega)]
  .omega
  .refine j.aw (nM _ C) ?_;rintro _ D rfl e;exact⟨_,_,_,rfl,e.ah λI q=>⟨⟨_,true,rfl,rfl,λ_=>rfl⟩,q.fr⟩⟩
 have V:∀C:J,(op=16\/op=17\/op=18\/op=33)->LH F0 w C [.g b2,.g W,.g b6] [tI k ks]->xX.bn W 0 0 0 C λr U=>AI ⟨op,kids,n,m,u,Z,st⟩ x y z r/\ag w U:=by
  intro C ho j;refine j.aw (fh 1 C) ?_;rintro _ D rfl e;refine⟨_,_,_,rfl,e.ah λI q=>⟨⟨_,true,rfl,?_,λ_=>?_⟩,q.fr⟩⟩
  .rcases ho with rfl|rfl|rfl|rfl<;>rfl
  .rcases ho with rfl|rfl|rfl|rfl<;>rfl
 exact aL (λh=>a1 (beq_iff_eq.2 h) (T.ah λC j=>V C (.inl h) j)) λh1=>aL (λh=>a1 (beq_iff_eq.2 h) (T.ah λC j=>V C (.inr (.inl h)) j)) λh2=>aL (λh=>a1 (beq_iff_eq.2 h) (T.ah λC j=>V C (.inr (.inr (.inl h))) j)) λh3=>aL (λh=>T.ah λC j=>V C (.inr (.inr (.inr h))) j) λal=>T.ah λC j=>S1 C h1 h2 h3 al j
def Vh:g0 Y aa' cg (.agg #[.int .i64 0,.int .i64 0,.int .i64 0]) 3 24:=⟨by kernel_rfl,by kernel_rfl,rfl,by decide,by decide⟩
def xm(t:ByteArray):Prop:=t.size<=100000/\r5 (bl t)=some (nN t)
def xm.can{t:ByteArray}(h:xm t):r5 (bl t)=some (nN t):=h.2
structure oM(d:Nx):Prop where
 kl:d.kids.length<=e5
 n:a7 d.n
 m:a7 d.m
 tx:d.op=33->xm d.tx
structure w8(g:List Nx):Prop where
 len:g.length<=e5
 val:∀d∈g,bU d.st=true
 vars:xn g
def WK{l:List Nd}{n:Nx}{i:Nat}{k:Int}{e:Nd}(h:n.kids[i]? =some k)(d:l[k.toNat]? =some e):bQ (xs l) n i=e.x.st:=by unfold bQ;rw[h];dsimp only;rw[wY d]
def Zc(i:Nat)(f:Nat->bj):((List.range (i+1)).map f).flatMap gp=((List.range i).map f).flatMap gp++gp (f i):=by rw[List.range_succ];simp
def WH{op:Int}{m:Nat}(h:cS op=(m:Int))(d:m≠0):4<=op/\op<=34:=by
 unfold cS at h;split at h
 .omega
 .split at h
  .omega
  .omega
def WJ{op:Int}(h:cS op=0):0<=op/\op<=3:=by
 unfold cS at h;split at h
 .omega
 .split at h
  .omega
  .split at h
   .omega
   .split at h<;>omega
def VH{g:List Nx}{n:Nx}(h:m5 g n=0):(cS n.op==(n.kids.length:Int)&&n.kids.all (fk g)&&i' n)=true:=by
 unfold m5 at h;split at h
 .assumption
 .omega
def WQ{g:List Nx}{n:Nx}(k:∀h∈g,bU h.st=true)(j:n.kids.all (fk g)=true){i:Nat}(V:i<n.kids.length):bU (bQ g n i)=true:=by
 have d:=ft.1 j _ (List.getElem_mem V);unfold fk at d;simp only[bq,decide_eq_true_eq]at d;unfold bQ;rw[a4 V];dsimp only;have e:(n.kids[i]).toNat<g.length:=by omega
 rw[a4 e];exact k _ (List.getElem_mem e)
def Gz{w:J}{s:Sl}{l:List Nd}{d:Nd}(h:GP w s l)(hd:d.P w)(hg:w8 (xs l))(T:oM d.x):
  ai Y K2 #[s.v,d.v] w λr N=>r=gn (cv (xs l) d.x)/\ag w N:=by
 have hn:=ih h;have az:(xs l).length=l.length:=by simp[xs]
 have aE:d.ks.n=d.x.kids.length:=bo.len hd;have hl:=hg.len;have hk:=T.kl;rw[az]at hl;refine sB.aB _ _ _ _ _ _ _ _ _ _ w _ ((vE h hd).aG λb3 w1 H1=>H1.aG λI w2 V=>V.aw (T3 (bR.1 (V.getD 0)) (V.getD 1) hk) ?_);rintro _ w3 rfl G;refine⟨_,rfl,di (λae=>G.ah λy j=>⟨?_,j.fr⟩) (λh0=>?_)⟩
 .unfold cv;unfold m5 at ae ⊢;split
  .rename_i q;rw[aq q]at ae;exact absurd rfl ae
  .rename_i q;rw[iR]at q;rw[q];rfl
 have M:=VH h0;have av:cS d.x.op=(d.x.kids.length:Int):=by simp only[bq]at M;exact eq_of_beq M.1.1
 have am:d.x.kids.all (fk (xs l))=true:=by simp only[bq]at M;exact M.1.2
 have A:cv (xs l) d.x=if d.x.op<=3 then cC (xs l) d.x else
   if dh d.x.op (bQ (xs l) d.x 0) (bQ (xs l) d.x 1) (bQ (xs l) d.x 2)=false then(cZ,9)else
   if km d.x (bQ (xs l) d.x 0) (bQ (xs l) d.x 1) (bQ (xs l) d.x 2)=false then(cZ,5)else
   if d.x.op=33/\nN d.x.tx=false then(cZ,2)else(hx d.x (bQ (xs l) d.x 0) (bQ (xs l) d.x 1) (bQ (xs l) d.x 2),0):=by unfold cv;rw[M];rfl
 refine aL (λax=>?_) (λax=>?_)
 .have hz:=WJ (op:=d.x.op) (by omega);refine G.aw (Ud (bR.1 (G.getD 0)) (G.getD 1) hl hz.1 hz.2 hg.vars) ?_;rintro _ y rfl j;refine⟨_,_,_,_,rfl,j.ah λU D=>⟨?_,D.fr⟩⟩;rw[A,aq hz.2]
 have Q:=WH (op:=d.x.op) av (by omega);rw[af (by omega)]at A;unfold e5 at hk hl;have loop:∀(m i:Nat) (E:Sl) (y:J),i+m=d.x.kids.length->LH F0 w y [.g b3,.g I,.row cg 3 E (((List.range i).map (bQ (xs l) d.x)).flatMap gp)] (lJ s l d)->
   sB.a2 s b3 d.x.op d.ks d.x.n d.x.m d.x.u d.x.tx d.x.st.k d.x.st.n d.x.st.x I 0 0 0 E (i:Int) y λr N=>r=gn (cv (xs l) d.x)/\ag w N:=by
  intro m;induction m with
  |zero=>
   intro i E y hi j;have hi:i=d.x.kids.length:=by omega
   subst hi;have R4:bx 3 y E (((List.range d.x.kids.length).map (bQ (xs l) d.x)).flatMap gp):=(j.get 2:aK _ _ _ _ _).bd;have F:∀B,B<d.x.kids.length->((List.range d.x.kids.length).map (bQ (xs l) d.x))[B]? =some (bQ (xs l) d.x B):=λB hj=>by rw[hr,List.getElem?_range hj];rfl
   have aj:∀B,B<d.x.kids.length->bU (bQ (xs l) d.x B)=true:=λB hj=>WQ hg.val am hj;refine sB.bw _ _ _ _ _ _ _ _ _ _ _ _ _ _ _ _ _ _ _ (aZ (aW (by omega)) (j.aw (T4 d.x.op R4 (F 0 (by omega)) (λh2=>F 1 (by omega)) (λh3=>F 2 (by omega)) Q.1 Q.2) ?_));rintro _ U rfl D;refine⟨_,rfl,dN (λab=>D.ah λw6 W=>⟨by rw[A,aq ab];rfl,W.fr⟩) (λab=>?_)⟩;rw[af (by rw[ab];simp)]at A;have R5:bx 3 U E (((List.range d.x.kids.length).map (bQ (xs l) d.x)).flatMap gp):=(D.get 2:aK _ _ _ _ _).bd;refine D.aw (Ur d R5 (F 0 (by omega)) (λh2=>F 1 (by omega)) (λh3=>F 2 (by omega)) Q.1 Q.2 (aj 0 (by omega)) (λh2=>aj 1 (by omega)) (λh3=>aj 2 (by omega)) T.n T.m) ?_;rintro _ w6 ⟨t,b,rfl,K,ht⟩ W;refine⟨_,_,_,_,rfl,W.aG λaa w7 Z=>dN (λao=>Z.ah λC z=>⟨?_,z.fr⟩) (λal=>?_)⟩
   .rw [A,aq (by rw[<-K,ao])];rfl
   rw[af (by rw[<-K,al];simp)]at A;have ht:=ht al;have S1:∀(c:Bool) (C:J) (L:List En),(d.x.op=33/\nN d.x.tx=false↔c=false)->En.g I∈L->En.g aa∈L->LH F0 w C L (lJ s l d)->sB.bM I 0 0 0 aa t.k t.n t.x c C λr N=>r=gn (cv (xs l) d.x)/\ag w N:=by
    intro c C L q m4 aC z;have ak:∀b∈[I,aa],En.g b∈L:=by
     intro b K;simp only[au,aO,aR]at K;rcases K with rfl|rfl
     .exact m4
     .exact aC
    refine dN (λap=>z.ah (λw9 H=>⟨?_,H.fr⟩) ak) (λar=>z.ah (λw9 H=>⟨?_,H.fr⟩) ak)
    .rw [A,aq (q.2 ap)];rfl
    .rw [A,af (λh=>by rw[ar]at q;cases q.1 h),ht]
   refine di (λO=>Z.ah λC z=>S1 true C _ ⟨λh=>absurd h.1 O,λh=>by cases h⟩ (by simp) (by simp) z) (λO=>Z.ah λC z=>?_);have an:=T.tx O;refine z.aw (Tz d.x.tx an.1 _ an.can C) ?_;rintro _ w9 rfl H;exact⟨_,rfl,S1 _ w9 _ ⟨λh=>h.2,λh=>⟨O,h⟩⟩ (by simp) (by simp) H⟩
  |succ m aA=>
   intro i E y hi j;have S:d.x.kids[i]? =some (d.x.kids[i]'(by omega)):=a4 (by omega);have ad:=ft.1 am _ (aD S);generalize d.x.kids[i]'(by omega)=kx at S ad;unfold fk at ad;simp only[bq,decide_eq_true_eq]at ad;have ac:l[kx.toNat]? =some (l[kx.toNat]'(by omega)):=a4 (by omega);generalize l[kx.toNat]'(by omega)=e at ac;have ay:bo y d.ks d.x.kids:=j.getD 1;have aF:=Nd.cr (show bx 9 y s (l.flatMap Nd.c)from(bR.1 (j.getD 0)).1);refine sB.bw _ _ _ _ _ _ _ _ _ _ _ _ _ _ _ _ _ _ _ (a1 (aS (by omega)) ⟨by omega,by omega,ay.cell S (by omega) λp hp q=>⟨kx,q,hQ (bR.1 (j.getD 0)) (i:=kx.toNat) (by omega) ac λaH hq c=>⟨_,_,_,c.s0,c.s1,c.s2,?_⟩⟩⟩);have hlen:E.n=i:=by have:=(j.get 2:aK _ _ _ _ _).len;rw[Ql]at this;simp at this;omega
   refine j.h7 2 Vh rfl (λs' U D=>?_) (by omega);rw[bb _ (by omega)];refine aA (i+1) s' U (by omega) ?_;rw[Zc,WK S ac];exact D
 exact loop d.x.kids.length 0 ⟨none,0,0⟩ w3 (by omega) (G.hR cg 3)
def mX:g0 Y Fi cA (.agg #[.int .i64 0,.slice none 0 0,.int .i64 0,.int .i64 0,.int .u64 0,.string (bG #[]),.int .i64 0,.int .i64 0,.int .i64 0]) 9 96:=⟨by kernel_rfl,by kernel_rfl,rfl,by decide,by decide⟩
def qK{l:List Nd}:∀u∈l.flatMap Nd.c,u.oneCell'=true:=by intro u d;obtain⟨e,_,d⟩:=bS.1 d;simp only[Nd.c,au,aO,aR]at d;rcases d with rfl|rfl|rfl|rfl|rfl|rfl|rfl|rfl|rfl<;>rfl
def uL{w:J}{b n sz:Nat}{cs:List aa}{T:aC}(h:w.heap[b]? =some (.cells cs.toArray T (0,0)))(e:cs.length=n *sz):bx sz w ⟨some (ab b),n,n⟩ cs:=
 ⟨e,bm _,⟨λh=>(by cases h),λi v d=>⟨ab b,rfl,cellAt (p:=ab b) h rfl (by simpa using d)⟩⟩⟩
def TQ{w:J}{a b:Nd}(T:a.P w)(U:b.P w)(O:a.x.kids.length<=e5):ai Y K1 #[a.v,b.v] w λr W=>r=ae (.bool (ak (a.x=b.x)))/\ag w W:=by
 have Q:LH F0 w w [] [cY a,cY b]:=bI _ (by
  intro aa N;simp only[au,aO,aR]at N;rcases N with rfl|rfl
  .exact T
  .exact U)
 obtain⟨⟨op,C,n,m,u,H,st⟩,sl⟩:=a;obtain⟨⟨G,D,F,E,K,I,z⟩,V⟩:=b;have no:∀{M:J} {L:List En},LH F0 w M L [cY ⟨⟨op,C,n,m,u,H,st⟩,sl⟩,cY ⟨⟨G,D,F,E,K,I,z⟩,V⟩]->(⟨op,C,n,m,u,H,st⟩:Nx)≠⟨G,D,F,E,K,I,z⟩->(Ending.returned (.bool false)=ae (.bool (ak ((⟨op,C,n,m,u,H,st⟩:Nx)=⟨G,D,F,E,K,I,z⟩)))/\ag w M):=λA d=>⟨by rw[aW d],A.fr⟩;refine Ij.aB _ _ _ _ _ _ _ _ _ _ _ _ _ _ _ _ _ _ w _ (Q.aG λZ M A=>A.aG λb3 w2 e=>?_);refine aL (λh=>?_) (λh=>no e (λd=>h (congrArg Nx.op d)));refine aL (λj=>?_) (λj=>no e (λd=>j (congrArg Nx.n d)));refine aL (λk=>?_) (λk=>no e (λd=>k (congrArg Nx.m d)));refine aL (λq=>?_) (λq=>no e (λd=>q (congrArg Nx.u d)));refine ED (λy=>?_) (λy=>no e (λd=>y (congrArg Nx.tx d)));refine nt (a:=st) (b:=z) (λB=>?_) (λB=>no e (λd=>B (congrArg Nx.st d)));refine e.aw (ZO (e.getD 0) (e.getD 1) (by unfold e5 at O;simp only at O ⊢;omega)) ?_;rintro _ w3 rfl S;refine⟨_,rfl,?_,S.fr⟩;simp only at h j k q y;subst h j k q y B;simp
def JK{g:List Nx}{n:Nx}{s:bj}(h:cv g n=(s,0)):cv g (gL n s)=(s,0):=by
 unfold cv at h;unfold cv;have k:(cS (gL n s).op==((gL n s).kids.length:Int)&&(gL n s).kids.all (fk g)&&i' (gL n s))=(cS n.op==(n.kids.length:Int)&&n.kids.all (fk g)&&i' n):=rfl;rw[k];split at h
 .simp at h
 .rename_i q;rw[af q];have j:(gL n s).op=n.op:=rfl;rw[j];split at h
  .rename_i e;rw[aq e];unfold cC at h;by_cases d:n.op=2
   .rw [aq d]at h;unfold cC;rw[j,aq d];exact h
   .rw [af d]at h;have w:s=n.st:=by
     split at h
     .simp at h
     .split at h
      .simp at h
      .split at h
       .simp at h
       .split at h
        .simp at h
        .split at h
         .simp at h
         .exact (congrArg Prod.fst h).symm
    have:gL n s=n:=by rw[w];rfl
    rw[this];unfold cC;rw[af d];exact h
  .rename_i e;rw[af e];exact h
def nZ(g:List Nx)(n:Nx):Option Nat:=hn (if(cv g n).2=0 then gL n (cv g n).1 else n) g 0
def NH:Option Nat->Int
 |some i=>(i:Int)
 |none=>-1
def TG{w:J}{s:Sl}{l:List Nd}{d:Nd}(h:GP w s l)(W:d.P w)(S:w8 (xs l))(ho:oM d.x)(Z:∀e∈l,e.x.kids.length<=e5):
  ai Y KX #[s.v,d.v] w λr K=>r=ae (.i (NH (nZ (xs l) d.x)))/\ag w K:=by
 have ac:=ih h;have aa:(xs l).length=l.length:=by simp[xs]
 have T:=S.len;rw[aa]at T;unfold e5 at T;have loop:∀(m i:Nat) (j:Nat) (y:J) (e:Nd) (L:List En),e.ks=d.ks->e.x.kids=d.x.kids->i+m=l.length->hn e.x ((xs l).drop i) i=nZ (xs l) d.x->En.g j∈L->LH F0 w y L (lJ s l d)->
   vj.cm s j e.x.op e.ks e.x.n e.x.m e.x.u e.x.tx e.x.st.k e.x.st.n e.x.st.x (i:Int) y λr K=>r=ae (.i (NH (nZ (xs l) d.x)))/\ag w K:=by
  intro m;induction m with
  |zero=>
   intro i j y e L G H hi z F q;rw[cU (by omega)]at z;exact vj.dB _ _ _ _ _ _ _ _ _ _ _ _ _ _ (aZ (aW (by omega)) ⟨by rw[<-z];rfl,q.fr⟩)
  |succ m ab=>
   intro i j y e L G H hi z F q;have A:l[i]? =some (l[i]'(by omega)):=a4 (by omega);have hx:(xs l).drop i=(l[i]'(by omega)).x::(xs l).drop (i+1):=by rw[dz (by omega:i<(xs l).length)];simp[xs]
   rw[hx]at z;generalize l[i]'(by omega)=a at A z;have V:∀b∈[j],En.g b∈L:=by simpa using F
   refine vj.dB _ _ _ _ _ _ _ _ _ _ _ _ _ _ (a1 (aS (by omega)) (hQ (bR.1 (q.getD 0)) rfl A λp hp _=>q.ah (λM D=>?_) V));have N:GP M s l:=bR.1 (D.getD 0);have c:=Cf N A hp (rfl:((i:Int))=(i:Int));have pe:e.P M:=by show bo M e.ks e.x.kids;rw[G,H];exact D.getD 1
   refine⟨_,_,_,_,_,_,_,_,_,c.c0,c.c1,c.c2,c.c3,c.c4,c.c5,c.c6,c.c7,c.c8,D.aw (TQ (a:=a) (b:=e) (N.2 a (aD A)) pe (Z a (aD A))) ?_⟩;rintro _ w6 rfl Q;have B:(if a.x=e.x then some i else hn e.x ((xs l).drop (i+1)) (i+1))=nZ (xs l) d.x:=z;refine⟨_,rfl,aF (λI=>⟨?_,Q.fr⟩) (λI=>?_)⟩
   .rw [aq I]at B;rw[<-B];rfl
   .rw [af I]at B;rw[bb _ (by omega)];exact ab (i+1) j w6 e L G H (by omega) B F Q
 refine vj.aB _ _ _ _ _ _ _ _ _ _ w _ ((vE h W).aG λj w1 C=>C.aw (Gz (bR.1 (C.getD 0)) (C.getD 1) S ho) ?_);rintro _ w2 rfl U;refine⟨_,_,_,_,rfl,U.aG λb5 w3 O=>aL (λE=>O.ah λy q=>?_) (λE=>O.ah λy q=>?_)⟩
 .exact loop l.length 0 j y ⟨gL d.x (cv (xs l) d.x).1,d.ks⟩ _ rfl rfl (by omega) (by unfold nZ;rw[aq E];rfl) (by simp) q
 .exact loop l.length 0 j y d _ rfl rfl (by omega) (by unfold nZ;rw[af E];rfl) (by simp) q
structure GR(w:J)(B:Nat->Prop)(g:List Nx)(s:Sl)(w':J):Prop where
 ex:∃l':List Nd,xs l'=g/\GP w' s l'/\∀b∈(En.gr s l').fp,B b\/w.heap.size<=b
def GR.nil(w:J)(B:Nat->Prop)(w':J):GR w B [] ⟨none,0,0⟩ w':=⟨⟨[],rfl,⟨bx.nil 9 w',by simp⟩,λb e=>by
 rcases m6.1 e with d|⟨j,h,_⟩
 .cases d
 .cases h⟩⟩
def Uk{w:J}{s:Sl}{l:List Nd}{d:Nd}(h:GP w s l)(hd:d.P w)(O:w8 (xs l))(F:oM d.x)(am:∀k∈l,k.x.kids.length<=e5):
  ai Y KS #[s.v,d.v] w λr w'=>(∃s':Sl,r=ae (.tuple #[s'.v,.i (g2 (xs l) d.x).2.1,.i (g2 (xs l) d.x).2.2])/\GR w (λb=>b∈(En.gr s l).fp\/b∈(cY d).fp) (g2 (xs l) d.x).1 s' w')/\ag w w':=by
 have ao:=ih h;have aa:(xs l).length=l.length:=by simp[xs]
 refine If.aB _ _ _ _ _ _ _ _ _ _ w _ ((vE h hd).aG λb3 w1 K=>K.aw (Gz (bR.1 (K.getD 0)) (K.getD 1) O F) ?_);rintro _ w2 rfl H2;refine⟨_,_,_,_,rfl,H2.aG λb7 w3 V=>di (λI=>V.ah λw4 C=>⟨⟨⟨none,0,0⟩,?_,?_⟩,C.fr⟩) (λI=>V.ah λw4 C=>?_)⟩
 .unfold g2;rw[aq I]
 .unfold g2;rw[aq I];exact GR.nil _ _ _
 have hs:cv (xs l) d.x=((cv (xs l) d.x).1,0):=by rw[<-I]
 have av:=JK hs;have an:nZ (xs l) (gL d.x (cv (xs l) d.x).1)=hn (gL d.x (cv (xs l) d.x).1) (xs l) 0:=by unfold nZ;rw[av];rfl
 have e:g2 (xs l) d.x=match hn (gL d.x (cv (xs l) d.x).1) (xs l) 0 with
   |some i=>(xs l,(i:Int),0)
   |none=>if 4096<=(xs l).length then([],0,4)else(xs l++[gL d.x (cv (xs l) d.x).1],((xs l).length:Int),0):=by unfold g2;rw[af (by omega)];try rfl
 generalize ay:(cv (xs l) d.x).1=sr at *
 let k:Nd:=⟨gL d.x sr,d.ks⟩
 have ap:oM k.x:=⟨F.kl,F.n,F.m,F.tx⟩;refine C.aw (TG (d:=k) (bR.1 (C.getD 0)) (C.getD 1) O ap am) ?_;rintro _ w5 rfl D;rw[show nZ (xs l) k.x=hn (gL d.x sr) (xs l) 0 from an];refine⟨_,rfl,?_⟩;cases W:hn (gL d.x sr) (xs l) 0 with
 |some i=>
  rw[W]at e;rw[e];exact a1 (aS (Int.natCast_nonneg i)) ⟨⟨s,rfl,⟨l,rfl,bR.1 (D.getD 0),λb B=>.inl (.inl B)⟩⟩,D.fr⟩
 |none=>
  rw[W]at e;dsimp only at e;refine aZ (by decide) ?_;refine aF (λh4=>⟨⟨⟨none,0,0⟩,?_,?_⟩,D.fr⟩) (λh4=>?_)
  .rw [e,aq (by omega)]
  .rw [e,aq (by omega)];exact GR.nil _ _ _
  rw[af (by omega)]at e;rw[e];have N:∀{q:J} {L:List En},LH F0 w q L (lJ s l d)->bx 9 q s (l.flatMap Nd.c):=λak=>(bR.1 (ak.getD 0)).1;have fin:∀(s':Sl) (q:J) (L:List En) (j:Nat),LH F0 w q L (lJ s l d)->L[j]? =some (.row cA 9 s' (l.flatMap Nd.c++k.c))->
    (∃ad:Sl,Ending.returned (.tuple #[s'.v,.i ((s.n:Nat):Int),.i 0])=ae (.tuple #[ad.v,.i ((xs l).length:Int),.i 0])/\GR w (λb=>b∈(En.gr s l).fp\/b∈(cY d).fp) (xs l++[gL d.x sr]) ad q)/\ag w q:=by
   intro s' q L j y Z;have ar:bx 9 q s' ((l++[k]).flatMap Nd.c):=by have:aK q cA 9 s' (l.flatMap Nd.c++k.c):=y.get j Z;have:=this.bd;simpa using this
   refine⟨⟨s',by rw[aa,ao],⟨l++[k],by simp[xs,k],⟨ar,λa e=>?_⟩,λb B=>?_⟩⟩,y.fr⟩
   .rcases aY.1 e with e|e
    .exact (bR.1 (y.getD 0)).2 a e
    .simp only[au,aO,aR]at e;subst e;exact y.getD 1
   .rcases m6.1 B with B|⟨a,e,B⟩
    .right;have al:b∈(En.row cA 9 s' (l.flatMap Nd.c++k.c)).fp:=by
      have:b∈(if(l++[k]).flatMap Nd.c=[]then[]else ax s'):=B;split at this
      .cases this
      .exact this
     exact(y.new _ (aD Z) b al).resolve_right id
    .rcases aY.1 e with e|e
     .exact .inl (.inl (m6.2 (.inr ⟨a,e,B⟩)))
     .simp only[au,aO,aR]at e;subst e;exact .inl (.inr B)
  have ac:∀u∈k.c,u.oneCell'=true:=λu hu=>qK (l:=[k]) u (by simpa using hu);have hl:=O.len;rw[aa]at hl;unfold e5 at hl;refine⟨D.ah λq y=>y.cN (n:=0) (sz:=9) (cs:=[]) rfl (by decide) λS E=>⟨?_,?_⟩,D.ah λq y=>y.nw λS _ E=>E.cN (n:=0) (sz:=9) (cs:=[]) rfl (by decide) λaj A=>?_⟩
  .refine E.dc 2 mX (s:=⟨some (ab q.heap.size),0,0⟩) (src:=s) rfl (N E) qK (by simp only;omega) (λs1 aj A=>?_);have G:=(A.get 2:aK _ _ _ _ _).len;rw[lN,Nd.eW]at G;refine A.h7 2 mX rfl (λH U z=>?_) (by omega);exact fin H U _ 2 z rfl
  .refine E.nw λaj _ A=>?_;refine A.dc 2 mX (s:=⟨some (ab q.heap.size),0,0⟩) (src:=s) rfl (N A) qK (by simp only;omega) (λs1 U z=>?_);have G:=(z.get 2:aK _ _ _ _ _).len;rw[lN,Nd.eW]at G;refine z.dc 2 mX (src:=⟨some (ab S.heap.size),1,1⟩) rfl (uL (cs:=k.c) (T:=cA) (z.ob 3) rfl) ac (by simp only;omega) (λH Q M=>?_);exact fin H Q _ 2 M rfl
  .refine A.dc 3 mX (s:=⟨some (ab S.heap.size),0,0⟩) (src:=s) rfl (N A) qK (by simp only;omega) (λs1 U z=>?_);have G:=(z.get 3:aK _ _ _ _ _).len;rw[lN,Nd.eW]at G;refine z.dc 3 mX (src:=⟨some (ab q.heap.size),1,1⟩) rfl (uL (cs:=k.c) (T:=cA) (z.ob 2) rfl) ac (by simp only;omega) (λH Q M=>?_);exact fin H Q _ 3 M rfl
def i5(n m:Int)(w:J)(e:1<=m)(h:a7 n):ai Y sR #[.i n,.i m] w λr d=>r=ae (.i (gz n m))/\ag w d:=(AR n m w e h).mono λr d h=>⟨h.1,h.2▸Fr.refl _ _⟩
def rh(t:List UInt8)(s:bj):Nx:=⟨0,[],0,0,0,ba t,s⟩
def lW(t:List UInt8)(s:bj):Nd:=⟨rh t s,⟨none,0,0⟩⟩
def pF:List Nd:=[lW [97] (bz 2),lW [98] (bz 2),lW [99] (bz 1),lW [100] (bz 3)]
def pG:List Nd:=[lW [109] ⟨2,2,1⟩,lW [110] ⟨2,2,1⟩]
def mz:List Nd:=[lW [115] (eT 2),lW [116] (eT 1),lW [105] (bz 7),lW [122] ⟨3,1,1⟩]
def gq(kind:Int):List Nd:=pF++(if kind>0 then pG else[])++(if kind>1 then mz else[])
def vgB(l:List Nx):Bool:=(List.range l.length).all λi=>match l[i]? with
 |some n=>ak (cv (l.take i) n=(n.st,0))&&ak (n∉l.take i)
 |none=>false
def zQ{l:List Nx}(h:vgB l=true):Vg l:=by
 have main:∀i,i<=l.length->Vg (l.take i):=by
  intro i;induction i with
  |zero=>intro _;rw[List.take_zero];exact .nil
  |succ i j=>
   intro k;have d:=ft.1 h i (List.mem_range.2 (by omega));have e:l[i]? =some (l[i]'(by omega)):=a4 (by omega);rw[e]at d;dsimp only at d;rw[eA,e];simp only[bq,decide_eq_true_eq]at d;exact .snoc (j (by omega)) d.1 d.2
 have:=main l.length (bm _)
 rwa[List.take_length]at this
def aaq(kind:Int):Vg (xs (gq kind)):=by
 unfold gq;split
 .split
  .exact zQ (by kernel_rfl)
  .exact zQ (by kernel_rfl)
 .split
  .exact zQ (by kernel_rfl)
  .exact zQ (by kernel_rfl)
structure MdN(d:Nx):Prop where
 DC:-1<=d.op
 DD:d.op<=34
 kl:d.kids.length<=3
 n:0<=d.n/\d.n<=100
 m:0<=d.m/\d.m<=100
 u:0<=d.u/\d.u<=1000
 tx:d.op≠33->d.tx.size<=16
 re:d.op=33->∃k,d.tx=ba (lT k)
structure h0(g:List Nx):Prop where
 vg:Vg g
 nd:∀d∈g,MdN d
def aap(kind:Int):h0 (xs (gq kind)):=by
 refine⟨aaq kind,λh k=>?_⟩;have e:∃t s,h=rh t s/\t.length<=16:=by
  have j:h∈xs (pF++pG++mz):=by
   obtain⟨a,d,rfl⟩:=bZ.1 k;refine bZ.2 ⟨a,?_,rfl⟩;unfold gq at d;rcases aY.1 d with d|d
   .rcases aY.1 d with d|d
    .simp [d]
    .split at d
     .simp [d]
     .cases d
   .split at d
    .simp [d]
    .cases d
  simp only[xs,pF,pG,mz,lW,jc,lN,lM,List.map_nil,au,aO,aR]at j;rcases j with rfl|rfl|rfl|rfl|rfl|rfl|rfl|rfl|rfl|rfl<;>exact⟨_,_,rfl,by decide⟩
 obtain⟨t,s,rfl,q⟩:=e;exact⟨by show(-1:Int)<=0;omega,by show(0:Int)<=34;omega,by simp[rh],by simp[rh],by simp[rh],by simp[rh],λ_=>by show(ba t).size<=16;rw[cP];exact q,λe=>by cases e⟩
def Qs{kind:Int}:∀e∈gq kind,e.x.kids=[]/\e.ks=⟨none,0,0⟩:=by
 intro e j;have h:e∈pF++pG++mz:=by
  unfold gq at j;rcases aY.1 j with d|d
  .rcases aY.1 d with d|d
   .simp [d]
   .split at d
    .simp [d]
    .cases d
  .split at d
   .simp [d]
   .cases d
 simp only[pF,pG,mz,lW,rh,jc,lN,au,aO,aR]at h;rcases h with rfl|rfl|rfl|rfl|rfl|rfl|rfl|rfl|rfl|rfl<;>exact⟨rfl,rfl⟩
def aan{kind:Int}{w w0:J}{s:Sl}(h:bx 9 w s ((gq kind).flatMap Nd.c))(y:∀b∈ax s,w0.heap.size<=b):GR w0 F0 (xs (gq kind)) s w:=by
 refine⟨gq kind,rfl,⟨h,λe k=>?_⟩,λb d=>.inr ?_⟩
 .obtain ⟨j,q⟩:=Qs e k;show bo w e.ks e.x.kids;rw[j,q];exact Rd.nil w
 .rcases m6.1 d with d|⟨e,k,d⟩
  .exact qV y b d
  .obtain ⟨j,q⟩:=Qs e k;unfold cY at d;rw[j]at d;cases d
def aao(kind:Int):1<=(gq kind).length/\(gq kind).length<=10:=by unfold gq;split<;>split<;>decide
def Ut(kind:Int)(w:J):ai Y Lc #[.i kind] w λr q=>(∃s:Sl,r=ae s.v/\GR w F0 (xs (gq kind)) s q)/\ag w q:=by
 refine BP.ok kind w _ ((bI [] (by simp)).call (fh 2 w) ?_);rintro _ W rfl M;refine⟨_,_,_,rfl,M.call (fh 2 W) ?_⟩;rintro _ w2 rfl O;refine⟨_,_,_,rfl,O.call (fh 1 w2) ?_⟩;rintro _ w3 rfl P;refine⟨_,_,_,rfl,P.call (fh 3 w3) ?_⟩;rintro _ K rfl Q;refine⟨_,_,_,rfl,Q.cN (n:=4) (sz:=9) (cs:=pF.flatMap Nd.c) rfl (by decide) λE G=>?_⟩;have fin:∀(l:Sl) (d:J) (L:List En) (j:Nat),LH F0 w d L []->L[j]? =some (.row cA 9 l ((gq kind).flatMap Nd.c))->(∃s:Sl,Ending.returned l.v=ae s.v/\GR w F0 (xs (gq kind)) s d)/\ag w d:=λl d L j e h=>
  ⟨⟨l,rfl,aan (e.get j h:aK _ _ _ _ _).bd λb U=>(e.new _ (aD h) b U).resolve_right id⟩,e.fr⟩
 have H:∀(l:Sl) (d:J) (L:List En) (j:Nat) (ds:List Nd),LH F0 w d L []->ds.length<=6->gq kind=ds++(if kind>1 then mz else[])->L[j]? =some (.row cA 9 l (ds.flatMap Nd.c))->BP.S0 kind l d λr q=>(∃s:Sl,r=ae s.v/\GR w F0 (xs (gq kind)) s q)/\ag w q:=by
  intro l d L j ds e ac y h;refine aF (λC=>?_) (λC=>?_)
  .rw [aq C]at y;refine e.call (nM 2 d) ?_;rintro _ F rfl A;refine⟨_,_,_,rfl,A.call (nM 1 F) ?_⟩;rintro _ w8 rfl S;refine⟨_,_,_,rfl,S.call (fh 7 w8) ?_⟩;rintro _ x rfl T;refine⟨_,_,_,rfl,T.cN (n:=4) (sz:=9) (cs:=mz.flatMap Nd.c) rfl (by decide) λZ z=>?_⟩;have I:(L++[En.row cA 9 ⟨some (ab x.heap.size),4,4⟩ (mz.flatMap Nd.c)])[j]? =some (.row cA 9 l (ds.flatMap Nd.c)):=by rw[List.getElem?_append_left (cz.1 h).1];exact h
   have V:(L++[En.row cA 9 ⟨some (ab x.heap.size),4,4⟩ (mz.flatMap Nd.c)])[L.length]? =some (.row cA 9 ⟨some (ab x.heap.size),4,4⟩ (mz.flatMap Nd.c)):=by simp
   have hn:l.n=ds.length:=by have:=(z.get j I:aK _ _ _ _ _).len;rw[Nd.eW]at this;omega
   have k:bx 9 Z ⟨some (ab x.heap.size),4,4⟩ (mz.flatMap Nd.c):=(z.get L.length V:aK _ _ _ _ _).bd;refine z.ap j mX (src:=⟨some (ab x.heap.size),4,4⟩) I k.2.2 k.1 qK (by simp only;omega) (λD aa N _ _=>?_);refine fin D aa _ j N ?_;rw[List.getElem?_set_self (by simp;have:=(cz.1 h).1;omega),y,dt]
  .rw [af C,eP]at y;rw[<-y]at h;exact fin l d L j e h
 refine aF (λB=>G.cN (n:=2) (sz:=9) (cs:=pG.flatMap Nd.c) rfl (by decide) λd e=>?_) (λB=>?_)
 .have k:bx 9 d ⟨some (ab E.heap.size),2,2⟩ (pG.flatMap Nd.c):=(e.get 1:aK _ _ _ _ _).bd;refine e.ap 0 mX (s:=⟨some (ab K.heap.size),4,4⟩) (src:=⟨some (ab E.heap.size),2,2⟩) rfl k.2.2 k.1 qK (by show(4+2) *96<=_;omega) (λD F A _ _=>?_);refine H D F _ 0 (pF++pG) A (by decide) ?_ ?_
  .unfold gq;rw[aq B]
  .rw [dt];rfl
 .refine H ⟨some (ab K.heap.size),4,4⟩ E _ 0 pF G (by decide) ?_ rfl;unfold gq;rw[af B,eP]
def Ux(kind:Int)(s:bj)(w:J):ai Y Le #[.i kind,dO s] w λr h=>(∃b:Bool,r=ae (.bool b))/\ag w h:=
 Im.aB _ _ _ _ w _ ((bI [] (by simp)).aG λb j e=>aL (λd=>⟨⟨_,rfl⟩,e.fr⟩) (λd=>aF (λd=>aL (λd=>⟨⟨_,rfl⟩,e.fr⟩) (λd=>⟨⟨_,rfl⟩,e.fr⟩)) (λd=>⟨⟨_,rfl⟩,e.fr⟩)))
def G2{w:J}{s:Sl}{l:List Nd}(h:GP w s l)(H:∀(i:Nat) (d:Nd),l[i]? =some d->d.x.kids.length<=1000000/\∀q∈d.x.kids,0<=q/\q<(i:Int)):∀(n i:Nat),i<n->i<l.length->∀B,ag w B->ai Y Lb #[s.v,.i (i:Int)] B λr E=>(∃z:Int,r=ae (.i z))/\ag w E
 |0,i,G,_,_,_=>absurd G (by omega)
 |n+1,i,G,D,B,M=>by
  have A:∀{e:J},ag w e->GP e s l:=λf=>⟨h.1.br f,λd P=>(cY d).st w _ (λb Z S=>f.cb b S id) (h.2 d P)⟩;have y:l[i]? =some (l[i]'D):=a4 D;generalize l[i]'D=d at y;obtain⟨k1,W⟩:=H i d y;have loop:∀(m j:Nat) (z:Int) (e:J),j+m=d.x.kids.length->ag w e->sC.L0 s (i:Int) z (j:Int) e λr E=>(∃z:Int,r=ae (.i z))/\ag w E:=by
   intro m;induction m with
   |zero=>
    intro j z e Q k;have T:d.ks.n=d.x.kids.length:=bo.len ((A k).2 d (aD y));exact sC.bC _ _ _ _ _ _ (hQ (A k) rfl y λp U c=>⟨_,c.c1,aZ (aW (by omega)) ⟨⟨_,rfl⟩,k⟩⟩)
   |succ m V=>
    intro j z e Q k;have F:bo e d.ks d.x.kids:=(A k).2 d (aD y);have T:=bo.len F;have C:d.x.kids[j]? =some (d.x.kids[j]'(by omega)):=a4 (by omega);generalize d.x.kids[j]'(by omega)=q at C;have aa:=W q (aD C);refine sC.bC _ _ _ _ _ _ (hQ (A k) rfl y λp U c=>⟨_,c.c1,a1 (aS (by omega)) (hQ (A k) rfl y λp' ab K=>⟨_,K.c1,by omega,by omega,F.cell C (by omega) λac hq O=>⟨q,O,?_⟩⟩)⟩);have L:q=((q.toNat:Nat):Int):=by omega
    rw[L];refine(G2 h H n q.toNat (by omega) (by omega) e k).mono ?_;rintro _ I ⟨⟨z3,rfl⟩,N⟩;refine⟨_,rfl,?_⟩;show sC.L0 s (i:Int) _ (aj .i64 ((j:Int)+1)) I _;rw[bb _ (by omega)];exact V (j+1) _ I (by omega) N
  exact sC.ok _ _ B _ (loop d.x.kids.length 0 1 B (by omega) M)
set_option maxHeartbeats 2000000
def abo{P:Program}{n:Cx}{c:Code}{Q:Exit->Act->J->Prop}{E E':Env}{w:J}(h:∀t v,E'.get? t=some v->E.get? t=some v)(j:WP P n c Q E' w):WP P n c Q E w:=λa d=>j a ⟨d.defers,d.size,λt v e=>d.get t v (h t v e)⟩
def aaD{E:Env}{i j:Nat}{a b:aa}(k:E.get? i=some a)(q:E.get? j=some b):∀t v,Env.get? [(i,a),(j,b)] t=some v->E.get? t=some v:=by
 intro t v d;unfold Env.get? at d;cases e:bO i t with
 |true=>
  rw[e]at d;have:=Nat.eq_of_beq_eq_true e
  grind
 |false=>
  rw[e]at d;have d:Env.get? [(j,b)] t=some v:=d;unfold Env.get? at d;cases h:bO j t with
  |true=>
   rw[h]at d;have:=Nat.eq_of_beq_eq_true h
   grind
  |false=>rw[h]at d;cases d
namespace u'
abbrev T9(s:Sl)(k:Int)(w:J)(R:aH):Prop:=
 (0:Int)<=(ck (aj .i64 (bL k 216)) 8)/\(ck (aj .i64 (bL k 216)) 8)<((s.n:Nat):Int)/\dM s.a λp=>fM w (p.add (aV (ck (aj .i64 (bL k 216)) 8) *4)) λa b c d=>xF vM #[.agg #[.i a,.int .u8 b,.int .u8 c,d.v]] w λe f g i h=>G6 o8 #[.agg #[.i e,.int .u8 f,.int .u8 g,i.v],.i 0] h λt j=>R (ae (.string t)) j
def K9(R:aH)(E:Env)(w:J):Prop:=∃(s:Sl) (k:Int),E.get? 9=some s.v/\E.get? 3=some (.i k)/\T9 s k w R
noncomputable def C0:Code:=(Tryz.f57.body).getD .skip
noncomputable def C1:=C0.sn
noncomputable def C2:=C1.sn
noncomputable def C3:=C2.sn
noncomputable def C4:=C3.sn
noncomputable def C5:=C4.sn
noncomputable def C6:=C5.sn
noncomputable def C7:=C6.sn
noncomputable def C8:=C7.sn
noncomputable def C9:=C8.sn
def ok(j:Int)(w:J)(R:aH)(h:qj sR #[.i j,.i 1048576] w λt11 w1=>xF n5 #[] w1 λB C D F e=>c9 e (.cells #[.i 2,.int .u8 97,.int .u8 97,.slice none 0 0,.i 2,.int .u8 98,.int .u8 98,.slice none 0 0,.i 2,.int .u8 0,.int .u8 0,.slice none 0 0,.i 2,.int .u8 97,.int .u8 98,.slice none 0 0,.i 1,.int .u8 0,.int .u8 0,.slice none 0 0,.i B,.int .u8 C,.int .u8 D,F.v] aN) λx=>
 (0:Int)<=(ck t11 6)/\(ck t11 6)<((6:Nat):Int)/\dM (some (nb e)) λG=>fM x (G.add (aV (ck t11 6) *4)) λH I K L=>c9 x (.cells #[.i 0,.int .u8 0,.int .u8 0,.slice none 0 0] aN) λw4=>
 kY w4 (nb x) (.i H) (.int .u8 I) (.int .u8 K) (L.v) λz=>(0:Int)<=(ck (aj .i64 (bL t11 6)) 6)/\(ck (aj .i64 (bL t11 6)) 6)<((6:Nat):Int)/\dM (some (nb e)) λM=>fM z (M.add (aV (ck (aj .i64 (bL t11 6)) 6) *4)) λN O P Q=>c9 z (.cells #[.i 0,.int .u8 0,.int .u8 0,.slice none 0 0] aN) λw9=>
 kY w9 (nb z) (.i N) (.int .u8 O) (.int .u8 P) (Q.v) λy=>(0:Int)<=(ck (aj .i64 (bL t11 36)) 6)/\(ck (aj .i64 (bL t11 36)) 6)<((6:Nat):Int)/\dM (some (nb e)) λS=>fM y (S.add (aV (ck (aj .i64 (bL t11 36)) 6) *4)) λT U V W=>c9 y (.cells #[.i 0,.int .u8 0,.int .u8 0,.slice none 0 0] aN) λad=>
 kY ad (nb y) (.i T) (.int .u8 U) (.int .u8 V) (W.v) λq=>fM q (nb x) λZ aa ab ac=>c9 q (.cells #[.i Z,.int .u8 aa,.int .u8 ab,ac.v] aN) λA=>
 c9 A (.cells #[.i 0,.int .u8 0,.int .u8 0,.slice none 0 0] aN) λaf=>
 kY af (nb A) (.i 7) (.int .u8 0) (.int .u8 0) (.slice (some (nb q)) 1 1) λag=>wx Y C7 (K9 R) [(8,.pointer (some (nb A))),(38,.agg #[.i 7,.int .u8 0,.int .u8 0,.slice (some (nb q)) 1 1]),(37,.slice (some (nb q)) 1 1),(36,.agg #[.i Z,.int .u8 aa,.int .u8 ab,ac.v]),(7,.pointer (some (nb y))),(35,.agg #[.i T,.int .u8 U,.int .u8 V,W.v]),(34,.pointer (some (S.add (aV (ck (aj .i64 (bL t11 36)) 6) *4)))),(33,.i (ck (aj .i64 (bL t11 36)) 6)),(32,.i (aj .i64 (bL t11 36))),(31,.i t11),(30,.slice (some (nb e)) 6 6),(6,.pointer (some (nb z))),(29,.agg #[.i N,.int .u8 O,.int .u8 P,Q.v]),(28,.pointer (some (M.add (aV (ck (aj .i64 (bL t11 6)) 6) *4)))),(27,.i (ck (aj .i64 (bL t11 6)) 6)),(26,.i (aj .i64 (bL t11 6))),(25,.i t11),(24,.slice (some (nb e)) 6 6),(5,.pointer (some (nb x))),(23,.agg #[.i H,.int .u8 I,.int .u8 K,L.v]),(22,.pointer (some (G.add (aV (ck t11 6) *4)))),(21,.i (ck t11 6)),(20,.i t11),(19,.slice (some (nb e)) 6 6),(4,.slice (some (nb e)) 6 6),(18,.slice (some (nb e)) 6 6),(17,.agg #[.i B,.int .u8 C,.int .u8 D,F.v]),(16,.agg #[.i 1,.int .u8 0,.int .u8 0,.slice none 0 0]),(15,.agg #[.i 2,.int .u8 97,.int .u8 98,.slice none 0 0]),(14,.agg #[.i 2,.int .u8 0,.int .u8 0,.slice none 0 0]),(13,.agg #[.i 2,.int .u8 98,.int .u8 98,.slice none 0 0]),(12,.agg #[.i 2,.int .u8 97,.int .u8 97,.slice none 0 0]),(3,.i t11),(11,.i t11),(10,.i j),(2,.s0),(0,.i j)] ag):ai Y Kz #[.i j] w R:=
 uQ (R:=R) (fn:=Tryz.f57) (c:=C0) (args:=[.i j]) (by kernel_rfl) (by kernel_rfl) (by kernel_rfl) (sr C0 (show(λ(E:Env) (w:J)=>dJ Y C0 (λE w=>dJ Y C1 (λE w=>dJ Y C2 (λE w=>dJ Y C3 (λE w=>dJ Y C4 (λE w=>dJ Y C5 (λE w=>dJ Y C6 (λE w=>wx Y C7 (K9 R) E w) E w) E w) E w) E w) E w) E w) E w) (j0 0 [.i j]) w from mp h) λ_ _ d=>(sr C1 d λ_ _ d=>(sr C2 d λ_ _ d=>(sr C3 d λ_ _ d=>(sr C4 d λ_ _ d=>(sr C5 d λ_ _ d=>(sr C6 d λ_ _ d=>(si C7 (by kernel_rfl) d λ_ _ d=>(let ⟨s,k,h9,h3,h⟩:=d;abo (E':=[(9,s.v),(3,.i k)]) (aaD h9 h3) (sr C8 (show dJ Y C8 (λE w=>kV Y Tryz.f57 E w (λv=>R (ae v) w)) [(9,s.v),(3,.i k)] _ from mp h) λ_ _ d=>(rt C9 λa hA=>wh hA d)))))))))))
end u'
inductive uB where
 |tr (x:Rx)
 |ls (l:List Rx)
def vA(base:Nat)(w:J)(v:Option aa):uB->Prop
 |.tr d=>∃t:I,v=some t.v/\t.rx=d/\t.P w/\∀b∈t.fp,base<=b
 |.ls l=>∃(s:Sl) (O:List I),v=some s.v/\I.ao O=l/\(bF s O).P w/\∀b∈(bF s O).fp,base<=b
def vA.br{base:Nat}{w w':J}{v:Option aa}{q:uB}(h:vA base w v q)(f:ag w w'):vA base w' v q:=by
 cases q with
 |tr y=>obtain⟨t,d,e,j,k⟩:=h;exact⟨t,d,e,j.br f,k⟩
 |ls l=>obtain⟨s,x,d,e,j,k⟩:=h;exact⟨s,x,d,e,j.br f,k⟩
def dp(i:Nat):Nat:=if i=40 then 9 else 39+i
def jn(base:Nat)(w:J)(E:Env)(t:Nat)(x:Rx):Prop:=∃(b:Nat) (u:I),E.get? t=some (.pointer (some (ab b)))/\w.heap[b]? =some (.cells u.c.toArray aN (0,0))/\u.rx=x/\u.P w/\∀c∈u.fp,base<=c
def jn.br{base:Nat}{w w':J}{E:Env}{t:Nat}{x:Rx}(h:jn base w E t x)(f:ag w w'):jn base w' E t x:=by obtain⟨b,u,e,d,j,k,q⟩:=h;exact⟨b,u,e,(f.cb b (lt_of_heap d) id).trans d,j,k.br f,q⟩
def jn.put{base:Nat}{w:J}{E:Env}{t d:Nat}{v:aa}{x:Rx}(h:jn base w E t x)(k:d≠t):jn base w (E.put (some d) v) t x:=by obtain⟨b,u,e,j⟩:=h;exact⟨b,u,by rw[hj k];exact e,j⟩
section
variable (w0:J) (base:Nat) (kk:Int) (Xa Xb Xc Xs:Rx)
def dI:List uB:=[.tr Xa,
 .tr Xa,
 .tr Xb,
 .ls [Xa,Xb],
 .tr (.mk 3 0 0 [Xa,Xb]),
 .tr Xa,
 .tr Xb,
 .tr Xc,
 .ls [Xa,Xb,Xc],
 .tr (.mk 4 0 0 [Xa,Xb,Xc]),
 .tr Xs,
 .tr Xs,
 .tr Xb,
 .ls [Xs,Xb],
 .tr (.mk 3 0 0 [Xs,Xb]),
 .tr Xa,
 .tr Xb,
 .ls [Xa,Xb],
 .tr (.mk 3 0 0 [Xa,Xb]),
 .ls [(.mk 3 0 0 [Xa,Xb])],
 .tr (.mk 6 0 0 [(.mk 3 0 0 [Xa,Xb])]),
 .tr Xb,
 .tr Xa,
 .tr Xc,
 .ls [Xa,Xc],
 .tr (.mk 4 0 0 [Xa,Xc]),
 .ls [(.mk 4 0 0 [Xa,Xc])],
 .tr (.mk 7 0 0 [(.mk 4 0 0 [Xa,Xc])]),
 .ls [Xb,(.mk 7 0 0 [(.mk 4 0 0 [Xa,Xc])])],
 .tr (.mk 3 0 0 [Xb,(.mk 7 0 0 [(.mk 4 0 0 [Xa,Xc])])]),
 .tr Xb,
 .ls [Xb],
 .tr (.mk 6 0 0 [Xb]),
 .tr Xa,
 .tr eD,
 .ls [Xa,eD],
 .tr (.mk 3 0 0 [Xa,eD]),
 .ls [(.mk 6 0 0 [Xb]),(.mk 3 0 0 [Xa,eD])],
 .tr (.mk 5 0 0 [(.mk 6 0 0 [Xb]),(.mk 3 0 0 [Xa,eD])]),
 .ls [Xa,(.mk 3 0 0 [Xa,Xb]),(.mk 4 0 0 [Xa,Xb,Xc]),Xs,(.mk 3 0 0 [Xs,Xb]),(.mk 6 0 0 [(.mk 3 0 0 [Xa,Xb])]),(.mk 3 0 0 [Xb,(.mk 7 0 0 [(.mk 4 0 0 [Xa,Xc])])]),(.mk 5 0 0 [(.mk 6 0 0 [Xb]),(.mk 3 0 0 [Xa,eD])])],
 .ls [Xa,(.mk 3 0 0 [Xa,Xb]),(.mk 4 0 0 [Xa,Xb,Xc]),Xs,(.mk 3 0 0 [Xs,Xb]),(.mk 6 0 0 [(.mk 3 0 0 [Xa,Xb])]),(.mk 3 0 0 [Xb,(.mk 7 0 0 [(.mk 4 0 0 [Xa,Xc])])]),(.mk 5 0 0 [(.mk 6 0 0 [Xb]),(.mk 3 0 0 [Xa,eD])])]]
structure JT(L:Nat->Bool)(E:Env)(w:J):Prop where
 fr:ag w0 w
 k:E.get? 3=some (.i kk)
 a:jn base w E 5 Xa
 b:jn base w E 6 Xb
 c:jn base w E 7 Xc
 s:jn base w E 8 Xs
 all:∀(i:Nat) (sp:uB),(dI Xa Xb Xc Xs)[i]? =some sp->L i=true->vA base w (E.get? (dp i)) sp
variable {w0 base kk Xa Xb Xc Xs}
def JT.step{L:Nat->Bool}{E:Env}{w w':J}(e:JT w0 base kk Xa Xb Xc Xs L E w)(f:ag w w'){i d:Nat}(x:d=dp i){v:aa}{A:uB}(z:(dI Xa Xb Xc Xs)[i]? =some A)(h:vA base w' (some v) A):JT w0 base kk Xa Xb Xc Xs (dk L i) (E.put (some d) v) w':=by
 have G:9<=d:=by rw[x];unfold dp;grind
 refine⟨e.fr.dA f,by rw[hj (by omega)];exact e.k,(e.a.br f).put (by omega),(e.b.br f).put (by omega),(e.c.br f).put (by omega),(e.s.br f).put (by omega),λj sq q F=>?_⟩;by_cases y:j=i
 .subst y;rw[z]at q;cases q;rw[<-x,nX];exact h
 .have B:d≠dp j:=by
   rw[x];have C:i<41:=(cz.1 z).1;have D:j<41:=(cz.1 q).1;unfold dp
   grind
  rw[hj B];refine(e.all j sq q ?_).br f;have:bO j i=false:=by rw[<-iR,Nat.beq_eq];exact y
  grind
abbrev iC(w0:J)(base:Nat)(kk:Int)(Xa Xb Xc Xs:Rx)(i:Nat)(r:Op×Option Nat×aC×List Nat):Prop:=uz Y (JT w0 base kk Xa Xb Xc Xs) i r
def WS{b:Nat}{u:I}{w:J}(d:w.heap[b]? =some (.cells u.c.toArray aN (0,0))){K:aa->Prop}(C:K u.v):mj Y aN (ab b) w λv _=>K v:=by
 have x:=cellAt (p:=ab b) (i:=0) (v:=.int .i64 u.k) d rfl rfl;have y:=cellAt (p:=ab b) (i:=1) (v:=.int .u8 (u.lo.toNat:Int)) d rfl rfl;have z:=cellAt (p:=ab b) (i:=2) (v:=.int .u8 (u.V.toNat:Int)) d rfl rfl;have A:=cellAt (p:=ab b) (i:=3) (v:=u.s.v) d rfl rfl;have B:(mj Y aN (ab b) w λv _=>K v)=(∃e:Int,∃h:Int,∃j:Int,∃q:Sl,w.cell? ((ab b).add 0)=some (.int .i64 e)/\w.cell? ((ab b).add 1)=some (.int .u8 h)/\w.cell? ((ab b).add 2)=some (.int .u8 j)/\w.cell? ((ab b).add 3)=some q.v/\K (.agg #[.int .i64 e,.int .u8 h,.int .u8 j,q.v])):=by kernel_rfl
 grind
def zi{ty:aC}{ds:List Nat}{t:Nat}{x:Rx}(i d:Nat)(B:d=dp i)(E:(dI Xa Xb Xc Xs)[i]? =some (.tr x))(F:∀j e h,JT w0 base kk Xa Xb Xc Xs j e h->jn base h e t x):iC w0 base kk Xa Xb Xc Xs i (.load aN (.tmp t),some d,ty,ds):=by intro j e h o D C I H G k;obtain⟨b,u,q,w,y,z,A⟩:=F j e h k;refine pC D q (WS w ?_);rw[C];exact k.step (Fr.refl _ _) B E ⟨u,rfl,y,z,A⟩
def tw{ty:aC}{ds:List Nat}(i d:Nat)(j:(dI Xa Xb Xc Xs)[i]? =some (.tr Xa))(h:d=dp i:=by rfl):iC w0 base kk Xa Xb Xc Xs i (.load aN (.tmp 5),some d,ty,ds):=zi i d h j λ_ _ _ e=>e.a
def tz{ty:aC}{ds:List Nat}(i d:Nat)(j:(dI Xa Xb Xc Xs)[i]? =some (.tr Xb))(h:d=dp i:=by rfl):iC w0 base kk Xa Xb Xc Xs i (.load aN (.tmp 6),some d,ty,ds):=zi i d h j λ_ _ _ e=>e.b
def Pw{ty:aC}{ds:List Nat}(i d:Nat)(j:(dI Xa Xb Xc Xs)[i]? =some (.tr Xc))(h:d=dp i:=by rfl):iC w0 base kk Xa Xb Xc Xs i (.load aN (.tmp 7),some d,ty,ds):=zi i d h j λ_ _ _ e=>e.c
def Px{ty:aC}{ds:List Nat}(i d:Nat)(j:(dI Xa Xb Xc Xs)[i]? =some (.tr Xs))(h:d=dp i:=by rfl):iC w0 base kk Xa Xb Xc Xs i (.load aN (.tmp 8),some d,ty,ds):=zi i d h j λ_ _ _ e=>e.s
def ZJ(a:I)(w:J):(Instr.buildSlice dm 1 #[((0:Nat),a.v)]).run Y w=.ok (.slice (some (ab w.heap.size)) 1 1) (w.alloc (.cells ([a].flatMap I.c).toArray aN)):=by kernel_rfl
def ZK(a b:I)(w:J):(Instr.buildSlice dm 2 #[((0:Nat),a.v),(1,b.v)]).run Y w=.ok (.slice (some (ab w.heap.size)) 2 2) (w.alloc (.cells ([a,b].flatMap I.c).toArray aN)):=by kernel_rfl
def ZL(a b c:I)(w:J):(Instr.buildSlice dm 3 #[((0:Nat),a.v),(1,b.v),(2,c.v)]).run Y w=.ok (.slice (some (ab w.heap.size)) 3 3) (w.alloc (.cells ([a,b,c].flatMap I.c).toArray aN)):=by kernel_rfl
def ZM(a b c d e g r s:I)(w:J):(Instr.buildSlice dm 8 #[((0:Nat),a.v),(1,b.v),(2,c.v),(3,d.v),(4,e.v),(5,g.v),(6,r.v),(7,s.v)]).run Y w=.ok (.slice (some (ab w.heap.size)) 8 8) (w.alloc (.cells ([a,b,c,d,e,g,r,s].flatMap I.c).toArray aN)):=by kernel_rfl
def zv{o:Oper}{T:aC}{n:Nat}{parts:Array (Nat×Operand)}{E:Env}{w w':J}{v:aa}{K:Env->J->Prop}(d:o.op=.buildSlice T n parts)(e:E.dQ o=true)(k:(Instr.buildSlice T n (parts.map λp=>(p.1,E.ev p.2))).run Y w=.ok v w')(h:K (E.put o.dst v) w'):gu Y o E w K:=by
 obtain⟨dst,op,q,pos,after,guard⟩:=o;simp only at d;subst d;have j:oV Y ⟨dst,.buildSlice T n parts,q,pos,after,guard⟩ E w (λv w'=>K (E.put dst v) w'):=by unfold oV;rw[e];show cF true _;simp only[execOp];rw[show(λ(x:Nat×Operand)=>match x with |(i,x)=>(i,E.ev x))=λp=>(p.1,E.ev p.2)from rfl];simp[k];exact h
 unfold gu;simp only[calm,cond_false];unfold g5;exact j
def jw{E:Env}{t:Nat}{v:aa}(h:E.get? t=some v):E.ev (.tmp t)=v:=by simp[Env.ev,Env.val,h]
def yq{w:J}{O:List I}{n:Nat}(j:n=O.length)(z:n<=1000)(k:I.Ps w O)(y:∀b∈I.a8 O,base<=b)(x:base<=w.heap.size):
  (bF ⟨some (ab w.heap.size),n,n⟩ O).P (w.alloc (.cells (O.flatMap I.c).toArray aN))/\∀b∈(bF ⟨some (ab w.heap.size),n,n⟩ O).fp,base<=b:=by
 have q:=aK.made w aN 4 n (O.flatMap I.c) (by rw[I.eW,j]) (by unfold maxLen;omega);refine⟨dw.2 ⟨q.bd,k.br (Fr.alloc _ _ _)⟩,λb e=>?_⟩;rcases lG.1 e with d|d
 .exact qV (λc h=>by simp only[ax,au,aO,aR]at h;omega) b d
 grind
def JT.uK{L:Nat->Bool}{E:Env}{w:J}(d:JT w0 base kk Xa Xb Xc Xs L E w)(e:base<=w0.heap.size):base<=w.heap.size:=a6 e d.fr.size
section
variable (vw:base<=w0.heap.size)
include vw
def Et{ty:aC}{ds:List Nat}(i d e:Nat){x:Nat}{z:Rx}(K:(dI Xa Xb Xc Xs)[i]? =some (.ls [z]))(E:(dI Xa Xb Xc Xs)[e]? =some (.tr z))(L:e∈ds)(F:d=dp i:=by rfl)(D:x=dp e:=by rfl):iC w0 base kk Xa Xb Xc Xs i (.buildSlice dm 1 #[(0,.tmp x)],some d,ty,ds):=by
 intro M A h o q H Q P G j;obtain⟨a,k,B,N,C⟩:=j.all e _ E (G e L);rw[<-D]at k;have y:=yq (base:=base) (w:=h) (O:=[a]) (n:=1) rfl (by omega) (I.ir (by grind)) (by simp[I.a8];exact C) (j.uK vw);refine zv (w':=h.alloc (.cells ([a].flatMap I.c).toArray aN)) (v:=.slice (some (ab h.heap.size)) 1 1) q (by obtain⟨_,op,_,_,_,_⟩:=o;simp only at q;subst q;simp[Env.dQ,Op.operands,Env.val,k]) ?_ ?_
 .rw [show(#[((0:Nat),Operand.tmp x)].map λp=>(p.1,A.ev p.2))=#[((0:Nat),a.v)]by simp[jw k]];exact ZJ a h
 .rw [H];exact j.step (Fr.alloc _ _ _) F K ⟨⟨some (ab h.heap.size),1,1⟩,[a],rfl,by simp[I.ao,B],y.1,y.2⟩
def q1{ty:aC}{ds:List Nat}(i d e h:Nat){z A:Nat}{D E:Rx}(S:(dI Xa Xb Xc Xs)[i]? =some (.ls [D,E]))(M:(dI Xa Xb Xc Xs)[e]? =some (.tr D))(N:(dI Xa Xb Xc Xs)[h]? =some (.tr E))(T:e∈ds)(m1:h∈ds)(P:d=dp i:=by rfl)(K:z=dp e:=by rfl)(L:A=dp h:=by rfl):iC w0 base kk Xa Xb Xc Xs i (.buildSlice dm 2 #[(0,.tmp z),(1,.tmp A)],some d,ty,ds):=by
 intro U F j o y Q ht hi B k;obtain⟨a,q,G,V,W⟩:=k.all e _ M (B e T);obtain⟨b,x,H,Z,b4⟩:=k.all h _ N (B h m1);rw[<-K]at q;rw[<-L]at x;have C:=yq (base:=base) (w:=j) (O:=[a,b]) (n:=2) rfl (by omega) (I.ir (by grind)) (by simp[I.a8];grind) (k.uK vw);refine zv (w':=j.alloc (.cells ([a,b].flatMap I.c).toArray aN)) (v:=.slice (some (ab j.heap.size)) 2 2) y (by obtain⟨_,op,_,_,_,_⟩:=o;simp only at y;subst y;simp[Env.dQ,Op.operands,Env.val,q,x]) ?_ ?_
 .rw [show(#[((0:Nat),Operand.tmp z),(1,.tmp A)].map λp=>(p.1,F.ev p.2))=#[((0:Nat),a.v),(1,b.v)]by simp[jw q,jw x]];exact ZK a b j
 .rw [Q];exact k.step (Fr.alloc _ _ _) P S ⟨⟨some (ab j.heap.size),2,2⟩,[a,b],rfl,by simp[I.ao,G,H],C.1,C.2⟩
def ZC{ty:aC}{ds:List Nat}(i d h j k:Nat){C D t2:Nat}{F G H:Rx}(hs:(dI Xa Xb Xc Xs)[i]? =some (.ls [F,G,H]))(T:(dI Xa Xb Xc Xs)[h]? =some (.tr F))(U:(dI Xa Xb Xc Xs)[j]? =some (.tr G))(V:(dI Xa Xb Xc Xs)[k]? =some (.tr H))(m0:h∈ds)(m1:j∈ds)(m2:k∈ds)(W:d=dp i:=by rfl)(P:C=dp h:=by rfl)(Q:D=dp j:=by rfl)(S:t2=dp k:=by rfl):iC w0 base kk Xa Xb Xc Xs i (.buildSlice dm 3 #[(0,.tmp C),(1,.tmp D),(2,.tmp t2)],some d,ty,ds):=by
 intro aa K q o B Z ht hi A e;obtain⟨a,x,L,a3,a4⟩:=e.all h _ T (A h m0);obtain⟨b,y,M,b3,b4⟩:=e.all j _ U (A j m1);obtain⟨c,z,N,c3,c4⟩:=e.all k _ V (A k m2);rw[<-P]at x;rw[<-Q]at y;rw[<-S]at z;have E:=yq (base:=base) (w:=q) (O:=[a,b,c]) (n:=3) rfl (by omega) (I.ir (by grind)) (by simp[I.a8];grind) (e.uK vw);refine zv (w':=q.alloc (.cells ([a,b,c].flatMap I.c).toArray aN)) (v:=.slice (some (ab q.heap.size)) 3 3) B (by obtain⟨_,op,_,_,_,_⟩:=o;simp only at B;subst B;simp[Env.dQ,Op.operands,Env.val,x,y,z]) ?_ ?_
 .rw [show(#[((0:Nat),Operand.tmp C),(1,.tmp D),(2,.tmp t2)].map λp=>(p.1,K.ev p.2))=#[((0:Nat),a.v),(1,b.v),(2,c.v)]by simp[jw x,jw y,jw z]];exact ZL a b c q
 .rw [Z];exact e.step (Fr.alloc _ _ _) W hs ⟨⟨some (ab q.heap.size),3,3⟩,[a,b,c],rfl,by simp[I.ao,L,M,N],E.1,E.2⟩
def ZD{ty:aC}{ds:List Nat}(i d k q x y z A B C:Nat){S T t2 t3 t4 U V W:Nat}{x0 x1 x2 x3 x4 x5 x6 x7:Rx}(hs:(dI Xa Xb Xc Xs)[i]? =some (.ls [x0,x1,x2,x3,x4,x5,x6,x7]))(h0:(dI Xa Xb Xc Xs)[k]? =some (.tr x0))(h1:(dI Xa Xb Xc Xs)[q]? =some (.tr x1))(h2:(dI Xa Xb Xc Xs)[x]? =some (.tr x2))(h3:(dI Xa Xb Xc Xs)[y]? =some (.tr x3))(h4:(dI Xa Xb Xc Xs)[z]? =some (.tr x4))(h5:(dI Xa Xb Xc Xs)[A]? =some (.tr x5))(h6:(dI Xa Xb Xc Xs)[B]? =some (.tr x6))(h7:(dI Xa Xb Xc Xs)[C]? =some (.tr x7))(m0:k∈ds)(m1:q∈ds)(m2:x∈ds)(m3:y∈ds)(m4:z∈ds)(m5:A∈ds)(m6:B∈ds)(m7:C∈ds)(hd:d=dp i:=by rfl)(e0:S=dp k:=by rfl)(e1:T=dp q:=by rfl)(e2:t2=dp x:=by rfl)(e3:t3=dp y:=by rfl)(e4:t4=dp z:=by rfl)(e5:U=dp A:=by rfl)(e6:V=dp B:=by rfl)(e7:W=dp C:=by rfl):
  iC w0 base kk Xa Xb Xc Xs i (.buildSlice dm 8 #[(0,.tmp S),(1,.tmp T),(2,.tmp t2),(3,.tmp t3),(4,.tmp t4),(5,.tmp U),(6,.tmp V),(7,.tmp W)],some d,ty,ds):=by
 intro ad aa E o M ac ht hi h e;obtain⟨a,F,a2,a3,a4⟩:=e.all k _ h0 (h k m0);obtain⟨b,G,b2,b3,b4⟩:=e.all q _ h1 (h q m1);obtain⟨c,H,c2,c3,c4⟩:=e.all x _ h2 (h x m2);obtain⟨D,N,q2,q3,q4⟩:=e.all y _ h3 (h y m3);obtain⟨j,K,f2,f3,f4⟩:=e.all z _ h4 (h z m4);obtain⟨g,L,g2,g3,g4⟩:=e.all A _ h5 (h A m5);obtain⟨r,P,r2,r3,r4⟩:=e.all B _ h6 (h B m6);obtain⟨s,Q,s2,s3,s4⟩:=e.all C _ h7 (h C m7);rw[<-e0]at F;rw[<-e1]at G;rw[<-e2]at H;rw[<-e3]at N;rw[<-e4]at K;rw[<-e5]at L;rw[<-e6]at P;rw[<-e7]at Q;have Z:=yq (base:=base) (w:=E) (O:=[a,b,c,D,j,g,r,s]) (n:=8) rfl (by omega) (I.ir (by simp[a3,b3,c3,q3,f3,g3,r3,s3])) (by
  intro ae hz;obtain⟨t,ht,hy⟩:=I.bJ.1 hz;clear hz;simp only[au,aO,aR]at ht
  grind) (e.uK vw)
 refine zv (w':=E.alloc (.cells ([a,b,c,D,j,g,r,s].flatMap I.c).toArray aN)) (v:=.slice (some (ab E.heap.size)) 8 8) M (by obtain⟨_,op,_,_,_,_⟩:=o;simp only at M;subst M;simp[Env.dQ,Op.operands,Env.val,F,G,H,N,K,L,P,Q]) ?_ ?_
 .rw [show(#[((0:Nat),Operand.tmp S),(1,.tmp T),(2,.tmp t2),(3,.tmp t3),(4,.tmp t4),(5,.tmp U),(6,.tmp V),(7,.tmp W)].map λp=>(p.1,aa.ev p.2))=#[((0:Nat),a.v),(1,b.v),(2,c.v),(3,D.v),(4,j.v),(5,g.v),(6,r.v),(7,s.v)]by simp[jw F,jw G,jw H,jw N,jw K,jw L,jw P,jw Q]];exact ZM a b c D j g r s E
 .rw [ac];exact e.step (Fr.alloc _ _ _) hd hs ⟨⟨some (ab E.heap.size),8,8⟩,[a,b,c,D,j,g,r,s],rfl,by simp[I.ao,a2,b2,c2,q2,f2,g2,r2,s2],Z.1,Z.2⟩
end
def aah{o:Oper}{k:Int}{t:Nat}{s:Sl}{E:Env}{w:J}{K:Env->J->Prop}(B:k=3\/k=4\/k=5\/k=6\/k=7)(j:o.op=.build aN #[(0,.const (.int .i64 k)),(3,.tmp t)])(q:E.get? t=some s.v)(h:K (E.put o.dst (.agg #[.i k,.int .u8 0,.int .u8 0,s.v])) w):gu Y o E w K:=by
 obtain⟨dst,op,d,pos,after,guard⟩:=o;simp only at j;subst j;show fP Y _ E (λv _=>K (E.put dst v) w);have A:E.dQ ⟨dst,.build aN #[(0,.const (.int .i64 k)),(3,.tmp t)],d,pos,after,guard⟩=true:=by simp[Env.dQ,Op.operands,Env.val,q]
 unfold fP;rw[A];have x:execOp E.ev ⟨dst,.build aN #[(0,.const (.int .i64 k)),(3,.tmp t)],d,pos,after,guard⟩=execOp (λe=>match e with |.const v=>v|_=>s.v) ⟨dst,.build aN #[(0,.const (.int .i64 k)),(3,.tmp t)],d,pos,after,guard⟩:=by
  have:E.ev (.tmp t)=s.v:=jw q;have z:E.ev (.const (.int .i64 k))=.int .i64 k:=by simp[Env.ev,Env.val]
  simp only[execOp,List.map_toArray,lM,List.map_nil,this,z]
 rw[x];have y:pd Y (execOp (λe=>match e with |.const v=>v|_=>s.v) ⟨dst,.build aN #[(0,.const (.int .i64 k)),(3,.tmp t)],d,pos,after,guard⟩)=some (.value (.agg #[.i k,.int .u8 0,.int .u8 0,s.v])):=by kernel_rfl
 rw[y];exact h
def wj{ty:aC}{ds:List Nat}(k:Int)(E:k=3\/k=4\/k=5\/k=6\/k=7)(i d j:Nat){t:Nat}{l:List Rx}(G:(dI Xa Xb Xc Xs)[i]? =some (.tr (.mk k 0 0 l)))(A:(dI Xa Xb Xc Xs)[j]? =some (.ls l))(m:j∈ds)(B:d=dp i)(z:t=dp j):iC w0 base kk Xa Xb Xc Xs i (.build aN #[(0,.const (.int .i64 k)),(3,.tmp t)],some d,ty,ds):=by
 intro L K O o F D N M C e;obtain⟨s,H,h,w,x,y⟩:=e.all j _ A (C j m);rw[<-z]at h;refine aah E F h ?_;rw[D];refine e.step (Fr.refl _ _) B G ⟨.mk k 0 0 s H,rfl,by rw[<-w];rfl,?_,λb q=>y b ?_⟩
 .have:=dw.1 x;unfold I.P;omega
 .unfold I.fp at q;unfold bF I.fp;exact q
def wk{ty:aC}{ds:List Nat}(i d j:Nat){t:Nat}{l:List Rx}(q:(dI Xa Xb Xc Xs)[i]? =some (.tr (.mk 3 0 0 l)))(h:(dI Xa Xb Xc Xs)[j]? =some (.ls l))(m:j∈ds)(k:d=dp i:=by rfl)(e:t=dp j:=by rfl):iC w0 base kk Xa Xb Xc Xs i (.build aN #[(0,.const (.int .i64 3)),(3,.tmp t)],some d,ty,ds):=wj 3 (by omega) i d j q h m k e
def Pu{ty:aC}{ds:List Nat}(i d j:Nat){t:Nat}{l:List Rx}(q:(dI Xa Xb Xc Xs)[i]? =some (.tr (.mk 4 0 0 l)))(h:(dI Xa Xb Xc Xs)[j]? =some (.ls l))(m:j∈ds)(k:d=dp i:=by rfl)(e:t=dp j:=by rfl):iC w0 base kk Xa Xb Xc Xs i (.build aN #[(0,.const (.int .i64 4)),(3,.tmp t)],some d,ty,ds):=wj 4 (by omega) i d j q h m k e
def ZA{ty:aC}{ds:List Nat}(i d j:Nat){t:Nat}{l:List Rx}(q:(dI Xa Xb Xc Xs)[i]? =some (.tr (.mk 5 0 0 l)))(h:(dI Xa Xb Xc Xs)[j]? =some (.ls l))(m:j∈ds)(k:d=dp i:=by rfl)(e:t=dp j:=by rfl):iC w0 base kk Xa Xb Xc Xs i (.build aN #[(0,.const (.int .i64 5)),(3,.tmp t)],some d,ty,ds):=wj 5 (by omega) i d j q h m k e
def Pv{ty:aC}{ds:List Nat}(i d j:Nat){t:Nat}{l:List Rx}(q:(dI Xa Xb Xc Xs)[i]? =some (.tr (.mk 6 0 0 l)))(h:(dI Xa Xb Xc Xs)[j]? =some (.ls l))(m:j∈ds)(k:d=dp i:=by rfl)(e:t=dp j:=by rfl):iC w0 base kk Xa Xb Xc Xs i (.build aN #[(0,.const (.int .i64 6)),(3,.tmp t)],some d,ty,ds):=wj 6 (by omega) i d j q h m k e
def ZB{ty:aC}{ds:List Nat}(i d j:Nat){t:Nat}{l:List Rx}(q:(dI Xa Xb Xc Xs)[i]? =some (.tr (.mk 7 0 0 l)))(h:(dI Xa Xb Xc Xs)[j]? =some (.ls l))(m:j∈ds)(k:d=dp i:=by rfl)(e:t=dp j:=by rfl):iC w0 base kk Xa Xb Xc Xs i (.build aN #[(0,.const (.int .i64 7)),(3,.tmp t)],some d,ty,ds):=wj 7 (by omega) i d j q h m k e
def ZF{ty:aC}{ds:List Nat}(i d j:Nat){t:Nat}{l:List Rx}(D:(dI Xa Xb Xc Xs)[i]? =some (.ls l))(y:(dI Xa Xb Xc Xs)[j]? =some (.ls l))(m:j∈ds)(z:d=dp i:=by rfl)(x:t=dp j:=by rfl):iC w0 base kk Xa Xb Xc Xs i (.assign (.tmp t),some d,ty,ds):=by intro G F K o C B I H A e;obtain⟨s,E,h,k,q,w⟩:=e.all j _ y (A j m);rw[<-x]at h;refine my (.inr C) h ?_;rw[B];exact e.step (Fr.refl _ _) z D ⟨s,E,rfl,k,q,w⟩
def ZE{ds:List Nat}(K:base<=w0.heap.size)(i d:Nat)(P:(dI Xa Xb Xc Xs)[i]? =some (.tr eD))(O:d=dp i:=by rfl):iC w0 base kk Xa Xb Xc Xs i (.call ⟨.value (.func n5),#[],#[]⟩,some d,aN,ds):=by
 intro j e D o x w y S Q q;obtain⟨dst,op,T,pos,after,guard⟩:=o;simp only at x w y;subst x;subst w;subst y;have L:e.dQ ⟨some d,.call ⟨.value (.func n5),#[],#[]⟩,aN,pos,after,guard⟩=true:=by simp[Env.dQ,Op.operands,Call.operands,Env.val]
 have M:g3 Y n5=true:=by kernel_rfl
 have N:calm Y ⟨some d,.call ⟨.value (.func n5),#[],#[]⟩,aN,pos,after,guard⟩=false:=rfl;unfold gu;rw[N,cond_false];unfold g5;dsimp only;rw[L,M];simp only[List.map_toArray,List.map_nil,cond_true];refine(show oS Y n5 #[] (zeroOf Y aN) D (λv h=>JT w0 base kk Xa Xb Xc Xs (dk j i) (e.put (some d) v) h)from ?_);refine(A9 D).mono ?_;rintro _ h ⟨⟨t,rfl,F,G,H⟩,f⟩;have E:m4 (zeroOf Y aN) (λv=>Ending.returned t.v=ae v/\JT w0 base kk Xa Xb Xc Xs (dk j i) (e.put (some d) v) h)=∃z:Int,∃A:Int,∃B:Int,∃C:Sl,Ending.returned t.v=ae (.agg #[.int .i64 z,.int .u8 A,.int .u8 B,C.v])/\JT w0 base kk Xa Xb Xc Xs (dk j i) (e.put (some d) (.agg #[.int .i64 z,.int .u8 A,.int .u8 B,C.v])) h:=by kernel_rfl
 rw[E];exact⟨t.k,t.lo.toNat,t.V.toNat,t.s,rfl,q.step f O P ⟨t,rfl,F,G,λb I=>a6 (q.uK K) (H b I)⟩⟩
def QP:List (Op×Option Nat×aC×List Nat):=[(.load aN (.tmp 5),some 39,aN,[]),
 (.load aN (.tmp 5),some 40,aN,[]),
 (.load aN (.tmp 6),some 41,aN,[]),
 (.buildSlice dm 2 #[(0,.tmp 40),(1,.tmp 41)],some 42,dm,[1,2]),
 (.build aN #[(0,.const (.int .i64 3)),(3,.tmp 42)],some 43,aN,[3]),
 (.load aN (.tmp 5),some 44,aN,[]),
 (.load aN (.tmp 6),some 45,aN,[]),
 (.load aN (.tmp 7),some 46,aN,[]),
 (.buildSlice dm 3 #[(0,.tmp 44),(1,.tmp 45),(2,.tmp 46)],some 47,dm,[5,6,7]),
 (.build aN #[(0,.const (.int .i64 4)),(3,.tmp 47)],some 48,aN,[8]),
 (.load aN (.tmp 8),some 49,aN,[]),
 (.load aN (.tmp 8),some 50,aN,[]),
 (.load aN (.tmp 6),some 51,aN,[]),
 (.buildSlice dm 2 #[(0,.tmp 50),(1,.tmp 51)],some 52,dm,[11,12]),
 (.build aN #[(0,.const (.int .i64 3)),(3,.tmp 52)],some 53,aN,[13]),
 (.load aN (.tmp 5),some 54,aN,[]),
 (.load aN (.tmp 6),some 55,aN,[]),
 (.buildSlice dm 2 #[(0,.tmp 54),(1,.tmp 55)],some 56,dm,[15,16]),
 (.build aN #[(0,.const (.int .i64 3)),(3,.tmp 56)],some 57,aN,[17]),
 (.buildSlice dm 1 #[(0,.tmp 57)],some 58,dm,[18]),
 (.build aN #[(0,.const (.int .i64 6)),(3,.tmp 58)],some 59,aN,[19]),
 (.load aN (.tmp 6),some 60,aN,[]),
 (.load aN (.tmp 5),some 61,aN,[]),
 (.load aN (.tmp 7),some 62,aN,[]),
 (.buildSlice dm 2 #[(0,.tmp 61),(1,.tmp 62)],some 63,dm,[22,23]),
 (.build aN #[(0,.const (.int .i64 4)),(3,.tmp 63)],some 64,aN,[24]),
 (.buildSlice dm 1 #[(0,.tmp 64)],some 65,dm,[25]),
 (.build aN #[(0,.const (.int .i64 7)),(3,.tmp 65)],some 66,aN,[26]),
 (.buildSlice dm 2 #[(0,.tmp 60),(1,.tmp 66)],some 67,dm,[21,27]),
 (.build aN #[(0,.const (.int .i64 3)),(3,.tmp 67)],some 68,aN,[28]),
 (.load aN (.tmp 6),some 69,aN,[]),
 (.buildSlice dm 1 #[(0,.tmp 69)],some 70,dm,[30]),
 (.build aN #[(0,.const (.int .i64 6)),(3,.tmp 70)],some 71,aN,[31]),
 (.load aN (.tmp 5),some 72,aN,[]),
 (.call ⟨.value (.func n5),#[],#[]⟩,some 73,aN,[]),
 (.buildSlice dm 2 #[(0,.tmp 72),(1,.tmp 73)],some 74,dm,[33,34]),
 (.build aN #[(0,.const (.int .i64 3)),(3,.tmp 74)],some 75,aN,[35]),
 (.buildSlice dm 2 #[(0,.tmp 71),(1,.tmp 75)],some 76,dm,[32,36]),
 (.build aN #[(0,.const (.int .i64 5)),(3,.tmp 76)],some 77,aN,[37]),
 (.buildSlice dm 8 #[(0,.tmp 39),(1,.tmp 43),(2,.tmp 48),(3,.tmp 49),(4,.tmp 53),(5,.tmp 59),(6,.tmp 68),(7,.tmp 77)],some 78,dm,[0,4,9,10,14,20,29,38]),
 (.assign (.tmp 78),some 9,dm,[39,34,0,1,2,3,4,5,6,7,8,9,10,11,12,13,14,15,16,17,18,19,20,21,22,23,24,25,26,27,28,29,30,31,32,33,34,35,36,37,38,39])]
def ZH(d:base<=w0.heap.size):allI (uz Y (JT w0 base kk Xa Xb Xc Xs)) QP 0:=
 ⟨(tw 0 39 rfl),
  (tw 1 40 rfl),
  (tz 2 41 rfl),
  (q1 d 3 42 1 2 rfl rfl rfl (by simp) (by simp)),
  (wk 4 43 3 rfl rfl (by simp)),
  (tw 5 44 rfl),
  (tz 6 45 rfl),
  (Pw 7 46 rfl),
  (ZC d 8 47 5 6 7 rfl rfl rfl rfl (by simp) (by simp) (by simp)),
  (Pu 9 48 8 rfl rfl (by simp)),
  (Px 10 49 rfl),
  (Px 11 50 rfl),
  (tz 12 51 rfl),
  (q1 d 13 52 11 12 rfl rfl rfl (by simp) (by simp)),
  (wk 14 53 13 rfl rfl (by simp)),
  (tw 15 54 rfl),
  (tz 16 55 rfl),
  (q1 d 17 56 15 16 rfl rfl rfl (by simp) (by simp)),
  (wk 18 57 17 rfl rfl (by simp)),
  (Et d 19 58 18 rfl rfl (by simp)),
  (Pv 20 59 19 rfl rfl (by simp)),
  (tz 21 60 rfl),
  (tw 22 61 rfl),
  (Pw 23 62 rfl),
  (q1 d 24 63 22 23 rfl rfl rfl (by simp) (by simp)),
  (Pu 25 64 24 rfl rfl (by simp)),
  (Et d 26 65 25 rfl rfl (by simp)),
  (ZB 27 66 26 rfl rfl (by simp)),
  (q1 d 28 67 21 27 rfl rfl rfl (by simp) (by simp)),
  (wk 29 68 28 rfl rfl (by simp)),
  (tz 30 69 rfl),
  (Et d 31 70 30 rfl rfl (by simp)),
  (Pv 32 71 31 rfl rfl (by simp)),
  (tw 33 72 rfl),
  (ZE d 34 73 rfl),
  (q1 d 35 74 33 34 rfl rfl rfl (by simp) (by simp)),
  (wk 36 75 35 rfl rfl (by simp)),
  (q1 d 37 76 32 36 rfl rfl rfl (by simp) (by simp)),
  (ZA 38 77 37 rfl rfl (by simp)),
  (ZD d 39 78 0 4 9 10 14 20 29 38 rfl rfl rfl rfl rfl rfl rfl rfl rfl (by simp) (by simp) (by simp) (by simp) (by simp) (by simp) (by simp) (by simp)),
  (ZF 40 9 39 rfl rfl (by simp)),trivial⟩
end
def kM(k:Nat):Rx:=B8 (eM (k%6)) (eM (k / 6%6)) (eM (k / 36%6)) (k / 216%8)
def NA(k:Nat):Bool:=cK (kM k)&&Nat.ble (kM k).sz 1000&&il (dL (kM k))&&Nat.ble (dL (kM k)).sz 1000
def Yo:(List.range 1728).all NA=true:=by kernel_rfl
def IP(k:Nat):kM k=kM (k%1728):=by unfold kM;rw[show k%1728%6=k%6 by omega,show k%1728 / 6%6=k / 6%6 by omega,show k%1728 / 36%6=k / 36%6 by omega,show k%1728 / 216%8=k / 216%8 by omega]
def aaZ(k:Nat):cK (kM k)=true/\(kM k).sz<=1000/\il (dL (kM k))=true/\(dL (kM k)).sz<=1000:=by rw[IP];have:=ft.1 Yo (k%1728) (List.mem_range.2 (Nat.mod_lt _ (by omega)));unfold NA at this;simp only[bq]at this;exact⟨this.1.1.1,Nat.le_of_ble_eq_true this.1.1.2,this.1.2,Nat.le_of_ble_eq_true this.2⟩
def Rg(k:Nat):lT k=a9 (dL (kM k)):=rfl
def Rh(k:Nat):lT k=lT (k%1728):=by rw[Rg,Rg,IP]
def TW(n m:Int)(w:J)(e:1<=m)(h:a7 n):ai Y sR #[.i n,.i m] w λr d=>r=ae (.i (gz n m))/\ag w d:=(AR n m w e h).mono λr d h=>⟨h.1,h.2▸Fr.refl _ _⟩
def Gl(d:I):List I:=[ml 2 97 97,ml 2 98 98,ml 2 0 0,ml 2 97 98,ml 1 0 0,d]
def AV(e:I)(h:e.rx=eD){i:Nat}(V:i<6):∃t,(Gl e)[i]? =some t/\t.rx=eM i/\(t=e\/∀d:J,t.P d/\∀b,¬b∈t.fp):=by
 have:i=0\/i=1\/i=2\/i=3\/i=4\/i=5:=by omega
 rcases this with rfl|rfl|rfl|rfl|rfl|rfl
 .exact ⟨_,rfl,rfl,.inr λd=>⟨qD _ _ _ d,λb=>qE⟩⟩
 .exact ⟨_,rfl,rfl,.inr λd=>⟨qD _ _ _ d,λb=>qE⟩⟩
 .exact ⟨_,rfl,rfl,.inr λd=>⟨qD _ _ _ d,λb=>qE⟩⟩
 .exact ⟨_,rfl,rfl,.inr λd=>⟨qD _ _ _ d,λb=>qE⟩⟩
 .exact ⟨_,rfl,rfl,.inr λd=>⟨qD _ _ _ d,λb=>qE⟩⟩
 .exact ⟨e,rfl,h,.inl rfl⟩
def VM(a b c:Rx){i:Nat}(V:i<8):[a,.mk 3 0 0 [a,b],.mk 4 0 0 [a,b,c],.mk 7 0 0 [a],.mk 3 0 0 [.mk 7 0 0 [a],b],.mk 6 0 0 [.mk 3 0 0 [a,b]],.mk 3 0 0 [b,.mk 7 0 0 [.mk 4 0 0 [a,c]]],.mk 5 0 0 [.mk 6 0 0 [b],.mk 3 0 0 [a,eD]]][i]? =some (B8 a b c i):=by
 have:i=0\/i=1\/i=2\/i=3\/i=4\/i=5\/i=6\/i=7:=by omega
 rcases this with rfl|rfl|rfl|rfl|rfl|rfl|rfl|rfl<;>rfl
def zA(k m:Nat)(d:0<m):ck (k:Int) (m:Int)=((k%m:Nat):Int):=by rw[Int.tmod_eq_emod_of_nonneg (by omega)];omega
def E3(k m:Nat)(h:k<=1048576):aj .i64 (bL (k:Int) (m:Int))=((k / m:Nat):Int):=by
 have d:bL (k:Int) (m:Int)=((k / m:Nat):Int):=by rw[Int.tdiv_eq_ediv_of_nonneg (by omega)];rfl
 have e:k / m<=k:=Nat.div_le_self k m;rw[d];generalize k / m=q at e;rw[aQ _ (by omega)]
section
variable {w w24:J} {R:aH} {K:Nat}
def aaY(E:K<=1048576){s:Sl}{O:List I}{w':J}(x:I.ao O=[eM (K%6),.mk 3 0 0 [eM (K%6),eM (K / 6%6)],.mk 4 0 0 [eM (K%6),eM (K / 6%6),eM (K / 36%6)],.mk 7 0 0 [eM (K%6)],.mk 3 0 0 [.mk 7 0 0 [eM (K%6)],eM (K / 6%6)],.mk 6 0 0 [.mk 3 0 0 [eM (K%6),eM (K / 6%6)]],.mk 3 0 0 [eM (K / 6%6),.mk 7 0 0 [.mk 4 0 0 [eM (K%6),eM (K / 36%6)]]],.mk 5 0 0 [.mk 6 0 0 [eM (K / 6%6)],.mk 3 0 0 [eM (K%6),eD]]])(e:(bF s O).P w')(f:ag w w'):u'.T9 s (K:Int) w' λr w'=>r=ae (.string (ba (lT K)))/\ag w w':=by
 have N:=I.cr (dw.1 e).1;have M:O.length=8:=by have:=congrArg List.length x;rw[I.fu,List.length_map]at this;simpa using this
 show(0:Int)<=ck (aj .i64 (bL (K:Int) ((216:Nat):Int))) ((8:Nat):Int)/\ck (aj .i64 (bL (K:Int) ((216:Nat):Int))) ((8:Nat):Int)<((s.n:Nat):Int)/\dM s.a λp=>fM w' (p.add (aV (ck (aj .i64 (bL (K:Int) ((216:Nat):Int))) ((8:Nat):Int)) *4)) _;rw[E3 K 216 E,zA _ 8 (by omega)];have F:K / 216%8<8:=Nat.mod_lt _ (by omega);have d:O[K / 216%8]? =some (O[K / 216%8]'(by omega)):=a4 (by omega);generalize O[K / 216%8]'(by omega)=t at d;have z:t.rx=kM K:=by have y:=VM (eM (K%6)) (eM (K / 6%6)) (eM (K / 36%6)) F;rw[<-x,I.fu,hr,d]at y;exact Option.some.inj y
 obtain⟨j,k,h,q⟩:=aaZ K;rw[<-z]at j k h q;have G:t.P w':=(dw.1 e).2.get d;refine⟨by omega,by omega,I.dd (dw.1 e).1 d λp e c=>⟨_,_,_,_,c.c0,c.c1,c.c2,c.c3,(G0 t w' (by rw[<-I.eB];exact k) j G).mono ?_⟩⟩;rintro _ L ⟨⟨u,rfl,A,H,_⟩,C⟩;rw[<-A]at h q;refine⟨_,_,_,u.s,rfl,(GB u 0 L (by rw[<-I.eB];omega) (by omega) h H).mono ?_⟩;rintro _ Q ⟨rfl,D⟩;refine⟨_,rfl,?_,(f.dA C).dA D⟩;have B:cL 0 u.rx (a9 u.rx)=a9 u.rx:=by unfold cL;rw[af (by omega)]
 rw[B,A,z];rfl
end
def SC{s:Sl}{k:Int}{w:J}{R d:aH}(h:u'.T9 s k w R)(E:∀r e,R r e->d r e):u'.T9 s k w d:=
 ⟨h.1,h.2.1,Yr h.2.2 λp ⟨a,b,c,j,x,y,z,A,C⟩=>⟨a,b,c,j,x,y,z,A,C.mono λr H ⟨q,f,g,i,D,G⟩=>⟨q,f,g,i,D,G.mono λr I ⟨t,F,B⟩=>⟨t,F,E _ _ B⟩⟩⟩⟩
def TU(n:Int)(hn:a7 n)(w:J):ai Y Kz #[.i n] w λr x=>(∃ak:Nat,r=ae (.string (ba (lT ak))))/\ag w x:=by
 have hr:=iY n 1048576 (by omega);obtain⟨K,hK⟩:∃K:Nat,gz n 1048576=(K:Int):=⟨(gz n 1048576).toNat,by omega⟩;have D:K<=1048576:=by omega
 have ac:LH F0 w w [] []:=bI [] (by simp);refine u'.ok n w _ (ac.call (TW n 1048576 w (by omega) hn) ?_);rintro _ w1 rfl H;refine⟨_,rfl,H.uP (A9 w1) ?_⟩;rintro _ G ⟨j,rfl,F,al,V⟩ _ F2;have H2:=F2.rd (.tree j) al λb q=>V b (aM.1 q);rw[hK];have S:=zA K 6 (by omega);have Q:=E3 K 6 D;have O:=E3 K 36 D;have U:=zA (K / 6) 6 (by omega);have T:=zA (K / 36) 6 (by omega);have c6:((6:Nat):Int)=6:=rfl;have aj:((36:Nat):Int)=36:=rfl;rw[c6]at S Q U T;rw[aj]at O;rw[S,Q,O,U,T];obtain⟨z,ga,ra,xa⟩:=AV j F (i:=K%6) (Nat.mod_lt _ (by omega));obtain⟨tb,gb,rb,xb⟩:=AV j F (i:=K / 6%6) (Nat.mod_lt _ (by omega));obtain⟨tc,gc,rc,xc⟩:=AV j F (i:=K / 36%6) (Nat.mod_lt _ (by omega));have la:K%6<6:=Nat.mod_lt _ (by omega);have lb:K / 6%6<6:=Nat.mod_lt _ (by omega);have lc:K / 36%6<6:=Nat.mod_lt _ (by omega);have C:∀t:I,(t=j\/∀w:J,t.P w/\∀b,¬b∈t.fp)->(∀x:J,j.P x->t.P x)/\∀b∈t.fp,w.heap.size<=b:=λt h=>by
  rcases h with rfl|h
  .exact ⟨λ_ h=>h,λb q=>a6 H.fr.size (V b q)⟩
  .exact ⟨λx _=>(h x).1,λb q=>((h w).2 b q).elim⟩
 refine⟨_,_,_,j.s,rfl,H2.cN (n:=6) (sz:=4) (cs:=(Gl j).flatMap I.c) rfl (by decide) λw3 M=>?_⟩;refine⟨by omega,by omega,I.dd (s:=⟨some (ab G.heap.size),6,6⟩) (M.get 0:aK _ _ _ _ _).bd ga λp Z c=>?_⟩;refine⟨_,_,_,_,c.c0,c.c1,c.c2,c.c3,M.nw λw4 _ H4=>H4.jL 1 rfl λw8 N=>?_⟩;refine⟨by omega,by omega,I.dd (s:=⟨some (ab G.heap.size),6,6⟩) (N.get 0:aK _ _ _ _ _).bd gb λp Z c=>?_⟩;refine⟨_,_,_,_,c.c0,c.c1,c.c2,c.c3,N.nw λw9 _ H9=>H9.jL 2 rfl λam L=>?_⟩;refine⟨by omega,by omega,I.dd (s:=⟨some (ab G.heap.size),6,6⟩) (L.get 0:aK _ _ _ _ _).bd gc λp Z c=>?_⟩;refine⟨_,_,_,_,c.c0,c.c1,c.c2,c.c3,L.nw λar _ ad=>ad.jL 3 rfl λaa y=>?_⟩;refine⟨_,_,_,z.s,y.ld 1 0,y.ld 1 1,y.ld 1 2,y.ld 1 3,y.cN (n:=1) (sz:=4) (cs:=[z].flatMap I.c) rfl (by decide) λan af=>af.nw λav _ ah=>ah.jL 5 rfl λd e=>?_⟩;have A:=C z xa;have pb:=C tb xb;have pc:=C tc xc;have ps:(I.mk 7 0 0 ⟨some (ab aa.heap.size),1,1⟩ [z]).P d:=by unfold I.P;exact⟨(e.get 4:aK _ _ _ _ _).bd,I.ir (by simp;exact A.1 d (e.getD 0))⟩
 have W:ag w d:=e.fr;refine Cm QP (by kernel_rfl) (JT d w.heap.size (K:Int) (eM (K%6)) (eM (K / 6%6)) (eM (K / 36%6)) (.mk 7 0 0 [eM (K%6)])) ?_ (ZH W.size) ?_
 .refine ⟨Fr.drew _ _,rfl,?_,?_,?_,?_,λi sp hs E=>by cases E⟩
  .exact jn.br (w:=d) ⟨w3.heap.size,z,rfl,e.ob 1,ra,A.1 d (e.getD 0),A.2⟩ (Fr.drew _ _)
  .exact jn.br (w:=d) ⟨w8.heap.size,tb,rfl,e.ob 2,rb,pb.1 d (e.getD 0),pb.2⟩ (Fr.drew _ _)
  .exact jn.br (w:=d) ⟨am.heap.size,tc,rfl,e.ob 3,rc,pc.1 d (e.getD 0),pc.2⟩ (Fr.drew _ _)
  .refine jn.br (w:=d) ⟨an.heap.size,.mk 7 0 0 ⟨some (ab aa.heap.size),1,1⟩ [z],rfl,e.ob 5,?_,ps,DA (λb q=>?_) A.2⟩ (Fr.drew _ _)
   .rw [<-ra];rfl
   .simp only[ax,au,aO,aR]at q;rw[q];exact y.fr.size
 .intro ap ao x E B;obtain⟨s,ts,h1,h2,h3,_⟩:=B.all 40 _ rfl (E 40 (by decide));refine⟨s,(K:Int),h1,B.k,?_⟩;refine SC (aaY D h2 h3 (W.dA B.fr)) λr aq h=>⟨⟨K,h.1⟩,h.2⟩
def CB{w:J}{s:Sl}{l:List Nd}(h:GP w s l):LH F0 w w [] [.gr s l]:=bI _ (by intro e d;simp only[au,aO,aR]at d;subst d;exact bR.2 h)
abbrev qO(s:Sl)(l:List Int):En:=.row bN 1 s (l.map a')
def yM{w:J}{s:Sl}{l:List Int}(h:aK w bN 1 s (l.map a')):bo w s l:=h.jd
def yL{w:J}{s:Sl}{l:List Int}(h:aK w bN 1 s (l.map a')):s.n=l.length:=by have:=h.len;simp at this;omega
def A4{w:J}{s:Sl}{l:List Nd}(h:GP w s l)(t:bj)(n:Int)(W:a7 n)(V:l.length<=e5):
  ai Y KZ #[s.v,dO t,.i n] w λr G=>(∃q:Int,r=ae (.i q)/\-1<=q/\q<(l.length:Int))/\ag w G:=by
 have hs:=ih h;unfold e5 at V;have loop:∀(m i:Nat) (y:Sl) (ks:List Int) (e:Nat) (A:J),i+m=l.length->ks.length<=i->(∀F∈ks,0<=F/\F<(l.length:Int))->LH F0 w A [.g e,qO y ks] [.gr s l]->
   qu.a2 s n e t.k t.n t.x y (i:Int) A λr G=>(∃q:Int,r=ae (.i q)/\-1<=q/\q<(l.length:Int))/\ag w G:=by
  intro m;induction m with
  |zero=>
   intro i y ks e A T U E z;have hlen:=yL (z.get 1);refine qu.bw _ _ _ _ _ _ _ _ _ _ (aZ (aW (by omega)) (aL (λP=>⟨⟨_,rfl,by omega,by omega⟩,z.fr⟩) (λP=>z.aw (i5 n _ A (by omega) W) ?_)));have Z:=iY n ((y.n:Nat):Int) (by omega);generalize gz n ((y.n:Nat):Int)=q at Z;rintro _ H rfl B;obtain⟨j,rfl⟩:∃j:Nat,q=(j:Int):=⟨q.toNat,by omega⟩;have C:ks[j]? =some (ks[j]'(by omega)):=a4 (by omega);have D:=E _ (aD C);exact⟨_,rfl,by omega,by omega,(yM (B.get 1)).cell C (by omega) λp I Q=>⟨_,Q,⟨⟨_,rfl,by omega,by omega⟩,B.fr⟩⟩⟩
  |succ m K=>
   intro i y ks e A T U E z;have C:l[i]? =some (l[i]'(by omega)):=a4 (by omega);generalize l[i]'(by omega)=d at C;have hlen:=yL (z.get 1);refine qu.bw _ _ _ _ _ _ _ _ _ _ (a1 (aS (by omega)) (hQ (bR.1 (z.getD 0)) rfl C λp I _=>z.ah λH B=>?_));have c:=Cf (bR.1 (B.getD 0)) C I (rfl:((i:Int))=(i:Int));refine⟨_,_,_,c.s0,c.s1,c.s2,nt (a:=d.x.st) (b:=t) (λS=>?_) (λS=>?_)⟩
   .refine B.h7 1 ic rfl (λL M O=>?_) (by omega);show qu.a2 s n e t.k t.n t.x L (aj .i64 ((i:Int)+1)) M _;rw[bb _ (by omega)];refine K (i+1) L (ks++[(i:Int)]) e M (by omega) (by simp;omega) (λF D=>?_) (by rw[qO,List.map_append];exact O);rcases aY.1 D with D|D
    .exact E F D
    .simp only[au,aO,aR]at D;omega
   .show qu.a2 s n e t.k t.n t.x y (aj .i64 ((i:Int)+1)) H _;rw[bb _ (by omega)];exact K (i+1) y ks e H (by omega) (by omega) E B
 exact qu.aB _ _ _ _ _ w _ ((CB h).aG λe A N=>loop l.length 0 ⟨none,0,0⟩ [] e A (by omega) (by simp) (by simp) (N.hR bN 1))
def Uw{w:J}{s:Sl}{l:List Nd}(h:GP w s l)(op:Int)(x:Nat)(ab n:Int)(G:x<l.length)(F:a7 n):
  ai Y Ld #[s.v,.i op,.i (x:Int),.i ab,.i n] w λr H=>(∃t:bj,r=ae (dO t))/\ag w H:=by
 have hs:=ih h;have N:l[x]? =some (l[x]'G):=a4 G;generalize l[x]'G=d at N;refine BQ.aB _ _ _ _ _ w _ ((CB h).aG λA w1 K=>hQ (bR.1 (K.getD 0)) rfl N λp hp c=>⟨_,_,_,c.s0,c.s1,c.s2,K.aG λD w2 z=>?_⟩);have ret:∀(a b c:Int) (e:J) (U:List Nat),(∀b∈U,En.g b∈[En.g A,.g D])->LH F0 w e [.g A,.g D] [.gr s l]->loc U e λO=>(∃t:bj,Ending.returned (.agg #[.i a,.i b,.i c])=ae (dO t))/\ag w O:=λa b c e U hb k=>k.ah (λO Q=>⟨⟨⟨a,b,c⟩,rfl⟩,Q.fr⟩) hb;have C:∀e,LH F0 w e [.g A,.g D] [.gr s l]->BQ.bn n A 0 0 0 e λr H=>(∃t:bj,r=ae (dO t))/\ag w H:=by intro e k;refine k.aw (i5 n 3 e (by omega) F) ?_;rintro _ y rfl q;refine⟨_,rfl,q.aw (nM _ y) ?_⟩;rintro _ I rfl B;exact⟨_,_,_,rfl,ret _ _ _ I _ (by simp) B⟩
 refine aL (λS=>z.ah λe k=>k.aw (i5 n _ e (by omega) F) ?_) (λS=>aL (λT=>z.ah λe k=>k.aw (i5 n 3 e (by omega) F) ?_) (λT=>aL (λV=>z.ah λe k=>k.aw (fh _ e) ?_) (λV=>aL (λW=>aL (λZ=>z.ah λe k=>k.aw (fh _ e) ?_) (λZ=>z.ah λe k=>k.aw (D4 d.x.st e) ?_)) (λW=>aL (λh6=>z.ah λe k=>k.aw (fh _ e) ?_) (λh6=>aL (λL=>a1 (beq_iff_eq.2 L) (z.ah λe k=>C e k)) (λL=>aL (λM=>a1 (beq_iff_eq.2 M) (z.ah λe k=>C e k)) (λM=>aL (λh9=>z.ah λe k=>C e k) (λh9=>z.ah λe k=>ret _ _ _ e _ (by simp) k))))))))
 .have hr:=iY n ((s.n:Nat):Int) (by omega);generalize gz n ((s.n:Nat):Int)=P at hr;rintro _ y rfl q;obtain⟨j,rfl⟩:∃j:Nat,P=(j:Int):=⟨P.toNat,by omega⟩;have aa:l[j]? =some (l[j]'(by omega)):=a4 (by omega);exact⟨_,rfl,hQ (bR.1 (q.getD 0)) rfl aa λac hq E=>⟨_,_,_,E.s0,E.s1,E.s2,ret _ _ _ y _ (by simp) q⟩⟩
 .rintro _ y rfl q;refine⟨_,rfl,q.aw (fh _ y) ?_⟩;rintro _ I rfl B;exact⟨_,_,_,rfl,ret _ _ _ I _ (by simp) B⟩
 .rintro _ y rfl q;exact⟨_,_,_,rfl,ret _ _ _ y _ (by simp) q⟩
 .rintro _ y rfl q;exact⟨_,_,_,rfl,ret _ _ _ y _ (by simp) q⟩
 .rintro _ y rfl q;exact⟨_,_,_,rfl,ret _ _ _ y _ (by simp) q⟩
 .rintro _ y rfl q;exact⟨_,_,_,rfl,ret _ _ _ y _ (by simp) q⟩
def Wg{w:J}{s:Sl}{l:List Nd}(h:GP w s l){i:Nat}{d:Nd}(V:l[i]? =some d){K:Addr->Prop}{X:Int}(e:X=(i:Int))(k:∀p,s.a=some p->eb w (p.add (aV X *9)) d->K p):fb s X K:=by have y:=ih h;have x:=(cz.1 V).1;subst e;exact⟨by omega,by omega,eV.elem (f:=Nd.c) (sz:=9) Nd.jq (by omega) h.1.2.2 V λp q j=>k p q j⟩
abbrev k6(d:Nat)(s:Sl)(mp mv:Nat)(l:List Nd)(hO:Array MapEntry)(c1:Nat)(hg:Array MapEntry)(c2:Nat):List En:=
 [.c d [s.v,.map (some mp),.map (some mv)] tV,.row cA 9 s (l.flatMap Nd.c),.ob mp (.map hO c1),.ob mv (.map hg c2)]
def hD(w:J)(d:Nat)(l:List Nd)(own:List Nat):Prop:=∃(s:Sl) (mp mv:Nat) (hO:Array MapEntry) (c1:Nat) (hg:Array MapEntry) (c2:Nat),own=(k6 d s mp mv l hO c1 hg c2).flatMap (·.fp)/\own.Nodup/\(∀e∈k6 d s mp mv l hO c1 hg c2,e.P w)/\jV hO (iP (xs l) 0)/\jV hg (hY (xs l))
def rs(w:J)(h:Nat)(own:List Nat)(l:List Nd)(w':J):Prop:=∃d,hD w' h l d/\Fr (·∈own) w w'/\∀e∈d,e∈own\/w.heap.size<=e
def hD.open{w:J}{j:Nat}{l:List Nd}{own:List Nat}(h:hD w j l own)(D:List En)(q:∀d∈D,d.P w/\∀b∈d.fp,b∉own):
  ∃(s:Sl) (mp mv:Nat) (hO:Array MapEntry) (c1:Nat) (hg:Array MapEntry) (c2:Nat),jV hO (iP (xs l) 0)/\jV hg (hY (xs l))/\LH (·∈own) w w (k6 j s mp mv l hO c1 hg c2) D:=by
 obtain⟨s,mp,mv,hO,c1,hg,c2,y,G,C,A,B⟩:=h;have x:∀d∈k6 j s mp mv l hO c1 hg c2,∀b∈d.fp,b∈own:=λd e b k=>by rw[y];exact bS.2 ⟨d,e,k⟩
 exact⟨s,mp,mv,hO,c1,hg,c2,A,B,LH.tK _ _ (λd e=>⟨C d e,x d e⟩) (y▸G) (λd e=>⟨(q d e).1,λb k z E F=>(q d e).2 b k (x z E b F)⟩)⟩
def hD.close{w w':J}{d:Nat}{l:List Nd}{own:List Nat}{s:Sl}{mp mv:Nat}{hO:Array MapEntry}{c1:Nat}{hg:Array MapEntry}{c2:Nat}{D:List En}(H:LH (·∈own) w w' (k6 d s mp mv l hO c1 hg c2) D)(h:jV hO (iP (xs l) 0))(j:jV hg (hY (xs l))):rs w d own l w':=
 ⟨_,⟨s,mp,mv,hO,c1,hg,c2,rfl,H.nd,H.own,h,j⟩,H.fr,λy x=>by obtain⟨e,q,k⟩:=bS.1 x;exact(H.new e q y k).symm⟩
def J5:xi Y aa9 fX bN (.int .i64 0):=⟨by kernel_rfl,by kernel_rfl,by kernel_rfl⟩
def J6:xi Y aa8 fX cg (.agg #[.int .i64 0,.int .i64 0,.int .i64 0]):=⟨by kernel_rfl,by kernel_rfl,by kernel_rfl⟩
def _root_.Go.W.En.cl(p:Addr)(v:aa):En:=⟨[p.block],λe=>e.cell? p=some v,λe q j d=>by have k:=nO d;unfold World.cell? at d ⊢;rw[j p.block (by simp) k];exact d,λe d b h=>by simp at h;subst h;exact nO d,by simp⟩
def Xq{l:List Nd}(t:ByteArray):∃(a b c:Int) (y:Bool),((jI (hY (xs l)) t).getD (.agg #[.int .i64 0,.int .i64 0,.int .i64 0]))=.agg #[.i a,.i b,.i c]/\(jI (hY (xs l)) t).isSome=y/\sQ (xs l) t=ae (.tuple #[.agg #[.i a,.i b,.i c],.bool y]):=by
 rw[Fy];unfold sQ;cases jO (xs l) t with
 |none=>exact⟨0,0,0,false,rfl,rfl,rfl⟩
 |some s=>exact⟨s.k,s.n,s.x,true,rfl,rfl,rfl⟩
def Tg{w:J}{e:Nat}{l:List Nd}{s:Sl}{mp mv:Nat}{hO:Array MapEntry}{c1:Nat}{hg:Array MapEntry}{c2:Nat}{k:Addr}(h:∀q∈k6 e s mp mv l hO c1 hg c2,q.P w)(D:jV hg (hY (xs l)))(E:w.cell? k=some (.pointer (some (ab e))))(t:ByteArray):
  ai Y Dl #[.string t,.pointer (some k)] w λr F=>r=sQ (xs l) t/\ag w F:=by
 have x:LH F0 w w [] (k6 e s mp mv l hO c1 hg c2++[.cl k (.pointer (some (ab e)))]):=bI _ (by
  intro q d;rcases aY.1 d with d|d
  .exact h q d
  .simp only[au,aO,aR]at d;subst d;exact E)
 obtain⟨a,b,c,G,A,B,C⟩:=Xq (l:=l) t;refine QV.aB t k w _ (x.aG λH K j=>⟨_,j.getD 4,qS ⟨some mv,cellAt (p:=ab e) (j.getD 0) rfl rfl,a,b,c,G,?_,j.aG λI L y=>y.ah λM z=>⟨C.symm,z.fr⟩⟩⟩);rw[JZ J6 (j.getD 3) D t,A,B]
def Ti{w:J}{q:Nat}{l:List Nd}{own:List Nat}{d:Nd}(h:hD w q l own)(U:∀k∈l,k.P w)(S:d.P w)(T:b'.P w)(W:oO d.x)(V:l.length<=1000000000)(hv:∀k∈xs l,bU k.st=true):
  ai Y MJ #[.pointer (some (ab q)),d.v] w λr F=>r=gn (cv (xs l) d.x)/\ag w F:=by
 obtain⟨s,mp,E,A,y,B,z,_,_,C,_,Q⟩:=h;have Z:aK w cA 9 s (l.flatMap Nd.c):=C _ (aD (i:=1) rfl);have H:LH F0 w w [] (k6 q s mp E l A y B z++[.gr s l,cY d,b']):=bI _ (by
  intro k j;rcases aY.1 j with j|j
  .exact C k j
  .simp only[au,aO,aR]at j;rcases j with rfl|rfl|rfl
   .exact bR.2 ⟨Z.bd,U⟩
   .exact S
   .exact T)
 refine QU.aB _ _ _ _ _ _ _ _ _ _ w _ (H.nw λw1 _ I=>I.aG λb3 w2 K=>K.aG λb4 w3 L=>L.ah λG e=>⟨_,e.j6 0,qS ⟨s,cellAt (p:=ab q) (e.getD 0) rfl rfl,?_⟩⟩);have O:LH F0 G G [] (.gr s l::cY d::b'::(k6 q s mp E l A y B z++[.cl (ab w.heap.size) (.pointer (some (ab q)))])):=bI _ (by
  intro k j;simp only[jc,lN,au,aO,aR]at j;rcases j with rfl|rfl|rfl|rfl|rfl|rfl|rfl|rfl
  .exact e.getD 4
  .exact e.getD 5
  .exact e.getD 6
  .exact e.getD 0
  .exact e.getD 1
  .exact e.getD 2
  .exact e.getD 3
  .exact e.j6 0)
 refine e.aw (aaT ⟨Dl,#[],#[.pointer (some (ab w.heap.size))]⟩ O (by kernel_rfl) (λF D=>?_) W V hv) ?_
 .exact Tg (λk j=>D k (List.mem_append_left _ j)) Q (D (.cl (ab w.heap.size) (.pointer (some (ab q)))) (by simp)) d.x.tx
 .rintro _ w5 rfl M;exact⟨_,_,_,_,rfl,M.ah λw6 N=>⟨rfl,N.fr⟩⟩
def nW(g:List Nx)(n:Nx):Int×Bool:=match hn n g 0 with
 |some i=>((i:Int),true)
 |none=>(0,false)
def find_eq{g:List Nx}{n:Nx}(e:0<=n.u)(h:∀d∈g,0<=d.u):(jI (iP g 0) (j4 n)).getD (.int .i64 0)=.i (nW g n).1/\(jI (iP g 0) (j4 n)).isSome=(nW g n).2:=by
 rw[DR e h];unfold nW;cases hn n g 0 with
 |none=>exact⟨rfl,rfl⟩
 |some i=>exact⟨rfl,rfl⟩
def Tf{w:J}{j:Nat}{l:List Nd}{own:List Nat}{d:Nd}(h:hD w j l own)(K:d.P w)(W:ff d.x)(L:∀y∈xs l,0<=y.u):
  ai Y MH #[.pointer (some (ab j)),d.v] w λr N=>r=ae (.tuple #[.i (nW (xs l) d.x).1,.bool (nW (xs l) d.x).2])/\ag w N:=by
 obtain⟨s,mp,M,F,B,G,C,_,_,I,H,_⟩:=h;have z:LH F0 w w [] (k6 j s mp M l F B G C++[cY d]):=bI _ (by
  intro y e;rcases aY.1 e with e|e
  .exact I y e
  .simp only[au,aO,aR]at e;subst e;exact K)
 refine QT.ok _ _ _ _ _ _ _ _ _ _ w _ (z.nw λO _ A=>A.dr λQ k=>⟨some mp,cellAt (p:=ab j) (k.getD 0) rfl rfl,k.call (QM (d:=d) (yG (k.ob 0)) (k.getD 4) W) ?_⟩);rintro _ S rfl q;obtain⟨D,E⟩:=find_eq W.u.1 L;refine⟨_,rfl,cellAt (p:=ab j) (q.getD 0) rfl rfl,(nW (xs l) d.x).1,(nW (xs l) d.x).2,?_,rfl,q.fr⟩;have:=JZ J5 (q.getD 2) H (j4 d.x);rw[D,E]at this;exact this
def Gn{w:J}{z:Nat}{l:List Nd}{own:List Nat}{d:Nd}(h:hD w z l own)(hd:d.P w)(ak:∀b∈(cY d).fp,b∉own)(W:ff d.x)(hu:∀A∈xs l,0<=A.u)(hl:l.length<=100000)(al:d.x∉xs l)(an:d.x.op=0->jO (xs l) d.x.tx=none):
  ai Y MI #[.pointer (some (ab z)),d.v] w λr U=>r=ae (.i (l.length:Int))/\rs w z own (l++[d]) U:=by
 obtain⟨s,mp,G,ar,L,aj,N,h1,h2,aa⟩:=h.open [cY d] (by intro A he;simp only[au,aO,aR]at he;subst he;exact⟨hd,ak⟩)
 have ag:s.n=l.length:=Nd.cr (show bx 9 w s (l.flatMap Nd.c)from(show aK w cA 9 s (l.flatMap Nd.c)from aa.get 1).bd);have g1:jI (iP (xs l) 0) (j4 d.x)=none:=by
  rw[DR W.u.1 hu];cases hi:hn d.x (xs l) 0 with
  |none=>rfl
  |some i=>
   have:=(ya hi).2;exact absurd (aD this) al
 have ad:xs (l++[d])=xs l++[d.x]:=by simp[xs]
 have p1:iP (xs (l++[d])) 0=iP (xs l) 0++[(j4 d.x,.i (l.length:Int))]:=by rw[ad,NZ];simp[xs]
 have p2:hY (xs (l++[d]))=hY (xs l)++(if d.x.op=0 then[(d.x.tx,dO d.x.st)]else[]):=by rw[ad,RA]
 have ac:∀(E:Array MapEntry) (M:Nat) (y:Array MapEntry) (O S:Nat) (I:J),jV E (iP (xs (l++[d])) 0)->jV y (hY (xs (l++[d])))->LH (·∈own) w I (k6 z s mp G l E M y O++[.c S d.c cA]) [cY d]->
   zC.S0 (ab z) (ab S) I λr U=>r=ae (.i (l.length:Int))/\rs w z own (l++[d]) U:=by
  intro E M y O S I H q2 K;dsimp only[zC.S0,av];refine K.dr λV e=>⟨s,e.ld 0 0,?_⟩;refine⟨d.x.op,d.ks,d.x.n,d.x.m,d.x.u,d.x.tx,d.x.st.k,d.x.st.n,d.x.st.x,e.ld 4 0,e.ld 4 1,e.ld 4 2,e.ld 4 3,e.ld 4 4,e.ld 4 5,e.ld 4 6,e.ld 4 7,e.ld 4 8,e.nw λw3 _ j=>⟨j.ld 0 0,?_⟩⟩;have ah:bx 9 w3 ⟨some (ab V.heap.size),1,1⟩ ([d].flatMap Nd.c):=by rw[show[d].flatMap Nd.c=d.c by simp];exact uL (T:=cA) (j.ob 5) rfl
  refine j.ap 1 mX (src:=⟨some (ab V.heap.size),1,1⟩) rfl ah.2.2 ah.1 qK (by simp only;omega) (λs' Z B am _=>B.st 0 0 rfl (λw5 q=>⟨s',q.ld 0 0,?_⟩));refine⟨?_,hD.close (s:=s') (mp:=mp) (mv:=G) (hO:=E) (c1:=M) (hg:=y) (c2:=O) (D:=[cY d]) ?_ H q2⟩
  .rw [am,aQ _ (by simp only;omega)];simp only;rw[ag];congr 2;omega
  .have:=q.take 4;unfold k6;rw[show(l++[d]).flatMap Nd.c=l.flatMap Nd.c++[d].flatMap Nd.c from dt];exact this
 refine zC.ok _ _ _ _ _ _ _ _ _ _ w _ (aa.nw λI _ K=>K.dr λV e=>⟨some mp,e.ld 0 1,s,e.ld 0 0,e.call (QM (d:=d) (yG (e.ob 4)) (e.getD 0) W) ?_⟩);rintro _ w3 rfl j;obtain⟨Z,C,u1,u2,u3,u4,_⟩:=Rw J5 (j.ob 2) h1 (j4 d.x) (.i ((s.n:Nat):Int)) g1;have B:=j.gv 2 (.ob mp (.map C (L+1))) rfl (u4.mono λao _ A=>by simp[En.ob,A]) u2 (λb Q=>.inl Q);have H:jV C (iP (xs (l++[d])) 0):=by rw[p1,<-ag];exact u3
 refine⟨_,rfl,j.ld 0 0,j.ld 0 1,Z,u1,d.x.op,B.ld 4 0,aL (λF=>?_) (λF=>?_)⟩
 .refine B.dr λw5 q=>⟨some G,q.ld 0 2,d.x.tx,q.ld 4 5,?_⟩;have g2:jI (hY (xs l)) d.x.tx=none:=by rw[Fy,an F];rfl
  obtain⟨w6,y,v1,v2,v3,v4,_⟩:=Rw J6 (q.ob 3) h2 d.x.tx (dO d.x.st) g2;have H6:=q.gv 3 (.ob G (.map y (N+1))) rfl (v4.mono λao _ A=>by simp[En.ob,A]) v2 (λb Q=>.inl Q);have a:=yG (d:=d) (q.ob 4);refine⟨d.x.st.k,d.x.st.n,d.x.st.x,a.s0,a.s1,a.s2,w6,v1,ac C (L+1) y (N+1) w.heap.size w6 H ?_ H6⟩;rw[p2,aq F];exact v3
 .refine ac C (L+1) aj N w.heap.size Z H ?_ B;rw[p2,af F,eP];exact h2
def hD.st{w w':J}{e:Nat}{l:List Nd}{own:List Nat}(h:hD w e l own)(k:∀b∈own,b<w.heap.size->w'.heap[b]? =w.heap[b]?):hD w' e l own:=by obtain⟨s,mp,H,z,x,A,y,q,G,D,B,C⟩:=h;exact⟨s,mp,H,z,x,A,y,q,G,λd j=>d.st w w' (λb E F=>k b (by rw[q];exact bS.2 ⟨d,j,E⟩) F) (D d j),B,C⟩
def hD.lt{w:J}{j:Nat}{l:List Nd}{own:List Nat}(h:hD w j l own):∀b∈own,b<w.heap.size:=by obtain⟨s,mp,F,A,y,B,z,x,E,k,C,D⟩:=h;intro b d;rw[x]at d;obtain⟨e,q,d⟩:=bS.1 d;exact e.lt w (k e q) b d
def _root_.Go.W.En.bu(j:Nat)(own:List Nat)(l:List Nd):En:=⟨jC own,λh=>hD h j l own,λh q k e=>e.st λb d=>k b (aM.2 d),λh e b d=>e.lt b (aM.1 d),n9 _⟩
def Tx(w:J)(d:Nat)(own:List Nat)(l:List Nd)(b:Nat):¬(En.bu d own l).P ({w with heap:=Array.replicate (b+1) (.map #[] 0)}):=by rintro⟨s,mp,C,q,j,x,k,B,A,h,y,z⟩;have e:=h _ (aD (i:=0) rfl);exact xC w d _ tV b e
section
variable {M:Nat->Prop} {w0 w:J} {L D:List En} {U:List Nat}
def _root_.Go.W.LH.Tw(H:LH M w0 w L D)(i:Nat){d:Nat}{own:List Nat}{l j:List Nd}{w':J}(V:L[i]? =some (.bu d own l))(h:rs w d own j w'):∃e,LH M w0 w' (L.set i (.bu d e j)) D/\hD w' d j e:=by obtain⟨e,r,f,o⟩:=h;exact⟨e,H.gv i (.bu d e j) V (f.mono λx _ q=>aM.2 q) r (λb k=>(o b (aM.1 k)).imp aM.2 id),r⟩
def _root_.Go.W.LH.Gs(H:LH M w0 w L D)(i:Nat){e:Nat}{own:List Nat}{l k:List Nd}{P:Program}{g:FuncId}{args:Array aa}{A:ch->Prop}{K:aH}(V:L[i]? =some (.bu e own l))(z:ai P g args w λr d=>A r/\rs w e own k d)(B:∀r d h,A r->LH M w0 d (L.set i (.bu e h k)) D->K r d)(bp:∀b∈U,En.g b∈L:=by simp):ee U P g args w K:=
 ⟨(·∈own),λb y C=>nY H V (Tx w e own l) (bp b y) (aM.2 C),z.mono λr d ⟨x,j⟩=>by obtain⟨_,_,f,_⟩:=id j;obtain⟨h,q,_⟩:=H.Tw i V j;exact⟨f,B r d h x q⟩⟩
end
def hD.nil(w:J):rs w (w.heap.size+2) [] [] ((((w.alloc (.map #[] 0)).alloc (.map #[] 0)).alloc (.cells #[.slice none 0 0,.map (some w.heap.size),.map (some (w.heap.size+1))] tV))):=by
 have k:(w.alloc (.map #[] 0)).heap.size=w.heap.size+1:=size_alloc _ _;have y:((w.alloc (.map #[] 0)).alloc (.map #[] 0)).heap.size=w.heap.size+2:=by rw[size_alloc,k]
 have q:(w.alloc (.map #[] 0)).heap[w.heap.size]? =some (.map #[] 0):=j2 w _;have x:=(Fr.alloc F0 (w.alloc (.map #[] 0)) (.map #[] 0)).at q id;have j:=j2 (w.alloc (.map #[] 0)) (.map #[] 0);rw[k]at j;have d:=Fr.alloc F0 ((w.alloc (.map #[] 0)).alloc (.map #[] 0)) (.cells #[.slice none 0 0,.map (some w.heap.size),.map (some (w.heap.size+1))] tV);have c:=j2 ((w.alloc (.map #[] 0)).alloc (.map #[] 0)) (.cells #[.slice none 0 0,.map (some w.heap.size),.map (some (w.heap.size+1))] tV);rw[y]at c;have f:ag w (((w.alloc (.map #[] 0)).alloc (.map #[] 0)).alloc (.cells #[.slice none 0 0,.map (some w.heap.size),.map (some (w.heap.size+1))] tV)):=((Fr.alloc F0 w _).dA (Fr.alloc F0 _ _)).dA d;refine⟨_,⟨⟨none,0,0⟩,w.heap.size,w.heap.size+1,#[],0,#[],0,rfl,?_,λA h=>?_,rfl,rfl⟩,f.oc,λz e=>?_⟩
 .show ([w.heap.size+2]++([]++([w.heap.size]++([w.heap.size+1]++[])))).Nodup;simp
 .simp only[au,aO,aR]at h;rcases h with rfl|rfl|rfl|rfl
  .exact c
  .exact aK.nil _ _ _
  .exact d.at x id
  .exact d.at j id
 .have e:z∈[w.heap.size+2]++([]++([w.heap.size]++([w.heap.size+1]++[]))):=e;simp at e;right;omega
def Fz{g:List Nx}(h:Vg g):∀i e,g[i]? =some e->e∉g.take i:=by
 induction h with
 |nil=>intro i e d;simp at d
 |@snoc g n w x k q=>
  intro i e d;rcases Nat.lt_or_ge i g.length with j|j
  .rw [List.getElem?_append_left j]at d;rw[List.take_append_of_le_length (by omega)];exact q i e d
  .rw [List.getElem?_append_right j]at d;have:i - g.length=0:=by have:=(cz.1 d).1;simp at this;omega
   rw[this]at d;simp at d;subst d;rw[show i=g.length by omega,List.take_left];exact k
def RB{g:List Nx}(h:Vg g){i:Nat}{d:Nx}(e:g[i]? =some d)(x:d.op=0):jO (g.take i) d.tx=none:=by
 cases A:jO (g.take i) d.tx with
 |none=>rfl
 |some s=>
  obtain⟨k,j,q,w,_⟩:=Fu A;obtain⟨B,y⟩:=List.mem_iff_getElem?.1 (nl j);have z:=h.vars k (nl j) q d (aD e) x w;have:=var_eq (h.EJ B k y) (h.EJ i d e) q x w z;exact absurd (this▸j) (Fz h i d e)
def Th{w:J}{s:Sl}{l:List Nd}(h:GP w s l)(O:Vg (xs l))(N:∀e∈xs l,ff e)(hl:l.length<=100000):
  ai Y MR #[.agg #[s.v]] w λr D=>(∃j own,r=ae (.pointer (some (ab j)))/\hD D j l own/\∀A∈own,w.heap.size<=A)/\ag w D:=by
 have hn:=ih h;have P:LH F0 w w [] [.gr s l]:=bI _ (by intro L C;simp only[au,aO,aR]at C;subst C;exact bR.2 h)
 have loop:∀(m i z j:Nat) (own:List Nat) (q:J),i+m=l.length->LH F0 w q [.g z,.bu j own (l.take i)] [.gr s l]->
   wL.a2 (ab j) s ((s.n:Nat):Int) (i:Int) q λr D=>(∃j own,r=ae (.pointer (some (ab j)))/\hD D j l own/\∀A∈own,w.heap.size<=A)/\ag w D:=by
  intro m;induction m with
  |zero=>
   intro i z j own q V y;refine wL.bw _ _ _ _ _ _ (aZ (aW (by omega)) ⟨⟨j,own,rfl,?_,λA K=>(y.new _ (aD (i:=1) rfl) A (aM.2 K)).resolve_right id⟩,y.fr⟩);have:=y.get 1;rw[List.take_of_length_le (by omega)]at this;exact this
  |succ m Z=>
   intro i z j own q V y;have B:l[i]? =some (l[i]'(by omega)):=a4 (by omega);generalize l[i]'(by omega)=e at B;refine wL.bw _ _ _ _ _ _ (a1 (aS (by omega)) (hQ (bR.1 (y.getD 0)) rfl B λp hp c=>⟨e.x.op,e.ks,e.x.n,e.x.m,e.x.u,e.x.tx,e.x.st.k,e.x.st.n,e.x.st.x,c.c0,c.c1,c.c2,c.c3,c.c4,c.c5,c.c6,c.c7,c.c8,y.aG λb5 w2 F=>F.ah λw3 E=>?_⟩));have I:=aD B;have M:=wY B;have G:xs (l.take i)=(xs l).take i:=by simp[xs,List.map_take]
   have T:l.take (i+1)=l.take i++[e]:=by rw[eA,B];rfl
   refine E.Gs 1 rfl (Gn (l:=l.take i) (d:=e) (E.get 1) ((bR.1 (E.getD 0)).2 e I) (λb H W=>E.dj (.gr s l) (by simp) b (m6.2 (.inr ⟨e,I,H⟩)) (.bu j own (l.take i)) (by simp) (aM.2 W)) (N _ (bZ.2 ⟨e,I,rfl⟩)) (λL C=>(N L (by rw[G]at C;exact nl C)).u.1) (by rw[gJ];omega) (by rw[G];exact Fz O i e.x M) (λU=>by rw[G];exact RB O M U)) ?_;rintro _ w4 aa rfl Q;refine⟨_,rfl,?_⟩;rw[bb _ (by omega)];refine Z (i+1) z j aa w4 (by omega) ?_;rw[T];exact Q.take 2
 refine wL.aB s w _ (P.aG λz q y=>?_);obtain⟨own,r,f,o⟩:=hD.nil q;have F:=(y.fresh (f.mono λA _ K=>by cases K)).own (.bu (q.heap.size+2) own []) r (λb H=>(o b (aM.1 H)).resolve_left (by simp));have S:((q.alloc (.map #[] 0)).alloc (.map #[] 0)).heap.size=q.heap.size+2:=by rw[size_alloc,size_alloc]
 have:=loop l.length 0 z (q.heap.size+2) own _ (by omega) F;have s1:(q.alloc (.map #[] 0)).heap.size=q.heap.size+1:=size_alloc _ _;rw[<-S,<-s1]at this;exact this
def oD:List Nx->List Nx->Int
 |_,[]=>0
 |g,n::r=>if(cv g n).2≠0 then(cv g n).2 else if(cv g n).1≠n.st then 9 else if n∈g then 8 else oD (g++[n]) r
def RC(g:List Nx)(n:Nx)(r:List Nx):oD g (n::r)=if(cv g n).2≠0 then(cv g n).2 else if(cv g n).1≠n.st then 9 else if n∈g then 8 else oD (g++[n]) r:=rfl
def gw(g:List Nx):Int:=if 4096<g.length then 4 else oD [] g
def VA{g:List Nx}{n:Nx}:(nW g n).2=ak (n∈g):=by
 unfold nW;cases d:hn n g 0 with
 |none=>exact(aW (Ck d)).symm
 |some i=>exact(aS (aD (ya d).2)).symm
def E2{w:J}{s:Sl}{l:List Nd}(h:GP w s l)(hk:b'.P w)(D:l.length<=4096->∀e∈l,oO e.x/\ff e.x):
  ai Y MF #[.agg #[s.v]] w λr U=>r=ae (.i (gw (xs l)))/\ag w U:=by
 have hn:=ih h;have am:(xs l).length=l.length:=by simp[xs]
 have aa:LH F0 w w [] [.gr s l,b']:=bI _ (by
  intro I E;simp only[au,aO,aR]at E;rcases E with rfl|rfl
  .exact bR.2 h
  .exact hk)
 refine wJ.aB s w _ (aa.aG λC F y=>aF (λac=>⟨by unfold gw;rw[aq (by omega)],y.fr⟩) (λac=>?_));have D:=D (by omega);have aj:gw (xs l)=oD [] (xs l):=by unfold gw;rw[af (by omega)]
 rw[aj];have loop:∀(m i C j:Nat) (own:List Nat) (F:J),i+m=l.length->Vg ((xs l).take i)->oD ((xs l).take i) ((xs l).drop i)=oD [] (xs l)->LH F0 w F [.g C,.bu j own (l.take i)] [.gr s l,b']->
   wJ.a2 (some (ab j)) s ((s.n:Nat):Int) (i:Int) F λr U=>r=ae (.i (oD [] (xs l)))/\ag w U:=by
  intro m;induction m with
  |zero=>
   intro i C j own F hi T q y;refine wJ.bw _ _ _ _ _ _ (aZ (aW (by omega)) ⟨?_,y.fr⟩);rw[<-q,cU (by omega)];rfl
  |succ m ak=>
   intro i C j own F hi T q y;have L:l[i]? =some (l[i]'(by omega)):=a4 (by omega);have hx:(xs l).drop i=(l[i]'(by omega)).x::(xs l).drop (i+1):=by rw[dz (by omega:i<(xs l).length)];simp[xs]
   generalize l[i]'(by omega)=e at L hx;have B:=aD L;have V:=wY L;have K:xs (l.take i)=(xs l).take i:=by simp[xs,List.map_take]
   have es:l.take (i+1)=l.take i++[e]:=by rw[eA,L];rfl
   have ex:(xs l).take (i+1)=(xs l).take i++[e.x]:=by rw[eA,V];rfl
   rw[hx,RC]at q;have Z:∀I∈xs (l.take i),0<=I.u:=λI E=>by obtain⟨a,ha,rfl⟩:=bZ.1 E;exact(D a (nl ha)).2.u.1
   refine wJ.bw _ _ _ _ _ _ (a1 (aS (by omega)) (hQ (bR.1 (y.getD 0)) rfl L λp hp c=>⟨e.x.op,e.ks,e.x.n,e.x.m,e.x.u,e.x.tx,e.x.st.k,e.x.st.n,e.x.st.x,c.c0,c.c1,c.c2,c.c3,c.c4,c.c5,c.c6,c.c7,c.c8,y.aG λb5 w2 O=>O.ah λw3 G=>?_⟩));refine G.aw (Ti (l:=l.take i) (d:=e) (G.get 1) (λI E=>(bR.1 (G.getD 0)).2 I (nl E)) ((bR.1 (G.getD 0)).2 e B) (G.getD 1) (D e B).1 (by rw[gJ];omega) (by rw[K];exact T.val)) ?_;rintro _ w4 rfl H4;rw[K];refine⟨_,_,_,_,rfl,H4.aG λb6 w5 Q=>di (λA=>Q.ah λw6 z=>⟨by rw[<-q,aq A],z.fr⟩) (λA=>zl (a:=(cv ((xs l).take i) e.x).1) (b:=e.x.st) (λN=>Q.ah λw6 z=>⟨by rw[<-q,af (λh=>h A),aq N],z.fr⟩) (λN=>Q.ah λw6 z=>?_))⟩;rw[af (λh=>h A),af (λh=>h N)]at q;refine z.aw (Tf (l:=l.take i) (d:=e) (z.get 1) ((bR.1 (z.getD 0)).2 e B) (D e B).2 Z) ?_;rintro _ w7 rfl H;refine⟨_,_,rfl,?_⟩;rw[VA,K];refine aF (λM=>⟨by rw[<-q,aq M],H.fr⟩) (λM=>?_);rw[af M]at q;have W:Vg ((xs l).take (i+1)):=by rw[ex];exact .snoc T (by rw[<-N,<-A]) M
   have gt:((xs l).take (i+1))[i]? =some e.x:=by rw[List.getElem?_take,aq (by omega)];exact V
   have ad:((xs l).take (i+1)).take i=(xs l).take i:=by rw[List.take_take];congr 1;omega
   refine H.Gs 1 rfl (Gn (l:=l.take i) (d:=e) (H.get 1) ((bR.1 (H.getD 0)).2 e B) (λb S hm=>H.dj (.gr s l) (by simp) b (m6.2 (.inr ⟨e,B,S⟩)) (.bu j own (l.take i)) (by simp) (aM.2 hm)) (D e B).2 Z (by rw[gJ];omega) (by rw[K];exact M) (λA=>by rw[K,<-ad];exact RB W gt A)) ?_;rintro _ w8 al rfl H8;refine⟨_,rfl,?_⟩;rw[bb _ (by omega)];refine ak (i+1) C j al w8 (by omega) W (by rw[ex];exact q) ?_;rw[es];exact H8.take 2
 refine y.iZ (Th (s:=⟨none,0,0⟩) (l:=[]) ⟨bx.nil 9 F,by simp⟩ .nil (by simp[xs]) (by simp)) ?_;rintro _ w2 ⟨j,own,rfl,r,o⟩ _ F2;have O:=F2.own (.bu j own []) r (λb S=>o b (aM.1 S));exact⟨_,rfl,loop l.length 0 C j own w2 (by omega) .nil rfl O⟩
def _root_.Go.W.En.wr(k:Nat)(U:List UInt8)(own:List Nat):En:=⟨jC own,λe=>fg e k U own,λe y x j=>(by obtain⟨s,rfl,q,h⟩:=j;have w:∀b∈k::ax s,y.heap[b]? =e.heap[b]?:=λb d=>x b (aM.2 d) (fg.lt ⟨s,rfl,q,h⟩ b d);exact⟨s,rfl,(w k (by simp)).trans q,h.1,h.2.cb λb d _=>w b (by simp[d])⟩),λe j b d=>j.lt b (aM.1 d),n9 _⟩
def abu(e:Nat)(U:List UInt8)(own:List Nat)(w:J)(b:Nat):¬(En.wr e U own).P ({w with heap:=Array.replicate (b+1) (.map #[] 0)}):=by rintro⟨s,_,d,_⟩;simp[Array.getElem?_replicate]at d
section
variable {M:Nat->Prop} {w0 w:J} {L D:List En} {U:List Nat}
def _root_.Go.W.LH.wm(H:LH M w0 w L D)(i:Nat){d:Nat}{l k:List UInt8}{own:List Nat}{g:FuncId}{args:Array aa}{K:aH}(V:L[i]? =some (.wr d l own))(q:fg w d l own->ai Y g args w (l7 w d own k))(x:∀h e,LH M w0 h (L.set i (.wr d k e)) D->K (ae (.tuple #[])) h)(bp:∀b∈U,En.g b∈L:=by simp):ee U Y g args w K:=by
 refine⟨(·∈own),λb j y=>?_,(q (H.get i V)).mono λr h ⟨z,e,B,f,o⟩=>⟨f,?_⟩⟩
 .exact nY H V (abu d l own w) (bp b j) (aM.2 y)
 .subst z;refine x h e (H.gv i (.wr d k e) V (f.mono λC _ A=>aM.2 A) B λb j=>?_);exact(o b (aM.1 j)).imp aM.2 id
def _root_.Go.W.LH.Dp(H:LH M w0 w L D){K:J->Prop}(h:∀d,LH M w0 d (L++[.wr w.heap.size [] [w.heap.size]]) D->K d):c9 w (.cells #[.slice none 0 0] ra) K:=
 h _ (H.push _ (Fr.alloc _ _ _) (fg.new w) λb e=>by have:=aM.1 e;simp at this;omega)
end
def eJ(g:List Nx):List UInt8:=bt g.length++g.flatMap dq
def yJ{z:Nat}:∀{g:List Nx},(∀d∈g,(dq d).length<=z)->(g.flatMap dq).length<=z *g.length
 |[],_=>by simp
 |d::g,e=>by have k:=yJ (g:=g) λh j=>e h (by simp[j]);have q:=e d (by simp);simp only[cV,bc,dE];rw[Nat.mul_add,Nat.mul_one];omega
def FQ(g:List Nx)(w:J)(r:ch)(w':J):Prop:=∃t:Sl,r=ae (.tuple #[t.v,.i (gw g)])/\(gw g=0->eU w' t (eJ g)/\∀b∈ax t,w.heap.size<=b)
def aaL{w:J}{s:Sl}{l:List Nd}(h:GP w s l)(hk:b'.P w)(z:l.length<=4096->∀d∈l,oO d.x/\ff d.x)(hz:∀d∈xs l,(dq d).length<=1000000):
  ai Y ME #[.agg #[s.v]] w λr k=>FQ (xs l) w r k/\ag w k:=by
 have N:=ih h;have ae:(xs l).length=l.length:=by simp[xs]
 have U:LH F0 w w [] [.gr s l,b']:=bI _ (by
  intro I A;simp only[au,aO,aR]at A;rcases A with rfl|rfl
  .exact bR.2 h
  .exact hk)
 refine wI.aB s w _ (U.aG λE w1 C=>C.aw (E2 (bR.1 (C.getD 0)) (C.getD 1) z) ?_);rintro _ B rfl H;refine⟨_,rfl,di (λj=>⟨⟨⟨none,0,0⟩,rfl,λh=>absurd h j⟩,H.fr⟩) (λj=>H.Dp λw3 V=>?_)⟩;have ac:l.length<=4096:=by
  rcases Nat.lt_or_ge 4096 l.length with h|h
  .unfold gw at j;rw[aq (by omega)]at j;cases j
  .exact h
 have z:=z ac;have Q:∀i,(((xs l).take i).flatMap dq).length<=4096000000:=λi=>by
  have:=yJ (g:=(xs l).take i) λd hd=>hz d (nl hd);rw[gJ]at this;have h2:min i (xs l).length<=4096:=by omega
  omega
 have M:a7 ((s.n:Nat):Int):=⟨by omega,by omega⟩;have A:=cR _ M;rw[N]at A;refine V.wm 1 rfl (λr=>k2 r _ M (by simp)) λS own D=>?_;have D:LH F0 w S [.g E,.wr B.heap.size (bt ((l.length:Nat):Int)++((xs l).take 0).flatMap dq) own] [.gr s l,b']:=by rw[List.take_zero,List.flatMap_nil,eP,<-N];exact D
 have loop:∀(m i:Nat) (own:List Nat) (q:J),i+m=l.length->LH F0 w q [.g E,.wr B.heap.size (bt ((l.length:Nat):Int)++((xs l).take i).flatMap dq) own] [.gr s l,b']->
   wI.a2 E s (ab B.heap.size) ((s.n:Nat):Int) (i:Int) q λr k=>FQ (xs l) w r k/\ag w k:=by
  intro m;induction m with
  |zero=>
   intro i own q aa e;refine wI.bw _ _ _ _ _ _ _ (aZ (aW (by omega)) ?_);have ak:fg q B.heap.size (bt ((l.length:Nat):Int)++((xs l).take i).flatMap dq) own:=e.get 1;refine gN ((zW ak (by have:=Q i;simp only[bc];omega)).mono ?_);rintro _ T ⟨t,rfl,O,K,hf⟩;rw[List.take_of_length_le (by omega)]at O;refine⟨K,t,rfl,⟨t,by rw[j],λ_=>⟨?_,λb F=>a6 e.fr.size (hf b F)⟩⟩,e.fr.dA K⟩;unfold eJ;rw[ae];exact O
  |succ m ah=>
   intro i own q aa e;have y:l[i]? =some (l[i]'(by omega)):=a4 (by omega);generalize l[i]'(by omega)=d at y;have G:=aD y;have Z:=wY y;have ex:(xs l).take (i+1)=(xs l).take i++[d.x]:=by rw[eA,Z];rfl
   refine wI.bw _ _ _ _ _ _ _ (a1 (aS (by omega)) (Wg (bR.1 (e.getD 0)) y rfl λp hp c=>?_));have L:∀b,b∈(En.gr s l).fp->b∉own:=λb F hm=>e.dj (.gr s l) (by simp) b F _ (aD (i:=1) rfl) (aM.2 hm);have ad:(p.add (aV (i:Int) *9)).block∈(En.gr s l).fp:=by refine m6.2 (.inl ?_);show _∈(if l.flatMap Nd.c=[]then[]else ax s);rw[af (λI=>by have:=congrArg List.length I;rw[Nd.eW]at this;simp at this;omega)];simp[ax,hp,iX]
   refine e.wm 1 rfl (λr=>QN r c ((bR.1 (e.getD 0)).2 d G) (L _ ad) (λal hx=>L al (m6.2 (.inr ⟨d,G,hx⟩))) (z d G).2 (by have:=Q i;simp only[bc];omega)) λT aj W=>⟨rfl,?_⟩;rw[bb _ (by omega)];refine ah (i+1) aj T (by omega) ?_;rw[ex,dt,<-cp,cV,List.flatMap_nil,eP];exact W
 exact⟨rfl,loop l.length 0 own S (by omega) D⟩
def X5{n:Nx}(W:ff n)(A:n.kids.length<=100)(B:n.tx.size<=1000):(dq n).length<=1000000:=by have e:=cR _ W.op;have h:=kL _ W.ks;have j:=cR _ W.n;have k:=cR _ W.m;have q:=ei n.u.toNat (by have:=W.u;omega);have w:=cR _ W.sk;have x:=cR _ W.sn;have y:=cR _ W.sx;have z:=ei n.kids.length (by omega);have d:=ei (bl n.tx).length (by rw[dH];omega);have C:=dH n.tx;unfold dq cH df;simp only[bc];omega
def OK:∀(n:Nat) (st:RS),(eQ n st).2.U.length<=st.U.length
 |0,st=>bm _
 |n+1,st=>by
  have h:(a3 st).2.U.length<=st.U.length:=za (st:=st) (bm _);simp only[eQ];by_cases e:(a3 st).2.err≠0
  .simp only[aq e];exact h
  .simp only[af e];have j:=OK n (a3 st).2;by_cases d:(eQ n (a3 st).2).2.err≠0
   .simp only[aq d];omega
   .simp only[af d];omega
def tk(st:RS):(bX st).1.length<=st.U.length/\(bX st).2.U.length<=st.U.length:=by
 have d:=OG st;unfold bX;generalize hV st=q at d ⊢;obtain⟨n,s⟩:=q;dsimp only at d ⊢;split
 .exact ⟨dv _,d.2⟩
 .simp only[gJ,List.length_drop];omega
def tj(st:RS):(cI st).1.length<=st.U.length/\(∀h∈(cI st).1,a7 h)/\(cI st).2.U.length<=st.U.length:=by
 have d:=OG st;unfold cI;generalize hV st=q at d ⊢;obtain⟨n,s⟩:=q;dsimp only at d ⊢;split
 .exact ⟨dv _,by simp,d.2⟩
 .have e:=OJ n s;have j:=OK n s;exact⟨by omega,e.2,by omega⟩
def kj(st:RS):a7 (a3 st).1/\(a3 st).2.U.length<=st.U.length:=⟨Rv _ (tm st),za (st:=st) (bm _)⟩
def eR(st:RS):Nx×RS:=
 let o:=a3 st
 let d:=cI o.2
 let n:=a3 d.2
 let m:=a3 n.2
 let u:=eS m.2
 let t:=bX u.2
 let a:=a3 t.2
 let b:=a3 a.2
 let c:=a3 b.2
 (⟨o.1,d.1,n.1,m.1,(u.1:Int),ba t.1,⟨a.1,b.1,c.1⟩⟩,c.2)
def fT:Nat->RS->List Nx×RS
 |0,st=>([],st)
 |n+1,st=>((eR st).1::(fT n (eR st).2).1,(fT n (eR st).2).2)
def fB(U:List UInt8):List Nx×Int:=
 if(a3 ⟨U,0⟩).1<0\/4096<(a3 ⟨U,0⟩).1 then([],2)else
 if hU (fT (a3 ⟨U,0⟩).1.toNat (a3 ⟨U,0⟩).2).2≠0 then([],2)else
 if gw (fT (a3 ⟨U,0⟩).1.toNat (a3 ⟨U,0⟩).2).1≠0 then([],2)else((fT (a3 ⟨U,0⟩).1.toNat (a3 ⟨U,0⟩).2).1,0)
def Zg{d:Nx}(W:ff d)(r:List UInt8):eR ⟨dq d++r,0⟩=(d,⟨r,0⟩):=by
 obtain⟨op,e,n,m,u,h,⟨a,b,c⟩⟩:=d;have j:=W.u;have w:=W.tx;have q:=W.kl;dsimp only at j w q;have k:dq ⟨op,e,n,m,u,h,⟨a,b,c⟩⟩++r=bt op++(cH e++(bt n++(bt m++(dT u.toNat++(df (bl h)++(bt a++(bt b++(bt c++r)))))))):=by unfold dq;simp only[cp]
 unfold eR;rw[k];dsimp only;rw[kh _ W.op];dsimp only;rw[ti e (by omega) W.ks];dsimp only;rw[kh _ W.n];dsimp only;rw[kh _ W.m];dsimp only;rw[Ea _ (by omega)];dsimp only;rw[y' (bl h) (by rw[dH];omega)];dsimp only;rw[kh _ W.sk];dsimp only;rw[kh _ W.sn];dsimp only;rw[kh _ W.sx,l8,Int.toNat_of_nonneg j.1]
def ON:∀{g:List Nx} (_:∀d∈g,ff d) (r:List UInt8),fT g.length ⟨g.flatMap dq++r,0⟩=(g,⟨r,0⟩)
 |[],_,r=>rfl
 |d::g,W,r=>by rw[cV,cp,dE];unfold fT;rw[Zg (W d (by simp))];dsimp only;rw[ON (λe h=>W e (by simp[h]))]
def U8{g:List Nx}(W:∀e∈g,ff e)(k:g.length<=4096)(j:gw g=0):fB (eJ g)=(g,0):=by have h:a3 ⟨eJ g,0⟩=((g.length:Int),⟨g.flatMap dq,0⟩):=kh _ ⟨by omega,by omega⟩ _;have d:=ON W [];rw[eP]at d;unfold fB;rw[h];dsimp only;rw[bH,d,af (by omega)];dsimp only;rw[af (by unfold hU;simp),af (by simpa using j)]
def Zf{st:RS}(h:(eR st).2.err=0):st.err=0/\st.U=dq (eR st).1++(eR st).2.U:=by obtain⟨I,z⟩:=kU h;obtain⟨H,y⟩:=kU I;obtain⟨G,x⟩:=kU H;obtain⟨F,w⟩:=y9 G;obtain⟨E,q⟩:=D' F;obtain⟨D,k⟩:=kU E;obtain⟨C,j⟩:=kU D;obtain⟨B,e⟩:=th C;obtain⟨A,d⟩:=kU B;refine⟨A,?_⟩;rw[d,e,j,k,q,w,x,y,z];unfold dq eR;simp only[cp,bH,mS]
def OM:∀(n:Nat) {st:RS},(fT n st).2.err=0->st.err=0/\st.U=(fT n st).1.flatMap dq++(fT n st).2.U/\(fT n st).1.length=n
 |0,st,d=>⟨d,rfl,rfl⟩
 |n+1,st,d=>by obtain⟨e,h,q⟩:=OM n (st:=(eR st).2) d;obtain⟨j,k⟩:=Zf e;refine⟨j,?_,by show(fT n (eR st).2).1.length+1=n+1;omega⟩;show st.U=((eR st).1::(fT n (eR st).2).1).flatMap dq++(fT n (eR st).2).2.U;rw[cV,cp,<-h];exact k
def U7{U:List UInt8}(h:(fB U).2=0):eJ (fB U).1=U/\gw (fB U).1=0:=by
 unfold fB at h ⊢;split at h
 .cases h
 .rename_i z;rw[af z];split at h
  .cases h
  .rename_i d;rw[af d];split at h
   .cases h
   .rename_i q;rw[af q];have d:hU (fT (a3 ⟨U,0⟩).1.toNat (a3 ⟨U,0⟩).2).2=0:=by simpa using d
    unfold hU at d;have w:(fT (a3 ⟨U,0⟩).1.toNat (a3 ⟨U,0⟩).2).2.err=0:=by
     split at d
     .rename_i e;exact absurd d e
     .rename_i e;simpa using e
    rw[af (by simpa using w)]at d;have A:(fT (a3 ⟨U,0⟩).1.toNat (a3 ⟨U,0⟩).2).2.U=[]:=by
     split at d
     .cases d
     .rename_i e;exact List.eq_nil_of_length_eq_zero (by omega)
    obtain⟨x,j,y⟩:=OM _ w;obtain⟨B,k⟩:=kU (st:=⟨U,0⟩) x;refine⟨?_,by simpa using q⟩;rw[A,eP]at j;unfold eJ;dsimp only at k ⊢;rw[y,<-j,Int.toNat_of_nonneg (by omega)];exact k.symm
def OL(st:RS)(w:st.U.length<=1000000):ff (eR st).1/\(eR st).2.U.length<=st.U.length/\(eR st).1.kids.length<=st.U.length/\(eR st).1.tx.size<=st.U.length:=by have d:=kj st;have e:=tj (a3 st).2;have s3:=kj (cI (a3 st).2).2;have h:=kj (a3 (cI (a3 st).2).2).2;have x:=za (st:=(a3 (a3 (cI (a3 st).2).2).2).2) (bm _);have z:=tm (a3 (a3 (cI (a3 st).2).2).2).2;have y:=tk (eS (a3 (a3 (cI (a3 st).2).2).2).2).2;have j:=kj (bX (eS (a3 (a3 (cI (a3 st).2).2).2).2).2).2;have k:=kj (a3 (bX (eS (a3 (a3 (cI (a3 st).2).2).2).2).2).2).2;have q:=kj (a3 (a3 (bX (eS (a3 (a3 (cI (a3 st).2).2).2).2).2).2).2).2;unfold eR;dsimp only;refine⟨⟨d.1,e.2.1,by dsimp only;omega,s3.1,h.1,⟨by dsimp only;omega,by dsimp only;omega⟩,by dsimp only;rw[cP];omega,j.1,k.1,q.1⟩,by omega,by omega,by rw[cP];omega⟩
def OO:∀(n:Nat) (st:RS),st.U.length<=1000000->∀d∈(fT n st).1,ff d/\d.kids.length<=st.U.length/\d.tx.size<=st.U.length
 |0,st,_,d,e=>by cases e
 |n+1,st,w,d,e=>by
  obtain⟨j,y,k,q⟩:=OL st w;rcases au.1 e with h|e
  .rw [h];exact⟨j,k,q⟩
  .obtain ⟨x,z,A⟩:=OO n (eR st).2 (by omega) d e;exact⟨x,by omega,by omega⟩
def g4(d:Nat):UInt8:=cE (48+d)
def vC(c:UInt8):Bool:=ak (48<=c.toNat)&&ak (c.toNat<=57)
def b0(n:Nat):List UInt8:=if n<10 then[g4 n]else b0 (n / 10)++[g4 (n%10)]
termination_by n
def cq(n:Int):List UInt8:=if n<0 then 45::b0 n.natAbs else b0 n.natAbs
def BF:∀d<10,(g4 d).toNat=48+d:=by decide
def HE:∀d<10,vC (g4 d)=true:=by decide
def nS{n:Nat}(h:n<10):b0 n=[g4 n]:=by rw[b0,aq h]
def sc{n:Nat}(h:¬n<10):b0 n=b0 (n / 10)++[g4 (n%10)]:=by rw[b0,af h]
def BB(n:Nat):∀c∈b0 n,vC c=true:=by
 induction n using Nat.strongRecOn with
 |_ n h=>
  by_cases e:n<10
  .rw [nS e];intro c d;rw[List.mem_singleton.1 d];exact HE n e
  .rw [sc e];intro c d;rcases aY.1 d with d|d
   .exact h (n / 10) (by omega) c d
   .rw [List.mem_singleton.1 d];exact HE _ (Nat.mod_lt _ (by omega))
def tX(a:Nat)(l:List UInt8):Nat:=l.foldl (λa c=>10 *a+(c.toNat - 48)) a
def abf(a:Nat)(l:List UInt8)(c:UInt8):tX a (l++[c])=10 *tX a l+(c.toNat - 48):=by unfold tX;rw[List.foldl_append];rfl
def Fq(n:Nat):tX 0 (b0 n)=n:=by
 induction n using Nat.strongRecOn with
 |_ n e=>
  by_cases d:n<10
  .rw [nS d];show 10 *0+((g4 n).toNat - 48)=n;rw[BF n d];omega
  .rw [sc d,abf,e (n / 10) (by omega),BF _ (Nat.mod_lt _ (by omega))];omega
def BC(n:Nat):b0 n≠[]:=by
 by_cases d:n<10
 .rw [nS d];simp
 .rw [sc d];simp
def xK{n k:Nat}(w:1<=k)(h:n<10^k):(b0 n).length<=k:=by
 induction k generalizing n with
 |zero=>omega
 |succ k q=>
  by_cases e:n<10
  .rw [nS e];simp
  .have j:1<=k:=by
    rcases Nat.eq_zero_or_pos k with d|d
    .subst d;rw[Nat.zero_add,Nat.pow_one]at h;omega
    .exact d
   have:n / 10<10^k:=by rw[Nat.div_lt_iff_lt_mul (by omega),<-Nat.pow_succ];exact h
   rw[sc e,bc];have:=q j this;simp only[dE,gS];omega
def U4(n:Nat):b0 n=(List.range (b0 n).length).map λd=>g4 (n / 10^((b0 n).length - 1 - d)%10):=by
 induction n using Nat.strongRecOn with
 |_ n k=>
  by_cases e:n<10
  .rw [nS e];show _=[g4 (n / 10^0%10)];rw[Nat.pow_zero,Nat.div_one,Nat.mod_eq_of_lt e]
  .have i:=k (n / 10) (by omega);rw[sc e,bc,dE,gS,Nat.zero_add,List.range_succ,List.map_append];have q:1<=(b0 (n / 10)).length:=by
    cases j:b0 (n / 10)with
    |nil=>exact absurd j (BC _)
    |cons c l=>simp
   congr 1
   .conv=>lhs;rw[i]
    refine List.map_congr_left λd h=>?_;have h:=List.mem_range.1 h;rw[Nat.div_div_eq_div_mul,<-Nat.pow_succ',show((b0 (n / 10)).length - 1 - d).succ=(b0 (n / 10)).length+1 - 1 - d by omega]
   .simp
def Fp(l:List UInt8)(h:∀c∈l,vC c=true):tX 0 l<10^l.length:=by
 have gen:∀(r l:List UInt8),(∀c∈r,vC c=true)->∀a,a<10^l.length->tX a r<10^(l.length+r.length):=by
  intro r;induction r with
  |nil=>intro l _ a d;exact d
  |cons c r w=>
   intro l j a d;have e:=j c (by simp);unfold vC at e;simp only[bq,decide_eq_true_eq]at e;have:=w (l++[c]) (λk q=>j k (by simp[q])) (10 *a+(c.toNat - 48)) (by rw[bc,dE,gS,Nat.zero_add,Nat.pow_succ];omega);rw[bc,dE,gS,Nat.zero_add,Nat.add_assoc,Nat.add_comm 1]at this;exact this
 simpa using gen l [] h 0 (by simp)
def n0:List Int->List UInt8
 |[]=>[]
 |[n]=>cq n
 |n::m::r=>cq n++32::n0 (m::r)
def iL(l:List Int):List UInt8:=40::n0 l++[41]
def Ct(n m:Int)(r:List Int):n0 (n::m::r)=cq n++32::n0 (m::r):=rfl
structure ct where
 kind:Int
 node:Int
 du:Int
 params:List Int
 nm:ByteArray
 bY:List Int
 hints:List Int
def rj:List (List UInt8):=[[103,97,116,101],[97,115,115,101,114,116],[97,120,105,111,109],[101,113,117,97,108],[108,101,109,109,97],[114,101,115,111,108,118,101]]
def mF(k:Int):List UInt8:=rj.getD k.toNat []
def n7(s:ct):List UInt8:=if bl s.nm=[]then[45]else bl s.nm
def ym(s:ct):List UInt8:=mF s.kind++32::(cq s.node++32::(cq s.du++32::(n7 s++32::(iL s.params++32::(iL s.hints++32::iL s.bY)))))
def NI{a:Option Addr}{p:Addr}{K:Addr->Prop}(d:a=some p)(h:K p):dM a K:=by rw[d];exact h
def mA(l:List UInt8):aa:=.string (ba l)
abbrev vG:ByteArray:=bG #[48,48,48,49,48,50,48,51,48,52,48,53,48,54,48,55,48,56,48,57,49,48,49,49,49,50,49,51,49,52,49,53,49,54,49,55,49,56,49,57,50,48,50,49,50,50,50,51,50,52,50,53,50,54,50,55,50,56,50,57,51,48,51,49,51,50,51,51,51,52,51,53,51,54,51,55,51,56,51,57,52,48,52,49,52,50,52,51,52,52,52,53,52,54,52,55,52,56,52,57,53,48,53,49,53,50,53,51,53,52,53,53,53,54,53,55,53,56,53,57,54,48,54,49,54,50,54,51,54,52,54,53,54,54,54,55,54,56,54,57,55,48,55,49,55,50,55,51,55,52,55,53,55,54,55,55,55,56,55,57,56,48,56,49,56,50,56,51,56,52,56,53,56,54,56,55,56,56,56,57,57,48,57,49,57,50,57,51,57,52,57,53,57,54,57,55,57,56,57,57]
abbrev Xl:ByteArray:=bG #[48,49,50,51,52,53,54,55,56,57,97,98,99,100,101,102,103,104,105,106,107,108,109,110,111,112,113,114,115,116,117,118,119,120,121,122]
namespace Jh
noncomputable abbrev t0:=az Y Tryz.f150 [] []
def ok:=aA t0 Lr [.b]
end Jh
namespace Ji
noncomputable abbrev t0:=az Y Tryz.f148 [] []
def ok:=aA t0 XR [.I]
end Ji
namespace Jj
noncomputable abbrev t0:=az Y Tryz.f130 [] []
def ok:=aA t0 Lt [.U]
end Jj
namespace j3
noncomputable abbrev t0:=az Y Tryz.f131 [(7,ls [0,1,2,3,4,5,6,7,8,9,10,11,12,13,14]),(8,ls [0,1,2,3,4,5,6,7,8,9,10,11,12,13,14]),(9,ls [0,1,2,3,4,5,6,7,8,9,10,11,12,13,14]),(10,ls [0,1,2,3,4,5,6,7,8,9,10,11,12,13,14]),(17,ls [0,1,2,3,4,5,6,7,8,9,10,11,12,13,14]),(18,ls [0,1,2,3,4,5,6,7,8,9,10,11,12,13,14]),(23,ls [0,1,2,3,4,5,6,7,8,9,10,11,12,13,14])] []
noncomputable def L0:=bf t0 [0,2,1] [(0,.v [.s]),(1,.v [.U]),(4,.v [.I])]
noncomputable abbrev t1:=be L0
noncomputable abbrev S5:=av t1 [5,1,1,3,1] [(0,.v [.s]),(1,.v [.U]),(4,.v [.I]),(8,.v [.i .u32]),(9,.v [.i .u32]),(10,.v [.i .u32]),(11,.v [.i .u32])]
noncomputable abbrev t2:=ay S5
noncomputable abbrev S4:=av t2 [4,1,1,3,1] [(0,.v [.s]),(1,.v [.U]),(4,.v [.I]),(6,.v [.i .u32]),(8,.v [.i .u32]),(9,.v [.i .u32])]
noncomputable abbrev t3:=ay S4
noncomputable abbrev S3:=av t3 [3,1,1,3,1] [(0,.v [.s]),(1,.v [.U]),(4,.v [.I]),(6,.v [.i .u32]),(7,.v [.i .u32])]
noncomputable abbrev t4:=ay S3
abbrev P0:Ps:=[(0,.v [.s]),(1,.v [.U]),(4,.v [.I]),(5,.v [.i .u32])]
noncomputable abbrev S2:=av t4 [2,1,1,3,1] P0
noncomputable abbrev t5:=ay S2
noncomputable abbrev S1:=av t5 [1,1,1,3,1] P0
noncomputable abbrev t6:=ay S1
abbrev P1:Ps:=[(0,.v [.s]),(4,.v [.I]),(12,.v [.i .u32])]
noncomputable abbrev F8:=av t6 [5] P1
noncomputable abbrev t7:=ay F8
abbrev P2:Ps:=[(0,.v [.s]),(4,.v [.I]),(12,.v [.i .u32]),(16,.v [.i .u32])]
noncomputable abbrev Sy:=av t7 [2,1,1,1,4] P2
noncomputable abbrev t8:=ay Sy
noncomputable abbrev xh:=av t8 [1,1,1,1,4] P2
noncomputable abbrev t9:=ay xh
noncomputable abbrev S9:=av t9 [4] P1
noncomputable abbrev t10:=ay S9
noncomputable abbrev S8:=av t10 [3,1,1,1,3] [(0,.v [.s]),(4,.v [.I]),(12,.v [.i .u32]),(14,.v [.i .u32]),(15,.v [.i .u32])]
noncomputable abbrev t11:=ay S8
abbrev P3:Ps:=[(0,.v [.s]),(4,.v [.I]),(12,.v [.i .u32]),(13,.v [.i .u32])]
noncomputable abbrev S7:=av t11 [2,1,1,1,3] P3
noncomputable abbrev t12:=ay S7
noncomputable abbrev S6:=av t12 [1,1,1,1,3] P3
noncomputable abbrev t13:=ay S6
def bC:=bg t13 L0
def ok:=aA t13 Ls [.s,.U]
end j3
namespace Jk
noncomputable abbrev t0:=az Y Tryz.f129 [] []
def ok:=aA t0 Lu [.I]
end Jk
namespace vB
noncomputable abbrev t0:=az Y Tryz.f110 [] []
noncomputable abbrev S1:=av t0 [4,1,1,1,1] [(0,.v [.I]),(5,.v [.r]),(6,.v [.U])]
noncomputable abbrev t1:=ay S1
noncomputable abbrev S0:=av t1 [1,1,1,1,1] [(0,.v [.I])]
noncomputable abbrev t2:=ay S0
def ok:=aA t2 Lo [.I,.I]
end vB
namespace Jg
noncomputable abbrev t0:=az Y Tryz.f94 [] []
def ok:=aA t0 Lq [.I]
end Jg
namespace QF
noncomputable abbrev t0:=az Y Tryz.f73 [] []
def ok:=aA t0 MB [.I]
end QF
namespace Jf
noncomputable abbrev t0:=az Y Tryz.f109 [] []
def ok:=aA t0 Ln [.s,.U,.I]
end Jf
namespace Je
noncomputable abbrev t0:=az Y Tryz.f93 [] []
noncomputable abbrev S0:=av t0 [3] [(0,.v [.s]),(2,.v [.I]),(7,.v [.U])]
noncomputable abbrev t1:=ay S0
def ok:=aA t1 Ll [.s,.I,.I]
end Je
namespace QE
noncomputable abbrev t0:=az Y Tryz.f72 [] []
def ok:=aA t0 MA [.s,.I,.I]
end QE
def y0:List Int:=[1,10,100,1000,10000,100000,1000000,10000000,100000000,1000000000,10000000000,100000000000,1000000000000,10000000000000,100000000000000,1000000000000000,10000000000000000,100000000000000000,1000000000000000000,10000000000000000000]
abbrev Fo(n:Int):aa:=.int .u64 n
abbrev mq:En:=.rd ⟨some (ab 2),20,20⟩ (y0.map Fo)
def Yw:∀d<20,y0[d]? =some ((10^d:Nat):Int):=by decide
def kD(x:Nat):Nat:=if x=0 then 0 else Nat.log2 x+1
def W5:∀d<256,Xm[d]? =some (cE (kD d))/\kD d<=8/\d<2^kD d/\(d≠0->2^(kD d - 1)<=d/\1<=kD d):=by decide+kernel
def TK{u:Nat}(P:u≠0)(W:u<2^64)(w:J):ai Y Ly #[.u (u:Int)] w λr h=>(∃L:Nat,r=ae (.i (L:Int))/\1<=L/\L<=64/\2^(L - 1)<=u/\u<2^L)/\h=w:=by
 have fin:∀(x n:Nat),x≠0->x<256->n<=56->2^n *x<=u->u<2^n *(x+1)->j7.S2 (x:Int) (n:Int) w λr h=>(∃L:Nat,r=ae (.i (L:Int))/\1<=L/\L<=64/\2^(L - 1)<=u/\u<2^L)/\h=w:=by
  intro x n z B F d e;obtain⟨G,S,H,I⟩:=W5 x B;obtain⟨K,T⟩:=I z;have M:aj .u8 (x:Int)=(x:Int):=by rw[IntKind.wrap_u8];omega
  have N:((cE (kD x)).toNat:Int)=(kD x:Int):=by rw[UInt8.toNat_ofNat'];omega
  dsimp only[j7.S2,av];rw[M,bH];refine⟨by omega,_,G,⟨n+kD x,?_,by omega,by omega,?_,?_⟩,rfl⟩
  .have O:aj .i64 ((n:Int)+aj .i64 (kD x:Int))=((n+kD x:Nat):Int):=by rw[aQ (kD x:Int) (by omega),aQ _ (by omega)];omega
   rw[N,O]
  .rw [show n+kD x - 1=n+(kD x - 1)by omega,Nat.pow_add];exact a6 (Nat.mul_le_mul_left _ K) d
  .rw [Nat.pow_add];exact kr e (Nat.mul_le_mul_left _ H)
 have C:∀(x n k:Nat),2^n *x<=u->u<2^n *(x+1)->2^(n+k) *(x / 2^k)<=u/\u<2^(n+k) *(x / 2^k+1):=by
  intro x n k d e;have Q:=Nat.two_pow_pos k;have U:=Nat.div_add_mod x (2^k);have V:=Nat.mod_lt x Q;rw[Nat.pow_add,Nat.mul_assoc,Nat.mul_assoc];constructor
  .exact a6 (Nat.mul_le_mul_left _ (Nat.mul_div_le x _)) d
  .refine kr e (Nat.mul_le_mul_left _ ?_);rw[Nat.mul_add,Nat.mul_one];omega
 have A:∀x k:Nat,Int.fdiv (x:Int) (2^k)=((x / 2^k:Nat):Int):=λx k=>by have:=x5 x (2^k) (Nat.two_pow_pos k);rw[Int.natCast_pow]at this;exact this
 have E:∀(x n:Nat),x≠0->x<65536->n<=48->2^n *x<=u->u<2^n *(x+1)->j7.S1 (x:Int) (n:Int) w λr h=>(∃L:Nat,r=ae (.i (L:Int))/\1<=L/\L<=64/\2^(L - 1)<=u/\u<2^L)/\h=w:=by intro x n z B F d e;refine aF (λy=>?_) (λy=>fin x n z (by omega) (by omega) d e);obtain⟨j,q⟩:=C x n 8 d e;rw[A,show aj .i64 ((n:Int)+8)=((n+8:Nat):Int)by rw[aQ _ (by omega)];omega];exact fin _ _ (by omega) (by omega) (by omega) j q
 have D:∀(x n:Nat),x≠0->x<4294967296->n<=32->2^n *x<=u->u<2^n *(x+1)->j7.S0 (x:Int) (n:Int) w λr h=>(∃L:Nat,r=ae (.i (L:Int))/\1<=L/\L<=64/\2^(L - 1)<=u/\u<2^L)/\h=w:=by intro x n z B F d e;refine aF (λy=>?_) (λy=>E x n z (by omega) (by omega) d e);obtain⟨j,q⟩:=C x n 16 d e;rw[A,show aj .i64 ((n:Int)+16)=((n+16:Nat):Int)by rw[aQ _ (by omega)];omega];exact E _ _ (by omega) (by omega) (by omega) j q
 refine j7.ok _ w _ (aF (λy=>?_) (λy=>D u 0 P (by omega) (by omega) (by omega) (by omega)));obtain⟨j,q⟩:=C u 0 32 (by omega) (by omega);rw[A];exact D _ 32 (by omega) (by omega) (by omega) j q
def Xp:∀d<65,1<=d->d *78913 / 2^18<20/\10^(d *78913 / 2^18 - 1)<=2^(d - 1)/\2^d<=10^(d *78913 / 2^18+1)/\(d *78913 / 2^18=0->d<=3):=by decide+kernel
def GS{u:Nat}(D:u≠0)(N:u<2^64)(w:J)(G:mq.P w):ai Y Lt #[.u (u:Int)] w λr y=>r=ae (.i (((b0 u).length:Nat):Int))/\y=w:=by
 refine Jj.ok _ w _ ((TK D N w).mono ?_);rintro _ e ⟨⟨L,rfl,O,l2,l3,Q⟩,rfl⟩;obtain⟨S,t2,T,t4⟩:=Xp L (by omega) O;have B:Int.fdiv (aj .i64 ((L:Int) *78913)) (2^18)=((L *78913 / 2^18:Nat):Int):=by rw[show aj .i64 ((L:Int) *78913)=((L *78913:Nat):Int)by rw[aQ _ (by omega)];omega];have:=x5 (L *78913) (2^18) (Nat.two_pow_pos _);rw[Int.natCast_pow]at this;exact this
 refine⟨_,rfl,Ji.ok _ e _ ⟨_,rfl,?_⟩⟩;rw[B];generalize V:L *78913 / 2^18=n at *;have q:e.cell? ((ab 2).add n)=some (.u ((10^n:Nat):Int)):=by have:=Rd.get (show Rd e ⟨some (ab 2),20,20⟩ (y0.map Fo)from G) (i:=n) (j:=n) (v:=Fo ((10^n:Nat):Int)) (by rw[hr,Yw n S];rfl) (by omega) (K:=λp=>∃x,some x=some (ab 2)/\e.cell? (x.add n)=some (.u ((10^n:Nat):Int))) (λp I q=>⟨p,I.symm,q⟩);obtain⟨x,hq,d⟩:=yS this;obtain⟨q',M,C⟩:=d;cases M;exact C
 refine⟨by omega,by omega,((10^n:Nat):Int),by rw[bH,Nat.mul_one];exact q,?_⟩;have E:∀b:Bool,ai Y Lr #[.bool b] e λr y=>r=ae (.i (if b then 1 else 0))/\y=e:=λb=>
  Jh.ok _ e _ (by cases b<;>exact⟨rfl,rfl⟩)
 refine(E _).mono ?_;rintro _ w2 ⟨rfl,rfl⟩;refine⟨_,rfl,?_,rfl⟩;have main:(if ak ((u:Int)>=((10^n:Nat):Int))=true then(n:Int)+1 else(n:Int)+0)=(((b0 u).length:Nat):Int):=by
  have Z:1<=(b0 u).length:=by
   cases F:b0 u with
   |nil=>exact absurd F (BC _)
   |cons c l=>simp
  by_cases A:10^n<=u
  .rw [aq (aS (by omega))];have U:(b0 u).length<=n+1:=xK (by omega) (kr Q T);have lo:n+1<=(b0 u).length:=by
    rcases Nat.lt_or_ge (b0 u).length (n+1)with d|d
    .exfalso;have k:=Fp (b0 u) (BB u);rw[Fq]at k;have:=Nat.pow_le_pow_right (n:=10) (by omega) (show(b0 u).length<=n by omega);omega
    .exact d
   omega
  .rw [af (λd=>A (by have:=eH d;omega))];have H:1<=n:=by
    rcases Nat.eq_zero_or_pos n with d|d
    .subst d;rw[Nat.pow_zero]at A;omega
    .exact d
   have U:(b0 u).length<=n:=xK H (by omega);have lo:n<=(b0 u).length:=by
    rcases Nat.lt_or_ge (b0 u).length n with d|d
    .exfalso;have k:=Fp (b0 u) (BB u);rw[Fq]at k;have:=Nat.pow_le_pow_right (n:=10) (by omega) (show(b0 u).length<=n - 1 by omega);omega
    .exact d
   omega
 have W:(n:Int)<20:=by omega
 cases z:ak ((u:Int)>=((10^n:Nat):Int))with
 |true=>
  rw[z,aq rfl]at main;have h:aj .i64 ((n:Int)+1)=(n:Int)+1:=aQ _ (by omega);rw[aq rfl,<-main,h]
 |false=>
  rw[z,af (by decide)]at main;have h:aj .i64 ((n:Int)+0)=(n:Int)+0:=aQ _ (by omega);rw[af (by decide),<-main,h]
end Go.Proofs.YthhmdddomhknaaaGreatDoor
