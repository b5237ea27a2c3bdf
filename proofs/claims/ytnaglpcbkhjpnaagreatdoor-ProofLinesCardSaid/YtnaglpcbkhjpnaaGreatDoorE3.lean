import Derived.Test.YtnaglpcbkhjpnaaGreatDoorR14
import Derived.Test.YtnaglpcbkhjpnaaGreatDoorU
import Derived.Test.YtnaglpcbkhjpnaaGreatDoorG9
import Derived.Laws.CopyRow
import Derived.Test.YtnaglpcbkhjpnaaGreatDoorWN
import Derived.Lib.Bytealg
import Derived.Laws.StandIn
set_option linter.unusedVariables false
set_option maxRecDepth 100000
set_option maxHeartbeats 1000000
set_option linter.defProp false
namespace Go.Proofs.YtnaglpcbkhjpnaaGreatDoor
open Go renaming World->J,Calls->aj,Value->aa,TypeId->aC,Ending->cE
open Go.IntKind renaming wrap->ah
open _root_.Int renaming toNat->a5,tdiv->bS,tmod->cp,toNat_natCast->bo
open _root_.ByteArray renaming mk->bh
open Go.IntWalk renaming i64_in->aN
open _root_.Bool renaming and_eq_true->bH,not_eq_true->jB
open _root_.Nat renaming le_refl->bm,le_trans->bz,zero_le->dI,beq->cg
open _root_.Prod.mk renaming injEq->eW
open _root_.Option.some renaming injEq->fq
open Go.Proofs.Tryz renaming prog->V
open _root_.Decidable renaming decide->au
open Go.Ending renaming returned->ae
open List renaming mem_append->aW,mem_cons->aq,not_mem_nil->aL,mem_of_getElem?->aG,getElem?_eq_getElem->a',getElem?_eq_some_iff->cV,mem_flatMap->bX,mem_map->bK,length_append->a9,length_cons->bI,length_nil->dH,mem_of_mem_take->hP,getElem?_append_right->pA,append_assoc->cN,length_take->eT,flatMap_append->de,flatMap_cons->cU,mem_cons_of_mem->fF,length_map->gJ,drop_eq_getElem_cons->dw,all_eq_true->fa,append_nil->ed,nil_append->lU,cons_append->i2,take_add_one->dM,map_append->ez,map_cons->hn,take_length->G6,drop_of_length_le->du
open Go Go.W
def zg(t:ByteArray):Prop:=∀d,aj V Gq #[.string t] d λr h=>r=ae (.bool (oZ t))/\af d h
def aft{w:J}{p:Addr}{d:Nd}{x y z:bA}(h:eC w p d)(ac:27<=d.x.op)(ad:d.x.op<=34)(hx:pU x)(hy:pU y)(hz:pU z)(U:d.x.op=33->zg d.x.tx):
  aj V QJ #[.pointer (some p),ee x,ee y,ee z] w λr w'=>jC (ie d.x x y z) (iT d.x x y z) r/\af w w':=by
 refine Vt.aD _ _ _ _ _ _ _ _ _ _ w _ ((Ar h).aK λb5 w1 Z=>Z.aK λb6 w2 H2=>H2.aK λb7 w3 H3=>H3.aK λb8 w4 I=>?_);obtain⟨⟨op,kids,n,m,u,H,st⟩,T⟩:=d;have N:∀{B:J} {L:List En},LH F0 w B L [.jP p ⟨⟨op,kids,n,m,u,H,st⟩,T⟩]->eC B p ⟨⟨op,kids,n,m,u,H,st⟩,T⟩:=λY=>Y.getD 0;simp only at ac ad U;refine⟨op,(N I).c0,?_⟩;obtain⟨al,am⟩:=hx;obtain⟨an,ao⟩:=hy;obtain⟨ap,aq⟩:=hz;have ak:op=27\/op=28\/op=29\/op=30\/op=31\/op=32\/op=33\/op=34:=co
 rcases ak with rfl|rfl|rfl|rfl|rfl|rfl|rfl|rfl;all_goals repeat (first |refine aP rfl ?_|refine aM rfl ?_)
 .refine I.ai λB C=>C.aA (jY 7 B) ?_;rintro _ D rfl q;refine⟨_,_,_,rfl,q.aA (jZ x D) ?_⟩;rintro _ G rfl j;exact⟨_,rfl,eB j (bM 7) _ true ws rfl (λ_=>rfl) (λ_ _=>rfl)⟩
 .have W:k' ⟨28,kids,n,m,u,H,st⟩ x y z=(au (0<=n)&&au (n<=63)):=rfl;refine I.ai λB C=>⟨_,(N C).c2,C.aA (jY 8 B) ?_⟩;rintro _ D rfl q;refine⟨_,_,_,rfl,(N q).c2,q.aA (jZ x D) ?_⟩;rintro _ G rfl j;refine⟨_,rfl,(N j).c2,aE (λQ=>⟨_,(N j).c2,eB j (bM 8) _ _ ws rfl (λ_=>?_) (λ_ _=>rfl)⟩) (λQ=>eB j (bM 8) _ _ ws rfl (λ_=>?_) (λ_ h=>by cases h))⟩
  .rw [W,aQ (show 0<=n from Q),Bool.true_and];exact decide_eq_decide.2 (by show n<64↔n<=63;omega)
  .rw [W,aV (show ¬0<=n from Q)];rfl
 .have P:ah .i64 (x.n+y.n)=x.n+y.n:=aN _ co;have E:dB 29 x y z=(x.k==1&&y.k==1):=rfl;refine I.ai λB C=>?_;rw[P];refine C.aA (vT _ B) ?_;rintro _ D rfl q;refine⟨_,_,_,rfl,q.aA (jZ x D) ?_⟩;rintro _ G rfl j;refine⟨_,rfl,aO (λA=>j.aA (jZ y G) ?_) (λA=>?_)⟩
  .rintro _ K rfl F;refine⟨_,rfl,eB F (fk (x.n+y.n)) _ _ ws ?_ (λ_=>rfl) (λ_ _=>rfl)⟩;show _=dB 29 x y z;rw[E,A];rfl
  .refine eB j (fk (x.n+y.n)) _ _ ws ?_ (λh=>by cases h) (λh _=>by cases h);show _=dB 29 x y z;rw[E,beq_eq_false_iff_ne.2 A];rfl
 .have E:dB 30 x y z=(x.k==1&&au (y=bM 7)&&au (z=bM 7)):=rfl;refine I.ai λB C=>C.aA (jZ x B) ?_;rintro _ D rfl q;refine⟨_,rfl,aO (λA=>q.aA (jY 7 D) ?_) (λA=>eB q x _ true ws ?_ (λ_=>rfl) (λ_ _=>rfl))⟩
  .rintro _ G rfl j;refine⟨_,_,_,rfl,oG (a:=y) (b:=bM 7) (λM=>j.aA (jY 7 G) ?_) (λM=>eB j x _ true ws ?_ (λ_=>rfl) (λ_ _=>rfl))⟩
   .rintro _ K rfl F;refine⟨_,_,_,rfl,eB F x _ true ws ?_ (λ_=>rfl) (λ_ _=>rfl)⟩;show _=dB 30 x y z;rw[E,A,aQ M];exact lg z (bM 7)
   .show _=dB 30 x y z;rw[E,aV M,Bool.and_false];rfl
  .show _=dB 30 x y z;rw[E,beq_eq_false_iff_ne.2 A];rfl
 .have E:dB 31 x y z=(x.k==1&&y.k==1):=rfl;refine I.ai λB C=>C.aA (jY 7 B) ?_;rintro _ D rfl q;refine⟨_,_,_,rfl,q.aA (jZ x D) ?_⟩;rintro _ G rfl j;refine⟨_,rfl,aO (λA=>j.aA (jZ y G) ?_) (λA=>?_)⟩
  .rintro _ K rfl F;refine⟨_,rfl,eB F (bM 7) _ true ws ?_ (λ_=>rfl) (λ_ _=>rfl)⟩;show _=dB 31 x y z;rw[E,A];rfl
  .refine eB j (bM 7) _ true ws ?_ (λ_=>rfl) (λ_ _=>rfl);show _=dB 31 x y z;rw[E,beq_eq_false_iff_ne.2 A];rfl
 .have P:ah .i64 (x.n+z.n)=x.n+z.n:=aN _ co;have E:dB 32 x y z=(x.k==1&&y.k==1&&z.k==1):=rfl;refine I.ai λB C=>?_;rw[P];refine C.aA (vT _ B) ?_;rintro _ D rfl q;refine⟨_,_,_,rfl,q.aA (jZ x D) ?_⟩;rintro _ G rfl j;have no:∀{K:J} {L:List En} {bs aa:List Nat},LH F0 w K L [.jP p ⟨⟨32,kids,n,m,u,H,st⟩,T⟩]->(∀b∈bs,En.g b∈L)->dB 32 x y z=false->eJ aa V AQ #[ee (fk (x.n+z.n)),.bool false,.bool (au (x.n+z.n<=64))] K λr B=>∃a b c e:Int,r=ae (.tuple #[.agg #[.i a,.i b,.i c],.i e])/\loc bs B λD=>jC (ie ⟨32,kids,n,m,u,H,st⟩ x y z) (iT ⟨32,kids,n,m,u,H,st⟩ x y z) (ae (.tuple #[.agg #[.i a,.i b,.i c],.i e]))/\af w D:=λF hb hf=>eB F _ _ _ ws hf.symm (λh=>by cases h) (λh _=>by cases h) hb;refine⟨_,rfl,aO (λA=>j.aA (jZ y G) ?_) (λA=>no j ws ?_)⟩
  .rintro _ K rfl F;refine⟨_,rfl,aO (λS=>F.aA (jZ z K) ?_) (λS=>no F ws ?_)⟩
   .rintro _ w9 rfl H9;refine⟨_,rfl,eB H9 (fk (x.n+z.n)) _ _ ws ?_ (λ_=>rfl) (λ_ _=>rfl)⟩;show _=dB 32 x y z;rw[E,A,S];rfl
   .rw [E,beq_eq_false_iff_ne.2 S,Bool.and_false];rfl
  .rw [E,beq_eq_false_iff_ne.2 A];rfl
 .have E:dB 33 x y z=(x.k==1):=rfl;have ab:k' ⟨33,kids,n,m,u,H,st⟩ x y z=true:=rfl;refine I.aA (jZ x w4) ?_;rintro _ B rfl C;refine⟨_,rfl,dW (λA=>C.ai λD q=>⟨⟨x,9,rfl,?_,λh=>?_⟩,q.fr⟩) (λA=>⟨H,(N C).c5,C.aA (U rfl B) ?_⟩)⟩
  .unfold iT;rw[show dB (33:Int) x y z=false from A];rfl
  .unfold iT at h;rw[show dB (33:Int) x y z=false from A]at h;cases h
  .rintro _ D rfl q;have M:iT ⟨33,kids,n,m,u,H,st⟩ x y z=if oZ H=false then 2 else 0:=by unfold iT;rw[show dB (33:Int) x y z=true from A,ab];simp
   refine⟨_,rfl,dW (λO=>q.ai λG j=>⟨⟨x,2,rfl,?_,λh=>?_⟩,j.fr⟩) (λO=>q.aA (jY 1 D) ?_)⟩
   .rw [M,av O]
   .rw [M,av O]at h;cases h
   .rintro _ G rfl j;exact⟨_,_,_,rfl,j.ai λK F=>⟨⟨bM 1,0,rfl,by rw[M,ag (by rw[O];simp)],λ_=>rfl⟩,F.fr⟩⟩
 .refine I.ai λB C=>C.aA (vT 1 B) ?_;rintro _ D rfl q;refine⟨_,_,_,rfl,q.aA (jY 8 D) ?_⟩;rintro _ G rfl j;exact⟨_,_,_,rfl,eB j (fk 1) _ true ws (lg x (bM 8)) (λ_=>rfl) (λ_ _=>rfl)⟩
def ZG(u n:Int)(j:0<=u)(w:0<=n)(x:n<64):((Int.fdiv u (2^(min (a5 n) (IntKind.bits .u64)))) !=0)=au (2^n.toNat<=u):=by
 have e:min (a5 n) (IntKind.bits .u64)=n.toNat:=by show min n.toNat 64=_;omega
 rw[e];have d:(0:Int)<2^n.toNat:=Int.pow_pos md;generalize(2:Int)^n.toNat=q at d;have k:=Int.fdiv_eq_ediv_of_nonneg u (by omega:0<=q);rw[k];by_cases h:q<=u
 .rw [aQ h];have:1<=u / q:=by rw[Int.le_ediv_iff_mul_le d];omega
  simp only[bne_iff_ne,ne_eq];omega
 .rw [aV h];rw[Int.ediv_eq_zero_of_lt j co];rfl
def afq{w:J}{p:Addr}{d:Nd}(g:List Nx)(h:eC w p d)(Q:1<=d.x.op)(Z:d.x.op<=3)(hu:0<=d.x.u):
  aj V QI #[.pointer (some p)] w λr U=>jC (cR g d.x).1 (cR g d.x).2 r/\af w U:=by
 refine H7.aD _ w _ ((Ar h).aK λF W z=>?_);have j:∀{A:J} {L:List En},LH F0 w A L [.jP p d]->eC A p d:=λaa=>aa.getD 0;have er:∀(t:bA) (e:Int) (A:J),e≠0->(cR g d.x)=(dq,e)->LH F0 w A [.g F] [.jP p d]->loc [F] A λI=>jC (cR g d.x).1 (cR g d.x).2 (ae (.tuple #[.agg #[.i t.k,.i t.n,.i t.x],.i e]))/\af w I:=λt e A h0 C O=>O.ai λI P=>⟨⟨t,e,rfl,by rw[C],λh=>by rw[C]at h;exact absurd h h0⟩,P.fr⟩;have ok:∀(t:bA) (A:J),(cR g d.x)=(t,0)->LH F0 w A [.g F] [.jP p d]->loc [F] A λI=>jC (cR g d.x).1 (cR g d.x).2 (ae (.tuple #[.agg #[.i t.k,.i t.n,.i t.x],.i 0]))/\af w I:=λt A C O=>O.ai λI P=>⟨⟨t,0,rfl,by rw[C],λ_=>by rw[C]⟩,P.fr⟩;refine⟨_,(j z).c0,aO (λK=>?_) (λK=>?_)⟩
 .refine ⟨_,(j z).c5,aE (λhs=>⟨_,_,_,(j z).s0,(j z).s1,(j z).s2,er d.x.st 5 W md ?_ z⟩) (λhs=>⟨_,(j z).c5,z.aA (vT _ W) ?_⟩)⟩
  .unfold cR;rw[av K,av co]
  .rintro _ H rfl y;refine⟨_,_,_,rfl,ok (fk d.x.tx.size) H ?_ y⟩;unfold cR;rw[av K,ag co]
 have B:cR g d.x=if cm d.x.st=false then(dq,9)else
   if d.x.op=1/\d.x.st.k≠0\/d.x.op=3/\eD d.x.st=false then(dq,9)else
   if d.x.op=1/\fW d.x.u d.x.st.n=true then(dq,5)else(d.x.st,0):=by
  unfold cR;rw[ag K,ag (λh=>co)];have:¬(d.x.op=0/\th g d.x=true):=λh=>co
  simp only[this,if_false]
 refine⟨_,_,_,(j z).s0,(j z).s1,(j z).s2,z.aA (U' d.x.st W) ?_⟩;rintro _ H rfl y;refine⟨_,rfl,HA (λG=>⟨_,_,_,(j y).s0,(j y).s1,(j y).s2,?_⟩) (λG=>?_)⟩
 .have:hr d.x.st=9:=by unfold hr;rw[G];rfl
  rw[this];exact er d.x.st 9 H md (by rw[B,av G]) y
 rw[ag (by rw[G];simp)]at B;refine⟨_,(j y).c0,aO (λZ=>⟨_,_,_,(j y).s0,(j y).s1,(j y).s2,y.aA (H4 d.x.st H) ?_⟩) (λab=>?_)⟩
 .rintro _ E rfl q;refine⟨_,rfl,dW (λS=>⟨_,_,_,(j q).s0,(j q).s1,(j q).s2,er d.x.st 9 E md ?_ q⟩) (λS=>⟨_,_,_,(j q).s0,(j q).s1,(j q).s2,ok d.x.st E ?_ q⟩)⟩
  .rw [B,av (.inr ⟨Z,S⟩)]
  .rw [B,ag (by rintro(h|h);omega;rw[S]at h;cases h.2),ag (by rintro⟨h,_⟩;omega)]
 have Q:d.x.op=1:=co
 refine⟨_,(j y).s0,dA (λN=>⟨_,_,_,(j y).s0,(j y).s1,(j y).s2,er d.x.st 9 H md ?_ y⟩) (λN=>y.ai λE q=>?_)⟩
 .rw [B,av (.inl ⟨Q,N⟩)]
 rw[ag (by rintro(h|h);exact h.2 N;omega)]at B;obtain⟨v1,v2,_⟩:=v7 G N;have Y:cR g d.x=(d.x.st,0)->H7.bD p F 0 0 0 E λr U=>jC (cR g d.x).1 (cR g d.x).2 r/\af w U:=λC=>⟨_,_,_,(j q).s0,(j q).s1,(j q).s2,ok d.x.st E C q⟩;refine⟨_,(j q).s1,aE (λM=>⟨_,(j q).c4,_,(j q).s1,co,?_⟩) (λM=>Y ?_)⟩
 .rw [ZG _ _ hu co M];refine aE (λT=>⟨_,_,_,(j q).s0,(j q).s1,(j q).s2,er d.x.st 5 E md ?_ q⟩) (λT=>Y ?_)
  .rw [B,av ⟨Q,by unfold fW;rw[aQ M,aQ T];rfl⟩]
  .rw [B,ag];rintro⟨_,D⟩;unfold fW at D;rw[aV T,Bool.and_false]at D;cases D
 .rw [B,ag];rintro⟨_,D⟩;unfold fW at D;rw[aV M]at D;cases D
def u6(g:List Nx)(t:ByteArray):cE:=match kC g t with
 |some s=>ae (.tuple #[ee s,.bool true])
 |none=>ae (.tuple #[ee dq,.bool false])
def afu{w:J}{p:Addr}{d:Nd}{D:List En}(g:List Nx)(F:Fv)(H:LH F0 w w [] (.jP p d::D))(hc:hG V F.n=true)(hl:∀C:J,(∀e∈D,e.P C)->aj V F.n (F.bs++#[.string d.x.tx]++F.cs) C λr ah=>r=u6 g d.x.tx/\af C ah)(h0:d.x.op=0):
  aj V QK #[.pointer (some p),F.v] w λr C=>jC (cR g d.x).1 (cR g d.x).2 r/\af w C:=by
 have h:∀{q:J} {L:List En},LH F0 w q L (.jP p d::D)->eC q p d:=λH=>H.getD 0;have z:cR g d.x=if eZ (bl d.x.tx)=false then(dq,6)else if cm d.x.st=false then(dq,9)else if th g d.x=true then(dq,8)else(d.x.st,0):=by unfold cR;rw[ag co];simp[h0]
 have fin:∀(e:Int) (q:J) (L:List En) (i:Nat) (b:Nat) (E c1 c2:aa),LH F0 w q L (.jP p d::D)->L[i]? =some (.c b [E,c1,c2] cA)->cR g d.x=(if e=0 then d.x.st else dq,e)->UB q (ab b) (.i d.x.st.k) (.i d.x.st.n) (.i d.x.st.x) λU=>M3 U (ab b) λa0 a1 a2=>jC (cR g d.x).1 (cR g d.x).2 (ae (.tuple #[.agg #[.i a0,.i a1,.i a2],.i e]))/\af w U:=by
  intro e q L i b E c1 c2 y M K;refine y.HN i M λU I=>?_;have S:(L.set i (.c b [Value.i d.x.st.k,.i d.x.st.n,.i d.x.st.x] cA))[i]? =some (.c b [Value.i d.x.st.k,.i d.x.st.n,.i d.x.st.x] cA):=by rw[List.getElem?_set_self (cV.1 M).1]
  refine⟨_,_,_,I.ld i 0 S,I.ld i 1 S,I.ld i 2 S,⟨d.x.st,e,rfl,by rw[K],λZ=>?_⟩,I.fr⟩;rw[K]at Z ⊢;rw[av Z]
 refine H8.ok p F w _ (H.nw λw1 _ W=>⟨_,(h W).c5,W.call (afo d.x.tx w1) ?_⟩);rintro _ w2 rfl A;refine⟨_,rfl,dW (λT=>⟨_,_,_,(h A).s0,(h A).s1,(h A).s2,fin 6 w2 _ 0 _ _ _ _ A rfl (by rw[z,av T];rfl)⟩) (λT=>⟨_,_,_,(h A).s0,(h A).s1,(h A).s2,A.call (U' d.x.st w2) ?_⟩)⟩;rw[ag (by rw[T];simp)]at z;rintro _ w3 rfl B;refine⟨_,rfl,HA (λN=>⟨_,_,_,(h B).s0,(h B).s1,(h B).s2,?_⟩) (λN=>⟨_,(h B).c5,?_⟩)⟩
 .have:hr d.x.st=9:=by unfold hr;rw[N];rfl
  rw[this];exact fin 9 w3 _ 0 _ _ _ _ B rfl (by rw[z,av N];rfl)
 rw[ag (by rw[N];simp)]at z;rw[hc];refine(show cS true _ from ?_);refine B.call (hl w3 (λe K=>B.rd e (fF _ K))) ?_;rintro _ w4 rfl Y;have G:∀(q:J) (L:List En) (E c1 c2:aa),LH F0 w q L (.jP p d::D)->L[0]? =some (.c w.heap.size [E,c1,c2] cA)->th g d.x=false->H8.S0 p (ab w.heap.size) q λr C=>jC (cR g d.x).1 (cR g d.x).2 r/\af w C:=λq L E c1 c2 y M ht=>⟨_,_,_,(h y).s0,(h y).s1,(h y).s2,fin 0 q L 0 _ E c1 c2 y M (by rw[z,ag (by rw[ht];simp)];rfl)⟩;unfold th at z G;unfold u6;cases hs:kC g d.x.tx with
 |none=>
  rw[hs]at z G;refine⟨dq.k,dq.n,dq.x,false,rfl,Y.nw λq _ y=>y.HN 1 rfl λw8 Q=>Q.dr λO j=>aP rfl ?_⟩;exact G O _ _ _ _ j rfl rfl
 |some t=>
  rw[hs]at z G;refine⟨t.k,t.n,t.x,true,rfl,Y.nw λq _ y=>y.HN 1 rfl λw8 Q=>Q.dr λO j=>aM rfl ⟨_,_,_,j.ld 1 0,j.ld 1 1,j.ld 1 2,_,_,_,(h j).s0,(h j).s1,(h j).s2,By (a:=t) (b:=d.x.st) (λad=>⟨_,_,_,(h j).s0,(h j).s1,(h j).s2,fin 8 O _ 0 _ _ _ _ j rfl ?_⟩) (λac=>G O _ _ _ _ j rfl ?_)⟩⟩
  .rw [z,av (by simp[ad])];rfl
  .simp [ac]
def Al:List Int:=[0,0,0,0,1,1,2,2,2,2,2,2,2,2,2,2,2,2,2,3,2,1,1,1,2,3,2,1,1,2,3,2,3,1,1]
abbrev cG:En:=.rd ⟨some (ab 2),35,35⟩ (Al.map aY)
def aaV{op:Int}(d:0<=op)(h:op<=34):Al[op.toNat]? =some (dk op):=by rcases vh d h with rfl|rfl|rfl|rfl|rfl|rfl|rfl|rfl|rfl|rfl|rfl|rfl|rfl|rfl|rfl|rfl|rfl|rfl|rfl|rfl|rfl|rfl|rfl|rfl|rfl|rfl|rfl|rfl|rfl|rfl|rfl|rfl|rfl|rfl|rfl<;>rfl
section
variable {M:Nat->Prop} {w0 w:J} {L D:List En} {bs:List Nat}
def _root_.Go.W.LH.ta(H:LH M w0 w L D)(i a c:Nat){b:Nat}{vs:List aa}{T:aC}{v:aa}{K:J->Prop}(hi:L[i]? =some (.c b vs T))(x:∀j,LH M w0 j (L.set i (.c b (vs.set (a+c) v) T)) D->K j)(y:a+c<vs.length:=by simp[gP])(bF:∀b∈bs,En.g b∈L:=by simp):
  aS w (((ab b).add a).add c) v λk=>kept bs w k/\K k:=by rw[add_add];obtain⟨z,A,C,B⟩:=vI (H.ob i hi) (a+c) co v;obtain⟨_,_,q⟩:=H.set (v:=v) i (a+c) hi y;refine⟨z,A,λd h=>?_,x _ q⟩;refine B.cC d (H.own _ (bF d h)) λe=>?_;have:=o' H hi (wU w b vs T) (bF d h);exact this (by rw[e];exact qg.2 rfl)
def _root_.Go.W.LH.HS(H:LH M w0 w L D)(i a:Nat){b:Nat}{vs:List aa}{T:aC}{v:aa}{K:J->Prop}(hi:L[i]? =some (.c b vs T))(j:∀d,LH M w0 d (L.set i (.c b (vs.set a v) T)) D->K d)(k:a<vs.length:=by simp[gP])(bF:∀b∈bs,En.g b∈L:=by simp):
  aS w ((ab b).add a) v λh=>kept bs w h/\K h:=by
 have:=H.ta (v:=v) (K:=K) i a 0 hi j k bF
 rwa[jg]at this
end
def aeC{g:List Nx}{n:Nx}(h:(dk n.op==(n.kids.length:Int)&&n.kids.all (fL g)&&jR n)=true)(d:¬n.op<=3):cI g n=if iT n (ck g n 0) (ck g n 1) (ck g n 2)≠0 then(dq,iT n (ck g n 0) (ck g n 1) (ck g n 2))else(ie n (ck g n 0) (ck g n 1) (ck g n 2),0):=by
 unfold cI iT;rw[h,ag ws,ag d]
 grind
def abd{g:List Nx}{n:Nx}(h:(cR g n).2≠0):cR g n=(dq,(cR g n).2):=by
 unfold cR at h ⊢
 grind
structure nT(d:Nx):Prop where
 kl:d.kids.length<=1000000000
 n:aX d.n
 m:aX d.m
 u:0<=d.u
 tx:d.op=33->zg d.tx
abbrev w8(a b c:bA):List aa:=gP a++gP b++gP c
def nE(g:List Nx)(n:Nx)(i j:Nat):bA:=if j<i then ck g n j else dq
def aa7{g:List Nx}{n:Nx}{j:Nat}(h:n.kids.length<=j):ck g n j=dq:=by
 unfold ck
 grind
def aa6{l:List Nd}{n:Nx}{i:Nat}{k:Int}{e:Nd}(h:n.kids[i]? =some k)(d:l[k.toNat]? =some e):ck (xs l) n i=e.x.st:=by
 unfold ck
 grind
def aa5{g:List Nx}{n:Nx}(k:∀d∈g,cm d.st=true)(j:Nat):pU (ck g n j):=by
 unfold ck;split
 .split
  .rename_i h;exact afW (k _ (aG h))
  .exact Rh
 .exact Rh
def afs{w:J}{s:Sl}{l:List Nd}{d:Nd}{D:List En}(S:Fv)(H:LH F0 w w [] (.gr s l::dp d::cG::D))(hc:hG V S.n=true)(hl:∀A:J,(∀e∈D,e.P A)->aj V S.n (S.bs++#[.string d.x.tx]++S.cs) A λr aN=>r=u6 (xs l) d.x.tx/\af A aN)(ho:nT d.x)(aW:l.length<=1000000000)(hv:∀e∈xs l,cm e.st=true):
  aj V QF #[s.v,d.v,S.v] w λr A=>r=gO (cI (xs l) d.x)/\af w A:=by
 have hn:=iU (ct.1 (H.getD 0));have az:(xs l).length=l.length:=by simp[xs]
 have aU:d.ks.n=d.x.kids.length:=bq.len (H.getD 1);have aT:=ho.kl;refine q3.aD s _ _ _ _ _ _ _ _ _ S w _ (H.nw λw1 _ H1=>H1.aK λN w2 H2=>H2.ai λO I=>?_);have y:∀{G:J} {L:List En},LH F0 w G (.c w.heap.size d.c cQ::L) (.gr s l::dp d::cG::D)->eC G (ab w.heap.size) d:=λH=>AR (H.ob 0);have I:LH F0 w O [.c w.heap.size d.c cQ,.g N] (.gr s l::dp d::cG::D):=I;have fail:(dk d.x.op==(d.x.kids.length:Int)&&d.x.kids.all (fL (xs l))&&jR d.x)=false->∀{G:J} {L:List En} {bs:List Nat},LH F0 w G L (.gr s l::dp d::cG::D)->(∀b∈bs,En.g b∈L)->loc bs G λM=>(λr A=>r=gO (cI (xs l) d.x)/\af w A) (ae (.tuple #[.agg #[.i 0,.i 0,.i 0],.i 1])) M:=λZ _ _ _ B hb=>B.ai (λM C=>⟨by unfold cI;rw[av Z];rfl,C.fr⟩) hb;have kN:∀op:Int,op<0\/34<op->dk op=-1:=λop aC=>by unfold dk;rw[av aC]
 refine⟨_,(y I).c0,aE (λh0=>fail ?_ I ws) (λh0=>⟨_,(y I).c0,aE (λaF=>fail ?_ I ws) (λaF=>⟨_,(y I).c1,_,(y I).c0,co,by show d.x.op<35;omega,dk d.x.op,?_,dA (λak=>fail ?_ I ws) (λan=>?_)⟩)⟩)⟩
 .rw [kN _ (.inl h0),beq_eq_false_iff_ne.2 co];rfl
 .rw [kN _ (.inr co),beq_eq_false_iff_ne.2 co];rfl
 .have hk:bq O ⟨some (ab 2),35,35⟩ Al:=I.getD 2;exact(show W.dV (some (ab 2)) λp=>O.cell? (p.add (a5 d.x.op *1))=some (.int .i64 (dk d.x.op))from hk.cell (aaV co co) rfl λp _ hc=>hc)
 .rw [beq_eq_false_iff_ne.2 co];rfl
 have aJ:(dk d.x.op==(d.x.kids.length:Int))=true:=by rw[beq_iff_eq];omega
 have aS:d.x.kids.length<=3:=by
  have:dk d.x.op<=3:=by unfold dk;repeat' split<;>omega
  omega
 refine I.nw λw4 _ H4=>⟨_,(y H4).c1,?_⟩;have loop:∀(m i:Nat) (G:J),i+m=d.x.kids.length->d.x.kids.all (fL (xs l))=(d.x.kids.drop i).all (fL (xs l))->LH F0 w G [.c w.heap.size d.c cQ,.g N,.c O.heap.size (w8 (nE (xs l) d.x i 0) (nE (xs l) d.x i 1) (nE (xs l) d.x i 2)) B0] (.gr s l::dp d::cG::D)->
   q3.cv s S (ab w.heap.size) N 0 0 0 (ab O.heap.size) (d.ks.n:Int) (i:Int) G λr A=>r=gO (cI (xs l) d.x)/\af w A:=by
  intro m;induction m with
  |zero=>
   intro i G hi U B;rw[du co]at U;have e0:∀F,nE (xs l) d.x i F=ck (xs l) d.x F:=λF=>by
    unfold nE;split
    .rfl
    .exact (aa7 co).symm
   rw[e0,e0,e0]at B;refine q3.dO _ _ _ _ _ _ _ _ _ _ _ _ (aP (aV co) (B.aA (afn (y B)) ?_));rintro _ M rfl C;refine⟨_,rfl,dW (λZ=>fail (by rw[Z,Bool.and_false]) C ws) (λZ=>C.aK λad Y h=>?_)⟩;have ar:(dk d.x.op==(d.x.kids.length:Int)&&d.x.kids.all (fL (xs l))&&jR d.x)=true:=by rw[aJ,U,Z];rfl
   have h:LH F0 w Y [.c w.heap.size d.c cQ,.g N,.c O.heap.size (w8 (ck (xs l) d.x 0) (ck (xs l) d.x 1) (ck (xs l) d.x 2)) B0,.g ad] (.gr s l::dp d::cG::D):=h;have fin:∀(T:bA) (E:Int) (t:bA) (e:Int) (j:J),cI (xs l) d.x=(if E≠0 then(dq,E)else(T,0))->e=E->(E=0->t=T)->LH F0 w j [.c w.heap.size d.c cQ,.g N,.c O.heap.size (w8 (ck (xs l) d.x 0) (ck (xs l) d.x 1) (ck (xs l) d.x 2)) B0,.g ad] (.gr s l::dp d::cG::D)->
     loc [N,ad] j λw9=>q3.cX N 0 0 0 ad t.k t.n t.x e w9 λr A=>r=gO (cI (xs l) d.x)/\af w A:=by intro T E t e j hs z K q;subst z;refine q.ai λw9 H9=>dA (λak=>H9.ai λaR am=>⟨by rw[hs,av ak];rfl,am.fr⟩) (λh0=>H9.ai λaR am=>⟨?_,am.fr⟩);rw[hs,ag co,K h0]
   have aB:d.x.op<=3->cI (xs l) d.x=(if(cR (xs l) d.x).2≠0 then(dq,(cR (xs l) d.x).2)else((cR (xs l) d.x).1,0)):=λh3=>by
    unfold cI;rw[ar,ag ws,av h3];split
    .rename_i ak;exact abd ak
    .rename_i an;rw[Decidable.not_not]at an;rw[<-an]
   have ac:=λF=>aa5 (n:=d.x) hv F;refine⟨_,(y h).c0,aO (λaw=>?_) (λaw=>⟨_,(y h).c0,aE (λap=>?_) (λap=>⟨_,(y h).c0,aE (λax=>?_) (λax=>⟨_,(y h).c0,aE (λay=>?_) (λay=>?_)⟩)⟩)⟩)⟩
   .have Hv:LH F0 Y Y [] (.jP (ab w.heap.size) d::D):=bN _ (by
     intro e z;rcases aq.1 z with rfl|z
     .exact y h
     .exact h.rd e (fF _ (fF _ (fF _ z))))
    refine h.aA (afu (xs l) S Hv hc hl aw) ?_;rintro _ j ⟨t,e,rfl,z,K⟩ q;exact⟨_,_,_,_,rfl,fin _ _ t e j (aB co) z K q⟩
   .refine h.aA (afq (xs l) (y h) co ap ho.u) ?_;rintro _ j ⟨t,e,rfl,z,K⟩ q;exact⟨_,_,_,_,rfl,fin _ _ t e j (aB ap) z K q⟩
   all_goals
    have rest:=aeC ar co;have Q:∀(a c:Nat) (v:aa),(w8 (ck (xs l) d.x 0) (ck (xs l) d.x 1) (ck (xs l) d.x 2))[a+c]? =some v->Y.cell? (((ab O.heap.size).add a).add c)=some v:=λa c v hv=>by rw[add_add];exact h.ld 2 (a+c) rfl hv
    refine⟨co,md,(ck (xs l) d.x 0).k,(ck (xs l) d.x 0).n,(ck (xs l) d.x 0).x,Q 0 0 _ rfl,Q 0 1 _ rfl,Q 0 2 _ rfl,co,md,(ck (xs l) d.x 1).k,(ck (xs l) d.x 1).n,(ck (xs l) d.x 1).x,Q 3 0 _ rfl,Q 3 1 _ rfl,Q 3 2 _ rfl,co,md,(ck (xs l) d.x 2).k,(ck (xs l) d.x 2).n,(ck (xs l) d.x 2).x,Q 6 0 _ rfl,Q 6 1 _ rfl,Q 6 2 _ rfl,?_⟩
   .refine h.aA (afm (y h) co ax (ac 0) (ac 1) ho.n ho.m) ?_;rintro _ j ⟨t,e,rfl,z,K⟩ q;exact⟨_,_,_,_,rfl,fin _ _ t e j rest z K q⟩
   .refine h.aA (afl (y h) co ay) ?_;rintro _ j ⟨t,e,rfl,z,K⟩ q;exact⟨_,_,_,_,rfl,fin _ _ t e j rest z K q⟩
   .refine h.aA (aft (y h) co co (ac 0) (ac 1) (ac 2) ho.tx) ?_;rintro _ j ⟨t,e,rfl,z,K⟩ q;exact⟨_,_,_,_,rfl,fin _ _ t e j rest z K q⟩
  |succ m ih=>
   intro i G hi U B;have hg:d.x.kids[i]? =some (d.x.kids[i]'co):=a' co;rw[dw (by omega:i<d.x.kids.length),List.all_cons]at U;generalize d.x.kids[i]'co=x at hg U;have bad:fL (xs l) x=false->q3.cb N 0 0 0 G λr A=>r=gO (cI (xs l) d.x)/\af w A:=λhx=>fail (by rw[U,hx];simp) B ws;refine q3.dO _ _ _ _ _ _ _ _ _ _ _ _ (aM (aQ co) ⟨_,(y B).c1,co,co,(show bq G d.ks d.x.kids from B.getD 1).cell hg co λp hp aH=>⟨x,aH,aE (λh1=>bad ?_) (λh1=>aE (λh2=>bad ?_) (λh2=>?_))⟩⟩)
   .unfold fL;rw[aV co];rfl
   .unfold fL;rw[aV (show ¬x<((xs l).length:Int)by rw[az];omega)];simp
   have ao:l[x.toNat]? =some (l[x.toNat]'co):=a' co;generalize l[x.toNat]'co=e at ao;have aL:=aa6 hg ao;refine iD (ct.1 (B.getD 0)) (i:=x.toNat) co ao λaX hq c=>⟨_,_,_,c.s0,c.s1,c.s2,co,by show(i:Int)<3;omega,?_⟩;have aG:d.x.kids.all (fL (xs l))=(d.x.kids.drop (i+1)).all (fL (xs l)):=by rw[U];unfold fL;rw[aQ (show 0<=x by omega),aQ (show x<((xs l).length:Int)by rw[az];omega)];rfl
   have al:∀M,LH F0 w M [.c w.heap.size d.c cQ,.g N,.c O.heap.size (w8 (nE (xs l) d.x (i+1) 0) (nE (xs l) d.x (i+1) 1) (nE (xs l) d.x (i+1) 2)) B0] (.gr s l::dp d::cG::D)->q3.cv s S (ab w.heap.size) N 0 0 0 (ab O.heap.size) (d.ks.n:Int) (ah .i64 ((i:Int)+1)) M λr A=>r=gO (cI (xs l) d.x)/\af w A:=λM C=>by rw[bb _ co];exact ih (i+1) M co aG C
   have aI:i=0\/i=1\/i=2:=co
   have up:∀F,nE (xs l) d.x (i+1) F=if F=i then e.x.st else nE (xs l) d.x i F:=λF=>by
    unfold nE;by_cases hj:F=i
    .rw [av hj,av co,hj,aL]
    .rw [ag hj];by_cases au:F<i
     .rw [av au,av co]
     .rw [ag au,ag co]
   rw[up 0,up 1,up 2]at al;rcases aI with rfl|rfl|rfl
   .exact B.HS 2 0 rfl λM C=>C.ta 2 0 1 rfl λY h=>h.ta 2 0 2 rfl λj q=>al j q
   .exact B.HS 2 3 rfl λM C=>C.ta 2 3 1 rfl λY h=>h.ta 2 3 2 rfl λj q=>al j q
   .exact B.HS 2 6 rfl λM C=>C.ta 2 6 1 rfl λY h=>h.ta 2 6 2 rfl λj q=>al j q
 exact loop d.x.kids.length 0 w4 co ws H4
def hv(U:List BL):Nat:=(U.map λt=>t.length+2).sum
def sO(d:Nat)(a:Rx)(t:BL):(dd d a t).length<=t.length+2/\t.length<=(dd d a t).length:=by
 unfold dd
 grind
def Fq(k:Int):∀(U:List BL) (out:BL),(jK k out U).length<=out.length+hv U/\out.length<=(jK k out U).length
 |[],out=>by simp[jK,hv]
 |t::U,out=>by
  unfold jK;have d:=Fq k U ((if k=3/\eS (kY out)=true/\eS (gQ t 0)=true then out++[32]else out)++g9 k++t);have j:(g9 k).length<=1:=by unfold g9;grind
  have w:k=3->(g9 k).length=0:=λh=>by unfold g9;grind
  have q:((if k=3/\eS (kY out)=true/\eS (gQ t 0)=true then out++[32]else out):BL).length<=out.length+2 - (g9 k).length/\out.length<=((if k=3/\eS (kY out)=true/\eS (gQ t 0)=true then out++[32]else out):BL).length:=by grind
  simp only[a9]at d;have x:hv (t::U)=t.length+2+hv U:=by simp[hv]
  omega
mutual
def y3:∀y:Rx,(bn y).length+4<=18 *y.sz
 |.mk d lo k l=>by
  have w:∀c,(dR c).length<=4:=λc=>by unfold dR;grind
  have E:=tn 3 l;have F:=tn 4 l;have D:=tn 0 l;have I:(sy d).length=4:=by unfold sy;grind
  have j:∀h,(ko (dF h l)).length<=hv (dF h l):=λh=>by
   cases dF h l with
   |nil=>simp[ko]
   |cons t q=>simp[ko,hv];omega
  have B:=j 3;have C:=j 4;have A:=j 0;have H:=w lo;have G:=w k;unfold Rx.sz;unfold bn;split
  .grind
  .split
   .simp;omega
   .split
    .grind
    .split
     .grind
     .split
      .grind
      .split
       .grind
       .have x:=tn (c' (.mk d lo k l)+1) l;cases z:dF (c' (.mk d lo k l)+1) l with
        |nil=>show 0+4<=_;omega
        |cons t q=>
         rw[z]at x;have:=(Fq d q t).1;simp only[hv,hn,List.sum_cons]at x;simp only[hv]at this;show(jK d t q).length+4<=_;omega
def tn(d:Nat):∀l:List Rx,hv (dF d l)<=18 *Rx.a7 l
 |[]=>by simp[dF,hv]
 |a::l=>by have j:=y3 a;have h:=tn d l;have k:=(sO d a (bn a)).1;unfold dF Rx.a7;simp only[hv,hn,List.sum_cons]at h ⊢;omega
end
def AZ{k:Int}{lo hi:UInt8}{l:List Rx}(h:iY (.mk k lo hi l)=true):0<=k/\k<=7/\(k=6\/k=7->l.length=1)/\oo l=true:=by
 unfold iY at h
 grind
def A0:∀{l:List Rx} {a:Rx},oo l=true->a∈l->iY a=true
 |b::l,a,d,h=>by
  unfold oo at d;rw[bH]at d;rcases aq.1 h with rfl|h
  .grind
  .exact A0 d.2 h
def Cn:∀q:Rx,iY q=true->0<(bn q).length
 |.mk d lo k l=>λw=>by
  obtain⟨x,y,z,h⟩:=AZ w;have A:∀c,0<(dR c).length:=λc=>by unfold dR;grind
  unfold bn;split
  .simp
  .split
   .simp
   .split
    .grind
    .split
     .simp
     .split
      .simp
      .split
       .grind
       .rename_i j
        match l,h,j with
        |[],_,j=>grind
        |a::m,h,j=>
         have:=Cn a (A0 h ws);unfold dF;show 0<(jK _ _ _).length;have B:=(Fq d (dF (c' (.mk d lo k (a::m))+1) m) (dd (c' (.mk d lo k (a::m))+1) a (bn a))).2;have C:=(sO (c' (.mk d lo k (a::m))+1) a (bn a)).2;omega
def DR(x:I)(w:J)(G:0<=x.k)(H:x.k<=7)(C:x.P w):aj V FV #[x.v] w λr d=>r=ae (.i (c' x.rx:Int))/\af w d:=by
 have L:=I.cH C.parts.1;have K:(I.aw x.l).length=x.l.length:=by rw[I.fP,gJ]
 have D:c' x.rx=if x.k=6 then 3 else if x.k<3\/x.k=7\/x.l.length<2 then 4 else if x.k=3 then 2 else if x.k=4 then 0 else 1:=by
  rw[I.fx];unfold c'
  grind
 rw[D];have four:∀d,af w d->x.k≠6->(x.k<3\/x.k=7\/x.l.length<2)->Ev.bD d λr d=>r=ae (.i ((if x.k=6 then 3 else if x.k<3\/x.k=7\/x.l.length<2 then 4 else if x.k=3 then 2 else if x.k=4 then 0 else 1:Nat):Int))/\af w d:=λd f q F=>⟨by grind,f⟩;refine Ev.aD _ _ _ _ w _ ((g4 C).aK λb z j=>aO (λq=>⟨by grind,j.fr⟩) (λq=>aE (λA=>four z j.fr q (.inl A)) (λA=>aO (λB=>four z j.fr q (.inr (.inl B))) (λB=>aE (λE=>four z j.fr q (.inr (.inr co))) (λE=>?_)))));refine j.nw λM _ h=>?_;have y:x.k=3\/x.k=4\/x.k=5:=co
 have e:(if x.k=6 then 3 else if x.k<3\/x.k=7\/x.l.length<2 then 4 else if x.k=3 then 2 else if x.k=4 then 0 else 1:Nat)=if x.k=3 then 2 else if x.k=4 then 0 else 1:=by grind
 rw[e];rcases y with y|y|y<;>rw[y]
 .exact ⟨md,md,k8 ⟨2,h.ld 1 0,rfl,h.fr⟩⟩
 .exact ⟨md,md,k8 ⟨0,h.ld 1 1,rfl,h.fr⟩⟩
 .exact ⟨md,md,k8 ⟨1,h.ld 1 2,rfl,h.fr⟩⟩
def M0(t:BL)(h:0<t.length):gQ t (t.length - 1)=kY t:=by
 unfold gQ kY
 grind
def afh(l:List I)(i:Nat):Rx.a7 (I.aw (l.drop i))<=I.a7 l:=by
 rw[I.yy];induction l generalizing i with
 |nil=>simp
 |cons a l d=>
  cases i with
  |zero=>grind
  |succ i=>have:=d i;show _<=a.sz+I.a7 l;grind
abbrev WQ(n:Nat):Prop:=∀(x:I) (d:Nat) (w:J),x.sz<=n->d<=1000->iY x.rx=true->x.P w->aj V qC #[x.v,.i (d:Int)] w λr h=>r=ae (.string (ba (dd d x.rx (bn x.rx))))/\af w h
def Jn:∀n:Nat,n<=1000000->WQ n
 |0,_=>λx F w A _ _ _=>absurd A (by have:=I.mO x;omega)
 |n+1,hn=>by
  have ih:=Jn n co;have core:∀(x:I) (F:Nat) (w:J),x.sz<=n+1->¬c' x.rx<F->iY x.rx=true->x.P w->aj V qC #[x.v,.i (F:Int)] w λr w'=>r=ae (.string (ba (bn x.rx)))/\af w w':=by
   intro x F w A a2 Z px;have hs:=I.iI x;have hl:=I.fR x.l;have U:=I.cH px.parts.1;have aa:=Z;rw[I.fx]at aa;obtain⟨k0,k7,ay,a0⟩:=AZ aa;have ax:(I.aw x.l).length=x.l.length:=by rw[I.fP,gJ]
   rw[ax]at ay;have au:∀a∈x.l,iY a.rx=true:=λa j=>A0 a0 (by rw[I.fP];exact bK.2 ⟨a,j,rfl⟩);have aW:∀a:I,a.sz<=1000000->(bn a.rx).length<=18000000:=λa j=>by have:=y3 a.rx;rw[I.eU]at this;omega
   have ao:∀(a:I) (F:Nat),a.sz<=1000000->(dd F a.rx (bn a.rx)).length<=18000002:=λa F j=>by have D:=aW a j;have:=(sO F a.rx (bn a.rx)).1;omega
   have aI:∀c,(dR c).length<=4:=λc=>by unfold dR;split<;>simp
   let O:aJ:=λr w'=>r=ae (.string (ba (bn x.rx)))/\af w w'
   have one:∀(a:I) (ab:Nat) (H:J) (b2:Nat) (K:ByteArray->J->Prop),ab<=1000->a∈x.l->LH F0 w H [.g b2] [.tree x]->(∀B,LH F0 w B [.g b2] [.tree x]->K (ba (dd ab a.rx (bn a.rx))) B)->DZ [b2] qC #[.agg #[.i a.k,.int .u8 (a.lo.toNat:Int),.int .u8 (a.hi.toNat:Int),a.s.v],.i (ab:Int)] H K:=by intro a ab H b2 K a3 j G hK;have aq:=I.eH j;refine G.aA (ih a ab H co a3 (au a j) ((show x.P H from G.getD 0).parts.2.mem j)) ?_;rintro _ B rfl q;exact⟨_,rfl,hK B q⟩
   refine my.aD _ _ _ _ _ w _ ((g4 px).aK λb2 H G=>?_);have G:LH F0 w H [.g b2] [.tree x]:=G;refine G.aA (DR x H k0 k7 (G.getD 0)) ?_;rintro _ B rfl q;have N:bn x.rx=bn (.mk x.k x.lo x.hi (I.aw x.l)):=by rw[I.fx]
   refine⟨_,rfl,aP (aV co) (aO (λh=>⟨?_,q.fr⟩) (λQ=>aO (λh=>⟨?_,q.fr⟩) (λW=>aO (λS=>?_) (λS=>aO (λT=>?_) (λT=>aO (λY=>?_) (λY=>aE (λa1=>?_) (λa1=>?_)))))))⟩
   .rw [N];unfold bn;rw[av h];rfl
   .rw [N];unfold bn;rw[ag Q,av h];rfl
   .have e2:bn x.rx=if x.lo=x.hi then dR x.lo else 91::(dR x.lo++45::(dR x.hi++[93])):=by rw[N];unfold bn;rw[ag Q,ag W,av S]
    refine aO (λaR=>q.aA (DQ x.lo B) ?_) (λaR=>q.ai λC L=>L.aA (DQ x.lo C) ?_)
    .rintro _ z rfl y;exact⟨_,rfl,by rw[e2,av (UInt8.toNat_inj.1 co)],y.fr⟩
    .rintro _ w6 rfl H6;have D:=aI x.lo;have h2:=aI x.hi;have s0:bh #[91]++ba (dR x.lo)++bh #[45]=ba (91::dR x.lo++[45]):=by show ba [91]++ba (dR x.lo)++ba [45]=_;rw[cL,cL];rfl
     refine⟨_,rfl,?_,?_,H6.aA (DQ x.hi w6) ?_⟩
     .rw [bQ];show ¬(((1+_:Nat):Int)>9223372036854775807);omega
     .have:(bh #[91]++ba (dR x.lo)).size=1+(dR x.lo).length:=by show(ba [91]++_).size=_;rw[cL,bQ];simp;omega
      rw[this];show ¬(((_+1:Nat):Int)>9223372036854775807);omega
     rintro _ w7 rfl H7;rw[s0];have:ba (91::dR x.lo++[45]++dR x.hi)++bh #[93]=ba (91::dR x.lo++[45]++dR x.hi++[93]):=by show _++ba [93]=_;rw[cL]
     refine⟨_,rfl,?_,?_,?_,H7.fr⟩
     .rw [bQ,bQ];simp only[a9,bI,dH];show ¬((_:Int)>9223372036854775807);omega
     .rw [cL,bQ];simp only[a9,bI,dH];show ¬(((_+1:Nat):Int)>9223372036854775807);omega
     .rw [cL,this,e2,ag (λA=>aR (by rw[A]))];simp
   .have D:=ay (.inl T);have e6:bn x.rx=33::ko (dF 3 (I.aw x.l)):=by rw[N];unfold bn;rw[ag Q,ag W,ag S,av T]
    match gH:x.l,D with
    |[a],_=>
     have j:a∈x.l:=by rw[gH];simp
     have aq:=I.eH j;refine iZ (show x.P B from q.getD 0) (k:=0) rfl (by rw[gH];rfl) (one a 3 B b2 _ co j q λz y=>⟨?_,?_,y.fr⟩)
     .have:=ao a 3 co;rw[bQ];show ¬(((1+_:Nat):Int)>9223372036854775807);omega
     .have:bh #[33]++ba (dd 3 a.rx (bn a.rx))=ba (33::dd 3 a.rx (bn a.rx)):=by show ba [33]++_=_;rw[cL];rfl
      rw[this,e6,gH];rfl
   .have D:=ay (.inr Y);have e7:bn x.rx=ko (dF 4 (I.aw x.l))++[42]:=by rw[N];unfold bn;rw[ag Q,ag W,ag S,ag T,av Y]
    match gH:x.l,D with
    |[a],_=>
     have j:a∈x.l:=by rw[gH];simp
     have aq:=I.eH j;refine iZ (show x.P B from q.getD 0) (k:=0) rfl (by rw[gH];rfl) (one a 4 B b2 _ co j q λz y=>⟨?_,?_,y.fr⟩)
     .have:=ao a 4 co;rw[bQ];show ¬(((_+1:Nat):Int)>9223372036854775807);omega
     .have:ba (dd 4 a.rx (bn a.rx))++bh #[42]=ba (dd 4 a.rx (bn a.rx)++[42]):=by show _++ba [42]=_;rw[cL]
      rw[this,e7,gH];rfl
   .
    have h:x.k=3\/x.k=4\/x.k=5:=co
    have ef:bn x.rx=sy x.k++(ko (dF 0 (I.aw x.l))++[41]):=by rw[N];unfold bn;rw[ag Q,ag W,ag S,ag T,ag Y,av (by rw[ax];omega)]
    have fin:∀(t:BL) (z:J),t.length<=18000002->ko (dF 0 (I.aw x.l))=t->LH F0 w z [.g b2] [.tree x]->my.bD b2 x.k x.lo.toNat x.hi.toNat x.s (ba t) z O:=by
     intro t z ht E y;dsimp only[my.bD,ak];refine y.nw λw4 _ M=>?_;have key:∀(u:BL),u.length=4->sy x.k=u->¬((((ba u).size+(ba t).size:Nat):Int)>IntKind.i64.max)/\¬((((ba u++ba t).size+(bh #[41]).size:Nat):Int)>IntKind.i64.max)/\O (ae (.string ((ba u++ba t)++(bh #[41])))) w4:=by
      intro u hu hn;refine⟨?_,?_,?_,M.fr⟩
      .rw [bQ,bQ];show ¬((_:Int)>9223372036854775807);omega
      .rw [cL,bQ];simp only[a9];show ¬(((_+1:Nat):Int)>9223372036854775807);omega
      .have:ba u++ba t++bh #[41]=ba (u++(t++[41])):=by show _++_++ba [41]=_;rw[cL,cL];simp
       rw[this,ef,hn,E]
     rcases h with h|h|h<;>rw[h]
     .exact ⟨md,md,k8 ⟨ba [99,97,116,40],M.ld 1 0,key _ rfl (by rw[h];rfl)⟩⟩
     .exact ⟨md,md,k8 ⟨ba [97,108,116,40],M.ld 1 1,key _ rfl (by rw[h];rfl)⟩⟩
     .exact ⟨md,md,k8 ⟨ba [97,108,108,40],M.ld 1 2,key _ rfl (by rw[h];rfl)⟩⟩
    refine aO (λD=>?_) (λD=>?_)
    .match gH:x.l with
     |[]=>rw[gH]at U;simp at U;omega
     |_::_::_=>rw[gH]at U;simp at U;omega
     |[a]=>
      have j:a∈x.l:=by rw[gH];simp
      have aq:=I.eH j;refine iZ (show x.P B from q.getD 0) (k:=0) rfl (by rw[gH];rfl) (one a 0 B b2 _ co j q λz y=>?_);exact fin _ z (ao a 0 co) (by rw[gH];rfl) y
    .have:x.l=[]:=List.length_eq_zero_iff.1 co;exact fin [] B ws (by rw[this];rfl) q
   .
    have h:x.k=3\/x.k=4\/x.k=5:=co
    match gH:x.l with
    |[]=>rw[gH]at U;simp at U;omega
    |a::m=>
    have j:a∈x.l:=by rw[gH];simp
    have aq:=I.eH j;have bk:(g9 x.k).length<=1:=by unfold g9;split<;>(try split)<;>simp
    have ef:bn x.rx=jK x.k (dd (c' x.rx+1) a.rx (bn a.rx)) (dF (c' x.rx+1) (I.aw (x.l.drop 1))):=by
     have e1:bn x.rx=Ak x.k (dF (c' x.rx+1) (I.aw x.l)):=by
      conv=>lhs;rw[N];unfold bn;rw[ag Q,ag W,ag S,ag T,ag Y,ag (by rw[ax];omega)]
      rw[<-I.fx]
     rw[e1,gH];rfl
    have be:c' x.rx<=4:=by rw[I.fx];unfold c';dsimp only;repeat (first |omega|split)
    have loop:∀(d i:Nat) (out:BL) (z:J),i+d=x.l.length->1<=i->0<out.length->out.length+hv (dF (c' x.rx+1) (I.aw (x.l.drop i)))<=40000000->bn x.rx=jK x.k out (dF (c' x.rx+1) (I.aw (x.l.drop i)))->LH F0 w z [.g b2] [.tree x]->
      my.cv b2 x.k x.lo.toNat x.hi.toNat x.s (ba (g9 x.k)) (c' x.rx:Int) (ba out) (i:Int) z O:=by
     intro d;induction d with
     |zero=>
      intro i out z aZ D aS ap E y;refine my.dO _ _ _ _ _ _ _ _ _ _ _ (aP (aV co) ⟨?_,y.fr⟩);rw[E,du co];rfl
     |succ d a4=>
      intro i out z aZ D aS ap E y;have hg:x.l[i]? =some (x.l[i]'co):=a' co;have aL:x.l.drop i=(x.l[i]'co)::x.l.drop (i+1):=dw co;generalize x.l[i]'co=c at hg aL;have hc:=aG hg;have bl:=I.eH hc;rw[aL]at E ap;have ap:out.length+((dd (c' x.rx+1) c.rx (bn c.rx)).length+2+hv (dF (c' x.rx+1) (I.aw (x.l.drop (i+1)))))<=40000000:=by
       have:hv (dF (c' x.rx+1) (I.aw (c::x.l.drop (i+1))))=(dd (c' x.rx+1) c.rx (bn c.rx)).length+2+hv (dF (c' x.rx+1) (I.aw (x.l.drop (i+1)))):=by simp[I.aw,dF,hv]
       omega
      have E:bn x.rx=jK x.k ((if x.k=3/\eS (kY out)=true/\eS (gQ (dd (c' x.rx+1) c.rx (bn c.rx)) 0)=true then out++[32]else out)++g9 x.k++dd (c' x.rx+1) c.rx (bn c.rx)) (dF (c' x.rx+1) (I.aw (x.l.drop (i+1)))):=by rw[E];rfl
      have aX:0<(dd (c' x.rx+1) c.rx (bn c.rx)).length:=by have D:=Cn c.rx (au c hc);have:=(sO (c' x.rx+1) c.rx (bn c.rx)).2;omega
      have ar:ah .i64 ((c' x.rx:Int)+1)=((c' x.rx+1:Nat):Int):=bb _ co;refine my.dO _ _ _ _ _ _ _ _ _ _ _ (aM (aQ co) (iZ (show x.P z from y.getD 0) rfl hg ?_));rw[ar];refine one c (c' x.rx+1) z b2 _ co hc y λw4 M=>?_;generalize dd (c' x.rx+1) c.rx (bn c.rx)=t at E ap aX;have go:∀(o:BL) (C:J),o.length<=out.length+1->out.length<=o.length->o.length+(g9 x.k).length<=out.length+1->bn x.rx=jK x.k (o++g9 x.k++t) (dF (c' x.rx+1) (I.aw (x.l.drop (i+1))))->LH F0 w C [.g b2] [.tree x]->
        my.cb b2 x.k x.lo.toNat x.hi.toNat x.s (ba (g9 x.k)) (c' x.rx:Int) (ba o) (i:Int) (ba t) C O:=by
       intro o C bg bi bj aY L;refine⟨?_,?_,?_⟩
       .rw [bQ,bQ];show ¬((_:Int)>9223372036854775807);omega
       .rw [cL,bQ,bQ];simp only[a9];show ¬((_:Int)>9223372036854775807);omega
       .show my.cv _ _ _ _ _ _ _ _ _ _ _;rw[cL,cL,bb _ co];refine a4 (i+1) (o++g9 x.k++t) C co co (by simp only[a9];omega) (by simp only[a9];omega) aY L
      have az:∀C,LH F0 w C [.g b2] [.tree x]->¬(x.k=3/\eS (kY out)=true/\eS (gQ t 0)=true)->my.cb b2 x.k x.lo.toNat x.hi.toNat x.s (ba (g9 x.k)) (c' x.rx:Int) (ba out) (i:Int) (ba t) C O:=λC L A=>go out C co co co (by rw[ag A]at E;exact E) L;have eo:ah .i64 ((((ba out).size:Nat):Int) - 1)=((out.length - 1:Nat):Int):=by rw[bQ,aN _ co];omega
      rw[eo];refine aO (λal=>⟨co,kY out,?_,M.aA (JH (kY out) w4) ?_⟩) (λal=>az w4 M (λA=>al A.1))
      .rw [bo,gN (s:=ba out) (by rw[bQ];omega),gC,M0 out aS]
      rintro _ C rfl L;refine⟨_,rfl,bP (λam=>⟨co,gQ t 0,?_,L.aA (JH (gQ t 0) C) ?_⟩) (λam=>az C L (λA=>by rw[A.2.1]at am;cases am))⟩
      .rw [show a5 0=0 from rfl,gN (s:=ba t) (by rw[bQ];omega),gC]
      rintro _ w6 rfl H6;have s3:(g9 x.k).length=0:=by unfold g9;rw[av al];rfl
      refine⟨_,rfl,bP (λan=>⟨?_,?_⟩) (λan=>az w6 H6 (λA=>by rw[A.2.2]at an;cases an))⟩
      .rw [bQ];show ¬(((_+1:Nat):Int)>9223372036854775807);omega
      .have aU:ba out++bh #[32]=ba (out++[32]):=by show _++ba [32]=_;rw[cL]
       rw[aU];refine go (out++[32]) w6 ws ws (by simp;omega) ?_ H6;rw[av ⟨al,am,an⟩]at E;exact E
    refine q.nw λaB _ ad=>?_;have aF:LH F0 w aB [.g b2] [.tree x]:=ad.take 1;have rest:∀(u:BL),g9 x.k=u->YY [b2] FV #[.agg #[.i x.k,.int .u8 (x.lo.toNat:Int),.int .u8 (x.hi.toNat:Int),x.s.v]] aB λt90 ac=>fo x.s 0 λa6=>gi ac (a6.add (a5 0 *4)) λa7 a8 bc bd=>DZ [b2] qC #[.agg #[.i a7,.int .u8 a8,.int .u8 bc,bd.v],.i (ah .i64 (t90+1))] ac λt97 aC=>my.cv b2 x.k x.lo.toNat x.hi.toNat x.s (ba u) t90 t97 1 aC O:=by
     intro u hu;refine aF.aA (DR x aB k0 k7 (aF.getD 0)) ?_;rintro _ ac rfl aH;refine⟨_,rfl,iZ (show x.P ac from aH.getD 0) (k:=0) rfl (by rw[gH];rfl) ?_⟩;have ar:ah .i64 ((c' x.rx:Int)+1)=((c' x.rx+1:Nat):Int):=bb _ co;rw[ar];refine one a (c' x.rx+1) ac b2 _ co j aH λaC aT=>?_;rw[<-hu];refine loop (x.l.length - 1) 1 _ aC co co ?_ ?_ ef aT
     .have D:=Cn a.rx (au a j);have:=(sO (c' x.rx+1) a.rx (bn a.rx)).2;omega
     .have D:=ao a (c' x.rx+1) co;have h2:=tn (c' x.rx+1) (I.aw (x.l.drop 1));have h3:=afh x.l 1;omega
    rcases h with h|h|h
    .exact ⟨by rw[h];decide,by rw[h];decide,k8 ⟨ba [],by rw[h];exact ad.ld 1 0,rest _ (by rw[h];rfl)⟩⟩
    .exact ⟨by rw[h];decide,by rw[h];decide,k8 ⟨ba [124],by rw[h];exact ad.ld 1 1,rest _ (by rw[h];rfl)⟩⟩
    .exact ⟨by rw[h];decide,by rw[h];decide,k8 ⟨ba [38],by rw[h];exact ad.ld 1 2,rest _ (by rw[h];rfl)⟩⟩
  intro x F w A a2 Z px;by_cases hb:c' x.rx<F
  .have aa:=Z;rw[I.fx]at aa;obtain⟨k0,k7,_,_⟩:=AZ aa;refine my.aD _ _ _ _ _ w _ ((g4 px).aK λb2 H G=>G.aA (DR x H k0 k7 (G.getD 0)) ?_);rintro _ B rfl q;refine⟨_,rfl,aM (aQ co) (q.aA (core x 0 B A co Z (q.getD 0)) ?_)⟩;rintro _ z rfl y;have bf:(bn x.rx).length<=18000000:=by have:=y3 x.rx;rw[I.eU]at this;omega
   have e:bh #[40]++ba (bn x.rx)++bh #[41]=ba (40::(bn x.rx++[41])):=by show ba [40]++ba (bn x.rx)++ba [41]=_;rw[cL,cL];simp
   refine⟨_,rfl,?_,?_,?_,y.fr⟩
   .rw [bQ];show ¬(((1+_:Nat):Int)>9223372036854775807);omega
   .have:(bh #[40]++ba (bn x.rx)).size=1+(bn x.rx).length:=by show(ba [40]++_).size=_;rw[cL,bQ];simp;omega
    rw[this];show ¬(((_+1:Nat):Int)>9223372036854775807);omega
   .rw [e];unfold dd;rw[av hb]
  .have:=core x F w A hb Z px;have e:dd F x.rx (bn x.rx)=bn x.rx:=by unfold dd;rw[ag hb]
   rw[e];exact this
def Jm(x:I)(d:Nat)(w:J)(h:x.sz<=1000000)(j:d<=1000)(k:iY x.rx=true)(q:x.P w):aj V qC #[x.v,.i (d:Int)] w λr y=>r=ae (.string (ba (dd d x.rx (bn x.rx))))/\af w y:=Jn 1000000 (bm _) x d w h j k q
def ac0{s:BL}{x:Rx}{a:Nat}{e:Int}(h:vk s=some (x,a,e)):x.sz<=1000000:=by
 unfold vk at h;split at h
 .simp only[fq,eW]at h;rw[<-h.1];decide
 .dsimp only at h;split at h
  .split at h
   .simp only[fq,eW]at h;rw[<-h.1];decide
   .split at h
    .cases h
    .split at h
     .simp only[fq,eW]at h;rw[<-h.1];decide
     .simp only[fq,eW]at h;rw[<-h.1];omega
  .cases h
def XG(s:ByteArray)(Q:s.size<=100000)(b:Bool)(d:uk (bl s)=some b)(w:J):aj V N2 #[.string s] w λr Y=>r=ae (.bool b)/\af w Y:=by
 unfold uk at d;cases q:vk (bl s)with
 |none=>rw[q]at d;cases d
 |some aa=>
  obtain⟨Z,a,e⟩:=aa;rw[q]at d;dsimp only at d;have S:=ac0 q;have K:LH F0 w w [] []:=bN [] ws;refine KK.aD _ w _ (K.zJ (Yu s Q Z a e q w) ?_);rintro _ w1 ⟨t,rfl,z,T,O⟩ _ H;have L:=H.rd (.tree t) T λb h=>O b (a0.1 h);have W:t.sz<=1000000:=by rw[<-I.eU,z];exact S
  refine⟨_,_,_,t.s,_,_,rfl,L.aK λb3 w2 A=>dA (λx=>A.ai λF j=>⟨?_,j.fr⟩) (λx=>A.ai λF j=>?_)⟩
  .rw [ag x]at d;cases d;rfl
  rw[av x]at d;refine hF ((Yz t F W (j.getD 0)).mono ?_);rintro _ w4 ⟨⟨u,rfl,E,U,P⟩,C⟩;have M:=j.gz (.tree u) C U λb h=>(P b (a0.1 h)).imp id λh=>.inr ⟨_,aG (i:=0) rfl,a0.2 h⟩;rw[z]at E;refine⟨C,_,_,_,u.s,_,rfl,M.aK λb6 w5 B=>?_⟩;rw[z];refine aO (λy=>B.ai λG k=>?_) (λy=>B.ai λG k=>⟨?_,k.fr⟩)
  .rw [av y]at d;split at d
   .rename_i D;rw[<-E]at D d;refine k.aA (Jm u 0 G (by rw[<-I.eU];omega) co D.1 (k.getD 1)) ?_;rintro _ w7 rfl N;refine⟨_,rfl,?_,N.fr⟩;cases d;congr 2;have:=ud (dd 0 u.rx (bn u.rx)) (bl s);rw[jk]at this;exact this
   .cases d
  .rw [ag y]at d;cases d;rfl
abbrev vM(k:Sl)(ks:List bA):En:=.bd 3 k (ks.flatMap gP)
def Nc{w:J}{k:Sl}{ks:List bA}(h:bL 3 w k (ks.flatMap gP)):LH F0 w w [] [vM k ks]:=bN _ (by intro e d;simp only[aq,aL,aR]at d;subst d;exact h)
def Yd{w:J}{k:Sl}{ks:List bA}{x y z:bA}(op:Int)(h:bL 3 w k (ks.flatMap gP))(hx:ks[0]? =some x)(B:2<=dk op->ks[1]? =some y)(I:dk op=3->ks[2]? =some z)(h4:4<=op)(ag:op<=34):
  aj V OE #[.i op,k.v] w λr w'=>r=ae (.bool (dB op x y z))/\af w w':=by
 refine Ew.aD _ _ w _ (eL h (rfl:(0:Int)=((0:Nat):Int)) hx λp0 ak Z=>⟨x.k,x.n,x.x,Z.c0,Z.c1,Z.c2,(Nc h).aK λb5 w1 H1=>?_⟩);have main:∀(a:Bool) (O:J),a=eD x->LH F0 w O [.g b5] [vM k ks]->Ew.bD op k b5 x.k x.n x.x (x.k==0) (x.k==1) a O λr w'=>r=ae (.bool (dB op x y z))/\af w w':=by
  rintro a O ha d;have A:∀{E:J} {L:List En},LH F0 w E L [vM k ks]->bL 3 E k (ks.flatMap gP):=λad=>ad.getD 0;have D:(1:Int)=((1:Nat):Int):=rfl;have M:(2:Int)=((2:Nat):Int):=rfl;rcases vh co ag with rfl|rfl|rfl|rfl|rfl|rfl|rfl|rfl|rfl|rfl|rfl|rfl|rfl|rfl|rfl|rfl|rfl|rfl|rfl|rfl|rfl|rfl|rfl|rfl|rfl|rfl|rfl|rfl|rfl|rfl|rfl|rfl|rfl|rfl|rfl
  iterate 4 omega
  all_goals repeat (first |refine aP rfl ?_|refine aM rfl ?_)
  all_goals first |(have B:=B md)|skip
  all_goals first |(have I:=I md)|skip
  iterate 2 exact⟨rfl,d.fr⟩
  iterate 12
   .refine aO (λj=>?_) (λj=>d.ai λE q=>⟨?_,q.fr⟩)
    .refine eL (A d) D B λp H _=>d.ai λE q=>?_;have c:=gv (A q) D B H;refine⟨_,_,_,c.c0,c.c1,c.c2,?_,q.fr⟩;rw[lg];show _=Ending.returned (.bool (x.k==0&&au (x=y)));rw[j];rfl
    .show _=Ending.returned (.bool (x.k==0&&au (x=y)));rw[beq_eq_false_iff_ne.2 j];rfl
  .refine eL (A d) D B λp H _=>d.ai λE q=>?_;have c:=gv (A q) D B H;have F:dB 18 x y z=(au (x=y)||(x.k==1&&y.k==1)):=rfl;rw[F];refine⟨_,_,_,c.c0,c.c1,c.c2,oG (λK=>⟨by rw[aQ K];rfl,q.fr⟩) (λK=>?_)⟩;rw[aV K,Bool.false_or];refine aO (λj=>eL (A q) D B λp' _ Y=>⟨_,Y.c0,?_,q.fr⟩) (λj=>⟨?_,q.fr⟩)
   .rw [j];rfl
   .rw [beq_eq_false_iff_ne.2 j];rfl
  .refine d.ai λE q=>q.aA (fI 1 E) ?_;rintro _ U rfl C;have F:dB 19 x y z=(au (x=bM 1)&&(au (y=z)||(y.k==1&&z.k==1))):=rfl;rw[F];refine⟨_,_,_,rfl,oG (b:=bM 1) (λK=>?_) (λK=>⟨by rw[aV K];rfl,C.fr⟩)⟩;rw[aQ K,Bool.true_and];refine eL (A C) D B λp _ c=>⟨_,_,_,c.c0,c.c1,c.c2,eL (A C) M I λac _ G=>⟨_,_,_,G.c0,G.c1,G.c2,oG (λh2=>⟨by rw[aQ h2];rfl,C.fr⟩) (λh2=>?_)⟩⟩;rw[aV h2,Bool.false_or];refine eL (A C) D B λp' _ Y=>⟨_,Y.c0,aO (λj=>eL (A C) M I λq' _ d'=>⟨_,d'.c0,?_,C.fr⟩) (λj=>⟨?_,C.fr⟩)⟩
   .rw [j];rfl
   .rw [beq_eq_false_iff_ne.2 j];rfl
  .have F:dB 20 x y z=(x.k==0&&y.k==0):=rfl;rw[F];refine aO (λj=>eL (A d) D B λp _ c=>⟨_,c.c0,?_,d.fr⟩) (λj=>⟨?_,d.fr⟩)
   .rw [j];rfl
   .rw [beq_eq_false_iff_ne.2 j];rfl
  iterate 3 exact⟨rfl,d.fr⟩
  .have F:dB 24 x y z=(eD x&&au (y=bM x.x)):=rfl;rw[F,<-ha];refine bP (λT=>?_) (λQ=>d.ai λE q=>⟨by rw[Q];rfl,q.fr⟩);refine eL (A d) D B λp H _=>d.ai λE q=>?_;have c:=gv (A q) D B H;refine⟨_,_,_,c.c0,c.c1,c.c2,q.aA (fI x.x E) ?_⟩;rintro _ U rfl C;have G:=gv (A C) D B H;refine⟨_,_,_,rfl,G.c0,G.c1,G.c2,?_,C.fr⟩;rw[T,Bool.true_and];exact congrArg (λb=>Ending.returned (.bool b)) (lg y (bM x.x))
  .have F:dB 25 x y z=(eD x&&au (y=bM x.x)&&(au (z=iz x)||(x.k==3&&z.k==1&&au (z.n<=x.n)))):=rfl;rw[F,<-ha];refine dW (λQ=>d.ai λE q=>⟨by rw[Q];rfl,q.fr⟩) (λT=>?_);rw[T,Bool.true_and];refine eL (A d) D B λp H _=>d.ai λE q=>?_;have c:=gv (A q) D B H;refine⟨_,_,_,c.c0,c.c1,c.c2,q.aA (fI x.x E) ?_⟩;rintro _ U rfl C;have G:=gv (A C) D B H;refine⟨_,_,_,rfl,G.c0,G.c1,G.c2,By (a:=y) (b:=bM x.x) (λS=>⟨by rw[aV S];rfl,C.fr⟩) (λah=>?_)⟩;rw[aQ ah,Bool.true_and];refine eL (A C) M I λac W _=>C.ai λw5 P=>?_;have c5:=gv (A P) M I W;refine⟨_,_,_,c5.c0,c5.c1,c5.c2,P.aA (G7 x w5) ?_⟩;rintro _ w6 rfl N;have d6:=gv (A N) M I W;refine⟨_,_,_,rfl,d6.c0,d6.c1,d6.c2,oG (a:=z) (b:=iz x) (λK=>⟨by rw[aQ K];rfl,N.fr⟩) (λS=>?_)⟩;rw[aV S,Bool.false_or];refine aO (λj=>eL (A N) M I λq' _ d'=>⟨_,d'.c0,aO (λab=>eL (A N) M I λq2 _ d2=>⟨_,d2.c1,?_,N.fr⟩) (λab=>⟨?_,N.fr⟩)⟩) (λj=>⟨?_,N.fr⟩)
   .rw [j,ab];rfl
   .rw [beq_eq_false_iff_ne.2 ab,Bool.and_false];rfl
   .rw [beq_eq_false_iff_ne.2 j];rfl
  .have F:dB 26 x y z=(eD x&&au (x=y)):=rfl;rw[F,<-ha];refine bP (λT=>?_) (λQ=>d.ai λE q=>⟨by rw[Q];rfl,q.fr⟩);refine eL (A d) D B λp H _=>d.ai λE q=>?_;have c:=gv (A q) D B H;refine⟨_,_,_,c.c0,c.c1,c.c2,?_,q.fr⟩;rw[lg,T];rfl
  iterate 2 exact⟨rfl,d.fr⟩
  .have F:dB 29 x y z=(x.k==1&&y.k==1):=rfl;rw[F];refine aO (λj=>eL (A d) D B λp _ c=>⟨_,c.c0,?_,d.fr⟩) (λj=>⟨?_,d.fr⟩)
   .rw [j];rfl
   .rw [beq_eq_false_iff_ne.2 j];rfl
  .have F:dB 30 x y z=(x.k==1&&au (y=bM 7)&&au (z=bM 7)):=rfl;rw[F];refine aO (λj=>?_) (λj=>d.ai λE q=>⟨by rw[beq_eq_false_iff_ne.2 j];rfl,q.fr⟩);rw[j];refine eL (A d) D B λp H _=>d.ai λE q=>?_;have c:=gv (A q) D B H;refine⟨_,_,_,c.c0,c.c1,c.c2,q.aA (fI 7 E) ?_⟩;rintro _ U rfl C;have G:=gv (A C) D B H;refine⟨_,_,_,rfl,G.c0,G.c1,G.c2,oG (a:=y) (b:=bM 7) (λK=>?_) (λS=>⟨by rw[aV S];rfl,C.fr⟩)⟩;rw[aQ K];refine eL (A C) M I λac W c4=>⟨_,_,_,c4.c0,c4.c1,c4.c2,C.aA (fI 7 U) ?_⟩;rintro _ w5 rfl P;have d5:=gv (A P) M I W;exact⟨_,_,_,rfl,d5.c0,d5.c1,d5.c2,congrArg (λb=>Ending.returned (.bool b)) (lg z (bM 7)),P.fr⟩
  .have F:dB 31 x y z=(x.k==1&&y.k==1):=rfl;rw[F];refine aO (λj=>eL (A d) D B λp _ c=>⟨_,c.c0,?_,d.fr⟩) (λj=>⟨?_,d.fr⟩)
   .rw [j];rfl
   .rw [beq_eq_false_iff_ne.2 j];rfl
  .have F:dB 32 x y z=(x.k==1&&y.k==1&&z.k==1):=rfl;rw[F];refine aO (λj=>eL (A d) D B λp _ c=>⟨_,c.c0,aO (λaa=>eL (A d) M I λac _ G=>⟨_,G.c0,?_,d.fr⟩) (λaa=>⟨?_,d.fr⟩)⟩) (λj=>⟨?_,d.fr⟩)
   .rw [j,aa];rfl
   .rw [beq_eq_false_iff_ne.2 aa,Bool.and_false];rfl
   .rw [beq_eq_false_iff_ne.2 j];rfl
  .exact ⟨rfl,d.fr⟩
  .refine d.ai λE q=>q.aA (fI 8 E) ?_;rintro _ U rfl C;exact⟨_,_,_,rfl,congrArg (λb=>Ending.returned (.bool b)) (lg x (bM 8)),C.fr⟩
 refine aO (λj=>H1.ai λO d=>main true O ?_ d) (λj=>H1.ai λO d=>main _ O ?_ d)
 .unfold eD;rw[j];rfl
 .unfold eD;rw[beq_eq_false_iff_ne.2 j];rfl
def Da(n:Nx)(x y z:bA):cE->Prop:=λr=>∃(t:bA) (b:Bool),r=ae (.tuple #[ee t,.bool b])/\b=k' n x y z/\(b=true->t=ie n x y z)
def YC{w:J}{k:Sl}{ks:List bA}{x y z:bA}(d:Nd)(h:bL 3 w k (ks.flatMap gP))(hx:ks[0]? =some x)(F:2<=dk d.x.op->ks[1]? =some y)(N:dk d.x.op=3->ks[2]? =some z)(h4:4<=d.x.op)(ac:d.x.op<=34)(vx:cm x=true)(vy:2<=dk d.x.op->cm y=true)(vz:dk d.x.op=3->cm z=true)(hn:aX d.x.n)(hm:aX d.x.m):
  aj V OI #[d.v,k.v] w λr W=>Da d.x x y z r/\af w W:=by
 obtain⟨x1,x2,x3,x4,_⟩:=mR vx;obtain⟨an,ao⟩:=hn;obtain⟨al,am⟩:=hm;refine z3.aD _ _ _ _ _ _ _ _ _ _ w _ ((Nc h).aK λb2 w1 H1=>H1.aK λZ w2 H2=>eL (H2.getD 0) (rfl:(0:Int)=((0:Nat):Int)) hx λp0 aq aa=>⟨x.k,x.n,x.x,aa.c0,aa.c1,aa.c2,H2.aK λb6 w3 U=>?_⟩);have C:∀{w3:J} {L:List En},LH F0 w w3 L [vM k ks]->bL 3 w3 k (ks.flatMap gP):=λad=>ad.getD 0;have G:(1:Int)=((1:Nat):Int):=rfl;have T:(2:Int)=((2:Nat):Int):=rfl;obtain⟨⟨op,kids,n,m,u,tx,st⟩,ap⟩:=d;simp only at F N h4 ac vy vz an ao al am;have S1:∀D:J,op≠16->op≠17->op≠18->op≠33->LH F0 w D [.g b2,.g Z,.g b6] [vM k ks]->z3.bW k b2 op ap n m u tx st.k st.n st.x Z 0 0 0 b6 x.k x.n x.x op D λr W=>Da ⟨op,kids,n,m,u,tx,st⟩ x y z r/\af w W:=by
  intro D n1 n2 n3 n4 q;rcases vh co ac with rfl|rfl|rfl|rfl|rfl|rfl|rfl|rfl|rfl|rfl|rfl|rfl|rfl|rfl|rfl|rfl|rfl|rfl|rfl|rfl|rfl|rfl|rfl|rfl|rfl|rfl|rfl|rfl|rfl|rfl|rfl|rfl|rfl|rfl|rfl
  iterate 4 omega
  all_goals repeat (first |refine aP rfl ?_|refine aM rfl ?_)
  all_goals first |(have F:=F md)|skip
  all_goals first |(have N:=N md)|skip
  all_goals first |(have vy:=mR (vy md))|skip
  all_goals first |(have vz:=mR (vz md))|skip
  iterate 12 exact q.ai λE j=>⟨⟨x,true,rfl,rfl,λ_=>rfl⟩,j.fr⟩
  iterate 3 omega
  .refine eL (C q) G F λp P c=>⟨_,c.c0,aO (λhk=>?_) (λhk=>?_)⟩
   .refine eL (C q) G F λp P _=>q.ai λE j=>?_;have Q:=gv (C j) G F P;refine⟨_,Q.c1,eL (C j) T N λab I S=>⟨_,S.c1,j.aA (oY _ E) ?_⟩⟩;rintro _ K rfl A;refine⟨_,_,_,rfl,A.ai λO B=>⟨⟨_,true,rfl,rfl,λ_=>?_⟩,B.fr⟩⟩;show _=if y.k=1 then _ else _;rw[av hk]
   .refine eL (C q) G F λp P c'=>⟨_,_,_,c'.c0,c'.c1,c'.c2,q.ai λE j=>⟨⟨y,true,rfl,rfl,λ_=>?_⟩,j.fr⟩⟩;show _=if y.k=1 then _ else _;rw[ag hk]
  .refine eL (C q) G F λp P _=>q.ai λE j=>?_;have Q:=gv (C j) G F P;refine⟨_,Q.c1,eL (C j) G F λab I _=>?_⟩;have S:=gv (C j) G F I;refine⟨_,S.c1,j.aA (fI _ E) ?_⟩;rintro _ K rfl A;refine⟨_,_,_,rfl,(gv (C A) G F I).c1,A.ai λO B=>⟨(gv (C B) G F I).c1,⟨_,_,rfl,?_,λ_=>?_⟩,B.fr⟩⟩
   .rw [aN _ co];rfl
   .show bM _=bM (x.n+y.n);rw[aN _ co]
  .refine q.ai λE j=>j.aA (fI _ E) ?_;rintro _ K rfl A;have hr:k' ⟨21,kids,n,m,u,tx,st⟩ x y z=(au (0<=m)&&au (m<=n)&&au (n<x.n)):=rfl;refine⟨_,_,_,rfl,aE (λM=>aE (λg2=>A.ai λO B=>⟨⟨_,_,rfl,?_,λH=>?_⟩,B.fr⟩) (λg2=>A.ai λO B=>⟨⟨_,false,rfl,?_,λH=>by cases H⟩,B.fr⟩)) (λM=>A.ai λO B=>⟨⟨_,false,rfl,?_,λH=>by cases H⟩,B.fr⟩)⟩
   .rw [hr,aQ (show 0<=m from M),aQ g2];rfl
   .have H:=eP H;show bM _=bM (n - m+1);rw[aN (n - m) co,aN _ co]
   .rw [hr,aV g2,Bool.and_false];rfl
   .rw [hr,aV (show ¬0<=m from M)];rfl
  iterate 2
   .refine q.ai λE j=>j.aA (fI _ E) ?_;rintro _ K rfl A;have ae:ah .i64 (64 - x.n)=64 - x.n:=aN _ co;rw[ae];refine⟨_,_,_,rfl,aE (λM=>A.ai λO B=>⟨⟨_,_,rfl,?_,λH=>?_⟩,B.fr⟩) (λM=>A.ai λO B=>⟨⟨_,false,rfl,?_,λH=>by cases H⟩,B.fr⟩)⟩
    .show _=(au (1<=n)&&au (n<=64 - x.n));rw[aQ (show 1<=n from M)];rfl
    .have H:=eP H;show bM _=bM (x.n+n);rw[aN _ co]
    .show _=(au (1<=n)&&au (n<=64 - x.n));rw[aV (show ¬1<=n from M)];rfl
  .refine q.aA (G7 x D) ?_;rintro _ E rfl j;exact⟨_,_,_,rfl,j.ai λK A=>⟨⟨_,true,rfl,rfl,λ_=>rfl⟩,A.fr⟩⟩
  .exact q.ai λE j=>⟨⟨x,true,rfl,rfl,λ_=>rfl⟩,j.fr⟩
  .refine q.aA (fI _ D) ?_;rintro _ E rfl j;exact⟨_,_,_,rfl,j.ai λK A=>⟨⟨_,true,rfl,rfl,λ_=>rfl⟩,A.fr⟩⟩
  .refine q.aA (fI _ D) ?_;rintro _ E rfl j;exact⟨_,_,_,rfl,j.ai λK A=>⟨⟨_,true,rfl,rfl,λ_=>rfl⟩,A.fr⟩⟩
  .refine q.ai λE j=>j.aA (fI _ E) ?_;rintro _ K rfl A;refine⟨_,_,_,rfl,aE (λM=>A.ai λO B=>⟨⟨_,_,rfl,?_,λH=>rfl⟩,B.fr⟩) (λM=>A.ai λO B=>⟨⟨_,false,rfl,?_,λH=>by cases H⟩,B.fr⟩)⟩
   .show _=(au (0<=n)&&au (n<=63));rw[aQ (show 0<=n from M)];rfl
   .show _=(au (0<=n)&&au (n<=63));rw[aV (show ¬0<=n from M)];rfl
  .refine eL (C q) G F λp P _=>q.ai λE j=>?_;have Q:=gv (C j) G F P;refine⟨_,Q.c1,eL (C j) G F λab I _=>?_⟩;have S:=gv (C j) G F I;refine⟨_,S.c1,j.aA (oY _ E) ?_⟩;rintro _ K rfl A;refine⟨_,_,_,rfl,(gv (C A) G F I).c1,A.ai λO B=>⟨(gv (C B) G F I).c1,⟨_,_,rfl,?_,λ_=>?_⟩,B.fr⟩⟩
   .rw [aN _ co];rfl
   .show fk _=fk (x.n+y.n);rw[aN _ co]
  .exact q.ai λE j=>⟨⟨x,true,rfl,rfl,λ_=>rfl⟩,j.fr⟩
  .refine q.aA (fI _ D) ?_;rintro _ E rfl j;exact⟨_,_,_,rfl,j.ai λK A=>⟨⟨_,true,rfl,rfl,λ_=>rfl⟩,A.fr⟩⟩
  .refine eL (C q) T N λp P _=>q.ai λE j=>?_;have Q:=gv (C j) T N P;refine⟨_,Q.c1,eL (C j) T N λab I _=>?_⟩;have S:=gv (C j) T N I;refine⟨_,S.c1,j.aA (oY _ E) ?_⟩;rintro _ K rfl A;refine⟨_,_,_,rfl,(gv (C A) T N I).c1,A.ai λO B=>⟨(gv (C B) T N I).c1,⟨_,_,rfl,?_,λ_=>?_⟩,B.fr⟩⟩
   .rw [aN _ co];rfl
   .show fk _=fk (x.n+z.n);rw[aN _ co]
  .omega
  .refine q.aA (oY _ D) ?_;rintro _ E rfl j;exact⟨_,_,_,rfl,j.ai λK A=>⟨⟨_,true,rfl,rfl,λ_=>rfl⟩,A.fr⟩⟩
 have Y:∀D:J,(op=16\/op=17\/op=18\/op=33)->LH F0 w D [.g b2,.g Z,.g b6] [vM k ks]->z3.bD Z 0 0 0 D λr W=>Da ⟨op,kids,n,m,u,tx,st⟩ x y z r/\af w W:=by
  intro D ho q;refine q.aA (fI 1 D) ?_;rintro _ E rfl j;refine⟨_,_,_,rfl,j.ai λK A=>⟨⟨_,true,rfl,?_,λ_=>?_⟩,A.fr⟩⟩
  .rcases ho with rfl|rfl|rfl|rfl<;>rfl
  .rcases ho with rfl|rfl|rfl|rfl<;>rfl
 exact aO (λh=>aM (beq_iff_eq.2 h) (U.ai λD q=>Y D (.inl h) q)) λh1=>aO (λh=>aM (beq_iff_eq.2 h) (U.ai λD q=>Y D (.inr (.inl h)) q)) λh2=>aO (λh=>aM (beq_iff_eq.2 h) (U.ai λD q=>Y D (.inr (.inr (.inl h))) q)) λh3=>aO (λh=>U.ai λD q=>Y D (.inr (.inr (.inr h))) q) λak=>U.ai λD q=>S1 D h1 h2 h3 ak q
def Zs:gW V afM cA (.agg #[.int .i64 0,.int .i64 0,.int .i64 0]) 3 24:=⟨by kernel_rfl,by kernel_rfl,rfl,md,md⟩
def zn(t:ByteArray):Prop:=t.size<=100000/\uk (bl t)=some (oZ t)
def zn.can{t:ByteArray}(h:zn t):uk (bl t)=some (oZ t):=h.2
structure p9(d:Nx):Prop where
 kl:d.kids.length<=fA
 n:aX d.n
 m:aX d.m
 tx:d.op=33->zn d.tx
structure y'(g:List Nx):Prop where
 len:g.length<=fA
 val:∀d∈g,cm d.st=true
 vars:zo g
def aa4{l:List Nd}{n:Nx}{i:Nat}{k:Int}{e:Nd}(h:n.kids[i]? =some k)(d:l[k.toNat]? =some e):ck (xs l) n i=e.x.st:=by unfold ck;rw[h];dsimp only;rw[y4 d]
def adv(i:Nat)(f:Nat->bA):((List.range (i+1)).map f).flatMap gP=((List.range i).map f).flatMap gP++gP (f i):=by rw[List.range_succ];simp
def aa0{op:Int}{m:Nat}(h:dk op=(m:Int))(d:m≠0):4<=op/\op<=34:=by
 unfold dk at h;split at h
 .omega
 .split at h
  .omega
  .omega
def aa2{op:Int}(h:dk op=0):0<=op/\op<=3:=by
 unfold dk at h;split at h
 .omega
 .split at h
  .omega
  .split at h
   .omega
   .split at h<;>omega
def ZS{g:List Nx}{n:Nx}(h:oc g n=0):(dk n.op==(n.kids.length:Int)&&n.kids.all (fL g)&&jR n)=true:=by
 unfold oc at h;split at h
 .assumption
 .omega
def aa9{g:List Nx}{n:Nx}(q:∀j∈g,cm j.st=true)(k:n.kids.all (fL g)=true){i:Nat}(hi:i<n.kids.length):cm (ck g n i)=true:=by
 have d:=fa.1 k _ (List.getElem_mem hi);unfold fL at d;simp only[bH,decide_eq_true_eq]at d;unfold ck;rw[a' hi];dsimp only;have h:(n.kids[i]).toNat<g.length:=co
 rw[a' h];exact q _ (List.getElem_mem h)
def Jj{w:J}{s:Sl}{l:List Nd}{d:Nd}(h:GP w s l)(hd:d.P w)(hg:y' (xs l))(T:p9 d.x):
  aj V OB #[s.v,d.v] w λr N=>r=gO (cI (xs l) d.x)/\af w N:=by
 have hn:=iU h;have ay:(xs l).length=l.length:=by simp[xs]
 have aB:d.ks.n=d.x.kids.length:=bq.len hd;have hl:=hg.len;have hk:=T.kl;rw[ay]at hl;refine uL.aD _ _ _ _ _ _ _ _ _ _ w _ ((xR h hd).aK λb3 w1 H1=>H1.aK λI w2 W=>W.aA (Yc (ct.1 (W.getD 0)) (W.getD 1) hk) ?_);rintro _ w3 rfl G;refine⟨_,rfl,dA (λae=>G.ai λy j=>⟨?_,j.fr⟩) (λh0=>?_)⟩
 .unfold cI;unfold oc at ae ⊢;split
  .rename_i q;rw[av q]at ae;exact absurd rfl ae
  .rename_i q;rw[jB]at q;rw[q];rfl
 have M:=ZS h0;have au:dk d.x.op=(d.x.kids.length:Int):=by simp only[bH]at M;exact eq_of_beq M.1.1
 have am:d.x.kids.all (fL (xs l))=true:=by simp only[bH]at M;exact M.1.2
 have A:cI (xs l) d.x=if d.x.op<=3 then cR (xs l) d.x else
   if dB d.x.op (ck (xs l) d.x 0) (ck (xs l) d.x 1) (ck (xs l) d.x 2)=false then(dq,9)else
   if k' d.x (ck (xs l) d.x 0) (ck (xs l) d.x 1) (ck (xs l) d.x 2)=false then(dq,5)else
   if d.x.op=33/\oZ d.x.tx=false then(dq,2)else(ie d.x (ck (xs l) d.x 0) (ck (xs l) d.x 1) (ck (xs l) d.x 2),0):=by unfold cI;rw[M];rfl
 refine aO (λaw=>?_) (λaw=>?_)
 .have hz:=aa2 (op:=d.x.op) co;refine G.aA (Yn (ct.1 (G.getD 0)) (G.getD 1) hl hz.1 hz.2 hg.vars) ?_;rintro _ y rfl j;refine⟨_,_,_,_,rfl,j.ai λU D=>⟨?_,D.fr⟩⟩;rw[A,av hz.2]
 have Q:=aa0 (op:=d.x.op) au co;rw[ag co]at A;unfold fA at hk hl;have loop:∀(m i:Nat) (E:Sl) (y:J),i+m=d.x.kids.length->LH F0 w y [.g b3,.g I,.row cA 3 E (((List.range i).map (ck (xs l) d.x)).flatMap gP)] (mI s l d)->
   uL.a8 s b3 d.x.op d.ks d.x.n d.x.m d.x.u d.x.tx d.x.st.k d.x.st.n d.x.st.x I 0 0 0 E (i:Int) y λr N=>r=gO (cI (xs l) d.x)/\af w N:=by
  intro m;induction m with
  |zero=>
   intro i E y hi j;have hi:i=d.x.kids.length:=co
   subst hi;have R4:bL 3 y E (((List.range d.x.kids.length).map (ck (xs l) d.x)).flatMap gP):=(j.get 2:aF _ _ _ _ _).bd;have F:∀B,B<d.x.kids.length->((List.range d.x.kids.length).map (ck (xs l) d.x))[B]? =some (ck (xs l) d.x B):=λB hj=>by rw[List.getElem?_map,List.getElem?_range hj];rfl
   have ah:∀B,B<d.x.kids.length->cm (ck (xs l) d.x B)=true:=λB hj=>aa9 hg.val am hj;refine uL.bJ _ _ _ _ _ _ _ _ _ _ _ _ _ _ _ _ _ _ _ (aP (aV co) (j.aA (Yd d.x.op R4 (F 0 co) (λh2=>F 1 co) (λh3=>F 2 co) Q.1 Q.2) ?_));rintro _ U rfl D;refine⟨_,rfl,dW (λab=>D.ai λw6 Y=>⟨by rw[A,av ab];rfl,Y.fr⟩) (λab=>?_)⟩;rw[ag (by rw[ab];simp)]at A;have R5:bL 3 U E (((List.range d.x.kids.length).map (ck (xs l) d.x)).flatMap gP):=(D.get 2:aF _ _ _ _ _).bd;refine D.aA (YC d R5 (F 0 co) (λh2=>F 1 co) (λh3=>F 2 co) Q.1 Q.2 (ah 0 co) (λh2=>ah 1 co) (λh3=>ah 2 co) T.n T.m) ?_;rintro _ w6 ⟨t,b,rfl,K,ht⟩ Y;refine⟨_,_,_,_,rfl,Y.aK λaa w7 Z=>dW (λao=>Z.ai λC z=>⟨?_,z.fr⟩) (λal=>?_)⟩
   .rw [A,av (by rw[<-K,ao])];rfl
   rw[ag (by rw[<-K,al];simp)]at A;have ht:=ht al;have S1:∀(c:Bool) (C:J) (L:List En),(d.x.op=33/\oZ d.x.tx=false↔c=false)->En.g I∈L->En.g aa∈L->LH F0 w C L (mI s l d)->uL.bW I 0 0 0 aa t.k t.n t.x c C λr N=>r=gO (cI (xs l) d.x)/\af w N:=by
    intro c C L q m4 az z;have ak:∀b∈[I,aa],En.g b∈L:=by
     intro b K;simp only[aq,aL,aR]at K;rcases K with rfl|rfl
     .exact m4
     .exact az
    refine dW (λap=>z.ai (λw9 H=>⟨?_,H.fr⟩) ak) (λar=>z.ai (λw9 H=>⟨?_,H.fr⟩) ak)
    .rw [A,av (q.2 ap)];rfl
    .rw [A,ag (λh=>by rw[ar]at q;cases q.1 h),ht]
   refine dA (λO=>Z.ai λC z=>S1 true C _ ⟨λh=>absurd h.1 O,λh=>by cases h⟩ ws ws z) (λO=>Z.ai λC z=>?_);have an:=T.tx O;refine z.aA (XG d.x.tx an.1 _ an.can C) ?_;rintro _ w9 rfl H;exact⟨_,rfl,S1 _ w9 _ ⟨λh=>h.2,λh=>⟨O,h⟩⟩ ws ws H⟩
  |succ m ih=>
   intro i E y hi j;have S:d.x.kids[i]? =some (d.x.kids[i]'co):=a' co;have ad:=fa.1 am _ (aG S);generalize d.x.kids[i]'co=kx at S ad;unfold fL at ad;simp only[bH,decide_eq_true_eq]at ad;have ac:l[kx.toNat]? =some (l[kx.toNat]'co):=a' co;generalize l[kx.toNat]'co=e at ac;have ax:bq y d.ks d.x.kids:=j.getD 1;have aC:=Nd.cH (show bL 9 y s (l.flatMap Nd.c)from(ct.1 (j.getD 0)).1);refine uL.bJ _ _ _ _ _ _ _ _ _ _ _ _ _ _ _ _ _ _ _ (aM (aQ co) ⟨co,co,ax.cell S co λp hp q=>⟨kx,q,iD (ct.1 (j.getD 0)) (i:=kx.toNat) co ac λaE hq c=>⟨_,_,_,c.s0,c.s1,c.s2,?_⟩⟩⟩);have hlen:E.n=i:=by have:=(j.get 2:aF _ _ _ _ _).len;rw[Uw]at this;simp at this;omega
   refine j.jh 2 Zs rfl (λs' U D=>?_) co;rw[bb _ co];refine ih (i+1) s' U co ?_;rw[adv,aa4 S ac];exact D
 exact loop d.x.kids.length 0 ⟨none,0,0⟩ w3 co (G.fN cA 3)
def n6:gW V Ig cQ (.agg #[.int .i64 0,.slice none 0 0,.int .i64 0,.int .i64 0,.int .u64 0,.string (bh #[]),.int .i64 0,.int .i64 0,.int .i64 0]) 9 96:=⟨by kernel_rfl,by kernel_rfl,rfl,md,md⟩
def sA{l:List Nd}:∀u∈l.flatMap Nd.c,u.oneCell'=true:=by intro u d;obtain⟨h,_,d⟩:=bX.1 d;simp only[Nd.c,aq,aL,aR]at d;rcases d with rfl|rfl|rfl|rfl|rfl|rfl|rfl|rfl|rfl<;>rfl
def wP{w:J}{b n sz:Nat}{cs:List aa}{T:aC}(h:w.heap[b]? =some (.cells cs.toArray T (0,0)))(j:cs.length=n *sz):bL sz w ⟨some (ab b),n,n⟩ cs:=
 ⟨j,bm _,⟨λh=>(by cases h),λi v d=>⟨ab b,rfl,cellAt (p:=ab b) h rfl (by simpa using d)⟩⟩⟩
def X0{w:J}{a b:Nd}(U:a.P w)(W:b.P w)(Q:a.x.kids.length<=fA):aj V OA #[a.v,b.v] w λr Z=>r=ae (.bool (au (a.x=b.x)))/\af w Z:=by
 have S:LH F0 w w [] [dp a,dp b]:=bN _ (by
  intro e O;simp only[aq,aL,aR]at O;rcases O with rfl|rfl
  .exact U
  .exact W)
 obtain⟨⟨op,D,n,m,u,I,st⟩,sl⟩:=a;obtain⟨⟨H,E,G,F,M,K,A⟩,Y⟩:=b;have no:∀{N:J} {L:List En},LH F0 w N L [dp ⟨⟨op,D,n,m,u,I,st⟩,sl⟩,dp ⟨⟨H,E,G,F,M,K,A⟩,Y⟩]->(⟨op,D,n,m,u,I,st⟩:Nx)≠⟨H,E,G,F,M,K,A⟩->(Ending.returned (.bool false)=ae (.bool (au ((⟨op,D,n,m,u,I,st⟩:Nx)=⟨H,E,G,F,M,K,A⟩)))/\af w N):=λB d=>⟨by rw[aV d],B.fr⟩;refine K5.aD _ _ _ _ _ _ _ _ _ _ _ _ _ _ _ _ _ _ w _ (S.aK λb2 N B=>B.aK λb3 w2 h=>?_);refine aO (λj=>?_) (λj=>no h (λd=>j (congrArg Nx.op d)));refine aO (λk=>?_) (λk=>no h (λd=>k (congrArg Nx.n d)));refine aO (λq=>?_) (λq=>no h (λd=>q (congrArg Nx.m d)));refine aO (λy=>?_) (λy=>no h (λd=>y (congrArg Nx.u d)));refine jz (λz=>?_) (λz=>no h (λd=>z (congrArg Nx.tx d)));refine oG (a:=st) (b:=A) (λC=>?_) (λC=>no h (λd=>C (congrArg Nx.st d)));refine h.aA (aeg (h.getD 0) (h.getD 1) (by unfold fA at Q;simp only at Q ⊢;omega)) ?_;rintro _ w3 rfl T;refine⟨_,rfl,?_,T.fr⟩;simp only at j k q y z;subst j k q y z C;simp
def M8{g:List Nx}{n:Nx}{s:bA}(h:cI g n=(s,0)):cI g (hc n s)=(s,0):=by
 unfold cI at h;unfold cI;have q:(dk (hc n s).op==((hc n s).kids.length:Int)&&(hc n s).kids.all (fL g)&&jR (hc n s))=(dk n.op==(n.kids.length:Int)&&n.kids.all (fL g)&&jR n):=rfl;rw[q];split at h
 .simp at h
 .rename_i w;rw[ag w];have k:(hc n s).op=n.op:=rfl;rw[k];split at h
  .rename_i j;rw[av j];unfold cR at h;by_cases d:n.op=2
   .rw [av d]at h;unfold cR;rw[k,av d];exact h
   .rw [ag d]at h;have x:s=n.st:=by
     split at h
     .simp at h
     .split at h
      .simp at h
      .split at h
       .simp at h
       .split at h
        .simp at h
        .split at h
         .simp at h
         .exact (congrArg Prod.fst h).symm
    have:hc n s=n:=by rw[x];rfl
    rw[this];unfold cR;rw[ag d];exact h
  .rename_i j;rw[ag j];exact h
def pa(g:List Nx)(n:Nx):Option Nat:=h4 (if(cI g n).2=0 then hc n (cI g n).1 else n) g 0
def RI:Option Nat->Int
 |some i=>(i:Int)
 |none=>-1
def XN{w:J}{s:Sl}{l:List Nd}{d:Nd}(h:GP w s l)(Y:d.P w)(S:y' (xs l))(ho:p9 d.x)(Z:∀e∈l,e.x.kids.length<=fA):
  aj V Ov #[s.v,d.v] w λr K=>r=ae (.i (RI (pa (xs l) d.x)))/\af w K:=by
 have hn:=iU h;have aa:(xs l).length=l.length:=by simp[xs]
 have T:=S.len;rw[aa]at T;unfold fA at T;have loop:∀(m i:Nat) (j:Nat) (y:J) (e:Nd) (L:List En),e.ks=d.ks->e.x.kids=d.x.kids->i+m=l.length->h4 e.x ((xs l).drop i) i=pa (xs l) d.x->En.g j∈L->LH F0 w y L (mI s l d)->
   xx.cv s j e.x.op e.ks e.x.n e.x.m e.x.u e.x.tx e.x.st.k e.x.st.n e.x.st.x (i:Int) y λr K=>r=ae (.i (RI (pa (xs l) d.x)))/\af w K:=by
  intro m;induction m with
  |zero=>
   intro i j y e L G H hi z F q;rw[du co]at z;exact xx.dO _ _ _ _ _ _ _ _ _ _ _ _ _ _ (aP (aV co) ⟨by rw[<-z];rfl,q.fr⟩)
  |succ m ih=>
   intro i j y e L G H hi z F q;have A:l[i]? =some (l[i]'co):=a' co;have hx:(xs l).drop i=(l[i]'co).x::(xs l).drop (i+1):=by rw[dw (by omega:i<(xs l).length)];simp[xs]
   rw[hx]at z;generalize l[i]'co=a at A z;have W:∀b∈[j],En.g b∈L:=by simpa using F
   refine xx.dO _ _ _ _ _ _ _ _ _ _ _ _ _ _ (aM (aQ co) (iD (ct.1 (q.getD 0)) rfl A λp hp _=>q.ai (λM D=>?_) W));have N:GP M s l:=ct.1 (D.getD 0);have c:=E3 N A hp (rfl:((i:Int))=(i:Int));have pe:e.P M:=by show bq M e.ks e.x.kids;rw[G,H];exact D.getD 1
   refine⟨_,_,_,_,_,_,_,_,_,c.c0,c.c1,c.c2,c.c3,c.c4,c.c5,c.c6,c.c7,c.c8,D.aA (X0 (a:=a) (b:=e) (N.2 a (aG A)) pe (Z a (aG A))) ?_⟩;rintro _ w6 rfl Q;have B:(if a.x=e.x then some i else h4 e.x ((xs l).drop (i+1)) (i+1))=pa (xs l) d.x:=z;refine⟨_,rfl,aE (λI=>⟨?_,Q.fr⟩) (λI=>?_)⟩
   .rw [av I]at B;rw[<-B];rfl
   .rw [ag I]at B;rw[bb _ co];exact ih (i+1) j w6 e L G H co B F Q
 refine xx.aD _ _ _ _ _ _ _ _ _ _ w _ ((xR h Y).aK λj w1 C=>C.aA (Jj (ct.1 (C.getD 0)) (C.getD 1) S ho) ?_);rintro _ w2 rfl U;refine⟨_,_,_,_,rfl,U.aK λb5 w3 O=>aO (λE=>O.ai λy q=>?_) (λE=>O.ai λy q=>?_)⟩
 .exact loop l.length 0 j y ⟨hc d.x (cI (xs l) d.x).1,d.ks⟩ _ rfl rfl co (by unfold pa;rw[av E];rfl) ws q
 .exact loop l.length 0 j y d _ rfl rfl co (by unfold pa;rw[ag E];rfl) ws q
structure GR(w:J)(B:Nat->Prop)(g:List Nx)(s:Sl)(Y:J):Prop where
 ex:∃l':List Nd,xs l'=g/\GP Y s l'/\∀b∈(En.gr s l').fp,B b\/w.heap.size<=b
def GR.nil(w:J)(B:Nat->Prop)(Y:J):GR w B [] ⟨none,0,0⟩ Y:=⟨⟨[],rfl,⟨bL.nil 9 Y,ws⟩,λb h=>by
 rcases od.1 h with d|⟨k,j,_⟩
 .cases d
 .cases j⟩⟩
def Yt{w:J}{s:Sl}{l:List Nd}{d:Nd}(h:GP w s l)(hd:d.P w)(O:y' (xs l))(F:p9 d.x)(am:∀e∈l,e.x.kids.length<=fA):
  aj V Oo #[s.v,d.v] w λr w'=>(∃s':Sl,r=ae (.tuple #[s'.v,.i (hD (xs l) d.x).2.1,.i (hD (xs l) d.x).2.2])/\GR w (λb=>b∈(En.gr s l).fp\/b∈(dp d).fp) (hD (xs l) d.x).1 s' w')/\af w w':=by
 have hn:=iU h;have aa:(xs l).length=l.length:=by simp[xs]
 refine K1.aD _ _ _ _ _ _ _ _ _ _ w _ ((xR h hd).aK λb3 w1 K=>K.aA (Jj (ct.1 (K.getD 0)) (K.getD 1) O F) ?_);rintro _ w2 rfl H2;refine⟨_,_,_,_,rfl,H2.aK λb7 w3 W=>dA (λI=>W.ai λw4 C=>⟨⟨⟨none,0,0⟩,?_,?_⟩,C.fr⟩) (λI=>W.ai λw4 C=>?_)⟩
 .unfold hD;rw[av I]
 .unfold hD;rw[av I];exact GR.nil _ _ _
 have hs:cI (xs l) d.x=((cI (xs l) d.x).1,0):=by rw[<-I]
 have ar:=M8 hs;have an:pa (xs l) (hc d.x (cI (xs l) d.x).1)=h4 (hc d.x (cI (xs l) d.x).1) (xs l) 0:=by unfold pa;rw[ar];rfl
 have k:hD (xs l) d.x=match h4 (hc d.x (cI (xs l) d.x).1) (xs l) 0 with
   |some i=>(xs l,(i:Int),0)
   |none=>if 4096<=(xs l).length then([],0,4)else(xs l++[hc d.x (cI (xs l) d.x).1],((xs l).length:Int),0):=by unfold hD;rw[ag co];try rfl
 generalize au:(cI (xs l) d.x).1=sr at *
 let e:Nd:=⟨hc d.x sr,d.ks⟩
 have ao:p9 e.x:=⟨F.kl,F.n,F.m,F.tx⟩;refine C.aA (XN (d:=e) (ct.1 (C.getD 0)) (C.getD 1) O ao am) ?_;rintro _ w5 rfl D;rw[show pa (xs l) e.x=h4 (hc d.x sr) (xs l) 0 from an];refine⟨_,rfl,?_⟩;cases Y:h4 (hc d.x sr) (xs l) 0 with
 |some i=>
  rw[Y]at k;rw[k];exact aM (aQ (Int.natCast_nonneg i)) ⟨⟨s,rfl,⟨l,rfl,ct.1 (D.getD 0),λb B=>.inl (.inl B)⟩⟩,D.fr⟩
 |none=>
  rw[Y]at k;dsimp only at k;refine aP md ?_;refine aE (λak=>⟨⟨⟨none,0,0⟩,?_,?_⟩,D.fr⟩) (λak=>?_)
  .rw [k,av co]
  .rw [k,av co];exact GR.nil _ _ _
  rw[ag co]at k;rw[k];have N:∀{q:J} {L:List En},LH F0 w q L (mI s l d)->bL 9 q s (l.flatMap Nd.c):=λah=>(ct.1 (ah.getD 0)).1;have fin:∀(s':Sl) (q:J) (L:List En) (j:Nat),LH F0 w q L (mI s l d)->L[j]? =some (.row cQ 9 s' (l.flatMap Nd.c++e.c))->
    (∃ad:Sl,Ending.returned (.tuple #[s'.v,.i (s.n:Int),.i 0])=ae (.tuple #[ad.v,.i ((xs l).length:Int),.i 0])/\GR w (λb=>b∈(En.gr s l).fp\/b∈(dp d).fp) (xs l++[hc d.x sr]) ad q)/\af w q:=by
   intro s' q L j y Z;have ap:bL 9 q s' ((l++[e]).flatMap Nd.c):=by have:aF q cQ 9 s' (l.flatMap Nd.c++e.c):=y.get j Z;have:=this.bd;simpa using this
   refine⟨⟨s',by rw[aa,hn],⟨l++[e],by simp[xs,e],⟨ap,λa k=>?_⟩,λb B=>?_⟩⟩,y.fr⟩
   .rcases aW.1 k with k|k
    .exact (ct.1 (y.getD 0)).2 a k
    .simp only[aq,aL,aR]at k;subst k;exact y.getD 1
   .rcases od.1 B with B|⟨a,k,B⟩
    .right;have al:b∈(En.row cQ 9 s' (l.flatMap Nd.c++e.c)).fp:=by
      have:b∈(if(l++[e]).flatMap Nd.c=[]then[]else ax s'):=B;split at this
      .cases this
      .exact this
     exact(y.new _ (aG Z) b al).resolve_right id
    .rcases aW.1 k with k|k
     .exact .inl (.inl (od.2 (.inr ⟨a,k,B⟩)))
     .simp only[aq,aL,aR]at k;subst k;exact .inl (.inr B)
  have ac:∀u∈e.c,u.oneCell'=true:=λu hu=>sA (l:=[e]) u (by simpa using hu);have hl:=O.len;rw[aa]at hl;unfold fA at hl;refine⟨D.ai λq y=>y.cZ (n:=0) (sz:=9) (cs:=[]) rfl md λS E=>⟨?_,?_⟩,D.ai λq y=>y.nw λS _ E=>E.cZ (n:=0) (sz:=9) (cs:=[]) rfl md λw8 A=>?_⟩
  .refine E.dm 2 n6 (s:=⟨some (ab q.heap.size),0,0⟩) (src:=s) rfl (N E) sA (by simp only;omega) (λs1 w8 A=>?_);have G:=(A.get 2:aF _ _ _ _ _).len;rw[lU,Nd.e7]at G;refine A.jh 2 n6 rfl (λH U z=>?_) co;exact fin H U _ 2 z rfl
  .refine E.nw λw8 _ A=>?_;refine A.dm 2 n6 (s:=⟨some (ab q.heap.size),0,0⟩) (src:=s) rfl (N A) sA (by simp only;omega) (λs1 U z=>?_);have G:=(z.get 2:aF _ _ _ _ _).len;rw[lU,Nd.e7]at G;refine z.dm 2 n6 (src:=⟨some (ab S.heap.size),1,1⟩) rfl (wP (cs:=e.c) (T:=cQ) (z.ob 3) rfl) ac (by simp only;omega) (λH Q M=>?_);exact fin H Q _ 2 M rfl
  .refine A.dm 3 n6 (s:=⟨some (ab S.heap.size),0,0⟩) (src:=s) rfl (N A) sA (by simp only;omega) (λs1 U z=>?_);have G:=(z.get 3:aF _ _ _ _ _).len;rw[lU,Nd.e7]at G;refine z.dm 3 n6 (src:=⟨some (ab q.heap.size),1,1⟩) rfl (wP (cs:=e.c) (T:=cQ) (z.ob 2) rfl) ac (by simp only;omega) (λH Q M=>?_);exact fin H Q _ 3 M rfl
def iF(n m:Int)(w:J)(j:1<=m)(h:aX n):aj V u7 #[.i n,.i m] w λr d=>r=ae (.i (gA n m))/\af w d:=(Dn n m w j h).mono λr d h=>⟨h.1,h.2▸Fr.refl _ _⟩
def tj(t:List UInt8)(s:bA):Nx:=⟨0,[],0,0,0,ba t,s⟩
def mS(t:List UInt8)(s:bA):Nd:=⟨tj t s,⟨none,0,0⟩⟩
def q0:List Nd:=[mS [97] (bM 2),mS [98] (bM 2),mS [99] (bM 1),mS [100] (bM 3)]
def q1:List Nd:=[mS [109] ⟨2,2,1⟩,mS [110] ⟨2,2,1⟩]
def nz:List Nd:=[mS [115] (fk 2),mS [116] (fk 1),mS [105] (bM 7),mS [122] ⟨3,1,1⟩]
def gR(kind:Int):List Nd:=q0++(if kind>0 then q1 else[])++(if kind>1 then nz else[])
def vgB(l:List Nx):Bool:=(List.range l.length).all λi=>match l[i]? with
 |some n=>au (cI (l.take i) n=(n.st,0))&&au (n∉l.take i)
 |none=>false
def B'{l:List Nx}(h:vgB l=true):Vg l:=by
 have main:∀i,i<=l.length->Vg (l.take i):=by
  intro i;induction i with
  |zero=>intro _;rw[List.take_zero];exact .nil
  |succ i k=>
   intro q;have d:=fa.1 h i (List.mem_range.2 co);have j:l[i]? =some (l[i]'co):=a' co;rw[j]at d;dsimp only at d;rw[dM,j];simp only[bH,decide_eq_true_eq]at d;exact .snoc (k co) d.1 d.2
 have:=main l.length (bm _)
 rwa[G6]at this
def aeT(kind:Int):Vg (xs (gR kind)):=by
 unfold gR;split
 .split
  .exact B' (by kernel_rfl)
  .exact B' (by kernel_rfl)
 .split
  .exact B' (by kernel_rfl)
  .exact B' (by kernel_rfl)
structure MdN(d:Nx):Prop where
 GI:-1<=d.op
 GJ:d.op<=34
 kl:d.kids.length<=3
 n:0<=d.n/\d.n<=100
 m:0<=d.m/\d.m<=100
 u:0<=d.u/\d.u<=1000
 tx:d.op≠33->d.tx.size<=16
 re:d.op=33->∃k,d.tx=ba (mP k)
structure iL(g:List Nx):Prop where
 vg:Vg g
 nd:∀d∈g,MdN d
def aeS(kind:Int):iL (xs (gR kind)):=by
 refine⟨aeT kind,λj q=>?_⟩;have h:∃t s,j=tj t s/\t.length<=16:=by
  have k:j∈xs (q0++q1++nz):=by
   obtain⟨a,d,rfl⟩:=bK.1 q;refine bK.2 ⟨a,?_,rfl⟩;unfold gR at d;rcases aW.1 d with d|d
   .rcases aW.1 d with d|d
    .simp [d]
    .split at d
     .simp [d]
     .cases d
   .split at d
    .simp [d]
    .cases d
  simp only[xs,q0,q1,nz,mS,i2,lU,hn,List.map_nil,aq,aL,aR]at k;rcases k with rfl|rfl|rfl|rfl|rfl|rfl|rfl|rfl|rfl|rfl<;>exact⟨_,_,rfl,md⟩
 obtain⟨t,s,rfl,w⟩:=h;exact⟨by show(-1:Int)<=0;omega,by show(0:Int)<=34;omega,by simp[tj],by simp[tj],by simp[tj],by simp[tj],λ_=>by show(ba t).size<=16;rw[bQ];exact w,λh=>by cases h⟩
def UF{kind:Int}:∀h∈gR kind,h.x.kids=[]/\h.ks=⟨none,0,0⟩:=by
 intro h k;have j:h∈q0++q1++nz:=by
  unfold gR at k;rcases aW.1 k with d|d
  .rcases aW.1 d with d|d
   .simp [d]
   .split at d
    .simp [d]
    .cases d
  .split at d
   .simp [d]
   .cases d
 simp only[q0,q1,nz,mS,tj,i2,lU,aq,aL,aR]at j;rcases j with rfl|rfl|rfl|rfl|rfl|rfl|rfl|rfl|rfl|rfl<;>exact⟨rfl,rfl⟩
def aeQ{kind:Int}{w w0:J}{s:Sl}(h:bL 9 w s ((gR kind).flatMap Nd.c))(z:∀b∈ax s,w0.heap.size<=b):GR w0 F0 (xs (gR kind)) s w:=by
 refine⟨gR kind,rfl,⟨h,λj q=>?_⟩,λb d=>.inr ?_⟩
 .obtain ⟨k,y⟩:=UF j q;show bq w j.ks j.x.kids;rw[k,y];exact Rd.nil w
 .rcases od.1 d with d|⟨j,q,d⟩
  .exact yk z b d
  .obtain ⟨k,y⟩:=UF j q;unfold dp at d;rw[k]at d;cases d
def aeR(kind:Int):1<=(gR kind).length/\(gR kind).length<=10:=by unfold gR;split<;>split<;>decide
def YE(kind:Int)(w:J):aj V OK #[.i kind] w λr x=>(∃s:Sl,r=ae s.v/\GR w F0 (xs (gR kind)) s x)/\af w x:=by
 refine Ex.ok kind w _ ((bN [] ws).call (fI 2 w) ?_);rintro _ Z rfl N;refine⟨_,_,_,rfl,N.call (fI 2 Z) ?_⟩;rintro _ w2 rfl P;refine⟨_,_,_,rfl,P.call (fI 1 w2) ?_⟩;rintro _ w3 rfl Q;refine⟨_,_,_,rfl,Q.call (fI 3 w3) ?_⟩;rintro _ M rfl S;refine⟨_,_,_,rfl,S.cZ (n:=4) (sz:=9) (cs:=q0.flatMap Nd.c) rfl md λF H=>?_⟩;have fin:∀(l:Sl) (d:J) (L:List En) (j:Nat),LH F0 w d L []->L[j]? =some (.row cQ 9 l ((gR kind).flatMap Nd.c))->(∃s:Sl,Ending.returned l.v=ae s.v/\GR w F0 (xs (gR kind)) s d)/\af w d:=λl d L j h k=>
  ⟨⟨l,rfl,aeQ (h.get j k:aF _ _ _ _ _).bd λb W=>(h.new _ (aG k) b W).resolve_right id⟩,h.fr⟩
 have I:∀(l:Sl) (d:J) (L:List En) (j:Nat) (ds:List Nd),LH F0 w d L []->ds.length<=6->gR kind=ds++(if kind>1 then nz else[])->L[j]? =some (.row cQ 9 l (ds.flatMap Nd.c))->Ex.S0 kind l d λr x=>(∃s:Sl,r=ae s.v/\GR w F0 (xs (gR kind)) s x)/\af w x:=by
  intro l d L j ds h ad z k;refine aE (λD=>?_) (λD=>?_)
  .rw [av D]at z;refine h.call (oY 2 d) ?_;rintro _ G rfl B;refine⟨_,_,_,rfl,B.call (oY 1 G) ?_⟩;rintro _ w8 rfl T;refine⟨_,_,_,rfl,T.call (fI 7 w8) ?_⟩;rintro _ y rfl U;refine⟨_,_,_,rfl,U.cZ (n:=4) (sz:=9) (cs:=nz.flatMap Nd.c) rfl md λaa A=>?_⟩;have K:(L++[En.row cQ 9 ⟨some (ab y.heap.size),4,4⟩ (nz.flatMap Nd.c)])[j]? =some (.row cQ 9 l (ds.flatMap Nd.c)):=by rw[List.getElem?_append_left (cV.1 k).1];exact k
   have Y:(L++[En.row cQ 9 ⟨some (ab y.heap.size),4,4⟩ (nz.flatMap Nd.c)])[L.length]? =some (.row cQ 9 ⟨some (ab y.heap.size),4,4⟩ (nz.flatMap Nd.c)):=ws
   have hn:l.n=ds.length:=by have:=(A.get j K:aF _ _ _ _ _).len;rw[Nd.e7]at this;omega
   have q:bL 9 aa ⟨some (ab y.heap.size),4,4⟩ (nz.flatMap Nd.c):=(A.get L.length Y:aF _ _ _ _ _).bd;refine A.ap j n6 (src:=⟨some (ab y.heap.size),4,4⟩) K q.2.2 q.1 sA (by simp only;omega) (λE ac O _ _=>?_);refine fin E ac _ j O ?_;rw[List.getElem?_set_self (by simp;have:=(cV.1 k).1;omega),z,de]
  .rw [ag D,ed]at z;rw[<-z]at k;exact fin l d L j h k
 refine aE (λC=>H.cZ (n:=2) (sz:=9) (cs:=q1.flatMap Nd.c) rfl md λd h=>?_) (λC=>?_)
 .have q:bL 9 d ⟨some (ab F.heap.size),2,2⟩ (q1.flatMap Nd.c):=(h.get 1:aF _ _ _ _ _).bd;refine h.ap 0 n6 (s:=⟨some (ab M.heap.size),4,4⟩) (src:=⟨some (ab F.heap.size),2,2⟩) rfl q.2.2 q.1 sA (by show(4+2) *96<=_;omega) (λE G B _ _=>?_);refine I E G _ 0 (q0++q1) B md ?_ ?_
  .unfold gR;rw[av C]
  .rw [de];rfl
 .refine I ⟨some (ab M.heap.size),4,4⟩ F _ 0 q0 H md ?_ rfl;unfold gR;rw[ag C,ed]
def YI(kind:Int)(s:bA)(w:J):aj V OM #[.i kind,ee s] w λr j=>(∃b:Bool,r=ae (.bool b))/\af w j:=
 K8.aD _ _ _ _ w _ ((bN [] ws).aK λb k h=>aO (λd=>⟨⟨_,rfl⟩,h.fr⟩) (λd=>aE (λd=>aO (λd=>⟨⟨_,rfl⟩,h.fr⟩) (λd=>⟨⟨_,rfl⟩,h.fr⟩)) (λd=>⟨⟨_,rfl⟩,h.fr⟩)))
def JL{w:J}{s:Sl}{l:List Nd}(h:GP w s l)(I:∀(i:Nat) (d:Nd),l[i]? =some d->d.x.kids.length<=1000000/\∀y∈d.x.kids,0<=y/\y<(i:Int)):∀(n i:Nat),i<n->i<l.length->∀C,af w C->aj V OJ #[s.v,.i (i:Int)] C λr F=>(∃z:Int,r=ae (.i z))/\af w F
 |0,i,H,_,_,_=>absurd H co
 |n+1,i,H,E,C,N=>by
  have B:∀{k:J},af w k->GP k s l:=λf=>⟨h.1.br f,λd Q=>(dp d).st w _ (λb hb T=>f.cC b T id) (h.2 d Q)⟩;have A:l[i]? =some (l[i]'E):=a' E;generalize l[i]'E=d at A;obtain⟨k1,Z⟩:=I i d A;have loop:∀(m j:Nat) (z:Int) (k:J),j+m=d.x.kids.length->af w k->uM.L0 s (i:Int) z (j:Int) k λr F=>(∃z:Int,r=ae (.i z))/\af w F:=by
   intro m;induction m with
   |zero=>
    intro j z k S q;have U:d.ks.n=d.x.kids.length:=bq.len ((B q).2 d (aG A));exact uM.bC _ _ _ _ _ _ (iD (B q) rfl A λp W c=>⟨_,c.c1,aP (aV co) ⟨⟨_,rfl⟩,q⟩⟩)
   |succ m Y=>
    intro j z k S q;have G:bq k d.ks d.x.kids:=(B q).2 d (aG A);have U:=bq.len G;have D:d.x.kids[j]? =some (d.x.kids[j]'co):=a' co;generalize d.x.kids[j]'co=y at D;have aa:=Z y (aG D);refine uM.bC _ _ _ _ _ _ (iD (B q) rfl A λp W c=>⟨_,c.c1,aM (aQ co) (iD (B q) rfl A λp' ab L=>⟨_,L.c1,co,co,G.cell D co λac hq P=>⟨y,P,?_⟩⟩)⟩);have M:y=(y.toNat:Int):=co
    rw[M];refine(JL h I n y.toNat co co k q).mono ?_;rintro _ K ⟨⟨z3,rfl⟩,O⟩;refine⟨_,rfl,?_⟩;show uM.L0 s (i:Int) _ (ah .i64 ((j:Int)+1)) K _;rw[bb _ co];exact Y (j+1) _ K co O
  exact uM.ok _ _ C _ (loop d.x.kids.length 0 1 C co N)
set_option maxHeartbeats 2000000
def af7{P:Program}{n:Cx}{c:Code}{Q:Exit->Act->J->Prop}{E E':Env}{w:J}(h:∀t v,E'.get? t=some v->E.get? t=some v)(k:WP P n c Q E' w):WP P n c Q E w:=λa d=>k a ⟨d.defers,d.size,λt v j=>d.get t v (h t v j)⟩
def afb{E:Env}{i j:Nat}{a b:aa}(q:E.get? i=some a)(w:E.get? j=some b):∀t v,Env.get? [(i,a),(j,b)] t=some v->E.get? t=some v:=by
 intro t v d;unfold Env.get? at d;cases h:cg i t with
 |true=>
  rw[h]at d;have:=Nat.eq_of_beq_eq_true h
  grind
 |false=>
  rw[h]at d;have d:Env.get? [(j,b)] t=some v:=d;unfold Env.get? at d;cases k:cg j t with
  |true=>
   rw[k]at d;have:=Nat.eq_of_beq_eq_true k
   grind
  |false=>rw[k]at d;cases d
namespace xm
abbrev T9(s:Sl)(k:Int)(w:J)(R:aJ):Prop:=
 (0:Int)<=(cp (ah .i64 (bS k 216)) 8)/\(cp (ah .i64 (bS k 216)) 8)<(s.n:Int)/\dV s.a λp=>gi w (p.add (a5 (cp (ah .i64 (bS k 216)) 8) *4)) λa b c d=>zG x3 #[.agg #[.i a,.int .u8 b,.int .u8 c,d.v]] w λe f g i h=>JP qC #[.agg #[.i e,.int .u8 f,.int .u8 g,i.v],.i 0] h λt j=>R (ae (.string t)) j
def K9(R:aJ)(E:Env)(w:J):Prop:=∃(s:Sl) (k:Int),E.get? 9=some s.v/\E.get? 3=some (.i k)/\T9 s k w R
noncomputable def C0:Code:=(Tryz.f55.body).getD .skip
noncomputable def C1:=C0.sn
noncomputable def C2:=C1.sn
noncomputable def C3:=C2.sn
noncomputable def C4:=C3.sn
noncomputable def C5:=C4.sn
noncomputable def C6:=C5.sn
noncomputable def C7:=C6.sn
noncomputable def C8:=C7.sn
noncomputable def C9:=C8.sn
def ok(q:Int)(w:J)(R:aJ)(h:rR u7 #[.i q,.i 1048576] w λt11 w1=>zG pg #[] w1 λC D F G j=>dz j (.cells #[.i 2,.int .u8 97,.int .u8 97,.slice none 0 0,.i 2,.int .u8 98,.int .u8 98,.slice none 0 0,.i 2,.int .u8 0,.int .u8 0,.slice none 0 0,.i 2,.int .u8 97,.int .u8 98,.slice none 0 0,.i 1,.int .u8 0,.int .u8 0,.slice none 0 0,.i C,.int .u8 D,.int .u8 F,G.v] aT) λy=>
 (0:Int)<=(cp t11 6)/\(cp t11 6)<((6:Nat):Int)/\dV (some (nb j)) λH=>gi y (H.add (a5 (cp t11 6) *4)) λI K L M=>dz y (.cells #[.i 0,.int .u8 0,.int .u8 0,.slice none 0 0] aT) λw4=>
 ma w4 (nb y) (.i I) (.int .u8 K) (.int .u8 L) (M.v) λA=>(0:Int)<=(cp (ah .i64 (bS t11 6)) 6)/\(cp (ah .i64 (bS t11 6)) 6)<((6:Nat):Int)/\dV (some (nb j)) λN=>gi A (N.add (a5 (cp (ah .i64 (bS t11 6)) 6) *4)) λO P Q S=>dz A (.cells #[.i 0,.int .u8 0,.int .u8 0,.slice none 0 0] aT) λw9=>
 ma w9 (nb A) (.i O) (.int .u8 P) (.int .u8 Q) (S.v) λz=>(0:Int)<=(cp (ah .i64 (bS t11 36)) 6)/\(cp (ah .i64 (bS t11 36)) 6)<((6:Nat):Int)/\dV (some (nb j)) λT=>gi z (T.add (a5 (cp (ah .i64 (bS t11 36)) 6) *4)) λU W Y Z=>dz z (.cells #[.i 0,.int .u8 0,.int .u8 0,.slice none 0 0] aT) λaf=>
 ma af (nb z) (.i U) (.int .u8 W) (.int .u8 Y) (Z.v) λx=>gi x (nb y) λaa ab ac ad=>dz x (.cells #[.i aa,.int .u8 ab,.int .u8 ac,ad.v] aT) λB=>
 dz B (.cells #[.i 0,.int .u8 0,.int .u8 0,.slice none 0 0] aT) λag=>
 ma ag (nb B) (.i 7) (.int .u8 0) (.int .u8 0) (.slice (some (nb x)) 1 1) λai=>yA V C7 (K9 R) [(8,.pointer (some (nb B))),(38,.agg #[.i 7,.int .u8 0,.int .u8 0,.slice (some (nb x)) 1 1]),(37,.slice (some (nb x)) 1 1),(36,.agg #[.i aa,.int .u8 ab,.int .u8 ac,ad.v]),(7,.pointer (some (nb z))),(35,.agg #[.i U,.int .u8 W,.int .u8 Y,Z.v]),(34,.pointer (some (T.add (a5 (cp (ah .i64 (bS t11 36)) 6) *4)))),(33,.i (cp (ah .i64 (bS t11 36)) 6)),(32,.i (ah .i64 (bS t11 36))),(31,.i t11),(30,.slice (some (nb j)) 6 6),(6,.pointer (some (nb A))),(29,.agg #[.i O,.int .u8 P,.int .u8 Q,S.v]),(28,.pointer (some (N.add (a5 (cp (ah .i64 (bS t11 6)) 6) *4)))),(27,.i (cp (ah .i64 (bS t11 6)) 6)),(26,.i (ah .i64 (bS t11 6))),(25,.i t11),(24,.slice (some (nb j)) 6 6),(5,.pointer (some (nb y))),(23,.agg #[.i I,.int .u8 K,.int .u8 L,M.v]),(22,.pointer (some (H.add (a5 (cp t11 6) *4)))),(21,.i (cp t11 6)),(20,.i t11),(19,.slice (some (nb j)) 6 6),(4,.slice (some (nb j)) 6 6),(18,.slice (some (nb j)) 6 6),(17,.agg #[.i C,.int .u8 D,.int .u8 F,G.v]),(16,.agg #[.i 1,.int .u8 0,.int .u8 0,.slice none 0 0]),(15,.agg #[.i 2,.int .u8 97,.int .u8 98,.slice none 0 0]),(14,.agg #[.i 2,.int .u8 0,.int .u8 0,.slice none 0 0]),(13,.agg #[.i 2,.int .u8 98,.int .u8 98,.slice none 0 0]),(12,.agg #[.i 2,.int .u8 97,.int .u8 97,.slice none 0 0]),(3,.i t11),(11,.i t11),(10,.i q),(2,.s0),(0,.i q)] ai):aj V N5 #[.i q] w R:=
 wW (R:=R) (fn:=Tryz.f55) (c:=C0) (args:=[.i q]) (by kernel_rfl) (by kernel_rfl) (by kernel_rfl) (sr C0 (show(λ(E:Env) (w:J)=>dY V C0 (λE w=>dY V C1 (λE w=>dY V C2 (λE w=>dY V C3 (λE w=>dY V C4 (λE w=>dY V C5 (λE w=>dY V C6 (λE w=>yA V C7 (K9 R) E w) E w) E w) E w) E w) E w) E w) E w) (kS 0 [.i q]) w from mp h) λ_ _ d=>(sr C1 d λ_ _ d=>(sr C2 d λ_ _ d=>(sr C3 d λ_ _ d=>(sr C4 d λ_ _ d=>(sr C5 d λ_ _ d=>(sr C6 d λ_ _ d=>(si C7 (by kernel_rfl) d λ_ _ d=>(let ⟨s,k,h9,h3,h⟩:=d;af7 (E':=[(9,s.v),(3,.i k)]) (afb h9 h3) (sr C8 (show dY V C8 (λE w=>lW V Tryz.f55 E w (λv=>R (ae v) w)) [(9,s.v),(3,.i k)] _ from mp h) λ_ _ d=>(rt C9 λa hA=>yq hA d)))))))))))
end xm
inductive wH where
 |tr (x:Rx)
 |ls (l:List Rx)
def xO(base:Nat)(w:J)(v:Option aa):wH->Prop
 |.tr d=>∃t:I,v=some t.v/\t.rx=d/\t.P w/\∀b∈t.fp,base<=b
 |.ls l=>∃(s:Sl) (U:List I),v=some s.v/\I.aw U=l/\(bV s U).P w/\∀b∈(bV s U).fp,base<=b
def xO.br{base:Nat}{w Y:J}{v:Option aa}{x:wH}(h:xO base w v x)(f:af w Y):xO base Y v x:=by
 cases x with
 |tr z=>obtain⟨t,d,j,k,q⟩:=h;exact⟨t,d,j,k.br f,q⟩
 |ls l=>obtain⟨s,y,d,j,k,q⟩:=h;exact⟨s,y,d,j,k.br f,q⟩
def dG(i:Nat):Nat:=if i=40 then 9 else 39+i
def j9(base:Nat)(w:J)(E:Env)(t:Nat)(x:Rx):Prop:=∃(b:Nat) (u:I),E.get? t=some (.pointer (some (ab b)))/\w.heap[b]? =some (.cells u.c.toArray aT (0,0))/\u.rx=x/\u.P w/\∀c∈u.fp,base<=c
def j9.br{base:Nat}{w Y:J}{E:Env}{t:Nat}{x:Rx}(h:j9 base w E t x)(f:af w Y):j9 base Y E t x:=by obtain⟨b,u,j,d,k,q,y⟩:=h;exact⟨b,u,j,(f.cC b (lt_of_heap d) id).trans d,k,q.br f,y⟩
def j9.put{base:Nat}{w:J}{E:Env}{t d:Nat}{v:aa}{x:Rx}(h:j9 base w E t x)(q:d≠t):j9 base w (E.put (some d) v) t x:=by obtain⟨b,u,j,k⟩:=h;exact⟨b,u,by rw[h0 q];exact j,k⟩
section
variable (w0:J) (base:Nat) (kk:Int) (Xa Xb Xc Xs:Rx)
def dX:List wH:=[.tr Xa,
 .tr Xa,
 .tr Xb,
 .ls [Xa,Xb],
 .tr (.mk 3 0 0 [Xa,Xb]),
 .tr Xa,
 .tr Xb,
 .tr Xc,
 .ls [Xa,Xb,Xc],
 .tr (.mk 4 0 0 [Xa,Xb,Xc]),
 .tr Xs,
 .tr Xs,
 .tr Xb,
 .ls [Xs,Xb],
 .tr (.mk 3 0 0 [Xs,Xb]),
 .tr Xa,
 .tr Xb,
 .ls [Xa,Xb],
 .tr (.mk 3 0 0 [Xa,Xb]),
 .ls [(.mk 3 0 0 [Xa,Xb])],
 .tr (.mk 6 0 0 [(.mk 3 0 0 [Xa,Xb])]),
 .tr Xb,
 .tr Xa,
 .tr Xc,
 .ls [Xa,Xc],
 .tr (.mk 4 0 0 [Xa,Xc]),
 .ls [(.mk 4 0 0 [Xa,Xc])],
 .tr (.mk 7 0 0 [(.mk 4 0 0 [Xa,Xc])]),
 .ls [Xb,(.mk 7 0 0 [(.mk 4 0 0 [Xa,Xc])])],
 .tr (.mk 3 0 0 [Xb,(.mk 7 0 0 [(.mk 4 0 0 [Xa,Xc])])]),
 .tr Xb,
 .ls [Xb],
 .tr (.mk 6 0 0 [Xb]),
 .tr Xa,
 .tr eX,
 .ls [Xa,eX],
 .tr (.mk 3 0 0 [Xa,eX]),
 .ls [(.mk 6 0 0 [Xb]),(.mk 3 0 0 [Xa,eX])],
 .tr (.mk 5 0 0 [(.mk 6 0 0 [Xb]),(.mk 3 0 0 [Xa,eX])]),
 .ls [Xa,(.mk 3 0 0 [Xa,Xb]),(.mk 4 0 0 [Xa,Xb,Xc]),Xs,(.mk 3 0 0 [Xs,Xb]),(.mk 6 0 0 [(.mk 3 0 0 [Xa,Xb])]),(.mk 3 0 0 [Xb,(.mk 7 0 0 [(.mk 4 0 0 [Xa,Xc])])]),(.mk 5 0 0 [(.mk 6 0 0 [Xb]),(.mk 3 0 0 [Xa,eX])])],
 .ls [Xa,(.mk 3 0 0 [Xa,Xb]),(.mk 4 0 0 [Xa,Xb,Xc]),Xs,(.mk 3 0 0 [Xs,Xb]),(.mk 6 0 0 [(.mk 3 0 0 [Xa,Xb])]),(.mk 3 0 0 [Xb,(.mk 7 0 0 [(.mk 4 0 0 [Xa,Xc])])]),(.mk 5 0 0 [(.mk 6 0 0 [Xb]),(.mk 3 0 0 [Xa,eX])])]]
structure JT(L:Nat->Bool)(E:Env)(w:J):Prop where
 fr:af w0 w
 k:E.get? 3=some (.i kk)
 a:j9 base w E 5 Xa
 b:j9 base w E 6 Xb
 c:j9 base w E 7 Xc
 s:j9 base w E 8 Xs
 all:∀(i:Nat) (sp:wH),(dX Xa Xb Xc Xs)[i]? =some sp->L i=true->xO base w (E.get? (dG i)) sp
variable {w0 base kk Xa Xb Xc Xs}
def JT.step{L:Nat->Bool}{E:Env}{w Y:J}(j:JT w0 base kk Xa Xb Xc Xs L E w)(f:af w Y){i d:Nat}(y:d=dG i){v:aa}{B:wH}(A:(dX Xa Xb Xc Xs)[i]? =some B)(h:xO base Y (some v) B):JT w0 base kk Xa Xb Xc Xs (dC L i) (E.put (some d) v) Y:=by
 have H:9<=d:=by rw[y];unfold dG;grind
 refine⟨j.fr.dN f,by rw[h0 co];exact j.k,(j.a.br f).put co,(j.b.br f).put co,(j.c.br f).put co,(j.s.br f).put co,λq sq x G=>?_⟩;by_cases z:q=i
 .subst z;rw[A]at x;cases x;rw[<-y,o9];exact h
 .have C:d≠dG q:=by
   rw[y];have D:i<41:=(cV.1 A).1;have F:q<41:=(cV.1 x).1;unfold dG
   grind
  rw[h0 C];refine(j.all q sq x ?_).br f;have:cg q i=false:=by rw[<-jB,Nat.beq_eq];exact z
  grind
abbrev je(w0:J)(base:Nat)(kk:Int)(Xa Xb Xc Xs:Rx)(i:Nat)(r:Op×Option Nat×aC×List Nat):Prop:=wE V (JT w0 base kk Xa Xb Xc Xs) i r
def abc{b:Nat}{u:I}{w:J}(d:w.heap[b]? =some (.cells u.c.toArray aT (0,0))){K:aa->Prop}(C:K u.v):nc V aT (ab b) w λv _=>K v:=by
 have y:=cellAt (p:=ab b) (i:=0) (v:=.int .i64 u.k) d rfl rfl;have z:=cellAt (p:=ab b) (i:=1) (v:=.int .u8 (u.lo.toNat:Int)) d rfl rfl;have A:=cellAt (p:=ab b) (i:=2) (v:=.int .u8 (u.hi.toNat:Int)) d rfl rfl;have B:=cellAt (p:=ab b) (i:=3) (v:=u.s.v) d rfl rfl;have e:(nc V aT (ab b) w λv _=>K v)=(∃h:Int,∃j:Int,∃q:Int,∃x:Sl,w.cell? ((ab b).add 0)=some (.int .i64 h)/\w.cell? ((ab b).add 1)=some (.int .u8 j)/\w.cell? ((ab b).add 2)=some (.int .u8 q)/\w.cell? ((ab b).add 3)=some x.v/\K (.agg #[.int .i64 h,.int .u8 j,.int .u8 q,x.v])):=by kernel_rfl
 grind
def Bu{ty:aC}{ds:List Nat}{t:Nat}{x:Rx}(i d:Nat)(C:d=dG i)(F:(dX Xa Xb Xc Xs)[i]? =some (.tr x))(G:∀k h j,JT w0 base kk Xa Xb Xc Xs k h j->j9 base j h t x):je w0 base kk Xa Xb Xc Xs i (.load aT (.tmp t),some d,ty,ds):=by intro k h j o E D K I H q;obtain⟨b,u,w,y,z,A,B⟩:=G k h j q;refine qY E w (abc y ?_);rw[D];exact q.step (Fr.refl _ _) C F ⟨u,rfl,z,A,B⟩
def vE{ty:aC}{ds:List Nat}(i d:Nat)(k:(dX Xa Xb Xc Xs)[i]? =some (.tr Xa))(j:d=dG i:=by rfl):je w0 base kk Xa Xb Xc Xs i (.load aT (.tmp 5),some d,ty,ds):=Bu i d j k λ_ _ _ h=>h.a
def vF{ty:aC}{ds:List Nat}(i d:Nat)(k:(dX Xa Xb Xc Xs)[i]? =some (.tr Xb))(j:d=dG i:=by rfl):je w0 base kk Xa Xb Xc Xs i (.load aT (.tmp 6),some d,ty,ds):=Bu i d j k λ_ _ _ h=>h.b
def Ty{ty:aC}{ds:List Nat}(i d:Nat)(k:(dX Xa Xb Xc Xs)[i]? =some (.tr Xc))(j:d=dG i:=by rfl):je w0 base kk Xa Xb Xc Xs i (.load aT (.tmp 7),some d,ty,ds):=Bu i d j k λ_ _ _ h=>h.c
def Tz{ty:aC}{ds:List Nat}(i d:Nat)(k:(dX Xa Xb Xc Xs)[i]? =some (.tr Xs))(j:d=dG i:=by rfl):je w0 base kk Xa Xb Xc Xs i (.load aT (.tmp 8),some d,ty,ds):=Bu i d j k λ_ _ _ h=>h.s
def ad8(a:I)(w:J):(Instr.buildSlice dE 1 #[((0:Nat),a.v)]).run V w=.ok (.slice (some (ab w.heap.size)) 1 1) (w.alloc (.cells ([a].flatMap I.c).toArray aT)):=by kernel_rfl
def ad9(a b:I)(w:J):(Instr.buildSlice dE 2 #[((0:Nat),a.v),(1,b.v)]).run V w=.ok (.slice (some (ab w.heap.size)) 2 2) (w.alloc (.cells ([a,b].flatMap I.c).toArray aT)):=by kernel_rfl
def ad'(a b c:I)(w:J):(Instr.buildSlice dE 3 #[((0:Nat),a.v),(1,b.v),(2,c.v)]).run V w=.ok (.slice (some (ab w.heap.size)) 3 3) (w.alloc (.cells ([a,b,c].flatMap I.c).toArray aT)):=by kernel_rfl
def aea(a b c d e g r s:I)(w:J):(Instr.buildSlice dE 8 #[((0:Nat),a.v),(1,b.v),(2,c.v),(3,d.v),(4,e.v),(5,g.v),(6,r.v),(7,s.v)]).run V w=.ok (.slice (some (ab w.heap.size)) 8 8) (w.alloc (.cells ([a,b,c,d,e,g,r,s].flatMap I.c).toArray aT)):=by kernel_rfl
def BM{o:Oper}{T:aC}{n:Nat}{parts:Array (Nat×Operand)}{E:Env}{w Y:J}{v:aa}{K:Env->J->Prop}(d:o.op=.buildSlice T n parts)(j:E.ef o=true)(q:(Instr.buildSlice T n (parts.map λp=>(p.1,E.ev p.2))).run V w=.ok v Y)(h:K (E.put o.dst v) Y):gS V o E w K:=by
 obtain⟨dst,op,y,pos,after,guard⟩:=o;simp only at d;subst d;have k:ql V ⟨dst,.buildSlice T n parts,y,pos,after,guard⟩ E w (λv Y=>K (E.put dst v) Y):=by unfold ql;rw[j];show cS true _;simp only[execOp];rw[show(λ(x:Nat×Operand)=>match x with |(i,x)=>(i,E.ev x))=λp=>(p.1,E.ev p.2)from rfl];simp[q];exact h
 unfold gS;simp only[calm,cond_false];unfold hL;exact k
def kj{E:Env}{t:Nat}{v:aa}(h:E.get? t=some v):E.ev (.tmp t)=v:=by simp[Env.ev,Env.val,h]
def Ay{w:J}{U:List I}{n:Nat}(k:n=U.length)(A:n<=1000)(q:I.Ps w U)(z:∀b∈I.be U,base<=b)(y:base<=w.heap.size):
  (bV ⟨some (ab w.heap.size),n,n⟩ U).P (w.alloc (.cells (U.flatMap I.c).toArray aT))/\∀b∈(bV ⟨some (ab w.heap.size),n,n⟩ U).fp,base<=b:=by
 have x:=aF.made w aT 4 n (U.flatMap I.c) (by rw[I.e7,k]) (by unfold maxLen;omega);refine⟨dJ.2 ⟨x.bd,q.br (Fr.alloc _ _ _)⟩,λb h=>?_⟩;rcases mF.1 h with d|d
 .exact yk (λc j=>by simp only[ax,aq,aL,aR]at j;omega) b d
 grind
def JT.wO{L:Nat->Bool}{E:Env}{w:J}(d:JT w0 base kk Xa Xb Xc Xs L E w)(h:base<=w0.heap.size):base<=w.heap.size:=bz h d.fr.size
section
variable (xK:base<=w0.heap.size)
include xK
def Hp{ty:aC}{ds:List Nat}(i d h:Nat){y:Nat}{A:Rx}(L:(dX Xa Xb Xc Xs)[i]? =some (.ls [A]))(F:(dX Xa Xb Xc Xs)[h]? =some (.tr A))(M:h∈ds)(G:d=dG i:=by rfl)(E:y=dG h:=by rfl):je w0 base kk Xa Xb Xc Xs i (.buildSlice dE 1 #[(0,.tmp y)],some d,ty,ds):=by
 intro N B j o x K Q P H k;obtain⟨a,q,C,O,D⟩:=k.all h _ F (H h M);rw[<-E]at q;have z:=Ay (base:=base) (w:=j) (U:=[a]) (n:=1) rfl co (I.i0 (by grind)) (by simp[I.be];exact D) (k.wO xK);refine BM (Y:=j.alloc (.cells ([a].flatMap I.c).toArray aT)) (v:=.slice (some (ab j.heap.size)) 1 1) x (by obtain⟨_,op,_,_,_,_⟩:=o;simp only at x;subst x;simp[Env.ef,Op.operands,Env.val,q]) ?_ ?_
 .rw [show(#[((0:Nat),Operand.tmp y)].map λp=>(p.1,B.ev p.2))=#[((0:Nat),a.v)]by simp[kj q]];exact ad8 a j
 .rw [K];exact k.step (Fr.alloc _ _ _) G L ⟨⟨some (ab j.heap.size),1,1⟩,[a],rfl,by simp[I.aw,C],z.1,z.2⟩
def sY{ty:aC}{ds:List Nat}(i d h j:Nat){A B:Nat}{E F:Rx}(S:(dX Xa Xb Xc Xs)[i]? =some (.ls [E,F]))(N:(dX Xa Xb Xc Xs)[h]? =some (.tr E))(O:(dX Xa Xb Xc Xs)[j]? =some (.tr F))(T:h∈ds)(m1:j∈ds)(P:d=dG i:=by rfl)(L:A=dG h:=by rfl)(M:B=dG j:=by rfl):je w0 base kk Xa Xb Xc Xs i (.buildSlice dE 2 #[(0,.tmp A),(1,.tmp B)],some d,ty,ds):=by
 intro W G k o z Q ht hi C q;obtain⟨a,x,H,Z,a4⟩:=q.all h _ N (C h T);obtain⟨b,y,K,b3,b4⟩:=q.all j _ O (C j m1);rw[<-L]at x;rw[<-M]at y;have D:=Ay (base:=base) (w:=k) (U:=[a,b]) (n:=2) rfl co (I.i0 (by grind)) (by simp[I.be];grind) (q.wO xK);refine BM (Y:=k.alloc (.cells ([a,b].flatMap I.c).toArray aT)) (v:=.slice (some (ab k.heap.size)) 2 2) z (by obtain⟨_,op,_,_,_,_⟩:=o;simp only at z;subst z;simp[Env.ef,Op.operands,Env.val,x,y]) ?_ ?_
 .rw [show(#[((0:Nat),Operand.tmp A),(1,.tmp B)].map λp=>(p.1,G.ev p.2))=#[((0:Nat),a.v),(1,b.v)]by simp[kj x,kj y]];exact ad9 a b k
 .rw [Q];exact q.step (Fr.alloc _ _ _) P S ⟨⟨some (ab k.heap.size),2,2⟩,[a,b],rfl,by simp[I.aw,H,K],D.1,D.2⟩
def adY{ty:aC}{ds:List Nat}(i d j k q:Nat){D E t2:Nat}{G H K:Rx}(hs:(dX Xa Xb Xc Xs)[i]? =some (.ls [G,H,K]))(T:(dX Xa Xb Xc Xs)[j]? =some (.tr G))(W:(dX Xa Xb Xc Xs)[k]? =some (.tr H))(Z:(dX Xa Xb Xc Xs)[q]? =some (.tr K))(m0:j∈ds)(m1:k∈ds)(m2:q∈ds)(hd:d=dG i:=by rfl)(P:D=dG j:=by rfl)(Q:E=dG k:=by rfl)(S:t2=dG q:=by rfl):je w0 base kk Xa Xb Xc Xs i (.buildSlice dE 3 #[(0,.tmp D),(1,.tmp E),(2,.tmp t2)],some d,ty,ds):=by
 intro ac L x o C aa ht hi B h;obtain⟨a,y,M,a3,a4⟩:=h.all j _ T (B j m0);obtain⟨b,z,N,b3,b4⟩:=h.all k _ W (B k m1);obtain⟨c,A,O,c3,c4⟩:=h.all q _ Z (B q m2);rw[<-P]at y;rw[<-Q]at z;rw[<-S]at A;have F:=Ay (base:=base) (w:=x) (U:=[a,b,c]) (n:=3) rfl co (I.i0 (by grind)) (by simp[I.be];grind) (h.wO xK);refine BM (Y:=x.alloc (.cells ([a,b,c].flatMap I.c).toArray aT)) (v:=.slice (some (ab x.heap.size)) 3 3) C (by obtain⟨_,op,_,_,_,_⟩:=o;simp only at C;subst C;simp[Env.ef,Op.operands,Env.val,y,z,A]) ?_ ?_
 .rw [show(#[((0:Nat),Operand.tmp D),(1,.tmp E),(2,.tmp t2)].map λp=>(p.1,L.ev p.2))=#[((0:Nat),a.v),(1,b.v),(2,c.v)]by simp[kj y,kj z,kj A]];exact ad' a b c x
 .rw [aa];exact h.step (Fr.alloc _ _ _) hd hs ⟨⟨some (ab x.heap.size),3,3⟩,[a,b,c],rfl,by simp[I.aw,M,N,O],F.1,F.2⟩
def adZ{ty:aC}{ds:List Nat}(i d k q x y z A B C:Nat){Q S t2 t3 t4 T W Z:Nat}{x0 x1 x2 x3 x4 x5 x6 x7:Rx}(hs:(dX Xa Xb Xc Xs)[i]? =some (.ls [x0,x1,x2,x3,x4,x5,x6,x7]))(h0:(dX Xa Xb Xc Xs)[k]? =some (.tr x0))(h1:(dX Xa Xb Xc Xs)[q]? =some (.tr x1))(h2:(dX Xa Xb Xc Xs)[x]? =some (.tr x2))(h3:(dX Xa Xb Xc Xs)[y]? =some (.tr x3))(h4:(dX Xa Xb Xc Xs)[z]? =some (.tr x4))(h5:(dX Xa Xb Xc Xs)[A]? =some (.tr x5))(h6:(dX Xa Xb Xc Xs)[B]? =some (.tr x6))(h7:(dX Xa Xb Xc Xs)[C]? =some (.tr x7))(m0:k∈ds)(m1:q∈ds)(m2:x∈ds)(m3:y∈ds)(m4:z∈ds)(m5:A∈ds)(m6:B∈ds)(m7:C∈ds)(hd:d=dG i:=by rfl)(e0:Q=dG k:=by rfl)(e1:S=dG q:=by rfl)(e2:t2=dG x:=by rfl)(e3:t3=dG y:=by rfl)(e4:t4=dG z:=by rfl)(e5:T=dG A:=by rfl)(e6:W=dG B:=by rfl)(e7:Z=dG C:=by rfl):
  je w0 base kk Xa Xb Xc Xs i (.buildSlice dE 8 #[(0,.tmp Q),(1,.tmp S),(2,.tmp t2),(3,.tmp t3),(4,.tmp t4),(5,.tmp T),(6,.tmp W),(7,.tmp Z)],some d,ty,ds):=by
 intro ad aa E o M ac ht hi j h;obtain⟨a,F,a2,a3,a4⟩:=h.all k _ h0 (j k m0);obtain⟨b,G,b2,b3,b4⟩:=h.all q _ h1 (j q m1);obtain⟨c,H,c2,c3,c4⟩:=h.all x _ h2 (j x m2);obtain⟨D,N,q2,q3,q4⟩:=h.all y _ h3 (j y m3);obtain⟨e,K,f2,f3,f4⟩:=h.all z _ h4 (j z m4);obtain⟨g,L,g2,g3,g4⟩:=h.all A _ h5 (j A m5);obtain⟨r,O,r2,r3,r4⟩:=h.all B _ h6 (j B m6);obtain⟨s,P,s2,s3,s4⟩:=h.all C _ h7 (j C m7);rw[<-e0]at F;rw[<-e1]at G;rw[<-e2]at H;rw[<-e3]at N;rw[<-e4]at K;rw[<-e5]at L;rw[<-e6]at O;rw[<-e7]at P;have hm:=Ay (base:=base) (w:=E) (U:=[a,b,c,D,e,g,r,s]) (n:=8) rfl co (I.i0 (by simp[a3,b3,c3,q3,f3,g3,r3,s3])) (by
  intro ae hz;obtain⟨t,ht,hy⟩:=I.bZ.1 hz;clear hz;simp only[aq,aL,aR]at ht
  grind) (h.wO xK)
 refine BM (Y:=E.alloc (.cells ([a,b,c,D,e,g,r,s].flatMap I.c).toArray aT)) (v:=.slice (some (ab E.heap.size)) 8 8) M (by obtain⟨_,op,_,_,_,_⟩:=o;simp only at M;subst M;simp[Env.ef,Op.operands,Env.val,F,G,H,N,K,L,O,P]) ?_ ?_
 .rw [show(#[((0:Nat),Operand.tmp Q),(1,.tmp S),(2,.tmp t2),(3,.tmp t3),(4,.tmp t4),(5,.tmp T),(6,.tmp W),(7,.tmp Z)].map λp=>(p.1,aa.ev p.2))=#[((0:Nat),a.v),(1,b.v),(2,c.v),(3,D.v),(4,e.v),(5,g.v),(6,r.v),(7,s.v)]by simp[kj F,kj G,kj H,kj N,kj K,kj L,kj O,kj P]];exact aea a b c D e g r s E
 .rw [ac];exact h.step (Fr.alloc _ _ _) hd hs ⟨⟨some (ab E.heap.size),8,8⟩,[a,b,c,D,e,g,r,s],rfl,by simp[I.aw,a2,b2,c2,q2,f2,g2,r2,s2],hm.1,hm.2⟩
end
def aeK{o:Oper}{k:Int}{t:Nat}{s:Sl}{E:Env}{w:J}{K:Env->J->Prop}(B:k=3\/k=4\/k=5\/k=6\/k=7)(q:o.op=.build aT #[(0,.const (.int .i64 k)),(3,.tmp t)])(x:E.get? t=some s.v)(h:K (E.put o.dst (.agg #[.i k,.int .u8 0,.int .u8 0,s.v])) w):gS V o E w K:=by
 obtain⟨dst,op,d,pos,after,guard⟩:=o;simp only at q;subst q;show gm V _ E (λv _=>K (E.put dst v) w);have A:E.ef ⟨dst,.build aT #[(0,.const (.int .i64 k)),(3,.tmp t)],d,pos,after,guard⟩=true:=by simp[Env.ef,Op.operands,Env.val,x]
 unfold gm;rw[A];have e:execOp E.ev ⟨dst,.build aT #[(0,.const (.int .i64 k)),(3,.tmp t)],d,pos,after,guard⟩=execOp (λj=>match j with |.const v=>v|_=>s.v) ⟨dst,.build aT #[(0,.const (.int .i64 k)),(3,.tmp t)],d,pos,after,guard⟩:=by
  have:E.ev (.tmp t)=s.v:=kj x;have z:E.ev (.const (.int .i64 k))=.int .i64 k:=by simp[Env.ev,Env.val]
  simp only[execOp,List.map_toArray,hn,List.map_nil,this,z]
 rw[e];have y:qJ V (execOp (λj=>match j with |.const v=>v|_=>s.v) ⟨dst,.build aT #[(0,.const (.int .i64 k)),(3,.tmp t)],d,pos,after,guard⟩)=some (.value (.agg #[.i k,.int .u8 0,.int .u8 0,s.v])):=by kernel_rfl
 rw[y];exact h
def yr{ty:aC}{ds:List Nat}(k:Int)(F:k=3\/k=4\/k=5\/k=6\/k=7)(i d j:Nat){t:Nat}{l:List Rx}(H:(dX Xa Xb Xc Xs)[i]? =some (.tr (.mk k 0 0 l)))(B:(dX Xa Xb Xc Xs)[j]? =some (.ls l))(m:j∈ds)(C:d=dG i)(A:t=dG j):je w0 base kk Xa Xb Xc Xs i (.build aT #[(0,.const (.int .i64 k)),(3,.tmp t)],some d,ty,ds):=by
 intro M L Q o G E O N D h;obtain⟨s,K,q,x,y,z⟩:=h.all j _ B (D j m);rw[<-A]at q;refine aeK F G q ?_;rw[E];refine h.step (Fr.refl _ _) C H ⟨.mk k 0 0 s K,rfl,by rw[<-x];rfl,?_,λb w=>z b ?_⟩
 .have:=dJ.1 y;unfold I.P;omega
 .unfold I.fp at w;unfold bV I.fp;exact w
def yt{ty:aC}{ds:List Nat}(i d j:Nat){t:Nat}{l:List Rx}(w:(dX Xa Xb Xc Xs)[i]? =some (.tr (.mk 3 0 0 l)))(k:(dX Xa Xb Xc Xs)[j]? =some (.ls l))(m:j∈ds)(q:d=dG i:=by rfl)(h:t=dG j:=by rfl):je w0 base kk Xa Xb Xc Xs i (.build aT #[(0,.const (.int .i64 3)),(3,.tmp t)],some d,ty,ds):=yr 3 co i d j w k m q h
def Tw{ty:aC}{ds:List Nat}(i d j:Nat){t:Nat}{l:List Rx}(w:(dX Xa Xb Xc Xs)[i]? =some (.tr (.mk 4 0 0 l)))(k:(dX Xa Xb Xc Xs)[j]? =some (.ls l))(m:j∈ds)(q:d=dG i:=by rfl)(h:t=dG j:=by rfl):je w0 base kk Xa Xb Xc Xs i (.build aT #[(0,.const (.int .i64 4)),(3,.tmp t)],some d,ty,ds):=yr 4 co i d j w k m q h
def adW{ty:aC}{ds:List Nat}(i d j:Nat){t:Nat}{l:List Rx}(w:(dX Xa Xb Xc Xs)[i]? =some (.tr (.mk 5 0 0 l)))(k:(dX Xa Xb Xc Xs)[j]? =some (.ls l))(m:j∈ds)(q:d=dG i:=by rfl)(h:t=dG j:=by rfl):je w0 base kk Xa Xb Xc Xs i (.build aT #[(0,.const (.int .i64 5)),(3,.tmp t)],some d,ty,ds):=yr 5 co i d j w k m q h
def Tx{ty:aC}{ds:List Nat}(i d j:Nat){t:Nat}{l:List Rx}(w:(dX Xa Xb Xc Xs)[i]? =some (.tr (.mk 6 0 0 l)))(k:(dX Xa Xb Xc Xs)[j]? =some (.ls l))(m:j∈ds)(q:d=dG i:=by rfl)(h:t=dG j:=by rfl):je w0 base kk Xa Xb Xc Xs i (.build aT #[(0,.const (.int .i64 6)),(3,.tmp t)],some d,ty,ds):=yr 6 co i d j w k m q h
def adX{ty:aC}{ds:List Nat}(i d j:Nat){t:Nat}{l:List Rx}(w:(dX Xa Xb Xc Xs)[i]? =some (.tr (.mk 7 0 0 l)))(k:(dX Xa Xb Xc Xs)[j]? =some (.ls l))(m:j∈ds)(q:d=dG i:=by rfl)(h:t=dG j:=by rfl):je w0 base kk Xa Xb Xc Xs i (.build aT #[(0,.const (.int .i64 7)),(3,.tmp t)],some d,ty,ds):=yr 7 co i d j w k m q h
def ad1{ty:aC}{ds:List Nat}(i d j:Nat){t:Nat}{l:List Rx}(E:(dX Xa Xb Xc Xs)[i]? =some (.ls l))(z:(dX Xa Xb Xc Xs)[j]? =some (.ls l))(m:j∈ds)(A:d=dG i:=by rfl)(y:t=dG j:=by rfl):je w0 base kk Xa Xb Xc Xs i (.assign (.tmp t),some d,ty,ds):=by intro H G L o D C K I B h;obtain⟨s,F,k,q,w,x⟩:=h.all j _ z (B j m);rw[<-y]at k;refine ny (.inr D) k ?_;rw[C];exact h.step (Fr.refl _ _) A E ⟨s,F,rfl,q,w,x⟩
def ad0{ds:List Nat}(K:base<=w0.heap.size)(i d:Nat)(P:(dX Xa Xb Xc Xs)[i]? =some (.tr eX))(O:d=dG i:=by rfl):je w0 base kk Xa Xb Xc Xs i (.call ⟨.value (.func pg),#[],#[]⟩,some d,aT,ds):=by
 intro q h E o y x z S Q w;obtain⟨dst,op,T,pos,after,guard⟩:=o;simp only at y x z;subst y;subst x;subst z;have L:h.ef ⟨some d,.call ⟨.value (.func pg),#[],#[]⟩,aT,pos,after,guard⟩=true:=by simp[Env.ef,Op.operands,Call.operands,Env.val]
 have M:hG V pg=true:=by kernel_rfl
 have N:calm V ⟨some d,.call ⟨.value (.func pg),#[],#[]⟩,aT,pos,after,guard⟩=false:=rfl;unfold gS;rw[N,cond_false];unfold hL;dsimp only;rw[L,M];simp only[List.map_toArray,List.map_nil,cond_true];refine(show qh V pg #[] (zeroOf V aT) E (λv j=>JT w0 base kk Xa Xb Xc Xs (dC q i) (h.put (some d) v) j)from ?_);refine(DI E).mono ?_;rintro _ j ⟨⟨t,rfl,F,G,H⟩,f⟩;have e:oa (zeroOf V aT) (λv=>Ending.returned t.v=ae v/\JT w0 base kk Xa Xb Xc Xs (dC q i) (h.put (some d) v) j)=∃A:Int,∃B:Int,∃C:Int,∃D:Sl,Ending.returned t.v=ae (.agg #[.int .i64 A,.int .u8 B,.int .u8 C,D.v])/\JT w0 base kk Xa Xb Xc Xs (dC q i) (h.put (some d) (.agg #[.int .i64 A,.int .u8 B,.int .u8 C,D.v])) j:=by kernel_rfl
 rw[e];exact⟨t.k,t.lo.toNat,t.hi.toNat,t.s,rfl,w.step f O P ⟨t,rfl,F,G,λb I=>bz (w.wO K) (H b I)⟩⟩
def Ve:List (Op×Option Nat×aC×List Nat):=[(.load aT (.tmp 5),some 39,aT,[]),
 (.load aT (.tmp 5),some 40,aT,[]),
 (.load aT (.tmp 6),some 41,aT,[]),
 (.buildSlice dE 2 #[(0,.tmp 40),(1,.tmp 41)],some 42,dE,[1,2]),
 (.build aT #[(0,.const (.int .i64 3)),(3,.tmp 42)],some 43,aT,[3]),
 (.load aT (.tmp 5),some 44,aT,[]),
 (.load aT (.tmp 6),some 45,aT,[]),
 (.load aT (.tmp 7),some 46,aT,[]),
 (.buildSlice dE 3 #[(0,.tmp 44),(1,.tmp 45),(2,.tmp 46)],some 47,dE,[5,6,7]),
 (.build aT #[(0,.const (.int .i64 4)),(3,.tmp 47)],some 48,aT,[8]),
 (.load aT (.tmp 8),some 49,aT,[]),
 (.load aT (.tmp 8),some 50,aT,[]),
 (.load aT (.tmp 6),some 51,aT,[]),
 (.buildSlice dE 2 #[(0,.tmp 50),(1,.tmp 51)],some 52,dE,[11,12]),
 (.build aT #[(0,.const (.int .i64 3)),(3,.tmp 52)],some 53,aT,[13]),
 (.load aT (.tmp 5),some 54,aT,[]),
 (.load aT (.tmp 6),some 55,aT,[]),
 (.buildSlice dE 2 #[(0,.tmp 54),(1,.tmp 55)],some 56,dE,[15,16]),
 (.build aT #[(0,.const (.int .i64 3)),(3,.tmp 56)],some 57,aT,[17]),
 (.buildSlice dE 1 #[(0,.tmp 57)],some 58,dE,[18]),
 (.build aT #[(0,.const (.int .i64 6)),(3,.tmp 58)],some 59,aT,[19]),
 (.load aT (.tmp 6),some 60,aT,[]),
 (.load aT (.tmp 5),some 61,aT,[]),
 (.load aT (.tmp 7),some 62,aT,[]),
 (.buildSlice dE 2 #[(0,.tmp 61),(1,.tmp 62)],some 63,dE,[22,23]),
 (.build aT #[(0,.const (.int .i64 4)),(3,.tmp 63)],some 64,aT,[24]),
 (.buildSlice dE 1 #[(0,.tmp 64)],some 65,dE,[25]),
 (.build aT #[(0,.const (.int .i64 7)),(3,.tmp 65)],some 66,aT,[26]),
 (.buildSlice dE 2 #[(0,.tmp 60),(1,.tmp 66)],some 67,dE,[21,27]),
 (.build aT #[(0,.const (.int .i64 3)),(3,.tmp 67)],some 68,aT,[28]),
 (.load aT (.tmp 6),some 69,aT,[]),
 (.buildSlice dE 1 #[(0,.tmp 69)],some 70,dE,[30]),
 (.build aT #[(0,.const (.int .i64 6)),(3,.tmp 70)],some 71,aT,[31]),
 (.load aT (.tmp 5),some 72,aT,[]),
 (.call ⟨.value (.func pg),#[],#[]⟩,some 73,aT,[]),
 (.buildSlice dE 2 #[(0,.tmp 72),(1,.tmp 73)],some 74,dE,[33,34]),
 (.build aT #[(0,.const (.int .i64 3)),(3,.tmp 74)],some 75,aT,[35]),
 (.buildSlice dE 2 #[(0,.tmp 71),(1,.tmp 75)],some 76,dE,[32,36]),
 (.build aT #[(0,.const (.int .i64 5)),(3,.tmp 76)],some 77,aT,[37]),
 (.buildSlice dE 8 #[(0,.tmp 39),(1,.tmp 43),(2,.tmp 48),(3,.tmp 49),(4,.tmp 53),(5,.tmp 59),(6,.tmp 68),(7,.tmp 77)],some 78,dE,[0,4,9,10,14,20,29,38]),
 (.assign (.tmp 78),some 9,dE,[39,34,0,1,2,3,4,5,6,7,8,9,10,11,12,13,14,15,16,17,18,19,20,21,22,23,24,25,26,27,28,29,30,31,32,33,34,35,36,37,38,39])]
def ad3(d:base<=w0.heap.size):allI (wE V (JT w0 base kk Xa Xb Xc Xs)) Ve 0:=
 ⟨(vE 0 39 rfl),
  (vE 1 40 rfl),
  (vF 2 41 rfl),
  (sY d 3 42 1 2 rfl rfl rfl ws ws),
  (yt 4 43 3 rfl rfl ws),
  (vE 5 44 rfl),
  (vF 6 45 rfl),
  (Ty 7 46 rfl),
  (adY d 8 47 5 6 7 rfl rfl rfl rfl ws ws ws),
  (Tw 9 48 8 rfl rfl ws),
  (Tz 10 49 rfl),
  (Tz 11 50 rfl),
  (vF 12 51 rfl),
  (sY d 13 52 11 12 rfl rfl rfl ws ws),
  (yt 14 53 13 rfl rfl ws),
  (vE 15 54 rfl),
  (vF 16 55 rfl),
  (sY d 17 56 15 16 rfl rfl rfl ws ws),
  (yt 18 57 17 rfl rfl ws),
  (Hp d 19 58 18 rfl rfl ws),
  (Tx 20 59 19 rfl rfl ws),
  (vF 21 60 rfl),
  (vE 22 61 rfl),
  (Ty 23 62 rfl),
  (sY d 24 63 22 23 rfl rfl rfl ws ws),
  (Tw 25 64 24 rfl rfl ws),
  (Hp d 26 65 25 rfl rfl ws),
  (adX 27 66 26 rfl rfl ws),
  (sY d 28 67 21 27 rfl rfl rfl ws ws),
  (yt 29 68 28 rfl rfl ws),
  (vF 30 69 rfl),
  (Hp d 31 70 30 rfl rfl ws),
  (Tx 32 71 31 rfl rfl ws),
  (vE 33 72 rfl),
  (ad0 d 34 73 rfl),
  (sY d 35 74 33 34 rfl rfl rfl ws ws),
  (yt 36 75 35 rfl rfl ws),
  (sY d 37 76 32 36 rfl rfl rfl ws ws),
  (adW 38 77 37 rfl rfl ws),
  (adZ d 39 78 0 4 9 10 14 20 29 38 rfl rfl rfl rfl rfl rfl rfl rfl rfl ws ws ws ws ws ws ws ws),
  (ad1 40 9 39 rfl rfl ws),trivial⟩
end
def lM(k:Nat):Rx:=ET (fh (k%6)) (fh (k / 6%6)) (fh (k / 36%6)) (k / 216%8)
def RD(k:Nat):Bool:=db (lM k)&&Nat.ble (lM k).sz 1000&&iY (ec (lM k))&&Nat.ble (ec (lM k)).sz 1000
def acJ:(List.range 1728).all RD=true:=by kernel_rfl
def LQ(k:Nat):lM k=lM (k%1728):=by unfold lM;rw[show k%1728%6=k%6 by omega,show k%1728 / 6%6=k / 6%6 by omega,show k%1728 / 36%6=k / 36%6 by omega,show k%1728 / 216%8=k / 216%8 by omega]
def afy(k:Nat):db (lM k)=true/\(lM k).sz<=1000/\iY (ec (lM k))=true/\(ec (lM k)).sz<=1000:=by rw[LQ];have:=fa.1 acJ (k%1728) (List.mem_range.2 (Nat.mod_lt _ co));unfold RD at this;simp only[bH]at this;exact⟨this.1.1.1,Nat.le_of_ble_eq_true this.1.1.2,this.1.2,Nat.le_of_ble_eq_true this.2⟩
def Vw(k:Nat):mP k=bn (ec (lM k)):=rfl
def Vx(k:Nat):mP k=mP (k%1728):=by rw[Vw,Vw,LQ]
def X6(n m:Int)(w:J)(j:1<=m)(h:aX n):aj V u7 #[.i n,.i m] w λr d=>r=ae (.i (gA n m))/\af w d:=(Dn n m w j h).mono λr d h=>⟨h.1,h.2▸Fr.refl _ _⟩
def I6(d:I):List I:=[ng 2 97 97,ng 2 98 98,ng 2 0 0,ng 2 97 98,ng 1 0 0,d]
def Ds(h:I)(j:h.rx=eX){i:Nat}(hi:i<6):∃t,(I6 h)[i]? =some t/\t.rx=fh i/\(t=h\/∀d:J,t.P d/\∀b,¬b∈t.fp):=by
 have:i=0\/i=1\/i=2\/i=3\/i=4\/i=5:=co
 rcases this with rfl|rfl|rfl|rfl|rfl|rfl
 .exact ⟨_,rfl,rfl,.inr λd=>⟨sj _ _ _ d,λb=>sm⟩⟩
 .exact ⟨_,rfl,rfl,.inr λd=>⟨sj _ _ _ d,λb=>sm⟩⟩
 .exact ⟨_,rfl,rfl,.inr λd=>⟨sj _ _ _ d,λb=>sm⟩⟩
 .exact ⟨_,rfl,rfl,.inr λd=>⟨sj _ _ _ d,λb=>sm⟩⟩
 .exact ⟨_,rfl,rfl,.inr λd=>⟨sj _ _ _ d,λb=>sm⟩⟩
 .exact ⟨h,rfl,j,.inl rfl⟩
def ZX(a b c:Rx){i:Nat}(hi:i<8):[a,.mk 3 0 0 [a,b],.mk 4 0 0 [a,b,c],.mk 7 0 0 [a],.mk 3 0 0 [.mk 7 0 0 [a],b],.mk 6 0 0 [.mk 3 0 0 [a,b]],.mk 3 0 0 [b,.mk 7 0 0 [.mk 4 0 0 [a,c]]],.mk 5 0 0 [.mk 6 0 0 [b],.mk 3 0 0 [a,eX]]][i]? =some (ET a b c i):=by
 have:i=0\/i=1\/i=2\/i=3\/i=4\/i=5\/i=6\/i=7:=co
 rcases this with rfl|rfl|rfl|rfl|rfl|rfl|rfl|rfl<;>rfl
def BT(k m:Nat)(d:0<m):cp (k:Int) (m:Int)=((k%m:Nat):Int):=by rw[Int.tmod_eq_emod_of_nonneg co];omega
def H3(k m:Nat)(j:k<=1048576):ah .i64 (bS (k:Int) (m:Int))=((k / m:Nat):Int):=by
 have d:bS (k:Int) (m:Int)=((k / m:Nat):Int):=by rw[Int.tdiv_eq_ediv_of_nonneg co];rfl
 have h:k / m<=k:=Nat.div_le_self k m;rw[d];generalize k / m=q at h;rw[aN _ co]
section
variable {w w24:J} {R:aJ} {K:Nat}
def afx(E:K<=1048576){s:Sl}{U:List I}{Y:J}(y:I.aw U=[fh (K%6),.mk 3 0 0 [fh (K%6),fh (K / 6%6)],.mk 4 0 0 [fh (K%6),fh (K / 6%6),fh (K / 36%6)],.mk 7 0 0 [fh (K%6)],.mk 3 0 0 [.mk 7 0 0 [fh (K%6)],fh (K / 6%6)],.mk 6 0 0 [.mk 3 0 0 [fh (K%6),fh (K / 6%6)]],.mk 3 0 0 [fh (K / 6%6),.mk 7 0 0 [.mk 4 0 0 [fh (K%6),fh (K / 36%6)]]],.mk 5 0 0 [.mk 6 0 0 [fh (K / 6%6)],.mk 3 0 0 [fh (K%6),eX]]])(h:(bV s U).P Y)(f:af w Y):xm.T9 s (K:Int) Y λr Y=>r=ae (.string (ba (mP K)))/\af w Y:=by
 have N:=I.cH (dJ.1 h).1;have M:U.length=8:=by have:=congrArg List.length y;rw[I.fP,gJ]at this;simpa using this
 show(0:Int)<=cp (ah .i64 (bS (K:Int) ((216:Nat):Int))) ((8:Nat):Int)/\cp (ah .i64 (bS (K:Int) ((216:Nat):Int))) ((8:Nat):Int)<(s.n:Int)/\dV s.a λp=>gi Y (p.add (a5 (cp (ah .i64 (bS (K:Int) ((216:Nat):Int))) ((8:Nat):Int)) *4)) _;rw[H3 K 216 E,BT _ 8 co];have F:K / 216%8<8:=Nat.mod_lt _ co;have d:U[K / 216%8]? =some (U[K / 216%8]'co):=a' co;generalize U[K / 216%8]'co=t at d;have A:t.rx=lM K:=by have z:=ZX (fh (K%6)) (fh (K / 6%6)) (fh (K / 36%6)) F;rw[<-y,I.fP,List.getElem?_map,d]at z;exact Option.some.inj z
 obtain⟨k,q,j,x⟩:=afy K;rw[<-A]at k q j x;have G:t.P Y:=(dJ.1 h).2.get d;refine⟨co,co,I.dy (dJ.1 h).1 d λp h c=>⟨_,_,_,_,c.c0,c.c1,c.c2,c.c3,(JJ t Y (by rw[<-I.eU];exact q) k G).mono ?_⟩⟩;rintro _ L ⟨⟨u,rfl,B,H,_⟩,C⟩;rw[<-B]at j x;refine⟨_,_,_,u.s,rfl,(Jm u 0 L (by rw[<-I.eU];omega) co j H).mono ?_⟩;rintro _ O ⟨rfl,D⟩;refine⟨_,rfl,?_,(f.dN C).dN D⟩;have e:dd 0 u.rx (bn u.rx)=bn u.rx:=by unfold dd;rw[ag co]
 rw[e,B,A];rfl
end
def WO{s:Sl}{k:Int}{w:J}{R d:aJ}(h:xm.T9 s k w R)(E:∀r j,R r j->d r j):xm.T9 s k w d:=
 ⟨h.1,h.2.1,acM h.2.2 λp ⟨a,b,c,q,x,y,z,A,C⟩=>⟨a,b,c,q,x,y,z,A,C.mono λr H ⟨e,f,g,i,D,G⟩=>⟨e,f,g,i,D,G.mono λr I ⟨t,F,B⟩=>⟨t,F,E _ _ B⟩⟩⟩⟩
def X4(n:Int)(hn:aX n)(w:J):aj V N5 #[.i n] w λr y=>(∃ak:Nat,r=ae (.string (ba (mP ak))))/\af w y:=by
 have hr:=ji n 1048576 co;obtain⟨K,hK⟩:∃K:Nat,gA n 1048576=(K:Int):=⟨(gA n 1048576).toNat,co⟩;have E:K<=1048576:=co
 have ac:LH F0 w w [] []:=bN [] ws;refine xm.ok n w _ (ac.call (X6 n 1048576 w co hn) ?_);rintro _ w1 rfl L;refine⟨_,rfl,L.zJ (DI w1) ?_⟩;rintro _ H ⟨q,rfl,G,al,Y⟩ _ F2;have H2:=F2.rd (.tree q) al λb x=>Y b (a0.1 x);rw[hK];have T:=BT K 6 co;have S:=H3 K 6 E;have Q:=H3 K 36 E;have W:=BT (K / 6) 6 co;have U:=BT (K / 36) 6 co;have c6:((6:Nat):Int)=6:=rfl;have ai:((36:Nat):Int)=36:=rfl;rw[c6]at T S W U;rw[ai]at Q;rw[T,S,Q,W,U];obtain⟨A,ga,ra,xa⟩:=Ds q G (i:=K%6) (Nat.mod_lt _ co);obtain⟨tb,gb,rb,xb⟩:=Ds q G (i:=K / 6%6) (Nat.mod_lt _ co);obtain⟨tc,gc,rc,xc⟩:=Ds q G (i:=K / 36%6) (Nat.mod_lt _ co);have la:K%6<6:=Nat.mod_lt _ co;have lb:K / 6%6<6:=Nat.mod_lt _ co;have lc:K / 36%6<6:=Nat.mod_lt _ co;have D:∀t:I,(t=q\/∀w:J,t.P w/\∀b,¬b∈t.fp)->(∀y:J,q.P y->t.P y)/\∀b∈t.fp,w.heap.size<=b:=λt j=>by
  rcases j with rfl|j
  .exact ⟨λ_ j=>j,λb x=>bz L.fr.size (Y b x)⟩
  .exact ⟨λy _=>(j y).1,λb x=>((j w).2 b x).elim⟩
 refine⟨_,_,_,q.s,rfl,H2.cZ (n:=6) (sz:=4) (cs:=(I6 q).flatMap I.c) rfl md λw3 N=>?_⟩;refine⟨co,co,I.dy (s:=⟨some (ab H.heap.size),6,6⟩) (N.get 0:aF _ _ _ _ _).bd ga λp hp c=>?_⟩;refine⟨_,_,_,_,c.c0,c.c1,c.c2,c.c3,N.nw λw4 _ H4=>H4.kz 1 rfl λw8 O=>?_⟩;refine⟨co,co,I.dy (s:=⟨some (ab H.heap.size),6,6⟩) (O.get 0:aF _ _ _ _ _).bd gb λp hp c=>?_⟩;refine⟨_,_,_,_,c.c0,c.c1,c.c2,c.c3,O.nw λw9 _ H9=>H9.kz 2 rfl λam M=>?_⟩;refine⟨co,co,I.dy (s:=⟨some (ab H.heap.size),6,6⟩) (M.get 0:aF _ _ _ _ _).bd gc λp hp c=>?_⟩;refine⟨_,_,_,_,c.c0,c.c1,c.c2,c.c3,M.nw λau _ ad=>ad.kz 3 rfl λaa z=>?_⟩;refine⟨_,_,_,A.s,z.ld 1 0,z.ld 1 1,z.ld 1 2,z.ld 1 3,z.cZ (n:=1) (sz:=4) (cs:=[A].flatMap I.c) rfl md λan ag=>ag.nw λav _ ah=>ah.kz 5 rfl λd h=>?_⟩;have B:=D A xa;have pb:=D tb xb;have pc:=D tc xc;have ps:(I.mk 7 0 0 ⟨some (ab aa.heap.size),1,1⟩ [A]).P d:=by unfold I.P;exact⟨(h.get 4:aF _ _ _ _ _).bd,I.i0 (by simp;exact B.1 d (h.getD 0))⟩
 have Z:af w d:=h.fr;refine Fe Ve (by kernel_rfl) (JT d w.heap.size (K:Int) (fh (K%6)) (fh (K / 6%6)) (fh (K / 36%6)) (.mk 7 0 0 [fh (K%6)])) ?_ (ad3 Z.size) ?_
 .refine ⟨Fr.drew _ _,rfl,?_,?_,?_,?_,λi sp hs F=>by cases F⟩
  .exact j9.br (w:=d) ⟨w3.heap.size,A,rfl,h.ob 1,ra,B.1 d (h.getD 0),B.2⟩ (Fr.drew _ _)
  .exact j9.br (w:=d) ⟨w8.heap.size,tb,rfl,h.ob 2,rb,pb.1 d (h.getD 0),pb.2⟩ (Fr.drew _ _)
  .exact j9.br (w:=d) ⟨am.heap.size,tc,rfl,h.ob 3,rc,pc.1 d (h.getD 0),pc.2⟩ (Fr.drew _ _)
  .refine j9.br (w:=d) ⟨an.heap.size,.mk 7 0 0 ⟨some (ab aa.heap.size),1,1⟩ [A],rfl,h.ob 5,?_,ps,GG (λb x=>?_) B.2⟩ (Fr.drew _ _)
   .rw [<-ra];rfl
   .simp only[ax,aq,aL,aR]at x;rw[x];exact z.fr.size
 .intro ap ao y F C;obtain⟨s,ts,h1,h2,h3,_⟩:=C.all 40 _ rfl (F 40 md);refine⟨s,(K:Int),h1,C.k,?_⟩;refine WO (afx E h2 h3 (Z.dN C.fr)) λr ar j=>⟨⟨K,j.1⟩,j.2⟩
def FC{w:J}{s:Sl}{l:List Nd}(h:GP w s l):LH F0 w w [] [.gr s l]:=bN _ (by intro e d;simp only[aq,aL,aR]at d;subst d;exact ct.2 h)
abbrev sG(s:Sl)(l:List Int):En:=.row b' 1 s (l.map aY)
def AX{w:J}{s:Sl}{l:List Int}(h:aF w b' 1 s (l.map aY)):bq w s l:=h.gK
def AW{w:J}{s:Sl}{l:List Int}(h:aF w b' 1 s (l.map aY)):s.n=l.length:=by have:=h.len;simp at this;omega
def DC{w:J}{s:Sl}{l:List Nd}(h:GP w s l)(t:bA)(n:Int)(Z:aX n)(Y:l.length<=fA):
  aj V Oy #[s.v,ee t,.i n] w λr H=>(∃y:Int,r=ae (.i y)/\-1<=y/\y<(l.length:Int))/\af w H:=by
 have hs:=iU h;unfold fA at Y;have loop:∀(m i:Nat) (z:Sl) (ks:List Int) (q:Nat) (B:J),i+m=l.length->ks.length<=i->(∀G∈ks,0<=G/\G<(l.length:Int))->LH F0 w B [.g q,sG z ks] [.gr s l]->
   r3.a8 s n q t.k t.n t.x z (i:Int) B λr H=>(∃y:Int,r=ae (.i y)/\-1<=y/\y<(l.length:Int))/\af w H:=by
  intro m;induction m with
  |zero=>
   intro i z ks q B U W F A;have hlen:=AW (A.get 1);refine r3.bJ _ _ _ _ _ _ _ _ _ _ (aP (aV co) (aO (λQ=>⟨⟨_,rfl,co,co⟩,A.fr⟩) (λQ=>A.aA (iF n _ B co Z) ?_)));have hr:=ji n (z.n:Int) co;generalize gA n (z.n:Int)=y at hr;rintro _ I rfl C;obtain⟨j,rfl⟩:∃j:Nat,y=(j:Int):=⟨y.toNat,co⟩;have D:ks[j]? =some (ks[j]'co):=a' co;have E:=F _ (aG D);exact⟨_,rfl,co,co,(AX (C.get 1)).cell D co λp K S=>⟨_,S,⟨⟨_,rfl,co,co⟩,C.fr⟩⟩⟩
  |succ m L=>
   intro i z ks q B U W F A;have D:l[i]? =some (l[i]'co):=a' co;generalize l[i]'co=d at D;have hlen:=AW (A.get 1);refine r3.bJ _ _ _ _ _ _ _ _ _ _ (aM (aQ co) (iD (ct.1 (A.getD 0)) rfl D λp K _=>A.ai λI C=>?_));have c:=E3 (ct.1 (C.getD 0)) D K (rfl:((i:Int))=(i:Int));refine⟨_,_,_,c.s0,c.s1,c.s2,oG (a:=d.x.st) (b:=t) (λT=>?_) (λT=>?_)⟩
   .refine C.jh 1 iy rfl (λM N P=>?_) co;show r3.a8 s n q t.k t.n t.x M (ah .i64 ((i:Int)+1)) N _;rw[bb _ co];refine L (i+1) M (ks++[(i:Int)]) q N co (by simp;omega) (λG E=>?_) (by rw[sG,ez];exact P);rcases aW.1 E with E|E
    .exact F G E
    .simp only[aq,aL,aR]at E;omega
   .show r3.a8 s n q t.k t.n t.x z (ah .i64 ((i:Int)+1)) I _;rw[bb _ co];exact L (i+1) z ks q I co co F C
 exact r3.aD _ _ _ _ _ w _ ((FC h).aK λq B O=>loop l.length 0 ⟨none,0,0⟩ [] q B co ws ws (O.fN b' 1))
def YH{w:J}{s:Sl}{l:List Nd}(h:GP w s l)(op:Int)(x:Nat)(ab n:Int)(H:x<l.length)(G:aX n):
  aj V OL #[s.v,.i op,.i (x:Int),.i ab,.i n] w λr I=>(∃t:bA,r=ae (ee t))/\af w I:=by
 have hs:=iU h;have O:l[x]? =some (l[x]'H):=a' H;generalize l[x]'H=d at O;refine Ey.aD _ _ _ _ _ w _ ((FC h).aK λB w1 L=>iD (ct.1 (L.getD 0)) rfl O λp hp c=>⟨_,_,_,c.s0,c.s1,c.s2,L.aK λE w2 A=>?_⟩);have ret:∀(a b c:Int) (k:J) (bs:List Nat),(∀b∈bs,En.g b∈[En.g B,.g E])->LH F0 w k [.g B,.g E] [.gr s l]->loc bs k λP=>(∃t:bA,Ending.returned (.agg #[.i a,.i b,.i c])=ae (ee t))/\af w P:=λa b c k bs hb q=>q.ai (λP S=>⟨⟨⟨a,b,c⟩,rfl⟩,S.fr⟩) hb;have D:∀k,LH F0 w k [.g B,.g E] [.gr s l]->Ey.bD n B 0 0 0 k λr I=>(∃t:bA,r=ae (ee t))/\af w I:=by intro k q;refine q.aA (iF n 3 k co G) ?_;rintro _ z rfl y;refine⟨_,rfl,y.aA (oY _ z) ?_⟩;rintro _ K rfl C;exact⟨_,_,_,rfl,ret _ _ _ K _ ws C⟩
 refine aO (λT=>A.ai λk q=>q.aA (iF n _ k co G) ?_) (λT=>aO (λU=>A.ai λk q=>q.aA (iF n 3 k co G) ?_) (λU=>aO (λW=>A.ai λk q=>q.aA (fI _ k) ?_) (λW=>aO (λY=>aO (λZ=>A.ai λk q=>q.aA (fI _ k) ?_) (λZ=>A.ai λk q=>q.aA (G7 d.x.st k) ?_)) (λY=>aO (λh6=>A.ai λk q=>q.aA (fI _ k) ?_) (λh6=>aO (λM=>aM (beq_iff_eq.2 M) (A.ai λk q=>D k q)) (λM=>aO (λN=>aM (beq_iff_eq.2 N) (A.ai λk q=>D k q)) (λN=>aO (λh9=>A.ai λk q=>D k q) (λh9=>A.ai λk q=>ret _ _ _ k _ ws q))))))))
 .have hr:=ji n (s.n:Int) co;generalize gA n (s.n:Int)=Q at hr;rintro _ z rfl y;obtain⟨j,rfl⟩:∃j:Nat,Q=(j:Int):=⟨Q.toNat,co⟩;have aa:l[j]? =some (l[j]'co):=a' co;exact⟨_,rfl,iD (ct.1 (y.getD 0)) rfl aa λac hq F=>⟨_,_,_,F.s0,F.s1,F.s2,ret _ _ _ z _ ws y⟩⟩
 .rintro _ z rfl y;refine⟨_,rfl,y.aA (fI _ z) ?_⟩;rintro _ K rfl C;exact⟨_,_,_,rfl,ret _ _ _ K _ ws C⟩
 .rintro _ z rfl y;exact⟨_,_,_,rfl,ret _ _ _ z _ ws y⟩
 .rintro _ z rfl y;exact⟨_,_,_,rfl,ret _ _ _ z _ ws y⟩
 .rintro _ z rfl y;exact⟨_,_,_,rfl,ret _ _ _ z _ ws y⟩
 .rintro _ z rfl y;exact⟨_,_,_,rfl,ret _ _ _ z _ ws y⟩
def aas{w:J}{s:Sl}{l:List Nd}(h:GP w s l){i:Nat}{d:Nd}(hi:l[i]? =some d){K:Addr->Prop}{X:Int}(j:X=(i:Int))(q:∀p,s.a=some p->eC w (p.add (a5 X *9)) d->K p):fo s X K:=by have z:=iU h;have y:=(cV.1 hi).1;subst j;exact⟨co,co,fg.elem (f:=Nd.c) (sz:=9) Nd.ka co h.1.2.2 hi λp x k=>q p x k⟩
abbrev mh(d:Nat)(s:Sl)(mp mv:Nat)(l:List Nd)(iB:Array MapEntry)(c1:Nat)(hY:Array MapEntry)(c2:Nat):List En:=
 [.c d [s.v,.map (some mp),.map (some mv)] vZ,.row cQ 9 s (l.flatMap Nd.c),.ob mp (.map iB c1),.ob mv (.map hY c2)]
def iq(w:J)(d:Nat)(l:List Nd)(own:List Nat):Prop:=∃(s:Sl) (mp mv:Nat) (iB:Array MapEntry) (c1:Nat) (hY:Array MapEntry) (c2:Nat),own=(mh d s mp mv l iB c1 hY c2).flatMap (·.fp)/\own.Nodup/\(∀e∈mh d s mp mv l iB c1 hY c2,e.P w)/\kL iB (jx (xs l) 0)/\kL hY (iK (xs l))
def tw(w:J)(j:Nat)(own:List Nat)(l:List Nd)(Y:J):Prop:=∃d,iq Y j l d/\Fr (·∈own) w Y/\∀h∈d,h∈own\/w.heap.size<=h
def iq.open{w:J}{j:Nat}{l:List Nd}{own:List Nat}(h:iq w j l own)(D:List En)(q:∀e∈D,e.P w/\∀b∈e.fp,b∉own):
  ∃(s:Sl) (mp mv:Nat) (iB:Array MapEntry) (c1:Nat) (hY:Array MapEntry) (c2:Nat),kL iB (jx (xs l) 0)/\kL hY (iK (xs l))/\LH (·∈own) w w (mh j s mp mv l iB c1 hY c2) D:=by
 obtain⟨s,mp,mv,iB,c1,hY,c2,y,G,C,A,B⟩:=h;have x:∀e∈mh j s mp mv l iB c1 hY c2,∀b∈e.fp,b∈own:=λe d b k=>by rw[y];exact bX.2 ⟨e,d,k⟩
 exact⟨s,mp,mv,iB,c1,hY,c2,A,B,LH.s9 _ _ (λe d=>⟨C e d,x e d⟩) (y▸G) (λe d=>⟨(q e d).1,λb k z E F=>(q e d).2 b k (x z E b F)⟩)⟩
def iq.close{w Y:J}{d:Nat}{l:List Nd}{own:List Nat}{s:Sl}{mp mv:Nat}{iB:Array MapEntry}{c1:Nat}{hY:Array MapEntry}{c2:Nat}{D:List En}(H:LH (·∈own) w Y (mh d s mp mv l iB c1 hY c2) D)(h:kL iB (jx (xs l) 0))(j:kL hY (iK (xs l))):tw w d own l Y:=
 ⟨_,⟨s,mp,mv,iB,c1,hY,c2,rfl,H.nd,H.own,h,j⟩,H.fr,λy x=>by obtain⟨e,q,k⟩:=bX.1 x;exact(H.new e q y k).symm⟩
def NA:zk V afJ cY b' (.int .i64 0):=⟨by kernel_rfl,by kernel_rfl,by kernel_rfl⟩
def NB:zk V afI cY cA (.agg #[.int .i64 0,.int .i64 0,.int .i64 0]):=⟨by kernel_rfl,by kernel_rfl,by kernel_rfl⟩
def _root_.Go.W.En.cl(p:Addr)(v:aa):En:=⟨[p.block],λh=>h.cell? p=some v,λh w k d=>by have q:=o0 d;unfold World.cell? at d ⊢;rw[k p.block ws q];exact d,λh d b j=>by simp at j;subst j;exact o0 d,ws⟩
def abM{l:List Nd}(t:ByteArray):∃(a b c:Int) (y:Bool),((kv (iK (xs l)) t).getD (.agg #[.int .i64 0,.int .i64 0,.int .i64 0]))=.agg #[.i a,.i b,.i c]/\(kv (iK (xs l)) t).isSome=y/\u6 (xs l) t=ae (.tuple #[.agg #[.i a,.i b,.i c],.bool y]):=by
 rw[Iq];unfold u6;cases kC (xs l) t with
 |none=>exact⟨0,0,0,false,rfl,rfl,rfl⟩
 |some s=>exact⟨s.k,s.n,s.x,true,rfl,rfl,rfl⟩
def Xl{w:J}{j:Nat}{l:List Nd}{s:Sl}{mp mv:Nat}{iB:Array MapEntry}{c1:Nat}{hY:Array MapEntry}{c2:Nat}{q:Addr}(h:∀e∈mh j s mp mv l iB c1 hY c2,e.P w)(D:kL hY (iK (xs l)))(E:w.cell? q=some (.pointer (some (ab j))))(t:ByteArray):
  aj V Gp #[.string t,.pointer (some q)] w λr F=>r=u6 (xs l) t/\af w F:=by
 have x:LH F0 w w [] (mh j s mp mv l iB c1 hY c2++[.cl q (.pointer (some (ab j)))]):=bN _ (by
  intro e d;rcases aW.1 d with d|d
  .exact h e d
  .simp only[aq,aL,aR]at d;subst d;exact E)
 obtain⟨a,b,c,G,A,B,C⟩:=abM (l:=l) t;refine Vl.aD t q w _ (x.aK λH K k=>⟨_,k.getD 4,qF ⟨some mv,cellAt (p:=ab j) (k.getD 0) rfl rfl,a,b,c,G,?_,k.aK λI L y=>y.ai λM z=>⟨C.symm,z.fr⟩⟩⟩);rw[Nq NB (k.getD 3) D t,A,B]
def Xn{w:J}{q:Nat}{l:List Nd}{own:List Nat}{d:Nd}(h:iq w q l own)(U:∀e∈l,e.P w)(S:d.P w)(T:cG.P w)(Y:nT d.x)(W:l.length<=1000000000)(hv:∀e∈xs l,cm e.st=true):
  aj V Qw #[.pointer (some (ab q)),d.v] w λr F=>r=gO (cI (xs l) d.x)/\af w F:=by
 obtain⟨s,mp,E,A,y,B,z,_,_,C,_,Q⟩:=h;have Z:aF w cQ 9 s (l.flatMap Nd.c):=C _ (aG (i:=1) rfl);have H:LH F0 w w [] (mh q s mp E l A y B z++[.gr s l,dp d,cG]):=bN _ (by
  intro e k;rcases aW.1 k with k|k
  .exact C e k
  .simp only[aq,aL,aR]at k;rcases k with rfl|rfl|rfl
   .exact ct.2 ⟨Z.bd,U⟩
   .exact S
   .exact T)
 refine Vk.aD _ _ _ _ _ _ _ _ _ _ w _ (H.nw λw1 _ I=>I.aK λb3 w2 K=>K.aK λb4 w3 L=>L.ai λG j=>⟨_,j.iV 0,qF ⟨s,cellAt (p:=ab q) (j.getD 0) rfl rfl,?_⟩⟩);have O:LH F0 G G [] (.gr s l::dp d::cG::(mh q s mp E l A y B z++[.cl (ab w.heap.size) (.pointer (some (ab q)))])):=bN _ (by
  intro e k;simp only[i2,lU,aq,aL,aR]at k;rcases k with rfl|rfl|rfl|rfl|rfl|rfl|rfl|rfl
  .exact j.getD 4
  .exact j.getD 5
  .exact j.getD 6
  .exact j.getD 0
  .exact j.getD 1
  .exact j.getD 2
  .exact j.getD 3
  .exact j.iV 0)
 refine j.aA (afs ⟨Gp,#[],#[.pointer (some (ab w.heap.size))]⟩ O (by kernel_rfl) (λF D=>?_) Y W hv) ?_
 .exact Xl (λe k=>D e (List.mem_append_left _ k)) Q (D (.cl (ab w.heap.size) (.pointer (some (ab q)))) ws) d.x.tx
 .rintro _ w5 rfl M;exact⟨_,_,_,_,rfl,M.ai λw6 N=>⟨rfl,N.fr⟩⟩
def o8(g:List Nx)(n:Nx):Int×Bool:=match h4 n g 0 with
 |some i=>((i:Int),true)
 |none=>(0,false)
def find_eq{g:List Nx}{n:Nx}(d:0<=n.u)(h:∀e∈g,0<=e.u):(kv (jx g 0) (kX n)).getD (.int .i64 0)=.i (o8 g n).1/\(kv (jx g 0) (kX n)).isSome=(o8 g n).2:=by
 rw[GY d h];unfold o8;cases h4 n g 0 with
 |none=>exact⟨rfl,rfl⟩
 |some i=>exact⟨rfl,rfl⟩
def Xk{w:J}{k:Nat}{l:List Nd}{own:List Nat}{d:Nd}(h:iq w k l own)(K:d.P w)(W:fV d.x)(L:∀e∈xs l,0<=e.u):
  aj V Qu #[.pointer (some (ab k)),d.v] w λr N=>r=ae (.tuple #[.i (o8 (xs l) d.x).1,.bool (o8 (xs l) d.x).2])/\af w N:=by
 obtain⟨s,mp,M,F,B,G,C,_,_,I,H,_⟩:=h;have z:LH F0 w w [] (mh k s mp M l F B G C++[dp d]):=bN _ (by
  intro e j;rcases aW.1 j with j|j
  .exact I e j
  .simp only[aq,aL,aR]at j;subst j;exact K)
 refine Vj.ok _ _ _ _ _ _ _ _ _ _ w _ (z.nw λO _ A=>A.dr λQ q=>⟨some mp,cellAt (p:=ab k) (q.getD 0) rfl rfl,q.call (Vb (d:=d) (AR (q.ob 0)) (q.getD 4) W) ?_⟩);rintro _ S rfl y;obtain⟨D,E⟩:=find_eq W.u.1 L;refine⟨_,rfl,cellAt (p:=ab k) (y.getD 0) rfl rfl,(o8 (xs l) d.x).1,(o8 (xs l) d.x).2,?_,rfl,y.fr⟩;have:=Nq NA (y.getD 2) H (kX d.x);rw[D,E]at this;exact this
def I8{w:J}{A:Nat}{l:List Nd}{own:List Nat}{d:Nd}(h:iq w A l own)(hd:d.P w)(ai:∀b∈(dp d).fp,b∉own)(W:fV d.x)(hu:∀e∈xs l,0<=e.u)(hl:l.length<=100000)(al:d.x∉xs l)(an:d.x.op=0->kC (xs l) d.x.tx=none):
  aj V Qv #[.pointer (some (ab A)),d.v] w λr U=>r=ae (.i (l.length:Int))/\tw w A own (l++[d]) U:=by
 obtain⟨s,mp,G,ar,L,ah,N,h1,h2,aa⟩:=h.open [dp d] (by intro e he;simp only[aq,aL,aR]at he;subst he;exact⟨hd,ai⟩)
 have hn:s.n=l.length:=Nd.cH (show bL 9 w s (l.flatMap Nd.c)from(show aF w cQ 9 s (l.flatMap Nd.c)from aa.get 1).bd);have g1:kv (jx (xs l) 0) (kX d.x)=none:=by
  rw[GY W.u.1 hu];cases hi:h4 d.x (xs l) 0 with
  |none=>rfl
  |some i=>
   have:=(Af hi).2;exact absurd (aG this) al
 have ad:xs (l++[d])=xs l++[d.x]:=by simp[xs]
 have p1:jx (xs (l++[d])) 0=jx (xs l) 0++[(kX d.x,.i (l.length:Int))]:=by rw[ad,R1];simp[xs]
 have p2:iK (xs (l++[d]))=iK (xs l)++(if d.x.op=0 then[(d.x.tx,ee d.x.st)]else[]):=by rw[ad,VQ]
 have ac:∀(E:Array MapEntry) (M:Nat) (z:Array MapEntry) (O S:Nat) (I:J),kL E (jx (xs (l++[d])) 0)->kL z (iK (xs (l++[d])))->LH (·∈own) w I (mh A s mp G l E M z O++[.c S d.c cQ]) [dp d]->
   BV.S0 (ab A) (ab S) I λr U=>r=ae (.i (l.length:Int))/\tw w A own (l++[d]) U:=by
  intro E M z O S I H q2 K;dsimp only[BV.S0,ak];refine K.dr λY j=>⟨s,j.ld 0 0,?_⟩;refine⟨d.x.op,d.ks,d.x.n,d.x.m,d.x.u,d.x.tx,d.x.st.k,d.x.st.n,d.x.st.x,j.ld 4 0,j.ld 4 1,j.ld 4 2,j.ld 4 3,j.ld 4 4,j.ld 4 5,j.ld 4 6,j.ld 4 7,j.ld 4 8,j.nw λw3 _ q=>⟨q.ld 0 0,?_⟩⟩;have af:bL 9 w3 ⟨some (ab Y.heap.size),1,1⟩ ([d].flatMap Nd.c):=by rw[show[d].flatMap Nd.c=d.c by simp];exact wP (T:=cQ) (q.ob 5) rfl
  refine q.ap 1 n6 (src:=⟨some (ab Y.heap.size),1,1⟩) rfl af.2.2 af.1 sA (by simp only;omega) (λs' Z B am _=>B.st 0 0 rfl (λw5 y=>⟨s',y.ld 0 0,?_⟩));refine⟨?_,iq.close (s:=s') (mp:=mp) (mv:=G) (iB:=E) (c1:=M) (hY:=z) (c2:=O) (D:=[dp d]) ?_ H q2⟩
  .rw [am,aN _ (by simp only;omega)];simp only;rw[hn];congr 2;omega
  .have:=y.take 4;unfold mh;rw[show(l++[d]).flatMap Nd.c=l.flatMap Nd.c++[d].flatMap Nd.c from de];exact this
 refine BV.ok _ _ _ _ _ _ _ _ _ _ w _ (aa.nw λI _ K=>K.dr λY j=>⟨some mp,j.ld 0 1,s,j.ld 0 0,j.call (Vb (d:=d) (AR (j.ob 4)) (j.getD 0) W) ?_⟩);rintro _ w3 rfl q;obtain⟨Z,C,u1,u2,u3,u4,_⟩:=VN NA (q.ob 2) h1 (kX d.x) (.i (s.n:Int)) g1;have B:=q.ha 2 (.ob mp (.map C (L+1))) rfl (u4.mono λao _ e=>by simp[En.ob,e]) u2 (λb Q=>.inl Q);have H:kL C (jx (xs (l++[d])) 0):=by rw[p1,<-hn];exact u3
 refine⟨_,rfl,q.ld 0 0,q.ld 0 1,Z,u1,d.x.op,B.ld 4 0,aO (λF=>?_) (λF=>?_)⟩
 .refine B.dr λw5 y=>⟨some G,y.ld 0 2,d.x.tx,y.ld 4 5,?_⟩;have g2:kv (iK (xs l)) d.x.tx=none:=by rw[Iq,an F];rfl
  obtain⟨w6,z,v1,v2,v3,v4,_⟩:=VN NB (y.ob 3) h2 d.x.tx (ee d.x.st) g2;have H6:=y.ha 3 (.ob G (.map z (N+1))) rfl (v4.mono λao _ e=>by simp[En.ob,e]) v2 (λb Q=>.inl Q);have a:=AR (d:=d) (y.ob 4);refine⟨d.x.st.k,d.x.st.n,d.x.st.x,a.s0,a.s1,a.s2,w6,v1,ac C (L+1) z (N+1) w.heap.size w6 H ?_ H6⟩;rw[p2,av F];exact v3
 .refine ac C (L+1) ah N w.heap.size Z H ?_ B;rw[p2,ag F,ed];exact h2
def iq.st{w Y:J}{d:Nat}{l:List Nd}{own:List Nat}(h:iq w d l own)(k:∀b∈own,b<w.heap.size->Y.heap[b]? =w.heap[b]?):iq Y d l own:=by obtain⟨s,mp,H,z,x,A,y,q,G,D,B,C⟩:=h;exact⟨s,mp,H,z,x,A,y,q,G,λe j=>e.st w Y (λb E F=>k b (by rw[q];exact bX.2 ⟨e,j,E⟩) F) (D e j),B,C⟩
def iq.lt{w:J}{j:Nat}{l:List Nd}{own:List Nat}(h:iq w j l own):∀b∈own,b<w.heap.size:=by obtain⟨s,mp,F,A,y,B,z,x,E,k,C,D⟩:=h;intro b d;rw[x]at d;obtain⟨e,q,d⟩:=bX.1 d;exact e.lt w (k e q) b d
def _root_.Go.W.En.bu(k:Nat)(own:List Nat)(l:List Nd):En:=⟨kp own,λj=>iq j k l own,λj w q h=>h.st λb d=>q b (a0.2 d),λj h b d=>h.lt b (a0.1 d),pn _⟩
def XC(w:J)(d:Nat)(own:List Nat)(l:List Nd)(b:Nat):¬(En.bu d own l).P ({w with heap:=Array.replicate (b+1) (.map #[] 0)}):=by rintro⟨s,mp,D,x,k,y,q,C,B,j,z,A⟩;have h:=j _ (aG (i:=0) rfl);exact wU w d _ vZ b h
section
variable {M:Nat->Prop} {w0 w:J} {L D:List En} {bs:List Nat}
def _root_.Go.W.LH.XB(H:LH M w0 w L D)(i:Nat){d:Nat}{own:List Nat}{l k:List Nd}{Y:J}(hi:L[i]? =some (.bu d own l))(h:tw w d own k Y):∃j,LH M w0 Y (L.set i (.bu d j k)) D/\iq Y d k j:=by obtain⟨j,r,f,o⟩:=h;exact⟨j,H.ha i (.bu d j k) hi (f.mono λy _ x=>a0.2 x) r (λb q=>(o b (a0.1 q)).imp a0.2 id),r⟩
def _root_.Go.W.LH.Jb(H:LH M w0 w L D)(i:Nat){h:Nat}{own:List Nat}{l q:List Nd}{P:Program}{g:FuncId}{args:Array aa}{A:cE->Prop}{K:aJ}(hi:L[i]? =some (.bu h own l))(B:aj P g args w λr d=>A r/\tw w h own q d)(C:∀r d j,A r->LH M w0 d (L.set i (.bu h j q)) D->K r d)(bF:∀b∈bs,En.g b∈L:=by simp):eJ bs P g args w K:=
 ⟨(·∈own),λb z E=>o' H hi (XC w h own l) (bF b z) (a0.2 E),B.mono λr d ⟨y,k⟩=>by obtain⟨_,_,f,_⟩:=id k;obtain⟨j,x,_⟩:=H.XB i hi k;exact⟨f,C r d j y x⟩⟩
end
def iq.nil(w:J):tw w (w.heap.size+2) [] [] ((((w.alloc (.map #[] 0)).alloc (.map #[] 0)).alloc (.cells #[.slice none 0 0,.map (some w.heap.size),.map (some (w.heap.size+1))] vZ))):=by
 have q:(w.alloc (.map #[] 0)).heap.size=w.heap.size+1:=size_alloc _ _;have z:((w.alloc (.map #[] 0)).alloc (.map #[] 0)).heap.size=w.heap.size+2:=by rw[size_alloc,q]
 have x:(w.alloc (.map #[] 0)).heap[w.heap.size]? =some (.map #[] 0):=kU w _;have y:=(Fr.alloc F0 (w.alloc (.map #[] 0)) (.map #[] 0)).at x id;have k:=kU (w.alloc (.map #[] 0)) (.map #[] 0);rw[q]at k;have d:=Fr.alloc F0 ((w.alloc (.map #[] 0)).alloc (.map #[] 0)) (.cells #[.slice none 0 0,.map (some w.heap.size),.map (some (w.heap.size+1))] vZ);have c:=kU ((w.alloc (.map #[] 0)).alloc (.map #[] 0)) (.cells #[.slice none 0 0,.map (some w.heap.size),.map (some (w.heap.size+1))] vZ);rw[z]at c;have f:af w (((w.alloc (.map #[] 0)).alloc (.map #[] 0)).alloc (.cells #[.slice none 0 0,.map (some w.heap.size),.map (some (w.heap.size+1))] vZ)):=((Fr.alloc F0 w _).dN (Fr.alloc F0 _ _)).dN d;refine⟨_,⟨⟨none,0,0⟩,w.heap.size,w.heap.size+1,#[],0,#[],0,rfl,?_,λe j=>?_,rfl,rfl⟩,f.po,λA h=>?_⟩
 .show ([w.heap.size+2]++([]++([w.heap.size]++([w.heap.size+1]++[])))).Nodup;simp
 .simp only[aq,aL,aR]at j;rcases j with rfl|rfl|rfl|rfl
  .exact c
  .exact aF.nil _ _ _
  .exact d.at y id
  .exact d.at k id
 .have h:A∈[w.heap.size+2]++([]++([w.heap.size]++([w.heap.size+1]++[]))):=h;simp at h;right;omega
def Ir{g:List Nx}(h:Vg g):∀i j,g[i]? =some j->j∉g.take i:=by
 induction h with
 |nil=>intro i j d;simp at d
 |@snoc g n x y q w=>
  intro i j d;rcases Nat.lt_or_ge i g.length with k|k
  .rw [List.getElem?_append_left k]at d;rw[List.take_append_of_le_length co];exact w i j d
  .rw [pA k]at d;have:i - g.length=0:=by have:=(cV.1 d).1;simp at this;omega
   rw[this]at d;simp at d;subst d;rw[show i=g.length by omega,List.take_left];exact q
def VR{g:List Nx}(h:Vg g){i:Nat}{d:Nx}(j:g[i]? =some d)(x:d.op=0):kC (g.take i) d.tx=none:=by
 cases A:kC (g.take i) d.tx with
 |none=>rfl
 |some s=>
  obtain⟨e,k,q,w,_⟩:=Ip A;obtain⟨B,y⟩:=List.mem_iff_getElem?.1 (hP k);have z:=h.vars e (hP k) q d (aG j) x w;have:=var_eq (h.HG B e y) (h.HG i d j) q x w z;exact absurd (this▸k) (Ir h i d j)
def Xm{w:J}{s:Sl}{l:List Nd}(h:GP w s l)(O:Vg (xs l))(N:∀j∈xs l,fV j)(hl:l.length<=100000):
  aj V QE #[.agg #[s.v]] w λr E=>(∃q own,r=ae (.pointer (some (ab q)))/\iq E q l own/\∀B∈own,w.heap.size<=B)/\af w E:=by
 have hn:=iU h;have P:LH F0 w w [] [.gr s l]:=bN _ (by intro e D;simp only[aq,aL,aR]at D;subst D;exact ct.2 h)
 have loop:∀(m i A q:Nat) (own:List Nat) (y:J),i+m=l.length->LH F0 w y [.g A,.bu q own (l.take i)] [.gr s l]->
   yO.a8 (ab q) s (s.n:Int) (i:Int) y λr E=>(∃q own,r=ae (.pointer (some (ab q)))/\iq E q l own/\∀B∈own,w.heap.size<=B)/\af w E:=by
  intro m;induction m with
  |zero=>
   intro i A q own y W z;refine yO.bJ _ _ _ _ _ _ (aP (aV co) ⟨⟨q,own,rfl,?_,λB L=>(z.new _ (aG (i:=1) rfl) B (a0.2 L)).resolve_right id⟩,z.fr⟩);have:=z.get 1;rw[List.take_of_length_le co]at this;exact this
  |succ m Z=>
   intro i A q own y W z;have C:l[i]? =some (l[i]'co):=a' co;generalize l[i]'co=j at C;refine yO.bJ _ _ _ _ _ _ (aM (aQ co) (iD (ct.1 (z.getD 0)) rfl C λp hp c=>⟨j.x.op,j.ks,j.x.n,j.x.m,j.x.u,j.x.tx,j.x.st.k,j.x.st.n,j.x.st.x,c.c0,c.c1,c.c2,c.c3,c.c4,c.c5,c.c6,c.c7,c.c8,z.aK λb5 w2 G=>G.ai λw3 F=>?_⟩));have K:=aG C;have M:=y4 C;have H:xs (l.take i)=(xs l).take i:=by simp[xs,List.map_take]
   have T:l.take (i+1)=l.take i++[j]:=by rw[dM,C];rfl
   refine F.Jb 1 rfl (I8 (l:=l.take i) (d:=j) (F.get 1) ((ct.1 (F.getD 0)).2 j K) (λb I Y=>F.dj (.gr s l) ws b (od.2 (.inr ⟨j,K,I⟩)) (.bu q own (l.take i)) ws (a0.2 Y)) (N _ (bK.2 ⟨j,K,rfl⟩)) (λe D=>(N e (by rw[H]at D;exact hP D)).u.1) (by rw[eT];omega) (by rw[H];exact Ir O i j.x M) (λU=>by rw[H];exact VR O M U)) ?_;rintro _ w4 aa rfl Q;refine⟨_,rfl,?_⟩;rw[bb _ co];refine Z (i+1) A q aa w4 co ?_;rw[T];exact Q.take 2
 refine yO.aD s w _ (P.aK λA y z=>?_);obtain⟨own,r,f,o⟩:=iq.nil y;have G:=(z.fresh (f.mono λB _ L=>by cases L)).own (.bu (y.heap.size+2) own []) r (λb I=>(o b (a0.1 I)).resolve_left ws);have S:((y.alloc (.map #[] 0)).alloc (.map #[] 0)).heap.size=y.heap.size+2:=by rw[size_alloc,size_alloc]
 have:=loop l.length 0 A (y.heap.size+2) own _ co G;have s1:(y.alloc (.map #[] 0)).heap.size=y.heap.size+1:=size_alloc _ _;rw[<-S,<-s1]at this;exact this
def pP:List Nx->List Nx->Int
 |_,[]=>0
 |g,n::r=>if(cI g n).2≠0 then(cI g n).2 else if(cI g n).1≠n.st then 9 else if n∈g then 8 else pP (g++[n]) r
def VS(g:List Nx)(n:Nx)(r:List Nx):pP g (n::r)=if(cI g n).2≠0 then(cI g n).2 else if(cI g n).1≠n.st then 9 else if n∈g then 8 else pP (g++[n]) r:=rfl
def hB(g:List Nx):Int:=if 4096<g.length then 4 else pP [] g
def ZL{g:List Nx}{n:Nx}:(o8 g n).2=au (n∈g):=by
 unfold o8;cases d:h4 n g 0 with
 |none=>exact(aV (E9 d)).symm
 |some i=>exact(aQ (aG (Af d).2)).symm
def H2{w:J}{s:Sl}{l:List Nd}(h:GP w s l)(hk:cG.P w)(E:l.length<=4096->∀j∈l,nT j.x/\fV j.x):
  aj V Qs #[.agg #[s.v]] w λr U=>r=ae (.i (hB (xs l)))/\af w U:=by
 have hn:=iU h;have al:(xs l).length=l.length:=by simp[xs]
 have aa:LH F0 w w [] [.gr s l,cG]:=bN _ (by
  intro e F;simp only[aq,aL,aR]at F;rcases F with rfl|rfl
  .exact ct.2 h
  .exact hk)
 refine yM.aD s w _ (aa.aK λD G z=>aE (λac=>⟨by unfold hB;rw[av co],z.fr⟩) (λac=>?_));have E:=E co;have ah:hB (xs l)=pP [] (xs l):=by unfold hB;rw[ag co]
 rw[ah];have loop:∀(m i D q:Nat) (own:List Nat) (G:J),i+m=l.length->Vg ((xs l).take i)->pP ((xs l).take i) ((xs l).drop i)=pP [] (xs l)->LH F0 w G [.g D,.bu q own (l.take i)] [.gr s l,cG]->
   yM.a8 (some (ab q)) s (s.n:Int) (i:Int) G λr U=>r=ae (.i (pP [] (xs l)))/\af w U:=by
  intro m;induction m with
  |zero=>
   intro i D q own G hi T y z;refine yM.bJ _ _ _ _ _ _ (aP (aV co) ⟨?_,z.fr⟩);rw[<-y,du co];rfl
  |succ m ih=>
   intro i D q own G hi T y z;have L:l[i]? =some (l[i]'co):=a' co;have hx:(xs l).drop i=(l[i]'co).x::(xs l).drop (i+1):=by rw[dw (by omega:i<(xs l).length)];simp[xs]
   generalize l[i]'co=j at L hx;have C:=aG L;have W:=y4 L;have K:xs (l.take i)=(xs l).take i:=by simp[xs,List.map_take]
   have es:l.take (i+1)=l.take i++[j]:=by rw[dM,L];rfl
   have ex:(xs l).take (i+1)=(xs l).take i++[j.x]:=by rw[dM,W];rfl
   rw[hx,VS]at y;have Z:∀e∈xs (l.take i),0<=e.u:=λe F=>by obtain⟨a,ha,rfl⟩:=bK.1 F;exact(E a (hP ha)).2.u.1
   refine yM.bJ _ _ _ _ _ _ (aM (aQ co) (iD (ct.1 (z.getD 0)) rfl L λp hp c=>⟨j.x.op,j.ks,j.x.n,j.x.m,j.x.u,j.x.tx,j.x.st.k,j.x.st.n,j.x.st.x,c.c0,c.c1,c.c2,c.c3,c.c4,c.c5,c.c6,c.c7,c.c8,z.aK λb5 w2 O=>O.ai λw3 H=>?_⟩));refine H.aA (Xn (l:=l.take i) (d:=j) (H.get 1) (λe F=>(ct.1 (H.getD 0)).2 e (hP F)) ((ct.1 (H.getD 0)).2 j C) (H.getD 1) (E j C).1 (by rw[eT];omega) (by rw[K];exact T.val)) ?_;rintro _ w4 rfl H4;rw[K];refine⟨_,_,_,_,rfl,H4.aK λb6 w5 Q=>dA (λB=>Q.ai λw6 A=>⟨by rw[<-y,av B],A.fr⟩) (λB=>By (a:=(cI ((xs l).take i) j.x).1) (b:=j.x.st) (λN=>Q.ai λw6 A=>⟨by rw[<-y,ag (λh=>h B),av N],A.fr⟩) (λN=>Q.ai λw6 A=>?_))⟩;rw[ag (λh=>h B),ag (λh=>h N)]at y;refine A.aA (Xk (l:=l.take i) (d:=j) (A.get 1) ((ct.1 (A.getD 0)).2 j C) (E j C).2 Z) ?_;rintro _ w7 rfl I;refine⟨_,_,rfl,?_⟩;rw[ZL,K];refine aE (λM=>⟨by rw[<-y,av M],I.fr⟩) (λM=>?_);rw[ag M]at y;have Y:Vg ((xs l).take (i+1)):=by rw[ex];exact .snoc T (by rw[<-N,<-B]) M
   have gt:((xs l).take (i+1))[i]? =some j.x:=by rw[List.getElem?_take,av co];exact W
   have ad:((xs l).take (i+1)).take i=(xs l).take i:=by rw[List.take_take];congr 1;omega
   refine I.Jb 1 rfl (I8 (l:=l.take i) (d:=j) (I.get 1) ((ct.1 (I.getD 0)).2 j C) (λb S hm=>I.dj (.gr s l) ws b (od.2 (.inr ⟨j,C,S⟩)) (.bu q own (l.take i)) ws (a0.2 hm)) (E j C).2 Z (by rw[eT];omega) (by rw[K];exact M) (λB=>by rw[K,<-ad];exact VR Y gt B)) ?_;rintro _ w8 ak rfl H8;refine⟨_,rfl,?_⟩;rw[bb _ co];refine ih (i+1) D q ak w8 co Y (by rw[ex];exact y) ?_;rw[es];exact H8.take 2
 refine z.kc (Xm (s:=⟨none,0,0⟩) (l:=[]) ⟨bL.nil 9 G,ws⟩ .nil (by simp[xs]) ws) ?_;rintro _ w2 ⟨q,own,rfl,r,o⟩ _ F2;have O:=F2.own (.bu q own []) r (λb S=>o b (a0.1 S));exact⟨_,rfl,loop l.length 0 D q own w2 co .nil rfl O⟩
def _root_.Go.W.En.wr(q:Nat)(bs:List UInt8)(own:List Nat):En:=⟨kp own,λh=>hd h q bs own,λh z y k=>(by obtain⟨s,rfl,w,j⟩:=k;have x:∀b∈q::ax s,z.heap[b]? =h.heap[b]?:=λb d=>y b (a0.2 d) (hd.lt ⟨s,rfl,w,j⟩ b d);exact⟨s,rfl,(x q ws).trans w,j.1,j.2.cC λb d _=>x b (by simp[d])⟩),λh k b d=>k.lt b (a0.1 d),pn _⟩
def agb(h:Nat)(bs:List UInt8)(own:List Nat)(w:J)(b:Nat):¬(En.wr h bs own).P ({w with heap:=Array.replicate (b+1) (.map #[] 0)}):=by rintro⟨s,_,d,_⟩;simp[Array.getElem?_replicate]at d
section
variable {M:Nat->Prop} {w0 w:J} {L D:List En} {bs:List Nat}
def _root_.Go.W.LH.wm(H:LH M w0 w L D)(i:Nat){d:Nat}{l q:List UInt8}{own:List Nat}{g:FuncId}{args:Array aa}{K:aJ}(hi:L[i]? =some (.wr d l own))(x:hd w d l own->aj V g args w (qb w d own q))(y:∀j h,LH M w0 j (L.set i (.wr d q h)) D->K (ae (.tuple #[])) j)(bF:∀b∈bs,En.g b∈L:=by simp):eJ bs V g args w K:=by
 refine⟨(·∈own),λb k z=>?_,(x (H.get i hi)).mono λr j ⟨A,h,C,f,o⟩=>⟨f,?_⟩⟩
 .exact o' H hi (agb d l own w) (bF b k) (a0.2 z)
 .subst A;refine y j h (H.ha i (.wr d q h) hi (f.mono λE _ B=>a0.2 B) C λb k=>?_);exact(o b (a0.1 k)).imp a0.2 id
def _root_.Go.W.LH.ace(H:LH M w0 w L D){K:J->Prop}(j:∀d,LH M w0 d (L++[.wr w.heap.size [] [w.heap.size]]) D->K d):dz w (.cells #[.slice none 0 0] ti) K:=
 j _ (H.push _ (Fr.alloc _ _ _) (hd.new w) λb h=>by have:=a0.1 h;simp at this;omega)
end
def di(g:List Nx):List UInt8:=cd g.length++g.flatMap ep
def AU{z:Nat}:∀{g:List Nx},(∀d∈g,(ep d).length<=z)->(g.flatMap ep).length<=z *g.length
 |[],_=>ws
 |d::g,h=>by have k:=AU (g:=g) λe j=>h e (by simp[j]);have q:=h d ws;simp only[cU,a9,bI];rw[Nat.mul_add,Nat.mul_one];omega
def ID(g:List Nx)(w:J)(r:cE)(Y:J):Prop:=∃t:Sl,r=ae (.tuple #[t.v,.i (hB g)])/\(hB g=0->e6 Y t (di g)/\∀b∈ax t,w.heap.size<=b)
def afk{w:J}{s:Sl}{l:List Nd}(h:GP w s l)(hk:cG.P w)(A:l.length<=4096->∀d∈l,nT d.x/\fV d.x)(hz:∀d∈xs l,(ep d).length<=1000000):
  aj V Qr #[.agg #[s.v]] w λr q=>ID (xs l) w r q/\af w q:=by
 have N:=iU h;have ah:(xs l).length=l.length:=by simp[xs]
 have U:LH F0 w w [] [.gr s l,cG]:=bN _ (by
  intro e B;simp only[aq,aL,aR]at B;rcases B with rfl|rfl
  .exact ct.2 h
  .exact hk)
 refine yL.aD s w _ (U.aK λF w1 D=>D.aA (H2 (ct.1 (D.getD 0)) (D.getD 1) A) ?_);rintro _ C rfl I;refine⟨_,rfl,dA (λk=>⟨⟨⟨none,0,0⟩,rfl,λh=>absurd h k⟩,I.fr⟩) (λk=>I.ace λw3 W=>?_)⟩;have ad:l.length<=4096:=by
  rcases Nat.lt_or_ge 4096 l.length with h|h
  .unfold hB at k;rw[av co]at k;cases k
  .exact h
 have A:=A ad;have Q:∀i,(((xs l).take i).flatMap ep).length<=4096000000:=λi=>by
  have:=AU (g:=(xs l).take i) λd aa=>hz d (hP aa);rw[eT]at this;have h2:min i (xs l).length<=4096:=co
  omega
 have M:aX (s.n:Int):=⟨co,co⟩;have B:=da _ M;rw[N]at B;refine W.wm 1 rfl (λr=>ra r _ M ws) λS own E=>?_;have E:LH F0 w S [.g F,.wr C.heap.size (cd (l.length:Int)++((xs l).take 0).flatMap ep) own] [.gr s l,cG]:=by rw[List.take_zero,List.flatMap_nil,ed,<-N];exact E
 have loop:∀(m i:Nat) (own:List Nat) (y:J),i+m=l.length->LH F0 w y [.g F,.wr C.heap.size (cd (l.length:Int)++((xs l).take i).flatMap ep) own] [.gr s l,cG]->
   yL.a8 F s (ab C.heap.size) (s.n:Int) (i:Int) y λr q=>ID (xs l) w r q/\af w q:=by
  intro m;induction m with
  |zero=>
   intro i own y ac j;refine yL.bJ _ _ _ _ _ _ _ (aP (aV co) ?_);have ak:hd y C.heap.size (cd (l.length:Int)++((xs l).take i).flatMap ep) own:=j.get 1;refine hF ((VV ak (by have:=Q i;simp only[a9];omega)).mono ?_);rintro _ T ⟨t,rfl,O,K,hf⟩;rw[List.take_of_length_le co]at O;refine⟨K,t,rfl,⟨t,by rw[k],λ_=>⟨?_,λb G=>bz j.fr.size (hf b G)⟩⟩,j.fr.dN K⟩;unfold di;rw[ah];exact O
  |succ m ih=>
   intro i own y ac j;have z:l[i]? =some (l[i]'co):=a' co;generalize l[i]'co=d at z;have H:=aG z;have Z:=y4 z;have ex:(xs l).take (i+1)=(xs l).take i++[d.x]:=by rw[dM,Z];rfl
   refine yL.bJ _ _ _ _ _ _ _ (aM (aQ co) (aas (ct.1 (j.getD 0)) z rfl λp hp c=>?_));have L:∀b,b∈(En.gr s l).fp->b∉own:=λb G hm=>j.dj (.gr s l) ws b G _ (aG (i:=1) rfl) (a0.2 hm);have ae:(p.add (a5 (i:Int) *9)).block∈(En.gr s l).fp:=by refine od.2 (.inl ?_);show _∈(if l.flatMap Nd.c=[]then[]else ax s);rw[ag (λe=>by have:=congrArg List.length e;rw[Nd.e7]at this;simp at this;omega)];simp[ax,hp,jG]
   refine j.wm 1 rfl (λr=>Vc r c ((ct.1 (j.getD 0)).2 d H) (L _ ae) (λal hx=>L al (od.2 (.inr ⟨d,H,hx⟩))) (A d H).2 (by have:=Q i;simp only[a9];omega)) λT ai Y=>⟨rfl,?_⟩;rw[bb _ co];refine ih (i+1) ai T co ?_;rw[ex,de,<-cN,cU,List.flatMap_nil,ed];exact Y
 exact⟨rfl,loop l.length 0 own S co E⟩
def acq{n:Nx}(W:fV n)(B:n.kids.length<=100)(C:n.tx.size<=1000):(ep n).length<=1000000:=by have h:=da _ W.op;have j:=km _ W.ks;have k:=da _ W.n;have q:=da _ W.m;have w:=ek n.u.toNat (by have:=W.u;omega);have x:=da _ W.sk;have y:=da _ W.sn;have z:=da _ W.sx;have A:=ek n.kids.length co;have d:=ek (bl n.tx).length (by rw[dQ];omega);have D:=dQ n.tx;unfold ep dS ea;simp only[a9];omega
def SE:∀(n:Nat) (st:RS),(gL n st).2.bs.length<=st.bs.length
 |0,st=>bm _
 |n+1,st=>by
  have j:(bT st).2.bs.length<=st.bs.length:=Bj (st:=st) (bm _);simp only[gL];by_cases h:(bT st).2.err≠0
  .simp only[av h];exact j
  .simp only[ag h];have k:=SE n (bT st).2;by_cases d:(gL n (bT st).2).2.err≠0
   .simp only[av d];omega
   .simp only[ag d];omega
def adC(st:RS):(fZ st).1.length<=st.bs.length/\(fZ st).2.bs.length<=st.bs.length:=by
 have d:=SB st;unfold fZ;generalize nq st=q at d ⊢;obtain⟨n,s⟩:=q;dsimp only at d ⊢;split
 .exact ⟨dI _,d.2⟩
 .simp only[eT,List.length_drop];omega
def adx(st:RS):(gp st).1.length<=st.bs.length/\(∀j∈(gp st).1,aX j)/\(gp st).2.bs.length<=st.bs.length:=by
 have d:=SB st;unfold gp;generalize nq st=q at d ⊢;obtain⟨n,s⟩:=q;dsimp only at d ⊢;split
 .exact ⟨dI _,ws,d.2⟩
 .have h:=SD n s;have k:=SE n s;exact⟨co,h.2,co⟩
def sR(st:RS):aX (bT st).1/\(bT st).2.bs.length<=st.bs.length:=⟨VM _ (vy st),Bj (st:=st) (bm _)⟩
def ic(st:RS):Nx×RS:=
 let o:=bT st
 let d:=gp o.2
 let n:=bT d.2
 let m:=bT n.2
 let u:=g8 m.2
 let t:=fZ u.2
 let a:=bT t.2
 let b:=bT a.2
 let c:=bT b.2
 (⟨o.1,d.1,n.1,m.1,(u.1:Int),ba t.1,⟨a.1,b.1,c.1⟩⟩,c.2)
def k9:Nat->RS->List Nx×RS
 |0,st=>([],st)
 |n+1,st=>((ic st).1::(k9 n (ic st).2).1,(k9 n (ic st).2).2)
def kf(bs:List UInt8):List Nx×Int:=
 if(bT ⟨bs,0⟩).1<0\/4096<(bT ⟨bs,0⟩).1 then([],2)else
 if sQ (k9 (bT ⟨bs,0⟩).1.toNat (bT ⟨bs,0⟩).2).2≠0 then([],2)else
 if hB (k9 (bT ⟨bs,0⟩).1.toNat (bT ⟨bs,0⟩).2).1≠0 then([],2)else((k9 (bT ⟨bs,0⟩).1.toNat (bT ⟨bs,0⟩).2).1,0)
def adA{d:Nx}(W:fV d)(r:List UInt8):ic ⟨ep d++r,0⟩=(d,⟨r,0⟩):=by
 obtain⟨op,h,n,m,u,j,⟨a,b,c⟩⟩:=d;have k:=W.u;have w:=W.tx;have q:=W.kl;dsimp only at k w q;have e:ep ⟨op,h,n,m,u,j,⟨a,b,c⟩⟩++r=cd op++(dS h++(cd n++(cd m++(eF u.toNat++(ea (bl j)++(cd a++(cd b++(cd c++r)))))))):=by unfold ep;simp only[cN]
 unfold ic;rw[e];dsimp only;rw[lV _ W.op];dsimp only;rw[vw h co W.ks];dsimp only;rw[lV _ W.n];dsimp only;rw[lV _ W.m];dsimp only;rw[G9 _ co];dsimp only;rw[Bi (bl j) (by rw[dQ];omega)];dsimp only;rw[lV _ W.sk];dsimp only;rw[lV _ W.sn];dsimp only;rw[lV _ W.sx,jk,Int.toNat_of_nonneg k.1]
def SG:∀{g:List Nx} (_:∀d∈g,fV d) (r:List UInt8),k9 g.length ⟨g.flatMap ep++r,0⟩=(g,⟨r,0⟩)
 |[],_,r=>rfl
 |d::g,W,r=>by rw[cU,cN,bI];unfold k9;rw[adA (W d ws)];dsimp only;rw[SG (λe h=>W e (by simp[h]))]
def Kp{g:List Nx}(W:∀h∈g,fV h)(q:g.length<=4096)(k:hB g=0):kf (di g)=(g,0):=by have j:bT ⟨di g,0⟩=((g.length:Int),⟨g.flatMap ep,0⟩):=lV _ ⟨co,co⟩ _;have d:=SG W [];rw[ed]at d;unfold kf;rw[j];dsimp only;rw[bo,d,ag co];dsimp only;rw[ag (by unfold sQ;simp),ag (by simpa using k)]
def adB(st:RS)(x:st.bs.length<=1000000):fV (ic st).1/\(ic st).2.bs.length<=st.bs.length/\(ic st).1.kids.length<=st.bs.length/\(ic st).1.tx.size<=st.bs.length:=by have d:=sR st;have h:=adx (bT st).2;have s3:=sR (gp (bT st).2).2;have j:=sR (bT (gp (bT st).2).2).2;have y:=Bj (st:=(bT (bT (gp (bT st).2).2).2).2) (bm _);have A:=vy (bT (bT (gp (bT st).2).2).2).2;have z:=adC (g8 (bT (bT (gp (bT st).2).2).2).2).2;have k:=sR (fZ (g8 (bT (bT (gp (bT st).2).2).2).2).2).2;have q:=sR (bT (fZ (g8 (bT (bT (gp (bT st).2).2).2).2).2).2).2;have w:=sR (bT (bT (fZ (g8 (bT (bT (gp (bT st).2).2).2).2).2).2).2).2;unfold ic;dsimp only;refine⟨⟨d.1,h.2.1,by dsimp only;omega,s3.1,j.1,⟨by dsimp only;omega,by dsimp only;omega⟩,by dsimp only;rw[bQ];omega,k.1,q.1,w.1⟩,co,co,by rw[bQ];omega⟩
def gY(d:Nat):UInt8:=UInt8.ofNat (48+d)
def g0(c:UInt8):Bool:=au (48<=c.toNat)&&au (c.toNat<=57)
def cc(n:Nat):List UInt8:=if n<10 then[gY n]else cc (n / 10)++[gY (n%10)]
termination_by n
def bE(n:Int):List UInt8:=if n<0 then 45::cc n.natAbs else cc n.natAbs
def Eo:∀d<10,(gY d).toNat=48+d:=md
def Kr:∀d<10,g0 (gY d)=true:=md
def m7{n:Nat}(h:n<10):cc n=[gY n]:=by rw[cc,av h]
def rX{n:Nat}(h:¬n<10):cc n=cc (n / 10)++[gY (n%10)]:=by rw[cc,ag h]
def o5(n:Nat):∀c∈cc n,g0 c=true:=by
 induction n using Nat.strongRecOn with
 |_ n j=>
  by_cases h:n<10
  .rw [m7 h];intro c d;rw[List.mem_singleton.1 d];exact Kr n h
  .rw [rX h];intro c d;rcases aW.1 d with d|d
   .exact j (n / 10) co c d
   .rw [List.mem_singleton.1 d];exact Kr _ (Nat.mod_lt _ co)
def eV(a:Nat)(l:List UInt8):Nat:=l.foldl (λa c=>10 *a+(c.toNat - 48)) a
def Il(a:Nat)(l:List UInt8)(c:UInt8):eV a (l++[c])=10 *eV a l+(c.toNat - 48):=by unfold eV;rw[List.foldl_append];rfl
def nF(n:Nat):eV 0 (cc n)=n:=by
 induction n using Nat.strongRecOn with
 |_ n h=>
  by_cases d:n<10
  .rw [m7 d];show 10 *0+((gY n).toNat - 48)=n;rw[Eo n d];omega
  .rw [rX d,Il,h (n / 10) co,Eo _ (Nat.mod_lt _ co)];omega
def uy(n:Nat):cc n≠[]:=by
 by_cases d:n<10
 .rw [m7 d];simp
 .rw [rX d];simp
def zN{n k:Nat}(x:1<=k)(h:n<10^k):(cc n).length<=k:=by
 induction k generalizing n with
 |zero=>omega
 |succ k w=>
  by_cases j:n<10
  .rw [m7 j];simp
  .have q:1<=k:=by
    rcases Nat.eq_zero_or_pos k with d|d
    .subst d;rw[Nat.zero_add,Nat.pow_one]at h;omega
    .exact d
   have:n / 10<10^k:=by rw[Nat.div_lt_iff_lt_mul co,<-Nat.pow_succ];exact h
   rw[rX j,a9];have:=w q this;simp only[bI,dH];omega
def Zg(n:Nat):cc n=(List.range (cc n).length).map λd=>gY (n / 10^((cc n).length - 1 - d)%10):=by
 induction n using Nat.strongRecOn with
 |_ n q=>
  by_cases h:n<10
  .rw [m7 h];show _=[gY (n / 10^0%10)];rw[Nat.pow_zero,Nat.div_one,Nat.mod_eq_of_lt h]
  .have i:=q (n / 10) co;rw[rX h,a9,bI,dH,Nat.zero_add,List.range_succ,ez];have w:1<=(cc (n / 10)).length:=by
    cases k:cc (n / 10)with
    |nil=>exact absurd k (uy _)
    |cons c l=>simp
   congr 1
   .conv=>lhs;rw[i]
    refine List.map_congr_left λd j=>?_;have j:=List.mem_range.1 j;rw[Nat.div_div_eq_div_mul,<-Nat.pow_succ',show((cc (n / 10)).length - 1 - d).succ=(cc (n / 10)).length+1 - 1 - d by omega]
   .simp
def B7(l:List UInt8)(h:∀c∈l,g0 c=true):eV 0 l<10^l.length:=by
 have gen:∀(r l:List UInt8),(∀c∈r,g0 c=true)->∀a,a<10^l.length->eV a r<10^(l.length+r.length):=by
  intro r;induction r with
  |nil=>intro l _ a d;exact d
  |cons c r x=>
   intro l k a d;have j:=k c ws;unfold g0 at j;simp only[bH,decide_eq_true_eq]at j;have:=x (l++[c]) (λq w=>k q (by simp[w])) (10 *a+(c.toNat - 48)) (by rw[a9,bI,dH,Nat.zero_add,Nat.pow_succ];omega);rw[a9,bI,dH,Nat.zero_add,Nat.add_assoc,Nat.add_comm 1]at this;exact this
 simpa using gen l [] h 0 ws
def Eh{m n:Int}(h:bE m=bE n):m=n:=by
 have no:∀d:Nat,∀l,45::l≠cc d:=λd l e=>by have:=o5 d 45 (by rw[<-e];simp);exact absurd this md
 unfold bE at h;split at h<;>split at h
 .injection h with _ h
  have:=congrArg (eV 0) h;rw[nF,nF]at this;omega
 .exact absurd h (no _ _)
 .exact absurd h.symm (no _ _)
 .have:=congrArg (eV 0) h;rw[nF,nF]at this;omega
def uZ(c:UInt8):Bool:=g0 c||c==45
def Eg(n:Int):∀c∈bE n,uZ c=true:=by
 intro c d;unfold bE at d;unfold uZ;split at d
 .rcases aq.1 d with rfl|d
  .rfl
  .rw [o5 _ c d];rfl
 .rw [o5 _ c d];rfl
def Km(n:Int):bE n≠[]:=by
 unfold bE;split
 .simp
 .exact uy _
def g1:List Int->List UInt8
 |[]=>[]
 |[n]=>bE n
 |n::m::r=>bE n++32::g1 (m::r)
def cD(l:List Int):List UInt8:=40::g1 l++[41]
def sb(n m:Int)(r:List Int):g1 (n::m::r)=bE n++32::g1 (m::r):=rfl
def ML:∀l:List Int,∀c∈g1 l,uZ c=true\/c=32
 |[],c,d=>by cases d
 |[n],c,d=>.inl (Eg n c d)
 |n::m::r,c,d=>by
  rw[sb]at d;rcases aW.1 d with d|d
  .exact .inl (Eg n c d)
  .rcases aq.1 d with d|d
   .exact .inr d
   .exact ML (m::r) c d
structure bO where
 kind:Int
 node:Int
 df:Int
 params:List Int
 nm:ByteArray
 bR:List Int
 hints:List Int
def j3:List (List UInt8):=[[103,97,116,101],[97,115,115,101,114,116],[97,120,105,111,109],[101,113,117,97,108],[108,101,109,109,97],[114,101,115,111,108,118,101]]
def gU(k:Int):List UInt8:=j3.getD k.toNat []
def hh(s:bO):List UInt8:=if bl s.nm=[]then[45]else bl s.nm
def cM(s:bO):List UInt8:=gU s.kind++32::(bE s.node++32::(bE s.df++32::(hh s++32::(cD s.params++32::(cD s.hints++32::cD s.bR)))))
structure kM(s:bO):Prop where
 kind:0<=s.kind/\s.kind<=5
 node:aX s.node
 df:aX s.df
 params:∀x∈s.params,aX x
 bR:∀x∈s.bR,aX x
 hints:∀x∈s.hints,aX x
 nm1:32∉bl s.nm
 nm2:bl s.nm≠[45]
 nm3:∀l,bl s.nm≠40::l
def uW{c:UInt8}{b:List UInt8}:∀{a:List UInt8},c∉a->Go.Lib.indexByte (a++c::b) c=(a.length:Int)
 |[],_=>by simp[Go.Lib.indexByte]
 |j::a,d=>by
  simp only[aq,not_or]at d;have h:=uW (b:=b) d.2;rw[i2,Go.Lib.indexByte,ag (by simpa using λe=>d.1 e.symm),h];simp only[bI];split
  .rename_i e;simp at e;try omega
  .omega
def Mj{c:UInt8}:∀{l:List UInt8},c∉l->Go.Lib.indexByte l c=-1
 |[],_=>rfl
 |h::l,d=>by simp only[aq,not_or]at d;rw[Go.Lib.indexByte,ag (by simpa using λe=>d.1 e.symm),Mj d.2];first |rfl|skip
def FL{c:UInt8}:∀{l:List UInt8},c∈l->∃a b,l=a++c::b/\c∉a
 |h::l,j=>by
  by_cases e:h=c
  .exact ⟨[],l,by rw[e];rfl,ws⟩
  .obtain ⟨a,b,rfl,k⟩:=FL ((aq.1 j).resolve_left λd=>e d.symm);exact⟨h::a,b,rfl,by simp only[aq,not_or];exact⟨λd=>e d.symm,k⟩⟩
def w9(c:UInt8)(l:List UInt8):(c∉l/\Go.Lib.indexByte l c=-1)\/∃a b,l=a++c::b/\c∉a/\Go.Lib.indexByte l c=(a.length:Int):=by
 by_cases d:c∈l
 .obtain ⟨a,b,e,h⟩:=FL d;exact .inr ⟨a,b,e,h,by rw[e];exact uW h⟩
 .exact .inl ⟨d,Mj d⟩
def qi{c:UInt8}{a b d j:List UInt8}(h:c∉a)(w:c∉d)(e:a++c::b=d++c::j):a=d/\b=j:=by
 have x:=uW (b:=b) h;rw[e,uW w]at x;have y:a.length=d.length:=co
 obtain⟨k,q⟩:=List.append_inj e y;exact⟨k,by injection q⟩
def e1(c:UInt8):List UInt8->List (List UInt8)
 |[]=>[[]]
 |d::l=>if d=c then[]::e1 c l else(d::(e1 c l).headD [])::(e1 c l).tail
def BJ(c:UInt8):∀l,e1 c l≠[]
 |[]=>by simp[e1]
 |d::l=>by unfold e1;split<;>simp
def s7{c:UInt8}{b:List UInt8}:∀{a:List UInt8},c∉a->e1 c (a++c::b)=a::e1 c b
 |[],_=>by rw[lU,e1,av rfl]
 |h::a,d=>by simp only[aq,not_or]at d;rw[i2,e1,ag λe=>d.1 e.symm,s7 d.2];rfl
def s8{c:UInt8}:∀{l:List UInt8},c∉l->e1 c l=[l]
 |[],_=>rfl
 |h::l,d=>by simp only[aq,not_or]at d;rw[e1,ag λe=>d.1 e.symm,s8 d.2];rfl
def Zc{c:UInt8}{l:List UInt8}(h:c∉l):Go.Lib.countByte l c=0:=List.count_eq_zero.2 h
def Zb{c:UInt8}{a b:List UInt8}(h:c∉a):Go.Lib.countByte (a++c::b) c=Go.Lib.countByte b c+1:=by unfold Go.Lib.countByte;rw[List.count_append,List.count_eq_zero.2 h,List.count_cons_self,Nat.zero_add]
def Uu(c:UInt8)(l:List UInt8):(e1 c l).length=Go.Lib.countByte l c+1:=by
 generalize j:l.length=n;induction n using Nat.strongRecOn generalizing l with
 |_ n k=>
  rcases w9 c l with⟨d,_⟩|⟨a,b,rfl,h,_⟩
  .rw [s8 d,Zc d];rfl
  .rw [s7 h,Zb h,bI,k b.length (by simp at j;omega) b rfl]
def n3{n:Int}{c:UInt8}(h:uZ c=false):c∉bE n:=λd=>by rw[Eg n c d]at h;cases h
def Aj:∀{l:List Int},l≠[]->e1 32 (g1 l)=l.map bE
 |[n],_=>s8 (n3 rfl)
 |n::m::r,_=>by rw[sb,s7 (n3 rfl),Aj ws];rfl
def Ut:∀{l:List Int} {t:List UInt8},e1 32 t=l.map bE->t=g1 l
 |[],t,d=>absurd d (BJ 32 t)
 |[n],t,d=>by
  rcases w9 32 t with⟨j,_⟩|⟨a,b,rfl,h,_⟩
  .rw [s8 j]at d;simpa[g1]using d
  .rw [s7 h]at d;simp at d;exact absurd d.2 (BJ 32 b)
 |n::m::r,t,d=>by
  rcases w9 32 t with⟨j,_⟩|⟨a,b,rfl,h,_⟩
  .rw [s8 j]at d;simp at d
  .rw [s7 h,hn]at d;injection d with k q
   rw[sb,<-Ut q,k]
def Fo{l:List Int}:g1 l=[]↔l=[]:=by
 constructor
 .intro d;cases l with
  |nil=>rfl
  |cons n r=>
   exfalso;cases r with
   |nil=>exact Km n d
   |cons m r=>rw[sb]at d;simp at d
 .rintro rfl;rfl
def Fp{l:List Int}{c:UInt8}(h:uZ c=false)(j:c≠32):c∉g1 l:=λk=>by
 rcases ML l c k with d|d
 .rw [d]at h;cases h
 .exact j d
namespace MF
noncomputable abbrev S1:=ak (ay V Tryz.f149 [] []) [0,1,1,2,2] []
noncomputable abbrev t1:=ao S1
abbrev P0:Ps:=[(0,.v [.st]),(1,.v [.st]),(5,.v [.I]),(6,.v [.Y]),(7,.v [.Y]),(8,.v [.I]),(9,.v [.I]),(10,.v [.I])]
noncomputable def L6:=bg t1 [0,2,8] P0
noncomputable abbrev t2:=bf L6
noncomputable abbrev tR:=ak t2 [6,1,1,3,8] P0
noncomputable abbrev t3:=ao tR
noncomputable abbrev p':=ak t3 [4,1,1,3,8] P0
noncomputable abbrev t4:=ao p'
noncomputable abbrev S9:=ak t4 [3,1,1,3,8] P0
noncomputable abbrev t5:=ao S9
noncomputable abbrev S8:=ak t5 [2,1,1,3,8] P0
noncomputable abbrev t6:=ao S8
noncomputable abbrev S7:=ak t6 [1,1,1,3,8] P0
noncomputable abbrev t7:=ao S7
noncomputable abbrev S5:=ak t7 [7] [(0,.v [.st]),(1,.v [.st]),(5,.v [.I]),(6,.v [.Y]),(7,.v [.Y]),(8,.v [.I]),(9,.v [.I])]
noncomputable abbrev t8:=ao S5
noncomputable abbrev S4:=ak t8 [5] [(0,.v [.st]),(1,.v [.st]),(5,.v [.I]),(6,.v [.Y]),(7,.v [.Y])]
noncomputable abbrev t9:=ao S4
noncomputable abbrev S3:=ak t9 [4] [(0,.v [.st]),(1,.v [.st]),(5,.v [.I]),(6,.v [.Y])]
noncomputable abbrev t10:=ao S3
abbrev P1:Ps:=[(0,.v [.st]),(1,.v [.st]),(5,.v [.I])]
noncomputable abbrev S2:=ak t10 [3] P1
noncomputable abbrev t11:=ao S2
noncomputable abbrev S0:=ak t11 [2] P1
noncomputable abbrev t12:=ao S0
def ok:=az t12 Pe [.st,.st]
end MF
namespace U4
def ok:=az (ay V Tryz.f153 [] []) Qn [.st,.st]
end U4
namespace ME
def ok:=az (ay V Tryz.f150 [] []) Pd [.st,.st]
end ME
namespace MC
def ok:=az (ay V Tryz.f118 [(3,lr 12)] []) Pb [.st,.st]
end MC
namespace U2
def ok:=az (ay V Tryz.f91 [] []) Ql [.st,.st]
end U2
namespace MD
def ok:=az (ay V Tryz.f119 [] []) Pc [.st,.st]
end MD
namespace U3
def ok:=az (ay V Tryz.f92 [] []) Qm [.st,.st]
end U3
namespace U1
noncomputable def L0:=bg (ay V Tryz.f152 [] []) [0,1,4] [(0,.v [.st]),(1,.v [.st]),(5,.v [.I])]
noncomputable abbrev t1:=bf L0
noncomputable abbrev S1:=ak t1 [3,3,4] [(0,.v [.st]),(1,.v [.st]),(5,.v [.I]),(6,.v [.I])]
noncomputable abbrev t2:=ao S1
def ok:=az t2 Qk [.st,.st]
end U1
namespace tc
abbrev P0:Ps:=[(0,.v [.st]),(1,.v [.st]),(2,.v [.I]),(3,.v [.I]),(9,.v [.s]),(10,.v [.I])]
noncomputable def L3:=bg (ay V Tryz.f120 [] []) [0,2,8] P0
noncomputable abbrev t1:=bf L3
noncomputable abbrev S4:=ak t1 [9] [(0,.v [.st]),(9,.v [.s]),(10,.v [.I])]
noncomputable abbrev t2:=ao S4
noncomputable abbrev S5:=ak t2 [4,1,1,3,8] P0
noncomputable abbrev t3:=ao S5
def wv:=bj t3 L3
noncomputable abbrev S2:=ak t3 [7] [(0,.v [.st]),(1,.v [.st]),(2,.v [.I]),(3,.v [.I]),(9,.v [.s])]
noncomputable abbrev t4:=ao S2
abbrev P1:Ps:=[(0,.v [.st]),(1,.v [.st]),(2,.v [.I]),(3,.v [.I])]
noncomputable abbrev S1:=ak t4 [5] P1
noncomputable abbrev t5:=ao S1
noncomputable abbrev S0:=ak t5 [4] P1
noncomputable abbrev t6:=ao S0
def ok:=az t6 Qp [.st,.st,.I,.I]
end tc
namespace U5
def ok:=az (ay V Tryz.f93 [] []) Qo [.st,.st]
end U5
def uE:gW V B2 cY (.string (bh #[])) 1 16:=⟨by kernel_rfl,by kernel_rfl,rfl,md,md⟩
def ya{a:Option Addr}{p:Addr}{K:Addr->Prop}(d:a=some p)(h:K p):dV a K:=by rw[d];exact h
def ac6(s:ByteArray)(c:UInt8)(w:J):Sem.run V (callFunc u9 #[.string s,.int .u8 (c.toNat:Int)]) w=.ok (.value (.int .i64 (Go.Lib.indexByte (bl s) c))) w:=by have d:=run_callFunc_indexByte (P:=V) (f:=u9) (fn:=(Tryz.prog.funcs[u9]?).getD default) (by kernel_rfl) (by kernel_rfl) (by kernel_rfl) (by kernel_rfl) (by kernel_rfl) #[.string s,.int .u8 (c.toNat:Int)] w;rw[d,Go.Lib.run_indexByteString];show Result.ok _ w=_;congr 4;simp
def aed(s:ByteArray)(c:UInt8)(w:J):Sem.run V (callFunc F3 #[.string s,.int .u8 (c.toNat:Int)]) w=.ok (.value (.i ((Go.Lib.countByte (bl s) c:Nat):Int))) w:=by have d:=run_callFunc_extern (P:=V) (f:=F3) (fn:=(Tryz.prog.funcs[F3]?).getD default) (e:=Extern.BytealgCount.count) (by kernel_rfl) (by kernel_rfl) (by kernel_rfl) (by kernel_rfl) (by kernel_rfl) #[.string s,.int .u8 (c.toNat:Int)] w;rw[d,Go.Lib.run_countString];show Result.ok _ w=_;congr 4;simp;rfl
def TT(s:ByteArray)(c:UInt8)(w:J):aj V F4 #[.string s,.int .u8 (c.toNat:Int)] w λr d=>r=ae (.i (Go.Lib.indexByte (bl s) c))/\d=w:=
 Fh.ok _ _ w _ ⟨_,w,ac6 s c w,rfl,rfl⟩
def Hx(s:ByteArray)(c:UInt8)(w:J):aj V Gn #[.string s,.int .u8 (c.toNat:Int)] w λr d=>r=ae (.i (Go.Lib.indexByte (bl s) c))/\d=w:=by refine HX.ok _ _ w _ ((TT s c w).mono ?_);rintro _ _ ⟨rfl,rfl⟩;exact⟨_,rfl,rfl,rfl⟩
def TU(s:ByteArray)(c:UInt8)(w:J):aj V Pe #[.string s,.string (bh #[c])] w λr h=>r=ae (.i (Go.Lib.indexByte (bl s) c))/\h=w:=by
 refine MF.ok _ _ w _ (aP rfl (jz (λd=>?_) (λd=>aM rfl ⟨co,c,rfl,(TT s c w).mono ?_⟩)))
 .subst d;exact⟨by simp[bl,Go.Lib.indexByte],rfl⟩
 .rintro _ _ ⟨rfl,rfl⟩;exact⟨_,rfl,rfl,rfl⟩
def aeb(s:ByteArray)(c:UInt8)(w:J):aj V Qn #[.string s,.string (bh #[c])] w λr d=>r=ae (.i (Go.Lib.indexByte (bl s) c))/\d=w:=by refine U4.ok _ _ w _ ((TU s c w).mono ?_);rintro _ _ ⟨rfl,rfl⟩;exact⟨_,rfl,rfl,rfl⟩
def uf(s:ByteArray)(i j:Nat):s.extract i j=ba (((bl s).take j).drop i):=by apply ByteArray.ext;apply Array.toList_inj.1;simp[ba,bl,Array.toList_extract,List.drop_take]
inductive we (l:List UInt8) (c:UInt8):cE->Prop
 |no:c∉l->we l c (ae (.tuple #[.string (ba l),.string (bh #[]),.bool false]))
 |yes (a b:List UInt8):l=a++c::b->c∉a->we l c (ae (.tuple #[.string (ba a),.string (ba b),.bool true]))
def Kl{s:ByteArray}{c:UInt8}{a b:List UInt8}(h:bl s=a++c::b):s.size=a.length+b.length+1/\s.extract 0 a.length=ba a/\s.extract (a.length+1) s.size=ba b:=by
 have d:s.size=(bl s).length:=rfl;refine⟨by rw[d,h];simp;omega,?_,?_⟩
 .rw [uf,h];simp
 .rw [uf,d,G6,h,show a++c::b=(a++[c])++b by simp,List.drop_left' ws]
def TR(s:ByteArray)(c:UInt8)(A:s.size<=1000000000)(w:J):aj V Ql #[.string s,.string (bh #[c])] w λr j=>we (bl s) c r/\af w j:=by
 refine U2.ok _ _ w _ ((show aj V Pb #[.string s,.string (bh #[c])] w λr j=>we (bl s) c r/\af w j from MC.ok _ _ w _ ((TU s c w).mono ?_)).mono ?_)
 .rintro _ k ⟨rfl,rfl⟩;refine⟨_,rfl,?_⟩;rcases w9 c (bl s)with⟨d,e⟩|⟨a,b,d,h,e⟩
  .rw [e];exact aP rfl ⟨by have:=we.no d;rwa[jk]at this,Fr.refl _ _⟩
  .obtain ⟨C,x,y⟩:=Kl d;rw[e];refine aM (aQ co) ((bN (w:=k) [] ws).dr λB q=>?_);have z:ah .i64 ((a.length:Int)+(((bh #[c]).size:Nat):Int))=((a.length+1:Nat):Int):=bb _ co;rw[z,bo,bo,x,y];exact⟨co,co,co,co,.yes a b d h,q.fr⟩
 .rintro _ k ⟨d,f⟩;cases d with
  |no d=>exact⟨_,_,_,rfl,.no d,f⟩
  |yes a b d h=>exact⟨_,_,_,rfl,.yes a b d h,f⟩
inductive wz (l:List UInt8) (c:UInt8):cE->Prop
 |no:(∀b,l≠c::b)->wz l c (ae (.tuple #[.string (ba l),.bool false]))
 |yes (b:List UInt8):l=c::b->wz l c (ae (.tuple #[.string (ba b),.bool true]))
def Hw(s:ByteArray)(c:UInt8)(w:J):aj V Qm #[.string s,.string (bh #[c])] w λr j=>wz (bl s) c r/\af w j:=by
 have k:s.size=(bl s).length:=rfl;have pre:aj V Pd #[.string s,.string (bh #[c])] w λr j=>(∃b:Bool,r=ae (.bool b)/\(b=true↔∃l,bl s=c::l))/\j=w:=by
  refine ME.ok _ _ w _ (aE (λd=>⟨co,d,⟨_,rfl,?_⟩,rfl⟩) (λd=>⟨⟨_,rfl,⟨λd=>(by cases d),λ⟨l,e⟩=>?_⟩⟩,rfl⟩))
  .have q:1<=s.size:=by have d:((1:Nat):Int)<=(s.size:Int):=d;omega
   rw[q8];cases h:bl s with
   |nil=>rw[k,h]at q;simp at q
   |cons x l=>
    have e:s.extract 0 (a5 (((bh #[c]).size:Nat):Int))=ba [x]:=by rw[uf,h];rfl
    rw[e,decide_eq_true_iff];constructor
    .intro d;have:[x]=[c]:=congrArg (λb:ByteArray=>b.data.toList) d;exact⟨l,by rw[(List.cons.inj this).1]⟩
    .rintro ⟨m,e⟩;rw[(List.cons.inj e).1];rfl
  .rw [k,e]at d;exact absurd (show((1:Nat):Int)<=(((c::l).length:Nat):Int)by simp;omega) d
 refine U3.ok _ _ w _ ((show aj V Pc #[.string s,.string (bh #[c])] w λr j=>wz (bl s) c r/\af w j from MD.ok _ _ w _ (pre.mono ?_)).mono ?_)
 .rintro _ z ⟨⟨b,rfl,h⟩,rfl⟩;refine⟨_,rfl,?_⟩;cases b with
  |false=>exact aM rfl ⟨by have:=wz.no (l:=bl s) (c:=c) (λb e=>by have:=h.2 ⟨b,e⟩;cases this);rwa[jk]at this,Fr.refl _ _⟩
  |true=>
   obtain⟨l,e⟩:=h.1 rfl;have q:s.size=l.length+1:=by rw[k,e];rfl
   refine aP rfl ⟨co,?_,?_,Fr.refl _ _⟩
   .show ((1:Nat):Int)<=_;omega
   .have y:s.extract (a5 (((bh #[c]).size:Nat):Int)) s.size=ba l:=by rw[uf,k,G6,e];rfl
    rw[y];exact .yes l e
 .rintro _ z ⟨d,f⟩;cases d with
  |no d=>exact⟨_,_,rfl,.no d,f⟩
  |yes b d=>exact⟨_,_,rfl,.yes b d,f⟩
def b3(l:List UInt8):aa:=.string (ba l)
def afc(s:Sl)(n:Nat)(h:n=s.n):Value.slice (if s.c=0 then s.a else s.a.map (·.add (0 *1))) (n - 0) (s.c - 0)=s.v:=by
 obtain⟨a,m,c⟩:=s;subst h;cases a with
 |none=>simp
 |some p=>simp[Addr.add]
def aec(s:ByteArray)(c:UInt8)(hs:s.size<=1000000000)(w:J):aj V Qo #[.string s,.string (bh #[c])] w λr j=>(∃t:Sl,r=ae t.v/\aF j cY 1 t ((e1 c (bl s)).map b3)/\∀b∈ax t,w.heap.size<=b)/\af w j:=by
 have hz:s.size=(bl s).length:=rfl;have O:aj V Qk #[.string s,.string (bh #[c])] w λr j=>r=ae (.i ((Go.Lib.countByte (bl s) c:Nat):Int))/\j=w:=
  U1.ok _ _ w _ (aP rfl (aM rfl ⟨co,c,rfl,_,w,aed s c w,rfl,rfl⟩))
 have ad:Go.Lib.countByte (bl s) c<=s.size:=by rw[hz];exact List.count_le_length
 generalize hn:Go.Lib.countByte (bl s) c=n at *;have ab:=Uu c (bl s);rw[hn]at ab;have loop:∀(m i:Nat) (cur:ByteArray) (a:Sl) (done:List (List UInt8)) (y:J),i+m=n->cur.size<=s.size->done.length=i->e1 c (bl s)=done++e1 c (bl cur)->LH F0 w y [.row cY 1 a (done.map b3++List.replicate (m+1) (Value.string (bh #[])))] []->
   tc.L3 cur (bh #[c]) 0 (n:Int) a (i:Int) y λr j=>(∃t:Sl,r=ae t.v/\aF j cY 1 t ((e1 c (bl s)).map b3)/\∀b∈ax t,w.heap.size<=b)/\af w j:=by
  intro m;induction m with
  |zero=>
   intro i cur a done y Y W C F h;have U:a.n=n+1:=by have:=(h.get 0:aF _ _ _ _ _).len;simp at this;omega
   have G:(e1 c (bl cur)).length=1:=by have:=congrArg List.length F;rw[a9]at this;omega
   have aa:c∉bl cur:=λZ=>by obtain⟨d,z,e,D⟩:=FL Z;rw[e,s7 D]at G;have:e1 c z=[]:=List.eq_nil_of_length_eq_zero (by simpa using G);exact BJ c z this
   refine tc.wv _ _ _ _ _ _ _ _ (aP (aV co) ?_);obtain⟨p,q⟩:∃p,a.a=some p:=by have k:=(Ho (h.get 0) rfl (i:=i) (v:=Value.string (bh #[])) (by rw[pA (by simp;omega)];simp[C]) (K:=λA=>a.a=some A) λp q _=>q);obtain⟨A,L,k⟩:=sL k.2.2;exact⟨A,L⟩
   refine⟨co,co,ya q (UE (h.pG (bs:=[]) 0 (i *1) rfl q (by simp;omega) (λN B=>?_) ws))⟩;have hw:ah .i64 ((i:Int)+1)=((i+1:Nat):Int):=bb _ co;rw[hw,bo,afc _ _ co];have ac:=(B.get 0:aF _ _ _ _ _).cap;refine⟨co,co,⟨a,rfl,?_,λb I=>(B.new _ (aG (i:=0) rfl) b I).resolve_right id⟩,B.fr⟩;have x:aF N cY 1 a ((done.map b3++List.replicate (0+1) (Value.string (bh #[]))).set (i *1) (.string cur)):=B.get 0;rw[Nat.mul_one]at x;rw[F,s8 aa,ez];rw[List.set_append_right _ _ (by simp;omega)]at x;simp only[gJ,C,Nat.mul_one,Nat.sub_self,List.replicate_one,List.set_cons_zero]at x;have e:List.map b3 [bl cur]=[Value.string cur]:=by simp[b3,jk]
   rw[e];exact x
  |succ m ih=>
   intro i cur a done y Y W C F h;have G:(e1 c (bl cur)).length=m+2:=by have:=congrArg List.length F;rw[a9]at this;omega
   obtain⟨d,z,e,D⟩:∃d z,bl cur=d++c::z/\c∉d:=by
    rcases w9 c (bl cur)with⟨k,_⟩|⟨d,z,e,D,_⟩
    .rw [s8 k]at G;simp at G
    .exact ⟨d,z,e,D⟩
   obtain⟨ai,P,Q⟩:=Kl e;have U:a.n=n+1:=by have:=(h.get 0:aF _ _ _ _ _).len;simp at this;omega
   refine tc.wv _ _ _ _ _ _ _ _ (aM (aQ co) ((aeb cur c y).mono ?_));rintro _ _ ⟨rfl,rfl⟩;rw[e,uW D];refine⟨_,rfl,aP (aV co) ?_⟩;have S:ah .i64 ((d.length:Int)+0)=(d.length:Int):=by rw[Int.add_zero];exact aN _ co
   have E:ah .i64 ((d.length:Int)+(((bh #[c]).size:Nat):Int))=((d.length+1:Nat):Int):=bb _ co;simp only[S,E,bo,P,Q];obtain⟨p,q⟩:∃p,a.a=some p:=by have k:=(Ho (h.get 0) rfl (i:=i) (v:=Value.string (bh #[])) (by rw[pA (by simp;omega)];simp[C]) (K:=λA=>a.a=some A) λp q _=>q);obtain⟨A,L,k⟩:=sL k.2.2;exact⟨A,L⟩
   refine⟨co,co,co,co,ya q (UE (h.pG (bs:=[]) 0 (i *1) rfl q (by simp;omega) (λN B=>?_) ws))⟩;refine⟨co,co,?_⟩;show tc.L3 _ _ _ _ _ (ah .i64 ((i:Int)+1)) _ _;rw[bb _ co];refine ih (i+1) (ba z) a (done++[d]) N co (by rw[bQ];omega) (by simp[C]) ?_ ?_
   .rw [F,e,s7 D,cN];rfl
   .have x:=B;rw[List.set_append_right _ _ (by simp;omega)]at x;simp only[gJ,C,Nat.mul_one,Nat.sub_self]at x;rw[show m+1+1=(m+1)+1 from rfl,List.replicate_succ,List.set_cons_zero]at x;rw[ez,cN];exact x
 refine U5.ok _ _ w _ ((show aj V Qp #[.string s,.string (bh #[c]),.i 0,.i (-1)] w λr j=>(∃t:Sl,r=ae t.v/\aF j cY 1 t ((e1 c (bl s)).map b3)/\∀b∈ax t,w.heap.size<=b)/\af w j from
  tc.ok _ _ _ _ w _ (aP rfl (jz (λk=>absurd (congrArg ByteArray.size k) (by show ¬(1:Nat)=0;omega)) (λ_=>aM rfl (O.mono ?_))))).mono ?_)
 .rintro _ M ⟨rfl,rfl⟩;refine⟨_,rfl,?_⟩;have E:ah .i64 ((n:Int)+1)=((n+1:Nat):Int):=bb _ co;have H:ah .i64 ((s.size:Int)+1)=((s.size+1:Nat):Int):=bb _ co;try dsimp only
  rw[E];dsimp only[tc.S0,ak];rw[H,ag co];obtain⟨y,r1,r2,r3⟩:=Ny uE M (n+1) co;have h:=(bN (w:=M) [] ws).Sf r3 r2 (by intro b I;simp[ax]at I;omega);have T:ah .i64 (((n+1:Nat):Int) - 1)=(n:Int):=by rw[aN _ co];omega
  refine⟨⟨some ⟨M.heap.size,0,none⟩,n+1,n+1⟩,y,r1,?_⟩;rw[T];refine loop n 0 s _ [] y co (bm _) rfl rfl ?_;rw[abY _ _ rfl]at h;simpa using h
 .rintro _ y ⟨⟨t,rfl,E,H⟩,f⟩;exact⟨_,rfl,⟨_,rfl,E,H⟩,f⟩
abbrev xU:ByteArray:=bh #[48,48,48,49,48,50,48,51,48,52,48,53,48,54,48,55,48,56,48,57,49,48,49,49,49,50,49,51,49,52,49,53,49,54,49,55,49,56,49,57,50,48,50,49,50,50,50,51,50,52,50,53,50,54,50,55,50,56,50,57,51,48,51,49,51,50,51,51,51,52,51,53,51,54,51,55,51,56,51,57,52,48,52,49,52,50,52,51,52,52,52,53,52,54,52,55,52,56,52,57,53,48,53,49,53,50,53,51,53,52,53,53,53,54,53,55,53,56,53,57,54,48,54,49,54,50,54,51,54,52,54,53,54,54,54,55,54,56,54,57,55,48,55,49,55,50,55,51,55,52,55,53,55,54,55,55,55,56,55,57,56,48,56,49,56,50,56,51,56,52,56,53,56,54,56,55,56,56,56,57,57,48,57,49,57,50,57,51,57,52,57,53,57,54,57,55,57,56,57,57]
abbrev abF:ByteArray:=bh #[48,49,50,51,52,53,54,55,56,57,97,98,99,100,101,102,103,104,105,106,107,108,109,110,111,112,113,114,115,116,117,118,119,120,121,122]
namespace Mw
def ok:=az (ay V Tryz.f171 [] []) O6 [.b]
end Mw
namespace Mx
def ok:=az (ay V Tryz.f169 [] []) ab9 [.I]
end Mx
namespace Mz
def ok:=az (ay V Tryz.f134 [] []) O9 [.U]
end Mz
namespace kW
noncomputable def L0:=bg (ay V Tryz.f135 [(7,lr 15),(8,lr 15),(9,lr 15),(10,lr 15),(17,lr 15),(18,lr 15),(23,lr 15)] []) [0,2,1] [(0,.v [.s]),(1,.v [.U]),(4,.v [.I])]
noncomputable abbrev t1:=bf L0
noncomputable abbrev S5:=ak t1 [5,1,1,3,1] [(0,.v [.s]),(1,.v [.U]),(4,.v [.I]),(8,.v [.i .u32]),(9,.v [.i .u32]),(10,.v [.i .u32]),(11,.v [.i .u32])]
noncomputable abbrev t2:=ao S5
noncomputable abbrev S4:=ak t2 [4,1,1,3,1] [(0,.v [.s]),(1,.v [.U]),(4,.v [.I]),(6,.v [.i .u32]),(8,.v [.i .u32]),(9,.v [.i .u32])]
noncomputable abbrev t3:=ao S4
noncomputable abbrev S3:=ak t3 [3,1,1,3,1] [(0,.v [.s]),(1,.v [.U]),(4,.v [.I]),(6,.v [.i .u32]),(7,.v [.i .u32])]
noncomputable abbrev t4:=ao S3
abbrev P0:Ps:=[(0,.v [.s]),(1,.v [.U]),(4,.v [.I]),(5,.v [.i .u32])]
noncomputable abbrev S2:=ak t4 [2,1,1,3,1] P0
noncomputable abbrev t5:=ao S2
noncomputable abbrev S1:=ak t5 [1,1,1,3,1] P0
noncomputable abbrev t6:=ao S1
abbrev P1:Ps:=[(0,.v [.s]),(4,.v [.I]),(12,.v [.i .u32])]
noncomputable abbrev zj:=ak t6 [5] P1
noncomputable abbrev t7:=ao zj
abbrev P2:Ps:=[(0,.v [.s]),(4,.v [.I]),(12,.v [.i .u32]),(16,.v [.i .u32])]
noncomputable abbrev tR:=ak t7 [2,1,1,1,4] P2
noncomputable abbrev t8:=ao tR
noncomputable abbrev p':=ak t8 [1,1,1,1,4] P2
noncomputable abbrev t9:=ao p'
noncomputable abbrev S9:=ak t9 [4] P1
noncomputable abbrev t10:=ao S9
noncomputable abbrev S8:=ak t10 [3,1,1,1,3] [(0,.v [.s]),(4,.v [.I]),(12,.v [.i .u32]),(14,.v [.i .u32]),(15,.v [.i .u32])]
noncomputable abbrev t11:=ao S8
abbrev P3:Ps:=[(0,.v [.s]),(4,.v [.I]),(12,.v [.i .u32]),(13,.v [.i .u32])]
noncomputable abbrev S7:=ak t11 [2,1,1,1,3] P3
noncomputable abbrev t12:=ao S7
noncomputable abbrev S6:=ak t12 [1,1,1,1,3] P3
noncomputable abbrev t13:=ao S6
def bC:=bj t13 L0
def ok:=az t13 O7 [.s,.U]
end kW
namespace MA
def ok:=az (ay V Tryz.f133 [] []) O' [.I]
end MA
namespace xP
noncomputable abbrev S1:=ak (ay V Tryz.f107 [] []) [4,1,1,1,1] [(0,.v [.I]),(5,.v [.r]),(6,.v [.U])]
noncomputable abbrev t1:=ao S1
noncomputable abbrev S0:=ak t1 [1,1,1,1,1] [(0,.v [.I])]
noncomputable abbrev t2:=ao S0
def ok:=az t2 O2 [.I,.I]
end xP
namespace Mv
def ok:=az (ay V Tryz.f80 [] []) O3 [.I]
end Mv
namespace UX
def ok:=az (ay V Tryz.f52 [] []) Qg [.I]
end UX
namespace Mu
def ok:=az (ay V Tryz.f106 [] []) O0 [.s,.U,.I]
end Mu
namespace Mt
noncomputable abbrev S0:=ak (ay V Tryz.f79 [] []) [3] [(0,.v [.s]),(2,.v [.I]),(7,.v [.U])]
noncomputable abbrev t1:=ao S0
def ok:=az t1 OZ [.s,.I,.I]
end Mt
namespace UU
def ok:=az (ay V Tryz.f51 [] []) Qe [.s,.I,.I]
end UU
namespace My
def ok:=az (ay V Tryz.f198 [] []) O8 [.Y]
end My
namespace oh
abbrev P0:Ps:=[(1,.v [.I]),(8,.v [.b]),(9,.v [.st]),(10,.v [.U]),(11,.v [.U]),(12,.v [.b]),(13,.v [.U]),(99,.v [.s]),(100,.v [.I]),(101,.v [.I])]
noncomputable def L4:=bg (ay V Tryz.f185 [] []) [0,1,1,1,11] P0
noncomputable abbrev t1:=bf L4
noncomputable abbrev S5:=ak t1 [3,2,1,1,11] P0
noncomputable abbrev t2:=ao S5
noncomputable abbrev p':=ak t2 [0,1,1,1,7,2,2,2,1,1,11] [(11,.v [.U])]
noncomputable abbrev t3:=ao p'
noncomputable abbrev S9:=ak t3 [7,2,2,2,1,1,11] [(1,.v [.I]),(8,.v [.b]),(9,.v [.st]),(10,.v [.U]),(11,.v [.U]),(12,.v [.b]),(13,.v [.U]),(17,.v [.U]),(99,.v [.s]),(100,.v [.I]),(101,.v [.I])]
noncomputable abbrev t4:=ao S9
abbrev P1:Ps:=[(1,.v [.I]),(8,.v [.b]),(9,.v [.st]),(10,.v [.U]),(11,.v [.U]),(12,.v [.b]),(13,.v [.U]),(16,.v [.Y]),(99,.v [.s]),(100,.v [.I]),(101,.v [.I])]
noncomputable abbrev S8:=ak t4 [6,2,2,2,1,1,11] P1
noncomputable abbrev t5:=ao S8
noncomputable abbrev S7:=ak t5 [3,2,2,2,1,1,11] P1
noncomputable abbrev t6:=ao S7
abbrev P2:Ps:=[]
noncomputable abbrev zj:=ak t6 [6,2,2,2,2,2,1,1,11] P2
noncomputable abbrev t7:=ao zj
abbrev P3:Ps:=[(1,.v [.I]),(8,.v [.b]),(9,.v [.st]),(10,.v [.U]),(11,.v [.U]),(12,.v [.b]),(13,.v [.U]),(15,.v [.Y]),(99,.v [.s]),(100,.v [.I]),(101,.v [.I])]
noncomputable abbrev tR:=ak t7 [4,2,2,2,2,2,1,1,11] P3
noncomputable abbrev t8:=ao tR
noncomputable abbrev S6:=ak t8 [2,2,2,2,2,2,1,1,11] P3
noncomputable abbrev t9:=ao S6
noncomputable abbrev WG:=ak t9 [13] [(13,.v [.U])]
noncomputable abbrev t10:=ao WG
def rC:=bj t10 L4
noncomputable abbrev S3:=ak t10 [9] [(0,.v [.st]),(1,.v [.I]),(8,.v [.b]),(9,.v [.st]),(10,.v [.U]),(11,.v [.U])]
noncomputable abbrev t11:=ao S3
noncomputable abbrev S2:=ak t11 [8] [(0,.v [.st]),(1,.v [.I]),(2,.v [.I]),(8,.v [.b]),(9,.v [.st]),(10,.v [.U])]
noncomputable abbrev t12:=ao S2
abbrev P4:Ps:=[(0,.v [.st]),(1,.v [.I]),(2,.v [.I]),(8,.v [.b]),(9,.v [.st])]
noncomputable abbrev S1:=ak t12 [6] P4
noncomputable abbrev t13:=ao S1
noncomputable abbrev WH:=ak t13 [0,1,3,1,5] P2
noncomputable abbrev t14:=ao WH
noncomputable abbrev S0:=ak t14 [5] P4
noncomputable abbrev t15:=ao S0
abbrev P5:Ps:=[(0,.v [.st]),(2,.v [.I]),(8,.v [.b]),(9,.v [.st])]
noncomputable abbrev WL:=ak t15 [6,2,2,1,3,2,4] P5
noncomputable abbrev t16:=ao WL
noncomputable abbrev WK:=ak t16 [4,2,2,1,3,2,4] P5
noncomputable abbrev t17:=ao WK
noncomputable abbrev WJ:=ak t17 [2,2,2,1,3,2,4] P5
noncomputable abbrev t18:=ao WJ
noncomputable abbrev WI:=ak t18 [2,2,4] P4
noncomputable abbrev t19:=ao WI
def ok:=az t19 O5 [.st,.I,.I]
end oh
namespace Ah
noncomputable abbrev S7:=ak (ay V Tryz.f154 [] []) [13] [(11,.v [.I])]
noncomputable abbrev t1:=ao S7
noncomputable abbrev S6:=ak t1 [11] [(8,.v [.b]),(9,.v [.U])]
noncomputable abbrev t2:=ao S6
abbrev P0:Ps:=[(8,.v [.b]),(9,.v [.U]),(10,.v [.U])]
noncomputable abbrev S5:=ak t2 [10] P0
noncomputable abbrev t3:=ao S5
noncomputable abbrev S4:=ak t3 [9] P0
noncomputable abbrev t4:=ao S4
abbrev P1:Ps:=[(2,.v [.I]),(8,.v [.b]),(9,.v [.U])]
noncomputable abbrev S3:=ak t4 [8] P1
noncomputable abbrev t5:=ao S3
noncomputable abbrev S2:=ak t5 [7] P1
noncomputable abbrev t6:=ao S2
noncomputable abbrev S1:=ak t6 [4] [(0,.v [.st]),(1,.v [.I]),(2,.v [.I]),(8,.v [.b])]
noncomputable abbrev t7:=ao S1
noncomputable abbrev S8:=ak t7 [1,1,3,1,1,1,3] [(0,.v [.st]),(1,.v [.I]),(2,.v [.I])]
noncomputable abbrev t8:=ao S8
noncomputable abbrev S0:=ak t8 [1,1,3] [(0,.v [.st]),(1,.v [.I]),(2,.v [.I]),(8,.v [.b]),(16,.v [.Y])]
noncomputable abbrev t9:=ao S0
def ok:=az t9 O4 [.st,.I,.I]
end Ah
namespace pc
abbrev P0:Ps:=[(5,.v [.st]),(6,.v [.I]),(47,.v [.s]),(48,.v [.I]),(49,.v [.I])]
noncomputable def L3:=bg (ay V Tryz.f124 [] []) [0,1,1,1,3,1,1,1,2] P0
noncomputable abbrev t1:=bf L3
noncomputable abbrev S5:=ak t1 [3,2,1,1,3,1,1,1,2] P0
noncomputable abbrev t2:=ao S5
noncomputable abbrev S4:=ak t2 [2,2,2,2,1,1,3,1,1,1,2] [(5,.v [.st]),(6,.v [.I]),(8,.v [.Y]),(47,.v [.s]),(48,.v [.I]),(49,.v [.I])]
noncomputable abbrev t3:=ao S4
noncomputable abbrev S6:=ak t3 [5,1,1,1,2] [(6,.v [.I])]
noncomputable abbrev t4:=ao S6
def wv:=bj t4 L3
abbrev P1:Ps:=[(0,.v [.st]),(5,.v [.st])]
noncomputable abbrev S2:=ak t4 [2,1,1,1,2] P1
noncomputable abbrev t5:=ao S2
noncomputable abbrev S1:=ak t5 [1,1,1,1,1,1,1,1,2] P1
noncomputable abbrev t6:=ao S1
noncomputable abbrev S0:=ak t6 [0,1,1,1,1,1,1,1,2] P1
noncomputable abbrev t7:=ao S0
noncomputable abbrev S7:=ak t7 [3] [(0,.v [.st])]
noncomputable abbrev t8:=ao S7
def ok:=az t8 O1 [.st]
end pc
namespace MB
def ok:=az (ay V Tryz.f186 [] []) Pa [.st]
end MB
namespace UZ
def ok:=az (ay V Tryz.f155 [(1,ls [0,1,3,2,4,5,6])] []) Qi [.st,.st]
end UZ
namespace UY
def ok:=az (ay V Tryz.f156 [(1,ls [0,1,3,2,4,5,6])] []) Qh [.st,.st]
end UY
namespace U0
def ok:=az (ay V Tryz.f125 [] []) Qj [.st,.st,.I,.I,.v]
end U0
namespace UW
def ok:=az (ay V Tryz.f100 [] []) Qf [.st]
end UW
end Go.Proofs.YtnaglpcbkhjpnaaGreatDoor
