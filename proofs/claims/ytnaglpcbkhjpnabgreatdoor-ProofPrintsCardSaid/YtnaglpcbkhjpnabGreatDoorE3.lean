import Derived.Test.YtnaglpcbkhjpnabGreatDoorR14
import Derived.Test.YtnaglpcbkhjpnabGreatDoorU
import Derived.Test.YtnaglpcbkhjpnabGreatDoorG9
import Derived.Laws.CopyRow
import Derived.Test.YtnaglpcbkhjpnabGreatDoorWN
import Derived.Lib.Bytealg
import Derived.Laws.StandIn
set_option linter.unusedVariables false
set_option maxRecDepth 100000
set_option maxHeartbeats 1000000
set_option linter.defProp false
noncomputable section
namespace Go.Proofs.YtnaglpcbkhjpnabGreatDoor
open Go renaming World->J,Calls->ai,Value->aa,TypeId->aE,Ending->bW
open Go.IntKind renaming wrap->aj
open _root_.Int renaming toNat->a0,tdiv->bQ,tmod->cw,toNat_natCast->bB
open _root_.ByteArray renaming mk->bn
open Go.IntWalk renaming i64_in->aQ
open _root_.Bool renaming and_eq_true->bH,not_eq_true->jI
open _root_.Nat renaming le_refl->br,le_trans->bb,zero_le->dW,beq->cm
open _root_.Prod.mk renaming injEq->eZ
open _root_.Option.some renaming injEq->fy
open Go.Proofs.Tryz renaming prog->V
open _root_.Decidable renaming decide->av
open Go.Ending renaming returned->ae
open List renaming mem_append->aX,mem_cons->aq,not_mem_nil->aL,mem_of_getElem?->aD,getElem?_eq_getElem->a',getElem?_eq_some_iff->cX,mem_flatMap->cc,mem_map->bS,length_append->a7,length_cons->bR,length_nil->dK,mem_of_mem_take->ky,getElem?_append_right->pO,append_assoc->ck,length_take->f',flatMap_append->cW,flatMap_cons->cH,mem_cons_of_mem->e6,length_map->gv,drop_eq_getElem_cons->dz,all_eq_true->ff,append_nil->dy,nil_append->lY,cons_append->je,take_add_one->dV,map_append->fK,map_cons->jf,take_length->Hf,drop_of_length_le->c9,eq_nil_of_length_eq_zero->vC
open Go Go.W
def zu(t:ByteArray):Prop:=∀d,ai V GB #[.string t] d λr h=>r=ae (.bool (pd t))/\af d h
def agx{w:J}{p:Addr}{d:Nd}{x y z:bC}(h:eF w p d)(ac:27<=d.x.op)(ad:d.x.op<=34)(hx:qg x)(hy:qg y)(hz:qg z)(W:d.x.op=33->zu d.x.tx):
  ai V Rk #[.pointer (some p),ei x,ei y,ei z] w λr w'=>jJ (iu d.x x y z) (i3 d.x x y z) r/\af w w':=by
 refine Wk.aC ((AF h).aH λb5 w1 H1=>H1.aH λb6 w2 H2=>H2.aH λb7 w3 H3=>H3.aH λb8 w4 I=>?_);obtain⟨⟨op,kids,n,m,u,H,st⟩,T⟩:=d;have N:∀{B:J} {L:List En},LH F0 w B L [.jU p ⟨⟨op,kids,n,m,u,H,st⟩,T⟩]->eF B p ⟨⟨op,kids,n,m,u,H,st⟩,T⟩:=λZ=>Z.getD 0;simp only at ac ad W;refine⟨op,(N I).c0,?_⟩;obtain⟨al,am⟩:=hx;obtain⟨an,ao⟩:=hy;obtain⟨ap,aq⟩:=hz;have ak:op=27\/op=28\/op=29\/op=30\/op=31\/op=32\/op=33\/op=34:=co
 rcases ak with rfl|rfl|rfl|rfl|rfl|rfl|rfl|rfl;all_goals repeat (first |refine aN rfl ?_|refine aM rfl ?_)
 .refine I.ah λB C=>C.aA (j1 7 B) ?_;rintro _ D rfl q;refine⟨_,_,_,rfl,q.aA (j2 x D) ?_⟩;rintro _ G rfl j;exact⟨_,rfl,eE j (bP 7) _ true ws rfl (λ_=>rfl) (λ_ _=>rfl)⟩
 .have Y:lf ⟨28,kids,n,m,u,H,st⟩ x y z=(av (0<=n)&&av (n<=63)):=rfl;refine I.ah λB C=>⟨_,(N C).c2,C.aA (j1 8 B) ?_⟩;rintro _ D rfl q;refine⟨_,_,_,rfl,(N q).c2,q.aA (j2 x D) ?_⟩;rintro _ G rfl j;refine⟨_,rfl,(N j).c2,aF (λQ=>⟨_,(N j).c2,eE j (bP 8) _ _ ws rfl (λ_=>?_) (λ_ _=>rfl)⟩) (λQ=>eE j (bP 8) _ _ ws rfl (λ_=>?_) (λ_ h=>by cases h))⟩
  .rw [Y,aR (show 0<=n from Q),Bool.true_and];exact decide_eq_decide.2 (by show n<64↔n<=63;omega)
  .rw [Y,aW (show ¬0<=n from Q)];rfl
 .have P:aj .i64 (x.n+y.n)=x.n+y.n:=aQ _ co;have E:dI 29 x y z=(x.k==1&&y.k==1):=rfl;refine I.ah λB C=>?_;rw[P];refine C.aA (v8 _ B) ?_;rintro _ D rfl q;refine⟨_,_,_,rfl,q.aA (j2 x D) ?_⟩;rintro _ G rfl j;refine⟨_,rfl,aP (λA=>j.aA (j2 y G) ?_) (λA=>?_)⟩
  .rintro _ K rfl F;refine⟨_,rfl,eE F (fv (x.n+y.n)) _ _ ws ?_ (λ_=>rfl) (λ_ _=>rfl)⟩;show _=dI 29 x y z;rw[E,A];rfl
  .refine eE j (fv (x.n+y.n)) _ _ ws ?_ (λh=>by cases h) (λh _=>by cases h);show _=dI 29 x y z;rw[E,beq_eq_false_iff_ne.2 A];rfl
 .have E:dI 30 x y z=(x.k==1&&av (y=bP 7)&&av (z=bP 7)):=rfl;refine I.ah λB C=>C.aA (j2 x B) ?_;rintro _ D rfl q;refine⟨_,rfl,aP (λA=>q.aA (j1 7 D) ?_) (λA=>eE q x _ true ws ?_ (λ_=>rfl) (λ_ _=>rfl))⟩
  .rintro _ G rfl j;refine⟨_,_,_,rfl,oS (a:=y) (b:=bP 7) (λM=>j.aA (j1 7 G) ?_) (λM=>eE j x _ true ws ?_ (λ_=>rfl) (λ_ _=>rfl))⟩
   .rintro _ K rfl F;refine⟨_,_,_,rfl,eE F x _ true ws ?_ (λ_=>rfl) (λ_ _=>rfl)⟩;show _=dI 30 x y z;rw[E,A,aR M];exact lh z (bP 7)
   .show _=dI 30 x y z;rw[E,aW M,Bool.and_false];rfl
  .show _=dI 30 x y z;rw[E,beq_eq_false_iff_ne.2 A];rfl
 .have E:dI 31 x y z=(x.k==1&&y.k==1):=rfl;refine I.ah λB C=>C.aA (j1 7 B) ?_;rintro _ D rfl q;refine⟨_,_,_,rfl,q.aA (j2 x D) ?_⟩;rintro _ G rfl j;refine⟨_,rfl,aP (λA=>j.aA (j2 y G) ?_) (λA=>?_)⟩
  .rintro _ K rfl F;refine⟨_,rfl,eE F (bP 7) _ true ws ?_ (λ_=>rfl) (λ_ _=>rfl)⟩;show _=dI 31 x y z;rw[E,A];rfl
  .refine eE j (bP 7) _ true ws ?_ (λ_=>rfl) (λ_ _=>rfl);show _=dI 31 x y z;rw[E,beq_eq_false_iff_ne.2 A];rfl
 .have P:aj .i64 (x.n+z.n)=x.n+z.n:=aQ _ co;have E:dI 32 x y z=(x.k==1&&y.k==1&&z.k==1):=rfl;refine I.ah λB C=>?_;rw[P];refine C.aA (v8 _ B) ?_;rintro _ D rfl q;refine⟨_,_,_,rfl,q.aA (j2 x D) ?_⟩;rintro _ G rfl j;have no:∀{K:J} {L:List En} {U aa:List Nat},LH F0 w K L [.jU p ⟨⟨32,kids,n,m,u,H,st⟩,T⟩]->(∀b∈U,En.g b∈L)->dI 32 x y z=false->ep aa V A1 #[ei (fv (x.n+z.n)),.bool false,.bool (av (x.n+z.n<=64))] K λr B=>∃a b c e:Int,r=ae (.tuple #[.agg #[.i a,.i b,.i c],.i e])/\loc U B λD=>jJ (iu ⟨32,kids,n,m,u,H,st⟩ x y z) (i3 ⟨32,kids,n,m,u,H,st⟩ x y z) (ae (.tuple #[.agg #[.i a,.i b,.i c],.i e]))/\af w D:=λF hb hf=>eE F _ _ _ ws hf.symm (λh=>by cases h) (λh _=>by cases h) hb;refine⟨_,rfl,aP (λA=>j.aA (j2 y G) ?_) (λA=>no j ws ?_)⟩
  .rintro _ K rfl F;refine⟨_,rfl,aP (λS=>F.aA (j2 z K) ?_) (λS=>no F ws ?_)⟩
   .rintro _ w9 rfl H9;refine⟨_,rfl,eE H9 (fv (x.n+z.n)) _ _ ws ?_ (λ_=>rfl) (λ_ _=>rfl)⟩;show _=dI 32 x y z;rw[E,A,S];rfl
   .rw [E,beq_eq_false_iff_ne.2 S,Bool.and_false];rfl
  .rw [E,beq_eq_false_iff_ne.2 A];rfl
 .have E:dI 33 x y z=(x.k==1):=rfl;have ab:lf ⟨33,kids,n,m,u,H,st⟩ x y z=true:=rfl;refine I.aA (j2 x w4) ?_;rintro _ B rfl C;refine⟨_,rfl,eb (λA=>C.ah λD q=>⟨⟨x,9,rfl,?_,λh=>?_⟩,q.fr⟩) (λA=>⟨H,(N C).c5,C.aA (W rfl B) ?_⟩)⟩
  .unfold i3;rw[show dI (33:Int) x y z=false from A];rfl
  .unfold i3 at h;rw[show dI (33:Int) x y z=false from A]at h;cases h
  .rintro _ D rfl q;have M:i3 ⟨33,kids,n,m,u,H,st⟩ x y z=if pd H=false then 2 else 0:=by unfold i3;rw[show dI (33:Int) x y z=true from A,ab];simp
   refine⟨_,rfl,eb (λO=>q.ah λG j=>⟨⟨x,2,rfl,?_,λh=>?_⟩,j.fr⟩) (λO=>q.aA (j1 1 D) ?_)⟩
   .rw [M,au O]
   .rw [M,au O]at h;cases h
   .rintro _ G rfl j;exact⟨_,_,_,rfl,j.ah λK F=>⟨⟨bP 1,0,rfl,by rw[M,ag (by rw[O];simp)],λ_=>rfl⟩,F.fr⟩⟩
 .refine I.ah λB C=>C.aA (v8 1 B) ?_;rintro _ D rfl q;refine⟨_,_,_,rfl,q.aA (j1 8 D) ?_⟩;rintro _ G rfl j;exact⟨_,_,_,rfl,eE j (fv 1) _ true ws (lh x (bP 8)) (λ_=>rfl) (λ_ _=>rfl)⟩
def aaC(u n:Int)(j:0<=u)(w:0<=n)(x:n<64):((Int.fdiv u (2^(min (a0 n) (IntKind.bits .u64)))) !=0)=av (2^n.toNat<=u):=by
 have e:min (a0 n) (IntKind.bits .u64)=n.toNat:=by show min n.toNat 64=_;omega
 rw[e];have d:(0:Int)<2^n.toNat:=Int.pow_pos md;generalize(2:Int)^n.toNat=q at d;have k:=Int.fdiv_eq_ediv_of_nonneg u (by omega:0<=q);rw[k];by_cases h:q<=u
 .rw [aR h];have:1<=u / q:=by rw[Int.le_ediv_iff_mul_le d];omega
  simp only[bne_iff_ne,ne_eq];omega
 .rw [aW h];rw[Int.ediv_eq_zero_of_lt j co];rfl
def agu{w:J}{p:Addr}{d:Nd}(g:List Nx)(h:eF w p d)(Q:1<=d.x.op)(Z:d.x.op<=3)(hu:0<=d.x.u):
  ai V Rj #[.pointer (some p)] w λr U=>jJ (cQ g d.x).1 (cQ g d.x).2 r/\af w U:=by
 refine Il.aC ((AF h).aH λF W z=>?_);have j:∀{A:J} {L:List En},LH F0 w A L [.jU p d]->eF A p d:=λaa=>aa.getD 0;have er:∀(t:bC) (e:Int) (A:J),e≠0->(cQ g d.x)=(du,e)->LH F0 w A [.g F] [.jU p d]->loc [F] A λI=>jJ (cQ g d.x).1 (cQ g d.x).2 (ae (.tuple #[.agg #[.i t.k,.i t.n,.i t.x],.i e]))/\af w I:=λt e A h0 C O=>O.ah λI P=>⟨⟨t,e,rfl,by rw[C],λh=>by rw[C]at h;exact absurd h h0⟩,P.fr⟩;have ok:∀(t:bC) (A:J),(cQ g d.x)=(t,0)->LH F0 w A [.g F] [.jU p d]->loc [F] A λI=>jJ (cQ g d.x).1 (cQ g d.x).2 (ae (.tuple #[.agg #[.i t.k,.i t.n,.i t.x],.i 0]))/\af w I:=λt A C O=>O.ah λI P=>⟨⟨t,0,rfl,by rw[C],λ_=>by rw[C]⟩,P.fr⟩;refine⟨_,(j z).c0,aP (λK=>?_) (λK=>?_)⟩
 .refine ⟨_,(j z).c5,aF (λhs=>⟨_,_,_,(j z).s0,(j z).s1,(j z).s2,er d.x.st 5 W md ?_ z⟩) (λhs=>⟨_,(j z).c5,z.aA (v8 _ W) ?_⟩)⟩
  .unfold cQ;rw[au K,au co]
  .rintro _ H rfl y;refine⟨_,_,_,rfl,ok (fv d.x.tx.size) H ?_ y⟩;unfold cQ;rw[au K,ag co]
 have B:cQ g d.x=if cv d.x.st=false then(du,9)else
   if d.x.op=1/\d.x.st.k≠0\/d.x.op=3/\eG d.x.st=false then(du,9)else
   if d.x.op=1/\gk d.x.u d.x.st.n=true then(du,5)else(d.x.st,0):=by
  unfold cQ;rw[ag K,ag (λh=>co)];have:¬(d.x.op=0/\tq g d.x=true):=λh=>co
  simp only[this,if_false]
 refine⟨_,_,_,(j z).s0,(j z).s1,(j z).s2,z.aA (V2 d.x.st W) ?_⟩;rintro _ H rfl y;refine⟨_,rfl,HQ (λG=>⟨_,_,_,(j y).s0,(j y).s1,(j y).s2,?_⟩) (λG=>?_)⟩
 .have:hN d.x.st=9:=by unfold hN;rw[G];rfl
  rw[this];exact er d.x.st 9 H md (by rw[B,au G]) y
 rw[ag (by rw[G];simp)]at B;refine⟨_,(j y).c0,aP (λZ=>⟨_,_,_,(j y).s0,(j y).s1,(j y).s2,y.aA (Ii d.x.st H) ?_⟩) (λab=>?_)⟩
 .rintro _ E rfl q;refine⟨_,rfl,eb (λS=>⟨_,_,_,(j q).s0,(j q).s1,(j q).s2,er d.x.st 9 E md ?_ q⟩) (λS=>⟨_,_,_,(j q).s0,(j q).s1,(j q).s2,ok d.x.st E ?_ q⟩)⟩
  .rw [B,au (.inr ⟨Z,S⟩)]
  .rw [B,ag (by rintro(h|h);omega;rw[S]at h;cases h.2),ag (by rintro⟨h,_⟩;omega)]
 have Q:d.x.op=1:=co
 refine⟨_,(j y).s0,dA (λN=>⟨_,_,_,(j y).s0,(j y).s1,(j y).s2,er d.x.st 9 H md ?_ y⟩) (λN=>y.ah λE q=>?_)⟩
 .rw [B,au (.inl ⟨Q,N⟩)]
 rw[ag (by rintro(h|h);exact h.2 N;omega)]at B;obtain⟨v1,v2,_⟩:=wi G N;have Y:cQ g d.x=(d.x.st,0)->Il.bt p F 0 0 0 E λr U=>jJ (cQ g d.x).1 (cQ g d.x).2 r/\af w U:=λC=>⟨_,_,_,(j q).s0,(j q).s1,(j q).s2,ok d.x.st E C q⟩;refine⟨_,(j q).s1,aF (λM=>⟨_,(j q).c4,_,(j q).s1,co,?_⟩) (λM=>Y ?_)⟩
 .rw [aaC _ _ hu co M];refine aF (λT=>⟨_,_,_,(j q).s0,(j q).s1,(j q).s2,er d.x.st 5 E md ?_ q⟩) (λT=>Y ?_)
  .rw [B,au ⟨Q,by unfold gk;rw[aR M,aR T];rfl⟩]
  .rw [B,ag];rintro⟨_,D⟩;unfold gk at D;rw[aW T,Bool.and_false]at D;cases D
 .rw [B,ag];rintro⟨_,D⟩;unfold gk at D;rw[aW M]at D;cases D
def va(g:List Nx)(t:ByteArray):bW:=match kG g t with
 |some s=>ae (.tuple #[ei s,.bool true])
 |none=>ae (.tuple #[ei du,.bool false])
def agy{w:J}{p:Addr}{d:Nd}{D:List En}(g:List Nx)(G:Fv)(H:LH F0 w w [] (.jU p d::D))(hc:hS V G.n=true)(hl:∀C:J,(∀e∈D,e.P C)->ai V G.n (G.U++#[.string d.x.tx]++G.cs) C λr aj=>r=va g d.x.tx/\af C aj)(h0:d.x.op=0):
  ai V Rl #[.pointer (some p),G.v] w λr C=>jJ (cQ g d.x).1 (cQ g d.x).2 r/\af w C:=by
 have h:∀{q:J} {L:List En},LH F0 w q L (.jU p d::D)->eF q p d:=λH=>H.getD 0;have z:cQ g d.x=if e4 (bl d.x.tx)=false then(du,6)else if cv d.x.st=false then(du,9)else if tq g d.x=true then(du,8)else(d.x.st,0):=by unfold cQ;rw[ag co];simp[h0]
 have fin:∀(e:Int) (q:J) (L:List En) (i:Nat) (b:Nat) (E c1 c2:aa),LH F0 w q L (.jU p d::D)->L[i]? =some (.c b [E,c1,c2] cF)->cQ g d.x=(if e=0 then d.x.st else du,e)->Vr q (ab b) (.i d.x.st.k) (.i d.x.st.n) (.i d.x.st.x) λW=>Nm W (ab b) λa0 a1 a2=>jJ (cQ g d.x).1 (cQ g d.x).2 (ae (.tuple #[.agg #[.i a0,.i a1,.i a2],.i e]))/\af w W:=by
  intro e q L i b E c1 c2 y M K;refine y.H4 i M λW I=>?_;have S:(L.set i (.c b [Value.i d.x.st.k,.i d.x.st.n,.i d.x.st.x] cF))[i]? =some (.c b [Value.i d.x.st.k,.i d.x.st.n,.i d.x.st.x] cF):=by rw[List.getElem?_set_self (cX.1 M).1]
  refine⟨_,_,_,I.ld i 0 S,I.ld i 1 S,I.ld i 2 S,⟨d.x.st,e,rfl,by rw[K],λac=>?_⟩,I.fr⟩;rw[K]at ac ⊢;rw[au ac]
 refine Im.ok (H.nw λw1 _ Y=>⟨_,(h Y).c5,Y.call (ags d.x.tx w1) ?_⟩);rintro _ w2 rfl A;refine⟨_,rfl,eb (λT=>⟨_,_,_,(h A).s0,(h A).s1,(h A).s2,fin 6 w2 _ 0 _ _ _ _ A rfl (by rw[z,au T];rfl)⟩) (λT=>⟨_,_,_,(h A).s0,(h A).s1,(h A).s2,A.call (V2 d.x.st w2) ?_⟩)⟩;rw[ag (by rw[T];simp)]at z;rintro _ w3 rfl B;refine⟨_,rfl,HQ (λN=>⟨_,_,_,(h B).s0,(h B).s1,(h B).s2,?_⟩) (λN=>⟨_,(h B).c5,?_⟩)⟩
 .have:hN d.x.st=9:=by unfold hN;rw[N];rfl
  rw[this];exact fin 9 w3 _ 0 _ _ _ _ B rfl (by rw[z,au N];rfl)
 rw[ag (by rw[N];simp)]at z;rw[hc];refine(show cS true _ from ?_);refine B.call (hl w3 (λe K=>B.rd e (e6 _ K))) ?_;rintro _ w4 rfl Z;have F:∀(q:J) (L:List En) (E c1 c2:aa),LH F0 w q L (.jU p d::D)->L[0]? =some (.c w.heap.size [E,c1,c2] cF)->tq g d.x=false->Im.S0 p (ab w.heap.size) q λr C=>jJ (cQ g d.x).1 (cQ g d.x).2 r/\af w C:=λq L E c1 c2 y M ht=>⟨_,_,_,(h y).s0,(h y).s1,(h y).s2,fin 0 q L 0 _ E c1 c2 y M (by rw[z,ag (by rw[ht];simp)];rfl)⟩;unfold tq at z F;unfold va;cases hs:kG g d.x.tx with
 |none=>
  rw[hs]at z F;refine⟨du.k,du.n,du.x,false,rfl,Z.nw λq _ y=>y.H4 1 rfl λw8 Q=>Q.dr λO j=>aN rfl ?_⟩;exact F O _ _ _ _ j rfl rfl
 |some t=>
  rw[hs]at z F;refine⟨t.k,t.n,t.x,true,rfl,Z.nw λq _ y=>y.H4 1 rfl λw8 Q=>Q.dr λO j=>aM rfl ⟨_,_,_,j.ld 1 0,j.ld 1 1,j.ld 1 2,_,_,_,(h j).s0,(h j).s1,(h j).s2,BK (a:=t) (b:=d.x.st) (λah=>⟨_,_,_,(h j).s0,(h j).s1,(h j).s2,fin 8 O _ 0 _ _ _ _ j rfl ?_⟩) (λad=>F O _ _ _ _ j rfl ?_)⟩⟩
  .rw [z,au (by simp[ah])];rfl
  .simp [ad]
def Ax:List Int:=[0,0,0,0,1,1,2,2,2,2,2,2,2,2,2,2,2,2,2,3,2,1,1,1,2,3,2,1,1,2,3,2,3,1,1]
abbrev cq:En:=.rd ⟨some (ab 2),35,35⟩ (Ax.map a5)
def abU{op:Int}(d:0<=op)(h:op<=34):Ax[op.toNat]? =some (dm op):=by rcases vl d h with rfl|rfl|rfl|rfl|rfl|rfl|rfl|rfl|rfl|rfl|rfl|rfl|rfl|rfl|rfl|rfl|rfl|rfl|rfl|rfl|rfl|rfl|rfl|rfl|rfl|rfl|rfl|rfl|rfl|rfl|rfl|rfl|rfl|rfl|rfl<;>rfl
section
variable {M:Nat->Prop} {w0 w:J} {L D:List En} {U:List Nat}
def _root_.Go.W.LH.ti(H:LH M w0 w L D)(i a c:Nat){b:Nat}{vs:List aa}{T:aE}{v:aa}{K:J->Prop}(hi:L[i]? =some (.c b vs T))(x:∀j,LH M w0 j (L.set i (.c b (vs.set (a+c) v) T)) D->K j)(y:a+c<vs.length:=by simp[g1])(bG:∀b∈U,En.g b∈L:=by simp):
  aS w (((ab b).add a).add c) v λk=>kept U w k/\K k:=by rw[add_add];obtain⟨z,A,C,B⟩:=vR (H.ob i hi) (a+c) co v;obtain⟨_,_,q⟩:=H.set (v:=v) i (a+c) hi y;refine⟨z,A,λd h=>?_,x _ q⟩;refine B.cB d (H.own _ (bG d h)) λe=>?_;have:=ou H hi (xa w b vs T) (bG d h);exact this (by rw[e];exact qx.2 rfl)
def _root_.Go.W.LH.H8(H:LH M w0 w L D)(i a:Nat){b:Nat}{vs:List aa}{T:aE}{v:aa}{K:J->Prop}(hi:L[i]? =some (.c b vs T))(j:∀d,LH M w0 d (L.set i (.c b (vs.set a v) T)) D->K d)(k:a<vs.length:=by simp[g1])(bG:∀b∈U,En.g b∈L:=by simp):
  aS w ((ab b).add a) v λh=>kept U w h/\K h:=by
 have:=H.ti (v:=v) (K:=K) i a 0 hi j k bG
 rwa[jq]at this
end
def afJ{g:List Nx}{n:Nx}(h:(dm n.op==(n.kids.length:Int)&&n.kids.all (fV g)&&jW n)=true)(d:¬n.op<=3):cK g n=if i3 n (cr g n 0) (cr g n 1) (cr g n 2)≠0 then(du,i3 n (cr g n 0) (cr g n 1) (cr g n 2))else(iu n (cr g n 0) (cr g n 1) (cr g n 2),0):=by
 unfold cK i3;rw[h,ag ws,ag d]
 grind
def acb{g:List Nx}{n:Nx}(h:(cQ g n).2≠0):cQ g n=(du,(cQ g n).2):=by
 unfold cQ at h ⊢
 grind
structure n4(d:Nx):Prop where
 kl:d.kids.length<=1000000000
 n:aY d.n
 m:aY d.m
 u:0<=d.u
 tx:d.op=33->zu d.tx
abbrev xm(a b c:bC):List aa:=g1 a++g1 b++g1 c
def nQ(g:List Nx)(n:Nx)(i j:Nat):bC:=if j<i then cr g n j else du
def ab6{g:List Nx}{n:Nx}{j:Nat}(h:n.kids.length<=j):cr g n j=du:=by
 unfold cr
 grind
def ab5{l:List Nd}{n:Nx}{i:Nat}{k:Int}{e:Nd}(h:n.kids[i]? =some k)(d:l[k.toNat]? =some e):cr (xs l) n i=e.x.st:=by
 unfold cr
 grind
def ab4{g:List Nx}{n:Nx}(k:∀d∈g,cv d.st=true)(j:Nat):qg (cr g n j):=by
 unfold cr;split
 .split
  .rename_i h;exact ag0 (k _ (aD h))
  .exact RN
 .exact RN
def agw{w:J}{s:Sl}{l:List Nd}{d:Nd}{D:List En}(S:Fv)(H:LH F0 w w [] (.gr s l::dt d::cq::D))(hc:hS V S.n=true)(hl:∀A:J,(∀e∈D,e.P A)->ai V S.n (S.U++#[.string d.x.tx]++S.cs) A λr aO=>r=va (xs l) d.x.tx/\af A aO)(ho:n4 d.x)(aV:l.length<=1000000000)(hv:∀e∈xs l,cv e.st=true):
  ai V Rg #[s.v,d.v,S.v] w λr A=>r=g0 (cK (xs l) d.x)/\af w A:=by
 have hn:=i4 (ch.1 (H.getD 0));have az:(xs l).length=l.length:=by simp[xs]
 have aU:d.ks.n=d.x.kids.length:=bx.len (H.getD 1);have aT:=ho.kl;refine rp.aC (H.nw λw1 _ H1=>H1.aH λN w2 H2=>H2.ah λO I=>?_);have y:∀{G:J} {L:List En},LH F0 w G (.c w.heap.size d.c cP::L) (.gr s l::dt d::cq::D)->eF G (ab w.heap.size) d:=λH=>A2 (H.ob 0);have I:LH F0 w O [.c w.heap.size d.c cP,.g N] (.gr s l::dt d::cq::D):=I;have fail:(dm d.x.op==(d.x.kids.length:Int)&&d.x.kids.all (fV (xs l))&&jW d.x)=false->∀{G:J} {L:List En} {U:List Nat},LH F0 w G L (.gr s l::dt d::cq::D)->(∀b∈U,En.g b∈L)->loc U G λM=>(λr A=>r=g0 (cK (xs l) d.x)/\af w A) (ae (.tuple #[.agg #[.i 0,.i 0,.i 0],.i 1])) M:=λhf _ _ _ B hb=>B.ah (λM C=>⟨by unfold cK;rw[au hf];rfl,C.fr⟩) hb;have kN:∀op:Int,op<0\/34<op->dm op=-1:=λop aD=>by unfold dm;rw[au aD]
 refine⟨_,(y I).c0,aF (λh0=>fail ?_ I ws) (λh0=>⟨_,(y I).c0,aF (λaE=>fail ?_ I ws) (λaE=>⟨_,(y I).c1,_,(y I).c0,co,by show d.x.op<35;omega,dm d.x.op,?_,dA (λak=>fail ?_ I ws) (λan=>?_)⟩)⟩)⟩
 .rw [kN _ (.inl h0),beq_eq_false_iff_ne.2 co];rfl
 .rw [kN _ (.inr co),beq_eq_false_iff_ne.2 co];rfl
 .have hk:bx O ⟨some (ab 2),35,35⟩ Ax:=I.getD 2;exact(show W.eh (some (ab 2)) λp=>O.cell? (p.add (a0 d.x.op *1))=some (.int .i64 (dm d.x.op))from hk.cell (abU co co) rfl λp _ hc=>hc)
 .rw [beq_eq_false_iff_ne.2 co];rfl
 have aK:(dm d.x.op==(d.x.kids.length:Int))=true:=by rw[beq_iff_eq];omega
 have aS:d.x.kids.length<=3:=by
  have:dm d.x.op<=3:=by unfold dm;repeat' split<;>omega
  omega
 refine I.nw λw4 _ H4=>⟨_,(y H4).c1,?_⟩;have loop:∀(m i:Nat) (G:J),i+m=d.x.kids.length->d.x.kids.all (fV (xs l))=(d.x.kids.drop i).all (fV (xs l))->LH F0 w G [.c w.heap.size d.c cP,.g N,.c O.heap.size (xm (nQ (xs l) d.x i 0) (nQ (xs l) d.x i 1) (nQ (xs l) d.x i 2)) B9] (.gr s l::dt d::cq::D)->
   rp.cy s S (ab w.heap.size) N 0 0 0 (ab O.heap.size) (d.ks.n:Int) (i:Int) G λr A=>r=g0 (cK (xs l) d.x)/\af w A:=by
  intro m;induction m with
  |zero=>
   intro i G hi Y B;rw[c9 co]at Y;have e0:∀F,nQ (xs l) d.x i F=cr (xs l) d.x F:=λF=>by
    unfold nQ;split
    .rfl
    .exact (ab6 co).symm
   rw[e0,e0,e0]at B;refine rp.dH (aN (aW co) (B.aA (agr (y B)) ?_));rintro _ M rfl C;refine⟨_,rfl,eb (λhf=>fail (by rw[hf,Bool.and_false]) C ws) (λhf=>C.aH λad Z h=>?_)⟩;have ar:(dm d.x.op==(d.x.kids.length:Int)&&d.x.kids.all (fV (xs l))&&jW d.x)=true:=by rw[aK,Y,hf];rfl
   have h:LH F0 w Z [.c w.heap.size d.c cP,.g N,.c O.heap.size (xm (cr (xs l) d.x 0) (cr (xs l) d.x 1) (cr (xs l) d.x 2)) B9,.g ad] (.gr s l::dt d::cq::D):=h;have fin:∀(T:bC) (E:Int) (t:bC) (e:Int) (j:J),cK (xs l) d.x=(if E≠0 then(du,E)else(T,0))->e=E->(E=0->t=T)->LH F0 w j [.c w.heap.size d.c cP,.g N,.c O.heap.size (xm (cr (xs l) d.x 0) (cr (xs l) d.x 1) (cr (xs l) d.x 2)) B9,.g ad] (.gr s l::dt d::cq::D)->
     loc [N,ad] j λw9=>rp.dc N 0 0 0 ad t.k t.n t.x e w9 λr A=>r=g0 (cK (xs l) d.x)/\af w A:=by intro T E t e j hs z K q;subst z;refine q.ah λw9 H9=>dA (λak=>H9.ah λaQ am=>⟨by rw[hs,au ak];rfl,am.fr⟩) (λh0=>H9.ah λaQ am=>⟨?_,am.fr⟩);rw[hs,ag co,K h0]
   have aB:d.x.op<=3->cK (xs l) d.x=(if(cQ (xs l) d.x).2≠0 then(du,(cQ (xs l) d.x).2)else((cQ (xs l) d.x).1,0)):=λh3=>by
    unfold cK;rw[ar,ag ws,au h3];split
    .rename_i ak;exact acb ak
    .rename_i an;rw[Decidable.not_not]at an;rw[<-an]
   have ac:=λF=>ab4 (n:=d.x) hv F;refine⟨_,(y h).c0,aP (λaw=>?_) (λaw=>⟨_,(y h).c0,aF (λap=>?_) (λap=>⟨_,(y h).c0,aF (λax=>?_) (λax=>⟨_,(y h).c0,aF (λay=>?_) (λay=>?_)⟩)⟩)⟩)⟩
   .have Hv:LH F0 Z Z [] (.jU (ab w.heap.size) d::D):=bK _ (by
     intro e z;rcases aq.1 z with rfl|z
     .exact y h
     .exact h.rd e (e6 _ (e6 _ (e6 _ z))))
    refine h.aA (agy (xs l) S Hv hc hl aw) ?_;rintro _ j ⟨t,e,rfl,z,K⟩ q;exact⟨_,_,_,_,rfl,fin _ _ t e j (aB co) z K q⟩
   .refine h.aA (agu (xs l) (y h) co ap ho.u) ?_;rintro _ j ⟨t,e,rfl,z,K⟩ q;exact⟨_,_,_,_,rfl,fin _ _ t e j (aB ap) z K q⟩
   all_goals
    have rest:=afJ ar co;have Q:∀(a c:Nat) (v:aa),(xm (cr (xs l) d.x 0) (cr (xs l) d.x 1) (cr (xs l) d.x 2))[a+c]? =some v->Z.cell? (((ab O.heap.size).add a).add c)=some v:=λa c v hv=>by rw[add_add];exact h.ld 2 (a+c) rfl hv
    refine⟨co,md,(cr (xs l) d.x 0).k,(cr (xs l) d.x 0).n,(cr (xs l) d.x 0).x,Q 0 0 _ rfl,Q 0 1 _ rfl,Q 0 2 _ rfl,co,md,(cr (xs l) d.x 1).k,(cr (xs l) d.x 1).n,(cr (xs l) d.x 1).x,Q 3 0 _ rfl,Q 3 1 _ rfl,Q 3 2 _ rfl,co,md,(cr (xs l) d.x 2).k,(cr (xs l) d.x 2).n,(cr (xs l) d.x 2).x,Q 6 0 _ rfl,Q 6 1 _ rfl,Q 6 2 _ rfl,?_⟩
   .refine h.aA (agq (y h) co ax (ac 0) (ac 1) ho.n ho.m) ?_;rintro _ j ⟨t,e,rfl,z,K⟩ q;exact⟨_,_,_,_,rfl,fin _ _ t e j rest z K q⟩
   .refine h.aA (agp (y h) co ay) ?_;rintro _ j ⟨t,e,rfl,z,K⟩ q;exact⟨_,_,_,_,rfl,fin _ _ t e j rest z K q⟩
   .refine h.aA (agx (y h) co co (ac 0) (ac 1) (ac 2) ho.tx) ?_;rintro _ j ⟨t,e,rfl,z,K⟩ q;exact⟨_,_,_,_,rfl,fin _ _ t e j rest z K q⟩
  |succ m ih=>
   intro i G hi Y B;have hg:d.x.kids[i]? =some (d.x.kids[i]'co):=a' co;rw[dz (by omega:i<d.x.kids.length),List.all_cons]at Y;generalize d.x.kids[i]'co=x at hg Y;have bad:fV (xs l) x=false->rp.cd N 0 0 0 G λr A=>r=g0 (cK (xs l) d.x)/\af w A:=λhx=>fail (by rw[Y,hx];simp) B ws;refine rp.dH (aM (aR co) ⟨_,(y B).c1,co,co,(show bx G d.ks d.x.kids from B.getD 1).cell hg co λp hp aI=>⟨x,aI,aF (λh1=>bad ?_) (λh1=>aF (λh2=>bad ?_) (λh2=>?_))⟩⟩)
   .unfold fV;rw[aW co];rfl
   .unfold fV;rw[aW (show ¬x<((xs l).length:Int)by rw[az];omega)];simp
   have ao:l[x.toNat]? =some (l[x.toNat]'co):=a' co;generalize l[x.toNat]'co=e at ao;have aL:=ab5 hg ao;refine iM (ch.1 (B.getD 0)) (i:=x.toNat) co ao λaX hq c=>⟨_,_,_,c.s0,c.s1,c.s2,co,by show(i:Int)<3;omega,?_⟩;have aG:d.x.kids.all (fV (xs l))=(d.x.kids.drop (i+1)).all (fV (xs l)):=by rw[Y];unfold fV;rw[aR (show 0<=x by omega),aR (show x<((xs l).length:Int)by rw[az];omega)];rfl
   have al:∀M,LH F0 w M [.c w.heap.size d.c cP,.g N,.c O.heap.size (xm (nQ (xs l) d.x (i+1) 0) (nQ (xs l) d.x (i+1) 1) (nQ (xs l) d.x (i+1) 2)) B9] (.gr s l::dt d::cq::D)->rp.cy s S (ab w.heap.size) N 0 0 0 (ab O.heap.size) (d.ks.n:Int) (aj .i64 ((i:Int)+1)) M λr A=>r=g0 (cK (xs l) d.x)/\af w A:=λM C=>by rw[bc _ co];exact ih (i+1) M co aG C
   have aJ:i=0\/i=1\/i=2:=co
   have up:∀F,nQ (xs l) d.x (i+1) F=if F=i then e.x.st else nQ (xs l) d.x i F:=λF=>by
    unfold nQ;by_cases hj:F=i
    .rw [au hj,au co,hj,aL]
    .rw [ag hj];by_cases av:F<i
     .rw [au av,au co]
     .rw [ag av,ag co]
   rw[up 0,up 1,up 2]at al;rcases aJ with rfl|rfl|rfl
   .exact B.H8 2 0 rfl λM C=>C.ti 2 0 1 rfl λZ h=>h.ti 2 0 2 rfl λj q=>al j q
   .exact B.H8 2 3 rfl λM C=>C.ti 2 3 1 rfl λZ h=>h.ti 2 3 2 rfl λj q=>al j q
   .exact B.H8 2 6 rfl λM C=>C.ti 2 6 1 rfl λZ h=>h.ti 2 6 2 rfl λj q=>al j q
 exact loop d.x.kids.length 0 w4 co ws H4
def hO(O:List BL):Nat:=(O.map λt=>t.length+2).sum
def sX(d:Nat)(a:Rx)(t:BL):(dh d a t).length<=t.length+2/\t.length<=(dh d a t).length:=by
 unfold dh
 grind
def FD(k:Int):∀(O:List BL) (out:BL),(jQ k out O).length<=out.length+hO O/\out.length<=(jQ k out O).length
 |[],out=>by simp[jQ,hO]
 |t::O,out=>by
  unfold jQ;have d:=FD k O ((if k=3/\eW (k1 out)=true/\eW (gQ t 0)=true then out++[32]else out)++hr k++t);have j:(hr k).length<=1:=by unfold hr;grind
  have w:k=3->(hr k).length=0:=λh=>by unfold hr;grind
  have q:((if k=3/\eW (k1 out)=true/\eW (gQ t 0)=true then out++[32]else out):BL).length<=out.length+2 - (hr k).length/\out.length<=((if k=3/\eW (k1 out)=true/\eW (gQ t 0)=true then out++[32]else out):BL).length:=by grind
  simp only[a7]at d;have x:hO (t::O)=t.length+2+hO O:=by simp[hO]
  omega
mutual
def zi:∀y:Rx,(bo y).length+4<=18 *y.sz
 |.mk d lo k l=>by
  have w:∀c,(dZ c).length<=4:=λc=>by unfold dZ;grind
  have E:=tA 3 l;have F:=tA 4 l;have D:=tA 0 l;have I:(sJ d).length=4:=by unfold sJ;grind
  have j:∀h,(kn (dQ h l)).length<=hO (dQ h l):=λh=>by
   cases dQ h l with
   |nil=>simp[kn]
   |cons t q=>simp[kn,hO];omega
  have B:=j 3;have C:=j 4;have A:=j 0;have H:=w lo;have G:=w k;unfold Rx.sz;unfold bo;split
  .grind
  .split
   .simp;omega
   .split
    .grind
    .split
     .grind
     .split
      .grind
      .split
       .grind
       .have x:=tA (dd (.mk d lo k l)+1) l;cases z:dQ (dd (.mk d lo k l)+1) l with
        |nil=>show 0+4<=_;omega
        |cons t q=>
         rw[z]at x;have:=(FD d q t).1;simp only[hO,jf,List.sum_cons]at x;simp only[hO]at this;show(jQ d t q).length+4<=_;omega
def tA(d:Nat):∀l:List Rx,hO (dQ d l)<=18 *Rx.a9 l
 |[]=>by simp[dQ,hO]
 |a::l=>by have j:=zi a;have h:=tA d l;have k:=(sX d a (bo a)).1;unfold dQ Rx.a9;simp only[hO,jf,List.sum_cons]at h ⊢;omega
end
def A'{k:Int}{lo hi:UInt8}{l:List Rx}(h:ja (.mk k lo hi l)=true):0<=k/\k<=7/\(k=6\/k=7->l.length=1)/\oE l=true:=by
 unfold ja at h
 grind
def Ba:∀{l:List Rx} {a:Rx},oE l=true->a∈l->ja a=true
 |b::l,a,d,h=>by
  unfold oE at d;rw[bH]at d;rcases aq.1 h with rfl|h
  .grind
  .exact Ba d.2 h
def Cw:∀q:Rx,ja q=true->0<(bo q).length
 |.mk d lo k l=>λw=>by
  obtain⟨x,y,z,h⟩:=A' w;have A:∀c,0<(dZ c).length:=λc=>by unfold dZ;grind
  unfold bo;split
  .simp
  .split
   .simp
   .split
    .grind
    .split
     .simp
     .split
      .simp
      .split
       .grind
       .rename_i j
        match l,h,j with
        |[],_,j=>grind
        |a::m,h,j=>
         have:=Cw a (Ba h ws);unfold dQ;show 0<(jQ _ _ _).length;have B:=(FD d (dQ (dd (.mk d lo k (a::m))+1) m) (dh (dd (.mk d lo k (a::m))+1) a (bo a))).2;have C:=(sX (dd (.mk d lo k (a::m))+1) a (bo a)).2;omega
def D3(x:I)(w:J)(G:0<=x.k)(H:x.k<=7)(C:x.P w):ai V F9 #[x.v] w λr d=>r=ae (.i (dd x.rx:Int))/\af w d:=by
 have L:=I.cI C.parts.1;have K:(I.aw x.l).length=x.l.length:=by rw[I.gb,gv]
 have D:dd x.rx=if x.k=6 then 3 else if x.k<3\/x.k=7\/x.l.length<2 then 4 else if x.k=3 then 2 else if x.k=4 then 0 else 1:=by
  rw[I.fF];unfold dd
  grind
 rw[D];have four:∀d,af w d->x.k≠6->(x.k<3\/x.k=7\/x.l.length<2)->EG.bt d λr d=>r=ae (.i ((if x.k=6 then 3 else if x.k<3\/x.k=7\/x.l.length<2 then 4 else if x.k=3 then 2 else if x.k=4 then 0 else 1:Nat):Int))/\af w d:=λd f q F=>⟨by grind,f⟩;refine EG.aC ((hj C).aH λb z j=>aP (λq=>⟨by grind,j.fr⟩) (λq=>aF (λA=>four z j.fr q (.inl A)) (λA=>aP (λB=>four z j.fr q (.inr (.inl B))) (λB=>aF (λE=>four z j.fr q (.inr (.inr co))) (λE=>?_)))));refine j.nw λM _ h=>?_;have y:x.k=3\/x.k=4\/x.k=5:=co
 have e:(if x.k=6 then 3 else if x.k<3\/x.k=7\/x.l.length<2 then 4 else if x.k=3 then 2 else if x.k=4 then 0 else 1:Nat)=if x.k=3 then 2 else if x.k=4 then 0 else 1:=by grind
 rw[e];rcases y with y|y|y<;>rw[y]
 .exact ⟨md,md,k8 ⟨2,h.ld 1 0,rfl,h.fr⟩⟩
 .exact ⟨md,md,k8 ⟨0,h.ld 1 1,rfl,h.fr⟩⟩
 .exact ⟨md,md,k8 ⟨1,h.ld 1 2,rfl,h.fr⟩⟩
def Nj(t:BL)(h:0<t.length):gQ t (t.length - 1)=k1 t:=by
 unfold gQ k1
 grind
def agn(l:List I)(i:Nat):Rx.a9 (I.aw (l.drop i))<=I.a9 l:=by
 rw[I.yN];induction l generalizing i with
 |nil=>simp
 |cons a l d=>
  cases i with
  |zero=>grind
  |succ i=>have:=d i;show _<=a.sz+I.a9 l;grind
abbrev XO(n:Nat):Prop:=∀(x:I) (d:Nat) (w:J),x.sz<=n->d<=1000->ja x.rx=true->x.P w->ai V qS #[x.v,.i (d:Int)] w λr h=>r=ae (.string (ba (dh d x.rx (bo x.rx))))/\af w h
def JG:∀n:Nat,n<=1000000->XO n
 |0,_=>λx F w A _ _ _=>absurd A (by have:=I.m3 x;omega)
 |n+1,hn=>by
  have ih:=JG n co;have core:∀(x:I) (F:Nat) (w:J),x.sz<=n+1->¬dd x.rx<F->ja x.rx=true->x.P w->ai V qS #[x.v,.i (F:Int)] w λr w'=>r=ae (.string (ba (bo x.rx)))/\af w w':=by
   intro x F w A a3 Z px;have hs:=I.iR x;have hl:=I.gh x.l;have U:=I.cI px.parts.1;have aa:=Z;rw[I.fF]at aa;obtain⟨k0,k7,ay,a1⟩:=A' aa;have ax:(I.aw x.l).length=x.l.length:=by rw[I.gb,gv]
   rw[ax]at ay;have av:∀a∈x.l,ja a.rx=true:=λa j=>Ba a1 (by rw[I.gb];exact bS.2 ⟨a,j,rfl⟩);have aV:∀a:I,a.sz<=1000000->(bo a.rx).length<=18000000:=λa j=>by have:=zi a.rx;rw[I.eX]at this;omega
   have ao:∀(a:I) (F:Nat),a.sz<=1000000->(dh F a.rx (bo a.rx)).length<=18000002:=λa F j=>by have D:=aV a j;have:=(sX F a.rx (bo a.rx)).1;omega
   have aJ:∀c,(dZ c).length<=4:=λc=>by unfold dZ;split<;>simp
   let O:aK:=λr w'=>r=ae (.string (ba (bo x.rx)))/\af w w'
   have one:∀(a:I) (ab:Nat) (H:J) (b2:Nat) (K:ByteArray->J->Prop),ab<=1000->a∈x.l->LH F0 w H [.g b2] [.tree x]->(∀B,LH F0 w B [.g b2] [.tree x]->K (ba (dh ab a.rx (bo a.rx))) B)->Ea [b2] qS #[.agg #[.i a.k,.int .u8 (a.lo.toNat:Int),.int .u8 (a.hi.toNat:Int),a.s.v],.i (ab:Int)] H K:=by intro a ab H b2 K a4 j G hK;have aq:=I.eK j;refine G.aA (ih a ab H co a4 (av a j) ((show x.P H from G.getD 0).parts.2.mem j)) ?_;rintro _ B rfl q;exact⟨_,rfl,hK B q⟩
   refine mH.aC ((hj px).aH λb2 H G=>?_);have G:LH F0 w H [.g b2] [.tree x]:=G;refine G.aA (D3 x H k0 k7 (G.getD 0)) ?_;rintro _ B rfl q;have N:bo x.rx=bo (.mk x.k x.lo x.hi (I.aw x.l)):=by rw[I.fF]
   refine⟨_,rfl,aN (aW co) (aP (λh=>⟨?_,q.fr⟩) (λQ=>aP (λh=>⟨?_,q.fr⟩) (λW=>aP (λS=>?_) (λS=>aP (λT=>?_) (λT=>aP (λY=>?_) (λY=>aF (λa2=>?_) (λa2=>?_)))))))⟩
   .rw [N];unfold bo;rw[au h];rfl
   .rw [N];unfold bo;rw[ag Q,au h];rfl
   .have e2:bo x.rx=if x.lo=x.hi then dZ x.lo else 91::(dZ x.lo++45::(dZ x.hi++[93])):=by rw[N];unfold bo;rw[ag Q,ag W,au S]
    refine aP (λaO=>q.aA (D2 x.lo B) ?_) (λaO=>q.ah λC L=>L.aA (D2 x.lo C) ?_)
    .rintro _ z rfl y;exact⟨_,rfl,by rw[e2,au (UInt8.toNat_inj.1 co)],y.fr⟩
    .rintro _ w6 rfl H6;have D:=aJ x.lo;have h2:=aJ x.hi;have s0:bn #[91]++ba (dZ x.lo)++bn #[45]=ba (91::dZ x.lo++[45]):=by show ba [91]++ba (dZ x.lo)++ba [45]=_;rw[cN,cN];rfl
     refine⟨_,rfl,?_,?_,H6.aA (D2 x.hi w6) ?_⟩
     .rw [bU];show ¬(((1+_:Nat):Int)>9223372036854775807);omega
     .have:(bn #[91]++ba (dZ x.lo)).size=1+(dZ x.lo).length:=by show(ba [91]++_).size=_;rw[cN,bU];simp;omega
      rw[this];show ¬(((_+1:Nat):Int)>9223372036854775807);omega
     rintro _ w7 rfl H7;rw[s0];have:ba (91::dZ x.lo++[45]++dZ x.hi)++bn #[93]=ba (91::dZ x.lo++[45]++dZ x.hi++[93]):=by show _++ba [93]=_;rw[cN]
     refine⟨_,rfl,?_,?_,?_,H7.fr⟩
     .rw [bU,bU];simp only[a7,bR,dK];show ¬((_:Int)>9223372036854775807);omega
     .rw [cN,bU];simp only[a7,bR,dK];show ¬(((_+1:Nat):Int)>9223372036854775807);omega
     .rw [cN,this,e2,ag (λA=>aO (by rw[A]))];simp
   .have D:=ay (.inl T);have e6:bo x.rx=33::kn (dQ 3 (I.aw x.l)):=by rw[N];unfold bo;rw[ag Q,ag W,ag S,au T]
    match gV:x.l,D with
    |[a],_=>
     have j:a∈x.l:=by rw[gV];simp
     have aq:=I.eK j;refine jc (show x.P B from q.getD 0) (k:=0) rfl (by rw[gV];rfl) (one a 3 B b2 _ co j q λz y=>⟨?_,?_,y.fr⟩)
     .have:=ao a 3 co;rw[bU];show ¬(((1+_:Nat):Int)>9223372036854775807);omega
     .have:bn #[33]++ba (dh 3 a.rx (bo a.rx))=ba (33::dh 3 a.rx (bo a.rx)):=by show ba [33]++_=_;rw[cN];rfl
      rw[this,e6,gV];rfl
   .have D:=ay (.inr Y);have e7:bo x.rx=kn (dQ 4 (I.aw x.l))++[42]:=by rw[N];unfold bo;rw[ag Q,ag W,ag S,ag T,au Y]
    match gV:x.l,D with
    |[a],_=>
     have j:a∈x.l:=by rw[gV];simp
     have aq:=I.eK j;refine jc (show x.P B from q.getD 0) (k:=0) rfl (by rw[gV];rfl) (one a 4 B b2 _ co j q λz y=>⟨?_,?_,y.fr⟩)
     .have:=ao a 4 co;rw[bU];show ¬(((_+1:Nat):Int)>9223372036854775807);omega
     .have:ba (dh 4 a.rx (bo a.rx))++bn #[42]=ba (dh 4 a.rx (bo a.rx)++[42]):=by show _++ba [42]=_;rw[cN]
      rw[this,e7,gV];rfl
   .
    have h:x.k=3\/x.k=4\/x.k=5:=co
    have ef:bo x.rx=sJ x.k++(kn (dQ 0 (I.aw x.l))++[41]):=by rw[N];unfold bo;rw[ag Q,ag W,ag S,ag T,ag Y,au (by rw[ax];omega)]
    have fin:∀(t:BL) (z:J),t.length<=18000002->kn (dQ 0 (I.aw x.l))=t->LH F0 w z [.g b2] [.tree x]->mH.bt b2 x.k x.lo.toNat x.hi.toNat x.s (ba t) z O:=by
     intro t z ht E y;dsimp only[mH.bt,ak];refine y.nw λw4 _ M=>?_;have key:∀(u:BL),u.length=4->sJ x.k=u->¬((((ba u).size+(ba t).size:Nat):Int)>IntKind.i64.max)/\¬((((ba u++ba t).size+(bn #[41]).size:Nat):Int)>IntKind.i64.max)/\O (ae (.string ((ba u++ba t)++(bn #[41])))) w4:=by
      intro u hu hn;refine⟨?_,?_,?_,M.fr⟩
      .rw [bU,bU];show ¬((_:Int)>9223372036854775807);omega
      .rw [cN,bU];simp only[a7];show ¬(((_+1:Nat):Int)>9223372036854775807);omega
      .have:ba u++ba t++bn #[41]=ba (u++(t++[41])):=by show _++_++ba [41]=_;rw[cN,cN];simp
       rw[this,ef,hn,E]
     rcases h with h|h|h<;>rw[h]
     .exact ⟨md,md,k8 ⟨ba [99,97,116,40],M.ld 1 0,key _ rfl (by rw[h];rfl)⟩⟩
     .exact ⟨md,md,k8 ⟨ba [97,108,116,40],M.ld 1 1,key _ rfl (by rw[h];rfl)⟩⟩
     .exact ⟨md,md,k8 ⟨ba [97,108,108,40],M.ld 1 2,key _ rfl (by rw[h];rfl)⟩⟩
    refine aP (λD=>?_) (λD=>?_)
    .match gV:x.l with
     |[]=>rw[gV]at U;simp at U;omega
     |_::_::_=>rw[gV]at U;simp at U;omega
     |[a]=>
      have j:a∈x.l:=by rw[gV];simp
      have aq:=I.eK j;refine jc (show x.P B from q.getD 0) (k:=0) rfl (by rw[gV];rfl) (one a 0 B b2 _ co j q λz y=>?_);exact fin _ z (ao a 0 co) (by rw[gV];rfl) y
    .have:x.l=[]:=List.length_eq_zero_iff.1 co;exact fin [] B ws (by rw[this];rfl) q
   .
    have h:x.k=3\/x.k=4\/x.k=5:=co
    match gV:x.l with
    |[]=>rw[gV]at U;simp at U;omega
    |a::m=>
    have j:a∈x.l:=by rw[gV];simp
    have aq:=I.eK j;have bj:(hr x.k).length<=1:=by unfold hr;split<;>(try split)<;>simp
    have ef:bo x.rx=jQ x.k (dh (dd x.rx+1) a.rx (bo a.rx)) (dQ (dd x.rx+1) (I.aw (x.l.drop 1))):=by
     have e1:bo x.rx=Av x.k (dQ (dd x.rx+1) (I.aw x.l)):=by
      conv=>lhs;rw[N];unfold bo;rw[ag Q,ag W,ag S,ag T,ag Y,ag (by rw[ax];omega)]
      rw[<-I.fF]
     rw[e1,gV];rfl
    have be:dd x.rx<=4:=by rw[I.fF];unfold dd;dsimp only;repeat (first |omega|split)
    have loop:∀(d i:Nat) (out:BL) (z:J),i+d=x.l.length->1<=i->0<out.length->out.length+hO (dQ (dd x.rx+1) (I.aw (x.l.drop i)))<=40000000->bo x.rx=jQ x.k out (dQ (dd x.rx+1) (I.aw (x.l.drop i)))->LH F0 w z [.g b2] [.tree x]->
      mH.cy b2 x.k x.lo.toNat x.hi.toNat x.s (ba (hr x.k)) (dd x.rx:Int) (ba out) (i:Int) z O:=by
     intro d;induction d with
     |zero=>
      intro i out z aZ D aS ap E y;refine mH.dH (aN (aW co) ⟨?_,y.fr⟩);rw[E,c9 co];rfl
     |succ d a5=>
      intro i out z aZ D aS ap E y;have hg:x.l[i]? =some (x.l[i]'co):=a' co;have aL:x.l.drop i=(x.l[i]'co)::x.l.drop (i+1):=dz co;generalize x.l[i]'co=c at hg aL;have hc:=aD hg;have bk:=I.eK hc;rw[aL]at E ap;have ap:out.length+((dh (dd x.rx+1) c.rx (bo c.rx)).length+2+hO (dQ (dd x.rx+1) (I.aw (x.l.drop (i+1)))))<=40000000:=by
       have:hO (dQ (dd x.rx+1) (I.aw (c::x.l.drop (i+1))))=(dh (dd x.rx+1) c.rx (bo c.rx)).length+2+hO (dQ (dd x.rx+1) (I.aw (x.l.drop (i+1)))):=by simp[I.aw,dQ,hO]
       omega
      have E:bo x.rx=jQ x.k ((if x.k=3/\eW (k1 out)=true/\eW (gQ (dh (dd x.rx+1) c.rx (bo c.rx)) 0)=true then out++[32]else out)++hr x.k++dh (dd x.rx+1) c.rx (bo c.rx)) (dQ (dd x.rx+1) (I.aw (x.l.drop (i+1)))):=by rw[E];rfl
      have aX:0<(dh (dd x.rx+1) c.rx (bo c.rx)).length:=by have D:=Cw c.rx (av c hc);have:=(sX (dd x.rx+1) c.rx (bo c.rx)).2;omega
      have ar:aj .i64 ((dd x.rx:Int)+1)=((dd x.rx+1:Nat):Int):=bc _ co;refine mH.dH (aM (aR co) (jc (show x.P z from y.getD 0) rfl hg ?_));rw[ar];refine one c (dd x.rx+1) z b2 _ co hc y λw4 M=>?_;generalize dh (dd x.rx+1) c.rx (bo c.rx)=t at E ap aX;have go:∀(o:BL) (C:J),o.length<=out.length+1->out.length<=o.length->o.length+(hr x.k).length<=out.length+1->bo x.rx=jQ x.k (o++hr x.k++t) (dQ (dd x.rx+1) (I.aw (x.l.drop (i+1))))->LH F0 w C [.g b2] [.tree x]->
        mH.cd b2 x.k x.lo.toNat x.hi.toNat x.s (ba (hr x.k)) (dd x.rx:Int) (ba o) (i:Int) (ba t) C O:=by
       intro o C bg bh bi aY L;refine⟨?_,?_,?_⟩
       .rw [bU,bU];show ¬((_:Int)>9223372036854775807);omega
       .rw [cN,bU,bU];simp only[a7];show ¬((_:Int)>9223372036854775807);omega
       .show mH.cy _ _ _ _ _ _ _ _ _ _ _;rw[cN,cN,bc _ co];refine a5 (i+1) (o++hr x.k++t) C co co (by simp only[a7];omega) (by simp only[a7];omega) aY L
      have az:∀C,LH F0 w C [.g b2] [.tree x]->¬(x.k=3/\eW (k1 out)=true/\eW (gQ t 0)=true)->mH.cd b2 x.k x.lo.toNat x.hi.toNat x.s (ba (hr x.k)) (dd x.rx:Int) (ba out) (i:Int) (ba t) C O:=λC L A=>go out C co co co (by rw[ag A]at E;exact E) L;have eo:aj .i64 ((((ba out).size:Nat):Int) - 1)=((out.length - 1:Nat):Int):=by rw[bU,aQ _ co];omega
      rw[eo];refine aP (λal=>⟨co,k1 out,?_,M.aA (J0 (k1 out) w4) ?_⟩) (λal=>az w4 M (λA=>al A.1))
      .rw [bB,gZ (s:=ba out) (by rw[bU];omega),gm,Nj out aS]
      rintro _ C rfl L;refine⟨_,rfl,bT (λam=>⟨co,gQ t 0,?_,L.aA (J0 (gQ t 0) C) ?_⟩) (λam=>az C L (λA=>by rw[A.2.1]at am;cases am))⟩
      .rw [show a0 0=0 from rfl,gZ (s:=ba t) (by rw[bU];omega),gm]
      rintro _ w6 rfl H6;have s3:(hr x.k).length=0:=by unfold hr;rw[au al];rfl
      refine⟨_,rfl,bT (λan=>⟨?_,?_⟩) (λan=>az w6 H6 (λA=>by rw[A.2.2]at an;cases an))⟩
      .rw [bU];show ¬(((_+1:Nat):Int)>9223372036854775807);omega
      .have aU:ba out++bn #[32]=ba (out++[32]):=by show _++ba [32]=_;rw[cN]
       rw[aU];refine go (out++[32]) w6 ws ws (by simp;omega) ?_ H6;rw[au ⟨al,am,an⟩]at E;exact E
    refine q.nw λaB _ ad=>?_;have aG:LH F0 w aB [.g b2] [.tree x]:=ad.take 1;have rest:∀(u:BL),hr x.k=u->ZU [b2] F9 #[.agg #[.i x.k,.int .u8 (x.lo.toNat:Int),.int .u8 (x.hi.toNat:Int),x.s.v]] aB λt90 ac=>fx x.s 0 λa6=>gC ac (a6.add (a0 0 *4)) λa8 a9 bb bd=>Ea [b2] qS #[.agg #[.i a8,.int .u8 a9,.int .u8 bb,bd.v],.i (aj .i64 (t90+1))] ac λt97 aE=>mH.cy b2 x.k x.lo.toNat x.hi.toNat x.s (ba u) t90 t97 1 aE O:=by
     intro u hu;refine aG.aA (D3 x aB k0 k7 (aG.getD 0)) ?_;rintro _ ac rfl aI;refine⟨_,rfl,jc (show x.P ac from aI.getD 0) (k:=0) rfl (by rw[gV];rfl) ?_⟩;have ar:aj .i64 ((dd x.rx:Int)+1)=((dd x.rx+1:Nat):Int):=bc _ co;rw[ar];refine one a (dd x.rx+1) ac b2 _ co j aI λaE aT=>?_;rw[<-hu];refine loop (x.l.length - 1) 1 _ aE co co ?_ ?_ ef aT
     .have D:=Cw a.rx (av a j);have:=(sX (dd x.rx+1) a.rx (bo a.rx)).2;omega
     .have D:=ao a (dd x.rx+1) co;have h2:=tA (dd x.rx+1) (I.aw (x.l.drop 1));have h3:=agn x.l 1;omega
    rcases h with h|h|h
    .exact ⟨by rw[h];decide,by rw[h];decide,k8 ⟨ba [],by rw[h];exact ad.ld 1 0,rest _ (by rw[h];rfl)⟩⟩
    .exact ⟨by rw[h];decide,by rw[h];decide,k8 ⟨ba [124],by rw[h];exact ad.ld 1 1,rest _ (by rw[h];rfl)⟩⟩
    .exact ⟨by rw[h];decide,by rw[h];decide,k8 ⟨ba [38],by rw[h];exact ad.ld 1 2,rest _ (by rw[h];rfl)⟩⟩
  intro x F w A a3 Z px;by_cases hb:dd x.rx<F
  .have aa:=Z;rw[I.fF]at aa;obtain⟨k0,k7,_,_⟩:=A' aa;refine mH.aC ((hj px).aH λb2 H G=>G.aA (D3 x H k0 k7 (G.getD 0)) ?_);rintro _ B rfl q;refine⟨_,rfl,aM (aR co) (q.aA (core x 0 B A co Z (q.getD 0)) ?_)⟩;rintro _ z rfl y;have bf:(bo x.rx).length<=18000000:=by have:=zi x.rx;rw[I.eX]at this;omega
   have e:bn #[40]++ba (bo x.rx)++bn #[41]=ba (40::(bo x.rx++[41])):=by show ba [40]++ba (bo x.rx)++ba [41]=_;rw[cN,cN];simp
   refine⟨_,rfl,?_,?_,?_,y.fr⟩
   .rw [bU];show ¬(((1+_:Nat):Int)>9223372036854775807);omega
   .have:(bn #[40]++ba (bo x.rx)).size=1+(bo x.rx).length:=by show(ba [40]++_).size=_;rw[cN,bU];simp;omega
    rw[this];show ¬(((_+1:Nat):Int)>9223372036854775807);omega
   .rw [e];unfold dh;rw[au hb]
  .have:=core x F w A hb Z px;have e:dh F x.rx (bo x.rx)=bo x.rx:=by unfold dh;rw[ag hb]
   rw[e];exact this
def JF(x:I)(d:Nat)(w:J)(h:x.sz<=1000000)(j:d<=1000)(k:ja x.rx=true)(q:x.P w):ai V qS #[x.v,.i (d:Int)] w λr y=>r=ae (.string (ba (dh d x.rx (bo x.rx))))/\af w y:=JG 1000000 (br _) x d w h j k q
def ad9{s:BL}{x:Rx}{a:Nat}{e:Int}(h:vo s=some (x,a,e)):x.sz<=1000000:=by
 unfold vo at h;split at h
 .simp only[fy,eZ]at h;rw[<-h.1];decide
 .dsimp only at h;split at h
  .split at h
   .simp only[fy,eZ]at h;rw[<-h.1];decide
   .split at h
    .cases h
    .split at h
     .simp only[fy,eZ]at h;rw[<-h.1];decide
     .simp only[fy,eZ]at h;rw[<-h.1];omega
  .cases h
def YA(s:ByteArray)(Q:s.size<=100000)(b:Bool)(d:uu (bl s)=some b)(w:J):ai V Ol #[.string s] w λr Y=>r=ae (.bool b)/\af w Y:=by
 unfold uu at d;cases q:vo (bl s)with
 |none=>rw[q]at d;cases d
 |some aa=>
  obtain⟨Z,a,e⟩:=aa;rw[q]at d;dsimp only at d;have S:=ad9 q;have K:LH F0 w w [] []:=bK [] ws;refine K5.aC (K.D8 (Zq s Q Z a e q w) ?_);rintro _ w1 ⟨t,rfl,z,T,O⟩ _ H;have L:=H.rd (.tree t) T λb h=>O b (aT.1 h);have W:t.sz<=1000000:=by rw[<-I.eX,z];exact S
  refine⟨_,_,_,t.s,_,_,rfl,L.aH λb3 w2 A=>dA (λx=>A.ah λF j=>⟨?_,j.fr⟩) (λx=>A.ah λF j=>?_)⟩
  .rw [ag x]at d;cases d;rfl
  rw[au x]at d;refine gn ((Zv t F W (j.getD 0)).mono ?_);rintro _ w4 ⟨⟨u,rfl,E,U,P⟩,C⟩;have M:=j.gP (.tree u) C U λb h=>(P b (aT.1 h)).imp id λh=>.inr ⟨_,aD (i:=0) rfl,aT.2 h⟩;rw[z]at E;refine⟨C,_,_,_,u.s,_,rfl,M.aH λb6 w5 B=>?_⟩;rw[z];refine aP (λy=>B.ah λG k=>?_) (λy=>B.ah λG k=>⟨?_,k.fr⟩)
  .rw [au y]at d;split at d
   .rename_i D;rw[<-E]at D d;refine k.aA (JF u 0 G (by rw[<-I.eX];omega) co D.1 (k.getD 1)) ?_;rintro _ w7 rfl N;refine⟨_,rfl,?_,N.fr⟩;cases d;congr 2;have:=ui (dh 0 u.rx (bo u.rx)) (bl s);rw[jt]at this;exact this
   .cases d
  .rw [ag y]at d;cases d;rfl
abbrev vW(k:Sl)(ks:List bC):En:=.bf 3 k (ks.flatMap g1)
def Nz{w:J}{k:Sl}{ks:List bC}(h:bN 3 w k (ks.flatMap g1)):LH F0 w w [] [vW k ks]:=bK _ (by intro e d;simp only[aq,aL,aO]at d;subst d;exact h)
def Y9{w:J}{k:Sl}{ks:List bC}{x y z:bC}(op:Int)(h:bN 3 w k (ks.flatMap g1))(hx:ks[0]? =some x)(B:2<=dm op->ks[1]? =some y)(I:dm op=3->ks[2]? =some z)(h4:4<=op)(ag:op<=34):
  ai V OW #[.i op,k.v] w λr w'=>r=ae (.bool (dI op x y z))/\af w w':=by
 refine EH.aC (eQ h (rfl:(0:Int)=((0:Nat):Int)) hx λp0 ak Z=>⟨x.k,x.n,x.x,Z.c0,Z.c1,Z.c2,(Nz h).aH λb5 w1 H1=>?_⟩);have main:∀(a:Bool) (O:J),a=eG x->LH F0 w O [.g b5] [vW k ks]->EH.bt op k b5 x.k x.n x.x (x.k==0) (x.k==1) a O λr w'=>r=ae (.bool (dI op x y z))/\af w w':=by
  rintro a O ha d;have A:∀{E:J} {L:List En},LH F0 w E L [vW k ks]->bN 3 E k (ks.flatMap g1):=λad=>ad.getD 0;have D:(1:Int)=((1:Nat):Int):=rfl;have M:(2:Int)=((2:Nat):Int):=rfl;rcases vl co ag with rfl|rfl|rfl|rfl|rfl|rfl|rfl|rfl|rfl|rfl|rfl|rfl|rfl|rfl|rfl|rfl|rfl|rfl|rfl|rfl|rfl|rfl|rfl|rfl|rfl|rfl|rfl|rfl|rfl|rfl|rfl|rfl|rfl|rfl|rfl
  iterate 4 omega
  all_goals repeat (first |refine aN rfl ?_|refine aM rfl ?_)
  all_goals first |(have B:=B md)|skip
  all_goals first |(have I:=I md)|skip
  iterate 2 exact⟨rfl,d.fr⟩
  iterate 12
   .refine aP (λj=>?_) (λj=>d.ah λE q=>⟨?_,q.fr⟩)
    .refine eQ (A d) D B λp H _=>d.ah λE q=>?_;have c:=gK (A q) D B H;refine⟨_,_,_,c.c0,c.c1,c.c2,?_,q.fr⟩;rw[lh];show _=Ending.returned (.bool (x.k==0&&av (x=y)));rw[j];rfl
    .show _=Ending.returned (.bool (x.k==0&&av (x=y)));rw[beq_eq_false_iff_ne.2 j];rfl
  .refine eQ (A d) D B λp H _=>d.ah λE q=>?_;have c:=gK (A q) D B H;have F:dI 18 x y z=(av (x=y)||(x.k==1&&y.k==1)):=rfl;rw[F];refine⟨_,_,_,c.c0,c.c1,c.c2,oS (λK=>⟨by rw[aR K];rfl,q.fr⟩) (λK=>?_)⟩;rw[aW K,Bool.false_or];refine aP (λj=>eQ (A q) D B λp' _ Y=>⟨_,Y.c0,?_,q.fr⟩) (λj=>⟨?_,q.fr⟩)
   .rw [j];rfl
   .rw [beq_eq_false_iff_ne.2 j];rfl
  .refine d.ah λE q=>q.aA (fR 1 E) ?_;rintro _ U rfl C;have F:dI 19 x y z=(av (x=bP 1)&&(av (y=z)||(y.k==1&&z.k==1))):=rfl;rw[F];refine⟨_,_,_,rfl,oS (b:=bP 1) (λK=>?_) (λK=>⟨by rw[aW K];rfl,C.fr⟩)⟩;rw[aR K,Bool.true_and];refine eQ (A C) D B λp _ c=>⟨_,_,_,c.c0,c.c1,c.c2,eQ (A C) M I λac _ G=>⟨_,_,_,G.c0,G.c1,G.c2,oS (λh2=>⟨by rw[aR h2];rfl,C.fr⟩) (λh2=>?_)⟩⟩;rw[aW h2,Bool.false_or];refine eQ (A C) D B λp' _ Y=>⟨_,Y.c0,aP (λj=>eQ (A C) M I λq' _ d'=>⟨_,d'.c0,?_,C.fr⟩) (λj=>⟨?_,C.fr⟩)⟩
   .rw [j];rfl
   .rw [beq_eq_false_iff_ne.2 j];rfl
  .have F:dI 20 x y z=(x.k==0&&y.k==0):=rfl;rw[F];refine aP (λj=>eQ (A d) D B λp _ c=>⟨_,c.c0,?_,d.fr⟩) (λj=>⟨?_,d.fr⟩)
   .rw [j];rfl
   .rw [beq_eq_false_iff_ne.2 j];rfl
  iterate 3 exact⟨rfl,d.fr⟩
  .have F:dI 24 x y z=(eG x&&av (y=bP x.x)):=rfl;rw[F,<-ha];refine bT (λT=>?_) (λQ=>d.ah λE q=>⟨by rw[Q];rfl,q.fr⟩);refine eQ (A d) D B λp H _=>d.ah λE q=>?_;have c:=gK (A q) D B H;refine⟨_,_,_,c.c0,c.c1,c.c2,q.aA (fR x.x E) ?_⟩;rintro _ U rfl C;have G:=gK (A C) D B H;refine⟨_,_,_,rfl,G.c0,G.c1,G.c2,?_,C.fr⟩;rw[T,Bool.true_and];exact congrArg (λb=>Ending.returned (.bool b)) (lh y (bP x.x))
  .have F:dI 25 x y z=(eG x&&av (y=bP x.x)&&(av (z=iI x)||(x.k==3&&z.k==1&&av (z.n<=x.n)))):=rfl;rw[F,<-ha];refine eb (λQ=>d.ah λE q=>⟨by rw[Q];rfl,q.fr⟩) (λT=>?_);rw[T,Bool.true_and];refine eQ (A d) D B λp H _=>d.ah λE q=>?_;have c:=gK (A q) D B H;refine⟨_,_,_,c.c0,c.c1,c.c2,q.aA (fR x.x E) ?_⟩;rintro _ U rfl C;have G:=gK (A C) D B H;refine⟨_,_,_,rfl,G.c0,G.c1,G.c2,BK (a:=y) (b:=bP x.x) (λS=>⟨by rw[aW S];rfl,C.fr⟩) (λaj=>?_)⟩;rw[aR aj,Bool.true_and];refine eQ (A C) M I λac W _=>C.ah λw5 P=>?_;have c5:=gK (A P) M I W;refine⟨_,_,_,c5.c0,c5.c1,c5.c2,P.aA (Hg x w5) ?_⟩;rintro _ w6 rfl N;have d6:=gK (A N) M I W;refine⟨_,_,_,rfl,d6.c0,d6.c1,d6.c2,oS (a:=z) (b:=iI x) (λK=>⟨by rw[aR K];rfl,N.fr⟩) (λS=>?_)⟩;rw[aW S,Bool.false_or];refine aP (λj=>eQ (A N) M I λq' _ d'=>⟨_,d'.c0,aP (λab=>eQ (A N) M I λq2 _ d2=>⟨_,d2.c1,?_,N.fr⟩) (λab=>⟨?_,N.fr⟩)⟩) (λj=>⟨?_,N.fr⟩)
   .rw [j,ab];rfl
   .rw [beq_eq_false_iff_ne.2 ab,Bool.and_false];rfl
   .rw [beq_eq_false_iff_ne.2 j];rfl
  .have F:dI 26 x y z=(eG x&&av (x=y)):=rfl;rw[F,<-ha];refine bT (λT=>?_) (λQ=>d.ah λE q=>⟨by rw[Q];rfl,q.fr⟩);refine eQ (A d) D B λp H _=>d.ah λE q=>?_;have c:=gK (A q) D B H;refine⟨_,_,_,c.c0,c.c1,c.c2,?_,q.fr⟩;rw[lh,T];rfl
  iterate 2 exact⟨rfl,d.fr⟩
  .have F:dI 29 x y z=(x.k==1&&y.k==1):=rfl;rw[F];refine aP (λj=>eQ (A d) D B λp _ c=>⟨_,c.c0,?_,d.fr⟩) (λj=>⟨?_,d.fr⟩)
   .rw [j];rfl
   .rw [beq_eq_false_iff_ne.2 j];rfl
  .have F:dI 30 x y z=(x.k==1&&av (y=bP 7)&&av (z=bP 7)):=rfl;rw[F];refine aP (λj=>?_) (λj=>d.ah λE q=>⟨by rw[beq_eq_false_iff_ne.2 j];rfl,q.fr⟩);rw[j];refine eQ (A d) D B λp H _=>d.ah λE q=>?_;have c:=gK (A q) D B H;refine⟨_,_,_,c.c0,c.c1,c.c2,q.aA (fR 7 E) ?_⟩;rintro _ U rfl C;have G:=gK (A C) D B H;refine⟨_,_,_,rfl,G.c0,G.c1,G.c2,oS (a:=y) (b:=bP 7) (λK=>?_) (λS=>⟨by rw[aW S];rfl,C.fr⟩)⟩;rw[aR K];refine eQ (A C) M I λac W c4=>⟨_,_,_,c4.c0,c4.c1,c4.c2,C.aA (fR 7 U) ?_⟩;rintro _ w5 rfl P;have d5:=gK (A P) M I W;exact⟨_,_,_,rfl,d5.c0,d5.c1,d5.c2,congrArg (λb=>Ending.returned (.bool b)) (lh z (bP 7)),P.fr⟩
  .have F:dI 31 x y z=(x.k==1&&y.k==1):=rfl;rw[F];refine aP (λj=>eQ (A d) D B λp _ c=>⟨_,c.c0,?_,d.fr⟩) (λj=>⟨?_,d.fr⟩)
   .rw [j];rfl
   .rw [beq_eq_false_iff_ne.2 j];rfl
  .have F:dI 32 x y z=(x.k==1&&y.k==1&&z.k==1):=rfl;rw[F];refine aP (λj=>eQ (A d) D B λp _ c=>⟨_,c.c0,aP (λaa=>eQ (A d) M I λac _ G=>⟨_,G.c0,?_,d.fr⟩) (λaa=>⟨?_,d.fr⟩)⟩) (λj=>⟨?_,d.fr⟩)
   .rw [j,aa];rfl
   .rw [beq_eq_false_iff_ne.2 aa,Bool.and_false];rfl
   .rw [beq_eq_false_iff_ne.2 j];rfl
  .exact ⟨rfl,d.fr⟩
  .refine d.ah λE q=>q.aA (fR 8 E) ?_;rintro _ U rfl C;exact⟨_,_,_,rfl,congrArg (λb=>Ending.returned (.bool b)) (lh x (bP 8)),C.fr⟩
 refine aP (λj=>H1.ah λO d=>main true O ?_ d) (λj=>H1.ah λO d=>main _ O ?_ d)
 .unfold eG;rw[j];rfl
 .unfold eG;rw[beq_eq_false_iff_ne.2 j];rfl
def Dm(n:Nx)(x y z:bC):bW->Prop:=λr=>∃(t:bC) (b:Bool),r=ae (.tuple #[ei t,.bool b])/\b=lf n x y z/\(b=true->t=iu n x y z)
def Zy{w:J}{k:Sl}{ks:List bC}{x y z:bC}(d:Nd)(h:bN 3 w k (ks.flatMap g1))(hx:ks[0]? =some x)(F:2<=dm d.x.op->ks[1]? =some y)(N:dm d.x.op=3->ks[2]? =some z)(h4:4<=d.x.op)(ac:d.x.op<=34)(vx:cv x=true)(vy:2<=dm d.x.op->cv y=true)(vz:dm d.x.op=3->cv z=true)(hn:aY d.x.n)(hm:aY d.x.m):
  ai V O0 #[d.v,k.v] w λr W=>Dm d.x x y z r/\af w W:=by
 obtain⟨x1,x2,x3,x4,_⟩:=m6 vx;obtain⟨an,ao⟩:=hn;obtain⟨al,am⟩:=hm;refine Ae.aC ((Nz h).aH λb2 w1 H1=>H1.aH λZ w2 H2=>eQ (H2.getD 0) (rfl:(0:Int)=((0:Nat):Int)) hx λp0 aq aa=>⟨x.k,x.n,x.x,aa.c0,aa.c1,aa.c2,H2.aH λb6 w3 U=>?_⟩);have C:∀{w3:J} {L:List En},LH F0 w w3 L [vW k ks]->bN 3 w3 k (ks.flatMap g1):=λad=>ad.getD 0;have G:(1:Int)=((1:Nat):Int):=rfl;have T:(2:Int)=((2:Nat):Int):=rfl;obtain⟨⟨op,kids,n,m,u,tx,st⟩,ap⟩:=d;simp only at F N h4 ac vy vz an ao al am;have S1:∀D:J,op≠16->op≠17->op≠18->op≠33->LH F0 w D [.g b2,.g Z,.g b6] [vW k ks]->Ae.b3 k b2 op ap n m u tx st.k st.n st.x Z 0 0 0 b6 x.k x.n x.x op D λr W=>Dm ⟨op,kids,n,m,u,tx,st⟩ x y z r/\af w W:=by
  intro D n1 n2 n3 n4 q;rcases vl co ac with rfl|rfl|rfl|rfl|rfl|rfl|rfl|rfl|rfl|rfl|rfl|rfl|rfl|rfl|rfl|rfl|rfl|rfl|rfl|rfl|rfl|rfl|rfl|rfl|rfl|rfl|rfl|rfl|rfl|rfl|rfl|rfl|rfl|rfl|rfl
  iterate 4 omega
  all_goals repeat (first |refine aN rfl ?_|refine aM rfl ?_)
  all_goals first |(have F:=F md)|skip
  all_goals first |(have N:=N md)|skip
  all_goals first |(have vy:=m6 (vy md))|skip
  all_goals first |(have vz:=m6 (vz md))|skip
  iterate 12 exact q.ah λE j=>⟨⟨x,true,rfl,rfl,λ_=>rfl⟩,j.fr⟩
  iterate 3 omega
  .refine eQ (C q) G F λp P c=>⟨_,c.c0,aP (λhk=>?_) (λhk=>?_)⟩
   .refine eQ (C q) G F λp P _=>q.ah λE j=>?_;have Q:=gK (C j) G F P;refine⟨_,Q.c1,eQ (C j) T N λab I S=>⟨_,S.c1,j.aA (pc _ E) ?_⟩⟩;rintro _ K rfl A;refine⟨_,_,_,rfl,A.ah λO B=>⟨⟨_,true,rfl,rfl,λ_=>?_⟩,B.fr⟩⟩;show _=if y.k=1 then _ else _;rw[au hk]
   .refine eQ (C q) G F λp P c'=>⟨_,_,_,c'.c0,c'.c1,c'.c2,q.ah λE j=>⟨⟨y,true,rfl,rfl,λ_=>?_⟩,j.fr⟩⟩;show _=if y.k=1 then _ else _;rw[ag hk]
  .refine eQ (C q) G F λp P _=>q.ah λE j=>?_;have Q:=gK (C j) G F P;refine⟨_,Q.c1,eQ (C j) G F λab I _=>?_⟩;have S:=gK (C j) G F I;refine⟨_,S.c1,j.aA (fR _ E) ?_⟩;rintro _ K rfl A;refine⟨_,_,_,rfl,(gK (C A) G F I).c1,A.ah λO B=>⟨(gK (C B) G F I).c1,⟨_,_,rfl,?_,λ_=>?_⟩,B.fr⟩⟩
   .rw [aQ _ co];rfl
   .show bP _=bP (x.n+y.n);rw[aQ _ co]
  .refine q.ah λE j=>j.aA (fR _ E) ?_;rintro _ K rfl A;have hr:lf ⟨21,kids,n,m,u,tx,st⟩ x y z=(av (0<=m)&&av (m<=n)&&av (n<x.n)):=rfl;refine⟨_,_,_,rfl,aF (λM=>aF (λg2=>A.ah λO B=>⟨⟨_,_,rfl,?_,λH=>?_⟩,B.fr⟩) (λg2=>A.ah λO B=>⟨⟨_,false,rfl,?_,λH=>by cases H⟩,B.fr⟩)) (λM=>A.ah λO B=>⟨⟨_,false,rfl,?_,λH=>by cases H⟩,B.fr⟩)⟩
   .rw [hr,aR (show 0<=m from M),aR g2];rfl
   .have H:=eT H;show bP _=bP (n - m+1);rw[aQ (n - m) co,aQ _ co]
   .rw [hr,aW g2,Bool.and_false];rfl
   .rw [hr,aW (show ¬0<=m from M)];rfl
  iterate 2
   .refine q.ah λE j=>j.aA (fR _ E) ?_;rintro _ K rfl A;have ae:aj .i64 (64 - x.n)=64 - x.n:=aQ _ co;rw[ae];refine⟨_,_,_,rfl,aF (λM=>A.ah λO B=>⟨⟨_,_,rfl,?_,λH=>?_⟩,B.fr⟩) (λM=>A.ah λO B=>⟨⟨_,false,rfl,?_,λH=>by cases H⟩,B.fr⟩)⟩
    .show _=(av (1<=n)&&av (n<=64 - x.n));rw[aR (show 1<=n from M)];rfl
    .have H:=eT H;show bP _=bP (x.n+n);rw[aQ _ co]
    .show _=(av (1<=n)&&av (n<=64 - x.n));rw[aW (show ¬1<=n from M)];rfl
  .refine q.aA (Hg x D) ?_;rintro _ E rfl j;exact⟨_,_,_,rfl,j.ah λK A=>⟨⟨_,true,rfl,rfl,λ_=>rfl⟩,A.fr⟩⟩
  .exact q.ah λE j=>⟨⟨x,true,rfl,rfl,λ_=>rfl⟩,j.fr⟩
  .refine q.aA (fR _ D) ?_;rintro _ E rfl j;exact⟨_,_,_,rfl,j.ah λK A=>⟨⟨_,true,rfl,rfl,λ_=>rfl⟩,A.fr⟩⟩
  .refine q.aA (fR _ D) ?_;rintro _ E rfl j;exact⟨_,_,_,rfl,j.ah λK A=>⟨⟨_,true,rfl,rfl,λ_=>rfl⟩,A.fr⟩⟩
  .refine q.ah λE j=>j.aA (fR _ E) ?_;rintro _ K rfl A;refine⟨_,_,_,rfl,aF (λM=>A.ah λO B=>⟨⟨_,_,rfl,?_,λH=>rfl⟩,B.fr⟩) (λM=>A.ah λO B=>⟨⟨_,false,rfl,?_,λH=>by cases H⟩,B.fr⟩)⟩
   .show _=(av (0<=n)&&av (n<=63));rw[aR (show 0<=n from M)];rfl
   .show _=(av (0<=n)&&av (n<=63));rw[aW (show ¬0<=n from M)];rfl
  .refine eQ (C q) G F λp P _=>q.ah λE j=>?_;have Q:=gK (C j) G F P;refine⟨_,Q.c1,eQ (C j) G F λab I _=>?_⟩;have S:=gK (C j) G F I;refine⟨_,S.c1,j.aA (pc _ E) ?_⟩;rintro _ K rfl A;refine⟨_,_,_,rfl,(gK (C A) G F I).c1,A.ah λO B=>⟨(gK (C B) G F I).c1,⟨_,_,rfl,?_,λ_=>?_⟩,B.fr⟩⟩
   .rw [aQ _ co];rfl
   .show fv _=fv (x.n+y.n);rw[aQ _ co]
  .exact q.ah λE j=>⟨⟨x,true,rfl,rfl,λ_=>rfl⟩,j.fr⟩
  .refine q.aA (fR _ D) ?_;rintro _ E rfl j;exact⟨_,_,_,rfl,j.ah λK A=>⟨⟨_,true,rfl,rfl,λ_=>rfl⟩,A.fr⟩⟩
  .refine eQ (C q) T N λp P _=>q.ah λE j=>?_;have Q:=gK (C j) T N P;refine⟨_,Q.c1,eQ (C j) T N λab I _=>?_⟩;have S:=gK (C j) T N I;refine⟨_,S.c1,j.aA (pc _ E) ?_⟩;rintro _ K rfl A;refine⟨_,_,_,rfl,(gK (C A) T N I).c1,A.ah λO B=>⟨(gK (C B) T N I).c1,⟨_,_,rfl,?_,λ_=>?_⟩,B.fr⟩⟩
   .rw [aQ _ co];rfl
   .show fv _=fv (x.n+z.n);rw[aQ _ co]
  .omega
  .refine q.aA (pc _ D) ?_;rintro _ E rfl j;exact⟨_,_,_,rfl,j.ah λK A=>⟨⟨_,true,rfl,rfl,λ_=>rfl⟩,A.fr⟩⟩
 have Y:∀D:J,(op=16\/op=17\/op=18\/op=33)->LH F0 w D [.g b2,.g Z,.g b6] [vW k ks]->Ae.bt Z 0 0 0 D λr W=>Dm ⟨op,kids,n,m,u,tx,st⟩ x y z r/\af w W:=by
  intro D ho q;refine q.aA (fR 1 D) ?_;rintro _ E rfl j;refine⟨_,_,_,rfl,j.ah λK A=>⟨⟨_,true,rfl,?_,λ_=>?_⟩,A.fr⟩⟩
  .rcases ho with rfl|rfl|rfl|rfl<;>rfl
  .rcases ho with rfl|rfl|rfl|rfl<;>rfl
 exact aP (λh=>aM (beq_iff_eq.2 h) (U.ah λD q=>Y D (.inl h) q)) λh1=>aP (λh=>aM (beq_iff_eq.2 h) (U.ah λD q=>Y D (.inr (.inl h)) q)) λh2=>aP (λh=>aM (beq_iff_eq.2 h) (U.ah λD q=>Y D (.inr (.inr (.inl h))) q)) λh3=>aP (λh=>U.ah λD q=>Y D (.inr (.inr (.inr h))) q) λak=>U.ah λD q=>S1 D h1 h2 h3 ak q
def aao:g7 V agQ cF (.agg #[.int .i64 0,.int .i64 0,.int .i64 0]) 3 24:=⟨by kernel_rfl,by kernel_rfl,rfl,md,md⟩
def zC(t:ByteArray):Prop:=t.size<=100000/\uu (bl t)=some (pd t)
def zC.can{t:ByteArray}(h:zC t):uu (bl t)=some (pd t):=h.2
structure qo(d:Nx):Prop where
 kl:d.kids.length<=fH
 n:aY d.n
 m:aY d.m
 tx:d.op=33->zC d.tx
structure zp(g:List Nx):Prop where
 len:g.length<=fH
 val:∀d∈g,cv d.st=true
 vars:zD g
def ab3{l:List Nd}{n:Nx}{i:Nat}{k:Int}{e:Nd}(h:n.kids[i]? =some k)(d:l[k.toNat]? =some e):cr (xs l) n i=e.x.st:=by unfold cr;rw[h];dsimp only;rw[zj d]
def aeG(i:Nat)(f:Nat->bC):((List.range (i+1)).map f).flatMap g1=((List.range i).map f).flatMap g1++g1 (f i):=by rw[List.range_succ];simp
def abZ{op:Int}{m:Nat}(h:dm op=(m:Int))(d:m≠0):4<=op/\op<=34:=by
 unfold dm at h;split at h
 .omega
 .split at h
  .omega
  .omega
def ab1{op:Int}(h:dm op=0):0<=op/\op<=3:=by
 unfold dm at h;split at h
 .omega
 .split at h
  .omega
  .split at h
   .omega
   .split at h<;>omega
def aaO{g:List Nx}{n:Nx}(h:ot g n=0):(dm n.op==(n.kids.length:Int)&&n.kids.all (fV g)&&jW n)=true:=by
 unfold ot at h;split at h
 .assumption
 .omega
def ab8{g:List Nx}{n:Nx}(q:∀j∈g,cv j.st=true)(k:n.kids.all (fV g)=true){i:Nat}(hi:i<n.kids.length):cv (cr g n i)=true:=by
 have d:=ff.1 k _ (List.getElem_mem hi);unfold fV at d;simp only[bH,decide_eq_true_eq]at d;unfold cr;rw[a' hi];dsimp only;have h:(n.kids[i]).toNat<g.length:=co
 rw[a' h];exact q _ (List.getElem_mem h)
def JD{w:J}{s:Sl}{l:List Nd}{d:Nd}(h:GP w s l)(hd:d.P w)(hg:zp (xs l))(T:qo d.x):
  ai V OT #[s.v,d.v] w λr N=>r=g0 (cK (xs l) d.x)/\af w N:=by
 have hn:=i4 h;have az:(xs l).length=l.length:=by simp[xs]
 have aE:d.ks.n=d.x.kids.length:=bx.len hd;have hl:=hg.len;have hk:=T.kl;rw[az]at hl;refine uP.aC ((x4 h hd).aH λak w1 H1=>H1.aH λI w2 W=>W.aA (Y8 (ch.1 (W.getD 0)) (W.getD 1) hk) ?_);rintro _ w3 rfl G;refine⟨_,rfl,dA (λae=>G.ah λy j=>⟨?_,j.fr⟩) (λh0=>?_)⟩
 .unfold cK;unfold ot at ae ⊢;split
  .rename_i q;rw[au q]at ae;exact absurd rfl ae
  .rename_i q;rw[jI]at q;rw[q];rfl
 have M:=aaO h0;have aw:dm d.x.op=(d.x.kids.length:Int):=by simp only[bH]at M;exact eq_of_beq M.1.1
 have an:d.x.kids.all (fV (xs l))=true:=by simp only[bH]at M;exact M.1.2
 have A:cK (xs l) d.x=if d.x.op<=3 then cQ (xs l) d.x else
   if dI d.x.op (cr (xs l) d.x 0) (cr (xs l) d.x 1) (cr (xs l) d.x 2)=false then(du,9)else
   if lf d.x (cr (xs l) d.x 0) (cr (xs l) d.x 1) (cr (xs l) d.x 2)=false then(du,5)else
   if d.x.op=33/\pd d.x.tx=false then(du,2)else(iu d.x (cr (xs l) d.x 0) (cr (xs l) d.x 1) (cr (xs l) d.x 2),0):=by unfold cK;rw[M];rfl
 refine aP (λax=>?_) (λax=>?_)
 .have hz:=ab1 (op:=d.x.op) co;refine G.aA (Zi (ch.1 (G.getD 0)) (G.getD 1) hl hz.1 hz.2 hg.vars) ?_;rintro _ y rfl j;refine⟨_,_,_,_,rfl,j.ah λU D=>⟨?_,D.fr⟩⟩;rw[A,au hz.2]
 have Q:=abZ (op:=d.x.op) aw co;rw[ag co]at A;unfold fH at hk hl;have loop:∀(m i:Nat) (E:Sl) (y:J),i+m=d.x.kids.length->LH F0 w y [.g ak,.g I,.row cF 3 E (((List.range i).map (cr (xs l) d.x)).flatMap g1)] (mR s l d)->
   uP.a6 s ak d.x.op d.ks d.x.n d.x.m d.x.u d.x.tx d.x.st.k d.x.st.n d.x.st.x I 0 0 0 E (i:Int) y λr N=>r=g0 (cK (xs l) d.x)/\af w N:=by
  intro m;induction m with
  |zero=>
   intro i E y hi j;have hi:i=d.x.kids.length:=co
   subst hi;have R4:bN 3 y E (((List.range d.x.kids.length).map (cr (xs l) d.x)).flatMap g1):=(j.get 2:aG _ _ _ _ _).bf;have F:∀B,B<d.x.kids.length->((List.range d.x.kids.length).map (cr (xs l) d.x))[B]? =some (cr (xs l) d.x B):=λB hj=>by rw[List.getElem?_map,List.getElem?_range hj];rfl
   have aj:∀B,B<d.x.kids.length->cv (cr (xs l) d.x B)=true:=λB hj=>ab8 hg.val an hj;refine uP.bD (aN (aW co) (j.aA (Y9 d.x.op R4 (F 0 co) (λh2=>F 1 co) (λh3=>F 2 co) Q.1 Q.2) ?_));rintro _ U rfl D;refine⟨_,rfl,eb (λab=>D.ah λw6 Y=>⟨by rw[A,au ab];rfl,Y.fr⟩) (λab=>?_)⟩;rw[ag (by rw[ab];simp)]at A;have R5:bN 3 U E (((List.range d.x.kids.length).map (cr (xs l) d.x)).flatMap g1):=(D.get 2:aG _ _ _ _ _).bf;refine D.aA (Zy d R5 (F 0 co) (λh2=>F 1 co) (λh3=>F 2 co) Q.1 Q.2 (aj 0 co) (λh2=>aj 1 co) (λh3=>aj 2 co) T.n T.m) ?_;rintro _ w6 ⟨t,b,rfl,K,ht⟩ Y;refine⟨_,_,_,_,rfl,Y.aH λaa w7 Z=>eb (λap=>Z.ah λC z=>⟨?_,z.fr⟩) (λam=>?_)⟩
   .rw [A,au (by rw[<-K,ap])];rfl
   rw[ag (by rw[<-K,am];simp)]at A;have ht:=ht am;have S1:∀(c:Bool) (C:J) (L:List En),(d.x.op=33/\pd d.x.tx=false↔c=false)->En.g I∈L->En.g aa∈L->LH F0 w C L (mR s l d)->uP.b3 I 0 0 0 aa t.k t.n t.x c C λr N=>r=g0 (cK (xs l) d.x)/\af w N:=by
    intro c C L q m4 aB z;have al:∀b∈[I,aa],En.g b∈L:=by
     intro b K;simp only[aq,aL,aO]at K;rcases K with rfl|rfl
     .exact m4
     .exact aB
    refine eb (λar=>z.ah (λw9 H=>⟨?_,H.fr⟩) al) (λav=>z.ah (λw9 H=>⟨?_,H.fr⟩) al)
    .rw [A,au (q.2 ar)];rfl
    .rw [A,ag (λh=>by rw[av]at q;cases q.1 h),ht]
   refine dA (λO=>Z.ah λC z=>S1 true C _ ⟨λh=>absurd h.1 O,λh=>by cases h⟩ ws ws z) (λO=>Z.ah λC z=>?_);have ao:=T.tx O;refine z.aA (YA d.x.tx ao.1 _ ao.can C) ?_;rintro _ w9 rfl H;exact⟨_,rfl,S1 _ w9 _ ⟨λh=>h.2,λh=>⟨O,h⟩⟩ ws ws H⟩
  |succ m ih=>
   intro i E y hi j;have S:d.x.kids[i]? =some (d.x.kids[i]'co):=a' co;have ad:=ff.1 an _ (aD S);generalize d.x.kids[i]'co=kx at S ad;unfold fV at ad;simp only[bH,decide_eq_true_eq]at ad;have ac:l[kx.toNat]? =some (l[kx.toNat]'co):=a' co;generalize l[kx.toNat]'co=e at ac;have ay:bx y d.ks d.x.kids:=j.getD 1;have aF:=Nd.cI (show bN 9 y s (l.flatMap Nd.c)from(ch.1 (j.getD 0)).1);refine uP.bD (aM (aR co) ⟨co,co,ay.cell S co λp hp q=>⟨kx,q,iM (ch.1 (j.getD 0)) (i:=kx.toNat) co ac λaI hq c=>⟨_,_,_,c.s0,c.s1,c.s2,?_⟩⟩⟩);have hlen:E.n=i:=by have:=(j.get 2:aG _ _ _ _ _).len;rw[Vm]at this;simp at this;omega
   refine j.iD 2 aao rfl (λs' U D=>?_) co;rw[bc _ co];refine ih (i+1) s' U co ?_;rw[aeG,ab3 S ac];exact D
 exact loop d.x.kids.length 0 ⟨none,0,0⟩ w3 co (G.fY cF 3)
def oh:g7 V Iw cP (.agg #[.int .i64 0,.slice none 0 0,.int .i64 0,.int .i64 0,.int .u64 0,.string (bn #[]),.int .i64 0,.int .i64 0,.int .i64 0]) 9 96:=⟨by kernel_rfl,by kernel_rfl,rfl,md,md⟩
def sK{l:List Nd}:∀u∈l.flatMap Nd.c,u.oneCell'=true:=by intro u d;obtain⟨h,_,d⟩:=cc.1 d;simp only[Nd.c,aq,aL,aO]at d;rcases d with rfl|rfl|rfl|rfl|rfl|rfl|rfl|rfl|rfl<;>rfl
def w6{w:J}{b n sz:Nat}{cs:List aa}{T:aE}(h:w.heap[b]? =some (.cells cs.toArray T (0,0)))(j:cs.length=n *sz):bN sz w ⟨some (ab b),n,n⟩ cs:=
 ⟨j,br _,⟨λh=>(by cases h),λi v d=>⟨ab b,rfl,cellAt (p:=ab b) h rfl (by simpa using d)⟩⟩⟩
def YU{w:J}{a b:Nd}(U:a.P w)(W:b.P w)(Q:a.x.kids.length<=fH):ai V OS #[a.v,b.v] w λr Z=>r=ae (.bool (av (a.x=b.x)))/\af w Z:=by
 have S:LH F0 w w [] [dt a,dt b]:=bK _ (by
  intro e O;simp only[aq,aL,aO]at O;rcases O with rfl|rfl
  .exact U
  .exact W)
 obtain⟨⟨op,D,n,m,u,I,st⟩,sl⟩:=a;obtain⟨⟨H,E,G,F,M,K,A⟩,Y⟩:=b;have no:∀{N:J} {L:List En},LH F0 w N L [dt ⟨⟨op,D,n,m,u,I,st⟩,sl⟩,dt ⟨⟨H,E,G,F,M,K,A⟩,Y⟩]->(⟨op,D,n,m,u,I,st⟩:Nx)≠⟨H,E,G,F,M,K,A⟩->(Ending.returned (.bool false)=ae (.bool (av ((⟨op,D,n,m,u,I,st⟩:Nx)=⟨H,E,G,F,M,K,A⟩)))/\af w N):=λB d=>⟨by rw[aW d],B.fr⟩;refine Ls.aC (S.aH λb2 N B=>B.aH λb3 w2 h=>?_);refine aP (λj=>?_) (λj=>no h (λd=>j (congrArg Nx.op d)));refine aP (λk=>?_) (λk=>no h (λd=>k (congrArg Nx.n d)));refine aP (λq=>?_) (λq=>no h (λd=>q (congrArg Nx.m d)));refine aP (λy=>?_) (λy=>no h (λd=>y (congrArg Nx.u d)));refine jH (λz=>?_) (λz=>no h (λd=>z (congrArg Nx.tx d)));refine oS (a:=st) (b:=A) (λC=>?_) (λC=>no h (λd=>C (congrArg Nx.st d)));refine h.aA (afo (h.getD 0) (h.getD 1) (by unfold fH at Q;simp only at Q ⊢;omega)) ?_;rintro _ w3 rfl T;refine⟨_,rfl,?_,T.fr⟩;simp only at j k q y z;subst j k q y z C;simp
def Nr{g:List Nx}{n:Nx}{s:bC}(h:cK g n=(s,0)):cK g (hv n s)=(s,0):=by
 unfold cK at h;unfold cK;have q:(dm (hv n s).op==((hv n s).kids.length:Int)&&(hv n s).kids.all (fV g)&&jW (hv n s))=(dm n.op==(n.kids.length:Int)&&n.kids.all (fV g)&&jW n):=rfl;rw[q];split at h
 .simp at h
 .rename_i w;rw[ag w];have k:(hv n s).op=n.op:=rfl;rw[k];split at h
  .rename_i j;rw[au j];unfold cQ at h;by_cases d:n.op=2
   .rw [au d]at h;unfold cQ;rw[k,au d];exact h
   .rw [ag d]at h;have x:s=n.st:=by
     split at h
     .simp at h
     .split at h
      .simp at h
      .split at h
       .simp at h
       .split at h
        .simp at h
        .split at h
         .simp at h
         .exact (congrArg Prod.fst h).symm
    have:hv n s=n:=by rw[x];rfl
    rw[this];unfold cQ;rw[ag d];exact h
  .rename_i j;rw[ag j];exact h
def py(g:List Nx)(n:Nx):Option Nat:=ie (if(cK g n).2=0 then hv n (cK g n).1 else n) g 0
def Sc:Option Nat->Int
 |some i=>(i:Int)
 |none=>-1
def YH{w:J}{s:Sl}{l:List Nd}{d:Nd}(h:GP w s l)(Y:d.P w)(S:zp (xs l))(ho:qo d.x)(Z:∀e∈l,e.x.kids.length<=fH):
  ai V OO #[s.v,d.v] w λr K=>r=ae (.i (Sc (py (xs l) d.x)))/\af w K:=by
 have hn:=i4 h;have aa:(xs l).length=l.length:=by simp[xs]
 have T:=S.len;rw[aa]at T;unfold fH at T;have loop:∀(m i:Nat) (j:Nat) (y:J) (e:Nd) (L:List En),e.ks=d.ks->e.x.kids=d.x.kids->i+m=l.length->ie e.x ((xs l).drop i) i=py (xs l) d.x->En.g j∈L->LH F0 w y L (mR s l d)->
   xI.cy s j e.x.op e.ks e.x.n e.x.m e.x.u e.x.tx e.x.st.k e.x.st.n e.x.st.x (i:Int) y λr K=>r=ae (.i (Sc (py (xs l) d.x)))/\af w K:=by
  intro m;induction m with
  |zero=>
   intro i j y e L G H hi z F q;rw[c9 co]at z;exact xI.dH (aN (aW co) ⟨by rw[<-z];rfl,q.fr⟩)
  |succ m ih=>
   intro i j y e L G H hi z F q;have A:l[i]? =some (l[i]'co):=a' co;have hx:(xs l).drop i=(l[i]'co).x::(xs l).drop (i+1):=by rw[dz (by omega:i<(xs l).length)];simp[xs]
   rw[hx]at z;generalize l[i]'co=a at A z;have W:∀b∈[j],En.g b∈L:=by simpa using F
   refine xI.dH (aM (aR co) (iM (ch.1 (q.getD 0)) rfl A λp hp _=>q.ah (λM D=>?_) W));have N:GP M s l:=ch.1 (D.getD 0);have c:=Ff N A hp (rfl:((i:Int))=(i:Int));have pe:e.P M:=by show bx M e.ks e.x.kids;rw[G,H];exact D.getD 1
   refine⟨_,_,_,_,_,_,_,_,_,c.c0,c.c1,c.c2,c.c3,c.c4,c.c5,c.c6,c.c7,c.c8,D.aA (YU (a:=a) (b:=e) (N.2 a (aD A)) pe (Z a (aD A))) ?_⟩;rintro _ w6 rfl Q;have B:(if a.x=e.x then some i else ie e.x ((xs l).drop (i+1)) (i+1))=py (xs l) d.x:=z;refine⟨_,rfl,aF (λI=>⟨?_,Q.fr⟩) (λI=>?_)⟩
   .rw [au I]at B;rw[<-B];rfl
   .rw [ag I]at B;rw[bc _ co];exact ih (i+1) j w6 e L G H co B F Q
 refine xI.aC ((x4 h Y).aH λj w1 C=>C.aA (JD (ch.1 (C.getD 0)) (C.getD 1) S ho) ?_);rintro _ w2 rfl U;refine⟨_,_,_,_,rfl,U.aH λb5 w3 O=>aP (λE=>O.ah λy q=>?_) (λE=>O.ah λy q=>?_)⟩
 .exact loop l.length 0 j y ⟨hv d.x (cK (xs l) d.x).1,d.ks⟩ _ rfl rfl co (by unfold py;rw[au E];rfl) ws q
 .exact loop l.length 0 j y d _ rfl rfl co (by unfold py;rw[ag E];rfl) ws q
structure GR(w:J)(B:Nat->Prop)(g:List Nx)(s:Sl)(Y:J):Prop where
 ex:∃l':List Nd,xs l'=g/\GP Y s l'/\∀b∈(En.gr s l').fp,B b\/w.heap.size<=b
def GR.nil(w:J)(B:Nat->Prop)(Y:J):GR w B [] ⟨none,0,0⟩ Y:=⟨⟨[],rfl,⟨bN.nil 9 Y,ws⟩,λb h=>by
 rcases ov.1 h with d|⟨k,j,_⟩
 .cases d
 .cases j⟩⟩
def Zp{w:J}{s:Sl}{l:List Nd}{d:Nd}(h:GP w s l)(hd:d.P w)(O:zp (xs l))(F:qo d.x)(al:∀e∈l,e.x.kids.length<=fH):
  ai V OK #[s.v,d.v] w λr w'=>(∃s':Sl,r=ae (.tuple #[s'.v,.i (hR (xs l) d.x).2.1,.i (hR (xs l) d.x).2.2])/\GR w (λb=>b∈(En.gr s l).fp\/b∈(dt d).fp) (hR (xs l) d.x).1 s' w')/\af w w':=by
 have hn:=i4 h;have aa:(xs l).length=l.length:=by simp[xs]
 refine Ll.aC ((x4 h hd).aH λb3 w1 K=>K.aA (JD (ch.1 (K.getD 0)) (K.getD 1) O F) ?_);rintro _ w2 rfl H2;refine⟨_,_,_,_,rfl,H2.aH λb7 w3 W=>dA (λI=>W.ah λw4 C=>⟨⟨⟨none,0,0⟩,?_,?_⟩,C.fr⟩) (λI=>W.ah λw4 C=>?_)⟩
 .unfold hR;rw[au I]
 .unfold hR;rw[au I];exact GR.nil _ _ _
 have hs:cK (xs l) d.x=((cK (xs l) d.x).1,0):=by rw[<-I]
 have ap:=Nr hs;have am:py (xs l) (hv d.x (cK (xs l) d.x).1)=ie (hv d.x (cK (xs l) d.x).1) (xs l) 0:=by unfold py;rw[ap];rfl
 have k:hR (xs l) d.x=match ie (hv d.x (cK (xs l) d.x).1) (xs l) 0 with
   |some i=>(xs l,(i:Int),0)
   |none=>if 4096<=(xs l).length then([],0,4)else(xs l++[hv d.x (cK (xs l) d.x).1],((xs l).length:Int),0):=by unfold hR;rw[ag co];try rfl
 generalize ar:(cK (xs l) d.x).1=sr at *
 let e:Nd:=⟨hv d.x sr,d.ks⟩
 have an:qo e.x:=⟨F.kl,F.n,F.m,F.tx⟩;refine C.aA (YH (d:=e) (ch.1 (C.getD 0)) (C.getD 1) O an al) ?_;rintro _ w5 rfl D;rw[show py (xs l) e.x=ie (hv d.x sr) (xs l) 0 from am];refine⟨_,rfl,?_⟩;cases Y:ie (hv d.x sr) (xs l) 0 with
 |some i=>
  rw[Y]at k;rw[k];exact aM (aR (Int.natCast_nonneg i)) ⟨⟨s,rfl,⟨l,rfl,ch.1 (D.getD 0),λb B=>.inl (.inl B)⟩⟩,D.fr⟩
 |none=>
  rw[Y]at k;dsimp only at k;refine aN md ?_;refine aF (λh4=>⟨⟨⟨none,0,0⟩,?_,?_⟩,D.fr⟩) (λh4=>?_)
  .rw [k,au co]
  .rw [k,au co];exact GR.nil _ _ _
  rw[ag co]at k;rw[k];have N:∀{q:J} {L:List En},LH F0 w q L (mR s l d)->bN 9 q s (l.flatMap Nd.c):=λaj=>(ch.1 (aj.getD 0)).1;have fin:∀(s':Sl) (q:J) (L:List En) (j:Nat),LH F0 w q L (mR s l d)->L[j]? =some (.row cP 9 s' (l.flatMap Nd.c++e.c))->
    (∃ad:Sl,Ending.returned (.tuple #[s'.v,.i (s.n:Int),.i 0])=ae (.tuple #[ad.v,.i ((xs l).length:Int),.i 0])/\GR w (λb=>b∈(En.gr s l).fp\/b∈(dt d).fp) (xs l++[hv d.x sr]) ad q)/\af w q:=by
   intro s' q L j y Z;have ao:bN 9 q s' ((l++[e]).flatMap Nd.c):=by have:aG q cP 9 s' (l.flatMap Nd.c++e.c):=y.get j Z;have:=this.bf;simpa using this
   refine⟨⟨s',by rw[aa,hn],⟨l++[e],by simp[xs,e],⟨ao,λa k=>?_⟩,λb B=>?_⟩⟩,y.fr⟩
   .rcases aX.1 k with k|k
    .exact (ch.1 (y.getD 0)).2 a k
    .simp only[aq,aL,aO]at k;subst k;exact y.getD 1
   .rcases ov.1 B with B|⟨a,k,B⟩
    .right;have ak:b∈(En.row cP 9 s' (l.flatMap Nd.c++e.c)).fp:=by
      have:b∈(if(l++[e]).flatMap Nd.c=[]then[]else az s'):=B;split at this
      .cases this
      .exact this
     exact(y.new _ (aD Z) b ak).resolve_right id
    .rcases aX.1 k with k|k
     .exact .inl (.inl (ov.2 (.inr ⟨a,k,B⟩)))
     .simp only[aq,aL,aO]at k;subst k;exact .inl (.inr B)
  have ac:∀u∈e.c,u.oneCell'=true:=λu hu=>sK (l:=[e]) u (by simpa using hu);have hl:=O.len;rw[aa]at hl;unfold fH at hl;refine⟨D.ah λq y=>y.cZ (n:=0) (sz:=9) (cs:=[]) rfl md λS E=>⟨?_,?_⟩,D.ah λq y=>y.nw λS _ E=>E.cZ (n:=0) (sz:=9) (cs:=[]) rfl md λw8 A=>?_⟩
  .refine E.dp 2 oh (s:=⟨some (ab q.heap.size),0,0⟩) (src:=s) rfl (N E) sK (by simp only;omega) (λs1 w8 A=>?_);have G:=(A.get 2:aG _ _ _ _ _).len;rw[lY,Nd.e1]at G;refine A.iD 2 oh rfl (λH U z=>?_) co;exact fin H U _ 2 z rfl
  .refine E.nw λw8 _ A=>?_;refine A.dp 2 oh (s:=⟨some (ab q.heap.size),0,0⟩) (src:=s) rfl (N A) sK (by simp only;omega) (λs1 U z=>?_);have G:=(z.get 2:aG _ _ _ _ _).len;rw[lY,Nd.e1]at G;refine z.dp 2 oh (src:=⟨some (ab S.heap.size),1,1⟩) rfl (w6 (cs:=e.c) (T:=cP) (z.ob 3) rfl) ac (by simp only;omega) (λH Q M=>?_);exact fin H Q _ 2 M rfl
  .refine A.dp 3 oh (s:=⟨some (ab S.heap.size),0,0⟩) (src:=s) rfl (N A) sK (by simp only;omega) (λs1 U z=>?_);have G:=(z.get 3:aG _ _ _ _ _).len;rw[lY,Nd.e1]at G;refine z.dp 3 oh (src:=⟨some (ab q.heap.size),1,1⟩) rfl (w6 (cs:=e.c) (T:=cP) (z.ob 2) rfl) ac (by simp only;omega) (λH Q M=>?_);exact fin H Q _ 3 M rfl
def ko(n m:Int)(w:J)(j:1<=m)(h:aY n):ai V vb #[.i n,.i m] w λr d=>r=ae (.i (hB n m))/\af w d:=(Dz n m w j h).mono λr d h=>⟨h.1,h.2▸Fr.refl _ _⟩
def tv(t:List UInt8)(s:bC):Nx:=⟨0,[],0,0,0,ba t,s⟩
def m7(t:List UInt8)(s:bC):Nd:=⟨tv t s,⟨none,0,0⟩⟩
def rk:List Nd:=[m7 [97] (bP 2),m7 [98] (bP 2),m7 [99] (bP 1),m7 [100] (bP 3)]
def rl:List Nd:=[m7 [109] ⟨2,2,1⟩,m7 [110] ⟨2,2,1⟩]
def nM:List Nd:=[m7 [115] (fv 2),m7 [116] (fv 1),m7 [105] (bP 7),m7 [122] ⟨3,1,1⟩]
def g2(kind:Int):List Nd:=rk++(if kind>0 then rl else[])++(if kind>1 then nM else[])
def vgB(l:List Nx):Bool:=(List.range l.length).all λi=>match l[i]? with
 |some n=>av (cK (l.take i) n=(n.st,0))&&av (n∉l.take i)
 |none=>false
def Ci{l:List Nx}(h:vgB l=true):Vg l:=by
 have main:∀i,i<=l.length->Vg (l.take i):=by
  intro i;induction i with
  |zero=>intro _;rw[List.take_zero];exact .nil
  |succ i k=>
   intro q;have d:=ff.1 h i (List.mem_range.2 co);have j:l[i]? =some (l[i]'co):=a' co;rw[j]at d;dsimp only at d;rw[dV,j];simp only[bH,decide_eq_true_eq]at d;exact .snoc (k co) d.1 d.2
 have:=main l.length (br _)
 rwa[Hf]at this
def af0(kind:Int):Vg (xs (g2 kind)):=by
 unfold g2;split
 .split
  .exact Ci (by kernel_rfl)
  .exact Ci (by kernel_rfl)
 .split
  .exact Ci (by kernel_rfl)
  .exact Ci (by kernel_rfl)
structure MdN(d:Nx):Prop where
 GW:-1<=d.op
 GX:d.op<=34
 kl:d.kids.length<=3
 n:0<=d.n/\d.n<=100
 m:0<=d.m/\d.m<=100
 u:0<=d.u/\d.u<=1000
 tx:d.op≠33->d.tx.size<=16
 re:d.op=33->∃k,d.tx=ba (m4 k)
structure iU(g:List Nx):Prop where
 vg:Vg g
 nd:∀d∈g,MdN d
def afZ(kind:Int):iU (xs (g2 kind)):=by
 refine⟨af0 kind,λj q=>?_⟩;have h:∃t s,j=tv t s/\t.length<=16:=by
  have k:j∈xs (rk++rl++nM):=by
   obtain⟨a,d,rfl⟩:=bS.1 q;refine bS.2 ⟨a,?_,rfl⟩;unfold g2 at d;rcases aX.1 d with d|d
   .rcases aX.1 d with d|d
    .simp [d]
    .split at d
     .simp [d]
     .cases d
   .split at d
    .simp [d]
    .cases d
  simp only[xs,rk,rl,nM,m7,je,lY,jf,List.map_nil,aq,aL,aO]at k;rcases k with rfl|rfl|rfl|rfl|rfl|rfl|rfl|rfl|rfl|rfl<;>exact⟨_,_,rfl,md⟩
 obtain⟨t,s,rfl,w⟩:=h;exact⟨by show(-1:Int)<=0;omega,by show(0:Int)<=34;omega,by simp[tv],by simp[tv],by simp[tv],by simp[tv],λ_=>by show(ba t).size<=16;rw[bU];exact w,λh=>by cases h⟩
def Vv{kind:Int}:∀h∈g2 kind,h.x.kids=[]/\h.ks=⟨none,0,0⟩:=by
 intro h k;have j:h∈rk++rl++nM:=by
  unfold g2 at k;rcases aX.1 k with d|d
  .rcases aX.1 d with d|d
   .simp [d]
   .split at d
    .simp [d]
    .cases d
  .split at d
   .simp [d]
   .cases d
 simp only[rk,rl,nM,m7,tv,je,lY,aq,aL,aO]at j;rcases j with rfl|rfl|rfl|rfl|rfl|rfl|rfl|rfl|rfl|rfl<;>exact⟨rfl,rfl⟩
def afX{kind:Int}{w w0:J}{s:Sl}(h:bN 9 w s ((g2 kind).flatMap Nd.c))(z:∀b∈az s,w0.heap.size<=b):GR w0 F0 (xs (g2 kind)) s w:=by
 refine⟨g2 kind,rfl,⟨h,λj q=>?_⟩,λb d=>.inr ?_⟩
 .obtain ⟨k,y⟩:=Vv j q;show bx w j.ks j.x.kids;rw[k,y];exact Rd.nil w
 .rcases ov.1 d with d|⟨j,q,d⟩
  .exact sZ z b d
  .obtain ⟨k,y⟩:=Vv j q;unfold dt at d;rw[k]at d;cases d
def afY(kind:Int):1<=(g2 kind).length/\(g2 kind).length<=10:=by unfold g2;split<;>split<;>decide
def ZA(kind:Int)(w:J):ai V O2 #[.i kind] w λr x=>(∃s:Sl,r=ae s.v/\GR w F0 (xs (g2 kind)) s x)/\af w x:=by
 refine EI.ok ((bK [] ws).call (fR 2 w) ?_);rintro _ Z rfl N;refine⟨_,_,_,rfl,N.call (fR 2 Z) ?_⟩;rintro _ w2 rfl P;refine⟨_,_,_,rfl,P.call (fR 1 w2) ?_⟩;rintro _ w3 rfl Q;refine⟨_,_,_,rfl,Q.call (fR 3 w3) ?_⟩;rintro _ M rfl S;refine⟨_,_,_,rfl,S.cZ (n:=4) (sz:=9) (cs:=rk.flatMap Nd.c) rfl md λF H=>?_⟩;have fin:∀(l:Sl) (d:J) (L:List En) (j:Nat),LH F0 w d L []->L[j]? =some (.row cP 9 l ((g2 kind).flatMap Nd.c))->(∃s:Sl,Ending.returned l.v=ae s.v/\GR w F0 (xs (g2 kind)) s d)/\af w d:=λl d L j h k=>
  ⟨⟨l,rfl,afX (h.get j k:aG _ _ _ _ _).bf λb W=>(h.new _ (aD k) b W).resolve_right id⟩,h.fr⟩
 have I:∀(l:Sl) (d:J) (L:List En) (j:Nat) (ds:List Nd),LH F0 w d L []->ds.length<=6->g2 kind=ds++(if kind>1 then nM else[])->L[j]? =some (.row cP 9 l (ds.flatMap Nd.c))->EI.S0 kind l d λr x=>(∃s:Sl,r=ae s.v/\GR w F0 (xs (g2 kind)) s x)/\af w x:=by
  intro l d L j ds h ad z k;refine aF (λD=>?_) (λD=>?_)
  .rw [au D]at z;refine h.call (pc 2 d) ?_;rintro _ G rfl B;refine⟨_,_,_,rfl,B.call (pc 1 G) ?_⟩;rintro _ w8 rfl T;refine⟨_,_,_,rfl,T.call (fR 7 w8) ?_⟩;rintro _ y rfl U;refine⟨_,_,_,rfl,U.cZ (n:=4) (sz:=9) (cs:=nM.flatMap Nd.c) rfl md λaa A=>?_⟩;have K:(L++[En.row cP 9 ⟨some (ab y.heap.size),4,4⟩ (nM.flatMap Nd.c)])[j]? =some (.row cP 9 l (ds.flatMap Nd.c)):=by rw[List.getElem?_append_left (cX.1 k).1];exact k
   have Y:(L++[En.row cP 9 ⟨some (ab y.heap.size),4,4⟩ (nM.flatMap Nd.c)])[L.length]? =some (.row cP 9 ⟨some (ab y.heap.size),4,4⟩ (nM.flatMap Nd.c)):=ws
   have hn:l.n=ds.length:=by have:=(A.get j K:aG _ _ _ _ _).len;rw[Nd.e1]at this;omega
   have q:bN 9 aa ⟨some (ab y.heap.size),4,4⟩ (nM.flatMap Nd.c):=(A.get L.length Y:aG _ _ _ _ _).bf;refine A.ap j oh (src:=⟨some (ab y.heap.size),4,4⟩) K q.2.2 q.1 sK (by simp only;omega) (λE ac O _ _=>?_);refine fin E ac _ j O ?_;rw[List.getElem?_set_self (by simp;have:=(cX.1 k).1;omega),z,cW]
  .rw [ag D,dy]at z;rw[<-z]at k;exact fin l d L j h k
 refine aF (λC=>H.cZ (n:=2) (sz:=9) (cs:=rl.flatMap Nd.c) rfl md λd h=>?_) (λC=>?_)
 .have q:bN 9 d ⟨some (ab F.heap.size),2,2⟩ (rl.flatMap Nd.c):=(h.get 1:aG _ _ _ _ _).bf;refine h.ap 0 oh (s:=⟨some (ab M.heap.size),4,4⟩) (src:=⟨some (ab F.heap.size),2,2⟩) rfl q.2.2 q.1 sK (by show(4+2) *96<=_;omega) (λE G B _ _=>?_);refine I E G _ 0 (rk++rl) B md ?_ ?_
  .unfold g2;rw[au C]
  .rw [cW];rfl
 .refine I ⟨some (ab M.heap.size),4,4⟩ F _ 0 rk H md ?_ rfl;unfold g2;rw[ag C,dy]
def ZE(kind:Int)(s:bC)(w:J):ai V O4 #[.i kind,ei s] w λr j=>(∃b:Bool,r=ae (.bool b))/\af w j:=
 Lw.aC ((bK [] ws).aH λb k h=>aP (λd=>⟨⟨_,rfl⟩,h.fr⟩) (λd=>aF (λd=>aP (λd=>⟨⟨_,rfl⟩,h.fr⟩) (λd=>⟨⟨_,rfl⟩,h.fr⟩)) (λd=>⟨⟨_,rfl⟩,h.fr⟩)))
def J4{w:J}{s:Sl}{l:List Nd}(h:GP w s l)(I:∀(i:Nat) (d:Nd),l[i]? =some d->d.x.kids.length<=1000000/\∀y∈d.x.kids,0<=y/\y<(i:Int)):∀(n i:Nat),i<n->i<l.length->∀C,af w C->ai V O1 #[s.v,.i (i:Int)] C λr F=>(∃z:Int,r=ae (.i z))/\af w F
 |0,i,H,_,_,_=>absurd H co
 |n+1,i,H,E,C,N=>by
  have B:∀{k:J},af w k->GP k s l:=λf=>⟨h.1.bz f,λd Q=>(dt d).st w _ (λb hb T=>f.cB b T id) (h.2 d Q)⟩;have A:l[i]? =some (l[i]'E):=a' E;generalize l[i]'E=d at A;obtain⟨k1,Z⟩:=I i d A;have loop:∀(m j:Nat) (z:Int) (k:J),j+m=d.x.kids.length->af w k->uQ.L0 s (i:Int) z (j:Int) k λr F=>(∃z:Int,r=ae (.i z))/\af w F:=by
   intro m;induction m with
   |zero=>
    intro j z k S q;have U:d.ks.n=d.x.kids.length:=bx.len ((B q).2 d (aD A));exact uQ.bE (iM (B q) rfl A λp W c=>⟨_,c.c1,aN (aW co) ⟨⟨_,rfl⟩,q⟩⟩)
   |succ m Y=>
    intro j z k S q;have G:bx k d.ks d.x.kids:=(B q).2 d (aD A);have U:=bx.len G;have D:d.x.kids[j]? =some (d.x.kids[j]'co):=a' co;generalize d.x.kids[j]'co=y at D;have aa:=Z y (aD D);refine uQ.bE (iM (B q) rfl A λp W c=>⟨_,c.c1,aM (aR co) (iM (B q) rfl A λp' ab L=>⟨_,L.c1,co,co,G.cell D co λac hq P=>⟨y,P,?_⟩⟩)⟩);have M:y=(y.toNat:Int):=co
    rw[M];refine(J4 h I n y.toNat co co k q).mono ?_;rintro _ K ⟨⟨z3,rfl⟩,O⟩;refine⟨_,rfl,?_⟩;show uQ.L0 s (i:Int) _ (aj .i64 ((j:Int)+1)) K _;rw[bc _ co];exact Y (j+1) _ K co O
  exact uQ.ok (loop d.x.kids.length 0 1 C co N)
set_option maxHeartbeats 2000000
def ag'{P:Program}{n:Cx}{c:Code}{Q:Exit->Act->J->Prop}{E E':Env}{w:J}(h:∀t v,E'.get? t=some v->E.get? t=some v)(k:WP P n c Q E' w):WP P n c Q E w:=λa d=>k a ⟨d.defers,d.size,λt v j=>d.get t v (h t v j)⟩
def agh{E:Env}{i j:Nat}{a b:aa}(q:E.get? i=some a)(w:E.get? j=some b):∀t v,Env.get? [(i,a),(j,b)] t=some v->E.get? t=some v:=by
 intro t v d;unfold Env.get? at d;cases h:cm i t with
 |true=>
  rw[h]at d;have:=Nat.eq_of_beq_eq_true h
  grind
 |false=>
  rw[h]at d;have d:Env.get? [(j,b)] t=some v:=d;unfold Env.get? at d;cases k:cm j t with
  |true=>
   rw[k]at d;have:=Nat.eq_of_beq_eq_true k
   grind
  |false=>rw[k]at d;cases d
namespace xz
abbrev T9(s:Sl)(k:Int)(w:J)(R:aK):Prop:=
 (0:Int)<=(cw (aj .i64 (bQ k 216)) 8)/\(cw (aj .i64 (bQ k 216)) 8)<(s.n:Int)/\eh s.a λp=>gC w (p.add (a0 (cw (aj .i64 (bQ k 216)) 8) *4)) λa b c d=>zS yd #[.agg #[.i a,.int .u8 b,.int .u8 c,d.v]] w λe f g i h=>J8 qS #[.agg #[.i e,.int .u8 f,.int .u8 g,i.v],.i 0] h λt j=>R (ae (.string t)) j
def K9(R:aK)(E:Env)(w:J):Prop:=∃(s:Sl) (k:Int),E.get? 9=some s.v/\E.get? 3=some (.i k)/\T9 s k w R
noncomputable def C0:Code:=(Tryz.f71.body).getD .skip
noncomputable def C1:=C0.sn
noncomputable def C2:=C1.sn
noncomputable def C3:=C2.sn
noncomputable def C4:=C3.sn
noncomputable def C5:=C4.sn
noncomputable def C6:=C5.sn
noncomputable def C7:=C6.sn
noncomputable def C8:=C7.sn
noncomputable def C9:=C8.sn
def ok(q:Int)(w:J)(R:aK)(h:r0 vb #[.i q,.i 1048576] w λt11 w1=>zS pD #[] w1 λC D F G j=>dG j (.cells #[.i 2,.int .u8 97,.int .u8 97,.slice none 0 0,.i 2,.int .u8 98,.int .u8 98,.slice none 0 0,.i 2,.int .u8 0,.int .u8 0,.slice none 0 0,.i 2,.int .u8 97,.int .u8 98,.slice none 0 0,.i 1,.int .u8 0,.int .u8 0,.slice none 0 0,.i C,.int .u8 D,.int .u8 F,G.v] aV) λy=>
 (0:Int)<=(cw t11 6)/\(cw t11 6)<((6:Nat):Int)/\eh (some (nb j)) λH=>gC y (H.add (a0 (cw t11 6) *4)) λI K L M=>dG y (.cells #[.i 0,.int .u8 0,.int .u8 0,.slice none 0 0] aV) λw4=>
 mi w4 (nb y) (.i I) (.int .u8 K) (.int .u8 L) (M.v) λA=>(0:Int)<=(cw (aj .i64 (bQ t11 6)) 6)/\(cw (aj .i64 (bQ t11 6)) 6)<((6:Nat):Int)/\eh (some (nb j)) λN=>gC A (N.add (a0 (cw (aj .i64 (bQ t11 6)) 6) *4)) λO P Q S=>dG A (.cells #[.i 0,.int .u8 0,.int .u8 0,.slice none 0 0] aV) λw9=>
 mi w9 (nb A) (.i O) (.int .u8 P) (.int .u8 Q) (S.v) λz=>(0:Int)<=(cw (aj .i64 (bQ t11 36)) 6)/\(cw (aj .i64 (bQ t11 36)) 6)<((6:Nat):Int)/\eh (some (nb j)) λT=>gC z (T.add (a0 (cw (aj .i64 (bQ t11 36)) 6) *4)) λU W Y Z=>dG z (.cells #[.i 0,.int .u8 0,.int .u8 0,.slice none 0 0] aV) λaf=>
 mi af (nb z) (.i U) (.int .u8 W) (.int .u8 Y) (Z.v) λx=>gC x (nb y) λaa ab ac ad=>dG x (.cells #[.i aa,.int .u8 ab,.int .u8 ac,ad.v] aV) λB=>
 dG B (.cells #[.i 0,.int .u8 0,.int .u8 0,.slice none 0 0] aV) λag=>
 mi ag (nb B) (.i 7) (.int .u8 0) (.int .u8 0) (.slice (some (nb x)) 1 1) λah=>yP V C7 (K9 R) [(8,.pointer (some (nb B))),(38,.agg #[.i 7,.int .u8 0,.int .u8 0,.slice (some (nb x)) 1 1]),(37,.slice (some (nb x)) 1 1),(36,.agg #[.i aa,.int .u8 ab,.int .u8 ac,ad.v]),(7,.pointer (some (nb z))),(35,.agg #[.i U,.int .u8 W,.int .u8 Y,Z.v]),(34,.pointer (some (T.add (a0 (cw (aj .i64 (bQ t11 36)) 6) *4)))),(33,.i (cw (aj .i64 (bQ t11 36)) 6)),(32,.i (aj .i64 (bQ t11 36))),(31,.i t11),(30,.slice (some (nb j)) 6 6),(6,.pointer (some (nb A))),(29,.agg #[.i O,.int .u8 P,.int .u8 Q,S.v]),(28,.pointer (some (N.add (a0 (cw (aj .i64 (bQ t11 6)) 6) *4)))),(27,.i (cw (aj .i64 (bQ t11 6)) 6)),(26,.i (aj .i64 (bQ t11 6))),(25,.i t11),(24,.slice (some (nb j)) 6 6),(5,.pointer (some (nb y))),(23,.agg #[.i I,.int .u8 K,.int .u8 L,M.v]),(22,.pointer (some (H.add (a0 (cw t11 6) *4)))),(21,.i (cw t11 6)),(20,.i t11),(19,.slice (some (nb j)) 6 6),(4,.slice (some (nb j)) 6 6),(18,.slice (some (nb j)) 6 6),(17,.agg #[.i C,.int .u8 D,.int .u8 F,G.v]),(16,.agg #[.i 1,.int .u8 0,.int .u8 0,.slice none 0 0]),(15,.agg #[.i 2,.int .u8 97,.int .u8 98,.slice none 0 0]),(14,.agg #[.i 2,.int .u8 0,.int .u8 0,.slice none 0 0]),(13,.agg #[.i 2,.int .u8 98,.int .u8 98,.slice none 0 0]),(12,.agg #[.i 2,.int .u8 97,.int .u8 97,.slice none 0 0]),(3,.i t11),(11,.i t11),(10,.i q),(2,.s0),(0,.i q)] ah):ai V Oo #[.i q] w R:=
 xc (R:=R) (fn:=Tryz.f71) (c:=C0) (args:=[.i q]) (by kernel_rfl) (by kernel_rfl) (by kernel_rfl) (sr C0 (show(λ(E:Env) (w:J)=>ed V C0 (λE w=>ed V C1 (λE w=>ed V C2 (λE w=>ed V C3 (λE w=>ed V C4 (λE w=>ed V C5 (λE w=>ed V C6 (λE w=>yP V C7 (K9 R) E w) E w) E w) E w) E w) E w) E w) E w) (kV 0 [.i q]) w from mp h) λ_ _ d=>(sr C1 d λ_ _ d=>(sr C2 d λ_ _ d=>(sr C3 d λ_ _ d=>(sr C4 d λ_ _ d=>(sr C5 d λ_ _ d=>(sr C6 d λ_ _ d=>(si C7 (by kernel_rfl) d λ_ _ d=>(let ⟨s,k,h9,h3,h⟩:=d;ag' (E':=[(9,s.v),(3,.i k)]) (agh h9 h3) (sr C8 (show ed V C8 (λE w=>me V Tryz.f71 E w (λv=>R (ae v) w)) [(9,s.v),(3,.i k)] _ from mp h) λ_ _ d=>(rt C9 λa hA=>yF hA d)))))))))))
end xz
inductive wU where
 |tr (x:Rx)
 |ls (l:List Rx)
def xZ(base:Nat)(w:J)(v:Option aa):wU->Prop
 |.tr d=>∃t:I,v=some t.v/\t.rx=d/\t.P w/\∀b∈t.fp,base<=b
 |.ls l=>∃(s:Sl) (O:List I),v=some s.v/\I.aw O=l/\(bZ s O).P w/\∀b∈(bZ s O).fp,base<=b
def xZ.bz{base:Nat}{w Y:J}{v:Option aa}{x:wU}(h:xZ base w v x)(f:af w Y):xZ base Y v x:=by
 cases x with
 |tr z=>obtain⟨t,d,j,k,q⟩:=h;exact⟨t,d,j,k.bz f,q⟩
 |ls l=>obtain⟨s,y,d,j,k,q⟩:=h;exact⟨s,y,d,j,k.bz f,q⟩
def dR(i:Nat):Nat:=if i=40 then 9 else 39+i
def j'(base:Nat)(w:J)(E:Env)(t:Nat)(x:Rx):Prop:=∃(b:Nat) (u:I),E.get? t=some (.pointer (some (ab b)))/\w.heap[b]? =some (.cells u.c.toArray aV (0,0))/\u.rx=x/\u.P w/\∀c∈u.fp,base<=c
def j'.bz{base:Nat}{w Y:J}{E:Env}{t:Nat}{x:Rx}(h:j' base w E t x)(f:af w Y):j' base Y E t x:=by obtain⟨b,u,j,d,k,q,y⟩:=h;exact⟨b,u,j,(f.cB b (lt_of_heap d) id).trans d,k,q.bz f,y⟩
def j'.put{base:Nat}{w:J}{E:Env}{t d:Nat}{v:aa}{x:Rx}(h:j' base w E t x)(q:d≠t):j' base w (E.put (some d) v) t x:=by obtain⟨b,u,j,k⟩:=h;exact⟨b,u,by rw[ic q];exact j,k⟩
section
variable (w0:J) (base:Nat) (kk:Int) (Xa Xb Xc Xs:Rx)
def ec:List wU:=[.tr Xa,
 .tr Xa,
 .tr Xb,
 .ls [Xa,Xb],
 .tr (.mk 3 0 0 [Xa,Xb]),
 .tr Xa,
 .tr Xb,
 .tr Xc,
 .ls [Xa,Xb,Xc],
 .tr (.mk 4 0 0 [Xa,Xb,Xc]),
 .tr Xs,
 .tr Xs,
 .tr Xb,
 .ls [Xs,Xb],
 .tr (.mk 3 0 0 [Xs,Xb]),
 .tr Xa,
 .tr Xb,
 .ls [Xa,Xb],
 .tr (.mk 3 0 0 [Xa,Xb]),
 .ls [(.mk 3 0 0 [Xa,Xb])],
 .tr (.mk 6 0 0 [(.mk 3 0 0 [Xa,Xb])]),
 .tr Xb,
 .tr Xa,
 .tr Xc,
 .ls [Xa,Xc],
 .tr (.mk 4 0 0 [Xa,Xc]),
 .ls [(.mk 4 0 0 [Xa,Xc])],
 .tr (.mk 7 0 0 [(.mk 4 0 0 [Xa,Xc])]),
 .ls [Xb,(.mk 7 0 0 [(.mk 4 0 0 [Xa,Xc])])],
 .tr (.mk 3 0 0 [Xb,(.mk 7 0 0 [(.mk 4 0 0 [Xa,Xc])])]),
 .tr Xb,
 .ls [Xb],
 .tr (.mk 6 0 0 [Xb]),
 .tr Xa,
 .tr e2,
 .ls [Xa,e2],
 .tr (.mk 3 0 0 [Xa,e2]),
 .ls [(.mk 6 0 0 [Xb]),(.mk 3 0 0 [Xa,e2])],
 .tr (.mk 5 0 0 [(.mk 6 0 0 [Xb]),(.mk 3 0 0 [Xa,e2])]),
 .ls [Xa,(.mk 3 0 0 [Xa,Xb]),(.mk 4 0 0 [Xa,Xb,Xc]),Xs,(.mk 3 0 0 [Xs,Xb]),(.mk 6 0 0 [(.mk 3 0 0 [Xa,Xb])]),(.mk 3 0 0 [Xb,(.mk 7 0 0 [(.mk 4 0 0 [Xa,Xc])])]),(.mk 5 0 0 [(.mk 6 0 0 [Xb]),(.mk 3 0 0 [Xa,e2])])],
 .ls [Xa,(.mk 3 0 0 [Xa,Xb]),(.mk 4 0 0 [Xa,Xb,Xc]),Xs,(.mk 3 0 0 [Xs,Xb]),(.mk 6 0 0 [(.mk 3 0 0 [Xa,Xb])]),(.mk 3 0 0 [Xb,(.mk 7 0 0 [(.mk 4 0 0 [Xa,Xc])])]),(.mk 5 0 0 [(.mk 6 0 0 [Xb]),(.mk 3 0 0 [Xa,e2])])]]
structure JT(L:Nat->Bool)(E:Env)(w:J):Prop where
 fr:af w0 w
 k:E.get? 3=some (.i kk)
 a:j' base w E 5 Xa
 b:j' base w E 6 Xb
 c:j' base w E 7 Xc
 s:j' base w E 8 Xs
 all:∀(i:Nat) (sp:wU),(ec Xa Xb Xc Xs)[i]? =some sp->L i=true->xZ base w (E.get? (dR i)) sp
variable {w0 base kk Xa Xb Xc Xs}
def JT.step{L:Nat->Bool}{E:Env}{w Y:J}(j:JT w0 base kk Xa Xb Xc Xs L E w)(f:af w Y){i d:Nat}(y:d=dR i){v:aa}{B:wU}(A:(ec Xa Xb Xc Xs)[i]? =some B)(h:xZ base Y (some v) B):JT w0 base kk Xa Xb Xc Xs (dL L i) (E.put (some d) v) Y:=by
 have H:9<=d:=by rw[y];unfold dR;grind
 refine⟨j.fr.dO f,by rw[ic co];exact j.k,(j.a.bz f).put co,(j.b.bz f).put co,(j.c.bz f).put co,(j.s.bz f).put co,λq sq x G=>?_⟩;by_cases z:q=i
 .subst z;rw[A]at x;cases x;rw[<-y,px];exact h
 .have C:d≠dR q:=by
   rw[y];have D:i<41:=(cX.1 A).1;have F:q<41:=(cX.1 x).1;unfold dR
   grind
  rw[ic C];refine(j.all q sq x ?_).bz f;have:cm q i=false:=by rw[<-jI,Nat.beq_eq];exact z
  grind
abbrev jn(w0:J)(base:Nat)(kk:Int)(Xa Xb Xc Xs:Rx)(i:Nat)(r:Op×Option Nat×aE×List Nat):Prop:=wQ V (JT w0 base kk Xa Xb Xc Xs) i r
def aca{b:Nat}{u:I}{w:J}(d:w.heap[b]? =some (.cells u.c.toArray aV (0,0))){K:aa->Prop}(C:K u.v):nC V aV (ab b) w λv _=>K v:=by
 have y:=cellAt (p:=ab b) (i:=0) (v:=.int .i64 u.k) d rfl rfl;have z:=cellAt (p:=ab b) (i:=1) (v:=.int .u8 (u.lo.toNat:Int)) d rfl rfl;have A:=cellAt (p:=ab b) (i:=2) (v:=.int .u8 (u.hi.toNat:Int)) d rfl rfl;have B:=cellAt (p:=ab b) (i:=3) (v:=u.s.v) d rfl rfl;have e:(nC V aV (ab b) w λv _=>K v)=(∃h:Int,∃j:Int,∃q:Int,∃x:Sl,w.cell? ((ab b).add 0)=some (.int .i64 h)/\w.cell? ((ab b).add 1)=some (.int .u8 j)/\w.cell? ((ab b).add 2)=some (.int .u8 q)/\w.cell? ((ab b).add 3)=some x.v/\K (.agg #[.int .i64 h,.int .u8 j,.int .u8 q,x.v])):=by kernel_rfl
 grind
def BG{ty:aE}{ds:List Nat}{t:Nat}{x:Rx}(i d:Nat)(C:d=dR i)(F:(ec Xa Xb Xc Xs)[i]? =some (.tr x))(G:∀k h j,JT w0 base kk Xa Xb Xc Xs k h j->j' base j h t x):jn w0 base kk Xa Xb Xc Xs i (.load aV (.tmp t),some d,ty,ds):=by intro k h j o E D K I H q;obtain⟨b,u,w,y,z,A,B⟩:=G k h j q;refine rh E w (aca y ?_);rw[D];exact q.step (Fr.refl _ _) C F ⟨u,rfl,z,A,B⟩
def vN{ty:aE}{ds:List Nat}(i d:Nat)(k:(ec Xa Xb Xc Xs)[i]? =some (.tr Xa))(j:d=dR i:=by rfl):jn w0 base kk Xa Xb Xc Xs i (.load aV (.tmp 5),some d,ty,ds):=BG i d j k λ_ _ _ h=>h.a
def vO{ty:aE}{ds:List Nat}(i d:Nat)(k:(ec Xa Xb Xc Xs)[i]? =some (.tr Xb))(j:d=dR i:=by rfl):jn w0 base kk Xa Xb Xc Xs i (.load aV (.tmp 6),some d,ty,ds):=BG i d j k λ_ _ _ h=>h.b
def Um{ty:aE}{ds:List Nat}(i d:Nat)(k:(ec Xa Xb Xc Xs)[i]? =some (.tr Xc))(j:d=dR i:=by rfl):jn w0 base kk Xa Xb Xc Xs i (.load aV (.tmp 7),some d,ty,ds):=BG i d j k λ_ _ _ h=>h.c
def Un{ty:aE}{ds:List Nat}(i d:Nat)(k:(ec Xa Xb Xc Xs)[i]? =some (.tr Xs))(j:d=dR i:=by rfl):jn w0 base kk Xa Xb Xc Xs i (.load aV (.tmp 8),some d,ty,ds):=BG i d j k λ_ _ _ h=>h.s
def aff(a:I)(w:J):(Instr.buildSlice dP 1 #[((0:Nat),a.v)]).run V w=.ok (.slice (some (ab w.heap.size)) 1 1) (w.alloc (.cells ([a].flatMap I.c).toArray aV)):=by kernel_rfl
def afg(a b:I)(w:J):(Instr.buildSlice dP 2 #[((0:Nat),a.v),(1,b.v)]).run V w=.ok (.slice (some (ab w.heap.size)) 2 2) (w.alloc (.cells ([a,b].flatMap I.c).toArray aV)):=by kernel_rfl
def afh(a b c:I)(w:J):(Instr.buildSlice dP 3 #[((0:Nat),a.v),(1,b.v),(2,c.v)]).run V w=.ok (.slice (some (ab w.heap.size)) 3 3) (w.alloc (.cells ([a,b,c].flatMap I.c).toArray aV)):=by kernel_rfl
def afi(a b c d e g r s:I)(w:J):(Instr.buildSlice dP 8 #[((0:Nat),a.v),(1,b.v),(2,c.v),(3,d.v),(4,e.v),(5,g.v),(6,r.v),(7,s.v)]).run V w=.ok (.slice (some (ab w.heap.size)) 8 8) (w.alloc (.cells ([a,b,c,d,e,g,r,s].flatMap I.c).toArray aV)):=by kernel_rfl
def BX{o:Oper}{T:aE}{n:Nat}{parts:Array (Nat×Operand)}{E:Env}{w Y:J}{v:aa}{K:Env->J->Prop}(d:o.op=.buildSlice T n parts)(j:E.ek o=true)(q:(Instr.buildSlice T n (parts.map λp=>(p.1,E.ev p.2))).run V w=.ok v Y)(h:K (E.put o.dst v) Y):g3 V o E w K:=by
 obtain⟨dst,op,y,pos,after,guard⟩:=o;simp only at d;subst d;have k:qC V ⟨dst,.buildSlice T n parts,y,pos,after,guard⟩ E w (λv Y=>K (E.put dst v) Y):=by unfold qC;rw[j];show cS true _;simp only[execOp];rw[show(λ(x:Nat×Operand)=>match x with |(i,x)=>(i,E.ev x))=λp=>(p.1,E.ev p.2)from rfl];simp[q];exact h
 unfold g3;simp only[calm,cond_false];unfold hW;exact k
def kj{E:Env}{t:Nat}{v:aa}(h:E.get? t=some v):E.ev (.tmp t)=v:=by simp[Env.ev,Env.val,h]
def AL{w:J}{O:List I}{n:Nat}(k:n=O.length)(A:n<=1000)(q:I.Ps w O)(z:∀b∈I.bj O,base<=b)(y:base<=w.heap.size):
  (bZ ⟨some (ab w.heap.size),n,n⟩ O).P (w.alloc (.cells (O.flatMap I.c).toArray aV))/\∀b∈(bZ ⟨some (ab w.heap.size),n,n⟩ O).fp,base<=b:=by
 have x:=aG.made w aV 4 n (O.flatMap I.c) (by rw[I.e1,k]) (by unfold maxLen;omega);refine⟨dT.2 ⟨x.bf,q.bz (Fr.alloc _ _ _)⟩,λb h=>?_⟩;rcases mO.1 h with d|d
 .exact sZ (λc j=>by simp only[az,aq,aL,aO]at j;omega) b d
 grind
def JT.w5{L:Nat->Bool}{E:Env}{w:J}(d:JT w0 base kk Xa Xb Xc Xs L E w)(h:base<=w0.heap.size):base<=w.heap.size:=bb h d.fr.size
section
variable (xV:base<=w0.heap.size)
include xV
def HE{ty:aE}{ds:List Nat}(i d h:Nat){y:Nat}{A:Rx}(L:(ec Xa Xb Xc Xs)[i]? =some (.ls [A]))(F:(ec Xa Xb Xc Xs)[h]? =some (.tr A))(M:h∈ds)(G:d=dR i:=by rfl)(E:y=dR h:=by rfl):jn w0 base kk Xa Xb Xc Xs i (.buildSlice dP 1 #[(0,.tmp y)],some d,ty,ds):=by
 intro N B j o x K S Q H k;obtain⟨a,q,C,P,D⟩:=k.all h _ F (H h M);rw[<-E]at q;have z:=AL (base:=base) (w:=j) (O:=[a]) (n:=1) rfl co (I.jd (by grind)) (by simp[I.bj];exact D) (k.w5 xV);refine BX (Y:=j.alloc (.cells ([a].flatMap I.c).toArray aV)) (v:=.slice (some (ab j.heap.size)) 1 1) x (by obtain⟨_,op,_,_,_,_⟩:=o;simp only at x;subst x;simp[Env.ek,Op.operands,Env.val,q]) ?_ ?_
 .rw [show(#[((0:Nat),Operand.tmp y)].map λp=>(p.1,B.ev p.2))=#[((0:Nat),a.v)]by simp[kj q]];exact aff a j
 .rw [K];exact k.step (Fr.alloc _ _ _) G L ⟨⟨some (ab j.heap.size),1,1⟩,[a],rfl,by simp[I.aw,C],z.1,z.2⟩
def s9{ty:aE}{ds:List Nat}(i d h j:Nat){A B:Nat}{E F:Rx}(T:(ec Xa Xb Xc Xs)[i]? =some (.ls [E,F]))(N:(ec Xa Xb Xc Xs)[h]? =some (.tr E))(P:(ec Xa Xb Xc Xs)[j]? =some (.tr F))(U:h∈ds)(m1:j∈ds)(Q:d=dR i:=by rfl)(L:A=dR h:=by rfl)(M:B=dR j:=by rfl):jn w0 base kk Xa Xb Xc Xs i (.buildSlice dP 2 #[(0,.tmp A),(1,.tmp B)],some d,ty,ds):=by
 intro W G k o z S ht hi C q;obtain⟨a,x,H,Z,a4⟩:=q.all h _ N (C h U);obtain⟨b,y,K,b3,b4⟩:=q.all j _ P (C j m1);rw[<-L]at x;rw[<-M]at y;have D:=AL (base:=base) (w:=k) (O:=[a,b]) (n:=2) rfl co (I.jd (by grind)) (by simp[I.bj];grind) (q.w5 xV);refine BX (Y:=k.alloc (.cells ([a,b].flatMap I.c).toArray aV)) (v:=.slice (some (ab k.heap.size)) 2 2) z (by obtain⟨_,op,_,_,_,_⟩:=o;simp only at z;subst z;simp[Env.ek,Op.operands,Env.val,x,y]) ?_ ?_
 .rw [show(#[((0:Nat),Operand.tmp A),(1,.tmp B)].map λp=>(p.1,G.ev p.2))=#[((0:Nat),a.v),(1,b.v)]by simp[kj x,kj y]];exact afg a b k
 .rw [S];exact q.step (Fr.alloc _ _ _) Q T ⟨⟨some (ab k.heap.size),2,2⟩,[a,b],rfl,by simp[I.aw,H,K],D.1,D.2⟩
def ae6{ty:aE}{ds:List Nat}(i d j k q:Nat){D E t2:Nat}{G H K:Rx}(hs:(ec Xa Xb Xc Xs)[i]? =some (.ls [G,H,K]))(U:(ec Xa Xb Xc Xs)[j]? =some (.tr G))(W:(ec Xa Xb Xc Xs)[k]? =some (.tr H))(Z:(ec Xa Xb Xc Xs)[q]? =some (.tr K))(m0:j∈ds)(m1:k∈ds)(m2:q∈ds)(hd:d=dR i:=by rfl)(Q:D=dR j:=by rfl)(S:E=dR k:=by rfl)(T:t2=dR q:=by rfl):jn w0 base kk Xa Xb Xc Xs i (.buildSlice dP 3 #[(0,.tmp D),(1,.tmp E),(2,.tmp t2)],some d,ty,ds):=by
 intro ac L x o C aa ht hi B h;obtain⟨a,y,M,a3,a4⟩:=h.all j _ U (B j m0);obtain⟨b,z,N,b3,b4⟩:=h.all k _ W (B k m1);obtain⟨c,A,P,c3,c4⟩:=h.all q _ Z (B q m2);rw[<-Q]at y;rw[<-S]at z;rw[<-T]at A;have F:=AL (base:=base) (w:=x) (O:=[a,b,c]) (n:=3) rfl co (I.jd (by grind)) (by simp[I.bj];grind) (h.w5 xV);refine BX (Y:=x.alloc (.cells ([a,b,c].flatMap I.c).toArray aV)) (v:=.slice (some (ab x.heap.size)) 3 3) C (by obtain⟨_,op,_,_,_,_⟩:=o;simp only at C;subst C;simp[Env.ek,Op.operands,Env.val,y,z,A]) ?_ ?_
 .rw [show(#[((0:Nat),Operand.tmp D),(1,.tmp E),(2,.tmp t2)].map λp=>(p.1,L.ev p.2))=#[((0:Nat),a.v),(1,b.v),(2,c.v)]by simp[kj y,kj z,kj A]];exact afh a b c x
 .rw [aa];exact h.step (Fr.alloc _ _ _) hd hs ⟨⟨some (ab x.heap.size),3,3⟩,[a,b,c],rfl,by simp[I.aw,M,N,P],F.1,F.2⟩
def ae7{ty:aE}{ds:List Nat}(i d k q x y z A B C:Nat){S T t2 t3 t4 U W Z:Nat}{x0 x1 x2 x3 x4 x5 x6 x7:Rx}(hs:(ec Xa Xb Xc Xs)[i]? =some (.ls [x0,x1,x2,x3,x4,x5,x6,x7]))(h0:(ec Xa Xb Xc Xs)[k]? =some (.tr x0))(h1:(ec Xa Xb Xc Xs)[q]? =some (.tr x1))(h2:(ec Xa Xb Xc Xs)[x]? =some (.tr x2))(h3:(ec Xa Xb Xc Xs)[y]? =some (.tr x3))(h4:(ec Xa Xb Xc Xs)[z]? =some (.tr x4))(h5:(ec Xa Xb Xc Xs)[A]? =some (.tr x5))(h6:(ec Xa Xb Xc Xs)[B]? =some (.tr x6))(h7:(ec Xa Xb Xc Xs)[C]? =some (.tr x7))(m0:k∈ds)(m1:q∈ds)(m2:x∈ds)(m3:y∈ds)(m4:z∈ds)(m5:A∈ds)(m6:B∈ds)(m7:C∈ds)(hd:d=dR i:=by rfl)(e0:S=dR k:=by rfl)(e1:T=dR q:=by rfl)(e2:t2=dR x:=by rfl)(e3:t3=dR y:=by rfl)(e4:t4=dR z:=by rfl)(e5:U=dR A:=by rfl)(e6:W=dR B:=by rfl)(e7:Z=dR C:=by rfl):
  jn w0 base kk Xa Xb Xc Xs i (.buildSlice dP 8 #[(0,.tmp S),(1,.tmp T),(2,.tmp t2),(3,.tmp t3),(4,.tmp t4),(5,.tmp U),(6,.tmp W),(7,.tmp Z)],some d,ty,ds):=by
 intro ad aa E o M ac ht hi j h;obtain⟨a,F,a2,a3,a4⟩:=h.all k _ h0 (j k m0);obtain⟨b,G,b2,b3,b4⟩:=h.all q _ h1 (j q m1);obtain⟨c,H,c2,c3,c4⟩:=h.all x _ h2 (j x m2);obtain⟨D,N,q2,q3,q4⟩:=h.all y _ h3 (j y m3);obtain⟨e,K,f2,f3,f4⟩:=h.all z _ h4 (j z m4);obtain⟨g,L,g2,g3,g4⟩:=h.all A _ h5 (j A m5);obtain⟨r,P,r2,r3,r4⟩:=h.all B _ h6 (j B m6);obtain⟨s,Q,s2,s3,s4⟩:=h.all C _ h7 (j C m7);rw[<-e0]at F;rw[<-e1]at G;rw[<-e2]at H;rw[<-e3]at N;rw[<-e4]at K;rw[<-e5]at L;rw[<-e6]at P;rw[<-e7]at Q;have hm:=AL (base:=base) (w:=E) (O:=[a,b,c,D,e,g,r,s]) (n:=8) rfl co (I.jd (by simp[a3,b3,c3,q3,f3,g3,r3,s3])) (by
  intro ae hz;obtain⟨t,ht,hy⟩:=I.b'.1 hz;clear hz;simp only[aq,aL,aO]at ht
  grind) (h.w5 xV)
 refine BX (Y:=E.alloc (.cells ([a,b,c,D,e,g,r,s].flatMap I.c).toArray aV)) (v:=.slice (some (ab E.heap.size)) 8 8) M (by obtain⟨_,op,_,_,_,_⟩:=o;simp only at M;subst M;simp[Env.ek,Op.operands,Env.val,F,G,H,N,K,L,P,Q]) ?_ ?_
 .rw [show(#[((0:Nat),Operand.tmp S),(1,.tmp T),(2,.tmp t2),(3,.tmp t3),(4,.tmp t4),(5,.tmp U),(6,.tmp W),(7,.tmp Z)].map λp=>(p.1,aa.ev p.2))=#[((0:Nat),a.v),(1,b.v),(2,c.v),(3,D.v),(4,e.v),(5,g.v),(6,r.v),(7,s.v)]by simp[kj F,kj G,kj H,kj N,kj K,kj L,kj P,kj Q]];exact afi a b c D e g r s E
 .rw [ac];exact h.step (Fr.alloc _ _ _) hd hs ⟨⟨some (ab E.heap.size),8,8⟩,[a,b,c,D,e,g,r,s],rfl,by simp[I.aw,a2,b2,c2,q2,f2,g2,r2,s2],hm.1,hm.2⟩
end
def afR{o:Oper}{k:Int}{t:Nat}{s:Sl}{E:Env}{w:J}{K:Env->J->Prop}(B:k=3\/k=4\/k=5\/k=6\/k=7)(q:o.op=.build aV #[(0,.const (.int .i64 k)),(3,.tmp t)])(x:E.get? t=some s.v)(h:K (E.put o.dst (.agg #[.i k,.int .u8 0,.int .u8 0,s.v])) w):g3 V o E w K:=by
 obtain⟨dst,op,d,pos,after,guard⟩:=o;simp only at q;subst q;show gF V _ E (λv _=>K (E.put dst v) w);have A:E.ek ⟨dst,.build aV #[(0,.const (.int .i64 k)),(3,.tmp t)],d,pos,after,guard⟩=true:=by simp[Env.ek,Op.operands,Env.val,x]
 unfold gF;rw[A];have e:execOp E.ev ⟨dst,.build aV #[(0,.const (.int .i64 k)),(3,.tmp t)],d,pos,after,guard⟩=execOp (λj=>match j with |.const v=>v|_=>s.v) ⟨dst,.build aV #[(0,.const (.int .i64 k)),(3,.tmp t)],d,pos,after,guard⟩:=by
  have:E.ev (.tmp t)=s.v:=kj x;have z:E.ev (.const (.int .i64 k))=.int .i64 k:=by simp[Env.ev,Env.val]
  simp only[execOp,List.map_toArray,jf,List.map_nil,this,z]
 rw[e];have y:qZ V (execOp (λj=>match j with |.const v=>v|_=>s.v) ⟨dst,.build aV #[(0,.const (.int .i64 k)),(3,.tmp t)],d,pos,after,guard⟩)=some (.value (.agg #[.i k,.int .u8 0,.int .u8 0,s.v])):=by kernel_rfl
 rw[y];exact h
def yH{ty:aE}{ds:List Nat}(k:Int)(F:k=3\/k=4\/k=5\/k=6\/k=7)(i d j:Nat){t:Nat}{l:List Rx}(H:(ec Xa Xb Xc Xs)[i]? =some (.tr (.mk k 0 0 l)))(B:(ec Xa Xb Xc Xs)[j]? =some (.ls l))(m:j∈ds)(C:d=dR i)(A:t=dR j):jn w0 base kk Xa Xb Xc Xs i (.build aV #[(0,.const (.int .i64 k)),(3,.tmp t)],some d,ty,ds):=by
 intro M L Q o G E O N D h;obtain⟨s,K,q,x,y,z⟩:=h.all j _ B (D j m);rw[<-A]at q;refine afR F G q ?_;rw[E];refine h.step (Fr.refl _ _) C H ⟨.mk k 0 0 s K,rfl,by rw[<-x];rfl,?_,λb w=>z b ?_⟩
 .have:=dT.1 y;unfold I.P;omega
 .unfold I.fp at w;unfold bZ I.fp;exact w
def yI{ty:aE}{ds:List Nat}(i d j:Nat){t:Nat}{l:List Rx}(w:(ec Xa Xb Xc Xs)[i]? =some (.tr (.mk 3 0 0 l)))(k:(ec Xa Xb Xc Xs)[j]? =some (.ls l))(m:j∈ds)(q:d=dR i:=by rfl)(h:t=dR j:=by rfl):jn w0 base kk Xa Xb Xc Xs i (.build aV #[(0,.const (.int .i64 3)),(3,.tmp t)],some d,ty,ds):=yH 3 co i d j w k m q h
def Uk{ty:aE}{ds:List Nat}(i d j:Nat){t:Nat}{l:List Rx}(w:(ec Xa Xb Xc Xs)[i]? =some (.tr (.mk 4 0 0 l)))(k:(ec Xa Xb Xc Xs)[j]? =some (.ls l))(m:j∈ds)(q:d=dR i:=by rfl)(h:t=dR j:=by rfl):jn w0 base kk Xa Xb Xc Xs i (.build aV #[(0,.const (.int .i64 4)),(3,.tmp t)],some d,ty,ds):=yH 4 co i d j w k m q h
def ae4{ty:aE}{ds:List Nat}(i d j:Nat){t:Nat}{l:List Rx}(w:(ec Xa Xb Xc Xs)[i]? =some (.tr (.mk 5 0 0 l)))(k:(ec Xa Xb Xc Xs)[j]? =some (.ls l))(m:j∈ds)(q:d=dR i:=by rfl)(h:t=dR j:=by rfl):jn w0 base kk Xa Xb Xc Xs i (.build aV #[(0,.const (.int .i64 5)),(3,.tmp t)],some d,ty,ds):=yH 5 co i d j w k m q h
def Ul{ty:aE}{ds:List Nat}(i d j:Nat){t:Nat}{l:List Rx}(w:(ec Xa Xb Xc Xs)[i]? =some (.tr (.mk 6 0 0 l)))(k:(ec Xa Xb Xc Xs)[j]? =some (.ls l))(m:j∈ds)(q:d=dR i:=by rfl)(h:t=dR j:=by rfl):jn w0 base kk Xa Xb Xc Xs i (.build aV #[(0,.const (.int .i64 6)),(3,.tmp t)],some d,ty,ds):=yH 6 co i d j w k m q h
def ae5{ty:aE}{ds:List Nat}(i d j:Nat){t:Nat}{l:List Rx}(w:(ec Xa Xb Xc Xs)[i]? =some (.tr (.mk 7 0 0 l)))(k:(ec Xa Xb Xc Xs)[j]? =some (.ls l))(m:j∈ds)(q:d=dR i:=by rfl)(h:t=dR j:=by rfl):jn w0 base kk Xa Xb Xc Xs i (.build aV #[(0,.const (.int .i64 7)),(3,.tmp t)],some d,ty,ds):=yH 7 co i d j w k m q h
def ae9{ty:aE}{ds:List Nat}(i d j:Nat){t:Nat}{l:List Rx}(E:(ec Xa Xb Xc Xs)[i]? =some (.ls l))(z:(ec Xa Xb Xc Xs)[j]? =some (.ls l))(m:j∈ds)(A:d=dR i:=by rfl)(y:t=dR j:=by rfl):jn w0 base kk Xa Xb Xc Xs i (.assign (.tmp t),some d,ty,ds):=by intro H G L o D C K I B h;obtain⟨s,F,k,q,w,x⟩:=h.all j _ z (B j m);rw[<-y]at k;refine nL (.inr D) k ?_;rw[C];exact h.step (Fr.refl _ _) A E ⟨s,F,rfl,q,w,x⟩
def ae8{ds:List Nat}(K:base<=w0.heap.size)(i d:Nat)(P:(ec Xa Xb Xc Xs)[i]? =some (.tr e2))(O:d=dR i:=by rfl):jn w0 base kk Xa Xb Xc Xs i (.call ⟨.value (.func pD),#[],#[]⟩,some d,aV,ds):=by
 intro q h E o y x z S Q w;obtain⟨dst,op,T,pos,after,guard⟩:=o;simp only at y x z;subst y;subst x;subst z;have L:h.ek ⟨some d,.call ⟨.value (.func pD),#[],#[]⟩,aV,pos,after,guard⟩=true:=by simp[Env.ek,Op.operands,Call.operands,Env.val]
 have M:hS V pD=true:=by kernel_rfl
 have N:calm V ⟨some d,.call ⟨.value (.func pD),#[],#[]⟩,aV,pos,after,guard⟩=false:=rfl;unfold g3;rw[N,cond_false];unfold hW;dsimp only;rw[L,M];simp only[List.map_toArray,List.map_nil,cond_true];refine(show qy V pD #[] (zeroOf V aV) E (λv j=>JT w0 base kk Xa Xb Xc Xs (dL q i) (h.put (some d) v) j)from ?_);refine(DW E).mono ?_;rintro _ j ⟨⟨t,rfl,F,G,H⟩,f⟩;have e:oq (zeroOf V aV) (λv=>Ending.returned t.v=ae v/\JT w0 base kk Xa Xb Xc Xs (dL q i) (h.put (some d) v) j)=∃A:Int,∃B:Int,∃C:Int,∃D:Sl,Ending.returned t.v=ae (.agg #[.int .i64 A,.int .u8 B,.int .u8 C,D.v])/\JT w0 base kk Xa Xb Xc Xs (dL q i) (h.put (some d) (.agg #[.int .i64 A,.int .u8 B,.int .u8 C,D.v])) j:=by kernel_rfl
 rw[e];exact⟨t.k,t.lo.toNat,t.hi.toNat,t.s,rfl,w.step f O P ⟨t,rfl,F,G,λb I=>bb (w.w5 K) (H b I)⟩⟩
def V7:List (Op×Option Nat×aE×List Nat):=[(.load aV (.tmp 5),some 39,aV,[]),
 (.load aV (.tmp 5),some 40,aV,[]),
 (.load aV (.tmp 6),some 41,aV,[]),
 (.buildSlice dP 2 #[(0,.tmp 40),(1,.tmp 41)],some 42,dP,[1,2]),
 (.build aV #[(0,.const (.int .i64 3)),(3,.tmp 42)],some 43,aV,[3]),
 (.load aV (.tmp 5),some 44,aV,[]),
 (.load aV (.tmp 6),some 45,aV,[]),
 (.load aV (.tmp 7),some 46,aV,[]),
 (.buildSlice dP 3 #[(0,.tmp 44),(1,.tmp 45),(2,.tmp 46)],some 47,dP,[5,6,7]),
 (.build aV #[(0,.const (.int .i64 4)),(3,.tmp 47)],some 48,aV,[8]),
 (.load aV (.tmp 8),some 49,aV,[]),
 (.load aV (.tmp 8),some 50,aV,[]),
 (.load aV (.tmp 6),some 51,aV,[]),
 (.buildSlice dP 2 #[(0,.tmp 50),(1,.tmp 51)],some 52,dP,[11,12]),
 (.build aV #[(0,.const (.int .i64 3)),(3,.tmp 52)],some 53,aV,[13]),
 (.load aV (.tmp 5),some 54,aV,[]),
 (.load aV (.tmp 6),some 55,aV,[]),
 (.buildSlice dP 2 #[(0,.tmp 54),(1,.tmp 55)],some 56,dP,[15,16]),
 (.build aV #[(0,.const (.int .i64 3)),(3,.tmp 56)],some 57,aV,[17]),
 (.buildSlice dP 1 #[(0,.tmp 57)],some 58,dP,[18]),
 (.build aV #[(0,.const (.int .i64 6)),(3,.tmp 58)],some 59,aV,[19]),
 (.load aV (.tmp 6),some 60,aV,[]),
 (.load aV (.tmp 5),some 61,aV,[]),
 (.load aV (.tmp 7),some 62,aV,[]),
 (.buildSlice dP 2 #[(0,.tmp 61),(1,.tmp 62)],some 63,dP,[22,23]),
 (.build aV #[(0,.const (.int .i64 4)),(3,.tmp 63)],some 64,aV,[24]),
 (.buildSlice dP 1 #[(0,.tmp 64)],some 65,dP,[25]),
 (.build aV #[(0,.const (.int .i64 7)),(3,.tmp 65)],some 66,aV,[26]),
 (.buildSlice dP 2 #[(0,.tmp 60),(1,.tmp 66)],some 67,dP,[21,27]),
 (.build aV #[(0,.const (.int .i64 3)),(3,.tmp 67)],some 68,aV,[28]),
 (.load aV (.tmp 6),some 69,aV,[]),
 (.buildSlice dP 1 #[(0,.tmp 69)],some 70,dP,[30]),
 (.build aV #[(0,.const (.int .i64 6)),(3,.tmp 70)],some 71,aV,[31]),
 (.load aV (.tmp 5),some 72,aV,[]),
 (.call ⟨.value (.func pD),#[],#[]⟩,some 73,aV,[]),
 (.buildSlice dP 2 #[(0,.tmp 72),(1,.tmp 73)],some 74,dP,[33,34]),
 (.build aV #[(0,.const (.int .i64 3)),(3,.tmp 74)],some 75,aV,[35]),
 (.buildSlice dP 2 #[(0,.tmp 71),(1,.tmp 75)],some 76,dP,[32,36]),
 (.build aV #[(0,.const (.int .i64 5)),(3,.tmp 76)],some 77,aV,[37]),
 (.buildSlice dP 8 #[(0,.tmp 39),(1,.tmp 43),(2,.tmp 48),(3,.tmp 49),(4,.tmp 53),(5,.tmp 59),(6,.tmp 68),(7,.tmp 77)],some 78,dP,[0,4,9,10,14,20,29,38]),
 (.assign (.tmp 78),some 9,dP,[39,34,0,1,2,3,4,5,6,7,8,9,10,11,12,13,14,15,16,17,18,19,20,21,22,23,24,25,26,27,28,29,30,31,32,33,34,35,36,37,38,39])]
def afa(d:base<=w0.heap.size):allI (wQ V (JT w0 base kk Xa Xb Xc Xs)) V7 0:=
 ⟨(vN 0 39 rfl),
  (vN 1 40 rfl),
  (vO 2 41 rfl),
  (s9 d 3 42 1 2 rfl rfl rfl ws ws),
  (yI 4 43 3 rfl rfl ws),
  (vN 5 44 rfl),
  (vO 6 45 rfl),
  (Um 7 46 rfl),
  (ae6 d 8 47 5 6 7 rfl rfl rfl rfl ws ws ws),
  (Uk 9 48 8 rfl rfl ws),
  (Un 10 49 rfl),
  (Un 11 50 rfl),
  (vO 12 51 rfl),
  (s9 d 13 52 11 12 rfl rfl rfl ws ws),
  (yI 14 53 13 rfl rfl ws),
  (vN 15 54 rfl),
  (vO 16 55 rfl),
  (s9 d 17 56 15 16 rfl rfl rfl ws ws),
  (yI 18 57 17 rfl rfl ws),
  (HE d 19 58 18 rfl rfl ws),
  (Ul 20 59 19 rfl rfl ws),
  (vO 21 60 rfl),
  (vN 22 61 rfl),
  (Um 23 62 rfl),
  (s9 d 24 63 22 23 rfl rfl rfl ws ws),
  (Uk 25 64 24 rfl rfl ws),
  (HE d 26 65 25 rfl rfl ws),
  (ae5 27 66 26 rfl rfl ws),
  (s9 d 28 67 21 27 rfl rfl rfl ws ws),
  (yI 29 68 28 rfl rfl ws),
  (vO 30 69 rfl),
  (HE d 31 70 30 rfl rfl ws),
  (Ul 32 71 31 rfl rfl ws),
  (vN 33 72 rfl),
  (ae8 d 34 73 rfl),
  (s9 d 35 74 33 34 rfl rfl rfl ws ws),
  (yI 36 75 35 rfl rfl ws),
  (s9 d 37 76 32 36 rfl rfl rfl ws ws),
  (ae4 38 77 37 rfl rfl ws),
  (ae7 d 39 78 0 4 9 10 14 20 29 38 rfl rfl rfl rfl rfl rfl rfl rfl rfl ws ws ws ws ws ws ws ws),
  (ae9 40 9 39 rfl rfl ws),trivial⟩
end
def lP(k:Nat):Rx:=E5 (fi (k%6)) (fi (k / 6%6)) (fi (k / 36%6)) (k / 216%8)
def R8(k:Nat):Bool:=de (lP k)&&Nat.ble (lP k).sz 1000&&ja (eg (lP k))&&Nat.ble (eg (lP k)).sz 1000
def adJ:(List.range 1728).all R8=true:=by kernel_rfl
def Mi(k:Nat):lP k=lP (k%1728):=by unfold lP;rw[show k%1728%6=k%6 by omega,show k%1728 / 6%6=k / 6%6 by omega,show k%1728 / 36%6=k / 36%6 by omega,show k%1728 / 216%8=k / 216%8 by omega]
def agC(k:Nat):de (lP k)=true/\(lP k).sz<=1000/\ja (eg (lP k))=true/\(eg (lP k)).sz<=1000:=by rw[Mi];have:=ff.1 adJ (k%1728) (List.mem_range.2 (Nat.mod_lt _ co));unfold R8 at this;simp only[bH]at this;exact⟨this.1.1.1,Nat.le_of_ble_eq_true this.1.1.2,this.1.2,Nat.le_of_ble_eq_true this.2⟩
def Wn(k:Nat):m4 k=bo (eg (lP k)):=rfl
def Wo(k:Nat):m4 k=m4 (k%1728):=by rw[Wn,Wn,Mi]
def Y1(n m:Int)(w:J)(j:1<=m)(h:aY n):ai V vb #[.i n,.i m] w λr d=>r=ae (.i (hB n m))/\af w d:=(Dz n m w j h).mono λr d h=>⟨h.1,h.2▸Fr.refl _ _⟩
def Jo(d:I):List I:=[nD 2 97 97,nD 2 98 98,nD 2 0 0,nD 2 97 98,nD 1 0 0,d]
def DD(h:I)(j:h.rx=e2){i:Nat}(hi:i<6):∃t,(Jo h)[i]? =some t/\t.rx=fi i/\(t=h\/∀d:J,t.P d/\∀b,¬b∈t.fp):=by
 have:i=0\/i=1\/i=2\/i=3\/i=4\/i=5:=co
 rcases this with rfl|rfl|rfl|rfl|rfl|rfl
 .exact ⟨_,rfl,rfl,.inr λd=>⟨sC _ _ _ d,λb=>sD⟩⟩
 .exact ⟨_,rfl,rfl,.inr λd=>⟨sC _ _ _ d,λb=>sD⟩⟩
 .exact ⟨_,rfl,rfl,.inr λd=>⟨sC _ _ _ d,λb=>sD⟩⟩
 .exact ⟨_,rfl,rfl,.inr λd=>⟨sC _ _ _ d,λb=>sD⟩⟩
 .exact ⟨_,rfl,rfl,.inr λd=>⟨sC _ _ _ d,λb=>sD⟩⟩
 .exact ⟨h,rfl,j,.inl rfl⟩
def aaT(a b c:Rx){i:Nat}(hi:i<8):[a,.mk 3 0 0 [a,b],.mk 4 0 0 [a,b,c],.mk 7 0 0 [a],.mk 3 0 0 [.mk 7 0 0 [a],b],.mk 6 0 0 [.mk 3 0 0 [a,b]],.mk 3 0 0 [b,.mk 7 0 0 [.mk 4 0 0 [a,c]]],.mk 5 0 0 [.mk 6 0 0 [b],.mk 3 0 0 [a,e2]]][i]? =some (E5 a b c i):=by
 have:i=0\/i=1\/i=2\/i=3\/i=4\/i=5\/i=6\/i=7:=co
 rcases this with rfl|rfl|rfl|rfl|rfl|rfl|rfl|rfl<;>rfl
def B2(k m:Nat)(d:0<m):cw (k:Int) (m:Int)=((k%m:Nat):Int):=by rw[Int.tmod_eq_emod_of_nonneg co];omega
def Ih(k m:Nat)(j:k<=1048576):aj .i64 (bQ (k:Int) (m:Int))=((k / m:Nat):Int):=by
 have d:bQ (k:Int) (m:Int)=((k / m:Nat):Int):=by rw[Int.tdiv_eq_ediv_of_nonneg co];rfl
 have h:k / m<=k:=Nat.div_le_self k m;rw[d];generalize k / m=q at h;rw[aQ _ co]
section
variable {w w24:J} {R:aK} {K:Nat}
def agB(E:K<=1048576){s:Sl}{O:List I}{Y:J}(y:I.aw O=[fi (K%6),.mk 3 0 0 [fi (K%6),fi (K / 6%6)],.mk 4 0 0 [fi (K%6),fi (K / 6%6),fi (K / 36%6)],.mk 7 0 0 [fi (K%6)],.mk 3 0 0 [.mk 7 0 0 [fi (K%6)],fi (K / 6%6)],.mk 6 0 0 [.mk 3 0 0 [fi (K%6),fi (K / 6%6)]],.mk 3 0 0 [fi (K / 6%6),.mk 7 0 0 [.mk 4 0 0 [fi (K%6),fi (K / 36%6)]]],.mk 5 0 0 [.mk 6 0 0 [fi (K / 6%6)],.mk 3 0 0 [fi (K%6),e2]]])(h:(bZ s O).P Y)(f:af w Y):xz.T9 s (K:Int) Y λr Y=>r=ae (.string (ba (m4 K)))/\af w Y:=by
 have N:=I.cI (dT.1 h).1;have M:O.length=8:=by have:=congrArg List.length y;rw[I.gb,gv]at this;simpa using this
 show(0:Int)<=cw (aj .i64 (bQ (K:Int) ((216:Nat):Int))) ((8:Nat):Int)/\cw (aj .i64 (bQ (K:Int) ((216:Nat):Int))) ((8:Nat):Int)<(s.n:Int)/\eh s.a λp=>gC Y (p.add (a0 (cw (aj .i64 (bQ (K:Int) ((216:Nat):Int))) ((8:Nat):Int)) *4)) _;rw[Ih K 216 E,B2 _ 8 co];have F:K / 216%8<8:=Nat.mod_lt _ co;have d:O[K / 216%8]? =some (O[K / 216%8]'co):=a' co;generalize O[K / 216%8]'co=t at d;have A:t.rx=lP K:=by have z:=aaT (fi (K%6)) (fi (K / 6%6)) (fi (K / 36%6)) F;rw[<-y,I.gb,List.getElem?_map,d]at z;exact Option.some.inj z
 obtain⟨k,q,j,x⟩:=agC K;rw[<-A]at k q j x;have G:t.P Y:=(dT.1 h).2.get d;refine⟨co,co,I.dE (dT.1 h).1 d λp h c=>⟨_,_,_,_,c.c0,c.c1,c.c2,c.c3,(J2 t Y (by rw[<-I.eX];exact q) k G).mono ?_⟩⟩;rintro _ L ⟨⟨u,rfl,B,H,_⟩,C⟩;rw[<-B]at j x;refine⟨_,_,_,u.s,rfl,(JF u 0 L (by rw[<-I.eX];omega) co j H).mono ?_⟩;rintro _ Q ⟨rfl,D⟩;refine⟨_,rfl,?_,(f.dO C).dO D⟩;have e:dh 0 u.rx (bo u.rx)=bo u.rx:=by unfold dh;rw[ag co]
 rw[e,B,A];rfl
end
def XN{s:Sl}{k:Int}{w:J}{R d:aK}(h:xz.T9 s k w R)(E:∀r j,R r j->d r j):xz.T9 s k w d:=
 ⟨h.1,h.2.1,adN h.2.2 λp ⟨a,b,c,q,x,y,z,A,C⟩=>⟨a,b,c,q,x,y,z,A,C.mono λr H ⟨e,f,g,i,D,G⟩=>⟨e,f,g,i,D,G.mono λr I ⟨t,F,B⟩=>⟨t,F,E _ _ B⟩⟩⟩⟩
def YY(n:Int)(hn:aY n)(w:J):ai V Oo #[.i n] w λr y=>(∃ak:Nat,r=ae (.string (ba (m4 ak))))/\af w y:=by
 have hr:=kc n 1048576 co;obtain⟨K,hK⟩:∃K:Nat,hB n 1048576=(K:Int):=⟨(hB n 1048576).toNat,co⟩;have E:K<=1048576:=co
 have ac:LH F0 w w [] []:=bK [] ws;refine xz.ok n w _ (ac.call (Y1 n 1048576 w co hn) ?_);rintro _ w1 rfl L;refine⟨_,rfl,L.D8 (DW w1) ?_⟩;rintro _ H ⟨q,rfl,G,al,Y⟩ _ F2;have H2:=F2.rd (.tree q) al λb x=>Y b (aT.1 x);rw[hK];have T:=B2 K 6 co;have S:=Ih K 6 E;have Q:=Ih K 36 E;have W:=B2 (K / 6) 6 co;have U:=B2 (K / 36) 6 co;have c6:((6:Nat):Int)=6:=rfl;have aj:((36:Nat):Int)=36:=rfl;rw[c6]at T S W U;rw[aj]at Q;rw[T,S,Q,W,U];obtain⟨A,ga,ra,xa⟩:=DD q G (i:=K%6) (Nat.mod_lt _ co);obtain⟨tb,gb,rb,xb⟩:=DD q G (i:=K / 6%6) (Nat.mod_lt _ co);obtain⟨tc,gc,rc,xc⟩:=DD q G (i:=K / 36%6) (Nat.mod_lt _ co);have la:K%6<6:=Nat.mod_lt _ co;have lb:K / 6%6<6:=Nat.mod_lt _ co;have lc:K / 36%6<6:=Nat.mod_lt _ co;have D:∀t:I,(t=q\/∀w:J,t.P w/\∀b,¬b∈t.fp)->(∀y:J,q.P y->t.P y)/\∀b∈t.fp,w.heap.size<=b:=λt j=>by
  rcases j with rfl|j
  .exact ⟨λ_ j=>j,λb x=>bb L.fr.size (Y b x)⟩
  .exact ⟨λy _=>(j y).1,λb x=>((j w).2 b x).elim⟩
 refine⟨_,_,_,q.s,rfl,H2.cZ (n:=6) (sz:=4) (cs:=(Jo q).flatMap I.c) rfl md λw3 N=>?_⟩;refine⟨co,co,I.dE (s:=⟨some (ab H.heap.size),6,6⟩) (N.get 0:aG _ _ _ _ _).bf ga λp hp c=>?_⟩;refine⟨_,_,_,_,c.c0,c.c1,c.c2,c.c3,N.nw λw4 _ H4=>H4.kD 1 rfl λw8 O=>?_⟩;refine⟨co,co,I.dE (s:=⟨some (ab H.heap.size),6,6⟩) (O.get 0:aG _ _ _ _ _).bf gb λp hp c=>?_⟩;refine⟨_,_,_,_,c.c0,c.c1,c.c2,c.c3,O.nw λw9 _ H9=>H9.kD 2 rfl λam M=>?_⟩;refine⟨co,co,I.dE (s:=⟨some (ab H.heap.size),6,6⟩) (M.get 0:aG _ _ _ _ _).bf gc λp hp c=>?_⟩;refine⟨_,_,_,_,c.c0,c.c1,c.c2,c.c3,M.nw λau _ ad=>ad.kD 3 rfl λaa z=>?_⟩;refine⟨_,_,_,A.s,z.ld 1 0,z.ld 1 1,z.ld 1 2,z.ld 1 3,z.cZ (n:=1) (sz:=4) (cs:=[A].flatMap I.c) rfl md λan ag=>ag.nw λav _ ah=>ah.kD 5 rfl λd h=>?_⟩;have B:=D A xa;have pb:=D tb xb;have pc:=D tc xc;have ps:(I.mk 7 0 0 ⟨some (ab aa.heap.size),1,1⟩ [A]).P d:=by unfold I.P;exact⟨(h.get 4:aG _ _ _ _ _).bf,I.jd (by simp;exact B.1 d (h.getD 0))⟩
 have Z:af w d:=h.fr;refine Fq V7 (by kernel_rfl) (JT d w.heap.size (K:Int) (fi (K%6)) (fi (K / 6%6)) (fi (K / 36%6)) (.mk 7 0 0 [fi (K%6)])) ?_ (afa Z.size) ?_
 .refine ⟨Fr.drew _ _,rfl,?_,?_,?_,?_,λi sp hs F=>by cases F⟩
  .exact j'.bz (w:=d) ⟨w3.heap.size,A,rfl,h.ob 1,ra,B.1 d (h.getD 0),B.2⟩ (Fr.drew _ _)
  .exact j'.bz (w:=d) ⟨w8.heap.size,tb,rfl,h.ob 2,rb,pb.1 d (h.getD 0),pb.2⟩ (Fr.drew _ _)
  .exact j'.bz (w:=d) ⟨am.heap.size,tc,rfl,h.ob 3,rc,pc.1 d (h.getD 0),pc.2⟩ (Fr.drew _ _)
  .refine j'.bz (w:=d) ⟨an.heap.size,.mk 7 0 0 ⟨some (ab aa.heap.size),1,1⟩ [A],rfl,h.ob 5,?_,ps,GU (λb x=>?_) B.2⟩ (Fr.drew _ _)
   .rw [<-ra];rfl
   .simp only[az,aq,aL,aO]at x;rw[x];exact z.fr.size
 .intro ap ao y F C;obtain⟨s,ts,h1,h2,h3,_⟩:=C.all 40 _ rfl (F 40 md);refine⟨s,(K:Int),h1,C.k,?_⟩;refine XN (agB E h2 h3 (Z.dO C.fr)) λr ar j=>⟨⟨K,j.1⟩,j.2⟩
def FO{w:J}{s:Sl}{l:List Nd}(h:GP w s l):LH F0 w w [] [.gr s l]:=bK _ (by intro e d;simp only[aq,aL,aO]at d;subst d;exact ch.2 h)
abbrev sQ(s:Sl)(l:List Int):En:=.row cb 1 s (l.map a5)
def A8{w:J}{s:Sl}{l:List Int}(h:aG w cb 1 s (l.map a5)):bx w s l:=h.hq
def A7{w:J}{s:Sl}{l:List Int}(h:aG w cb 1 s (l.map a5)):s.n=l.length:=by have:=h.len;simp at this;omega
def DR{w:J}{s:Sl}{l:List Nd}(h:GP w s l)(t:bC)(n:Int)(Z:aY n)(Y:l.length<=fH):
  ai V OQ #[s.v,ei t,.i n] w λr H=>(∃y:Int,r=ae (.i y)/\-1<=y/\y<(l.length:Int))/\af w H:=by
 have hs:=i4 h;unfold fH at Y;have loop:∀(m i:Nat) (z:Sl) (ks:List Int) (q:Nat) (B:J),i+m=l.length->ks.length<=i->(∀G∈ks,0<=G/\G<(l.length:Int))->LH F0 w B [.g q,sQ z ks] [.gr s l]->
   sc.a6 s n q t.k t.n t.x z (i:Int) B λr H=>(∃y:Int,r=ae (.i y)/\-1<=y/\y<(l.length:Int))/\af w H:=by
  intro m;induction m with
  |zero=>
   intro i z ks q B U W F A;have hlen:=A7 (A.get 1);refine sc.bD (aN (aW co) (aP (λQ=>⟨⟨_,rfl,co,co⟩,A.fr⟩) (λQ=>A.aA (ko n _ B co Z) ?_)));have hr:=kc n (z.n:Int) co;generalize hB n (z.n:Int)=y at hr;rintro _ I rfl C;obtain⟨j,rfl⟩:∃j:Nat,y=(j:Int):=⟨y.toNat,co⟩;have D:ks[j]? =some (ks[j]'co):=a' co;have E:=F _ (aD D);exact⟨_,rfl,co,co,(A8 (C.get 1)).cell D co λp K S=>⟨_,S,⟨⟨_,rfl,co,co⟩,C.fr⟩⟩⟩
  |succ m L=>
   intro i z ks q B U W F A;have D:l[i]? =some (l[i]'co):=a' co;generalize l[i]'co=d at D;have hlen:=A7 (A.get 1);refine sc.bD (aM (aR co) (iM (ch.1 (A.getD 0)) rfl D λp K _=>A.ah λI C=>?_));have c:=Ff (ch.1 (C.getD 0)) D K (rfl:((i:Int))=(i:Int));refine⟨_,_,_,c.s0,c.s1,c.s2,oS (a:=d.x.st) (b:=t) (λT=>?_) (λT=>?_)⟩
   .refine C.iD 1 iH rfl (λM N P=>?_) co;show sc.a6 s n q t.k t.n t.x M (aj .i64 ((i:Int)+1)) N _;rw[bc _ co];refine L (i+1) M (ks++[(i:Int)]) q N co (by simp;omega) (λG E=>?_) (by rw[sQ,fK];exact P);rcases aX.1 E with E|E
    .exact F G E
    .simp only[aq,aL,aO]at E;omega
   .show sc.a6 s n q t.k t.n t.x z (aj .i64 ((i:Int)+1)) I _;rw[bc _ co];exact L (i+1) z ks q I co co F C
 exact sc.aC ((FO h).aH λq B O=>loop l.length 0 ⟨none,0,0⟩ [] q B co ws ws (O.fY cb 1))
def ZD{w:J}{s:Sl}{l:List Nd}(h:GP w s l)(op:Int)(x:Nat)(ab n:Int)(H:x<l.length)(G:aY n):
  ai V O3 #[s.v,.i op,.i (x:Int),.i ab,.i n] w λr I=>(∃t:bC,r=ae (ei t))/\af w I:=by
 have hs:=i4 h;have O:l[x]? =some (l[x]'H):=a' H;generalize l[x]'H=d at O;refine EJ.aC ((FO h).aH λB w1 L=>iM (ch.1 (L.getD 0)) rfl O λp hp c=>⟨_,_,_,c.s0,c.s1,c.s2,L.aH λE w2 A=>?_⟩);have ret:∀(a b c:Int) (k:J) (U:List Nat),(∀b∈U,En.g b∈[En.g B,.g E])->LH F0 w k [.g B,.g E] [.gr s l]->loc U k λP=>(∃t:bC,Ending.returned (.agg #[.i a,.i b,.i c])=ae (ei t))/\af w P:=λa b c k U hb q=>q.ah (λP S=>⟨⟨⟨a,b,c⟩,rfl⟩,S.fr⟩) hb;have D:∀k,LH F0 w k [.g B,.g E] [.gr s l]->EJ.bt n B 0 0 0 k λr I=>(∃t:bC,r=ae (ei t))/\af w I:=by intro k q;refine q.aA (ko n 3 k co G) ?_;rintro _ z rfl y;refine⟨_,rfl,y.aA (pc _ z) ?_⟩;rintro _ K rfl C;exact⟨_,_,_,rfl,ret _ _ _ K _ ws C⟩
 refine aP (λT=>A.ah λk q=>q.aA (ko n _ k co G) ?_) (λT=>aP (λW=>A.ah λk q=>q.aA (ko n 3 k co G) ?_) (λW=>aP (λY=>A.ah λk q=>q.aA (fR _ k) ?_) (λY=>aP (λZ=>aP (λh5=>A.ah λk q=>q.aA (fR _ k) ?_) (λh5=>A.ah λk q=>q.aA (Hg d.x.st k) ?_)) (λZ=>aP (λh6=>A.ah λk q=>q.aA (fR _ k) ?_) (λh6=>aP (λM=>aM (beq_iff_eq.2 M) (A.ah λk q=>D k q)) (λM=>aP (λN=>aM (beq_iff_eq.2 N) (A.ah λk q=>D k q)) (λN=>aP (λh9=>A.ah λk q=>D k q) (λh9=>A.ah λk q=>ret _ _ _ k _ ws q))))))))
 .have hr:=kc n (s.n:Int) co;generalize hB n (s.n:Int)=Q at hr;rintro _ z rfl y;obtain⟨j,rfl⟩:∃j:Nat,Q=(j:Int):=⟨Q.toNat,co⟩;have aa:l[j]? =some (l[j]'co):=a' co;exact⟨_,rfl,iM (ch.1 (y.getD 0)) rfl aa λac hq F=>⟨_,_,_,F.s0,F.s1,F.s2,ret _ _ _ z _ ws y⟩⟩
 .rintro _ z rfl y;refine⟨_,rfl,y.aA (fR _ z) ?_⟩;rintro _ K rfl C;exact⟨_,_,_,rfl,ret _ _ _ K _ ws C⟩
 .rintro _ z rfl y;exact⟨_,_,_,rfl,ret _ _ _ z _ ws y⟩
 .rintro _ z rfl y;exact⟨_,_,_,rfl,ret _ _ _ z _ ws y⟩
 .rintro _ z rfl y;exact⟨_,_,_,rfl,ret _ _ _ z _ ws y⟩
 .rintro _ z rfl y;exact⟨_,_,_,rfl,ret _ _ _ z _ ws y⟩
def abq{w:J}{s:Sl}{l:List Nd}(h:GP w s l){i:Nat}{d:Nd}(hi:l[i]? =some d){K:Addr->Prop}{X:Int}(j:X=(i:Int))(q:∀p,s.a=some p->eF w (p.add (a0 X *9)) d->K p):fx s X K:=by have z:=i4 h;have y:=(cX.1 hi).1;subst j;exact⟨co,co,fN.elem (f:=Nd.c) (sz:=9) Nd.ke co h.1.2.2 hi λp x k=>q p x k⟩
abbrev mr(d:Nat)(s:Sl)(mp mv:Nat)(l:List Nd)(iK:Array MapEntry)(c1:Nat)(ia:Array MapEntry)(c2:Nat):List En:=
 [.c d [s.v,.map (some mp),.map (some mv)] wg,.row cP 9 s (l.flatMap Nd.c),.ob mp (.map iK c1),.ob mv (.map ia c2)]
def iz(w:J)(d:Nat)(l:List Nd)(own:List Nat):Prop:=∃(s:Sl) (mp mv:Nat) (iK:Array MapEntry) (c1:Nat) (ia:Array MapEntry) (c2:Nat),own=(mr d s mp mv l iK c1 ia c2).flatMap (·.fp)/\own.Nodup/\(∀e∈mr d s mp mv l iK c1 ia c2,e.P w)/\kN iK (jE (xs l) 0)/\kN ia (iT (xs l))
def tF(w:J)(j:Nat)(own:List Nat)(l:List Nd)(Y:J):Prop:=∃d,iz Y j l d/\Fr (·∈own) w Y/\∀h∈d,h∈own\/w.heap.size<=h
def iz.open{w:J}{j:Nat}{l:List Nd}{own:List Nat}(h:iz w j l own)(D:List En)(q:∀e∈D,e.P w/\∀b∈e.fp,b∉own):
  ∃(s:Sl) (mp mv:Nat) (iK:Array MapEntry) (c1:Nat) (ia:Array MapEntry) (c2:Nat),kN iK (jE (xs l) 0)/\kN ia (iT (xs l))/\LH (·∈own) w w (mr j s mp mv l iK c1 ia c2) D:=by
 obtain⟨s,mp,mv,iK,c1,ia,c2,y,G,C,A,B⟩:=h;have x:∀e∈mr j s mp mv l iK c1 ia c2,∀b∈e.fp,b∈own:=λe d b k=>by rw[y];exact cc.2 ⟨e,d,k⟩
 exact⟨s,mp,mv,iK,c1,ia,c2,A,B,LH.th _ _ (λe d=>⟨C e d,x e d⟩) (y▸G) (λe d=>⟨(q e d).1,λb k z E F=>(q e d).2 b k (x z E b F)⟩)⟩
def iz.close{w Y:J}{d:Nat}{l:List Nd}{own:List Nat}{s:Sl}{mp mv:Nat}{iK:Array MapEntry}{c1:Nat}{ia:Array MapEntry}{c2:Nat}{D:List En}(H:LH (·∈own) w Y (mr d s mp mv l iK c1 ia c2) D)(h:kN iK (jE (xs l) 0))(j:kN ia (iT (xs l))):tF w d own l Y:=
 ⟨_,⟨s,mp,mv,iK,c1,ia,c2,rfl,H.nd,H.own,h,j⟩,H.fr,λy x=>by obtain⟨e,q,k⟩:=cc.1 x;exact(H.new e q y k).symm⟩
def NT:zy V agN dv cb (.int .i64 0):=⟨by kernel_rfl,by kernel_rfl,by kernel_rfl⟩
def NU:zy V agM dv cF (.agg #[.int .i64 0,.int .i64 0,.int .i64 0]):=⟨by kernel_rfl,by kernel_rfl,by kernel_rfl⟩
def _root_.Go.W.En.cl(p:Addr)(v:aa):En:=⟨[p.block],λh=>h.cell? p=some v,λh w k d=>by have q:=pe d;unfold World.cell? at d ⊢;rw[k p.block ws q];exact d,λh d b j=>by simp at j;subst j;exact pe d,ws⟩
def acO{l:List Nd}(t:ByteArray):∃(a b c:Int) (y:Bool),((kB (iT (xs l)) t).getD (.agg #[.int .i64 0,.int .i64 0,.int .i64 0]))=.agg #[.i a,.i b,.i c]/\(kB (iT (xs l)) t).isSome=y/\va (xs l) t=ae (.tuple #[.agg #[.i a,.i b,.i c],.bool y]):=by
 rw[IF];unfold va;cases kG (xs l) t with
 |none=>exact⟨0,0,0,false,rfl,rfl,rfl⟩
 |some s=>exact⟨s.k,s.n,s.x,true,rfl,rfl,rfl⟩
def Yf{w:J}{j:Nat}{l:List Nd}{s:Sl}{mp mv:Nat}{iK:Array MapEntry}{c1:Nat}{ia:Array MapEntry}{c2:Nat}{q:Addr}(h:∀e∈mr j s mp mv l iK c1 ia c2,e.P w)(D:kN ia (iT (xs l)))(E:w.cell? q=some (.pointer (some (ab j))))(t:ByteArray):
  ai V GA #[.string t,.pointer (some q)] w λr F=>r=va (xs l) t/\af w F:=by
 have x:LH F0 w w [] (mr j s mp mv l iK c1 ia c2++[.cl q (.pointer (some (ab j)))]):=bK _ (by
  intro e d;rcases aX.1 d with d|d
  .exact h e d
  .simp only[aq,aL,aO]at d;subst d;exact E)
 obtain⟨a,b,c,G,A,B,C⟩:=acO (l:=l) t;refine Wc.aC (x.aH λH K k=>⟨_,k.getD 4,qV ⟨some mv,cellAt (p:=ab j) (k.getD 0) rfl rfl,a,b,c,G,?_,k.aH λI L y=>y.ah λM z=>⟨C.symm,z.fr⟩⟩⟩);rw[NK NU (k.getD 3) D t,A,B]
def Yh{w:J}{q:Nat}{l:List Nd}{own:List Nat}{d:Nd}(h:iz w q l own)(U:∀e∈l,e.P w)(S:d.P w)(T:cq.P w)(Y:n4 d.x)(W:l.length<=1000000000)(hv:∀e∈xs l,cv e.st=true):
  ai V QX #[.pointer (some (ab q)),d.v] w λr F=>r=g0 (cK (xs l) d.x)/\af w F:=by
 obtain⟨s,mp,E,A,y,B,z,_,_,C,_,Q⟩:=h;have Z:aG w cP 9 s (l.flatMap Nd.c):=C _ (aD (i:=1) rfl);have H:LH F0 w w [] (mr q s mp E l A y B z++[.gr s l,dt d,cq]):=bK _ (by
  intro e k;rcases aX.1 k with k|k
  .exact C e k
  .simp only[aq,aL,aO]at k;rcases k with rfl|rfl|rfl
   .exact ch.2 ⟨Z.bf,U⟩
   .exact S
   .exact T)
 refine Wb.aC (H.nw λw1 _ I=>I.aH λb3 w2 K=>K.aH λb4 w3 L=>L.ah λG j=>⟨_,j.i5 0,qV ⟨s,cellAt (p:=ab q) (j.getD 0) rfl rfl,?_⟩⟩);have O:LH F0 G G [] (.gr s l::dt d::cq::(mr q s mp E l A y B z++[.cl (ab w.heap.size) (.pointer (some (ab q)))])):=bK _ (by
  intro e k;simp only[je,lY,aq,aL,aO]at k;rcases k with rfl|rfl|rfl|rfl|rfl|rfl|rfl|rfl
  .exact j.getD 4
  .exact j.getD 5
  .exact j.getD 6
  .exact j.getD 0
  .exact j.getD 1
  .exact j.getD 2
  .exact j.getD 3
  .exact j.i5 0)
 refine j.aA (agw ⟨GA,#[],#[.pointer (some (ab w.heap.size))]⟩ O (by kernel_rfl) (λF D=>?_) Y W hv) ?_
 .exact Yf (λe k=>D e (List.mem_append_left _ k)) Q (D (.cl (ab w.heap.size) (.pointer (some (ab q)))) ws) d.x.tx
 .rintro _ w5 rfl M;exact⟨_,_,_,_,rfl,M.ah λw6 N=>⟨rfl,N.fr⟩⟩
def pw(g:List Nx)(n:Nx):Int×Bool:=match ie n g 0 with
 |some i=>((i:Int),true)
 |none=>(0,false)
def find_eq{g:List Nx}{n:Nx}(d:0<=n.u)(h:∀e∈g,0<=e.u):(kB (jE g 0) (k0 n)).getD (.int .i64 0)=.i (pw g n).1/\(kB (jE g 0) (k0 n)).isSome=(pw g n).2:=by
 rw[G8 d h];unfold pw;cases ie n g 0 with
 |none=>exact⟨rfl,rfl⟩
 |some i=>exact⟨rfl,rfl⟩
def Ye{w:J}{k:Nat}{l:List Nd}{own:List Nat}{d:Nd}(h:iz w k l own)(K:d.P w)(W:fA d.x)(L:∀e∈xs l,0<=e.u):
  ai V QV #[.pointer (some (ab k)),d.v] w λr N=>r=ae (.tuple #[.i (pw (xs l) d.x).1,.bool (pw (xs l) d.x).2])/\af w N:=by
 obtain⟨s,mp,M,F,B,G,C,_,_,I,H,_⟩:=h;have z:LH F0 w w [] (mr k s mp M l F B G C++[dt d]):=bK _ (by
  intro e j;rcases aX.1 j with j|j
  .exact I e j
  .simp only[aq,aL,aO]at j;subst j;exact K)
 refine Wa.ok (z.nw λO _ A=>A.dr λQ q=>⟨some mp,cellAt (p:=ab k) (q.getD 0) rfl rfl,q.call (V4 (d:=d) (A2 (q.ob 0)) (q.getD 4) W) ?_⟩);rintro _ S rfl y;obtain⟨D,E⟩:=find_eq W.u.1 L;refine⟨_,rfl,cellAt (p:=ab k) (y.getD 0) rfl rfl,(pw (xs l) d.x).1,(pw (xs l) d.x).2,?_,rfl,y.fr⟩;have:=NK NT (y.getD 2) H (k0 d.x);rw[D,E]at this;exact this
def Jq{w:J}{A:Nat}{l:List Nd}{own:List Nat}{d:Nd}(h:iz w A l own)(hd:d.P w)(al:∀b∈(dt d).fp,b∉own)(W:fA d.x)(hu:∀e∈xs l,0<=e.u)(hl:l.length<=100000)(am:d.x∉xs l)(ao:d.x.op=0->kG (xs l) d.x.tx=none):
  ai V QW #[.pointer (some (ab A)),d.v] w λr U=>r=ae (.i (l.length:Int))/\tF w A own (l++[d]) U:=by
 obtain⟨s,mp,G,av,L,aj,N,h1,h2,aa⟩:=h.open [dt d] (by intro e he;simp only[aq,aL,aO]at he;subst he;exact⟨hd,al⟩)
 have hn:s.n=l.length:=Nd.cI (show bN 9 w s (l.flatMap Nd.c)from(show aG w cP 9 s (l.flatMap Nd.c)from aa.get 1).bf);have g1:kB (jE (xs l) 0) (k0 d.x)=none:=by
  rw[G8 W.u.1 hu];cases hi:ie d.x (xs l) 0 with
  |none=>rfl
  |some i=>
   have:=(Aq hi).2;exact absurd (aD this) am
 have ad:xs (l++[d])=xs l++[d.x]:=by simp[xs]
 have p1:jE (xs (l++[d])) 0=jE (xs l) 0++[(k0 d.x,.i (l.length:Int))]:=by rw[ad,SC];simp[xs]
 have p2:iT (xs (l++[d]))=iT (xs l)++(if d.x.op=0 then[(d.x.tx,ei d.x.st)]else[]):=by rw[ad,WI]
 have ac:∀(E:Array MapEntry) (M:Nat) (z:Array MapEntry) (O S:Nat) (I:J),kN E (jE (xs (l++[d])) 0)->kN z (iT (xs (l++[d])))->LH (·∈own) w I (mr A s mp G l E M z O++[.c S d.c cP]) [dt d]->
   B4.S0 (ab A) (ab S) I λr U=>r=ae (.i (l.length:Int))/\tF w A own (l++[d]) U:=by
  intro E M z O S I H q2 K;dsimp only[B4.S0,ak];refine K.dr λY j=>⟨s,j.ld 0 0,?_⟩;refine⟨d.x.op,d.ks,d.x.n,d.x.m,d.x.u,d.x.tx,d.x.st.k,d.x.st.n,d.x.st.x,j.ld 4 0,j.ld 4 1,j.ld 4 2,j.ld 4 3,j.ld 4 4,j.ld 4 5,j.ld 4 6,j.ld 4 7,j.ld 4 8,j.nw λw3 _ q=>⟨q.ld 0 0,?_⟩⟩;have af:bN 9 w3 ⟨some (ab Y.heap.size),1,1⟩ ([d].flatMap Nd.c):=by rw[show[d].flatMap Nd.c=d.c by simp];exact w6 (T:=cP) (q.ob 5) rfl
  refine q.ap 1 oh (src:=⟨some (ab Y.heap.size),1,1⟩) rfl af.2.2 af.1 sK (by simp only;omega) (λs' Z B an _=>B.st 0 0 rfl (λw5 y=>⟨s',y.ld 0 0,?_⟩));refine⟨?_,iz.close (s:=s') (mp:=mp) (mv:=G) (iK:=E) (c1:=M) (ia:=z) (c2:=O) (D:=[dt d]) ?_ H q2⟩
  .rw [an,aQ _ (by simp only;omega)];simp only;rw[hn];congr 2;omega
  .have:=y.take 4;unfold mr;rw[show(l++[d]).flatMap Nd.c=l.flatMap Nd.c++[d].flatMap Nd.c from cW];exact this
 refine B4.ok (aa.nw λI _ K=>K.dr λY j=>⟨some mp,j.ld 0 1,s,j.ld 0 0,j.call (V4 (d:=d) (A2 (j.ob 4)) (j.getD 0) W) ?_⟩);rintro _ w3 rfl q;obtain⟨Z,C,u1,u2,u3,u4,_⟩:=WE NT (q.ob 2) h1 (k0 d.x) (.i (s.n:Int)) g1;have B:=q.g4 2 (.ob mp (.map C (L+1))) rfl (u4.mono λar _ e=>by simp[En.ob,e]) u2 (λb Q=>.inl Q);have H:kN C (jE (xs (l++[d])) 0):=by rw[p1,<-hn];exact u3
 refine⟨_,rfl,q.ld 0 0,q.ld 0 1,Z,u1,d.x.op,B.ld 4 0,aP (λF=>?_) (λF=>?_)⟩
 .refine B.dr λw5 y=>⟨some G,y.ld 0 2,d.x.tx,y.ld 4 5,?_⟩;have g2:kB (iT (xs l)) d.x.tx=none:=by rw[IF,ao F];rfl
  obtain⟨ah,z,v1,v2,v3,v4,_⟩:=WE NU (y.ob 3) h2 d.x.tx (ei d.x.st) g2;have H6:=y.g4 3 (.ob G (.map z (N+1))) rfl (v4.mono λar _ e=>by simp[En.ob,e]) v2 (λb Q=>.inl Q);have a:=A2 (d:=d) (y.ob 4);refine⟨d.x.st.k,d.x.st.n,d.x.st.x,a.s0,a.s1,a.s2,ah,v1,ac C (L+1) z (N+1) w.heap.size ah H ?_ H6⟩;rw[p2,au F];exact v3
 .refine ac C (L+1) aj N w.heap.size Z H ?_ B;rw[p2,ag F,dy];exact h2
def iz.st{w Y:J}{d:Nat}{l:List Nd}{own:List Nat}(h:iz w d l own)(k:∀b∈own,b<w.heap.size->Y.heap[b]? =w.heap[b]?):iz Y d l own:=by obtain⟨s,mp,H,z,x,A,y,q,G,D,B,C⟩:=h;exact⟨s,mp,H,z,x,A,y,q,G,λe j=>e.st w Y (λb E F=>k b (by rw[q];exact cc.2 ⟨e,j,E⟩) F) (D e j),B,C⟩
def iz.lt{w:J}{j:Nat}{l:List Nd}{own:List Nat}(h:iz w j l own):∀b∈own,b<w.heap.size:=by obtain⟨s,mp,F,A,y,B,z,x,E,k,C,D⟩:=h;intro b d;rw[x]at d;obtain⟨e,q,d⟩:=cc.1 d;exact e.lt w (k e q) b d
def _root_.Go.W.En.bu(k:Nat)(own:List Nat)(l:List Nd):En:=⟨kp own,λj=>iz j k l own,λj w q h=>h.st λb d=>q b (aT.2 d),λj h b d=>h.lt b (aT.1 d),pH _⟩
def Yw(w:J)(d:Nat)(own:List Nat)(l:List Nd)(b:Nat):¬(En.bu d own l).P ({w with heap:=Array.replicate (b+1) (.map #[] 0)}):=by rintro⟨s,mp,D,x,k,y,q,C,B,j,z,A⟩;have h:=j _ (aD (i:=0) rfl);exact xa w d _ wg b h
section
variable {M:Nat->Prop} {w0 w:J} {L D:List En} {U:List Nat}
def _root_.Go.W.LH.Yv(H:LH M w0 w L D)(i:Nat){d:Nat}{own:List Nat}{l k:List Nd}{Y:J}(hi:L[i]? =some (.bu d own l))(h:tF w d own k Y):∃j,LH M w0 Y (L.set i (.bu d j k)) D/\iz Y d k j:=by obtain⟨j,r,f,o⟩:=h;exact⟨j,H.g4 i (.bu d j k) hi (f.mono λy _ x=>aT.2 x) r (λb q=>(o b (aT.1 q)).imp aT.2 id),r⟩
def _root_.Go.W.LH.Jv(H:LH M w0 w L D)(i:Nat){h:Nat}{own:List Nat}{l q:List Nd}{P:Program}{g:FuncId}{args:Array aa}{A:bW->Prop}{K:aK}(hi:L[i]? =some (.bu h own l))(B:ai P g args w λr d=>A r/\tF w h own q d)(C:∀r d j,A r->LH M w0 d (L.set i (.bu h j q)) D->K r d)(bG:∀b∈U,En.g b∈L:=by simp):ep U P g args w K:=
 ⟨(·∈own),λb z E=>ou H hi (Yw w h own l) (bG b z) (aT.2 E),B.mono λr d ⟨y,k⟩=>by obtain⟨_,_,f,_⟩:=id k;obtain⟨j,x,_⟩:=H.Yv i hi k;exact⟨f,C r d j y x⟩⟩
end
def iz.nil(w:J):tF w (w.heap.size+2) [] [] ((((w.alloc (.map #[] 0)).alloc (.map #[] 0)).alloc (.cells #[.slice none 0 0,.map (some w.heap.size),.map (some (w.heap.size+1))] wg))):=by
 have q:(w.alloc (.map #[] 0)).heap.size=w.heap.size+1:=size_alloc _ _;have z:((w.alloc (.map #[] 0)).alloc (.map #[] 0)).heap.size=w.heap.size+2:=by rw[size_alloc,q]
 have x:(w.alloc (.map #[] 0)).heap[w.heap.size]? =some (.map #[] 0):=kX w _;have y:=(Fr.alloc F0 (w.alloc (.map #[] 0)) (.map #[] 0)).at x id;have k:=kX (w.alloc (.map #[] 0)) (.map #[] 0);rw[q]at k;have d:=Fr.alloc F0 ((w.alloc (.map #[] 0)).alloc (.map #[] 0)) (.cells #[.slice none 0 0,.map (some w.heap.size),.map (some (w.heap.size+1))] wg);have c:=kX ((w.alloc (.map #[] 0)).alloc (.map #[] 0)) (.cells #[.slice none 0 0,.map (some w.heap.size),.map (some (w.heap.size+1))] wg);rw[z]at c;have f:af w (((w.alloc (.map #[] 0)).alloc (.map #[] 0)).alloc (.cells #[.slice none 0 0,.map (some w.heap.size),.map (some (w.heap.size+1))] wg)):=((Fr.alloc F0 w _).dO (Fr.alloc F0 _ _)).dO d;refine⟨_,⟨⟨none,0,0⟩,w.heap.size,w.heap.size+1,#[],0,#[],0,rfl,?_,λe j=>?_,rfl,rfl⟩,f.pI,λA h=>?_⟩
 .show ([w.heap.size+2]++([]++([w.heap.size]++([w.heap.size+1]++[])))).Nodup;simp
 .simp only[aq,aL,aO]at j;rcases j with rfl|rfl|rfl|rfl
  .exact c
  .exact aG.nil _ _ _
  .exact d.at y id
  .exact d.at k id
 .have h:A∈[w.heap.size+2]++([]++([w.heap.size]++([w.heap.size+1]++[]))):=h;simp at h;right;omega
def IG{g:List Nx}(h:Vg g):∀i j,g[i]? =some j->j∉g.take i:=by
 induction h with
 |nil=>intro i j d;simp at d
 |@snoc g n x y q w=>
  intro i j d;rcases Nat.lt_or_ge i g.length with k|k
  .rw [List.getElem?_append_left k]at d;rw[List.take_append_of_le_length co];exact w i j d
  .rw [pO k]at d;have:i - g.length=0:=by have:=(cX.1 d).1;simp at this;omega
   rw[this]at d;simp at d;subst d;rw[show i=g.length by omega,List.take_left];exact q
def WJ{g:List Nx}(h:Vg g){i:Nat}{d:Nx}(j:g[i]? =some d)(x:d.op=0):kG (g.take i) d.tx=none:=by
 cases A:kG (g.take i) d.tx with
 |none=>rfl
 |some s=>
  obtain⟨e,k,q,w,_⟩:=IE A;obtain⟨B,y⟩:=List.mem_iff_getElem?.1 (ky k);have z:=h.vars e (ky k) q d (aD j) x w;have:=var_eq (h.HX B e y) (h.HX i d j) q x w z;exact absurd (this▸k) (IG h i d j)
def Yg{w:J}{s:Sl}{l:List Nd}(h:GP w s l)(O:Vg (xs l))(N:∀j∈xs l,fA j)(hl:l.length<=100000):
  ai V Rf #[.agg #[s.v]] w λr E=>(∃q own,r=ae (.pointer (some (ab q)))/\iz E q l own/\∀B∈own,w.heap.size<=B)/\af w E:=by
 have hn:=i4 h;have P:LH F0 w w [] [.gr s l]:=bK _ (by intro e D;simp only[aq,aL,aO]at D;subst D;exact ch.2 h)
 have loop:∀(m i A q:Nat) (own:List Nat) (y:J),i+m=l.length->LH F0 w y [.g A,.bu q own (l.take i)] [.gr s l]->
   y4.a6 (ab q) s (s.n:Int) (i:Int) y λr E=>(∃q own,r=ae (.pointer (some (ab q)))/\iz E q l own/\∀B∈own,w.heap.size<=B)/\af w E:=by
  intro m;induction m with
  |zero=>
   intro i A q own y W z;refine y4.bD (aN (aW co) ⟨⟨q,own,rfl,?_,λB L=>(z.new _ (aD (i:=1) rfl) B (aT.2 L)).resolve_right id⟩,z.fr⟩);have:=z.get 1;rw[List.take_of_length_le co]at this;exact this
  |succ m Z=>
   intro i A q own y W z;have C:l[i]? =some (l[i]'co):=a' co;generalize l[i]'co=j at C;refine y4.bD (aM (aR co) (iM (ch.1 (z.getD 0)) rfl C λp hp c=>⟨j.x.op,j.ks,j.x.n,j.x.m,j.x.u,j.x.tx,j.x.st.k,j.x.st.n,j.x.st.x,c.c0,c.c1,c.c2,c.c3,c.c4,c.c5,c.c6,c.c7,c.c8,z.aH λb5 w2 G=>G.ah λw3 F=>?_⟩));have K:=aD C;have M:=zj C;have H:xs (l.take i)=(xs l).take i:=by simp[xs,List.map_take]
   have T:l.take (i+1)=l.take i++[j]:=by rw[dV,C];rfl
   refine F.Jv 1 rfl (Jq (l:=l.take i) (d:=j) (F.get 1) ((ch.1 (F.getD 0)).2 j K) (λb I Y=>F.dj (.gr s l) ws b (ov.2 (.inr ⟨j,K,I⟩)) (.bu q own (l.take i)) ws (aT.2 Y)) (N _ (bS.2 ⟨j,K,rfl⟩)) (λe D=>(N e (by rw[H]at D;exact ky D)).u.1) (by rw[f'];omega) (by rw[H];exact IG O i j.x M) (λU=>by rw[H];exact WJ O M U)) ?_;rintro _ w4 aa rfl Q;refine⟨_,rfl,?_⟩;rw[bc _ co];refine Z (i+1) A q aa w4 co ?_;rw[T];exact Q.take 2
 refine y4.aC (P.aH λA y z=>?_);obtain⟨own,r,f,o⟩:=iz.nil y;have G:=(z.fresh (f.mono λB _ L=>by cases L)).own (.bu (y.heap.size+2) own []) r (λb I=>(o b (aT.1 I)).resolve_left ws);have S:((y.alloc (.map #[] 0)).alloc (.map #[] 0)).heap.size=y.heap.size+2:=by rw[size_alloc,size_alloc]
 have:=loop l.length 0 A (y.heap.size+2) own _ co G;have s1:(y.alloc (.map #[] 0)).heap.size=y.heap.size+1:=size_alloc _ _;rw[<-S,<-s1]at this;exact this
def qb:List Nx->List Nx->Int
 |_,[]=>0
 |g,n::r=>if(cK g n).2≠0 then(cK g n).2 else if(cK g n).1≠n.st then 9 else if n∈g then 8 else qb (g++[n]) r
def WK(g:List Nx)(n:Nx)(r:List Nx):qb g (n::r)=if(cK g n).2≠0 then(cK g n).2 else if(cK g n).1≠n.st then 9 else if n∈g then 8 else qb (g++[n]) r:=rfl
def gL(g:List Nx):Int:=if 4096<g.length then 4 else qb [] g
def aaH{g:List Nx}{n:Nx}:(pw g n).2=av (n∈g):=by
 unfold pw;cases d:ie n g 0 with
 |none=>exact(aW (Fl d)).symm
 |some i=>exact(aR (aD (Aq d).2)).symm
def Ig{w:J}{s:Sl}{l:List Nd}(h:GP w s l)(hk:cq.P w)(E:l.length<=4096->∀j∈l,n4 j.x/\fA j.x):
  ai V QT #[.agg #[s.v]] w λr U=>r=ae (.i (gL (xs l)))/\af w U:=by
 have hn:=i4 h;have al:(xs l).length=l.length:=by simp[xs]
 have aa:LH F0 w w [] [.gr s l,cq]:=bK _ (by
  intro e F;simp only[aq,aL,aO]at F;rcases F with rfl|rfl
  .exact ch.2 h
  .exact hk)
 refine y2.aC (aa.aH λD G z=>aF (λac=>⟨by unfold gL;rw[au co],z.fr⟩) (λac=>?_));have E:=E co;have aj:gL (xs l)=qb [] (xs l):=by unfold gL;rw[ag co]
 rw[aj];have loop:∀(m i D q:Nat) (own:List Nat) (G:J),i+m=l.length->Vg ((xs l).take i)->qb ((xs l).take i) ((xs l).drop i)=qb [] (xs l)->LH F0 w G [.g D,.bu q own (l.take i)] [.gr s l,cq]->
   y2.a6 (some (ab q)) s (s.n:Int) (i:Int) G λr U=>r=ae (.i (qb [] (xs l)))/\af w U:=by
  intro m;induction m with
  |zero=>
   intro i D q own G hi T y z;refine y2.bD (aN (aW co) ⟨?_,z.fr⟩);rw[<-y,c9 co];rfl
  |succ m ih=>
   intro i D q own G hi T y z;have L:l[i]? =some (l[i]'co):=a' co;have hx:(xs l).drop i=(l[i]'co).x::(xs l).drop (i+1):=by rw[dz (by omega:i<(xs l).length)];simp[xs]
   generalize l[i]'co=j at L hx;have C:=aD L;have W:=zj L;have K:xs (l.take i)=(xs l).take i:=by simp[xs,List.map_take]
   have es:l.take (i+1)=l.take i++[j]:=by rw[dV,L];rfl
   have ex:(xs l).take (i+1)=(xs l).take i++[j.x]:=by rw[dV,W];rfl
   rw[hx,WK]at y;have Z:∀e∈xs (l.take i),0<=e.u:=λe F=>by obtain⟨a,ha,rfl⟩:=bS.1 F;exact(E a (ky ha)).2.u.1
   refine y2.bD (aM (aR co) (iM (ch.1 (z.getD 0)) rfl L λp hp c=>⟨j.x.op,j.ks,j.x.n,j.x.m,j.x.u,j.x.tx,j.x.st.k,j.x.st.n,j.x.st.x,c.c0,c.c1,c.c2,c.c3,c.c4,c.c5,c.c6,c.c7,c.c8,z.aH λb5 w2 O=>O.ah λw3 H=>?_⟩));refine H.aA (Yh (l:=l.take i) (d:=j) (H.get 1) (λe F=>(ch.1 (H.getD 0)).2 e (ky F)) ((ch.1 (H.getD 0)).2 j C) (H.getD 1) (E j C).1 (by rw[f'];omega) (by rw[K];exact T.val)) ?_;rintro _ w4 rfl H4;rw[K];refine⟨_,_,_,_,rfl,H4.aH λb6 w5 Q=>dA (λB=>Q.ah λw6 A=>⟨by rw[<-y,au B],A.fr⟩) (λB=>BK (a:=(cK ((xs l).take i) j.x).1) (b:=j.x.st) (λN=>Q.ah λw6 A=>⟨by rw[<-y,ag (λh=>h B),au N],A.fr⟩) (λN=>Q.ah λw6 A=>?_))⟩;rw[ag (λh=>h B),ag (λh=>h N)]at y;refine A.aA (Ye (l:=l.take i) (d:=j) (A.get 1) ((ch.1 (A.getD 0)).2 j C) (E j C).2 Z) ?_;rintro _ w7 rfl I;refine⟨_,_,rfl,?_⟩;rw[aaH,K];refine aF (λM=>⟨by rw[<-y,au M],I.fr⟩) (λM=>?_);rw[ag M]at y;have Y:Vg ((xs l).take (i+1)):=by rw[ex];exact .snoc T (by rw[<-N,<-B]) M
   have gt:((xs l).take (i+1))[i]? =some j.x:=by rw[List.getElem?_take,au co];exact W
   have ad:((xs l).take (i+1)).take i=(xs l).take i:=by rw[List.take_take];congr 1;omega
   refine I.Jv 1 rfl (Jq (l:=l.take i) (d:=j) (I.get 1) ((ch.1 (I.getD 0)).2 j C) (λb S hm=>I.dj (.gr s l) ws b (ov.2 (.inr ⟨j,C,S⟩)) (.bu q own (l.take i)) ws (aT.2 hm)) (E j C).2 Z (by rw[f'];omega) (by rw[K];exact M) (λB=>by rw[K,<-ad];exact WJ Y gt B)) ?_;rintro _ w8 ak rfl H8;refine⟨_,rfl,?_⟩;rw[bc _ co];refine ih (i+1) D q ak w8 co Y (by rw[ex];exact y) ?_;rw[es];exact H8.take 2
 refine z.iF (Yg (s:=⟨none,0,0⟩) (l:=[]) ⟨bN.nil 9 G,ws⟩ .nil (by simp[xs]) ws) ?_;rintro _ w2 ⟨q,own,rfl,r,o⟩ _ F2;have O:=F2.own (.bu q own []) r (λb S=>o b (aT.1 S));exact⟨_,rfl,loop l.length 0 D q own w2 co .nil rfl O⟩
def _root_.Go.W.En.wr(q:Nat)(U:List UInt8)(own:List Nat):En:=⟨kp own,λh=>fQ h q U own,λh z y k=>(by obtain⟨s,rfl,w,j⟩:=k;have x:∀b∈q::az s,z.heap[b]? =h.heap[b]?:=λb d=>y b (aT.2 d) (fQ.lt ⟨s,rfl,w,j⟩ b d);exact⟨s,rfl,(x q ws).trans w,j.1,j.2.cB λb d _=>x b (by simp[d])⟩),λh k b d=>k.lt b (aT.1 d),pH _⟩
def ahe(h:Nat)(U:List UInt8)(own:List Nat)(w:J)(b:Nat):¬(En.wr h U own).P ({w with heap:=Array.replicate (b+1) (.map #[] 0)}):=by rintro⟨s,_,d,_⟩;simp[Array.getElem?_replicate]at d
section
variable {M:Nat->Prop} {w0 w:J} {L D:List En} {U:List Nat}
def _root_.Go.W.LH.wm(H:LH M w0 w L D)(i:Nat){d:Nat}{l q:List UInt8}{own:List Nat}{g:FuncId}{args:Array aa}{K:aK}(hi:L[i]? =some (.wr d l own))(x:fQ w d l own->ai V g args w (nn w d own q))(y:∀j h,LH M w0 j (L.set i (.wr d q h)) D->K (ae (.tuple #[])) j)(bG:∀b∈U,En.g b∈L:=by simp):ep U V g args w K:=by
 refine⟨(·∈own),λb k z=>?_,(x (H.get i hi)).mono λr j ⟨A,h,C,f,o⟩=>⟨f,?_⟩⟩
 .exact ou H hi (ahe d l own w) (bG b k) (aT.2 z)
 .subst A;refine y j h (H.g4 i (.wr d q h) hi (f.mono λE _ B=>aT.2 B) C λb k=>?_);exact(o b (aT.1 k)).imp aT.2 id
def _root_.Go.W.LH.GF(H:LH M w0 w L D){K:J->Prop}(j:∀d,LH M w0 d (L++[.wr w.heap.size [] [w.heap.size]]) D->K d):dG w (.cells #[.slice none 0 0] tt) K:=
 j _ (H.push _ (Fr.alloc _ _ _) (fQ.new w) λb h=>by have:=aT.1 h;simp at this;omega)
end
def cL(g:List Nx):List UInt8:=bJ g.length++g.flatMap dJ
def A5{z:Nat}:∀{g:List Nx},(∀d∈g,(dJ d).length<=z)->(g.flatMap dJ).length<=z *g.length
 |[],_=>ws
 |d::g,h=>by have k:=A5 (g:=g) λe j=>h e (by simp[j]);have q:=h d ws;simp only[cH,a7,bR];rw[Nat.mul_add,Nat.mul_one];omega
def IX(g:List Nx)(w:J)(r:bW)(Y:J):Prop:=∃t:Sl,r=ae (.tuple #[t.v,.i (gL g)])/\(gL g=0->e0 Y t (cL g)/\∀b∈az t,w.heap.size<=b)
def V1{w:J}{s:Sl}{l:List Nd}(h:GP w s l)(hk:cq.P w)(A:l.length<=4096->∀d∈l,n4 d.x/\fA d.x)(hz:∀d∈xs l,(dJ d).length<=1000000):
  ai V QS #[.agg #[s.v]] w λr q=>IX (xs l) w r q/\af w q:=by
 have N:=i4 h;have ae:(xs l).length=l.length:=by simp[xs]
 have U:LH F0 w w [] [.gr s l,cq]:=bK _ (by
  intro e B;simp only[aq,aL,aO]at B;rcases B with rfl|rfl
  .exact ch.2 h
  .exact hk)
 refine y1.aC (U.aH λF w1 D=>D.aA (Ig (ch.1 (D.getD 0)) (D.getD 1) A) ?_);rintro _ C rfl I;refine⟨_,rfl,dA (λk=>⟨⟨⟨none,0,0⟩,rfl,λh=>absurd h k⟩,I.fr⟩) (λk=>I.GF λw3 W=>?_)⟩;have ac:l.length<=4096:=by
  rcases Nat.lt_or_ge 4096 l.length with h|h
  .unfold gL at k;rw[au co]at k;cases k
  .exact h
 have A:=A ac;have Q:∀i,(((xs l).take i).flatMap dJ).length<=4096000000:=λi=>by
  have:=A5 (g:=(xs l).take i) λd hd=>hz d (ky hd);rw[f']at this;have h2:min i (xs l).length<=4096:=co
  omega
 have M:aY (s.n:Int):=⟨co,co⟩;have B:=dk _ M;rw[N]at B;refine W.wm 1 rfl (λr=>mn r _ M ws) λS own E=>?_;have E:LH F0 w S [.g F,.wr C.heap.size (bJ (l.length:Int)++((xs l).take 0).flatMap dJ) own] [.gr s l,cq]:=by rw[List.take_zero,List.flatMap_nil,dy,<-N];exact E
 have loop:∀(m i:Nat) (own:List Nat) (y:J),i+m=l.length->LH F0 w y [.g F,.wr C.heap.size (bJ (l.length:Int)++((xs l).take i).flatMap dJ) own] [.gr s l,cq]->
   y1.a6 F s (ab C.heap.size) (s.n:Int) (i:Int) y λr q=>IX (xs l) w r q/\af w q:=by
  intro m;induction m with
  |zero=>
   intro i own y aa j;refine y1.bD (aN (aW co) ?_);have aj:fQ y C.heap.size (bJ (l.length:Int)++((xs l).take i).flatMap dJ) own:=j.get 1;refine gn ((Co aj (by have:=Q i;simp only[a7];omega)).mono ?_);rintro _ T ⟨t,rfl,O,K,hf⟩;rw[List.take_of_length_le co]at O;refine⟨K,t,rfl,⟨t,by rw[k],λ_=>⟨?_,λb G=>bb j.fr.size (hf b G)⟩⟩,j.fr.dO K⟩;unfold cL;rw[ae];exact O
  |succ m ih=>
   intro i own y aa j;have z:l[i]? =some (l[i]'co):=a' co;generalize l[i]'co=d at z;have H:=aD z;have Z:=zj z;have ex:(xs l).take (i+1)=(xs l).take i++[d.x]:=by rw[dV,Z];rfl
   refine y1.bD (aM (aR co) (abq (ch.1 (j.getD 0)) z rfl λp hp c=>?_));have L:∀b,b∈(En.gr s l).fp->b∉own:=λb G hm=>j.dj (.gr s l) ws b G _ (aD (i:=1) rfl) (aT.2 hm);have ad:(p.add (a0 (i:Int) *9)).block∈(En.gr s l).fp:=by refine ov.2 (.inl ?_);show _∈(if l.flatMap Nd.c=[]then[]else az s);rw[ag (λe=>by have:=congrArg List.length e;rw[Nd.e1]at this;simp at this;omega)];simp[az,hp,jO]
   refine j.wm 1 rfl (λr=>V5 r c ((ch.1 (j.getD 0)).2 d H) (L _ ad) (λak hx=>L ak (ov.2 (.inr ⟨d,H,hx⟩))) (A d H).2 (by have:=Q i;simp only[a7];omega)) λT ah Y=>⟨rfl,?_⟩;rw[bc _ co];refine ih (i+1) ah T co ?_;rw[ex,cW,<-ck,cH,List.flatMap_nil,dy];exact Y
 exact⟨rfl,loop l.length 0 own S co E⟩
def adr{n:Nx}(W:fA n)(B:n.kids.length<=100)(C:n.tx.size<=1000):(dJ n).length<=1000000:=by have h:=dk _ W.op;have j:=lO _ W.ks;have k:=dk _ W.n;have q:=dk _ W.m;have w:=eM n.u.toNat (by have:=W.u;omega);have x:=dk _ W.sk;have y:=dk _ W.sn;have z:=dk _ W.sx;have A:=eM n.kids.length co;have d:=eM (bl n.tx).length (by rw[dY];omega);have D:=dY n.tx;unfold dJ cY dF;simp only[a7];omega
def TA:∀(n:Nat) (st:RS),(fo n st).2.U.length<=st.U.length
 |0,st=>br _
 |n+1,st=>by
  have j:(bd st).2.U.length<=st.U.length:=Bw (st:=st) (br _);simp only[fo];by_cases h:(bd st).2.err≠0
  .simp only[au h];exact j
  .simp only[ag h];have k:=TA n (bd st).2;by_cases d:(fo n (bd st).2).2.err≠0
   .simp only[au d];omega
   .simp only[ag d];omega
def vG(st:RS):(cA st).1.length<=st.U.length/\(cA st).2.U.length<=st.U.length:=by
 have d:=Tw st;unfold cA;generalize iQ st=q at d ⊢;obtain⟨n,s⟩:=q;dsimp only at d ⊢;split
 .exact ⟨dW _,d.2⟩
 .simp only[f',List.length_drop];omega
def vF(st:RS):(c' st).1.length<=st.U.length/\(∀j∈(c' st).1,aY j)/\(c' st).2.U.length<=st.U.length:=by
 have d:=Tw st;unfold c';generalize iQ st=q at d ⊢;obtain⟨n,s⟩:=q;dsimp only at d ⊢;split
 .exact ⟨dW _,ws,d.2⟩
 .have h:=Tz n s;have k:=TA n s;exact⟨co,h.2,co⟩
def k'(st:RS):aY (bd st).1/\(bd st).2.U.length<=st.U.length:=⟨WD _ (vH st),Bw (st:=st) (br _)⟩
def fq(st:RS):Nx×RS:=
 let o:=bd st
 let d:=c' o.2
 let n:=bd d.2
 let m:=bd n.2
 let u:=ft m.2
 let t:=cA u.2
 let a:=bd t.2
 let b:=bd a.2
 let c:=bd b.2
 (⟨o.1,d.1,n.1,m.1,(u.1:Int),ba t.1,⟨a.1,b.1,c.1⟩⟩,c.2)
def gI:Nat->RS->List Nx×RS
 |0,st=>([],st)
 |n+1,st=>((fq st).1::(gI n (fq st).2).1,(gI n (fq st).2).2)
def gp(U:List UInt8):List Nx×Int:=
 if(bd ⟨U,0⟩).1<0\/4096<(bd ⟨U,0⟩).1 then([],2)else
 if iP (gI (bd ⟨U,0⟩).1.toNat (bd ⟨U,0⟩).2).2≠0 then([],2)else
 if gL (gI (bd ⟨U,0⟩).1.toNat (bd ⟨U,0⟩).2).1≠0 then([],2)else((gI (bd ⟨U,0⟩).1.toNat (bd ⟨U,0⟩).2).1,0)
def aeK{d:Nx}(W:fA d)(r:List UInt8):fq ⟨dJ d++r,0⟩=(d,⟨r,0⟩):=by
 obtain⟨op,h,n,m,u,j,⟨a,b,c⟩⟩:=d;have k:=W.u;have w:=W.tx;have q:=W.kl;dsimp only at k w q;have e:dJ ⟨op,h,n,m,u,j,⟨a,b,c⟩⟩++r=bJ op++(cY h++(bJ n++(bJ m++(ew u.toNat++(dF (bl j)++(bJ a++(bJ b++(bJ c++r)))))))):=by unfold dJ;simp only[ck]
 unfold fq;rw[e];dsimp only;rw[mc _ W.op];dsimp only;rw[vE h co W.ks];dsimp only;rw[mc _ W.n];dsimp only;rw[mc _ W.m];dsimp only;rw[Hm _ co];dsimp only;rw[Bv (bl j) (by rw[dY];omega)];dsimp only;rw[mc _ W.sk];dsimp only;rw[mc _ W.sn];dsimp only;rw[mc _ W.sx,jt,Int.toNat_of_nonneg k.1]
def TD:∀{g:List Nx} (_:∀d∈g,fA d) (r:List UInt8),gI g.length ⟨g.flatMap dJ++r,0⟩=(g,⟨r,0⟩)
 |[],_,r=>rfl
 |d::g,W,r=>by rw[cH,ck,bR];unfold gI;rw[aeK (W d ws)];dsimp only;rw[TD (λe h=>W e (by simp[h]))]
def KI{g:List Nx}(W:∀h∈g,fA h)(q:g.length<=4096)(k:gL g=0):gp (cL g)=(g,0):=by have j:bd ⟨cL g,0⟩=((g.length:Int),⟨g.flatMap dJ,0⟩):=mc _ ⟨co,co⟩ _;have d:=TD W [];rw[dy]at d;unfold gp;rw[j];dsimp only;rw[bB,d,ag co];dsimp only;rw[ag (by unfold iP;simp),ag (by simpa using k)]
def aeJ{st:RS}(h:(fq st).2.err=0):st.err=0/\st.U=dJ (fq st).1++(fq st).2.U:=by obtain⟨K,A⟩:=ma h;obtain⟨I,z⟩:=ma K;obtain⟨H,y⟩:=ma I;obtain⟨G,x⟩:=Bu H;obtain⟨F,w⟩:=Hl G;obtain⟨E,q⟩:=ma F;obtain⟨D,k⟩:=ma E;obtain⟨C,j⟩:=vD D;obtain⟨B,d⟩:=ma C;refine⟨B,?_⟩;rw[d,j,k,q,w,x,y,z,A];unfold dJ fq;simp only[ck,bB,gm]
def TC:∀(n:Nat) {st:RS},(gI n st).2.err=0->st.err=0/\st.U=(gI n st).1.flatMap dJ++(gI n st).2.U/\(gI n st).1.length=n
 |0,st,d=>⟨d,rfl,rfl⟩
 |n+1,st,d=>by obtain⟨h,j,w⟩:=TC n (st:=(fq st).2) d;obtain⟨k,q⟩:=aeJ h;refine⟨k,?_,by show(gI n (fq st).2).1.length+1=n+1;omega⟩;show st.U=((fq st).1::(gI n (fq st).2).1).flatMap dJ++(gI n (fq st).2).2.U;rw[cH,ck,<-j];exact q
def aad{U:List UInt8}(h:(gp U).2=0):cL (gp U).1=U/\gL (gp U).1=0:=by
 unfold gp at h ⊢;split at h
 .cases h
 .rename_i A;rw[ag A];split at h
  .cases h
  .rename_i d;rw[ag d];split at h
   .cases h
   .rename_i w;rw[ag w];have d:iP (gI (bd ⟨U,0⟩).1.toNat (bd ⟨U,0⟩).2).2=0:=by simpa using d
    unfold iP at d;have x:(gI (bd ⟨U,0⟩).1.toNat (bd ⟨U,0⟩).2).2.err=0:=by
     split at d
     .rename_i j;exact absurd d j
     .rename_i j;simpa using j
    rw[ag (by simpa using x)]at d;have B:(gI (bd ⟨U,0⟩).1.toNat (bd ⟨U,0⟩).2).2.U=[]:=by
     split at d
     .cases d
     .rename_i j;exact vC co
    obtain⟨y,k,z⟩:=TC _ x;obtain⟨C,q⟩:=ma (st:=⟨U,0⟩) y;refine⟨?_,by simpa using w⟩;rw[B,dy]at k;unfold cL;dsimp only at q ⊢;rw[z,<-k,Int.toNat_of_nonneg co];exact q.symm
def TB(st:RS)(x:st.U.length<=1000000):fA (fq st).1/\(fq st).2.U.length<=st.U.length/\(fq st).1.kids.length<=st.U.length/\(fq st).1.tx.size<=st.U.length:=by have d:=k' st;have h:=vF (bd st).2;have s3:=k' (c' (bd st).2).2;have j:=k' (bd (c' (bd st).2).2).2;have y:=Bw (st:=(bd (bd (c' (bd st).2).2).2).2) (br _);have A:=vH (bd (bd (c' (bd st).2).2).2).2;have z:=vG (ft (bd (bd (c' (bd st).2).2).2).2).2;have k:=k' (cA (ft (bd (bd (c' (bd st).2).2).2).2).2).2;have q:=k' (bd (cA (ft (bd (bd (c' (bd st).2).2).2).2).2).2).2;have w:=k' (bd (bd (cA (ft (bd (bd (c' (bd st).2).2).2).2).2).2).2).2;unfold fq;dsimp only;refine⟨⟨d.1,h.2.1,by dsimp only;omega,s3.1,j.1,⟨by dsimp only;omega,by dsimp only;omega⟩,by dsimp only;rw[bU];omega,k.1,q.1,w.1⟩,co,co,by rw[bU];omega⟩
def TE:∀(n:Nat) (st:RS),st.U.length<=1000000->∀d∈(gI n st).1,fA d/\d.kids.length<=st.U.length/\d.tx.size<=st.U.length
 |0,st,_,d,h=>by cases h
 |n+1,st,w,d,h=>by
  obtain⟨j,y,k,q⟩:=TB st w;rcases aq.1 h with e|h
  .rw [e];exact⟨j,k,q⟩
  .obtain ⟨x,z,A⟩:=TE n (fq st).2 co d h;exact⟨x,co,co⟩
def g'(d:Nat):UInt8:=UInt8.ofNat (48+d)
def hc(c:UInt8):Bool:=av (48<=c.toNat)&&av (c.toNat<=57)
def cg(n:Nat):List UInt8:=if n<10 then[g' n]else cg (n / 10)++[g' (n%10)]
termination_by n
def bF(n:Int):List UInt8:=if n<0 then 45::cg n.natAbs else cg n.natAbs
def Ez:∀d<10,(g' d).toNat=48+d:=md
def KK:∀d<10,hc (g' d)=true:=md
def nu{n:Nat}(h:n<10):cg n=[g' n]:=by rw[cg,au h]
def r6{n:Nat}(h:¬n<10):cg n=cg (n / 10)++[g' (n%10)]:=by rw[cg,ag h]
def pn(n:Nat):∀c∈cg n,hc c=true:=by
 induction n using Nat.strongRecOn with
 |_ n j=>
  by_cases h:n<10
  .rw [nu h];intro c d;rw[List.mem_singleton.1 d];exact KK n h
  .rw [r6 h];intro c d;rcases aX.1 d with d|d
   .exact j (n / 10) co c d
   .rw [List.mem_singleton.1 d];exact KK _ (Nat.mod_lt _ co)
def eY(a:Nat)(l:List UInt8):Nat:=l.foldl (λa c=>10 *a+(c.toNat - 48)) a
def IB(a:Nat)(l:List UInt8)(c:UInt8):eY a (l++[c])=10 *eY a l+(c.toNat - 48):=by unfold eY;rw[List.foldl_append];rfl
def nR(n:Nat):eY 0 (cg n)=n:=by
 induction n using Nat.strongRecOn with
 |_ n h=>
  by_cases d:n<10
  .rw [nu d];show 10 *0+((g' n).toNat - 48)=n;rw[Ez n d];omega
  .rw [r6 d,IB,h (n / 10) co,Ez _ (Nat.mod_lt _ co)];omega
def uC(n:Nat):cg n≠[]:=by
 by_cases d:n<10
 .rw [nu d];simp
 .rw [r6 d];simp
def zZ{n k:Nat}(x:1<=k)(h:n<10^k):(cg n).length<=k:=by
 induction k generalizing n with
 |zero=>omega
 |succ k w=>
  by_cases j:n<10
  .rw [nu j];simp
  .have q:1<=k:=by
    rcases Nat.eq_zero_or_pos k with d|d
    .subst d;rw[Nat.zero_add,Nat.pow_one]at h;omega
    .exact d
   have:n / 10<10^k:=by rw[Nat.div_lt_iff_lt_mul co,<-Nat.pow_succ];exact h
   rw[r6 j,a7];have:=w q this;simp only[bR,dK];omega
def aaa(n:Nat):cg n=(List.range (cg n).length).map λd=>g' (n / 10^((cg n).length - 1 - d)%10):=by
 induction n using Nat.strongRecOn with
 |_ n q=>
  by_cases h:n<10
  .rw [nu h];show _=[g' (n / 10^0%10)];rw[Nat.pow_zero,Nat.div_one,Nat.mod_eq_of_lt h]
  .have i:=q (n / 10) co;rw[r6 h,a7,bR,dK,Nat.zero_add,List.range_succ,fK];have w:1<=(cg (n / 10)).length:=by
    cases k:cg (n / 10)with
    |nil=>exact absurd k (uC _)
    |cons c l=>simp
   congr 1
   .conv=>lhs;rw[i]
    refine List.map_congr_left λd j=>?_;have j:=List.mem_range.1 j;rw[Nat.div_div_eq_div_mul,<-Nat.pow_succ',show((cg (n / 10)).length - 1 - d).succ=(cg (n / 10)).length+1 - 1 - d by omega]
   .simp
def Cf(l:List UInt8)(h:∀c∈l,hc c=true):eY 0 l<10^l.length:=by
 have gen:∀(r l:List UInt8),(∀c∈r,hc c=true)->∀a,a<10^l.length->eY a r<10^(l.length+r.length):=by
  intro r;induction r with
  |nil=>intro l _ a d;exact d
  |cons c r x=>
   intro l k a d;have j:=k c ws;unfold hc at j;simp only[bH,decide_eq_true_eq]at j;have:=x (l++[c]) (λq w=>k q (by simp[w])) (10 *a+(c.toNat - 48)) (by rw[a7,bR,dK,Nat.zero_add,Nat.pow_succ];omega);rw[a7,bR,dK,Nat.zero_add,Nat.add_assoc,Nat.add_comm 1]at this;exact this
 simpa using gen l [] h 0 ws
def Eu{m n:Int}(h:bF m=bF n):m=n:=by
 have no:∀d:Nat,∀l,45::l≠cg d:=λd l e=>by have:=pn d 45 (by rw[<-e];simp);exact absurd this md
 unfold bF at h;split at h<;>split at h
 .injection h with _ h
  have:=congrArg (eY 0) h;rw[nR,nR]at this;omega
 .exact absurd h (no _ _)
 .exact absurd h.symm (no _ _)
 .have:=congrArg (eY 0) h;rw[nR,nR]at this;omega
def u3(c:UInt8):Bool:=hc c||c==45
def Et(n:Int):∀c∈bF n,u3 c=true:=by
 intro c d;unfold bF at d;unfold u3;split at d
 .rcases aq.1 d with rfl|d
  .rfl
  .rw [pn _ c d];rfl
 .rw [pn _ c d];rfl
def KF(n:Int):bF n≠[]:=by
 unfold bF;split
 .simp
 .exact uC _
def hd:List Int->List UInt8
 |[]=>[]
 |[n]=>bF n
 |n::m::r=>bF n++32::hd (m::r)
def cG(l:List Int):List UInt8:=40::hd l++[41]
def sw(n m:Int)(r:List Int):hd (n::m::r)=bF n++32::hd (m::r):=rfl
def M3:∀l:List Int,∀c∈hd l,u3 c=true\/c=32
 |[],c,d=>by cases d
 |[n],c,d=>.inl (Et n c d)
 |n::m::r,c,d=>by
  rw[sw]at d;rcases aX.1 d with d|d
  .exact .inl (Et n c d)
  .rcases aq.1 d with d|d
   .exact .inr d
   .exact M3 (m::r) c d
structure bO where
 kind:Int
 node:Int
 da:Int
 params:List Int
 nm:ByteArray
 bM:List Int
 hints:List Int
def j5:List (List UInt8):=[[103,97,116,101],[97,115,115,101,114,116],[97,120,105,111,109],[101,113,117,97,108],[108,101,109,109,97],[114,101,115,111,108,118,101]]
def g5(k:Int):List UInt8:=j5.getD k.toNat []
def hF(s:bO):List UInt8:=if bl s.nm=[]then[45]else bl s.nm
def cU(s:bO):List UInt8:=g5 s.kind++32::(bF s.node++32::(bF s.da++32::(hF s++32::(cG s.params++32::(cG s.hints++32::cG s.bM)))))
structure kO(s:bO):Prop where
 kind:0<=s.kind/\s.kind<=5
 node:aY s.node
 da:aY s.da
 params:∀x∈s.params,aY x
 bM:∀x∈s.bM,aY x
 hints:∀x∈s.hints,aY x
 nm1:32∉bl s.nm
 nm2:bl s.nm≠[45]
 nm3:∀l,bl s.nm≠40::l
def u1{c:UInt8}{b:List UInt8}:∀{a:List UInt8},c∉a->Go.Lib.indexByte (a++c::b) c=(a.length:Int)
 |[],_=>by simp[Go.Lib.indexByte]
 |j::a,d=>by
  simp only[aq,not_or]at d;have h:=u1 (b:=b) d.2;rw[je,Go.Lib.indexByte,ag (by simpa using λe=>d.1 e.symm),h];simp only[bR];split
  .rename_i e;simp at e;try omega
  .omega
def MB{c:UInt8}:∀{l:List UInt8},c∉l->Go.Lib.indexByte l c=-1
 |[],_=>rfl
 |h::l,d=>by simp only[aq,not_or]at d;rw[Go.Lib.indexByte,ag (by simpa using λe=>d.1 e.symm),MB d.2];first |rfl|skip
def F2{c:UInt8}:∀{l:List UInt8},c∈l->∃a b,l=a++c::b/\c∉a
 |h::l,j=>by
  by_cases e:h=c
  .exact ⟨[],l,by rw[e];rfl,ws⟩
  .obtain ⟨a,b,rfl,k⟩:=F2 ((aq.1 j).resolve_left λd=>e d.symm);exact⟨h::a,b,rfl,by simp only[aq,not_or];exact⟨λd=>e d.symm,k⟩⟩
def xn(c:UInt8)(l:List UInt8):(c∉l/\Go.Lib.indexByte l c=-1)\/∃a b,l=a++c::b/\c∉a/\Go.Lib.indexByte l c=(a.length:Int):=by
 by_cases d:c∈l
 .obtain ⟨a,b,e,h⟩:=F2 d;exact .inr ⟨a,b,e,h,by rw[e];exact u1 h⟩
 .exact .inl ⟨d,MB d⟩
def qz{c:UInt8}{a b d j:List UInt8}(h:c∉a)(w:c∉d)(e:a++c::b=d++c::j):a=d/\b=j:=by
 have x:=u1 (b:=b) h;rw[e,u1 w]at x;have y:a.length=d.length:=co
 obtain⟨k,q⟩:=List.append_inj e y;exact⟨k,by injection q⟩
def e8(c:UInt8):List UInt8->List (List UInt8)
 |[]=>[[]]
 |d::l=>if d=c then[]::e8 c l else(d::(e8 c l).headD [])::(e8 c l).tail
def BV(c:UInt8):∀l,e8 c l≠[]
 |[]=>by simp[e8]
 |d::l=>by unfold e8;split<;>simp
def tf{c:UInt8}{b:List UInt8}:∀{a:List UInt8},c∉a->e8 c (a++c::b)=a::e8 c b
 |[],_=>by rw[lY,e8,au rfl]
 |h::a,d=>by simp only[aq,not_or]at d;rw[je,e8,ag λe=>d.1 e.symm,tf d.2];rfl
def tg{c:UInt8}:∀{l:List UInt8},c∉l->e8 c l=[l]
 |[],_=>rfl
 |h::l,d=>by simp only[aq,not_or]at d;rw[e8,ag λe=>d.1 e.symm,tg d.2];rfl
def Z7{c:UInt8}{l:List UInt8}(h:c∉l):Go.Lib.countByte l c=0:=List.count_eq_zero.2 h
def Z6{c:UInt8}{a b:List UInt8}(h:c∉a):Go.Lib.countByte (a++c::b) c=Go.Lib.countByte b c+1:=by unfold Go.Lib.countByte;rw[List.count_append,List.count_eq_zero.2 h,List.count_cons_self,Nat.zero_add]
def Vk(c:UInt8)(l:List UInt8):(e8 c l).length=Go.Lib.countByte l c+1:=by
 generalize j:l.length=n;induction n using Nat.strongRecOn generalizing l with
 |_ n k=>
  rcases xn c l with⟨d,_⟩|⟨a,b,rfl,h,_⟩
  .rw [tg d,Z7 d];rfl
  .rw [tf h,Z6 h,bR,k b.length (by simp at j;omega) b rfl]
def oe{n:Int}{c:UInt8}(h:u3 c=false):c∉bF n:=λd=>by rw[Et n c d]at h;cases h
def Au:∀{l:List Int},l≠[]->e8 32 (hd l)=l.map bF
 |[n],_=>tg (oe rfl)
 |n::m::r,_=>by rw[sw,tf (oe rfl),Au ws];rfl
def Vj:∀{l:List Int} {t:List UInt8},e8 32 t=l.map bF->t=hd l
 |[],t,d=>absurd d (BV 32 t)
 |[n],t,d=>by
  rcases xn 32 t with⟨j,_⟩|⟨a,b,rfl,h,_⟩
  .rw [tg j]at d;simpa[hd]using d
  .rw [tf h]at d;simp at d;exact absurd d.2 (BV 32 b)
 |n::m::r,t,d=>by
  rcases xn 32 t with⟨j,_⟩|⟨a,b,rfl,h,_⟩
  .rw [tg j]at d;simp at d
  .rw [tf h,jf]at d;injection d with k q
   rw[sw,<-Vj q,k]
def FB{l:List Int}:hd l=[]↔l=[]:=by
 constructor
 .intro d;cases l with
  |nil=>rfl
  |cons n r=>
   exfalso;cases r with
   |nil=>exact KF n d
   |cons m r=>rw[sw]at d;simp at d
 .rintro rfl;rfl
def FC{l:List Int}{c:UInt8}(h:u3 c=false)(j:c≠32):c∉hd l:=λk=>by
 rcases M3 l c k with d|d
 .rw [d]at h;cases h
 .exact j d
namespace MX
abbrev S1:=ak (ax V Tryz.f175 [] []) [0,1,1,2,2] []
abbrev t1:=ao S1
abbrev P0:Ps:=[(0,.st),(1,.st),(5,.I),(6,.Y),(7,.Y),(8,.I),(9,.I),(10,.I)]
def L6:=bh t1 [0,2,8] P0
abbrev t2:=bg L6
abbrev tW:=ak t2 [6,1,1,3,8] P0
abbrev t3:=ao tW
abbrev qq:=ak t3 [4,1,1,3,8] P0
abbrev t4:=ao qq
abbrev S9:=ak t4 [3,1,1,3,8] P0
abbrev t5:=ao S9
abbrev S8:=ak t5 [2,1,1,3,8] P0
abbrev t6:=ao S8
abbrev S7:=ak t6 [1,1,1,3,8] P0
abbrev t7:=ao S7
abbrev S5:=ak t7 [7] [(0,.st),(1,.st),(5,.I),(6,.Y),(7,.Y),(8,.I),(9,.I)]
abbrev t8:=ao S5
abbrev S4:=ak t8 [5] [(0,.st),(1,.st),(5,.I),(6,.Y),(7,.Y)]
abbrev t9:=ao S4
abbrev S3:=ak t9 [4] [(0,.st),(1,.st),(5,.I),(6,.Y)]
abbrev t10:=ao S3
abbrev P1:Ps:=[(0,.st),(1,.st),(5,.I)]
abbrev S2:=ak t10 [3] P1
abbrev t11:=ao S2
abbrev S0:=ak t11 [2] P1
abbrev t12:=ao S0
def ok:=ay t12 Pz [.st,.st]
end MX
namespace VU
def ok:=ay (ax V Tryz.f179 [] []) QO [.st,.st]
end VU
namespace MW
def ok:=ay (ax V Tryz.f176 [] []) Py [.st,.st]
end MW
namespace MU
def ok:=ay (ax V Tryz.f143 [(3,lr 12)] []) Pw [.st,.st]
end MU
namespace VS
def ok:=ay (ax V Tryz.f116 [] []) QM [.st,.st]
end VS
namespace MV
def ok:=ay (ax V Tryz.f144 [] []) Px [.st,.st]
end MV
namespace VT
def ok:=ay (ax V Tryz.f117 [] []) QN [.st,.st]
end VT
namespace VR
def L0:=bh (ax V Tryz.f178 [] []) [0,1,4] [(0,.st),(1,.st),(5,.I)]
abbrev t1:=bg L0
abbrev S1:=ak t1 [3,3,4] [(0,.st),(1,.st),(5,.I),(6,.I)]
abbrev t2:=ao S1
def ok:=ay t2 QL [.st,.st]
end VR
namespace tj
abbrev P0:Ps:=[(0,.st),(1,.st),(2,.I),(3,.I),(9,.s),(10,.I)]
def L3:=bh (ax V Tryz.f145 [] []) [0,2,8] P0
abbrev t1:=bg L3
abbrev S4:=ak t1 [9] [(0,.st),(9,.s),(10,.I)]
abbrev t2:=ao S4
abbrev S5:=ak t2 [4,1,1,3,8] P0
abbrev t3:=ao S5
def wI:=bm t3 L3
abbrev S2:=ak t3 [7] [(0,.st),(1,.st),(2,.I),(3,.I),(9,.s)]
abbrev t4:=ao S2
abbrev P1:Ps:=[(0,.st),(1,.st),(2,.I),(3,.I)]
abbrev S1:=ak t4 [5] P1
abbrev t5:=ao S1
abbrev S0:=ak t5 [4] P1
abbrev t6:=ao S0
def ok:=ay t6 QQ [.st,.st,.I,.I]
end tj
namespace VV
def ok:=ay (ax V Tryz.f118 [] []) QP [.st,.st]
end VV
def KP:g7 V Ca dv (.string (bn #[])) 1 16:=⟨by kernel_rfl,by kernel_rfl,rfl,md,md⟩
def ym{a:Option Addr}{p:Addr}{K:Addr->Prop}(d:a=some p)(h:K p):eh a K:=by rw[d];exact h
def ael(s:ByteArray)(c:UInt8)(w:J):Sem.run V (callFunc vc #[.string s,.int .u8 (c.toNat:Int)]) w=.ok (.value (.int .i64 (Go.Lib.indexByte (bl s) c))) w:=by have d:=run_callFunc_indexByte (P:=V) (f:=vc) (fn:=(Tryz.prog.funcs[vc]?).getD default) (by kernel_rfl) (by kernel_rfl) (by kernel_rfl) (by kernel_rfl) (by kernel_rfl) #[.string s,.int .u8 (c.toNat:Int)] w;rw[d,Go.Lib.run_indexByteString];show Result.ok _ w=_;congr 4;simp
def afl(s:ByteArray)(c:UInt8)(w:J):Sem.run V (callFunc Gd #[.string s,.int .u8 (c.toNat:Int)]) w=.ok (.value (.i ((Go.Lib.countByte (bl s) c:Nat):Int))) w:=by have d:=run_callFunc_extern (P:=V) (f:=Gd) (fn:=(Tryz.prog.funcs[Gd]?).getD default) (e:=Extern.BytealgCount.count) (by kernel_rfl) (by kernel_rfl) (by kernel_rfl) (by kernel_rfl) (by kernel_rfl) #[.string s,.int .u8 (c.toNat:Int)] w;rw[d,Go.Lib.run_countString];show Result.ok _ w=_;congr 4;simp;rfl
def UG(s:ByteArray)(c:UInt8)(w:J):ai V Ge #[.string s,.int .u8 (c.toNat:Int)] w λr d=>r=ae (.i (Go.Lib.indexByte (bl s) c))/\d=w:=
 Fu.ok ⟨_,w,ael s c w,rfl,rfl⟩
def HN(s:ByteArray)(c:UInt8)(w:J):ai V Gz #[.string s,.int .u8 (c.toNat:Int)] w λr d=>r=ae (.i (Go.Lib.indexByte (bl s) c))/\d=w:=by refine Ib.ok ((UG s c w).mono ?_);rintro _ _ ⟨rfl,rfl⟩;exact⟨_,rfl,rfl,rfl⟩
def UH(s:ByteArray)(c:UInt8)(w:J):ai V Pz #[.string s,.string (bn #[c])] w λr h=>r=ae (.i (Go.Lib.indexByte (bl s) c))/\h=w:=by
 refine MX.ok (aN rfl (jH (λd=>?_) (λd=>aM rfl ⟨co,c,rfl,(UG s c w).mono ?_⟩)))
 .subst d;exact⟨by simp[bl,Go.Lib.indexByte],rfl⟩
 .rintro _ _ ⟨rfl,rfl⟩;exact⟨_,rfl,rfl,rfl⟩
def afj(s:ByteArray)(c:UInt8)(w:J):ai V QO #[.string s,.string (bn #[c])] w λr d=>r=ae (.i (Go.Lib.indexByte (bl s) c))/\d=w:=by refine VU.ok ((UH s c w).mono ?_);rintro _ _ ⟨rfl,rfl⟩;exact⟨_,rfl,rfl,rfl⟩
def uk(s:ByteArray)(i j:Nat):s.extract i j=ba (((bl s).take j).drop i):=by apply ByteArray.ext;apply Array.toList_inj.1;simp[ba,bl,Array.toList_extract,List.drop_take]
inductive wx (l:List UInt8) (c:UInt8):bW->Prop
 |no:c∉l->wx l c (ae (.tuple #[.string (ba l),.string (bn #[]),.bool false]))
 |yes (a b:List UInt8):l=a++c::b->c∉a->wx l c (ae (.tuple #[.string (ba a),.string (ba b),.bool true]))
def KE{s:ByteArray}{c:UInt8}{a b:List UInt8}(h:bl s=a++c::b):s.size=a.length+b.length+1/\s.extract 0 a.length=ba a/\s.extract (a.length+1) s.size=ba b:=by
 have d:s.size=(bl s).length:=rfl;refine⟨by rw[d,h];simp;omega,?_,?_⟩
 .rw [uk,h];simp
 .rw [uk,d,Hf,h,show a++c::b=(a++[c])++b by simp,List.drop_left' ws]
def UF(s:ByteArray)(c:UInt8)(A:s.size<=1000000000)(w:J):ai V QM #[.string s,.string (bn #[c])] w λr j=>wx (bl s) c r/\af w j:=by
 refine VS.ok ((show ai V Pw #[.string s,.string (bn #[c])] w λr j=>wx (bl s) c r/\af w j from MU.ok ((UH s c w).mono ?_)).mono ?_)
 .rintro _ k ⟨rfl,rfl⟩;refine⟨_,rfl,?_⟩;rcases xn c (bl s)with⟨d,e⟩|⟨a,b,d,h,e⟩
  .rw [e];exact aN rfl ⟨by have:=wx.no d;rwa[jt]at this,Fr.refl _ _⟩
  .obtain ⟨C,x,y⟩:=KE d;rw[e];refine aM (aR co) ((bK (w:=k) [] ws).dr λB q=>?_);have z:aj .i64 ((a.length:Int)+(((bn #[c]).size:Nat):Int))=((a.length+1:Nat):Int):=bc _ co;rw[z,bB,bB,x,y];exact⟨co,co,co,co,.yes a b d h,q.fr⟩
 .rintro _ k ⟨d,f⟩;cases d with
  |no d=>exact⟨_,_,_,rfl,.no d,f⟩
  |yes a b d h=>exact⟨_,_,_,rfl,.yes a b d h,f⟩
inductive wM (l:List UInt8) (c:UInt8):bW->Prop
 |no:(∀b,l≠c::b)->wM l c (ae (.tuple #[.string (ba l),.bool false]))
 |yes (b:List UInt8):l=c::b->wM l c (ae (.tuple #[.string (ba b),.bool true]))
def HM(s:ByteArray)(c:UInt8)(w:J):ai V QN #[.string s,.string (bn #[c])] w λr j=>wM (bl s) c r/\af w j:=by
 have k:s.size=(bl s).length:=rfl;have pre:ai V Py #[.string s,.string (bn #[c])] w λr j=>(∃b:Bool,r=ae (.bool b)/\(b=true↔∃l,bl s=c::l))/\j=w:=by
  refine MW.ok (aF (λd=>⟨co,d,⟨_,rfl,?_⟩,rfl⟩) (λd=>⟨⟨_,rfl,⟨λd=>(by cases d),λ⟨l,e⟩=>?_⟩⟩,rfl⟩))
  .have q:1<=s.size:=by have d:((1:Nat):Int)<=(s.size:Int):=d;omega
   rw[rr];cases h:bl s with
   |nil=>rw[k,h]at q;simp at q
   |cons x l=>
    have e:s.extract 0 (a0 (((bn #[c]).size:Nat):Int))=ba [x]:=by rw[uk,h];rfl
    rw[e,decide_eq_true_iff];constructor
    .intro d;have:[x]=[c]:=congrArg (λb:ByteArray=>b.data.toList) d;exact⟨l,by rw[(List.cons.inj this).1]⟩
    .rintro ⟨m,e⟩;rw[(List.cons.inj e).1];rfl
  .rw [k,e]at d;exact absurd (show((1:Nat):Int)<=(((c::l).length:Nat):Int)by simp;omega) d
 refine VT.ok ((show ai V Px #[.string s,.string (bn #[c])] w λr j=>wM (bl s) c r/\af w j from MV.ok (pre.mono ?_)).mono ?_)
 .rintro _ z ⟨⟨b,rfl,h⟩,rfl⟩;refine⟨_,rfl,?_⟩;cases b with
  |false=>exact aM rfl ⟨by have:=wM.no (l:=bl s) (c:=c) (λb e=>by have:=h.2 ⟨b,e⟩;cases this);rwa[jt]at this,Fr.refl _ _⟩
  |true=>
   obtain⟨l,e⟩:=h.1 rfl;have q:s.size=l.length+1:=by rw[k,e];rfl
   refine aN rfl ⟨co,?_,?_,Fr.refl _ _⟩
   .show ((1:Nat):Int)<=_;omega
   .have y:s.extract (a0 (((bn #[c]).size:Nat):Int)) s.size=ba l:=by rw[uk,k,Hf,e];rfl
    rw[y];exact .yes l e
 .rintro _ z ⟨d,f⟩;cases d with
  |no d=>exact⟨_,_,rfl,.no d,f⟩
  |yes b d=>exact⟨_,_,rfl,.yes b d,f⟩
def dN(l:List UInt8):aa:=.string (ba l)
def agi(s:Sl)(n:Nat)(h:n=s.n):Value.slice (if s.c=0 then s.a else s.a.map (·.add (0 *1))) (n - 0) (s.c - 0)=s.v:=by
 obtain⟨a,m,c⟩:=s;subst h;cases a with
 |none=>simp
 |some p=>simp[Addr.add]
def afk(s:ByteArray)(c:UInt8)(hs:s.size<=1000000000)(w:J):ai V QP #[.string s,.string (bn #[c])] w λr j=>(∃t:Sl,r=ae t.v/\aG j dv 1 t ((e8 c (bl s)).map dN)/\∀b∈az t,w.heap.size<=b)/\af w j:=by
 have hz:s.size=(bl s).length:=rfl;have O:ai V QL #[.string s,.string (bn #[c])] w λr j=>r=ae (.i ((Go.Lib.countByte (bl s) c:Nat):Int))/\j=w:=
  VR.ok (aN rfl (aM rfl ⟨co,c,rfl,_,w,afl s c w,rfl,rfl⟩))
 have ad:Go.Lib.countByte (bl s) c<=s.size:=by rw[hz];exact List.count_le_length
 generalize hn:Go.Lib.countByte (bl s) c=n at *;have ab:=Vk c (bl s);rw[hn]at ab;have loop:∀(m i:Nat) (cur:ByteArray) (a:Sl) (done:List (List UInt8)) (y:J),i+m=n->cur.size<=s.size->done.length=i->e8 c (bl s)=done++e8 c (bl cur)->LH F0 w y [.row dv 1 a (done.map dN++List.replicate (m+1) (Value.string (bn #[])))] []->
   tj.L3 cur (bn #[c]) 0 (n:Int) a (i:Int) y λr j=>(∃t:Sl,r=ae t.v/\aG j dv 1 t ((e8 c (bl s)).map dN)/\∀b∈az t,w.heap.size<=b)/\af w j:=by
  intro m;induction m with
  |zero=>
   intro i cur a done y Z Y C F h;have W:a.n=n+1:=by have:=(h.get 0:aG _ _ _ _ _).len;simp at this;omega
   have G:(e8 c (bl cur)).length=1:=by have:=congrArg List.length F;rw[a7]at this;omega
   have aa:c∉bl cur:=λhm=>by obtain⟨d,z,e,D⟩:=F2 hm;rw[e,tf D]at G;have:e8 c z=[]:=vC (by simpa using G);exact BV c z this
   refine tj.wI (aN (aW co) ?_);obtain⟨p,q⟩:∃p,a.a=some p:=by have k:=(HD (h.get 0) rfl (i:=i) (v:=Value.string (bn #[])) (by rw[pO (by simp;omega)];simp[C]) (K:=λA=>a.a=some A) λp q _=>q);obtain⟨A,L,k⟩:=sV k.2.2;exact⟨A,L⟩
   refine⟨co,co,ym q (Vu (h.pU (U:=[]) 0 (i *1) rfl q (by simp;omega) (λN B=>?_) ws))⟩;have hw:aj .i64 ((i:Int)+1)=((i+1:Nat):Int):=bc _ co;rw[hw,bB,agi _ _ co];have ac:=(B.get 0:aG _ _ _ _ _).cap;refine⟨co,co,⟨a,rfl,?_,λb I=>(B.new _ (aD (i:=0) rfl) b I).resolve_right id⟩,B.fr⟩;have x:aG N dv 1 a ((done.map dN++List.replicate (0+1) (Value.string (bn #[]))).set (i *1) (.string cur)):=B.get 0;rw[Nat.mul_one]at x;rw[F,tg aa,fK];rw[List.set_append_right _ _ (by simp;omega)]at x;simp only[gv,C,Nat.mul_one,Nat.sub_self,List.replicate_one,List.set_cons_zero]at x;have e:List.map dN [bl cur]=[Value.string cur]:=by simp[dN,jt]
   rw[e];exact x
  |succ m ih=>
   intro i cur a done y Z Y C F h;have G:(e8 c (bl cur)).length=m+2:=by have:=congrArg List.length F;rw[a7]at this;omega
   obtain⟨d,z,e,D⟩:∃d z,bl cur=d++c::z/\c∉d:=by
    rcases xn c (bl cur)with⟨k,_⟩|⟨d,z,e,D,_⟩
    .rw [tg k]at G;simp at G
    .exact ⟨d,z,e,D⟩
   obtain⟨ah,P,Q⟩:=KE e;have W:a.n=n+1:=by have:=(h.get 0:aG _ _ _ _ _).len;simp at this;omega
   refine tj.wI (aM (aR co) ((afj cur c y).mono ?_));rintro _ _ ⟨rfl,rfl⟩;rw[e,u1 D];refine⟨_,rfl,aN (aW co) ?_⟩;have S:aj .i64 ((d.length:Int)+0)=(d.length:Int):=by rw[Int.add_zero];exact aQ _ co
   have E:aj .i64 ((d.length:Int)+(((bn #[c]).size:Nat):Int))=((d.length+1:Nat):Int):=bc _ co;simp only[S,E,bB,P,Q];obtain⟨p,q⟩:∃p,a.a=some p:=by have k:=(HD (h.get 0) rfl (i:=i) (v:=Value.string (bn #[])) (by rw[pO (by simp;omega)];simp[C]) (K:=λA=>a.a=some A) λp q _=>q);obtain⟨A,L,k⟩:=sV k.2.2;exact⟨A,L⟩
   refine⟨co,co,co,co,ym q (Vu (h.pU (U:=[]) 0 (i *1) rfl q (by simp;omega) (λN B=>?_) ws))⟩;refine⟨co,co,?_⟩;show tj.L3 _ _ _ _ _ (aj .i64 ((i:Int)+1)) _ _;rw[bc _ co];refine ih (i+1) (ba z) a (done++[d]) N co (by rw[bU];omega) (by simp[C]) ?_ ?_
   .rw [F,e,tf D,ck];rfl
   .have x:=B;rw[List.set_append_right _ _ (by simp;omega)]at x;simp only[gv,C,Nat.mul_one,Nat.sub_self]at x;rw[show m+1+1=(m+1)+1 from rfl,List.replicate_succ,List.set_cons_zero]at x;rw[fK,ck];exact x
 refine VV.ok ((show ai V QQ #[.string s,.string (bn #[c]),.i 0,.i (-1)] w λr j=>(∃t:Sl,r=ae t.v/\aG j dv 1 t ((e8 c (bl s)).map dN)/\∀b∈az t,w.heap.size<=b)/\af w j from
  tj.ok (aN rfl (jH (λk=>absurd (congrArg ByteArray.size k) (by show ¬(1:Nat)=0;omega)) (λ_=>aM rfl (O.mono ?_))))).mono ?_)
 .rintro _ M ⟨rfl,rfl⟩;refine⟨_,rfl,?_⟩;have E:aj .i64 ((n:Int)+1)=((n+1:Nat):Int):=bc _ co;have H:aj .i64 ((s.size:Int)+1)=((s.size+1:Nat):Int):=bc _ co;try dsimp only
  rw[E];dsimp only[tj.S0,ak];rw[H,ag co];obtain⟨y,r1,r2,r3⟩:=NR KP M (n+1) co;have h:=(bK (w:=M) [] ws).Tb r3 r2 (by intro b I;simp[az]at I;omega);have T:aj .i64 (((n+1:Nat):Int) - 1)=(n:Int):=by rw[aQ _ co];omega
  refine⟨⟨some ⟨M.heap.size,0,none⟩,n+1,n+1⟩,y,r1,?_⟩;rw[T];refine loop n 0 s _ [] y co (br _) rfl rfl ?_;rw[ac0 _ _ rfl]at h;simpa using h
 .rintro _ y ⟨⟨t,rfl,E,H⟩,f⟩;exact⟨_,rfl,⟨_,rfl,E,H⟩,f⟩
abbrev x7:ByteArray:=bn #[48,48,48,49,48,50,48,51,48,52,48,53,48,54,48,55,48,56,48,57,49,48,49,49,49,50,49,51,49,52,49,53,49,54,49,55,49,56,49,57,50,48,50,49,50,50,50,51,50,52,50,53,50,54,50,55,50,56,50,57,51,48,51,49,51,50,51,51,51,52,51,53,51,54,51,55,51,56,51,57,52,48,52,49,52,50,52,51,52,52,52,53,52,54,52,55,52,56,52,57,53,48,53,49,53,50,53,51,53,52,53,53,53,54,53,55,53,56,53,57,54,48,54,49,54,50,54,51,54,52,54,53,54,54,54,55,54,56,54,57,55,48,55,49,55,50,55,51,55,52,55,53,55,54,55,55,55,56,55,57,56,48,56,49,56,50,56,51,56,52,56,53,56,54,56,55,56,56,56,57,57,48,57,49,57,50,57,51,57,52,57,53,57,54,57,55,57,56,57,57]
abbrev acI:ByteArray:=bn #[48,49,50,51,52,53,54,55,56,57,97,98,99,100,101,102,103,104,105,106,107,108,109,110,111,112,113,114,115,116,117,118,119,120,121,122]
namespace MO
def ok:=ay (ax V Tryz.f172 [] []) Po [.b]
end MO
namespace MP
def ok:=ay (ax V Tryz.f170 [] []) ac' [.I]
end MP
namespace MR
def ok:=ay (ax V Tryz.f140 [] []) Pt [.U]
end MR
namespace kZ
def L0:=bh (ax V Tryz.f141 [(7,lr 15),(8,lr 15),(9,lr 15),(10,lr 15),(17,lr 15),(18,lr 15),(23,lr 15)] []) [0,2,1] [(0,.s),(1,.U),(4,.I)]
abbrev t1:=bg L0
abbrev S5:=ak t1 [5,1,1,3,1] [(0,.s),(1,.U),(4,.I),(8,.v [.i .u32]),(9,.v [.i .u32]),(10,.v [.i .u32]),(11,.v [.i .u32])]
abbrev t2:=ao S5
abbrev S4:=ak t2 [4,1,1,3,1] [(0,.s),(1,.U),(4,.I),(6,.v [.i .u32]),(8,.v [.i .u32]),(9,.v [.i .u32])]
abbrev t3:=ao S4
abbrev S3:=ak t3 [3,1,1,3,1] [(0,.s),(1,.U),(4,.I),(6,.v [.i .u32]),(7,.v [.i .u32])]
abbrev t4:=ao S3
abbrev P0:Ps:=[(0,.s),(1,.U),(4,.I),(5,.v [.i .u32])]
abbrev S2:=ak t4 [2,1,1,3,1] P0
abbrev t5:=ao S2
abbrev S1:=ak t5 [1,1,1,3,1] P0
abbrev t6:=ao S1
abbrev P1:Ps:=[(0,.s),(4,.I),(12,.v [.i .u32])]
abbrev zx:=ak t6 [5] P1
abbrev t7:=ao zx
abbrev P2:Ps:=[(0,.s),(4,.I),(12,.v [.i .u32]),(16,.v [.i .u32])]
abbrev tW:=ak t7 [2,1,1,1,4] P2
abbrev t8:=ao tW
abbrev qq:=ak t8 [1,1,1,1,4] P2
abbrev t9:=ao qq
abbrev S9:=ak t9 [4] P1
abbrev t10:=ao S9
abbrev S8:=ak t10 [3,1,1,1,3] [(0,.s),(4,.I),(12,.v [.i .u32]),(14,.v [.i .u32]),(15,.v [.i .u32])]
abbrev t11:=ao S8
abbrev P3:Ps:=[(0,.s),(4,.I),(12,.v [.i .u32]),(13,.v [.i .u32])]
abbrev S7:=ak t11 [2,1,1,1,3] P3
abbrev t12:=ao S7
abbrev S6:=ak t12 [1,1,1,1,3] P3
abbrev t13:=ao S6
def bE:=bm t13 L0
def ok:=ay t13 Pq [.s,.U]
end kZ
namespace MS
def ok:=ay (ax V Tryz.f139 [] []) Pu [.I]
end MS
namespace x3
abbrev S1:=ak (ax V Tryz.f115 [] []) [4,1,1,1,1] [(0,.I),(5,.r),(6,.U)]
abbrev t1:=ao S1
abbrev S0:=ak t1 [1,1,1,1,1] [(0,.I)]
abbrev t2:=ao S0
def ok:=ay t2 Pk [.I,.I]
end x3
namespace MN
def ok:=ay (ax V Tryz.f85 [] []) Pl [.I]
end MN
namespace VN
def ok:=ay (ax V Tryz.f48 [] []) QH [.I]
end VN
namespace MM
def ok:=ay (ax V Tryz.f114 [] []) Ph [.s,.U,.I]
end MM
namespace ML
abbrev S0:=ak (ax V Tryz.f84 [] []) [3] [(0,.s),(2,.I),(7,.U)]
abbrev t1:=ao S0
def ok:=ay t1 Pg [.s,.I,.I]
end ML
namespace VL
def ok:=ay (ax V Tryz.f47 [] []) QF [.s,.I,.I]
end VL
namespace MQ
def ok:=ay (ax V Tryz.f219 [] []) Pr [.Y]
end MQ
namespace oy
abbrev P0:Ps:=[(1,.I),(8,.b),(9,.st),(10,.U),(11,.U),(12,.b),(13,.U),(99,.s),(100,.I),(101,.I)]
def L4:=bh (ax V Tryz.f201 [] []) [0,1,1,1,11] P0
abbrev t1:=bg L4
abbrev S5:=ak t1 [3,2,1,1,11] P0
abbrev t2:=ao S5
abbrev qq:=ak t2 [0,1,1,1,7,2,2,2,1,1,11] [(11,.U)]
abbrev t3:=ao qq
abbrev S9:=ak t3 [7,2,2,2,1,1,11] [(1,.I),(8,.b),(9,.st),(10,.U),(11,.U),(12,.b),(13,.U),(17,.U),(99,.s),(100,.I),(101,.I)]
abbrev t4:=ao S9
abbrev P1:Ps:=[(1,.I),(8,.b),(9,.st),(10,.U),(11,.U),(12,.b),(13,.U),(16,.Y),(99,.s),(100,.I),(101,.I)]
abbrev S8:=ak t4 [6,2,2,2,1,1,11] P1
abbrev t5:=ao S8
abbrev S7:=ak t5 [3,2,2,2,1,1,11] P1
abbrev t6:=ao S7
abbrev P2:Ps:=[]
abbrev zx:=ak t6 [6,2,2,2,2,2,1,1,11] P2
abbrev t7:=ao zx
abbrev P3:Ps:=[(1,.I),(8,.b),(9,.st),(10,.U),(11,.U),(12,.b),(13,.U),(15,.Y),(99,.s),(100,.I),(101,.I)]
abbrev tW:=ak t7 [4,2,2,2,2,2,1,1,11] P3
abbrev t8:=ao tW
abbrev S6:=ak t8 [2,2,2,2,2,2,1,1,11] P3
abbrev t9:=ao S6
abbrev XF:=ak t9 [13] [(13,.U)]
abbrev t10:=ao XF
def rL:=bm t10 L4
abbrev S3:=ak t10 [9] [(0,.st),(1,.I),(8,.b),(9,.st),(10,.U),(11,.U)]
abbrev t11:=ao S3
abbrev S2:=ak t11 [8] [(0,.st),(1,.I),(2,.I),(8,.b),(9,.st),(10,.U)]
abbrev t12:=ao S2
abbrev P4:Ps:=[(0,.st),(1,.I),(2,.I),(8,.b),(9,.st)]
abbrev S1:=ak t12 [6] P4
abbrev t13:=ao S1
abbrev XG:=ak t13 [0,1,3,1,5] P2
abbrev t14:=ao XG
abbrev S0:=ak t14 [5] P4
abbrev t15:=ao S0
abbrev P5:Ps:=[(0,.st),(2,.I),(8,.b),(9,.st)]
abbrev XK:=ak t15 [6,2,2,1,3,2,4] P5
abbrev t16:=ao XK
abbrev XJ:=ak t16 [4,2,2,1,3,2,4] P5
abbrev t17:=ao XJ
abbrev XI:=ak t17 [2,2,2,1,3,2,4] P5
abbrev t18:=ao XI
abbrev XH:=ak t18 [2,2,4] P4
abbrev t19:=ao XH
def ok:=ay t19 Pn [.st,.I,.I]
end oy
namespace Ar
abbrev S7:=ak (ax V Tryz.f180 [] []) [13] [(11,.I)]
abbrev t1:=ao S7
abbrev S6:=ak t1 [11] [(8,.b),(9,.U)]
abbrev t2:=ao S6
abbrev P0:Ps:=[(8,.b),(9,.U),(10,.U)]
abbrev S5:=ak t2 [10] P0
abbrev t3:=ao S5
abbrev S4:=ak t3 [9] P0
abbrev t4:=ao S4
abbrev P1:Ps:=[(2,.I),(8,.b),(9,.U)]
abbrev S3:=ak t4 [8] P1
abbrev t5:=ao S3
abbrev S2:=ak t5 [7] P1
abbrev t6:=ao S2
abbrev S1:=ak t6 [4] [(0,.st),(1,.I),(2,.I),(8,.b)]
abbrev t7:=ao S1
abbrev S8:=ak t7 [1,1,3,1,1,1,3] [(0,.st),(1,.I),(2,.I)]
abbrev t8:=ao S8
abbrev S0:=ak t8 [1,1,3] [(0,.st),(1,.I),(2,.I),(8,.b),(16,.Y)]
abbrev t9:=ao S0
def ok:=ay t9 Pm [.st,.I,.I]
end Ar
namespace pA
abbrev P0:Ps:=[(5,.st),(6,.I),(47,.s),(48,.I),(49,.I)]
def L3:=bh (ax V Tryz.f146 [] []) [0,1,1,1,3,1,1,1,2] P0
abbrev t1:=bg L3
abbrev S5:=ak t1 [3,2,1,1,3,1,1,1,2] P0
abbrev t2:=ao S5
abbrev S4:=ak t2 [2,2,2,2,1,1,3,1,1,1,2] [(5,.st),(6,.I),(8,.Y),(47,.s),(48,.I),(49,.I)]
abbrev t3:=ao S4
abbrev S6:=ak t3 [5,1,1,1,2] [(6,.I)]
abbrev t4:=ao S6
def wI:=bm t4 L3
abbrev P1:Ps:=[(0,.st),(5,.st)]
abbrev S2:=ak t4 [2,1,1,1,2] P1
abbrev t5:=ao S2
abbrev S1:=ak t5 [1,1,1,1,1,1,1,1,2] P1
abbrev t6:=ao S1
abbrev S0:=ak t6 [0,1,1,1,1,1,1,1,2] P1
abbrev t7:=ao S0
abbrev S7:=ak t7 [3] [(0,.st)]
abbrev t8:=ao S7
def ok:=ay t8 Pj [.st]
end pA
namespace MT
def ok:=ay (ax V Tryz.f202 [] []) Pv [.st]
end MT
namespace VP
def ok:=ay (ax V Tryz.f181 [(1,ls [0,1,3,2,4,5,6])] []) QJ [.st,.st]
end VP
namespace VO
def ok:=ay (ax V Tryz.f182 [(1,ls [0,1,3,2,4,5,6])] []) QI [.st,.st]
end VO
namespace VQ
def ok:=ay (ax V Tryz.f147 [] []) QK [.st,.st,.I,.I,.v]
end VQ
namespace VM
def ok:=ay (ax V Tryz.f120 [] []) QG [.st]
end VM
end Go.Proofs.YtnaglpcbkhjpnabGreatDoor
end
