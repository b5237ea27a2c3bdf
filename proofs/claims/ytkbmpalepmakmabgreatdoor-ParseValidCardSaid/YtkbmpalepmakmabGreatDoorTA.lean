import Derived.Test.YtkbmpalepmakmabGreatDoorT1
import Derived.Test.YtkbmpalepmakmabGreatDoorN6
import Derived.Laws.CopyRow
import Derived.Test.YtkbmpalepmakmabGreatDoorW
import Derived.MapKept
import Derived.Test.YtkbmpalepmakmabGreatDoorN0
set_option linter.unusedVariables false
set_option maxRecDepth 100000
set_option maxHeartbeats 2000000
set_option linter.defProp false
noncomputable section
namespace Go.Proofs.YtkbmpalepmakmabGreatDoor
open Go renaming World->I,Calls->ai,Program->au,Value->V,TypeId->aE,FuncId->b3
open Go.IntKind renaming wrap->aB
open _root_.Int renaming toNat->a0,tdiv->dV,tmod->eI,toNat_natCast->bR
open _root_.ByteArray renaming mk->a'
open Go.IntWalk renaming i64_in->bo
open Go.Sem renaming run->pf
open _root_.Bool renaming and_eq_true->bd,not_eq_true->iF
open _root_.Nat renaming le_refl->bw,le_trans->bB,zero_le->dc,beq->bI,mul_le_mul_right->lx
open Go.Proofs.Tryz renaming prog->U
open _root_.Decidable renaming decide->ak
open Go.Ending renaming returned->ad
open List renaming mem_append->aP,mem_cons->aF,not_mem_nil->aZ,mem_of_getElem?->aD,getElem?_eq_getElem->aY,getElem?_eq_some_iff->cL,mem_append_left->cm,mem_append_right->da,mem_flatMap->ck,mem_map->dA,length_append->bG,append_assoc->cU,mem_singleton->cy,flatMap_append->dK,nodup_append->ff,mem_cons_of_mem->cP,mem_cons_self->hJ,length_map->vK,drop_eq_getElem_cons->dw,all_eq_true->dS,append_nil->cQ,map_append->ey,drop_of_length_le->dy,take_of_length_le->fV,eq_nil_of_length_eq_zero->GM
open Go Go.W
def afc{P:au}{n:Cx}{c:Code}{Q:Exit->Act->I->Prop}{E E':Env}{w:I}(e:∀t v,E'.get? t=some v->E.get? t=some v)(j:WP P n c Q E' w):WP P n c Q E w:=λa d=>j a ⟨d.defers,d.size,λt v h=>d.get t v (e t v h)⟩
def ad6{E:Env}{i j:Nat}{a b:V}(k:E.get? i=some a)(q:E.get? j=some b):∀t v,Env.get? [(i,a),(j,b)] t=some v->E.get? t=some v:=by
 intro t v d;unfold Env.get? at d;cases e:bI i t with
 |true=>
  rw[e]at d;have:=Nat.eq_of_beq_eq_true e
  grind
 |false=>
  rw[e]at d;have d:Env.get? [(j,b)] t=some v:=d;unfold Env.get? at d;cases h:bI j t with
  |true=>
   rw[h]at d;have:=Nat.eq_of_beq_eq_true h
   grind
  |false=>rw[h]at d;cases d
namespace xc
abbrev T9(s:Sl)(k:Int)(w:I)(R:aC):Prop:=
 (0:Int)<=(eI (aB .i64 (dV k 216)) 8)/\(eI (aB .i64 (dV k 216)) 8)<(s.n:Int)/\dJ s.a λp=>jM w (p.add (a0 (eI (aB .i64 (dV k 216)) 8) *4)) λa b c d=>zK xU #[.agg #[.i a,.int .u8 b,.int .u8 c,d.v]] w λe f g i h=>JV q9 #[.agg #[.i e,.int .u8 f,.int .u8 g,i.v],.i 0] h λt j=>R (ad (.string t)) j
def K9(R:aC)(E:Env)(w:I):Prop:=∃(s:Sl) (k:Int),E.get? 9=some s.v/\E.get? 3=some (.i k)/\T9 s k w R
noncomputable def C0:Code:=(Tryz.f75.body).getD .skip
noncomputable def C1:=C0.sn
noncomputable def C2:=C1.sn
noncomputable def C3:=C2.sn
noncomputable def C4:=C3.sn
noncomputable def C5:=C4.sn
noncomputable def C6:=C5.sn
noncomputable def C7:=C6.sn
noncomputable def C8:=C7.sn
noncomputable def C9:=C8.sn
def ok(h:Int)(w:I)(R:aC)(z:Xp xS #[.i h,.i 1048576] w λt11 w1=>zK qe #[] w1 λB C D F e=>de e (.cells #[.i 2,.int .u8 97,.int .u8 97,.slice none 0 0,.i 2,.int .u8 98,.int .u8 98,.slice none 0 0,.i 2,.int .u8 0,.int .u8 0,.slice none 0 0,.i 2,.int .u8 97,.int .u8 98,.slice none 0 0,.i 1,.int .u8 0,.int .u8 0,.slice none 0 0,.i B,.int .u8 C,.int .u8 D,F.v] aJ) λq=>
 (0:Int)<=(eI t11 6)/\(eI t11 6)<((6:Nat):Int)/\dJ (some (nb e)) λG=>jM q (G.add (a0 (eI t11 6) *4)) λH J K L=>de q (.cells #[.i 0,.int .u8 0,.int .u8 0,.slice none 0 0] aJ) λw4=>
 n7 w4 (nb q) (.i H) (.int .u8 J) (.int .u8 K) (L.v) λy=>(0:Int)<=(eI (aB .i64 (dV t11 6)) 6)/\(eI (aB .i64 (dV t11 6)) 6)<((6:Nat):Int)/\dJ (some (nb e)) λM=>jM y (M.add (a0 (eI (aB .i64 (dV t11 6)) 6) *4)) λN O P Q=>de y (.cells #[.i 0,.int .u8 0,.int .u8 0,.slice none 0 0] aJ) λw9=>
 n7 w9 (nb y) (.i N) (.int .u8 O) (.int .u8 P) (Q.v) λx=>(0:Int)<=(eI (aB .i64 (dV t11 36)) 6)/\(eI (aB .i64 (dV t11 36)) 6)<((6:Nat):Int)/\dJ (some (nb e)) λS=>jM x (S.add (a0 (eI (aB .i64 (dV t11 36)) 6) *4)) λT W Y Z=>de x (.cells #[.i 0,.int .u8 0,.int .u8 0,.slice none 0 0] aJ) λaf=>
 n7 af (nb x) (.i T) (.int .u8 W) (.int .u8 Y) (Z.v) λj=>jM j (nb q) λaa ab ac ae=>de j (.cells #[.i aa,.int .u8 ab,.int .u8 ac,ae.v] aJ) λA=>
 de A (.cells #[.i 0,.int .u8 0,.int .u8 0,.slice none 0 0] aJ) λag=>
 n7 ag (nb A) (.i 7) (.int .u8 0) (.int .u8 0) (.slice (some (nb j)) 1 1) λah=>yE U C7 (K9 R) [(8,.pointer (some (nb A))),(38,.agg #[.i 7,.int .u8 0,.int .u8 0,.slice (some (nb j)) 1 1]),(37,.slice (some (nb j)) 1 1),(36,.agg #[.i aa,.int .u8 ab,.int .u8 ac,ae.v]),(7,.pointer (some (nb x))),(35,.agg #[.i T,.int .u8 W,.int .u8 Y,Z.v]),(34,.pointer (some (S.add (a0 (eI (aB .i64 (dV t11 36)) 6) *4)))),(33,.i (eI (aB .i64 (dV t11 36)) 6)),(32,.i (aB .i64 (dV t11 36))),(31,.i t11),(30,.slice (some (nb e)) 6 6),(6,.pointer (some (nb y))),(29,.agg #[.i N,.int .u8 O,.int .u8 P,Q.v]),(28,.pointer (some (M.add (a0 (eI (aB .i64 (dV t11 6)) 6) *4)))),(27,.i (eI (aB .i64 (dV t11 6)) 6)),(26,.i (aB .i64 (dV t11 6))),(25,.i t11),(24,.slice (some (nb e)) 6 6),(5,.pointer (some (nb q))),(23,.agg #[.i H,.int .u8 J,.int .u8 K,L.v]),(22,.pointer (some (G.add (a0 (eI t11 6) *4)))),(21,.i (eI t11 6)),(20,.i t11),(19,.slice (some (nb e)) 6 6),(4,.slice (some (nb e)) 6 6),(18,.slice (some (nb e)) 6 6),(17,.agg #[.i B,.int .u8 C,.int .u8 D,F.v]),(16,.agg #[.i 1,.int .u8 0,.int .u8 0,.slice none 0 0]),(15,.agg #[.i 2,.int .u8 97,.int .u8 98,.slice none 0 0]),(14,.agg #[.i 2,.int .u8 0,.int .u8 0,.slice none 0 0]),(13,.agg #[.i 2,.int .u8 98,.int .u8 98,.slice none 0 0]),(12,.agg #[.i 2,.int .u8 97,.int .u8 97,.slice none 0 0]),(3,.i t11),(11,.i t11),(10,.i h),(2,.s0),(0,.i h)] ah):ai U NG #[.i h] w R:=
 wW (R:=R) (fn:=Tryz.f75) (c:=C0) (args:=[.i h]) (by kernel_rfl) (by kernel_rfl) (by kernel_rfl) (sr C0 (show(λ(E:Env) (w:I)=>eV U C0 (λE w=>eV U C1 (λE w=>eV U C2 (λE w=>eV U C3 (λE w=>eV U C4 (λE w=>eV U C5 (λE w=>eV U C6 (λE w=>yE U C7 (K9 R) E w) E w) E w) E w) E w) E w) E w) E w) (kS 0 [.i h]) w from mp z) λ_ _ d=>(sr C1 d λ_ _ d=>(sr C2 d λ_ _ d=>(sr C3 d λ_ _ d=>(sr C4 d λ_ _ d=>(sr C5 d λ_ _ d=>(sr C6 d λ_ _ d=>(si C7 (by kernel_rfl) d λ_ _ d=>(let ⟨s,k,h9,h3,z⟩:=d;afc (E':=[(9,s.v),(3,.i k)]) (ad6 h9 h3) (sr C8 (show eV U C8 (λE w=>lW U Tryz.f75 E w (λv=>R (ad v) w)) [(9,s.v),(3,.i k)] _ from mp z) λ_ _ d=>(rt C9 λa hA=>yv hA d)))))))))))
end xc
inductive wJ where
 |tr (x:Rx)
 |ls (l:List Rx)
def xD(base:Nat)(w:I)(v:Option V):wJ->Prop
 |.tr d=>∃t:J,v=some t.v/\t.rx=d/\t.P w/\∀b∈t.fp,base<=b
 |.ls l=>∃(s:Sl) (ts:List J),v=some s.v/\J.ao ts=l/\(bP s ts).P w/\∀b∈(bP s ts).fp,base<=b
def xD.cA{base:Nat}{w w':I}{v:Option V}{k:wJ}(q:xD base w v k)(f:af w w'):xD base w' v k:=by
 cases k with
 |tr y=>obtain⟨t,d,e,h,j⟩:=q;exact⟨t,d,e,h.cA f,j⟩
 |ls l=>obtain⟨s,x,d,e,h,j⟩:=q;exact⟨s,x,d,e,h.cA f,j⟩
def dm(i:Nat):Nat:=if i=40 then 9 else 39+i
def kE(base:Nat)(w:I)(E:Env)(t:Nat)(x:Rx):Prop:=∃(b:Nat) (u:J),E.get? t=some (.pointer (some (aa b)))/\w.heap[b]? =some (.cells u.c.toArray aJ (0,0))/\u.rx=x/\u.P w/\∀c∈u.fp,base<=c
def kE.cA{base:Nat}{w w':I}{E:Env}{t:Nat}{x:Rx}(e:kE base w E t x)(f:af w w'):kE base w' E t x:=by obtain⟨b,u,h,d,j,k,q⟩:=e;exact⟨b,u,h,(f.cw b (qb d) id).trans d,j,k.cA f,q⟩
def kE.put{base:Nat}{w:I}{E:Env}{t d:Nat}{v:V}{x:Rx}(e:kE base w E t x)(hd:d≠t):kE base w (E.put (some d) v) t x:=by obtain⟨b,u,h,j⟩:=e;exact⟨b,u,by rw[jL hd];exact h,j⟩
section
variable (w0:I) (base:Nat) (kk:Int) (Xa Xb Xc Xs:Rx)
def dL:List wJ:=[.tr Xa,
 .tr Xa,
 .tr Xb,
 .ls [Xa,Xb],
 .tr (.mk 3 0 0 [Xa,Xb]),
 .tr Xa,
 .tr Xb,
 .tr Xc,
 .ls [Xa,Xb,Xc],
 .tr (.mk 4 0 0 [Xa,Xb,Xc]),
 .tr Xs,
 .tr Xs,
 .tr Xb,
 .ls [Xs,Xb],
 .tr (.mk 3 0 0 [Xs,Xb]),
 .tr Xa,
 .tr Xb,
 .ls [Xa,Xb],
 .tr (.mk 3 0 0 [Xa,Xb]),
 .ls [(.mk 3 0 0 [Xa,Xb])],
 .tr (.mk 6 0 0 [(.mk 3 0 0 [Xa,Xb])]),
 .tr Xb,
 .tr Xa,
 .tr Xc,
 .ls [Xa,Xc],
 .tr (.mk 4 0 0 [Xa,Xc]),
 .ls [(.mk 4 0 0 [Xa,Xc])],
 .tr (.mk 7 0 0 [(.mk 4 0 0 [Xa,Xc])]),
 .ls [Xb,(.mk 7 0 0 [(.mk 4 0 0 [Xa,Xc])])],
 .tr (.mk 3 0 0 [Xb,(.mk 7 0 0 [(.mk 4 0 0 [Xa,Xc])])]),
 .tr Xb,
 .ls [Xb],
 .tr (.mk 6 0 0 [Xb]),
 .tr Xa,
 .tr eR,
 .ls [Xa,eR],
 .tr (.mk 3 0 0 [Xa,eR]),
 .ls [(.mk 6 0 0 [Xb]),(.mk 3 0 0 [Xa,eR])],
 .tr (.mk 5 0 0 [(.mk 6 0 0 [Xb]),(.mk 3 0 0 [Xa,eR])]),
 .ls [Xa,(.mk 3 0 0 [Xa,Xb]),(.mk 4 0 0 [Xa,Xb,Xc]),Xs,(.mk 3 0 0 [Xs,Xb]),(.mk 6 0 0 [(.mk 3 0 0 [Xa,Xb])]),(.mk 3 0 0 [Xb,(.mk 7 0 0 [(.mk 4 0 0 [Xa,Xc])])]),(.mk 5 0 0 [(.mk 6 0 0 [Xb]),(.mk 3 0 0 [Xa,eR])])],
 .ls [Xa,(.mk 3 0 0 [Xa,Xb]),(.mk 4 0 0 [Xa,Xb,Xc]),Xs,(.mk 3 0 0 [Xs,Xb]),(.mk 6 0 0 [(.mk 3 0 0 [Xa,Xb])]),(.mk 3 0 0 [Xb,(.mk 7 0 0 [(.mk 4 0 0 [Xa,Xc])])]),(.mk 5 0 0 [(.mk 6 0 0 [Xb]),(.mk 3 0 0 [Xa,eR])])]]
structure JT(L:Nat->Bool)(E:Env)(w:I):Prop where
 fr:af w0 w
 k:E.get? 3=some (.i kk)
 a:kE base w E 5 Xa
 b:kE base w E 6 Xb
 c:kE base w E 7 Xc
 s:kE base w E 8 Xs
 all:∀(i:Nat) (sp:wJ),(dL Xa Xb Xc Xs)[i]? =some sp->L i=true->xD base w (E.get? (dm i)) sp
variable {w0 base kk Xa Xb Xc Xs}
def JT.step{L:Nat->Bool}{E:Env}{w w':I}(e:JT w0 base kk Xa Xb Xc Xs L E w)(f:af w w'){i d:Nat}(hd:d=dm i){v:V}{y:wJ}(x:(dL Xa Xb Xc Xs)[i]? =some y)(z:xD base w' (some v) y):JT w0 base kk Xa Xb Xc Xs (eb L i) (E.put (some d) v) w':=by
 have F:9<=d:=by rw[hd];unfold dm;grind
 refine⟨e.fr.gp f,by rw[jL io];exact e.k,(e.a.cA f).put io,(e.b.cA f).put io,(e.c.cA f).put io,(e.s.cA f).put io,λh sq j D=>?_⟩;by_cases q:h=i
 .subst q;rw[x]at j;cases j;rw[<-hd,u3];exact z
 .have A:d≠dm h:=by
   rw[hd];have B:i<41:=(cL.1 x).1;have C:h<41:=(cL.1 j).1;unfold dm
   grind
  rw[jL A];refine(e.all h sq j ?_).cA f;have:bI h i=false:=by rw[<-iF,Nat.beq_eq];exact q
  grind
abbrev jB(w0:I)(base:Nat)(kk:Int)(Xa Xb Xc Xs:Rx)(i:Nat)(r:Op×Option Nat×aE×List Nat):Prop:=zl U (JT w0 base kk Xa Xb Xc Xs) i r
def Z4{b:Nat}{u:J}{w:I}(d:w.heap[b]? =some (.cells u.c.toArray aJ (0,0))){K:V->Prop}(C:K u.v):oO U aJ (aa b) w λv _=>K v:=by
 have x:=cellAt (p:=aa b) (i:=0) (v:=.int .i64 u.k) d rfl rfl;have y:=cellAt (p:=aa b) (i:=1) (v:=.int .u8 (u.lo.toNat:Int)) d rfl rfl;have z:=cellAt (p:=aa b) (i:=2) (v:=.int .u8 (u.hi.toNat:Int)) d rfl rfl;have A:=cellAt (p:=aa b) (i:=3) (v:=u.s.v) d rfl rfl;have B:(oO U aJ (aa b) w λv _=>K v)=(∃e:Int,∃h:Int,∃j:Int,∃q:Sl,w.cell? ((aa b).add 0)=some (.int .i64 e)/\w.cell? ((aa b).add 1)=some (.int .u8 h)/\w.cell? ((aa b).add 2)=some (.int .u8 j)/\w.cell? ((aa b).add 3)=some q.v/\K (.agg #[.int .i64 e,.int .u8 h,.int .u8 j,q.v])):=by kernel_rfl
 grind
def Bx{ty:aE}{q:List Nat}{t:Nat}{x:Rx}(i d:Nat)(hd:d=dm i)(E:(dL Xa Xb Xc Xs)[i]? =some (.tr x))(F:∀j e h,JT w0 base kk Xa Xb Xc Xs j e h->kE base h e t x):jB w0 base kk Xa Xb Xc Xs i (.load aJ (.tmp t),some d,ty,q):=by intro j e h o D C J H G k;obtain⟨b,u,w,y,z,A,B⟩:=F j e h k;refine tC D w (Z4 y ?_);rw[C];exact k.step (Fr.refl _ _) hd E ⟨u,rfl,z,A,B⟩
def vS{ty:aE}{h:List Nat}(i d:Nat)(j:(dL Xa Xb Xc Xs)[i]? =some (.tr Xa))(hd:d=dm i:=by rfl):jB w0 base kk Xa Xb Xc Xs i (.load aJ (.tmp 5),some d,ty,h):=Bx i d hd j λ_ _ _ e=>e.a
def vT{ty:aE}{h:List Nat}(i d:Nat)(j:(dL Xa Xb Xc Xs)[i]? =some (.tr Xb))(hd:d=dm i:=by rfl):jB w0 base kk Xa Xb Xc Xs i (.load aJ (.tmp 6),some d,ty,h):=Bx i d hd j λ_ _ _ e=>e.b
def SC{ty:aE}{h:List Nat}(i d:Nat)(j:(dL Xa Xb Xc Xs)[i]? =some (.tr Xc))(hd:d=dm i:=by rfl):jB w0 base kk Xa Xb Xc Xs i (.load aJ (.tmp 7),some d,ty,h):=Bx i d hd j λ_ _ _ e=>e.c
def SD{ty:aE}{h:List Nat}(i d:Nat)(j:(dL Xa Xb Xc Xs)[i]? =some (.tr Xs))(hd:d=dm i:=by rfl):jB w0 base kk Xa Xb Xc Xs i (.load aJ (.tmp 8),some d,ty,h):=Bx i d hd j λ_ _ _ e=>e.s
def acX(a:J)(w:I):(Instr.buildSlice di 1 #[((0:Nat),a.v)]).run U w=.ok (.slice (some (aa w.heap.size)) 1 1) (w.alloc (.cells ([a].flatMap J.c).toArray aJ)):=by kernel_rfl
def acY(a b:J)(w:I):(Instr.buildSlice di 2 #[((0:Nat),a.v),(1,b.v)]).run U w=.ok (.slice (some (aa w.heap.size)) 2 2) (w.alloc (.cells ([a,b].flatMap J.c).toArray aJ)):=by kernel_rfl
def acZ(a b c:J)(w:I):(Instr.buildSlice di 3 #[((0:Nat),a.v),(1,b.v),(2,c.v)]).run U w=.ok (.slice (some (aa w.heap.size)) 3 3) (w.alloc (.cells ([a,b,c].flatMap J.c).toArray aJ)):=by kernel_rfl
def ac0(a b c q e g r s:J)(w:I):(Instr.buildSlice di 8 #[((0:Nat),a.v),(1,b.v),(2,c.v),(3,q.v),(4,e.v),(5,g.v),(6,r.v),(7,s.v)]).run U w=.ok (.slice (some (aa w.heap.size)) 8 8) (w.alloc (.cells ([a,b,c,q,e,g,r,s].flatMap J.c).toArray aJ)):=by kernel_rfl
def BT{o:Oper}{T:aE}{n:Nat}{parts:Array (Nat×Operand)}{E:Env}{w w':I}{v:V}{K:Env->I->Prop}(d:o.op=.buildSlice T n parts)(h:E.e7 o=true)(k:(Instr.buildSlice T n (parts.map λp=>(p.1,E.ev p.2))).run U w=.ok v w')(e:K (E.put o.dst v) w'):j1 U o E w K:=by
 obtain⟨dst,op,q,pos,after,guard⟩:=o;simp only at d;subst d;have j:uT U ⟨dst,.buildSlice T n parts,q,pos,after,guard⟩ E w (λv w'=>K (E.put dst v) w'):=by unfold uT;rw[h];show cM true _;simp only[execOp];rw[show(λ(x:Nat×Operand)=>match x with |(i,x)=>(i,E.ev x))=λp=>(p.1,E.ev p.2)from rfl];simp[k];exact e
 unfold j1;simp only[calm,cond_false];unfold h0;exact j
def kT{E:Env}{t:Nat}{v:V}(d:E.get? t=some v):E.ev (.tmp t)=v:=by simp[Env.ev,Env.val,d]
def AB{w:I}{ts:List J}{n:Nat}(j:n=ts.length)(z:n<=1000)(k:J.Ps w ts)(y:∀b∈J.bc ts,base<=b)(x:base<=w.heap.size):
  (bP ⟨some (aa w.heap.size),n,n⟩ ts).P (w.alloc (.cells (ts.flatMap J.c).toArray aJ))/\∀b∈(bP ⟨some (aa w.heap.size),n,n⟩ ts).fp,base<=b:=by
 have q:=aK.made w aJ 4 n (ts.flatMap J.c) (by rw[J.hB,j]) (by unfold maxLen;omega);refine⟨dv.2 ⟨q.a3,k.cA (Fr.alloc _ _ _)⟩,λb e=>?_⟩;rcases m'.1 e with d|d
 .exact o1 (λc h=>by simp only[aG,aF,aZ,a7]at h;omega) b d
 grind
def JT.wR{L:Nat->Bool}{E:Env}{w:I}(d:JT w0 base kk Xa Xb Xc Xs L E w)(e:base<=w0.heap.size):base<=w.heap.size:=bB e d.fr.size
section
variable (xz:base<=w0.heap.size)
include xz
def Hf{ty:aE}{y:List Nat}(i d e:Nat){x:Nat}{x0:Rx}(H:(dL Xa Xb Xc Xs)[i]? =some (.ls [x0]))(E:(dL Xa Xb Xc Xs)[e]? =some (.tr x0))(K:e∈y)(hd:d=dm i:=by rfl)(D:x=dm e:=by rfl):jB w0 base kk Xa Xb Xc Xs i (.buildSlice di 1 #[(0,.tmp x)],some d,ty,y):=by
 intro L A h o q G O N F j;obtain⟨a,k,B,M,C⟩:=j.all e _ E (F e K);rw[<-D]at k;have z:=AB (base:=base) (w:=h) (ts:=[a]) (n:=1) rfl io (J.jV (by grind)) (by simp[J.bc];exact C) (j.wR xz);refine BT (w':=h.alloc (.cells ([a].flatMap J.c).toArray aJ)) (v:=.slice (some (aa h.heap.size)) 1 1) q (by obtain⟨_,op,_,_,_,_⟩:=o;simp only at q;subst q;simp[Env.e7,Op.operands,Env.val,k]) ?_ ?_
 .rw [show(#[((0:Nat),Operand.tmp x)].map λp=>(p.1,A.ev p.2))=#[((0:Nat),a.v)]by simp[kT k]];exact acX a h
 .rw [G];exact j.step (Fr.alloc _ _ _) hd H ⟨⟨some (aa h.heap.size),1,1⟩,[a],rfl,by simp[J.ao,B],z.1,z.2⟩
def tq{ty:aE}{y:List Nat}(i d e h:Nat){A B:Nat}{x0 x1:Rx}(O:(dL Xa Xb Xc Xs)[i]? =some (.ls [x0,x1]))(L:(dL Xa Xb Xc Xs)[e]? =some (.tr x0))(M:(dL Xa Xb Xc Xs)[h]? =some (.tr x1))(P:e∈y)(m1:h∈y)(hd:d=dm i:=by rfl)(H:A=dm e:=by rfl)(K:B=dm h:=by rfl):jB w0 base kk Xa Xb Xc Xs i (.buildSlice di 2 #[(0,.tmp A),(1,.tmp B)],some d,ty,y):=by
 intro Q E j o z N ht Z C k;obtain⟨a,q,F,S,T⟩:=k.all e _ L (C e P);obtain⟨b,x,G,W,Y⟩:=k.all h _ M (C h m1);rw[<-H]at q;rw[<-K]at x;have D:=AB (base:=base) (w:=j) (ts:=[a,b]) (n:=2) rfl io (J.jV (by grind)) (by simp[J.bc];grind) (k.wR xz);refine BT (w':=j.alloc (.cells ([a,b].flatMap J.c).toArray aJ)) (v:=.slice (some (aa j.heap.size)) 2 2) z (by obtain⟨_,op,_,_,_,_⟩:=o;simp only at z;subst z;simp[Env.e7,Op.operands,Env.val,q,x]) ?_ ?_
 .rw [show(#[((0:Nat),Operand.tmp A),(1,.tmp B)].map λp=>(p.1,E.ev p.2))=#[((0:Nat),a.v),(1,b.v)]by simp[kT q,kT x]];exact acY a b j
 .rw [N];exact k.step (Fr.alloc _ _ _) hd O ⟨⟨some (aa j.heap.size),2,2⟩,[a,b],rfl,by simp[J.ao,F,G],D.1,D.2⟩
def acQ{ty:aE}{x:List Nat}(i d h j k:Nat){D E t2:Nat}{x0 x1 x2:Rx}(W:(dL Xa Xb Xc Xs)[i]? =some (.ls [x0,x1,x2]))(P:(dL Xa Xb Xc Xs)[h]? =some (.tr x0))(Q:(dL Xa Xb Xc Xs)[j]? =some (.tr x1))(S:(dL Xa Xb Xc Xs)[k]? =some (.tr x2))(Y:h∈x)(m1:j∈x)(Z:k∈x)(hd:d=dm i:=by rfl)(M:D=dm h:=by rfl)(N:E=dm j:=by rfl)(O:t2=dm k:=by rfl):jB w0 base kk Xa Xb Xc Xs i (.buildSlice di 3 #[(0,.tmp D),(1,.tmp E),(2,.tmp t2)],some d,ty,x):=by
 intro ab G q o C T ht hi B e;obtain⟨a,y,H,a3,a4⟩:=e.all h _ P (B h Y);obtain⟨b,z,K,b3,b4⟩:=e.all j _ Q (B j m1);obtain⟨c,A,L,c3,c4⟩:=e.all k _ S (B k Z);rw[<-M]at y;rw[<-N]at z;rw[<-O]at A;have F:=AB (base:=base) (w:=q) (ts:=[a,b,c]) (n:=3) rfl io (J.jV (by grind)) (by simp[J.bc];grind) (e.wR xz);refine BT (w':=q.alloc (.cells ([a,b,c].flatMap J.c).toArray aJ)) (v:=.slice (some (aa q.heap.size)) 3 3) C (by obtain⟨_,op,_,_,_,_⟩:=o;simp only at C;subst C;simp[Env.e7,Op.operands,Env.val,y,z,A]) ?_ ?_
 .rw [show(#[((0:Nat),Operand.tmp D),(1,.tmp E),(2,.tmp t2)].map λp=>(p.1,G.ev p.2))=#[((0:Nat),a.v),(1,b.v),(2,c.v)]by simp[kT y,kT z,kT A]];exact acZ a b c q
 .rw [T];exact e.step (Fr.alloc _ _ _) hd W ⟨⟨some (aa q.heap.size),3,3⟩,[a,b,c],rfl,by simp[J.ao,H,K,L],F.1,F.2⟩
def acR{ty:aE}{h:List Nat}(i d q x y z A B C D:Nat){S T t2 t3 t4 W Y Z:Nat}{x0 x1 x2 x3 x4 x5 x6 x7:Rx}(hs:(dL Xa Xb Xc Xs)[i]? =some (.ls [x0,x1,x2,x3,x4,x5,x6,x7]))(h0:(dL Xa Xb Xc Xs)[q]? =some (.tr x0))(h1:(dL Xa Xb Xc Xs)[x]? =some (.tr x1))(h2:(dL Xa Xb Xc Xs)[y]? =some (.tr x2))(h3:(dL Xa Xb Xc Xs)[z]? =some (.tr x3))(h4:(dL Xa Xb Xc Xs)[A]? =some (.tr x4))(h5:(dL Xa Xb Xc Xs)[B]? =some (.tr x5))(h6:(dL Xa Xb Xc Xs)[C]? =some (.tr x6))(h7:(dL Xa Xb Xc Xs)[D]? =some (.tr x7))(m0:q∈h)(m1:x∈h)(m2:y∈h)(m3:z∈h)(m4:A∈h)(m5:B∈h)(m6:C∈h)(m7:D∈h)(hd:d=dm i:=by rfl)(e0:S=dm q:=by rfl)(e1:T=dm x:=by rfl)(e2:t2=dm y:=by rfl)(e3:t3=dm z:=by rfl)(e4:t4=dm A:=by rfl)(e5:W=dm B:=by rfl)(e6:Y=dm C:=by rfl)(ac:Z=dm D:=by rfl):
  jB w0 base kk Xa Xb Xc Xs i (.buildSlice di 8 #[(0,.tmp S),(1,.tmp T),(2,.tmp t2),(3,.tmp t3),(4,.tmp t4),(5,.tmp W),(6,.tmp Y),(7,.tmp Z)],some d,ty,h):=by
 intro af ab F o N ae ht hi j e;obtain⟨a,G,a2,a3,a4⟩:=e.all q _ h0 (j q m0);obtain⟨b,H,b2,b3,b4⟩:=e.all x _ h1 (j x m1);obtain⟨c,K,c2,c3,c4⟩:=e.all y _ h2 (j y m2);obtain⟨E,O,q2,q3,q4⟩:=e.all z _ h3 (j z m3);obtain⟨k,L,f2,f3,f4⟩:=e.all A _ h4 (j A m4);obtain⟨g,M,g2,g3,g4⟩:=e.all B _ h5 (j B m5);obtain⟨r,P,r2,r3,r4⟩:=e.all C _ h6 (j C m6);obtain⟨s,Q,s2,s3,s4⟩:=e.all D _ h7 (j D m7);rw[<-e0]at G;rw[<-e1]at H;rw[<-e2]at K;rw[<-e3]at O;rw[<-e4]at L;rw[<-e5]at M;rw[<-e6]at P;rw[<-ac]at Q;have hm:=AB (base:=base) (w:=F) (ts:=[a,b,c,E,k,g,r,s]) (n:=8) rfl io (J.jV (by simp[a3,b3,c3,q3,f3,g3,r3,s3])) (by
  intro ag hz;obtain⟨t,ht,hy⟩:=J.bX.1 hz;clear hz;simp only[aF,aZ,a7]at ht
  grind) (e.wR xz)
 refine BT (w':=F.alloc (.cells ([a,b,c,E,k,g,r,s].flatMap J.c).toArray aJ)) (v:=.slice (some (aa F.heap.size)) 8 8) N (by obtain⟨_,op,_,_,_,_⟩:=o;simp only at N;subst N;simp[Env.e7,Op.operands,Env.val,G,H,K,O,L,M,P,Q]) ?_ ?_
 .rw [show(#[((0:Nat),Operand.tmp S),(1,.tmp T),(2,.tmp t2),(3,.tmp t3),(4,.tmp t4),(5,.tmp W),(6,.tmp Y),(7,.tmp Z)].map λp=>(p.1,ab.ev p.2))=#[((0:Nat),a.v),(1,b.v),(2,c.v),(3,E.v),(4,k.v),(5,g.v),(6,r.v),(7,s.v)]by simp[kT G,kT H,kT K,kT O,kT L,kT M,kT P,kT Q]];exact ac0 a b c E k g r s F
 .rw [ae];exact e.step (Fr.alloc _ _ _) hd hs ⟨⟨some (aa F.heap.size),8,8⟩,[a,b,c,E,k,g,r,s],rfl,by simp[J.ao,a2,b2,c2,q2,f2,g2,r2,s2],hm.1,hm.2⟩
end
def adR{o:Oper}{k:Int}{t:Nat}{s:Sl}{E:Env}{w:I}{K:Env->I->Prop}(B:k=3\/k=4\/k=5\/k=6\/k=7)(h:o.op=.build aJ #[(0,.const (.int .i64 k)),(3,.tmp t)])(j:E.get? t=some s.v)(y:K (E.put o.dst (.agg #[.i k,.int .u8 0,.int .u8 0,s.v])) w):j1 U o E w K:=by
 obtain⟨dst,op,d,pos,after,guard⟩:=o;simp only at h;subst h;show hh U _ E (λv _=>K (E.put dst v) w);have A:E.e7 ⟨dst,.build aJ #[(0,.const (.int .i64 k)),(3,.tmp t)],d,pos,after,guard⟩=true:=by simp[Env.e7,Op.operands,Env.val,j]
 unfold hh;rw[A];have q:execOp E.ev ⟨dst,.build aJ #[(0,.const (.int .i64 k)),(3,.tmp t)],d,pos,after,guard⟩=execOp (λe=>match e with |.const v=>v|_=>s.v) ⟨dst,.build aJ #[(0,.const (.int .i64 k)),(3,.tmp t)],d,pos,after,guard⟩:=by
  have:E.ev (.tmp t)=s.v:=kT j;have z:E.ev (.const (.int .i64 k))=.int .i64 k:=by simp[Env.ev,Env.val]
  simp only[execOp,List.map_toArray,List.map_cons,List.map_nil,this,z]
 rw[q];have x:tg U (execOp (λe=>match e with |.const v=>v|_=>s.v) ⟨dst,.build aJ #[(0,.const (.int .i64 k)),(3,.tmp t)],d,pos,after,guard⟩)=some (.value (.agg #[.i k,.int .u8 0,.int .u8 0,s.v])):=by kernel_rfl
 rw[x];exact y
def yx{ty:aE}{q:List Nat}(k:Int)(E:k=3\/k=4\/k=5\/k=6\/k=7)(i d j:Nat){t:Nat}{l:List Rx}(G:(dL Xa Xb Xc Xs)[i]? =some (.tr (.mk k 0 0 l)))(B:(dL Xa Xb Xc Xs)[j]? =some (.ls l))(m:j∈q)(hd:d=dm i)(A:t=dm j):jB w0 base kk Xa Xb Xc Xs i (.build aJ #[(0,.const (.int .i64 k)),(3,.tmp t)],some d,ty,q):=by
 intro L K O o F D N M C e;obtain⟨s,H,h,x,y,z⟩:=e.all j _ B (C j m);rw[<-A]at h;refine adR E F h ?_;rw[D];refine e.step (Fr.refl _ _) hd G ⟨.mk k 0 0 s H,rfl,by rw[<-x];rfl,?_,λb w=>z b ?_⟩
 .have:=dv.1 y;unfold J.P;omega
 .unfold J.fp at w;unfold bP J.fp;exact w
def yy{ty:aE}{e:List Nat}(i d j:Nat){t:Nat}{l:List Rx}(q:(dL Xa Xb Xc Xs)[i]? =some (.tr (.mk 3 0 0 l)))(k:(dL Xa Xb Xc Xs)[j]? =some (.ls l))(m:j∈e)(hd:d=dm i:=by rfl)(h:t=dm j:=by rfl):jB w0 base kk Xa Xb Xc Xs i (.build aJ #[(0,.const (.int .i64 3)),(3,.tmp t)],some d,ty,e):=yx 3 io i d j q k m hd h
def Sz{ty:aE}{e:List Nat}(i d j:Nat){t:Nat}{l:List Rx}(q:(dL Xa Xb Xc Xs)[i]? =some (.tr (.mk 4 0 0 l)))(k:(dL Xa Xb Xc Xs)[j]? =some (.ls l))(m:j∈e)(hd:d=dm i:=by rfl)(h:t=dm j:=by rfl):jB w0 base kk Xa Xb Xc Xs i (.build aJ #[(0,.const (.int .i64 4)),(3,.tmp t)],some d,ty,e):=yx 4 io i d j q k m hd h
def acO{ty:aE}{e:List Nat}(i d j:Nat){t:Nat}{l:List Rx}(q:(dL Xa Xb Xc Xs)[i]? =some (.tr (.mk 5 0 0 l)))(k:(dL Xa Xb Xc Xs)[j]? =some (.ls l))(m:j∈e)(hd:d=dm i:=by rfl)(h:t=dm j:=by rfl):jB w0 base kk Xa Xb Xc Xs i (.build aJ #[(0,.const (.int .i64 5)),(3,.tmp t)],some d,ty,e):=yx 5 io i d j q k m hd h
def SB{ty:aE}{e:List Nat}(i d j:Nat){t:Nat}{l:List Rx}(q:(dL Xa Xb Xc Xs)[i]? =some (.tr (.mk 6 0 0 l)))(k:(dL Xa Xb Xc Xs)[j]? =some (.ls l))(m:j∈e)(hd:d=dm i:=by rfl)(h:t=dm j:=by rfl):jB w0 base kk Xa Xb Xc Xs i (.build aJ #[(0,.const (.int .i64 6)),(3,.tmp t)],some d,ty,e):=yx 6 io i d j q k m hd h
def acP{ty:aE}{e:List Nat}(i d j:Nat){t:Nat}{l:List Rx}(q:(dL Xa Xb Xc Xs)[i]? =some (.tr (.mk 7 0 0 l)))(k:(dL Xa Xb Xc Xs)[j]? =some (.ls l))(m:j∈e)(hd:d=dm i:=by rfl)(h:t=dm j:=by rfl):jB w0 base kk Xa Xb Xc Xs i (.build aJ #[(0,.const (.int .i64 7)),(3,.tmp t)],some d,ty,e):=yx 7 io i d j q k m hd h
def acT{ty:aE}{k:List Nat}(i d j:Nat){t:Nat}{l:List Rx}(D:(dL Xa Xb Xc Xs)[i]? =some (.ls l))(z:(dL Xa Xb Xc Xs)[j]? =some (.ls l))(m:j∈k)(hd:d=dm i:=by rfl)(y:t=dm j:=by rfl):jB w0 base kk Xa Xb Xc Xs i (.assign (.tmp t),some d,ty,k):=by intro G F K o C B J H A e;obtain⟨s,E,h,q,w,x⟩:=e.all j _ z (A j m);rw[<-y]at h;refine qv (.inr C) h ?_;rw[B];exact e.step (Fr.refl _ _) hd D ⟨s,E,rfl,q,w,x⟩
def acS{E:List Nat}(L:base<=w0.heap.size)(i d:Nat)(P:(dL Xa Xb Xc Xs)[i]? =some (.tr eR))(hd:d=dm i:=by rfl):jB w0 base kk Xa Xb Xc Xs i (.call ⟨.value (.func qe),#[],#[]⟩,some d,aJ,E):=by
 intro j e D o x w y S Q q;obtain⟨dst,op,T,pos,after,guard⟩:=o;simp only at x w y;subst x;subst w;subst y;have M:e.e7 ⟨some d,.call ⟨.value (.func qe),#[],#[]⟩,aJ,pos,after,guard⟩=true:=by simp[Env.e7,Op.operands,Call.operands,Env.val]
 have N:hy U qe=true:=by kernel_rfl
 have O:calm U ⟨some d,.call ⟨.value (.func qe),#[],#[]⟩,aJ,pos,after,guard⟩=false:=rfl;unfold j1;rw[O,cond_false];unfold h0;dsimp only;rw[M,N];simp only[List.map_toArray,List.map_nil,cond_true];refine(show sa U qe #[] (zeroOf U aJ) D (λv h=>JT w0 base kk Xa Xb Xc Xs (eb j i) (e.put (some d) v) h)from ?_);refine(Dp D).mono ?_;rintro _ h ⟨⟨t,rfl,G,H,J⟩,f⟩;have F:oK (zeroOf U aJ) (λv=>Ending.returned t.v=ad v/\JT w0 base kk Xa Xb Xc Xs (eb j i) (e.put (some d) v) h)=∃z:Int,∃A:Int,∃B:Int,∃C:Sl,Ending.returned t.v=ad (.agg #[.int .i64 z,.int .u8 A,.int .u8 B,C.v])/\JT w0 base kk Xa Xb Xc Xs (eb j i) (e.put (some d) (.agg #[.int .i64 z,.int .u8 A,.int .u8 B,C.v])) h:=by kernel_rfl
 rw[F];exact⟨t.k,t.lo.toNat,t.hi.toNat,t.s,rfl,q.step f hd P ⟨t,rfl,G,H,λb K=>bB (q.wR L) (J b K)⟩⟩
def Ua:List (Op×Option Nat×aE×List Nat):=[(.load aJ (.tmp 5),some 39,aJ,[]),
 (.load aJ (.tmp 5),some 40,aJ,[]),
 (.load aJ (.tmp 6),some 41,aJ,[]),
 (.buildSlice di 2 #[(0,.tmp 40),(1,.tmp 41)],some 42,di,[1,2]),
 (.build aJ #[(0,.const (.int .i64 3)),(3,.tmp 42)],some 43,aJ,[3]),
 (.load aJ (.tmp 5),some 44,aJ,[]),
 (.load aJ (.tmp 6),some 45,aJ,[]),
 (.load aJ (.tmp 7),some 46,aJ,[]),
 (.buildSlice di 3 #[(0,.tmp 44),(1,.tmp 45),(2,.tmp 46)],some 47,di,[5,6,7]),
 (.build aJ #[(0,.const (.int .i64 4)),(3,.tmp 47)],some 48,aJ,[8]),
 (.load aJ (.tmp 8),some 49,aJ,[]),
 (.load aJ (.tmp 8),some 50,aJ,[]),
 (.load aJ (.tmp 6),some 51,aJ,[]),
 (.buildSlice di 2 #[(0,.tmp 50),(1,.tmp 51)],some 52,di,[11,12]),
 (.build aJ #[(0,.const (.int .i64 3)),(3,.tmp 52)],some 53,aJ,[13]),
 (.load aJ (.tmp 5),some 54,aJ,[]),
 (.load aJ (.tmp 6),some 55,aJ,[]),
 (.buildSlice di 2 #[(0,.tmp 54),(1,.tmp 55)],some 56,di,[15,16]),
 (.build aJ #[(0,.const (.int .i64 3)),(3,.tmp 56)],some 57,aJ,[17]),
 (.buildSlice di 1 #[(0,.tmp 57)],some 58,di,[18]),
 (.build aJ #[(0,.const (.int .i64 6)),(3,.tmp 58)],some 59,aJ,[19]),
 (.load aJ (.tmp 6),some 60,aJ,[]),
 (.load aJ (.tmp 5),some 61,aJ,[]),
 (.load aJ (.tmp 7),some 62,aJ,[]),
 (.buildSlice di 2 #[(0,.tmp 61),(1,.tmp 62)],some 63,di,[22,23]),
 (.build aJ #[(0,.const (.int .i64 4)),(3,.tmp 63)],some 64,aJ,[24]),
 (.buildSlice di 1 #[(0,.tmp 64)],some 65,di,[25]),
 (.build aJ #[(0,.const (.int .i64 7)),(3,.tmp 65)],some 66,aJ,[26]),
 (.buildSlice di 2 #[(0,.tmp 60),(1,.tmp 66)],some 67,di,[21,27]),
 (.build aJ #[(0,.const (.int .i64 3)),(3,.tmp 67)],some 68,aJ,[28]),
 (.load aJ (.tmp 6),some 69,aJ,[]),
 (.buildSlice di 1 #[(0,.tmp 69)],some 70,di,[30]),
 (.build aJ #[(0,.const (.int .i64 6)),(3,.tmp 70)],some 71,aJ,[31]),
 (.load aJ (.tmp 5),some 72,aJ,[]),
 (.call ⟨.value (.func qe),#[],#[]⟩,some 73,aJ,[]),
 (.buildSlice di 2 #[(0,.tmp 72),(1,.tmp 73)],some 74,di,[33,34]),
 (.build aJ #[(0,.const (.int .i64 3)),(3,.tmp 74)],some 75,aJ,[35]),
 (.buildSlice di 2 #[(0,.tmp 71),(1,.tmp 75)],some 76,di,[32,36]),
 (.build aJ #[(0,.const (.int .i64 5)),(3,.tmp 76)],some 77,aJ,[37]),
 (.buildSlice di 8 #[(0,.tmp 39),(1,.tmp 43),(2,.tmp 48),(3,.tmp 49),(4,.tmp 53),(5,.tmp 59),(6,.tmp 68),(7,.tmp 77)],some 78,di,[0,4,9,10,14,20,29,38]),
 (.assign (.tmp 78),some 9,di,[39,34,0,1,2,3,4,5,6,7,8,9,10,11,12,13,14,15,16,17,18,19,20,21,22,23,24,25,26,27,28,29,30,31,32,33,34,35,36,37,38,39])]
def acV(d:base<=w0.heap.size):allI (zl U (JT w0 base kk Xa Xb Xc Xs)) Ua 0:=
 ⟨(vS 0 39 rfl),
  (vS 1 40 rfl),
  (vT 2 41 rfl),
  (tq d 3 42 1 2 rfl rfl rfl gs gs),
  (yy 4 43 3 rfl rfl gs),
  (vS 5 44 rfl),
  (vT 6 45 rfl),
  (SC 7 46 rfl),
  (acQ d 8 47 5 6 7 rfl rfl rfl rfl gs gs gs),
  (Sz 9 48 8 rfl rfl gs),
  (SD 10 49 rfl),
  (SD 11 50 rfl),
  (vT 12 51 rfl),
  (tq d 13 52 11 12 rfl rfl rfl gs gs),
  (yy 14 53 13 rfl rfl gs),
  (vS 15 54 rfl),
  (vT 16 55 rfl),
  (tq d 17 56 15 16 rfl rfl rfl gs gs),
  (yy 18 57 17 rfl rfl gs),
  (Hf d 19 58 18 rfl rfl gs),
  (SB 20 59 19 rfl rfl gs),
  (vT 21 60 rfl),
  (vS 22 61 rfl),
  (SC 23 62 rfl),
  (tq d 24 63 22 23 rfl rfl rfl gs gs),
  (Sz 25 64 24 rfl rfl gs),
  (Hf d 26 65 25 rfl rfl gs),
  (acP 27 66 26 rfl rfl gs),
  (tq d 28 67 21 27 rfl rfl rfl gs gs),
  (yy 29 68 28 rfl rfl gs),
  (vT 30 69 rfl),
  (Hf d 31 70 30 rfl rfl gs),
  (SB 32 71 31 rfl rfl gs),
  (vS 33 72 rfl),
  (acS d 34 73 rfl),
  (tq d 35 74 33 34 rfl rfl rfl gs gs),
  (yy 36 75 35 rfl rfl gs),
  (tq d 37 76 32 36 rfl rfl rfl gs gs),
  (acO 38 77 37 rfl rfl gs),
  (acR d 39 78 0 4 9 10 14 20 29 38 rfl rfl rfl rfl rfl rfl rfl rfl rfl gs gs gs gs gs gs gs gs),
  (acT 40 9 39 rfl rfl gs),trivial⟩
end
def WJ(n m:Int)(w:I)(h:1<=m)(d:cF n):ai U xS #[.i n,.i m] w λr e=>r=ad (.i (fC n m))/\af w e:=(IP n m w h d).mono λr e d=>⟨d.1,d.2▸Fr.refl _ _⟩
def I4(d:J):List J:=[nX 2 97 97,nX 2 98 98,nX 2 0 0,nX 2 97 98,nX 1 0 0,d]
def Db(e:J)(h:e.rx=eR){i:Nat}(hi:i<6):∃t,(I4 e)[i]? =some t/\t.rx=e6 i/\(t=e\/∀d:I,t.P d/\∀b,¬b∈t.fp):=by
 have:i=0\/i=1\/i=2\/i=3\/i=4\/i=5:=io
 rcases this with rfl|rfl|rfl|rfl|rfl|rfl
 .exact ⟨_,rfl,rfl,.inr λd=>⟨sO _ _ _ d,λb=>sP⟩⟩
 .exact ⟨_,rfl,rfl,.inr λd=>⟨sO _ _ _ d,λb=>sP⟩⟩
 .exact ⟨_,rfl,rfl,.inr λd=>⟨sO _ _ _ d,λb=>sP⟩⟩
 .exact ⟨_,rfl,rfl,.inr λd=>⟨sO _ _ _ d,λb=>sP⟩⟩
 .exact ⟨_,rfl,rfl,.inr λd=>⟨sO _ _ _ d,λb=>sP⟩⟩
 .exact ⟨e,rfl,h,.inl rfl⟩
def YR(a b c:Rx){i:Nat}(hi:i<8):[a,.mk 3 0 0 [a,b],.mk 4 0 0 [a,b,c],.mk 7 0 0 [a],.mk 3 0 0 [.mk 7 0 0 [a],b],.mk 6 0 0 [.mk 3 0 0 [a,b]],.mk 3 0 0 [b,.mk 7 0 0 [.mk 4 0 0 [a,c]]],.mk 5 0 0 [.mk 6 0 0 [b],.mk 3 0 0 [a,eR]]][i]? =some (Ez a b c i):=by
 have:i=0\/i=1\/i=2\/i=3\/i=4\/i=5\/i=6\/i=7:=io
 rcases this with rfl|rfl|rfl|rfl|rfl|rfl|rfl|rfl<;>rfl
def BY(k m:Nat)(d:0<m):eI (k:Int) (m:Int)=((k%m:Nat):Int):=by rw[Int.tmod_eq_emod_of_nonneg io];omega
def HN(k m:Nat)(h:k<=1048576):aB .i64 (dV (k:Int) (m:Int))=((k / m:Nat):Int):=by
 have d:dV (k:Int) (m:Int)=((k / m:Nat):Int):=by rw[Int.tdiv_eq_ediv_of_nonneg io];rfl
 have e:k / m<=k:=Nat.div_le_self k m;rw[d];generalize k / m=q at e;rw[bo _ io]
section
variable {w w24:I} {R:aC} {K:Nat}
def aew(E:K<=1048576){s:Sl}{ts:List J}{w':I}(x:J.ao ts=[e6 (K%6),.mk 3 0 0 [e6 (K%6),e6 (K / 6%6)],.mk 4 0 0 [e6 (K%6),e6 (K / 6%6),e6 (K / 36%6)],.mk 7 0 0 [e6 (K%6)],.mk 3 0 0 [.mk 7 0 0 [e6 (K%6)],e6 (K / 6%6)],.mk 6 0 0 [.mk 3 0 0 [e6 (K%6),e6 (K / 6%6)]],.mk 3 0 0 [e6 (K / 6%6),.mk 7 0 0 [.mk 4 0 0 [e6 (K%6),e6 (K / 36%6)]]],.mk 5 0 0 [.mk 6 0 0 [e6 (K / 6%6)],.mk 3 0 0 [e6 (K%6),eR]]])(e:(bP s ts).P w')(f:af w w'):xc.T9 s (K:Int) w' λr w'=>r=ad (.string (ba (nt K)))/\af w w':=by
 have N:=J.cz (dv.1 e).1;have M:ts.length=8:=by have:=congrArg List.length x;rw[J.fW,vK]at this;simpa using this
 show(0:Int)<=eI (aB .i64 (dV (K:Int) ((216:Nat):Int))) ((8:Nat):Int)/\eI (aB .i64 (dV (K:Int) ((216:Nat):Int))) ((8:Nat):Int)<(s.n:Int)/\dJ s.a λp=>jM w' (p.add (a0 (eI (aB .i64 (dV (K:Int) ((216:Nat):Int))) ((8:Nat):Int)) *4)) _;rw[HN K 216 E,BY _ 8 io];have F:K / 216%8<8:=Nat.mod_lt _ io;have d:ts[K / 216%8]? =some (ts[K / 216%8]'io):=aY io;generalize ts[K / 216%8]'io=t at d;have z:t.rx=mq K:=by have y:=YR (e6 (K%6)) (e6 (K / 6%6)) (e6 (K / 36%6)) F;rw[<-x,J.fW,List.getElem?_map,d]at y;exact Option.some.inj y
 obtain⟨j,k,h,q⟩:=aex K;rw[<-z]at j k h q;have G:t.P w':=(dv.1 e).2.get d;refine⟨io,io,J.a6 (dv.1 e).1 d λp e c=>⟨_,_,_,_,c.c0,c.c1,c.c2,c.c3,(JO t w' (by rw[<-J.ez];exact k) j G).mono ?_⟩⟩;rintro _ L ⟨⟨u,rfl,A,H,_⟩,C⟩;rw[<-A]at h q;refine⟨_,_,_,u.s,rfl,(Js u 0 L (by rw[<-J.ez];omega) io h H).mono ?_⟩;rintro _ O ⟨rfl,D⟩;refine⟨_,rfl,?_,(f.gp C).gp D⟩;have B:cK 0 u.rx (a9 u.rx)=a9 u.rx:=by unfold cK;rw[ab io]
 rw[B,A,z];rfl
end
def VG{s:Sl}{k:Int}{w:I}{R e:aC}(d:xc.T9 s k w R)(E:∀r h,R r h->e r h):xc.T9 s k w e:=
 ⟨d.1,d.2.1,rm d.2.2 λp ⟨a,b,c,j,x,y,z,A,C⟩=>⟨a,b,c,j,x,y,z,A,C.mono λr H ⟨q,f,g,i,D,G⟩=>⟨q,f,g,i,D,G.mono λr J ⟨t,F,B⟩=>⟨t,F,E _ _ B⟩⟩⟩⟩
def WE(n:Int)(hn:cF n)(w:I):ai U NG #[.i n] w λr x=>(∃an:Nat,r=ad (.string (ba (nt an))))/\af w x:=by
 have hr:=kI n 1048576 io;obtain⟨K,hK⟩:∃K:Nat,fC n 1048576=(K:Int):=⟨(fC n 1048576).toNat,io⟩;have D:K<=1048576:=io
 have ae:O F0 w w [] []:=bM [] gs;refine xc.ok n w _ (ae.call (WJ n 1048576 w io hn) ?_);rintro _ w1 rfl H;refine⟨_,rfl,H.DA (Dp w1) ?_⟩;rintro _ G ⟨j,rfl,F,ao,Z⟩ _ F2;have H2:=F2.rd (.tree j) ao λb q=>Z b (aW.1 q);rw[hK];have T:=BY K 6 io;have S:=HN K 6 D;have Q:=HN K 36 D;have Y:=BY (K / 6) 6 io;have W:=BY (K / 36) 6 io;have c6:((6:Nat):Int)=6:=rfl;have am:((36:Nat):Int)=36:=rfl;rw[c6]at T S Y W;rw[am]at Q;rw[T,S,Q,Y,W];obtain⟨z,ga,ra,xa⟩:=Db j F (i:=K%6) (Nat.mod_lt _ io);obtain⟨tb,gb,rb,xb⟩:=Db j F (i:=K / 6%6) (Nat.mod_lt _ io);obtain⟨tc,gc,rc,ar⟩:=Db j F (i:=K / 36%6) (Nat.mod_lt _ io);have la:K%6<6:=Nat.mod_lt _ io;have lb:K / 6%6<6:=Nat.mod_lt _ io;have lc:K / 36%6<6:=Nat.mod_lt _ io;have C:∀t:J,(t=j\/∀w:I,t.P w/\∀b,¬b∈t.fp)->(∀x:I,j.P x->t.P x)/\∀b∈t.fp,w.heap.size<=b:=λt h=>by
  rcases h with rfl|h
  .exact ⟨λ_ h=>h,λb q=>bB H.fr.size (Z b q)⟩
  .exact ⟨λx _=>(h x).1,λb q=>((h w).2 b q).elim⟩
 refine⟨_,_,_,j.s,rfl,H2.e9 (n:=6) (sz:=4) (cs:=(I4 j).flatMap J.c) rfl dl λw3 M=>?_⟩;refine⟨io,io,J.a6 (s:=⟨some (aa G.heap.size),6,6⟩) (M.get 0:aK _ _ _ _ _).a3 ga λp hp c=>?_⟩;refine⟨_,_,_,_,c.c0,c.c1,c.c2,c.c3,M.nw λw4 _ H4=>H4.lj 1 rfl λw8 N=>?_⟩;refine⟨io,io,J.a6 (s:=⟨some (aa G.heap.size),6,6⟩) (N.get 0:aK _ _ _ _ _).a3 gb λp hp c=>?_⟩;refine⟨_,_,_,_,c.c0,c.c1,c.c2,c.c3,N.nw λw9 _ H9=>H9.lj 2 rfl λap L=>?_⟩;refine⟨io,io,J.a6 (s:=⟨some (aa G.heap.size),6,6⟩) (L.get 0:aK _ _ _ _ _).a3 gc λp hp c=>?_⟩;refine⟨_,_,_,_,c.c0,c.c1,c.c2,c.c3,L.nw λay _ ag=>ag.lj 3 rfl λac y=>?_⟩;refine⟨_,_,_,z.s,y.ld 1 0,y.ld 1 1,y.ld 1 2,y.ld 1 3,y.e9 (n:=1) (sz:=4) (cs:=[z].flatMap J.c) rfl dl λaq ah=>ah.nw λaz _ aj=>aj.lj 5 rfl λd e=>?_⟩;have A:=C z xa;have pb:=C tb xb;have pc:=C tc ar;have ps:(J.mk 7 0 0 ⟨some (aa ac.heap.size),1,1⟩ [z]).P d:=by unfold J.P;exact⟨(e.get 4:aK _ _ _ _ _).a3,J.jV (by simp;exact A.1 d (e.getD 0))⟩
 have ab:af w d:=e.fr;refine LX Ua (by kernel_rfl) (JT d w.heap.size (K:Int) (e6 (K%6)) (e6 (K / 6%6)) (e6 (K / 36%6)) (.mk 7 0 0 [e6 (K%6)])) ?_ (acV ab.size) ?_
 .refine ⟨Fr.drew _ _,rfl,?_,?_,?_,?_,λi sp hs E=>by cases E⟩
  .exact kE.cA (w:=d) ⟨w3.heap.size,z,rfl,e.ob 1,ra,A.1 d (e.getD 0),A.2⟩ (Fr.drew _ _)
  .exact kE.cA (w:=d) ⟨w8.heap.size,tb,rfl,e.ob 2,rb,pb.1 d (e.getD 0),pb.2⟩ (Fr.drew _ _)
  .exact kE.cA (w:=d) ⟨ap.heap.size,tc,rfl,e.ob 3,rc,pc.1 d (e.getD 0),pc.2⟩ (Fr.drew _ _)
  .refine kE.cA (w:=d) ⟨aq.heap.size,.mk 7 0 0 ⟨some (aa ac.heap.size),1,1⟩ [z],rfl,e.ob 5,?_,ps,Gt (λb q=>?_) A.2⟩ (Fr.drew _ _)
   .rw [<-ra];rfl
   .simp only[aG,aF,aZ,a7]at q;rw[q];exact y.fr.size
 .intro aw av x E B;obtain⟨s,ts,h1,h2,h3,_⟩:=B.all 40 _ rfl (E 40 dl);refine⟨s,(K:Int),h1,B.k,?_⟩;refine VG (aew D h2 h3 (ab.gp B.fr)) λr ax h=>⟨⟨K,h.1⟩,h.2⟩
set_option maxHeartbeats 1000000
def vc{w:I}{s:Sl}{l:List Nd}(e:GP w s l):O F0 w w [] [.gr s l]:=bM _ (by intro h d;simp only[aF,aZ,a7]at d;subst d;exact a8.2 e)
abbrev n3(s:Sl)(l:List Int):En:=.row bz 1 s (l.map bC)
def oT{w:I}{s:Sl}{l:List Int}(d:aK w bz 1 s (l.map bC)):bF w s l:=d.Bp
def rj{w:I}{s:Sl}{l:List Int}(d:aK w bz 1 s (l.map bC)):s.n=l.length:=by have:=d.len;simp at this;omega
def Dj{w:I}{s:Sl}{l:List Nd}(H:GP w s l)(t:aM)(n:Int)(hn:cF n)(Z:l.length<=dO):
  ai U N5 #[s.v,dg t,.i n] w λr F=>(∃h:Int,r=ad (.i h)/\-1<=h/\h<(l.length:Int))/\af w F:=by
 have hs:=gx H;unfold dO at Z;have loop:∀(m i:Nat) (q:Sl) (ks:List Int) (e:Nat) (z:I),i+m=l.length->ks.length<=i->(∀E∈ks,0<=E/\E<(l.length:Int))->O F0 w z [.g e,n3 q ks] [.gr s l]->
   sF.a1 s n e t.k t.n t.x q (i:Int) z λr F=>(∃h:Int,r=ad (.i h)/\-1<=h/\h<(l.length:Int))/\af w F:=by
  intro m;induction m with
  |zero=>
   intro i q ks e z W Y D y;have hlen:=rj (y.get 1);refine sF.bS (aQ (a2 io) (aw (λQ=>⟨⟨_,rfl,io,io⟩,y.fr⟩) (λQ=>y.av (jO n _ z io hn) ?_)));have hr:=kI n (q.n:Int) io;generalize fC n (q.n:Int)=h at hr;rintro _ G rfl A;obtain⟨j,rfl⟩:∃j:Nat,h=(j:Int):=⟨h.toNat,io⟩;have B:ks[j]? =some (ks[j]'io):=aY io;have C:=D _ (aD B);exact⟨_,rfl,io,io,(oT (A.get 1)).cell B io λp J S=>⟨_,S,⟨⟨_,rfl,io,io⟩,A.fr⟩⟩⟩
  |succ m K=>
   intro i q ks e z W Y D y;have B:l[i]? =some (l[i]'io):=aY io;generalize l[i]'io=d at B;have hlen:=rj (y.get 1);refine sF.bS (aR (a5 io) (eh (a8.1 (y.getD 0)) rfl B λp J _=>y.ae λG A=>?_));have c:=xy (a8.1 (A.getD 0)) B J (rfl:((i:Int))=(i:Int));refine⟨_,_,_,c.s0,c.s1,c.s2,nk (a:=d.x.st) (b:=t) (λT=>?_) (λT=>?_)⟩
   .refine A.jE 1 sw rfl (λL M P=>?_) io;show sF.a1 s n e t.k t.n t.x L (aB .i64 ((i:Int)+1)) M _;rw[bm _ io];refine K (i+1) L (ks++[(i:Int)]) e M io (by simp;omega) (λE C=>?_) (by rw[n3,ey];exact P);rcases aP.1 C with C|C
    .exact D E C
    .simp only[aF,aZ,a7]at C;omega
   .show sF.a1 s n e t.k t.n t.x q (aB .i64 ((i:Int)+1)) G _;rw[bm _ io];exact K (i+1) q ks e G io io D A
 exact sF.aq ((vc H).ax λe z N=>loop l.length 0 ⟨none,0,0⟩ [] e z io gs gs (N.h8 bz 1))
def Xn{w:I}{s:Sl}{l:List Nd}(K:GP w s l)(op:Int)(x:Nat)(ab n:Int)(F:x<l.length)(E:cF n):
  ai U Om #[s.v,.i op,.i (x:Int),.i ab,.i n] w λr G=>(∃t:aM,r=ad (dg t))/\af w G:=by
 have hs:=gx K;have N:l[x]? =some (l[x]'F):=aY F;generalize l[x]'F=d at N;refine Ec.aq ((vc K).ax λz w1 J=>eh (a8.1 (J.getD 0)) rfl N λp hp c=>⟨_,_,_,c.s0,c.s1,c.s2,J.ax λC w2 y=>?_⟩);have ret:∀(a b c:Int) (e:I) (bs:List Nat),(∀b∈bs,En.g b∈[En.g z,.g C])->O F0 w e [.g z,.g C] [.gr s l]->loc bs e λP=>(∃t:aM,Ending.returned (.agg #[.i a,.i b,.i c])=ad (dg t))/\af w P:=λa b c e bs hb h=>h.ae (λP S=>⟨⟨⟨a,b,c⟩,rfl⟩,S.fr⟩) hb;have B:∀e,O F0 w e [.g z,.g C] [.gr s l]->Ec.aV n z 0 0 0 e λr G=>(∃t:aM,r=ad (dg t))/\af w G:=by intro e h;refine h.av (jO n 3 e io E) ?_;rintro _ q rfl k;refine⟨_,rfl,k.av (pF _ q) ?_⟩;rintro _ H rfl A;exact⟨_,_,_,rfl,ret _ _ _ H _ gs A⟩
 refine aw (λT=>y.ae λe h=>h.av (jO n _ e io E) ?_) (λT=>aw (λW=>y.ae λe h=>h.av (jO n 3 e io E) ?_) (λW=>aw (λY=>y.ae λe h=>h.av (fE _ e) ?_) (λY=>aw (λZ=>aw (λh5=>y.ae λe h=>h.av (fE _ e) ?_) (λh5=>y.ae λe h=>h.av (GS d.x.st e) ?_)) (λZ=>aw (λh6=>y.ae λe h=>h.av (fE _ e) ?_) (λh6=>aw (λL=>aR (beq_iff_eq.2 L) (y.ae λe h=>B e h)) (λL=>aw (λM=>aR (beq_iff_eq.2 M) (y.ae λe h=>B e h)) (λM=>aw (λh9=>y.ae λe h=>B e h) (λh9=>y.ae λe h=>ret _ _ _ e _ gs h))))))))
 .have hr:=kI n (s.n:Int) io;generalize fC n (s.n:Int)=Q at hr;rintro _ q rfl k;obtain⟨j,rfl⟩:∃j:Nat,Q=(j:Int):=⟨Q.toNat,io⟩;have aa:l[j]? =some (l[j]'io):=aY io;exact⟨_,rfl,eh (a8.1 (k.getD 0)) rfl aa λac hq D=>⟨_,_,_,D.s0,D.s1,D.s2,ret _ _ _ q _ gs k⟩⟩
 .rintro _ q rfl k;refine⟨_,rfl,k.av (fE _ q) ?_⟩;rintro _ H rfl A;exact⟨_,_,_,rfl,ret _ _ _ H _ gs A⟩
 .rintro _ q rfl k;exact⟨_,_,_,rfl,ret _ _ _ q _ gs k⟩
 .rintro _ q rfl k;exact⟨_,_,_,rfl,ret _ _ _ q _ gs k⟩
 .rintro _ q rfl k;exact⟨_,_,_,rfl,ret _ _ _ q _ gs k⟩
 .rintro _ q rfl k;exact⟨_,_,_,rfl,ret _ _ _ q _ gs k⟩
abbrev Zf(s:Sl):V:=.agg #[s.v]
def lh2{w:I}{a b:En}(d:a.P w)(e:b.P w):O F0 w w [] [a,b]:=bM _ (by grind)
def CM(w:I)(l:List Int)(r:Ending)(w':I):Prop:=∃s:Sl,r=ad s.v/\aK w' bz 1 s (l.map bC)/\∀b∈aG s,w.heap.size<=b
def hS(g:List Nx)(i:Nat):Bool:=match g[i]? with |some d=>ak (d.op=0)|none=>false
def H8(g:List Nx):wo g=((List.range g.length).filter (hS g)).map λi:Nat=>(i:Int):=rfl
def YD(g:List Nx)(i:Nat):((List.range (i+1)).filter (hS g)).map (λi:Nat=>(i:Int))=((List.range i).filter (hS g)).map (λi:Nat=>(i:Int))++(if hS g i=true then[(i:Int)]else[]):=by
 rw[List.range_succ,List.filter_append,ey]
 grind
def WH{w:I}{s:Sl}{l:List Nd}(y:GP w s l)(G:l.length<=dO):ai U Pr #[Zf s] w λr k=>CM w (wo (xs l)) r k/\af w k:=by
 have M:=gx y;have J:(xs l).length=l.length:=by grind
 unfold dO at G;have loop:∀(m i e:Nat) (sl:Sl) (j:I),i+m=l.length->O F0 w j [.g e,n3 sl (((List.range i).filter (hS (xs l))).map λi:Nat=>(i:Int))] [.gr s l]->tI.a1 e s sl (s.n:Int) (i:Int) j λr k=>CM w (wo (xs l)) r k/\af w k:=by
  intro m;induction m with
  |zero=>
   intro i e sl j q h;have q:i=l.length:=io
   subst q;refine tI.bS (aQ (a2 io) ⟨⟨sl,rfl,?_,λb F=>(h.new _ (aD (i:=1) rfl) b F).resolve_right id⟩,h.fr⟩);rw[H8,J];exact h.get 1
  |succ m K=>
   intro i e sl j q h;have z:l[i]? =some (l[i]'io):=aY io;generalize l[i]'io=d at z;have P:hS (xs l) i=ak (d.x.op=0):=by unfold hS;grind
   have H:=YD (xs l) i;have hlen:=rj (h.get 1);have L:((List.range i).filter (hS (xs l))).length<=i:=by grind
   rw[vK]at hlen;refine tI.bS (aR (a5 io) (eh (a8.1 (h.getD 0)) rfl z λp N c=>⟨_,c.c0,aw (λE=>?_) (λE=>?_)⟩))
   .refine h.jE 1 sw rfl (λA B D=>?_) io;show tI.a1 e s A (s.n:Int) (aB .i64 ((i:Int)+1)) B _;rw[bm _ io];refine K (i+1) e A B io ?_;rw[H,ag (by grind),n3,ey];exact D
   .show tI.a1 e s sl (s.n:Int) (aB .i64 ((i:Int)+1)) j _;rw[bm _ io]
    grind
 exact tI.aq ((vc y).ax λe j C=>loop l.length 0 e ⟨none,0,0⟩ j io (C.h8 bz 1))
def ac2{P:au}{t ty e:aE}{z:V}{sz bytes:Nat}(h:fO P t e z sz bytes){w:I}(g d C:Nat)(cur:Array V)(T:aE){src:Sl}{cs:List V}(j:w.heap[g]? =some (.cells cur T (0,0)))(J:bh sz w src cs)(x:src.n<=d)(S:cs.length<=cur.size)(E:∀v∈cs,v.oneCell'=true):
  (Builtin.copy_ #[t,t] ty #[.slice (some ⟨g,0,none⟩) d C,src.v]).run P w=.ok (.int .i64 (src.n:Int)) (w.setRow g (cs++cur.toList.drop cs.length).toArray):=by
 obtain⟨M,B,sc⟩:=src;obtain⟨inf,k,Y,L,O⟩:=info_parts h.hi;simp only at x;obtain⟨hlen,Q,y,G⟩:=J;simp only at hlen y G;have H:Nat.min B d=B:=Nat.min_eq_left x;have A:=run_storeCells_at (P:=P) g 0 T cs 0 cur w j io E;cases M with
 |none=>
  obtain⟨D,N⟩:=y rfl;subst D;have F:cs=[]:=GM io;subst F;have K:w.setRow g (([]:List V)++cur.toList.drop 0).toArray=w:=by rw[List.nil_append,List.drop_zero,Array.toArray_toList];exact setRow_self w g cur T (0,0) j
  rw[List.length_nil,K];simp[Builtin.copy_,run_underlying h.ht,Builtin.lenOf,Builtin.firstCells,sizeOf,typeInfo,k,storeCells,goInt]
 |some a=>
  have q:=run_loadCells_list (P:=P) w a cs (λZ v W=>by grind)
  rw[hlen]at q;simp only[Nat.zero_add,List.take_zero,List.nil_append]at A;simp[Builtin.copy_,run_underlying h.ht,Builtin.lenOf,Builtin.firstCells,sizeOf,typeInfo,k,L,H,q,A,goInt]
def XY{P:au}{t ty e:aE}{z:V}{sz bytes:Nat}(E:fO P t e z sz bytes){w:I}{s src:Sl}{vs cs:List V}(B:aK w e sz s vs)(M:s.a≠none)(D:bh sz w src cs)(k:src.n<=s.n)(G:∀v∈cs,v.oneCell'=true):
  ∃x,(Builtin.copy_ #[t,t] ty #[s.v,src.v]).run P w=.ok (.int .i64 (src.n:Int)) x/\aK x e sz s (cs++vs.drop cs.length)/\Fr (·∈aG s) w x:=by
 have J:=B.len;have N:=D.1;rcases B.cases with⟨rfl,rfl⟩|⟨g,cur,C,j,h,y,F,A⟩
 .grind
 .obtain ⟨O,d,q⟩:=s;simp only at C k J h y F A;subst C;have K:src.n *sz<=d *sz:=lx _ k;have L:d *sz<=q *sz:=lx _ h;have H:cs.length<=cur.size:=io
  refine⟨_,ac2 E g d q cur e j D k H G,?_,?_⟩
  .refine ⟨?_,.inr ⟨g,q,(cs++cur.toList.drop cs.length).toArray,rfl,dc _,setRow_heap w g cur _ e _ j,h,y,?_,?_⟩⟩
   .grind
   .grind
   .rw [List.take_append,fV (by omega:cs.length<=d *sz),List.take_drop,<-A,List.drop_take];congr 2;rw[show cs.length+(d *sz - cs.length)=d *sz by omega,List.drop_take]
  .rw [Tl j];exact(Fr.put w g _).mono λQ _ e=>by simp[aG,e]
section
variable {M:Nat->Prop} {w0 w:I} {L D:List En} {bs:List Nat}
def _root_.Go.W.O.XZ(H:O M w0 w L D)(i:Nat){P:au}{t ty e:aE}{z:V}{sz bytes:Nat}(q:fO P t e z sz bytes){s src:Sl}{vs cs:List V}{K:Int->I->Prop}(hi:L[i]? =some (.row e sz s vs))(A:s.a≠none)(E:bh sz w src cs)(C:src.n<=s.n)(x:∀v∈cs,v.oneCell'=true)(y:∀w',O M w0 w' (L.set i (.row e sz s (cs++vs.drop cs.length))) D->K (src.n:Int) w')(h:∀b∈bs,En.g b∈L:=by simp):
  ∃(k:Int) (w':I),(Builtin.copy_ #[t,t] ty #[s.v,src.v]).run P w=.ok (.i k) w'/\kept bs w w'/\K k w':=by obtain⟨w',F,G,j⟩:=XY (ty:=ty) q (H.get i hi) A E C x;exact⟨_,w',F,λb d=>j.cw b (H.own _ (h b d)) λB=>H.Ad hi (h b d) B,y w' (H.fx i (.row e sz s (cs++vs.drop cs.length)) hi j G (λb d=>.inl d))⟩
end
def adb{w:I}{s t:Sl}{a b:List Int}(A:bF w s a)(B:bF w t b)(K:a.length<=1000000000000):ai U Pe #[s.v,t.v] w λr k=>r=ad (.bool (ak (a=b)))/\af w k:=by
 have M:=bF.len A;have L:=bF.len B;refine yG.ok (ct (λG=>⟨by rw[a2];grind,Fr.refl _ _⟩) (λH=>?_));have loop:∀(m i:Nat) (e:I),i+m=a.length->(a=b↔a.drop i=b.drop i)->O F0 w e [] [.rd s (a.map bC),.rd t (b.map bC)]->yG.L0 s t (s.n:Int) (i:Int) e λr k=>r=ad (.bool (ak (a=b)))/\af w k:=by
  intro m;induction m with
  |zero=>
   intro i e F d h;rw[dy io,dy io]at d;exact yG.b' (aQ (a2 io) ⟨by grind,h.fr⟩)
  |succ m Q=>
   intro i e F d h;have q:a[i]? =some (a[i]'io):=aY io;have z:b[i]? =some (b[i]'io):=aY io;rw[dw (by omega:i<a.length),dw (by omega:i<b.length),List.cons.injEq]at d;generalize a[i]'io=x at q d;generalize b[i]'io=y at z d;refine yG.b' (aR (a5 io) (h.dr λC j=>⟨io,io,(show bF C s a from j.getD 0).cell q io λp N D=>⟨x,D,io,io,(show bF C t b from j.getD 1).cell z io λS P E=>⟨y,E,ct (λG=>⟨?_,j.fr⟩) (λJ=>?_)⟩⟩⟩))
   .grind
   .rw [bm _ io]
    grind
 exact loop a.length 0 w io gs (lh2 (a:=.rd s (a.map bC)) (b:=.rd t (b.map bC)) A B)
def ada{w:I}{s:Sl}{l:List Int}(e:bF w s l)(E:l.length<=1000000000000):ai U O' #[s.v] w λr x=>CM w l r x/\af w x:=by
 have F:=bF.len e;refine Tx.ok (bn (λk=>⟨⟨⟨none,0,0⟩,rfl,?_,λb h=>by cases h⟩,Fr.refl _ _⟩) (λk=>?_))
 .have z:s.a=none:=by simpa using k
  have:=(e.2.2.1 z).1;obtain rfl:l=[]:=GM io;exact aK.nil w bz 1
 .have y:O F0 w w [] [.rd s (l.map bC)]:=bM _ (by intro D q;simp only[aF,aZ,a7]at q;subst q;exact e)
  refine y.e9 (n:=0) (sz:=1) (cs:=[]) rfl dl λC j=>?_;have A:bF C s l:=j.getD 0;refine j.ap 0 sw (s:=⟨some (aa w.heap.size),0,0⟩) (src:=s) rfl A.2.2 (by grind) (Zu _) (by grind) (λB G d _ _=>⟨⟨B,rfl,d.get 0,λb h=>(d.new _ (aD (i:=0) rfl) b h).resolve_right id⟩,d.fr⟩)
def Ze{w:I}{s:Sl}{l:List Nd}(e:GP w s l){i:Nat}{d:Nd}(hi:l[i]? =some d){K:Addr->Prop}{X:Int}(h:X=(i:Int))(k:∀p,s.a=some p->dG w (p.add (a0 X *9)) d->K p):oh s X K:=by have y:=gx e;have x:=(cL.1 hi).1;subst h;exact⟨io,io,fN.elem (f:=Nd.c) (sz:=9) Nd.qT io e.1.2.2 hi λp q j=>k p q j⟩
def aen{w:I}{p q:Addr}{a b:Nd}(ha:dG w p a)(hb:dG w q b)(ka:a.P w)(kb:b.P w)(hl:a.x.kids.length<=1000000000):ai U PG #[.pointer (some p),.pointer (some q)] w λr w'=>r=ad (.bool (ak (a.x=b.x)))/\af w w':=by
 have A:O F0 w w [] [.gV p a,.gV q b,bZ a,bZ b]:=bM _ (by
  intro ab W;simp only[aF,aZ,a7]at W;rcases W with rfl|rfl|rfl|rfl
  .exact ha
  .exact hb
  .exact ka
  .exact kb)
 have e:∀{B:I} {L:List En},O F0 w B L [.gV p a,.gV q b,bZ a,bZ b]->dG B p a:=λA=>A.getD 0;have h:∀{B:I} {L:List En},O F0 w B L [.gV p a,.gV q b,bZ a,bZ b]->dG B q b:=λA=>A.getD 1;obtain⟨⟨op,Y,n,m,u,N,st⟩,sl⟩:=a;obtain⟨⟨M,Z,K,J,S,Q,z⟩,aa⟩:=b;have no:∀{T:I},af w T->(⟨op,Y,n,m,u,N,st⟩:Nx)≠⟨M,Z,K,J,S,Q,z⟩->(Ending.returned (.bool false)=ad (.bool (ak ((⟨op,Y,n,m,u,N,st⟩:Nx)=⟨M,Z,K,J,S,Q,z⟩)))/\af w T):=λf j=>⟨by grind,f⟩;refine Ur.ok (A.dr λT d=>⟨op,(e d).c0,M,(h d).c0,aw (λD=>?_) (λD=>no d.fr (λj=>D (congrArg Nx.op j)))⟩);refine⟨n,(e d).c2,K,(h d).c2,aw (λE=>?_) (λE=>no d.fr (λj=>E (congrArg Nx.n j)))⟩;refine⟨m,(e d).c3,J,(h d).c3,aw (λF=>?_) (λF=>no d.fr (λj=>F (congrArg Nx.m j)))⟩;refine⟨u,(e d).c4,S,(h d).c4,aw (λG=>?_) (λG=>no d.fr (λj=>G (congrArg Nx.u j)))⟩;refine⟨st.k,st.n,st.x,(e d).s0,(e d).s1,(e d).s2,z.k,z.n,z.x,(h d).s0,(h d).s1,(h d).s2,nk (a:=st) (b:=z) (λH=>?_) (λH=>no d.fr (λj=>H (congrArg Nx.st j)))⟩;refine⟨sl,(e d).c1,aa,(h d).c1,d.call (adb (d.getD 2) (d.getD 3) io) ?_⟩;rintro _ w2 rfl y;refine⟨_,rfl,(h y).c3,(e y).c3,(h y).c2,(e y).c2,(h y).c0,(e y).c0,aT (λC=>⟨N,(e y).c5,Q,(h y).c5,?_,y.fr⟩) (λC=>no y.fr (λj=>C (congrArg Nx.kids j)))⟩;rw[y1];simp only at C;subst D E F G H C;simp
def aeo{w:I}{s:Sl}{l:List Nd}{p:Addr}{d:Nd}(D:GP w s l)(K:dG w p d)(hd:d.P w)(M:l.length<=1000000000)(H:∀C∈l,C.x.kids.length<=1000000000):
  ai U PH #[.agg #[s.v],.pointer (some p)] w λr A=>r=ad (.i (A' (fo d.x (xs l) 0)))/\af w A:=by
 have N:=gx D;have E:O F0 w w [] [.gr s l,.gV p d,bZ d]:=bM _ (by
  intro C e;simp only[aF,aZ,a7]at e;rcases e with rfl|rfl|rfl
  .exact a8.2 D
  .exact K
  .exact hd)
 have loop:∀(m i:Nat) (k:Nat) (j:I),i+m=l.length->fo d.x ((xs l).drop i) i=fo d.x (xs l) 0->O F0 w j [.g k] [.gr s l,.gV p d,bZ d]->yS.a1 p k s (s.n:Int) (i:Int) j λr A=>r=ad (.i (A' (fo d.x (xs l) 0)))/\af w A:=by
  intro m;induction m with
  |zero=>
   intro i k j J e h;rw[dy (by grind)]at e;exact yS.bS (aQ (a2 io) ⟨by rw[<-e];rfl,h.fr⟩)
  |succ m S=>
   intro i k j J e h;have q:l[i]? =some (l[i]'io):=aY io;have L:(xs l).drop i=(l[i]'io).x::(xs l).drop (i+1):=by
    rw[dw (by grind:i<(xs l).length)]
    grind
   rw[L]at e;generalize l[i]'io=a at q e;have B:GP j s l:=a8.1 (h.getD 0);refine yS.bS (aR (a5 io) (Ze B q rfl λT Q G=>h.av (aen G (h.getD 1) (B.2 a (aD q)) (h.getD 2) (H a (aD q))) ?_));rintro _ W rfl F;have y:(if a.x=d.x then some i else fo d.x ((xs l).drop (i+1)) (i+1))=fo d.x (xs l) 0:=e;refine⟨_,rfl,aT (λz=>⟨?_,F.fr⟩) (λz=>?_)⟩
   .rw [ag z]at y;rw[<-y];rfl
   .rw [ab z]at y;rw[bm _ io]
    grind
 exact yS.aq (E.ax λk j h=>loop l.length 0 k j io gs h)
section
variable {M:Nat->Prop} {w0 w:I} {L D:List En} {bs:List Nat}
def adk{A d:List V}{k j:Nat}{v:V}(e:A.length=k):(A++d).set (k+j) v=A++d.set j v:=by grind
def _root_.Go.W.O.acM(H:O M w0 w L D)(i k:Nat){s:Sl}{A y:List V}{p:Addr}{e:Nd}{K:I->Prop}(hi:L[i]? =some (.row bQ 9 s (A++y)))(hp:s.a=some p)(hA:A.length=k *9)(hZ:y.length=9)(hK:∀w',O M w0 w' (L.set i (.row bQ 9 s (A++e.c))) D->K w')(ae:∀b∈bs,En.g b∈L:=by simp):
  aN w (p.add (k *9)) (.i e.x.op) λd=>kept bs w d/\aN d ((p.add (k *9)).add 1) e.ks.v λz=>kept bs d z/\aN z ((p.add (k *9)).add 2) (.i e.x.n) λB=>kept bs z B/\aN B ((p.add (k *9)).add 3) (.i e.x.m) λC=>kept bs B C/\aN C ((p.add (k *9)).add 4) (.u e.x.u) λE=>kept bs C E/\
   aN E ((p.add (k *9)).add 5) (.string e.x.tx) λF=>kept bs E F/\aN F ((p.add (k *9)).add 6) (.i e.x.st.k) λG=>kept bs F G/\aN G ((p.add (k *9)).add 7) (.i e.x.st.n) λJ=>kept bs G J/\aN J ((p.add (k *9)).add 8) (.i e.x.st.x) λQ=>kept bs J Q/\K Q:=by
 have ag:=(cL.1 hi).1;have ah:∀{vs:List V} {b:Nat},En.g b∈L->En.g b∈L.set i (.row bQ 9 s vs):=by
  intro vs b hb;obtain⟨ab,hj⟩:=List.mem_iff_getElem?.1 hb;by_cases af:i=ab
  .subst af;rw[hi]at hj;have e1:En.row bQ 9 s (A++y)=En.g b:=Option.some.inj hj;exfalso;have e2:(En.row bQ 9 s (A++y)).P=(En.g b).P:=by rw[e1]
   have f1:(En.row bQ 9 s (A++y)).fp=(En.g b).fp:=by rw[e1]
   have aa:(En.g b).P ({w with heap:=Array.replicate (b+1) (.map #[] 0)}):=by show b<_;simp
   rw[<-e2]at aa;have hx:b∈aG s:=by show b∈(En.row bQ 9 s (A++y)).fp;rw[f1];simp[En.g]
   obtain⟨cs,f,hc⟩:=(aK.row (show aK ({w with heap:=Array.replicate (b+1) (.map #[] 0)}) bQ 9 s (A++y)from aa)).tL b hx
   grind
  .exact aD (i:=ab) (by grind)
 match y,hZ with
 |[z0,z1,Z,T,z4,S,N,q,h],_=>
  have len:∀{vs:List V},vs.length=9->∀c,c<9->k *9+c<(A++vs).length:=λam c hc=>by grind
  have j:∀{w':I} {L':List En} {vs:List V} (c:Nat) (v:V) {K':I->Prop},L'=L.set i (.row bQ 9 s (A++vs))->vs.length=9->c<9->O M w0 w' L' D->(∀Y,O M w0 Y (L.set i (.row bQ 9 s (A++vs.set c v))) D->K' Y)->aN w' ((p.add (k *9)).add c) v λd=>kept bs w' d/\K' d:=by rintro w' _ vs c v K' rfl aj hc H' hk;refine H'.v' (bs:=bs) i (k *9) c (by rw[List.getElem?_set_self ag]) hp (len aj c hc) (λY ac=>hk Y ?_) (λb hb=>ah (ae b hb));rw[List.set_set,adk hA]at ac;omega
  have e0:L=L.set i (.row bQ 9 s (A++[z0,z1,Z,T,z4,S,N,q,h])):=by
   apply List.ext_getElem?
   grind
  have first:=j (w':=w) (vs:=[z0,z1,Z,T,z4,S,N,q,h]) 0 (.i e.x.op) (K':=λd=>aN d ((p.add (k *9)).add 1) e.ks.v λz=>kept bs d z/\aN z ((p.add (k *9)).add 2) (.i e.x.n) λB=>kept bs z B/\aN B ((p.add (k *9)).add 3) (.i e.x.m) λC=>kept bs B C/\aN C ((p.add (k *9)).add 4) (.u e.x.u) λE=>kept bs C E/\
   aN E ((p.add (k *9)).add 5) (.string e.x.tx) λF=>kept bs E F/\aN F ((p.add (k *9)).add 6) (.i e.x.st.k) λG=>kept bs F G/\aN G ((p.add (k *9)).add 7) (.i e.x.st.n) λJ=>kept bs G J/\aN J ((p.add (k *9)).add 8) (.i e.x.st.x) λQ=>kept bs J Q/\K Q) e0 rfl dl H (λd H1=>?_)
  .rw [jD]at first
   omega
  refine j (vs:=[.i e.x.op,z1,Z,T,z4,S,N,q,h]) 1 e.ks.v rfl rfl dl H1 λz H2=>?_;refine j (vs:=[.i e.x.op,e.ks.v,Z,T,z4,S,N,q,h]) 2 (.i e.x.n) rfl rfl dl H2 λB H3=>?_;refine j (vs:=[.i e.x.op,e.ks.v,.i e.x.n,T,z4,S,N,q,h]) 3 (.i e.x.m) rfl rfl dl H3 λC H4=>?_;refine j (vs:=[.i e.x.op,e.ks.v,.i e.x.n,.i e.x.m,z4,S,N,q,h]) 4 (.u e.x.u) rfl rfl dl H4 λE H5=>?_;refine j (vs:=[.i e.x.op,e.ks.v,.i e.x.n,.i e.x.m,.u e.x.u,S,N,q,h]) 5 (.string e.x.tx) rfl rfl dl H5 λF H6=>?_;refine j (vs:=[.i e.x.op,e.ks.v,.i e.x.n,.i e.x.m,.u e.x.u,.string e.x.tx,N,q,h]) 6 (.i e.x.st.k) rfl rfl dl H6 λG H7=>?_;refine j (vs:=[.i e.x.op,e.ks.v,.i e.x.n,.i e.x.m,.u e.x.u,.string e.x.tx,.i e.x.st.k,q,h]) 7 (.i e.x.st.n) rfl rfl dl H7 λJ H8=>?_;refine j (vs:=[.i e.x.op,e.ks.v,.i e.x.n,.i e.x.m,.u e.x.u,.string e.x.tx,.i e.x.st.k,.i e.x.st.n,h]) 8 (.i e.x.st.x) rfl rfl dl H8 λQ H9=>?_;exact hK Q H9
end
def aaE(n:Nat):(madeCells (Value.agg #[.int .i64 0,.slice none 0 0,.int .i64 0,.int .i64 0,.int .u64 0,.string (a' #[]),.int .i64 0,.int .i64 0,.int .i64 0]).cells (n *9)).toList.length=n *9:=by simp[madeCells]
def T4{w:I}{s:Sl}{l:List Nd}{d:Nd}(ah:GP w s l)(hd:d.P w)(hk:db.P w)(ho:j7 d.x)(aj:l.length<=1000000000)(hv:∀z∈xs l,br z.st=true)(az:∀z∈l,z.x.kids.length<=1000000000):
  ai U Po #[.agg #[s.v],d.v] w λr w'=>(∃s':Sl,r=ad (.tuple #[.agg #[s'.v],.i (bb (xs l) d.x).2.1,.i (bb (xs l) d.x).2.2])/\GR w (·∈(En.gr s l).fp) (bb (xs l) d.x).1 s' w')/\af w w':=by
 have hn:=gx ah;have aC:(xs l).length=l.length:=by grind
 have ao:O F0 w w [] [.gr s l,bZ d,db]:=bM _ (by
  intro z M;simp only[aF,aZ,a7]at M;rcases M with rfl|rfl|rfl
  .exact a8.2 ah
  .exact hd
  omega)
 refine Ud.aq (ao.ax λH N H1=>H1.nw λw2 _ H2=>H2.ax λJ w3 h=>?_);have h:O F0 w w3 [.g H,.c N.heap.size d.c bQ,.g J] [.gr s l,bZ d,db]:=h;refine⟨d.x.op,d.ks,d.x.n,d.x.m,d.x.u,d.x.tx,d.x.st.k,d.x.st.n,d.x.st.x,h.ld 1 0,h.ld 1 1,h.ld 1 2,h.ld 1 3,h.ld 1 4,h.ld 1 5,h.ld 1 6,h.ld 1 7,h.ld 1 8,?_⟩;refine h.av (aee (a8.1 (h.getD 0)) (h.getD 1) (h.getD 2) ho aj hv) ?_;rintro _ w4 rfl H4;refine⟨_,_,_,_,rfl,H4.ax λL w5 W=>ct (λh0=>W.ae λw6 S=>⟨⟨⟨none,0,0⟩,?_,?_⟩,S.fr⟩) (λh0=>W.ae λw6 S=>?_)⟩
 .unfold bb;grind
 .unfold bb;rw[ag h0];exact GR.nil _ _ _
 have B:bb (xs l) d.x=match fo (eo d.x (bA (xs l) d.x).1) (xs l) 0 with
   |some i=>(xs l,(i:Int),0)
   |none=>if 4096<=(xs l).length then([],0,4)else(xs l++[eo d.x (bA (xs l) d.x).1],((xs l).length:Int),0):=by unfold bb;grind
 generalize(bA (xs l) d.x).1=sr at *;refine S.ic 1 6 rfl (λw7 H7=>H7.qw 1 6 1 rfl (λw8 H8=>H8.qw 1 6 2 rfl (λw9 F=>?_) (by simp[Nd.c])) (by simp[Nd.c])) (by simp[Nd.c])
 let z:Nd:=⟨eo d.x sr,d.ks⟩
 have F:O F0 w w9 [.g H,.c N.heap.size z.c bQ,.g J,.g L] [.gr s l,bZ d,db]:=F;refine F.av (aeo (d:=z) (a8.1 (F.getD 0)) (ya (F.ob 1)) (F.getD 1) aj az) ?_;rintro _ aH rfl D;refine⟨_,rfl,?_⟩;have M:z.x=eo d.x sr:=rfl;rw[M];cases hi:fo (eo d.x sr) (xs l) 0 with
 |some i=>
  rw[hi]at B;rw[B];exact aR (a5 (Int.natCast_nonneg i)) (D.ae λam E=>⟨⟨s,rfl,⟨l,rfl,a8.1 (E.getD 0),λb y=>.inl y⟩⟩,E.fr⟩)
 |none=>
  rw[hi]at B;dsimp only at B;refine aQ dl (aT (λh4=>D.ae λam E=>⟨⟨⟨none,0,0⟩,?_,?_⟩,E.fr⟩) (λh4=>?_))
  .grind
  .rw [B,ag io];exact GR.nil _ _ _
  rw[ab io]at B;rw[B];refine⟨d.ks,D.ld 1 1,D.g9 (ada (show bF aH d.ks d.x.kids from D.getD 1) (by have:=ho.kl;omega)) ?_⟩;rintro _ am ⟨Y,rfl,ay,ac⟩ _ an;have E:=an.rd (.rd Y (d.x.kids.map bC)) (oT ay) (vM ac);refine⟨_,rfl,E.ic 1 1 rfl (λC K=>?_) (by simp[Nd.c])⟩
  let A:Nd:=⟨eo d.x sr,Y⟩
  have K:O F0 w C [.g H,.c N.heap.size A.c bQ,.g J,.g L] [.gr s l,bZ d,db,bZ A]:=K;have e1:aB .i64 ((s.n:Int)+1)=((l.length+1:Nat):Int):=by rw[bo _ io,hn];rfl
  rw[e1];obtain⟨T,r1,r2,r3⟩:=M' nT C (l.length+1) io;have Q:=K.RB r3 r2 (by intro b y;simp[aG]at y;omega);have kp:∀b∈[H,J,L],T.heap[b]? =C.heap[b]?:=λb y=>by
   have hg:En.g b∈[En.g H,.c N.heap.size A.c bQ,.g J,.g L]:=by grind
   exact r3.cw b (K.own _ hg) id
  refine⟨⟨some (aa C.heap.size),l.length+1,l.length+1⟩,T,r1,kp,?_⟩;generalize aw:(madeCells (Value.agg #[.int .i64 0,.slice none 0 0,.int .i64 0,.int .i64 0,.int .u64 0,.string (a' #[]),.int .i64 0,.int .i64 0,.int .i64 0]).cells ((l.length+1) *9)).toList=Gq at Q;have hold:Gq.length=(l.length+1) *9:=by rw[<-aw];exact aaE _
  have aA:=Nd.hB l;refine Q.XZ 4 nT rfl gs (show bh 9 T s (l.flatMap Nd.c)from(a8.1 (Q.getD 0)).1) (by grind) ra (λaJ q=>?_);have hz:(Gq.drop (l.flatMap Nd.c).length).length=9:=by grind
  generalize Gq.drop (l.flatMap Nd.c).length=Z at hz q;refine⟨_,_,_,_,_,_,_,_,_,q.ld 1 0,q.ld 1 1,q.ld 1 2,q.ld 1 3,q.ld 1 4,q.ld 1 5,q.ld 1 6,q.ld 1 7,q.ld 1 8,io,by grind,Gv ?_⟩;rw[hn,bR];refine q.acM (e:=A) 4 l.length rfl rfl aA hz (λaL ap=>?_);refine ap.ae λaI G=>⟨⟨_,by rw[aC],⟨l++[A],by grind,⟨?_,λa j=>?_⟩,λb y=>?_⟩⟩,G.fr⟩
  .have:aK aI bQ 9 ⟨some (aa C.heap.size),l.length+1,l.length+1⟩ (l.flatMap Nd.c++A.c):=G.get 4;have:=this.a3
   grind
  .rcases aP.1 j with j|j
   .exact (a8.1 (G.getD 0)).2 a j
   .simp only[aF,aZ,a7]at j;subst j;exact G.getD 3
  .rcases q5.1 y with y|⟨a,j,y⟩
   .right;have ar:b∈(En.row bQ 9 ⟨some (aa C.heap.size),l.length+1,l.length+1⟩ (l.flatMap Nd.c++A.c)).fp:=by
     have:b∈(if(l++[A]).flatMap Nd.c=[]then[]else aG ⟨some (aa C.heap.size),l.length+1,l.length+1⟩):=y;split at this
     .grind
     .exact this
    exact(G.new _ (aD (i:=4) rfl) b ar).resolve_right id
   .rcases aP.1 j with j|j
    .exact .inl (q5.2 (.inr ⟨a,j,y⟩))
    .simp only[aF,aZ,a7]at j;subst j;exact .inr (bB D.fr.size (vM ac b y))
def dH(es:Array MapEntry)(ms:List (ByteArray×V)):Prop:=es.toList.map (λd=>(d.key,d.val))=ms.map λp=>(Value.string p.1,p.2)
def hl(ms:List (ByteArray×V))(k:ByteArray):Option V:=(ms.find? λp=>ak (p.1=k)).map (·.2)
def Wa(a b:ByteArray):(a==b)=ak (b=a):=by
 cases d:ak (b=a)with
 |true=>rw[e4 d];exact(Go.MapKept.bytes_beq _ _).2 rfl
 |false=>
  cases e:(a==b)with
  |false=>rfl
  |true=>exact absurd ((Go.MapKept.bytes_beq _ _).1 e).symm (l4 d)
def xq{k:ByteArray}:∀{es:List MapEntry} {ms:List (ByteArray×V)} {i:Nat},es.map (λh=>(h.key,h.val))=ms.map (λp=>(Value.string p.1,p.2))->
  Instr.findNow .string (.string k) es i=some ((ms.findIdx? λp=>ak (p.1=k)).bind λe=>(ms[e]?).map λp=>(i+e,p.2))
 |[],[],i,_=>rfl
 |[],_::_,_,d=>by simp at d
 |_::_,[],_,d=>by simp at d
 |h::es,p::ms,i,d=>by
  simp only[List.map_cons,List.cons.injEq,Prod.mk.injEq]at d;obtain⟨⟨w,x⟩,y⟩:=d;have z:=xq (k:=k) (i:=i+1) y;unfold Instr.findNow;simp only[w,Instr.sameNow,Wa];by_cases j:p.1=k
  .have q:ak (p.1=k)=true:=a5 j;simp[List.findIdx?_cons,j,x]
  .have q:ak (p.1=k)=false:=a2 j;simp only[z,List.findIdx?_cons,q,Bool.false_eq_true,if_false];congr 1;cases A:ms.findIdx? (λp=>ak (p.1=k))with
   |none=>simp
   |some e=>simp[Nat.add_assoc,Nat.add_comm 1 e]
def Hr{ms:List (ByteArray×V)}{k:ByteArray}{i:Nat}:(((ms.findIdx? λp=>ak (p.1=k)).bind λd=>(ms[d]?).map λp=>(i+d,p.2)).map (·.2))=hl ms k:=by
 unfold hl;induction ms generalizing i with
 |nil=>rfl
 |cons p ms j=>
  by_cases e:p.1=k
  .simp [List.findIdx?_cons,e]
  .have h:ak (p.1=k)=false:=a2 e;simp only[List.findIdx?_cons,h,Bool.false_eq_true,if_false,List.find?_cons];rw[<-j (i:=i+1)];cases q:ms.findIdx? (λp=>ak (p.1=k))with
   |none=>simp
   |some d=>simp[Function.comp_def]
structure nN(P:au)(T kt et:aE)(z:V):Prop where
 hT:P.underlying T=some (.map kt et)
 hk:P.underlying kt=some .string
 hz:(P.info? et).map (·.zero)=some (some z)
def zP{P:au}{kt:aE}(d:P.underlying kt=some .string)(b:Bool)(k:ByteArray)(w:I):(Instr.checkKey b 10000 kt (.string k)).run P w=.ok () w:=by unfold Instr.checkKey;simp[run_underlying d]
def sR{P:au}{T kt x:aE}{z:V}(e:nN P T kt x z){w:I}{h:Nat}{es:Array MapEntry}{clock:Nat}{ms:List (ByteArray×V)}(B:w.heap[h]? =some (.map es clock))(C:dH es ms)(k:ByteArray):
  (Instr.lookup T (.map (some h)) (.string k) true).run P w=.ok (.tuple #[(hl ms k).getD z,.bool (hl ms k).isSome]) w:=by
 have y:=xq (k:=k) (i:=0) C;have A:(getObj h).run P w=.ok (.map es clock) w:=by simp[getObj,pf,B]
 have d:=Hr (ms:=ms) (k:=k) (i:=0);unfold Instr.lookup Instr.findKey;simp only[Sem.run_bind,run_underlying e.hT,Result.andThen_ok,A,Sem.run_pure,zP e.hk,run_underlying e.hk,y];cases j:((ms.findIdx? λp=>ak (p.1=k)).bind λq=>(ms[q]?).map λp=>(0+q,p.2))with
 |none=>rw[j]at d;simp[<-d,Cq e.hz]
 |some D=>rw[j]at d;simp[<-d]
def rH{P:au}{T kt B:aE}{z:V}(q:nN P T kt B z){w:I}{d:Nat}{es:Array MapEntry}{clock:Nat}{ms:List (ByteArray×V)}(h:w.heap[d]? =some (.map es clock))(j:dH es ms)(k:ByteArray)(v:V)(F:hl ms k=none):
  ∃e x,(Instr.mapUpdate T (.map (some d)) (.string k) v).run P w=.ok () e/\e.heap[d]? =some (.map x (clock+1))/\dH x (ms++[(k,v)])/\Fr (λb=>b=d) w e/\e.heap.size=w.heap.size:=by
 have C:=xq (k:=k) (i:=0) j;have D:(getObj d).run P w=.ok (.map es clock) w:=by simp[getObj,pf,h]
 have y:=Hr (ms:=ms) (k:=k) (i:=0);have E:=qb h;have G:((ms.findIdx? λp=>ak (p.1=k)).bind λA=>(ms[A]?).map λp=>(0+A,p.2))=none:=by rw[F]at y;simpa using y
 refine⟨{w with heap:=w.heap.setIfInBounds d (.map (es.push {key:=.string k,val:=v,born:=clock}) (clock+1))},es.push {key:=.string k,val:=v,born:=clock},?_,by simp[E],?_,Fr.setObj w d _ rfl,gs⟩
 .unfold Instr.mapUpdate Instr.findKey;simp only[Sem.run_bind,run_underlying q.hT,Result.andThen_ok,D,zP q.hk,run_underlying q.hk,C,G];simp[setObj,pf,h]
 .unfold dH at j ⊢;simp[j]
def I8{a b:List UInt8}(d:ba a=ba b):a=b:=by
 have:=congrArg bl d
 rwa[j9,j9]at this
def eA{a b:List UInt8}{A e:Prop}(j:a=b->A)(k:a≠b->e):bD ((ba a).toList==(ba b).toList) A e:=
 BG (λd=>j (I8 d)) (λd=>k λh=>d (h▸rfl))
def n6{α:Type}(f:α->V):∀(l:List (List UInt8×α)) (t:List UInt8),hl (l.map λj=>(ba j.1,f j.2)) (ba t)=(lk l t).map f
 |[],t=>rfl
 |(h,v)::l,t=>by
  have e:=n6 f l t;unfold hl at e ⊢;unfold lk;rw[List.map_cons,List.find?_cons];by_cases d:h=t
  .subst d;simp
  .have q:ba h≠ba t:=λk=>d (I8 k);rw[ab d];simp only[q,decide_false];exact e
def gv{α β:Type}{x:PR α}{f:α->aH->PR β}{e:Int}{p:Nat}(d:x=.er e p):x.b f=.er e p:=by subst d;rfl
def fQ{α β:Type}{x:PR α}{f:α->aH->PR β}{a:α}{s:aH}(d:x=.ok a s):x.b f=f a s:=by subst d;rfl
section
variable {X:RC} {T:List aI}
def xR{w w':I}{α:Type}{x:PR α}{val:α->V}{a:α}{d:aH}(e:x=.ok a d)(h:(bx X d).P w')(f:Fr (·∈[X.rb]) w w'):iJ X w x val (ad (val a)) w':=by subst e;exact⟨rfl,h,f⟩
def kY{w w':I}{α:Type}{x:PR α}{val:α->V}{e:Int}{p:Nat}(d:x=.er e p)(f:Fr (·∈[X.rb]) w w'):iJ X w x val (.panicked (je e p)) w':=by subst d;exact⟨rfl,f⟩
def vL{w:I}{D:List En}{s:aH}(j:(bx X s).P w)(k:g7 w X.rb D)(q:pA X T D)(x:s.p<T.length):
  ai U q' #[.pointer (some (aa X.rb))] w (iJ X w (dd T s) λn=>.i n):=by refine Rb.aq (eZ (kq rfl j k) 0 rfl (jo j k q x) (λt K H d y=>⟨_,_,_,rfl,y.ax λb L z=>z.ae λM A=>?_⟩) (λd p H er f=>kY (gv er) f));obtain⟨B,C,J⟩:=qh d;obtain⟨E,F,G⟩:=q.e.i t (B▸(o9 x).1) C;refine A.av (ac' E F G _) ?_;rintro _ N rfl h;exact⟨_,_,rfl,false,xF _ _,aQ rfl (xR (val:=λn=>.i n) (fQ d) (h.get 0) h.fr)⟩
def GU{w:I}{D:List En}{s:aH}(d:(bx X s).P w)(hD:g7 w X.rb D)(z:pA X T D)(M:s.p<T.length):
  ai U xZ #[.pointer (some (aa X.rb))] w (iJ X w (iA T s) dg):=by
 have nd:∀{k:Int} {t:aI} {s s':aH},s.p<T.length->k≠6->bL T k s=.ok t s'->s'.p<T.length:=λM Z F=>(eE z.e M Z F).l;refine yl.aq ((kq rfl d hD).ax λB L N=>eZ N 0 rfl (jo (N.get 0) (cV N (i:=0) rfl rfl) z M) (λt s1 w2 Y H2=>⟨_,_,_,rfl,H2.ax λC w3 H3=>H3.ae λw4 Q=>?_⟩) (λF p L er f=>kY (gv er) f));have p1:=nd M dl Y;refine eZ Q 0 rfl (jo (Q.get 0) (cV Q (i:=0) rfl rfl) z p1) (λu K w5 e2 H5=>⟨_,_,_,rfl,H5.ax λW w6 H6=>H6.ax λE w7 A=>?_⟩) (λF p L er f=>kY ((fQ Y).trans (gv er)) f);have p2:=nd p1 dl e2;have A:O (·∈[X.rb]) w w7 [bx X K,.g B,.g C,.g W,.g E] D:=A;have two:∀(k x:Int) (s3:aH) (h:I),s3.p<T.length->O (·∈[X.rb]) w h [bx X s3,.g B,.g C,.g W,.g E] D->
   (iA T s=(dd T s3).b λn s=>(bL T 1 s).b λ_ s=>if br ⟨k,n,x⟩then .ok ⟨k,n,x⟩ s else .er 9 t.a6)->
   yl.bH (aa X.rb) B 0 0 0 C t.kind (ba t.text) t.a6 E k 0 x h (iJ X w (iA T s) dg):=λk x s3 h p3 j y=>by
  refine eZ j 0 rfl (vL (j.get 0) (cV j (i:=0) rfl rfl) z p3) (λn s4 w9 J S=>⟨_,rfl,S.ae λaj H=>?_⟩) (λF p L er f=>kY (y.trans (gv er)) f);have p4:=(lK z.e p3 J).1.l;have y:=y.trans (fQ J);refine eZ H 0 rfl (jo (H.get 0) (cV H (i:=0) rfl rfl) z p4) (λc s5 ao e5 am=>⟨_,_,_,rfl,am.av (HM ⟨k,n,x⟩ ao) ?_⟩) (λF p L er f=>kY (y.trans (gv er)) f);have y:=y.trans (fQ e5);rintro _ ap rfl af;refine⟨_,rfl,ct (λd=>gw af (jX _ 9 t ap) λw' f=>kY (y.trans (ab ?_)) f) (λd=>af.ae λar ah=>xR (val:=dg) (y.trans (ag ?_)) (ah.get 0) ah.fr)⟩
  .intro hv;exact d (by show gk _=0;unfold gk;rw[ag hv])
  .refine Classical.byContradiction λhv=>?_;have d:gk _=0:=d;unfold gk at d;rw[ab hv]at d;cases d
 have G:iA T s=(match v3 u.text with
  |none=>kA u
  |some k=>(if k=2\/k=3 then dd T K else .ok 0 K).b λx s=>(dd T s).b λn s=>(bL T 1 s).b λ_ s=>
   if br ⟨k,n,x⟩then .ok ⟨k,n,x⟩ s else .er 9 t.a6):=(fQ Y).trans (fQ e2)
 have go:∀(k:Int) (h:I),O (·∈[X.rb]) w h [bx X K,.g B,.g C,.g W,.g E] D->v3 u.text=some k->yl.aV (aa X.rb) B 0 0 0 C t.kind (ba t.text) t.a6 E k 0 0 h (iJ X w (iA T s) dg):=λk h j Z=>by
  rw[Z]at G;have one:k=2\/k=3->yl.bg (aa X.rb) B 0 0 0 C t.kind (ba t.text) t.a6 E k 0 0 h (iJ X w (iA T s) dg):=λan=>by have E1:=G.trans (congrArg (λac=>PR.b ac _) (ag an));exact eZ j 0 rfl (vL (j.get 0) (cV j (i:=0) rfl rfl) z p2) (λn s4 w9 J S=>⟨_,rfl,S.ae λaj H=>two k n s4 aj (lK z.e p2 J).1.l H (E1.trans (fQ J))⟩) (λF p L er f=>kY (E1.trans (gv er)) f)
  exact aw (λd=>one (.inl d)) (λd=>aw (λh'=>one (.inr h')) (λh'=>two k 0 K h p2 j (G.trans (congrArg (λac=>PR.b ac _) (ab io)))))
 have q:v3 u.text=if u.text=[98,118]then some 0 else if u.text=[115,116,114]then some 1 else if u.text=[97,114,114]then some 2 else if u.text=[97,114,115]then some 3 else none:=rfl;refine eA (b:=[98,118]) (λd=>A.ae λh j=>go 0 h j (q.trans (ag d))) (λd=>?_);rw[ab d]at q;refine eA (b:=[115,116,114]) (λd=>A.ae λh j=>go 1 h j (q.trans (ag d))) (λd=>?_);rw[ab d]at q;refine eA (b:=[97,114,114]) (λd=>A.ae λh j=>go 2 h j (q.trans (ag d))) (λd=>?_);rw[ab d]at q;refine eA (b:=[97,114,115]) (λd=>A.ae λh j=>go 3 h j (q.trans (ag d))) (λd=>A.ae λh j=>?_);rw[ab d]at q;rw[q]at G;exact gw j (rp _ u h) λw' f=>kY G f
def ta:List (ByteArray×V):=fu.map λd=>(ba d.1,.agg #[.i d.2.1,.i (d.2.2:Int)])
def Fj:nN U H0 eH aeN (.agg #[.i 0,.i 0]):=by constructor<;>kernel_rfl
def vf:nN U B7 eH bz (.i 0):=by constructor<;>kernel_rfl
def AJ:nN U UI eH jv (.agg #[.slice none 0 0,.i 0,.i 0]):=by constructor<;>kernel_rfl
def i1(q:List UInt8×Nat):ByteArray×V:=(ba q.1,.i (q.2:Int))
def q8(q:List UInt8×(Sl×PM)):ByteArray×V:=(ba q.1,.agg #[q.2.1.v,.i (q.2.2.b:Int),.i (q.2.2.ix:Int)])
def fe(l:List (List UInt8×aM)):List V:=l.flatMap λd=>[.string (ba d.1),.i d.2.k,.i d.2.n,.i d.2.x]
structure hU(X:RC)(E:bW)(Ms:List (List UInt8×(Sl×PM)))(D:List En):Prop where
 tk:pA X E.T D
 mo:∃es c,En.ob X.mo (.map es c)∈D/\dH es ta
 mv:∃es c,En.ob X.mv (.map es c)∈D/\dH es (E.vs.map i1)
 mm:∃es c,En.ob X.mm (.map es c)∈D/\dH es (Ms.map q8)
 ms:E.ms=Ms.map λq=>(q.1,q.2.2)
 pr:∀q∈Ms,En.a3 4 q.2.1 (fe q.2.2.ps)∈D
 pm:match X.pm with
  |none=>E.pm=[]
  |some b=>∃es c,En.ob b (.map es c)∈D/\dH es (E.pm.map i1)
 kn:X.kn=(E.kn:Int)
 dp:X.dp=E.dp
 kc:db∈D
variable {E:bW} {Ms:List (List UInt8×(Sl×PM))}
def SV{w:I}{D:List En}{s:aH}(h:(bx X s).P w)(j:g7 w X.rb D):O F0 w w [] (bx X s::D):=bM _ (by
 intro e d;rcases aF.1 d with rfl|d
 .exact h
 .exact (j e d).1)
def RS{w:I}{D:List En}{s:aH}(d:(bx X s).P w)(J:g7 w X.rb D)(K:hU X E Ms D)(t:List UInt8):
  ai U OO #[.pointer (some (aa X.rb)),.string (ba t)] w λr N=>r=ad (.bool (iR t))/\af w N:=by
 have h:=SV d J;refine Rc.aq ?_;refine eA (b:=[110,117,109]) (λd=>eA (b:=[110,117,109]) (λ_=>⟨by subst d;rfl,h.fr⟩) λe=>absurd d e) (λz=>?_);refine eA (b:=[122,101,114,111]) (λd=>eA (b:=[122,101,114,111]) (λ_=>⟨by subst d;rfl,h.fr⟩) λe=>absurd d e) (λA=>?_);refine eA (b:=[101,120,116,114,97,99,116]) (λd=>eA (b:=[101,120,116,114,97,99,116]) (λ_=>⟨by subst d;rfl,h.fr⟩) λe=>absurd d e) (λB=>?_);refine eA (b:=[122,101,120,116]) (λd=>eA (b:=[122,101,120,116]) (λ_=>⟨by subst d;rfl,h.fr⟩) λe=>absurd d e) (λC=>?_);refine eA (b:=[115,101,120,116]) (λd=>eA (b:=[115,101,120,116]) (λ_=>⟨by subst d;rfl,h.fr⟩) λe=>absurd d e) (λF=>?_);refine eA (b:=[98,121,116,101]) (λd=>eA (b:=[98,121,116,101]) (λ_=>⟨by subst d;rfl,h.fr⟩) λe=>absurd d e) (λG=>?_);refine eA (b:=[105,110]) (λd=>⟨by subst d;rfl,h.fr⟩) (λH=>?_);have y:iR t=(lk fu t).isSome:=by unfold iR TD;simp[z,A,B,C,F,G,H]
 obtain⟨Q,c,L,M⟩:=K.mo;have j:=sR Fj (h.rd _ (cP _ L)) M (ba t);rw[ta,n6 λk:Int×Nat=>Value.agg #[.i k.1,.i (k.2:Int)]]at j;refine⟨_,h.dZ 0 4,((lk fu t).getD (0,0)).1,(((lk fu t).getD (0,0)).2:Nat),(lk fu t).isSome,?_,h.ax λO S q=>q.ae λT x=>⟨by rw[y],x.fr⟩⟩;rw[j];cases lk fu t<;>rfl
end
def Cm(x:Int):cF (aB .i64 x):=by rw[IntKind.wrap_i64];omega
structure MdV(d:Nx):Prop extends MdN d where
 nv:d.op≠0
def nK(w:I)(r:Ending)(w':I):Prop:=∃d:Nd,r=ad d.v/\MdV d.x/\d.P w'/\∀b∈aG d.ks,w.heap.size<=b
def aaH{op n m u:Int}{e:ByteArray}{st:aM}{ks:List Int}(d:MdV ⟨op,[],n,m,u,e,st⟩)(h:ks.length<=3):MdV ⟨op,ks,n,m,u,e,st⟩:=⟨⟨d.QE,d.QF,h,d.n,d.m,d.u,d.tx,d.re,d.li⟩,d.nv⟩
def E0(op:Int):-1<=b5 op/\b5 op<=3:=by unfold b5;omega
section
variable {w:I} {s:Sl} {l:List Nd} {n1 m2 k3:Int} {b8 ma:Nat}
def abg(hm:cF m2)(M:cF k3)(hl:l.length<=dO){op n m u:Int}{E:ByteArray}{st:aM}(hd:MdV ⟨op,[],n,m,u,E,st⟩)(many:Nat)(az:many<=3)(x:Int)(ah:-1<=x)(aj:x<(l.length:Int)):
  ∀(d i:Nat) (sl:Sl) (ks:List Int) (D:I),i+d=many->ks.length=i->(∀aa∈ks,0<=aa/\aa<(l.length:Int))->O F0 w D [.g b8,.g ma,n3 sl ks] [.gr s l]->
   jJ.i2 s m2 k3 b8 0 ⟨none,0,0⟩ 0 0 0 (a' #[]) 0 0 0 ma op sl n m u E st.k st.n st.x x (many:Int) (i:Int) D λr A=>nK w r A/\af w A:=by
 intro d;unfold dO at hl;induction d with
 |zero=>
  intro i sl ks D hi hlen ag B;refine jJ.mR (aQ (a2 io) (B.ae λF y=>⟨⟨⟨⟨op,ks,n,m,u,E,st⟩,sl⟩,rfl,aaH hd io,oT (y.get 2),λb Y=>(y.new _ (aD (i:=2) rfl) b Y).resolve_right id⟩,y.fr⟩))
 |succ d ih=>
  intro i sl ks D hi hlen ag B;have T:∀(C:Int) (F:I) (L:List En),-1<=C->C<(l.length:Int)->O F0 w F [.g b8,.g ma,n3 sl ks] [.gr s l]->jJ.nM s m2 k3 b8 0 ⟨none,0,0⟩ 0 0 0 (a' #[]) 0 0 0 ma op sl n m u E st.k st.n st.x x (many:Int) (i:Int) C F λr A=>nK w r A/\af w A:=by
   intro C F L h1 h2 y;refine aT (λh0=>y.ae λP z=>⟨⟨⟨⟨-1,[],0,0,0,ba [],aX⟩,⟨none,0,0⟩⟩,rfl,⟨⟨dl,dl,dl,dl,dl,dl,λ_=>dl,λW=>(by cases W),λW=>(by cases W)⟩,dl⟩,Rd.nil P,λb Y=>by cases Y⟩,z.fr⟩) (λh0=>?_);refine y.jE 2 sw rfl (λs' P z=>?_) (by have:=rj (y.get 2);omega);have am:O F0 w P [.g b8,.g ma,n3 s' (ks++[C])] [.gr s l]:=by rw[n3,ey];exact z
   refine am.ae λh q=>?_;rw[bm _ io];refine ih (i+1) s' (ks++[C]) h io (by grind) (λaa M=>?_) q;rcases aP.1 M with M|M
   .grind
   grind
  refine jJ.mR (aR (a5 io) (aT (λan=>aT (λap=>?_) (λap=>T x D [] ah aj B)) (λan=>T x D [] ah aj B)));obtain⟨Q,rfl⟩:∃Q:Nat,x=(Q:Int):=⟨x.toNat,io⟩;refine B.av (Xn (a8.1 (B.getD 0)) op Q (i:Int) m2 io hm) ?_;rintro _ F ⟨t,rfl⟩ y;refine⟨_,_,_,rfl,y.ax λab P z=>?_⟩;have S:∀(t:aM) (h:I),O F0 w h [.g b8,.g ma,n3 sl ks,.g ab] [.gr s l]->jJ.lC s m2 k3 b8 0 ⟨none,0,0⟩ 0 0 0 (a' #[]) 0 0 0 ma op sl n m u E st.k st.n st.x (Q:Int) (many:Int) (i:Int) ab t.k t.n t.x h λr A=>nK w r A/\af w A:=by intro t h q;have e5:aB .i64 (5 *(i:Int))=5 *(i:Int):=bo _ io;have e6:aB .i64 (1+5 *(i:Int))=1+5 *(i:Int):=bo _ io;refine⟨by grind,q.ae λw5 G=>G.av (Dj (a8.1 (G.getD 0)) t _ (Cm _) (by unfold dO;exact hl)) ?_⟩;rintro _ w6 ⟨ay,rfl,aq,ar⟩ H6;exact⟨_,rfl,T ay w6 [] aq ar (H6.take 3)⟩
  refine aw (λho=>aw (λh2=>?_) (λh2=>z.ae λh q=>S t h q)) (λho=>z.ae λh q=>S t h q);have hn:=rj (z.get 2);have J:ks[1]? =some (ks[1]'io):=aY io;have ao:=ag _ (aD J);generalize ks[1]'io=kk at J ao;refine⟨io,io,(oT (z.get 2)).cell J (j:=a0 1 *1) rfl λp hp _=>z.ae λh q=>?_⟩;have ac:l[kk.toNat]? =some (l[kk.toNat]'io):=aY io;generalize l[kk.toNat]'io=e at ac;have H:h.cell? (p.add (a0 1 *1))=some (.int .i64 kk):=by
   have:=(oT (q.get 2)).cell J (j:=a0 1 *1) rfl (K:=λN=>∃q',sl.a=some q'/\h.cell? (q'.add (a0 1 *1))=some (.int .i64 kk)) (λN Z H=>⟨N,Z,H⟩);rw[hp]at this;obtain⟨N,Z,H⟩:=this
   grind
  exact⟨kk,H,eh (a8.1 (q.getD 0)) (i:=kk.toNat) io ac λN Z c=>⟨_,_,_,c.s0,c.s1,c.s2,q.ae λw5 G=>S e.x.st w5 G⟩⟩
def abh(S:cF n1)(M:cF m2)(L:cF k3)(C:l.length<=dO){op n m u:Int}{j:ByteArray}{st:aM}(hd:MdV ⟨op,[],n,m,u,j,st⟩)(x:Int)(W:0<=x)(N:x<(l.length:Int))(E:I)(H:O F0 w E [.g b8,.g ma] [.gr s l]):
  jJ.bH s n1 m2 k3 b8 0 ⟨none,0,0⟩ 0 0 0 (a' #[]) 0 0 0 ma op ⟨none,0,0⟩ n m u j st.k st.n st.x x E λr h=>nK w r h/\af w h:=by
 refine H.av (Jl op E) ?_;rintro _ z rfl q;have T:=E0 op;have G:∀(x:Int) (d:I),-1<=x->x<(l.length:Int)->O F0 w d [.g b8,.g ma] [.gr s l]->jJ.fB s m2 k3 b8 0 ⟨none,0,0⟩ 0 0 0 (a' #[]) 0 0 0 ma op ⟨none,0,0⟩ n m u j st.k st.n st.x x (b5 op) d λr h=>nK w r h/\af w h:=by
  intro x d A B y;have e:=y.h8 bz 1;by_cases Q:b5 op<0
  .refine jJ.mR (aQ (a2 io) (e.ae λz q=>⟨⟨⟨⟨op,[],n,m,u,j,st⟩,⟨none,0,0⟩⟩,rfl,hd,Rd.nil z,λb K=>by cases K⟩,q.fr⟩))
  .have J:b5 op=(((b5 op).toNat:Nat):Int):=io
   show jJ.i2 _ _ _ _ _ _ _ _ _ _ _ _ _ _ _ _ _ _ _ _ _ _ _ _ (b5 op) 0 _ _;rw[J];exact abg M L C hd (b5 op).toNat io x A B (b5 op).toNat 0 ⟨none,0,0⟩ [] d io rfl gs e
 have F:∀(x:Int) (d:I),-1<=x->x<(l.length:Int)->O F0 w d [.g b8,.g ma] [.gr s l]->jJ.cG s n1 m2 k3 b8 0 ⟨none,0,0⟩ 0 0 0 (a' #[]) 0 0 0 ma op ⟨none,0,0⟩ n m u j st.k st.n st.x x (b5 op) d λr h=>nK w r h/\af w h:=by
  intro x d A B y;refine aw (λD=>y.av (fE 8 d) ?_) (λD=>G x d A B y);rintro _ P rfl e;refine⟨_,_,_,rfl,e.av (Dj (a8.1 (e.getD 0)) (aO 8) _ (Cm _) C) ?_⟩
  grind
 refine⟨_,rfl,aw (λD=>q.av (fE 1 z) ?_) (λD=>F x z io N q)⟩;rintro _ P rfl e;refine⟨_,_,_,rfl,e.av (Dj (a8.1 (e.getD 0)) (aO 1) _ (Cm _) C) ?_⟩
 grind
end
def opsL:List Int:=[4,5,6,7,8,9,10,11,12,13,14,15,16,17,18,19,20,21,22,23,24,25,26,27,28,29,30,31,32,33,34,1,2,3,18,18,16,6,24,25]
def abK{i:Nat}{op:Int}(e:opsL[i]? =some op):1<=op/\op<=34:=by
 have h:(opsL.all λd=>ak (1<=d)&&ak (d<=34))=true:=dl
 have:=dS.1 h op (aD e)
 grind
def aeH{i:Nat}{t:ByteArray}(e:n9[i]? =some t):t.size<=16:=by
 have h:(n9.all λd=>ak (d.size<=16))=true:=dl
 grind
def JD{w:I}{s:Sl}{l:List Nd}(h:GP w s l)(aN:1<=l.length)(hl:l.length<=dO)(hv:∀ar∈l,br ar.x.st=true)(C d B:Int)(hn:cF C)(M:cF d)(hk:cF B):
  ai U Oh #[s.v,.i C,.i d,.i B] w λr z=>nK w r z/\af w z:=by
 have hs:=gx h;refine jJ.aq ((vc h).ax λL w1 H1=>H1.nw λw2 _ H2=>H2.av (jO C 40 w2 io hn) ?_);have hr:=kI C 40 io;generalize fC C 40=ao at hr;rintro _ w3 rfl H3;obtain⟨j,rfl⟩:∃j:Nat,ao=(j:Int):=⟨ao.toNat,io⟩;have ah:opsL[j]? =some (opsL[j]'(by show j<40;omega)):=aY _;have am:=abK ah;generalize opsL[j]'(by grind)=op at ah am;have ac:bF w3 ⟨some (aa w1.heap.size),40,40⟩ opsL:=zE (T:=bz) (H3.ob 1) rfl;refine⟨_,rfl,io,io,ac.cell ah io λp hp Q=>⟨op,Q,H3.ax λJ w4 H4=>H4.ae λw5 H5=>H5.av (jO _ _ w5 io (Cm _)) ?_⟩⟩;have aI:=kI (aB .i64 (dV C 64)) (s.n:Int) io;generalize fC (aB .i64 (dV C 64)) (s.n:Int)=N at aI;rintro _ G rfl D;have H:∀{n m u:Int} {W:ByteArray} {st:aM} {A:I},MdV ⟨op,[],n,m,u,W,st⟩->O F0 w A [.g L,.g J] [.gr s l]->jJ.bH s C d B L 0 ⟨none,0,0⟩ 0 0 0 (a' #[]) 0 0 0 J op ⟨none,0,0⟩ n m u W st.k st.n st.x N A λr z=>nK w r z/\af w z:=λhd q=>abh hn M hk hl hd N io io _ q;have D:O F0 w G [.g L,.g J] [.gr s l]:=D.nn [true,false,true];have em:a' #[]=ba []:=rfl;have base:∀{n m u:Int} {W:ByteArray} {st:aM},0<=n/\n<=100->0<=m/\m<=100->0<=u/\u<=1000->(op≠33->W.size<=16)->(op=33->∃aj,W=ba (nt aj))->(op=2->W∈n9)->MdV ⟨op,[],n,m,u,W,st⟩:=λh1 h2 h3 h4 h5 h6=>⟨⟨by grind,am.2,gs,h1,h2,h3,h4,h5,h6⟩,by grind⟩;have zz:(0:Int)<=0/\(0:Int)<=100:=dl
 have Y:(0:Int)<=0/\(0:Int)<=1000:=dl
 refine⟨_,rfl,aw (λh1=>?_) (λh1=>aw (λh2=>?_) (λh2=>aw (λh3=>?_) (λh3=>aw (λh4=>?_) (λh4=>?_))))⟩
 .refine D.av (jO d 3 G io M) ?_;have az:=kI d 3 io;generalize fC d 3=v at az;rintro _ A rfl q;refine⟨_,rfl,?_⟩;have S1:∀(F:Int),1<=F->F<=7->jJ.bg s C d B L 0 ⟨none,0,0⟩ 0 0 0 (a' #[]) 0 0 0 J op ⟨none,0,0⟩ 0 0 0 (a' #[]) 0 0 0 N F A λr z=>nK w r z/\af w z:=by
   intro F h5 h6;refine q.av (fE F A) ?_;rintro _ E rfl y;have Q:∃c:Nat,(if 3<F then(3:Int)else F)=(c:Int)/\1<=c/\c<=3:=⟨(if 3<F then(3:Int)else F).toNat,io,io,io⟩;obtain⟨c,Q,aK,aL⟩:=Q;rw[Q];have ec:aB .u64 (c:Int)=(c:Int):=IntWalk.u64_in _ io;rw[ec];have ep:∃S:Int,aB .i64 (1 *2^min (a0 (c:Int)) (IntKind.bits .i64))=S/\1<=S/\S<=8:=by
    have:c=1\/c=2\/c=3:=io
    rcases this with rfl|rfl|rfl
    .exact ⟨2,dl,dl,dl⟩
    .exact ⟨4,dl,dl,dl⟩
    .exact ⟨8,dl,dl,dl⟩
   obtain⟨S,eq,q1,q2⟩:=ep;rw[eq];refine⟨_,_,_,rfl,io,y.ae λw9 P=>P.av (jO B S w9 io hk) ?_⟩;have aH:=kI B S io;generalize fC B S=a at aH;rintro _ aJ rfl ag;have ea:aB .u64 a=a:=IntWalk.u64_in _ io;refine⟨_,rfl,ag.ae λaS ap=>?_⟩;rw[ea];exact H (st:=aO F) (base zz zz io (λ_=>dl) (λh=>io) (λh=>io)) ap
  have e1:aB .i64 (1+v)=1+v:=bo _ io;show jJ.aV s C d B L 0 ⟨none,0,0⟩ 0 0 0 _ 0 0 0 J op ⟨none,0,0⟩ 0 0 0 _ 0 0 0 N (aB .i64 (1+v)) A _;rw[e1];exact aw (λ_=>S1 7 dl dl) (λ_=>S1 _ io io)
 .refine D.nw λA _ q=>q.av (jO d 6 A io M) ?_;have aA:=kI d 6 io;generalize fC d 6=v at aA;rintro _ E rfl y;obtain⟨i,rfl⟩:∃i:Nat,v=(i:Int):=⟨v.toNat,io⟩;have Z:n9[i]? =some (n9[i]'(by show i<6;omega)):=aY _;have an:=aeH Z;generalize n9[i]'(by grind)=t at Z an;have ac:Rd E ⟨some (aa G.heap.size),6,6⟩ (n9.map Value.string):=qR (T:=eH) (y.ob 2) rfl;refine⟨_,rfl,io,io,Rd.get ac (i:=i) (v:=.string t) (by grind) io λp hp Q=>⟨t,Q,y.ae λw9 P=>?_⟩⟩;exact H (st:=aX) (base zz zz Y (λ_=>an) (λh=>io) (λ_=>aD Z)) (P.take 2)
 .refine D.nw λA _ q=>q.av (jO d 2 A io M) ?_;have ab:=kI d 2 io;generalize fC d 2=v at ab;rintro _ E rfl y;obtain⟨i,rfl⟩:∃i:Nat,v=(i:Int):=⟨v.toNat,io⟩;have Z:([⟨2,2,1⟩,⟨3,1,1⟩]:List aM)[i]? =some (([⟨2,2,1⟩,⟨3,1,1⟩]:List aM)[i]'(by grind)):=aY _;generalize([⟨2,2,1⟩,⟨3,1,1⟩]:List aM)[i]'(by grind)=t at Z;have ac:bh 3 E ⟨some (aa G.heap.size),2,2⟩ (([⟨2,2,1⟩,⟨3,1,1⟩]:List aM).flatMap g4):=uw (T:=cd) (y.ob 2) rfl;obtain⟨g1,g2,g3⟩:=eG ac rfl Z (K:=λp=>Mz E (p.add (a0 (i:Int) *3)) λa b c=>loc [L,J] E λw9=>jJ.bH s C d B L 0 ⟨none,0,0⟩ 0 0 0 (a' #[]) 0 0 0 J op ⟨none,0,0⟩ 0 0 0 (a' #[]) a b c N w9 λr z=>nK w r z/\af w z) (λp hp c=>⟨_,_,_,c.c0,c.c1,c.c2,y.ae λw9 P=>H (st:=t) (base zz zz Y (λ_=>dl) (λh=>io) (λh=>io)) (P.take 2)⟩)
  grind
 .obtain ⟨xn,rfl⟩:∃xn:Nat,N=(xn:Int):=⟨N.toNat,io⟩;have hg:l[xn]? =some (l[xn]'io):=aY io;generalize l[xn]'io=e at hg;have aQ:=nC (hv e (aD hg));refine eh (a8.1 (D.getD 0)) rfl hg λp hp c=>⟨_,c.s1,D.av (jO d _ G io M) ?_⟩;have aC:=kI d (if 1<e.x.st.n then e.x.st.n else 1) io;generalize fC d (if 1<e.x.st.n then e.x.st.n else 1)=a at aC;have ha:a<64:=io
  rintro _ A rfl q;have e1:aB .i64 (a+1)=a+1:=bo _ io;refine⟨_,rfl,q.ae λE y=>y.av (jO B _ E io hk) ?_⟩;rw[e1];have aG:=kI B (a+1) io;generalize fC B (a+1)=b at aG;rintro _ w9 rfl P;exact⟨_,rfl,P.ae λaJ ag=>H (st:=aX) (base io io Y (λ_=>dl) (λh=>io) (λh=>io)) ag⟩
 have S8:op≠33->jJ.rU s C d B L 0 ⟨none,0,0⟩ 0 0 0 (a' #[]) 0 0 0 J op ⟨none,0,0⟩ 0 0 0 (a' #[]) 0 0 0 N G λr z=>nK w r z/\af w z:=by intro ay;refine D.av (jO d 2 G io M) ?_;have ab:=kI d 2 io;generalize fC d 2=v at ab;rintro _ A rfl q;have e1:aB .i64 (1+v)=1+v:=bo _ io;refine⟨_,rfl,q.ae λE y=>?_⟩;rw[e1];exact H (st:=aX) (base io zz Y (λ_=>dl) (λh=>absurd h ay) (λh=>io)) y
 refine aw (λh5=>aR (beq_iff_eq.2 h5) (S8 io)) (λh5=>aw (λh6=>S8 io) (λh6=>aw (λh7=>?_) (λh7=>aw (λh8=>D.av (WE d M G) ?_) (λh8=>H (st:=aX) (base zz zz Y (λ_=>dl) (λh=>absurd h h8) (λh=>io)) D))))
 .refine D.av (jO d 3 G io M) ?_;have ab:=kI d 3 io;generalize fC d 3=v at ab;rintro _ A rfl q;exact⟨_,rfl,q.ae λE y=>H (st:=aX) (base io zz Y (λ_=>dl) (λh=>io) (λh=>io)) y⟩
 .rintro _ A ⟨aj,rfl⟩ q;exact⟨_,rfl,q.ae λE y=>H (st:=aX) (base zz zz Y (λh=>absurd h8 h) (λ_=>⟨aj,rfl⟩) (λh=>io)) y⟩
def Er(t:BL):Bool:=match ie t with
 |.inr d=>Nat.ble (dn (cI d.tp)) 12
 |.inl _=>true
def sc(t:BL):Bool:=(match uz t with
 |some b=>jS t==b
 |none=>false)&&Er t&&Nat.ble t.length 30
def jH(i:Nat):Bool:=(List.range 108).all (λd=>sc (nt (108 *i+d)))
def YW:jH 0=true:=by kernel_rfl
def YX:jH 1=true:=by kernel_rfl
def Y4:jH 2=true:=by kernel_rfl
def Y5:jH 3=true:=by kernel_rfl
def Y6:jH 4=true:=by kernel_rfl
def Y7:jH 5=true:=by kernel_rfl
def Y8:jH 6=true:=by kernel_rfl
def Y9:jH 7=true:=by kernel_rfl
def Za:jH 8=true:=by kernel_rfl
def Zb:jH 9=true:=by kernel_rfl
def YY:jH 10=true:=by kernel_rfl
def YZ:jH 11=true:=by kernel_rfl
def Y0:jH 12=true:=by kernel_rfl
def Y1:jH 13=true:=by kernel_rfl
def Y2:jH 14=true:=by kernel_rfl
def Y3:jH 15=true:=by kernel_rfl
def YV:∀i,i<16->jH i=true:=by
 intro i e
 match i,e with
 |0,_=>exact YW
 |1,_=>exact YX
 |2,_=>exact Y4
 |3,_=>exact Y5
 |4,_=>exact Y6
 |5,_=>exact Y7
 |6,_=>exact Y8
 |7,_=>exact Y9
 |8,_=>exact Za
 |9,_=>exact Zb
 |10,_=>exact YY
 |11,_=>exact YZ
 |12,_=>exact Y0
 |13,_=>exact Y1
 |14,_=>exact Y2
 |15,_=>exact Y3
 |n+16,d=>exact absurd d io
def YU(k:Nat)(h:k<1728):sc (nt k)=true:=by
 have d:=YV (k / 108) io;have e:=dS.1 d (k%108) (List.mem_range.2 (Nat.mod_lt _ io))
 rwa[Nat.div_add_mod]at e
def Et:List BL:=[[],[97],[65],[115,101,118,101,110,116,101,101,110,45,108,101,116,116,101,114,115],[97,45,49],[45],[40],[122,122],[97,98],[98],[0],[97,97],[99],[100],[109],[110],[115],[116],[105],[122],[113],[120],[39,97,39,42],[91]]
def YG:Et.all sc=true:=by kernel_rfl
def wD(t:ByteArray):Prop:=bl t∈Et\/∃d,t=ba (nt d)
def Gm{t:ByteArray}(d:wD t):sc (bl t)=true:=by
 rcases d with d|⟨e,rfl⟩
 .exact dS.1 YG _ d
 .rw [j9,Uw];exact YU (e%1728) (Nat.mod_lt _ io)
def Gl{t:ByteArray}(e:wD t):t.size<=30:=by
 have d:=Gm e;unfold sc at d;simp only[bd]at d;have h:=Nat.le_of_ble_eq_true d.2
 rwa[cR]at h
def aby{t:ByteArray}(j:wD t):∀d,ie (bl t)=.inr d->jK 12 (cI d.tp):=λd k=>by have h:=Gm j;unfold sc at h;simp only[bd]at h;have e:=h.1.2;refine z9 _ ?_;unfold Er at e;rw[k]at e;exact Nat.le_of_ble_eq_true e
def Gn{t:ByteArray}(q:wD t):zo t/\oq t/\t.size<=100:=by
 have j:=Gm q;unfold sc at j;simp only[bd]at j;obtain⟨⟨d,e⟩,h⟩:=j;have h:=Nat.le_of_ble_eq_true h;rw[cR]at h;have x:oq t:=abk t λy w=>z9 _ (by unfold Er at e;rw[w]at e;exact Nat.le_of_ble_eq_true e)
 refine⟨⟨io,?_⟩,x,io⟩;cases k:uz (bl t)with
 |none=>rw[k]at d;cases d
 |some b=>
  rw[k]at d;have d:=eq_of_beq d;unfold mb;rw[d]
def MdN.ok{d:Nx}(e:MdN d):wC d:=by
 refine⟨by have:=e.kl;unfold dO;omega,?_,?_,λh=>?_⟩
 .have:=e.n;exact⟨io,io⟩
 .have:=e.m;exact⟨io,io⟩
 .exact (Gn (.inr (e.re h))).1
def l7.ok{g:List Nx}(d:l7 g)(e:g.length<=dO):zc g:=⟨e,d.vg.val,d.vg.vars⟩
def VO(g:List Nx)(n:Nx):(bb g n).1.length<=g.length+1:=by
 unfold bb;split
 .simp
 .split
  .simp
  .split
   .simp
   .simp
def pC{g:List Nx}{n:Nx}(d:(bb g n).2.2=0):(bA g n).2=0/\∃k:Nat,(bb g n).2.1=(k:Int)/\(bb g n).1[k]? =some (eo n (bA g n).1)/\((bb g n).1=g\/(eo n (bA g n).1∉g/\(bb g n).1=g++[eo n (bA g n).1]/\k=g.length)):=by
 unfold bb at d ⊢;split at d
 .rename_i e;exact absurd d e
 rename_i e;have e:(bA g n).2=0:=io
 refine⟨e,?_⟩;rw[ab io];cases h:fo (eo n (bA g n).1) g 0 with
 |some i=>
  have:=xE h;rw[Nat.sub_zero]at this;exact⟨i,rfl,this.2,.inl rfl⟩
 |none=>
  rw[h]at d;dsimp only at d ⊢;split at d
  .cases d
  .rename_i j;rw[ab j];exact⟨g.length,rfl,gs,.inr ⟨Ae h,rfl,rfl⟩⟩
def zr{g:List Nx}{n:Nx}(e:Vg g)(h:(bb g n).2.2=0):Vg (bb g n).1:=by
 obtain⟨j,w,_,_,d⟩:=pC h;rcases d with d|⟨k,q,_⟩
 .rw [d];exact e
 .rw [q];exact .snoc e (E8 (by rw[<-j])) k
def IF{g:List Nx}{n:Nx}(j:l7 g)(e:MdN n)(q:(bb g n).2.2=0):l7 (bb g n).1:=by
 refine⟨zr j.vg q,λk d=>?_⟩;obtain⟨x,z,_,_,h⟩:=pC q;rcases h with h|⟨y,w,_⟩
 .rw [h]at d;exact j.nd k d
 .rw [w]at d;rcases aP.1 d with d|d
  .exact j.nd k d
  .simp only[aF,aZ,a7]at d;subst d;exact⟨e.QE,e.QF,e.kl,e.n,e.m,e.u,e.tx,e.re,e.li⟩
def l7.kl{l:List Nd}(e:l7 (xs l)):∀d∈l,d.x.kids.length<=dO:=λd h=>by have:=(e.nd d.x (dA.2 ⟨d,h,rfl⟩)).kl;unfold dO;omega
def bY:Nat->List Nx->Nat->Nat
 |0,_,_=>0
 |f+1,g,i=>match g[i]? with
  |none=>1
  |some d=>d.kids.foldl (λh e=>h+bY f g e.toNat) 1
def fold_add(d:Int->Nat):∀(l:List Int) (z:Nat),l.foldl (λz e=>z+d e) z=z+l.foldl (λz e=>z+d e) 0
 |[],z=>gs
 |e::l,z=>by rw[List.foldl_cons,List.foldl_cons,fold_add d l (z+d e),fold_add d l (0+d e)];omega
def LB(e:Int->Nat)(b:Nat):∀(l:List Int),(∀d∈l,e d<=b)->l.foldl (λk d=>k+e d) 0<=l.length *b
 |[],_=>gs
 |d::l,h=>by rw[List.foldl_cons,fold_add e l,List.length_cons,Nat.succ_mul];have q:=h d hJ;have w:=LB e b l λd j=>h d (cP _ j);omega
def fold_congr(e h:Int->Nat):∀(l:List Int) (z:Nat),(∀d∈l,e d=h d)->l.foldl (λz d=>z+e d) z=l.foldl (λz d=>z+h d) z
 |[],_,_=>rfl
 |d::l,z,j=>by rw[List.foldl_cons,List.foldl_cons,j d hJ];exact fold_congr e h l _ λd k=>j d (cP _ k)
def T1{g:List Nx}(h:∀d∈g,d.kids.length<=3):∀(f i:Nat),bY f g i<=4^f
 |0,_=>by simp[bY]
 |f+1,i=>by
  unfold bY;split
  .exact Nat.one_le_pow _ _ io
  .rename_i d k;rw[fold_add];have q:=LB (λe=>bY f g e.toNat) (4^f) d.kids λe _=>T1 h f e.toNat;have j:=h d (aD k);have w:1<=4^f:=Nat.one_le_pow _ _ io;have x:d.kids.length *4^f<=3 *4^f:=lx _ j;rw[Nat.pow_succ];omega
def yN{g r:List Nx}(q:zf g):∀(f i:Nat),i<g.length->i<f->∀d,i<d->bY f (g++r) i=bY d g i
 |0,i,_,h,_,_=>absurd h io
 |f+1,i,e,h,0,j=>absurd j io
 |f+1,i,e,h,d+1,j=>by unfold bY;rw[List.getElem?_append_left e];have k:g[i]? =some (g[i]'e):=aY e;rw[k];refine fold_congr _ _ _ _ λw x=>?_;obtain⟨y,z⟩:=q i _ k w x;exact yN q f w.toNat io io d io
def JQ{w:I}{s:Sl}{l:List Nd}(C:GP w s l)(ab:l.length<=30)(E:∀d∈xs l,d.kids.length<=3)(N:zf (xs l)):∀(n i:Nat),i<n->n<=30->i<l.length->∀B,af w B->ai U Oj #[s.v,.i (i:Int)] B λr H=>r=ad (.i ((bY n (xs l) i:Nat):Int))/\af w H
 |0,i,M,_,_,_,_=>absurd M io
 |n+1,i,M,an,F,B,S=>by
  have A:∀{k:I},af w k->GP k s l:=λf=>⟨C.1.cA f,λd Z=>(bZ d).st w _ (λb K ac=>f.cw b ac id) (C.2 d Z)⟩;have y:l[i]? =some (l[i]'F):=aY F;generalize l[i]'F=d at y;have G:=og y;have k1:=E d.x (aD G);have k2:=N i d.x G;have hz:bY (n+1) (xs l) i=d.x.kids.foldl (λz e=>z+bY n (xs l) e.toNat) 1:=by
   conv=>lhs;unfold bY
   rw[G]
  have K:∀e,bY n (xs l) e<=4^n:=T1 E n;have O:4^n<=4^29:=Nat.pow_le_pow_right io io;have ap:(4:Nat)^29=288230376151711744:=dl
  rw[hz];have loop:∀(m j:Nat) (z:Nat) (k:I),j+m=d.x.kids.length->z<=1+j *4^29->(d.x.kids.drop j).foldl (λz e=>z+bY n (xs l) e.toNat) z=d.x.kids.foldl (λz e=>z+bY n (xs l) e.toNat) 1->af w k->uO.L0 s (i:Int) (z:Int) (j:Int) k λr H=>r=ad (.i ((d.x.kids.foldl (λz e=>z+bY n (xs l) e.toNat) 1:Nat):Int))/\af w H:=by
   intro m;induction m with
   |zero=>
    intro j z k hj ag h q;have hn:d.ks.n=d.x.kids.length:=bF.len ((A q).2 d (aD y));rw[dy io]at h;have h:z=d.x.kids.foldl (λz e=>z+bY n (xs l) e.toNat) 1:=h;exact uO.b' (eh (A q) rfl y λp O c=>⟨_,c.c1,aQ (a2 io) ⟨by rw[<-h],q⟩⟩)
   |succ m ih=>
    intro j z k hj ag h q;have L:bF k d.ks d.x.kids:=(A q).2 d (aD y);have hn:=bF.len L;have D:d.x.kids[j]? =some (d.x.kids[j]'io):=aY io;have aa:d.x.kids.drop j=d.x.kids[j]'io::d.x.kids.drop (j+1):=dw io;rw[aa,List.foldl_cons]at h;generalize d.x.kids[j]'io=e at D h;have aj:=k2 e (aD D);refine uO.b' (eh (A q) rfl y λp O c=>⟨_,c.c1,aR (a5 io) (eh (A q) rfl y λp' ao Q=>⟨_,Q.c1,io,io,L.cell D io λaq hq Y=>⟨e,Y,?_⟩⟩)⟩);have J:e=(e.toNat:Int):=io
    have W:=K e.toNat;generalize am:e.toNat=kn at J h W;rw[J];refine(JQ C ab E N n kn io io io k q).mono ?_;rintro _ P ⟨rfl,T⟩;refine⟨_,rfl,?_⟩;show uO.L0 s (i:Int) (aB .i64 ((z:Int)+((bY n (xs l) kn:Nat):Int))) (aB .i64 ((j:Int)+1)) P _;have ae:z+bY n (xs l) kn<=1+(j+1) *4^29:=by rw[Nat.succ_mul];omega
    have ah:(j+1) *4^29<=3 *4^29:=lx _ io;rw[bm _ io,bo _ io,show(z:Int)+((bY n (xs l) kn:Nat):Int)=((z+bY n (xs l) kn:Nat):Int)by omega];exact ih (j+1) _ P io ae h T
  exact uO.ok (loop d.x.kids.length 0 1 B io io rfl S)
def VR{g:List Nx}{n e:Nx}(j:n.op≠0)(d:e∈(bb g n).1)(h:e.op=0):e∈g:=by
 unfold bb at d;split at d
 .cases d
 .split at d
  .exact d
  .split at d
   .cases d
   .rcases aP.1 d with d|d
    .exact d
    .rw [cy.1 d]at h;exact absurd h j
def VZ(kind:Int)(l:List Nd):Prop:=(∀d∈xs l,d.op=0->d∈xs (bN kind))/\(∃r,xs l=xs (bN kind)++r)/\∀i,i<l.length->bY (i+1) (xs l) i<=400/\∀d,(xs l)[i]? =some d->d.st.n<=16
def adZ{kind:Int}:∀e∈bN kind,e.x.st.n<=16:=by
 intro e j;have h:e∈fX++hO++iD:=by
  unfold bN at j;rcases aP.1 j with d|d
  .rcases aP.1 d with d|d
   .simp [d]
   .split at d
    .simp [d]
    .cases d
  .split at d
   .simp [d]
   .cases d
 simp only[fX,hO,iD,l3,mM,List.cons_append,List.nil_append,aF,aZ,a7]at h;rcases h with rfl|rfl|rfl|rfl|rfl|rfl|rfl|rfl|rfl|rfl<;>decide
def uc(w:I)(kind:Int)(d:Nat)(r:Ending)(w':I):Prop:=∃(s:Sl) (l:List Nd),r=ad s.v/\l7 (xs l)/\1<=l.length/\l.length<=10+d/\GP w' s l/\(∀b∈(En.gr s l).fp,w.heap.size<=b)/\VZ kind l/\l.length<=(bN kind).length+d
def Wy{w:I}{ls:Sl}{q:List Int}(hr:bF w ls q)(ac:∀x∈q,cF x)(bi:q.length<=9223372036854775807)(kind:Int)(C:Nat)(hm:C<=20):
  ai U N6 #[ls.v,.i kind,.i (C:Int)] w λr B=>uc w kind C r B/\af w B:=by
 have hn:=bF.len hr;have bk:=TM kind;have loop:∀(m i:Nat) (z:Sl) (l:List Nd) (Y:I),i+m=C->l7 (xs l)->VZ kind l->1<=l.length->l.length<=(bN kind).length+i->(∀b∈(En.gr z l).fp,w.heap.size<=b)->O F0 w Y [] [.rd ls (q.map bC),.gr z l]->
   oJ.a1 ls kind (C:Int) z ((3 *i:Nat):Int) Y λr B=>uc w kind C r B/\af w B:=by
  intro m;have e3:aB .i64 (3 *(C:Int))=3 *(C:Int):=bo _ io;induction m with
  |zero=>
   intro i z l Y hi y J Q h2 T M;have fin:oJ.cG z Y λr B=>uc w kind C r B/\af w B:=⟨⟨z,l,rfl,y,Q,io,a8.1 (M.getD 1),T,J,io⟩,M.fr⟩;exact oJ.bS (aT (λ_=>aQ (a2 (by rw[e3];omega)) fin) (λ_=>fin))
  |succ m ih=>
   intro i z l Y hi y J Q h2 T M;have fin:oJ.cG z Y λr B=>uc w kind C r B/\af w B:=⟨⟨z,l,rfl,y,Q,io,a8.1 (M.getD 1),T,J,io⟩,M.fr⟩;have ba:aB .i64 (((3 *i:Nat):Int)+1)=((3 *i+1:Nat):Int):=bo _ io;have bb:aB .i64 (((3 *i:Nat):Int)+2)=((3 *i+2:Nat):Int):=bo _ io;have bc:aB .i64 (((3 *i:Nat):Int)+3)=((3 *(i+1):Nat):Int):=bo _ io;have next:∀(ab:Sl) (h:List Nd) (E:I),l7 (xs h)->VZ kind h->1<=h.length->h.length<=(bN kind).length+(i+1)->(∀b∈(En.gr ab h).fp,w.heap.size<=b)->O F0 w E [] [.rd ls (q.map bC),.gr ab h]->oJ.bH ls kind (C:Int) ab ((3 *i:Nat):Int) E λr B=>uc w kind C r B/\af w B:=by intro ab h E g1 gv g2 g3 g4 G;show oJ.a1 ls kind (C:Int) ab (aB .i64 (((3 *i:Nat):Int)+3)) E _;rw[bc];exact ih (i+1) ab h E io g1 gv g2 g3 g4 G
   have S1:∀(Z:Nat) (d:Nd) (N:I) (L:List En),En.g Z∈L->MdV d.x->d.P N->(∀b∈aG d.ks,w.heap.size<=b)->O F0 w N L [.rd ls (q.map bC),.gr z l,bZ d]->oJ.bg ls kind (C:Int) z ((3 *i:Nat):Int) Z d.x.op d.ks d.x.n d.x.m d.x.u d.x.tx d.x.st.k d.x.st.n d.x.st.x N λr B=>uc w kind C r B/\af w B:=by
    intro Z d N L be e pd fd F;have a6:(xs l).length=l.length:=by simp[xs]
    have F:O F0 w N [] [.rd ls (q.map bC),.gr z l,bZ d]:=F.take 0;refine kK ((JJ (a8.1 (F.getD 1)) pd (y.ok (by rw[a6];unfold dO;omega)) e.toMdN.ok y.kl).mono ?_);rintro _ w4 ⟨⟨s',rfl,⟨h,W,G',F'⟩⟩,f4⟩;have aj:∀b∈(En.gr s' h).fp,w.heap.size<=b:=λb H=>by
     rcases F' b H with(D|D)|D
     .exact T b D
     .exact vM fd b D
     .exact bB F.fr.size D
    have H4:=F.cA f4;have az:O F0 w w4 [] [.rd ls (q.map bC),.gr s' h]:=(F.ef (.gr s' h) f4 (a8.2 G') (λb H=>by
     rcases F' b H with(D|D)|D
     .exact .inr (.inr ⟨_,aD (i:=1) rfl,D⟩)
     .exact .inr (.inr ⟨_,aD (i:=2) rfl,D⟩)
     .exact .inl D)).forget _ gs
    have aA:∀{w6:I},O F0 w w6 [] [.rd ls (q.map bC),.gr z l,bZ d]->O F0 w w6 [] [.rd ls (q.map bC),.gr z l]:=λM=>M.forget _ gs;refine⟨f4,_,_,_,rfl,aw (λh0=>?_) (λh0=>next z l w4 y J Q io T (aA H4))⟩;obtain⟨_,aa,aL,aC,aN⟩:=pC h0;have ar:l7 (xs h):=by rw[W];exact IF y e.toMdN h0
    have a4:∀A∈xs h,A.op=0->A∈xs (bN kind):=λA S D=>by rw[W]at S;exact J.1 A (VR e.nv S D) D
    obtain⟨xr,av⟩:∃xr,xs h=xs l++xr/\xr.length<=1:=by
     obtain⟨_,_,_,_,h3⟩:=pC h0;rcases h3 with h3|⟨_,h5,_⟩
     .exact ⟨[],by rw[W,h3,cQ],gs⟩
     .exact ⟨_,by rw[W];exact h5,gs⟩
    have aS:h.length<=(bN kind).length+(i+1):=by have:=VO (xs l) d.x;rw[<-W]at this;simp only[xs,vK]at this;omega
    rw[<-W]at aC;have ah:aa<h.length:=by have:=(cL.1 aC).1;simpa[xs]using this
    have ag:h[aa]? =some (h[aa]'ah):=aY ah;generalize h[aa]'ah=A at ag;rw[aL];refine eh (a8.1 (az.getD 1)) rfl ag λp hp c=>⟨_,_,_,c.s0,c.s1,c.s2,?_⟩;refine kK ((Xo kind A.x.st w4).mono ?_);rintro _ E ⟨⟨b,rfl⟩,f5⟩;have G:=az.cA f5;have am:=aA (H4.cA f5);refine⟨f5,_,rfl,bn (λ_=>?_) (λ_=>next z l E y J Q io T am)⟩;refine eh (a8.1 (G.getD 1)) rfl ag λp' bj c'=>⟨_,c'.s1,aT (λaJ=>?_) (λ_=>next z l E y J Q io T am)⟩;have aM:∀d∈xs h,d.kids.length<=3:=λd e=>(ar.nd d e).kl;refine kK ((JQ (a8.1 (G.getD 1)) io aM ar.vg.sN (aa+1) aa io io ah E (Fr.refl _ _)).mono ?_);rintro _ w6 ⟨rfl,f6⟩;have f6:af E w6:=f6;refine⟨f6,_,rfl,aT (λhz=>next s' h w6 ar ⟨a4,?_,λi hi=>?_⟩ io aS aj (G.cA f6)) (λ_=>next z l w6 y J Q io T (am.cA f6))⟩
    .obtain ⟨r0,a3⟩:=J.2.1;exact⟨r0++xr,by rw[av.1,a3,cU]⟩
    .have bl:(xs h).length=h.length:=by simp[xs]
     rcases Nat.lt_or_ge i l.length with ap|ap
     .rw [av.1,yN y.vg.sN (i+1) i io io (i+1) io];exact⟨(J.2.2 i ap).1,λd e=>(J.2.2 i ap).2 d (by rwa[List.getElem?_append_left (by simp[xs];omega)]at e)⟩
     .have aU:=congrArg List.length av.1;rw[bG]at aU;have aO:i=aa:=by
       have bm:(xs l).length=l.length:=by simp[xs]
       rcases aN with A|⟨_,A,ek⟩
       .rw [<-W]at A;have:=congrArg List.length A;omega
       .rw [<-W]at A;have:=congrArg List.length A;rw[bG]at this;simp only[List.length_singleton]at this;omega
      subst aO;refine⟨io,λd e=>?_⟩;rw[og ag]at e;cases e;exact aJ
   refine oJ.bS ?_;rw[ba,bb,e3];refine aT (λbh=>aR (a5 io) (M.dr λw2 H2=>?_)) (λ_=>fin);have ao:bF w2 ls q:=H2.getD 0;have g0:q[3 *i]? =some (q[3 *i]'io):=aY io;have g1:q[3 *i+1]? =some (q[3 *i+1]'io):=aY io;have g2:q[3 *i+2]? =some (q[3 *i+2]'io):=aY io;generalize q[3 *i]'io=x0 at g0;generalize q[3 *i+1]'io=x1 at g1;generalize q[3 *i+2]'io=x2 at g2;refine⟨io,io,ao.cell g0 io λp0 aV c0=>⟨x0,c0,io,io,ao.cell g1 io λp1 aW c1=>⟨x1,c1,io,io,ao.cell g2 io λp2 aX c2=>⟨x2,c2,?_,?_⟩⟩⟩⟩
   .have an:=JD (a8.1 (H2.getD 1)) Q (by unfold dO;omega) (λd e=>y.vg.val d.x (dA.2 ⟨d,e,rfl⟩)) x0 x1 x2 (ac _ (aD g0)) (ac _ (aD g1)) (ac _ (aD g2));refine H2.DA an ?_;rintro _ N ⟨d,rfl,e,pd,fd⟩ _ F3;have F:=F3.rd (bZ d) pd (vM fd);refine⟨_,_,_,_,_,_,_,_,_,rfl,F.ax λZ w4 H4=>H4.ae λE G=>?_⟩;exact S1 Z d E _ gs e (G.getD 2) (λb H=>bB H2.fr.size (fd b H)) G
   .refine H2.ax λZ N F=>?_;have aK:bF N ls q:=F.getD 0;have again:∀{j:Nat} {x:Int} {p:Addr} {X:Nat},q[j]? =some x->ls.a=some p->X=j *1->N.cell? (p.add X)=some (.int .i64 x):=by intro j x p X y hp hX;have:=aK.cell y hX (K:=λay=>∃q',ls.a=some q'/\N.cell? (q'.add X)=some (.int .i64 x)) (λay hq hc=>⟨ay,hq,hc⟩);rw[hp]at this;obtain⟨ay,hq,hc⟩:=this;cases hq;exact hc
    have an:=JD (a8.1 (F.getD 1)) Q (by unfold dO;omega) (λd e=>y.vg.val d.x (dA.2 ⟨d,e,rfl⟩)) x0 x1 x2 (ac _ (aD g0)) (ac _ (aD g1)) (ac _ (aD g2));refine⟨again g2 aX io,again g1 aW io,again g0 aV io,F.g9 an ?_⟩;rintro _ w4 ⟨d,rfl,e,pd,fd⟩ _ F4;have H4:=F4.rd (bZ d) pd (vM fd);refine⟨_,_,_,_,_,_,_,_,_,rfl,H4.ae λE G=>?_⟩;exact S1 Z d E _ gs e (G.getD 2) (λb H=>bB F.fr.size (fd b H)) G
 refine oJ.aq ((Xk kind w).mono ?_);rintro _ Y ⟨⟨s,rfl,⟨l,hl,aI,aH⟩⟩,f1⟩;have hlen:=TM kind;have bf:l.length=(bN kind).length:=by have:=congrArg List.length hl;simpa[xs]using this
 have aj:∀b∈(En.gr s l).fp,w.heap.size<=b:=λb H=>(aH b H).resolve_left id;have M:O F0 w w [] [.rd ls (q.map bC)]:=bM _ (by intro A S;simp only[aF,aZ,a7]at S;subst S;exact hr)
 have H1:=M.ef (.gr s l) f1 (a8.2 aI) (λb H=>.inl (aj b H));have a9:∀i,i<l.length->bY (i+1) (xs l) i<=400/\∀d,(xs l)[i]? =some d->d.st.n<=16:=λi hi=>by have y:(xs l)[i]? =some ((xs l)[i]'(by simp[xs];exact hi)):=aY _;generalize(xs l)[i]'(by simp[xs];exact hi)=d at y;have e:d∈xs (bN kind):=hl▸aD y;obtain⟨A,S,rfl⟩:=dA.1 e;refine⟨?_,λd e=>by rw[y]at e;cases e;exact adZ A S⟩;unfold bY;rw[y];show List.foldl _ 1 A.x.kids<=400;rw[(HG A S).1];exact(by decide:1<=400)
 exact⟨s,rfl,loop C 0 s l Y io (by rw[hl];exact adY kind) ⟨λd e _=>hl▸e,⟨[],by rw[hl,cQ]⟩,a9⟩ io io aj H1⟩
section
variable {X:RC} {T:List aI} {E:bW} {Ms:List (List UInt8×(Sl×PM))}
def oP(q:Sl×PM):V:=.agg #[q.1.v,.i (q.2.b:Int),.i (q.2.ix:Int)]
def na(Ms:List (List UInt8×(Sl×PM)))(t:List UInt8):Sl×PM:=(lk Ms t).getD (⟨none,0,0⟩,⟨[],0,0⟩)
def xO(Ms:List (List UInt8×(Sl×PM)))(k:Nat)(t:List UInt8):Bool:=match lk Ms t with
 |some d=>ak (d.2.ix<k)
 |none=>false
def RT{w:I}{D:List En}{s:aH}(z:(bx X s).P w)(A:g7 w X.rb D)(x:hU X E Ms D)(t:List UInt8):
  ai U OP #[.pointer (some (aa X.rb)),.string (ba t)] w λr F=>r=ad (.tuple #[oP (na Ms t),.bool (xO Ms E.kn t)])/\af w F:=by
 have y:=SV z A;obtain⟨K,c,B,C⟩:=x.mm;refine Re.aq (y.ax λH L h=>⟨_,h.dZ 0 6,(na Ms t).1,((na Ms t).2.b:Nat),((na Ms t).2.ix:Nat),(lk Ms t).isSome,?_,h.ax λJ M k=>?_⟩)
 .have j:=sR AJ (h.rd _ (cP _ B)) C (ba t);rw[show Ms.map q8=Ms.map λd=>(ba d.1,oP d.2)from rfl,n6 oP]at j;rw[j];unfold na;cases lk Ms t<;>rfl
 .unfold xO na;cases j:lk Ms t with
  |none=>exact aQ rfl (k.ae λG e=>⟨rfl,e.fr⟩)
  |some d=>
   refine aR rfl (k.ae λG e=>⟨_,e.dZ 0 8,e.ae λN q=>⟨q.dZ 0 8,?_,q.fr⟩⟩);have:ak (((d.2.ix:Int))<X.kn)=ak (d.2.ix<E.kn):=by rw[x.kn];grind
   show Ending.returned (.tuple #[_,.bool (ak (((d.2.ix:Int))<X.kn))])=_;rw[this];rfl
def eK(X:RC)(l:List Nd)(w:I){α:Type}(x:PR α)(k:α->V->I->Prop):aC:=λr d=>match x with
 |.ok a e=>∃v,r=ad v/\k a v d/\∃h j,(bx {X with g:=h} e).P d/\GP d h j/\xs j=e.g/\(Vg e.g/\e.g.length<=4096)/\(∀b∈(En.gr h j).fp,b∈(En.gr X.g l).fp\/w.heap.size<=b)/\Fr (·∈[X.rb]) w d
 |.er q p=>r=.panicked (je q p)/\Fr (·∈[X.rb]) w d
def pa{l:List Nd}{w w':I}{α:Type}{x:PR α}{k:α->V->I->Prop}{a:α}{d:aH}{v:V}{h:Sl}{j:List Nd}(e:x=.ok a d)(C:k a v w')(q:(bx {X with g:=h} d).P w')(z:GP w' h j)(A:xs j=d.g)(B:Vg d.g/\d.g.length<=4096)(y:∀b∈(En.gr h j).fp,b∈(En.gr X.g l).fp\/w.heap.size<=b)(f:Fr (·∈[X.rb]) w w'):eK X l w x k (ad v) w':=by subst e;exact⟨v,rfl,C,h,j,q,z,A,B,y,f⟩
def fL{l:List Nd}{w w':I}{α:Type}{x:PR α}{d:α->V->I->Prop}{e:Int}{p:Nat}(h:x=.er e p)(f:Fr (·∈[X.rb]) w w'):eK X l w x d (.panicked (je e p)) w':=by subst h;exact⟨rfl,f⟩
def VP{M:Nat->Prop}{w0 w w':I}{L D:List En}(H:O M w0 w L D)(i:Nat){e q d:En}(hi:L[i]? =some e)(f:Fr (·∈e.fp) w w')(G:q.P w')(C:q.fp=e.fp)(hd:d.P w')(z:∀b∈d.fp,w.heap.size<=b\/∃g∈D,b∈g.fp):O M w0 w' (L.set i q) (D++[d]):=by
 have j:=H.fx i q hi f G (λb z=>.inl (C▸z));refine⟨j.fr,j.own,λg h=>?_,j.new,j.nd,λg h b A x y k=>?_⟩
 .rcases aP.1 h with h|h
  .exact j.rd g h
  grind
 .rcases aP.1 h with h|h
  .exact j.dj g h b A x y k
  .rw [cy.1 h]at A;rcases z b A with B|⟨E,J,B⟩
   .have:b<w.heap.size:=by
     rcases List.mem_or_eq_of_mem_set y with F|rfl
     .exact x.lt w (H.own x F) b k
     .rw [C]at k;exact e.lt w (H.own e (aD hi)) b k
    omega
   .exact j.dj E J b B x y k
structure gJ(X:RC)(l:List Nd)(s:aH)(D:List En):Prop where
 d:En.gr X.g l∈D
 x:xs l=s.g
 v:Vg s.g
 n:s.g.length<=4096
def gJ.sub{l:List Nd}{s:aH}{D D':List En}(e:gJ X l s D)(j:∀h∈D,h∈D'):gJ X l s D':=⟨j _ e.d,e.x,e.v,e.n⟩
def ns{M:Nat->Prop}{w0 w:I}{L D:List En}{bs:List Nat}{l:List Nd}(H:O M w0 w L D)(i:Nat){s:aH}{α:Type}{x:PR α}{y:α->V->I->Prop}{P:au}{f:b3}{args:Array V}{R K:aC}(hi:L[i]? =some (bx X s))(F:En.gr X.g l∈D)(C:ai P f args w (eK X l w x y))(J:∀a k h j v e,x=.ok a k->y a v e->gJ {X with g:=h} j k (D++[.gr h j])->(∀b∈(En.gr h j).fp,b∈(En.gr X.g l).fp\/w0.heap.size<=b)->O M w0 e (L.set i (bx {X with g:=h} k)) (D++[.gr h j])->K (ad v) e)(E:∀q p e,x=.er q p->Fr M w0 e->R (.panicked (je q p)) e)(B:∀b∈bs,En.g b∈L.eraseIdx i:=by simp):mX bs P f args R w K:=by
 refine C.mono λr e d=>?_;unfold eK at d;split at d
 .rename_i a k;obtain⟨v,rfl,Q,h,j,N,G,S,A,z,f⟩:=d;exact .inr ⟨⟨_,rfl⟩,EZ H hi f B,J a k h j v e rfl Q ⟨da _ (cy.2 rfl),S,A.1,A.2⟩ (λb d=>(z b d).imp id λd=>bB H.fr.size d) (VP H i hi f N rfl (a8.2 G) λb d=>(z b d).elim (λd=>.inr ⟨_,F,d⟩) .inl)⟩
 .rename_i q p;obtain⟨rfl,f⟩:=d;exact .inl ⟨_,rfl,E q p e rfl (EA H hi f)⟩
def VL{g:List Nx}{n:Nx}(e:g.length<=4096)(d:(bb g n).2.2=0):(bb g n).1.length<=4096:=by
 unfold bb at d ⊢
 grind
def aeZ{g:List Nx}(e:Vg g):∀d∈g,d.kids.length<=3:=λd h=>by obtain⟨i,j⟩:=List.mem_iff_getElem?.1 h;have k:=(e.ry i d j).kl;have q:=(E0 d.op).2;omega
def VM{g:List Nx}{n:Nx}(d:(bb g n).2.2=0):0<=(bb g n).2.1:=by
 unfold bb at d ⊢
 grind
def Bo{w:I}{D:List En}{s:aH}{l:List Nd}{t:aI}{d:Nd}(G:(bx X s).P w)(hD:g7 w X.rb D)(h:gJ X l s D)(T:db∈D)(hd:bZ d∈D)(Y:j7 d.x):
  ai U vi #[.pointer (some (aa X.rb)),d.v,mJ t] w (eK X l w (eu s d.x t) λk v _=>v=.i (k:Int)):=by
 have H:=h.x;have hl:l.length=s.g.length:=by grind
 have af:=h.n;have W:∀L∈l,L.x.kids.length<=1000000000:=λL he=>by have:=aeZ h.v L.x (H▸dA.2 ⟨L,he,rfl⟩);omega
 have fin:∀{J:I} {K:List En} {y:Sl} {q:List Nd} (E z:Nat),O (·∈[X.rb]) w J (bx X s::K) (D++[.gr y q])->En.g z∈K->En.g E∈K->xs q=(bb s.g d.x).1->(∀b∈(En.gr y q).fp,b∈(En.gr X.g l).fp\/w.heap.size<=b)->
   GF.aV (aa X.rb) E t.kind (ba t.text) t.a6 z y (bb s.g d.x).2.1 (bb s.g d.x).2.2 J (eK X l w (eu s d.x t) λk v _=>v=.i (k:Int)):=λ{J K y q} E z j ac ab A B=>by
  refine ct (λF=>gw j (jX _ _ t J) (λw' f=>fL (x:=eu s d.x t) (by unfold eu;grind) f)) (λF=>?_);have F:(bb s.g d.x).2.2=0:=F;have ea:eu s d.x t=.ok (bb s.g d.x).2.1.toNat {s with g:=(bb s.g d.x).1}:=by unfold eu;grind
  have h1:=VM F;refine j.ic 0 2 rfl (λZ e=>pa ea ?_ (e.get 0) (a8.1 (e.rd _ gs)) A ⟨zr h.v F,VL h.n F⟩ B e.fr) gs (by grind)
  grind
 refine GF.aq ((kq rfl G hD).ax λb4 w1 H1=>H1.ax λE w2 H2=>H2.ae λJ j=>⟨X.g,by rw[add_add];exact j.ld 0 2,?_,?_⟩)
 .refine kK ((T4 (a8.1 (j.rd _ h.d)) (j.rd _ hd) (j.rd _ T) Y io (H▸h.v.val) W).mono ?_);rintro _ Z ⟨⟨y,rfl,S⟩,f⟩;obtain⟨q,A,Q,B⟩:=S.ex;have e:=j.ef (.gr y q) f (a8.2 Q) (λb C=>(B b C).elim (λG=>.inr (.inr ⟨_,h.d,G⟩)) .inl);rw[H]at A ⊢;exact⟨f,_,_,_,rfl,e.ax λz w5 M=>M.ae λw6 N=>fin E z N gs gs A (λb C=>(B b C).imp id (bB j.fr.size))⟩
 .refine j.ax λz Z e=>⟨by rw[add_add];exact e.ld 0 2,kK ((T4 (a8.1 (e.rd _ h.d)) (e.rd _ hd) (e.rd _ T) Y io (H▸h.v.val) W).mono ?_)⟩;rintro _ w5 ⟨⟨y,rfl,S⟩,f⟩;obtain⟨q,A,Q,B⟩:=S.ex;have M:=e.ef (.gr y q) f (a8.2 Q) (λb C=>(B b C).elim (λG=>.inr (.inr ⟨_,h.d,G⟩)) .inl);rw[H]at A ⊢;exact⟨f,_,_,_,rfl,M.ae λw6 N=>fin E z N gs gs A (λb C=>(B b C).imp id (bB e.fr.size))⟩
def abr(l:List UInt8)(w:∃d,(l=35::98::d/\1<=d.length/\d.length<=64/\jz 2 d)\/(l=35::120::d/\1<=d.length/\d.length<=16/\jz 16 d)):j7 (hE l):=by
 have:(hE l).kids=[]/\(hE l).n=0/\(hE l).m=0/\0<=(hE l).u/\(hE l).op=1:=by
  unfold hE
  grind
 obtain⟨h,j,k,e,q⟩:=this;exact⟨by grind,io,io,e,io⟩
def acm{w:I}{D:List En}{s:aH}{l:List Nd}{t:aI}(T:(bx X s).P w)(W:g7 w X.rb D)(L:gJ X l s D)(hk:db∈D)(e:∃d,(t.text=35::98::d/\1<=d.length/\d.length<=64/\jz 2 d)\/(t.text=35::120::d/\1<=d.length/\d.length<=16/\jz 16 d)):
  ai U FK #[.pointer (some (aa X.rb)),mJ t] w (eK X l w (eu s (hE t.text) t) λk v _=>v=.i (k:Int)):=by
 have go:∀(j:Nat) (q:I) (h:Nat) (sz:Nat) (c:UInt8) (d:List UInt8),(h=2\/h=16)->O (·∈[X.rb]) w q [bx X s,.g j] D->t.text=35::c::d->1<=d.length->h^d.length<=18446744073709551616->jz h d->d.length *sz<=64->d.length<=64->
   hE t.text=⟨1,[],0,0,(dh h d:Int),ba [],⟨0,((d.length *sz:Nat):Int),0⟩⟩->j7 (hE t.text)->GH.aV (aa X.rb) j t.kind (ba t.text) t.a6 (h:Int) (sz:Int) q (eK X l w (eu s (hE t.text) t) λk v _=>v=.i (k:Int)):=λj q h sz c d J B e y z A h4 h5 M C=>by
  have N:(ba t.text).size=d.length+2:=by rw[be,e];rfl
  have hx:(ba t.text).extract (a0 2) (ba t.text).size=ba d:=by
   rw[I7,N,e];show ba (((35::c::d).take (d.length+2)).drop 2)=ba d
   grind
  refine⟨dl,io,?_⟩;rw[hx];refine B.av (ade J y z A q) ?_;rintro _ w2 rfl Q;refine⟨_,_,rfl,false,xF _ _,aQ rfl ?_⟩;have H:aB .i64 ((aB .i64 ((((ba t.text).size:Nat):Int) - 2)) *(sz:Int))=((d.length *sz:Nat):Int):=by rw[N,bo (((d.length+2:Nat):Int) - 2) io,show((d.length+2:Nat):Int) - 2=(d.length:Int)by omega,<-Int.natCast_mul,bo _ io]
  have F:=Q.ef (bZ ⟨hE t.text,⟨none,0,0⟩⟩) (Fr.refl _ _) (by show Rd w2 _ ((hE t.text).kids.map bC);rw[M];exact Rd.nil _) (λb J=>by have:b∈(En.rd ⟨none,0,0⟩ ((hE t.text).kids.map bC)).fp:=J;rw[M]at this;cases this)
  have K:=Bo (t:=t) (F.get 0) (cV F (i:=0) rfl rfl) (L.sub λH he=>cm _ he) (cm _ hk) (da _ (cy.2 rfl)) C;show mX [j] _ _ #[.pointer (some (aa X.rb)),.agg #[.i 1,.slice none 0 0,.i 0,.i 0,.u (dh h d:Int),.string (ba []),.i 0,.i (aB .i64 ((aB .i64 ((((ba t.text).size:Nat):Int) - 2)) *(sz:Int))),.i 0],mJ t] _ _ _;rw[H];have hv:(⟨hE t.text,⟨none,0,0⟩⟩:Nd).v=.agg #[.i 1,.slice none 0 0,.i 0,.i 0,.u (dh h d:Int),.string (ba []),.i 0,.i ((d.length *sz:Nat):Int),.i 0]:=by grind
  rw[hv]at K;exact ns F 0 rfl (cm _ L.d) K (λk s' g' l' v w4 S ab E Y G=>⟨_,ab▸rfl,pa S rfl (G.get 0) (a8.1 (G.rd _ E.d)) E.x ⟨E.v,E.n⟩ Y G.fr⟩) (λH p w' er f=>fL er f)
 refine GH.aq ((kq rfl T W).ax λj q B=>?_);have C:=abr t.text e;obtain⟨d,Z⟩:=e;rcases Z with⟨e,y,z,A⟩|⟨e,y,z,A⟩
 .refine ⟨dl,98,by rw[Dc,e];rfl,aQ rfl (go j q 2 1 98 d (.inl rfl) B e y ?_ A io io ?_ C)⟩
  .exact bB (Nat.pow_le_pow_right dl z) dl
  .rw [e];show(⟨1,[],0,0,_,ba [],aO (((35::98::d).length - 2:Nat):Int)⟩:Nx)=_;simp[aO]
 .refine ⟨dl,120,by rw[Dc,e];rfl,aR rfl (go j q 16 4 120 d (.inr rfl) B e y ?_ A io io ?_ C)⟩
  .exact bB (Nat.pow_le_pow_right dl z) dl
  .rw [e];show(⟨1,[],0,0,_,ba [],aO ((((35::120::d).length - 2) *4:Nat):Int)⟩:Nx)=_;simp[aO]
end
section
variable {X:RC} {T:List aI}
def aco{N:Nat}(hS:mT N)(hN:N+1<=1000000)(hf:∀t∈T,t.kind=5->∀ah,ie t.text=.inr ah->jK N (cI ah.tp)){w:I}{D:List En}{s:aH}(k:(bx X s).P w)(hD:g7 w X.rb D)(hT:pA X T D)(hp:s.p<T.length):
  ai U FL #[.pointer (some (aa X.rb))] w (iJ X w (rs T s) λt=>.string (ba t)):=by
 refine Bg.aq (eZ (kq rfl k hD) 0 rfl (jo k hD hT hp) (λt Z w1 e1 H1=>⟨_,_,_,rfl,H1.ax λy w2 H2=>H2.ae λw3 Q=>?_⟩) (λe p w1 er f=>kY (gv er) f));obtain⟨Y,h2,z⟩:=qh e1;have H:=hf t (Y▸(o9 hp).1) h2;have E0:rs T s=if(g2 t.text).2=0 then .ok (g2 t.text).1 Z else .er (g2 t.text).2 t.a6:=fQ e1;have Q:O (·∈[X.rb]) w w3 [bx X Z,.g y] D:=Q;clear Y h2 z;have W:∀{w':I} {L' D':List En} (e:Int) (u:List UInt8),O (·∈[X.rb]) w w' (bx X Z::L') D'->g2 t.text=(u,e)->Bg.bg (aa X.rb) y t.kind (ba t.text) t.a6 e (ba u) w' (iJ X w (rs T s) λt=>.string (ba t)):=λ{w' L' D'} e u C d=>
  ct (λh0=>gw C (jX _ e t w') λay f=>kY (E0.trans (by rw[d];exact ab h0)) f) (λh0=>xR (val:=λt=>.string (ba t)) (E0.trans (by rw[d];exact ag h0)) (C.get 0) C.fr)
 have bad:∀{M:I} {D':List En} (e:Int),e≠0->g2 t.text=([],e)->O (·∈[X.rb]) w M [bx X Z,.g y] D'->∀(A:Nat->I->Prop) (x0 x1 x2:Int) (sl:Sl),vr [y] M λF w7=>bD (e==0) (A F w7) (loc [y,F] w7 λam=>Bg.aV (aa X.rb) y t.kind (ba t.text) t.a6 F x0 x1 x2 sl e am (iJ X w (rs T s) λt=>.string (ba t))):=λ{M D'} e G d C A x0 x1 x2 sl=>
  C.ax λF w7 H7=>aw (λk=>absurd k G) (λ_=>H7.ae λw8 q=>aw (λk=>absurd k G) (λ_=>W e [] q d))
 have hz:=be t.text;refine kK ((Jo _ w3).mono ?_);rintro r w4 ⟨f4,d⟩;refine⟨f4,?_⟩;have E:=Q.cA f4;rcases d with⟨Y,rfl⟩|⟨Y,res,ao,⟨a,rfl,rfl⟩|⟨j,rfl,⟨z,rfl⟩|⟨z,u,rfl,K,pt,ft⟩⟩⟩
 .exact ⟨_,_,_,⟨none,0,0⟩,_,_,rfl,bad 4 dl (by unfold g2;rw[ag io]) E _ _ _ _ _⟩
 all_goals have h4:¬4096<t.text.length:=io
 all_goals have h:=UF ao
 all_goals rw[j9]at h
 .have h:Sum.inl a=ie t.text:=h;exact⟨_,_,_,⟨none,0,0⟩,_,_,rfl,bad 2 dl (by unfold g2;rw[ab h4,<-h]) E _ _ _ _ _⟩
 .have h:Sum.inr (fj j)=ie t.text:=h;exact⟨_,_,_,⟨none,0,0⟩,_,_,rfl,bad 4 dl (by unfold g2;rw[ab h4,<-h];dsimp only;rw[uW,ag z]) E _ _ _ _ _⟩
 .have h:Sum.inr (fj j)=ie t.text:=h;have H:=H _ h.symm;rw[uW]at H;have d:g2 t.text=if k1 (cI j.tp)=0 then(if iY (gj (cI j.tp))=0 then(cK 0 (gj (cI j.tp)) (a9 (gj (cI j.tp))),0)else([],iY (gj (cI j.tp))))else([],k1 (cI j.tp)):=by unfold g2;rw[ab h4,<-h];dsimp only;rw[uW,ab io]
  generalize cI j.tp=x at K H d z;have E:=Q.ef (.tree u) f4 pt (λb hb=>.inl (ft b (aW.1 hb)));have ar:u.sz<=64:=by rw[<-J.ez,K];exact z
  refine⟨_,_,_,u.s,_,_,rfl,E.ax λF w5 H5=>aw (λ_=>H5.ae λM H6=>?_) (λk=>absurd rfl k)⟩;refine H6.g9 (Jn hS hN u M io (by rw[K];exact H) (H6.rd (.tree u) gs)) ?_;rintro _ w7 ⟨v,rfl,L,pu,fu⟩ _ F7;rw[K]at L;rw[K];have H7:=F7.rd (.tree v) pu λb hb=>fu b (aW.1 hb);refine⟨_,_,_,v.s,_,rfl,H7.ae λw8 q=>aw (λG=>?_) (λac=>W _ [] q (by rw[d,ab ac]))⟩;rw[ag G]at d;have aj:v.sz<=1000000:=by
   rw[<-J.ez,L];have:k1 x=0:=G;unfold k1 at this;unfold gj;split at this
   .rename_i B;rw[ag B];unfold p' at this;unfold qa;split at this
    .cases this
    .rename_i an;rw[ab an];omega
   .rename_i B;exact absurd this B
  have pv:=q.rd (.tree v) gs;refine kK (G5.aq ((gT pv).ax λb1 w9 K9=>K9.av (Dl v w9 aj (K9.getD 0)) ?_));rintro _ ap rfl S;rw[L];refine⟨_,rfl,ct (λac=>⟨S.fr,_,_,rfl,W _ [] (q.cA S.fr) (by rw[d,ab ac])⟩) (λB=>S.av (QU v 0 ap aj io ?_ (S.getD 0)) ?_)⟩
  .exact EE _ (by rw[L];exact(Cc B).1)
  .rintro _ am rfl af;refine⟨_,rfl,af.fr,_,_,rfl,W 0 _ (q.cA af.fr) (by rw[d,ag B,L])⟩
end
def hU.sub{X:RC}{E:bW}{j:List (List UInt8×(Sl×PM))}{D D':List En}(F:hU X E j D)(g:Sl)(d:∀z∈D,z∈D'):hU {X with g:=g} E j D':=by
 obtain⟨⟨t,Y⟩,⟨A,q,M,S⟩,⟨B,w,N,T⟩,⟨C,x,O,W⟩,ms,P,h,L,y,K⟩:=F;refine⟨⟨d _ t,Y⟩,⟨A,q,d _ M,S⟩,⟨B,w,d _ N,T⟩,⟨C,x,d _ O,W⟩,ms,λQ J=>d _ (P Q J),?_,L,y,d _ K⟩;show match X.pm with
  |none=>E.pm=[]
  |some b=>∃e c,En.ob b (.map e c)∈D'/\dH e (E.pm.map i1)
 cases k:X.pm with
 |none=>rw[k]at h;exact h
 |some b=>
  rw[k]at h;obtain⟨e,c,G,H⟩:=h;exact⟨e,c,d _ G,H⟩
def i6(E:bW)(d:List (List UInt8×(Sl×PM)))(tm:aH->PR Nat)(p0:Nat):Prop:=∀(X:RC) (w:I) (D:List En) (s:aH) (l:List Nd),(bx X s).P w->g7 w X.rb D->hU X E d D->gJ X l s D->e5 E s.g->p0<=s.p->s.p<E.T.length->s.tm<=65536->
 ai U sV #[.pointer (some (aa X.rb))] w (eK X l w (tm s) λk v _=>v=.i (k:Int))
def sZ(w:I)(n:Nx)(v:V)(w':I):Prop:=∃d:Nd,d.x=n/\v=d.v/\d.P w'/\∀b∈(bZ d).fp,w.heap.size<=b
section
variable {E:bW} {Ms:List (List UInt8×(Sl×PM))} {tm:aH->PR Nat} {p0:Nat}
def aaT(hC:i6 E Ms tm p0)(hI:lD E tm p0){X0:RC}{l0:List Nd}{w:I}{x:PR Nx}{hd:Nx}{G H:Nat}{o0 o2 o3 o4 o6 o7 o8:Int}{o1:Sl}{o5:ByteArray}{N:Nat}(hN:N<=1000):∀(n i:Nat) (g:Sl) (B:I) (s:aH) (l:List Nd) (D:List En) (kd:List Int) (sl:Sl),
  O (·∈[X0.rb]) w B [bx {X0 with g:=g} s,.g G,.g H,.row bz 1 sl (kd.map bC)] D->hU {X0 with g:=g} E Ms D->gJ {X0 with g:=g} l s D->e5 E s.g->p0<=s.p->s.p<E.T.length->s.tm<=65536->
  (∀b∈(En.gr g l).fp,b∈(En.gr X0.g l0).fp\/w.heap.size<=b)->i+n=N->kd.length=i->x=(gy tm n s).b (λks s=>.ok {hd with kids:=kd++ks} s)->
  vD.cq (aa X0.rb) G o0 o1 o2 o3 o4 o5 o6 o7 o8 H hd.op sl hd.n hd.m hd.u hd.tx hd.st.k hd.st.n hd.st.x (N:Int) (i:Int) B (eK X0 l0 w x (sZ w)):=by
 intro n;induction n with
 |zero=>
  intro i g B s l D kd sl C L h A K Q S M hi hk q;refine vD.dF (aQ (a2 io) (C.ae λw2 e=>?_));have q:x=.ok {hd with kids:=kd} s:=by rw[q];show PR.ok _ _=_;rw[cQ]
  refine pa q (⟨⟨{hd with kids:=kd},sl⟩,rfl,rfl,oT (e.get 3),λb P=>?_⟩) (e.get 0) (a8.1 (e.rd _ h.d)) h.x ⟨h.v,h.n⟩ M e.fr;have ab:b∈(En.row bz 1 sl (kd.map bC)).fp:=by
   have:b∈(if kd.map bC=[]then[]else aG sl):=P;split at this
   .cases this
   .exact this
  refine(e.new _ (aD (i:=3) rfl) b ab).resolve_right λhr=>?_;exact j' e.nd (i:=3) (j:=0) rfl rfl dl b ab (by rw[cy.1 hr];simp[En.c,En.ob])
 |succ n ih=>
  intro i g B s l D kd sl C L h A K Q S M hi hk q;refine vD.dF (aR (a5 io) (C.ae λw2 e=>?_));have q:x=(tm s).b λk s=>(gy tm n s).b λl s=>.ok {hd with kids:=kd++((k:Int)::l)} s:=by
   rw[q];show PR.b (PR.b (tm s) _) _=_;cases tm s with
   |er y p=>rfl
   |ok k Z=>
    show PR.b (PR.b (gy tm n Z) _) _=PR.b (gy tm n Z) _;cases gy tm n Z<;>rfl
  refine ns (X:={X0 with g:=g}) e 0 rfl h.d (hC {X0 with g:=g} w2 D s l (e.get 0) (cV e (i:=0) rfl rfl) L h A K Q S) (λk Y z W v w3 y hv af P H3=>?_) (λy p w' er f=>fL (q.trans (gv er)) f);obtain⟨J,g2,g3⟩:=hI s k Y K Q S h.v A y;have hn:=rj (H3.get 3);subst hv;refine⟨_,rfl,H3.jE 3 sw rfl (λs2 w4 H4=>H4.ae λw5 F=>?_) io⟩;rw[bm _ io];refine ih (i+1) z w5 Y W (D++[.gr z W]) (kd++[(k:Int)]) s2 ?_ (L.sub z λy he=>cm _ he) af (A.up J.len) io J.l J.t.2 (λb ac=>(P b ac).elim (M b) .inr) io (by rw[bG,hk];rfl) ?_
  .have F:O (·∈[X0.rb]) w w5 [bx {X0 with g:=z} Y,.g G,.g H,.row bz 1 s2 (kd.map bC++[bC (k:Int)])] (D++[.gr z W]):=F;rw[ey];exact F
  .rw [q,fQ y];congr 1;funext ks s;rw[cU];rfl
end
def MY{P:au}{T kt x:aE}{z:V}(e:nN P T kt x z){w:I}{h:Nat}{es:Array MapEntry}{clock:Nat}{ms:List (ByteArray×V)}(B:w.heap[h]? =some (.map es clock))(C:dH es ms)(k:ByteArray):
  (Instr.lookup T (.map (some h)) (.string k) false).run P w=.ok ((hl ms k).getD z) w:=by
 have y:=xq (k:=k) (i:=0) C;have A:(getObj h).run P w=.ok (.map es clock) w:=by simp[getObj,pf,B]
 have d:=Hr (ms:=ms) (k:=k) (i:=0);unfold Instr.lookup Instr.findKey;simp only[Sem.run_bind,run_underlying e.hT,Result.andThen_ok,A,Sem.run_pure,zP e.hk,run_underlying e.hk,y];cases j:((ms.findIdx? λp=>ak (p.1=k)).bind λq=>(ms[q]?).map λp=>(0+q,p.2))with
 |none=>rw[j]at d;simp[<-d,Cq e.hz]
 |some D=>rw[j]at d;simp[<-d]
def int_lt{T:List aI}(H:hX T){s y:aH}{n:Int}(q:s.p<T.length)(h:dd T s=.ok n y):0<=n/\n<10000000000000:=by obtain⟨t,C,j,k⟩:=bK h;cases k;obtain⟨d,e,z⟩:=qh j;obtain⟨B,w,x⟩:=H.i t (d▸(o9 q).1) e;have:=vJ dl x t.text.length;rw[fV (bw _)]at this;have A:10^t.text.length<=10^13:=Nat.pow_le_pow_right dl w;omega
def abH:∀d∈fu,d.2.2<=3:=dl
def abJ(w:List UInt8):((lk fu w).getD (0,0)).2<=3:=by
 cases d:lk fu w with
 |none=>exact dc _
 |some v=>exact abH _ (kg d)
section
variable {E:bW} {Ms:List (List UInt8×(Sl×PM))} {tm:aH->PR Nat} {p0:Nat} {X:RC}
def ack{N:Nat}(hS:mT N)(hN:N+1<=1000000)(hf:∀t∈E.T,t.kind=5->∀af,ie t.text=.inr af->jK N (cI af.tp))(hC:i6 E Ms tm p0)(hI:lD E tm p0){w:I}{D:List En}{s:aH}{l:List Nd}(wd:List UInt8)(j:(bx X s).P w)(hD:g7 w X.rb D)(hE:hU X E Ms D)(hG:gJ X l s D)(hO:e5 E s.g)(h0:p0<=s.p)(L:s.p<E.T.length)(ah:s.tm<=65536):
  ai U FI #[.pointer (some (aa X.rb)),.string (ba wd)] w (eK X l w (iT E.T tm wd s) (sZ w)):=by
 have K:=hE.tk;refine vD.aq ((kq rfl j hD).ax λC w1 H1=>H1.ax λG w2 J=>?_);have J:O (·∈[X.rb]) w w2 [bx X s,.g C,.g G] D:=J;have hw:∀{e:Int} {p:Nat},h4 E.T wd s=.er e p->iT E.T tm wd s=.er e p:=λj=>gv j;have tail:∀{hd:Nx} {ar:Nat} {M:aH} {q:I},h4 E.T wd s=.ok (hd,ar) M->hd.kids=[]->ar<=3->O (·∈[X.rb]) w q [bx X M,.g C,.g G] D->
   vD.aV (aa X.rb) C 0 ⟨none,0,0⟩ 0 0 0 (a' #[]) 0 0 0 G hd.op ⟨none,0,0⟩ hd.n hd.m hd.u hd.tx hd.st.k hd.st.n hd.st.x (ar:Int) q (eK X l w (iT E.T tm wd s) (sZ w)):=λ{hd ar M q} e hk ha h=>by
  have hm:p0<=M.p/\M.p<E.T.length/\M.tm<=65536/\M.g=s.g:=by
   rcases LO K.e L e with m|rfl
   .exact ⟨by have:=m.p;omega,m.l,by rw[m.t];exact ah,m.g⟩
   .exact ⟨h0,L,ah,rfl⟩
  obtain⟨m1,m2,m3,m4⟩:=hm;refine aaT (X0:=X) (l0:=l) (hd:=hd) hC hI (N:=ar) io ar 0 X.g q M l D [] ⟨none,0,0⟩ (h.h8 bz 1) hE ⟨hG.d,by rw[m4];exact hG.x,by rw[m4];exact hG.v,by rw[m4];exact hG.n⟩ (by rw[m4];exact hO) m1 m2 m3 (λb j=>.inl j) io rfl ?_;exact fQ e
 have B:h4 E.T wd s=(if wd=[110,117,109]then(dd E.T s).b λu s=>(dd E.T s).b λn s=>.ok (⟨1,[],0,0,u,ba [],aO n⟩,0) s else
  if wd=[122,101,114,111]then(iA E.T s).b λac s=>.ok (⟨3,[],0,0,0,ba [],ac⟩,0) s else
  if wd=[101,120,116,114,97,99,116]then(dd E.T s).b λn s=>(dd E.T s).b λm s=>.ok (⟨21,[],n,m,0,ba [],aX⟩,1) s else
  if wd=[122,101,120,116]then(dd E.T s).b λn s=>.ok (⟨22,[],n,0,0,ba [],aX⟩,1) s else
  if wd=[115,101,120,116]then(dd E.T s).b λn s=>.ok (⟨23,[],n,0,0,ba [],aX⟩,1) s else
  if wd=[98,121,116,101]then(dd E.T s).b λn s=>.ok (⟨28,[],n,0,0,ba [],aX⟩,1) s else
  if wd=[105,110]then(rs E.T s).b λr s=>.ok (⟨33,[],0,0,0,ba r,aX⟩,1) s else
  .ok (ft ((lk fu wd).getD (0,0)).1,((lk fu wd).getD (0,0)).2) s):=rfl
 have two:∀{F:Int->Int->Nx×Nat},h4 E.T wd s=((dd E.T s).b λu s=>(dd E.T s).b λn s=>.ok (F u n) s)->∀{q:I} {R:Int->Int->I->Prop},O (·∈[X.rb]) w q [bx X s,.g C,.g G] D->
   (∀u n y z,0<=u->u<10000000000000->h4 E.T wd s=.ok (F u n) y->O (·∈[X.rb]) w z [bx X y,.g C,.g G] D->R u n z)->
   mX [C,G] U q' #[.pointer (some (aa X.rb))] (eK X l w (iT E.T tm wd s) (sZ w)) q λr z=>∃u,r=ad (.i u)/\loc [C,G] z λw5=>mX [C,G] U q' #[.pointer (some (aa X.rb))] (eK X l w (iT E.T tm wd s) (sZ w)) w5 λr w6=>∃n,r=ad (.i n)/\loc [C,G] w6 λY=>R u n Y:=λ{F} H {q R} h hR=>
  eZ h 0 rfl (vL (h.get 0) (cV h (i:=0) rfl rfl) K L) (λu M z Z A=>⟨_,rfl,A.ae λw5 H5=>
   eZ H5 0 rfl (vL (H5.get 0) (cV H5 (i:=0) rfl rfl) K (lK K.e L Z).1.l) (λn y w6 W Q=>⟨_,rfl,Q.ae λY S=>
    hR u n y Y (int_lt K.e L Z).1 (int_lt K.e L Z).2 (by rw[H,fQ Z,fQ W]) S⟩) (λe p w' er f=>fL (hw (by rw[H,fQ Z];exact gv er)) f)⟩) (λe p w' er f=>fL (hw (by rw[H];exact gv er)) f)
 have one:∀{F:Int->Nx×Nat},h4 E.T wd s=((dd E.T s).b λn s=>.ok (F n) s)->∀{q:I} {R:Int->I->Prop},O (·∈[X.rb]) w q [bx X s,.g C,.g G] D->
   (∀n y z,h4 E.T wd s=.ok (F n) y->O (·∈[X.rb]) w z [bx X y,.g C,.g G] D->R n z)->
   mX [C,G] U q' #[.pointer (some (aa X.rb))] (eK X l w (iT E.T tm wd s) (sZ w)) q λr z=>∃n,r=ad (.i n)/\loc [C,G] z λw5=>R n w5:=λ{F} H {q R} h hR=>
  eZ h 0 rfl (vL (h.get 0) (cV h (i:=0) rfl rfl) K L) (λn y w6 W Q=>⟨_,rfl,Q.ae λY S=>
    hR n y Y (by rw[H,fQ W]) S⟩) (λe p w' er f=>fL (hw (by rw[H];exact gv er)) f)
 refine eA (b:=[110,117,109]) (λj=>J.ae λq h=>two (F:=λu n=>(⟨1,[],0,0,u,ba [],aO n⟩,0)) (B.trans (ag j)) h λu n y z u0 u1 e A=>?_) (λj=>?_)
 .have eu:aB .u64 u=u:=by rw[IntKind.wrap_u64];omega
  rw[eu];exact tail e rfl io A
 rw[ab j]at B;refine eA (b:=[122,101,114,111]) (λj=>J.ae λq h=>?_) (λj=>?_)
 .have H:=B.trans (ag j);exact eZ h 0 rfl (GU (h.get 0) (cV h (i:=0) rfl rfl) K L) (λac y w6 W Q=>⟨_,_,_,rfl,Q.ae λY S=>tail (hd:=⟨3,[],0,0,0,ba [],ac⟩) (ar:=0) (by rw[H,fQ W]) rfl io S⟩) (λe p w' er f=>fL (hw (by rw[H];exact gv er)) f)
 rw[ab j]at B;refine eA (b:=[101,120,116,114,97,99,116]) (λj=>J.ae λq h=>two (F:=λn m=>(⟨21,[],n,m,0,ba [],aX⟩,1)) (B.trans (ag j)) h λu n y z u0 u1 e A=>tail e rfl io A) (λj=>?_);rw[ab j]at B;refine eA (b:=[122,101,120,116]) (λj=>J.ae λq h=>one (F:=λn=>(⟨22,[],n,0,0,ba [],aX⟩,1)) (B.trans (ag j)) h λn y z e A=>tail e rfl io A) (λj=>?_);rw[ab j]at B;refine eA (b:=[115,101,120,116]) (λj=>J.ae λq h=>one (F:=λn=>(⟨23,[],n,0,0,ba [],aX⟩,1)) (B.trans (ag j)) h λn y z e A=>tail e rfl io A) (λj=>?_);rw[ab j]at B;refine eA (b:=[98,121,116,101]) (λj=>J.ae λq h=>one (F:=λn=>(⟨28,[],n,0,0,ba [],aX⟩,1)) (B.trans (ag j)) h λn y z e A=>tail e rfl io A) (λj=>?_);rw[ab j]at B;refine eA (b:=[105,110]) (λj=>J.ae λq h=>?_) (λj=>J.ae λq h=>?_)
 .have H:=B.trans (ag j);exact eZ h 0 rfl (aco hS hN hf (h.get 0) (cV h (i:=0) rfl rfl) K L) (λac y w6 W Q=>⟨_,rfl,Q.ae λY S=>tail (hd:=⟨33,[],0,0,0,ba ac,aX⟩) (ar:=1) (by rw[H,fQ W]) rfl io S⟩) (λe p w' er f=>fL (hw (by rw[H];exact gv er)) f)
 rw[ab j]at B;obtain⟨es,c,hm,hs⟩:=hE.mo;have lu:∀{w':I},O (·∈[X.rb]) w w' [bx X s,.g C,.g G] D->pf U (Instr.lookup H0 (.map (some X.mo)) (.string (ba wd)) false) w'=.ok (.agg #[.i ((lk fu wd).getD (0,0)).1,.i ((((lk fu wd).getD (0,0)).2:Nat):Int)]) w':=λ{w'} am=>by have hl:=MY Fj (am.rd _ hm) hs (ba wd);rw[ta,n6 λaj:Int×Nat=>Value.agg #[.i aj.1,.i (aj.2:Int)]]at hl;rw[hl];cases lk fu wd<;>rfl
 exact⟨_,h.ld 0 4,_,_,lu h,_,h.ld 0 4,_,_,lu h,h.ae λz A=>⟨lu A,A.ld 0 4,tail (hd:=ft ((lk fu wd).getD (0,0)).1) B rfl (abJ wd) A⟩⟩
end
abbrev yk(q:List UInt8×aM):List V:=[.string (ba q.1),.i q.2.k,.i q.2.n,.i q.2.x]
def GC{w:I}{s:Sl}{l:List (List UInt8×aM)}(e:bh 4 w s (fe l)){i:Nat}{q:List UInt8×aM}(hi:l[i]? =some q){A:Addr->Prop}(j:∀p,s.a=some p->w.cell? ((p.add (i *4)).add 0)=some (.string (ba q.1))->w.cell? ((p.add (i *4)).add 1)=some (.i q.2.k)->w.cell? ((p.add (i *4)).add 2)=some (.i q.2.n)->w.cell? ((p.add (i *4)).add 3)=some (.i q.2.x)->A p):i<s.n/\dJ s.a A:=by have h:=e.1;unfold fe at h;rw[pV yk 4 λ_=>rfl]at h;have z:=(cL.1 hi).1;refine⟨io,fN.elem (f:=yk) (sz:=4) (λ_=>rfl) io e.2.2 hi λp y d=>j p y (d 0 _ rfl) (d 1 _ rfl) (d 2 _ rfl) (d 3 _ rfl)⟩
def td{w:I}{s:Sl}{l:List (List UInt8×aM)}(e:bh 4 w s (fe l)):s.n=l.length:=by have d:=e.1;unfold fe at d;rw[pV yk 4 λ_=>rfl]at d;omega
def Ja:∀{ps:List (List UInt8×aM)} {az:List Int} {i:Nat} {q:List UInt8×aM} {a:Int},ps[i]? =some q->az[i]? =some a->(i9 ps az)[i]? =some (q.1,a.toNat)
 |[],_,_,_,_,d,_=>by simp at d
 |_::_,[],_,_,_,_,d=>by simp at d
 |(p,h)::ps,b::az,0,q,a,d,e=>by simp at d e;subst d e;rfl
 |(p,h)::ps,b::az,i+1,q,a,d,e=>by have:=Ja (ps:=ps) (az:=az) (i:=i) (by simpa using d) (by simpa using e);simpa[i9]using this
def Jb:∀{ps:List (List UInt8×aM)} {az:List Int},az.length=ps.length->(i9 ps az).map (·.1)=ps.map (·.1)
 |[],[],_=>rfl
 |[],_::_,d=>by simp at d
 |_::_,[],d=>by simp at d
 |(p,e)::ps,b::az,d=>by have:=Jb (ps:=ps) (az:=az) (by simpa using d);show p::(i9 ps az).map (·.1)=_;rw[this];rfl
def MU{α:Type}:∀{l:List (List UInt8×α)} {t:List UInt8},t∉l.map (·.1)->lk l t=none
 |[],_,_=>rfl
 |(j,v)::l,t,d=>by unfold lk;rw[ab (λe=>d (by simp[e]))];exact MU λh=>d (cP _ h)
def abi{α:Type}{l:List α}(e:l.Nodup){i:Nat}{a:α}(hi:l[i]? =some a):a∉l.take i:=λh=>by have d:=e;rw[<-List.take_append_drop i l,ff]at d;have:a∈l.drop i:=aD (i:=0) (by rw[List.getElem?_drop];exact hi);exact d.2.2 a h a this rfl
def lQ{M:Nat->Prop}{w0 w:I}{L D:List En}(H:O M w0 w L D){o:Obj}{K:I->Prop}(e:∀d,O M w0 d (L++[.ob w.heap.size o]) D->K d):de w o K:=
 e _ (H.push _ (Fr.alloc _ _ _) (m6 w o) (λb h=>by rw[cy.1 (show b∈[w.heap.size]from h)];exact bw _))
section
variable {E:bW} {Ms:List (List UInt8×(Sl×PM))} {tm:bW->aH->PR Nat} {X:RC}
abbrev hx(E:bW)(m:PM)(az:List Int):bW:={E with pm:=i9 m.ps az,kn:=m.ix}
def RR{q:Sl×PM}{t:List UInt8}(hq:lk Ms t=some q){sl:Sl}{az:List Int}(hB:i6 (hx E q.2 az) Ms (tm (hx E q.2 az)) 0){w:I}{D:List En}{s:aH}{l:List Nd}(ap:(bx X s).P w)(hD:g7 w X.rb D)(hE:hU X E Ms D)(W:gJ X l s D)(hO:e5 E s.g)(aJ:s.tm<=65536)(ha:En.rd sl (az.map bC)∈D)(aw:az.length=q.2.ps.length)(aj:∀Z∈az,0<=Z/\Z<(s.g.length:Int)):
  ai U AP #[.pointer (some (aa X.rb)),oP q,sl.v] w (eK X l w (hY tm E q.2 az s) λk v _=>v=.i (k:Int)):=by
 have an:=kg hq;obtain⟨o1,o2,o3,o4⟩:=hO.ms (t,q.2) (by rw[hE.ms];exact dA.2 ⟨_,an,rfl⟩);have af:En.a3 4 q.1 (fe q.2.ps)∈D:=hE.pr _ an;have o4:q.2.ps.length<=100000:=o4;have ag:hY tm E q.2 az s=(tm (hx E q.2 az) {s with p:=q.2.b}).b λn s'=>.ok n {s' with p:=s.p}:=rfl;generalize aO:hY tm E q.2 az s=Z at ag ⊢;have am:=Jb aw;have loop:∀(y K:Nat) (n i:Nat) (H:I) (es:Array MapEntry) (c:Nat),i+n=q.2.ps.length->dH es (((i9 q.2.ps az).take i).map i1)->O (·∈[X.rb]) w H [bx {X with pm:=some y,kn:=(q.2.ix:Int)} {s with p:=q.2.b},.g K,.ob y (.map es c)] D->
   tf.cq (aa X.rb) sl (s.p:Int) X.pm X.kn q.1 (q.2.ps.length:Int) (i:Int) H (eK X l w Z λk v _=>v=.i (k:Int)):=by
  intro y K n;induction n with
  |zero=>
   intro i H es c hi hs J;refine tf.dF (aQ (a2 io) ?_);have S:=J.freeze 2 (.ob y (.map es c)) rfl (J.get 2) (λb B=>B);have S:O (·∈[X.rb]) w H [bx {X with pm:=some y,kn:=(q.2.ix:Int)} {s with p:=q.2.b},.g K] (D++[.ob y (.map es c)]):=S;have aC:(i9 q.2.ps az).take i=i9 q.2.ps az:=fV (by have:=congrArg List.length am;rw[vK,vK]at this;omega)
   rw[aC]at hs;have up:∀z∈D,z∈D++[En.ob y (.map es c)]:=λz he=>cm _ he;have ar:hU {X with pm:=some y,kn:=(q.2.ix:Int)} (hx E q.2 az) Ms (D++[.ob y (.map es c)]):=by have:=hE.sub X.g up;exact⟨⟨this.tk.t,this.tk.e⟩,this.mo,this.mv,this.mm,this.ms,this.pr,⟨es,c,da _ (cy.2 rfl),hs⟩,rfl,this.dp,this.kc⟩
   have av:e5 (hx E q.2 az) s.g:=⟨hO.T,hO.vs,Df aj,hO.ms⟩;refine ns (X:={X with pm:=some y,kn:=(q.2.ix:Int)}) (bs:=[]) S 0 rfl (cm _ W.d) (hB _ H _ {s with p:=q.2.b} l (S.get 0) (cV S (i:=0) rfl rfl) ar ⟨cm _ W.d,W.x,W.v,W.n⟩ av (dc _) o2 aJ) (λk s' g' l' v L z hv ab ay h=>?_) (λz p w' er f=>fL (ag.trans (gv er)) f);subst hv;refine⟨_,rfl,h.st 0 1 rfl (λM F=>F.st 0 7 rfl (λw5 N=>N.st 0 8 rfl (λw6 G=>?_)))⟩;exact pa (ag.trans (fQ z)) rfl (G.get 0) (a8.1 (G.rd _ ab.d)) ab.x ⟨ab.v,ab.n⟩ ay G.fr
  |succ n ih=>
   intro i H es c hi hs J;have Y:q.2.ps[i]? =some (q.2.ps[i]'io):=aY io;have ac:az[i]? =some (az[i]'io):=aY io;generalize q.2.ps[i]'io=pr at Y;generalize az[i]'io=a at ac;have aA:=Ja Y ac;have aL:=(aj a (aD ac)).1;have aG:hl (((i9 q.2.ps az).take i).map i1) (ba pr.1)=none:=by
    rw[show((i9 q.2.ps az).take i).map i1=((i9 q.2.ps az).take i).map λq=>(ba q.1,(λn:Nat=>Value.i (n:Int)) q.2)from rfl,n6 λn:Nat=>Value.i (n:Int),MU]
    .rfl
    .rw [List.map_take,am];exact abi o3 (by rw[List.getElem?_map,Y];rfl)
   have aI:=GC (J.rd _ af) Y (A:=λ_=>True) (λ_ _ _ _ _ _=>trivial);refine tf.dF (aR (a5 io) ⟨io,by have:i<q.1.n:=aI.1;omega,(GC (J.rd _ af) Y λp hp c0 c1 c2 c3=>⟨ba pr.1,pr.2.k,pr.2.n,pr.2.x,by rw[bR];exact c0,by rw[bR];exact c1,by rw[bR];exact c2,by rw[bR];exact c3,J.ax λaK w2 C=>C.ae λL h=>?_⟩).2⟩);have ao:bF L sl az:=h.rd _ ha;have aN:=ao.len;refine⟨_,h.ld 0 7,io,io,ao.cell ac (by rw[bR]) λp' aM hc=>⟨a,hc,?_⟩⟩;obtain⟨M,ah,u1,u2,u3,u4,_⟩:=rH vf (h.ob 2) hs (ba pr.1) (.i a) aG;have F:=h.fx 2 (.ob y (.map ah (c+1))) rfl (u4.mono λZ _ z=>by simp[En.ob,z]) u2 (λb B=>.inl B);refine⟨M,u1,?_,?_⟩
   .intro b B;refine u4.cw b ((En.g b).lt L (h.own (.g b) (by simp only[cy]at B;subst B;simp)) b (by simp[En.g])) λz=>?_;simp only[cy]at B;subst B;exact j' h.nd (i:=3) (j:=2) rfl rfl dl b (by simp[En.g]) (by simp[En.ob,z])
   .rw [bm _ io];refine ih (i+1) M ah (c+1) io ?_ (F.take 3);rw[wg aA,ey];have e1:([(pr.1,a.toNat)]:List (List UInt8×Nat)).map i1=[(ba pr.1,.i a)]:=by show[(ba pr.1,Value.i (a.toNat:Int))]=_;rw[show(a.toNat:Int)=a by omega]
    rw[e1];exact u3
 refine tf.aq ((kq rfl ap hD).ax λK H H1=>H1.ae λw2 C=>⟨_,C.ld 0 1,_,C.ld 0 7,_,C.ld 0 8,C.ae λL h=>?_,C.ae λL h=>?_⟩)
 .refine lQ h λM F=>F.ic 0 1 rfl (λw5 N=>N.ic 0 7 rfl (λw6 G=>G.ic 0 8 rfl (λw7 Q=>?_)));show tf.cq _ _ _ _ _ _ (q.1.n:Int) _ _ _;rw[td (Q.rd _ af)];exact loop L.heap.size K q.2.ps.length 0 w7 #[] 0 io rfl Q
 .refine h.ic 0 1 rfl (λM F=>lQ F λw5 N=>N.ic 0 7 rfl (λw6 G=>G.ic 0 8 rfl (λw7 Q=>?_)));show tf.cq _ _ _ _ _ _ (q.1.n:Int) _ _ _;rw[td (Q.rd _ af)];exact loop M.heap.size K q.2.ps.length 0 w7 #[] 0 io rfl Q
end
def Az{α β:Type}(f:α->β):∀(l:List (List UInt8×α)) (t:List UInt8),lk (l.map λd=>(d.1,f d.2)) t=(lk l t).map f
 |[],_=>rfl
 |(e,v)::l,t=>by
  show(if e=t then some (f v)else lk (l.map λd=>(d.1,f d.2)) t)=(if e=t then some v else lk l t).map f;split
  .rfl
  .exact Az f l t
def aav{P:au}{T kt e:aE}{z:V}(d:nN P T kt e z)(k:ByteArray)(w:I):
  (Instr.lookup T (.map none) (.string k) true).run P w=.ok (.tuple #[z,.bool false]) w:=by have h:=xq (k:=k) (es:=[]) (ms:=[]) (i:=0) rfl;unfold Instr.lookup Instr.findKey;simp[h,Sem.run_bind,run_underlying d.hT,zP d.hk,run_underlying d.hk,Cq d.hz]
section
variable {E:bW} {Ms:List (List UInt8×(Sl×PM))} {tm:bW->aH->PR Nat} {X:RC}
def M9(h:E.ms=Ms.map λd=>(d.1,d.2.2))(t:List UInt8):(xO Ms E.kn t=false->h6 E t=none)/\(xO Ms E.kn t=true->∃d,lk Ms t=some d/\na Ms t=d/\h6 E t=some d.2/\d.2.ix<E.kn):=by
 unfold xO h6 na;rw[h,Az (λd:Sl×PM=>d.2)];cases e:lk Ms t with
 |none=>exact⟨λ_=>rfl,λe=>by cases e⟩
 |some d=>
  show(ak (d.2.ix<E.kn)=false->(if d.2.ix<E.kn then some d.2 else none)=none)/\(ak (d.2.ix<E.kn)=true->_);refine⟨λe=>ab (l4 e),λe=>⟨d,rfl,rfl,ag (e4 e),e4 e⟩⟩
abbrev kV(k:Nat)(v:V)(_:I):Prop:=v=.i (k:Int)
def acj{t:aI}(an:∀t h,lk Ms t=some h->h.2.ix<E.kn->∀ac,i6 (hx E h.2 ac) Ms (tm (hx E h.2 ac)) 0){w:I}{D:List En}{s:aH}{l:List Nd}(T:(bx X s).P w)(hD:g7 w X.rb D)(q:hU X E Ms D)(y:gJ X l s D)(hO:e5 E s.g)(aw:s.tm<=65536):
  ai U FH #[.pointer (some (aa X.rb)),mJ t] w (eK X l w (kZ tm E t s) kV):=by
 have look:∀{w':I} {L:List En} {ms:List (List UInt8×Nat)} {b:Nat} {es:Array MapEntry} {c:Nat},O (·∈[X.rb]) w w' L D->En.ob b (.map es c)∈D->dH es (ms.map i1)->pf U (Instr.lookup B7 (.map (some b)) (.string (ba t.text)) true) w'=.ok (.tuple #[.i (((lk ms t.text).getD 0:Nat):Int),.bool (lk ms t.text).isSome]) w':=λ{w' L ms b es c} z B C=>by have hl:=sR vf (z.rd _ B) C (ba t.text);rw[show ms.map i1=ms.map λh=>(ba h.1,(λn:Nat=>Value.i (n:Int)) h.2)from rfl,n6 λn:Nat=>Value.i (n:Int)]at hl;rw[hl];cases lk ms t.text<;>rfl
 have done:∀{n:Nat} {w':I} {L:List En},kZ tm E t s=.ok n s->O (·∈[X.rb]) w w' (bx X s::L) D->eK X l w (kZ tm E t s) kV (ad (.i (n:Int))) w':=λ{n w' L} j z=>
  pa j rfl (z.get 0) (a8.1 (z.rd _ y.d)) y.x ⟨y.v,y.n⟩ (λb T=>.inl T) z.fr
 refine Rf.aq ((kq rfl T hD).ax λb3 w1 H1=>H1.ae λw2 F=>⟨X.pm,F.ld 0 7,(((lk E.pm t.text).getD 0:Nat):Int),(lk E.pm t.text).isSome,?_,?_⟩)
 .have M:=q.pm;cases K:X.pm with
  |none=>
   rw[K]at M;rw[show E.pm=[]from M];exact aav vf _ _
  |some b=>
   rw[K]at M;obtain⟨es,c,B,C⟩:=M;exact look F B C
 have e:kZ tm E t s=match lk E.pm t.text with
  |some n=>.ok n s
  |none=>match lk E.vs t.text with
   |some n=>.ok n s
   |none=>match h6 E t.text with
    |some m=>if m.ps=[]then hY tm E m [] s else .er 6 t.a6
    |none=>.er 6 t.a6:=rfl
 cases ah:lk E.pm t.text with
 |some n=>
  rw[ah]at e;exact aR rfl (done e F)
 |none=>
  rw[ah]at e;obtain⟨es,c,B,C⟩:=q.mv;refine aQ rfl (F.ae λw3 k=>⟨some X.mv,k.ld 0 5,_,_,look k B C,?_⟩);cases am:lk E.vs t.text with
  |some n=>
   rw[am]at e;exact aR rfl (done e k)
  |none=>
   rw[am]at e;have af:=M9 q.ms t.text;refine aQ rfl (k.av (RT (k.get 0) (cV k (i:=0) rfl rfl) q t.text) ?_);rintro _ w4 rfl H4;refine⟨_,_,_,_,rfl,H4.ax λb9 w5 G=>eU (λY=>?_) (λY=>?_)⟩
   .have e:=e.trans (by rw[af.1 Y]);exact G.ae λN A=>gw A (jX _ 6 t N) λw' f=>fL e f
   .obtain ⟨h,Z,q2,q3,q4⟩:=af.2 Y;rw[q3]at e;rw[q2];have ar:En.a3 4 h.1 (fe h.2.ps)∈D:=q.pr _ (kg Z);have aj:h.1.n=h.2.ps.length:=td (G.rd _ ar);refine aT (λay=>?_) (λhz=>?_)
    .have ap:h.2.ps≠[]:=λj=>by rw[j]at aj;simp at aj;omega
     exact G.ae λN A=>gw A (jX _ 6 t N) λw' f=>fL (e.trans (ab ap)) f
    .have J:h.2.ps=[]:=GM io;refine G.ae λN A=>?_;have Q:=A.ef (.rd ⟨none,0,0⟩ (([]:List Int).map bC)) (Fr.refl _ _) (Rd.nil _) (λb W=>by cases W);have up:∀j∈D,j∈D++[En.rd ⟨none,0,0⟩ (([]:List Int).map bC)]:=λj J=>cm _ J;have e:=e.trans (ag J);have ao:hU X E Ms (D++[En.rd ⟨none,0,0⟩ (([]:List Int).map bC)]):=q.sub X.g up;have hc:=RR (X:=X) (tm:=tm) (az:=[]) Z (an _ h Z q4 []) (Q.get 0) (cV Q (i:=0) rfl rfl) ao (y.sub up) hO aw (da _ (cy.2 rfl)) (by rw[J];rfl) (λaG K=>by cases K);generalize aA:hY tm E h.2 [] s=xx at hc e;refine ns (X:=X) (x:=xx) Q 0 rfl (up _ y.d) hc (λaC s' g' l' v w8 j hv H W S=>?_) (λj p w' er f=>fL (e.trans er) f);subst hv;exact⟨_,rfl,pa (e.trans j) rfl (S.get 0) (a8.1 (S.rd _ H.d)) H.x ⟨H.v,H.n⟩ W S.fr⟩
end
section
variable {E:bW} {Ms:List (List UInt8×(Sl×PM))} {tm:bW->aH->PR Nat} {X:RC} {p0:Nat}
def ZF{t:aI}{q:Sl×PM}{tx:List UInt8}(q1:lk Ms tx=some q){sl:Sl}{zs:List Int}(hB:i6 (hx E q.2 zs) Ms (tm (hx E q.2 zs)) 0){l0:List Nd}{w:I}{x:PR Nat}{H J:Nat}{g:Sl}{s:aH}{l:List Nd}{D:List En}(L:hU {X with g:=g} E Ms D)(B:gJ {X with g:=g} l s D)(hO:e5 E s.g)(ap:s.tm<=65536)(N:∀b∈(En.gr g l).fp,b∈(En.gr X.g l0).fp\/w.heap.size<=b)(hz:zs.length=q.2.ps.length)(ha:∀a∈zs,0<=a/\a<(s.g.length:Int)):∀(n i:Nat) (A:I),i+n=q.2.ps.length->
  O (·∈[X.rb]) w A [bx {X with g:=g} s,.g H,.g J,.row bz 1 sl (zs.map bC)] D->(x=if k' s.g (q.2.ps.drop i) (zs.drop i)then hY tm E q.2 zs s else .er 9 t.a6)->
  qm.l6 (aa X.rb) H t.kind (ba t.text) t.a6 J q.1 (q.2.b:Int) (q.2.ix:Int) sl q.1 (q.1.n:Int) (i:Int) A (eK X l0 w x kV):=by
 have S:En.a3 4 q.1 (fe q.2.ps)∈D:=L.pr _ (kg q1);obtain⟨_,_,_,o4⟩:=hO.ms (tx,q.2) (by rw[L.ms];exact dA.2 ⟨_,kg q1,rfl⟩);have o4:q.2.ps.length<=100000:=o4;intro n;induction n with
 |zero=>
  intro i A hi h e;have an:q.1.n=q.2.ps.length:=td (h.rd _ S);refine qm.qK (aQ (a2 io) ?_);have e:x=hY tm E q.2 zs s:=by rw[e,dy (show q.2.ps.length<=i by omega)];exact ag rfl
  have j:=h.freeze 3 (.rd sl (zs.map bC)) rfl (oT (h.get 3)) (λb N=>by
   have:b∈(if zs.map bC=[]then[]else aG sl):=N;split at this
   .cases this
   .exact this)
  have j:O (·∈[X.rb]) w A [bx {X with g:=g} s,.g H,.g J] (D++[.rd sl (zs.map bC)]):=j;have T:∀z∈D,z∈D++[En.rd sl (zs.map bC)]:=λz P=>cm _ P;have F:=RR (X:={X with g:=g}) (tm:=tm) (az:=zs) q1 hB (j.get 0) (cV j (i:=0) rfl rfl) (L.sub g T) (B.sub T) hO ap (da _ (cy.2 rfl)) hz ha;generalize ay:hY tm E q.2 zs s=xx at F e;refine ns (X:={X with g:=g}) (x:=xx) j 0 rfl (T _ B.d) F (λaA s' g' l' v w8 z hv C aj G=>?_) (λz p w' er f=>fL (e.trans er) f);subst hv;exact⟨_,rfl,pa (e.trans z) rfl (G.get 0) (a8.1 (G.rd _ C.d)) C.x ⟨C.v,C.n⟩ (λb K=>(aj b K).elim (N b) .inr) G.fr⟩
 |succ n ih=>
  intro i A hi h e;have an:q.1.n=q.2.ps.length:=td (h.rd _ S);have ah:q.2.ps[i]? =some (q.2.ps[i]'io):=aY io;have M:zs[i]? =some (zs[i]'io):=aY io;have Y:q.2.ps.drop i=(q.2.ps[i]'io)::q.2.ps.drop (i+1):=dw io;have Z:zs.drop i=(zs[i]'io)::zs.drop (i+1):=dw io;generalize q.2.ps[i]'io=pr at ah Y;generalize zs[i]'io=a at M Z;obtain⟨a0,a1⟩:=ha a (aD M);have ac:=B.x;have ar:l.length=s.g.length:=by rw[<-ac];simp[xs]
  have Q:l[a.toNat]? =some (l[a.toNat]'io):=aY io;generalize l[a.toNat]'io=nd at Q;have ao:s.g[a.toNat]? =some nd.x:=by rw[<-ac];exact og Q
  rw[Y,Z]at e;have e:x=if(ak ((s.g[a.toNat]?).map (·.st)=some pr.2)&&k' s.g (q.2.ps.drop (i+1)) (zs.drop (i+1)))=true then hY tm E q.2 zs s else .er 9 t.a6:=e;rw[ao]at e;refine qm.qK (aR (a5 io) ⟨io,io,(GC (h.rd _ S) ah λp hp c0 c1 c2 c3=>⟨ba pr.1,pr.2.k,pr.2.n,pr.2.x,by rw[bR];exact c0,by rw[bR];exact c1,by rw[bR];exact c2,by rw[bR];exact c3,h.ax λaq w2 j=>j.ae λW y=>?_⟩).2⟩);have af:bF W sl zs:=oT (y.get 3);have aw:=af.len;refine⟨g,by rw[add_add];exact y.ld 0 2,io,io,af.cell M (by rw[bR]) λp' av F=>⟨a,F,?_⟩⟩;refine eh (a8.1 (y.rd _ B.d)) (X:=a) (i:=a.toNat) io Q (λp hp c=>⟨nd.x.st.k,nd.x.st.n,nd.x.st.x,c.s0,c.s1,c.s2,?_⟩);refine vW (λam=>gw y (jX _ 9 t W) λw' f=>fL (e.trans (ab (by simp;intro K;exact absurd K am))) f) (λP=>?_);show qm.l6 _ _ _ _ _ _ _ _ _ _ _ _ (aB .i64 ((i:Int)+1)) _ _;rw[bm _ io];exact ih (i+1) W io (y.take 4) (by rw[e];simp[P])
def aeu{α:Type}{l:List α}{i:Nat}(d:i<l.length)(a:α):(l.set i a).take (i+1)=l.take i++[a]:=by rw[wg (c:=a) (by rw[List.getElem?_set_self d]),List.take_set_of_le (bw i)]
def ZE(hC:i6 E Ms (tm E) p0)(hI:lD E (tm E) p0){t:aI}{q:Sl×PM}{tx:List UInt8}(q1:lk Ms tx=some q)(hB:∀Y,i6 (hx E q.2 Y) Ms (tm (hx E q.2 Y)) 0){sl:Sl}{l0:List Nd}{w:I}{x:PR Nat}{Z b7:Nat}(hN:q.2.ps.length<=100000):∀(n i:Nat) (g:Sl) (G:I) (s:aH) (l:List Nd) (D:List En) (zs:List Int),i+n=q.2.ps.length->zs.length=q.2.ps.length->
  O (·∈[X.rb]) w G [bx {X with g:=g} s,.g Z,.g b7,.row bz 1 sl (zs.map bC)] D->hU {X with g:=g} E Ms D->gJ {X with g:=g} l s D->e5 E s.g->p0<=s.p->s.p<E.T.length->s.tm<=65536->(∀b∈(En.gr g l).fp,b∈(En.gr X.g l0).fp\/w.heap.size<=b)->(∀a∈zs.take i,0<=a/\a<(s.g.length:Int))->
  (x=(gy (tm E) n s).b λA s=>(bL E.T 1 s).b λ_ s=>if k' s.g q.2.ps (zs.take i++A)then hY tm E q.2 (zs.take i++A) s else .er 9 t.a6)->
  qm.cq (aa X.rb) Z t.kind (ba t.text) t.a6 b7 q.1 (q.2.b:Int) (q.2.ix:Int) sl (q.2.ps.length:Int) (i:Int) G (eK X l0 w x kV):=by
 intro n;induction n with
 |zero=>
  intro i g G s l D zs hi P y C j z M F K N J h;have ht:zs.take i=zs:=fV io;rw[ht]at J;have h:x=(bL E.T 1 s).b λ_ s=>if k' s.g q.2.ps zs then hY tm E q.2 zs s else .er 9 t.a6:=by rw[h,ht];show(bL E.T 1 s).b _=_;rw[cQ]
  refine qm.dF (aQ (a2 io) (eZ (X:={X with g:=g}) y 0 rfl (jo (y.get 0) (cV y (i:=0) rfl rfl) C.tk F) (λc Q w2 e H2=>⟨_,_,_,rfl,?_⟩) (λe p w' er f=>fL (h.trans (gv er)) f)));have m:=eE z.T F dl e;exact ZF q1 (hB zs) C ⟨j.d,by rw[m.g];exact j.x,by rw[m.g];exact j.v,by rw[m.g];exact j.n⟩ (by rw[m.g];exact z) (by rw[m.t];exact K) N P (by rw[m.g];exact J) q.2.ps.length 0 w2 io H2 (h.trans (fQ e))
 |succ n ih=>
  intro i g G s l D zs hi P y C j z M F K N J h;have h:x=(tm E s).b λk s=>(gy (tm E) n s).b λA s=>(bL E.T 1 s).b λ_ s=>if k' s.g q.2.ps (zs.take i++((k:Int)::A))then hY tm E q.2 (zs.take i++((k:Int)::A)) s else .er 9 t.a6:=by
   rw[h];show PR.b (PR.b (tm E s) _) _=_;cases tm E s with
   |er e p=>rfl
   |ok k S=>
    show PR.b (PR.b (gy (tm E) n S) _) _=PR.b (gy (tm E) n S) _;cases gy (tm E) n S<;>rfl
  refine qm.dF (aR (a5 io) (ns (X:={X with g:=g}) y 0 rfl j.d (hC {X with g:=g} G D s l (y.get 0) (cV y (i:=0) rfl rfl) C j z M F K) (λk Q L l' v w3 e hv ae ag W=>?_) (λe p w' er f=>fL (h.trans (gv er)) f)));obtain⟨H,g2,g3⟩:=hI s k Q M F K j.v z e;subst hv;have ab:bF w3 sl zs:=oT (W.get 3);have am:=ab.len;have aj:zs[i]? =some (zs[i]'io):=aY io;refine⟨_,rfl,io,io,ab.cell aj rfl λp' ah hc=>?_⟩;rw[bR,Nat.mul_one];refine W.tA 3 i rfl ah (by rw[vK];omega) (λw4 H4=>?_);rw[bm _ io];have ac:=aeu (l:=zs) (i:=i) io (k:Int);refine ih (i+1) L w4 Q l' (D++[.gr L l']) (zs.set i (k:Int)) io (by rw[List.length_set];exact P) ?_ (C.sub L λe he=>cm _ he) ae (z.up H.len) io H.l H.t.2 (λb B=>(ag b B).elim (N b) .inr) ?_ ?_
  .rw [List.map_set];exact H4
  .rw [ac];intro a af;have:=H.len;rcases aP.1 af with B|B
   .have:=J a B;omega
   .rw [cy.1 B];omega
  .rw [h,fQ e,ac];congr 1;funext A s;rw[cU];rfl
end
section
variable {E:bW} {Ms:List (List UInt8×(Sl×PM))} {tm:bW->aH->PR Nat} {X:RC} {p0:Nat}
def ace(hC:i6 E Ms (tm E) p0)(hI:lD E (tm E) p0){t wd:aI}(ab:∀t d,lk Ms t=some d->d.2.ix<E.kn->∀k,i6 (hx E d.2 k) Ms (tm (hx E d.2 k)) 0){w:I}{D:List En}{s:aH}{l:List Nd}(J:(bx X s).P w)(hD:g7 w X.rb D)(x:hU X E Ms D)(hG:gJ X l s D)(Q:e5 E s.g)(h0:p0<=s.p)(hp:s.p<E.T.length)(ag:s.tm<=65536):
  ai U FB #[.pointer (some (aa X.rb)),mJ t,mJ wd] w (eK X l w (pG tm E t wd s) kV):=by
 have y:pG tm E t wd s=match h6 E wd.text with
  |none=>.er 6 wd.a6
  |some m=>(gy (tm E) m.ps.length s).b λk s=>(bL E.T 1 s).b λ_ s=>if k' s.g m.ps k then hY tm E m k s else .er 9 t.a6:=rfl
 have S:=M9 x.ms wd.text;refine qm.aq ((kq rfl J hD).ax λB w1 Z=>Z.ax λq w2 H=>H.av (RT (H.get 0) (cV H (i:=0) rfl rfl) x wd.text) ?_);rintro _ w3 rfl H3;refine⟨_,_,_,_,rfl,H3.ax λC w4 M=>eU (λK=>?_) (λK=>?_)⟩
 .have y:=y.trans (by rw[S.1 K]);exact M.ae λe j=>gw j (jX _ 6 wd e) λw' f=>fL y f
 .obtain ⟨d,F,q2,q3,q4⟩:=S.2 K;rw[q3]at y;rw[q2];have af:En.a3 4 d.1 (fe d.2.ps)∈D:=x.pr _ (kg F);obtain⟨_,_,_,L⟩:=Q.ms (wd.text,d.2) (by rw[x.ms];exact dA.2 ⟨_,kg F,rfl⟩);have L:d.2.ps.length<=100000:=L;refine M.ae λe j=>?_;have ac:d.1.n=d.2.ps.length:=td (j.rd _ af);have z:=j.freeze 2 (.g q) rfl (j.get 2) (λb h=>h);have z:O (·∈[X.rb]) w e [bx X s,.g B,.g C] (D++[.g q]):=z;have Y:∀N∈D,N∈D++[En.g q]:=λN he=>cm _ he;obtain⟨G,r1,r2,W⟩:=M' sw e d.2.ps.length io;have A:=z.RB W r2 (by intro b h;simp[aG]at h;omega);rw[aaC (.int .i64 0) d.2.ps.length rfl]at A;have kp:kept [B,C] e G:=λb h=>by
   have hg:En.g b∈[bx X s,En.g B,En.g C]:=by simp only[aF,aZ,a7]at h ⊢;rcases h with rfl|rfl<;>simp
   exact W.cw b ((En.g b).lt e (z.own _ hg) b (by simp[En.g])) id
  refine⟨⟨some (aa e.heap.size),d.2.ps.length,d.2.ps.length⟩,G,by rw[ac];exact r1,kp,?_⟩;have A:O (·∈[X.rb]) w G [bx X s,.g B,.g C,.row bz 1 ⟨some (aa e.heap.size),d.2.ps.length,d.2.ps.length⟩ ((List.replicate d.2.ps.length (0:Int)).map bC)] (D++[.g q]):=by rw[List.map_replicate];exact A
  exact ZE hC hI F (ab _ d F q4) L d.2.ps.length 0 X.g G s l (D++[.g q]) (List.replicate d.2.ps.length 0) io (by rw[List.length_replicate]) A (x.sub X.g Y) (hG.sub Y) Q h0 hp ag (λb J=>.inl J) (λa ha=>by cases ha) y
end
def VQ{M:Nat->Prop}{w0 w w':I}{L D:List En}(H:O M w0 w L D)(i:Nat){e k:En}(z:List En)(hi:L[i]? =some e)(f:Fr (·∈e.fp) w w')(G:k.P w')(C:k.fp=e.fp)(hd:∀y∈z,y.P w'/\∀b∈y.fp,w.heap.size<=b\/∃g∈D,b∈g.fp):O M w0 w' (L.set i k) (D++z):=by
 have h:=H.fx i k hi f G (λb J=>.inl (C▸J));refine⟨h.fr,h.own,λg d=>?_,h.new,h.nd,λg d b B q x j=>?_⟩
 .rcases aP.1 d with d|d
  .exact h.rd g d
  .exact (hd g d).1
 .rcases aP.1 d with d|d
  .exact h.dj g d b B q x j
  .rcases (hd g d).2 b B with A|⟨E,K,A⟩
   .have:b<w.heap.size:=by
     rcases List.mem_or_eq_of_mem_set x with F|rfl
     .exact q.lt w (H.own q F) b j
     .rw [C]at j;exact e.lt w (H.own e (aD hi)) b j
    omega
   .exact h.dj E K b A q x j
section
variable {E:bW} {Ms:List (List UInt8×(Sl×PM))} {tm:bW->aH->PR Nat} {X:RC} {p0:Nat}
def aaX{M:Nat->Prop}{w0 w:I}{L D:List En}{bs:List Nat}{l:List Nd}(H:O M w0 w L D)(i:Nat){s:aH}{x:PR Nx}{P:au}{f:b3}{args:Array V}{R K:aC}(hi:L[i]? =some (bx X s))(N:En.gr X.g l∈D)(E:ai P f args w (eK X l w x (sZ w)))(S:∀y h k (d:Nd) j,x=.ok d.x y->gJ {X with g:=h} k y (D++[.gr h k,bZ d])->(∀b∈(En.gr h k).fp,b∈(En.gr X.g l).fp\/w0.heap.size<=b)->O M w0 j (L.set i (bx {X with g:=h} y)) (D++[.gr h k,bZ d])->K (ad d.v) j)(J:∀q p j,x=.er q p->Fr M w0 j->R (.panicked (je q p)) j)(C:∀b∈bs,En.g b∈L.eraseIdx i:=by simp):mX bs P f args R w K:=by
 refine E.mono λr j e=>?_;unfold eK at e;split at e
 .rename_i a y;obtain⟨v,rfl,⟨d,rfl,rfl,G,F⟩,h,k,T,Q,W,B,z,f⟩:=e;refine .inr ⟨⟨_,rfl⟩,EZ H hi f C,S y h k d j rfl ⟨da _ gs,W,B.1,B.2⟩ (λb e=>(z b e).imp id λe=>bB H.fr.size e) (VQ H i [.gr h k,bZ d] hi f T rfl λq A=>?_)⟩;simp only[aF,aZ,a7]at A;rcases A with rfl|rfl
  .exact ⟨a8.2 Q,λb e=>(z b e).elim (λe=>.inr ⟨_,N,e⟩) .inl⟩
  .exact ⟨G,λb e=>.inl (F b e)⟩
 .rename_i q p;obtain⟨rfl,f⟩:=e;exact .inl ⟨_,rfl,J q p j rfl (EA H hi f)⟩
abbrev gL(E:bW):bW:={E with dp:=E.dp+1}
def acg{N:Nat}(hS:mT N)(hN:N+1<=1000000)(hf:∀t∈E.T,t.kind=5->∀ao,ie t.text=.inr ao->jK N (cI ao.tp))(aC:∀K s n G,iT E.T (tm (gL E)) K s=.ok n G->j7 n)(hC:i6 (gL E) Ms (tm (gL E)) p0)(hI:lD (gL E) (tm (gL E)) p0)(ay:∀t Y,lk Ms t=some Y->Y.2.ix<E.kn->∀az,i6 (hx (gL E) Y.2 az) Ms (tm (hx (gL E) Y.2 az)) 0){t:aI}{w:I}{D:List En}{s:aH}{l:List Nd}(ah:(bx X s).P w)(hD:g7 w X.rb D)(j:hU X E Ms D)(Q:gJ X l s D)(F:e5 E s.g)(h0:p0<=s.p)(hp:s.p<E.T.length)(aJ:s.tm<=65536):
  ai U FD #[.pointer (some (aa X.rb)),mJ t] w (eK X l w (me tm E t s) kV):=by
 have h:me tm E t s=if 64<=E.dp then .er 4 t.a6 else
  (bL E.T 2 s).b λw s=>if iR w.text then(iT E.T (tm (gL E)) w.text s).b λn s=>(bL E.T 1 s).b λ_ s=>eu s n t
   else pG tm (gL E) t w s:=rfl
 have aL:=j.dp;refine GG.aq ((kq rfl ah hD).ax λb3 w1 L=>⟨_,L.ld 0 9,aT (λaw=>gw L (jX _ 4 t w1) λw' f=>fL (h.trans (ag io)) f) (λaw=>⟨_,L.ld 0 9,L.ic 0 9 rfl (λw2 z=>?_)⟩)⟩);rw[ab io]at h;rw[bm _ io]at z;have z:O (·∈[X.rb]) w w2 [bx {X with dp:=X.dp+1} s,.g b3] D:=z;have H:hU {X with dp:=X.dp+1} (gL E) Ms D:=⟨⟨j.tk.t,j.tk.e⟩,j.mo,j.mv,j.mm,j.ms,j.pr,j.pm,j.kn,by show X.dp+1=E.dp+1;omega,j.kc⟩;have aA:e5 (gL E) s.g:=⟨F.T,F.vs,F.pm,F.ms⟩;have fin:∀{k:Nat} {G:aH} {M:Sl} {l':List Nd} {D':List En} {L':List En} {w':I},me tm E t s=.ok k G->O (·∈[X.rb]) w w' (bx {X with dp:=X.dp+1,g:=M} G::L') D'->gJ {X with g:=M} l' G D'->(∀b∈(En.gr M l').fp,b∈(En.gr X.g l).fp\/w.heap.size<=b)->
   GG.bg (aa X.rb) (k:Int) w' (eK X l w (me tm E t s) kV):=λ{k G M l' D' L' w'} q an S hb=>by
  have e9:aB .i64 (((X.dp+1:Nat):Int) - 1)=(X.dp:Int):=by rw[bo _ io];omega
  refine⟨((X.dp+1:Nat):Int),an.ld 0 9,an.st 0 9 (v:=.i (aB .i64 (((X.dp+1:Nat):Int) - 1))) rfl λw3 A=>?_⟩;rw[e9]at A;exact pa q rfl (A.get 0) (a8.1 (A.rd _ S.d)) S.x ⟨S.v,S.n⟩ hb A.fr
 refine eZ (X:={X with dp:=X.dp+1}) z 0 rfl (jo (z.get 0) (cV z (i:=0) rfl rfl) H.tk hp) (λK Z w3 e1 A=>⟨_,_,_,rfl,A.ax λb6 w4 H4=>H4.ae λw5 H5=>?_⟩) (λq p w' er f=>fL (h.trans (gv er)) f);have m:=eE F.T hp dl e1;have h:=h.trans (fQ e1);have J:gJ {X with dp:=X.dp+1} l Z D:=⟨Q.d,by rw[m.g];exact Q.x,by rw[m.g];exact Q.v,by rw[m.g];exact Q.n⟩;have aj:e5 (gL E) Z.g:=by rw[m.g];exact aA
 have p1:p0<=Z.p:=by have:=m.p;omega
 have t1:Z.tm<=65536:=by rw[m.t];exact aJ
 refine H5.av (RS (H5.get 0) (cV H5 (i:=0) rfl rfl) H K.text) ?_;rintro _ w6 rfl B;refine⟨_,rfl,bn (λho=>?_) (λho=>?_)⟩
 .have h:=h.trans (ag ho);refine aaX (X:={X with dp:=X.dp+1}) B 0 rfl J.d (ack (E:=gL E) hS hN hf hC hI K.text (B.get 0) (cV B (i:=0) rfl rfl) H J aj p1 m.l t1) (λs2 C l2 ap w7 e2 W aG H7=>⟨_,_,_,_,_,_,_,_,_,rfl,H7.ax λb7 w8 H8=>H8.ae λw9 H9=>?_⟩) (λq p w' er f=>fL (h.trans (gv er)) f);have h:=h.trans (fQ e2);have g1:=Qr hI p1 m.l t1 J.v aj e2;have up:∀q∈D,q∈D++[En.gr C l2,bZ ap]:=λq he=>cm _ he;refine eZ (X:={X with dp:=X.dp+1,g:=C}) H9 0 rfl (jo (H9.get 0) (cV H9 (i:=0) rfl rfl) (H.sub C up).tk g1.l) (λc s3 aM e3 ac=>⟨_,_,_,rfl,?_⟩) (λq p w' er f=>fL (h.trans (gv er)) f);have m3:=eE F.T g1.l dl e3;have h:=h.trans (fQ e3);have ar:gJ {X with dp:=X.dp+1,g:=C} l2 s3 (D++[.gr C l2,bZ ap]):=⟨W.d,by rw[m3.g];exact W.x,by rw[m3.g];exact W.v,by rw[m3.g];exact W.n⟩;refine ns (X:={X with dp:=X.dp+1,g:=C}) ac 0 rfl ar.d (Bo (t:=t) (ac.get 0) (cV ac (i:=0) rfl rfl) ar (up _ j.kc) (da _ gs) (aC _ _ _ _ e2)) (λk s4 g4 l4 v aK e4 hv y am af=>?_) (λq p w' er f=>fL (h.trans er) f);subst hv;exact⟨_,rfl,fin (h.trans e4) af ⟨y.d,y.x,y.v,y.n⟩ (λb ah=>(am b ah).elim (aG b) .inr)⟩
 .have h:=h.trans (ab (by rw[ho];simp));refine ns (X:={X with dp:=X.dp+1}) B 0 rfl J.d (ace (E:=gL E) (t:=t) (wd:=K) hC hI ay (B.get 0) (cV B (i:=0) rfl rfl) H J aj p1 m.l t1) (λk s4 g4 l4 v aK e4 hv y am af=>?_) (λq p w' er f=>fL (h.trans er) f);subst hv;exact⟨_,rfl,fin (h.trans e4) af ⟨y.d,y.x,y.v,y.n⟩ am⟩
end
section
variable {E:bW} {Ms:List (List UInt8×(Sl×PM))} {tm:bW->aH->PR Nat} {X:RC}
def acr{N:Nat}(hS:mT N)(hN:N+1<=1000000)(hf:∀t∈E.T,t.kind=5->∀ah,ie t.text=.inr ah->jK N (cI ah.tp))(av:∀wd s n s',iT E.T (tm (gL E)) wd s=.ok n s'->j7 n){w:I}{D:List En}{s:aH}{l:List Nd}(hC:i6 (gL E) Ms (tm (gL E)) (s.p+1))(hI:lD (gL E) (tm (gL E)) (s.p+1))(ap:∀t A,lk Ms t=some A->A.2.ix<E.kn->∀K,i6 (hx E A.2 K) Ms (tm (hx E A.2 K)) 0)(ar:∀t A,lk Ms t=some A->A.2.ix<E.kn->∀K,i6 (hx (gL E) A.2 K) Ms (tm (hx (gL E) A.2 K)) 0)(z:(bx X s).P w)(hD:g7 w X.rb D)(L:hU X E Ms D)(C:gJ X l s D)(M:e5 E s.g)(hp:s.p<E.T.length)(aC:s.tm<=65536):
  ai U sV #[.pointer (some (aa X.rb))] w (eK X l w (iE tm E s) kV):=by
 obtain⟨ht,_⟩:=o9 hp;have hk:=M.T.k _ ht;have am:=M.T.n _ ht;have q:iE tm E s=if(aL E.T s.p).kind=1\/(aL E.T s.p).kind=4\/(aL E.T s.p).kind=6 then kA (aL E.T s.p)else
  if 65536<=s.tm then .er 4 (aL E.T s.p).a6 else
  if(aL E.T s.p).kind=2 then kZ tm E (aL E.T s.p) {cH (aL E.T s.p) s with tm:=s.tm+1}else
  if(aL E.T s.p).kind=3 then eu {cH (aL E.T s.p) s with tm:=s.tm+1} (hE (aL E.T s.p).text) (aL E.T s.p)else
  if(aL E.T s.p).kind=5 then eu {cH (aL E.T s.p) s with tm:=s.tm+1} ⟨2,[],0,0,0,ba (aL E.T s.p).text,aX⟩ (aL E.T s.p)else
  me tm E (aL E.T s.p) {cH (aL E.T s.p) s with tm:=s.tm+1}:=rfl
 have an:=yp z hD L.tk hp;have aj:(aL E.T s.p).kind≠6->cH (aL E.T s.p) s={s with p:=s.p+1}/\s.p+1<E.T.length:=λW=>⟨ab W,M.T.nx hp W⟩;generalize aL E.T s.p=t at ht hk am q an aj;refine Bi.aq (AL (kq rfl z hD) 0 rfl rfl rfl an λw1 H1=>⟨_,_,_,rfl,H1.ax λB w2 F=>?_⟩);have F:O (·∈[X.rb]) w w2 [bx X (cH t s),.g B] D:=F;have bad:(t.kind=1\/t.kind=4\/t.kind=6)->∀e,O (·∈[X.rb]) w e [bx X (cH t s),.g B] D->Bi.bH (aa X.rb) B t.kind (ba t.text) t.a6 e (eK X l w (iE tm E s) kV):=λH e h=>
  gw h (rp _ t e) λw' f=>fL (q.trans (ag H)) f
 have Q:¬(t.kind=1\/t.kind=4\/t.kind=6)->∀e,O (·∈[X.rb]) w e [bx X (cH t s),.g B] D->Bi.aV (aa X.rb) B t.kind (ba t.text) t.a6 e (eK X l w (iE tm E s) kV):=λH e h=>by
  obtain⟨ha,ay⟩:=aj io;rw[ab H]at q;rw[ha]at h q;refine⟨(s.tm:Int),h.ld 0 10,aT (λW=>gw h (jX _ 4 t e) λw' f=>fL (q.trans (ag io)) f) (λW=>⟨(s.tm:Int),h.ld 0 10,h.ic 0 10 rfl (λw4 j=>?_)⟩)⟩;rw[ab io]at q;rw[bm _ io]at j;have j:O (·∈[X.rb]) w w4 [bx X {s with p:=s.p+1,tm:=s.tm+1},.g B] D:=j;have Z:gJ X l {s with p:=s.p+1,tm:=s.tm+1} D:=⟨C.d,C.x,C.v,C.n⟩;have fin:∀{x:PR Nat} {D':List En} {w':I} {f:b3} {args:Array V},iE tm E s=x->O (·∈[X.rb]) w w' [bx X {s with p:=s.p+1,tm:=s.tm+1},.g B] D'->En.gr X.g l∈D'->ai U f args w' (eK X l w' x kV)->mX [B] U f args (eK X l w (iE tm E s) kV) w' λr aA=>∃af:Int,r=ad (.i af)/\eK X l w (iE tm E s) kV (ad (.i af)) aA:=λ{x D' w' f args} ac ao hg hc=>
   ns ao 0 rfl hg hc (λaf s' g' l' v w5 ek hv Y H G=>by subst hv;exact⟨_,rfl,pa (ac.trans ek) rfl (G.get 0) (a8.1 (G.rd _ Y.d)) Y.x ⟨Y.v,Y.n⟩ H G.fr⟩) (λe' p w' er f=>fL (ac.trans er) f)
  refine aw (λy=>?_) (λy=>aw (λJ=>?_) (λJ=>aw (λS=>?_) (λS=>?_)))
  .exact fin (q.trans (ag y)) j C.d (acj (t:=t) ap (j.get 0) (cV j (i:=0) rfl rfl) L Z M (by show s.tm+1<=65536;omega))
  .rw [ab y]at q;exact fin (q.trans (ag J)) j C.d (acm (t:=t) (j.get 0) (cV j (i:=0) rfl rfl) Z L.kc (am J))
  .rw [ab y,ab J]at q;have G:=j.ef (bZ ⟨⟨2,[],0,0,0,ba t.text,aX⟩,⟨none,0,0⟩⟩) (Fr.refl _ _) (Rd.nil _) (λb H=>by cases H);exact fin (q.trans (ag S)) G (cm _ C.d) (Bo (t:=t) (d:=⟨⟨2,[],0,0,0,ba t.text,aX⟩,⟨none,0,0⟩⟩) (G.get 0) (cV G (i:=0) rfl rfl) (Z.sub λac he=>cm _ he) (cm _ L.kc) (da _ (cy.2 rfl)) ⟨gs,(⟨io,io⟩:cF 0),(⟨io,io⟩:cF 0),Int.le_refl _,λz=>by cases z⟩)
  .rw [ab y,ab J,ab S]at q;exact fin q j C.d (acg hS hN hf av hC hI ar (t:=t) (j.get 0) (cV j (i:=0) rfl rfl) L Z M (bw _) ay (by show s.tm+1<=65536;omega))
 refine aw (λy=>aw (λ_=>F.ae λe h=>Q io e h) (λz=>absurd y z)) (λy=>?_);refine aw (λy=>aw (λ_=>F.ae λe h=>Q io e h) (λz=>absurd y z)) (λJ=>?_);refine aw (λy=>aw (λ_=>F.ae λe h=>Q io e h) (λz=>absurd y z)) (λS=>?_);exact aw (λh0=>F.ae λe h=>Q io e h) (λh0=>F.ae λe h=>bad io e h)
end
def GV{N:Nat}(z:mT N)(y:N+1<=1000000){T:List aI}{w:List (List UInt8×(Sl×PM))}(B:∀t∈T,t.kind=5->∀C,ie t.text=.inr C->jK N (cI C.tp))(A:∀(tm:aH->PR Nat) (wd:List UInt8) (s:aH) (n:Nx) (h:aH),iT T tm wd s=.ok n h->j7 n):∀(f:Nat) (E:bW) (p0:Nat),E.T=T->min E.kn E.ms.length *(E.T.length+1)+(E.T.length - p0)+1<=f->i6 E w (dE f E) p0
 |0,E,p0,_,x=>io
 |f+1,E,p0,j,x=>λX Z W s l Q M F O G Y P S=>by
  have H:∀(E':bW) (t:List UInt8) (q:Sl×PM),E'.T=E.T->E'.ms=E.ms->lk w t=some q->q.2.ix<E.kn->∀d,i6 (hx E' q.2 d) w (dE f (hx E' q.2 d)) 0:=λE' t q D K e k d=>by refine GV z y B A f (hx E' q.2 d) 0 (D.trans j) ?_;have J:=(G.ms (t,q.2) (by rw[F.ms];exact dA.2 ⟨_,kg e,rfl⟩)).1;have J:q.2.ix<E.ms.length:=J;show min q.2.ix E'.ms.length *(E'.T.length+1)+(E'.T.length - 0)+1<=f;rw[D,K,show min q.2.ix E.ms.length=q.2.ix by omega];have L:(q.2.ix+1) *(E.T.length+1)<=min E.kn E.ms.length *(E.T.length+1):=lx _ io;rw[Nat.succ_mul]at L;omega
  exact acr z y (by rw[j];exact B) (by rw[j];exact λwd s n h x=>A _ wd s n h x) (GV z y B A f (gL E) (s.p+1) j (by show min E.kn E.ms.length *(E.T.length+1)+(E.T.length - (s.p+1))+1<=f;omega)) (λs n h _=>yR f (gL E) s n h (dc _))
   (λt q e k d=>H E t q rfl rfl e k d) (λt q e k d=>H (gL E) t q rfl rfl e k d) Q M F O G P S
def ae2{w:I}{ms:List (List UInt8×Nat)}{b:Nat}{es:Array MapEntry}{c:Nat}(h:w.heap[b]? =some (.map es c))(j:dH es (ms.map i1))(t:List UInt8):pf U (Instr.lookup B7 (.map (some b)) (.string (ba t)) true) w=.ok (.tuple #[.i (((lk ms t).getD 0:Nat):Int),.bool (lk ms t).isSome]) w:=by have d:=sR vf h j (ba t);rw[show ms.map i1=ms.map λe=>(ba e.1,(λn:Nat=>Value.i (n:Int)) e.2)from rfl,n6 λn:Nat=>Value.i (n:Int)]at d;rw[d];cases lk ms t<;>rfl
def Nr{w:I}{d:List (List UInt8×(Sl×PM))}{b:Nat}{es:Array MapEntry}{c:Nat}(j:w.heap[b]? =some (.map es c))(k:dH es (d.map q8))(t:List UInt8):pf U (Instr.lookup UI (.map (some b)) (.string (ba t)) true) w=.ok (.tuple #[.agg #[(na d t).1.v,.i (((na d t).2.b:Nat):Int),.i (((na d t).2.ix:Nat):Int)],.bool (lk d t).isSome]) w:=by have e:=sR AJ j k (ba t);rw[show d.map q8=d.map λh=>(ba h.1,oP h.2)from rfl,n6 oP]at e;rw[e];unfold na;cases lk d t<;>rfl
def yf(E:bW)(s:aH):PR aI:=(bL E.T 2 s).b λt s=>if(lk E.vs t.text).isSome||(lk E.ms t.text).isSome then .er 8 t.a6 else .ok t s
section
variable {E:bW} {Ms:List (List UInt8×(Sl×PM))} {X:RC}
def RU{w:I}{D:List En}{s:aH}(K:(bx X s).P w)(L:g7 w X.rb D)(h:hU X E Ms D)(O:s.p<E.T.length):
  ai U AQ #[.pointer (some (aa X.rb))] w (iJ X w (yf E s) mJ):=by
 obtain⟨es,c,M,Q⟩:=h.mv;obtain⟨af,c2,C,F⟩:=h.mm;refine Rh.aq ((kq rfl K L).ax λb2 Z q=>eZ q 0 rfl (jo (q.get 0) (cV q (i:=0) rfl rfl) h.tk O) (λt W w2 J G=>⟨_,_,_,rfl,G.ax λb3 w3 H=>H.ae λw4 x=>?_⟩) (λac p Z er f=>kY (gv er) f));have j:yf E s=if(lk E.vs t.text).isSome||(lk E.ms t.text).isSome then .er 8 t.a6 else .ok t W:=fQ J
 have N:(lk E.ms t.text).isSome=(lk Ms t.text).isSome:=by rw[h.ms,Az (λS:Sl×PM=>S.2)];cases lk Ms t.text<;>rfl
 rw[N]at j;refine⟨_,x.ld 0 5,_,_,ae2 (x.rd _ M) Q t.text,x.ae λw5 y=>⟨_,y.ld 0 6,_,_,_,_,Nr (y.rd _ C) F t.text,y.ax λb6 w6 d=>⟨Nr (d.rd _ C) F t.text,d.ld 0 6,?_⟩⟩⟩;refine bn (λz=>d.ae λk e=>gw e (jX _ 8 t k) λY f=>kY (j.trans (ag (by rw[z];rfl))) f) (λz=>?_);refine bn (λA=>d.ae λk e=>gw e (jX _ 8 t k) λY f=>kY (j.trans (ag (by rw[A,Bool.or_true]))) f) (λA=>?_);exact d.ae λk e=>e.ae λw8 B=>xR (j.trans (ab (by rw[z,A];simp))) (B.get 0) B.fr
def UD(E:bW)(tm:aH->PR Nat)(s:aH):PR Nat:=(tm s).b λn d=>if(d.g[n]?).map (·.st)=some (aO 1)then .ok n d else .er 9 (aL E.T s.p).a6
def acs{tm:aH->PR Nat}{p0:Nat}(Z:i6 E Ms tm p0)(hI:lD E tm p0){w:I}{D:List En}{s:aH}{l:List Nd}(H:(bx X s).P w)(hD:g7 w X.rb D)(N:hU X E Ms D)(J:gJ X l s D)(O:e5 E s.g)(M:p0<=s.p)(A:s.p<E.T.length)(W:s.tm<=65536):
  ai U FP #[.pointer (some (aa X.rb))] w (eK X l w (UD E tm s) kV):=by
 have Q:=N.tk;have L:=(o9 A).2;have e:UD E tm s=(tm s).b λn q=>if(q.g[n]?).map (·.st)=some (aO 1)then .ok n q else .er 9 (aL E.T s.p).a6:=rfl;generalize aL E.T s.p=t at L e;refine Rj.aq ((kq rfl H hD).dr λw1 y=>⟨X.tk,y.ld 0 0,_,y.ld 0 1,B2 (y.rd _ Q.t) rfl L λp af c=>⟨t.kind,ba t.text,t.a6,c.c0,c.c1,c.c2,y.ax λb3 w2 z=>?_⟩⟩);have F:=HU (z.rd _ Q.t) (X:=(s.p:Int)) rfl L af;refine⟨F.c0,F.c1,F.c2,z.ld 0 1,z.ld 0 0,z.ae λw3 C=>?_⟩;refine ns (X:=X) C 0 rfl J.d (Z X w3 D s l (C.get 0) (cV C (i:=0) rfl rfl) N J O M A W) (λk q Y B v w4 G hv j hb h=>?_) (λG p w' er f=>fL (e.trans (gv er)) f);subst hv;have e:=e.trans (fQ G);obtain⟨g1,g2,g3⟩:=hI s k q M A W J.v O G;have S:=j.x;have aj:B.length=q.g.length:=by rw[<-S];simp[xs]
 have K:B[k]? =some (B[k]'io):=aY io;generalize B[k]'io=nd at K;have ah:q.g[k]? =some nd.x:=by rw[<-S];exact og K
 rw[ah]at e;refine⟨_,rfl,Y,by rw[add_add];exact h.ld 0 2,eh (a8.1 (h.rd _ j.d)) (X:=(k:Int)) rfl K (λp A c=>⟨nd.x.st.k,nd.x.st.n,nd.x.st.x,c.s0,c.s1,c.s2,?_⟩)⟩;refine vW (a:=nd.x.st) (b:=aO 1) (λac=>gw h (jX _ 9 t w4) λw' f=>fL (e.trans (ab λH=>ac (by simpa using H))) f) (λhe=>?_);exact pa (e.trans (ag (by rw[<-he];rfl))) rfl (h.get 0) (a8.1 (h.rd _ j.d)) j.x ⟨j.v,j.n⟩ hb h.fr
def acq{T:List aI}{w:I}{D:List En}{s:aH}(G:(bx X s).P w)(N:g7 w X.rb D)(H:pA X T D)(A:s.p<T.length):
  ai U FO #[.pointer (some (aa X.rb))] w (iJ X w (k8 T (T.length+1) 0 s) λ_=>.tuple #[]):=by
 have hl:=H.e.l;have loop:∀(f d:Nat) (s:aH) (E:I) (x:PR Unit),s.p<T.length->T.length - s.p<f->d<=s.p->O (·∈[X.rb]) w E [bx X s] D->x=k8 T f d s->vE.a1 (aa X.rb) (d:Int) E (iJ X w x λ_=>.tuple #[]):=by
  intro f;induction f with
  |zero=>intro d s E x A Y;omega
  |succ f ih=>
   intro d s E x A Y hd F h;have h:x=if(aL T s.p).kind=6 then kA (aL T s.p)else if(aL T s.p).kind=1/\d=0 then kA (aL T s.p)else
    if(if(aL T s.p).kind=0 then d+1 else if(aL T s.p).kind=1 then d - 1 else d)=0 then .ok () (cH (aL T s.p) s)else k8 T f (if(aL T s.p).kind=0 then d+1 else if(aL T s.p).kind=1 then d - 1 else d) (cH (aL T s.p) s):=h
   have L:=yp (F.get 0) (cV F (i:=0) rfl rfl) H A;have K:(aL T s.p).kind≠6->cH (aL T s.p) s={s with p:=s.p+1}/\s.p+1<T.length:=λq=>⟨ab q,H.e.nx A q⟩;generalize aL T s.p=t at h L K;refine vE.bS (AL F 0 rfl rfl rfl L λw2 M=>⟨_,_,_,rfl,M.ax λJ w3 y=>?_⟩);have y:O (·∈[X.rb]) w w3 [bx X (cH t s),.g J] D:=y;have go:∀(z:Nat) (k:I),t.kind≠6->O (·∈[X.rb]) w k [bx X (cH t s),.g J] D->z<=s.p+1->(x=if z=0 then .ok () (cH t s)else k8 T f z (cH t s))->vE.bg (aa X.rb) (z:Int) k (iJ X w x λ_=>.tuple #[]):=λz k q j S h=>by obtain⟨Q,Z⟩:=K q;rw[Q]at j h;exact aw (λG=>xR (val:=λ_=>.tuple #[]) (h.trans (ag io)) (j.get 0) j.fr) (λG=>ih z {s with p:=s.p+1} k x Z (by show T.length - (s.p+1)<f;omega) S (j.take 1) (h.trans (ab io)))
   refine aw (λB=>y.ae λk j=>?_) (λB=>aw (λC=>?_) (λC=>aw (λq=>y.ae λk j=>gw j (rp _ t k) λw' f=>kY (h.trans (ag q)) f) (λq=>y.ae λk j=>?_)))
   .rw [ab io,ab io,ag B]at h;rw[bm _ io];exact go (d+1) k io j io h
   .rw [ab io]at h;refine aw (λW=>y.ae λk j=>gw j (rp _ t k) λw' f=>kY (h.trans (ag ⟨C,io⟩)) f) (λW=>y.ae λk j=>?_);rw[ab io,ab B,ag C]at h;show vE.bg _ (aB .i64 ((d:Int) - 1)) _ _;rw[bo _ io,show(d:Int) - 1=((d - 1:Nat):Int)by omega];exact go (d - 1) k io j io h
   .rw [ab q,ab io,ab B,ab C]at h;exact go d k q j io h
 exact vE.aq (loop (T.length+1) 0 s w _ A io (dc _) (kq rfl G N) rfl)
end
def kJ{w:I}{b:Nat}{v:V}{T:aE}(d:(En.c b [v] T).P w):w.cell? (aa b)=some v:=by
 have:=cellAt (p:=aa b) (i:=0) (v:=v) d rfl gs
 rwa[jD]at this
def Nm:nN U aeM eH aeJ (.bool false):=by constructor<;>kernel_rfl
def Yh:fO U aeU mK (.agg #[.string (a' #[]),.int .i64 0,.int .i64 0,.int .i64 0]) 4 40:=⟨by kernel_rfl,by kernel_rfl,rfl,dl,dl⟩
def Yf:fO U B9 ky (.agg #[.int .i64 0,.string (a' #[]),.int .i64 0,.int .i64 0,.int .i64 0,.int .i64 0,.int .i64 0]) 7 64:=⟨by kernel_rfl,by kernel_rfl,rfl,dl,dl⟩
def Z8{P:au}{T kt e ty:aE}{z:V}(x:nN P T kt e z){w:I}{d:Nat}{es:Array MapEntry}{clock:Nat}{ms:List (ByteArray×V)}(k:w.heap[d]? =some (.map es clock))(q:dH es ms):(Builtin.len_ #[T] ty #[.map (some d)]).run P w=.ok (.i (ms.length:Int)) w:=by
 have j:(getObj d).run P w=.ok (.map es clock) w:=by simp[getObj,pf,k]
 have h:es.size=ms.length:=by have:=congrArg List.length q;simpa using this
 simp[Builtin.len_,Sem.run_bind,run_underlying x.hT,j,h,goInt]
def Ho(q:List UInt8×aM):ByteArray×V:=(ba q.1,.bool true)
def Td(ps:List (List UInt8×aM))(t:List UInt8):hl (ps.map Ho) (ba t)=(lk ps t).map λ_=>Value.bool true:=by rw[show ps.map Ho=ps.map λd=>(ba d.1,(λ_:aM=>Value.bool true) d.2)from rfl,n6 λ_:aM=>Value.bool true]
section
variable {X:RC} {T:List aI}
def zj(X:RC)(d:Nat)(ix:Int)(D:List En)(w:I)(x:PR (List (List UInt8×aM))):aC:=λr e=>match x with
 |.ok j k=>r=ad (.tuple #[])/\∃sl:Sl,O (·∈[X.rb,d]) w e [bx X k,.c d [sl.v,.i 0,.i ix] jv,.row mK 4 sl (fe j)] D
 |.er h p=>r=.panicked (je h p)/\Fr (·∈[X.rb,d]) w e
def yj{d:Nat}{ix:Int}{D:List En}{w w':I}{x:PR (List (List UInt8×aM))}{e:Int}{p:Nat}(h:x=.er e p)(f:Fr (·∈[X.rb,d]) w w'):zj X d ix D w x (.panicked (je e p)) w':=by subst h;exact⟨rfl,f⟩
def acn{w:I}{D:List En}{s:aH}{pb k:Nat}{ix:Int}(H:O (·∈[X.rb,k]) w w [bx X s,.c k [.slice none 0 0,.i 0,.i ix] jv] D)(C:En.c pb [.pointer (some (aa X.rb))] y2∈D)(q:pA X T D)(K:s.p<T.length):
  ai U FG #[.pointer (some (aa pb)),.pointer (some (aa k))] w (zj X k ix D w (kj T (T.length+1) [] s)):=by
 have hl:=q.e.l;have loop:∀(z f:Nat) (ps:List (List UInt8×aM)) (s:aH) (E:I) (sl:Sl) (es:Array MapEntry) (c:Nat) (x:PR (List (List UInt8×aM))),s.p<T.length->T.length - s.p<f->ps.length<=s.p->dH es (ps.map Ho)->
   O (·∈[X.rb,k]) w E [bx X s,.c k [sl.v,.i 0,.i ix] jv,.row mK 4 sl (fe ps),.ob z (.map es c)] D->x=kj T f ps s->
   Bf.a1 (aa pb) (aa k) (some z) E (zj X k ix D w x):=by
  intro z f;induction f with
  |zero=>intro ps s E sl es c x K hf;omega
  |succ f ih=>
   intro ps s E sl es c x K hf aQ ap H d;have d:x=if(aL T s.p).kind=1 then .ok ps (cH (aL T s.p) s)else if(aL T s.p).kind≠0 then kA (aL T s.p)else
    (bL T 2 (cH (aL T s.p) s)).b λp s=>if(lk ps p.text).isSome then .er 8 p.a6 else(iA T s).b λF s=>(bL T 1 s).b λ_ s=>kj T f (ps++[(p.text,F)]) s:=d
   have an:=yp (H.get 0) (cV H (i:=0) rfl rfl) q K;have aj:(aL T s.p).kind≠6->cH (aL T s.p) s={s with p:=s.p+1}/\s.p+1<T.length:=λh6=>⟨ab h6,q.e.nx K h6⟩;generalize aL T s.p=t at d an aj;refine Bf.bS ⟨_,kJ (H.rd _ C),AL H 0 rfl rfl rfl an λw2 H2=>⟨_,_,_,rfl,H2.ax λb3 w3 G=>?_⟩⟩;have G:O (·∈[X.rb,k]) w w3 [bx X (cH t s),.c k [sl.v,.i 0,.i ix] jv,.row mK 4 sl (fe ps),.ob z (.map es c),.g b3] D:=G;refine aw (λN=>G.ae λQ h=>?_) (λN=>ct (λZ=>G.ae λQ h=>⟨_,kJ (h.rd _ C),gw h (rp _ t Q) λP f=>yj (d.trans (by rw[ab N,ag Z];rfl)) f⟩) (λZ=>G.ae λQ h=>?_))
   .rw [ag N]at d;subst d;exact⟨rfl,sl,h.take 3⟩
   obtain⟨ha,ao⟩:=aj io;rw[ab N,ab (by simpa using Z),ha]at d;rw[ha]at h;have h:=h.take 4;have h:O (·∈[X.rb,k]) w Q [bx X {s with p:=s.p+1},.c k [sl.v,.i 0,.i ix] jv,.row mK 4 sl (fe ps),.ob z (.map es c)] D:=h;refine⟨_,kJ (h.rd _ C),eZ (bs:=[]) h 0 rfl (jo (h.get 0) (cV h (i:=0) rfl rfl) q ao) (λp s2 w5 e2 H5=>⟨_,_,_,rfl,H5.ax λb4 w6 H6=>H6.ae λw7 y=>?_⟩) (λA p P er f=>yj (d.trans (gv er)) f)⟩;have d:=d.trans (fQ e2);have ac:=eE q.e (by exact ao) dl e2;have am:=MY Nm (y.ob 3) ap (ba p.text);rw[Td]at am;refine⟨(lk ps p.text).isSome,by rw[am];cases lk ps p.text<;>rfl,bn (λL=>⟨_,kJ (y.rd _ C),gw y (jX _ 8 p w7) λP f=>yj (d.trans (ag L)) f⟩) (λL=>?_)⟩;rw[ab (by rw[L];simp)]at d;have aC:lk ps p.text=none:=by
    cases aA:lk ps p.text with
    |none=>rfl
    |some _=>rw[aA]at L;cases L
   obtain⟨w8,Y,u1,u2,u3,u4,_⟩:=rH Nm (y.ob 3) ap (ba p.text) (.bool true) (by rw[Td,aC];rfl);have W:=y.fx 3 (.ob z (.map Y (c+1))) rfl (u4.mono λx _ A=>by simp[En.ob,A]) u2 (λb B=>.inl B);have W:O (·∈[X.rb,k]) w w8 [bx X s2,.c k [sl.v,.i 0,.i ix] jv,.row mK 4 sl (fe ps),.ob z (.map Y (c+1)),.g b4] D:=W;refine⟨w8,u1,λb B=>u4.cw b ((En.g b).lt w7 (y.own (.g b) (by simp only[cy]at B;subst B;simp)) b (by simp[En.g])) λA=>?_,W.ae λw9 J=>?_⟩
   .simp only[cy]at B;subst B;exact j' y.nd (i:=4) (j:=3) rfl rfl dl b (by simp[En.g]) (by simp[En.ob,A])
   refine⟨sl,J.ld 1 0,_,kJ (J.rd _ C),eZ J 0 rfl (GU (J.get 0) (cV J (i:=0) rfl rfl) q ac.l) (λF s3 aJ e3 ah=>⟨_,_,_,rfl,ah.ld 1 0,ah.vu λaN _ S aG=>?_⟩) (λA p P er f=>yj (d.trans (gv er)) f)⟩;have d:=d.trans (fQ e3);have af:=(v5 q.e ac.l e3).1;have aR:sl.n=ps.length:=td (show aK aN mK 4 sl (fe ps)from S.get 2).a3;have q2:=ac.p;have q2:s.p+1<s2.p:=q2;refine⟨S.ld 1 0,S.eL 2 Yh (s:=sl) (src:=⟨some (aa aJ.heap.size),1,1⟩) (news:=yk (p.text,F)) rfl ⟨rfl,bw _,(uw (sz:=4) aG rfl).2.2⟩ (by simp[Value.oneCell']) (by show(sl.n+1) *40<=_;omega) (λaI aS av=>av.ic 1 0 rfl λaT M=>?_)⟩;refine⟨_,kJ (M.rd _ C),eZ M 0 rfl (jo (M.get 0) (cV M (i:=0) rfl rfl) q af.l) (λcl s4 aO e4 ay=>⟨_,_,_,rfl,?_⟩) (λA p P er f=>yj (d.trans (gv er)) f)⟩;have d:=d.trans (fQ e4);have ar:=eE q.e af.l dl e4;have q3:=af.p;have q4:=ar.p;refine ih (ps++[(p.text,F)]) s4 aO aI Y (c+1) x ar.l io (by rw[bG];simp;omega) ?_ ?_ d
   .rw [ey];exact u3
   .have az:=ay.take 4;have e5:fe (ps++[(p.text,F)])=fe ps++yk (p.text,F):=by unfold fe;rw[dK];simp
    rw[e5];exact az
 refine Bf.aq (lQ (H.h8 mK 4) λE H1=>?_);exact loop w.heap.size (T.length+1) [] s E ⟨none,0,0⟩ #[] 0 _ K io (dc _) rfl H1 rfl
end
section
variable {M:Nat->Prop} {w0 w w':I} {L1 CG R D D':List En}
def Av(H:O M w0 w (L1++R) D):O (·∈L1.flatMap (·.fp)) w w L1 D:=by
 refine O.o6 _ _ (λd e=>⟨H.own d (cm _ e),λb h=>ck.2 ⟨d,e,h⟩⟩) ?_ (λd e=>⟨H.rd d e,λb h j k=>H.dj d e b h j (cm _ k)⟩);have:=H.nd
 grind
def Aw(H:O M w0 w (L1++R) D)(j:O (·∈L1.flatMap (·.fp)) w w' CG (D++D'))(K:∀y∈D',∀b∈y.fp,w.heap.size<=b\/∃g∈D,b∈g.fp):O M w0 w' (CG++R) (D++D'):=by
 have z:=H.nd;rw[dK,ff]at z;have L:∀e∈R,∀b∈e.fp,b∉L1.flatMap (·.fp):=λe d b h q=>z.2.2 b q b (ck.2 ⟨e,d,h⟩) rfl;have T:∀e∈R,∀b∈e.fp,b<w.heap.size:=λe d b h=>e.lt w (H.own e (da _ d)) b h;have Q:Fr M w0 w':=H.fr.trans j.fr λA F q=>by obtain⟨e,d,h⟩:=ck.1 q;exact(H.new e (cm _ d) A h).resolve_left io
 refine⟨Q,λe d=>?_,j.rd,λe d b h=>?_,?_,λy x b h e d q=>?_⟩
 .rcases aP.1 d with d|d
  .exact j.own e d
  .exact e.st w w' (λb h E=>j.fr.cw b E (L e d b h)) (H.own e (da _ d))
 .rcases aP.1 d with d|d
  .rcases j.new e d b h with k|k
   .exact .inl (bB H.fr.size k)
   .obtain ⟨B,P,C⟩:=ck.1 k;exact H.new B (cm _ P) b C
  .exact H.new e (da _ d) b h
 .rw [dK,ff];refine⟨j.nd,z.2.1,λA F Z W e=>?_⟩;subst e;obtain⟨G,J,N⟩:=ck.1 F;obtain⟨B,Y,C⟩:=ck.1 W;rcases j.new G J A N with k|k
  .grind
  grind
 .rcases aP.1 d with d|d
  .exact j.dj y x b h e d q
  .have E:=T e d b q;rcases aP.1 x with x|x
   .exact H.dj y x b h e (da _ d) q
   .rcases K y x b h with k|⟨g,S,k⟩
    .omega
    .exact H.dj g S b k e (da _ d) q
def Bz{e:En}{rb:Nat}(H:O M w0 w (e::L1) D)(x:e.fp=[rb]):g7 w rb (L1++D):=λh d=>by
 rcases aP.1 d with d|d
 .refine ⟨H.own h (cP _ d),λk j q=>?_⟩;have:=H.nd
  grind
 .exact ⟨H.rd h d,λk j q=>H.dj h d k j e hJ (by grind)⟩
end
def pJ(c:fh):List V:=[.i c.k,.string (ba c.nm),.i c.st.k,.i c.st.n,.i c.st.x,.i c.nd,.i c.n]
def cZ(l:List fh):List V:=l.flatMap pJ
def zQ(l:List fh):(cZ l).length=l.length *7:=pV pJ 7 (λ_=>rfl) l
structure mS where
 X:RC
 Ms:List (List UInt8×(Sl×PM))
 l:List Nd
 e1:Array MapEntry
 c1:Nat
 e2:Array MapEntry
 c2:Nat
abbrev cD(d:mS)(x:bJ):List En:=[bx d.X x.s,.ob d.X.mv (.map d.e1 d.c1),.ob d.X.mm (.map d.e2 d.c2),.row ky 7 d.X.cs (cZ x.cs)]
structure hv(T:List aI)(Y:mS)(x:bJ)(D:List En):Prop where
 tk:pA Y.X T D
 mo:∃es c,En.ob Y.X.mo (.map es c)∈D/\dH es ta
 kc:db∈D
 gr:gJ Y.X Y.l x.s D
 pr:∀q∈Y.Ms,En.a3 4 q.2.1 (fe q.2.2.ps)∈D
 ms:x.ms=Y.Ms.map λq=>(q.1,q.2.2)
 sv:dH Y.e1 (x.vs.map i1)
 sm:dH Y.e2 (Y.Ms.map q8)
 pm:Y.X.pm=none
 kn:Y.X.kn=9223372036854775807
 dp:Y.X.dp=0
 ok:e5 (gN T x) x.s.g
 p:x.s.p<T.length
 tm:x.s.tm<=65536
 mc:x.ms.length<=x.s.p
 cc:x.cs.length<=x.s.p
section
variable {T:List aI} {Y:mS} {x:bJ} {D D':List En}
def hv.en(d:hv T Y x D)(j:∀q∈D,q∈D')(w:En.ob Y.X.mv (.map Y.e1 Y.c1)∈D')(y:En.ob Y.X.mm (.map Y.e2 Y.c2)∈D'):hU Y.X (gN T x) Y.Ms D':=by
 obtain⟨h,c,m,k⟩:=d.mo;refine⟨⟨j _ d.tk.t,d.tk.e⟩,⟨h,c,j _ m,k⟩,⟨_,_,w,d.sv⟩,⟨_,_,y,d.sm⟩,d.ms,λk z=>j _ (d.pr k z),?_,d.kn,d.dp,j _ d.kc⟩;show match Y.X.pm with
  |none=>([]:List (List UInt8×Nat))=[]
  |some b=>∃h c,En.ob b (.map h c)∈D'/\dH h ((([]:List (List UInt8×Nat))).map i1)
 rw[d.pm]
def hv.mv(e:hv T Y x D){h:aH}(m:Mv T x.s h):hv T Y {x with s:=h} D:=by
 have q:=m.p;have j:=e.mc;have k:=e.cc;exact⟨e.tk,e.mo,e.kc,⟨e.gr.d,e.gr.x.trans m.g.symm,m.g▸e.gr.v,by rw[m.g];exact e.gr.n⟩,e.pr,e.ms,e.sv,e.sm,e.pm,e.kn,e.dp,by
  have:=e.ok;exact⟨this.T,by rw[m.g];exact this.vs,by rw[m.g];exact this.pm,this.ms⟩,m.l,by show h.tm<=65536;rw[m.t];exact e.tm,by grind,by grind⟩
def hv.grow(d:hv T Y x D){q:aH}(m:j4 T x.s q){w:Sl}{y:List Nd}(B:gJ {Y.X with g:=w} y q D')(j:∀z∈D,z∈D'):hv T {Y with X:={Y.X with g:=w},l:=y} {x with s:=q} D':=by have H:=m.p;have F:=d.mc;have G:=d.cc;obtain⟨A,c,E,k⟩:=d.mo;have h:=d.ok.up m.len;exact⟨⟨j _ d.tk.t,d.tk.e⟩,⟨A,c,j _ E,k⟩,j _ d.kc,B,λk C=>j _ (d.pr k C),d.ms,d.sv,d.sm,d.pm,d.kn,d.dp,⟨h.T,h.vs,h.pm,h.ms⟩,m.l,m.t.2,by grind,by grind⟩
def k6{α:Type}{q:PR α}{y:bJ}{f:α->bJ->SR}{e:Int}{p:Nat}(d:q=.er e p):q.s y f=.er e p:=by subst d;rfl
def jY{α:Type}{q:PR α}{y:bJ}{f:α->bJ->SR}{a:α}{s:aH}(d:q=.ok a s):q.s y f=f a {y with s:=s}:=by subst d;rfl
def i3(T:List aI)(Y:mS)(x:bJ)(D:List En)(w:I)(q:SR):aC:=λr e=>match q with
 |.ok h=>r=ad (.tuple #[])/\∃d D',d.X.rb=Y.X.rb/\O (·∈(cD Y x).flatMap (·.fp)) w e (cD d h) (D++D')/\hv T d h (D++D')/\(∀j∈D',∀b∈j.fp,w.heap.size<=b\/∃g∈D,b∈g.fp)
 |.er k p=>r=.panicked (je k p)/\Fr (·∈(cD Y x).flatMap (·.fp)) w e
def vV{w w':I}{q:SR}{y:bJ}{Y':mS}{D':List En}(e:q=.ok y)(h:Y'.X.rb=Y.X.rb)(j:O (·∈(cD Y x).flatMap (·.fp)) w w' (cD Y' y) (D++D'))(k:hv T Y' y (D++D'))(z:∀d∈D',∀b∈d.fp,w.heap.size<=b\/∃g∈D,b∈g.fp):i3 T Y x D w q (ad (.tuple #[])) w':=by subst e;exact⟨rfl,Y',D',h,j,k,z⟩
def hL{w w':I}{q:SR}{e:Int}{p:Nat}(d:q=.er e p)(f:Fr (·∈(cD Y x).flatMap (·.fp)) w w'):i3 T Y x D w q (.panicked (je e p)) w':=by subst d;exact⟨rfl,f⟩
def Hm{M:Nat->Prop}{w0 w:I}{R:List En}{bs:List Nat}(H:O M w0 w (cD Y x++R) D){q:SR}{P:au}{f:b3}{args:Array V}{A K:aC}(Q:O (·∈(cD Y x).flatMap (·.fp)) w w (cD Y x) D->ai P f args w (i3 T Y x D w q))(aa:∀j e D' w',q=.ok j->e.X.rb=Y.X.rb->O M w0 w' (cD e j++R) (D++D')->hv T e j (D++D')->(∀y∈D',∀b∈y.fp,w0.heap.size<=b\/∃g∈D,b∈g.fp)->K (ad (.tuple #[])) w')(Z:∀k p w',q=.er k p->Fr M w0 w'->A (.panicked (je k p)) w')(E:∀b∈bs,En.g b∈R:=by simp):mX bs P f args A w K:=by
 have F:=H.nd;rw[dK,ff]at F;refine(Q (Av H)).mono λr w' d=>?_;unfold i3 at d;have kp:∀{w':I},Fr (·∈(cD Y x).flatMap (·.fp)) w w'->kept bs w w':=λf b h=>f.cw b ((En.g b).lt w (H.own (.g b) (da _ (E b h))) b (by simp[En.g])) λz=>F.2.2 b z b (ck.2 ⟨.g b,E b h,by simp[En.g]⟩) rfl;split at d
 .rename_i j;obtain⟨rfl,e,D',J,B,L,C⟩:=d;exact .inr ⟨⟨_,rfl⟩,kp B.fr,aa j e D' w' rfl J (Aw H B C) L λy S b h=>(C y S b h).imp (λd=>bB H.fr.size d) id⟩
 .rename_i k p;obtain⟨rfl,f⟩:=d;refine .inl ⟨_,rfl,Z k p w' rfl (H.fr.trans f λb h z=>?_)⟩;obtain⟨G,W,N⟩:=ck.1 z;exact(H.new G (cm _ W) b N).resolve_left io
def VK{s d:aH}{n:Nx}{t:aI}{k:Nat}(e:eu s n t=.ok k d):d.p=s.p:=by
 unfold eu at e
 grind
def yg{E:bW}{s e:aH}{t:aI}(h:yf E s=.ok t e):bL E.T 2 s=.ok t e/\lk E.vs t.text=none/\lk E.ms t.text=none:=by
 obtain⟨w,q,k,d⟩:=bK h;split at d
 .cases d
 .rename_i j;cases d;simp only[Bool.or_eq_true,not_or,iF,Option.isSome_eq_false_iff,Option.isNone_iff_eq_none]at j
  grind
def U0(vs:List (List UInt8×Nat))(t:List UInt8):hl (vs.map i1) (ba t)=(lk vs t).map λn:Nat=>Value.i (n:Int):=by rw[show vs.map i1=vs.map λd=>(ba d.1,(λn:Nat=>Value.i (n:Int)) d.2)from rfl,n6 λn:Nat=>Value.i (n:Int)]
def J9{M:Nat->Prop}{w0 w:I}{R:List En}{bs:List Nat}(H:O M w0 w (cD Y x++R) D)(h:hv T Y x D)(c:fh)(S:x.cs.length+1<=x.s.p)(Z:x.cs.length<=100000){K:I->Prop}(E:∀b∈bs,En.g b∈R)(L:∀B F,B.X.rb=Y.X.rb->O M w0 F (cD B {x with cs:=x.cs++[c]}++R) D->hv T B {x with cs:=x.cs++[c]} D->K F):
  ∃t:Sl,w.cell? ((aa Y.X.rb).add 3)=some t.v/\de w (.cells #[.i c.k,.string (ba c.nm),.i c.st.k,.i c.st.n,.i c.st.x,.i c.nd,.i c.n] ky) λq=>q.cell? ((aa Y.X.rb).add 3)=some t.v/\
   ∃(t2:Sl) (j:I),pf U (Builtin.append_ #[B9,B9] B9 #[t.v,.slice (some (nb w)) 1 1]) q=.ok t2.v j/\kept bs q j/\aN j ((aa Y.X.rb).add 3) t2.v λy=>kept bs j y/\K y:=by
 have J:∀b∈bs,En.g b∈cD Y x++R:=λb C=>da _ (E b C);refine⟨Y.X.cs,H.ld 0 3,H.vu λq _ z N=>?_⟩;have W:Y.X.cs.n=x.cs.length:=by have G:=(show aK q ky 7 Y.X.cs (cZ x.cs)from z.get 3).len;rw[zQ]at G;omega
 refine⟨z.ld 0 3,z.eL 3 Yf (s:=Y.X.cs) (src:=⟨some (aa w.heap.size),1,1⟩) (news:=pJ c) rfl ⟨rfl,bw _,(uw (sz:=7) N rfl).2.2⟩ (by simp[pJ,Value.oneCell']) (by grind) (λt2 j A=>?_) J⟩;have A:O M w0 j ([bx Y.X x.s,.ob Y.X.mv (.map Y.e1 Y.c1),.ob Y.X.mm (.map Y.e2 Y.c2),.row ky 7 t2 (cZ x.cs++pJ c)]++R) D:=A;refine A.ic 0 3 rfl (λy P=>?_) gs (λb C=>da _ (E b C));refine L {Y with X:={Y.X with cs:=t2}} y rfl ?_ ?_
 .have Q:cZ (x.cs++[c])=cZ x.cs++pJ c:=by
   unfold cZ
   grind
  grind
 .exact ⟨⟨h.tk.t,h.tk.e⟩,h.mo,h.kc,⟨h.gr.d,h.gr.x,h.gr.v,h.gr.n⟩,h.pr,h.ms,h.sv,h.sm,h.pm,h.kn,h.dp,⟨h.ok.T,h.ok.vs,h.ok.pm,h.ok.ms⟩,h.p,h.tm,h.mc,by grind⟩
end
def H5{M:Nat->Prop}{w0 w w':I}{L D:List En}{bs:List Nat}(H:O M w0 w L D)(i:Nat){b:Nat}{o:Obj}(hi:L[i]? =some (.ob b o))(f:Fr (λd=>d=b) w w')(j:∀d∈bs,En.g d∈L.eraseIdx i:=by simp):kept bs w w':=λd k=>by have h:=j d k;refine f.cw d ((En.g d).lt w (H.own (.g d) (ve h)) d (by simp[En.g])) λe=>?_;exact xo (f:=λe:En=>e.fp) hi H.nd b (by simp[En.ob]) (.g d) h (by simp[En.g,e])
def adT{M:Nat->Prop}{w0 w:I}{L D:List En}{bs:List Nat}(H:O M w0 w L D)(i:Nat){b:Nat}{vs:List V}{T:aE}{v:V}{K:I->Prop}(hi:L[i]? =some (.c b vs T))(h:∀d,O M w0 d (L.set i (.c b (vs.set 0 v) T)) D->K d)(k:0<vs.length:=by simp)(j:∀b∈bs,En.g b∈L:=by simp):
  aN w (aa b) v λe=>kept bs w e/\K e:=by
 have:=H.ic (v:=v) (K:=K) i 0 hi h k j
 rwa[jD]at this
def nZ{M:Nat->Prop}{w0 w:I}{L j D:List En}(H:O M w0 w L D)(h:L.Perm j):O M w0 w j D:=
 ⟨H.fr,λd e=>H.own d (h.mem_iff.2 e),H.rd,λd e=>H.new d (h.mem_iff.2 e),(List.Perm.nodup_iff (List.Perm.flatMap_right _ h)).1 H.nd,λk x b q d e=>H.dj k x b q d (h.mem_iff.2 e)⟩
section
variable {T:List aI} {Y:mS} {x:bJ} {D:List En}
def ach(h:hv T Y x D){w:I}(H:O (·∈(cD Y x).flatMap (·.fp)) w w (cD Y x) D)(ap:x.cs.length<=100000)(t:aI):ai U FE #[.pointer (some (aa Y.X.rb)),mJ t] w (i3 T Y x D w (pP T t x)):=by
 have L:=h.ok.T;have j:pP T t x=(yf (gN T x) x.s).s x λu x=>(iA T x.s).s x λq x=>(bL T 1 x.s).s x λ_ x=>(eu x.s ⟨0,[],0,0,0,ba u.text,q⟩ t).s x λn x=>
  .ok {x with vs:=x.vs++[(u.text,n)],cs:=x.cs++[⟨0,u.text,q,n,0⟩]}:=rfl
 refine Q9.aq (H.ax λb3 w1 P=>eZ P 0 rfl (RU (P.get 0) (Bz P rfl) (h.en (λy E=>da _ E) gs gs) h.p) (λu s1 w2 ag Q=>⟨_,_,_,rfl,?_⟩) (λy p w' er f=>hL (j.trans (k6 er)) f));have j:=j.trans (jY ag);obtain⟨n1,n2,n3⟩:=yg ag;have M:=eE L h.p dl n1;refine eZ Q 0 rfl (GU (Q.get 0) (cV Q (i:=0) rfl rfl) h.tk M.l) (λq s2 w3 J H3=>⟨_,_,_,rfl,H3.ax λb5 w4 H4=>H4.ae λw5 S=>eZ S 0 rfl (jo (S.get 0) (cV S (i:=0) rfl rfl) h.tk (v5 L M.l J).1.l) (λcl s3 w6 e3 H6=>⟨_,_,_,rfl,?_⟩) (λy p w' er f=>hL ((j.trans (jY J)).trans (k6 er)) f)⟩) (λy p w' er f=>hL (j.trans (k6 er)) f);have j:=(j.trans (jY J)).trans (jY e3);have m2:=(v5 L M.l J).1;have m3:=eE L m2.l dl e3;have hm:=M.tr (m2.tr m3);have B:=h.mv hm;have W:=H6.ef (bZ ⟨⟨0,[],0,0,0,ba u.text,q⟩,⟨none,0,0⟩⟩) (Fr.refl _ _) (Rd.nil _) (λb C=>by cases C);have up:∀y∈D,y∈D++[bZ ⟨⟨0,[],0,0,0,ba u.text,q⟩,⟨none,0,0⟩⟩]:=λy E=>cm _ E;refine ns (X:=Y.X) W 0 rfl (up _ h.gr.d) (Bo (t:=t) (d:=⟨⟨0,[],0,0,0,ba u.text,q⟩,⟨none,0,0⟩⟩) (W.get 0) (cV W (i:=0) rfl rfl) (B.gr.sub up) (up _ h.kc) (da _ (cy.2 rfl)) ⟨gs,(⟨io,io⟩:cF 0),(⟨io,io⟩:cF 0),Int.le_refl _,λab=>by cases ab⟩) (λk N z A v w8 Z ar hG C G=>?_) (λy p w' er f=>hL (j.trans (k6 er)) f);subst ar;have j:=j.trans (jY Z);obtain⟨q1,q2⟩:=wL B.gr.v B.p B.tm Z;have q3:N.p=s3.p:=VK Z;refine⟨_,rfl,_,G.ld 0 5,?_⟩;obtain⟨w9,K,u1,u2,u3,u4,_⟩:=rH vf (G.ob 1) h.sv (ba u.text) (.i (k:Int)) (by rw[U0];have n2:lk x.vs u.text=none:=n2;rw[n2];rfl);have H9:=G.fx 1 (.ob Y.X.mv (.map K (Y.c1+1))) rfl (u4.mono λx _ y=>by simp[En.ob,y]) u2 (λb C=>.inl C);refine⟨w9,u1,H5 G 1 rfl u4,H9.ae λav af=>?_⟩;have eD:D++[bZ ⟨⟨0,[],0,0,0,ba u.text,q⟩,⟨none,0,0⟩⟩]++[En.gr z A]=D++[bZ ⟨⟨0,[],0,0,0,ba u.text,q⟩,⟨none,0,0⟩⟩,En.gr z A]:=gs
 rw[eD]at af hG;have e:=B.grow q1 hG (λy E=>cm _ E);have ao:hv T {Y with X:={Y.X with g:=z},l:=A,e1:=K,c1:=Y.c1+1} {x with s:=N,vs:=x.vs++[(u.text,k)]} (D++[bZ ⟨⟨0,[],0,0,0,ba u.text,q⟩,⟨none,0,0⟩⟩,En.gr z A]):=by
  refine⟨e.tk,e.mo,e.kc,e.gr,e.pr,e.ms,?_,e.sm,e.pm,e.kn,e.dp,⟨e.ok.T,λah F=>?_,e.ok.pm,e.ok.ms⟩,e.p,e.tm,e.mc,e.cc⟩
  .show dH K ((x.vs++[(u.text,k)]).map i1);rw[ey];exact u3
  .rcases aP.1 (show ah∈x.vs++[(u.text,k)]from F)with F|F
   .exact e.ok.vs ah F
   .rw [cy.1 F];exact q2
 have aj:O (·∈(cD Y x).flatMap (·.fp)) w av (cD {Y with X:={Y.X with g:=z},l:=A,e1:=K,c1:=Y.c1+1} {x with s:=N,vs:=x.vs++[(u.text,k)]}++[.g b3,.g b5]) (D++[bZ ⟨⟨0,[],0,0,0,ba u.text,q⟩,⟨none,0,0⟩⟩,En.gr z A]):=af;refine J9 aj ao ⟨0,u.text,q,k,0⟩ ?_ ap gs λY' ay hy am an=>?_
 .have h1:=hm.p;have h2:=h.cc;show x.cs.length+1<=N.p;omega
 .refine vV j hy (am.take 4) an λaw hd b ac=>?_;rcases aF.1 hd with rfl|hd
  .cases ac
  .rw [cy.1 hd]at ac;exact(C b ac).elim (λab=>.inr ⟨_,h.gr.d,ab⟩) .inl
def GD(k:hX T):∀(f:Nat) (ps h:List (List UInt8×aM)) (s j:aH),s.p<T.length->(ps.map (·.1)).Nodup->ps.length<=s.p->kj T f ps s=.ok h j->Mv T s j/\(h.map (·.1)).Nodup/\h.length<=j.p
 |0,ps,h,s,j,_,_,_,d=>by cases d
 |f+1,ps,h,s,j,x,e,W,d=>by
  have d:(if(aL T s.p).kind=1 then PR.ok ps (cH (aL T s.p) s)else if(aL T s.p).kind≠0 then kA (aL T s.p)else
    (bL T 2 (cH (aL T s.p) s)).b λp s=>if(lk ps p.text).isSome then .er 8 p.a6 else(iA T s).b λw s=>(bL T 1 s).b λ_ s=>kj T f (ps++[(p.text,w)]) s)=.ok h j:=d
  split at d
  .rename_i J;cases d;have m:=rZ k x io;have:=m.p;exact⟨m,e,io⟩
  split at d
  .cases d
  .rename_i J H;have m:=rZ k x (by simp at H;omega);obtain⟨p,Y,E,d⟩:=bK d;have y:=eE k m.l dl E;split at d
   .cases d
   .rename_i N;obtain⟨w,Z,F,d⟩:=bK d;obtain⟨S,s3,G,d⟩:=bK d;have z:=(v5 k y.l F).1;have A:=eE k z.l dl G;have B:=m.tr (y.tr (z.tr A));have C:=B.p;obtain⟨a,b,c⟩:=GD k f (ps++[(p.text,w)]) h s3 j A.l (by
     rw[ey,ff];refine⟨e,gs,λaa O Q q=>?_⟩;have q:Q=p.text:=by simpa using q
     subst q;rintro rfl;have:lk ps p.text=none:=by simpa using N
     obtain⟨C,M,D⟩:=dA.1 O;have L:∀{l:List (List UInt8×aM)},C∈l->lk l p.text≠none:=λ{l}=>by
      induction l with
      |nil=>intro d;cases d
      |cons a l P=>
       intro d e;unfold lk at e;split at e
       .cases e
       .rename_i K;rcases aF.1 d with rfl|d
        .exact K D
        .exact P d e
     exact L M this) (by rw[bG];simp;omega) d
    exact⟨B.tr a,b,c⟩
def Hu(j:hX T):∀(f d:Nat) (s h:aH),s.p<T.length->k8 T f d s=.ok () h->Mv T s h
 |0,d,s,h,_,e=>by cases e
 |f+1,d,s,h,q,e=>by
  have e:(if(aL T s.p).kind=6 then kA (aL T s.p)else if(aL T s.p).kind=1/\d=0 then kA (aL T s.p)else
    if(if(aL T s.p).kind=0 then d+1 else if(aL T s.p).kind=1 then d - 1 else d)=0 then PR.ok () (cH (aL T s.p) s)else k8 T f (if(aL T s.p).kind=0 then d+1 else if(aL T s.p).kind=1 then d - 1 else d) (cH (aL T s.p) s))=.ok () h:=e
  split at e
  .cases e
  rename_i k;have m:=rZ j q k;split at e
  .cases e
  generalize(if(aL T s.p).kind=0 then d+1 else if(aL T s.p).kind=1 then d - 1 else d)=d' at e;split at e
  .cases e;exact m
  .exact m.tr (Hu j f _ _ h m.l e)
def aaL(d:List (List UInt8×(Sl×PM)))(t:List UInt8):hl (d.map q8) (ba t)=(lk d t).map oP:=by rw[show d.map q8=d.map λe=>(ba e.1,oP e.2)from rfl,n6 oP]
end
end Go.Proofs.YtkbmpalepmakmabGreatDoor
end
