import Derived.Test.YtkbmpalepmakmaaGreatDoorT1
import Derived.Test.YtkbmpalepmakmaaGreatDoorN6
import Derived.Laws.CopyRow
import Derived.Test.YtkbmpalepmakmaaGreatDoorW
import Derived.MapKept
import Derived.Test.YtkbmpalepmakmaaGreatDoorN0
set_option linter.unusedVariables false
set_option maxRecDepth 100000
set_option maxHeartbeats 2000000
set_option linter.defProp false
noncomputable section
namespace Go.Proofs.YtkbmpalepmakmaaGreatDoor
open Go renaming World->I,Calls->ah,Program->au,Value->V,TypeId->aD,FuncId->b5
open Go.IntKind renaming wrap->aE
open _root_.Int renaming toNat->aY,tdiv->fj,tmod->fA,toNat_natCast->cb
open _root_.ByteArray renaming mk->bh
open Go.IntWalk renaming i64_in->bH
open Go.Sem renaming run->pe
open _root_.Bool renaming and_eq_true->bf,not_eq_true->iu
open _root_.Nat renaming le_refl->bz,le_trans->bI,zero_le->dg,beq->bQ,mul_le_mul_right->ll
open Go.Proofs.Tryz renaming prog->U
open _root_.Decidable renaming decide->ak
open Go.Ending renaming returned->ab
open List renaming mem_append->aP,mem_cons->aF,not_mem_nil->aW,mem_of_getElem?->ay,getElem?_eq_getElem->a0,getElem?_eq_some_iff->cP,mem_append_left->cm,mem_append_right->db,mem_flatMap->b',mem_map->dn,length_append->bM,append_assoc->dS,mem_singleton->cK,flatMap_append->eg,nodup_append->fh,mem_cons_of_mem->dJ,mem_cons_self->nq,length_map->vC,drop_eq_getElem_cons->dG,all_eq_true->dF,append_nil->df,map_append->fv,drop_of_length_le->dH,take_of_length_le->fW,eq_nil_of_length_eq_zero->Hc
open Go Go.W
def afj{P:au}{n:Cx}{c:Code}{Q:Exit->Act->I->Prop}{E E':Env}{w:I}(e:∀t v,E'.get? t=some v->E.get? t=some v)(j:WP P n c Q E' w):WP P n c Q E w:=λa d=>j a ⟨d.defers,d.size,λt v h=>d.get t v (e t v h)⟩
def ad'{E:Env}{i j:Nat}{a b:V}(k:E.get? i=some a)(q:E.get? j=some b):∀t v,Env.get? [(i,a),(j,b)] t=some v->E.get? t=some v:=by
 intro t v d;unfold Env.get? at d;cases e:bQ i t with
 |true=>
  rw[e]at d;have:=Nat.eq_of_beq_eq_true e
  grind
 |false=>
  rw[e]at d;have d:Env.get? [(j,b)] t=some v:=d;unfold Env.get? at d;cases h:bQ j t with
  |true=>
   rw[h]at d;have:=Nat.eq_of_beq_eq_true h
   grind
  |false=>rw[h]at d;cases d
namespace w4
abbrev T9(s:Sl)(k:Int)(w:I)(R:aC):Prop:=
 (0:Int)<=(fA (aE .i64 (fj k 216)) 8)/\(fA (aE .i64 (fj k 216)) 8)<(s.n:Int)/\ea s.a λp=>jA w (p.add (aY (fA (aE .i64 (fj k 216)) 8) *4)) λa b c d=>zJ xI #[.agg #[.i a,.int .u8 b,.int .u8 c,d.v]] w λe f g i h=>J6 q7 #[.agg #[.i e,.int .u8 f,.int .u8 g,i.v],.i 0] h λt j=>R (ab (.string t)) j
def K9(R:aC)(E:Env)(w:I):Prop:=∃(s:Sl) (k:Int),E.get? 9=some s.v/\E.get? 3=some (.i k)/\T9 s k w R
noncomputable def C0:Code:=(Tryz.f33.body).getD .skip
noncomputable def C1:=C0.sn
noncomputable def C2:=C1.sn
noncomputable def C3:=C2.sn
noncomputable def C4:=C3.sn
noncomputable def C5:=C4.sn
noncomputable def C6:=C5.sn
noncomputable def C7:=C6.sn
noncomputable def C8:=C7.sn
noncomputable def C9:=C8.sn
def ok(h:Int)(w:I)(R:aC)(z:Xy xG #[.i h,.i 1048576] w λt11 w1=>zJ pZ #[] w1 λB C D F e=>dh e (.cells #[.i 2,.int .u8 97,.int .u8 97,.slice none 0 0,.i 2,.int .u8 98,.int .u8 98,.slice none 0 0,.i 2,.int .u8 0,.int .u8 0,.slice none 0 0,.i 2,.int .u8 97,.int .u8 98,.slice none 0 0,.i 1,.int .u8 0,.int .u8 0,.slice none 0 0,.i B,.int .u8 C,.int .u8 D,F.v] aI) λq=>
 (0:Int)<=(fA t11 6)/\(fA t11 6)<((6:Nat):Int)/\ea (some (nb e)) λG=>jA q (G.add (aY (fA t11 6) *4)) λH J K L=>dh q (.cells #[.i 0,.int .u8 0,.int .u8 0,.slice none 0 0] aI) λw4=>
 oe w4 (nb q) (.i H) (.int .u8 J) (.int .u8 K) (L.v) λy=>(0:Int)<=(fA (aE .i64 (fj t11 6)) 6)/\(fA (aE .i64 (fj t11 6)) 6)<((6:Nat):Int)/\ea (some (nb e)) λM=>jA y (M.add (aY (fA (aE .i64 (fj t11 6)) 6) *4)) λN O P Q=>dh y (.cells #[.i 0,.int .u8 0,.int .u8 0,.slice none 0 0] aI) λw9=>
 oe w9 (nb y) (.i N) (.int .u8 O) (.int .u8 P) (Q.v) λx=>(0:Int)<=(fA (aE .i64 (fj t11 36)) 6)/\(fA (aE .i64 (fj t11 36)) 6)<((6:Nat):Int)/\ea (some (nb e)) λS=>jA x (S.add (aY (fA (aE .i64 (fj t11 36)) 6) *4)) λT W Y Z=>dh x (.cells #[.i 0,.int .u8 0,.int .u8 0,.slice none 0 0] aI) λaf=>
 oe af (nb x) (.i T) (.int .u8 W) (.int .u8 Y) (Z.v) λj=>jA j (nb q) λaa ac ad ae=>dh j (.cells #[.i aa,.int .u8 ac,.int .u8 ad,ae.v] aI) λA=>
 dh A (.cells #[.i 0,.int .u8 0,.int .u8 0,.slice none 0 0] aI) λag=>
 oe ag (nb A) (.i 7) (.int .u8 0) (.int .u8 0) (.slice (some (nb j)) 1 1) λai=>yv U C7 (K9 R) [(8,.pointer (some (nb A))),(38,.agg #[.i 7,.int .u8 0,.int .u8 0,.slice (some (nb j)) 1 1]),(37,.slice (some (nb j)) 1 1),(36,.agg #[.i aa,.int .u8 ac,.int .u8 ad,ae.v]),(7,.pointer (some (nb x))),(35,.agg #[.i T,.int .u8 W,.int .u8 Y,Z.v]),(34,.pointer (some (S.add (aY (fA (aE .i64 (fj t11 36)) 6) *4)))),(33,.i (fA (aE .i64 (fj t11 36)) 6)),(32,.i (aE .i64 (fj t11 36))),(31,.i t11),(30,.slice (some (nb e)) 6 6),(6,.pointer (some (nb y))),(29,.agg #[.i N,.int .u8 O,.int .u8 P,Q.v]),(28,.pointer (some (M.add (aY (fA (aE .i64 (fj t11 6)) 6) *4)))),(27,.i (fA (aE .i64 (fj t11 6)) 6)),(26,.i (aE .i64 (fj t11 6))),(25,.i t11),(24,.slice (some (nb e)) 6 6),(5,.pointer (some (nb q))),(23,.agg #[.i H,.int .u8 J,.int .u8 K,L.v]),(22,.pointer (some (G.add (aY (fA t11 6) *4)))),(21,.i (fA t11 6)),(20,.i t11),(19,.slice (some (nb e)) 6 6),(4,.slice (some (nb e)) 6 6),(18,.slice (some (nb e)) 6 6),(17,.agg #[.i B,.int .u8 C,.int .u8 D,F.v]),(16,.agg #[.i 1,.int .u8 0,.int .u8 0,.slice none 0 0]),(15,.agg #[.i 2,.int .u8 97,.int .u8 98,.slice none 0 0]),(14,.agg #[.i 2,.int .u8 0,.int .u8 0,.slice none 0 0]),(13,.agg #[.i 2,.int .u8 98,.int .u8 98,.slice none 0 0]),(12,.agg #[.i 2,.int .u8 97,.int .u8 97,.slice none 0 0]),(3,.i t11),(11,.i t11),(10,.i h),(2,.s0),(0,.i h)] ai):ah U NX #[.i h] w R:=
 wP (R:=R) (fn:=Tryz.f33) (c:=C0) (args:=[.i h]) (by kernel_rfl) (by kernel_rfl) (by kernel_rfl) (sr C0 (show(λ(E:Env) (w:I)=>eT U C0 (λE w=>eT U C1 (λE w=>eT U C2 (λE w=>eT U C3 (λE w=>eT U C4 (λE w=>eT U C5 (λE w=>eT U C6 (λE w=>yv U C7 (K9 R) E w) E w) E w) E w) E w) E w) E w) E w) (kL 0 [.i h]) w from mp z) λ_ _ d=>(sr C1 d λ_ _ d=>(sr C2 d λ_ _ d=>(sr C3 d λ_ _ d=>(sr C4 d λ_ _ d=>(sr C5 d λ_ _ d=>(sr C6 d λ_ _ d=>(si C7 (by kernel_rfl) d λ_ _ d=>(let ⟨s,k,h9,h3,z⟩:=d;afj (E':=[(9,s.v),(3,.i k)]) (ad' h9 h3) (sr C8 (show eT U C8 (λE w=>lT U Tryz.f33 E w (λv=>R (ab v) w)) [(9,s.v),(3,.i k)] _ from mp z) λ_ _ d=>(rt C9 λa hA=>yl hA d)))))))))))
end w4
inductive wB where
 |tr (x:Rx)
 |ls (l:List Rx)
def xp(base:Nat)(w:I)(v:Option V):wB->Prop
 |.tr d=>∃t:J,v=some t.v/\t.rx=d/\t.P w/\∀b∈t.fp,base<=b
 |.ls l=>∃(s:Sl) (ts:List J),v=some s.v/\J.ao ts=l/\(bW s ts).P w/\∀b∈(bW s ts).fp,base<=b
def xp.cB{base:Nat}{w w':I}{v:Option V}{k:wB}(q:xp base w v k)(f:af w w'):xp base w' v k:=by
 cases k with
 |tr y=>obtain⟨t,d,e,h,j⟩:=q;exact⟨t,d,e,h.cB f,j⟩
 |ls l=>obtain⟨s,x,d,e,h,j⟩:=q;exact⟨s,x,d,e,h.cB f,j⟩
def dv(i:Nat):Nat:=if i=40 then 9 else 39+i
def kA(base:Nat)(w:I)(E:Env)(t:Nat)(x:Rx):Prop:=∃(b:Nat) (u:J),E.get? t=some (.pointer (some (aa b)))/\w.heap[b]? =some (.cells u.c.toArray aI (0,0))/\u.rx=x/\u.P w/\∀c∈u.fp,base<=c
def kA.cB{base:Nat}{w w':I}{E:Env}{t:Nat}{x:Rx}(e:kA base w E t x)(f:af w w'):kA base w' E t x:=by obtain⟨b,u,h,d,j,k,q⟩:=e;exact⟨b,u,h,(f.cv b (pW d) id).trans d,j,k.cB f,q⟩
def kA.put{base:Nat}{w:I}{E:Env}{t d:Nat}{v:V}{x:Rx}(e:kA base w E t x)(hd:d≠t):kA base w (E.put (some d) v) t x:=by obtain⟨b,u,h,j⟩:=e;exact⟨b,u,by rw[jx hd];exact h,j⟩
section
variable (w0:I) (base:Nat) (kk:Int) (Xa Xb Xc Xs:Rx)
def dN:List wB:=[.tr Xa,
 .tr Xa,
 .tr Xb,
 .ls [Xa,Xb],
 .tr (.mk 3 0 0 [Xa,Xb]),
 .tr Xa,
 .tr Xb,
 .tr Xc,
 .ls [Xa,Xb,Xc],
 .tr (.mk 4 0 0 [Xa,Xb,Xc]),
 .tr Xs,
 .tr Xs,
 .tr Xb,
 .ls [Xs,Xb],
 .tr (.mk 3 0 0 [Xs,Xb]),
 .tr Xa,
 .tr Xb,
 .ls [Xa,Xb],
 .tr (.mk 3 0 0 [Xa,Xb]),
 .ls [(.mk 3 0 0 [Xa,Xb])],
 .tr (.mk 6 0 0 [(.mk 3 0 0 [Xa,Xb])]),
 .tr Xb,
 .tr Xa,
 .tr Xc,
 .ls [Xa,Xc],
 .tr (.mk 4 0 0 [Xa,Xc]),
 .ls [(.mk 4 0 0 [Xa,Xc])],
 .tr (.mk 7 0 0 [(.mk 4 0 0 [Xa,Xc])]),
 .ls [Xb,(.mk 7 0 0 [(.mk 4 0 0 [Xa,Xc])])],
 .tr (.mk 3 0 0 [Xb,(.mk 7 0 0 [(.mk 4 0 0 [Xa,Xc])])]),
 .tr Xb,
 .ls [Xb],
 .tr (.mk 6 0 0 [Xb]),
 .tr Xa,
 .tr eQ,
 .ls [Xa,eQ],
 .tr (.mk 3 0 0 [Xa,eQ]),
 .ls [(.mk 6 0 0 [Xb]),(.mk 3 0 0 [Xa,eQ])],
 .tr (.mk 5 0 0 [(.mk 6 0 0 [Xb]),(.mk 3 0 0 [Xa,eQ])]),
 .ls [Xa,(.mk 3 0 0 [Xa,Xb]),(.mk 4 0 0 [Xa,Xb,Xc]),Xs,(.mk 3 0 0 [Xs,Xb]),(.mk 6 0 0 [(.mk 3 0 0 [Xa,Xb])]),(.mk 3 0 0 [Xb,(.mk 7 0 0 [(.mk 4 0 0 [Xa,Xc])])]),(.mk 5 0 0 [(.mk 6 0 0 [Xb]),(.mk 3 0 0 [Xa,eQ])])],
 .ls [Xa,(.mk 3 0 0 [Xa,Xb]),(.mk 4 0 0 [Xa,Xb,Xc]),Xs,(.mk 3 0 0 [Xs,Xb]),(.mk 6 0 0 [(.mk 3 0 0 [Xa,Xb])]),(.mk 3 0 0 [Xb,(.mk 7 0 0 [(.mk 4 0 0 [Xa,Xc])])]),(.mk 5 0 0 [(.mk 6 0 0 [Xb]),(.mk 3 0 0 [Xa,eQ])])]]
structure JT(L:Nat->Bool)(E:Env)(w:I):Prop where
 fr:af w0 w
 k:E.get? 3=some (.i kk)
 a:kA base w E 5 Xa
 b:kA base w E 6 Xb
 c:kA base w E 7 Xc
 s:kA base w E 8 Xs
 all:∀(i:Nat) (sp:wB),(dN Xa Xb Xc Xs)[i]? =some sp->L i=true->xp base w (E.get? (dv i)) sp
variable {w0 base kk Xa Xb Xc Xs}
def JT.step{L:Nat->Bool}{E:Env}{w w':I}(e:JT w0 base kk Xa Xb Xc Xs L E w)(f:af w w'){i d:Nat}(hd:d=dv i){v:V}{y:wB}(x:(dN Xa Xb Xc Xs)[i]? =some y)(z:xp base w' (some v) y):JT w0 base kk Xa Xb Xc Xs (eb L i) (E.put (some d) v) w':=by
 have F:9<=d:=by rw[hd];unfold dv;grind
 refine⟨e.fr.gq f,by rw[jx io];exact e.k,(e.a.cB f).put io,(e.b.cB f).put io,(e.c.cB f).put io,(e.s.cB f).put io,λh sq j D=>?_⟩;by_cases q:h=i
 .subst q;rw[x]at j;cases j;rw[<-hd,uZ];exact z
 .have A:d≠dv h:=by
   rw[hd];have B:i<41:=(cP.1 x).1;have C:h<41:=(cP.1 j).1;unfold dv
   grind
  rw[jx A];refine(e.all h sq j ?_).cB f;have:bQ h i=false:=by rw[<-iu,Nat.beq_eq];exact q
  grind
abbrev jm(w0:I)(base:Nat)(kk:Int)(Xa Xb Xc Xs:Rx)(i:Nat)(r:Op×Option Nat×aD×List Nat):Prop:=zb U (JT w0 base kk Xa Xb Xc Xs) i r
def Z6{b:Nat}{u:J}{w:I}(d:w.heap[b]? =some (.cells u.c.toArray aI (0,0))){K:V->Prop}(C:K u.v):oQ U aI (aa b) w λv _=>K v:=by
 have x:=cellAt (p:=aa b) (i:=0) (v:=.int .i64 u.k) d rfl rfl;have y:=cellAt (p:=aa b) (i:=1) (v:=.int .u8 (u.lo.toNat:Int)) d rfl rfl;have z:=cellAt (p:=aa b) (i:=2) (v:=.int .u8 (u.hi.toNat:Int)) d rfl rfl;have A:=cellAt (p:=aa b) (i:=3) (v:=u.s.v) d rfl rfl;have B:(oQ U aI (aa b) w λv _=>K v)=(∃e:Int,∃h:Int,∃j:Int,∃q:Sl,w.cell? ((aa b).add 0)=some (.int .i64 e)/\w.cell? ((aa b).add 1)=some (.int .u8 h)/\w.cell? ((aa b).add 2)=some (.int .u8 j)/\w.cell? ((aa b).add 3)=some q.v/\K (.agg #[.int .i64 e,.int .u8 h,.int .u8 j,q.v])):=by kernel_rfl
 grind
def BA{ty:aD}{q:List Nat}{t:Nat}{x:Rx}(i d:Nat)(hd:d=dv i)(E:(dN Xa Xb Xc Xs)[i]? =some (.tr x))(F:∀j e h,JT w0 base kk Xa Xb Xc Xs j e h->kA base h e t x):jm w0 base kk Xa Xb Xc Xs i (.load aI (.tmp t),some d,ty,q):=by intro j e h o D C J H G k;obtain⟨b,u,w,y,z,A,B⟩:=F j e h k;refine tq D w (Z6 y ?_);rw[C];exact k.step (Fr.refl _ _) hd E ⟨u,rfl,z,A,B⟩
def vI{ty:aD}{h:List Nat}(i d:Nat)(j:(dN Xa Xb Xc Xs)[i]? =some (.tr Xa))(hd:d=dv i:=by rfl):jm w0 base kk Xa Xb Xc Xs i (.load aI (.tmp 5),some d,ty,h):=BA i d hd j λ_ _ _ e=>e.a
def vJ{ty:aD}{h:List Nat}(i d:Nat)(j:(dN Xa Xb Xc Xs)[i]? =some (.tr Xb))(hd:d=dv i:=by rfl):jm w0 base kk Xa Xb Xc Xs i (.load aI (.tmp 6),some d,ty,h):=BA i d hd j λ_ _ _ e=>e.b
def SO{ty:aD}{h:List Nat}(i d:Nat)(j:(dN Xa Xb Xc Xs)[i]? =some (.tr Xc))(hd:d=dv i:=by rfl):jm w0 base kk Xa Xb Xc Xs i (.load aI (.tmp 7),some d,ty,h):=BA i d hd j λ_ _ _ e=>e.c
def SP{ty:aD}{h:List Nat}(i d:Nat)(j:(dN Xa Xb Xc Xs)[i]? =some (.tr Xs))(hd:d=dv i:=by rfl):jm w0 base kk Xa Xb Xc Xs i (.load aI (.tmp 8),some d,ty,h):=BA i d hd j λ_ _ _ e=>e.s
def ac7(a:J)(w:I):(Instr.buildSlice dq 1 #[((0:Nat),a.v)]).run U w=.ok (.slice (some (aa w.heap.size)) 1 1) (w.alloc (.cells ([a].flatMap J.c).toArray aI)):=by kernel_rfl
def ac8(a b:J)(w:I):(Instr.buildSlice dq 2 #[((0:Nat),a.v),(1,b.v)]).run U w=.ok (.slice (some (aa w.heap.size)) 2 2) (w.alloc (.cells ([a,b].flatMap J.c).toArray aI)):=by kernel_rfl
def ac9(a b c:J)(w:I):(Instr.buildSlice dq 3 #[((0:Nat),a.v),(1,b.v),(2,c.v)]).run U w=.ok (.slice (some (aa w.heap.size)) 3 3) (w.alloc (.cells ([a,b,c].flatMap J.c).toArray aI)):=by kernel_rfl
def ac'(a b c q e g r s:J)(w:I):(Instr.buildSlice dq 8 #[((0:Nat),a.v),(1,b.v),(2,c.v),(3,q.v),(4,e.v),(5,g.v),(6,r.v),(7,s.v)]).run U w=.ok (.slice (some (aa w.heap.size)) 8 8) (w.alloc (.cells ([a,b,c,q,e,g,r,s].flatMap J.c).toArray aI)):=by kernel_rfl
def BV{o:Oper}{T:aD}{n:Nat}{parts:Array (Nat×Operand)}{E:Env}{w w':I}{v:V}{K:Env->I->Prop}(d:o.op=.buildSlice T n parts)(h:E.e9 o=true)(k:(Instr.buildSlice T n (parts.map λp=>(p.1,E.ev p.2))).run U w=.ok v w')(e:K (E.put o.dst v) w'):jQ U o E w K:=by
 obtain⟨dst,op,q,pos,after,guard⟩:=o;simp only at d;subst d;have j:uP U ⟨dst,.buildSlice T n parts,q,pos,after,guard⟩ E w (λv w'=>K (E.put dst v) w'):=by unfold uP;rw[h];show cS true _;simp only[execOp];rw[show(λ(x:Nat×Operand)=>match x with |(i,x)=>(i,E.ev x))=λp=>(p.1,E.ev p.2)from rfl];simp[k];exact e
 unfold jQ;simp only[calm,cond_false];unfold hV;exact j
def kM{E:Env}{t:Nat}{v:V}(d:E.get? t=some v):E.ev (.tmp t)=v:=by simp[Env.ev,Env.val,d]
def AA{w:I}{ts:List J}{n:Nat}(j:n=ts.length)(z:n<=1000)(k:J.Ps w ts)(y:∀b∈J.be ts,base<=b)(x:base<=w.heap.size):
  (bW ⟨some (aa w.heap.size),n,n⟩ ts).P (w.alloc (.cells (ts.flatMap J.c).toArray aI))/\∀b∈(bW ⟨some (aa w.heap.size),n,n⟩ ts).fp,base<=b:=by
 have q:=aJ.made w aI 4 n (ts.flatMap J.c) (by rw[J.hU,j]) (by unfold maxLen;omega);refine⟨dB.2 ⟨q.a9,k.cB (Fr.alloc _ _ _)⟩,λb e=>?_⟩;rcases nc.1 e with d|d
 .exact rp (λc h=>by simp only[aG,aF,aW,a2]at h;omega) b d
 grind
def JT.wK{L:Nat->Bool}{E:Env}{w:I}(d:JT w0 base kk Xa Xb Xc Xs L E w)(e:base<=w0.heap.size):base<=w.heap.size:=bI e d.fr.size
section
variable (xl:base<=w0.heap.size)
include xl
def Hy{ty:aD}{y:List Nat}(i d e:Nat){x:Nat}{x0:Rx}(H:(dN Xa Xb Xc Xs)[i]? =some (.ls [x0]))(E:(dN Xa Xb Xc Xs)[e]? =some (.tr x0))(K:e∈y)(hd:d=dv i:=by rfl)(D:x=dv e:=by rfl):jm w0 base kk Xa Xb Xc Xs i (.buildSlice dq 1 #[(0,.tmp x)],some d,ty,y):=by
 intro L A h o q G O N F j;obtain⟨a,k,B,M,C⟩:=j.all e _ E (F e K);rw[<-D]at k;have z:=AA (base:=base) (w:=h) (ts:=[a]) (n:=1) rfl io (J.jL (by grind)) (by simp[J.be];exact C) (j.wK xl);refine BV (w':=h.alloc (.cells ([a].flatMap J.c).toArray aI)) (v:=.slice (some (aa h.heap.size)) 1 1) q (by obtain⟨_,op,_,_,_,_⟩:=o;simp only at q;subst q;simp[Env.e9,Op.operands,Env.val,k]) ?_ ?_
 .rw [show(#[((0:Nat),Operand.tmp x)].map λp=>(p.1,A.ev p.2))=#[((0:Nat),a.v)]by simp[kM k]];exact ac7 a h
 .rw [G];exact j.step (Fr.alloc _ _ _) hd H ⟨⟨some (aa h.heap.size),1,1⟩,[a],rfl,by simp[J.ao,B],z.1,z.2⟩
def te{ty:aD}{y:List Nat}(i d e h:Nat){A B:Nat}{x0 x1:Rx}(O:(dN Xa Xb Xc Xs)[i]? =some (.ls [x0,x1]))(L:(dN Xa Xb Xc Xs)[e]? =some (.tr x0))(M:(dN Xa Xb Xc Xs)[h]? =some (.tr x1))(P:e∈y)(m1:h∈y)(hd:d=dv i:=by rfl)(H:A=dv e:=by rfl)(K:B=dv h:=by rfl):jm w0 base kk Xa Xb Xc Xs i (.buildSlice dq 2 #[(0,.tmp A),(1,.tmp B)],some d,ty,y):=by
 intro Q E j o z N ht Z C k;obtain⟨a,q,F,S,T⟩:=k.all e _ L (C e P);obtain⟨b,x,G,W,Y⟩:=k.all h _ M (C h m1);rw[<-H]at q;rw[<-K]at x;have D:=AA (base:=base) (w:=j) (ts:=[a,b]) (n:=2) rfl io (J.jL (by grind)) (by simp[J.be];grind) (k.wK xl);refine BV (w':=j.alloc (.cells ([a,b].flatMap J.c).toArray aI)) (v:=.slice (some (aa j.heap.size)) 2 2) z (by obtain⟨_,op,_,_,_,_⟩:=o;simp only at z;subst z;simp[Env.e9,Op.operands,Env.val,q,x]) ?_ ?_
 .rw [show(#[((0:Nat),Operand.tmp A),(1,.tmp B)].map λp=>(p.1,E.ev p.2))=#[((0:Nat),a.v),(1,b.v)]by simp[kM q,kM x]];exact ac8 a b j
 .rw [N];exact k.step (Fr.alloc _ _ _) hd O ⟨⟨some (aa j.heap.size),2,2⟩,[a,b],rfl,by simp[J.ao,F,G],D.1,D.2⟩
def ac0{ty:aD}{x:List Nat}(i d h j k:Nat){D E t2:Nat}{x0 x1 x2:Rx}(W:(dN Xa Xb Xc Xs)[i]? =some (.ls [x0,x1,x2]))(P:(dN Xa Xb Xc Xs)[h]? =some (.tr x0))(Q:(dN Xa Xb Xc Xs)[j]? =some (.tr x1))(S:(dN Xa Xb Xc Xs)[k]? =some (.tr x2))(Y:h∈x)(m1:j∈x)(m2:k∈x)(hd:d=dv i:=by rfl)(M:D=dv h:=by rfl)(N:E=dv j:=by rfl)(O:t2=dv k:=by rfl):jm w0 base kk Xa Xb Xc Xs i (.buildSlice dq 3 #[(0,.tmp D),(1,.tmp E),(2,.tmp t2)],some d,ty,x):=by
 intro Z G q o C T ht hi B e;obtain⟨a,y,H,a3,a4⟩:=e.all h _ P (B h Y);obtain⟨b,z,K,b3,b4⟩:=e.all j _ Q (B j m1);obtain⟨c,A,L,c3,c4⟩:=e.all k _ S (B k m2);rw[<-M]at y;rw[<-N]at z;rw[<-O]at A;have F:=AA (base:=base) (w:=q) (ts:=[a,b,c]) (n:=3) rfl io (J.jL (by grind)) (by simp[J.be];grind) (e.wK xl);refine BV (w':=q.alloc (.cells ([a,b,c].flatMap J.c).toArray aI)) (v:=.slice (some (aa q.heap.size)) 3 3) C (by obtain⟨_,op,_,_,_,_⟩:=o;simp only at C;subst C;simp[Env.e9,Op.operands,Env.val,y,z,A]) ?_ ?_
 .rw [show(#[((0:Nat),Operand.tmp D),(1,.tmp E),(2,.tmp t2)].map λp=>(p.1,G.ev p.2))=#[((0:Nat),a.v),(1,b.v),(2,c.v)]by simp[kM y,kM z,kM A]];exact ac9 a b c q
 .rw [T];exact e.step (Fr.alloc _ _ _) hd W ⟨⟨some (aa q.heap.size),3,3⟩,[a,b,c],rfl,by simp[J.ao,H,K,L],F.1,F.2⟩
def ac1{ty:aD}{h:List Nat}(i d q x y z A B C D:Nat){S T t2 t3 t4 W Y Z:Nat}{x0 x1 x2 x3 x4 x5 x6 x7:Rx}(hs:(dN Xa Xb Xc Xs)[i]? =some (.ls [x0,x1,x2,x3,x4,x5,x6,x7]))(h0:(dN Xa Xb Xc Xs)[q]? =some (.tr x0))(h1:(dN Xa Xb Xc Xs)[x]? =some (.tr x1))(h2:(dN Xa Xb Xc Xs)[y]? =some (.tr x2))(h3:(dN Xa Xb Xc Xs)[z]? =some (.tr x3))(h4:(dN Xa Xb Xc Xs)[A]? =some (.tr x4))(h5:(dN Xa Xb Xc Xs)[B]? =some (.tr x5))(h6:(dN Xa Xb Xc Xs)[C]? =some (.tr x6))(h7:(dN Xa Xb Xc Xs)[D]? =some (.tr x7))(m0:q∈h)(m1:x∈h)(m2:y∈h)(m3:z∈h)(m4:A∈h)(m5:B∈h)(m6:C∈h)(m7:D∈h)(hd:d=dv i:=by rfl)(e0:S=dv q:=by rfl)(e1:T=dv x:=by rfl)(e2:t2=dv y:=by rfl)(e3:t3=dv z:=by rfl)(e4:t4=dv A:=by rfl)(e5:W=dv B:=by rfl)(e6:Y=dv C:=by rfl)(e7:Z=dv D:=by rfl):
  jm w0 base kk Xa Xb Xc Xs i (.buildSlice dq 8 #[(0,.tmp S),(1,.tmp T),(2,.tmp t2),(3,.tmp t3),(4,.tmp t4),(5,.tmp W),(6,.tmp Y),(7,.tmp Z)],some d,ty,h):=by
 intro af ac F o N ae ht hi j e;obtain⟨a,G,ad,a3,a4⟩:=e.all q _ h0 (j q m0);obtain⟨b,H,b2,b3,b4⟩:=e.all x _ h1 (j x m1);obtain⟨c,K,c2,c3,c4⟩:=e.all y _ h2 (j y m2);obtain⟨E,O,q2,q3,q4⟩:=e.all z _ h3 (j z m3);obtain⟨k,L,f2,f3,f4⟩:=e.all A _ h4 (j A m4);obtain⟨g,M,g2,g3,g4⟩:=e.all B _ h5 (j B m5);obtain⟨r,P,r2,r3,r4⟩:=e.all C _ h6 (j C m6);obtain⟨s,Q,s2,s3,s4⟩:=e.all D _ h7 (j D m7);rw[<-e0]at G;rw[<-e1]at H;rw[<-e2]at K;rw[<-e3]at O;rw[<-e4]at L;rw[<-e5]at M;rw[<-e6]at P;rw[<-e7]at Q;have hm:=AA (base:=base) (w:=F) (ts:=[a,b,c,E,k,g,r,s]) (n:=8) rfl io (J.jL (by simp[a3,b3,c3,q3,f3,g3,r3,s3])) (by
  intro ag hz;obtain⟨t,ht,hy⟩:=J.b0.1 hz;clear hz;simp only[aF,aW,a2]at ht
  grind) (e.wK xl)
 refine BV (w':=F.alloc (.cells ([a,b,c,E,k,g,r,s].flatMap J.c).toArray aI)) (v:=.slice (some (aa F.heap.size)) 8 8) N (by obtain⟨_,op,_,_,_,_⟩:=o;simp only at N;subst N;simp[Env.e9,Op.operands,Env.val,G,H,K,O,L,M,P,Q]) ?_ ?_
 .rw [show(#[((0:Nat),Operand.tmp S),(1,.tmp T),(2,.tmp t2),(3,.tmp t3),(4,.tmp t4),(5,.tmp W),(6,.tmp Y),(7,.tmp Z)].map λp=>(p.1,ac.ev p.2))=#[((0:Nat),a.v),(1,b.v),(2,c.v),(3,E.v),(4,k.v),(5,g.v),(6,r.v),(7,s.v)]by simp[kM G,kM H,kM K,kM O,kM L,kM M,kM P,kM Q]];exact ac' a b c E k g r s F
 .rw [ae];exact e.step (Fr.alloc _ _ _) hd hs ⟨⟨some (aa F.heap.size),8,8⟩,[a,b,c,E,k,g,r,s],rfl,by simp[J.ao,ad,b2,c2,q2,f2,g2,r2,s2],hm.1,hm.2⟩
end
def adW{o:Oper}{k:Int}{t:Nat}{s:Sl}{E:Env}{w:I}{K:Env->I->Prop}(B:k=3\/k=4\/k=5\/k=6\/k=7)(h:o.op=.build aI #[(0,.const (.int .i64 k)),(3,.tmp t)])(j:E.get? t=some s.v)(y:K (E.put o.dst (.agg #[.i k,.int .u8 0,.int .u8 0,s.v])) w):jQ U o E w K:=by
 obtain⟨dst,op,d,pos,after,guard⟩:=o;simp only at h;subst h;show g' U _ E (λv _=>K (E.put dst v) w);have A:E.e9 ⟨dst,.build aI #[(0,.const (.int .i64 k)),(3,.tmp t)],d,pos,after,guard⟩=true:=by simp[Env.e9,Op.operands,Env.val,j]
 unfold g';rw[A];have q:execOp E.ev ⟨dst,.build aI #[(0,.const (.int .i64 k)),(3,.tmp t)],d,pos,after,guard⟩=execOp (λe=>match e with |.const v=>v|_=>s.v) ⟨dst,.build aI #[(0,.const (.int .i64 k)),(3,.tmp t)],d,pos,after,guard⟩:=by
  have:E.ev (.tmp t)=s.v:=kM j;have z:E.ev (.const (.int .i64 k))=.int .i64 k:=by simp[Env.ev,Env.val]
  simp only[execOp,List.map_toArray,List.map_cons,List.map_nil,this,z]
 rw[q];have x:s5 U (execOp (λe=>match e with |.const v=>v|_=>s.v) ⟨dst,.build aI #[(0,.const (.int .i64 k)),(3,.tmp t)],d,pos,after,guard⟩)=some (.value (.agg #[.i k,.int .u8 0,.int .u8 0,s.v])):=by kernel_rfl
 rw[x];exact y
def yn{ty:aD}{q:List Nat}(k:Int)(E:k=3\/k=4\/k=5\/k=6\/k=7)(i d j:Nat){t:Nat}{l:List Rx}(G:(dN Xa Xb Xc Xs)[i]? =some (.tr (.mk k 0 0 l)))(B:(dN Xa Xb Xc Xs)[j]? =some (.ls l))(m:j∈q)(hd:d=dv i)(A:t=dv j):jm w0 base kk Xa Xb Xc Xs i (.build aI #[(0,.const (.int .i64 k)),(3,.tmp t)],some d,ty,q):=by
 intro L K O o F D N M C e;obtain⟨s,H,h,x,y,z⟩:=e.all j _ B (C j m);rw[<-A]at h;refine adW E F h ?_;rw[D];refine e.step (Fr.refl _ _) hd G ⟨.mk k 0 0 s H,rfl,by rw[<-x];rfl,?_,λb w=>z b ?_⟩
 .have:=dB.1 y;unfold J.P;omega
 .unfold J.fp at w;unfold bW J.fp;exact w
def yo{ty:aD}{e:List Nat}(i d j:Nat){t:Nat}{l:List Rx}(q:(dN Xa Xb Xc Xs)[i]? =some (.tr (.mk 3 0 0 l)))(k:(dN Xa Xb Xc Xs)[j]? =some (.ls l))(m:j∈e)(hd:d=dv i:=by rfl)(h:t=dv j:=by rfl):jm w0 base kk Xa Xb Xc Xs i (.build aI #[(0,.const (.int .i64 3)),(3,.tmp t)],some d,ty,e):=yn 3 io i d j q k m hd h
def SM{ty:aD}{e:List Nat}(i d j:Nat){t:Nat}{l:List Rx}(q:(dN Xa Xb Xc Xs)[i]? =some (.tr (.mk 4 0 0 l)))(k:(dN Xa Xb Xc Xs)[j]? =some (.ls l))(m:j∈e)(hd:d=dv i:=by rfl)(h:t=dv j:=by rfl):jm w0 base kk Xa Xb Xc Xs i (.build aI #[(0,.const (.int .i64 4)),(3,.tmp t)],some d,ty,e):=yn 4 io i d j q k m hd h
def acY{ty:aD}{e:List Nat}(i d j:Nat){t:Nat}{l:List Rx}(q:(dN Xa Xb Xc Xs)[i]? =some (.tr (.mk 5 0 0 l)))(k:(dN Xa Xb Xc Xs)[j]? =some (.ls l))(m:j∈e)(hd:d=dv i:=by rfl)(h:t=dv j:=by rfl):jm w0 base kk Xa Xb Xc Xs i (.build aI #[(0,.const (.int .i64 5)),(3,.tmp t)],some d,ty,e):=yn 5 io i d j q k m hd h
def SN{ty:aD}{e:List Nat}(i d j:Nat){t:Nat}{l:List Rx}(q:(dN Xa Xb Xc Xs)[i]? =some (.tr (.mk 6 0 0 l)))(k:(dN Xa Xb Xc Xs)[j]? =some (.ls l))(m:j∈e)(hd:d=dv i:=by rfl)(h:t=dv j:=by rfl):jm w0 base kk Xa Xb Xc Xs i (.build aI #[(0,.const (.int .i64 6)),(3,.tmp t)],some d,ty,e):=yn 6 io i d j q k m hd h
def acZ{ty:aD}{e:List Nat}(i d j:Nat){t:Nat}{l:List Rx}(q:(dN Xa Xb Xc Xs)[i]? =some (.tr (.mk 7 0 0 l)))(k:(dN Xa Xb Xc Xs)[j]? =some (.ls l))(m:j∈e)(hd:d=dv i:=by rfl)(h:t=dv j:=by rfl):jm w0 base kk Xa Xb Xc Xs i (.build aI #[(0,.const (.int .i64 7)),(3,.tmp t)],some d,ty,e):=yn 7 io i d j q k m hd h
def ac3{ty:aD}{k:List Nat}(i d j:Nat){t:Nat}{l:List Rx}(D:(dN Xa Xb Xc Xs)[i]? =some (.ls l))(z:(dN Xa Xb Xc Xs)[j]? =some (.ls l))(m:j∈k)(hd:d=dv i:=by rfl)(y:t=dv j:=by rfl):jm w0 base kk Xa Xb Xc Xs i (.assign (.tmp t),some d,ty,k):=by intro G F K o C B J H A e;obtain⟨s,E,h,q,w,x⟩:=e.all j _ z (A j m);rw[<-y]at h;refine qo (.inr C) h ?_;rw[B];exact e.step (Fr.refl _ _) hd D ⟨s,E,rfl,q,w,x⟩
def ac2{E:List Nat}(L:base<=w0.heap.size)(i d:Nat)(P:(dN Xa Xb Xc Xs)[i]? =some (.tr eQ))(hd:d=dv i:=by rfl):jm w0 base kk Xa Xb Xc Xs i (.call ⟨.value (.func pZ),#[],#[]⟩,some d,aI,E):=by
 intro j e D o x w y S Q q;obtain⟨dst,op,T,pos,after,guard⟩:=o;simp only at x w y;subst x;subst w;subst y;have M:e.e9 ⟨some d,.call ⟨.value (.func pZ),#[],#[]⟩,aI,pos,after,guard⟩=true:=by simp[Env.e9,Op.operands,Call.operands,Env.val]
 have N:hv U pZ=true:=by kernel_rfl
 have O:calm U ⟨some d,.call ⟨.value (.func pZ),#[],#[]⟩,aI,pos,after,guard⟩=false:=rfl;unfold jQ;rw[O,cond_false];unfold hV;dsimp only;rw[M,N];simp only[List.map_toArray,List.map_nil,cond_true];refine(show r4 U pZ #[] (zeroOf U aI) D (λv h=>JT w0 base kk Xa Xb Xc Xs (eb j i) (e.put (some d) v) h)from ?_);refine(DD D).mono ?_;rintro _ h ⟨⟨t,rfl,G,H,J⟩,f⟩;have F:oM (zeroOf U aI) (λv=>Ending.returned t.v=ab v/\JT w0 base kk Xa Xb Xc Xs (eb j i) (e.put (some d) v) h)=∃z:Int,∃A:Int,∃B:Int,∃C:Sl,Ending.returned t.v=ab (.agg #[.int .i64 z,.int .u8 A,.int .u8 B,C.v])/\JT w0 base kk Xa Xb Xc Xs (eb j i) (e.put (some d) (.agg #[.int .i64 z,.int .u8 A,.int .u8 B,C.v])) h:=by kernel_rfl
 rw[F];exact⟨t.k,t.lo.toNat,t.hi.toNat,t.s,rfl,q.step f hd P ⟨t,rfl,G,H,λb K=>bI (q.wK L) (J b K)⟩⟩
def Uo:List (Op×Option Nat×aD×List Nat):=[(.load aI (.tmp 5),some 39,aI,[]),
 (.load aI (.tmp 5),some 40,aI,[]),
 (.load aI (.tmp 6),some 41,aI,[]),
 (.buildSlice dq 2 #[(0,.tmp 40),(1,.tmp 41)],some 42,dq,[1,2]),
 (.build aI #[(0,.const (.int .i64 3)),(3,.tmp 42)],some 43,aI,[3]),
 (.load aI (.tmp 5),some 44,aI,[]),
 (.load aI (.tmp 6),some 45,aI,[]),
 (.load aI (.tmp 7),some 46,aI,[]),
 (.buildSlice dq 3 #[(0,.tmp 44),(1,.tmp 45),(2,.tmp 46)],some 47,dq,[5,6,7]),
 (.build aI #[(0,.const (.int .i64 4)),(3,.tmp 47)],some 48,aI,[8]),
 (.load aI (.tmp 8),some 49,aI,[]),
 (.load aI (.tmp 8),some 50,aI,[]),
 (.load aI (.tmp 6),some 51,aI,[]),
 (.buildSlice dq 2 #[(0,.tmp 50),(1,.tmp 51)],some 52,dq,[11,12]),
 (.build aI #[(0,.const (.int .i64 3)),(3,.tmp 52)],some 53,aI,[13]),
 (.load aI (.tmp 5),some 54,aI,[]),
 (.load aI (.tmp 6),some 55,aI,[]),
 (.buildSlice dq 2 #[(0,.tmp 54),(1,.tmp 55)],some 56,dq,[15,16]),
 (.build aI #[(0,.const (.int .i64 3)),(3,.tmp 56)],some 57,aI,[17]),
 (.buildSlice dq 1 #[(0,.tmp 57)],some 58,dq,[18]),
 (.build aI #[(0,.const (.int .i64 6)),(3,.tmp 58)],some 59,aI,[19]),
 (.load aI (.tmp 6),some 60,aI,[]),
 (.load aI (.tmp 5),some 61,aI,[]),
 (.load aI (.tmp 7),some 62,aI,[]),
 (.buildSlice dq 2 #[(0,.tmp 61),(1,.tmp 62)],some 63,dq,[22,23]),
 (.build aI #[(0,.const (.int .i64 4)),(3,.tmp 63)],some 64,aI,[24]),
 (.buildSlice dq 1 #[(0,.tmp 64)],some 65,dq,[25]),
 (.build aI #[(0,.const (.int .i64 7)),(3,.tmp 65)],some 66,aI,[26]),
 (.buildSlice dq 2 #[(0,.tmp 60),(1,.tmp 66)],some 67,dq,[21,27]),
 (.build aI #[(0,.const (.int .i64 3)),(3,.tmp 67)],some 68,aI,[28]),
 (.load aI (.tmp 6),some 69,aI,[]),
 (.buildSlice dq 1 #[(0,.tmp 69)],some 70,dq,[30]),
 (.build aI #[(0,.const (.int .i64 6)),(3,.tmp 70)],some 71,aI,[31]),
 (.load aI (.tmp 5),some 72,aI,[]),
 (.call ⟨.value (.func pZ),#[],#[]⟩,some 73,aI,[]),
 (.buildSlice dq 2 #[(0,.tmp 72),(1,.tmp 73)],some 74,dq,[33,34]),
 (.build aI #[(0,.const (.int .i64 3)),(3,.tmp 74)],some 75,aI,[35]),
 (.buildSlice dq 2 #[(0,.tmp 71),(1,.tmp 75)],some 76,dq,[32,36]),
 (.build aI #[(0,.const (.int .i64 5)),(3,.tmp 76)],some 77,aI,[37]),
 (.buildSlice dq 8 #[(0,.tmp 39),(1,.tmp 43),(2,.tmp 48),(3,.tmp 49),(4,.tmp 53),(5,.tmp 59),(6,.tmp 68),(7,.tmp 77)],some 78,dq,[0,4,9,10,14,20,29,38]),
 (.assign (.tmp 78),some 9,dq,[39,34,0,1,2,3,4,5,6,7,8,9,10,11,12,13,14,15,16,17,18,19,20,21,22,23,24,25,26,27,28,29,30,31,32,33,34,35,36,37,38,39])]
def ac5(d:base<=w0.heap.size):allI (zb U (JT w0 base kk Xa Xb Xc Xs)) Uo 0:=
 ⟨(vI 0 39 rfl),
  (vI 1 40 rfl),
  (vJ 2 41 rfl),
  (te d 3 42 1 2 rfl rfl rfl us us),
  (yo 4 43 3 rfl rfl us),
  (vI 5 44 rfl),
  (vJ 6 45 rfl),
  (SO 7 46 rfl),
  (ac0 d 8 47 5 6 7 rfl rfl rfl rfl us us us),
  (SM 9 48 8 rfl rfl us),
  (SP 10 49 rfl),
  (SP 11 50 rfl),
  (vJ 12 51 rfl),
  (te d 13 52 11 12 rfl rfl rfl us us),
  (yo 14 53 13 rfl rfl us),
  (vI 15 54 rfl),
  (vJ 16 55 rfl),
  (te d 17 56 15 16 rfl rfl rfl us us),
  (yo 18 57 17 rfl rfl us),
  (Hy d 19 58 18 rfl rfl us),
  (SN 20 59 19 rfl rfl us),
  (vJ 21 60 rfl),
  (vI 22 61 rfl),
  (SO 23 62 rfl),
  (te d 24 63 22 23 rfl rfl rfl us us),
  (SM 25 64 24 rfl rfl us),
  (Hy d 26 65 25 rfl rfl us),
  (acZ 27 66 26 rfl rfl us),
  (te d 28 67 21 27 rfl rfl rfl us us),
  (yo 29 68 28 rfl rfl us),
  (vJ 30 69 rfl),
  (Hy d 31 70 30 rfl rfl us),
  (SN 32 71 31 rfl rfl us),
  (vI 33 72 rfl),
  (ac2 d 34 73 rfl),
  (te d 35 74 33 34 rfl rfl rfl us us),
  (yo 36 75 35 rfl rfl us),
  (te d 37 76 32 36 rfl rfl rfl us us),
  (acY 38 77 37 rfl rfl us),
  (ac1 d 39 78 0 4 9 10 14 20 29 38 rfl rfl rfl rfl rfl rfl rfl rfl rfl us us us us us us us us),
  (ac3 40 9 39 rfl rfl us),trivial⟩
end
def WS(n m:Int)(w:I)(h:1<=m)(d:cE n):ah U xG #[.i n,.i m] w λr e=>r=ab (.i (fP n m))/\af w e:=(Jb n m w h d).mono λr e d=>⟨d.1,d.2▸Fr.refl _ _⟩
def Jh(d:J):List J:=[n5 2 97 97,n5 2 98 98,n5 2 0 0,n5 2 97 98,n5 1 0 0,d]
def Dm(e:J)(h:e.rx=eQ){i:Nat}(hi:i<6):∃t,(Jh e)[i]? =some t/\t.rx=e6 i/\(t=e\/∀d:I,t.P d/\∀b,¬b∈t.fp):=by
 have:i=0\/i=1\/i=2\/i=3\/i=4\/i=5:=io
 rcases this with rfl|rfl|rfl|rfl|rfl|rfl
 .exact ⟨_,rfl,rfl,.inr λd=>⟨sF _ _ _ d,λb=>sG⟩⟩
 .exact ⟨_,rfl,rfl,.inr λd=>⟨sF _ _ _ d,λb=>sG⟩⟩
 .exact ⟨_,rfl,rfl,.inr λd=>⟨sF _ _ _ d,λb=>sG⟩⟩
 .exact ⟨_,rfl,rfl,.inr λd=>⟨sF _ _ _ d,λb=>sG⟩⟩
 .exact ⟨_,rfl,rfl,.inr λd=>⟨sF _ _ _ d,λb=>sG⟩⟩
 .exact ⟨e,rfl,h,.inl rfl⟩
def YN(a b c:Rx){i:Nat}(hi:i<8):[a,.mk 3 0 0 [a,b],.mk 4 0 0 [a,b,c],.mk 7 0 0 [a],.mk 3 0 0 [.mk 7 0 0 [a],b],.mk 6 0 0 [.mk 3 0 0 [a,b]],.mk 3 0 0 [b,.mk 7 0 0 [.mk 4 0 0 [a,c]]],.mk 5 0 0 [.mk 6 0 0 [b],.mk 3 0 0 [a,eQ]]][i]? =some (EN a b c i):=by
 have:i=0\/i=1\/i=2\/i=3\/i=4\/i=5\/i=6\/i=7:=io
 rcases this with rfl|rfl|rfl|rfl|rfl|rfl|rfl|rfl<;>rfl
def B2(k m:Nat)(d:0<m):fA (k:Int) (m:Int)=((k%m:Nat):Int):=by rw[Int.tmod_eq_emod_of_nonneg io];omega
def H6(k m:Nat)(h:k<=1048576):aE .i64 (fj (k:Int) (m:Int))=((k / m:Nat):Int):=by
 have d:fj (k:Int) (m:Int)=((k / m:Nat):Int):=by rw[Int.tdiv_eq_ediv_of_nonneg io];rfl
 have e:k / m<=k:=Nat.div_le_self k m;rw[d];generalize k / m=q at e;rw[bH _ io]
section
variable {w w24:I} {R:aC} {K:Nat}
def aeB(E:K<=1048576){s:Sl}{ts:List J}{w':I}(x:J.ao ts=[e6 (K%6),.mk 3 0 0 [e6 (K%6),e6 (K / 6%6)],.mk 4 0 0 [e6 (K%6),e6 (K / 6%6),e6 (K / 36%6)],.mk 7 0 0 [e6 (K%6)],.mk 3 0 0 [.mk 7 0 0 [e6 (K%6)],e6 (K / 6%6)],.mk 6 0 0 [.mk 3 0 0 [e6 (K%6),e6 (K / 6%6)]],.mk 3 0 0 [e6 (K / 6%6),.mk 7 0 0 [.mk 4 0 0 [e6 (K%6),e6 (K / 36%6)]]],.mk 5 0 0 [.mk 6 0 0 [e6 (K / 6%6)],.mk 3 0 0 [e6 (K%6),eQ]]])(e:(bW s ts).P w')(f:af w w'):w4.T9 s (K:Int) w' λr w'=>r=ab (.string (ba (lZ K)))/\af w w':=by
 have N:=J.cw (dB.1 e).1;have M:ts.length=8:=by have:=congrArg List.length x;rw[J.fY,vC]at this;simpa using this
 show(0:Int)<=fA (aE .i64 (fj (K:Int) ((216:Nat):Int))) ((8:Nat):Int)/\fA (aE .i64 (fj (K:Int) ((216:Nat):Int))) ((8:Nat):Int)<(s.n:Int)/\ea s.a λp=>jA w' (p.add (aY (fA (aE .i64 (fj (K:Int) ((216:Nat):Int))) ((8:Nat):Int)) *4)) _;rw[H6 K 216 E,B2 _ 8 io];have F:K / 216%8<8:=Nat.mod_lt _ io;have d:ts[K / 216%8]? =some (ts[K / 216%8]'io):=a0 io;generalize ts[K / 216%8]'io=t at d;have z:t.rx=mr K:=by have y:=YN (e6 (K%6)) (e6 (K / 6%6)) (e6 (K / 36%6)) F;rw[<-x,J.fY,List.getElem?_map,d]at y;exact Option.some.inj y
 obtain⟨j,k,h,q⟩:=aeD K;rw[<-z]at j k h q;have G:t.P w':=(dB.1 e).2.get d;refine⟨io,io,J.a4 (dB.1 e).1 d λp e c=>⟨_,_,_,_,c.c0,c.c1,c.c2,c.c3,(J0 t w' (by rw[<-J.eu];exact k) j G).mono ?_⟩⟩;rintro _ L ⟨⟨u,rfl,A,H,_⟩,C⟩;rw[<-A]at h q;refine⟨_,_,_,u.s,rfl,(JF u 0 L (by rw[<-J.eu];omega) io h H).mono ?_⟩;rintro _ O ⟨rfl,D⟩;refine⟨_,rfl,?_,(f.gq C).gq D⟩;have B:cR 0 u.rx (a' u.rx)=a' u.rx:=by unfold cR;rw[ad io]
 rw[B,A,z];rfl
end
def VP{s:Sl}{k:Int}{w:I}{R e:aC}(d:w4.T9 s k w R)(E:∀r h,R r h->e r h):w4.T9 s k w e:=
 ⟨d.1,d.2.1,sW d.2.2 λp ⟨a,b,c,j,x,y,z,A,C⟩=>⟨a,b,c,j,x,y,z,A,C.mono λr H ⟨q,f,g,i,D,G⟩=>⟨q,f,g,i,D,G.mono λr J ⟨t,F,B⟩=>⟨t,F,E _ _ B⟩⟩⟩⟩
def WN(n:Int)(hn:cE n)(w:I):ah U NX #[.i n] w λr x=>(∃an:Nat,r=ab (.string (ba (lZ an))))/\af w x:=by
 have hr:=ly n 1048576 io;obtain⟨K,hK⟩:∃K:Nat,fP n 1048576=(K:Int):=⟨(fP n 1048576).toNat,io⟩;have D:K<=1048576:=io
 have ae:O F0 w w [] []:=bZ [] us;refine w4.ok n w _ (ae.call (WS n 1048576 w io hn) ?_);rintro _ w1 rfl H;refine⟨_,rfl,H.wO (DD w1) ?_⟩;rintro _ G ⟨j,rfl,F,ao,Z⟩ _ F2;have H2:=F2.rd (.tree j) ao λb q=>Z b (aU.1 q);rw[hK];have T:=B2 K 6 io;have S:=H6 K 6 D;have Q:=H6 K 36 D;have Y:=B2 (K / 6) 6 io;have W:=B2 (K / 36) 6 io;have c6:((6:Nat):Int)=6:=rfl;have am:((36:Nat):Int)=36:=rfl;rw[c6]at T S Y W;rw[am]at Q;rw[T,S,Q,Y,W];obtain⟨z,ga,ra,xa⟩:=Dm j F (i:=K%6) (Nat.mod_lt _ io);obtain⟨tb,gb,rb,xb⟩:=Dm j F (i:=K / 6%6) (Nat.mod_lt _ io);obtain⟨tc,gc,rc,xc⟩:=Dm j F (i:=K / 36%6) (Nat.mod_lt _ io);have la:K%6<6:=Nat.mod_lt _ io;have lb:K / 6%6<6:=Nat.mod_lt _ io;have lc:K / 36%6<6:=Nat.mod_lt _ io;have C:∀t:J,(t=j\/∀w:I,t.P w/\∀b,¬b∈t.fp)->(∀x:I,j.P x->t.P x)/\∀b∈t.fp,w.heap.size<=b:=λt h=>by
  rcases h with rfl|h
  .exact ⟨λ_ h=>h,λb q=>bI H.fr.size (Z b q)⟩
  .exact ⟨λx _=>(h x).1,λb q=>((h w).2 b q).elim⟩
 refine⟨_,_,_,j.s,rfl,H2.fe (n:=6) (sz:=4) (cs:=(Jh j).flatMap J.c) rfl dl λw3 M=>?_⟩;refine⟨io,io,J.a4 (s:=⟨some (aa G.heap.size),6,6⟩) (M.get 0:aJ _ _ _ _ _).a9 ga λp hp c=>?_⟩;refine⟨_,_,_,_,c.c0,c.c1,c.c2,c.c3,M.nw λaA _ H4=>H4.k9 1 rfl λw8 N=>?_⟩;refine⟨io,io,J.a4 (s:=⟨some (aa G.heap.size),6,6⟩) (N.get 0:aJ _ _ _ _ _).a9 gb λp hp c=>?_⟩;refine⟨_,_,_,_,c.c0,c.c1,c.c2,c.c3,N.nw λw9 _ H9=>H9.k9 2 rfl λap L=>?_⟩;refine⟨io,io,J.a4 (s:=⟨some (aa G.heap.size),6,6⟩) (L.get 0:aJ _ _ _ _ _).a9 gc λp hp c=>?_⟩;refine⟨_,_,_,_,c.c0,c.c1,c.c2,c.c3,L.nw λax _ ag=>ag.k9 3 rfl λad y=>?_⟩;refine⟨_,_,_,z.s,y.ld 1 0,y.ld 1 1,y.ld 1 2,y.ld 1 3,y.fe (n:=1) (sz:=4) (cs:=[z].flatMap J.c) rfl dl λaq ai=>ai.nw λaz _ aj=>aj.k9 5 rfl λd e=>?_⟩;have A:=C z xa;have pb:=C tb xb;have pc:=C tc xc;have ps:(J.mk 7 0 0 ⟨some (aa ad.heap.size),1,1⟩ [z]).P d:=by unfold J.P;exact⟨(e.get 4:aJ _ _ _ _ _).a9,J.jL (by simp;exact A.1 d (e.getD 0))⟩
 have ac:af w d:=e.fr;refine Mi Uo (by kernel_rfl) (JT d w.heap.size (K:Int) (e6 (K%6)) (e6 (K / 6%6)) (e6 (K / 36%6)) (.mk 7 0 0 [e6 (K%6)])) ?_ (ac5 ac.size) ?_
 .refine ⟨Fr.drew _ _,rfl,?_,?_,?_,?_,λi sp hs E=>by cases E⟩
  .exact kA.cB (w:=d) ⟨w3.heap.size,z,rfl,e.ob 1,ra,A.1 d (e.getD 0),A.2⟩ (Fr.drew _ _)
  .exact kA.cB (w:=d) ⟨w8.heap.size,tb,rfl,e.ob 2,rb,pb.1 d (e.getD 0),pb.2⟩ (Fr.drew _ _)
  .exact kA.cB (w:=d) ⟨ap.heap.size,tc,rfl,e.ob 3,rc,pc.1 d (e.getD 0),pc.2⟩ (Fr.drew _ _)
  .refine kA.cB (w:=d) ⟨aq.heap.size,.mk 7 0 0 ⟨some (aa ad.heap.size),1,1⟩ [z],rfl,e.ob 5,?_,ps,GK (λb q=>?_) A.2⟩ (Fr.drew _ _)
   .rw [<-ra];rfl
   .simp only[aG,aF,aW,a2]at q;rw[q];exact y.fr.size
 .intro av ar x E B;obtain⟨s,ts,h1,h2,h3,_⟩:=B.all 40 _ rfl (E 40 dl);refine⟨s,(K:Int),h1,B.k,?_⟩;refine VP (aeB D h2 h3 (ac.gq B.fr)) λr aw h=>⟨⟨K,h.1⟩,h.2⟩
set_option maxHeartbeats 1000000
def u7{w:I}{s:Sl}{l:List Nd}(e:GP w s l):O F0 w w [] [.gr s l]:=bZ _ (by intro h d;simp only[aF,aW,a2]at d;subst d;exact bd.2 e)
abbrev jI(s:Sl)(l:List Int):En:=.row bF 1 s (l.map bX)
def lO{w:I}{s:Sl}{l:List Int}(d:aJ w bF 1 s (l.map bX)):bJ w s l:=d.Bs
def oW{w:I}{s:Sl}{l:List Int}(d:aJ w bF 1 s (l.map bX)):s.n=l.length:=by have:=d.len;simp at this;omega
def Dx{w:I}{s:Sl}{l:List Nd}(H:GP w s l)(t:aM)(n:Int)(hn:cE n)(Z:l.length<=eG):
  ah U Om #[s.v,dk t,.i n] w λr F=>(∃h:Int,r=ab (.i h)/\-1<=h/\h<(l.length:Int))/\af w F:=by
 have hs:=gz H;unfold eG at Z;have loop:∀(m i:Nat) (q:Sl) (ks:List Int) (e:Nat) (z:I),i+m=l.length->ks.length<=i->(∀E∈ks,0<=E/\E<(l.length:Int))->O F0 w z [.g e,jI q ks] [.gr s l]->
   sh.aX s n e t.k t.n t.x q (i:Int) z λr F=>(∃h:Int,r=ab (.i h)/\-1<=h/\h<(l.length:Int))/\af w F:=by
  intro m;induction m with
  |zero=>
   intro i q ks e z W Y D y;have hlen:=oW (y.get 1);refine sh.bR (aT (a7 io) (ax (λQ=>⟨⟨_,rfl,io,io⟩,y.fr⟩) (λQ=>y.av (jC n _ z io hn) ?_)));have hr:=ly n (q.n:Int) io;generalize fP n (q.n:Int)=h at hr;rintro _ G rfl A;obtain⟨j,rfl⟩:∃j:Nat,h=(j:Int):=⟨h.toNat,io⟩;have B:ks[j]? =some (ks[j]'io):=a0 io;have C:=D _ (ay B);exact⟨_,rfl,io,io,(lO (A.get 1)).cell B io λp J S=>⟨_,S,⟨⟨_,rfl,io,io⟩,A.fr⟩⟩⟩
  |succ m K=>
   intro i q ks e z W Y D y;have B:l[i]? =some (l[i]'io):=a0 io;generalize l[i]'io=d at B;have hlen:=oW (y.get 1);refine sh.bR (aR (a6 io) (eJ (bd.1 (y.getD 0)) rfl B λp J _=>y.ae λG A=>?_));have c:=xk (bd.1 (A.getD 0)) B J (rfl:((i:Int))=(i:Int));refine⟨_,_,_,c.s0,c.s1,c.s2,nt (a:=d.x.st) (b:=t) (λT=>?_) (λT=>?_)⟩
   .refine A.jo 1 pK rfl (λL M P=>?_) io;show sh.aX s n e t.k t.n t.x L (aE .i64 ((i:Int)+1)) M _;rw[bt _ io];refine K (i+1) L (ks++[(i:Int)]) e M io (by simp;omega) (λE C=>?_) (by rw[jI,fv];exact P);rcases aP.1 C with C|C
    .exact D E C
    .simp only[aF,aW,a2]at C;omega
   .show sh.aX s n e t.k t.n t.x q (aE .i64 ((i:Int)+1)) G _;rw[bt _ io];exact K (i+1) q ks e G io io D A
 exact sh.aq ((u7 H).aw λe z N=>loop l.length 0 ⟨none,0,0⟩ [] e z io us us (N.iH bF 1))
def Xw{w:I}{s:Sl}{l:List Nd}(K:GP w s l)(op:Int)(x:Nat)(ac n:Int)(F:x<l.length)(E:cE n):
  ah U OE #[s.v,.i op,.i (x:Int),.i ac,.i n] w λr G=>(∃t:aM,r=ab (dk t))/\af w G:=by
 have hs:=gz K;have N:l[x]? =some (l[x]'F):=a0 F;generalize l[x]'F=d at N;refine Ep.aq ((u7 K).aw λz w1 J=>eJ (bd.1 (J.getD 0)) rfl N λp hp c=>⟨_,_,_,c.s0,c.s1,c.s2,J.aw λC w2 y=>?_⟩);have ret:∀(a b c:Int) (e:I) (bs:List Nat),(∀b∈bs,En.g b∈[En.g z,.g C])->O F0 w e [.g z,.g C] [.gr s l]->loc bs e λP=>(∃t:aM,Ending.returned (.agg #[.i a,.i b,.i c])=ab (dk t))/\af w P:=λa b c e bs hb h=>h.ae (λP S=>⟨⟨⟨a,b,c⟩,rfl⟩,S.fr⟩) hb;have B:∀e,O F0 w e [.g z,.g C] [.gr s l]->Ep.aV n z 0 0 0 e λr G=>(∃t:aM,r=ab (dk t))/\af w G:=by intro e h;refine h.av (jC n 3 e io E) ?_;rintro _ q rfl k;refine⟨_,rfl,k.av (pA _ q) ?_⟩;rintro _ H rfl A;exact⟨_,_,_,rfl,ret _ _ _ H _ us A⟩
 refine ax (λT=>y.ae λe h=>h.av (jC n _ e io E) ?_) (λT=>ax (λW=>y.ae λe h=>h.av (jC n 3 e io E) ?_) (λW=>ax (λY=>y.ae λe h=>h.av (fD _ e) ?_) (λY=>ax (λZ=>ax (λh5=>y.ae λe h=>h.av (fD _ e) ?_) (λh5=>y.ae λe h=>h.av (Hf d.x.st e) ?_)) (λZ=>ax (λh6=>y.ae λe h=>h.av (fD _ e) ?_) (λh6=>ax (λL=>aR (beq_iff_eq.2 L) (y.ae λe h=>B e h)) (λL=>ax (λM=>aR (beq_iff_eq.2 M) (y.ae λe h=>B e h)) (λM=>ax (λh9=>y.ae λe h=>B e h) (λh9=>y.ae λe h=>ret _ _ _ e _ us h))))))))
 .have hr:=ly n (s.n:Int) io;generalize fP n (s.n:Int)=Q at hr;rintro _ q rfl k;obtain⟨j,rfl⟩:∃j:Nat,Q=(j:Int):=⟨Q.toNat,io⟩;have aa:l[j]? =some (l[j]'io):=a0 io;exact⟨_,rfl,eJ (bd.1 (k.getD 0)) rfl aa λad hq D=>⟨_,_,_,D.s0,D.s1,D.s2,ret _ _ _ q _ us k⟩⟩
 .rintro _ q rfl k;refine⟨_,rfl,k.av (fD _ q) ?_⟩;rintro _ H rfl A;exact⟨_,_,_,rfl,ret _ _ _ H _ us A⟩
 .rintro _ q rfl k;exact⟨_,_,_,rfl,ret _ _ _ q _ us k⟩
 .rintro _ q rfl k;exact⟨_,_,_,rfl,ret _ _ _ q _ us k⟩
 .rintro _ q rfl k;exact⟨_,_,_,rfl,ret _ _ _ q _ us k⟩
 .rintro _ q rfl k;exact⟨_,_,_,rfl,ret _ _ _ q _ us k⟩
abbrev Za(s:Sl):V:=.agg #[s.v]
def M8{w:I}{a b:En}(d:a.P w)(e:b.P w):O F0 w w [] [a,b]:=bZ _ (by grind)
def CX(w:I)(l:List Int)(r:Ending)(w':I):Prop:=∃s:Sl,r=ab s.v/\aJ w' bF 1 s (l.map bX)/\∀b∈aG s,w.heap.size<=b
def hP(g:List Nx)(i:Nat):Bool:=match g[i]? with |some d=>ak (d.op=0)|none=>false
def Is(g:List Nx):wc g=((List.range g.length).filter (hP g)).map λi:Nat=>(i:Int):=rfl
def YB(g:List Nx)(i:Nat):((List.range (i+1)).filter (hP g)).map (λi:Nat=>(i:Int))=((List.range i).filter (hP g)).map (λi:Nat=>(i:Int))++(if hP g i=true then[(i:Int)]else[]):=by
 rw[List.range_succ,List.filter_append,fv]
 grind
def WQ{w:I}{s:Sl}{l:List Nd}(y:GP w s l)(G:l.length<=eG):ah U PG #[Za s] w λr k=>CX w (wc (xs l)) r k/\af w k:=by
 have M:=gz y;have J:(xs l).length=l.length:=by grind
 unfold eG at G;have loop:∀(m i e:Nat) (sl:Sl) (j:I),i+m=l.length->O F0 w j [.g e,jI sl (((List.range i).filter (hP (xs l))).map λi:Nat=>(i:Int))] [.gr s l]->tC.aX e s sl (s.n:Int) (i:Int) j λr k=>CX w (wc (xs l)) r k/\af w k:=by
  intro m;induction m with
  |zero=>
   intro i e sl j q h;have q:i=l.length:=io
   subst q;refine tC.bR (aT (a7 io) ⟨⟨sl,rfl,?_,λb F=>(h.new _ (ay (i:=1) rfl) b F).resolve_right id⟩,h.fr⟩);rw[Is,J];exact h.get 1
  |succ m K=>
   intro i e sl j q h;have z:l[i]? =some (l[i]'io):=a0 io;generalize l[i]'io=d at z;have P:hP (xs l) i=ak (d.x.op=0):=by unfold hP;grind
   have H:=YB (xs l) i;have hlen:=oW (h.get 1);have L:((List.range i).filter (hP (xs l))).length<=i:=by grind
   rw[vC]at hlen;refine tC.bR (aR (a6 io) (eJ (bd.1 (h.getD 0)) rfl z λp N c=>⟨_,c.c0,ax (λE=>?_) (λE=>?_)⟩))
   .refine h.jo 1 pK rfl (λA B D=>?_) io;show tC.aX e s A (s.n:Int) (aE .i64 ((i:Int)+1)) B _;rw[bt _ io];refine K (i+1) e A B io ?_;rw[H,ag (by grind),jI,fv];exact D
   .show tC.aX e s sl (s.n:Int) (aE .i64 ((i:Int)+1)) j _;rw[bt _ io]
    grind
 exact tC.aq ((u7 y).aw λe j C=>loop l.length 0 e ⟨none,0,0⟩ j io (C.iH bF 1))
def adb{P:au}{t ty e:aD}{M:V}{sz bytes:Nat}(h:gg P t e M sz bytes){w:I}(g d B:Nat)(cur:Array V)(T:aD){src:Sl}{cs:List V}(j:w.heap[g]? =some (.cells cur T (0,0)))(H:bA sz w src cs)(x:src.n<=d)(S:cs.length<=cur.size)(D:∀v∈cs,v.oneCell'=true):
  (Builtin.copy_ #[t,t] ty #[.slice (some ⟨g,0,none⟩) d B,src.v]).run P w=.ok (.int .i64 (src.n:Int)) (w.setRow g (cs++cur.toList.drop cs.length).toArray):=by
 obtain⟨L,A,sc⟩:=src;obtain⟨inf,k,Y,K,O⟩:=info_parts h.hi;simp only at x;obtain⟨hlen,Q,y,F⟩:=H;simp only at hlen y F;have G:Nat.min A d=A:=Nat.min_eq_left x;have z:=run_storeCells_at (P:=P) g 0 T cs 0 cur w j io D;cases L with
 |none=>
  obtain⟨C,N⟩:=y rfl;subst C;have E:cs=[]:=Hc io;subst E;have J:w.setRow g (([]:List V)++cur.toList.drop 0).toArray=w:=by rw[List.nil_append,List.drop_zero,Array.toArray_toList];exact setRow_self w g cur T (0,0) j
  rw[List.length_nil,J];simp[Builtin.copy_,run_underlying h.ht,Builtin.lenOf,Builtin.firstCells,sizeOf,typeInfo,k,storeCells,goInt]
 |some a=>
  have q:=run_loadCells_list (P:=P) w a cs (λZ v W=>by grind)
  rw[hlen]at q;simp only[Nat.zero_add,List.take_zero,List.nil_append]at z;simp[Builtin.copy_,run_underlying h.ht,Builtin.lenOf,Builtin.firstCells,sizeOf,typeInfo,k,K,G,q,z,goInt]
def XX{P:au}{t ty e:aD}{J:V}{sz bytes:Nat}(D:gg P t e J sz bytes){w:I}{s src:Sl}{vs cs:List V}(A:aJ w e sz s vs)(M:s.a≠none)(C:bA sz w src cs)(k:src.n<=s.n)(F:∀v∈cs,v.oneCell'=true):
  ∃x,(Builtin.copy_ #[t,t] ty #[s.v,src.v]).run P w=.ok (.int .i64 (src.n:Int)) x/\aJ x e sz s (cs++vs.drop cs.length)/\Fr (·∈aG s) w x:=by
 have H:=A.len;have N:=C.1;rcases A.cases with⟨rfl,rfl⟩|⟨g,cur,B,j,h,y,E,z⟩
 .grind
 .obtain ⟨O,d,q⟩:=s;simp only at B k H h y E z;subst B;have K:src.n *sz<=d *sz:=ll _ k;have L:d *sz<=q *sz:=ll _ h;have G:cs.length<=cur.size:=io
  refine⟨_,adb D g d q cur e j C k G F,?_,?_⟩
  .refine ⟨?_,.inr ⟨g,q,(cs++cur.toList.drop cs.length).toArray,rfl,dg _,setRow_heap w g cur _ e _ j,h,y,?_,?_⟩⟩
   .grind
   .grind
   .rw [List.take_append,fW (by omega:cs.length<=d *sz),List.take_drop,<-z,List.drop_take];congr 2;rw[show cs.length+(d *sz - cs.length)=d *sz by omega,List.drop_take]
  .rw [Tw j];exact(Fr.put w g _).mono λQ _ e=>by simp[aG,e]
section
variable {M:Nat->Prop} {w0 w:I} {L D:List En} {bs:List Nat}
def _root_.Go.W.O.XY(H:O M w0 w L D)(i:Nat){P:au}{t ty e:aD}{G:V}{sz bytes:Nat}(q:gg P t e G sz bytes){s src:Sl}{vs cs:List V}{K:Int->I->Prop}(hi:L[i]? =some (.row e sz s vs))(z:s.a≠none)(C:bA sz w src cs)(B:src.n<=s.n)(x:∀v∈cs,v.oneCell'=true)(y:∀w',O M w0 w' (L.set i (.row e sz s (cs++vs.drop cs.length))) D->K (src.n:Int) w')(h:∀b∈bs,En.g b∈L:=by simp):
  ∃(k:Int) (w':I),(Builtin.copy_ #[t,t] ty #[s.v,src.v]).run P w=.ok (.i k) w'/\kept bs w w'/\K k w':=by obtain⟨w',E,F,j⟩:=XX (ty:=ty) q (H.get i hi) z C B x;exact⟨_,w',E,λb d=>j.cv b (H.own _ (h b d)) λA=>H.Ac hi (h b d) A,y w' (H.fy i (.row e sz s (cs++vs.drop cs.length)) hi j F (λb d=>.inl d))⟩
end
def adn{w:I}{s t:Sl}{a b:List Int}(A:bJ w s a)(B:bJ w t b)(K:a.length<=1000000000000):ah U Pu #[s.v,t.v] w λr k=>r=ab (.bool (ak (a=b)))/\af w k:=by
 have M:=bJ.len A;have L:=bJ.len B;refine yx.ok (cq (λG=>⟨by rw[a7];grind,Fr.refl _ _⟩) (λH=>?_));have loop:∀(m i:Nat) (e:I),i+m=a.length->(a=b↔a.drop i=b.drop i)->O F0 w e [] [.rd s (a.map bX),.rd t (b.map bX)]->yx.L0 s t (s.n:Int) (i:Int) e λr k=>r=ab (.bool (ak (a=b)))/\af w k:=by
  intro m;induction m with
  |zero=>
   intro i e F d h;rw[dH io,dH io]at d;exact yx.cH (aT (a7 io) ⟨by grind,h.fr⟩)
  |succ m Q=>
   intro i e F d h;have q:a[i]? =some (a[i]'io):=a0 io;have z:b[i]? =some (b[i]'io):=a0 io;rw[dG (by omega:i<a.length),dG (by omega:i<b.length),List.cons.injEq]at d;generalize a[i]'io=x at q d;generalize b[i]'io=y at z d;refine yx.cH (aR (a6 io) (h.dr λC j=>⟨io,io,(show bJ C s a from j.getD 0).cell q io λp N D=>⟨x,D,io,io,(show bJ C t b from j.getD 1).cell z io λS P E=>⟨y,E,cq (λG=>⟨?_,j.fr⟩) (λJ=>?_)⟩⟩⟩))
   .grind
   .rw [bt _ io]
    grind
 exact loop a.length 0 w io us (M8 (a:=.rd s (a.map bX)) (b:=.rd t (b.map bX)) A B)
def adm{w:I}{s:Sl}{l:List Int}(e:bJ w s l)(E:l.length<=1000000000000):ah U Po #[s.v] w λr x=>CX w l r x/\af w x:=by
 have F:=bJ.len e;refine TI.ok (bm (λk=>⟨⟨⟨none,0,0⟩,rfl,?_,λb h=>by cases h⟩,Fr.refl _ _⟩) (λk=>?_))
 .have z:s.a=none:=by simpa using k
  have:=(e.2.2.1 z).1;obtain rfl:l=[]:=Hc io;exact aJ.nil w bF 1
 .have y:O F0 w w [] [.rd s (l.map bX)]:=bZ _ (by intro D q;simp only[aF,aW,a2]at q;subst q;exact e)
  refine y.fe (n:=0) (sz:=1) (cs:=[]) rfl dl λC j=>?_;have A:bJ C s l:=j.getD 0;refine j.ap 0 pK (s:=⟨some (aa w.heap.size),0,0⟩) (src:=s) rfl A.2.2 (by grind) (Zt _) (by grind) (λB G d _ _=>⟨⟨B,rfl,d.get 0,λb h=>(d.new _ (ay (i:=0) rfl) b h).resolve_right id⟩,d.fr⟩)
def Y9{w:I}{s:Sl}{l:List Nd}(e:GP w s l){i:Nat}{d:Nd}(hi:l[i]? =some d){K:Addr->Prop}{X:Int}(h:X=(i:Int))(k:∀p,s.a=some p->dK w (p.add (aY X *9)) d->K p):ow s X K:=by have y:=gz e;have x:=(cP.1 hi).1;subst h;exact⟨io,io,gb.elem (f:=Nd.c) (sz:=9) Nd.qP io e.1.2.2 hi λp q j=>k p q j⟩
def aes{w:I}{p q:Addr}{a b:Nd}(ha:dK w p a)(hb:dK w q b)(ka:a.P w)(kb:b.P w)(hl:a.x.kids.length<=1000000000):ah U P6 #[.pointer (some p),.pointer (some q)] w λr w'=>r=ab (.bool (ak (a.x=b.x)))/\af w w':=by
 have A:O F0 w w [] [.gU p a,.gU q b,bE a,bE b]:=bZ _ (by
  intro ac W;simp only[aF,aW,a2]at W;rcases W with rfl|rfl|rfl|rfl
  .exact ha
  .exact hb
  .exact ka
  .exact kb)
 have e:∀{B:I} {L:List En},O F0 w B L [.gU p a,.gU q b,bE a,bE b]->dK B p a:=λA=>A.getD 0;have h:∀{B:I} {L:List En},O F0 w B L [.gU p a,.gU q b,bE a,bE b]->dK B q b:=λA=>A.getD 1;obtain⟨⟨op,Y,n,m,u,N,st⟩,sl⟩:=a;obtain⟨⟨M,Z,K,J,S,Q,z⟩,aa⟩:=b;have no:∀{T:I},af w T->(⟨op,Y,n,m,u,N,st⟩:Nx)≠⟨M,Z,K,J,S,Q,z⟩->(Ending.returned (.bool false)=ab (.bool (ak ((⟨op,Y,n,m,u,N,st⟩:Nx)=⟨M,Z,K,J,S,Q,z⟩)))/\af w T):=λf j=>⟨by grind,f⟩;refine UH.ok (A.dr λT d=>⟨op,(e d).c0,M,(h d).c0,ax (λD=>?_) (λD=>no d.fr (λj=>D (congrArg Nx.op j)))⟩);refine⟨n,(e d).c2,K,(h d).c2,ax (λE=>?_) (λE=>no d.fr (λj=>E (congrArg Nx.n j)))⟩;refine⟨m,(e d).c3,J,(h d).c3,ax (λF=>?_) (λF=>no d.fr (λj=>F (congrArg Nx.m j)))⟩;refine⟨u,(e d).c4,S,(h d).c4,ax (λG=>?_) (λG=>no d.fr (λj=>G (congrArg Nx.u j)))⟩;refine⟨st.k,st.n,st.x,(e d).s0,(e d).s1,(e d).s2,z.k,z.n,z.x,(h d).s0,(h d).s1,(h d).s2,nt (a:=st) (b:=z) (λH=>?_) (λH=>no d.fr (λj=>H (congrArg Nx.st j)))⟩;refine⟨sl,(e d).c1,aa,(h d).c1,d.call (adn (d.getD 2) (d.getD 3) io) ?_⟩;rintro _ w2 rfl y;refine⟨_,rfl,(h y).c3,(e y).c3,(h y).c2,(e y).c2,(h y).c0,(e y).c0,aS (λC=>⟨N,(e y).c5,Q,(h y).c5,?_,y.fr⟩) (λC=>no y.fr (λj=>C (congrArg Nx.kids j)))⟩;rw[yQ];simp only at C;subst D E F G H C;simp
def aet{w:I}{s:Sl}{l:List Nd}{p:Addr}{d:Nd}(D:GP w s l)(K:dK w p d)(hd:d.P w)(M:l.length<=1000000000)(H:∀C∈l,C.x.kids.length<=1000000000):
  ah U P7 #[.agg #[s.v],.pointer (some p)] w λr A=>r=ab (.i (Bd (eo d.x (xs l) 0)))/\af w A:=by
 have N:=gz D;have E:O F0 w w [] [.gr s l,.gU p d,bE d]:=bZ _ (by
  intro C e;simp only[aF,aW,a2]at e;rcases e with rfl|rfl|rfl
  .exact bd.2 D
  .exact K
  .exact hd)
 have loop:∀(m i:Nat) (k:Nat) (j:I),i+m=l.length->eo d.x ((xs l).drop i) i=eo d.x (xs l) 0->O F0 w j [.g k] [.gr s l,.gU p d,bE d]->yK.aX p k s (s.n:Int) (i:Int) j λr A=>r=ab (.i (Bd (eo d.x (xs l) 0)))/\af w A:=by
  intro m;induction m with
  |zero=>
   intro i k j J e h;rw[dH (by grind)]at e;exact yK.bR (aT (a7 io) ⟨by rw[<-e];rfl,h.fr⟩)
  |succ m S=>
   intro i k j J e h;have q:l[i]? =some (l[i]'io):=a0 io;have L:(xs l).drop i=(l[i]'io).x::(xs l).drop (i+1):=by
    rw[dG (by grind:i<(xs l).length)]
    grind
   rw[L]at e;generalize l[i]'io=a at q e;have B:GP j s l:=bd.1 (h.getD 0);refine yK.bR (aR (a6 io) (Y9 B q rfl λT Q G=>h.av (aes G (h.getD 1) (B.2 a (ay q)) (h.getD 2) (H a (ay q))) ?_));rintro _ W rfl F;have y:(if a.x=d.x then some i else eo d.x ((xs l).drop (i+1)) (i+1))=eo d.x (xs l) 0:=e;refine⟨_,rfl,aS (λz=>⟨?_,F.fr⟩) (λz=>?_)⟩
   .rw [ag z]at y;rw[<-y];rfl
   .rw [ad z]at y;rw[bt _ io]
    grind
 exact yK.aq (E.aw λk j h=>loop l.length 0 k j io us h)
section
variable {M:Nat->Prop} {w0 w:I} {L D:List En} {bs:List Nat}
def adu{A d:List V}{k j:Nat}{v:V}(e:A.length=k):(A++d).set (k+j) v=A++d.set j v:=by grind
def _root_.Go.W.O.acW(H:O M w0 w L D)(i k:Nat){s:Sl}{A y:List V}{p:Addr}{e:Nd}{K:I->Prop}(hi:L[i]? =some (.row bP 9 s (A++y)))(hp:s.a=some p)(hA:A.length=k *9)(hZ:y.length=9)(hK:∀w',O M w0 w' (L.set i (.row bP 9 s (A++e.c))) D->K w')(ae:∀b∈bs,En.g b∈L:=by simp):
  aL w (p.add (k *9)) (.i e.x.op) λd=>kept bs w d/\aL d ((p.add (k *9)).add 1) e.ks.v λz=>kept bs d z/\aL z ((p.add (k *9)).add 2) (.i e.x.n) λB=>kept bs z B/\aL B ((p.add (k *9)).add 3) (.i e.x.m) λC=>kept bs B C/\aL C ((p.add (k *9)).add 4) (.u e.x.u) λE=>kept bs C E/\
   aL E ((p.add (k *9)).add 5) (.string e.x.tx) λF=>kept bs E F/\aL F ((p.add (k *9)).add 6) (.i e.x.st.k) λG=>kept bs F G/\aL G ((p.add (k *9)).add 7) (.i e.x.st.n) λJ=>kept bs G J/\aL J ((p.add (k *9)).add 8) (.i e.x.st.x) λQ=>kept bs J Q/\K Q:=by
 have ag:=(cP.1 hi).1;have ai:∀{vs:List V} {b:Nat},En.g b∈L->En.g b∈L.set i (.row bP 9 s vs):=by
  intro vs b hb;obtain⟨ac,hj⟩:=List.mem_iff_getElem?.1 hb;by_cases af:i=ac
  .subst af;rw[hi]at hj;have e1:En.row bP 9 s (A++y)=En.g b:=Option.some.inj hj;exfalso;have e2:(En.row bP 9 s (A++y)).P=(En.g b).P:=by rw[e1]
   have f1:(En.row bP 9 s (A++y)).fp=(En.g b).fp:=by rw[e1]
   have aa:(En.g b).P ({w with heap:=Array.replicate (b+1) (.map #[] 0)}):=by show b<_;simp
   rw[<-e2]at aa;have hx:b∈aG s:=by show b∈(En.row bP 9 s (A++y)).fp;rw[f1];simp[En.g]
   obtain⟨cs,f,hc⟩:=(aJ.row (show aJ ({w with heap:=Array.replicate (b+1) (.map #[] 0)}) bP 9 s (A++y)from aa)).tF b hx
   grind
  .exact ay (i:=ac) (by grind)
 match y,hZ with
 |[z0,z1,Z,T,z4,S,N,q,h],_=>
  have len:∀{vs:List V},vs.length=9->∀c,c<9->k *9+c<(A++vs).length:=λam c hc=>by grind
  have j:∀{w':I} {L':List En} {vs:List V} (c:Nat) (v:V) {K':I->Prop},L'=L.set i (.row bP 9 s (A++vs))->vs.length=9->c<9->O M w0 w' L' D->(∀Y,O M w0 Y (L.set i (.row bP 9 s (A++vs.set c v))) D->K' Y)->aL w' ((p.add (k *9)).add c) v λd=>kept bs w' d/\K' d:=by rintro w' _ vs c v K' rfl aj hc H' hk;refine H'.vV (bs:=bs) i (k *9) c (by rw[List.getElem?_set_self ag]) hp (len aj c hc) (λY ad=>hk Y ?_) (λb hb=>ai (ae b hb));rw[List.set_set,adu hA]at ad;omega
  have e0:L=L.set i (.row bP 9 s (A++[z0,z1,Z,T,z4,S,N,q,h])):=by
   apply List.ext_getElem?
   grind
  have first:=j (w':=w) (vs:=[z0,z1,Z,T,z4,S,N,q,h]) 0 (.i e.x.op) (K':=λd=>aL d ((p.add (k *9)).add 1) e.ks.v λz=>kept bs d z/\aL z ((p.add (k *9)).add 2) (.i e.x.n) λB=>kept bs z B/\aL B ((p.add (k *9)).add 3) (.i e.x.m) λC=>kept bs B C/\aL C ((p.add (k *9)).add 4) (.u e.x.u) λE=>kept bs C E/\
   aL E ((p.add (k *9)).add 5) (.string e.x.tx) λF=>kept bs E F/\aL F ((p.add (k *9)).add 6) (.i e.x.st.k) λG=>kept bs F G/\aL G ((p.add (k *9)).add 7) (.i e.x.st.n) λJ=>kept bs G J/\aL J ((p.add (k *9)).add 8) (.i e.x.st.x) λQ=>kept bs J Q/\K Q) e0 rfl dl H (λd H1=>?_)
  .rw [iV]at first
   omega
  refine j (vs:=[.i e.x.op,z1,Z,T,z4,S,N,q,h]) 1 e.ks.v rfl rfl dl H1 λz H2=>?_;refine j (vs:=[.i e.x.op,e.ks.v,Z,T,z4,S,N,q,h]) 2 (.i e.x.n) rfl rfl dl H2 λB H3=>?_;refine j (vs:=[.i e.x.op,e.ks.v,.i e.x.n,T,z4,S,N,q,h]) 3 (.i e.x.m) rfl rfl dl H3 λC H4=>?_;refine j (vs:=[.i e.x.op,e.ks.v,.i e.x.n,.i e.x.m,z4,S,N,q,h]) 4 (.u e.x.u) rfl rfl dl H4 λE H5=>?_;refine j (vs:=[.i e.x.op,e.ks.v,.i e.x.n,.i e.x.m,.u e.x.u,S,N,q,h]) 5 (.string e.x.tx) rfl rfl dl H5 λF H6=>?_;refine j (vs:=[.i e.x.op,e.ks.v,.i e.x.n,.i e.x.m,.u e.x.u,.string e.x.tx,N,q,h]) 6 (.i e.x.st.k) rfl rfl dl H6 λG H7=>?_;refine j (vs:=[.i e.x.op,e.ks.v,.i e.x.n,.i e.x.m,.u e.x.u,.string e.x.tx,.i e.x.st.k,q,h]) 7 (.i e.x.st.n) rfl rfl dl H7 λJ H8=>?_;refine j (vs:=[.i e.x.op,e.ks.v,.i e.x.n,.i e.x.m,.u e.x.u,.string e.x.tx,.i e.x.st.k,.i e.x.st.n,h]) 8 (.i e.x.st.x) rfl rfl dl H8 λQ H9=>?_;exact hK Q H9
end
def aaI(n:Nat):(madeCells (Value.agg #[.int .i64 0,.slice none 0 0,.int .i64 0,.int .i64 0,.int .u64 0,.string (bh #[]),.int .i64 0,.int .i64 0,.int .i64 0]).cells (n *9)).toList.length=n *9:=by simp[madeCells]
def Uj{w:I}{s:Sl}{l:List Nd}{d:Nd}(ai:GP w s l)(hd:d.P w)(hk:cJ.P w)(ho:kz d.x)(am:l.length<=1000000000)(hv:∀z∈xs l,bx z.st=true)(aB:∀z∈l,z.x.kids.length<=1000000000):
  ah U PC #[.agg #[s.v],d.v] w λr w'=>(∃s':Sl,r=ab (.tuple #[.agg #[s'.v],.i (a3 (xs l) d.x).2.1,.i (a3 (xs l) d.x).2.2])/\GR w (·∈(En.gr s l).fp) (a3 (xs l) d.x).1 s' w')/\af w w':=by
 have hn:=gz ai;have aH:(xs l).length=l.length:=by grind
 have ap:O F0 w w [] [.gr s l,bE d,cJ]:=bZ _ (by
  intro z M;simp only[aF,aW,a2]at M;rcases M with rfl|rfl|rfl
  .exact bd.2 ai
  .exact hd
  omega)
 refine Ur.aq (ap.aw λH N H1=>H1.nw λw2 _ H2=>H2.aw λJ w3 h=>?_);have h:O F0 w w3 [.g H,.c N.heap.size d.c bP,.g J] [.gr s l,bE d,cJ]:=h;refine⟨d.x.op,d.ks,d.x.n,d.x.m,d.x.u,d.x.tx,d.x.st.k,d.x.st.n,d.x.st.x,h.ld 1 0,h.ld 1 1,h.ld 1 2,h.ld 1 3,h.ld 1 4,h.ld 1 5,h.ld 1 6,h.ld 1 7,h.ld 1 8,?_⟩;refine h.av (aeg (bd.1 (h.getD 0)) (h.getD 1) (h.getD 2) ho am hv) ?_;rintro _ w4 rfl H4;refine⟨_,_,_,_,rfl,H4.aw λL w5 W=>cq (λaj=>W.ae λw6 S=>⟨⟨⟨none,0,0⟩,?_,?_⟩,S.fr⟩) (λaj=>W.ae λw6 S=>?_)⟩
 .unfold a3;grind
 .unfold a3;rw[ag aj];exact GR.nil _ _ _
 have B:a3 (xs l) d.x=match eo (dc d.x (bo (xs l) d.x).1) (xs l) 0 with
   |some i=>(xs l,(i:Int),0)
   |none=>if 4096<=(xs l).length then([],0,4)else(xs l++[dc d.x (bo (xs l) d.x).1],((xs l).length:Int),0):=by unfold a3;grind
 generalize(bo (xs l) d.x).1=sr at *;refine S.h0 1 6 rfl (λw7 H7=>H7.qp 1 6 1 rfl (λw8 H8=>H8.qp 1 6 2 rfl (λw9 F=>?_) (by simp[Nd.c])) (by simp[Nd.c])) (by simp[Nd.c])
 let z:Nd:=⟨dc d.x sr,d.ks⟩
 have F:O F0 w w9 [.g H,.c N.heap.size z.c bP,.g J,.g L] [.gr s l,bE d,cJ]:=F;refine F.av (aet (d:=z) (bd.1 (F.getD 0)) (xQ (F.ob 1)) (F.getD 1) am aB) ?_;rintro _ aI rfl D;refine⟨_,rfl,?_⟩;have M:z.x=dc d.x sr:=rfl;rw[M];cases hi:eo (dc d.x sr) (xs l) 0 with
 |some i=>
  rw[hi]at B;rw[B];exact aR (a6 (Int.natCast_nonneg i)) (D.ae λan E=>⟨⟨s,rfl,⟨l,rfl,bd.1 (E.getD 0),λb y=>.inl y⟩⟩,E.fr⟩)
 |none=>
  rw[hi]at B;dsimp only at B;refine aT dl (aS (λh4=>D.ae λan E=>⟨⟨⟨none,0,0⟩,?_,?_⟩,E.fr⟩) (λh4=>?_))
  .grind
  .rw [B,ag io];exact GR.nil _ _ _
  rw[ad io]at B;rw[B];refine⟨d.ks,D.ld 1 1,D.g5 (adm (show bJ aI d.ks d.x.kids from D.getD 1) (by have:=ho.kl;omega)) ?_⟩;rintro _ an ⟨Y,rfl,aA,ac⟩ _ ao;have E:=ao.rd (.rd Y (d.x.kids.map bX)) (lO aA) (rn ac);refine⟨_,rfl,E.h0 1 1 rfl (λC K=>?_) (by simp[Nd.c])⟩
  let A:Nd:=⟨dc d.x sr,Y⟩
  have K:O F0 w C [.g H,.c N.heap.size A.c bP,.g J,.g L] [.gr s l,bE d,cJ,bE A]:=K;have e1:aE .i64 ((s.n:Int)+1)=((l.length+1:Nat):Int):=by rw[bH _ io,hn];rfl
  rw[e1];obtain⟨T,r1,r2,r3⟩:=FC nY C (l.length+1) io;have Q:=K.G' r3 r2 (by intro b y;simp[aG]at y;omega);have kp:∀b∈[H,J,L],T.heap[b]? =C.heap[b]?:=λb y=>by
   have hg:En.g b∈[En.g H,.c N.heap.size A.c bP,.g J,.g L]:=by grind
   exact r3.cv b (K.own _ hg) id
  refine⟨⟨some (aa C.heap.size),l.length+1,l.length+1⟩,T,r1,kp,?_⟩;generalize az:(madeCells (Value.agg #[.int .i64 0,.slice none 0 0,.int .i64 0,.int .i64 0,.int .u64 0,.string (bh #[]),.int .i64 0,.int .i64 0,.int .i64 0]).cells ((l.length+1) *9)).toList=GH at Q;have hold:GH.length=(l.length+1) *9:=by rw[<-az];exact aaI _
  have aC:=Nd.hU l;refine Q.XY 4 nY rfl us (show bA 9 T s (l.flatMap Nd.c)from(bd.1 (Q.getD 0)).1) (by grind) q' (λaL q=>?_);have hz:(GH.drop (l.flatMap Nd.c).length).length=9:=by grind
  generalize GH.drop (l.flatMap Nd.c).length=Z at hz q;refine⟨_,_,_,_,_,_,_,_,_,q.ld 1 0,q.ld 1 1,q.ld 1 2,q.ld 1 3,q.ld 1 4,q.ld 1 5,q.ld 1 6,q.ld 1 7,q.ld 1 8,io,by grind,xY ?_⟩;rw[hn,cb];refine q.acW (e:=A) 4 l.length rfl rfl aC hz (λaM ar=>?_);refine ar.ae λaK G=>⟨⟨_,by rw[aH],⟨l++[A],by grind,⟨?_,λa j=>?_⟩,λb y=>?_⟩⟩,G.fr⟩
  .have:aJ aK bP 9 ⟨some (aa C.heap.size),l.length+1,l.length+1⟩ (l.flatMap Nd.c++A.c):=G.get 4;have:=this.a9
   grind
  .rcases aP.1 j with j|j
   .exact (bd.1 (G.getD 0)).2 a j
   .simp only[aF,aW,a2]at j;subst j;exact G.getD 3
  .rcases n0.1 y with y|⟨a,j,y⟩
   .right;have ax:b∈(En.row bP 9 ⟨some (aa C.heap.size),l.length+1,l.length+1⟩ (l.flatMap Nd.c++A.c)).fp:=by
     have:b∈(if(l++[A]).flatMap Nd.c=[]then[]else aG ⟨some (aa C.heap.size),l.length+1,l.length+1⟩):=y;split at this
     .grind
     .exact this
    exact(G.new _ (ay (i:=4) rfl) b ax).resolve_right id
   .rcases aP.1 j with j|j
    .exact .inl (n0.2 (.inr ⟨a,j,y⟩))
    .simp only[aF,aW,a2]at j;subst j;exact .inr (bI D.fr.size (rn ac b y))
def dL(es:Array MapEntry)(ms:List (ByteArray×V)):Prop:=es.toList.map (λd=>(d.key,d.val))=ms.map λp=>(Value.string p.1,p.2)
def hg(ms:List (ByteArray×V))(k:ByteArray):Option V:=(ms.find? λp=>ak (p.1=k)).map (·.2)
def Wm(a b:ByteArray):(a==b)=ak (b=a):=by
 cases d:ak (b=a)with
 |true=>rw[fk d];exact(Go.MapKept.bytes_beq _ _).2 rfl
 |false=>
  cases e:(a==b)with
  |false=>rfl
  |true=>exact absurd ((Go.MapKept.bytes_beq _ _).1 e).symm (l5 d)
def xg{k:ByteArray}:∀{es:List MapEntry} {ms:List (ByteArray×V)} {i:Nat},es.map (λh=>(h.key,h.val))=ms.map (λp=>(Value.string p.1,p.2))->
  Instr.findNow .string (.string k) es i=some ((ms.findIdx? λp=>ak (p.1=k)).bind λe=>(ms[e]?).map λp=>(i+e,p.2))
 |[],[],i,_=>rfl
 |[],_::_,_,d=>by simp at d
 |_::_,[],_,d=>by simp at d
 |h::es,p::ms,i,d=>by
  simp only[List.map_cons,List.cons.injEq,Prod.mk.injEq]at d;obtain⟨⟨w,x⟩,y⟩:=d;have z:=xg (k:=k) (i:=i+1) y;unfold Instr.findNow;simp only[w,Instr.sameNow,Wm];by_cases j:p.1=k
  .have q:ak (p.1=k)=true:=a6 j;simp[List.findIdx?_cons,j,x]
  .have q:ak (p.1=k)=false:=a7 j;simp only[z,List.findIdx?_cons,q,Bool.false_eq_true,if_false];congr 1;cases A:ms.findIdx? (λp=>ak (p.1=k))with
   |none=>simp
   |some e=>simp[Nat.add_assoc,Nat.add_comm 1 e]
def HL{ms:List (ByteArray×V)}{k:ByteArray}{i:Nat}:(((ms.findIdx? λp=>ak (p.1=k)).bind λd=>(ms[d]?).map λp=>(i+d,p.2)).map (·.2))=hg ms k:=by
 unfold hg;induction ms generalizing i with
 |nil=>rfl
 |cons p ms j=>
  by_cases e:p.1=k
  .simp [List.findIdx?_cons,e]
  .have h:ak (p.1=k)=false:=a7 e;simp only[List.findIdx?_cons,h,Bool.false_eq_true,if_false,List.find?_cons];rw[<-j (i:=i+1)];cases q:ms.findIdx? (λp=>ak (p.1=k))with
   |none=>simp
   |some d=>simp[Function.comp_def]
structure nP(P:au)(T kt et:aD)(z:V):Prop where
 hT:P.underlying T=some (.map kt et)
 hk:P.underlying kt=some .string
 hz:(P.info? et).map (·.zero)=some (some z)
def zO{P:au}{kt:aD}(d:P.underlying kt=some .string)(b:Bool)(k:ByteArray)(w:I):(Instr.checkKey b 10000 kt (.string k)).run P w=.ok () w:=by unfold Instr.checkKey;simp[run_underlying d]
def sI{P:au}{T kt y:aD}{x:V}(e:nP P T kt y x){w:I}{h:Nat}{es:Array MapEntry}{clock:Nat}{ms:List (ByteArray×V)}(B:w.heap[h]? =some (.map es clock))(C:dL es ms)(k:ByteArray):
  (Instr.lookup T (.map (some h)) (.string k) true).run P w=.ok (.tuple #[(hg ms k).getD x,.bool (hg ms k).isSome]) w:=by
 have z:=xg (k:=k) (i:=0) C;have A:(getObj h).run P w=.ok (.map es clock) w:=by simp[getObj,pe,B]
 have d:=HL (ms:=ms) (k:=k) (i:=0);unfold Instr.lookup Instr.findKey;simp only[Sem.run_bind,run_underlying e.hT,Result.andThen_ok,A,Sem.run_pure,zO e.hk,run_underlying e.hk,z];cases j:((ms.findIdx? λp=>ak (p.1=k)).bind λq=>(ms[q]?).map λp=>(0+q,p.2))with
 |none=>rw[j]at d;simp[<-d,CB e.hz]
 |some D=>rw[j]at d;simp[<-d]
def rD{P:au}{T kt A:aD}{G:V}(q:nP P T kt A G){w:I}{d:Nat}{es:Array MapEntry}{clock:Nat}{ms:List (ByteArray×V)}(h:w.heap[d]? =some (.map es clock))(j:dL es ms)(k:ByteArray)(v:V)(E:hg ms k=none):
  ∃e x,(Instr.mapUpdate T (.map (some d)) (.string k) v).run P w=.ok () e/\e.heap[d]? =some (.map x (clock+1))/\dL x (ms++[(k,v)])/\Fr (λb=>b=d) w e/\e.heap.size=w.heap.size:=by
 have B:=xg (k:=k) (i:=0) j;have C:(getObj d).run P w=.ok (.map es clock) w:=by simp[getObj,pe,h]
 have y:=HL (ms:=ms) (k:=k) (i:=0);have D:=pW h;have F:((ms.findIdx? λp=>ak (p.1=k)).bind λz=>(ms[z]?).map λp=>(0+z,p.2))=none:=by rw[E]at y;simpa using y
 refine⟨{w with heap:=w.heap.setIfInBounds d (.map (es.push {key:=.string k,val:=v,born:=clock}) (clock+1))},es.push {key:=.string k,val:=v,born:=clock},?_,by simp[D],?_,Fr.setObj w d _ rfl,us⟩
 .unfold Instr.mapUpdate Instr.findKey;simp only[Sem.run_bind,run_underlying q.hT,Result.andThen_ok,C,zO q.hk,run_underlying q.hk,B,F];simp[setObj,pe,h]
 .unfold dL at j ⊢;simp[j]
def Jl{a b:List UInt8}(d:ba a=ba b):a=b:=by
 have:=congrArg bl d
 rwa[kE,kE]at this
def ew{a b:List UInt8}{A e:Prop}(j:a=b->A)(k:a≠b->e):bK ((ba a).toList==(ba b).toList) A e:=
 BJ (λd=>j (Jl d)) (λd=>k λh=>d (h▸rfl))
def od{α:Type}(f:α->V):∀(l:List (List UInt8×α)) (t:List UInt8),hg (l.map λj=>(ba j.1,f j.2)) (ba t)=(lk l t).map f
 |[],t=>rfl
 |(h,v)::l,t=>by
  have e:=od f l t;unfold hg at e ⊢;unfold lk;rw[List.map_cons,List.find?_cons];by_cases d:h=t
  .subst d;simp
  .have q:ba h≠ba t:=λk=>d (Jl k);rw[ad d];simp only[q,decide_false];exact e
def gx{α β:Type}{x:PR α}{f:α->aH->PR β}{e:Int}{p:Nat}(d:x=.er e p):x.b f=.er e p:=by subst d;rfl
def fQ{α β:Type}{x:PR α}{f:α->aH->PR β}{a:α}{s:aH}(d:x=.ok a s):x.b f=f a s:=by subst d;rfl
section
variable {X:RC} {T:List aN}
def xF{w w':I}{α:Type}{x:PR α}{val:α->V}{a:α}{d:aH}(e:x=.ok a d)(h:(bG X d).P w')(f:Fr (·∈[X.rb]) w w'):iw X w x val (ab (val a)) w':=by subst e;exact⟨rfl,h,f⟩
def kT{w w':I}{α:Type}{x:PR α}{val:α->V}{e:Int}{p:Nat}(d:x=.er e p)(f:Fr (·∈[X.rb]) w w'):iw X w x val (.panicked (i2 e p)) w':=by subst d;exact⟨rfl,f⟩
def vD{w:I}{D:List En}{s:aH}(j:(bG X s).P w)(k:g4 w X.rb D)(q:pw X T D)(x:s.p<T.length):
  ah U q9 #[.pointer (some (aa X.rb))] w (iw X w (dw T s) λn=>.i n):=by refine Rn.aq (eZ (j6 rfl j k) 0 rfl (ja j k q x) (λt K H d y=>⟨_,_,_,rfl,y.aw λb L z=>z.ae λM A=>?_⟩) (λd p H er f=>kT (gx er) f));obtain⟨B,C,J⟩:=qa d;obtain⟨E,F,G⟩:=q.e.i t (B▸(o8 x).1) C;refine A.av (adl E F G _) ?_;rintro _ N rfl h;exact⟨_,_,rfl,false,xq _ _,aT rfl (xF (val:=λn=>.i n) (fQ d) (h.get 0) h.fr)⟩
def Hg{w:I}{D:List En}{s:aH}(d:(bG X s).P w)(hD:g4 w X.rb D)(z:pw X T D)(M:s.p<T.length):
  ah U xN #[.pointer (some (aa X.rb))] w (iw X w (il T s) dk):=by
 have nd:∀{k:Int} {t:aN} {s s':aH},s.p<T.length->k≠6->bU T k s=.ok t s'->s'.p<T.length:=λM Z F=>(eB z.e M Z F).l;refine yb.aq ((j6 rfl d hD).aw λB L N=>eZ N 0 rfl (ja (N.get 0) (cY N (i:=0) rfl rfl) z M) (λt s1 w2 Y H2=>⟨_,_,_,rfl,H2.aw λC w3 H3=>H3.ae λw4 Q=>?_⟩) (λF p L er f=>kT (gx er) f));have p1:=nd M dl Y;refine eZ Q 0 rfl (ja (Q.get 0) (cY Q (i:=0) rfl rfl) z p1) (λu K w5 e2 an=>⟨_,_,_,rfl,an.aw λW w6 H6=>H6.aw λE w7 A=>?_⟩) (λF p L er f=>kT ((fQ Y).trans (gx er)) f);have p2:=nd p1 dl e2;have A:O (·∈[X.rb]) w w7 [bG X K,.g B,.g C,.g W,.g E] D:=A;have two:∀(k x:Int) (s3:aH) (h:I),s3.p<T.length->O (·∈[X.rb]) w h [bG X s3,.g B,.g C,.g W,.g E] D->
   (il T s=(dw T s3).b λn s=>(bU T 1 s).b λ_ s=>if bx ⟨k,n,x⟩then .ok ⟨k,n,x⟩ s else .er 9 t.a4)->
   yb.bL (aa X.rb) B 0 0 0 C t.kind (ba t.text) t.a4 E k 0 x h (iw X w (il T s) dk):=λk x s3 h p3 j y=>by
  refine eZ j 0 rfl (vD (j.get 0) (cY j (i:=0) rfl rfl) z p3) (λn s4 w9 J S=>⟨_,rfl,S.ae λaj H=>?_⟩) (λF p L er f=>kT (y.trans (gx er)) f);have p4:=(lH z.e p3 J).1.l;have y:=y.trans (fQ J);refine eZ H 0 rfl (ja (H.get 0) (cY H (i:=0) rfl rfl) z p4) (λc s5 ap e5 am=>⟨_,_,_,rfl,am.av (H5 ⟨k,n,x⟩ ap) ?_⟩) (λF p L er f=>kT (y.trans (gx er)) f);have y:=y.trans (fQ e5);rintro _ ar rfl af;refine⟨_,rfl,cq (λd=>gy af (jM _ 9 t ar) λw' f=>kT (y.trans (ad ?_)) f) (λd=>af.ae λaz ai=>xF (val:=dk) (y.trans (ag ?_)) (ai.get 0) ai.fr)⟩
  .intro hv;exact d (by show gm _=0;unfold gm;rw[ag hv])
  .refine Classical.byContradiction λhv=>?_;have d:gm _=0:=d;unfold gm at d;rw[ad hv]at d;cases d
 have G:il T s=(match vQ u.text with
  |none=>kg u
  |some k=>(if k=2\/k=3 then dw T K else .ok 0 K).b λx s=>(dw T s).b λn s=>(bU T 1 s).b λ_ s=>
   if bx ⟨k,n,x⟩then .ok ⟨k,n,x⟩ s else .er 9 t.a4):=(fQ Y).trans (fQ e2)
 have go:∀(k:Int) (h:I),O (·∈[X.rb]) w h [bG X K,.g B,.g C,.g W,.g E] D->vQ u.text=some k->yb.aV (aa X.rb) B 0 0 0 C t.kind (ba t.text) t.a4 E k 0 0 h (iw X w (il T s) dk):=λk h j Z=>by
  rw[Z]at G;have one:k=2\/k=3->yb.bg (aa X.rb) B 0 0 0 C t.kind (ba t.text) t.a4 E k 0 0 h (iw X w (il T s) dk):=λao=>by have E1:=G.trans (congrArg (λac=>PR.b ac _) (ag ao));exact eZ j 0 rfl (vD (j.get 0) (cY j (i:=0) rfl rfl) z p2) (λn s4 w9 J S=>⟨_,rfl,S.ae λaj H=>two k n s4 aj (lH z.e p2 J).1.l H (E1.trans (fQ J))⟩) (λF p L er f=>kT (E1.trans (gx er)) f)
  exact ax (λd=>one (.inl d)) (λd=>ax (λh'=>one (.inr h')) (λh'=>two k 0 K h p2 j (G.trans (congrArg (λac=>PR.b ac _) (ad io)))))
 have q:vQ u.text=if u.text=[98,118]then some 0 else if u.text=[115,116,114]then some 1 else if u.text=[97,114,114]then some 2 else if u.text=[97,114,115]then some 3 else none:=rfl;refine ew (b:=[98,118]) (λd=>A.ae λh j=>go 0 h j (q.trans (ag d))) (λd=>?_);rw[ad d]at q;refine ew (b:=[115,116,114]) (λd=>A.ae λh j=>go 1 h j (q.trans (ag d))) (λd=>?_);rw[ad d]at q;refine ew (b:=[97,114,114]) (λd=>A.ae λh j=>go 2 h j (q.trans (ag d))) (λd=>?_);rw[ad d]at q;refine ew (b:=[97,114,115]) (λd=>A.ae λh j=>go 3 h j (q.trans (ag d))) (λd=>A.ae λh j=>?_);rw[ad d]at q;rw[q]at G;exact gy j (rl _ u h) λw' f=>kT G f
def sV:List (ByteArray×V):=fI.map λd=>(ba d.1,.agg #[.i d.2.1,.i (d.2.2:Int)])
def FE:nP U Il eD aeT (.agg #[.i 0,.i 0]):=by constructor<;>kernel_rfl
def va:nP U Cc eD bF (.i 0):=by constructor<;>kernel_rfl
def AH:nP U UX eD jg (.agg #[.slice none 0 0,.i 0,.i 0]):=by constructor<;>kernel_rfl
def iP(q:List UInt8×Nat):ByteArray×V:=(ba q.1,.i (q.2:Int))
def q6(q:List UInt8×(Sl×PM)):ByteArray×V:=(ba q.1,.agg #[q.2.1.v,.i (q.2.2.b:Int),.i (q.2.2.ix:Int)])
def fg(l:List (List UInt8×aM)):List V:=l.flatMap λd=>[.string (ba d.1),.i d.2.k,.i d.2.n,.i d.2.x]
structure hQ(X:RC)(E:b3)(Ms:List (List UInt8×(Sl×PM)))(D:List En):Prop where
 tk:pw X E.T D
 mo:∃es c,En.ob X.mo (.map es c)∈D/\dL es sV
 mv:∃es c,En.ob X.mv (.map es c)∈D/\dL es (E.vs.map iP)
 mm:∃es c,En.ob X.mm (.map es c)∈D/\dL es (Ms.map q6)
 ms:E.ms=Ms.map λq=>(q.1,q.2.2)
 pr:∀q∈Ms,En.a9 4 q.2.1 (fg q.2.2.ps)∈D
 pm:match X.pm with
  |none=>E.pm=[]
  |some b=>∃es c,En.ob b (.map es c)∈D/\dL es (E.pm.map iP)
 kn:X.kn=(E.kn:Int)
 dp:X.dp=E.dp
 kc:cJ∈D
variable {E:b3} {Ms:List (List UInt8×(Sl×PM))}
def Th{w:I}{D:List En}{s:aH}(h:(bG X s).P w)(j:g4 w X.rb D):O F0 w w [] (bG X s::D):=bZ _ (by
 intro e d;rcases aF.1 d with rfl|d
 .exact h
 .exact (j e d).1)
def R0{w:I}{D:List En}{s:aH}(d:(bG X s).P w)(J:g4 w X.rb D)(K:hQ X E Ms D)(t:List UInt8):
  ah U O0 #[.pointer (some (aa X.rb)),.string (ba t)] w λr N=>r=ab (.bool (jy t))/\af w N:=by
 have h:=Th d J;refine Ro.aq ?_;refine ew (b:=[110,117,109]) (λd=>ew (b:=[110,117,109]) (λ_=>⟨by subst d;rfl,h.fr⟩) λe=>absurd d e) (λz=>?_);refine ew (b:=[122,101,114,111]) (λd=>ew (b:=[122,101,114,111]) (λ_=>⟨by subst d;rfl,h.fr⟩) λe=>absurd d e) (λA=>?_);refine ew (b:=[101,120,116,114,97,99,116]) (λd=>ew (b:=[101,120,116,114,97,99,116]) (λ_=>⟨by subst d;rfl,h.fr⟩) λe=>absurd d e) (λB=>?_);refine ew (b:=[122,101,120,116]) (λd=>ew (b:=[122,101,120,116]) (λ_=>⟨by subst d;rfl,h.fr⟩) λe=>absurd d e) (λC=>?_);refine ew (b:=[115,101,120,116]) (λd=>ew (b:=[115,101,120,116]) (λ_=>⟨by subst d;rfl,h.fr⟩) λe=>absurd d e) (λF=>?_);refine ew (b:=[98,121,116,101]) (λd=>ew (b:=[98,121,116,101]) (λ_=>⟨by subst d;rfl,h.fr⟩) λe=>absurd d e) (λG=>?_);refine ew (b:=[105,110]) (λd=>⟨by subst d;rfl,h.fr⟩) (λH=>?_);have y:jy t=(lk fI t).isSome:=by unfold jy TP;simp[z,A,B,C,F,G,H]
 obtain⟨Q,c,L,M⟩:=K.mo;have j:=sI FE (h.rd _ (dJ _ L)) M (ba t);rw[sV,od λk:Int×Nat=>Value.agg #[.i k.1,.i (k.2:Int)]]at j;refine⟨_,h.dY 0 4,((lk fI t).getD (0,0)).1,(((lk fI t).getD (0,0)).2:Nat),(lk fI t).isSome,?_,h.aw λO S q=>q.ae λT x=>⟨by rw[y],x.fr⟩⟩;rw[j];cases lk fI t<;>rfl
end
def Cw(x:Int):cE (aE .i64 x):=by rw[IntKind.wrap_i64];omega
structure MdV(d:Nx):Prop extends MdN d where
 nv:d.op≠0
def nM(w:I)(r:Ending)(w':I):Prop:=∃d:Nd,r=ab d.v/\MdV d.x/\d.P w'/\∀b∈aG d.ks,w.heap.size<=b
def aaM{op n m u:Int}{e:ByteArray}{st:aM}{ks:List Int}(d:MdV ⟨op,[],n,m,u,e,st⟩)(h:ks.length<=3):MdV ⟨op,ks,n,m,u,e,st⟩:=⟨⟨d.xW,d.xX,h,d.n,d.m,d.u,d.tx,d.re,d.li⟩,d.nv⟩
def Fi(op:Int):-1<=ck op/\ck op<=3:=by unfold ck;omega
section
variable {w:I} {s:Sl} {l:List Nd} {n1 m2 k3:Int} {b8 ma:Nat}
def abo(hm:cE m2)(M:cE k3)(hl:l.length<=eG){op n m u:Int}{E:ByteArray}{st:aM}(hd:MdV ⟨op,[],n,m,u,E,st⟩)(many:Nat)(aA:many<=3)(x:Int)(ai:-1<=x)(aj:x<(l.length:Int)):
  ∀(d i:Nat) (sl:Sl) (ks:List Int) (D:I),i+d=many->ks.length=i->(∀aa∈ks,0<=aa/\aa<(l.length:Int))->O F0 w D [.g b8,.g ma,jI sl ks] [.gr s l]->
   jv.iQ s m2 k3 b8 0 ⟨none,0,0⟩ 0 0 0 (bh #[]) 0 0 0 ma op sl n m u E st.k st.n st.x x (many:Int) (i:Int) D λr A=>nM w r A/\af w A:=by
 intro d;unfold eG at hl;induction d with
 |zero=>
  intro i sl ks D hi hlen ag B;refine jv.mQ (aT (a7 io) (B.ae λF y=>⟨⟨⟨⟨op,ks,n,m,u,E,st⟩,sl⟩,rfl,aaM hd io,lO (y.get 2),λb Y=>(y.new _ (ay (i:=2) rfl) b Y).resolve_right id⟩,y.fr⟩))
 |succ d ih=>
  intro i sl ks D hi hlen ag B;have T:∀(C:Int) (F:I) (L:List En),-1<=C->C<(l.length:Int)->O F0 w F [.g b8,.g ma,jI sl ks] [.gr s l]->jv.nO s m2 k3 b8 0 ⟨none,0,0⟩ 0 0 0 (bh #[]) 0 0 0 ma op sl n m u E st.k st.n st.x x (many:Int) (i:Int) C F λr A=>nM w r A/\af w A:=by
   intro C F L h1 h2 y;refine aS (λh0=>y.ae λP z=>⟨⟨⟨⟨-1,[],0,0,0,ba [],a5⟩,⟨none,0,0⟩⟩,rfl,⟨⟨dl,dl,dl,dl,dl,dl,λ_=>dl,λW=>(by cases W),λW=>(by cases W)⟩,dl⟩,Rd.nil P,λb Y=>by cases Y⟩,z.fr⟩) (λh0=>?_);refine y.jo 2 pK rfl (λs' P z=>?_) (by have:=oW (y.get 2);omega);have am:O F0 w P [.g b8,.g ma,jI s' (ks++[C])] [.gr s l]:=by rw[jI,fv];exact z
   refine am.ae λh q=>?_;rw[bt _ io];refine ih (i+1) s' (ks++[C]) h io (by grind) (λaa M=>?_) q;rcases aP.1 M with M|M
   .grind
   grind
  refine jv.mQ (aR (a6 io) (aS (λan=>aS (λap=>?_) (λap=>T x D [] ai aj B)) (λan=>T x D [] ai aj B)));obtain⟨Q,rfl⟩:∃Q:Nat,x=(Q:Int):=⟨x.toNat,io⟩;refine B.av (Xw (bd.1 (B.getD 0)) op Q (i:Int) m2 io hm) ?_;rintro _ F ⟨t,rfl⟩ y;refine⟨_,_,_,rfl,y.aw λac P z=>?_⟩;have S:∀(t:aM) (h:I),O F0 w h [.g b8,.g ma,jI sl ks,.g ac] [.gr s l]->jv.lu s m2 k3 b8 0 ⟨none,0,0⟩ 0 0 0 (bh #[]) 0 0 0 ma op sl n m u E st.k st.n st.x (Q:Int) (many:Int) (i:Int) ac t.k t.n t.x h λr A=>nM w r A/\af w A:=by intro t h q;have e5:aE .i64 (5 *(i:Int))=5 *(i:Int):=bH _ io;have e6:aE .i64 (1+5 *(i:Int))=1+5 *(i:Int):=bH _ io;refine⟨by grind,q.ae λw5 G=>G.av (Dx (bd.1 (G.getD 0)) t _ (Cw _) (by unfold eG;exact hl)) ?_⟩;rintro _ w6 ⟨az,rfl,aq,ar⟩ H6;exact⟨_,rfl,T az w6 [] aq ar (H6.take 3)⟩
  refine ax (λho=>ax (λh2=>?_) (λh2=>z.ae λh q=>S t h q)) (λho=>z.ae λh q=>S t h q);have hn:=oW (z.get 2);have J:ks[1]? =some (ks[1]'io):=a0 io;have ao:=ag _ (ay J);generalize ks[1]'io=kk at J ao;refine⟨io,io,(lO (z.get 2)).cell J (j:=aY 1 *1) rfl λp hp _=>z.ae λh q=>?_⟩;have ad:l[kk.toNat]? =some (l[kk.toNat]'io):=a0 io;generalize l[kk.toNat]'io=e at ad;have H:h.cell? (p.add (aY 1 *1))=some (.int .i64 kk):=by
   have:=(lO (q.get 2)).cell J (j:=aY 1 *1) rfl (K:=λN=>∃q',sl.a=some q'/\h.cell? (q'.add (aY 1 *1))=some (.int .i64 kk)) (λN Z H=>⟨N,Z,H⟩);rw[hp]at this;obtain⟨N,Z,H⟩:=this
   grind
  exact⟨kk,H,eJ (bd.1 (q.getD 0)) (i:=kk.toNat) io ad λN Z c=>⟨_,_,_,c.s0,c.s1,c.s2,q.ae λw5 G=>S e.x.st w5 G⟩⟩
def abp(S:cE n1)(M:cE m2)(L:cE k3)(C:l.length<=eG){op n m u:Int}{j:ByteArray}{st:aM}(hd:MdV ⟨op,[],n,m,u,j,st⟩)(x:Int)(W:0<=x)(N:x<(l.length:Int))(E:I)(H:O F0 w E [.g b8,.g ma] [.gr s l]):
  jv.bL s n1 m2 k3 b8 0 ⟨none,0,0⟩ 0 0 0 (bh #[]) 0 0 0 ma op ⟨none,0,0⟩ n m u j st.k st.n st.x x E λr h=>nM w r h/\af w h:=by
 refine H.av (JA op E) ?_;rintro _ z rfl q;have T:=Fi op;have G:∀(x:Int) (d:I),-1<=x->x<(l.length:Int)->O F0 w d [.g b8,.g ma] [.gr s l]->jv.gw s m2 k3 b8 0 ⟨none,0,0⟩ 0 0 0 (bh #[]) 0 0 0 ma op ⟨none,0,0⟩ n m u j st.k st.n st.x x (ck op) d λr h=>nM w r h/\af w h:=by
  intro x d A B y;have e:=y.iH bF 1;by_cases Q:ck op<0
  .refine jv.mQ (aT (a7 io) (e.ae λz q=>⟨⟨⟨⟨op,[],n,m,u,j,st⟩,⟨none,0,0⟩⟩,rfl,hd,Rd.nil z,λb K=>by cases K⟩,q.fr⟩))
  .have J:ck op=(((ck op).toNat:Nat):Int):=io
   show jv.iQ _ _ _ _ _ _ _ _ _ _ _ _ _ _ _ _ _ _ _ _ _ _ _ _ (ck op) 0 _ _;rw[J];exact abo M L C hd (ck op).toNat io x A B (ck op).toNat 0 ⟨none,0,0⟩ [] d io rfl us e
 have F:∀(x:Int) (d:I),-1<=x->x<(l.length:Int)->O F0 w d [.g b8,.g ma] [.gr s l]->jv.cM s n1 m2 k3 b8 0 ⟨none,0,0⟩ 0 0 0 (bh #[]) 0 0 0 ma op ⟨none,0,0⟩ n m u j st.k st.n st.x x (ck op) d λr h=>nM w r h/\af w h:=by
  intro x d A B y;refine ax (λD=>y.av (fD 8 d) ?_) (λD=>G x d A B y);rintro _ P rfl e;refine⟨_,_,_,rfl,e.av (Dx (bd.1 (e.getD 0)) (aZ 8) _ (Cw _) C) ?_⟩
  grind
 refine⟨_,rfl,ax (λD=>q.av (fD 1 z) ?_) (λD=>F x z io N q)⟩;rintro _ P rfl e;refine⟨_,_,_,rfl,e.av (Dx (bd.1 (e.getD 0)) (aZ 1) _ (Cw _) C) ?_⟩
 grind
end
def opsL:List Int:=[4,5,6,7,8,9,10,11,12,13,14,15,16,17,18,19,20,21,22,23,24,25,26,27,28,29,30,31,32,33,34,1,2,3,18,18,16,6,24,25]
def ab0{i:Nat}{op:Int}(e:opsL[i]? =some op):1<=op/\op<=34:=by
 have h:(opsL.all λd=>ak (1<=d)&&ak (d<=34))=true:=dl
 have:=dF.1 h op (ay e)
 grind
def aeN{i:Nat}{t:ByteArray}(e:oj[i]? =some t):t.size<=16:=by
 have h:(oj.all λd=>ak (d.size<=16))=true:=dl
 grind
def JQ{w:I}{s:Sl}{l:List Nd}(d:GP w s l)(aO:1<=l.length)(hl:l.length<=eG)(hv:∀ar∈l,bx ar.x.st=true)(B m2 A:Int)(hn:cE B)(L:cE m2)(hk:cE A):
  ah U OA #[s.v,.i B,.i m2,.i A] w λr y=>nM w r y/\af w y:=by
 have hs:=gz d;refine jv.aq ((u7 d).aw λJ w1 H1=>H1.nw λw2 _ H2=>H2.av (jC B 40 w2 io hn) ?_);have hr:=ly B 40 io;generalize fP B 40=ao at hr;rintro _ w3 rfl H3;obtain⟨j,rfl⟩:∃j:Nat,ao=(j:Int):=⟨ao.toNat,io⟩;have ai:opsL[j]? =some (opsL[j]'(by show j<40;omega)):=a0 _;have am:=ab0 ai;generalize opsL[j]'(by grind)=op at ai am;have ad:bJ w3 ⟨some (aa w1.heap.size),40,40⟩ opsL:=Ds (T:=bF) (H3.ob 1) rfl;refine⟨_,rfl,io,io,ad.cell ai io λp hp P=>⟨op,P,H3.aw λH w4 H4=>H4.ae λw5 H5=>H5.av (jC _ _ w5 io (Cw _)) ?_⟩⟩;have aI:=ly (aE .i64 (fj B 64)) (s.n:Int) io;generalize fP (aE .i64 (fj B 64)) (s.n:Int)=M at aI;rintro _ F rfl C;have G:∀{n m u:Int} {S:ByteArray} {st:aM} {z:I},MdV ⟨op,[],n,m,u,S,st⟩->O F0 w z [.g J,.g H] [.gr s l]->jv.bL s B m2 A J 0 ⟨none,0,0⟩ 0 0 0 (bh #[]) 0 0 0 H op ⟨none,0,0⟩ n m u S st.k st.n st.x M z λr y=>nM w r y/\af w y:=λhd h=>abp hn L hk hl hd M io io _ h;have C:O F0 w F [.g J,.g H] [.gr s l]:=C.ny [true,false,true];have em:bh #[]=ba []:=rfl;have base:∀{n m u:Int} {S:ByteArray} {st:aM},0<=n/\n<=100->0<=m/\m<=100->0<=u/\u<=1000->(op≠33->S.size<=16)->(op=33->∃aj,S=ba (lZ aj))->(op=2->S∈oj)->MdV ⟨op,[],n,m,u,S,st⟩:=λh1 h2 h3 h4 h5 h6=>⟨⟨by grind,am.2,us,h1,h2,h3,h4,h5,h6⟩,by grind⟩;have zz:(0:Int)<=0/\(0:Int)<=100:=dl
 have W:(0:Int)<=0/\(0:Int)<=1000:=dl
 refine⟨_,rfl,ax (λh1=>?_) (λh1=>ax (λh2=>?_) (λh2=>ax (λh3=>?_) (λh3=>ax (λh4=>?_) (λh4=>?_))))⟩
 .refine C.av (jC m2 3 F io L) ?_;have aA:=ly m2 3 io;generalize fP m2 3=v at aA;rintro _ z rfl h;refine⟨_,rfl,?_⟩;have S1:∀(E:Int),1<=E->E<=7->jv.bg s B m2 A J 0 ⟨none,0,0⟩ 0 0 0 (bh #[]) 0 0 0 H op ⟨none,0,0⟩ 0 0 0 (bh #[]) 0 0 0 M E z λr y=>nM w r y/\af w y:=by
   intro E h5 h6;refine h.av (fD E z) ?_;rintro _ D rfl q;have P:∃c:Nat,(if 3<E then(3:Int)else E)=(c:Int)/\1<=c/\c<=3:=⟨(if 3<E then(3:Int)else E).toNat,io,io,io⟩;obtain⟨c,P,aK,aL⟩:=P;rw[P];have ec:aE .u64 (c:Int)=(c:Int):=IntWalk.u64_in _ io;rw[ec];have ep:∃Q:Int,aE .i64 (1 *2^min (aY (c:Int)) (IntKind.bits .i64))=Q/\1<=Q/\Q<=8:=by
    have:c=1\/c=2\/c=3:=io
    rcases this with rfl|rfl|rfl
    .exact ⟨2,dl,dl,dl⟩
    .exact ⟨4,dl,dl,dl⟩
    .exact ⟨8,dl,dl,dl⟩
   obtain⟨Q,eq,q1,q2⟩:=ep;rw[eq];refine⟨_,_,_,rfl,io,q.ae λZ N=>N.av (jC A Q Z io hk) ?_⟩;have aH:=ly A Q io;generalize fP A Q=a at aH;rintro _ aJ rfl ag;have ea:aE .u64 a=a:=IntWalk.u64_in _ io;refine⟨_,rfl,ag.ae λaS ap=>?_⟩;rw[ea];exact G (st:=aZ E) (base zz zz io (λ_=>dl) (λd=>io) (λd=>io)) ap
  have e1:aE .i64 (1+v)=1+v:=bH _ io;show jv.aV s B m2 A J 0 ⟨none,0,0⟩ 0 0 0 _ 0 0 0 H op ⟨none,0,0⟩ 0 0 0 _ 0 0 0 M (aE .i64 (1+v)) z _;rw[e1];exact ax (λ_=>S1 7 dl dl) (λ_=>S1 _ io io)
 .refine C.nw λz _ h=>h.av (jC m2 6 z io L) ?_;have aB:=ly m2 6 io;generalize fP m2 6=v at aB;rintro _ D rfl q;obtain⟨i,rfl⟩:∃i:Nat,v=(i:Int):=⟨v.toNat,io⟩;have Y:oj[i]? =some (oj[i]'(by show i<6;omega)):=a0 _;have an:=aeN Y;generalize oj[i]'(by grind)=t at Y an;have ad:Rd D ⟨some (aa F.heap.size),6,6⟩ (oj.map Value.string):=qN (T:=eD) (q.ob 2) rfl;refine⟨_,rfl,io,io,Rd.get ad (i:=i) (v:=.string t) (by grind) io λp hp P=>⟨t,P,q.ae λZ N=>?_⟩⟩;exact G (st:=a5) (base zz zz W (λ_=>an) (λd=>io) (λ_=>ay Y)) (N.take 2)
 .refine C.nw λz _ h=>h.av (jC m2 2 z io L) ?_;have ac:=ly m2 2 io;generalize fP m2 2=v at ac;rintro _ D rfl q;obtain⟨i,rfl⟩:∃i:Nat,v=(i:Int):=⟨v.toNat,io⟩;have Y:([⟨2,2,1⟩,⟨3,1,1⟩]:List aM)[i]? =some (([⟨2,2,1⟩,⟨3,1,1⟩]:List aM)[i]'(by grind)):=a0 _;generalize([⟨2,2,1⟩,⟨3,1,1⟩]:List aM)[i]'(by grind)=t at Y;have ad:bA 3 D ⟨some (aa F.heap.size),2,2⟩ (([⟨2,2,1⟩,⟨3,1,1⟩]:List aM).flatMap g1):=um (T:=cd) (q.ob 2) rfl;obtain⟨aN,g2,g3⟩:=eC ad rfl Y (K:=λp=>MQ D (p.add (aY (i:Int) *3)) λa b c=>loc [J,H] D λZ=>jv.bL s B m2 A J 0 ⟨none,0,0⟩ 0 0 0 (bh #[]) 0 0 0 H op ⟨none,0,0⟩ 0 0 0 (bh #[]) a b c M Z λr y=>nM w r y/\af w y) (λp hp c=>⟨_,_,_,c.c0,c.c1,c.c2,q.ae λZ N=>G (st:=t) (base zz zz W (λ_=>dl) (λd=>io) (λd=>io)) (N.take 2)⟩)
  grind
 .obtain ⟨xn,rfl⟩:∃xn:Nat,M=(xn:Int):=⟨M.toNat,io⟩;have hg:l[xn]? =some (l[xn]'io):=a0 io;generalize l[xn]'io=e at hg;have aQ:=nD (hv e (ay hg));refine eJ (bd.1 (C.getD 0)) rfl hg λp hp c=>⟨_,c.s1,C.av (jC m2 _ F io L) ?_⟩;have aC:=ly m2 (if 1<e.x.st.n then e.x.st.n else 1) io;generalize fP m2 (if 1<e.x.st.n then e.x.st.n else 1)=a at aC;have ha:a<64:=io
  rintro _ z rfl h;have e1:aE .i64 (a+1)=a+1:=bH _ io;refine⟨_,rfl,h.ae λD q=>q.av (jC A _ D io hk) ?_⟩;rw[e1];have aG:=ly A (a+1) io;generalize fP A (a+1)=b at aG;rintro _ Z rfl N;exact⟨_,rfl,N.ae λaJ ag=>G (st:=a5) (base io io W (λ_=>dl) (λd=>io) (λd=>io)) ag⟩
 have S8:op≠33->jv.rO s B m2 A J 0 ⟨none,0,0⟩ 0 0 0 (bh #[]) 0 0 0 H op ⟨none,0,0⟩ 0 0 0 (bh #[]) 0 0 0 M F λr y=>nM w r y/\af w y:=by intro az;refine C.av (jC m2 2 F io L) ?_;have ac:=ly m2 2 io;generalize fP m2 2=v at ac;rintro _ z rfl h;have e1:aE .i64 (1+v)=1+v:=bH _ io;refine⟨_,rfl,h.ae λD q=>?_⟩;rw[e1];exact G (st:=a5) (base io zz W (λ_=>dl) (λd=>absurd d az) (λd=>io)) q
 refine ax (λh5=>aR (beq_iff_eq.2 h5) (S8 io)) (λh5=>ax (λh6=>S8 io) (λh6=>ax (λh7=>?_) (λh7=>ax (λh8=>C.av (WN m2 L F) ?_) (λh8=>G (st:=a5) (base zz zz W (λ_=>dl) (λd=>absurd d h8) (λd=>io)) C))))
 .refine C.av (jC m2 3 F io L) ?_;have ac:=ly m2 3 io;generalize fP m2 3=v at ac;rintro _ z rfl h;exact⟨_,rfl,h.ae λD q=>G (st:=a5) (base io zz W (λ_=>dl) (λd=>io) (λd=>io)) q⟩
 .rintro _ z ⟨aj,rfl⟩ h;exact⟨_,rfl,h.ae λD q=>G (st:=a5) (base zz zz W (λd=>absurd h8 d) (λ_=>⟨aj,rfl⟩) (λd=>io)) q⟩
def EE(t:BL):Bool:=match h4 t with
 |.inr d=>Nat.ble (dy (cO d.tp)) 12
 |.inl _=>true
def r6(t:BL):Bool:=(match uu t with
 |some b=>jH t==b
 |none=>false)&&EE t&&Nat.ble t.length 30
def ju(i:Nat):Bool:=(List.range 108).all (λd=>r6 (lZ (108 *i+d)))
def YS:ju 0=true:=by kernel_rfl
def YT:ju 1=true:=by kernel_rfl
def Y0:ju 2=true:=by kernel_rfl
def Y1:ju 3=true:=by kernel_rfl
def Y2:ju 4=true:=by kernel_rfl
def Y3:ju 5=true:=by kernel_rfl
def Y4:ju 6=true:=by kernel_rfl
def Y5:ju 7=true:=by kernel_rfl
def Y6:ju 8=true:=by kernel_rfl
def Y7:ju 9=true:=by kernel_rfl
def YU:ju 10=true:=by kernel_rfl
def YV:ju 11=true:=by kernel_rfl
def YW:ju 12=true:=by kernel_rfl
def YX:ju 13=true:=by kernel_rfl
def YY:ju 14=true:=by kernel_rfl
def YZ:ju 15=true:=by kernel_rfl
def YR:∀i,i<16->ju i=true:=by
 intro i e
 match i,e with
 |0,_=>exact YS
 |1,_=>exact YT
 |2,_=>exact Y0
 |3,_=>exact Y1
 |4,_=>exact Y2
 |5,_=>exact Y3
 |6,_=>exact Y4
 |7,_=>exact Y5
 |8,_=>exact Y6
 |9,_=>exact Y7
 |10,_=>exact YU
 |11,_=>exact YV
 |12,_=>exact YW
 |13,_=>exact YX
 |14,_=>exact YY
 |15,_=>exact YZ
 |n+16,d=>exact absurd d io
def YQ(k:Nat)(h:k<1728):r6 (lZ k)=true:=by
 have d:=YR (k / 108) io;have e:=dF.1 d (k%108) (List.mem_range.2 (Nat.mod_lt _ io))
 rwa[Nat.div_add_mod]at e
def EG:List BL:=[[],[97],[65],[115,101,118,101,110,116,101,101,110,45,108,101,116,116,101,114,115],[97,45,49],[45],[40],[122,122],[97,98],[98],[0],[97,97],[99],[100],[109],[110],[115],[116],[105],[122],[113],[120],[39,97,39,42],[91]]
def YC:EG.all r6=true:=by kernel_rfl
def t'(t:ByteArray):Prop:=bl t∈EG\/∃d,t=ba (lZ d)
def GD{t:ByteArray}(d:t' t):r6 (bl t)=true:=by
 rcases d with d|⟨e,rfl⟩
 .exact dF.1 YC _ d
 .rw [kE,Ia];exact YQ (e%1728) (Nat.mod_lt _ io)
def GC{t:ByteArray}(e:t' t):t.size<=30:=by
 have d:=GD e;unfold r6 at d;simp only[bf]at d;have h:=Nat.le_of_ble_eq_true d.2
 rwa[dd]at h
def abH{t:ByteArray}(j:t' t):∀d,h4 (bl t)=.inr d->jw 12 (cO d.tp):=λd k=>by have h:=GD j;unfold r6 at h;simp only[bf]at h;have e:=h.1.2;refine z7 _ ?_;unfold EE at e;rw[k]at e;exact Nat.le_of_ble_eq_true e
def GF{t:ByteArray}(q:t' t):zf t/\rL t/\t.size<=100:=by
 have j:=GD q;unfold r6 at j;simp only[bf]at j;obtain⟨⟨d,e⟩,h⟩:=j;have h:=Nat.le_of_ble_eq_true h;rw[dd]at h;have x:rL t:=abt t λy w=>z7 _ (by unfold EE at e;rw[w]at e;exact Nat.le_of_ble_eq_true e)
 refine⟨⟨io,?_⟩,x,io⟩;cases k:uu (bl t)with
 |none=>rw[k]at d;cases d
 |some b=>
  rw[k]at d;have d:=eq_of_beq d;unfold mW;rw[d]
def MdN.ok{d:Nx}(e:MdN d):wu d:=by
 refine⟨by have:=e.kl;unfold eG;omega,?_,?_,λh=>?_⟩
 .have:=e.n;exact⟨io,io⟩
 .have:=e.m;exact⟨io,io⟩
 .exact (GF (.inr (e.re h))).1
def ed.ok{g:List Nx}(d:ed g)(e:g.length<=eG):y4 g:=⟨e,d.vg.val,d.vg.vars⟩
def I5(g:List Nx)(n:Nx):(a3 g n).1.length<=g.length+1:=by
 unfold a3;split
 .simp
 .split
  .simp
  .split
   .simp
   .simp
def oB{g:List Nx}{n:Nx}(d:(a3 g n).2.2=0):(bo g n).2=0/\∃k:Nat,(a3 g n).2.1=(k:Int)/\(a3 g n).1[k]? =some (dc n (bo g n).1)/\((a3 g n).1=g\/(dc n (bo g n).1∉g/\(a3 g n).1=g++[dc n (bo g n).1]/\k=g.length)):=by
 unfold a3 at d ⊢;split at d
 .rename_i e;exact absurd d e
 rename_i e;have e:(bo g n).2=0:=io
 refine⟨e,?_⟩;rw[ad io];cases h:eo (dc n (bo g n).1) g 0 with
 |some i=>
  have:=q4 h;rw[Nat.sub_zero]at this;exact⟨i,rfl,this.2,.inl rfl⟩
 |none=>
  rw[h]at d;dsimp only at d ⊢;split at d
  .cases d
  .rename_i j;rw[ad j];exact⟨g.length,rfl,us,.inr ⟨sB h,rfl,rfl⟩⟩
def zo{g:List Nx}{n:Nx}(e:Vg g)(h:(a3 g n).2.2=0):Vg (a3 g n).1:=by
 obtain⟨j,w,_,_,d⟩:=oB h;rcases d with d|⟨k,q,_⟩
 .rw [d];exact e
 .rw [q];exact .snoc e (Ao (by rw[<-j])) k
def zn{g:List Nx}{n:Nx}(j:ed g)(e:MdN n)(q:(a3 g n).2.2=0):ed (a3 g n).1:=by
 refine⟨zo j.vg q,λk d=>?_⟩;obtain⟨x,z,_,_,h⟩:=oB q;rcases h with h|⟨y,w,_⟩
 .rw [h]at d;exact j.nd k d
 .rw [w]at d;rcases aP.1 d with d|d
  .exact j.nd k d
  .simp only[aF,aW,a2]at d;subst d;exact⟨e.xW,e.xX,e.kl,e.n,e.m,e.u,e.tx,e.re,e.li⟩
def ed.kl{l:List Nd}(e:ed (xs l)):∀d∈l,d.x.kids.length<=eG:=λd h=>by have:=(e.nd d.x (dn.2 ⟨d,h,rfl⟩)).kl;unfold eG;omega
def ct:Nat->List Nx->Nat->Nat
 |0,_,_=>0
 |f+1,g,i=>match g[i]? with
  |none=>1
  |some d=>d.kids.foldl (λh e=>h+ct f g e.toNat) 1
def fold_add(e:Int->Nat):∀(l:List Int) (d:Nat),l.foldl (λd h=>d+e h) d=d+l.foldl (λd h=>d+e h) 0
 |[],d=>us
 |h::l,d=>by rw[List.foldl_cons,List.foldl_cons,fold_add e l (d+e h),fold_add e l (0+e h)];omega
def LV(e:Int->Nat)(b:Nat):∀(l:List Int),(∀d∈l,e d<=b)->l.foldl (λk d=>k+e d) 0<=l.length *b
 |[],_=>us
 |d::l,h=>by rw[List.foldl_cons,fold_add e l,List.length_cons,Nat.succ_mul];have q:=h d nq;have w:=LV e b l λd j=>h d (dJ _ j);omega
def fold_congr(h j:Int->Nat):∀(l:List Int) (e:Nat),(∀d∈l,h d=j d)->l.foldl (λe d=>e+h d) e=l.foldl (λe d=>e+j d) e
 |[],_,_=>rfl
 |d::l,e,k=>by rw[List.foldl_cons,List.foldl_cons,k d nq];exact fold_congr h j l _ λd q=>k d (dJ _ q)
def Uf{g:List Nx}(h:∀d∈g,d.kids.length<=3):∀(f i:Nat),ct f g i<=4^f
 |0,_=>by simp[ct]
 |f+1,i=>by
  unfold ct;split
  .exact Nat.one_le_pow _ _ io
  .rename_i d k;rw[fold_add];have q:=LV (λe=>ct f g e.toNat) (4^f) d.kids λe _=>Uf h f e.toNat;have j:=h d (ay k);have w:1<=4^f:=Nat.one_le_pow _ _ io;have x:d.kids.length *4^f<=3 *4^f:=ll _ j;rw[Nat.pow_succ];omega
def Ug{g r:List Nx}(q:y7 g):∀(f i:Nat),i<g.length->i<f->∀d,i<d->ct f (g++r) i=ct d g i
 |0,i,_,h,_,_=>absurd h io
 |f+1,i,e,h,0,j=>absurd j io
 |f+1,i,e,h,d+1,j=>by unfold ct;rw[List.getElem?_append_left e];have k:g[i]? =some (g[i]'e):=a0 e;rw[k];refine fold_congr _ _ _ _ λw x=>?_;obtain⟨y,z⟩:=q i _ k w x;exact Ug q f w.toNat io io d io
def J2{w:I}{s:Sl}{l:List Nd}(C:GP w s l)(ac:l.length<=30)(E:∀d∈xs l,d.kids.length<=3)(N:y7 (xs l)):∀(n i:Nat),i<n->n<=30->i<l.length->∀B,af w B->ah U OC #[s.v,.i (i:Int)] B λr H=>r=ab (.i ((ct n (xs l) i:Nat):Int))/\af w H
 |0,i,M,_,_,_,_=>absurd M io
 |n+1,i,M,an,F,B,S=>by
  have A:∀{q:I},af w q->GP q s l:=λf=>⟨C.1.cB f,λd Z=>(bE d).st w _ (λb K ad=>f.cv b ad id) (C.2 d Z)⟩;have z:l[i]? =some (l[i]'F):=a0 F;generalize l[i]'F=d at z;have G:=pa z;have k1:=E d.x (ay G);have k2:=N i d.x G;have hz:ct (n+1) (xs l) i=d.x.kids.foldl (λe h=>e+ct n (xs l) h.toNat) 1:=by
   conv=>lhs;unfold ct
   rw[G]
  have K:∀h,ct n (xs l) h<=4^n:=Uf E n;have O:4^n<=4^29:=Nat.pow_le_pow_right io io;have ap:(4:Nat)^29=288230376151711744:=dl
  rw[hz];have loop:∀(m j:Nat) (e:Nat) (q:I),j+m=d.x.kids.length->e<=1+j *4^29->(d.x.kids.drop j).foldl (λe h=>e+ct n (xs l) h.toNat) e=d.x.kids.foldl (λe h=>e+ct n (xs l) h.toNat) 1->af w q->uK.L0 s (i:Int) (e:Int) (j:Int) q λr H=>r=ab (.i ((d.x.kids.foldl (λe h=>e+ct n (xs l) h.toNat) 1:Nat):Int))/\af w H:=by
   intro m;induction m with
   |zero=>
    intro j e q hj ag k y;have hn:d.ks.n=d.x.kids.length:=bJ.len ((A y).2 d (ay z));rw[dH io]at k;have k:e=d.x.kids.foldl (λe h=>e+ct n (xs l) h.toNat) 1:=k;exact uK.cH (eJ (A y) rfl z λp O c=>⟨_,c.c1,aT (a7 io) ⟨by rw[<-k],y⟩⟩)
   |succ m ih=>
    intro j e q hj ag k y;have L:bJ q d.ks d.x.kids:=(A y).2 d (ay z);have hn:=bJ.len L;have D:d.x.kids[j]? =some (d.x.kids[j]'io):=a0 io;have aa:d.x.kids.drop j=d.x.kids[j]'io::d.x.kids.drop (j+1):=dG io;rw[aa,List.foldl_cons]at k;generalize d.x.kids[j]'io=h at D k;have aj:=k2 h (ay D);refine uK.cH (eJ (A y) rfl z λp O c=>⟨_,c.c1,aR (a6 io) (eJ (A y) rfl z λp' ao Q=>⟨_,Q.c1,io,io,L.cell D io λaq hq Y=>⟨h,Y,?_⟩⟩)⟩);have J:h=(h.toNat:Int):=io
    have W:=K h.toNat;generalize am:h.toNat=kn at J k W;rw[J];refine(J2 C ac E N n kn io io io q y).mono ?_;rintro _ P ⟨rfl,T⟩;refine⟨_,rfl,?_⟩;show uK.L0 s (i:Int) (aE .i64 ((e:Int)+((ct n (xs l) kn:Nat):Int))) (aE .i64 ((j:Int)+1)) P _;have ae:e+ct n (xs l) kn<=1+(j+1) *4^29:=by rw[Nat.succ_mul];omega
    have ai:(j+1) *4^29<=3 *4^29:=ll _ io;rw[bt _ io,bH _ io,show(e:Int)+((ct n (xs l) kn:Nat):Int)=((e+ct n (xs l) kn:Nat):Int)by omega];exact ih (j+1) _ P io ae k T
  exact uK.ok (loop d.x.kids.length 0 1 B io io rfl S)
def V3{g:List Nx}{n e:Nx}(j:n.op≠0)(d:e∈(a3 g n).1)(h:e.op=0):e∈g:=by
 unfold a3 at d;split at d
 .cases d
 .split at d
  .exact d
  .split at d
   .cases d
   .rcases aP.1 d with d|d
    .exact d
    .rw [cK.1 d]at h;exact absurd h j
def VZ(kind:Int)(l:List Nd):Prop:=(∀d∈xs l,d.op=0->d∈xs (cW kind))/\(∃r,xs l=xs (cW kind)++r)/\∀i,i<l.length->ct (i+1) (xs l) i<=400/\∀d,(xs l)[i]? =some d->d.st.n<=16
def ad2{kind:Int}:∀e∈cW kind,e.x.st.n<=16:=by
 intro e j;have h:e∈k'++lY++j7:=by
  unfold cW at j;rcases aP.1 j with d|d
  .rcases aP.1 d with d|d
   .simp [d]
   .split at d
    .simp [d]
    .cases d
  .split at d
   .simp [d]
   .cases d
 simp only[k',lY,j7,l4,ot,List.cons_append,List.nil_append,aF,aW,a2]at h;rcases h with rfl|rfl|rfl|rfl|rfl|rfl|rfl|rfl|rfl|rfl<;>decide
def tY(w:I)(kind:Int)(d:Nat)(r:Ending)(w':I):Prop:=∃(s:Sl) (l:List Nd),r=ab s.v/\ed (xs l)/\1<=l.length/\l.length<=10+d/\GP w' s l/\(∀b∈(En.gr s l).fp,w.heap.size<=b)/\VZ kind l/\l.length<=(cW kind).length+d
def WK{w:I}{ls:Sl}{q:List Int}(hr:bJ w ls q)(ad:∀x∈q,cE x)(bj:q.length<=9223372036854775807)(kind:Int)(C:Nat)(hm:C<=20):
  ah U On #[ls.v,.i kind,.i (C:Int)] w λr B=>tY w kind C r B/\af w B:=by
 have hn:=bJ.len hr;have bl:=T1 kind;have loop:∀(m i:Nat) (z:Sl) (l:List Nd) (Y:I),i+m=C->ed (xs l)->VZ kind l->1<=l.length->l.length<=(cW kind).length+i->(∀b∈(En.gr z l).fp,w.heap.size<=b)->O F0 w Y [] [.rd ls (q.map bX),.gr z l]->
   oL.aX ls kind (C:Int) z ((3 *i:Nat):Int) Y λr B=>tY w kind C r B/\af w B:=by
  intro m;have e3:aE .i64 (3 *(C:Int))=3 *(C:Int):=bH _ io;induction m with
  |zero=>
   intro i z l Y hi y J Q h2 T M;have fin:oL.cM z Y λr B=>tY w kind C r B/\af w B:=⟨⟨z,l,rfl,y,Q,io,bd.1 (M.getD 1),T,J,io⟩,M.fr⟩;exact oL.bR (aS (λ_=>aT (a7 (by rw[e3];omega)) fin) (λ_=>fin))
  |succ m ih=>
   intro i z l Y hi y J Q h2 T M;have fin:oL.cM z Y λr B=>tY w kind C r B/\af w B:=⟨⟨z,l,rfl,y,Q,io,bd.1 (M.getD 1),T,J,io⟩,M.fr⟩;have a9:aE .i64 (((3 *i:Nat):Int)+1)=((3 *i+1:Nat):Int):=bH _ io;have ba:aE .i64 (((3 *i:Nat):Int)+2)=((3 *i+2:Nat):Int):=bH _ io;have bb:aE .i64 (((3 *i:Nat):Int)+3)=((3 *(i+1):Nat):Int):=bH _ io;have next:∀(ac:Sl) (h:List Nd) (E:I),ed (xs h)->VZ kind h->1<=h.length->h.length<=(cW kind).length+(i+1)->(∀b∈(En.gr ac h).fp,w.heap.size<=b)->O F0 w E [] [.rd ls (q.map bX),.gr ac h]->oL.bL ls kind (C:Int) ac ((3 *i:Nat):Int) E λr B=>tY w kind C r B/\af w B:=by intro ac h E g1 gv g2 g3 g4 G;show oL.aX ls kind (C:Int) ac (aE .i64 (((3 *i:Nat):Int)+3)) E _;rw[bb];exact ih (i+1) ac h E io g1 gv g2 g3 g4 G
   have S1:∀(Z:Nat) (d:Nd) (N:I) (L:List En),En.g Z∈L->MdV d.x->d.P N->(∀b∈aG d.ks,w.heap.size<=b)->O F0 w N L [.rd ls (q.map bX),.gr z l,bE d]->oL.bg ls kind (C:Int) z ((3 *i:Nat):Int) Z d.x.op d.ks d.x.n d.x.m d.x.u d.x.tx d.x.st.k d.x.st.n d.x.st.x N λr B=>tY w kind C r B/\af w B:=by
    intro Z d N L bc e pd fd F;have a5:(xs l).length=l.length:=by simp[xs]
    have F:O F0 w N [] [.rd ls (q.map bX),.gr z l,bE d]:=F.take 0;refine kG ((Xj (bd.1 (F.getD 1)) pd (y.ok (by rw[a5];unfold eG;omega)) e.toMdN.ok y.kl).mono ?_);rintro _ w4 ⟨⟨s',rfl,⟨h,W,G',F'⟩⟩,f4⟩;have aj:∀b∈(En.gr s' h).fp,w.heap.size<=b:=λb H=>by
     rcases F' b H with(D|D)|D
     .exact T b D
     .exact rn fd b D
     .exact bI F.fr.size D
    have H4:=F.cB f4;have aA:O F0 w w4 [] [.rd ls (q.map bX),.gr s' h]:=(F.eO (.gr s' h) f4 (bd.2 G') (λb H=>by
     rcases F' b H with(D|D)|D
     .exact .inr (.inr ⟨_,ay (i:=1) rfl,D⟩)
     .exact .inr (.inr ⟨_,ay (i:=2) rfl,D⟩)
     .exact .inl D)).forget _ us
    have aB:∀{w6:I},O F0 w w6 [] [.rd ls (q.map bX),.gr z l,bE d]->O F0 w w6 [] [.rd ls (q.map bX),.gr z l]:=λM=>M.forget _ us;refine⟨f4,_,_,_,rfl,ax (λh0=>?_) (λh0=>next z l w4 y J Q io T (aB H4))⟩;obtain⟨_,aa,aL,aC,aN⟩:=oB h0;have ar:ed (xs h):=by rw[W];exact zn y e.toMdN h0
    have a4:∀A∈xs h,A.op=0->A∈xs (cW kind):=λA S D=>by rw[W]at S;exact J.1 A (V3 e.nv S D) D
    obtain⟨xr,av⟩:∃xr,xs h=xs l++xr/\xr.length<=1:=by
     obtain⟨_,_,_,_,h3⟩:=oB h0;rcases h3 with h3|⟨_,h5,_⟩
     .exact ⟨[],by rw[W,h3,df],us⟩
     .exact ⟨_,by rw[W];exact h5,us⟩
    have aQ:h.length<=(cW kind).length+(i+1):=by have:=I5 (xs l) d.x;rw[<-W]at this;simp only[xs,vC]at this;omega
    rw[<-W]at aC;have ai:aa<h.length:=by have:=(cP.1 aC).1;simpa[xs]using this
    have ag:h[aa]? =some (h[aa]'ai):=a0 ai;generalize h[aa]'ai=A at ag;rw[aL];refine eJ (bd.1 (aA.getD 1)) rfl ag λp hp c=>⟨_,_,_,c.s0,c.s1,c.s2,?_⟩;refine kG ((Xx kind A.x.st w4).mono ?_);rintro _ E ⟨⟨b,rfl⟩,f5⟩;have G:=aA.cB f5;have am:=aB (H4.cB f5);refine⟨f5,_,rfl,bm (λ_=>?_) (λ_=>next z l E y J Q io T am)⟩;refine eJ (bd.1 (G.getD 1)) rfl ag λp' bk c'=>⟨_,c'.s1,aS (λaJ=>?_) (λ_=>next z l E y J Q io T am)⟩;have aM:∀d∈xs h,d.kids.length<=3:=λd e=>(ar.nd d e).kl;refine kG ((J2 (bd.1 (G.getD 1)) io aM ar.vg.Am (aa+1) aa io io ai E (Fr.refl _ _)).mono ?_);rintro _ w6 ⟨rfl,f6⟩;have f6:af E w6:=f6;refine⟨f6,_,rfl,aS (λhz=>next s' h w6 ar ⟨a4,?_,λi hi=>?_⟩ io aQ aj (G.cB f6)) (λ_=>next z l w6 y J Q io T (am.cB f6))⟩
    .obtain ⟨r0,a3⟩:=J.2.1;exact⟨r0++xr,by rw[av.1,a3,dS]⟩
    .have bn:(xs h).length=h.length:=by simp[xs]
     rcases Nat.lt_or_ge i l.length with ap|ap
     .rw [av.1,Ug y.vg.Am (i+1) i io io (i+1) io];exact⟨(J.2.2 i ap).1,λd e=>(J.2.2 i ap).2 d (by rwa[List.getElem?_append_left (by simp[xs];omega)]at e)⟩
     .have aU:=congrArg List.length av.1;rw[bM]at aU;have aO:i=aa:=by
       have bo:(xs l).length=l.length:=by simp[xs]
       rcases aN with A|⟨_,A,ek⟩
       .rw [<-W]at A;have:=congrArg List.length A;omega
       .rw [<-W]at A;have:=congrArg List.length A;rw[bM]at this;simp only[List.length_singleton]at this;omega
      subst aO;refine⟨io,λd e=>?_⟩;rw[pa ag]at e;cases e;exact aJ
   refine oL.bR ?_;rw[a9,ba,e3];refine aS (λbi=>aR (a6 io) (M.dr λw2 H2=>?_)) (λ_=>fin);have ao:bJ w2 ls q:=H2.getD 0;have g0:q[3 *i]? =some (q[3 *i]'io):=a0 io;have g1:q[3 *i+1]? =some (q[3 *i+1]'io):=a0 io;have g2:q[3 *i+2]? =some (q[3 *i+2]'io):=a0 io;generalize q[3 *i]'io=x0 at g0;generalize q[3 *i+1]'io=x1 at g1;generalize q[3 *i+2]'io=x2 at g2;refine⟨io,io,ao.cell g0 io λp0 aV c0=>⟨x0,c0,io,io,ao.cell g1 io λp1 aZ c1=>⟨x1,c1,io,io,ao.cell g2 io λp2 a1 c2=>⟨x2,c2,?_,?_⟩⟩⟩⟩
   .have an:=JQ (bd.1 (H2.getD 1)) Q (by unfold eG;omega) (λd e=>y.vg.val d.x (dn.2 ⟨d,e,rfl⟩)) x0 x1 x2 (ad _ (ay g0)) (ad _ (ay g1)) (ad _ (ay g2));refine H2.wO an ?_;rintro _ N ⟨d,rfl,e,pd,fd⟩ _ F3;have F:=F3.rd (bE d) pd (rn fd);refine⟨_,_,_,_,_,_,_,_,_,rfl,F.aw λZ w4 H4=>H4.ae λE G=>?_⟩;exact S1 Z d E _ us e (G.getD 2) (λb H=>bI H2.fr.size (fd b H)) G
   .refine H2.aw λZ N F=>?_;have aK:bJ N ls q:=F.getD 0;have again:∀{j:Nat} {x:Int} {p:Addr} {X:Nat},q[j]? =some x->ls.a=some p->X=j *1->N.cell? (p.add X)=some (.int .i64 x):=by intro j x p X y hp hX;have:=aK.cell y hX (K:=λaz=>∃q',ls.a=some q'/\N.cell? (q'.add X)=some (.int .i64 x)) (λaz hq hc=>⟨az,hq,hc⟩);rw[hp]at this;obtain⟨az,hq,hc⟩:=this;cases hq;exact hc
    have an:=JQ (bd.1 (F.getD 1)) Q (by unfold eG;omega) (λd e=>y.vg.val d.x (dn.2 ⟨d,e,rfl⟩)) x0 x1 x2 (ad _ (ay g0)) (ad _ (ay g1)) (ad _ (ay g2));refine⟨again g2 a1 io,again g1 aZ io,again g0 aV io,F.g5 an ?_⟩;rintro _ w4 ⟨d,rfl,e,pd,fd⟩ _ F4;have H4:=F4.rd (bE d) pd (rn fd);refine⟨_,_,_,_,_,_,_,_,_,rfl,H4.ae λE G=>?_⟩;exact S1 Z d E _ us e (G.getD 2) (λb H=>bI F.fr.size (fd b H)) G
 refine oL.aq ((Xt kind w).mono ?_);rintro _ Y ⟨⟨s,rfl,⟨l,hl,aI,aH⟩⟩,f1⟩;have hlen:=T1 kind;have be:l.length=(cW kind).length:=by have:=congrArg List.length hl;simpa[xs]using this
 have aj:∀b∈(En.gr s l).fp,w.heap.size<=b:=λb H=>(aH b H).resolve_left id;have M:O F0 w w [] [.rd ls (q.map bX)]:=bZ _ (by intro A S;simp only[aF,aW,a2]at S;subst S;exact hr)
 have H1:=M.eO (.gr s l) f1 (bd.2 aI) (λb H=>.inl (aj b H));have a8:∀i,i<l.length->ct (i+1) (xs l) i<=400/\∀d,(xs l)[i]? =some d->d.st.n<=16:=λi hi=>by have y:(xs l)[i]? =some ((xs l)[i]'(by simp[xs];exact hi)):=a0 _;generalize(xs l)[i]'(by simp[xs];exact hi)=d at y;have e:d∈xs (cW kind):=hl▸ay y;obtain⟨A,S,rfl⟩:=dn.1 e;refine⟨?_,λd e=>by rw[y]at e;cases e;exact ad2 A S⟩;unfold ct;rw[y];show List.foldl _ 1 A.x.kids<=400;rw[(HZ A S).1];exact(by decide:1<=400)
 exact⟨s,rfl,loop C 0 s l Y io (by rw[hl];exact T2 kind) ⟨λd e _=>hl▸e,⟨[],by rw[hl,df]⟩,a8⟩ io io aj H1⟩
section
variable {X:RC} {T:List aN} {E:b3} {Ms:List (List UInt8×(Sl×PM))}
def oS(q:Sl×PM):V:=.agg #[q.1.v,.i (q.2.b:Int),.i (q.2.ix:Int)]
def ng(Ms:List (List UInt8×(Sl×PM)))(t:List UInt8):Sl×PM:=(lk Ms t).getD (⟨none,0,0⟩,⟨[],0,0⟩)
def xB(Ms:List (List UInt8×(Sl×PM)))(k:Nat)(t:List UInt8):Bool:=match lk Ms t with
 |some d=>ak (d.2.ix<k)
 |none=>false
def R1{w:I}{D:List En}{s:aH}(z:(bG X s).P w)(A:g4 w X.rb D)(x:hQ X E Ms D)(t:List UInt8):
  ah U O1 #[.pointer (some (aa X.rb)),.string (ba t)] w λr F=>r=ab (.tuple #[oS (ng Ms t),.bool (xB Ms E.kn t)])/\af w F:=by
 have y:=Th z A;obtain⟨K,c,B,C⟩:=x.mm;refine Rp.aq (y.aw λH L h=>⟨_,h.dY 0 6,(ng Ms t).1,((ng Ms t).2.b:Nat),((ng Ms t).2.ix:Nat),(lk Ms t).isSome,?_,h.aw λJ M k=>?_⟩)
 .have j:=sI AH (h.rd _ (dJ _ B)) C (ba t);rw[show Ms.map q6=Ms.map λd=>(ba d.1,oS d.2)from rfl,od oS]at j;rw[j];unfold ng;cases lk Ms t<;>rfl
 .unfold xB ng;cases j:lk Ms t with
  |none=>exact aT rfl (k.ae λG e=>⟨rfl,e.fr⟩)
  |some d=>
   refine aR rfl (k.ae λG e=>⟨_,e.dY 0 8,e.ae λN q=>⟨q.dY 0 8,?_,q.fr⟩⟩);have:ak (((d.2.ix:Int))<X.kn)=ak (d.2.ix<E.kn):=by rw[x.kn];grind
   show Ending.returned (.tuple #[_,.bool (ak (((d.2.ix:Int))<X.kn))])=_;rw[this];rfl
def eH(X:RC)(l:List Nd)(w:I){α:Type}(x:PR α)(k:α->V->I->Prop):aC:=λr d=>match x with
 |.ok a e=>∃v,r=ab v/\k a v d/\∃h j,(bG {X with g:=h} e).P d/\GP d h j/\xs j=e.g/\(Vg e.g/\e.g.length<=4096)/\(∀b∈(En.gr h j).fp,b∈(En.gr X.g l).fp\/w.heap.size<=b)/\Fr (·∈[X.rb]) w d
 |.er q p=>r=.panicked (i2 q p)/\Fr (·∈[X.rb]) w d
def o9{l:List Nd}{w w':I}{α:Type}{x:PR α}{k:α->V->I->Prop}{a:α}{d:aH}{v:V}{h:Sl}{j:List Nd}(e:x=.ok a d)(C:k a v w')(q:(bG {X with g:=h} d).P w')(z:GP w' h j)(A:xs j=d.g)(B:Vg d.g/\d.g.length<=4096)(y:∀b∈(En.gr h j).fp,b∈(En.gr X.g l).fp\/w.heap.size<=b)(f:Fr (·∈[X.rb]) w w'):eH X l w x k (ab v) w':=by subst e;exact⟨v,rfl,C,h,j,q,z,A,B,y,f⟩
def fK{l:List Nd}{w w':I}{α:Type}{x:PR α}{d:α->V->I->Prop}{e:Int}{p:Nat}(h:x=.er e p)(f:Fr (·∈[X.rb]) w w'):eH X l w x d (.panicked (i2 e p)) w':=by subst h;exact⟨rfl,f⟩
def V1{M:Nat->Prop}{w0 w w':I}{L D:List En}(H:O M w0 w L D)(i:Nat){e q d:En}(hi:L[i]? =some e)(f:Fr (·∈e.fp) w w')(G:q.P w')(C:q.fp=e.fp)(hd:d.P w')(z:∀b∈d.fp,w.heap.size<=b\/∃g∈D,b∈g.fp):O M w0 w' (L.set i q) (D++[d]):=by
 have j:=H.fy i q hi f G (λb z=>.inl (C▸z));refine⟨j.fr,j.own,λg h=>?_,j.new,j.nd,λg h b A x y k=>?_⟩
 .rcases aP.1 h with h|h
  .exact j.rd g h
  grind
 .rcases aP.1 h with h|h
  .exact j.dj g h b A x y k
  .rw [cK.1 h]at A;rcases z b A with B|⟨E,J,B⟩
   .have:b<w.heap.size:=by
     rcases List.mem_or_eq_of_mem_set y with F|rfl
     .exact x.lt w (H.own x F) b k
     .rw [C]at k;exact e.lt w (H.own e (ay hi)) b k
    omega
   .exact j.dj E J b B x y k
structure gJ(X:RC)(l:List Nd)(s:aH)(D:List En):Prop where
 d:En.gr X.g l∈D
 x:xs l=s.g
 v:Vg s.g
 n:s.g.length<=4096
def gJ.sub{l:List Nd}{s:aH}{D D':List En}(e:gJ X l s D)(j:∀h∈D,h∈D'):gJ X l s D':=⟨j _ e.d,e.x,e.v,e.n⟩
def nB{M:Nat->Prop}{w0 w:I}{L D:List En}{bs:List Nat}{l:List Nd}(H:O M w0 w L D)(i:Nat){s:aH}{α:Type}{x:PR α}{y:α->V->I->Prop}{P:au}{f:b5}{args:Array V}{R K:aC}(hi:L[i]? =some (bG X s))(F:En.gr X.g l∈D)(C:ah P f args w (eH X l w x y))(J:∀a k h j v e,x=.ok a k->y a v e->gJ {X with g:=h} j k (D++[.gr h j])->(∀b∈(En.gr h j).fp,b∈(En.gr X.g l).fp\/w0.heap.size<=b)->O M w0 e (L.set i (bG {X with g:=h} k)) (D++[.gr h j])->K (ab v) e)(E:∀q p e,x=.er q p->Fr M w0 e->R (.panicked (i2 q p)) e)(B:∀b∈bs,En.g b∈L.eraseIdx i:=by simp):mV bs P f args R w K:=by
 refine C.mono λr e d=>?_;unfold eH at d;split at d
 .rename_i a k;obtain⟨v,rfl,Q,h,j,N,G,S,A,z,f⟩:=d;exact .inr ⟨⟨_,rfl⟩,Fh H hi f B,J a k h j v e rfl Q ⟨db _ (cK.2 rfl),S,A.1,A.2⟩ (λb d=>(z b d).imp id λd=>bI H.fr.size d) (V1 H i hi f N rfl (bd.2 G) λb d=>(z b d).elim (λd=>.inr ⟨_,F,d⟩) .inl)⟩
 .rename_i q p;obtain⟨rfl,f⟩:=d;exact .inl ⟨_,rfl,E q p e rfl (EO H hi f)⟩
def VW{g:List Nx}{n:Nx}(e:g.length<=4096)(d:(a3 g n).2.2=0):(a3 g n).1.length<=4096:=by
 unfold a3 at d ⊢
 grind
def ae3{g:List Nx}(e:Vg g):∀d∈g,d.kids.length<=3:=λd h=>by obtain⟨i,j⟩:=List.mem_iff_getElem?.1 h;have k:=(e.ti i d j).kl;have q:=(Fi d.op).2;omega
def VX{g:List Nx}{n:Nx}(d:(a3 g n).2.2=0):0<=(a3 g n).2.1:=by
 unfold a3 at d ⊢
 grind
def Br{w:I}{D:List En}{s:aH}{l:List Nd}{t:aN}{d:Nd}(G:(bG X s).P w)(hD:g4 w X.rb D)(h:gJ X l s D)(T:cJ∈D)(hd:bE d∈D)(Y:kz d.x):
  ah U vc #[.pointer (some (aa X.rb)),d.v,mI t] w (eH X l w (ej s d.x t) λk v _=>v=.i (k:Int)):=by
 have H:=h.x;have hl:l.length=s.g.length:=by grind
 have af:=h.n;have W:∀L∈l,L.x.kids.length<=1000000000:=λL he=>by have:=ae3 h.v L.x (H▸dn.2 ⟨L,he,rfl⟩);omega
 have fin:∀{J:I} {K:List En} {y:Sl} {q:List Nd} (E z:Nat),O (·∈[X.rb]) w J (bG X s::K) (D++[.gr y q])->En.g z∈K->En.g E∈K->xs q=(a3 s.g d.x).1->(∀b∈(En.gr y q).fp,b∈(En.gr X.g l).fp\/w.heap.size<=b)->
   GX.aV (aa X.rb) E t.kind (ba t.text) t.a4 z y (a3 s.g d.x).2.1 (a3 s.g d.x).2.2 J (eH X l w (ej s d.x t) λk v _=>v=.i (k:Int)):=λ{J K y q} E z j ad ac A B=>by
  refine cq (λF=>gy j (jM _ _ t J) (λw' f=>fK (x:=ej s d.x t) (by unfold ej;grind) f)) (λF=>?_);have F:(a3 s.g d.x).2.2=0:=F;have ea:ej s d.x t=.ok (a3 s.g d.x).2.1.toNat {s with g:=(a3 s.g d.x).1}:=by unfold ej;grind
  have h1:=VX F;refine j.h0 0 2 rfl (λZ e=>o9 ea ?_ (e.get 0) (bd.1 (e.rd _ us)) A ⟨zo h.v F,VW h.n F⟩ B e.fr) us (by grind)
  grind
 refine GX.aq ((j6 rfl G hD).aw λb4 w1 H1=>H1.aw λE w2 H2=>H2.ae λJ j=>⟨X.g,by rw[add_add];exact j.ld 0 2,?_,?_⟩)
 .refine kG ((Uj (bd.1 (j.rd _ h.d)) (j.rd _ hd) (j.rd _ T) Y io (H▸h.v.val) W).mono ?_);rintro _ Z ⟨⟨y,rfl,S⟩,f⟩;obtain⟨q,A,Q,B⟩:=S.ex;have e:=j.eO (.gr y q) f (bd.2 Q) (λb C=>(B b C).elim (λG=>.inr (.inr ⟨_,h.d,G⟩)) .inl);rw[H]at A ⊢;exact⟨f,_,_,_,rfl,e.aw λz w5 M=>M.ae λw6 N=>fin E z N us us A (λb C=>(B b C).imp id (bI j.fr.size))⟩
 .refine j.aw λz Z e=>⟨by rw[add_add];exact e.ld 0 2,kG ((Uj (bd.1 (e.rd _ h.d)) (e.rd _ hd) (e.rd _ T) Y io (H▸h.v.val) W).mono ?_)⟩;rintro _ w5 ⟨⟨y,rfl,S⟩,f⟩;obtain⟨q,A,Q,B⟩:=S.ex;have M:=e.eO (.gr y q) f (bd.2 Q) (λb C=>(B b C).elim (λG=>.inr (.inr ⟨_,h.d,G⟩)) .inl);rw[H]at A ⊢;exact⟨f,_,_,_,rfl,M.ae λw6 N=>fin E z N us us A (λb C=>(B b C).imp id (bI e.fr.size))⟩
def abC(l:List UInt8)(w:∃d,(l=35::98::d/\1<=d.length/\d.length<=64/\jk 2 d)\/(l=35::120::d/\1<=d.length/\d.length<=16/\jk 16 d)):kz (hE l):=by
 have:(hE l).kids=[]/\(hE l).n=0/\(hE l).m=0/\0<=(hE l).u/\(hE l).op=1:=by
  unfold hE
  grind
 obtain⟨h,j,k,e,q⟩:=this;exact⟨by grind,io,io,e,io⟩
def acy{w:I}{D:List En}{s:aH}{l:List Nd}{t:aN}(T:(bG X s).P w)(W:g4 w X.rb D)(L:gJ X l s D)(hk:cJ∈D)(e:∃d,(t.text=35::98::d/\1<=d.length/\d.length<=64/\jk 2 d)\/(t.text=35::120::d/\1<=d.length/\d.length<=16/\jk 16 d)):
  ah U F5 #[.pointer (some (aa X.rb)),mI t] w (eH X l w (ej s (hE t.text) t) λk v _=>v=.i (k:Int)):=by
 have go:∀(j:Nat) (q:I) (h:Nat) (sz:Nat) (c:UInt8) (d:List UInt8),(h=2\/h=16)->O (·∈[X.rb]) w q [bG X s,.g j] D->t.text=35::c::d->1<=d.length->h^d.length<=18446744073709551616->jk h d->d.length *sz<=64->d.length<=64->
   hE t.text=⟨1,[],0,0,(dm h d:Int),ba [],⟨0,((d.length *sz:Nat):Int),0⟩⟩->kz (hE t.text)->GZ.aV (aa X.rb) j t.kind (ba t.text) t.a4 (h:Int) (sz:Int) q (eH X l w (ej s (hE t.text) t) λk v _=>v=.i (k:Int)):=λj q h sz c d J B e y z A h4 h5 M C=>by
  have N:(ba t.text).size=d.length+2:=by rw[bC,e];rfl
  have hx:(ba t.text).extract (aY 2) (ba t.text).size=ba d:=by
   rw[Jk,N,e];show ba (((35::c::d).take (d.length+2)).drop 2)=ba d
   grind
  refine⟨dl,io,?_⟩;rw[hx];refine B.av (ado J y z A q) ?_;rintro _ w2 rfl Q;refine⟨_,_,rfl,false,xq _ _,aT rfl ?_⟩;have H:aE .i64 ((aE .i64 ((((ba t.text).size:Nat):Int) - 2)) *(sz:Int))=((d.length *sz:Nat):Int):=by rw[N,bH (((d.length+2:Nat):Int) - 2) io,show((d.length+2:Nat):Int) - 2=(d.length:Int)by omega,<-Int.natCast_mul,bH _ io]
  have F:=Q.eO (bE ⟨hE t.text,⟨none,0,0⟩⟩) (Fr.refl _ _) (by show Rd w2 _ ((hE t.text).kids.map bX);rw[M];exact Rd.nil _) (λb J=>by have:b∈(En.rd ⟨none,0,0⟩ ((hE t.text).kids.map bX)).fp:=J;rw[M]at this;cases this)
  have K:=Br (t:=t) (F.get 0) (cY F (i:=0) rfl rfl) (L.sub λH he=>cm _ he) (cm _ hk) (db _ (cK.2 rfl)) C;show mV [j] _ _ #[.pointer (some (aa X.rb)),.agg #[.i 1,.slice none 0 0,.i 0,.i 0,.u (dm h d:Int),.string (ba []),.i 0,.i (aE .i64 ((aE .i64 ((((ba t.text).size:Nat):Int) - 2)) *(sz:Int))),.i 0],mI t] _ _ _;rw[H];have hv:(⟨hE t.text,⟨none,0,0⟩⟩:Nd).v=.agg #[.i 1,.slice none 0 0,.i 0,.i 0,.u (dm h d:Int),.string (ba []),.i 0,.i ((d.length *sz:Nat):Int),.i 0]:=by grind
  rw[hv]at K;exact nB F 0 rfl (cm _ L.d) K (λk s' g' l' v w4 S ac E Y G=>⟨_,ac▸rfl,o9 S rfl (G.get 0) (bd.1 (G.rd _ E.d)) E.x ⟨E.v,E.n⟩ Y G.fr⟩) (λH p w' er f=>fK er f)
 refine GZ.aq ((j6 rfl T W).aw λj q B=>?_);have C:=abC t.text e;obtain⟨d,Z⟩:=e;rcases Z with⟨e,y,z,A⟩|⟨e,y,z,A⟩
 .refine ⟨dl,98,by rw[Dn,e];rfl,aT rfl (go j q 2 1 98 d (.inl rfl) B e y ?_ A io io ?_ C)⟩
  .exact bI (Nat.pow_le_pow_right dl z) dl
  .rw [e];show(⟨1,[],0,0,_,ba [],aZ (((35::98::d).length - 2:Nat):Int)⟩:Nx)=_;simp[aZ]
 .refine ⟨dl,120,by rw[Dn,e];rfl,aR rfl (go j q 16 4 120 d (.inr rfl) B e y ?_ A io io ?_ C)⟩
  .exact bI (Nat.pow_le_pow_right dl z) dl
  .rw [e];show(⟨1,[],0,0,_,ba [],aZ ((((35::120::d).length - 2) *4:Nat):Int)⟩:Nx)=_;simp[aZ]
end
section
variable {X:RC} {T:List aN}
def acA{N:Nat}(hS:mS N)(hN:N+1<=1000000)(hf:∀t∈T,t.kind=5->∀aj,h4 t.text=.inr aj->jw N (cO aj.tp)){w:I}{D:List En}{s:aH}(k:(bG X s).P w)(hD:g4 w X.rb D)(hT:pw X T D)(hp:s.p<T.length):
  ah U F6 #[.pointer (some (aa X.rb))] w (iw X w (rr T s) λt=>.string (ba t)):=by
 refine Bk.aq (eZ (j6 rfl k hD) 0 rfl (ja k hD hT hp) (λt Z w1 e1 H1=>⟨_,_,_,rfl,H1.aw λy w2 H2=>H2.ae λw3 Q=>?_⟩) (λe p w1 er f=>kT (gx er) f));obtain⟨Y,h2,z⟩:=qa e1;have H:=hf t (Y▸(o8 hp).1) h2;have E0:rr T s=if(gZ t.text).2=0 then .ok (gZ t.text).1 Z else .er (gZ t.text).2 t.a4:=fQ e1;have Q:O (·∈[X.rb]) w w3 [bG X Z,.g y] D:=Q;clear Y h2 z;have W:∀{w':I} {L' D':List En} (e:Int) (u:List UInt8),O (·∈[X.rb]) w w' (bG X Z::L') D'->gZ t.text=(u,e)->Bk.bg (aa X.rb) y t.kind (ba t.text) t.a4 e (ba u) w' (iw X w (rr T s) λt=>.string (ba t)):=λ{w' L' D'} e u C d=>
  cq (λh0=>gy C (jM _ e t w') λaA f=>kT (E0.trans (by rw[d];exact ad h0)) f) (λh0=>xF (val:=λt=>.string (ba t)) (E0.trans (by rw[d];exact ag h0)) (C.get 0) C.fr)
 have bad:∀{M:I} {D':List En} (e:Int),e≠0->gZ t.text=([],e)->O (·∈[X.rb]) w M [bG X Z,.g y] D'->∀(A:Nat->I->Prop) (x0 x1 x2:Int) (sl:Sl),vk [y] M λF w7=>bK (e==0) (A F w7) (loc [y,F] w7 λan=>Bk.aV (aa X.rb) y t.kind (ba t.text) t.a4 F x0 x1 x2 sl e an (iw X w (rr T s) λt=>.string (ba t))):=λ{M D'} e G d C A x0 x1 x2 sl=>
  C.aw λF w7 H7=>ax (λk=>absurd k G) (λ_=>H7.ae λw8 q=>ax (λk=>absurd k G) (λ_=>W e [] q d))
 have hz:=bC t.text;refine kG ((JD _ w3).mono ?_);rintro r w4 ⟨f4,d⟩;refine⟨f4,?_⟩;have E:=Q.cB f4;rcases d with⟨Y,rfl⟩|⟨Y,res,ap,⟨a,rfl,rfl⟩|⟨j,rfl,⟨z,rfl⟩|⟨z,u,rfl,K,pt,ft⟩⟩⟩
 .exact ⟨_,_,_,⟨none,0,0⟩,_,_,rfl,bad 4 dl (by unfold gZ;rw[ag io]) E _ _ _ _ _⟩
 all_goals have ac:¬4096<t.text.length:=io
 all_goals have h:=UT ap
 all_goals rw[kE]at h
 .have h:Sum.inl a=h4 t.text:=h;exact⟨_,_,_,⟨none,0,0⟩,_,_,rfl,bad 2 dl (by unfold gZ;rw[ad ac,<-h]) E _ _ _ _ _⟩
 .have h:Sum.inr (fq j)=h4 t.text:=h;exact⟨_,_,_,⟨none,0,0⟩,_,_,rfl,bad 4 dl (by unfold gZ;rw[ad ac,<-h];dsimp only;rw[uS,ag z]) E _ _ _ _ _⟩
 .have h:Sum.inr (fq j)=h4 t.text:=h;have H:=H _ h.symm;rw[uS]at H;have d:gZ t.text=if kW (cO j.tp)=0 then(if iM (gl (cO j.tp))=0 then(cR 0 (gl (cO j.tp)) (a' (gl (cO j.tp))),0)else([],iM (gl (cO j.tp))))else([],kW (cO j.tp)):=by unfold gZ;rw[ad ac,<-h];dsimp only;rw[uS,ad io]
  generalize cO j.tp=x at K H d z;have E:=Q.eO (.tree u) f4 pt (λb hb=>.inl (ft b (aU.1 hb)));have az:u.sz<=64:=by rw[<-J.eu,K];exact z
  refine⟨_,_,_,u.s,_,_,rfl,E.aw λF w5 H5=>ax (λ_=>H5.ae λM H6=>?_) (λk=>absurd rfl k)⟩;refine H6.g5 (JC hS hN u M io (by rw[K];exact H) (H6.rd (.tree u) us)) ?_;rintro _ w7 ⟨v,rfl,L,pu,fu⟩ _ F7;rw[K]at L;rw[K];have H7:=F7.rd (.tree v) pu λb hb=>fu b (aU.1 hb);refine⟨_,_,_,v.s,_,rfl,H7.ae λw8 q=>ax (λG=>?_) (λaf=>W _ [] q (by rw[d,ad af]))⟩;rw[ag G]at d;have am:v.sz<=1000000:=by
   rw[<-J.eu,L];have:kW x=0:=G;unfold kW at this;unfold gl;split at this
   .rename_i B;rw[ag B];unfold pU at this;unfold pV;split at this
    .cases this
    .rename_i ao;rw[ad ao];omega
   .rename_i B;exact absurd this B
  have pv:=q.rd (.tree v) us;refine kG (Ho.aq ((gT pv).aw λb1 w9 K9=>K9.av (DA v w9 am (K9.getD 0)) ?_));rintro _ ar rfl S;rw[L];refine⟨_,rfl,cq (λaf=>⟨S.fr,_,_,rfl,W _ [] (q.cB S.fr) (by rw[d,ad af])⟩) (λB=>S.av (Rc v 0 ar am io ?_ (S.getD 0)) ?_)⟩
  .exact ES _ (by rw[L];exact(Cj B).1)
  .rintro _ an rfl ai;refine⟨_,rfl,ai.fr,_,_,rfl,W 0 _ (q.cB ai.fr) (by rw[d,ag B,L])⟩
end
def hQ.sub{X:RC}{E:b3}{j:List (List UInt8×(Sl×PM))}{D D':List En}(F:hQ X E j D)(g:Sl)(d:∀z∈D,z∈D'):hQ {X with g:=g} E j D':=by
 obtain⟨⟨t,Y⟩,⟨A,q,M,S⟩,⟨B,w,N,T⟩,⟨C,x,O,W⟩,ms,P,h,L,y,K⟩:=F;refine⟨⟨d _ t,Y⟩,⟨A,q,d _ M,S⟩,⟨B,w,d _ N,T⟩,⟨C,x,d _ O,W⟩,ms,λQ J=>d _ (P Q J),?_,L,y,d _ K⟩;show match X.pm with
  |none=>E.pm=[]
  |some b=>∃e c,En.ob b (.map e c)∈D'/\dL e (E.pm.map iP)
 cases k:X.pm with
 |none=>rw[k]at h;exact h
 |some b=>
  rw[k]at h;obtain⟨e,c,G,H⟩:=h;exact⟨e,c,d _ G,H⟩
def iU(E:b3)(d:List (List UInt8×(Sl×PM)))(tm:aH->PR Nat)(p0:Nat):Prop:=∀(X:RC) (w:I) (D:List En) (s:aH) (l:List Nd),(bG X s).P w->g4 w X.rb D->hQ X E d D->gJ X l s D->e5 E s.g->p0<=s.p->s.p<E.T.length->s.tm<=65536->
 ah U sL #[.pointer (some (aa X.rb))] w (eH X l w (tm s) λk v _=>v=.i (k:Int))
def sP(w:I)(n:Nx)(v:V)(w':I):Prop:=∃d:Nd,d.x=n/\v=d.v/\d.P w'/\∀b∈(bE d).fp,w.heap.size<=b
section
variable {E:b3} {Ms:List (List UInt8×(Sl×PM))} {tm:aH->PR Nat} {p0:Nat}
def aa2(hC:iU E Ms tm p0)(hI:lx E tm p0){X0:RC}{l0:List Nd}{w:I}{x:PR Nx}{hd:Nx}{G H:Nat}{o0 o2 o3 o4 o6 o7 o8:Int}{o1:Sl}{o5:ByteArray}{N:Nat}(hN:N<=1000):∀(n i:Nat) (g:Sl) (B:I) (s:aH) (l:List Nd) (D:List En) (kd:List Int) (sl:Sl),
  O (·∈[X0.rb]) w B [bG {X0 with g:=g} s,.g G,.g H,.row bF 1 sl (kd.map bX)] D->hQ {X0 with g:=g} E Ms D->gJ {X0 with g:=g} l s D->e5 E s.g->p0<=s.p->s.p<E.T.length->s.tm<=65536->
  (∀b∈(En.gr g l).fp,b∈(En.gr X0.g l0).fp\/w.heap.size<=b)->i+n=N->kd.length=i->x=(gA tm n s).b (λks s=>.ok {hd with kids:=kd++ks} s)->
  vv.cA (aa X0.rb) G o0 o1 o2 o3 o4 o5 o6 o7 o8 H hd.op sl hd.n hd.m hd.u hd.tx hd.st.k hd.st.n hd.st.x (N:Int) (i:Int) B (eH X0 l0 w x (sP w)):=by
 intro n;induction n with
 |zero=>
  intro i g B s l D kd sl C L h A K Q S M hi hk q;refine vv.dU (aT (a7 io) (C.ae λw2 e=>?_));have q:x=.ok {hd with kids:=kd} s:=by rw[q];show PR.ok _ _=_;rw[df]
  refine o9 q (⟨⟨{hd with kids:=kd},sl⟩,rfl,rfl,lO (e.get 3),λb P=>?_⟩) (e.get 0) (bd.1 (e.rd _ h.d)) h.x ⟨h.v,h.n⟩ M e.fr;have ac:b∈(En.row bF 1 sl (kd.map bX)).fp:=by
   have:b∈(if kd.map bX=[]then[]else aG sl):=P;split at this
   .cases this
   .exact this
  refine(e.new _ (ay (i:=3) rfl) b ac).resolve_right λhr=>?_;exact jX e.nd (i:=3) (j:=0) rfl rfl dl b ac (by rw[cK.1 hr];simp[En.c,En.ob])
 |succ n ih=>
  intro i g B s l D kd sl C L h A K Q S M hi hk q;refine vv.dU (aR (a6 io) (C.ae λw2 e=>?_));have q:x=(tm s).b λk s=>(gA tm n s).b λl s=>.ok {hd with kids:=kd++((k:Int)::l)} s:=by
   rw[q];show PR.b (PR.b (tm s) _) _=_;cases tm s with
   |er y p=>rfl
   |ok k Z=>
    show PR.b (PR.b (gA tm n Z) _) _=PR.b (gA tm n Z) _;cases gA tm n Z<;>rfl
  refine nB (X:={X0 with g:=g}) e 0 rfl h.d (hC {X0 with g:=g} w2 D s l (e.get 0) (cY e (i:=0) rfl rfl) L h A K Q S) (λk Y z W v w3 y hv af P H3=>?_) (λy p w' er f=>fK (q.trans (gx er)) f);obtain⟨J,g2,g3⟩:=hI s k Y K Q S h.v A y;have hn:=oW (H3.get 3);subst hv;refine⟨_,rfl,H3.jo 3 pK rfl (λs2 w4 H4=>H4.ae λw5 F=>?_) io⟩;rw[bt _ io];refine ih (i+1) z w5 Y W (D++[.gr z W]) (kd++[(k:Int)]) s2 ?_ (L.sub z λy he=>cm _ he) af (A.up J.len) io J.l J.t.2 (λb ad=>(P b ad).elim (M b) .inr) io (by rw[bM,hk];rfl) ?_
  .have F:O (·∈[X0.rb]) w w5 [bG {X0 with g:=z} Y,.g G,.g H,.row bF 1 s2 (kd.map bX++[bX (k:Int)])] (D++[.gr z W]):=F;rw[fv];exact F
  .rw [q,fQ y];congr 1;funext ks s;rw[dS];rfl
end
def Ni{P:au}{T kt y:aD}{x:V}(e:nP P T kt y x){w:I}{h:Nat}{es:Array MapEntry}{clock:Nat}{ms:List (ByteArray×V)}(B:w.heap[h]? =some (.map es clock))(C:dL es ms)(k:ByteArray):
  (Instr.lookup T (.map (some h)) (.string k) false).run P w=.ok ((hg ms k).getD x) w:=by
 have z:=xg (k:=k) (i:=0) C;have A:(getObj h).run P w=.ok (.map es clock) w:=by simp[getObj,pe,B]
 have d:=HL (ms:=ms) (k:=k) (i:=0);unfold Instr.lookup Instr.findKey;simp only[Sem.run_bind,run_underlying e.hT,Result.andThen_ok,A,Sem.run_pure,zO e.hk,run_underlying e.hk,z];cases j:((ms.findIdx? λp=>ak (p.1=k)).bind λq=>(ms[q]?).map λp=>(0+q,p.2))with
 |none=>rw[j]at d;simp[<-d,CB e.hz]
 |some D=>rw[j]at d;simp[<-d]
def int_lt{T:List aN}(H:hS T){s y:aH}{n:Int}(q:s.p<T.length)(h:dw T s=.ok n y):0<=n/\n<10000000000000:=by obtain⟨t,C,j,k⟩:=bT h;cases k;obtain⟨d,e,z⟩:=qa j;obtain⟨B,w,x⟩:=H.i t (d▸(o8 q).1) e;have:=vB dl x t.text.length;rw[fW (bz _)]at this;have A:10^t.text.length<=10^13:=Nat.pow_le_pow_right dl w;omega
def abX:∀d∈fI,d.2.2<=3:=dl
def abZ(w:List UInt8):((lk fI w).getD (0,0)).2<=3:=by
 cases d:lk fI w with
 |none=>exact dg _
 |some v=>exact abX _ (j1 d)
section
variable {E:b3} {Ms:List (List UInt8×(Sl×PM))} {tm:aH->PR Nat} {p0:Nat} {X:RC}
def acx{N:Nat}(hS:mS N)(hN:N+1<=1000000)(hf:∀t∈E.T,t.kind=5->∀af,h4 t.text=.inr af->jw N (cO af.tp))(hC:iU E Ms tm p0)(hI:lx E tm p0){w:I}{D:List En}{s:aH}{l:List Nd}(wd:List UInt8)(j:(bG X s).P w)(hD:g4 w X.rb D)(hE:hQ X E Ms D)(hG:gJ X l s D)(hO:e5 E s.g)(h0:p0<=s.p)(L:s.p<E.T.length)(ai:s.tm<=65536):
  ah U F4 #[.pointer (some (aa X.rb)),.string (ba wd)] w (eH X l w (i5 E.T tm wd s) (sP w)):=by
 have K:=hE.tk;refine vv.aq ((j6 rfl j hD).aw λC w1 H1=>H1.aw λG w2 J=>?_);have J:O (·∈[X.rb]) w w2 [bG X s,.g C,.g G] D:=J;have hw:∀{e:Int} {p:Nat},ih E.T wd s=.er e p->i5 E.T tm wd s=.er e p:=λj=>gx j;have tail:∀{hd:Nx} {ar:Nat} {M:aH} {q:I},ih E.T wd s=.ok (hd,ar) M->hd.kids=[]->ar<=3->O (·∈[X.rb]) w q [bG X M,.g C,.g G] D->
   vv.aV (aa X.rb) C 0 ⟨none,0,0⟩ 0 0 0 (bh #[]) 0 0 0 G hd.op ⟨none,0,0⟩ hd.n hd.m hd.u hd.tx hd.st.k hd.st.n hd.st.x (ar:Int) q (eH X l w (i5 E.T tm wd s) (sP w)):=λ{hd ar M q} e hk ha h=>by
  have hm:p0<=M.p/\M.p<E.T.length/\M.tm<=65536/\M.g=s.g:=by
   rcases Mb K.e L e with m|rfl
   .exact ⟨by have:=m.p;omega,m.l,by rw[m.t];exact ai,m.g⟩
   .exact ⟨h0,L,ai,rfl⟩
  obtain⟨m1,m2,m3,m4⟩:=hm;refine aa2 (X0:=X) (l0:=l) (hd:=hd) hC hI (N:=ar) io ar 0 X.g q M l D [] ⟨none,0,0⟩ (h.iH bF 1) hE ⟨hG.d,by rw[m4];exact hG.x,by rw[m4];exact hG.v,by rw[m4];exact hG.n⟩ (by rw[m4];exact hO) m1 m2 m3 (λb j=>.inl j) io rfl ?_;exact fQ e
 have B:ih E.T wd s=(if wd=[110,117,109]then(dw E.T s).b λu s=>(dw E.T s).b λn s=>.ok (⟨1,[],0,0,u,ba [],aZ n⟩,0) s else
  if wd=[122,101,114,111]then(il E.T s).b λac s=>.ok (⟨3,[],0,0,0,ba [],ac⟩,0) s else
  if wd=[101,120,116,114,97,99,116]then(dw E.T s).b λn s=>(dw E.T s).b λm s=>.ok (⟨21,[],n,m,0,ba [],a5⟩,1) s else
  if wd=[122,101,120,116]then(dw E.T s).b λn s=>.ok (⟨22,[],n,0,0,ba [],a5⟩,1) s else
  if wd=[115,101,120,116]then(dw E.T s).b λn s=>.ok (⟨23,[],n,0,0,ba [],a5⟩,1) s else
  if wd=[98,121,116,101]then(dw E.T s).b λn s=>.ok (⟨28,[],n,0,0,ba [],a5⟩,1) s else
  if wd=[105,110]then(rr E.T s).b λr s=>.ok (⟨33,[],0,0,0,ba r,a5⟩,1) s else
  .ok (oX ((lk fI wd).getD (0,0)).1,((lk fI wd).getD (0,0)).2) s):=rfl
 have two:∀{F:Int->Int->Nx×Nat},ih E.T wd s=((dw E.T s).b λu s=>(dw E.T s).b λn s=>.ok (F u n) s)->∀{q:I} {R:Int->Int->I->Prop},O (·∈[X.rb]) w q [bG X s,.g C,.g G] D->
   (∀u n y z,0<=u->u<10000000000000->ih E.T wd s=.ok (F u n) y->O (·∈[X.rb]) w z [bG X y,.g C,.g G] D->R u n z)->
   mV [C,G] U q9 #[.pointer (some (aa X.rb))] (eH X l w (i5 E.T tm wd s) (sP w)) q λr z=>∃u,r=ab (.i u)/\loc [C,G] z λw5=>mV [C,G] U q9 #[.pointer (some (aa X.rb))] (eH X l w (i5 E.T tm wd s) (sP w)) w5 λr w6=>∃n,r=ab (.i n)/\loc [C,G] w6 λY=>R u n Y:=λ{F} H {q R} h hR=>
  eZ h 0 rfl (vD (h.get 0) (cY h (i:=0) rfl rfl) K L) (λu M z Z A=>⟨_,rfl,A.ae λw5 H5=>
   eZ H5 0 rfl (vD (H5.get 0) (cY H5 (i:=0) rfl rfl) K (lH K.e L Z).1.l) (λn y w6 W Q=>⟨_,rfl,Q.ae λY S=>
    hR u n y Y (int_lt K.e L Z).1 (int_lt K.e L Z).2 (by rw[H,fQ Z,fQ W]) S⟩) (λe p w' er f=>fK (hw (by rw[H,fQ Z];exact gx er)) f)⟩) (λe p w' er f=>fK (hw (by rw[H];exact gx er)) f)
 have one:∀{F:Int->Nx×Nat},ih E.T wd s=((dw E.T s).b λn s=>.ok (F n) s)->∀{q:I} {R:Int->I->Prop},O (·∈[X.rb]) w q [bG X s,.g C,.g G] D->
   (∀n y z,ih E.T wd s=.ok (F n) y->O (·∈[X.rb]) w z [bG X y,.g C,.g G] D->R n z)->
   mV [C,G] U q9 #[.pointer (some (aa X.rb))] (eH X l w (i5 E.T tm wd s) (sP w)) q λr z=>∃n,r=ab (.i n)/\loc [C,G] z λw5=>R n w5:=λ{F} H {q R} h hR=>
  eZ h 0 rfl (vD (h.get 0) (cY h (i:=0) rfl rfl) K L) (λn y w6 W Q=>⟨_,rfl,Q.ae λY S=>
    hR n y Y (by rw[H,fQ W]) S⟩) (λe p w' er f=>fK (hw (by rw[H];exact gx er)) f)
 refine ew (b:=[110,117,109]) (λj=>J.ae λq h=>two (F:=λu n=>(⟨1,[],0,0,u,ba [],aZ n⟩,0)) (B.trans (ag j)) h λu n y z u0 u1 e A=>?_) (λj=>?_)
 .have eu:aE .u64 u=u:=by rw[IntKind.wrap_u64];omega
  rw[eu];exact tail e rfl io A
 rw[ad j]at B;refine ew (b:=[122,101,114,111]) (λj=>J.ae λq h=>?_) (λj=>?_)
 .have H:=B.trans (ag j);exact eZ h 0 rfl (Hg (h.get 0) (cY h (i:=0) rfl rfl) K L) (λac y w6 W Q=>⟨_,_,_,rfl,Q.ae λY S=>tail (hd:=⟨3,[],0,0,0,ba [],ac⟩) (ar:=0) (by rw[H,fQ W]) rfl io S⟩) (λe p w' er f=>fK (hw (by rw[H];exact gx er)) f)
 rw[ad j]at B;refine ew (b:=[101,120,116,114,97,99,116]) (λj=>J.ae λq h=>two (F:=λn m=>(⟨21,[],n,m,0,ba [],a5⟩,1)) (B.trans (ag j)) h λu n y z u0 u1 e A=>tail e rfl io A) (λj=>?_);rw[ad j]at B;refine ew (b:=[122,101,120,116]) (λj=>J.ae λq h=>one (F:=λn=>(⟨22,[],n,0,0,ba [],a5⟩,1)) (B.trans (ag j)) h λn y z e A=>tail e rfl io A) (λj=>?_);rw[ad j]at B;refine ew (b:=[115,101,120,116]) (λj=>J.ae λq h=>one (F:=λn=>(⟨23,[],n,0,0,ba [],a5⟩,1)) (B.trans (ag j)) h λn y z e A=>tail e rfl io A) (λj=>?_);rw[ad j]at B;refine ew (b:=[98,121,116,101]) (λj=>J.ae λq h=>one (F:=λn=>(⟨28,[],n,0,0,ba [],a5⟩,1)) (B.trans (ag j)) h λn y z e A=>tail e rfl io A) (λj=>?_);rw[ad j]at B;refine ew (b:=[105,110]) (λj=>J.ae λq h=>?_) (λj=>J.ae λq h=>?_)
 .have H:=B.trans (ag j);exact eZ h 0 rfl (acA hS hN hf (h.get 0) (cY h (i:=0) rfl rfl) K L) (λac y w6 W Q=>⟨_,rfl,Q.ae λY S=>tail (hd:=⟨33,[],0,0,0,ba ac,a5⟩) (ar:=1) (by rw[H,fQ W]) rfl io S⟩) (λe p w' er f=>fK (hw (by rw[H];exact gx er)) f)
 rw[ad j]at B;obtain⟨es,c,hm,hs⟩:=hE.mo;have lu:∀{w':I},O (·∈[X.rb]) w w' [bG X s,.g C,.g G] D->pe U (Instr.lookup Il (.map (some X.mo)) (.string (ba wd)) false) w'=.ok (.agg #[.i ((lk fI wd).getD (0,0)).1,.i ((((lk fI wd).getD (0,0)).2:Nat):Int)]) w':=λ{w'} am=>by have hl:=Ni FE (am.rd _ hm) hs (ba wd);rw[sV,od λaj:Int×Nat=>Value.agg #[.i aj.1,.i (aj.2:Int)]]at hl;rw[hl];cases lk fI wd<;>rfl
 exact⟨_,h.ld 0 4,_,_,lu h,_,h.ld 0 4,_,_,lu h,h.ae λz A=>⟨lu A,A.ld 0 4,tail (hd:=oX ((lk fI wd).getD (0,0)).1) B rfl (abZ wd) A⟩⟩
end
abbrev ya(q:List UInt8×aM):List V:=[.string (ba q.1),.i q.2.k,.i q.2.n,.i q.2.x]
def GV{w:I}{s:Sl}{l:List (List UInt8×aM)}(e:bA 4 w s (fg l)){i:Nat}{q:List UInt8×aM}(hi:l[i]? =some q){A:Addr->Prop}(j:∀p,s.a=some p->w.cell? ((p.add (i *4)).add 0)=some (.string (ba q.1))->w.cell? ((p.add (i *4)).add 1)=some (.i q.2.k)->w.cell? ((p.add (i *4)).add 2)=some (.i q.2.n)->w.cell? ((p.add (i *4)).add 3)=some (.i q.2.x)->A p):i<s.n/\ea s.a A:=by have h:=e.1;unfold fg at h;rw[pO ya 4 λ_=>rfl]at h;have z:=(cP.1 hi).1;refine⟨io,gb.elem (f:=ya) (sz:=4) (λ_=>rfl) io e.2.2 hi λp y d=>j p y (d 0 _ rfl) (d 1 _ rfl) (d 2 _ rfl) (d 3 _ rfl)⟩
def sY{w:I}{s:Sl}{l:List (List UInt8×aM)}(e:bA 4 w s (fg l)):s.n=l.length:=by have d:=e.1;unfold fg at d;rw[pO ya 4 λ_=>rfl]at d;omega
def Jo:∀{ps:List (List UInt8×aM)} {az:List Int} {i:Nat} {q:List UInt8×aM} {a:Int},ps[i]? =some q->az[i]? =some a->(iW ps az)[i]? =some (q.1,a.toNat)
 |[],_,_,_,_,d,_=>by simp at d
 |_::_,[],_,_,_,_,d=>by simp at d
 |(p,h)::ps,b::az,0,q,a,d,e=>by simp at d e;subst d e;rfl
 |(p,h)::ps,b::az,i+1,q,a,d,e=>by have:=Jo (ps:=ps) (az:=az) (i:=i) (by simpa using d) (by simpa using e);simpa[iW]using this
def Jp:∀{ps:List (List UInt8×aM)} {az:List Int},az.length=ps.length->(iW ps az).map (·.1)=ps.map (·.1)
 |[],[],_=>rfl
 |[],_::_,d=>by simp at d
 |_::_,[],d=>by simp at d
 |(p,e)::ps,b::az,d=>by have:=Jp (ps:=ps) (az:=az) (by simpa using d);show p::(iW ps az).map (·.1)=_;rw[this];rfl
def Na{α:Type}:∀{l:List (List UInt8×α)} {t:List UInt8},t∉l.map (·.1)->lk l t=none
 |[],_,_=>rfl
 |(j,v)::l,t,d=>by unfold lk;rw[ad (λe=>d (by simp[e]))];exact Na λh=>d (dJ _ h)
def abq{α:Type}{l:List α}(e:l.Nodup){i:Nat}{a:α}(hi:l[i]? =some a):a∉l.take i:=λh=>by have d:=e;rw[<-List.take_append_drop i l,fh]at d;have:a∈l.drop i:=ay (i:=0) (by rw[List.getElem?_drop];exact hi);exact d.2.2 a h a this rfl
def lP{M:Nat->Prop}{w0 w:I}{L D:List En}(H:O M w0 w L D){o:Obj}{K:I->Prop}(e:∀d,O M w0 d (L++[.ob w.heap.size o]) D->K d):dh w o K:=
 e _ (H.push _ (Fr.alloc _ _ _) (m8 w o) (λb h=>by rw[cK.1 (show b∈[w.heap.size]from h)];exact bz _))
section
variable {E:b3} {Ms:List (List UInt8×(Sl×PM))} {tm:b3->aH->PR Nat} {X:RC}
abbrev hr(E:b3)(m:PM)(az:List Int):b3:={E with pm:=iW m.ps az,kn:=m.ix}
def RZ{q:Sl×PM}{t:List UInt8}(hq:lk Ms t=some q){sl:Sl}{az:List Int}(hB:iU (hr E q.2 az) Ms (tm (hr E q.2 az)) 0){w:I}{D:List En}{s:aH}{l:List Nd}(ap:(bG X s).P w)(hD:g4 w X.rb D)(hE:hQ X E Ms D)(W:gJ X l s D)(hO:e5 E s.g)(aJ:s.tm<=65536)(ha:En.rd sl (az.map bX)∈D)(ax:az.length=q.2.ps.length)(aj:∀Z∈az,0<=Z/\Z<(s.g.length:Int)):
  ah U AO #[.pointer (some (aa X.rb)),oS q,sl.v] w (eH X l w (h8 tm E q.2 az s) λk v _=>v=.i (k:Int)):=by
 have an:=j1 hq;obtain⟨o1,o2,o3,o4⟩:=hO.ms (t,q.2) (by rw[hE.ms];exact dn.2 ⟨_,an,rfl⟩);have af:En.a9 4 q.1 (fg q.2.ps)∈D:=hE.pr _ an;have o4:q.2.ps.length<=100000:=o4;have ag:h8 tm E q.2 az s=(tm (hr E q.2 az) {s with p:=q.2.b}).b λn s'=>.ok n {s' with p:=s.p}:=rfl;generalize hx:h8 tm E q.2 az s=Z at ag ⊢;have am:=Jp ax;have loop:∀(y K:Nat) (n i:Nat) (H:I) (es:Array MapEntry) (c:Nat),i+n=q.2.ps.length->dL es (((iW q.2.ps az).take i).map iP)->O (·∈[X.rb]) w H [bG {X with pm:=some y,kn:=(q.2.ix:Int)} {s with p:=q.2.b},.g K,.ob y (.map es c)] D->
   s4.cA (aa X.rb) sl (s.p:Int) X.pm X.kn q.1 (q.2.ps.length:Int) (i:Int) H (eH X l w Z λk v _=>v=.i (k:Int)):=by
  intro y K n;induction n with
  |zero=>
   intro i H es c hi hs J;refine s4.dU (aT (a7 io) ?_);have S:=J.freeze 2 (.ob y (.map es c)) rfl (J.get 2) (λb B=>B);have S:O (·∈[X.rb]) w H [bG {X with pm:=some y,kn:=(q.2.ix:Int)} {s with p:=q.2.b},.g K] (D++[.ob y (.map es c)]):=S;have aC:(iW q.2.ps az).take i=iW q.2.ps az:=fW (by have:=congrArg List.length am;rw[vC,vC]at this;omega)
   rw[aC]at hs;have up:∀z∈D,z∈D++[En.ob y (.map es c)]:=λz he=>cm _ he;have ar:hQ {X with pm:=some y,kn:=(q.2.ix:Int)} (hr E q.2 az) Ms (D++[.ob y (.map es c)]):=by have:=hE.sub X.g up;exact⟨⟨this.tk.t,this.tk.e⟩,this.mo,this.mv,this.mm,this.ms,this.pr,⟨es,c,db _ (cK.2 rfl),hs⟩,rfl,this.dp,this.kc⟩
   have av:e5 (hr E q.2 az) s.g:=⟨hO.T,hO.vs,Dr aj,hO.ms⟩;refine nB (X:={X with pm:=some y,kn:=(q.2.ix:Int)}) (bs:=[]) S 0 rfl (cm _ W.d) (hB _ H _ {s with p:=q.2.b} l (S.get 0) (cY S (i:=0) rfl rfl) ar ⟨cm _ W.d,W.x,W.v,W.n⟩ av (dg _) o2 aJ) (λk s' g' l' v L z hv ac aA h=>?_) (λz p w' er f=>fK (ag.trans (gx er)) f);subst hv;refine⟨_,rfl,h.st 0 1 rfl (λM F=>F.st 0 7 rfl (λw5 N=>N.st 0 8 rfl (λw6 G=>?_)))⟩;exact o9 (ag.trans (fQ z)) rfl (G.get 0) (bd.1 (G.rd _ ac.d)) ac.x ⟨ac.v,ac.n⟩ aA G.fr
  |succ n ih=>
   intro i H es c hi hs J;have Y:q.2.ps[i]? =some (q.2.ps[i]'io):=a0 io;have ad:az[i]? =some (az[i]'io):=a0 io;generalize q.2.ps[i]'io=pr at Y;generalize az[i]'io=a at ad;have aB:=Jo Y ad;have aL:=(aj a (ay ad)).1;have aG:hg (((iW q.2.ps az).take i).map iP) (ba pr.1)=none:=by
    rw[show((iW q.2.ps az).take i).map iP=((iW q.2.ps az).take i).map λq=>(ba q.1,(λn:Nat=>Value.i (n:Int)) q.2)from rfl,od λn:Nat=>Value.i (n:Int),Na]
    .rfl
    .rw [List.map_take,am];exact abq o3 (by rw[List.getElem?_map,Y];rfl)
   have aI:=GV (J.rd _ af) Y (A:=λ_=>True) (λ_ _ _ _ _ _=>trivial);refine s4.dU (aR (a6 io) ⟨io,by have:i<q.1.n:=aI.1;omega,(GV (J.rd _ af) Y λp hp c0 c1 c2 c3=>⟨ba pr.1,pr.2.k,pr.2.n,pr.2.x,by rw[cb];exact c0,by rw[cb];exact c1,by rw[cb];exact c2,by rw[cb];exact c3,J.aw λaK w2 C=>C.ae λL h=>?_⟩).2⟩);have ao:bJ L sl az:=h.rd _ ha;have aN:=ao.len;refine⟨_,h.ld 0 7,io,io,ao.cell ad (by rw[cb]) λp' aM hc=>⟨a,hc,?_⟩⟩;obtain⟨M,ai,u1,u2,u3,u4,_⟩:=rD va (h.ob 2) hs (ba pr.1) (.i a) aG;have F:=h.fy 2 (.ob y (.map ai (c+1))) rfl (u4.mono λZ _ z=>by simp[En.ob,z]) u2 (λb B=>.inl B);refine⟨M,u1,?_,?_⟩
   .intro b B;refine u4.cv b ((En.g b).lt L (h.own (.g b) (by simp only[cK]at B;subst B;simp)) b (by simp[En.g])) λz=>?_;simp only[cK]at B;subst B;exact jX h.nd (i:=3) (j:=2) rfl rfl dl b (by simp[En.g]) (by simp[En.ob,z])
   .rw [bt _ io];refine ih (i+1) M ai (c+1) io ?_ (F.take 3);rw[v3 aB,fv];have e1:([(pr.1,a.toNat)]:List (List UInt8×Nat)).map iP=[(ba pr.1,.i a)]:=by show[(ba pr.1,Value.i (a.toNat:Int))]=_;rw[show(a.toNat:Int)=a by omega]
    rw[e1];exact u3
 refine s4.aq ((j6 rfl ap hD).aw λK H H1=>H1.ae λw2 C=>⟨_,C.ld 0 1,_,C.ld 0 7,_,C.ld 0 8,C.ae λL h=>?_,C.ae λL h=>?_⟩)
 .refine lP h λM F=>F.h0 0 1 rfl (λw5 N=>N.h0 0 7 rfl (λw6 G=>G.h0 0 8 rfl (λw7 Q=>?_)));show s4.cA _ _ _ _ _ _ (q.1.n:Int) _ _ _;rw[sY (Q.rd _ af)];exact loop L.heap.size K q.2.ps.length 0 w7 #[] 0 io rfl Q
 .refine h.h0 0 1 rfl (λM F=>lP F λw5 N=>N.h0 0 7 rfl (λw6 G=>G.h0 0 8 rfl (λw7 Q=>?_)));show s4.cA _ _ _ _ _ _ (q.1.n:Int) _ _ _;rw[sY (Q.rd _ af)];exact loop M.heap.size K q.2.ps.length 0 w7 #[] 0 io rfl Q
end
def Ay{α β:Type}(f:α->β):∀(l:List (List UInt8×α)) (t:List UInt8),lk (l.map λd=>(d.1,f d.2)) t=(lk l t).map f
 |[],_=>rfl
 |(e,v)::l,t=>by
  show(if e=t then some (f v)else lk (l.map λd=>(d.1,f d.2)) t)=(if e=t then some v else lk l t).map f;split
  .rfl
  .exact Ay f l t
def aay{P:au}{T kt h:aD}{e:V}(d:nP P T kt h e)(k:ByteArray)(w:I):
  (Instr.lookup T (.map none) (.string k) true).run P w=.ok (.tuple #[e,.bool false]) w:=by have j:=xg (k:=k) (es:=[]) (ms:=[]) (i:=0) rfl;unfold Instr.lookup Instr.findKey;simp[j,Sem.run_bind,run_underlying d.hT,zO d.hk,run_underlying d.hk,CB d.hz]
section
variable {E:b3} {Ms:List (List UInt8×(Sl×PM))} {tm:b3->aH->PR Nat} {X:RC}
def Nr(h:E.ms=Ms.map λd=>(d.1,d.2.2))(t:List UInt8):(xB Ms E.kn t=false->ik E t=none)/\(xB Ms E.kn t=true->∃d,lk Ms t=some d/\ng Ms t=d/\ik E t=some d.2/\d.2.ix<E.kn):=by
 unfold xB ik ng;rw[h,Ay (λd:Sl×PM=>d.2)];cases e:lk Ms t with
 |none=>exact⟨λ_=>rfl,λe=>by cases e⟩
 |some d=>
  show(ak (d.2.ix<E.kn)=false->(if d.2.ix<E.kn then some d.2 else none)=none)/\(ak (d.2.ix<E.kn)=true->_);refine⟨λe=>ad (l5 e),λe=>⟨d,rfl,rfl,ag (fk e),fk e⟩⟩
abbrev kV(k:Nat)(v:V)(_:I):Prop:=v=.i (k:Int)
def acw{t:aN}(an:∀t h,lk Ms t=some h->h.2.ix<E.kn->∀ac,iU (hr E h.2 ac) Ms (tm (hr E h.2 ac)) 0){w:I}{D:List En}{s:aH}{l:List Nd}(T:(bG X s).P w)(hD:g4 w X.rb D)(q:hQ X E Ms D)(y:gJ X l s D)(hO:e5 E s.g)(ax:s.tm<=65536):
  ah U F3 #[.pointer (some (aa X.rb)),mI t] w (eH X l w (lK tm E t s) kV):=by
 have look:∀{w':I} {L:List En} {ms:List (List UInt8×Nat)} {b:Nat} {es:Array MapEntry} {c:Nat},O (·∈[X.rb]) w w' L D->En.ob b (.map es c)∈D->dL es (ms.map iP)->pe U (Instr.lookup Cc (.map (some b)) (.string (ba t.text)) true) w'=.ok (.tuple #[.i (((lk ms t.text).getD 0:Nat):Int),.bool (lk ms t.text).isSome]) w':=λ{w' L ms b es c} z B C=>by have hl:=sI va (z.rd _ B) C (ba t.text);rw[show ms.map iP=ms.map λh=>(ba h.1,(λn:Nat=>Value.i (n:Int)) h.2)from rfl,od λn:Nat=>Value.i (n:Int)]at hl;rw[hl];cases lk ms t.text<;>rfl
 have done:∀{n:Nat} {w':I} {L:List En},lK tm E t s=.ok n s->O (·∈[X.rb]) w w' (bG X s::L) D->eH X l w (lK tm E t s) kV (ab (.i (n:Int))) w':=λ{n w' L} j z=>
  o9 j rfl (z.get 0) (bd.1 (z.rd _ y.d)) y.x ⟨y.v,y.n⟩ (λb T=>.inl T) z.fr
 refine Rq.aq ((j6 rfl T hD).aw λb3 w1 H1=>H1.ae λw2 F=>⟨X.pm,F.ld 0 7,(((lk E.pm t.text).getD 0:Nat):Int),(lk E.pm t.text).isSome,?_,?_⟩)
 .have M:=q.pm;cases K:X.pm with
  |none=>
   rw[K]at M;rw[show E.pm=[]from M];exact aay va _ _
  |some b=>
   rw[K]at M;obtain⟨es,c,B,C⟩:=M;exact look F B C
 have e:lK tm E t s=match lk E.pm t.text with
  |some n=>.ok n s
  |none=>match lk E.vs t.text with
   |some n=>.ok n s
   |none=>match ik E t.text with
    |some m=>if m.ps=[]then h8 tm E m [] s else .er 6 t.a4
    |none=>.er 6 t.a4:=rfl
 cases ai:lk E.pm t.text with
 |some n=>
  rw[ai]at e;exact aR rfl (done e F)
 |none=>
  rw[ai]at e;obtain⟨es,c,B,C⟩:=q.mv;refine aT rfl (F.ae λw3 k=>⟨some X.mv,k.ld 0 5,_,_,look k B C,?_⟩);cases am:lk E.vs t.text with
  |some n=>
   rw[am]at e;exact aR rfl (done e k)
  |none=>
   rw[am]at e;have af:=Nr q.ms t.text;refine aT rfl (k.av (R1 (k.get 0) (cY k (i:=0) rfl rfl) q t.text) ?_);rintro _ w4 rfl H4;refine⟨_,_,_,_,rfl,H4.aw λb9 w5 G=>eS (λY=>?_) (λY=>?_)⟩
   .have e:=e.trans (by rw[af.1 Y]);exact G.ae λN A=>gy A (jM _ 6 t N) λw' f=>fK e f
   .obtain ⟨h,Z,q2,q3,q4⟩:=af.2 Y;rw[q3]at e;rw[q2];have ar:En.a9 4 h.1 (fg h.2.ps)∈D:=q.pr _ (j1 Z);have aj:h.1.n=h.2.ps.length:=sY (G.rd _ ar);refine aS (λaA=>?_) (λhz=>?_)
    .have ap:h.2.ps≠[]:=λj=>by rw[j]at aj;simp at aj;omega
     exact G.ae λN A=>gy A (jM _ 6 t N) λw' f=>fK (e.trans (ad ap)) f
    .have J:h.2.ps=[]:=Hc io;refine G.ae λN A=>?_;have Q:=A.eO (.rd ⟨none,0,0⟩ (([]:List Int).map bX)) (Fr.refl _ _) (Rd.nil _) (λb W=>by cases W);have up:∀j∈D,j∈D++[En.rd ⟨none,0,0⟩ (([]:List Int).map bX)]:=λj J=>cm _ J;have e:=e.trans (ag J);have ao:hQ X E Ms (D++[En.rd ⟨none,0,0⟩ (([]:List Int).map bX)]):=q.sub X.g up;have hc:=RZ (X:=X) (tm:=tm) (az:=[]) Z (an _ h Z q4 []) (Q.get 0) (cY Q (i:=0) rfl rfl) ao (y.sub up) hO ax (db _ (cK.2 rfl)) (by rw[J];rfl) (λaG K=>by cases K);generalize aB:h8 tm E h.2 [] s=xx at hc e;refine nB (X:=X) (x:=xx) Q 0 rfl (up _ y.d) hc (λaC s' g' l' v w8 j hv H W S=>?_) (λj p w' er f=>fK (e.trans er) f);subst hv;exact⟨_,rfl,o9 (e.trans j) rfl (S.get 0) (bd.1 (S.rd _ H.d)) H.x ⟨H.v,H.n⟩ W S.fr⟩
end
section
variable {E:b3} {Ms:List (List UInt8×(Sl×PM))} {tm:b3->aH->PR Nat} {X:RC} {p0:Nat}
def ZF{t:aN}{q:Sl×PM}{tx:List UInt8}(q1:lk Ms tx=some q){sl:Sl}{zs:List Int}(hB:iU (hr E q.2 zs) Ms (tm (hr E q.2 zs)) 0){l0:List Nd}{w:I}{x:PR Nat}{H J:Nat}{g:Sl}{s:aH}{l:List Nd}{D:List En}(L:hQ {X with g:=g} E Ms D)(B:gJ {X with g:=g} l s D)(hO:e5 E s.g)(ap:s.tm<=65536)(N:∀b∈(En.gr g l).fp,b∈(En.gr X.g l0).fp\/w.heap.size<=b)(hz:zs.length=q.2.ps.length)(ha:∀a∈zs,0<=a/\a<(s.g.length:Int)):∀(n i:Nat) (A:I),i+n=q.2.ps.length->
  O (·∈[X.rb]) w A [bG {X with g:=g} s,.g H,.g J,.row bF 1 sl (zs.map bX)] D->(x=if jO s.g (q.2.ps.drop i) (zs.drop i)then h8 tm E q.2 zs s else .er 9 t.a4)->
  qg.l7 (aa X.rb) H t.kind (ba t.text) t.a4 J q.1 (q.2.b:Int) (q.2.ix:Int) sl q.1 (q.1.n:Int) (i:Int) A (eH X l0 w x kV):=by
 have S:En.a9 4 q.1 (fg q.2.ps)∈D:=L.pr _ (j1 q1);obtain⟨_,_,_,o4⟩:=hO.ms (tx,q.2) (by rw[L.ms];exact dn.2 ⟨_,j1 q1,rfl⟩);have o4:q.2.ps.length<=100000:=o4;intro n;induction n with
 |zero=>
  intro i A hi h e;have an:q.1.n=q.2.ps.length:=sY (h.rd _ S);refine qg.qF (aT (a7 io) ?_);have e:x=h8 tm E q.2 zs s:=by rw[e,dH (show q.2.ps.length<=i by omega)];exact ag rfl
  have j:=h.freeze 3 (.rd sl (zs.map bX)) rfl (lO (h.get 3)) (λb N=>by
   have:b∈(if zs.map bX=[]then[]else aG sl):=N;split at this
   .cases this
   .exact this)
  have j:O (·∈[X.rb]) w A [bG {X with g:=g} s,.g H,.g J] (D++[.rd sl (zs.map bX)]):=j;have T:∀z∈D,z∈D++[En.rd sl (zs.map bX)]:=λz P=>cm _ P;have F:=RZ (X:={X with g:=g}) (tm:=tm) (az:=zs) q1 hB (j.get 0) (cY j (i:=0) rfl rfl) (L.sub g T) (B.sub T) hO ap (db _ (cK.2 rfl)) hz ha;generalize aB:h8 tm E q.2 zs s=xx at F e;refine nB (X:={X with g:=g}) (x:=xx) j 0 rfl (T _ B.d) F (λaC s' g' l' v w8 z hv C aj G=>?_) (λz p w' er f=>fK (e.trans er) f);subst hv;exact⟨_,rfl,o9 (e.trans z) rfl (G.get 0) (bd.1 (G.rd _ C.d)) C.x ⟨C.v,C.n⟩ (λb K=>(aj b K).elim (N b) .inr) G.fr⟩
 |succ n ih=>
  intro i A hi h e;have an:q.1.n=q.2.ps.length:=sY (h.rd _ S);have ai:q.2.ps[i]? =some (q.2.ps[i]'io):=a0 io;have M:zs[i]? =some (zs[i]'io):=a0 io;have Y:q.2.ps.drop i=(q.2.ps[i]'io)::q.2.ps.drop (i+1):=dG io;have Z:zs.drop i=(zs[i]'io)::zs.drop (i+1):=dG io;generalize q.2.ps[i]'io=pr at ai Y;generalize zs[i]'io=a at M Z;obtain⟨aq,a1⟩:=ha a (ay M);have ac:=B.x;have av:l.length=s.g.length:=by rw[<-ac];simp[xs]
  have Q:l[a.toNat]? =some (l[a.toNat]'io):=a0 io;generalize l[a.toNat]'io=nd at Q;have ao:s.g[a.toNat]? =some nd.x:=by rw[<-ac];exact pa Q
  rw[Y,Z]at e;have e:x=if(ak ((s.g[a.toNat]?).map (·.st)=some pr.2)&&jO s.g (q.2.ps.drop (i+1)) (zs.drop (i+1)))=true then h8 tm E q.2 zs s else .er 9 t.a4:=e;rw[ao]at e;refine qg.qF (aR (a6 io) ⟨io,io,(GV (h.rd _ S) ai λp hp c0 c1 c2 c3=>⟨ba pr.1,pr.2.k,pr.2.n,pr.2.x,by rw[cb];exact c0,by rw[cb];exact c1,by rw[cb];exact c2,by rw[cb];exact c3,h.aw λar w2 j=>j.ae λW y=>?_⟩).2⟩);have af:bJ W sl zs:=lO (y.get 3);have aA:=af.len;refine⟨g,by rw[add_add];exact y.ld 0 2,io,io,af.cell M (by rw[cb]) λp' ax F=>⟨a,F,?_⟩⟩;refine eJ (bd.1 (y.rd _ B.d)) (X:=a) (i:=a.toNat) io Q (λp hp c=>⟨nd.x.st.k,nd.x.st.n,nd.x.st.x,c.s0,c.s1,c.s2,?_⟩);refine yt (λam=>gy y (jM _ 9 t W) λw' f=>fK (e.trans (ad (by simp;intro K;exact absurd K am))) f) (λP=>?_);show qg.l7 _ _ _ _ _ _ _ _ _ _ _ _ (aE .i64 ((i:Int)+1)) _ _;rw[bt _ io];exact ih (i+1) W io (y.take 4) (by rw[e];simp[P])
def aez{α:Type}{l:List α}{i:Nat}(d:i<l.length)(a:α):(l.set i a).take (i+1)=l.take i++[a]:=by rw[v3 (c:=a) (by rw[List.getElem?_set_self d]),List.take_set_of_le (bz i)]
def ZE(hC:iU E Ms (tm E) p0)(hI:lx E (tm E) p0){t:aN}{q:Sl×PM}{tx:List UInt8}(q1:lk Ms tx=some q)(hB:∀Y,iU (hr E q.2 Y) Ms (tm (hr E q.2 Y)) 0){sl:Sl}{l0:List Nd}{w:I}{x:PR Nat}{Z b7:Nat}(hN:q.2.ps.length<=100000):∀(n i:Nat) (g:Sl) (G:I) (s:aH) (l:List Nd) (D:List En) (zs:List Int),i+n=q.2.ps.length->zs.length=q.2.ps.length->
  O (·∈[X.rb]) w G [bG {X with g:=g} s,.g Z,.g b7,.row bF 1 sl (zs.map bX)] D->hQ {X with g:=g} E Ms D->gJ {X with g:=g} l s D->e5 E s.g->p0<=s.p->s.p<E.T.length->s.tm<=65536->(∀b∈(En.gr g l).fp,b∈(En.gr X.g l0).fp\/w.heap.size<=b)->(∀a∈zs.take i,0<=a/\a<(s.g.length:Int))->
  (x=(gA (tm E) n s).b λA s=>(bU E.T 1 s).b λ_ s=>if jO s.g q.2.ps (zs.take i++A)then h8 tm E q.2 (zs.take i++A) s else .er 9 t.a4)->
  qg.cA (aa X.rb) Z t.kind (ba t.text) t.a4 b7 q.1 (q.2.b:Int) (q.2.ix:Int) sl (q.2.ps.length:Int) (i:Int) G (eH X l0 w x kV):=by
 intro n;induction n with
 |zero=>
  intro i g G s l D zs hi P y C j z M F K N J h;have ht:zs.take i=zs:=fW io;rw[ht]at J;have h:x=(bU E.T 1 s).b λ_ s=>if jO s.g q.2.ps zs then h8 tm E q.2 zs s else .er 9 t.a4:=by rw[h,ht];show(bU E.T 1 s).b _=_;rw[df]
  refine qg.dU (aT (a7 io) (eZ (X:={X with g:=g}) y 0 rfl (ja (y.get 0) (cY y (i:=0) rfl rfl) C.tk F) (λc Q w2 e H2=>⟨_,_,_,rfl,?_⟩) (λe p w' er f=>fK (h.trans (gx er)) f)));have m:=eB z.T F dl e;exact ZF q1 (hB zs) C ⟨j.d,by rw[m.g];exact j.x,by rw[m.g];exact j.v,by rw[m.g];exact j.n⟩ (by rw[m.g];exact z) (by rw[m.t];exact K) N P (by rw[m.g];exact J) q.2.ps.length 0 w2 io H2 (h.trans (fQ e))
 |succ n ih=>
  intro i g G s l D zs hi P y C j z M F K N J h;have h:x=(tm E s).b λk s=>(gA (tm E) n s).b λA s=>(bU E.T 1 s).b λ_ s=>if jO s.g q.2.ps (zs.take i++((k:Int)::A))then h8 tm E q.2 (zs.take i++((k:Int)::A)) s else .er 9 t.a4:=by
   rw[h];show PR.b (PR.b (tm E s) _) _=_;cases tm E s with
   |er e p=>rfl
   |ok k S=>
    show PR.b (PR.b (gA (tm E) n S) _) _=PR.b (gA (tm E) n S) _;cases gA (tm E) n S<;>rfl
  refine qg.dU (aR (a6 io) (nB (X:={X with g:=g}) y 0 rfl j.d (hC {X with g:=g} G D s l (y.get 0) (cY y (i:=0) rfl rfl) C j z M F K) (λk Q L l' v w3 e hv ae ag W=>?_) (λe p w' er f=>fK (h.trans (gx er)) f)));obtain⟨H,g2,g3⟩:=hI s k Q M F K j.v z e;subst hv;have ac:bJ w3 sl zs:=lO (W.get 3);have am:=ac.len;have aj:zs[i]? =some (zs[i]'io):=a0 io;refine⟨_,rfl,io,io,ac.cell aj rfl λp' ai hc=>?_⟩;rw[cb,Nat.mul_one];refine W.qn 3 i rfl ai (by rw[vC];omega) (λw4 H4=>?_);rw[bt _ io];have ad:=aez (l:=zs) (i:=i) io (k:Int);refine ih (i+1) L w4 Q l' (D++[.gr L l']) (zs.set i (k:Int)) io (by rw[List.length_set];exact P) ?_ (C.sub L λe he=>cm _ he) ae (z.up H.len) io H.l H.t.2 (λb B=>(ag b B).elim (N b) .inr) ?_ ?_
  .rw [List.map_set];exact H4
  .rw [ad];intro a af;have:=H.len;rcases aP.1 af with B|B
   .have:=J a B;omega
   .rw [cK.1 B];omega
  .rw [h,fQ e,ad];congr 1;funext A s;rw[dS];rfl
end
section
variable {E:b3} {Ms:List (List UInt8×(Sl×PM))} {tm:b3->aH->PR Nat} {X:RC} {p0:Nat}
def acq(hC:iU E Ms (tm E) p0)(hI:lx E (tm E) p0){t wd:aN}(ac:∀t d,lk Ms t=some d->d.2.ix<E.kn->∀k,iU (hr E d.2 k) Ms (tm (hr E d.2 k)) 0){w:I}{D:List En}{s:aH}{l:List Nd}(J:(bG X s).P w)(hD:g4 w X.rb D)(x:hQ X E Ms D)(hG:gJ X l s D)(Q:e5 E s.g)(h0:p0<=s.p)(hp:s.p<E.T.length)(ag:s.tm<=65536):
  ah U FU #[.pointer (some (aa X.rb)),mI t,mI wd] w (eH X l w (pB tm E t wd s) kV):=by
 have y:pB tm E t wd s=match ik E wd.text with
  |none=>.er 6 wd.a4
  |some m=>(gA (tm E) m.ps.length s).b λk s=>(bU E.T 1 s).b λ_ s=>if jO s.g m.ps k then h8 tm E m k s else .er 9 t.a4:=rfl
 have S:=Nr x.ms wd.text;refine qg.aq ((j6 rfl J hD).aw λB w1 Z=>Z.aw λq w2 H=>H.av (R1 (H.get 0) (cY H (i:=0) rfl rfl) x wd.text) ?_);rintro _ w3 rfl H3;refine⟨_,_,_,_,rfl,H3.aw λC w4 M=>eS (λK=>?_) (λK=>?_)⟩
 .have y:=y.trans (by rw[S.1 K]);exact M.ae λe j=>gy j (jM _ 6 wd e) λw' f=>fK y f
 .obtain ⟨d,F,q2,q3,q4⟩:=S.2 K;rw[q3]at y;rw[q2];have af:En.a9 4 d.1 (fg d.2.ps)∈D:=x.pr _ (j1 F);obtain⟨_,_,_,L⟩:=Q.ms (wd.text,d.2) (by rw[x.ms];exact dn.2 ⟨_,j1 F,rfl⟩);have L:d.2.ps.length<=100000:=L;refine M.ae λe j=>?_;have ad:d.1.n=d.2.ps.length:=sY (j.rd _ af);have z:=j.freeze 2 (.g q) rfl (j.get 2) (λb h=>h);have z:O (·∈[X.rb]) w e [bG X s,.g B,.g C] (D++[.g q]):=z;have Y:∀N∈D,N∈D++[En.g q]:=λN he=>cm _ he;obtain⟨G,r1,r2,W⟩:=FC pK e d.2.ps.length io;have A:=z.G' W r2 (by intro b h;simp[aG]at h;omega);rw[Ns (.int .i64 0) d.2.ps.length rfl]at A;have kp:kept [B,C] e G:=λb h=>by
   have hg:En.g b∈[bG X s,En.g B,En.g C]:=by simp only[aF,aW,a2]at h ⊢;rcases h with rfl|rfl<;>simp
   exact W.cv b ((En.g b).lt e (z.own _ hg) b (by simp[En.g])) id
  refine⟨⟨some (aa e.heap.size),d.2.ps.length,d.2.ps.length⟩,G,by rw[ad];exact r1,kp,?_⟩;have A:O (·∈[X.rb]) w G [bG X s,.g B,.g C,.row bF 1 ⟨some (aa e.heap.size),d.2.ps.length,d.2.ps.length⟩ ((List.replicate d.2.ps.length (0:Int)).map bX)] (D++[.g q]):=by rw[List.map_replicate];exact A
  exact ZE hC hI F (ac _ d F q4) L d.2.ps.length 0 X.g G s l (D++[.g q]) (List.replicate d.2.ps.length 0) io (by rw[List.length_replicate]) A (x.sub X.g Y) (hG.sub Y) Q h0 hp ag (λb J=>.inl J) (λa ha=>by cases ha) y
end
def V2{M:Nat->Prop}{w0 w w':I}{L D:List En}(H:O M w0 w L D)(i:Nat){e k:En}(z:List En)(hi:L[i]? =some e)(f:Fr (·∈e.fp) w w')(G:k.P w')(C:k.fp=e.fp)(hd:∀y∈z,y.P w'/\∀b∈y.fp,w.heap.size<=b\/∃g∈D,b∈g.fp):O M w0 w' (L.set i k) (D++z):=by
 have h:=H.fy i k hi f G (λb J=>.inl (C▸J));refine⟨h.fr,h.own,λg d=>?_,h.new,h.nd,λg d b B q x j=>?_⟩
 .rcases aP.1 d with d|d
  .exact h.rd g d
  .exact (hd g d).1
 .rcases aP.1 d with d|d
  .exact h.dj g d b B q x j
  .rcases (hd g d).2 b B with A|⟨E,K,A⟩
   .have:b<w.heap.size:=by
     rcases List.mem_or_eq_of_mem_set x with F|rfl
     .exact q.lt w (H.own q F) b j
     .rw [C]at j;exact e.lt w (H.own e (ay hi)) b j
    omega
   .exact h.dj E K b A q x j
section
variable {E:b3} {Ms:List (List UInt8×(Sl×PM))} {tm:b3->aH->PR Nat} {X:RC} {p0:Nat}
def aa6{M:Nat->Prop}{w0 w:I}{L D:List En}{bs:List Nat}{l:List Nd}(H:O M w0 w L D)(i:Nat){s:aH}{x:PR Nx}{P:au}{f:b5}{args:Array V}{R K:aC}(hi:L[i]? =some (bG X s))(N:En.gr X.g l∈D)(E:ah P f args w (eH X l w x (sP w)))(S:∀y h k (d:Nd) j,x=.ok d.x y->gJ {X with g:=h} k y (D++[.gr h k,bE d])->(∀b∈(En.gr h k).fp,b∈(En.gr X.g l).fp\/w0.heap.size<=b)->O M w0 j (L.set i (bG {X with g:=h} y)) (D++[.gr h k,bE d])->K (ab d.v) j)(J:∀q p j,x=.er q p->Fr M w0 j->R (.panicked (i2 q p)) j)(C:∀b∈bs,En.g b∈L.eraseIdx i:=by simp):mV bs P f args R w K:=by
 refine E.mono λr j e=>?_;unfold eH at e;split at e
 .rename_i a y;obtain⟨v,rfl,⟨d,rfl,rfl,G,F⟩,h,k,T,Q,W,B,z,f⟩:=e;refine .inr ⟨⟨_,rfl⟩,Fh H hi f C,S y h k d j rfl ⟨db _ us,W,B.1,B.2⟩ (λb e=>(z b e).imp id λe=>bI H.fr.size e) (V2 H i [.gr h k,bE d] hi f T rfl λq A=>?_)⟩;simp only[aF,aW,a2]at A;rcases A with rfl|rfl
  .exact ⟨bd.2 Q,λb e=>(z b e).elim (λe=>.inr ⟨_,N,e⟩) .inl⟩
  .exact ⟨G,λb e=>.inl (F b e)⟩
 .rename_i q p;obtain⟨rfl,f⟩:=e;exact .inl ⟨_,rfl,J q p j rfl (EO H hi f)⟩
abbrev gM(E:b3):b3:={E with dp:=E.dp+1}
def acs{N:Nat}(hS:mS N)(hN:N+1<=1000000)(hf:∀t∈E.T,t.kind=5->∀ao,h4 t.text=.inr ao->jw N (cO ao.tp))(aG:∀K s n G,i5 E.T (tm (gM E)) K s=.ok n G->kz n)(hC:iU (gM E) Ms (tm (gM E)) p0)(hI:lx (gM E) (tm (gM E)) p0)(aB:∀t Y,lk Ms t=some Y->Y.2.ix<E.kn->∀az,iU (hr (gM E) Y.2 az) Ms (tm (hr (gM E) Y.2 az)) 0){t:aN}{w:I}{D:List En}{s:aH}{l:List Nd}(ai:(bG X s).P w)(hD:g4 w X.rb D)(j:hQ X E Ms D)(Q:gJ X l s D)(F:e5 E s.g)(aL:p0<=s.p)(hp:s.p<E.T.length)(aJ:s.tm<=65536):
  ah U FY #[.pointer (some (aa X.rb)),mI t] w (eH X l w (mb tm E t s) kV):=by
 have h:mb tm E t s=if 64<=E.dp then .er 4 t.a4 else
  (bU E.T 2 s).b λw s=>if jy w.text then(i5 E.T (tm (gM E)) w.text s).b λn s=>(bU E.T 1 s).b λ_ s=>ej s n t
   else pB tm (gM E) t w s:=rfl
 have aM:=j.dp;refine GY.aq ((j6 rfl ai hD).aw λb3 w1 L=>⟨_,L.ld 0 9,aS (λaA=>gy L (jM _ 4 t w1) λw' f=>fK (h.trans (ag io)) f) (λaA=>⟨_,L.ld 0 9,L.h0 0 9 rfl (λw2 z=>?_)⟩)⟩);rw[ad io]at h;rw[bt _ io]at z;have z:O (·∈[X.rb]) w w2 [bG {X with dp:=X.dp+1} s,.g b3] D:=z;have H:hQ {X with dp:=X.dp+1} (gM E) Ms D:=⟨⟨j.tk.t,j.tk.e⟩,j.mo,j.mv,j.mm,j.ms,j.pr,j.pm,j.kn,by show X.dp+1=E.dp+1;omega,j.kc⟩;have aC:e5 (gM E) s.g:=⟨F.T,F.vs,F.pm,F.ms⟩;have fin:∀{k:Nat} {G:aH} {M:Sl} {l':List Nd} {D':List En} {L':List En} {w':I},mb tm E t s=.ok k G->O (·∈[X.rb]) w w' (bG {X with dp:=X.dp+1,g:=M} G::L') D'->gJ {X with g:=M} l' G D'->(∀b∈(En.gr M l').fp,b∈(En.gr X.g l).fp\/w.heap.size<=b)->
   GY.bg (aa X.rb) (k:Int) w' (eH X l w (mb tm E t s) kV):=λ{k G M l' D' L' w'} q an S hb=>by
  have e9:aE .i64 (((X.dp+1:Nat):Int) - 1)=(X.dp:Int):=by rw[bH _ io];omega
  refine⟨((X.dp+1:Nat):Int),an.ld 0 9,an.st 0 9 (v:=.i (aE .i64 (((X.dp+1:Nat):Int) - 1))) rfl λw3 A=>?_⟩;rw[e9]at A;exact o9 q rfl (A.get 0) (bd.1 (A.rd _ S.d)) S.x ⟨S.v,S.n⟩ hb A.fr
 refine eZ (X:={X with dp:=X.dp+1}) z 0 rfl (ja (z.get 0) (cY z (i:=0) rfl rfl) H.tk hp) (λK Z w3 e1 A=>⟨_,_,_,rfl,A.aw λb6 w4 H4=>H4.ae λw5 H5=>?_⟩) (λq p w' er f=>fK (h.trans (gx er)) f);have m:=eB F.T hp dl e1;have h:=h.trans (fQ e1);have J:gJ {X with dp:=X.dp+1} l Z D:=⟨Q.d,by rw[m.g];exact Q.x,by rw[m.g];exact Q.v,by rw[m.g];exact Q.n⟩;have aj:e5 (gM E) Z.g:=by rw[m.g];exact aC
 have p1:p0<=Z.p:=by have:=m.p;omega
 have t1:Z.tm<=65536:=by rw[m.t];exact aJ
 refine H5.av (R0 (H5.get 0) (cY H5 (i:=0) rfl rfl) H K.text) ?_;rintro _ w6 rfl B;refine⟨_,rfl,bm (λho=>?_) (λho=>?_)⟩
 .have h:=h.trans (ag ho);refine aa6 (X:={X with dp:=X.dp+1}) B 0 rfl J.d (acx (E:=gM E) hS hN hf hC hI K.text (B.get 0) (cY B (i:=0) rfl rfl) H J aj p1 m.l t1) (λs2 C l2 ap w7 e2 W aI H7=>⟨_,_,_,_,_,_,_,_,_,rfl,H7.aw λb7 w8 H8=>H8.ae λw9 H9=>?_⟩) (λq p w' er f=>fK (h.trans (gx er)) f);have h:=h.trans (fQ e2);have g1:=QF hI p1 m.l t1 J.v aj e2;have up:∀q∈D,q∈D++[En.gr C l2,bE ap]:=λq he=>cm _ he;refine eZ (X:={X with dp:=X.dp+1,g:=C}) H9 0 rfl (ja (H9.get 0) (cY H9 (i:=0) rfl rfl) (H.sub C up).tk g1.l) (λc s3 aO e3 ac=>⟨_,_,_,rfl,?_⟩) (λq p w' er f=>fK (h.trans (gx er)) f);have m3:=eB F.T g1.l dl e3;have h:=h.trans (fQ e3);have ar:gJ {X with dp:=X.dp+1,g:=C} l2 s3 (D++[.gr C l2,bE ap]):=⟨W.d,by rw[m3.g];exact W.x,by rw[m3.g];exact W.v,by rw[m3.g];exact W.n⟩;refine nB (X:={X with dp:=X.dp+1,g:=C}) ac 0 rfl ar.d (Br (t:=t) (ac.get 0) (cY ac (i:=0) rfl rfl) ar (up _ j.kc) (db _ us) (aG _ _ _ _ e2)) (λk s4 ax l4 v aK e4 hv y am af=>?_) (λq p w' er f=>fK (h.trans er) f);subst hv;exact⟨_,rfl,fin (h.trans e4) af ⟨y.d,y.x,y.v,y.n⟩ (λb ai=>(am b ai).elim (aI b) .inr)⟩
 .have h:=h.trans (ad (by rw[ho];simp));refine nB (X:={X with dp:=X.dp+1}) B 0 rfl J.d (acq (E:=gM E) (t:=t) (wd:=K) hC hI aB (B.get 0) (cY B (i:=0) rfl rfl) H J aj p1 m.l t1) (λk s4 ax l4 v aK e4 hv y am af=>?_) (λq p w' er f=>fK (h.trans er) f);subst hv;exact⟨_,rfl,fin (h.trans e4) af ⟨y.d,y.x,y.v,y.n⟩ am⟩
end
section
variable {E:b3} {Ms:List (List UInt8×(Sl×PM))} {tm:b3->aH->PR Nat} {X:RC}
def acD{N:Nat}(hS:mS N)(hN:N+1<=1000000)(hf:∀t∈E.T,t.kind=5->∀ai,h4 t.text=.inr ai->jw N (cO ai.tp))(aA:∀wd s n s',i5 E.T (tm (gM E)) wd s=.ok n s'->kz n){w:I}{D:List En}{s:aH}{l:List Nd}(hC:iU (gM E) Ms (tm (gM E)) (s.p+1))(hI:lx (gM E) (tm (gM E)) (s.p+1))(ar:∀t A,lk Ms t=some A->A.2.ix<E.kn->∀K,iU (hr E A.2 K) Ms (tm (hr E A.2 K)) 0)(av:∀t A,lk Ms t=some A->A.2.ix<E.kn->∀K,iU (hr (gM E) A.2 K) Ms (tm (hr (gM E) A.2 K)) 0)(z:(bG X s).P w)(hD:g4 w X.rb D)(L:hQ X E Ms D)(C:gJ X l s D)(M:e5 E s.g)(hp:s.p<E.T.length)(aG:s.tm<=65536):
  ah U sL #[.pointer (some (aa X.rb))] w (eH X l w (ir tm E s) kV):=by
 obtain⟨ht,_⟩:=o8 hp;have hk:=M.T.k _ ht;have am:=M.T.n _ ht;have q:ir tm E s=if(aK E.T s.p).kind=1\/(aK E.T s.p).kind=4\/(aK E.T s.p).kind=6 then kg (aK E.T s.p)else
  if 65536<=s.tm then .er 4 (aK E.T s.p).a4 else
  if(aK E.T s.p).kind=2 then lK tm E (aK E.T s.p) {cN (aK E.T s.p) s with tm:=s.tm+1}else
  if(aK E.T s.p).kind=3 then ej {cN (aK E.T s.p) s with tm:=s.tm+1} (hE (aK E.T s.p).text) (aK E.T s.p)else
  if(aK E.T s.p).kind=5 then ej {cN (aK E.T s.p) s with tm:=s.tm+1} ⟨2,[],0,0,0,ba (aK E.T s.p).text,a5⟩ (aK E.T s.p)else
  mb tm E (aK E.T s.p) {cN (aK E.T s.p) s with tm:=s.tm+1}:=rfl
 have an:=yf z hD L.tk hp;have aj:(aK E.T s.p).kind≠6->cN (aK E.T s.p) s={s with p:=s.p+1}/\s.p+1<E.T.length:=λW=>⟨ad W,M.T.nx hp W⟩;generalize aK E.T s.p=t at ht hk am q an aj;refine Bm.aq (AK (j6 rfl z hD) 0 rfl rfl rfl an λw1 H1=>⟨_,_,_,rfl,H1.aw λB w2 F=>?_⟩);have F:O (·∈[X.rb]) w w2 [bG X (cN t s),.g B] D:=F;have bad:(t.kind=1\/t.kind=4\/t.kind=6)->∀e,O (·∈[X.rb]) w e [bG X (cN t s),.g B] D->Bm.bL (aa X.rb) B t.kind (ba t.text) t.a4 e (eH X l w (ir tm E s) kV):=λH e h=>
  gy h (rl _ t e) λw' f=>fK (q.trans (ag H)) f
 have Q:¬(t.kind=1\/t.kind=4\/t.kind=6)->∀e,O (·∈[X.rb]) w e [bG X (cN t s),.g B] D->Bm.aV (aa X.rb) B t.kind (ba t.text) t.a4 e (eH X l w (ir tm E s) kV):=λH e h=>by
  obtain⟨ha,aB⟩:=aj io;rw[ad H]at q;rw[ha]at h q;refine⟨(s.tm:Int),h.ld 0 10,aS (λW=>gy h (jM _ 4 t e) λw' f=>fK (q.trans (ag io)) f) (λW=>⟨(s.tm:Int),h.ld 0 10,h.h0 0 10 rfl (λw4 j=>?_)⟩)⟩;rw[ad io]at q;rw[bt _ io]at j;have j:O (·∈[X.rb]) w w4 [bG X {s with p:=s.p+1,tm:=s.tm+1},.g B] D:=j;have Z:gJ X l {s with p:=s.p+1,tm:=s.tm+1} D:=⟨C.d,C.x,C.v,C.n⟩;have fin:∀{x:PR Nat} {D':List En} {w':I} {f:b5} {args:Array V},ir tm E s=x->O (·∈[X.rb]) w w' [bG X {s with p:=s.p+1,tm:=s.tm+1},.g B] D'->En.gr X.g l∈D'->ah U f args w' (eH X l w' x kV)->mV [B] U f args (eH X l w (ir tm E s) kV) w' λr aC=>∃af:Int,r=ab (.i af)/\eH X l w (ir tm E s) kV (ab (.i af)) aC:=λ{x D' w' f args} ac ao hg hc=>
   nB ao 0 rfl hg hc (λaf s' g' l' v w5 ek hv Y H G=>by subst hv;exact⟨_,rfl,o9 (ac.trans ek) rfl (G.get 0) (bd.1 (G.rd _ Y.d)) Y.x ⟨Y.v,Y.n⟩ H G.fr⟩) (λe' p w' er f=>fK (ac.trans er) f)
  refine ax (λy=>?_) (λy=>ax (λJ=>?_) (λJ=>ax (λS=>?_) (λS=>?_)))
  .exact fin (q.trans (ag y)) j C.d (acw (t:=t) ar (j.get 0) (cY j (i:=0) rfl rfl) L Z M (by show s.tm+1<=65536;omega))
  .rw [ad y]at q;exact fin (q.trans (ag J)) j C.d (acy (t:=t) (j.get 0) (cY j (i:=0) rfl rfl) Z L.kc (am J))
  .rw [ad y,ad J]at q;have G:=j.eO (bE ⟨⟨2,[],0,0,0,ba t.text,a5⟩,⟨none,0,0⟩⟩) (Fr.refl _ _) (Rd.nil _) (λb H=>by cases H);exact fin (q.trans (ag S)) G (cm _ C.d) (Br (t:=t) (d:=⟨⟨2,[],0,0,0,ba t.text,a5⟩,⟨none,0,0⟩⟩) (G.get 0) (cY G (i:=0) rfl rfl) (Z.sub λac he=>cm _ he) (cm _ L.kc) (db _ (cK.2 rfl)) ⟨us,(⟨io,io⟩:cE 0),(⟨io,io⟩:cE 0),Int.le_refl _,λz=>by cases z⟩)
  .rw [ad y,ad J,ad S]at q;exact fin q j C.d (acs hS hN hf aA hC hI av (t:=t) (j.get 0) (cY j (i:=0) rfl rfl) L Z M (bz _) aB (by show s.tm+1<=65536;omega))
 refine ax (λy=>ax (λ_=>F.ae λe h=>Q io e h) (λz=>absurd y z)) (λy=>?_);refine ax (λy=>ax (λ_=>F.ae λe h=>Q io e h) (λz=>absurd y z)) (λJ=>?_);refine ax (λy=>ax (λ_=>F.ae λe h=>Q io e h) (λz=>absurd y z)) (λS=>?_);exact ax (λap=>F.ae λe h=>Q io e h) (λap=>F.ae λe h=>bad io e h)
end
def Hh{N:Nat}(z:mS N)(y:N+1<=1000000){T:List aN}{w:List (List UInt8×(Sl×PM))}(B:∀t∈T,t.kind=5->∀C,h4 t.text=.inr C->jw N (cO C.tp))(A:∀(tm:aH->PR Nat) (wd:List UInt8) (s:aH) (n:Nx) (h:aH),i5 T tm wd s=.ok n h->kz n):∀(f:Nat) (E:b3) (p0:Nat),E.T=T->min E.kn E.ms.length *(E.T.length+1)+(E.T.length - p0)+1<=f->iU E w (dO f E) p0
 |0,E,p0,_,x=>io
 |f+1,E,p0,j,x=>λX Z W s l Q M F O G Y P S=>by
  have H:∀(E':b3) (t:List UInt8) (q:Sl×PM),E'.T=E.T->E'.ms=E.ms->lk w t=some q->q.2.ix<E.kn->∀d,iU (hr E' q.2 d) w (dO f (hr E' q.2 d)) 0:=λE' t q D K e k d=>by refine Hh z y B A f (hr E' q.2 d) 0 (D.trans j) ?_;have J:=(G.ms (t,q.2) (by rw[F.ms];exact dn.2 ⟨_,j1 e,rfl⟩)).1;have J:q.2.ix<E.ms.length:=J;show min q.2.ix E'.ms.length *(E'.T.length+1)+(E'.T.length - 0)+1<=f;rw[D,K,show min q.2.ix E.ms.length=q.2.ix by omega];have L:(q.2.ix+1) *(E.T.length+1)<=min E.kn E.ms.length *(E.T.length+1):=ll _ io;rw[Nat.succ_mul]at L;omega
  exact acD z y (by rw[j];exact B) (by rw[j];exact λwd s n h x=>A _ wd s n h x) (Hh z y B A f (gM E) (s.p+1) j (by show min E.kn E.ms.length *(E.T.length+1)+(E.T.length - (s.p+1))+1<=f;omega)) (λs n h _=>yJ f (gM E) s n h (dg _))
   (λt q e k d=>H E t q rfl rfl e k d) (λt q e k d=>H (gM E) t q rfl rfl e k d) Q M F O G P S
def ae6{w:I}{ms:List (List UInt8×Nat)}{b:Nat}{es:Array MapEntry}{c:Nat}(h:w.heap[b]? =some (.map es c))(j:dL es (ms.map iP))(t:List UInt8):pe U (Instr.lookup Cc (.map (some b)) (.string (ba t)) true) w=.ok (.tuple #[.i (((lk ms t).getD 0:Nat):Int),.bool (lk ms t).isSome]) w:=by have d:=sI va h j (ba t);rw[show ms.map iP=ms.map λe=>(ba e.1,(λn:Nat=>Value.i (n:Int)) e.2)from rfl,od λn:Nat=>Value.i (n:Int)]at d;rw[d];cases lk ms t<;>rfl
def NM{w:I}{d:List (List UInt8×(Sl×PM))}{b:Nat}{es:Array MapEntry}{c:Nat}(j:w.heap[b]? =some (.map es c))(k:dL es (d.map q6))(t:List UInt8):pe U (Instr.lookup UX (.map (some b)) (.string (ba t)) true) w=.ok (.tuple #[.agg #[(ng d t).1.v,.i (((ng d t).2.b:Nat):Int),.i (((ng d t).2.ix:Nat):Int)],.bool (lk d t).isSome]) w:=by have e:=sI AH j k (ba t);rw[show d.map q6=d.map λh=>(ba h.1,oS h.2)from rfl,od oS]at e;rw[e];unfold ng;cases lk d t<;>rfl
def xU(E:b3)(s:aH):PR aN:=(bU E.T 2 s).b λt s=>if(lk E.vs t.text).isSome||(lk E.ms t.text).isSome then .er 8 t.a4 else .ok t s
section
variable {E:b3} {Ms:List (List UInt8×(Sl×PM))} {X:RC}
def R2{w:I}{D:List En}{s:aH}(K:(bG X s).P w)(L:g4 w X.rb D)(h:hQ X E Ms D)(O:s.p<E.T.length):
  ah U AP #[.pointer (some (aa X.rb))] w (iw X w (xU E s) mI):=by
 obtain⟨es,c,M,Q⟩:=h.mv;obtain⟨af,c2,C,F⟩:=h.mm;refine Rs.aq ((j6 rfl K L).aw λb2 Z q=>eZ q 0 rfl (ja (q.get 0) (cY q (i:=0) rfl rfl) h.tk O) (λt W w2 J G=>⟨_,_,_,rfl,G.aw λb3 w3 H=>H.ae λw4 x=>?_⟩) (λac p Z er f=>kT (gx er) f));have j:xU E s=if(lk E.vs t.text).isSome||(lk E.ms t.text).isSome then .er 8 t.a4 else .ok t W:=fQ J
 have N:(lk E.ms t.text).isSome=(lk Ms t.text).isSome:=by rw[h.ms,Ay (λS:Sl×PM=>S.2)];cases lk Ms t.text<;>rfl
 rw[N]at j;refine⟨_,x.ld 0 5,_,_,ae6 (x.rd _ M) Q t.text,x.ae λw5 y=>⟨_,y.ld 0 6,_,_,_,_,NM (y.rd _ C) F t.text,y.aw λb6 w6 d=>⟨NM (d.rd _ C) F t.text,d.ld 0 6,?_⟩⟩⟩;refine bm (λz=>d.ae λk e=>gy e (jM _ 8 t k) λY f=>kT (j.trans (ag (by rw[z];rfl))) f) (λz=>?_);refine bm (λA=>d.ae λk e=>gy e (jM _ 8 t k) λY f=>kT (j.trans (ag (by rw[A,Bool.or_true]))) f) (λA=>?_);exact d.ae λk e=>e.ae λw8 B=>xF (j.trans (ad (by rw[z,A];simp))) (B.get 0) B.fr
def UR(E:b3)(tm:aH->PR Nat)(s:aH):PR Nat:=(tm s).b λn d=>if(d.g[n]?).map (·.st)=some (aZ 1)then .ok n d else .er 9 (aK E.T s.p).a4
def acE{tm:aH->PR Nat}{p0:Nat}(Z:iU E Ms tm p0)(hI:lx E tm p0){w:I}{D:List En}{s:aH}{l:List Nd}(H:(bG X s).P w)(hD:g4 w X.rb D)(N:hQ X E Ms D)(J:gJ X l s D)(O:e5 E s.g)(M:p0<=s.p)(A:s.p<E.T.length)(W:s.tm<=65536):
  ah U F9 #[.pointer (some (aa X.rb))] w (eH X l w (UR E tm s) kV):=by
 have Q:=N.tk;have L:=(o8 A).2;have e:UR E tm s=(tm s).b λn q=>if(q.g[n]?).map (·.st)=some (aZ 1)then .ok n q else .er 9 (aK E.T s.p).a4:=rfl;generalize aK E.T s.p=t at L e;refine Rv.aq ((j6 rfl H hD).dr λw1 y=>⟨X.tk,y.ld 0 0,_,y.ld 0 1,B7 (y.rd _ Q.t) rfl L λp af c=>⟨t.kind,ba t.text,t.a4,c.c0,c.c1,c.c2,y.aw λb3 w2 z=>?_⟩⟩);have F:=Ie (z.rd _ Q.t) (X:=(s.p:Int)) rfl L af;refine⟨F.c0,F.c1,F.c2,z.ld 0 1,z.ld 0 0,z.ae λw3 C=>?_⟩;refine nB (X:=X) C 0 rfl J.d (Z X w3 D s l (C.get 0) (cY C (i:=0) rfl rfl) N J O M A W) (λk q Y B v w4 G hv j hb h=>?_) (λG p w' er f=>fK (e.trans (gx er)) f);subst hv;have e:=e.trans (fQ G);obtain⟨g1,g2,g3⟩:=hI s k q M A W J.v O G;have S:=j.x;have aj:B.length=q.g.length:=by rw[<-S];simp[xs]
 have K:B[k]? =some (B[k]'io):=a0 io;generalize B[k]'io=nd at K;have ai:q.g[k]? =some nd.x:=by rw[<-S];exact pa K
 rw[ai]at e;refine⟨_,rfl,Y,by rw[add_add];exact h.ld 0 2,eJ (bd.1 (h.rd _ j.d)) (X:=(k:Int)) rfl K (λp A c=>⟨nd.x.st.k,nd.x.st.n,nd.x.st.x,c.s0,c.s1,c.s2,?_⟩)⟩;refine yt (a:=nd.x.st) (b:=aZ 1) (λac=>gy h (jM _ 9 t w4) λw' f=>fK (e.trans (ad λH=>ac (by simpa using H))) f) (λhe=>?_);exact o9 (e.trans (ag (by rw[<-he];rfl))) rfl (h.get 0) (bd.1 (h.rd _ j.d)) j.x ⟨j.v,j.n⟩ hb h.fr
def acC{T:List aN}{w:I}{D:List En}{s:aH}(G:(bG X s).P w)(N:g4 w X.rb D)(H:pw X T D)(A:s.p<T.length):
  ah U F8 #[.pointer (some (aa X.rb))] w (iw X w (k5 T (T.length+1) 0 s) λ_=>.tuple #[]):=by
 have hl:=H.e.l;have loop:∀(f d:Nat) (s:aH) (E:I) (x:PR Unit),s.p<T.length->T.length - s.p<f->d<=s.p->O (·∈[X.rb]) w E [bG X s] D->x=k5 T f d s->vw.aX (aa X.rb) (d:Int) E (iw X w x λ_=>.tuple #[]):=by
  intro f;induction f with
  |zero=>intro d s E x A Y;omega
  |succ f ih=>
   intro d s E x A Y hd F h;have h:x=if(aK T s.p).kind=6 then kg (aK T s.p)else if(aK T s.p).kind=1/\d=0 then kg (aK T s.p)else
    if(if(aK T s.p).kind=0 then d+1 else if(aK T s.p).kind=1 then d - 1 else d)=0 then .ok () (cN (aK T s.p) s)else k5 T f (if(aK T s.p).kind=0 then d+1 else if(aK T s.p).kind=1 then d - 1 else d) (cN (aK T s.p) s):=h
   have L:=yf (F.get 0) (cY F (i:=0) rfl rfl) H A;have K:(aK T s.p).kind≠6->cN (aK T s.p) s={s with p:=s.p+1}/\s.p+1<T.length:=λq=>⟨ad q,H.e.nx A q⟩;generalize aK T s.p=t at h L K;refine vw.bR (AK F 0 rfl rfl rfl L λw2 M=>⟨_,_,_,rfl,M.aw λJ w3 y=>?_⟩);have y:O (·∈[X.rb]) w w3 [bG X (cN t s),.g J] D:=y;have go:∀(z:Nat) (k:I),t.kind≠6->O (·∈[X.rb]) w k [bG X (cN t s),.g J] D->z<=s.p+1->(x=if z=0 then .ok () (cN t s)else k5 T f z (cN t s))->vw.bg (aa X.rb) (z:Int) k (iw X w x λ_=>.tuple #[]):=λz k q j S h=>by obtain⟨Q,Z⟩:=K q;rw[Q]at j h;exact ax (λG=>xF (val:=λ_=>.tuple #[]) (h.trans (ag io)) (j.get 0) j.fr) (λG=>ih z {s with p:=s.p+1} k x Z (by show T.length - (s.p+1)<f;omega) S (j.take 1) (h.trans (ad io)))
   refine ax (λB=>y.ae λk j=>?_) (λB=>ax (λC=>?_) (λC=>ax (λq=>y.ae λk j=>gy j (rl _ t k) λw' f=>kT (h.trans (ag q)) f) (λq=>y.ae λk j=>?_)))
   .rw [ad io,ad io,ag B]at h;rw[bt _ io];exact go (d+1) k io j io h
   .rw [ad io]at h;refine ax (λW=>y.ae λk j=>gy j (rl _ t k) λw' f=>kT (h.trans (ag ⟨C,io⟩)) f) (λW=>y.ae λk j=>?_);rw[ad io,ad B,ag C]at h;show vw.bg _ (aE .i64 ((d:Int) - 1)) _ _;rw[bH _ io,show(d:Int) - 1=((d - 1:Nat):Int)by omega];exact go (d - 1) k io j io h
   .rw [ad q,ad io,ad B,ad C]at h;exact go d k q j io h
 exact vw.aq (loop (T.length+1) 0 s w _ A io (dg _) (j6 rfl G N) rfl)
end
def kF{w:I}{b:Nat}{v:V}{T:aD}(d:(En.c b [v] T).P w):w.cell? (aa b)=some v:=by
 have:=cellAt (p:=aa b) (i:=0) (v:=v) d rfl us
 rwa[iV]at this
def NH:nP U aeS eD aeP (.bool false):=by constructor<;>kernel_rfl
def Yg:gg U aeY mJ (.agg #[.string (bh #[]),.int .i64 0,.int .i64 0,.int .i64 0]) 4 40:=⟨by kernel_rfl,by kernel_rfl,rfl,dl,dl⟩
def Ye:gg U Cf ke (.agg #[.int .i64 0,.string (bh #[]),.int .i64 0,.int .i64 0,.int .i64 0,.int .i64 0,.int .i64 0]) 7 64:=⟨by kernel_rfl,by kernel_rfl,rfl,dl,dl⟩
def aaa{P:au}{T kt e ty:aD}{y:V}(x:nP P T kt e y){w:I}{d:Nat}{es:Array MapEntry}{clock:Nat}{ms:List (ByteArray×V)}(k:w.heap[d]? =some (.map es clock))(q:dL es ms):(Builtin.len_ #[T] ty #[.map (some d)]).run P w=.ok (.i (ms.length:Int)) w:=by
 have j:(getObj d).run P w=.ok (.map es clock) w:=by simp[getObj,pe,k]
 have h:es.size=ms.length:=by have:=congrArg List.length q;simpa using this
 simp[Builtin.len_,Sem.run_bind,run_underlying x.hT,j,h,goInt]
def HH(q:List UInt8×aM):ByteArray×V:=(ba q.1,.bool true)
def To(ps:List (List UInt8×aM))(t:List UInt8):hg (ps.map HH) (ba t)=(lk ps t).map λ_=>Value.bool true:=by rw[show ps.map HH=ps.map λd=>(ba d.1,(λ_:aM=>Value.bool true) d.2)from rfl,od λ_:aM=>Value.bool true]
section
variable {X:RC} {T:List aN}
def za(X:RC)(d:Nat)(ix:Int)(D:List En)(w:I)(x:PR (List (List UInt8×aM))):aC:=λr e=>match x with
 |.ok j k=>r=ab (.tuple #[])/\∃sl:Sl,O (·∈[X.rb,d]) w e [bG X k,.c d [sl.v,.i 0,.i ix] jg,.row mJ 4 sl (fg j)] D
 |.er h p=>r=.panicked (i2 h p)/\Fr (·∈[X.rb,d]) w e
def x'{d:Nat}{ix:Int}{D:List En}{w w':I}{x:PR (List (List UInt8×aM))}{e:Int}{p:Nat}(h:x=.er e p)(f:Fr (·∈[X.rb,d]) w w'):za X d ix D w x (.panicked (i2 e p)) w':=by subst h;exact⟨rfl,f⟩
def acz{w:I}{D:List En}{s:aH}{pb k:Nat}{ix:Int}(H:O (·∈[X.rb,k]) w w [bG X s,.c k [.slice none 0 0,.i 0,.i ix] jg] D)(C:En.c pb [.pointer (some (aa X.rb))] yR∈D)(q:pw X T D)(K:s.p<T.length):
  ah U F2 #[.pointer (some (aa pb)),.pointer (some (aa k))] w (za X k ix D w (j4 T (T.length+1) [] s)):=by
 have hl:=q.e.l;have loop:∀(z f:Nat) (ps:List (List UInt8×aM)) (s:aH) (E:I) (sl:Sl) (es:Array MapEntry) (c:Nat) (x:PR (List (List UInt8×aM))),s.p<T.length->T.length - s.p<f->ps.length<=s.p->dL es (ps.map HH)->
   O (·∈[X.rb,k]) w E [bG X s,.c k [sl.v,.i 0,.i ix] jg,.row mJ 4 sl (fg ps),.ob z (.map es c)] D->x=j4 T f ps s->
   Bj.aX (aa pb) (aa k) (some z) E (za X k ix D w x):=by
  intro z f;induction f with
  |zero=>intro ps s E sl es c x K hf;omega
  |succ f ih=>
   intro ps s E sl es c x K hf aQ ap H d;have d:x=if(aK T s.p).kind=1 then .ok ps (cN (aK T s.p) s)else if(aK T s.p).kind≠0 then kg (aK T s.p)else
    (bU T 2 (cN (aK T s.p) s)).b λp s=>if(lk ps p.text).isSome then .er 8 p.a4 else(il T s).b λF s=>(bU T 1 s).b λ_ s=>j4 T f (ps++[(p.text,F)]) s:=d
   have an:=yf (H.get 0) (cY H (i:=0) rfl rfl) q K;have aj:(aK T s.p).kind≠6->cN (aK T s.p) s={s with p:=s.p+1}/\s.p+1<T.length:=λh6=>⟨ad h6,q.e.nx K h6⟩;generalize aK T s.p=t at d an aj;refine Bj.bR ⟨_,kF (H.rd _ C),AK H 0 rfl rfl rfl an λw2 H2=>⟨_,_,_,rfl,H2.aw λb3 w3 G=>?_⟩⟩;have G:O (·∈[X.rb,k]) w w3 [bG X (cN t s),.c k [sl.v,.i 0,.i ix] jg,.row mJ 4 sl (fg ps),.ob z (.map es c),.g b3] D:=G;refine ax (λN=>G.ae λQ h=>?_) (λN=>cq (λZ=>G.ae λQ h=>⟨_,kF (h.rd _ C),gy h (rl _ t Q) λP f=>x' (d.trans (by rw[ad N,ag Z];rfl)) f⟩) (λZ=>G.ae λQ h=>?_))
   .rw [ag N]at d;subst d;exact⟨rfl,sl,h.take 3⟩
   obtain⟨ha,ao⟩:=aj io;rw[ad N,ad (by simpa using Z),ha]at d;rw[ha]at h;have h:=h.take 4;have h:O (·∈[X.rb,k]) w Q [bG X {s with p:=s.p+1},.c k [sl.v,.i 0,.i ix] jg,.row mJ 4 sl (fg ps),.ob z (.map es c)] D:=h;refine⟨_,kF (h.rd _ C),eZ (bs:=[]) h 0 rfl (ja (h.get 0) (cY h (i:=0) rfl rfl) q ao) (λp s2 w5 e2 H5=>⟨_,_,_,rfl,H5.aw λb4 w6 H6=>H6.ae λw7 y=>?_⟩) (λA p P er f=>x' (d.trans (gx er)) f)⟩;have d:=d.trans (fQ e2);have ac:=eB q.e (by exact ao) dl e2;have am:=Ni NH (y.ob 3) ap (ba p.text);rw[To]at am;refine⟨(lk ps p.text).isSome,by rw[am];cases lk ps p.text<;>rfl,bm (λL=>⟨_,kF (y.rd _ C),gy y (jM _ 8 p w7) λP f=>x' (d.trans (ag L)) f⟩) (λL=>?_)⟩;rw[ad (by rw[L];simp)]at d;have aC:lk ps p.text=none:=by
    cases aB:lk ps p.text with
    |none=>rfl
    |some _=>rw[aB]at L;cases L
   obtain⟨w8,Y,u1,u2,u3,u4,_⟩:=rD NH (y.ob 3) ap (ba p.text) (.bool true) (by rw[To,aC];rfl);have W:=y.fy 3 (.ob z (.map Y (c+1))) rfl (u4.mono λx _ A=>by simp[En.ob,A]) u2 (λb B=>.inl B);have W:O (·∈[X.rb,k]) w w8 [bG X s2,.c k [sl.v,.i 0,.i ix] jg,.row mJ 4 sl (fg ps),.ob z (.map Y (c+1)),.g b4] D:=W;refine⟨w8,u1,λb B=>u4.cv b ((En.g b).lt w7 (y.own (.g b) (by simp only[cK]at B;subst B;simp)) b (by simp[En.g])) λA=>?_,W.ae λw9 J=>?_⟩
   .simp only[cK]at B;subst B;exact jX y.nd (i:=4) (j:=3) rfl rfl dl b (by simp[En.g]) (by simp[En.ob,A])
   refine⟨sl,J.ld 1 0,_,kF (J.rd _ C),eZ J 0 rfl (Hg (J.get 0) (cY J (i:=0) rfl rfl) q ac.l) (λF s3 aL e3 ai=>⟨_,_,_,rfl,ai.ld 1 0,ai.vm λaN _ S aG=>?_⟩) (λA p P er f=>x' (d.trans (gx er)) f)⟩;have d:=d.trans (fQ e3);have af:=(vR q.e ac.l e3).1;have aR:sl.n=ps.length:=sY (show aJ aN mJ 4 sl (fg ps)from S.get 2).a9;have q2:=ac.p;have q2:s.p+1<s2.p:=q2;refine⟨S.ld 1 0,S.eI 2 Yg (s:=sl) (src:=⟨some (aa aL.heap.size),1,1⟩) (news:=ya (p.text,F)) rfl ⟨rfl,bz _,(um (sz:=4) aG rfl).2.2⟩ (by simp[Value.oneCell']) (by show(sl.n+1) *40<=_;omega) (λaI aS av=>av.h0 1 0 rfl λaT M=>?_)⟩;refine⟨_,kF (M.rd _ C),eZ M 0 rfl (ja (M.get 0) (cY M (i:=0) rfl rfl) q af.l) (λcl s4 aO e4 az=>⟨_,_,_,rfl,?_⟩) (λA p P er f=>x' (d.trans (gx er)) f)⟩;have d:=d.trans (fQ e4);have ar:=eB q.e af.l dl e4;have q3:=af.p;have q4:=ar.p;refine ih (ps++[(p.text,F)]) s4 aO aI Y (c+1) x ar.l io (by rw[bM];simp;omega) ?_ ?_ d
   .rw [fv];exact u3
   .have aA:=az.take 4;have e5:fg (ps++[(p.text,F)])=fg ps++ya (p.text,F):=by unfold fg;rw[eg];simp
    rw[e5];exact aA
 refine Bj.aq (lP (H.iH mJ 4) λE H1=>?_);exact loop w.heap.size (T.length+1) [] s E ⟨none,0,0⟩ #[] 0 _ K io (dg _) rfl H1 rfl
end
section
variable {M:Nat->Prop} {w0 w w':I} {L1 CQ R D D':List En}
def Au(H:O M w0 w (L1++R) D):O (·∈L1.flatMap (·.fp)) w w L1 D:=by
 refine O.og _ _ (λd e=>⟨H.own d (cm _ e),λb h=>b'.2 ⟨d,e,h⟩⟩) ?_ (λd e=>⟨H.rd d e,λb h j k=>H.dj d e b h j (cm _ k)⟩);have:=H.nd
 grind
def Av(H:O M w0 w (L1++R) D)(j:O (·∈L1.flatMap (·.fp)) w w' CQ (D++D'))(K:∀y∈D',∀b∈y.fp,w.heap.size<=b\/∃g∈D,b∈g.fp):O M w0 w' (CQ++R) (D++D'):=by
 have z:=H.nd;rw[eg,fh]at z;have L:∀e∈R,∀b∈e.fp,b∉L1.flatMap (·.fp):=λe d b h q=>z.2.2 b q b (b'.2 ⟨e,d,h⟩) rfl;have T:∀e∈R,∀b∈e.fp,b<w.heap.size:=λe d b h=>e.lt w (H.own e (db _ d)) b h;have Q:Fr M w0 w':=H.fr.trans j.fr λA F q=>by obtain⟨e,d,h⟩:=b'.1 q;exact(H.new e (cm _ d) A h).resolve_left io
 refine⟨Q,λe d=>?_,j.rd,λe d b h=>?_,?_,λy x b h e d q=>?_⟩
 .rcases aP.1 d with d|d
  .exact j.own e d
  .exact e.st w w' (λb h E=>j.fr.cv b E (L e d b h)) (H.own e (db _ d))
 .rcases aP.1 d with d|d
  .rcases j.new e d b h with k|k
   .exact .inl (bI H.fr.size k)
   .obtain ⟨B,P,C⟩:=b'.1 k;exact H.new B (cm _ P) b C
  .exact H.new e (db _ d) b h
 .rw [eg,fh];refine⟨j.nd,z.2.1,λA F Z W e=>?_⟩;subst e;obtain⟨G,J,N⟩:=b'.1 F;obtain⟨B,Y,C⟩:=b'.1 W;rcases j.new G J A N with k|k
  .grind
  grind
 .rcases aP.1 d with d|d
  .exact j.dj y x b h e d q
  .have E:=T e d b q;rcases aP.1 x with x|x
   .exact H.dj y x b h e (db _ d) q
   .rcases K y x b h with k|⟨g,S,k⟩
    .omega
    .exact H.dj g S b k e (db _ d) q
def BC{e:En}{rb:Nat}(H:O M w0 w (e::L1) D)(x:e.fp=[rb]):g4 w rb (L1++D):=λh d=>by
 rcases aP.1 d with d|d
 .refine ⟨H.own h (dJ _ d),λk j q=>?_⟩;have:=H.nd
  grind
 .exact ⟨H.rd h d,λk j q=>H.dj h d k j e nq (by grind)⟩
end
def qR(c:fM):List V:=[.i c.k,.string (ba c.nm),.i c.st.k,.i c.st.n,.i c.st.x,.i c.nd,.i c.n]
def hx(l:List fM):List V:=l.flatMap qR
def Ko(l:List fM):(hx l).length=l.length *7:=pO qR 7 (λ_=>rfl) l
structure mR where
 X:RC
 Ms:List (List UInt8×(Sl×PM))
 l:List Nd
 e1:Array MapEntry
 c1:Nat
 e2:Array MapEntry
 c2:Nat
abbrev cF(Y:mR)(x:bS):List En:=[bG Y.X x.s,.ob Y.X.mv (.map Y.e1 Y.c1),.ob Y.X.mm (.map Y.e2 Y.c2),.row ke 7 Y.X.cs (hx x.cs)]
structure hq(T:List aN)(Y:mR)(x:bS)(D:List En):Prop where
 tk:pw Y.X T D
 mo:∃es c,En.ob Y.X.mo (.map es c)∈D/\dL es sV
 kc:cJ∈D
 gr:gJ Y.X Y.l x.s D
 pr:∀q∈Y.Ms,En.a9 4 q.2.1 (fg q.2.2.ps)∈D
 ms:x.ms=Y.Ms.map λq=>(q.1,q.2.2)
 sv:dL Y.e1 (x.vs.map iP)
 sm:dL Y.e2 (Y.Ms.map q6)
 pm:Y.X.pm=none
 kn:Y.X.kn=9223372036854775807
 dp:Y.X.dp=0
 ok:e5 (eP T x) x.s.g
 p:x.s.p<T.length
 tm:x.s.tm<=65536
 mc:x.ms.length<=x.s.p
 cc:x.cs.length<=x.s.p
section
variable {T:List aN} {Y:mR} {x:bS} {D D':List En}
def hq.en(d:hq T Y x D)(j:∀q∈D,q∈D')(w:En.ob Y.X.mv (.map Y.e1 Y.c1)∈D')(y:En.ob Y.X.mm (.map Y.e2 Y.c2)∈D'):hQ Y.X (eP T x) Y.Ms D':=by
 obtain⟨h,c,m,k⟩:=d.mo;refine⟨⟨j _ d.tk.t,d.tk.e⟩,⟨h,c,j _ m,k⟩,⟨_,_,w,d.sv⟩,⟨_,_,y,d.sm⟩,d.ms,λk z=>j _ (d.pr k z),?_,d.kn,d.dp,j _ d.kc⟩;show match Y.X.pm with
  |none=>([]:List (List UInt8×Nat))=[]
  |some b=>∃h c,En.ob b (.map h c)∈D'/\dL h ((([]:List (List UInt8×Nat))).map iP)
 rw[d.pm]
def hq.mv(e:hq T Y x D){h:aH}(m:Mv T x.s h):hq T Y {x with s:=h} D:=by
 have q:=m.p;have j:=e.mc;have k:=e.cc;exact⟨e.tk,e.mo,e.kc,⟨e.gr.d,e.gr.x.trans m.g.symm,m.g▸e.gr.v,by rw[m.g];exact e.gr.n⟩,e.pr,e.ms,e.sv,e.sm,e.pm,e.kn,e.dp,by
  have:=e.ok;exact⟨this.T,by rw[m.g];exact this.vs,by rw[m.g];exact this.pm,this.ms⟩,m.l,by show h.tm<=65536;rw[m.t];exact e.tm,by grind,by grind⟩
def hq.grow(d:hq T Y x D){q:aH}(m:jS T x.s q){w:Sl}{y:List Nd}(B:gJ {Y.X with g:=w} y q D')(j:∀z∈D,z∈D'):hq T {Y with X:={Y.X with g:=w},l:=y} {x with s:=q} D':=by have H:=m.p;have F:=d.mc;have G:=d.cc;obtain⟨A,c,E,k⟩:=d.mo;have h:=d.ok.up m.len;exact⟨⟨j _ d.tk.t,d.tk.e⟩,⟨A,c,j _ E,k⟩,j _ d.kc,B,λk C=>j _ (d.pr k C),d.ms,d.sv,d.sm,d.pm,d.kn,d.dp,⟨h.T,h.vs,h.pm,h.ms⟩,m.l,m.t.2,by grind,by grind⟩
def k4{α:Type}{q:PR α}{y:bS}{f:α->bS->SR}{e:Int}{p:Nat}(d:q=.er e p):q.s y f=.er e p:=by subst d;rfl
def jN{α:Type}{q:PR α}{y:bS}{f:α->bS->SR}{a:α}{s:aH}(d:q=.ok a s):q.s y f=f a {y with s:=s}:=by subst d;rfl
def iR(T:List aN)(Y:mR)(x:bS)(D:List En)(w:I)(q:SR):aC:=λr e=>match q with
 |.ok h=>r=ab (.tuple #[])/\∃d D',d.X.rb=Y.X.rb/\O (·∈(cF Y x).flatMap (·.fp)) w e (cF d h) (D++D')/\hq T d h (D++D')/\(∀j∈D',∀b∈j.fp,w.heap.size<=b\/∃g∈D,b∈g.fp)
 |.er k p=>r=.panicked (i2 k p)/\Fr (·∈(cF Y x).flatMap (·.fp)) w e
def vL{w w':I}{q:SR}{y:bS}{Y':mR}{D':List En}(e:q=.ok y)(h:Y'.X.rb=Y.X.rb)(j:O (·∈(cF Y x).flatMap (·.fp)) w w' (cF Y' y) (D++D'))(k:hq T Y' y (D++D'))(z:∀d∈D',∀b∈d.fp,w.heap.size<=b\/∃g∈D,b∈g.fp):iR T Y x D w q (ab (.tuple #[])) w':=by subst e;exact⟨rfl,Y',D',h,j,k,z⟩
def hJ{w w':I}{q:SR}{e:Int}{p:Nat}(d:q=.er e p)(f:Fr (·∈(cF Y x).flatMap (·.fp)) w w'):iR T Y x D w q (.panicked (i2 e p)) w':=by subst d;exact⟨rfl,f⟩
def HF{M:Nat->Prop}{w0 w:I}{R:List En}{bs:List Nat}(H:O M w0 w (cF Y x++R) D){q:SR}{P:au}{f:b5}{args:Array V}{A K:aC}(Q:O (·∈(cF Y x).flatMap (·.fp)) w w (cF Y x) D->ah P f args w (iR T Y x D w q))(aa:∀j e D' w',q=.ok j->e.X.rb=Y.X.rb->O M w0 w' (cF e j++R) (D++D')->hq T e j (D++D')->(∀y∈D',∀b∈y.fp,w0.heap.size<=b\/∃g∈D,b∈g.fp)->K (ab (.tuple #[])) w')(Z:∀k p w',q=.er k p->Fr M w0 w'->A (.panicked (i2 k p)) w')(E:∀b∈bs,En.g b∈R:=by simp):mV bs P f args A w K:=by
 have F:=H.nd;rw[eg,fh]at F;refine(Q (Au H)).mono λr w' d=>?_;unfold iR at d;have kp:∀{w':I},Fr (·∈(cF Y x).flatMap (·.fp)) w w'->kept bs w w':=λf b h=>f.cv b ((En.g b).lt w (H.own (.g b) (db _ (E b h))) b (by simp[En.g])) λz=>F.2.2 b z b (b'.2 ⟨.g b,E b h,by simp[En.g]⟩) rfl;split at d
 .rename_i j;obtain⟨rfl,e,D',J,B,L,C⟩:=d;exact .inr ⟨⟨_,rfl⟩,kp B.fr,aa j e D' w' rfl J (Av H B C) L λy S b h=>(C y S b h).imp (λd=>bI H.fr.size d) id⟩
 .rename_i k p;obtain⟨rfl,f⟩:=d;refine .inl ⟨_,rfl,Z k p w' rfl (H.fr.trans f λb h z=>?_)⟩;obtain⟨G,W,N⟩:=b'.1 z;exact(H.new G (cm _ W) b N).resolve_left io
def VV{s d:aH}{n:Nx}{t:aN}{k:Nat}(e:ej s n t=.ok k d):d.p=s.p:=by
 unfold ej at e
 grind
def xV{E:b3}{s e:aH}{t:aN}(h:xU E s=.ok t e):bU E.T 2 s=.ok t e/\lk E.vs t.text=none/\lk E.ms t.text=none:=by
 obtain⟨w,q,k,d⟩:=bT h;split at d
 .cases d
 .rename_i j;cases d;simp only[Bool.or_eq_true,not_or,iu,Option.isSome_eq_false_iff,Option.isNone_iff_eq_none]at j
  grind
def U8(vs:List (List UInt8×Nat))(t:List UInt8):hg (vs.map iP) (ba t)=(lk vs t).map λn:Nat=>Value.i (n:Int):=by rw[show vs.map iP=vs.map λd=>(ba d.1,(λn:Nat=>Value.i (n:Int)) d.2)from rfl,od λn:Nat=>Value.i (n:Int)]
def Km{M:Nat->Prop}{w0 w:I}{R:List En}{bs:List Nat}(H:O M w0 w (cF Y x++R) D)(h:hq T Y x D)(c:fM)(S:x.cs.length+1<=x.s.p)(Z:x.cs.length<=100000){K:I->Prop}(E:∀b∈bs,En.g b∈R)(L:∀B F,B.X.rb=Y.X.rb->O M w0 F (cF B {x with cs:=x.cs++[c]}++R) D->hq T B {x with cs:=x.cs++[c]} D->K F):
  ∃t:Sl,w.cell? ((aa Y.X.rb).add 3)=some t.v/\dh w (.cells #[.i c.k,.string (ba c.nm),.i c.st.k,.i c.st.n,.i c.st.x,.i c.nd,.i c.n] ke) λq=>q.cell? ((aa Y.X.rb).add 3)=some t.v/\
   ∃(t2:Sl) (j:I),pe U (Builtin.append_ #[Cf,Cf] Cf #[t.v,.slice (some (nb w)) 1 1]) q=.ok t2.v j/\kept bs q j/\aL j ((aa Y.X.rb).add 3) t2.v λy=>kept bs j y/\K y:=by
 have J:∀b∈bs,En.g b∈cF Y x++R:=λb C=>db _ (E b C);refine⟨Y.X.cs,H.ld 0 3,H.vm λq _ z N=>?_⟩;have W:Y.X.cs.n=x.cs.length:=by have G:=(show aJ q ke 7 Y.X.cs (hx x.cs)from z.get 3).len;rw[Ko]at G;omega
 refine⟨z.ld 0 3,z.eI 3 Ye (s:=Y.X.cs) (src:=⟨some (aa w.heap.size),1,1⟩) (news:=qR c) rfl ⟨rfl,bz _,(um (sz:=7) N rfl).2.2⟩ (by simp[qR,Value.oneCell']) (by grind) (λt2 j A=>?_) J⟩;have A:O M w0 j ([bG Y.X x.s,.ob Y.X.mv (.map Y.e1 Y.c1),.ob Y.X.mm (.map Y.e2 Y.c2),.row ke 7 t2 (hx x.cs++qR c)]++R) D:=A;refine A.h0 0 3 rfl (λy P=>?_) us (λb C=>db _ (E b C));refine L {Y with X:={Y.X with cs:=t2}} y rfl ?_ ?_
 .have Q:hx (x.cs++[c])=hx x.cs++qR c:=by
   unfold hx
   grind
  grind
 .exact ⟨⟨h.tk.t,h.tk.e⟩,h.mo,h.kc,⟨h.gr.d,h.gr.x,h.gr.v,h.gr.n⟩,h.pr,h.ms,h.sv,h.sm,h.pm,h.kn,h.dp,⟨h.ok.T,h.ok.vs,h.ok.pm,h.ok.ms⟩,h.p,h.tm,h.mc,by grind⟩
end
def Iq{M:Nat->Prop}{w0 w w':I}{L D:List En}{bs:List Nat}(H:O M w0 w L D)(i:Nat){b:Nat}{o:Obj}(hi:L[i]? =some (.ob b o))(f:Fr (λd=>d=b) w w')(j:∀d∈bs,En.g d∈L.eraseIdx i:=by simp):kept bs w w':=λd k=>by have h:=j d k;refine f.cv d ((En.g d).lt w (H.own (.g d) (u' h)) d (by simp[En.g])) λe=>?_;exact xe (f:=λe:En=>e.fp) hi H.nd b (by simp[En.ob]) (.g d) h (by simp[En.g,e])
def adX{M:Nat->Prop}{w0 w:I}{L D:List En}{bs:List Nat}(H:O M w0 w L D)(i:Nat){b:Nat}{vs:List V}{T:aD}{v:V}{K:I->Prop}(hi:L[i]? =some (.c b vs T))(h:∀d,O M w0 d (L.set i (.c b (vs.set 0 v) T)) D->K d)(k:0<vs.length:=by simp)(j:∀b∈bs,En.g b∈L:=by simp):
  aL w (aa b) v λe=>kept bs w e/\K e:=by
 have:=H.h0 (v:=v) (K:=K) i 0 hi h k j
 rwa[iV]at this
def n7{M:Nat->Prop}{w0 w:I}{L j D:List En}(H:O M w0 w L D)(h:L.Perm j):O M w0 w j D:=
 ⟨H.fr,λd e=>H.own d (h.mem_iff.2 e),H.rd,λd e=>H.new d (h.mem_iff.2 e),(List.Perm.nodup_iff (List.Perm.flatMap_right _ h)).1 H.nd,λk x b q d e=>H.dj k x b q d (h.mem_iff.2 e)⟩
section
variable {T:List aN} {Y:mR} {x:bS} {D:List En}
def acu(h:hq T Y x D){w:I}(H:O (·∈(cF Y x).flatMap (·.fp)) w w (cF Y x) D)(ap:x.cs.length<=100000)(t:aN):ah U FZ #[.pointer (some (aa Y.X.rb)),mI t] w (iR T Y x D w (pI T t x)):=by
 have L:=h.ok.T;have j:pI T t x=(xU (eP T x) x.s).s x λu x=>(il T x.s).s x λq x=>(bU T 1 x.s).s x λ_ x=>(ej x.s ⟨0,[],0,0,0,ba u.text,q⟩ t).s x λn x=>
  .ok {x with vs:=x.vs++[(u.text,n)],cs:=x.cs++[⟨0,u.text,q,n,0⟩]}:=rfl
 refine Rk.aq (H.aw λb3 w1 P=>eZ P 0 rfl (R2 (P.get 0) (BC P rfl) (h.en (λy E=>db _ E) us us) h.p) (λu s1 w2 ag Q=>⟨_,_,_,rfl,?_⟩) (λy p w' er f=>hJ (j.trans (k4 er)) f));have j:=j.trans (jN ag);obtain⟨n1,n2,n3⟩:=xV ag;have M:=eB L h.p dl n1;refine eZ Q 0 rfl (Hg (Q.get 0) (cY Q (i:=0) rfl rfl) h.tk M.l) (λq s2 w3 J H3=>⟨_,_,_,rfl,H3.aw λb5 w4 H4=>H4.ae λw5 S=>eZ S 0 rfl (ja (S.get 0) (cY S (i:=0) rfl rfl) h.tk (vR L M.l J).1.l) (λcl s3 w6 e3 H6=>⟨_,_,_,rfl,?_⟩) (λy p w' er f=>hJ ((j.trans (jN J)).trans (k4 er)) f)⟩) (λy p w' er f=>hJ (j.trans (k4 er)) f);have j:=(j.trans (jN J)).trans (jN e3);have m2:=(vR L M.l J).1;have m3:=eB L m2.l dl e3;have hm:=M.tr (m2.tr m3);have B:=h.mv hm;have W:=H6.eO (bE ⟨⟨0,[],0,0,0,ba u.text,q⟩,⟨none,0,0⟩⟩) (Fr.refl _ _) (Rd.nil _) (λb C=>by cases C);have up:∀y∈D,y∈D++[bE ⟨⟨0,[],0,0,0,ba u.text,q⟩,⟨none,0,0⟩⟩]:=λy E=>cm _ E;refine nB (X:=Y.X) W 0 rfl (up _ h.gr.d) (Br (t:=t) (d:=⟨⟨0,[],0,0,0,ba u.text,q⟩,⟨none,0,0⟩⟩) (W.get 0) (cY W (i:=0) rfl rfl) (B.gr.sub up) (up _ h.kc) (db _ (cK.2 rfl)) ⟨us,(⟨io,io⟩:cE 0),(⟨io,io⟩:cE 0),Int.le_refl _,λac=>by cases ac⟩) (λk N z A v w8 Z hv hG C G=>?_) (λy p w' er f=>hJ (j.trans (k4 er)) f);subst hv;have j:=j.trans (jN Z);obtain⟨q1,q2⟩:=wD B.gr.v B.p B.tm Z;have q3:N.p=s3.p:=VV Z;refine⟨_,rfl,_,G.ld 0 5,?_⟩;obtain⟨w9,K,u1,u2,u3,u4,_⟩:=rD va (G.ob 1) h.sv (ba u.text) (.i (k:Int)) (by rw[U8];have n2:lk x.vs u.text=none:=n2;rw[n2];rfl);have H9:=G.fy 1 (.ob Y.X.mv (.map K (Y.c1+1))) rfl (u4.mono λx _ y=>by simp[En.ob,y]) u2 (λb C=>.inl C);refine⟨w9,u1,Iq G 1 rfl u4,H9.ae λar af=>?_⟩;have eD:D++[bE ⟨⟨0,[],0,0,0,ba u.text,q⟩,⟨none,0,0⟩⟩]++[En.gr z A]=D++[bE ⟨⟨0,[],0,0,0,ba u.text,q⟩,⟨none,0,0⟩⟩,En.gr z A]:=us
 rw[eD]at af hG;have e:=B.grow q1 hG (λy E=>cm _ E);have ao:hq T {Y with X:={Y.X with g:=z},l:=A,e1:=K,c1:=Y.c1+1} {x with s:=N,vs:=x.vs++[(u.text,k)]} (D++[bE ⟨⟨0,[],0,0,0,ba u.text,q⟩,⟨none,0,0⟩⟩,En.gr z A]):=by
  refine⟨e.tk,e.mo,e.kc,e.gr,e.pr,e.ms,?_,e.sm,e.pm,e.kn,e.dp,⟨e.ok.T,λai F=>?_,e.ok.pm,e.ok.ms⟩,e.p,e.tm,e.mc,e.cc⟩
  .show dL K ((x.vs++[(u.text,k)]).map iP);rw[fv];exact u3
  .rcases aP.1 (show ai∈x.vs++[(u.text,k)]from F)with F|F
   .exact e.ok.vs ai F
   .rw [cK.1 F];exact q2
 have aj:O (·∈(cF Y x).flatMap (·.fp)) w ar (cF {Y with X:={Y.X with g:=z},l:=A,e1:=K,c1:=Y.c1+1} {x with s:=N,vs:=x.vs++[(u.text,k)]}++[.g b3,.g b5]) (D++[bE ⟨⟨0,[],0,0,0,ba u.text,q⟩,⟨none,0,0⟩⟩,En.gr z A]):=af;refine Km aj ao ⟨0,u.text,q,k,0⟩ ?_ ap us λY' ax hy am an=>?_
 .have h1:=hm.p;have h2:=h.cc;show x.cs.length+1<=N.p;omega
 .refine vL j hy (am.take 4) an λav hd b ad=>?_;rcases aF.1 hd with rfl|hd
  .cases ad
  .rw [cK.1 hd]at ad;exact(C b ad).elim (λac=>.inr ⟨_,h.gr.d,ac⟩) .inl
def GW(k:hS T):∀(f:Nat) (ps h:List (List UInt8×aM)) (s j:aH),s.p<T.length->(ps.map (·.1)).Nodup->ps.length<=s.p->j4 T f ps s=.ok h j->Mv T s j/\(h.map (·.1)).Nodup/\h.length<=j.p
 |0,ps,h,s,j,_,_,_,d=>by cases d
 |f+1,ps,h,s,j,x,e,W,d=>by
  have d:(if(aK T s.p).kind=1 then PR.ok ps (cN (aK T s.p) s)else if(aK T s.p).kind≠0 then kg (aK T s.p)else
    (bU T 2 (cN (aK T s.p) s)).b λp s=>if(lk ps p.text).isSome then .er 8 p.a4 else(il T s).b λw s=>(bU T 1 s).b λ_ s=>j4 T f (ps++[(p.text,w)]) s)=.ok h j:=d
  split at d
  .rename_i J;cases d;have m:=rU k x io;have:=m.p;exact⟨m,e,io⟩
  split at d
  .cases d
  .rename_i J H;have m:=rU k x (by simp at H;omega);obtain⟨p,Y,E,d⟩:=bT d;have y:=eB k m.l dl E;split at d
   .cases d
   .rename_i N;obtain⟨w,Z,F,d⟩:=bT d;obtain⟨S,s3,G,d⟩:=bT d;have z:=(vR k y.l F).1;have A:=eB k z.l dl G;have B:=m.tr (y.tr (z.tr A));have C:=B.p;obtain⟨a,b,c⟩:=GW k f (ps++[(p.text,w)]) h s3 j A.l (by
     rw[fv,fh];refine⟨e,us,λaa O Q q=>?_⟩;have q:Q=p.text:=by simpa using q
     subst q;rintro rfl;have:lk ps p.text=none:=by simpa using N
     obtain⟨C,M,D⟩:=dn.1 O;have L:∀{l:List (List UInt8×aM)},C∈l->lk l p.text≠none:=λ{l}=>by
      induction l with
      |nil=>intro d;cases d
      |cons a l P=>
       intro d e;unfold lk at e;split at e
       .cases e
       .rename_i K;rcases aF.1 d with rfl|d
        .exact K D
        .exact P d e
     exact L M this) (by rw[bM];simp;omega) d
    exact⟨B.tr a,b,c⟩
def HM(j:hS T):∀(f d:Nat) (s h:aH),s.p<T.length->k5 T f d s=.ok () h->Mv T s h
 |0,d,s,h,_,e=>by cases e
 |f+1,d,s,h,q,e=>by
  have e:(if(aK T s.p).kind=6 then kg (aK T s.p)else if(aK T s.p).kind=1/\d=0 then kg (aK T s.p)else
    if(if(aK T s.p).kind=0 then d+1 else if(aK T s.p).kind=1 then d - 1 else d)=0 then PR.ok () (cN (aK T s.p) s)else k5 T f (if(aK T s.p).kind=0 then d+1 else if(aK T s.p).kind=1 then d - 1 else d) (cN (aK T s.p) s))=.ok () h:=e
  split at e
  .cases e
  rename_i k;have m:=rU j q k;split at e
  .cases e
  generalize(if(aK T s.p).kind=0 then d+1 else if(aK T s.p).kind=1 then d - 1 else d)=d' at e;split at e
  .cases e;exact m
  .exact m.tr (HM j f _ _ h m.l e)
def aaQ(d:List (List UInt8×(Sl×PM)))(t:List UInt8):hg (d.map q6) (ba t)=(lk d t).map oS:=by rw[show d.map q6=d.map λe=>(ba e.1,oS e.2)from rfl,od oS]
end
end Go.Proofs.YtkbmpalepmakmaaGreatDoor
end
