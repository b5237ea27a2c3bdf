import Derived.Test.YtjakeaplbkhjmaaGreatDoorT1
import Derived.Test.YtjakeaplbkhjmaaGreatDoorN6
import Derived.Laws.CopyRow
import Derived.Test.YtjakeaplbkhjmaaGreatDoorW
import Derived.MapKept
import Derived.Test.YtjakeaplbkhjmaaGreatDoorN0
set_option linter.unusedVariables false
set_option maxRecDepth 100000
set_option maxHeartbeats 2000000
set_option linter.defProp false
noncomputable section
namespace Go.Proofs.YtjakeaplbkhjmaaGreatDoor
open Go renaming World->J,Calls->aj,Program->au,Value->V,TypeId->aE,FuncId->bX
open Go.IntKind renaming wrap->aD
open _root_.Int renaming toNat->aZ,tdiv->dP,tmod->ez,toNat_natCast->bG
open _root_.ByteArray renaming mk->a8
open Go.IntWalk renaming i64_in->br
open Go.Sem renaming run->oC
open _root_.Bool renaming and_eq_true->be,not_eq_true->ij
open _root_.Nat renaming le_refl->bm,le_trans->bD,zero_le->di,beq->bH,mul_le_mul_right->kR
open Go.Proofs.Tryz renaming prog->U
open _root_.Decidable renaming decide->ai
open Go.Ending renaming returned->ad
open List renaming mem_append->aK,mem_cons->aF,not_mem_nil->a5,mem_of_getElem?->aA,getElem?_eq_getElem->a0,getElem?_eq_some_iff->cq,mem_append_left->bV,mem_append_right->cK,mem_flatMap->cl,mem_map->dN,length_append->bb,append_assoc->cE,mem_singleton->b',length_drop->dM,flatMap_append->dL,nodup_append->eI,mem_cons_of_mem->cJ,mem_cons_self->gq,length_map->uR,drop_eq_getElem_cons->dy,all_eq_true->cY,append_nil->bU,map_append->fh,drop_of_length_le->dw,take_of_length_le->fA,eq_nil_of_length_eq_zero->F1
open Go Go.W
def ac'{P:au}{n:Cx}{c:Code}{Q:Exit->Act->J->Prop}{E E':Env}{w:J}(e:∀t v,E'.get? t=some v->E.get? t=some v)(j:WP P n c Q E' w):WP P n c Q E w:=λa d=>j a ⟨d.defers,d.size,λt v h=>d.get t v (e t v h)⟩
def ab8{E:Env}{i j:Nat}{a b:V}(k:E.get? i=some a)(q:E.get? j=some b):∀t v,Env.get? [(i,a),(j,b)] t=some v->E.get? t=some v:=by
 intro t v d;unfold Env.get? at d;cases e:bH i t with
 |true=>
  rw[e]at d;have:=Nat.eq_of_beq_eq_true e
  grind
 |false=>
  rw[e]at d;have d:Env.get? [(j,b)] t=some v:=d;unfold Env.get? at d;cases h:bH j t with
  |true=>
   rw[h]at d;have:=Nat.eq_of_beq_eq_true h
   grind
  |false=>rw[h]at d;cases d
namespace wi
abbrev T9(s:Sl)(k:Int)(w:J)(R:aB):Prop:=
 (0:Int)<=(ez (aD .i64 (dP k 216)) 8)/\(ez (aD .i64 (dP k 216)) 8)<(s.n:Int)/\dv s.a λp=>jx w (p.add (aZ (ez (aD .i64 (dP k 216)) 8) *4)) λa b c d=>yN w3 #[.agg #[.i a,.int .u8 b,.int .u8 c,d.v]] w λe f g i h=>I2 qn #[.agg #[.i e,.int .u8 f,.int .u8 g,i.v],.i 0] h λt j=>R (ad (.string t)) j
def K9(R:aB)(E:Env)(w:J):Prop:=∃(s:Sl) (k:Int),E.get? 9=some s.v/\E.get? 3=some (.i k)/\T9 s k w R
noncomputable def C0:Code:=(Tryz.f62.body).getD .skip
noncomputable def C1:=C0.sn
noncomputable def C2:=C1.sn
noncomputable def C3:=C2.sn
noncomputable def C4:=C3.sn
noncomputable def C5:=C4.sn
noncomputable def C6:=C5.sn
noncomputable def C7:=C6.sn
noncomputable def C8:=C7.sn
noncomputable def C9:=C8.sn
def ok(h:Int)(w:J)(R:aB)(z:Vr wZ #[.i h,.i 1048576] w λt11 w1=>yN pc #[] w1 λB C D F e=>c9 e (.cells #[.i 2,.int .u8 97,.int .u8 97,.slice none 0 0,.i 2,.int .u8 98,.int .u8 98,.slice none 0 0,.i 2,.int .u8 0,.int .u8 0,.slice none 0 0,.i 2,.int .u8 97,.int .u8 98,.slice none 0 0,.i 1,.int .u8 0,.int .u8 0,.slice none 0 0,.i B,.int .u8 C,.int .u8 D,F.v] aI) λq=>
 (0:Int)<=(ez t11 6)/\(ez t11 6)<((6:Nat):Int)/\dv (some (nb e)) λG=>jx q (G.add (aZ (ez t11 6) *4)) λH I K L=>c9 q (.cells #[.i 0,.int .u8 0,.int .u8 0,.slice none 0 0] aI) λw4=>
 nG w4 (nb q) (.i H) (.int .u8 I) (.int .u8 K) (L.v) λy=>(0:Int)<=(ez (aD .i64 (dP t11 6)) 6)/\(ez (aD .i64 (dP t11 6)) 6)<((6:Nat):Int)/\dv (some (nb e)) λM=>jx y (M.add (aZ (ez (aD .i64 (dP t11 6)) 6) *4)) λN O P Q=>c9 y (.cells #[.i 0,.int .u8 0,.int .u8 0,.slice none 0 0] aI) λw9=>
 nG w9 (nb y) (.i N) (.int .u8 O) (.int .u8 P) (Q.v) λx=>(0:Int)<=(ez (aD .i64 (dP t11 36)) 6)/\(ez (aD .i64 (dP t11 36)) 6)<((6:Nat):Int)/\dv (some (nb e)) λS=>jx x (S.add (aZ (ez (aD .i64 (dP t11 36)) 6) *4)) λT W Y Z=>c9 x (.cells #[.i 0,.int .u8 0,.int .u8 0,.slice none 0 0] aI) λaf=>
 nG af (nb x) (.i T) (.int .u8 W) (.int .u8 Y) (Z.v) λj=>jx j (nb q) λaa ab ac ae=>c9 j (.cells #[.i aa,.int .u8 ab,.int .u8 ac,ae.v] aI) λA=>
 c9 A (.cells #[.i 0,.int .u8 0,.int .u8 0,.slice none 0 0] aI) λag=>
 nG ag (nb A) (.i 7) (.int .u8 0) (.int .u8 0) (.slice (some (nb j)) 1 1) λah=>xI U C7 (K9 R) [(8,.pointer (some (nb A))),(38,.agg #[.i 7,.int .u8 0,.int .u8 0,.slice (some (nb j)) 1 1]),(37,.slice (some (nb j)) 1 1),(36,.agg #[.i aa,.int .u8 ab,.int .u8 ac,ae.v]),(7,.pointer (some (nb x))),(35,.agg #[.i T,.int .u8 W,.int .u8 Y,Z.v]),(34,.pointer (some (S.add (aZ (ez (aD .i64 (dP t11 36)) 6) *4)))),(33,.i (ez (aD .i64 (dP t11 36)) 6)),(32,.i (aD .i64 (dP t11 36))),(31,.i t11),(30,.slice (some (nb e)) 6 6),(6,.pointer (some (nb y))),(29,.agg #[.i N,.int .u8 O,.int .u8 P,Q.v]),(28,.pointer (some (M.add (aZ (ez (aD .i64 (dP t11 6)) 6) *4)))),(27,.i (ez (aD .i64 (dP t11 6)) 6)),(26,.i (aD .i64 (dP t11 6))),(25,.i t11),(24,.slice (some (nb e)) 6 6),(5,.pointer (some (nb q))),(23,.agg #[.i H,.int .u8 I,.int .u8 K,L.v]),(22,.pointer (some (G.add (aZ (ez t11 6) *4)))),(21,.i (ez t11 6)),(20,.i t11),(19,.slice (some (nb e)) 6 6),(4,.slice (some (nb e)) 6 6),(18,.slice (some (nb e)) 6 6),(17,.agg #[.i B,.int .u8 C,.int .u8 D,F.v]),(16,.agg #[.i 1,.int .u8 0,.int .u8 0,.slice none 0 0]),(15,.agg #[.i 2,.int .u8 97,.int .u8 98,.slice none 0 0]),(14,.agg #[.i 2,.int .u8 0,.int .u8 0,.slice none 0 0]),(13,.agg #[.i 2,.int .u8 98,.int .u8 98,.slice none 0 0]),(12,.agg #[.i 2,.int .u8 97,.int .u8 97,.slice none 0 0]),(3,.i t11),(11,.i t11),(10,.i h),(2,.s0),(0,.i h)] ah):aj U Mz #[.i h] w R:=
 vY (R:=R) (fn:=Tryz.f62) (c:=C0) (args:=[.i h]) (by kernel_rfl) (by kernel_rfl) (by kernel_rfl) (sr C0 (show(λ(E:Env) (w:J)=>eP U C0 (λE w=>eP U C1 (λE w=>eP U C2 (λE w=>eP U C3 (λE w=>eP U C4 (λE w=>eP U C5 (λE w=>eP U C6 (λE w=>xI U C7 (K9 R) E w) E w) E w) E w) E w) E w) E w) E w) (kp 0 [.i h]) w from mp z) λ_ _ d=>(sr C1 d λ_ _ d=>(sr C2 d λ_ _ d=>(sr C3 d λ_ _ d=>(sr C4 d λ_ _ d=>(sr C5 d λ_ _ d=>(sr C6 d λ_ _ d=>(si C7 (by kernel_rfl) d λ_ _ d=>(let ⟨s,k,h9,h3,z⟩:=d;ac' (E':=[(9,s.v),(3,.i k)]) (ab8 h9 h3) (sr C8 (show eP U C8 (λE w=>lq U Tryz.f62 E w (λv=>R (ad v) w)) [(9,s.v),(3,.i k)] _ from mp z) λ_ _ d=>(rt C9 λa hA=>xy hA d)))))))))))
end wi
inductive vL where
 |tr (x:Rx)
 |ls (l:List Rx)
def wL(base:Nat)(w:J)(v:Option V):vL->Prop
 |.tr d=>∃t:I,v=some t.v/\t.rx=d/\t.P w/\∀b∈t.fp,base<=b
 |.ls l=>∃(s:Sl) (ts:List I),v=some s.v/\I.ao ts=l/\(bK s ts).P w/\∀b∈(bK s ts).fp,base<=b
def wL.cC{base:Nat}{w w':J}{v:Option V}{k:vL}(q:wL base w v k)(f:ag w w'):wL base w' v k:=by
 cases k with
 |tr y=>obtain⟨t,d,e,h,j⟩:=q;exact⟨t,d,e,h.cC f,j⟩
 |ls l=>obtain⟨s,x,d,e,h,j⟩:=q;exact⟨s,x,d,e,h.cC f,j⟩
def df(i:Nat):Nat:=if i=40 then 9 else 39+i
def j9(base:Nat)(w:J)(E:Env)(t:Nat)(x:Rx):Prop:=∃(b:Nat) (u:I),E.get? t=some (.pointer (some (ab b)))/\w.heap[b]? =some (.cells u.c.toArray aI (0,0))/\u.rx=x/\u.P w/\∀c∈u.fp,base<=c
def j9.cC{base:Nat}{w w':J}{E:Env}{t:Nat}{x:Rx}(e:j9 base w E t x)(f:ag w w'):j9 base w' E t x:=by obtain⟨b,u,h,d,j,k,q⟩:=e;exact⟨b,u,h,(f.cD b (o9 d) id).trans d,j,k.cC f,q⟩
def j9.put{base:Nat}{w:J}{E:Env}{t d:Nat}{v:V}{x:Rx}(e:j9 base w E t x)(hd:d≠t):j9 base w (E.put (some d) v) t x:=by obtain⟨b,u,h,j⟩:=e;exact⟨b,u,by rw[jw hd];exact h,j⟩
section
variable (w0:J) (base:Nat) (kk:Int) (Xa Xb Xc Xs:Rx)
def dz:List vL:=[.tr Xa,
 .tr Xa,
 .tr Xb,
 .ls [Xa,Xb],
 .tr (.mk 3 0 0 [Xa,Xb]),
 .tr Xa,
 .tr Xb,
 .tr Xc,
 .ls [Xa,Xb,Xc],
 .tr (.mk 4 0 0 [Xa,Xb,Xc]),
 .tr Xs,
 .tr Xs,
 .tr Xb,
 .ls [Xs,Xb],
 .tr (.mk 3 0 0 [Xs,Xb]),
 .tr Xa,
 .tr Xb,
 .ls [Xa,Xb],
 .tr (.mk 3 0 0 [Xa,Xb]),
 .ls [(.mk 3 0 0 [Xa,Xb])],
 .tr (.mk 6 0 0 [(.mk 3 0 0 [Xa,Xb])]),
 .tr Xb,
 .tr Xa,
 .tr Xc,
 .ls [Xa,Xc],
 .tr (.mk 4 0 0 [Xa,Xc]),
 .ls [(.mk 4 0 0 [Xa,Xc])],
 .tr (.mk 7 0 0 [(.mk 4 0 0 [Xa,Xc])]),
 .ls [Xb,(.mk 7 0 0 [(.mk 4 0 0 [Xa,Xc])])],
 .tr (.mk 3 0 0 [Xb,(.mk 7 0 0 [(.mk 4 0 0 [Xa,Xc])])]),
 .tr Xb,
 .ls [Xb],
 .tr (.mk 6 0 0 [Xb]),
 .tr Xa,
 .tr eL,
 .ls [Xa,eL],
 .tr (.mk 3 0 0 [Xa,eL]),
 .ls [(.mk 6 0 0 [Xb]),(.mk 3 0 0 [Xa,eL])],
 .tr (.mk 5 0 0 [(.mk 6 0 0 [Xb]),(.mk 3 0 0 [Xa,eL])]),
 .ls [Xa,(.mk 3 0 0 [Xa,Xb]),(.mk 4 0 0 [Xa,Xb,Xc]),Xs,(.mk 3 0 0 [Xs,Xb]),(.mk 6 0 0 [(.mk 3 0 0 [Xa,Xb])]),(.mk 3 0 0 [Xb,(.mk 7 0 0 [(.mk 4 0 0 [Xa,Xc])])]),(.mk 5 0 0 [(.mk 6 0 0 [Xb]),(.mk 3 0 0 [Xa,eL])])],
 .ls [Xa,(.mk 3 0 0 [Xa,Xb]),(.mk 4 0 0 [Xa,Xb,Xc]),Xs,(.mk 3 0 0 [Xs,Xb]),(.mk 6 0 0 [(.mk 3 0 0 [Xa,Xb])]),(.mk 3 0 0 [Xb,(.mk 7 0 0 [(.mk 4 0 0 [Xa,Xc])])]),(.mk 5 0 0 [(.mk 6 0 0 [Xb]),(.mk 3 0 0 [Xa,eL])])]]
structure JT(L:Nat->Bool)(E:Env)(w:J):Prop where
 fr:ag w0 w
 k:E.get? 3=some (.i kk)
 a:j9 base w E 5 Xa
 b:j9 base w E 6 Xb
 c:j9 base w E 7 Xc
 s:j9 base w E 8 Xs
 all:∀(i:Nat) (sp:vL),(dz Xa Xb Xc Xs)[i]? =some sp->L i=true->wL base w (E.get? (df i)) sp
variable {w0 base kk Xa Xb Xc Xs}
def JT.step{L:Nat->Bool}{E:Env}{w w':J}(e:JT w0 base kk Xa Xb Xc Xs L E w)(f:ag w w'){i d:Nat}(hd:d=df i){v:V}{y:vL}(x:(dz Xa Xb Xc Xs)[i]? =some y)(z:wL base w' (some v) y):JT w0 base kk Xa Xb Xc Xs (dW L i) (E.put (some d) v) w':=by
 have F:9<=d:=by rw[hd];unfold df;grind
 refine⟨e.fr.g' f,by rw[jw io];exact e.k,(e.a.cC f).put io,(e.b.cC f).put io,(e.c.cC f).put io,(e.s.cC f).put io,λh sq j D=>?_⟩;by_cases q:h=i
 .subst q;rw[x]at j;cases j;rw[<-hd,ub];exact z
 .have A:d≠df h:=by
   rw[hd];have B:i<41:=(cq.1 x).1;have C:h<41:=(cq.1 j).1;unfold df
   grind
  rw[jw A];refine(e.all h sq j ?_).cC f;have:bH h i=false:=by rw[<-ij,Nat.beq_eq];exact q
  grind
abbrev jj(w0:J)(base:Nat)(kk:Int)(Xa Xb Xc Xs:Rx)(i:Nat)(r:Op×Option Nat×aE×List Nat):Prop:=yt U (JT w0 base kk Xa Xb Xc Xs) i r
def X4{b:Nat}{u:I}{w:J}(d:w.heap[b]? =some (.cells u.c.toArray aI (0,0))){K:V->Prop}(C:K u.v):n9 U aI (ab b) w λv _=>K v:=by
 have x:=cellAt (p:=ab b) (i:=0) (v:=.int .i64 u.k) d rfl rfl;have y:=cellAt (p:=ab b) (i:=1) (v:=.int .u8 (u.lo.toNat:Int)) d rfl rfl;have z:=cellAt (p:=ab b) (i:=2) (v:=.int .u8 (u.hi.toNat:Int)) d rfl rfl;have A:=cellAt (p:=ab b) (i:=3) (v:=u.s.v) d rfl rfl;have B:(n9 U aI (ab b) w λv _=>K v)=(∃e:Int,∃h:Int,∃j:Int,∃q:Sl,w.cell? ((ab b).add 0)=some (.int .i64 e)/\w.cell? ((ab b).add 1)=some (.int .u8 h)/\w.cell? ((ab b).add 2)=some (.int .u8 j)/\w.cell? ((ab b).add 3)=some q.v/\K (.agg #[.int .i64 e,.int .u8 h,.int .u8 j,q.v])):=by kernel_rfl
 grind
def AF{ty:aE}{q:List Nat}{t:Nat}{x:Rx}(i d:Nat)(hd:d=df i)(E:(dz Xa Xb Xc Xs)[i]? =some (.tr x))(F:∀j e h,JT w0 base kk Xa Xb Xc Xs j e h->j9 base h e t x):jj w0 base kk Xa Xb Xc Xs i (.load aI (.tmp t),some d,ty,q):=by intro j e h o D C I H G k;obtain⟨b,u,w,y,z,A,B⟩:=F j e h k;refine sB D w (X4 y ?_);rw[C];exact k.step (Fr.refl _ _) hd E ⟨u,rfl,z,A,B⟩
def u0{ty:aE}{h:List Nat}(i d:Nat)(j:(dz Xa Xb Xc Xs)[i]? =some (.tr Xa))(hd:d=df i:=by rfl):jj w0 base kk Xa Xb Xc Xs i (.load aI (.tmp 5),some d,ty,h):=AF i d hd j λ_ _ _ e=>e.a
def u1{ty:aE}{h:List Nat}(i d:Nat)(j:(dz Xa Xb Xc Xs)[i]? =some (.tr Xb))(hd:d=df i:=by rfl):jj w0 base kk Xa Xb Xc Xs i (.load aI (.tmp 6),some d,ty,h):=AF i d hd j λ_ _ _ e=>e.b
def Q'{ty:aE}{h:List Nat}(i d:Nat)(j:(dz Xa Xb Xc Xs)[i]? =some (.tr Xc))(hd:d=df i:=by rfl):jj w0 base kk Xa Xb Xc Xs i (.load aI (.tmp 7),some d,ty,h):=AF i d hd j λ_ _ _ e=>e.c
def Ra{ty:aE}{h:List Nat}(i d:Nat)(j:(dz Xa Xb Xc Xs)[i]? =some (.tr Xs))(hd:d=df i:=by rfl):jj w0 base kk Xa Xb Xc Xs i (.load aI (.tmp 8),some d,ty,h):=AF i d hd j λ_ _ _ e=>e.s
def aa0(a:I)(w:J):(Instr.buildSlice dc 1 #[((0:Nat),a.v)]).run U w=.ok (.slice (some (ab w.heap.size)) 1 1) (w.alloc (.cells ([a].flatMap I.c).toArray aI)):=by kernel_rfl
def aa1(a b:I)(w:J):(Instr.buildSlice dc 2 #[((0:Nat),a.v),(1,b.v)]).run U w=.ok (.slice (some (ab w.heap.size)) 2 2) (w.alloc (.cells ([a,b].flatMap I.c).toArray aI)):=by kernel_rfl
def aa2(a b c:I)(w:J):(Instr.buildSlice dc 3 #[((0:Nat),a.v),(1,b.v),(2,c.v)]).run U w=.ok (.slice (some (ab w.heap.size)) 3 3) (w.alloc (.cells ([a,b,c].flatMap I.c).toArray aI)):=by kernel_rfl
def aa3(a b c q e g r s:I)(w:J):(Instr.buildSlice dc 8 #[((0:Nat),a.v),(1,b.v),(2,c.v),(3,q.v),(4,e.v),(5,g.v),(6,r.v),(7,s.v)]).run U w=.ok (.slice (some (ab w.heap.size)) 8 8) (w.alloc (.cells ([a,b,c,q,e,g,r,s].flatMap I.c).toArray aI)):=by kernel_rfl
def A3{o:Oper}{T:aE}{n:Nat}{parts:Array (Nat×Operand)}{E:Env}{w w':J}{v:V}{K:Env->J->Prop}(d:o.op=.buildSlice T n parts)(h:E.e0 o=true)(k:(Instr.buildSlice T n (parts.map λp=>(p.1,E.ev p.2))).run U w=.ok v w')(e:K (E.put o.dst v) w'):jJ U o E w K:=by
 obtain⟨dst,op,q,pos,after,guard⟩:=o;simp only at d;subst d;have j:tT U ⟨dst,.buildSlice T n parts,q,pos,after,guard⟩ E w (λv w'=>K (E.put dst v) w'):=by unfold tT;rw[h];show cL true _;simp only[execOp];rw[show(λ(x:Nat×Operand)=>match x with |(i,x)=>(i,E.ev x))=λp=>(p.1,E.ev p.2)from rfl];simp[k];exact e
 unfold jJ;simp only[calm,cond_false];unfold hM;exact j
def kq{E:Env}{t:Nat}{v:V}(d:E.get? t=some v):E.ev (.tmp t)=v:=by simp[Env.ev,Env.val,d]
def zy{w:J}{ts:List I}{n:Nat}(j:n=ts.length)(z:n<=1000)(k:I.Ps w ts)(y:∀b∈I.bd ts,base<=b)(x:base<=w.heap.size):
  (bK ⟨some (ab w.heap.size),n,n⟩ ts).P (w.alloc (.cells (ts.flatMap I.c).toArray aI))/\∀b∈(bK ⟨some (ab w.heap.size),n,n⟩ ts).fp,base<=b:=by
 have q:=aL.made w aI 4 n (ts.flatMap I.c) (by rw[I.hL,j]) (by unfold maxLen;omega);refine⟨dk.2 ⟨q.a2,k.cC (Fr.alloc _ _ _)⟩,λb e=>?_⟩;rcases mK.1 e with d|d
 .exact nD (λc h=>by simp only[aR,aF,a5,a9]at h;omega) b d
 grind
def JT.vT{L:Nat->Bool}{E:Env}{w:J}(d:JT w0 base kk Xa Xb Xc Xs L E w)(e:base<=w0.heap.size):base<=w.heap.size:=bD e d.fr.size
section
variable (wH:base<=w0.heap.size)
include wH
def Gm{ty:aE}{y:List Nat}(i d e:Nat){x:Nat}{x0:Rx}(H:(dz Xa Xb Xc Xs)[i]? =some (.ls [x0]))(E:(dz Xa Xb Xc Xs)[e]? =some (.tr x0))(K:e∈y)(hd:d=df i:=by rfl)(D:x=df e:=by rfl):jj w0 base kk Xa Xb Xc Xs i (.buildSlice dc 1 #[(0,.tmp x)],some d,ty,y):=by
 intro L A h o q G O N F j;obtain⟨a,k,B,M,C⟩:=j.all e _ E (F e K);rw[<-D]at k;have z:=zy (base:=base) (w:=h) (ts:=[a]) (n:=1) rfl io (I.jD (by grind)) (by simp[I.bd];exact C) (j.vT wH);refine A3 (w':=h.alloc (.cells ([a].flatMap I.c).toArray aI)) (v:=.slice (some (ab h.heap.size)) 1 1) q (by obtain⟨_,op,_,_,_,_⟩:=o;simp only at q;subst q;simp[Env.e0,Op.operands,Env.val,k]) ?_ ?_
 .rw [show(#[((0:Nat),Operand.tmp x)].map λp=>(p.1,A.ev p.2))=#[((0:Nat),a.v)]by simp[kq k]];exact aa0 a h
 .rw [G];exact j.step (Fr.alloc _ _ _) hd H ⟨⟨some (ab h.heap.size),1,1⟩,[a],rfl,by simp[I.ao,B],z.1,z.2⟩
def sh{ty:aE}{y:List Nat}(i d e h:Nat){A B:Nat}{x0 x1:Rx}(O:(dz Xa Xb Xc Xs)[i]? =some (.ls [x0,x1]))(L:(dz Xa Xb Xc Xs)[e]? =some (.tr x0))(M:(dz Xa Xb Xc Xs)[h]? =some (.tr x1))(P:e∈y)(m1:h∈y)(hd:d=df i:=by rfl)(H:A=df e:=by rfl)(K:B=df h:=by rfl):jj w0 base kk Xa Xb Xc Xs i (.buildSlice dc 2 #[(0,.tmp A),(1,.tmp B)],some d,ty,y):=by
 intro Q E j o z N ht Z C k;obtain⟨a,q,F,S,T⟩:=k.all e _ L (C e P);obtain⟨b,x,G,W,Y⟩:=k.all h _ M (C h m1);rw[<-H]at q;rw[<-K]at x;have D:=zy (base:=base) (w:=j) (ts:=[a,b]) (n:=2) rfl io (I.jD (by grind)) (by simp[I.bd];grind) (k.vT wH);refine A3 (w':=j.alloc (.cells ([a,b].flatMap I.c).toArray aI)) (v:=.slice (some (ab j.heap.size)) 2 2) z (by obtain⟨_,op,_,_,_,_⟩:=o;simp only at z;subst z;simp[Env.e0,Op.operands,Env.val,q,x]) ?_ ?_
 .rw [show(#[((0:Nat),Operand.tmp A),(1,.tmp B)].map λp=>(p.1,E.ev p.2))=#[((0:Nat),a.v),(1,b.v)]by simp[kq q,kq x]];exact aa1 a b j
 .rw [N];exact k.step (Fr.alloc _ _ _) hd O ⟨⟨some (ab j.heap.size),2,2⟩,[a,b],rfl,by simp[I.ao,F,G],D.1,D.2⟩
def aaT{ty:aE}{x:List Nat}(i d h j k:Nat){D E t2:Nat}{x0 x1 x2:Rx}(W:(dz Xa Xb Xc Xs)[i]? =some (.ls [x0,x1,x2]))(P:(dz Xa Xb Xc Xs)[h]? =some (.tr x0))(Q:(dz Xa Xb Xc Xs)[j]? =some (.tr x1))(S:(dz Xa Xb Xc Xs)[k]? =some (.tr x2))(Y:h∈x)(m1:j∈x)(Z:k∈x)(hd:d=df i:=by rfl)(M:D=df h:=by rfl)(N:E=df j:=by rfl)(O:t2=df k:=by rfl):jj w0 base kk Xa Xb Xc Xs i (.buildSlice dc 3 #[(0,.tmp D),(1,.tmp E),(2,.tmp t2)],some d,ty,x):=by
 intro aa G q o C T ht hi B e;obtain⟨a,y,H,a3,a4⟩:=e.all h _ P (B h Y);obtain⟨b,z,K,b3,b4⟩:=e.all j _ Q (B j m1);obtain⟨c,A,L,c3,c4⟩:=e.all k _ S (B k Z);rw[<-M]at y;rw[<-N]at z;rw[<-O]at A;have F:=zy (base:=base) (w:=q) (ts:=[a,b,c]) (n:=3) rfl io (I.jD (by grind)) (by simp[I.bd];grind) (e.vT wH);refine A3 (w':=q.alloc (.cells ([a,b,c].flatMap I.c).toArray aI)) (v:=.slice (some (ab q.heap.size)) 3 3) C (by obtain⟨_,op,_,_,_,_⟩:=o;simp only at C;subst C;simp[Env.e0,Op.operands,Env.val,y,z,A]) ?_ ?_
 .rw [show(#[((0:Nat),Operand.tmp D),(1,.tmp E),(2,.tmp t2)].map λp=>(p.1,G.ev p.2))=#[((0:Nat),a.v),(1,b.v),(2,c.v)]by simp[kq y,kq z,kq A]];exact aa2 a b c q
 .rw [T];exact e.step (Fr.alloc _ _ _) hd W ⟨⟨some (ab q.heap.size),3,3⟩,[a,b,c],rfl,by simp[I.ao,H,K,L],F.1,F.2⟩
def aaU{ty:aE}{h:List Nat}(i d q x y z A B C D:Nat){S T t2 t3 t4 W Y Z:Nat}{x0 x1 x2 x3 x4 x5 x6 x7:Rx}(hs:(dz Xa Xb Xc Xs)[i]? =some (.ls [x0,x1,x2,x3,x4,x5,x6,x7]))(h0:(dz Xa Xb Xc Xs)[q]? =some (.tr x0))(h1:(dz Xa Xb Xc Xs)[x]? =some (.tr x1))(h2:(dz Xa Xb Xc Xs)[y]? =some (.tr x2))(h3:(dz Xa Xb Xc Xs)[z]? =some (.tr x3))(h4:(dz Xa Xb Xc Xs)[A]? =some (.tr x4))(h5:(dz Xa Xb Xc Xs)[B]? =some (.tr x5))(h6:(dz Xa Xb Xc Xs)[C]? =some (.tr x6))(h7:(dz Xa Xb Xc Xs)[D]? =some (.tr x7))(m0:q∈h)(m1:x∈h)(m2:y∈h)(m3:z∈h)(m4:A∈h)(m5:B∈h)(m6:C∈h)(m7:D∈h)(hd:d=df i:=by rfl)(ac:S=df q:=by rfl)(e1:T=df x:=by rfl)(e2:t2=df y:=by rfl)(e3:t3=df z:=by rfl)(e4:t4=df A:=by rfl)(e5:W=df B:=by rfl)(e6:Y=df C:=by rfl)(e7:Z=df D:=by rfl):
  jj w0 base kk Xa Xb Xc Xs i (.buildSlice dc 8 #[(0,.tmp S),(1,.tmp T),(2,.tmp t2),(3,.tmp t3),(4,.tmp t4),(5,.tmp W),(6,.tmp Y),(7,.tmp Z)],some d,ty,h):=by
 intro af aa F o N ae ht hi j e;obtain⟨a,G,a2,a3,a4⟩:=e.all q _ h0 (j q m0);obtain⟨b,H,b2,b3,b4⟩:=e.all x _ h1 (j x m1);obtain⟨c,K,c2,c3,c4⟩:=e.all y _ h2 (j y m2);obtain⟨E,O,q2,q3,q4⟩:=e.all z _ h3 (j z m3);obtain⟨k,L,f2,f3,f4⟩:=e.all A _ h4 (j A m4);obtain⟨g,M,g2,g3,g4⟩:=e.all B _ h5 (j B m5);obtain⟨r,P,r2,r3,r4⟩:=e.all C _ h6 (j C m6);obtain⟨s,Q,s2,s3,s4⟩:=e.all D _ h7 (j D m7);rw[<-ac]at G;rw[<-e1]at H;rw[<-e2]at K;rw[<-e3]at O;rw[<-e4]at L;rw[<-e5]at M;rw[<-e6]at P;rw[<-e7]at Q;have hm:=zy (base:=base) (w:=F) (ts:=[a,b,c,E,k,g,r,s]) (n:=8) rfl io (I.jD (by simp[a3,b3,c3,q3,f3,g3,r3,s3])) (by
  intro ag hz;obtain⟨t,ht,hy⟩:=I.bS.1 hz;clear hz;simp only[aF,a5,a9]at ht
  grind) (e.vT wH)
 refine A3 (w':=F.alloc (.cells ([a,b,c,E,k,g,r,s].flatMap I.c).toArray aI)) (v:=.slice (some (ab F.heap.size)) 8 8) N (by obtain⟨_,op,_,_,_,_⟩:=o;simp only at N;subst N;simp[Env.e0,Op.operands,Env.val,G,H,K,O,L,M,P,Q]) ?_ ?_
 .rw [show(#[((0:Nat),Operand.tmp S),(1,.tmp T),(2,.tmp t2),(3,.tmp t3),(4,.tmp t4),(5,.tmp W),(6,.tmp Y),(7,.tmp Z)].map λp=>(p.1,aa.ev p.2))=#[((0:Nat),a.v),(1,b.v),(2,c.v),(3,E.v),(4,k.v),(5,g.v),(6,r.v),(7,s.v)]by simp[kq G,kq H,kq K,kq O,kq L,kq M,kq P,kq Q]];exact aa3 a b c E k g r s F
 .rw [ae];exact e.step (Fr.alloc _ _ _) hd hs ⟨⟨some (ab F.heap.size),8,8⟩,[a,b,c,E,k,g,r,s],rfl,by simp[I.ao,a2,b2,c2,q2,f2,g2,r2,s2],hm.1,hm.2⟩
end
def abU{o:Oper}{k:Int}{t:Nat}{s:Sl}{E:Env}{w:J}{K:Env->J->Prop}(B:k=3\/k=4\/k=5\/k=6\/k=7)(h:o.op=.build aI #[(0,.const (.int .i64 k)),(3,.tmp t)])(j:E.get? t=some s.v)(y:K (E.put o.dst (.agg #[.i k,.int .u8 0,.int .u8 0,s.v])) w):jJ U o E w K:=by
 obtain⟨dst,op,d,pos,after,guard⟩:=o;simp only at h;subst h;show g4 U _ E (λv _=>K (E.put dst v) w);have A:E.e0 ⟨dst,.build aI #[(0,.const (.int .i64 k)),(3,.tmp t)],d,pos,after,guard⟩=true:=by simp[Env.e0,Op.operands,Env.val,j]
 unfold g4;rw[A];have q:execOp E.ev ⟨dst,.build aI #[(0,.const (.int .i64 k)),(3,.tmp t)],d,pos,after,guard⟩=execOp (λe=>match e with |.const v=>v|_=>s.v) ⟨dst,.build aI #[(0,.const (.int .i64 k)),(3,.tmp t)],d,pos,after,guard⟩:=by
  have:E.ev (.tmp t)=s.v:=kq j;have z:E.ev (.const (.int .i64 k))=.int .i64 k:=by simp[Env.ev,Env.val]
  simp only[execOp,List.map_toArray,List.map_cons,List.map_nil,this,z]
 rw[q];have x:r' U (execOp (λe=>match e with |.const v=>v|_=>s.v) ⟨dst,.build aI #[(0,.const (.int .i64 k)),(3,.tmp t)],d,pos,after,guard⟩)=some (.value (.agg #[.i k,.int .u8 0,.int .u8 0,s.v])):=by kernel_rfl
 rw[x];exact y
def xA{ty:aE}{q:List Nat}(k:Int)(E:k=3\/k=4\/k=5\/k=6\/k=7)(i d j:Nat){t:Nat}{l:List Rx}(G:(dz Xa Xb Xc Xs)[i]? =some (.tr (.mk k 0 0 l)))(B:(dz Xa Xb Xc Xs)[j]? =some (.ls l))(m:j∈q)(hd:d=df i)(A:t=df j):jj w0 base kk Xa Xb Xc Xs i (.build aI #[(0,.const (.int .i64 k)),(3,.tmp t)],some d,ty,q):=by
 intro L K O o F D N M C e;obtain⟨s,H,h,x,y,z⟩:=e.all j _ B (C j m);rw[<-A]at h;refine abU E F h ?_;rw[D];refine e.step (Fr.refl _ _) hd G ⟨.mk k 0 0 s H,rfl,by rw[<-x];rfl,?_,λb w=>z b ?_⟩
 .have:=dk.1 y;unfold I.P;omega
 .unfold I.fp at w;unfold bK I.fp;exact w
def xB{ty:aE}{e:List Nat}(i d j:Nat){t:Nat}{l:List Rx}(q:(dz Xa Xb Xc Xs)[i]? =some (.tr (.mk 3 0 0 l)))(k:(dz Xa Xb Xc Xs)[j]? =some (.ls l))(m:j∈e)(hd:d=df i:=by rfl)(h:t=df j:=by rfl):jj w0 base kk Xa Xb Xc Xs i (.build aI #[(0,.const (.int .i64 3)),(3,.tmp t)],some d,ty,e):=xA 3 io i d j q k m hd h
def Q8{ty:aE}{e:List Nat}(i d j:Nat){t:Nat}{l:List Rx}(q:(dz Xa Xb Xc Xs)[i]? =some (.tr (.mk 4 0 0 l)))(k:(dz Xa Xb Xc Xs)[j]? =some (.ls l))(m:j∈e)(hd:d=df i:=by rfl)(h:t=df j:=by rfl):jj w0 base kk Xa Xb Xc Xs i (.build aI #[(0,.const (.int .i64 4)),(3,.tmp t)],some d,ty,e):=xA 4 io i d j q k m hd h
def aaR{ty:aE}{e:List Nat}(i d j:Nat){t:Nat}{l:List Rx}(q:(dz Xa Xb Xc Xs)[i]? =some (.tr (.mk 5 0 0 l)))(k:(dz Xa Xb Xc Xs)[j]? =some (.ls l))(m:j∈e)(hd:d=df i:=by rfl)(h:t=df j:=by rfl):jj w0 base kk Xa Xb Xc Xs i (.build aI #[(0,.const (.int .i64 5)),(3,.tmp t)],some d,ty,e):=xA 5 io i d j q k m hd h
def Q9{ty:aE}{e:List Nat}(i d j:Nat){t:Nat}{l:List Rx}(q:(dz Xa Xb Xc Xs)[i]? =some (.tr (.mk 6 0 0 l)))(k:(dz Xa Xb Xc Xs)[j]? =some (.ls l))(m:j∈e)(hd:d=df i:=by rfl)(h:t=df j:=by rfl):jj w0 base kk Xa Xb Xc Xs i (.build aI #[(0,.const (.int .i64 6)),(3,.tmp t)],some d,ty,e):=xA 6 io i d j q k m hd h
def aaS{ty:aE}{e:List Nat}(i d j:Nat){t:Nat}{l:List Rx}(q:(dz Xa Xb Xc Xs)[i]? =some (.tr (.mk 7 0 0 l)))(k:(dz Xa Xb Xc Xs)[j]? =some (.ls l))(m:j∈e)(hd:d=df i:=by rfl)(h:t=df j:=by rfl):jj w0 base kk Xa Xb Xc Xs i (.build aI #[(0,.const (.int .i64 7)),(3,.tmp t)],some d,ty,e):=xA 7 io i d j q k m hd h
def aaW{ty:aE}{k:List Nat}(i d j:Nat){t:Nat}{l:List Rx}(D:(dz Xa Xb Xc Xs)[i]? =some (.ls l))(z:(dz Xa Xb Xc Xs)[j]? =some (.ls l))(m:j∈k)(hd:d=df i:=by rfl)(y:t=df j:=by rfl):jj w0 base kk Xa Xb Xc Xs i (.assign (.tmp t),some d,ty,k):=by intro G F K o C B I H A e;obtain⟨s,E,h,q,w,x⟩:=e.all j _ z (A j m);rw[<-y]at h;refine pC (.inr C) h ?_;rw[B];exact e.step (Fr.refl _ _) hd D ⟨s,E,rfl,q,w,x⟩
def aaV{E:List Nat}(L:base<=w0.heap.size)(i d:Nat)(P:(dz Xa Xb Xc Xs)[i]? =some (.tr eL))(hd:d=df i:=by rfl):jj w0 base kk Xa Xb Xc Xs i (.call ⟨.value (.func pc),#[],#[]⟩,some d,aI,E):=by
 intro j e D o x w y S Q q;obtain⟨dst,op,T,pos,after,guard⟩:=o;simp only at x w y;subst x;subst w;subst y;have M:e.e0 ⟨some d,.call ⟨.value (.func pc),#[],#[]⟩,aI,pos,after,guard⟩=true:=by simp[Env.e0,Op.operands,Call.operands,Env.val]
 have N:hg U pc=true:=by kernel_rfl
 have O:calm U ⟨some d,.call ⟨.value (.func pc),#[],#[]⟩,aI,pos,after,guard⟩=false:=rfl;unfold jJ;rw[O,cond_false];unfold hM;dsimp only;rw[M,N];simp only[List.map_toArray,List.map_nil,cond_true];refine(show rh U pc #[] (zeroOf U aI) D (λv h=>JT w0 base kk Xa Xb Xc Xs (dW j i) (e.put (some d) v) h)from ?_);refine(Cs D).mono ?_;rintro _ h ⟨⟨t,rfl,G,H,I⟩,f⟩;have F:n5 (zeroOf U aI) (λv=>Ending.returned t.v=ad v/\JT w0 base kk Xa Xb Xc Xs (dW j i) (e.put (some d) v) h)=∃z:Int,∃A:Int,∃B:Int,∃C:Sl,Ending.returned t.v=ad (.agg #[.int .i64 z,.int .u8 A,.int .u8 B,C.v])/\JT w0 base kk Xa Xb Xc Xs (dW j i) (e.put (some d) (.agg #[.int .i64 z,.int .u8 A,.int .u8 B,C.v])) h:=by kernel_rfl
 rw[F];exact⟨t.k,t.lo.toNat,t.hi.toNat,t.s,rfl,q.step f hd P ⟨t,rfl,G,H,λb K=>bD (q.vT L) (I b K)⟩⟩
def Sk:List (Op×Option Nat×aE×List Nat):=[(.load aI (.tmp 5),some 39,aI,[]),
 (.load aI (.tmp 5),some 40,aI,[]),
 (.load aI (.tmp 6),some 41,aI,[]),
 (.buildSlice dc 2 #[(0,.tmp 40),(1,.tmp 41)],some 42,dc,[1,2]),
 (.build aI #[(0,.const (.int .i64 3)),(3,.tmp 42)],some 43,aI,[3]),
 (.load aI (.tmp 5),some 44,aI,[]),
 (.load aI (.tmp 6),some 45,aI,[]),
 (.load aI (.tmp 7),some 46,aI,[]),
 (.buildSlice dc 3 #[(0,.tmp 44),(1,.tmp 45),(2,.tmp 46)],some 47,dc,[5,6,7]),
 (.build aI #[(0,.const (.int .i64 4)),(3,.tmp 47)],some 48,aI,[8]),
 (.load aI (.tmp 8),some 49,aI,[]),
 (.load aI (.tmp 8),some 50,aI,[]),
 (.load aI (.tmp 6),some 51,aI,[]),
 (.buildSlice dc 2 #[(0,.tmp 50),(1,.tmp 51)],some 52,dc,[11,12]),
 (.build aI #[(0,.const (.int .i64 3)),(3,.tmp 52)],some 53,aI,[13]),
 (.load aI (.tmp 5),some 54,aI,[]),
 (.load aI (.tmp 6),some 55,aI,[]),
 (.buildSlice dc 2 #[(0,.tmp 54),(1,.tmp 55)],some 56,dc,[15,16]),
 (.build aI #[(0,.const (.int .i64 3)),(3,.tmp 56)],some 57,aI,[17]),
 (.buildSlice dc 1 #[(0,.tmp 57)],some 58,dc,[18]),
 (.build aI #[(0,.const (.int .i64 6)),(3,.tmp 58)],some 59,aI,[19]),
 (.load aI (.tmp 6),some 60,aI,[]),
 (.load aI (.tmp 5),some 61,aI,[]),
 (.load aI (.tmp 7),some 62,aI,[]),
 (.buildSlice dc 2 #[(0,.tmp 61),(1,.tmp 62)],some 63,dc,[22,23]),
 (.build aI #[(0,.const (.int .i64 4)),(3,.tmp 63)],some 64,aI,[24]),
 (.buildSlice dc 1 #[(0,.tmp 64)],some 65,dc,[25]),
 (.build aI #[(0,.const (.int .i64 7)),(3,.tmp 65)],some 66,aI,[26]),
 (.buildSlice dc 2 #[(0,.tmp 60),(1,.tmp 66)],some 67,dc,[21,27]),
 (.build aI #[(0,.const (.int .i64 3)),(3,.tmp 67)],some 68,aI,[28]),
 (.load aI (.tmp 6),some 69,aI,[]),
 (.buildSlice dc 1 #[(0,.tmp 69)],some 70,dc,[30]),
 (.build aI #[(0,.const (.int .i64 6)),(3,.tmp 70)],some 71,aI,[31]),
 (.load aI (.tmp 5),some 72,aI,[]),
 (.call ⟨.value (.func pc),#[],#[]⟩,some 73,aI,[]),
 (.buildSlice dc 2 #[(0,.tmp 72),(1,.tmp 73)],some 74,dc,[33,34]),
 (.build aI #[(0,.const (.int .i64 3)),(3,.tmp 74)],some 75,aI,[35]),
 (.buildSlice dc 2 #[(0,.tmp 71),(1,.tmp 75)],some 76,dc,[32,36]),
 (.build aI #[(0,.const (.int .i64 5)),(3,.tmp 76)],some 77,aI,[37]),
 (.buildSlice dc 8 #[(0,.tmp 39),(1,.tmp 43),(2,.tmp 48),(3,.tmp 49),(4,.tmp 53),(5,.tmp 59),(6,.tmp 68),(7,.tmp 77)],some 78,dc,[0,4,9,10,14,20,29,38]),
 (.assign (.tmp 78),some 9,dc,[39,34,0,1,2,3,4,5,6,7,8,9,10,11,12,13,14,15,16,17,18,19,20,21,22,23,24,25,26,27,28,29,30,31,32,33,34,35,36,37,38,39])]
def aaY(d:base<=w0.heap.size):allI (yt U (JT w0 base kk Xa Xb Xc Xs)) Sk 0:=
 ⟨(u0 0 39 rfl),
  (u0 1 40 rfl),
  (u1 2 41 rfl),
  (sh d 3 42 1 2 rfl rfl rfl gs gs),
  (xB 4 43 3 rfl rfl gs),
  (u0 5 44 rfl),
  (u1 6 45 rfl),
  (Q' 7 46 rfl),
  (aaT d 8 47 5 6 7 rfl rfl rfl rfl gs gs gs),
  (Q8 9 48 8 rfl rfl gs),
  (Ra 10 49 rfl),
  (Ra 11 50 rfl),
  (u1 12 51 rfl),
  (sh d 13 52 11 12 rfl rfl rfl gs gs),
  (xB 14 53 13 rfl rfl gs),
  (u0 15 54 rfl),
  (u1 16 55 rfl),
  (sh d 17 56 15 16 rfl rfl rfl gs gs),
  (xB 18 57 17 rfl rfl gs),
  (Gm d 19 58 18 rfl rfl gs),
  (Q9 20 59 19 rfl rfl gs),
  (u1 21 60 rfl),
  (u0 22 61 rfl),
  (Q' 23 62 rfl),
  (sh d 24 63 22 23 rfl rfl rfl gs gs),
  (Q8 25 64 24 rfl rfl gs),
  (Gm d 26 65 25 rfl rfl gs),
  (aaS 27 66 26 rfl rfl gs),
  (sh d 28 67 21 27 rfl rfl rfl gs gs),
  (xB 29 68 28 rfl rfl gs),
  (u1 30 69 rfl),
  (Gm d 31 70 30 rfl rfl gs),
  (Q9 32 71 31 rfl rfl gs),
  (u0 33 72 rfl),
  (aaV d 34 73 rfl),
  (sh d 35 74 33 34 rfl rfl rfl gs gs),
  (xB 36 75 35 rfl rfl gs),
  (sh d 37 76 32 36 rfl rfl rfl gs gs),
  (aaR 38 77 37 rfl rfl gs),
  (aaU d 39 78 0 4 9 10 14 20 29 38 rfl rfl rfl rfl rfl rfl rfl rfl rfl gs gs gs gs gs gs gs gs),
  (aaW 40 9 39 rfl rfl gs),trivial⟩
end
def UO(n m:Int)(w:J)(h:1<=m)(d:cO n):aj U wZ #[.i n,.i m] w λr e=>r=ad (.i (dx n m))/\ag w e:=(HX n m w h d).mono λr e d=>⟨d.1,d.2▸Fr.refl _ _⟩
def Ia(d:I):List I:=[nt 2 97 97,nt 2 98 98,nt 2 0 0,nt 2 97 98,nt 1 0 0,d]
def Ce(e:I)(h:e.rx=eL){i:Nat}(hi:i<6):∃t,(Ia e)[i]? =some t/\t.rx=eZ i/\(t=e\/∀d:J,t.P d/\∀b,¬b∈t.fp):=by
 have:i=0\/i=1\/i=2\/i=3\/i=4\/i=5:=io
 rcases this with rfl|rfl|rfl|rfl|rfl|rfl
 .exact ⟨_,rfl,rfl,.inr λd=>⟨rL _ _ _ d,λb=>rM⟩⟩
 .exact ⟨_,rfl,rfl,.inr λd=>⟨rL _ _ _ d,λb=>rM⟩⟩
 .exact ⟨_,rfl,rfl,.inr λd=>⟨rL _ _ _ d,λb=>rM⟩⟩
 .exact ⟨_,rfl,rfl,.inr λd=>⟨rL _ _ _ d,λb=>rM⟩⟩
 .exact ⟨_,rfl,rfl,.inr λd=>⟨rL _ _ _ d,λb=>rM⟩⟩
 .exact ⟨e,rfl,h,.inl rfl⟩
def WM(a b c:Rx){i:Nat}(hi:i<8):[a,.mk 3 0 0 [a,b],.mk 4 0 0 [a,b,c],.mk 7 0 0 [a],.mk 3 0 0 [.mk 7 0 0 [a],b],.mk 6 0 0 [.mk 3 0 0 [a,b]],.mk 3 0 0 [b,.mk 7 0 0 [.mk 4 0 0 [a,c]]],.mk 5 0 0 [.mk 6 0 0 [b],.mk 3 0 0 [a,eL]]][i]? =some (DM a b c i):=by
 have:i=0\/i=1\/i=2\/i=3\/i=4\/i=5\/i=6\/i=7:=io
 rcases this with rfl|rfl|rfl|rfl|rfl|rfl|rfl|rfl<;>rfl
def A9(k m:Nat)(d:0<m):ez (k:Int) (m:Int)=((k%m:Nat):Int):=by rw[Int.tmod_eq_emod_of_nonneg io];omega
def GW(k m:Nat)(h:k<=1048576):aD .i64 (dP (k:Int) (m:Int))=((k / m:Nat):Int):=by
 have d:dP (k:Int) (m:Int)=((k / m:Nat):Int):=by rw[Int.tdiv_eq_ediv_of_nonneg io];rfl
 have e:k / m<=k:=Nat.div_le_self k m;rw[d];generalize k / m=q at e;rw[br _ io]
section
variable {w w24:J} {R:aB} {K:Nat}
def acA(E:K<=1048576){s:Sl}{ts:List I}{w':J}(x:I.ao ts=[eZ (K%6),.mk 3 0 0 [eZ (K%6),eZ (K / 6%6)],.mk 4 0 0 [eZ (K%6),eZ (K / 6%6),eZ (K / 36%6)],.mk 7 0 0 [eZ (K%6)],.mk 3 0 0 [.mk 7 0 0 [eZ (K%6)],eZ (K / 6%6)],.mk 6 0 0 [.mk 3 0 0 [eZ (K%6),eZ (K / 6%6)]],.mk 3 0 0 [eZ (K / 6%6),.mk 7 0 0 [.mk 4 0 0 [eZ (K%6),eZ (K / 36%6)]]],.mk 5 0 0 [.mk 6 0 0 [eZ (K / 6%6)],.mk 3 0 0 [eZ (K%6),eL]]])(e:(bK s ts).P w')(f:ag w w'):wi.T9 s (K:Int) w' λr w'=>r=ad (.string (ba (mW K)))/\ag w w':=by
 have N:=I.cw (dk.1 e).1;have M:ts.length=8:=by have:=congrArg List.length x;rw[I.fN,uR]at this;simpa using this
 show(0:Int)<=ez (aD .i64 (dP (K:Int) ((216:Nat):Int))) ((8:Nat):Int)/\ez (aD .i64 (dP (K:Int) ((216:Nat):Int))) ((8:Nat):Int)<(s.n:Int)/\dv s.a λp=>jx w' (p.add (aZ (ez (aD .i64 (dP (K:Int) ((216:Nat):Int))) ((8:Nat):Int)) *4)) _;rw[GW K 216 E,A9 _ 8 io];have F:K / 216%8<8:=Nat.mod_lt _ io;have d:ts[K / 216%8]? =some (ts[K / 216%8]'io):=a0 io;generalize ts[K / 216%8]'io=t at d;have z:t.rx=lT K:=by have y:=WM (eZ (K%6)) (eZ (K / 6%6)) (eZ (K / 36%6)) F;rw[<-x,I.fN,List.getElem?_map,d]at y;exact Option.some.inj y
 obtain⟨j,k,h,q⟩:=acB K;rw[<-z]at j k h q;have G:t.P w':=(dk.1 e).2.get d;refine⟨io,io,I.aT (dk.1 e).1 d λp e c=>⟨_,_,_,_,c.c0,c.c1,c.c2,c.c3,(IW t w' (by rw[<-I.ek];exact k) j G).mono ?_⟩⟩;rintro _ L ⟨⟨u,rfl,A,H,_⟩,C⟩;rw[<-A]at h q;refine⟨_,_,_,u.s,rfl,(Iy u 0 L (by rw[<-I.ek];omega) io h H).mono ?_⟩;rintro _ O ⟨rfl,D⟩;refine⟨_,rfl,?_,(f.g' C).g' D⟩;have B:cI 0 u.rx (a' u.rx)=a' u.rx:=by unfold cI;rw[aa io]
 rw[B,A,z];rfl
end
def TW{s:Sl}{k:Int}{w:J}{R e:aB}(d:wi.T9 s k w R)(E:∀r h,R r h->e r h):wi.T9 s k w e:=
 ⟨d.1,d.2.1,r5 d.2.2 λp ⟨a,b,c,j,x,y,z,A,C⟩=>⟨a,b,c,j,x,y,z,A,C.mono λr H ⟨q,f,g,i,D,G⟩=>⟨q,f,g,i,D,G.mono λr I ⟨t,F,B⟩=>⟨t,F,E _ _ B⟩⟩⟩⟩
def UK(n:Int)(hn:cO n)(w:J):aj U Mz #[.i n] w λr x=>(∃an:Nat,r=ad (.string (ba (mW an))))/\ag w x:=by
 have hr:=jQ n 1048576 io;obtain⟨K,hK⟩:∃K:Nat,dx n 1048576=(K:Int):=⟨(dx n 1048576).toNat,io⟩;have D:K<=1048576:=io
 have ae:O F0 w w [] []:=bT [] gs;refine wi.ok n w _ (ae.call (UO n 1048576 w io hn) ?_);rintro _ w1 rfl H;refine⟨_,rfl,H.yQ (Cs w1) ?_⟩;rintro _ G ⟨j,rfl,F,ao,Z⟩ _ F2;have H2:=F2.rd (.tree j) ao λb q=>Z b (a7.1 q);rw[hK];have T:=A9 K 6 io;have S:=GW K 6 D;have Q:=GW K 36 D;have Y:=A9 (K / 6) 6 io;have W:=A9 (K / 36) 6 io;have c6:((6:Nat):Int)=6:=rfl;have am:((36:Nat):Int)=36:=rfl;rw[c6]at T S Y W;rw[am]at Q;rw[T,S,Q,Y,W];obtain⟨z,ga,ra,xa⟩:=Ce j F (i:=K%6) (Nat.mod_lt _ io);obtain⟨tb,gb,rb,xb⟩:=Ce j F (i:=K / 6%6) (Nat.mod_lt _ io);obtain⟨tc,gc,rc,xc⟩:=Ce j F (i:=K / 36%6) (Nat.mod_lt _ io);have la:K%6<6:=Nat.mod_lt _ io;have lb:K / 6%6<6:=Nat.mod_lt _ io;have lc:K / 36%6<6:=Nat.mod_lt _ io;have C:∀t:I,(t=j\/∀w:J,t.P w/\∀b,¬b∈t.fp)->(∀x:J,j.P x->t.P x)/\∀b∈t.fp,w.heap.size<=b:=λt h=>by
  rcases h with rfl|h
  .exact ⟨λ_ h=>h,λb q=>bD H.fr.size (Z b q)⟩
  .exact ⟨λx _=>(h x).1,λb q=>((h w).2 b q).elim⟩
 refine⟨_,_,_,j.s,rfl,H2.e3 (n:=6) (sz:=4) (cs:=(Ia j).flatMap I.c) rfl dl λw3 M=>?_⟩;refine⟨io,io,I.aT (s:=⟨some (ab G.heap.size),6,6⟩) (M.get 0:aL _ _ _ _ _).a2 ga λp hp c=>?_⟩;refine⟨_,_,_,_,c.c0,c.c1,c.c2,c.c3,M.nw λw4 _ H4=>H4.kM 1 rfl λw8 N=>?_⟩;refine⟨io,io,I.aT (s:=⟨some (ab G.heap.size),6,6⟩) (N.get 0:aL _ _ _ _ _).a2 gb λp hp c=>?_⟩;refine⟨_,_,_,_,c.c0,c.c1,c.c2,c.c3,N.nw λw9 _ H9=>H9.kM 2 rfl λap L=>?_⟩;refine⟨io,io,I.aT (s:=⟨some (ab G.heap.size),6,6⟩) (L.get 0:aL _ _ _ _ _).a2 gc λp hp c=>?_⟩;refine⟨_,_,_,_,c.c0,c.c1,c.c2,c.c3,L.nw λax _ af=>af.kM 3 rfl λac y=>?_⟩;refine⟨_,_,_,z.s,y.ld 1 0,y.ld 1 1,y.ld 1 2,y.ld 1 3,y.e3 (n:=1) (sz:=4) (cs:=[z].flatMap I.c) rfl dl λaq ah=>ah.nw λay _ ak=>ak.kM 5 rfl λd e=>?_⟩;have A:=C z xa;have pb:=C tb xb;have pc:=C tc xc;have ps:(I.mk 7 0 0 ⟨some (ab ac.heap.size),1,1⟩ [z]).P d:=by unfold I.P;exact⟨(e.get 4:aL _ _ _ _ _).a2,I.jD (by simp;exact A.1 d (e.getD 0))⟩
 have aa:ag w d:=e.fr;refine KP Sk (by kernel_rfl) (JT d w.heap.size (K:Int) (eZ (K%6)) (eZ (K / 6%6)) (eZ (K / 36%6)) (.mk 7 0 0 [eZ (K%6)])) ?_ (aaY aa.size) ?_
 .refine ⟨Fr.drew _ _,rfl,?_,?_,?_,?_,λi sp hs E=>by cases E⟩
  .exact j9.cC (w:=d) ⟨w3.heap.size,z,rfl,e.ob 1,ra,A.1 d (e.getD 0),A.2⟩ (Fr.drew _ _)
  .exact j9.cC (w:=d) ⟨w8.heap.size,tb,rfl,e.ob 2,rb,pb.1 d (e.getD 0),pb.2⟩ (Fr.drew _ _)
  .exact j9.cC (w:=d) ⟨ap.heap.size,tc,rfl,e.ob 3,rc,pc.1 d (e.getD 0),pc.2⟩ (Fr.drew _ _)
  .refine j9.cC (w:=d) ⟨aq.heap.size,.mk 7 0 0 ⟨some (ab ac.heap.size),1,1⟩ [z],rfl,e.ob 5,?_,ps,FG (λb q=>?_) A.2⟩ (Fr.drew _ _)
   .rw [<-ra];rfl
   .simp only[aR,aF,a5,a9]at q;rw[q];exact y.fr.size
 .intro av ar x E B;obtain⟨s,ts,h1,h2,h3,_⟩:=B.all 40 _ rfl (E 40 dl);refine⟨s,(K:Int),h1,B.k,?_⟩;refine TW (acA D h2 h3 (aa.g' B.fr)) λr aw h=>⟨⟨K,h.1⟩,h.2⟩
set_option maxHeartbeats 1000000
def uj{w:J}{s:Sl}{l:List Nd}(e:GP w s l):O F0 w w [] [.gr s l]:=bT _ (by intro h d;simp only[aF,a5,a9]at d;subst d;exact bf.2 e)
abbrev nB(s:Sl)(l:List Int):En:=.row bA 1 s (l.map bE)
def og{w:J}{s:Sl}{l:List Int}(d:aL w bA 1 s (l.map bE)):bI w s l:=d.Aw
def qs{w:J}{s:Sl}{l:List Int}(d:aL w bA 1 s (l.map bE)):s.n=l.length:=by have:=d.len;simp at this;omega
def Cn{w:J}{s:Sl}{l:List Nd}(H:GP w s l)(t:aP)(n:Int)(hn:cO n)(Z:l.length<=dD):
  aj U MX #[s.v,dA t,.i n] w λr F=>(∃h:Int,r=ad (.i h)/\-1<=h/\h<(l.length:Int))/\ag w F:=by
 have hs:=h' H;unfold dD at Z;have loop:∀(m i:Nat) (q:Sl) (ks:List Int) (e:Nat) (z:J),i+m=l.length->ks.length<=i->(∀E∈ks,0<=E/\E<(l.length:Int))->O F0 w z [.g e,nB q ks] [.gr s l]->
   rC.a4 s n e t.k t.n t.x q (i:Int) z λr F=>(∃h:Int,r=ad (.i h)/\-1<=h/\h<(l.length:Int))/\ag w F:=by
  intro m;induction m with
  |zero=>
   intro i q ks e z W Y D y;have hlen:=qs (y.get 1);refine rC.bR (aW (aS io) (aw (λQ=>⟨⟨_,rfl,io,io⟩,y.fr⟩) (λQ=>y.av (iB n _ z io hn) ?_)));have hr:=jQ n (q.n:Int) io;generalize dx n (q.n:Int)=h at hr;rintro _ G rfl A;obtain⟨j,rfl⟩:∃j:Nat,h=(j:Int):=⟨h.toNat,io⟩;have B:ks[j]? =some (ks[j]'io):=a0 io;have C:=D _ (aA B);exact⟨_,rfl,io,io,(og (A.get 1)).cell B io λp I S=>⟨_,S,⟨⟨_,rfl,io,io⟩,A.fr⟩⟩⟩
  |succ m K=>
   intro i q ks e z W Y D y;have B:l[i]? =some (l[i]'io):=a0 io;generalize l[i]'io=d at B;have hlen:=qs (y.get 1);refine rC.bR (aU (aQ io) (eE (bf.1 (y.getD 0)) rfl B λp I _=>y.ae λG A=>?_));have c:=wG (bf.1 (A.getD 0)) B I (rfl:((i:Int))=(i:Int));refine⟨_,_,_,c.s0,c.s1,c.s2,mQ (a:=d.x.st) (b:=t) (λT=>?_) (λT=>?_)⟩
   .refine A.jn 1 ry rfl (λL M P=>?_) io;show rC.a4 s n e t.k t.n t.x L (aD .i64 ((i:Int)+1)) M _;rw[bp _ io];refine K (i+1) L (ks++[(i:Int)]) e M io (by simp;omega) (λE C=>?_) (by rw[nB,fh];exact P);rcases aK.1 C with C|C
    .exact D E C
    .simp only[aF,a5,a9]at C;omega
   .show rC.a4 s n e t.k t.n t.x q (aD .i64 ((i:Int)+1)) G _;rw[bp _ io];exact K (i+1) q ks e G io io D A
 exact rC.aq ((uj H).ax λe z N=>loop l.length 0 ⟨none,0,0⟩ [] e z io gs gs (N.hP bA 1))
def Vp{w:J}{s:Sl}{l:List Nd}(K:GP w s l)(op:Int)(x:Nat)(ab n:Int)(F:x<l.length)(E:cO n):
  aj U Nc #[s.v,.i op,.i (x:Int),.i ab,.i n] w λr G=>(∃t:aP,r=ad (dA t))/\ag w G:=by
 have hs:=h' K;have N:l[x]? =some (l[x]'F):=a0 F;generalize l[x]'F=d at N;refine Dm.aq ((uj K).ax λz w1 I=>eE (bf.1 (I.getD 0)) rfl N λp hp c=>⟨_,_,_,c.s0,c.s1,c.s2,I.ax λC w2 y=>?_⟩);have ret:∀(a b c:Int) (e:J) (bs:List Nat),(∀b∈bs,En.g b∈[En.g z,.g C])->O F0 w e [.g z,.g C] [.gr s l]->loc bs e λP=>(∃t:aP,Ending.returned (.agg #[.i a,.i b,.i c])=ad (dA t))/\ag w P:=λa b c e bs hb h=>h.ae (λP S=>⟨⟨⟨a,b,c⟩,rfl⟩,S.fr⟩) hb;have B:∀e,O F0 w e [.g z,.g C] [.gr s l]->Dm.a1 n z 0 0 0 e λr G=>(∃t:aP,r=ad (dA t))/\ag w G:=by intro e h;refine h.av (iB n 3 e io E) ?_;rintro _ q rfl k;refine⟨_,rfl,k.av (oR _ q) ?_⟩;rintro _ H rfl A;exact⟨_,_,_,rfl,ret _ _ _ H _ gs A⟩
 refine aw (λT=>y.ae λe h=>h.av (iB n _ e io E) ?_) (λT=>aw (λW=>y.ae λe h=>h.av (iB n 3 e io E) ?_) (λW=>aw (λY=>y.ae λe h=>h.av (fv _ e) ?_) (λY=>aw (λZ=>aw (λh5=>y.ae λe h=>h.av (fv _ e) ?_) (λh5=>y.ae λe h=>h.av (F4 d.x.st e) ?_)) (λZ=>aw (λh6=>y.ae λe h=>h.av (fv _ e) ?_) (λh6=>aw (λL=>aU (beq_iff_eq.2 L) (y.ae λe h=>B e h)) (λL=>aw (λM=>aU (beq_iff_eq.2 M) (y.ae λe h=>B e h)) (λM=>aw (λh9=>y.ae λe h=>B e h) (λh9=>y.ae λe h=>ret _ _ _ e _ gs h))))))))
 .have hr:=jQ n (s.n:Int) io;generalize dx n (s.n:Int)=Q at hr;rintro _ q rfl k;obtain⟨j,rfl⟩:∃j:Nat,Q=(j:Int):=⟨Q.toNat,io⟩;have aa:l[j]? =some (l[j]'io):=a0 io;exact⟨_,rfl,eE (bf.1 (k.getD 0)) rfl aa λac hq D=>⟨_,_,_,D.s0,D.s1,D.s2,ret _ _ _ q _ gs k⟩⟩
 .rintro _ q rfl k;refine⟨_,rfl,k.av (fv _ q) ?_⟩;rintro _ H rfl A;exact⟨_,_,_,rfl,ret _ _ _ H _ gs A⟩
 .rintro _ q rfl k;exact⟨_,_,_,rfl,ret _ _ _ q _ gs k⟩
 .rintro _ q rfl k;exact⟨_,_,_,rfl,ret _ _ _ q _ gs k⟩
 .rintro _ q rfl k;exact⟨_,_,_,rfl,ret _ _ _ q _ gs k⟩
 .rintro _ q rfl k;exact⟨_,_,_,rfl,ret _ _ _ q _ gs k⟩
abbrev Xd(s:Sl):V:=.agg #[s.v]
def Yh{w:J}{a b:En}(e:a.P w)(h:b.P w):O F0 w w [] [a,b]:=bT _ (by
 intro j d;simp only[aF,a5,a9]at d;rcases d with rfl|rfl
 .exact e
 .exact h)
def BX(w:J)(l:List Int)(r:Ending)(w':J):Prop:=∃s:Sl,r=ad s.v/\aL w' bA 1 s (l.map bE)/\∀b∈aR s,w.heap.size<=b
def gS(g:List Nx)(i:Nat):Bool:=match g[i]? with |some d=>ai (d.op=0)|none=>false
def Hg(g:List Nx):vx g=((List.range g.length).filter (gS g)).map λi:Nat=>(i:Int):=rfl
def Wy(g:List Nx)(i:Nat):((List.range (i+1)).filter (gS g)).map (λi:Nat=>(i:Int))=((List.range i).filter (gS g)).map (λi:Nat=>(i:Int))++(if gS g i=true then[(i:Int)]else[]):=by
 rw[List.range_succ,List.filter_append,fh];congr 1;by_cases d:gS g i=true
 .simp [d]
 .simp [d]
def UM{w:J}{s:Sl}{l:List Nd}(A:GP w s l)(K:l.length<=dD):aj U Oh #[Xd s] w λr k=>BX w (vx (xs l)) r k/\ag w k:=by
 have N:=h' A;have L:(xs l).length=l.length:=by simp[xs]
 unfold dD at K;have loop:∀(m i e:Nat) (sl:Sl) (j:J),i+m=l.length->O F0 w j [.g e,nB sl (((List.range i).filter (gS (xs l))).map λi:Nat=>(i:Int))] [.gr s l]->sG.a4 e s sl (s.n:Int) (i:Int) j λr k=>BX w (vx (xs l)) r k/\ag w k:=by
  intro m;induction m with
  |zero=>
   intro i e sl j z h;have z:i=l.length:=io
   subst z;refine sG.bR (aW (aS io) ⟨⟨sl,rfl,?_,λb I=>(h.new _ (aA (i:=1) rfl) b I).resolve_right id⟩,h.fr⟩);rw[Hg,L];exact h.get 1
  |succ m D=>
   intro i e sl j z h;have y:l[i]? =some (l[i]'io):=a0 io;generalize l[i]'io=d at y;have C:gS (xs l) i=ai (d.x.op=0):=by unfold gS;rw[m4 y]
   have B:=Wy (xs l) i;have hlen:=qs (h.get 1);have M:((List.range i).filter (gS (xs l))).length<=i:=by have:=List.length_filter_le (gS (xs l)) (List.range i);simpa using this
   rw[uR]at hlen;refine sG.bR (aU (aQ io) (eE (bf.1 (h.getD 0)) rfl y λp P c=>⟨_,c.c0,aw (λq=>?_) (λq=>?_)⟩))
   .refine h.jn 1 ry rfl (λE F H=>?_) io;show sG.a4 e s E (s.n:Int) (aD .i64 ((i:Int)+1)) F _;rw[bp _ io];refine D (i+1) e E F io ?_;rw[B,af (by rw[C,aQ q]),nB,fh];exact H
   .show sG.a4 e s sl (s.n:Int) (aD .i64 ((i:Int)+1)) j _;rw[bp _ io];refine D (i+1) e sl j io ?_;rw[B,aa (by rw[C,aS q];simp),bU];exact h
 exact sG.aq ((uj A).ax λe j G=>loop l.length 0 e ⟨none,0,0⟩ j io (G.hP bA 1))
def aa5{P:au}{t ty e:aE}{z:V}{sz bytes:Nat}(h:fQ P t e z sz bytes){w:J}(g d F:Nat)(cur:Array V)(T:aE){src:Sl}{cs:List V}(q:w.heap[g]? =some (.cells cur T (0,0)))(N:bo sz w src cs)(A:src.n<=d)(I:cs.length<=cur.size)(H:∀v∈cs,v.oneCell'=true):
  (Builtin.copy_ #[t,t] ty #[.slice (some ⟨g,0,none⟩) d F,src.v]).run P w=.ok (.int .i64 (src.n:Int)) (w.setRow g (cs++cur.toList.drop cs.length).toArray):=by
 obtain⟨S,E,sc⟩:=src;obtain⟨inf,x,hz,D,Y⟩:=info_parts h.hi;simp only at A;obtain⟨hlen,Z,B,k⟩:=N;simp only at hlen B k;have L:Nat.min E d=E:=Nat.min_eq_left A;have C:=run_storeCells_at (P:=P) g 0 T cs 0 cur w q (by simpa using I) H;cases S with
 |none=>
  obtain⟨G,W⟩:=B rfl;subst G;have j:cs=[]:=F1 io;subst j;have O:w.setRow g (([]:List V)++cur.toList.drop 0).toArray=w:=by rw[List.nil_append,List.drop_zero,Array.toArray_toList];exact setRow_self w g cur T (0,0) q
  rw[List.length_nil,O];simp[Builtin.copy_,run_underlying h.ht,Builtin.lenOf,Builtin.firstCells,sizeOf,typeInfo,x,D,storeCells,goInt]
 |some a=>
  have y:=run_loadCells_list (P:=P) w a cs (λQ v K=>by obtain⟨p,M,j⟩:=k Q v K;cases M;exact j)
  rw[hlen]at y;simp only[Nat.zero_add,List.take_zero,List.nil_append]at C;simp[Builtin.copy_,run_underlying h.ht,Builtin.lenOf,Builtin.firstCells,sizeOf,typeInfo,x,D,L,y,C,goInt]
def VW{P:au}{t ty e:aE}{z:V}{sz bytes:Nat}(E:fQ P t e z sz bytes){w:J}{s src:Sl}{vs cs:List V}(B:aL w e sz s vs)(H:s.a≠none)(D:bo sz w src cs)(k:src.n<=s.n)(G:∀v∈cs,v.oneCell'=true):
  ∃x,(Builtin.copy_ #[t,t] ty #[s.v,src.v]).run P w=.ok (.int .i64 (src.n:Int)) x/\aL x e sz s (cs++vs.drop cs.length)/\Fr (·∈aR s) w x:=by
 have K:=B.len;have N:=D.1;rcases B.cases with⟨rfl,rfl⟩|⟨g,cur,C,j,h,y,F,A⟩
 .exact absurd rfl H
 .obtain ⟨O,d,q⟩:=s;simp only at C k K h y F A;subst C;have L:src.n *sz<=d *sz:=kR _ k;have M:d *sz<=q *sz:=kR _ h;have I:cs.length<=cur.size:=io
  refine⟨_,aa5 E g d q cur e j D k I G,?_,?_⟩
  .refine ⟨?_,.inr ⟨g,q,(cs++cur.toList.drop cs.length).toArray,rfl,di _,setRow_heap w g cur _ e _ j,h,y,?_,?_⟩⟩
   .simp only[bb,dM];omega
   .simp only[List.size_toArray,bb,dM,Array.length_toList];omega
   .rw [List.take_append,fA (by omega:cs.length<=d *sz),List.take_drop,<-A,List.drop_take];congr 2;rw[show cs.length+(d *sz - cs.length)=d *sz by omega,List.drop_take]
  .rw [RE j];exact(Fr.put w g _).mono λQ _ e=>by simp[aR,e]
section
variable {M:Nat->Prop} {w0 w:J} {L D:List En} {bs:List Nat}
def _root_.Go.W.O.VX(H:O M w0 w L D)(i:Nat){P:au}{t ty e:aE}{z:V}{sz bytes:Nat}(q:fQ P t e z sz bytes){s src:Sl}{vs cs:List V}{K:Int->J->Prop}(hi:L[i]? =some (.row e sz s vs))(A:s.a≠none)(E:bo sz w src cs)(C:src.n<=s.n)(x:∀v∈cs,v.oneCell'=true)(y:∀w',O M w0 w' (L.set i (.row e sz s (cs++vs.drop cs.length))) D->K (src.n:Int) w')(h:∀b∈bs,En.g b∈L:=by simp):
  ∃(k:Int) (w':J),(Builtin.copy_ #[t,t] ty #[s.v,src.v]).run P w=.ok (.i k) w'/\kept bs w w'/\K k w':=by obtain⟨w',F,G,j⟩:=VW (ty:=ty) q (H.get i hi) A E C x;exact⟨_,w',F,λb d=>j.cD b (H.own _ (h b d)) λB=>H.zb hi (h b d) B,y w' (H.gb i (.row e sz s (cs++vs.drop cs.length)) hi j G (λb d=>.inl d))⟩
end
def abe{w:J}{s t:Sl}{a b:List Int}(D:bI w s a)(E:bI w t b)(N:a.length<=1000000000000):aj U N7 #[s.v,t.v] w λr z=>r=ad (.bool (ai (a=b)))/\ag w z:=by
 have Q:=bI.len D;have P:=bI.len E;refine xL.ok (cz (λF=>⟨by rw[aS];intro k;subst k;omega,Fr.refl _ _⟩) (λM=>?_));have loop:∀(m i:Nat) (h:J),i+m=a.length->(a=b↔a.drop i=b.drop i)->O F0 w h [] [.rd s (a.map bE),.rd t (b.map bE)]->xL.L0 s t (s.n:Int) (i:Int) h λr z=>r=ad (.bool (ai (a=b)))/\ag w z:=by
  intro m;induction m with
  |zero=>
   intro i h K d j;rw[dw io,dw io]at d;exact xL.cr (aW (aS io) ⟨by rw[aQ (d.2 rfl)],j.fr⟩)
  |succ m L=>
   intro i h K d j;have B:a[i]? =some (a[i]'io):=a0 io;have C:b[i]? =some (b[i]'io):=a0 io;rw[dy (by omega:i<a.length),dy (by omega:i<b.length),List.cons.injEq]at d;generalize a[i]'io=x at B d;generalize b[i]'io=y at C d;refine xL.cr (aU (aQ io) (j.dr λA e=>⟨io,io,(show bI A s a from e.getD 0).cell B io λp S G=>⟨x,G,io,io,(show bI A t b from e.getD 1).cell C io λW T H=>⟨y,H,cz (λF=>⟨?_,e.fr⟩) (λI=>?_)⟩⟩⟩))
   .rw [aS];intro k;exact F (d.1 k).1
   .rw [bp _ io];exact L (i+1) A io (d.trans ⟨λq=>q.2,λq=>⟨I,q⟩⟩) e
 exact loop a.length 0 w io gs (Yh (a:=.rd s (a.map bE)) (b:=.rd t (b.map bE)) D E)
def abd{w:J}{s:Sl}{l:List Int}(e:bI w s l)(E:l.length<=1000000000000):aj U N2 #[s.v] w λr x=>BX w l r x/\ag w x:=by
 have F:=bI.len e;refine RO.ok (bq (λk=>⟨⟨⟨none,0,0⟩,rfl,?_,λb h=>by cases h⟩,Fr.refl _ _⟩) (λk=>?_))
 .have z:s.a=none:=by simpa using k
  have:=(e.2.2.1 z).1;obtain rfl:l=[]:=F1 io;exact aL.nil w bA 1
 .have y:O F0 w w [] [.rd s (l.map bE)]:=bT _ (by intro D q;simp only[aF,a5,a9]at q;subst q;exact e)
  refine y.e3 (n:=0) (sz:=1) (cs:=[]) rfl dl λC j=>?_;have A:bI C s l:=j.getD 0;refine j.ap 0 ry (s:=⟨some (ab w.heap.size),0,0⟩) (src:=s) rfl A.2.2 (by simp;omega) (Xr _) (by show(0+s.n) *8<=_;omega) (λB G d _ _=>⟨⟨B,rfl,d.get 0,λb h=>(d.new _ (aA (i:=0) rfl) b h).resolve_right id⟩,d.fr⟩)
def W'{w:J}{s:Sl}{l:List Nd}(e:GP w s l){i:Nat}{d:Nd}(hi:l[i]? =some d){K:Addr->Prop}{X:Int}(h:X=(i:Int))(k:∀p,s.a=some p->ea w (p.add (aZ X *9)) d->K p):nN s X K:=by have y:=h' e;have x:=(cq.1 hi).1;subst h;exact⟨io,io,fq.elem (f:=Nd.c) (sz:=9) Nd.pZ io e.1.2.2 hi λp q j=>k p q j⟩
def acr{w:J}{p q:Addr}{a b:Nd}(ha:ea w p a)(hb:ea w q b)(ka:a.P w)(kb:b.P w)(hl:a.x.kids.length<=1000000000):aj U Ot #[.pointer (some p),.pointer (some q)] w λr w'=>r=ad (.bool (ai (a.x=b.x)))/\ag w w':=by
 have A:O F0 w w [] [.gI p a,.gI q b,cv a,cv b]:=bT _ (by
  intro ab W;simp only[aF,a5,a9]at W;rcases W with rfl|rfl|rfl|rfl
  .exact ha
  .exact hb
  .exact ka
  .exact kb)
 have h:∀{B:J} {L:List En},O F0 w B L [.gI p a,.gI q b,cv a,cv b]->ea B p a:=λA=>A.getD 0;have j:∀{B:J} {L:List En},O F0 w B L [.gI p a,.gI q b,cv a,cv b]->ea B q b:=λA=>A.getD 1;obtain⟨⟨op,Y,n,m,u,N,st⟩,sl⟩:=a;obtain⟨⟨M,Z,K,I,S,Q,z⟩,aa⟩:=b;have no:∀{T:J},ag w T->(⟨op,Y,n,m,u,N,st⟩:Nx)≠⟨M,Z,K,I,S,Q,z⟩->(Ending.returned (.bool false)=ad (.bool (ai ((⟨op,Y,n,m,u,N,st⟩:Nx)=⟨M,Z,K,I,S,Q,z⟩)))/\ag w T):=λf e=>⟨by rw[aS e],f⟩;refine SC.ok (A.dr λT d=>⟨op,(h d).c0,M,(j d).c0,aw (λD=>?_) (λD=>no d.fr (λe=>D (congrArg Nx.op e)))⟩);refine⟨n,(h d).c2,K,(j d).c2,aw (λE=>?_) (λE=>no d.fr (λe=>E (congrArg Nx.n e)))⟩;refine⟨m,(h d).c3,I,(j d).c3,aw (λF=>?_) (λF=>no d.fr (λe=>F (congrArg Nx.m e)))⟩;refine⟨u,(h d).c4,S,(j d).c4,aw (λG=>?_) (λG=>no d.fr (λe=>G (congrArg Nx.u e)))⟩;refine⟨st.k,st.n,st.x,(h d).s0,(h d).s1,(h d).s2,z.k,z.n,z.x,(j d).s0,(j d).s1,(j d).s2,mQ (a:=st) (b:=z) (λH=>?_) (λH=>no d.fr (λe=>H (congrArg Nx.st e)))⟩;refine⟨sl,(h d).c1,aa,(j d).c1,d.call (abe (d.getD 2) (d.getD 3) (by simp only at hl ⊢;omega)) ?_⟩;rintro _ w2 rfl y;refine⟨_,rfl,(j y).c3,(h y).c3,(j y).c2,(h y).c2,(j y).c0,(h y).c0,aY (λC=>⟨N,(h y).c5,Q,(j y).c5,?_,y.fr⟩) (λC=>no y.fr (λe=>C (congrArg Nx.kids e)))⟩;rw[x'];simp only at C;subst D E F G H C;simp
def acs{w:J}{s:Sl}{l:List Nd}{p:Addr}{d:Nd}(E:GP w s l)(K:ea w p d)(hd:d.P w)(Q:l.length<=1000000000)(H:∀D∈l,D.x.kids.length<=1000000000):
  aj U Ou #[.agg #[s.v],.pointer (some p)] w λr A=>r=ad (.i (Ac (gE d.x (xs l) 0)))/\ag w A:=by
 have S:=h' E;have F:O F0 w w [] [.gr s l,.gI p d,cv d]:=bT _ (by
  intro D e;simp only[aF,a5,a9]at e;rcases e with rfl|rfl|rfl
  .exact bf.2 E
  .exact K
  .exact hd)
 have loop:∀(m i:Nat) (j:Nat) (k:J),i+m=l.length->gE d.x ((xs l).drop i) i=gE d.x (xs l) 0->O F0 w k [.g j] [.gr s l,.gI p d,cv d]->xV.a4 p j s (s.n:Int) (i:Int) k λr A=>r=ad (.i (Ac (gE d.x (xs l) 0)))/\ag w A:=by
  intro m;induction m with
  |zero=>
   intro i j k I e h;rw[dw (by simp[xs];omega)]at e;exact xV.bR (aW (aS io) ⟨by rw[<-e];rfl,h.fr⟩)
  |succ m M=>
   intro i j k I e h;have y:l[i]? =some (l[i]'io):=a0 io;have L:(xs l).drop i=(l[i]'io).x::(xs l).drop (i+1):=by rw[dy (by simp[xs];omega:i<(xs l).length)];simp[xs]
   rw[L]at e;generalize l[i]'io=a at y e;have B:GP k s l:=bf.1 (h.getD 0);refine xV.bR (aU (aQ io) (W' B y rfl λW T G=>h.av (acr G (h.getD 1) (B.2 a (aA y)) (h.getD 2) (H a (aA y))) ?_));rintro _ N rfl C;have q:(if a.x=d.x then some i else gE d.x ((xs l).drop (i+1)) (i+1))=gE d.x (xs l) 0:=e;refine⟨_,rfl,aY (λz=>⟨?_,C.fr⟩) (λz=>?_)⟩
   .rw [af z]at q;rw[<-q];rfl
   .rw [aa z]at q;rw[bp _ io];exact M (i+1) j N io q C
 exact xV.aq (F.ax λj k h=>loop l.length 0 j k io gs h)
section
variable {M:Nat->Prop} {w0 w:J} {L D:List En} {bs:List Nat}
def abn{A d:List V}{k j:Nat}{v:V}(e:A.length=k):(A++d).set (k+j) v=A++d.set j v:=by subst e;rw[List.set_append,aa io];congr 2;omega
def _root_.Go.W.O.aaP(H:O M w0 w L D)(i k:Nat){s:Sl}{A y:List V}{p:Addr}{e:Nd}{K:J->Prop}(hi:L[i]? =some (.row bW 9 s (A++y)))(hp:s.a=some p)(hA:A.length=k *9)(hZ:y.length=9)(hK:∀w',O M w0 w' (L.set i (.row bW 9 s (A++e.c))) D->K w')(ag:∀b∈bs,En.g b∈L:=by simp):
  aM w (p.add (k *9)) (.i e.x.op) λd=>kept bs w d/\aM d ((p.add (k *9)).add 1) e.ks.v λz=>kept bs d z/\aM z ((p.add (k *9)).add 2) (.i e.x.n) λB=>kept bs z B/\aM B ((p.add (k *9)).add 3) (.i e.x.m) λC=>kept bs B C/\aM C ((p.add (k *9)).add 4) (.u e.x.u) λE=>kept bs C E/\
   aM E ((p.add (k *9)).add 5) (.string e.x.tx) λF=>kept bs E F/\aM F ((p.add (k *9)).add 6) (.i e.x.st.k) λG=>kept bs F G/\aM G ((p.add (k *9)).add 7) (.i e.x.st.n) λI=>kept bs G I/\aM I ((p.add (k *9)).add 8) (.i e.x.st.x) λQ=>kept bs I Q/\K Q:=by
 have ah:=(cq.1 hi).1;have ak:∀{vs:List V} {b:Nat},En.g b∈L->En.g b∈L.set i (.row bW 9 s vs):=by
  intro vs b hb;obtain⟨ab,hj⟩:=List.mem_iff_getElem?.1 hb;by_cases af:i=ab
  .subst af;rw[hi]at hj;have e1:En.row bW 9 s (A++y)=En.g b:=Option.some.inj hj;exfalso;have e2:(En.row bW 9 s (A++y)).P=(En.g b).P:=by rw[e1]
   have f1:(En.row bW 9 s (A++y)).fp=(En.g b).fp:=by rw[e1]
   have ae:(En.g b).P ({w with heap:=Array.replicate (b+1) (.map #[] 0)}):=by show b<_;simp
   rw[<-e2]at ae;have hx:b∈aR s:=by show b∈(En.row bW 9 s (A++y)).fp;rw[f1];simp[En.g]
   obtain⟨cs,f,Y⟩:=(aL.row (show aL ({w with heap:=Array.replicate (b+1) (.map #[] 0)}) bW 9 s (A++y)from ae)).vt b hx;simp at Y
  .exact aA (i:=ab) (by rw[List.getElem?_set_ne af];exact hj)
 match y,hZ with
 |[z0,z1,z2,T,z4,S,N,q,h],_=>
  have len:∀{vs:List V},vs.length=9->∀c,c<9->k *9+c<(A++vs).length:=λaa c Y=>by rw[bb,hA,aa];omega
  have j:∀{w':J} {L':List En} {vs:List V} (c:Nat) (v:V) {K':J->Prop},L'=L.set i (.row bW 9 s (A++vs))->vs.length=9->c<9->O M w0 w' L' D->(∀Z,O M w0 Z (L.set i (.row bW 9 s (A++vs.set c v))) D->K' Z)->aM w' ((p.add (k *9)).add c) v λd=>kept bs w' d/\K' d:=by rintro w' _ vs c v K' rfl am Y H' hk;refine H'.vf (bs:=bs) i (k *9) c (by rw[List.getElem?_set_self ah]) hp (len am c Y) (λZ ac=>hk Z ?_) (λb hb=>ak (ag b hb));rw[List.set_set,abn hA]at ac;exact ac
  have e0:L=L.set i (.row bW 9 s (A++[z0,z1,z2,T,z4,S,N,q,h])):=by
   apply List.ext_getElem?;intro ab;rw[List.getElem?_set];split
   .rename_i aa;subst aa;rw[hi]
   .rfl
  have first:=j (w':=w) (vs:=[z0,z1,z2,T,z4,S,N,q,h]) 0 (.i e.x.op) (K':=λd=>aM d ((p.add (k *9)).add 1) e.ks.v λz=>kept bs d z/\aM z ((p.add (k *9)).add 2) (.i e.x.n) λB=>kept bs z B/\aM B ((p.add (k *9)).add 3) (.i e.x.m) λC=>kept bs B C/\aM C ((p.add (k *9)).add 4) (.u e.x.u) λE=>kept bs C E/\
   aM E ((p.add (k *9)).add 5) (.string e.x.tx) λF=>kept bs E F/\aM F ((p.add (k *9)).add 6) (.i e.x.st.k) λG=>kept bs F G/\aM G ((p.add (k *9)).add 7) (.i e.x.st.n) λI=>kept bs G I/\aM I ((p.add (k *9)).add 8) (.i e.x.st.x) λQ=>kept bs I Q/\K Q) e0 rfl dl H (λd H1=>?_)
  .rw [jm]at first
   exact first
  refine j (vs:=[.i e.x.op,z1,z2,T,z4,S,N,q,h]) 1 e.ks.v rfl rfl dl H1 λz H2=>?_;refine j (vs:=[.i e.x.op,e.ks.v,z2,T,z4,S,N,q,h]) 2 (.i e.x.n) rfl rfl dl H2 λB H3=>?_;refine j (vs:=[.i e.x.op,e.ks.v,.i e.x.n,T,z4,S,N,q,h]) 3 (.i e.x.m) rfl rfl dl H3 λC H4=>?_;refine j (vs:=[.i e.x.op,e.ks.v,.i e.x.n,.i e.x.m,z4,S,N,q,h]) 4 (.u e.x.u) rfl rfl dl H4 λE H5=>?_;refine j (vs:=[.i e.x.op,e.ks.v,.i e.x.n,.i e.x.m,.u e.x.u,S,N,q,h]) 5 (.string e.x.tx) rfl rfl dl H5 λF H6=>?_;refine j (vs:=[.i e.x.op,e.ks.v,.i e.x.n,.i e.x.m,.u e.x.u,.string e.x.tx,N,q,h]) 6 (.i e.x.st.k) rfl rfl dl H6 λG H7=>?_;refine j (vs:=[.i e.x.op,e.ks.v,.i e.x.n,.i e.x.m,.u e.x.u,.string e.x.tx,.i e.x.st.k,q,h]) 7 (.i e.x.st.n) rfl rfl dl H7 λI H8=>?_;refine j (vs:=[.i e.x.op,e.ks.v,.i e.x.n,.i e.x.m,.u e.x.u,.string e.x.tx,.i e.x.st.k,.i e.x.st.n,h]) 8 (.i e.x.st.x) rfl rfl dl H8 λQ H9=>?_;exact hK Q H9
end
def YH(n:Nat):(madeCells (Value.agg #[.int .i64 0,.slice none 0 0,.int .i64 0,.int .i64 0,.int .u64 0,.string (a8 #[]),.int .i64 0,.int .i64 0,.int .i64 0]).cells (n *9)).toList.length=n *9:=by simp[madeCells]
def Sg{w:J}{s:Sl}{l:List Nd}{d:Nd}(ah:GP w s l)(hd:d.P w)(hk:dt.P w)(ho:mq d.x)(ak:l.length<=1000000000)(hv:∀A∈xs l,bw A.st=true)(az:∀A∈l,A.x.kids.length<=1000000000):
  aj U Of #[.agg #[s.v],d.v] w λr w'=>(∃s':Sl,r=ad (.tuple #[.agg #[s'.v],.i (bj (xs l) d.x).2.1,.i (bj (xs l) d.x).2.2])/\GR w (·∈(En.gr s l).fp) (bj (xs l) d.x).1 s' w')/\ag w w':=by
 have hn:=h' ah;have aC:(xs l).length=l.length:=by simp[xs]
 have ao:O F0 w w [] [.gr s l,cv d,dt]:=bT _ (by
  intro A M;simp only[aF,a5,a9]at M;rcases M with rfl|rfl|rfl
  .exact bf.2 ah
  .exact hd
  .exact hk)
 refine So.aq (ao.ax λH N H1=>H1.nw λw2 _ H2=>H2.ax λI w3 h=>?_);have h:O F0 w w3 [.g H,.c N.heap.size d.c bW,.g I] [.gr s l,cv d,dt]:=h;refine⟨d.x.op,d.ks,d.x.n,d.x.m,d.x.u,d.x.tx,d.x.st.k,d.x.st.n,d.x.st.x,h.ld 1 0,h.ld 1 1,h.ld 1 2,h.ld 1 3,h.ld 1 4,h.ld 1 5,h.ld 1 6,h.ld 1 7,h.ld 1 8,?_⟩;refine h.av (ach (bf.1 (h.getD 0)) (h.getD 1) (h.getD 2) ho ak hv) ?_;rintro _ w4 rfl H4;refine⟨_,_,_,_,rfl,H4.ax λL w5 Y=>cz (λT=>Y.ae λw6 S=>⟨⟨⟨none,0,0⟩,?_,?_⟩,S.fr⟩) (λT=>Y.ae λw6 S=>?_)⟩
 .unfold bj;rw[af T]
 .unfold bj;rw[af T];exact GR.nil _ _ _
 have B:bj (xs l) d.x=match gE (eg d.x (bP (xs l) d.x).1) (xs l) 0 with
   |some i=>(xs l,(i:Int),0)
   |none=>if 4096<=(xs l).length then([],0,4)else(xs l++[eg d.x (bP (xs l) d.x).1],((xs l).length:Int),0):=by unfold bj;rw[aa io];try rfl
 generalize(bP (xs l) d.x).1=sr at *;refine S.hS 1 6 rfl (λw7 H7=>H7.pE 1 6 1 rfl (λw8 H8=>H8.pE 1 6 2 rfl (λw9 F=>?_) (by simp[Nd.c])) (by simp[Nd.c])) (by simp[Nd.c])
 let A:Nd:=⟨eg d.x sr,d.ks⟩
 have F:O F0 w w9 [.g H,.c N.heap.size A.c bW,.g I,.g L] [.gr s l,cv d,dt]:=F;refine F.av (acs (d:=A) (bf.1 (F.getD 0)) (OF (F.ob 1)) (F.getD 1) ak az) ?_;rintro _ aG rfl D;refine⟨_,rfl,?_⟩;have M:A.x=eg d.x sr:=rfl;rw[M];cases hi:gE (eg d.x sr) (xs l) 0 with
 |some i=>
  rw[hi]at B;rw[B];exact aU (aQ (Int.natCast_nonneg i)) (D.ae λam E=>⟨⟨s,rfl,⟨l,rfl,bf.1 (E.getD 0),λb q=>.inl q⟩⟩,E.fr⟩)
 |none=>
  rw[hi]at B;dsimp only at B;refine aW dl (aY (λh4=>D.ae λam E=>⟨⟨⟨none,0,0⟩,?_,?_⟩,E.fr⟩) (λh4=>?_))
  .rw [B,af io]
  .rw [B,af io];exact GR.nil _ _ _
  rw[aa io]at B;rw[B];refine⟨d.ks,D.ld 1 1,D.hh (abd (show bI aG d.ks d.x.kids from D.getD 1) (by have:=ho.kl;omega)) ?_⟩;rintro _ am ⟨ck,rfl,ay,ac⟩ _ an;have E:=an.rd (.rd ck (d.x.kids.map bE)) (og ay) (uU ac);refine⟨_,rfl,E.hS 1 1 rfl (λC K=>?_) (by simp[Nd.c])⟩
  let z:Nd:=⟨eg d.x sr,ck⟩
  have K:O F0 w C [.g H,.c N.heap.size z.c bW,.g I,.g L] [.gr s l,cv d,dt,cv z]:=K;have e1:aD .i64 ((s.n:Int)+1)=((l.length+1:Nat):Int):=by rw[br _ io,hn];rfl
  rw[e1];obtain⟨W,r1,r2,r3⟩:=L' nY C (l.length+1) io;have Q:=K.P' r3 r2 (by intro b q;simp[aR]at q;omega);have kp:∀b∈[H,I,L],W.heap[b]? =C.heap[b]?:=λb q=>by
   have hg:En.g b∈[En.g H,.c N.heap.size z.c bW,.g I,.g L]:=by simp only[aF,a5,a9]at q ⊢;rcases q with rfl|rfl|rfl<;>simp
   exact r3.cD b (K.own _ hg) id
  refine⟨⟨some (ab C.heap.size),l.length+1,l.length+1⟩,W,r1,kp,?_⟩;generalize aw:(madeCells (Value.agg #[.int .i64 0,.slice none 0 0,.int .i64 0,.int .i64 0,.int .u64 0,.string (a8 #[]),.int .i64 0,.int .i64 0,.int .i64 0]).cells ((l.length+1) *9)).toList=FD at Q;have hold:FD.length=(l.length+1) *9:=by rw[<-aw];exact YH _
  have aB:=Nd.hL l;refine Q.VX 4 nY rfl gs (show bo 9 W s (l.flatMap Nd.c)from(bf.1 (Q.getD 0)).1) (by simp only;omega) rX (λaI y=>?_);have hz:(FD.drop (l.flatMap Nd.c).length).length=9:=by rw[dM];omega
  generalize FD.drop (l.flatMap Nd.c).length=Z at hz y;refine⟨_,_,_,_,_,_,_,_,_,y.ld 1 0,y.ld 1 1,y.ld 1 2,y.ld 1 3,y.ld 1 4,y.ld 1 5,y.ld 1 6,y.ld 1 7,y.ld 1 8,io,by simp only;omega,ZL ?_⟩;rw[hn,bG];refine y.aaP (e:=z) 4 l.length rfl rfl aB hz (λaJ ap=>?_);refine ap.ae λaH G=>⟨⟨_,by rw[aC],⟨l++[z],by simp[xs,z],⟨?_,λa j=>?_⟩,λb q=>?_⟩⟩,G.fr⟩
  .have:aL aH bW 9 ⟨some (ab C.heap.size),l.length+1,l.length+1⟩ (l.flatMap Nd.c++z.c):=G.get 4;have:=this.a2;simpa using this
  .rcases aK.1 j with j|j
   .exact (bf.1 (G.getD 0)).2 a j
   .simp only[aF,a5,a9]at j;subst j;exact G.getD 3
  .rcases uc.1 q with q|⟨a,j,q⟩
   .right;have ar:b∈(En.row bW 9 ⟨some (ab C.heap.size),l.length+1,l.length+1⟩ (l.flatMap Nd.c++z.c)).fp:=by
     have:b∈(if(l++[z]).flatMap Nd.c=[]then[]else aR ⟨some (ab C.heap.size),l.length+1,l.length+1⟩):=q;split at this
     .cases this
     .exact this
    exact(G.new _ (aA (i:=4) rfl) b ar).resolve_right id
   .rcases aK.1 j with j|j
    .exact .inl (uc.2 (.inr ⟨a,j,q⟩))
    .simp only[aF,a5,a9]at j;subst j;exact .inr (bD D.fr.size (uU ac b q))
def eY(es:Array MapEntry)(ms:List (ByteArray×V)):Prop:=es.toList.map (λd=>(d.key,d.val))=ms.map λp=>(Value.string p.1,p.2)
def l6(ms:List (ByteArray×V))(k:ByteArray):Option V:=(ms.find? λp=>ai (p.1=k)).map (·.2)
def Uj(a b:ByteArray):(a==b)=ai (b=a):=by
 cases d:ai (b=a)with
 |true=>rw[eQ d];exact(Go.MapKept.bytes_beq _ _).2 rfl
 |false=>
  cases e:(a==b)with
  |false=>rfl
  |true=>exact absurd ((Go.MapKept.bytes_beq _ _).1 e).symm (lE d)
def wC{k:ByteArray}:∀{es:List MapEntry} {ms:List (ByteArray×V)} {i:Nat},es.map (λh=>(h.key,h.val))=ms.map (λp=>(Value.string p.1,p.2))->
  Instr.findNow .string (.string k) es i=some ((ms.findIdx? λp=>ai (p.1=k)).bind λe=>(ms[e]?).map λp=>(i+e,p.2))
 |[],[],i,_=>rfl
 |[],_::_,_,d=>by simp at d
 |_::_,[],_,d=>by simp at d
 |h::es,p::ms,i,d=>by
  simp only[List.map_cons,List.cons.injEq,Prod.mk.injEq]at d;obtain⟨⟨w,x⟩,y⟩:=d;have z:=wC (k:=k) (i:=i+1) y;unfold Instr.findNow;simp only[w,Instr.sameNow,Uj];by_cases j:p.1=k
  .have q:ai (p.1=k)=true:=aQ j;simp[List.findIdx?_cons,j,x]
  .have q:ai (p.1=k)=false:=aS j;simp only[z,List.findIdx?_cons,q,Bool.false_eq_true,if_false];congr 1;cases A:ms.findIdx? (λp=>ai (p.1=k))with
   |none=>simp
   |some e=>simp[Nat.add_assoc,Nat.add_comm 1 e]
def Gz{ms:List (ByteArray×V)}{k:ByteArray}{i:Nat}:(((ms.findIdx? λp=>ai (p.1=k)).bind λd=>(ms[d]?).map λp=>(i+d,p.2)).map (·.2))=l6 ms k:=by
 unfold l6;induction ms generalizing i with
 |nil=>rfl
 |cons p ms j=>
  by_cases e:p.1=k
  .simp [List.findIdx?_cons,e]
  .have h:ai (p.1=k)=false:=aS e;simp only[List.findIdx?_cons,h,Bool.false_eq_true,if_false,List.find?_cons];rw[<-j (i:=i+1)];cases q:ms.findIdx? (λp=>ai (p.1=k))with
   |none=>simp
   |some d=>simp[Function.comp_def]
structure oM(P:au)(T kt et:aE)(z:V):Prop where
 hT:P.underlying T=some (.map kt et)
 hk:P.underlying kt=some .string
 hz:(P.info? et).map (·.zero)=some (some z)
def yT{P:au}{kt:aE}(d:P.underlying kt=some .string)(b:Bool)(k:ByteArray)(w:J):(Instr.checkKey b 10000 kt (.string k)).run P w=.ok () w:=by unfold Instr.checkKey;simp[run_underlying d]
def wR{P:au}{T kt x:aE}{z:V}(e:oM P T kt x z){w:J}{h:Nat}{es:Array MapEntry}{clock:Nat}{ms:List (ByteArray×V)}(B:w.heap[h]? =some (.map es clock))(C:eY es ms)(k:ByteArray):
  (Instr.lookup T (.map (some h)) (.string k) true).run P w=.ok (.tuple #[(l6 ms k).getD z,.bool (l6 ms k).isSome]) w:=by
 have y:=wC (k:=k) (i:=0) C;have A:(getObj h).run P w=.ok (.map es clock) w:=by simp[getObj,oC,B]
 have d:=Gz (ms:=ms) (k:=k) (i:=0);unfold Instr.lookup Instr.findKey;simp only[Sem.run_bind,run_underlying e.hT,Result.andThen_ok,A,Sem.run_pure,yT e.hk,run_underlying e.hk,y];cases j:((ms.findIdx? λp=>ai (p.1=k)).bind λq=>(ms[q]?).map λp=>(0+q,p.2))with
 |none=>rw[j]at d;simp[<-d,BB e.hz]
 |some D=>rw[j]at d;simp[<-d]
def vu{P:au}{T kt B:aE}{z:V}(q:oM P T kt B z){w:J}{d:Nat}{es:Array MapEntry}{clock:Nat}{ms:List (ByteArray×V)}(h:w.heap[d]? =some (.map es clock))(j:eY es ms)(k:ByteArray)(v:V)(F:l6 ms k=none):
  ∃e x,(Instr.mapUpdate T (.map (some d)) (.string k) v).run P w=.ok () e/\e.heap[d]? =some (.map x (clock+1))/\eY x (ms++[(k,v)])/\Fr (λb=>b=d) w e/\e.heap.size=w.heap.size:=by
 have C:=wC (k:=k) (i:=0) j;have D:(getObj d).run P w=.ok (.map es clock) w:=by simp[getObj,oC,h]
 have y:=Gz (ms:=ms) (k:=k) (i:=0);have E:=o9 h;have G:((ms.findIdx? λp=>ai (p.1=k)).bind λA=>(ms[A]?).map λp=>(0+A,p.2))=none:=by rw[F]at y;simpa using y
 refine⟨{w with heap:=w.heap.setIfInBounds d (.map (es.push {key:=.string k,val:=v,born:=clock}) (clock+1))},es.push {key:=.string k,val:=v,born:=clock},?_,by simp[E],?_,Fr.setObj w d _ rfl,gs⟩
 .unfold Instr.mapUpdate Instr.findKey;simp only[Sem.run_bind,run_underlying q.hT,Result.andThen_ok,D,yT q.hk,run_underlying q.hk,C,G];simp[setObj,oC,h]
 .unfold eY at j ⊢;simp[j]
def Ic{a b:List UInt8}(d:ba a=ba b):a=b:=by
 have:=congrArg bl d
 rwa[lM,lM]at this
def eo{a b:List UInt8}{A e:Prop}(j:a=b->A)(k:a≠b->e):bB ((ba a).toList==(ba b).toList) A e:=
 AO (λd=>j (Ic d)) (λd=>k λh=>d (h▸rfl))
def nF{α:Type}(f:α->V):∀(l:List (List UInt8×α)) (t:List UInt8),l6 (l.map λj=>(ba j.1,f j.2)) (ba t)=(lk l t).map f
 |[],t=>rfl
 |(h,v)::l,t=>by
  have e:=nF f l t;unfold l6 at e ⊢;unfold lk;rw[List.map_cons,List.find?_cons];by_cases d:h=t
  .subst d;simp
  .have q:ba h≠ba t:=λk=>d (Ic k);rw[aa d];simp only[q,decide_false];exact e
def gh{α β:Type}{x:PR α}{f:α->aJ->PR β}{e:Int}{p:Nat}(d:x=.er e p):x.b f=.er e p:=by subst d;rfl
def fG{α β:Type}{x:PR α}{f:α->aJ->PR β}{a:α}{s:aJ}(d:x=.ok a s):x.b f=f a s:=by subst d;rfl
section
variable {X:RC} {T:List aG}
def wY{w w':J}{α:Type}{x:PR α}{val:α->V}{a:α}{d:aJ}(e:x=.ok a d)(h:(bz X d).P w')(f:Fr (·∈[X.rb]) w w'):iq X w x val (ad (val a)) w':=by subst e;exact⟨rfl,h,f⟩
def kz{w w':J}{α:Type}{x:PR α}{val:α->V}{e:Int}{p:Nat}(d:x=.er e p)(f:Fr (·∈[X.rb]) w w'):iq X w x val (.panicked (i1 e p)) w':=by subst d;exact⟨rfl,f⟩
def uT{w:J}{D:List En}{s:aJ}(j:(bz X s).P w)(k:gV w X.rb D)(q:oO X T D)(x:s.p<T.length):
  aj U qo #[.pointer (some (ab X.rb))] w (iq X w (dg T s) λn=>.i n):=by refine PF.aq (eT (jZ rfl j k) 0 rfl (ja j k q x) (λt K H d y=>⟨_,_,_,rfl,y.ax λb L z=>z.ae λM A=>?_⟩) (λd p H er f=>kz (gh er) f));obtain⟨B,C,I⟩:=rY d;obtain⟨E,F,G⟩:=q.e.i t (B▸(qH x).1) C;refine A.av (abc E F G _) ?_;rintro _ N rfl h;exact⟨_,_,rfl,false,wM _ _,aW rfl (wY (val:=λn=>.i n) (fG d) (h.get 0) h.fr)⟩
def F5{w:J}{D:List En}{s:aJ}(d:(bz X s).P w)(hD:gV w X.rb D)(z:oO X T D)(M:s.p<T.length):
  aj U w6 #[.pointer (some (ab X.rb))] w (iq X w (iE T s) dA):=by
 have nd:∀{k:Int} {t:aG} {s s':aJ},s.p<T.length->k≠6->bL T k s=.ok t s'->s'.p<T.length:=λM Z F=>(ew z.e M Z F).l;refine xi.aq ((jZ rfl d hD).ax λB L N=>eT N 0 rfl (ja (N.get 0) (cQ N (i:=0) rfl rfl) z M) (λt s1 w2 Y H2=>⟨_,_,_,rfl,H2.ax λC w3 H3=>H3.ae λw4 Q=>?_⟩) (λF p L er f=>kz (gh er) f));have p1:=nd M dl Y;refine eT Q 0 rfl (ja (Q.get 0) (cQ Q (i:=0) rfl rfl) z p1) (λu K w5 e2 H5=>⟨_,_,_,rfl,H5.ax λW ay H6=>H6.ax λE w7 A=>?_⟩) (λF p L er f=>kz ((fG Y).trans (gh er)) f);have p2:=nd p1 dl e2;have A:O (·∈[X.rb]) w w7 [bz X K,.g B,.g C,.g W,.g E] D:=A;have two:∀(k x:Int) (s3:aJ) (h:J),s3.p<T.length->O (·∈[X.rb]) w h [bz X s3,.g B,.g C,.g W,.g E] D->
   (iE T s=(dg T s3).b λn s=>(bL T 1 s).b λ_ s=>if bw ⟨k,n,x⟩then .ok ⟨k,n,x⟩ s else .er 9 t.aT)->
   xi.bC (ab X.rb) B 0 0 0 C t.kind (ba t.text) t.aT E k 0 x h (iq X w (iE T s) dA):=λk x s3 h p3 j y=>by
  refine eT j 0 rfl (uT (j.get 0) (cQ j (i:=0) rfl rfl) z p3) (λn s4 w9 I S=>⟨_,rfl,S.ae λak H=>?_⟩) (λF p L er f=>kz (y.trans (gh er)) f);have p4:=(k7 z.e p3 I).1.l;have y:=y.trans (fG I);refine eT H 0 rfl (ja (H.get 0) (cQ H (i:=0) rfl rfl) z p4) (λc s5 ao e5 am=>⟨_,_,_,rfl,am.av (GV ⟨k,n,x⟩ ao) ?_⟩) (λF p L er f=>kz (y.trans (gh er)) f);have y:=y.trans (fG e5);rintro _ ap rfl ag;refine⟨_,rfl,cz (λd=>gi ag (jE _ 9 t ap) λw' f=>kz (y.trans (aa ?_)) f) (λd=>ag.ae λar ah=>wY (val:=dA) (y.trans (af ?_)) (ah.get 0) ah.fr)⟩
  .intro hv;exact d (by show fX _=0;unfold fX;rw[af hv])
  .refine Classical.byContradiction λhv=>?_;have d:fX _=0:=d;unfold fX at d;rw[aa hv]at d;cases d
 have G:iE T s=(match u9 u.text with
  |none=>j4 u
  |some k=>(if k=2\/k=3 then dg T K else .ok 0 K).b λx s=>(dg T s).b λn s=>(bL T 1 s).b λ_ s=>
   if bw ⟨k,n,x⟩then .ok ⟨k,n,x⟩ s else .er 9 t.aT):=(fG Y).trans (fG e2)
 have go:∀(k:Int) (h:J),O (·∈[X.rb]) w h [bz X K,.g B,.g C,.g W,.g E] D->u9 u.text=some k->xi.a1 (ab X.rb) B 0 0 0 C t.kind (ba t.text) t.aT E k 0 0 h (iq X w (iE T s) dA):=λk h j Z=>by
  rw[Z]at G;have one:k=2\/k=3->xi.bh (ab X.rb) B 0 0 0 C t.kind (ba t.text) t.aT E k 0 0 h (iq X w (iE T s) dA):=λan=>by have E1:=G.trans (congrArg (λac=>PR.b ac _) (af an));exact eT j 0 rfl (uT (j.get 0) (cQ j (i:=0) rfl rfl) z p2) (λn s4 w9 I S=>⟨_,rfl,S.ae λak H=>two k n s4 ak (k7 z.e p2 I).1.l H (E1.trans (fG I))⟩) (λF p L er f=>kz (E1.trans (gh er)) f)
  exact aw (λd=>one (.inl d)) (λd=>aw (λh'=>one (.inr h')) (λh'=>two k 0 K h p2 j (G.trans (congrArg (λac=>PR.b ac _) (aa io)))))
 have q:u9 u.text=if u.text=[98,118]then some 0 else if u.text=[115,116,114]then some 1 else if u.text=[97,114,114]then some 2 else if u.text=[97,114,115]then some 3 else none:=rfl;refine eo (b:=[98,118]) (λd=>A.ae λh j=>go 0 h j (q.trans (af d))) (λd=>?_);rw[aa d]at q;refine eo (b:=[115,116,114]) (λd=>A.ae λh j=>go 1 h j (q.trans (af d))) (λd=>?_);rw[aa d]at q;refine eo (b:=[97,114,114]) (λd=>A.ae λh j=>go 2 h j (q.trans (af d))) (λd=>?_);rw[aa d]at q;refine eo (b:=[97,114,115]) (λd=>A.ae λh j=>go 3 h j (q.trans (af d))) (λd=>A.ae λh j=>?_);rw[aa d]at q;rw[q]at G;exact gi j (qy _ u h) λw' f=>kz G f
def r4:List (ByteArray×V):=fM.map λd=>(ba d.1,.agg #[.i d.2.1,.i (d.2.2:Int)])
def Ez:oM U Hc fD acP (.agg #[.i 0,.i 0]):=by constructor<;>kernel_rfl
def uq:oM U Hb fD bA (.i 0):=by constructor<;>kernel_rfl
def zF:oM U SY fD jf (.agg #[.slice none 0 0,.i 0,.i 0]):=by constructor<;>kernel_rfl
def iN(q:List UInt8×Nat):ByteArray×V:=(ba q.1,.i (q.2:Int))
def qm(q:List UInt8×(Sl×PM)):ByteArray×V:=(ba q.1,.agg #[q.2.1.v,.i (q.2.2.b:Int),.i (q.2.2.ix:Int)])
def e5(l:List (List UInt8×aP)):List V:=l.flatMap λd=>[.string (ba d.1),.i d.2.k,.i d.2.n,.i d.2.x]
structure hH(X:RC)(E:b3)(Ms:List (List UInt8×(Sl×PM)))(D:List En):Prop where
 tk:oO X E.T D
 mo:∃es c,En.ob X.mo (.map es c)∈D/\eY es r4
 mv:∃es c,En.ob X.mv (.map es c)∈D/\eY es (E.vs.map iN)
 mm:∃es c,En.ob X.mm (.map es c)∈D/\eY es (Ms.map qm)
 ms:E.ms=Ms.map λq=>(q.1,q.2.2)
 pr:∀q∈Ms,En.a2 4 q.2.1 (e5 q.2.2.ps)∈D
 pm:match X.pm with
  |none=>E.pm=[]
  |some b=>∃es c,En.ob b (.map es c)∈D/\eY es (E.pm.map iN)
 kn:X.kn=(E.kn:Int)
 dp:X.dp=E.dp
 kc:dt∈D
variable {E:b3} {Ms:List (List UInt8×(Sl×PM))}
def Ro{w:J}{D:List En}{s:aJ}(h:(bz X s).P w)(j:gV w X.rb D):O F0 w w [] (bz X s::D):=bT _ (by
 intro e d;rcases aF.1 d with rfl|d
 .exact h
 .exact (j e d).1)
def Qn{w:J}{D:List En}{s:aJ}(d:(bz X s).P w)(I:gV w X.rb D)(K:hH X E Ms D)(t:List UInt8):
  aj U NG #[.pointer (some (ab X.rb)),.string (ba t)] w λr N=>r=ad (.bool (iz t))/\ag w N:=by
 have h:=Ro d I;refine PG.aq ?_;refine eo (b:=[110,117,109]) (λd=>eo (b:=[110,117,109]) (λ_=>⟨by subst d;rfl,h.fr⟩) λe=>absurd d e) (λz=>?_);refine eo (b:=[122,101,114,111]) (λd=>eo (b:=[122,101,114,111]) (λ_=>⟨by subst d;rfl,h.fr⟩) λe=>absurd d e) (λA=>?_);refine eo (b:=[101,120,116,114,97,99,116]) (λd=>eo (b:=[101,120,116,114,97,99,116]) (λ_=>⟨by subst d;rfl,h.fr⟩) λe=>absurd d e) (λB=>?_);refine eo (b:=[122,101,120,116]) (λd=>eo (b:=[122,101,120,116]) (λ_=>⟨by subst d;rfl,h.fr⟩) λe=>absurd d e) (λC=>?_);refine eo (b:=[115,101,120,116]) (λd=>eo (b:=[115,101,120,116]) (λ_=>⟨by subst d;rfl,h.fr⟩) λe=>absurd d e) (λF=>?_);refine eo (b:=[98,121,116,101]) (λd=>eo (b:=[98,121,116,101]) (λ_=>⟨by subst d;rfl,h.fr⟩) λe=>absurd d e) (λG=>?_);refine eo (b:=[105,110]) (λd=>⟨by subst d;rfl,h.fr⟩) (λH=>?_);have y:iz t=(lk fM t).isSome:=by unfold iz RU;simp[z,A,B,C,F,G,H]
 obtain⟨Q,c,L,M⟩:=K.mo;have j:=wR Ez (h.rd _ (cJ _ L)) M (ba t);rw[r4,nF λk:Int×Nat=>Value.agg #[.i k.1,.i (k.2:Int)]]at j;refine⟨_,h.dU 0 4,((lk fM t).getD (0,0)).1,(((lk fM t).getD (0,0)).2:Nat),(lk fM t).isSome,?_,h.ax λO S q=>q.ae λT x=>⟨by rw[y],x.fr⟩⟩;rw[j];cases lk fM t<;>rfl
end
def By(x:Int):cO (aD .i64 x):=by rw[IntKind.wrap_i64];omega
structure MdV(d:Nx):Prop extends MdN d where
 nv:d.op≠0
def m'(w:J)(r:Ending)(w':J):Prop:=∃d:Nd,r=ad d.v/\MdV d.x/\d.P w'/\∀b∈aR d.ks,w.heap.size<=b
def YL{op n m u:Int}{e:ByteArray}{st:aP}{ks:List Int}(d:MdV ⟨op,[],n,m,u,e,st⟩)(h:ks.length<=3):MdV ⟨op,ks,n,m,u,e,st⟩:=⟨⟨d.Pf,d.Pg,h,d.n,d.m,d.u,d.tx,d.re,d.li⟩,d.nv⟩
def Ed(op:Int):-1<=b6 op/\b6 op<=3:=by unfold b6;repeat' split<;>omega
section
variable {w:J} {s:Sl} {l:List Nd} {n1 m2 k3:Int} {b8 lK:Nat}
def Zj(hm:cO m2)(C:cO k3)(hl:l.length<=dD){op n m u:Int}{G:ByteArray}{st:aP}(hd:MdV ⟨op,[],n,m,u,G,st⟩)(many:Nat)(ay:many<=3)(x:Int)(af:-1<=x)(ah:x<(l.length:Int)):
  ∀(d i:Nat) (sl:Sl) (ks:List Int) (E:J),i+d=many->ks.length=i->(∀P∈ks,0<=P/\P<(l.length:Int))->O F0 w E [.g b8,.g lK,nB sl ks] [.gr s l]->
   ju.iO s m2 k3 b8 0 ⟨none,0,0⟩ 0 0 0 (a8 #[]) 0 0 0 lK op sl n m u G st.k st.n st.x x (many:Int) (i:Int) E λr A=>m' w r A/\ag w A:=by
 intro d;unfold dD at hl;induction d with
 |zero=>
  intro i sl ks E hi hlen aa B;refine ju.mj (aW (aS io) (B.ae λH y=>⟨⟨⟨⟨op,ks,n,m,u,G,st⟩,sl⟩,rfl,YL hd io,og (y.get 2),λb hb=>(y.new _ (aA (i:=2) rfl) b hb).resolve_right id⟩,y.fr⟩))
 |succ d ih=>
  intro i sl ks E hi hlen aa B;have Y:∀(D:Int) (H:J) (L:List En),-1<=D->D<(l.length:Int)->O F0 w H [.g b8,.g lK,nB sl ks] [.gr s l]->ju.ng s m2 k3 b8 0 ⟨none,0,0⟩ 0 0 0 (a8 #[]) 0 0 0 lK op sl n m u G st.k st.n st.x x (many:Int) (i:Int) D H λr A=>m' w r A/\ag w A:=by
   intro D H L h1 h2 y;refine aY (λh0=>y.ae λS z=>⟨⟨⟨⟨-1,[],0,0,0,ba [],a6⟩,⟨none,0,0⟩⟩,rfl,⟨⟨dl,dl,dl,dl,dl,dl,λ_=>dl,λZ=>(by cases Z),λZ=>(by cases Z)⟩,dl⟩,Rd.nil S,λb hb=>by cases hb⟩,z.fr⟩) (λh0=>?_);refine y.jn 2 ry rfl (λs' S z=>?_) (by have:=qs (y.get 2);omega);have ak:O F0 w S [.g b8,.g lK,nB s' (ks++[D])] [.gr s l]:=by rw[nB,fh];exact z
   refine ak.ae λh q=>?_;rw[bp _ io];refine ih (i+1) s' (ks++[D]) h io (by simp[hlen]) (λP C=>?_) q;rcases aK.1 C with C|C
   .exact aa P C
   .simp only[aF,a5,a9]at C;omega
  refine ju.mj (aU (aQ io) (aY (λam=>aY (λao=>?_) (λao=>Y x E [] af ah B)) (λam=>Y x E [] af ah B)));obtain⟨T,rfl⟩:∃T:Nat,x=(T:Int):=⟨x.toNat,io⟩;refine B.av (Vp (bf.1 (B.getD 0)) op T (i:Int) m2 io hm) ?_;rintro _ H ⟨t,rfl⟩ y;refine⟨_,_,_,rfl,y.ax λab S z=>?_⟩;have W:∀(t:aP) (h:J),O F0 w h [.g b8,.g lK,nB sl ks,.g ab] [.gr s l]->ju.kW s m2 k3 b8 0 ⟨none,0,0⟩ 0 0 0 (a8 #[]) 0 0 0 lK op sl n m u G st.k st.n st.x (T:Int) (many:Int) (i:Int) ab t.k t.n t.x h λr A=>m' w r A/\ag w A:=by intro t h q;have e5:aD .i64 (5 *(i:Int))=5 *(i:Int):=br _ io;have e6:aD .i64 (1+5 *(i:Int))=1+5 *(i:Int):=br _ io;refine⟨by rw[e5,e6];omega,q.ae λw5 I=>I.av (Cn (bf.1 (I.getD 0)) t _ (By _) (by unfold dD;exact hl)) ?_⟩;rintro _ w6 ⟨ar,rfl,ap,aq⟩ H6;exact⟨_,rfl,Y ar w6 [] ap aq (H6.take 3)⟩
  refine aw (λho=>aw (λh2=>?_) (λh2=>z.ae λh q=>W t h q)) (λho=>z.ae λh q=>W t h q);have hn:=qs (z.get 2);have M:ks[1]? =some (ks[1]'io):=a0 io;have an:=aa _ (aA M);generalize ks[1]'io=kk at M an;refine⟨io,io,(og (z.get 2)).cell M (j:=aZ 1 *1) rfl λp hp _=>z.ae λh q=>?_⟩;have ac:l[kk.toNat]? =some (l[kk.toNat]'io):=a0 io;generalize l[kk.toNat]'io=e at ac;have F:h.cell? (p.add (aZ 1 *1))=some (.int .i64 kk):=by have:=(og (q.get 2)).cell M (j:=aZ 1 *1) rfl (K:=λQ=>∃q',sl.a=some q'/\h.cell? (q'.add (aZ 1 *1))=some (.int .i64 kk)) (λQ N F=>⟨Q,N,F⟩);rw[hp]at this;obtain⟨Q,N,F⟩:=this;cases N;exact F
  exact⟨kk,F,eE (bf.1 (q.getD 0)) (i:=kk.toNat) io ac λQ N c=>⟨_,_,_,c.s0,c.s1,c.s2,q.ae λw5 I=>W e.x.st w5 I⟩⟩
def Zk(hn:cO n1)(T:cO m2)(S:cO k3)(D:l.length<=dD){op n m u:Int}{j:ByteArray}{st:aP}(hd:MdV ⟨op,[],n,m,u,j,st⟩)(x:Int)(aa:0<=x)(W:x<(l.length:Int))(I:J)(H:O F0 w I [.g b8,.g lK] [.gr s l]):
  ju.bC s n1 m2 k3 b8 0 ⟨none,0,0⟩ 0 0 0 (a8 #[]) 0 0 0 lK op ⟨none,0,0⟩ n m u j st.k st.n st.x x I λr h=>m' w r h/\ag w h:=by
 refine H.av (Ir op I) ?_;rintro _ z rfl q;have hr:=Ed op;have N:∀(x:Int) (d:J),-1<=x->x<(l.length:Int)->O F0 w d [.g b8,.g lK] [.gr s l]->ju.ft s m2 k3 b8 0 ⟨none,0,0⟩ 0 0 0 (a8 #[]) 0 0 0 lK op ⟨none,0,0⟩ n m u j st.k st.n st.x x (b6 op) d λr h=>m' w r h/\ag w h:=by
  intro x d B C y;have e:=y.hP bA 1;by_cases Z:b6 op<0
  .refine ju.mj (aW (aS io) (e.ae λz q=>⟨⟨⟨⟨op,[],n,m,u,j,st⟩,⟨none,0,0⟩⟩,rfl,hd,Rd.nil z,λb Q=>by cases Q⟩,q.fr⟩))
  .have P:b6 op=(((b6 op).toNat:Nat):Int):=io
   show ju.iO _ _ _ _ _ _ _ _ _ _ _ _ _ _ _ _ _ _ _ _ _ _ _ _ (b6 op) 0 _ _;rw[P];exact Zj T S D hd (b6 op).toNat io x B C (b6 op).toNat 0 ⟨none,0,0⟩ [] d io rfl gs e
 have M:∀(x:Int) (d:J),-1<=x->x<(l.length:Int)->O F0 w d [.g b8,.g lK] [.gr s l]->ju.cF s n1 m2 k3 b8 0 ⟨none,0,0⟩ 0 0 0 (a8 #[]) 0 0 0 lK op ⟨none,0,0⟩ n m u j st.k st.n st.x x (b6 op) d λr h=>m' w r h/\ag w h:=by intro x d B C y;refine aw (λE=>y.av (fv 8 d) ?_) (λE=>N x d B C y);rintro _ Y rfl e;refine⟨_,_,_,rfl,e.av (Cn (bf.1 (e.getD 0)) (aN 8) _ (By _) D) ?_⟩;rintro _ K ⟨L,rfl,F,G⟩ A;exact⟨_,rfl,N L K F G A⟩
 refine⟨_,rfl,aw (λE=>q.av (fv 1 z) ?_) (λE=>M x z io W q)⟩;rintro _ Y rfl e;refine⟨_,_,_,rfl,e.av (Cn (bf.1 (e.getD 0)) (aN 1) _ (By _) D) ?_⟩;rintro _ K ⟨L,rfl,F,G⟩ A;exact⟨_,rfl,M L K F G A⟩
end
def opsL:List Int:=[4,5,6,7,8,9,10,11,12,13,14,15,16,17,18,19,20,21,22,23,24,25,26,27,28,29,30,31,32,33,34,1,2,3,18,18,16,6,24,25]
def ZK{i:Nat}{op:Int}(e:opsL[i]? =some op):1<=op/\op<=34:=by
 have h:(opsL.all λd=>ai (1<=d)&&ai (d<=34))=true:=dl
 have:=cY.1 h op (aA e);simpa using this
def acK{i:Nat}{t:ByteArray}(d:nI[i]? =some t):t.size<=16:=by
 have e:(nI.all λh=>ai (h.size<=16))=true:=dl
 have:=cY.1 e t (aA d);simpa using this
def IJ{w:J}{s:Sl}{l:List Nd}(h:GP w s l)(aO:1<=l.length)(hl:l.length<=dD)(hv:∀ay∈l,bw ay.x.st=true)(C d B:Int)(hn:cO C)(N:cO d)(hk:cO B):
  aj U M9 #[s.v,.i C,.i d,.i B] w λr z=>m' w r z/\ag w z:=by
 have hs:=h' h;refine ju.aq ((uj h).ax λM w1 H1=>H1.nw λw2 _ H2=>H2.av (iB C 40 w2 io hn) ?_);have hr:=jQ C 40 io;generalize dx C 40=ap at hr;rintro _ w3 rfl H3;obtain⟨j,rfl⟩:∃j:Nat,ap=(j:Int):=⟨ap.toNat,io⟩;have ah:opsL[j]? =some (opsL[j]'(by show j<40;omega)):=a0 _;have am:=ZK ah;generalize opsL[j]'(by show j<40;omega)=op at ah am;have ac:bI w3 ⟨some (ab w1.heap.size),40,40⟩ opsL:=yI (T:=bA) (H3.ob 1) rfl;refine⟨_,rfl,io,by show(j:Int)<40;omega,ac.cell ah io λp hp S=>⟨op,S,H3.ax λL w4 H4=>H4.ae λw5 H5=>H5.av (iB _ _ w5 io (By _)) ?_⟩⟩;have aI:=jQ (aD .i64 (dP C 64)) (s.n:Int) io;generalize dx (aD .i64 (dP C 64)) (s.n:Int)=P at aI;rintro _ H rfl E;have I:∀{n m u:Int} {Z:ByteArray} {st:aP} {A:J},MdV ⟨op,[],n,m,u,Z,st⟩->O F0 w A [.g M,.g L] [.gr s l]->ju.bC s C d B M 0 ⟨none,0,0⟩ 0 0 0 (a8 #[]) 0 0 0 L op ⟨none,0,0⟩ n m u Z st.k st.n st.x P A λr z=>m' w r z/\ag w z:=λhd q=>Zk hn N hk hl hd P io io _ q;have E:O F0 w H [.g M,.g L] [.gr s l]:=E.mR [true,false,true];have em:a8 #[]=ba []:=rfl;have base:∀{n m u:Int} {Z:ByteArray} {st:aP},0<=n/\n<=100->0<=m/\m<=100->0<=u/\u<=1000->(op≠33->Z.size<=16)->(op=33->∃ak,Z=ba (mW ak))->(op=2->Z∈nI)->MdV ⟨op,[],n,m,u,Z,st⟩:=λh1 h2 h3 h4 h5 h6=>⟨⟨by show -1<=op;omega,am.2,gs,h1,h2,h3,h4,h5,h6⟩,by show op≠0;omega⟩;have D:(0:Int)<=0/\(0:Int)<=100:=dl
 have z2:(0:Int)<=0/\(0:Int)<=1000:=dl
 refine⟨_,rfl,aw (λh1=>?_) (λh1=>aw (λh2=>?_) (λh2=>aw (λh3=>?_) (λh3=>aw (λh4=>?_) (λh4=>?_))))⟩
 .refine E.av (iB d 3 H io N) ?_;have aB:=jQ d 3 io;generalize dx d 3=v at aB;rintro _ A rfl q;refine⟨_,rfl,?_⟩;have S1:∀(G:Int),1<=G->G<=7->ju.bh s C d B M 0 ⟨none,0,0⟩ 0 0 0 (a8 #[]) 0 0 0 L op ⟨none,0,0⟩ 0 0 0 (a8 #[]) 0 0 0 P G A λr z=>m' w r z/\ag w z:=by
   intro G h5 h6;refine q.av (fv G A) ?_;rintro _ F rfl y;have S:∃c:Nat,(if 3<G then(3:Int)else G)=(c:Int)/\1<=c/\c<=3:=⟨(if 3<G then(3:Int)else G).toNat,by split<;>omega,by split<;>omega,by split<;>omega⟩;obtain⟨c,S,aL,aM⟩:=S;rw[S];have ec:aD .u64 (c:Int)=(c:Int):=IntWalk.u64_in _ io;rw[ec];have ep:∃Y:Int,aD .i64 (1 *2^min (aZ (c:Int)) (IntKind.bits .i64))=Y/\1<=Y/\Y<=8:=by
    have:c=1\/c=2\/c=3:=io
    rcases this with rfl|rfl|rfl
    .exact ⟨2,dl,dl,dl⟩
    .exact ⟨4,dl,dl,dl⟩
    .exact ⟨8,dl,dl,dl⟩
   obtain⟨Y,eq,q1,q2⟩:=ep;rw[eq];refine⟨_,_,_,rfl,io,y.ae λw9 Q=>Q.av (iB B Y w9 io hk) ?_⟩;have aH:=jQ B Y io;generalize dx B Y=a at aH;rintro _ aJ rfl af;have ea:aD .u64 a=a:=IntWalk.u64_in _ io;refine⟨_,rfl,af.ae λaR ar=>?_⟩;rw[ea];exact I (st:=aN G) (base D D io (λ_=>dl) (λh=>io) (λh=>io)) ar
  have e1:aD .i64 (1+v)=1+v:=br _ io;show ju.a1 s C d B M 0 ⟨none,0,0⟩ 0 0 0 _ 0 0 0 L op ⟨none,0,0⟩ 0 0 0 _ 0 0 0 P (aD .i64 (1+v)) A _;rw[e1];exact aw (λ_=>S1 7 dl dl) (λ_=>S1 _ io io)
 .refine E.nw λA _ q=>q.av (iB d 6 A io N) ?_;have aC:=jQ d 6 io;generalize dx d 6=v at aC;rintro _ F rfl y;obtain⟨i,rfl⟩:∃i:Nat,v=(i:Int):=⟨v.toNat,io⟩;have W:nI[i]? =some (nI[i]'(by show i<6;omega)):=a0 _;have ao:=acK W;generalize nI[i]'(by show i<6;omega)=t at W ao;have ac:Rd F ⟨some (ab H.heap.size),6,6⟩ (nI.map Value.string):=pX (T:=fD) (y.ob 2) rfl;refine⟨_,rfl,io,by show(i:Int)<6;omega,Rd.get ac (i:=i) (v:=.string t) (by simp[W]) io λp hp S=>⟨t,S,y.ae λw9 Q=>?_⟩⟩;exact I (st:=a6) (base D D z2 (λ_=>ao) (λh=>io) (λ_=>aA W)) (Q.take 2)
 .refine E.nw λA _ q=>q.av (iB d 2 A io N) ?_;have aa:=jQ d 2 io;generalize dx d 2=v at aa;rintro _ F rfl y;obtain⟨i,rfl⟩:∃i:Nat,v=(i:Int):=⟨v.toNat,io⟩;have W:([⟨2,2,1⟩,⟨3,1,1⟩]:List aP)[i]? =some (([⟨2,2,1⟩,⟨3,1,1⟩]:List aP)[i]'(by show i<2;omega)):=a0 _;generalize([⟨2,2,1⟩,⟨3,1,1⟩]:List aP)[i]'(by show i<2;omega)=t at W;have ac:bo 3 F ⟨some (ab H.heap.size),2,2⟩ (([⟨2,2,1⟩,⟨3,1,1⟩]:List aP).flatMap gP):=vU (T:=cb) (y.ob 2) rfl;obtain⟨g1,g2,g3⟩:=ey ac rfl W (K:=λp=>Lm F (p.add (aZ (i:Int) *3)) λa b c=>loc [M,L] F λw9=>ju.bC s C d B M 0 ⟨none,0,0⟩ 0 0 0 (a8 #[]) 0 0 0 L op ⟨none,0,0⟩ 0 0 0 (a8 #[]) a b c P w9 λr z=>m' w r z/\ag w z) (λp hp c=>⟨_,_,_,c.c0,c.c1,c.c2,y.ae λw9 Q=>I (st:=t) (base D D z2 (λ_=>dl) (λh=>io) (λh=>io)) (Q.take 2)⟩);exact⟨_,rfl,g1,g2,g3⟩
 .obtain ⟨xn,rfl⟩:∃xn:Nat,P=(xn:Int):=⟨P.toNat,io⟩;have hg:l[xn]? =some (l[xn]'io):=a0 io;generalize l[xn]'io=e at hg;have aQ:=m0 (hv e (aA hg));refine eE (bf.1 (E.getD 0)) rfl hg λp hp c=>⟨_,c.s1,E.av (iB d _ H (by split<;>omega) N) ?_⟩;have an:=jQ d (if 1<e.x.st.n then e.x.st.n else 1) (by split<;>omega);generalize dx d (if 1<e.x.st.n then e.x.st.n else 1)=a at an;have ha:a<64:=by have:=an.2;split at this<;>omega
  rintro _ A rfl q;have e1:aD .i64 (a+1)=a+1:=br _ io;refine⟨_,rfl,q.ae λF y=>y.av (iB B _ F (by rw[e1];omega) hk) ?_⟩;rw[e1];have aG:=jQ B (a+1) io;generalize dx B (a+1)=b at aG;rintro _ w9 rfl Q;exact⟨_,rfl,Q.ae λaJ af=>I (st:=a6) (base io io z2 (λ_=>dl) (λh=>io) (λh=>io)) af⟩
 have S8:op≠33->ju.qX s C d B M 0 ⟨none,0,0⟩ 0 0 0 (a8 #[]) 0 0 0 L op ⟨none,0,0⟩ 0 0 0 (a8 #[]) 0 0 0 P H λr z=>m' w r z/\ag w z:=by intro az;refine E.av (iB d 2 H io N) ?_;have aa:=jQ d 2 io;generalize dx d 2=v at aa;rintro _ A rfl q;have e1:aD .i64 (1+v)=1+v:=br _ io;refine⟨_,rfl,q.ae λF y=>?_⟩;rw[e1];exact I (st:=a6) (base io D z2 (λ_=>dl) (λh=>absurd h az) (λh=>io)) y
 refine aw (λh5=>aU (beq_iff_eq.2 h5) (S8 io)) (λh5=>aw (λh6=>S8 io) (λh6=>aw (λh7=>?_) (λh7=>aw (λh8=>E.av (UK d N H) ?_) (λh8=>I (st:=a6) (base D D z2 (λ_=>dl) (λh=>absurd h h8) (λh=>io)) E))))
 .refine E.av (iB d 3 H io N) ?_;have aa:=jQ d 3 io;generalize dx d 3=v at aa;rintro _ A rfl q;exact⟨_,rfl,q.ae λF y=>I (st:=a6) (base io D z2 (λ_=>dl) (λh=>io) (λh=>io)) y⟩
 .rintro _ A ⟨ak,rfl⟩ q;exact⟨_,rfl,q.ae λF y=>I (st:=a6) (base D D z2 (λh=>absurd h8 h) (λ_=>⟨ak,rfl⟩) (λh=>io)) y⟩
def DA(t:BL):Bool:=match hU t with
 |.inr d=>Nat.ble (dh (cG d.tp)) 12
 |.inl _=>true
def rm(t:BL):Bool:=(match tw t with
 |some b=>jC t==b
 |none=>false)&&DA t&&Nat.ble t.length 30
def jr(i:Nat):Bool:=(List.range 108).all (λd=>rm (mW (108 *i+d)))
def WS:jr 0=true:=by kernel_rfl
def WT:jr 1=true:=by kernel_rfl
def W0:jr 2=true:=by kernel_rfl
def W2:jr 3=true:=by kernel_rfl
def W3:jr 4=true:=by kernel_rfl
def W4:jr 5=true:=by kernel_rfl
def W5:jr 6=true:=by kernel_rfl
def W6:jr 7=true:=by kernel_rfl
def W7:jr 8=true:=by kernel_rfl
def W8:jr 9=true:=by kernel_rfl
def WU:jr 10=true:=by kernel_rfl
def WV:jr 11=true:=by kernel_rfl
def WW:jr 12=true:=by kernel_rfl
def WX:jr 13=true:=by kernel_rfl
def WY:jr 14=true:=by kernel_rfl
def WZ:jr 15=true:=by kernel_rfl
def WR:∀i,i<16->jr i=true:=by
 intro i e
 match i,e with
 |0,_=>exact WS
 |1,_=>exact WT
 |2,_=>exact W0
 |3,_=>exact W2
 |4,_=>exact W3
 |5,_=>exact W4
 |6,_=>exact W5
 |7,_=>exact W6
 |8,_=>exact W7
 |9,_=>exact W8
 |10,_=>exact WU
 |11,_=>exact WV
 |12,_=>exact WW
 |13,_=>exact WX
 |14,_=>exact WY
 |15,_=>exact WZ
 |n+16,d=>exact absurd d io
def WQ(k:Nat)(h:k<1728):rm (mW k)=true:=by
 have d:=WR (k / 108) io;have e:=cY.1 d (k%108) (List.mem_range.2 (Nat.mod_lt _ io))
 rwa[Nat.div_add_mod]at e
def DC:List BL:=[[],[97],[65],[115,101,118,101,110,116,101,101,110,45,108,101,116,116,101,114,115],[97,45,49],[45],[40],[122,122],[97,98],[98],[0],[97,97],[99],[100],[109],[110],[115],[116],[105],[122],[113],[120],[39,97,39,42],[91]]
def WA:DC.all rm=true:=by kernel_rfl
def vG(t:ByteArray):Prop:=bl t∈DC\/∃d,t=ba (mW d)
def FC{t:ByteArray}(d:vG t):rm (bl t)=true:=by
 rcases d with d|⟨e,rfl⟩
 .exact cY.1 WA _ d
 .rw [lM,SH];exact WQ (e%1728) (Nat.mod_lt _ io)
def FB{t:ByteArray}(e:vG t):t.size<=30:=by
 have d:=FC e;unfold rm at d;simp only[be]at d;have h:=Nat.le_of_ble_eq_true d.2
 rwa[cZ]at h
def Zy{t:ByteArray}(j:vG t):∀d,hU (bl t)=.inr d->jv 12 (cG d.tp):=λd k=>by have h:=FC j;unfold rm at h;simp only[be]at h;have e:=h.1.2;refine y7 _ ?_;unfold DA at e;rw[k]at e;exact Nat.le_of_ble_eq_true e
def O9{t:ByteArray}(q:vG t):yw t/\qS t/\t.size<=100:=by
 have j:=FC q;unfold rm at j;simp only[be]at j;obtain⟨⟨d,e⟩,h⟩:=j;have h:=Nat.le_of_ble_eq_true h;rw[cZ]at h;have x:qS t:=Zn t λy w=>y7 _ (by unfold DA at e;rw[w]at e;exact Nat.le_of_ble_eq_true e)
 refine⟨⟨io,?_⟩,x,io⟩;cases k:tw (bl t)with
 |none=>rw[k]at d;cases d
 |some b=>
  rw[k]at d;have d:=eq_of_beq d;unfold k1;rw[d]
def MdN.ok{d:Nx}(e:MdN d):vF d:=by
 refine⟨by have:=e.kl;unfold dD;omega,?_,?_,λh=>?_⟩
 .have:=e.n;exact⟨io,io⟩
 .have:=e.m;exact⟨io,io⟩
 .exact (O9 (.inr (e.re h))).1
def lH.ok{g:List Nx}(d:lH g)(e:g.length<=dD):yk g:=⟨e,d.vg.val,d.vg.vars⟩
def T3(g:List Nx)(n:Nx):(bj g n).1.length<=g.length+1:=by
 unfold bj;split
 .simp
 .split
  .simp
  .split
   .simp
   .simp
def q0{g:List Nx}{n:Nx}(d:(bj g n).2.2=0):(bP g n).2=0/\∃k:Nat,(bj g n).2.1=(k:Int)/\(bj g n).1[k]? =some (eg n (bP g n).1)/\((bj g n).1=g\/(eg n (bP g n).1∉g/\(bj g n).1=g++[eg n (bP g n).1]/\k=g.length)):=by
 unfold bj at d ⊢;split at d
 .rename_i e;exact absurd d e
 rename_i e;have e:(bP g n).2=0:=io
 refine⟨e,?_⟩;rw[aa io];cases h:gE (eg n (bP g n).1) g 0 with
 |some i=>
  have:=DX h;rw[Nat.sub_zero]at this;exact⟨i,rfl,this.2,.inl rfl⟩
 |none=>
  rw[h]at d;dsimp only at d ⊢;split at d
  .cases d
  .rename_i j;rw[aa j];exact⟨g.length,rfl,gs,.inr ⟨DW h,rfl,rfl⟩⟩
def yy{g:List Nx}{n:Nx}(e:Vg g)(h:(bj g n).2.2=0):Vg (bj g n).1:=by
 obtain⟨j,w,_,_,d⟩:=q0 h;rcases d with d|⟨k,q,_⟩
 .rw [d];exact e
 .rw [q];exact .snoc e (El (by rw[<-j])) k
def HN{g:List Nx}{n:Nx}(j:lH g)(e:MdN n)(q:(bj g n).2.2=0):lH (bj g n).1:=by
 refine⟨yy j.vg q,λk d=>?_⟩;obtain⟨x,z,_,_,h⟩:=q0 q;rcases h with h|⟨y,w,_⟩
 .rw [h]at d;exact j.nd k d
 .rw [w]at d;rcases aK.1 d with d|d
  .exact j.nd k d
  .simp only[aF,a5,a9]at d;subst d;exact⟨e.Pf,e.Pg,e.kl,e.n,e.m,e.u,e.tx,e.re,e.li⟩
def lH.kl{l:List Nd}(e:lH (xs l)):∀d∈l,d.x.kids.length<=dD:=λd h=>by have:=(e.nd d.x (dN.2 ⟨d,h,rfl⟩)).kl;unfold dD;omega
def bQ:Nat->List Nx->Nat->Nat
 |0,_,_=>0
 |f+1,g,i=>match g[i]? with
  |none=>1
  |some d=>d.kids.foldl (λh e=>h+bQ f g e.toNat) 1
def fold_add(d:Int->Nat):∀(l:List Int) (z:Nat),l.foldl (λz e=>z+d e) z=z+l.foldl (λz e=>z+d e) 0
 |[],z=>gs
 |e::l,z=>by rw[List.foldl_cons,List.foldl_cons,fold_add d l (z+d e),fold_add d l (0+d e)];omega
def Kw(e:Int->Nat)(b:Nat):∀(l:List Int),(∀d∈l,e d<=b)->l.foldl (λk d=>k+e d) 0<=l.length *b
 |[],_=>gs
 |d::l,h=>by rw[List.foldl_cons,fold_add e l,List.length_cons,Nat.succ_mul];have q:=h d gq;have w:=Kw e b l λd j=>h d (cJ _ j);omega
def fold_congr(e h:Int->Nat):∀(l:List Int) (z:Nat),(∀d∈l,e d=h d)->l.foldl (λz d=>z+e d) z=l.foldl (λz d=>z+h d) z
 |[],_,_=>rfl
 |d::l,z,j=>by rw[List.foldl_cons,List.foldl_cons,j d gq];exact fold_congr e h l _ λd k=>j d (cJ _ k)
def Sd{g:List Nx}(h:∀d∈g,d.kids.length<=3):∀(f i:Nat),bQ f g i<=4^f
 |0,_=>by simp[bQ]
 |f+1,i=>by
  unfold bQ;split
  .exact Nat.one_le_pow _ _ io
  .rename_i d k;rw[fold_add];have q:=Kw (λe=>bQ f g e.toNat) (4^f) d.kids λe _=>Sd h f e.toNat;have j:=h d (aA k);have w:1<=4^f:=Nat.one_le_pow _ _ io;have x:d.kids.length *4^f<=3 *4^f:=kR _ j;rw[Nat.pow_succ];omega
def xS{g r:List Nx}(q:yn g):∀(f i:Nat),i<g.length->i<f->∀d,i<d->bQ f (g++r) i=bQ d g i
 |0,i,_,h,_,_=>absurd h io
 |f+1,i,e,h,0,j=>absurd j io
 |f+1,i,e,h,d+1,j=>by unfold bQ;rw[List.getElem?_append_left e];have k:g[i]? =some (g[i]'e):=a0 e;rw[k];refine fold_congr _ _ _ _ λw x=>?_;obtain⟨y,z⟩:=q i _ k w x;exact xS q f w.toNat io io d io
def IY{w:J}{s:Sl}{l:List Nd}(C:GP w s l)(ab:l.length<=30)(E:∀d∈xs l,d.kids.length<=3)(N:yn (xs l)):∀(n i:Nat),i<n->n<=30->i<l.length->∀B,ag w B->aj U Na #[s.v,.i (i:Int)] B λr H=>r=ad (.i ((bQ n (xs l) i:Nat):Int))/\ag w H
 |0,i,M,_,_,_,_=>absurd M io
 |n+1,i,M,an,F,B,S=>by
  have A:∀{k:J},ag w k->GP k s l:=λf=>⟨C.1.cC f,λd Z=>(cv d).st w _ (λb K ac=>f.cD b ac id) (C.2 d Z)⟩;have y:l[i]? =some (l[i]'F):=a0 F;generalize l[i]'F=d at y;have G:=m4 y;have k1:=E d.x (aA G);have k2:=N i d.x G;have hz:bQ (n+1) (xs l) i=d.x.kids.foldl (λz e=>z+bQ n (xs l) e.toNat) 1:=by
   conv=>lhs;unfold bQ
   rw[G]
  have K:∀e,bQ n (xs l) e<=4^n:=Sd E n;have O:4^n<=4^29:=Nat.pow_le_pow_right io io;have ap:(4:Nat)^29=288230376151711744:=dl
  rw[hz];have loop:∀(m j:Nat) (z:Nat) (k:J),j+m=d.x.kids.length->z<=1+j *4^29->(d.x.kids.drop j).foldl (λz e=>z+bQ n (xs l) e.toNat) z=d.x.kids.foldl (λz e=>z+bQ n (xs l) e.toNat) 1->ag w k->tO.L0 s (i:Int) (z:Int) (j:Int) k λr H=>r=ad (.i ((d.x.kids.foldl (λz e=>z+bQ n (xs l) e.toNat) 1:Nat):Int))/\ag w H:=by
   intro m;induction m with
   |zero=>
    intro j z k hj af h q;have hn:d.ks.n=d.x.kids.length:=bI.len ((A q).2 d (aA y));rw[dw io]at h;have h:z=d.x.kids.foldl (λz e=>z+bQ n (xs l) e.toNat) 1:=h;exact tO.cr (eE (A q) rfl y λp O c=>⟨_,c.c1,aW (aS io) ⟨by rw[<-h],q⟩⟩)
   |succ m ih=>
    intro j z k hj af h q;have L:bI k d.ks d.x.kids:=(A q).2 d (aA y);have hn:=bI.len L;have D:d.x.kids[j]? =some (d.x.kids[j]'io):=a0 io;have aa:d.x.kids.drop j=d.x.kids[j]'io::d.x.kids.drop (j+1):=dy io;rw[aa,List.foldl_cons]at h;generalize d.x.kids[j]'io=e at D h;have ak:=k2 e (aA D);refine tO.cr (eE (A q) rfl y λp O c=>⟨_,c.c1,aU (aQ io) (eE (A q) rfl y λp' ao Q=>⟨_,Q.c1,io,io,L.cell D io λaq hq Y=>⟨e,Y,?_⟩⟩)⟩);have I:e=(e.toNat:Int):=io
    have W:=K e.toNat;generalize am:e.toNat=kn at I h W;rw[I];refine(IY C ab E N n kn io io io k q).mono ?_;rintro _ P ⟨rfl,T⟩;refine⟨_,rfl,?_⟩;show tO.L0 s (i:Int) (aD .i64 ((z:Int)+((bQ n (xs l) kn:Nat):Int))) (aD .i64 ((j:Int)+1)) P _;have ae:z+bQ n (xs l) kn<=1+(j+1) *4^29:=by rw[Nat.succ_mul];omega
    have ah:(j+1) *4^29<=3 *4^29:=kR _ io;rw[bp _ io,br _ io,show(z:Int)+((bQ n (xs l) kn:Nat):Int)=((z+bQ n (xs l) kn:Nat):Int)by omega];exact ih (j+1) _ P io ae h T
  exact tO.ok (loop d.x.kids.length 0 1 B io io rfl S)
def T6{g:List Nx}{n e:Nx}(j:n.op≠0)(d:e∈(bj g n).1)(h:e.op=0):e∈g:=by
 unfold bj at d;split at d
 .cases d
 .split at d
  .exact d
  .split at d
   .cases d
   .rcases aK.1 d with d|d
    .exact d
    .rw [b'.1 d]at h;exact absurd h j
def VZ(kind:Int)(l:List Nd):Prop:=(∀d∈xs l,d.op=0->d∈xs (cm kind))/\(∃r,xs l=xs (cm kind)++r)/\∀i,i<l.length->bQ (i+1) (xs l) i<=400/\∀d,(xs l)[i]? =some d->d.st.n<=16
def ab2{kind:Int}:∀e∈cm kind,e.x.st.n<=16:=by
 intro e j;have h:e∈fO++hE++ih:=by
  unfold cm at j;rcases aK.1 j with d|d
  .rcases aK.1 d with d|d
   .simp [d]
   .split at d
    .simp [d]
    .cases d
  .split at d
   .simp [d]
   .cases d
 simp only[fO,hE,ih,lC,mf,List.cons_append,List.nil_append,aF,a5,a9]at h;rcases h with rfl|rfl|rfl|rfl|rfl|rfl|rfl|rfl|rfl|rfl<;>decide
def s7(w:J)(kind:Int)(d:Nat)(r:Ending)(w':J):Prop:=∃(s:Sl) (l:List Nd),r=ad s.v/\lH (xs l)/\1<=l.length/\l.length<=10+d/\GP w' s l/\(∀b∈(En.gr s l).fp,w.heap.size<=b)/\VZ kind l
def UE{w:J}{ls:Sl}{q:List Int}(hr:bI w ls q)(ac:∀x∈q,cO x)(bk:q.length<=9223372036854775807)(kind:Int)(C:Nat)(hm:C<=20):
  aj U MY #[ls.v,.i kind,.i (C:Int)] w λr B=>s7 w kind C r B/\ag w B:=by
 have hn:=bI.len hr;have loop:∀(m i:Nat) (z:Sl) (l:List Nd) (Y:J),i+m=C->lH (xs l)->VZ kind l->1<=l.length->l.length<=10+i->(∀b∈(En.gr z l).fp,w.heap.size<=b)->O F0 w Y [] [.rd ls (q.map bE),.gr z l]->
   n4.a4 ls kind (C:Int) z ((3 *i:Nat):Int) Y λr B=>s7 w kind C r B/\ag w B:=by
  intro m;have e3:aD .i64 (3 *(C:Int))=3 *(C:Int):=br _ io;induction m with
  |zero=>
   intro i z l Y hi y I Q h2 T M;have fin:n4.cF z Y λr B=>s7 w kind C r B/\ag w B:=⟨⟨z,l,rfl,y,Q,io,bf.1 (M.getD 1),T,I⟩,M.fr⟩;exact n4.bR (aY (λ_=>aW (aS (by rw[e3];omega)) fin) (λ_=>fin))
  |succ m ih=>
   intro i z l Y hi y I Q h2 T M;have fin:n4.cF z Y λr B=>s7 w kind C r B/\ag w B:=⟨⟨z,l,rfl,y,Q,io,bf.1 (M.getD 1),T,I⟩,M.fr⟩;have ba:aD .i64 (((3 *i:Nat):Int)+1)=((3 *i+1:Nat):Int):=br _ io;have bc:aD .i64 (((3 *i:Nat):Int)+2)=((3 *i+2:Nat):Int):=br _ io;have bd:aD .i64 (((3 *i:Nat):Int)+3)=((3 *(i+1):Nat):Int):=br _ io;have next:∀(ab:Sl) (h:List Nd) (E:J),lH (xs h)->VZ kind h->1<=h.length->h.length<=10+(i+1)->(∀b∈(En.gr ab h).fp,w.heap.size<=b)->O F0 w E [] [.rd ls (q.map bE),.gr ab h]->n4.bC ls kind (C:Int) ab ((3 *i:Nat):Int) E λr B=>s7 w kind C r B/\ag w B:=by intro ab h E g1 gv g2 g3 g4 G;show n4.a4 ls kind (C:Int) ab (aD .i64 (((3 *i:Nat):Int)+3)) E _;rw[bd];exact ih (i+1) ab h E io g1 gv g2 g3 g4 G
   have S1:∀(Z:Nat) (d:Nd) (N:J) (L:List En),En.g Z∈L->MdV d.x->d.P N->(∀b∈aR d.ks,w.heap.size<=b)->O F0 w N L [.rd ls (q.map bE),.gr z l,cv d]->n4.bh ls kind (C:Int) z ((3 *i:Nat):Int) Z d.x.op d.ks d.x.n d.x.m d.x.u d.x.tx d.x.st.k d.x.st.n d.x.st.x N λr B=>s7 w kind C r B/\ag w B:=by
    intro Z d N L bg e pd fd F;have a6:(xs l).length=l.length:=by simp[xs]
    have F:O F0 w N [] [.rd ls (q.map bE),.gr z l,cv d]:=F.take 0;refine kf ((IQ (bf.1 (F.getD 1)) pd (y.ok (by rw[a6];unfold dD;omega)) e.toMdN.ok y.kl).mono ?_);rintro _ w4 ⟨⟨s',rfl,⟨h,W,G',F'⟩⟩,f4⟩;have ak:∀b∈(En.gr s' h).fp,w.heap.size<=b:=λb H=>by
     rcases F' b H with(D|D)|D
     .exact T b D
     .exact uU fd b D
     .exact bD F.fr.size D
    have H4:=F.cC f4;have az:O F0 w w4 [] [.rd ls (q.map bE),.gr s' h]:=(F.ec (.gr s' h) f4 (bf.2 G') (λb H=>by
     rcases F' b H with(D|D)|D
     .exact .inr (.inr ⟨_,aA (i:=1) rfl,D⟩)
     .exact .inr (.inr ⟨_,aA (i:=2) rfl,D⟩)
     .exact .inl D)).forget _ gs
    have aB:∀{w6:J},O F0 w w6 [] [.rd ls (q.map bE),.gr z l,cv d]->O F0 w w6 [] [.rd ls (q.map bE),.gr z l]:=λM=>M.forget _ gs;refine⟨f4,_,_,_,rfl,aw (λh0=>?_) (λh0=>next z l w4 y I Q io T (aB H4))⟩;obtain⟨_,aa,aL,aC,aN⟩:=q0 h0;have ar:lH (xs h):=by rw[W];exact HN y e.toMdN h0
    have a3:∀A∈xs h,A.op=0->A∈xs (cm kind):=λA S D=>by rw[W]at S;exact I.1 A (T6 e.nv S D) D
    obtain⟨xr,av⟩:∃xr,xs h=xs l++xr/\xr.length<=1:=by
     obtain⟨_,_,_,_,h3⟩:=q0 h0;rcases h3 with h3|⟨_,h5,_⟩
     .exact ⟨[],by rw[W,h3,bU],gs⟩
     .exact ⟨_,by rw[W];exact h5,gs⟩
    have aP:h.length<=10+(i+1):=by have:=T3 (xs l) d.x;rw[<-W]at this;simp only[xs,uR]at this;omega
    rw[<-W]at aC;have ah:aa<h.length:=by have:=(cq.1 aC).1;simpa[xs]using this
    have af:h[aa]? =some (h[aa]'ah):=a0 ah;generalize h[aa]'ah=A at af;rw[aL];refine eE (bf.1 (az.getD 1)) rfl af λp hp c=>⟨_,_,_,c.s0,c.s1,c.s2,?_⟩;refine kf ((Vq kind A.x.st w4).mono ?_);rintro _ E ⟨⟨b,rfl⟩,f5⟩;have G:=az.cC f5;have am:=aB (H4.cC f5);refine⟨f5,_,rfl,bq (λ_=>?_) (λ_=>next z l E y I Q io T am)⟩;refine eE (bf.1 (G.getD 1)) rfl af λp' bl c'=>⟨_,c'.s1,aY (λaI=>?_) (λ_=>next z l E y I Q io T am)⟩;have aM:∀d∈xs h,d.kids.length<=3:=λd e=>(ar.nd d e).kl;refine kf ((IY (bf.1 (G.getD 1)) io aM ar.vg.rK (aa+1) aa io io ah E (Fr.refl _ _)).mono ?_);rintro _ w6 ⟨rfl,f6⟩;have f6:ag E w6:=f6;refine⟨f6,_,rfl,aY (λhz=>next s' h w6 ar ⟨a3,?_,λi hi=>?_⟩ io aP ak (G.cC f6)) (λ_=>next z l w6 y I Q io T (am.cC f6))⟩
    .obtain ⟨r0,a2⟩:=I.2.1;exact⟨r0++xr,by rw[av.1,a2,cE]⟩
    .have bn:(xs h).length=h.length:=by simp[xs]
     rcases Nat.lt_or_ge i l.length with ap|ap
     .rw [av.1,xS y.vg.rK (i+1) i io io (i+1) io];exact⟨(I.2.2 i ap).1,λd e=>(I.2.2 i ap).2 d (by rwa[List.getElem?_append_left (by simp[xs];omega)]at e)⟩
     .have aT:=congrArg List.length av.1;rw[bb]at aT;have aO:i=aa:=by
       have bo:(xs l).length=l.length:=by simp[xs]
       rcases aN with A|⟨_,A,ek⟩
       .rw [<-W]at A;have:=congrArg List.length A;omega
       .rw [<-W]at A;have:=congrArg List.length A;rw[bb]at this;simp only[List.length_singleton]at this;omega
      subst aO;refine⟨io,λd e=>?_⟩;rw[m4 af]at e;cases e;exact aI
   refine n4.bR ?_;rw[ba,bc,e3];refine aY (λbj=>aU (aQ io) (M.dr λw2 H2=>?_)) (λ_=>fin);have ao:bI w2 ls q:=H2.getD 0;have g0:q[3 *i]? =some (q[3 *i]'io):=a0 io;have g1:q[3 *i+1]? =some (q[3 *i+1]'io):=a0 io;have g2:q[3 *i+2]? =some (q[3 *i+2]'io):=a0 io;generalize q[3 *i]'io=x0 at g0;generalize q[3 *i+1]'io=x1 at g1;generalize q[3 *i+2]'io=x2 at g2;refine⟨io,io,ao.cell g0 io λp0 aV c0=>⟨x0,c0,io,io,ao.cell g1 io λp1 aX c1=>⟨x1,c1,io,io,ao.cell g2 io λp2 a1 c2=>⟨x2,c2,?_,?_⟩⟩⟩⟩
   .have an:=IJ (bf.1 (H2.getD 1)) Q (by unfold dD;omega) (λd e=>y.vg.val d.x (dN.2 ⟨d,e,rfl⟩)) x0 x1 x2 (ac _ (aA g0)) (ac _ (aA g1)) (ac _ (aA g2));refine H2.yQ an ?_;rintro _ N ⟨d,rfl,e,pd,fd⟩ _ F3;have F:=F3.rd (cv d) pd (uU fd);refine⟨_,_,_,_,_,_,_,_,_,rfl,F.ax λZ w4 H4=>H4.ae λE G=>?_⟩;exact S1 Z d E _ gs e (G.getD 2) (λb H=>bD H2.fr.size (fd b H)) G
   .refine H2.ax λZ N F=>?_;have aJ:bI N ls q:=F.getD 0;have again:∀{j:Nat} {x:Int} {p:Addr} {X:Nat},q[j]? =some x->ls.a=some p->X=j *1->N.cell? (p.add X)=some (.int .i64 x):=by intro j x p X y hp hX;have:=aJ.cell y hX (K:=λay=>∃q',ls.a=some q'/\N.cell? (q'.add X)=some (.int .i64 x)) (λay hq hc=>⟨ay,hq,hc⟩);rw[hp]at this;obtain⟨ay,hq,hc⟩:=this;cases hq;exact hc
    have an:=IJ (bf.1 (F.getD 1)) Q (by unfold dD;omega) (λd e=>y.vg.val d.x (dN.2 ⟨d,e,rfl⟩)) x0 x1 x2 (ac _ (aA g0)) (ac _ (aA g1)) (ac _ (aA g2));refine⟨again g2 a1 io,again g1 aX io,again g0 aV io,F.hh an ?_⟩;rintro _ w4 ⟨d,rfl,e,pd,fd⟩ _ F4;have H4:=F4.rd (cv d) pd (uU fd);refine⟨_,_,_,_,_,_,_,_,_,rfl,H4.ae λE G=>?_⟩;exact S1 Z d E _ gs e (G.getD 2) (λb H=>bD F.fr.size (fd b H)) G
 refine n4.aq ((Vm kind w).mono ?_);rintro _ Y ⟨⟨s,rfl,⟨l,hl,aH,aG⟩⟩,f1⟩;have hlen:=ab0 kind;have bi:l.length=(cm kind).length:=by have:=congrArg List.length hl;simpa[xs]using this
 have ak:∀b∈(En.gr s l).fp,w.heap.size<=b:=λb H=>(aG b H).resolve_left id;have M:O F0 w w [] [.rd ls (q.map bE)]:=bT _ (by intro A S;simp only[aF,a5,a9]at S;subst S;exact hr)
 have H1:=M.ec (.gr s l) f1 (bf.2 aH) (λb H=>.inl (ak b H));have a7:∀i,i<l.length->bQ (i+1) (xs l) i<=400/\∀d,(xs l)[i]? =some d->d.st.n<=16:=λi hi=>by have y:(xs l)[i]? =some ((xs l)[i]'(by simp[xs];exact hi)):=a0 _;generalize(xs l)[i]'(by simp[xs];exact hi)=d at y;have e:d∈xs (cm kind):=hl▸aA y;obtain⟨A,S,rfl⟩:=dN.1 e;refine⟨?_,λd e=>by rw[y]at e;cases e;exact ab2 A S⟩;unfold bQ;rw[y];show List.foldl _ 1 A.x.kids<=400;rw[(GN A S).1];exact(by decide:1<=400)
 exact⟨s,rfl,loop C 0 s l Y io (by rw[hl];exact ab1 kind) ⟨λd e _=>hl▸e,⟨[],by rw[hl,bU]⟩,a7⟩ io io ak H1⟩
section
variable {X:RC} {T:List aG} {E:b3} {Ms:List (List UInt8×(Sl×PM))}
def oa(q:Sl×PM):V:=.agg #[q.1.v,.i (q.2.b:Int),.i (q.2.ix:Int)]
def mL(Ms:List (List UInt8×(Sl×PM)))(t:List UInt8):Sl×PM:=(lk Ms t).getD (⟨none,0,0⟩,⟨[],0,0⟩)
def wV(Ms:List (List UInt8×(Sl×PM)))(k:Nat)(t:List UInt8):Bool:=match lk Ms t with
 |some d=>ai (d.2.ix<k)
 |none=>false
def Qo{w:J}{D:List En}{s:aJ}(z:(bz X s).P w)(A:gV w X.rb D)(x:hH X E Ms D)(t:List UInt8):
  aj U NH #[.pointer (some (ab X.rb)),.string (ba t)] w λr F=>r=ad (.tuple #[oa (mL Ms t),.bool (wV Ms E.kn t)])/\ag w F:=by
 have y:=Ro z A;obtain⟨K,c,B,C⟩:=x.mm;refine PH.aq (y.ax λH L h=>⟨_,h.dU 0 6,(mL Ms t).1,((mL Ms t).2.b:Nat),((mL Ms t).2.ix:Nat),(lk Ms t).isSome,?_,h.ax λI M k=>?_⟩)
 .have j:=wR zF (h.rd _ (cJ _ B)) C (ba t);rw[show Ms.map qm=Ms.map λd=>(ba d.1,oa d.2)from rfl,nF oa]at j;rw[j];unfold mL;cases lk Ms t<;>rfl
 .unfold wV mL;cases j:lk Ms t with
  |none=>exact aW rfl (k.ae λG e=>⟨rfl,e.fr⟩)
  |some d=>
   refine aU rfl (k.ae λG e=>⟨_,e.dU 0 8,e.ae λN q=>⟨q.dU 0 8,?_,q.fr⟩⟩);have:ai (((d.2.ix:Int))<X.kn)=ai (d.2.ix<E.kn):=by rw[x.kn];exact decide_eq_decide.2 io
   show Ending.returned (.tuple #[_,.bool (ai (((d.2.ix:Int))<X.kn))])=_;rw[this];rfl
def eB(X:RC)(l:List Nd)(w:J){α:Type}(x:PR α)(k:α->V->J->Prop):aB:=λr d=>match x with
 |.ok a e=>∃v,r=ad v/\k a v d/\∃h j,(bz {X with g:=h} e).P d/\GP d h j/\xs j=e.g/\(Vg e.g/\e.g.length<=4096)/\(∀b∈(En.gr h j).fp,b∈(En.gr X.g l).fp\/w.heap.size<=b)/\Fr (·∈[X.rb]) w d
 |.er q p=>r=.panicked (i1 q p)/\Fr (·∈[X.rb]) w d
def oz{l:List Nd}{w w':J}{α:Type}{x:PR α}{k:α->V->J->Prop}{a:α}{d:aJ}{v:V}{h:Sl}{j:List Nd}(e:x=.ok a d)(C:k a v w')(q:(bz {X with g:=h} d).P w')(z:GP w' h j)(A:xs j=d.g)(B:Vg d.g/\d.g.length<=4096)(y:∀b∈(En.gr h j).fp,b∈(En.gr X.g l).fp\/w.heap.size<=b)(f:Fr (·∈[X.rb]) w w'):eB X l w x k (ad v) w':=by subst e;exact⟨v,rfl,C,h,j,q,z,A,B,y,f⟩
def fC{l:List Nd}{w w':J}{α:Type}{x:PR α}{d:α->V->J->Prop}{e:Int}{p:Nat}(h:x=.er e p)(f:Fr (·∈[X.rb]) w w'):eB X l w x d (.panicked (i1 e p)) w':=by subst h;exact⟨rfl,f⟩
def T4{M:Nat->Prop}{w0 w w':J}{L D:List En}(H:O M w0 w L D)(i:Nat){e q d:En}(hi:L[i]? =some e)(f:Fr (·∈e.fp) w w')(G:q.P w')(C:q.fp=e.fp)(hd:d.P w')(z:∀b∈d.fp,w.heap.size<=b\/∃g∈D,b∈g.fp):O M w0 w' (L.set i q) (D++[d]):=by
 have j:=H.gb i q hi f G (λb z=>.inl (C▸z));refine⟨j.fr,j.own,λg h=>?_,j.new,j.nd,λg h b A x y k=>?_⟩
 .rcases aK.1 h with h|h
  .exact j.rd g h
  .rw [b'.1 h];exact hd
 .rcases aK.1 h with h|h
  .exact j.dj g h b A x y k
  .rw [b'.1 h]at A;rcases z b A with B|⟨E,I,B⟩
   .have:b<w.heap.size:=by
     rcases List.mem_or_eq_of_mem_set y with F|rfl
     .exact x.lt w (H.own x F) b k
     .rw [C]at k;exact e.lt w (H.own e (aA hi)) b k
    omega
   .exact j.dj E I b B x y k
structure gx(X:RC)(l:List Nd)(s:aJ)(D:List En):Prop where
 d:En.gr X.g l∈D
 x:xs l=s.g
 v:Vg s.g
 n:s.g.length<=4096
def gx.sub{l:List Nd}{s:aJ}{D D':List En}(e:gx X l s D)(j:∀h∈D,h∈D'):gx X l s D':=⟨j _ e.d,e.x,e.v,e.n⟩
def mV{M:Nat->Prop}{w0 w:J}{L D:List En}{bs:List Nat}{l:List Nd}(H:O M w0 w L D)(i:Nat){s:aJ}{α:Type}{x:PR α}{y:α->V->J->Prop}{P:au}{f:bX}{args:Array V}{R K:aB}(hi:L[i]? =some (bz X s))(F:En.gr X.g l∈D)(C:aj P f args w (eB X l w x y))(I:∀a k h j v e,x=.ok a k->y a v e->gx {X with g:=h} j k (D++[.gr h j])->(∀b∈(En.gr h j).fp,b∈(En.gr X.g l).fp\/w0.heap.size<=b)->O M w0 e (L.set i (bz {X with g:=h} k)) (D++[.gr h j])->K (ad v) e)(E:∀q p e,x=.er q p->Fr M w0 e->R (.panicked (i1 q p)) e)(B:∀b∈bs,En.g b∈L.eraseIdx i:=by simp):mx bs P f args R w K:=by
 refine C.mono λr e d=>?_;unfold eB at d;split at d
 .rename_i a k;obtain⟨v,rfl,Q,h,j,N,G,S,A,z,f⟩:=d;exact .inr ⟨⟨_,rfl⟩,Ec H hi f B,I a k h j v e rfl Q ⟨cK _ (b'.2 rfl),S,A.1,A.2⟩ (λb d=>(z b d).imp id λd=>bD H.fr.size d) (T4 H i hi f N rfl (bf.2 G) λb d=>(z b d).elim (λd=>.inr ⟨_,F,d⟩) .inl)⟩
 .rename_i q p;obtain⟨rfl,f⟩:=d;exact .inl ⟨_,rfl,E q p e rfl (DN H hi f)⟩
def T1{g:List Nx}{n:Nx}(j:g.length<=4096)(d:(bj g n).2.2=0):(bj g n).1.length<=4096:=by
 unfold bj at d ⊢;split at d
 .rename_i e;exact absurd d e
 .rename_i e;rw[aa e];split at d
  .try exact j
  .split at d
   .cases d
   .rename_i h;try rw[aa h]
    rw[bb];simp;omega
def ac2{g:List Nx}(e:Vg g):∀d∈g,d.kids.length<=3:=λd h=>by obtain⟨i,j⟩:=List.mem_iff_getElem?.1 h;have k:=(e.u7 i d j).kl;have q:=(Ed d.op).2;omega
def T2{g:List Nx}{n:Nx}(d:(bj g n).2.2=0):0<=(bj g n).2.1:=by
 unfold bj at d ⊢;split at d
 .rename_i e;exact absurd d e
 .rename_i e;rw[aa e];split at d
  .try exact Int.natCast_nonneg _
  .split at d
   .cases d
   .rename_i h;try rw[aa h]
    exact Int.natCast_nonneg _
def Av{w:J}{D:List En}{s:aJ}{l:List Nd}{t:aG}{d:Nd}(H:(bz X s).P w)(hD:gV w X.rb D)(h:gx X l s D)(T:dt∈D)(hd:cv d∈D)(Y:mq d.x):
  aj U uu #[.pointer (some (ab X.rb)),d.v,l9 t] w (eB X l w (eC s d.x t) λk v _=>v=.i (k:Int)):=by
 have G:=h.x;have hl:l.length=s.g.length:=by rw[<-G];simp[xs]
 have ah:=h.n;have W:∀L∈l,L.x.kids.length<=1000000000:=λL he=>by have:=ac2 h.v L.x (G▸dN.2 ⟨L,he,rfl⟩);omega
 have fin:∀{I:J} {K:List En} {z:Sl} {y:List Nd} (F A:Nat),O (·∈[X.rb]) w I (bz X s::K) (D++[.gr z y])->En.g A∈K->En.g F∈K->xs y=(bj s.g d.x).1->(∀b∈(En.gr z y).fp,b∈(En.gr X.g l).fp\/w.heap.size<=b)->
   FT.a1 (ab X.rb) F t.kind (ba t.text) t.aT A z (bj s.g d.x).2.1 (bj s.g d.x).2.2 I (eB X l w (eC s d.x t) λk v _=>v=.i (k:Int)):=λ{I K z y} F A j ac ag B C=>by
  refine cz (λq=>gi j (jE _ _ t I) (λw' f=>fC (x:=eC s d.x t) (by unfold eC;rw[aa q]) f)) (λq=>?_);have q:(bj s.g d.x).2.2=0:=q;have ea:eC s d.x t=.ok (bj s.g d.x).2.1.toNat {s with g:=(bj s.g d.x).1}:=by unfold eC;rw[af q]
  have h1:=T2 q;refine j.hS 0 2 rfl (λZ e=>oz ea ?_ (e.get 0) (bf.1 (e.rd _ gs)) B ⟨yy h.v q,T1 h.n q⟩ C e.fr) gs (by simp;exact .inr ac);show Value.i _=Value.i _;rw[show(((bj s.g d.x).2.1.toNat:Nat):Int)=(bj s.g d.x).2.1 by omega]
 refine FT.aq ((jZ rfl H hD).ax λb4 w1 H1=>H1.ax λF w2 H2=>H2.ae λI j=>⟨X.g,by rw[add_add];exact j.ld 0 2,?_,?_⟩)
 .refine kf ((Sg (bf.1 (j.rd _ h.d)) (j.rd _ hd) (j.rd _ T) Y io (G▸h.v.val) W).mono ?_);rintro _ Z ⟨⟨z,rfl,S⟩,f⟩;obtain⟨y,B,Q,C⟩:=S.ex;have e:=j.ec (.gr z y) f (bf.2 Q) (λb E=>(C b E).elim (λH=>.inr (.inr ⟨_,h.d,H⟩)) .inl);rw[G]at B ⊢;exact⟨f,_,_,_,rfl,e.ax λA w5 M=>M.ae λw6 N=>fin F A N gs gs B (λb E=>(C b E).imp id (bD j.fr.size))⟩
 .refine j.ax λA Z e=>⟨by rw[add_add];exact e.ld 0 2,kf ((Sg (bf.1 (e.rd _ h.d)) (e.rd _ hd) (e.rd _ T) Y io (G▸h.v.val) W).mono ?_)⟩;rintro _ w5 ⟨⟨z,rfl,S⟩,f⟩;obtain⟨y,B,Q,C⟩:=S.ex;have M:=e.ec (.gr z y) f (bf.2 Q) (λb E=>(C b E).elim (λH=>.inr (.inr ⟨_,h.d,H⟩)) .inl);rw[G]at B ⊢;exact⟨f,_,_,_,rfl,M.ae λw6 N=>fin F A N gs gs B (λb E=>(C b E).imp id (bD e.fr.size))⟩
def Zu(l:List UInt8)(x:∃d,(l=35::98::d/\1<=d.length/\d.length<=64/\j8 2 d)\/(l=35::120::d/\1<=d.length/\d.length<=16/\j8 16 d)):mq (fg l):=by
 have:(fg l).kids=[]/\(fg l).n=0/\(fg l).m=0/\0<=(fg l).u/\(fg l).op=1:=by unfold fg;split<;>exact⟨rfl,rfl,rfl,Int.natCast_nonneg _,rfl⟩
 obtain⟨h,j,k,q,w⟩:=this;exact⟨by rw[h];simp,by rw[j];exact⟨io,io⟩,by rw[k];exact⟨io,io⟩,q,by rw[w];intro e;cases e⟩
def aaq{w:J}{D:List En}{s:aJ}{l:List Nd}{t:aG}(T:(bz X s).P w)(W:gV w X.rb D)(M:gx X l s D)(hk:dt∈D)(e:∃d,(t.text=35::98::d/\1<=d.length/\d.length<=64/\j8 2 d)\/(t.text=35::120::d/\1<=d.length/\d.length<=16/\j8 16 d)):
  aj U EX #[.pointer (some (ab X.rb)),l9 t] w (eB X l w (eC s (fg t.text) t) λk v _=>v=.i (k:Int)):=by
 have go:∀(j:Nat) (q:J) (h:Nat) (sz:Nat) (c:UInt8) (d:List UInt8),(h=2\/h=16)->O (·∈[X.rb]) w q [bz X s,.g j] D->t.text=35::c::d->1<=d.length->h^d.length<=18446744073709551616->j8 h d->d.length *sz<=64->d.length<=64->
   fg t.text=⟨1,[],0,0,(c' h d:Int),ba [],⟨0,((d.length *sz:Nat):Int),0⟩⟩->mq (fg t.text)->FV.a1 (ab X.rb) j t.kind (ba t.text) t.aT (h:Int) (sz:Int) q (eB X l w (eC s (fg t.text) t) λk v _=>v=.i (k:Int)):=λj q h sz c d I B e y z A h4 h5 K C=>by
  have N:(ba t.text).size=d.length+2:=by rw[bc,e];rfl
  have hx:(ba t.text).extract (aZ 2) (ba t.text).size=ba d:=by rw[Cg,N,e];show ba (((35::c::d).take (d.length+2)).drop 2)=ba d;rw[fA gs];rfl
  refine⟨dl,io,?_⟩;rw[hx];refine B.av (abf I y z A q) ?_;rintro _ w2 rfl Q;refine⟨_,_,rfl,false,wM _ _,aW rfl ?_⟩;have H:aD .i64 ((aD .i64 ((((ba t.text).size:Nat):Int) - 2)) *(sz:Int))=((d.length *sz:Nat):Int):=by rw[N,br (((d.length+2:Nat):Int) - 2) io,show((d.length+2:Nat):Int) - 2=(d.length:Int)by omega,<-Int.natCast_mul,br _ io]
  have F:=Q.ec (cv ⟨fg t.text,⟨none,0,0⟩⟩) (Fr.refl _ _) (by show Rd w2 _ ((fg t.text).kids.map bE);rw[K];exact Rd.nil _) (λb I=>by have:b∈(En.rd ⟨none,0,0⟩ ((fg t.text).kids.map bE)).fp:=I;rw[K]at this;cases this)
  have L:=Av (t:=t) (F.get 0) (cQ F (i:=0) rfl rfl) (M.sub λH he=>bV _ he) (bV _ hk) (cK _ (b'.2 rfl)) C;show mx [j] _ _ #[.pointer (some (ab X.rb)),.agg #[.i 1,.slice none 0 0,.i 0,.i 0,.u (c' h d:Int),.string (ba []),.i 0,.i (aD .i64 ((aD .i64 ((((ba t.text).size:Nat):Int) - 2)) *(sz:Int))),.i 0],l9 t] _ _ _;rw[H];have hv:(⟨fg t.text,⟨none,0,0⟩⟩:Nd).v=.agg #[.i 1,.slice none 0 0,.i 0,.i 0,.u (c' h d:Int),.string (ba []),.i 0,.i ((d.length *sz:Nat):Int),.i 0]:=by show Value.agg #[.i (fg t.text).op,_,.i (fg t.text).n,.i (fg t.text).m,.u (fg t.text).u,.string (fg t.text).tx,.i (fg t.text).st.k,.i (fg t.text).st.n,.i (fg t.text).st.x]=_;rw[K]
  rw[hv]at L;exact mV F 0 rfl (bV _ M.d) L (λk s' g' l' v w4 S aa E Y G=>⟨_,aa▸rfl,oz S rfl (G.get 0) (bf.1 (G.rd _ E.d)) E.x ⟨E.v,E.n⟩ Y G.fr⟩) (λH p w' er f=>fC er f)
 refine FV.aq ((jZ rfl T W).ax λj q B=>?_);have C:=Zu t.text e;obtain⟨d,Z⟩:=e;rcases Z with⟨e,y,z,A⟩|⟨e,y,z,A⟩
 .refine ⟨dl,98,by rw[Cf,e];rfl,aW rfl (go j q 2 1 98 d (.inl rfl) B e y ?_ A io io ?_ C)⟩
  .exact bD (Nat.pow_le_pow_right dl z) dl
  .rw [e];show(⟨1,[],0,0,_,ba [],aN (((35::98::d).length - 2:Nat):Int)⟩:Nx)=_;simp[aN]
 .refine ⟨dl,120,by rw[Cf,e];rfl,aU rfl (go j q 16 4 120 d (.inr rfl) B e y ?_ A io io ?_ C)⟩
  .exact bD (Nat.pow_le_pow_right dl z) dl
  .rw [e];show(⟨1,[],0,0,_,ba [],aN ((((35::120::d).length - 2) *4:Nat):Int)⟩:Nx)=_;simp[aN]
end
section
variable {X:RC} {T:List aG}
def aas{N:Nat}(hS:mn N)(hN:N+1<=1000000)(hf:∀t∈T,t.kind=5->∀ah,hU t.text=.inr ah->jv N (cG ah.tp)){w:J}{D:List En}{s:aJ}(k:(bz X s).P w)(hD:gV w X.rb D)(hT:oO X T D)(hp:s.p<T.length):
  aj U EY #[.pointer (some (ab X.rb))] w (iq X w (qB T s) λt=>.string (ba t)):=by
 refine Ak.aq (eT (jZ rfl k hD) 0 rfl (ja k hD hT hp) (λt Z w1 e1 H1=>⟨_,_,_,rfl,H1.ax λy w2 H2=>H2.ae λw3 Q=>?_⟩) (λe p w1 er f=>kz (gh er) f));obtain⟨Y,h2,z⟩:=rY e1;have H:=hf t (Y▸(qH hp).1) h2;have E0:qB T s=if(hy t.text).2=0 then .ok (hy t.text).1 Z else .er (hy t.text).2 t.aT:=fG e1;have Q:O (·∈[X.rb]) w w3 [bz X Z,.g y] D:=Q;clear Y h2 z;have W:∀{w':J} {L' D':List En} (e:Int) (u:List UInt8),O (·∈[X.rb]) w w' (bz X Z::L') D'->hy t.text=(u,e)->Ak.bh (ab X.rb) y t.kind (ba t.text) t.aT e (ba u) w' (iq X w (qB T s) λt=>.string (ba t)):=λ{w' L' D'} e u C d=>
  cz (λh0=>gi C (jE _ e t w') λay f=>kz (E0.trans (by rw[d];exact aa h0)) f) (λh0=>wY (val:=λt=>.string (ba t)) (E0.trans (by rw[d];exact af h0)) (C.get 0) C.fr)
 have bad:∀{M:J} {D':List En} (e:Int),e≠0->hy t.text=([],e)->O (·∈[X.rb]) w M [bz X Z,.g y] D'->∀(A:Nat->J->Prop) (x0 x1 x2:Int) (sl:Sl),uA [y] M λF w7=>bB (e==0) (A F w7) (loc [y,F] w7 λam=>Ak.a1 (ab X.rb) y t.kind (ba t.text) t.aT F x0 x1 x2 sl e am (iq X w (qB T s) λt=>.string (ba t))):=λ{M D'} e G d C A x0 x1 x2 sl=>
  C.ax λF w7 H7=>aw (λk=>absurd k G) (λ_=>H7.ae λw8 q=>aw (λk=>absurd k G) (λ_=>W e [] q d))
 have hz:=bc t.text;refine kf ((Iu _ w3).mono ?_);rintro r w4 ⟨f4,d⟩;refine⟨f4,?_⟩;have E:=Q.cC f4;rcases d with⟨Y,rfl⟩|⟨Y,res,ao,⟨a,rfl,rfl⟩|⟨j,rfl,⟨z,rfl⟩|⟨z,u,rfl,K,pt,ft⟩⟩⟩
 .exact ⟨_,_,_,⟨none,0,0⟩,_,_,rfl,bad 4 dl (by unfold hy;rw[af io]) E _ _ _ _ _⟩
 all_goals have h4:¬4096<t.text.length:=io
 all_goals have h:=SQ ao
 all_goals rw[lM]at h
 .have h:Sum.inl a=hU t.text:=h;exact⟨_,_,_,⟨none,0,0⟩,_,_,rfl,bad 2 dl (by unfold hy;rw[aa h4,<-h]) E _ _ _ _ _⟩
 .have h:Sum.inr (fb j)=hU t.text:=h;exact⟨_,_,_,⟨none,0,0⟩,_,_,rfl,bad 4 dl (by unfold hy;rw[aa h4,<-h];dsimp only;rw[tW,af z]) E _ _ _ _ _⟩
 .have h:Sum.inr (fb j)=hU t.text:=h;have H:=H _ h.symm;rw[tW]at H;have d:hy t.text=if kB (cG j.tp)=0 then(if iL (fW (cG j.tp))=0 then(cI 0 (fW (cG j.tp)) (a' (fW (cG j.tp))),0)else([],iL (fW (cG j.tp))))else([],kB (cG j.tp)):=by unfold hy;rw[aa h4,<-h];dsimp only;rw[tW,aa io]
  generalize cG j.tp=x at K H d z;have E:=Q.ec (.tree u) f4 pt (λb hb=>.inl (ft b (a7.1 hb)));have ar:u.sz<=64:=by rw[<-I.ek,K];exact z
  refine⟨_,_,_,u.s,_,_,rfl,E.ax λF w5 H5=>aw (λ_=>H5.ae λM H6=>?_) (λk=>absurd rfl k)⟩;refine H6.hh (It hS hN u M io (by rw[K];exact H) (H6.rd (.tree u) gs)) ?_;rintro _ w7 ⟨v,rfl,L,pu,fu⟩ _ F7;rw[K]at L;rw[K];have H7:=F7.rd (.tree v) pu λb hb=>fu b (a7.1 hb);refine⟨_,_,_,v.s,_,rfl,H7.ae λw8 q=>aw (λG=>?_) (λac=>W _ [] q (by rw[d,aa ac]))⟩;rw[af G]at d;have ak:v.sz<=1000000:=by
   rw[<-I.ek,L];have:kB x=0:=G;unfold kB at this;unfold fW;split at this
   .rename_i B;rw[af B];unfold o7 at this;unfold o8;split at this
    .cases this
    .rename_i an;rw[aa an];omega
   .rename_i B;exact absurd this B
  have pv:=q.rd (.tree v) gs;refine kf (Gc.aq ((gH pv).ax λb1 w9 K9=>K9.av (Cp v w9 ak (K9.getD 0)) ?_));rintro _ ap rfl S;rw[L];refine⟨_,rfl,cz (λac=>⟨S.fr,_,_,rfl,W _ [] (q.cC S.fr) (by rw[d,aa ac])⟩) (λB=>S.av (Pv v 0 ap ak io ?_ (S.getD 0)) ?_)⟩
  .exact DQ _ (by rw[L];exact(Bn B).1)
  .rintro _ am rfl ag;refine⟨_,rfl,ag.fr,_,_,rfl,W 0 _ (q.cC ag.fr) (by rw[d,af B,L])⟩
end
def hH.sub{X:RC}{E:b3}{j:List (List UInt8×(Sl×PM))}{D D':List En}(F:hH X E j D)(g:Sl)(d:∀z∈D,z∈D'):hH {X with g:=g} E j D':=by
 obtain⟨⟨t,Y⟩,⟨A,q,M,S⟩,⟨B,w,N,T⟩,⟨C,x,O,W⟩,ms,P,h,L,y,K⟩:=F;refine⟨⟨d _ t,Y⟩,⟨A,q,d _ M,S⟩,⟨B,w,d _ N,T⟩,⟨C,x,d _ O,W⟩,ms,λQ I=>d _ (P Q I),?_,L,y,d _ K⟩;show match X.pm with
  |none=>E.pm=[]
  |some b=>∃e c,En.ob b (.map e c)∈D'/\eY e (E.pm.map iN)
 cases k:X.pm with
 |none=>rw[k]at h;exact h
 |some b=>
  rw[k]at h;obtain⟨e,c,G,H⟩:=h;exact⟨e,c,d _ G,H⟩
def iT(E:b3)(d:List (List UInt8×(Sl×PM)))(tm:aJ->PR Nat)(p0:Nat):Prop:=∀(X:RC) (w:J) (D:List En) (s:aJ) (l:List Nd),(bz X s).P w->gV w X.rb D->hH X E d D->gx X l s D->eX E s.g->p0<=s.p->s.p<E.T.length->s.tm<=65536->
 aj U rR #[.pointer (some (ab X.rb))] w (eB X l w (tm s) λk v _=>v=.i (k:Int))
def rW(w:J)(n:Nx)(v:V)(w':J):Prop:=∃d:Nd,d.x=n/\v=d.v/\d.P w'/\∀b∈(cv d).fp,w.heap.size<=b
section
variable {E:b3} {Ms:List (List UInt8×(Sl×PM))} {tm:aJ->PR Nat} {p0:Nat}
def YY(hC:iT E Ms tm p0)(hI:kX E tm p0){X0:RC}{l0:List Nd}{w:J}{x:PR Nx}{hd:Nx}{G H:Nat}{o0 o2 o3 o4 o6 o7 o8:Int}{o1:Sl}{o5:ByteArray}{N:Nat}(hN:N<=1000):∀(n i:Nat) (g:Sl) (B:J) (s:aJ) (l:List Nd) (D:List En) (kd:List Int) (sl:Sl),
  O (·∈[X0.rb]) w B [bz {X0 with g:=g} s,.g G,.g H,.row bA 1 sl (kd.map bE)] D->hH {X0 with g:=g} E Ms D->gx {X0 with g:=g} l s D->eX E s.g->p0<=s.p->s.p<E.T.length->s.tm<=65536->
  (∀b∈(En.gr g l).fp,b∈(En.gr X0.g l0).fp\/w.heap.size<=b)->i+n=N->kd.length=i->x=(gF tm n s).b (λks s=>.ok {hd with kids:=kd++ks} s)->
  uK.cu (ab X0.rb) G o0 o1 o2 o3 o4 o5 o6 o7 o8 H hd.op sl hd.n hd.m hd.u hd.tx hd.st.k hd.st.n hd.st.x (N:Int) (i:Int) B (eB X0 l0 w x (rW w)):=by
 intro n;induction n with
 |zero=>
  intro i g B s l D kd sl C L h A K Q S M hi hk q;refine uK.dQ (aW (aS io) (C.ae λw2 e=>?_));have q:x=.ok {hd with kids:=kd} s:=by rw[q];show PR.ok _ _=_;rw[bU]
  refine oz q (⟨⟨{hd with kids:=kd},sl⟩,rfl,rfl,og (e.get 3),λb P=>?_⟩) (e.get 0) (bf.1 (e.rd _ h.d)) h.x ⟨h.v,h.n⟩ M e.fr;have aa:b∈(En.row bA 1 sl (kd.map bE)).fp:=by
   have:b∈(if kd.map bE=[]then[]else aR sl):=P;split at this
   .cases this
   .exact this
  refine(e.new _ (aA (i:=3) rfl) b aa).resolve_right λhr=>?_;exact jS e.nd (i:=3) (j:=0) rfl rfl dl b aa (by rw[b'.1 hr];simp[En.c,En.ob])
 |succ n ih=>
  intro i g B s l D kd sl C L h A K Q S M hi hk q;refine uK.dQ (aU (aQ io) (C.ae λw2 e=>?_));have q:x=(tm s).b λk s=>(gF tm n s).b λl s=>.ok {hd with kids:=kd++((k:Int)::l)} s:=by
   rw[q];show PR.b (PR.b (tm s) _) _=_;cases tm s with
   |er y p=>rfl
   |ok k Z=>
    show PR.b (PR.b (gF tm n Z) _) _=PR.b (gF tm n Z) _;cases gF tm n Z<;>rfl
  refine mV (X:={X0 with g:=g}) e 0 rfl h.d (hC {X0 with g:=g} w2 D s l (e.get 0) (cQ e (i:=0) rfl rfl) L h A K Q S) (λk Y z W v w3 y hv af P H3=>?_) (λy p w' er f=>fC (q.trans (gh er)) f);obtain⟨I,g2,g3⟩:=hI s k Y K Q S h.v A y;have hn:=qs (H3.get 3);subst hv;refine⟨_,rfl,H3.jn 3 ry rfl (λs2 w4 H4=>H4.ae λw5 F=>?_) io⟩;rw[bp _ io];refine ih (i+1) z w5 Y W (D++[.gr z W]) (kd++[(k:Int)]) s2 ?_ (L.sub z λy he=>bV _ he) af (A.up I.len) io I.l I.t.2 (λb ac=>(P b ac).elim (M b) .inr) io (by rw[bb,hk];rfl) ?_
  .have F:O (·∈[X0.rb]) w w5 [bz {X0 with g:=z} Y,.g G,.g H,.row bA 1 s2 (kd.map bE++[bE (k:Int)])] (D++[.gr z W]):=F;rw[fh];exact F
  .rw [q,fG y];congr 1;funext ks s;rw[cE];rfl
end
def LQ{P:au}{T kt x:aE}{z:V}(e:oM P T kt x z){w:J}{h:Nat}{es:Array MapEntry}{clock:Nat}{ms:List (ByteArray×V)}(B:w.heap[h]? =some (.map es clock))(C:eY es ms)(k:ByteArray):
  (Instr.lookup T (.map (some h)) (.string k) false).run P w=.ok ((l6 ms k).getD z) w:=by
 have y:=wC (k:=k) (i:=0) C;have A:(getObj h).run P w=.ok (.map es clock) w:=by simp[getObj,oC,B]
 have d:=Gz (ms:=ms) (k:=k) (i:=0);unfold Instr.lookup Instr.findKey;simp only[Sem.run_bind,run_underlying e.hT,Result.andThen_ok,A,Sem.run_pure,yT e.hk,run_underlying e.hk,y];cases j:((ms.findIdx? λp=>ai (p.1=k)).bind λq=>(ms[q]?).map λp=>(0+q,p.2))with
 |none=>rw[j]at d;simp[<-d,BB e.hz]
 |some D=>rw[j]at d;simp[<-d]
def int_lt{T:List aG}(H:jl T){s y:aJ}{n:Int}(q:s.p<T.length)(h:dg T s=.ok n y):0<=n/\n<10000000000000:=by obtain⟨t,C,j,k⟩:=cU h;cases k;obtain⟨d,e,z⟩:=rY j;obtain⟨B,w,x⟩:=H.i t (d▸(qH q).1) e;have:=Ar dl x t.text.length;rw[fA (bm _)]at this;have A:10^t.text.length<=10^13:=Nat.pow_le_pow_right dl w;omega
def ZH:∀d∈fM,d.2.2<=3:=dl
def ZJ(w:List UInt8):((lk fM w).getD (0,0)).2<=3:=by
 cases d:lk fM w with
 |none=>exact di _
 |some v=>exact ZH _ (ky d)
section
variable {E:b3} {Ms:List (List UInt8×(Sl×PM))} {tm:aJ->PR Nat} {p0:Nat} {X:RC}
def aap{N:Nat}(hS:mn N)(hN:N+1<=1000000)(hf:∀t∈E.T,t.kind=5->∀ag,hU t.text=.inr ag->jv N (cG ag.tp))(hC:iT E Ms tm p0)(hI:kX E tm p0){w:J}{D:List En}{s:aJ}{l:List Nd}(wd:List UInt8)(j:(bz X s).P w)(hD:gV w X.rb D)(hE:hH X E Ms D)(hG:gx X l s D)(hO:eX E s.g)(h0:p0<=s.p)(L:s.p<E.T.length)(ah:s.tm<=65536):
  aj U EW #[.pointer (some (ab X.rb)),.string (ba wd)] w (eB X l w (iC E.T tm wd s) (rW w)):=by
 have K:=hE.tk;refine uK.aq ((jZ rfl j hD).ax λC w1 H1=>H1.ax λG w2 I=>?_);have I:O (·∈[X.rb]) w w2 [bz X s,.g C,.g G] D:=I;have hw:∀{e:Int} {p:Nat},iy E.T wd s=.er e p->iC E.T tm wd s=.er e p:=λj=>gh j;have tail:∀{hd:Nx} {ar:Nat} {M:aJ} {q:J},iy E.T wd s=.ok (hd,ar) M->hd.kids=[]->ar<=3->O (·∈[X.rb]) w q [bz X M,.g C,.g G] D->
   uK.a1 (ab X.rb) C 0 ⟨none,0,0⟩ 0 0 0 (a8 #[]) 0 0 0 G hd.op ⟨none,0,0⟩ hd.n hd.m hd.u hd.tx hd.st.k hd.st.n hd.st.x (ar:Int) q (eB X l w (iC E.T tm wd s) (rW w)):=λ{hd ar M q} e hk ha h=>by
  have hm:p0<=M.p/\M.p<E.T.length/\M.tm<=65536/\M.g=s.g:=by
   rcases KH K.e L e with m|rfl
   .exact ⟨by have:=m.p;omega,m.l,by rw[m.t];exact ah,m.g⟩
   .exact ⟨h0,L,ah,rfl⟩
  obtain⟨m1,m2,m3,m4⟩:=hm;refine YY (X0:=X) (l0:=l) (hd:=hd) hC hI (N:=ar) io ar 0 X.g q M l D [] ⟨none,0,0⟩ (h.hP bA 1) hE ⟨hG.d,by rw[m4];exact hG.x,by rw[m4];exact hG.v,by rw[m4];exact hG.n⟩ (by rw[m4];exact hO) m1 m2 m3 (λb j=>.inl j) io rfl ?_;exact fG e
 have B:iy E.T wd s=(if wd=[110,117,109]then(dg E.T s).b λu s=>(dg E.T s).b λn s=>.ok (⟨1,[],0,0,u,ba [],aN n⟩,0) s else
  if wd=[122,101,114,111]then(iE E.T s).b λac s=>.ok (⟨3,[],0,0,0,ba [],ac⟩,0) s else
  if wd=[101,120,116,114,97,99,116]then(dg E.T s).b λn s=>(dg E.T s).b λm s=>.ok (⟨21,[],n,m,0,ba [],a6⟩,1) s else
  if wd=[122,101,120,116]then(dg E.T s).b λn s=>.ok (⟨22,[],n,0,0,ba [],a6⟩,1) s else
  if wd=[115,101,120,116]then(dg E.T s).b λn s=>.ok (⟨23,[],n,0,0,ba [],a6⟩,1) s else
  if wd=[98,121,116,101]then(dg E.T s).b λn s=>.ok (⟨28,[],n,0,0,ba [],a6⟩,1) s else
  if wd=[105,110]then(qB E.T s).b λr s=>.ok (⟨33,[],0,0,0,ba r,a6⟩,1) s else
  .ok (ho ((lk fM wd).getD (0,0)).1,((lk fM wd).getD (0,0)).2) s):=rfl
 have two:∀{F:Int->Int->Nx×Nat},iy E.T wd s=((dg E.T s).b λu s=>(dg E.T s).b λn s=>.ok (F u n) s)->∀{q:J} {R:Int->Int->J->Prop},O (·∈[X.rb]) w q [bz X s,.g C,.g G] D->
   (∀u n y z,0<=u->u<10000000000000->iy E.T wd s=.ok (F u n) y->O (·∈[X.rb]) w z [bz X y,.g C,.g G] D->R u n z)->
   mx [C,G] U qo #[.pointer (some (ab X.rb))] (eB X l w (iC E.T tm wd s) (rW w)) q λr z=>∃u,r=ad (.i u)/\loc [C,G] z λw5=>mx [C,G] U qo #[.pointer (some (ab X.rb))] (eB X l w (iC E.T tm wd s) (rW w)) w5 λr w6=>∃n,r=ad (.i n)/\loc [C,G] w6 λY=>R u n Y:=λ{F} H {q R} h hR=>
  eT h 0 rfl (uT (h.get 0) (cQ h (i:=0) rfl rfl) K L) (λu M z Z A=>⟨_,rfl,A.ae λw5 H5=>
   eT H5 0 rfl (uT (H5.get 0) (cQ H5 (i:=0) rfl rfl) K (k7 K.e L Z).1.l) (λn y w6 W Q=>⟨_,rfl,Q.ae λY S=>
    hR u n y Y (int_lt K.e L Z).1 (int_lt K.e L Z).2 (by rw[H,fG Z,fG W]) S⟩) (λe p w' er f=>fC (hw (by rw[H,fG Z];exact gh er)) f)⟩) (λe p w' er f=>fC (hw (by rw[H];exact gh er)) f)
 have one:∀{F:Int->Nx×Nat},iy E.T wd s=((dg E.T s).b λn s=>.ok (F n) s)->∀{q:J} {R:Int->J->Prop},O (·∈[X.rb]) w q [bz X s,.g C,.g G] D->
   (∀n y z,iy E.T wd s=.ok (F n) y->O (·∈[X.rb]) w z [bz X y,.g C,.g G] D->R n z)->
   mx [C,G] U qo #[.pointer (some (ab X.rb))] (eB X l w (iC E.T tm wd s) (rW w)) q λr z=>∃n,r=ad (.i n)/\loc [C,G] z λw5=>R n w5:=λ{F} H {q R} h hR=>
  eT h 0 rfl (uT (h.get 0) (cQ h (i:=0) rfl rfl) K L) (λn y w6 W Q=>⟨_,rfl,Q.ae λY S=>
    hR n y Y (by rw[H,fG W]) S⟩) (λe p w' er f=>fC (hw (by rw[H];exact gh er)) f)
 refine eo (b:=[110,117,109]) (λj=>I.ae λq h=>two (F:=λu n=>(⟨1,[],0,0,u,ba [],aN n⟩,0)) (B.trans (af j)) h λu n y z u0 u1 e A=>?_) (λj=>?_)
 .have eu:aD .u64 u=u:=by rw[IntKind.wrap_u64];omega
  rw[eu];exact tail e rfl io A
 rw[aa j]at B;refine eo (b:=[122,101,114,111]) (λj=>I.ae λq h=>?_) (λj=>?_)
 .have H:=B.trans (af j);exact eT h 0 rfl (F5 (h.get 0) (cQ h (i:=0) rfl rfl) K L) (λac y w6 W Q=>⟨_,_,_,rfl,Q.ae λY S=>tail (hd:=⟨3,[],0,0,0,ba [],ac⟩) (ar:=0) (by rw[H,fG W]) rfl io S⟩) (λe p w' er f=>fC (hw (by rw[H];exact gh er)) f)
 rw[aa j]at B;refine eo (b:=[101,120,116,114,97,99,116]) (λj=>I.ae λq h=>two (F:=λn m=>(⟨21,[],n,m,0,ba [],a6⟩,1)) (B.trans (af j)) h λu n y z u0 u1 e A=>tail e rfl io A) (λj=>?_);rw[aa j]at B;refine eo (b:=[122,101,120,116]) (λj=>I.ae λq h=>one (F:=λn=>(⟨22,[],n,0,0,ba [],a6⟩,1)) (B.trans (af j)) h λn y z e A=>tail e rfl io A) (λj=>?_);rw[aa j]at B;refine eo (b:=[115,101,120,116]) (λj=>I.ae λq h=>one (F:=λn=>(⟨23,[],n,0,0,ba [],a6⟩,1)) (B.trans (af j)) h λn y z e A=>tail e rfl io A) (λj=>?_);rw[aa j]at B;refine eo (b:=[98,121,116,101]) (λj=>I.ae λq h=>one (F:=λn=>(⟨28,[],n,0,0,ba [],a6⟩,1)) (B.trans (af j)) h λn y z e A=>tail e rfl io A) (λj=>?_);rw[aa j]at B;refine eo (b:=[105,110]) (λj=>I.ae λq h=>?_) (λj=>I.ae λq h=>?_)
 .have H:=B.trans (af j);exact eT h 0 rfl (aas hS hN hf (h.get 0) (cQ h (i:=0) rfl rfl) K L) (λac y w6 W Q=>⟨_,rfl,Q.ae λY S=>tail (hd:=⟨33,[],0,0,0,ba ac,a6⟩) (ar:=1) (by rw[H,fG W]) rfl io S⟩) (λe p w' er f=>fC (hw (by rw[H];exact gh er)) f)
 rw[aa j]at B;obtain⟨es,c,hm,hs⟩:=hE.mo;have lu:∀{w':J},O (·∈[X.rb]) w w' [bz X s,.g C,.g G] D->oC U (Instr.lookup Hc (.map (some X.mo)) (.string (ba wd)) false) w'=.ok (.agg #[.i ((lk fM wd).getD (0,0)).1,.i ((((lk fM wd).getD (0,0)).2:Nat):Int)]) w':=λ{w'} am=>by have hl:=LQ Ez (am.rd _ hm) hs (ba wd);rw[r4,nF λak:Int×Nat=>Value.agg #[.i ak.1,.i (ak.2:Int)]]at hl;rw[hl];cases lk fM wd<;>rfl
 exact⟨_,h.ld 0 4,_,_,lu h,_,h.ld 0 4,_,_,lu h,h.ae λz A=>⟨lu A,A.ld 0 4,tail (hd:=ho ((lk fM wd).getD (0,0)).1) B rfl (ZJ wd) A⟩⟩
end
abbrev xh(q:List UInt8×aP):List V:=[.string (ba q.1),.i q.2.k,.i q.2.n,.i q.2.x]
def FQ{w:J}{s:Sl}{l:List (List UInt8×aP)}(e:bo 4 w s (e5 l)){i:Nat}{q:List UInt8×aP}(hi:l[i]? =some q){A:Addr->Prop}(j:∀p,s.a=some p->w.cell? ((p.add (i *4)).add 0)=some (.string (ba q.1))->w.cell? ((p.add (i *4)).add 1)=some (.i q.2.k)->w.cell? ((p.add (i *4)).add 2)=some (.i q.2.n)->w.cell? ((p.add (i *4)).add 3)=some (.i q.2.x)->A p):i<s.n/\dv s.a A:=by have h:=e.1;unfold e5 at h;rw[o1 xh 4 λ_=>rfl]at h;have z:=(cq.1 hi).1;refine⟨io,fq.elem (f:=xh) (sz:=4) (λ_=>rfl) io e.2.2 hi λp y d=>j p y (d 0 _ rfl) (d 1 _ rfl) (d 2 _ rfl) (d 3 _ rfl)⟩
def r7{w:J}{s:Sl}{l:List (List UInt8×aP)}(e:bo 4 w s (e5 l)):s.n=l.length:=by have d:=e.1;unfold e5 at d;rw[o1 xh 4 λ_=>rfl]at d;omega
def Ig:∀{ps:List (List UInt8×aP)} {az:List Int} {i:Nat} {q:List UInt8×aP} {a:Int},ps[i]? =some q->az[i]? =some a->(iU ps az)[i]? =some (q.1,a.toNat)
 |[],_,_,_,_,d,_=>by simp at d
 |_::_,[],_,_,_,_,d=>by simp at d
 |(p,h)::ps,b::az,0,q,a,d,e=>by simp at d e;subst d e;rfl
 |(p,h)::ps,b::az,i+1,q,a,d,e=>by have:=Ig (ps:=ps) (az:=az) (i:=i) (by simpa using d) (by simpa using e);simpa[iU]using this
def Ih:∀{ps:List (List UInt8×aP)} {az:List Int},az.length=ps.length->(iU ps az).map (·.1)=ps.map (·.1)
 |[],[],_=>rfl
 |[],_::_,d=>by simp at d
 |_::_,[],d=>by simp at d
 |(p,e)::ps,b::az,d=>by have:=Ih (ps:=ps) (az:=az) (by simpa using d);show p::(iU ps az).map (·.1)=_;rw[this];rfl
def LL{α:Type}:∀{l:List (List UInt8×α)} {t:List UInt8},t∉l.map (·.1)->lk l t=none
 |[],_,_=>rfl
 |(j,v)::l,t,d=>by unfold lk;rw[aa (λe=>d (by simp[e]))];exact LL λh=>d (cJ _ h)
def Zl{α:Type}{l:List α}(e:l.Nodup){i:Nat}{a:α}(hi:l[i]? =some a):a∉l.take i:=λh=>by have d:=e;rw[<-List.take_append_drop i l,eI]at d;have:a∈l.drop i:=aA (i:=0) (by rw[List.getElem?_drop];exact hi);exact d.2.2 a h a this rfl
def lh{M:Nat->Prop}{w0 w:J}{L D:List En}(H:O M w0 w L D){o:Obj}{K:J->Prop}(e:∀d,O M w0 d (L++[.ob w.heap.size o]) D->K d):c9 w o K:=
 e _ (H.push _ (Fr.alloc _ _ _) (qj w o) (λb h=>by rw[b'.1 (show b∈[w.heap.size]from h)];exact bm _))
section
variable {E:b3} {Ms:List (List UInt8×(Sl×PM))} {tm:b3->aJ->PR Nat} {X:RC}
abbrev hf(E:b3)(m:PM)(az:List Int):b3:={E with pm:=iU m.ps az,kn:=m.ix}
def Qm{q:Sl×PM}{t:List UInt8}(hq:lk Ms t=some q){sl:Sl}{az:List Int}(hB:iT (hf E q.2 az) Ms (tm (hf E q.2 az)) 0){w:J}{D:List En}{s:aJ}{l:List Nd}(ap:(bz X s).P w)(hD:gV w X.rb D)(hE:hH X E Ms D)(W:gx X l s D)(hO:eX E s.g)(aI:s.tm<=65536)(ha:En.rd sl (az.map bE)∈D)(aw:az.length=q.2.ps.length)(ak:∀Z∈az,0<=Z/\Z<(s.g.length:Int)):
  aj U zN #[.pointer (some (ab X.rb)),oa q,sl.v] w (eB X l w (h4 tm E q.2 az s) λk v _=>v=.i (k:Int)):=by
 have an:=ky hq;obtain⟨o1,o2,o3,o4⟩:=hO.ms (t,q.2) (by rw[hE.ms];exact dN.2 ⟨_,an,rfl⟩);have af:En.a2 4 q.1 (e5 q.2.ps)∈D:=hE.pr _ an;have o4:q.2.ps.length<=100000:=o4;have ag:h4 tm E q.2 az s=(tm (hf E q.2 az) {s with p:=q.2.b}).b λn s'=>.ok n {s' with p:=s.p}:=rfl;generalize hx:h4 tm E q.2 az s=Z at ag ⊢;have am:=Ih aw;have loop:∀(y K:Nat) (n i:Nat) (H:J) (es:Array MapEntry) (c:Nat),i+n=q.2.ps.length->eY es (((iU q.2.ps az).take i).map iN)->O (·∈[X.rb]) w H [bz {X with pm:=some y,kn:=(q.2.ix:Int)} {s with p:=q.2.b},.g K,.ob y (.map es c)] D->
   r9.cu (ab X.rb) sl (s.p:Int) X.pm X.kn q.1 (q.2.ps.length:Int) (i:Int) H (eB X l w Z λk v _=>v=.i (k:Int)):=by
  intro y K n;induction n with
  |zero=>
   intro i H es c hi hs I;refine r9.dQ (aW (aS io) ?_);have S:=I.freeze 2 (.ob y (.map es c)) rfl (I.get 2) (λb B=>B);have S:O (·∈[X.rb]) w H [bz {X with pm:=some y,kn:=(q.2.ix:Int)} {s with p:=q.2.b},.g K] (D++[.ob y (.map es c)]):=S;have aC:(iU q.2.ps az).take i=iU q.2.ps az:=fA (by have:=congrArg List.length am;rw[uR,uR]at this;omega)
   rw[aC]at hs;have up:∀z∈D,z∈D++[En.ob y (.map es c)]:=λz he=>bV _ he;have ar:hH {X with pm:=some y,kn:=(q.2.ix:Int)} (hf E q.2 az) Ms (D++[.ob y (.map es c)]):=by have:=hE.sub X.g up;exact⟨⟨this.tk.t,this.tk.e⟩,this.mo,this.mv,this.mm,this.ms,this.pr,⟨es,c,cK _ (b'.2 rfl),hs⟩,rfl,this.dp,this.kc⟩
   have av:eX (hf E q.2 az) s.g:=⟨hO.T,hO.vs,Cj ak,hO.ms⟩;refine mV (X:={X with pm:=some y,kn:=(q.2.ix:Int)}) (bs:=[]) S 0 rfl (bV _ W.d) (hB _ H _ {s with p:=q.2.b} l (S.get 0) (cQ S (i:=0) rfl rfl) ar ⟨bV _ W.d,W.x,W.v,W.n⟩ av (di _) o2 aI) (λk s' g' l' v L z hv aa ay h=>?_) (λz p w' er f=>fC (ag.trans (gh er)) f);subst hv;refine⟨_,rfl,h.st 0 1 rfl (λM F=>F.st 0 7 rfl (λw5 N=>N.st 0 8 rfl (λw6 G=>?_)))⟩;exact oz (ag.trans (fG z)) rfl (G.get 0) (bf.1 (G.rd _ aa.d)) aa.x ⟨aa.v,aa.n⟩ ay G.fr
  |succ n ih=>
   intro i H es c hi hs I;have Y:q.2.ps[i]? =some (q.2.ps[i]'io):=a0 io;have ac:az[i]? =some (az[i]'io):=a0 io;generalize q.2.ps[i]'io=pr at Y;generalize az[i]'io=a at ac;have aB:=Ig Y ac;have aM:=(ak a (aA ac)).1;have aG:l6 (((iU q.2.ps az).take i).map iN) (ba pr.1)=none:=by
    rw[show((iU q.2.ps az).take i).map iN=((iU q.2.ps az).take i).map λq=>(ba q.1,(λn:Nat=>Value.i (n:Int)) q.2)from rfl,nF λn:Nat=>Value.i (n:Int),LL]
    .rfl
    .rw [List.map_take,am];exact Zl o3 (by rw[List.getElem?_map,Y];rfl)
   have aH:=FQ (I.rd _ af) Y (A:=λ_=>True) (λ_ _ _ _ _ _=>trivial);refine r9.dQ (aU (aQ io) ⟨io,by have:i<q.1.n:=aH.1;omega,(FQ (I.rd _ af) Y λp hp c0 c1 c2 c3=>⟨ba pr.1,pr.2.k,pr.2.n,pr.2.x,by rw[bG];exact c0,by rw[bG];exact c1,by rw[bG];exact c2,by rw[bG];exact c3,I.ax λaL w2 C=>C.ae λL h=>?_⟩).2⟩);have ao:bI L sl az:=h.rd _ ha;have aO:=ao.len;refine⟨_,h.ld 0 7,io,io,ao.cell ac (by rw[bG]) λp' aN hc=>⟨a,hc,?_⟩⟩;obtain⟨M,ah,u1,u2,u3,u4,_⟩:=vu uq (h.ob 2) hs (ba pr.1) (.i a) aG;have F:=h.gb 2 (.ob y (.map ah (c+1))) rfl (u4.mono λZ _ z=>by simp[En.ob,z]) u2 (λb B=>.inl B);refine⟨M,u1,?_,?_⟩
   .intro b B;refine u4.cD b ((En.g b).lt L (h.own (.g b) (by simp only[b']at B;subst B;simp)) b (by simp[En.g])) λz=>?_;simp only[b']at B;subst B;exact jS h.nd (i:=3) (j:=2) rfl rfl dl b (by simp[En.g]) (by simp[En.ob,z])
   .rw [bp _ io];refine ih (i+1) M ah (c+1) io ?_ (F.take 3);rw[vl aB,fh];have e1:([(pr.1,a.toNat)]:List (List UInt8×Nat)).map iN=[(ba pr.1,.i a)]:=by show[(ba pr.1,Value.i (a.toNat:Int))]=_;rw[show(a.toNat:Int)=a by omega]
    rw[e1];exact u3
 refine r9.aq ((jZ rfl ap hD).ax λK H H1=>H1.ae λw2 C=>⟨_,C.ld 0 1,_,C.ld 0 7,_,C.ld 0 8,C.ae λL h=>?_,C.ae λL h=>?_⟩)
 .refine lh h λM F=>F.hS 0 1 rfl (λw5 N=>N.hS 0 7 rfl (λw6 G=>G.hS 0 8 rfl (λw7 Q=>?_)));show r9.cu _ _ _ _ _ _ (q.1.n:Int) _ _ _;rw[r7 (Q.rd _ af)];exact loop L.heap.size K q.2.ps.length 0 w7 #[] 0 io rfl Q
 .refine h.hS 0 1 rfl (λM F=>lh F λw5 N=>N.hS 0 7 rfl (λw6 G=>G.hS 0 8 rfl (λw7 Q=>?_)));show r9.cu _ _ _ _ _ _ (q.1.n:Int) _ _ _;rw[r7 (Q.rd _ af)];exact loop M.heap.size K q.2.ps.length 0 w7 #[] 0 io rfl Q
end
def zw{α β:Type}(f:α->β):∀(l:List (List UInt8×α)) (t:List UInt8),lk (l.map λd=>(d.1,f d.2)) t=(lk l t).map f
 |[],_=>rfl
 |(e,v)::l,t=>by
  show(if e=t then some (f v)else lk (l.map λd=>(d.1,f d.2)) t)=(if e=t then some v else lk l t).map f;split
  .rfl
  .exact zw f l t
def Yw{P:au}{T kt e:aE}{z:V}(d:oM P T kt e z)(k:ByteArray)(w:J):
  (Instr.lookup T (.map none) (.string k) true).run P w=.ok (.tuple #[z,.bool false]) w:=by have h:=wC (k:=k) (es:=[]) (ms:=[]) (i:=0) rfl;unfold Instr.lookup Instr.findKey;simp[h,Sem.run_bind,run_underlying d.hT,yT d.hk,run_underlying d.hk,BB d.hz]
section
variable {E:b3} {Ms:List (List UInt8×(Sl×PM))} {tm:b3->aJ->PR Nat} {X:RC}
def L9(h:E.ms=Ms.map λd=>(d.1,d.2.2))(t:List UInt8):(wV Ms E.kn t=false->iA E t=none)/\(wV Ms E.kn t=true->∃d,lk Ms t=some d/\mL Ms t=d/\iA E t=some d.2/\d.2.ix<E.kn):=by
 unfold wV iA mL;rw[h,zw (λd:Sl×PM=>d.2)];cases e:lk Ms t with
 |none=>exact⟨λ_=>rfl,λe=>by cases e⟩
 |some d=>
  show(ai (d.2.ix<E.kn)=false->(if d.2.ix<E.kn then some d.2 else none)=none)/\(ai (d.2.ix<E.kn)=true->_);refine⟨λe=>aa (lE e),λe=>⟨d,rfl,rfl,af (eQ e),eQ e⟩⟩
abbrev kV(k:Nat)(v:V)(_:J):Prop:=v=.i (k:Int)
def aao{t:aG}(an:∀t h,lk Ms t=some h->h.2.ix<E.kn->∀ac,iT (hf E h.2 ac) Ms (tm (hf E h.2 ac)) 0){w:J}{D:List En}{s:aJ}{l:List Nd}(T:(bz X s).P w)(hD:gV w X.rb D)(q:hH X E Ms D)(y:gx X l s D)(hO:eX E s.g)(aw:s.tm<=65536):
  aj U EV #[.pointer (some (ab X.rb)),l9 t] w (eB X l w (k9 tm E t s) kV):=by
 have look:∀{w':J} {L:List En} {ms:List (List UInt8×Nat)} {b:Nat} {es:Array MapEntry} {c:Nat},O (·∈[X.rb]) w w' L D->En.ob b (.map es c)∈D->eY es (ms.map iN)->oC U (Instr.lookup Hb (.map (some b)) (.string (ba t.text)) true) w'=.ok (.tuple #[.i (((lk ms t.text).getD 0:Nat):Int),.bool (lk ms t.text).isSome]) w':=λ{w' L ms b es c} z B C=>by have hl:=wR uq (z.rd _ B) C (ba t.text);rw[show ms.map iN=ms.map λh=>(ba h.1,(λn:Nat=>Value.i (n:Int)) h.2)from rfl,nF λn:Nat=>Value.i (n:Int)]at hl;rw[hl];cases lk ms t.text<;>rfl
 have done:∀{n:Nat} {w':J} {L:List En},k9 tm E t s=.ok n s->O (·∈[X.rb]) w w' (bz X s::L) D->eB X l w (k9 tm E t s) kV (ad (.i (n:Int))) w':=λ{n w' L} j z=>
  oz j rfl (z.get 0) (bf.1 (z.rd _ y.d)) y.x ⟨y.v,y.n⟩ (λb T=>.inl T) z.fr
 refine PI.aq ((jZ rfl T hD).ax λb3 w1 H1=>H1.ae λw2 F=>⟨X.pm,F.ld 0 7,(((lk E.pm t.text).getD 0:Nat):Int),(lk E.pm t.text).isSome,?_,?_⟩)
 .have M:=q.pm;cases K:X.pm with
  |none=>
   rw[K]at M;rw[show E.pm=[]from M];exact Yw uq _ _
  |some b=>
   rw[K]at M;obtain⟨es,c,B,C⟩:=M;exact look F B C
 have e:k9 tm E t s=match lk E.pm t.text with
  |some n=>.ok n s
  |none=>match lk E.vs t.text with
   |some n=>.ok n s
   |none=>match iA E t.text with
    |some m=>if m.ps=[]then h4 tm E m [] s else .er 6 t.aT
    |none=>.er 6 t.aT:=rfl
 cases ah:lk E.pm t.text with
 |some n=>
  rw[ah]at e;exact aU rfl (done e F)
 |none=>
  rw[ah]at e;obtain⟨es,c,B,C⟩:=q.mv;refine aW rfl (F.ae λw3 k=>⟨some X.mv,k.ld 0 5,_,_,look k B C,?_⟩);cases am:lk E.vs t.text with
  |some n=>
   rw[am]at e;exact aU rfl (done e k)
  |none=>
   rw[am]at e;have ag:=L9 q.ms t.text;refine aW rfl (k.av (Qo (k.get 0) (cQ k (i:=0) rfl rfl) q t.text) ?_);rintro _ w4 rfl H4;refine⟨_,_,_,_,rfl,H4.ax λb9 w5 G=>eO (λY=>?_) (λY=>?_)⟩
   .have e:=e.trans (by rw[ag.1 Y]);exact G.ae λN A=>gi A (jE _ 6 t N) λw' f=>fC e f
   .obtain ⟨h,Z,q2,q3,q4⟩:=ag.2 Y;rw[q3]at e;rw[q2];have ar:En.a2 4 h.1 (e5 h.2.ps)∈D:=q.pr _ (ky Z);have ak:h.1.n=h.2.ps.length:=r7 (G.rd _ ar);refine aY (λay=>?_) (λhz=>?_)
    .have ap:h.2.ps≠[]:=λj=>by rw[j]at ak;simp at ak;omega
     exact G.ae λN A=>gi A (jE _ 6 t N) λw' f=>fC (e.trans (aa ap)) f
    .have I:h.2.ps=[]:=F1 io;refine G.ae λN A=>?_;have Q:=A.ec (.rd ⟨none,0,0⟩ (([]:List Int).map bE)) (Fr.refl _ _) (Rd.nil _) (λb W=>by cases W);have up:∀j∈D,j∈D++[En.rd ⟨none,0,0⟩ (([]:List Int).map bE)]:=λj I=>bV _ I;have e:=e.trans (af I);have ao:hH X E Ms (D++[En.rd ⟨none,0,0⟩ (([]:List Int).map bE)]):=q.sub X.g up;have hc:=Qm (X:=X) (tm:=tm) (az:=[]) Z (an _ h Z q4 []) (Q.get 0) (cQ Q (i:=0) rfl rfl) ao (y.sub up) hO aw (cK _ (b'.2 rfl)) (by rw[I];rfl) (λaH K=>by cases K);generalize aB:h4 tm E h.2 [] s=xx at hc e;refine mV (X:=X) (x:=xx) Q 0 rfl (up _ y.d) hc (λaC s' g' l' v w8 j hv H W S=>?_) (λj p w' er f=>fC (e.trans er) f);subst hv;exact⟨_,rfl,oz (e.trans j) rfl (S.get 0) (bf.1 (S.rd _ H.d)) H.x ⟨H.v,H.n⟩ W S.fr⟩
end
section
variable {E:b3} {Ms:List (List UInt8×(Sl×PM))} {tm:b3->aJ->PR Nat} {X:RC} {p0:Nat}
def XE{t:aG}{q:Sl×PM}{tx:List UInt8}(q1:lk Ms tx=some q){sl:Sl}{zs:List Int}(hB:iT (hf E q.2 zs) Ms (tm (hf E q.2 zs)) 0){l0:List Nd}{w:J}{x:PR Nat}{H I:Nat}{g:Sl}{s:aJ}{l:List Nd}{D:List En}(L:hH {X with g:=g} E Ms D)(B:gx {X with g:=g} l s D)(hO:eX E s.g)(ap:s.tm<=65536)(N:∀b∈(En.gr g l).fp,b∈(En.gr X.g l0).fp\/w.heap.size<=b)(hz:zs.length=q.2.ps.length)(ha:∀a∈zs,0<=a/\a<(s.g.length:Int)):∀(n i:Nat) (A:J),i+n=q.2.ps.length->
  O (·∈[X.rb]) w A [bz {X with g:=g} s,.g H,.g I,.row bA 1 sl (zs.map bE)] D->(x=if kJ s.g (q.2.ps.drop i) (zs.drop i)then h4 tm E q.2 zs s else .er 9 t.aT)->
  po.lG (ab X.rb) H t.kind (ba t.text) t.aT I q.1 (q.2.b:Int) (q.2.ix:Int) sl q.1 (q.1.n:Int) (i:Int) A (eB X l0 w x kV):=by
 have S:En.a2 4 q.1 (e5 q.2.ps)∈D:=L.pr _ (ky q1);obtain⟨_,_,_,o4⟩:=hO.ms (tx,q.2) (by rw[L.ms];exact dN.2 ⟨_,ky q1,rfl⟩);have o4:q.2.ps.length<=100000:=o4;intro n;induction n with
 |zero=>
  intro i A hi h e;have an:q.1.n=q.2.ps.length:=r7 (h.rd _ S);refine po.pS (aW (aS io) ?_);have e:x=h4 tm E q.2 zs s:=by rw[e,dw (show q.2.ps.length<=i by omega)];exact af rfl
  have j:=h.freeze 3 (.rd sl (zs.map bE)) rfl (og (h.get 3)) (λb N=>by
   have:b∈(if zs.map bE=[]then[]else aR sl):=N;split at this
   .cases this
   .exact this)
  have j:O (·∈[X.rb]) w A [bz {X with g:=g} s,.g H,.g I] (D++[.rd sl (zs.map bE)]):=j;have T:∀z∈D,z∈D++[En.rd sl (zs.map bE)]:=λz P=>bV _ P;have F:=Qm (X:={X with g:=g}) (tm:=tm) (az:=zs) q1 hB (j.get 0) (cQ j (i:=0) rfl rfl) (L.sub g T) (B.sub T) hO ap (cK _ (b'.2 rfl)) hz ha;generalize aB:h4 tm E q.2 zs s=xx at F e;refine mV (X:={X with g:=g}) (x:=xx) j 0 rfl (T _ B.d) F (λaC s' g' l' v w8 z hv C ak G=>?_) (λz p w' er f=>fC (e.trans er) f);subst hv;exact⟨_,rfl,oz (e.trans z) rfl (G.get 0) (bf.1 (G.rd _ C.d)) C.x ⟨C.v,C.n⟩ (λb K=>(ak b K).elim (N b) .inr) G.fr⟩
 |succ n ih=>
  intro i A hi h e;have an:q.1.n=q.2.ps.length:=r7 (h.rd _ S);have ah:q.2.ps[i]? =some (q.2.ps[i]'io):=a0 io;have M:zs[i]? =some (zs[i]'io):=a0 io;have Y:q.2.ps.drop i=(q.2.ps[i]'io)::q.2.ps.drop (i+1):=dy io;have Z:zs.drop i=(zs[i]'io)::zs.drop (i+1):=dy io;generalize q.2.ps[i]'io=pr at ah Y;generalize zs[i]'io=a at M Z;obtain⟨aq,a1⟩:=ha a (aA M);have ac:=B.x;have av:l.length=s.g.length:=by rw[<-ac];simp[xs]
  have Q:l[a.toNat]? =some (l[a.toNat]'io):=a0 io;generalize l[a.toNat]'io=nd at Q;have ao:s.g[a.toNat]? =some nd.x:=by rw[<-ac];exact m4 Q
  rw[Y,Z]at e;have e:x=if(ai ((s.g[a.toNat]?).map (·.st)=some pr.2)&&kJ s.g (q.2.ps.drop (i+1)) (zs.drop (i+1)))=true then h4 tm E q.2 zs s else .er 9 t.aT:=e;rw[ao]at e;refine po.pS (aU (aQ io) ⟨io,io,(FQ (h.rd _ S) ah λp hp c0 c1 c2 c3=>⟨ba pr.1,pr.2.k,pr.2.n,pr.2.x,by rw[bG];exact c0,by rw[bG];exact c1,by rw[bG];exact c2,by rw[bG];exact c3,h.ax λar w2 j=>j.ae λW y=>?_⟩).2⟩);have ag:bI W sl zs:=og (y.get 3);have ay:=ag.len;refine⟨g,by rw[add_add];exact y.ld 0 2,io,io,ag.cell M (by rw[bG]) λp' aw F=>⟨a,F,?_⟩⟩;refine eE (bf.1 (y.rd _ B.d)) (X:=a) (i:=a.toNat) io Q (λp hp c=>⟨nd.x.st.k,nd.x.st.n,nd.x.st.x,c.s0,c.s1,c.s2,?_⟩);refine xG (λam=>gi y (jE _ 9 t W) λw' f=>fC (e.trans (aa (by simp;intro K;exact absurd K am))) f) (λP=>?_);show po.lG _ _ _ _ _ _ _ _ _ _ _ _ (aD .i64 ((i:Int)+1)) _ _;rw[bp _ io];exact ih (i+1) W io (y.take 4) (by rw[e];simp[P])
def acy{α:Type}{l:List α}{i:Nat}(d:i<l.length)(a:α):(l.set i a).take (i+1)=l.take i++[a]:=by rw[vl (c:=a) (by rw[List.getElem?_set_self d]),List.take_set_of_le (bm i)]
def XD(hC:iT E Ms (tm E) p0)(hI:kX E (tm E) p0){t:aG}{q:Sl×PM}{tx:List UInt8}(q1:lk Ms tx=some q)(hB:∀Y,iT (hf E q.2 Y) Ms (tm (hf E q.2 Y)) 0){sl:Sl}{l0:List Nd}{w:J}{x:PR Nat}{Z b7:Nat}(hN:q.2.ps.length<=100000):∀(n i:Nat) (g:Sl) (G:J) (s:aJ) (l:List Nd) (D:List En) (zs:List Int),i+n=q.2.ps.length->zs.length=q.2.ps.length->
  O (·∈[X.rb]) w G [bz {X with g:=g} s,.g Z,.g b7,.row bA 1 sl (zs.map bE)] D->hH {X with g:=g} E Ms D->gx {X with g:=g} l s D->eX E s.g->p0<=s.p->s.p<E.T.length->s.tm<=65536->(∀b∈(En.gr g l).fp,b∈(En.gr X.g l0).fp\/w.heap.size<=b)->(∀a∈zs.take i,0<=a/\a<(s.g.length:Int))->
  (x=(gF (tm E) n s).b λA s=>(bL E.T 1 s).b λ_ s=>if kJ s.g q.2.ps (zs.take i++A)then h4 tm E q.2 (zs.take i++A) s else .er 9 t.aT)->
  po.cu (ab X.rb) Z t.kind (ba t.text) t.aT b7 q.1 (q.2.b:Int) (q.2.ix:Int) sl (q.2.ps.length:Int) (i:Int) G (eB X l0 w x kV):=by
 intro n;induction n with
 |zero=>
  intro i g G s l D zs hi P y C j z M F K N I h;have ht:zs.take i=zs:=fA io;rw[ht]at I;have h:x=(bL E.T 1 s).b λ_ s=>if kJ s.g q.2.ps zs then h4 tm E q.2 zs s else .er 9 t.aT:=by rw[h,ht];show(bL E.T 1 s).b _=_;rw[bU]
  refine po.dQ (aW (aS io) (eT (X:={X with g:=g}) y 0 rfl (ja (y.get 0) (cQ y (i:=0) rfl rfl) C.tk F) (λc Q w2 e H2=>⟨_,_,_,rfl,?_⟩) (λe p w' er f=>fC (h.trans (gh er)) f)));have m:=ew z.T F dl e;exact XE q1 (hB zs) C ⟨j.d,by rw[m.g];exact j.x,by rw[m.g];exact j.v,by rw[m.g];exact j.n⟩ (by rw[m.g];exact z) (by rw[m.t];exact K) N P (by rw[m.g];exact I) q.2.ps.length 0 w2 io H2 (h.trans (fG e))
 |succ n ih=>
  intro i g G s l D zs hi P y C j z M F K N I h;have h:x=(tm E s).b λk s=>(gF (tm E) n s).b λA s=>(bL E.T 1 s).b λ_ s=>if kJ s.g q.2.ps (zs.take i++((k:Int)::A))then h4 tm E q.2 (zs.take i++((k:Int)::A)) s else .er 9 t.aT:=by
   rw[h];show PR.b (PR.b (tm E s) _) _=_;cases tm E s with
   |er e p=>rfl
   |ok k S=>
    show PR.b (PR.b (gF (tm E) n S) _) _=PR.b (gF (tm E) n S) _;cases gF (tm E) n S<;>rfl
  refine po.dQ (aU (aQ io) (mV (X:={X with g:=g}) y 0 rfl j.d (hC {X with g:=g} G D s l (y.get 0) (cQ y (i:=0) rfl rfl) C j z M F K) (λk Q L l' v w3 e hv ae ag W=>?_) (λe p w' er f=>fC (h.trans (gh er)) f)));obtain⟨H,g2,g3⟩:=hI s k Q M F K j.v z e;subst hv;have aa:bI w3 sl zs:=og (W.get 3);have am:=aa.len;have ak:zs[i]? =some (zs[i]'io):=a0 io;refine⟨_,rfl,io,io,aa.cell ak rfl λp' ah hc=>?_⟩;rw[bG,Nat.mul_one];refine W.sy 3 i rfl ah (by rw[uR];omega) (λw4 H4=>?_);rw[bp _ io];have ac:=acy (l:=zs) (i:=i) io (k:Int);refine ih (i+1) L w4 Q l' (D++[.gr L l']) (zs.set i (k:Int)) io (by rw[List.length_set];exact P) ?_ (C.sub L λe he=>bV _ he) ae (z.up H.len) io H.l H.t.2 (λb B=>(ag b B).elim (N b) .inr) ?_ ?_
  .rw [List.map_set];exact H4
  .rw [ac];intro a af;have:=H.len;rcases aK.1 af with B|B
   .have:=I a B;omega
   .rw [b'.1 B];omega
  .rw [h,fG e,ac];congr 1;funext A s;rw[cE];rfl
end
section
variable {E:b3} {Ms:List (List UInt8×(Sl×PM))} {tm:b3->aJ->PR Nat} {X:RC} {p0:Nat}
def aaj(hC:iT E Ms (tm E) p0)(hI:kX E (tm E) p0){t wd:aG}(aa:∀t d,lk Ms t=some d->d.2.ix<E.kn->∀k,iT (hf E d.2 k) Ms (tm (hf E d.2 k)) 0){w:J}{D:List En}{s:aJ}{l:List Nd}(I:(bz X s).P w)(hD:gV w X.rb D)(x:hH X E Ms D)(hG:gx X l s D)(Q:eX E s.g)(h0:p0<=s.p)(hp:s.p<E.T.length)(ag:s.tm<=65536):
  aj U EO #[.pointer (some (ab X.rb)),l9 t,l9 wd] w (eB X l w (p9 tm E t wd s) kV):=by
 have y:p9 tm E t wd s=match iA E wd.text with
  |none=>.er 6 wd.aT
  |some m=>(gF (tm E) m.ps.length s).b λk s=>(bL E.T 1 s).b λ_ s=>if kJ s.g m.ps k then h4 tm E m k s else .er 9 t.aT:=rfl
 have S:=L9 x.ms wd.text;refine po.aq ((jZ rfl I hD).ax λB w1 Z=>Z.ax λq w2 H=>H.av (Qo (H.get 0) (cQ H (i:=0) rfl rfl) x wd.text) ?_);rintro _ w3 rfl H3;refine⟨_,_,_,_,rfl,H3.ax λC w4 M=>eO (λK=>?_) (λK=>?_)⟩
 .have y:=y.trans (by rw[S.1 K]);exact M.ae λe j=>gi j (jE _ 6 wd e) λw' f=>fC y f
 .obtain ⟨d,F,q2,q3,q4⟩:=S.2 K;rw[q3]at y;rw[q2];have af:En.a2 4 d.1 (e5 d.2.ps)∈D:=x.pr _ (ky F);obtain⟨_,_,_,L⟩:=Q.ms (wd.text,d.2) (by rw[x.ms];exact dN.2 ⟨_,ky F,rfl⟩);have L:d.2.ps.length<=100000:=L;refine M.ae λe j=>?_;have ac:d.1.n=d.2.ps.length:=r7 (j.rd _ af);have z:=j.freeze 2 (.g q) rfl (j.get 2) (λb h=>h);have z:O (·∈[X.rb]) w e [bz X s,.g B,.g C] (D++[.g q]):=z;have Y:∀N∈D,N∈D++[En.g q]:=λN he=>bV _ he;obtain⟨G,r1,r2,W⟩:=L' ry e d.2.ps.length io;have A:=z.P' W r2 (by intro b h;simp[aR]at h;omega);rw[YF (.int .i64 0) d.2.ps.length rfl]at A;have kp:kept [B,C] e G:=λb h=>by
   have hg:En.g b∈[bz X s,En.g B,En.g C]:=by simp only[aF,a5,a9]at h ⊢;rcases h with rfl|rfl<;>simp
   exact W.cD b ((En.g b).lt e (z.own _ hg) b (by simp[En.g])) id
  refine⟨⟨some (ab e.heap.size),d.2.ps.length,d.2.ps.length⟩,G,by rw[ac];exact r1,kp,?_⟩;have A:O (·∈[X.rb]) w G [bz X s,.g B,.g C,.row bA 1 ⟨some (ab e.heap.size),d.2.ps.length,d.2.ps.length⟩ ((List.replicate d.2.ps.length (0:Int)).map bE)] (D++[.g q]):=by rw[List.map_replicate];exact A
  exact XD hC hI F (aa _ d F q4) L d.2.ps.length 0 X.g G s l (D++[.g q]) (List.replicate d.2.ps.length 0) io (by rw[List.length_replicate]) A (x.sub X.g Y) (hG.sub Y) Q h0 hp ag (λb I=>.inl I) (λa ha=>by cases ha) y
end
def T5{M:Nat->Prop}{w0 w w':J}{L D:List En}(H:O M w0 w L D)(i:Nat){e k:En}(z:List En)(hi:L[i]? =some e)(f:Fr (·∈e.fp) w w')(G:k.P w')(C:k.fp=e.fp)(hd:∀y∈z,y.P w'/\∀b∈y.fp,w.heap.size<=b\/∃g∈D,b∈g.fp):O M w0 w' (L.set i k) (D++z):=by
 have h:=H.gb i k hi f G (λb I=>.inl (C▸I));refine⟨h.fr,h.own,λg d=>?_,h.new,h.nd,λg d b B q x j=>?_⟩
 .rcases aK.1 d with d|d
  .exact h.rd g d
  .exact (hd g d).1
 .rcases aK.1 d with d|d
  .exact h.dj g d b B q x j
  .rcases (hd g d).2 b B with A|⟨E,K,A⟩
   .have:b<w.heap.size:=by
     rcases List.mem_or_eq_of_mem_set x with F|rfl
     .exact q.lt w (H.own q F) b j
     .rw [C]at j;exact e.lt w (H.own e (aA hi)) b j
    omega
   .exact h.dj E K b A q x j
section
variable {E:b3} {Ms:List (List UInt8×(Sl×PM))} {tm:b3->aJ->PR Nat} {X:RC} {p0:Nat}
def Y2{M:Nat->Prop}{w0 w:J}{L D:List En}{bs:List Nat}{l:List Nd}(H:O M w0 w L D)(i:Nat){s:aJ}{x:PR Nx}{P:au}{f:bX}{args:Array V}{R K:aB}(hi:L[i]? =some (bz X s))(N:En.gr X.g l∈D)(E:aj P f args w (eB X l w x (rW w)))(S:∀y h k (d:Nd) j,x=.ok d.x y->gx {X with g:=h} k y (D++[.gr h k,cv d])->(∀b∈(En.gr h k).fp,b∈(En.gr X.g l).fp\/w0.heap.size<=b)->O M w0 j (L.set i (bz {X with g:=h} y)) (D++[.gr h k,cv d])->K (ad d.v) j)(I:∀q p j,x=.er q p->Fr M w0 j->R (.panicked (i1 q p)) j)(C:∀b∈bs,En.g b∈L.eraseIdx i:=by simp):mx bs P f args R w K:=by
 refine E.mono λr j e=>?_;unfold eB at e;split at e
 .rename_i a y;obtain⟨v,rfl,⟨d,rfl,rfl,G,F⟩,h,k,T,Q,W,B,z,f⟩:=e;refine .inr ⟨⟨_,rfl⟩,Ec H hi f C,S y h k d j rfl ⟨cK _ gs,W,B.1,B.2⟩ (λb e=>(z b e).imp id λe=>bD H.fr.size e) (T5 H i [.gr h k,cv d] hi f T rfl λq A=>?_)⟩;simp only[aF,a5,a9]at A;rcases A with rfl|rfl
  .exact ⟨bf.2 Q,λb e=>(z b e).elim (λe=>.inr ⟨_,N,e⟩) .inl⟩
  .exact ⟨G,λb e=>.inl (F b e)⟩
 .rename_i q p;obtain⟨rfl,f⟩:=e;exact .inl ⟨_,rfl,I q p j rfl (DN H hi f)⟩
abbrev gz(E:b3):b3:={E with dp:=E.dp+1}
def aal{N:Nat}(aC:mn N)(hN:N+1<=1000000)(aL:∀t∈E.T,t.kind=5->∀ao,hU t.text=.inr ao->jv N (cG ao.tp))(aH:∀K s n G,iC E.T (tm (gz E)) K s=.ok n G->mq n)(hC:iT (gz E) Ms (tm (gz E)) p0)(hI:kX (gz E) (tm (gz E)) p0)(ay:∀t Y,lk Ms t=some Y->Y.2.ix<E.kn->∀az,iT (hf (gz E) Y.2 az) Ms (tm (hf (gz E) Y.2 az)) 0){t:aG}{w:J}{D:List En}{s:aJ}{l:List Nd}(ah:(bz X s).P w)(hD:gV w X.rb D)(j:hH X E Ms D)(Q:gx X l s D)(F:eX E s.g)(h0:p0<=s.p)(hp:s.p<E.T.length)(aM:s.tm<=65536):
  aj U ER #[.pointer (some (ab X.rb)),l9 t] w (eB X l w (mz tm E t s) kV):=by
 have h:mz tm E t s=if 64<=E.dp then .er 4 t.aT else
  (bL E.T 2 s).b λw s=>if iz w.text then(iC E.T (tm (gz E)) w.text s).b λn s=>(bL E.T 1 s).b λ_ s=>eC s n t
   else p9 tm (gz E) t w s:=rfl
 have aO:=j.dp;refine FU.aq ((jZ rfl ah hD).ax λb3 w1 L=>⟨_,L.ld 0 9,aY (λaw=>gi L (jE _ 4 t w1) λw' f=>fC (h.trans (af io)) f) (λaw=>⟨_,L.ld 0 9,L.hS 0 9 rfl (λw2 z=>?_)⟩)⟩);rw[aa io]at h;rw[bp _ io]at z;have z:O (·∈[X.rb]) w w2 [bz {X with dp:=X.dp+1} s,.g b3] D:=z;have H:hH {X with dp:=X.dp+1} (gz E) Ms D:=⟨⟨j.tk.t,j.tk.e⟩,j.mo,j.mv,j.mm,j.ms,j.pr,j.pm,j.kn,by show X.dp+1=E.dp+1;omega,j.kc⟩;have aB:eX (gz E) s.g:=⟨F.T,F.vs,F.pm,F.ms⟩;have fin:∀{k:Nat} {G:aJ} {M:Sl} {l':List Nd} {D':List En} {L':List En} {w':J},mz tm E t s=.ok k G->O (·∈[X.rb]) w w' (bz {X with dp:=X.dp+1,g:=M} G::L') D'->gx {X with g:=M} l' G D'->(∀b∈(En.gr M l').fp,b∈(En.gr X.g l).fp\/w.heap.size<=b)->
   FU.bh (ab X.rb) (k:Int) w' (eB X l w (mz tm E t s) kV):=λ{k G M l' D' L' w'} q an S hb=>by
  have e9:aD .i64 (((X.dp+1:Nat):Int) - 1)=(X.dp:Int):=by rw[br _ io];omega
  refine⟨((X.dp+1:Nat):Int),an.ld 0 9,an.st 0 9 (v:=.i (aD .i64 (((X.dp+1:Nat):Int) - 1))) rfl λw3 A=>?_⟩;rw[e9]at A;exact oz q rfl (A.get 0) (bf.1 (A.rd _ S.d)) S.x ⟨S.v,S.n⟩ hb A.fr
 refine eT (X:={X with dp:=X.dp+1}) z 0 rfl (ja (z.get 0) (cQ z (i:=0) rfl rfl) H.tk hp) (λK Z w3 e1 A=>⟨_,_,_,rfl,A.ax λb6 w4 H4=>H4.ae λw5 H5=>?_⟩) (λq p w' er f=>fC (h.trans (gh er)) f);have m:=ew F.T hp dl e1;have h:=h.trans (fG e1);have I:gx {X with dp:=X.dp+1} l Z D:=⟨Q.d,by rw[m.g];exact Q.x,by rw[m.g];exact Q.v,by rw[m.g];exact Q.n⟩;have ak:eX (gz E) Z.g:=by rw[m.g];exact aB
 have p1:p0<=Z.p:=by have:=m.p;omega
 have t1:Z.tm<=65536:=by rw[m.t];exact aM
 refine H5.av (Qn (H5.get 0) (cQ H5 (i:=0) rfl rfl) H K.text) ?_;rintro _ w6 rfl B;refine⟨_,rfl,bq (λho=>?_) (λho=>?_)⟩
 .have h:=h.trans (af ho);refine Y2 (X:={X with dp:=X.dp+1}) B 0 rfl I.d (aap (E:=gz E) aC hN aL hC hI K.text (B.get 0) (cQ B (i:=0) rfl rfl) H I ak p1 m.l t1) (λs2 C l2 ap w7 e2 W aI H7=>⟨_,_,_,_,_,_,_,_,_,rfl,H7.ax λb7 w8 H8=>H8.ae λw9 H9=>?_⟩) (λq p w' er f=>fC (h.trans (gh er)) f);have h:=h.trans (fG e2);have g1:=O1 hI p1 m.l t1 I.v ak e2;have up:∀q∈D,q∈D++[En.gr C l2,cv ap]:=λq he=>bV _ he;refine eT (X:={X with dp:=X.dp+1,g:=C}) H9 0 rfl (ja (H9.get 0) (cQ H9 (i:=0) rfl rfl) (H.sub C up).tk g1.l) (λc s3 aP e3 ac=>⟨_,_,_,rfl,?_⟩) (λq p w' er f=>fC (h.trans (gh er)) f);have m3:=ew F.T g1.l dl e3;have h:=h.trans (fG e3);have ar:gx {X with dp:=X.dp+1,g:=C} l2 s3 (D++[.gr C l2,cv ap]):=⟨W.d,by rw[m3.g];exact W.x,by rw[m3.g];exact W.v,by rw[m3.g];exact W.n⟩;refine mV (X:={X with dp:=X.dp+1,g:=C}) ac 0 rfl ar.d (Av (t:=t) (ac.get 0) (cQ ac (i:=0) rfl rfl) ar (up _ j.kc) (cK _ gs) (aH _ _ _ _ e2)) (λk s4 g4 l4 v aN e4 hv y am ag=>?_) (λq p w' er f=>fC (h.trans er) f);subst hv;exact⟨_,rfl,fin (h.trans e4) ag ⟨y.d,y.x,y.v,y.n⟩ (λb ah=>(am b ah).elim (aI b) .inr)⟩
 .have h:=h.trans (aa (by rw[ho];simp));refine mV (X:={X with dp:=X.dp+1}) B 0 rfl I.d (aaj (E:=gz E) (t:=t) (wd:=K) hC hI ay (B.get 0) (cQ B (i:=0) rfl rfl) H I ak p1 m.l t1) (λk s4 g4 l4 v aN e4 hv y am ag=>?_) (λq p w' er f=>fC (h.trans er) f);subst hv;exact⟨_,rfl,fin (h.trans e4) ag ⟨y.d,y.x,y.v,y.n⟩ am⟩
end
section
variable {E:b3} {Ms:List (List UInt8×(Sl×PM))} {tm:b3->aJ->PR Nat} {X:RC}
def aav{N:Nat}(av:mn N)(hN:N+1<=1000000)(aB:∀t∈E.T,t.kind=5->∀ah,hU t.text=.inr ah->jv N (cG ah.tp))(ay:∀wd s n s',iC E.T (tm (gz E)) wd s=.ok n s'->mq n){w:J}{D:List En}{s:aJ}{l:List Nd}(hC:iT (gz E) Ms (tm (gz E)) (s.p+1))(hI:kX (gz E) (tm (gz E)) (s.p+1))(ap:∀t A,lk Ms t=some A->A.2.ix<E.kn->∀K,iT (hf E A.2 K) Ms (tm (hf E A.2 K)) 0)(ar:∀t A,lk Ms t=some A->A.2.ix<E.kn->∀K,iT (hf (gz E) A.2 K) Ms (tm (hf (gz E) A.2 K)) 0)(z:(bz X s).P w)(hD:gV w X.rb D)(L:hH X E Ms D)(C:gx X l s D)(M:eX E s.g)(hp:s.p<E.T.length)(aH:s.tm<=65536):
  aj U rR #[.pointer (some (ab X.rb))] w (eB X l w (jd tm E s) kV):=by
 obtain⟨ht,_⟩:=qH hp;have hk:=M.T.k _ ht;have am:=M.T.n _ ht;have q:jd tm E s=if(aO E.T s.p).kind=1\/(aO E.T s.p).kind=4\/(aO E.T s.p).kind=6 then j4 (aO E.T s.p)else
  if 65536<=s.tm then .er 4 (aO E.T s.p).aT else
  if(aO E.T s.p).kind=2 then k9 tm E (aO E.T s.p) {cS (aO E.T s.p) s with tm:=s.tm+1}else
  if(aO E.T s.p).kind=3 then eC {cS (aO E.T s.p) s with tm:=s.tm+1} (fg (aO E.T s.p).text) (aO E.T s.p)else
  if(aO E.T s.p).kind=5 then eC {cS (aO E.T s.p) s with tm:=s.tm+1} ⟨2,[],0,0,0,ba (aO E.T s.p).text,a6⟩ (aO E.T s.p)else
  mz tm E (aO E.T s.p) {cS (aO E.T s.p) s with tm:=s.tm+1}:=rfl
 have an:=xp z hD L.tk hp;have ak:(aO E.T s.p).kind≠6->cS (aO E.T s.p) s={s with p:=s.p+1}/\s.p+1<E.T.length:=λW=>⟨aa W,M.T.nx hp W⟩;generalize aO E.T s.p=t at ht hk am q an ak;refine Am.aq (zH (jZ rfl z hD) 0 rfl rfl rfl an λw1 H1=>⟨_,_,_,rfl,H1.ax λB w2 F=>?_⟩);have F:O (·∈[X.rb]) w w2 [bz X (cS t s),.g B] D:=F;have bad:(t.kind=1\/t.kind=4\/t.kind=6)->∀e,O (·∈[X.rb]) w e [bz X (cS t s),.g B] D->Am.bC (ab X.rb) B t.kind (ba t.text) t.aT e (eB X l w (jd tm E s) kV):=λH e h=>
  gi h (qy _ t e) λw' f=>fC (q.trans (af H)) f
 have Q:¬(t.kind=1\/t.kind=4\/t.kind=6)->∀e,O (·∈[X.rb]) w e [bz X (cS t s),.g B] D->Am.a1 (ab X.rb) B t.kind (ba t.text) t.aT e (eB X l w (jd tm E s) kV):=λH e h=>by
  obtain⟨ha,aC⟩:=ak io;rw[aa H]at q;rw[ha]at h q;refine⟨(s.tm:Int),h.ld 0 10,aY (λW=>gi h (jE _ 4 t e) λw' f=>fC (q.trans (af io)) f) (λW=>⟨(s.tm:Int),h.ld 0 10,h.hS 0 10 rfl (λw4 j=>?_)⟩)⟩;rw[aa io]at q;rw[bp _ io]at j;have j:O (·∈[X.rb]) w w4 [bz X {s with p:=s.p+1,tm:=s.tm+1},.g B] D:=j;have Z:gx X l {s with p:=s.p+1,tm:=s.tm+1} D:=⟨C.d,C.x,C.v,C.n⟩;have fin:∀{x:PR Nat} {D':List En} {w':J} {f:bX} {args:Array V},jd tm E s=x->O (·∈[X.rb]) w w' [bz X {s with p:=s.p+1,tm:=s.tm+1},.g B] D'->En.gr X.g l∈D'->aj U f args w' (eB X l w' x kV)->mx [B] U f args (eB X l w (jd tm E s) kV) w' λr aG=>∃ag:Int,r=ad (.i ag)/\eB X l w (jd tm E s) kV (ad (.i ag)) aG:=λ{x D' w' f args} ac ao hg hc=>
   mV ao 0 rfl hg hc (λag s' g' l' v w5 ek hv Y H G=>by subst hv;exact⟨_,rfl,oz (ac.trans ek) rfl (G.get 0) (bf.1 (G.rd _ Y.d)) Y.x ⟨Y.v,Y.n⟩ H G.fr⟩) (λe' p w' er f=>fC (ac.trans er) f)
  refine aw (λy=>?_) (λy=>aw (λI=>?_) (λI=>aw (λS=>?_) (λS=>?_)))
  .exact fin (q.trans (af y)) j C.d (aao (t:=t) ap (j.get 0) (cQ j (i:=0) rfl rfl) L Z M (by show s.tm+1<=65536;omega))
  .rw [aa y]at q;exact fin (q.trans (af I)) j C.d (aaq (t:=t) (j.get 0) (cQ j (i:=0) rfl rfl) Z L.kc (am I))
  .rw [aa y,aa I]at q;have G:=j.ec (cv ⟨⟨2,[],0,0,0,ba t.text,a6⟩,⟨none,0,0⟩⟩) (Fr.refl _ _) (Rd.nil _) (λb H=>by cases H);exact fin (q.trans (af S)) G (bV _ C.d) (Av (t:=t) (d:=⟨⟨2,[],0,0,0,ba t.text,a6⟩,⟨none,0,0⟩⟩) (G.get 0) (cQ G (i:=0) rfl rfl) (Z.sub λac he=>bV _ he) (bV _ L.kc) (cK _ (b'.2 rfl)) ⟨gs,(⟨io,io⟩:cO 0),(⟨io,io⟩:cO 0),Int.le_refl _,λz=>by cases z⟩)
  .rw [aa y,aa I,aa S]at q;exact fin q j C.d (aal av hN aB ay hC hI ar (t:=t) (j.get 0) (cQ j (i:=0) rfl rfl) L Z M (bm _) aC (by show s.tm+1<=65536;omega))
 refine aw (λy=>aw (λ_=>F.ae λe h=>Q io e h) (λz=>absurd y z)) (λy=>?_);refine aw (λy=>aw (λ_=>F.ae λe h=>Q io e h) (λz=>absurd y z)) (λI=>?_);refine aw (λy=>aw (λ_=>F.ae λe h=>Q io e h) (λz=>absurd y z)) (λS=>?_);exact aw (λh0=>F.ae λe h=>Q io e h) (λh0=>F.ae λe h=>bad io e h)
end
def F6{N:Nat}(z:mn N)(y:N+1<=1000000){T:List aG}{w:List (List UInt8×(Sl×PM))}(B:∀t∈T,t.kind=5->∀C,hU t.text=.inr C->jv N (cG C.tp))(A:∀(tm:aJ->PR Nat) (wd:List UInt8) (s:aJ) (n:Nx) (h:aJ),iC T tm wd s=.ok n h->mq n):∀(f:Nat) (E:b3) (p0:Nat),E.T=T->min E.kn E.ms.length *(E.T.length+1)+(E.T.length - p0)+1<=f->iT E w (dO f E) p0
 |0,E,p0,_,x=>io
 |f+1,E,p0,j,x=>λX Z W s l Q M F O G Y P S=>by
  have H:∀(E':b3) (t:List UInt8) (q:Sl×PM),E'.T=E.T->E'.ms=E.ms->lk w t=some q->q.2.ix<E.kn->∀d,iT (hf E' q.2 d) w (dO f (hf E' q.2 d)) 0:=λE' t q D K e k d=>by refine F6 z y B A f (hf E' q.2 d) 0 (D.trans j) ?_;have I:=(G.ms (t,q.2) (by rw[F.ms];exact dN.2 ⟨_,ky e,rfl⟩)).1;have I:q.2.ix<E.ms.length:=I;show min q.2.ix E'.ms.length *(E'.T.length+1)+(E'.T.length - 0)+1<=f;rw[D,K,show min q.2.ix E.ms.length=q.2.ix by omega];have L:(q.2.ix+1) *(E.T.length+1)<=min E.kn E.ms.length *(E.T.length+1):=kR _ io;rw[Nat.succ_mul]at L;omega
  exact aav z y (by rw[j];exact B) (by rw[j];exact λwd s n h x=>A _ wd s n h x) (F6 z y B A f (gz E) (s.p+1) j (by show min E.kn E.ms.length *(E.T.length+1)+(E.T.length - (s.p+1))+1<=f;omega)) (λs n h _=>xU f (gz E) s n h (di _))
   (λt q e k d=>H E t q rfl rfl e k d) (λt q e k d=>H (gz E) t q rfl rfl e k d) Q M F O G P S
def ac5{w:J}{ms:List (List UInt8×Nat)}{b:Nat}{es:Array MapEntry}{c:Nat}(h:w.heap[b]? =some (.map es c))(j:eY es (ms.map iN))(t:List UInt8):oC U (Instr.lookup Hb (.map (some b)) (.string (ba t)) true) w=.ok (.tuple #[.i (((lk ms t).getD 0:Nat):Int),.bool (lk ms t).isSome]) w:=by have d:=wR uq h j (ba t);rw[show ms.map iN=ms.map λe=>(ba e.1,(λn:Nat=>Value.i (n:Int)) e.2)from rfl,nF λn:Nat=>Value.i (n:Int)]at d;rw[d];cases lk ms t<;>rfl
def Ml{w:J}{d:List (List UInt8×(Sl×PM))}{b:Nat}{es:Array MapEntry}{c:Nat}(j:w.heap[b]? =some (.map es c))(k:eY es (d.map qm))(t:List UInt8):oC U (Instr.lookup SY (.map (some b)) (.string (ba t)) true) w=.ok (.tuple #[.agg #[(mL d t).1.v,.i (((mL d t).2.b:Nat):Int),.i (((mL d t).2.ix:Nat):Int)],.bool (lk d t).isSome]) w:=by have e:=wR zF j k (ba t);rw[show d.map qm=d.map λh=>(ba h.1,oa h.2)from rfl,nF oa]at e;rw[e];unfold mL;cases lk d t<;>rfl
def xd(E:b3)(s:aJ):PR aG:=(bL E.T 2 s).b λt s=>if(lk E.vs t.text).isSome||(lk E.ms t.text).isSome then .er 8 t.aT else .ok t s
section
variable {E:b3} {Ms:List (List UInt8×(Sl×PM))} {X:RC}
def Qp{w:J}{D:List En}{s:aJ}(K:(bz X s).P w)(L:gV w X.rb D)(h:hH X E Ms D)(O:s.p<E.T.length):
  aj U zO #[.pointer (some (ab X.rb))] w (iq X w (xd E s) l9):=by
 obtain⟨es,c,M,Q⟩:=h.mv;obtain⟨ag,c2,C,F⟩:=h.mm;refine PK.aq ((jZ rfl K L).ax λb2 Z q=>eT q 0 rfl (ja (q.get 0) (cQ q (i:=0) rfl rfl) h.tk O) (λt W w2 I G=>⟨_,_,_,rfl,G.ax λb3 w3 H=>H.ae λw4 x=>?_⟩) (λac p Z er f=>kz (gh er) f));have j:xd E s=if(lk E.vs t.text).isSome||(lk E.ms t.text).isSome then .er 8 t.aT else .ok t W:=fG I
 have N:(lk E.ms t.text).isSome=(lk Ms t.text).isSome:=by rw[h.ms,zw (λS:Sl×PM=>S.2)];cases lk Ms t.text<;>rfl
 rw[N]at j;refine⟨_,x.ld 0 5,_,_,ac5 (x.rd _ M) Q t.text,x.ae λw5 y=>⟨_,y.ld 0 6,_,_,_,_,Ml (y.rd _ C) F t.text,y.ax λb6 w6 d=>⟨Ml (d.rd _ C) F t.text,d.ld 0 6,?_⟩⟩⟩;refine bq (λz=>d.ae λk e=>gi e (jE _ 8 t k) λY f=>kz (j.trans (af (by rw[z];rfl))) f) (λz=>?_);refine bq (λA=>d.ae λk e=>gi e (jE _ 8 t k) λY f=>kz (j.trans (af (by rw[A,Bool.or_true]))) f) (λA=>?_);exact d.ae λk e=>e.ae λw8 B=>wY (j.trans (aa (by rw[z,A];simp))) (B.get 0) B.fr
def SO(E:b3)(tm:aJ->PR Nat)(s:aJ):PR Nat:=(tm s).b λn d=>if(d.g[n]?).map (·.st)=some (aN 1)then .ok n d else .er 9 (aO E.T s.p).aT
def aaw{tm:aJ->PR Nat}{p0:Nat}(Z:iT E Ms tm p0)(hI:kX E tm p0){w:J}{D:List En}{s:aJ}{l:List Nd}(H:(bz X s).P w)(hD:gV w X.rb D)(N:hH X E Ms D)(I:gx X l s D)(O:eX E s.g)(M:p0<=s.p)(A:s.p<E.T.length)(W:s.tm<=65536):
  aj U E1 #[.pointer (some (ab X.rb))] w (eB X l w (SO E tm s) kV):=by
 have Q:=N.tk;have L:=(qH A).2;have e:SO E tm s=(tm s).b λn q=>if(q.g[n]?).map (·.st)=some (aN 1)then .ok n q else .er 9 (aO E.T s.p).aT:=rfl;generalize aO E.T s.p=t at L e;refine PN.aq ((jZ rfl H hD).dr λw1 y=>⟨X.tk,y.ld 0 0,_,y.ld 0 1,Bb (y.rd _ Q.t) rfl L λp ag c=>⟨t.kind,ba t.text,t.aT,c.c0,c.c1,c.c2,y.ax λb3 w2 z=>?_⟩⟩);have F:=G5 (z.rd _ Q.t) (X:=(s.p:Int)) rfl L ag;refine⟨F.c0,F.c1,F.c2,z.ld 0 1,z.ld 0 0,z.ae λw3 C=>?_⟩;refine mV (X:=X) C 0 rfl I.d (Z X w3 D s l (C.get 0) (cQ C (i:=0) rfl rfl) N I O M A W) (λk q Y B v w4 G hv j hb h=>?_) (λG p w' er f=>fC (e.trans (gh er)) f);subst hv;have e:=e.trans (fG G);obtain⟨g1,g2,g3⟩:=hI s k q M A W I.v O G;have S:=j.x;have ak:B.length=q.g.length:=by rw[<-S];simp[xs]
 have K:B[k]? =some (B[k]'io):=a0 io;generalize B[k]'io=nd at K;have ah:q.g[k]? =some nd.x:=by rw[<-S];exact m4 K
 rw[ah]at e;refine⟨_,rfl,Y,by rw[add_add];exact h.ld 0 2,eE (bf.1 (h.rd _ j.d)) (X:=(k:Int)) rfl K (λp A c=>⟨nd.x.st.k,nd.x.st.n,nd.x.st.x,c.s0,c.s1,c.s2,?_⟩)⟩;refine xG (a:=nd.x.st) (b:=aN 1) (λac=>gi h (jE _ 9 t w4) λw' f=>fC (e.trans (aa λH=>ac (by simpa using H))) f) (λhe=>?_);exact oz (e.trans (af (by rw[<-he];rfl))) rfl (h.get 0) (bf.1 (h.rd _ j.d)) j.x ⟨j.v,j.n⟩ hb h.fr
def aau{T:List aG}{w:J}{D:List En}{s:aJ}(G:(bz X s).P w)(N:gV w X.rb D)(H:oO X T D)(A:s.p<T.length):
  aj U E0 #[.pointer (some (ab X.rb))] w (iq X w (l7 T (T.length+1) 0 s) λ_=>.tuple #[]):=by
 have hl:=H.e.l;have loop:∀(f d:Nat) (s:aJ) (E:J) (x:PR Unit),s.p<T.length->T.length - s.p<f->d<=s.p->O (·∈[X.rb]) w E [bz X s] D->x=l7 T f d s->uL.a4 (ab X.rb) (d:Int) E (iq X w x λ_=>.tuple #[]):=by
  intro f;induction f with
  |zero=>intro d s E x A Y;omega
  |succ f ih=>
   intro d s E x A Y hd F h;have h:x=if(aO T s.p).kind=6 then j4 (aO T s.p)else if(aO T s.p).kind=1/\d=0 then j4 (aO T s.p)else
    if(if(aO T s.p).kind=0 then d+1 else if(aO T s.p).kind=1 then d - 1 else d)=0 then .ok () (cS (aO T s.p) s)else l7 T f (if(aO T s.p).kind=0 then d+1 else if(aO T s.p).kind=1 then d - 1 else d) (cS (aO T s.p) s):=h
   have L:=xp (F.get 0) (cQ F (i:=0) rfl rfl) H A;have K:(aO T s.p).kind≠6->cS (aO T s.p) s={s with p:=s.p+1}/\s.p+1<T.length:=λq=>⟨aa q,H.e.nx A q⟩;generalize aO T s.p=t at h L K;refine uL.bR (zH F 0 rfl rfl rfl L λw2 M=>⟨_,_,_,rfl,M.ax λI w3 y=>?_⟩);have y:O (·∈[X.rb]) w w3 [bz X (cS t s),.g I] D:=y;have go:∀(z:Nat) (k:J),t.kind≠6->O (·∈[X.rb]) w k [bz X (cS t s),.g I] D->z<=s.p+1->(x=if z=0 then .ok () (cS t s)else l7 T f z (cS t s))->uL.bh (ab X.rb) (z:Int) k (iq X w x λ_=>.tuple #[]):=λz k q j S h=>by obtain⟨Q,Z⟩:=K q;rw[Q]at j h;exact aw (λG=>wY (val:=λ_=>.tuple #[]) (h.trans (af io)) (j.get 0) j.fr) (λG=>ih z {s with p:=s.p+1} k x Z (by show T.length - (s.p+1)<f;omega) S (j.take 1) (h.trans (aa io)))
   refine aw (λB=>y.ae λk j=>?_) (λB=>aw (λC=>?_) (λC=>aw (λq=>y.ae λk j=>gi j (qy _ t k) λw' f=>kz (h.trans (af q)) f) (λq=>y.ae λk j=>?_)))
   .rw [aa io,aa io,af B]at h;rw[bp _ io];exact go (d+1) k io j io h
   .rw [aa io]at h;refine aw (λW=>y.ae λk j=>gi j (qy _ t k) λw' f=>kz (h.trans (af ⟨C,io⟩)) f) (λW=>y.ae λk j=>?_);rw[aa io,aa B,af C]at h;show uL.bh _ (aD .i64 ((d:Int) - 1)) _ _;rw[br _ io,show(d:Int) - 1=((d - 1:Nat):Int)by omega];exact go (d - 1) k io j io h
   .rw [aa q,aa io,aa B,aa C]at h;exact go d k q j io h
 exact uL.aq (loop (T.length+1) 0 s w _ A io (di _) (jZ rfl G N) rfl)
end
def ke{w:J}{b:Nat}{v:V}{T:aE}(d:(En.c b [v] T).P w):w.cell? (ab b)=some v:=by
 have:=cellAt (p:=ab b) (i:=0) (v:=v) d rfl gs
 rwa[jm]at this
def Mg:oM U acO fD acM (.bool false):=by constructor<;>kernel_rfl
def Wf:fQ U acW ma (.agg #[.string (a8 #[]),.int .i64 0,.int .i64 0,.int .i64 0]) 4 40:=⟨by kernel_rfl,by kernel_rfl,rfl,dl,dl⟩
def Wd:fQ U Bk jK (.agg #[.int .i64 0,.string (a8 #[]),.int .i64 0,.int .i64 0,.int .i64 0,.int .i64 0,.int .i64 0]) 7 64:=⟨by kernel_rfl,by kernel_rfl,rfl,dl,dl⟩
def X8{P:au}{T kt e ty:aE}{z:V}(x:oM P T kt e z){w:J}{d:Nat}{es:Array MapEntry}{clock:Nat}{ms:List (ByteArray×V)}(k:w.heap[d]? =some (.map es clock))(q:eY es ms):(Builtin.len_ #[T] ty #[.map (some d)]).run P w=.ok (.i (ms.length:Int)) w:=by
 have j:(getObj d).run P w=.ok (.map es clock) w:=by simp[getObj,oC,k]
 have h:es.size=ms.length:=by have:=congrArg List.length q;simpa using this
 simp[Builtin.len_,Sem.run_bind,run_underlying x.hT,j,h,goInt]
def Gw(q:List UInt8×aP):ByteArray×V:=(ba q.1,.bool true)
def Rs(ps:List (List UInt8×aP))(t:List UInt8):l6 (ps.map Gw) (ba t)=(lk ps t).map λ_=>Value.bool true:=by rw[show ps.map Gw=ps.map λd=>(ba d.1,(λ_:aP=>Value.bool true) d.2)from rfl,nF λ_:aP=>Value.bool true]
section
variable {X:RC} {T:List aG}
def yr(X:RC)(d:Nat)(ix:Int)(D:List En)(w:J)(x:PR (List (List UInt8×aP))):aB:=λr e=>match x with
 |.ok j k=>r=ad (.tuple #[])/\∃sl:Sl,O (·∈[X.rb,d]) w e [bz X k,.c d [sl.v,.i 0,.i ix] jf,.row ma 4 sl (e5 j)] D
 |.er h p=>r=.panicked (i1 h p)/\Fr (·∈[X.rb,d]) w e
def xg{d:Nat}{ix:Int}{D:List En}{w w':J}{x:PR (List (List UInt8×aP))}{e:Int}{p:Nat}(h:x=.er e p)(f:Fr (·∈[X.rb,d]) w w'):yr X d ix D w x (.panicked (i1 e p)) w':=by subst h;exact⟨rfl,f⟩
def aar{w:J}{D:List En}{s:aJ}{pb k:Nat}{ix:Int}(H:O (·∈[X.rb,k]) w w [bz X s,.c k [.slice none 0 0,.i 0,.i ix] jf] D)(C:En.c pb [.pointer (some (ab X.rb))] ya∈D)(q:oO X T D)(K:s.p<T.length):
  aj U EU #[.pointer (some (ab pb)),.pointer (some (ab k))] w (yr X k ix D w (ll T (T.length+1) [] s)):=by
 have hl:=q.e.l;have loop:∀(z f:Nat) (ps:List (List UInt8×aP)) (s:aJ) (E:J) (sl:Sl) (es:Array MapEntry) (c:Nat) (x:PR (List (List UInt8×aP))),s.p<T.length->T.length - s.p<f->ps.length<=s.p->eY es (ps.map Gw)->
   O (·∈[X.rb,k]) w E [bz X s,.c k [sl.v,.i 0,.i ix] jf,.row ma 4 sl (e5 ps),.ob z (.map es c)] D->x=ll T f ps s->
   Aj.a4 (ab pb) (ab k) (some z) E (yr X k ix D w x):=by
  intro z f;induction f with
  |zero=>intro ps s E sl es c x K hf;omega
  |succ f ih=>
   intro ps s E sl es c x K hf aR ap H d;have d:x=if(aO T s.p).kind=1 then .ok ps (cS (aO T s.p) s)else if(aO T s.p).kind≠0 then j4 (aO T s.p)else
    (bL T 2 (cS (aO T s.p) s)).b λp s=>if(lk ps p.text).isSome then .er 8 p.aT else(iE T s).b λF s=>(bL T 1 s).b λ_ s=>ll T f (ps++[(p.text,F)]) s:=d
   have an:=xp (H.get 0) (cQ H (i:=0) rfl rfl) q K;have ak:(aO T s.p).kind≠6->cS (aO T s.p) s={s with p:=s.p+1}/\s.p+1<T.length:=λh6=>⟨aa h6,q.e.nx K h6⟩;generalize aO T s.p=t at d an ak;refine Aj.bR ⟨_,ke (H.rd _ C),zH H 0 rfl rfl rfl an λw2 H2=>⟨_,_,_,rfl,H2.ax λb3 w3 G=>?_⟩⟩;have G:O (·∈[X.rb,k]) w w3 [bz X (cS t s),.c k [sl.v,.i 0,.i ix] jf,.row ma 4 sl (e5 ps),.ob z (.map es c),.g b3] D:=G;refine aw (λN=>G.ae λQ h=>?_) (λN=>cz (λZ=>G.ae λQ h=>⟨_,ke (h.rd _ C),gi h (qy _ t Q) λP f=>xg (d.trans (by rw[aa N,af Z];rfl)) f⟩) (λZ=>G.ae λQ h=>?_))
   .rw [af N]at d;subst d;exact⟨rfl,sl,h.take 3⟩
   obtain⟨ha,ao⟩:=ak io;rw[aa N,aa (by simpa using Z),ha]at d;rw[ha]at h;have h:=h.take 4;have h:O (·∈[X.rb,k]) w Q [bz X {s with p:=s.p+1},.c k [sl.v,.i 0,.i ix] jf,.row ma 4 sl (e5 ps),.ob z (.map es c)] D:=h;refine⟨_,ke (h.rd _ C),eT (bs:=[]) h 0 rfl (ja (h.get 0) (cQ h (i:=0) rfl rfl) q ao) (λp s2 w5 e2 H5=>⟨_,_,_,rfl,H5.ax λb4 w6 H6=>H6.ae λw7 y=>?_⟩) (λA p P er f=>xg (d.trans (gh er)) f)⟩;have d:=d.trans (fG e2);have ac:=ew q.e (by exact ao) dl e2;have am:=LQ Mg (y.ob 3) ap (ba p.text);rw[Rs]at am;refine⟨(lk ps p.text).isSome,by rw[am];cases lk ps p.text<;>rfl,bq (λL=>⟨_,ke (y.rd _ C),gi y (jE _ 8 p w7) λP f=>xg (d.trans (af L)) f⟩) (λL=>?_)⟩;rw[aa (by rw[L];simp)]at d;have aG:lk ps p.text=none:=by
    cases aC:lk ps p.text with
    |none=>rfl
    |some _=>rw[aC]at L;cases L
   obtain⟨w8,Y,u1,u2,u3,u4,_⟩:=vu Mg (y.ob 3) ap (ba p.text) (.bool true) (by rw[Rs,aG];rfl);have W:=y.gb 3 (.ob z (.map Y (c+1))) rfl (u4.mono λx _ A=>by simp[En.ob,A]) u2 (λb B=>.inl B);have W:O (·∈[X.rb,k]) w w8 [bz X s2,.c k [sl.v,.i 0,.i ix] jf,.row ma 4 sl (e5 ps),.ob z (.map Y (c+1)),.g b4] D:=W;refine⟨w8,u1,λb B=>u4.cD b ((En.g b).lt w7 (y.own (.g b) (by simp only[b']at B;subst B;simp)) b (by simp[En.g])) λA=>?_,W.ae λw9 I=>?_⟩
   .simp only[b']at B;subst B;exact jS y.nd (i:=4) (j:=3) rfl rfl dl b (by simp[En.g]) (by simp[En.ob,A])
   refine⟨sl,I.ld 1 0,_,ke (I.rd _ C),eT I 0 rfl (F5 (I.get 0) (cQ I (i:=0) rfl rfl) q ac.l) (λF s3 aM e3 ah=>⟨_,_,_,rfl,ah.ld 1 0,ah.uC λaN _ S aH=>?_⟩) (λA p P er f=>xg (d.trans (gh er)) f)⟩;have d:=d.trans (fG e3);have ag:=(u' q.e ac.l e3).1;have aS:sl.n=ps.length:=r7 (show aL aN ma 4 sl (e5 ps)from S.get 2).a2;have q2:=ac.p;have q2:s.p+1<s2.p:=q2;refine⟨S.ld 1 0,S.eD 2 Wf (s:=sl) (src:=⟨some (ab aM.heap.size),1,1⟩) (news:=xh (p.text,F)) rfl ⟨rfl,bm _,(vU (sz:=4) aH rfl).2.2⟩ (by simp[Value.oneCell']) (by show(sl.n+1) *40<=_;omega) (λaI aU av=>av.hS 1 0 rfl λaV M=>?_)⟩;refine⟨_,ke (M.rd _ C),eT M 0 rfl (ja (M.get 0) (cQ M (i:=0) rfl rfl) q ag.l) (λcl s4 aQ e4 ay=>⟨_,_,_,rfl,?_⟩) (λA p P er f=>xg (d.trans (gh er)) f)⟩;have d:=d.trans (fG e4);have ar:=ew q.e ag.l dl e4;have q3:=ag.p;have q4:=ar.p;refine ih (ps++[(p.text,F)]) s4 aQ aI Y (c+1) x ar.l io (by rw[bb];simp;omega) ?_ ?_ d
   .rw [fh];exact u3
   .have az:=ay.take 4;have aB:e5 (ps++[(p.text,F)])=e5 ps++xh (p.text,F):=by unfold e5;rw[dL];simp
    rw[aB];exact az
 refine Aj.aq (lh (H.hP ma 4) λE H1=>?_);exact loop w.heap.size (T.length+1) [] s E ⟨none,0,0⟩ #[] 0 _ K io (di _) rfl H1 rfl
end
section
variable {M:Nat->Prop} {w0 w w':J} {L1 BR R D D':List En}
def zr(H:O M w0 w (L1++R) D):O (·∈L1.flatMap (·.fp)) w w L1 D:=by refine O.pD _ _ (λd e=>⟨H.own d (bV _ e),λb h=>cl.2 ⟨d,e,h⟩⟩) ?_ (λd e=>⟨H.rd d e,λb h j k=>H.dj d e b h j (bV _ k)⟩);have:=H.nd;rw[dL,eI]at this;exact this.1
def zt(H:O M w0 w (L1++R) D)(k:O (·∈L1.flatMap (·.fp)) w w' BR (D++D'))(P:∀y∈D',∀b∈y.fp,w.heap.size<=b\/∃g∈D,b∈g.fp):O M w0 w' (BR++R) (D++D'):=by
 have C:=H.nd;rw[dL,eI]at C;have F:∀e∈R,∀b∈e.fp,b∉L1.flatMap (·.fp):=λe d b h q=>C.2.2 b q b (cl.2 ⟨e,d,h⟩) rfl;have I:∀e∈R,∀b∈e.fp,b<w.heap.size:=λe d b h=>e.lt w (H.own e (cK _ d)) b h;have T:Fr M w0 w':=H.fr.trans k.fr λz K q=>by obtain⟨e,d,h⟩:=cl.1 q;exact(H.new e (bV _ d) z h).resolve_left io
 refine⟨T,λe d=>?_,k.rd,λe d b h=>?_,?_,λy x b h e d q=>?_⟩
 .rcases aK.1 d with d|d
  .exact k.own e d
  .exact e.st w w' (λb h G=>k.fr.cD b G (F e d b h)) (H.own e (cK _ d))
 .rcases aK.1 d with d|d
  .rcases k.new e d b h with j|j
   .exact .inl (bD H.fr.size j)
   .obtain ⟨A,S,B⟩:=cl.1 j;exact H.new A (bV _ S) b B
  .exact H.new e (cK _ d) b h
 .rw [dL,eI];refine⟨k.nd,C.2.1,λz K Z Y e=>?_⟩;subst e;obtain⟨L,N,Q⟩:=cl.1 K;obtain⟨A,E,B⟩:=cl.1 Y;rcases k.new L N z Q with j|j
  .have:=I A E z B;omega
  .exact F A E z B j
 .rcases aK.1 d with d|d
  .exact k.dj y x b h e d q
  .have G:=I e d b q;rcases aK.1 x with x|x
   .exact H.dj y x b h e (cK _ d) q
   .rcases P y x b h with j|⟨g,W,j⟩
    .omega
    .exact H.dj g W b j e (cK _ d) q
def AH{e:En}{rb:Nat}(H:O M w0 w (e::L1) D)(x:e.fp=[rb]):gV w rb (L1++D):=λh d=>by
 rcases aK.1 d with d|d
 .refine ⟨H.own h (cJ _ d),λq k j=>?_⟩;have:=H.nd;rw[List.flatMap_cons,eI]at this;exact this.2.2 rb (by rw[x];simp) q (cl.2 ⟨h,d,k⟩) j.symm
 .exact ⟨H.rd h d,λq k j=>H.dj h d q k e gq (by rw[x,j];simp)⟩
end
def oS(c:fE):List V:=[.i c.k,.string (ba c.nm),.i c.st.k,.i c.st.n,.i c.st.x,.i c.nd,.i c.n]
def de(l:List fE):List V:=l.flatMap oS
def CL(l:List fE):(de l).length=l.length *7:=o1 oS 7 (λ_=>rfl) l
structure ml where
 X:RC
 Ms:List (List UInt8×(Sl×PM))
 l:List Nd
 e1:Array MapEntry
 c1:Nat
 e2:Array MapEntry
 c2:Nat
abbrev cy(d:ml)(x:bY):List En:=[bz d.X x.s,.ob d.X.mv (.map d.e1 d.c1),.ob d.X.mm (.map d.e2 d.c2),.row jK 7 d.X.cs (de x.cs)]
structure hc(T:List aG)(Y:ml)(x:bY)(D:List En):Prop where
 tk:oO Y.X T D
 mo:∃es c,En.ob Y.X.mo (.map es c)∈D/\eY es r4
 kc:dt∈D
 gr:gx Y.X Y.l x.s D
 pr:∀q∈Y.Ms,En.a2 4 q.2.1 (e5 q.2.2.ps)∈D
 ms:x.ms=Y.Ms.map λq=>(q.1,q.2.2)
 sv:eY Y.e1 (x.vs.map iN)
 sm:eY Y.e2 (Y.Ms.map qm)
 pm:Y.X.pm=none
 kn:Y.X.kn=9223372036854775807
 dp:Y.X.dp=0
 ok:eX (iZ T x) x.s.g
 p:x.s.p<T.length
 tm:x.s.tm<=65536
 mc:x.ms.length<=x.s.p
 cc:x.cs.length<=x.s.p
section
variable {T:List aG} {Y:ml} {x:bY} {D D':List En}
def hc.en(d:hc T Y x D)(j:∀q∈D,q∈D')(w:En.ob Y.X.mv (.map Y.e1 Y.c1)∈D')(y:En.ob Y.X.mm (.map Y.e2 Y.c2)∈D'):hH Y.X (iZ T x) Y.Ms D':=by
 obtain⟨h,c,m,k⟩:=d.mo;refine⟨⟨j _ d.tk.t,d.tk.e⟩,⟨h,c,j _ m,k⟩,⟨_,_,w,d.sv⟩,⟨_,_,y,d.sm⟩,d.ms,λk z=>j _ (d.pr k z),?_,d.kn,d.dp,j _ d.kc⟩;show match Y.X.pm with
  |none=>([]:List (List UInt8×Nat))=[]
  |some b=>∃h c,En.ob b (.map h c)∈D'/\eY h ((([]:List (List UInt8×Nat))).map iN)
 rw[d.pm]
def hc.mv(e:hc T Y x D){h:aJ}(m:Mv T x.s h):hc T Y {x with s:=h} D:=by
 have q:=m.p;have j:=e.mc;have k:=e.cc;exact⟨e.tk,e.mo,e.kc,⟨e.gr.d,e.gr.x.trans m.g.symm,m.g▸e.gr.v,by rw[m.g];exact e.gr.n⟩,e.pr,e.ms,e.sv,e.sm,e.pm,e.kn,e.dp,by
  have:=e.ok;exact⟨this.T,by rw[m.g];exact this.vs,by rw[m.g];exact this.pm,this.ms⟩,m.l,by show h.tm<=65536;rw[m.t];exact e.tm,by show x.ms.length<=h.p;omega,by show x.cs.length<=h.p;omega⟩
def hc.grow(d:hc T Y x D){h:aJ}(m:jN T x.s h){w:Sl}{y:List Nd}(B:gx {Y.X with g:=w} y h D')(k:∀z∈D,z∈D'):hc T {Y with X:={Y.X with g:=w},l:=y} {x with s:=h} D':=by have H:=m.p;have F:=d.mc;have G:=d.cc;obtain⟨A,c,E,q⟩:=d.mo;have j:=d.ok.up m.len;exact⟨⟨k _ d.tk.t,d.tk.e⟩,⟨A,c,k _ E,q⟩,k _ d.kc,B,λq C=>k _ (d.pr q C),d.ms,d.sv,d.sm,d.pm,d.kn,d.dp,⟨j.T,j.vs,j.pm,j.ms⟩,m.l,m.t.2,by show x.ms.length<=h.p;omega,by show x.cs.length<=h.p;omega⟩
def kH{α:Type}{q:PR α}{y:bY}{f:α->bY->SR}{e:Int}{p:Nat}(d:q=.er e p):q.s y f=.er e p:=by subst d;rfl
def jF{α:Type}{q:PR α}{y:bY}{f:α->bY->SR}{a:α}{s:aJ}(d:q=.ok a s):q.s y f=f a {y with s:=s}:=by subst d;rfl
def iQ(T:List aG)(Y:ml)(x:bY)(D:List En)(w:J)(q:SR):aB:=λr e=>match q with
 |.ok h=>r=ad (.tuple #[])/\∃d D',d.X.rb=Y.X.rb/\O (·∈(cy Y x).flatMap (·.fp)) w e (cy d h) (D++D')/\hc T d h (D++D')/\(∀j∈D',∀b∈j.fp,w.heap.size<=b\/∃g∈D,b∈g.fp)
 |.er k p=>r=.panicked (i1 k p)/\Fr (·∈(cy Y x).flatMap (·.fp)) w e
def u3{w w':J}{q:SR}{y:bY}{Y':ml}{D':List En}(e:q=.ok y)(h:Y'.X.rb=Y.X.rb)(j:O (·∈(cy Y x).flatMap (·.fp)) w w' (cy Y' y) (D++D'))(k:hc T Y' y (D++D'))(z:∀d∈D',∀b∈d.fp,w.heap.size<=b\/∃g∈D,b∈g.fp):iQ T Y x D w q (ad (.tuple #[])) w':=by subst e;exact⟨rfl,Y',D',h,j,k,z⟩
def hB{w w':J}{q:SR}{e:Int}{p:Nat}(d:q=.er e p)(f:Fr (·∈(cy Y x).flatMap (·.fp)) w w'):iQ T Y x D w q (.panicked (i1 e p)) w':=by subst d;exact⟨rfl,f⟩
def Gu{M:Nat->Prop}{w0 w:J}{R:List En}{bs:List Nat}(H:O M w0 w (cy Y x++R) D){q:SR}{P:au}{f:bX}{args:Array V}{A K:aB}(Q:O (·∈(cy Y x).flatMap (·.fp)) w w (cy Y x) D->aj P f args w (iQ T Y x D w q))(aa:∀j e D' w',q=.ok j->e.X.rb=Y.X.rb->O M w0 w' (cy e j++R) (D++D')->hc T e j (D++D')->(∀y∈D',∀b∈y.fp,w0.heap.size<=b\/∃g∈D,b∈g.fp)->K (ad (.tuple #[])) w')(Z:∀k p w',q=.er k p->Fr M w0 w'->A (.panicked (i1 k p)) w')(E:∀b∈bs,En.g b∈R:=by simp):mx bs P f args A w K:=by
 have F:=H.nd;rw[dL,eI]at F;refine(Q (zr H)).mono λr w' d=>?_;unfold iQ at d;have kp:∀{w':J},Fr (·∈(cy Y x).flatMap (·.fp)) w w'->kept bs w w':=λf b h=>f.cD b ((En.g b).lt w (H.own (.g b) (cK _ (E b h))) b (by simp[En.g])) λz=>F.2.2 b z b (cl.2 ⟨.g b,E b h,by simp[En.g]⟩) rfl;split at d
 .rename_i j;obtain⟨rfl,e,D',I,B,L,C⟩:=d;exact .inr ⟨⟨_,rfl⟩,kp B.fr,aa j e D' w' rfl I (zt H B C) L λy S b h=>(C y S b h).imp (λd=>bD H.fr.size d) id⟩
 .rename_i k p;obtain⟨rfl,f⟩:=d;refine .inl ⟨_,rfl,Z k p w' rfl (H.fr.trans f λb h z=>?_)⟩;obtain⟨G,W,N⟩:=cl.1 z;exact(H.new G (bV _ W) b N).resolve_left io
def T0{s e:aJ}{n:Nx}{t:aG}{k:Nat}(d:eC s n t=.ok k e):e.p=s.p:=by
 unfold eC at d;split at d
 .cases d;rfl
 .cases d
def z3{E:b3}{s h:aJ}{t:aG}(j:xd E s=.ok t h):bL E.T 2 s=.ok t h/\lk E.vs t.text=none/\lk E.ms t.text=none:=by
 obtain⟨w,q,k,d⟩:=cU j;split at d
 .cases d
 .rename_i e;cases d;simp only[Bool.or_eq_true,not_or,ij,Option.isSome_eq_false_iff,Option.isNone_iff_eq_none]at e;exact⟨k,e.1,e.2⟩
def Ti(vs:List (List UInt8×Nat))(t:List UInt8):l6 (vs.map iN) (ba t)=(lk vs t).map λn:Nat=>Value.i (n:Int):=by rw[show vs.map iN=vs.map λd=>(ba d.1,(λn:Nat=>Value.i (n:Int)) d.2)from rfl,nF λn:Nat=>Value.i (n:Int)]
def Jf{M:Nat->Prop}{w0 w:J}{R:List En}{bs:List Nat}(H:O M w0 w (cy Y x++R) D)(h:hc T Y x D)(c:fE)(P:x.cs.length+1<=x.s.p)(Z:x.cs.length<=100000){K:J->Prop}(E:∀b∈bs,En.g b∈R)(Q:∀B F,B.X.rb=Y.X.rb->O M w0 F (cy B {x with cs:=x.cs++[c]}++R) D->hc T B {x with cs:=x.cs++[c]} D->K F):
  ∃t:Sl,w.cell? ((ab Y.X.rb).add 3)=some t.v/\c9 w (.cells #[.i c.k,.string (ba c.nm),.i c.st.k,.i c.st.n,.i c.st.x,.i c.nd,.i c.n] jK) λq=>q.cell? ((ab Y.X.rb).add 3)=some t.v/\
   ∃(t2:Sl) (j:J),oC U (Builtin.append_ #[Bk,Bk] Bk #[t.v,.slice (some (nb w)) 1 1]) q=.ok t2.v j/\kept bs q j/\aM j ((ab Y.X.rb).add 3) t2.v λy=>kept bs j y/\K y:=by
 have N:∀b∈bs,En.g b∈cy Y x++R:=λb C=>cK _ (E b C);refine⟨Y.X.cs,H.ld 0 3,H.uC λq _ z S=>?_⟩;have W:Y.X.cs.n=x.cs.length:=by have L:=(show aL q jK 7 Y.X.cs (de x.cs)from z.get 3).len;rw[CL]at L;omega
 refine⟨z.ld 0 3,z.eD 3 Wd (s:=Y.X.cs) (src:=⟨some (ab w.heap.size),1,1⟩) (news:=oS c) rfl ⟨rfl,bm _,(vU (sz:=7) S rfl).2.2⟩ (by simp[oS,Value.oneCell']) (by show(Y.X.cs.n+1) *64<=_;omega) (λt2 j A=>?_) N⟩;have A:O M w0 j ([bz Y.X x.s,.ob Y.X.mv (.map Y.e1 Y.c1),.ob Y.X.mm (.map Y.e2 Y.c2),.row jK 7 t2 (de x.cs++oS c)]++R) D:=A;refine A.hS 0 3 rfl (λy G=>?_) gs (λb C=>cK _ (E b C));refine Q {Y with X:={Y.X with cs:=t2}} y rfl ?_ ?_
 .have I:de (x.cs++[c])=de x.cs++oS c:=by unfold de;rw[dL];simp
  show O M w0 y ([_,_,_,.row jK 7 t2 (de (x.cs++[c]))]++R) D;rw[I];exact G
 .exact ⟨⟨h.tk.t,h.tk.e⟩,h.mo,h.kc,⟨h.gr.d,h.gr.x,h.gr.v,h.gr.n⟩,h.pr,h.ms,h.sv,h.sm,h.pm,h.kn,h.dp,⟨h.ok.T,h.ok.vs,h.ok.pm,h.ok.ms⟩,h.p,h.tm,h.mc,by show(x.cs++[c]).length<=x.s.p;rw[bb];exact P⟩
end
def Hf{M:Nat->Prop}{w0 w w':J}{L D:List En}{bs:List Nat}(H:O M w0 w L D)(i:Nat){b:Nat}{o:Obj}(hi:L[i]? =some (.ob b o))(f:Fr (λd=>d=b) w w')(j:∀d∈bs,En.g d∈L.eraseIdx i:=by simp):kept bs w w':=λd k=>by have h:=j d k;refine f.cD d ((En.g d).lt w (H.own (.g d) (uo h)) d (by simp[En.g])) λe=>?_;exact wA (f:=λe:En=>e.fp) hi H.nd b (by simp[En.ob]) (.g d) h (by simp[En.g,e])
def abV{M:Nat->Prop}{w0 w:J}{L D:List En}{bs:List Nat}(H:O M w0 w L D)(i:Nat){b:Nat}{vs:List V}{T:aE}{v:V}{K:J->Prop}(hi:L[i]? =some (.c b vs T))(h:∀d,O M w0 d (L.set i (.c b (vs.set 0 v) T)) D->K d)(k:0<vs.length:=by simp)(j:∀b∈bs,En.g b∈L:=by simp):
  aM w (ab b) v λe=>kept bs w e/\K e:=by
 have:=H.hS (v:=v) (K:=K) i 0 hi h k j
 rwa[jm]at this
def nz{M:Nat->Prop}{w0 w:J}{L j D:List En}(H:O M w0 w L D)(h:L.Perm j):O M w0 w j D:=
 ⟨H.fr,λd e=>H.own d (h.mem_iff.2 e),H.rd,λd e=>H.new d (h.mem_iff.2 e),(List.Perm.nodup_iff (List.Perm.flatMap_right _ h)).1 H.nd,λk x b q d e=>H.dj k x b q d (h.mem_iff.2 e)⟩
section
variable {T:List aG} {Y:ml} {x:bY} {D:List En}
def aam(h:hc T Y x D){w:J}(H:O (·∈(cy Y x).flatMap (·.fp)) w w (cy Y x) D)(ap:x.cs.length<=100000)(t:aG):aj U ES #[.pointer (some (ab Y.X.rb)),l9 t] w (iQ T Y x D w (qb T t x)):=by
 have L:=h.ok.T;have j:qb T t x=(xd (iZ T x) x.s).s x λu x=>(iE T x.s).s x λq x=>(bL T 1 x.s).s x λ_ x=>(eC x.s ⟨0,[],0,0,0,ba u.text,q⟩ t).s x λn x=>
  .ok {x with vs:=x.vs++[(u.text,n)],cs:=x.cs++[⟨0,u.text,q,n,0⟩]}:=rfl
 refine PB.aq (H.ax λb3 w1 P=>eT P 0 rfl (Qp (P.get 0) (AH P rfl) (h.en (λy E=>cK _ E) gs gs) h.p) (λu s1 w2 ag Q=>⟨_,_,_,rfl,?_⟩) (λy p w' er f=>hB (j.trans (kH er)) f));have j:=j.trans (jF ag);obtain⟨n1,n2,n3⟩:=z3 ag;have M:=ew L h.p dl n1;refine eT Q 0 rfl (F5 (Q.get 0) (cQ Q (i:=0) rfl rfl) h.tk M.l) (λq s2 w3 I H3=>⟨_,_,_,rfl,H3.ax λb5 w4 H4=>H4.ae λw5 S=>eT S 0 rfl (ja (S.get 0) (cQ S (i:=0) rfl rfl) h.tk (u' L M.l I).1.l) (λcl s3 w6 e3 H6=>⟨_,_,_,rfl,?_⟩) (λy p w' er f=>hB ((j.trans (jF I)).trans (kH er)) f)⟩) (λy p w' er f=>hB (j.trans (kH er)) f);have j:=(j.trans (jF I)).trans (jF e3);have m2:=(u' L M.l I).1;have m3:=ew L m2.l dl e3;have hm:=M.tr (m2.tr m3);have B:=h.mv hm;have W:=H6.ec (cv ⟨⟨0,[],0,0,0,ba u.text,q⟩,⟨none,0,0⟩⟩) (Fr.refl _ _) (Rd.nil _) (λb C=>by cases C);have up:∀y∈D,y∈D++[cv ⟨⟨0,[],0,0,0,ba u.text,q⟩,⟨none,0,0⟩⟩]:=λy E=>bV _ E;refine mV (X:=Y.X) W 0 rfl (up _ h.gr.d) (Av (t:=t) (d:=⟨⟨0,[],0,0,0,ba u.text,q⟩,⟨none,0,0⟩⟩) (W.get 0) (cQ W (i:=0) rfl rfl) (B.gr.sub up) (up _ h.kc) (cK _ (b'.2 rfl)) ⟨gs,(⟨io,io⟩:cO 0),(⟨io,io⟩:cO 0),Int.le_refl _,λaa=>by cases aa⟩) (λk N z A v w8 Z hv hG C G=>?_) (λy p w' er f=>hB (j.trans (kH er)) f);subst hv;have j:=j.trans (jF Z);obtain⟨q1,q2⟩:=vO B.gr.v B.p B.tm Z;have q3:N.p=s3.p:=T0 Z;refine⟨_,rfl,_,G.ld 0 5,?_⟩;obtain⟨w9,K,u1,u2,ar,u4,_⟩:=vu uq (G.ob 1) h.sv (ba u.text) (.i (k:Int)) (by rw[Ti];have n2:lk x.vs u.text=none:=n2;rw[n2];rfl);have H9:=G.gb 1 (.ob Y.X.mv (.map K (Y.c1+1))) rfl (u4.mono λx _ y=>by simp[En.ob,y]) u2 (λb C=>.inl C);refine⟨w9,u1,Hf G 1 rfl u4,H9.ae λav af=>?_⟩;have eD:D++[cv ⟨⟨0,[],0,0,0,ba u.text,q⟩,⟨none,0,0⟩⟩]++[En.gr z A]=D++[cv ⟨⟨0,[],0,0,0,ba u.text,q⟩,⟨none,0,0⟩⟩,En.gr z A]:=gs
 rw[eD]at af hG;have e:=B.grow q1 hG (λy E=>bV _ E);have ao:hc T {Y with X:={Y.X with g:=z},l:=A,e1:=K,c1:=Y.c1+1} {x with s:=N,vs:=x.vs++[(u.text,k)]} (D++[cv ⟨⟨0,[],0,0,0,ba u.text,q⟩,⟨none,0,0⟩⟩,En.gr z A]):=by
  refine⟨e.tk,e.mo,e.kc,e.gr,e.pr,e.ms,?_,e.sm,e.pm,e.kn,e.dp,⟨e.ok.T,λah F=>?_,e.ok.pm,e.ok.ms⟩,e.p,e.tm,e.mc,e.cc⟩
  .show eY K ((x.vs++[(u.text,k)]).map iN);rw[fh];exact ar
  .rcases aK.1 (show ah∈x.vs++[(u.text,k)]from F)with F|F
   .exact e.ok.vs ah F
   .rw [b'.1 F];exact q2
 have ak:O (·∈(cy Y x).flatMap (·.fp)) w av (cy {Y with X:={Y.X with g:=z},l:=A,e1:=K,c1:=Y.c1+1} {x with s:=N,vs:=x.vs++[(u.text,k)]}++[.g b3,.g b5]) (D++[cv ⟨⟨0,[],0,0,0,ba u.text,q⟩,⟨none,0,0⟩⟩,En.gr z A]):=af;refine Jf ak ao ⟨0,u.text,q,k,0⟩ ?_ ap gs λY' ay hy am an=>?_
 .have h1:=hm.p;have h2:=h.cc;show x.cs.length+1<=N.p;omega
 .refine u3 j hy (am.take 4) an λaw hd b ac=>?_;rcases aF.1 hd with rfl|hd
  .cases ac
  .rw [b'.1 hd]at ac;exact(C b ac).elim (λaa=>.inr ⟨_,h.gr.d,aa⟩) .inl
def FR(k:jl T):∀(f:Nat) (ps h:List (List UInt8×aP)) (s j:aJ),s.p<T.length->(ps.map (·.1)).Nodup->ps.length<=s.p->ll T f ps s=.ok h j->Mv T s j/\(h.map (·.1)).Nodup/\h.length<=j.p
 |0,ps,h,s,j,_,_,_,d=>by cases d
 |f+1,ps,h,s,j,x,e,W,d=>by
  have d:(if(aO T s.p).kind=1 then PR.ok ps (cS (aO T s.p) s)else if(aO T s.p).kind≠0 then j4 (aO T s.p)else
    (bL T 2 (cS (aO T s.p) s)).b λp s=>if(lk ps p.text).isSome then .er 8 p.aT else(iE T s).b λw s=>(bL T 1 s).b λ_ s=>ll T f (ps++[(p.text,w)]) s)=.ok h j:=d
  split at d
  .rename_i I;cases d;have m:=tc k x io;have:=m.p;exact⟨m,e,io⟩
  split at d
  .cases d
  .rename_i I H;have m:=tc k x (by simp at H;omega);obtain⟨p,Y,E,d⟩:=cU d;have y:=ew k m.l dl E;split at d
   .cases d
   .rename_i N;obtain⟨w,Z,F,d⟩:=cU d;obtain⟨S,s3,G,d⟩:=cU d;have z:=(u' k y.l F).1;have A:=ew k z.l dl G;have B:=m.tr (y.tr (z.tr A));have C:=B.p;obtain⟨a,b,c⟩:=FR k f (ps++[(p.text,w)]) h s3 j A.l (by
     rw[fh,eI];refine⟨e,gs,λaa O Q q=>?_⟩;have q:Q=p.text:=by simpa using q
     subst q;rintro rfl;have:lk ps p.text=none:=by simpa using N
     obtain⟨C,M,D⟩:=dN.1 O;have L:∀{l:List (List UInt8×aP)},C∈l->lk l p.text≠none:=λ{l}=>by
      induction l with
      |nil=>intro d;cases d
      |cons a l P=>
       intro d e;unfold lk at e;split at e
       .cases e
       .rename_i K;rcases aF.1 d with rfl|d
        .exact K D
        .exact P d e
     exact L M this) (by rw[bb];simp;omega) d
    exact⟨B.tr a,b,c⟩
def GB(j:jl T):∀(f d:Nat) (s h:aJ),s.p<T.length->l7 T f d s=.ok () h->Mv T s h
 |0,d,s,h,_,e=>by cases e
 |f+1,d,s,h,q,e=>by
  have e:(if(aO T s.p).kind=6 then j4 (aO T s.p)else if(aO T s.p).kind=1/\d=0 then j4 (aO T s.p)else
    if(if(aO T s.p).kind=0 then d+1 else if(aO T s.p).kind=1 then d - 1 else d)=0 then PR.ok () (cS (aO T s.p) s)else l7 T f (if(aO T s.p).kind=0 then d+1 else if(aO T s.p).kind=1 then d - 1 else d) (cS (aO T s.p) s))=.ok () h:=e
  split at e
  .cases e
  rename_i k;have m:=tc j q k;split at e
  .cases e
  generalize(if(aO T s.p).kind=0 then d+1 else if(aO T s.p).kind=1 then d - 1 else d)=d' at e;split at e
  .cases e;exact m
  .exact m.tr (GB j f _ _ h m.l e)
def YQ(d:List (List UInt8×(Sl×PM)))(t:List UInt8):l6 (d.map qm) (ba t)=(lk d t).map oa:=by rw[show d.map qm=d.map λe=>(ba e.1,oa e.2)from rfl,nF oa]
end
end Go.Proofs.YtjakeaplbkhjmaaGreatDoor
end
