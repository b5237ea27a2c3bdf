import Derived.Test.YtkbmpalepmakmabGreatDoorU
set_option linter.unusedVariables false
set_option linter.defProp false
set_option maxRecDepth 100000
noncomputable section
namespace Go.Proofs.YtkbmpalepmakmabGreatDoor
open Go renaming World->I,Calls->ai,Program->au,Value->V,TypeId->aE,Ending->cW
open Go.IntKind renaming wrap->aB
open _root_.Int renaming toNat->a0,toNat_natCast->bR
open Go.IntWalk renaming i64_in->bo
open _root_.Bool renaming and_eq_true->bd,not_eq_true->iF
open _root_.Nat renaming le_refl->bw,le_trans->bB,beq->bI,mul_le_mul_right->lx,beq_eq->eJ
open _root_.Prod.mk renaming injEq->fy
open _root_.Option.some renaming inj->ed,injEq->fA
open _root_.Array renaming replicate->gq
open Go.Proofs.Tryz renaming prog->U
open _root_.Decidable renaming decide->ak
open Go.Ending renaming returned->ad
open List renaming mem_append->aP,mem_cons->aF,not_mem_nil->aZ,mem_of_getElem?->aD,getElem?_eq_getElem->aY,getElem?_eq_some_iff->cL,mem_append_right->da,mem_flatMap->ck,mem_map->dA,length_take->jW,flatMap_append->dK,flatMap_cons->dz,mem_cons_of_mem->cP,mem_cons_self->hJ,take_append_drop->GO,drop_eq_getElem_cons->dw,take_add_one->fJ,map_append->ey,map_cons->lU,drop_drop->lT,getElem?_set_self->mD,drop_of_length_le->dy,take_of_length_le->fV
open Go Go.W
def Tl{w:I}{g:Nat}{cur:Array V}{t:aE}(d:w.heap[g]? =some (.cells cur t (0,0)))(vs:Array V):w.setRow g vs=w.putObj g (.cells vs t (0,0)):=by
 unfold World.setRow World.putObj;congr 1
 grind
def IG(g k:Nat):(⟨g,0,none⟩:Addr).add k=⟨g,k,none⟩:=by
 unfold Addr.add
 grind
def Kn{P:au}{t ty e:aE}{z:V}{sz bytes:Nat}(q:fO P t e z sz bytes)(h1:∀u∈z.cells.toList,u.oneCell'=true)(af:z.cells.size=sz){w:I}{s:Sl}{vs:List V}(G:aK w e sz s vs)(l:Nat)(D:l<=s.n):
  ∃w',(Builtin.clear_ #[t] ty #[.slice (if s.c=l then s.a else s.a.map (·.add (l *sz))) (s.n - l) (s.c - l)]).run P w=.ok (.tuple #[]) w'/\
   aK w' e sz ⟨if s.c=0 then s.a else s.a.map (·.add (0 *sz)),l - 0,s.c - 0⟩ (vs.take (l *sz))/\Fr (·∈aG s) w w':=by
 have hlen:=G.len;obtain⟨L,d,h⟩:=s;simp only at D hlen;have ab:∀x:Option Addr,(if h=0 then x else x.map (·.add (0 *sz)))=x:=λx=>by
  split
  .rfl
  .cases x with
   |none=>rfl
   |some p=>rw[Nat.zero_mul,Option.map_some,jD]
 rw[ab,Nat.sub_zero,Nat.sub_zero];have F:∀(w':I) (g:Nat) (k:Array V),L=some ⟨g,0,none⟩->d<=h->h<=maxLen->w'.heap[g]? =some (.cells k e (0,0))->k.size=h *sz->k.toList.take (l *sz)=vs.take (l *sz)->aK w' e sz ⟨L,l,h⟩ (vs.take (l *sz)):=by intro w' g k A ap S j K ac;subst A;have M:l *sz<=d *sz:=lx _ D;refine⟨by grind,.inr ⟨g,h,k,rfl,Nat.zero_le _,j,by grind,S,K,ac⟩⟩
 rcases G.cases with⟨hs,rfl⟩|⟨g,cur,A,j,y,C,H,O⟩
 .cases hs;have:l=0:=io
  subst this;refine⟨w,?_,?_,Fr.refl _ _⟩
  .simp [Builtin.clear_,run_underlying q.ht]
  grind
 .simp only at A y C H O;subst A;have M:l *sz<=d *sz:=lx _ D;have e2:d *sz<=h *sz:=lx _ y;have ae:cur.toList.take (l *sz)=vs.take (l *sz):=by grind
  by_cases Z:d - l=0
  .refine ⟨w,?_,F w g cur rfl y C j H ae,Fr.refl _ _⟩;rw[Z];by_cases B:h=l
   .simp [Builtin.clear_,run_underlying q.ht,B]
   .simp [Builtin.clear_,run_underlying q.ht,B]
  .have B:h≠l:=io
   obtain⟨inf,W,hz,K,aj⟩:=info_parts q.hi;have ag:(zeroValue e).run P w=.ok z w:=by simp[zeroValue,typeInfo,W,hz]
   have ao:(Builtin.zeroCells z.cells (d - l)).toList.length=(d - l) *sz:=by simp[Builtin.zeroCells,af]
   have aa:∀v∈(Builtin.zeroCells z.cells (d - l)).toList,v.oneCell'=true:=by
    intro v E;unfold Builtin.zeroCells at E;rw[Array.toList_map,dA]at E;obtain⟨ah,hj,rfl⟩:=E;by_cases N:0<z.cells.size
    .have an:ah%z.cells.size<z.cells.size:=Nat.mod_lt _ N
     grind
    grind
   have am:(d - l) *sz=d *sz - l *sz:=Nat.sub_mul _ _ _;have T:l *sz+0+(Builtin.zeroCells z.cells (d - l)).toList.length<=cur.size:=io
   have J:=run_storeCells_at (P:=P) g (l *sz) e (Builtin.zeroCells z.cells (d - l)).toList 0 cur w j T aa;refine⟨_,?_,F _ g (cur.toList.take (l *sz+0)++(Builtin.zeroCells z.cells (d - l)).toList++cur.toList.drop (l *sz+0+(Builtin.zeroCells z.cells (d - l)).toList.length)).toArray rfl y C (setRow_heap w g cur _ e _ j) ?_ ?_,?_⟩
   .obtain ⟨m,Y⟩:∃m,d - l=m+1:=⟨d - l - 1,io⟩;have Q:(⟨g,0,none⟩:Addr).add (l *sz)=⟨g,l *sz,none⟩:=IG g (l *sz);rw[Y]at J ⊢;simp[Builtin.clear_,run_underlying q.ht,B,Q,ag,J]
   .grind
   .grind
   .rw [Tl j];exact(Fr.put w g _).mono λaq _ e=>by simp[aG,e]
def Vc:∀u∈(Value.agg #[.int .i64 0,.int .u8 0,.int .u8 0,.slice none 0 0]).cells.toList,u.oneCell'=true:=by intro u d;simp only[Value.cells,aF,aZ,a7]at d;rcases d with rfl|rfl|rfl|rfl<;>rfl
def YK{l:List J}{k:Nat}{t:J}(q:k<l.length):((((l.flatMap J.c).set (k *4+0) (.int .i64 t.k)).set (k *4+1) (.int .u8 (t.lo.toNat:Int))).set (k *4+2) (.int .u8 (t.hi.toNat:Int))).set (k *4+3) t.s.v=(l.set k t).flatMap J.c:=by
 induction l generalizing k with
 |nil=>grind
 |cons a l j=>
  cases k with
  |zero=>simp[J.c]
  |succ k=>
   have h:k<l.length:=by grind
   have d:∀e,(k+1) *4+e=(k *4+e)+4:=λe=>io
   rw[d 0,d 1,d 2,d 3,dz,List.set_cons_succ,dz,<-j h];simp[J.c]
section
variable {M:Nat->Prop} {w0 w:I} {L D:List En} {bs:List Nat}
def _root_.Go.W.O.TW(H:O M w0 w L D)(i k:Nat){s:Sl}{ts:List J}{t:J}{p:Addr}{K:I->Prop}(hi:L[i]? =some (.row aS 4 s (ts.flatMap J.c)))(z:s.a=some p)(hk:k<ts.length)(hK:∀w',O M w0 w' (L.set i (.row aS 4 s ((ts.set k t).flatMap J.c))) D->K w')(A:∀b∈bs,En.g b∈L:=by simp):
  aN w (p.add (k *4)) (.int .i64 t.k) λd=>kept bs w d/\aN d ((p.add (k *4)).add 1) (.int .u8 (t.lo.toNat:Int)) λh=>kept bs d h/\aN h ((p.add (k *4)).add 2) (.int .u8 (t.hi.toNat:Int)) λj=>kept bs h j/\aN j ((p.add (k *4)).add 3) t.s.v λx=>kept bs j x/\K x:=by
 have hlen:(ts.flatMap J.c).length=ts.length *4:=J.hB ts;have B:=(cL.1 hi).1;have F:∀{e:En} {b:Nat},(∀(d:I) (y:Nat),¬e.P ({d with heap:=gq (y+1) (.map #[] 0)}:I))->En.g b∈L->En.g b∈L.set i e:=by
  intro e b ac q;obtain⟨Z,T⟩:=List.mem_iff_getElem?.1 q;by_cases aa:i=Z
  .subst aa;rw[hi]at T;exfalso;have e1:En.row aS 4 s (ts.flatMap J.c)=En.g b:=ed T;have S:(En.g b).P ({w with heap:=gq (b+1) (.map #[] 0)}):=by show b<_;simp
   rw[<-e1]at S;by_cases Y:aG s=[]
   .have:s.a=none:=by unfold aG at Y;grind
    grind
   .obtain ⟨ab,E⟩:=List.exists_mem_of_ne_nil _ Y;obtain⟨cs,f,hc⟩:=(aK.row (show aK ({w with heap:=gq (b+1) (.map #[] 0)}) aS 4 s _ from S)).tL ab E
    grind
  .refine aD (i:=Z) ?_
   grind
 have C:∀(vs:List V) (d:I) (y:Nat),¬(En.row aS 4 s vs).P ({d with heap:=gq (y+1) (.map #[] 0)}:I):=by
  intro vs d y h0;have E:p.block∈aG s:=by simp[aG,z]
  obtain⟨cs,f,hc⟩:=(aK.row (show aK ({d with heap:=gq (y+1) (.map #[] 0)}) aS 4 s vs from h0)).tL _ E
  grind
 have Q:=H.v' (bs:=bs) i (k *4) 0 (v:=.int .i64 t.k) (p:=p) (K:=λd=>aN d ((p.add (k *4)).add 1) (.int .u8 (t.lo.toNat:Int)) λh=>kept bs d h/\aN h ((p.add (k *4)).add 2) (.int .u8 (t.hi.toNat:Int)) λj=>kept bs h j/\aN j ((p.add (k *4)).add 3) t.s.v λx=>kept bs j x/\K x) hi z io (λd H1=>?_) A
 .rw [jD]at Q;exact Q
 refine H1.v' (bs:=bs) i (k *4) 1 (by rw[mD B]) z (by grind) (λh G=>?_) (λb q=>F (C _) (A b q));rw[List.set_set]at G;refine G.v' (bs:=bs) i (k *4) 2 (by rw[mD B]) z (by grind) (λj N=>?_) (λb q=>F (C _) (A b q));rw[List.set_set]at N;refine N.v' (bs:=bs) i (k *4) 3 (by rw[mD B]) z (by grind) (λx H4=>?_) (λb q=>F (C _) (A b q));rw[List.set_set,YK hk]at H4
 grind
def _root_.Go.W.O.ad4(H:O M w0 w L D)(i k:Nat){s:Sl}{ts:List J}{t:J}{p:Addr}{K:I->Prop}(hi:L[i]? =some (.row aS 4 s (ts.flatMap J.c)))(j:s.a=some p)(h:k<ts.length)(e:∀d,O M w0 d (L.set i (.row aS 4 s ((ts.set k t).flatMap J.c))) D->K d):
  aN w (p.add (k *4)) (.int .i64 t.k) λq=>aN q ((p.add (k *4)).add 1) (.int .u8 (t.lo.toNat:Int)) λx=>aN x ((p.add (k *4)).add 2) (.int .u8 (t.hi.toNat:Int)) λy=>aN y ((p.add (k *4)).add 3) t.s.v K:=by
 have z:=H.TW (bs:=[]) (K:=K) i k hi j h e gs
 grind
end
def Gy{w:I}{s:Sl}{l:List J}(d:aK w aS 4 s (l.flatMap J.c)){i:Nat}{t:J}(hi:l[i]? =some t){K:Addr->Prop}(e:∀p,s.a=some p->J.ik w p i t->K p):dJ s.a K:=J.a6 d.a3 hi e
section
variable {M:Nat->Prop} {w0 w:I} {L D:List En}
def _root_.Go.W.O.el(H:O M w0 w L D)(i k:Nat){s:Sl}{ts:List J}{t:J}{X:Int}{K:Int->Int->Int->Sl->Prop}(q:X=(k:Int))(e:ts[k]? =some t)(j:K t.k t.lo.toNat t.hi.toNat t.s)(hi:L[i]? =some (.row aS 4 s (ts.flatMap J.c)):=by rfl):
  oh s X λp=>∃a b c:Int,∃d:Sl,w.cell? ((p.add (a0 X *4)).add 0)=some (.i a)/\w.cell? ((p.add (a0 X *4)).add 1)=some (.int .u8 b)/\w.cell? ((p.add (a0 X *4)).add 2)=some (.int .u8 c)/\w.cell? ((p.add (a0 X *4)).add 3)=some d.v/\K a b c d:=by subst q;have h:aK w aS 4 s (ts.flatMap J.c):=H.get i hi;have y:=J.cz h.a3;have x:=(cL.1 e).1;exact⟨io,io,Gy h e λp z c=>⟨_,_,_,_,c.c0,c.c1,c.c2,c.c3,j⟩⟩
def _root_.Go.W.O.D5(H:O M w0 w L D)(i k:Nat){s:Sl}{ts:List J}{t:J}{X:Int}{K:I->Prop}(q:X=(k:Int))(d:k<ts.length)(j:∀h,O M w0 h (L.set i (.row aS 4 s ((ts.set k t).flatMap J.c))) D->K h)(hi:L[i]? =some (.row aS 4 s (ts.flatMap J.c)):=by rfl):
  oh s X λp=>aN w (p.add (a0 X *4)) (.i t.k) λz=>aN z ((p.add (a0 X *4)).add 1) (.int .u8 (t.lo.toNat:Int)) λA=>aN A ((p.add (a0 X *4)).add 2) (.int .u8 (t.hi.toNat:Int)) λB=>aN B ((p.add (a0 X *4)).add 3) t.s.v K:=by subst q;have e:aK w aS 4 s (ts.flatMap J.c):=H.get i hi;have C:=J.cz e.a3;have x:ts[k]? =some ts[k]:=aY d;exact⟨io,io,Gy e x λp y c=>H.ad4 i k hi y d j⟩
end
def EI{j:Nat}(d:1<=j)(e:j<=1000000000):aB .i64 ((j:Int) - 1)=((j - 1:Nat):Int):=by rw[bo _ io];omega
abbrev dX(b:Nat)(u:J):En:=.c b u.c aS
def MT{w:I}{k u:J}{b:Nat}(h:k.P w)(j:u.P w)(e:w.heap[b]? =some (.cells u.c.toArray aS (0,0))):O F0 w w [] [.tree k,.tree u,dX b u]:=bM _ (by
 intro q d;simp only[aF,aZ,a7]at d;rcases d with rfl|rfl|rfl
 .exact h
 .exact j
 .exact e)
def JA(k u:J)(b:Nat)(w:I)(h:k.sz<=1000000)(q:k.P w)(x:u.P w)(j:w.heap[b]? =some (.cells u.c.toArray aS (0,0))):ai U vk #[k.v,.pointer (some (aa b))] w λr y=>r=ad (.bool (bj k.rx u.rx==0))/\af w y:=by refine R5.aq ((MT q x j).ax λA z d=>⟨_,_,_,u.s,d.dZ 2 0,d.dZ 2 1,d.dZ 2 2,d.dZ 2 3,d.av (wS k u z h (d.getD 0) (d.getD 1)) ?_⟩);rintro _ B rfl e;exact⟨_,rfl,rfl,e.fr⟩
def WW(k u:J)(b:Nat)(w:I)(h:k.sz<=1000000)(q:k.P w)(x:u.P w)(j:w.heap[b]? =some (.cells u.c.toArray aS (0,0))):ai U FT #[k.v,.pointer (some (aa b))] w λr y=>r=ad (.bool (bj k.rx u.rx==0))/\af w y:=by refine R9.aq ((MT q x j).ax λA z d=>⟨_,_,_,u.s,d.dZ 2 0,d.dZ 2 1,d.dZ 2 2,d.dZ 2 3,d.av (wS k u z h (d.getD 0) (d.getD 1)) ?_⟩);rintro _ B rfl e;exact⟨_,rfl,rfl,e.fr⟩
def WV(k:J)(w:I)(j:k.P w):ai U x9 #[k.v] w λr q=>r=ad k.v/\af w q:=by refine R7.aq ((gT j).ax λx z d=>d.ax λy A e=>e.ae λB h=>⟨rfl,h.fr⟩)
def m7(q:J->Bool):List J->Nat->Int
 |[],_=>-1
 |a::l,i=>if q a then(i:Int)else m7 q l (i+1)
def LU(q:J->Bool):∀(l:List J) (i:Nat),ak (m7 q l i>=0)=l.any q
 |[],i=>rfl
 |a::l,i=>by
  unfold m7;rw[List.any_cons];cases d:q a with
  |true=>simp
  |false=>simpa using LU q l (i+1)
def Jk(s:Sl)(l:List J)(f:Fv)(q:J->Bool)(D:List En)(w:I)(M:l.length<=1000000)(B:bh 4 w s (l.flatMap J.c))(L:∀A∈D,A.P w)(E:hy U f.n=true)(F:∀h t,t∈l->O F0 w h [] (J.row s l::D)->ai U f.n (f.bs++#[t.v]++f.cs) h λr K=>r=ad (.bool (q t))/\af h K):
  ai U Pf #[s.v,f.v] w λr h=>r=ad (.int .i64 (m7 q l 0))/\af w h:=by
 have S:=J.cz B;have loop:∀(d i:Nat) (y:I),i+d=l.length->m7 q (l.drop i) i=m7 q l 0->O F0 w y [] (J.row s l::D)->yH.L0 s f (s.n:Int) (i:Int) y λr h=>r=ad (.int .i64 (m7 q l 0))/\af w h:=by
  intro d;induction d with
  |zero=>
   intro i y G e j;rw[dy io]at e;exact yH.b' (aQ (a2 io) ⟨by rw[<-e];rfl,j.fr⟩)
  |succ d Q=>
   intro i y G e j;have z:l[i]? =some (l[i]'io):=aY io;rw[dw (by omega:i<l.length)]at e;generalize l[i]'io=x at z e;refine yH.b' (aR (a5 io) ⟨io,io,J.a6 (j.getD 0) z λp N c=>⟨x.k,x.lo.toNat,x.hi.toNat,x.s,c.c0,c.c1,c.c2,c.c3,?_⟩⟩);rw[E];refine(show cM true _ from ?_);refine j.call (F y x (aD z) j) ?_;rintro _ T rfl C;have e:(if q x then(i:Int)else m7 q (l.drop (i+1)) (i+1))=m7 q l 0:=e;refine⟨_,rfl,bn (λH=>⟨?_,C.fr⟩) (λH=>?_)⟩
   .grind
   .rw [ab (by grind)]at e;rw[bm _ io]
    grind
 refine yH.ok (loop l.length 0 w io gs (bM _ (λA e=>?_)));rcases aF.1 e with rfl|e
 .exact B
 grind
def Ws(s:Sl)(l:List J)(f:Fv)(q:J->Bool)(D:List En)(w:I)(y:l.length<=1000000)(z:bh 4 w s (l.flatMap J.c))(j:∀e∈D,e.P w)(k:hy U f.n=true)(x:∀d t,t∈l->O F0 w d [] (J.row s l::D)->ai U f.n (f.bs++#[t.v]++f.cs) d λr A=>r=ad (.bool (q t))/\af d A):
  ai U Pc #[s.v,f.v] w λr d=>r=ad (.bool (l.any q))/\af w d:=by refine Ty.ok ((Jk s l f q D w y z j k x).mono ?_);rintro _ B ⟨rfl,h⟩;refine⟨_,rfl,?_,h⟩;rw[LU]
def LV(q:J->Bool):∀(l:List J) (k:Nat),(m7 q l k=-1/\∀t∈l,q t=false)\/∃m a,l[m]? =some a/\q a=true/\m7 q l k=((k+m:Nat):Int)/\∀t∈l.take m,q t=false
 |[],k=>.inl ⟨rfl,gs⟩
 |a::l,k=>by
  unfold m7;cases x:q a with
  |true=>grind
  |false=>
   rcases LV q l (k+1)with⟨e,d⟩|⟨m,h,e,d,j,w⟩
   .grind
   .refine .inr ⟨m+1,h,by grind,d,?_,?_⟩
    .grind
    grind
section
variable {M:Nat->Prop} {w0 w:I} {L D:List En} {bs:List Nat}
def _root_.Go.W.O.DB(H:O M w0 w L D)(i:Nat){P:au}{g:FuncId}{args:Array V}{A K:aC}{e:aE}{sz:Nat}{s:Sl}{xs:List V}(hi:L[i]? =some (.row e sz s xs))(x:ai P g args w λr d=>A r d/\Fr (·∈aG s) w d)(B:∀r d,A r d->(∀h:En,h.P d->(∀b∈h.fp,b∈aG s\/w.heap.size<=b)->O M w0 d (L.set i h) D)->K r d)(q:∀b∈bs,En.g b∈L:=by simp):fF bs P g args w K:=
 ⟨(·∈aG s),λb k=>H.Ad hi (q b k),x.mono λr d ⟨j,f⟩=>⟨f,B r d j λh y z=>H.fx i h hi f y z⟩⟩
def _root_.Go.W.O.off(H:O M w0 w L D)(i j:Nat){e:aE}{sz:Nat}{s:Sl}{xs:List V}{d:En}(hi:L[i]? =some (.row e sz s xs):=by rfl)(q:D[j]? =some d:=by rfl):∀h∈aG s,h∉d.fp:=λh x k=>
 H.dj d (aD q) h k _ (aD hi) x
end
def wH(s:Sl)(l:List J)(r:cW)(w w':I):Prop:=∃d:Sl,r=ad d.v/\aK w' aS 4 d (l.flatMap J.c)/\∀e∈aG d,e∈aG s
def Fa{w:I}{s:Sl}{l:List J}(D:List En)(q:aK w aS 4 s (l.flatMap J.c))(j:∀d∈D,d.P w/\∀y∈aG s,y∉d.fp):O (·∈aG s) w w [.row aS 4 s (l.flatMap J.c)] D:=
 O.o6 _ _ (by
  intro d e;simp only[aF,aZ,a7]at e;subst e;exact⟨q,λb h=>h⟩) (by
  simp only[dz,List.flatMap_nil,List.append_nil];exact(En.row aS 4 s (l.flatMap J.c)).nd) (λd e=>⟨(j d e).1,λb h z k=>by simp only[aF,aZ,a7]at k;subst k;exact λx=>(j d e).2 b x h⟩)
def Uc{α:Type}{l:List α}{i:Nat}{a:α}(d:i<l.length):(l.set i a).take (i+1)=l.take i++[a]:=by rw[fJ,mD d,List.take_set_of_le (bw _)];rfl
def Wu(s:Sl)(l:List J)(u:J)(b:Nat)(w:I)(hl:J.a4 l<=1000000)(K:aK w aS 4 s (l.flatMap J.c))(pl:J.Ps w l)(pu:u.P w)(hb:w.heap[b]? =some (.cells u.c.toArray aS (0,0)))(hd:∀h∈aG s,h∉J.bc l/\h∉u.fp/\h≠b):
  ai U Pd #[s.v,.func (.func vk) #[] #[.pointer (some (aa b))]] w λr x=>wH s (l.filter λt=>!(bj t.rx u.rx==0)) r w x/\Fr (·∈aG s) w x:=by
 have nr:=J.cz K.a3;have ll:=J.gn l;have kt:∀t∈l,t.sz<=1000000:=λt z=>bB (J.eP z) hl;have L:O (·∈aG s) w w [.row aS 4 s (l.flatMap J.c)] [.trees l,.tree u,dX b u]:=Fa _ K (by
  intro ab T;simp only[aF,aZ,a7]at T;rcases T with rfl|rfl|rfl
  .exact ⟨pl,λh e A=>(hd h e).1 (aW.1 A)⟩
  .exact ⟨pu,λh e A=>(hd h e).2.1 (aW.1 A)⟩
  .exact ⟨hb,λh e A=>(hd h e).2.2 (by simpa[dX,En.c,En.ob]using A)⟩)
 have loop:∀(d i j:Nat) (cur:List J) (B:I),j+d=l.length->i<j->cur.length=l.length->cur.drop j=l.drop j->cur.take i=(l.take j).filter (λt=>!(bj t.rx u.rx==0))->O (·∈aG s) w B [.row aS 4 s (cur.flatMap J.c)] [.trees l,.tree u,dX b u]->
   tv.a1 s (aa b) (i:Int) (j:Int) B λr x=>wH s (l.filter λt=>!(bj t.rx u.rx==0)) r w x/\Fr (·∈aG s) w x:=by
  intro d;induction d with
  |zero=>
   intro i j cur B hj ag S E W q;refine tv.bS (aQ (a2 io) ⟨io,io,?_⟩);have am:=(q.get 0:aK _ _ _ _ _).cap;obtain⟨Z,C,N,G⟩:=Kn (ty:=oa) sy Vc rfl (q.get 0) i io;refine⟨Z,C,io,io,⟨⟨if s.c=0 then s.a else s.a.map (·.add (0 *4)),i - 0,s.c - 0⟩,rfl,?_,λh e=>?_⟩,q.fr.trans G λh _ ac=>ac⟩
   .have ab:(cur.flatMap J.c).take (i *4)=(l.filter λt=>!(bj t.rx u.rx==0)).flatMap J.c:=by
     have e1:(cur.flatMap J.c).take (i *4)=(cur.take i).flatMap J.c:=by
      have:=J.hB (cur.take i);conv=>lhs;rw[<-GO i cur,dK]
      grind
     grind
    grind
   .simp only[aG]at e ⊢;split at e
    .rename_i p y;split at y
     .omega
     .cases aj:s.a with
      |none=>grind
      |some ao=>
       rw[aj]at y;simp only[Option.map_some,fA]at y;subst y;rw[kG]at e;exact e
    grind
  |succ d Y=>
   intro i j cur B hj ag S E W q;have H:l[j]? =some (l[j]'io):=aY io;generalize an:l[j]'io=a at H;have af:cur[j]? =some a:=by
    have:(cur.drop j)[0]? =(l.drop j)[0]?:=by rw[E]
    grind
   have Q:=aD H;have ah:l.take (j+1)=l.take j++[a]:=by rw[fJ,H];rfl
   refine tv.bS (aR (a5 io) ⟨io,io,Gy (q.get 0) af λp y c=>⟨a.k,a.lo.toNat,a.hi.toNat,a.s,c.c0,c.c1,c.c2,c.c3,?_⟩⟩);refine q.ax (λb7 Z H2=>H2.ae λw3 D=>?_);refine D.av (JA a u b w3 (kt a Q) ((show J.Ps w3 l from D.getD 0).mem Q) (D.getD 1) (D.getD 2)) ?_;rintro _ w4 rfl M;refine⟨_,rfl,eU (λhf=>⟨io,io,?_⟩) (λz=>?_)⟩
   .rw [y];refine(show dJ (some p) _ from ?_);refine M.TW 0 i (t:=a) (ts:=cur) rfl y io (λw5 H5=>?_);show tv.a1 _ _ _ _ _ _;rw[bm _ io,bm _ io];refine Y (i+1) (j+1) (cur.set i a) w5 io io (by grind) ?_ ?_ (H5.take 1)
    .rw [List.drop_set_of_lt io,<-lT,E,lT]
    .rw [Uc io,W,ah,List.filter_append]
     grind
   .show tv.a1 _ _ _ _ _ _;rw[bm _ io];refine Y i (j+1) cur w4 io io S ?_ ?_ (M.take 1)
    .rw [<-lT,E,lT]
    grind
 refine tv.aq ?_;have hI:=Jk s l ⟨vk,#[],#[.pointer (some (aa b))]⟩ (λt=>bj t.rx u.rx==0) [.trees l,.tree u,dX b u] w io K.a3 (L.rd) (by kernel_rfl) (λx t z F=>JA t u b x (kt t z) ((show J.Ps x l from F.getD 1).mem z) (F.getD 2) (F.getD 3));refine L.call hI ?_;rintro _ B rfl q;rcases LV (λt=>bj t.rx u.rx==0) l 0 with⟨C,N⟩|⟨m,a,C,N,G,h4⟩
 .refine ⟨_,rfl,aR (by grind) ⟨⟨s,rfl,?_,λh e=>e⟩,q.fr⟩⟩;rw[List.filter_eq_self.2 (λt z=>by grind)];exact q.get 0
 .have A:m<l.length:=(cL.1 C).1;refine⟨_,rfl,aQ (by grind) ?_⟩;rw[G,Nat.zero_add,bm _ io];refine loop (l.length - (m+1)) m (m+1) l B io io rfl rfl ?_ q;rw[fJ,C,List.filter_append,List.filter_eq_self.2 (λt z=>by grind)]
  grind
def fb(x k:J):List J:=if k.k=x.k then k.l else[k]
def EY(u t:J):Bool:=!(bj t.rx u.rx==0)
def gO(x u:J):List J:=(x.l.flatMap (fb x)).filter (EY u)
structure Sub(x:J)(l:List J):Prop where
 P:∀w:I,x.P w->∀t∈l,t.P w
 fp:∀t∈l,∀b∈t.fp,b∈x.fp
def Sub.part{x t:J}(e:t∈x.l):Sub x [t]:=⟨λq j k d=>by
  simp at d;subst d;exact j.parts.2.mem e,λk d b h=>by simp at d;subst d;exact J.gP.2 (.inr (J.bX.2 ⟨_,e,h⟩))⟩
def Sub.open{x k:J}(d:k∈x.l):Sub x (fb x k):=by
 unfold fb;split
 .exact ⟨λq j t e=>((j.parts.2.mem d).parts.2).mem e,λt e b h=>J.gP.2 (.inr (J.bX.2 ⟨k,d,J.gP.2 (.inr (J.bX.2 ⟨t,e,h⟩))⟩))⟩
 .exact .part d
def Sub.flat{x:J}{l:List J}(j:∀e∈l,e∈x.l):Sub x (l.flatMap (fb x)):=⟨λq k t d=>by
  obtain⟨e,h,d⟩:=ck.1 d;exact(Sub.open (j e h)).P q k t d,λt d=>by obtain⟨e,h,d⟩:=ck.1 d;exact(Sub.open (j e h)).fp t d⟩
def Sub.sub{x:J}{l m:List J}(e:Sub x l)(h:∀t∈m,t∈l):Sub x m:=⟨λk j t d=>e.P k j t (h t d),λt d=>e.fp t (h t d)⟩
def Sub.Ps{x:J}{l:List J}(d:Sub x l){w:I}(e:x.P w):J.Ps w l:=J.jV (d.P w e)
def Sub.bc{x:J}{l:List J}(e:Sub x l){b:Nat}(d:b∈J.bc l):b∈x.fp:=by obtain⟨t,h,d⟩:=J.bX.1 d;exact e.fp t h b d
def Sub.gO(x u:J):Sub x (gO x u):=(Sub.flat (λ_ d=>d)).sub λ_ d=>(List.mem_filter.1 d).1
def wc(x:J):∀l:List J,J.a4 (l.flatMap (fb x))<=J.a4 l
 |[]=>bw _
 |d::l=>by
  have e:J.a4 (fb x d)<=d.sz:=by
   unfold fb;split
   .rw [J.iW d];omega
   .simp [J.a4]
  rw[dz,wb];have:=wc x l;show _<=d.sz+J.a4 l;omega
def T3(q:J->Bool):∀l:List J,J.a4 (l.filter q)<=J.a4 l
 |[]=>bw _
 |d::l=>by
  have:=T3 q l;rw[List.filter_cons];split
  .unfold J.a4;omega
  .show _<=d.sz+J.a4 l;omega
def aec(x u:J):J.a4 (gO x u)+1<=x.sz:=by have d:=T3 (EY u) (x.l.flatMap (fb x));have e:=wc x x.l;rw[J.iW x];unfold gO;omega
def CO(w:I)(l:List J)(r:cW)(w':I):Prop:=∃d:Sl,r=ad d.v/\aK w' aS 4 d (l.flatMap J.c)/\∀e∈aG d,w.heap.size<=e
def WT(x u:J)(w:I)(an:x.sz<=1000000)(px:x.P w)(pu:u.P w):ai U OY #[x.v,u.v] w λr w'=>CO w (gO x u) r w'/\af w w':=by
 have hs:=J.iW x;have hl:=J.gn x.l;have nr:=J.cz px.parts.1;have loop:∀(d i:Nat) (acc:List J) (sl:Sl) (q B:Nat) (z:I),i+d=x.l.length->acc=(x.l.take i).flatMap (fb x)->O F0 w z [.g q,.c B u.c aS,.row aS 4 sl (acc.flatMap J.c)] [.tree x,.tree u]->
   tj.a1 q x.k x.lo.toNat x.hi.toNat x.s (aa B) sl x.s (x.s.n:Int) (i:Int) z λr w'=>CO w (gO x u) r w'/\af w w':=by
  intro d;induction d with
  |zero=>
   intro i acc sl q B z ac C e;have W:Sub x acc:=by rw[C];exact Sub.flat λav D=>List.mem_of_mem_take D
   have aj:J.a4 acc<=J.a4 x.l:=by rw[C,fV io];exact wc x x.l
   refine tj.bS (aQ (a2 io) ?_);refine e.DB 2 rfl (Wu sl acc u B z io (e.get 2) (W.Ps (e.getD 0)) (e.getD 1) (e.ob 1) (λT M=>⟨λy=>e.off 2 0 rfl rfl T M (aW.2 (W.bc y)),λy=>e.off 2 1 rfl rfl T M (aW.2 y),λy=>?_⟩)) ?_
   .exact j' e.nd (i:=2) rfl (j:=1) rfl io T M (by simp[En.c,En.ob,y])
   rintro _ N ⟨h,rfl,L,hb⟩ hH;have A:=hH (.row aS 4 h ((acc.filter (EY u)).flatMap J.c)) L λb K=>.inl (hb b K);refine⟨h,rfl,⟨h,rfl,?_,λb K=>(A.new _ (aD (i:=2) rfl) b K).resolve_right id⟩,A.fr⟩;rw[C,fV io]at L;exact L
  |succ d ar=>
   intro i acc sl q B z ac C e;have G:x.l[i]? =some (x.l[i]'io):=aY io;generalize x.l[i]'io=a at G;have y:=aD G;have am:x.P z:=e.getD 0;have az:=J.eP y;have aj:J.a4 acc<=J.a4 x.l:=by
    have h1:=wc x (x.l.take i);have h2:=BX x.l i
    grind
   have ao:acc++fb x a=(x.l.take (i+1)).flatMap (fb x):=by rw[fJ,G,dK,C];simp
   have ay:=J.cz (e.get 2:aK _ _ _ _ _).a3;have ah:=J.gn acc;have tail:∀(h:Sl) (w':I),O F0 w w' [.g q,.c B u.c aS,.row aS 4 h ((acc++fb x a).flatMap J.c)] [.tree x,.tree u]->tj.bg q x.k x.lo.toNat x.hi.toNat x.s (aa B) h x.s (x.s.n:Int) (i:Int) w' λr w'=>CO w (gO x u) r w'/\af w w':=by
    intro h w' H';show tj.a1 _ _ _ _ _ _ _ _ _ _ _ _;rw[bm _ io]
    grind
   refine tj.bS (aR (a5 io) ⟨io,io,J.a6 am.parts.1 G λp hp c=>⟨_,_,_,_,c.c0,c.c1,c.c2,c.c3,?_⟩⟩);refine e.ax λb7 N A=>aw (λD=>A.ae λQ E=>?_) (λD=>A.ae λQ E=>?_)
   .have Z:a.P Q:=(show x.P Q from E.getD 0).parts.2.mem y;have na:=J.cz Z.parts.1;have ah:=J.gn a.l;have ap:=J.iW a;refine E.eL 2 sy (xs:=acc.flatMap J.c) (src:=a.s) (news:=a.l.flatMap J.c) rfl Z.parts.1 (ux _) io (λh S H=>?_);refine tail h S ?_;have F:fb x a=a.l:=ag D;rw[F,dK];exact H.take 3
   .refine E.jE 2 sy (xs:=acc.flatMap J.c) rfl (λh S H=>?_) io;refine tail h S ?_;have F:fb x a=[a]:=ab D;rw[F,nS];exact H.take 3
 refine tj.aq ((bM [.tree x,.tree u] (by
  intro F Y;simp only[aF,aZ,a7]at Y;rcases Y with rfl|rfl
  .exact px
  .exact pu)).ax λq z H1=>H1.nw λN _ A=>?_)
 exact loop x.l.length 0 [] ⟨none,0,0⟩ q z.heap.size N io rfl (A.h8 aS 4)
def DM(a b:Int):cE b a=-cE a b:=by
 have s:∀a b:Int,(cE a b=-1/\a<b)\/(cE a b=1/\b<a)\/(cE a b=0/\a=b):=λa b=>by
  unfold cE;split
  .exact .inl ⟨rfl,io⟩
  .split
   .exact .inr (.inl ⟨rfl,io⟩)
   .exact .inr (.inr ⟨rfl,io⟩)
 rcases s a b with d|d|d<;>rcases s b a with e|e|e<;>omega
def Gw(c d:Int)(l m:List Int)(e:d=-c)(h:ew m=-ew l):ew (d::m)=-ew (c::l):=by
 show(if d≠0 then d else ew m)=-(if c≠0 then c else ew l);split
 .rw [ag io];exact e
 .rw [ab io];exact h
def yh(c:Int):ew [c]=c:=by show(if c≠0 then c else 0)=c;split<;>omega
def uB(k:Int)(lo hi:UInt8)(l:List Rx)(b:Rx):bj (.mk k lo hi l) b=ew [cE k b.k,cE lo.toNat b.lo.toNat,cE hi.toNat b.hi.toNat,cmpL l b.l]:=by
 unfold bj;generalize cE k b.k=c0;generalize cE lo.toNat b.lo.toNat=c1;generalize cE hi.toNat b.hi.toNat=c2;generalize cmpL l b.l=c3;simp only[ew];by_cases d:c0=0
 .by_cases e:c1=0
  .by_cases h:c2=0
   .by_cases j:c3=0<;>simp[d,e,h,j]
   .simp [d,e,h]
  .simp [d,e]
 .simp [d]
mutual
def uC:∀a b:Rx,bj b a=-bj a b
 |.mk j lo e l,.mk k q h d=>by rw[uB,uB];exact Gw _ _ _ _ (DM _ _) (Gw _ _ _ _ (DM _ _) (Gw _ _ _ _ (DM _ _) (by rw[yh,yh];exact Ka l d)))
def Ka:∀a b:List Rx,cmpL b a=-cmpL a b
 |[],[]=>by unfold cmpL;rfl
 |[],_::_=>by unfold cmpL;rfl
 |_::_,[]=>by unfold cmpL;rfl
 |d::l,e::m=>by
  have h:=uC d e;have j:=Ka l m;show(if bj e d≠0 then bj e d else cmpL m l)=-(if bj d e≠0 then bj d e else cmpL l m);split
  .rw [ag io];exact h
  .rw [ab io];exact j
end
structure rW(x y z:Int):Prop where
 le:x<=0->y<=0->z<=0
 lt:x<0->y<=0->z<0
 lt':x<=0->y<0->z<0
 eq:x=0->y=0->z=0
def DN(a b c:Int):rW (cE a b) (cE b c) (cE a c):=by
 have s:∀a b:Int,(cE a b=-1/\a<b)\/(cE a b=1/\b<a)\/(cE a b=0/\a=b):=λa b=>by
  unfold cE;split
  .exact .inl ⟨rfl,io⟩
  .split
   .exact .inr (.inl ⟨rfl,io⟩)
   .exact .inr (.inr ⟨rfl,io⟩)
 rcases s a b with d|d|d<;>rcases s b c with e|e|e<;>rcases s a c with h|h|h<;>constructor<;>omega
def B5{x y z w A B:Int}(H:rW x y z)(J:rW w A B):rW (if x≠0 then x else w) (if y≠0 then y else A) (if z≠0 then z else B):=by
 obtain⟨K,h,k,C⟩:=H;obtain⟨D,E,F,G⟩:=J;by_cases q:x=0
 .by_cases j:y=0
  .have L:=C q j;rw[ab io,ab io,ab io];exact⟨D,E,F,G⟩
  .rw [ab (by omega:¬x≠0),ag j];constructor
   .intro d e;have:=k io io;rw[ag io];omega
   .intro d e;have:=k io io;rw[ag io];omega
   .intro d e;have:=k io io;rw[ag io];omega
   .intro d e;omega
 .rw [ag q];by_cases j:y=0
  .rw [ab (by omega:¬y≠0)];constructor
   .intro d e;have:=h io io;rw[ag io];omega
   .intro d e;have:=h io io;rw[ag io];omega
   .intro d e;have:=h io io;rw[ag io];omega
   .intro d e;omega
  .rw [ag j];constructor
   .intro d e;have:=h io io;rw[ag io];omega
   .intro d e;have:=h io io;rw[ag io];omega
   .intro d e;have:=h io io;rw[ag io];omega
   .intro d e;omega
mutual
def zR:∀a b c:Rx,rW (bj a b) (bj b c) (bj a c)
 |.mk q lo h l,.mk w y j d,.mk x z k e=>by
  rw[uB,uB,uB];have:=Kb l d e;exact B5 (DN _ _ _) (B5 (DN _ _ _) (B5 (DN _ _ _) (by show rW (ew [cmpL l d]) (ew [cmpL d e]) (ew [cmpL l e]);rw[yh,yh,yh];exact this)))
def Kb:∀a b c:List Rx,rW (cmpL a b) (cmpL b c) (cmpL a c)
 |[],[],[]=>by unfold cmpL;constructor<;>omega
 |[],[],_::_=>by unfold cmpL;constructor<;>omega
 |[],_::_,[]=>by unfold cmpL;constructor<;>omega
 |_::_,[],[]=>by unfold cmpL;constructor<;>omega
 |_::_,[],_::_=>by have d:∀(x:Rx) (l:List Rx),cmpL (x::l) []=1:=λ_ _=>rfl;have e:∀(x:Rx) (l:List Rx),cmpL [] (x::l)=-1:=λ_ _=>rfl;rw[d,e];constructor<;>omega
 |[],h::m,j::n=>by have e:∀(x:Rx) (l:List Rx),cmpL [] (x::l)=-1:=λ_ _=>rfl;rw[e,e];constructor<;>omega
 |x::l,h::m,[]=>by have d:∀(x:Rx) (l:List Rx),cmpL (x::l) []=1:=λ_ _=>rfl;rw[d,d];constructor<;>omega
 |x::l,h::m,j::n=>B5 (zR x h j) (Kb l m n)
end
def m8(x:Rx):List Rx->List Rx
 |[]=>[x]
 |d::p=>if bj x d<0 then d::m8 x p else x::d::p
def lY(l:List Rx):List Rx:=(l.foldl (λp d=>m8 d p) []).reverse
def lG(p:Rx):List Rx->List Rx
 |[]=>[]
 |d::l=>if bj d p==0 then lG d l else d::lG d l
def sh:List Rx->List Rx
 |[]=>[]
 |a::l=>a::lG a l
def DO{a b:Int}(d:cE a b=0):a=b:=by unfold cE at d;omega
def QJ:∀{l:List Int},ew l=0->∀e∈l,e=0
 |[],_=>λe d=>by cases d
 |a::l,h=>by
  unfold ew at h;split at h
  .omega
  .rename_i j;have j:a=0:=io
   intro e d;rcases aF.1 d with rfl|d
   .exact j
   .exact QJ h e d
def UM{a b:UInt8}(d:(a.toNat:Int)=b.toNat):a=b:=UInt8.toNat_inj.1 io
mutual
def cmp_eq:∀a b:Rx,bj a b=0->a=b
 |.mk z lo x l,.mk A B y q,d=>by
  rw[uB]at d;have d:=QJ d;have e:=DO (d _ (hJ ..));have h:=UM (DO (d _ (cP _ (hJ ..))));have j:=UM (DO (d _ (cP _ (cP _ (hJ ..)))));have w:=Kf l q (d _ (cP _ (cP _ (cP _ (hJ ..)))));simp only[Rx.k,Rx.lo,Rx.hi]at e h j
  grind
def Kf:∀l m:List Rx,cmpL l m=0->l=m
 |[],[],_=>rfl
 |[],_::_,d=>by unfold cmpL at d;cases d
 |_::_,[],d=>by unfold cmpL at d;cases d
 |a::l,b::m,d=>by
  unfold cmpL at d;split at d
  .omega
  .rename_i e;rw[cmp_eq a b io,Kf l m d]
end
def DR(a:Rx):bj a a=0:=by have:=uC a a;omega
def sg{a b:Rx}:(bj a b==0)=true↔a=b:=⟨λd=>cmp_eq a b (eq_of_beq d),λd=>by subst d;rw[DR];rfl⟩
def wZ{a b:Rx}:bj a b=0↔a=b:=⟨cmp_eq a b,λd=>by subst d;exact DR a⟩
def Ke{a b:Rx}:(!(bj a b==0))=true↔a≠b:=by rw[Bool.not_eq_true',<-iF,not_congr sg]
abbrev j5(l:List Rx):Prop:=l.Pairwise λa b=>bj a b<0
abbrev pg(l:List Rx):Prop:=l.Pairwise λa b=>bj a b<=0
def j5.nodup{l:List Rx}(e:j5 l):l.Nodup:=List.nodup_iff_pairwise_ne.2 (e.imp λ{a b} h d=>by subst d;rw[DR]at h;omega)
def j5.I0{l:List Rx}(d:j5 l):pg l:=d.imp λ{a b} e=>io
def I1{l m:List Rx}(e:pg l)(h:pg m)(d:l.Perm m):l=m:=List.Perm.eq_of_pairwise (λa b _ _ j k=>cmp_eq a b (by have:=uC a b;omega)) e h d
def Zt{l m:List Rx}(d:j5 l)(e:j5 m)(h:∀t,t∈l↔t∈m):l=m:=I1 d.I0 e.I0 ((List.perm_ext_iff_of_nodup d.nodup e.nodup).2 h)
def EO(x:Rx):∀p:List Rx,(m8 x p).Perm (x::p)
 |[]=>.refl _
 |d::p=>by
  unfold m8;split
  .exact ((EO x p).cons d).trans (.swap x d p)
  .exact .refl _
def L8(x:Rx):∀{p:List Rx},p.Pairwise (λa b=>bj b a<=0)->(m8 x p).Pairwise λa b=>bj b a<=0
 |[],_=>by unfold m8;simp
 |e::p,h=>by
  have j:=List.pairwise_cons.1 h;unfold m8;split
  .rename_i k;refine List.pairwise_cons.2 ⟨λt d=>?_,L8 x j.2⟩;rcases aF.1 ((EO x p).mem_iff.1 d)with rfl|d
   .omega
   grind
  .rename_i k;have q:bj e x<=0:=by have:=uC x e;omega
   refine List.pairwise_cons.2 ⟨λt d=>?_,h⟩;rcases aF.1 d with rfl|d
   .omega
   .exact (zR t e x).le (j.1 t d) q
def HA(l:List Rx):(lY l).Perm l:=by
 have:∀(l p:List Rx),(l.foldl (λp h=>m8 h p) p).Perm (l++p):=by
  intro l;induction l with
  |nil=>intro p;exact .refl _
  |cons a l e=>
   intro p;rw[List.foldl_cons];exact(e _).trans (((EO a p).append_left l).trans List.perm_middle)
 unfold lY;have d:=this l [];rw[List.append_nil]at d;exact(List.reverse_perm _).trans d
def Hz(l:List Rx):pg (lY l):=by
 have:∀(l p:List Rx),p.Pairwise (λa b=>bj b a<=0)->(l.foldl (λp h=>m8 h p) p).Pairwise λa b=>bj b a<=0:=by
  intro l;induction l with
  |nil=>grind
  |cons a l e=>intro p d;exact e _ (L8 a d)
 unfold lY;exact List.pairwise_reverse.2 (this l [] .nil)
def ady{l m:List Rx}(d:pg m)(e:m.Perm l):m=lY l:=I1 d (Hz l) (e.trans (HA l).symm)
def DU{t:Rx}:∀{l:List Rx} {p:Rx},(t=p\/t∈lG p l)↔(t=p\/t∈l)
 |[],p=>by unfold lG;simp
 |d::l,p=>by
  unfold lG;split
  .rename_i h;have e:d=p:=sg.1 h;subst e;rw[DU,aF]
   grind
  .rw [aF,aF];have:=DU (t:=t) (l:=l) (p:=d)
   grind
def DT:∀{l:List Rx} {p:Rx},pg (p::l)->j5 (p::lG p l)
 |[],p,_=>by unfold lG;simp
 |d::l,p,w=>by
  obtain⟨x,h⟩:=List.pairwise_cons.1 w;unfold lG;split
  .rename_i k;have q:d=p:=sg.1 k;subst q;exact DT h
  .rename_i k;have y:bj p d<0:=by
    have z:=x d gs;have A:=uC d p
    grind
   have j:=DT h;refine List.pairwise_cons.2 ⟨λt e=>?_,j⟩;rcases aF.1 e with rfl|e
   .omega
   .exact (zR p d t).lt y (by have:=(List.pairwise_cons.1 j).1 t e;omega)
def XR{l:List Rx}(d:pg l):j5 (sh l):=by
 cases l with
 |nil=>exact .nil
 |cons a l=>exact DT d
def XS{t:Rx}{l:List Rx}:t∈sh l↔t∈l:=by
 cases l with
 |nil=>exact Iff.rfl
 |cons a l=>show t∈a::lG a l↔_;rw[aF,aF];exact DU
def vX(l:List Rx):List Rx:=sh (lY l)
def Tm(l:List Rx):j5 (vX l):=XR (Hz l)
def Tn{t:Rx}{l:List Rx}:t∈vX l↔t∈l:=by unfold vX;rw[XS,(HA l).mem_iff]
def mC(r:Rx):List Rx->List Rx
 |[]=>[r]
 |d::p=>if bj d r<0 then d::mC r p else if bj d r=0 then d::p else r::d::p
def GK{t r:Rx}:∀{p:List Rx},t∈mC r p↔t=r\/t∈p
 |[]=>by unfold mC;simp
 |e::p=>by
  unfold mC;split
  .rw [aF,GK,aF]
   grind
  .split
   .rename_i d;have h:=cmp_eq e r d
    grind
   .simp
def RH{r:Rx}:∀{p:List Rx},j5 p->j5 (mC r p)
 |[],_=>by unfold mC;simp
 |h::p,e=>by
  obtain⟨w,q⟩:=List.pairwise_cons.1 e;unfold mC;split
  .rename_i k;refine List.pairwise_cons.2 ⟨λt d=>?_,RH q⟩;rcases GK.1 d with rfl|d
   .exact k
   grind
  .split
   .exact e
   .rename_i k x;have j:bj r h<0:=by have:=uC r h;omega
    refine List.pairwise_cons.2 ⟨λt d=>?_,e⟩;rcases aF.1 d with rfl|d
    .exact j
    .exact (zR r h t).lt j (by grind)
def hF(k:Int):List Rx->List Rx->List Rx
 |out,[]=>out
 |out,t::l=>hF k (if k=3 then out++[t]else mC t out) l
def QM:∀(l out:List Rx),hF 3 out l=out++l
 |[],out=>by unfold hF;simp
 |t::l,out=>by unfold hF;rw[QM l,ag rfl];simp
def QN{k:Int}(e:k≠3):∀(l:List Rx) {out:List Rx},j5 out->j5 (hF k out l)
 |[],_,d=>d
 |t::l,out,d=>by unfold hF;rw[ab e];exact QN e l (RH d)
def QO{k:Int}(d:k≠3){t:Rx}:∀(l:List Rx) {out:List Rx},t∈hF k out l↔t∈out\/t∈l
 |[],out=>by unfold hF;simp
 |a::l,out=>by
  unfold hF;rw[ab d,QO d l,GK,aF]
  grind
def abM(k:Int)(l:List Rx):hF k [] l=if k=3 then l else vX l:=by
 split
 .rename_i d;subst d;rw[QM];rfl
 .rename_i d;exact Zt (QN d l .nil) (Tm l) λt=>by rw[QO d,Tn];simp
def ms(μ:Rx->Nat):List Rx->Nat
 |[]=>0
 |a::l=>μ a+ms μ l
section
variable {μ:Rx->Nat}
def Nn:∀l m:List Rx,ms μ (l++m)=ms μ l+ms μ m
 |[],m=>by simp[ms]
 |a::l,m=>by show μ a+ms μ (l++m)=μ a+ms μ l+ms μ m;rw[Nn l m];omega
def aaM{l m:List Rx}(h:l.Perm m):ms μ l=ms μ m:=by
 induction h with
 |nil=>rfl
 |cons d _ j=>show μ d+_=μ d+_;rw[j]
 |swap d e l=>show μ e+(μ d+_)=μ d+(μ e+_);omega
 |trans _ _ k q=>omega
end
mutual
def dn:Rx->Nat|.mk _ _ _ l=>max 1 (AD l)
def AD:List Rx->Nat
 |[]=>0
 |a::l=>dn a+AD l
end
def M2:∀l:List Rx,AD l=ms dn l
 |[]=>rfl
 |a::l=>by unfold AD;rw[M2 l];rfl
def sS(k:Int)(lo hi:UInt8)(l:List Rx):dn (.mk k lo hi l)=max 1 (ms dn l):=by unfold dn;rw[M2]
mutual
def jK(N:Nat):Rx->Prop|.mk k _ _ l=>sI N l/\(k=4\/k=5->ms dn l<=N)
def sI(N:Nat):List Rx->Prop
 |[]=>True
 |a::l=>jK N a/\sI N l
end
mutual
def z9{N:Nat}:∀d:Rx,dn d<=N->jK N d
 |.mk j lo h l,e=>by rw[sS]at e;unfold jK;exact⟨Lr l io,λ_=>io⟩
def Lr{N:Nat}:∀l:List Rx,ms dn l<=N->sI N l
 |[],_=>by unfold sI;trivial
 |a::l,d=>by have d:dn a+ms dn l<=N:=d;unfold sI;exact⟨z9 a io,Lr l io⟩
end
set_option maxRecDepth 100000
set_option maxHeartbeats 2000000
namespace xN
abbrev P0:Ps:=[(0,.U),(2,.I)]
abbrev S2:=ah (ay U Tryz.f243 [] []) [4] P0
abbrev t1:=aj S2
abbrev S1:=ah t1 [3] P0
abbrev t2:=aj S1
abbrev S0:=ah t2 [2] P0
abbrev t3:=aj S0
def ok:=aA t3 aaU [.U]
end xN
namespace Ng
def ok:=aA (ay U Tryz.f223 [] []) OL [.U]
end Ng
namespace np
abbrev P0:Ps:=[(0,.s),(1,.I),(2,.I),(3,.v [.g eX 0 0]),(8,.I)]
def L0:=bq (ay U Tryz.f234 [(4,lr 17),(6,lr 18)] []) [0,1,1] P0
abbrev t1:=bp L0
def L1:=bq t1 [0,1,1,2,1,2,1] [(0,.s),(1,.I),(2,.I),(3,.v [.g eX 0 0]),(8,.I),(9,.I)]
abbrev t2:=bp L1
abbrev S2:=ah t2 [2,2,1] P0
abbrev t3:=aj S2
def iH:=bE t3 L1
def b':=bE t3 L0
def ok:=aA t3 Ph [.s,.I,.I,.g eX 0 0]
end np
namespace ado
abbrev S5:=ah (ay U Tryz.f237 [] []) [7] [(11,.r),(13,.I)]
abbrev t1:=aj S5
abbrev S4:=ah t1 [1,1,1,1,6] [(0,.s),(3,.v [.g eX 0 0]),(11,.r),(12,.I),(13,.I),(14,.I)]
abbrev t2:=aj S4
abbrev S3:=ah t2 [6] [(0,.s),(3,.v [.g eX 0 0]),(10,.I),(11,.r),(12,.I),(13,.I),(14,.I)]
abbrev t3:=aj S3
abbrev S2:=ah t3 [5] [(0,.s),(1,.I),(3,.v [.g eX 0 0]),(10,.I),(11,.r),(12,.I),(13,.I)]
abbrev t4:=aj S2
abbrev S1:=ah t4 [4] [(0,.s),(1,.I),(3,.v [.g eX 0 0]),(10,.I),(11,.r),(12,.I)]
abbrev t5:=aj S1
abbrev S0:=ah t5 [2] [(0,.s),(1,.I),(3,.v [.g eX 0 0]),(10,.I)]
abbrev t6:=aj S0
end ado
namespace adp
abbrev P0:Ps:=[(0,.s),(1,.I),(2,.I),(3,.v [.g eX 0 0]),(9,.I),(10,.I)]
def L1:=bq (ay U Tryz.f239 [(5,lr 18),(11,lr 18),(16,lr 13),(17,lr 18),(22,lr 13),(23,lr 18)] []) [0,1,1,1,2] P0
abbrev t1:=bp L1
def L2:=bq t1 [0,4,1,2,1,1,2] P0
abbrev t2:=bp L2
def L4:=bq t2 [0,1,1,1,1,1,4,2,1,2,1,1,2] [(0,.s),(1,.I),(2,.I),(3,.v [.g eX 0 0]),(9,.I),(10,.I),(11,.I)]
abbrev t3:=bp L4
def L6:=bq t3 [0,1,1,1,6,2,1,2,1,1,2] [(0,.s),(1,.I),(2,.I),(3,.v [.g eX 0 0]),(9,.I),(10,.I),(12,.I)]
abbrev t4:=bp L6
abbrev S7:=ah t4 [2,2,1,1,2] P0
abbrev t5:=aj S7
abbrev S5:=ah t5 [5,2,1,2,1,1,2] P0
abbrev t6:=aj S5
abbrev S3:=ah t6 [1,2,1,2,1,1,2] P0
abbrev t7:=aj S3
abbrev S0:=ah t7 [2] [(0,.s),(1,.I),(2,.I),(3,.v [.g eX 0 0]),(9,.I)]
abbrev t8:=aj S0
end adp
namespace adq
abbrev P0:Ps:=[(0,.s),(1,.I),(4,.v [.g eX 0 0]),(12,.I),(13,.I)]
def L0:=bq (ay U Tryz.f241 [(1,lr 16),(3,lr 16),(5,lr 17),(8,lr 16),(10,lr 16),(13,lr 16),(15,lr 17),(18,lr 16),(21,lr 16)] []) [0,2,3] P0
abbrev t1:=bp L0
def L1:=bq t1 [0,2,4] P0
abbrev t2:=bp L1
def L4:=bq t2 [0,2,9] P0
abbrev t3:=bp L4
def L5:=bq t3 [0,6,9] P0
abbrev t4:=bp L5
def L6:=bq t4 [0,2,1,4,9] P0
abbrev t5:=bp L6
abbrev S8:=ah t5 [5,4,9] P0
abbrev t6:=aj S8
abbrev S7:=ah t6 [2,4,9] P0
abbrev t7:=aj S7
abbrev S3:=ah t7 [8] P0
abbrev t8:=aj S3
abbrev S2:=ah t8 [5] P0
abbrev t9:=aj S2
end adq
namespace BP
def L0:=bq (ay U Tryz.f222 [(17,lr 17)] []) [0,1,2] [(0,.s),(1,.I),(2,.I),(3,.I),(4,.v [.g eX 0 0]),(10,.b),(11,.b)]
abbrev t1:=bp L0
abbrev P0:Ps:=[(0,.s),(1,.I),(2,.I),(3,.I),(4,.v [.g eX 0 0]),(10,.b),(11,.b),(16,.I)]
abbrev S9:=ah t1 [1,1,13,3,2] P0
abbrev t2:=aj S9
abbrev wI:=ah t2 [15,3,2] P0
abbrev t3:=aj wI
abbrev S8:=ah t3 [12,3,2] [(0,.s),(1,.I),(2,.I),(3,.I),(4,.v [.g eX 0 0]),(11,.b),(16,.I),(18,.I),(19,.I),(20,.I)]
abbrev t4:=aj S8
abbrev S7:=ah t4 [11,3,2] [(0,.s),(1,.I),(2,.I),(3,.I),(4,.v [.g eX 0 0]),(11,.b),(12,.I),(16,.I),(18,.I),(19,.I)]
abbrev t5:=aj S7
abbrev S6:=ah t5 [8,3,2] [(0,.s),(1,.I),(2,.I),(3,.I),(4,.v [.g eX 0 0]),(12,.I),(13,.I)]
abbrev t6:=aj S6
abbrev P1:Ps:=[(0,.s),(1,.I),(2,.I),(3,.I),(4,.v [.g eX 0 0]),(10,.b),(11,.b),(12,.I),(13,.I)]
abbrev S5:=ah t6 [7,3,2] P1
abbrev t7:=aj S5
abbrev S4:=ah t7 [6,3,2] [(0,.s),(1,.I),(2,.I),(3,.I),(4,.v [.g eX 0 0]),(10,.b),(11,.b),(12,.I),(13,.I),(14,.I)]
abbrev t8:=aj S4
abbrev S3:=ah t8 [2,1,1,1,5,3,2] P1
abbrev t9:=aj S3
abbrev P2:Ps:=[(0,.s),(1,.I),(2,.I),(3,.I),(4,.v [.g eX 0 0]),(10,.b),(11,.b),(12,.I)]
abbrev S2:=ah t9 [4,3,2] P2
abbrev t10:=aj S2
abbrev S1:=ah t10 [1,3,2] P2
abbrev t11:=aj S1
def b':=bE t11 L0
def ok:=aA t11 aaW [.s,.I,.I,.I,.g eX 0 0]
end BP
namespace Tz
def ok:=aA (ay U Tryz.f203 [] []) Pg [.s,.g eX 0 0]
end Tz
def h5(x:J):List J->List J
 |[]=>[x]
 |d::p=>if bj x.rx d.rx<0 then d::h5 x p else x::d::p
def gm(l:List J):List J:=(l.foldl (λp d=>h5 d p) []).reverse
def EN(x:J):∀p,(h5 x p).length=p.length+1
 |[]=>rfl
 |d::p=>by
  unfold h5;split
  .simp [EN x p]
  .simp
def adx(l:List J)(x:J):gm (l++[x])=(h5 x (gm l).reverse).reverse:=by
 unfold gm
 grind
def LZ{x t:J}:∀{p:List J},t∈h5 x p↔t=x\/t∈p
 |[]=>by unfold h5;simp
 |d::p=>by
  unfold h5;split
  .rw [aF,LZ,aF]
   grind
  .simp
def adv{t:J}{l:List J}:t∈gm l↔t∈l:=by
 have:∀(l p:List J),t∈l.foldl (λp e=>h5 e p) p↔t∈l\/t∈p:=by
  intro l;induction l with
  |nil=>grind
  |cons a l d=>
   intro p;rw[List.foldl_cons,d,LZ,aF]
   grind
 unfold gm
 grind
def TC(l:List J):(gm l).length=l.length:=by
 have:∀(l p:List J),(l.foldl (λp e=>h5 e p) p).length=l.length+p.length:=by
  intro l;induction l with
  |nil=>grind
  |cons a l d=>
   intro p;rw[List.foldl_cons,d,EN,List.length_cons];omega
 unfold gm
 grind
def L'(x:J):∀p:List J,(h5 x p).map J.rx=m8 x.rx (p.map J.rx)
 |[]=>rfl
 |d::p=>by
  unfold h5;rw[lU];unfold m8;split
  .rw [lU,L' x p]
  .rfl
def adz(l:List J):(gm l).map J.rx=lY (l.map J.rx):=by
 have:∀(l p:List J),(l.foldl (λp d=>h5 d p) p).map J.rx=(l.map J.rx).foldl (λp d=>m8 d p) (p.map J.rx):=by
  intro l;induction l with
  |nil=>grind
  |cons a l e=>
   intro p;rw[List.foldl_cons,e,L'];rfl
 unfold gm lY;rw[List.map_reverse,this];rfl
def L7(x:J):∀p:List J,(h5 x p).Perm (x::p)
 |[]=>.refl _
 |d::p=>by
  unfold h5;split
  .exact ((L7 x p).cons d).trans (.swap x d p)
  .exact .refl _
def adw(l:List J):(gm l).Perm l:=by
 have:∀(l p:List J),(l.foldl (λp h=>h5 h p) p).Perm (l++p):=by
  intro l;induction l with
  |nil=>intro p;exact .refl _
  |cons a l e=>
   intro p;rw[List.foldl_cons];exact(e _).trans (((L7 a p).append_left l).trans List.perm_middle)
 unfold gm;have d:=this l [];rw[List.append_nil]at d;exact(List.reverse_perm _).trans d
def adu(l:List J):pg ((gm l).map J.rx):=by rw[adz];exact Hz _
def aed{l m:List J}(h:l.Perm m):J.a4 l=J.a4 m:=by
 induction h with
 |nil=>rfl
 |cons d _ j=>show d.sz+_=d.sz+_;rw[j]
 |swap d e l=>show e.sz+(d.sz+_)=d.sz+(e.sz+_);omega
 |trans _ _ k q=>omega
def aea{α:Type}(A d:List α)(y x:α)(j:Nat)(e:j=A.length+1):((A++y::x::d).set j y).set (j - 1) x=A++x::y::d:=by subst e;rw[List.set_append_right _ _ io,Nat.add_sub_cancel,List.set_append_right _ _ io];simp
def WX(s:Sl)(l:List J)(w:I)(hl:J.a4 l<=1000000)(ho:aK w aS 4 s (l.flatMap J.c))(pl:J.Ps w l)(hd:∀e∈aG s,e∉J.bc l)(A X j:List J)(z:l=A++X++j)(b:Nat)(hb:b=A.length+X.length):
  ai U Ph #[s.v,.i (A.length:Int),.i (b:Int),.func (.func eX) #[] #[]] w λr D=>(r=ad (.tuple #[])/\aK D aS 4 s ((A++gm X++j).flatMap J.c))/\Fr (·∈aG s) w D:=by
 have ll:=J.gn l;have lX:A.length+X.length+j.length=l.length:=by grind
 have M:O (·∈aG s) w w [.row aS 4 s (l.flatMap J.c)] [.trees l]:=Fa _ ho (by intro aj z;simp only[aF,aZ,a7]at z;subst z;exact⟨pl,λe L hm=>hd e L (aW.1 hm)⟩)
 have kt:∀t∈l,t.sz<=1000000:=λt C=>bB (J.eP C) hl;have mA:∀t∈X,t∈l:=λt C=>by grind
 let G:aC:=λr D=>(r=ad (.tuple #[])/\aK D aS 4 s ((A++gm X++j).flatMap J.c))/\Fr (·∈aG s) w D
 have outer:∀(d i:Nat) (E:I),A.length+i+d=b->O (·∈aG s) w E [.row aS 4 s ((A++gm (X.take i)++(X.drop i++j)).flatMap J.c)] [.trees l]->
   np.L0 s (A.length:Int) (b:Int) ((A.length+i:Nat):Int) E G:=by
  intro d;induction d with
  |zero=>
   intro i E hi N;refine np.b' (aQ (a2 io) ⟨⟨rfl,?_⟩,N.fr⟩);have:=N.get 0;rw[fV io,dy io,List.nil_append]at this;exact this
  |succ d ao=>
   intro i E hi N;refine np.b' (aR (a5 io) ?_);have Z:X[i]? =some (X[i]'io):=aY io;have aa:=dw (l:=X) (i:=i) io;generalize X[i]'io=e at Z aa;have hS:gm (X.take (i+1))=(h5 e (gm (X.take i)).reverse).reverse:=by rw[fJ,Z,Option.toList_some,adx]
   have L:e∈l:=mA e (aD Z);have next:∀(k:I),O (·∈aG s) w k [.row aS 4 s ((A++gm (X.take (i+1))++(X.drop (i+1)++j)).flatMap J.c)] [.trees l]->np.S2 s (A.length:Int) (b:Int) ((A.length+i:Nat):Int) k G:=by
    intro k x;show np.L0 _ _ _ _ _ _;rw[bm _ io]
    grind
   have inner:∀(p:Nat) (P Q:List J) (k:I),P.length=p->(h5 e P.reverse).reverse++Q=gm (X.take (i+1))->(∀t∈P,t∈l)->O (·∈aG s) w k [.row aS 4 s ((A++P++e::(Q++(X.drop (i+1)++j))).flatMap J.c)] [.trees l]->
     np.L1 s (A.length:Int) (b:Int) ((A.length+i:Nat):Int) ((A.length+p:Nat):Int) k G:=by
    intro p;induction p with
    |zero=>
     intro P Q k hp B W x;have:P=[]:=List.length_eq_zero_iff.1 hp;subst this;refine np.iH (x.dr λF q=>aQ (a2 io) (next F ?_));have an:e::Q=gm (X.take (i+1)):=B
     grind
    |succ p ah=>
     intro P Q k hp B W x;obtain⟨h,y,rfl⟩:∃h y,P=h++[y]:=⟨P.dropLast,P.getLast (λam=>by grind),(List.dropLast_concat_getLast _).symm⟩;have af:h.length=p:=by grind
     have hy:y∈l:=W y gs;have eA:A++(h++[y])++e::(Q++(X.drop (i+1)++j))=(A++h)++y::e::(Q++(X.drop (i+1)++j)):=gs
     rw[eA]at x;have lA:(A++h).length=A.length+p:=by grind
     have gy:((A++h)++y::e::(Q++(X.drop (i+1)++j)))[A.length+p]? =some y:=by rw[<-lA,List.getElem?_append_right (bw _)];simp
     have T:((A++h)++y::e::(Q++(X.drop (i+1)++j)))[A.length+(p+1)]? =some e:=by rw[<-Nat.add_assoc,<-lA,List.getElem?_append_right (Nat.le_succ _)];simp
     have hlen:((A++h)++y::e::(Q++(X.drop (i+1)++j))).length<=1000000:=by have h1:=congrArg List.length B;rw[TC,List.length_append,List.length_reverse,EN,List.length_reverse]at h1;simp only[List.length_append,List.length_cons,jW,List.length_drop,List.length_nil]at h1 ⊢;omega
     have ae:=(cL.1 T).1;have H:aB .i64 (((A.length+(p+1):Nat):Int) - 1)=((A.length+p:Nat):Int):=by rw[EI io io];rfl
     have K:h5 e (h++[y]).reverse=if bj e.rx y.rx<0 then y::h5 e h.reverse else e::y::h.reverse:=by rw[List.reverse_append];rfl
     refine np.iH (x.dr λF q=>aR (a5 io) ?_);refine q.el 0 (A.length+(p+1)) rfl T (q.el 0 (A.length+p) H gy ?_);refine q.call (Ji e y F (kt e L) ((show J.Ps F l from q.getD 0).mem L) ((show J.Ps F l from q.getD 0).mem hy)) ?_;rintro _ w4 rfl H4;refine⟨_,rfl,aT (λY=>H4.dr λw5 S=>?_) (λY=>next w4 ?_)⟩
     .refine S.el 0 (A.length+p) H gy (S.el 0 (A.length+(p+1)) rfl T (S.D5 0 (A.length+(p+1)) (t:=y) rfl ae λw6 H6=>?_));refine H6.D5 0 (A.length+p) (t:=e) (ts:=((A++h)++y::e::(Q++(X.drop (i+1)++j))).set (A.length+(p+1)) y) H (by grind) λw7 H7=>?_;rw[H];rw[ag Y]at K;refine ah h (y::Q) w7 af ?_ (λt C=>W t (by grind)) ?_
      .rw [<-B,K];simp
      .have e3:=aea (A++h) (Q++(X.drop (i+1)++j)) y e (A.length+(p+1)) io
       grind
     .rw [ab Y]at K;rw[<-B,K];simpa using H4
   have ac:(gm (X.take i)).length=i:=by rw[TC,jW];omega
   refine inner i (gm (X.take i)) [] E ac ?_ (λt C=>mA t (List.mem_of_mem_take (adv.1 C))) ?_
   .grind
   grind
 refine np.ok ?_;show np.L0 _ _ _ _ _ G;rw[bm _ io];cases X with
 |nil=>
  refine np.b' (aQ (a2 (by grind)) ⟨⟨rfl,?_⟩,Fr.refl _ _⟩);have:=M.get 0;rw[z]at this;exact this
 |cons a X=>
  refine outer (b - (A.length+1)) 1 w (by grind) ?_;rw[show l.flatMap J.c=(A++gm ((a::X).take 1)++((a::X).drop 1++j)).flatMap J.c from by rw[z];simp[gm,h5]]at M;exact M
def aes{t:ByteArray}{m:Nat}{K:UInt8->Prop}(d:bI t.size 256=true)(h:m<256)(e:∀b,K b):∃b:UInt8,t[m]? =some b/\K b:=by rw[eJ]at d;exact⟨t[m]'io,getElem?_pos t m io,e _⟩
def Wx(x:Int)(w:I):ai U OL #[.u x] w λr d=>(∃t:Int,r=ad (.i t))/\af w d:=by
 have k:∀(x n:Int),xN.S2 x n w λr d=>(∃t:Int,r=ad (.i t))/\af w d:=by
  intro x n;have e:0<=aB .u8 x/\aB .u8 x<256:=by rw[IntKind.wrap_u8];omega
  obtain⟨m,y⟩:=Int.eq_ofNat_of_zero_le e.1;refine⟨e.1,?_⟩;have q:m<256:=io
  refine aes (by kernel_rfl) (by rw[y];exact q) λb=>⟨⟨_,rfl⟩,Fr.refl _ _⟩
 have j:∀(x n:Int),xN.S1 x n w λr d=>(∃t:Int,r=ad (.i t))/\af w d:=λx n=>aT (λ_=>k _ _) (λ_=>k _ _);have h:∀(x n:Int),xN.S0 x n w λr d=>(∃t:Int,r=ad (.i t))/\af w d:=λx n=>aT (λ_=>j _ _) (λ_=>j _ _);refine Ng.ok ((xN.ok (aT (λ_=>h _ _) (λ_=>h _ _))).mono ?_);rintro _ z ⟨⟨t,rfl⟩,f⟩;exact⟨t,rfl,⟨t,rfl⟩,f⟩
def mT(n:Nat):Prop:=∀(s:Sl) (l:List J) (w:I),l.length<=n->J.a4 l<=1000000->aK w aS 4 s (l.flatMap J.c)->J.Ps w l->(∀e∈aG s,e∉J.bc l)->
 ai U Pg #[s.v,.func (.func eX) #[] #[]] w λr d=>(∃m:List J,r=ad (.tuple #[])/\m.Perm l/\pg (m.map J.rx)/\aK d aS 4 s (m.flatMap J.c))/\Fr (·∈aG s) w d
def iL(p:J):List J->List J
 |[]=>[]
 |d::l=>if bj d.rx p.rx==0 then iL d l else d::iL d l
def mf:List J->List J
 |[]=>[]
 |a::l=>a::iL a l
def Km(l:List J)(i:Nat):(l.flatMap J.c).take (i *4)=(l.take i).flatMap J.c:=by
 have e:=J.hB (l.take i);by_cases d:i<=l.length
 .conv=>lhs;rw[<-GO i l,dK]
  grind
 .rw [fV (by rw[J.hB];omega),fV (l:=l) io]
def Ks(l:List J)(i:Nat)(d:i<=l.length):(l.flatMap J.c).drop (i *4)=(l.drop i).flatMap J.c:=by
 have e:=J.hB (l.take i);rw[jW,Nat.min_eq_left d]at e;conv=>lhs;rw[<-GO i l,dK]
 grind
def X2{w:I}{s:Sl}{l m:List J}(h:aK w aS 4 s (l.flatMap J.c))(i:Nat)(hi:i<=l.length)(C:l.take i=m){K:I->Prop}{R:aC}{w0:I}(B:Fr (·∈aG s) w0 w)(A:∀r j,wH s m r w0 j->Fr (·∈aG s) w0 j->R r j):
  (0:Int)<=(i:Int)/\(i:Int)<=(s.n:Int)/\∃(k:I),Sem.run U (Builtin.clear_ #[jw] oa #[.slice (if s.c=(a0 (i:Int))then s.a else s.a.map (·.add ((a0 (i:Int)) *4))) (s.n - (a0 (i:Int))) (s.c - (a0 (i:Int)))]) w=.ok (.tuple #[]) k/\
   (0:Int)<=(i:Int)/\(i:Int)<=(s.c:Int)/\R (ad (.slice (if s.c=0 then s.a else s.a.map (·.add (0 *4))) ((a0 (i:Int)) - 0) (s.c - 0))) k:=by
 have H:=J.cz h.a3;have G:=h.cap;obtain⟨E,x,y,z⟩:=Kn (ty:=oa) sy Vc rfl h i io;refine⟨io,io,E,x,io,io,A _ _ ⟨⟨if s.c=0 then s.a else s.a.map (·.add (0 *4)),i - 0,s.c - 0⟩,rfl,?_,λF e=>?_⟩ (B.trans z λF _ q=>q)⟩
 .rw [<-C,<-Km];exact y
 .simp only[aG]at e ⊢;split at e
  .rename_i p d;split at d
   .grind
   .cases D:s.a with
    |none=>grind
    |some L=>
     rw[D]at d;simp only[Option.map_some,fA]at d;subst d;rw[kG]at e;exact e
  grind
section
variable {M:Nat->Prop} {w0 w:I} {L D:List En}
def _root_.Go.W.O.D6(H:O M w0 w L D)(i k b:Nat){s:Sl}{ts:List J}{t:J}{X:Int}{K:Int->Int->Int->Sl->Prop}(q:X=(k:Int))(x:ts[b+k]? =some t)(j:K t.k t.lo.toNat t.hi.toNat t.s)(hi:L[i]? =some (.row aS 4 s (ts.flatMap J.c)):=by rfl):
  (0:Int)<=X/\X<((s.n - b:Nat):Int)/\dJ (if s.c=b then s.a else s.a.map (·.add (b *4))) λp=>∃a b c:Int,∃d:Sl,w.cell? ((p.add (a0 X *4)).add 0)=some (.i a)/\w.cell? ((p.add (a0 X *4)).add 1)=some (.int .u8 b)/\w.cell? ((p.add (a0 X *4)).add 2)=some (.int .u8 c)/\w.cell? ((p.add (a0 X *4)).add 3)=some d.v/\K a b c d:=by subst q;have e:aK w aS 4 s (ts.flatMap J.c):=H.get i hi;have z:=J.cz e.a3;have y:=(cL.1 x).1;have h:=e.a3.sub b s.n io (bw _);rw[fV (by rw[J.hB];omega),Ks _ _ io]at h;refine⟨io,io,J.a6 (s:=mI 4 s b s.n) h (i:=k) (t:=t) (by grind) λp A c=>⟨_,_,_,_,c.c0,c.c1,c.c2,c.c3,j⟩⟩
end
def Wq(s:Sl)(l:List J)(w:I)(hl:J.a4 l<=1000000)(ho:aK w aS 4 s (l.flatMap J.c))(pl:J.Ps w l)(hd:∀x∈aG s,x∉J.bc l):
  ai U Pa #[s.v,.func (.func sW) #[] #[]] w λr E=>wH s (mf l) r w E/\Fr (·∈aG s) w E:=by
 have nr:=J.cz ho.a3;have ll:=J.gn l;have kt:∀t∈l,t.sz<=1000000:=λt Z=>bB (J.eP Z) hl;have ac:O (·∈aG s) w w [.row aS 4 s (l.flatMap J.c)] [.trees l]:=Fa _ ho (by intro ag he;simp only[aF,aZ,a7]at he;subst he;exact⟨pl,λx G P=>hd x G (aW.1 P)⟩)
 let Q:aC:=λr E=>wH s (mf l) r w E/\Fr (·∈aG s) w E
 have am:∀(d k b m:Nat) (cur:List J) (p:J) (A:I),b+m+d=l.length->1<=m->1<=b->k<b+m->cur.length=l.length->cur.drop (b+m - 1)=l.drop (b+m - 1)->l[b+m - 1]? =some p->cur.take k++iL p (l.drop (b+m))=mf l->
   O (·∈aG s) w A [.row aS 4 s (cur.flatMap J.c)] [.trees l]->
   o4.L2 s (k:Int) ⟨(if s.c=b then s.a else s.a.map (·.add (b *4))),(s.n - b),(s.c - b)⟩ (m:Int) A Q:=by
  intro d;induction d with
  |zero=>
   intro k b m cur p A hb P ae W hc N D e q;refine o4.px (aQ (a2 ?_) ?_)
   .grind
   rw[dy io]at e;have Y:cur.take k=mf l:=by rw[<-e];simp[iL]
   exact X2 (K:=λ_=>True) (q.get 0) k io Y q.fr λr E C F=>⟨C,F⟩
  |succ d aa=>
   intro k b m cur p A hb P ae W hc N D e q;have z:l[b+m]? =some (l[b+m]'io):=aY io;have y:=dw (l:=l) (i:=b+m) io;generalize l[b+m]'io=x at z y;have af:cur[b+m]? =some x:=by
    have:(cur.drop (b+m - 1))[1]? =(l.drop (b+m - 1))[1]?:=by rw[N]
    grind
   have ah:cur[b+(m - 1)]? =some p:=by
    have:(cur.drop (b+m - 1))[0]? =(l.drop (b+m - 1))[0]?:=by rw[N]
    rw[List.getElem?_drop,List.getElem?_drop,Nat.add_zero]at this
    grind
   have aj:cur.drop (b+m)=l.drop (b+m):=by
    have:(cur.drop (b+m - 1)).drop 1=(l.drop (b+m - 1)).drop 1:=by rw[N]
    rw[lT,lT,show b+m - 1+1=b+m by omega]at this;omega
   have L:=aD z;have mp:=aD D;have S:aB .i64 ((m:Int) - 1)=((m - 1:Nat):Int):=EI P io;rw[y]at e;have T:iL p (x::l.drop (b+m+1))=if bj x.rx p.rx==0 then iL x (l.drop (b+m+1))else x::iL x (l.drop (b+m+1)):=rfl;rw[T]at e;have next:∀(H:Nat) (B:List J) (j:I),H<b+(m+1)->B.length=l.length->B.drop (b+m)=l.drop (b+m)->B.take H++iL x (l.drop (b+m+1))=mf l->O (·∈aG s) w j [.row aS 4 s (B.flatMap J.c)] [.trees l]->
     o4.S3 s (H:Int) ⟨(if s.c=b then s.a else s.a.map (·.add (b *4))),(s.n - b),(s.c - b)⟩ (m:Int) j Q:=by intro H B j C F h3 h4 h;show o4.L2 _ _ _ _ _ _;rw[bm _ io];exact aa H b (m+1) B x j io io ae C F (by grind) (by grind) io h
   refine o4.px (aR (a5 ?_) (q.dr λj h=>?_))
   .show (m:Int)<((s.n - b:Nat):Int);omega
   refine h.D6 0 m b rfl af (h.D6 0 (m - 1) b S ah ?_);refine h.call (wS x p j (kt x L) ((show J.Ps j l from h.getD 0).mem L) ((show J.Ps j l from h.getD 0).mem mp)) ?_;rintro _ w3 rfl M;refine⟨_,rfl,eU (λhf=>?_) (λZ=>?_)⟩
   .refine M.D6 0 m b rfl af (M.D5 0 k (t:=x) (ts:=cur) rfl io λw4 H4=>?_);rw[ab (by grind)]at e;rw[bm _ io];refine next (k+1) (cur.set k x) w4 io (by grind) ?_ ?_ H4
    .rw [List.drop_set_of_lt io];omega
    .rw [Uc io,List.append_assoc];exact e
   grind
 have loop:∀(d k:Nat) (p:J) (A:I),k+d=l.length->1<=k->l[k - 1]? =some p->l.take k++iL p (l.drop k)=mf l->O (·∈aG s) w A [.row aS 4 s (l.flatMap J.c)] [.trees l]->
   o4.L0 s (k:Int) A Q:=by
  intro d;induction d with
  |zero=>
   intro k p A W C D e q;refine o4.b' (aQ (a2 io) ⟨⟨s,rfl,?_,λx G=>G⟩,q.fr⟩);rw[dy io,fV io]at e;have Y:l=mf l:=by rw[<-e];simp[iL]
   rw[<-Y];exact q.get 0
  |succ d aa=>
   intro k p A W C D e q;have z:l[k]? =some (l[k]'io):=aY io;have y:=dw (l:=l) (i:=k) io;generalize l[k]'io=x at z y;have L:=aD z;have mp:=aD D;have S:aB .i64 ((k:Int) - 1)=((k - 1:Nat):Int):=EI C io;rw[y]at e;have T:iL p (x::l.drop (k+1))=if bj x.rx p.rx==0 then iL x (l.drop (k+1))else x::iL x (l.drop (k+1)):=rfl;rw[T]at e;refine o4.b' (aR (a5 io) (q.dr λj h=>?_));refine h.el 0 k rfl z (h.el 0 (k - 1) S D ?_);refine h.call (wS x p j (kt x L) ((show J.Ps j l from h.getD 0).mem L) ((show J.Ps j l from h.getD 0).mem mp)) ?_;rintro _ w3 rfl M;refine⟨_,rfl,bn (λZ=>⟨io,io,?_⟩) (λhf=>?_)⟩
   .grind
   .rw [ab (by grind)]at e;rw[bm _ io];refine aa (k+1) x w3 io io (by grind) ?_ M
    grind
 refine o4.ok (aT (λF=>⟨⟨s,rfl,?_,λx G=>G⟩,ac.fr⟩) (λF=>?_))
 .have ag:mf l=l:=by
   cases l with
   |nil=>rfl
   |cons a l=>
    cases l with
    |nil=>rfl
    |cons b l=>grind
  grind
 .have z:l[0]? =some (l[0]'io):=aY io;have y:=dw (l:=l) (i:=0) io;generalize l[0]'io=x at z y;refine loop (l.length - 1) 1 x w io io z ?_ ac;rw[List.drop_zero]at y;rw[y];rfl
def hC(k:Int)(l:List Rx)(u:Rx):List Rx:=(l.flatMap λc=>if c.k=k then c.l else[c]).filter λt=>!(bj t u==0)
def uY(k:Int)(u:Rx):List Rx->Rx
 |[]=>u
 |[a]=>a
 |l=>.mk k 0 0 l
def ha(k:Int)(l:List Rx)(u z:Rx):Rx:=if(hC k l u).any (λt=>bj t z==0)then z else uY k u (if k=3 then hC k l u else sh (lY (hC k l u)))
def vF(k:Int)(l:List Rx):Nat:=(l.flatMap λc=>if c.k=k then c.l else[c]).length
def oE:Rx:=.mk 1 0 0 []
def eR:Rx:=.mk 6 0 0 [fU]
def mH(lo hi:UInt8)(l:List Rx):Rx:=match l with
 |[]=>fU
 |c::d=>if c.k=0\/c.k=1 then oE else if c.k=7\/bj c eR=0 then c else .mk 7 lo hi (c::d)
def rh(lo hi:UInt8)(l:List Rx):Rx:=match l with
 |[]=>fU
 |c::e=>if c.k=6 then(match c.l with |[]=>fU|d::_=>d)else .mk 6 lo hi (c::e)
def iw:Rx->Rx
 |.mk d lo e l=>if d=3 then ha 3 l oE fU else if d=4 then ha 4 l fU eR else if d=5 then ha 5 l eR fU else if d=6 then rh lo e l else if d=7 then mH lo e l else .mk d lo e l
def lJ:Rx->Bool
 |.mk d _ _ l=>ak (0<=d)&&ak (d<8)&&(match l with
  |[]=>d !=6&&d !=7
  |c::_=>!(d==6&&c.k==6&&c.l.isEmpty))
def mF(t:J):t.rx.k=t.k:=by rw[J.fv];rfl
def yB(t:J):t.rx.l=t.l.map J.rx:=by rw[J.fv,<-J.fW];rfl
def xr(x u:J):(gO x u).map J.rx=hC x.k (J.ao x.l) u.rx:=by
 unfold gO hC;rw[J.fW];generalize x.l=l;induction l with
 |nil=>rfl
 |cons a l e=>
  rw[lU,dz,dz,List.filter_append,List.filter_append,ey,e];congr 1;have d:(fb x a).map J.rx=if a.rx.k=x.k then a.rx.l else[a.rx]:=by
   unfold fb;rw[mF,yB]
   grind
  rw[<-d,List.filter_map];rfl
def DX:∀(l:List J) (p:J),(iL p l).map J.rx=lG p.rx (l.map J.rx)
 |[],p=>rfl
 |d::l,p=>by
  unfold iL;rw[lU];unfold lG;split
  .exact DX l d
  .rw [lU,DX l d]
def XU(l:List J):(mf l).map J.rx=sh (l.map J.rx):=by
 cases l with
 |nil=>rfl
 |cons a l=>show a.rx::(iL a l).map J.rx=_;rw[DX];rfl
def DW{t:J}:∀{l:List J} {p:J},t∈iL p l->t∈l
 |[],p,d=>d
 |e::l,p,d=>by
  unfold iL at d;split at d
  .exact cP _ (DW d)
  .rcases aF.1 d with rfl|d
   .simp
   .exact cP _ (DW d)
def XT{t:J}{l:List J}(d:t∈mf l):t∈l:=by
 cases l with
 |nil=>exact d
 |cons a l=>
  rcases aF.1 d with rfl|d
  .simp
  .exact cP _ (DW d)
def VU(l:List J)(z:J):l.any (λt=>bj t.rx z.rx==0)=(l.map J.rx).any λt=>bj t z.rx==0:=by grind
def gK(d:List Nat)(w:I)(x:Rx)(r:cW)(w':I):Prop:=∃t:J,r=ad t.v/\t.rx=x/\t.P w'/\∀b∈t.fp,w.heap.size<=b\/b∈d
def W0{N:Nat}(hS:mT N)(hN:N<=1000000)(x u z:J)(B j:Nat)(w:I)(Q:x.k≠3->vF x.k (J.ao x.l)<=N)(hx:x.sz<=1000000)(px:x.P w)(pu:u.P w)(pz:z.P w)(hu:w.heap[B]? =some (.cells u.c.toArray aS (0,0)))(hz:w.heap[j]? =some (.cells z.c.toArray aS (0,0))):
  ai U AS #[x.v,.pointer (some (aa B)),.pointer (some (aa j))] w λr w'=>gK (x.fp++(u.fp++z.fp)) w (ha x.k (J.ao x.l) u.rx z.rx) r w'/\af w w':=by
 have H0:O F0 w w [] [.tree x,.tree u,.tree z,dX B u,dX j z]:=bM _ (by
  intro aj D;simp only[aF,aZ,a7]at D;rcases D with rfl|rfl|rfl|rfl|rfl
  .exact px
  .exact pu
  .exact pz
  .exact hu
  .exact hz)
 have Y:=Sub.gO x u;have az:=aec x u;have ay:=J.gn (gO x u);have kt:∀t∈gO x u,t.sz<=1000000:=λt q=>by have:=J.eP q;omega
 have aA:(gO x u).length<=vF x.k (J.ao x.l):=by have S:=congrArg List.length (xr x u);rw[List.length_map]at S;rw[S];exact List.length_filter_le ..
 refine G6.aq (H0.ax λG w1 H1=>H1.ax λH w2 C=>⟨_,_,_,u.s,C.dZ 3 0,C.dZ 3 1,C.dZ 3 2,C.dZ 3 3,C.g9 (WT x u w2 hx (C.getD 0) (C.getD 1)) ?_⟩);rintro _ w3 ⟨y,rfl,o1,n1⟩ H3 F3;have F:=F3.own (.row aS 4 y ((gO x u).flatMap J.c)) o1 n1;have ac:∀w':I,x.P w'->J.Ps w' (gO x u):=λw' Q=>Y.Ps Q;refine⟨y,rfl,F.av (Ws y (gO x u) ⟨FT,#[],#[.pointer (some (aa j))]⟩ (λt=>bj t.rx z.rx==0) [.tree x,.tree z,dX j z] w3 io (F.get 2:aK _ _ _ _ _).a3 (by
  intro aj D;simp only[aF,aZ,a7]at D;rcases D with rfl|rfl|rfl
  .exact F.getD 0
  .exact F.getD 2
  .exact F.getD 4) (by kernel_rfl) (λw' t q E=>WW t z j w' (kt t q) ((ac w' (E.getD 1)).mem q) (E.getD 2) (E.getD 3))) ?_⟩
 rintro _ w4 rfl h;have ea:(gO x u).any (λt=>bj t.rx z.rx==0)=(hC x.k (J.ao x.l) u.rx).any λt=>bj t z.rx==0:=by rw[VU,xr]
 refine⟨_,rfl,bn (λq=>⟨_,_,_,z.s,h.dZ 4 0,h.dZ 4 1,h.dZ 4 2,h.dZ 4 3,h.ae λw8 e=>⟨⟨z,rfl,?_,e.getD 2,λb d=>.inr (by grind)⟩,e.fr⟩⟩) (λhf=>?_)⟩
 .have aC:=ea▸q;unfold ha
  grind
 have ar:=ea▸hf;have fin:∀(Z:Sl) (ks:List J) (w':I),(∀t∈ks,t∈gO x u)->ks.map J.rx=(if x.k=3 then hC x.k (J.ao x.l) u.rx else sh (lY (hC x.k (J.ao x.l) u.rx)))->O F0 w w' [.g G,.g H,.row aS 4 Z (ks.flatMap J.c)] [.tree x,.tree u,.tree z,dX B u,dX j z]->
   G6.aV (aa B) G x.k x.lo.toNat x.hi.toNat x.s H 0 0 0 ⟨none,0,0⟩ Z w' λr w'=>gK (x.fp++(u.fp++z.fp)) w (ha x.k (J.ao x.l) u.rx z.rx) r w'/\af w w':=by
  intro Z ks w' K D A;have T:Sub x ks:=Y.sub K;have nr:=J.cz (A.get 2:aK _ _ _ _ _).a3;have ej:ha x.k (J.ao x.l) u.rx z.rx=uY x.k u.rx (ks.map J.rx):=by
   unfold ha
   grind
  refine aw (λh0=>⟨_,_,_,u.s,A.dZ 3 0,A.dZ 3 1,A.dZ 3 2,A.dZ 3 3,A.ae λw8 e=>⟨⟨u,rfl,?_,e.getD 1,λb d=>.inr (by grind)⟩,e.fr⟩⟩) (λh0=>aw (λS=>?_) (λS=>A.ae λw8 e=>⟨⟨.mk x.k 0 0 Z ks,rfl,?_,?_,λb d=>?_⟩,e.fr⟩))
  .have:ks=[]:=List.length_eq_zero_iff.1 io;rw[ej,this];rfl
  .obtain ⟨a,rfl⟩:=List.length_eq_one_iff.1 (show ks.length=1 by omega);refine A.el 2 0 rfl (t:=a) rfl (A.ae λw8 e=>⟨⟨a,rfl,?_,T.P _ (e.getD 0) a gs,λb d=>.inr (by simp[T.fp a gs b d])⟩,e.fr⟩);rw[ej];rfl
  .rw [ej];unfold J.rx;rw[J.fW];cases ks with
   |nil=>grind
   |cons a ks=>
    cases ks with
    |nil=>grind
    |cons b ks=>rfl
  .unfold J.P;exact⟨(e.get 2:aK _ _ _ _ _).a3,T.Ps (e.getD 0)⟩
  .unfold J.fp at d;rcases aP.1 d with d|d
   .exact .inl ((e.new _ (aD (i:=2) rfl) b (gY d)).resolve_right id)
   .exact .inr (by simp[T.bc d])
 have eo:∀w':I,O F0 w w' [.g G,.g H,.row aS 4 y ((gO x u).flatMap J.c)] [.tree x,.tree u,.tree z,dX B u,dX j z]->∀L∈aG y,L∉J.bc (gO x u):=λw' E L hy hm=>E.off 2 0 rfl rfl L hy (aW.2 (Y.bc hm));refine ct (λK=>?_) (λK=>fin y (gO x u) w4 (λ_ Q=>Q) (by rw[ag K,xr]) h);refine h.DB 2 rfl (hS y (gO x u) w4 io io (h.get 2) (ac w4 (h.getD 0)) (eo w4 h)) ?_;rintro _ w5 ⟨m,rfl,W,an,o5⟩ hH;have M:O F0 w w5 [.g G,.g H,.row aS 4 y (m.flatMap J.c)] [.tree x,.tree u,.tree z,dX B u,dX j z]:=hH (.row aS 4 y (m.flatMap J.c)) o5 λb d=>.inl d;have ah:Sub x m:=Y.sub λt q=>W.mem_iff.1 q;refine⟨rfl,M.DB 2 rfl (Wq y m w5 (by rw[aed W];omega) (M.get 2) (ah.Ps (M.getD 0)) (λL hy hm=>M.off 2 0 rfl rfl L hy (aW.2 (ah.bc hm)))) ?_⟩;rintro _ w6 ⟨s2,rfl,o6,n6⟩ am;have H7:O F0 w w6 [.g G,.g H,.row aS 4 s2 ((mf m).flatMap J.c)] [.tree x,.tree u,.tree z,dX B u,dX j z]:=am (.row aS 4 s2 ((mf m).flatMap J.c)) o6 λb d=>.inl (n6 b d);have ap:m.map J.rx=lY ((gO x u).map J.rx):=ady an (W.map _);exact⟨s2,rfl,fin s2 (mf m) w6 (λt q=>W.mem_iff.1 (XT q)) (by rw[ab K,XU,ap,xr]) H7⟩
def km{w:I}{x t:J}(h:x.P w){k:Nat}{X:Int}{K:Int->Int->Int->Sl->Prop}(q:X=(k:Int))(e:x.l[k]? =some t)(j:K t.k t.lo.toNat t.hi.toNat t.s):
  oh x.s X λp=>∃a b c:Int,∃d:Sl,w.cell? ((p.add (a0 X *4)).add 0)=some (.i a)/\w.cell? ((p.add (a0 X *4)).add 1)=some (.int .u8 b)/\w.cell? ((p.add (a0 X *4)).add 2)=some (.int .u8 c)/\w.cell? ((p.add (a0 X *4)).add 3)=some d.v/\K a b c d:=by subst q;have z:=J.cz h.parts.1;have y:=(cL.1 e).1;exact⟨io,io,J.a6 h.parts.1 e λp A c=>⟨_,_,_,_,c.c0,c.c1,c.c2,c.c3,j⟩⟩
def W7(x:J)(w:I)(M:x.P w)(C:x.k=6)(d:lJ x.rx=true):ai U vl #[x.v] w λr N=>gK x.fp w (rh x.lo x.hi (J.ao x.l)) r N/\af w N:=by
 have nr:=J.cz M.parts.1;rw[J.fv]at d;cases D:x.l with
 |nil=>rw[D,C]at d;simp[lJ,J.ao]at d
 |cons c L=>
  have A:x.l[0]? =some c:=by grind
  have E:c∈x.l:=aD A;have h:J.ao (c::L)=c.rx::J.ao L:=rfl;refine R'.aq ((gT M).ax λY w1 O=>O.ax λZ T q=>?_);have F:x.P T:=q.getD 0;have n2:0<x.s.n:=by grind
  refine⟨io,io,J.a6 F.parts.1 A λp S y=>⟨c.k,y.c0,aw (λj=>?_) (λj=>q.ae λaa G=>⟨⟨x,rfl,?_,G.getD 0,λb z=>.inr z⟩,G.fr⟩)⟩⟩
  .refine ⟨io,io,J.a6 F.parts.1 A λp S y=>⟨c.s,y.c3,?_⟩⟩;cases K:c.l with
   |nil=>
    rw[D,h]at d;have Q:c.rx.l.isEmpty=true:=by rw[yB,K];rfl
    simp[lJ,C,mF,j,Q]at d
   |cons e l2=>
    have B:c.l[0]? =some e:=by grind
    refine km (F.parts.2.mem E) rfl B (q.ae λW H=>⟨⟨e,rfl,?_,((show x.P W from H.getD 0).parts.2.mem E).parts.2.mem (aD B),λb z=>.inr (J.gP.2 (.inr (J.bX.2 ⟨c,E,J.gP.2 (.inr (J.bX.2 ⟨e,aD B,z⟩))⟩)))⟩,H.fr⟩);rw[h];show e.rx=if c.rx.k=6 then _ else _;rw[ag (by rw[mF,j]),yB,K];rfl
  .rw [h];show x.rx=if c.rx.k=6 then _ else _;rw[ab (by rw[mF];exact j),J.fv,C,D,h]
def Xj(x m v:J)(q z:Nat)(w:I)(hx:x.sz<=1000000)(px:x.P w)(pm:m.P w)(pv:v.P w)(hm:w.heap[q]? =some (.cells m.c.toArray aS (0,0)))(hv:w.heap[z]? =some (.cells v.c.toArray aS (0,0)))(em:m.rx=oE)(ev:v.rx=eR)(Z:x.k=7)(H:lJ x.rx=true):
  ai U vm #[x.v,.pointer (some (aa q)),.pointer (some (aa z))] w λr e=>gK (x.fp++(m.fp++v.fp)) w (mH x.lo x.hi (J.ao x.l)) r e/\af w e:=by
 have nr:=J.cz px.parts.1;rw[J.fv]at H;cases hl:x.l with
 |nil=>rw[hl,Z]at H;simp[lJ,J.ao]at H
 |cons c E=>
  have Y:x.l[0]? =some c:=by grind
  have F:c∈x.l:=aD Y;have C:J.ao (c::E)=c.rx::J.ao E:=rfl;have H0:O F0 w w [] [.tree x,.tree m,.tree v,dX q m,dX z v]:=bM _ (by
   intro aj W;simp only[aF,aZ,a7]at W;rcases W with rfl|rfl|rfl|rfl|rfl
   .exact px
   .exact pm
   .exact pv
   .exact hm
   .exact hv)
  refine Br.aq (H0.ax λN w1 H1=>H1.ax λB w2 K=>?_);have n2:0<x.s.n:=by grind
  have sc:c.sz<=1000000:=by have:=J.eP F;have:=J.iW x;omega
  have fc:∀b∈c.fp,b∈x.fp:=λb D=>J.gP.2 (.inr (J.bX.2 ⟨c,F,D⟩));refine km (show x.P w2 from K.getD 0) rfl Y (K.ax λG w3 A=>?_);have ah:c.k=0\/c.k=1->∀e:I,O F0 w e [.g N,.g B,.g G] [.tree x,.tree m,.tree v,dX q m,dX z v]->Br.aV (aa q) B 0 0 0 ⟨none,0,0⟩ e λr e=>gK (x.fp++(m.fp++v.fp)) w (mH x.lo x.hi (J.ao (c::E))) r e/\af w e:=λy e j=>
   ⟨_,_,_,m.s,j.dZ 3 0,j.dZ 3 1,j.dZ 3 2,j.dZ 3 3,j.ae λh d=>⟨⟨m,rfl,by
    rw[em,C];show _=if c.rx.k=0\/c.rx.k=1 then _ else _;rw[mF,ag y],d.getD 1,λb D=>.inr (by grind)⟩,d.fr⟩⟩
  have ac:¬(c.k=0\/c.k=1)->(c.k=7\/bj c.rx eR=0)->∀e:I,O F0 w e [.g N,.g B,.g G] [.tree x,.tree m,.tree v,dX q m,dX z v]->Br.bg B 0 0 0 ⟨none,0,0⟩ G c.k c.lo.toNat c.hi.toNat c.s e λr e=>gK (x.fp++(m.fp++v.fp)) w (mH x.lo x.hi (J.ao (c::E))) r e/\af w e:=λhn y e j=>
   j.ae λh d=>⟨⟨c,rfl,by
    rw[C];show _=if c.rx.k=0\/c.rx.k=1 then _ else if c.rx.k=7\/bj c.rx eR=0 then _ else _;rw[mF,ab hn,ag y],(show x.P h from d.getD 0).parts.2.mem F,λb D=>.inr (by grind)⟩,d.fr⟩
  refine aw (λQ=>A.ae λh d=>ah (.inl Q) h d) (λQ=>aw (λS=>A.ae λh d=>ah (.inr S) h d) (λS=>aw (λT=>A.ae λh d=>ac io (.inl T) h d) (λT=>A.ae λh d=>⟨_,_,_,v.s,d.dZ 4 0,d.dZ 4 1,d.dZ 4 2,d.dZ 4 3,?_⟩)));refine d.av (wS c v h sc ((show x.P h from d.getD 0).parts.2.mem F) (d.getD 2)) ?_;rintro _ w5 rfl L;rw[ev];refine⟨_,rfl,aw (λy=>ac io (.inr y) w5 L) (λy=>L.ae λw6 M=>⟨⟨x,rfl,?_,M.getD 0,λb D=>.inr (by grind)⟩,M.fr⟩)⟩;rw[C];show x.rx=if c.rx.k=0\/c.rx.k=1 then _ else if c.rx.k=7\/bj c.rx eR=0 then _ else _;rw[mF,ab io,ab io,J.fv,Z,hl,C]
structure Fm where
 m:Nat
 es:Array MapEntry
 clock:Nat
 ms:List (Int×V)
 cs:List (Nat×J)
 s:Sl
def cu:J:=.mk 0 0 0 ⟨none,0,0⟩ []
def fS:J:=.mk 1 0 0 ⟨none,0,0⟩ []
def Fm.ev(F:Fm):J:=.mk 6 0 0 F.s [cu]
def _root_.Go.W.En.fm(F:Fm):En:=.all (.ob F.m (.map F.es F.clock)::.tree F.ev::F.cs.map λp=>dX p.1 p.2)
def u'(a b:Nat):V:=.func (.func AS) #[] #[.pointer (some (aa a)),.pointer (some (aa b))]
def jq:V:=.func (.func x9) #[] #[]
def t'(cs:List (Nat×J))(e:J)(k:Int)(v:V):Prop:=
 ((k=0\/k=1\/k=2)/\v=jq)\/(∃u d a b,((k=3/\u=fS/\d=cu)\/(k=4/\u=cu/\d=e)\/(k=5/\u=e/\d=cu))/\v=u' a b/\(a,u)∈cs/\(b,d)∈cs)\/
 (k=6/\v=.func (.func vl) #[] #[])\/∃a b,k=7/\v=.func (.func vm) #[] #[.pointer (some (aa a)),.pointer (some (aa b))]/\(a,fS)∈cs/\(b,e)∈cs
structure Fm.Ok(F:Fm):Prop where
 ms:ud .i64 F.es F.ms
 all:∀k:Int,0<=k->k<8->∃v,mw F.ms k=some v/\t' F.cs F.ev k v
section
variable {F:Fm} {w:I}
def YN(d:(En.fm F).P w):w.heap[F.m]? =some (.map F.es F.clock):=d (.ob F.m (.map F.es F.clock)) gs
def Ew(d:(En.fm F).P w):F.ev.P w:=d (.tree F.ev) gs
def Aa(d:(En.fm F).P w){a:Nat}{u:J}(e:(a,u)∈F.cs):w.heap[a]? =some (.cells u.c.toArray aS (0,0)):=d (dX a u) (cP _ (cP _ (dA.2 ⟨(a,u),e,rfl⟩)))
def Ex{b:Nat}(d:b∈F.ev.fp):b∈(En.fm F).fp:=aW.2 (ck.2 ⟨.tree F.ev,gs,aW.2 d⟩)
def lO(w:I):cu.P w:=Qo w
def zW(w:I):fS.P w:=by unfold fS J.P J.Ps;exact⟨bh.nil 4 w,trivial⟩
def lP{b:Nat}(d:b∈cu.fp):False:=Qn d
def zY{b:Nat}(d:b∈fS.fp):False:=by unfold fS J.fp J.bc at d;simp[En.a3]at d
def gK.sub{d e:List Nat}{x:Rx}{r:cW}{w':I}(h:gK d w x r w')(A:∀b∈d,b∈e):gK e w x r w':=by obtain⟨t,j,k,q,y⟩:=h;exact⟨t,j,k,q,λb z=>(y b z).imp id (A b)⟩
def Nl:CH U ln bz oc .i64 .nilFunc:=⟨by kernel_rfl,by kernel_rfl,by kernel_rfl⟩
end
def aau{P:au}{T kt x:aE}{kd:IntKind}{z:V}(e:CH P T kt x kd z){w:I}{h:Nat}{es:Array MapEntry}{clock:Nat}{ms:List (Int×V)}(B:w.heap[h]? =some (.map es clock))(C:ud kd es ms)(k:Int):(Instr.lookup T (.map (some h)) (.int kd k) false).run P w=.ok ((mw ms k).getD z) w:=by
 have y:=Es (k:=k) (i:=0) C;have A:(getObj h).run P w=.ok (.map es clock) w:=by simp[getObj,Sem.run,B]
 have d:=Ni (ms:=ms) (k:=k) (i:=0);unfold Instr.lookup Instr.findKey;simp only[Sem.run_bind,run_underlying e.hT,Result.andThen_ok,A,Sem.run_pure,J3 e.hk,run_underlying e.hk,y];cases j:((ms.findIdx? λp=>p.1==k).bind λq=>(ms[q]?).map λp=>(0+q,p.2))with
 |none=>rw[j]at d;simp[<-d,Cq e.hz]
 |some D=>rw[j]at d;simp[<-d]
def WN{N:Nat}(Y:mT N)(W:N<=1000000){F:Fm}(L:F.Ok){w:I}(Q:(En.fm F).P w)(k:Int)(S:0<=k)(T:k<8):
  ∃f:Fv,(Instr.lookup ln (.map (some F.m)) (.i k) false).run U w=.ok f.v w/\hy U f.n=true/\∀(x:J) (w':I),(En.fm F).P w'->x.P w'->x.k=k->(x.k=4\/x.k=5->vF x.k (J.ao x.l)<=N)->x.sz<=1000000->lJ x.rx=true->
   ai U f.n (f.bs++#[x.v]++f.cs) w' λr M=>gK (x.fp++(En.fm F).fp) w' (iw x.rx) r M/\af w' M:=by
 have mo:=Nl;obtain⟨v,hv,Z⟩:=L.all k S T;have y:=aau mo (YN Q) L.ms k;rw[hv,Option.getD_some]at y;have E:∀x:J,iw x.rx=if x.k=3 then ha 3 (J.ao x.l) oE fU else if x.k=4 then ha 4 (J.ao x.l) fU eR else if x.k=5 then ha 5 (J.ao x.l) eR fU else if x.k=6 then rh x.lo x.hi (J.ao x.l)else if x.k=7 then mH x.lo x.hi (J.ao x.l)else x.rx:=λx=>by rw[J.fv];rfl
 rcases Z with⟨q,rfl⟩|⟨u,K,a,b,q,rfl,G,C⟩|⟨rfl,rfl⟩|⟨a,b,rfl,rfl,G,C⟩
 .refine ⟨⟨x9,#[],#[]⟩,y,by kernel_rfl,λx w' h j e D A B=>((WV x w' j).mono ?_)⟩;rintro _ H ⟨rfl,f⟩;refine⟨⟨x,rfl,?_,j.cA f,λb C=>.inr (by grind)⟩,f⟩
  grind
 .refine ⟨⟨AS,#[],#[.pointer (some (aa a)),.pointer (some (aa b))]⟩,y,by kernel_rfl,λx w' h j e D A B=>?_⟩;have pu:u.P w':=by
   rcases q with⟨_,rfl,_⟩|⟨_,rfl,_⟩|⟨_,rfl,_⟩
   .exact zW w'
   .exact lO w'
   .exact Ew h
  have pz:K.P w':=by
   rcases q with⟨_,_,rfl⟩|⟨_,_,rfl⟩|⟨_,_,rfl⟩
   .exact lO w'
   .exact Ew h
   .exact lO w'
  refine(W0 Y W x u K a b w' (λh3=>D io) A j pu pz (Aa h G) (Aa h C)).mono ?_;rintro r H ⟨z,f⟩;refine⟨?_,f⟩;have O:iw x.rx=ha x.k (J.ao x.l) u.rx K.rx:=by
   rw[E];rcases q with⟨rfl,rfl,rfl⟩|⟨rfl,rfl,rfl⟩|⟨rfl,rfl,rfl⟩
   .rw [ag e,e];rfl
   .rw [ab io,ag e,e];rfl
   .rw [ab io,ab io,ag e,e];rfl
  rw[O];refine z.sub λc d=>?_;rcases aP.1 d with d|d
  .grind
  .rcases aP.1 d with d|d
   .rcases q with⟨_,rfl,_⟩|⟨_,rfl,_⟩|⟨_,rfl,_⟩
    .exact (zY d).elim
    .exact (lP d).elim
    .exact da _ (Ex d)
   .rcases q with⟨_,_,rfl⟩|⟨_,_,rfl⟩|⟨_,_,rfl⟩
    .exact (lP d).elim
    .exact da _ (Ex d)
    .exact (lP d).elim
 .refine ⟨⟨vl,#[],#[]⟩,y,by kernel_rfl,λx w' h j e D A B=>((W7 x w' j e B).mono ?_)⟩;rintro r H ⟨z,f⟩;refine⟨?_,f⟩;rw[E,ab io,ab io,ab io,ag e];exact z.sub λc d=>by grind
 .refine ⟨⟨vm,#[],#[.pointer (some (aa a)),.pointer (some (aa b))]⟩,y,by kernel_rfl,λx w' h j e D A B=>((Xj x fS F.ev a b w' A j (zW w') (Ew h) (Aa h G) (Aa h C) rfl rfl e B).mono ?_)⟩;rintro r H ⟨z,f⟩;refine⟨?_,f⟩;rw[E,ab io,ab io,ab io,ab io,ag e];refine z.sub λc d=>?_;rcases aP.1 d with d|d
  .grind
  .rcases aP.1 d with d|d
   .exact (zY d).elim
   .exact da _ (Ex d)
namespace R6
noncomputable def C0:Code:=(Tryz.f166.body).getD .skip
noncomputable def C1:=C0.sn
noncomputable def C2:=C1.sn
noncomputable def C3:=C2.sn
noncomputable def C4:=C3.sn
noncomputable def C5:=C4.sn
noncomputable def C6:=C5.sn
def ok(w:I)(R:aC)(z:de w (.cells #[.i 0,.int .u8 0,.int .u8 0,.slice none 0 0] aS) λe=>
 de e (.cells #[.i 0,.int .u8 0,.int .u8 0,.slice none 0 0] aS) λD=>
 n7 D (nb w) (.i 0) (.int .u8 0) (.int .u8 0) (.slice none 0 0) λF=>aN F (nb e) (.i 1) λG=>
 aN G ((nb e).add 1) (.int .u8 0) λH=>
 aN H ((nb e).add 2) (.int .u8 0) λJ=>
 aN J ((nb e).add 3) (.slice none 0 0) λh=>
 jM h (nb w) λk q x y=>de h (.cells #[.i k,.int .u8 q,.int .u8 x,y.v] aS) λj=>
 de j (.cells #[.i 0,.int .u8 0,.int .u8 0,.slice none 0 0] aS) λB=>
 n7 B (nb j) (.i 6) (.int .u8 0) (.int .u8 0) (.slice (some (nb h)) 1 1) λC=>yE U C5 (λE w=>lW U Tryz.f166 E w (λv=>R (ad v) w)) [(5,.func (.func AR) #[] #[]),(4,.func (.func x9) #[] #[]),(3,.pointer (some (nb j))),(10,.agg #[.i 6,.int .u8 0,.int .u8 0,.slice (some (nb h)) 1 1]),(9,.slice (some (nb h)) 1 1),(8,.agg #[.i k,.int .u8 q,.int .u8 x,y.v]),(2,.pointer (some (nb e))),(1,.pointer (some (nb w))),(7,.agg #[.i 1,.int .u8 0,.int .u8 0,.slice none 0 0]),(6,.agg #[.i 0,.int .u8 0,.int .u8 0,.slice none 0 0]),(0,.map none)] C):ai U OZ #[] w R:=
 wW (R:=R) (fn:=Tryz.f166) (c:=C0) (args:=[]) (by kernel_rfl) (by kernel_rfl) (by kernel_rfl) (sr C0 (show(λ(E:Env) (w:I)=>eV U C0 (λE w=>eV U C1 (λE w=>eV U C2 (λE w=>eV U C3 (λE w=>eV U C4 (λE w=>yE U C5 (λE w=>lW U Tryz.f166 E w (λv=>R (ad v) w)) E w) E w) E w) E w) E w) E w) (kS 0 []) w from mp z) λ_ _ d=>(sr C1 d λ_ _ d=>(sr C2 d λ_ _ d=>(sr C3 d λ_ _ d=>(sr C4 d λ_ _ d=>(si C5 (by kernel_rfl) d λ_ _ d=>(rt C6 λa A=>yv A d)))))))
end R6
def Vo{M:Nat->Prop}{w0 w:I}{L j D:List En}(H:O M w0 w L D)(h:L.Perm j):O M w0 w j D:=
 ⟨H.fr,λd e=>H.own d (h.mem_iff.2 e),H.rd,λd e=>H.new d (h.mem_iff.2 e),(h.flatMap_right (·.fp)).nodup_iff.1 H.nd,λd e b q k x=>H.dj d e b q k (h.mem_iff.2 x)⟩
def ia{L:Nat->Bool}{i j:Nat}(d:j≠i):eb L i j=L j:=by
 have:bI j i=false:=by rw[<-iF,eJ];exact d
 grind
def Ti{L:Nat->Bool}{i:Nat}:eb L i i=true:=by simp[eb]
def acG{P:au}{fn:Func}{E:Env}{w:I}{K:V->Prop}{t:Nat}{v:V}(e:fn.results.toList=[.tmp t])(h:E.get? t=some v)(d:K v):lW P fn E w K:=by unfold lW;rw[e];unfold tl;rw[h];exact d
def z':List (Op×Option Nat×aE×List Nat):=[
 (.makeMap ln none,some 11,ln,[]),
 (.move (.tmp 4),some 12,oc,[]),
 (.insert ln (.tmp 11) (.const (.int .i64 0)) (.tmp 12),none,oa,[0,1]),
 (.move (.tmp 4),some 13,oc,[]),
 (.insert ln (.tmp 11) (.const (.int .i64 1)) (.tmp 13),none,oa,[0,3]),
 (.move (.tmp 4),some 14,oc,[]),
 (.insert ln (.tmp 11) (.const (.int .i64 2)) (.tmp 14),none,oa,[0,5]),
 (.move (.tmp 5),some 15,HZ,[]),
 (.load aS (.tmp 2),some 16,aS,[]),
 (.load aS (.tmp 1),some 17,aS,[]),
 (.call ⟨.value (.tmp 15),#[.tmp 16,.tmp 17],#[aS,aS]⟩,some 18,oc,[7,8,9]),
 (.insert ln (.tmp 11) (.const (.int .i64 3)) (.tmp 18),none,oa,[0,10]),
 (.move (.tmp 5),some 19,HZ,[]),
 (.load aS (.tmp 1),some 20,aS,[]),
 (.load aS (.tmp 3),some 21,aS,[]),
 (.call ⟨.value (.tmp 19),#[.tmp 20,.tmp 21],#[aS,aS]⟩,some 22,oc,[12,13,14,10]),
 (.insert ln (.tmp 11) (.const (.int .i64 4)) (.tmp 22),none,oa,[0,15]),
 (.move (.tmp 5),some 23,HZ,[]),
 (.load aS (.tmp 3),some 24,aS,[]),
 (.load aS (.tmp 1),some 25,aS,[]),
 (.call ⟨.value (.tmp 23),#[.tmp 24,.tmp 25],#[aS,aS]⟩,some 26,oc,[17,18,19,15]),
 (.insert ln (.tmp 11) (.const (.int .i64 5)) (.tmp 26),none,oa,[0,20]),
 (.insert ln (.tmp 11) (.const (.int .i64 6)) (.func vl),none,oa,[0]),
 (.makeFunc (.func vm) #[] #[.tmp 2,.tmp 3],some 27,oc,[]),
 (.insert ln (.tmp 11) (.const (.int .i64 7)) (.tmp 27),none,oa,[0,23]),
 (.move (.tmp 11),some 28,ln,[0,1,2,3,4,5,6,7,8,9,10,11,12,13,14,15,16,17,18,19,20,21,22,23,24]),
 (.assign (.tmp 28),some 0,ln,[25,20,0,1,2,3,4,5,6,7,8,9,10,11,12,13,14,15,16,17,18,19,20,21,22,23,24,25])]
abbrev ptr(b:Nat):V:=.pointer (some (aa b))
abbrev l2:V:=.func (.func AR) #[] #[]
abbrev BV(a b:Nat):V:=.func (.func vm) #[] #[ptr a,ptr b]
abbrev fG(s:Sl):J:=.mk 6 0 0 s [cu]
def ch(j d e:Nat)(h:J):List (Nat×Nat×V):=[(0,1,ptr j),(0,2,ptr d),(0,3,ptr e),(0,4,jq),(0,5,l2),(2,12,jq),(4,13,jq),(6,14,jq),(8,15,l2),(9,16,fS.v),(10,17,cu.v),(13,19,l2),(14,20,cu.v),(15,21,h.v),(18,23,l2),(19,24,h.v),(20,25,cu.v),(24,27,BV d e)]
def eN:List (Nat×Int):=[(2,0),(4,1),(6,2),(11,3),(16,4),(21,5),(22,6),(24,7)]
def iz(d:J):List (Nat×Nat×J×J):=[(10,18,fS,cu),(15,22,cu,d),(20,26,d,cu)]
def Joined(e:J)(cs:List (Nat×J))(L:Nat->Bool)(E:Env):Prop:=∀d∈iz e,L d.1=true->∃a b,E.get? d.2.1=some (u' a b)/\(a,d.2.2.1)∈cs/\(b,d.2.2.2)∈cs
def zg(h:J)(cs:List (Nat×J))(L:Nat->Bool)(E:Env)(mp:List En):Prop:=(L 0=false/\mp=[]/\(∀d∈eN,L d.1=false)/\L 25=false/\L 26=false)\/
 (L 0=true/\∃(m:Nat) (es:Array MapEntry) (clock:Nat) (ms:List (Int×V)),mp=[.ob m (.map es clock)]/\E.get? 11=some (.map (some m))/\ud .i64 es ms/\(∀e v,mw ms e=some v->t' cs h e v)/\(∀d∈eN,(mw ms d.2).isSome=L d.1)/\
  (L 25=true->E.get? 28=some (.map (some m)))/\(L 26=true->E.get? 0=some (.map (some m))))
abbrev q3(d e h:Nat)(s:Sl):List En:=[dX d cu,dX e fS,.row aS 4 s cu.c,dX h (fG s)]
structure FJ(w0:I)(b1 b2 b4:Nat)(s:Sl)(L:Nat->Bool)(E:Env)(w:I):Prop where
 st:pw (ch b1 b2 b4 (fG s)) L E
 hp:∃(mp X:List En) (cs:List (Nat×J)),O F0 w0 w (mp++(q3 b1 b2 b4 s++X)) []/\(∀p∈cs,dX p.1 p.2∈q3 b1 b2 b4 s++X)/\(b2,fS)∈cs/\(b4,fG s)∈cs/\Joined (fG s) cs L E/\zg (fG s) cs L E mp
def t'.mono{cs x:List (Nat×J)}{y:J}{k:Int}{v:V}(d:t' cs y k v)(e:∀p∈cs,p∈x):t' x y k v:=by
 rcases d with d|⟨u,z,a,b,h,j,q,w⟩|d|⟨a,b,h,j,q,w⟩
 .exact .inl d
 .exact .inr (.inl ⟨u,z,a,b,h,j,e _ q,e _ w⟩)
 .exact .inr (.inr (.inl d))
 .exact .inr (.inr (.inr ⟨a,b,h,j,e _ q,e _ w⟩))
def Nj(ms:List (Int×V))(k d:Int)(v:V):mw (ms++[(k,v)]) d=(mw ms d).or (if k=d then some v else none):=by
 unfold mw
 grind
section
variable {w0 w:I} {b1 b2 b4:Nat} {s:Sl} {L:Nat->Bool} {E:Env}
def zg.cw{w:J}{cs q:List (Nat×J)}{mp:List En}(e:zg w cs L E mp)(G:∀p∈cs,p∈q)(i d:Nat)(v:V)(hi:∀H∈[0,25,26,2,4,6,11,16,21,22,24],H≠i)(hd:∀t∈[11,28,0],d≠t):zg w q (eb L i) (E.put (some d) v) mp:=by
 have P:∀h∈eN,eb L i h.1=L h.1:=λh j=>ia (hi _ (by simp only[eN,aF,aZ,a7]at j;rcases j with rfl|rfl|rfl|rfl|rfl|rfl|rfl|rfl<;>simp));have Q:eb L i 0=L 0:=ia (hi 0 gs);have M:eb L i 25=L 25:=ia (hi 25 gs);have N:eb L i 26=L 26:=ia (hi 26 gs);rcases e with⟨B,k,x,y,z⟩|⟨B,m,A,clock,ms,k,x,y,z,O,C,D⟩
 .exact .inl ⟨by grind,k,λh j=>by grind,by grind,by grind⟩
 .refine .inr ⟨by grind,m,A,clock,ms,k,?_,y,λK v F=>(z K v F).mono G,λh j=>by grind,λe=>?_,λe=>?_⟩
  .rw [jL (hd 11 gs),x]
  .rw [jL (hd 28 gs),C (M▸e)]
  .rw [jL (hd 0 gs),D (N▸e)]
def FJ.stat(h:FJ w0 b1 b2 b4 s L E w)(i d:Nat)(v:V)(B:∀e∈ch b1 b2 b4 (fG s),e.1=i+1->e=(i+1,d,v))(C:∀e∈ch b1 b2 b4 (fG s),e.2.1=d->e.1=i+1)(hi:∀x∈[0,25,26,2,4,6,11,16,21,22,24],x≠i)(k:∀x∈[10,15,20],x≠i)(hd:∀t∈[11,28,0],d≠t)(j:∀t∈[18,22,26],d≠t):FJ w0 b1 b2 b4 s (eb L i) (E.put (some d) v) w:=by
 obtain⟨mp,X,A,z,F,H,K,G,J⟩:=h.hp;refine⟨h.st.fill B C,mp,X,A,z,F,H,K,λe q D=>?_,J.cw (λ_ h=>h) i d v hi hd⟩;have y:eb L i e.1=L e.1/\d≠e.2.1:=by
  simp only[iz,aF,aZ,a7]at q;rcases q with rfl|rfl|rfl
  .exact ⟨ia (k 10 gs),j 18 gs⟩
  .exact ⟨ia (k 15 gs),j 22 gs⟩
  .exact ⟨ia (k 20 gs),j 26 gs⟩
 rw[jL y.2];exact G e q (y.1▸D)
def FJ.ins(q:FJ w0 b1 b2 b4 s L E w)(i:Nat)(k:Int)(v:V)(h:(i,k)∈eN)(h0:L 0=true)(hi:L i=false)(hv:∀j,(b2,fS)∈j->(b4,fG s)∈j->Joined (fG s) j L E->t' j (fG s) k v):
  ∃m,E.get? 11=some (.map (some m))/\∃y,(Instr.mapUpdate ln (.map (some m)) (.i k) v).run U w=.ok () y/\FJ w0 b1 b2 b4 s (eb L i) (E.put none undef) y:=by
 obtain⟨mp,X,j,B,N,S,O,P,T⟩:=q.hp;rcases T with⟨aa,_⟩|⟨_,m,es,clock,ms,rfl,C,G,h4,D,H,J⟩
 .grind
 have F:mw ms k=none:=by have:=D _ h;rw[hi]at this;simpa using this
 obtain⟨y,A,W,Y,Z,r4,r5⟩:=aaG Nl (B.ob (b:=m) 0 rfl) G k v F;refine⟨m,C,y,W,q.st.pass ?_ (λ_ _=>gs),[.ob m (.map A (clock+1))],X,j,B.fx 0 (.ob m (.map A (clock+1))) rfl (r4.mono λac _ z=>by simp[En.ob,z]) Y (λb M=>.inl M),N,S,O,λe d K=>?_,.inr ⟨?_,m,A,clock+1,ms++[(k,v)],rfl,C,Z,λk' v' Q=>?_,λe d=>?_,λq=>?_,λq=>?_⟩⟩
 .intro e d;simp only[eN,aF,aZ,a7,fy]at h;simp only[ch,aF,aZ,a7]at d
  (repeat' rcases d with rfl|d)<;>(try subst d)<;>simp only<;>omega
 .have z:eb L i e.1=L e.1:=ia (by
   simp only[eN,aF,aZ,a7,fy]at h;simp only[iz,aF,aZ,a7]at d
   grind)
  exact P e d (z▸K)
 .grind
 .rw [Nj]at Q
  grind
 .rw [Nj];by_cases x:e.1=i
  .have:e.2=k:=by simp only[eN,aF,aZ,a7,fy]at h;simp only[eN,aF,aZ,a7]at d;rcases d with rfl|rfl|rfl|rfl|rfl|rfl|rfl|rfl<;>simp only at x ⊢<;>omega
   rw[x,Ti,this,F,ag rfl];rfl
  .have:k≠e.2:=by simp only[eN,aF,aZ,a7,fy]at h;simp only[eN,aF,aZ,a7]at d;rcases d with rfl|rfl|rfl|rfl|rfl|rfl|rfl|rfl<;>simp only at x ⊢<;>omega
   rw[ia x,ab this,<-D e d];simp
 .exact H (by rwa[ia (by simp only[eN,aF,aZ,a7,fy]at h;omega)]at q)
 .exact J (by rwa[ia (by simp only[eN,aF,aZ,a7,fy]at h;omega)]at q)
def FJ.call(x:FJ w0 b1 b2 b4 s L E w)(i d:Nat)(u z:J)(y:(i,d,u,z)∈iz (fG s)):ai U AR #[u.v,z.v] w λk P=>∃v,k=ad v/\FJ w0 b1 b2 b4 s (eb L i) (E.put (some d) v) P:=by
 obtain⟨mp,X,D,A,T,Z,W,H,M⟩:=x.hp;have Y:(i=10/\d=18)\/(i=15/\d=22)\/(i=20/\d=26):=by simp only[iz,aF,aZ,a7,fy]at y;omega
 refine R8.ok (A.nw λj ab B=>B.nw λw2 ac C=>⟨u' w.heap.size j.heap.size,rfl,x.st.pass ?_ ?_,mp,X++[dX w.heap.size u,dX j.heap.size z],(w.heap.size,u)::(j.heap.size,z)::D,?_,?_,by grind,by grind,λh e G=>?_,M.cw (λp aa=>by grind) i d _ ?_ ?_⟩)
 .intro h e;simp only[ch,aF,aZ,a7]at e
  (repeat' rcases e with rfl|e)<;>(try subst e)<;>simp only<;>omega
 .intro h e q;have q:d=h.2.1:=ed q;simp only[ch,aF,aZ,a7]at e
  (repeat' rcases e with rfl|e)<;>(try subst e)<;>simp only at q<;>omega
 .have k:mp++(q3 b1 b2 b4 s++(X++[dX w.heap.size u,dX j.heap.size z]))=mp++(q3 b1 b2 b4 s++X)++[dX w.heap.size u]++[dX j.heap.size z]:=gs
  rw[k];exact C
 .grind
 .by_cases O:h.1=i
  .have:h=(i,d,u,z):=by
    simp only[iz,aF,aZ,a7,fy]at y;simp only[iz,aF,aZ,a7]at e
    grind
   subst this;exact⟨_,_,u3,gs,gs⟩
  .have N:d≠h.2.1:=by
    simp only[iz,aF,aZ,a7]at e
    grind
   obtain⟨a,b,F,Q,S⟩:=H h e (by rwa[ia O]at G);exact⟨a,b,by rw[jL N,F],by grind,by grind⟩
 .intro ae K;simp only[aF,aZ,a7]at K;omega
 grind
def FJ.mk0(h:FJ w0 b1 b2 b4 s L E w)(K:L 0=false):FJ w0 b1 b2 b4 s (eb L 0) (E.put (some 11) (.map (some w.heap.size))) (w.alloc (.map #[] 0)):=by
 obtain⟨mp,X,x,q,C,H,D,F,J⟩:=h.hp;rcases J with⟨_,rfl,y,z,A⟩|⟨M,_⟩
 .refine ⟨h.st.pass ?_ ?_,[.ob w.heap.size (.map #[] 0)],X,x,Vo (q.alloc (.map #[] 0)) ?_,C,H,D,λe d B=>?_,.inr ⟨Ti,w.heap.size,#[],0,[],rfl,u3,rfl,λN v G=>by simp[mw]at G,λe d=>?_,λh=>?_,λh=>?_⟩⟩
  .intro e d;simp only[ch,aF,aZ,a7]at d
   (repeat' rcases d with rfl|d)<;>(try subst d)<;>simp
  .intro e d j;have j:11=e.2.1:=ed j;simp only[ch,aF,aZ,a7]at d
   (repeat' rcases d with rfl|d)<;>(try subst d)<;>simp at j
  .exact List.perm_append_comm
  .have k:eb L 0 e.1=L e.1/\11≠e.2.1:=by simp only[iz,aF,aZ,a7]at d;rcases d with rfl|rfl|rfl<;>exact⟨ia gs,gs⟩
   rw[jL k.2];exact F e d (k.1▸B)
  .rw [ia (by
    simp only[eN,aF,aZ,a7]at d
    grind),y e d]
   simp[mw]
  .rw [ia dl,z]at h;cases h
  .rw [ia dl,A]at h;cases h
 grind
def FJ.m25(h:FJ w0 b1 b2 b4 s L E w)(N:L 0=true):∃m,E.get? 11=some (.map (some m))/\FJ w0 b1 b2 b4 s (eb L 25) (E.put (some 28) (.map (some m))) w:=by
 obtain⟨mp,X,z,y,G,K,H,J,M⟩:=h.hp;rcases M with⟨O,_⟩|⟨_,m,q,clock,ms,rfl,x,A,B,C,P,D⟩
 .grind
 refine⟨m,x,h.st.pass ?_ ?_,[.ob m (.map q clock)],X,z,y,G,K,H,λe d F=>?_,.inr ⟨by grind,m,q,clock,ms,rfl,by rw[jL dl,x],A,B,λe d=>?_,λ_=>u3,λh=>?_⟩⟩
 .intro e d;simp only[ch,aF,aZ,a7]at d
  (repeat' rcases d with rfl|d)<;>(try subst d)<;>simp
 .intro e d j;have j:28=e.2.1:=ed j;simp only[ch,aF,aZ,a7]at d
  (repeat' rcases d with rfl|d)<;>(try subst d)<;>simp at j
 .have k:eb L 25 e.1=L e.1/\28≠e.2.1:=by simp only[iz,aF,aZ,a7]at d;rcases d with rfl|rfl|rfl<;>exact⟨ia gs,gs⟩
  rw[jL k.2];exact J e d (k.1▸F)
 .rw [ia (by
   simp only[eN,aF,aZ,a7]at d
   grind),C e d]
 .rw [jL dl];exact D (by rwa[ia dl]at h)
def FJ.m26(h:FJ w0 b1 b2 b4 s L E w)(O:L 0=true)(A:L 25=true):∃m,E.get? 28=some (.map (some m))/\FJ w0 b1 b2 b4 s (eb L 26) (E.put (some 0) (.map (some m))) w:=by
 obtain⟨mp,X,y,x,H,M,J,K,N⟩:=h.hp;rcases N with⟨P,_⟩|⟨_,m,q,clock,ms,rfl,z,B,C,D,F,Q⟩
 .grind
 refine⟨m,F A,h.st.pass ?_ ?_,[.ob m (.map q clock)],X,y,x,H,M,J,λe d G=>?_,.inr ⟨by grind,m,q,clock,ms,rfl,by rw[jL dl,z],B,C,λe d=>?_,λh=>?_,λ_=>u3⟩⟩
 .intro e d;simp only[ch,aF,aZ,a7]at d
  (repeat' rcases d with rfl|d)<;>(try subst d)<;>simp
 .intro e d j;have j:0=e.2.1:=ed j;simp only[ch,aF,aZ,a7]at d
  (repeat' rcases d with rfl|d)<;>(try subst d)<;>simp at j
 .have k:eb L 26 e.1=L e.1/\0≠e.2.1:=by simp only[iz,aF,aZ,a7]at d;rcases d with rfl|rfl|rfl<;>exact⟨ia gs,gs⟩
  rw[jL k.2];exact K e d (k.1▸G)
 .rw [ia (by
   simp only[eN,aF,aZ,a7]at d
   grind),D e d]
 .rw [jL dl]
  grind
def FJ.ld(y:FJ w0 b1 b2 b4 s L E w){u:J}{b:Nat}(z:dX b u∈q3 b1 b2 b4 s){K:V->Prop}(H:K u.v):oO U aS (aa b) w λv _=>K v:=by
 obtain⟨mp,X,F,x,_⟩:=y.hp;have d:w.heap[b]? =some (.cells u.c.toArray aS (0,0)):=x.own (dX b u) (da _ (List.mem_append_left _ z));have A:=cellAt (p:=aa b) (i:=0) (v:=.int .i64 u.k) d rfl rfl;have B:=cellAt (p:=aa b) (i:=1) (v:=.int .u8 (u.lo.toNat:Int)) d rfl rfl;have C:=cellAt (p:=aa b) (i:=2) (v:=.int .u8 (u.hi.toNat:Int)) d rfl rfl;have D:=cellAt (p:=aa b) (i:=3) (v:=u.s.v) d rfl rfl;have G:(oO U aS (aa b) w λv _=>K v)=(∃e:Int,∃h:Int,∃j:Int,∃q:Sl,w.cell? ((aa b).add 0)=some (.int .i64 e)/\w.cell? ((aa b).add 1)=some (.int .u8 h)/\w.cell? ((aa b).add 2)=some (.int .u8 j)/\w.cell? ((aa b).add 3)=some q.v/\K (.agg #[.int .i64 e,.int .u8 h,.int .u8 j,q.v])):=by kernel_rfl
 grind
end
def YO(w:I)(G F C:Nat)(s:Sl):allI (zl U (FJ w G F C s)) z' 0:=
 ⟨λy x z o j k A q h e=>adV j (by rw[k];exact e.mk0 q),
  λy x z o j k A q h e=>qv (.inl j) (e.st.get (i:=0) (d:=4) (v:=jq) (by simp[ch]) rfl) (by rw[k];exact e.stat 1 12 (jq) (by simp[ch]) (by simp[ch]) gs gs gs gs),
  λy x z o j k A q h e=>by obtain⟨m,D,B,E,H⟩:=e.ins 2 0 (jq) (by simp[eN]) (h 0 gs) q (λJ M O L=>.inl ⟨.inl rfl,rfl⟩);exact rz j D rfl (e.st.get (i:=2) (d:=12) (v:=jq) (by simp[ch]) (h 1 gs)) ⟨B,E,by grind⟩,
  λy x z o j k A q h e=>qv (.inl j) (e.st.get (i:=0) (d:=4) (v:=jq) (by simp[ch]) rfl) (by rw[k];exact e.stat 3 13 (jq) (by simp[ch]) (by simp[ch]) gs gs gs gs),
  λy x z o j k A q h e=>by obtain⟨m,D,B,E,H⟩:=e.ins 4 1 (jq) (by simp[eN]) (h 0 gs) q (λJ M O L=>.inl ⟨.inr (.inl rfl),rfl⟩);exact rz j D rfl (e.st.get (i:=4) (d:=13) (v:=jq) (by simp[ch]) (h 3 gs)) ⟨B,E,by grind⟩,
  λy x z o j k A q h e=>qv (.inl j) (e.st.get (i:=0) (d:=4) (v:=jq) (by simp[ch]) rfl) (by rw[k];exact e.stat 5 14 (jq) (by simp[ch]) (by simp[ch]) gs gs gs gs),
  λy x z o j k A q h e=>by obtain⟨m,D,B,E,H⟩:=e.ins 6 2 (jq) (by simp[eN]) (h 0 gs) q (λJ M O L=>.inl ⟨.inr (.inr rfl),rfl⟩);exact rz j D rfl (e.st.get (i:=6) (d:=14) (v:=jq) (by simp[ch]) (h 5 gs)) ⟨B,E,by grind⟩,
  λy x z o j k A q h e=>qv (.inl j) (e.st.get (i:=0) (d:=5) (v:=l2) (by simp[ch]) rfl) (by rw[k];exact e.stat 7 15 (l2) (by simp[ch]) (by simp[ch]) gs gs gs gs),
  λy x z o j k A q h e=>tC j (e.st.get (i:=0) (d:=2) (v:=ptr F) (by simp[ch]) rfl) (e.ld (u:=fS) (b:=F) (aD (i:=1) rfl) (K:=λv=>FJ w G F C s (eb y 8) (x.put o.dst v) z) (by rw[k];exact e.stat 8 16 ((fS).v) (by simp[ch]) (by simp[ch]) gs gs gs gs)),
  λy x z o j k A q h e=>tC j (e.st.get (i:=0) (d:=1) (v:=ptr G) (by simp[ch]) rfl) (e.ld (u:=cu) (b:=G) (aD (i:=0) rfl) (K:=λv=>FJ w G F C s (eb y 9) (x.put o.dst v) z) (by rw[k];exact e.stat 9 17 ((cu).v) (by simp[ch]) (by simp[ch]) gs gs gs gs)),
  λy x z o j k A q h e=>by refine HE j (e.st.get (i:=8) (d:=15) (v:=l2) (by simp[ch]) (h 7 gs)) (e.st.get (i:=9) (d:=16) (v:=(fS).v) (by simp[ch]) (h 8 gs)) (e.st.get (i:=10) (d:=17) (v:=(cu).v) (by simp[ch]) (h 9 gs)) (by kernel_rfl) ((e.call 10 18 (fS) (cu) (by simp[iz])).mono ?_);rintro ac B ⟨v,Y,H⟩;rw[A,show zeroOf U oc=.nilFunc from by kernel_rfl];exact⟨v,Y,by grind⟩,
  λy x z o j k A q h e=>by
   obtain⟨mp,X,J,ab,hc,hm,ae,Z,af⟩:=e.hp;obtain⟨a,b,N,_,_⟩:=Z (10,18,fS,cu) (by simp[iz]) (h 10 gs);obtain⟨m,D,B,E,H⟩:=e.ins 11 3 (u' a b) (by simp[eN]) (h 0 gs) q (λJ M O L=>by obtain⟨P,Q,S,T,W⟩:=L (10,18,fS,cu) (by simp[iz]) (h 10 gs);exact .inr (.inl ⟨fS,cu,P,Q,.inl ⟨rfl,rfl,rfl⟩,ed (N.symm.trans S),T,W⟩))
   exact rz j D rfl N ⟨B,E,by grind⟩,
  λy x z o j k A q h e=>qv (.inl j) (e.st.get (i:=0) (d:=5) (v:=l2) (by simp[ch]) rfl) (by rw[k];exact e.stat 12 19 (l2) (by simp[ch]) (by simp[ch]) gs gs gs gs),
  λy x z o j k A q h e=>tC j (e.st.get (i:=0) (d:=1) (v:=ptr G) (by simp[ch]) rfl) (e.ld (u:=cu) (b:=G) (aD (i:=0) rfl) (K:=λv=>FJ w G F C s (eb y 13) (x.put o.dst v) z) (by rw[k];exact e.stat 13 20 ((cu).v) (by simp[ch]) (by simp[ch]) gs gs gs gs)),
  λy x z o j k A q h e=>tC j (e.st.get (i:=0) (d:=3) (v:=ptr C) (by simp[ch]) rfl) (e.ld (u:=fG s) (b:=C) (aD (i:=3) rfl) (K:=λv=>FJ w G F C s (eb y 14) (x.put o.dst v) z) (by rw[k];exact e.stat 14 21 ((fG s).v) (by simp[ch]) (by simp[ch]) gs gs gs gs)),
  λy x z o j k A q h e=>by refine HE j (e.st.get (i:=13) (d:=19) (v:=l2) (by simp[ch]) (h 12 gs)) (e.st.get (i:=14) (d:=20) (v:=(cu).v) (by simp[ch]) (h 13 gs)) (e.st.get (i:=15) (d:=21) (v:=(fG s).v) (by simp[ch]) (h 14 gs)) (by kernel_rfl) ((e.call 15 22 (cu) (fG s) (by simp[iz])).mono ?_);rintro ac B ⟨v,Y,H⟩;rw[A,show zeroOf U oc=.nilFunc from by kernel_rfl];exact⟨v,Y,by grind⟩,
  λy x z o j k A q h e=>by
   obtain⟨mp,X,J,ab,hc,hm,ae,Z,af⟩:=e.hp;obtain⟨a,b,N,_,_⟩:=Z (15,22,cu,fG s) (by simp[iz]) (h 15 gs);obtain⟨m,D,B,E,H⟩:=e.ins 16 4 (u' a b) (by simp[eN]) (h 0 gs) q (λJ M O L=>by obtain⟨P,Q,S,T,W⟩:=L (15,22,cu,fG s) (by simp[iz]) (h 15 gs);exact .inr (.inl ⟨cu,fG s,P,Q,.inr (.inl ⟨rfl,rfl,rfl⟩),ed (N.symm.trans S),T,W⟩))
   exact rz j D rfl N ⟨B,E,by grind⟩,
  λy x z o j k A q h e=>qv (.inl j) (e.st.get (i:=0) (d:=5) (v:=l2) (by simp[ch]) rfl) (by rw[k];exact e.stat 17 23 (l2) (by simp[ch]) (by simp[ch]) gs gs gs gs),
  λy x z o j k A q h e=>tC j (e.st.get (i:=0) (d:=3) (v:=ptr C) (by simp[ch]) rfl) (e.ld (u:=fG s) (b:=C) (aD (i:=3) rfl) (K:=λv=>FJ w G F C s (eb y 18) (x.put o.dst v) z) (by rw[k];exact e.stat 18 24 ((fG s).v) (by simp[ch]) (by simp[ch]) gs gs gs gs)),
  λy x z o j k A q h e=>tC j (e.st.get (i:=0) (d:=1) (v:=ptr G) (by simp[ch]) rfl) (e.ld (u:=cu) (b:=G) (aD (i:=0) rfl) (K:=λv=>FJ w G F C s (eb y 19) (x.put o.dst v) z) (by rw[k];exact e.stat 19 25 ((cu).v) (by simp[ch]) (by simp[ch]) gs gs gs gs)),
  λy x z o j k A q h e=>by refine HE j (e.st.get (i:=18) (d:=23) (v:=l2) (by simp[ch]) (h 17 gs)) (e.st.get (i:=19) (d:=24) (v:=(fG s).v) (by simp[ch]) (h 18 gs)) (e.st.get (i:=20) (d:=25) (v:=(cu).v) (by simp[ch]) (h 19 gs)) (by kernel_rfl) ((e.call 20 26 (fG s) (cu) (by simp[iz])).mono ?_);rintro ac B ⟨v,Y,H⟩;rw[A,show zeroOf U oc=.nilFunc from by kernel_rfl];exact⟨v,Y,by grind⟩,
  λy x z o j k A q h e=>by
   obtain⟨mp,X,J,ab,hc,hm,ae,Z,af⟩:=e.hp;obtain⟨a,b,N,_,_⟩:=Z (20,26,fG s,cu) (by simp[iz]) (h 20 gs);obtain⟨m,D,B,E,H⟩:=e.ins 21 5 (u' a b) (by simp[eN]) (h 0 gs) q (λJ M O L=>by obtain⟨P,Q,S,T,W⟩:=L (20,26,fG s,cu) (by simp[iz]) (h 20 gs);exact .inr (.inl ⟨fG s,cu,P,Q,.inr (.inr ⟨rfl,rfl,rfl⟩),ed (N.symm.trans S),T,W⟩))
   exact rz j D rfl N ⟨B,E,by grind⟩,
  λy x z o j k A q h e=>by obtain⟨m,D,B,E,H⟩:=e.ins 22 6 (.func (.func vl) #[] #[]) (by simp[eN]) (h 0 gs) q (λJ M O L=>.inr (.inr (.inl ⟨rfl,rfl⟩)));exact rz j D rfl rfl ⟨B,E,by grind⟩,
  λy x z o j k A q h e=>adU j (e.st.get (i:=0) (d:=2) (v:=ptr F) (by simp[ch]) rfl) (e.st.get (i:=0) (d:=3) (v:=ptr C) (by simp[ch]) rfl) (by rw[k];exact e.stat 23 27 (BV F C) (by simp[ch]) (by simp[ch]) gs gs gs gs),
  λy x z o j k A q h e=>by obtain⟨m,D,B,E,H⟩:=e.ins 24 7 (BV F C) (by simp[eN]) (h 0 gs) q (λJ M O L=>.inr (.inr (.inr ⟨F,C,rfl,rfl,M,O⟩)));exact rz j D rfl (e.st.get (i:=24) (d:=27) (v:=BV F C) (by simp[ch]) (h 23 gs)) ⟨B,E,by grind⟩,
  λy x z o j k A q h e=>by obtain⟨m,aa,H⟩:=e.m25 (h 0 gs);exact qv (.inl j) aa (by grind),
  λy x z o j k A q h e=>by obtain⟨m,aa,H⟩:=e.m26 (h 0 gs) (h 25 gs);exact qv (.inr j) aa (by grind),trivial⟩
def YP{w k:I}{j e h:Nat}{s:Sl}{E:Env}(H:O F0 w k (q3 j e h s) [])(q:E.get? 1=some (ptr j))(x:E.get? 2=some (ptr e))(y:E.get? 3=some (ptr h))(z:E.get? 4=some jq)(A:E.get? 5=some l2):FJ w j e h s (λ_=>false) E k.drew:=by
 refine⟨λD d C=>?_,[],[],[(e,fS),(h,fG s)],by simpa using H.drew,?_,gs,gs,λD d B=>(by cases B),.inl ⟨rfl,rfl,λ_ _=>rfl,rfl,rfl⟩⟩
 .simp only[ch,aF,aZ,a7]at d
  (repeat' rcases d with rfl|d)<;>(try subst d)<;>first |exact q|exact x|exact y|exact z|exact A|cases C
 grind
def YM{w q:I}{A B C:Nat}{s:Sl}{L:Nat->Bool}{E:Env}(G:∀i,i<z'.length->L i=true)(W:FJ w A B C s L E q):∃y:Fm,E.get? 0=some (.map (some y.m))/\y.Ok/\(En.fm y).P q/\(∀b∈(En.fm y).fp,w.heap.size<=b)/\af w q:=by
 have hlen:z'.length=27:=rfl;obtain⟨mp,X,D,j,hc,hm,ag,hj,ab⟩:=W.hp;rcases ab with⟨ae,_⟩|⟨_,m,F,clock,ms,rfl,h2,O,Q,S,h6,T⟩
 .grind
 have mem:∀p∈D,dX p.1 p.2∈[En.ob m (.map F clock)]++(q3 A B C s++X):=λp x=>da _ (hc p x);have ac:aK q aS 4 s cu.c:=j.get (e:=.row aS 4 s cu.c) 3 rfl;refine⟨⟨m,F,clock,ms,D,s⟩,T (G 26 io),⟨O,λh h0 h8=>?_⟩,λN d=>?_,λb Y=>?_,j.fr⟩
 .have aa:∃i,(i,h)∈eN/\i<27:=by
   have:h=0\/h=1\/h=2\/h=3\/h=4\/h=5\/h=6\/h=7:=io
   rcases this with rfl|rfl|rfl|rfl|rfl|rfl|rfl|rfl
   .exact ⟨2,by simp[eN],io⟩
   .exact ⟨4,by simp[eN],io⟩
   .exact ⟨6,by simp[eN],io⟩
   .exact ⟨11,by simp[eN],io⟩
   .exact ⟨16,by simp[eN],io⟩
   .exact ⟨21,by simp[eN],io⟩
   .exact ⟨22,by simp[eN],io⟩
   .exact ⟨24,by simp[eN],io⟩
  obtain⟨i,hi,ah⟩:=aa;have H:=S _ hi;rw[G i io]at H;obtain⟨v,M⟩:=Option.isSome_iff_exists.1 H;exact⟨v,M,Q h v M⟩
 .rcases aF.1 d with rfl|d
  .exact j.own _ gs
  rcases aF.1 d with rfl|d
  .show J.P q (fG s);unfold J.P J.Ps J.Ps;exact⟨ac.a3,lO q,trivial⟩
  .obtain ⟨p,x,rfl⟩:=dA.1 d;exact j.own _ (mem p x)
 .obtain ⟨N,d,z⟩:=ck.1 (aW.1 Y);rcases aF.1 d with rfl|d
  .exact (j.new _ (aD (i:=0) rfl) b z).resolve_right id
  rcases aF.1 d with rfl|d
  .have k:b∈(fG s).fp:=aW.1 z;unfold J.fp at k;rcases aP.1 k with k|k
   .exact (j.new _ (aD (i:=3) rfl) b (gY k)).resolve_right id
   .obtain ⟨t,K,Z⟩:=J.bX.1 k;simp at K;subst K;exact(lP Z).elim
  .obtain ⟨p,x,rfl⟩:=dA.1 d;exact(j.new _ (mem p x) b z).resolve_right id
def WU(w:I):ai U OZ #[] w λr h=>(∃d:Fm,r=ad (.map (some d.m))/\d.Ok/\(En.fm d).P h/\∀b∈(En.fm d).fp,w.heap.size<=b)/\af w h:=by refine R6.ok w _ ((bM [] gs).nw λj _ x=>x.nw λN _ B=>B.lj 0 rfl λW C=>C.lj 1 rfl λk e=>⟨0,0,0,⟨none,0,0⟩,e.ld 0 0,e.ld 0 1,e.ld 0 2,e.ld 0 3,e.e9 (n:=1) (sz:=4) (cs:=cu.c) rfl dl λq y=>y.nw λT _ z=>z.lj 3 rfl λM A=>?_⟩);have D:O F0 w M (q3 w.heap.size j.heap.size q.heap.size ⟨some (aa k.heap.size),1,1⟩) []:=A;refine LX z' (by kernel_rfl) (FJ w w.heap.size j.heap.size q.heap.size ⟨some (aa k.heap.size),1,1⟩) (YP D rfl rfl rfl rfl rfl) (YO _ _ _ _ _) λS Q N L K=>?_;obtain⟨d,E,F,G,H,J⟩:=YM L K;exact acG (by kernel_rfl) E ⟨⟨d,rfl,F,G,H⟩,J⟩
section
variable {M:Nat->Prop} {w0 w:I} {L D:List En}
def _root_.Go.W.O.VV(H:O M w0 w L D)(i:Nat){P:au}{t ty e:aE}{z:V}{sz bytes:Nat}(k:fO P t e z sz bytes){T:aE}{s:Sl}{xs:List V}{news:Array V}{A:I->Prop}{K:Sl->I->Prop}(hi:L[i]? =some (.row e sz s xs))(y:∀d,O M w0 d L D->A d)(B:∀h d,O M w0 d (L.set i (.row e sz h (xs++news.toList))) D->K h d)(C:(s.n+1) *bytes<=140737488355328)(E:news.size=sz:=by rfl)(x:∀u∈news.toList,u.oneCell'=true:=by simp[Value.oneCell']):
  de w (.cells news T) λj=>A j/\∃h d,(Builtin.append_ #[t,t] ty #[s.v,.slice (some (Addr.mk w.heap.size 0 none)) 1 1]).run P j=.ok h.v d/\K h d:=
 ⟨y _ (H.cA (Fr.alloc _ _ _)),H.r1 i k hi (λh d q _ _=>B h d q) C E x⟩
end
mutual
def dQ:Rx->Rx|.mk k lo hi l=>iw (.mk k lo hi (fq l))
def fq:List Rx->List Rx
 |[]=>[]
 |a::l=>dQ a::fq l
end
def YC(N:Nat):Rx->Bool|.mk k _ _ l=>ak (k=4\/k=5->vF k l<=N)
def s9(N:Nat)(y:Rx):Bool:=lJ y&&ak (y.sz<=1000000)&&YC N y
mutual
def q2(N:Nat):Rx->Bool|.mk k lo hi l=>sJ N l&&s9 N (.mk k lo hi (fq l))
def sJ(N:Nat):List Rx->Bool
 |[]=>true
 |a::l=>q2 N a&&sJ N l
end
def Lw{N:Nat}:∀{l:List Rx} {a:Rx},sJ N l=true->a∈l->q2 N a=true
 |b::l,a,d,e=>by
  unfold sJ at d;rw[bd]at d;rcases aF.1 e with rfl|e
  .grind
  .exact Lw d.2 e
def s7:∀l:List Rx,fq l=l.map dQ
 |[]=>rfl
 |a::l=>by unfold fq;rw[s7 l];rfl
def Qp{M:Nat->Prop}{w0 w:I}{L D:List En}(H:O M w0 w L D):O M w0 w L (D++[.trees []]):=
 H.ef (.trees []) (Fr.refl _ _) (by show J.Ps w [];unfold J.Ps;trivial) (λb d=>by
  have:=aW.1 d;unfold J.bc at this
  grind)
def uZ{acc:List J}{t:J}{Q:Nat->Prop}(e:∀b∈J.bc acc,Q b)(k:∀b∈t.fp,Q b):∀b∈J.bc (acc++[t]),Q b:=by
 intro b h;obtain⟨u,d,j⟩:=J.bX.1 h;rcases aP.1 d with d|d
 .exact e b (J.bX.2 ⟨u,d,j⟩)
 grind
abbrev Vr(N:Nat)(F:Fm)(n:Nat):Prop:=∀(x:J) (w:I),x.sz<=n->q2 N x.rx=true->(En.fm F).P w->x.P w->ai U FV #[.map (some F.m),x.v] w λr d=>gK (x.fp++(En.fm F).fp) w (dQ x.rx) r d/\af w d
def JE{N:Nat}(hS:mT N)(hN:N+1<=1000000){F:Fm}(hF:F.Ok):∀n:Nat,n<=1000000->Vr N F n
 |0,_=>λe y ab _ _ _=>absurd ab (by have:=J.nr e;omega)
 |n+1,hn=>λe y ab ac pF px=>by
  have ih:=JE hS hN hF n io;have hs:=J.iW e;have hl:=J.gn e.l;have aI:=J.cz px.parts.1;have Q:sJ N (J.ao e.l)=true/\s9 N (.mk e.k e.lo e.hi (fq (J.ao e.l)))=true:=by
   rw[J.fv]at ac;unfold q2 at ac
   grind
  have ae:0<=e.k/\e.k<8:=by
   have:=Q.2;unfold s9 lJ at this
   grind
  have loop:∀(d i:Nat) (acc:List J) (sl:Sl) (B C A:Nat) (x:I),i+d=e.l.length->J.ao acc=fq (J.ao (e.l.take i))->(∀b∈J.bc acc,y.heap.size<=b\/b∈e.fp++(En.fm F).fp)->
    O F0 y x [.c B e.c aS,.c C [.int .i64 0,.int .u8 0,.int .u8 0,.slice none 0 0] aS,.c A [.int .i64 e.k,.int .u8 (e.lo.toNat:Int),.int .u8 (e.hi.toNat:Int),sl.v] aS,.row aS 4 sl (acc.flatMap J.c)] [.tree e,.fm F,.trees acc]->
    yt.L0 (some F.m) (aa B) (aa C) (aa A) e.s (e.s.n:Int) (i:Int) x λr Y=>gK (e.fp++(En.fm F).fp) y (dQ e.rx) r Y/\af y Y:=by
   intro d;induction d with
   |zero=>
    intro i acc sl B C A x av w hf j;rw[fV io]at w;obtain⟨f,f1,f2,f3⟩:=WN hS io hF (j.getD 1) e.k ae.1 ae.2;have aG:∀b∈(J.row sl acc).fp,y.heap.size<=b:=λb h=>(j.new _ (aD (i:=3) rfl) b (gY h)).resolve_right id;have E:O F0 y x [.c B e.c aS,.c C [.int .i64 0,.int .u8 0,.int .u8 0,.slice none 0 0] aS,.c A [.int .i64 e.k,.int .u8 (e.lo.toNat:Int),.int .u8 (e.hi.toNat:Int),sl.v] aS] [.tree e,.fm F,.trees acc,J.row sl acc,.tree (.mk e.k e.lo e.hi sl acc)]:=j.tn 3 2 e.k e.lo e.hi;have ay:(J.mk e.k e.lo e.hi sl acc).P x:=E.getD 4;have ap:(J.mk e.k e.lo e.hi sl acc).rx=.mk e.k e.lo e.hi (fq (J.ao e.l)):=by unfold J.rx;rw[w]
    have S:=Q.2;unfold s9 at S;simp only[bd,decide_eq_true_eq]at S;have aw:(J.mk e.k e.lo e.hi sl acc).sz<=1000000:=by
     have h1:=J.ez (J.mk e.k e.lo e.hi sl acc)
     grind
    have ar:e.k=4\/e.k=5->vF e.k (J.ao acc)<=N:=λhk=>by rw[w];exact e4 S.2 hk
    have aC:dQ e.rx=iw (J.mk e.k e.lo e.hi sl acc).rx:=by rw[ap,J.fv];unfold dQ;rfl
    refine yt.b' (aQ (a2 io) ⟨e.k,j.ld 0 0,f,f1,_,_,_,sl,j.ld 2 0,j.ld 2 1,j.ld 2 2,j.ld 2 3,?_⟩);rw[f2];refine(show cM true _ from ?_);refine(f3 (.mk e.k e.lo e.hi sl acc) x (j.getD 1) ay rfl ar aw (by grind)).mono ?_;rintro _ w2 ⟨⟨t,rfl,ht,W,D⟩,M⟩;have L:=E.ef (.tree t) M W (λb h=>by
     rcases D b (aW.1 h)with h|h
     .omega
     .rcases aP.1 h with h|h
      .exact .inr (.inr ⟨_,aD (i:=4) rfl,aW.2 h⟩)
      grind)
    refine⟨_,_,_,t.s,rfl,L.lj 1 rfl λw3 z=>⟨_,_,_,t.s,z.ld 1 0,z.ld 1 1,z.ld 1 2,z.ld 1 3,⟨t,rfl,by grind,z.getD 5,λb h=>?_⟩,z.fr⟩⟩;rcases D b h with h|h
    .exact .inl (bB j.fr.size h)
    .rcases aP.1 h with h|h
     .unfold J.fp at h
      grind
     grind
   |succ d ax=>
    intro i acc sl B C A x av w hf j;have H:e.l[i]? =some (e.l[i]'io):=aY io;generalize e.l[i]'io=a at H;have T:=aD H;have aL:=J.eP T;have fa:q2 N a.rx=true:=Lw Q.1 (by rw[J.fW];grind);have aq:∀b∈a.fp,b∈e.fp:=λb h=>J.gP.2 (.inr (J.bX.2 ⟨a,T,h⟩));refine yt.b' (aR (a5 io) (km (show e.P x from j.getD 0) rfl H (j.nw λw8 _ H8=>H8.lj 4 rfl λaM ah=>ah.dr λag q=>⟨sl,q.ld 2 3,a.k,a.lo.toNat,a.hi.toNat,a.s,q.ld 4 0,q.ld 4 1,q.ld 4 2,q.ld 4 3,?_⟩)));refine(ih a ag io fa (q.getD 1) ((show e.P ag from q.getD 0).parts.2.mem T)).mono ?_;rintro _ aN ⟨⟨t,rfl,ht,W,D⟩,M⟩;have K:=q.ef (.tree t) M W (λb h=>by
     rcases D b (aW.1 h)with h|h
     .omega
     .rcases aP.1 h with h|h
      .exact .inr (.inr ⟨_,aD (i:=0) rfl,aW.2 (aq b h)⟩)
      grind)
    have aH:acc.length=i:=by
     have h1:=congrArg List.length w;rw[J.fW,s7,J.fW]at h1
     grind
    have aJ:=J.cz (K.get 3:aK _ _ _ _ _).a3;refine⟨_,_,_,t.s,rfl,K.ld 2 3,K.VV 3 sy (xs:=acc.flatMap J.c) rfl (λY E=>E.ld 2 3) (λs' aO aj=>aj.st 2 3 rfl λaz am=>?_) io⟩;rw[bm _ io];have an:=(am.tw 2 3).take 4;refine ax (i+1) (acc++[t]) s' B C A az io ?_ (uZ hf λb h=>?_) ?_
    .rw [k5,w,fJ,H,Option.toList_some,k5,s7,s7,ey];show _++[t.rx]=_;rw[ht];rfl
    .rcases D b h with h|h
     .exact .inl (bB q.fr.size h)
     grind
    .rw [nS];exact an.forget _ gs
  refine yt.ok ((bM [.tree e,.fm F] (by
   intro aA w;simp only[aF,aZ,a7]at w;rcases w with rfl|rfl
   .exact px
   omega)).nw λx _ H1=>H1.nw λw2 _ G=>⟨e.k,G.ld 0 0,e.lo.toNat,G.ld 0 1,e.hi.toNat,G.ld 0 2,G.nw λw3 _ L=>L.lj 2 rfl λw7 Z=>⟨e.s,Z.ld 0 3,?_⟩⟩)
  exact loop e.l.length 0 [] ⟨none,0,0⟩ _ _ _ w7 io rfl (λb h=>by unfold J.bc at h;cases h) (Qp (Z.h8 aS 4))
def W6{N:Nat}(k:mT N)(j:N+1<=1000000){F:Fm}(h:F.Ok)(x:J)(w:I)(e:x.sz<=1000000)(q:q2 N x.rx=true)(y:(En.fm F).P w)(z:x.P w):ai U FV #[.map (some F.m),x.v] w λr d=>gK (x.fp++(En.fm F).fp) w (dQ x.rx) r d/\af w d:=
 JE k j h 1000000 (bw _) x w e q y z
section
variable {M:Nat->Prop} {w0 w:I} {L D:List En} {bs:List Nat}
def _root_.Go.W.O.sb(H:O M w0 w L D){P:au}{g:FuncId}{args:Array V}{K:aC}{d:List Nat}{x:Rx}(z:ai P g args w λr w'=>gK d w x r w'/\af w w')(hold:∀b∈d,∃g∈D,b∈g.fp)(A:∀(t:J) (w':I),t.rx=x->O M w0 w' L (D++[.tree t])->(∀b∈t.fp,w.heap.size<=b\/b∈d)->K (ad t.v) w'):fF bs P g args w K:=
 kK (z.mono λr w' ⟨⟨t,j,k,q,e⟩,f⟩=>⟨f,by
  subst j;exact A t w' k (H.ef (.tree t) f q λb y=>(e b (aW.1 y)).imp id λh=>.inr (hold b h)) e⟩)
end
namespace oI
def a1:=bq (ay U Tryz.f170 [(6,lr 9),(8,lr 9),(13,lr 12)] [2,3]) [0,1,1,1,3] [(2,.l [.I,.Y,.Y,.s] aJ),(3,.l [.I,.Y,.Y,.s] aJ),(5,.s),(6,.s),(7,.I)]
abbrev t1:=bp a1
def cq:=bq t1 [0,1,1,1,4] [(2,.l [.I,.Y,.Y,.s] aJ),(3,.l [.I,.Y,.Y,.s] aJ),(8,.I)]
abbrev t2:=bp cq
abbrev bH:=ah t2 [5] [(2,.l [.I,.Y,.Y,.s] aJ),(3,.l [.I,.Y,.Y,.s] aJ)]
abbrev t3:=aj bH
def dF:=bE t3 cq
def bS:=bE t3 a1
def aq:=aA t3 Fs [.a 4,.I,.Y,.Y,.s,.a 4,.I,.Y,.Y,.s]
end oI
def lR{p:Addr}{K:Addr->Prop}(d:K p):dJ (some p) K:=d
def DI{x y:Int}(l:List Int)(d:x<y):ew (cE x y::l)=-1:=by unfold ew cE;simp[d]
def DG{x y:Int}(l:List Int)(d:y<x):ew (cE x y::l)=1:=by unfold ew cE;rw[ab (show ¬x<y by omega),ag d];simp
def DF{x y:Int}(l:List Int)(d:¬x<y)(e:¬y<x):ew (cE x y::l)=ew l:=by
 conv=>lhs;unfold ew cE
 rw[ab d,ab e];simp
abbrev Vw(n:Nat):Prop:=∀(a b:J) (w:I),a.sz<=n->a.P w->b.P w->ai U Fs #[a.v,b.v] w λr d=>r=ad (.int .i64 (bj a.rx b.rx))/\af w d
def JK:∀n:Nat,n<=1000000->Vw n
 |0,_=>λa b C e _ _=>absurd e (by have:=J.nr a;omega)
 |n+1,hn=>λa b C e pa pb=>by
  have ih:=JK n io;have hs:=J.iW a;have hl:=J.gn a.l;have na:=J.cz pa.parts.1;have ay:=J.cz pb.parts.1;have z:bj a.rx b.rx=if ew [cE a.k b.k,cE a.lo.toNat b.lo.toNat,cE a.hi.toNat b.hi.toNat]≠0 then ew [cE a.k b.k,cE a.lo.toNat b.lo.toNat,cE a.hi.toNat b.hi.toNat]else cmpL (J.ao a.l) (J.ao b.l):=by rw[J.fv a,J.fv b];unfold bj;rfl
  have ar:∀(d i:Nat) (q w:Nat) (H:I),i+d=a.l.length->i<=b.l.length->cmpL (J.ao (a.l.drop i)) (J.ao (b.l.drop i))=bj a.rx b.rx->O F0 C H [.g q,.g w] [.tree a,.tree b]->
    oI.cq q a.k a.lo.toNat a.hi.toNat a.s w b.k b.lo.toNat b.hi.toNat b.s (i:Int) H λr M=>r=ad (.int .i64 (bj a.rx b.rx))/\af C M:=by
   intro d;induction d with
   |zero=>
    intro i q w H ah an h B;rw[dy (by omega:a.l.length<=i)]at h;refine oI.dF (aQ (a2 io) (aT (λe=>⟨?_,B.fr⟩) (λe=>aT (λj=>?_) (λj=>⟨?_,B.fr⟩))))
    .rw [dw (by omega:i<b.l.length)]at h;rw[<-h];rfl
    .omega
    .rw [dy (by omega:b.l.length<=i)]at h;rw[<-h];rfl
   |succ d ap=>
    intro i q w H ah an h B;have L:a.l[i]? =some (a.l[i]'io):=aY io;rw[dw (by omega:i<a.l.length)]at h;generalize a.l[i]'io=x at L h;have aA:=J.eP (aD L);refine oI.dF (aR (a5 io) (aT (λaj=>⟨io,io,?_⟩) (λaw=>aT (λe=>?_) (λe=>aT (λj=>⟨?_,B.fr⟩) (λj=>?_)))))
    .have ac:b.l[i]? =some (b.l[i]'io):=aY io;rw[dw (by omega:i<b.l.length)]at h;generalize b.l[i]'io=y at ac h;refine J.a6 (show a.P H from B.getD 0).parts.1 L λp hp _=>B.ae λA D=>?_;have c:=J.again (show a.P A from D.getD 0).parts.1 L hp;refine⟨_,_,_,_,c.c0,c.c1,c.c2,c.c3,io,io,J.a6 (show b.P A from D.getD 1).parts.1 ac λaz hq W=>⟨_,_,_,_,W.c0,W.c1,W.c2,W.c3,D.av (ih x y A io ((show a.P A from D.getD 0).parts.2.get L) ((show b.P A from D.getD 1).parts.2.get ac)) ?_⟩⟩;rintro _ Y rfl E;have e2:cmpL (J.ao (x::a.l.drop (i+1))) (J.ao (y::b.l.drop (i+1)))=if bj x.rx y.rx≠0 then bj x.rx y.rx else cmpL (J.ao (a.l.drop (i+1))) (J.ao (b.l.drop (i+1))):=rfl;rw[e2]at h;refine⟨_,rfl,ct (λhc=>⟨?_,E.fr⟩) (λhc=>?_)⟩
     .rw [ag hc]at h;rw[h]
     .rw [ab (by simpa using hc)]at h;rw[bm _ io];exact ap (i+1) q w Y io io h E
    .omega
    .rw [dy (by omega:b.l.length<=i)]at h;rw[<-h];rfl
    .omega
  have Z:∀(c:UInt8),aB .i64 (c.toNat:Int)=(c.toNat:Int):=λc=>bo _ (by have:=c.toNat_lt;omega);refine oI.aq ((bM [.tree a,.tree b] (by
   intro z h;simp only[aF,aZ,a7]at h;rcases h with rfl|rfl
   .exact pa
   .exact pb)).ax λq H H1=>H1.ax λw N H2=>H2.nw λA _ D=>D.nw λY _ E=>?_)
  have E:O F0 C Y [.g q,.g w,.c N.heap.size [.int .i64 a.k,.int .i64 (aB .i64 (a.lo.toNat:Int)),.int .i64 (aB .i64 (a.hi.toNat:Int))] bz,.c A.heap.size [.int .i64 b.k,.int .i64 (aB .i64 (b.lo.toNat:Int)),.int .i64 (aB .i64 (b.hi.toNat:Int))] bz] [.tree a,.tree b]:=E;rw[Z,Z,Z,Z]at E;have step:∀(i:Nat) (x y:Int) (Q:I),i<3->([.int .i64 a.k,.int .i64 (a.lo.toNat:Int),.int .i64 (a.hi.toNat:Int)]:List V)[i]? =some (.int .i64 x)->([.int .i64 b.k,.int .i64 (b.lo.toNat:Int),.int .i64 (b.hi.toNat:Int)]:List V)[i]? =some (.int .i64 y)->
    O F0 C Q [.g q,.g w,.c N.heap.size [.int .i64 a.k,.int .i64 (a.lo.toNat:Int),.int .i64 (a.hi.toNat:Int)] bz,.c A.heap.size [.int .i64 b.k,.int .i64 (b.lo.toNat:Int),.int .i64 (b.hi.toNat:Int)] bz] [.tree a,.tree b]->
    (x<y->bj a.rx b.rx=-1)->(y<x->bj a.rx b.rx=1)->
    (¬x<y->¬y<x->∀S,O F0 C S [.g q,.g w,.c N.heap.size [.int .i64 a.k,.int .i64 (a.lo.toNat:Int),.int .i64 (a.hi.toNat:Int)] bz,.c A.heap.size [.int .i64 b.k,.int .i64 (b.lo.toNat:Int),.int .i64 (b.hi.toNat:Int)] bz] [.tree a,.tree b]->oI.a1 q a.k a.lo.toNat a.hi.toNat a.s w b.k b.lo.toNat b.hi.toNat b.s ⟨some (aa N.heap.size),3,3⟩ ⟨some (aa A.heap.size),3,3⟩ ((i+1:Nat):Int) S λr M=>r=ad (.int .i64 (bj a.rx b.rx))/\af C M)->
    oI.a1 q a.k a.lo.toNat a.hi.toNat a.s w b.k b.lo.toNat b.hi.toNat b.s ⟨some (aa N.heap.size),3,3⟩ ⟨some (aa A.heap.size),3,3⟩ (i:Int) Q λr M=>r=ad (.int .i64 (bj a.rx b.rx))/\af C M:=by
   intro i x y Q ah hx hy B aj am hk;have T:(i:Int)<((3:Nat):Int):=io
   refine oI.bS (aR (a5 io) ⟨io,T,lR (B.ae λS F=>⟨x,?_,io,T,lR ⟨y,?_,aT (λe=>⟨by rw[aj e],F.fr⟩) (λe=>⟨io,T,lR (F.ae λw7 G=>⟨x,?_,io,T,lR ⟨y,?_,aT (λj=>⟨by rw[am j],G.fr⟩) (λj=>?_)⟩⟩)⟩)⟩⟩)⟩)
   .rw [bR,Nat.mul_one];exact F.ld 2 i rfl hx
   .rw [bR,Nat.mul_one];exact F.ld 3 i rfl hy
   .rw [bR,Nat.mul_one];exact G.ld 2 i rfl hx
   .rw [bR,Nat.mul_one];exact G.ld 3 i rfl hy
   .rw [show aB .i64 ((i:Int)+1)=((i+1:Nat):Int)by rw[bo _ io];omega];exact hk e j w7 G
  show oI.a1 _ _ _ _ _ _ _ _ _ _ _ _ ((0:Nat):Int) _ _;refine step 0 _ _ Y io rfl rfl E (λe=>by rw[z,DI _ e];rfl) (λe=>by rw[z,DG _ e];rfl) (λK j Q H5=>?_);rw[DF _ K j]at z;refine step 1 _ _ Q io rfl rfl H5 (λe=>by rw[z,DI _ e];rfl) (λe=>by rw[z,DG _ e];rfl) (λK j S F=>?_);rw[DF _ K j]at z;refine step 2 _ _ S io rfl rfl F (λe=>by rw[z,DI _ e];rfl) (λe=>by rw[z,DG _ e];rfl) (λK j w7 G=>?_);rw[DF _ K j]at z;refine oI.bS (aQ rfl (ar a.l.length 0 q w w7 io io ?_ (G.take 2)));rw[z];rfl
def r8(a b:J)(w:I)(d:a.sz<=1000000)(e:a.P w)(h:b.P w):ai U Fs #[a.v,b.v] w λr j=>r=ad (.int .i64 (bj a.rx b.rx))/\af w j:=JK 1000000 (bw _) a b w d e h
namespace uK
abbrev P0:Ps:=[(1,.l [.I,.Y,.Y,.s] aJ),(3,.I),(4,.I)]
def a1:=bq (ay U Tryz.f141 [] [1]) [0,1,1,1,2] P0
abbrev t1:=bp a1
abbrev bg:=ah t1 [2,2,1,1,2] P0
abbrev t2:=aj bg
def bS:=bE t2 a1
def aq:=aA t2 Ft [.a 4,.I,.Y,.Y,.s]
end uK
namespace uL
abbrev P0:Ps:=[]
abbrev aV:=ah (ay U Tryz.f176 [(3,lr 30)] [1]) [0,1,1,1,3] P0
abbrev t1:=aj aV
abbrev bg:=ah t1 [0,1,1,1,4] P0
abbrev t2:=aj bg
def iI:=bq t2 [0,1,1,1,5] [(1,.l [.I,.Y,.Y,.s] aJ),(5,.I)]
abbrev t3:=bp iI
def om:=bE t3 iI
abbrev bH:=ah t3 [5] [(1,.l [.I,.Y,.Y,.s] aJ)]
abbrev t4:=aj bH
def aq:=aA t4 NM [.a 4,.I,.Y,.Y,.s]
end uL
namespace KL
def aq:=aA (ay U Tryz.f142 [] [1]) NI [.a 4,.I,.Y,.Y,.s]
end KL
abbrev Vp(n:Nat):Prop:=∀(x:J) (w:I),x.sz<=n->x.P w->ai U Ft #[x.v] w λr d=>r=ad (.int .i64 (x.sz:Int))/\af w d
def Jm:∀n:Nat,n<=1000000->Vp n
 |0,_=>λe y z _=>absurd z (by have:=J.nr e;omega)
 |n+1,Q=>λe y z B=>by
  have G:=Jm n io;have S:=J.iW e;have N:=J.gn e.l;have T:=J.cz B.parts.1;have loop:∀(d i m j:Nat) (h:I),i+d=e.l.length->m+J.a4 (e.l.drop i)=e.sz->O F0 y h [.g j] [.tree e]->uK.a1 j e.k e.lo.toNat e.hi.toNat e.s (m:Int) (i:Int) h λr K=>r=ad (.int .i64 (e.sz:Int))/\af y K:=by
   intro d;induction d with
   |zero=>
    intro i m j h F q w;rw[dy io]at q;refine uK.bS (aQ (a2 io) ⟨?_,w.fr⟩);have:m=e.sz:=q
    grind
   |succ d H=>
    intro i m j h F q w;have x:e.l[i]? =some (e.l[i]'io):=aY io;rw[dw io]at q;generalize e.l[i]'io=a at x q;have M:m+(a.sz+J.a4 (e.l.drop (i+1)))=e.sz:=q;have A:=aD x;have W:=J.eP A;refine uK.bS (aR (a5 io) (km (show e.P h from w.getD 0) rfl x (w.av (G a h io ((show e.P h from w.getD 0).parts.2.mem A)) ?_)));rintro _ L rfl D;refine⟨_,rfl,?_⟩;show uK.a1 _ _ _ _ _ _ _ _ _;rw[bm _ io,bo _ io];have E:((m:Int)+(a.sz:Int))=((m+a.sz:Nat):Int):=io
    rw[E];exact H (i+1) (m+a.sz) j L io io D
  exact uK.aq ((gT B).ax λj h C=>loop e.l.length 0 1 j h io (by grind) C)
def Dk(x:J)(w:I)(d:x.sz<=1000000)(e:x.P w):ai U Ft #[x.v] w λr h=>r=ad (.int .i64 (x.sz:Int))/\af w h:=Jm 1000000 (bw _) x w d e
def Ap(k:Nat):Int:=if 6<=k then 1 else 0
def AK(k:Nat):Int:=if k<3 then 0 else if k<6 then 64 else 1
def Z7{k:Nat}(d:k<8):([.i 0,.i 0,.i 0,.i 0,.i 0,.i 0,.i 1,.i 1]:List V)[k]? =some (.i (Ap k)):=by
 have:k=0\/k=1\/k=2\/k=3\/k=4\/k=5\/k=6\/k=7:=io
 rcases this with rfl|rfl|rfl|rfl|rfl|rfl|rfl|rfl<;>rfl
def aaK{k:Nat}(d:k<8):([.i 0,.i 0,.i 0,.i 64,.i 64,.i 64,.i 1,.i 1]:List V)[k]? =some (.i (AK k)):=by
 have:k=0\/k=1\/k=2\/k=3\/k=4\/k=5\/k=6\/k=7:=io
 rcases this with rfl|rfl|rfl|rfl|rfl|rfl|rfl|rfl<;>rfl
abbrev Vm(n:Nat):Prop:=∀(x:J) (w:I),x.sz<=n->x.P w->ai U NM #[x.v] w λr d=>r=ad (.bool (cO x.rx))/\af w d
def JB:∀n:Nat,n<=64->Vm n
 |0,_=>λe y z _=>absurd z (by have:=J.nr e;omega)
 |n+1,hn=>λe y z Y=>by
  have ih:=JB n io;have hs:=J.iW e;have hl:=J.gn e.l;have an:=J.cz Y.parts.1;have el:(J.ao e.l).length=e.s.n:=by rw[J.fW];grind
  have ee:(J.ao e.l).isEmpty=ak (e.s.n=0):=by grind
  have N:cO e.rx=(!(e.k !=2&&(e.lo !=0||e.hi !=0))&&(if e.k=0\/e.k=1 then(J.ao e.l).isEmpty else if e.k=2 then(J.ao e.l).isEmpty&&ak (e.lo.toNat<=e.hi.toNat)else if e.k=3\/e.k=4\/e.k=5 then dY (J.ao e.l)else if e.k=6\/e.k=7 then(J.ao e.l).length==1&&dY (J.ao e.l)else false)):=by rw[J.fv];unfold cO;rfl
  rw[ee,el]at N;have Z:∀u:UInt8,(u !=0)=ak (u.toNat≠0):=λu=>by rw[Bool.eq_iff_iff];simp only[bne_iff_ne,ne_eq,decide_eq_true_eq];exact not_congr ⟨λz=>by rw[z];rfl,λz=>UInt8.toNat_inj.1 (by grind)⟩
  rw[Z,Z]at N;have bad:∀{h:Nat} {w':I},cO e.rx=false->O F0 y w' [.g h,.c (0:Nat) [] bz] []->True:=λ_ _=>trivial
  let M:aC:=λr w'=>r=ad (.bool (cO e.rx))/\af y w'
  have loop:cO e.rx=dY (J.ao e.l)->∀(d i h:Nat) (j:I),i+d=e.l.length->dY (J.ao (e.l.drop i))=dY (J.ao e.l)->O F0 y j [.g h] [.tree e]->uL.iI h e.k e.lo.toNat e.hi.toNat e.s (i:Int) j M:=by
   intro K d;induction d with
   |zero=>
    intro i h j ab A C;rw[dy io]at A;refine uL.om (aQ (a2 io) ⟨?_,C.fr⟩);rw[K,<-A];rfl
   |succ d aj=>
    intro i h j ab A C;have F:e.l[i]? =some (e.l[i]'io):=aY io;rw[dw io]at A;generalize e.l[i]'io=a at F A;have W:=aD F;have ap:=J.eP W;have ag:(cO a.rx&&dY (J.ao (e.l.drop (i+1))))=dY (J.ao e.l):=A;refine uL.om (aR (a5 io) (km (show e.P j from C.getD 0) rfl F (C.av (ih a j io ((show e.P j from C.getD 0).parts.2.mem W)) ?_)));rintro _ B rfl D;refine⟨_,rfl,eU (λQ=>⟨?_,D.fr⟩) (λht=>?_)⟩
    .grind
    .rw [bm _ io]
     grind
  refine uL.aq ((gT Y).ax λh j H1=>H1.nw λB _ D=>D.nw λw3 _ E=>?_);have no:∀w':I,O F0 y w' [.g h,.c j.heap.size [.i 0,.i 0,.i 0,.i 64,.i 64,.i 64,.i 1,.i 1] bz,.c B.heap.size [.i 0,.i 0,.i 0,.i 0,.i 0,.i 0,.i 1,.i 1] bz] [.tree e]->cO e.rx=false->(Ending.returned (.bool false)=ad (.bool (cO e.rx))/\af y w'):=λw' H' Q=>⟨by rw[Q],H'.fr⟩;refine aT (λk0=>O.ae E (λw q=>no w q ?_) gs) (λk0=>aT (λk7=>O.ae E (λw q=>no w q ?_) gs) (λk7=>?_))
  .grind
  .grind
  obtain⟨x,S⟩:=Int.eq_ofNat_of_zero_le (by omega:0<=e.k);have T:x<8:=io
  refine⟨io,io,(show dJ (some (nb B)) _ from O.ae E (λw q=>⟨Ap x,?_,?_⟩) gs)⟩
  .have:=O.ld (L:=[.g h,.c j.heap.size [.i 0,.i 0,.i 0,.i 64,.i 64,.i 64,.i 1,.i 1] bz,.c B.heap.size [.i 0,.i 0,.i 0,.i 0,.i 0,.i 0,.i 1,.i 1] bz]) q 2 x rfl (Z7 T);rw[S,bR,Nat.mul_one];omega
  refine aT (λG=>no w q ?_) (λG=>⟨io,io,(show dJ (some (nb j)) _ from⟨AK x,?_,?_⟩)⟩)
  .unfold Ap at G
   grind
  .have:=O.ld (L:=[.g h,.c j.heap.size [.i 0,.i 0,.i 0,.i 64,.i 64,.i 64,.i 1,.i 1] bz,.c B.heap.size [.i 0,.i 0,.i 0,.i 0,.i 0,.i 0,.i 1,.i 1] bz]) q 1 x rfl (aaK T);rw[S,bR,Nat.mul_one];omega
  refine aT (λH=>no w q ?_) (λH=>?_)
  .unfold AK at H
   grind
  have ah:(x<3->e.s.n=0)/\(6<=x->e.s.n=1):=by unfold Ap at G;unfold AK at H;omega
  have H5:O F0 y w [.g h] [.tree e]:=O.take (L:=[.g h,.c j.heap.size [.i 0,.i 0,.i 0,.i 64,.i 64,.i 64,.i 1,.i 1] bz,.c B.heap.size [.i 0,.i 0,.i 0,.i 0,.i 0,.i 0,.i 1,.i 1] bz]) q 1;have am:x<3->dY (J.ao e.l)=true:=λz=>by
   have h0:(J.ao e.l).length=0:=io
   rw[List.length_eq_zero_iff.1 h0];rfl
  have go:cO e.rx=dY (J.ao e.l)->uL.bH h e.k e.lo.toNat e.hi.toNat e.s w M:=λK=>loop K e.l.length 0 h w io gs H5;refine aT (λac=>no w q ?_) (λac=>ct (λk2=>aT (λaa=>no w q ?_) (λaa=>go ?_)) (λk2=>go ?_))
  .grind
  .grind
  .grind
  grind
def Xe(x:J)(w:I)(k:x.sz<=1000000)(y:x.P w):ai U NI #[x.v] w λr z=>r=ad (.int .i64 (iY x.rx))/\af w z:=by
 refine KL.aq ((gT y).ax λC A h=>h.av (Dk x A k (h.getD 0)) ?_);rintro _ B rfl d;refine⟨_,rfl,aT (λq=>⟨?_,d.fr⟩) (λq=>d.av (JB 64 (bw _) x B io (d.getD 0)) ?_)⟩
 .unfold iY;rw[J.ez,ag io]
 rintro _ D rfl j;refine⟨_,rfl,eU (λe=>⟨?_,j.fr⟩) (λe=>⟨?_,j.fr⟩)⟩
 .unfold iY;rw[J.ez,ab io,e];rfl
 .unfold iY;rw[J.ez,ab io,e];rfl
def Cc{x:Rx}(d:iY x=0):cO x=true/\x.sz<=64:=by
 unfold iY at d
 grind
def LL:∀{l:List Rx} {a:Rx},dY l=true->a∈l->cO a=true
 |b::l,a,h,d=>by
  have e:(cO b&&dY l)=true:=h;rw[bd]at e;rcases aF.1 d with rfl|d
  .grind
  .exact LL e.2 d
namespace KH
def aq:=aA (ay U Tryz.f110 [] [0]) qe []
end KH
namespace qZ
abbrev P0:Ps:=[(0,.s),(3,.l [.I,.Y,.Y,.s] aJ),(5,.I)]
def a1:=bq (ay U Tryz.f171 [(2,lr 13),(4,lr 13),(7,(.sq [0,1,2,3,5] (.fork (ls [4,6,7,8]) (ls [6,4,7,8]))))] [3]) [0,2,2] P0
abbrev t1:=bp a1
abbrev cG:=ah t1 [6] [(0,.s),(5,.I),(6,.s)]
abbrev t2:=aj cG
abbrev bH:=ah t2 [4] P0
abbrev t3:=aj bH
abbrev bg:=ah t3 [3] P0
abbrev t4:=aj bg
def bS:=bE t4 a1
def aq:=aA t4 NR [.s,.a 4,.I,.Y,.Y,.s]
end qZ
namespace iP
abbrev aV:=ah (ay U Tryz.f135 [(9,lr 13),(25,lr 7),(27,lr 7)] [4,5,8,9]) [0,1,1,1,1,1,1,1,3] [(1,.s),(4,.l [.I,.Y,.Y,.s] aJ)]
abbrev t1:=aj aV
abbrev P0:Ps:=[(0,.I),(1,.s),(4,.l [.I,.Y,.Y,.s] aJ),(5,.l [.I,.Y,.Y,.s] aJ),(6,.s),(7,.I)]
def cq:=bq t1 [0,1,1,1,5] P0
abbrev t2:=bp cq
abbrev bH:=ah t2 [2,2,1,1,5] P0
abbrev t3:=aj bH
abbrev P1:Ps:=[(0,.I),(4,.l [.I,.Y,.Y,.s] aJ),(6,.s),(8,.l [.I,.Y,.Y,.s] aJ),(9,.l [.I,.Y,.Y,.s] aJ),(10,.s),(11,.I)]
def iI:=bq t3 [0,1,1,1,9] P1
abbrev t4:=bp iI
abbrev fB:=ah t4 [2,2,1,1,9] P1
abbrev t5:=aj fB
def om:=bE t5 iI
def dF:=bE t5 cq
def aq:=aA t5 NO [.I,.s]
end iP
namespace xj
def a1:=bq (ay U Tryz.f112 [] [1,2]) [0,1,1,1,3] [(1,.l [.I,.Y,.Y,.s] aJ),(2,.l [.I,.Y,.Y,.s] aJ),(3,.s),(4,.I)]
abbrev t1:=bp a1
def bS:=bE t1 a1
def aq:=aA t1 xU [.a 4,.I,.Y,.Y,.s]
end xj
namespace KN
def aq:=aA (ay U Tryz.f143 [] [1,2]) NL [.a 4,.I,.Y,.Y,.s]
end KN
namespace KI
def aq:=aA (ay U Tryz.f118 [] [1,2]) NC [.a 4,.I,.Y,.Y,.s]
end KI
def mh:fO U di aJ (.agg #[.int .i64 0,.int .u8 0,.int .u8 0,.slice none 0 0]) 4 40:=⟨by kernel_rfl,by kernel_rfl,rfl,dl,dl⟩
def Dp(w:I):ai U qe #[] w λr h=>gu w eR r h/\af w h:=by
 refine KH.aq ((bM [] gs).ax λb q j=>j.e9 (n:=1) (sz:=4) (cs:=cu.c) rfl dl λy k=>k.ae λx e=>⟨⟨.mk 6 0 0 ⟨some (aa q.heap.size),1,1⟩ [cu],rfl,rfl,?_,λc d=>?_⟩,e.fr⟩)
 .unfold J.P J.Ps J.Ps;exact⟨(e.get 1:aK _ _ _ _ _).a3,lO x,trivial⟩
 .unfold J.fp J.bc J.bc at d;rcases aP.1 d with d|d
  .exact (e.new _ (aD (i:=1) rfl) c (gY d)).resolve_right id
  .rcases aP.1 d with d|d
   .exact (lP d).elim
   grind
def hH(r:J):List J->List J
 |[]=>[r]
 |d::p=>if bj d.rx r.rx<0 then d::hH r p else if bj d.rx r.rx=0 then d::p else r::d::p
def RI(r:J):∀l:List J,(hH r l).map J.rx=mC r.rx (l.map J.rx)
 |[]=>rfl
 |d::p=>by
  unfold hH;rw[lU];unfold mC;split
  .rw [lU,RI r p]
  grind
def Bl{t r:J}:∀{p:List J},t∈hH r p->t=r\/t∈p
 |[],d=>by unfold hH at d;grind
 |e::p,d=>by
  unfold hH at d;split at d
  .rcases aF.1 d with rfl|d
   .simp
   .rcases Bl d with d|d<;>simp[d]
  grind
def RG(r:J):∀l:List J,J.a4 (hH r l)<=r.sz+J.a4 l
 |[]=>by show r.sz+0<=r.sz+0;omega
 |d::p=>by
  unfold hH;split
  .have:=RG r p;show d.sz+J.a4 (hH r p)<=r.sz+(d.sz+J.a4 p);omega
  .split
   .omega
   .exact bw _
def RF{r:J}:∀{l:List J} {k:Nat},k<=l.length->(∀h t,h<k->l[h]? =some t->bj t.rx r.rx<0)->(∀t,l[k]? =some t->¬bj t.rx r.rx<0)->
  (∀t,l[k]? =some t->bj t.rx r.rx=0->hH r l=l)/\((∀t,l[k]? =some t->bj t.rx r.rx≠0)->hH r l=l.take k++r::l.drop k)
 |[],k,q,d,e=>⟨λt x=>by grind,λ_=>by simp[hH]⟩
 |j::p,0,q,d,e=>by
  have:=e j rfl;unfold hH
  grind
 |j::p,k+1,q,d,e=>by
  have z:=d 0 j io rfl;have A:=RF (r:=r) (l:=p) (k:=k) (by grind) (λh t y w=>d (h+1) t io (by grind)) (λt w=>e t (by grind));unfold hH
  grind
def RX{w:I}{s:Sl}{l:List J}(d:bh 4 w s (l.flatMap J.c))(a b:Nat)(e:a<=b)(h:b<=l.length):bh 4 w (mI 4 s a b) (((l.take b).drop a).flatMap J.c):=by have j:=J.cz d;have:=d.sub a b e io;rw[Km,Ks _ _ (by grind)]at this;omega
abbrev bP(s:Sl)(l:List J):J:=.mk 0 0 0 s l
def Iy(d:List Nat)(w:I)(l:List J)(r:cW)(w':I):Prop:=∃s:Sl,r=ad s.v/\(bP s l).P w'/\∀b∈(bP s l).fp,w.heap.size<=b\/b∈d
def dv{w:I}{s:Sl}{l:List J}:(bP s l).P w↔bh 4 w s (l.flatMap J.c)/\J.Ps w l:=by
 unfold bP J.P
 grind
def m'{s:Sl}{l:List J}{b:Nat}:b∈(bP s l).fp↔b∈(J.row s l).fp\/b∈J.bc l:=by
 unfold bP J.fp
 grind
def W8(s:Sl)(l:List J)(r:J)(w:I)(hl:J.a4 l<=100000)(hr:r.sz<=100000)(px:(bP s l).P w)(pr:r.P w):
  ai U NR #[s.v,r.v] w λT y=>Iy ((bP s l).fp++r.fp) w (hH r l) T y/\af w y:=by
 have nr:=J.cz (dv.1 px).1;have ll:=J.gn l
 let Z:aC:=λT y=>Iy ((bP s l).fp++r.fp) w (hH r l) T y/\af w y
 have fin:∀(k:Nat) (sl:Sl) (L:List En) (i:Nat) (e:I),k<=l.length->hH r l=l.take k++r::l.drop k->L[i]? =some (.row aJ 4 sl ((l.take k++[r]).flatMap J.c))->O F0 w e L [.tree (bP s l),.tree r]->
   qZ.cG s (k:Int) sl e Z:=by
  intro k sl L i e A Q aj j;have ay:(bP s l).P e:=j.getD 0;have S:=RX (dv.1 ay).1 k l.length A (bw _);rw[List.take_length]at S;have ap:aK e aJ 4 sl ((l.take k++[r]).flatMap J.c):=j.get i aj;have ab:=J.cz ap.a3;have aA:(l.take k++[r]).length=k+1:=by grind
  refine⟨io,io,?_⟩;obtain⟨E,y,G,h2,h3⟩:=j.eL (bs:=[]) i (ty:=di) (K:=λE y=>∃L',L'[i]? =some (.row aJ 4 E ((hH r l).flatMap J.c))/\O F0 w y L' [.tree (bP s l),.tree r]) mh (src:=mI 4 s k l.length) (news:=(l.drop k).flatMap J.c) aj S (ux _) (by show(sl.n+(l.length - k)) *40<=_;omega) (λE y H'=>⟨_,by
   grind,H'⟩)
  obtain⟨L',g1,F⟩:=h3;have e1:(a0 (k:Int))=k:=rfl;refine⟨E,y,by rw[e1,nr];exact G,⟨E,rfl,dv.2 ⟨(F.get i g1:aK _ _ _ _ _).a3,J.jV λt C=>?_⟩,λb N=>?_⟩,F.fr⟩
  .rcases Bl C with rfl|C
   .exact F.getD 1
   .exact (dv.1 (F.getD 0)).2.mem C
  .rcases m'.1 N with N|N
   .exact .inl ((F.new _ (aD g1) b (gY N)).resolve_right id)
   .obtain ⟨t,C,an⟩:=J.bX.1 N;rcases Bl C with rfl|C
    .grind
    .exact .inr (List.mem_append_left _ (m'.2 (.inr (J.bX.2 ⟨t,C,an⟩))))
 have s2:∀(k:Nat) (h:Nat) (e:I),k<=l.length->hH r l=l.take k++r::l.drop k->O F0 w e [.g h] [.tree (bP s l),.tree r]->qZ.bH s h r.k r.lo.toNat r.hi.toNat r.s (k:Int) e Z:=by
  intro k h e A Q j;have az:s.n<=s.c:=(dv.1 (show(bP s l).P e from j.getD 0)).1.2.1;have am:∀y:I,(bP s l).P y->bh 4 y (mI 4 s 0 k) ((l.take k).flatMap J.c):=λy ah=>RX (dv.1 ah).1 0 k io A;have e1:(a0 (k:Int))=k:=rfl;refine⟨io,io,j.ae λz q=>?_,j.ae λz q=>?_⟩
  .refine (q.h8 aJ 4).eL 1 mh (s:=⟨none,0,0⟩) (xs:=[]) (src:=mI 4 s 0 k) (news:=(l.take k).flatMap J.c) rfl (am z (q.getD 0)) (ux _) (by show(0+(k - 0)) *40<=_;omega) (λE H x=>?_);have x:O F0 w H [.g h,.row aJ 4 E ((l.take k).flatMap J.c)] [.tree (bP s l),.tree r]:=x;have ab:=J.cz (x.get 1:aK _ _ _ _ _).a3;rw[jW]at ab;refine x.jE 1 mh (xs:=(l.take k).flatMap J.c) rfl (λag w4 M=>?_) io;refine fin k ag _ 1 w4 A Q ?_ M;show some _=some _;rw[nS];rfl
  .refine q.e9 (n:=1) (sz:=4) (cs:=r.c) rfl dl λH x=>?_;refine(x.h8 aJ 4).eL 2 mh (s:=⟨none,0,0⟩) (xs:=[]) (src:=mI 4 s 0 k) (news:=(l.take k).flatMap J.c) rfl (am H (x.getD 0)) (ux _) (by show(0+(k - 0)) *40<=_;omega) (λE w4 M=>?_);have M:O F0 w w4 [.g h,.row aJ 4 ⟨some (aa z.heap.size),1,1⟩ r.c,.row aJ 4 E ((l.take k).flatMap J.c)] [.tree (bP s l),.tree r]:=M;have ab:=J.cz (M.get 2:aK _ _ _ _ _).a3;rw[jW]at ab;refine M.eL 2 mh (xs:=(l.take k).flatMap J.c) (src:=⟨some (aa z.heap.size),1,1⟩) (news:=r.c) rfl (M.get 1:aK _ _ _ _ _).a3 (λu hu=>ux [r] u (by grind)) (by grind) (λag w5 H5=>?_);refine fin k ag _ 2 w5 A Q ?_ H5
   grind
 have s1:∀(k:Nat) (h:Nat) (e:I),k<=l.length->(∀D t,D<k->l[D]? =some t->bj t.rx r.rx<0)->(∀t,l[k]? =some t->¬bj t.rx r.rx<0)->O F0 w e [.g h] [.tree (bP s l),.tree r]->qZ.bg s h r.k r.lo.toNat r.hi.toNat r.s (k:Int) e Z:=by
  intro k h e A G h2 j;obtain⟨g1,F⟩:=RF A G h2;refine aT (λao=>?_) (λao=>j.ae λz q=>s2 k h z A (F λt C=>by grind) q);have B:l[k]? =some l[k]:=aY io;generalize l[k]'io=t at B;have W:=aD B;refine⟨io,io,J.a6 (dv.1 (show(bP s l).P e from j.getD 0)).1 B λp S _=>j.ae λz q=>?_⟩;have Y:(bP s l).P z:=q.getD 0;have c:=J.again (dv.1 Y).1 B S;refine⟨_,_,_,_,c.c0,c.c1,c.c2,c.c3,q.av (r8 t r z (by have:=J.eP W;omega) ((dv.1 Y).2.mem W) (q.getD 1)) ?_⟩;rintro _ H rfl x;refine⟨_,rfl,aw (λh0=>⟨⟨s,rfl,?_,λb N=>.inr ?_⟩,x.fr⟩) (λh0=>s2 k h H A (F λt' ac=>by grind) x)⟩
  .rw [g1 t B h0];exact x.getD 0
  grind
 have loop:∀(d k:Nat) (h:Nat) (e:I),k+d=l.length->(∀D t,D<k->l[D]? =some t->bj t.rx r.rx<0)->O F0 w e [.g h] [.tree (bP s l),.tree r]->qZ.a1 s h r.k r.lo.toNat r.hi.toNat r.s (k:Int) e Z:=by
  intro d;induction d with
  |zero=>
   intro k h e A G j;exact qZ.bS (aQ (a2 io) (j.ae λz q=>s1 k h z io G (λt C=>by grind) q))
  |succ d ar=>
   intro k h e A G j;have B:l[k]? =some l[k]:=aY io;generalize l[k]'io=t at B;have W:=aD B;refine qZ.bS (aR (a5 io) ⟨io,io,J.a6 (dv.1 (show(bP s l).P e from j.getD 0)).1 B λp S _=>j.ae λz q=>?_⟩);have Y:(bP s l).P z:=q.getD 0;have c:=J.again (dv.1 Y).1 B S;refine⟨_,_,_,_,c.c0,c.c1,c.c2,c.c3,q.av (r8 t r z (by have:=J.eP W;omega) ((dv.1 Y).2.mem W) (q.getD 1)) ?_⟩;rintro _ H rfl x;refine⟨_,rfl,aT (λh0=>?_) (λh0=>s1 k h H io G (λt' ac=>by grind) x)⟩;rw[bm _ io];refine ar (k+1) h H io (λD t' hq ac=>?_) x;by_cases T:D=k
   .grind
   .exact G D t' io ac
 exact qZ.aq ((bM [.tree (bP s l),.tree r] (by
  intro T Q;simp only[aF,aZ,a7]at Q;rcases Q with rfl|rfl
  .exact px
  .exact pr)).ax λh e H1=>loop l.length 0 h e io (λD t ah=>io) H1)
def Gx(k:Int)(t:Rx):∀(l out:List Rx),hF k out (l++[t])=if k=3 then hF k out l++[t]else mC t (hF k out l)
 |[],out=>by show hF k (if k=3 then out++[t]else mC t out) []=_;unfold hF;rfl
 |a::l,out=>by show hF k (if k=3 then out++[a]else mC a out) (l++[t])=_;rw[Gx k t l];rfl
def aeW(x d:J)(w:x.k=3\/x.k=4\/x.k=5)(h:d.rx=eR):∃(j:Nat) (u z:J),aB .i64 (x.k - 3)=(j:Int)/\j<3/\[fS,cu,d][j]? =some u/\[cu,d,cu][j]? =some z/\(u=fS\/u=cu\/u=d)/\(z=cu\/z=d)/\u.rx≠z.rx/\
  iw (.mk x.k 0 0 (J.ao x.l))=ha x.k (J.ao x.l) u.rx z.rx:=by
 rcases w with q|q|q<;>rw[q]
 .exact ⟨0,fS,cu,dl,dl,rfl,rfl,.inl rfl,.inl rfl,(by intro e;cases e),rfl⟩
 .exact ⟨1,cu,d,dl,dl,rfl,rfl,.inr (.inl rfl),.inr rfl,(by rw[h];intro e;cases e),by rw[h];rfl⟩
 .exact ⟨2,d,cu,dl,dl,rfl,rfl,.inr (.inr rfl),.inl rfl,(by rw[h];intro e;cases e),by rw[h];rfl⟩
section
variable {x ev u z:J} {sf:Sl} {w:I} {b4 b8 b9:Nat}
def acJ(hx:x.sz<=10000)(bi:ev.rx=eR)(bq:∀b∈ev.fp,w.heap.size<=b)(hu:u=fS\/u=cu\/u=ev)(aM:z=cu\/z=ev)(aV:u.rx≠z.rx)(aH:iw (.mk x.k 0 0 (J.ao x.l))=ha x.k (J.ao x.l) u.rx z.rx){j:I}(H:O F0 w j [.g b4,.g b8,.g b9] [.tree x,.tree ev,.tree (bP sf (x.l.flatMap (fb x)))]):
  iP.iI x.k b4 0 0 0 ⟨none,0,0⟩ sf b8 u.k u.lo.toNat u.hi.toNat u.s b9 z.k z.lo.toNat z.hi.toNat z.s ⟨none,0,0⟩ 0 j λr A=>gK x.fp w (iw (.mk x.k 0 0 (J.ao x.l))) r A/\af w A:=by
 let R:aC:=λr A=>gK x.fp w (iw (.mk x.k 0 0 (J.ao x.l))) r A/\af w A
 have aL:Sub x (x.l.flatMap (fb x)):=Sub.flat λ_ aa=>aa;have aT:J.a4 (x.l.flatMap (fb x))<=J.a4 x.l:=wc x x.l;have an:((x.l.flatMap (fb x)).map J.rx).filter (λt=>!(bj t u.rx==0))=hC x.k (J.ao x.l) u.rx:=by rw[<-xr];unfold gO;rw[List.filter_map];rfl
 generalize x.l.flatMap (fb x)=fl at H aL aT an;have az:=aL;have bl:=J.iW x;have bk:J.a4 fl<=10000:=io
 have bn:=J.gn fl;have nr:sf.n=fl.length:=J.cz (dv.1 (show(bP sf fl).P j from H.getD 2)).1;have aA:∀A,ev.P A->u.P A:=λA aa=>by
  rcases hu with rfl|rfl|rfl
  .exact zW A
  .exact lO A
  omega
 have aq:∀A,ev.P A->z.P A:=λA aa=>by
  rcases aM with rfl|rfl
  .exact lO A
  omega
 have aU:∀b∈u.fp,w.heap.size<=b:=λb e=>by
  rcases hu with rfl|rfl|rfl
  .exact (zY e).elim
  .exact (lP e).elim
  grind
 have aN:∀b∈z.fp,w.heap.size<=b:=λb e=>by
  rcases aM with rfl|rfl
  .exact (lP e).elim
  grind
 have aG:∀t∈fl,t.rx=z.rx->iw (.mk x.k 0 0 (J.ao x.l))=z.rx:=λt ht ac=>by rw[aH];unfold ha;rw[ag];rw[List.any_eq_true];refine⟨t.rx,?_,sg.2 ac⟩;rw[<-an,List.mem_filter];exact⟨dA.2 ⟨t,ht,rfl⟩,Ke.2 (ac▸λaa=>aV aa.symm)⟩
 have aS:(∀t∈fl,t.rx≠z.rx)->iw (.mk x.k 0 0 (J.ao x.l))=uY x.k u.rx (hF x.k [] ((fl.map J.rx).filter λt=>!(bj t u.rx==0))):=λaa=>by
  rw[aH,abM,an];unfold ha;rw[ab]
  .rfl
  .rw [List.any_eq_true];rintro⟨t,ht,he⟩;rw[<-an,List.mem_filter]at ht;obtain⟨Y,y,rfl⟩:=dA.1 ht.1;exact aa Y y (sg.1 he)
 have fin:∀(h:List J) (q:Sl) (L D:List En) (j:I),(∀t∈fl,t.rx≠z.rx)->h.map J.rx=hF x.k [] ((fl.map J.rx).filter λt=>!(bj t u.rx==0))->(∀t∈h,t∈fl)->O F0 w j L (.tree x::.tree ev::D)->(∀b∈[b4,b8,b9],En.g b∈L)->(∀A,O F0 w A L (.tree x::.tree ev::D)->bh 4 A q (h.flatMap J.c)/\∀b∈(J.row q h).fp,w.heap.size<=b\/b∈x.fp)->
   bD ((q.n:Int)==0) (loc [b4,b8,b9] j λbe=>R (ad u.v) be) (bD ((q.n:Int)==1) (oh q 0 λp=>jM j (p.add (a0 0 *4)) λa b c d=>loc [b4,b8,b9] j λbf=>R (ad (.agg #[.i a,.int .u8 b,.int .u8 c,d.v])) bf) (loc [b4,b8,b9] j λbg=>R (ad (.agg #[.i x.k,.int .u8 0,.int .u8 0,q.v])) bg)):=by
  intro h q L D j W K T H e aI;have hr:=aI j H;have bs:=J.cz hr.1;have ej:=aS W;rw[<-K]at ej;have ap:Sub x h:=az.sub T;refine aw (λS=>H.ae (λF B=>⟨⟨u,rfl,?_,aA F (B.getD 1),λb e=>.inl (aU b e)⟩,B.fr⟩) e) (λS=>aw (λh1=>?_) (λh1=>H.ae (λF B=>⟨⟨.mk x.k 0 0 q h,rfl,?_,?_,λb e=>?_⟩,B.fr⟩) e))
  .have:h=[]:=List.length_eq_zero_iff.1 io;rw[ej,this];rfl
  .obtain ⟨a,rfl⟩:=List.length_eq_one_iff.1 (show h.length=1 by omega);refine⟨io,io,J.a6 hr.1 (i:=0) (t:=a) rfl λp M c=>⟨_,_,_,_,c.c0,c.c1,c.c2,c.c3,H.ae (λF B=>⟨⟨a,rfl,?_,ap.P _ (B.getD 0) a gs,λb e=>.inr (ap.fp a gs b e)⟩,B.fr⟩) e⟩⟩;rw[ej];rfl
  .rw [ej];unfold J.rx;rw[J.fW];cases h with
   |nil=>grind
   |cons a ks=>
    cases ks with
    |nil=>grind
    |cons b ks=>rfl
  .unfold J.P;exact⟨(aI F B).1,ap.Ps (B.getD 0)⟩
  .unfold J.fp at e;rcases aP.1 e with e|e
   .grind
   .exact .inr (ap.bc e)
 have aX:x.k=3->∀(d i:Nat) (q:Sl) (h:List J) (j:I),i+d=fl.length->(∀t∈fl.take i,t.rx≠z.rx)->h.map J.rx=hF x.k [] (((fl.take i).map J.rx).filter λt=>!(bj t u.rx==0))->(∀t∈h,t∈fl)->J.a4 h<=J.a4 (fl.take i)->
   O F0 w j [.g b4,.g b8,.g b9,.row aJ 4 q (h.flatMap J.c)] [.tree x,.tree ev,.tree (bP sf fl)]->iP.iI x.k b4 0 0 0 ⟨none,0,0⟩ sf b8 u.k u.lo.toNat u.hi.toNat u.s b9 z.k z.lo.toNat z.hi.toNat z.s q (i:Int) j R:=by
  intro hk d;induction d with
  |zero=>
   intro i q h j ax W K T hs H;rw[fV io]at W K;refine iP.om (aQ (a2 io) ?_);exact fin h q _ _ j W K T H gs (λA H'=>⟨(H'.get 3:aK _ _ _ _ _).a3,λb e=>.inl ((H'.new _ (aD (i:=3) rfl) b (gY e)).resolve_right id)⟩)
  |succ d am=>
   intro i q h j ax W K T hs H;have C:fl[i]? =some fl[i]:=aY io;generalize fl[i]'io=t at C;have E:=aD C;have bb:=J.eP E;have ah:fl.take (i+1)=fl.take i++[t]:=by rw[fJ,C];rfl
   have a9:J.a4 (fl.take (i+1))=J.a4 (fl.take i)+t.sz:=by rw[ah,wb];rfl
   have ba:=BX fl (i+1);refine iP.om (aR (a5 io) ⟨io,io,J.a6 (dv.1 (show(bP sf fl).P j from H.getD 2)).1 C λp M _=>H.ae λF B=>?_⟩);have p2:(bP sf fl).P F:=B.getD 2;have N:=J.again (dv.1 p2).1 C M;refine⟨_,_,_,_,N.c0,N.c1,N.c2,N.c3,B.av (r8 t z F io ((dv.1 p2).2.mem E) (aq F (B.getD 1))) ?_⟩;rintro _ w3 rfl Z;refine⟨_,rfl,aw (λS=>Z.ae λw4 H4=>⟨⟨z,rfl,?_,aq w4 (H4.getD 1),λb e=>.inl (aN b e)⟩,H4.fr⟩) (λS=>?_)⟩
   .exact (aG t E (wZ.1 S)).symm
   refine⟨io,io,J.a6 (dv.1 (show(bP sf fl).P w3 from Z.getD 2)).1 C λp M _=>Z.ae λw5 H5=>?_⟩;have p5:(bP sf fl).P w5:=H5.getD 2;have Q:=J.again (dv.1 p5).1 C M;refine⟨_,_,_,_,Q.c0,Q.c1,Q.c2,Q.c3,H5.av (r8 t u w5 io ((dv.1 p5).2.mem E) (aA w5 (H5.getD 1))) ?_⟩;rintro _ w6 rfl G;have aj:∀Y∈fl.take (i+1),Y.rx≠z.rx:=λY y=>by
    rw[ah]at y;rcases aP.1 y with y|y
    .grind
    .simp at y;subst y;exact λac=>S (wZ.2 ac)
   refine⟨_,rfl,aw (λh1=>?_) (λh1=>aR (beq_iff_eq.2 hk) ?_)⟩
   .show iP.iI _ _ _ _ _ _ _ _ _ _ _ _ _ _ _ _ _ _ _ _ _;rw[bm _ io];refine am (i+1) q h w6 io aj ?_ T io G
    grind
   .have ar:((fl.take (i+1)).map J.rx).filter (λt=>!(bj t u.rx==0))=(((fl.take i).map J.rx).filter λt=>!(bj t u.rx==0))++[t.rx]:=by grind
    refine⟨io,io,J.a6 (dv.1 (show(bP sf fl).P w6 from G.getD 2)).1 C λp M c=>⟨_,_,_,_,c.c0,c.c1,c.c2,c.c3,?_⟩⟩;have br:=J.cz (G.get 3:aK _ _ _ _ _).a3;have bp:=J.gn h;refine G.jE 3 mh (xs:=h.flatMap J.c) rfl (λs' w7 H7=>?_) io;show iP.iI _ _ _ _ _ _ _ _ _ _ _ _ _ _ _ _ _ _ _ _ _;rw[bm _ io];refine am (i+1) s' (h++[t]) w7 io aj ?_ (λY y=>?_) (by rw[wb];show _+(t.sz+0)<=_;omega) ?_
    .rw [ar,Gx,ag hk,ey,K];rfl
    .rcases aP.1 y with y|y
     .grind
     grind
    .rw [nS];exact H7
 have a1:x.k≠3->∀(d i:Nat) (q:Sl) (h:List J) (j:I),i+d=fl.length->(∀t∈fl.take i,t.rx≠z.rx)->h.map J.rx=hF x.k [] (((fl.take i).map J.rx).filter λt=>!(bj t u.rx==0))->(∀t∈h,t∈fl)->J.a4 h<=J.a4 (fl.take i)->(∀b∈(bP q h).fp,w.heap.size<=b\/b∈x.fp)->
   O F0 w j [.g b4,.g b8,.g b9] [.tree x,.tree ev,.tree (bP sf fl),.tree (bP q h)]->iP.iI x.k b4 0 0 0 ⟨none,0,0⟩ sf b8 u.k u.lo.toNat u.hi.toNat u.s b9 z.k z.lo.toNat z.hi.toNat z.s q (i:Int) j R:=by
  intro hk d;induction d with
  |zero=>
   intro i q h j ax W K T hs ay H;rw[fV io]at W K;refine iP.om (aQ (a2 io) ?_);exact fin h q _ _ j W K T H gs (λA H'=>⟨(dv.1 (show(bP q h).P A from H'.getD 3)).1,λb e=>ay b (m'.2 (.inl e))⟩)
  |succ d am=>
   intro i q h j ax W K T hs ay H;have C:fl[i]? =some fl[i]:=aY io;generalize fl[i]'io=t at C;have E:=aD C;have bb:=J.eP E;have ah:fl.take (i+1)=fl.take i++[t]:=by rw[fJ,C];rfl
   have a9:J.a4 (fl.take (i+1))=J.a4 (fl.take i)+t.sz:=by rw[ah,wb];rfl
   have ba:=BX fl (i+1);refine iP.om (aR (a5 io) ⟨io,io,J.a6 (dv.1 (show(bP sf fl).P j from H.getD 2)).1 C λp M _=>H.ae λF B=>?_⟩);have p2:(bP sf fl).P F:=B.getD 2;have N:=J.again (dv.1 p2).1 C M;refine⟨_,_,_,_,N.c0,N.c1,N.c2,N.c3,B.av (r8 t z F io ((dv.1 p2).2.mem E) (aq F (B.getD 1))) ?_⟩;rintro _ w3 rfl Z;refine⟨_,rfl,aw (λS=>Z.ae λw4 H4=>⟨⟨z,rfl,?_,aq w4 (H4.getD 1),λb e=>.inl (aN b e)⟩,H4.fr⟩) (λS=>?_)⟩
   .exact (aG t E (wZ.1 S)).symm
   refine⟨io,io,J.a6 (dv.1 (show(bP sf fl).P w3 from Z.getD 2)).1 C λp M _=>Z.ae λw5 H5=>?_⟩;have p5:(bP sf fl).P w5:=H5.getD 2;have Q:=J.again (dv.1 p5).1 C M;refine⟨_,_,_,_,Q.c0,Q.c1,Q.c2,Q.c3,H5.av (r8 t u w5 io ((dv.1 p5).2.mem E) (aA w5 (H5.getD 1))) ?_⟩;rintro _ w6 rfl G;have aj:∀Y∈fl.take (i+1),Y.rx≠z.rx:=λY y=>by
    rw[ah]at y;rcases aP.1 y with y|y
    .grind
    .simp at y;subst y;exact λac=>S (wZ.2 ac)
   refine⟨_,rfl,aw (λh1=>?_) (λh1=>aQ (by grind) ?_)⟩
   .show iP.iI _ _ _ _ _ _ _ _ _ _ _ _ _ _ _ _ _ _ _ _ _;rw[bm _ io];refine am (i+1) q h w6 io aj ?_ T io ay G
    grind
   .have ar:((fl.take (i+1)).map J.rx).filter (λt=>!(bj t u.rx==0))=(((fl.take i).map J.rx).filter λt=>!(bj t u.rx==0))++[t.rx]:=by grind
    refine⟨io,io,J.a6 (dv.1 (show(bP sf fl).P w6 from G.getD 2)).1 C λp M c=>⟨_,_,_,_,c.c0,c.c1,c.c2,c.c3,?_⟩⟩;refine kK ((W8 q h t w6 io io (G.getD 3) ((dv.1 (show(bP sf fl).P w6 from G.getD 2)).2.mem E)).mono ?_);rintro _ w7 ⟨⟨s',rfl,a8,aO⟩,f7⟩;refine⟨f7,?_⟩;have a7:∀b∈(bP s' (hH t h)).fp,w.heap.size<=b\/b∈x.fp:=λb e=>by
     rcases aO b e with e|e
     .exact .inl (bB G.fr.size e)
     .rcases aP.1 e with e|e
      .grind
      .exact .inr (az.fp t E b e)
    have H8:O F0 w w7 [.g b4,.g b8,.g b9] [.tree x,.tree ev,.tree (bP sf fl),.tree (bP q h),.tree (bP s' (hH t h))]:=G.ef _ f7 a8 λb e=>by
     rcases aO b (aW.1 e)with e|e
     .omega
     .rcases aP.1 e with e|e
      .exact .inr (.inr ⟨_,aD (i:=3) rfl,aW.2 e⟩)
      .exact .inr (.inr ⟨_,aD (i:=0) rfl,aW.2 (az.fp t E b e)⟩)
    refine⟨s',rfl,?_⟩;show iP.iI _ _ _ _ _ _ _ _ _ _ _ _ _ _ _ _ _ _ _ _ _;rw[bm _ io];refine am (i+1) s' (hH t h) w7 io aj ?_ (λY y=>?_) (by have:=RG t h;omega) a7 (H8.forget _ gs)
    .rw [ar,Gx,ab hk,RI,K]
    .rcases Bl y with rfl|y
     .exact E
     grind
 by_cases hk:x.k=3
 .exact aX hk fl.length 0 ⟨none,0,0⟩ [] j io gs (by simp[hF]) gs (by grind) (H.h8 aJ 4)
 .refine a1 hk fl.length 0 ⟨none,0,0⟩ [] j io gs (by simp[hF]) gs (by grind) (λb e=>?_) (H.ef (.tree (bP ⟨none,0,0⟩ [])) (Fr.refl _ _) (dv.2 ⟨bh.nil 4 j,by unfold J.Ps;trivial⟩) λb e=>?_)
  .rcases m'.1 e with e|e
   .simp [J.row,En.a3]at e
   .unfold J.bc at e;cases e
  .rcases m'.1 (aW.1 e)with e|e
   .simp [J.row,En.a3]at e
   .unfold J.bc at e;cases e
end
def Xf(x:J)(hk:3<=x.k/\x.k<=7)(hx:x.sz<=10000)(N:lJ (.mk x.k 0 0 (J.ao x.l))=true)(aO:∀c∈x.l,0<=c.k)(w:I)(px:x.P w):
  ai U NO #[.i x.k,x.s.v] w λr w'=>gK x.fp w (iw (.mk x.k 0 0 (J.ao x.l))) r w'/\af w w':=by
 have nr:=J.cz px.parts.1;have bf:=J.iW x;have a9:=J.gn x.l;refine iP.aq ((gT px).ax λG F H1=>H1.g9 (Dp F) ?_);rintro _ w2 ⟨j,rfl,an,a1,aG⟩ H2 F2;have H3:O F0 w w2 [.g G] [.tree x,.tree j]:=F2.rd (.tree j) a1 λb h=>aG b (aW.1 h);have aX:∀b∈j.fp,w.heap.size<=b:=λb h=>bB H1.fr.size (aG b h);have pc:∀{w':I} {c:J},x.P w'->x.l[0]? =some c->c.P w':=λaj e=>aj.parts.2.mem (aD e);have fc:∀{c:J},x.l[0]? =some c->∀b∈c.fp,b∈x.fp:=λe b h=>J.gP.2 (.inr (J.bX.2 ⟨_,aD e,h⟩));refine⟨_,_,_,j.s,rfl,H3.ax λK w3 D=>aw (λY=>?_) (λY=>aw (λh7=>?_) (λh7=>D.ae λM B=>?_))⟩
 .
  cases S:x.l with
  |nil=>rw[S,Y]at N;simp[lJ,J.ao]at N
  |cons c C=>
   have e:x.l[0]? =some c:=by grind
   have n2:0<x.s.n:=by grind
   have e1:J.ao (c::C)=c.rx::J.ao C:=rfl;have ah:iw (.mk x.k 0 0 (J.ao (c::C)))=rh 0 0 (c.rx::J.ao C):=by rw[Y];rfl
   rw[ah];refine⟨io,io,J.a6 (show x.P w3 from D.getD 0).parts.1 e λp A _=>D.ae λw5 B=>?_⟩;have Q:x.P w5:=B.getD 0;have y:=J.again Q.parts.1 e A;refine⟨c.k,y.c0,aw (λam=>⟨io,io,J.a6 Q.parts.1 e λp A y=>⟨c.s,y.c3,?_⟩⟩) (λam=>B.ae λz q=>⟨⟨.mk 6 0 0 x.s x.l,rfl,?_,?_,λb h=>.inr ?_⟩,q.fr⟩)⟩
   .cases aA:c.l with
    |nil=>
     rw[S,e1]at N;have e2:c.rx.l.isEmpty=true:=by rw[yB,aA];rfl
     simp[lJ,Y,mF,am,e2]at N
    |cons d l2=>
     have ap:c.l[0]? =some d:=by grind
     refine km (pc Q e) rfl ap (B.ae λz q=>⟨⟨d,rfl,?_,(pc (q.getD 0) e).parts.2.mem (aD ap),λb h=>.inr (fc e b (J.gP.2 (.inr (J.bX.2 ⟨d,aD ap,h⟩))))⟩,q.fr⟩);show d.rx=if c.rx.k=6 then _ else _;rw[ag (by rw[mF,am]),yB,aA];rfl
   .show Rx.mk 6 0 0 (J.ao x.l)=if c.rx.k=6 then _ else _;rw[ab (by rw[mF];omega),S,e1]
   .unfold J.P;exact(show x.P z from q.getD 0).parts
   .unfold J.fp at h;exact J.gP.2 (aP.1 h)
 .
  cases S:x.l with
  |nil=>rw[S,h7]at N;simp[lJ,J.ao]at N
  |cons c C=>
   have e:x.l[0]? =some c:=by grind
   have n2:0<x.s.n:=by grind
   have e1:J.ao (c::C)=c.rx::J.ao C:=rfl;have ah:iw (.mk x.k 0 0 (J.ao (c::C)))=mH 0 0 (c.rx::J.ao C):=by rw[h7];rfl
   rw[ah];have aH:mH 0 0 (c.rx::J.ao C)=if c.k=0\/c.k=1 then oE else if c.k=7\/bj c.rx eR=0 then c.rx else .mk 7 0 0 (c.rx::J.ao C):=by unfold mH;simp only[mF]
   have a7:c.sz<=1000000:=by have:=J.eP (aD e);omega
   have s0:∀(z:I),¬(c.k=0\/c.k=1)->(c.k=7\/bj c.rx eR=0)->O F0 w z [.g G,.g K] [.tree x,.tree j]->iP.aV x.s G 0 0 0 ⟨none,0,0⟩ z λr w'=>gK x.fp w (mH 0 0 (c.rx::J.ao C)) r w'/\af w w':=by
    intro z h1 h2 q;refine⟨io,io,J.a6 (show x.P z from q.getD 0).parts.1 e λp A y=>⟨_,_,_,_,y.c0,y.c1,y.c2,y.c3,(q.take 1).ae λw7 E=>⟨⟨c,rfl,?_,pc (E.getD 0) e,λb h=>.inr (fc e b h)⟩,E.fr⟩⟩⟩
    grind
   refine⟨io,io,J.a6 (show x.P w3 from D.getD 0).parts.1 e λp A _=>D.ae λw5 B=>?_⟩;have Q:x.P w5:=B.getD 0;have y:=J.again Q.parts.1 e A;have a8:0<=c.k:=aO c (aD e);refine⟨c.k,y.c0,aT (λh2=>B.ae λz q=>⟨⟨fS,rfl,?_,zW z,λb h=>(zY h).elim⟩,q.fr⟩) (λh2=>?_)⟩
   .rw [aH,ag io];rfl
   refine⟨io,io,J.a6 Q.parts.1 e λp A _=>B.ae λz q=>?_⟩;have ar:x.P z:=q.getD 0;have y:=J.again ar.parts.1 e A;refine⟨c.k,y.c0,aw (λaz=>s0 z io (.inl az) q) (λaz=>⟨io,io,J.a6 ar.parts.1 e λp A y=>⟨_,_,_,_,y.c0,y.c1,y.c2,y.c3,q.av (r8 c j z a7 (pc ar e) (q.getD 1)) ?_⟩⟩)⟩;rintro _ w7 rfl E;rw[an];refine⟨_,rfl,aw (λh0=>s0 w7 io (.inr h0) E) (λh0=>E.ae λw8 W=>⟨⟨.mk 7 0 0 x.s x.l,rfl,?_,?_,λb h=>.inr ?_⟩,W.fr⟩)⟩
   .show Rx.mk 7 0 0 (J.ao x.l)=_
    grind
   .unfold J.P;exact(show x.P w8 from W.getD 0).parts
   .unfold J.fp at h;exact J.gP.2 (aP.1 h)
 .
  have aI:x.k=3\/x.k=4\/x.k=5:=io
  obtain⟨bh,u,bl,ew,hj,gu,gz,hu,aU,aS,aL⟩:=aeW x j aI an;have loop:∀(d i:Nat) (acc:List J) (sl:Sl) (F:I),i+d=x.l.length->acc=(x.l.take i).flatMap (fb x)->O F0 w F [.g G,.g K,.row aJ 4 sl (acc.flatMap J.c)] [.tree x,.tree j]->
    iP.cq x.k x.s G 0 0 0 ⟨none,0,0⟩ K j.k j.lo.toNat j.hi.toNat j.s sl (i:Int) F λr w'=>gK x.fp w (iw (.mk x.k 0 0 (J.ao x.l))) r w'/\af w w':=by
   intro d;induction d with
   |zero=>
    intro i acc sl F aM Z H;rw[fV io]at Z;subst Z;have aC:Sub x (x.l.flatMap (fb x)):=Sub.flat λ_ aj=>aj;have T:=(H.ef (.trees (x.l.flatMap (fb x))) (Fr.refl _ _) (aC.Ps (H.getD 0)) (λb h=>.inr (.inr ⟨_,aD (i:=0) rfl,aW.2 (aC.bc (aW.1 h))⟩))).tn 2 2 0 0 0;have T:O F0 w F [.g G,.g K] [.tree x,.tree j,.tree (bP sl (x.l.flatMap (fb x)))]:=T.forget _ gs;refine iP.dF (aQ (a2 io) ?_);refine T.e9 (n:=3) (sz:=4) (cs:=[fS,cu,j].flatMap J.c) rfl dl λw2 H2=>?_;rw[ew];refine⟨io,io,J.a6 (s:=⟨some (aa F.heap.size),3,3⟩) (l:=[fS,cu,j]) (H2.get 2:aK _ _ _ _ _).a3 gu λp A c=>⟨_,_,_,_,c.c0,c.c1,c.c2,c.c3,H2.ax λb8 w3 H3=>H3.ae λM D=>D.e9 (n:=3) (sz:=4) (cs:=[cu,j,cu].flatMap J.c) rfl dl λw5 B=>⟨io,io,J.a6 (s:=⟨some (aa M.heap.size),3,3⟩) (l:=[cu,j,cu]) (B.get 4:aK _ _ _ _ _).a3 gz λp A c=>⟨_,_,_,_,c.c0,c.c1,c.c2,c.c3,B.ax λb9 z q=>q.ae λw7 E=>?_⟩⟩⟩⟩;have W:=((E.freeze 1 (.g K) rfl (E.get 1) λb h=>h).freeze 1 _ rfl (E.get 2) λb h=>h).freeze 2 _ rfl (E.get 4) λb h=>h;exact acJ hx an aX hu aU aS aL (W.forget _ gs)
   |succ d bg=>
    intro i acc sl F aM Z H;have e:x.l[i]? =some (x.l[i]'io):=aY io;generalize x.l[i]'io=a at e;have hm:=aD e;have ac:x.P F:=H.getD 0;have bk:=J.eP hm;have be:J.a4 acc<=J.a4 x.l:=by
     have h1:=wc x (x.l.take i);have h2:=BX x.l i
     grind
    have ba:acc++fb x a=(x.l.take (i+1)).flatMap (fb x):=by rw[fJ,e,dK,Z];simp
    have bi:=J.cz (H.get 2:aK _ _ _ _ _).a3;have aN:=J.gn acc;have tail:∀(L:Sl) (w':I),O F0 w w' [.g G,.g K,.row aJ 4 L ((acc++fb x a).flatMap J.c)] [.tree x,.tree j]->iP.bH x.k x.s G 0 0 0 ⟨none,0,0⟩ K j.k j.lo.toNat j.hi.toNat j.s L (i:Int) w' λr w'=>gK x.fp w (iw (.mk x.k 0 0 (J.ao x.l))) r w'/\af w w':=by
     intro L w' T;show iP.cq _ _ _ _ _ _ _ _ _ _ _ _ _ _ _ _;rw[bm _ io]
     grind
    refine iP.dF (aR (a5 io) ⟨io,io,J.a6 ac.parts.1 e λp A c=>⟨a.k,c.c0,aw (λhk=>?_) (λhk=>?_)⟩⟩)
    .have pa:a.P F:=ac.parts.2.mem hm;have na:=J.cz pa.parts.1;have aN:=J.gn a.l;have bb:=J.iW a;refine⟨io,io,J.a6 ac.parts.1 e λp A c=>⟨a.s,c.c3,?_⟩⟩;refine H.eL 2 mh (xs:=acc.flatMap J.c) (src:=a.s) (news:=a.l.flatMap J.c) rfl pa.parts.1 (ux _) io (λL M D=>?_);refine tail L M ?_;have ay:fb x a=a.l:=ag hk
     grind
    .refine ⟨io,io,J.a6 ac.parts.1 e λp A c=>⟨_,_,_,_,c.c0,c.c1,c.c2,c.c3,?_⟩⟩;refine H.jE 2 mh (xs:=acc.flatMap J.c) rfl (λL M D=>?_) io;refine tail L M ?_;have ay:fb x a=[a]:=ab hk;rw[ay,nS];exact D
  exact loop x.l.length 0 [] ⟨none,0,0⟩ M io rfl (B.h8 aJ 4)
def uX(k:Int):Rx:=if k=3 then oE else if k=4 then fU else eR
def zX(k:Int):Rx:=if k=4 then eR else fU
mutual
def NF:Rx->Prop
 |.mk d lo e l=>oo l/\(d≠2->lo=0/\e=0)/\(((d=0\/d=1)/\l=[])\/(d=2/\l=[]/\lo.toNat<=e.toNat)\/
   ((d=3\/d=4\/d=5)/\2<=l.length/\(d≠3->j5 l)/\∀t∈l,t.k≠d/\t≠uX d/\t≠zX d)\/
   (d=6/\∃c,l=[c]/\c.k≠6)\/(d=7/\∃c,l=[c]/\c.k≠0/\c.k≠1/\c.k≠7/\c≠eR))
def oo:List Rx->Prop
 |[]=>True
 |a::l=>NF a/\oo l
end
def wB:∀{l:List Rx},oo l↔∀t∈l,NF t
 |[]=>by unfold oo;simp
 |a::l=>by unfold oo;rw[wB];simp
def yd:NF fU:=by unfold fU NF oo;simp
def Gc:NF oE:=by unfold oE NF oo;simp
def Qh:NF eR:=by unfold eR NF oo oo;refine⟨⟨yd,trivial⟩,gs,.inr (.inr (.inr (.inl ⟨rfl,fU,rfl,dl⟩)))⟩
def aa8(k:Int):NF (uX k):=by
 unfold uX;split
 .exact Gc
 .split
  .exact yd
  .exact Qh
def aa9(k:Int):NF (zX k):=by
 unfold zX;split
 .exact Qh
 .exact yd
def Qi{x:Rx}(d:NF x):∀t∈x.l,NF t:=by cases x;unfold NF at d;exact wB.1 d.1
def aa5{x:Rx}{k:Int}(q:k=3\/k=4\/k=5)(d:NF x)(e:x.k=k):2<=x.l.length/\(k≠3->j5 x.l)/\∀t∈x.l,t.k≠k/\t≠uX k/\t≠zX k:=by
 cases x with
 |mk h lo j l=>
  have e:h=k:=e;subst e;unfold NF at d;obtain⟨-,-,d|d|d|d|d⟩:=d
  .omega
  .omega
  .exact d.2
  .omega
  .omega
def YH{k:Int}{l:List Rx}{u t:Rx}:t∈hC k l u↔(∃c∈l,if c.k=k then t∈c.l else t=c)/\t≠u:=by
 unfold hC;rw[List.mem_filter,ck,Ke]
 grind
def YI{k:Int}(w:k=3\/k=4\/k=5){l:List Rx}(e:∀c∈l,NF c){t:Rx}(x:t∈hC k l (uX k)):NF t/\t.k≠k/\t≠uX k:=by
 obtain⟨⟨c,h,d⟩,q⟩:=YH.1 x;split at d
 .rename_i j;exact⟨Qi (e c h) t d,((aa5 w (e c h) j).2.2 t d).1,q⟩
 grind
def nj(k:Int)(l:List Rx):List Rx:=if k=3 then hC k l (uX k)else vX (hC k l (uX k))
def acF{k:Int}{l:List Rx}{t:Rx}:t∈nj k l↔t∈hC k l (uX k):=by
 unfold nj;split
 .grind
 .exact Tn
def Mi(k:Int)(l:List Rx):((hC k l (uX k)).any λt=>bj t (zX k)==0)=true↔zX k∈hC k l (uX k):=by
 rw[List.any_eq_true];constructor
 .rintro ⟨t,e,d⟩;rw[sg.1 d]at e;exact e
 .exact λd=>⟨_,d,sg.2 rfl⟩
def Mk{k:Int}{l:List Rx}(d:zX k∈hC k l (uX k)):ha k l (uX k) (zX k)=zX k:=by unfold ha;rw[ag ((Mi k l).2 d)]
def Mj{k:Int}{l:List Rx}(d:¬zX k∈hC k l (uX k)):ha k l (uX k) (zX k)=uY k (uX k) (nj k l):=by unfold ha;rw[ab (λe=>d ((Mi k l).1 e))];rfl
def ZD{k:Int}(q:k=3\/k=4\/k=5){l:List Rx}(x:∀c∈l,NF c):NF (ha k l (uX k) (zX k)):=by
 by_cases w:zX k∈hC k l (uX k)
 .rw [Mk w];exact aa9 k
 .rw [Mj w];have e:∀t∈nj k l,NF t/\t.k≠k/\t≠uX k/\t≠zX k:=λt d=>by
   have d:=acF.1 d;obtain⟨y,A,h⟩:=YI q x d
   grind
  have j:k≠3->j5 (nj k l):=λh=>by unfold nj;rw[ab h];exact Tm _
  generalize nj k l=m at e j;unfold uY;split
  .exact aa8 k
  .grind
  .rename_i z y;unfold NF;refine⟨wB.2 λt d=>(e t d).1,λ_=>⟨rfl,rfl⟩,.inr (.inr (.inl ⟨q,?_,j,λt d=>(e t d).2⟩))⟩;cases m with
   |nil=>grind
   |cons a m=>
    cases m with
    |nil=>grind
    |cons b m=>simp
def Ey{k:Int}(d:k=3\/k=4\/k=5)(lo hi:UInt8)(l:List Rx):iw (.mk k lo hi l)=ha k l (uX k) (zX k):=by rcases d with rfl|rfl|rfl<;>rfl
def abm{c:Rx}(h:NF c):NF (rh 0 0 [c]):=by
 unfold rh;simp only;split
 .rename_i d;split
  .exact yd
  .rename_i e m j;exact Qi h e (by grind)
 .rename_i d;unfold NF;exact⟨wB.2 λt k=>by grind,λ_=>⟨rfl,rfl⟩,.inr (.inr (.inr (.inl ⟨rfl,c,rfl,d⟩)))⟩
def adW{c:Rx}(d:NF c):NF (mH 0 0 [c]):=by
 unfold mH;simp only;split
 .exact Gc
 .rename_i e;split
  .exact d
  .rename_i h;unfold NF;exact⟨wB.2 λt j=>by grind,λ_=>⟨rfl,rfl⟩,.inr (.inr (.inr (.inr ⟨rfl,c,rfl,λd=>e (.inl d),λd=>e (.inr d),λd=>h (.inl d),λd=>h (.inr (wZ.2 d))⟩)))⟩
def sK{k:Int}{lo hi:UInt8}{l:List Rx}(h:cO (.mk k lo hi l)=true):dY l=true/\(k≠2->lo=0/\hi=0)/\(((k=0\/k=1)/\l=[])\/(k=2/\l=[]/\lo.toNat<=hi.toNat)\/(k=3\/k=4\/k=5)\/((k=6\/k=7)/\∃c,l=[c])):=by
 unfold cO at h;rw[bd]at h;obtain⟨q,d⟩:=h;have j:k≠2->lo=0/\hi=0:=λe=>by grind
 split at d
 .rename_i e;have:l=[]:=by grind
  subst this;exact⟨rfl,j,.inl ⟨e,rfl⟩⟩
 .split at d
  .rename_i e;simp only[bd,decide_eq_true_eq]at d;have:l=[]:=by grind
   subst this;exact⟨rfl,j,.inr (.inl ⟨e,rfl,d.2⟩)⟩
  .split at d
   .grind
   .split at d
    .rename_i e;simp only[bd]at d;exact⟨d.2,j,.inr (.inr (.inr ⟨e,List.length_eq_one_iff.1 (eq_of_beq d.1)⟩))⟩
    grind
def aa7{lo hi:UInt8}(d:lo.toNat<=hi.toNat):NF (.mk 2 lo hi []):=by
 unfold NF oo
 grind
mutual
def Qt:∀k:Rx,cO k=true->NF (dQ k)
 |.mk A lo z l,q=>by
  obtain⟨w,e,x⟩:=sK q;have j:=Gg l w;unfold dQ;rcases x with⟨d,rfl⟩|⟨rfl,rfl,y⟩|d|⟨d,c,rfl⟩
  .obtain ⟨rfl,rfl⟩:=e io;rcases d with rfl|rfl
   .exact yd
   .exact Gc
  .exact aa7 y
  .rw [Ey d];exact ZD d j
  .obtain ⟨rfl,rfl⟩:=e io;have h:NF (dQ c):=j _ (by unfold fq;simp);rcases d with rfl|rfl
   .exact abm h
   .exact adW h
def Gg:∀l:List Rx,dY l=true->∀t∈fq l,NF t
 |[],_=>λt d=>by unfold fq at d;cases d
 |a::l,e=>λt d=>by
  unfold dY at e;rw[bd]at e;unfold fq at d;rcases aF.1 d with rfl|d
  .exact Qt a e.1
  .exact Gg l e.2 t d
end
section
variable {μ:Rx->Nat}
def Np(p:Rx->Bool):∀l:List Rx,ms μ (l.filter p)<=ms μ l
 |[]=>bw _
 |a::l=>by
  have d:=Np p l;rw[List.filter_cons];split
  .show μ a+_<=μ a+_;omega
  .show _<=μ a+_;omega
def xQ:∀{l:List Rx} {a:Rx},a∈l->μ a<=ms μ l
 |b::l,a,d=>by
  rcases aF.1 d with rfl|d
  .show μ a<=μ a+_;omega
  .have:=xQ d;show μ a<=μ b+_;omega
def Nq(d:∀e,1<=μ e):∀l:List Rx,l.length<=ms μ l
 |[]=>bw _
 |a::l=>by have:=Nq d l;have:=d a;show l.length+1<=μ a+ms μ l;omega
def No:∀(l:List Rx) (p:Rx),ms μ (lG p l)<=ms μ l
 |[],p=>bw _
 |d::l,p=>by
  have:=No l d;unfold lG;split
  .show _<=μ d+ms μ l;omega
  .show μ d+_<=μ d+ms μ l;omega
def aaN(l:List Rx):ms μ (vX l)<=ms μ l:=by
 have d:ms μ (sh (lY l))<=ms μ (lY l):=by
  cases lY l with
  |nil=>exact bw _
  |cons a m=>have:=No (μ:=μ) m a;show μ a+_<=μ a+_;omega
 rw[<-aaM (HA l)];exact d
def Fk(d:∀e,ms μ e.l<=μ e)(k:Int):∀l:List Rx,ms μ (l.flatMap λc=>if c.k=k then c.l else[c])<=ms μ l
 |[]=>bw _
 |c::l=>by
  have j:=Fk d k l;have h:=d c;rw[dz,Nn];show _<=μ c+ms μ l;split
  .omega
  .show (μ c+0)+_<=_;omega
def Ns(h:∀e,ms μ e.l<=μ e)(k:Int)(l:List Rx):ms μ (nj k l)<=ms μ l:=by
 have d:ms μ (hC k l (uX k))<=ms μ l:=bB (Np _ _) (Fk h k l);unfold nj;split
 .exact d
 .exact bB (aaN _) d
end
def HL:∀l:List Rx,Rx.a4 l=ms Rx.sz l
 |[]=>rfl
 |a::l=>by unfold Rx.a4;rw[HL l];rfl
def qz(k:Int)(lo hi:UInt8)(l:List Rx):(Rx.mk k lo hi l).sz=1+ms Rx.sz l:=by unfold Rx.sz;rw[HL]
def T2(x:Rx):ms Rx.sz x.l<=x.sz:=by cases x;rw[qz];simp only[Rx.l];omega
def Fg(x:Rx):ms dn x.l<=dn x:=by cases x;rw[sS];simp only[Rx.l];omega
def aax(x:Rx):1<=dn x:=by cases x;rw[sS];omega
mutual
def M1:∀d:Rx,dn d<=d.sz
 |.mk h lo e l=>by rw[sS,qz];have:=M3 l;omega
def M3:∀l:List Rx,ms dn l<=ms Rx.sz l
 |[]=>bw _
 |a::l=>by have d:=M1 a;have e:=M3 l;show dn a+ms dn l<=a.sz+ms Rx.sz l;omega
end
def Ml{k:Int}{l:List Rx}{P:Rx->Prop}(j:P (zX k))(w:P (uX k))(e:∀a,a∈nj k l->P a)(h:P (.mk k 0 0 (nj k l))):P (ha k l (uX k) (zX k)):=by
 by_cases d:zX k∈hC k l (uX k)
 .rw [Mk d];exact j
 .rw [Mj d];generalize q:nj k l=m at e h;unfold uY
  grind
def UN(k:Int):(uX k).sz<=2/\(zX k).sz<=2/\dn (uX k)=1/\dn (zX k)=1:=by
 unfold uX zX;refine⟨?_,?_,?_,?_⟩
 .split
  .decide
  .split<;>decide
 .split<;>decide
 .split
  .decide
  .split<;>decide
 .split<;>decide
def QD{k:Int}{c:Rx}(e:k=6\/k=7){P:Rx->Prop}(h:P fU)(j:P oE)(w:P c)(hd:∀d∈c.l,P d)(q:P (.mk k 0 0 [c])):P (iw (.mk k 0 0 [c])):=by
 rcases e with rfl|rfl
 .show P (rh 0 0 [c]);unfold rh
  grind
 .show P (mH 0 0 [c]);unfold mH
  grind
mutual
def Ge:∀j:Rx,cO j=true->(dQ j).sz<=2 *j.sz
 |.mk e lo w l,y=>by
  obtain⟨z,q,A⟩:=sK y;have h:=A1 l z;have D:=qz e lo w l;rw[D];unfold dQ;rcases A with⟨d,rfl⟩|⟨rfl,rfl,F⟩|d|⟨d,c,rfl⟩
  .obtain ⟨rfl,rfl⟩:=q io;rcases d with rfl|rfl<;>decide
  .show (Rx.mk 2 lo w []).sz<=_;omega
  .rw [Ey d];have G:=Ns (μ:=Rx.sz) T2 e (fq l);obtain⟨H,J,-,-⟩:=UN e;refine Ml (P:=λk=>k.sz<=2 *(1+ms Rx.sz l)) io io (λa B=>?_) ?_
   .have:=xQ (μ:=Rx.sz) B;omega
   .show (Rx.mk e 0 0 _).sz<=_;rw[qz];omega
  .obtain ⟨rfl,rfl⟩:=q io;have x:fq [c]=[dQ c]:=rfl;rw[x]at h ⊢;have h:(dQ c).sz+0<=2 *(c.sz+0):=h;show _<=2 *(1+(c.sz+0));refine QD (P:=λk=>k.sz<=2 *(1+(c.sz+0))) d (by show(1:Nat)<=_;omega) (by show(1:Nat)<=_;omega) io (λE C=>?_) ?_
   .have:=xQ (μ:=Rx.sz) C;have:=T2 (dQ c);omega
   .show (Rx.mk e 0 0 _).sz<=_;rw[qz];simp only[ms];omega
def A1:∀l:List Rx,dY l=true->ms Rx.sz (fq l)<=2 *ms Rx.sz l
 |[],_=>bw _
 |a::l,d=>by unfold dY at d;rw[bd]at d;have e:=Ge a d.1;have h:=A1 l d.2;show(dQ a).sz+ms Rx.sz (fq l)<=2 *(a.sz+ms Rx.sz l);omega
end
mutual
def abj:∀j:Rx,cO j=true->dn (dQ j)<=dn j
 |.mk e lo w l,y=>by
  obtain⟨z,q,A⟩:=sK y;have h:=Gf l z;have D:=sS e lo w l;rw[D];unfold dQ;rcases A with⟨d,rfl⟩|⟨rfl,rfl,F⟩|d|⟨d,c,rfl⟩
  .obtain ⟨rfl,rfl⟩:=q io;rcases d with rfl|rfl<;>decide
  .show dn (Rx.mk 2 lo w [])<=_;omega
  .rw [Ey d];have G:=Ns (μ:=dn) Fg e (fq l);obtain⟨-,-,H,J⟩:=UN e;refine Ml (P:=λk=>dn k<=max 1 (ms dn l)) io io (λa B=>?_) ?_
   .have:=xQ (μ:=dn) B;omega
   .show dn (Rx.mk e 0 0 _)<=_;rw[sS];omega
  .obtain ⟨rfl,rfl⟩:=q io;have x:fq [c]=[dQ c]:=rfl;rw[x]at h ⊢;have h:dn (dQ c)+0<=dn c+0:=h;show _<=max 1 (dn c+0);refine QD (P:=λk=>dn k<=max 1 (dn c+0)) d (by show(1:Nat)<=_;omega) (by show(1:Nat)<=_;omega) io (λE C=>?_) ?_
   .have:=xQ (μ:=dn) C;have:=Fg (dQ c);omega
   .show dn (Rx.mk e 0 0 _)<=_;rw[sS];simp only[ms];omega
def Gf:∀l:List Rx,dY l=true->ms dn (fq l)<=ms dn l
 |[],_=>bw _
 |a::l,d=>by unfold dY at d;rw[bd]at d;have e:=abj a d.1;have h:=Gf l d.2;show dn (dQ a)+ms dn (fq l)<=dn a+ms dn l;omega
end
def LF{N:Nat}{k:Int}{lo hi:UInt8}{l:List Rx}(d:cO (.mk k lo hi l)=true)(D:(Rx.mk k lo hi l).sz<=10000)(q:jK N (.mk k lo hi l)):s9 N (.mk k lo hi (fq l))=true:=by
 obtain⟨e,J,y⟩:=sK d;have Q:=A1 l e;have P:=Gf l e;rw[qz]at D;unfold jK at q;unfold s9;rw[bd,bd];refine⟨⟨?_,a5 (by rw[qz];omega)⟩,?_⟩
 .unfold lJ;rw[bd,bd];refine⟨⟨a5 io,a5 io⟩,?_⟩;rcases y with⟨h,rfl⟩|⟨h,rfl,O⟩|h|⟨h,c,rfl⟩
  .grind
  .grind
  .grind
  .show (!(k==6&&(dQ c).k==6&&(dQ c).l.isEmpty))=true;have A:cO c=true:=by
    unfold dY at e
    grind
   have j:=Qt c A;generalize dQ c=G at j;cases G with
   |mk w F C E=>
    by_cases x:w=6
    .unfold NF at j;obtain⟨-,-,d|d|d|⟨_,H,B,_⟩|d⟩:=j
     .omega
     .omega
     .omega
     .rw [B];simp[Rx.l]
     .omega
    .have:(Rx.k (.mk w F C E)==6)=false:=by simpa[Rx.k]using x
     grind
 .show ak (k=4\/k=5->vF k (fq l)<=N)=true;refine a5 λz=>?_;have K:=Nq aax ((fq l).flatMap λc=>if c.k=k then c.l else[c]);have L:=Fk (μ:=dn) Fg k (fq l);have M:=q.2 z;show((fq l).flatMap λc=>if c.k=k then c.l else[c]).length<=N;omega
mutual
def Lx{N:Nat}:∀d:Rx,cO d=true->d.sz<=10000->jK N d->q2 N d=true
 |.mk w lo q l,h,j,e=>by obtain⟨k,-,-⟩:=sK h;unfold q2;rw[LF h j e,Bool.and_true];rw[qz]at j;unfold jK at e;exact Ly l k io e.1
def Ly{N:Nat}:∀l:List Rx,dY l=true->ms Rx.sz l<=10000->sI N l->sJ N l=true
 |[],_,_,_=>rfl
 |a::l,d,h,e=>by unfold dY at d;rw[bd]at d;unfold sI at e;have h:a.sz+ms Rx.sz l<=10000:=h;unfold sJ;rw[Lx a d.1 io e.1,Ly l d.2 io e.2];rfl
end
namespace R1
def aq:=aA (ay U Tryz.f130 [(4,ls [1,0,2,3,4,5,6,7])] [1,2]) FQ [.a 4,.I,.Y,.Y,.s]
end R1
def aa6{x:Rx}(d:NF x):0<=x.k:=by cases x;unfold NF at d;simp only[Rx.k];omega
def abl{x:Rx}(e:cO x=true)(d:x.k<3):dQ x=x:=by
 cases x with
 |mk j lo y l=>
  have z:j<3:=d;clear d;obtain⟨q,w,h⟩:=sK e;rcases h with⟨d,rfl⟩|⟨rfl,rfl,A⟩|d|⟨d,c,rfl⟩
  .rcases d with rfl|rfl<;>rfl
  .rfl
  .omega
  .omega
abbrev VF(n:Nat):Prop:=∀(x:J) (w:I),x.sz<=n->cO x.rx=true->x.P w->ai U xU #[x.v] w λr d=>gK x.fp w (dQ x.rx) r d/\af w d
def JP:∀n:Nat,n<=1000->VF n
 |0,_=>λe z S _ _=>absurd S (by have:=J.nr e;omega)
 |n+1,hn=>λe z S W px=>by
  have ih:=JP n io;have hs:=J.iW e;have hl:=J.gn e.l;have aH:=J.cz px.parts.1;refine xj.aq ((gT px).ax λB j H1=>H1.ax λC L w=>aT (λY=>w.ae λM x=>⟨⟨e,rfl,(abl W (by rw[mF];exact Y)).symm,x.getD 0,λb h=>.inr h⟩,x.fr⟩) (λY=>?_));have F:=W;rw[J.fv]at F;obtain⟨G,ar,az⟩:=sK F;obtain⟨ac,ab⟩:=ar io;have ag:dQ e.rx=iw (.mk e.k 0 0 (fq (J.ao e.l))):=by rw[J.fv,ac,ab];unfold dQ;rfl
  have loop:∀(d i:Nat) (acc:List J) (sl:Sl) (j:I),i+d=e.l.length->J.ao acc=fq (J.ao (e.l.take i))->(∀b∈J.bc acc,z.heap.size<=b\/b∈e.fp)->
    O F0 z j [.g B,.g C,.row aJ 4 sl (acc.flatMap J.c)] [.tree e,.trees acc]->
    xj.a1 B e.k e.lo.toNat e.hi.toNat e.s C 0 0 0 ⟨none,0,0⟩ sl (i:Int) j λr w'=>gK e.fp z (dQ e.rx) r w'/\af z w':=by
   intro d;induction d with
   |zero=>
    intro i acc sl j ap y T q;rw[fV io]at y;have aC:∀b∈(J.row sl acc).fp,z.heap.size<=b:=λb h=>(q.new _ (aD (i:=2) rfl) b (gY h)).resolve_right id;have Q:O F0 z j [.g B,.g C] [.tree e,.trees acc,J.row sl acc,.tree (.mk e.k 0 0 sl acc)]:=q.tn 2 1 e.k 0 0;have ah:Rx.mk e.k 0 0 (J.ao acc)=.mk e.k 0 0 (fq (J.ao e.l)):=by rw[y]
    have aw:(Rx.mk e.k e.lo e.hi (J.ao e.l)).sz<=10000:=by rw[<-J.fv,J.ez];omega
    have Z:=LF (N:=100000) F aw (z9 _ (by
     have aA:∀aa:Rx,dn aa<=aa.sz:=M1
     grind))
    unfold s9 at Z;rw[bd,bd]at Z;have av:(J.mk e.k 0 0 sl acc).sz<=10000:=by have E:=J.ez (J.mk e.k 0 0 sl acc);have h2:=A1 (J.ao e.l) G;have h3:=J.yC e.l;rw[HL]at h3;rw[<-E];show(Rx.mk e.k 0 0 (J.ao acc)).sz<=_;rw[ah,qz];omega
    have an:lJ (.mk e.k 0 0 (J.ao acc))=true:=by grind
    refine xj.bS (aQ (a2 io) ?_);refine Q.sb (Xf (.mk e.k 0 0 sl acc) ⟨by show 3<=e.k;omega,by show e.k<=7;omega⟩ av an (λc hc=>?_) j (Q.getD 3)) (λb h=>⟨_,aD (i:=3) rfl,aW.2 h⟩) λt L H w D=>?_
    .have am:c.rx∈fq (J.ao e.l):=by rw[<-y,J.fW];exact dA.2 ⟨c,hc,rfl⟩
     have:=aa6 (Gg (J.ao e.l) G _ am)
     rwa[mF]at this
    refine⟨_,_,_,t.s,rfl,w.ae λM x=>⟨⟨t,rfl,?_,x.getD 4,λb h=>?_⟩,x.fr⟩⟩
    .rw [H,ag];show iw (Rx.mk e.k 0 0 (J.ao acc))=_;rw[y]
    .rcases D b h with h|h
     .exact .inl (bB q.fr.size h)
     .unfold J.fp at h
      grind
   |succ d ay=>
    intro i acc sl j ap y T q;have A:e.l[i]? =some (e.l[i]'io):=aY io;generalize e.l[i]'io=a at A;have K:=aD A;have aL:=J.eP K;have ga:cO a.rx=true:=LL G (by rw[J.fW];grind);have aj:∀b∈a.fp,b∈e.fp:=λb h=>J.gP.2 (.inr (J.bX.2 ⟨a,K,h⟩));refine xj.bS (aR (a5 io) (km (show e.P j from q.getD 0) rfl A ?_));refine q.sb (ih a j io ga ((show e.P j from q.getD 0).parts.2.mem K)) (λb h=>⟨_,aD (i:=0) rfl,aW.2 (aj b h)⟩) λt L H w D=>?_;have aI:=J.cz (w.get 2:aK _ _ _ _ _).a3;have aG:acc.length=i:=by
     have E:=congrArg List.length y;rw[J.fW,s7,J.fW]at E
     grind
    refine⟨_,_,_,t.s,rfl,w.jE 2 mh (xs:=acc.flatMap J.c) rfl (λs' M x=>?_) io⟩;have H4:=(x.tw 1 2).take 3;rw[bm _ io];refine ay (i+1) (acc++[t]) s' M io ?_ (uZ T λb h=>?_) ?_
    .rw [k5,y,fJ,A,Option.toList_some,k5,s7,s7,ey];show _++[t.rx]=_;rw[H];rfl
    .rcases D b h with h|h
     .exact .inl (bB q.fr.size h)
     grind
    .rw [nS];exact H4.forget _ gs
  exact loop e.l.length 0 [] ⟨none,0,0⟩ L io rfl (λb h=>by unfold J.bc at h;cases h) (Qp (w.h8 aJ 4))
def JO(x:J)(w:I)(e:x.sz<=1000)(h:cO x.rx=true)(j:x.P w):ai U xU #[x.v] w λr d=>gK x.fp w (dQ x.rx) r d/\af w d:=JP 1000 (bw _) x w e h j
def gj(x:Rx):Rx:=if iY x=0 then qa (dQ x)else fU
def k1(x:Rx):Int:=if iY x=0 then p' (dQ x)else iY x
def Ix(d:List Nat)(w:I)(x:Rx)(c:Int)(r:cW)(w':I):Prop:=∃t:J,r=ad (.tuple #[t.v,.int .i64 c])/\t.rx=x/\t.P w'/\∀b∈t.fp,w.heap.size<=b\/b∈d
def WQ(x:J)(w:I)(y:x.sz<=1000000)(A:x.P w):ai U NL #[x.v] w λr k=>Ix x.fp w (qa x.rx) (p' x.rx) r k/\af w k:=by
 refine KN.aq ((gT A).ax λD F q=>q.ax λE B h=>h.av (Dk x B y (h.getD 0)) ?_);rintro _ G rfl j;refine⟨_,rfl,aT (λz=>j.ae λC d=>⟨⟨cu,?_,?_,lO _,λb e=>(lP e).elim⟩,d.fr⟩) (λz=>j.ae λC d=>⟨⟨x,?_,?_,d.getD 0,λb e=>.inr e⟩,d.fr⟩)⟩
 .unfold p';rw[J.ez,ag io];rfl
 .unfold qa;rw[J.ez,ag io];rfl
 .unfold p';rw[J.ez,ab io]
 .unfold qa;rw[J.ez,ab io]
def Xd(x:J)(w:I)(K:x.sz<=1000000)(N:x.P w):ai U NC #[x.v] w λr D=>Ix x.fp w (gj x.rx) (k1 x.rx) r D/\af w D:=by
 refine KI.aq ((gT N).ax λT w1 F=>F.ax λW Q k=>k.av (Xe x Q K (k.getD 0)) ?_);rintro _ S rfl h;unfold gj k1;refine⟨_,rfl,ct (λB=>h.ae λE e=>⟨⟨cu,?_,?_,lO _,λb d=>(lP d).elim⟩,e.fr⟩) (λj=>?_)⟩
 .rw [ab B];rfl
 .rw [ab B];rfl
 obtain⟨A,L⟩:=Cc j;have Y:x.sz<=64:=by rw[<-J.ez];exact L
 rw[ag j,ag j];refine h.sb (JO x S io A (h.getD 0)) (λb d=>⟨_,aD (i:=0) rfl,aW.2 d⟩) λt E C e H=>?_;have O:t.sz<=1000000:=by have:=Ge _ A;rw[<-J.ez,C];omega
 refine⟨_,_,_,t.s,rfl,kK ((WQ t E O (e.getD 1)).mono ?_)⟩;rintro _ w5 ⟨⟨u,rfl,Z,M,z⟩,y⟩;have G:=e.ef (.tree u) y M λb d=>(z b (aW.1 d)).imp id λd=>.inr ⟨_,aD (i:=1) rfl,aW.2 d⟩;refine⟨y,_,_,_,u.s,_,rfl,G.ae λw6 q=>⟨⟨u,by rw[C],by grind,q.getD 2,λb d=>?_⟩,q.fr⟩⟩;rcases z b d with d|d
 .exact .inl (bB e.fr.size d)
 .exact (H b d).imp (λd=>bB h.fr.size d) id
def Jn{N:Nat}(T:mT N)(S:N+1<=1000000)(x:J)(w:I)(B:x.sz<=1000000)(W:jK N x.rx)(px:x.P w):ai U FQ #[x.v] w λr F=>Iz w (gj x.rx) (k1 x.rx) r F/\af w F:=by
 refine R1.aq ((gT px).ax λb1 w1 M=>M.ax λb2 w2 q=>q.av (Dl x w2 B (q.getD 0)) ?_);rintro _ w3 rfl y;unfold gj k1;refine⟨_,rfl,ct (λD=>y.ae λG e=>⟨⟨cu,?_,?_,lO _,λb d=>(lP d).elim⟩,e.fr⟩) (λk=>y.ae λG e=>e.g9 (WU G) ?_)⟩
 .rw [ab D];rfl
 .rw [ab D];rfl
 rintro _ w5 ⟨H,rfl,Q,Z,Y⟩ _ K;have h:=K.rd (.fm H) Z Y;obtain⟨C,hs⟩:=Cc k;rw[ag k,ag k];refine⟨_,rfl,h.sb (W6 T S Q x w5 B (Lx _ C io W) (h.getD 1) (h.getD 0)) (λb d=>?_) λt w6 E j _=>?_⟩
 .rcases aP.1 d with d|d
  .exact ⟨_,aD (i:=0) rfl,aW.2 d⟩
  grind
 have aa:t.sz<=1000000:=by have:=Ge _ C;rw[<-J.ez,E];omega
 refine⟨_,_,_,t.s,rfl,j.g9 (W3 t w6 aa (j.getD 2)) ?_⟩;rintro _ w7 ⟨u,rfl,hu,pu,A⟩ _ L;have O:=L.rd (.tree u) pu λb d=>A b (aW.1 d);exact⟨_,_,_,u.s,_,rfl,O.ae λw8 z=>⟨⟨u,by rw[E],by grind,z.getD 3,λb d=>bB j.fr.size (A b d)⟩,z.fr⟩⟩
abbrev BL:=List UInt8
def gQ(s:BL)(i:Nat):UInt8:=s.getD i 0
def oX(c:UInt8):Bool:=ak (32<=c.toNat)&&ak (c.toNat<=126)&&!(c==39)&&!(c==92)
def eO(c:UInt8):Bool:=ak (97<=c.toNat)&&ak (c.toNat<=122)
def jb(n:Nat):UInt8:=UInt8.ofNat (if n<10 then 48+n else 87+n)
def jk(c:UInt8):Int:=if 48<=c.toNat/\c.toNat<=57 then(c.toNat:Int) - 48 else if 97<=c.toNat/\c.toNat<=102 then(c.toNat:Int) - 87 else -1
def ir(s:BL)(at_:Nat):UInt8×Nat:=
 if(ak (at_+3<=s.length)&&gQ s at_==39&&gQ s (at_+2)==39&&oX (gQ s (at_+1)))=true then(gQ s (at_+1),3)
 else if(ak (at_+4<=s.length)&&gQ s at_==92&&gQ s (at_+1)==120&&ak (0<=jk (gQ s (at_+2)))&&ak (0<=jk (gQ s (at_+3))))=true then(UInt8.ofNat ((16 *jk (gQ s (at_+2))+jk (gQ s (at_+3))).toNat),4)
 else(0,0)
structure dP where
 tx:BL
 at_:Nat
 k:Nat
 lo:UInt8
 hi:UInt8
structure CN where
 k:Nat
 lo:UInt8
 hi:UInt8
 n:Nat
def s6:CN:=⟨0,0,0,0⟩
def k4(s:BL)(i:Nat):CN:=
 let a:=ir s i
 if 0<a.2 then⟨2,a.1,a.1,a.2⟩else if gQ s i≠91 then s6 else
 let b:=ir s (i+1)
 let dash:=i+1+b.2
 if b.2=0\/s.length<=dash\/gQ s dash≠45 then s6 else
 let c:=ir s (dash+1)
 let fin:=dash+1+c.2
 if c.2=0\/s.length<=fin\/gQ s fin≠93\/c.1.toNat<b.1.toNat then s6 else⟨2,b.1,c.1,fin+1 - i⟩
def o3(s:BL)(i:Nat):Nat->Nat->Nat
 |0,n=>n
 |f+1,n=>if(eO (gQ s i)&&ak (i+n<s.length)&&eO (gQ s (i+n)))=true then o3 s i f (n+1)else n
def qA(s:BL):Nat->Nat->List dP
 |0,_=>[⟨[],s.length,0,0,0⟩]
 |f+1,i=>if s.length<=i then[⟨[],s.length,0,0,0⟩]else if gQ s i=32 then qA s f (i+1)else
  let r:=k4 s i
  let n:=if r.n=0 then o3 s i s.length 1 else r.n
  ⟨(s.take (i+n)).drop i,i,r.k,r.lo,r.hi⟩::qA s f (i+n)
def n8(s:BL):List dP:=qA s (s.length+1) 0
abbrev bO:=Nat×Bool
section
variable (l:List dP)
def fY(i:Nat):dP:=l.getD i ⟨[],0,0,0,0⟩
def fw(st:bO):BL:=bif st.2 then[32]else(fY l st.1).tx
def e0(s:BL)(st:bO):Bool×bO:=bif fw l st==s then(true,bif s.isEmpty then st else(st.1+1,st.2))else(false,st)
def lN(s:BL)(st:bO):bO:=match e0 l s st with
 |(true,st)=>st
 |(false,st)=>(st.1,true)
def zC(st:bO):Bool:=!st.2&&!(fw l st==[])&&!(fw l st==[41])&&!(fw l st==[44])&&!(fw l st==[124])&&!(fw l st==[38])
def sL(k:Int):List Rx->Rx
 |[a]=>a
 |m=>.mk k 0 0 m
def oe:Nat->BL
 |0=>[110,111,110,101]
 |1=>[101,109,112,116,121]
 |3=>[99,97,116]
 |4=>[97,108,116]
 |5=>[97,108,108]
 |_=>[]
def mN(st:bO):Nat->Nat->Option Nat
 |0,_=>none
 |f+1,d=>bif bI d 2||!(fw l st==oe d)then mN st f (d+1)else some d
mutual
def mn:Nat->bO->Option (Rx×bO)
 |0,_=>none
 |f+1,st=>match pM f st with
  |some (a,st)=>ui f [a] st
  |none=>none
def ui:Nat->List Rx->bO->Option (Rx×bO)
 |0,_,_=>none
 |f+1,acc,st=>match e0 l [124] st with
  |(true,st)=>match pM f st with
   |some (a,st)=>ui f (acc++[a]) st
   |none=>none
  |(false,st)=>some (sL 4 acc,st)
def pM:Nat->bO->Option (Rx×bO)
 |0,_=>none
 |f+1,st=>match qs f st with
  |some (a,st)=>um f [a] st
  |none=>none
def um:Nat->List Rx->bO->Option (Rx×bO)
 |0,_,_=>none
 |f+1,acc,st=>match e0 l [38] st with
  |(true,st)=>match qs f st with
   |some (a,st)=>um f (acc++[a]) st
   |none=>none
  |(false,st)=>some (sL 5 acc,st)
def qs:Nat->bO->Option (Rx×bO)
 |0,_=>none
 |f+1,st=>match nW f st with
  |some (a,st)=>u9 f [a] st
  |none=>none
def u9:Nat->List Rx->bO->Option (Rx×bO)
 |0,_,_=>none
 |f+1,acc,st=>bif zC l st then match nW f st with
   |some (a,st)=>u9 f (acc++[a]) st
   |none=>none
  else some (sL 3 acc,st)
def nW:Nat->bO->Option (Rx×bO)
 |0,_=>none
 |f+1,st=>match e0 l [33] st with
  |(true,st)=>match nW f st with
   |some (a,st)=>some (.mk 6 0 0 [a],st)
   |none=>none
  |(false,st)=>match r2 f st with
   |some (a,st)=>yJ f a st
   |none=>none
def yJ:Nat->Rx->bO->Option (Rx×bO)
 |0,_,_=>none
 |f+1,a,st=>match e0 l [42] st with
  |(true,st)=>yJ f (.mk 7 0 0 [a]) st
  |(false,st)=>some (a,st)
def r2:Nat->bO->Option (Rx×bO)
 |0,_=>none
 |f+1,st=>bif !st.2&&bI (fY l st.1).k 2 then some (.mk 2 (fY l st.1).lo (fY l st.1).hi [],(st.1+1,st.2))else match mN l st 6 0 with
  |some d=>bif Nat.ble d 2 then some (.mk d 0 0 [],(st.1+1,st.2))else match sM f (st.1+1,st.2)with
   |some (m,st)=>some (.mk d 0 0 m,st)
   |none=>none
  |none=>let st:=lN l [40] st
   bif st.2 then some (fU,st)else match mn f st with
   |some (a,st)=>some (a,lN l [41] st)
   |none=>none
def sM:Nat->bO->Option (List Rx×bO)
 |0,_=>none
 |f+1,st=>match e0 l [41] (lN l [40] st)with
  |(d,st)=>bif st.2||d then some ([],st)else match mn f st with
   |some (a,st)=>xP f [a] st
   |none=>none
def xP:Nat->List Rx->bO->Option (List Rx×bO)
 |0,_,_=>none
 |f+1,acc,st=>match e0 l [44] st with
  |(true,st)=>match mn f st with
   |some (a,st)=>xP f (acc++[a]) st
   |none=>none
  |(false,st)=>some (acc,lN l [41] st)
end
end
def vA(s:BL):Option (Rx×Nat×Int):=
 if 4096<s.length then some (fU,4096,4)else
 let l:=n8 s
 match mn l 1000 (0,false)with
 |some (r,st)=>let st:=lN l [] st
  if st.2=true then some (fU,(fY l st.1).at_,2)else if 1000000<r.sz then none else if 64<r.sz then some (fU,s.length,4)else some (r,0,0)
 |none=>none
def dC(c:UInt8):BL:=if oX c=true then[39,c,39]else[92,120,jb (c.toNat / 16),jb (c.toNat%16)]
def cN:Rx->Nat
 |.mk d _ _ l=>if d=6 then 3 else if d<3\/d=7\/l.length<2 then 4 else if d=3 then 2 else if d=4 then 0 else 1
def cK(d:Nat)(a:Rx)(t:BL):BL:=if cN a<d then 40::(t++[41])else t
def sY(k:Int):BL:=if k=3 then[99,97,116,40]else if k=4 then[97,108,116,40]else[97,108,108,40]
def hn(k:Int):BL:=if k=3 then[]else if k=4 then[124]else[38]
def lM(t:BL):UInt8:=t.getLastD 0
def ke(k:Int):BL->List BL->BL
 |out,[]=>out
 |out,t::d=>ke k ((if k=3/\eO (lM out)=true/\eO (gQ t 0)=true then out++[32]else out)++hn k++t) d
def kW:List BL->BL
 |[]=>[]
 |t::_=>t
def Al(k:Int):List BL->BL
 |[]=>[]
 |t::d=>ke k t d
mutual
def a9:Rx->BL
 |.mk d lo e l=>if d=0 then[110,111,110,101]else if d=1 then[101,109,112,116,121]else
  if d=2 then(if lo=e then dC lo else 91::(dC lo++45::(dC e++[93])))else
  if d=6 then 33::kW (dk 3 l)else if d=7 then kW (dk 4 l)++[42]else
  if l.length<2 then sY d++(kW (dk 0 l)++[41])else
  Al d (dk (cN (.mk d lo e l)+1) l)
def dk(d:Nat):List Rx->List BL
 |[]=>[]
 |a::l=>cK d a (a9 a)::dk d l
end
mutual
def jl:Rx->Bool
 |.mk d _ _ l=>ak (0<=d)&&ak (d<=7)&&(ak (d<6)||ak (l.length=1))&&oU l
def oU:List Rx->Bool
 |[]=>true
 |a::l=>jl a&&oU l
end
def uz(s:BL):Option Bool:=match vA s with
 |some (r,_,d)=>if d=0 then(if k1 r=0 then(if jl (gj r)=true/\(gj r).sz<=1000 then some (cK 0 (gj r) (a9 (gj r))==s)else none)else some false)else some false
 |none=>none
def Bw(a b:UInt8):Rx:=.mk 2 a b []
def e6:Nat->Rx
 |0=>Bw 97 97
 |1=>Bw 98 98
 |2=>Bw 0 0
 |3=>Bw 97 98
 |4=>oE
 |_=>eR
def Ez(a b c:Rx):Nat->Rx
 |0=>a
 |1=>.mk 3 0 0 [a,b]
 |2=>.mk 4 0 0 [a,b,c]
 |3=>.mk 7 0 0 [a]
 |4=>.mk 3 0 0 [.mk 7 0 0 [a],b]
 |5=>.mk 6 0 0 [.mk 3 0 0 [a,b]]
 |6=>.mk 3 0 0 [b,.mk 7 0 0 [.mk 4 0 0 [a,c]]]
 |_=>.mk 5 0 0 [.mk 6 0 0 [b],.mk 3 0 0 [a,eR]]
def nt(k:Nat):BL:=a9 (dQ (Ez (e6 (k%6)) (e6 (k / 6%6)) (e6 (k / 36%6)) (k / 216%8)))
namespace HJ
def ok:=aA (ay U Tryz.f54 [] []) F5 [.st,.Y]
end HJ
namespace EP
def ok:=aA (ay U Tryz.f84 [] []) FA [.st,.Y]
end EP
end Go.Proofs.YtkbmpalepmakmabGreatDoor
end
