import Derived.Test.YtjakeaplbkhjmaaGreatDoorU
set_option linter.unusedVariables false
set_option linter.defProp false
set_option maxRecDepth 100000
noncomputable section
namespace Go.Proofs.YtjakeaplbkhjmaaGreatDoor
open Go renaming World->J,Calls->aj,Program->au,Value->V,TypeId->aE,Ending->cR
open Go.IntKind renaming wrap->aD
open _root_.Int renaming toNat->aZ,toNat_natCast->bG
open Go.IntWalk renaming i64_in->br
open _root_.Bool renaming and_eq_true->be,not_eq_true->ij
open _root_.Nat renaming le_refl->bm,le_trans->bD,beq->bH,mul_le_mul_right->kR,beq_eq->eA
open _root_.Prod.mk renaming injEq->fk
open _root_.Option.some renaming inj->dZ,injEq->fo
open _root_.Array renaming replicate->gd
open Go.Proofs.Tryz renaming prog->U
open _root_.Decidable renaming decide->ai
open Go.Ending renaming returned->ad
open List renaming mem_append->aK,mem_cons->aF,not_mem_nil->a5,mem_of_getElem?->aA,getElem?_eq_getElem->a0,getElem?_eq_some_iff->cq,mem_append_left->bV,mem_append_right->cK,mem_flatMap->cl,mem_map->dN,length_take->gK,flatMap_append->dL,flatMap_cons->da,mem_cons_of_mem->cJ,mem_cons_self->gq,take_append_drop->F2,drop_eq_getElem_cons->dy,take_add_one->g5,map_append->fh,map_cons->iG,drop_drop->iF,getElem?_set_self->l1,drop_of_length_le->dw,take_of_length_le->fA
open Go Go.W
def RE{w:J}{g:Nat}{cur:Array V}{t:aE}(d:w.heap[g]? =some (.cells cur t (0,0)))(vs:Array V):w.setRow g vs=w.putObj g (.cells vs t (0,0)):=by
 unfold World.setRow World.putObj;congr 1
 grind
def HO(g k:Nat):(⟨g,0,none⟩:Addr).add k=⟨g,k,none⟩:=by
 unfold Addr.add
 grind
def Js{P:au}{t ty e:aE}{z:V}{sz bytes:Nat}(q:fQ P t e z sz bytes)(h1:∀u∈z.cells.toList,u.oneCell'=true)(af:z.cells.size=sz){w:J}{s:Sl}{vs:List V}(G:aL w e sz s vs)(l:Nat)(D:l<=s.n):
  ∃w',(Builtin.clear_ #[t] ty #[.slice (if s.c=l then s.a else s.a.map (·.add (l *sz))) (s.n - l) (s.c - l)]).run P w=.ok (.tuple #[]) w'/\
   aL w' e sz ⟨if s.c=0 then s.a else s.a.map (·.add (0 *sz)),l - 0,s.c - 0⟩ (vs.take (l *sz))/\Fr (·∈aR s) w w':=by
 have hlen:=G.len;obtain⟨L,d,h⟩:=s;simp only at D hlen;have ab:∀x:Option Addr,(if h=0 then x else x.map (·.add (0 *sz)))=x:=λx=>by
  split
  .rfl
  .cases x with
   |none=>rfl
   |some p=>rw[Nat.zero_mul,Option.map_some,jm]
 rw[ab,Nat.sub_zero,Nat.sub_zero];have F:∀(w':J) (g:Nat) (k:Array V),L=some ⟨g,0,none⟩->d<=h->h<=maxLen->w'.heap[g]? =some (.cells k e (0,0))->k.size=h *sz->k.toList.take (l *sz)=vs.take (l *sz)->aL w' e sz ⟨L,l,h⟩ (vs.take (l *sz)):=by intro w' g k A ap S j K ac;subst A;have M:l *sz<=d *sz:=kR _ D;refine⟨by grind,.inr ⟨g,h,k,rfl,Nat.zero_le _,j,by grind,S,K,ac⟩⟩
 rcases G.cases with⟨hs,rfl⟩|⟨g,cur,A,j,y,C,H,O⟩
 .cases hs;have:l=0:=io
  subst this;refine⟨w,?_,?_,Fr.refl _ _⟩
  .simp [Builtin.clear_,run_underlying q.ht]
  grind
 .simp only at A y C H O;subst A;have M:l *sz<=d *sz:=kR _ D;have e2:d *sz<=h *sz:=kR _ y;have ae:cur.toList.take (l *sz)=vs.take (l *sz):=by grind
  by_cases Z:d - l=0
  .refine ⟨w,?_,F w g cur rfl y C j H ae,Fr.refl _ _⟩;rw[Z];by_cases B:h=l
   .simp [Builtin.clear_,run_underlying q.ht,B]
   .simp [Builtin.clear_,run_underlying q.ht,B]
  .have B:h≠l:=io
   obtain⟨inf,W,hz,K,ak⟩:=info_parts q.hi;have ag:(zeroValue e).run P w=.ok z w:=by simp[zeroValue,typeInfo,W,hz]
   have ao:(Builtin.zeroCells z.cells (d - l)).toList.length=(d - l) *sz:=by simp[Builtin.zeroCells,af]
   have aa:∀v∈(Builtin.zeroCells z.cells (d - l)).toList,v.oneCell'=true:=by
    intro v E;unfold Builtin.zeroCells at E;rw[Array.toList_map,dN]at E;obtain⟨ah,hj,rfl⟩:=E;by_cases N:0<z.cells.size
    .have an:ah%z.cells.size<z.cells.size:=Nat.mod_lt _ N
     grind
    grind
   have am:(d - l) *sz=d *sz - l *sz:=Nat.sub_mul _ _ _;have T:l *sz+0+(Builtin.zeroCells z.cells (d - l)).toList.length<=cur.size:=io
   have I:=run_storeCells_at (P:=P) g (l *sz) e (Builtin.zeroCells z.cells (d - l)).toList 0 cur w j T aa;refine⟨_,?_,F _ g (cur.toList.take (l *sz+0)++(Builtin.zeroCells z.cells (d - l)).toList++cur.toList.drop (l *sz+0+(Builtin.zeroCells z.cells (d - l)).toList.length)).toArray rfl y C (setRow_heap w g cur _ e _ j) ?_ ?_,?_⟩
   .obtain ⟨m,Y⟩:∃m,d - l=m+1:=⟨d - l - 1,io⟩;have Q:(⟨g,0,none⟩:Addr).add (l *sz)=⟨g,l *sz,none⟩:=HO g (l *sz);rw[Y]at I ⊢;simp[Builtin.clear_,run_underlying q.ht,B,Q,ag,I]
   .grind
   .grind
   .rw [RE j];exact(Fr.put w g _).mono λaq _ e=>by simp[aR,e]
def Ts:∀u∈(Value.agg #[.int .i64 0,.int .u8 0,.int .u8 0,.slice none 0 0]).cells.toList,u.oneCell'=true:=by intro u d;simp only[Value.cells,aF,a5,a9]at d;rcases d with rfl|rfl|rfl|rfl<;>rfl
def WE{l:List I}{k:Nat}{t:I}(q:k<l.length):((((l.flatMap I.c).set (k *4+0) (.int .i64 t.k)).set (k *4+1) (.int .u8 (t.lo.toNat:Int))).set (k *4+2) (.int .u8 (t.hi.toNat:Int))).set (k *4+3) t.s.v=(l.set k t).flatMap I.c:=by
 induction l generalizing k with
 |nil=>grind
 |cons a l j=>
  cases k with
  |zero=>simp[I.c]
  |succ k=>
   have h:k<l.length:=by grind
   have d:∀e,(k+1) *4+e=(k *4+e)+4:=λe=>io
   rw[d 0,d 1,d 2,d 3,da,List.set_cons_succ,da,<-j h];simp[I.c]
section
variable {M:Nat->Prop} {w0 w:J} {L D:List En} {bs:List Nat}
def _root_.Go.W.O.R9(H:O M w0 w L D)(i k:Nat){s:Sl}{ts:List I}{t:I}{p:Addr}{K:J->Prop}(hi:L[i]? =some (.row aV 4 s (ts.flatMap I.c)))(z:s.a=some p)(hk:k<ts.length)(hK:∀w',O M w0 w' (L.set i (.row aV 4 s ((ts.set k t).flatMap I.c))) D->K w')(A:∀b∈bs,En.g b∈L:=by simp):
  aM w (p.add (k *4)) (.int .i64 t.k) λd=>kept bs w d/\aM d ((p.add (k *4)).add 1) (.int .u8 (t.lo.toNat:Int)) λh=>kept bs d h/\aM h ((p.add (k *4)).add 2) (.int .u8 (t.hi.toNat:Int)) λj=>kept bs h j/\aM j ((p.add (k *4)).add 3) t.s.v λx=>kept bs j x/\K x:=by
 have hlen:(ts.flatMap I.c).length=ts.length *4:=I.hL ts;have B:=(cq.1 hi).1;have F:∀{e:En} {b:Nat},(∀(d:J) (y:Nat),¬e.P ({d with heap:=gd (y+1) (.map #[] 0)}:J))->En.g b∈L->En.g b∈L.set i e:=by
  intro e b ac q;obtain⟨Z,T⟩:=List.mem_iff_getElem?.1 q;by_cases aa:i=Z
  .subst aa;rw[hi]at T;exfalso;have e1:En.row aV 4 s (ts.flatMap I.c)=En.g b:=dZ T;have S:(En.g b).P ({w with heap:=gd (b+1) (.map #[] 0)}):=by show b<_;simp
   rw[<-e1]at S;by_cases Y:aR s=[]
   .have:s.a=none:=by unfold aR at Y;grind
    grind
   .obtain ⟨ab,E⟩:=List.exists_mem_of_ne_nil _ Y;obtain⟨cs,f,hc⟩:=(aL.row (show aL ({w with heap:=gd (b+1) (.map #[] 0)}) aV 4 s _ from S)).vt ab E
    grind
  .refine aA (i:=Z) ?_
   grind
 have C:∀(vs:List V) (d:J) (y:Nat),¬(En.row aV 4 s vs).P ({d with heap:=gd (y+1) (.map #[] 0)}:J):=by
  intro vs d y h0;have E:p.block∈aR s:=by simp[aR,z]
  obtain⟨cs,f,hc⟩:=(aL.row (show aL ({d with heap:=gd (y+1) (.map #[] 0)}) aV 4 s vs from h0)).vt _ E
  grind
 have Q:=H.vf (bs:=bs) i (k *4) 0 (v:=.int .i64 t.k) (p:=p) (K:=λd=>aM d ((p.add (k *4)).add 1) (.int .u8 (t.lo.toNat:Int)) λh=>kept bs d h/\aM h ((p.add (k *4)).add 2) (.int .u8 (t.hi.toNat:Int)) λj=>kept bs h j/\aM j ((p.add (k *4)).add 3) t.s.v λx=>kept bs j x/\K x) hi z io (λd H1=>?_) A
 .rw [jm]at Q;exact Q
 refine H1.vf (bs:=bs) i (k *4) 1 (by rw[l1 B]) z (by grind) (λh G=>?_) (λb q=>F (C _) (A b q));rw[List.set_set]at G;refine G.vf (bs:=bs) i (k *4) 2 (by rw[l1 B]) z (by grind) (λj N=>?_) (λb q=>F (C _) (A b q));rw[List.set_set]at N;refine N.vf (bs:=bs) i (k *4) 3 (by rw[l1 B]) z (by grind) (λx H4=>?_) (λb q=>F (C _) (A b q));rw[List.set_set,WE hk]at H4
 grind
def _root_.Go.W.O.ab6(H:O M w0 w L D)(i k:Nat){s:Sl}{ts:List I}{t:I}{p:Addr}{K:J->Prop}(hi:L[i]? =some (.row aV 4 s (ts.flatMap I.c)))(j:s.a=some p)(h:k<ts.length)(e:∀d,O M w0 d (L.set i (.row aV 4 s ((ts.set k t).flatMap I.c))) D->K d):
  aM w (p.add (k *4)) (.int .i64 t.k) λq=>aM q ((p.add (k *4)).add 1) (.int .u8 (t.lo.toNat:Int)) λx=>aM x ((p.add (k *4)).add 2) (.int .u8 (t.hi.toNat:Int)) λy=>aM y ((p.add (k *4)).add 3) t.s.v K:=by
 have z:=H.R9 (bs:=[]) (K:=K) i k hi j h e gs
 grind
end
def FL{w:J}{s:Sl}{l:List I}(d:aL w aV 4 s (l.flatMap I.c)){i:Nat}{t:I}(hi:l[i]? =some t){K:Addr->Prop}(e:∀p,s.a=some p->I.hZ w p i t->K p):dv s.a K:=I.aT d.a2 hi e
section
variable {M:Nat->Prop} {w0 w:J} {L D:List En}
def _root_.Go.W.O.el(H:O M w0 w L D)(i k:Nat){s:Sl}{ts:List I}{t:I}{X:Int}{K:Int->Int->Int->Sl->Prop}(q:X=(k:Int))(e:ts[k]? =some t)(j:K t.k t.lo.toNat t.hi.toNat t.s)(hi:L[i]? =some (.row aV 4 s (ts.flatMap I.c)):=by rfl):
  nN s X λp=>∃a b c:Int,∃d:Sl,w.cell? ((p.add (aZ X *4)).add 0)=some (.i a)/\w.cell? ((p.add (aZ X *4)).add 1)=some (.int .u8 b)/\w.cell? ((p.add (aZ X *4)).add 2)=some (.int .u8 c)/\w.cell? ((p.add (aZ X *4)).add 3)=some d.v/\K a b c d:=by subst q;have h:aL w aV 4 s (ts.flatMap I.c):=H.get i hi;have y:=I.cw h.a2;have x:=(cq.1 e).1;exact⟨io,io,FL h e λp z c=>⟨_,_,_,_,c.c0,c.c1,c.c2,c.c3,j⟩⟩
def _root_.Go.W.O.Df(H:O M w0 w L D)(i k:Nat){s:Sl}{ts:List I}{t:I}{X:Int}{K:J->Prop}(q:X=(k:Int))(d:k<ts.length)(j:∀h,O M w0 h (L.set i (.row aV 4 s ((ts.set k t).flatMap I.c))) D->K h)(hi:L[i]? =some (.row aV 4 s (ts.flatMap I.c)):=by rfl):
  nN s X λp=>aM w (p.add (aZ X *4)) (.i t.k) λz=>aM z ((p.add (aZ X *4)).add 1) (.int .u8 (t.lo.toNat:Int)) λA=>aM A ((p.add (aZ X *4)).add 2) (.int .u8 (t.hi.toNat:Int)) λB=>aM B ((p.add (aZ X *4)).add 3) t.s.v K:=by subst q;have e:aL w aV 4 s (ts.flatMap I.c):=H.get i hi;have C:=I.cw e.a2;have x:ts[k]? =some ts[k]:=a0 d;exact⟨io,io,FL e x λp y c=>H.ab6 i k hi y d j⟩
end
def DU{j:Nat}(d:1<=j)(e:j<=1000000000):aD .i64 ((j:Int) - 1)=((j - 1:Nat):Int):=by rw[br _ io];omega
abbrev dS(b:Nat)(u:I):En:=.c b u.c aV
def LK{w:J}{k u:I}{b:Nat}(h:k.P w)(j:u.P w)(e:w.heap[b]? =some (.cells u.c.toArray aV (0,0))):O F0 w w [] [.tree k,.tree u,dS b u]:=bT _ (by
 intro q d;simp only[aF,a5,a9]at d;rcases d with rfl|rfl|rfl
 .exact h
 .exact j
 .exact e)
def IG(k u:I)(b:Nat)(w:J)(h:k.sz<=1000000)(q:k.P w)(x:u.P w)(j:w.heap[b]? =some (.cells u.c.toArray aV (0,0))):aj U uw #[k.v,.pointer (some (ab b))] w λr y=>r=ad (.bool (bn k.rx u.rx==0))/\ag w y:=by refine QA.aq ((LK q x j).ax λA z d=>⟨_,_,_,u.s,d.dU 2 0,d.dU 2 1,d.dU 2 2,d.dU 2 3,d.av (vV k u z h (d.getD 0) (d.getD 1)) ?_⟩);rintro _ B rfl e;exact⟨_,rfl,rfl,e.fr⟩
def U1(k u:I)(b:Nat)(w:J)(h:k.sz<=1000000)(q:k.P w)(x:u.P w)(j:w.heap[b]? =some (.cells u.c.toArray aV (0,0))):aj U E4 #[k.v,.pointer (some (ab b))] w λr y=>r=ad (.bool (bn k.rx u.rx==0))/\ag w y:=by refine QE.aq ((LK q x j).ax λA z d=>⟨_,_,_,u.s,d.dU 2 0,d.dU 2 1,d.dU 2 2,d.dU 2 3,d.av (vV k u z h (d.getD 0) (d.getD 1)) ?_⟩);rintro _ B rfl e;exact⟨_,rfl,rfl,e.fr⟩
def U0(k:I)(w:J)(j:k.P w):aj U w7 #[k.v] w λr q=>r=ad k.v/\ag w q:=by refine QC.aq ((gH j).ax λx z d=>d.ax λy A e=>e.ae λB h=>⟨rfl,h.fr⟩)
def mH(q:I->Bool):List I->Nat->Int
 |[],_=>-1
 |a::l,i=>if q a then(i:Int)else mH q l (i+1)
def KM(q:I->Bool):∀(l:List I) (i:Nat),ai (mH q l i>=0)=l.any q
 |[],i=>rfl
 |a::l,i=>by
  unfold mH;rw[List.any_cons];cases d:q a with
  |true=>simp
  |false=>simpa using KM q l (i+1)
def Iq(s:Sl)(l:List I)(f:Fv)(q:I->Bool)(D:List En)(w:J)(M:l.length<=1000000)(B:bo 4 w s (l.flatMap I.c))(L:∀A∈D,A.P w)(E:hg U f.n=true)(F:∀h t,t∈l->O F0 w h [] (I.row s l::D)->aj U f.n (f.bs++#[t.v]++f.cs) h λr K=>r=ad (.bool (q t))/\ag h K):
  aj U N8 #[s.v,f.v] w λr h=>r=ad (.int .i64 (mH q l 0))/\ag w h:=by
 have S:=I.cw B;have loop:∀(d i:Nat) (y:J),i+d=l.length->mH q (l.drop i) i=mH q l 0->O F0 w y [] (I.row s l::D)->xM.L0 s f (s.n:Int) (i:Int) y λr h=>r=ad (.int .i64 (mH q l 0))/\ag w h:=by
  intro d;induction d with
  |zero=>
   intro i y G e j;rw[dw io]at e;exact xM.cr (aW (aS io) ⟨by rw[<-e];rfl,j.fr⟩)
  |succ d Q=>
   intro i y G e j;have z:l[i]? =some (l[i]'io):=a0 io;rw[dy (by omega:i<l.length)]at e;generalize l[i]'io=x at z e;refine xM.cr (aU (aQ io) ⟨io,io,I.aT (j.getD 0) z λp N c=>⟨x.k,x.lo.toNat,x.hi.toNat,x.s,c.c0,c.c1,c.c2,c.c3,?_⟩⟩);rw[E];refine(show cL true _ from ?_);refine j.call (F y x (aA z) j) ?_;rintro _ T rfl C;have e:(if q x then(i:Int)else mH q (l.drop (i+1)) (i+1))=mH q l 0:=e;refine⟨_,rfl,bq (λH=>⟨?_,C.fr⟩) (λH=>?_)⟩
   .grind
   .rw [aa (by grind)]at e;rw[bp _ io]
    grind
 refine xM.ok (loop l.length 0 w io gs (bT _ (λA e=>?_)));rcases aF.1 e with rfl|e
 .exact B
 grind
def Uy(s:Sl)(l:List I)(f:Fv)(q:I->Bool)(D:List En)(w:J)(y:l.length<=1000000)(z:bo 4 w s (l.flatMap I.c))(j:∀e∈D,e.P w)(k:hg U f.n=true)(x:∀d t,t∈l->O F0 w d [] (I.row s l::D)->aj U f.n (f.bs++#[t.v]++f.cs) d λr A=>r=ad (.bool (q t))/\ag d A):
  aj U N5 #[s.v,f.v] w λr d=>r=ad (.bool (l.any q))/\ag w d:=by refine RP.ok ((Iq s l f q D w y z j k x).mono ?_);rintro _ B ⟨rfl,h⟩;refine⟨_,rfl,?_,h⟩;rw[KM]
def KN(q:I->Bool):∀(l:List I) (k:Nat),(mH q l k=-1/\∀t∈l,q t=false)\/∃m a,l[m]? =some a/\q a=true/\mH q l k=((k+m:Nat):Int)/\∀t∈l.take m,q t=false
 |[],k=>.inl ⟨rfl,gs⟩
 |a::l,k=>by
  unfold mH;cases x:q a with
  |true=>grind
  |false=>
   rcases KN q l (k+1)with⟨e,d⟩|⟨m,h,e,d,j,w⟩
   .grind
   .refine .inr ⟨m+1,h,by grind,d,?_,?_⟩
    .grind
    grind
section
variable {M:Nat->Prop} {w0 w:J} {L D:List En} {bs:List Nat}
def _root_.Go.W.O.CF(H:O M w0 w L D)(i:Nat){P:au}{g:FuncId}{args:Array V}{A K:aB}{e:aE}{sz:Nat}{s:Sl}{xs:List V}(hi:L[i]? =some (.row e sz s xs))(x:aj P g args w λr d=>A r d/\Fr (·∈aR s) w d)(B:∀r d,A r d->(∀h:En,h.P d->(∀b∈h.fp,b∈aR s\/w.heap.size<=b)->O M w0 d (L.set i h) D)->K r d)(q:∀b∈bs,En.g b∈L:=by simp):fH bs P g args w K:=
 ⟨(·∈aR s),λb k=>H.zb hi (q b k),x.mono λr d ⟨j,f⟩=>⟨f,B r d j λh y z=>H.gb i h hi f y z⟩⟩
def _root_.Go.W.O.off(H:O M w0 w L D)(i j:Nat){e:aE}{sz:Nat}{s:Sl}{xs:List V}{d:En}(hi:L[i]? =some (.row e sz s xs):=by rfl)(q:D[j]? =some d:=by rfl):∀h∈aR s,h∉d.fp:=λh x k=>
 H.dj d (aA q) h k _ (aA hi) x
end
def vJ(s:Sl)(l:List I)(r:cR)(w w':J):Prop:=∃d:Sl,r=ad d.v/\aL w' aV 4 d (l.flatMap I.c)/\∀e∈aR d,e∈aR s
def Er{w:J}{s:Sl}{l:List I}(D:List En)(q:aL w aV 4 s (l.flatMap I.c))(j:∀d∈D,d.P w/\∀y∈aR s,y∉d.fp):O (·∈aR s) w w [.row aV 4 s (l.flatMap I.c)] D:=
 O.pD _ _ (by
  intro d e;simp only[aF,a5,a9]at e;subst e;exact⟨q,λb h=>h⟩) (by
  simp only[da,List.flatMap_nil,List.append_nil];exact(En.row aV 4 s (l.flatMap I.c)).nd) (λd e=>⟨(j d e).1,λb h z k=>by simp only[aF,a5,a9]at k;subst k;exact λx=>(j d e).2 b x h⟩)
def Sn{α:Type}{l:List α}{i:Nat}{a:α}(d:i<l.length):(l.set i a).take (i+1)=l.take i++[a]:=by rw[g5,l1 d,List.take_set_of_le (bm _)];rfl
def UA(s:Sl)(l:List I)(u:I)(b:Nat)(w:J)(hl:I.a3 l<=1000000)(K:aL w aV 4 s (l.flatMap I.c))(pl:I.Ps w l)(pu:u.P w)(hb:w.heap[b]? =some (.cells u.c.toArray aV (0,0)))(hd:∀h∈aR s,h∉I.bd l/\h∉u.fp/\h≠b):
  aj U N6 #[s.v,.func (.func uw) #[] #[.pointer (some (ab b))]] w λr x=>vJ s (l.filter λt=>!(bn t.rx u.rx==0)) r w x/\Fr (·∈aR s) w x:=by
 have nr:=I.cw K.a2;have ll:=I.ga l;have kt:∀t∈l,t.sz<=1000000:=λt z=>bD (I.eJ z) hl;have L:O (·∈aR s) w w [.row aV 4 s (l.flatMap I.c)] [.trees l,.tree u,dS b u]:=Er _ K (by
  intro aa T;simp only[aF,a5,a9]at T;rcases T with rfl|rfl|rfl
  .exact ⟨pl,λh e A=>(hd h e).1 (a7.1 A)⟩
  .exact ⟨pu,λh e A=>(hd h e).2.1 (a7.1 A)⟩
  .exact ⟨hb,λh e A=>(hd h e).2.2 (by simpa[dS,En.c,En.ob]using A)⟩)
 have loop:∀(d i j:Nat) (cur:List I) (B:J),j+d=l.length->i<j->cur.length=l.length->cur.drop j=l.drop j->cur.take i=(l.take j).filter (λt=>!(bn t.rx u.rx==0))->O (·∈aR s) w B [.row aV 4 s (cur.flatMap I.c)] [.trees l,.tree u,dS b u]->
   ss.a4 s (ab b) (i:Int) (j:Int) B λr x=>vJ s (l.filter λt=>!(bn t.rx u.rx==0)) r w x/\Fr (·∈aR s) w x:=by
  intro d;induction d with
  |zero=>
   intro i j cur B hj ag S E W q;refine ss.bR (aW (aS io) ⟨io,io,?_⟩);have am:=(q.get 0:aL _ _ _ _ _).cap;obtain⟨Z,C,N,G⟩:=Js (ty:=nJ) rz Ts rfl (q.get 0) i io;refine⟨Z,C,io,io,⟨⟨if s.c=0 then s.a else s.a.map (·.add (0 *4)),i - 0,s.c - 0⟩,rfl,?_,λh e=>?_⟩,q.fr.trans G λh _ ac=>ac⟩
   .have aa:(cur.flatMap I.c).take (i *4)=(l.filter λt=>!(bn t.rx u.rx==0)).flatMap I.c:=by
     have e1:(cur.flatMap I.c).take (i *4)=(cur.take i).flatMap I.c:=by
      have:=I.hL (cur.take i);conv=>lhs;rw[<-F2 i cur,dL]
      grind
     grind
    grind
   .simp only[aR]at e ⊢;split at e
    .rename_i p y;split at y
     .omega
     .cases ak:s.a with
      |none=>grind
      |some ao=>
       rw[ak]at y;simp only[Option.map_some,fo]at y;subst y;rw[j']at e;exact e
    grind
  |succ d Y=>
   intro i j cur B hj ag S E W q;have H:l[j]? =some (l[j]'io):=a0 io;generalize an:l[j]'io=a at H;have af:cur[j]? =some a:=by
    have:(cur.drop j)[0]? =(l.drop j)[0]?:=by rw[E]
    grind
   have Q:=aA H;have ah:l.take (j+1)=l.take j++[a]:=by rw[g5,H];rfl
   refine ss.bR (aU (aQ io) ⟨io,io,FL (q.get 0) af λp y c=>⟨a.k,a.lo.toNat,a.hi.toNat,a.s,c.c0,c.c1,c.c2,c.c3,?_⟩⟩);refine q.ax (λb7 Z H2=>H2.ae λw3 D=>?_);refine D.av (IG a u b w3 (kt a Q) ((show I.Ps w3 l from D.getD 0).mem Q) (D.getD 1) (D.getD 2)) ?_;rintro _ w4 rfl M;refine⟨_,rfl,eO (λhf=>⟨io,io,?_⟩) (λz=>?_)⟩
   .rw [y];refine(show dv (some p) _ from ?_);refine M.R9 0 i (t:=a) (ts:=cur) rfl y io (λw5 H5=>?_);show ss.a4 _ _ _ _ _ _;rw[bp _ io,bp _ io];refine Y (i+1) (j+1) (cur.set i a) w5 io io (by grind) ?_ ?_ (H5.take 1)
    .rw [List.drop_set_of_lt io,<-iF,E,iF]
    .rw [Sn io,W,ah,List.filter_append]
     grind
   .show ss.a4 _ _ _ _ _ _;rw[bp _ io];refine Y i (j+1) cur w4 io io S ?_ ?_ (M.take 1)
    .rw [<-iF,E,iF]
    grind
 refine ss.aq ?_;have hI:=Iq s l ⟨uw,#[],#[.pointer (some (ab b))]⟩ (λt=>bn t.rx u.rx==0) [.trees l,.tree u,dS b u] w io K.a2 (L.rd) (by kernel_rfl) (λx t z F=>IG t u b x (kt t z) ((show I.Ps x l from F.getD 1).mem z) (F.getD 2) (F.getD 3));refine L.call hI ?_;rintro _ B rfl q;rcases KN (λt=>bn t.rx u.rx==0) l 0 with⟨C,N⟩|⟨m,a,C,N,G,h4⟩
 .refine ⟨_,rfl,aU (by grind) ⟨⟨s,rfl,?_,λh e=>e⟩,q.fr⟩⟩;rw[List.filter_eq_self.2 (λt z=>by grind)];exact q.get 0
 .have A:m<l.length:=(cq.1 C).1;refine⟨_,rfl,aW (by grind) ?_⟩;rw[G,Nat.zero_add,bp _ io];refine loop (l.length - (m+1)) m (m+1) l B io io rfl rfl ?_ q;rw[g5,C,List.filter_append,List.filter_eq_self.2 (λt z=>by grind)]
  grind
def e4(x k:I):List I:=if k.k=x.k then k.l else[k]
def Eb(u t:I):Bool:=!(bn t.rx u.rx==0)
def gB(x u:I):List I:=(x.l.flatMap (e4 x)).filter (Eb u)
structure Sub(x:I)(l:List I):Prop where
 P:∀w:J,x.P w->∀t∈l,t.P w
 fp:∀t∈l,∀b∈t.fp,b∈x.fp
def Sub.part{x t:I}(e:t∈x.l):Sub x [t]:=⟨λq j k d=>by
  simp at d;subst d;exact j.parts.2.mem e,λk d b h=>by simp at d;subst d;exact I.gC.2 (.inr (I.bS.2 ⟨_,e,h⟩))⟩
def Sub.open{x k:I}(d:k∈x.l):Sub x (e4 x k):=by
 unfold e4;split
 .exact ⟨λq j t e=>((j.parts.2.mem d).parts.2).mem e,λt e b h=>I.gC.2 (.inr (I.bS.2 ⟨k,d,I.gC.2 (.inr (I.bS.2 ⟨t,e,h⟩))⟩))⟩
 .exact .part d
def Sub.flat{x:I}{l:List I}(j:∀e∈l,e∈x.l):Sub x (l.flatMap (e4 x)):=⟨λq k t d=>by
  obtain⟨e,h,d⟩:=cl.1 d;exact(Sub.open (j e h)).P q k t d,λt d=>by obtain⟨e,h,d⟩:=cl.1 d;exact(Sub.open (j e h)).fp t d⟩
def Sub.sub{x:I}{l m:List I}(e:Sub x l)(h:∀t∈m,t∈l):Sub x m:=⟨λk j t d=>e.P k j t (h t d),λt d=>e.fp t (h t d)⟩
def Sub.Ps{x:I}{l:List I}(d:Sub x l){w:J}(e:x.P w):I.Ps w l:=I.jD (d.P w e)
def Sub.bd{x:I}{l:List I}(e:Sub x l){b:Nat}(d:b∈I.bd l):b∈x.fp:=by obtain⟨t,h,d⟩:=I.bS.1 d;exact e.fp t h b d
def Sub.gB(x u:I):Sub x (gB x u):=(Sub.flat (λ_ d=>d)).sub λ_ d=>(List.mem_filter.1 d).1
def vj(x:I):∀l:List I,I.a3 (l.flatMap (e4 x))<=I.a3 l
 |[]=>bm _
 |d::l=>by
  have e:I.a3 (e4 x d)<=d.sz:=by
   unfold e4;split
   .rw [I.iJ d];omega
   .simp [I.a3]
  rw[da,vi];have:=vj x l;show _<=d.sz+I.a3 l;omega
def Sf(q:I->Bool):∀l:List I,I.a3 (l.filter q)<=I.a3 l
 |[]=>bm _
 |d::l=>by
  have:=Sf q l;rw[List.filter_cons];split
  .unfold I.a3;omega
  .show _<=d.sz+I.a3 l;omega
def acf(x u:I):I.a3 (gB x u)+1<=x.sz:=by have d:=Sf (Eb u) (x.l.flatMap (e4 x));have e:=vj x x.l;rw[I.iJ x];unfold gB;omega
def BZ(w:J)(l:List I)(r:cR)(w':J):Prop:=∃d:Sl,r=ad d.v/\aL w' aV 4 d (l.flatMap I.c)/\∀e∈aR d,w.heap.size<=e
def UY(x u:I)(w:J)(an:x.sz<=1000000)(px:x.P w)(pu:u.P w):aj U NQ #[x.v,u.v] w λr w'=>BZ w (gB x u) r w'/\ag w w':=by
 have hs:=I.iJ x;have hl:=I.ga x.l;have nr:=I.cw px.parts.1;have loop:∀(d i:Nat) (acc:List I) (sl:Sl) (q B:Nat) (z:J),i+d=x.l.length->acc=(x.l.take i).flatMap (e4 x)->O F0 w z [.g q,.c B u.c aV,.row aV 4 sl (acc.flatMap I.c)] [.tree x,.tree u]->
   sc.a4 q x.k x.lo.toNat x.hi.toNat x.s (ab B) sl x.s (x.s.n:Int) (i:Int) z λr w'=>BZ w (gB x u) r w'/\ag w w':=by
  intro d;induction d with
  |zero=>
   intro i acc sl q B z ac C e;have W:Sub x acc:=by rw[C];exact Sub.flat λav D=>List.mem_of_mem_take D
   have ak:I.a3 acc<=I.a3 x.l:=by rw[C,fA io];exact vj x x.l
   refine sc.bR (aW (aS io) ?_);refine e.CF 2 rfl (UA sl acc u B z io (e.get 2) (W.Ps (e.getD 0)) (e.getD 1) (e.ob 1) (λT M=>⟨λy=>e.off 2 0 rfl rfl T M (a7.2 (W.bd y)),λy=>e.off 2 1 rfl rfl T M (a7.2 y),λy=>?_⟩)) ?_
   .exact jS e.nd (i:=2) rfl (j:=1) rfl io T M (by simp[En.c,En.ob,y])
   rintro _ N ⟨h,rfl,L,hb⟩ hH;have A:=hH (.row aV 4 h ((acc.filter (Eb u)).flatMap I.c)) L λb K=>.inl (hb b K);refine⟨h,rfl,⟨h,rfl,?_,λb K=>(A.new _ (aA (i:=2) rfl) b K).resolve_right id⟩,A.fr⟩;rw[C,fA io]at L;exact L
  |succ d ar=>
   intro i acc sl q B z ac C e;have G:x.l[i]? =some (x.l[i]'io):=a0 io;generalize x.l[i]'io=a at G;have y:=aA G;have am:x.P z:=e.getD 0;have az:=I.eJ y;have ak:I.a3 acc<=I.a3 x.l:=by
    have h1:=vj x (x.l.take i);have h2:=A8 x.l i
    grind
   have ao:acc++e4 x a=(x.l.take (i+1)).flatMap (e4 x):=by rw[g5,G,dL,C];simp
   have ay:=I.cw (e.get 2:aL _ _ _ _ _).a2;have ah:=I.ga acc;have tail:∀(h:Sl) (w':J),O F0 w w' [.g q,.c B u.c aV,.row aV 4 h ((acc++e4 x a).flatMap I.c)] [.tree x,.tree u]->sc.bh q x.k x.lo.toNat x.hi.toNat x.s (ab B) h x.s (x.s.n:Int) (i:Int) w' λr w'=>BZ w (gB x u) r w'/\ag w w':=by
    intro h w' H';show sc.a4 _ _ _ _ _ _ _ _ _ _ _ _;rw[bp _ io]
    grind
   refine sc.bR (aU (aQ io) ⟨io,io,I.aT am.parts.1 G λp hp c=>⟨_,_,_,_,c.c0,c.c1,c.c2,c.c3,?_⟩⟩);refine e.ax λb7 N A=>aw (λD=>A.ae λQ E=>?_) (λD=>A.ae λQ E=>?_)
   .have Z:a.P Q:=(show x.P Q from E.getD 0).parts.2.mem y;have na:=I.cw Z.parts.1;have ah:=I.ga a.l;have ap:=I.iJ a;refine E.eD 2 rz (xs:=acc.flatMap I.c) (src:=a.s) (news:=a.l.flatMap I.c) rfl Z.parts.1 (tu _) io (λh S H=>?_);refine tail h S ?_;have F:e4 x a=a.l:=af D;rw[F,dL];exact H.take 3
   .refine E.jn 2 rz (xs:=acc.flatMap I.c) rfl (λh S H=>?_) io;refine tail h S ?_;have F:e4 x a=[a]:=aa D;rw[F,nq];exact H.take 3
 refine sc.aq ((bT [.tree x,.tree u] (by
  intro F Y;simp only[aF,a5,a9]at Y;rcases Y with rfl|rfl
  .exact px
  .exact pu)).ax λq z H1=>H1.nw λN _ A=>?_)
 exact loop x.l.length 0 [] ⟨none,0,0⟩ q z.heap.size N io rfl (A.hP aV 4)
def CM(a b:Int):cB b a=-cB a b:=by
 have s:∀a b:Int,(cB a b=-1/\a<b)\/(cB a b=1/\b<a)\/(cB a b=0/\a=b):=λa b=>by
  unfold cB;split
  .exact .inl ⟨rfl,io⟩
  .split
   .exact .inr (.inl ⟨rfl,io⟩)
   .exact .inr (.inr ⟨rfl,io⟩)
 rcases s a b with d|d|d<;>rcases s b a with e|e|e<;>omega
def FI(c d:Int)(l m:List Int)(e:d=-c)(h:ej m=-ej l):ej (d::m)=-ej (c::l):=by
 show(if d≠0 then d else ej m)=-(if c≠0 then c else ej l);split
 .rw [af io];exact e
 .rw [aa io];exact h
def xe(c:Int):ej [c]=c:=by show(if c≠0 then c else 0)=c;split<;>omega
def tB(k:Int)(lo hi:UInt8)(l:List Rx)(b:Rx):bn (.mk k lo hi l) b=ej [cB k b.k,cB lo.toNat b.lo.toNat,cB hi.toNat b.hi.toNat,cmpL l b.l]:=by
 unfold bn;generalize cB k b.k=c0;generalize cB lo.toNat b.lo.toNat=c1;generalize cB hi.toNat b.hi.toNat=c2;generalize cmpL l b.l=c3;simp only[ej];by_cases d:c0=0
 .by_cases e:c1=0
  .by_cases h:c2=0
   .by_cases j:c3=0<;>simp[d,e,h,j]
   .simp [d,e,h]
  .simp [d,e]
 .simp [d]
mutual
def tC:∀a b:Rx,bn b a=-bn a b
 |.mk j lo e l,.mk k q h d=>by rw[tB,tB];exact FI _ _ _ _ (CM _ _) (FI _ _ _ _ (CM _ _) (FI _ _ _ _ (CM _ _) (by rw[xe,xe];exact Jg l d)))
def Jg:∀a b:List Rx,cmpL b a=-cmpL a b
 |[],[]=>by unfold cmpL;rfl
 |[],_::_=>by unfold cmpL;rfl
 |_::_,[]=>by unfold cmpL;rfl
 |d::l,e::m=>by
  have h:=tC d e;have j:=Jg l m;show(if bn e d≠0 then bn e d else cmpL m l)=-(if bn d e≠0 then bn d e else cmpL l m);split
  .rw [af io];exact h
  .rw [aa io];exact j
end
structure qZ(x y z:Int):Prop where
 le:x<=0->y<=0->z<=0
 lt:x<0->y<=0->z<0
 lt':x<=0->y<0->z<0
 eq:x=0->y=0->z=0
def CN(a b c:Int):qZ (cB a b) (cB b c) (cB a c):=by
 have s:∀a b:Int,(cB a b=-1/\a<b)\/(cB a b=1/\b<a)\/(cB a b=0/\a=b):=λa b=>by
  unfold cB;split
  .exact .inl ⟨rfl,io⟩
  .split
   .exact .inr (.inl ⟨rfl,io⟩)
   .exact .inr (.inr ⟨rfl,io⟩)
 rcases s a b with d|d|d<;>rcases s b c with e|e|e<;>rcases s a c with h|h|h<;>constructor<;>omega
def Bh{x y z w A B:Int}(H:qZ x y z)(I:qZ w A B):qZ (if x≠0 then x else w) (if y≠0 then y else A) (if z≠0 then z else B):=by
 obtain⟨K,h,k,C⟩:=H;obtain⟨D,E,F,G⟩:=I;by_cases q:x=0
 .by_cases j:y=0
  .have L:=C q j;rw[aa io,aa io,aa io];exact⟨D,E,F,G⟩
  .rw [aa (by omega:¬x≠0),af j];constructor
   .intro d e;have:=k io io;rw[af io];omega
   .intro d e;have:=k io io;rw[af io];omega
   .intro d e;have:=k io io;rw[af io];omega
   .intro d e;omega
 .rw [af q];by_cases j:y=0
  .rw [aa (by omega:¬y≠0)];constructor
   .intro d e;have:=h io io;rw[af io];omega
   .intro d e;have:=h io io;rw[af io];omega
   .intro d e;have:=h io io;rw[af io];omega
   .intro d e;omega
  .rw [af j];constructor
   .intro d e;have:=h io io;rw[af io];omega
   .intro d e;have:=h io io;rw[af io];omega
   .intro d e;have:=h io io;rw[af io];omega
   .intro d e;omega
mutual
def yU:∀a b c:Rx,qZ (bn a b) (bn b c) (bn a c)
 |.mk q lo h l,.mk w y j d,.mk x z k e=>by
  rw[tB,tB,tB];have:=Jh l d e;exact Bh (CN _ _ _) (Bh (CN _ _ _) (Bh (CN _ _ _) (by show qZ (ej [cmpL l d]) (ej [cmpL d e]) (ej [cmpL l e]);rw[xe,xe,xe];exact this)))
def Jh:∀a b c:List Rx,qZ (cmpL a b) (cmpL b c) (cmpL a c)
 |[],[],[]=>by unfold cmpL;constructor<;>omega
 |[],[],_::_=>by unfold cmpL;constructor<;>omega
 |[],_::_,[]=>by unfold cmpL;constructor<;>omega
 |_::_,[],[]=>by unfold cmpL;constructor<;>omega
 |_::_,[],_::_=>by have d:∀(x:Rx) (l:List Rx),cmpL (x::l) []=1:=λ_ _=>rfl;have e:∀(x:Rx) (l:List Rx),cmpL [] (x::l)=-1:=λ_ _=>rfl;rw[d,e];constructor<;>omega
 |[],h::m,j::n=>by have e:∀(x:Rx) (l:List Rx),cmpL [] (x::l)=-1:=λ_ _=>rfl;rw[e,e];constructor<;>omega
 |x::l,h::m,[]=>by have d:∀(x:Rx) (l:List Rx),cmpL (x::l) []=1:=λ_ _=>rfl;rw[d,d];constructor<;>omega
 |x::l,h::m,j::n=>Bh (yU x h j) (Jh l m n)
end
def mI(x:Rx):List Rx->List Rx
 |[]=>[x]
 |d::p=>if bn x d<0 then d::mI x p else x::d::p
def lx(l:List Rx):List Rx:=(l.foldl (λp d=>mI d p) []).reverse
def k2(p:Rx):List Rx->List Rx
 |[]=>[]
 |d::l=>if bn d p==0 then k2 d l else d::k2 d l
def rr:List Rx->List Rx
 |[]=>[]
 |a::l=>a::k2 a l
def CO{a b:Int}(d:cB a b=0):a=b:=by
 unfold cB at d;split at d
 .cases d
 .split at d
  .cases d
  .omega
def Pm:∀{l:List Int},ej l=0->∀h∈l,h=0
 |[],_=>λh d=>by cases d
 |a::l,e=>by
  unfold ej at e;split at e
  .rename_i k;exact absurd e k
  .rename_i j;have j:a=0:=by simpa using j
   intro h d;rcases aF.1 d with rfl|d
   .exact j
   .exact Pm e h d
def Ta{a b:UInt8}(d:(a.toNat:Int)=b.toNat):a=b:=UInt8.toNat_inj.1 io
mutual
def cmp_eq:∀a b:Rx,bn a b=0->a=b
 |.mk z lo x l,.mk A B y w,d=>by rw[tB]at d;have d:=Pm d;have e:=CO (d _ (gq ..));have h:=Ta (CO (d _ (cJ _ (gq ..))));have j:=Ta (CO (d _ (cJ _ (cJ _ (gq ..)))));have q:=Jl l w (d _ (cJ _ (cJ _ (cJ _ (gq ..)))));simp only[Rx.k,Rx.lo,Rx.hi]at e h j;rw[e,h,j,q]
def Jl:∀l m:List Rx,cmpL l m=0->l=m
 |[],[],_=>rfl
 |[],_::_,d=>by unfold cmpL at d;cases d
 |_::_,[],d=>by unfold cmpL at d;cases d
 |a::l,b::m,d=>by
  unfold cmpL at d;split at d
  .rename_i h;exact absurd d h
  .rename_i e;rw[cmp_eq a b (by simpa using e),Jl l m d]
end
def CR(a:Rx):bn a a=0:=by have:=tC a a;omega
def rq{a b:Rx}:(bn a b==0)=true↔a=b:=⟨λd=>cmp_eq a b (eq_of_beq d),λd=>by subst d;rw[CR];rfl⟩
def v5{a b:Rx}:bn a b=0↔a=b:=⟨cmp_eq a b,λd=>by subst d;exact CR a⟩
def Jk{a b:Rx}:(!(bn a b==0))=true↔a≠b:=by rw[Bool.not_eq_true',<-ij,not_congr rq]
abbrev jO(l:List Rx):Prop:=l.Pairwise λa b=>bn a b<0
abbrev oE(l:List Rx):Prop:=l.Pairwise λa b=>bn a b<=0
def jO.nodup{l:List Rx}(e:jO l):l.Nodup:=List.nodup_iff_pairwise_ne.2 (e.imp λ{a b} h d=>by subst d;rw[CR]at h;omega)
def jO.H8{l:List Rx}(d:jO l):oE l:=d.imp λ{a b} e=>io
def H9{l m:List Rx}(e:oE l)(h:oE m)(d:l.Perm m):l=m:=List.Perm.eq_of_pairwise (λa b _ _ j k=>cmp_eq a b (by have:=tC a b;omega)) e h d
def Xq{l m:List Rx}(d:jO l)(e:jO m)(h:∀t,t∈l↔t∈m):l=m:=H9 d.H8 e.H8 ((List.perm_ext_iff_of_nodup d.nodup e.nodup).2 h)
def D2(x:Rx):∀p:List Rx,(mI x p).Perm (x::p)
 |[]=>.refl _
 |d::p=>by
  unfold mI;split
  .exact ((D2 x p).cons d).trans (.swap x d p)
  .exact .refl _
def KV(x:Rx):∀{p:List Rx},p.Pairwise (λa b=>bn b a<=0)->(mI x p).Pairwise λa b=>bn b a<=0
 |[],_=>by unfold mI;simp
 |h::p,j=>by
  have e:=List.pairwise_cons.1 j;unfold mI;split
  .rename_i q;refine List.pairwise_cons.2 ⟨λt d=>?_,KV x e.2⟩;rcases aF.1 ((D2 x p).mem_iff.1 d)with rfl|d
   .omega
   .exact e.1 t d
  .rename_i q;have k:bn h x<=0:=by have:=tC x h;omega
   refine List.pairwise_cons.2 ⟨λt d=>?_,j⟩;rcases aF.1 d with rfl|d
   .exact k
   .exact (yU t h x).le (e.1 t d) k
def GI(l:List Rx):(lx l).Perm l:=by
 have:∀(l p:List Rx),(l.foldl (λp h=>mI h p) p).Perm (l++p):=by
  intro l;induction l with
  |nil=>intro p;exact .refl _
  |cons a l e=>
   intro p;rw[List.foldl_cons];exact(e _).trans (((D2 a p).append_left l).trans List.perm_middle)
 unfold lx;have d:=this l [];rw[List.append_nil]at d;exact(List.reverse_perm _).trans d
def GH(l:List Rx):oE (lx l):=by
 have:∀(l p:List Rx),p.Pairwise (λa b=>bn b a<=0)->(l.foldl (λp h=>mI h p) p).Pairwise λa b=>bn b a<=0:=by
  intro l;induction l with
  |nil=>intro p d;exact d
  |cons a l e=>intro p d;exact e _ (KV a d)
 unfold lx;exact List.pairwise_reverse.2 (this l [] .nil)
def abC{l m:List Rx}(d:oE m)(e:m.Perm l):m=lx l:=H9 d (GH l) (e.trans (GI l).symm)
def CU{t:Rx}:∀{l:List Rx} {p:Rx},(t=p\/t∈k2 p l)↔(t=p\/t∈l)
 |[],p=>by unfold k2;simp
 |e::l,p=>by
  unfold k2;split
  .rename_i d;have h:e=p:=rq.1 d;subst h;rw[CU,aF];constructor
   .rintro (d|d)<;>simp[d]
   .rintro (d|d|d)<;>simp[d]
  .rw [aF,aF];have:=CU (t:=t) (l:=l) (p:=e);constructor
   .rintro (d|d)
    .exact .inl d
    .exact .inr (this.1 d)
   .rintro (d|d)
    .exact .inl d
    .exact .inr (this.2 d)
def CT:∀{l:List Rx} {p:Rx},oE (p::l)->jO (p::k2 p l)
 |[],p,_=>by unfold k2;simp
 |d::l,p,x=>by
  obtain⟨y,k⟩:=List.pairwise_cons.1 x;unfold k2;split
  .rename_i j;have e:d=p:=rq.1 j;subst e;exact CT k
  .rename_i j;have w:bn p d<0:=by have z:=y d gs;have A:=tC d p;have B:bn d p≠0:=λe=>j (by rw[e];rfl);omega
   have q:=CT k;refine List.pairwise_cons.2 ⟨λt h=>?_,q⟩;rcases aF.1 h with rfl|h
   .exact w
   .exact (yU p d t).lt w (by have:=(List.pairwise_cons.1 q).1 t h;omega)
def VP{l:List Rx}(d:oE l):jO (rr l):=by
 cases l with
 |nil=>exact .nil
 |cons a l=>exact CT d
def VQ{t:Rx}{l:List Rx}:t∈rr l↔t∈l:=by
 cases l with
 |nil=>exact Iff.rfl
 |cons a l=>show t∈a::k2 a l↔_;rw[aF,aF];exact CU
def u4(l:List Rx):List Rx:=rr (lx l)
def RF(l:List Rx):jO (u4 l):=VP (GH l)
def RG{t:Rx}{l:List Rx}:t∈u4 l↔t∈l:=by unfold u4;rw[VQ,(GI l).mem_iff]
def lZ(r:Rx):List Rx->List Rx
 |[]=>[r]
 |d::p=>if bn d r<0 then d::lZ r p else if bn d r=0 then d::p else r::d::p
def FY{t r:Rx}:∀{p:List Rx},t∈lZ r p↔t=r\/t∈p
 |[]=>by unfold lZ;simp
 |j::p=>by
  unfold lZ;split
  .rw [aF,FY,aF];constructor
   .rintro (d|d|d)<;>simp[d]
   .rintro (d|d|d)<;>simp[d]
  .split
   .rename_i h;have e:=cmp_eq j r h;subst e;simp
   .simp
def Qd{r:Rx}:∀{p:List Rx},jO p->jO (lZ r p)
 |[],_=>by unfold lZ;simp
 |h::p,e=>by
  obtain⟨j,w⟩:=List.pairwise_cons.1 e;unfold lZ;split
  .rename_i q;refine List.pairwise_cons.2 ⟨λt d=>?_,Qd w⟩;rcases FY.1 d with rfl|d
   .exact q
   .exact j t d
  .split
   .exact e
   .rename_i q x;have k:bn r h<0:=by have:=tC r h;omega
    refine List.pairwise_cons.2 ⟨λt d=>?_,e⟩;rcases aF.1 d with rfl|d
    .exact k
    .exact (yU r h t).lt k (by have:=j t d;omega)
def hr(k:Int):List Rx->List Rx->List Rx
 |out,[]=>out
 |out,t::l=>hr k (if k=3 then out++[t]else lZ t out) l
def Pp:∀(l out:List Rx),hr 3 out l=out++l
 |[],out=>by unfold hr;simp
 |t::l,out=>by unfold hr;rw[Pp l,af rfl];simp
def Pq{k:Int}(e:k≠3):∀(l:List Rx) {out:List Rx},jO out->jO (hr k out l)
 |[],_,d=>d
 |t::l,out,d=>by unfold hr;rw[aa e];exact Pq e l (Qd d)
def Pr{k:Int}(e:k≠3){t:Rx}:∀(l:List Rx) {out:List Rx},t∈hr k out l↔t∈out\/t∈l
 |[],out=>by unfold hr;simp
 |a::l,out=>by
  unfold hr;rw[aa e,Pr e l,FY,aF];constructor
  .rintro ((d|d)|d)<;>simp[d]
  .rintro (d|d|d)<;>simp[d]
def ZN(k:Int)(l:List Rx):hr k [] l=if k=3 then l else u4 l:=by
 split
 .rename_i d;subst d;rw[Pp];rfl
 .rename_i d;exact Xq (Pq d l .nil) (RF l) λt=>by rw[Pr d,RG];simp
def ms(μ:Rx->Nat):List Rx->Nat
 |[]=>0
 |a::l=>μ a+ms μ l
section
variable {μ:Rx->Nat}
def Mh:∀l m:List Rx,ms μ (l++m)=ms μ l+ms μ m
 |[],m=>by simp[ms]
 |a::l,m=>by show μ a+ms μ (l++m)=μ a+ms μ l+ms μ m;rw[Mh l m];omega
def YR{l m:List Rx}(h:l.Perm m):ms μ l=ms μ m:=by
 induction h with
 |nil=>rfl
 |cons d _ q=>show μ d+_=μ d+_;rw[q]
 |swap d e l=>show μ e+(μ d+_)=μ d+(μ e+_);omega
 |trans _ _ j k=>rw[j,k]
end
mutual
def dh:Rx->Nat|.mk _ _ _ l=>max 1 (zz l)
def zz:List Rx->Nat
 |[]=>0
 |a::l=>dh a+zz l
end
def LV:∀l:List Rx,zz l=ms dh l
 |[]=>rfl
 |a::l=>by unfold zz;rw[LV l];rfl
def rO(k:Int)(lo hi:UInt8)(l:List Rx):dh (.mk k lo hi l)=max 1 (ms dh l):=by unfold dh;rw[LV]
mutual
def jv(N:Nat):Rx->Prop|.mk k _ _ l=>rF N l/\(k=4\/k=5->ms dh l<=N)
def rF(N:Nat):List Rx->Prop
 |[]=>True
 |a::l=>jv N a/\rF N l
end
mutual
def y7{N:Nat}:∀d:Rx,dh d<=N->jv N d
 |.mk j lo h l,e=>by rw[rO]at e;unfold jv;exact⟨Kn l io,λ_=>io⟩
def Kn{N:Nat}:∀l:List Rx,ms dh l<=N->rF N l
 |[],_=>by unfold rF;trivial
 |a::l,d=>by have d:dh a+ms dh l<=N:=d;unfold rF;exact⟨y7 a io,Kn l io⟩
end
set_option maxRecDepth 100000
set_option maxHeartbeats 2000000
namespace wU
abbrev P0:Ps:=[(0,.U),(2,.I)]
abbrev S2:=ah (ay U Tryz.f226 [] []) [4] P0
abbrev t1:=ak S2
abbrev S1:=ah t1 [3] P0
abbrev t2:=ak S1
abbrev S0:=ah t2 [2] P0
abbrev t3:=ak S0
def ok:=aC t3 YZ [.U]
end wU
namespace Ma
def ok:=aC (ay U Tryz.f219 [] []) NB [.U]
end Ma
namespace mS
abbrev P0:Ps:=[(0,.s),(1,.I),(2,.I),(3,.v [.g eR 0 0]),(8,.I)]
def L0:=bu (ay U Tryz.f231 [(4,lr 17),(6,lr 18)] []) [0,1,1] P0
abbrev t1:=bt L0
def L1:=bu t1 [0,1,1,2,1,2,1] [(0,.s),(1,.I),(2,.I),(3,.v [.g eR 0 0]),(8,.I),(9,.I)]
abbrev t2:=bt L1
abbrev S2:=ah t2 [2,2,1] P0
abbrev t3:=ak S2
def ik:=bF t3 L1
def cr:=bF t3 L0
def ok:=aC t3 N' [.s,.I,.I,.g eR 0 0]
end mS
namespace abr
abbrev S5:=ah (ay U Tryz.f234 [] []) [7] [(11,.r),(13,.I)]
abbrev t1:=ak S5
abbrev S4:=ah t1 [1,1,1,1,6] [(0,.s),(3,.v [.g eR 0 0]),(11,.r),(12,.I),(13,.I),(14,.I)]
abbrev t2:=ak S4
abbrev S3:=ah t2 [6] [(0,.s),(3,.v [.g eR 0 0]),(10,.I),(11,.r),(12,.I),(13,.I),(14,.I)]
abbrev t3:=ak S3
abbrev S2:=ah t3 [5] [(0,.s),(1,.I),(3,.v [.g eR 0 0]),(10,.I),(11,.r),(12,.I),(13,.I)]
abbrev t4:=ak S2
abbrev S1:=ah t4 [4] [(0,.s),(1,.I),(3,.v [.g eR 0 0]),(10,.I),(11,.r),(12,.I)]
abbrev t5:=ak S1
abbrev S0:=ah t5 [2] [(0,.s),(1,.I),(3,.v [.g eR 0 0]),(10,.I)]
abbrev t6:=ak S0
end abr
namespace abt
abbrev P0:Ps:=[(0,.s),(1,.I),(2,.I),(3,.v [.g eR 0 0]),(9,.I),(10,.I)]
def L1:=bu (ay U Tryz.f236 [(5,lr 18),(11,lr 18),(16,lr 13),(17,lr 18),(22,lr 13),(23,lr 18)] []) [0,1,1,1,2] P0
abbrev t1:=bt L1
def L2:=bu t1 [0,4,1,2,1,1,2] P0
abbrev t2:=bt L2
def L4:=bu t2 [0,1,1,1,1,1,4,2,1,2,1,1,2] [(0,.s),(1,.I),(2,.I),(3,.v [.g eR 0 0]),(9,.I),(10,.I),(11,.I)]
abbrev t3:=bt L4
def L6:=bu t3 [0,1,1,1,6,2,1,2,1,1,2] [(0,.s),(1,.I),(2,.I),(3,.v [.g eR 0 0]),(9,.I),(10,.I),(12,.I)]
abbrev t4:=bt L6
abbrev S7:=ah t4 [2,2,1,1,2] P0
abbrev t5:=ak S7
abbrev S5:=ah t5 [5,2,1,2,1,1,2] P0
abbrev t6:=ak S5
abbrev S3:=ah t6 [1,2,1,2,1,1,2] P0
abbrev t7:=ak S3
abbrev S0:=ah t7 [2] [(0,.s),(1,.I),(2,.I),(3,.v [.g eR 0 0]),(9,.I)]
abbrev t8:=ak S0
end abt
namespace abu
abbrev P0:Ps:=[(0,.s),(1,.I),(4,.v [.g eR 0 0]),(12,.I),(13,.I)]
def L0:=bu (ay U Tryz.f238 [(1,lr 16),(3,lr 16),(5,lr 17),(8,lr 16),(10,lr 16),(13,lr 16),(15,lr 17),(18,lr 16),(21,lr 16)] []) [0,2,3] P0
abbrev t1:=bt L0
def L1:=bu t1 [0,2,4] P0
abbrev t2:=bt L1
def L4:=bu t2 [0,2,9] P0
abbrev t3:=bt L4
def L5:=bu t3 [0,6,9] P0
abbrev t4:=bt L5
def L6:=bu t4 [0,2,1,4,9] P0
abbrev t5:=bt L6
abbrev S8:=ah t5 [5,4,9] P0
abbrev t6:=ak S8
abbrev S7:=ah t6 [2,4,9] P0
abbrev t7:=ak S7
abbrev S3:=ah t7 [8] P0
abbrev t8:=ak S3
abbrev S2:=ah t8 [5] P0
abbrev t9:=ak S2
end abu
namespace AZ
def L0:=bu (ay U Tryz.f218 [(17,lr 17)] []) [0,1,2] [(0,.s),(1,.I),(2,.I),(3,.I),(4,.v [.g eR 0 0]),(10,.b),(11,.b)]
abbrev t1:=bt L0
abbrev P0:Ps:=[(0,.s),(1,.I),(2,.I),(3,.I),(4,.v [.g eR 0 0]),(10,.b),(11,.b),(16,.I)]
abbrev S9:=ah t1 [1,1,13,3,2] P0
abbrev t2:=ak S9
abbrev vK:=ah t2 [15,3,2] P0
abbrev t3:=ak vK
abbrev S8:=ah t3 [12,3,2] [(0,.s),(1,.I),(2,.I),(3,.I),(4,.v [.g eR 0 0]),(11,.b),(16,.I),(18,.I),(19,.I),(20,.I)]
abbrev t4:=ak S8
abbrev S7:=ah t4 [11,3,2] [(0,.s),(1,.I),(2,.I),(3,.I),(4,.v [.g eR 0 0]),(11,.b),(12,.I),(16,.I),(18,.I),(19,.I)]
abbrev t5:=ak S7
abbrev S6:=ah t5 [8,3,2] [(0,.s),(1,.I),(2,.I),(3,.I),(4,.v [.g eR 0 0]),(12,.I),(13,.I)]
abbrev t6:=ak S6
abbrev P1:Ps:=[(0,.s),(1,.I),(2,.I),(3,.I),(4,.v [.g eR 0 0]),(10,.b),(11,.b),(12,.I),(13,.I)]
abbrev S5:=ah t6 [7,3,2] P1
abbrev t7:=ak S5
abbrev S4:=ah t7 [6,3,2] [(0,.s),(1,.I),(2,.I),(3,.I),(4,.v [.g eR 0 0]),(10,.b),(11,.b),(12,.I),(13,.I),(14,.I)]
abbrev t8:=ak S4
abbrev S3:=ah t8 [2,1,1,1,5,3,2] P1
abbrev t9:=ak S3
abbrev P2:Ps:=[(0,.s),(1,.I),(2,.I),(3,.I),(4,.v [.g eR 0 0]),(10,.b),(11,.b),(12,.I)]
abbrev S2:=ah t9 [4,3,2] P2
abbrev t10:=ak S2
abbrev S1:=ah t10 [1,3,2] P2
abbrev t11:=ak S1
def cr:=bF t11 L0
def ok:=aC t11 Y1 [.s,.I,.I,.I,.g eR 0 0]
end AZ
namespace RQ
def ok:=aC (ay U Tryz.f201 [] []) N9 [.s,.g eR 0 0]
end RQ
def hN(x:I):List I->List I
 |[]=>[x]
 |d::p=>if bn x.rx d.rx<0 then d::hN x p else x::d::p
def fY(l:List I):List I:=(l.foldl (λp d=>hN d p) []).reverse
def D1(x:I):∀p,(hN x p).length=p.length+1
 |[]=>rfl
 |d::p=>by
  unfold hN;split
  .simp [D1 x p]
  .simp
def abB(l:List I)(x:I):fY (l++[x])=(hN x (fY l).reverse).reverse:=by
 unfold fY
 grind
def KS{x t:I}:∀{p:List I},t∈hN x p↔t=x\/t∈p
 |[]=>by unfold hN;simp
 |d::p=>by
  unfold hN;split
  .rw [aF,KS,aF]
   grind
  .simp
def abz{t:I}{l:List I}:t∈fY l↔t∈l:=by
 have:∀(l p:List I),t∈l.foldl (λp e=>hN e p) p↔t∈l\/t∈p:=by
  intro l;induction l with
  |nil=>grind
  |cons a l d=>
   intro p;rw[List.foldl_cons,d,KS,aF]
   grind
 unfold fY
 grind
def RT(l:List I):(fY l).length=l.length:=by
 have:∀(l p:List I),(l.foldl (λp e=>hN e p) p).length=l.length+p.length:=by
  intro l;induction l with
  |nil=>grind
  |cons a l d=>
   intro p;rw[List.foldl_cons,d,D1,List.length_cons];omega
 unfold fY
 grind
def KX(x:I):∀p:List I,(hN x p).map I.rx=mI x.rx (p.map I.rx)
 |[]=>rfl
 |d::p=>by
  unfold hN;rw[iG];unfold mI;split
  .rw [iG,KX x p]
  .rfl
def abD(l:List I):(fY l).map I.rx=lx (l.map I.rx):=by
 have:∀(l p:List I),(l.foldl (λp d=>hN d p) p).map I.rx=(l.map I.rx).foldl (λp d=>mI d p) (p.map I.rx):=by
  intro l;induction l with
  |nil=>grind
  |cons a l e=>
   intro p;rw[List.foldl_cons,e,KX];rfl
 unfold fY lx;rw[List.map_reverse,this];rfl
def KU(x:I):∀p:List I,(hN x p).Perm (x::p)
 |[]=>.refl _
 |d::p=>by
  unfold hN;split
  .exact ((KU x p).cons d).trans (.swap x d p)
  .exact .refl _
def abA(l:List I):(fY l).Perm l:=by
 have:∀(l p:List I),(l.foldl (λp h=>hN h p) p).Perm (l++p):=by
  intro l;induction l with
  |nil=>intro p;exact .refl _
  |cons a l e=>
   intro p;rw[List.foldl_cons];exact(e _).trans (((KU a p).append_left l).trans List.perm_middle)
 unfold fY;have d:=this l [];rw[List.append_nil]at d;exact(List.reverse_perm _).trans d
def aby(l:List I):oE ((fY l).map I.rx):=by rw[abD];exact GH _
def acg{l m:List I}(h:l.Perm m):I.a3 l=I.a3 m:=by
 induction h with
 |nil=>rfl
 |cons d _ j=>show d.sz+_=d.sz+_;rw[j]
 |swap d e l=>show e.sz+(d.sz+_)=d.sz+(e.sz+_);omega
 |trans _ _ k q=>omega
def acd{α:Type}(A d:List α)(y x:α)(j:Nat)(e:j=A.length+1):((A++y::x::d).set j y).set (j - 1) x=A++x::y::d:=by subst e;rw[List.set_append_right _ _ io,Nat.add_sub_cancel,List.set_append_right _ _ io];simp
def U2(s:Sl)(l:List I)(w:J)(hl:I.a3 l<=1000000)(ho:aL w aV 4 s (l.flatMap I.c))(pl:I.Ps w l)(hd:∀e∈aR s,e∉I.bd l)(A X j:List I)(z:l=A++X++j)(b:Nat)(hb:b=A.length+X.length):
  aj U N' #[s.v,.i (A.length:Int),.i (b:Int),.func (.func eR) #[] #[]] w λr D=>(r=ad (.tuple #[])/\aL D aV 4 s ((A++fY X++j).flatMap I.c))/\Fr (·∈aR s) w D:=by
 have ll:=I.ga l;have lX:A.length+X.length+j.length=l.length:=by grind
 have M:O (·∈aR s) w w [.row aV 4 s (l.flatMap I.c)] [.trees l]:=Er _ ho (by intro ak z;simp only[aF,a5,a9]at z;subst z;exact⟨pl,λe L hm=>hd e L (a7.1 hm)⟩)
 have kt:∀t∈l,t.sz<=1000000:=λt C=>bD (I.eJ C) hl;have mA:∀t∈X,t∈l:=λt C=>by grind
 let G:aB:=λr D=>(r=ad (.tuple #[])/\aL D aV 4 s ((A++fY X++j).flatMap I.c))/\Fr (·∈aR s) w D
 have outer:∀(d i:Nat) (E:J),A.length+i+d=b->O (·∈aR s) w E [.row aV 4 s ((A++fY (X.take i)++(X.drop i++j)).flatMap I.c)] [.trees l]->
   mS.L0 s (A.length:Int) (b:Int) ((A.length+i:Nat):Int) E G:=by
  intro d;induction d with
  |zero=>
   intro i E hi N;refine mS.cr (aW (aS io) ⟨⟨rfl,?_⟩,N.fr⟩);have:=N.get 0;rw[fA io,dw io,List.nil_append]at this;exact this
  |succ d ao=>
   intro i E hi N;refine mS.cr (aU (aQ io) ?_);have Z:X[i]? =some (X[i]'io):=a0 io;have ab:=dy (l:=X) (i:=i) io;generalize X[i]'io=e at Z ab;have hS:fY (X.take (i+1))=(hN e (fY (X.take i)).reverse).reverse:=by rw[g5,Z,Option.toList_some,abB]
   have L:e∈l:=mA e (aA Z);have next:∀(k:J),O (·∈aR s) w k [.row aV 4 s ((A++fY (X.take (i+1))++(X.drop (i+1)++j)).flatMap I.c)] [.trees l]->mS.S2 s (A.length:Int) (b:Int) ((A.length+i:Nat):Int) k G:=by
    intro k x;show mS.L0 _ _ _ _ _ _;rw[bp _ io]
    grind
   have inner:∀(p:Nat) (P Q:List I) (k:J),P.length=p->(hN e P.reverse).reverse++Q=fY (X.take (i+1))->(∀t∈P,t∈l)->O (·∈aR s) w k [.row aV 4 s ((A++P++e::(Q++(X.drop (i+1)++j))).flatMap I.c)] [.trees l]->
     mS.L1 s (A.length:Int) (b:Int) ((A.length+i:Nat):Int) ((A.length+p:Nat):Int) k G:=by
    intro p;induction p with
    |zero=>
     intro P Q k hp B W x;have:P=[]:=List.length_eq_zero_iff.1 hp;subst this;refine mS.ik (x.dr λF q=>aW (aS io) (next F ?_));have an:e::Q=fY (X.take (i+1)):=B
     grind
    |succ p ah=>
     intro P Q k hp B W x;obtain⟨h,y,rfl⟩:∃h y,P=h++[y]:=⟨P.dropLast,P.getLast (λam=>by grind),(List.dropLast_concat_getLast _).symm⟩;have ag:h.length=p:=by grind
     have hy:y∈l:=W y gs;have eA:A++(h++[y])++e::(Q++(X.drop (i+1)++j))=(A++h)++y::e::(Q++(X.drop (i+1)++j)):=gs
     rw[eA]at x;have lA:(A++h).length=A.length+p:=by grind
     have gy:((A++h)++y::e::(Q++(X.drop (i+1)++j)))[A.length+p]? =some y:=by rw[<-lA,List.getElem?_append_right (bm _)];simp
     have T:((A++h)++y::e::(Q++(X.drop (i+1)++j)))[A.length+(p+1)]? =some e:=by rw[<-Nat.add_assoc,<-lA,List.getElem?_append_right (Nat.le_succ _)];simp
     have hlen:((A++h)++y::e::(Q++(X.drop (i+1)++j))).length<=1000000:=by have h1:=congrArg List.length B;rw[RT,List.length_append,List.length_reverse,D1,List.length_reverse]at h1;simp only[List.length_append,List.length_cons,gK,List.length_drop,List.length_nil]at h1 ⊢;omega
     have ae:=(cq.1 T).1;have H:aD .i64 (((A.length+(p+1):Nat):Int) - 1)=((A.length+p:Nat):Int):=by rw[DU io io];rfl
     have K:hN e (h++[y]).reverse=if bn e.rx y.rx<0 then y::hN e h.reverse else e::y::h.reverse:=by rw[List.reverse_append];rfl
     refine mS.ik (x.dr λF q=>aU (aQ io) ?_);refine q.el 0 (A.length+(p+1)) rfl T (q.el 0 (A.length+p) H gy ?_);refine q.call (Io e y F (kt e L) ((show I.Ps F l from q.getD 0).mem L) ((show I.Ps F l from q.getD 0).mem hy)) ?_;rintro _ w4 rfl H4;refine⟨_,rfl,aY (λY=>H4.dr λw5 S=>?_) (λY=>next w4 ?_)⟩
     .refine S.el 0 (A.length+p) H gy (S.el 0 (A.length+(p+1)) rfl T (S.Df 0 (A.length+(p+1)) (t:=y) rfl ae λw6 H6=>?_));refine H6.Df 0 (A.length+p) (t:=e) (ts:=((A++h)++y::e::(Q++(X.drop (i+1)++j))).set (A.length+(p+1)) y) H (by grind) λw7 H7=>?_;rw[H];rw[af Y]at K;refine ah h (y::Q) w7 ag ?_ (λt C=>W t (by grind)) ?_
      .rw [<-B,K];simp
      .have e3:=acd (A++h) (Q++(X.drop (i+1)++j)) y e (A.length+(p+1)) io
       grind
     .rw [aa Y]at K;rw[<-B,K];simpa using H4
   have ac:(fY (X.take i)).length=i:=by rw[RT,gK];omega
   refine inner i (fY (X.take i)) [] E ac ?_ (λt C=>mA t (List.mem_of_mem_take (abz.1 C))) ?_
   .grind
   grind
 refine mS.ok ?_;show mS.L0 _ _ _ _ _ G;rw[bp _ io];cases X with
 |nil=>
  refine mS.cr (aW (aS (by grind)) ⟨⟨rfl,?_⟩,Fr.refl _ _⟩);have:=M.get 0;rw[z]at this;exact this
 |cons a X=>
  refine outer (b - (A.length+1)) 1 w (by grind) ?_;rw[show l.flatMap I.c=(A++fY ((a::X).take 1)++((a::X).drop 1++j)).flatMap I.c from by rw[z];simp[fY,hN]]at M;exact M
def acx{t:ByteArray}{m:Nat}{K:UInt8->Prop}(d:bH t.size 256=true)(h:m<256)(e:∀b,K b):∃b:UInt8,t[m]? =some b/\K b:=by rw[eA]at d;exact⟨t[m]'io,getElem?_pos t m io,e _⟩
def UD(x:Int)(w:J):aj U NB #[.u x] w λr d=>(∃t:Int,r=ad (.i t))/\ag w d:=by
 have k:∀(x n:Int),wU.S2 x n w λr d=>(∃t:Int,r=ad (.i t))/\ag w d:=by
  intro x n;have e:0<=aD .u8 x/\aD .u8 x<256:=by rw[IntKind.wrap_u8];omega
  obtain⟨m,y⟩:=Int.eq_ofNat_of_zero_le e.1;refine⟨e.1,?_⟩;have q:m<256:=io
  refine acx (by kernel_rfl) (by rw[y];exact q) λb=>⟨⟨_,rfl⟩,Fr.refl _ _⟩
 have j:∀(x n:Int),wU.S1 x n w λr d=>(∃t:Int,r=ad (.i t))/\ag w d:=λx n=>aY (λ_=>k _ _) (λ_=>k _ _);have h:∀(x n:Int),wU.S0 x n w λr d=>(∃t:Int,r=ad (.i t))/\ag w d:=λx n=>aY (λ_=>j _ _) (λ_=>j _ _);refine Ma.ok ((wU.ok (aY (λ_=>h _ _) (λ_=>h _ _))).mono ?_);rintro _ z ⟨⟨t,rfl⟩,f⟩;exact⟨t,rfl,⟨t,rfl⟩,f⟩
def mn(n:Nat):Prop:=∀(s:Sl) (l:List I) (w:J),l.length<=n->I.a3 l<=1000000->aL w aV 4 s (l.flatMap I.c)->I.Ps w l->(∀e∈aR s,e∉I.bd l)->
 aj U N9 #[s.v,.func (.func eR) #[] #[]] w λr d=>(∃m:List I,r=ad (.tuple #[])/\m.Perm l/\oE (m.map I.rx)/\aL d aV 4 s (m.flatMap I.c))/\Fr (·∈aR s) w d
def ir(p:I):List I->List I
 |[]=>[]
 |d::l=>if bn d.rx p.rx==0 then ir d l else d::ir d l
def lO:List I->List I
 |[]=>[]
 |a::l=>a::ir a l
def Jr(l:List I)(i:Nat):(l.flatMap I.c).take (i *4)=(l.take i).flatMap I.c:=by
 have e:=I.hL (l.take i);by_cases d:i<=l.length
 .conv=>lhs;rw[<-F2 i l,dL]
  grind
 .rw [fA (by rw[I.hL];omega),fA (l:=l) io]
def Jx(l:List I)(i:Nat)(d:i<=l.length):(l.flatMap I.c).drop (i *4)=(l.drop i).flatMap I.c:=by
 have e:=I.hL (l.take i);rw[gK,Nat.min_eq_left d]at e;conv=>lhs;rw[<-F2 i l,dL]
 grind
def V0{w:J}{s:Sl}{l m:List I}(h:aL w aV 4 s (l.flatMap I.c))(i:Nat)(hi:i<=l.length)(C:l.take i=m){K:J->Prop}{R:aB}{w0:J}(B:Fr (·∈aR s) w0 w)(A:∀r j,vJ s m r w0 j->Fr (·∈aR s) w0 j->R r j):
  (0:Int)<=(i:Int)/\(i:Int)<=(s.n:Int)/\∃(k:J),Sem.run U (Builtin.clear_ #[jg] nJ #[.slice (if s.c=(aZ (i:Int))then s.a else s.a.map (·.add ((aZ (i:Int)) *4))) (s.n - (aZ (i:Int))) (s.c - (aZ (i:Int)))]) w=.ok (.tuple #[]) k/\
   (0:Int)<=(i:Int)/\(i:Int)<=(s.c:Int)/\R (ad (.slice (if s.c=0 then s.a else s.a.map (·.add (0 *4))) ((aZ (i:Int)) - 0) (s.c - 0))) k:=by
 have H:=I.cw h.a2;have G:=h.cap;obtain⟨E,x,y,z⟩:=Js (ty:=nJ) rz Ts rfl h i io;refine⟨io,io,E,x,io,io,A _ _ ⟨⟨if s.c=0 then s.a else s.a.map (·.add (0 *4)),i - 0,s.c - 0⟩,rfl,?_,λF e=>?_⟩ (B.trans z λF _ q=>q)⟩
 .rw [<-C,<-Jr];exact y
 .simp only[aR]at e ⊢;split at e
  .rename_i p d;split at d
   .grind
   .cases D:s.a with
    |none=>grind
    |some L=>
     rw[D]at d;simp only[Option.map_some,fo]at d;subst d;rw[j']at e;exact e
  grind
section
variable {M:Nat->Prop} {w0 w:J} {L D:List En}
def _root_.Go.W.O.Dg(H:O M w0 w L D)(i k b:Nat){s:Sl}{ts:List I}{t:I}{X:Int}{K:Int->Int->Int->Sl->Prop}(q:X=(k:Int))(x:ts[b+k]? =some t)(j:K t.k t.lo.toNat t.hi.toNat t.s)(hi:L[i]? =some (.row aV 4 s (ts.flatMap I.c)):=by rfl):
  (0:Int)<=X/\X<((s.n - b:Nat):Int)/\dv (if s.c=b then s.a else s.a.map (·.add (b *4))) λp=>∃a b c:Int,∃d:Sl,w.cell? ((p.add (aZ X *4)).add 0)=some (.i a)/\w.cell? ((p.add (aZ X *4)).add 1)=some (.int .u8 b)/\w.cell? ((p.add (aZ X *4)).add 2)=some (.int .u8 c)/\w.cell? ((p.add (aZ X *4)).add 3)=some d.v/\K a b c d:=by subst q;have e:aL w aV 4 s (ts.flatMap I.c):=H.get i hi;have z:=I.cw e.a2;have y:=(cq.1 x).1;have h:=e.a2.sub b s.n io (bm _);rw[fA (by rw[I.hL];omega),Jx _ _ io]at h;refine⟨io,io,I.aT (s:=pG 4 s b s.n) h (i:=k) (t:=t) (by grind) λp A c=>⟨_,_,_,_,c.c0,c.c1,c.c2,c.c3,j⟩⟩
end
def Uw(s:Sl)(l:List I)(w:J)(hl:I.a3 l<=1000000)(ho:aL w aV 4 s (l.flatMap I.c))(pl:I.Ps w l)(hd:∀x∈aR s,x∉I.bd l):
  aj U N3 #[s.v,.func (.func rS) #[] #[]] w λr E=>vJ s (lO l) r w E/\Fr (·∈aR s) w E:=by
 have nr:=I.cw ho.a2;have ll:=I.ga l;have kt:∀t∈l,t.sz<=1000000:=λt Z=>bD (I.eJ Z) hl;have ac:O (·∈aR s) w w [.row aV 4 s (l.flatMap I.c)] [.trees l]:=Er _ ho (by intro ag he;simp only[aF,a5,a9]at he;subst he;exact⟨pl,λx G P=>hd x G (a7.1 P)⟩)
 let Q:aB:=λr E=>vJ s (lO l) r w E/\Fr (·∈aR s) w E
 have am:∀(d k b m:Nat) (cur:List I) (p:I) (A:J),b+m+d=l.length->1<=m->1<=b->k<b+m->cur.length=l.length->cur.drop (b+m - 1)=l.drop (b+m - 1)->l[b+m - 1]? =some p->cur.take k++ir p (l.drop (b+m))=lO l->
   O (·∈aR s) w A [.row aV 4 s (cur.flatMap I.c)] [.trees l]->
   ox.L2 s (k:Int) ⟨(if s.c=b then s.a else s.a.map (·.add (b *4))),(s.n - b),(s.c - b)⟩ (m:Int) A Q:=by
  intro d;induction d with
  |zero=>
   intro k b m cur p A hb P ae W hc N D e q;refine ox.oL (aW (aS ?_) ?_)
   .grind
   rw[dw io]at e;have Y:cur.take k=lO l:=by rw[<-e];simp[ir]
   exact V0 (K:=λ_=>True) (q.get 0) k io Y q.fr λr E C F=>⟨C,F⟩
  |succ d ab=>
   intro k b m cur p A hb P ae W hc N D e q;have z:l[b+m]? =some (l[b+m]'io):=a0 io;have y:=dy (l:=l) (i:=b+m) io;generalize l[b+m]'io=x at z y;have af:cur[b+m]? =some x:=by
    have:(cur.drop (b+m - 1))[1]? =(l.drop (b+m - 1))[1]?:=by rw[N]
    grind
   have ah:cur[b+(m - 1)]? =some p:=by
    have:(cur.drop (b+m - 1))[0]? =(l.drop (b+m - 1))[0]?:=by rw[N]
    rw[List.getElem?_drop,List.getElem?_drop,Nat.add_zero]at this
    grind
   have ak:cur.drop (b+m)=l.drop (b+m):=by
    have:(cur.drop (b+m - 1)).drop 1=(l.drop (b+m - 1)).drop 1:=by rw[N]
    rw[iF,iF,show b+m - 1+1=b+m by omega]at this;omega
   have L:=aA z;have mp:=aA D;have S:aD .i64 ((m:Int) - 1)=((m - 1:Nat):Int):=DU P io;rw[y]at e;have T:ir p (x::l.drop (b+m+1))=if bn x.rx p.rx==0 then ir x (l.drop (b+m+1))else x::ir x (l.drop (b+m+1)):=rfl;rw[T]at e;have next:∀(H:Nat) (B:List I) (j:J),H<b+(m+1)->B.length=l.length->B.drop (b+m)=l.drop (b+m)->B.take H++ir x (l.drop (b+m+1))=lO l->O (·∈aR s) w j [.row aV 4 s (B.flatMap I.c)] [.trees l]->
     ox.S3 s (H:Int) ⟨(if s.c=b then s.a else s.a.map (·.add (b *4))),(s.n - b),(s.c - b)⟩ (m:Int) j Q:=by intro H B j C F h3 h4 h;show ox.L2 _ _ _ _ _ _;rw[bp _ io];exact ab H b (m+1) B x j io io ae C F (by grind) (by grind) io h
   refine ox.oL (aU (aQ ?_) (q.dr λj h=>?_))
   .show (m:Int)<((s.n - b:Nat):Int);omega
   refine h.Dg 0 m b rfl af (h.Dg 0 (m - 1) b S ah ?_);refine h.call (vV x p j (kt x L) ((show I.Ps j l from h.getD 0).mem L) ((show I.Ps j l from h.getD 0).mem mp)) ?_;rintro _ w3 rfl M;refine⟨_,rfl,eO (λhf=>?_) (λZ=>?_)⟩
   .refine M.Dg 0 m b rfl af (M.Df 0 k (t:=x) (ts:=cur) rfl io λw4 H4=>?_);rw[aa (by grind)]at e;rw[bp _ io];refine next (k+1) (cur.set k x) w4 io (by grind) ?_ ?_ H4
    .rw [List.drop_set_of_lt io];omega
    .rw [Sn io,List.append_assoc];exact e
   grind
 have loop:∀(d k:Nat) (p:I) (A:J),k+d=l.length->1<=k->l[k - 1]? =some p->l.take k++ir p (l.drop k)=lO l->O (·∈aR s) w A [.row aV 4 s (l.flatMap I.c)] [.trees l]->
   ox.L0 s (k:Int) A Q:=by
  intro d;induction d with
  |zero=>
   intro k p A W C D e q;refine ox.cr (aW (aS io) ⟨⟨s,rfl,?_,λx G=>G⟩,q.fr⟩);rw[dw io,fA io]at e;have Y:l=lO l:=by rw[<-e];simp[ir]
   rw[<-Y];exact q.get 0
  |succ d ab=>
   intro k p A W C D e q;have z:l[k]? =some (l[k]'io):=a0 io;have y:=dy (l:=l) (i:=k) io;generalize l[k]'io=x at z y;have L:=aA z;have mp:=aA D;have S:aD .i64 ((k:Int) - 1)=((k - 1:Nat):Int):=DU C io;rw[y]at e;have T:ir p (x::l.drop (k+1))=if bn x.rx p.rx==0 then ir x (l.drop (k+1))else x::ir x (l.drop (k+1)):=rfl;rw[T]at e;refine ox.cr (aU (aQ io) (q.dr λj h=>?_));refine h.el 0 k rfl z (h.el 0 (k - 1) S D ?_);refine h.call (vV x p j (kt x L) ((show I.Ps j l from h.getD 0).mem L) ((show I.Ps j l from h.getD 0).mem mp)) ?_;rintro _ w3 rfl M;refine⟨_,rfl,bq (λZ=>⟨io,io,?_⟩) (λhf=>?_)⟩
   .grind
   .rw [aa (by grind)]at e;rw[bp _ io];refine ab (k+1) x w3 io io (by grind) ?_ M
    grind
 refine ox.ok (aY (λF=>⟨⟨s,rfl,?_,λx G=>G⟩,ac.fr⟩) (λF=>?_))
 .have ag:lO l=l:=by
   cases l with
   |nil=>rfl
   |cons a l=>
    cases l with
    |nil=>rfl
    |cons b l=>grind
  grind
 .have z:l[0]? =some (l[0]'io):=a0 io;have y:=dy (l:=l) (i:=0) io;generalize l[0]'io=x at z y;refine loop (l.length - 1) 1 x w io io z ?_ ac;rw[List.drop_zero]at y;rw[y];rfl
def hj(k:Int)(l:List Rx)(u:Rx):List Rx:=(l.flatMap λc=>if c.k=k then c.l else[c]).filter λt=>!(bn t u==0)
def tX(k:Int)(u:Rx):List Rx->Rx
 |[]=>u
 |[a]=>a
 |l=>.mk k 0 0 l
def gZ(k:Int)(l:List Rx)(u z:Rx):Rx:=if(hj k l u).any (λt=>bn t z==0)then z else tX k u (if k=3 then hj k l u else rr (lx (hj k l u)))
def uM(k:Int)(l:List Rx):Nat:=(l.flatMap λc=>if c.k=k then c.l else[c]).length
def nZ:Rx:=.mk 1 0 0 []
def eL:Rx:=.mk 6 0 0 [fK]
def l8(lo hi:UInt8)(l:List Rx):Rx:=match l with
 |[]=>fK
 |c::d=>if c.k=0\/c.k=1 then nZ else if c.k=7\/bn c eL=0 then c else .mk 7 lo hi (c::d)
def qq(lo hi:UInt8)(l:List Rx):Rx:=match l with
 |[]=>fK
 |c::e=>if c.k=6 then(match c.l with |[]=>fK|d::_=>d)else .mk 6 lo hi (c::e)
def h8:Rx->Rx
 |.mk d lo e l=>if d=3 then gZ 3 l nZ fK else if d=4 then gZ 4 l fK eL else if d=5 then gZ 5 l eL fK else if d=6 then qq lo e l else if d=7 then l8 lo e l else .mk d lo e l
def k6:Rx->Bool
 |.mk d _ _ l=>ai (0<=d)&&ai (d<8)&&(match l with
  |[]=>d !=6&&d !=7
  |c::_=>!(d==6&&c.k==6&&c.l.isEmpty))
def l4(t:I):t.rx.k=t.k:=by rw[I.fi];rfl
def xE(t:I):t.rx.l=t.l.map I.rx:=by rw[I.fi,<-I.fN];rfl
def wD(x u:I):(gB x u).map I.rx=hj x.k (I.ao x.l) u.rx:=by
 unfold gB hj;rw[I.fN];generalize x.l=l;induction l with
 |nil=>rfl
 |cons a l e=>
  rw[iG,da,da,List.filter_append,List.filter_append,fh,e];congr 1;have d:(e4 x a).map I.rx=if a.rx.k=x.k then a.rx.l else[a.rx]:=by
   unfold e4;rw[l4,xE]
   grind
  rw[<-d,List.filter_map];rfl
def CW:∀(l:List I) (p:I),(ir p l).map I.rx=k2 p.rx (l.map I.rx)
 |[],p=>rfl
 |d::l,p=>by
  unfold ir;rw[iG];unfold k2;split
  .exact CW l d
  .rw [iG,CW l d]
def VS(l:List I):(lO l).map I.rx=rr (l.map I.rx):=by
 cases l with
 |nil=>rfl
 |cons a l=>show a.rx::(ir a l).map I.rx=_;rw[CW];rfl
def CV{t:I}:∀{l:List I} {p:I},t∈ir p l->t∈l
 |[],p,d=>d
 |e::l,p,d=>by
  unfold ir at d;split at d
  .exact cJ _ (CV d)
  .rcases aF.1 d with rfl|d
   .simp
   .exact cJ _ (CV d)
def VR{t:I}{l:List I}(d:t∈lO l):t∈l:=by
 cases l with
 |nil=>exact d
 |cons a l=>
  rcases aF.1 d with rfl|d
  .simp
  .exact cJ _ (CV d)
def T'(l:List I)(z:I):l.any (λt=>bn t.rx z.rx==0)=(l.map I.rx).any λt=>bn t z.rx==0:=by grind
def gy(d:List Nat)(w:J)(x:Rx)(r:cR)(w':J):Prop:=∃t:I,r=ad t.v/\t.rx=x/\t.P w'/\∀b∈t.fp,w.heap.size<=b\/b∈d
def U5{N:Nat}(hS:mn N)(hN:N<=1000000)(x u z:I)(B j:Nat)(w:J)(Q:x.k≠3->uM x.k (I.ao x.l)<=N)(hx:x.sz<=1000000)(px:x.P w)(pu:u.P w)(pz:z.P w)(hu:w.heap[B]? =some (.cells u.c.toArray aV (0,0)))(hz:w.heap[j]? =some (.cells z.c.toArray aV (0,0))):
  aj U zQ #[x.v,.pointer (some (ab B)),.pointer (some (ab j))] w λr w'=>gy (x.fp++(u.fp++z.fp)) w (gZ x.k (I.ao x.l) u.rx z.rx) r w'/\ag w w':=by
 have H0:O F0 w w [] [.tree x,.tree u,.tree z,dS B u,dS j z]:=bT _ (by
  intro ak D;simp only[aF,a5,a9]at D;rcases D with rfl|rfl|rfl|rfl|rfl
  .exact px
  .exact pu
  .exact pz
  .exact hu
  .exact hz)
 have Y:=Sub.gB x u;have az:=acf x u;have ay:=I.ga (gB x u);have kt:∀t∈gB x u,t.sz<=1000000:=λt q=>by have:=I.eJ q;omega
 have aB:(gB x u).length<=uM x.k (I.ao x.l):=by have S:=congrArg List.length (wD x u);rw[List.length_map]at S;rw[S];exact List.length_filter_le ..
 refine Gd.aq (H0.ax λG w1 H1=>H1.ax λH w2 C=>⟨_,_,_,u.s,C.dU 3 0,C.dU 3 1,C.dU 3 2,C.dU 3 3,C.hh (UY x u w2 hx (C.getD 0) (C.getD 1)) ?_⟩);rintro _ w3 ⟨y,rfl,o1,n1⟩ H3 F3;have F:=F3.own (.row aV 4 y ((gB x u).flatMap I.c)) o1 n1;have ac:∀w':J,x.P w'->I.Ps w' (gB x u):=λw' Q=>Y.Ps Q;refine⟨y,rfl,F.av (Uy y (gB x u) ⟨E4,#[],#[.pointer (some (ab j))]⟩ (λt=>bn t.rx z.rx==0) [.tree x,.tree z,dS j z] w3 io (F.get 2:aL _ _ _ _ _).a2 (by
  intro ak D;simp only[aF,a5,a9]at D;rcases D with rfl|rfl|rfl
  .exact F.getD 0
  .exact F.getD 2
  .exact F.getD 4) (by kernel_rfl) (λw' t q E=>U1 t z j w' (kt t q) ((ac w' (E.getD 1)).mem q) (E.getD 2) (E.getD 3))) ?_⟩
 rintro _ w4 rfl h;have ea:(gB x u).any (λt=>bn t.rx z.rx==0)=(hj x.k (I.ao x.l) u.rx).any λt=>bn t z.rx==0:=by rw[T',wD]
 refine⟨_,rfl,bq (λq=>⟨_,_,_,z.s,h.dU 4 0,h.dU 4 1,h.dU 4 2,h.dU 4 3,h.ae λw8 e=>⟨⟨z,rfl,?_,e.getD 2,λb d=>.inr (by grind)⟩,e.fr⟩⟩) (λhf=>?_)⟩
 .have aC:=ea▸q;unfold gZ
  grind
 have ar:=ea▸hf;have fin:∀(Z:Sl) (ks:List I) (w':J),(∀t∈ks,t∈gB x u)->ks.map I.rx=(if x.k=3 then hj x.k (I.ao x.l) u.rx else rr (lx (hj x.k (I.ao x.l) u.rx)))->O F0 w w' [.g G,.g H,.row aV 4 Z (ks.flatMap I.c)] [.tree x,.tree u,.tree z,dS B u,dS j z]->
   Gd.a1 (ab B) G x.k x.lo.toNat x.hi.toNat x.s H 0 0 0 ⟨none,0,0⟩ Z w' λr w'=>gy (x.fp++(u.fp++z.fp)) w (gZ x.k (I.ao x.l) u.rx z.rx) r w'/\ag w w':=by
  intro Z ks w' K D A;have T:Sub x ks:=Y.sub K;have nr:=I.cw (A.get 2:aL _ _ _ _ _).a2;have ej:gZ x.k (I.ao x.l) u.rx z.rx=tX x.k u.rx (ks.map I.rx):=by
   unfold gZ
   grind
  refine aw (λh0=>⟨_,_,_,u.s,A.dU 3 0,A.dU 3 1,A.dU 3 2,A.dU 3 3,A.ae λw8 e=>⟨⟨u,rfl,?_,e.getD 1,λb d=>.inr (by grind)⟩,e.fr⟩⟩) (λh0=>aw (λS=>?_) (λS=>A.ae λw8 e=>⟨⟨.mk x.k 0 0 Z ks,rfl,?_,?_,λb d=>?_⟩,e.fr⟩))
  .have:ks=[]:=List.length_eq_zero_iff.1 io;rw[ej,this];rfl
  .obtain ⟨a,rfl⟩:=List.length_eq_one_iff.1 (show ks.length=1 by omega);refine A.el 2 0 rfl (t:=a) rfl (A.ae λw8 e=>⟨⟨a,rfl,?_,T.P _ (e.getD 0) a gs,λb d=>.inr (by simp[T.fp a gs b d])⟩,e.fr⟩);rw[ej];rfl
  .rw [ej];unfold I.rx;rw[I.fN];cases ks with
   |nil=>grind
   |cons a ks=>
    cases ks with
    |nil=>grind
    |cons b ks=>rfl
  .unfold I.P;exact⟨(e.get 2:aL _ _ _ _ _).a2,T.Ps (e.getD 0)⟩
  .unfold I.fp at d;rcases aK.1 d with d|d
   .exact .inl ((e.new _ (aA (i:=2) rfl) b (gL d)).resolve_right id)
   .exact .inr (by simp[T.bd d])
 have eo:∀w':J,O F0 w w' [.g G,.g H,.row aV 4 y ((gB x u).flatMap I.c)] [.tree x,.tree u,.tree z,dS B u,dS j z]->∀L∈aR y,L∉I.bd (gB x u):=λw' E L hy hm=>E.off 2 0 rfl rfl L hy (a7.2 (Y.bd hm));refine cz (λK=>?_) (λK=>fin y (gB x u) w4 (λ_ Q=>Q) (by rw[af K,wD]) h);refine h.CF 2 rfl (hS y (gB x u) w4 io io (h.get 2) (ac w4 (h.getD 0)) (eo w4 h)) ?_;rintro _ w5 ⟨m,rfl,W,an,o5⟩ hH;have M:O F0 w w5 [.g G,.g H,.row aV 4 y (m.flatMap I.c)] [.tree x,.tree u,.tree z,dS B u,dS j z]:=hH (.row aV 4 y (m.flatMap I.c)) o5 λb d=>.inl d;have ah:Sub x m:=Y.sub λt q=>W.mem_iff.1 q;refine⟨rfl,M.CF 2 rfl (Uw y m w5 (by rw[acg W];omega) (M.get 2) (ah.Ps (M.getD 0)) (λL hy hm=>M.off 2 0 rfl rfl L hy (a7.2 (ah.bd hm)))) ?_⟩;rintro _ w6 ⟨s2,rfl,o6,n6⟩ am;have H7:O F0 w w6 [.g G,.g H,.row aV 4 s2 ((lO m).flatMap I.c)] [.tree x,.tree u,.tree z,dS B u,dS j z]:=am (.row aV 4 s2 ((lO m).flatMap I.c)) o6 λb d=>.inl (n6 b d);have ap:m.map I.rx=lx ((gB x u).map I.rx):=abC an (W.map _);exact⟨s2,rfl,fin s2 (lO m) w6 (λt q=>W.mem_iff.1 (VR q)) (by rw[aa K,VS,ap,wD]) H7⟩
def jY{w:J}{x t:I}(h:x.P w){k:Nat}{X:Int}{K:Int->Int->Int->Sl->Prop}(q:X=(k:Int))(e:x.l[k]? =some t)(j:K t.k t.lo.toNat t.hi.toNat t.s):
  nN x.s X λp=>∃a b c:Int,∃d:Sl,w.cell? ((p.add (aZ X *4)).add 0)=some (.i a)/\w.cell? ((p.add (aZ X *4)).add 1)=some (.int .u8 b)/\w.cell? ((p.add (aZ X *4)).add 2)=some (.int .u8 c)/\w.cell? ((p.add (aZ X *4)).add 3)=some d.v/\K a b c d:=by subst q;have z:=I.cw h.parts.1;have y:=(cq.1 e).1;exact⟨io,io,I.aT h.parts.1 e λp A c=>⟨_,_,_,_,c.c0,c.c1,c.c2,c.c3,j⟩⟩
def Va(x:I)(w:J)(M:x.P w)(C:x.k=6)(d:k6 x.rx=true):aj U ux #[x.v] w λr N=>gy x.fp w (qq x.lo x.hi (I.ao x.l)) r N/\ag w N:=by
 have nr:=I.cw M.parts.1;rw[I.fi]at d;cases D:x.l with
 |nil=>rw[D,C]at d;simp[k6,I.ao]at d
 |cons c L=>
  have A:x.l[0]? =some c:=by grind
  have E:c∈x.l:=aA A;have h:I.ao (c::L)=c.rx::I.ao L:=rfl;refine QF.aq ((gH M).ax λY w1 O=>O.ax λZ T q=>?_);have F:x.P T:=q.getD 0;have n2:0<x.s.n:=by grind
  refine⟨io,io,I.aT F.parts.1 A λp S y=>⟨c.k,y.c0,aw (λj=>?_) (λj=>q.ae λab G=>⟨⟨x,rfl,?_,G.getD 0,λb z=>.inr z⟩,G.fr⟩)⟩⟩
  .refine ⟨io,io,I.aT F.parts.1 A λp S y=>⟨c.s,y.c3,?_⟩⟩;cases K:c.l with
   |nil=>
    rw[D,h]at d;have Q:c.rx.l.isEmpty=true:=by rw[xE,K];rfl
    simp[k6,C,l4,j,Q]at d
   |cons e l2=>
    have B:c.l[0]? =some e:=by grind
    refine jY (F.parts.2.mem E) rfl B (q.ae λW H=>⟨⟨e,rfl,?_,((show x.P W from H.getD 0).parts.2.mem E).parts.2.mem (aA B),λb z=>.inr (I.gC.2 (.inr (I.bS.2 ⟨c,E,I.gC.2 (.inr (I.bS.2 ⟨e,aA B,z⟩))⟩)))⟩,H.fr⟩);rw[h];show e.rx=if c.rx.k=6 then _ else _;rw[af (by rw[l4,j]),xE,K];rfl
  .rw [h];show x.rx=if c.rx.k=6 then _ else _;rw[aa (by rw[l4];exact j),I.fi,C,D,h]
def Vl(x m v:I)(q z:Nat)(w:J)(hx:x.sz<=1000000)(px:x.P w)(pm:m.P w)(pv:v.P w)(hm:w.heap[q]? =some (.cells m.c.toArray aV (0,0)))(hv:w.heap[z]? =some (.cells v.c.toArray aV (0,0)))(em:m.rx=nZ)(ev:v.rx=eL)(Z:x.k=7)(H:k6 x.rx=true):
  aj U uy #[x.v,.pointer (some (ab q)),.pointer (some (ab z))] w λr e=>gy (x.fp++(m.fp++v.fp)) w (l8 x.lo x.hi (I.ao x.l)) r e/\ag w e:=by
 have nr:=I.cw px.parts.1;rw[I.fi]at H;cases hl:x.l with
 |nil=>rw[hl,Z]at H;simp[k6,I.ao]at H
 |cons c E=>
  have Y:x.l[0]? =some c:=by grind
  have F:c∈x.l:=aA Y;have C:I.ao (c::E)=c.rx::I.ao E:=rfl;have H0:O F0 w w [] [.tree x,.tree m,.tree v,dS q m,dS z v]:=bT _ (by
   intro ak W;simp only[aF,a5,a9]at W;rcases W with rfl|rfl|rfl|rfl|rfl
   .exact px
   .exact pm
   .exact pv
   .exact hm
   .exact hv)
  refine Ay.aq (H0.ax λN w1 H1=>H1.ax λB w2 K=>?_);have n2:0<x.s.n:=by grind
  have sc:c.sz<=1000000:=by have:=I.eJ F;have:=I.iJ x;omega
  have fc:∀b∈c.fp,b∈x.fp:=λb D=>I.gC.2 (.inr (I.bS.2 ⟨c,F,D⟩));refine jY (show x.P w2 from K.getD 0) rfl Y (K.ax λG w3 A=>?_);have ah:c.k=0\/c.k=1->∀e:J,O F0 w e [.g N,.g B,.g G] [.tree x,.tree m,.tree v,dS q m,dS z v]->Ay.a1 (ab q) B 0 0 0 ⟨none,0,0⟩ e λr e=>gy (x.fp++(m.fp++v.fp)) w (l8 x.lo x.hi (I.ao (c::E))) r e/\ag w e:=λy e j=>
   ⟨_,_,_,m.s,j.dU 3 0,j.dU 3 1,j.dU 3 2,j.dU 3 3,j.ae λh d=>⟨⟨m,rfl,by
    rw[em,C];show _=if c.rx.k=0\/c.rx.k=1 then _ else _;rw[l4,af y],d.getD 1,λb D=>.inr (by grind)⟩,d.fr⟩⟩
  have ac:¬(c.k=0\/c.k=1)->(c.k=7\/bn c.rx eL=0)->∀e:J,O F0 w e [.g N,.g B,.g G] [.tree x,.tree m,.tree v,dS q m,dS z v]->Ay.bh B 0 0 0 ⟨none,0,0⟩ G c.k c.lo.toNat c.hi.toNat c.s e λr e=>gy (x.fp++(m.fp++v.fp)) w (l8 x.lo x.hi (I.ao (c::E))) r e/\ag w e:=λhn y e j=>
   j.ae λh d=>⟨⟨c,rfl,by
    rw[C];show _=if c.rx.k=0\/c.rx.k=1 then _ else if c.rx.k=7\/bn c.rx eL=0 then _ else _;rw[l4,aa hn,af y],(show x.P h from d.getD 0).parts.2.mem F,λb D=>.inr (by grind)⟩,d.fr⟩
  refine aw (λQ=>A.ae λh d=>ah (.inl Q) h d) (λQ=>aw (λS=>A.ae λh d=>ah (.inr S) h d) (λS=>aw (λT=>A.ae λh d=>ac io (.inl T) h d) (λT=>A.ae λh d=>⟨_,_,_,v.s,d.dU 4 0,d.dU 4 1,d.dU 4 2,d.dU 4 3,?_⟩)));refine d.av (vV c v h sc ((show x.P h from d.getD 0).parts.2.mem F) (d.getD 2)) ?_;rintro _ w5 rfl L;rw[ev];refine⟨_,rfl,aw (λy=>ac io (.inr y) w5 L) (λy=>L.ae λw6 M=>⟨⟨x,rfl,?_,M.getD 0,λb D=>.inr (by grind)⟩,M.fr⟩)⟩;rw[C];show x.rx=if c.rx.k=0\/c.rx.k=1 then _ else if c.rx.k=7\/bn c.rx eL=0 then _ else _;rw[l4,aa io,aa io,I.fi,Z,hl,C]
structure Fm where
 m:Nat
 es:Array MapEntry
 clock:Nat
 ms:List (Int×V)
 cs:List (Nat×I)
 s:Sl
def ck:I:=.mk 0 0 0 ⟨none,0,0⟩ []
def fI:I:=.mk 1 0 0 ⟨none,0,0⟩ []
def Fm.ev(F:Fm):I:=.mk 6 0 0 F.s [ck]
def _root_.Go.W.En.fm(F:Fm):En:=.all (.ob F.m (.map F.es F.clock)::.tree F.ev::F.cs.map λp=>dS p.1 p.2)
def ui(a b:Nat):V:=.func (.func zQ) #[] #[.pointer (some (ab a)),.pointer (some (ab b))]
def jb:V:=.func (.func w7) #[] #[]
def s4(cs:List (Nat×I))(e:I)(k:Int)(v:V):Prop:=
 ((k=0\/k=1\/k=2)/\v=jb)\/(∃u d a b,((k=3/\u=fI/\d=ck)\/(k=4/\u=ck/\d=e)\/(k=5/\u=e/\d=ck))/\v=ui a b/\(a,u)∈cs/\(b,d)∈cs)\/
 (k=6/\v=.func (.func ux) #[] #[])\/∃a b,k=7/\v=.func (.func uy) #[] #[.pointer (some (ab a)),.pointer (some (ab b))]/\(a,fI)∈cs/\(b,e)∈cs
structure Fm.Ok(F:Fm):Prop where
 ms:s8 .i64 F.es F.ms
 all:∀k:Int,0<=k->k<8->∃v,lU F.ms k=some v/\s4 F.cs F.ev k v
section
variable {F:Fm} {w:J}
def WI(d:(En.fm F).P w):w.heap[F.m]? =some (.map F.es F.clock):=d (.ob F.m (.map F.es F.clock)) gs
def DF(d:(En.fm F).P w):F.ev.P w:=d (.tree F.ev) gs
def y9(d:(En.fm F).P w){a:Nat}{u:I}(e:(a,u)∈F.cs):w.heap[a]? =some (.cells u.c.toArray aV (0,0)):=d (dS a u) (cJ _ (cJ _ (dN.2 ⟨(a,u),e,rfl⟩)))
def DG{b:Nat}(d:b∈F.ev.fp):b∈(En.fm F).fp:=a7.2 (cl.2 ⟨.tree F.ev,gs,a7.2 d⟩)
def lf(w:J):ck.P w:=OY w
def yY(w:J):fI.P w:=by unfold fI I.P I.Ps;exact⟨bo.nil 4 w,trivial⟩
def lg{b:Nat}(d:b∈ck.fp):False:=OX d
def yZ{b:Nat}(d:b∈fI.fp):False:=by unfold fI I.fp I.bd at d;simp[En.a2]at d
def gy.sub{d e:List Nat}{x:Rx}{r:cR}{w':J}(h:gy d w x r w')(A:∀b∈d,b∈e):gy e w x r w':=by obtain⟨t,j,k,q,y⟩:=h;exact⟨t,j,k,q,λb z=>(y b z).imp id (A b)⟩
def Mf:BS U kO bA nK .i64 .nilFunc:=⟨by kernel_rfl,by kernel_rfl,by kernel_rfl⟩
end
def Yv{P:au}{T kt x:aE}{kd:IntKind}{z:V}(e:BS P T kt x kd z){w:J}{h:Nat}{es:Array MapEntry}{clock:Nat}{ms:List (Int×V)}(B:w.heap[h]? =some (.map es clock))(C:s8 kd es ms)(k:Int):(Instr.lookup T (.map (some h)) (.int kd k) false).run P w=.ok ((lU ms k).getD z) w:=by
 have y:=DB (k:=k) (i:=0) C;have A:(getObj h).run P w=.ok (.map es clock) w:=by simp[getObj,Sem.run,B]
 have d:=Mc (ms:=ms) (k:=k) (i:=0);unfold Instr.lookup Instr.findKey;simp only[Sem.run_bind,run_underlying e.hT,Result.andThen_ok,A,Sem.run_pure,I' e.hk,run_underlying e.hk,y];cases j:((ms.findIdx? λp=>p.1==k).bind λq=>(ms[q]?).map λp=>(0+q,p.2))with
 |none=>rw[j]at d;simp[<-d,BB e.hz]
 |some D=>rw[j]at d;simp[<-d]
def US{N:Nat}(Y:mn N)(W:N<=1000000){F:Fm}(L:F.Ok){w:J}(Q:(En.fm F).P w)(k:Int)(S:0<=k)(T:k<8):
  ∃f:Fv,(Instr.lookup kO (.map (some F.m)) (.i k) false).run U w=.ok f.v w/\hg U f.n=true/\∀(x:I) (w':J),(En.fm F).P w'->x.P w'->x.k=k->(x.k=4\/x.k=5->uM x.k (I.ao x.l)<=N)->x.sz<=1000000->k6 x.rx=true->
   aj U f.n (f.bs++#[x.v]++f.cs) w' λr M=>gy (x.fp++(En.fm F).fp) w' (h8 x.rx) r M/\ag w' M:=by
 have mo:=Mf;obtain⟨v,hv,Z⟩:=L.all k S T;have y:=Yv mo (WI Q) L.ms k;rw[hv,Option.getD_some]at y;have E:∀x:I,h8 x.rx=if x.k=3 then gZ 3 (I.ao x.l) nZ fK else if x.k=4 then gZ 4 (I.ao x.l) fK eL else if x.k=5 then gZ 5 (I.ao x.l) eL fK else if x.k=6 then qq x.lo x.hi (I.ao x.l)else if x.k=7 then l8 x.lo x.hi (I.ao x.l)else x.rx:=λx=>by rw[I.fi];rfl
 rcases Z with⟨q,rfl⟩|⟨u,K,a,b,q,rfl,G,C⟩|⟨rfl,rfl⟩|⟨a,b,rfl,rfl,G,C⟩
 .refine ⟨⟨w7,#[],#[]⟩,y,by kernel_rfl,λx w' h j e D A B=>((U0 x w' j).mono ?_)⟩;rintro _ H ⟨rfl,f⟩;refine⟨⟨x,rfl,?_,j.cC f,λb C=>.inr (by grind)⟩,f⟩
  grind
 .refine ⟨⟨zQ,#[],#[.pointer (some (ab a)),.pointer (some (ab b))]⟩,y,by kernel_rfl,λx w' h j e D A B=>?_⟩;have pu:u.P w':=by
   rcases q with⟨_,rfl,_⟩|⟨_,rfl,_⟩|⟨_,rfl,_⟩
   .exact yY w'
   .exact lf w'
   .exact DF h
  have pz:K.P w':=by
   rcases q with⟨_,_,rfl⟩|⟨_,_,rfl⟩|⟨_,_,rfl⟩
   .exact lf w'
   .exact DF h
   .exact lf w'
  refine(U5 Y W x u K a b w' (λh3=>D io) A j pu pz (y9 h G) (y9 h C)).mono ?_;rintro r H ⟨z,f⟩;refine⟨?_,f⟩;have O:h8 x.rx=gZ x.k (I.ao x.l) u.rx K.rx:=by
   rw[E];rcases q with⟨rfl,rfl,rfl⟩|⟨rfl,rfl,rfl⟩|⟨rfl,rfl,rfl⟩
   .rw [af e,e];rfl
   .rw [aa io,af e,e];rfl
   .rw [aa io,aa io,af e,e];rfl
  rw[O];refine z.sub λc d=>?_;rcases aK.1 d with d|d
  .grind
  .rcases aK.1 d with d|d
   .rcases q with⟨_,rfl,_⟩|⟨_,rfl,_⟩|⟨_,rfl,_⟩
    .exact (yZ d).elim
    .exact (lg d).elim
    .exact cK _ (DG d)
   .rcases q with⟨_,_,rfl⟩|⟨_,_,rfl⟩|⟨_,_,rfl⟩
    .exact (lg d).elim
    .exact cK _ (DG d)
    .exact (lg d).elim
 .refine ⟨⟨ux,#[],#[]⟩,y,by kernel_rfl,λx w' h j e D A B=>((Va x w' j e B).mono ?_)⟩;rintro r H ⟨z,f⟩;refine⟨?_,f⟩;rw[E,aa io,aa io,aa io,af e];exact z.sub λc d=>by grind
 .refine ⟨⟨uy,#[],#[.pointer (some (ab a)),.pointer (some (ab b))]⟩,y,by kernel_rfl,λx w' h j e D A B=>((Vl x fI F.ev a b w' A j (yY w') (DF h) (y9 h G) (y9 h C) rfl rfl e B).mono ?_)⟩;rintro r H ⟨z,f⟩;refine⟨?_,f⟩;rw[E,aa io,aa io,aa io,aa io,af e];refine z.sub λc d=>?_;rcases aK.1 d with d|d
  .grind
  .rcases aK.1 d with d|d
   .exact (yZ d).elim
   .exact cK _ (DG d)
namespace QB
noncomputable def C0:Code:=(Tryz.f178.body).getD .skip
noncomputable def C1:=C0.sn
noncomputable def C2:=C1.sn
noncomputable def C3:=C2.sn
noncomputable def C4:=C3.sn
noncomputable def C5:=C4.sn
noncomputable def C6:=C5.sn
def ok(w:J)(R:aB)(z:c9 w (.cells #[.i 0,.int .u8 0,.int .u8 0,.slice none 0 0] aV) λe=>
 c9 e (.cells #[.i 0,.int .u8 0,.int .u8 0,.slice none 0 0] aV) λD=>
 nG D (nb w) (.i 0) (.int .u8 0) (.int .u8 0) (.slice none 0 0) λF=>aM F (nb e) (.i 1) λG=>
 aM G ((nb e).add 1) (.int .u8 0) λH=>
 aM H ((nb e).add 2) (.int .u8 0) λI=>
 aM I ((nb e).add 3) (.slice none 0 0) λh=>
 jx h (nb w) λk q x y=>c9 h (.cells #[.i k,.int .u8 q,.int .u8 x,y.v] aV) λj=>
 c9 j (.cells #[.i 0,.int .u8 0,.int .u8 0,.slice none 0 0] aV) λB=>
 nG B (nb j) (.i 6) (.int .u8 0) (.int .u8 0) (.slice (some (nb h)) 1 1) λC=>xI U C5 (λE w=>lq U Tryz.f178 E w (λv=>R (ad v) w)) [(5,.func (.func zP) #[] #[]),(4,.func (.func w7) #[] #[]),(3,.pointer (some (nb j))),(10,.agg #[.i 6,.int .u8 0,.int .u8 0,.slice (some (nb h)) 1 1]),(9,.slice (some (nb h)) 1 1),(8,.agg #[.i k,.int .u8 q,.int .u8 x,y.v]),(2,.pointer (some (nb e))),(1,.pointer (some (nb w))),(7,.agg #[.i 1,.int .u8 0,.int .u8 0,.slice none 0 0]),(6,.agg #[.i 0,.int .u8 0,.int .u8 0,.slice none 0 0]),(0,.map none)] C):aj U NR #[] w R:=
 vY (R:=R) (fn:=Tryz.f178) (c:=C0) (args:=[]) (by kernel_rfl) (by kernel_rfl) (by kernel_rfl) (sr C0 (show(λ(E:Env) (w:J)=>eP U C0 (λE w=>eP U C1 (λE w=>eP U C2 (λE w=>eP U C3 (λE w=>eP U C4 (λE w=>xI U C5 (λE w=>lq U Tryz.f178 E w (λv=>R (ad v) w)) E w) E w) E w) E w) E w) E w) (kp 0 []) w from mp z) λ_ _ d=>(sr C1 d λ_ _ d=>(sr C2 d λ_ _ d=>(sr C3 d λ_ _ d=>(sr C4 d λ_ _ d=>(si C5 (by kernel_rfl) d λ_ _ d=>(rt C6 λa A=>xy A d)))))))
end QB
def TC{M:Nat->Prop}{w0 w:J}{L j D:List En}(H:O M w0 w L D)(h:L.Perm j):O M w0 w j D:=
 ⟨H.fr,λd e=>H.own d (h.mem_iff.2 e),H.rd,λd e=>H.new d (h.mem_iff.2 e),(h.flatMap_right (·.fp)).nodup_iff.1 H.nd,λd e b q k x=>H.dj d e b q k (h.mem_iff.2 x)⟩
def hQ{L:Nat->Bool}{i j:Nat}(d:j≠i):dW L i j=L j:=by
 have:bH j i=false:=by rw[<-ij,eA];exact d
 grind
def RA{L:Nat->Bool}{i:Nat}:dW L i i=true:=by simp[dW]
def aaJ{P:au}{fn:Func}{E:Env}{w:J}{K:V->Prop}{t:Nat}{v:V}(e:fn.results.toList=[.tmp t])(h:E.get? t=some v)(d:K v):lq P fn E w K:=by unfold lq;rw[e];unfold se;rw[h];exact d
def y8:List (Op×Option Nat×aE×List Nat):=[
 (.makeMap kO none,some 11,kO,[]),
 (.move (.tmp 4),some 12,nK,[]),
 (.insert kO (.tmp 11) (.const (.int .i64 0)) (.tmp 12),none,nJ,[0,1]),
 (.move (.tmp 4),some 13,nK,[]),
 (.insert kO (.tmp 11) (.const (.int .i64 1)) (.tmp 13),none,nJ,[0,3]),
 (.move (.tmp 4),some 14,nK,[]),
 (.insert kO (.tmp 11) (.const (.int .i64 2)) (.tmp 14),none,nJ,[0,5]),
 (.move (.tmp 5),some 15,Ha,[]),
 (.load aV (.tmp 2),some 16,aV,[]),
 (.load aV (.tmp 1),some 17,aV,[]),
 (.call ⟨.value (.tmp 15),#[.tmp 16,.tmp 17],#[aV,aV]⟩,some 18,nK,[7,8,9]),
 (.insert kO (.tmp 11) (.const (.int .i64 3)) (.tmp 18),none,nJ,[0,10]),
 (.move (.tmp 5),some 19,Ha,[]),
 (.load aV (.tmp 1),some 20,aV,[]),
 (.load aV (.tmp 3),some 21,aV,[]),
 (.call ⟨.value (.tmp 19),#[.tmp 20,.tmp 21],#[aV,aV]⟩,some 22,nK,[12,13,14,10]),
 (.insert kO (.tmp 11) (.const (.int .i64 4)) (.tmp 22),none,nJ,[0,15]),
 (.move (.tmp 5),some 23,Ha,[]),
 (.load aV (.tmp 3),some 24,aV,[]),
 (.load aV (.tmp 1),some 25,aV,[]),
 (.call ⟨.value (.tmp 23),#[.tmp 24,.tmp 25],#[aV,aV]⟩,some 26,nK,[17,18,19,15]),
 (.insert kO (.tmp 11) (.const (.int .i64 5)) (.tmp 26),none,nJ,[0,20]),
 (.insert kO (.tmp 11) (.const (.int .i64 6)) (.func ux),none,nJ,[0]),
 (.makeFunc (.func uy) #[] #[.tmp 2,.tmp 3],some 27,nK,[]),
 (.insert kO (.tmp 11) (.const (.int .i64 7)) (.tmp 27),none,nJ,[0,23]),
 (.move (.tmp 11),some 28,kO,[0,1,2,3,4,5,6,7,8,9,10,11,12,13,14,15,16,17,18,19,20,21,22,23,24]),
 (.assign (.tmp 28),some 0,kO,[25,20,0,1,2,3,4,5,6,7,8,9,10,11,12,13,14,15,16,17,18,19,20,21,22,23,24,25])]
abbrev ptr(b:Nat):V:=.pointer (some (ab b))
abbrev lB:V:=.func (.func zP) #[] #[]
abbrev A5(a b:Nat):V:=.func (.func uy) #[] #[ptr a,ptr b]
abbrev fw(s:Sl):I:=.mk 6 0 0 s [ck]
def b7(j d e:Nat)(h:I):List (Nat×Nat×V):=[(0,1,ptr j),(0,2,ptr d),(0,3,ptr e),(0,4,jb),(0,5,lB),(2,12,jb),(4,13,jb),(6,14,jb),(8,15,lB),(9,16,fI.v),(10,17,ck.v),(13,19,lB),(14,20,ck.v),(15,21,h.v),(18,23,lB),(19,24,h.v),(20,25,ck.v),(24,27,A5 d e)]
def eF:List (Nat×Int):=[(2,0),(4,1),(6,2),(11,3),(16,4),(21,5),(22,6),(24,7)]
def ib(d:I):List (Nat×Nat×I×I):=[(10,18,fI,ck),(15,22,ck,d),(20,26,d,ck)]
def Joined(e:I)(cs:List (Nat×I))(L:Nat->Bool)(E:Env):Prop:=∀d∈ib e,L d.1=true->∃a b,E.get? d.2.1=some (ui a b)/\(a,d.2.2.1)∈cs/\(b,d.2.2.2)∈cs
def yo(h:I)(cs:List (Nat×I))(L:Nat->Bool)(E:Env)(mp:List En):Prop:=(L 0=false/\mp=[]/\(∀d∈eF,L d.1=false)/\L 25=false/\L 26=false)\/
 (L 0=true/\∃(m:Nat) (es:Array MapEntry) (clock:Nat) (ms:List (Int×V)),mp=[.ob m (.map es clock)]/\E.get? 11=some (.map (some m))/\s8 .i64 es ms/\(∀e v,lU ms e=some v->s4 cs h e v)/\(∀d∈eF,(lU ms d.2).isSome=L d.1)/\
  (L 25=true->E.get? 28=some (.map (some m)))/\(L 26=true->E.get? 0=some (.map (some m))))
abbrev qh(d e h:Nat)(s:Sl):List En:=[dS d ck,dS e fI,.row aV 4 s ck.c,dS h (fw s)]
structure FJ(w0:J)(b1 b2 b4:Nat)(s:Sl)(L:Nat->Bool)(E:Env)(w:J):Prop where
 st:oK (b7 b1 b2 b4 (fw s)) L E
 hp:∃(mp X:List En) (cs:List (Nat×I)),O F0 w0 w (mp++(qh b1 b2 b4 s++X)) []/\(∀p∈cs,dS p.1 p.2∈qh b1 b2 b4 s++X)/\(b2,fI)∈cs/\(b4,fw s)∈cs/\Joined (fw s) cs L E/\yo (fw s) cs L E mp
def s4.mono{cs x:List (Nat×I)}{y:I}{k:Int}{v:V}(d:s4 cs y k v)(e:∀p∈cs,p∈x):s4 x y k v:=by
 rcases d with d|⟨u,z,a,b,h,j,q,w⟩|d|⟨a,b,h,j,q,w⟩
 .exact .inl d
 .exact .inr (.inl ⟨u,z,a,b,h,j,e _ q,e _ w⟩)
 .exact .inr (.inr (.inl d))
 .exact .inr (.inr (.inr ⟨a,b,h,j,e _ q,e _ w⟩))
def Md(ms:List (Int×V))(k d:Int)(v:V):lU (ms++[(k,v)]) d=(lU ms d).or (if k=d then some v else none):=by
 unfold lU
 grind
section
variable {w0 w:J} {b1 b2 b4:Nat} {s:Sl} {L:Nat->Bool} {E:Env}
def yo.cD{w:I}{cs q:List (Nat×I)}{mp:List En}(e:yo w cs L E mp)(G:∀p∈cs,p∈q)(i d:Nat)(v:V)(hi:∀H∈[0,25,26,2,4,6,11,16,21,22,24],H≠i)(hd:∀t∈[11,28,0],d≠t):yo w q (dW L i) (E.put (some d) v) mp:=by
 have P:∀h∈eF,dW L i h.1=L h.1:=λh j=>hQ (hi _ (by simp only[eF,aF,a5,a9]at j;rcases j with rfl|rfl|rfl|rfl|rfl|rfl|rfl|rfl<;>simp));have Q:dW L i 0=L 0:=hQ (hi 0 gs);have M:dW L i 25=L 25:=hQ (hi 25 gs);have N:dW L i 26=L 26:=hQ (hi 26 gs);rcases e with⟨B,k,x,y,z⟩|⟨B,m,A,clock,ms,k,x,y,z,O,C,D⟩
 .exact .inl ⟨by grind,k,λh j=>by grind,by grind,by grind⟩
 .refine .inr ⟨by grind,m,A,clock,ms,k,?_,y,λK v F=>(z K v F).mono G,λh j=>by grind,λe=>?_,λe=>?_⟩
  .rw [jw (hd 11 gs),x]
  .rw [jw (hd 28 gs),C (M▸e)]
  .rw [jw (hd 0 gs),D (N▸e)]
def FJ.stat(h:FJ w0 b1 b2 b4 s L E w)(i d:Nat)(v:V)(B:∀e∈b7 b1 b2 b4 (fw s),e.1=i+1->e=(i+1,d,v))(C:∀e∈b7 b1 b2 b4 (fw s),e.2.1=d->e.1=i+1)(hi:∀x∈[0,25,26,2,4,6,11,16,21,22,24],x≠i)(k:∀x∈[10,15,20],x≠i)(hd:∀t∈[11,28,0],d≠t)(j:∀t∈[18,22,26],d≠t):FJ w0 b1 b2 b4 s (dW L i) (E.put (some d) v) w:=by
 obtain⟨mp,X,A,z,F,H,K,G,I⟩:=h.hp;refine⟨h.st.fill B C,mp,X,A,z,F,H,K,λe q D=>?_,I.cD (λ_ h=>h) i d v hi hd⟩;have y:dW L i e.1=L e.1/\d≠e.2.1:=by
  simp only[ib,aF,a5,a9]at q;rcases q with rfl|rfl|rfl
  .exact ⟨hQ (k 10 gs),j 18 gs⟩
  .exact ⟨hQ (k 15 gs),j 22 gs⟩
  .exact ⟨hQ (k 20 gs),j 26 gs⟩
 rw[jw y.2];exact G e q (y.1▸D)
def FJ.ins(q:FJ w0 b1 b2 b4 s L E w)(i:Nat)(k:Int)(v:V)(h:(i,k)∈eF)(h0:L 0=true)(hi:L i=false)(hv:∀j,(b2,fI)∈j->(b4,fw s)∈j->Joined (fw s) j L E->s4 j (fw s) k v):
  ∃m,E.get? 11=some (.map (some m))/\∃y,(Instr.mapUpdate kO (.map (some m)) (.i k) v).run U w=.ok () y/\FJ w0 b1 b2 b4 s (dW L i) (E.put none undef) y:=by
 obtain⟨mp,X,j,B,N,S,O,P,T⟩:=q.hp;rcases T with⟨ab,_⟩|⟨_,m,es,clock,ms,rfl,C,G,h4,D,H,I⟩
 .grind
 have F:lU ms k=none:=by have:=D _ h;rw[hi]at this;simpa using this
 obtain⟨y,A,W,Y,Z,r4,r5⟩:=YK Mf (B.ob (b:=m) 0 rfl) G k v F;refine⟨m,C,y,W,q.st.pass ?_ (λ_ _=>gs),[.ob m (.map A (clock+1))],X,j,B.gb 0 (.ob m (.map A (clock+1))) rfl (r4.mono λac _ z=>by simp[En.ob,z]) Y (λb M=>.inl M),N,S,O,λe d K=>?_,.inr ⟨?_,m,A,clock+1,ms++[(k,v)],rfl,C,Z,λk' v' Q=>?_,λe d=>?_,λq=>?_,λq=>?_⟩⟩
 .intro e d;simp only[eF,aF,a5,a9,fk]at h;simp only[b7,aF,a5,a9]at d
  (repeat' rcases d with rfl|d)<;>(try subst d)<;>simp only<;>omega
 .have z:dW L i e.1=L e.1:=hQ (by
   simp only[eF,aF,a5,a9,fk]at h;simp only[ib,aF,a5,a9]at d
   grind)
  exact P e d (z▸K)
 .grind
 .rw [Md]at Q
  grind
 .rw [Md];by_cases x:e.1=i
  .have:e.2=k:=by simp only[eF,aF,a5,a9,fk]at h;simp only[eF,aF,a5,a9]at d;rcases d with rfl|rfl|rfl|rfl|rfl|rfl|rfl|rfl<;>simp only at x ⊢<;>omega
   rw[x,RA,this,F,af rfl];rfl
  .have:k≠e.2:=by simp only[eF,aF,a5,a9,fk]at h;simp only[eF,aF,a5,a9]at d;rcases d with rfl|rfl|rfl|rfl|rfl|rfl|rfl|rfl<;>simp only at x ⊢<;>omega
   rw[hQ x,aa this,<-D e d];simp
 .exact H (by rwa[hQ (by simp only[eF,aF,a5,a9,fk]at h;omega)]at q)
 .exact I (by rwa[hQ (by simp only[eF,aF,a5,a9,fk]at h;omega)]at q)
def FJ.call(x:FJ w0 b1 b2 b4 s L E w)(i d:Nat)(u z:I)(y:(i,d,u,z)∈ib (fw s)):aj U zP #[u.v,z.v] w λk P=>∃v,k=ad v/\FJ w0 b1 b2 b4 s (dW L i) (E.put (some d) v) P:=by
 obtain⟨mp,X,D,A,T,Z,W,H,M⟩:=x.hp;have Y:(i=10/\d=18)\/(i=15/\d=22)\/(i=20/\d=26):=by simp only[ib,aF,a5,a9,fk]at y;omega
 refine QD.ok (A.nw λj ab B=>B.nw λw2 ac C=>⟨ui w.heap.size j.heap.size,rfl,x.st.pass ?_ ?_,mp,X++[dS w.heap.size u,dS j.heap.size z],(w.heap.size,u)::(j.heap.size,z)::D,?_,?_,by grind,by grind,λh e G=>?_,M.cD (λp aa=>by grind) i d _ ?_ ?_⟩)
 .intro h e;simp only[b7,aF,a5,a9]at e
  (repeat' rcases e with rfl|e)<;>(try subst e)<;>simp only<;>omega
 .intro h e q;have q:d=h.2.1:=dZ q;simp only[b7,aF,a5,a9]at e
  (repeat' rcases e with rfl|e)<;>(try subst e)<;>simp only at q<;>omega
 .have k:mp++(qh b1 b2 b4 s++(X++[dS w.heap.size u,dS j.heap.size z]))=mp++(qh b1 b2 b4 s++X)++[dS w.heap.size u]++[dS j.heap.size z]:=gs
  rw[k];exact C
 .grind
 .by_cases O:h.1=i
  .have:h=(i,d,u,z):=by
    simp only[ib,aF,a5,a9,fk]at y;simp only[ib,aF,a5,a9]at e
    grind
   subst this;exact⟨_,_,ub,gs,gs⟩
  .have N:d≠h.2.1:=by
    simp only[ib,aF,a5,a9]at e
    grind
   obtain⟨a,b,F,Q,S⟩:=H h e (by rwa[hQ O]at G);exact⟨a,b,by rw[jw N,F],by grind,by grind⟩
 .intro ae K;simp only[aF,a5,a9]at K;omega
 grind
def FJ.YN(h:FJ w0 b1 b2 b4 s L E w)(K:L 0=false):FJ w0 b1 b2 b4 s (dW L 0) (E.put (some 11) (.map (some w.heap.size))) (w.alloc (.map #[] 0)):=by
 obtain⟨mp,X,x,q,C,H,D,F,I⟩:=h.hp;rcases I with⟨_,rfl,y,z,A⟩|⟨M,_⟩
 .refine ⟨h.st.pass ?_ ?_,[.ob w.heap.size (.map #[] 0)],X,x,TC (q.alloc (.map #[] 0)) ?_,C,H,D,λe d B=>?_,.inr ⟨RA,w.heap.size,#[],0,[],rfl,ub,rfl,λN v G=>by simp[lU]at G,λe d=>?_,λh=>?_,λh=>?_⟩⟩
  .intro e d;simp only[b7,aF,a5,a9]at d
   (repeat' rcases d with rfl|d)<;>(try subst d)<;>simp
  .intro e d j;have j:11=e.2.1:=dZ j;simp only[b7,aF,a5,a9]at d
   (repeat' rcases d with rfl|d)<;>(try subst d)<;>simp at j
  .exact List.perm_append_comm
  .have k:dW L 0 e.1=L e.1/\11≠e.2.1:=by simp only[ib,aF,a5,a9]at d;rcases d with rfl|rfl|rfl<;>exact⟨hQ gs,gs⟩
   rw[jw k.2];exact F e d (k.1▸B)
  .rw [hQ (by
    simp only[eF,aF,a5,a9]at d
    grind),y e d]
   simp[lU]
  .rw [hQ dl,z]at h;cases h
  .rw [hQ dl,A]at h;cases h
 grind
def FJ.YC(h:FJ w0 b1 b2 b4 s L E w)(N:L 0=true):∃m,E.get? 11=some (.map (some m))/\FJ w0 b1 b2 b4 s (dW L 25) (E.put (some 28) (.map (some m))) w:=by
 obtain⟨mp,X,z,y,G,K,H,I,M⟩:=h.hp;rcases M with⟨O,_⟩|⟨_,m,q,clock,ms,rfl,x,A,B,C,P,D⟩
 .grind
 refine⟨m,x,h.st.pass ?_ ?_,[.ob m (.map q clock)],X,z,y,G,K,H,λe d F=>?_,.inr ⟨by grind,m,q,clock,ms,rfl,by rw[jw dl,x],A,B,λe d=>?_,λ_=>ub,λh=>?_⟩⟩
 .intro e d;simp only[b7,aF,a5,a9]at d
  (repeat' rcases d with rfl|d)<;>(try subst d)<;>simp
 .intro e d j;have j:28=e.2.1:=dZ j;simp only[b7,aF,a5,a9]at d
  (repeat' rcases d with rfl|d)<;>(try subst d)<;>simp at j
 .have k:dW L 25 e.1=L e.1/\28≠e.2.1:=by simp only[ib,aF,a5,a9]at d;rcases d with rfl|rfl|rfl<;>exact⟨hQ gs,gs⟩
  rw[jw k.2];exact I e d (k.1▸F)
 .rw [hQ (by
   simp only[eF,aF,a5,a9]at d
   grind),C e d]
 .rw [jw dl];exact D (by rwa[hQ dl]at h)
def FJ.YD(h:FJ w0 b1 b2 b4 s L E w)(O:L 0=true)(A:L 25=true):∃m,E.get? 28=some (.map (some m))/\FJ w0 b1 b2 b4 s (dW L 26) (E.put (some 0) (.map (some m))) w:=by
 obtain⟨mp,X,y,x,H,M,I,K,N⟩:=h.hp;rcases N with⟨P,_⟩|⟨_,m,q,clock,ms,rfl,z,B,C,D,F,Q⟩
 .grind
 refine⟨m,F A,h.st.pass ?_ ?_,[.ob m (.map q clock)],X,y,x,H,M,I,λe d G=>?_,.inr ⟨by grind,m,q,clock,ms,rfl,by rw[jw dl,z],B,C,λe d=>?_,λh=>?_,λ_=>ub⟩⟩
 .intro e d;simp only[b7,aF,a5,a9]at d
  (repeat' rcases d with rfl|d)<;>(try subst d)<;>simp
 .intro e d j;have j:0=e.2.1:=dZ j;simp only[b7,aF,a5,a9]at d
  (repeat' rcases d with rfl|d)<;>(try subst d)<;>simp at j
 .have k:dW L 26 e.1=L e.1/\0≠e.2.1:=by simp only[ib,aF,a5,a9]at d;rcases d with rfl|rfl|rfl<;>exact⟨hQ gs,gs⟩
  rw[jw k.2];exact K e d (k.1▸G)
 .rw [hQ (by
   simp only[eF,aF,a5,a9]at d
   grind),D e d]
 .rw [jw dl]
  grind
def FJ.ld(y:FJ w0 b1 b2 b4 s L E w){u:I}{b:Nat}(z:dS b u∈qh b1 b2 b4 s){K:V->Prop}(H:K u.v):n9 U aV (ab b) w λv _=>K v:=by
 obtain⟨mp,X,F,x,_⟩:=y.hp;have d:w.heap[b]? =some (.cells u.c.toArray aV (0,0)):=x.own (dS b u) (cK _ (bV _ z));have A:=cellAt (p:=ab b) (i:=0) (v:=.int .i64 u.k) d rfl rfl;have B:=cellAt (p:=ab b) (i:=1) (v:=.int .u8 (u.lo.toNat:Int)) d rfl rfl;have C:=cellAt (p:=ab b) (i:=2) (v:=.int .u8 (u.hi.toNat:Int)) d rfl rfl;have D:=cellAt (p:=ab b) (i:=3) (v:=u.s.v) d rfl rfl;have G:(n9 U aV (ab b) w λv _=>K v)=(∃e:Int,∃h:Int,∃j:Int,∃q:Sl,w.cell? ((ab b).add 0)=some (.int .i64 e)/\w.cell? ((ab b).add 1)=some (.int .u8 h)/\w.cell? ((ab b).add 2)=some (.int .u8 j)/\w.cell? ((ab b).add 3)=some q.v/\K (.agg #[.int .i64 e,.int .u8 h,.int .u8 j,q.v])):=by kernel_rfl
 grind
end
def WJ(w:J)(G F C:Nat)(s:Sl):allI (yt U (FJ w G F C s)) y8 0:=
 ⟨λy x z o j k A q h e=>abX j (by rw[k];exact e.YN q),
  λy x z o j k A q h e=>pC (.inl j) (e.st.get (i:=0) (d:=4) (v:=jb) (by simp[b7]) rfl) (by rw[k];exact e.stat 1 12 (jb) (by simp[b7]) (by simp[b7]) gs gs gs gs),
  λy x z o j k A q h e=>by obtain⟨m,D,B,E,H⟩:=e.ins 2 0 (jb) (by simp[eF]) (h 0 gs) q (λI M O L=>.inl ⟨.inl rfl,rfl⟩);exact qE j D rfl (e.st.get (i:=2) (d:=12) (v:=jb) (by simp[b7]) (h 1 gs)) ⟨B,E,by grind⟩,
  λy x z o j k A q h e=>pC (.inl j) (e.st.get (i:=0) (d:=4) (v:=jb) (by simp[b7]) rfl) (by rw[k];exact e.stat 3 13 (jb) (by simp[b7]) (by simp[b7]) gs gs gs gs),
  λy x z o j k A q h e=>by obtain⟨m,D,B,E,H⟩:=e.ins 4 1 (jb) (by simp[eF]) (h 0 gs) q (λI M O L=>.inl ⟨.inr (.inl rfl),rfl⟩);exact qE j D rfl (e.st.get (i:=4) (d:=13) (v:=jb) (by simp[b7]) (h 3 gs)) ⟨B,E,by grind⟩,
  λy x z o j k A q h e=>pC (.inl j) (e.st.get (i:=0) (d:=4) (v:=jb) (by simp[b7]) rfl) (by rw[k];exact e.stat 5 14 (jb) (by simp[b7]) (by simp[b7]) gs gs gs gs),
  λy x z o j k A q h e=>by obtain⟨m,D,B,E,H⟩:=e.ins 6 2 (jb) (by simp[eF]) (h 0 gs) q (λI M O L=>.inl ⟨.inr (.inr rfl),rfl⟩);exact qE j D rfl (e.st.get (i:=6) (d:=14) (v:=jb) (by simp[b7]) (h 5 gs)) ⟨B,E,by grind⟩,
  λy x z o j k A q h e=>pC (.inl j) (e.st.get (i:=0) (d:=5) (v:=lB) (by simp[b7]) rfl) (by rw[k];exact e.stat 7 15 (lB) (by simp[b7]) (by simp[b7]) gs gs gs gs),
  λy x z o j k A q h e=>sB j (e.st.get (i:=0) (d:=2) (v:=ptr F) (by simp[b7]) rfl) (e.ld (u:=fI) (b:=F) (aA (i:=1) rfl) (K:=λv=>FJ w G F C s (dW y 8) (x.put o.dst v) z) (by rw[k];exact e.stat 8 16 ((fI).v) (by simp[b7]) (by simp[b7]) gs gs gs gs)),
  λy x z o j k A q h e=>sB j (e.st.get (i:=0) (d:=1) (v:=ptr G) (by simp[b7]) rfl) (e.ld (u:=ck) (b:=G) (aA (i:=0) rfl) (K:=λv=>FJ w G F C s (dW y 9) (x.put o.dst v) z) (by rw[k];exact e.stat 9 17 ((ck).v) (by simp[b7]) (by simp[b7]) gs gs gs gs)),
  λy x z o j k A q h e=>by refine GL j (e.st.get (i:=8) (d:=15) (v:=lB) (by simp[b7]) (h 7 gs)) (e.st.get (i:=9) (d:=16) (v:=(fI).v) (by simp[b7]) (h 8 gs)) (e.st.get (i:=10) (d:=17) (v:=(ck).v) (by simp[b7]) (h 9 gs)) (by kernel_rfl) ((e.call 10 18 (fI) (ck) (by simp[ib])).mono ?_);rintro ac B ⟨v,Y,H⟩;rw[A,show zeroOf U nK=.nilFunc from by kernel_rfl];exact⟨v,Y,by grind⟩,
  λy x z o j k A q h e=>by
   obtain⟨mp,X,I,ab,hc,hm,ae,Z,af⟩:=e.hp;obtain⟨a,b,N,_,_⟩:=Z (10,18,fI,ck) (by simp[ib]) (h 10 gs);obtain⟨m,D,B,E,H⟩:=e.ins 11 3 (ui a b) (by simp[eF]) (h 0 gs) q (λI M O L=>by obtain⟨P,Q,S,T,W⟩:=L (10,18,fI,ck) (by simp[ib]) (h 10 gs);exact .inr (.inl ⟨fI,ck,P,Q,.inl ⟨rfl,rfl,rfl⟩,dZ (N.symm.trans S),T,W⟩))
   exact qE j D rfl N ⟨B,E,by grind⟩,
  λy x z o j k A q h e=>pC (.inl j) (e.st.get (i:=0) (d:=5) (v:=lB) (by simp[b7]) rfl) (by rw[k];exact e.stat 12 19 (lB) (by simp[b7]) (by simp[b7]) gs gs gs gs),
  λy x z o j k A q h e=>sB j (e.st.get (i:=0) (d:=1) (v:=ptr G) (by simp[b7]) rfl) (e.ld (u:=ck) (b:=G) (aA (i:=0) rfl) (K:=λv=>FJ w G F C s (dW y 13) (x.put o.dst v) z) (by rw[k];exact e.stat 13 20 ((ck).v) (by simp[b7]) (by simp[b7]) gs gs gs gs)),
  λy x z o j k A q h e=>sB j (e.st.get (i:=0) (d:=3) (v:=ptr C) (by simp[b7]) rfl) (e.ld (u:=fw s) (b:=C) (aA (i:=3) rfl) (K:=λv=>FJ w G F C s (dW y 14) (x.put o.dst v) z) (by rw[k];exact e.stat 14 21 ((fw s).v) (by simp[b7]) (by simp[b7]) gs gs gs gs)),
  λy x z o j k A q h e=>by refine GL j (e.st.get (i:=13) (d:=19) (v:=lB) (by simp[b7]) (h 12 gs)) (e.st.get (i:=14) (d:=20) (v:=(ck).v) (by simp[b7]) (h 13 gs)) (e.st.get (i:=15) (d:=21) (v:=(fw s).v) (by simp[b7]) (h 14 gs)) (by kernel_rfl) ((e.call 15 22 (ck) (fw s) (by simp[ib])).mono ?_);rintro ac B ⟨v,Y,H⟩;rw[A,show zeroOf U nK=.nilFunc from by kernel_rfl];exact⟨v,Y,by grind⟩,
  λy x z o j k A q h e=>by
   obtain⟨mp,X,I,ab,hc,hm,ae,Z,af⟩:=e.hp;obtain⟨a,b,N,_,_⟩:=Z (15,22,ck,fw s) (by simp[ib]) (h 15 gs);obtain⟨m,D,B,E,H⟩:=e.ins 16 4 (ui a b) (by simp[eF]) (h 0 gs) q (λI M O L=>by obtain⟨P,Q,S,T,W⟩:=L (15,22,ck,fw s) (by simp[ib]) (h 15 gs);exact .inr (.inl ⟨ck,fw s,P,Q,.inr (.inl ⟨rfl,rfl,rfl⟩),dZ (N.symm.trans S),T,W⟩))
   exact qE j D rfl N ⟨B,E,by grind⟩,
  λy x z o j k A q h e=>pC (.inl j) (e.st.get (i:=0) (d:=5) (v:=lB) (by simp[b7]) rfl) (by rw[k];exact e.stat 17 23 (lB) (by simp[b7]) (by simp[b7]) gs gs gs gs),
  λy x z o j k A q h e=>sB j (e.st.get (i:=0) (d:=3) (v:=ptr C) (by simp[b7]) rfl) (e.ld (u:=fw s) (b:=C) (aA (i:=3) rfl) (K:=λv=>FJ w G F C s (dW y 18) (x.put o.dst v) z) (by rw[k];exact e.stat 18 24 ((fw s).v) (by simp[b7]) (by simp[b7]) gs gs gs gs)),
  λy x z o j k A q h e=>sB j (e.st.get (i:=0) (d:=1) (v:=ptr G) (by simp[b7]) rfl) (e.ld (u:=ck) (b:=G) (aA (i:=0) rfl) (K:=λv=>FJ w G F C s (dW y 19) (x.put o.dst v) z) (by rw[k];exact e.stat 19 25 ((ck).v) (by simp[b7]) (by simp[b7]) gs gs gs gs)),
  λy x z o j k A q h e=>by refine GL j (e.st.get (i:=18) (d:=23) (v:=lB) (by simp[b7]) (h 17 gs)) (e.st.get (i:=19) (d:=24) (v:=(fw s).v) (by simp[b7]) (h 18 gs)) (e.st.get (i:=20) (d:=25) (v:=(ck).v) (by simp[b7]) (h 19 gs)) (by kernel_rfl) ((e.call 20 26 (fw s) (ck) (by simp[ib])).mono ?_);rintro ac B ⟨v,Y,H⟩;rw[A,show zeroOf U nK=.nilFunc from by kernel_rfl];exact⟨v,Y,by grind⟩,
  λy x z o j k A q h e=>by
   obtain⟨mp,X,I,ab,hc,hm,ae,Z,af⟩:=e.hp;obtain⟨a,b,N,_,_⟩:=Z (20,26,fw s,ck) (by simp[ib]) (h 20 gs);obtain⟨m,D,B,E,H⟩:=e.ins 21 5 (ui a b) (by simp[eF]) (h 0 gs) q (λI M O L=>by obtain⟨P,Q,S,T,W⟩:=L (20,26,fw s,ck) (by simp[ib]) (h 20 gs);exact .inr (.inl ⟨fw s,ck,P,Q,.inr (.inr ⟨rfl,rfl,rfl⟩),dZ (N.symm.trans S),T,W⟩))
   exact qE j D rfl N ⟨B,E,by grind⟩,
  λy x z o j k A q h e=>by obtain⟨m,D,B,E,H⟩:=e.ins 22 6 (.func (.func ux) #[] #[]) (by simp[eF]) (h 0 gs) q (λI M O L=>.inr (.inr (.inl ⟨rfl,rfl⟩)));exact qE j D rfl rfl ⟨B,E,by grind⟩,
  λy x z o j k A q h e=>abW j (e.st.get (i:=0) (d:=2) (v:=ptr F) (by simp[b7]) rfl) (e.st.get (i:=0) (d:=3) (v:=ptr C) (by simp[b7]) rfl) (by rw[k];exact e.stat 23 27 (A5 F C) (by simp[b7]) (by simp[b7]) gs gs gs gs),
  λy x z o j k A q h e=>by obtain⟨m,D,B,E,H⟩:=e.ins 24 7 (A5 F C) (by simp[eF]) (h 0 gs) q (λI M O L=>.inr (.inr (.inr ⟨F,C,rfl,rfl,M,O⟩)));exact qE j D rfl (e.st.get (i:=24) (d:=27) (v:=A5 F C) (by simp[b7]) (h 23 gs)) ⟨B,E,by grind⟩,
  λy x z o j k A q h e=>by obtain⟨m,aa,H⟩:=e.YC (h 0 gs);exact pC (.inl j) aa (by grind),
  λy x z o j k A q h e=>by obtain⟨m,aa,H⟩:=e.YD (h 0 gs) (h 25 gs);exact pC (.inr j) aa (by grind),trivial⟩
def WK{w k:J}{j e h:Nat}{s:Sl}{E:Env}(H:O F0 w k (qh j e h s) [])(q:E.get? 1=some (ptr j))(x:E.get? 2=some (ptr e))(y:E.get? 3=some (ptr h))(z:E.get? 4=some jb)(A:E.get? 5=some lB):FJ w j e h s (λ_=>false) E k.drew:=by
 refine⟨λD d C=>?_,[],[],[(e,fI),(h,fw s)],by simpa using H.drew,?_,gs,gs,λD d B=>(by cases B),.inl ⟨rfl,rfl,λ_ _=>rfl,rfl,rfl⟩⟩
 .simp only[b7,aF,a5,a9]at d
  (repeat' rcases d with rfl|d)<;>(try subst d)<;>first |exact q|exact x|exact y|exact z|exact A|cases C
 grind
def WH{w q:J}{A B C:Nat}{s:Sl}{L:Nat->Bool}{E:Env}(G:∀i,i<y8.length->L i=true)(W:FJ w A B C s L E q):∃y:Fm,E.get? 0=some (.map (some y.m))/\y.Ok/\(En.fm y).P q/\(∀b∈(En.fm y).fp,w.heap.size<=b)/\ag w q:=by
 have hlen:y8.length=27:=rfl;obtain⟨mp,X,D,j,hc,hm,af,hj,ab⟩:=W.hp;rcases ab with⟨ae,_⟩|⟨_,m,F,clock,ms,rfl,h2,O,Q,S,h6,T⟩
 .grind
 have mem:∀p∈D,dS p.1 p.2∈[En.ob m (.map F clock)]++(qh A B C s++X):=λp x=>cK _ (hc p x);have ac:aL q aV 4 s ck.c:=j.get (e:=.row aV 4 s ck.c) 3 rfl;refine⟨⟨m,F,clock,ms,D,s⟩,T (G 26 io),⟨O,λh h0 h8=>?_⟩,λN d=>?_,λb Y=>?_,j.fr⟩
 .have aa:∃i,(i,h)∈eF/\i<27:=by
   have:h=0\/h=1\/h=2\/h=3\/h=4\/h=5\/h=6\/h=7:=io
   rcases this with rfl|rfl|rfl|rfl|rfl|rfl|rfl|rfl
   .exact ⟨2,by simp[eF],io⟩
   .exact ⟨4,by simp[eF],io⟩
   .exact ⟨6,by simp[eF],io⟩
   .exact ⟨11,by simp[eF],io⟩
   .exact ⟨16,by simp[eF],io⟩
   .exact ⟨21,by simp[eF],io⟩
   .exact ⟨22,by simp[eF],io⟩
   .exact ⟨24,by simp[eF],io⟩
  obtain⟨i,hi,ah⟩:=aa;have H:=S _ hi;rw[G i io]at H;obtain⟨v,M⟩:=Option.isSome_iff_exists.1 H;exact⟨v,M,Q h v M⟩
 .rcases aF.1 d with rfl|d
  .exact j.own _ gs
  rcases aF.1 d with rfl|d
  .show I.P q (fw s);unfold I.P I.Ps I.Ps;exact⟨ac.a2,lf q,trivial⟩
  .obtain ⟨p,x,rfl⟩:=dN.1 d;exact j.own _ (mem p x)
 .obtain ⟨N,d,z⟩:=cl.1 (a7.1 Y);rcases aF.1 d with rfl|d
  .exact (j.new _ (aA (i:=0) rfl) b z).resolve_right id
  rcases aF.1 d with rfl|d
  .have k:b∈(fw s).fp:=a7.1 z;unfold I.fp at k;rcases aK.1 k with k|k
   .exact (j.new _ (aA (i:=3) rfl) b (gL k)).resolve_right id
   .obtain ⟨t,K,Z⟩:=I.bS.1 k;simp at K;subst K;exact(lg Z).elim
  .obtain ⟨p,x,rfl⟩:=dN.1 d;exact(j.new _ (mem p x) b z).resolve_right id
def UZ(w:J):aj U NR #[] w λr h=>(∃d:Fm,r=ad (.map (some d.m))/\d.Ok/\(En.fm d).P h/\∀b∈(En.fm d).fp,w.heap.size<=b)/\ag w h:=by refine QB.ok w _ ((bT [] gs).nw λj _ x=>x.nw λN _ B=>B.kM 0 rfl λW C=>C.kM 1 rfl λk e=>⟨0,0,0,⟨none,0,0⟩,e.ld 0 0,e.ld 0 1,e.ld 0 2,e.ld 0 3,e.e3 (n:=1) (sz:=4) (cs:=ck.c) rfl dl λq y=>y.nw λT _ z=>z.kM 3 rfl λM A=>?_⟩);have D:O F0 w M (qh w.heap.size j.heap.size q.heap.size ⟨some (ab k.heap.size),1,1⟩) []:=A;refine KP y8 (by kernel_rfl) (FJ w w.heap.size j.heap.size q.heap.size ⟨some (ab k.heap.size),1,1⟩) (WK D rfl rfl rfl rfl rfl) (WJ _ _ _ _ _) λS Q N L K=>?_;obtain⟨d,E,F,G,H,I⟩:=WH L K;exact aaJ (by kernel_rfl) E ⟨⟨d,rfl,F,G,H⟩,I⟩
section
variable {M:Nat->Prop} {w0 w:J} {L D:List En}
def _root_.Go.W.O.Ua(H:O M w0 w L D)(i:Nat){P:au}{t ty e:aE}{z:V}{sz bytes:Nat}(k:fQ P t e z sz bytes){T:aE}{s:Sl}{xs:List V}{news:Array V}{A:J->Prop}{K:Sl->J->Prop}(hi:L[i]? =some (.row e sz s xs))(y:∀d,O M w0 d L D->A d)(B:∀h d,O M w0 d (L.set i (.row e sz h (xs++news.toList))) D->K h d)(C:(s.n+1) *bytes<=140737488355328)(E:news.size=sz:=by rfl)(x:∀u∈news.toList,u.oneCell'=true:=by simp[Value.oneCell']):
  c9 w (.cells news T) λj=>A j/\∃h d,(Builtin.append_ #[t,t] ty #[s.v,.slice (some (Addr.mk w.heap.size 0 none)) 1 1]).run P j=.ok h.v d/\K h d:=
 ⟨y _ (H.cC (Fr.alloc _ _ _)),H.q4 i k hi (λh d q _ _=>B h d q) C E x⟩
end
mutual
def dG:Rx->Rx|.mk k lo hi l=>h8 (.mk k lo hi (ff l))
def ff:List Rx->List Rx
 |[]=>[]
 |a::l=>dG a::ff l
end
def Wx(N:Nat):Rx->Bool|.mk k _ _ l=>ai (k=4\/k=5->uM k l<=N)
def r3(N:Nat)(y:Rx):Bool:=k6 y&&ai (y.sz<=1000000)&&Wx N y
mutual
def qg(N:Nat):Rx->Bool|.mk k lo hi l=>rG N l&&r3 N (.mk k lo hi (ff l))
def rG(N:Nat):List Rx->Bool
 |[]=>true
 |a::l=>qg N a&&rG N l
end
def Kr{N:Nat}:∀{l:List Rx} {a:Rx},rG N l=true->a∈l->qg N a=true
 |b::l,a,d,e=>by
  unfold rG at d;rw[be]at d;rcases aF.1 e with rfl|e
  .exact d.1
  .exact Kr d.2 e
def r2:∀l:List Rx,ff l=l.map dG
 |[]=>rfl
 |a::l=>by unfold ff;rw[r2 l];rfl
def OZ{M:Nat->Prop}{w0 w:J}{L D:List En}(H:O M w0 w L D):O M w0 w L (D++[.trees []]):=
 H.ec (.trees []) (Fr.refl _ _) (by show I.Ps w [];unfold I.Ps;trivial) (λb d=>by have:=a7.1 d;unfold I.bd at this;cases this)
def tY{acc:List I}{t:I}{Q:Nat->Prop}(h:∀b∈I.bd acc,Q b)(k:∀b∈t.fp,Q b):∀b∈I.bd (acc++[t]),Q b:=by
 intro b j;obtain⟨u,d,e⟩:=I.bS.1 j;rcases aK.1 d with d|d
 .exact h b (I.bS.2 ⟨u,d,e⟩)
 .simp at d;rw[d]at e;exact k b e
abbrev TE(N:Nat)(F:Fm)(n:Nat):Prop:=∀(x:I) (w:J),x.sz<=n->qg N x.rx=true->(En.fm F).P w->x.P w->aj U E6 #[.map (some F.m),x.v] w λr d=>gy (x.fp++(En.fm F).fp) w (dG x.rx) r d/\ag w d
def IK{N:Nat}(hS:mn N)(hN:N+1<=1000000){F:Fm}(hF:F.Ok):∀n:Nat,n<=1000000->TE N F n
 |0,_=>λe y ae _ _ _=>absurd ae (by have:=I.mU e;omega)
 |n+1,hn=>λe y ae Z pF px=>by
  have ih:=IK hS hN hF n io;have hs:=I.iJ e;have hl:=I.ga e.l;have nr:=I.cw px.parts.1;have aa:rG N (I.ao e.l)=true/\r3 N (.mk e.k e.lo e.hi (ff (I.ao e.l)))=true:=by
   rw[I.fi]at Z;unfold qg at Z
   rwa[be]at Z
  have af:0<=e.k/\e.k<8:=by have:=aa.2;unfold r3 k6 at this;simp only[be,decide_eq_true_eq]at this;exact this.1.1.1
  have loop:∀(d i:Nat) (acc:List I) (sl:Sl) (B C A:Nat) (x:J),i+d=e.l.length->I.ao acc=ff (I.ao (e.l.take i))->(∀b∈I.bd acc,y.heap.size<=b\/b∈e.fp++(En.fm F).fp)->
    O F0 y x [.c B e.c aV,.c C [.int .i64 0,.int .u8 0,.int .u8 0,.slice none 0 0] aV,.c A [.int .i64 e.k,.int .u8 (e.lo.toNat:Int),.int .u8 (e.hi.toNat:Int),sl.v] aV,.row aV 4 sl (acc.flatMap I.c)] [.tree e,.fm F,.trees acc]->
    xv.L0 (some F.m) (ab B) (ab C) (ab A) e.s (e.s.n:Int) (i:Int) x λr w'=>gy (e.fp++(En.fm F).fp) y (dG e.rx) r w'/\ag y w':=by
   intro d;induction d with
   |zero=>
    intro i acc sl B C A x av w Y j;rw[fA io]at w;obtain⟨f,f1,f2,f3⟩:=US hS io hF (j.getD 1) e.k af.1 af.2;have aw:∀b∈(I.row sl acc).fp,y.heap.size<=b:=λb h=>(j.new _ (aA (i:=3) rfl) b (gL h)).resolve_right id;have H:O F0 y x [.c B e.c aV,.c C [.int .i64 0,.int .u8 0,.int .u8 0,.slice none 0 0] aV,.c A [.int .i64 e.k,.int .u8 (e.lo.toNat:Int),.int .u8 (e.hi.toNat:Int),sl.v] aV] [.tree e,.fm F,.trees acc,I.row sl acc,.tree (.mk e.k e.lo e.hi sl acc)]:=j.sg 3 2 e.k e.lo e.hi;have az:(I.mk e.k e.lo e.hi sl acc).P x:=H.getD 4;have T:(I.mk e.k e.lo e.hi sl acc).rx=.mk e.k e.lo e.hi (ff (I.ao e.l)):=by unfold I.rx;rw[w]
    have G:=aa.2;unfold r3 at G;simp only[be,decide_eq_true_eq]at G;have ax:(I.mk e.k e.lo e.hi sl acc).sz<=1000000:=by have E:=I.ek (I.mk e.k e.lo e.hi sl acc);rw[T]at E;rw[<-E];exact G.1.2
    have ar:e.k=4\/e.k=5->uM e.k (I.ao acc)<=N:=λhk=>by rw[w];exact eQ G.2 hk
    have aq:dG e.rx=h8 (I.mk e.k e.lo e.hi sl acc).rx:=by rw[T,I.fi];unfold dG;rfl
    refine xv.cr (aW (aS io) ⟨e.k,j.ld 0 0,f,f1,_,_,_,sl,j.ld 2 0,j.ld 2 1,j.ld 2 2,j.ld 2 3,?_⟩);rw[f2];refine(show cL true _ from ?_);refine(f3 (.mk e.k e.lo e.hi sl acc) x (j.getD 1) az rfl ar ax (by rw[T];exact G.1.1)).mono ?_;rintro _ w2 ⟨⟨t,rfl,ht,pt,D⟩,W⟩;have S:=H.ec (.tree t) W pt (λb h=>by
     rcases D b (a7.1 h)with h|h
     .exact .inl h
     .rcases aK.1 h with h|h
      .exact .inr (.inr ⟨_,aA (i:=4) rfl,a7.2 h⟩)
      .exact .inr (.inr ⟨_,aA (i:=1) rfl,h⟩))
    refine⟨_,_,_,t.s,rfl,S.kM 1 rfl λw3 z=>⟨_,_,_,t.s,z.ld 1 0,z.ld 1 1,z.ld 1 2,z.ld 1 3,⟨t,rfl,by rw[aq];exact ht,z.getD 5,λb h=>?_⟩,z.fr⟩⟩;rcases D b h with h|h
    .exact .inl (bD j.fr.size h)
    .rcases aK.1 h with h|h
     .unfold I.fp at h;rcases aK.1 h with h|h
      .exact .inl (aw b h)
      .exact Y b h
     .exact .inr (cK _ h)
   |succ d ay=>
    intro i acc sl B C A x av w Y j;have L:e.l[i]? =some (e.l[i]'io):=a0 io;generalize e.l[i]'io=a at L;have M:=aA L;have aI:=I.eJ M;have fa:qg N a.rx=true:=Kr aa.1 (by rw[I.fN];exact dN.2 ⟨a,M,rfl⟩);have ac:∀b∈a.fp,b∈e.fp:=λb h=>I.gC.2 (.inr (I.bS.2 ⟨a,M,h⟩));refine xv.cr (aU (aQ io) (jY (show e.P x from j.getD 0) rfl L (j.nw λw8 _ H8=>H8.kM 4 rfl λaJ ak=>ak.dr λah q=>⟨sl,q.ld 2 3,a.k,a.lo.toNat,a.hi.toNat,a.s,q.ld 4 0,q.ld 4 1,q.ld 4 2,q.ld 4 3,?_⟩)));refine(ih a ah io fa (q.getD 1) ((show e.P ah from q.getD 0).parts.2.mem M)).mono ?_;rintro _ aM ⟨⟨t,rfl,ht,pt,D⟩,W⟩;have Q:=q.ec (.tree t) W pt (λb h=>by
     rcases D b (a7.1 h)with h|h
     .exact .inl h
     .rcases aK.1 h with h|h
      .exact .inr (.inr ⟨_,aA (i:=0) rfl,a7.2 (ac b h)⟩)
      .exact .inr (.inr ⟨_,aA (i:=1) rfl,h⟩))
    have aG:acc.length=i:=by have E:=congrArg List.length w;rw[I.fN,r2,I.fN]at E;simp only[List.length_map,gK]at E;omega
    have aH:=I.cw (Q.get 3:aL _ _ _ _ _).a2;refine⟨_,_,_,t.s,rfl,Q.ld 2 3,Q.Ua 3 rz (xs:=acc.flatMap I.c) rfl (λw' H=>H.ld 2 3) (λs' aN am=>am.st 2 3 rfl λaB an=>?_) io⟩;rw[bp _ io];have ap:=(an.su 2 3).take 4;refine ay (i+1) (acc++[t]) s' B C A aB io ?_ (tY Y λb h=>?_) ?_
    .rw [kG,w,g5,L,Option.toList_some,kG,r2,r2,fh];show _++[t.rx]=_;rw[ht];rfl
    .rcases D b h with h|h
     .exact .inl (bD q.fr.size h)
     .rcases aK.1 h with h|h
      .exact .inr (bV _ (ac b h))
      .exact .inr (cK _ h)
    .rw [nq];exact ap.forget _ gs
  refine xv.ok ((bT [.tree e,.fm F] (by
   intro aC w;simp only[aF,a5,a9]at w;rcases w with rfl|rfl
   .exact px
   .exact pF)).nw λx _ H1=>H1.nw λw2 _ K=>⟨e.k,K.ld 0 0,e.lo.toNat,K.ld 0 1,e.hi.toNat,K.ld 0 2,K.nw λw3 _ S=>S.kM 2 rfl λw7 H7=>⟨e.s,H7.ld 0 3,?_⟩⟩)
  exact loop e.l.length 0 [] ⟨none,0,0⟩ _ _ _ w7 io rfl (λb h=>by unfold I.bd at h;cases h) (OZ (H7.hP aV 4))
def U'{N:Nat}(k:mn N)(j:N+1<=1000000){F:Fm}(h:F.Ok)(x:I)(w:J)(e:x.sz<=1000000)(q:qg N x.rx=true)(y:(En.fm F).P w)(z:x.P w):aj U E6 #[.map (some F.m),x.v] w λr d=>gy (x.fp++(En.fm F).fp) w (dG x.rx) r d/\ag w d:=
 IK k j h 1000000 (bm _) x w e q y z
section
variable {M:Nat->Prop} {w0 w:J} {L D:List En} {bs:List Nat}
def _root_.Go.W.O.rj(H:O M w0 w L D){P:au}{g:FuncId}{args:Array V}{K:aB}{d:List Nat}{x:Rx}(z:aj P g args w λr w'=>gy d w x r w'/\ag w w')(hold:∀b∈d,∃g∈D,b∈g.fp)(A:∀(t:I) (w':J),t.rx=x->O M w0 w' L (D++[.tree t])->(∀b∈t.fp,w.heap.size<=b\/b∈d)->K (ad t.v) w'):fH bs P g args w K:=
 kf (z.mono λr w' ⟨⟨t,j,k,q,e⟩,f⟩=>⟨f,by
  subst j;exact A t w' k (H.ec (.tree t) f q λb y=>(e b (a7.1 y)).imp id λh=>.inr (hold b h)) e⟩)
end
namespace n3
def a4:=bu (ay U Tryz.f127 [(6,lr 9),(8,lr 9),(13,lr 12)] [2,3]) [0,1,1,1,3] [(2,.l [.I,.Y,.Y,.s] aI),(3,.l [.I,.Y,.Y,.s] aI),(5,.s),(6,.s),(7,.I)]
abbrev t1:=bt a4
def cu:=bu t1 [0,1,1,1,4] [(2,.l [.I,.Y,.Y,.s] aI),(3,.l [.I,.Y,.Y,.s] aI),(8,.I)]
abbrev t2:=bt cu
abbrev bC:=ah t2 [5] [(2,.l [.I,.Y,.Y,.s] aI),(3,.l [.I,.Y,.Y,.s] aI)]
abbrev t3:=ak bC
def dQ:=bF t3 cu
def bR:=bF t3 a4
def aq:=aC t3 EG [.a 4,.I,.Y,.Y,.s,.a 4,.I,.Y,.Y,.s]
end n3
def lj{p:Addr}{K:Addr->Prop}(d:K p):dv (some p) K:=d
def CK{x y:Int}(l:List Int)(d:x<y):ej (cB x y::l)=-1:=by unfold ej cB;simp[d]
def CJ{x y:Int}(l:List Int)(d:y<x):ej (cB x y::l)=1:=by unfold ej cB;rw[aa (show ¬x<y by omega),af d];simp
def CI{x y:Int}(l:List Int)(d:¬x<y)(e:¬y<x):ej (cB x y::l)=ej l:=by
 conv=>lhs;unfold ej cB
 rw[aa d,aa e];simp
abbrev TJ(n:Nat):Prop:=∀(a b:I) (w:J),a.sz<=n->a.P w->b.P w->aj U EG #[a.v,b.v] w λr d=>r=ad (.int .i64 (bn a.rx b.rx))/\ag w d
def IS:∀n:Nat,n<=1000000->TJ n
 |0,_=>λa b C e _ _=>absurd e (by have:=I.mU a;omega)
 |n+1,hn=>λa b C e pa pb=>by
  have ih:=IS n io;have hs:=I.iJ a;have hl:=I.ga a.l;have na:=I.cw pa.parts.1;have ay:=I.cw pb.parts.1;have z:bn a.rx b.rx=if ej [cB a.k b.k,cB a.lo.toNat b.lo.toNat,cB a.hi.toNat b.hi.toNat]≠0 then ej [cB a.k b.k,cB a.lo.toNat b.lo.toNat,cB a.hi.toNat b.hi.toNat]else cmpL (I.ao a.l) (I.ao b.l):=by rw[I.fi a,I.fi b];unfold bn;rfl
  have ar:∀(d i:Nat) (q w:Nat) (H:J),i+d=a.l.length->i<=b.l.length->cmpL (I.ao (a.l.drop i)) (I.ao (b.l.drop i))=bn a.rx b.rx->O F0 C H [.g q,.g w] [.tree a,.tree b]->
    n3.cu q a.k a.lo.toNat a.hi.toNat a.s w b.k b.lo.toNat b.hi.toNat b.s (i:Int) H λr M=>r=ad (.int .i64 (bn a.rx b.rx))/\ag C M:=by
   intro d;induction d with
   |zero=>
    intro i q w H ah an h B;rw[dw (by omega:a.l.length<=i)]at h;refine n3.dQ (aW (aS io) (aY (λe=>⟨?_,B.fr⟩) (λe=>aY (λj=>?_) (λj=>⟨?_,B.fr⟩))))
    .rw [dy (by omega:i<b.l.length)]at h;rw[<-h];rfl
    .omega
    .rw [dw (by omega:b.l.length<=i)]at h;rw[<-h];rfl
   |succ d ap=>
    intro i q w H ah an h B;have L:a.l[i]? =some (a.l[i]'io):=a0 io;rw[dy (by omega:i<a.l.length)]at h;generalize a.l[i]'io=x at L h;have aB:=I.eJ (aA L);refine n3.dQ (aU (aQ io) (aY (λak=>⟨io,io,?_⟩) (λaw=>aY (λe=>?_) (λe=>aY (λj=>⟨?_,B.fr⟩) (λj=>?_)))))
    .have ac:b.l[i]? =some (b.l[i]'io):=a0 io;rw[dy (by omega:i<b.l.length)]at h;generalize b.l[i]'io=y at ac h;refine I.aT (show a.P H from B.getD 0).parts.1 L λp hp _=>B.ae λA D=>?_;have c:=I.again (show a.P A from D.getD 0).parts.1 L hp;refine⟨_,_,_,_,c.c0,c.c1,c.c2,c.c3,io,io,I.aT (show b.P A from D.getD 1).parts.1 ac λaz hq W=>⟨_,_,_,_,W.c0,W.c1,W.c2,W.c3,D.av (ih x y A io ((show a.P A from D.getD 0).parts.2.get L) ((show b.P A from D.getD 1).parts.2.get ac)) ?_⟩⟩;rintro _ Y rfl E;have e2:cmpL (I.ao (x::a.l.drop (i+1))) (I.ao (y::b.l.drop (i+1)))=if bn x.rx y.rx≠0 then bn x.rx y.rx else cmpL (I.ao (a.l.drop (i+1))) (I.ao (b.l.drop (i+1))):=rfl;rw[e2]at h;refine⟨_,rfl,cz (λhc=>⟨?_,E.fr⟩) (λhc=>?_)⟩
     .rw [af hc]at h;rw[h]
     .rw [aa (by simpa using hc)]at h;rw[bp _ io];exact ap (i+1) q w Y io io h E
    .omega
    .rw [dw (by omega:b.l.length<=i)]at h;rw[<-h];rfl
    .omega
  have Z:∀(c:UInt8),aD .i64 (c.toNat:Int)=(c.toNat:Int):=λc=>br _ (by have:=c.toNat_lt;omega);refine n3.aq ((bT [.tree a,.tree b] (by
   intro z h;simp only[aF,a5,a9]at h;rcases h with rfl|rfl
   .exact pa
   .exact pb)).ax λq H H1=>H1.ax λw N H2=>H2.nw λA _ D=>D.nw λY _ E=>?_)
  have E:O F0 C Y [.g q,.g w,.c N.heap.size [.int .i64 a.k,.int .i64 (aD .i64 (a.lo.toNat:Int)),.int .i64 (aD .i64 (a.hi.toNat:Int))] bA,.c A.heap.size [.int .i64 b.k,.int .i64 (aD .i64 (b.lo.toNat:Int)),.int .i64 (aD .i64 (b.hi.toNat:Int))] bA] [.tree a,.tree b]:=E;rw[Z,Z,Z,Z]at E;have step:∀(i:Nat) (x y:Int) (Q:J),i<3->([.int .i64 a.k,.int .i64 (a.lo.toNat:Int),.int .i64 (a.hi.toNat:Int)]:List V)[i]? =some (.int .i64 x)->([.int .i64 b.k,.int .i64 (b.lo.toNat:Int),.int .i64 (b.hi.toNat:Int)]:List V)[i]? =some (.int .i64 y)->
    O F0 C Q [.g q,.g w,.c N.heap.size [.int .i64 a.k,.int .i64 (a.lo.toNat:Int),.int .i64 (a.hi.toNat:Int)] bA,.c A.heap.size [.int .i64 b.k,.int .i64 (b.lo.toNat:Int),.int .i64 (b.hi.toNat:Int)] bA] [.tree a,.tree b]->
    (x<y->bn a.rx b.rx=-1)->(y<x->bn a.rx b.rx=1)->
    (¬x<y->¬y<x->∀S,O F0 C S [.g q,.g w,.c N.heap.size [.int .i64 a.k,.int .i64 (a.lo.toNat:Int),.int .i64 (a.hi.toNat:Int)] bA,.c A.heap.size [.int .i64 b.k,.int .i64 (b.lo.toNat:Int),.int .i64 (b.hi.toNat:Int)] bA] [.tree a,.tree b]->n3.a4 q a.k a.lo.toNat a.hi.toNat a.s w b.k b.lo.toNat b.hi.toNat b.s ⟨some (ab N.heap.size),3,3⟩ ⟨some (ab A.heap.size),3,3⟩ ((i+1:Nat):Int) S λr M=>r=ad (.int .i64 (bn a.rx b.rx))/\ag C M)->
    n3.a4 q a.k a.lo.toNat a.hi.toNat a.s w b.k b.lo.toNat b.hi.toNat b.s ⟨some (ab N.heap.size),3,3⟩ ⟨some (ab A.heap.size),3,3⟩ (i:Int) Q λr M=>r=ad (.int .i64 (bn a.rx b.rx))/\ag C M:=by
   intro i x y Q ah hx hy B ak am hk;have T:(i:Int)<((3:Nat):Int):=io
   refine n3.bR (aU (aQ io) ⟨io,T,lj (B.ae λS F=>⟨x,?_,io,T,lj ⟨y,?_,aY (λe=>⟨by rw[ak e],F.fr⟩) (λe=>⟨io,T,lj (F.ae λw7 G=>⟨x,?_,io,T,lj ⟨y,?_,aY (λj=>⟨by rw[am j],G.fr⟩) (λj=>?_)⟩⟩)⟩)⟩⟩)⟩)
   .rw [bG,Nat.mul_one];exact F.ld 2 i rfl hx
   .rw [bG,Nat.mul_one];exact F.ld 3 i rfl hy
   .rw [bG,Nat.mul_one];exact G.ld 2 i rfl hx
   .rw [bG,Nat.mul_one];exact G.ld 3 i rfl hy
   .rw [show aD .i64 ((i:Int)+1)=((i+1:Nat):Int)by rw[br _ io];omega];exact hk e j w7 G
  show n3.a4 _ _ _ _ _ _ _ _ _ _ _ _ ((0:Nat):Int) _ _;refine step 0 _ _ Y io rfl rfl E (λe=>by rw[z,CK _ e];rfl) (λe=>by rw[z,CJ _ e];rfl) (λK j Q H5=>?_);rw[CI _ K j]at z;refine step 1 _ _ Q io rfl rfl H5 (λe=>by rw[z,CK _ e];rfl) (λe=>by rw[z,CJ _ e];rfl) (λK j S F=>?_);rw[CI _ K j]at z;refine step 2 _ _ S io rfl rfl F (λe=>by rw[z,CK _ e];rfl) (λe=>by rw[z,CJ _ e];rfl) (λK j w7 G=>?_);rw[CI _ K j]at z;refine n3.bR (aW rfl (ar a.l.length 0 q w w7 io io ?_ (G.take 2)));rw[z];rfl
def q'(a b:I)(w:J)(d:a.sz<=1000000)(e:a.P w)(h:b.P w):aj U EG #[a.v,b.v] w λr j=>r=ad (.int .i64 (bn a.rx b.rx))/\ag w j:=IS 1000000 (bm _) a b w d e h
namespace tK
abbrev P0:Ps:=[(1,.l [.I,.Y,.Y,.s] aI),(3,.I),(4,.I)]
def a4:=bu (ay U Tryz.f109 [] [1]) [0,1,1,1,2] P0
abbrev t1:=bt a4
abbrev bh:=ah t1 [2,2,1,1,2] P0
abbrev t2:=ak bh
def bR:=bF t2 a4
def aq:=aC t2 EH [.a 4,.I,.Y,.Y,.s]
end tK
namespace tL
abbrev P0:Ps:=[]
abbrev a1:=ah (ay U Tryz.f133 [(3,lr 30)] [1]) [0,1,1,1,3] P0
abbrev t1:=ak a1
abbrev bh:=ah t1 [0,1,1,1,4] P0
abbrev t2:=ak bh
def il:=bu t2 [0,1,1,1,5] [(1,.l [.I,.Y,.Y,.s] aI),(5,.I)]
abbrev t3:=bt il
def nO:=bF t3 il
abbrev bC:=ah t3 [5] [(1,.l [.I,.Y,.Y,.s] aI)]
abbrev t4:=ak bC
def aq:=aC t4 MF [.a 4,.I,.Y,.Y,.s]
end tL
namespace JL
def aq:=aC (ay U Tryz.f110 [] [1]) MB [.a 4,.I,.Y,.Y,.s]
end JL
abbrev TD(n:Nat):Prop:=∀(x:I) (w:J),x.sz<=n->x.P w->aj U EH #[x.v] w λr d=>r=ad (.int .i64 (x.sz:Int))/\ag w d
def Is:∀n:Nat,n<=1000000->TD n
 |0,_=>λe y z _=>absurd z (by have:=I.mU e;omega)
 |n+1,Q=>λe y z B=>by
  have G:=Is n io;have S:=I.iJ e;have N:=I.ga e.l;have T:=I.cw B.parts.1;have loop:∀(d i m j:Nat) (h:J),i+d=e.l.length->m+I.a3 (e.l.drop i)=e.sz->O F0 y h [.g j] [.tree e]->tK.a4 j e.k e.lo.toNat e.hi.toNat e.s (m:Int) (i:Int) h λr K=>r=ad (.int .i64 (e.sz:Int))/\ag y K:=by
   intro d;induction d with
   |zero=>
    intro i m j h F q w;rw[dw io]at q;refine tK.bR (aW (aS io) ⟨?_,w.fr⟩);have:m=e.sz:=q;rw[this]
   |succ d H=>
    intro i m j h F q w;have x:e.l[i]? =some (e.l[i]'io):=a0 io;rw[dy io]at q;generalize e.l[i]'io=a at x q;have M:m+(a.sz+I.a3 (e.l.drop (i+1)))=e.sz:=q;have A:=aA x;have W:=I.eJ A;refine tK.bR (aU (aQ io) (jY (show e.P h from w.getD 0) rfl x (w.av (G a h io ((show e.P h from w.getD 0).parts.2.mem A)) ?_)));rintro _ L rfl D;refine⟨_,rfl,?_⟩;show tK.a4 _ _ _ _ _ _ _ _ _;rw[bp _ io,br _ io];have E:((m:Int)+(a.sz:Int))=((m+a.sz:Nat):Int):=io
    rw[E];exact H (i+1) (m+a.sz) j L io io D
  exact tK.aq ((gH B).ax λj h C=>loop e.l.length 0 1 j h io (by rw[List.drop_zero];omega) C)
def Co(x:I)(w:J)(d:x.sz<=1000000)(e:x.P w):aj U EH #[x.v] w λr h=>r=ad (.int .i64 (x.sz:Int))/\ag w h:=Is 1000000 (bm _) x w d e
def zm(k:Nat):Int:=if 6<=k then 1 else 0
def zG(k:Nat):Int:=if k<3 then 0 else if k<6 then 64 else 1
def X7{k:Nat}(d:k<8):([.i 0,.i 0,.i 0,.i 0,.i 0,.i 0,.i 1,.i 1]:List V)[k]? =some (.i (zm k)):=by
 have:k=0\/k=1\/k=2\/k=3\/k=4\/k=5\/k=6\/k=7:=io
 rcases this with rfl|rfl|rfl|rfl|rfl|rfl|rfl|rfl<;>rfl
def YP{k:Nat}(d:k<8):([.i 0,.i 0,.i 0,.i 64,.i 64,.i 64,.i 1,.i 1]:List V)[k]? =some (.i (zG k)):=by
 have:k=0\/k=1\/k=2\/k=3\/k=4\/k=5\/k=6\/k=7:=io
 rcases this with rfl|rfl|rfl|rfl|rfl|rfl|rfl|rfl<;>rfl
abbrev TA(n:Nat):Prop:=∀(x:I) (w:J),x.sz<=n->x.P w->aj U MF #[x.v] w λr d=>r=ad (.bool (cN x.rx))/\ag w d
def IH:∀n:Nat,n<=64->TA n
 |0,_=>λe D q _=>absurd q (by have:=I.mU e;omega)
 |n+1,hn=>λe D q px=>by
  have ih:=IH n io;have hs:=I.iJ e;have hl:=I.ga e.l;have nr:=I.cw px.parts.1;have S:(I.ao e.l).length=e.s.n:=by rw[I.fN];simp[nr]
  have ee:(I.ao e.l).isEmpty=ai (e.s.n=0):=by rw[<-S,Bool.eq_iff_iff];simp
  have x:cN e.rx=(!(e.k !=2&&(e.lo !=0||e.hi !=0))&&(if e.k=0\/e.k=1 then(I.ao e.l).isEmpty else if e.k=2 then(I.ao e.l).isEmpty&&ai (e.lo.toNat<=e.hi.toNat)else if e.k=3\/e.k=4\/e.k=5 then dT (I.ao e.l)else if e.k=6\/e.k=7 then(I.ao e.l).length==1&&dT (I.ao e.l)else false)):=by rw[I.fi];unfold cN;rfl
  rw[ee,S]at x;have z8:∀u:UInt8,(u !=0)=ai (u.toNat≠0):=λu=>by rw[Bool.eq_iff_iff];simp only[bne_iff_ne,ne_eq,decide_eq_true_eq];exact not_congr ⟨λq=>by rw[q];rfl,λq=>UInt8.toNat_inj.1 (by simpa using q)⟩
  rw[z8,z8]at x;have bad:∀{h:Nat} {w':J},cN e.rx=false->O F0 D w' [.g h,.c (0:Nat) [] bA] []->True:=λ_ _=>trivial
  let Z:aB:=λr w'=>r=ad (.bool (cN e.rx))/\ag D w'
  have loop:cN e.rx=dT (I.ao e.l)->∀(d i h:Nat) (j:J),i+d=e.l.length->dT (I.ao (e.l.drop i))=dT (I.ao e.l)->O F0 D j [.g h] [.tree e]->tL.il h e.k e.lo.toNat e.hi.toNat e.s (i:Int) j Z:=by
   intro M d;induction d with
   |zero=>
    intro i h j ak F G;rw[dw io]at F;refine tL.nO (aW (aS io) ⟨?_,G.fr⟩);rw[M,<-F];rfl
   |succ d ap=>
    intro i h j ak F G;have Y:e.l[i]? =some (e.l[i]'io):=a0 io;rw[dy io]at F;generalize e.l[i]'io=a at Y F;have ma:=aA Y;have aw:=I.eJ ma;have T:(cN a.rx&&dT (I.ao (e.l.drop (i+1))))=dT (I.ao e.l):=F;refine tL.nO (aU (aQ io) (jY (show e.P j from G.getD 0) rfl Y (G.av (ih a j io ((show e.P j from G.getD 0).parts.2.mem ma)) ?_)));rintro _ E rfl H;refine⟨_,rfl,eO (λW=>⟨?_,H.fr⟩) (λht=>?_)⟩
    .rw [M,<-T,W];rfl
    .rw [bp _ io];rw[ht,Bool.true_and]at T;exact ap (i+1) h E io T H
  refine tL.aq ((gH px).ax λh j H1=>H1.nw λE _ H=>H.nw λw3 _ N=>?_);have no:∀w':J,O F0 D w' [.g h,.c j.heap.size [.i 0,.i 0,.i 0,.i 64,.i 64,.i 64,.i 1,.i 1] bA,.c E.heap.size [.i 0,.i 0,.i 0,.i 0,.i 0,.i 0,.i 1,.i 1] bA] [.tree e]->cN e.rx=false->(Ending.returned (.bool false)=ad (.bool (cN e.rx))/\ag D w'):=λw' H' W=>⟨by rw[W],H'.fr⟩;refine aY (λk0=>O.ae N (λz w=>no z w ?_) gs) (λk0=>aY (λk7=>O.ae N (λz w=>no z w ?_) gs) (λk7=>?_))
  .rw [x,aa io,aa io,aa io,aa io,Bool.and_false]
  .rw [x,aa io,aa io,aa io,aa io,Bool.and_false]
  obtain⟨A,hk⟩:=Int.eq_ofNat_of_zero_le (by omega:0<=e.k);have ab:A<8:=io
  refine⟨io,by show e.k<((8:Nat):Int);omega,(show dv (some (nb E)) _ from O.ae N (λz w=>⟨zm A,?_,?_⟩) gs)⟩
  .have:=O.ld (L:=[.g h,.c j.heap.size [.i 0,.i 0,.i 0,.i 64,.i 64,.i 64,.i 1,.i 1] bA,.c E.heap.size [.i 0,.i 0,.i 0,.i 0,.i 0,.i 0,.i 1,.i 1] bA]) w 2 A rfl (X7 ab);rw[hk,bG,Nat.mul_one];exact this
  refine aY (λC=>no z w ?_) (λC=>⟨io,by show e.k<((8:Nat):Int);omega,(show dv (some (nb j)) _ from⟨zG A,?_,?_⟩)⟩)
  .unfold zm at C;rw[x,aa (by split at C<;>omega),aa (by split at C<;>omega),aa (by split at C<;>omega)];split
   .rename_i ar;have:(e.s.n==1)=false:=by rw[beq_eq_false_iff_ne];split at C<;>omega
    rw[this];simp
   .simp
  .have:=O.ld (L:=[.g h,.c j.heap.size [.i 0,.i 0,.i 0,.i 64,.i 64,.i 64,.i 1,.i 1] bA,.c E.heap.size [.i 0,.i 0,.i 0,.i 0,.i 0,.i 0,.i 1,.i 1] bA]) w 1 A rfl (YP ab);rw[hk,bG,Nat.mul_one];exact this
  refine aY (λB=>no z w ?_) (λB=>?_)
  .unfold zG at B;by_cases y:A<3
   .rw [af y]at B;have an:ai (e.s.n=0)=false:=aS io;rw[x,an];split
    .simp
    .split
     .simp
     .omega
   .rw [aa y]at B;by_cases k5:A<6
    .rw [af k5]at B;omega
    .rw [aa k5]at B;have:(e.s.n==1)=false:=by rw[beq_eq_false_iff_ne];omega
     rw[x,this,aa io,aa io,aa io,af io];simp
  have K:(A<3->e.s.n=0)/\(6<=A->e.s.n=1):=by
   unfold zm at C;unfold zG at B;refine⟨λq=>?_,λq=>?_⟩
   .rw [af q]at B;omega
   .rw [af q]at C;rw[aa io,aa io]at B;omega
  have H5:O F0 D z [.g h] [.tree e]:=O.take (L:=[.g h,.c j.heap.size [.i 0,.i 0,.i 0,.i 64,.i 64,.i 64,.i 1,.i 1] bA,.c E.heap.size [.i 0,.i 0,.i 0,.i 0,.i 0,.i 0,.i 1,.i 1] bA]) w 1;have ac:A<3->dT (I.ao e.l)=true:=λq=>by
   have h0:(I.ao e.l).length=0:=by rw[S,K.1 q]
   rw[List.length_eq_zero_iff.1 h0];rfl
  have go:cN e.rx=dT (I.ao e.l)->tL.bC h e.k e.lo.toNat e.hi.toNat e.s z Z:=λM=>loop M e.l.length 0 h z io gs H5;refine aY (λam=>no z w ?_) (λam=>cz (λy=>aY (λah=>no z w ?_) (λah=>go ?_)) (λy=>go ?_))
  .rw [x];by_cases y:e.k=2
   .rw [aa io,af y,aS (show ¬e.lo.toNat<=e.hi.toNat by omega)];simp
   .have:(e.k !=2&&(ai (e.lo.toNat≠0)||ai (e.hi.toNat≠0)))=true:=by rw[aQ (show e.lo.toNat≠0 by omega)];simp[y]
    rw[this];rfl
  .have:(e.k !=2&&(ai (e.lo.toNat≠0)||ai (e.hi.toNat≠0)))=true:=by rw[aQ (show e.hi.toNat≠0 by omega)];simp[y]
   rw[x,this];rfl
  .have Q:(e.k !=2&&(ai (e.lo.toNat≠0)||ai (e.hi.toNat≠0)))=false:=by rw[aS (show ¬e.lo.toNat≠0 by omega),aS (show ¬e.hi.toNat≠0 by omega)];simp
   rw[x,Q];by_cases c1:e.k=0\/e.k=1
   .rw [af c1,ac io,aQ (K.1 io)];rfl
   .rw [aa c1,aa y];by_cases c3:e.k=3\/e.k=4\/e.k=5
    .rw [af c3];simp
    .rw [aa c3,af io,K.2 io];simp
  .have Q:(e.k !=2&&(ai (e.lo.toNat≠0)||ai (e.hi.toNat≠0)))=false:=by rw[y];rfl
   rw[x,Q,aa io,af y,ac io,aQ (K.1 io),aQ (show e.lo.toNat<=e.hi.toNat by omega)];rfl
def Vf(x:I)(w:J)(k:x.sz<=1000000)(y:x.P w):aj U MB #[x.v] w λr z=>r=ad (.int .i64 (iL x.rx))/\ag w z:=by
 refine JL.aq ((gH y).ax λC A h=>h.av (Co x A k (h.getD 0)) ?_);rintro _ B rfl d;refine⟨_,rfl,aY (λq=>⟨?_,d.fr⟩) (λq=>d.av (IH 64 (bm _) x B io (d.getD 0)) ?_)⟩
 .unfold iL;rw[I.ek,af io]
 rintro _ D rfl j;refine⟨_,rfl,eO (λe=>⟨?_,j.fr⟩) (λe=>⟨?_,j.fr⟩)⟩
 .unfold iL;rw[I.ek,aa io,e];rfl
 .unfold iL;rw[I.ek,aa io,e];rfl
def Bn{x:Rx}(d:iL x=0):cN x=true/\x.sz<=64:=by
 unfold iL at d;split at d
 .cases d
 .split at d
  .rename_i e;exact⟨e,io⟩
  .cases d
def KE:∀{l:List Rx} {a:Rx},dT l=true->a∈l->cN a=true
 |b::l,a,h,e=>by
  have d:(cN b&&dT l)=true:=h;rw[be]at d;rcases aF.1 e with rfl|e
  .exact d.1
  .exact KE d.2 e
namespace JI
def aq:=aC (ay U Tryz.f83 [] [0]) pc []
end JI
namespace qe
abbrev P0:Ps:=[(0,.s),(3,.l [.I,.Y,.Y,.s] aI),(5,.I)]
def a4:=bu (ay U Tryz.f128 [(2,lr 13),(4,lr 13),(7,(.sq [0,1,2,3,5] (.fork (ls [4,6,7,8]) (ls [6,4,7,8]))))] [3]) [0,2,2] P0
abbrev t1:=bt a4
abbrev cF:=ah t1 [6] [(0,.s),(5,.I),(6,.s)]
abbrev t2:=ak cF
abbrev bC:=ah t2 [4] P0
abbrev t3:=ak bC
abbrev bh:=ah t3 [3] P0
abbrev t4:=ak bh
def bR:=bF t4 a4
def aq:=aC t4 MK [.s,.a 4,.I,.Y,.Y,.s]
end qe
namespace iw
abbrev a1:=ah (ay U Tryz.f103 [(9,lr 13),(25,lr 7),(27,lr 7)] [4,5,8,9]) [0,1,1,1,1,1,1,1,3] [(1,.s),(4,.l [.I,.Y,.Y,.s] aI)]
abbrev t1:=ak a1
abbrev P0:Ps:=[(0,.I),(1,.s),(4,.l [.I,.Y,.Y,.s] aI),(5,.l [.I,.Y,.Y,.s] aI),(6,.s),(7,.I)]
def cu:=bu t1 [0,1,1,1,5] P0
abbrev t2:=bt cu
abbrev bC:=ah t2 [2,2,1,1,5] P0
abbrev t3:=ak bC
abbrev P1:Ps:=[(0,.I),(4,.l [.I,.Y,.Y,.s] aI),(6,.s),(8,.l [.I,.Y,.Y,.s] aI),(9,.l [.I,.Y,.Y,.s] aI),(10,.s),(11,.I)]
def il:=bu t3 [0,1,1,1,9] P1
abbrev t4:=bt il
abbrev ft:=ah t4 [2,2,1,1,9] P1
abbrev t5:=ak ft
def nO:=bF t5 il
def dQ:=bF t5 cu
def aq:=aC t5 MH [.I,.s]
end iw
namespace wu
def a4:=bu (ay U Tryz.f85 [] [1,2]) [0,1,1,1,3] [(1,.l [.I,.Y,.Y,.s] aI),(2,.l [.I,.Y,.Y,.s] aI),(3,.s),(4,.I)]
abbrev t1:=bt a4
def bR:=bF t1 a4
def aq:=aC t1 w3 [.a 4,.I,.Y,.Y,.s]
end wu
namespace JN
def aq:=aC (ay U Tryz.f111 [] [1,2]) ME [.a 4,.I,.Y,.Y,.s]
end JN
namespace JJ
def aq:=aC (ay U Tryz.f91 [] [1,2]) Mx [.a 4,.I,.Y,.Y,.s]
end JJ
def lP:fQ U dc aI (.agg #[.int .i64 0,.int .u8 0,.int .u8 0,.slice none 0 0]) 4 40:=⟨by kernel_rfl,by kernel_rfl,rfl,dl,dl⟩
def Cs(w:J):aj U pc #[] w λr h=>gg w eL r h/\ag w h:=by
 refine JI.aq ((bT [] gs).ax λb q j=>j.e3 (n:=1) (sz:=4) (cs:=ck.c) rfl dl λy k=>k.ae λx e=>⟨⟨.mk 6 0 0 ⟨some (ab q.heap.size),1,1⟩ [ck],rfl,rfl,?_,λc d=>?_⟩,e.fr⟩)
 .unfold I.P I.Ps I.Ps;exact⟨(e.get 1:aL _ _ _ _ _).a2,lf x,trivial⟩
 .unfold I.fp I.bd I.bd at d;rcases aK.1 d with d|d
  .exact (e.new _ (aA (i:=1) rfl) c (gL d)).resolve_right id
  .rcases aK.1 d with d|d
   .exact (lg d).elim
   grind
def hx(r:I):List I->List I
 |[]=>[r]
 |d::p=>if bn d.rx r.rx<0 then d::hx r p else if bn d.rx r.rx=0 then d::p else r::d::p
def Qe(r:I):∀l:List I,(hx r l).map I.rx=lZ r.rx (l.map I.rx)
 |[]=>rfl
 |d::p=>by
  unfold hx;rw[iG];unfold lZ;split
  .rw [iG,Qe r p]
  grind
def Ap{t r:I}:∀{p:List I},t∈hx r p->t=r\/t∈p
 |[],d=>by unfold hx at d;grind
 |e::p,d=>by
  unfold hx at d;split at d
  .rcases aF.1 d with rfl|d
   .simp
   .rcases Ap d with d|d<;>simp[d]
  grind
def Qc(r:I):∀l:List I,I.a3 (hx r l)<=r.sz+I.a3 l
 |[]=>by show r.sz+0<=r.sz+0;omega
 |d::p=>by
  unfold hx;split
  .have:=Qc r p;show d.sz+I.a3 (hx r p)<=r.sz+(d.sz+I.a3 p);omega
  .split
   .omega
   .exact bm _
def Qb{r:I}:∀{l:List I} {k:Nat},k<=l.length->(∀h t,h<k->l[h]? =some t->bn t.rx r.rx<0)->(∀t,l[k]? =some t->¬bn t.rx r.rx<0)->
  (∀t,l[k]? =some t->bn t.rx r.rx=0->hx r l=l)/\((∀t,l[k]? =some t->bn t.rx r.rx≠0)->hx r l=l.take k++r::l.drop k)
 |[],k,q,d,e=>⟨λt x=>by grind,λ_=>by simp[hx]⟩
 |j::p,0,q,d,e=>by
  have:=e j rfl;unfold hx
  grind
 |j::p,k+1,q,d,e=>by
  have z:=d 0 j io rfl;have A:=Qb (r:=r) (l:=p) (k:=k) (by grind) (λh t y w=>d (h+1) t io (by grind)) (λt w=>e t (by grind));unfold hx
  grind
def Qs{w:J}{s:Sl}{l:List I}(d:bo 4 w s (l.flatMap I.c))(a b:Nat)(e:a<=b)(h:b<=l.length):bo 4 w (pG 4 s a b) (((l.take b).drop a).flatMap I.c):=by have j:=I.cw d;have:=d.sub a b e io;rw[Jr,Jx _ _ (by grind)]at this;omega
abbrev bK(s:Sl)(l:List I):I:=.mk 0 0 0 s l
def HE(d:List Nat)(w:J)(l:List I)(r:cR)(w':J):Prop:=∃s:Sl,r=ad s.v/\(bK s l).P w'/\∀b∈(bK s l).fp,w.heap.size<=b\/b∈d
def dk{w:J}{s:Sl}{l:List I}:(bK s l).P w↔bo 4 w s (l.flatMap I.c)/\I.Ps w l:=by
 unfold bK I.P
 grind
def mK{s:Sl}{l:List I}{b:Nat}:b∈(bK s l).fp↔b∈(I.row s l).fp\/b∈I.bd l:=by
 unfold bK I.fp
 grind
def Vb(s:Sl)(l:List I)(r:I)(w:J)(hl:I.a3 l<=100000)(hr:r.sz<=100000)(px:(bK s l).P w)(pr:r.P w):
  aj U MK #[s.v,r.v] w λT y=>HE ((bK s l).fp++r.fp) w (hx r l) T y/\ag w y:=by
 have nr:=I.cw (dk.1 px).1;have ll:=I.ga l
 let Z:aB:=λT y=>HE ((bK s l).fp++r.fp) w (hx r l) T y/\ag w y
 have fin:∀(k:Nat) (sl:Sl) (L:List En) (i:Nat) (e:J),k<=l.length->hx r l=l.take k++r::l.drop k->L[i]? =some (.row aI 4 sl ((l.take k++[r]).flatMap I.c))->O F0 w e L [.tree (bK s l),.tree r]->
   qe.cF s (k:Int) sl e Z:=by
  intro k sl L i e A Q ak j;have ay:(bK s l).P e:=j.getD 0;have S:=Qs (dk.1 ay).1 k l.length A (bm _);rw[List.take_length]at S;have ap:aL e aI 4 sl ((l.take k++[r]).flatMap I.c):=j.get i ak;have aa:=I.cw ap.a2;have aC:(l.take k++[r]).length=k+1:=by grind
  refine⟨io,io,?_⟩;obtain⟨E,y,G,h2,h3⟩:=j.eD (bs:=[]) i (ty:=dc) (K:=λE y=>∃L',L'[i]? =some (.row aI 4 E ((hx r l).flatMap I.c))/\O F0 w y L' [.tree (bK s l),.tree r]) lP (src:=pG 4 s k l.length) (news:=(l.drop k).flatMap I.c) ak S (tu _) (by show(sl.n+(l.length - k)) *40<=_;omega) (λE y H'=>⟨_,by
   grind,H'⟩)
  obtain⟨L',g1,F⟩:=h3;have e1:(aZ (k:Int))=k:=rfl;refine⟨E,y,by rw[e1,nr];exact G,⟨E,rfl,dk.2 ⟨(F.get i g1:aL _ _ _ _ _).a2,I.jD λt C=>?_⟩,λb N=>?_⟩,F.fr⟩
  .rcases Ap C with rfl|C
   .exact F.getD 1
   .exact (dk.1 (F.getD 0)).2.mem C
  .rcases mK.1 N with N|N
   .exact .inl ((F.new _ (aA g1) b (gL N)).resolve_right id)
   .obtain ⟨t,C,an⟩:=I.bS.1 N;rcases Ap C with rfl|C
    .grind
    .exact .inr (bV _ (mK.2 (.inr (I.bS.2 ⟨t,C,an⟩))))
 have s2:∀(k:Nat) (h:Nat) (e:J),k<=l.length->hx r l=l.take k++r::l.drop k->O F0 w e [.g h] [.tree (bK s l),.tree r]->qe.bC s h r.k r.lo.toNat r.hi.toNat r.s (k:Int) e Z:=by
  intro k h e A Q j;have az:s.n<=s.c:=(dk.1 (show(bK s l).P e from j.getD 0)).1.2.1;have am:∀y:J,(bK s l).P y->bo 4 y (pG 4 s 0 k) ((l.take k).flatMap I.c):=λy ah=>Qs (dk.1 ah).1 0 k io A;have e1:(aZ (k:Int))=k:=rfl;refine⟨io,io,j.ae λz q=>?_,j.ae λz q=>?_⟩
  .refine (q.hP aI 4).eD 1 lP (s:=⟨none,0,0⟩) (xs:=[]) (src:=pG 4 s 0 k) (news:=(l.take k).flatMap I.c) rfl (am z (q.getD 0)) (tu _) (by show(0+(k - 0)) *40<=_;omega) (λE H x=>?_);have x:O F0 w H [.g h,.row aI 4 E ((l.take k).flatMap I.c)] [.tree (bK s l),.tree r]:=x;have aa:=I.cw (x.get 1:aL _ _ _ _ _).a2;rw[gK]at aa;refine x.jn 1 lP (xs:=(l.take k).flatMap I.c) rfl (λaf w4 M=>?_) io;refine fin k af _ 1 w4 A Q ?_ M;show some _=some _;rw[nq];rfl
  .refine q.e3 (n:=1) (sz:=4) (cs:=r.c) rfl dl λH x=>?_;refine(x.hP aI 4).eD 2 lP (s:=⟨none,0,0⟩) (xs:=[]) (src:=pG 4 s 0 k) (news:=(l.take k).flatMap I.c) rfl (am H (x.getD 0)) (tu _) (by show(0+(k - 0)) *40<=_;omega) (λE w4 M=>?_);have M:O F0 w w4 [.g h,.row aI 4 ⟨some (ab z.heap.size),1,1⟩ r.c,.row aI 4 E ((l.take k).flatMap I.c)] [.tree (bK s l),.tree r]:=M;have aa:=I.cw (M.get 2:aL _ _ _ _ _).a2;rw[gK]at aa;refine M.eD 2 lP (xs:=(l.take k).flatMap I.c) (src:=⟨some (ab z.heap.size),1,1⟩) (news:=r.c) rfl (M.get 1:aL _ _ _ _ _).a2 (λu hu=>tu [r] u (by grind)) (by grind) (λaf w5 H5=>?_);refine fin k af _ 2 w5 A Q ?_ H5
   grind
 have s1:∀(k:Nat) (h:Nat) (e:J),k<=l.length->(∀D t,D<k->l[D]? =some t->bn t.rx r.rx<0)->(∀t,l[k]? =some t->¬bn t.rx r.rx<0)->O F0 w e [.g h] [.tree (bK s l),.tree r]->qe.bh s h r.k r.lo.toNat r.hi.toNat r.s (k:Int) e Z:=by
  intro k h e A G h2 j;obtain⟨g1,F⟩:=Qb A G h2;refine aY (λao=>?_) (λao=>j.ae λz q=>s2 k h z A (F λt C=>by grind) q);have B:l[k]? =some l[k]:=a0 io;generalize l[k]'io=t at B;have W:=aA B;refine⟨io,io,I.aT (dk.1 (show(bK s l).P e from j.getD 0)).1 B λp S _=>j.ae λz q=>?_⟩;have Y:(bK s l).P z:=q.getD 0;have c:=I.again (dk.1 Y).1 B S;refine⟨_,_,_,_,c.c0,c.c1,c.c2,c.c3,q.av (q' t r z (by have:=I.eJ W;omega) ((dk.1 Y).2.mem W) (q.getD 1)) ?_⟩;rintro _ H rfl x;refine⟨_,rfl,aw (λh0=>⟨⟨s,rfl,?_,λb N=>.inr ?_⟩,x.fr⟩) (λh0=>s2 k h H A (F λt' ac=>by grind) x)⟩
  .rw [g1 t B h0];exact x.getD 0
  grind
 have loop:∀(d k:Nat) (h:Nat) (e:J),k+d=l.length->(∀D t,D<k->l[D]? =some t->bn t.rx r.rx<0)->O F0 w e [.g h] [.tree (bK s l),.tree r]->qe.a4 s h r.k r.lo.toNat r.hi.toNat r.s (k:Int) e Z:=by
  intro d;induction d with
  |zero=>
   intro k h e A G j;exact qe.bR (aW (aS io) (j.ae λz q=>s1 k h z io G (λt C=>by grind) q))
  |succ d ar=>
   intro k h e A G j;have B:l[k]? =some l[k]:=a0 io;generalize l[k]'io=t at B;have W:=aA B;refine qe.bR (aU (aQ io) ⟨io,io,I.aT (dk.1 (show(bK s l).P e from j.getD 0)).1 B λp S _=>j.ae λz q=>?_⟩);have Y:(bK s l).P z:=q.getD 0;have c:=I.again (dk.1 Y).1 B S;refine⟨_,_,_,_,c.c0,c.c1,c.c2,c.c3,q.av (q' t r z (by have:=I.eJ W;omega) ((dk.1 Y).2.mem W) (q.getD 1)) ?_⟩;rintro _ H rfl x;refine⟨_,rfl,aY (λh0=>?_) (λh0=>s1 k h H io G (λt' ac=>by grind) x)⟩;rw[bp _ io];refine ar (k+1) h H io (λD t' hq ac=>?_) x;by_cases T:D=k
   .grind
   .exact G D t' io ac
 exact qe.aq ((bT [.tree (bK s l),.tree r] (by
  intro T Q;simp only[aF,a5,a9]at Q;rcases Q with rfl|rfl
  .exact px
  .exact pr)).ax λh e H1=>loop l.length 0 h e io (λD t ah=>io) H1)
def FK(k:Int)(t:Rx):∀(l out:List Rx),hr k out (l++[t])=if k=3 then hr k out l++[t]else lZ t (hr k out l)
 |[],out=>by show hr k (if k=3 then out++[t]else lZ t out) []=_;unfold hr;rfl
 |a::l,out=>by show hr k (if k=3 then out++[a]else lZ a out) (l++[t])=_;rw[FK k t l];rfl
def acZ(x d:I)(w:x.k=3\/x.k=4\/x.k=5)(h:d.rx=eL):∃(j:Nat) (u z:I),aD .i64 (x.k - 3)=(j:Int)/\j<3/\[fI,ck,d][j]? =some u/\[ck,d,ck][j]? =some z/\(u=fI\/u=ck\/u=d)/\(z=ck\/z=d)/\u.rx≠z.rx/\
  h8 (.mk x.k 0 0 (I.ao x.l))=gZ x.k (I.ao x.l) u.rx z.rx:=by
 rcases w with q|q|q<;>rw[q]
 .exact ⟨0,fI,ck,dl,dl,rfl,rfl,.inl rfl,.inl rfl,(by intro e;cases e),rfl⟩
 .exact ⟨1,ck,d,dl,dl,rfl,rfl,.inr (.inl rfl),.inr rfl,(by rw[h];intro e;cases e),by rw[h];rfl⟩
 .exact ⟨2,d,ck,dl,dl,rfl,rfl,.inr (.inr rfl),.inl rfl,(by rw[h];intro e;cases e),by rw[h];rfl⟩
section
variable {x ev u z:I} {sf:Sl} {w:J} {b4 b8 b9:Nat}
def aaM(bq:x.sz<=10000)(bj:ev.rx=eL)(bu:∀b∈ev.fp,w.heap.size<=b)(hu:u=fI\/u=ck\/u=ev)(aN:z=ck\/z=ev)(aY:u.rx≠z.rx)(aG:h8 (.mk x.k 0 0 (I.ao x.l))=gZ x.k (I.ao x.l) u.rx z.rx){j:J}(H:O F0 w j [.g b4,.g b8,.g b9] [.tree x,.tree ev,.tree (bK sf (x.l.flatMap (e4 x)))]):
  iw.il x.k b4 0 0 0 ⟨none,0,0⟩ sf b8 u.k u.lo.toNat u.hi.toNat u.s b9 z.k z.lo.toNat z.hi.toNat z.s ⟨none,0,0⟩ 0 j λr A=>gy x.fp w (h8 (.mk x.k 0 0 (I.ao x.l))) r A/\ag w A:=by
 let R:aB:=λr A=>gy x.fp w (h8 (.mk x.k 0 0 (I.ao x.l))) r A/\ag w A
 have aM:Sub x (x.l.flatMap (e4 x)):=Sub.flat λ_ ab=>ab;have aV:I.a3 (x.l.flatMap (e4 x))<=I.a3 x.l:=vj x x.l;have an:((x.l.flatMap (e4 x)).map I.rx).filter (λt=>!(bn t u.rx==0))=hj x.k (I.ao x.l) u.rx:=by rw[<-wD];unfold gB;rw[List.filter_map];rfl
 generalize x.l.flatMap (e4 x)=fl at H aM aV an;have ay:=aM;have bl:=I.iJ x;have bk:I.a3 fl<=10000:=io
 have bs:=I.ga fl;have nr:sf.n=fl.length:=I.cw (dk.1 (show(bK sf fl).P j from H.getD 2)).1;have az:∀A,ev.P A->u.P A:=λA ab=>by
  rcases hu with rfl|rfl|rfl
  .exact yY A
  .exact lf A
  omega
 have aq:∀A,ev.P A->z.P A:=λA ab=>by
  rcases aN with rfl|rfl
  .exact lf A
  omega
 have aX:∀b∈u.fp,w.heap.size<=b:=λb e=>by
  rcases hu with rfl|rfl|rfl
  .exact (yZ e).elim
  .exact (lg e).elim
  grind
 have aO:∀b∈z.fp,w.heap.size<=b:=λb e=>by
  rcases aN with rfl|rfl
  .exact (lg e).elim
  grind
 have aC:∀t∈fl,t.rx=z.rx->h8 (.mk x.k 0 0 (I.ao x.l))=z.rx:=λt ht ac=>by rw[aG];unfold gZ;rw[af];rw[List.any_eq_true];refine⟨t.rx,?_,rq.2 ac⟩;rw[<-an,List.mem_filter];exact⟨dN.2 ⟨t,ht,rfl⟩,Jk.2 (ac▸λab=>aY ab.symm)⟩
 have aR:(∀t∈fl,t.rx≠z.rx)->h8 (.mk x.k 0 0 (I.ao x.l))=tX x.k u.rx (hr x.k [] ((fl.map I.rx).filter λt=>!(bn t u.rx==0))):=λab=>by
  rw[aG,ZN,an];unfold gZ;rw[aa]
  .rfl
  .rw [List.any_eq_true];rintro⟨t,ht,he⟩;rw[<-an,List.mem_filter]at ht;obtain⟨Y,y,rfl⟩:=dN.1 ht.1;exact ab Y y (rq.1 he)
 have fin:∀(h:List I) (q:Sl) (L D:List En) (j:J),(∀t∈fl,t.rx≠z.rx)->h.map I.rx=hr x.k [] ((fl.map I.rx).filter λt=>!(bn t u.rx==0))->(∀t∈h,t∈fl)->O F0 w j L (.tree x::.tree ev::D)->(∀b∈[b4,b8,b9],En.g b∈L)->(∀A,O F0 w A L (.tree x::.tree ev::D)->bo 4 A q (h.flatMap I.c)/\∀b∈(I.row q h).fp,w.heap.size<=b\/b∈x.fp)->
   bB ((q.n:Int)==0) (loc [b4,b8,b9] j λbg=>R (ad u.v) bg) (bB ((q.n:Int)==1) (nN q 0 λp=>jx j (p.add (aZ 0 *4)) λa b c d=>loc [b4,b8,b9] j λbh=>R (ad (.agg #[.i a,.int .u8 b,.int .u8 c,d.v])) bh) (loc [b4,b8,b9] j λbi=>R (ad (.agg #[.i x.k,.int .u8 0,.int .u8 0,q.v])) bi)):=by
  intro h q L D j W K T H e aJ;have aH:=aJ j H;have bw:=I.cw aH.1;have ej:=aR W;rw[<-K]at ej;have ap:Sub x h:=ay.sub T;refine aw (λS=>H.ae (λF B=>⟨⟨u,rfl,?_,az F (B.getD 1),λb e=>.inl (aX b e)⟩,B.fr⟩) e) (λS=>aw (λh1=>?_) (λh1=>H.ae (λF B=>⟨⟨.mk x.k 0 0 q h,rfl,?_,?_,λb e=>?_⟩,B.fr⟩) e))
  .have:h=[]:=List.length_eq_zero_iff.1 io;rw[ej,this];rfl
  .obtain ⟨a,rfl⟩:=List.length_eq_one_iff.1 (show h.length=1 by omega);refine⟨io,io,I.aT aH.1 (i:=0) (t:=a) rfl λp M c=>⟨_,_,_,_,c.c0,c.c1,c.c2,c.c3,H.ae (λF B=>⟨⟨a,rfl,?_,ap.P _ (B.getD 0) a gs,λb e=>.inr (ap.fp a gs b e)⟩,B.fr⟩) e⟩⟩;rw[ej];rfl
  .rw [ej];unfold I.rx;rw[I.fN];cases h with
   |nil=>grind
   |cons a ks=>
    cases ks with
    |nil=>grind
    |cons b ks=>rfl
  .unfold I.P;exact⟨(aJ F B).1,ap.Ps (B.getD 0)⟩
  .unfold I.fp at e;rcases aK.1 e with e|e
   .grind
   .exact .inr (ap.bd e)
 have a1:x.k=3->∀(d i:Nat) (q:Sl) (h:List I) (j:J),i+d=fl.length->(∀t∈fl.take i,t.rx≠z.rx)->h.map I.rx=hr x.k [] (((fl.take i).map I.rx).filter λt=>!(bn t u.rx==0))->(∀t∈h,t∈fl)->I.a3 h<=I.a3 (fl.take i)->
   O F0 w j [.g b4,.g b8,.g b9,.row aI 4 q (h.flatMap I.c)] [.tree x,.tree ev,.tree (bK sf fl)]->iw.il x.k b4 0 0 0 ⟨none,0,0⟩ sf b8 u.k u.lo.toNat u.hi.toNat u.s b9 z.k z.lo.toNat z.hi.toNat z.s q (i:Int) j R:=by
  intro hk d;induction d with
  |zero=>
   intro i q h j ar W K T hs H;rw[fA io]at W K;refine iw.nO (aW (aS io) ?_);exact fin h q _ _ j W K T H gs (λA H'=>⟨(H'.get 3:aL _ _ _ _ _).a2,λb e=>.inl ((H'.new _ (aA (i:=3) rfl) b (gL e)).resolve_right id)⟩)
  |succ d am=>
   intro i q h j ar W K T hs H;have C:fl[i]? =some fl[i]:=a0 io;generalize fl[i]'io=t at C;have E:=aA C;have bf:=I.eJ E;have ah:fl.take (i+1)=fl.take i++[t]:=by rw[g5,C];rfl
   have ba:I.a3 (fl.take (i+1))=I.a3 (fl.take i)+t.sz:=by rw[ah,vi];rfl
   have bc:=A8 fl (i+1);refine iw.nO (aU (aQ io) ⟨io,io,I.aT (dk.1 (show(bK sf fl).P j from H.getD 2)).1 C λp M _=>H.ae λF B=>?_⟩);have p2:(bK sf fl).P F:=B.getD 2;have N:=I.again (dk.1 p2).1 C M;refine⟨_,_,_,_,N.c0,N.c1,N.c2,N.c3,B.av (q' t z F io ((dk.1 p2).2.mem E) (aq F (B.getD 1))) ?_⟩;rintro _ w3 rfl Z;refine⟨_,rfl,aw (λS=>Z.ae λw4 H4=>⟨⟨z,rfl,?_,aq w4 (H4.getD 1),λb e=>.inl (aO b e)⟩,H4.fr⟩) (λS=>?_)⟩
   .exact (aC t E (v5.1 S)).symm
   refine⟨io,io,I.aT (dk.1 (show(bK sf fl).P w3 from Z.getD 2)).1 C λp M _=>Z.ae λw5 H5=>?_⟩;have p5:(bK sf fl).P w5:=H5.getD 2;have Q:=I.again (dk.1 p5).1 C M;refine⟨_,_,_,_,Q.c0,Q.c1,Q.c2,Q.c3,H5.av (q' t u w5 io ((dk.1 p5).2.mem E) (az w5 (H5.getD 1))) ?_⟩;rintro _ w6 rfl G;have ak:∀Y∈fl.take (i+1),Y.rx≠z.rx:=λY y=>by
    rw[ah]at y;rcases aK.1 y with y|y
    .grind
    .simp at y;subst y;exact λac=>S (v5.2 ac)
   refine⟨_,rfl,aw (λh1=>?_) (λh1=>aU (beq_iff_eq.2 hk) ?_)⟩
   .show iw.il _ _ _ _ _ _ _ _ _ _ _ _ _ _ _ _ _ _ _ _ _;rw[bp _ io];refine am (i+1) q h w6 io ak ?_ T io G
    grind
   .have ef:((fl.take (i+1)).map I.rx).filter (λt=>!(bn t u.rx==0))=(((fl.take i).map I.rx).filter λt=>!(bn t u.rx==0))++[t.rx]:=by grind
    refine⟨io,io,I.aT (dk.1 (show(bK sf fl).P w6 from G.getD 2)).1 C λp M c=>⟨_,_,_,_,c.c0,c.c1,c.c2,c.c3,?_⟩⟩;have bv:=I.cw (G.get 3:aL _ _ _ _ _).a2;have bt:=I.ga h;refine G.jn 3 lP (xs:=h.flatMap I.c) rfl (λs' w7 H7=>?_) io;show iw.il _ _ _ _ _ _ _ _ _ _ _ _ _ _ _ _ _ _ _ _ _;rw[bp _ io];refine am (i+1) s' (h++[t]) w7 io ak ?_ (λY y=>?_) (by rw[vi];show _+(t.sz+0)<=_;omega) ?_
    .rw [ef,FK,af hk,fh,K];rfl
    .rcases aK.1 y with y|y
     .grind
     grind
    .rw [nq];exact H7
 have a4:x.k≠3->∀(d i:Nat) (q:Sl) (h:List I) (j:J),i+d=fl.length->(∀t∈fl.take i,t.rx≠z.rx)->h.map I.rx=hr x.k [] (((fl.take i).map I.rx).filter λt=>!(bn t u.rx==0))->(∀t∈h,t∈fl)->I.a3 h<=I.a3 (fl.take i)->(∀b∈(bK q h).fp,w.heap.size<=b\/b∈x.fp)->
   O F0 w j [.g b4,.g b8,.g b9] [.tree x,.tree ev,.tree (bK sf fl),.tree (bK q h)]->iw.il x.k b4 0 0 0 ⟨none,0,0⟩ sf b8 u.k u.lo.toNat u.hi.toNat u.s b9 z.k z.lo.toNat z.hi.toNat z.s q (i:Int) j R:=by
  intro hk d;induction d with
  |zero=>
   intro i q h j ar W K T hs ax H;rw[fA io]at W K;refine iw.nO (aW (aS io) ?_);exact fin h q _ _ j W K T H gs (λA H'=>⟨(dk.1 (show(bK q h).P A from H'.getD 3)).1,λb e=>ax b (mK.2 (.inl e))⟩)
  |succ d am=>
   intro i q h j ar W K T hs ax H;have C:fl[i]? =some fl[i]:=a0 io;generalize fl[i]'io=t at C;have E:=aA C;have bf:=I.eJ E;have ah:fl.take (i+1)=fl.take i++[t]:=by rw[g5,C];rfl
   have ba:I.a3 (fl.take (i+1))=I.a3 (fl.take i)+t.sz:=by rw[ah,vi];rfl
   have bc:=A8 fl (i+1);refine iw.nO (aU (aQ io) ⟨io,io,I.aT (dk.1 (show(bK sf fl).P j from H.getD 2)).1 C λp M _=>H.ae λF B=>?_⟩);have p2:(bK sf fl).P F:=B.getD 2;have N:=I.again (dk.1 p2).1 C M;refine⟨_,_,_,_,N.c0,N.c1,N.c2,N.c3,B.av (q' t z F io ((dk.1 p2).2.mem E) (aq F (B.getD 1))) ?_⟩;rintro _ w3 rfl Z;refine⟨_,rfl,aw (λS=>Z.ae λw4 H4=>⟨⟨z,rfl,?_,aq w4 (H4.getD 1),λb e=>.inl (aO b e)⟩,H4.fr⟩) (λS=>?_)⟩
   .exact (aC t E (v5.1 S)).symm
   refine⟨io,io,I.aT (dk.1 (show(bK sf fl).P w3 from Z.getD 2)).1 C λp M _=>Z.ae λw5 H5=>?_⟩;have p5:(bK sf fl).P w5:=H5.getD 2;have Q:=I.again (dk.1 p5).1 C M;refine⟨_,_,_,_,Q.c0,Q.c1,Q.c2,Q.c3,H5.av (q' t u w5 io ((dk.1 p5).2.mem E) (az w5 (H5.getD 1))) ?_⟩;rintro _ w6 rfl G;have ak:∀Y∈fl.take (i+1),Y.rx≠z.rx:=λY y=>by
    rw[ah]at y;rcases aK.1 y with y|y
    .grind
    .simp at y;subst y;exact λac=>S (v5.2 ac)
   refine⟨_,rfl,aw (λh1=>?_) (λh1=>aW (by grind) ?_)⟩
   .show iw.il _ _ _ _ _ _ _ _ _ _ _ _ _ _ _ _ _ _ _ _ _;rw[bp _ io];refine am (i+1) q h w6 io ak ?_ T io ax G
    grind
   .have ef:((fl.take (i+1)).map I.rx).filter (λt=>!(bn t u.rx==0))=(((fl.take i).map I.rx).filter λt=>!(bn t u.rx==0))++[t.rx]:=by grind
    refine⟨io,io,I.aT (dk.1 (show(bK sf fl).P w6 from G.getD 2)).1 C λp M c=>⟨_,_,_,_,c.c0,c.c1,c.c2,c.c3,?_⟩⟩;refine kf ((Vb q h t w6 io io (G.getD 3) ((dk.1 (show(bK sf fl).P w6 from G.getD 2)).2.mem E)).mono ?_);rintro _ w7 ⟨⟨s',rfl,a9,aP⟩,f7⟩;refine⟨f7,?_⟩;have a6:∀b∈(bK s' (hx t h)).fp,w.heap.size<=b\/b∈x.fp:=λb e=>by
     rcases aP b e with e|e
     .exact .inl (bD G.fr.size e)
     .rcases aK.1 e with e|e
      .grind
      .exact .inr (ay.fp t E b e)
    have H8:O F0 w w7 [.g b4,.g b8,.g b9] [.tree x,.tree ev,.tree (bK sf fl),.tree (bK q h),.tree (bK s' (hx t h))]:=G.ec _ f7 a9 λb e=>by
     rcases aP b (a7.1 e)with e|e
     .omega
     .rcases aK.1 e with e|e
      .exact .inr (.inr ⟨_,aA (i:=3) rfl,a7.2 e⟩)
      .exact .inr (.inr ⟨_,aA (i:=0) rfl,a7.2 (ay.fp t E b e)⟩)
    refine⟨s',rfl,?_⟩;show iw.il _ _ _ _ _ _ _ _ _ _ _ _ _ _ _ _ _ _ _ _ _;rw[bp _ io];refine am (i+1) s' (hx t h) w7 io ak ?_ (λY y=>?_) (by have:=Qc t h;omega) a6 (H8.forget _ gs)
    .rw [ef,FK,aa hk,Qe,K]
    .rcases Ap y with rfl|y
     .exact E
     grind
 by_cases hk:x.k=3
 .exact a1 hk fl.length 0 ⟨none,0,0⟩ [] j io gs (by simp[hr]) gs (by grind) (H.hP aI 4)
 .refine a4 hk fl.length 0 ⟨none,0,0⟩ [] j io gs (by simp[hr]) gs (by grind) (λb e=>?_) (H.ec (.tree (bK ⟨none,0,0⟩ [])) (Fr.refl _ _) (dk.2 ⟨bo.nil 4 j,by unfold I.Ps;trivial⟩) λb e=>?_)
  .rcases mK.1 e with e|e
   .simp [I.row,En.a2]at e
   .unfold I.bd at e;cases e
  .rcases mK.1 (a7.1 e)with e|e
   .simp [I.row,En.a2]at e
   .unfold I.bd at e;cases e
end
def Vh(x:I)(hk:3<=x.k/\x.k<=7)(hx:x.sz<=10000)(N:k6 (.mk x.k 0 0 (I.ao x.l))=true)(aO:∀c∈x.l,0<=c.k)(w:J)(px:x.P w):
  aj U MH #[.i x.k,x.s.v] w λr w'=>gy x.fp w (h8 (.mk x.k 0 0 (I.ao x.l))) r w'/\ag w w':=by
 have nr:=I.cw px.parts.1;have bg:=I.iJ x;have a9:=I.ga x.l;refine iw.aq ((gH px).ax λG F H1=>H1.hh (Cs F) ?_);rintro _ w2 ⟨j,rfl,am,aX,aC⟩ H2 F2;have H3:O F0 w w2 [.g G] [.tree x,.tree j]:=F2.rd (.tree j) aX λb h=>aC b (a7.1 h);have aV:∀b∈j.fp,w.heap.size<=b:=λb h=>bD H1.fr.size (aC b h);have pc:∀{w':J} {c:I},x.P w'->x.l[0]? =some c->c.P w':=λah e=>ah.parts.2.mem (aA e);have fc:∀{c:I},x.l[0]? =some c->∀b∈c.fp,b∈x.fp:=λe b h=>I.gC.2 (.inr (I.bS.2 ⟨_,aA e,h⟩));refine⟨_,_,_,j.s,rfl,H3.ax λK w3 D=>aw (λY=>?_) (λY=>aw (λh7=>?_) (λh7=>D.ae λM B=>?_))⟩
 .
  cases S:x.l with
  |nil=>rw[S,Y]at N;simp[k6,I.ao]at N
  |cons c C=>
   have e:x.l[0]? =some c:=by grind
   have n2:0<x.s.n:=by grind
   have e1:I.ao (c::C)=c.rx::I.ao C:=rfl;have ef:h8 (.mk x.k 0 0 (I.ao (c::C)))=qq 0 0 (c.rx::I.ao C):=by rw[Y];rfl
   rw[ef];refine⟨io,io,I.aT (show x.P w3 from D.getD 0).parts.1 e λp A _=>D.ae λw5 B=>?_⟩;have Q:x.P w5:=B.getD 0;have y:=I.again Q.parts.1 e A;refine⟨c.k,y.c0,aw (λak=>⟨io,io,I.aT Q.parts.1 e λp A y=>⟨c.s,y.c3,?_⟩⟩) (λak=>B.ae λz q=>⟨⟨.mk 6 0 0 x.s x.l,rfl,?_,?_,λb h=>.inr ?_⟩,q.fr⟩)⟩
   .cases az:c.l with
    |nil=>
     rw[S,e1]at N;have e2:c.rx.l.isEmpty=true:=by rw[xE,az];rfl
     simp[k6,Y,l4,ak,e2]at N
    |cons d l2=>
     have an:c.l[0]? =some d:=by grind
     refine jY (pc Q e) rfl an (B.ae λz q=>⟨⟨d,rfl,?_,(pc (q.getD 0) e).parts.2.mem (aA an),λb h=>.inr (fc e b (I.gC.2 (.inr (I.bS.2 ⟨d,aA an,h⟩))))⟩,q.fr⟩);show d.rx=if c.rx.k=6 then _ else _;rw[af (by rw[l4,ak]),xE,az];rfl
   .show Rx.mk 6 0 0 (I.ao x.l)=if c.rx.k=6 then _ else _;rw[aa (by rw[l4];omega),S,e1]
   .unfold I.P;exact(show x.P z from q.getD 0).parts
   .unfold I.fp at h;exact I.gC.2 (aK.1 h)
 .
  cases S:x.l with
  |nil=>rw[S,h7]at N;simp[k6,I.ao]at N
  |cons c C=>
   have e:x.l[0]? =some c:=by grind
   have n2:0<x.s.n:=by grind
   have e1:I.ao (c::C)=c.rx::I.ao C:=rfl;have ef:h8 (.mk x.k 0 0 (I.ao (c::C)))=l8 0 0 (c.rx::I.ao C):=by rw[h7];rfl
   rw[ef];have aG:l8 0 0 (c.rx::I.ao C)=if c.k=0\/c.k=1 then nZ else if c.k=7\/bn c.rx eL=0 then c.rx else .mk 7 0 0 (c.rx::I.ao C):=by unfold l8;simp only[l4]
   have a4:c.sz<=1000000:=by have:=I.eJ (aA e);omega
   have s0:∀(z:J),¬(c.k=0\/c.k=1)->(c.k=7\/bn c.rx eL=0)->O F0 w z [.g G,.g K] [.tree x,.tree j]->iw.a1 x.s G 0 0 0 ⟨none,0,0⟩ z λr w'=>gy x.fp w (l8 0 0 (c.rx::I.ao C)) r w'/\ag w w':=by
    intro z h1 h2 q;refine⟨io,io,I.aT (show x.P z from q.getD 0).parts.1 e λp A y=>⟨_,_,_,_,y.c0,y.c1,y.c2,y.c3,(q.take 1).ae λw7 E=>⟨⟨c,rfl,?_,pc (E.getD 0) e,λb h=>.inr (fc e b h)⟩,E.fr⟩⟩⟩
    grind
   refine⟨io,io,I.aT (show x.P w3 from D.getD 0).parts.1 e λp A _=>D.ae λw5 B=>?_⟩;have Q:x.P w5:=B.getD 0;have y:=I.again Q.parts.1 e A;have a6:0<=c.k:=aO c (aA e);refine⟨c.k,y.c0,aY (λh2=>B.ae λz q=>⟨⟨fI,rfl,?_,yY z,λb h=>(yZ h).elim⟩,q.fr⟩) (λh2=>?_)⟩
   .rw [aG,af io];rfl
   refine⟨io,io,I.aT Q.parts.1 e λp A _=>B.ae λz q=>?_⟩;have ap:x.P z:=q.getD 0;have y:=I.again ap.parts.1 e A;refine⟨c.k,y.c0,aw (λay=>s0 z io (.inl ay) q) (λay=>⟨io,io,I.aT ap.parts.1 e λp A y=>⟨_,_,_,_,y.c0,y.c1,y.c2,y.c3,q.av (q' c j z a4 (pc ap e) (q.getD 1)) ?_⟩⟩)⟩;rintro _ w7 rfl E;rw[am];refine⟨_,rfl,aw (λh0=>s0 w7 io (.inr h0) E) (λh0=>E.ae λw8 W=>⟨⟨.mk 7 0 0 x.s x.l,rfl,?_,?_,λb h=>.inr ?_⟩,W.fr⟩)⟩
   .show Rx.mk 7 0 0 (I.ao x.l)=_
    grind
   .unfold I.P;exact(show x.P w8 from W.getD 0).parts
   .unfold I.fp at h;exact I.gC.2 (aK.1 h)
 .
  have aH:x.k=3\/x.k=4\/x.k=5:=io
  obtain⟨bi,u,bl,ew,hj,gu,gz,hu,aR,aP,aJ⟩:=acZ x j aH am;have loop:∀(d i:Nat) (acc:List I) (sl:Sl) (F:J),i+d=x.l.length->acc=(x.l.take i).flatMap (e4 x)->O F0 w F [.g G,.g K,.row aI 4 sl (acc.flatMap I.c)] [.tree x,.tree j]->
    iw.cu x.k x.s G 0 0 0 ⟨none,0,0⟩ K j.k j.lo.toNat j.hi.toNat j.s sl (i:Int) F λr w'=>gy x.fp w (h8 (.mk x.k 0 0 (I.ao x.l))) r w'/\ag w w':=by
   intro d;induction d with
   |zero=>
    intro i acc sl F aM Z H;rw[fA io]at Z;subst Z;have aB:Sub x (x.l.flatMap (e4 x)):=Sub.flat λ_ ah=>ah;have T:=(H.ec (.trees (x.l.flatMap (e4 x))) (Fr.refl _ _) (aB.Ps (H.getD 0)) (λb h=>.inr (.inr ⟨_,aA (i:=0) rfl,a7.2 (aB.bd (a7.1 h))⟩))).sg 2 2 0 0 0;have T:O F0 w F [.g G,.g K] [.tree x,.tree j,.tree (bK sl (x.l.flatMap (e4 x)))]:=T.forget _ gs;refine iw.dQ (aW (aS io) ?_);refine T.e3 (n:=3) (sz:=4) (cs:=[fI,ck,j].flatMap I.c) rfl dl λw2 H2=>?_;rw[ew];refine⟨io,io,I.aT (s:=⟨some (ab F.heap.size),3,3⟩) (l:=[fI,ck,j]) (H2.get 2:aL _ _ _ _ _).a2 gu λp A c=>⟨_,_,_,_,c.c0,c.c1,c.c2,c.c3,H2.ax λb8 w3 H3=>H3.ae λM D=>D.e3 (n:=3) (sz:=4) (cs:=[ck,j,ck].flatMap I.c) rfl dl λw5 B=>⟨io,io,I.aT (s:=⟨some (ab M.heap.size),3,3⟩) (l:=[ck,j,ck]) (B.get 4:aL _ _ _ _ _).a2 gz λp A c=>⟨_,_,_,_,c.c0,c.c1,c.c2,c.c3,B.ax λb9 z q=>q.ae λw7 E=>?_⟩⟩⟩⟩;have W:=((E.freeze 1 (.g K) rfl (E.get 1) λb h=>h).freeze 1 _ rfl (E.get 2) λb h=>h).freeze 2 _ rfl (E.get 4) λb h=>h;exact aaM hx am aV hu aR aP aJ (W.forget _ gs)
   |succ d bh=>
    intro i acc sl F aM Z H;have e:x.l[i]? =some (x.l[i]'io):=a0 io;generalize x.l[i]'io=a at e;have hm:=aA e;have ac:x.P F:=H.getD 0;have bk:=I.eJ hm;have bf:I.a3 acc<=I.a3 x.l:=by
     have h1:=vj x (x.l.take i);have h2:=A8 x.l i
     grind
    have ba:acc++e4 x a=(x.l.take (i+1)).flatMap (e4 x):=by rw[g5,e,dL,Z];simp
    have bj:=I.cw (H.get 2:aL _ _ _ _ _).a2;have aN:=I.ga acc;have tail:∀(L:Sl) (w':J),O F0 w w' [.g G,.g K,.row aI 4 L ((acc++e4 x a).flatMap I.c)] [.tree x,.tree j]->iw.bC x.k x.s G 0 0 0 ⟨none,0,0⟩ K j.k j.lo.toNat j.hi.toNat j.s L (i:Int) w' λr w'=>gy x.fp w (h8 (.mk x.k 0 0 (I.ao x.l))) r w'/\ag w w':=by
     intro L w' T;show iw.cu _ _ _ _ _ _ _ _ _ _ _ _ _ _ _ _;rw[bp _ io]
     grind
    refine iw.dQ (aU (aQ io) ⟨io,io,I.aT ac.parts.1 e λp A c=>⟨a.k,c.c0,aw (λhk=>?_) (λhk=>?_)⟩⟩)
    .have pa:a.P F:=ac.parts.2.mem hm;have na:=I.cw pa.parts.1;have aN:=I.ga a.l;have bc:=I.iJ a;refine⟨io,io,I.aT ac.parts.1 e λp A c=>⟨a.s,c.c3,?_⟩⟩;refine H.eD 2 lP (xs:=acc.flatMap I.c) (src:=a.s) (news:=a.l.flatMap I.c) rfl pa.parts.1 (tu _) io (λL M D=>?_);refine tail L M ?_;have ar:e4 x a=a.l:=af hk
     grind
    .refine ⟨io,io,I.aT ac.parts.1 e λp A c=>⟨_,_,_,_,c.c0,c.c1,c.c2,c.c3,?_⟩⟩;refine H.jn 2 lP (xs:=acc.flatMap I.c) rfl (λL M D=>?_) io;refine tail L M ?_;have ar:e4 x a=[a]:=aa hk;rw[ar,nq];exact D
  exact loop x.l.length 0 [] ⟨none,0,0⟩ M io rfl (B.hP aI 4)
def uX(k:Int):Rx:=if k=3 then nZ else if k=4 then fK else eL
def zX(k:Int):Rx:=if k=4 then eL else fK
mutual
def NF:Rx->Prop
 |.mk d lo e l=>nP l/\(d≠2->lo=0/\e=0)/\(((d=0\/d=1)/\l=[])\/(d=2/\l=[]/\lo.toNat<=e.toNat)\/
   ((d=3\/d=4\/d=5)/\2<=l.length/\(d≠3->jO l)/\∀t∈l,t.k≠d/\t≠uX d/\t≠zX d)\/
   (d=6/\∃c,l=[c]/\c.k≠6)\/(d=7/\∃c,l=[c]/\c.k≠0/\c.k≠1/\c.k≠7/\c≠eL))
def nP:List Rx->Prop
 |[]=>True
 |a::l=>NF a/\nP l
end
def vE:∀{l:List Rx},nP l↔∀t∈l,NF t
 |[]=>by unfold nP;simp
 |a::l=>by unfold nP;rw[vE];simp
def xb:NF fK:=by unfold fK NF nP;simp
def Fp:NF nZ:=by unfold nZ NF nP;simp
def OR:NF eL:=by unfold eL NF nP nP;refine⟨⟨xb,trivial⟩,gs,.inr (.inr (.inr (.inl ⟨rfl,fK,rfl,dl⟩)))⟩
def Zc(k:Int):NF (uX k):=by
 unfold uX;split
 .exact Fp
 .split
  .exact xb
  .exact OR
def Zd(k:Int):NF (zX k):=by
 unfold zX;split
 .exact OR
 .exact xb
def OS{x:Rx}(d:NF x):∀t∈x.l,NF t:=by cases x;unfold NF at d;exact vE.1 d.1
def Y9{x:Rx}{k:Int}(q:k=3\/k=4\/k=5)(d:NF x)(e:x.k=k):2<=x.l.length/\(k≠3->jO x.l)/\∀t∈x.l,t.k≠k/\t≠uX k/\t≠zX k:=by
 cases x with
 |mk h lo j l=>
  have e:h=k:=e;subst e;unfold NF at d;obtain⟨-,-,d|d|d|d|d⟩:=d
  .omega
  .omega
  .exact d.2
  .omega
  .omega
def WB{k:Int}{l:List Rx}{u t:Rx}:t∈hj k l u↔(∃c∈l,if c.k=k then t∈c.l else t=c)/\t≠u:=by
 unfold hj;rw[List.mem_filter,cl,Jk]
 grind
def WC{k:Int}(w:k=3\/k=4\/k=5){l:List Rx}(e:∀c∈l,NF c){t:Rx}(x:t∈hj k l (uX k)):NF t/\t.k≠k/\t≠uX k:=by
 obtain⟨⟨c,h,d⟩,q⟩:=WB.1 x;split at d
 .rename_i j;exact⟨OS (e c h) t d,((Y9 w (e c h) j).2.2 t d).1,q⟩
 grind
def mP(k:Int)(l:List Rx):List Rx:=if k=3 then hj k l (uX k)else u4 (hj k l (uX k))
def aaI{k:Int}{l:List Rx}{t:Rx}:t∈mP k l↔t∈hj k l (uX k):=by
 unfold mP;split
 .grind
 .exact RG
def K6(k:Int)(l:List Rx):((hj k l (uX k)).any λt=>bn t (zX k)==0)=true↔zX k∈hj k l (uX k):=by
 rw[List.any_eq_true];constructor
 .rintro ⟨t,e,d⟩;rw[rq.1 d]at e;exact e
 .exact λd=>⟨_,d,rq.2 rfl⟩
def K8{k:Int}{l:List Rx}(d:zX k∈hj k l (uX k)):gZ k l (uX k) (zX k)=zX k:=by unfold gZ;rw[af ((K6 k l).2 d)]
def K7{k:Int}{l:List Rx}(d:¬zX k∈hj k l (uX k)):gZ k l (uX k) (zX k)=tX k (uX k) (mP k l):=by unfold gZ;rw[aa (λe=>d ((K6 k l).1 e))];rfl
def XC{k:Int}(q:k=3\/k=4\/k=5){l:List Rx}(x:∀c∈l,NF c):NF (gZ k l (uX k) (zX k)):=by
 by_cases w:zX k∈hj k l (uX k)
 .rw [K8 w];exact Zd k
 .rw [K7 w];have e:∀t∈mP k l,NF t/\t.k≠k/\t≠uX k/\t≠zX k:=λt d=>by
   have d:=aaI.1 d;obtain⟨y,A,h⟩:=WC q x d
   grind
  have j:k≠3->jO (mP k l):=λh=>by unfold mP;rw[aa h];exact RF _
  generalize mP k l=m at e j;unfold tX;split
  .exact Zc k
  .grind
  .rename_i z y;unfold NF;refine⟨vE.2 λt d=>(e t d).1,λ_=>⟨rfl,rfl⟩,.inr (.inr (.inl ⟨q,?_,j,λt d=>(e t d).2⟩))⟩;cases m with
   |nil=>grind
   |cons a m=>
    cases m with
    |nil=>grind
    |cons b m=>simp
def DI{k:Int}(d:k=3\/k=4\/k=5)(lo hi:UInt8)(l:List Rx):h8 (.mk k lo hi l)=gZ k l (uX k) (zX k):=by rcases d with rfl|rfl|rfl<;>rfl
def Zp{c:Rx}(h:NF c):NF (qq 0 0 [c]):=by
 unfold qq;simp only;split
 .rename_i d;split
  .exact xb
  .rename_i e m j;exact OS h e (by grind)
 .rename_i d;unfold NF;exact⟨vE.2 λt k=>by grind,λ_=>⟨rfl,rfl⟩,.inr (.inr (.inr (.inl ⟨rfl,c,rfl,d⟩)))⟩
def abY{c:Rx}(d:NF c):NF (l8 0 0 [c]):=by
 unfold l8;simp only;split
 .exact Fp
 .rename_i e;split
  .exact d
  .rename_i h;unfold NF;exact⟨vE.2 λt j=>by grind,λ_=>⟨rfl,rfl⟩,.inr (.inr (.inr (.inr ⟨rfl,c,rfl,λd=>e (.inl d),λd=>e (.inr d),λd=>h (.inl d),λd=>h (.inr (v5.2 d))⟩)))⟩
def rH{k:Int}{lo hi:UInt8}{l:List Rx}(h:cN (.mk k lo hi l)=true):dT l=true/\(k≠2->lo=0/\hi=0)/\(((k=0\/k=1)/\l=[])\/(k=2/\l=[]/\lo.toNat<=hi.toNat)\/(k=3\/k=4\/k=5)\/((k=6\/k=7)/\∃c,l=[c])):=by
 unfold cN at h;rw[be]at h;obtain⟨q,d⟩:=h;have j:k≠2->lo=0/\hi=0:=λe=>by grind
 split at d
 .rename_i e;have:l=[]:=by grind
  subst this;exact⟨rfl,j,.inl ⟨e,rfl⟩⟩
 .split at d
  .rename_i e;simp only[be,decide_eq_true_eq]at d;have:l=[]:=by grind
   subst this;exact⟨rfl,j,.inr (.inl ⟨e,rfl,d.2⟩)⟩
  .split at d
   .grind
   .split at d
    .rename_i e;simp only[be]at d;exact⟨d.2,j,.inr (.inr (.inr ⟨e,List.length_eq_one_iff.1 (eq_of_beq d.1)⟩))⟩
    grind
def Zb{lo hi:UInt8}(d:lo.toNat<=hi.toNat):NF (.mk 2 lo hi []):=by
 unfold NF nP
 grind
mutual
def O3:∀k:Rx,cN k=true->NF (dG k)
 |.mk A lo z l,q=>by
  obtain⟨w,e,x⟩:=rH q;have j:=Fu l w;unfold dG;rcases x with⟨d,rfl⟩|⟨rfl,rfl,y⟩|d|⟨d,c,rfl⟩
  .obtain ⟨rfl,rfl⟩:=e io;rcases d with rfl|rfl
   .exact xb
   .exact Fp
  .exact Zb y
  .rw [DI d];exact XC d j
  .obtain ⟨rfl,rfl⟩:=e io;have h:NF (dG c):=j _ (by unfold ff;simp);rcases d with rfl|rfl
   .exact Zp h
   .exact abY h
def Fu:∀l:List Rx,dT l=true->∀t∈ff l,NF t
 |[],_=>λt d=>by unfold ff at d;cases d
 |a::l,e=>λt d=>by
  unfold dT at e;rw[be]at e;unfold ff at d;rcases aF.1 d with rfl|d
  .exact O3 a e.1
  .exact Fu l e.2 t d
end
section
variable {μ:Rx->Nat}
def Mj(p:Rx->Bool):∀l:List Rx,ms μ (l.filter p)<=ms μ l
 |[]=>bm _
 |a::l=>by
  have d:=Mj p l;rw[List.filter_cons];split
  .show μ a+_<=μ a+_;omega
  .show _<=μ a+_;omega
def wX:∀{l:List Rx} {a:Rx},a∈l->μ a<=ms μ l
 |b::l,a,d=>by
  rcases aF.1 d with rfl|d
  .show μ a<=μ a+_;omega
  .have:=wX d;show μ a<=μ b+_;omega
def Mk(d:∀e,1<=μ e):∀l:List Rx,l.length<=ms μ l
 |[]=>bm _
 |a::l=>by have:=Mk d l;have:=d a;show l.length+1<=μ a+ms μ l;omega
def Mi:∀(l:List Rx) (p:Rx),ms μ (k2 p l)<=ms μ l
 |[],p=>bm _
 |d::l,p=>by
  have:=Mi l d;unfold k2;split
  .show _<=μ d+ms μ l;omega
  .show μ d+_<=μ d+ms μ l;omega
def YS(l:List Rx):ms μ (u4 l)<=ms μ l:=by
 have d:ms μ (rr (lx l))<=ms μ (lx l):=by
  cases lx l with
  |nil=>exact bm _
  |cons a m=>have:=Mi (μ:=μ) m a;show μ a+_<=μ a+_;omega
 rw[<-YR (GI l)];exact d
def EA(d:∀e,ms μ e.l<=μ e)(k:Int):∀l:List Rx,ms μ (l.flatMap λc=>if c.k=k then c.l else[c])<=ms μ l
 |[]=>bm _
 |c::l=>by
  have j:=EA d k l;have h:=d c;rw[da,Mh];show _<=μ c+ms μ l;split
  .omega
  .show (μ c+0)+_<=_;omega
def Mm(h:∀e,ms μ e.l<=μ e)(k:Int)(l:List Rx):ms μ (mP k l)<=ms μ l:=by
 have d:ms μ (hj k l (uX k))<=ms μ l:=bD (Mj _ _) (EA h k l);unfold mP;split
 .exact d
 .exact bD (YS _) d
end
def GU:∀l:List Rx,Rx.a3 l=ms Rx.sz l
 |[]=>rfl
 |a::l=>by unfold Rx.a3;rw[GU l];rfl
def pJ(k:Int)(lo hi:UInt8)(l:List Rx):(Rx.mk k lo hi l).sz=1+ms Rx.sz l:=by unfold Rx.sz;rw[GU]
def Se(x:Rx):ms Rx.sz x.l<=x.sz:=by cases x;rw[pJ];simp only[Rx.l];omega
def Ev(x:Rx):ms dh x.l<=dh x:=by cases x;rw[rO];simp only[Rx.l];omega
def Yy(x:Rx):1<=dh x:=by cases x;rw[rO];omega
mutual
def LU:∀d:Rx,dh d<=d.sz
 |.mk h lo e l=>by rw[rO,pJ];have:=LW l;omega
def LW:∀l:List Rx,ms dh l<=ms Rx.sz l
 |[]=>bm _
 |a::l=>by have d:=LU a;have e:=LW l;show dh a+ms dh l<=a.sz+ms Rx.sz l;omega
end
def La{k:Int}{l:List Rx}{P:Rx->Prop}(j:P (zX k))(w:P (uX k))(e:∀a,a∈mP k l->P a)(h:P (.mk k 0 0 (mP k l))):P (gZ k l (uX k) (zX k)):=by
 by_cases d:zX k∈hj k l (uX k)
 .rw [K8 d];exact j
 .rw [K7 d];generalize q:mP k l=m at e h;unfold tX
  grind
def Tb(k:Int):(uX k).sz<=2/\(zX k).sz<=2/\dh (uX k)=1/\dh (zX k)=1:=by
 unfold uX zX;refine⟨?_,?_,?_,?_⟩
 .split
  .decide
  .split<;>decide
 .split<;>decide
 .split
  .decide
  .split<;>decide
 .split<;>decide
def Pe{k:Int}{c:Rx}(e:k=6\/k=7){P:Rx->Prop}(h:P fK)(j:P nZ)(w:P c)(hd:∀d∈c.l,P d)(q:P (.mk k 0 0 [c])):P (h8 (.mk k 0 0 [c])):=by
 rcases e with rfl|rfl
 .show P (qq 0 0 [c]);unfold qq
  grind
 .show P (l8 0 0 [c]);unfold l8
  grind
mutual
def Fs:∀j:Rx,cN j=true->(dG j).sz<=2 *j.sz
 |.mk e lo w l,y=>by
  obtain⟨z,q,A⟩:=rH y;have h:=z2 l z;have D:=pJ e lo w l;rw[D];unfold dG;rcases A with⟨d,rfl⟩|⟨rfl,rfl,F⟩|d|⟨d,c,rfl⟩
  .obtain ⟨rfl,rfl⟩:=q io;rcases d with rfl|rfl<;>decide
  .show (Rx.mk 2 lo w []).sz<=_;omega
  .rw [DI d];have G:=Mm (μ:=Rx.sz) Se e (ff l);obtain⟨H,I,-,-⟩:=Tb e;refine La (P:=λk=>k.sz<=2 *(1+ms Rx.sz l)) io io (λa B=>?_) ?_
   .have:=wX (μ:=Rx.sz) B;omega
   .show (Rx.mk e 0 0 _).sz<=_;rw[pJ];omega
  .obtain ⟨rfl,rfl⟩:=q io;have x:ff [c]=[dG c]:=rfl;rw[x]at h ⊢;have h:(dG c).sz+0<=2 *(c.sz+0):=h;show _<=2 *(1+(c.sz+0));refine Pe (P:=λk=>k.sz<=2 *(1+(c.sz+0))) d (by show(1:Nat)<=_;omega) (by show(1:Nat)<=_;omega) io (λE C=>?_) ?_
   .have:=wX (μ:=Rx.sz) C;have:=Se (dG c);omega
   .show (Rx.mk e 0 0 _).sz<=_;rw[pJ];simp only[ms];omega
def z2:∀l:List Rx,dT l=true->ms Rx.sz (ff l)<=2 *ms Rx.sz l
 |[],_=>bm _
 |a::l,d=>by unfold dT at d;rw[be]at d;have e:=Fs a d.1;have h:=z2 l d.2;show(dG a).sz+ms Rx.sz (ff l)<=2 *(a.sz+ms Rx.sz l);omega
end
mutual
def Zm:∀j:Rx,cN j=true->dh (dG j)<=dh j
 |.mk e lo w l,y=>by
  obtain⟨z,q,A⟩:=rH y;have h:=Ft l z;have D:=rO e lo w l;rw[D];unfold dG;rcases A with⟨d,rfl⟩|⟨rfl,rfl,F⟩|d|⟨d,c,rfl⟩
  .obtain ⟨rfl,rfl⟩:=q io;rcases d with rfl|rfl<;>decide
  .show dh (Rx.mk 2 lo w [])<=_;omega
  .rw [DI d];have G:=Mm (μ:=dh) Ev e (ff l);obtain⟨-,-,H,I⟩:=Tb e;refine La (P:=λk=>dh k<=max 1 (ms dh l)) io io (λa B=>?_) ?_
   .have:=wX (μ:=dh) B;omega
   .show dh (Rx.mk e 0 0 _)<=_;rw[rO];omega
  .obtain ⟨rfl,rfl⟩:=q io;have x:ff [c]=[dG c]:=rfl;rw[x]at h ⊢;have h:dh (dG c)+0<=dh c+0:=h;show _<=max 1 (dh c+0);refine Pe (P:=λk=>dh k<=max 1 (dh c+0)) d (by show(1:Nat)<=_;omega) (by show(1:Nat)<=_;omega) io (λE C=>?_) ?_
   .have:=wX (μ:=dh) C;have:=Ev (dG c);omega
   .show dh (Rx.mk e 0 0 _)<=_;rw[rO];simp only[ms];omega
def Ft:∀l:List Rx,dT l=true->ms dh (ff l)<=ms dh l
 |[],_=>bm _
 |a::l,d=>by unfold dT at d;rw[be]at d;have e:=Zm a d.1;have h:=Ft l d.2;show dh (dG a)+ms dh (ff l)<=dh a+ms dh l;omega
end
def Ky{N:Nat}{k:Int}{lo hi:UInt8}{l:List Rx}(d:cN (.mk k lo hi l)=true)(D:(Rx.mk k lo hi l).sz<=10000)(q:jv N (.mk k lo hi l)):r3 N (.mk k lo hi (ff l))=true:=by
 obtain⟨e,I,y⟩:=rH d;have Q:=z2 l e;have P:=Ft l e;rw[pJ]at D;unfold jv at q;unfold r3;rw[be,be];refine⟨⟨?_,aQ (by rw[pJ];omega)⟩,?_⟩
 .unfold k6;rw[be,be];refine⟨⟨aQ io,aQ io⟩,?_⟩;rcases y with⟨h,rfl⟩|⟨h,rfl,O⟩|h|⟨h,c,rfl⟩
  .grind
  .grind
  .grind
  .show (!(k==6&&(dG c).k==6&&(dG c).l.isEmpty))=true;have A:cN c=true:=by
    unfold dT at e
    grind
   have j:=O3 c A;generalize dG c=G at j;cases G with
   |mk w F C E=>
    by_cases x:w=6
    .unfold NF at j;obtain⟨-,-,d|d|d|⟨_,H,B,_⟩|d⟩:=j
     .omega
     .omega
     .omega
     .rw [B];simp[Rx.l]
     .omega
    .have:(Rx.k (.mk w F C E)==6)=false:=by simpa[Rx.k]using x
     grind
 .show ai (k=4\/k=5->uM k (ff l)<=N)=true;refine aQ λz=>?_;have K:=Mk Yy ((ff l).flatMap λc=>if c.k=k then c.l else[c]);have L:=EA (μ:=dh) Ev k (ff l);have M:=q.2 z;show((ff l).flatMap λc=>if c.k=k then c.l else[c]).length<=N;omega
mutual
def Ks{N:Nat}:∀d:Rx,cN d=true->d.sz<=10000->jv N d->qg N d=true
 |.mk w lo q l,h,j,e=>by obtain⟨k,-,-⟩:=rH h;unfold qg;rw[Ky h j e,Bool.and_true];rw[pJ]at j;unfold jv at e;exact Kt l k io e.1
def Kt{N:Nat}:∀l:List Rx,dT l=true->ms Rx.sz l<=10000->rF N l->rG N l=true
 |[],_,_,_=>rfl
 |a::l,d,h,e=>by unfold dT at d;rw[be]at d;unfold rF at e;have h:a.sz+ms Rx.sz l<=10000:=h;unfold rG;rw[Ks a d.1 io e.1,Kt l d.2 io e.2];rfl
end
namespace Qw
def aq:=aC (ay U Tryz.f155 [(4,ls [1,0,2,3,4,5,6,7])] [1,2]) E2 [.a 4,.I,.Y,.Y,.s]
end Qw
def Za{x:Rx}(d:NF x):0<=x.k:=by cases x;unfold NF at d;simp only[Rx.k];omega
def Zo{x:Rx}(e:cN x=true)(d:x.k<3):dG x=x:=by
 cases x with
 |mk j lo y l=>
  have z:j<3:=d;clear d;obtain⟨q,w,h⟩:=rH e;rcases h with⟨d,rfl⟩|⟨rfl,rfl,A⟩|d|⟨d,c,rfl⟩
  .rcases d with rfl|rfl<;>rfl
  .rfl
  .omega
  .omega
abbrev TV(n:Nat):Prop:=∀(x:I) (w:J),x.sz<=n->cN x.rx=true->x.P w->aj U w3 #[x.v] w λr d=>gy x.fp w (dG x.rx) r d/\ag w d
def IX:∀n:Nat,n<=1000->TV n
 |0,_=>λe z ab _ _=>absurd ab (by have:=I.mU e;omega)
 |n+1,hn=>λe z ab ac px=>by
  have ih:=IX n io;have hs:=I.iJ e;have hl:=I.ga e.l;have nr:=I.cw px.parts.1;refine wu.aq ((gH px).ax λD j H1=>H1.ax λE Q w=>aY (λhk=>w.ae λS x=>⟨⟨e,rfl,(Zo ac (by rw[l4];exact hk)).symm,x.getD 0,λb h=>.inr h⟩,x.fr⟩) (λhk=>?_));have H:=ac;rw[I.fi]at H;obtain⟨K,av,aC⟩:=rH H;obtain⟨Y,W⟩:=av io;have ah:dG e.rx=h8 (.mk e.k 0 0 (ff (I.ao e.l))):=by rw[I.fi,Y,W];unfold dG;rfl
  have loop:∀(d i:Nat) (acc:List I) (sl:Sl) (j:J),i+d=e.l.length->I.ao acc=ff (I.ao (e.l.take i))->(∀b∈I.bd acc,z.heap.size<=b\/b∈e.fp)->
    O F0 z j [.g D,.g E,.row aI 4 sl (acc.flatMap I.c)] [.tree e,.trees acc]->
    wu.a4 D e.k e.lo.toNat e.hi.toNat e.s E 0 0 0 ⟨none,0,0⟩ sl (i:Int) j λr w'=>gy e.fp z (dG e.rx) r w'/\ag z w':=by
   intro d;induction d with
   |zero=>
    intro i acc sl j ap y G q;rw[fA io]at y;have aw:∀b∈(I.row sl acc).fp,z.heap.size<=b:=λb h=>(q.new _ (aA (i:=2) rfl) b (gL h)).resolve_right id;have T:O F0 z j [.g D,.g E] [.tree e,.trees acc,I.row sl acc,.tree (.mk e.k 0 0 sl acc)]:=q.sg 2 1 e.k 0 0;have Z:Rx.mk e.k 0 0 (I.ao acc)=.mk e.k 0 0 (ff (I.ao e.l)):=by rw[y]
    have az:(Rx.mk e.k e.lo e.hi (I.ao e.l)).sz<=10000:=by rw[<-I.fi,I.ek];omega
    have L:=Ky (N:=100000) H az (y7 _ (by have ar:∀af:Rx,dh af<=af.sz:=LU;have:=ar (Rx.mk e.k e.lo e.hi (I.ao e.l));omega))
    unfold r3 at L;rw[be,be]at L;have ay:(I.mk e.k 0 0 sl acc).sz<=10000:=by have A:=I.ek (I.mk e.k 0 0 sl acc);have h2:=z2 (I.ao e.l) K;have h3:=I.xF e.l;rw[GU]at h3;rw[<-A];show(Rx.mk e.k 0 0 (I.ao acc)).sz<=_;rw[Z,pJ];omega
    have an:k6 (.mk e.k 0 0 (I.ao acc))=true:=by rw[Z];have:=L.1.1;rw[Y,W]at this;exact this
    refine wu.bR (aW (aS io) ?_);refine T.rj (Vh (.mk e.k 0 0 sl acc) ⟨by show 3<=e.k;omega,by show e.k<=7;omega⟩ ay an (λc hc=>?_) j (T.getD 3)) (λb h=>⟨_,aA (i:=3) rfl,a7.2 h⟩) λt Q M w F=>?_
    .have am:c.rx∈ff (I.ao e.l):=by rw[<-y,I.fN];exact dN.2 ⟨c,hc,rfl⟩
     have:=Za (Fu (I.ao e.l) K _ am)
     rwa[l4]at this
    refine⟨_,_,_,t.s,rfl,w.ae λS x=>⟨⟨t,rfl,?_,x.getD 4,λb h=>?_⟩,x.fr⟩⟩
    .rw [M,ah];show h8 (Rx.mk e.k 0 0 (I.ao acc))=_;rw[y]
    .rcases F b h with h|h
     .exact .inl (bD q.fr.size h)
     .unfold I.fp at h;rcases aK.1 h with h|h
      .exact .inl (aw b h)
      .exact G b h
   |succ d aB=>
    intro i acc sl j ap y G q;have B:e.l[i]? =some (e.l[i]'io):=a0 io;generalize e.l[i]'io=a at B;have C:=aA B;have aJ:=I.eJ C;have ak:cN a.rx=true:=KE K (by rw[I.fN];exact dN.2 ⟨a,C,rfl⟩);have aa:∀b∈a.fp,b∈e.fp:=λb h=>I.gC.2 (.inr (I.bS.2 ⟨a,C,h⟩));refine wu.bR (aU (aQ io) (jY (show e.P j from q.getD 0) rfl B ?_));refine q.rj (ih a j io ak ((show e.P j from q.getD 0).parts.2.mem C)) (λb h=>⟨_,aA (i:=0) rfl,a7.2 (aa b h)⟩) λt Q M w F=>?_;have aH:=I.cw (w.get 2:aL _ _ _ _ _).a2;have aG:acc.length=i:=by have A:=congrArg List.length y;rw[I.fN,r2,I.fN]at A;simp only[List.length_map,gK]at A;omega
    refine⟨_,_,_,t.s,rfl,w.jn 2 lP (xs:=acc.flatMap I.c) rfl (λs' S x=>?_) io⟩;have H4:=(x.su 1 2).take 3;rw[bp _ io];refine aB (i+1) (acc++[t]) s' S io ?_ (tY G λb h=>?_) ?_
    .rw [kG,y,g5,B,Option.toList_some,kG,r2,r2,fh];show _++[t.rx]=_;rw[M];rfl
    .rcases F b h with h|h
     .exact .inl (bD q.fr.size h)
     .exact .inr (aa b h)
    .rw [nq];exact H4.forget _ gs
  exact loop e.l.length 0 [] ⟨none,0,0⟩ Q io rfl (λb h=>by unfold I.bd at h;cases h) (OZ (w.hP aI 4))
def IW(x:I)(w:J)(e:x.sz<=1000)(h:cN x.rx=true)(j:x.P w):aj U w3 #[x.v] w λr d=>gy x.fp w (dG x.rx) r d/\ag w d:=IX 1000 (bm _) x w e h j
def fW(x:Rx):Rx:=if iL x=0 then o8 (dG x)else fK
def kB(x:Rx):Int:=if iL x=0 then o7 (dG x)else iL x
def HD(d:List Nat)(w:J)(x:Rx)(c:Int)(r:cR)(w':J):Prop:=∃t:I,r=ad (.tuple #[t.v,.int .i64 c])/\t.rx=x/\t.P w'/\∀b∈t.fp,w.heap.size<=b\/b∈d
def UU(x:I)(w:J)(y:x.sz<=1000000)(A:x.P w):aj U ME #[x.v] w λr k=>HD x.fp w (o8 x.rx) (o7 x.rx) r k/\ag w k:=by
 refine JN.aq ((gH A).ax λD F q=>q.ax λE B h=>h.av (Co x B y (h.getD 0)) ?_);rintro _ G rfl j;refine⟨_,rfl,aY (λz=>j.ae λC d=>⟨⟨ck,?_,?_,lf _,λb e=>(lg e).elim⟩,d.fr⟩) (λz=>j.ae λC d=>⟨⟨x,?_,?_,d.getD 0,λb e=>.inr e⟩,d.fr⟩)⟩
 .unfold o7;rw[I.ek,af io];rfl
 .unfold o8;rw[I.ek,af io];rfl
 .unfold o7;rw[I.ek,aa io]
 .unfold o8;rw[I.ek,aa io]
def Ve(x:I)(w:J)(K:x.sz<=1000000)(O:x.P w):aj U Mx #[x.v] w λr D=>HD x.fp w (fW x.rx) (kB x.rx) r D/\ag w D:=by
 refine JJ.aq ((gH O).ax λW w1 F=>F.ax λY S q=>q.av (Vf x S K (q.getD 0)) ?_);rintro _ T rfl h;unfold fW kB;refine⟨_,rfl,cz (λC=>h.ae λE e=>⟨⟨ck,?_,?_,lf _,λb d=>(lg d).elim⟩,e.fr⟩) (λj=>?_)⟩
 .rw [aa C];rfl
 .rw [aa C];rfl
 obtain⟨B,L⟩:=Bn j;have Z:x.sz<=64:=by rw[<-I.ek];exact L
 rw[af j,af j];refine h.rj (IW x T io B (h.getD 0)) (λb d=>⟨_,aA (i:=0) rfl,a7.2 d⟩) λt E k e H=>?_;have Q:t.sz<=1000000:=by have:=Fs _ B;rw[<-I.ek,k];omega
 refine⟨_,_,_,t.s,rfl,kf ((UU t E Q (e.getD 1)).mono ?_)⟩;rintro _ w5 ⟨⟨u,rfl,M,N,A⟩,z⟩;have G:=e.ec (.tree u) z N λb d=>(A b (a7.1 d)).imp id λd=>.inr ⟨_,aA (i:=1) rfl,a7.2 d⟩;refine⟨z,_,_,_,u.s,_,rfl,G.ae λw6 y=>⟨⟨u,by rw[k],by rw[M,k],y.getD 2,λb d=>?_⟩,y.fr⟩⟩;rcases A b d with d|d
 .exact .inl (bD e.fr.size d)
 .exact (H b d).imp (λd=>bD h.fr.size d) id
def It{N:Nat}(T:mn N)(S:N+1<=1000000)(x:I)(w:J)(C:x.sz<=1000000)(W:jv N x.rx)(px:x.P w):aj U E2 #[x.v] w λr F=>HF w (fW x.rx) (kB x.rx) r F/\ag w F:=by
 refine Qw.aq ((gH px).ax λb1 w1 M=>M.ax λb2 w2 y=>y.av (Cp x w2 C (y.getD 0)) ?_);rintro _ w3 rfl z;unfold fW kB;refine⟨_,rfl,cz (λE=>z.ae λG e=>⟨⟨ck,?_,?_,lf _,λb d=>(lg d).elim⟩,e.fr⟩) (λk=>z.ae λG e=>e.hh (UZ G) ?_)⟩
 .rw [aa E];rfl
 .rw [aa E];rfl
 rintro _ w5 ⟨H,rfl,Q,pF,Z⟩ _ K;have h:=K.rd (.fm H) pF Z;obtain⟨D,hs⟩:=Bn k;rw[af k,af k];refine⟨_,rfl,h.rj (U' T S Q x w5 C (Ks _ D io W) (h.getD 1) (h.getD 0)) (λb d=>?_) λt w6 q j _=>?_⟩
 .rcases aK.1 d with d|d
  .exact ⟨_,aA (i:=0) rfl,a7.2 d⟩
  .exact ⟨_,aA (i:=1) rfl,d⟩
 have ab:t.sz<=1000000:=by have:=Fs _ D;rw[<-I.ek,q];omega
 refine⟨_,_,_,t.s,rfl,j.hh (U7 t w6 ab (j.getD 2)) ?_⟩;rintro _ w7 ⟨u,rfl,Y,pu,B⟩ _ L;have O:=L.rd (.tree u) pu λb d=>B b (a7.1 d);exact⟨_,_,_,u.s,_,rfl,O.ae λw8 A=>⟨⟨u,by rw[q],by rw[Y,q],A.getD 3,λb d=>bD j.fr.size (B b d)⟩,A.fr⟩⟩
abbrev BL:=List UInt8
def gQ(s:BL)(i:Nat):UInt8:=s.getD i 0
def om(c:UInt8):Bool:=ai (32<=c.toNat)&&ai (c.toNat<=126)&&!(c==39)&&!(c==92)
def eG(c:UInt8):Bool:=ai (97<=c.toNat)&&ai (c.toNat<=122)
def iX(n:Nat):UInt8:=UInt8.ofNat (if n<10 then 48+n else 87+n)
def i6(c:UInt8):Int:=if 48<=c.toNat/\c.toNat<=57 then(c.toNat:Int) - 48 else if 97<=c.toNat/\c.toNat<=102 then(c.toNat:Int) - 87 else -1
def h6(s:BL)(at_:Nat):UInt8×Nat:=
 if(ai (at_+3<=s.length)&&gQ s at_==39&&gQ s (at_+2)==39&&om (gQ s (at_+1)))=true then(gQ s (at_+1),3)
 else if(ai (at_+4<=s.length)&&gQ s at_==92&&gQ s (at_+1)==120&&ai (0<=i6 (gQ s (at_+2)))&&ai (0<=i6 (gQ s (at_+3))))=true then(UInt8.ofNat ((16 *i6 (gQ s (at_+2))+i6 (gQ s (at_+3))).toNat),4)
 else(0,0)
structure dF where
 tx:BL
 at_:Nat
 k:Nat
 lo:UInt8
 hi:UInt8
structure BY where
 k:Nat
 lo:UInt8
 hi:UInt8
 n:Nat
def r1:BY:=⟨0,0,0,0⟩
def kF(s:BL)(i:Nat):BY:=
 let a:=h6 s i
 if 0<a.2 then⟨2,a.1,a.1,a.2⟩else if gQ s i≠91 then r1 else
 let b:=h6 s (i+1)
 let dash:=i+1+b.2
 if b.2=0\/s.length<=dash\/gQ s dash≠45 then r1 else
 let c:=h6 s (dash+1)
 let fin:=dash+1+c.2
 if c.2=0\/s.length<=fin\/gQ s fin≠93\/c.1.toNat<b.1.toNat then r1 else⟨2,b.1,c.1,fin+1 - i⟩
def ow(s:BL)(i:Nat):Nat->Nat->Nat
 |0,n=>n
 |f+1,n=>if(eG (gQ s i)&&ai (i+n<s.length)&&eG (gQ s (i+n)))=true then ow s i f (n+1)else n
def pK(s:BL):Nat->Nat->List dF
 |0,_=>[⟨[],s.length,0,0,0⟩]
 |f+1,i=>if s.length<=i then[⟨[],s.length,0,0,0⟩]else if gQ s i=32 then pK s f (i+1)else
  let r:=kF s i
  let n:=if r.n=0 then ow s i s.length 1 else r.n
  ⟨(s.take (i+n)).drop i,i,r.k,r.lo,r.hi⟩::pK s f (i+n)
def nH(s:BL):List dF:=pK s (s.length+1) 0
abbrev bJ:=Nat×Bool
section
variable (l:List dF)
def fP(i:Nat):dF:=l.getD i ⟨[],0,0,0,0⟩
def fj(st:bJ):BL:=bif st.2 then[32]else(fP l st.1).tx
def eV(s:BL)(st:bJ):Bool×bJ:=bif fj l st==s then(true,bif s.isEmpty then st else(st.1+1,st.2))else(false,st)
def k'(s:BL)(st:bJ):bJ:=match eV l s st with
 |(true,st)=>st
 |(false,st)=>(st.1,true)
def yG(st:bJ):Bool:=!st.2&&!(fj l st==[])&&!(fj l st==[41])&&!(fj l st==[44])&&!(fj l st==[124])&&!(fj l st==[38])
def rI(k:Int):List Rx->Rx
 |[a]=>a
 |m=>.mk k 0 0 m
def nM:Nat->BL
 |0=>[110,111,110,101]
 |1=>[101,109,112,116,121]
 |3=>[99,97,116]
 |4=>[97,108,116]
 |5=>[97,108,108]
 |_=>[]
def mg(st:bJ):Nat->Nat->Option Nat
 |0,_=>none
 |f+1,d=>bif bH d 2||!(fj l st==nM d)then mg st f (d+1)else some d
mutual
def lS:Nat->bJ->Option (Rx×bJ)
 |0,_=>none
 |f+1,st=>match oU f st with
  |some (a,st)=>td f [a] st
  |none=>none
def td:Nat->List Rx->bJ->Option (Rx×bJ)
 |0,_,_=>none
 |f+1,acc,st=>match eV l [124] st with
  |(true,st)=>match oU f st with
   |some (a,st)=>td f (acc++[a]) st
   |none=>none
  |(false,st)=>some (rI 4 acc,st)
def oU:Nat->bJ->Option (Rx×bJ)
 |0,_=>none
 |f+1,st=>match pB f st with
  |some (a,st)=>tg f [a] st
  |none=>none
def tg:Nat->List Rx->bJ->Option (Rx×bJ)
 |0,_,_=>none
 |f+1,acc,st=>match eV l [38] st with
  |(true,st)=>match pB f st with
   |some (a,st)=>tg f (acc++[a]) st
   |none=>none
  |(false,st)=>some (rI 5 acc,st)
def pB:Nat->bJ->Option (Rx×bJ)
 |0,_=>none
 |f+1,st=>match ns f st with
  |some (a,st)=>uh f [a] st
  |none=>none
def uh:Nat->List Rx->bJ->Option (Rx×bJ)
 |0,_,_=>none
 |f+1,acc,st=>bif yG l st then match ns f st with
   |some (a,st)=>uh f (acc++[a]) st
   |none=>none
  else some (rI 3 acc,st)
def ns:Nat->bJ->Option (Rx×bJ)
 |0,_=>none
 |f+1,st=>match eV l [33] st with
  |(true,st)=>match ns f st with
   |some (a,st)=>some (.mk 6 0 0 [a],st)
   |none=>none
  |(false,st)=>match q5 f st with
   |some (a,st)=>xO f a st
   |none=>none
def xO:Nat->Rx->bJ->Option (Rx×bJ)
 |0,_,_=>none
 |f+1,a,st=>match eV l [42] st with
  |(true,st)=>xO f (.mk 7 0 0 [a]) st
  |(false,st)=>some (a,st)
def q5:Nat->bJ->Option (Rx×bJ)
 |0,_=>none
 |f+1,st=>bif !st.2&&bH (fP l st.1).k 2 then some (.mk 2 (fP l st.1).lo (fP l st.1).hi [],(st.1+1,st.2))else match mg l st 6 0 with
  |some d=>bif Nat.ble d 2 then some (.mk d 0 0 [],(st.1+1,st.2))else match rJ f (st.1+1,st.2)with
   |some (m,st)=>some (.mk d 0 0 m,st)
   |none=>none
  |none=>let st:=k' l [40] st
   bif st.2 then some (fK,st)else match lS f st with
   |some (a,st)=>some (a,k' l [41] st)
   |none=>none
def rJ:Nat->bJ->Option (List Rx×bJ)
 |0,_=>none
 |f+1,st=>match eV l [41] (k' l [40] st)with
  |(d,st)=>bif st.2||d then some ([],st)else match lS f st with
   |some (a,st)=>wW f [a] st
   |none=>none
def wW:Nat->List Rx->bJ->Option (List Rx×bJ)
 |0,_,_=>none
 |f+1,acc,st=>match eV l [44] st with
  |(true,st)=>match lS f st with
   |some (a,st)=>wW f (acc++[a]) st
   |none=>none
  |(false,st)=>some (acc,k' l [41] st)
end
end
def uH(s:BL):Option (Rx×Nat×Int):=
 if 4096<s.length then some (fK,4096,4)else
 let l:=nH s
 match lS l 1000 (0,false)with
 |some (r,st)=>let st:=k' l [] st
  if st.2=true then some (fK,(fP l st.1).at_,2)else if 1000000<r.sz then none else if 64<r.sz then some (fK,s.length,4)else some (r,0,0)
 |none=>none
def dn(c:UInt8):BL:=if om c=true then[39,c,39]else[92,120,iX (c.toNat / 16),iX (c.toNat%16)]
def cM:Rx->Nat
 |.mk d _ _ l=>if d=6 then 3 else if d<3\/d=7\/l.length<2 then 4 else if d=3 then 2 else if d=4 then 0 else 1
def cI(d:Nat)(a:Rx)(t:BL):BL:=if cM a<d then 40::(t++[41])else t
def rV(k:Int):BL:=if k=3 then[99,97,116,40]else if k=4 then[97,108,116,40]else[97,108,108,40]
def g7(k:Int):BL:=if k=3 then[]else if k=4 then[124]else[38]
def k8(t:BL):UInt8:=t.getLastD 0
def jU(k:Int):BL->List BL->BL
 |out,[]=>out
 |out,t::d=>jU k ((if k=3/\eG (k8 out)=true/\eG (gQ t 0)=true then out++[32]else out)++g7 k++t) d
def ku:List BL->BL
 |[]=>[]
 |t::_=>t
def zi(k:Int):List BL->BL
 |[]=>[]
 |t::d=>jU k t d
mutual
def a':Rx->BL
 |.mk d lo e l=>if d=0 then[110,111,110,101]else if d=1 then[101,109,112,116,121]else
  if d=2 then(if lo=e then dn lo else 91::(dn lo++45::(dn e++[93])))else
  if d=6 then 33::ku (dd 3 l)else if d=7 then ku (dd 4 l)++[42]else
  if l.length<2 then rV d++(ku (dd 0 l)++[41])else
  zi d (dd (cM (.mk d lo e l)+1) l)
def dd(d:Nat):List Rx->List BL
 |[]=>[]
 |a::l=>cI d a (a' a)::dd d l
end
mutual
def i7:Rx->Bool
 |.mk d _ _ l=>ai (0<=d)&&ai (d<=7)&&(ai (d<6)||ai (l.length=1))&&oh l
def oh:List Rx->Bool
 |[]=>true
 |a::l=>i7 a&&oh l
end
def tw(s:BL):Option Bool:=match uH s with
 |some (r,_,d)=>if d=0 then(if kB r=0 then(if i7 (fW r)=true/\(fW r).sz<=1000 then some (cI 0 (fW r) (a' (fW r))==s)else none)else some false)else some false
 |none=>none
def AE(a b:UInt8):Rx:=.mk 2 a b []
def eZ:Nat->Rx
 |0=>AE 97 97
 |1=>AE 98 98
 |2=>AE 0 0
 |3=>AE 97 98
 |4=>nZ
 |_=>eL
def DM(a b c:Rx):Nat->Rx
 |0=>a
 |1=>.mk 3 0 0 [a,b]
 |2=>.mk 4 0 0 [a,b,c]
 |3=>.mk 7 0 0 [a]
 |4=>.mk 3 0 0 [.mk 7 0 0 [a],b]
 |5=>.mk 6 0 0 [.mk 3 0 0 [a,b]]
 |6=>.mk 3 0 0 [b,.mk 7 0 0 [.mk 4 0 0 [a,c]]]
 |_=>.mk 5 0 0 [.mk 6 0 0 [b],.mk 3 0 0 [a,eL]]
def mW(k:Nat):BL:=a' (dG (DM (eZ (k%6)) (eZ (k / 6%6)) (eZ (k / 36%6)) (k / 216%8)))
namespace GQ
def ok:=aC (ay U Tryz.f33 [] []) Ff [.st,.Y]
end GQ
namespace D3
def ok:=aC (ay U Tryz.f52 [] []) EN [.st,.Y]
end D3
end Go.Proofs.YtjakeaplbkhjmaaGreatDoor
end
