import Derived.Test.YtkbmpalepmakmaaGreatDoorU
set_option linter.unusedVariables false
set_option linter.defProp false
set_option maxRecDepth 100000
noncomputable section
namespace Go.Proofs.YtkbmpalepmakmaaGreatDoor
open Go renaming World->I,Calls->ah,Program->au,Value->V,TypeId->aD,Ending->cZ
open Go.IntKind renaming wrap->aE
open _root_.Int renaming toNat->aY,toNat_natCast->cb
open Go.IntWalk renaming i64_in->bH
open _root_.Bool renaming and_eq_true->bf,not_eq_true->iu
open _root_.Nat renaming le_refl->bz,le_trans->bI,beq->bQ,mul_le_mul_right->ll,beq_eq->eE
open _root_.Prod.mk renaming injEq->fB
open _root_.Option.some renaming inj->eU,injEq->fC
open _root_.Array renaming replicate->gu
open Go.Proofs.Tryz renaming prog->U
open _root_.Decidable renaming decide->ak
open Go.Ending renaming returned->ab
open List renaming mem_append->aP,mem_cons->aF,not_mem_nil->aW,mem_of_getElem?->ay,getElem?_eq_getElem->a0,getElem?_eq_some_iff->cP,mem_append_right->db,mem_flatMap->b',mem_map->dn,length_take->oa,flatMap_append->eg,flatMap_cons->dI,mem_cons_of_mem->dJ,mem_cons_self->nq,take_append_drop->Hd,drop_eq_getElem_cons->dG,take_add_one->ha,map_append->fv,map_cons->nr,drop_drop->lR,getElem?_set_self->mC,drop_of_length_le->dH,take_of_length_le->fW
open Go Go.W
def Tw{w:I}{g:Nat}{cur:Array V}{t:aD}(d:w.heap[g]? =some (.cells cur t (0,0)))(vs:Array V):w.setRow g vs=w.putObj g (.cells vs t (0,0)):=by
 unfold World.setRow World.putObj;congr 1
 grind
def I6(g k:Nat):(⟨g,0,none⟩:Addr).add k=⟨g,k,none⟩:=by
 unfold Addr.add
 grind
def KF{P:au}{t ty e:aD}{h:V}{sz bytes:Nat}(x:gg P t e h sz bytes)(h1:∀u∈h.cells.toList,u.oneCell'=true)(af:h.cells.size=sz){w:I}{s:Sl}{vs:List V}(G:aJ w e sz s vs)(l:Nat)(D:l<=s.n):
  ∃w',(Builtin.clear_ #[t] ty #[.slice (if s.c=l then s.a else s.a.map (·.add (l *sz))) (s.n - l) (s.c - l)]).run P w=.ok (.tuple #[]) w'/\
   aJ w' e sz ⟨if s.c=0 then s.a else s.a.map (·.add (0 *sz)),l - 0,s.c - 0⟩ (vs.take (l *sz))/\Fr (·∈aG s) w w':=by
 have hlen:=G.len;obtain⟨L,d,j⟩:=s;simp only at D hlen;have ac:∀y:Option Addr,(if j=0 then y else y.map (·.add (0 *sz)))=y:=λy=>by
  split
  .rfl
  .cases y with
   |none=>rfl
   |some p=>rw[Nat.zero_mul,Option.map_some,iV]
 rw[ac,Nat.sub_zero,Nat.sub_zero];have F:∀(w':I) (g:Nat) (q:Array V),L=some ⟨g,0,none⟩->d<=j->j<=maxLen->w'.heap[g]? =some (.cells q e (0,0))->q.size=j *sz->q.toList.take (l *sz)=vs.take (l *sz)->aJ w' e sz ⟨L,l,j⟩ (vs.take (l *sz)):=by intro w' g q A ap S k K ad;subst A;have M:l *sz<=d *sz:=ll _ D;refine⟨by grind,.inr ⟨g,j,q,rfl,Nat.zero_le _,k,by grind,S,K,ad⟩⟩
 rcases G.cases with⟨hs,rfl⟩|⟨g,cur,A,k,z,C,H,O⟩
 .cases hs;have:l=0:=io
  subst this;refine⟨w,?_,?_,Fr.refl _ _⟩
  .simp [Builtin.clear_,run_underlying x.ht]
  grind
 .simp only at A z C H O;subst A;have M:l *sz<=d *sz:=ll _ D;have e2:d *sz<=j *sz:=ll _ z;have ae:cur.toList.take (l *sz)=vs.take (l *sz):=by grind
  by_cases Z:d - l=0
  .refine ⟨w,?_,F w g cur rfl z C k H ae,Fr.refl _ _⟩;rw[Z];by_cases B:j=l
   .simp [Builtin.clear_,run_underlying x.ht,B]
   .simp [Builtin.clear_,run_underlying x.ht,B]
  .have B:j≠l:=io
   obtain⟨inf,W,hz,K,aj⟩:=info_parts x.hi;have ag:(zeroValue e).run P w=.ok h w:=by simp[zeroValue,typeInfo,W,hz]
   have ao:(Builtin.zeroCells h.cells (d - l)).toList.length=(d - l) *sz:=by simp[Builtin.zeroCells,af]
   have aa:∀v∈(Builtin.zeroCells h.cells (d - l)).toList,v.oneCell'=true:=by
    intro v E;unfold Builtin.zeroCells at E;rw[Array.toList_map,dn]at E;obtain⟨ai,hj,rfl⟩:=E;by_cases N:0<h.cells.size
    .have an:ai%h.cells.size<h.cells.size:=Nat.mod_lt _ N
     grind
    grind
   have am:(d - l) *sz=d *sz - l *sz:=Nat.sub_mul _ _ _;have T:l *sz+0+(Builtin.zeroCells h.cells (d - l)).toList.length<=cur.size:=io
   have J:=run_storeCells_at (P:=P) g (l *sz) e (Builtin.zeroCells h.cells (d - l)).toList 0 cur w k T aa;refine⟨_,?_,F _ g (cur.toList.take (l *sz+0)++(Builtin.zeroCells h.cells (d - l)).toList++cur.toList.drop (l *sz+0+(Builtin.zeroCells h.cells (d - l)).toList.length)).toArray rfl z C (setRow_heap w g cur _ e _ k) ?_ ?_,?_⟩
   .obtain ⟨m,Y⟩:∃m,d - l=m+1:=⟨d - l - 1,io⟩;have Q:(⟨g,0,none⟩:Addr).add (l *sz)=⟨g,l *sz,none⟩:=I6 g (l *sz);rw[Y]at J ⊢;simp[Builtin.clear_,run_underlying x.ht,B,Q,ag,J]
   .grind
   .grind
   .rw [Tw k];exact(Fr.put w g _).mono λaq _ e=>by simp[aG,e]
def Vl:∀u∈(Value.agg #[.int .i64 0,.int .u8 0,.int .u8 0,.slice none 0 0]).cells.toList,u.oneCell'=true:=by intro u d;simp only[Value.cells,aF,aW,a2]at d;rcases d with rfl|rfl|rfl|rfl<;>rfl
def YG{l:List J}{k:Nat}{t:J}(q:k<l.length):((((l.flatMap J.c).set (k *4+0) (.int .i64 t.k)).set (k *4+1) (.int .u8 (t.lo.toNat:Int))).set (k *4+2) (.int .u8 (t.hi.toNat:Int))).set (k *4+3) t.s.v=(l.set k t).flatMap J.c:=by
 induction l generalizing k with
 |nil=>grind
 |cons a l j=>
  cases k with
  |zero=>simp[J.c]
  |succ k=>
   have h:k<l.length:=by grind
   have d:∀e,(k+1) *4+e=(k *4+e)+4:=λe=>io
   rw[d 0,d 1,d 2,d 3,dI,List.set_cons_succ,dI,<-j h];simp[J.c]
section
variable {M:Nat->Prop} {w0 w:I} {L D:List En} {bs:List Nat}
def _root_.Go.W.O.Ua(H:O M w0 w L D)(i k:Nat){s:Sl}{ts:List J}{t:J}{p:Addr}{K:I->Prop}(hi:L[i]? =some (.row aO 4 s (ts.flatMap J.c)))(z:s.a=some p)(hk:k<ts.length)(hK:∀w',O M w0 w' (L.set i (.row aO 4 s ((ts.set k t).flatMap J.c))) D->K w')(A:∀b∈bs,En.g b∈L:=by simp):
  aL w (p.add (k *4)) (.int .i64 t.k) λd=>kept bs w d/\aL d ((p.add (k *4)).add 1) (.int .u8 (t.lo.toNat:Int)) λh=>kept bs d h/\aL h ((p.add (k *4)).add 2) (.int .u8 (t.hi.toNat:Int)) λj=>kept bs h j/\aL j ((p.add (k *4)).add 3) t.s.v λx=>kept bs j x/\K x:=by
 have hlen:(ts.flatMap J.c).length=ts.length *4:=J.hU ts;have B:=(cP.1 hi).1;have F:∀{e:En} {b:Nat},(∀(d:I) (y:Nat),¬e.P ({d with heap:=gu (y+1) (.map #[] 0)}:I))->En.g b∈L->En.g b∈L.set i e:=by
  intro e b ad q;obtain⟨Z,T⟩:=List.mem_iff_getElem?.1 q;by_cases aa:i=Z
  .subst aa;rw[hi]at T;exfalso;have e1:En.row aO 4 s (ts.flatMap J.c)=En.g b:=eU T;have S:(En.g b).P ({w with heap:=gu (b+1) (.map #[] 0)}):=by show b<_;simp
   rw[<-e1]at S;by_cases Y:aG s=[]
   .have:s.a=none:=by unfold aG at Y;grind
    grind
   .obtain ⟨ac,E⟩:=List.exists_mem_of_ne_nil _ Y;obtain⟨cs,f,hc⟩:=(aJ.row (show aJ ({w with heap:=gu (b+1) (.map #[] 0)}) aO 4 s _ from S)).tF ac E
    grind
  .refine ay (i:=Z) ?_
   grind
 have C:∀(vs:List V) (d:I) (y:Nat),¬(En.row aO 4 s vs).P ({d with heap:=gu (y+1) (.map #[] 0)}:I):=by
  intro vs d y h0;have E:p.block∈aG s:=by simp[aG,z]
  obtain⟨cs,f,hc⟩:=(aJ.row (show aJ ({d with heap:=gu (y+1) (.map #[] 0)}) aO 4 s vs from h0)).tF _ E
  grind
 have Q:=H.vV (bs:=bs) i (k *4) 0 (v:=.int .i64 t.k) (p:=p) (K:=λd=>aL d ((p.add (k *4)).add 1) (.int .u8 (t.lo.toNat:Int)) λh=>kept bs d h/\aL h ((p.add (k *4)).add 2) (.int .u8 (t.hi.toNat:Int)) λj=>kept bs h j/\aL j ((p.add (k *4)).add 3) t.s.v λx=>kept bs j x/\K x) hi z io (λd H1=>?_) A
 .rw [iV]at Q;exact Q
 refine H1.vV (bs:=bs) i (k *4) 1 (by rw[mC B]) z (by grind) (λh G=>?_) (λb q=>F (C _) (A b q));rw[List.set_set]at G;refine G.vV (bs:=bs) i (k *4) 2 (by rw[mC B]) z (by grind) (λj N=>?_) (λb q=>F (C _) (A b q));rw[List.set_set]at N;refine N.vV (bs:=bs) i (k *4) 3 (by rw[mC B]) z (by grind) (λx H4=>?_) (λb q=>F (C _) (A b q));rw[List.set_set,YG hk]at H4
 grind
def _root_.Go.W.O.ad8(H:O M w0 w L D)(i k:Nat){s:Sl}{ts:List J}{t:J}{p:Addr}{K:I->Prop}(hi:L[i]? =some (.row aO 4 s (ts.flatMap J.c)))(j:s.a=some p)(h:k<ts.length)(e:∀d,O M w0 d (L.set i (.row aO 4 s ((ts.set k t).flatMap J.c))) D->K d):
  aL w (p.add (k *4)) (.int .i64 t.k) λq=>aL q ((p.add (k *4)).add 1) (.int .u8 (t.lo.toNat:Int)) λx=>aL x ((p.add (k *4)).add 2) (.int .u8 (t.hi.toNat:Int)) λy=>aL y ((p.add (k *4)).add 3) t.s.v K:=by
 have z:=H.Ua (bs:=[]) (K:=K) i k hi j h e us
 grind
end
def GO{w:I}{s:Sl}{l:List J}(d:aJ w aO 4 s (l.flatMap J.c)){i:Nat}{t:J}(hi:l[i]? =some t){K:Addr->Prop}(e:∀p,s.a=some p->J.h6 w p i t->K p):ea s.a K:=J.a4 d.a9 hi e
section
variable {M:Nat->Prop} {w0 w:I} {L D:List En}
def _root_.Go.W.O.el(H:O M w0 w L D)(i k:Nat){s:Sl}{ts:List J}{t:J}{X:Int}{K:Int->Int->Int->Sl->Prop}(q:X=(k:Int))(e:ts[k]? =some t)(j:K t.k t.lo.toNat t.hi.toNat t.s)(hi:L[i]? =some (.row aO 4 s (ts.flatMap J.c)):=by rfl):
  ow s X λp=>∃a b c:Int,∃d:Sl,w.cell? ((p.add (aY X *4)).add 0)=some (.i a)/\w.cell? ((p.add (aY X *4)).add 1)=some (.int .u8 b)/\w.cell? ((p.add (aY X *4)).add 2)=some (.int .u8 c)/\w.cell? ((p.add (aY X *4)).add 3)=some d.v/\K a b c d:=by subst q;have h:aJ w aO 4 s (ts.flatMap J.c):=H.get i hi;have y:=J.cw h.a9;have x:=(cP.1 e).1;exact⟨io,io,GO h e λp z c=>⟨_,_,_,_,c.c0,c.c1,c.c2,c.c3,j⟩⟩
def _root_.Go.W.O.Eh(H:O M w0 w L D)(i k:Nat){s:Sl}{ts:List J}{t:J}{X:Int}{K:I->Prop}(q:X=(k:Int))(d:k<ts.length)(j:∀h,O M w0 h (L.set i (.row aO 4 s ((ts.set k t).flatMap J.c))) D->K h)(hi:L[i]? =some (.row aO 4 s (ts.flatMap J.c)):=by rfl):
  ow s X λp=>aL w (p.add (aY X *4)) (.i t.k) λz=>aL z ((p.add (aY X *4)).add 1) (.int .u8 (t.lo.toNat:Int)) λA=>aL A ((p.add (aY X *4)).add 2) (.int .u8 (t.hi.toNat:Int)) λB=>aL B ((p.add (aY X *4)).add 3) t.s.v K:=by subst q;have e:aJ w aO 4 s (ts.flatMap J.c):=H.get i hi;have C:=J.cw e.a9;have x:ts[k]? =some ts[k]:=a0 d;exact⟨io,io,GO e x λp y c=>H.ad8 i k hi y d j⟩
end
def EW{j:Nat}(d:1<=j)(e:j<=1000000000):aE .i64 ((j:Int) - 1)=((j - 1:Nat):Int):=by rw[bH _ io];omega
abbrev dW(b:Nat)(u:J):En:=.c b u.c aO
def M'{w:I}{k u:J}{b:Nat}(h:k.P w)(j:u.P w)(e:w.heap[b]? =some (.cells u.c.toArray aO (0,0))):O F0 w w [] [.tree k,.tree u,dW b u]:=bZ _ (by
 intro q d;simp only[aF,aW,a2]at d;rcases d with rfl|rfl|rfl
 .exact h
 .exact j
 .exact e)
def JN(k u:J)(b:Nat)(w:I)(h:k.sz<=1000000)(q:k.P w)(x:u.P w)(j:w.heap[b]? =some (.cells u.c.toArray aO (0,0))):ah U ve #[k.v,.pointer (some (aa b))] w λr y=>r=ab (.bool (bj k.rx u.rx==0))/\af w y:=by refine Sc.aq ((M' q x j).aw λA z d=>⟨_,_,_,u.s,d.dY 2 0,d.dY 2 1,d.dY 2 2,d.dY 2 3,d.av (wL k u z h (d.getD 0) (d.getD 1)) ?_⟩);rintro _ B rfl e;exact⟨_,rfl,rfl,e.fr⟩
def W5(k u:J)(b:Nat)(w:I)(h:k.sz<=1000000)(q:k.P w)(x:u.P w)(j:w.heap[b]? =some (.cells u.c.toArray aO (0,0))):ah U Gb #[k.v,.pointer (some (aa b))] w λr y=>r=ab (.bool (bj k.rx u.rx==0))/\af w y:=by refine Sg.aq ((M' q x j).aw λA z d=>⟨_,_,_,u.s,d.dY 2 0,d.dY 2 1,d.dY 2 2,d.dY 2 3,d.av (wL k u z h (d.getD 0) (d.getD 1)) ?_⟩);rintro _ B rfl e;exact⟨_,rfl,rfl,e.fr⟩
def W4(k:J)(w:I)(j:k.P w):ah U xO #[k.v] w λr q=>r=ab k.v/\af w q:=by refine Se.aq ((gT j).aw λx z d=>d.aw λy A e=>e.ae λB h=>⟨rfl,h.fr⟩)
def m9(q:J->Bool):List J->Nat->Int
 |[],_=>-1
 |a::l,i=>if q a then(i:Int)else m9 q l (i+1)
def Mf(q:J->Bool):∀(l:List J) (i:Nat),ak (m9 q l i>=0)=l.any q
 |[],i=>rfl
 |a::l,i=>by
  unfold m9;rw[List.any_cons];cases d:q a with
  |true=>simp
  |false=>simpa using Mf q l (i+1)
def Jz(s:Sl)(l:List J)(f:Fv)(q:J->Bool)(D:List En)(w:I)(M:l.length<=1000000)(B:bA 4 w s (l.flatMap J.c))(L:∀A∈D,A.P w)(E:hv U f.n=true)(F:∀h t,t∈l->O F0 w h [] (J.row s l::D)->ah U f.n (f.bs++#[t.v]++f.cs) h λr K=>r=ab (.bool (q t))/\af h K):
  ah U Pv #[s.v,f.v] w λr h=>r=ab (.int .i64 (m9 q l 0))/\af w h:=by
 have S:=J.cw B;have loop:∀(d i:Nat) (y:I),i+d=l.length->m9 q (l.drop i) i=m9 q l 0->O F0 w y [] (J.row s l::D)->yy.L0 s f (s.n:Int) (i:Int) y λr h=>r=ab (.int .i64 (m9 q l 0))/\af w h:=by
  intro d;induction d with
  |zero=>
   intro i y G e j;rw[dH io]at e;exact yy.cH (aT (a7 io) ⟨by rw[<-e];rfl,j.fr⟩)
  |succ d Q=>
   intro i y G e j;have z:l[i]? =some (l[i]'io):=a0 io;rw[dG (by omega:i<l.length)]at e;generalize l[i]'io=x at z e;refine yy.cH (aR (a6 io) ⟨io,io,J.a4 (j.getD 0) z λp N c=>⟨x.k,x.lo.toNat,x.hi.toNat,x.s,c.c0,c.c1,c.c2,c.c3,?_⟩⟩);rw[E];refine(show cS true _ from ?_);refine j.call (F y x (ay z) j) ?_;rintro _ T rfl C;have e:(if q x then(i:Int)else m9 q (l.drop (i+1)) (i+1))=m9 q l 0:=e;refine⟨_,rfl,bm (λH=>⟨?_,C.fr⟩) (λH=>?_)⟩
   .grind
   .rw [ad (by grind)]at e;rw[bt _ io]
    grind
 refine yy.ok (loop l.length 0 w io us (bZ _ (λA e=>?_)));rcases aF.1 e with rfl|e
 .exact B
 grind
def WD(s:Sl)(l:List J)(f:Fv)(q:J->Bool)(D:List En)(w:I)(y:l.length<=1000000)(z:bA 4 w s (l.flatMap J.c))(j:∀e∈D,e.P w)(k:hv U f.n=true)(x:∀d t,t∈l->O F0 w d [] (J.row s l::D)->ah U f.n (f.bs++#[t.v]++f.cs) d λr A=>r=ab (.bool (q t))/\af d A):
  ah U Pr #[s.v,f.v] w λr d=>r=ab (.bool (l.any q))/\af w d:=by refine TJ.ok ((Jz s l f q D w y z j k x).mono ?_);rintro _ B ⟨rfl,h⟩;refine⟨_,rfl,?_,h⟩;rw[Mf]
def Mg(q:J->Bool):∀(l:List J) (k:Nat),(m9 q l k=-1/\∀t∈l,q t=false)\/∃m a,l[m]? =some a/\q a=true/\m9 q l k=((k+m:Nat):Int)/\∀t∈l.take m,q t=false
 |[],k=>.inl ⟨rfl,us⟩
 |a::l,k=>by
  unfold m9;cases x:q a with
  |true=>grind
  |false=>
   rcases Mg q l (k+1)with⟨e,d⟩|⟨m,h,e,d,j,w⟩
   .grind
   .refine .inr ⟨m+1,h,by grind,d,?_,?_⟩
    .grind
    grind
section
variable {M:Nat->Prop} {w0 w:I} {L D:List En} {bs:List Nat}
def _root_.Go.W.O.DT(H:O M w0 w L D)(i:Nat){P:au}{g:FuncId}{args:Array V}{A K:aC}{e:aD}{sz:Nat}{s:Sl}{xs:List V}(hi:L[i]? =some (.row e sz s xs))(x:ah P g args w λr d=>A r d/\Fr (·∈aG s) w d)(B:∀r d,A r d->(∀h:En,h.P d->(∀b∈h.fp,b∈aG s\/w.heap.size<=b)->O M w0 d (L.set i h) D)->K r d)(q:∀b∈bs,En.g b∈L:=by simp):e8 bs P g args w K:=
 ⟨(·∈aG s),λb k=>H.Ac hi (q b k),x.mono λr d ⟨j,f⟩=>⟨f,B r d j λh y z=>H.fy i h hi f y z⟩⟩
def _root_.Go.W.O.off(H:O M w0 w L D)(i j:Nat){e:aD}{sz:Nat}{s:Sl}{xs:List V}{d:En}(hi:L[i]? =some (.row e sz s xs):=by rfl)(q:D[j]? =some d:=by rfl):∀h∈aG s,h∉d.fp:=λh x k=>
 H.dj d (ay q) h k _ (ay hi) x
end
def wz(s:Sl)(l:List J)(r:cZ)(w w':I):Prop:=∃d:Sl,r=ab d.v/\aJ w' aO 4 d (l.flatMap J.c)/\∀e∈aG d,e∈aG s
def Fu{w:I}{s:Sl}{l:List J}(D:List En)(q:aJ w aO 4 s (l.flatMap J.c))(j:∀d∈D,d.P w/\∀y∈aG s,y∉d.fp):O (·∈aG s) w w [.row aO 4 s (l.flatMap J.c)] D:=
 O.og _ _ (by
  intro d e;simp only[aF,aW,a2]at e;subst e;exact⟨q,λb h=>h⟩) (by
  simp only[dI,List.flatMap_nil,List.append_nil];exact(En.row aO 4 s (l.flatMap J.c)).nd) (λd e=>⟨(j d e).1,λb h z k=>by simp only[aF,aW,a2]at k;subst k;exact λx=>(j d e).2 b x h⟩)
def Uq{α:Type}{l:List α}{i:Nat}{a:α}(d:i<l.length):(l.set i a).take (i+1)=l.take i++[a]:=by rw[ha,mC d,List.take_set_of_le (bz _)];rfl
def WG(s:Sl)(l:List J)(u:J)(b:Nat)(w:I)(hl:J.a1 l<=1000000)(K:aJ w aO 4 s (l.flatMap J.c))(pl:J.Ps w l)(pu:u.P w)(hb:w.heap[b]? =some (.cells u.c.toArray aO (0,0)))(hd:∀h∈aG s,h∉J.be l/\h∉u.fp/\h≠b):
  ah U Pt #[s.v,.func (.func ve) #[] #[.pointer (some (aa b))]] w λr x=>wz s (l.filter λt=>!(bj t.rx u.rx==0)) r w x/\Fr (·∈aG s) w x:=by
 have nr:=J.cw K.a9;have ll:=J.gp l;have kt:∀t∈l,t.sz<=1000000:=λt z=>bI (J.eM z) hl;have L:O (·∈aG s) w w [.row aO 4 s (l.flatMap J.c)] [.trees l,.tree u,dW b u]:=Fu _ K (by
  intro ac T;simp only[aF,aW,a2]at T;rcases T with rfl|rfl|rfl
  .exact ⟨pl,λh e A=>(hd h e).1 (aU.1 A)⟩
  .exact ⟨pu,λh e A=>(hd h e).2.1 (aU.1 A)⟩
  .exact ⟨hb,λh e A=>(hd h e).2.2 (by simpa[dW,En.c,En.ob]using A)⟩)
 have loop:∀(d i j:Nat) (cur:List J) (B:I),j+d=l.length->i<j->cur.length=l.length->cur.drop j=l.drop j->cur.take i=(l.take j).filter (λt=>!(bj t.rx u.rx==0))->O (·∈aG s) w B [.row aO 4 s (cur.flatMap J.c)] [.trees l,.tree u,dW b u]->
   tg.aX s (aa b) (i:Int) (j:Int) B λr x=>wz s (l.filter λt=>!(bj t.rx u.rx==0)) r w x/\Fr (·∈aG s) w x:=by
  intro d;induction d with
  |zero=>
   intro i j cur B hj ag S E W q;refine tg.bR (aT (a7 io) ⟨io,io,?_⟩);have am:=(q.get 0:aJ _ _ _ _ _).cap;obtain⟨Z,C,N,G⟩:=KF (ty:=om) sa Vl rfl (q.get 0) i io;refine⟨Z,C,io,io,⟨⟨if s.c=0 then s.a else s.a.map (·.add (0 *4)),i - 0,s.c - 0⟩,rfl,?_,λh e=>?_⟩,q.fr.trans G λh _ ad=>ad⟩
   .have ac:(cur.flatMap J.c).take (i *4)=(l.filter λt=>!(bj t.rx u.rx==0)).flatMap J.c:=by
     have e1:(cur.flatMap J.c).take (i *4)=(cur.take i).flatMap J.c:=by
      have:=J.hU (cur.take i);conv=>lhs;rw[<-Hd i cur,eg]
      grind
     grind
    grind
   .simp only[aG]at e ⊢;split at e
    .rename_i p y;split at y
     .omega
     .cases aj:s.a with
      |none=>grind
      |some ao=>
       rw[aj]at y;simp only[Option.map_some,fC]at y;subst y;rw[kC]at e;exact e
    grind
  |succ d Y=>
   intro i j cur B hj ag S E W q;have H:l[j]? =some (l[j]'io):=a0 io;generalize an:l[j]'io=a at H;have af:cur[j]? =some a:=by
    have:(cur.drop j)[0]? =(l.drop j)[0]?:=by rw[E]
    grind
   have Q:=ay H;have ai:l.take (j+1)=l.take j++[a]:=by rw[ha,H];rfl
   refine tg.bR (aR (a6 io) ⟨io,io,GO (q.get 0) af λp y c=>⟨a.k,a.lo.toNat,a.hi.toNat,a.s,c.c0,c.c1,c.c2,c.c3,?_⟩⟩);refine q.aw (λb7 Z H2=>H2.ae λw3 D=>?_);refine D.av (JN a u b w3 (kt a Q) ((show J.Ps w3 l from D.getD 0).mem Q) (D.getD 1) (D.getD 2)) ?_;rintro _ w4 rfl M;refine⟨_,rfl,eS (λhf=>⟨io,io,?_⟩) (λz=>?_)⟩
   .rw [y];refine(show ea (some p) _ from ?_);refine M.Ua 0 i (t:=a) (ts:=cur) rfl y io (λw5 H5=>?_);show tg.aX _ _ _ _ _ _;rw[bt _ io,bt _ io];refine Y (i+1) (j+1) (cur.set i a) w5 io io (by grind) ?_ ?_ (H5.take 1)
    .rw [List.drop_set_of_lt io,<-lR,E,lR]
    .rw [Uq io,W,ai,List.filter_append]
     grind
   .show tg.aX _ _ _ _ _ _;rw[bt _ io];refine Y i (j+1) cur w4 io io S ?_ ?_ (M.take 1)
    .rw [<-lR,E,lR]
    grind
 refine tg.aq ?_;have hI:=Jz s l ⟨ve,#[],#[.pointer (some (aa b))]⟩ (λt=>bj t.rx u.rx==0) [.trees l,.tree u,dW b u] w io K.a9 (L.rd) (by kernel_rfl) (λx t z F=>JN t u b x (kt t z) ((show J.Ps x l from F.getD 1).mem z) (F.getD 2) (F.getD 3));refine L.call hI ?_;rintro _ B rfl q;rcases Mg (λt=>bj t.rx u.rx==0) l 0 with⟨C,N⟩|⟨m,a,C,N,G,h4⟩
 .refine ⟨_,rfl,aR (by grind) ⟨⟨s,rfl,?_,λh e=>e⟩,q.fr⟩⟩;rw[List.filter_eq_self.2 (λt z=>by grind)];exact q.get 0
 .have A:m<l.length:=(cP.1 C).1;refine⟨_,rfl,aT (by grind) ?_⟩;rw[G,Nat.zero_add,bt _ io];refine loop (l.length - (m+1)) m (m+1) l B io io rfl rfl ?_ q;rw[ha,C,List.filter_append,List.filter_eq_self.2 (λt z=>by grind)]
  grind
def ff(x k:J):List J:=if k.k=x.k then k.l else[k]
def Fg(u t:J):Bool:=!(bj t.rx u.rx==0)
def gO(x u:J):List J:=(x.l.flatMap (ff x)).filter (Fg u)
structure Sub(x:J)(l:List J):Prop where
 P:∀w:I,x.P w->∀t∈l,t.P w
 fp:∀t∈l,∀b∈t.fp,b∈x.fp
def Sub.part{x t:J}(e:t∈x.l):Sub x [t]:=⟨λq j k d=>by
  simp at d;subst d;exact j.parts.2.mem e,λk d b h=>by simp at d;subst d;exact J.gP.2 (.inr (J.b0.2 ⟨_,e,h⟩))⟩
def Sub.open{x k:J}(d:k∈x.l):Sub x (ff x k):=by
 unfold ff;split
 .exact ⟨λq j t e=>((j.parts.2.mem d).parts.2).mem e,λt e b h=>J.gP.2 (.inr (J.b0.2 ⟨k,d,J.gP.2 (.inr (J.b0.2 ⟨t,e,h⟩))⟩))⟩
 .exact .part d
def Sub.flat{x:J}{l:List J}(j:∀e∈l,e∈x.l):Sub x (l.flatMap (ff x)):=⟨λq k t d=>by
  obtain⟨e,h,d⟩:=b'.1 d;exact(Sub.open (j e h)).P q k t d,λt d=>by obtain⟨e,h,d⟩:=b'.1 d;exact(Sub.open (j e h)).fp t d⟩
def Sub.sub{x:J}{l m:List J}(e:Sub x l)(h:∀t∈m,t∈l):Sub x m:=⟨λk j t d=>e.P k j t (h t d),λt d=>e.fp t (h t d)⟩
def Sub.Ps{x:J}{l:List J}(d:Sub x l){w:I}(e:x.P w):J.Ps w l:=J.jL (d.P w e)
def Sub.be{x:J}{l:List J}(e:Sub x l){b:Nat}(d:b∈J.be l):b∈x.fp:=by obtain⟨t,h,d⟩:=J.b0.1 d;exact e.fp t h b d
def Sub.gO(x u:J):Sub x (gO x u):=(Sub.flat (λ_ d=>d)).sub λ_ d=>(List.mem_filter.1 d).1
def vY(x:J):∀l:List J,J.a1 (l.flatMap (ff x))<=J.a1 l
 |[]=>bz _
 |d::l=>by
  have e:J.a1 (ff x d)<=d.sz:=by
   unfold ff;split
   .rw [J.iK d];omega
   .simp [J.a1]
  rw[dI,vX];have:=vY x l;show _<=d.sz+J.a1 l;omega
def Ui(q:J->Bool):∀l:List J,J.a1 (l.filter q)<=J.a1 l
 |[]=>bz _
 |d::l=>by
  have:=Ui q l;rw[List.filter_cons];split
  .unfold J.a1;omega
  .show _<=d.sz+J.a1 l;omega
def aed(x u:J):J.a1 (gO x u)+1<=x.sz:=by have d:=Ui (Fg u) (x.l.flatMap (ff x));have e:=vY x x.l;rw[J.iK x];unfold gO;omega
def CZ(w:I)(l:List J)(r:cZ)(w':I):Prop:=∃d:Sl,r=ab d.v/\aJ w' aO 4 d (l.flatMap J.c)/\∀e∈aG d,w.heap.size<=e
def W2(x u:J)(w:I)(an:x.sz<=1000000)(px:x.P w)(pu:u.P w):ah U O' #[x.v,u.v] w λr w'=>CZ w (gO x u) r w'/\af w w':=by
 have hs:=J.iK x;have hl:=J.gp x.l;have nr:=J.cw px.parts.1;have loop:∀(d i:Nat) (acc:List J) (sl:Sl) (q B:Nat) (z:I),i+d=x.l.length->acc=(x.l.take i).flatMap (ff x)->O F0 w z [.g q,.c B u.c aO,.row aO 4 sl (acc.flatMap J.c)] [.tree x,.tree u]->
   ta.aX q x.k x.lo.toNat x.hi.toNat x.s (aa B) sl x.s (x.s.n:Int) (i:Int) z λr w'=>CZ w (gO x u) r w'/\af w w':=by
  intro d;induction d with
  |zero=>
   intro i acc sl q B z ac C e;have W:Sub x acc:=by rw[C];exact Sub.flat λav D=>List.mem_of_mem_take D
   have aj:J.a1 acc<=J.a1 x.l:=by rw[C,fW io];exact vY x x.l
   refine ta.bR (aT (a7 io) ?_);refine e.DT 2 rfl (WG sl acc u B z io (e.get 2) (W.Ps (e.getD 0)) (e.getD 1) (e.ob 1) (λT M=>⟨λy=>e.off 2 0 rfl rfl T M (aU.2 (W.be y)),λy=>e.off 2 1 rfl rfl T M (aU.2 y),λy=>?_⟩)) ?_
   .exact jX e.nd (i:=2) rfl (j:=1) rfl io T M (by simp[En.c,En.ob,y])
   rintro _ N ⟨h,rfl,L,hb⟩ hH;have A:=hH (.row aO 4 h ((acc.filter (Fg u)).flatMap J.c)) L λb K=>.inl (hb b K);refine⟨h,rfl,⟨h,rfl,?_,λb K=>(A.new _ (ay (i:=2) rfl) b K).resolve_right id⟩,A.fr⟩;rw[C,fW io]at L;exact L
  |succ d ar=>
   intro i acc sl q B z ac C e;have G:x.l[i]? =some (x.l[i]'io):=a0 io;generalize x.l[i]'io=a at G;have y:=ay G;have am:x.P z:=e.getD 0;have aA:=J.eM y;have aj:J.a1 acc<=J.a1 x.l:=by
    have h1:=vY x (x.l.take i);have h2:=BZ x.l i
    grind
   have ao:acc++ff x a=(x.l.take (i+1)).flatMap (ff x):=by rw[ha,G,eg,C];simp
   have az:=J.cw (e.get 2:aJ _ _ _ _ _).a9;have ai:=J.gp acc;have tail:∀(h:Sl) (w':I),O F0 w w' [.g q,.c B u.c aO,.row aO 4 h ((acc++ff x a).flatMap J.c)] [.tree x,.tree u]->ta.bg q x.k x.lo.toNat x.hi.toNat x.s (aa B) h x.s (x.s.n:Int) (i:Int) w' λr w'=>CZ w (gO x u) r w'/\af w w':=by
    intro h w' H';show ta.aX _ _ _ _ _ _ _ _ _ _ _ _;rw[bt _ io]
    grind
   refine ta.bR (aR (a6 io) ⟨io,io,J.a4 am.parts.1 G λp hp c=>⟨_,_,_,_,c.c0,c.c1,c.c2,c.c3,?_⟩⟩);refine e.aw λb7 N A=>ax (λD=>A.ae λQ E=>?_) (λD=>A.ae λQ E=>?_)
   .have Z:a.P Q:=(show x.P Q from E.getD 0).parts.2.mem y;have na:=J.cw Z.parts.1;have ai:=J.gp a.l;have ap:=J.iK a;refine E.eI 2 sa (xs:=acc.flatMap J.c) (src:=a.s) (news:=a.l.flatMap J.c) rfl Z.parts.1 (uq _) io (λh S H=>?_);refine tail h S ?_;have F:ff x a=a.l:=ag D;rw[F,eg];exact H.take 3
   .refine E.jo 2 sa (xs:=acc.flatMap J.c) rfl (λh S H=>?_) io;refine tail h S ?_;have F:ff x a=[a]:=ad D;rw[F,nW];exact H.take 3
 refine ta.aq ((bZ [.tree x,.tree u] (by
  intro F Y;simp only[aF,aW,a2]at Y;rcases Y with rfl|rfl
  .exact px
  .exact pu)).aw λq z H1=>H1.nw λN _ A=>?_)
 exact loop x.l.length 0 [] ⟨none,0,0⟩ q z.heap.size N io rfl (A.iH aO 4)
def D1(a b:Int):cI b a=-cI a b:=by
 have s:∀a b:Int,(cI a b=-1/\a<b)\/(cI a b=1/\b<a)\/(cI a b=0/\a=b):=λa b=>by
  unfold cI;split
  .exact .inl ⟨rfl,io⟩
  .split
   .exact .inr (.inl ⟨rfl,io⟩)
   .exact .inr (.inr ⟨rfl,io⟩)
 rcases s a b with d|d|d<;>rcases s b a with e|e|e<;>omega
def GM(c d:Int)(l m:List Int)(e:d=-c)(h:ep m=-ep l):ep (d::m)=-ep (c::l):=by
 show(if d≠0 then d else ep m)=-(if c≠0 then c else ep l);split
 .rw [ag io];exact e
 .rw [ad io];exact h
def xZ(c:Int):ep [c]=c:=by show(if c≠0 then c else 0)=c;split<;>omega
def ux(k:Int)(lo hi:UInt8)(l:List Rx)(b:Rx):bj (.mk k lo hi l) b=ep [cI k b.k,cI lo.toNat b.lo.toNat,cI hi.toNat b.hi.toNat,cmpL l b.l]:=by
 unfold bj;generalize cI k b.k=c0;generalize cI lo.toNat b.lo.toNat=c1;generalize cI hi.toNat b.hi.toNat=c2;generalize cmpL l b.l=c3;simp only[ep];by_cases d:c0=0
 .by_cases e:c1=0
  .by_cases h:c2=0
   .by_cases j:c3=0<;>simp[d,e,h,j]
   .simp [d,e,h]
  .simp [d,e]
 .simp [d]
mutual
def uy:∀a b:Rx,bj b a=-bj a b
 |.mk j lo e l,.mk k q h d=>by rw[ux,ux];exact GM _ _ _ _ (D1 _ _) (GM _ _ _ _ (D1 _ _) (GM _ _ _ _ (D1 _ _) (by rw[xZ,xZ];exact Kp l d)))
def Kp:∀a b:List Rx,cmpL b a=-cmpL a b
 |[],[]=>by unfold cmpL;rfl
 |[],_::_=>by unfold cmpL;rfl
 |_::_,[]=>by unfold cmpL;rfl
 |d::l,e::m=>by
  have h:=uy d e;have j:=Kp l m;show(if bj e d≠0 then bj e d else cmpL m l)=-(if bj d e≠0 then bj d e else cmpL l m);split
  .rw [ag io];exact h
  .rw [ad io];exact j
end
structure rQ(x y z:Int):Prop where
 le:x<=0->y<=0->z<=0
 lt:x<0->y<=0->z<0
 lt':x<=0->y<0->z<0
 eq:x=0->y=0->z=0
def D2(a b c:Int):rQ (cI a b) (cI b c) (cI a c):=by
 have s:∀a b:Int,(cI a b=-1/\a<b)\/(cI a b=1/\b<a)\/(cI a b=0/\a=b):=λa b=>by
  unfold cI;split
  .exact .inl ⟨rfl,io⟩
  .split
   .exact .inr (.inl ⟨rfl,io⟩)
   .exact .inr (.inr ⟨rfl,io⟩)
 rcases s a b with d|d|d<;>rcases s b c with e|e|e<;>rcases s a c with h|h|h<;>constructor<;>omega
def Ca{x y q z A B:Int}(H:rQ x y q)(J:rQ z A B):rQ (if x≠0 then x else z) (if y≠0 then y else A) (if q≠0 then q else B):=by
 obtain⟨K,h,k,C⟩:=H;obtain⟨D,E,F,G⟩:=J;by_cases w:x=0
 .by_cases j:y=0
  .have L:=C w j;rw[ad io,ad io,ad io];exact⟨D,E,F,G⟩
  .rw [ad (by omega:¬x≠0),ag j];constructor
   .intro d e;have:=k io io;rw[ag io];omega
   .intro d e;have:=k io io;rw[ag io];omega
   .intro d e;have:=k io io;rw[ag io];omega
   .intro d e;omega
 .rw [ag w];by_cases j:y=0
  .rw [ad (by omega:¬y≠0)];constructor
   .intro d e;have:=h io io;rw[ag io];omega
   .intro d e;have:=h io io;rw[ag io];omega
   .intro d e;have:=h io io;rw[ag io];omega
   .intro d e;omega
  .rw [ag j];constructor
   .intro d e;have:=h io io;rw[ag io];omega
   .intro d e;have:=h io io;rw[ag io];omega
   .intro d e;have:=h io io;rw[ag io];omega
   .intro d e;omega
mutual
def zR:∀a b c:Rx,rQ (bj a b) (bj b c) (bj a c)
 |.mk q lo h l,.mk w y j d,.mk x z k e=>by
  rw[ux,ux,ux];have:=Kq l d e;exact Ca (D2 _ _ _) (Ca (D2 _ _ _) (Ca (D2 _ _ _) (by show rQ (ep [cmpL l d]) (ep [cmpL d e]) (ep [cmpL l e]);rw[xZ,xZ,xZ];exact this)))
def Kq:∀a b c:List Rx,rQ (cmpL a b) (cmpL b c) (cmpL a c)
 |[],[],[]=>by unfold cmpL;constructor<;>omega
 |[],[],_::_=>by unfold cmpL;constructor<;>omega
 |[],_::_,[]=>by unfold cmpL;constructor<;>omega
 |_::_,[],[]=>by unfold cmpL;constructor<;>omega
 |_::_,[],_::_=>by have d:∀(x:Rx) (l:List Rx),cmpL (x::l) []=1:=λ_ _=>rfl;have e:∀(x:Rx) (l:List Rx),cmpL [] (x::l)=-1:=λ_ _=>rfl;rw[d,e];constructor<;>omega
 |[],h::m,j::n=>by have e:∀(x:Rx) (l:List Rx),cmpL [] (x::l)=-1:=λ_ _=>rfl;rw[e,e];constructor<;>omega
 |x::l,h::m,[]=>by have d:∀(x:Rx) (l:List Rx),cmpL (x::l) []=1:=λ_ _=>rfl;rw[d,d];constructor<;>omega
 |x::l,h::m,j::n=>Ca (zR x h j) (Kq l m n)
end
def m'(x:Rx):List Rx->List Rx
 |[]=>[x]
 |d::p=>if bj x d<0 then d::m' x p else x::d::p
def lV(l:List Rx):List Rx:=(l.foldl (λp d=>m' d p) []).reverse
def lC(p:Rx):List Rx->List Rx
 |[]=>[]
 |d::l=>if bj d p==0 then lC d l else d::lC d l
def r8:List Rx->List Rx
 |[]=>[]
 |a::l=>a::lC a l
def D3{a b:Int}(d:cI a b=0):a=b:=by unfold cI at d;omega
def QW:∀{l:List Int},ep l=0->∀e∈l,e=0
 |[],_=>λe d=>by cases d
 |a::l,h=>by
  unfold ep at h;split at h
  .omega
  .rename_i j;have j:a=0:=io
   intro e d;rcases aF.1 d with rfl|d
   .exact j
   .exact QW h e d
def U0{a b:UInt8}(d:(a.toNat:Int)=b.toNat):a=b:=UInt8.toNat_inj.1 io
mutual
def cmp_eq:∀a b:Rx,bj a b=0->a=b
 |.mk z lo x l,.mk A B y q,d=>by
  rw[ux]at d;have d:=QW d;have e:=D3 (d _ (nq ..));have h:=U0 (D3 (d _ (dJ _ (nq ..))));have j:=U0 (D3 (d _ (dJ _ (dJ _ (nq ..)))));have w:=Kw l q (d _ (dJ _ (dJ _ (dJ _ (nq ..)))));simp only[Rx.k,Rx.lo,Rx.hi]at e h j
  grind
def Kw:∀l m:List Rx,cmpL l m=0->l=m
 |[],[],_=>rfl
 |[],_::_,d=>by unfold cmpL at d;cases d
 |_::_,[],d=>by unfold cmpL at d;cases d
 |a::l,b::m,d=>by
  unfold cmpL at d;split at d
  .omega
  .rename_i e;rw[cmp_eq a b io,Kw l m d]
end
def D6(a:Rx):bj a a=0:=by have:=uy a a;omega
def r7{a b:Rx}:(bj a b==0)=true↔a=b:=⟨λd=>cmp_eq a b (eq_of_beq d),λd=>by subst d;rw[D6];rfl⟩
def wS{a b:Rx}:bj a b=0↔a=b:=⟨cmp_eq a b,λd=>by subst d;exact D6 a⟩
def Kt{a b:Rx}:(!(bj a b==0))=true↔a≠b:=by rw[Bool.not_eq_true',<-iu,not_congr r7]
abbrev jT(l:List Rx):Prop:=l.Pairwise λa b=>bj a b<0
abbrev pf(l:List Rx):Prop:=l.Pairwise λa b=>bj a b<=0
def jT.nodup{l:List Rx}(e:jT l):l.Nodup:=List.nodup_iff_pairwise_ne.2 (e.imp λ{a b} h d=>by subst d;rw[D6]at h;omega)
def jT.Je{l:List Rx}(d:jT l):pf l:=d.imp λ{a b} e=>io
def Jf{l m:List Rx}(e:pf l)(h:pf m)(d:l.Perm m):l=m:=List.Perm.eq_of_pairwise (λa b _ _ j k=>cmp_eq a b (by have:=uy a b;omega)) e h d
def Zq{l m:List Rx}(d:jT l)(e:jT m)(h:∀t,t∈l↔t∈m):l=m:=Jf d.Je e.Je ((List.perm_ext_iff_of_nodup d.nodup e.nodup).2 h)
def E4(x:Rx):∀p:List Rx,(m' x p).Perm (x::p)
 |[]=>.refl _
 |d::p=>by
  unfold m';split
  .exact ((E4 x p).cons d).trans (.swap x d p)
  .exact .refl _
def Mo(x:Rx):∀{p:List Rx},p.Pairwise (λa b=>bj b a<=0)->(m' x p).Pairwise λa b=>bj b a<=0
 |[],_=>by unfold m';simp
 |e::p,h=>by
  have j:=List.pairwise_cons.1 h;unfold m';split
  .rename_i k;refine List.pairwise_cons.2 ⟨λt d=>?_,Mo x j.2⟩;rcases aF.1 ((E4 x p).mem_iff.1 d)with rfl|d
   .omega
   grind
  .rename_i k;have q:bj e x<=0:=by have:=uy x e;omega
   refine List.pairwise_cons.2 ⟨λt d=>?_,h⟩;rcases aF.1 d with rfl|d
   .omega
   .exact (zR t e x).le (j.1 t d) q
def HS(l:List Rx):(lV l).Perm l:=by
 have:∀(l p:List Rx),(l.foldl (λp h=>m' h p) p).Perm (l++p):=by
  intro l;induction l with
  |nil=>intro p;exact .refl _
  |cons a l e=>
   intro p;rw[List.foldl_cons];exact(e _).trans (((E4 a p).append_left l).trans List.perm_middle)
 unfold lV;have d:=this l [];rw[List.append_nil]at d;exact(List.reverse_perm _).trans d
def HR(l:List Rx):pf (lV l):=by
 have:∀(l p:List Rx),p.Pairwise (λa b=>bj b a<=0)->(l.foldl (λp h=>m' h p) p).Pairwise λa b=>bj b a<=0:=by
  intro l;induction l with
  |nil=>grind
  |cons a l e=>intro p d;exact e _ (Mo a d)
 unfold lV;exact List.pairwise_reverse.2 (this l [] .nil)
def adF{l m:List Rx}(d:pf m)(e:m.Perm l):m=lV l:=Jf d (HR l) (e.trans (HS l).symm)
def D8{t:Rx}:∀{l:List Rx} {p:Rx},(t=p\/t∈lC p l)↔(t=p\/t∈l)
 |[],p=>by unfold lC;simp
 |d::l,p=>by
  unfold lC;split
  .rename_i h;have e:d=p:=r7.1 h;subst e;rw[D8,aF]
   grind
  .rw [aF,aF];have:=D8 (t:=t) (l:=l) (p:=d)
   grind
def D7:∀{l:List Rx} {p:Rx},pf (p::l)->jT (p::lC p l)
 |[],p,_=>by unfold lC;simp
 |d::l,p,w=>by
  obtain⟨x,h⟩:=List.pairwise_cons.1 w;unfold lC;split
  .rename_i k;have q:d=p:=r7.1 k;subst q;exact D7 h
  .rename_i k;have y:bj p d<0:=by
    have z:=x d us;have A:=uy d p
    grind
   have j:=D7 h;refine List.pairwise_cons.2 ⟨λt e=>?_,j⟩;rcases aF.1 e with rfl|e
   .omega
   .exact (zR p d t).lt y (by have:=(List.pairwise_cons.1 j).1 t e;omega)
def XQ{l:List Rx}(d:pf l):jT (r8 l):=by
 cases l with
 |nil=>exact .nil
 |cons a l=>exact D7 d
def XR{t:Rx}{l:List Rx}:t∈r8 l↔t∈l:=by
 cases l with
 |nil=>exact Iff.rfl
 |cons a l=>show t∈a::lC a l↔_;rw[aF,aF];exact D8
def vM(l:List Rx):List Rx:=r8 (lV l)
def Tx(l:List Rx):jT (vM l):=XQ (HR l)
def Ty{t:Rx}{l:List Rx}:t∈vM l↔t∈l:=by unfold vM;rw[XR,(HS l).mem_iff]
def mB(r:Rx):List Rx->List Rx
 |[]=>[r]
 |d::p=>if bj d r<0 then d::mB r p else if bj d r=0 then d::p else r::d::p
def Ha{t r:Rx}:∀{p:List Rx},t∈mB r p↔t=r\/t∈p
 |[]=>by unfold mB;simp
 |e::p=>by
  unfold mB;split
  .rw [aF,Ha,aF]
   grind
  .split
   .rename_i d;have h:=cmp_eq e r d
    grind
   .simp
def RQ{r:Rx}:∀{p:List Rx},jT p->jT (mB r p)
 |[],_=>by unfold mB;simp
 |h::p,e=>by
  obtain⟨w,q⟩:=List.pairwise_cons.1 e;unfold mB;split
  .rename_i k;refine List.pairwise_cons.2 ⟨λt d=>?_,RQ q⟩;rcases Ha.1 d with rfl|d
   .exact k
   grind
  .split
   .exact e
   .rename_i k x;have j:bj r h<0:=by have:=uy r h;omega
    refine List.pairwise_cons.2 ⟨λt d=>?_,e⟩;rcases aF.1 d with rfl|d
    .exact j
    .exact (zR r h t).lt j (by grind)
def hF(k:Int):List Rx->List Rx->List Rx
 |out,[]=>out
 |out,t::l=>hF k (if k=3 then out++[t]else mB t out) l
def QZ:∀(l out:List Rx),hF 3 out l=out++l
 |[],out=>by unfold hF;simp
 |t::l,out=>by unfold hF;rw[QZ l,ag rfl];simp
def Q7{k:Int}(e:k≠3):∀(l:List Rx) {out:List Rx},jT out->jT (hF k out l)
 |[],_,d=>d
 |t::l,out,d=>by unfold hF;rw[ad e];exact Q7 e l (RQ d)
def Q8{k:Int}(d:k≠3){t:Rx}:∀(l:List Rx) {out:List Rx},t∈hF k out l↔t∈out\/t∈l
 |[],out=>by unfold hF;simp
 |a::l,out=>by
  unfold hF;rw[ad d,Q8 d l,Ha,aF]
  grind
def ab2(k:Int)(l:List Rx):hF k [] l=if k=3 then l else vM l:=by
 split
 .rename_i d;subst d;rw[QZ];rfl
 .rename_i d;exact Zq (Q7 d l .nil) (Tx l) λt=>by rw[Q8 d,Ty];simp
def ms(μ:Rx->Nat):List Rx->Nat
 |[]=>0
 |a::l=>μ a+ms μ l
section
variable {μ:Rx->Nat}
def NI:∀l m:List Rx,ms μ (l++m)=ms μ l+ms μ m
 |[],m=>by simp[ms]
 |a::l,m=>by show μ a+ms μ (l++m)=μ a+ms μ l+ms μ m;rw[NI l m];omega
def aaR{l m:List Rx}(h:l.Perm m):ms μ l=ms μ m:=by
 induction h with
 |nil=>rfl
 |cons d _ j=>show μ d+_=μ d+_;rw[j]
 |swap d e l=>show μ e+(μ d+_)=μ d+(μ e+_);omega
 |trans _ _ k q=>omega
end
mutual
def dy:Rx->Nat|.mk _ _ _ l=>max 1 (AB l)
def AB:List Rx->Nat
 |[]=>0
 |a::l=>dy a+AB l
end
def Nm:∀l:List Rx,AB l=ms dy l
 |[]=>rfl
 |a::l=>by unfold AB;rw[Nm l];rfl
def sJ(k:Int)(lo hi:UInt8)(l:List Rx):dy (.mk k lo hi l)=max 1 (ms dy l):=by unfold dy;rw[Nm]
mutual
def jw(N:Nat):Rx->Prop|.mk k _ _ l=>su N l/\(k=4\/k=5->ms dy l<=N)
def su(N:Nat):List Rx->Prop
 |[]=>True
 |a::l=>jw N a/\su N l
end
mutual
def z7{N:Nat}:∀d:Rx,dy d<=N->jw N d
 |.mk j lo h l,e=>by rw[sJ]at e;unfold jw;exact⟨LK l io,λ_=>io⟩
def LK{N:Nat}:∀l:List Rx,ms dy l<=N->su N l
 |[],_=>by unfold su;trivial
 |a::l,d=>by have d:dy a+ms dy l<=N:=d;unfold su;exact⟨z7 a io,LK l io⟩
end
set_option maxRecDepth 100000
set_option maxHeartbeats 2000000
namespace xA
abbrev P0:Ps:=[(0,.U),(2,.I)]
abbrev S2:=ai (aA U Tryz.f247 [] []) [4] P0
abbrev t1:=aj S2
abbrev S1:=ai t1 [3] P0
abbrev t2:=aj S1
abbrev S0:=ai t2 [2] P0
abbrev t3:=aj S0
def ok:=aB t3 aa3 [.U]
end xA
namespace Nz
def ok:=aB (aA U Tryz.f226 [] []) OX [.U]
end Nz
namespace nz
abbrev P0:Ps:=[(0,.s),(1,.I),(2,.I),(3,.v [.g eW 0 0]),(8,.I)]
def L0:=bD (aA U Tryz.f238 [(4,lr 17),(6,lr 18)] []) [0,1,1] P0
abbrev t1:=bB L0
def L1:=bD t1 [0,1,1,2,1,2,1] [(0,.s),(1,.I),(2,.I),(3,.v [.g eW 0 0]),(8,.I),(9,.I)]
abbrev t2:=bB L1
abbrev S2:=ai t2 [2,2,1] P0
abbrev t3:=aj S2
def jU:=bO t3 L1
def cH:=bO t3 L0
def ok:=aB t3 Px [.s,.I,.I,.g eW 0 0]
end nz
namespace ady
abbrev S5:=ai (aA U Tryz.f241 [] []) [7] [(11,.r),(13,.I)]
abbrev t1:=aj S5
abbrev S4:=ai t1 [1,1,1,1,6] [(0,.s),(3,.v [.g eW 0 0]),(11,.r),(12,.I),(13,.I),(14,.I)]
abbrev t2:=aj S4
abbrev S3:=ai t2 [6] [(0,.s),(3,.v [.g eW 0 0]),(10,.I),(11,.r),(12,.I),(13,.I),(14,.I)]
abbrev t3:=aj S3
abbrev S2:=ai t3 [5] [(0,.s),(1,.I),(3,.v [.g eW 0 0]),(10,.I),(11,.r),(12,.I),(13,.I)]
abbrev t4:=aj S2
abbrev S1:=ai t4 [4] [(0,.s),(1,.I),(3,.v [.g eW 0 0]),(10,.I),(11,.r),(12,.I)]
abbrev t5:=aj S1
abbrev S0:=ai t5 [2] [(0,.s),(1,.I),(3,.v [.g eW 0 0]),(10,.I)]
abbrev t6:=aj S0
end ady
namespace adz
abbrev P0:Ps:=[(0,.s),(1,.I),(2,.I),(3,.v [.g eW 0 0]),(9,.I),(10,.I)]
def L1:=bD (aA U Tryz.f243 [(5,lr 18),(11,lr 18),(16,lr 13),(17,lr 18),(22,lr 13),(23,lr 18)] []) [0,1,1,1,2] P0
abbrev t1:=bB L1
def L2:=bD t1 [0,4,1,2,1,1,2] P0
abbrev t2:=bB L2
def L4:=bD t2 [0,1,1,1,1,1,4,2,1,2,1,1,2] [(0,.s),(1,.I),(2,.I),(3,.v [.g eW 0 0]),(9,.I),(10,.I),(11,.I)]
abbrev t3:=bB L4
def L6:=bD t3 [0,1,1,1,6,2,1,2,1,1,2] [(0,.s),(1,.I),(2,.I),(3,.v [.g eW 0 0]),(9,.I),(10,.I),(12,.I)]
abbrev t4:=bB L6
abbrev S7:=ai t4 [2,2,1,1,2] P0
abbrev t5:=aj S7
abbrev S5:=ai t5 [5,2,1,2,1,1,2] P0
abbrev t6:=aj S5
abbrev S3:=ai t6 [1,2,1,2,1,1,2] P0
abbrev t7:=aj S3
abbrev S0:=ai t7 [2] [(0,.s),(1,.I),(2,.I),(3,.v [.g eW 0 0]),(9,.I)]
abbrev t8:=aj S0
end adz
namespace adA
abbrev P0:Ps:=[(0,.s),(1,.I),(4,.v [.g eW 0 0]),(12,.I),(13,.I)]
def L0:=bD (aA U Tryz.f245 [(1,lr 16),(3,lr 16),(5,lr 17),(8,lr 16),(10,lr 16),(13,lr 16),(15,lr 17),(18,lr 16),(21,lr 16)] []) [0,2,3] P0
abbrev t1:=bB L0
def L1:=bD t1 [0,2,4] P0
abbrev t2:=bB L1
def L4:=bD t2 [0,2,9] P0
abbrev t3:=bB L4
def L5:=bD t3 [0,6,9] P0
abbrev t4:=bB L5
def L6:=bD t4 [0,2,1,4,9] P0
abbrev t5:=bB L6
abbrev S8:=ai t5 [5,4,9] P0
abbrev t6:=aj S8
abbrev S7:=ai t6 [2,4,9] P0
abbrev t7:=aj S7
abbrev S3:=ai t7 [8] P0
abbrev t8:=aj S3
abbrev S2:=ai t8 [5] P0
abbrev t9:=aj S2
end adA
namespace BS
def L0:=bD (aA U Tryz.f225 [(17,lr 17)] []) [0,1,2] [(0,.s),(1,.I),(2,.I),(3,.I),(4,.v [.g eW 0 0]),(10,.b),(11,.b)]
abbrev t1:=bB L0
abbrev P0:Ps:=[(0,.s),(1,.I),(2,.I),(3,.I),(4,.v [.g eW 0 0]),(10,.b),(11,.b),(16,.I)]
abbrev S9:=ai t1 [1,1,13,3,2] P0
abbrev t2:=aj S9
abbrev wA:=ai t2 [15,3,2] P0
abbrev t3:=aj wA
abbrev S8:=ai t3 [12,3,2] [(0,.s),(1,.I),(2,.I),(3,.I),(4,.v [.g eW 0 0]),(11,.b),(16,.I),(18,.I),(19,.I),(20,.I)]
abbrev t4:=aj S8
abbrev S7:=ai t4 [11,3,2] [(0,.s),(1,.I),(2,.I),(3,.I),(4,.v [.g eW 0 0]),(11,.b),(12,.I),(16,.I),(18,.I),(19,.I)]
abbrev t5:=aj S7
abbrev S6:=ai t5 [8,3,2] [(0,.s),(1,.I),(2,.I),(3,.I),(4,.v [.g eW 0 0]),(12,.I),(13,.I)]
abbrev t6:=aj S6
abbrev P1:Ps:=[(0,.s),(1,.I),(2,.I),(3,.I),(4,.v [.g eW 0 0]),(10,.b),(11,.b),(12,.I),(13,.I)]
abbrev S5:=ai t6 [7,3,2] P1
abbrev t7:=aj S5
abbrev S4:=ai t7 [6,3,2] [(0,.s),(1,.I),(2,.I),(3,.I),(4,.v [.g eW 0 0]),(10,.b),(11,.b),(12,.I),(13,.I),(14,.I)]
abbrev t8:=aj S4
abbrev S3:=ai t8 [2,1,1,1,5,3,2] P1
abbrev t9:=aj S3
abbrev P2:Ps:=[(0,.s),(1,.I),(2,.I),(3,.I),(4,.v [.g eW 0 0]),(10,.b),(11,.b),(12,.I)]
abbrev S2:=ai t9 [4,3,2] P2
abbrev t10:=aj S2
abbrev S1:=ai t10 [1,3,2] P2
abbrev t11:=aj S1
def cH:=bO t11 L0
def ok:=aB t11 aa5 [.s,.I,.I,.I,.g eW 0 0]
end BS
namespace TL
def ok:=aB (aA U Tryz.f211 [] []) Pw [.s,.g eW 0 0]
end TL
def hW(x:J):List J->List J
 |[]=>[x]
 |d::p=>if bj x.rx d.rx<0 then d::hW x p else x::d::p
def gn(l:List J):List J:=(l.foldl (λp d=>hW d p) []).reverse
def E3(x:J):∀p,(hW x p).length=p.length+1
 |[]=>rfl
 |d::p=>by
  unfold hW;split
  .simp [E3 x p]
  .simp
def adE(l:List J)(x:J):gn (l++[x])=(hW x (gn l).reverse).reverse:=by
 unfold gn
 grind
def Mm{x t:J}:∀{p:List J},t∈hW x p↔t=x\/t∈p
 |[]=>by unfold hW;simp
 |d::p=>by
  unfold hW;split
  .rw [aF,Mm,aF]
   grind
  .simp
def adC{t:J}{l:List J}:t∈gn l↔t∈l:=by
 have:∀(l p:List J),t∈l.foldl (λp e=>hW e p) p↔t∈l\/t∈p:=by
  intro l;induction l with
  |nil=>grind
  |cons a l d=>
   intro p;rw[List.foldl_cons,d,Mm,aF]
   grind
 unfold gn
 grind
def TO(l:List J):(gn l).length=l.length:=by
 have:∀(l p:List J),(l.foldl (λp e=>hW e p) p).length=l.length+p.length:=by
  intro l;induction l with
  |nil=>grind
  |cons a l d=>
   intro p;rw[List.foldl_cons,d,E3,List.length_cons];omega
 unfold gn
 grind
def Mp(x:J):∀p:List J,(hW x p).map J.rx=m' x.rx (p.map J.rx)
 |[]=>rfl
 |d::p=>by
  unfold hW;rw[nr];unfold m';split
  .rw [nr,Mp x p]
  .rfl
def adG(l:List J):(gn l).map J.rx=lV (l.map J.rx):=by
 have:∀(l p:List J),(l.foldl (λp d=>hW d p) p).map J.rx=(l.map J.rx).foldl (λp d=>m' d p) (p.map J.rx):=by
  intro l;induction l with
  |nil=>grind
  |cons a l e=>
   intro p;rw[List.foldl_cons,e,Mp];rfl
 unfold gn lV;rw[List.map_reverse,this];rfl
def Mn(x:J):∀p:List J,(hW x p).Perm (x::p)
 |[]=>.refl _
 |d::p=>by
  unfold hW;split
  .exact ((Mn x p).cons d).trans (.swap x d p)
  .exact .refl _
def adD(l:List J):(gn l).Perm l:=by
 have:∀(l p:List J),(l.foldl (λp h=>hW h p) p).Perm (l++p):=by
  intro l;induction l with
  |nil=>intro p;exact .refl _
  |cons a l e=>
   intro p;rw[List.foldl_cons];exact(e _).trans (((Mn a p).append_left l).trans List.perm_middle)
 unfold gn;have d:=this l [];rw[List.append_nil]at d;exact(List.reverse_perm _).trans d
def adB(l:List J):pf ((gn l).map J.rx):=by rw[adG];exact HR _
def aee{l m:List J}(h:l.Perm m):J.a1 l=J.a1 m:=by
 induction h with
 |nil=>rfl
 |cons d _ j=>show d.sz+_=d.sz+_;rw[j]
 |swap d e l=>show e.sz+(d.sz+_)=d.sz+(e.sz+_);omega
 |trans _ _ k q=>omega
def aeb{α:Type}(A d:List α)(y x:α)(j:Nat)(e:j=A.length+1):((A++y::x::d).set j y).set (j - 1) x=A++x::y::d:=by subst e;rw[List.set_append_right _ _ io,Nat.add_sub_cancel,List.set_append_right _ _ io];simp
def W6(s:Sl)(l:List J)(w:I)(hl:J.a1 l<=1000000)(ho:aJ w aO 4 s (l.flatMap J.c))(pl:J.Ps w l)(hd:∀e∈aG s,e∉J.be l)(A X j:List J)(z:l=A++X++j)(b:Nat)(hb:b=A.length+X.length):
  ah U Px #[s.v,.i (A.length:Int),.i (b:Int),.func (.func eW) #[] #[]] w λr D=>(r=ab (.tuple #[])/\aJ D aO 4 s ((A++gn X++j).flatMap J.c))/\Fr (·∈aG s) w D:=by
 have ll:=J.gp l;have lX:A.length+X.length+j.length=l.length:=by grind
 have M:O (·∈aG s) w w [.row aO 4 s (l.flatMap J.c)] [.trees l]:=Fu _ ho (by intro aj z;simp only[aF,aW,a2]at z;subst z;exact⟨pl,λe L hm=>hd e L (aU.1 hm)⟩)
 have kt:∀t∈l,t.sz<=1000000:=λt C=>bI (J.eM C) hl;have mA:∀t∈X,t∈l:=λt C=>by grind
 let G:aC:=λr D=>(r=ab (.tuple #[])/\aJ D aO 4 s ((A++gn X++j).flatMap J.c))/\Fr (·∈aG s) w D
 have outer:∀(d i:Nat) (E:I),A.length+i+d=b->O (·∈aG s) w E [.row aO 4 s ((A++gn (X.take i)++(X.drop i++j)).flatMap J.c)] [.trees l]->
   nz.L0 s (A.length:Int) (b:Int) ((A.length+i:Nat):Int) E G:=by
  intro d;induction d with
  |zero=>
   intro i E hi N;refine nz.cH (aT (a7 io) ⟨⟨rfl,?_⟩,N.fr⟩);have:=N.get 0;rw[fW io,dH io,List.nil_append]at this;exact this
  |succ d ao=>
   intro i E hi N;refine nz.cH (aR (a6 io) ?_);have Z:X[i]? =some (X[i]'io):=a0 io;have aa:=dG (l:=X) (i:=i) io;generalize X[i]'io=e at Z aa;have hS:gn (X.take (i+1))=(hW e (gn (X.take i)).reverse).reverse:=by rw[ha,Z,Option.toList_some,adE]
   have L:e∈l:=mA e (ay Z);have next:∀(k:I),O (·∈aG s) w k [.row aO 4 s ((A++gn (X.take (i+1))++(X.drop (i+1)++j)).flatMap J.c)] [.trees l]->nz.S2 s (A.length:Int) (b:Int) ((A.length+i:Nat):Int) k G:=by
    intro k x;show nz.L0 _ _ _ _ _ _;rw[bt _ io]
    grind
   have inner:∀(p:Nat) (P Q:List J) (k:I),P.length=p->(hW e P.reverse).reverse++Q=gn (X.take (i+1))->(∀t∈P,t∈l)->O (·∈aG s) w k [.row aO 4 s ((A++P++e::(Q++(X.drop (i+1)++j))).flatMap J.c)] [.trees l]->
     nz.L1 s (A.length:Int) (b:Int) ((A.length+i:Nat):Int) ((A.length+p:Nat):Int) k G:=by
    intro p;induction p with
    |zero=>
     intro P Q k hp B W x;have:P=[]:=List.length_eq_zero_iff.1 hp;subst this;refine nz.jU (x.dr λF q=>aT (a7 io) (next F ?_));have an:e::Q=gn (X.take (i+1)):=B
     grind
    |succ p ai=>
     intro P Q k hp B W x;obtain⟨h,y,rfl⟩:∃h y,P=h++[y]:=⟨P.dropLast,P.getLast (λam=>by grind),(List.dropLast_concat_getLast _).symm⟩;have af:h.length=p:=by grind
     have hy:y∈l:=W y us;have eA:A++(h++[y])++e::(Q++(X.drop (i+1)++j))=(A++h)++y::e::(Q++(X.drop (i+1)++j)):=us
     rw[eA]at x;have lA:(A++h).length=A.length+p:=by grind
     have gy:((A++h)++y::e::(Q++(X.drop (i+1)++j)))[A.length+p]? =some y:=by rw[<-lA,List.getElem?_append_right (bz _)];simp
     have T:((A++h)++y::e::(Q++(X.drop (i+1)++j)))[A.length+(p+1)]? =some e:=by rw[<-Nat.add_assoc,<-lA,List.getElem?_append_right (Nat.le_succ _)];simp
     have hlen:((A++h)++y::e::(Q++(X.drop (i+1)++j))).length<=1000000:=by have h1:=congrArg List.length B;rw[TO,List.length_append,List.length_reverse,E3,List.length_reverse]at h1;simp only[List.length_append,List.length_cons,oa,List.length_drop,List.length_nil]at h1 ⊢;omega
     have ae:=(cP.1 T).1;have H:aE .i64 (((A.length+(p+1):Nat):Int) - 1)=((A.length+p:Nat):Int):=by rw[EW io io];rfl
     have K:hW e (h++[y]).reverse=if bj e.rx y.rx<0 then y::hW e h.reverse else e::y::h.reverse:=by rw[List.reverse_append];rfl
     refine nz.jU (x.dr λF q=>aR (a6 io) ?_);refine q.el 0 (A.length+(p+1)) rfl T (q.el 0 (A.length+p) H gy ?_);refine q.call (Jx e y F (kt e L) ((show J.Ps F l from q.getD 0).mem L) ((show J.Ps F l from q.getD 0).mem hy)) ?_;rintro _ w4 rfl H4;refine⟨_,rfl,aS (λY=>H4.dr λw5 S=>?_) (λY=>next w4 ?_)⟩
     .refine S.el 0 (A.length+p) H gy (S.el 0 (A.length+(p+1)) rfl T (S.Eh 0 (A.length+(p+1)) (t:=y) rfl ae λw6 H6=>?_));refine H6.Eh 0 (A.length+p) (t:=e) (ts:=((A++h)++y::e::(Q++(X.drop (i+1)++j))).set (A.length+(p+1)) y) H (by grind) λw7 H7=>?_;rw[H];rw[ag Y]at K;refine ai h (y::Q) w7 af ?_ (λt C=>W t (by grind)) ?_
      .rw [<-B,K];simp
      .have e3:=aeb (A++h) (Q++(X.drop (i+1)++j)) y e (A.length+(p+1)) io
       grind
     .rw [ad Y]at K;rw[<-B,K];simpa using H4
   have ac:(gn (X.take i)).length=i:=by rw[TO,oa];omega
   refine inner i (gn (X.take i)) [] E ac ?_ (λt C=>mA t (List.mem_of_mem_take (adC.1 C))) ?_
   .grind
   grind
 refine nz.ok ?_;show nz.L0 _ _ _ _ _ G;rw[bt _ io];cases X with
 |nil=>
  refine nz.cH (aT (a7 (by grind)) ⟨⟨rfl,?_⟩,Fr.refl _ _⟩);have:=M.get 0;rw[z]at this;exact this
 |cons a X=>
  refine outer (b - (A.length+1)) 1 w (by grind) ?_;rw[show l.flatMap J.c=(A++gn ((a::X).take 1)++((a::X).drop 1++j)).flatMap J.c from by rw[z];simp[gn,hW]]at M;exact M
def aey{t:ByteArray}{m:Nat}{K:UInt8->Prop}(d:bQ t.size 256=true)(h:m<256)(e:∀b,K b):∃b:UInt8,t[m]? =some b/\K b:=by rw[eE]at d;exact⟨t[m]'io,getElem?_pos t m io,e _⟩
def WJ(x:Int)(w:I):ah U OX #[.u x] w λr d=>(∃t:Int,r=ab (.i t))/\af w d:=by
 have k:∀(x n:Int),xA.S2 x n w λr d=>(∃t:Int,r=ab (.i t))/\af w d:=by
  intro x n;have e:0<=aE .u8 x/\aE .u8 x<256:=by rw[IntKind.wrap_u8];omega
  obtain⟨m,y⟩:=Int.eq_ofNat_of_zero_le e.1;refine⟨e.1,?_⟩;have q:m<256:=io
  refine aey (by kernel_rfl) (by rw[y];exact q) λb=>⟨⟨_,rfl⟩,Fr.refl _ _⟩
 have j:∀(x n:Int),xA.S1 x n w λr d=>(∃t:Int,r=ab (.i t))/\af w d:=λx n=>aS (λ_=>k _ _) (λ_=>k _ _);have h:∀(x n:Int),xA.S0 x n w λr d=>(∃t:Int,r=ab (.i t))/\af w d:=λx n=>aS (λ_=>j _ _) (λ_=>j _ _);refine Nz.ok ((xA.ok (aS (λ_=>h _ _) (λ_=>h _ _))).mono ?_);rintro _ z ⟨⟨t,rfl⟩,f⟩;exact⟨t,rfl,⟨t,rfl⟩,f⟩
def mS(n:Nat):Prop:=∀(s:Sl) (l:List J) (w:I),l.length<=n->J.a1 l<=1000000->aJ w aO 4 s (l.flatMap J.c)->J.Ps w l->(∀e∈aG s,e∉J.be l)->
 ah U Pw #[s.v,.func (.func eW) #[] #[]] w λr d=>(∃m:List J,r=ab (.tuple #[])/\m.Perm l/\pf (m.map J.rx)/\aJ d aO 4 s (m.flatMap J.c))/\Fr (·∈aG s) w d
def iz(p:J):List J->List J
 |[]=>[]
 |d::l=>if bj d.rx p.rx==0 then iz d l else d::iz d l
def me:List J->List J
 |[]=>[]
 |a::l=>a::iz a l
def KE(l:List J)(i:Nat):(l.flatMap J.c).take (i *4)=(l.take i).flatMap J.c:=by
 have e:=J.hU (l.take i);by_cases d:i<=l.length
 .conv=>lhs;rw[<-Hd i l,eg]
  grind
 .rw [fW (by rw[J.hU];omega),fW (l:=l) io]
def KL(l:List J)(i:Nat)(d:i<=l.length):(l.flatMap J.c).drop (i *4)=(l.drop i).flatMap J.c:=by
 have e:=J.hU (l.take i);rw[oa,Nat.min_eq_left d]at e;conv=>lhs;rw[<-Hd i l,eg]
 grind
def X1{w:I}{s:Sl}{l m:List J}(h:aJ w aO 4 s (l.flatMap J.c))(i:Nat)(hi:i<=l.length)(C:l.take i=m){K:I->Prop}{R:aC}{w0:I}(B:Fr (·∈aG s) w0 w)(A:∀r j,wz s m r w0 j->Fr (·∈aG s) w0 j->R r j):
  (0:Int)<=(i:Int)/\(i:Int)<=(s.n:Int)/\∃(k:I),Sem.run U (Builtin.clear_ #[jh] om #[.slice (if s.c=(aY (i:Int))then s.a else s.a.map (·.add ((aY (i:Int)) *4))) (s.n - (aY (i:Int))) (s.c - (aY (i:Int)))]) w=.ok (.tuple #[]) k/\
   (0:Int)<=(i:Int)/\(i:Int)<=(s.c:Int)/\R (ab (.slice (if s.c=0 then s.a else s.a.map (·.add (0 *4))) ((aY (i:Int)) - 0) (s.c - 0))) k:=by
 have H:=J.cw h.a9;have G:=h.cap;obtain⟨E,x,y,z⟩:=KF (ty:=om) sa Vl rfl h i io;refine⟨io,io,E,x,io,io,A _ _ ⟨⟨if s.c=0 then s.a else s.a.map (·.add (0 *4)),i - 0,s.c - 0⟩,rfl,?_,λF e=>?_⟩ (B.trans z λF _ q=>q)⟩
 .rw [<-C,<-KE];exact y
 .simp only[aG]at e ⊢;split at e
  .rename_i p d;split at d
   .grind
   .cases D:s.a with
    |none=>grind
    |some L=>
     rw[D]at d;simp only[Option.map_some,fC]at d;subst d;rw[kC]at e;exact e
  grind
section
variable {M:Nat->Prop} {w0 w:I} {L D:List En}
def _root_.Go.W.O.Ei(H:O M w0 w L D)(i k b:Nat){s:Sl}{ts:List J}{t:J}{X:Int}{K:Int->Int->Int->Sl->Prop}(q:X=(k:Int))(x:ts[b+k]? =some t)(j:K t.k t.lo.toNat t.hi.toNat t.s)(hi:L[i]? =some (.row aO 4 s (ts.flatMap J.c)):=by rfl):
  (0:Int)<=X/\X<((s.n - b:Nat):Int)/\ea (if s.c=b then s.a else s.a.map (·.add (b *4))) λp=>∃a b c:Int,∃d:Sl,w.cell? ((p.add (aY X *4)).add 0)=some (.i a)/\w.cell? ((p.add (aY X *4)).add 1)=some (.int .u8 b)/\w.cell? ((p.add (aY X *4)).add 2)=some (.int .u8 c)/\w.cell? ((p.add (aY X *4)).add 3)=some d.v/\K a b c d:=by subst q;have e:aJ w aO 4 s (ts.flatMap J.c):=H.get i hi;have z:=J.cw e.a9;have y:=(cP.1 x).1;have h:=e.a9.sub b s.n io (bz _);rw[fW (by rw[J.hU];omega),KL _ _ io]at h;refine⟨io,io,J.a4 (s:=qs 4 s b s.n) h (i:=k) (t:=t) (by grind) λp A c=>⟨_,_,_,_,c.c0,c.c1,c.c2,c.c3,j⟩⟩
end
def WB(s:Sl)(l:List J)(w:I)(hl:J.a1 l<=1000000)(ho:aJ w aO 4 s (l.flatMap J.c))(pl:J.Ps w l)(hd:∀x∈aG s,x∉J.be l):
  ah U Pp #[s.v,.func (.func sM) #[] #[]] w λr E=>wz s (me l) r w E/\Fr (·∈aG s) w E:=by
 have nr:=J.cw ho.a9;have ll:=J.gp l;have kt:∀t∈l,t.sz<=1000000:=λt Z=>bI (J.eM Z) hl;have ac:O (·∈aG s) w w [.row aO 4 s (l.flatMap J.c)] [.trees l]:=Fu _ ho (by intro ag he;simp only[aF,aW,a2]at he;subst he;exact⟨pl,λx G P=>hd x G (aU.1 P)⟩)
 let Q:aC:=λr E=>wz s (me l) r w E/\Fr (·∈aG s) w E
 have am:∀(d k b m:Nat) (cur:List J) (p:J) (A:I),b+m+d=l.length->1<=m->1<=b->k<b+m->cur.length=l.length->cur.drop (b+m - 1)=l.drop (b+m - 1)->l[b+m - 1]? =some p->cur.take k++iz p (l.drop (b+m))=me l->
   O (·∈aG s) w A [.row aO 4 s (cur.flatMap J.c)] [.trees l]->
   o6.L2 s (k:Int) ⟨(if s.c=b then s.a else s.a.map (·.add (b *4))),(s.n - b),(s.c - b)⟩ (m:Int) A Q:=by
  intro d;induction d with
  |zero=>
   intro k b m cur p A hb P ae W hc N D e q;refine o6.pq (aT (a7 ?_) ?_)
   .grind
   rw[dH io]at e;have Y:cur.take k=me l:=by rw[<-e];simp[iz]
   exact X1 (K:=λ_=>True) (q.get 0) k io Y q.fr λr E C F=>⟨C,F⟩
  |succ d aa=>
   intro k b m cur p A hb P ae W hc N D e q;have z:l[b+m]? =some (l[b+m]'io):=a0 io;have y:=dG (l:=l) (i:=b+m) io;generalize l[b+m]'io=x at z y;have af:cur[b+m]? =some x:=by
    have:(cur.drop (b+m - 1))[1]? =(l.drop (b+m - 1))[1]?:=by rw[N]
    grind
   have ai:cur[b+(m - 1)]? =some p:=by
    have:(cur.drop (b+m - 1))[0]? =(l.drop (b+m - 1))[0]?:=by rw[N]
    rw[List.getElem?_drop,List.getElem?_drop,Nat.add_zero]at this
    grind
   have aj:cur.drop (b+m)=l.drop (b+m):=by
    have:(cur.drop (b+m - 1)).drop 1=(l.drop (b+m - 1)).drop 1:=by rw[N]
    rw[lR,lR,show b+m - 1+1=b+m by omega]at this;omega
   have L:=ay z;have mp:=ay D;have S:aE .i64 ((m:Int) - 1)=((m - 1:Nat):Int):=EW P io;rw[y]at e;have T:iz p (x::l.drop (b+m+1))=if bj x.rx p.rx==0 then iz x (l.drop (b+m+1))else x::iz x (l.drop (b+m+1)):=rfl;rw[T]at e;have next:∀(H:Nat) (B:List J) (j:I),H<b+(m+1)->B.length=l.length->B.drop (b+m)=l.drop (b+m)->B.take H++iz x (l.drop (b+m+1))=me l->O (·∈aG s) w j [.row aO 4 s (B.flatMap J.c)] [.trees l]->
     o6.S3 s (H:Int) ⟨(if s.c=b then s.a else s.a.map (·.add (b *4))),(s.n - b),(s.c - b)⟩ (m:Int) j Q:=by intro H B j C F h3 h4 h;show o6.L2 _ _ _ _ _ _;rw[bt _ io];exact aa H b (m+1) B x j io io ae C F (by grind) (by grind) io h
   refine o6.pq (aR (a6 ?_) (q.dr λj h=>?_))
   .show (m:Int)<((s.n - b:Nat):Int);omega
   refine h.Ei 0 m b rfl af (h.Ei 0 (m - 1) b S ai ?_);refine h.call (wL x p j (kt x L) ((show J.Ps j l from h.getD 0).mem L) ((show J.Ps j l from h.getD 0).mem mp)) ?_;rintro _ w3 rfl M;refine⟨_,rfl,eS (λhf=>?_) (λZ=>?_)⟩
   .refine M.Ei 0 m b rfl af (M.Eh 0 k (t:=x) (ts:=cur) rfl io λw4 H4=>?_);rw[ad (by grind)]at e;rw[bt _ io];refine next (k+1) (cur.set k x) w4 io (by grind) ?_ ?_ H4
    .rw [List.drop_set_of_lt io];omega
    .rw [Uq io,List.append_assoc];exact e
   grind
 have loop:∀(d k:Nat) (p:J) (A:I),k+d=l.length->1<=k->l[k - 1]? =some p->l.take k++iz p (l.drop k)=me l->O (·∈aG s) w A [.row aO 4 s (l.flatMap J.c)] [.trees l]->
   o6.L0 s (k:Int) A Q:=by
  intro d;induction d with
  |zero=>
   intro k p A W C D e q;refine o6.cH (aT (a7 io) ⟨⟨s,rfl,?_,λx G=>G⟩,q.fr⟩);rw[dH io,fW io]at e;have Y:l=me l:=by rw[<-e];simp[iz]
   rw[<-Y];exact q.get 0
  |succ d aa=>
   intro k p A W C D e q;have z:l[k]? =some (l[k]'io):=a0 io;have y:=dG (l:=l) (i:=k) io;generalize l[k]'io=x at z y;have L:=ay z;have mp:=ay D;have S:aE .i64 ((k:Int) - 1)=((k - 1:Nat):Int):=EW C io;rw[y]at e;have T:iz p (x::l.drop (k+1))=if bj x.rx p.rx==0 then iz x (l.drop (k+1))else x::iz x (l.drop (k+1)):=rfl;rw[T]at e;refine o6.cH (aR (a6 io) (q.dr λj h=>?_));refine h.el 0 k rfl z (h.el 0 (k - 1) S D ?_);refine h.call (wL x p j (kt x L) ((show J.Ps j l from h.getD 0).mem L) ((show J.Ps j l from h.getD 0).mem mp)) ?_;rintro _ w3 rfl M;refine⟨_,rfl,bm (λZ=>⟨io,io,?_⟩) (λhf=>?_)⟩
   .grind
   .rw [ad (by grind)]at e;rw[bt _ io];refine aa (k+1) x w3 io io (by grind) ?_ M
    grind
 refine o6.ok (aS (λF=>⟨⟨s,rfl,?_,λx G=>G⟩,ac.fr⟩) (λF=>?_))
 .have ag:me l=l:=by
   cases l with
   |nil=>rfl
   |cons a l=>
    cases l with
    |nil=>rfl
    |cons b l=>grind
  grind
 .have z:l[0]? =some (l[0]'io):=a0 io;have y:=dG (l:=l) (i:=0) io;generalize l[0]'io=x at z y;refine loop (l.length - 1) 1 x w io io z ?_ ac;rw[List.drop_zero]at y;rw[y];rfl
def hB(k:Int)(l:List Rx)(u:Rx):List Rx:=(l.flatMap λc=>if c.k=k then c.l else[c]).filter λt=>!(bj t u==0)
def uT(k:Int)(u:Rx):List Rx->Rx
 |[]=>u
 |[a]=>a
 |l=>.mk k 0 0 l
def g7(k:Int)(l:List Rx)(u d:Rx):Rx:=if(hB k l u).any (λt=>bj t d==0)then d else uT k u (if k=3 then hB k l u else r8 (lV (hB k l u)))
def vx(k:Int)(l:List Rx):Nat:=(l.flatMap λc=>if c.k=k then c.l else[c]).length
def oG:Rx:=.mk 1 0 0 []
def eQ:Rx:=.mk 6 0 0 [fT]
def mH(lo hi:UInt8)(l:List Rx):Rx:=match l with
 |[]=>fT
 |c::d=>if c.k=0\/c.k=1 then oG else if c.k=7\/bj c eQ=0 then c else .mk 7 lo hi (c::d)
def ra(lo hi:UInt8)(l:List Rx):Rx:=match l with
 |[]=>fT
 |c::e=>if c.k=6 then(match c.l with |[]=>fT|d::_=>d)else .mk 6 lo hi (c::e)
def ie:Rx->Rx
 |.mk d lo e l=>if d=3 then g7 3 l oG fT else if d=4 then g7 4 l fT eQ else if d=5 then g7 5 l eQ fT else if d=6 then ra lo e l else if d=7 then mH lo e l else .mk d lo e l
def lG:Rx->Bool
 |.mk d _ _ l=>ak (0<=d)&&ak (d<8)&&(match l with
  |[]=>d !=6&&d !=7
  |c::_=>!(d==6&&c.k==6&&c.l.isEmpty))
def mE(t:J):t.rx.k=t.k:=by rw[J.fw];rfl
def yr(t:J):t.rx.l=t.l.map J.rx:=by rw[J.fw,<-J.fY];rfl
def xh(x u:J):(gO x u).map J.rx=hB x.k (J.ao x.l) u.rx:=by
 unfold gO hB;rw[J.fY];generalize x.l=l;induction l with
 |nil=>rfl
 |cons a l e=>
  rw[nr,dI,dI,List.filter_append,List.filter_append,fv,e];congr 1;have d:(ff x a).map J.rx=if a.rx.k=x.k then a.rx.l else[a.rx]:=by
   unfold ff;rw[mE,yr]
   grind
  rw[<-d,List.filter_map];rfl
def Ea:∀(l:List J) (p:J),(iz p l).map J.rx=lC p.rx (l.map J.rx)
 |[],p=>rfl
 |d::l,p=>by
  unfold iz;rw[nr];unfold lC;split
  .exact Ea l d
  .rw [nr,Ea l d]
def XT(l:List J):(me l).map J.rx=r8 (l.map J.rx):=by
 cases l with
 |nil=>rfl
 |cons a l=>show a.rx::(iz a l).map J.rx=_;rw[Ea];rfl
def D9{t:J}:∀{l:List J} {p:J},t∈iz p l->t∈l
 |[],p,d=>d
 |e::l,p,d=>by
  unfold iz at d;split at d
  .exact dJ _ (D9 d)
  .rcases aF.1 d with rfl|d
   .simp
   .exact dJ _ (D9 d)
def XS{t:J}{l:List J}(d:t∈me l):t∈l:=by
 cases l with
 |nil=>exact d
 |cons a l=>
  rcases aF.1 d with rfl|d
  .simp
  .exact dJ _ (D9 d)
def V6(l:List J)(d:J):l.any (λt=>bj t.rx d.rx==0)=(l.map J.rx).any λt=>bj t d.rx==0:=by grind
def gL(d:List Nat)(w:I)(x:Rx)(r:cZ)(w':I):Prop:=∃t:J,r=ab t.v/\t.rx=x/\t.P w'/\∀b∈t.fp,w.heap.size<=b\/b∈d
def W9{N:Nat}(hS:mS N)(hN:N<=1000000)(x u d:J)(B q:Nat)(w:I)(Q:x.k≠3->vx x.k (J.ao x.l)<=N)(hx:x.sz<=1000000)(px:x.P w)(pu:u.P w)(pz:d.P w)(hu:w.heap[B]? =some (.cells u.c.toArray aO (0,0)))(hz:w.heap[q]? =some (.cells d.c.toArray aO (0,0))):
  ah U AR #[x.v,.pointer (some (aa B)),.pointer (some (aa q))] w λr w'=>gL (x.fp++(u.fp++d.fp)) w (g7 x.k (J.ao x.l) u.rx d.rx) r w'/\af w w':=by
 have H0:O F0 w w [] [.tree x,.tree u,.tree d,dW B u,dW q d]:=bZ _ (by
  intro aj D;simp only[aF,aW,a2]at D;rcases D with rfl|rfl|rfl|rfl|rfl
  .exact px
  .exact pu
  .exact pz
  .exact hu
  .exact hz)
 have Y:=Sub.gO x u;have aA:=aed x u;have az:=J.gp (gO x u);have kt:∀t∈gO x u,t.sz<=1000000:=λt y=>by have:=J.eM y;omega
 have aB:(gO x u).length<=vx x.k (J.ao x.l):=by have S:=congrArg List.length (xh x u);rw[List.length_map]at S;rw[S];exact List.length_filter_le ..
 refine Hp.aq (H0.aw λG w1 H1=>H1.aw λH w2 C=>⟨_,_,_,u.s,C.dY 3 0,C.dY 3 1,C.dY 3 2,C.dY 3 3,C.g5 (W2 x u w2 hx (C.getD 0) (C.getD 1)) ?_⟩);rintro _ w3 ⟨z,rfl,o1,n1⟩ H3 F3;have F:=F3.own (.row aO 4 z ((gO x u).flatMap J.c)) o1 n1;have ac:∀w':I,x.P w'->J.Ps w' (gO x u):=λw' Q=>Y.Ps Q;refine⟨z,rfl,F.av (WD z (gO x u) ⟨Gb,#[],#[.pointer (some (aa q))]⟩ (λt=>bj t.rx d.rx==0) [.tree x,.tree d,dW q d] w3 io (F.get 2:aJ _ _ _ _ _).a9 (by
  intro aj D;simp only[aF,aW,a2]at D;rcases D with rfl|rfl|rfl
  .exact F.getD 0
  .exact F.getD 2
  .exact F.getD 4) (by kernel_rfl) (λw' t y E=>W5 t d q w' (kt t y) ((ac w' (E.getD 1)).mem y) (E.getD 2) (E.getD 3))) ?_⟩
 rintro _ w4 rfl j;have ea:(gO x u).any (λt=>bj t.rx d.rx==0)=(hB x.k (J.ao x.l) u.rx).any λt=>bj t d.rx==0:=by rw[V6,xh]
 refine⟨_,rfl,bm (λy=>⟨_,_,_,d.s,j.dY 4 0,j.dY 4 1,j.dY 4 2,j.dY 4 3,j.ae λw8 h=>⟨⟨d,rfl,?_,h.getD 2,λb e=>.inr (by grind)⟩,h.fr⟩⟩) (λhf=>?_)⟩
 .have aC:=ea▸y;unfold g7
  grind
 have ar:=ea▸hf;have fin:∀(Z:Sl) (ks:List J) (w':I),(∀t∈ks,t∈gO x u)->ks.map J.rx=(if x.k=3 then hB x.k (J.ao x.l) u.rx else r8 (lV (hB x.k (J.ao x.l) u.rx)))->O F0 w w' [.g G,.g H,.row aO 4 Z (ks.flatMap J.c)] [.tree x,.tree u,.tree d,dW B u,dW q d]->
   Hp.aV (aa B) G x.k x.lo.toNat x.hi.toNat x.s H 0 0 0 ⟨none,0,0⟩ Z w' λr w'=>gL (x.fp++(u.fp++d.fp)) w (g7 x.k (J.ao x.l) u.rx d.rx) r w'/\af w w':=by
  intro Z ks w' K D A;have T:Sub x ks:=Y.sub K;have nr:=J.cw (A.get 2:aJ _ _ _ _ _).a9;have ej:g7 x.k (J.ao x.l) u.rx d.rx=uT x.k u.rx (ks.map J.rx):=by
   unfold g7
   grind
  refine ax (λh0=>⟨_,_,_,u.s,A.dY 3 0,A.dY 3 1,A.dY 3 2,A.dY 3 3,A.ae λw8 h=>⟨⟨u,rfl,?_,h.getD 1,λb e=>.inr (by grind)⟩,h.fr⟩⟩) (λh0=>ax (λS=>?_) (λS=>A.ae λw8 h=>⟨⟨.mk x.k 0 0 Z ks,rfl,?_,?_,λb e=>?_⟩,h.fr⟩))
  .have:ks=[]:=List.length_eq_zero_iff.1 io;rw[ej,this];rfl
  .obtain ⟨a,rfl⟩:=List.length_eq_one_iff.1 (show ks.length=1 by omega);refine A.el 2 0 rfl (t:=a) rfl (A.ae λw8 h=>⟨⟨a,rfl,?_,T.P _ (h.getD 0) a us,λb e=>.inr (by simp[T.fp a us b e])⟩,h.fr⟩);rw[ej];rfl
  .rw [ej];unfold J.rx;rw[J.fY];cases ks with
   |nil=>grind
   |cons a ks=>
    cases ks with
    |nil=>grind
    |cons b ks=>rfl
  .unfold J.P;exact⟨(h.get 2:aJ _ _ _ _ _).a9,T.Ps (h.getD 0)⟩
  .unfold J.fp at e;rcases aP.1 e with e|e
   .exact .inl ((h.new _ (ay (i:=2) rfl) b (gY e)).resolve_right id)
   .exact .inr (by simp[T.be e])
 have eo:∀w':I,O F0 w w' [.g G,.g H,.row aO 4 z ((gO x u).flatMap J.c)] [.tree x,.tree u,.tree d,dW B u,dW q d]->∀L∈aG z,L∉J.be (gO x u):=λw' E L hy hm=>E.off 2 0 rfl rfl L hy (aU.2 (Y.be hm));refine cq (λK=>?_) (λK=>fin z (gO x u) w4 (λ_ Q=>Q) (by rw[ag K,xh]) j);refine j.DT 2 rfl (hS z (gO x u) w4 io io (j.get 2) (ac w4 (j.getD 0)) (eo w4 j)) ?_;rintro _ w5 ⟨m,rfl,W,an,o5⟩ hH;have M:O F0 w w5 [.g G,.g H,.row aO 4 z (m.flatMap J.c)] [.tree x,.tree u,.tree d,dW B u,dW q d]:=hH (.row aO 4 z (m.flatMap J.c)) o5 λb e=>.inl e;have ai:Sub x m:=Y.sub λt y=>W.mem_iff.1 y;refine⟨rfl,M.DT 2 rfl (WB z m w5 (by rw[aee W];omega) (M.get 2) (ai.Ps (M.getD 0)) (λL hy hm=>M.off 2 0 rfl rfl L hy (aU.2 (ai.be hm)))) ?_⟩;rintro _ w6 ⟨s2,rfl,o6,n6⟩ am;have H7:O F0 w w6 [.g G,.g H,.row aO 4 s2 ((me m).flatMap J.c)] [.tree x,.tree u,.tree d,dW B u,dW q d]:=am (.row aO 4 s2 ((me m).flatMap J.c)) o6 λb e=>.inl (n6 b e);have ap:m.map J.rx=lV ((gO x u).map J.rx):=adF an (W.map _);exact⟨s2,rfl,fin s2 (me m) w6 (λt y=>W.mem_iff.1 (XS y)) (by rw[ad K,XT,ap,xh]) H7⟩
def j5{w:I}{x t:J}(h:x.P w){k:Nat}{X:Int}{K:Int->Int->Int->Sl->Prop}(q:X=(k:Int))(e:x.l[k]? =some t)(j:K t.k t.lo.toNat t.hi.toNat t.s):
  ow x.s X λp=>∃a b c:Int,∃d:Sl,w.cell? ((p.add (aY X *4)).add 0)=some (.i a)/\w.cell? ((p.add (aY X *4)).add 1)=some (.int .u8 b)/\w.cell? ((p.add (aY X *4)).add 2)=some (.int .u8 c)/\w.cell? ((p.add (aY X *4)).add 3)=some d.v/\K a b c d:=by subst q;have z:=J.cw h.parts.1;have y:=(cP.1 e).1;exact⟨io,io,J.a4 h.parts.1 e λp A c=>⟨_,_,_,_,c.c0,c.c1,c.c2,c.c3,j⟩⟩
def Xh(x:J)(w:I)(M:x.P w)(C:x.k=6)(d:lG x.rx=true):ah U vf #[x.v] w λr N=>gL x.fp w (ra x.lo x.hi (J.ao x.l)) r N/\af w N:=by
 have nr:=J.cw M.parts.1;rw[J.fw]at d;cases D:x.l with
 |nil=>rw[D,C]at d;simp[lG,J.ao]at d
 |cons c L=>
  have A:x.l[0]? =some c:=by grind
  have E:c∈x.l:=ay A;have h:J.ao (c::L)=c.rx::J.ao L:=rfl;refine Si.aq ((gT M).aw λY w1 O=>O.aw λZ T q=>?_);have F:x.P T:=q.getD 0;have n2:0<x.s.n:=by grind
  refine⟨io,io,J.a4 F.parts.1 A λp S y=>⟨c.k,y.c0,ax (λj=>?_) (λj=>q.ae λaa G=>⟨⟨x,rfl,?_,G.getD 0,λb z=>.inr z⟩,G.fr⟩)⟩⟩
  .refine ⟨io,io,J.a4 F.parts.1 A λp S y=>⟨c.s,y.c3,?_⟩⟩;cases K:c.l with
   |nil=>
    rw[D,h]at d;have Q:c.rx.l.isEmpty=true:=by rw[yr,K];rfl
    simp[lG,C,mE,j,Q]at d
   |cons e l2=>
    have B:c.l[0]? =some e:=by grind
    refine j5 (F.parts.2.mem E) rfl B (q.ae λW H=>⟨⟨e,rfl,?_,((show x.P W from H.getD 0).parts.2.mem E).parts.2.mem (ay B),λb z=>.inr (J.gP.2 (.inr (J.b0.2 ⟨c,E,J.gP.2 (.inr (J.b0.2 ⟨e,ay B,z⟩))⟩)))⟩,H.fr⟩);rw[h];show e.rx=if c.rx.k=6 then _ else _;rw[ag (by rw[mE,j]),yr,K];rfl
  .rw [h];show x.rx=if c.rx.k=6 then _ else _;rw[ad (by rw[mE];exact j),J.fw,C,D,h]
def Xr(x m v:J)(q z:Nat)(w:I)(hx:x.sz<=1000000)(px:x.P w)(pm:m.P w)(pv:v.P w)(hm:w.heap[q]? =some (.cells m.c.toArray aO (0,0)))(hv:w.heap[z]? =some (.cells v.c.toArray aO (0,0)))(em:m.rx=oG)(ev:v.rx=eQ)(Z:x.k=7)(H:lG x.rx=true):
  ah U vh #[x.v,.pointer (some (aa q)),.pointer (some (aa z))] w λr e=>gL (x.fp++(m.fp++v.fp)) w (mH x.lo x.hi (J.ao x.l)) r e/\af w e:=by
 have nr:=J.cw px.parts.1;rw[J.fw]at H;cases hl:x.l with
 |nil=>rw[hl,Z]at H;simp[lG,J.ao]at H
 |cons c E=>
  have Y:x.l[0]? =some c:=by grind
  have F:c∈x.l:=ay Y;have C:J.ao (c::E)=c.rx::J.ao E:=rfl;have H0:O F0 w w [] [.tree x,.tree m,.tree v,dW q m,dW z v]:=bZ _ (by
   intro aj W;simp only[aF,aW,a2]at W;rcases W with rfl|rfl|rfl|rfl|rfl
   .exact px
   .exact pm
   .exact pv
   .exact hm
   .exact hv)
  refine Bu.aq (H0.aw λN w1 H1=>H1.aw λB w2 K=>?_);have n2:0<x.s.n:=by grind
  have sc:c.sz<=1000000:=by have:=J.eM F;have:=J.iK x;omega
  have fc:∀b∈c.fp,b∈x.fp:=λb D=>J.gP.2 (.inr (J.b0.2 ⟨c,F,D⟩));refine j5 (show x.P w2 from K.getD 0) rfl Y (K.aw λG w3 A=>?_);have ai:c.k=0\/c.k=1->∀e:I,O F0 w e [.g N,.g B,.g G] [.tree x,.tree m,.tree v,dW q m,dW z v]->Bu.aV (aa q) B 0 0 0 ⟨none,0,0⟩ e λr e=>gL (x.fp++(m.fp++v.fp)) w (mH x.lo x.hi (J.ao (c::E))) r e/\af w e:=λy e j=>
   ⟨_,_,_,m.s,j.dY 3 0,j.dY 3 1,j.dY 3 2,j.dY 3 3,j.ae λh d=>⟨⟨m,rfl,by
    rw[em,C];show _=if c.rx.k=0\/c.rx.k=1 then _ else _;rw[mE,ag y],d.getD 1,λb D=>.inr (by grind)⟩,d.fr⟩⟩
  have ac:¬(c.k=0\/c.k=1)->(c.k=7\/bj c.rx eQ=0)->∀e:I,O F0 w e [.g N,.g B,.g G] [.tree x,.tree m,.tree v,dW q m,dW z v]->Bu.bg B 0 0 0 ⟨none,0,0⟩ G c.k c.lo.toNat c.hi.toNat c.s e λr e=>gL (x.fp++(m.fp++v.fp)) w (mH x.lo x.hi (J.ao (c::E))) r e/\af w e:=λhn y e j=>
   j.ae λh d=>⟨⟨c,rfl,by
    rw[C];show _=if c.rx.k=0\/c.rx.k=1 then _ else if c.rx.k=7\/bj c.rx eQ=0 then _ else _;rw[mE,ad hn,ag y],(show x.P h from d.getD 0).parts.2.mem F,λb D=>.inr (by grind)⟩,d.fr⟩
  refine ax (λQ=>A.ae λh d=>ai (.inl Q) h d) (λQ=>ax (λS=>A.ae λh d=>ai (.inr S) h d) (λS=>ax (λT=>A.ae λh d=>ac io (.inl T) h d) (λT=>A.ae λh d=>⟨_,_,_,v.s,d.dY 4 0,d.dY 4 1,d.dY 4 2,d.dY 4 3,?_⟩)));refine d.av (wL c v h sc ((show x.P h from d.getD 0).parts.2.mem F) (d.getD 2)) ?_;rintro _ w5 rfl L;rw[ev];refine⟨_,rfl,ax (λy=>ac io (.inr y) w5 L) (λy=>L.ae λw6 M=>⟨⟨x,rfl,?_,M.getD 0,λb D=>.inr (by grind)⟩,M.fr⟩)⟩;rw[C];show x.rx=if c.rx.k=0\/c.rx.k=1 then _ else if c.rx.k=7\/bj c.rx eQ=0 then _ else _;rw[mE,ad io,ad io,J.fw,Z,hl,C]
structure Fm where
 m:Nat
 es:Array MapEntry
 clock:Nat
 ms:List (Int×V)
 cs:List (Nat×J)
 s:Sl
def cu:J:=.mk 0 0 0 ⟨none,0,0⟩ []
def fR:J:=.mk 1 0 0 ⟨none,0,0⟩ []
def Fm.ev(F:Fm):J:=.mk 6 0 0 F.s [cu]
def _root_.Go.W.En.fm(F:Fm):En:=.all (.ob F.m (.map F.es F.clock)::.tree F.ev::F.cs.map λp=>dW p.1 p.2)
def u6(a b:Nat):V:=.func (.func AR) #[] #[.pointer (some (aa a)),.pointer (some (aa b))]
def jc:V:=.func (.func xO) #[] #[]
def tV(cs:List (Nat×J))(e:J)(k:Int)(v:V):Prop:=
 ((k=0\/k=1\/k=2)/\v=jc)\/(∃u d a b,((k=3/\u=fR/\d=cu)\/(k=4/\u=cu/\d=e)\/(k=5/\u=e/\d=cu))/\v=u6 a b/\(a,u)∈cs/\(b,d)∈cs)\/
 (k=6/\v=.func (.func vf) #[] #[])\/∃a b,k=7/\v=.func (.func vh) #[] #[.pointer (some (aa a)),.pointer (some (aa b))]/\(a,fR)∈cs/\(b,e)∈cs
structure Fm.Ok(F:Fm):Prop where
 ms:tZ .i64 F.es F.ms
 all:∀k:Int,0<=k->k<8->∃v,mu F.ms k=some v/\tV F.cs F.ev k v
section
variable {F:Fm} {w:I}
def YJ(d:(En.fm F).P w):w.heap[F.m]? =some (.map F.es F.clock):=d (.ob F.m (.map F.es F.clock)) us
def EJ(d:(En.fm F).P w):F.ev.P w:=d (.tree F.ev) us
def z9(d:(En.fm F).P w){a:Nat}{u:J}(e:(a,u)∈F.cs):w.heap[a]? =some (.cells u.c.toArray aO (0,0)):=d (dW a u) (dJ _ (dJ _ (dn.2 ⟨(a,u),e,rfl⟩)))
def EK{b:Nat}(d:b∈F.ev.fp):b∈(En.fm F).fp:=aU.2 (b'.2 ⟨.tree F.ev,us,aU.2 d⟩)
def lM(w:I):cu.P w:=QC w
def zV(w:I):fR.P w:=by unfold fR J.P J.Ps;exact⟨bA.nil 4 w,trivial⟩
def lN{b:Nat}(d:b∈cu.fp):False:=QB d
def zW{b:Nat}(d:b∈fR.fp):False:=by unfold fR J.fp J.be at d;simp[En.a9]at d
def gL.sub{d e:List Nat}{x:Rx}{r:cZ}{w':I}(h:gL d w x r w')(A:∀b∈d,b∈e):gL e w x r w':=by obtain⟨t,j,k,q,y⟩:=h;exact⟨t,j,k,q,λb z=>(y b z).imp id (A b)⟩
def NG:CS U lg bF oo .i64 .nilFunc:=⟨by kernel_rfl,by kernel_rfl,by kernel_rfl⟩
end
def aax{P:au}{T kt y:aD}{kd:IntKind}{x:V}(e:CS P T kt y kd x){w:I}{h:Nat}{es:Array MapEntry}{clock:Nat}{ms:List (Int×V)}(B:w.heap[h]? =some (.map es clock))(C:tZ kd es ms)(k:Int):(Instr.lookup T (.map (some h)) (.int kd k) false).run P w=.ok ((mu ms k).getD x) w:=by
 have z:=EF (k:=k) (i:=0) C;have A:(getObj h).run P w=.ok (.map es clock) w:=by simp[getObj,Sem.run,B]
 have d:=NB (ms:=ms) (k:=k) (i:=0);unfold Instr.lookup Instr.findKey;simp only[Sem.run_bind,run_underlying e.hT,Result.andThen_ok,A,Sem.run_pure,Kd e.hk,run_underlying e.hk,z];cases j:((ms.findIdx? λp=>p.1==k).bind λq=>(ms[q]?).map λp=>(0+q,p.2))with
 |none=>rw[j]at d;simp[<-d,CB e.hz]
 |some D=>rw[j]at d;simp[<-d]
def WW{N:Nat}(Y:mS N)(W:N<=1000000){F:Fm}(L:F.Ok){w:I}(Q:(En.fm F).P w)(k:Int)(S:0<=k)(T:k<8):
  ∃f:Fv,(Instr.lookup lg (.map (some F.m)) (.i k) false).run U w=.ok f.v w/\hv U f.n=true/\∀(x:J) (w':I),(En.fm F).P w'->x.P w'->x.k=k->(x.k=4\/x.k=5->vx x.k (J.ao x.l)<=N)->x.sz<=1000000->lG x.rx=true->
   ah U f.n (f.bs++#[x.v]++f.cs) w' λr M=>gL (x.fp++(En.fm F).fp) w' (ie x.rx) r M/\af w' M:=by
 have mo:=NG;obtain⟨v,ac,Z⟩:=L.all k S T;have y:=aax mo (YJ Q) L.ms k;rw[ac,Option.getD_some]at y;have E:∀x:J,ie x.rx=if x.k=3 then g7 3 (J.ao x.l) oG fT else if x.k=4 then g7 4 (J.ao x.l) fT eQ else if x.k=5 then g7 5 (J.ao x.l) eQ fT else if x.k=6 then ra x.lo x.hi (J.ao x.l)else if x.k=7 then mH x.lo x.hi (J.ao x.l)else x.rx:=λx=>by rw[J.fw];rfl
 rcases Z with⟨q,rfl⟩|⟨u,K,a,b,q,rfl,G,C⟩|⟨rfl,rfl⟩|⟨a,b,rfl,rfl,G,C⟩
 .refine ⟨⟨xO,#[],#[]⟩,y,by kernel_rfl,λx w' h j e D A B=>((W4 x w' j).mono ?_)⟩;rintro _ H ⟨rfl,f⟩;refine⟨⟨x,rfl,?_,j.cB f,λb C=>.inr (by grind)⟩,f⟩
  grind
 .refine ⟨⟨AR,#[],#[.pointer (some (aa a)),.pointer (some (aa b))]⟩,y,by kernel_rfl,λx w' h j e D A B=>?_⟩;have pu:u.P w':=by
   rcases q with⟨_,rfl,_⟩|⟨_,rfl,_⟩|⟨_,rfl,_⟩
   .exact zV w'
   .exact lM w'
   .exact EJ h
  have pz:K.P w':=by
   rcases q with⟨_,_,rfl⟩|⟨_,_,rfl⟩|⟨_,_,rfl⟩
   .exact lM w'
   .exact EJ h
   .exact lM w'
  refine(W9 Y W x u K a b w' (λh3=>D io) A j pu pz (z9 h G) (z9 h C)).mono ?_;rintro r H ⟨z,f⟩;refine⟨?_,f⟩;have O:ie x.rx=g7 x.k (J.ao x.l) u.rx K.rx:=by
   rw[E];rcases q with⟨rfl,rfl,rfl⟩|⟨rfl,rfl,rfl⟩|⟨rfl,rfl,rfl⟩
   .rw [ag e,e];rfl
   .rw [ad io,ag e,e];rfl
   .rw [ad io,ad io,ag e,e];rfl
  rw[O];refine z.sub λc d=>?_;rcases aP.1 d with d|d
  .grind
  .rcases aP.1 d with d|d
   .rcases q with⟨_,rfl,_⟩|⟨_,rfl,_⟩|⟨_,rfl,_⟩
    .exact (zW d).elim
    .exact (lN d).elim
    .exact db _ (EK d)
   .rcases q with⟨_,_,rfl⟩|⟨_,_,rfl⟩|⟨_,_,rfl⟩
    .exact (lN d).elim
    .exact db _ (EK d)
    .exact (lN d).elim
 .refine ⟨⟨vf,#[],#[]⟩,y,by kernel_rfl,λx w' h j e D A B=>((Xh x w' j e B).mono ?_)⟩;rintro r H ⟨z,f⟩;refine⟨?_,f⟩;rw[E,ad io,ad io,ad io,ag e];exact z.sub λc d=>by grind
 .refine ⟨⟨vh,#[],#[.pointer (some (aa a)),.pointer (some (aa b))]⟩,y,by kernel_rfl,λx w' h j e D A B=>((Xr x fR F.ev a b w' A j (zV w') (EJ h) (z9 h G) (z9 h C) rfl rfl e B).mono ?_)⟩;rintro r H ⟨z,f⟩;refine⟨?_,f⟩;rw[E,ad io,ad io,ad io,ad io,ag e];refine z.sub λc d=>?_;rcases aP.1 d with d|d
  .grind
  .rcases aP.1 d with d|d
   .exact (zW d).elim
   .exact db _ (EK d)
namespace Sd
noncomputable def C0:Code:=(Tryz.f183.body).getD .skip
noncomputable def C1:=C0.sn
noncomputable def C2:=C1.sn
noncomputable def C3:=C2.sn
noncomputable def C4:=C3.sn
noncomputable def C5:=C4.sn
noncomputable def C6:=C5.sn
def ok(w:I)(R:aC)(z:dh w (.cells #[.i 0,.int .u8 0,.int .u8 0,.slice none 0 0] aO) λe=>
 dh e (.cells #[.i 0,.int .u8 0,.int .u8 0,.slice none 0 0] aO) λD=>
 oe D (nb w) (.i 0) (.int .u8 0) (.int .u8 0) (.slice none 0 0) λF=>aL F (nb e) (.i 1) λG=>
 aL G ((nb e).add 1) (.int .u8 0) λH=>
 aL H ((nb e).add 2) (.int .u8 0) λJ=>
 aL J ((nb e).add 3) (.slice none 0 0) λh=>
 jA h (nb w) λk q x y=>dh h (.cells #[.i k,.int .u8 q,.int .u8 x,y.v] aO) λj=>
 dh j (.cells #[.i 0,.int .u8 0,.int .u8 0,.slice none 0 0] aO) λB=>
 oe B (nb j) (.i 6) (.int .u8 0) (.int .u8 0) (.slice (some (nb h)) 1 1) λC=>yv U C5 (λE w=>lT U Tryz.f183 E w (λv=>R (ab v) w)) [(5,.func (.func AQ) #[] #[]),(4,.func (.func xO) #[] #[]),(3,.pointer (some (nb j))),(10,.agg #[.i 6,.int .u8 0,.int .u8 0,.slice (some (nb h)) 1 1]),(9,.slice (some (nb h)) 1 1),(8,.agg #[.i k,.int .u8 q,.int .u8 x,y.v]),(2,.pointer (some (nb e))),(1,.pointer (some (nb w))),(7,.agg #[.i 1,.int .u8 0,.int .u8 0,.slice none 0 0]),(6,.agg #[.i 0,.int .u8 0,.int .u8 0,.slice none 0 0]),(0,.map none)] C):ah U Pa #[] w R:=
 wP (R:=R) (fn:=Tryz.f183) (c:=C0) (args:=[]) (by kernel_rfl) (by kernel_rfl) (by kernel_rfl) (sr C0 (show(λ(E:Env) (w:I)=>eT U C0 (λE w=>eT U C1 (λE w=>eT U C2 (λE w=>eT U C3 (λE w=>eT U C4 (λE w=>yv U C5 (λE w=>lT U Tryz.f183 E w (λv=>R (ab v) w)) E w) E w) E w) E w) E w) E w) (kL 0 []) w from mp z) λ_ _ d=>(sr C1 d λ_ _ d=>(sr C2 d λ_ _ d=>(sr C3 d λ_ _ d=>(sr C4 d λ_ _ d=>(si C5 (by kernel_rfl) d λ_ _ d=>(rt C6 λa A=>yl A d)))))))
end Sd
def Vx{M:Nat->Prop}{w0 w:I}{L j D:List En}(H:O M w0 w L D)(h:L.Perm j):O M w0 w j D:=
 ⟨H.fr,λd e=>H.own d (h.mem_iff.2 e),H.rd,λd e=>H.new d (h.mem_iff.2 e),(h.flatMap_right (·.fp)).nodup_iff.1 H.nd,λd e b q k x=>H.dj d e b q k (h.mem_iff.2 x)⟩
def hY{L:Nat->Bool}{i j:Nat}(d:j≠i):eb L i j=L j:=by
 have:bQ j i=false:=by rw[<-iu,eE];exact d
 grind
def Tu{L:Nat->Bool}{i:Nat}:eb L i i=true:=by simp[eb]
def acR{P:au}{fn:Func}{E:Env}{w:I}{K:V->Prop}{t:Nat}{v:V}(e:fn.results.toList=[.tmp t])(h:E.get? t=some v)(d:K v):lT P fn E w K:=by unfold lT;rw[e];unfold tc;rw[h];exact d
def z8:List (Op×Option Nat×aD×List Nat):=[
 (.makeMap lg none,some 11,lg,[]),
 (.move (.tmp 4),some 12,oo,[]),
 (.insert lg (.tmp 11) (.const (.int .i64 0)) (.tmp 12),none,om,[0,1]),
 (.move (.tmp 4),some 13,oo,[]),
 (.insert lg (.tmp 11) (.const (.int .i64 1)) (.tmp 13),none,om,[0,3]),
 (.move (.tmp 4),some 14,oo,[]),
 (.insert lg (.tmp 11) (.const (.int .i64 2)) (.tmp 14),none,om,[0,5]),
 (.move (.tmp 5),some 15,Ik,[]),
 (.load aO (.tmp 2),some 16,aO,[]),
 (.load aO (.tmp 1),some 17,aO,[]),
 (.call ⟨.value (.tmp 15),#[.tmp 16,.tmp 17],#[aO,aO]⟩,some 18,oo,[7,8,9]),
 (.insert lg (.tmp 11) (.const (.int .i64 3)) (.tmp 18),none,om,[0,10]),
 (.move (.tmp 5),some 19,Ik,[]),
 (.load aO (.tmp 1),some 20,aO,[]),
 (.load aO (.tmp 3),some 21,aO,[]),
 (.call ⟨.value (.tmp 19),#[.tmp 20,.tmp 21],#[aO,aO]⟩,some 22,oo,[12,13,14,10]),
 (.insert lg (.tmp 11) (.const (.int .i64 4)) (.tmp 22),none,om,[0,15]),
 (.move (.tmp 5),some 23,Ik,[]),
 (.load aO (.tmp 3),some 24,aO,[]),
 (.load aO (.tmp 1),some 25,aO,[]),
 (.call ⟨.value (.tmp 23),#[.tmp 24,.tmp 25],#[aO,aO]⟩,some 26,oo,[17,18,19,15]),
 (.insert lg (.tmp 11) (.const (.int .i64 5)) (.tmp 26),none,om,[0,20]),
 (.insert lg (.tmp 11) (.const (.int .i64 6)) (.func vf),none,om,[0]),
 (.makeFunc (.func vh) #[] #[.tmp 2,.tmp 3],some 27,oo,[]),
 (.insert lg (.tmp 11) (.const (.int .i64 7)) (.tmp 27),none,om,[0,23]),
 (.move (.tmp 11),some 28,lg,[0,1,2,3,4,5,6,7,8,9,10,11,12,13,14,15,16,17,18,19,20,21,22,23,24]),
 (.assign (.tmp 28),some 0,lg,[25,20,0,1,2,3,4,5,6,7,8,9,10,11,12,13,14,15,16,17,18,19,20,21,22,23,24,25])]
abbrev ptr(b:Nat):V:=.pointer (some (aa b))
abbrev l2:V:=.func (.func AQ) #[] #[]
abbrev BX(a b:Nat):V:=.func (.func vh) #[] #[ptr a,ptr b]
abbrev fE(s:Sl):J:=.mk 6 0 0 s [cu]
def ch(j d e:Nat)(h:J):List (Nat×Nat×V):=[(0,1,ptr j),(0,2,ptr d),(0,3,ptr e),(0,4,jc),(0,5,l2),(2,12,jc),(4,13,jc),(6,14,jc),(8,15,l2),(9,16,fR.v),(10,17,cu.v),(13,19,l2),(14,20,cu.v),(15,21,h.v),(18,23,l2),(19,24,h.v),(20,25,cu.v),(24,27,BX d e)]
def eK:List (Nat×Int):=[(2,0),(4,1),(6,2),(11,3),(16,4),(21,5),(22,6),(24,7)]
def ij(d:J):List (Nat×Nat×J×J):=[(10,18,fR,cu),(15,22,cu,d),(20,26,d,cu)]
def Joined(e:J)(cs:List (Nat×J))(L:Nat->Bool)(E:Env):Prop:=∀d∈ij e,L d.1=true->∃a b,E.get? d.2.1=some (u6 a b)/\(a,d.2.2.1)∈cs/\(b,d.2.2.2)∈cs
def y8(h:J)(cs:List (Nat×J))(L:Nat->Bool)(E:Env)(mp:List En):Prop:=(L 0=false/\mp=[]/\(∀d∈eK,L d.1=false)/\L 25=false/\L 26=false)\/
 (L 0=true/\∃(m:Nat) (es:Array MapEntry) (clock:Nat) (ms:List (Int×V)),mp=[.ob m (.map es clock)]/\E.get? 11=some (.map (some m))/\tZ .i64 es ms/\(∀e v,mu ms e=some v->tV cs h e v)/\(∀d∈eK,(mu ms d.2).isSome=L d.1)/\
  (L 25=true->E.get? 28=some (.map (some m)))/\(L 26=true->E.get? 0=some (.map (some m))))
abbrev qZ(d e h:Nat)(s:Sl):List En:=[dW d cu,dW e fR,.row aO 4 s cu.c,dW h (fE s)]
structure FJ(w0:I)(b1 b2 b4:Nat)(s:Sl)(L:Nat->Bool)(E:Env)(w:I):Prop where
 st:po (ch b1 b2 b4 (fE s)) L E
 hp:∃(mp X:List En) (cs:List (Nat×J)),O F0 w0 w (mp++(qZ b1 b2 b4 s++X)) []/\(∀p∈cs,dW p.1 p.2∈qZ b1 b2 b4 s++X)/\(b2,fR)∈cs/\(b4,fE s)∈cs/\Joined (fE s) cs L E/\y8 (fE s) cs L E mp
def tV.mono{cs x:List (Nat×J)}{y:J}{k:Int}{v:V}(d:tV cs y k v)(e:∀p∈cs,p∈x):tV x y k v:=by
 rcases d with d|⟨u,z,a,b,h,j,q,w⟩|d|⟨a,b,h,j,q,w⟩
 .exact .inl d
 .exact .inr (.inl ⟨u,z,a,b,h,j,e _ q,e _ w⟩)
 .exact .inr (.inr (.inl d))
 .exact .inr (.inr (.inr ⟨a,b,h,j,e _ q,e _ w⟩))
def NC(ms:List (Int×V))(k d:Int)(v:V):mu (ms++[(k,v)]) d=(mu ms d).or (if k=d then some v else none):=by
 unfold mu
 grind
section
variable {w0 w:I} {b1 b2 b4:Nat} {s:Sl} {L:Nat->Bool} {E:Env}
def y8.cv{w:J}{cs q:List (Nat×J)}{mp:List En}(e:y8 w cs L E mp)(G:∀p∈cs,p∈q)(i d:Nat)(v:V)(hi:∀H∈[0,25,26,2,4,6,11,16,21,22,24],H≠i)(hd:∀t∈[11,28,0],d≠t):y8 w q (eb L i) (E.put (some d) v) mp:=by
 have P:∀h∈eK,eb L i h.1=L h.1:=λh j=>hY (hi _ (by simp only[eK,aF,aW,a2]at j;rcases j with rfl|rfl|rfl|rfl|rfl|rfl|rfl|rfl<;>simp));have Q:eb L i 0=L 0:=hY (hi 0 us);have M:eb L i 25=L 25:=hY (hi 25 us);have N:eb L i 26=L 26:=hY (hi 26 us);rcases e with⟨B,k,x,y,z⟩|⟨B,m,A,clock,ms,k,x,y,z,O,C,D⟩
 .exact .inl ⟨by grind,k,λh j=>by grind,by grind,by grind⟩
 .refine .inr ⟨by grind,m,A,clock,ms,k,?_,y,λK v F=>(z K v F).mono G,λh j=>by grind,λe=>?_,λe=>?_⟩
  .rw [jx (hd 11 us),x]
  .rw [jx (hd 28 us),C (M▸e)]
  .rw [jx (hd 0 us),D (N▸e)]
def FJ.stat(h:FJ w0 b1 b2 b4 s L E w)(i d:Nat)(v:V)(B:∀e∈ch b1 b2 b4 (fE s),e.1=i+1->e=(i+1,d,v))(C:∀e∈ch b1 b2 b4 (fE s),e.2.1=d->e.1=i+1)(hi:∀x∈[0,25,26,2,4,6,11,16,21,22,24],x≠i)(k:∀x∈[10,15,20],x≠i)(hd:∀t∈[11,28,0],d≠t)(j:∀t∈[18,22,26],d≠t):FJ w0 b1 b2 b4 s (eb L i) (E.put (some d) v) w:=by
 obtain⟨mp,X,A,z,F,H,K,G,J⟩:=h.hp;refine⟨h.st.fill B C,mp,X,A,z,F,H,K,λe q D=>?_,J.cv (λ_ h=>h) i d v hi hd⟩;have y:eb L i e.1=L e.1/\d≠e.2.1:=by
  simp only[ij,aF,aW,a2]at q;rcases q with rfl|rfl|rfl
  .exact ⟨hY (k 10 us),j 18 us⟩
  .exact ⟨hY (k 15 us),j 22 us⟩
  .exact ⟨hY (k 20 us),j 26 us⟩
 rw[jx y.2];exact G e q (y.1▸D)
def FJ.ins(q:FJ w0 b1 b2 b4 s L E w)(i:Nat)(k:Int)(v:V)(h:(i,k)∈eK)(h0:L 0=true)(hi:L i=false)(hv:∀j,(b2,fR)∈j->(b4,fE s)∈j->Joined (fE s) j L E->tV j (fE s) k v):
  ∃m,E.get? 11=some (.map (some m))/\∃y,(Instr.mapUpdate lg (.map (some m)) (.i k) v).run U w=.ok () y/\FJ w0 b1 b2 b4 s (eb L i) (E.put none undef) y:=by
 obtain⟨mp,X,j,B,N,S,O,P,T⟩:=q.hp;rcases T with⟨aa,_⟩|⟨_,m,es,clock,ms,rfl,C,G,h4,D,H,J⟩
 .grind
 have F:mu ms k=none:=by have:=D _ h;rw[hi]at this;simpa using this
 obtain⟨y,A,W,Y,Z,r4,r5⟩:=aaK NG (B.ob (b:=m) 0 rfl) G k v F;refine⟨m,C,y,W,q.st.pass ?_ (λ_ _=>us),[.ob m (.map A (clock+1))],X,j,B.fy 0 (.ob m (.map A (clock+1))) rfl (r4.mono λac _ z=>by simp[En.ob,z]) Y (λb M=>.inl M),N,S,O,λe d K=>?_,.inr ⟨?_,m,A,clock+1,ms++[(k,v)],rfl,C,Z,λk' v' Q=>?_,λe d=>?_,λq=>?_,λq=>?_⟩⟩
 .intro e d;simp only[eK,aF,aW,a2,fB]at h;simp only[ch,aF,aW,a2]at d
  (repeat' rcases d with rfl|d)<;>(try subst d)<;>simp only<;>omega
 .have z:eb L i e.1=L e.1:=hY (by
   simp only[eK,aF,aW,a2,fB]at h;simp only[ij,aF,aW,a2]at d
   grind)
  exact P e d (z▸K)
 .grind
 .rw [NC]at Q
  grind
 .rw [NC];by_cases x:e.1=i
  .have:e.2=k:=by simp only[eK,aF,aW,a2,fB]at h;simp only[eK,aF,aW,a2]at d;rcases d with rfl|rfl|rfl|rfl|rfl|rfl|rfl|rfl<;>simp only at x ⊢<;>omega
   rw[x,Tu,this,F,ag rfl];rfl
  .have:k≠e.2:=by simp only[eK,aF,aW,a2,fB]at h;simp only[eK,aF,aW,a2]at d;rcases d with rfl|rfl|rfl|rfl|rfl|rfl|rfl|rfl<;>simp only at x ⊢<;>omega
   rw[hY x,ad this,<-D e d];simp
 .exact H (by rwa[hY (by simp only[eK,aF,aW,a2,fB]at h;omega)]at q)
 .exact J (by rwa[hY (by simp only[eK,aF,aW,a2,fB]at h;omega)]at q)
def FJ.call(y:FJ w0 b1 b2 b4 s L E w)(i d:Nat)(u j:J)(z:(i,d,u,j)∈ij (fE s)):ah U AQ #[u.v,j.v] w λq P=>∃v,q=ab v/\FJ w0 b1 b2 b4 s (eb L i) (E.put (some d) v) P:=by
 obtain⟨mp,X,D,A,T,Z,W,H,M⟩:=y.hp;have Y:(i=10/\d=18)\/(i=15/\d=22)\/(i=20/\d=26):=by simp only[ij,aF,aW,a2,fB]at z;omega
 refine Sf.ok (A.nw λk ac B=>B.nw λw2 ad C=>⟨u6 w.heap.size k.heap.size,rfl,y.st.pass ?_ ?_,mp,X++[dW w.heap.size u,dW k.heap.size j],(w.heap.size,u)::(k.heap.size,j)::D,?_,?_,by grind,by grind,λh e G=>?_,M.cv (λp aa=>by grind) i d _ ?_ ?_⟩)
 .intro h e;simp only[ch,aF,aW,a2]at e
  (repeat' rcases e with rfl|e)<;>(try subst e)<;>simp only<;>omega
 .intro h e x;have x:d=h.2.1:=eU x;simp only[ch,aF,aW,a2]at e
  (repeat' rcases e with rfl|e)<;>(try subst e)<;>simp only at x<;>omega
 .have q:mp++(qZ b1 b2 b4 s++(X++[dW w.heap.size u,dW k.heap.size j]))=mp++(qZ b1 b2 b4 s++X)++[dW w.heap.size u]++[dW k.heap.size j]:=us
  rw[q];exact C
 .grind
 .by_cases O:h.1=i
  .have:h=(i,d,u,j):=by
    simp only[ij,aF,aW,a2,fB]at z;simp only[ij,aF,aW,a2]at e
    grind
   subst this;exact⟨_,_,uZ,us,us⟩
  .have N:d≠h.2.1:=by
    simp only[ij,aF,aW,a2]at e
    grind
   obtain⟨a,b,F,Q,S⟩:=H h e (by rwa[hY O]at G);exact⟨a,b,by rw[jx N,F],by grind,by grind⟩
 .intro ae K;simp only[aF,aW,a2]at K;omega
 grind
def FJ.mk0(h:FJ w0 b1 b2 b4 s L E w)(K:L 0=false):FJ w0 b1 b2 b4 s (eb L 0) (E.put (some 11) (.map (some w.heap.size))) (w.alloc (.map #[] 0)):=by
 obtain⟨mp,X,x,q,C,H,D,F,J⟩:=h.hp;rcases J with⟨_,rfl,y,z,A⟩|⟨M,_⟩
 .refine ⟨h.st.pass ?_ ?_,[.ob w.heap.size (.map #[] 0)],X,x,Vx (q.alloc (.map #[] 0)) ?_,C,H,D,λe d B=>?_,.inr ⟨Tu,w.heap.size,#[],0,[],rfl,uZ,rfl,λN v G=>by simp[mu]at G,λe d=>?_,λh=>?_,λh=>?_⟩⟩
  .intro e d;simp only[ch,aF,aW,a2]at d
   (repeat' rcases d with rfl|d)<;>(try subst d)<;>simp
  .intro e d j;have j:11=e.2.1:=eU j;simp only[ch,aF,aW,a2]at d
   (repeat' rcases d with rfl|d)<;>(try subst d)<;>simp at j
  .exact List.perm_append_comm
  .have k:eb L 0 e.1=L e.1/\11≠e.2.1:=by simp only[ij,aF,aW,a2]at d;rcases d with rfl|rfl|rfl<;>exact⟨hY us,us⟩
   rw[jx k.2];exact F e d (k.1▸B)
  .rw [hY (by
    simp only[eK,aF,aW,a2]at d
    grind),y e d]
   simp[mu]
  .rw [hY dl,z]at h;cases h
  .rw [hY dl,A]at h;cases h
 grind
def FJ.m25(h:FJ w0 b1 b2 b4 s L E w)(N:L 0=true):∃m,E.get? 11=some (.map (some m))/\FJ w0 b1 b2 b4 s (eb L 25) (E.put (some 28) (.map (some m))) w:=by
 obtain⟨mp,X,z,y,G,K,H,J,M⟩:=h.hp;rcases M with⟨O,_⟩|⟨_,m,q,clock,ms,rfl,x,A,B,C,P,D⟩
 .grind
 refine⟨m,x,h.st.pass ?_ ?_,[.ob m (.map q clock)],X,z,y,G,K,H,λe d F=>?_,.inr ⟨by grind,m,q,clock,ms,rfl,by rw[jx dl,x],A,B,λe d=>?_,λ_=>uZ,λh=>?_⟩⟩
 .intro e d;simp only[ch,aF,aW,a2]at d
  (repeat' rcases d with rfl|d)<;>(try subst d)<;>simp
 .intro e d j;have j:28=e.2.1:=eU j;simp only[ch,aF,aW,a2]at d
  (repeat' rcases d with rfl|d)<;>(try subst d)<;>simp at j
 .have k:eb L 25 e.1=L e.1/\28≠e.2.1:=by simp only[ij,aF,aW,a2]at d;rcases d with rfl|rfl|rfl<;>exact⟨hY us,us⟩
  rw[jx k.2];exact J e d (k.1▸F)
 .rw [hY (by
   simp only[eK,aF,aW,a2]at d
   grind),C e d]
 .rw [jx dl];exact D (by rwa[hY dl]at h)
def FJ.m26(h:FJ w0 b1 b2 b4 s L E w)(O:L 0=true)(A:L 25=true):∃m,E.get? 28=some (.map (some m))/\FJ w0 b1 b2 b4 s (eb L 26) (E.put (some 0) (.map (some m))) w:=by
 obtain⟨mp,X,y,x,H,M,J,K,N⟩:=h.hp;rcases N with⟨P,_⟩|⟨_,m,q,clock,ms,rfl,z,B,C,D,F,Q⟩
 .grind
 refine⟨m,F A,h.st.pass ?_ ?_,[.ob m (.map q clock)],X,y,x,H,M,J,λe d G=>?_,.inr ⟨by grind,m,q,clock,ms,rfl,by rw[jx dl,z],B,C,λe d=>?_,λh=>?_,λ_=>uZ⟩⟩
 .intro e d;simp only[ch,aF,aW,a2]at d
  (repeat' rcases d with rfl|d)<;>(try subst d)<;>simp
 .intro e d j;have j:0=e.2.1:=eU j;simp only[ch,aF,aW,a2]at d
  (repeat' rcases d with rfl|d)<;>(try subst d)<;>simp at j
 .have k:eb L 26 e.1=L e.1/\0≠e.2.1:=by simp only[ij,aF,aW,a2]at d;rcases d with rfl|rfl|rfl<;>exact⟨hY us,us⟩
  rw[jx k.2];exact K e d (k.1▸G)
 .rw [hY (by
   simp only[eK,aF,aW,a2]at d
   grind),D e d]
 .rw [jx dl]
  grind
def FJ.ld(y:FJ w0 b1 b2 b4 s L E w){u:J}{b:Nat}(z:dW b u∈qZ b1 b2 b4 s){K:V->Prop}(H:K u.v):oQ U aO (aa b) w λv _=>K v:=by
 obtain⟨mp,X,F,x,_⟩:=y.hp;have d:w.heap[b]? =some (.cells u.c.toArray aO (0,0)):=x.own (dW b u) (db _ (List.mem_append_left _ z));have A:=cellAt (p:=aa b) (i:=0) (v:=.int .i64 u.k) d rfl rfl;have B:=cellAt (p:=aa b) (i:=1) (v:=.int .u8 (u.lo.toNat:Int)) d rfl rfl;have C:=cellAt (p:=aa b) (i:=2) (v:=.int .u8 (u.hi.toNat:Int)) d rfl rfl;have D:=cellAt (p:=aa b) (i:=3) (v:=u.s.v) d rfl rfl;have G:(oQ U aO (aa b) w λv _=>K v)=(∃e:Int,∃h:Int,∃j:Int,∃q:Sl,w.cell? ((aa b).add 0)=some (.int .i64 e)/\w.cell? ((aa b).add 1)=some (.int .u8 h)/\w.cell? ((aa b).add 2)=some (.int .u8 j)/\w.cell? ((aa b).add 3)=some q.v/\K (.agg #[.int .i64 e,.int .u8 h,.int .u8 j,q.v])):=by kernel_rfl
 grind
end
def YK(w:I)(G F C:Nat)(s:Sl):allI (zb U (FJ w G F C s)) z8 0:=
 ⟨λy x z o j k A q h e=>adZ j (by rw[k];exact e.mk0 q),
  λy x z o j k A q h e=>qo (.inl j) (e.st.get (i:=0) (d:=4) (v:=jc) (by simp[ch]) rfl) (by rw[k];exact e.stat 1 12 (jc) (by simp[ch]) (by simp[ch]) us us us us),
  λy x z o j k A q h e=>by obtain⟨m,D,B,E,H⟩:=e.ins 2 0 (jc) (by simp[eK]) (h 0 us) q (λJ M O L=>.inl ⟨.inl rfl,rfl⟩);exact rv j D rfl (e.st.get (i:=2) (d:=12) (v:=jc) (by simp[ch]) (h 1 us)) ⟨B,E,by grind⟩,
  λy x z o j k A q h e=>qo (.inl j) (e.st.get (i:=0) (d:=4) (v:=jc) (by simp[ch]) rfl) (by rw[k];exact e.stat 3 13 (jc) (by simp[ch]) (by simp[ch]) us us us us),
  λy x z o j k A q h e=>by obtain⟨m,D,B,E,H⟩:=e.ins 4 1 (jc) (by simp[eK]) (h 0 us) q (λJ M O L=>.inl ⟨.inr (.inl rfl),rfl⟩);exact rv j D rfl (e.st.get (i:=4) (d:=13) (v:=jc) (by simp[ch]) (h 3 us)) ⟨B,E,by grind⟩,
  λy x z o j k A q h e=>qo (.inl j) (e.st.get (i:=0) (d:=4) (v:=jc) (by simp[ch]) rfl) (by rw[k];exact e.stat 5 14 (jc) (by simp[ch]) (by simp[ch]) us us us us),
  λy x z o j k A q h e=>by obtain⟨m,D,B,E,H⟩:=e.ins 6 2 (jc) (by simp[eK]) (h 0 us) q (λJ M O L=>.inl ⟨.inr (.inr rfl),rfl⟩);exact rv j D rfl (e.st.get (i:=6) (d:=14) (v:=jc) (by simp[ch]) (h 5 us)) ⟨B,E,by grind⟩,
  λy x z o j k A q h e=>qo (.inl j) (e.st.get (i:=0) (d:=5) (v:=l2) (by simp[ch]) rfl) (by rw[k];exact e.stat 7 15 (l2) (by simp[ch]) (by simp[ch]) us us us us),
  λy x z o j k A q h e=>tq j (e.st.get (i:=0) (d:=2) (v:=ptr F) (by simp[ch]) rfl) (e.ld (u:=fR) (b:=F) (ay (i:=1) rfl) (K:=λv=>FJ w G F C s (eb y 8) (x.put o.dst v) z) (by rw[k];exact e.stat 8 16 ((fR).v) (by simp[ch]) (by simp[ch]) us us us us)),
  λy x z o j k A q h e=>tq j (e.st.get (i:=0) (d:=1) (v:=ptr G) (by simp[ch]) rfl) (e.ld (u:=cu) (b:=G) (ay (i:=0) rfl) (K:=λv=>FJ w G F C s (eb y 9) (x.put o.dst v) z) (by rw[k];exact e.stat 9 17 ((cu).v) (by simp[ch]) (by simp[ch]) us us us us)),
  λy x z o j k A q h e=>by refine HX j (e.st.get (i:=8) (d:=15) (v:=l2) (by simp[ch]) (h 7 us)) (e.st.get (i:=9) (d:=16) (v:=(fR).v) (by simp[ch]) (h 8 us)) (e.st.get (i:=10) (d:=17) (v:=(cu).v) (by simp[ch]) (h 9 us)) (by kernel_rfl) ((e.call 10 18 (fR) (cu) (by simp[ij])).mono ?_);rintro ad B ⟨v,Y,H⟩;rw[A,show zeroOf U oo=.nilFunc from by kernel_rfl];exact⟨v,Y,by grind⟩,
  λy x z o j k A q h e=>by
   obtain⟨mp,X,J,ac,hc,hm,ae,Z,af⟩:=e.hp;obtain⟨a,b,N,_,_⟩:=Z (10,18,fR,cu) (by simp[ij]) (h 10 us);obtain⟨m,D,B,E,H⟩:=e.ins 11 3 (u6 a b) (by simp[eK]) (h 0 us) q (λJ M O L=>by obtain⟨P,Q,S,T,W⟩:=L (10,18,fR,cu) (by simp[ij]) (h 10 us);exact .inr (.inl ⟨fR,cu,P,Q,.inl ⟨rfl,rfl,rfl⟩,eU (N.symm.trans S),T,W⟩))
   exact rv j D rfl N ⟨B,E,by grind⟩,
  λy x z o j k A q h e=>qo (.inl j) (e.st.get (i:=0) (d:=5) (v:=l2) (by simp[ch]) rfl) (by rw[k];exact e.stat 12 19 (l2) (by simp[ch]) (by simp[ch]) us us us us),
  λy x z o j k A q h e=>tq j (e.st.get (i:=0) (d:=1) (v:=ptr G) (by simp[ch]) rfl) (e.ld (u:=cu) (b:=G) (ay (i:=0) rfl) (K:=λv=>FJ w G F C s (eb y 13) (x.put o.dst v) z) (by rw[k];exact e.stat 13 20 ((cu).v) (by simp[ch]) (by simp[ch]) us us us us)),
  λy x z o j k A q h e=>tq j (e.st.get (i:=0) (d:=3) (v:=ptr C) (by simp[ch]) rfl) (e.ld (u:=fE s) (b:=C) (ay (i:=3) rfl) (K:=λv=>FJ w G F C s (eb y 14) (x.put o.dst v) z) (by rw[k];exact e.stat 14 21 ((fE s).v) (by simp[ch]) (by simp[ch]) us us us us)),
  λy x z o j k A q h e=>by refine HX j (e.st.get (i:=13) (d:=19) (v:=l2) (by simp[ch]) (h 12 us)) (e.st.get (i:=14) (d:=20) (v:=(cu).v) (by simp[ch]) (h 13 us)) (e.st.get (i:=15) (d:=21) (v:=(fE s).v) (by simp[ch]) (h 14 us)) (by kernel_rfl) ((e.call 15 22 (cu) (fE s) (by simp[ij])).mono ?_);rintro ad B ⟨v,Y,H⟩;rw[A,show zeroOf U oo=.nilFunc from by kernel_rfl];exact⟨v,Y,by grind⟩,
  λy x z o j k A q h e=>by
   obtain⟨mp,X,J,ac,hc,hm,ae,Z,af⟩:=e.hp;obtain⟨a,b,N,_,_⟩:=Z (15,22,cu,fE s) (by simp[ij]) (h 15 us);obtain⟨m,D,B,E,H⟩:=e.ins 16 4 (u6 a b) (by simp[eK]) (h 0 us) q (λJ M O L=>by obtain⟨P,Q,S,T,W⟩:=L (15,22,cu,fE s) (by simp[ij]) (h 15 us);exact .inr (.inl ⟨cu,fE s,P,Q,.inr (.inl ⟨rfl,rfl,rfl⟩),eU (N.symm.trans S),T,W⟩))
   exact rv j D rfl N ⟨B,E,by grind⟩,
  λy x z o j k A q h e=>qo (.inl j) (e.st.get (i:=0) (d:=5) (v:=l2) (by simp[ch]) rfl) (by rw[k];exact e.stat 17 23 (l2) (by simp[ch]) (by simp[ch]) us us us us),
  λy x z o j k A q h e=>tq j (e.st.get (i:=0) (d:=3) (v:=ptr C) (by simp[ch]) rfl) (e.ld (u:=fE s) (b:=C) (ay (i:=3) rfl) (K:=λv=>FJ w G F C s (eb y 18) (x.put o.dst v) z) (by rw[k];exact e.stat 18 24 ((fE s).v) (by simp[ch]) (by simp[ch]) us us us us)),
  λy x z o j k A q h e=>tq j (e.st.get (i:=0) (d:=1) (v:=ptr G) (by simp[ch]) rfl) (e.ld (u:=cu) (b:=G) (ay (i:=0) rfl) (K:=λv=>FJ w G F C s (eb y 19) (x.put o.dst v) z) (by rw[k];exact e.stat 19 25 ((cu).v) (by simp[ch]) (by simp[ch]) us us us us)),
  λy x z o j k A q h e=>by refine HX j (e.st.get (i:=18) (d:=23) (v:=l2) (by simp[ch]) (h 17 us)) (e.st.get (i:=19) (d:=24) (v:=(fE s).v) (by simp[ch]) (h 18 us)) (e.st.get (i:=20) (d:=25) (v:=(cu).v) (by simp[ch]) (h 19 us)) (by kernel_rfl) ((e.call 20 26 (fE s) (cu) (by simp[ij])).mono ?_);rintro ad B ⟨v,Y,H⟩;rw[A,show zeroOf U oo=.nilFunc from by kernel_rfl];exact⟨v,Y,by grind⟩,
  λy x z o j k A q h e=>by
   obtain⟨mp,X,J,ac,hc,hm,ae,Z,af⟩:=e.hp;obtain⟨a,b,N,_,_⟩:=Z (20,26,fE s,cu) (by simp[ij]) (h 20 us);obtain⟨m,D,B,E,H⟩:=e.ins 21 5 (u6 a b) (by simp[eK]) (h 0 us) q (λJ M O L=>by obtain⟨P,Q,S,T,W⟩:=L (20,26,fE s,cu) (by simp[ij]) (h 20 us);exact .inr (.inl ⟨fE s,cu,P,Q,.inr (.inr ⟨rfl,rfl,rfl⟩),eU (N.symm.trans S),T,W⟩))
   exact rv j D rfl N ⟨B,E,by grind⟩,
  λy x z o j k A q h e=>by obtain⟨m,D,B,E,H⟩:=e.ins 22 6 (.func (.func vf) #[] #[]) (by simp[eK]) (h 0 us) q (λJ M O L=>.inr (.inr (.inl ⟨rfl,rfl⟩)));exact rv j D rfl rfl ⟨B,E,by grind⟩,
  λy x z o j k A q h e=>adY j (e.st.get (i:=0) (d:=2) (v:=ptr F) (by simp[ch]) rfl) (e.st.get (i:=0) (d:=3) (v:=ptr C) (by simp[ch]) rfl) (by rw[k];exact e.stat 23 27 (BX F C) (by simp[ch]) (by simp[ch]) us us us us),
  λy x z o j k A q h e=>by obtain⟨m,D,B,E,H⟩:=e.ins 24 7 (BX F C) (by simp[eK]) (h 0 us) q (λJ M O L=>.inr (.inr (.inr ⟨F,C,rfl,rfl,M,O⟩)));exact rv j D rfl (e.st.get (i:=24) (d:=27) (v:=BX F C) (by simp[ch]) (h 23 us)) ⟨B,E,by grind⟩,
  λy x z o j k A q h e=>by obtain⟨m,aa,H⟩:=e.m25 (h 0 us);exact qo (.inl j) aa (by grind),
  λy x z o j k A q h e=>by obtain⟨m,aa,H⟩:=e.m26 (h 0 us) (h 25 us);exact qo (.inr j) aa (by grind),trivial⟩
def YL{w k:I}{j e h:Nat}{s:Sl}{E:Env}(H:O F0 w k (qZ j e h s) [])(q:E.get? 1=some (ptr j))(x:E.get? 2=some (ptr e))(y:E.get? 3=some (ptr h))(z:E.get? 4=some jc)(A:E.get? 5=some l2):FJ w j e h s (λ_=>false) E k.drew:=by
 refine⟨λD d C=>?_,[],[],[(e,fR),(h,fE s)],by simpa using H.drew,?_,us,us,λD d B=>(by cases B),.inl ⟨rfl,rfl,λ_ _=>rfl,rfl,rfl⟩⟩
 .simp only[ch,aF,aW,a2]at d
  (repeat' rcases d with rfl|d)<;>(try subst d)<;>first |exact q|exact x|exact y|exact z|exact A|cases C
 grind
def YI{w q:I}{A B C:Nat}{s:Sl}{L:Nat->Bool}{E:Env}(G:∀i,i<z8.length->L i=true)(W:FJ w A B C s L E q):∃y:Fm,E.get? 0=some (.map (some y.m))/\y.Ok/\(En.fm y).P q/\(∀b∈(En.fm y).fp,w.heap.size<=b)/\af w q:=by
 have hlen:z8.length=27:=rfl;obtain⟨mp,X,D,j,hc,hm,ag,hj,ac⟩:=W.hp;rcases ac with⟨ae,_⟩|⟨_,m,F,clock,ms,rfl,h2,O,Q,S,h6,T⟩
 .grind
 have mem:∀p∈D,dW p.1 p.2∈[En.ob m (.map F clock)]++(qZ A B C s++X):=λp x=>db _ (hc p x);have ad:aJ q aO 4 s cu.c:=j.get (e:=.row aO 4 s cu.c) 3 rfl;refine⟨⟨m,F,clock,ms,D,s⟩,T (G 26 io),⟨O,λh h0 h8=>?_⟩,λN d=>?_,λb Y=>?_,j.fr⟩
 .have aa:∃i,(i,h)∈eK/\i<27:=by
   have:h=0\/h=1\/h=2\/h=3\/h=4\/h=5\/h=6\/h=7:=io
   rcases this with rfl|rfl|rfl|rfl|rfl|rfl|rfl|rfl
   .exact ⟨2,by simp[eK],io⟩
   .exact ⟨4,by simp[eK],io⟩
   .exact ⟨6,by simp[eK],io⟩
   .exact ⟨11,by simp[eK],io⟩
   .exact ⟨16,by simp[eK],io⟩
   .exact ⟨21,by simp[eK],io⟩
   .exact ⟨22,by simp[eK],io⟩
   .exact ⟨24,by simp[eK],io⟩
  obtain⟨i,hi,ai⟩:=aa;have H:=S _ hi;rw[G i io]at H;obtain⟨v,M⟩:=Option.isSome_iff_exists.1 H;exact⟨v,M,Q h v M⟩
 .rcases aF.1 d with rfl|d
  .exact j.own _ us
  rcases aF.1 d with rfl|d
  .show J.P q (fE s);unfold J.P J.Ps J.Ps;exact⟨ad.a9,lM q,trivial⟩
  .obtain ⟨p,x,rfl⟩:=dn.1 d;exact j.own _ (mem p x)
 .obtain ⟨N,d,z⟩:=b'.1 (aU.1 Y);rcases aF.1 d with rfl|d
  .exact (j.new _ (ay (i:=0) rfl) b z).resolve_right id
  rcases aF.1 d with rfl|d
  .have k:b∈(fE s).fp:=aU.1 z;unfold J.fp at k;rcases aP.1 k with k|k
   .exact (j.new _ (ay (i:=3) rfl) b (gY k)).resolve_right id
   .obtain ⟨t,K,Z⟩:=J.b0.1 k;simp at K;subst K;exact(lN Z).elim
  .obtain ⟨p,x,rfl⟩:=dn.1 d;exact(j.new _ (mem p x) b z).resolve_right id
def W3(w:I):ah U Pa #[] w λr h=>(∃d:Fm,r=ab (.map (some d.m))/\d.Ok/\(En.fm d).P h/\∀b∈(En.fm d).fp,w.heap.size<=b)/\af w h:=by refine Sd.ok w _ ((bZ [] us).nw λj _ x=>x.nw λN _ B=>B.k9 0 rfl λW C=>C.k9 1 rfl λk e=>⟨0,0,0,⟨none,0,0⟩,e.ld 0 0,e.ld 0 1,e.ld 0 2,e.ld 0 3,e.fe (n:=1) (sz:=4) (cs:=cu.c) rfl dl λq y=>y.nw λT _ z=>z.k9 3 rfl λM A=>?_⟩);have D:O F0 w M (qZ w.heap.size j.heap.size q.heap.size ⟨some (aa k.heap.size),1,1⟩) []:=A;refine Mi z8 (by kernel_rfl) (FJ w w.heap.size j.heap.size q.heap.size ⟨some (aa k.heap.size),1,1⟩) (YL D rfl rfl rfl rfl rfl) (YK _ _ _ _ _) λS Q N L K=>?_;obtain⟨d,E,F,G,H,J⟩:=YI L K;exact acR (by kernel_rfl) E ⟨⟨d,rfl,F,G,H⟩,J⟩
section
variable {M:Nat->Prop} {w0 w:I} {L D:List En}
def _root_.Go.W.O.V7(H:O M w0 w L D)(i:Nat){P:au}{t ty e:aD}{E:V}{sz bytes:Nat}(k:gg P t e E sz bytes){T:aD}{s:Sl}{xs:List V}{news:Array V}{A:I->Prop}{K:Sl->I->Prop}(hi:L[i]? =some (.row e sz s xs))(y:∀d,O M w0 d L D->A d)(z:∀h d,O M w0 d (L.set i (.row e sz h (xs++news.toList))) D->K h d)(B:(s.n+1) *bytes<=140737488355328)(C:news.size=sz:=by rfl)(x:∀u∈news.toList,u.oneCell'=true:=by simp[Value.oneCell']):
  dh w (.cells news T) λj=>A j/\∃h d,(Builtin.append_ #[t,t] ty #[s.v,.slice (some (Addr.mk w.heap.size 0 none)) 1 1]).run P j=.ok h.v d/\K h d:=
 ⟨y _ (H.cB (Fr.alloc _ _ _)),H.wG i k hi (λh d q _ _=>z h d q) B C x⟩
end
mutual
def dR:Rx->Rx|.mk k lo hi l=>ie (.mk k lo hi (fu l))
def fu:List Rx->List Rx
 |[]=>[]
 |a::l=>dR a::fu l
end
def YA(N:Nat):Rx->Bool|.mk k _ _ l=>ak (k=4\/k=5->vx k l<=N)
def sU(N:Nat)(y:Rx):Bool:=lG y&&ak (y.sz<=1000000)&&YA N y
mutual
def qY(N:Nat):Rx->Bool|.mk k lo hi l=>sw N l&&sU N (.mk k lo hi (fu l))
def sw(N:Nat):List Rx->Bool
 |[]=>true
 |a::l=>qY N a&&sw N l
end
def LO{N:Nat}:∀{l:List Rx} {a:Rx},sw N l=true->a∈l->qY N a=true
 |b::l,a,d,e=>by
  unfold sw at d;rw[bf]at d;rcases aF.1 e with rfl|e
  .grind
  .exact LO d.2 e
def sT:∀l:List Rx,fu l=l.map dR
 |[]=>rfl
 |a::l=>by unfold fu;rw[sT l];rfl
def QD{M:Nat->Prop}{w0 w:I}{L D:List En}(H:O M w0 w L D):O M w0 w L (D++[.trees []]):=
 H.eO (.trees []) (Fr.refl _ _) (by show J.Ps w [];unfold J.Ps;trivial) (λb d=>by
  have:=aU.1 d;unfold J.be at this
  grind)
def uU{acc:List J}{t:J}{Q:Nat->Prop}(e:∀b∈J.be acc,Q b)(k:∀b∈t.fp,Q b):∀b∈J.be (acc++[t]),Q b:=by
 intro b h;obtain⟨u,d,j⟩:=J.b0.1 h;rcases aP.1 d with d|d
 .exact e b (J.b0.2 ⟨u,d,j⟩)
 grind
abbrev VA(N:Nat)(F:Fm)(n:Nat):Prop:=∀(x:J) (w:I),x.sz<=n->qY N x.rx=true->(En.fm F).P w->x.P w->ah U Gd #[.map (some F.m),x.v] w λr d=>gL (x.fp++(En.fm F).fp) w (dR x.rx) r d/\af w d
def JR{N:Nat}(hS:mS N)(hN:N+1<=1000000){F:Fm}(hF:F.Ok):∀n:Nat,n<=1000000->VA N F n
 |0,_=>λe y ac _ _ _=>absurd ac (by have:=J.nA e;omega)
 |n+1,hn=>λe y ac ad pF px=>by
  have ih:=JR hS hN hF n io;have hs:=J.iK e;have hl:=J.gp e.l;have nr:=J.cw px.parts.1;have Q:sw N (J.ao e.l)=true/\sU N (.mk e.k e.lo e.hi (fu (J.ao e.l)))=true:=by
   rw[J.fw]at ad;unfold qY at ad
   grind
  have ae:0<=e.k/\e.k<8:=by
   have:=Q.2;unfold sU lG at this
   grind
  have loop:∀(d i:Nat) (acc:List J) (sl:Sl) (B C A:Nat) (x:I),i+d=e.l.length->J.ao acc=fu (J.ao (e.l.take i))->(∀b∈J.be acc,y.heap.size<=b\/b∈e.fp++(En.fm F).fp)->
    O F0 y x [.c B e.c aO,.c C [.int .i64 0,.int .u8 0,.int .u8 0,.slice none 0 0] aO,.c A [.int .i64 e.k,.int .u8 (e.lo.toNat:Int),.int .u8 (e.hi.toNat:Int),sl.v] aO,.row aO 4 sl (acc.flatMap J.c)] [.tree e,.fm F,.trees acc]->
    yj.L0 (some F.m) (aa B) (aa C) (aa A) e.s (e.s.n:Int) (i:Int) x λr Y=>gL (e.fp++(En.fm F).fp) y (dR e.rx) r Y/\af y Y:=by
   intro d;induction d with
   |zero=>
    intro i acc sl B C A x av w hf j;rw[fW io]at w;obtain⟨f,f1,f2,f3⟩:=WW hS io hF (j.getD 1) e.k ae.1 ae.2;have aG:∀b∈(J.row sl acc).fp,y.heap.size<=b:=λb h=>(j.new _ (ay (i:=3) rfl) b (gY h)).resolve_right id;have E:O F0 y x [.c B e.c aO,.c C [.int .i64 0,.int .u8 0,.int .u8 0,.slice none 0 0] aO,.c A [.int .i64 e.k,.int .u8 (e.lo.toNat:Int),.int .u8 (e.hi.toNat:Int),sl.v] aO] [.tree e,.fm F,.trees acc,J.row sl acc,.tree (.mk e.k e.lo e.hi sl acc)]:=j.td 3 2 e.k e.lo e.hi;have az:(J.mk e.k e.lo e.hi sl acc).P x:=E.getD 4;have ap:(J.mk e.k e.lo e.hi sl acc).rx=.mk e.k e.lo e.hi (fu (J.ao e.l)):=by unfold J.rx;rw[w]
    have S:=Q.2;unfold sU at S;simp only[bf,decide_eq_true_eq]at S;have aw:(J.mk e.k e.lo e.hi sl acc).sz<=1000000:=by
     have h1:=J.eu (J.mk e.k e.lo e.hi sl acc)
     grind
    have ar:e.k=4\/e.k=5->vx e.k (J.ao acc)<=N:=λhk=>by rw[w];exact fk S.2 hk
    have aC:dR e.rx=ie (J.mk e.k e.lo e.hi sl acc).rx:=by rw[ap,J.fw];unfold dR;rfl
    refine yj.cH (aT (a7 io) ⟨e.k,j.ld 0 0,f,f1,_,_,_,sl,j.ld 2 0,j.ld 2 1,j.ld 2 2,j.ld 2 3,?_⟩);rw[f2];refine(show cS true _ from ?_);refine(f3 (.mk e.k e.lo e.hi sl acc) x (j.getD 1) az rfl ar aw (by grind)).mono ?_;rintro _ w2 ⟨⟨t,rfl,ht,W,D⟩,M⟩;have L:=E.eO (.tree t) M W (λb h=>by
     rcases D b (aU.1 h)with h|h
     .omega
     .rcases aP.1 h with h|h
      .exact .inr (.inr ⟨_,ay (i:=4) rfl,aU.2 h⟩)
      grind)
    refine⟨_,_,_,t.s,rfl,L.k9 1 rfl λw3 z=>⟨_,_,_,t.s,z.ld 1 0,z.ld 1 1,z.ld 1 2,z.ld 1 3,⟨t,rfl,by grind,z.getD 5,λb h=>?_⟩,z.fr⟩⟩;rcases D b h with h|h
    .exact .inl (bI j.fr.size h)
    .rcases aP.1 h with h|h
     .unfold J.fp at h
      grind
     grind
   |succ d ax=>
    intro i acc sl B C A x av w hf j;have H:e.l[i]? =some (e.l[i]'io):=a0 io;generalize e.l[i]'io=a at H;have T:=ay H;have aK:=J.eM T;have fa:qY N a.rx=true:=LO Q.1 (by rw[J.fY];grind);have aq:∀b∈a.fp,b∈e.fp:=λb h=>J.gP.2 (.inr (J.b0.2 ⟨a,T,h⟩));refine yj.cH (aR (a6 io) (j5 (show e.P x from j.getD 0) rfl H (j.nw λw8 _ H8=>H8.k9 4 rfl λaL ai=>ai.dr λag q=>⟨sl,q.ld 2 3,a.k,a.lo.toNat,a.hi.toNat,a.s,q.ld 4 0,q.ld 4 1,q.ld 4 2,q.ld 4 3,?_⟩)));refine(ih a ag io fa (q.getD 1) ((show e.P ag from q.getD 0).parts.2.mem T)).mono ?_;rintro _ aM ⟨⟨t,rfl,ht,W,D⟩,M⟩;have K:=q.eO (.tree t) M W (λb h=>by
     rcases D b (aU.1 h)with h|h
     .omega
     .rcases aP.1 h with h|h
      .exact .inr (.inr ⟨_,ay (i:=0) rfl,aU.2 (aq b h)⟩)
      grind)
    have aH:acc.length=i:=by
     have h1:=congrArg List.length w;rw[J.fY,sT,J.fY]at h1
     grind
    have aI:=J.cw (K.get 3:aJ _ _ _ _ _).a9;refine⟨_,_,_,t.s,rfl,K.ld 2 3,K.V7 3 sa (xs:=acc.flatMap J.c) rfl (λY E=>E.ld 2 3) (λs' aN aj=>aj.st 2 3 rfl λaA am=>?_) io⟩;rw[bt _ io];have an:=(am.th 2 3).take 4;refine ax (i+1) (acc++[t]) s' B C A aA io ?_ (uU hf λb h=>?_) ?_
    .rw [k0,w,ha,H,Option.toList_some,k0,sT,sT,fv];show _++[t.rx]=_;rw[ht];rfl
    .rcases D b h with h|h
     .exact .inl (bI q.fr.size h)
     grind
    .rw [nW];exact an.forget _ us
  refine yj.ok ((bZ [.tree e,.fm F] (by
   intro aB w;simp only[aF,aW,a2]at w;rcases w with rfl|rfl
   .exact px
   omega)).nw λx _ H1=>H1.nw λw2 _ G=>⟨e.k,G.ld 0 0,e.lo.toNat,G.ld 0 1,e.hi.toNat,G.ld 0 2,G.nw λw3 _ L=>L.k9 2 rfl λw7 Z=>⟨e.s,Z.ld 0 3,?_⟩⟩)
  exact loop e.l.length 0 [] ⟨none,0,0⟩ _ _ _ w7 io rfl (λb h=>by unfold J.be at h;cases h) (QD (Z.iH aO 4))
def Xg{N:Nat}(k:mS N)(j:N+1<=1000000){F:Fm}(h:F.Ok)(x:J)(w:I)(e:x.sz<=1000000)(q:qY N x.rx=true)(y:(En.fm F).P w)(z:x.P w):ah U Gd #[.map (some F.m),x.v] w λr d=>gL (x.fp++(En.fm F).fp) w (dR x.rx) r d/\af w d:=
 JR k j h 1000000 (bz _) x w e q y z
section
variable {M:Nat->Prop} {w0 w:I} {L D:List En} {bs:List Nat}
def _root_.Go.W.O.r5(H:O M w0 w L D){P:au}{g:FuncId}{args:Array V}{K:aC}{d:List Nat}{x:Rx}(z:ah P g args w λr w'=>gL d w x r w'/\af w w')(hold:∀b∈d,∃g∈D,b∈g.fp)(A:∀(t:J) (w':I),t.rx=x->O M w0 w' L (D++[.tree t])->(∀b∈t.fp,w.heap.size<=b\/b∈d)->K (ab t.v) w'):e8 bs P g args w K:=
 kG (z.mono λr w' ⟨⟨t,j,k,q,e⟩,f⟩=>⟨f,by
  subst j;exact A t w' k (H.eO (.tree t) f q λb y=>(e b (aU.1 y)).imp id λh=>.inr (hold b h)) e⟩)
end
namespace oK
def aX:=bD (aA U Tryz.f108 [(6,lr 9),(8,lr 9),(13,lr 12)] [2,3]) [0,1,1,1,3] [(2,.l [.I,.Y,.Y,.s] aI),(3,.l [.I,.Y,.Y,.s] aI),(5,.s),(6,.s),(7,.I)]
abbrev t1:=bB aX
def cA:=bD t1 [0,1,1,1,4] [(2,.l [.I,.Y,.Y,.s] aI),(3,.l [.I,.Y,.Y,.s] aI),(8,.I)]
abbrev t2:=bB cA
abbrev bL:=ai t2 [5] [(2,.l [.I,.Y,.Y,.s] aI),(3,.l [.I,.Y,.Y,.s] aI)]
abbrev t3:=aj bL
def dU:=bO t3 cA
def bR:=bO t3 aX
def aq:=aB t3 FL [.a 4,.I,.Y,.Y,.s,.a 4,.I,.Y,.Y,.s]
end oK
def lQ{p:Addr}{K:Addr->Prop}(d:K p):ea (some p) K:=d
def DZ{x y:Int}(l:List Int)(d:x<y):ep (cI x y::l)=-1:=by unfold ep cI;simp[d]
def DY{x y:Int}(l:List Int)(d:y<x):ep (cI x y::l)=1:=by unfold ep cI;rw[ad (show ¬x<y by omega),ag d];simp
def DX{x y:Int}(l:List Int)(d:¬x<y)(e:¬y<x):ep (cI x y::l)=ep l:=by
 conv=>lhs;unfold ep cI
 rw[ad d,ad e];simp
abbrev VF(n:Nat):Prop:=∀(a b:J) (w:I),a.sz<=n->a.P w->b.P w->ah U FL #[a.v,b.v] w λr d=>r=ab (.int .i64 (bj a.rx b.rx))/\af w d
def JW:∀n:Nat,n<=1000000->VF n
 |0,_=>λa b C e _ _=>absurd e (by have:=J.nA a;omega)
 |n+1,hn=>λa b C e pa pb=>by
  have ih:=JW n io;have hs:=J.iK a;have hl:=J.gp a.l;have na:=J.cw pa.parts.1;have az:=J.cw pb.parts.1;have z:bj a.rx b.rx=if ep [cI a.k b.k,cI a.lo.toNat b.lo.toNat,cI a.hi.toNat b.hi.toNat]≠0 then ep [cI a.k b.k,cI a.lo.toNat b.lo.toNat,cI a.hi.toNat b.hi.toNat]else cmpL (J.ao a.l) (J.ao b.l):=by rw[J.fw a,J.fw b];unfold bj;rfl
  have ar:∀(d i:Nat) (q w:Nat) (H:I),i+d=a.l.length->i<=b.l.length->cmpL (J.ao (a.l.drop i)) (J.ao (b.l.drop i))=bj a.rx b.rx->O F0 C H [.g q,.g w] [.tree a,.tree b]->
    oK.cA q a.k a.lo.toNat a.hi.toNat a.s w b.k b.lo.toNat b.hi.toNat b.s (i:Int) H λr M=>r=ab (.int .i64 (bj a.rx b.rx))/\af C M:=by
   intro d;induction d with
   |zero=>
    intro i q w H ai an h B;rw[dH (by omega:a.l.length<=i)]at h;refine oK.dU (aT (a7 io) (aS (λe=>⟨?_,B.fr⟩) (λe=>aS (λj=>?_) (λj=>⟨?_,B.fr⟩))))
    .rw [dG (by omega:i<b.l.length)]at h;rw[<-h];rfl
    .omega
    .rw [dH (by omega:b.l.length<=i)]at h;rw[<-h];rfl
   |succ d ap=>
    intro i q w H ai an h B;have L:a.l[i]? =some (a.l[i]'io):=a0 io;rw[dG (by omega:i<a.l.length)]at h;generalize a.l[i]'io=x at L h;have aB:=J.eM (ay L);refine oK.dU (aR (a6 io) (aS (λaj=>⟨io,io,?_⟩) (λax=>aS (λe=>?_) (λe=>aS (λj=>⟨?_,B.fr⟩) (λj=>?_)))))
    .have ac:b.l[i]? =some (b.l[i]'io):=a0 io;rw[dG (by omega:i<b.l.length)]at h;generalize b.l[i]'io=y at ac h;refine J.a4 (show a.P H from B.getD 0).parts.1 L λp hp _=>B.ae λA D=>?_;have c:=J.again (show a.P A from D.getD 0).parts.1 L hp;refine⟨_,_,_,_,c.c0,c.c1,c.c2,c.c3,io,io,J.a4 (show b.P A from D.getD 1).parts.1 ac λaA hq W=>⟨_,_,_,_,W.c0,W.c1,W.c2,W.c3,D.av (ih x y A io ((show a.P A from D.getD 0).parts.2.get L) ((show b.P A from D.getD 1).parts.2.get ac)) ?_⟩⟩;rintro _ Y rfl E;have e2:cmpL (J.ao (x::a.l.drop (i+1))) (J.ao (y::b.l.drop (i+1)))=if bj x.rx y.rx≠0 then bj x.rx y.rx else cmpL (J.ao (a.l.drop (i+1))) (J.ao (b.l.drop (i+1))):=rfl;rw[e2]at h;refine⟨_,rfl,cq (λhc=>⟨?_,E.fr⟩) (λhc=>?_)⟩
     .rw [ag hc]at h;rw[h]
     .rw [ad (by simpa using hc)]at h;rw[bt _ io];exact ap (i+1) q w Y io io h E
    .omega
    .rw [dH (by omega:b.l.length<=i)]at h;rw[<-h];rfl
    .omega
  have Z:∀(c:UInt8),aE .i64 (c.toNat:Int)=(c.toNat:Int):=λc=>bH _ (by have:=c.toNat_lt;omega);refine oK.aq ((bZ [.tree a,.tree b] (by
   intro z h;simp only[aF,aW,a2]at h;rcases h with rfl|rfl
   .exact pa
   .exact pb)).aw λq H H1=>H1.aw λw N H2=>H2.nw λA _ D=>D.nw λY _ E=>?_)
  have E:O F0 C Y [.g q,.g w,.c N.heap.size [.int .i64 a.k,.int .i64 (aE .i64 (a.lo.toNat:Int)),.int .i64 (aE .i64 (a.hi.toNat:Int))] bF,.c A.heap.size [.int .i64 b.k,.int .i64 (aE .i64 (b.lo.toNat:Int)),.int .i64 (aE .i64 (b.hi.toNat:Int))] bF] [.tree a,.tree b]:=E;rw[Z,Z,Z,Z]at E;have step:∀(i:Nat) (x y:Int) (Q:I),i<3->([.int .i64 a.k,.int .i64 (a.lo.toNat:Int),.int .i64 (a.hi.toNat:Int)]:List V)[i]? =some (.int .i64 x)->([.int .i64 b.k,.int .i64 (b.lo.toNat:Int),.int .i64 (b.hi.toNat:Int)]:List V)[i]? =some (.int .i64 y)->
    O F0 C Q [.g q,.g w,.c N.heap.size [.int .i64 a.k,.int .i64 (a.lo.toNat:Int),.int .i64 (a.hi.toNat:Int)] bF,.c A.heap.size [.int .i64 b.k,.int .i64 (b.lo.toNat:Int),.int .i64 (b.hi.toNat:Int)] bF] [.tree a,.tree b]->
    (x<y->bj a.rx b.rx=-1)->(y<x->bj a.rx b.rx=1)->
    (¬x<y->¬y<x->∀S,O F0 C S [.g q,.g w,.c N.heap.size [.int .i64 a.k,.int .i64 (a.lo.toNat:Int),.int .i64 (a.hi.toNat:Int)] bF,.c A.heap.size [.int .i64 b.k,.int .i64 (b.lo.toNat:Int),.int .i64 (b.hi.toNat:Int)] bF] [.tree a,.tree b]->oK.aX q a.k a.lo.toNat a.hi.toNat a.s w b.k b.lo.toNat b.hi.toNat b.s ⟨some (aa N.heap.size),3,3⟩ ⟨some (aa A.heap.size),3,3⟩ ((i+1:Nat):Int) S λr M=>r=ab (.int .i64 (bj a.rx b.rx))/\af C M)->
    oK.aX q a.k a.lo.toNat a.hi.toNat a.s w b.k b.lo.toNat b.hi.toNat b.s ⟨some (aa N.heap.size),3,3⟩ ⟨some (aa A.heap.size),3,3⟩ (i:Int) Q λr M=>r=ab (.int .i64 (bj a.rx b.rx))/\af C M:=by
   intro i x y Q ai hx hy B aj am hk;have T:(i:Int)<((3:Nat):Int):=io
   refine oK.bR (aR (a6 io) ⟨io,T,lQ (B.ae λS F=>⟨x,?_,io,T,lQ ⟨y,?_,aS (λe=>⟨by rw[aj e],F.fr⟩) (λe=>⟨io,T,lQ (F.ae λw7 G=>⟨x,?_,io,T,lQ ⟨y,?_,aS (λj=>⟨by rw[am j],G.fr⟩) (λj=>?_)⟩⟩)⟩)⟩⟩)⟩)
   .rw [cb,Nat.mul_one];exact F.ld 2 i rfl hx
   .rw [cb,Nat.mul_one];exact F.ld 3 i rfl hy
   .rw [cb,Nat.mul_one];exact G.ld 2 i rfl hx
   .rw [cb,Nat.mul_one];exact G.ld 3 i rfl hy
   .rw [show aE .i64 ((i:Int)+1)=((i+1:Nat):Int)by rw[bH _ io];omega];exact hk e j w7 G
  show oK.aX _ _ _ _ _ _ _ _ _ _ _ _ ((0:Nat):Int) _ _;refine step 0 _ _ Y io rfl rfl E (λe=>by rw[z,DZ _ e];rfl) (λe=>by rw[z,DY _ e];rfl) (λK j Q H5=>?_);rw[DX _ K j]at z;refine step 1 _ _ Q io rfl rfl H5 (λe=>by rw[z,DZ _ e];rfl) (λe=>by rw[z,DY _ e];rfl) (λK j S F=>?_);rw[DX _ K j]at z;refine step 2 _ _ S io rfl rfl F (λe=>by rw[z,DZ _ e];rfl) (λe=>by rw[z,DY _ e];rfl) (λK j w7 G=>?_);rw[DX _ K j]at z;refine oK.bR (aT rfl (ar a.l.length 0 q w w7 io io ?_ (G.take 2)));rw[z];rfl
def r1(a b:J)(w:I)(d:a.sz<=1000000)(e:a.P w)(h:b.P w):ah U FL #[a.v,b.v] w λr j=>r=ab (.int .i64 (bj a.rx b.rx))/\af w j:=JW 1000000 (bz _) a b w d e h
namespace uG
abbrev P0:Ps:=[(1,.l [.I,.Y,.Y,.s] aI),(3,.I),(4,.I)]
def aX:=bD (aA U Tryz.f115 [] [1]) [0,1,1,1,2] P0
abbrev t1:=bB aX
abbrev bg:=ai t1 [2,2,1,1,2] P0
abbrev t2:=aj bg
def bR:=bO t2 aX
def aq:=aB t2 FN [.a 4,.I,.Y,.Y,.s]
end uG
namespace uH
abbrev P0:Ps:=[]
abbrev aV:=ai (aA U Tryz.f147 [(3,lr 30)] [1]) [0,1,1,1,3] P0
abbrev t1:=aj aV
abbrev bg:=ai t1 [0,1,1,1,4] P0
abbrev t2:=aj bg
def iv:=bD t2 [0,1,1,1,5] [(1,.l [.I,.Y,.Y,.s] aI),(5,.I)]
abbrev t3:=bB iv
def ox:=bO t3 iv
abbrev bL:=ai t3 [5] [(1,.l [.I,.Y,.Y,.s] aI)]
abbrev t4:=aj bL
def aq:=aB t4 N3 [.a 4,.I,.Y,.Y,.s]
end uH
namespace K3
def aq:=aB (aA U Tryz.f116 [] [1]) NZ [.a 4,.I,.Y,.Y,.s]
end K3
abbrev Vy(n:Nat):Prop:=∀(x:J) (w:I),x.sz<=n->x.P w->ah U FN #[x.v] w λr d=>r=ab (.int .i64 (x.sz:Int))/\af w d
def JB:∀n:Nat,n<=1000000->Vy n
 |0,_=>λe y z _=>absurd z (by have:=J.nA e;omega)
 |n+1,Q=>λe y z B=>by
  have G:=JB n io;have S:=J.iK e;have N:=J.gp e.l;have T:=J.cw B.parts.1;have loop:∀(d i m j:Nat) (h:I),i+d=e.l.length->m+J.a1 (e.l.drop i)=e.sz->O F0 y h [.g j] [.tree e]->uG.aX j e.k e.lo.toNat e.hi.toNat e.s (m:Int) (i:Int) h λr K=>r=ab (.int .i64 (e.sz:Int))/\af y K:=by
   intro d;induction d with
   |zero=>
    intro i m j h F q w;rw[dH io]at q;refine uG.bR (aT (a7 io) ⟨?_,w.fr⟩);have:m=e.sz:=q
    grind
   |succ d H=>
    intro i m j h F q w;have x:e.l[i]? =some (e.l[i]'io):=a0 io;rw[dG io]at q;generalize e.l[i]'io=a at x q;have M:m+(a.sz+J.a1 (e.l.drop (i+1)))=e.sz:=q;have A:=ay x;have W:=J.eM A;refine uG.bR (aR (a6 io) (j5 (show e.P h from w.getD 0) rfl x (w.av (G a h io ((show e.P h from w.getD 0).parts.2.mem A)) ?_)));rintro _ L rfl D;refine⟨_,rfl,?_⟩;show uG.aX _ _ _ _ _ _ _ _ _;rw[bt _ io,bH _ io];have E:((m:Int)+(a.sz:Int))=((m+a.sz:Nat):Int):=io
    rw[E];exact H (i+1) (m+a.sz) j L io io D
  exact uG.aq ((gT B).aw λj h C=>loop e.l.length 0 1 j h io (by grind) C)
def Dy(x:J)(w:I)(d:x.sz<=1000000)(e:x.P w):ah U FN #[x.v] w λr h=>r=ab (.int .i64 (x.sz:Int))/\af w h:=JB 1000000 (bz _) x w d e
def Ap(k:Nat):Int:=if 6<=k then 1 else 0
def AI(k:Nat):Int:=if k<3 then 0 else if k<6 then 64 else 1
def Z9{k:Nat}(d:k<8):([.i 0,.i 0,.i 0,.i 0,.i 0,.i 0,.i 1,.i 1]:List V)[k]? =some (.i (Ap k)):=by
 have:k=0\/k=1\/k=2\/k=3\/k=4\/k=5\/k=6\/k=7:=io
 rcases this with rfl|rfl|rfl|rfl|rfl|rfl|rfl|rfl<;>rfl
def aaO{k:Nat}(d:k<8):([.i 0,.i 0,.i 0,.i 64,.i 64,.i 64,.i 1,.i 1]:List V)[k]? =some (.i (AI k)):=by
 have:k=0\/k=1\/k=2\/k=3\/k=4\/k=5\/k=6\/k=7:=io
 rcases this with rfl|rfl|rfl|rfl|rfl|rfl|rfl|rfl<;>rfl
abbrev Vv(n:Nat):Prop:=∀(x:J) (w:I),x.sz<=n->x.P w->ah U N3 #[x.v] w λr d=>r=ab (.bool (cU x.rx))/\af w d
def JO:∀n:Nat,n<=64->Vv n
 |0,_=>λe y z _=>absurd z (by have:=J.nA e;omega)
 |n+1,hn=>λe y z Y=>by
  have ih:=JO n io;have hs:=J.iK e;have hl:=J.gp e.l;have nr:=J.cw Y.parts.1;have el:(J.ao e.l).length=e.s.n:=by rw[J.fY];grind
  have ee:(J.ao e.l).isEmpty=ak (e.s.n=0):=by grind
  have N:cU e.rx=(!(e.k !=2&&(e.lo !=0||e.hi !=0))&&(if e.k=0\/e.k=1 then(J.ao e.l).isEmpty else if e.k=2 then(J.ao e.l).isEmpty&&ak (e.lo.toNat<=e.hi.toNat)else if e.k=3\/e.k=4\/e.k=5 then dX (J.ao e.l)else if e.k=6\/e.k=7 then(J.ao e.l).length==1&&dX (J.ao e.l)else false)):=by rw[J.fw];unfold cU;rfl
  rw[ee,el]at N;have Z:∀u:UInt8,(u !=0)=ak (u.toNat≠0):=λu=>by rw[Bool.eq_iff_iff];simp only[bne_iff_ne,ne_eq,decide_eq_true_eq];exact not_congr ⟨λz=>by rw[z];rfl,λz=>UInt8.toNat_inj.1 (by grind)⟩
  rw[Z,Z]at N;have bad:∀{h:Nat} {w':I},cU e.rx=false->O F0 y w' [.g h,.c (0:Nat) [] bF] []->True:=λ_ _=>trivial
  let M:aC:=λr w'=>r=ab (.bool (cU e.rx))/\af y w'
  have loop:cU e.rx=dX (J.ao e.l)->∀(d i h:Nat) (j:I),i+d=e.l.length->dX (J.ao (e.l.drop i))=dX (J.ao e.l)->O F0 y j [.g h] [.tree e]->uH.iv h e.k e.lo.toNat e.hi.toNat e.s (i:Int) j M:=by
   intro K d;induction d with
   |zero=>
    intro i h j ac A C;rw[dH io]at A;refine uH.ox (aT (a7 io) ⟨?_,C.fr⟩);rw[K,<-A];rfl
   |succ d aj=>
    intro i h j ac A C;have F:e.l[i]? =some (e.l[i]'io):=a0 io;rw[dG io]at A;generalize e.l[i]'io=a at F A;have W:=ay F;have an:=J.eM W;have ag:(cU a.rx&&dX (J.ao (e.l.drop (i+1))))=dX (J.ao e.l):=A;refine uH.ox (aR (a6 io) (j5 (show e.P j from C.getD 0) rfl F (C.av (ih a j io ((show e.P j from C.getD 0).parts.2.mem W)) ?_)));rintro _ B rfl D;refine⟨_,rfl,eS (λQ=>⟨?_,D.fr⟩) (λht=>?_)⟩
    .grind
    .rw [bt _ io]
     grind
  refine uH.aq ((gT Y).aw λh j H1=>H1.nw λB _ D=>D.nw λw3 _ E=>?_);have no:∀w':I,O F0 y w' [.g h,.c j.heap.size [.i 0,.i 0,.i 0,.i 64,.i 64,.i 64,.i 1,.i 1] bF,.c B.heap.size [.i 0,.i 0,.i 0,.i 0,.i 0,.i 0,.i 1,.i 1] bF] [.tree e]->cU e.rx=false->(Ending.returned (.bool false)=ab (.bool (cU e.rx))/\af y w'):=λw' H' Q=>⟨by rw[Q],H'.fr⟩;refine aS (λk0=>O.ae E (λw q=>no w q ?_) us) (λk0=>aS (λk7=>O.ae E (λw q=>no w q ?_) us) (λk7=>?_))
  .grind
  .grind
  obtain⟨x,S⟩:=Int.eq_ofNat_of_zero_le (by omega:0<=e.k);have T:x<8:=io
  refine⟨io,io,(show ea (some (nb B)) _ from O.ae E (λw q=>⟨Ap x,?_,?_⟩) us)⟩
  .have:=O.ld (L:=[.g h,.c j.heap.size [.i 0,.i 0,.i 0,.i 64,.i 64,.i 64,.i 1,.i 1] bF,.c B.heap.size [.i 0,.i 0,.i 0,.i 0,.i 0,.i 0,.i 1,.i 1] bF]) q 2 x rfl (Z9 T);rw[S,cb,Nat.mul_one];omega
  refine aS (λG=>no w q ?_) (λG=>⟨io,io,(show ea (some (nb j)) _ from⟨AI x,?_,?_⟩)⟩)
  .unfold Ap at G
   grind
  .have:=O.ld (L:=[.g h,.c j.heap.size [.i 0,.i 0,.i 0,.i 64,.i 64,.i 64,.i 1,.i 1] bF,.c B.heap.size [.i 0,.i 0,.i 0,.i 0,.i 0,.i 0,.i 1,.i 1] bF]) q 1 x rfl (aaO T);rw[S,cb,Nat.mul_one];omega
  refine aS (λH=>no w q ?_) (λH=>?_)
  .unfold AI at H
   grind
  have ai:(x<3->e.s.n=0)/\(6<=x->e.s.n=1):=by unfold Ap at G;unfold AI at H;omega
  have H5:O F0 y w [.g h] [.tree e]:=O.take (L:=[.g h,.c j.heap.size [.i 0,.i 0,.i 0,.i 64,.i 64,.i 64,.i 1,.i 1] bF,.c B.heap.size [.i 0,.i 0,.i 0,.i 0,.i 0,.i 0,.i 1,.i 1] bF]) q 1;have am:x<3->dX (J.ao e.l)=true:=λz=>by
   have h0:(J.ao e.l).length=0:=io
   rw[List.length_eq_zero_iff.1 h0];rfl
  have go:cU e.rx=dX (J.ao e.l)->uH.bL h e.k e.lo.toNat e.hi.toNat e.s w M:=λK=>loop K e.l.length 0 h w io us H5;refine aS (λad=>no w q ?_) (λad=>cq (λk2=>aS (λaa=>no w q ?_) (λaa=>go ?_)) (λk2=>go ?_))
  .grind
  .grind
  .grind
  grind
def Xn(x:J)(w:I)(k:x.sz<=1000000)(y:x.P w):ah U NZ #[x.v] w λr z=>r=ab (.int .i64 (iM x.rx))/\af w z:=by
 refine K3.aq ((gT y).aw λC A h=>h.av (Dy x A k (h.getD 0)) ?_);rintro _ B rfl d;refine⟨_,rfl,aS (λq=>⟨?_,d.fr⟩) (λq=>d.av (JO 64 (bz _) x B io (d.getD 0)) ?_)⟩
 .unfold iM;rw[J.eu,ag io]
 rintro _ D rfl j;refine⟨_,rfl,eS (λe=>⟨?_,j.fr⟩) (λe=>⟨?_,j.fr⟩)⟩
 .unfold iM;rw[J.eu,ad io,e];rfl
 .unfold iM;rw[J.eu,ad io,e];rfl
def Cj{x:Rx}(d:iM x=0):cU x=true/\x.sz<=64:=by
 unfold iM at d
 grind
def L9:∀{l:List Rx} {a:Rx},dX l=true->a∈l->cU a=true
 |b::l,a,h,d=>by
  have e:(cU b&&dX l)=true:=h;rw[bf]at e;rcases aF.1 d with rfl|d
  .grind
  .exact L9 e.2 d
namespace KY
def aq:=aB (aA U Tryz.f51 [] [0]) pZ []
end KY
namespace qV
abbrev P0:Ps:=[(0,.s),(3,.l [.I,.Y,.Y,.s] aI),(5,.I)]
def aX:=bD (aA U Tryz.f109 [(2,lr 13),(4,lr 13),(7,(.sq [0,1,2,3,5] (.fork (ls [4,6,7,8]) (ls [6,4,7,8]))))] [3]) [0,2,2] P0
abbrev t1:=bB aX
abbrev cM:=ai t1 [6] [(0,.s),(5,.I),(6,.s)]
abbrev t2:=aj cM
abbrev bL:=ai t2 [4] P0
abbrev t3:=aj bL
abbrev bg:=ai t3 [3] P0
abbrev t4:=aj bg
def bR:=bO t4 aX
def aq:=aB t4 N8 [.s,.a 4,.I,.Y,.Y,.s]
end qV
namespace iC
abbrev aV:=ai (aA U Tryz.f81 [(9,lr 13),(25,lr 7),(27,lr 7)] [4,5,8,9]) [0,1,1,1,1,1,1,1,3] [(1,.s),(4,.l [.I,.Y,.Y,.s] aI)]
abbrev t1:=aj aV
abbrev P0:Ps:=[(0,.I),(1,.s),(4,.l [.I,.Y,.Y,.s] aI),(5,.l [.I,.Y,.Y,.s] aI),(6,.s),(7,.I)]
def cA:=bD t1 [0,1,1,1,5] P0
abbrev t2:=bB cA
abbrev bL:=ai t2 [2,2,1,1,5] P0
abbrev t3:=aj bL
abbrev P1:Ps:=[(0,.I),(4,.l [.I,.Y,.Y,.s] aI),(6,.s),(8,.l [.I,.Y,.Y,.s] aI),(9,.l [.I,.Y,.Y,.s] aI),(10,.s),(11,.I)]
def iv:=bD t3 [0,1,1,1,9] P1
abbrev t4:=bB iv
abbrev gw:=ai t4 [2,2,1,1,9] P1
abbrev t5:=aj gw
def ox:=bO t5 iv
def dU:=bO t5 cA
def aq:=aB t5 N5 [.I,.s]
end iC
namespace xb
def aX:=bD (aA U Tryz.f53 [] [1,2]) [0,1,1,1,3] [(1,.l [.I,.Y,.Y,.s] aI),(2,.l [.I,.Y,.Y,.s] aI),(3,.s),(4,.I)]
abbrev t1:=bB aX
def bR:=bO t1 aX
def aq:=aB t1 xI [.a 4,.I,.Y,.Y,.s]
end xb
namespace K5
def aq:=aB (aA U Tryz.f117 [] [1,2]) N2 [.a 4,.I,.Y,.Y,.s]
end K5
namespace KZ
def aq:=aB (aA U Tryz.f86 [] [1,2]) NV [.a 4,.I,.Y,.Y,.s]
end KZ
def mg:gg U dq aI (.agg #[.int .i64 0,.int .u8 0,.int .u8 0,.slice none 0 0]) 4 40:=⟨by kernel_rfl,by kernel_rfl,rfl,dl,dl⟩
def DD(w:I):ah U pZ #[] w λr h=>gv w eQ r h/\af w h:=by
 refine KY.aq ((bZ [] us).aw λb q j=>j.fe (n:=1) (sz:=4) (cs:=cu.c) rfl dl λy k=>k.ae λx e=>⟨⟨.mk 6 0 0 ⟨some (aa q.heap.size),1,1⟩ [cu],rfl,rfl,?_,λc d=>?_⟩,e.fr⟩)
 .unfold J.P J.Ps J.Ps;exact⟨(e.get 1:aJ _ _ _ _ _).a9,lM x,trivial⟩
 .unfold J.fp J.be J.be at d;rcases aP.1 d with d|d
  .exact (e.new _ (ay (i:=1) rfl) c (gY d)).resolve_right id
  .rcases aP.1 d with d|d
   .exact (lN d).elim
   grind
def hH(r:J):List J->List J
 |[]=>[r]
 |d::p=>if bj d.rx r.rx<0 then d::hH r p else if bj d.rx r.rx=0 then d::p else r::d::p
def RR(r:J):∀l:List J,(hH r l).map J.rx=mB r.rx (l.map J.rx)
 |[]=>rfl
 |d::p=>by
  unfold hH;rw[nr];unfold mB;split
  .rw [nr,RR r p]
  grind
def Bp{t r:J}:∀{p:List J},t∈hH r p->t=r\/t∈p
 |[],d=>by unfold hH at d;grind
 |e::p,d=>by
  unfold hH at d;split at d
  .rcases aF.1 d with rfl|d
   .simp
   .rcases Bp d with d|d<;>simp[d]
  grind
def RP(r:J):∀l:List J,J.a1 (hH r l)<=r.sz+J.a1 l
 |[]=>by show r.sz+0<=r.sz+0;omega
 |d::p=>by
  unfold hH;split
  .have:=RP r p;show d.sz+J.a1 (hH r p)<=r.sz+(d.sz+J.a1 p);omega
  .split
   .omega
   .exact bz _
def RO{r:J}:∀{l:List J} {k:Nat},k<=l.length->(∀h t,h<k->l[h]? =some t->bj t.rx r.rx<0)->(∀t,l[k]? =some t->¬bj t.rx r.rx<0)->
  (∀t,l[k]? =some t->bj t.rx r.rx=0->hH r l=l)/\((∀t,l[k]? =some t->bj t.rx r.rx≠0)->hH r l=l.take k++r::l.drop k)
 |[],k,q,d,e=>⟨λt x=>by grind,λ_=>by simp[hH]⟩
 |j::p,0,q,d,e=>by
  have:=e j rfl;unfold hH
  grind
 |j::p,k+1,q,d,e=>by
  have z:=d 0 j io rfl;have A:=RO (r:=r) (l:=p) (k:=k) (by grind) (λh t y w=>d (h+1) t io (by grind)) (λt w=>e t (by grind));unfold hH
  grind
def R5{w:I}{s:Sl}{l:List J}(d:bA 4 w s (l.flatMap J.c))(a b:Nat)(e:a<=b)(h:b<=l.length):bA 4 w (qs 4 s a b) (((l.take b).drop a).flatMap J.c):=by have j:=J.cw d;have:=d.sub a b e io;rw[KE,KL _ _ (by grind)]at this;omega
abbrev bW(s:Sl)(l:List J):J:=.mk 0 0 0 s l
def IW(d:List Nat)(w:I)(l:List J)(r:cZ)(w':I):Prop:=∃s:Sl,r=ab s.v/\(bW s l).P w'/\∀b∈(bW s l).fp,w.heap.size<=b\/b∈d
def dB{w:I}{s:Sl}{l:List J}:(bW s l).P w↔bA 4 w s (l.flatMap J.c)/\J.Ps w l:=by
 unfold bW J.P
 grind
def nc{s:Sl}{l:List J}{b:Nat}:b∈(bW s l).fp↔b∈(J.row s l).fp\/b∈J.be l:=by
 unfold bW J.fp
 grind
def Xi(s:Sl)(l:List J)(r:J)(w:I)(hl:J.a1 l<=100000)(hr:r.sz<=100000)(px:(bW s l).P w)(pr:r.P w):
  ah U N8 #[s.v,r.v] w λT y=>IW ((bW s l).fp++r.fp) w (hH r l) T y/\af w y:=by
 have nr:=J.cw (dB.1 px).1;have ll:=J.gp l
 let Z:aC:=λT y=>IW ((bW s l).fp++r.fp) w (hH r l) T y/\af w y
 have fin:∀(k:Nat) (sl:Sl) (L:List En) (i:Nat) (e:I),k<=l.length->hH r l=l.take k++r::l.drop k->L[i]? =some (.row aI 4 sl ((l.take k++[r]).flatMap J.c))->O F0 w e L [.tree (bW s l),.tree r]->
   qV.cM s (k:Int) sl e Z:=by
  intro k sl L i e A Q aj j;have az:(bW s l).P e:=j.getD 0;have S:=R5 (dB.1 az).1 k l.length A (bz _);rw[List.take_length]at S;have ap:aJ e aI 4 sl ((l.take k++[r]).flatMap J.c):=j.get i aj;have ac:=J.cw ap.a9;have aB:(l.take k++[r]).length=k+1:=by grind
  refine⟨io,io,?_⟩;obtain⟨E,y,G,h2,h3⟩:=j.eI (bs:=[]) i (ty:=dq) (K:=λE y=>∃L',L'[i]? =some (.row aI 4 E ((hH r l).flatMap J.c))/\O F0 w y L' [.tree (bW s l),.tree r]) mg (src:=qs 4 s k l.length) (news:=(l.drop k).flatMap J.c) aj S (uq _) (by show(sl.n+(l.length - k)) *40<=_;omega) (λE y H'=>⟨_,by
   grind,H'⟩)
  obtain⟨L',g1,F⟩:=h3;have e1:(aY (k:Int))=k:=rfl;refine⟨E,y,by rw[e1,nr];exact G,⟨E,rfl,dB.2 ⟨(F.get i g1:aJ _ _ _ _ _).a9,J.jL λt C=>?_⟩,λb N=>?_⟩,F.fr⟩
  .rcases Bp C with rfl|C
   .exact F.getD 1
   .exact (dB.1 (F.getD 0)).2.mem C
  .rcases nc.1 N with N|N
   .exact .inl ((F.new _ (ay g1) b (gY N)).resolve_right id)
   .obtain ⟨t,C,an⟩:=J.b0.1 N;rcases Bp C with rfl|C
    .grind
    .exact .inr (List.mem_append_left _ (nc.2 (.inr (J.b0.2 ⟨t,C,an⟩))))
 have s2:∀(k:Nat) (h:Nat) (e:I),k<=l.length->hH r l=l.take k++r::l.drop k->O F0 w e [.g h] [.tree (bW s l),.tree r]->qV.bL s h r.k r.lo.toNat r.hi.toNat r.s (k:Int) e Z:=by
  intro k h e A Q j;have aA:s.n<=s.c:=(dB.1 (show(bW s l).P e from j.getD 0)).1.2.1;have am:∀y:I,(bW s l).P y->bA 4 y (qs 4 s 0 k) ((l.take k).flatMap J.c):=λy ai=>R5 (dB.1 ai).1 0 k io A;have e1:(aY (k:Int))=k:=rfl;refine⟨io,io,j.ae λz q=>?_,j.ae λz q=>?_⟩
  .refine (q.iH aI 4).eI 1 mg (s:=⟨none,0,0⟩) (xs:=[]) (src:=qs 4 s 0 k) (news:=(l.take k).flatMap J.c) rfl (am z (q.getD 0)) (uq _) (by show(0+(k - 0)) *40<=_;omega) (λE H x=>?_);have x:O F0 w H [.g h,.row aI 4 E ((l.take k).flatMap J.c)] [.tree (bW s l),.tree r]:=x;have ac:=J.cw (x.get 1:aJ _ _ _ _ _).a9;rw[oa]at ac;refine x.jo 1 mg (xs:=(l.take k).flatMap J.c) rfl (λag w4 M=>?_) io;refine fin k ag _ 1 w4 A Q ?_ M;show some _=some _;rw[nW];rfl
  .refine q.fe (n:=1) (sz:=4) (cs:=r.c) rfl dl λH x=>?_;refine(x.iH aI 4).eI 2 mg (s:=⟨none,0,0⟩) (xs:=[]) (src:=qs 4 s 0 k) (news:=(l.take k).flatMap J.c) rfl (am H (x.getD 0)) (uq _) (by show(0+(k - 0)) *40<=_;omega) (λE w4 M=>?_);have M:O F0 w w4 [.g h,.row aI 4 ⟨some (aa z.heap.size),1,1⟩ r.c,.row aI 4 E ((l.take k).flatMap J.c)] [.tree (bW s l),.tree r]:=M;have ac:=J.cw (M.get 2:aJ _ _ _ _ _).a9;rw[oa]at ac;refine M.eI 2 mg (xs:=(l.take k).flatMap J.c) (src:=⟨some (aa z.heap.size),1,1⟩) (news:=r.c) rfl (M.get 1:aJ _ _ _ _ _).a9 (λu hu=>uq [r] u (by grind)) (by grind) (λag w5 H5=>?_);refine fin k ag _ 2 w5 A Q ?_ H5
   grind
 have s1:∀(k:Nat) (h:Nat) (e:I),k<=l.length->(∀D t,D<k->l[D]? =some t->bj t.rx r.rx<0)->(∀t,l[k]? =some t->¬bj t.rx r.rx<0)->O F0 w e [.g h] [.tree (bW s l),.tree r]->qV.bg s h r.k r.lo.toNat r.hi.toNat r.s (k:Int) e Z:=by
  intro k h e A G h2 j;obtain⟨g1,F⟩:=RO A G h2;refine aS (λao=>?_) (λao=>j.ae λz q=>s2 k h z A (F λt C=>by grind) q);have B:l[k]? =some l[k]:=a0 io;generalize l[k]'io=t at B;have W:=ay B;refine⟨io,io,J.a4 (dB.1 (show(bW s l).P e from j.getD 0)).1 B λp S _=>j.ae λz q=>?_⟩;have Y:(bW s l).P z:=q.getD 0;have c:=J.again (dB.1 Y).1 B S;refine⟨_,_,_,_,c.c0,c.c1,c.c2,c.c3,q.av (r1 t r z (by have:=J.eM W;omega) ((dB.1 Y).2.mem W) (q.getD 1)) ?_⟩;rintro _ H rfl x;refine⟨_,rfl,ax (λh0=>⟨⟨s,rfl,?_,λb N=>.inr ?_⟩,x.fr⟩) (λh0=>s2 k h H A (F λt' ad=>by grind) x)⟩
  .rw [g1 t B h0];exact x.getD 0
  grind
 have loop:∀(d k:Nat) (h:Nat) (e:I),k+d=l.length->(∀D t,D<k->l[D]? =some t->bj t.rx r.rx<0)->O F0 w e [.g h] [.tree (bW s l),.tree r]->qV.aX s h r.k r.lo.toNat r.hi.toNat r.s (k:Int) e Z:=by
  intro d;induction d with
  |zero=>
   intro k h e A G j;exact qV.bR (aT (a7 io) (j.ae λz q=>s1 k h z io G (λt C=>by grind) q))
  |succ d ar=>
   intro k h e A G j;have B:l[k]? =some l[k]:=a0 io;generalize l[k]'io=t at B;have W:=ay B;refine qV.bR (aR (a6 io) ⟨io,io,J.a4 (dB.1 (show(bW s l).P e from j.getD 0)).1 B λp S _=>j.ae λz q=>?_⟩);have Y:(bW s l).P z:=q.getD 0;have c:=J.again (dB.1 Y).1 B S;refine⟨_,_,_,_,c.c0,c.c1,c.c2,c.c3,q.av (r1 t r z (by have:=J.eM W;omega) ((dB.1 Y).2.mem W) (q.getD 1)) ?_⟩;rintro _ H rfl x;refine⟨_,rfl,aS (λh0=>?_) (λh0=>s1 k h H io G (λt' ad=>by grind) x)⟩;rw[bt _ io];refine ar (k+1) h H io (λD t' hq ad=>?_) x;by_cases T:D=k
   .grind
   .exact G D t' io ad
 exact qV.aq ((bZ [.tree (bW s l),.tree r] (by
  intro T Q;simp only[aF,aW,a2]at Q;rcases Q with rfl|rfl
  .exact px
  .exact pr)).aw λh e H1=>loop l.length 0 h e io (λD t ai=>io) H1)
def GN(k:Int)(t:Rx):∀(l out:List Rx),hF k out (l++[t])=if k=3 then hF k out l++[t]else mB t (hF k out l)
 |[],out=>by show hF k (if k=3 then out++[t]else mB t out) []=_;unfold hF;rfl
 |a::l,out=>by show hF k (if k=3 then out++[a]else mB a out) (l++[t])=_;rw[GN k t l];rfl
def ae0(x d:J)(y:x.k=3\/x.k=4\/x.k=5)(q:d.rx=eQ):∃(j:Nat) (u h:J),aE .i64 (x.k - 3)=(j:Int)/\j<3/\[fR,cu,d][j]? =some u/\[cu,d,cu][j]? =some h/\(u=fR\/u=cu\/u=d)/\(h=cu\/h=d)/\u.rx≠h.rx/\
  ie (.mk x.k 0 0 (J.ao x.l))=g7 x.k (J.ao x.l) u.rx h.rx:=by
 rcases y with w|w|w<;>rw[w]
 .exact ⟨0,fR,cu,dl,dl,rfl,rfl,.inl rfl,.inl rfl,(by intro e;cases e),rfl⟩
 .exact ⟨1,cu,d,dl,dl,rfl,rfl,.inr (.inl rfl),.inr rfl,(by rw[q];intro e;cases e),by rw[q];rfl⟩
 .exact ⟨2,d,cu,dl,dl,rfl,rfl,.inr (.inr rfl),.inl rfl,(by rw[q];intro e;cases e),by rw[q];rfl⟩
section
variable {x ev u z:J} {sf:Sl} {w:I} {b4 b8 b9:Nat}
def acT(hx:x.sz<=10000)(bg:ev.rx=eQ)(bn:∀b∈ev.fp,w.heap.size<=b)(hu:u=fR\/u=cu\/u=ev)(aL:z=cu\/z=ev)(aV:u.rx≠z.rx)(aG:ie (.mk x.k 0 0 (J.ao x.l))=g7 x.k (J.ao x.l) u.rx z.rx){j:I}(H:O F0 w j [.g b4,.g b8,.g b9] [.tree x,.tree ev,.tree (bW sf (x.l.flatMap (ff x)))]):
  iC.iv x.k b4 0 0 0 ⟨none,0,0⟩ sf b8 u.k u.lo.toNat u.hi.toNat u.s b9 z.k z.lo.toNat z.hi.toNat z.s ⟨none,0,0⟩ 0 j λr A=>gL x.fp w (ie (.mk x.k 0 0 (J.ao x.l))) r A/\af w A:=by
 let R:aC:=λr A=>gL x.fp w (ie (.mk x.k 0 0 (J.ao x.l))) r A/\af w A
 have aK:Sub x (x.l.flatMap (ff x)):=Sub.flat λ_ aa=>aa;have aQ:J.a1 (x.l.flatMap (ff x))<=J.a1 x.l:=vY x x.l;have an:((x.l.flatMap (ff x)).map J.rx).filter (λt=>!(bj t u.rx==0))=hB x.k (J.ao x.l) u.rx:=by rw[<-xh];unfold gO;rw[List.filter_map];rfl
 generalize x.l.flatMap (ff x)=fl at H aK aQ an;have az:=aK;have bk:=J.iK x;have bi:J.a1 fl<=10000:=io
 have bl:=J.gp fl;have nr:sf.n=fl.length:=J.cw (dB.1 (show(bW sf fl).P j from H.getD 2)).1;have aA:∀A,ev.P A->u.P A:=λA aa=>by
  rcases hu with rfl|rfl|rfl
  .exact zV A
  .exact lM A
  omega
 have aq:∀A,ev.P A->z.P A:=λA aa=>by
  rcases aL with rfl|rfl
  .exact lM A
  omega
 have aS:∀b∈u.fp,w.heap.size<=b:=λb e=>by
  rcases hu with rfl|rfl|rfl
  .exact (zW e).elim
  .exact (lN e).elim
  grind
 have aM:∀b∈z.fp,w.heap.size<=b:=λb e=>by
  rcases aL with rfl|rfl
  .exact (lN e).elim
  grind
 have aB:∀t∈fl,t.rx=z.rx->ie (.mk x.k 0 0 (J.ao x.l))=z.rx:=λt ht ac=>by rw[aG];unfold g7;rw[ag];rw[List.any_eq_true];refine⟨t.rx,?_,r7.2 ac⟩;rw[<-an,List.mem_filter];exact⟨dn.2 ⟨t,ht,rfl⟩,Kt.2 (ac▸λaa=>aV aa.symm)⟩
 have aO:(∀t∈fl,t.rx≠z.rx)->ie (.mk x.k 0 0 (J.ao x.l))=uT x.k u.rx (hF x.k [] ((fl.map J.rx).filter λt=>!(bj t u.rx==0))):=λaa=>by
  rw[aG,ab2,an];unfold g7;rw[ad]
  .rfl
  .rw [List.any_eq_true];rintro⟨t,ht,he⟩;rw[<-an,List.mem_filter]at ht;obtain⟨Y,y,rfl⟩:=dn.1 ht.1;exact aa Y y (r7.1 he)
 have fin:∀(h:List J) (q:Sl) (L D:List En) (j:I),(∀t∈fl,t.rx≠z.rx)->h.map J.rx=hF x.k [] ((fl.map J.rx).filter λt=>!(bj t u.rx==0))->(∀t∈h,t∈fl)->O F0 w j L (.tree x::.tree ev::D)->(∀b∈[b4,b8,b9],En.g b∈L)->(∀A,O F0 w A L (.tree x::.tree ev::D)->bA 4 A q (h.flatMap J.c)/\∀b∈(J.row q h).fp,w.heap.size<=b\/b∈x.fp)->
   bK ((q.n:Int)==0) (loc [b4,b8,b9] j λbb=>R (ab u.v) bb) (bK ((q.n:Int)==1) (ow q 0 λp=>jA j (p.add (aY 0 *4)) λa b c d=>loc [b4,b8,b9] j λbc=>R (ab (.agg #[.i a,.int .u8 b,.int .u8 c,d.v])) bc) (loc [b4,b8,b9] j λbd=>R (ab (.agg #[.i x.k,.int .u8 0,.int .u8 0,q.v])) bd)):=by
  intro h q L D j W K T H e aH;have hr:=aH j H;have bp:=J.cw hr.1;have ej:=aO W;rw[<-K]at ej;have ap:Sub x h:=az.sub T;refine ax (λS=>H.ae (λF B=>⟨⟨u,rfl,?_,aA F (B.getD 1),λb e=>.inl (aS b e)⟩,B.fr⟩) e) (λS=>ax (λh1=>?_) (λh1=>H.ae (λF B=>⟨⟨.mk x.k 0 0 q h,rfl,?_,?_,λb e=>?_⟩,B.fr⟩) e))
  .have:h=[]:=List.length_eq_zero_iff.1 io;rw[ej,this];rfl
  .obtain ⟨a,rfl⟩:=List.length_eq_one_iff.1 (show h.length=1 by omega);refine⟨io,io,J.a4 hr.1 (i:=0) (t:=a) rfl λp M c=>⟨_,_,_,_,c.c0,c.c1,c.c2,c.c3,H.ae (λF B=>⟨⟨a,rfl,?_,ap.P _ (B.getD 0) a us,λb e=>.inr (ap.fp a us b e)⟩,B.fr⟩) e⟩⟩;rw[ej];rfl
  .rw [ej];unfold J.rx;rw[J.fY];cases h with
   |nil=>grind
   |cons a ks=>
    cases ks with
    |nil=>grind
    |cons b ks=>rfl
  .unfold J.P;exact⟨(aH F B).1,ap.Ps (B.getD 0)⟩
  .unfold J.fp at e;rcases aP.1 e with e|e
   .grind
   .exact .inr (ap.be e)
 have aX:x.k=3->∀(d i:Nat) (q:Sl) (h:List J) (j:I),i+d=fl.length->(∀t∈fl.take i,t.rx≠z.rx)->h.map J.rx=hF x.k [] (((fl.take i).map J.rx).filter λt=>!(bj t u.rx==0))->(∀t∈h,t∈fl)->J.a1 h<=J.a1 (fl.take i)->
   O F0 w j [.g b4,.g b8,.g b9,.row aI 4 q (h.flatMap J.c)] [.tree x,.tree ev,.tree (bW sf fl)]->iC.iv x.k b4 0 0 0 ⟨none,0,0⟩ sf b8 u.k u.lo.toNat u.hi.toNat u.s b9 z.k z.lo.toNat z.hi.toNat z.s q (i:Int) j R:=by
  intro hk d;induction d with
  |zero=>
   intro i q h j ar W K T hs H;rw[fW io]at W K;refine iC.ox (aT (a7 io) ?_);exact fin h q _ _ j W K T H us (λA H'=>⟨(H'.get 3:aJ _ _ _ _ _).a9,λb e=>.inl ((H'.new _ (ay (i:=3) rfl) b (gY e)).resolve_right id)⟩)
  |succ d am=>
   intro i q h j ar W K T hs H;have C:fl[i]? =some fl[i]:=a0 io;generalize fl[i]'io=t at C;have E:=ay C;have ba:=J.eM E;have ai:fl.take (i+1)=fl.take i++[t]:=by rw[ha,C];rfl
   have a5:J.a1 (fl.take (i+1))=J.a1 (fl.take i)+t.sz:=by rw[ai,vX];rfl
   have a8:=BZ fl (i+1);refine iC.ox (aR (a6 io) ⟨io,io,J.a4 (dB.1 (show(bW sf fl).P j from H.getD 2)).1 C λp M _=>H.ae λF B=>?_⟩);have p2:(bW sf fl).P F:=B.getD 2;have N:=J.again (dB.1 p2).1 C M;refine⟨_,_,_,_,N.c0,N.c1,N.c2,N.c3,B.av (r1 t z F io ((dB.1 p2).2.mem E) (aq F (B.getD 1))) ?_⟩;rintro _ w3 rfl Z;refine⟨_,rfl,ax (λS=>Z.ae λw4 H4=>⟨⟨z,rfl,?_,aq w4 (H4.getD 1),λb e=>.inl (aM b e)⟩,H4.fr⟩) (λS=>?_)⟩
   .exact (aB t E (wS.1 S)).symm
   refine⟨io,io,J.a4 (dB.1 (show(bW sf fl).P w3 from Z.getD 2)).1 C λp M _=>Z.ae λw5 H5=>?_⟩;have p5:(bW sf fl).P w5:=H5.getD 2;have Q:=J.again (dB.1 p5).1 C M;refine⟨_,_,_,_,Q.c0,Q.c1,Q.c2,Q.c3,H5.av (r1 t u w5 io ((dB.1 p5).2.mem E) (aA w5 (H5.getD 1))) ?_⟩;rintro _ w6 rfl G;have aj:∀Y∈fl.take (i+1),Y.rx≠z.rx:=λY y=>by
    rw[ai]at y;rcases aP.1 y with y|y
    .grind
    .simp at y;subst y;exact λac=>S (wS.2 ac)
   refine⟨_,rfl,ax (λh1=>?_) (λh1=>aR (beq_iff_eq.2 hk) ?_)⟩
   .show iC.iv _ _ _ _ _ _ _ _ _ _ _ _ _ _ _ _ _ _ _ _ _;rw[bt _ io];refine am (i+1) q h w6 io aj ?_ T io G
    grind
   .have ef:((fl.take (i+1)).map J.rx).filter (λt=>!(bj t u.rx==0))=(((fl.take i).map J.rx).filter λt=>!(bj t u.rx==0))++[t.rx]:=by grind
    refine⟨io,io,J.a4 (dB.1 (show(bW sf fl).P w6 from G.getD 2)).1 C λp M c=>⟨_,_,_,_,c.c0,c.c1,c.c2,c.c3,?_⟩⟩;have bo:=J.cw (G.get 3:aJ _ _ _ _ _).a9;have bm:=J.gp h;refine G.jo 3 mg (xs:=h.flatMap J.c) rfl (λs' w7 H7=>?_) io;show iC.iv _ _ _ _ _ _ _ _ _ _ _ _ _ _ _ _ _ _ _ _ _;rw[bt _ io];refine am (i+1) s' (h++[t]) w7 io aj ?_ (λY y=>?_) (by rw[vX];show _+(t.sz+0)<=_;omega) ?_
    .rw [ef,GN,ag hk,fv,K];rfl
    .rcases aP.1 y with y|y
     .grind
     grind
    .rw [nW];exact H7
 have aZ:x.k≠3->∀(d i:Nat) (q:Sl) (h:List J) (j:I),i+d=fl.length->(∀t∈fl.take i,t.rx≠z.rx)->h.map J.rx=hF x.k [] (((fl.take i).map J.rx).filter λt=>!(bj t u.rx==0))->(∀t∈h,t∈fl)->J.a1 h<=J.a1 (fl.take i)->(∀b∈(bW q h).fp,w.heap.size<=b\/b∈x.fp)->
   O F0 w j [.g b4,.g b8,.g b9] [.tree x,.tree ev,.tree (bW sf fl),.tree (bW q h)]->iC.iv x.k b4 0 0 0 ⟨none,0,0⟩ sf b8 u.k u.lo.toNat u.hi.toNat u.s b9 z.k z.lo.toNat z.hi.toNat z.s q (i:Int) j R:=by
  intro hk d;induction d with
  |zero=>
   intro i q h j ar W K T hs aw H;rw[fW io]at W K;refine iC.ox (aT (a7 io) ?_);exact fin h q _ _ j W K T H us (λA H'=>⟨(dB.1 (show(bW q h).P A from H'.getD 3)).1,λb e=>aw b (nc.2 (.inl e))⟩)
  |succ d am=>
   intro i q h j ar W K T hs aw H;have C:fl[i]? =some fl[i]:=a0 io;generalize fl[i]'io=t at C;have E:=ay C;have ba:=J.eM E;have ai:fl.take (i+1)=fl.take i++[t]:=by rw[ha,C];rfl
   have a5:J.a1 (fl.take (i+1))=J.a1 (fl.take i)+t.sz:=by rw[ai,vX];rfl
   have a8:=BZ fl (i+1);refine iC.ox (aR (a6 io) ⟨io,io,J.a4 (dB.1 (show(bW sf fl).P j from H.getD 2)).1 C λp M _=>H.ae λF B=>?_⟩);have p2:(bW sf fl).P F:=B.getD 2;have N:=J.again (dB.1 p2).1 C M;refine⟨_,_,_,_,N.c0,N.c1,N.c2,N.c3,B.av (r1 t z F io ((dB.1 p2).2.mem E) (aq F (B.getD 1))) ?_⟩;rintro _ w3 rfl Z;refine⟨_,rfl,ax (λS=>Z.ae λw4 H4=>⟨⟨z,rfl,?_,aq w4 (H4.getD 1),λb e=>.inl (aM b e)⟩,H4.fr⟩) (λS=>?_)⟩
   .exact (aB t E (wS.1 S)).symm
   refine⟨io,io,J.a4 (dB.1 (show(bW sf fl).P w3 from Z.getD 2)).1 C λp M _=>Z.ae λw5 H5=>?_⟩;have p5:(bW sf fl).P w5:=H5.getD 2;have Q:=J.again (dB.1 p5).1 C M;refine⟨_,_,_,_,Q.c0,Q.c1,Q.c2,Q.c3,H5.av (r1 t u w5 io ((dB.1 p5).2.mem E) (aA w5 (H5.getD 1))) ?_⟩;rintro _ w6 rfl G;have aj:∀Y∈fl.take (i+1),Y.rx≠z.rx:=λY y=>by
    rw[ai]at y;rcases aP.1 y with y|y
    .grind
    .simp at y;subst y;exact λac=>S (wS.2 ac)
   refine⟨_,rfl,ax (λh1=>?_) (λh1=>aT (by grind) ?_)⟩
   .show iC.iv _ _ _ _ _ _ _ _ _ _ _ _ _ _ _ _ _ _ _ _ _;rw[bt _ io];refine am (i+1) q h w6 io aj ?_ T io aw G
    grind
   .have ef:((fl.take (i+1)).map J.rx).filter (λt=>!(bj t u.rx==0))=(((fl.take i).map J.rx).filter λt=>!(bj t u.rx==0))++[t.rx]:=by grind
    refine⟨io,io,J.a4 (dB.1 (show(bW sf fl).P w6 from G.getD 2)).1 C λp M c=>⟨_,_,_,_,c.c0,c.c1,c.c2,c.c3,?_⟩⟩;refine kG ((Xi q h t w6 io io (G.getD 3) ((dB.1 (show(bW sf fl).P w6 from G.getD 2)).2.mem E)).mono ?_);rintro _ w7 ⟨⟨s',rfl,a3,aN⟩,f7⟩;refine⟨f7,?_⟩;have a2:∀b∈(bW s' (hH t h)).fp,w.heap.size<=b\/b∈x.fp:=λb e=>by
     rcases aN b e with e|e
     .exact .inl (bI G.fr.size e)
     .rcases aP.1 e with e|e
      .grind
      .exact .inr (az.fp t E b e)
    have H8:O F0 w w7 [.g b4,.g b8,.g b9] [.tree x,.tree ev,.tree (bW sf fl),.tree (bW q h),.tree (bW s' (hH t h))]:=G.eO _ f7 a3 λb e=>by
     rcases aN b (aU.1 e)with e|e
     .omega
     .rcases aP.1 e with e|e
      .exact .inr (.inr ⟨_,ay (i:=3) rfl,aU.2 e⟩)
      .exact .inr (.inr ⟨_,ay (i:=0) rfl,aU.2 (az.fp t E b e)⟩)
    refine⟨s',rfl,?_⟩;show iC.iv _ _ _ _ _ _ _ _ _ _ _ _ _ _ _ _ _ _ _ _ _;rw[bt _ io];refine am (i+1) s' (hH t h) w7 io aj ?_ (λY y=>?_) (by have:=RP t h;omega) a2 (H8.forget _ us)
    .rw [ef,GN,ad hk,RR,K]
    .rcases Bp y with rfl|y
     .exact E
     grind
 by_cases hk:x.k=3
 .exact aX hk fl.length 0 ⟨none,0,0⟩ [] j io us (by simp[hF]) us (by grind) (H.iH aI 4)
 .refine aZ hk fl.length 0 ⟨none,0,0⟩ [] j io us (by simp[hF]) us (by grind) (λb e=>?_) (H.eO (.tree (bW ⟨none,0,0⟩ [])) (Fr.refl _ _) (dB.2 ⟨bA.nil 4 j,by unfold J.Ps;trivial⟩) λb e=>?_)
  .rcases nc.1 e with e|e
   .simp [J.row,En.a9]at e
   .unfold J.be at e;cases e
  .rcases nc.1 (aU.1 e)with e|e
   .simp [J.row,En.a9]at e
   .unfold J.be at e;cases e
end
def Xo(x:J)(hk:3<=x.k/\x.k<=7)(hx:x.sz<=10000)(N:lG (.mk x.k 0 0 (J.ao x.l))=true)(aN:∀c∈x.l,0<=c.k)(w:I)(px:x.P w):
  ah U N5 #[.i x.k,x.s.v] w λr w'=>gL x.fp w (ie (.mk x.k 0 0 (J.ao x.l))) r w'/\af w w':=by
 have nr:=J.cw px.parts.1;have bc:=J.iK x;have a5:=J.gp x.l;refine iC.aq ((gT px).aw λG F H1=>H1.g5 (DD F) ?_);rintro _ w2 ⟨j,rfl,am,aZ,aC⟩ H2 F2;have H3:O F0 w w2 [.g G] [.tree x,.tree j]:=F2.rd (.tree j) aZ λb h=>aC b (aU.1 h);have aX:∀b∈j.fp,w.heap.size<=b:=λb h=>bI H1.fr.size (aC b h);have pc:∀{w':I} {c:J},x.P w'->x.l[0]? =some c->c.P w':=λai e=>ai.parts.2.mem (ay e);have fc:∀{c:J},x.l[0]? =some c->∀b∈c.fp,b∈x.fp:=λe b h=>J.gP.2 (.inr (J.b0.2 ⟨_,ay e,h⟩));refine⟨_,_,_,j.s,rfl,H3.aw λK w3 D=>ax (λY=>?_) (λY=>ax (λh7=>?_) (λh7=>D.ae λM B=>?_))⟩
 .
  cases S:x.l with
  |nil=>rw[S,Y]at N;simp[lG,J.ao]at N
  |cons c C=>
   have e:x.l[0]? =some c:=by grind
   have n2:0<x.s.n:=by grind
   have e1:J.ao (c::C)=c.rx::J.ao C:=rfl;have ef:ie (.mk x.k 0 0 (J.ao (c::C)))=ra 0 0 (c.rx::J.ao C):=by rw[Y];rfl
   rw[ef];refine⟨io,io,J.a4 (show x.P w3 from D.getD 0).parts.1 e λp A _=>D.ae λw5 B=>?_⟩;have Q:x.P w5:=B.getD 0;have y:=J.again Q.parts.1 e A;refine⟨c.k,y.c0,ax (λaj=>⟨io,io,J.a4 Q.parts.1 e λp A y=>⟨c.s,y.c3,?_⟩⟩) (λaj=>B.ae λz q=>⟨⟨.mk 6 0 0 x.s x.l,rfl,?_,?_,λb h=>.inr ?_⟩,q.fr⟩)⟩
   .cases aA:c.l with
    |nil=>
     rw[S,e1]at N;have e2:c.rx.l.isEmpty=true:=by rw[yr,aA];rfl
     simp[lG,Y,mE,aj,e2]at N
    |cons d l2=>
     have an:c.l[0]? =some d:=by grind
     refine j5 (pc Q e) rfl an (B.ae λz q=>⟨⟨d,rfl,?_,(pc (q.getD 0) e).parts.2.mem (ay an),λb h=>.inr (fc e b (J.gP.2 (.inr (J.b0.2 ⟨d,ay an,h⟩))))⟩,q.fr⟩);show d.rx=if c.rx.k=6 then _ else _;rw[ag (by rw[mE,aj]),yr,aA];rfl
   .show Rx.mk 6 0 0 (J.ao x.l)=if c.rx.k=6 then _ else _;rw[ad (by rw[mE];omega),S,e1]
   .unfold J.P;exact(show x.P z from q.getD 0).parts
   .unfold J.fp at h;exact J.gP.2 (aP.1 h)
 .
  cases S:x.l with
  |nil=>rw[S,h7]at N;simp[lG,J.ao]at N
  |cons c C=>
   have e:x.l[0]? =some c:=by grind
   have n2:0<x.s.n:=by grind
   have e1:J.ao (c::C)=c.rx::J.ao C:=rfl;have ef:ie (.mk x.k 0 0 (J.ao (c::C)))=mH 0 0 (c.rx::J.ao C):=by rw[h7];rfl
   rw[ef];have aG:mH 0 0 (c.rx::J.ao C)=if c.k=0\/c.k=1 then oG else if c.k=7\/bj c.rx eQ=0 then c.rx else .mk 7 0 0 (c.rx::J.ao C):=by unfold mH;simp only[mE]
   have a2:c.sz<=1000000:=by have:=J.eM (ay e);omega
   have s0:∀(z:I),¬(c.k=0\/c.k=1)->(c.k=7\/bj c.rx eQ=0)->O F0 w z [.g G,.g K] [.tree x,.tree j]->iC.aV x.s G 0 0 0 ⟨none,0,0⟩ z λr w'=>gL x.fp w (mH 0 0 (c.rx::J.ao C)) r w'/\af w w':=by
    intro z h1 h2 q;refine⟨io,io,J.a4 (show x.P z from q.getD 0).parts.1 e λp A y=>⟨_,_,_,_,y.c0,y.c1,y.c2,y.c3,(q.take 1).ae λw7 E=>⟨⟨c,rfl,?_,pc (E.getD 0) e,λb h=>.inr (fc e b h)⟩,E.fr⟩⟩⟩
    grind
   refine⟨io,io,J.a4 (show x.P w3 from D.getD 0).parts.1 e λp A _=>D.ae λw5 B=>?_⟩;have Q:x.P w5:=B.getD 0;have y:=J.again Q.parts.1 e A;have a3:0<=c.k:=aN c (ay e);refine⟨c.k,y.c0,aS (λh2=>B.ae λz q=>⟨⟨fR,rfl,?_,zV z,λb h=>(zW h).elim⟩,q.fr⟩) (λh2=>?_)⟩
   .rw [aG,ag io];rfl
   refine⟨io,io,J.a4 Q.parts.1 e λp A _=>B.ae λz q=>?_⟩;have ap:x.P z:=q.getD 0;have y:=J.again ap.parts.1 e A;refine⟨c.k,y.c0,ax (λaz=>s0 z io (.inl az) q) (λaz=>⟨io,io,J.a4 ap.parts.1 e λp A y=>⟨_,_,_,_,y.c0,y.c1,y.c2,y.c3,q.av (r1 c j z a2 (pc ap e) (q.getD 1)) ?_⟩⟩)⟩;rintro _ w7 rfl E;rw[am];refine⟨_,rfl,ax (λh0=>s0 w7 io (.inr h0) E) (λh0=>E.ae λw8 W=>⟨⟨.mk 7 0 0 x.s x.l,rfl,?_,?_,λb h=>.inr ?_⟩,W.fr⟩)⟩
   .show Rx.mk 7 0 0 (J.ao x.l)=_
    grind
   .unfold J.P;exact(show x.P w8 from W.getD 0).parts
   .unfold J.fp at h;exact J.gP.2 (aP.1 h)
 .
  have aH:x.k=3\/x.k=4\/x.k=5:=io
  obtain⟨bg,u,bl,ew,hj,gu,gz,hu,aQ,aO,aK⟩:=ae0 x j aH am;have loop:∀(d i:Nat) (acc:List J) (sl:Sl) (F:I),i+d=x.l.length->acc=(x.l.take i).flatMap (ff x)->O F0 w F [.g G,.g K,.row aI 4 sl (acc.flatMap J.c)] [.tree x,.tree j]->
    iC.cA x.k x.s G 0 0 0 ⟨none,0,0⟩ K j.k j.lo.toNat j.hi.toNat j.s sl (i:Int) F λr w'=>gL x.fp w (ie (.mk x.k 0 0 (J.ao x.l))) r w'/\af w w':=by
   intro d;induction d with
   |zero=>
    intro i acc sl F aL Z H;rw[fW io]at Z;subst Z;have aB:Sub x (x.l.flatMap (ff x)):=Sub.flat λ_ ai=>ai;have T:=(H.eO (.trees (x.l.flatMap (ff x))) (Fr.refl _ _) (aB.Ps (H.getD 0)) (λb h=>.inr (.inr ⟨_,ay (i:=0) rfl,aU.2 (aB.be (aU.1 h))⟩))).td 2 2 0 0 0;have T:O F0 w F [.g G,.g K] [.tree x,.tree j,.tree (bW sl (x.l.flatMap (ff x)))]:=T.forget _ us;refine iC.dU (aT (a7 io) ?_);refine T.fe (n:=3) (sz:=4) (cs:=[fR,cu,j].flatMap J.c) rfl dl λw2 H2=>?_;rw[ew];refine⟨io,io,J.a4 (s:=⟨some (aa F.heap.size),3,3⟩) (l:=[fR,cu,j]) (H2.get 2:aJ _ _ _ _ _).a9 gu λp A c=>⟨_,_,_,_,c.c0,c.c1,c.c2,c.c3,H2.aw λb8 w3 H3=>H3.ae λM D=>D.fe (n:=3) (sz:=4) (cs:=[cu,j,cu].flatMap J.c) rfl dl λw5 B=>⟨io,io,J.a4 (s:=⟨some (aa M.heap.size),3,3⟩) (l:=[cu,j,cu]) (B.get 4:aJ _ _ _ _ _).a9 gz λp A c=>⟨_,_,_,_,c.c0,c.c1,c.c2,c.c3,B.aw λb9 z q=>q.ae λw7 E=>?_⟩⟩⟩⟩;have W:=((E.freeze 1 (.g K) rfl (E.get 1) λb h=>h).freeze 1 _ rfl (E.get 2) λb h=>h).freeze 2 _ rfl (E.get 4) λb h=>h;exact acT hx am aX hu aQ aO aK (W.forget _ us)
   |succ d bd=>
    intro i acc sl F aL Z H;have e:x.l[i]? =some (x.l[i]'io):=a0 io;generalize x.l[i]'io=a at e;have hm:=ay e;have ac:x.P F:=H.getD 0;have bk:=J.eM hm;have bb:J.a1 acc<=J.a1 x.l:=by
     have h1:=vY x (x.l.take i);have h2:=BZ x.l i
     grind
    have a8:acc++ff x a=(x.l.take (i+1)).flatMap (ff x):=by rw[ha,e,eg,Z];simp
    have bi:=J.cw (H.get 2:aJ _ _ _ _ _).a9;have aM:=J.gp acc;have tail:∀(L:Sl) (w':I),O F0 w w' [.g G,.g K,.row aI 4 L ((acc++ff x a).flatMap J.c)] [.tree x,.tree j]->iC.bL x.k x.s G 0 0 0 ⟨none,0,0⟩ K j.k j.lo.toNat j.hi.toNat j.s L (i:Int) w' λr w'=>gL x.fp w (ie (.mk x.k 0 0 (J.ao x.l))) r w'/\af w w':=by
     intro L w' T;show iC.cA _ _ _ _ _ _ _ _ _ _ _ _ _ _ _ _;rw[bt _ io]
     grind
    refine iC.dU (aR (a6 io) ⟨io,io,J.a4 ac.parts.1 e λp A c=>⟨a.k,c.c0,ax (λhk=>?_) (λhk=>?_)⟩⟩)
    .have pa:a.P F:=ac.parts.2.mem hm;have na:=J.cw pa.parts.1;have aM:=J.gp a.l;have ba:=J.iK a;refine⟨io,io,J.a4 ac.parts.1 e λp A c=>⟨a.s,c.c3,?_⟩⟩;refine H.eI 2 mg (xs:=acc.flatMap J.c) (src:=a.s) (news:=a.l.flatMap J.c) rfl pa.parts.1 (uq _) io (λL M D=>?_);refine tail L M ?_;have ar:ff x a=a.l:=ag hk
     grind
    .refine ⟨io,io,J.a4 ac.parts.1 e λp A c=>⟨_,_,_,_,c.c0,c.c1,c.c2,c.c3,?_⟩⟩;refine H.jo 2 mg (xs:=acc.flatMap J.c) rfl (λL M D=>?_) io;refine tail L M ?_;have ar:ff x a=[a]:=ad hk;rw[ar,nW];exact D
  exact loop x.l.length 0 [] ⟨none,0,0⟩ M io rfl (B.iH aI 4)
def uX(k:Int):Rx:=if k=3 then oG else if k=4 then fT else eQ
def zX(k:Int):Rx:=if k=4 then eQ else fT
mutual
def NF:Rx->Prop
 |.mk d lo e l=>oy l/\(d≠2->lo=0/\e=0)/\(((d=0\/d=1)/\l=[])\/(d=2/\l=[]/\lo.toNat<=e.toNat)\/
   ((d=3\/d=4\/d=5)/\2<=l.length/\(d≠3->jT l)/\∀t∈l,t.k≠d/\t≠uX d/\t≠zX d)\/
   (d=6/\∃c,l=[c]/\c.k≠6)\/(d=7/\∃c,l=[c]/\c.k≠0/\c.k≠1/\c.k≠7/\c≠eQ))
def oy:List Rx->Prop
 |[]=>True
 |a::l=>NF a/\oy l
end
def wt:∀{l:List Rx},oy l↔∀t∈l,NF t
 |[]=>by unfold oy;simp
 |a::l=>by unfold oy;rw[wt];simp
def xT:NF fT:=by unfold fT NF oy;simp
def Gt:NF oG:=by unfold oG NF oy;simp
def Qv:NF eQ:=by unfold eQ NF oy oy;refine⟨⟨xT,trivial⟩,us,.inr (.inr (.inr (.inl ⟨rfl,fT,rfl,dl⟩)))⟩
def abg(k:Int):NF (uX k):=by
 unfold uX;split
 .exact Gt
 .split
  .exact xT
  .exact Qv
def abh(k:Int):NF (zX k):=by
 unfold zX;split
 .exact Qv
 .exact xT
def Qw{x:Rx}(d:NF x):∀t∈x.l,NF t:=by cases x;unfold NF at d;exact wt.1 d.1
def abd{x:Rx}{k:Int}(q:k=3\/k=4\/k=5)(d:NF x)(e:x.k=k):2<=x.l.length/\(k≠3->jT x.l)/\∀t∈x.l,t.k≠k/\t≠uX k/\t≠zX k:=by
 cases x with
 |mk h lo j l=>
  have e:h=k:=e;subst e;unfold NF at d;obtain⟨-,-,d|d|d|d|d⟩:=d
  .omega
  .omega
  .exact d.2
  .omega
  .omega
def YD{k:Int}{l:List Rx}{u t:Rx}:t∈hB k l u↔(∃c∈l,if c.k=k then t∈c.l else t=c)/\t≠u:=by
 unfold hB;rw[List.mem_filter,b',Kt]
 grind
def YE{k:Int}(w:k=3\/k=4\/k=5){l:List Rx}(e:∀c∈l,NF c){t:Rx}(x:t∈hB k l (uX k)):NF t/\t.k≠k/\t≠uX k:=by
 obtain⟨⟨c,h,d⟩,q⟩:=YD.1 x;split at d
 .rename_i j;exact⟨Qw (e c h) t d,((abd w (e c h) j).2.2 t d).1,q⟩
 grind
def ns(k:Int)(l:List Rx):List Rx:=if k=3 then hB k l (uX k)else vM (hB k l (uX k))
def acQ{k:Int}{l:List Rx}{t:Rx}:t∈ns k l↔t∈hB k l (uX k):=by
 unfold ns;split
 .grind
 .exact Ty
def MB(k:Int)(l:List Rx):((hB k l (uX k)).any λt=>bj t (zX k)==0)=true↔zX k∈hB k l (uX k):=by
 rw[List.any_eq_true];constructor
 .rintro ⟨t,e,d⟩;rw[r7.1 d]at e;exact e
 .exact λd=>⟨_,d,r7.2 rfl⟩
def MD{k:Int}{l:List Rx}(d:zX k∈hB k l (uX k)):g7 k l (uX k) (zX k)=zX k:=by unfold g7;rw[ag ((MB k l).2 d)]
def MC{k:Int}{l:List Rx}(d:¬zX k∈hB k l (uX k)):g7 k l (uX k) (zX k)=uT k (uX k) (ns k l):=by unfold g7;rw[ad (λe=>d ((MB k l).1 e))];rfl
def ZD{k:Int}(q:k=3\/k=4\/k=5){l:List Rx}(x:∀c∈l,NF c):NF (g7 k l (uX k) (zX k)):=by
 by_cases w:zX k∈hB k l (uX k)
 .rw [MD w];exact abh k
 .rw [MC w];have e:∀t∈ns k l,NF t/\t.k≠k/\t≠uX k/\t≠zX k:=λt d=>by
   have d:=acQ.1 d;obtain⟨y,A,h⟩:=YE q x d
   grind
  have j:k≠3->jT (ns k l):=λh=>by unfold ns;rw[ad h];exact Tx _
  generalize ns k l=m at e j;unfold uT;split
  .exact abg k
  .grind
  .rename_i z y;unfold NF;refine⟨wt.2 λt d=>(e t d).1,λ_=>⟨rfl,rfl⟩,.inr (.inr (.inl ⟨q,?_,j,λt d=>(e t d).2⟩))⟩;cases m with
   |nil=>grind
   |cons a m=>
    cases m with
    |nil=>grind
    |cons b m=>simp
def EM{k:Int}(d:k=3\/k=4\/k=5)(lo hi:UInt8)(l:List Rx):ie (.mk k lo hi l)=g7 k l (uX k) (zX k):=by rcases d with rfl|rfl|rfl<;>rfl
def abw{c:Rx}(h:NF c):NF (ra 0 0 [c]):=by
 unfold ra;simp only;split
 .rename_i d;split
  .exact xT
  .rename_i e m j;exact Qw h e (by grind)
 .rename_i d;unfold NF;exact⟨wt.2 λt k=>by grind,λ_=>⟨rfl,rfl⟩,.inr (.inr (.inr (.inl ⟨rfl,c,rfl,d⟩)))⟩
def ad0{c:Rx}(d:NF c):NF (mH 0 0 [c]):=by
 unfold mH;simp only;split
 .exact Gt
 .rename_i e;split
  .exact d
  .rename_i h;unfold NF;exact⟨wt.2 λt j=>by grind,λ_=>⟨rfl,rfl⟩,.inr (.inr (.inr (.inr ⟨rfl,c,rfl,λd=>e (.inl d),λd=>e (.inr d),λd=>h (.inl d),λd=>h (.inr (wS.2 d))⟩)))⟩
def sy{k:Int}{lo hi:UInt8}{l:List Rx}(h:cU (.mk k lo hi l)=true):dX l=true/\(k≠2->lo=0/\hi=0)/\(((k=0\/k=1)/\l=[])\/(k=2/\l=[]/\lo.toNat<=hi.toNat)\/(k=3\/k=4\/k=5)\/((k=6\/k=7)/\∃c,l=[c])):=by
 unfold cU at h;rw[bf]at h;obtain⟨q,d⟩:=h;have j:k≠2->lo=0/\hi=0:=λe=>by grind
 split at d
 .rename_i e;have:l=[]:=by grind
  subst this;exact⟨rfl,j,.inl ⟨e,rfl⟩⟩
 .split at d
  .rename_i e;simp only[bf,decide_eq_true_eq]at d;have:l=[]:=by grind
   subst this;exact⟨rfl,j,.inr (.inl ⟨e,rfl,d.2⟩)⟩
  .split at d
   .grind
   .split at d
    .rename_i e;simp only[bf]at d;exact⟨d.2,j,.inr (.inr (.inr ⟨e,List.length_eq_one_iff.1 (eq_of_beq d.1)⟩))⟩
    grind
def abf{lo hi:UInt8}(d:lo.toNat<=hi.toNat):NF (.mk 2 lo hi []):=by
 unfold NF oy
 grind
mutual
def QH:∀k:Rx,cU k=true->NF (dR k)
 |.mk A lo z l,q=>by
  obtain⟨w,e,x⟩:=sy q;have j:=Gx l w;unfold dR;rcases x with⟨d,rfl⟩|⟨rfl,rfl,y⟩|d|⟨d,c,rfl⟩
  .obtain ⟨rfl,rfl⟩:=e io;rcases d with rfl|rfl
   .exact xT
   .exact Gt
  .exact abf y
  .rw [EM d];exact ZD d j
  .obtain ⟨rfl,rfl⟩:=e io;have h:NF (dR c):=j _ (by unfold fu;simp);rcases d with rfl|rfl
   .exact abw h
   .exact ad0 h
def Gx:∀l:List Rx,dX l=true->∀t∈fu l,NF t
 |[],_=>λt d=>by unfold fu at d;cases d
 |a::l,e=>λt d=>by
  unfold dX at e;rw[bf]at e;unfold fu at d;rcases aF.1 d with rfl|d
  .exact QH a e.1
  .exact Gx l e.2 t d
end
section
variable {μ:Rx->Nat}
def NK(p:Rx->Bool):∀l:List Rx,ms μ (l.filter p)<=ms μ l
 |[]=>bz _
 |a::l=>by
  have d:=NK p l;rw[List.filter_cons];split
  .show μ a+_<=μ a+_;omega
  .show _<=μ a+_;omega
def xE:∀{l:List Rx} {a:Rx},a∈l->μ a<=ms μ l
 |b::l,a,d=>by
  rcases aF.1 d with rfl|d
  .show μ a<=μ a+_;omega
  .have:=xE d;show μ a<=μ b+_;omega
def NL(d:∀e,1<=μ e):∀l:List Rx,l.length<=ms μ l
 |[]=>bz _
 |a::l=>by have:=NL d l;have:=d a;show l.length+1<=μ a+ms μ l;omega
def NJ:∀(l:List Rx) (p:Rx),ms μ (lC p l)<=ms μ l
 |[],p=>bz _
 |d::l,p=>by
  have:=NJ l d;unfold lC;split
  .show _<=μ d+ms μ l;omega
  .show μ d+_<=μ d+ms μ l;omega
def aaS(l:List Rx):ms μ (vM l)<=ms μ l:=by
 have d:ms μ (r8 (lV l))<=ms μ (lV l):=by
  cases lV l with
  |nil=>exact bz _
  |cons a m=>have:=NJ (μ:=μ) m a;show μ a+_<=μ a+_;omega
 rw[<-aaR (HS l)];exact d
def FF(d:∀e,ms μ e.l<=μ e)(k:Int):∀l:List Rx,ms μ (l.flatMap λc=>if c.k=k then c.l else[c])<=ms μ l
 |[]=>bz _
 |c::l=>by
  have j:=FF d k l;have h:=d c;rw[dI,NI];show _<=μ c+ms μ l;split
  .omega
  .show (μ c+0)+_<=_;omega
def NN(h:∀e,ms μ e.l<=μ e)(k:Int)(l:List Rx):ms μ (ns k l)<=ms μ l:=by
 have d:ms μ (hB k l (uX k))<=ms μ l:=bI (NK _ _) (FF h k l);unfold ns;split
 .exact d
 .exact bI (aaS _) d
end
def H4:∀l:List Rx,Rx.a1 l=ms Rx.sz l
 |[]=>rfl
 |a::l=>by unfold Rx.a1;rw[H4 l];rfl
def qv(k:Int)(lo hi:UInt8)(l:List Rx):(Rx.mk k lo hi l).sz=1+ms Rx.sz l:=by unfold Rx.sz;rw[H4]
def Uh(x:Rx):ms Rx.sz x.l<=x.sz:=by cases x;rw[qv];simp only[Rx.l];omega
def FA(x:Rx):ms dy x.l<=dy x:=by cases x;rw[sJ];simp only[Rx.l];omega
def aaA(x:Rx):1<=dy x:=by cases x;rw[sJ];omega
mutual
def Nl:∀d:Rx,dy d<=d.sz
 |.mk h lo e l=>by rw[sJ,qv];have:=Nn l;omega
def Nn:∀l:List Rx,ms dy l<=ms Rx.sz l
 |[]=>bz _
 |a::l=>by have d:=Nl a;have e:=Nn l;show dy a+ms dy l<=a.sz+ms Rx.sz l;omega
end
def ME{k:Int}{l:List Rx}{P:Rx->Prop}(j:P (zX k))(w:P (uX k))(e:∀a,a∈ns k l->P a)(h:P (.mk k 0 0 (ns k l))):P (g7 k l (uX k) (zX k)):=by
 by_cases d:zX k∈hB k l (uX k)
 .rw [MD d];exact j
 .rw [MC d];generalize q:ns k l=m at e h;unfold uT
  grind
def U1(k:Int):(uX k).sz<=2/\(zX k).sz<=2/\dy (uX k)=1/\dy (zX k)=1:=by
 unfold uX zX;refine⟨?_,?_,?_,?_⟩
 .split
  .decide
  .split<;>decide
 .split<;>decide
 .split
  .decide
  .split<;>decide
 .split<;>decide
def QS{k:Int}{c:Rx}(e:k=6\/k=7){P:Rx->Prop}(h:P fT)(j:P oG)(w:P c)(hd:∀d∈c.l,P d)(q:P (.mk k 0 0 [c])):P (ie (.mk k 0 0 [c])):=by
 rcases e with rfl|rfl
 .show P (ra 0 0 [c]);unfold ra
  grind
 .show P (mH 0 0 [c]);unfold mH
  grind
mutual
def Gv:∀j:Rx,cU j=true->(dR j).sz<=2 *j.sz
 |.mk e lo w l,y=>by
  obtain⟨z,q,A⟩:=sy y;have h:=A3 l z;have D:=qv e lo w l;rw[D];unfold dR;rcases A with⟨d,rfl⟩|⟨rfl,rfl,F⟩|d|⟨d,c,rfl⟩
  .obtain ⟨rfl,rfl⟩:=q io;rcases d with rfl|rfl<;>decide
  .show (Rx.mk 2 lo w []).sz<=_;omega
  .rw [EM d];have G:=NN (μ:=Rx.sz) Uh e (fu l);obtain⟨H,J,-,-⟩:=U1 e;refine ME (P:=λk=>k.sz<=2 *(1+ms Rx.sz l)) io io (λa B=>?_) ?_
   .have:=xE (μ:=Rx.sz) B;omega
   .show (Rx.mk e 0 0 _).sz<=_;rw[qv];omega
  .obtain ⟨rfl,rfl⟩:=q io;have x:fu [c]=[dR c]:=rfl;rw[x]at h ⊢;have h:(dR c).sz+0<=2 *(c.sz+0):=h;show _<=2 *(1+(c.sz+0));refine QS (P:=λk=>k.sz<=2 *(1+(c.sz+0))) d (by show(1:Nat)<=_;omega) (by show(1:Nat)<=_;omega) io (λE C=>?_) ?_
   .have:=xE (μ:=Rx.sz) C;have:=Uh (dR c);omega
   .show (Rx.mk e 0 0 _).sz<=_;rw[qv];simp only[ms];omega
def A3:∀l:List Rx,dX l=true->ms Rx.sz (fu l)<=2 *ms Rx.sz l
 |[],_=>bz _
 |a::l,d=>by unfold dX at d;rw[bf]at d;have e:=Gv a d.1;have h:=A3 l d.2;show(dR a).sz+ms Rx.sz (fu l)<=2 *(a.sz+ms Rx.sz l);omega
end
mutual
def abr:∀j:Rx,cU j=true->dy (dR j)<=dy j
 |.mk e lo w l,y=>by
  obtain⟨z,q,A⟩:=sy y;have h:=Gw l z;have D:=sJ e lo w l;rw[D];unfold dR;rcases A with⟨d,rfl⟩|⟨rfl,rfl,F⟩|d|⟨d,c,rfl⟩
  .obtain ⟨rfl,rfl⟩:=q io;rcases d with rfl|rfl<;>decide
  .show dy (Rx.mk 2 lo w [])<=_;omega
  .rw [EM d];have G:=NN (μ:=dy) FA e (fu l);obtain⟨-,-,H,J⟩:=U1 e;refine ME (P:=λk=>dy k<=max 1 (ms dy l)) io io (λa B=>?_) ?_
   .have:=xE (μ:=dy) B;omega
   .show dy (Rx.mk e 0 0 _)<=_;rw[sJ];omega
  .obtain ⟨rfl,rfl⟩:=q io;have x:fu [c]=[dR c]:=rfl;rw[x]at h ⊢;have h:dy (dR c)+0<=dy c+0:=h;show _<=max 1 (dy c+0);refine QS (P:=λk=>dy k<=max 1 (dy c+0)) d (by show(1:Nat)<=_;omega) (by show(1:Nat)<=_;omega) io (λE C=>?_) ?_
   .have:=xE (μ:=dy) C;have:=FA (dR c);omega
   .show dy (Rx.mk e 0 0 _)<=_;rw[sJ];simp only[ms];omega
def Gw:∀l:List Rx,dX l=true->ms dy (fu l)<=ms dy l
 |[],_=>bz _
 |a::l,d=>by unfold dX at d;rw[bf]at d;have e:=abr a d.1;have h:=Gw l d.2;show dy (dR a)+ms dy (fu l)<=dy a+ms dy l;omega
end
def LX{N:Nat}{k:Int}{lo hi:UInt8}{l:List Rx}(d:cU (.mk k lo hi l)=true)(D:(Rx.mk k lo hi l).sz<=10000)(q:jw N (.mk k lo hi l)):sU N (.mk k lo hi (fu l))=true:=by
 obtain⟨e,J,y⟩:=sy d;have Q:=A3 l e;have P:=Gw l e;rw[qv]at D;unfold jw at q;unfold sU;rw[bf,bf];refine⟨⟨?_,a6 (by rw[qv];omega)⟩,?_⟩
 .unfold lG;rw[bf,bf];refine⟨⟨a6 io,a6 io⟩,?_⟩;rcases y with⟨h,rfl⟩|⟨h,rfl,O⟩|h|⟨h,c,rfl⟩
  .grind
  .grind
  .grind
  .show (!(k==6&&(dR c).k==6&&(dR c).l.isEmpty))=true;have A:cU c=true:=by
    unfold dX at e
    grind
   have j:=QH c A;generalize dR c=G at j;cases G with
   |mk w F C E=>
    by_cases x:w=6
    .unfold NF at j;obtain⟨-,-,d|d|d|⟨_,H,B,_⟩|d⟩:=j
     .omega
     .omega
     .omega
     .rw [B];simp[Rx.l]
     .omega
    .have:(Rx.k (.mk w F C E)==6)=false:=by simpa[Rx.k]using x
     grind
 .show ak (k=4\/k=5->vx k (fu l)<=N)=true;refine a6 λz=>?_;have K:=NL aaA ((fu l).flatMap λc=>if c.k=k then c.l else[c]);have L:=FF (μ:=dy) FA k (fu l);have M:=q.2 z;show((fu l).flatMap λc=>if c.k=k then c.l else[c]).length<=N;omega
mutual
def LQ{N:Nat}:∀d:Rx,cU d=true->d.sz<=10000->jw N d->qY N d=true
 |.mk w lo q l,h,j,e=>by obtain⟨k,-,-⟩:=sy h;unfold qY;rw[LX h j e,Bool.and_true];rw[qv]at j;unfold jw at e;exact LR l k io e.1
def LR{N:Nat}:∀l:List Rx,dX l=true->ms Rx.sz l<=10000->su N l->sw N l=true
 |[],_,_,_=>rfl
 |a::l,d,h,e=>by unfold dX at d;rw[bf]at d;unfold su at e;have h:a.sz+ms Rx.sz l<=10000:=h;unfold sw;rw[LQ a d.1 io e.1,LR l d.2 io e.2];rfl
end
namespace R9
def aq:=aB (aA U Tryz.f163 [(4,ls [1,0,2,3,4,5,6,7])] [1,2]) F' [.a 4,.I,.Y,.Y,.s]
end R9
def abe{x:Rx}(d:NF x):0<=x.k:=by cases x;unfold NF at d;simp only[Rx.k];omega
def abu{x:Rx}(e:cU x=true)(d:x.k<3):dR x=x:=by
 cases x with
 |mk j lo y l=>
  have z:j<3:=d;clear d;obtain⟨q,w,h⟩:=sy e;rcases h with⟨d,rfl⟩|⟨rfl,rfl,A⟩|d|⟨d,c,rfl⟩
  .rcases d with rfl|rfl<;>rfl
  .rfl
  .omega
  .omega
abbrev VO(n:Nat):Prop:=∀(x:J) (w:I),x.sz<=n->cU x.rx=true->x.P w->ah U xI #[x.v] w λr d=>gL x.fp w (dR x.rx) r d/\af w d
def J1:∀n:Nat,n<=1000->VO n
 |0,_=>λe z S _ _=>absurd S (by have:=J.nA e;omega)
 |n+1,hn=>λe z S W px=>by
  have ih:=J1 n io;have hs:=J.iK e;have hl:=J.gp e.l;have nr:=J.cw px.parts.1;refine xb.aq ((gT px).aw λB j H1=>H1.aw λC L w=>aS (λY=>w.ae λM x=>⟨⟨e,rfl,(abu W (by rw[mE];exact Y)).symm,x.getD 0,λb h=>.inr h⟩,x.fr⟩) (λY=>?_));have F:=W;rw[J.fw]at F;obtain⟨G,av,aB⟩:=sy F;obtain⟨ag,ad⟩:=av io;have ai:dR e.rx=ie (.mk e.k 0 0 (fu (J.ao e.l))):=by rw[J.fw,ag,ad];unfold dR;rfl
  have loop:∀(d i:Nat) (acc:List J) (sl:Sl) (j:I),i+d=e.l.length->J.ao acc=fu (J.ao (e.l.take i))->(∀b∈J.be acc,z.heap.size<=b\/b∈e.fp)->
    O F0 z j [.g B,.g C,.row aI 4 sl (acc.flatMap J.c)] [.tree e,.trees acc]->
    xb.aX B e.k e.lo.toNat e.hi.toNat e.s C 0 0 0 ⟨none,0,0⟩ sl (i:Int) j λr w'=>gL e.fp z (dR e.rx) r w'/\af z w':=by
   intro d;induction d with
   |zero=>
    intro i acc sl j ar y T q;rw[fW io]at y;have aG:∀b∈(J.row sl acc).fp,z.heap.size<=b:=λb h=>(q.new _ (ay (i:=2) rfl) b (gY h)).resolve_right id;have Q:O F0 z j [.g B,.g C] [.tree e,.trees acc,J.row sl acc,.tree (.mk e.k 0 0 sl acc)]:=q.td 2 1 e.k 0 0;have aj:Rx.mk e.k 0 0 (J.ao acc)=.mk e.k 0 0 (fu (J.ao e.l)):=by rw[y]
    have az:(Rx.mk e.k e.lo e.hi (J.ao e.l)).sz<=10000:=by rw[<-J.fw,J.eu];omega
    have Z:=LX (N:=100000) F az (z7 _ (by
     have aC:∀aa:Rx,dy aa<=aa.sz:=Nl
     grind))
    unfold sU at Z;rw[bf,bf]at Z;have ax:(J.mk e.k 0 0 sl acc).sz<=10000:=by have E:=J.eu (J.mk e.k 0 0 sl acc);have h2:=A3 (J.ao e.l) G;have h3:=J.ys e.l;rw[H4]at h3;rw[<-E];show(Rx.mk e.k 0 0 (J.ao acc)).sz<=_;rw[aj,qv];omega
    have ap:lG (.mk e.k 0 0 (J.ao acc))=true:=by grind
    refine xb.bR (aT (a7 io) ?_);refine Q.r5 (Xo (.mk e.k 0 0 sl acc) ⟨by show 3<=e.k;omega,by show e.k<=7;omega⟩ ax ap (λc hc=>?_) j (Q.getD 3)) (λb h=>⟨_,ay (i:=3) rfl,aU.2 h⟩) λt L H w D=>?_
    .have an:c.rx∈fu (J.ao e.l):=by rw[<-y,J.fY];exact dn.2 ⟨c,hc,rfl⟩
     have:=abe (Gx (J.ao e.l) G _ an)
     rwa[mE]at this
    refine⟨_,_,_,t.s,rfl,w.ae λM x=>⟨⟨t,rfl,?_,x.getD 4,λb h=>?_⟩,x.fr⟩⟩
    .rw [H,ai];show ie (Rx.mk e.k 0 0 (J.ao acc))=_;rw[y]
    .rcases D b h with h|h
     .exact .inl (bI q.fr.size h)
     .unfold J.fp at h
      grind
   |succ d aA=>
    intro i acc sl j ar y T q;have A:e.l[i]? =some (e.l[i]'io):=a0 io;generalize e.l[i]'io=a at A;have K:=ay A;have aL:=J.eM K;have ga:cU a.rx=true:=L9 G (by rw[J.fY];grind);have am:∀b∈a.fp,b∈e.fp:=λb h=>J.gP.2 (.inr (J.b0.2 ⟨a,K,h⟩));refine xb.bR (aR (a6 io) (j5 (show e.P j from q.getD 0) rfl A ?_));refine q.r5 (ih a j io ga ((show e.P j from q.getD 0).parts.2.mem K)) (λb h=>⟨_,ay (i:=0) rfl,aU.2 (am b h)⟩) λt L H w D=>?_;have aK:=J.cw (w.get 2:aJ _ _ _ _ _).a9;have aH:acc.length=i:=by
     have E:=congrArg List.length y;rw[J.fY,sT,J.fY]at E
     grind
    refine⟨_,_,_,t.s,rfl,w.jo 2 mg (xs:=acc.flatMap J.c) rfl (λs' M x=>?_) io⟩;have ac:=(x.th 1 2).take 3;rw[bt _ io];refine aA (i+1) (acc++[t]) s' M io ?_ (uU T λb h=>?_) ?_
    .rw [k0,y,ha,A,Option.toList_some,k0,sT,sT,fv];show _++[t.rx]=_;rw[H];rfl
    .rcases D b h with h|h
     .exact .inl (bI q.fr.size h)
     grind
    .rw [nW];exact ac.forget _ us
  exact loop e.l.length 0 [] ⟨none,0,0⟩ L io rfl (λb h=>by unfold J.be at h;cases h) (QD (w.iH aI 4))
def J0(x:J)(w:I)(e:x.sz<=1000)(h:cU x.rx=true)(j:x.P w):ah U xI #[x.v] w λr d=>gL x.fp w (dR x.rx) r d/\af w d:=J1 1000 (bz _) x w e h j
def gl(x:Rx):Rx:=if iM x=0 then pV (dR x)else fT
def kW(x:Rx):Int:=if iM x=0 then pU (dR x)else iM x
def IV(d:List Nat)(w:I)(x:Rx)(c:Int)(r:cZ)(w':I):Prop:=∃t:J,r=ab (.tuple #[t.v,.int .i64 c])/\t.rx=x/\t.P w'/\∀b∈t.fp,w.heap.size<=b\/b∈d
def WY(x:J)(w:I)(y:x.sz<=1000000)(A:x.P w):ah U N2 #[x.v] w λr k=>IV x.fp w (pV x.rx) (pU x.rx) r k/\af w k:=by
 refine K5.aq ((gT A).aw λD F q=>q.aw λE B h=>h.av (Dy x B y (h.getD 0)) ?_);rintro _ G rfl j;refine⟨_,rfl,aS (λz=>j.ae λC d=>⟨⟨cu,?_,?_,lM _,λb e=>(lN e).elim⟩,d.fr⟩) (λz=>j.ae λC d=>⟨⟨x,?_,?_,d.getD 0,λb e=>.inr e⟩,d.fr⟩)⟩
 .unfold pU;rw[J.eu,ag io];rfl
 .unfold pV;rw[J.eu,ag io];rfl
 .unfold pU;rw[J.eu,ad io]
 .unfold pV;rw[J.eu,ad io]
def Xm(x:J)(w:I)(K:x.sz<=1000000)(N:x.P w):ah U NV #[x.v] w λr D=>IV x.fp w (gl x.rx) (kW x.rx) r D/\af w D:=by
 refine KZ.aq ((gT N).aw λT w1 F=>F.aw λW Q k=>k.av (Xn x Q K (k.getD 0)) ?_);rintro _ S rfl h;unfold gl kW;refine⟨_,rfl,cq (λB=>h.ae λE e=>⟨⟨cu,?_,?_,lM _,λb d=>(lN d).elim⟩,e.fr⟩) (λj=>?_)⟩
 .rw [ad B];rfl
 .rw [ad B];rfl
 obtain⟨A,L⟩:=Cj j;have Y:x.sz<=64:=by rw[<-J.eu];exact L
 rw[ag j,ag j];refine h.r5 (J0 x S io A (h.getD 0)) (λb d=>⟨_,ay (i:=0) rfl,aU.2 d⟩) λt E C e H=>?_;have O:t.sz<=1000000:=by have:=Gv _ A;rw[<-J.eu,C];omega
 refine⟨_,_,_,t.s,rfl,kG ((WY t E O (e.getD 1)).mono ?_)⟩;rintro _ w5 ⟨⟨u,rfl,Z,M,z⟩,y⟩;have G:=e.eO (.tree u) y M λb d=>(z b (aU.1 d)).imp id λd=>.inr ⟨_,ay (i:=1) rfl,aU.2 d⟩;refine⟨y,_,_,_,u.s,_,rfl,G.ae λw6 q=>⟨⟨u,by rw[C],by grind,q.getD 2,λb d=>?_⟩,q.fr⟩⟩;rcases z b d with d|d
 .exact .inl (bI e.fr.size d)
 .exact (H b d).imp (λd=>bI h.fr.size d) id
def JC{N:Nat}(T:mS N)(S:N+1<=1000000)(x:J)(w:I)(B:x.sz<=1000000)(W:jw N x.rx)(px:x.P w):ah U F' #[x.v] w λr F=>IY w (gl x.rx) (kW x.rx) r F/\af w F:=by
 refine R9.aq ((gT px).aw λb1 w1 M=>M.aw λb2 w2 q=>q.av (DA x w2 B (q.getD 0)) ?_);rintro _ w3 rfl y;unfold gl kW;refine⟨_,rfl,cq (λD=>y.ae λG e=>⟨⟨cu,?_,?_,lM _,λb d=>(lN d).elim⟩,e.fr⟩) (λk=>y.ae λG e=>e.g5 (W3 G) ?_)⟩
 .rw [ad D];rfl
 .rw [ad D];rfl
 rintro _ w5 ⟨H,rfl,Q,Z,Y⟩ _ K;have h:=K.rd (.fm H) Z Y;obtain⟨C,hs⟩:=Cj k;rw[ag k,ag k];refine⟨_,rfl,h.r5 (Xg T S Q x w5 B (LQ _ C io W) (h.getD 1) (h.getD 0)) (λb d=>?_) λt w6 E j _=>?_⟩
 .rcases aP.1 d with d|d
  .exact ⟨_,ay (i:=0) rfl,aU.2 d⟩
  grind
 have aa:t.sz<=1000000:=by have:=Gv _ C;rw[<-J.eu,E];omega
 refine⟨_,_,_,t.s,rfl,j.g5 (Xd t w6 aa (j.getD 2)) ?_⟩;rintro _ w7 ⟨u,rfl,hu,pu,A⟩ _ L;have O:=L.rd (.tree u) pu λb d=>A b (aU.1 d);exact⟨_,_,_,u.s,_,rfl,O.ae λw8 z=>⟨⟨u,by rw[E],by grind,z.getD 3,λb d=>bI j.fr.size (A b d)⟩,z.fr⟩⟩
abbrev BL:=List UInt8
def gQ(s:BL)(i:Nat):UInt8:=s.getD i 0
def oZ(c:UInt8):Bool:=ak (32<=c.toNat)&&ak (c.toNat<=126)&&!(c==39)&&!(c==92)
def eL(c:UInt8):Bool:=ak (97<=c.toNat)&&ak (c.toNat<=122)
def iZ(n:Nat):UInt8:=UInt8.ofNat (if n<10 then 48+n else 87+n)
def i6(c:UInt8):Int:=if 48<=c.toNat/\c.toNat<=57 then(c.toNat:Int) - 48 else if 97<=c.toNat/\c.toNat<=102 then(c.toNat:Int) - 87 else -1
def ia(s:BL)(at_:Nat):UInt8×Nat:=
 if(ak (at_+3<=s.length)&&gQ s at_==39&&gQ s (at_+2)==39&&oZ (gQ s (at_+1)))=true then(gQ s (at_+1),3)
 else if(ak (at_+4<=s.length)&&gQ s at_==92&&gQ s (at_+1)==120&&ak (0<=i6 (gQ s (at_+2)))&&ak (0<=i6 (gQ s (at_+3))))=true then(UInt8.ofNat ((16 *i6 (gQ s (at_+2))+i6 (gQ s (at_+3))).toNat),4)
 else(0,0)
structure dQ where
 tx:BL
 at_:Nat
 k:Nat
 lo:UInt8
 hi:UInt8
structure CY where
 k:Nat
 lo:UInt8
 hi:UInt8
 n:Nat
def sS:CY:=⟨0,0,0,0⟩
def kZ(s:BL)(i:Nat):CY:=
 let a:=ia s i
 if 0<a.2 then⟨2,a.1,a.1,a.2⟩else if gQ s i≠91 then sS else
 let b:=ia s (i+1)
 let dash:=i+1+b.2
 if b.2=0\/s.length<=dash\/gQ s dash≠45 then sS else
 let c:=ia s (dash+1)
 let fin:=dash+1+c.2
 if c.2=0\/s.length<=fin\/gQ s fin≠93\/c.1.toNat<b.1.toNat then sS else⟨2,b.1,c.1,fin+1 - i⟩
def o4(s:BL)(i:Nat):Nat->Nat->Nat
 |0,n=>n
 |f+1,n=>if(eL (gQ s i)&&ak (i+n<s.length)&&eL (gQ s (i+n)))=true then o4 s i f (n+1)else n
def qw(s:BL):Nat->Nat->List dQ
 |0,_=>[⟨[],s.length,0,0,0⟩]
 |f+1,i=>if s.length<=i then[⟨[],s.length,0,0,0⟩]else if gQ s i=32 then qw s f (i+1)else
  let r:=kZ s i
  let n:=if r.n=0 then o4 s i s.length 1 else r.n
  ⟨(s.take (i+n)).drop i,i,r.k,r.lo,r.hi⟩::qw s f (i+n)
def oh(s:BL):List dQ:=qw s (s.length+1) 0
abbrev bV:=Nat×Bool
section
variable (l:List dQ)
def f'(i:Nat):dQ:=l.getD i ⟨[],0,0,0,0⟩
def fx(st:bV):BL:=bif st.2 then[32]else(f' l st.1).tx
def e3(s:BL)(st:bV):Bool×bV:=bif fx l st==s then(true,bif s.isEmpty then st else(st.1+1,st.2))else(false,st)
def lL(s:BL)(st:bV):bV:=match e3 l s st with
 |(true,st)=>st
 |(false,st)=>(st.1,true)
def zC(st:bV):Bool:=!st.2&&!(fx l st==[])&&!(fx l st==[41])&&!(fx l st==[44])&&!(fx l st==[124])&&!(fx l st==[38])
def sA(k:Int):List Rx->Rx
 |[a]=>a
 |m=>.mk k 0 0 m
def ou:Nat->BL
 |0=>[110,111,110,101]
 |1=>[101,109,112,116,121]
 |3=>[99,97,116]
 |4=>[97,108,116]
 |5=>[97,108,108]
 |_=>[]
def mL(st:bV):Nat->Nat->Option Nat
 |0,_=>none
 |f+1,d=>bif bQ d 2||!(fx l st==ou d)then mL st f (d+1)else some d
mutual
def mn:Nat->bV->Option (Rx×bV)
 |0,_=>none
 |f+1,st=>match pE f st with
  |some (a,st)=>uc f [a] st
  |none=>none
def uc:Nat->List Rx->bV->Option (Rx×bV)
 |0,_,_=>none
 |f+1,acc,st=>match e3 l [124] st with
  |(true,st)=>match pE f st with
   |some (a,st)=>uc f (acc++[a]) st
   |none=>none
  |(false,st)=>some (sA 4 acc,st)
def pE:Nat->bV->Option (Rx×bV)
 |0,_=>none
 |f+1,st=>match qm f st with
  |some (a,st)=>uf f [a] st
  |none=>none
def uf:Nat->List Rx->bV->Option (Rx×bV)
 |0,_,_=>none
 |f+1,acc,st=>match e3 l [38] st with
  |(true,st)=>match qm f st with
   |some (a,st)=>uf f (acc++[a]) st
   |none=>none
  |(false,st)=>some (sA 5 acc,st)
def qm:Nat->bV->Option (Rx×bV)
 |0,_=>none
 |f+1,st=>match n3 f st with
  |some (a,st)=>u5 f [a] st
  |none=>none
def u5:Nat->List Rx->bV->Option (Rx×bV)
 |0,_,_=>none
 |f+1,acc,st=>bif zC l st then match n3 f st with
   |some (a,st)=>u5 f (acc++[a]) st
   |none=>none
  else some (sA 3 acc,st)
def n3:Nat->bV->Option (Rx×bV)
 |0,_=>none
 |f+1,st=>match e3 l [33] st with
  |(true,st)=>match n3 f st with
   |some (a,st)=>some (.mk 6 0 0 [a],st)
   |none=>none
  |(false,st)=>match rW f st with
   |some (a,st)=>yB f a st
   |none=>none
def yB:Nat->Rx->bV->Option (Rx×bV)
 |0,_,_=>none
 |f+1,a,st=>match e3 l [42] st with
  |(true,st)=>yB f (.mk 7 0 0 [a]) st
  |(false,st)=>some (a,st)
def rW:Nat->bV->Option (Rx×bV)
 |0,_=>none
 |f+1,st=>bif !st.2&&bQ (f' l st.1).k 2 then some (.mk 2 (f' l st.1).lo (f' l st.1).hi [],(st.1+1,st.2))else match mL l st 6 0 with
  |some d=>bif Nat.ble d 2 then some (.mk d 0 0 [],(st.1+1,st.2))else match sE f (st.1+1,st.2)with
   |some (m,st)=>some (.mk d 0 0 m,st)
   |none=>none
  |none=>let st:=lL l [40] st
   bif st.2 then some (fT,st)else match mn f st with
   |some (a,st)=>some (a,lL l [41] st)
   |none=>none
def sE:Nat->bV->Option (List Rx×bV)
 |0,_=>none
 |f+1,st=>match e3 l [41] (lL l [40] st)with
  |(d,st)=>bif st.2||d then some ([],st)else match mn f st with
   |some (a,st)=>xD f [a] st
   |none=>none
def xD:Nat->List Rx->bV->Option (List Rx×bV)
 |0,_,_=>none
 |f+1,acc,st=>match e3 l [44] st with
  |(true,st)=>match mn f st with
   |some (a,st)=>xD f (acc++[a]) st
   |none=>none
  |(false,st)=>some (acc,lL l [41] st)
end
end
def vr(s:BL):Option (Rx×Nat×Int):=
 if 4096<s.length then some (fT,4096,4)else
 let l:=oh s
 match mn l 1000 (0,false)with
 |some (r,st)=>let st:=lL l [] st
  if st.2=true then some (fT,(f' l st.1).at_,2)else if 1000000<r.sz then none else if 64<r.sz then some (fT,s.length,4)else some (r,0,0)
 |none=>none
def dD(c:UInt8):BL:=if oZ c=true then[39,c,39]else[92,120,iZ (c.toNat / 16),iZ (c.toNat%16)]
def cT:Rx->Nat
 |.mk d _ _ l=>if d=6 then 3 else if d<3\/d=7\/l.length<2 then 4 else if d=3 then 2 else if d=4 then 0 else 1
def cR(d:Nat)(a:Rx)(t:BL):BL:=if cT a<d then 40::(t++[41])else t
def sO(k:Int):BL:=if k=3 then[99,97,116,40]else if k=4 then[97,108,116,40]else[97,108,108,40]
def hh(k:Int):BL:=if k=3 then[]else if k=4 then[124]else[38]
def lJ(t:BL):UInt8:=t.getLastD 0
def jZ(k:Int):BL->List BL->BL
 |out,[]=>out
 |out,t::d=>jZ k ((if k=3/\eL (lJ out)=true/\eL (gQ t 0)=true then out++[32]else out)++hh k++t) d
def kP:List BL->BL
 |[]=>[]
 |t::_=>t
def Ai(k:Int):List BL->BL
 |[]=>[]
 |t::d=>jZ k t d
mutual
def a':Rx->BL
 |.mk d lo e l=>if d=0 then[110,111,110,101]else if d=1 then[101,109,112,116,121]else
  if d=2 then(if lo=e then dD lo else 91::(dD lo++45::(dD e++[93])))else
  if d=6 then 33::kP (dt 3 l)else if d=7 then kP (dt 4 l)++[42]else
  if l.length<2 then sO d++(kP (dt 0 l)++[41])else
  Ai d (dt (cT (.mk d lo e l)+1) l)
def dt(d:Nat):List Rx->List BL
 |[]=>[]
 |a::l=>cR d a (a' a)::dt d l
end
mutual
def i7:Rx->Bool
 |.mk d _ _ l=>ak (0<=d)&&ak (d<=7)&&(ak (d<6)||ak (l.length=1))&&oY l
def oY:List Rx->Bool
 |[]=>true
 |a::l=>i7 a&&oY l
end
def uu(s:BL):Option Bool:=match vr s with
 |some (r,_,d)=>if d=0 then(if kW r=0 then(if i7 (gl r)=true/\(gl r).sz<=1000 then some (cR 0 (gl r) (a' (gl r))==s)else none)else some false)else some false
 |none=>none
def Bz(a b:UInt8):Rx:=.mk 2 a b []
def e6:Nat->Rx
 |0=>Bz 97 97
 |1=>Bz 98 98
 |2=>Bz 0 0
 |3=>Bz 97 98
 |4=>oG
 |_=>eQ
def EN(a b c:Rx):Nat->Rx
 |0=>a
 |1=>.mk 3 0 0 [a,b]
 |2=>.mk 4 0 0 [a,b,c]
 |3=>.mk 7 0 0 [a]
 |4=>.mk 3 0 0 [.mk 7 0 0 [a],b]
 |5=>.mk 6 0 0 [.mk 3 0 0 [a,b]]
 |6=>.mk 3 0 0 [b,.mk 7 0 0 [.mk 4 0 0 [a,c]]]
 |_=>.mk 5 0 0 [.mk 6 0 0 [b],.mk 3 0 0 [a,eQ]]
def lZ(k:Nat):BL:=a' (dR (EN (e6 (k%6)) (e6 (k / 6%6)) (e6 (k / 36%6)) (k / 216%8)))
namespace H2
def ok:=aB (aA U Tryz.f63 [] []) Gk [.st,.Y]
end H2
namespace E6
def ok:=aB (aA U Tryz.f87 [] []) FT [.st,.Y]
end E6
end Go.Proofs.YtkbmpalepmakmaaGreatDoor
end
