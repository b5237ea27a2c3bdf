import Derived.Test.YtahmokchdhengaaGreatDoorU
set_option linter.unusedVariables false
set_option linter.defProp false
set_option maxRecDepth 100000
namespace Go.Proofs.YtahmokchdhengaaGreatDoor
open Go renaming World->J,Calls->aj,Program->aw,Value->aa,TypeId->aD,Ending->cA
open Go.IntKind renaming wrap->aG
open _root_.Int renaming toNat->a1,toNat_natCast->bZ
open Go.IntWalk renaming i64_in->bm
open _root_.Bool renaming and_eq_true->a9,not_eq_true->iX
open _root_.Nat renaming le_refl->be,le_trans->bp,mul_le_mul_right->jm,beq_eq->dZ
open _root_.Prod.mk renaming injEq->eQ
open _root_.Option.some renaming inj->eh,injEq->e0
open _root_.Array renaming replicate->g9
open Go.Proofs.Tryz renaming prog->U
open _root_.Decidable renaming decide->ao
open Go.Ending renaming returned->ae
open List renaming mem_append->aL,mem_cons->aE,not_mem_nil->aZ,mem_of_getElem?->aB,getElem?_eq_getElem->a5,getElem?_eq_some_iff->cr,mem_append_left->bz,mem_append_right->b0,mem_flatMap->bB,mem_map->cz,length_append->b',append_assoc->hr,length_take->fx,flatMap_append->cC,flatMap_cons->df,mem_cons_of_mem->cH,mem_cons_self->me,length_set->yN,take_append_drop->DO,drop_eq_getElem_cons->dk,append_nil->cP,take_add_one->g3,map_append->dX,map_cons->iQ,drop_drop->ke,getElem?_drop->sX,getElem?_set_self->hv,drop_of_length_le->de,take_of_length_le->dM,length_reverse->DN
open Go Go.W
def OG{w:J}{g:Nat}{cur:Array aa}{t:aD}(d:w.heap[g]? =some (.cells cur t (0,0)))(vs:Array aa):w.setRow g vs=w.putObj g (.cells vs t (0,0)):=by
 unfold World.setRow World.putObj;congr 1;apply Array.ext_getElem?;intro i;rw[Array.getElem?_modify,Array.getElem?_setIfInBounds];by_cases e:g=i
 .subst e;have:=lC d;simp[this,(Array.getElem?_eq_some_iff.1 d).2]
 .simp [e]
def FB(g k:Nat):(⟨g,0,none⟩:Addr).add k=⟨g,k,none⟩:=by unfold Addr.add;split<;>simp_all
def Hb{P:aw}{t ty e:aD}{h:aa}{sz bytes:Nat}(x:fS P t e h sz bytes)(Z:∀u∈h.cells.toList,u.oneCell'=true)(ai:h.cells.size=sz){w:J}{s:Sl}{vs:List aa}(K:aK w e sz s vs)(l:Nat)(G:l<=s.n):
  ∃V,(Builtin.clear_ #[t] ty #[.slice (if s.c=l then s.a else s.a.map (·.add (l *sz))) (s.n - l) (s.c - l)]).run P w=.ok (.tuple #[]) V/\
   aK V e sz ⟨if s.c=0 then s.a else s.a.map (·.add (0 *sz)),l - 0,s.c - 0⟩ (vs.take (l *sz))/\Fr (·∈aN s) w V:=by
 have hlen:=K.len;obtain⟨S,d,j⟩:=s;simp only at G hlen;have ag:∀A:Option Addr,(if j=0 then A else A.map (·.add (0 *sz)))=A:=λA=>by
  split
  .rfl
  .cases A with
   |none=>rfl
   |some p=>rw[Nat.zero_mul,Option.map_some,iz]
 rw[ag,Nat.sub_zero,Nat.sub_zero];have I:∀(V:J) (g:Nat) (q:Array aa),S=some ⟨g,0,none⟩->d<=j->j<=maxLen->V.heap[g]? =some (.cells q e (0,0))->q.size=j *sz->q.toList.take (l *sz)=vs.take (l *sz)->aK V e sz ⟨S,l,j⟩ (vs.take (l *sz)):=by intro V g q D ao hc k O ah;subst D;have B:l *sz<=d *sz:=jm _ G;refine⟨by rw[fx,hlen,Nat.min_eq_left B],.inr ⟨g,j,q,rfl,Nat.zero_le _,k,by show l<=j;omega,hc,O,ah⟩⟩
 rcases K.cases with⟨hs,rfl⟩|⟨g,cur,D,k,C,F,z,L⟩
 .cases hs;have:l=0:=by omega
  subst this;refine⟨w,?_,?_,Fr.refl _ _⟩
  .simp [Builtin.clear_,run_underlying x.ht]
  .simpa using aK.nil w e sz
 .simp only at D C F z L;subst D;have B:l *sz<=d *sz:=jm _ G;have T:d *sz<=j *sz:=jm _ C;have Q:cur.toList.take (l *sz)=vs.take (l *sz):=by rw[<-L,List.take_take,Nat.min_eq_left B]
  by_cases hn:d - l=0
  .refine ⟨w,?_,I w g cur rfl C F k z Q,Fr.refl _ _⟩;rw[hn];by_cases E:j=l
   .simp [Builtin.clear_,run_underlying x.ht,E]
   .simp [Builtin.clear_,run_underlying x.ht,E]
  .have E:j≠l:=by omega
   obtain⟨inf,ad,hz,O,am⟩:=info_parts x.hi;have aj:(zeroValue e).run P w=.ok h w:=by simp[zeroValue,typeInfo,ad,hz]
   have M:(Builtin.zeroCells h.cells (d - l)).toList.length=(d - l) *sz:=by simp[Builtin.zeroCells,ai]
   have af:∀v∈(Builtin.zeroCells h.cells (d - l)).toList,v.oneCell'=true:=by
    intro v H;unfold Builtin.zeroCells at H;rw[Array.toList_map,cz]at H;obtain⟨ak,hj,rfl⟩:=H;by_cases W:0<h.cells.size
    .have ae:ak%h.cells.size<h.cells.size:=Nat.mod_lt _ W;rw[getElem!_pos h.cells _ ae];exact Z _ (by simp)
    .have Y:h.cells.size=0:=by omega
     simp[Y]at hj
   have an:(d - l) *sz=d *sz - l *sz:=Nat.sub_mul _ _ _;have ac:l *sz+0+(Builtin.zeroCells h.cells (d - l)).toList.length<=cur.size:=by rw[M,z];omega
   have N:=run_storeCells_at (P:=P) g (l *sz) e (Builtin.zeroCells h.cells (d - l)).toList 0 cur w k ac af;refine⟨_,?_,I _ g (cur.toList.take (l *sz+0)++(Builtin.zeroCells h.cells (d - l)).toList++cur.toList.drop (l *sz+0+(Builtin.zeroCells h.cells (d - l)).toList.length)).toArray rfl C F (setRow_heap w g cur _ e _ k) ?_ ?_,?_⟩
   .obtain ⟨m,hm⟩:∃m,d - l=m+1:=⟨d - l - 1,by omega⟩;have ab:(⟨g,0,none⟩:Addr).add (l *sz)=⟨g,l *sz,none⟩:=FB g (l *sz);rw[hm]at N ⊢;simp[Builtin.clear_,run_underlying x.ht,E,ab,aj,N]
   .simp only[List.size_toArray,b',fx,List.length_drop,M,Array.length_toList,z];generalize(d - l) *sz=al at *;generalize d *sz=y at *;generalize j *sz=u at *;generalize l *sz=v at *;omega
   .simp only[hr,Nat.add_zero];rw[List.take_append_of_le_length (by rw[fx,Array.length_toList,z];exact Nat.le_min.2 ⟨be _,bp B T⟩),List.take_take,Nat.min_self]
    exact Q
   .rw [OG k];exact(Fr.put w g _).mono λal _ e=>by simp[aN,e]
def Qk:∀u∈(Value.agg #[.int .i64 0,.int .u8 0,.int .u8 0,.slice none 0 0]).cells.toList,u.oneCell'=true:=by intro u d;simp only[Value.cells,aE,aZ,a2]at d;rcases d with rfl|rfl|rfl|rfl<;>rfl
def TP{l:List I}{k:Nat}{t:I}(h:k<l.length):((((l.flatMap I.c).set (k *4+0) (.int .i64 t.k)).set (k *4+1) (.int .u8 (t.lo.toNat:Int))).set (k *4+2) (.int .u8 (t.hi.toNat:Int))).set (k *4+3) t.s.v=(l.set k t).flatMap I.c:=by
 induction l generalizing k with
 |nil=>simp at h
 |cons a l q=>
  cases k with
  |zero=>simp[I.c]
  |succ k=>
   have j:k<l.length:=by simpa using h
   have d:∀e,(k+1) *4+e=(k *4+e)+4:=λe=>by omega
   rw[d 0,d 1,d 2,d 3,df,List.set_cons_succ,df,<-q j];simp[I.c]
section
variable {M:Nat->Prop} {w0 w:J} {L D:List En} {bs:List Nat}
def _root_.Go.W.O.O8(H:O M w0 w L D)(i k:Nat){s:Sl}{ts:List I}{t:I}{p:Addr}{K:J->Prop}(hi:L[i]? =some (.row aO 4 s (ts.flatMap I.c)))(z:s.a=some p)(hk:k<ts.length)(hK:∀w',O M w0 w' (L.set i (.row aO 4 s ((ts.set k t).flatMap I.c))) D->K w')(B:∀b∈bs,En.g b∈L:=by simp):
  aJ w (p.add (k *4)) (.int .i64 t.k) λd=>kept bs w d/\aJ d ((p.add (k *4)).add 1) (.int .u8 (t.lo.toNat:Int)) λh=>kept bs d h/\aJ h ((p.add (k *4)).add 2) (.int .u8 (t.hi.toNat:Int)) λj=>kept bs h j/\aJ j ((p.add (k *4)).add 3) t.s.v λy=>kept bs j y/\K y:=by
 have hlen:(ts.flatMap I.c).length=ts.length *4:=I.gZ ts;have C:=(cr.1 hi).1;have Q:∀{e:En} {b:Nat},(∀(d:J) (A:Nat),¬e.P ({d with heap:=g9 (A+1) (.map #[] 0)}:J))->En.g b∈L->En.g b∈L.set i e:=by
  intro e b ae q;obtain⟨ac,E⟩:=List.mem_iff_getElem?.1 q;by_cases ab:i=ac
  .subst ab;rw[hi]at E;exfalso;have e1:En.row aO 4 s (ts.flatMap I.c)=En.g b:=eh E;have Z:(En.g b).P ({w with heap:=g9 (b+1) (.map #[] 0)}):=by show b<_;simp
   rw[<-e1]at Z;by_cases G:aN s=[]
   .have:s.a=none:=by unfold aN at G;split at G<;>simp_all
    rw[z]at this;cases this
   .obtain ⟨ad,N⟩:=List.exists_mem_of_ne_nil _ G;obtain⟨cs,f,x⟩:=(aK.row (show aK ({w with heap:=g9 (b+1) (.map #[] 0)}) aO 4 s _ from Z)).tC ad N;rw[Array.getElem?_replicate]at x;split at x<;>cases x
  .refine aB (i:=ac) ?_;rw[List.getElem?_set_ne ab];exact E
 have F:∀(vs:List aa) (d:J) (A:Nat),¬(En.row aO 4 s vs).P ({d with heap:=g9 (A+1) (.map #[] 0)}:J):=by
  intro vs d A h0;have N:p.block∈aN s:=by simp[aN,z]
  obtain⟨cs,f,x⟩:=(aK.row (show aK ({d with heap:=g9 (A+1) (.map #[] 0)}) aO 4 s vs from h0)).tC _ N;rw[Array.getElem?_replicate]at x;split at x<;>cases x
 have Y:=H.tn (bs:=bs) i (k *4) 0 (v:=.int .i64 t.k) (p:=p) (K:=λd=>aJ d ((p.add (k *4)).add 1) (.int .u8 (t.lo.toNat:Int)) λh=>kept bs d h/\aJ h ((p.add (k *4)).add 2) (.int .u8 (t.hi.toNat:Int)) λj=>kept bs h j/\aJ j ((p.add (k *4)).add 3) t.s.v λy=>kept bs j y/\K y) hi z (by rw[hlen];omega) (λd H1=>?_) B
 .rw [iz]at Y;exact Y
 refine H1.tn (bs:=bs) i (k *4) 1 (by rw[hv C]) z (by rw[yN,hlen];omega) (λh S=>?_) (λb q=>Q (F _) (B b q));rw[List.set_set]at S;refine S.tn (bs:=bs) i (k *4) 2 (by rw[hv C]) z (by simp only[yN,hlen];omega) (λj T=>?_) (λb q=>Q (F _) (B b q));rw[List.set_set]at T;refine T.tn (bs:=bs) i (k *4) 3 (by rw[hv C]) z (by simp only[yN,hlen];omega) (λy V=>?_) (λb q=>Q (F _) (B b q));rw[List.set_set,TP hk]at V;exact hK y V
def _root_.Go.W.O.Y0(H:O M w0 w L D)(i k:Nat){s:Sl}{ts:List I}{t:I}{p:Addr}{K:J->Prop}(hi:L[i]? =some (.row aO 4 s (ts.flatMap I.c)))(q:s.a=some p)(j:k<ts.length)(h:∀e,O M w0 e (L.set i (.row aO 4 s ((ts.set k t).flatMap I.c))) D->K e):
  aJ w (p.add (k *4)) (.int .i64 t.k) λx=>aJ x ((p.add (k *4)).add 1) (.int .u8 (t.lo.toNat:Int)) λy=>aJ y ((p.add (k *4)).add 2) (.int .u8 (t.hi.toNat:Int)) λz=>aJ z ((p.add (k *4)).add 3) t.s.v K:=by have d:=H.O8 (bs:=[]) (K:=K) i k hi q j h (by simp);exact⟨d.1,d.2.1,d.2.2.2.1,d.2.2.2.2.1,d.2.2.2.2.2.2.1,d.2.2.2.2.2.2.2.1,d.2.2.2.2.2.2.2.2.2.1,d.2.2.2.2.2.2.2.2.2.2.1,d.2.2.2.2.2.2.2.2.2.2.2.2⟩
end
def Dx{w:J}{s:Sl}{l:List I}(d:aK w aO 4 s (l.flatMap I.c)){i:Nat}{t:I}(hi:l[i]? =some t){K:Addr->Prop}(e:∀p,s.a=some p->I.hc w p i t->K p):dJ s.a K:=I.a3 d.a7 hi e
section
variable {M:Nat->Prop} {w0 w:J} {L D:List En}
def _root_.Go.W.O.el(H:O M w0 w L D)(i k:Nat){s:Sl}{ts:List I}{t:I}{X:Int}{K:Int->Int->Int->Sl->Prop}(q:X=(k:Int))(e:ts[k]? =some t)(j:K t.k t.lo.toNat t.hi.toNat t.s)(hi:L[i]? =some (.row aO 4 s (ts.flatMap I.c)):=by rfl):
  mA s X λp=>∃a b c:Int,∃d:Sl,w.cell? ((p.add (a1 X *4)).add 0)=some (.i a)/\w.cell? ((p.add (a1 X *4)).add 1)=some (.int .u8 b)/\w.cell? ((p.add (a1 X *4)).add 2)=some (.int .u8 c)/\w.cell? ((p.add (a1 X *4)).add 3)=some d.v/\K a b c d:=by subst q;have h:aK w aO 4 s (ts.flatMap I.c):=H.get i hi;have y:=I.cb h.a7;have x:=(cr.1 e).1;exact⟨by omega,by omega,Dx h e λp z c=>⟨_,_,_,_,c.c0,c.c1,c.c2,c.c3,j⟩⟩
def _root_.Go.W.O.Be(H:O M w0 w L D)(i k:Nat){s:Sl}{ts:List I}{t:I}{X:Int}{K:J->Prop}(q:X=(k:Int))(d:k<ts.length)(j:∀h,O M w0 h (L.set i (.row aO 4 s ((ts.set k t).flatMap I.c))) D->K h)(hi:L[i]? =some (.row aO 4 s (ts.flatMap I.c)):=by rfl):
  mA s X λp=>aJ w (p.add (a1 X *4)) (.i t.k) λz=>aJ z ((p.add (a1 X *4)).add 1) (.int .u8 (t.lo.toNat:Int)) λA=>aJ A ((p.add (a1 X *4)).add 2) (.int .u8 (t.hi.toNat:Int)) λB=>aJ B ((p.add (a1 X *4)).add 3) t.s.v K:=by subst q;have e:aK w aO 4 s (ts.flatMap I.c):=H.get i hi;have C:=I.cb e.a7;have x:ts[k]? =some ts[k]:=a5 d;exact⟨by omega,by omega,Dx e x λp y c=>H.Y0 i k hi y d j⟩
end
def BN{j:Nat}(d:1<=j)(e:j<=1000000000):aG .i64 ((j:Int) - 1)=((j - 1:Nat):Int):=by rw[bm _ (by omega)];omega
abbrev dz(b:Nat)(u:I):En:=.c b u.c aO
def Jc{w:J}{k u:I}{b:Nat}(h:k.P w)(j:u.P w)(e:w.heap[b]? =some (.cells u.c.toArray aO (0,0))):O F0 w w [] [.tree k,.tree u,dz b u]:=bO _ (by
 intro q d;simp only[aE,aZ,a2]at d;rcases d with rfl|rfl|rfl
 .exact h
 .exact j
 .exact e)
def Gl(k u:I)(b:Nat)(w:J)(h:k.sz<=1000000)(q:k.P w)(x:u.P w)(j:w.heap[b]? =some (.cells u.c.toArray aO (0,0))):aj U sC #[k.v,.pointer (some (ad b))] w λr y=>r=ae (.bool (bd k.rx u.rx==0))/\ah w y:=by refine NJ.au _ _ _ _ _ w _ ((Jc q x j).ay λA z d=>⟨_,_,_,u.s,d.dB 2 0,d.dB 2 1,d.dB 2 2,d.dB 2 3,d.av (ud k u z h (d.getD 0) (d.getD 1)) ?_⟩);rintro _ B rfl e;exact⟨_,rfl,rfl,e.fr⟩
def RV(k u:I)(b:Nat)(w:J)(h:k.sz<=1000000)(q:k.P w)(x:u.P w)(j:w.heap[b]? =some (.cells u.c.toArray aO (0,0))):aj U CM #[k.v,.pointer (some (ad b))] w λr y=>r=ae (.bool (bd k.rx u.rx==0))/\ah w y:=by refine NN.au _ _ _ _ _ w _ ((Jc q x j).ay λA z d=>⟨_,_,_,u.s,d.dB 2 0,d.dB 2 1,d.dB 2 2,d.dB 2 3,d.av (ud k u z h (d.getD 0) (d.getD 1)) ?_⟩);rintro _ B rfl e;exact⟨_,rfl,rfl,e.fr⟩
def RU(k:I)(w:J)(j:k.P w):aj U vi #[k.v] w λr q=>r=ae k.v/\ah w q:=by refine NL.au _ _ _ _ w _ ((ga j).ay λx z d=>d.ay λy A e=>e.af λB h=>⟨rfl,h.fr⟩)
def lu(q:I->Bool):List I->Nat->Int
 |[],_=>-1
 |a::l,i=>if q a then(i:Int)else lu q l (i+1)
def Ir(q:I->Bool):∀(l:List I) (i:Nat),ao (lu q l i>=0)=l.any q
 |[],i=>rfl
 |a::l,i=>by
  unfold lu;rw[List.any_cons];cases d:q a with
  |true=>simp
  |false=>simpa using Ir q l (i+1)
def F7(s:Sl)(l:List I)(f:Fv)(q:I->Bool)(D:List En)(w:J)(Q:l.length<=1000000)(E:br 4 w s (l.flatMap I.c))(F:∀z∈D,z.P w)(G:gI U f.n=true)(H:∀h t,t∈l->O F0 w h [] (I.row s l::D)->aj U f.n (f.bs++#[t.v]++f.cs) h λr M=>r=ae (.bool (q t))/\ah h M):
  aj U Lg #[s.v,f.v] w λr h=>r=ae (.int .i64 (lu q l 0))/\ah w h:=by
 have T:=I.cb E;have loop:∀(d i:Nat) (y:J),i+d=l.length->lu q (l.drop i) i=lu q l 0->O F0 w y [] (I.row s l::D)->vT.L0 s f ((s.n:Nat):Int) (i:Int) y λr h=>r=ae (.int .i64 (lu q l 0))/\ah w h:=by
  intro d;induction d with
  |zero=>
   intro i y K e j;rw[de (by omega)]at e;exact vT.cU _ _ _ _ _ _ (aV (aP (by omega)) ⟨by rw[<-e];rfl,j.fr⟩)
  |succ d L=>
   intro i y K e j;have A:l[i]? =some (l[i]'(by omega)):=a5 (by omega);rw[dk (by omega:i<l.length)]at e;generalize l[i]'(by omega)=x at A e;refine vT.cU _ _ _ _ _ _ (aT (aM (by omega)) ⟨by omega,by omega,I.a3 (j.getD 0) A λp S c=>⟨x.k,x.lo.toNat,x.hi.toNat,x.s,c.c0,c.c1,c.c2,c.c3,?_⟩⟩);rw[G];refine(show cB true _ from ?_);refine j.call (H y x (aB A) j) ?_;rintro _ N rfl C;have e:(if q x then(i:Int)else lu q (l.drop (i+1)) (i+1))=lu q l 0:=e;refine⟨_,rfl,bh (λB=>⟨?_,C.fr⟩) (λB=>?_)⟩
   .rw [ag B]at e;rw[e]
   .rw [ab (by rw[B];simp)]at e;rw[bw _ (by omega)];exact L (i+1) N (by omega) e C
 refine vT.ok _ _ w _ (loop l.length 0 w (by omega) (by simp) (bO _ (λz e=>?_)));rcases aE.1 e with rfl|e
 .exact E
 .exact F z e
def Rs(s:Sl)(l:List I)(f:Fv)(q:I->Bool)(D:List En)(w:J)(y:l.length<=1000000)(z:br 4 w s (l.flatMap I.c))(j:∀e∈D,e.P w)(k:gI U f.n=true)(x:∀d t,t∈l->O F0 w d [] (I.row s l::D)->aj U f.n (f.bs++#[t.v]++f.cs) d λr A=>r=ae (.bool (q t))/\ah d A):
  aj U Ld #[s.v,f.v] w λr d=>r=ae (.bool (l.any q))/\ah w d:=by refine OP.ok _ _ w _ ((F7 s l f q D w y z j k x).mono ?_);rintro _ B ⟨rfl,h⟩;refine⟨_,rfl,?_,h⟩;rw[Ir]
def Is(q:I->Bool):∀(l:List I) (k:Nat),(lu q l k=-1/\∀t∈l,q t=false)\/∃m a,l[m]? =some a/\q a=true/\lu q l k=((k+m:Nat):Int)/\∀t∈l.take m,q t=false
 |[],k=>.inl ⟨rfl,by simp⟩
 |a::l,k=>by
  unfold lu;cases h:q a with
  |true=>exact .inr ⟨0,a,rfl,h,by simp,by simp⟩
  |false=>
   rcases Is q l (k+1)with⟨d,e⟩|⟨m,x,d,e,j,w⟩
   .exact .inl ⟨by simpa using d,by simpa[h]using e⟩
   .refine .inr ⟨m+1,x,by simpa using d,e,?_,?_⟩
    .simp only[j,Bool.false_eq_true,if_false];omega
    .simp only[List.take_succ_cons,aE,forall_eq_or_imp];exact⟨h,w⟩
section
variable {M:Nat->Prop} {w0 w:J} {L D:List En} {bs:List Nat}
def _root_.Go.W.O.AU(H:O M w0 w L D)(i:Nat){P:aw}{g:FuncId}{args:Array aa}{A K:aC}{e:aD}{sz:Nat}{s:Sl}{xs:List aa}(hi:L[i]? =some (.row e sz s xs))(x:aj P g args w λr d=>A r d/\Fr (·∈aN s) w d)(B:∀r d,A r d->(∀h:En,h.P d->(∀b∈h.fp,b∈aN s\/w.heap.size<=b)->O M w0 d (L.set i h) D)->K r d)(q:∀b∈bs,En.g b∈L:=by simp):fq bs P g args w K:=
 ⟨(·∈aN s),λb k=>H.xu hi (q b k),x.mono λr d ⟨j,f⟩=>⟨f,B r d j λh y z=>H.fC i h hi f y z⟩⟩
def _root_.Go.W.O.off(H:O M w0 w L D)(i j:Nat){e:aD}{sz:Nat}{s:Sl}{xs:List aa}{d:En}(hi:L[i]? =some (.row e sz s xs):=by rfl)(q:D[j]? =some d:=by rfl):∀h∈aN s,h∉d.fp:=λh x k=>
 H.dj d (aB q) h k _ (aB hi) x
end
def tT(s:Sl)(l:List I)(r:cA)(w V:J):Prop:=∃d:Sl,r=ae d.v/\aK V aO 4 d (l.flatMap I.c)/\∀e∈aN d,e∈aN s
def Cb{w:J}{s:Sl}{l:List I}(D:List En)(q:aK w aO 4 s (l.flatMap I.c))(j:∀d∈D,d.P w/\∀y∈aN s,y∉d.fp):O (·∈aN s) w w [.row aO 4 s (l.flatMap I.c)] D:=
 O.og _ _ (by
  intro d e;simp only[aE,aZ,a2]at e;subst e;exact⟨q,λb h=>h⟩) (by
  simp only[df,List.flatMap_nil,cP];exact(En.row aO 4 s (l.flatMap I.c)).nd) (λd e=>⟨(j d e).1,λb h z k=>by simp only[aE,aZ,a2]at k;subst k;exact λx=>(j d e).2 b x h⟩)
def Pp{α:Type}{l:List α}{i:Nat}{a:α}(d:i<l.length):(l.set i a).take (i+1)=l.take i++[a]:=by rw[g3,hv d,List.take_set_of_le (be _)];rfl
def Ru(s:Sl)(l:List I)(u:I)(b:Nat)(w:J)(hl:I.aY l<=1000000)(N:aK w aO 4 s (l.flatMap I.c))(pl:I.Ps w l)(pu:u.P w)(hb:w.heap[b]? =some (.cells u.c.toArray aO (0,0)))(hd:∀h∈aN s,h∉I.a8 l/\h∉u.fp/\h≠b):
  aj U Le #[s.v,.func (.func sC) #[] #[.pointer (some (ad b))]] w λr z=>tT s (l.filter λt=>!(bd t.rx u.rx==0)) r w z/\Fr (·∈aN s) w z:=by
 have nr:=I.cb N.a7;have ll:=I.fB l;have kt:∀t∈l,t.sz<=1000000:=λt y=>bp (I.ef y) hl;have Q:O (·∈aN s) w w [.row aO 4 s (l.flatMap I.c)] [.trees l,.tree u,dz b u]:=Cb _ N (by
  intro T W;simp only[aE,aZ,a2]at W;rcases W with rfl|rfl|rfl
  .exact ⟨pl,λh e B=>(hd h e).1 (a4.1 B)⟩
  .exact ⟨pu,λh e B=>(hd h e).2.1 (a4.1 B)⟩
  .exact ⟨hb,λh e B=>(hd h e).2.2 (by simpa[dz,En.c,En.ob]using B)⟩)
 have loop:∀(d i j:Nat) (cur:List I) (C:J),j+d=l.length->i<j->cur.length=l.length->cur.drop j=l.drop j->cur.take i=(l.take j).filter (λt=>!(bd t.rx u.rx==0))->O (·∈aN s) w C [.row aO 4 s (cur.flatMap I.c)] [.trees l,.tree u,dz b u]->
   qP.a0 s (ad b) (i:Int) (j:Int) C λr z=>tT s (l.filter λt=>!(bd t.rx u.rx==0)) r w z/\Fr (·∈aN s) w z:=by
  intro d;induction d with
  |zero=>
   intro i j cur C hj ae M G K q;refine qP.bJ _ _ _ _ _ _ (aV (aP (by omega)) ⟨by omega,by omega,?_⟩);have ag:=(q.get 0:aK _ _ _ _ _).cap;obtain⟨w2,A,D,F⟩:=Hb (ty:=mu) qa Qk rfl (q.get 0) i (by omega);refine⟨w2,A,by omega,by omega,⟨⟨if s.c=0 then s.a else s.a.map (·.add (0 *4)),i - 0,s.c - 0⟩,rfl,?_,λh e=>?_⟩,q.fr.trans F λh _ ab=>ab⟩
   .have T:(cur.flatMap I.c).take (i *4)=(l.filter λt=>!(bd t.rx u.rx==0)).flatMap I.c:=by
     have e1:(cur.flatMap I.c).take (i *4)=(cur.take i).flatMap I.c:=by
      have:=I.gZ (cur.take i);conv=>lhs;rw[<-DO i cur,cC]
      rw[List.take_append_of_le_length (by rw[this,fx];omega),dM (by rw[this,fx];omega)]
     rw[e1,K,dM (by omega)]
    rw[<-T];exact D
   .simp only[aN]at e ⊢;split at e
    .rename_i p x;split at x
     .rw [x];exact e
     .cases Z:s.a with
      |none=>rw[Z]at x;cases x
      |some ai=>
       rw[Z]at x;simp only[Option.map_some,e0]at x;subst x;rw[jv]at e;exact e
    .cases e
  |succ d aa=>
   intro i j cur C hj ae M G K q;have H:l[j]? =some (l[j]'(by omega)):=a5 (by omega);generalize ah:l[j]'(by omega)=a at H;have ac:cur[j]? =some a:=by
    have:(cur.drop j)[0]? =(l.drop j)[0]?:=by rw[G]
    simpa[sX,H]using this
   have V:=aB H;have Y:l.take (j+1)=l.take j++[a]:=by rw[g3,H];rfl
   refine qP.bJ _ _ _ _ _ _ (aT (aM (by omega)) ⟨by omega,by omega,Dx (q.get 0) ac λp x c=>⟨a.k,a.lo.toNat,a.hi.toNat,a.s,c.c0,c.c1,c.c2,c.c3,?_⟩⟩);refine q.ay (λb7 w2 H2=>H2.af λw3 E=>?_);refine E.av (Gl a u b w3 (kt a V) ((show I.Ps w3 l from E.getD 0).mem V) (E.getD 1) (E.getD 2)) ?_;rintro _ w4 rfl S;refine⟨_,rfl,ey (λhf=>⟨by omega,by omega,?_⟩) (λy=>?_)⟩
   .rw [x];refine(show dJ (some p) _ from ?_);refine S.O8 0 i (t:=a) (ts:=cur) rfl x (by omega) (λw5 H5=>?_);show qP.a0 _ _ _ _ _ _;rw[bw _ (by omega),bw _ (by omega)];refine aa (i+1) (j+1) (cur.set i a) w5 (by omega) (by omega) (by simpa using M) ?_ ?_ (H5.take 1)
    .rw [List.drop_set_of_lt (by omega),<-ke,G,ke]
    .rw [Pp (by omega),K,Y,List.filter_append];simp[hf]
   .show qP.a0 _ _ _ _ _ _;rw[bw _ (by omega)];refine aa i (j+1) cur w4 (by omega) (by omega) M ?_ ?_ (S.take 1)
    .rw [<-ke,G,ke]
    .rw [K,Y,List.filter_append];simp[y]
 refine qP.au _ _ w _ ?_;have hI:=F7 s l ⟨sC,#[],#[.pointer (some (ad b))]⟩ (λt=>bd t.rx u.rx==0) [.trees l,.tree u,dz b u] w (by omega) N.a7 (Q.rd) (by kernel_rfl) (λz t y L=>Gl t u b z (kt t y) ((show I.Ps z l from L.getD 1).mem y) (L.getD 2) (L.getD 3));refine Q.call hI ?_;rintro _ C rfl q;rcases Is (λt=>bd t.rx u.rx==0) l 0 with⟨A,D⟩|⟨m,a,A,D,F,h4⟩
 .refine ⟨_,rfl,aT (by rw[A];rfl) ⟨⟨s,rfl,?_,λh e=>e⟩,q.fr⟩⟩;rw[List.filter_eq_self.2 (λt y=>by rw[D t y];rfl)];exact q.get 0
 .have B:m<l.length:=(cr.1 A).1;refine⟨_,rfl,aV (by rw[F];exact beq_eq_false_iff_ne.2 (by omega)) ?_⟩;rw[F,Nat.zero_add,bw _ (by omega)];refine loop (l.length - (m+1)) m (m+1) l C (by omega) (by omega) rfl rfl ?_ q;rw[g3,A,List.filter_append,List.filter_eq_self.2 (λt y=>by rw[h4 t y];rfl)];simp only[Option.toList_some,List.filter_cons,D];simp
def eL(x k:I):List I:=if k.k=x.k then k.l else[k]
def B1(u t:I):Bool:=!(bd t.rx u.rx==0)
def fX(x u:I):List I:=(x.l.flatMap (eL x)).filter (B1 u)
structure Sub(x:I)(l:List I):Prop where
 P:∀w:J,x.P w->∀t∈l,t.P w
 fp:∀t∈l,∀b∈t.fp,b∈x.fp
def Sub.part{x t:I}(e:t∈x.l):Sub x [t]:=⟨λq j k d=>by
  simp at d;subst d;exact j.parts.2.mem e,λk d b h=>by simp at d;subst d;exact I.fY.2 (.inr (I.bK.2 ⟨_,e,h⟩))⟩
def Sub.open{x k:I}(d:k∈x.l):Sub x (eL x k):=by
 unfold eL;split
 .exact ⟨λq j t e=>((j.parts.2.mem d).parts.2).mem e,λt e b h=>I.fY.2 (.inr (I.bK.2 ⟨k,d,I.fY.2 (.inr (I.bK.2 ⟨t,e,h⟩))⟩))⟩
 .exact .part d
def Sub.flat{x:I}{l:List I}(j:∀e∈l,e∈x.l):Sub x (l.flatMap (eL x)):=⟨λq k t d=>by
  obtain⟨e,h,d⟩:=bB.1 d;exact(Sub.open (j e h)).P q k t d,λt d=>by obtain⟨e,h,d⟩:=bB.1 d;exact(Sub.open (j e h)).fp t d⟩
def Sub.sub{x:I}{l m:List I}(e:Sub x l)(h:∀t∈m,t∈l):Sub x m:=⟨λk j t d=>e.P k j t (h t d),λt d=>e.fp t (h t d)⟩
def Sub.Ps{x:I}{l:List I}(d:Sub x l){w:J}(e:x.P w):I.Ps w l:=I.iP (d.P w e)
def Sub.a8{x:I}{l:List I}(e:Sub x l){b:Nat}(d:b∈I.a8 l):b∈x.fp:=by obtain⟨t,h,d⟩:=I.bK.1 d;exact e.fp t h b d
def Sub.fX(x u:I):Sub x (fX x u):=(Sub.flat (λ_ d=>d)).sub λ_ d=>(List.mem_filter.1 d).1
def tu(x:I):∀l:List I,I.aY (l.flatMap (eL x))<=I.aY l
 |[]=>be _
 |d::l=>by
  have e:I.aY (eL x d)<=d.sz:=by
   unfold eL;split
   .rw [I.hP d];omega
   .simp [I.aY]
  rw[df,tt];have:=tu x l;show _<=d.sz+I.aY l;omega
def Pf(q:I->Bool):∀l:List I,I.aY (l.filter q)<=I.aY l
 |[]=>be _
 |d::l=>by
  have:=Pf q l;rw[List.filter_cons];split
  .unfold I.aY;omega
  .show _<=d.sz+I.aY l;omega
def Za(x u:I):I.aY (fX x u)+1<=x.sz:=by have d:=Pf (B1 u) (x.l.flatMap (eL x));have e:=tu x x.l;rw[I.hP x];unfold fX;omega
def Ae(w:J)(l:List I)(r:cA)(V:J):Prop:=∃d:Sl,r=ae d.v/\aK V aO 4 d (l.flatMap I.c)/\∀e∈aN d,w.heap.size<=e
def RS(x u:I)(w:J)(am:x.sz<=1000000)(Z:x.P w)(pu:u.P w):aj U KY #[x.v,u.v] w λr V=>Ae w (fX x u) r V/\ah w V:=by
 have hs:=I.hP x;have hl:=I.fB x.l;have nr:=I.cb Z.parts.1;have loop:∀(d i:Nat) (acc:List I) (sl:Sl) (h q:Nat) (z:J),i+d=x.l.length->acc=(x.l.take i).flatMap (eL x)->O F0 w z [.g h,.c q u.c aO,.row aO 4 sl (acc.flatMap I.c)] [.tree x,.tree u]->
   qJ.a0 h x.k x.lo.toNat x.hi.toNat x.s (ad q) sl x.s ((x.s.n:Nat):Int) (i:Int) z λr V=>Ae w (fX x u) r V/\ah w V:=by
  intro d;induction d with
  |zero=>
   intro i acc sl h q z aa B e;have T:Sub x acc:=by rw[B];exact Sub.flat λao C=>List.mem_of_mem_take C
   have ai:I.aY acc<=I.aY x.l:=by rw[B,dM (by omega)];exact tu x x.l
   refine qJ.bJ _ _ _ _ _ _ _ _ _ _ _ _ (aV (aP (by omega)) ?_);refine e.AU 2 rfl (Ru sl acc u q z (by omega) (e.get 2) (T.Ps (e.getD 0)) (e.getD 1) (e.ob 1) (λS L=>⟨λy=>e.off 2 0 rfl rfl S L (a4.2 (T.a8 y)),λy=>e.off 2 1 rfl rfl S L (a4.2 y),λy=>?_⟩)) ?_
   .exact i5 e.nd (i:=2) rfl (j:=1) rfl (by omega) S L (by simp[En.c,En.ob,y])
   rintro _ M ⟨s',rfl,K,hb⟩ hH;have A:=hH (.row aO 4 s' ((acc.filter (B1 u)).flatMap I.c)) K λb H=>.inl (hb b H);refine⟨s',rfl,⟨s',rfl,?_,λb H=>(A.new _ (aB (i:=2) rfl) b H).resolve_right id⟩,A.fr⟩;rw[B,dM (by omega)]at K;exact K
  |succ d ak=>
   intro i acc sl h q z aa B e;have F:x.l[i]? =some (x.l[i]'(by omega)):=a5 (by omega);generalize x.l[i]'(by omega)=a at F;have y:=aB F;have al:x.P z:=e.getD 0;have aq:=I.ef y;have ai:I.aY acc<=I.aY x.l:=by have h1:=tu x (x.l.take i);have h2:=zm x.l i;rw[B];omega
   have ae:acc++eL x a=(x.l.take (i+1)).flatMap (eL x):=by rw[g3,F,cC,B];simp
   have ap:=I.cb (e.get 2:aK _ _ _ _ _).a7;have ac:=I.fB acc;have tail:∀(s':Sl) (V:J),O F0 w V [.g h,.c q u.c aO,.row aO 4 s' ((acc++eL x a).flatMap I.c)] [.tree x,.tree u]->qJ.bb h x.k x.lo.toNat x.hi.toNat x.s (ad q) s' x.s ((x.s.n:Nat):Int) (i:Int) V λr V=>Ae w (fX x u) r V/\ah w V:=by intro s' V H';show qJ.a0 _ _ _ _ _ _ _ _ _ _ _ _;rw[bw _ (by omega)];exact ak (i+1) _ s' h q V (by omega) ae H'
   refine qJ.bJ _ _ _ _ _ _ _ _ _ _ _ _ (aT (aM (by omega)) ⟨by omega,by omega,I.a3 al.parts.1 F λp hp c=>⟨_,_,_,_,c.c0,c.c1,c.c2,c.c3,?_⟩⟩);refine e.ay λb7 M A=>ax (λC=>A.af λN D=>?_) (λC=>A.af λN D=>?_)
   .have Y:a.P N:=(show x.P N from D.getD 0).parts.2.mem y;have na:=I.cb Y.parts.1;have ac:=I.fB a.l;have an:=I.hP a;refine D.eb 2 qa (xs:=acc.flatMap I.c) (src:=a.s) (news:=a.l.flatMap I.c) rfl Y.parts.1 (rG _) (by omega) (λs' Q G=>?_);refine tail s' Q ?_;have E:eL x a=a.l:=ag C;rw[E,cC];exact G.take 3
   .refine D.iA 2 qa (xs:=acc.flatMap I.c) rfl (λs' Q G=>?_) (by omega);refine tail s' Q ?_;have E:eL x a=[a]:=ab C;rw[E,lj];exact G.take 3
 refine qJ.au _ _ _ _ _ _ _ _ w _ ((bO [.tree x,.tree u] (by
  intro E W;simp only[aE,aZ,a2]at W;rcases W with rfl|rfl
  .exact Z
  .exact pu)).ay λh z H1=>H1.nw λM _ A=>?_)
 exact loop x.l.length 0 [] ⟨none,0,0⟩ h z.heap.size M (by omega) rfl (A.h' aO 4)
def A0(a b:Int):cq b a=-cq a b:=by
 have s:∀a b:Int,(cq a b=-1/\a<b)\/(cq a b=1/\b<a)\/(cq a b=0/\a=b):=λa b=>by
  unfold cq;split
  .exact .inl ⟨rfl,by omega⟩
  .split
   .exact .inr (.inl ⟨rfl,by omega⟩)
   .exact .inr (.inr ⟨rfl,by omega⟩)
 rcases s a b with d|d|d<;>rcases s b a with e|e|e<;>omega
def Dv(c d:Int)(l m:List Int)(e:d=-c)(h:dQ m=-dQ l):dQ (d::m)=-dQ (c::l):=by
 show(if d≠0 then d else dQ m)=-(if c≠0 then c else dQ l);split
 .rw [ag (by omega)];exact e
 .rw [ab (by omega)];exact h
def vm(c:Int):dQ [c]=c:=by show(if c≠0 then c else 0)=c;split<;>omega
def rL(k:Int)(lo hi:UInt8)(l:List Rx)(b:Rx):bd (.mk k lo hi l) b=dQ [cq k b.k,cq lo.toNat b.lo.toNat,cq hi.toNat b.hi.toNat,cmpL l b.l]:=by
 unfold bd;generalize cq k b.k=c0;generalize cq lo.toNat b.lo.toNat=c1;generalize cq hi.toNat b.hi.toNat=c2;generalize cmpL l b.l=c3;simp only[dQ];by_cases d:c0=0
 .by_cases e:c1=0
  .by_cases h:c2=0
   .by_cases j:c3=0<;>simp[d,e,h,j]
   .simp [d,e,h]
  .simp [d,e]
 .simp [d]
mutual
def rM:∀a b:Rx,bd b a=-bd a b
 |.mk j lo e l,.mk k q h d=>by rw[rL,rL];exact Dv _ _ _ _ (A0 _ _) (Dv _ _ _ _ (A0 _ _) (Dv _ _ _ _ (A0 _ _) (by rw[vm,vm];exact G0 l d)))
def G0:∀a b:List Rx,cmpL b a=-cmpL a b
 |[],[]=>by unfold cmpL;rfl
 |[],_::_=>by unfold cmpL;rfl
 |_::_,[]=>by unfold cmpL;rfl
 |d::l,e::m=>by
  have h:=rM d e;have j:=G0 l m;show(if bd e d≠0 then bd e d else cmpL m l)=-(if bd d e≠0 then bd d e else cmpL l m);split
  .rw [ag (by omega)];exact h
  .rw [ab (by omega)];exact j
end
structure pK(x y z:Int):Prop where
 le:x<=0->y<=0->z<=0
 lt:x<0->y<=0->z<0
 lt':x<=0->y<0->z<0
 eq:x=0->y=0->z=0
def A1(a b c:Int):pK (cq a b) (cq b c) (cq a c):=by
 have s:∀a b:Int,(cq a b=-1/\a<b)\/(cq a b=1/\b<a)\/(cq a b=0/\a=b):=λa b=>by
  unfold cq;split
  .exact .inl ⟨rfl,by omega⟩
  .split
   .exact .inr (.inl ⟨rfl,by omega⟩)
   .exact .inr (.inr ⟨rfl,by omega⟩)
 rcases s a b with d|d|d<;>rcases s b c with e|e|e<;>rcases s a c with h|h|h<;>constructor<;>omega
def zv{x y q z A B:Int}(H:pK x y q)(I:pK z A B):pK (if x≠0 then x else z) (if y≠0 then y else A) (if q≠0 then q else B):=by
 obtain⟨K,h,k,C⟩:=H;obtain⟨D,E,F,G⟩:=I;by_cases w:x=0
 .by_cases j:y=0
  .have L:=C w j;rw[ab (by omega),ab (by omega),ab (by omega)];exact⟨D,E,F,G⟩
  .rw [ab (by omega:¬x≠0),ag j];constructor
   .intro d e;have:=k (by omega) (by omega);rw[ag (by omega)];omega
   .intro d e;have:=k (by omega) (by omega);rw[ag (by omega)];omega
   .intro d e;have:=k (by omega) (by omega);rw[ag (by omega)];omega
   .intro d e;omega
 .rw [ag w];by_cases j:y=0
  .rw [ab (by omega:¬y≠0)];constructor
   .intro d e;have:=h (by omega) (by omega);rw[ag (by omega)];omega
   .intro d e;have:=h (by omega) (by omega);rw[ag (by omega)];omega
   .intro d e;have:=h (by omega) (by omega);rw[ag (by omega)];omega
   .intro d e;omega
  .rw [ag j];constructor
   .intro d e;have:=h (by omega) (by omega);rw[ag (by omega)];omega
   .intro d e;have:=h (by omega) (by omega);rw[ag (by omega)];omega
   .intro d e;have:=h (by omega) (by omega);rw[ag (by omega)];omega
   .intro d e;omega
mutual
def w9:∀a b c:Rx,pK (bd a b) (bd b c) (bd a c)
 |.mk q lo h l,.mk w y j d,.mk x z k e=>by
  rw[rL,rL,rL];have:=G1 l d e;exact zv (A1 _ _ _) (zv (A1 _ _ _) (zv (A1 _ _ _) (by show pK (dQ [cmpL l d]) (dQ [cmpL d e]) (dQ [cmpL l e]);rw[vm,vm,vm];exact this)))
def G1:∀a b c:List Rx,pK (cmpL a b) (cmpL b c) (cmpL a c)
 |[],[],[]=>by unfold cmpL;constructor<;>omega
 |[],[],_::_=>by unfold cmpL;constructor<;>omega
 |[],_::_,[]=>by unfold cmpL;constructor<;>omega
 |_::_,[],[]=>by unfold cmpL;constructor<;>omega
 |_::_,[],_::_=>by have d:∀(x:Rx) (l:List Rx),cmpL (x::l) []=1:=λ_ _=>rfl;have e:∀(x:Rx) (l:List Rx),cmpL [] (x::l)=-1:=λ_ _=>rfl;rw[d,e];constructor<;>omega
 |[],h::m,j::n=>by have e:∀(x:Rx) (l:List Rx),cmpL [] (x::l)=-1:=λ_ _=>rfl;rw[e,e];constructor<;>omega
 |x::l,h::m,[]=>by have d:∀(x:Rx) (l:List Rx),cmpL (x::l) []=1:=λ_ _=>rfl;rw[d,d];constructor<;>omega
 |x::l,h::m,j::n=>zv (w9 x h j) (G1 l m n)
end
def lx(x:Rx):List Rx->List Rx
 |[]=>[x]
 |d::p=>if bd x d<0 then d::lx x p else x::d::p
def kj(l:List Rx):List Rx:=(l.foldl (λp d=>lx d p) []).reverse
def j0(p:Rx):List Rx->List Rx
 |[]=>[]
 |d::l=>if bd d p==0 then j0 d l else d::j0 d l
def pZ:List Rx->List Rx
 |[]=>[]
 |a::l=>a::j0 a l
def A2{a b:Int}(d:cq a b=0):a=b:=by
 unfold cq at d;split at d
 .cases d
 .split at d
  .cases d
  .omega
def MA:∀{l:List Int},dQ l=0->∀h∈l,h=0
 |[],_=>λh d=>by cases d
 |a::l,e=>by
  unfold dQ at e;split at e
  .rename_i k;exact absurd e k
  .rename_i j;have j:a=0:=by simpa using j
   intro h d;rcases aE.1 d with rfl|d
   .exact j
   .exact MA e h d
def PZ{a b:UInt8}(d:(a.toNat:Int)=b.toNat):a=b:=UInt8.toNat_inj.1 (by omega)
mutual
def cmp_eq:∀a b:Rx,bd a b=0->a=b
 |.mk z lo x l,.mk A B y w,d=>by rw[rL]at d;have d:=MA d;have e:=A2 (d _ (me ..));have h:=PZ (A2 (d _ (cH _ (me ..))));have j:=PZ (A2 (d _ (cH _ (cH _ (me ..)))));have q:=G5 l w (d _ (cH _ (cH _ (cH _ (me ..)))));simp only[Rx.k,Rx.lo,Rx.hi]at e h j;rw[e,h,j,q]
def G5:∀l m:List Rx,cmpL l m=0->l=m
 |[],[],_=>rfl
 |[],_::_,d=>by unfold cmpL at d;cases d
 |_::_,[],d=>by unfold cmpL at d;cases d
 |a::l,b::m,d=>by
  unfold cmpL at d;split at d
  .rename_i h;exact absurd d h
  .rename_i e;rw[cmp_eq a b (by simpa using e),G5 l m d]
end
def A5(a:Rx):bd a a=0:=by have:=rM a a;omega
def pY{a b:Rx}:(bd a b==0)=true↔a=b:=⟨λd=>cmp_eq a b (eq_of_beq d),λd=>by subst d;rw[A5];rfl⟩
def uj{a b:Rx}:bd a b=0↔a=b:=⟨cmp_eq a b,λd=>by subst d;exact A5 a⟩
def G4{a b:Rx}:(!(bd a b==0))=true↔a≠b:=by rw[Bool.not_eq_true',<-iX,not_congr pY]
abbrev i0(l:List Rx):Prop:=l.Pairwise λa b=>bd a b<0
abbrev nn(l:List Rx):Prop:=l.Pairwise λa b=>bd a b<=0
def i0.nodup{l:List Rx}(e:i0 l):l.Nodup:=List.nodup_iff_pairwise_ne.2 (e.imp λ{a b} h d=>by subst d;rw[A5]at h;omega)
def i0.FL{l:List Rx}(d:i0 l):nn l:=d.imp λ{a b} e=>by omega
def FN{l m:List Rx}(e:nn l)(h:nn m)(d:l.Perm m):l=m:=List.Perm.eq_of_pairwise (λa b _ _ j k=>cmp_eq a b (by have:=rM a b;omega)) e h d
def Ux{l m:List Rx}(d:i0 l)(e:i0 m)(h:∀t,t∈l↔t∈m):l=m:=FN d.FL e.FL ((List.perm_ext_iff_of_nodup d.nodup e.nodup).2 h)
def BS(x:Rx):∀p:List Rx,(lx x p).Perm (x::p)
 |[]=>.refl _
 |d::p=>by
  unfold lx;split
  .exact ((BS x p).cons d).trans (.swap x d p)
  .exact .refl _
def Iz(x:Rx):∀{p:List Rx},p.Pairwise (λa b=>bd b a<=0)->(lx x p).Pairwise λa b=>bd b a<=0
 |[],_=>by unfold lx;simp
 |h::p,j=>by
  have e:=List.pairwise_cons.1 j;unfold lx;split
  .rename_i q;refine List.pairwise_cons.2 ⟨λt d=>?_,Iz x e.2⟩;rcases aE.1 ((BS x p).mem_iff.1 d)with rfl|d
   .omega
   .exact e.1 t d
  .rename_i q;have k:bd h x<=0:=by have:=rM x h;omega
   refine List.pairwise_cons.2 ⟨λt d=>?_,j⟩;rcases aE.1 d with rfl|d
   .exact k
   .exact (w9 t h x).le (e.1 t d) k
def Et(l:List Rx):(kj l).Perm l:=by
 have:∀(l p:List Rx),(l.foldl (λp h=>lx h p) p).Perm (l++p):=by
  intro l;induction l with
  |nil=>intro p;exact .refl _
  |cons a l e=>
   intro p;rw[List.foldl_cons];exact(e _).trans (((BS a p).append_left l).trans List.perm_middle)
 unfold kj;have d:=this l [];rw[cP]at d;exact(List.reverse_perm _).trans d
def Es(l:List Rx):nn (kj l):=by
 have:∀(l p:List Rx),p.Pairwise (λa b=>bd b a<=0)->(l.foldl (λp h=>lx h p) p).Pairwise λa b=>bd b a<=0:=by
  intro l;induction l with
  |nil=>intro p d;exact d
  |cons a l e=>intro p d;exact e _ (Iz a d)
 unfold kj;exact List.pairwise_reverse.2 (this l [] .nil)
def YB{l m:List Rx}(d:nn m)(e:m.Perm l):m=kj l:=FN d (Es l) (e.trans (Et l).symm)
def A7{t:Rx}:∀{l:List Rx} {p:Rx},(t=p\/t∈j0 p l)↔(t=p\/t∈l)
 |[],p=>by unfold j0;simp
 |e::l,p=>by
  unfold j0;split
  .rename_i d;have h:e=p:=pY.1 d;subst h;rw[A7,aE];constructor
   .rintro (d|d)<;>simp[d]
   .rintro (d|d|d)<;>simp[d]
  .rw [aE,aE];have:=A7 (t:=t) (l:=l) (p:=e);constructor
   .rintro (d|d)
    .exact .inl d
    .exact .inr (this.1 d)
   .rintro (d|d)
    .exact .inl d
    .exact .inr (this.2 d)
def A6:∀{l:List Rx} {p:Rx},nn (p::l)->i0 (p::j0 p l)
 |[],p,_=>by unfold j0;simp
 |d::l,p,x=>by
  obtain⟨y,k⟩:=List.pairwise_cons.1 x;unfold j0;split
  .rename_i j;have e:d=p:=pY.1 j;subst e;exact A6 k
  .rename_i j;have w:bd p d<0:=by have z:=y d (by simp);have A:=rM d p;have B:bd d p≠0:=λe=>j (by rw[e];rfl);omega
   have q:=A6 k;refine List.pairwise_cons.2 ⟨λt h=>?_,q⟩;rcases aE.1 h with rfl|h
   .exact w
   .exact (w9 p d t).lt w (by have:=(List.pairwise_cons.1 q).1 t h;omega)
def SK{l:List Rx}(d:nn l):i0 (pZ l):=by
 cases l with
 |nil=>exact .nil
 |cons a l=>exact A6 d
def SM{t:Rx}{l:List Rx}:t∈pZ l↔t∈l:=by
 cases l with
 |nil=>exact Iff.rfl
 |cons a l=>show t∈a::j0 a l↔_;rw[aE,aE];exact A7
def td(l:List Rx):List Rx:=pZ (kj l)
def OH(l:List Rx):i0 (td l):=SK (Es l)
def OI{t:Rx}{l:List Rx}:t∈td l↔t∈l:=by unfold td;rw[SM,(Et l).mem_iff]
def kN(r:Rx):List Rx->List Rx
 |[]=>[r]
 |d::p=>if bd d r<0 then d::kN r p else if bd d r=0 then d::p else r::d::p
def DI{t r:Rx}:∀{p:List Rx},t∈kN r p↔t=r\/t∈p
 |[]=>by unfold kN;simp
 |j::p=>by
  unfold kN;split
  .rw [aE,DI,aE];constructor
   .rintro (d|d|d)<;>simp[d]
   .rintro (d|d|d)<;>simp[d]
  .split
   .rename_i h;have e:=cmp_eq j r h;subst e;simp
   .simp
def Ni{r:Rx}:∀{p:List Rx},i0 p->i0 (kN r p)
 |[],_=>by unfold kN;simp
 |h::p,e=>by
  obtain⟨j,w⟩:=List.pairwise_cons.1 e;unfold kN;split
  .rename_i q;refine List.pairwise_cons.2 ⟨λt d=>?_,Ni w⟩;rcases DI.1 d with rfl|d
   .exact q
   .exact j t d
  .split
   .exact e
   .rename_i q x;have k:bd r h<0:=by have:=rM r h;omega
    refine List.pairwise_cons.2 ⟨λt d=>?_,e⟩;rcases aE.1 d with rfl|d
    .exact k
    .exact (w9 r h t).lt k (by have:=j t d;omega)
def gM(k:Int):List Rx->List Rx->List Rx
 |out,[]=>out
 |out,t::l=>gM k (if k=3 then out++[t]else kN t out) l
def MD:∀(l out:List Rx),gM 3 out l=out++l
 |[],out=>by unfold gM;simp
 |t::l,out=>by unfold gM;rw[MD l,ag rfl];simp
def ME{k:Int}(e:k≠3):∀(l:List Rx) {out:List Rx},i0 out->i0 (gM k out l)
 |[],_,d=>d
 |t::l,out,d=>by unfold gM;rw[ab e];exact ME e l (Ni d)
def MF{k:Int}(e:k≠3){t:Rx}:∀(l:List Rx) {out:List Rx},t∈gM k out l↔t∈out\/t∈l
 |[],out=>by unfold gM;simp
 |a::l,out=>by
  unfold gM;rw[ab e,MF e l,DI,aE];constructor
  .rintro ((d|d)|d)<;>simp[d]
  .rintro (d|d|d)<;>simp[d]
def WZ(k:Int)(l:List Rx):gM k [] l=if k=3 then l else td l:=by
 split
 .rename_i d;subst d;rw[MD];rfl
 .rename_i d;exact Ux (ME d l .nil) (OH l) λt=>by rw[MF d,OI];simp
def ms(μ:Rx->Nat):List Rx->Nat
 |[]=>0
 |a::l=>μ a+ms μ l
section
variable {μ:Rx->Nat}
def Jz:∀l m:List Rx,ms μ (l++m)=ms μ l+ms μ m
 |[],m=>by simp[ms]
 |a::l,m=>by show μ a+ms μ (l++m)=μ a+ms μ l+ms μ m;rw[Jz l m];omega
def V3{l m:List Rx}(h:l.Perm m):ms μ l=ms μ m:=by
 induction h with
 |nil=>rfl
 |cons d _ q=>show μ d+_=μ d+_;rw[q]
 |swap d e l=>show μ e+(μ d+_)=μ d+(μ e+_);omega
 |trans _ _ j k=>rw[j,k]
end
mutual
def da:Rx->Nat|.mk _ _ _ l=>max 1 (xT l)
def xT:List Rx->Nat
 |[]=>0
 |a::l=>da a+xT l
end
def Jm:∀l:List Rx,xT l=ms da l
 |[]=>rfl
 |a::l=>by unfold xT;rw[Jm l];rfl
def oU(k:Int)(lo hi:UInt8)(l:List Rx):da (.mk k lo hi l)=max 1 (ms da l):=by unfold da;rw[Jm]
mutual
def iG(N:Nat):Rx->Prop|.mk k _ _ l=>qd N l/\(k=4\/k=5->ms da l<=N)
def qd(N:Nat):List Rx->Prop
 |[]=>True
 |a::l=>iG N a/\qd N l
end
mutual
def xn{N:Nat}:∀d:Rx,da d<=N->iG N d
 |.mk j lo h l,e=>by rw[oU]at e;unfold iG;exact⟨H4 l (by omega),λ_=>by omega⟩
def H4{N:Nat}:∀l:List Rx,ms da l<=N->qd N l
 |[],_=>by unfold qd;trivial
 |a::l,d=>by have d:da a+ms da l<=N:=d;unfold qd;exact⟨xn a (by omega),H4 l (by omega)⟩
end
set_option maxRecDepth 100000
set_option maxHeartbeats 2000000
namespace u6
noncomputable abbrev t0:=aA U Tryz.f229 [] []
abbrev P0:Ps:=[(0,.v [.U]),(2,.v [.I])]
noncomputable abbrev S2:=ai t0 [4] P0
noncomputable abbrev t1:=ak S2
noncomputable abbrev S1:=ai t1 [3] P0
noncomputable abbrev t2:=ak S1
noncomputable abbrev S0:=ai t2 [2] P0
noncomputable abbrev t3:=ak S0
def ok:=aF t3 Wa [.U]
end u6
namespace Jt
noncomputable abbrev t0:=aA U Tryz.f208 [] []
def ok:=aF t0 KI [.U]
end Jt
namespace lI
noncomputable abbrev t0:=aA U Tryz.f220 [(4,ls [0,1,2,3,4,5,6,7,8,9,10,11,12,13,14,15,16]),(6,ls [0,1,2,3,4,5,6,7,8,9,10,11,12,13,14,15,16,17])] []
abbrev P0:Ps:=[(0,.v [.s]),(1,.v [.I]),(2,.v [.I]),(3,.v [.g eB 0 0]),(8,.v [.I])]
noncomputable def L0:=bu t0 [0,1,1] P0
noncomputable abbrev t1:=bt L0
noncomputable def L1:=bu t1 [0,1,1,2,1,2,1] [(0,.v [.s]),(1,.v [.I]),(2,.v [.I]),(3,.v [.g eB 0 0]),(8,.v [.I]),(9,.v [.I])]
noncomputable abbrev t2:=bt L1
noncomputable abbrev S2:=ai t2 [2,2,1] P0
noncomputable abbrev t3:=ak S2
def i1:=bH t3 L1
def cU:=bH t3 L0
def ok:=aF t3 Li [.s,.I,.I,.g eB 0 0]
end lI
namespace Yu
noncomputable abbrev t0:=aA U Tryz.f244 [(1,ls [0,1,2,3,4,5,6,7,8,9,10])] []
end Yu
namespace Yt
noncomputable abbrev t0:=aA U Tryz.f241 [] []
end Yt
namespace Ys
noncomputable abbrev t0:=aA U Tryz.f223 [] []
noncomputable abbrev S5:=ai t0 [7] [(11,.v [.r]),(13,.v [.I])]
noncomputable abbrev t1:=ak S5
noncomputable abbrev S4:=ai t1 [1,1,1,1,6] [(0,.v [.s]),(3,.v [.g eB 0 0]),(11,.v [.r]),(12,.v [.I]),(13,.v [.I]),(14,.v [.I])]
noncomputable abbrev t2:=ak S4
noncomputable abbrev S3:=ai t2 [6] [(0,.v [.s]),(3,.v [.g eB 0 0]),(10,.v [.I]),(11,.v [.r]),(12,.v [.I]),(13,.v [.I]),(14,.v [.I])]
noncomputable abbrev t3:=ak S3
noncomputable abbrev S2:=ai t3 [5] [(0,.v [.s]),(1,.v [.I]),(3,.v [.g eB 0 0]),(10,.v [.I]),(11,.v [.r]),(12,.v [.I]),(13,.v [.I])]
noncomputable abbrev t4:=ak S2
noncomputable abbrev S1:=ai t4 [4] [(0,.v [.s]),(1,.v [.I]),(3,.v [.g eB 0 0]),(10,.v [.I]),(11,.v [.r]),(12,.v [.I])]
noncomputable abbrev t5:=ak S1
noncomputable abbrev S0:=ai t5 [2] [(0,.v [.s]),(1,.v [.I]),(3,.v [.g eB 0 0]),(10,.v [.I])]
noncomputable abbrev t6:=ak S0
end Ys
namespace Yv
noncomputable abbrev t0:=aA U Tryz.f225 [(5,ls [0,1,2,3,4,5,6,7,8,9,10,11,12,13,14,15,16,17]),(11,ls [0,1,2,3,4,5,6,7,8,9,10,11,12,13,14,15,16,17]),(16,ls [0,1,2,3,4,5,6,7,8,9,10,11,12]),(17,ls [0,1,2,3,4,5,6,7,8,9,10,11,12,13,14,15,16,17]),(22,ls [0,1,2,3,4,5,6,7,8,9,10,11,12]),(23,ls [0,1,2,3,4,5,6,7,8,9,10,11,12,13,14,15,16,17])] []
abbrev P0:Ps:=[(0,.v [.s]),(1,.v [.I]),(2,.v [.I]),(3,.v [.g eB 0 0]),(9,.v [.I]),(10,.v [.I])]
noncomputable def L1:=bu t0 [0,1,1,1,2] P0
noncomputable abbrev t1:=bt L1
noncomputable def L2:=bu t1 [0,4,1,2,1,1,2] P0
noncomputable abbrev t2:=bt L2
noncomputable def L4:=bu t2 [0,1,1,1,1,1,4,2,1,2,1,1,2] [(0,.v [.s]),(1,.v [.I]),(2,.v [.I]),(3,.v [.g eB 0 0]),(9,.v [.I]),(10,.v [.I]),(11,.v [.I])]
noncomputable abbrev t3:=bt L4
noncomputable def L6:=bu t3 [0,1,1,1,6,2,1,2,1,1,2] [(0,.v [.s]),(1,.v [.I]),(2,.v [.I]),(3,.v [.g eB 0 0]),(9,.v [.I]),(10,.v [.I]),(12,.v [.I])]
noncomputable abbrev t4:=bt L6
noncomputable abbrev S7:=ai t4 [2,2,1,1,2] P0
noncomputable abbrev t5:=ak S7
noncomputable abbrev S5:=ai t5 [5,2,1,2,1,1,2] P0
noncomputable abbrev t6:=ak S5
noncomputable abbrev S3:=ai t6 [1,2,1,2,1,1,2] P0
noncomputable abbrev t7:=ak S3
noncomputable abbrev S0:=ai t7 [2] [(0,.v [.s]),(1,.v [.I]),(2,.v [.I]),(3,.v [.g eB 0 0]),(9,.v [.I])]
noncomputable abbrev t8:=ak S0
end Yv
namespace Yw
noncomputable abbrev t0:=aA U Tryz.f227 [(1,ls [0,1,2,3,4,5,6,7,8,9,10,11,12,13,14,15]),(3,ls [0,1,2,3,4,5,6,7,8,9,10,11,12,13,14,15]),(5,ls [0,1,2,3,4,5,6,7,8,9,10,11,12,13,14,15,16]),(8,ls [0,1,2,3,4,5,6,7,8,9,10,11,12,13,14,15]),(10,ls [0,1,2,3,4,5,6,7,8,9,10,11,12,13,14,15]),(13,ls [0,1,2,3,4,5,6,7,8,9,10,11,12,13,14,15]),(15,ls [0,1,2,3,4,5,6,7,8,9,10,11,12,13,14,15,16]),(18,ls [0,1,2,3,4,5,6,7,8,9,10,11,12,13,14,15]),(21,ls [0,1,2,3,4,5,6,7,8,9,10,11,12,13,14,15])] []
abbrev P0:Ps:=[(0,.v [.s]),(1,.v [.I]),(4,.v [.g eB 0 0]),(12,.v [.I]),(13,.v [.I])]
noncomputable def L0:=bu t0 [0,2,3] P0
noncomputable abbrev t1:=bt L0
noncomputable def L1:=bu t1 [0,2,4] P0
noncomputable abbrev t2:=bt L1
noncomputable def L4:=bu t2 [0,2,9] P0
noncomputable abbrev t3:=bt L4
noncomputable def L5:=bu t3 [0,6,9] P0
noncomputable abbrev t4:=bt L5
noncomputable def L6:=bu t4 [0,2,1,4,9] P0
noncomputable abbrev t5:=bt L6
noncomputable abbrev S8:=ai t5 [5,4,9] P0
noncomputable abbrev t6:=ak S8
noncomputable abbrev S7:=ai t6 [2,4,9] P0
noncomputable abbrev t7:=ak S7
noncomputable abbrev S3:=ai t7 [8] P0
noncomputable abbrev t8:=ak S3
noncomputable abbrev S2:=ai t8 [5] P0
noncomputable abbrev t9:=ak S2
end Yw
namespace zd
noncomputable abbrev t0:=aA U Tryz.f207 [(17,ls [0,1,2,3,4,5,6,7,8,9,10,11,12,13,14,15,16])] []
noncomputable def L0:=bu t0 [0,1,2] [(0,.v [.s]),(1,.v [.I]),(2,.v [.I]),(3,.v [.I]),(4,.v [.g eB 0 0]),(10,.v [.b]),(11,.v [.b])]
noncomputable abbrev t1:=bt L0
abbrev P0:Ps:=[(0,.v [.s]),(1,.v [.I]),(2,.v [.I]),(3,.v [.I]),(4,.v [.g eB 0 0]),(10,.v [.b]),(11,.v [.b]),(16,.v [.I])]
noncomputable abbrev S9:=ai t1 [1,1,13,3,2] P0
noncomputable abbrev t2:=ak S9
noncomputable abbrev tU:=ai t2 [15,3,2] P0
noncomputable abbrev t3:=ak tU
noncomputable abbrev S8:=ai t3 [12,3,2] [(0,.v [.s]),(1,.v [.I]),(2,.v [.I]),(3,.v [.I]),(4,.v [.g eB 0 0]),(11,.v [.b]),(16,.v [.I]),(18,.v [.I]),(19,.v [.I]),(20,.v [.I])]
noncomputable abbrev t4:=ak S8
noncomputable abbrev S7:=ai t4 [11,3,2] [(0,.v [.s]),(1,.v [.I]),(2,.v [.I]),(3,.v [.I]),(4,.v [.g eB 0 0]),(11,.v [.b]),(12,.v [.I]),(16,.v [.I]),(18,.v [.I]),(19,.v [.I])]
noncomputable abbrev t5:=ak S7
noncomputable abbrev S6:=ai t5 [8,3,2] [(0,.v [.s]),(1,.v [.I]),(2,.v [.I]),(3,.v [.I]),(4,.v [.g eB 0 0]),(12,.v [.I]),(13,.v [.I])]
noncomputable abbrev t6:=ak S6
abbrev P1:Ps:=[(0,.v [.s]),(1,.v [.I]),(2,.v [.I]),(3,.v [.I]),(4,.v [.g eB 0 0]),(10,.v [.b]),(11,.v [.b]),(12,.v [.I]),(13,.v [.I])]
noncomputable abbrev S5:=ai t6 [7,3,2] P1
noncomputable abbrev t7:=ak S5
noncomputable abbrev S4:=ai t7 [6,3,2] [(0,.v [.s]),(1,.v [.I]),(2,.v [.I]),(3,.v [.I]),(4,.v [.g eB 0 0]),(10,.v [.b]),(11,.v [.b]),(12,.v [.I]),(13,.v [.I]),(14,.v [.I])]
noncomputable abbrev t8:=ak S4
noncomputable abbrev S3:=ai t8 [2,1,1,1,5,3,2] P1
noncomputable abbrev t9:=ak S3
abbrev P2:Ps:=[(0,.v [.s]),(1,.v [.I]),(2,.v [.I]),(3,.v [.I]),(4,.v [.g eB 0 0]),(10,.v [.b]),(11,.v [.b]),(12,.v [.I])]
noncomputable abbrev S2:=ai t9 [4,3,2] P2
noncomputable abbrev t10:=ak S2
noncomputable abbrev S1:=ai t10 [1,3,2] P2
noncomputable abbrev t11:=ak S1
def cU:=bH t11 L0
def ok:=aF t11 Wc [.s,.I,.I,.I,.g eB 0 0]
end zd
namespace OQ
noncomputable abbrev t0:=aA U Tryz.f191 [] []
def ok:=aF t0 Lh [.s,.g eB 0 0]
end OQ
def g1(x:I):List I->List I
 |[]=>[x]
 |d::p=>if bd x.rx d.rx<0 then d::g1 x p else x::d::p
def fA(l:List I):List I:=(l.foldl (λp d=>g1 d p) []).reverse
def BR(x:I):∀p,(g1 x p).length=p.length+1
 |[]=>rfl
 |d::p=>by
  unfold g1;split
  .simp [BR x p]
  .simp
def YA(l:List I)(x:I):fA (l++[x])=(g1 x (fA l).reverse).reverse:=by unfold fA;rw[List.foldl_append,List.reverse_reverse];rfl
def Ix{x t:I}:∀{p:List I},t∈g1 x p↔t=x\/t∈p
 |[]=>by unfold g1;simp
 |e::p=>by
  unfold g1;split
  .rw [aE,Ix,aE];constructor
   .rintro (d|d|d)<;>simp[d]
   .rintro (d|d|d)<;>simp[d]
  .simp
def Yy{t:I}{l:List I}:t∈fA l↔t∈l:=by
 have:∀(l p:List I),t∈l.foldl (λp h=>g1 h p) p↔t∈l\/t∈p:=by
  intro l;induction l with
  |nil=>intro p;simp
  |cons a l e=>
   intro p;rw[List.foldl_cons,e,Ix,aE];constructor
   .rintro (d|d|d)<;>simp[d]
   .rintro ((d|d)|d)<;>simp[d]
 unfold fA;rw[List.mem_reverse,this];simp
def OT(l:List I):(fA l).length=l.length:=by
 have:∀(l p:List I),(l.foldl (λp e=>g1 e p) p).length=l.length+p.length:=by
  intro l;induction l with
  |nil=>intro p;simp
  |cons a l d=>
   intro p;rw[List.foldl_cons,d,BR,List.length_cons];omega
 unfold fA;rw[DN,this];rfl
def IA(x:I):∀p:List I,(g1 x p).map I.rx=lx x.rx (p.map I.rx)
 |[]=>rfl
 |d::p=>by
  unfold g1;rw[iQ];unfold lx;split
  .rw [iQ,IA x p]
  .rfl
def YD(l:List I):(fA l).map I.rx=kj (l.map I.rx):=by
 have:∀(l p:List I),(l.foldl (λp d=>g1 d p) p).map I.rx=(l.map I.rx).foldl (λp d=>lx d p) (p.map I.rx):=by
  intro l;induction l with
  |nil=>intro p;rfl
  |cons a l e=>
   intro p;rw[List.foldl_cons,e,IA];rfl
 unfold fA kj;rw[List.map_reverse,this];rfl
def Iy(x:I):∀p:List I,(g1 x p).Perm (x::p)
 |[]=>.refl _
 |d::p=>by
  unfold g1;split
  .exact ((Iy x p).cons d).trans (.swap x d p)
  .exact .refl _
def Yz(l:List I):(fA l).Perm l:=by
 have:∀(l p:List I),(l.foldl (λp h=>g1 h p) p).Perm (l++p):=by
  intro l;induction l with
  |nil=>intro p;exact .refl _
  |cons a l e=>
   intro p;rw[List.foldl_cons];exact(e _).trans (((Iy a p).append_left l).trans List.perm_middle)
 unfold fA;have d:=this l [];rw[cP]at d;exact(List.reverse_perm _).trans d
def Yx(l:List I):nn ((fA l).map I.rx):=by rw[YD];exact Es _
def Zb{l m:List I}(h:l.Perm m):I.aY l=I.aY m:=by
 induction h with
 |nil=>rfl
 |cons d _ q=>show d.sz+_=d.sz+_;rw[q]
 |swap d e l=>show e.sz+(d.sz+_)=d.sz+(e.sz+_);omega
 |trans _ _ j k=>rw[j,k]
def Y8{α:Type}(A B:List α)(y x:α)(j:Nat)(d:j=A.length+1):((A++y::x::B).set j y).set (j - 1) x=A++x::y::B:=by subst d;rw[List.set_append_right _ _ (by omega),Nat.add_sub_cancel,List.set_append_right _ _ (by omega)];simp
def RW(s:Sl)(l:List I)(w:J)(hl:I.aY l<=1000000)(ho:aK w aO 4 s (l.flatMap I.c))(pl:I.Ps w l)(hd:∀e∈aN s,e∉I.a8 l)(A X j:List I)(x:l=A++X++j)(b:Nat)(hb:b=A.length+X.length):
  aj U Li #[s.v,.i (A.length:Int),.i (b:Int),.func (.func eB) #[] #[]] w λr F=>(r=ae (.tuple #[])/\aK F aO 4 s ((A++fA X++j).flatMap I.c))/\Fr (·∈aN s) w F:=by
 have ll:=I.fB l;have lX:A.length+X.length+j.length=l.length:=by rw[x];simp[Nat.add_assoc]
 have S:O (·∈aN s) w w [.row aO 4 s (l.flatMap I.c)] [.trees l]:=Cb _ ho (by intro am x;simp only[aE,aZ,a2]at x;subst x;exact⟨pl,λe N hm=>hd e N (a4.1 hm)⟩)
 have kt:∀t∈l,t.sz<=1000000:=λt z=>bp (I.ef z) hl;have mA:∀t∈X,t∈l:=λt z=>by rw[x];simp[z]
 let K:aC:=λr F=>(r=ae (.tuple #[])/\aK F aO 4 s ((A++fA X++j).flatMap I.c))/\Fr (·∈aN s) w F
 have outer:∀(d i:Nat) (G:J),A.length+i+d=b->O (·∈aN s) w G [.row aO 4 s ((A++fA (X.take i)++(X.drop i++j)).flatMap I.c)] [.trees l]->
   lI.L0 s (A.length:Int) (b:Int) ((A.length+i:Nat):Int) G K:=by
  intro d;induction d with
  |zero=>
   intro i G hi C;refine lI.cU _ _ _ _ _ _ (aV (aP (by omega)) ⟨⟨rfl,?_⟩,C.fr⟩);have:=C.get 0;rw[dM (by omega),de (by omega),List.nil_append]at this;exact this
  |succ d ak=>
   intro i G hi C;refine lI.cU _ _ _ _ _ _ (aT (aM (by omega)) ?_);have Z:X[i]? =some (X[i]'(by omega)):=a5 (by omega);have aa:=dk (l:=X) (i:=i) (by omega);generalize X[i]'(by omega)=e at Z aa;have hS:fA (X.take (i+1))=(g1 e (fA (X.take i)).reverse).reverse:=by rw[g3,Z,Option.toList_some,YA]
   have N:e∈l:=mA e (aB Z);have next:∀(k:J),O (·∈aN s) w k [.row aO 4 s ((A++fA (X.take (i+1))++(X.drop (i+1)++j)).flatMap I.c)] [.trees l]->lI.S2 s (A.length:Int) (b:Int) ((A.length+i:Nat):Int) k K:=by intro k B;show lI.L0 _ _ _ _ _ _;rw[bw _ (by omega)];exact ak (i+1) k (by omega) B
   have inner:∀(p:Nat) (P Q:List I) (k:J),P.length=p->(g1 e P.reverse).reverse++Q=fA (X.take (i+1))->(∀t∈P,t∈l)->O (·∈aN s) w k [.row aO 4 s ((A++P++e::(Q++(X.drop (i+1)++j))).flatMap I.c)] [.trees l]->
     lI.L1 s (A.length:Int) (b:Int) ((A.length+i:Nat):Int) ((A.length+p:Nat):Int) k K:=by
    intro p;induction p with
    |zero=>
     intro P Q k D E W B;have:P=[]:=List.length_eq_zero_iff.1 D;subst this;refine lI.i1 _ _ _ _ _ _ _ (B.dr λH q=>aV (aP (by omega)) (next H ?_));have ai:e::Q=fA (X.take (i+1)):=E;rw[<-ai];simpa using q
    |succ p al=>
     intro P Q k D E W B;obtain⟨h,y,rfl⟩:∃h y,P=h++[y]:=⟨P.dropLast,P.getLast (λad=>by rw[ad]at D;cases D),(List.dropLast_concat_getLast _).symm⟩;have ac:h.length=p:=by simpa using D
     have hy:y∈l:=W y (by simp);have eA:A++(h++[y])++e::(Q++(X.drop (i+1)++j))=(A++h)++y::e::(Q++(X.drop (i+1)++j)):=by simp
     rw[eA]at B;have lA:(A++h).length=A.length+p:=by simp[ac]
     have gy:((A++h)++y::e::(Q++(X.drop (i+1)++j)))[A.length+p]? =some y:=by rw[<-lA,List.getElem?_append_right (be _)];simp
     have V:((A++h)++y::e::(Q++(X.drop (i+1)++j)))[A.length+(p+1)]? =some e:=by rw[<-Nat.add_assoc,<-lA,List.getElem?_append_right (Nat.le_succ _)];simp
     have hlen:((A++h)++y::e::(Q++(X.drop (i+1)++j))).length<=1000000:=by have h1:=congrArg List.length E;rw[OT,b',DN,BR,DN]at h1;simp only[b',List.length_cons,fx,List.length_drop,List.length_nil]at h1 ⊢;omega
     have ah:=(cr.1 V).1;have L:aG .i64 (((A.length+(p+1):Nat):Int) - 1)=((A.length+p:Nat):Int):=by rw[BN (by omega) (by omega)];rfl
     have M:g1 e (h++[y]).reverse=if bd e.rx y.rx<0 then y::g1 e h.reverse else e::y::h.reverse:=by rw[List.reverse_append];rfl
     refine lI.i1 _ _ _ _ _ _ _ (B.dr λH q=>aT (aM (by omega)) ?_);refine q.el 0 (A.length+(p+1)) rfl V (q.el 0 (A.length+p) L gy ?_);refine q.call (F5 e y H (kt e N) ((show I.Ps H l from q.getD 0).mem N) ((show I.Ps H l from q.getD 0).mem hy)) ?_;rintro _ w4 rfl H4;refine⟨_,rfl,aS (λY=>H4.dr λw5 T=>?_) (λY=>next w4 ?_)⟩
     .refine T.el 0 (A.length+p) L gy (T.el 0 (A.length+(p+1)) rfl V (T.Be 0 (A.length+(p+1)) (t:=y) rfl ah λw6 H6=>?_));refine H6.Be 0 (A.length+p) (t:=e) (ts:=((A++h)++y::e::(Q++(X.drop (i+1)++j))).set (A.length+(p+1)) y) L (by rw[yN];omega) λw7 H7=>?_;rw[L];rw[ag Y]at M;refine al h (y::Q) w7 ac ?_ (λt z=>W t (by simp[z])) ?_
      .rw [<-E,M];simp
      .have e3:=Y8 (A++h) (Q++(X.drop (i+1)++j)) y e (A.length+(p+1)) (by rw[lA];rfl);rw[show A.length+(p+1) - 1=A.length+p by omega]at e3;have H8:O (·∈aN s) w w7 [.row aO 4 s (((((A++h)++y::e::(Q++(X.drop (i+1)++j))).set (A.length+(p+1)) y).set (A.length+p) e).flatMap I.c)] [.trees l]:=H7;rw[e3]at H8;exact H8
     .rw [ab Y]at M;rw[<-E,M];simpa using H4
   have af:(fA (X.take i)).length=i:=by rw[OT,fx];omega
   refine inner i (fA (X.take i)) [] G af ?_ (λt z=>mA t (List.mem_of_mem_take (Yy.1 z))) ?_
   .rw [cP,hS]
   .rw [aa]at C;simpa using C
 refine lI.ok _ _ _ w _ ?_;show lI.L0 _ _ _ _ _ K;rw[bw _ (by omega)];cases X with
 |nil=>
  refine lI.cU _ _ _ _ _ _ (aV (aP (by simp at hb;omega)) ⟨⟨rfl,?_⟩,Fr.refl _ _⟩);have:=S.get 0;rw[x]at this;exact this
 |cons a X=>
  refine outer (b - (A.length+1)) 1 w (by simp at hb;omega) ?_;rw[show l.flatMap I.c=(A++fA ((a::X).take 1)++((a::X).drop 1++j)).flatMap I.c from by rw[x];simp[fA,g1]]at S;exact S
def Zp{t:ByteArray}{m:Nat}{K:UInt8->Prop}(d:Nat.beq t.size 256=true)(h:m<256)(e:∀b,K b):∃b:UInt8,t[m]? =some b/\K b:=by rw[dZ]at d;exact⟨t[m]'(by omega),getElem?_pos t m (by omega),e _⟩
def Ry(x:Int)(w:J):aj U KI #[.u x] w λr d=>(∃t:Int,r=ae (.i t))/\ah w d:=by
 have k:∀(x n:Int),u6.S2 x n w λr d=>(∃t:Int,r=ae (.i t))/\ah w d:=by
  intro x n;have e:0<=aG .u8 x/\aG .u8 x<256:=by rw[IntKind.wrap_u8];omega
  obtain⟨m,y⟩:=Int.eq_ofNat_of_zero_le e.1;refine⟨e.1,?_⟩;have q:m<256:=by omega
  refine Zp (by kernel_rfl) (by rw[y];exact q) λb=>⟨⟨_,rfl⟩,Fr.refl _ _⟩
 have j:∀(x n:Int),u6.S1 x n w λr d=>(∃t:Int,r=ae (.i t))/\ah w d:=λx n=>aS (λ_=>k _ _) (λ_=>k _ _);have h:∀(x n:Int),u6.S0 x n w λr d=>(∃t:Int,r=ae (.i t))/\ah w d:=λx n=>aS (λ_=>j _ _) (λ_=>j _ _);refine Jt.ok _ w _ ((u6.ok _ w _ (aS (λ_=>h _ _) (λ_=>h _ _))).mono ?_);rintro _ z ⟨⟨t,rfl⟩,f⟩;exact⟨t,rfl,⟨t,rfl⟩,f⟩
def k'(n:Nat):Prop:=∀(s:Sl) (l:List I) (w:J),l.length<=n->I.aY l<=1000000->aK w aO 4 s (l.flatMap I.c)->I.Ps w l->(∀e∈aN s,e∉I.a8 l)->
 aj U Lh #[s.v,.func (.func eB) #[] #[]] w λr d=>(∃m:List I,r=ae (.tuple #[])/\m.Perm l/\nn (m.map I.rx)/\aK d aO 4 s (m.flatMap I.c))/\Fr (·∈aN s) w d
def hF(p:I):List I->List I
 |[]=>[]
 |d::l=>if bd d.rx p.rx==0 then hF d l else d::hF d l
def kE:List I->List I
 |[]=>[]
 |a::l=>a::hF a l
def Ha(l:List I)(i:Nat):(l.flatMap I.c).take (i *4)=(l.take i).flatMap I.c:=by
 have d:=I.gZ (l.take i);by_cases e:i<=l.length
 .conv=>lhs;rw[<-DO i l,cC]
  rw[List.take_append_of_le_length (by rw[d,fx];omega),dM (by rw[d,fx];omega)]
 .rw [dM (by rw[I.gZ];omega),dM (l:=l) (by omega)]
def Hf(l:List I)(i:Nat)(d:i<=l.length):(l.flatMap I.c).drop (i *4)=(l.drop i).flatMap I.c:=by
 have e:=I.gZ (l.take i);rw[fx,Nat.min_eq_left d]at e;conv=>lhs;rw[<-DO i l,cC]
 rw[List.drop_append_of_le_length (by omega),de (by omega),List.nil_append]
def Ta{w:J}{s:Sl}{l m:List I}(h:aK w aO 4 s (l.flatMap I.c))(i:Nat)(hi:i<=l.length)(D:l.take i=m){K:J->Prop}{R:aC}{w0:J}(C:Fr (·∈aN s) w0 w)(B:∀r j,tT s m r w0 j->Fr (·∈aN s) w0 j->R r j):
  (0:Int)<=(i:Int)/\(i:Int)<=((s.n:Nat):Int)/\∃(q:J),Sem.run U (Builtin.clear_ #[iq] mu #[.slice (if s.c=(a1 (i:Int))then s.a else s.a.map (·.add ((a1 (i:Int)) *4))) (s.n - (a1 (i:Int))) (s.c - (a1 (i:Int)))]) w=.ok (.tuple #[]) q/\
   (0:Int)<=(i:Int)/\(i:Int)<=((s.c:Nat):Int)/\R (ae (.slice (if s.c=0 then s.a else s.a.map (·.add (0 *4))) ((a1 (i:Int)) - 0) (s.c - 0))) q:=by
 have H:=I.cb h.a7;have G:=h.cap;obtain⟨E,y,z,A⟩:=Hb (ty:=mu) qa Qk rfl h i (by omega);refine⟨by omega,by omega,E,y,by omega,by omega,B _ _ ⟨⟨if s.c=0 then s.a else s.a.map (·.add (0 *4)),i - 0,s.c - 0⟩,rfl,?_,λF e=>?_⟩ (C.trans A λF _ x=>x)⟩
 .rw [<-D,<-Ha];exact z
 .simp only[aN]at e ⊢;split at e
  .rename_i p d;split at d
   .rw [d];exact e
   .cases k:s.a with
    |none=>rw[k]at d;cases d
    |some L=>
     rw[k]at d;simp only[Option.map_some,e0]at d;subst d;rw[jv]at e;exact e
  .cases e
section
variable {M:Nat->Prop} {w0 w:J} {L D:List En}
def _root_.Go.W.O.Bf(H:O M w0 w L D)(i k b:Nat){s:Sl}{ts:List I}{t:I}{X:Int}{K:Int->Int->Int->Sl->Prop}(x:X=(k:Int))(e:ts[b+k]? =some t)(q:K t.k t.lo.toNat t.hi.toNat t.s)(hi:L[i]? =some (.row aO 4 s (ts.flatMap I.c)):=by rfl):
  (0:Int)<=X/\X<((s.n - b:Nat):Int)/\dJ (if s.c=b then s.a else s.a.map (·.add (b *4))) λp=>∃a b c:Int,∃d:Sl,w.cell? ((p.add (a1 X *4)).add 0)=some (.i a)/\w.cell? ((p.add (a1 X *4)).add 1)=some (.int .u8 b)/\w.cell? ((p.add (a1 X *4)).add 2)=some (.int .u8 c)/\w.cell? ((p.add (a1 X *4)).add 3)=some d.v/\K a b c d:=by subst x;have h:aK w aO 4 s (ts.flatMap I.c):=H.get i hi;have z:=I.cb h.a7;have y:=(cr.1 e).1;have j:=h.a7.sub b s.n (by omega) (be _);rw[dM (by rw[I.gZ];omega),Hf _ _ (by omega)]at j;refine⟨by omega,by omega,I.a3 (s:=oi 4 s b s.n) j (i:=k) (t:=t) (by rw[sX];exact e) λp A c=>⟨_,_,_,_,c.c0,c.c1,c.c2,c.c3,q⟩⟩
end
def Rq(s:Sl)(l:List I)(w:J)(hl:I.aY l<=1000000)(ho:aK w aO 4 s (l.flatMap I.c))(pl:I.Ps w l)(hd:∀x∈aN s,x∉I.a8 l):
  aj U Lb #[s.v,.func (.func qm) #[] #[]] w λr F=>tT s (kE l) r w F/\Fr (·∈aN s) w F:=by
 have nr:=I.cb ho.a7;have ll:=I.fB l;have kt:∀t∈l,t.sz<=1000000:=λt H=>bp (I.ef H) hl;have ad:O (·∈aN s) w w [.row aO 4 s (l.flatMap I.c)] [.trees l]:=Cb _ ho (by intro ae he;simp only[aE,aZ,a2]at he;subst he;exact⟨pl,λx L Q=>hd x L (a4.1 Q)⟩)
 let T:aC:=λr F=>tT s (kE l) r w F/\Fr (·∈aN s) w F
 have al:∀(d k b m:Nat) (cur:List I) (p:I) (A:J),b+m+d=l.length->1<=m->1<=b->k<b+m->cur.length=l.length->cur.drop (b+m - 1)=l.drop (b+m - 1)->l[b+m - 1]? =some p->cur.take k++hF p (l.drop (b+m))=kE l->
   O (·∈aN s) w A [.row aO 4 s (cur.flatMap I.c)] [.trees l]->
   mj.L2 s (k:Int) ⟨(if s.c=b then s.a else s.a.map (·.add (b *4))),(s.n - b),(s.c - b)⟩ (m:Int) A T:=by
  intro d;induction d with
  |zero=>
   intro k b m cur p A hb Q af hk Y P C e y;refine mj.ny _ _ _ _ _ _ (aV (aP ?_) ?_)
   .show ¬(m:Int)<((s.n - b:Nat):Int);omega
   rw[de (by omega)]at e;have aa:cur.take k=kE l:=by rw[<-e];simp[hF]
   exact Ta (K:=λ_=>True) (y.get 0) k (by omega) aa y.fr λr F B G=>⟨B,G⟩
  |succ d ac=>
   intro k b m cur p A hb Q af hk Y P C e y;have h:l[b+m]? =some (l[b+m]'(by omega)):=a5 (by omega);have z:=dk (l:=l) (i:=b+m) (by omega);generalize l[b+m]'(by omega)=x at h z;have ai:cur[b+m]? =some x:=by
    have:(cur.drop (b+m - 1))[1]? =(l.drop (b+m - 1))[1]?:=by rw[P]
    rw[sX,sX,show b+m - 1+1=b+m by omega]at this;rw[this];exact h
   have ak:cur[b+(m - 1)]? =some p:=by
    have:(cur.drop (b+m - 1))[0]? =(l.drop (b+m - 1))[0]?:=by rw[P]
    rw[sX,sX,Nat.add_zero]at this;rw[show b+(m - 1)=b+m - 1 by omega,this];exact C
   have ah:cur.drop (b+m)=l.drop (b+m):=by
    have:(cur.drop (b+m - 1)).drop 1=(l.drop (b+m - 1)).drop 1:=by rw[P]
    rw[ke,ke,show b+m - 1+1=b+m by omega]at this;exact this
   have N:=aB h;have mp:=aB C;have V:aG .i64 ((m:Int) - 1)=((m - 1:Nat):Int):=BN Q (by omega);rw[z]at e;have W:hF p (x::l.drop (b+m+1))=if bd x.rx p.rx==0 then hF x (l.drop (b+m+1))else x::hF x (l.drop (b+m+1)):=rfl;rw[W]at e;have next:∀(M:Nat) (E:List I) (q:J),M<b+(m+1)->E.length=l.length->E.drop (b+m)=l.drop (b+m)->E.take M++hF x (l.drop (b+m+1))=kE l->O (·∈aN s) w q [.row aO 4 s (E.flatMap I.c)] [.trees l]->
     mj.S3 s (M:Int) ⟨(if s.c=b then s.a else s.a.map (·.add (b *4))),(s.n - b),(s.c - b)⟩ (m:Int) q T:=by intro M E q B G h3 h4 j;show mj.L2 _ _ _ _ _ _;rw[bw _ (by omega)];exact ac M b (m+1) E x q (by omega) (by omega) af B G (by rw[show b+(m+1) - 1=b+m by omega];exact h3) (by rw[show b+(m+1) - 1=b+m by omega];exact h) (by rw[show b+(m+1)=b+m+1 by omega];exact h4) j
   refine mj.ny _ _ _ _ _ _ (aT (aM ?_) (y.dr λq j=>?_))
   .show (m:Int)<((s.n - b:Nat):Int);omega
   refine j.Bf 0 m b rfl ai (j.Bf 0 (m - 1) b V ak ?_);refine j.call (ud x p q (kt x N) ((show I.Ps q l from j.getD 0).mem N) ((show I.Ps q l from j.getD 0).mem mp)) ?_;rintro _ S rfl D;refine⟨_,rfl,ey (λZ=>?_) (λH=>?_)⟩
   .refine D.Bf 0 m b rfl ai (D.Be 0 k (t:=x) (ts:=cur) rfl (by omega) λw4 H4=>?_);rw[ab (by rw[Z];simp)]at e;rw[bw _ (by omega)];refine next (k+1) (cur.set k x) w4 (by omega) (by simpa using Y) ?_ ?_ H4
    .rw [List.drop_set_of_lt (by omega)];exact ah
    .rw [Pp (by omega),hr];exact e
   .rw [ag H]at e;exact next k cur S (by omega) Y ah e D
 have loop:∀(d k:Nat) (p:I) (A:J),k+d=l.length->1<=k->l[k - 1]? =some p->l.take k++hF p (l.drop k)=kE l->O (·∈aN s) w A [.row aO 4 s (l.flatMap I.c)] [.trees l]->
   mj.L0 s (k:Int) A T:=by
  intro d;induction d with
  |zero=>
   intro k p A hk B C e y;refine mj.cU _ _ _ _ (aV (aP (by omega)) ⟨⟨s,rfl,?_,λx L=>L⟩,y.fr⟩);rw[de (by omega),dM (by omega)]at e;have aa:l=kE l:=by rw[<-e];simp[hF]
   rw[<-aa];exact y.get 0
  |succ d ac=>
   intro k p A hk B C e y;have h:l[k]? =some (l[k]'(by omega)):=a5 (by omega);have z:=dk (l:=l) (i:=k) (by omega);generalize l[k]'(by omega)=x at h z;have N:=aB h;have mp:=aB C;have V:aG .i64 ((k:Int) - 1)=((k - 1:Nat):Int):=BN B (by omega);rw[z]at e;have W:hF p (x::l.drop (k+1))=if bd x.rx p.rx==0 then hF x (l.drop (k+1))else x::hF x (l.drop (k+1)):=rfl;rw[W]at e;refine mj.cU _ _ _ _ (aT (aM (by omega)) (y.dr λq j=>?_));refine j.el 0 k rfl h (j.el 0 (k - 1) V C ?_);refine j.call (ud x p q (kt x N) ((show I.Ps q l from j.getD 0).mem N) ((show I.Ps q l from j.getD 0).mem mp)) ?_;rintro _ S rfl D;refine⟨_,rfl,bh (λH=>⟨by omega,by omega,?_⟩) (λZ=>?_)⟩
   .rw [ag H]at e;show mj.L2 _ _ _ _ _ _;exact al d k k 1 l x S (by omega) (by omega) B (by omega) rfl rfl (by rw[Nat.add_sub_cancel];exact h) e D
   .rw [ab (by rw[Z];simp)]at e;rw[bw _ (by omega)];refine ac (k+1) x S (by omega) (by omega) (by rw[Nat.add_sub_cancel];exact h) ?_ D;rw[g3,h,hr];exact e
 refine mj.ok _ w _ (aS (λG=>⟨⟨s,rfl,?_,λx L=>L⟩,ad.fr⟩) (λG=>?_))
 .have ae:kE l=l:=by
   cases l with
   |nil=>rfl
   |cons a l=>
    cases l with
    |nil=>rfl
    |cons b l=>simp at nr;omega
  rw[ae];exact ho
 .have h:l[0]? =some (l[0]'(by omega)):=a5 (by omega);have z:=dk (l:=l) (i:=0) (by omega);generalize l[0]'(by omega)=x at h z;refine loop (l.length - 1) 1 x w (by omega) (by omega) h ?_ ad;rw[List.drop_zero]at z;rw[z];rfl
def gK(k:Int)(l:List Rx)(u:Rx):List Rx:=(l.flatMap λc=>if c.k=k then c.l else[c]).filter λt=>!(bd t u==0)
def r6(k:Int)(u:Rx):List Rx->Rx
 |[]=>u
 |[a]=>a
 |l=>.mk k 0 0 l
def gx(k:Int)(l:List Rx)(u d:Rx):Rx:=if(gK k l u).any (λt=>bd t d==0)then d else r6 k u (if k=3 then gK k l u else pZ (kj (gK k l u)))
def sS(k:Int)(l:List Rx):Nat:=(l.flatMap λc=>if c.k=k then c.l else[c]).length
def mM:Rx:=.mk 1 0 0 []
def eo:Rx:=.mk 6 0 0 [fh]
def kW(lo hi:UInt8)(l:List Rx):Rx:=match l with
 |[]=>fh
 |c::d=>if c.k=0\/c.k=1 then mM else if c.k=7\/bd c eo=0 then c else .mk 7 lo hi (c::d)
def o0(lo hi:UInt8)(l:List Rx):Rx:=match l with
 |[]=>fh
 |c::e=>if c.k=6 then(match c.l with |[]=>fh|d::_=>d)else .mk 6 lo hi (c::e)
def hj:Rx->Rx
 |.mk d lo e l=>if d=3 then gx 3 l mM fh else if d=4 then gx 4 l fh eo else if d=5 then gx 5 l eo fh else if d=6 then o0 lo e l else if d=7 then kW lo e l else .mk d lo e l
def j3:Rx->Bool
 |.mk d _ _ l=>ao (0<=d)&&ao (d<8)&&(match l with
  |[]=>d !=6&&d !=7
  |c::_=>!(d==6&&c.k==6&&c.l.isEmpty))
def kQ(t:I):t.rx.k=t.k:=by rw[I.eW];rfl
def vN(t:I):t.rx.l=t.l.map I.rx:=by rw[I.eW,<-I.fi];rfl
def uP(x u:I):(fX x u).map I.rx=gK x.k (I.aq x.l) u.rx:=by
 unfold fX gK;rw[I.fi];generalize x.l=l;induction l with
 |nil=>rfl
 |cons a l e=>
  rw[iQ,df,df,List.filter_append,List.filter_append,dX,e];congr 1;have d:(eL x a).map I.rx=if a.rx.k=x.k then a.rx.l else[a.rx]:=by unfold eL;rw[kQ,vN];split<;>simp
  rw[<-d,List.filter_map];rfl
def A9:∀(l:List I) (p:I),(hF p l).map I.rx=j0 p.rx (l.map I.rx)
 |[],p=>rfl
 |d::l,p=>by
  unfold hF;rw[iQ];unfold j0;split
  .exact A9 l d
  .rw [iQ,A9 l d]
def SO(l:List I):(kE l).map I.rx=pZ (l.map I.rx):=by
 cases l with
 |nil=>rfl
 |cons a l=>show a.rx::(hF a l).map I.rx=_;rw[A9];rfl
def A8{t:I}:∀{l:List I} {p:I},t∈hF p l->t∈l
 |[],p,d=>d
 |e::l,p,d=>by
  unfold hF at d;split at d
  .exact cH _ (A8 d)
  .rcases aE.1 d with rfl|d
   .simp
   .exact cH _ (A8 d)
def SN{t:I}{l:List I}(d:t∈kE l):t∈l:=by
 cases l with
 |nil=>exact d
 |cons a l=>
  rcases aE.1 d with rfl|d
  .simp
  .exact cH _ (A8 d)
def Q7(l:List I)(d:I):l.any (λt=>bd t.rx d.rx==0)=(l.map I.rx).any λt=>bd t d.rx==0:=by rw[List.any_map];rfl
def fU(d:List Nat)(w:J)(x:Rx)(r:cA)(V:J):Prop:=∃t:I,r=ae t.v/\t.rx=x/\t.P V/\∀b∈t.fp,w.heap.size<=b\/b∈d
def RZ{N:Nat}(hS:k' N)(hN:N<=1000000)(x u d:I)(B q:Nat)(w:J)(L:x.k≠3->sS x.k (I.aq x.l)<=N)(hx:x.sz<=1000000)(px:x.P w)(pu:u.P w)(pz:d.P w)(hu:w.heap[B]? =some (.cells u.c.toArray aO (0,0)))(hz:w.heap[q]? =some (.cells d.c.toArray aO (0,0))):
  aj U yf #[x.v,.pointer (some (ad B)),.pointer (some (ad q))] w λr V=>fU (x.fp++(u.fp++d.fp)) w (gx x.k (I.aq x.l) u.rx d.rx) r V/\ah w V:=by
 have H0:O F0 w w [] [.tree x,.tree u,.tree d,dz B u,dz q d]:=bO _ (by
  intro ae D;simp only[aE,aZ,a2]at D;rcases D with rfl|rfl|rfl|rfl|rfl
  .exact px
  .exact pu
  .exact pz
  .exact hu
  .exact hz)
 have Y:=Sub.fX x u;have ap:=Za x u;have ao:=I.fB (fX x u);have kt:∀t∈fX x u,t.sz<=1000000:=λt y=>by have:=I.ef y;omega
 have ar:(fX x u).length<=sS x.k (I.aq x.l):=by have S:=congrArg List.length (uP x u);rw[List.length_map]at S;rw[S];exact List.length_filter_le ..
 refine D0.au _ _ _ _ _ _ w _ (H0.ay λH w1 H1=>H1.ay λK w2 C=>⟨_,_,_,u.s,C.dB 3 0,C.dB 3 1,C.dB 3 2,C.dB 3 3,C.gY (RS x u w2 hx (C.getD 0) (C.getD 1)) ?_⟩);rintro _ w3 ⟨z,rfl,o1,n1⟩ H3 F3;have G:=F3.own (.row aO 4 z ((fX x u).flatMap I.c)) o1 n1;have aa:∀V:J,x.P V->I.Ps V (fX x u):=λV L=>Y.Ps L;refine⟨z,rfl,G.av (Rs z (fX x u) ⟨CM,#[],#[.pointer (some (ad q))]⟩ (λt=>bd t.rx d.rx==0) [.tree x,.tree d,dz q d] w3 (by omega) (G.get 2:aK _ _ _ _ _).a7 (by
  intro ae D;simp only[aE,aZ,a2]at D;rcases D with rfl|rfl|rfl
  .exact G.getD 0
  .exact G.getD 2
  .exact G.getD 4) (by kernel_rfl) (λV t y F=>RV t d q V (kt t y) ((aa V (F.getD 1)).mem y) (F.getD 2) (F.getD 3))) ?_⟩
 rintro _ w4 rfl j;have ea:(fX x u).any (λt=>bd t.rx d.rx==0)=(gK x.k (I.aq x.l) u.rx).any λt=>bd t d.rx==0:=by rw[Q7,uP]
 refine⟨_,rfl,bh (λy=>⟨_,_,_,d.s,j.dB 4 0,j.dB 4 1,j.dB 4 2,j.dB 4 3,j.af λw8 h=>⟨⟨d,rfl,?_,h.getD 2,λb e=>.inr (by simp[e])⟩,h.fr⟩⟩) (λhf=>?_)⟩
 .have an:=ea▸y;unfold gx;rw[ag an]
 have ak:=ea▸hf;have fin:∀(s':Sl) (ks:List I) (V:J),(∀t∈ks,t∈fX x u)->ks.map I.rx=(if x.k=3 then gK x.k (I.aq x.l) u.rx else pZ (kj (gK x.k (I.aq x.l) u.rx)))->O F0 w V [.g H,.g K,.row aO 4 s' (ks.flatMap I.c)] [.tree x,.tree u,.tree d,dz B u,dz q d]->
   D0.aX (ad B) H x.k x.lo.toNat x.hi.toNat x.s K 0 0 0 ⟨none,0,0⟩ s' V λr V=>fU (x.fp++(u.fp++d.fp)) w (gx x.k (I.aq x.l) u.rx d.rx) r V/\ah w V:=by
  intro s' ks V E D A;have T:Sub x ks:=Y.sub E;have nr:=I.cb (A.get 2:aK _ _ _ _ _).a7;have ej:gx x.k (I.aq x.l) u.rx d.rx=r6 x.k u.rx (ks.map I.rx):=by unfold gx;rw[ab (by rw[ak];simp),D]
  refine ax (λh0=>⟨_,_,_,u.s,A.dB 3 0,A.dB 3 1,A.dB 3 2,A.dB 3 3,A.af λw8 h=>⟨⟨u,rfl,?_,h.getD 1,λb e=>.inr (by simp[e])⟩,h.fr⟩⟩) (λh0=>ax (λS=>?_) (λS=>A.af λw8 h=>⟨⟨.mk x.k 0 0 s' ks,rfl,?_,?_,λb e=>?_⟩,h.fr⟩))
  .have:ks=[]:=List.length_eq_zero_iff.1 (by omega);rw[ej,this];rfl
  .obtain ⟨a,rfl⟩:=List.length_eq_one_iff.1 (show ks.length=1 by omega);refine A.el 2 0 rfl (t:=a) rfl (A.af λw8 h=>⟨⟨a,rfl,?_,T.P _ (h.getD 0) a (by simp),λb e=>.inr (by simp[T.fp a (by simp) b e])⟩,h.fr⟩);rw[ej];rfl
  .rw [ej];unfold I.rx;rw[I.fi];cases ks with
   |nil=>simp at nr;omega
   |cons a ks=>
    cases ks with
    |nil=>simp at nr;omega
    |cons b ks=>rfl
  .unfold I.P;exact⟨(h.get 2:aK _ _ _ _ _).a7,T.Ps (h.getD 0)⟩
  .unfold I.fp at e;rcases aL.1 e with e|e
   .exact .inl ((h.new _ (aB (i:=2) rfl) b (gh e)).resolve_right id)
   .exact .inr (by simp[T.a8 e])
 have eo:∀V:J,O F0 w V [.g H,.g K,.row aO 4 z ((fX x u).flatMap I.c)] [.tree x,.tree u,.tree d,dz B u,dz q d]->∀M∈aN z,M∉I.a8 (fX x u):=λV F M hy hm=>F.off 2 0 rfl rfl M hy (a4.2 (Y.a8 hm));refine bY (λE=>?_) (λE=>fin z (fX x u) w4 (λ_ L=>L) (by rw[ag E,uP]) j);refine j.AU 2 rfl (hS z (fX x u) w4 (by have:=L E;omega) (by omega) (j.get 2) (aa w4 (j.getD 0)) (eo w4 j)) ?_;rintro _ w5 ⟨m,rfl,W,al,o5⟩ hH;have Q:O F0 w w5 [.g H,.g K,.row aO 4 z (m.flatMap I.c)] [.tree x,.tree u,.tree d,dz B u,dz q d]:=hH (.row aO 4 z (m.flatMap I.c)) o5 λb e=>.inl e;have ac:Sub x m:=Y.sub λt y=>W.mem_iff.1 y;refine⟨rfl,Q.AU 2 rfl (Rq z m w5 (by rw[Zb W];omega) (Q.get 2) (ac.Ps (Q.getD 0)) (λM hy hm=>Q.off 2 0 rfl rfl M hy (a4.2 (ac.a8 hm)))) ?_⟩;rintro _ w6 ⟨Z,rfl,o6,n6⟩ ai;have H7:O F0 w w6 [.g H,.g K,.row aO 4 Z ((kE m).flatMap I.c)] [.tree x,.tree u,.tree d,dz B u,dz q d]:=ai (.row aO 4 Z ((kE m).flatMap I.c)) o6 λb e=>.inl (n6 b e);have am:m.map I.rx=kj ((fX x u).map I.rx):=YB al (W.map _);exact⟨Z,rfl,fin Z (kE m) w6 (λt y=>W.mem_iff.1 (SN y)) (by rw[ab E,SO,am,uP]) H7⟩
def je{w:J}{x t:I}(h:x.P w){k:Nat}{X:Int}{K:Int->Int->Int->Sl->Prop}(q:X=(k:Int))(e:x.l[k]? =some t)(j:K t.k t.lo.toNat t.hi.toNat t.s):
  mA x.s X λp=>∃a b c:Int,∃d:Sl,w.cell? ((p.add (a1 X *4)).add 0)=some (.i a)/\w.cell? ((p.add (a1 X *4)).add 1)=some (.int .u8 b)/\w.cell? ((p.add (a1 X *4)).add 2)=some (.int .u8 c)/\w.cell? ((p.add (a1 X *4)).add 3)=some d.v/\K a b c d:=by subst q;have z:=I.cb h.parts.1;have y:=(cr.1 e).1;exact⟨by omega,by omega,I.a3 h.parts.1 e λp A c=>⟨_,_,_,_,c.c0,c.c1,c.c2,c.c3,j⟩⟩
def R4(x:I)(w:J)(N:x.P w)(E:x.k=6)(e:j3 x.rx=true):aj U sD #[x.v] w λr O=>fU x.fp w (o0 x.lo x.hi (I.aq x.l)) r O/\ah w O:=by
 have M:=I.cb N.parts.1;rw[I.eW]at e;cases d:x.l with
 |nil=>rw[d,E]at e;simp[j3,I.aq]at e
 |cons c L=>
  have C:x.l[0]? =some c:=by rw[d];rfl
  have F:c∈x.l:=aB C;have j:I.aq (c::L)=c.rx::I.aq L:=rfl;refine NO.au _ _ _ _ w _ ((ga N).ay λY w1 Q=>Q.ay λZ V y=>?_);have G:x.P V:=y.getD 0;have n2:0<x.s.n:=by rw[d]at M;simp at M;omega
  refine⟨by omega,by omega,I.a3 G.parts.1 C λp T z=>⟨c.k,z.c0,ax (λq=>?_) (λq=>y.af λaa H=>⟨⟨x,rfl,?_,H.getD 0,λb A=>.inr A⟩,H.fr⟩)⟩⟩
  .refine ⟨by omega,by omega,I.a3 G.parts.1 C λp T z=>⟨c.s,z.c3,?_⟩⟩;cases B:c.l with
   |nil=>
    rw[d,j]at e;have S:c.rx.l.isEmpty=true:=by rw[vN,B];rfl
    simp[j3,E,kQ,q,S]at e
   |cons h l2=>
    have D:c.l[0]? =some h:=by rw[B];rfl
    refine je (G.parts.2.mem F) rfl D (y.af λW K=>⟨⟨h,rfl,?_,((show x.P W from K.getD 0).parts.2.mem F).parts.2.mem (aB D),λb A=>.inr (I.fY.2 (.inr (I.bK.2 ⟨c,F,I.fY.2 (.inr (I.bK.2 ⟨h,aB D,A⟩))⟩)))⟩,K.fr⟩);rw[j];show h.rx=if c.rx.k=6 then _ else _;rw[ag (by rw[kQ,q]),vN,B];rfl
  .rw [j];show x.rx=if c.rx.k=6 then _ else _;rw[ab (by rw[kQ];exact q),I.eW,E,d,j]
def Sf(x m v:I)(z A:Nat)(w:J)(hx:x.sz<=1000000)(px:x.P w)(pm:m.P w)(pv:v.P w)(hm:w.heap[z]? =some (.cells m.c.toArray aO (0,0)))(hv:w.heap[A]? =some (.cells v.c.toArray aO (0,0)))(em:m.rx=mM)(ev:v.rx=eo)(hk:x.k=7)(M:j3 x.rx=true):
  aj U sE #[x.v,.pointer (some (ad z)),.pointer (some (ad A))] w λr e=>fU (x.fp++(m.fp++v.fp)) w (kW x.lo x.hi (I.aq x.l)) r e/\ah w e:=by
 have nr:=I.cb px.parts.1;rw[I.eW]at M;cases E:x.l with
 |nil=>rw[E,hk]at M;simp[j3,I.aq]at M
 |cons c F=>
  have Z:x.l[0]? =some c:=by rw[E];rfl
  have G:c∈x.l:=aB Z;have D:I.aq (c::F)=c.rx::I.aq F:=rfl;have H0:O F0 w w [] [.tree x,.tree m,.tree v,dz z m,dz A v]:=bO _ (by
   intro ae Y;simp only[aE,aZ,a2]at Y;rcases Y with rfl|rfl|rfl|rfl|rfl
   .exact px
   .exact pm
   .exact pv
   .exact hm
   .exact hv)
  refine yR.au _ _ _ _ _ _ w _ (H0.ay λT w1 H1=>H1.ay λC w2 N=>?_);have n2:0<x.s.n:=by rw[E]at nr;simp at nr;omega
  have sc:c.sz<=1000000:=by have:=I.ef G;have:=I.hP x;omega
  have fc:∀b∈c.fp,b∈x.fp:=λb q=>I.fY.2 (.inr (I.bK.2 ⟨c,G,q⟩));refine je (show x.P w2 from N.getD 0) rfl Z (N.ay λH w3 B=>?_);have ac:c.k=0\/c.k=1->∀e:J,O F0 w e [.g T,.g C,.g H] [.tree x,.tree m,.tree v,dz z m,dz A v]->yR.aX (ad z) C 0 0 0 ⟨none,0,0⟩ e λr e=>fU (x.fp++(m.fp++v.fp)) w (kW x.lo x.hi (I.aq (c::F))) r e/\ah w e:=λy e j=>
   ⟨_,_,_,m.s,j.dB 3 0,j.dB 3 1,j.dB 3 2,j.dB 3 3,j.af λh d=>⟨⟨m,rfl,by
    rw[em,D];show _=if c.rx.k=0\/c.rx.k=1 then _ else _;rw[kQ,ag y],d.getD 1,λb q=>.inr (by simp[q])⟩,d.fr⟩⟩
  have aa:¬(c.k=0\/c.k=1)->(c.k=7\/bd c.rx eo=0)->∀e:J,O F0 w e [.g T,.g C,.g H] [.tree x,.tree m,.tree v,dz z m,dz A v]->yR.bb C 0 0 0 ⟨none,0,0⟩ H c.k c.lo.toNat c.hi.toNat c.s e λr e=>fU (x.fp++(m.fp++v.fp)) w (kW x.lo x.hi (I.aq (c::F))) r e/\ah w e:=λhn y e j=>
   j.af λh d=>⟨⟨c,rfl,by
    rw[D];show _=if c.rx.k=0\/c.rx.k=1 then _ else if c.rx.k=7\/bd c.rx eo=0 then _ else _;rw[kQ,ab hn,ag y],(show x.P h from d.getD 0).parts.2.mem G,λb q=>.inr (by simp[fc b q])⟩,d.fr⟩
  refine ax (λV=>B.af λh d=>ac (.inl V) h d) (λV=>ax (λW=>B.af λh d=>ac (.inr W) h d) (λW=>ax (λL=>B.af λh d=>aa (by omega) (.inl L) h d) (λL=>B.af λh d=>⟨_,_,_,v.s,d.dB 4 0,d.dB 4 1,d.dB 4 2,d.dB 4 3,?_⟩)));refine d.av (ud c v h sc ((show x.P h from d.getD 0).parts.2.mem G) (d.getD 2)) ?_;rintro _ w5 rfl Q;rw[ev];refine⟨_,rfl,ax (λy=>aa (by omega) (.inr y) w5 Q) (λy=>Q.af λw6 S=>⟨⟨x,rfl,?_,S.getD 0,λb q=>.inr (by simp[q])⟩,S.fr⟩)⟩;rw[D];show x.rx=if c.rx.k=0\/c.rx.k=1 then _ else if c.rx.k=7\/bd c.rx eo=0 then _ else _;rw[kQ,ab (by omega),ab (by
   rintro(K|K)
   .exact L K
   .exact y K),I.eW,hk,E,D]
structure Fm where
 m:Nat
 es:Array MapEntry
 clock:Nat
 ms:List (Int×aa)
 cs:List (Nat×I)
 s:Sl
def bV:I:=.mk 0 0 0 ⟨none,0,0⟩ []
def fg:I:=.mk 1 0 0 ⟨none,0,0⟩ []
def Fm.ev(F:Fm):I:=.mk 6 0 0 F.s [bV]
def _root_.Go.W.En.fm(F:Fm):En:=.all (.ob F.m (.map F.es F.clock)::.tree F.ev::F.cs.map λp=>dz p.1 p.2)
def sg(a b:Nat):aa:=.func (.func yf) #[] #[.pointer (some (ad a)),.pointer (some (ad b))]
def ih:aa:=.func (.func vi) #[] #[]
def rf(cs:List (Nat×I))(e:I)(k:Int)(v:aa):Prop:=
 ((k=0\/k=1\/k=2)/\v=ih)\/(∃u d a b,((k=3/\u=fg/\d=bV)\/(k=4/\u=bV/\d=e)\/(k=5/\u=e/\d=bV))/\v=sg a b/\(a,u)∈cs/\(b,d)∈cs)\/
 (k=6/\v=.func (.func sD) #[] #[])\/∃a b,k=7/\v=.func (.func sE) #[] #[.pointer (some (ad a)),.pointer (some (ad b))]/\(a,fg)∈cs/\(b,e)∈cs
structure Fm.Ok(F:Fm):Prop where
 ms:rl .i64 F.es F.ms
 all:∀k:Int,0<=k->k<8->∃v,kJ F.ms k=some v/\rf F.cs F.ev k v
section
variable {F:Fm} {w:J}
def TU(d:(En.fm F).P w):w.heap[F.m]? =some (.map F.es F.clock):=d (.ob F.m (.map F.es F.clock)) (by simp)
def BA(d:(En.fm F).P w):F.ev.P w:=d (.tree F.ev) (by simp)
def xp(d:(En.fm F).P w){a:Nat}{u:I}(e:(a,u)∈F.cs):w.heap[a]? =some (.cells u.c.toArray aO (0,0)):=d (dz a u) (cH _ (cH _ (cz.2 ⟨(a,u),e,rfl⟩)))
def BB{b:Nat}(d:b∈F.ev.fp):b∈(En.fm F).fp:=a4.2 (bB.2 ⟨.tree F.ev,by simp,a4.2 d⟩)
def j8(w:J):bV.P w:=Mb w
def xd(w:J):fg.P w:=by unfold fg I.P I.Ps;exact⟨br.nil 4 w,trivial⟩
def j9{b:Nat}(d:b∈bV.fp):False:=Ma d
def xe{b:Nat}(d:b∈fg.fp):False:=by unfold fg I.fp I.a8 at d;simp[En.a7]at d
def fU.sub{d e:List Nat}{x:Rx}{r:cA}{V:J}(h:fU d w x r V)(A:∀b∈d,b∈e):fU e w x r V:=by obtain⟨t,j,k,q,y⟩:=h;exact⟨t,j,k,q,λb z=>(y b z).imp id (A b)⟩
def Jx:z6 U jR bn mw .i64 .nilFunc:=⟨by kernel_rfl,by kernel_rfl,by kernel_rfl⟩
end
def VI{P:aw}{T kt y:aD}{kd:IntKind}{x:aa}(e:z6 P T kt y kd x){w:J}{h:Nat}{es:Array MapEntry}{clock:Nat}{ms:List (Int×aa)}(B:w.heap[h]? =some (.map es clock))(C:rl kd es ms)(k:Int):(Instr.lookup T (.map (some h)) (.int kd k) false).run P w=.ok ((kJ ms k).getD x) w:=by
 have z:=Bx (k:=k) (i:=0) C;have A:(getObj h).run P w=.ok (.map es clock) w:=by simp[getObj,Sem.run,B]
 have d:=Jv (ms:=ms) (k:=k) (i:=0);unfold Instr.lookup Instr.findKey;simp only[Sem.run_bind,run_underlying e.hT,Result.andThen_ok,A,Sem.run_pure,GO e.hk,run_underlying e.hk,z];cases j:((ms.findIdx? λp=>p.1==k).bind λq=>(ms[q]?).map λp=>(0+q,p.2))with
 |none=>rw[j]at d;simp[<-d,zP e.hz]
 |some D=>rw[j]at d;simp[<-d]
def RN{N:Nat}(Y:k' N)(W:N<=1000000){F:Fm}(L:F.Ok){w:J}(Q:(En.fm F).P w)(k:Int)(S:0<=k)(T:k<8):
  ∃f:Fv,(Instr.lookup jR (.map (some F.m)) (.i k) false).run U w=.ok f.v w/\gI U f.n=true/\∀(x:I) (V:J),(En.fm F).P V->x.P V->x.k=k->(x.k=4\/x.k=5->sS x.k (I.aq x.l)<=N)->x.sz<=1000000->j3 x.rx=true->
   aj U f.n (f.bs++#[x.v]++f.cs) V λr M=>fU (x.fp++(En.fm F).fp) V (hj x.rx) r M/\ah V M:=by
 have mo:=Jx;obtain⟨v,hv,Z⟩:=L.all k S T;have z:=VI mo (TU Q) L.ms k;rw[hv,Option.getD_some]at z;have D:∀x:I,hj x.rx=if x.k=3 then gx 3 (I.aq x.l) mM fh else if x.k=4 then gx 4 (I.aq x.l) fh eo else if x.k=5 then gx 5 (I.aq x.l) eo fh else if x.k=6 then o0 x.lo x.hi (I.aq x.l)else if x.k=7 then kW x.lo x.hi (I.aq x.l)else x.rx:=λx=>by rw[I.eW];rfl
 rcases Z with⟨q,rfl⟩|⟨u,K,a,b,q,rfl,G,y⟩|⟨rfl,rfl⟩|⟨a,b,rfl,rfl,G,y⟩
 .refine ⟨⟨vi,#[],#[]⟩,z,by kernel_rfl,λx V h j e E B C=>((RU x V j).mono ?_)⟩;rintro _ H ⟨rfl,f⟩;refine⟨⟨x,rfl,?_,j.cd f,λb y=>.inr (by simp[y])⟩,f⟩;rw[D,ab (by omega),ab (by omega),ab (by omega),ab (by omega),ab (by omega)]
 .refine ⟨⟨yf,#[],#[.pointer (some (ad a)),.pointer (some (ad b))]⟩,z,by kernel_rfl,λx V h j e E B C=>?_⟩;have pu:u.P V:=by
   rcases q with⟨_,rfl,_⟩|⟨_,rfl,_⟩|⟨_,rfl,_⟩
   .exact xd V
   .exact j8 V
   .exact BA h
  have pz:K.P V:=by
   rcases q with⟨_,_,rfl⟩|⟨_,_,rfl⟩|⟨_,_,rfl⟩
   .exact j8 V
   .exact BA h
   .exact j8 V
  refine(RZ Y W x u K a b V (λh3=>E (by rcases q with⟨rfl,_⟩|⟨rfl,_⟩|⟨rfl,_⟩<;>omega)) B j pu pz (xp h G) (xp h y)).mono ?_;rintro r H ⟨A,f⟩;refine⟨?_,f⟩;have O:hj x.rx=gx x.k (I.aq x.l) u.rx K.rx:=by
   rw[D];rcases q with⟨rfl,rfl,rfl⟩|⟨rfl,rfl,rfl⟩|⟨rfl,rfl,rfl⟩
   .rw [ag e,e];rfl
   .rw [ab (by omega),ag e,e];rfl
   .rw [ab (by omega),ab (by omega),ag e,e];rfl
  rw[O];refine A.sub λc d=>?_;rcases aL.1 d with d|d
  .simp [d]
  .rcases aL.1 d with d|d
   .rcases q with⟨_,rfl,_⟩|⟨_,rfl,_⟩|⟨_,rfl,_⟩
    .exact (xe d).elim
    .exact (j9 d).elim
    .exact b0 _ (BB d)
   .rcases q with⟨_,_,rfl⟩|⟨_,_,rfl⟩|⟨_,_,rfl⟩
    .exact (j9 d).elim
    .exact b0 _ (BB d)
    .exact (j9 d).elim
 .refine ⟨⟨sD,#[],#[]⟩,z,by kernel_rfl,λx V h j e E B C=>((R4 x V j e C).mono ?_)⟩;rintro r H ⟨A,f⟩;refine⟨?_,f⟩;rw[D,ab (by omega),ab (by omega),ab (by omega),ag e];exact A.sub λc d=>by simp[d]
 .refine ⟨⟨sE,#[],#[.pointer (some (ad a)),.pointer (some (ad b))]⟩,z,by kernel_rfl,λx V h j e E B C=>((Sf x fg F.ev a b V B j (xd V) (BA h) (xp h G) (xp h y) rfl rfl e C).mono ?_)⟩;rintro r H ⟨A,f⟩;refine⟨?_,f⟩;rw[D,ab (by omega),ab (by omega),ab (by omega),ab (by omega),ag e];refine A.sub λc d=>?_;rcases aL.1 d with d|d
  .simp [d]
  .rcases aL.1 d with d|d
   .exact (xe d).elim
   .exact b0 _ (BB d)
namespace NK
noncomputable def C0:Code:=(Tryz.f165.body).getD .skip
noncomputable def C1:=C0.sn
noncomputable def C2:=C1.sn
noncomputable def C3:=C2.sn
noncomputable def C4:=C3.sn
noncomputable def C5:=C4.sn
noncomputable def C6:=C5.sn
def ok(w:J)(R:aC)(z:cS w (.cells #[.i 0,.int .u8 0,.int .u8 0,.slice none 0 0] aO) λe=>
 cS e (.cells #[.i 0,.int .u8 0,.int .u8 0,.slice none 0 0] aO) λD=>
 ml D (nb w) (.i 0) (.int .u8 0) (.int .u8 0) (.slice none 0 0) λF=>aJ F (nb e) (.i 1) λG=>
 aJ G ((nb e).add 1) (.int .u8 0) λH=>
 aJ H ((nb e).add 2) (.int .u8 0) λI=>
 aJ I ((nb e).add 3) (.slice none 0 0) λh=>
 iJ h (nb w) λk q x y=>cS h (.cells #[.i k,.int .u8 q,.int .u8 x,y.v] aO) λj=>
 cS j (.cells #[.i 0,.int .u8 0,.int .u8 0,.slice none 0 0] aO) λB=>
 ml B (nb j) (.i 6) (.int .u8 0) (.int .u8 0) (.slice (some (nb h)) 1 1) λC=>vQ U C5 (λE w=>kg U Tryz.f165 E w (λv=>R (ae v) w)) [(5,.func (.func ye) #[] #[]),(4,.func (.func vi) #[] #[]),(3,.pointer (some (nb j))),(10,.agg #[.i 6,.int .u8 0,.int .u8 0,.slice (some (nb h)) 1 1]),(9,.slice (some (nb h)) 1 1),(8,.agg #[.i k,.int .u8 q,.int .u8 x,y.v]),(2,.pointer (some (nb e))),(1,.pointer (some (nb w))),(7,.agg #[.i 1,.int .u8 0,.int .u8 0,.slice none 0 0]),(6,.agg #[.i 0,.int .u8 0,.int .u8 0,.slice none 0 0]),(0,.map none)] C):aj U KZ #[] w R:=
 ug (R:=R) (fn:=Tryz.f165) (c:=C0) (args:=[]) (by kernel_rfl) (by kernel_rfl) (by kernel_rfl) (sr C0 (show(λ(E:Env) (w:J)=>ez U C0 (λE w=>ez U C1 (λE w=>ez U C2 (λE w=>ez U C3 (λE w=>ez U C4 (λE w=>vQ U C5 (λE w=>kg U Tryz.f165 E w (λv=>R (ae v) w)) E w) E w) E w) E w) E w) E w) (jA 0 []) w from mp z) λ_ _ d=>(sr C1 d λ_ _ d=>(sr C2 d λ_ _ d=>(sr C3 d λ_ _ d=>(sr C4 d λ_ _ d=>(si C5 (by kernel_rfl) d λ_ _ d=>(rt C6 λa A=>vH A d)))))))
end NK
def Qt{M:Nat->Prop}{w0 w:J}{L j D:List En}(H:O M w0 w L D)(h:L.Perm j):O M w0 w j D:=
 ⟨H.fr,λd e=>H.own d (h.mem_iff.2 e),H.rd,λd e=>H.new d (h.mem_iff.2 e),(h.flatMap_right (·.fp)).nodup_iff.1 H.nd,λd e b q k x=>H.dj d e b q k (h.mem_iff.2 x)⟩
def gj{L:Nat->Bool}{i j:Nat}(d:j≠i):db L i j=L j:=by
 have:Nat.beq j i=false:=by rw[<-iX,dZ];exact d
 simp[db,this]
def OE{L:Nat->Bool}{i:Nat}:db L i i=true:=by simp[db]
def XP{P:aw}{fn:Func}{E:Env}{w:J}{K:aa->Prop}{t:Nat}{v:aa}(e:fn.results.toList=[.tmp t])(h:E.get? t=some v)(d:K v):kg P fn E w K:=by unfold kg;rw[e];unfold qK;rw[h];exact d
def xo:List (Op×Option Nat×aD×List Nat):=[
 (.makeMap jR none,some 11,jR,[]),
 (.move (.tmp 4),some 12,mw,[]),
 (.insert jR (.tmp 11) (.const (.int .i64 0)) (.tmp 12),none,mu,[0,1]),
 (.move (.tmp 4),some 13,mw,[]),
 (.insert jR (.tmp 11) (.const (.int .i64 1)) (.tmp 13),none,mu,[0,3]),
 (.move (.tmp 4),some 14,mw,[]),
 (.insert jR (.tmp 11) (.const (.int .i64 2)) (.tmp 14),none,mu,[0,5]),
 (.move (.tmp 5),some 15,ES,[]),
 (.load aO (.tmp 2),some 16,aO,[]),
 (.load aO (.tmp 1),some 17,aO,[]),
 (.call ⟨.value (.tmp 15),#[.tmp 16,.tmp 17],#[aO,aO]⟩,some 18,mw,[7,8,9]),
 (.insert jR (.tmp 11) (.const (.int .i64 3)) (.tmp 18),none,mu,[0,10]),
 (.move (.tmp 5),some 19,ES,[]),
 (.load aO (.tmp 1),some 20,aO,[]),
 (.load aO (.tmp 3),some 21,aO,[]),
 (.call ⟨.value (.tmp 19),#[.tmp 20,.tmp 21],#[aO,aO]⟩,some 22,mw,[12,13,14,10]),
 (.insert jR (.tmp 11) (.const (.int .i64 4)) (.tmp 22),none,mu,[0,15]),
 (.move (.tmp 5),some 23,ES,[]),
 (.load aO (.tmp 3),some 24,aO,[]),
 (.load aO (.tmp 1),some 25,aO,[]),
 (.call ⟨.value (.tmp 23),#[.tmp 24,.tmp 25],#[aO,aO]⟩,some 26,mw,[17,18,19,15]),
 (.insert jR (.tmp 11) (.const (.int .i64 5)) (.tmp 26),none,mu,[0,20]),
 (.insert jR (.tmp 11) (.const (.int .i64 6)) (.func sD),none,mu,[0]),
 (.makeFunc (.func sE) #[] #[.tmp 2,.tmp 3],some 27,mw,[]),
 (.insert jR (.tmp 11) (.const (.int .i64 7)) (.tmp 27),none,mu,[0,23]),
 (.move (.tmp 11),some 28,jR,[0,1,2,3,4,5,6,7,8,9,10,11,12,13,14,15,16,17,18,19,20,21,22,23,24]),
 (.assign (.tmp 28),some 0,jR,[25,20,0,1,2,3,4,5,6,7,8,9,10,11,12,13,14,15,16,17,18,19,20,21,22,23,24,25])]
abbrev ptr(b:Nat):aa:=.pointer (some (ad b))
abbrev ko:aa:=.func (.func ye) #[] #[]
abbrev zj(a b:Nat):aa:=.func (.func sE) #[] #[ptr a,ptr b]
abbrev e3(s:Sl):I:=.mk 6 0 0 s [bV]
def bP(j d e:Nat)(h:I):List (Nat×Nat×aa):=[(0,1,ptr j),(0,2,ptr d),(0,3,ptr e),(0,4,ih),(0,5,ko),(2,12,ih),(4,13,ih),(6,14,ih),(8,15,ko),(9,16,fg.v),(10,17,bV.v),(13,19,ko),(14,20,bV.v),(15,21,h.v),(18,23,ko),(19,24,h.v),(20,25,bV.v),(24,27,zj d e)]
def dV:List (Nat×Int):=[(2,0),(4,1),(6,2),(11,3),(16,4),(21,5),(22,6),(24,7)]
def hn(d:I):List (Nat×Nat×I×I):=[(10,18,fg,bV),(15,22,bV,d),(20,26,d,bV)]
def Joined(e:I)(cs:List (Nat×I))(L:Nat->Bool)(E:Env):Prop:=∀d∈hn e,L d.1=true->∃a b,E.get? d.2.1=some (sg a b)/\(a,d.2.2.1)∈cs/\(b,d.2.2.2)∈cs
def wC(h:I)(cs:List (Nat×I))(L:Nat->Bool)(E:Env)(mp:List En):Prop:=(L 0=false/\mp=[]/\(∀d∈dV,L d.1=false)/\L 25=false/\L 26=false)\/
 (L 0=true/\∃(m:Nat) (es:Array MapEntry) (clock:Nat) (ms:List (Int×aa)),mp=[.ob m (.map es clock)]/\E.get? 11=some (.map (some m))/\rl .i64 es ms/\(∀e v,kJ ms e=some v->rf cs h e v)/\(∀d∈dV,(kJ ms d.2).isSome=L d.1)/\
  (L 25=true->E.get? 28=some (.map (some m)))/\(L 26=true->E.get? 0=some (.map (some m))))
abbrev oP(d e h:Nat)(s:Sl):List En:=[dz d bV,dz e fg,.row aO 4 s bV.c,dz h (e3 s)]
structure FJ(w0:J)(b1 b2 b4:Nat)(s:Sl)(L:Nat->Bool)(E:Env)(w:J):Prop where
 st:nt (bP b1 b2 b4 (e3 s)) L E
 hp:∃(mp X:List En) (cs:List (Nat×I)),O F0 w0 w (mp++(oP b1 b2 b4 s++X)) []/\(∀p∈cs,dz p.1 p.2∈oP b1 b2 b4 s++X)/\(b2,fg)∈cs/\(b4,e3 s)∈cs/\Joined (e3 s) cs L E/\wC (e3 s) cs L E mp
def rf.mono{cs x:List (Nat×I)}{y:I}{k:Int}{v:aa}(d:rf cs y k v)(e:∀p∈cs,p∈x):rf x y k v:=by
 rcases d with d|⟨u,z,a,b,h,j,q,w⟩|d|⟨a,b,h,j,q,w⟩
 .exact .inl d
 .exact .inr (.inl ⟨u,z,a,b,h,j,e _ q,e _ w⟩)
 .exact .inr (.inr (.inl d))
 .exact .inr (.inr (.inr ⟨a,b,h,j,e _ q,e _ w⟩))
def Jw(ms:List (Int×aa))(k d:Int)(v:aa):kJ (ms++[(k,v)]) d=(kJ ms d).or (if k=d then some v else none):=by
 unfold kJ;rw[List.find?_append];cases h:ms.find? (λp=>p.1==d)with
 |some p=>rfl
 |none=>
  by_cases e:k=d
  .simp [e]
  .simp [e]
section
variable {w0 w:J} {b1 b2 b4:Nat} {s:Sl} {L:Nat->Bool} {E:Env}
def wC.ck{A:I}{cs z:List (Nat×I)}{mp:List En}(j:wC A cs L E mp)(O:∀p∈cs,p∈z)(i d:Nat)(v:aa)(hi:∀P∈[0,25,26,2,4,6,11,16,21,22,24],P≠i)(hd:∀t∈[11,28,0],d≠t):wC A z (db L i) (E.put (some d) v) mp:=by
 have B:∀e∈dV,db L i e.1=L e.1:=λe h=>gj (hi _ (by simp only[dV,aE,aZ,a2]at h;rcases h with rfl|rfl|rfl|rfl|rfl|rfl|rfl|rfl<;>simp));have C:db L i 0=L 0:=gj (hi 0 (by simp));have D:db L i 25=L 25:=gj (hi 25 (by simp));have F:db L i 26=L 26:=gj (hi 26 (by simp));rcases j with⟨k,q,w,x,y⟩|⟨k,m,G,clock,ms,q,w,x,y,H,K,M⟩
 .exact .inl ⟨by rw[C,k],q,λe h=>by rw[B e h,w e h],by rw[D,x],by rw[F,y]⟩
 .refine .inr ⟨by rw[C,k],m,G,clock,ms,q,?_,x,λQ v N=>(y Q v N).mono O,λe h=>by rw[B e h,H e h],λj=>?_,λj=>?_⟩
  .rw [iH (hd 11 (by simp)),w]
  .rw [iH (hd 28 (by simp)),K (D▸j)]
  .rw [iH (hd 0 (by simp)),M (F▸j)]
def FJ.stat(h:FJ w0 b1 b2 b4 s L E w)(i d:Nat)(v:aa)(B:∀e∈bP b1 b2 b4 (e3 s),e.1=i+1->e=(i+1,d,v))(C:∀e∈bP b1 b2 b4 (e3 s),e.2.1=d->e.1=i+1)(hi:∀x∈[0,25,26,2,4,6,11,16,21,22,24],x≠i)(k:∀x∈[10,15,20],x≠i)(hd:∀t∈[11,28,0],d≠t)(j:∀t∈[18,22,26],d≠t):FJ w0 b1 b2 b4 s (db L i) (E.put (some d) v) w:=by
 obtain⟨mp,X,A,z,F,H,K,G,I⟩:=h.hp;refine⟨h.st.fill B C,mp,X,A,z,F,H,K,λe q D=>?_,I.ck (λ_ h=>h) i d v hi hd⟩;have y:db L i e.1=L e.1/\d≠e.2.1:=by
  simp only[hn,aE,aZ,a2]at q;rcases q with rfl|rfl|rfl
  .exact ⟨gj (k 10 (by simp)),j 18 (by simp)⟩
  .exact ⟨gj (k 15 (by simp)),j 22 (by simp)⟩
  .exact ⟨gj (k 20 (by simp)),j 26 (by simp)⟩
 rw[iH y.2];exact G e q (y.1▸D)
def FJ.ins(x:FJ w0 b1 b2 b4 s L E w)(i:Nat)(k:Int)(v:aa)(h:(i,k)∈dV)(F:L 0=true)(hi:L i=false)(hv:∀j,(b2,fg)∈j->(b4,e3 s)∈j->Joined (e3 s) j L E->rf j (e3 s) k v):
  ∃m,E.get? 11=some (.map (some m))/\∃z,(Instr.mapUpdate jR (.map (some m)) (.i k) v).run U w=.ok () z/\FJ w0 b1 b2 b4 s (db L i) (E.put none undef) z:=by
 obtain⟨mp,X,j,D,Z,O,K,M,ac⟩:=x.hp;rcases ac with⟨G,_⟩|⟨_,m,es,clock,ms,rfl,H,Q,S,I,T,V⟩
 .rw [F]at G;cases G
 have C:kJ ms k=none:=by have:=I _ h;rw[hi]at this;simpa using this
 obtain⟨z,B,r1,r2,r3,r4,r5⟩:=VW Jx (D.ob (b:=m) 0 rfl) Q k v C;refine⟨m,H,z,r1,x.st.pass ?_ (λ_ _=>by simp),[.ob m (.map B (clock+1))],X,j,D.fC 0 (.ob m (.map B (clock+1))) rfl (r4.mono λad _ A=>by simp[En.ob,A]) r2 (λb Y=>.inl Y),Z,O,K,λe d W=>?_,.inr ⟨?_,m,B,clock+1,ms++[(k,v)],rfl,H,r3,λP v' q=>?_,λe d=>?_,λx=>?_,λx=>?_⟩⟩
 .intro e d;simp only[dV,aE,aZ,a2,eQ]at h;simp only[bP,aE,aZ,a2]at d
  (repeat' rcases d with rfl|d)<;>(try subst d)<;>simp only<;>omega
 .have A:db L i e.1=L e.1:=gj (by simp only[dV,aE,aZ,a2,eQ]at h;simp only[hn,aE,aZ,a2]at d;rcases d with rfl|rfl|rfl<;>simp only<;>omega)
  exact M e d (A▸W)
 .rw [gj (by simp only[dV,aE,aZ,a2,eQ]at h;omega),F]
 .rw [Jw]at q;by_cases N:k=P
  .subst N;rw[C]at q;simp at q;subst q;exact hv j O K M
  .rw [ab N]at q;simp at q;exact S P v' q
 .rw [Jw];by_cases y:e.1=i
  .have:e.2=k:=by simp only[dV,aE,aZ,a2,eQ]at h;simp only[dV,aE,aZ,a2]at d;rcases d with rfl|rfl|rfl|rfl|rfl|rfl|rfl|rfl<;>simp only at y ⊢<;>omega
   rw[y,OE,this,C,ag rfl];rfl
  .have:k≠e.2:=by simp only[dV,aE,aZ,a2,eQ]at h;simp only[dV,aE,aZ,a2]at d;rcases d with rfl|rfl|rfl|rfl|rfl|rfl|rfl|rfl<;>simp only at y ⊢<;>omega
   rw[gj y,ab this,<-I e d];simp
 .exact T (by rwa[gj (by simp only[dV,aE,aZ,a2,eQ]at h;omega)]at x)
 .exact V (by rwa[gj (by simp only[dV,aE,aZ,a2,eQ]at h;omega)]at x)
def FJ.call(C:FJ w0 b1 b2 b4 s L E w)(i d:Nat)(u k:I)(B:(i,d,u,k)∈hn (e3 s)):aj U ye #[u.v,k.v] w λy Z=>∃v,y=ae v/\FJ w0 b1 b2 b4 s (db L i) (E.put (some d) v) Z:=by
 obtain⟨mp,X,H,D,P,T,Q,S,V⟩:=C.hp;have aa:(i=10/\d=18)\/(i=15/\d=22)\/(i=20/\d=26):=by simp only[hn,aE,aZ,a2,eQ]at B;omega
 refine NM.ok _ _ _ _ _ _ _ _ w _ (D.nw λq ab F=>F.nw λw2 ac G=>⟨sg w.heap.size q.heap.size,rfl,C.st.pass ?_ ?_,mp,X++[dz w.heap.size u,dz q.heap.size k],(w.heap.size,u)::(q.heap.size,k)::H,?_,?_,by simp[T],by simp[Q],λj e O=>?_,V.ck (λp h=>by simp[h]) i d _ ?_ ?_⟩)
 .intro j e;simp only[bP,aE,aZ,a2]at e
  (repeat' rcases e with rfl|e)<;>(try subst e)<;>simp only<;>omega
 .intro j e z;have z:d=j.2.1:=eh z;simp only[bP,aE,aZ,a2]at e
  (repeat' rcases e with rfl|e)<;>(try subst e)<;>simp only at z<;>omega
 .have y:mp++(oP b1 b2 b4 s++(X++[dz w.heap.size u,dz q.heap.size k]))=mp++(oP b1 b2 b4 s++X)++[dz w.heap.size u]++[dz q.heap.size k]:=by simp
  rw[y];exact G
 .intro p h;rcases aE.1 h with rfl|h
  .simp
  rcases aE.1 h with rfl|h
  .simp
  rw[<-hr];exact bz _ (P p h)
 .by_cases x:j.1=i
  .have:j=(i,d,u,k):=by simp only[hn,aE,aZ,a2,eQ]at B;simp only[hn,aE,aZ,a2]at e;rcases e with rfl|rfl|rfl<;>simp only at x<;>rcases B with⟨rfl,rfl,rfl,rfl⟩|⟨rfl,rfl,rfl,rfl⟩|⟨rfl,rfl,rfl,rfl⟩<;>first |rfl|(exact absurd x (by decide))
   subst this;exact⟨_,_,r',by simp,by simp⟩
  .have W:d≠j.2.1:=by simp only[hn,aE,aZ,a2]at e;rcases e with rfl|rfl|rfl<;>simp only at x ⊢<;>omega
   obtain⟨a,b,K,M,N⟩:=S j e (by rwa[gj x]at O);exact⟨a,b,by rw[iH W,K],by simp[M],by simp[N]⟩
 .intro Y A;simp only[aE,aZ,a2]at A;omega
 .intro Y A;simp only[aE,aZ,a2]at A;omega
def FJ.V0(h:FJ w0 b1 b2 b4 s L E w)(z:L 0=false):FJ w0 b1 b2 b4 s (db L 0) (E.put (some 11) (.map (some w.heap.size))) (w.alloc (.map #[] 0)):=by
 obtain⟨mp,X,y,x,F,K,G,H,M⟩:=h.hp;rcases M with⟨_,rfl,A,B,C⟩|⟨q,_⟩
 .refine ⟨h.st.pass ?_ ?_,[.ob w.heap.size (.map #[] 0)],X,y,Qt (x.alloc (.map #[] 0)) ?_,F,K,G,λe d D=>?_,.inr ⟨OE,w.heap.size,#[],0,[],rfl,r',rfl,λN v I=>by simp[kJ]at I,λe d=>?_,λh=>?_,λh=>?_⟩⟩
  .intro e d;simp only[bP,aE,aZ,a2]at d
   (repeat' rcases d with rfl|d)<;>(try subst d)<;>simp
  .intro e d j;have j:11=e.2.1:=eh j;simp only[bP,aE,aZ,a2]at d
   (repeat' rcases d with rfl|d)<;>(try subst d)<;>simp at j
  .exact List.perm_append_comm
  .have k:db L 0 e.1=L e.1/\11≠e.2.1:=by simp only[hn,aE,aZ,a2]at d;rcases d with rfl|rfl|rfl<;>exact⟨gj (by simp),by simp⟩
   rw[iH k.2];exact H e d (k.1▸D)
  .rw [gj (by simp only[dV,aE,aZ,a2]at d;rcases d with rfl|rfl|rfl|rfl|rfl|rfl|rfl|rfl<;>decide),A e d]
   simp[kJ]
  .rw [gj (by decide),B]at h;cases h
  .rw [gj (by decide),C]at h;cases h
 .rw [z]at q;cases q
def FJ.VP(h:FJ w0 b1 b2 b4 s L E w)(x:L 0=true):∃m,E.get? 11=some (.map (some m))/\FJ w0 b1 b2 b4 s (db L 25) (E.put (some 28) (.map (some m))) w:=by
 obtain⟨mp,X,B,A,I,N,K,M,O⟩:=h.hp;rcases O with⟨y,_⟩|⟨_,m,q,clock,ms,rfl,z,C,D,F,P,G⟩
 .rw [x]at y;cases y
 refine⟨m,z,h.st.pass ?_ ?_,[.ob m (.map q clock)],X,B,A,I,N,K,λe d H=>?_,.inr ⟨by rw[gj (by decide),x],m,q,clock,ms,rfl,by rw[iH (by decide),z],C,D,λe d=>?_,λ_=>r',λh=>?_⟩⟩
 .intro e d;simp only[bP,aE,aZ,a2]at d
  (repeat' rcases d with rfl|d)<;>(try subst d)<;>simp
 .intro e d j;have j:28=e.2.1:=eh j;simp only[bP,aE,aZ,a2]at d
  (repeat' rcases d with rfl|d)<;>(try subst d)<;>simp at j
 .have k:db L 25 e.1=L e.1/\28≠e.2.1:=by simp only[hn,aE,aZ,a2]at d;rcases d with rfl|rfl|rfl<;>exact⟨gj (by simp),by simp⟩
  rw[iH k.2];exact M e d (k.1▸H)
 .rw [gj (by simp only[dV,aE,aZ,a2]at d;rcases d with rfl|rfl|rfl|rfl|rfl|rfl|rfl|rfl<;>decide),F e d]
 .rw [iH (by decide)];exact G (by rwa[gj (by decide)]at h)
def FJ.VQ(h:FJ w0 b1 b2 b4 s L E w)(x:L 0=true)(z:L 25=true):∃m,E.get? 28=some (.map (some m))/\FJ w0 b1 b2 b4 s (db L 26) (E.put (some 0) (.map (some m))) w:=by
 obtain⟨mp,X,C,B,K,O,M,N,P⟩:=h.hp;rcases P with⟨y,_⟩|⟨_,m,q,clock,ms,rfl,D,F,G,H,A,Q⟩
 .rw [x]at y;cases y
 refine⟨m,A z,h.st.pass ?_ ?_,[.ob m (.map q clock)],X,C,B,K,O,M,λe d I=>?_,.inr ⟨by rw[gj (by decide),x],m,q,clock,ms,rfl,by rw[iH (by decide),D],F,G,λe d=>?_,λh=>?_,λ_=>r'⟩⟩
 .intro e d;simp only[bP,aE,aZ,a2]at d
  (repeat' rcases d with rfl|d)<;>(try subst d)<;>simp
 .intro e d j;have j:0=e.2.1:=eh j;simp only[bP,aE,aZ,a2]at d
  (repeat' rcases d with rfl|d)<;>(try subst d)<;>simp at j
 .have k:db L 26 e.1=L e.1/\0≠e.2.1:=by simp only[hn,aE,aZ,a2]at d;rcases d with rfl|rfl|rfl<;>exact⟨gj (by simp),by simp⟩
  rw[iH k.2];exact N e d (k.1▸I)
 .rw [gj (by simp only[dV,aE,aZ,a2]at d;rcases d with rfl|rfl|rfl|rfl|rfl|rfl|rfl|rfl<;>decide),H e d]
 .rw [iH (by decide)];exact A z
def FJ.ld(D:FJ w0 b1 b2 b4 s L E w){u:I}{b:Nat}(G:dz b u∈oP b1 b2 b4 s){K:aa->Prop}(F:K u.v):mU U aO (ad b) w λv _=>K v:=by
 obtain⟨mp,X,H,x,_⟩:=D.hp;have d:w.heap[b]? =some (.cells u.c.toArray aO (0,0)):=x.own (dz b u) (b0 _ (bz _ G));have y:=cellAt (p:=ad b) (i:=0) (v:=.int .i64 u.k) d rfl rfl;have z:=cellAt (p:=ad b) (i:=1) (v:=.int .u8 (u.lo.toNat:Int)) d rfl rfl;have A:=cellAt (p:=ad b) (i:=2) (v:=.int .u8 (u.hi.toNat:Int)) d rfl rfl;have B:=cellAt (p:=ad b) (i:=3) (v:=u.s.v) d rfl rfl;have C:(mU U aO (ad b) w λv _=>K v)=(∃e:Int,∃h:Int,∃j:Int,∃q:Sl,w.cell? ((ad b).add 0)=some (.int .i64 e)/\w.cell? ((ad b).add 1)=some (.int .u8 h)/\w.cell? ((ad b).add 2)=some (.int .u8 j)/\w.cell? ((ad b).add 3)=some q.v/\K (.agg #[.int .i64 e,.int .u8 h,.int .u8 j,q.v])):=by kernel_rfl
 rw[C];exact⟨_,_,_,u.s,y,z,A,B,F⟩
end
def TV(w:J)(H G D:Nat)(s:Sl):allI (wF U (FJ w H G D s)) xo 0:=
 ⟨λy x z o k j A q h e=>YR k (by rw[j];exact e.V0 q),
  λy x z o k j A q h e=>oe (.inl k) (e.st.get (i:=0) (d:=4) (v:=ih) (by simp[bP]) rfl) (by rw[j];exact e.stat 1 12 (ih) (by simp[bP]) (by simp[bP]) (by simp) (by simp) (by simp) (by simp)),
  λy x z o k j A q h e=>by obtain⟨m,E,C,F,B⟩:=e.ins 2 0 (ih) (by simp[dV]) (h 0 (by simp)) q (λI M O L=>.inl ⟨.inl rfl,rfl⟩);exact pf k E rfl (e.st.get (i:=2) (d:=12) (v:=ih) (by simp[bP]) (h 1 (by simp))) ⟨C,F,by rw[j];exact B⟩,
  λy x z o k j A q h e=>oe (.inl k) (e.st.get (i:=0) (d:=4) (v:=ih) (by simp[bP]) rfl) (by rw[j];exact e.stat 3 13 (ih) (by simp[bP]) (by simp[bP]) (by simp) (by simp) (by simp) (by simp)),
  λy x z o k j A q h e=>by obtain⟨m,E,C,F,B⟩:=e.ins 4 1 (ih) (by simp[dV]) (h 0 (by simp)) q (λI M O L=>.inl ⟨.inr (.inl rfl),rfl⟩);exact pf k E rfl (e.st.get (i:=4) (d:=13) (v:=ih) (by simp[bP]) (h 3 (by simp))) ⟨C,F,by rw[j];exact B⟩,
  λy x z o k j A q h e=>oe (.inl k) (e.st.get (i:=0) (d:=4) (v:=ih) (by simp[bP]) rfl) (by rw[j];exact e.stat 5 14 (ih) (by simp[bP]) (by simp[bP]) (by simp) (by simp) (by simp) (by simp)),
  λy x z o k j A q h e=>by obtain⟨m,E,C,F,B⟩:=e.ins 6 2 (ih) (by simp[dV]) (h 0 (by simp)) q (λI M O L=>.inl ⟨.inr (.inr rfl),rfl⟩);exact pf k E rfl (e.st.get (i:=6) (d:=14) (v:=ih) (by simp[bP]) (h 5 (by simp))) ⟨C,F,by rw[j];exact B⟩,
  λy x z o k j A q h e=>oe (.inl k) (e.st.get (i:=0) (d:=5) (v:=ko) (by simp[bP]) rfl) (by rw[j];exact e.stat 7 15 (ko) (by simp[bP]) (by simp[bP]) (by simp) (by simp) (by simp) (by simp)),
  λy x z o k j A q h e=>qU k (e.st.get (i:=0) (d:=2) (v:=ptr G) (by simp[bP]) rfl) (e.ld (u:=fg) (b:=G) (aB (i:=1) rfl) (K:=λv=>FJ w H G D s (db y 8) (x.put o.dst v) z) (by rw[j];exact e.stat 8 16 ((fg).v) (by simp[bP]) (by simp[bP]) (by simp) (by simp) (by simp) (by simp))),
  λy x z o k j A q h e=>qU k (e.st.get (i:=0) (d:=1) (v:=ptr H) (by simp[bP]) rfl) (e.ld (u:=bV) (b:=H) (aB (i:=0) rfl) (K:=λv=>FJ w H G D s (db y 9) (x.put o.dst v) z) (by rw[j];exact e.stat 9 17 ((bV).v) (by simp[bP]) (by simp[bP]) (by simp) (by simp) (by simp) (by simp))),
  λy x z o k j A q h e=>by refine Ew k (e.st.get (i:=8) (d:=15) (v:=ko) (by simp[bP]) (h 7 (by simp))) (e.st.get (i:=9) (d:=16) (v:=(fg).v) (by simp[bP]) (h 8 (by simp))) (e.st.get (i:=10) (d:=17) (v:=(bV).v) (by simp[bP]) (h 9 (by simp))) (by kernel_rfl) ((e.call 10 18 (fg) (bV) (by simp[hn])).mono ?_);rintro ab C ⟨v,W,B⟩;rw[A,show zeroOf U mw=.nilFunc from by kernel_rfl];exact⟨v,W,by rw[j];exact B⟩,
  λy x z o k j A q h e=>by
   obtain⟨mp,X,I,aa,hc,hm,ac,Y,ad⟩:=e.hp;obtain⟨a,b,N,_,_⟩:=Y (10,18,fg,bV) (by simp[hn]) (h 10 (by simp));obtain⟨m,E,C,F,B⟩:=e.ins 11 3 (sg a b) (by simp[dV]) (h 0 (by simp)) q (λI M O L=>by obtain⟨P,Q,S,T,V⟩:=L (10,18,fg,bV) (by simp[hn]) (h 10 (by simp));exact .inr (.inl ⟨fg,bV,P,Q,.inl ⟨rfl,rfl,rfl⟩,eh (N.symm.trans S),T,V⟩))
   exact pf k E rfl N ⟨C,F,by rw[j];exact B⟩,
  λy x z o k j A q h e=>oe (.inl k) (e.st.get (i:=0) (d:=5) (v:=ko) (by simp[bP]) rfl) (by rw[j];exact e.stat 12 19 (ko) (by simp[bP]) (by simp[bP]) (by simp) (by simp) (by simp) (by simp)),
  λy x z o k j A q h e=>qU k (e.st.get (i:=0) (d:=1) (v:=ptr H) (by simp[bP]) rfl) (e.ld (u:=bV) (b:=H) (aB (i:=0) rfl) (K:=λv=>FJ w H G D s (db y 13) (x.put o.dst v) z) (by rw[j];exact e.stat 13 20 ((bV).v) (by simp[bP]) (by simp[bP]) (by simp) (by simp) (by simp) (by simp))),
  λy x z o k j A q h e=>qU k (e.st.get (i:=0) (d:=3) (v:=ptr D) (by simp[bP]) rfl) (e.ld (u:=e3 s) (b:=D) (aB (i:=3) rfl) (K:=λv=>FJ w H G D s (db y 14) (x.put o.dst v) z) (by rw[j];exact e.stat 14 21 ((e3 s).v) (by simp[bP]) (by simp[bP]) (by simp) (by simp) (by simp) (by simp))),
  λy x z o k j A q h e=>by refine Ew k (e.st.get (i:=13) (d:=19) (v:=ko) (by simp[bP]) (h 12 (by simp))) (e.st.get (i:=14) (d:=20) (v:=(bV).v) (by simp[bP]) (h 13 (by simp))) (e.st.get (i:=15) (d:=21) (v:=(e3 s).v) (by simp[bP]) (h 14 (by simp))) (by kernel_rfl) ((e.call 15 22 (bV) (e3 s) (by simp[hn])).mono ?_);rintro ab C ⟨v,W,B⟩;rw[A,show zeroOf U mw=.nilFunc from by kernel_rfl];exact⟨v,W,by rw[j];exact B⟩,
  λy x z o k j A q h e=>by
   obtain⟨mp,X,I,aa,hc,hm,ac,Y,ad⟩:=e.hp;obtain⟨a,b,N,_,_⟩:=Y (15,22,bV,e3 s) (by simp[hn]) (h 15 (by simp));obtain⟨m,E,C,F,B⟩:=e.ins 16 4 (sg a b) (by simp[dV]) (h 0 (by simp)) q (λI M O L=>by obtain⟨P,Q,S,T,V⟩:=L (15,22,bV,e3 s) (by simp[hn]) (h 15 (by simp));exact .inr (.inl ⟨bV,e3 s,P,Q,.inr (.inl ⟨rfl,rfl,rfl⟩),eh (N.symm.trans S),T,V⟩))
   exact pf k E rfl N ⟨C,F,by rw[j];exact B⟩,
  λy x z o k j A q h e=>oe (.inl k) (e.st.get (i:=0) (d:=5) (v:=ko) (by simp[bP]) rfl) (by rw[j];exact e.stat 17 23 (ko) (by simp[bP]) (by simp[bP]) (by simp) (by simp) (by simp) (by simp)),
  λy x z o k j A q h e=>qU k (e.st.get (i:=0) (d:=3) (v:=ptr D) (by simp[bP]) rfl) (e.ld (u:=e3 s) (b:=D) (aB (i:=3) rfl) (K:=λv=>FJ w H G D s (db y 18) (x.put o.dst v) z) (by rw[j];exact e.stat 18 24 ((e3 s).v) (by simp[bP]) (by simp[bP]) (by simp) (by simp) (by simp) (by simp))),
  λy x z o k j A q h e=>qU k (e.st.get (i:=0) (d:=1) (v:=ptr H) (by simp[bP]) rfl) (e.ld (u:=bV) (b:=H) (aB (i:=0) rfl) (K:=λv=>FJ w H G D s (db y 19) (x.put o.dst v) z) (by rw[j];exact e.stat 19 25 ((bV).v) (by simp[bP]) (by simp[bP]) (by simp) (by simp) (by simp) (by simp))),
  λy x z o k j A q h e=>by refine Ew k (e.st.get (i:=18) (d:=23) (v:=ko) (by simp[bP]) (h 17 (by simp))) (e.st.get (i:=19) (d:=24) (v:=(e3 s).v) (by simp[bP]) (h 18 (by simp))) (e.st.get (i:=20) (d:=25) (v:=(bV).v) (by simp[bP]) (h 19 (by simp))) (by kernel_rfl) ((e.call 20 26 (e3 s) (bV) (by simp[hn])).mono ?_);rintro ab C ⟨v,W,B⟩;rw[A,show zeroOf U mw=.nilFunc from by kernel_rfl];exact⟨v,W,by rw[j];exact B⟩,
  λy x z o k j A q h e=>by
   obtain⟨mp,X,I,aa,hc,hm,ac,Y,ad⟩:=e.hp;obtain⟨a,b,N,_,_⟩:=Y (20,26,e3 s,bV) (by simp[hn]) (h 20 (by simp));obtain⟨m,E,C,F,B⟩:=e.ins 21 5 (sg a b) (by simp[dV]) (h 0 (by simp)) q (λI M O L=>by obtain⟨P,Q,S,T,V⟩:=L (20,26,e3 s,bV) (by simp[hn]) (h 20 (by simp));exact .inr (.inl ⟨e3 s,bV,P,Q,.inr (.inr ⟨rfl,rfl,rfl⟩),eh (N.symm.trans S),T,V⟩))
   exact pf k E rfl N ⟨C,F,by rw[j];exact B⟩,
  λy x z o k j A q h e=>by obtain⟨m,E,C,F,B⟩:=e.ins 22 6 (.func (.func sD) #[] #[]) (by simp[dV]) (h 0 (by simp)) q (λI M O L=>.inr (.inr (.inl ⟨rfl,rfl⟩)));exact pf k E rfl rfl ⟨C,F,by rw[j];exact B⟩,
  λy x z o k j A q h e=>YQ k (e.st.get (i:=0) (d:=2) (v:=ptr G) (by simp[bP]) rfl) (e.st.get (i:=0) (d:=3) (v:=ptr D) (by simp[bP]) rfl) (by rw[j];exact e.stat 23 27 (zj G D) (by simp[bP]) (by simp[bP]) (by simp) (by simp) (by simp) (by simp)),
  λy x z o k j A q h e=>by obtain⟨m,E,C,F,B⟩:=e.ins 24 7 (zj G D) (by simp[dV]) (h 0 (by simp)) q (λI M O L=>.inr (.inr (.inr ⟨G,D,rfl,rfl,M,O⟩)));exact pf k E rfl (e.st.get (i:=24) (d:=27) (v:=zj G D) (by simp[bP]) (h 23 (by simp))) ⟨C,F,by rw[j];exact B⟩,
  λy x z o k j A q h e=>by obtain⟨m,Z,B⟩:=e.VP (h 0 (by simp));exact oe (.inl k) Z (by rw[j];exact B),
  λy x z o k j A q h e=>by obtain⟨m,Z,B⟩:=e.VQ (h 0 (by simp)) (h 25 (by simp));exact oe (.inr k) Z (by rw[j];exact B),trivial⟩
def TW{w q:J}{j e h:Nat}{s:Sl}{E:Env}(H:O F0 w q (oP j e h s) [])(x:E.get? 1=some (ptr j))(y:E.get? 2=some (ptr e))(z:E.get? 3=some (ptr h))(A:E.get? 4=some ih)(B:E.get? 5=some ko):FJ w j e h s (λ_=>false) E q.drew:=by
 refine⟨λF d D=>?_,[],[],[(e,fg),(h,e3 s)],by simpa using H.drew,?_,by simp,by simp,λF d C=>(by cases C),.inl ⟨rfl,rfl,λ_ _=>rfl,rfl,rfl⟩⟩
 .simp only[bP,aE,aZ,a2]at d
  (repeat' rcases d with rfl|d)<;>(try subst d)<;>first |exact x|exact y|exact z|exact A|exact B|cases D
 .intro p k;simp only[aE,aZ,a2]at k;rcases k with rfl|rfl<;>simp
def TT{w q:J}{B C D:Nat}{s:Sl}{L:Nat->Bool}{E:Env}(z:∀i,i<xo.length->L i=true)(W:FJ w B C D s L E q):∃y:Fm,E.get? 0=some (.map (some y.m))/\y.Ok/\(En.fm y).P q/\(∀b∈(En.fm y).fp,w.heap.size<=b)/\ah w q:=by
 have hlen:xo.length=27:=rfl;obtain⟨mp,X,F,j,hc,hm,ad,hj,ab⟩:=W.hp;rcases ab with⟨H,_⟩|⟨_,m,G,clock,ms,rfl,h2,Q,S,T,h6,V⟩
 .rw [z 0 (by omega)]at H;cases H
 have mem:∀p∈F,dz p.1 p.2∈[En.ob m (.map G clock)]++(oP B C D s++X):=λp x=>b0 _ (hc p x);have ac:aK q aO 4 s bV.c:=j.get (e:=.row aO 4 s bV.c) 3 rfl;refine⟨⟨m,G,clock,ms,F,s⟩,V (z 26 (by omega)),⟨Q,λh h0 h8=>?_⟩,λO d=>?_,λb Y=>?_,j.fr⟩
 .have aa:∃i,(i,h)∈dV/\i<27:=by
   have:h=0\/h=1\/h=2\/h=3\/h=4\/h=5\/h=6\/h=7:=by omega
   rcases this with rfl|rfl|rfl|rfl|rfl|rfl|rfl|rfl
   .exact ⟨2,by simp[dV],by omega⟩
   .exact ⟨4,by simp[dV],by omega⟩
   .exact ⟨6,by simp[dV],by omega⟩
   .exact ⟨11,by simp[dV],by omega⟩
   .exact ⟨16,by simp[dV],by omega⟩
   .exact ⟨21,by simp[dV],by omega⟩
   .exact ⟨22,by simp[dV],by omega⟩
   .exact ⟨24,by simp[dV],by omega⟩
  obtain⟨i,hi,ae⟩:=aa;have K:=T _ hi;rw[z i (by omega)]at K;obtain⟨v,N⟩:=Option.isSome_iff_exists.1 K;exact⟨v,N,S h v N⟩
 .rcases aE.1 d with rfl|d
  .exact j.own _ (by simp)
  rcases aE.1 d with rfl|d
  .show I.P q (e3 s);unfold I.P I.Ps I.Ps;exact⟨ac.a7,j8 q,trivial⟩
  .obtain ⟨p,x,rfl⟩:=cz.1 d;exact j.own _ (mem p x)
 .obtain ⟨O,d,A⟩:=bB.1 (a4.1 Y);rcases aE.1 d with rfl|d
  .exact (j.new _ (aB (i:=0) rfl) b A).resolve_right id
  rcases aE.1 d with rfl|d
  .have k:b∈(e3 s).fp:=a4.1 A;unfold I.fp at k;rcases aL.1 k with k|k
   .exact (j.new _ (aB (i:=3) rfl) b (gh k)).resolve_right id
   .obtain ⟨t,M,Z⟩:=I.bK.1 k;simp at M;subst M;exact(j9 Z).elim
  .obtain ⟨p,x,rfl⟩:=cz.1 d;exact(j.new _ (mem p x) b A).resolve_right id
def RT(w:J):aj U KZ #[] w λr h=>(∃d:Fm,r=ae (.map (some d.m))/\d.Ok/\(En.fm d).P h/\∀b∈(En.fm d).fp,w.heap.size<=b)/\ah w h:=by refine NK.ok w _ ((bO [] (by simp)).nw λj _ x=>x.nw λN _ B=>B.jQ 0 rfl λV C=>C.jQ 1 rfl λk e=>⟨0,0,0,⟨none,0,0⟩,e.ld 0 0,e.ld 0 1,e.ld 0 2,e.ld 0 3,e.eK (n:=1) (sz:=4) (cs:=bV.c) rfl (by decide) λq y=>y.nw λT _ z=>z.jQ 3 rfl λM A=>?_⟩);have D:O F0 w M (oP w.heap.size j.heap.size q.heap.size ⟨some (ad k.heap.size),1,1⟩) []:=A;refine Iv xo (by kernel_rfl) (FJ w w.heap.size j.heap.size q.heap.size ⟨some (ad k.heap.size),1,1⟩) (TW D rfl rfl rfl rfl rfl) (TV _ _ _ _ _) λS Q N L K=>?_;obtain⟨d,E,F,G,H,I⟩:=TT L K;exact XP (by kernel_rfl) E ⟨⟨d,rfl,F,G,H⟩,I⟩
section
variable {M:Nat->Prop} {w0 w:J} {L D:List En}
def _root_.Go.W.O.Q8(H:O M w0 w L D)(i:Nat){P:aw}{t ty e:aD}{E:aa}{sz bytes:Nat}(k:fS P t e E sz bytes){T:aD}{s:Sl}{xs:List aa}{news:Array aa}{A:J->Prop}{K:Sl->J->Prop}(hi:L[i]? =some (.row e sz s xs))(y:∀d,O M w0 d L D->A d)(z:∀h d,O M w0 d (L.set i (.row e sz h (xs++news.toList))) D->K h d)(B:(s.n+1) *bytes<=140737488355328)(C:news.size=sz:=by rfl)(x:∀u∈news.toList,u.oneCell'=true:=by simp[Value.oneCell']):
  cS w (.cells news T) λj=>A j/\∃h d,(Builtin.append_ #[t,t] ty #[s.v,.slice (some (Addr.mk w.heap.size 0 none)) 1 1]).run P j=.ok h.v d/\K h d:=
 ⟨y _ (H.cd (Fr.alloc _ _ _)),H.wM i k hi (λh d q _ _=>z h d q) B C x⟩
end
mutual
def dv:Rx->Rx|.mk k lo hi l=>hj (.mk k lo hi (eJ l))
def eJ:List Rx->List Rx
 |[]=>[]
 |a::l=>dv a::eJ l
end
def TH(N:Nat):Rx->Bool|.mk k _ _ l=>ao (k=4\/k=5->sS k l<=N)
def qA(N:Nat)(y:Rx):Bool:=j3 y&&ao (y.sz<=1000000)&&TH N y
mutual
def oO(N:Nat):Rx->Bool|.mk k lo hi l=>qe N l&&qA N (.mk k lo hi (eJ l))
def qe(N:Nat):List Rx->Bool
 |[]=>true
 |a::l=>oO N a&&qe N l
end
def H8{N:Nat}:∀{l:List Rx} {a:Rx},qe N l=true->a∈l->oO N a=true
 |b::l,a,d,e=>by
  unfold qe at d;rw[a9]at d;rcases aE.1 e with rfl|e
  .exact d.1
  .exact H8 d.2 e
def qy:∀l:List Rx,eJ l=l.map dv
 |[]=>rfl
 |a::l=>by unfold eJ;rw[qy l];rfl
def Mc{M:Nat->Prop}{w0 w:J}{L D:List En}(H:O M w0 w L D):O M w0 w L (D++[.trees []]):=
 H.ek (.trees []) (Fr.refl _ _) (by show I.Ps w [];unfold I.Ps;trivial) (λb d=>by have:=a4.1 d;unfold I.a8 at this;cases this)
def r7{acc:List I}{t:I}{Q:Nat->Prop}(h:∀b∈I.a8 acc,Q b)(k:∀b∈t.fp,Q b):∀b∈I.a8 (acc++[t]),Q b:=by
 intro b j;obtain⟨u,d,e⟩:=I.bK.1 j;rcases aL.1 d with d|d
 .exact h b (I.bK.2 ⟨u,d,e⟩)
 .simp at d;rw[d]at e;exact k b e
abbrev Qv(N:Nat)(F:Fm)(n:Nat):Prop:=∀(x:I) (w:J),x.sz<=n->oO N x.rx=true->(En.fm F).P w->x.P w->aj U CO #[.map (some F.m),x.v] w λr d=>fU (x.fp++(En.fm F).fp) w (dv x.rx) r d/\ah w d
def Gr{N:Nat}(hS:k' N)(hN:N+1<=1000000){F:Fm}(hF:F.Ok):∀n:Nat,n<=1000000->Qv N F n
 |0,_=>λe y ab _ _ _=>absurd ab (by have:=I.lJ e;omega)
 |n+1,hn=>λe y ab Y pF px=>by
  have ih:=Gr hS hN hF n (by omega);have hs:=I.hP e;have hl:=I.fB e.l;have nr:=I.cb px.parts.1;have Z:qe N (I.aq e.l)=true/\qA N (.mk e.k e.lo e.hi (eJ (I.aq e.l)))=true:=by
   rw[I.eW]at Y;unfold oO at Y
   rwa[a9]at Y
  have ac:0<=e.k/\e.k<8:=by have:=Z.2;unfold qA j3 at this;simp only[a9,decide_eq_true_eq]at this;exact this.1.1.1
  have loop:∀(d i:Nat) (acc:List I) (sl:Sl) (B C A:Nat) (x:J),i+d=e.l.length->I.aq acc=eJ (I.aq (e.l.take i))->(∀b∈I.a8 acc,y.heap.size<=b\/b∈e.fp++(En.fm F).fp)->
    O F0 y x [.c B e.c aO,.c C [.int .i64 0,.int .u8 0,.int .u8 0,.slice none 0 0] aO,.c A [.int .i64 e.k,.int .u8 (e.lo.toNat:Int),.int .u8 (e.hi.toNat:Int),sl.v] aO,.row aO 4 sl (acc.flatMap I.c)] [.tree e,.fm F,.trees acc]->
    vF.L0 (some F.m) (ad B) (ad C) (ad A) e.s ((e.s.n:Nat):Int) (i:Int) x λr w'=>fU (e.fp++(En.fm F).fp) y (dv e.rx) r w'/\ah y w':=by
   intro d;induction d with
   |zero=>
    intro i acc sl B C A x an w W j;rw[dM (by omega)]at w;obtain⟨f,f1,f2,f3⟩:=RN hS (by omega) hF (j.getD 1) e.k ac.1 ac.2;have ao:∀b∈(I.row sl acc).fp,y.heap.size<=b:=λb h=>(j.new _ (aB (i:=3) rfl) b (gh h)).resolve_right id;have H:O F0 y x [.c B e.c aO,.c C [.int .i64 0,.int .u8 0,.int .u8 0,.slice none 0 0] aO,.c A [.int .i64 e.k,.int .u8 (e.lo.toNat:Int),.int .u8 (e.hi.toNat:Int),sl.v] aO] [.tree e,.fm F,.trees acc,I.row sl acc,.tree (.mk e.k e.lo e.hi sl acc)]:=j.qL 3 2 e.k e.lo e.hi;have au:(I.mk e.k e.lo e.hi sl acc).P x:=H.getD 4;have T:(I.mk e.k e.lo e.hi sl acc).rx=.mk e.k e.lo e.hi (eJ (I.aq e.l)):=by unfold I.rx;rw[w]
    have G:=Z.2;unfold qA at G;simp only[a9,decide_eq_true_eq]at G;have ap:(I.mk e.k e.lo e.hi sl acc).sz<=1000000:=by have E:=I.dR (I.mk e.k e.lo e.hi sl acc);rw[T]at E;rw[<-E];exact G.1.2
    have am:e.k=4\/e.k=5->sS e.k (I.aq acc)<=N:=λhk=>by rw[w];exact eZ G.2 hk
    have al:dv e.rx=hj (I.mk e.k e.lo e.hi sl acc).rx:=by rw[T,I.eW];unfold dv;rfl
    refine vF.cU _ _ _ _ _ _ _ _ _ (aV (aP (by omega)) ⟨e.k,j.ld 0 0,f,f1,_,_,_,sl,j.ld 2 0,j.ld 2 1,j.ld 2 2,j.ld 2 3,?_⟩);rw[f2];refine(show cB true _ from ?_);refine(f3 (.mk e.k e.lo e.hi sl acc) x (j.getD 1) au rfl am ap (by rw[T];exact G.1.1)).mono ?_;rintro _ w2 ⟨⟨t,rfl,ht,pt,D⟩,V⟩;have S:=H.ek (.tree t) V pt (λb h=>by
     rcases D b (a4.1 h)with h|h
     .exact .inl h
     .rcases aL.1 h with h|h
      .exact .inr (.inr ⟨_,aB (i:=4) rfl,a4.2 h⟩)
      .exact .inr (.inr ⟨_,aB (i:=1) rfl,h⟩))
    refine⟨_,_,_,t.s,rfl,S.jQ 1 rfl λw3 z=>⟨_,_,_,t.s,z.ld 1 0,z.ld 1 1,z.ld 1 2,z.ld 1 3,⟨t,rfl,by rw[al];exact ht,z.getD 5,λb h=>?_⟩,z.fr⟩⟩;rcases D b h with h|h
    .exact .inl (bp j.fr.size h)
    .rcases aL.1 h with h|h
     .unfold I.fp at h;rcases aL.1 h with h|h
      .exact .inl (ao b h)
      .exact W b h
     .exact .inr (b0 _ h)
   |succ d ar=>
    intro i acc sl B C A x an w W j;have L:e.l[i]? =some (e.l[i]'(by omega)):=a5 (by omega);generalize e.l[i]'(by omega)=a at L;have M:=aB L;have az:=I.ef M;have fa:oO N a.rx=true:=H8 Z.1 (by rw[I.fi];exact cz.2 ⟨a,M,rfl⟩);have aa:∀b∈a.fp,b∈e.fp:=λb h=>I.fY.2 (.inr (I.bK.2 ⟨a,M,h⟩));refine vF.cU _ _ _ _ _ _ _ _ _ (aT (aM (by omega)) (je (show e.P x from j.getD 0) rfl L (j.nw λw8 _ ak=>ak.jQ 4 rfl λaA af=>af.dr λae q=>⟨sl,q.ld 2 3,a.k,a.lo.toNat,a.hi.toNat,a.s,q.ld 4 0,q.ld 4 1,q.ld 4 2,q.ld 4 3,?_⟩)));refine(ih a ae (by omega) fa (q.getD 1) ((show e.P ae from q.getD 0).parts.2.mem M)).mono ?_;rintro _ aC ⟨⟨t,rfl,ht,pt,D⟩,V⟩;have Q:=q.ek (.tree t) V pt (λb h=>by
     rcases D b (a4.1 h)with h|h
     .exact .inl h
     .rcases aL.1 h with h|h
      .exact .inr (.inr ⟨_,aB (i:=0) rfl,a4.2 (aa b h)⟩)
      .exact .inr (.inr ⟨_,aB (i:=1) rfl,h⟩))
    have ax:acc.length=i:=by have E:=congrArg List.length w;rw[I.fi,qy,I.fi]at E;simp only[List.length_map,fx]at E;omega
    have ay:=I.cb (Q.get 3:aK _ _ _ _ _).a7;refine⟨_,_,_,t.s,rfl,Q.ld 2 3,Q.Q8 3 qa (xs:=acc.flatMap I.c) rfl (λw' H=>H.ld 2 3) (λs' aD ag=>ag.st 2 3 rfl λav ai=>?_) (by omega)⟩;rw[bw _ (by omega)];have aj:=(ai.qQ 2 3).take 4;refine ar (i+1) (acc++[t]) s' B C A av (by omega) ?_ (r7 W λb h=>?_) ?_
    .rw [jK,w,g3,L,Option.toList_some,jK,qy,qy,dX];show _++[t.rx]=_;rw[ht];rfl
    .rcases D b h with h|h
     .exact .inl (bp q.fr.size h)
     .rcases aL.1 h with h|h
      .exact .inr (bz _ (aa b h))
      .exact .inr (b0 _ h)
    .rw [lj];exact aj.forget _ (by simp)
  refine vF.ok _ _ _ _ _ y _ ((bO [.tree e,.fm F] (by
   intro aw w;simp only[aE,aZ,a2]at w;rcases w with rfl|rfl
   .exact px
   .exact pF)).nw λx _ H1=>H1.nw λw2 _ K=>⟨e.k,K.ld 0 0,e.lo.toNat,K.ld 0 1,e.hi.toNat,K.ld 0 2,K.nw λw3 _ S=>S.jQ 2 rfl λw7 H7=>⟨e.s,H7.ld 0 3,?_⟩⟩)
  exact loop e.l.length 0 [] ⟨none,0,0⟩ _ _ _ w7 (by omega) rfl (λb h=>by unfold I.a8 at h;cases h) (Mc (H7.h' aO 4))
def R3{N:Nat}(k:k' N)(j:N+1<=1000000){F:Fm}(h:F.Ok)(x:I)(w:J)(e:x.sz<=1000000)(q:oO N x.rx=true)(y:(En.fm F).P w)(z:x.P w):aj U CO #[.map (some F.m),x.v] w λr d=>fU (x.fp++(En.fm F).fp) w (dv x.rx) r d/\ah w d:=
 Gr k j h 1000000 (be _) x w e q y z
section
variable {M:Nat->Prop} {w0 w:J} {L D:List En} {bs:List Nat}
def _root_.Go.W.O.pU(H:O M w0 w L D){P:aw}{g:FuncId}{args:Array aa}{K:aC}{d:List Nat}{x:Rx}(z:aj P g args w λr V=>fU d w x r V/\ah w V)(hold:∀b∈d,∃g∈D,b∈g.fp)(A:∀(t:I) (V:J),t.rx=x->O M w0 V L (D++[.tree t])->(∀b∈t.fp,w.heap.size<=b\/b∈d)->K (ae t.v) V):fq bs P g args w K:=
 jZ (z.mono λr V ⟨⟨t,j,k,q,e⟩,f⟩=>⟨f,by
  subst j;exact A t V k (H.ek (.tree t) f q λb y=>(e b (a4.1 y)).imp id λh=>.inr (hold b h)) e⟩)
end
namespace mO
noncomputable abbrev t0:=aA U Tryz.f120 [(6,ls [0,1,2,3,4,5,6,7,8]),(8,ls [0,1,2,3,4,5,6,7,8]),(13,ls [0,1,2,3,4,5,6,7,8,9,10,11])] [2,3]
noncomputable def a0:=bu t0 [0,1,1,1,3] [(2,.l [.I,.Y,.Y,.s] aH),(3,.l [.I,.Y,.Y,.s] aH),(5,.v [.s]),(6,.v [.s]),(7,.v [.I])]
noncomputable abbrev t1:=bt a0
noncomputable def b5:=bu t1 [0,1,1,1,4] [(2,.l [.I,.Y,.Y,.s] aH),(3,.l [.I,.Y,.Y,.s] aH),(8,.v [.I])]
noncomputable abbrev t2:=bt b5
noncomputable abbrev bA:=ai t2 [5] [(2,.l [.I,.Y,.Y,.s] aH),(3,.l [.I,.Y,.Y,.s] aH)]
noncomputable abbrev t3:=ak bA
def dy:=bH t3 b5
def bJ:=bH t3 a0
def au:=aF t3 Cn [.a 4,.I,.Y,.Y,.s,.a 4,.I,.Y,.Y,.s]
end mO
def ka{p:Addr}{K:Addr->Prop}(d:K p):dJ (some p) K:=d
def AZ{x y:Int}(l:List Int)(d:x<y):dQ (cq x y::l)=-1:=by unfold dQ cq;simp[d]
def AY{x y:Int}(l:List Int)(d:y<x):dQ (cq x y::l)=1:=by unfold dQ cq;rw[ab (show ¬x<y by omega),ag d];simp
def AX{x y:Int}(l:List Int)(d:¬x<y)(e:¬y<x):dQ (cq x y::l)=dQ l:=by
 conv=>lhs;unfold dQ cq
 rw[ab d,ab e];simp
abbrev QA(n:Nat):Prop:=∀(a b:I) (w:J),a.sz<=n->a.P w->b.P w->aj U Cn #[a.v,b.v] w λr d=>r=ae (.int .i64 (bd a.rx b.rx))/\ah w d
def Gw:∀n:Nat,n<=1000000->QA n
 |0,_=>λa b B e _ _=>absurd e (by have:=I.lJ a;omega)
 |n+1,hn=>λa b B e pa pb=>by
  have ih:=Gw n (by omega);have hs:=I.hP a;have hl:=I.fB a.l;have na:=I.cb pa.parts.1;have ap:=I.cb pb.parts.1;have z:bd a.rx b.rx=if dQ [cq a.k b.k,cq a.lo.toNat b.lo.toNat,cq a.hi.toNat b.hi.toNat]≠0 then dQ [cq a.k b.k,cq a.lo.toNat b.lo.toNat,cq a.hi.toNat b.hi.toNat]else cmpL (I.aq a.l) (I.aq b.l):=by rw[I.eW a,I.eW b];unfold bd;rfl
  have an:∀(d i:Nat) (q w:Nat) (H:J),i+d=a.l.length->i<=b.l.length->cmpL (I.aq (a.l.drop i)) (I.aq (b.l.drop i))=bd a.rx b.rx->O F0 B H [.g q,.g w] [.tree a,.tree b]->
    mO.b5 q a.k a.lo.toNat a.hi.toNat a.s w b.k b.lo.toNat b.hi.toNat b.s (i:Int) H λr M=>r=ae (.int .i64 (bd a.rx b.rx))/\ah B M:=by
   intro d;induction d with
   |zero=>
    intro i q w H ai al h C;rw[de (by omega:a.l.length<=i)]at h;refine mO.dy _ _ _ _ _ _ _ _ _ _ _ _ _ (aV (aP (by omega)) (aS (λe=>⟨?_,C.fr⟩) (λe=>aS (λj=>?_) (λj=>⟨?_,C.fr⟩))))
    .rw [dk (by omega:i<b.l.length)]at h;rw[<-h];rfl
    .omega
    .rw [de (by omega:b.l.length<=i)]at h;rw[<-h];rfl
   |succ d am=>
    intro i q w H ai al h C;have L:a.l[i]? =some (a.l[i]'(by omega)):=a5 (by omega);rw[dk (by omega:i<a.l.length)]at h;generalize a.l[i]'(by omega)=x at L h;have aw:=I.ef (aB L);refine mO.dy _ _ _ _ _ _ _ _ _ _ _ _ _ (aT (aM (by omega)) (aS (λaj=>⟨by omega,by omega,?_⟩) (λao=>aS (λe=>?_) (λe=>aS (λj=>⟨?_,C.fr⟩) (λj=>?_)))))
    .have ac:b.l[i]? =some (b.l[i]'(by omega)):=a5 (by omega);rw[dk (by omega:i<b.l.length)]at h;generalize b.l[i]'(by omega)=y at ac h;refine I.a3 (show a.P H from C.getD 0).parts.1 L λp hp _=>C.af λA D=>?_;have c:=I.again (show a.P A from D.getD 0).parts.1 L hp;refine⟨_,_,_,_,c.c0,c.c1,c.c2,c.c3,by omega,by omega,I.a3 (show b.P A from D.getD 1).parts.1 ac λar hq V=>⟨_,_,_,_,V.c0,V.c1,V.c2,V.c3,D.av (ih x y A (by omega) ((show a.P A from D.getD 0).parts.2.get L) ((show b.P A from D.getD 1).parts.2.get ac)) ?_⟩⟩;rintro _ W rfl E;have e2:cmpL (I.aq (x::a.l.drop (i+1))) (I.aq (y::b.l.drop (i+1)))=if bd x.rx y.rx≠0 then bd x.rx y.rx else cmpL (I.aq (a.l.drop (i+1))) (I.aq (b.l.drop (i+1))):=rfl;rw[e2]at h;refine⟨_,rfl,bY (λZ=>⟨?_,E.fr⟩) (λZ=>?_)⟩
     .rw [ag Z]at h;rw[h]
     .rw [ab (by simpa using Z)]at h;rw[bw _ (by omega)];exact am (i+1) q w W (by omega) (by omega) h E
    .omega
    .rw [de (by omega:b.l.length<=i)]at h;rw[<-h];rfl
    .omega
  have Y:∀(c:UInt8),aG .i64 (c.toNat:Int)=(c.toNat:Int):=λc=>bm _ (by have:=c.toNat_lt;omega);refine mO.au _ _ _ _ _ _ _ _ B _ ((bO [.tree a,.tree b] (by
   intro z h;simp only[aE,aZ,a2]at h;rcases h with rfl|rfl
   .exact pa
   .exact pb)).ay λq H H1=>H1.ay λw N H2=>H2.nw λA _ D=>D.nw λW _ E=>?_)
  have E:O F0 B W [.g q,.g w,.c N.heap.size [.int .i64 a.k,.int .i64 (aG .i64 (a.lo.toNat:Int)),.int .i64 (aG .i64 (a.hi.toNat:Int))] bn,.c A.heap.size [.int .i64 b.k,.int .i64 (aG .i64 (b.lo.toNat:Int)),.int .i64 (aG .i64 (b.hi.toNat:Int))] bn] [.tree a,.tree b]:=E;rw[Y,Y,Y,Y]at E;have step:∀(i:Nat) (x y:Int) (Q:J),i<3->([.int .i64 a.k,.int .i64 (a.lo.toNat:Int),.int .i64 (a.hi.toNat:Int)]:List aa)[i]? =some (.int .i64 x)->([.int .i64 b.k,.int .i64 (b.lo.toNat:Int),.int .i64 (b.hi.toNat:Int)]:List aa)[i]? =some (.int .i64 y)->
    O F0 B Q [.g q,.g w,.c N.heap.size [.int .i64 a.k,.int .i64 (a.lo.toNat:Int),.int .i64 (a.hi.toNat:Int)] bn,.c A.heap.size [.int .i64 b.k,.int .i64 (b.lo.toNat:Int),.int .i64 (b.hi.toNat:Int)] bn] [.tree a,.tree b]->
    (x<y->bd a.rx b.rx=-1)->(y<x->bd a.rx b.rx=1)->
    (¬x<y->¬y<x->∀S,O F0 B S [.g q,.g w,.c N.heap.size [.int .i64 a.k,.int .i64 (a.lo.toNat:Int),.int .i64 (a.hi.toNat:Int)] bn,.c A.heap.size [.int .i64 b.k,.int .i64 (b.lo.toNat:Int),.int .i64 (b.hi.toNat:Int)] bn] [.tree a,.tree b]->mO.a0 q a.k a.lo.toNat a.hi.toNat a.s w b.k b.lo.toNat b.hi.toNat b.s ⟨some (ad N.heap.size),3,3⟩ ⟨some (ad A.heap.size),3,3⟩ ((i+1:Nat):Int) S λr M=>r=ae (.int .i64 (bd a.rx b.rx))/\ah B M)->
    mO.a0 q a.k a.lo.toNat a.hi.toNat a.s w b.k b.lo.toNat b.hi.toNat b.s ⟨some (ad N.heap.size),3,3⟩ ⟨some (ad A.heap.size),3,3⟩ (i:Int) Q λr M=>r=ae (.int .i64 (bd a.rx b.rx))/\ah B M:=by
   intro i x y Q ai hx hy C aj ak hk;have T:((i:Nat):Int)<((3:Nat):Int):=by omega
   refine mO.bJ _ _ _ _ _ _ _ _ _ _ _ _ _ _ _ (aT (aM (by omega)) ⟨by omega,T,ka (C.af λS F=>⟨x,?_,by omega,T,ka ⟨y,?_,aS (λe=>⟨by rw[aj e],F.fr⟩) (λe=>⟨by omega,T,ka (F.af λw7 G=>⟨x,?_,by omega,T,ka ⟨y,?_,aS (λj=>⟨by rw[ak j],G.fr⟩) (λj=>?_)⟩⟩)⟩)⟩⟩)⟩)
   .rw [bZ,Nat.mul_one];exact F.ld 2 i rfl hx
   .rw [bZ,Nat.mul_one];exact F.ld 3 i rfl hy
   .rw [bZ,Nat.mul_one];exact G.ld 2 i rfl hx
   .rw [bZ,Nat.mul_one];exact G.ld 3 i rfl hy
   .rw [show aG .i64 ((i:Int)+1)=((i+1:Nat):Int)by rw[bm _ (by omega)];omega];exact hk e j w7 G
  show mO.a0 _ _ _ _ _ _ _ _ _ _ _ _ ((0:Nat):Int) _ _;refine step 0 _ _ W (by omega) rfl rfl E (λe=>by rw[z,AZ _ e];rfl) (λe=>by rw[z,AY _ e];rfl) (λK j Q H5=>?_);rw[AX _ K j]at z;refine step 1 _ _ Q (by omega) rfl rfl H5 (λe=>by rw[z,AZ _ e];rfl) (λe=>by rw[z,AY _ e];rfl) (λK j S F=>?_);rw[AX _ K j]at z;refine step 2 _ _ S (by omega) rfl rfl F (λe=>by rw[z,AZ _ e];rfl) (λe=>by rw[z,AY _ e];rfl) (λK j w7 G=>?_);rw[AX _ K j]at z;refine mO.bJ _ _ _ _ _ _ _ _ _ _ _ _ _ _ _ (aV rfl (an a.l.length 0 q w w7 (by omega) (by omega) ?_ (G.take 2)));rw[z];rfl
def pQ(a b:I)(w:J)(d:a.sz<=1000000)(e:a.P w)(h:b.P w):aj U Cn #[a.v,b.v] w λr j=>r=ae (.int .i64 (bd a.rx b.rx))/\ah w j:=Gw 1000000 (be _) a b w d e h
namespace rW
noncomputable abbrev t0:=aA U Tryz.f127 [] [1]
abbrev P0:Ps:=[(1,.l [.I,.Y,.Y,.s] aH),(3,.v [.I]),(4,.v [.I])]
noncomputable def a0:=bu t0 [0,1,1,1,2] P0
noncomputable abbrev t1:=bt a0
noncomputable abbrev bb:=ai t1 [2,2,1,1,2] P0
noncomputable abbrev t2:=ak bb
def bJ:=bH t2 a0
def au:=aF t2 Co [.a 4,.I,.Y,.Y,.s]
end rW
namespace rX
noncomputable abbrev t0:=aA U Tryz.f151 [(3,ls [0,1,2,3,4,5,6,7,8,9,10,11,12,13,14,15,16,17,18,19,20,21,22,23,24,25,26,27,28,29])] [1]
abbrev P0:Ps:=[]
noncomputable abbrev aX:=ai t0 [0,1,1,1,3] P0
noncomputable abbrev t1:=ak aX
noncomputable abbrev bb:=ai t1 [0,1,1,1,4] P0
noncomputable abbrev t2:=ak bb
noncomputable def hC:=bu t2 [0,1,1,1,5] [(1,.l [.I,.Y,.Y,.s] aH),(5,.v [.I])]
noncomputable abbrev t3:=bt hC
def mB:=bH t3 hC
noncomputable abbrev bA:=ai t3 [5] [(1,.l [.I,.Y,.Y,.s] aH)]
noncomputable abbrev t4:=ak bA
def au:=aF t4 JU [.a 4,.I,.Y,.Y,.s]
end rX
namespace Hs
noncomputable abbrev t0:=aA U Tryz.f128 [] [1]
def au:=aF t0 JP [.a 4,.I,.Y,.Y,.s]
end Hs
abbrev Qu(n:Nat):Prop:=∀(x:I) (w:J),x.sz<=n->x.P w->aj U Co #[x.v] w λr d=>r=ae (.int .i64 (x.sz:Int))/\ah w d
def F9:∀n:Nat,n<=1000000->Qu n
 |0,_=>λe x z _=>absurd z (by have:=I.lJ e;omega)
 |n+1,Q=>λe x z B=>by
  have G:=F9 n (by omega);have S:=I.hP e;have N:=I.fB e.l;have T:=I.cb B.parts.1;have loop:∀(d i m j:Nat) (h:J),i+d=e.l.length->m+I.aY (e.l.drop i)=e.sz->O F0 x h [.g j] [.tree e]->rW.a0 j e.k e.lo.toNat e.hi.toNat e.s (m:Int) (i:Int) h λr K=>r=ae (.int .i64 (e.sz:Int))/\ah x K:=by
   intro d;induction d with
   |zero=>
    intro i m j h F q w;rw[de (by omega)]at q;refine rW.bJ _ _ _ _ _ _ _ _ _ (aV (aP (by omega)) ⟨?_,w.fr⟩);have:m=e.sz:=q;rw[this]
   |succ d H=>
    intro i m j h F q w;have y:e.l[i]? =some (e.l[i]'(by omega)):=a5 (by omega);rw[dk (by omega)]at q;generalize e.l[i]'(by omega)=a at y q;have M:m+(a.sz+I.aY (e.l.drop (i+1)))=e.sz:=q;have A:=aB y;have V:=I.ef A;refine rW.bJ _ _ _ _ _ _ _ _ _ (aT (aM (by omega)) (je (show e.P h from w.getD 0) rfl y (w.av (G a h (by omega) ((show e.P h from w.getD 0).parts.2.mem A)) ?_)));rintro _ L rfl D;refine⟨_,rfl,?_⟩;show rW.a0 _ _ _ _ _ _ _ _ _;rw[bw _ (by omega),bm _ (by omega)];have E:((m:Int)+(a.sz:Int))=((m+a.sz:Nat):Int):=by omega
    rw[E];exact H (i+1) (m+a.sz) j L (by omega) (by omega) D
  exact rW.au _ _ _ _ x _ ((ga B).ay λj h C=>loop e.l.length 0 1 j h (by omega) (by rw[List.drop_zero];omega) C)
def AF(x:I)(w:J)(d:x.sz<=1000000)(e:x.P w):aj U Co #[x.v] w λr h=>r=ae (.int .i64 (x.sz:Int))/\ah w h:=F9 1000000 (be _) x w d e
def xJ(k:Nat):Int:=if 6<=k then 1 else 0
def xZ(k:Nat):Int:=if k<3 then 0 else if k<6 then 64 else 1
def Vi{k:Nat}(d:k<8):([.i 0,.i 0,.i 0,.i 0,.i 0,.i 0,.i 1,.i 1]:List aa)[k]? =some (.i (xJ k)):=by
 have:k=0\/k=1\/k=2\/k=3\/k=4\/k=5\/k=6\/k=7:=by omega
 rcases this with rfl|rfl|rfl|rfl|rfl|rfl|rfl|rfl<;>rfl
def V1{k:Nat}(d:k<8):([.i 0,.i 0,.i 0,.i 64,.i 64,.i 64,.i 1,.i 1]:List aa)[k]? =some (.i (xZ k)):=by
 have:k=0\/k=1\/k=2\/k=3\/k=4\/k=5\/k=6\/k=7:=by omega
 rcases this with rfl|rfl|rfl|rfl|rfl|rfl|rfl|rfl<;>rfl
abbrev Qr(n:Nat):Prop:=∀(x:I) (w:J),x.sz<=n->x.P w->aj U JU #[x.v] w λr d=>r=ae (.bool (cE x.rx))/\ah w d
def Gm:∀n:Nat,n<=64->Qr n
 |0,_=>λe D q _=>absurd q (by have:=I.lJ e;omega)
 |n+1,hn=>λe D q px=>by
  have ih:=Gm n (by omega);have hs:=I.hP e;have hl:=I.fB e.l;have nr:=I.cb px.parts.1;have S:(I.aq e.l).length=e.s.n:=by rw[I.fi];simp[nr]
  have ee:(I.aq e.l).isEmpty=ao (e.s.n=0):=by rw[<-S,Bool.eq_iff_iff];simp
  have x:cE e.rx=(!(e.k !=2&&(e.lo !=0||e.hi !=0))&&(if e.k=0\/e.k=1 then(I.aq e.l).isEmpty else if e.k=2 then(I.aq e.l).isEmpty&&ao (e.lo.toNat<=e.hi.toNat)else if e.k=3\/e.k=4\/e.k=5 then dA (I.aq e.l)else if e.k=6\/e.k=7 then(I.aq e.l).length==1&&dA (I.aq e.l)else false)):=by rw[I.eW];unfold cE;rfl
  rw[ee,S]at x;have z8:∀u:UInt8,(u !=0)=ao (u.toNat≠0):=λu=>by rw[Bool.eq_iff_iff];simp only[bne_iff_ne,ne_eq,decide_eq_true_eq];exact not_congr ⟨λq=>by rw[q];rfl,λq=>UInt8.toNat_inj.1 (by simpa using q)⟩
  rw[z8,z8]at x;have bad:∀{h:Nat} {V:J},cE e.rx=false->O F0 D V [.g h,.c (0:Nat) [] bn] []->True:=λ_ _=>trivial
  let Z:aC:=λr V=>r=ae (.bool (cE e.rx))/\ah D V
  have loop:cE e.rx=dA (I.aq e.l)->∀(d i h:Nat) (j:J),i+d=e.l.length->dA (I.aq (e.l.drop i))=dA (I.aq e.l)->O F0 D j [.g h] [.tree e]->rX.hC h e.k e.lo.toNat e.hi.toNat e.s (i:Int) j Z:=by
   intro M d;induction d with
   |zero=>
    intro i h j ai F G;rw[de (by omega)]at F;refine rX.mB _ _ _ _ _ _ _ _ (aV (aP (by omega)) ⟨?_,G.fr⟩);rw[M,<-F];rfl
   |succ d al=>
    intro i h j ai F G;have Y:e.l[i]? =some (e.l[i]'(by omega)):=a5 (by omega);rw[dk (by omega)]at F;generalize e.l[i]'(by omega)=a at Y F;have ma:=aB Y;have an:=I.ef ma;have T:(cE a.rx&&dA (I.aq (e.l.drop (i+1))))=dA (I.aq e.l):=F;refine rX.mB _ _ _ _ _ _ _ _ (aT (aM (by omega)) (je (show e.P j from G.getD 0) rfl Y (G.av (ih a j (by omega) ((show e.P j from G.getD 0).parts.2.mem ma)) ?_)));rintro _ E rfl H;refine⟨_,rfl,ey (λW=>⟨?_,H.fr⟩) (λht=>?_)⟩
    .rw [M,<-T,W];rfl
    .rw [bw _ (by omega)];rw[ht,Bool.true_and]at T;exact al (i+1) h E (by omega) T H
  refine rX.au _ _ _ _ D _ ((ga px).ay λh j H1=>H1.nw λE _ H=>H.nw λw3 _ N=>?_);have no:∀V:J,O F0 D V [.g h,.c j.heap.size [.i 0,.i 0,.i 0,.i 64,.i 64,.i 64,.i 1,.i 1] bn,.c E.heap.size [.i 0,.i 0,.i 0,.i 0,.i 0,.i 0,.i 1,.i 1] bn] [.tree e]->cE e.rx=false->(Ending.returned (.bool false)=ae (.bool (cE e.rx))/\ah D V):=λV H' W=>⟨by rw[W],H'.fr⟩;refine aS (λk0=>O.af N (λz w=>no z w ?_) (by simp)) (λk0=>aS (λk7=>O.af N (λz w=>no z w ?_) (by simp)) (λk7=>?_))
  .rw [x,ab (by omega),ab (by omega),ab (by omega),ab (by omega),Bool.and_false]
  .rw [x,ab (by omega),ab (by omega),ab (by omega),ab (by omega),Bool.and_false]
  obtain⟨A,hk⟩:=Int.eq_ofNat_of_zero_le (by omega:0<=e.k);have aa:A<8:=by omega
  refine⟨by omega,by show e.k<((8:Nat):Int);omega,(show dJ (some (nb E)) _ from O.af N (λz w=>⟨xJ A,?_,?_⟩) (by simp))⟩
  .have:=O.ld (L:=[.g h,.c j.heap.size [.i 0,.i 0,.i 0,.i 64,.i 64,.i 64,.i 1,.i 1] bn,.c E.heap.size [.i 0,.i 0,.i 0,.i 0,.i 0,.i 0,.i 1,.i 1] bn]) w 2 A rfl (Vi aa);rw[hk,bZ,Nat.mul_one];exact this
  refine aS (λC=>no z w ?_) (λC=>⟨by omega,by show e.k<((8:Nat):Int);omega,(show dJ (some (nb j)) _ from⟨xZ A,?_,?_⟩)⟩)
  .unfold xJ at C;rw[x,ab (by split at C<;>omega),ab (by split at C<;>omega),ab (by split at C<;>omega)];split
   .rename_i am;have:(e.s.n==1)=false:=by rw[beq_eq_false_iff_ne];split at C<;>omega
    rw[this];simp
   .simp
  .have:=O.ld (L:=[.g h,.c j.heap.size [.i 0,.i 0,.i 0,.i 64,.i 64,.i 64,.i 1,.i 1] bn,.c E.heap.size [.i 0,.i 0,.i 0,.i 0,.i 0,.i 0,.i 1,.i 1] bn]) w 1 A rfl (V1 aa);rw[hk,bZ,Nat.mul_one];exact this
  refine aS (λB=>no z w ?_) (λB=>?_)
  .unfold xZ at B;by_cases y:A<3
   .rw [ag y]at B;have ak:ao (e.s.n=0)=false:=aP (by omega);rw[x,ak];split
    .simp
    .split
     .simp
     .omega
   .rw [ab y]at B;by_cases k5:A<6
    .rw [ag k5]at B;omega
    .rw [ab k5]at B;have:(e.s.n==1)=false:=by rw[beq_eq_false_iff_ne];omega
     rw[x,this,ab (by omega),ab (by omega),ab (by omega),ag (by omega)];simp
  have K:(A<3->e.s.n=0)/\(6<=A->e.s.n=1):=by
   unfold xJ at C;unfold xZ at B;refine⟨λq=>?_,λq=>?_⟩
   .rw [ag q]at B;omega
   .rw [ag q]at C;rw[ab (by omega),ab (by omega)]at B;omega
  have H5:O F0 D z [.g h] [.tree e]:=O.take (L:=[.g h,.c j.heap.size [.i 0,.i 0,.i 0,.i 64,.i 64,.i 64,.i 1,.i 1] bn,.c E.heap.size [.i 0,.i 0,.i 0,.i 0,.i 0,.i 0,.i 1,.i 1] bn]) w 1;have ac:A<3->dA (I.aq e.l)=true:=λq=>by
   have h0:(I.aq e.l).length=0:=by rw[S,K.1 q]
   rw[List.length_eq_zero_iff.1 h0];rfl
  have go:cE e.rx=dA (I.aq e.l)->rX.bA h e.k e.lo.toNat e.hi.toNat e.s z Z:=λM=>loop M e.l.length 0 h z (by omega) (by simp) H5;refine aS (λaj=>no z w ?_) (λaj=>bY (λy=>aS (λad=>no z w ?_) (λad=>go ?_)) (λy=>go ?_))
  .rw [x];by_cases y:e.k=2
   .rw [ab (by omega),ag y,aP (show ¬e.lo.toNat<=e.hi.toNat by omega)];simp
   .have:(e.k !=2&&(ao (e.lo.toNat≠0)||ao (e.hi.toNat≠0)))=true:=by rw[aM (show e.lo.toNat≠0 by omega)];simp[y]
    rw[this];rfl
  .have:(e.k !=2&&(ao (e.lo.toNat≠0)||ao (e.hi.toNat≠0)))=true:=by rw[aM (show e.hi.toNat≠0 by omega)];simp[y]
   rw[x,this];rfl
  .have Q:(e.k !=2&&(ao (e.lo.toNat≠0)||ao (e.hi.toNat≠0)))=false:=by rw[aP (show ¬e.lo.toNat≠0 by omega),aP (show ¬e.hi.toNat≠0 by omega)];simp
   rw[x,Q];by_cases c1:e.k=0\/e.k=1
   .rw [ag c1,ac (by omega),aM (K.1 (by omega))];rfl
   .rw [ab c1,ab y];by_cases c3:e.k=3\/e.k=4\/e.k=5
    .rw [ag c3];simp
    .rw [ab c3,ag (by omega),K.2 (by omega)];simp
  .have Q:(e.k !=2&&(ao (e.lo.toNat≠0)||ao (e.hi.toNat≠0)))=false:=by rw[y];rfl
   rw[x,Q,ab (by omega),ag y,ac (by omega),aM (K.1 (by omega)),aM (show e.lo.toNat<=e.hi.toNat by omega)];rfl
def Sa(x:I)(w:J)(k:x.sz<=1000000)(y:x.P w):aj U JP #[x.v] w λr z=>r=ae (.int .i64 (hR x.rx))/\ah w z:=by
 refine Hs.au _ _ _ _ w _ ((ga y).ay λC A h=>h.av (AF x A k (h.getD 0)) ?_);rintro _ B rfl d;refine⟨_,rfl,aS (λq=>⟨?_,d.fr⟩) (λq=>d.av (Gm 64 (be _) x B (by omega) (d.getD 0)) ?_)⟩
 .unfold hR;rw[I.dR,ag (by omega)]
 rintro _ D rfl j;refine⟨_,rfl,ey (λe=>⟨?_,j.fr⟩) (λe=>⟨?_,j.fr⟩)⟩
 .unfold hR;rw[I.dR,ab (by omega),e];rfl
 .unfold hR;rw[I.dR,ab (by omega),e];rfl
def zB{x:Rx}(d:hR x=0):cE x=true/\x.sz<=64:=by
 unfold hR at d;split at d
 .cases d
 .split at d
  .rename_i e;exact⟨e,by omega⟩
  .cases d
def Ij:∀{l:List Rx} {a:Rx},dA l=true->a∈l->cE a=true
 |b::l,a,h,e=>by
  have d:(cE b&&dA l)=true:=h;rw[a9]at d;rcases aE.1 e with rfl|e
  .exact d.1
  .exact Ij d.2 e
namespace Hp
noncomputable abbrev t0:=aA U Tryz.f54 [] [0]
def au:=aF t0 nT []
end Hp
namespace oM
noncomputable abbrev t0:=aA U Tryz.f121 [(2,ls [0,1,2,3,4,5,6,7,8,9,10,11,12]),(4,ls [0,1,2,3,4,5,6,7,8,9,10,11,12]),(7,(.sq [0,1,2,3,5] (.fork (ls [4,6,7,8]) (ls [6,4,7,8]))))] [3]
abbrev P0:Ps:=[(0,.v [.s]),(3,.l [.I,.Y,.Y,.s] aH),(5,.v [.I])]
noncomputable def a0:=bu t0 [0,2,2] P0
noncomputable abbrev t1:=bt a0
noncomputable abbrev cv:=ai t1 [6] [(0,.v [.s]),(5,.v [.I]),(6,.v [.s])]
noncomputable abbrev t2:=ak cv
noncomputable abbrev bA:=ai t2 [4] P0
noncomputable abbrev t3:=ak bA
noncomputable abbrev bb:=ai t3 [3] P0
noncomputable abbrev t4:=ak bb
def bJ:=bH t4 a0
def au:=aF t4 JZ [.s,.a 4,.I,.Y,.Y,.s]
end oM
namespace hJ
noncomputable abbrev t0:=aA U Tryz.f90 [(9,ls [0,1,2,3,4,5,6,7,8,9,10,11,12]),(25,ls [0,1,2,3,4,5,6]),(27,ls [0,1,2,3,4,5,6])] [4,5,8,9]
noncomputable abbrev aX:=ai t0 [0,1,1,1,1,1,1,1,3] [(1,.v [.s]),(4,.l [.I,.Y,.Y,.s] aH)]
noncomputable abbrev t1:=ak aX
abbrev P0:Ps:=[(0,.v [.I]),(1,.v [.s]),(4,.l [.I,.Y,.Y,.s] aH),(5,.l [.I,.Y,.Y,.s] aH),(6,.v [.s]),(7,.v [.I])]
noncomputable def b5:=bu t1 [0,1,1,1,5] P0
noncomputable abbrev t2:=bt b5
noncomputable abbrev bA:=ai t2 [2,2,1,1,5] P0
noncomputable abbrev t3:=ak bA
abbrev P1:Ps:=[(0,.v [.I]),(4,.l [.I,.Y,.Y,.s] aH),(6,.v [.s]),(8,.l [.I,.Y,.Y,.s] aH),(9,.l [.I,.Y,.Y,.s] aH),(10,.v [.s]),(11,.v [.I])]
noncomputable def hC:=bu t3 [0,1,1,1,9] P1
noncomputable abbrev t4:=bt hC
noncomputable abbrev fG:=ai t4 [2,2,1,1,9] P1
noncomputable abbrev t5:=ak fG
def mB:=bH t5 hC
def dy:=bH t5 b5
def au:=aF t5 JW [.I,.s]
end hJ
namespace uG
noncomputable abbrev t0:=aA U Tryz.f56 [] [1,2]
noncomputable def a0:=bu t0 [0,1,1,1,3] [(1,.l [.I,.Y,.Y,.s] aH),(2,.l [.I,.Y,.Y,.s] aH),(3,.v [.s]),(4,.v [.I])]
noncomputable abbrev t1:=bt a0
def bJ:=bH t1 a0
def au:=aF t1 vd [.a 4,.I,.Y,.Y,.s]
end uG
namespace Hu
noncomputable abbrev t0:=aA U Tryz.f129 [] [1,2]
def au:=aF t0 JS [.a 4,.I,.Y,.Y,.s]
end Hu
namespace Hq
noncomputable abbrev t0:=aA U Tryz.f95 [] [1,2]
def au:=aF t0 JL [.a 4,.I,.Y,.Y,.s]
end Hq
def kF:fS U cY aH (.agg #[.int .i64 0,.int .u8 0,.int .u8 0,.slice none 0 0]) 4 40:=⟨by kernel_rfl,by kernel_rfl,rfl,by decide,by decide⟩
def AJ(w:J):aj U nT #[] w λr h=>fF w eo r h/\ah w h:=by
 refine Hp.au w _ ((bO [] (by simp)).ay λb q j=>j.eK (n:=1) (sz:=4) (cs:=bV.c) rfl (by decide) λy k=>k.af λx e=>⟨⟨.mk 6 0 0 ⟨some (ad q.heap.size),1,1⟩ [bV],rfl,rfl,?_,λc d=>?_⟩,e.fr⟩)
 .unfold I.P I.Ps I.Ps;exact⟨(e.get 1:aK _ _ _ _ _).a7,j8 x,trivial⟩
 .unfold I.fp I.a8 I.a8 at d;rcases aL.1 d with d|d
  .exact (e.new _ (aB (i:=1) rfl) c (gh d)).resolve_right id
  .rcases aL.1 d with d|d
   .exact (j9 d).elim
   .cases d
def gO(r:I):List I->List I
 |[]=>[r]
 |d::p=>if bd d.rx r.rx<0 then d::gO r p else if bd d.rx r.rx=0 then d::p else r::d::p
def Nj(r:I):∀l:List I,(gO r l).map I.rx=kN r.rx (l.map I.rx)
 |[]=>rfl
 |d::p=>by
  unfold gO;rw[iQ];unfold kN;split
  .rw [iQ,Nj r p]
  .split<;>rfl
def yJ{t r:I}:∀{p:List I},t∈gO r p->t=r\/t∈p
 |[],d=>by unfold gO at d;simpa using d
 |e::p,d=>by
  unfold gO at d;split at d
  .rcases aE.1 d with rfl|d
   .simp
   .rcases yJ d with d|d<;>simp[d]
  .split at d
   .exact .inr d
   .rcases aE.1 d with rfl|d
    .simp
    .exact .inr d
def Nh(r:I):∀l:List I,I.aY (gO r l)<=r.sz+I.aY l
 |[]=>by show r.sz+0<=r.sz+0;omega
 |d::p=>by
  unfold gO;split
  .have:=Nh r p;show d.sz+I.aY (gO r p)<=r.sz+(d.sz+I.aY p);omega
  .split
   .show d.sz+I.aY p<=r.sz+(d.sz+I.aY p);omega
   .exact be _
def Ng{r:I}:∀{l:List I} {k:Nat},k<=l.length->(∀q t,q<k->l[q]? =some t->bd t.rx r.rx<0)->(∀t,l[k]? =some t->¬bd t.rx r.rx<0)->
  (∀t,l[k]? =some t->bd t.rx r.rx=0->gO r l=l)/\((∀t,l[k]? =some t->bd t.rx r.rx≠0)->gO r l=l.take k++r::l.drop k)
 |[],k,y,h,j=>⟨λt d=>by simp at d,λ_=>by simp[gO]⟩
 |w::p,0,y,h,j=>by
  have:=j w rfl;unfold gO;rw[ab this];refine⟨λt d x=>?_,λd=>?_⟩
  .cases d;rw[ag x]
  .rw [ab (d w rfl)];rfl
 |w::p,k+1,y,h,j=>by have A:=h 0 w (by omega) rfl;have z:=Ng (r:=r) (l:=p) (k:=k) (by simpa using y) (λq t B e=>h (q+1) t (by omega) (by simpa using e)) (λt e=>j t (by simpa using e));unfold gO;rw[ag A];refine⟨λt d x=>by rw[z.1 t (by simpa using d) x],λd=>by rw[z.2 λt e=>d t (by simpa using e)];rfl⟩
def Ny{w:J}{s:Sl}{l:List I}(d:br 4 w s (l.flatMap I.c))(a b:Nat)(e:a<=b)(h:b<=l.length):br 4 w (oi 4 s a b) (((l.take b).drop a).flatMap I.c):=by have j:=I.cb d;have:=d.sub a b e (by omega);rw[Ha,Hf _ _ (by rw[fx];omega)]at this;exact this
abbrev bE(s:Sl)(l:List I):I:=.mk 0 0 0 s l
def Fs(d:List Nat)(w:J)(l:List I)(r:cA)(V:J):Prop:=∃s:Sl,r=ae s.v/\(bE s l).P V/\∀b∈(bE s l).fp,w.heap.size<=b\/b∈d
def dd{w:J}{s:Sl}{l:List I}:(bE s l).P w↔br 4 w s (l.flatMap I.c)/\I.Ps w l:=by unfold bE I.P;exact Iff.rfl
def lB{s:Sl}{l:List I}{b:Nat}:b∈(bE s l).fp↔b∈(I.row s l).fp\/b∈I.a8 l:=by unfold bE I.fp;exact aL
def R6(s:Sl)(l:List I)(r:I)(w:J)(hl:I.aY l<=100000)(aq:r.sz<=100000)(px:(bE s l).P w)(pr:r.P w):
  aj U JZ #[s.v,r.v] w λV z=>Fs ((bE s l).fp++r.fp) w (gO r l) V z/\ah w z:=by
 have nr:=I.cb (dd.1 px).1;have ll:=I.fB l
 let R:aC:=λV z=>Fs ((bE s l).fp++r.fp) w (gO r l) V z/\ah w z
 have fin:∀(k:Nat) (sl:Sl) (L:List En) (i:Nat) (e:J),k<=l.length->gO r l=l.take k++r::l.drop k->L[i]? =some (.row aH 4 sl ((l.take k++[r]).flatMap I.c))->O F0 w e L [.tree (bE s l),.tree r]->
   oM.cv s (k:Int) sl e R:=by
  intro k sl L i e B T ac j;have ao:(bE s l).P e:=j.getD 0;have W:=Ny (dd.1 ao).1 k l.length B (be _);rw[List.take_length]at W;have am:aK e aH 4 sl ((l.take k++[r]).flatMap I.c):=j.get i ac;have ab:=I.cb am.a7;have ar:(l.take k++[r]).length=k+1:=by simp[fx];omega
  refine⟨by omega,by omega,?_⟩;obtain⟨D,z,M,h2,h3⟩:=j.eb (bs:=[]) i (ty:=cY) (K:=λD z=>∃L',L'[i]? =some (.row aH 4 D ((gO r l).flatMap I.c))/\O F0 w z L' [.tree (bE s l),.tree r]) kF (src:=oi 4 s k l.length) (news:=(l.drop k).flatMap I.c) ac W (rG _) (by show(sl.n+(l.length - k)) *40<=_;omega) (λD z H'=>⟨_,by
   rw[hv (cr.1 ac).1,<-cC,T,hr];rfl,H'⟩)
  obtain⟨L',Y,G⟩:=h3;have e1:(a1 (k:Int))=k:=rfl;refine⟨D,z,by rw[e1,nr];exact M,⟨D,rfl,dd.2 ⟨(G.get i Y:aK _ _ _ _ _).a7,I.iP λt C=>?_⟩,λb N=>?_⟩,G.fr⟩
  .rcases yJ C with rfl|C
   .exact G.getD 1
   .exact (dd.1 (G.getD 0)).2.mem C
  .rcases lB.1 N with N|N
   .exact .inl ((G.new _ (aB Y) b (gh N)).resolve_right id)
   .obtain ⟨t,C,ai⟩:=I.bK.1 N;rcases yJ C with rfl|C
    .exact .inr (b0 _ ai)
    .exact .inr (bz _ (lB.2 (.inr (I.bK.2 ⟨t,C,ai⟩))))
 have s2:∀(k:Nat) (h:Nat) (e:J),k<=l.length->gO r l=l.take k++r::l.drop k->O F0 w e [.g h] [.tree (bE s l),.tree r]->oM.bA s h r.k r.lo.toNat r.hi.toNat r.s (k:Int) e R:=by
  intro k h e B T j;have ap:s.n<=s.c:=(dd.1 (show(bE s l).P e from j.getD 0)).1.2.1;have ak:∀z:J,(bE s l).P z->br 4 z (oi 4 s 0 k) ((l.take k).flatMap I.c):=λz ag=>Ny (dd.1 ag).1 0 k (by omega) B;have e1:(a1 (k:Int))=k:=rfl;refine⟨by omega,by omega,j.af λA q=>?_,j.af λA q=>?_⟩
  .refine (q.h' aH 4).eb 1 kF (s:=⟨none,0,0⟩) (xs:=[]) (src:=oi 4 s 0 k) (news:=(l.take k).flatMap I.c) rfl (ak A (q.getD 0)) (rG _) (by show(0+(k - 0)) *40<=_;omega) (λD Q x=>?_);have x:O F0 w Q [.g h,.row aH 4 D ((l.take k).flatMap I.c)] [.tree (bE s l),.tree r]:=x;have ab:=I.cb (x.get 1:aK _ _ _ _ _).a7;rw[fx]at ab;refine x.iA 1 kF (xs:=(l.take k).flatMap I.c) rfl (λae w4 S=>?_) (by omega);refine fin k ae _ 1 w4 B T ?_ S;show some _=some _;rw[lj];rfl
  .refine q.eK (n:=1) (sz:=4) (cs:=r.c) rfl (by decide) λQ x=>?_;refine(x.h' aH 4).eb 2 kF (s:=⟨none,0,0⟩) (xs:=[]) (src:=oi 4 s 0 k) (news:=(l.take k).flatMap I.c) rfl (ak Q (x.getD 0)) (rG _) (by show(0+(k - 0)) *40<=_;omega) (λD w4 S=>?_);have S:O F0 w w4 [.g h,.row aH 4 ⟨some (ad A.heap.size),1,1⟩ r.c,.row aH 4 D ((l.take k).flatMap I.c)] [.tree (bE s l),.tree r]:=S;have ab:=I.cb (S.get 2:aK _ _ _ _ _).a7;rw[fx]at ab;refine S.eb 2 kF (xs:=(l.take k).flatMap I.c) (src:=⟨some (ad A.heap.size),1,1⟩) (news:=r.c) rfl (S.get 1:aK _ _ _ _ _).a7 (λu hu=>rG [r] u (by simpa using hu)) (by show(D.n+1) *40<=_;omega) (λae w5 H5=>?_);refine fin k ae _ 2 w5 B T ?_ H5;show some _=some _;rw[lj]
 have s1:∀(k:Nat) (h:Nat) (e:J),k<=l.length->(∀F t,F<k->l[F]? =some t->bd t.rx r.rx<0)->(∀t,l[k]? =some t->¬bd t.rx r.rx<0)->O F0 w e [.g h] [.tree (bE s l),.tree r]->oM.bb s h r.k r.lo.toNat r.hi.toNat r.s (k:Int) e R:=by
  intro k h e B M h2 j;obtain⟨Y,G⟩:=Ng B M h2;refine aS (λal=>?_) (λal=>j.af λA q=>s2 k h A B (G λt C=>by have:=(cr.1 C).1;omega) q);have y:l[k]? =some l[k]:=a5 (by omega);generalize l[k]'(by omega)=t at y;have Z:=aB y;refine⟨by omega,by omega,I.a3 (dd.1 (show(bE s l).P e from j.getD 0)).1 y λp W _=>j.af λA q=>?_⟩;have aa:(bE s l).P A:=q.getD 0;have c:=I.again (dd.1 aa).1 y W;refine⟨_,_,_,_,c.c0,c.c1,c.c2,c.c3,q.av (pQ t r A (by have:=I.ef Z;omega) ((dd.1 aa).2.mem Z) (q.getD 1)) ?_⟩;rintro _ Q rfl x;refine⟨_,rfl,ax (λH=>⟨⟨s,rfl,?_,λb N=>.inr ?_⟩,x.fr⟩) (λH=>s2 k h Q B (G λt' E=>by rw[y]at E;cases E;exact H) x)⟩
  .rw [Y t y H];exact x.getD 0
  .rw [Y t y H]at N;exact bz _ N
 have loop:∀(d k:Nat) (h:Nat) (e:J),k+d=l.length->(∀F t,F<k->l[F]? =some t->bd t.rx r.rx<0)->O F0 w e [.g h] [.tree (bE s l),.tree r]->oM.a0 s h r.k r.lo.toNat r.hi.toNat r.s (k:Int) e R:=by
  intro d;induction d with
  |zero=>
   intro k h e B M j;exact oM.bJ _ _ _ _ _ _ _ _ _ (aV (aP (by omega)) (j.af λA q=>s1 k h A (by omega) M (λt C=>by have:=(cr.1 C).1;omega) q))
  |succ d an=>
   intro k h e B M j;have y:l[k]? =some l[k]:=a5 (by omega);generalize l[k]'(by omega)=t at y;have Z:=aB y;refine oM.bJ _ _ _ _ _ _ _ _ _ (aT (aM (by omega)) ⟨by omega,by omega,I.a3 (dd.1 (show(bE s l).P e from j.getD 0)).1 y λp W _=>j.af λA q=>?_⟩);have aa:(bE s l).P A:=q.getD 0;have c:=I.again (dd.1 aa).1 y W;refine⟨_,_,_,_,c.c0,c.c1,c.c2,c.c3,q.av (pQ t r A (by have:=I.ef Z;omega) ((dd.1 aa).2.mem Z) (q.getD 1)) ?_⟩;rintro _ Q rfl x;refine⟨_,rfl,aS (λH=>?_) (λH=>s1 k h Q (by omega) M (λt' E=>by rw[y]at E;cases E;exact H) x)⟩;rw[bw _ (by omega)];refine an (k+1) h Q (by omega) (λF t' hq E=>?_) x;by_cases V:F=k
   .subst V;rw[y]at E;cases E;exact H
   .exact M F t' (by omega) E
 exact oM.au _ _ _ _ _ w _ ((bO [.tree (bE s l),.tree r] (by
  intro V T;simp only[aE,aZ,a2]at T;rcases T with rfl|rfl
  .exact px
  .exact pr)).ay λh e H1=>loop l.length 0 h e (by omega) (λF t ag=>by omega) H1)
def Dw(k:Int)(t:Rx):∀(l out:List Rx),gM k out (l++[t])=if k=3 then gM k out l++[t]else kN t (gM k out l)
 |[],out=>by show gM k (if k=3 then out++[t]else kN t out) []=_;unfold gM;rfl
 |a::l,out=>by show gM k (if k=3 then out++[a]else kN a out) (l++[t])=_;rw[Dw k t l];rfl
def ZP(x d:I)(y:x.k=3\/x.k=4\/x.k=5)(q:d.rx=eo):∃(j:Nat) (u h:I),aG .i64 (x.k - 3)=(j:Int)/\j<3/\[fg,bV,d][j]? =some u/\[bV,d,bV][j]? =some h/\(u=fg\/u=bV\/u=d)/\(h=bV\/h=d)/\u.rx≠h.rx/\
  hj (.mk x.k 0 0 (I.aq x.l))=gx x.k (I.aq x.l) u.rx h.rx:=by
 rcases y with w|w|w<;>rw[w]
 .exact ⟨0,fg,bV,by decide,by decide,rfl,rfl,.inl rfl,.inl rfl,(by intro e;cases e),rfl⟩
 .exact ⟨1,bV,d,by decide,by decide,rfl,rfl,.inr (.inl rfl),.inr rfl,(by rw[q];intro e;cases e),by rw[q];rfl⟩
 .exact ⟨2,d,bV,by decide,by decide,rfl,rfl,.inr (.inr rfl),.inl rfl,(by rw[q];intro e;cases e),by rw[q];rfl⟩
section
variable {x ev u z:I} {sf:Sl} {w:J} {b4 b8 b9:Nat}
def XR(hx:x.sz<=10000)(a6:ev.rx=eo)(aE:∀b∈ev.fp,w.heap.size<=b)(hu:u=fg\/u=bV\/u=ev)(az:z=bV\/z=ev)(aN:u.rx≠z.rx)(aw:hj (.mk x.k 0 0 (I.aq x.l))=gx x.k (I.aq x.l) u.rx z.rx){q:J}(H:O F0 w q [.g b4,.g b8,.g b9] [.tree x,.tree ev,.tree (bE sf (x.l.flatMap (eL x)))]):
  hJ.hC x.k b4 0 0 0 ⟨none,0,0⟩ sf b8 u.k u.lo.toNat u.hi.toNat u.s b9 z.k z.lo.toNat z.hi.toNat z.s ⟨none,0,0⟩ 0 q λr A=>fU x.fp w (hj (.mk x.k 0 0 (I.aq x.l))) r A/\ah w A:=by
 let R:aC:=λr A=>fU x.fp w (hj (.mk x.k 0 0 (I.aq x.l))) r A/\ah w A
 have ay:Sub x (x.l.flatMap (eL x)):=Sub.flat λ_ Y=>Y;have aI:I.aY (x.l.flatMap (eL x))<=I.aY x.l:=tu x x.l;have ai:((x.l.flatMap (eL x)).map I.rx).filter (λt=>!(bd t u.rx==0))=gK x.k (I.aq x.l) u.rx:=by rw[<-uP];unfold fX;rw[List.filter_map];rfl
 generalize x.l.flatMap (eL x)=fl at H ay aI ai;have ap:=ay;have ba:=I.hP x;have a9:I.aY fl<=10000:=by omega
 have bb:=I.fB fl;have nr:sf.n=fl.length:=I.cb (dd.1 (show(bE sf fl).P q from H.getD 2)).1;have ar:∀A,ev.P A->u.P A:=λA Y=>by
  rcases hu with rfl|rfl|rfl
  .exact xd A
  .exact j8 A
  .exact Y
 have al:∀A,ev.P A->z.P A:=λA Y=>by
  rcases az with rfl|rfl
  .exact j8 A
  .exact Y
 have aJ:∀b∈u.fp,w.heap.size<=b:=λb e=>by
  rcases hu with rfl|rfl|rfl
  .exact (xe e).elim
  .exact (j9 e).elim
  .exact aE b e
 have aA:∀b∈z.fp,w.heap.size<=b:=λb e=>by
  rcases az with rfl|rfl
  .exact (j9 e).elim
  .exact aE b e
 have au:∀t∈fl,t.rx=z.rx->hj (.mk x.k 0 0 (I.aq x.l))=z.rx:=λt ht aa=>by rw[aw];unfold gx;rw[ag];rw[List.any_eq_true];refine⟨t.rx,?_,pY.2 aa⟩;rw[<-ai,List.mem_filter];exact⟨cz.2 ⟨t,ht,rfl⟩,G4.2 (aa▸λY=>aN Y.symm)⟩
 have aG:(∀t∈fl,t.rx≠z.rx)->hj (.mk x.k 0 0 (I.aq x.l))=r6 x.k u.rx (gM x.k [] ((fl.map I.rx).filter λt=>!(bd t u.rx==0))):=λY=>by
  rw[aw,WZ,ai];unfold gx;rw[ab]
  .rfl
  .rw [List.any_eq_true];rintro⟨t,ht,he⟩;rw[<-ai,List.mem_filter]at ht;obtain⟨G,j,rfl⟩:=cz.1 ht.1;exact Y G j (pY.1 he)
 have fin:∀(h:List I) (y:Sl) (L D:List En) (q:J),(∀t∈fl,t.rx≠z.rx)->h.map I.rx=gM x.k [] ((fl.map I.rx).filter λt=>!(bd t u.rx==0))->(∀t∈h,t∈fl)->O F0 w q L (.tree x::.tree ev::D)->(∀b∈[b4,b8,b9],En.g b∈L)->(∀A,O F0 w A L (.tree x::.tree ev::D)->br 4 A y (h.flatMap I.c)/\∀b∈(I.row y h).fp,w.heap.size<=b\/b∈x.fp)->
   bq (((y.n:Nat):Int)==0) (loc [b4,b8,b9] q λaZ=>R (ae u.v) aZ) (bq (((y.n:Nat):Int)==1) (mA y 0 λp=>iJ q (p.add (a1 0 *4)) λa b c d=>loc [b4,b8,b9] q λa0=>R (ae (.agg #[.i a,.int .u8 b,.int .u8 c,d.v])) a0) (loc [b4,b8,b9] q λa2=>R (ae (.agg #[.i x.k,.int .u8 0,.int .u8 0,y.v])) a2)):=by
  intro h y L D q Q F N H e ao;have hr:=ao q H;have aF:=I.cb hr.1;have ej:=aG Q;rw[<-F]at ej;have aj:Sub x h:=ap.sub N;refine ax (λZ=>H.af (λK B=>⟨⟨u,rfl,?_,ar K (B.getD 1),λb e=>.inl (aJ b e)⟩,B.fr⟩) e) (λZ=>ax (λh1=>?_) (λh1=>H.af (λK B=>⟨⟨.mk x.k 0 0 y h,rfl,?_,?_,λb e=>?_⟩,B.fr⟩) e))
  .have:h=[]:=List.length_eq_zero_iff.1 (by omega);rw[ej,this];rfl
  .obtain ⟨a,rfl⟩:=List.length_eq_one_iff.1 (show h.length=1 by omega);refine⟨by omega,by omega,I.a3 hr.1 (i:=0) (t:=a) rfl λp S c=>⟨_,_,_,_,c.c0,c.c1,c.c2,c.c3,H.af (λK B=>⟨⟨a,rfl,?_,aj.P _ (B.getD 0) a (by simp),λb e=>.inr (aj.fp a (by simp) b e)⟩,B.fr⟩) e⟩⟩;rw[ej];rfl
  .rw [ej];unfold I.rx;rw[I.fi];cases h with
   |nil=>simp at aF;omega
   |cons a ks=>
    cases ks with
    |nil=>simp at aF;omega
    |cons b ks=>rfl
  .unfold I.P;exact⟨(ao K B).1,aj.Ps (B.getD 0)⟩
  .unfold I.fp at e;rcases aL.1 e with e|e
   .exact (ao K B).2 b e
   .exact .inr (aj.a8 e)
 have aO:x.k=3->∀(d i:Nat) (y:Sl) (h:List I) (q:J),i+d=fl.length->(∀t∈fl.take i,t.rx≠z.rx)->h.map I.rx=gM x.k [] (((fl.take i).map I.rx).filter λt=>!(bd t u.rx==0))->(∀t∈h,t∈fl)->I.aY h<=I.aY (fl.take i)->
   O F0 w q [.g b4,.g b8,.g b9,.row aH 4 y (h.flatMap I.c)] [.tree x,.tree ev,.tree (bE sf fl)]->hJ.hC x.k b4 0 0 0 ⟨none,0,0⟩ sf b8 u.k u.lo.toNat u.hi.toNat u.s b9 z.k z.lo.toNat z.hi.toNat z.s y (i:Int) q R:=by
  intro hk d;induction d with
  |zero=>
   intro i y h q an Q F N hs H;rw[dM (by omega)]at Q F;refine hJ.mB _ _ _ _ _ _ _ _ _ _ _ _ _ _ _ _ _ _ _ _ _ (aV (aP (by omega)) ?_);exact fin h y _ _ q Q F N H (by simp) (λA H'=>⟨(H'.get 3:aK _ _ _ _ _).a7,λb e=>.inl ((H'.new _ (aB (i:=3) rfl) b (gh e)).resolve_right id)⟩)
  |succ d ad=>
   intro i y h q an Q F N hs H;have C:fl[i]? =some fl[i]:=a5 (by omega);generalize fl[i]'(by omega)=t at C;have E:=aB C;have aX:=I.ef E;have W:fl.take (i+1)=fl.take i++[t]:=by rw[g3,C];rfl
   have aU:I.aY (fl.take (i+1))=I.aY (fl.take i)+t.sz:=by rw[W,tt];rfl
   have aW:=zm fl (i+1);refine hJ.mB _ _ _ _ _ _ _ _ _ _ _ _ _ _ _ _ _ _ _ _ _ (aT (aM (by omega)) ⟨by omega,by omega,I.a3 (dd.1 (show(bE sf fl).P q from H.getD 2)).1 C λp S _=>H.af λK B=>?_⟩);have p2:(bE sf fl).P K:=B.getD 2;have T:=I.again (dd.1 p2).1 C S;refine⟨_,_,_,_,T.c0,T.c1,T.c2,T.c3,B.av (pQ t z K (by omega) ((dd.1 p2).2.mem E) (al K (B.getD 1))) ?_⟩;rintro _ w3 rfl H3;refine⟨_,rfl,ax (λZ=>H3.af λw4 H4=>⟨⟨z,rfl,?_,al w4 (H4.getD 1),λb e=>.inl (aA b e)⟩,H4.fr⟩) (λZ=>?_)⟩
   .exact (au t E (uj.1 Z)).symm
   refine⟨by omega,by omega,I.a3 (dd.1 (show(bE sf fl).P w3 from H3.getD 2)).1 C λp S _=>H3.af λw5 H5=>?_⟩;have p5:(bE sf fl).P w5:=H5.getD 2;have V:=I.again (dd.1 p5).1 C S;refine⟨_,_,_,_,V.c0,V.c1,V.c2,V.c3,H5.av (pQ t u w5 (by omega) ((dd.1 p5).2.mem E) (ar w5 (H5.getD 1))) ?_⟩;rintro _ w6 rfl M;have ac:∀G∈fl.take (i+1),G.rx≠z.rx:=λG j=>by
    rw[W]at j;rcases aL.1 j with j|j
    .exact Q G j
    .simp at j;subst j;exact λaa=>Z (uj.2 aa)
   refine⟨_,rfl,ax (λh1=>?_) (λh1=>aT (beq_iff_eq.2 hk) ?_)⟩
   .show hJ.hC _ _ _ _ _ _ _ _ _ _ _ _ _ _ _ _ _ _ _ _ _;rw[bw _ (by omega)];refine ad (i+1) y h w6 (by omega) ac ?_ N (by omega) M;rw[W,dX,List.filter_append,F];have e0:([t].map I.rx).filter (λt=>!(bd t u.rx==0))=[]:=by show[t.rx].filter _=[];rw[List.filter_cons_of_neg (by rw[h1];simp)];rfl
    rw[e0,cP]
   .have am:((fl.take (i+1)).map I.rx).filter (λt=>!(bd t u.rx==0))=(((fl.take i).map I.rx).filter λt=>!(bd t u.rx==0))++[t.rx]:=by rw[W,dX,List.filter_append];congr 1;show[t.rx].filter _=[t.rx];rw[List.filter_cons_of_pos (by simpa using h1)];rfl
    refine⟨by omega,by omega,I.a3 (dd.1 (show(bE sf fl).P w6 from M.getD 2)).1 C λp S c=>⟨_,_,_,_,c.c0,c.c1,c.c2,c.c3,?_⟩⟩;have be:=I.cb (M.get 3:aK _ _ _ _ _).a7;have bc:=I.fB h;refine M.iA 3 kF (xs:=h.flatMap I.c) rfl (λs' w7 H7=>?_) (by omega);show hJ.hC _ _ _ _ _ _ _ _ _ _ _ _ _ _ _ _ _ _ _ _ _;rw[bw _ (by omega)];refine ad (i+1) s' (h++[t]) w7 (by omega) ac ?_ (λG j=>?_) (by rw[tt];show _+(t.sz+0)<=_;omega) ?_
    .rw [am,Dw,ag hk,dX,F];rfl
    .rcases aL.1 j with j|j
     .exact N G j
     .simp at j;subst j;exact E
    .rw [lj];exact H7
 have aQ:x.k≠3->∀(d i:Nat) (y:Sl) (h:List I) (q:J),i+d=fl.length->(∀t∈fl.take i,t.rx≠z.rx)->h.map I.rx=gM x.k [] (((fl.take i).map I.rx).filter λt=>!(bd t u.rx==0))->(∀t∈h,t∈fl)->I.aY h<=I.aY (fl.take i)->(∀b∈(bE y h).fp,w.heap.size<=b\/b∈x.fp)->
   O F0 w q [.g b4,.g b8,.g b9] [.tree x,.tree ev,.tree (bE sf fl),.tree (bE y h)]->hJ.hC x.k b4 0 0 0 ⟨none,0,0⟩ sf b8 u.k u.lo.toNat u.hi.toNat u.s b9 z.k z.lo.toNat z.hi.toNat z.s y (i:Int) q R:=by
  intro hk d;induction d with
  |zero=>
   intro i y h q an Q F N hs ak H;rw[dM (by omega)]at Q F;refine hJ.mB _ _ _ _ _ _ _ _ _ _ _ _ _ _ _ _ _ _ _ _ _ (aV (aP (by omega)) ?_);exact fin h y _ _ q Q F N H (by simp) (λA H'=>⟨(dd.1 (show(bE y h).P A from H'.getD 3)).1,λb e=>ak b (lB.2 (.inl e))⟩)
  |succ d ad=>
   intro i y h q an Q F N hs ak H;have C:fl[i]? =some fl[i]:=a5 (by omega);generalize fl[i]'(by omega)=t at C;have E:=aB C;have aX:=I.ef E;have W:fl.take (i+1)=fl.take i++[t]:=by rw[g3,C];rfl
   have aU:I.aY (fl.take (i+1))=I.aY (fl.take i)+t.sz:=by rw[W,tt];rfl
   have aW:=zm fl (i+1);refine hJ.mB _ _ _ _ _ _ _ _ _ _ _ _ _ _ _ _ _ _ _ _ _ (aT (aM (by omega)) ⟨by omega,by omega,I.a3 (dd.1 (show(bE sf fl).P q from H.getD 2)).1 C λp S _=>H.af λK B=>?_⟩);have p2:(bE sf fl).P K:=B.getD 2;have T:=I.again (dd.1 p2).1 C S;refine⟨_,_,_,_,T.c0,T.c1,T.c2,T.c3,B.av (pQ t z K (by omega) ((dd.1 p2).2.mem E) (al K (B.getD 1))) ?_⟩;rintro _ w3 rfl H3;refine⟨_,rfl,ax (λZ=>H3.af λw4 H4=>⟨⟨z,rfl,?_,al w4 (H4.getD 1),λb e=>.inl (aA b e)⟩,H4.fr⟩) (λZ=>?_)⟩
   .exact (au t E (uj.1 Z)).symm
   refine⟨by omega,by omega,I.a3 (dd.1 (show(bE sf fl).P w3 from H3.getD 2)).1 C λp S _=>H3.af λw5 H5=>?_⟩;have p5:(bE sf fl).P w5:=H5.getD 2;have V:=I.again (dd.1 p5).1 C S;refine⟨_,_,_,_,V.c0,V.c1,V.c2,V.c3,H5.av (pQ t u w5 (by omega) ((dd.1 p5).2.mem E) (ar w5 (H5.getD 1))) ?_⟩;rintro _ w6 rfl M;have ac:∀G∈fl.take (i+1),G.rx≠z.rx:=λG j=>by
    rw[W]at j;rcases aL.1 j with j|j
    .exact Q G j
    .simp at j;subst j;exact λaa=>Z (uj.2 aa)
   refine⟨_,rfl,ax (λh1=>?_) (λh1=>aV (by simpa using hk) ?_)⟩
   .show hJ.hC _ _ _ _ _ _ _ _ _ _ _ _ _ _ _ _ _ _ _ _ _;rw[bw _ (by omega)];refine ad (i+1) y h w6 (by omega) ac ?_ N (by omega) ak M;rw[W,dX,List.filter_append,F];have e0:([t].map I.rx).filter (λt=>!(bd t u.rx==0))=[]:=by show[t.rx].filter _=[];rw[List.filter_cons_of_neg (by rw[h1];simp)];rfl
    rw[e0,cP]
   .have am:((fl.take (i+1)).map I.rx).filter (λt=>!(bd t u.rx==0))=(((fl.take i).map I.rx).filter λt=>!(bd t u.rx==0))++[t.rx]:=by rw[W,dX,List.filter_append];congr 1;show[t.rx].filter _=[t.rx];rw[List.filter_cons_of_pos (by simpa using h1)];rfl
    refine⟨by omega,by omega,I.a3 (dd.1 (show(bE sf fl).P w6 from M.getD 2)).1 C λp S c=>⟨_,_,_,_,c.c0,c.c1,c.c2,c.c3,?_⟩⟩;refine jZ ((R6 y h t w6 (by omega) (by omega) (M.getD 3) ((dd.1 (show(bE sf fl).P w6 from M.getD 2)).2.mem E)).mono ?_);rintro _ w7 ⟨⟨s',rfl,aS,aD⟩,f7⟩;refine⟨f7,?_⟩;have aR:∀b∈(bE s' (gO t h)).fp,w.heap.size<=b\/b∈x.fp:=λb e=>by
     rcases aD b e with e|e
     .exact .inl (bp M.fr.size e)
     .rcases aL.1 e with e|e
      .exact ak b e
      .exact .inr (ap.fp t E b e)
    have H8:O F0 w w7 [.g b4,.g b8,.g b9] [.tree x,.tree ev,.tree (bE sf fl),.tree (bE y h),.tree (bE s' (gO t h))]:=M.ek _ f7 aS λb e=>by
     rcases aD b (a4.1 e)with e|e
     .exact .inl e
     .rcases aL.1 e with e|e
      .exact .inr (.inr ⟨_,aB (i:=3) rfl,a4.2 e⟩)
      .exact .inr (.inr ⟨_,aB (i:=0) rfl,a4.2 (ap.fp t E b e)⟩)
    refine⟨s',rfl,?_⟩;show hJ.hC _ _ _ _ _ _ _ _ _ _ _ _ _ _ _ _ _ _ _ _ _;rw[bw _ (by omega)];refine ad (i+1) s' (gO t h) w7 (by omega) ac ?_ (λG j=>?_) (by have:=Nh t h;omega) aR (H8.forget _ (by simp))
    .rw [am,Dw,ab hk,Nj,F]
    .rcases yJ j with rfl|j
     .exact E
     .exact N G j
 by_cases hk:x.k=3
 .exact aO hk fl.length 0 ⟨none,0,0⟩ [] q (by omega) (by simp) (by simp[gM]) (by simp) (by simp[I.aY]) (H.h' aH 4)
 .refine aQ hk fl.length 0 ⟨none,0,0⟩ [] q (by omega) (by simp) (by simp[gM]) (by simp) (by simp[I.aY]) (λb e=>?_) (H.ek (.tree (bE ⟨none,0,0⟩ [])) (Fr.refl _ _) (dd.2 ⟨br.nil 4 q,by unfold I.Ps;trivial⟩) λb e=>?_)
  .rcases lB.1 e with e|e
   .simp [I.row,En.a7]at e
   .unfold I.a8 at e;cases e
  .rcases lB.1 (a4.1 e)with e|e
   .simp [I.row,En.a7]at e
   .unfold I.a8 at e;cases e
end
def Sb(x:I)(hk:3<=x.k/\x.k<=7)(hx:x.sz<=10000)(N:j3 (.mk x.k 0 0 (I.aq x.l))=true)(aF:∀c∈x.l,0<=c.k)(w:J)(px:x.P w):
  aj U JW #[.i x.k,x.s.v] w λr V=>fU x.fp w (hj (.mk x.k 0 0 (I.aq x.l))) r V/\ah w V:=by
 have nr:=I.cb px.parts.1;have a1:=I.hP x;have aW:=I.fB x.l;refine hJ.au _ _ w _ ((ga px).ay λH G H1=>H1.gY (AJ G) ?_);rintro _ w2 ⟨j,rfl,an,aO,aw⟩ H2 F2;have H3:O F0 w w2 [.g H] [.tree x,.tree j]:=F2.rd (.tree j) aO λb h=>aw b (a4.1 h);have aN:∀b∈j.fp,w.heap.size<=b:=λb h=>bp H1.fr.size (aw b h);have pc:∀{V:J} {c:I},x.P V->x.l[0]? =some c->c.P V:=λT e=>T.parts.2.mem (aB e);have fc:∀{c:I},x.l[0]? =some c->∀b∈c.fp,b∈x.fp:=λe b h=>I.fY.2 (.inr (I.bK.2 ⟨_,aB e,h⟩));refine⟨_,_,_,j.s,rfl,H3.ay λL w3 D=>ax (λh6=>?_) (λh6=>ax (λh7=>?_) (λh7=>D.af λM B=>?_))⟩
 .
  cases F:x.l with
  |nil=>rw[F,h6]at N;simp[j3,I.aq]at N
  |cons c C=>
   have e:x.l[0]? =some c:=by rw[F];rfl
   have n2:0<x.s.n:=by rw[F]at nr;simp at nr;omega
   have Z:I.aq (c::C)=c.rx::I.aq C:=rfl;have ai:hj (.mk x.k 0 0 (I.aq (c::C)))=o0 0 0 (c.rx::I.aq C):=by rw[h6];rfl
   rw[ai];refine⟨by omega,by omega,I.a3 (show x.P w3 from D.getD 0).parts.1 e λp A _=>D.af λw5 B=>?_⟩;have Q:x.P w5:=B.getD 0;have y:=I.again Q.parts.1 e A;refine⟨c.k,y.c0,ax (λaa=>⟨by omega,by omega,I.a3 Q.parts.1 e λp A y=>⟨c.s,y.c3,?_⟩⟩) (λaa=>B.af λz q=>⟨⟨.mk 6 0 0 x.s x.l,rfl,?_,?_,λb h=>.inr ?_⟩,q.fr⟩)⟩
   .cases am:c.l with
    |nil=>
     rw[F,Z]at N;have e2:c.rx.l.isEmpty=true:=by rw[vN,am];rfl
     simp[j3,h6,kQ,aa,e2]at N
    |cons d l2=>
     have ao:c.l[0]? =some d:=by rw[am];rfl
     refine je (pc Q e) rfl ao (B.af λz q=>⟨⟨d,rfl,?_,(pc (q.getD 0) e).parts.2.mem (aB ao),λb h=>.inr (fc e b (I.fY.2 (.inr (I.bK.2 ⟨d,aB ao,h⟩))))⟩,q.fr⟩);show d.rx=if c.rx.k=6 then _ else _;rw[ag (by rw[kQ,aa]),vN,am];rfl
   .show Rx.mk 6 0 0 (I.aq x.l)=if c.rx.k=6 then _ else _;rw[ab (by rw[kQ];exact aa),F,Z]
   .unfold I.P;exact(show x.P z from q.getD 0).parts
   .unfold I.fp at h;exact I.fY.2 (aL.1 h)
 .
  cases F:x.l with
  |nil=>rw[F,h7]at N;simp[j3,I.aq]at N
  |cons c C=>
   have e:x.l[0]? =some c:=by rw[F];rfl
   have n2:0<x.s.n:=by rw[F]at nr;simp at nr;omega
   have Z:I.aq (c::C)=c.rx::I.aq C:=rfl;have ai:hj (.mk x.k 0 0 (I.aq (c::C)))=kW 0 0 (c.rx::I.aq C):=by rw[h7];rfl
   rw[ai];have ak:kW 0 0 (c.rx::I.aq C)=if c.k=0\/c.k=1 then mM else if c.k=7\/bd c.rx eo=0 then c.rx else .mk 7 0 0 (c.rx::I.aq C):=by unfold kW;simp only[kQ]
   have aQ:c.sz<=1000000:=by have:=I.ef (aB e);omega
   have s0:∀(z:J),¬(c.k=0\/c.k=1)->(c.k=7\/bd c.rx eo=0)->O F0 w z [.g H,.g L] [.tree x,.tree j]->hJ.aX x.s H 0 0 0 ⟨none,0,0⟩ z λr V=>fU x.fp w (kW 0 0 (c.rx::I.aq C)) r V/\ah w V:=by intro z h1 h2 q;refine⟨by omega,by omega,I.a3 (show x.P z from q.getD 0).parts.1 e λp A y=>⟨_,_,_,_,y.c0,y.c1,y.c2,y.c3,(q.take 1).af λw7 E=>⟨⟨c,rfl,?_,pc (E.getD 0) e,λb h=>.inr (fc e b h)⟩,E.fr⟩⟩⟩;rw[ak,ab h1,ag h2]
   refine⟨by omega,by omega,I.a3 (show x.P w3 from D.getD 0).parts.1 e λp A _=>D.af λw5 B=>?_⟩;have Q:x.P w5:=B.getD 0;have y:=I.again Q.parts.1 e A;have aU:0<=c.k:=aF c (aB e);refine⟨c.k,y.c0,aS (λh2=>B.af λz q=>⟨⟨fg,rfl,?_,xd z,λb h=>(xe h).elim⟩,q.fr⟩) (λh2=>?_)⟩
   .rw [ak,ag (by omega)];rfl
   refine⟨by omega,by omega,I.a3 Q.parts.1 e λp A _=>B.af λz q=>?_⟩;have ap:x.P z:=q.getD 0;have y:=I.again ap.parts.1 e A;refine⟨c.k,y.c0,ax (λal=>s0 z (by omega) (.inl al) q) (λal=>⟨by omega,by omega,I.a3 ap.parts.1 e λp A y=>⟨_,_,_,_,y.c0,y.c1,y.c2,y.c3,q.av (pQ c j z aQ (pc ap e) (q.getD 1)) ?_⟩⟩)⟩;rintro _ w7 rfl E;rw[an];refine⟨_,rfl,ax (λh0=>s0 w7 (by omega) (.inr h0) E) (λh0=>E.af λw8 Y=>⟨⟨.mk 7 0 0 x.s x.l,rfl,?_,?_,λb h=>.inr ?_⟩,Y.fr⟩)⟩
   .show Rx.mk 7 0 0 (I.aq x.l)=_;rw[ak,ab (by omega),ab (λT=>T.elim al h0),F,Z]
   .unfold I.P;exact(show x.P w8 from Y.getD 0).parts
   .unfold I.fp at h;exact I.fY.2 (aL.1 h)
 .
  have az:x.k=3\/x.k=4\/x.k=5:=by omega
  obtain⟨a2,u,ba,ew,aR,gu,gz,hu,aI,aG,aA⟩:=ZP x j az an;have loop:∀(d i:Nat) (acc:List I) (sl:Sl) (G:J),i+d=x.l.length->acc=(x.l.take i).flatMap (eL x)->O F0 w G [.g H,.g L,.row aH 4 sl (acc.flatMap I.c)] [.tree x,.tree j]->
    hJ.b5 x.k x.s H 0 0 0 ⟨none,0,0⟩ L j.k j.lo.toNat j.hi.toNat j.s sl (i:Int) G λr V=>fU x.fp w (hj (.mk x.k 0 0 (I.aq x.l))) r V/\ah w V:=by
   intro d;induction d with
   |zero=>
    intro i acc sl G aC W K;rw[dM (by omega)]at W;subst W;have ar:Sub x (x.l.flatMap (eL x)):=Sub.flat λ_ T=>T;have S:=(K.ek (.trees (x.l.flatMap (eL x))) (Fr.refl _ _) (ar.Ps (K.getD 0)) (λb h=>.inr (.inr ⟨_,aB (i:=0) rfl,a4.2 (ar.a8 (a4.1 h))⟩))).qL 2 2 0 0 0;have S:O F0 w G [.g H,.g L] [.tree x,.tree j,.tree (bE sl (x.l.flatMap (eL x)))]:=S.forget _ (by simp);refine hJ.dy _ _ _ _ _ _ _ _ _ _ _ _ _ _ _ _ (aV (aP (by omega)) ?_);refine S.eK (n:=3) (sz:=4) (cs:=[fg,bV,j].flatMap I.c) rfl (by decide) λw2 H2=>?_;rw[ew];refine⟨by omega,by omega,I.a3 (s:=⟨some (ad G.heap.size),3,3⟩) (l:=[fg,bV,j]) (H2.get 2:aK _ _ _ _ _).a7 gu λp A c=>⟨_,_,_,_,c.c0,c.c1,c.c2,c.c3,H2.ay λb8 w3 H3=>H3.af λM D=>D.eK (n:=3) (sz:=4) (cs:=[bV,j,bV].flatMap I.c) rfl (by decide) λw5 B=>⟨by omega,by omega,I.a3 (s:=⟨some (ad M.heap.size),3,3⟩) (l:=[bV,j,bV]) (B.get 4:aK _ _ _ _ _).a7 gz λp A c=>⟨_,_,_,_,c.c0,c.c1,c.c2,c.c3,B.ay λb9 z q=>q.af λw7 E=>?_⟩⟩⟩⟩;have Y:=((E.freeze 1 (.g L) rfl (E.get 1) λb h=>h).freeze 1 _ rfl (E.get 2) λb h=>h).freeze 2 _ rfl (E.get 4) λb h=>h;exact XR hx an aN hu aI aG aA (Y.forget _ (by simp))
   |succ d aJ=>
    intro i acc sl G aC W K;have e:x.l[i]? =some (x.l[i]'(by omega)):=a5 (by omega);generalize x.l[i]'(by omega)=a at e;have hm:=aB e;have ac:x.P G:=K.getD 0;have a9:=I.ef hm;have a0:I.aY acc<=I.aY x.l:=by have h1:=tu x (x.l.take i);have h2:=zm x.l i;rw[W];omega
    have aE:acc++eL x a=(x.l.take (i+1)).flatMap (eL x):=by rw[g3,e,cC,W];simp
    have a6:=I.cb (K.get 2:aK _ _ _ _ _).a7;have aD:=I.fB acc;have tail:∀(s':Sl) (V:J),O F0 w V [.g H,.g L,.row aH 4 s' ((acc++eL x a).flatMap I.c)] [.tree x,.tree j]->hJ.bA x.k x.s H 0 0 0 ⟨none,0,0⟩ L j.k j.lo.toNat j.hi.toNat j.s s' (i:Int) V λr V=>fU x.fp w (hj (.mk x.k 0 0 (I.aq x.l))) r V/\ah w V:=by intro s' V S;show hJ.b5 _ _ _ _ _ _ _ _ _ _ _ _ _ _ _ _;rw[bw _ (by omega)];exact aJ (i+1) _ s' V (by omega) aE S
    refine hJ.dy _ _ _ _ _ _ _ _ _ _ _ _ _ _ _ _ (aT (aM (by omega)) ⟨by omega,by omega,I.a3 ac.parts.1 e λp A c=>⟨a.k,c.c0,ax (λhk=>?_) (λhk=>?_)⟩⟩)
    .have pa:a.P G:=ac.parts.2.mem hm;have na:=I.cb pa.parts.1;have aD:=I.fB a.l;have aZ:=I.hP a;refine⟨by omega,by omega,I.a3 ac.parts.1 e λp A c=>⟨a.s,c.c3,?_⟩⟩;refine K.eb 2 kF (xs:=acc.flatMap I.c) (src:=a.s) (news:=a.l.flatMap I.c) rfl pa.parts.1 (rG _) (by omega) (λs' M D=>?_);refine tail s' M ?_;have ae:eL x a=a.l:=ag hk;rw[ae,cC];exact D
    .refine ⟨by omega,by omega,I.a3 ac.parts.1 e λp A c=>⟨_,_,_,_,c.c0,c.c1,c.c2,c.c3,?_⟩⟩;refine K.iA 2 kF (xs:=acc.flatMap I.c) rfl (λs' M D=>?_) (by omega);refine tail s' M ?_;have ae:eL x a=[a]:=ab hk;rw[ae,lj];exact D
  exact loop x.l.length 0 [] ⟨none,0,0⟩ M (by omega) rfl (B.h' aH 4)
def uX(k:Int):Rx:=if k=3 then mM else if k=4 then fh else eo
def zX(k:Int):Rx:=if k=4 then eo else fh
mutual
def NF:Rx->Prop
 |.mk d lo e l=>mC l/\(d≠2->lo=0/\e=0)/\(((d=0\/d=1)/\l=[])\/(d=2/\l=[]/\lo.toNat<=e.toNat)\/
   ((d=3\/d=4\/d=5)/\2<=l.length/\(d≠3->i0 l)/\∀t∈l,t.k≠d/\t≠uX d/\t≠zX d)\/
   (d=6/\∃c,l=[c]/\c.k≠6)\/(d=7/\∃c,l=[c]/\c.k≠0/\c.k≠1/\c.k≠7/\c≠eo))
def mC:List Rx->Prop
 |[]=>True
 |a::l=>NF a/\mC l
end
def tO:∀{l:List Rx},mC l↔∀t∈l,NF t
 |[]=>by unfold mC;simp
 |a::l=>by unfold mC;rw[tO];simp
def vk:NF fh:=by unfold fh NF mC;simp
def Dd:NF mM:=by unfold mM NF mC;simp
def LY:NF eo:=by unfold eo NF mC mC;refine⟨⟨vk,trivial⟩,by simp,.inr (.inr (.inr (.inl ⟨rfl,fh,rfl,by decide⟩)))⟩
def Wo(k:Int):NF (uX k):=by
 unfold uX;split
 .exact Dd
 .split
  .exact vk
  .exact LY
def Wp(k:Int):NF (zX k):=by
 unfold zX;split
 .exact LY
 .exact vk
def LZ{x:Rx}(d:NF x):∀t∈x.l,NF t:=by cases x;unfold NF at d;exact tO.1 d.1
def Wl{x:Rx}{k:Int}(q:k=3\/k=4\/k=5)(d:NF x)(e:x.k=k):2<=x.l.length/\(k≠3->i0 x.l)/\∀t∈x.l,t.k≠k/\t≠uX k/\t≠zX k:=by
 cases x with
 |mk h lo j l=>
  have e:h=k:=e;subst e;unfold NF at d;obtain⟨-,-,d|d|d|d|d⟩:=d
  .omega
  .omega
  .exact d.2
  .omega
  .omega
def TM{k:Int}{l:List Rx}{u t:Rx}:t∈gK k l u↔(∃c∈l,if c.k=k then t∈c.l else t=c)/\t≠u:=by
 unfold gK;rw[List.mem_filter,bB,G4];refine and_congr ⟨λ⟨c,h,e⟩=>⟨c,h,?_⟩,λ⟨c,h,e⟩=>⟨c,h,?_⟩⟩ Iff.rfl
 .split at e
  .rename_i d;rw[ag d];exact e
  .rename_i d;rw[ab d];simpa using e
 .split at e
  .rename_i d;rw[ag d];exact e
  .rename_i d;rw[ab d];simpa using e
def TN{k:Int}(w:k=3\/k=4\/k=5){l:List Rx}(h:∀c∈l,NF c){t:Rx}(x:t∈gK k l (uX k)):NF t/\t.k≠k/\t≠uX k:=by
 obtain⟨⟨c,j,d⟩,q⟩:=TM.1 x;split at d
 .rename_i e;exact⟨LZ (h c j) t d,((Wl w (h c j) e).2.2 t d).1,q⟩
 .rename_i e;subst d;exact⟨h t j,e,q⟩
def lG(k:Int)(l:List Rx):List Rx:=if k=3 then gK k l (uX k)else td (gK k l (uX k))
def XO{k:Int}{l:List Rx}{t:Rx}:t∈lG k l↔t∈gK k l (uX k):=by
 unfold lG;split
 .exact Iff.rfl
 .exact OI
def II(k:Int)(l:List Rx):((gK k l (uX k)).any λt=>bd t (zX k)==0)=true↔zX k∈gK k l (uX k):=by
 rw[List.any_eq_true];constructor
 .rintro ⟨t,e,d⟩;rw[pY.1 d]at e;exact e
 .exact λd=>⟨_,d,pY.2 rfl⟩
def IK{k:Int}{l:List Rx}(d:zX k∈gK k l (uX k)):gx k l (uX k) (zX k)=zX k:=by unfold gx;rw[ag ((II k l).2 d)]
def IJ{k:Int}{l:List Rx}(d:¬zX k∈gK k l (uX k)):gx k l (uX k) (zX k)=r6 k (uX k) (lG k l):=by unfold gx;rw[ab (λe=>d ((II k l).1 e))];rfl
def UP{k:Int}(x:k=3\/k=4\/k=5){l:List Rx}(z:∀c∈l,NF c):NF (gx k l (uX k) (zX k)):=by
 by_cases q:zX k∈gK k l (uX k)
 .rw [IK q];exact Wp k
 .rw [IJ q];have e:∀t∈lG k l,NF t/\t.k≠k/\t≠uX k/\t≠zX k:=λt d=>by have d:=XO.1 d;obtain⟨h,B,j⟩:=TN x z d;exact⟨h,B,j,λy=>q (y▸d)⟩
  have w:k≠3->i0 (lG k l):=λj=>by unfold lG;rw[ab j];exact OH _
  generalize lG k l=m at e w;unfold r6;split
  .exact Wo k
  .exact (e _ (by simp)).1
  .rename_i A h;unfold NF;refine⟨tO.2 λt d=>(e t d).1,λ_=>⟨rfl,rfl⟩,.inr (.inr (.inl ⟨x,?_,w,λt d=>(e t d).2⟩))⟩;cases m with
   |nil=>exact absurd rfl A
   |cons a m=>
    cases m with
    |nil=>exact absurd rfl (h a)
    |cons b m=>simp
def BC{k:Int}(d:k=3\/k=4\/k=5)(lo hi:UInt8)(l:List Rx):hj (.mk k lo hi l)=gx k l (uX k) (zX k):=by rcases d with rfl|rfl|rfl<;>rfl
def WA{c:Rx}(e:NF c):NF (o0 0 0 [c]):=by
 unfold o0;simp only;split
 .rename_i d;split
  .exact vk
  .rename_i j m k;exact LZ e j (by rw[k];simp)
 .rename_i d;unfold NF;exact⟨tO.2 λt h=>by(simp at h;subst h;exact e),λ_=>⟨rfl,rfl⟩,.inr (.inr (.inr (.inl ⟨rfl,c,rfl,d⟩)))⟩
def YS{c:Rx}(d:NF c):NF (kW 0 0 [c]):=by
 unfold kW;simp only;split
 .exact Dd
 .rename_i e;split
  .exact d
  .rename_i h;unfold NF;exact⟨tO.2 λt j=>by(simp at j;subst j;exact d),λ_=>⟨rfl,rfl⟩,.inr (.inr (.inr (.inr ⟨rfl,c,rfl,λd=>e (.inl d),λd=>e (.inr d),λd=>h (.inl d),λd=>h (.inr (uj.2 d))⟩)))⟩
def qf{k:Int}{lo hi:UInt8}{l:List Rx}(j:cE (.mk k lo hi l)=true):dA l=true/\(k≠2->lo=0/\hi=0)/\(((k=0\/k=1)/\l=[])\/(k=2/\l=[]/\lo.toNat<=hi.toNat)\/(k=3\/k=4\/k=5)\/((k=6\/k=7)/\∃c,l=[c])):=by
 unfold cE at j;rw[a9]at j;obtain⟨q,d⟩:=j;have h:k≠2->lo=0/\hi=0:=λe=>by
  have w:(k !=2)=true:=by simpa using e
  rw[w,Bool.true_and,Bool.not_eq_true',Bool.or_eq_false_iff]at q;simpa using q
 split at d
 .rename_i e;have:l=[]:=by simpa using d
  subst this;exact⟨rfl,h,.inl ⟨e,rfl⟩⟩
 .split at d
  .rename_i e;simp only[a9,decide_eq_true_eq]at d;have:l=[]:=by simpa using d.1
   subst this;exact⟨rfl,h,.inr (.inl ⟨e,rfl,d.2⟩)⟩
  .split at d
   .rename_i e;exact⟨d,h,.inr (.inr (.inl e))⟩
   .split at d
    .rename_i e;simp only[a9]at d;exact⟨d.2,h,.inr (.inr (.inr ⟨e,List.length_eq_one_iff.1 (eq_of_beq d.1)⟩))⟩
    .cases d
def Wn{lo hi:UInt8}(d:lo.toNat<=hi.toNat):NF (.mk 2 lo hi []):=by unfold NF mC;exact⟨trivial,λd=>absurd rfl d,.inr (.inl ⟨rfl,rfl,d⟩)⟩
mutual
def Mg:∀k:Rx,cE k=true->NF (dv k)
 |.mk A lo z l,q=>by
  obtain⟨w,e,x⟩:=qf q;have j:=Dh l w;unfold dv;rcases x with⟨d,rfl⟩|⟨rfl,rfl,y⟩|d|⟨d,c,rfl⟩
  .obtain ⟨rfl,rfl⟩:=e (by omega);rcases d with rfl|rfl
   .exact vk
   .exact Dd
  .exact Wn y
  .rw [BC d];exact UP d j
  .obtain ⟨rfl,rfl⟩:=e (by omega);have h:NF (dv c):=j _ (by unfold eJ;simp);rcases d with rfl|rfl
   .exact WA h
   .exact YS h
def Dh:∀l:List Rx,dA l=true->∀t∈eJ l,NF t
 |[],_=>λt d=>by unfold eJ at d;cases d
 |a::l,e=>λt d=>by
  unfold dA at e;rw[a9]at e;unfold eJ at d;rcases aE.1 d with rfl|d
  .exact Mg a e.1
  .exact Dh l e.2 t d
end
section
variable {μ:Rx->Nat}
def JB(p:Rx->Bool):∀l:List Rx,ms μ (l.filter p)<=ms μ l
 |[]=>be _
 |a::l=>by
  have d:=JB p l;rw[List.filter_cons];split
  .show μ a+_<=μ a+_;omega
  .show _<=μ a+_;omega
def u':∀{l:List Rx} {a:Rx},a∈l->μ a<=ms μ l
 |b::l,a,d=>by
  rcases aE.1 d with rfl|d
  .show μ a<=μ a+_;omega
  .have:=u' d;show μ a<=μ b+_;omega
def JC(d:∀e,1<=μ e):∀l:List Rx,l.length<=ms μ l
 |[]=>be _
 |a::l=>by have:=JC d l;have:=d a;show l.length+1<=μ a+ms μ l;omega
def JA:∀(l:List Rx) (p:Rx),ms μ (j0 p l)<=ms μ l
 |[],p=>be _
 |d::l,p=>by
  have:=JA l d;unfold j0;split
  .show _<=μ d+ms μ l;omega
  .show μ d+_<=μ d+ms μ l;omega
def V4(l:List Rx):ms μ (td l)<=ms μ l:=by
 have d:ms μ (pZ (kj l))<=ms μ (kj l):=by
  cases kj l with
  |nil=>exact be _
  |cons a m=>have:=JA (μ:=μ) m a;show μ a+_<=μ a+_;omega
 rw[<-V3 (Et l)];exact d
def Ci(d:∀e,ms μ e.l<=μ e)(k:Int):∀l:List Rx,ms μ (l.flatMap λc=>if c.k=k then c.l else[c])<=ms μ l
 |[]=>be _
 |c::l=>by
  have j:=Ci d k l;have h:=d c;rw[df,Jz];show _<=μ c+ms μ l;split
  .omega
  .show (μ c+0)+_<=_;omega
def JE(h:∀e,ms μ e.l<=μ e)(k:Int)(l:List Rx):ms μ (lG k l)<=ms μ l:=by
 have d:ms μ (gK k l (uX k))<=ms μ l:=bp (JB _ _) (Ci h k l);unfold lG;split
 .exact d
 .exact bp (V4 _) d
end
def EC:∀l:List Rx,Rx.aY l=ms Rx.sz l
 |[]=>rfl
 |a::l=>by unfold Rx.aY;rw[EC l];rfl
def na(k:Int)(lo hi:UInt8)(l:List Rx):(Rx.mk k lo hi l).sz=1+ms Rx.sz l:=by unfold Rx.sz;rw[EC]
def Pe(x:Rx):ms Rx.sz x.l<=x.sz:=by cases x;rw[na];simp only[Rx.l];omega
def Cf(x:Rx):ms da x.l<=da x:=by cases x;rw[oU];simp only[Rx.l];omega
def VL(x:Rx):1<=da x:=by cases x;rw[oU];omega
mutual
def Jl:∀d:Rx,da d<=d.sz
 |.mk h lo e l=>by rw[oU,na];have:=Jn l;omega
def Jn:∀l:List Rx,ms da l<=ms Rx.sz l
 |[]=>be _
 |a::l=>by have d:=Jl a;have e:=Jn l;show da a+ms da l<=a.sz+ms Rx.sz l;omega
end
def IL{k:Int}{l:List Rx}{P:Rx->Prop}(q:P (zX k))(j:P (uX k))(e:∀a,a∈lG k l->P a)(h:P (.mk k 0 0 (lG k l))):P (gx k l (uX k) (zX k)):=by
 by_cases d:zX k∈gK k l (uX k)
 .rw [IK d];exact q
 .rw [IJ d];generalize w:lG k l=m at e h;unfold r6;split
  .exact j
  .exact e _ (by simp)
  .exact h
def P6(k:Int):(uX k).sz<=2/\(zX k).sz<=2/\da (uX k)=1/\da (zX k)=1:=by
 unfold uX zX;refine⟨?_,?_,?_,?_⟩
 .split
  .decide
  .split<;>decide
 .split<;>decide
 .split
  .decide
  .split<;>decide
 .split<;>decide
def Mt{k:Int}{c:Rx}(w:k=6\/k=7){P:Rx->Prop}(h:P fh)(j:P mM)(q:P c)(hd:∀d∈c.l,P d)(e:P (.mk k 0 0 [c])):P (hj (.mk k 0 0 [c])):=by
 rcases w with rfl|rfl
 .show P (o0 0 0 [c]);unfold o0;simp only;split
  .split
   .exact h
   .rename_i d m x;exact hd d (by rw[x];simp)
  .exact e
 .show P (kW 0 0 [c]);unfold kW;simp only;split
  .exact j
  .split
   .exact q
   .exact e
mutual
def Df:∀j:Rx,cE j=true->(dv j).sz<=2 *j.sz
 |.mk e lo w l,y=>by
  obtain⟨z,q,A⟩:=qf y;have h:=yp l z;have D:=na e lo w l;rw[D];unfold dv;rcases A with⟨d,rfl⟩|⟨rfl,rfl,F⟩|d|⟨d,c,rfl⟩
  .obtain ⟨rfl,rfl⟩:=q (by omega);rcases d with rfl|rfl<;>decide
  .show (Rx.mk 2 lo w []).sz<=_;rw[na];simp only[ms];omega
  .rw [BC d];have G:=JE (μ:=Rx.sz) Pe e (eJ l);obtain⟨H,I,-,-⟩:=P6 e;refine IL (P:=λk=>k.sz<=2 *(1+ms Rx.sz l)) (by omega) (by omega) (λa B=>?_) ?_
   .have:=u' (μ:=Rx.sz) B;omega
   .show (Rx.mk e 0 0 _).sz<=_;rw[na];omega
  .obtain ⟨rfl,rfl⟩:=q (by omega);have x:eJ [c]=[dv c]:=rfl;rw[x]at h ⊢;have h:(dv c).sz+0<=2 *(c.sz+0):=h;show _<=2 *(1+(c.sz+0));refine Mt (P:=λk=>k.sz<=2 *(1+(c.sz+0))) d (by show(1:Nat)<=_;omega) (by show(1:Nat)<=_;omega) (by omega) (λE C=>?_) ?_
   .have:=u' (μ:=Rx.sz) C;have:=Pe (dv c);omega
   .show (Rx.mk e 0 0 _).sz<=_;rw[na];simp only[ms];omega
def yp:∀l:List Rx,dA l=true->ms Rx.sz (eJ l)<=2 *ms Rx.sz l
 |[],_=>be _
 |a::l,d=>by unfold dA at d;rw[a9]at d;have e:=Df a d.1;have h:=yp l d.2;show(dv a).sz+ms Rx.sz (eJ l)<=2 *(a.sz+ms Rx.sz l);omega
end
mutual
def Wx:∀j:Rx,cE j=true->da (dv j)<=da j
 |.mk e lo w l,y=>by
  obtain⟨z,q,A⟩:=qf y;have h:=Dg l z;have D:=oU e lo w l;rw[D];unfold dv;rcases A with⟨d,rfl⟩|⟨rfl,rfl,F⟩|d|⟨d,c,rfl⟩
  .obtain ⟨rfl,rfl⟩:=q (by omega);rcases d with rfl|rfl<;>decide
  .show da (Rx.mk 2 lo w [])<=_;rw[oU];simp only[ms];omega
  .rw [BC d];have G:=JE (μ:=da) Cf e (eJ l);obtain⟨-,-,H,I⟩:=P6 e;refine IL (P:=λk=>da k<=max 1 (ms da l)) (by omega) (by omega) (λa B=>?_) ?_
   .have:=u' (μ:=da) B;omega
   .show da (Rx.mk e 0 0 _)<=_;rw[oU];omega
  .obtain ⟨rfl,rfl⟩:=q (by omega);have x:eJ [c]=[dv c]:=rfl;rw[x]at h ⊢;have h:da (dv c)+0<=da c+0:=h;show _<=max 1 (da c+0);refine Mt (P:=λk=>da k<=max 1 (da c+0)) d (by show(1:Nat)<=_;omega) (by show(1:Nat)<=_;omega) (by omega) (λE C=>?_) ?_
   .have:=u' (μ:=da) C;have:=Cf (dv c);omega
   .show da (Rx.mk e 0 0 _)<=_;rw[oU];simp only[ms];omega
def Dg:∀l:List Rx,dA l=true->ms da (eJ l)<=ms da l
 |[],_=>be _
 |a::l,d=>by unfold dA at d;rw[a9]at d;have e:=Wx a d.1;have h:=Dg l d.2;show da (dv a)+ms da (eJ l)<=da a+ms da l;omega
end
def Ic{N:Nat}{k:Int}{lo hi:UInt8}{l:List Rx}(e:cE (.mk k lo hi l)=true)(D:(Rx.mk k lo hi l).sz<=10000)(q:iG N (.mk k lo hi l)):qA N (.mk k lo hi (eJ l))=true:=by
 obtain⟨h,I,y⟩:=qf e;have Q:=yp l h;have P:=Dg l h;rw[na]at D;unfold iG at q;unfold qA;rw[a9,a9];refine⟨⟨?_,aM (by rw[na];omega)⟩,?_⟩
 .unfold j3;rw[a9,a9];refine⟨⟨aM (by omega),aM (by omega)⟩,?_⟩;rcases y with⟨d,rfl⟩|⟨d,rfl,O⟩|d|⟨d,c,rfl⟩
  .show (k !=6&&k !=7)=true;rcases d with rfl|rfl<;>rfl
  .subst d;rfl
  .cases eJ l with
   |nil=>rcases d with rfl|rfl|rfl<;>rfl
   |cons a m=>rcases d with rfl|rfl|rfl<;>rfl
  .show (!(k==6&&(dv c).k==6&&(dv c).l.isEmpty))=true;have A:cE c=true:=by unfold dA at h;rw[a9]at h;exact h.1
   have j:=Mg c A;generalize dv c=G at j;cases G with
   |mk w F C E=>
    by_cases x:w=6
    .unfold NF at j;obtain⟨-,-,e|e|e|⟨_,H,B,_⟩|e⟩:=j
     .omega
     .omega
     .omega
     .rw [B];simp[Rx.l]
     .omega
    .have:(Rx.k (.mk w F C E)==6)=false:=by simpa[Rx.k]using x
     rw[this];simp
 .show ao (k=4\/k=5->sS k (eJ l)<=N)=true;refine aM λz=>?_;have K:=JC VL ((eJ l).flatMap λc=>if c.k=k then c.l else[c]);have L:=Ci (μ:=da) Cf k (eJ l);have M:=q.2 z;show((eJ l).flatMap λc=>if c.k=k then c.l else[c]).length<=N;omega
mutual
def H9{N:Nat}:∀d:Rx,cE d=true->d.sz<=10000->iG N d->oO N d=true
 |.mk w lo q l,h,j,e=>by obtain⟨k,-,-⟩:=qf h;unfold oO;rw[Ic h j e,Bool.and_true];rw[na]at j;unfold iG at e;exact H' l k (by omega) e.1
def H'{N:Nat}:∀l:List Rx,dA l=true->ms Rx.sz l<=10000->qd N l->qe N l=true
 |[],_,_,_=>rfl
 |a::l,d,h,e=>by unfold dA at d;rw[a9]at d;unfold qd at e;have h:a.sz+ms Rx.sz l<=10000:=h;unfold qe;rw[H9 a d.1 (by omega) e.1,H' l d.2 (by omega) e.2];rfl
end
namespace ND
noncomputable abbrev t0:=aA U Tryz.f142 [(4,ls [1,0,2,3,4,5,6,7])] [1,2]
def au:=aF t0 CK [.a 4,.I,.Y,.Y,.s]
end ND
def Wm{x:Rx}(d:NF x):0<=x.k:=by cases x;unfold NF at d;simp only[Rx.k];omega
def Wz{x:Rx}(e:cE x=true)(d:x.k<3):dv x=x:=by
 cases x with
 |mk j lo y l=>
  have z:j<3:=d;clear d;obtain⟨q,w,h⟩:=qf e;rcases h with⟨d,rfl⟩|⟨rfl,rfl,A⟩|d|⟨d,c,rfl⟩
  .rcases d with rfl|rfl<;>rfl
  .rfl
  .omega
  .omega
abbrev QJ(n:Nat):Prop:=∀(x:I) (w:J),x.sz<=n->cE x.rx=true->x.P w->aj U vd #[x.v] w λr d=>fU x.fp w (dv x.rx) r d/\ah w d
def GB:∀n:Nat,n<=1000->QJ n
 |0,_=>λe w aa _ _=>absurd aa (by have:=I.lJ e;omega)
 |n+1,hn=>λe w aa ab px=>by
  have ih:=GB n (by omega);have hs:=I.hP e;have hl:=I.fB e.l;have nr:=I.cb px.parts.1;refine uG.au _ _ _ _ w _ ((ga px).ay λD j H1=>H1.ay λE Q x=>aS (λhk=>x.af λS y=>⟨⟨e,rfl,(Wz ab (by rw[kQ];exact hk)).symm,y.getD 0,λb h=>.inr h⟩,y.fr⟩) (λhk=>?_));have H:=ab;rw[I.eW]at H;obtain⟨K,al,ar⟩:=qf H;obtain⟨W,V⟩:=al (by omega);have ad:dv e.rx=hj (.mk e.k 0 0 (eJ (I.aq e.l))):=by rw[I.eW,W,V];unfold dv;rfl
  have loop:∀(d i:Nat) (acc:List I) (sl:Sl) (j:J),i+d=e.l.length->I.aq acc=eJ (I.aq (e.l.take i))->(∀b∈I.a8 acc,w.heap.size<=b\/b∈e.fp)->
    O F0 w j [.g D,.g E,.row aH 4 sl (acc.flatMap I.c)] [.tree e,.trees acc]->
    uG.a0 D e.k e.lo.toNat e.hi.toNat e.s E 0 0 0 ⟨none,0,0⟩ sl (i:Int) j λr w'=>fU e.fp w (dv e.rx) r w'/\ah w w':=by
   intro d;induction d with
   |zero=>
    intro i acc sl j aj z G q;rw[dM (by omega)]at z;have am:∀b∈(I.row sl acc).fp,w.heap.size<=b:=λb h=>(q.new _ (aB (i:=2) rfl) b (gh h)).resolve_right id;have T:O F0 w j [.g D,.g E] [.tree e,.trees acc,I.row sl acc,.tree (.mk e.k 0 0 sl acc)]:=q.qL 2 1 e.k 0 0;have Y:Rx.mk e.k 0 0 (I.aq acc)=.mk e.k 0 0 (eJ (I.aq e.l)):=by rw[z]
    have ao:(Rx.mk e.k e.lo e.hi (I.aq e.l)).sz<=10000:=by rw[<-I.eW,I.dR];omega
    have L:=Ic (N:=100000) H ao (xn _ (by have ak:∀ac:Rx,da ac<=ac.sz:=Jl;have:=ak (Rx.mk e.k e.lo e.hi (I.aq e.l));omega))
    unfold qA at L;rw[a9,a9]at L;have an:(I.mk e.k 0 0 sl acc).sz<=10000:=by have A:=I.dR (I.mk e.k 0 0 sl acc);have h2:=yp (I.aq e.l) K;have h3:=I.vO e.l;rw[EC]at h3;rw[<-A];show(Rx.mk e.k 0 0 (I.aq acc)).sz<=_;rw[Y,na];omega
    have ai:j3 (.mk e.k 0 0 (I.aq acc))=true:=by rw[Y];have:=L.1.1;rw[W,V]at this;exact this
    refine uG.bJ _ _ _ _ _ _ _ _ _ _ _ _ _ _ (aV (aP (by omega)) ?_);refine T.pU (Sb (.mk e.k 0 0 sl acc) ⟨by show 3<=e.k;omega,by show e.k<=7;omega⟩ an ai (λc hc=>?_) j (T.getD 3)) (λb h=>⟨_,aB (i:=3) rfl,a4.2 h⟩) λt Q M x F=>?_
    .have ag:c.rx∈eJ (I.aq e.l):=by rw[<-z,I.fi];exact cz.2 ⟨c,hc,rfl⟩
     have:=Wm (Dh (I.aq e.l) K _ ag)
     rwa[kQ]at this
    refine⟨_,_,_,t.s,rfl,x.af λS y=>⟨⟨t,rfl,?_,y.getD 4,λb h=>?_⟩,y.fr⟩⟩
    .rw [M,ad];show hj (Rx.mk e.k 0 0 (I.aq acc))=_;rw[z]
    .rcases F b h with h|h
     .exact .inl (bp q.fr.size h)
     .unfold I.fp at h;rcases aL.1 h with h|h
      .exact .inl (am b h)
      .exact G b h
   |succ d ap=>
    intro i acc sl j aj z G q;have B:e.l[i]? =some (e.l[i]'(by omega)):=a5 (by omega);generalize e.l[i]'(by omega)=a at B;have C:=aB B;have ax:=I.ef C;have ae:cE a.rx=true:=Ij K (by rw[I.fi];exact cz.2 ⟨a,C,rfl⟩);have Z:∀b∈a.fp,b∈e.fp:=λb h=>I.fY.2 (.inr (I.bK.2 ⟨a,C,h⟩));refine uG.bJ _ _ _ _ _ _ _ _ _ _ _ _ _ _ (aT (aM (by omega)) (je (show e.P j from q.getD 0) rfl B ?_));refine q.pU (ih a j (by omega) ae ((show e.P j from q.getD 0).parts.2.mem C)) (λb h=>⟨_,aB (i:=0) rfl,a4.2 (Z b h)⟩) λt Q M x F=>?_;have aw:=I.cb (x.get 2:aK _ _ _ _ _).a7;have av:acc.length=i:=by have A:=congrArg List.length z;rw[I.fi,qy,I.fi]at A;simp only[List.length_map,fx]at A;omega
    refine⟨_,_,_,t.s,rfl,x.iA 2 kF (xs:=acc.flatMap I.c) rfl (λs' S y=>?_) (by omega)⟩;have H4:=(y.qQ 1 2).take 3;rw[bw _ (by omega)];refine ap (i+1) (acc++[t]) s' S (by omega) ?_ (r7 G λb h=>?_) ?_
    .rw [jK,z,g3,B,Option.toList_some,jK,qy,qy,dX];show _++[t.rx]=_;rw[M];rfl
    .rcases F b h with h|h
     .exact .inl (bp q.fr.size h)
     .exact .inr (Z b h)
    .rw [lj];exact H4.forget _ (by simp)
  exact loop e.l.length 0 [] ⟨none,0,0⟩ Q (by omega) rfl (λb h=>by unfold I.a8 at h;cases h) (Mc (x.h' aH 4))
def GA(x:I)(w:J)(e:x.sz<=1000)(h:cE x.rx=true)(j:x.P w):aj U vd #[x.v] w λr d=>fU x.fp w (dv x.rx) r d/\ah w d:=GB 1000 (be _) x w e h j
def fw(x:Rx):Rx:=if hR x=0 then nQ (dv x)else fh
def jI(x:Rx):Int:=if hR x=0 then nP (dv x)else hR x
def Fq(d:List Nat)(w:J)(x:Rx)(c:Int)(r:cA)(V:J):Prop:=∃t:I,r=ae (.tuple #[t.v,.int .i64 c])/\t.rx=x/\t.P V/\∀b∈t.fp,w.heap.size<=b\/b∈d
def RP(x:I)(w:J)(y:x.sz<=1000000)(A:x.P w):aj U JS #[x.v] w λr k=>Fq x.fp w (nQ x.rx) (nP x.rx) r k/\ah w k:=by
 refine Hu.au _ _ _ _ w _ ((ga A).ay λD F q=>q.ay λE B h=>h.av (AF x B y (h.getD 0)) ?_);rintro _ G rfl j;refine⟨_,rfl,aS (λz=>j.af λC d=>⟨⟨bV,?_,?_,j8 _,λb e=>(j9 e).elim⟩,d.fr⟩) (λz=>j.af λC d=>⟨⟨x,?_,?_,d.getD 0,λb e=>.inr e⟩,d.fr⟩)⟩
 .unfold nP;rw[I.dR,ag (by omega)];rfl
 .unfold nQ;rw[I.dR,ag (by omega)];rfl
 .unfold nP;rw[I.dR,ab (by omega)]
 .unfold nQ;rw[I.dR,ab (by omega)]
def R'(x:I)(w:J)(K:x.sz<=1000000)(O:x.P w):aj U JL #[x.v] w λr D=>Fq x.fp w (fw x.rx) (jI x.rx) r D/\ah w D:=by
 refine Hq.au _ _ _ _ w _ ((ga O).ay λV Z F=>F.ay λW S q=>q.av (Sa x S K (q.getD 0)) ?_);rintro _ T rfl h;unfold fw jI;refine⟨_,rfl,bY (λC=>h.af λE e=>⟨⟨bV,?_,?_,j8 _,λb d=>(j9 d).elim⟩,e.fr⟩) (λj=>?_)⟩
 .rw [ab C];rfl
 .rw [ab C];rfl
 obtain⟨B,L⟩:=zB j;have Y:x.sz<=64:=by rw[<-I.dR];exact L
 rw[ag j,ag j];refine h.pU (GA x T (by omega) B (h.getD 0)) (λb d=>⟨_,aB (i:=0) rfl,a4.2 d⟩) λt E k e H=>?_;have Q:t.sz<=1000000:=by have:=Df _ B;rw[<-I.dR,k];omega
 refine⟨_,_,_,t.s,rfl,jZ ((RP t E Q (e.getD 1)).mono ?_)⟩;rintro _ w5 ⟨⟨u,rfl,M,N,A⟩,z⟩;have G:=e.ek (.tree u) z N λb d=>(A b (a4.1 d)).imp id λd=>.inr ⟨_,aB (i:=1) rfl,a4.2 d⟩;refine⟨z,_,_,_,u.s,_,rfl,G.af λw6 y=>⟨⟨u,by rw[k],by rw[M,k],y.getD 2,λb d=>?_⟩,y.fr⟩⟩;rcases A b d with d|d
 .exact .inl (bp e.fr.size d)
 .exact (H b d).imp (λd=>bp h.fr.size d) id
def F'{N:Nat}(T:k' N)(S:N+1<=1000000)(x:I)(w:J)(C:x.sz<=1000000)(V:iG N x.rx)(px:x.P w):aj U CK #[x.v] w λr F=>Ft w (fw x.rx) (jI x.rx) r F/\ah w F:=by
 refine ND.au _ _ _ _ w _ ((ga px).ay λb1 w1 M=>M.ay λb2 w2 y=>y.av (AG x w2 C (y.getD 0)) ?_);rintro _ w3 rfl z;unfold fw jI;refine⟨_,rfl,bY (λE=>z.af λG e=>⟨⟨bV,?_,?_,j8 _,λb d=>(j9 d).elim⟩,e.fr⟩) (λk=>z.af λG e=>e.gY (RT G) ?_)⟩
 .rw [ab E];rfl
 .rw [ab E];rfl
 rintro _ w5 ⟨H,rfl,Q,Z,Y⟩ _ K;have h:=K.rd (.fm H) Z Y;obtain⟨D,hs⟩:=zB k;rw[ag k,ag k];refine⟨_,rfl,h.pU (R3 T S Q x w5 C (H9 _ D (by omega) V) (h.getD 1) (h.getD 0)) (λb d=>?_) λt w6 q j _=>?_⟩
 .rcases aL.1 d with d|d
  .exact ⟨_,aB (i:=0) rfl,a4.2 d⟩
  .exact ⟨_,aB (i:=1) rfl,d⟩
 have aa:t.sz<=1000000:=by have:=Df _ D;rw[<-I.dR,q];omega
 refine⟨_,_,_,t.s,rfl,j.gY (R1 t w6 aa (j.getD 2)) ?_⟩;rintro _ w7 ⟨u,rfl,W,pu,B⟩ _ L;have O:=L.rd (.tree u) pu λb d=>B b (a4.1 d);exact⟨_,_,_,u.s,_,rfl,O.af λw8 A=>⟨⟨u,by rw[q],by rw[W,q],A.getD 3,λb d=>bp j.fr.size (B b d)⟩,A.fr⟩⟩
end Go.Proofs.YtahmokchdhengaaGreatDoor
