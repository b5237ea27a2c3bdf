import Derived.Test.YthkcmmldhceegaaGreatDoorU
set_option linter.unusedVariables false
set_option linter.defProp false
namespace Go.Proofs.YthkcmmldhceegaaGreatDoor
open Go renaming World->C,Calls->ah,Program->aR,Value->ab,TypeId->aF,Ending->cQ
open Go.IntKind renaming wrap->ad
open _root_.Int renaming toNat->ae,toNat_natCast->bT
open Go.IntWalk renaming i64_in->bf
open Go.Builtin renaming append_->bg
open Go.Sem renaming run->a'
open _root_.Bool renaming and_eq_true->bC,not_eq_true->i4
open _root_.Nat renaming le_refl->b',le_trans->bB,mul_le_mul_right->s6,beq_eq->ez
open _root_.Prod.mk renaming injEq->eX
open _root_.Option.some renaming inj->fV,injEq->fb
open _root_.Array renaming replicate->gI
open Go.Proofs.Tryz renaming prog->V
open _root_.Decidable renaming decide->af
open Go.Ending renaming returned->U
open List renaming mem_append->a6,mem_cons->ay,not_mem_nil->aW,mem_of_getElem?->aE,getElem?_eq_getElem->a9,getElem?_eq_some_iff->dh,mem_append_right->ef,mem_flatMap->cj,mem_map->dv,length_take->g4,flatMap_append->ea,flatMap_cons->dT,mem_cons_of_mem->eb,mem_cons_self->oI,take_append_drop->DQ,drop_eq_getElem_cons->dZ,take_add_one->eI,map_cons->kY,drop_drop->sv,getElem?_set_self->kp,drop_of_length_le->c9,take_of_length_le->g6
open Go Go.W
def Un{w:C}{g:Nat}{cur:Array ab}{t:aF}(c:w.heap[g]? =some (.cells cur t (0,0)))(vs:Array ab):w.setRow g vs=w.putObj g (.cells vs t (0,0)):=by
 unfold World.setRow World.putObj;congr 1
 grind
def Fy(g k:Nat):(⟨g,0,none⟩:Addr).add k=⟨g,k,none⟩:=by
 unfold Addr.add
 grind
def G5{P:aR}{t ty e:aF}{j:ab}{sz bytes:Nat}(x:gJ P t e j sz bytes)(h1:∀ai∈j.cells.toList,ai.oneCell'=true)(af:j.cells.size=sz){w:C}{s:J}{vs:List ab}(h:aG w e sz s vs)(l:Nat)(E:l<=s.n):
  ∃w',(Builtin.clear_ #[t] ty #[.slice (if s.c=l then s.a else s.a.map (·.add (l *sz))) (s.n - l) (s.c - l)]).run P w=.ok (.tuple #[]) w'/\
   aG w' e sz ⟨if s.c=0 then s.a else s.a.map (·.add (0 *sz)),l - 0,s.c - 0⟩ (vs.take (l *sz))/\Fr (·∈aO s) w w':=by
 have hlen:=h.len;obtain⟨L,d,k⟩:=s;simp only at E hlen;have ac:∀y:Option Addr,(if k=0 then y else y.map (·.add (0 *sz)))=y:=λy=>by
  split
  .rfl
  .cases y with
   |none=>rfl
   |some p=>rw[Nat.zero_mul,Option.map_some,kD]
 rw[ac,Nat.sub_zero,Nat.sub_zero];have G:∀(w':C) (g:Nat) (u:Array ab),L=some ⟨g,0,none⟩->d<=k->k<=maxLen->w'.heap[g]? =some (.cells u e (0,0))->u.size=k *sz->u.toList.take (l *sz)=vs.take (l *sz)->aG w' e sz ⟨L,l,k⟩ (vs.take (l *sz)):=by intro w' g u A an S q K ad;subst A;have M:l *sz<=d *sz:=s6 _ E;refine⟨by grind,.inr ⟨g,k,u,rfl,Nat.zero_le _,q,by grind,S,K,ad⟩⟩
 rcases h.cases with⟨hs,rfl⟩|⟨g,cur,A,q,z,D,H,O⟩
 .cases hs;have:l=0:=by omega
  subst this;refine⟨w,?_,?_,Fr.refl _ _⟩
  .simp [Builtin.clear_,run_underlying x.ht]
  grind
 .simp only at A z D H O;subst A;have M:l *sz<=d *sz:=s6 _ E;have e2:d *sz<=k *sz:=s6 _ z;have ae:cur.toList.take (l *sz)=vs.take (l *sz):=by grind
  by_cases Z:d - l=0
  .refine ⟨w,?_,G w g cur rfl z D q H ae,Fr.refl _ _⟩;rw[Z];by_cases B:k=l
   .simp [Builtin.clear_,run_underlying x.ht,B]
   .simp [Builtin.clear_,run_underlying x.ht,B]
  .have B:k≠l:=by omega
   obtain⟨inf,W,hz,K,aj⟩:=info_parts x.hi;have ag:(zeroValue e).run P w=.ok j w:=by simp[zeroValue,typeInfo,W,hz]
   have am:(Builtin.zeroCells j.cells (d - l)).toList.length=(d - l) *sz:=by simp[Builtin.zeroCells,af]
   have aa:∀v∈(Builtin.zeroCells j.cells (d - l)).toList,v.oneCell'=true:=by
    intro v F;unfold Builtin.zeroCells at F;rw[Array.toList_map,dv]at F;obtain⟨ah,hj,rfl⟩:=F;by_cases N:0<j.cells.size
    .have al:ah%j.cells.size<j.cells.size:=Nat.mod_lt _ N
     grind
    grind
   have ak:(d - l) *sz=d *sz - l *sz:=Nat.sub_mul _ _ _;have T:l *sz+0+(Builtin.zeroCells j.cells (d - l)).toList.length<=cur.size:=by omega
   have I:=run_storeCells_at (P:=P) g (l *sz) e (Builtin.zeroCells j.cells (d - l)).toList 0 cur w q T aa;refine⟨_,?_,G _ g (cur.toList.take (l *sz+0)++(Builtin.zeroCells j.cells (d - l)).toList++cur.toList.drop (l *sz+0+(Builtin.zeroCells j.cells (d - l)).toList.length)).toArray rfl z D (setRow_heap w g cur _ e _ q) ?_ ?_,?_⟩
   .obtain ⟨m,Y⟩:∃m,d - l=m+1:=⟨d - l - 1,by omega⟩;have Q:(⟨g,0,none⟩:Addr).add (l *sz)=⟨g,l *sz,none⟩:=Fy g (l *sz);rw[Y]at I ⊢;simp[Builtin.clear_,run_underlying x.ht,B,Q,ag,I]
   .grind
   .grind
   .rw [Un q];exact(Fr.put w g _).mono λao _ e=>by simp[aO,e]
def M1:∀d∈(Value.agg #[.int .i64 0,.int .u8 0,.int .u8 0,.slice none 0 0]).cells.toList,d.oneCell'=true:=by intro d c;simp only[Value.cells,ay,aW,a3]at c;rcases c with rfl|rfl|rfl|rfl<;>rfl
def Qq{l:List I}{k:Nat}{t:I}(n:k<l.length):((((l.flatMap I.c).set (k *4+0) (.int .i64 t.k)).set (k *4+1) (.int .u8 (t.lo.toNat:Int))).set (k *4+2) (.int .u8 (t.hi.toNat:Int))).set (k *4+3) t.s.v=(l.set k t).flatMap I.c:=by
 induction l generalizing k with
 |nil=>grind
 |cons a l j=>
  cases k with
  |zero=>simp[I.c]
  |succ k=>
   have h:k<l.length:=by grind
   have d:∀e,(k+1) *4+e=(k *4+e)+4:=λe=>by omega
   rw[d 0,d 1,d 2,d 3,dT,List.set_cons_succ,dT,<-j h];simp[I.c]
section
variable {M:Nat->Prop} {w0 w:C} {L D:List En} {bs:List Nat}
def _root_.Go.W.Z.LX(H:Z M w0 w L D)(i k:Nat){s:J}{ts:List I}{t:I}{p:Addr}{K:C->Prop}(hi:L[i]? =some (.row aV 4 s (ts.flatMap I.c)))(x:s.a=some p)(hk:k<ts.length)(hK:∀T,Z M w0 T (L.set i (.row aV 4 s ((ts.set k t).flatMap I.c))) D->K T)(bZ:∀b∈bs,En.g b∈L:=by simp):
  ao w (p.add (k *4)) (.int .i64 t.k) λd=>kept bs w d/\ao d ((p.add (k *4)).add 1) (.int .u8 (t.lo.toNat:Int)) λh=>kept bs d h/\ao h ((p.add (k *4)).add 2) (.int .u8 (t.hi.toNat:Int)) λj=>kept bs h j/\ao j ((p.add (k *4)).add 3) t.s.v λq=>kept bs j q/\K q:=by
 have hlen:(ts.flatMap I.c).length=ts.length *4:=I.ee ts;have y:=(dh.1 hi).1;have B:∀{e:En} {b:Nat},(∀(d:C) (u:Nat),¬e.P ({d with heap:=gI (u+1) (.map #[] 0)}:C))->En.g b∈L->En.g b∈L.set i e:=by
  intro e b ad n;obtain⟨S,O⟩:=List.mem_iff_getElem?.1 n;by_cases aa:i=S
  .subst aa;rw[hi]at O;exfalso;have e1:En.row aV 4 s (ts.flatMap I.c)=En.g b:=fV O;have N:(En.g b).P ({w with heap:=gI (b+1) (.map #[] 0)}):=by show b<_;simp
   rw[<-e1]at N;by_cases Q:aO s=[]
   .have:s.a=none:=by unfold aO at Q;grind
    grind
   .obtain ⟨ac,A⟩:=List.exists_mem_of_ne_nil _ Q;obtain⟨cs,f,hc⟩:=(aG.row (show aG ({w with heap:=gI (b+1) (.map #[] 0)}) aV 4 s _ from N)).sT ac A
    grind
  .refine aE (i:=S) ?_
   grind
 have z:∀(vs:List ab) (d:C) (u:Nat),¬(En.row aV 4 s vs).P ({d with heap:=gI (u+1) (.map #[] 0)}:C):=by
  intro vs d u h0;have A:p.block∈aO s:=by simp[aO,x]
  obtain⟨cs,f,hc⟩:=(aG.row (show aG ({d with heap:=gI (u+1) (.map #[] 0)}) aV 4 s vs from h0)).sT _ A
  grind
 have G:=H.mG (bs:=bs) i (k *4) 0 (v:=.int .i64 t.k) (p:=p) (K:=λd=>ao d ((p.add (k *4)).add 1) (.int .u8 (t.lo.toNat:Int)) λh=>kept bs d h/\ao h ((p.add (k *4)).add 2) (.int .u8 (t.hi.toNat:Int)) λj=>kept bs h j/\ao j ((p.add (k *4)).add 3) t.s.v λq=>kept bs j q/\K q) hi x (by omega) (λd Y=>?_) bZ
 .rw [kD]at G;exact G
 refine Y.mG (bs:=bs) i (k *4) 1 (by rw[kp y]) x (by grind) (λh E=>?_) (λb n=>B (z _) (bZ b n));rw[List.set_set]at E;refine E.mG (bs:=bs) i (k *4) 2 (by rw[kp y]) x (by grind) (λj F=>?_) (λb n=>B (z _) (bZ b n));rw[List.set_set]at F;refine F.mG (bs:=bs) i (k *4) 3 (by rw[kp y]) x (by grind) (λq H4=>?_) (λb n=>B (z _) (bZ b n));rw[List.set_set,Qq hk]at H4
 grind
def _root_.Go.W.Z.U1(H:Z M w0 w L D)(i k:Nat){s:J}{ts:List I}{t:I}{p:Addr}{K:C->Prop}(hi:L[i]? =some (.row aV 4 s (ts.flatMap I.c)))(j:s.a=some p)(h:k<ts.length)(e:∀d,Z M w0 d (L.set i (.row aV 4 s ((ts.set k t).flatMap I.c))) D->K d):
  ao w (p.add (k *4)) (.int .i64 t.k) λn=>ao n ((p.add (k *4)).add 1) (.int .u8 (t.lo.toNat:Int)) λq=>ao q ((p.add (k *4)).add 2) (.int .u8 (t.hi.toNat:Int)) λu=>ao u ((p.add (k *4)).add 3) t.s.v K:=by
 have x:=H.LX (bs:=[]) (K:=K) i k hi j h e (by simp)
 grind
end
def DG{w:C}{s:J}{l:List I}(h:aG w aV 4 s (l.flatMap I.c)){i:Nat}{t:I}(hi:l[i]? =some t){K:Addr->Prop}(d:∀p,s.a=some p->I.fJ w p i t->K p):cd s.a K:=I.di h.bh hi d
section
variable {M:Nat->Prop} {w0 w:C} {L D:List En}
def _root_.Go.W.Z.el(H:Z M w0 w L D)(i k:Nat){s:J}{ts:List I}{t:I}{X:Int}{K:Int->Int->Int->J->Prop}(q:X=(k:Int))(j:ts[k]? =some t)(h:K t.k t.lo.toNat t.hi.toNat t.s)(hi:L[i]? =some (.row aV 4 s (ts.flatMap I.c)):=by rfl):
  aw s X λp=>∃a b d:Int,∃e:J,w.cell? ((p.add (ae X *4)).add 0)=some (.i a)/\w.cell? ((p.add (ae X *4)).add 1)=some (.int .u8 b)/\w.cell? ((p.add (ae X *4)).add 2)=some (.int .u8 d)/\w.cell? ((p.add (ae X *4)).add 3)=some e.v/\K a b d e:=by subst q;have n:aG w aV 4 s (ts.flatMap I.c):=H.get i hi;have x:=I.cu n.bh;have u:=(dh.1 j).1;exact⟨by omega,by omega,DG n j λp y d=>⟨_,_,_,_,d.c0,d.c1,d.c2,d.c3,h⟩⟩
def _root_.Go.W.Z.AV(H:Z M w0 w L D)(i k:Nat){s:J}{ts:List I}{t:I}{X:Int}{K:C->Prop}(n:X=(k:Int))(d:k<ts.length)(j:∀h,Z M w0 h (L.set i (.row aV 4 s ((ts.set k t).flatMap I.c))) D->K h)(hi:L[i]? =some (.row aV 4 s (ts.flatMap I.c)):=by rfl):
  aw s X λp=>ao w (p.add (ae X *4)) (.i t.k) λx=>ao x ((p.add (ae X *4)).add 1) (.int .u8 (t.lo.toNat:Int)) λy=>ao y ((p.add (ae X *4)).add 2) (.int .u8 (t.hi.toNat:Int)) λz=>ao z ((p.add (ae X *4)).add 3) t.s.v K:=by subst n;have e:aG w aV 4 s (ts.flatMap I.c):=H.get i hi;have B:=I.cu e.bh;have q:ts[k]? =some ts[k]:=a9 d;exact⟨by omega,by omega,DG e q λp u A=>H.U1 i k hi u d j⟩
end
def Bx{j:Nat}(c:1<=j)(d:j<=1000000000):ad .i64 ((j:Int) - 1)=((j - 1:Nat):Int):=by rw[bf _ (by omega)];omega
abbrev dW(b:Nat)(u:I):En:=.c b u.c aV
def I1{w:C}{k u:I}{b:Nat}(h:k.P w)(j:u.P w)(e:w.heap[b]? =some (.cells u.c.toArray aV (0,0))):Z F0 w w [] [.tree k,.tree u,dW b u]:=bN _ (by
 intro n d;simp only[ay,aW,a3]at d;rcases d with rfl|rfl|rfl
 .exact h
 .exact j
 .exact e)
def Gg(k u:I)(b:Nat)(w:C)(h:k.sz<=1000000)(n:k.P w)(q:u.P w)(j:w.heap[b]? =some (.cells u.c.toArray aV (0,0))):ah V nn #[k.v,.pointer (some (ag b))] w λr x=>r=U (.bool (br k.rx u.rx==0))/\aj w x:=by refine Kx.aB _ _ _ _ _ w _ ((I1 n q j).aN λz y d=>⟨_,_,_,u.s,d.fh 2 0,d.fh 2 1,d.fh 2 2,d.fh 2 3,d.ax (tA k u y h (d.getD 0) (d.getD 1)) ?_⟩);rintro _ A rfl e;exact⟨_,rfl,rfl,e.fr⟩
def OF(k u:I)(b:Nat)(w:C)(h:k.sz<=1000000)(n:k.P w)(q:u.P w)(j:w.heap[b]? =some (.cells u.c.toArray aV (0,0))):ah V xT #[k.v,.pointer (some (ag b))] w λr x=>r=U (.bool (br k.rx u.rx==0))/\aj w x:=by refine KB.aB _ _ _ _ _ w _ ((I1 n q j).aN λz y d=>⟨_,_,_,u.s,d.fh 2 0,d.fh 2 1,d.fh 2 2,d.fh 2 3,d.ax (tA k u y h (d.getD 0) (d.getD 1)) ?_⟩);rintro _ A rfl e;exact⟨_,rfl,rfl,e.fr⟩
def OE(k:I)(w:C)(h:k.P w):ah V uN #[k.v] w λr j=>r=U k.v/\aj w j:=by refine Kz.aB _ _ _ _ w _ ((gE h).aN λn u c=>c.aN λq x d=>d.ak λy e=>⟨rfl,e.fr⟩)
def kN(c:I->Bool):List I->Nat->Int
 |[],_=>-1
 |a::l,i=>if c a then(i:Int)else kN c l (i+1)
def Ik(c:I->Bool):∀(l:List I) (i:Nat),af (kN c l i>=0)=l.any c
 |[],i=>rfl
 |a::l,i=>by
  unfold kN;rw[List.any_cons];cases d:c a with
  |true=>simp
  |false=>simpa using Ik c l (i+1)
def FV(s:J)(l:List I)(f:Fv)(h:I->Bool)(D:List En)(w:C)(N:l.length<=1000000)(B:bF 4 w s (l.flatMap I.c))(M:∀A∈D,A.P w)(F:gx V f.n=true)(G:∀j t,t∈l->Z F0 w j [] (I.row s l::D)->ah V f.n (f.bs++#[t.v]++f.cs) j λr L=>r=U (.bool (h t))/\aj j L):
  ah V x3 #[s.v,f.v] w λr j=>r=U (.int .i64 (kN h l 0))/\aj w j:=by
 have S:=I.cu B;have loop:∀(d i:Nat) (u:C),i+d=l.length->kN h (l.drop i) i=kN h l 0->Z F0 w u [] (I.row s l::D)->vu.L0 s f ((s.n:Nat):Int) (i:Int) u λr j=>r=U (.int .i64 (kN h l 0))/\aj w j:=by
  intro d;induction d with
  |zero=>
   intro i u H e q;rw[c9 (by omega)]at e;exact vu.cf _ _ _ _ _ _ (bb (a2 (by omega)) ⟨by rw[<-e];rfl,q.fr⟩)
  |succ d Q=>
   intro i u H e q;have z:l[i]? =some (l[i]'(by omega)):=a9 (by omega);rw[dZ (by omega:i<l.length)]at e;generalize l[i]'(by omega)=x at z e;refine vu.cf _ _ _ _ _ _ (a8 (a0 (by omega)) ⟨by omega,by omega,I.di (q.getD 0) z λp O y=>⟨x.k,x.lo.toNat,x.hi.toNat,x.s,y.c0,y.c1,y.c2,y.c3,?_⟩⟩);rw[F];refine(show cF true _ from ?_);refine q.call (G u x (aE z) q) ?_;rintro _ T rfl E;have e:(if h x then(i:Int)else kN h (l.drop (i+1)) (i+1))=kN h l 0:=e;refine⟨_,rfl,cK (λK=>⟨?_,E.fr⟩) (λK=>?_)⟩
   .grind
   .rw [aq (by grind)]at e;rw[bA _ (by omega)]
    grind
 refine vu.ok _ _ w _ (loop l.length 0 w (by omega) (by simp) (bN _ (λA e=>?_)));rcases ay.1 e with rfl|e
 .exact B
 grind
def N8(s:J)(l:List I)(f:Fv)(e:I->Bool)(D:List En)(w:C)(x:l.length<=1000000)(y:bF 4 w s (l.flatMap I.c))(k:∀h∈D,h.P w)(q:gx V f.n=true)(u:∀d t,t∈l->Z F0 w d [] (I.row s l::D)->ah V f.n (f.bs++#[t.v]++f.cs) d λr z=>r=U (.bool (e t))/\aj d z):
  ah V CV #[s.v,f.v] w λr d=>r=U (.bool (l.any e))/\aj w d:=by refine Lr.ok _ _ w _ ((FV s l f e D w x y k q u).mono ?_);rintro _ A ⟨rfl,j⟩;refine⟨_,rfl,?_,j⟩;rw[Ik]
def Il(c:I->Bool):∀(l:List I) (k:Nat),(kN c l k=-1/\∀t∈l,c t=false)\/∃m a,l[m]? =some a/\c a=true/\kN c l k=((k+m:Nat):Int)/\∀t∈l.take m,c t=false
 |[],k=>.inl ⟨rfl,by simp⟩
 |a::l,k=>by
  unfold kN;cases q:c a with
  |true=>grind
  |false=>
   rcases Il c l (k+1)with⟨e,d⟩|⟨m,h,e,d,j,n⟩
   .grind
   .refine .inr ⟨m+1,h,by grind,d,?_,?_⟩
    .grind
    grind
section
variable {M:Nat->Prop} {w0 w:C} {L D:List En} {bs:List Nat}
def _root_.Go.W.Z.Au(H:Z M w0 w L D)(i:Nat){P:aR}{g:FuncId}{args:Array ab}{A K:aa}{e:aF}{sz:Nat}{s:J}{xs:List ab}(hi:L[i]? =some (.row e sz s xs))(k:ah P g args w λr c=>A r c/\Fr (·∈aO s) w c)(u:∀r c,A r c->(∀d:En,d.P c->(∀b∈d.fp,b∈aO s\/w.heap.size<=b)->Z M w0 c (L.set i d) D)->K r c)(bZ:∀b∈bs,En.g b∈L:=by simp):cV bs P g args w K:=
 ⟨(·∈aO s),λb j=>H.Bq hi (bZ b j),k.mono λr c ⟨h,f⟩=>⟨f,u r c h λd n q=>H.g' i d hi f n q⟩⟩
def _root_.Go.W.Z.off(H:Z M w0 w L D)(i j:Nat){e:aF}{sz:Nat}{s:J}{xs:List ab}{d:En}(hi:L[i]? =some (.row e sz s xs):=by rfl)(k:D[j]? =some d:=by rfl):∀c∈aO s,c∉d.fp:=λc n h=>
 H.dj d (aE k) c h _ (aE hi) n
end
def ti(s:J)(l:List I)(r:cQ)(w w':C):Prop:=∃d:J,r=U d.v/\aG w' aV 4 d (l.flatMap I.c)/\∀e∈aO d,e∈aO s
def BR{w:C}{s:J}{l:List I}(D:List En)(n:aG w aV 4 s (l.flatMap I.c))(h:∀d∈D,d.P w/\∀u∈aO s,u∉d.fp):Z (·∈aO s) w w [.row aV 4 s (l.flatMap I.c)] D:=
 Z.sK _ _ (by
  intro d e;simp only[ay,aW,a3]at e;subst e;exact⟨n,λb j=>j⟩) (by
  simp only[dT,List.flatMap_nil,List.append_nil];exact(En.row aV 4 s (l.flatMap I.c)).nd) (λd e=>⟨(h d e).1,λb j x k=>by simp only[ay,aW,a3]at k;subst k;exact λq=>(h d e).2 b q j⟩)
def Me{α:Type}{l:List α}{i:Nat}{a:α}(h:i<l.length):(l.set i a).take (i+1)=l.take i++[a]:=by rw[eI,kp h,List.take_set_of_le (b' _)];rfl
def N9(s:J)(l:List I)(u:I)(b:Nat)(w:C)(hl:I.bc l<=1000000)(M:aG w aV 4 s (l.flatMap I.c))(pl:I.Ps w l)(pu:u.P w)(hb:w.heap[b]? =some (.cells u.c.toArray aV (0,0)))(K:∀h∈aO s,h∉I.bm l/\h∉u.fp/\h≠b):
  ah V CW #[s.v,.func (.func nn) #[] #[.pointer (some (ag b))]] w λr q=>ti s (l.filter λt=>!(br t.rx u.rx==0)) r w q/\Fr (·∈aO s) w q:=by
 have nr:=I.cu M.bh;have ll:=I.fI l;have kt:∀t∈l,t.sz<=1000000:=λt y=>bB (I.eG y) hl;have N:Z (·∈aO s) w w [.row aV 4 s (l.flatMap I.c)] [.trees l,.tree u,dW b u]:=BR _ M (by
  intro ab W;simp only[ay,aW,a3]at W;rcases W with rfl|rfl|rfl
  .exact ⟨pl,λh e z=>(K h e).1 (a4.1 z)⟩
  .exact ⟨pu,λh e z=>(K h e).2.1 (a4.1 z)⟩
  .exact ⟨hb,λh e z=>(K h e).2.2 (by simpa[dW,En.c,En.ob]using z)⟩)
 have loop:∀(d i j:Nat) (cur:List I) (A:C),j+d=l.length->i<j->cur.length=l.length->cur.drop j=l.drop j->cur.take i=(l.take j).filter (λt=>!(br t.rx u.rx==0))->Z (·∈aO s) w A [.row aV 4 s (cur.flatMap I.c)] [.trees l,.tree u,dW b u]->
   qz.aH s (ag b) (i:Int) (j:Int) A λr q=>ti s (l.filter λt=>!(br t.rx u.rx==0)) r w q/\Fr (·∈aO s) w q:=by
  intro d;induction d with
  |zero=>
   intro i j cur A hj ae T F Y n;refine qz.bD _ _ _ _ _ _ (bb (a2 (by omega)) ⟨by omega,by omega,?_⟩);have aj:=(n.get 0:aG _ _ _ _ _).cap;obtain⟨w2,B,Q,H⟩:=G5 (ty:=i1) pH M1 rfl (n.get 0) i (by omega);refine⟨w2,B,by omega,by omega,⟨⟨if s.c=0 then s.a else s.a.map (·.add (0 *4)),i - 0,s.c - 0⟩,rfl,?_,λh e=>?_⟩,n.fr.trans H λh _ ac=>ac⟩
   .have ab:(cur.flatMap I.c).take (i *4)=(l.filter λt=>!(br t.rx u.rx==0)).flatMap I.c:=by
     have e1:(cur.flatMap I.c).take (i *4)=(cur.take i).flatMap I.c:=by
      have:=I.ee (cur.take i);conv=>lhs;rw[<-DQ i cur,ea]
      grind
     grind
    grind
   .simp only[aO]at e ⊢;split at e
    .rename_i p x;split at x
     .omega
     .cases ai:s.a with
      |none=>grind
      |some am=>
       rw[ai]at x;simp only[Option.map_some,fb]at x;subst x;rw[iM]at e;exact e
    grind
  |succ d aa=>
   intro i j cur A hj ae T F Y n;have L:l[j]? =some (l[j]'(by omega)):=a9 (by omega);generalize al:l[j]'(by omega)=a at L;have ad:cur[j]? =some a:=by
    have:(cur.drop j)[0]? =(l.drop j)[0]?:=by rw[F]
    grind
   have S:=aE L;have af:l.take (j+1)=l.take j++[a]:=by rw[eI,L];rfl
   refine qz.bD _ _ _ _ _ _ (a8 (a0 (by omega)) ⟨by omega,by omega,DG (n.get 0) ad λp x E=>⟨a.k,a.lo.toNat,a.hi.toNat,a.s,E.c0,E.c1,E.c2,E.c3,?_⟩⟩);refine n.aN (λb7 w2 H2=>H2.ak λw3 D=>?_);refine D.ax (Gg a u b w3 (kt a S) ((show I.Ps w3 l from D.getD 0).mem S) (D.getD 1) (D.getD 2)) ?_;rintro _ w4 rfl O;refine⟨_,rfl,eJ (λhf=>⟨by omega,by omega,?_⟩) (λy=>?_)⟩
   .rw [x];refine(show cd (some p) _ from ?_);refine O.LX 0 i (t:=a) (ts:=cur) rfl x (by omega) (λw5 H5=>?_);show qz.aH _ _ _ _ _ _;rw[bA _ (by omega),bA _ (by omega)];refine aa (i+1) (j+1) (cur.set i a) w5 (by omega) (by omega) (by grind) ?_ ?_ (H5.take 1)
    .rw [List.drop_set_of_lt (by omega),<-sv,F,sv]
    .rw [Me (by omega),Y,af,List.filter_append]
     grind
   .show qz.aH _ _ _ _ _ _;rw[bA _ (by omega)];refine aa i (j+1) cur w4 (by omega) (by omega) T ?_ ?_ (O.take 1)
    .rw [<-sv,F,sv]
    grind
 refine qz.aB _ _ w _ ?_;have hI:=FV s l ⟨nn,#[],#[.pointer (some (ag b))]⟩ (λt=>br t.rx u.rx==0) [.trees l,.tree u,dW b u] w (by omega) M.bh (N.rd) (by kernel_rfl) (λq t y G=>Gg t u b q (kt t y) ((show I.Ps q l from G.getD 1).mem y) (G.getD 2) (G.getD 3));refine N.call hI ?_;rintro _ A rfl n;rcases Il (λt=>br t.rx u.rx==0) l 0 with⟨B,Q⟩|⟨m,a,B,Q,H,h4⟩
 .refine ⟨_,rfl,a8 (by grind) ⟨⟨s,rfl,?_,λh e=>e⟩,n.fr⟩⟩;rw[List.filter_eq_self.2 (λt y=>by grind)];exact n.get 0
 .have z:m<l.length:=(dh.1 B).1;refine⟨_,rfl,bb (by grind) ?_⟩;rw[H,Nat.zero_add,bA _ (by omega)];refine loop (l.length - (m+1)) m (m+1) l A (by omega) (by omega) rfl rfl ?_ n;rw[eI,B,List.filter_append,List.filter_eq_self.2 (λt y=>by grind)]
  grind
def eV(x k:I):List I:=if k.k=x.k then k.l else[k]
def BJ(u t:I):Bool:=!(br t.rx u.rx==0)
def ga(x u:I):List I:=(x.l.flatMap (eV x)).filter (BJ u)
structure Sub(x:I)(l:List I):Prop where
 P:∀w:C,x.P w->∀t∈l,t.P w
 fp:∀t∈l,∀b∈t.fp,b∈x.fp
def Sub.part{x t:I}(h:t∈x.l):Sub x [t]:=⟨λk e j c=>by
  simp at c;subst c;exact e.parts.2.mem h,λj c b d=>by simp at c;subst c;exact I.gb.2 (.inr (I.bX.2 ⟨_,h,d⟩))⟩
def Sub.open{x k:I}(h:k∈x.l):Sub x (eV x k):=by
 unfold eV;split
 .exact ⟨λj e t c=>((e.parts.2.mem h).parts.2).mem c,λt c b d=>I.gb.2 (.inr (I.bX.2 ⟨k,h,I.gb.2 (.inr (I.bX.2 ⟨t,c,d⟩))⟩))⟩
 .exact .part h
def Sub.flat{x:I}{l:List I}(h:∀d∈l,d∈x.l):Sub x (l.flatMap (eV x)):=⟨λk j t c=>by
  obtain⟨d,e,c⟩:=cj.1 c;exact(Sub.open (h d e)).P k j t c,λt c=>by obtain⟨d,e,c⟩:=cj.1 c;exact(Sub.open (h d e)).fp t c⟩
def Sub.sub{x:I}{l m:List I}(h:Sub x l)(d:∀t∈m,t∈l):Sub x m:=⟨λj e t c=>h.P j e t (d t c),λt c=>h.fp t (d t c)⟩
def Sub.Ps{x:I}{l:List I}(h:Sub x l){w:C}(c:x.P w):I.Ps w l:=I.iE (h.P w c)
def Sub.bm{x:I}{l:List I}(h:Sub x l){b:Nat}(c:b∈I.bm l):b∈x.fp:=by obtain⟨t,d,c⟩:=I.bX.1 c;exact h.fp t d b c
def Sub.ga(x u:I):Sub x (ga x u):=(Sub.flat (λ_ c=>c)).sub λ_ c=>(List.mem_filter.1 c).1
def sP(x:I):∀l:List I,I.bc (l.flatMap (eV x))<=I.bc l
 |[]=>b' _
 |c::l=>by
  have d:I.bc (eV x c)<=c.sz:=by
   unfold eV;split
   .rw [I.h2 c];omega
   .simp [I.bc]
  rw[dT,sO];have:=sP x l;show _<=c.sz+I.bc l;omega
def L5(c:I->Bool):∀l:List I,I.bc (l.filter c)<=I.bc l
 |[]=>b' _
 |d::l=>by
  have:=L5 c l;rw[List.filter_cons];split
  .unfold I.bc;omega
  .show _<=d.sz+I.bc l;omega
def Va(x u:I):I.bc (ga x u)+1<=x.sz:=by have c:=L5 (BJ u) (x.l.flatMap (eV x));have d:=sP x x.l;rw[I.h2 x];unfold ga;omega
def zW(w:C)(l:List I)(r:cQ)(w':C):Prop:=∃d:J,r=U d.v/\aG w' aV 4 d (l.flatMap I.c)/\∀e∈aO d,w.heap.size<=e
def OC(x u:I)(w:C)(h:x.sz<=1000000)(px:x.P w)(pu:u.P w):ah V CN #[x.v,u.v] w λr w'=>zW w (ga x u) r w'/\aj w w':=by
 have hs:=I.h2 x;have hl:=I.fI x.l;have nr:=I.cu px.parts.1;have loop:∀(d i:Nat) (acc:List I) (G:J) (y D:Nat) (A:C),i+d=x.l.length->acc=(x.l.take i).flatMap (eV x)->Z F0 w A [.g y,.c D u.c aV,.row aV 4 G (acc.flatMap I.c)] [.tree x,.tree u]->
   qu.aH y x.k x.lo.toNat x.hi.toNat x.s (ag D) G x.s ((x.s.n:Nat):Int) (i:Int) A λr w'=>zW w (ga x u) r w'/\aj w w':=by
  intro d;induction d with
  |zero=>
   intro i acc G y D A ac E e;have ab:Sub x acc:=by rw[E];exact Sub.flat λao F=>List.mem_of_mem_take F
   have ae:I.bc acc<=I.bc x.l:=by rw[E,g6 (by omega)];exact sP x x.l
   refine qu.bD _ _ _ _ _ _ _ _ _ _ _ _ (bb (a2 (by omega)) ?_);refine e.Au 2 rfl (N9 G acc u D A (by omega) (e.get 2) (ab.Ps (e.getD 0)) (e.getD 1) (e.ob 1) (λaa S=>⟨λz=>e.off 2 0 rfl rfl aa S (a4.2 (ab.bm z)),λz=>e.off 2 1 rfl rfl aa S (a4.2 z),λz=>?_⟩)) ?_
   .exact m8 e.nd (i:=2) rfl (j:=1) rfl (by omega) aa S (by simp[En.c,En.ob,z])
   rintro _ T ⟨q,rfl,Q,hb⟩ hH;have B:=hH (.row aV 4 q ((acc.filter (BJ u)).flatMap I.c)) Q λb O=>.inl (hb b O);refine⟨q,rfl,⟨q,rfl,?_,λb O=>(B.new _ (aE (i:=2) rfl) b O).resolve_right id⟩,B.fr⟩;rw[E,g6 (by omega)]at Q;exact Q
  |succ d an=>
   intro i acc G y D A ac E e;have M:x.l[i]? =some (x.l[i]'(by omega)):=a9 (by omega);generalize x.l[i]'(by omega)=a at M;have z:=aE M;have af:x.P A:=e.getD 0;have ar:=I.eG z;have ae:I.bc acc<=I.bc x.l:=by
    have h1:=sP x (x.l.take i);have ai:=yY x.l i
    grind
   have al:acc++eV x a=(x.l.take (i+1)).flatMap (eV x):=by rw[eI,M,ea,E];simp
   have ap:=I.cu (e.get 2:aG _ _ _ _ _).bh;have ad:=I.fI acc;have tail:∀(q:J) (w':C),Z F0 w w' [.g y,.c D u.c aV,.row aV 4 q ((acc++eV x a).flatMap I.c)] [.tree x,.tree u]->qu.aZ y x.k x.lo.toNat x.hi.toNat x.s (ag D) q x.s ((x.s.n:Nat):Int) (i:Int) w' λr w'=>zW w (ga x u) r w'/\aj w w':=by
    intro q w' H';show qu.aH _ _ _ _ _ _ _ _ _ _ _ _;rw[bA _ (by omega)]
    grind
   refine qu.bD _ _ _ _ _ _ _ _ _ _ _ _ (a8 (a0 (by omega)) ⟨by omega,by omega,I.di af.parts.1 M λp hp K=>⟨_,_,_,_,K.c0,K.c1,K.c2,K.c3,?_⟩⟩);refine e.aN λb7 T B=>aJ (λF=>B.ak λW H=>?_) (λF=>B.ak λW H=>?_)
   .have pa:a.P W:=(show x.P W from H.getD 0).parts.2.mem z;have na:=I.cu pa.parts.1;have ad:=I.fI a.l;have am:=I.h2 a;refine H.ep 2 pH (xs:=acc.flatMap I.c) (src:=a.s) (news:=a.l.flatMap I.c) rfl pa.parts.1 (rn _) (by omega) (λq Y N=>?_);refine tail q Y ?_;have L:eV x a=a.l:=aA F;rw[L,ea];exact N.take 3
   .refine H.hL 2 pH (xs:=acc.flatMap I.c) rfl (λq Y N=>?_) (by omega);refine tail q Y ?_;have L:eV x a=[a]:=aq F;rw[L,lr];exact N.take 3
 refine qu.aB _ _ _ _ _ _ _ _ w _ ((bN [.tree x,.tree u] (by
  intro L he;simp only[ay,aW,a3]at he;rcases he with rfl|rfl
  .exact px
  .exact pu)).aN λy A H1=>H1.nw λT _ B=>?_)
 exact loop x.l.length 0 [] ⟨none,0,0⟩ y A.heap.size T (by omega) rfl (B.gP aV 4)
def AE(a b:Int):cz b a=-cz a b:=by
 have s:∀a b:Int,(cz a b=-1/\a<b)\/(cz a b=1/\b<a)\/(cz a b=0/\a=b):=λa b=>by
  unfold cz;split
  .exact .inl ⟨rfl,by omega⟩
  .split
   .exact .inr (.inl ⟨rfl,by omega⟩)
   .exact .inr (.inr ⟨rfl,by omega⟩)
 rcases s a b with c|c|c<;>rcases s b a with d|d|d<;>omega
def DE(c d:Int)(l m:List Int)(h:d=-c)(e:eo m=-eo l):eo (d::m)=-eo (c::l):=by
 show(if d≠0 then d else eo m)=-(if c≠0 then c else eo l);split
 .rw [aA (by omega)];exact h
 .rw [aq (by omega)];exact e
def uY(c:Int):eo [c]=c:=by show(if c≠0 then c else 0)=c;split<;>omega
def rr(k:Int)(lo hi:UInt8)(l:List Rx)(b:Rx):br (.mk k lo hi l) b=eo [cz k b.k,cz lo.toNat b.lo.toNat,cz hi.toNat b.hi.toNat,cmpL l b.l]:=by
 unfold br;generalize cz k b.k=c0;generalize cz lo.toNat b.lo.toNat=c1;generalize cz hi.toNat b.hi.toNat=c2;generalize cmpL l b.l=c3;simp only[eo];by_cases c:c0=0
 .by_cases d:c1=0
  .by_cases e:c2=0
   .by_cases h:c3=0<;>simp[c,d,e,h]
   .simp [c,d,e]
  .simp [c,d]
 .simp [c]
mutual
def rs:∀a b:Rx,br b a=-br a b
 |.mk h lo d l,.mk j k e c=>by rw[rr,rr];exact DE _ _ _ _ (AE _ _) (DE _ _ _ _ (AE _ _) (DE _ _ _ _ (AE _ _) (by rw[uY,uY];exact GS l c)))
def GS:∀a b:List Rx,cmpL b a=-cmpL a b
 |[],[]=>by unfold cmpL;rfl
 |[],_::_=>by unfold cmpL;rfl
 |_::_,[]=>by unfold cmpL;rfl
 |c::l,d::m=>by
  have e:=rs c d;have h:=GS l m;show(if br d c≠0 then br d c else cmpL m l)=-(if br c d≠0 then br c d else cmpL l m);split
  .rw [aA (by omega)];exact e
  .rw [aq (by omega)];exact h
end
structure pc(x y z:Int):Prop where
 le:x<=0->y<=0->z<=0
 lt:x<0->y<=0->z<0
 VY:x<=0->y<0->z<0
 eq:x=0->y=0->z=0
def AF(a b c:Int):pc (cz a b) (cz b c) (cz a c):=by
 have s:∀a b:Int,(cz a b=-1/\a<b)\/(cz a b=1/\b<a)\/(cz a b=0/\a=b):=λa b=>by
  unfold cz;split
  .exact .inl ⟨rfl,by omega⟩
  .split
   .exact .inr (.inl ⟨rfl,by omega⟩)
   .exact .inr (.inr ⟨rfl,by omega⟩)
 rcases s a b with d|d|d<;>rcases s b c with e|e|e<;>rcases s a c with h|h|h<;>constructor<;>omega
def y2{x y n u w z:Int}(h:pc x y n)(G:pc u w z):pc (if x≠0 then x else u) (if y≠0 then y else w) (if n≠0 then n else z):=by
 obtain⟨H,e,k,A⟩:=h;obtain⟨B,D,E,F⟩:=G;by_cases q:x=0
 .by_cases j:y=0
  .have I:=A q j;rw[aq (by omega),aq (by omega),aq (by omega)];exact⟨B,D,E,F⟩
  .rw [aq (by omega:¬x≠0),aA j];constructor
   .intro c d;have:=k (by omega) (by omega);rw[aA (by omega)];omega
   .intro c d;have:=k (by omega) (by omega);rw[aA (by omega)];omega
   .intro c d;have:=k (by omega) (by omega);rw[aA (by omega)];omega
   .intro c d;omega
 .rw [aA q];by_cases j:y=0
  .rw [aq (by omega:¬y≠0)];constructor
   .intro c d;have:=e (by omega) (by omega);rw[aA (by omega)];omega
   .intro c d;have:=e (by omega) (by omega);rw[aA (by omega)];omega
   .intro c d;have:=e (by omega) (by omega);rw[aA (by omega)];omega
   .intro c d;omega
  .rw [aA j];constructor
   .intro c d;have:=e (by omega) (by omega);rw[aA (by omega)];omega
   .intro c d;have:=e (by omega) (by omega);rw[aA (by omega)];omega
   .intro c d;have:=e (by omega) (by omega);rw[aA (by omega)];omega
   .intro c d;omega
mutual
def wD:∀a b e:Rx,pc (br a b) (br b e) (br a e)
 |.mk n lo h l,.mk q w j c,.mk u x k d=>by
  rw[rr,rr,rr];have:=GU l c d;exact y2 (AF _ _ _) (y2 (AF _ _ _) (y2 (AF _ _ _) (by show pc (eo [cmpL l c]) (eo [cmpL c d]) (eo [cmpL l d]);rw[uY,uY,uY];exact this)))
def GU:∀a b h:List Rx,pc (cmpL a b) (cmpL b h) (cmpL a h)
 |[],[],[]=>by unfold cmpL;constructor<;>omega
 |[],[],_::_=>by unfold cmpL;constructor<;>omega
 |[],_::_,[]=>by unfold cmpL;constructor<;>omega
 |_::_,[],[]=>by unfold cmpL;constructor<;>omega
 |_::_,[],_::_=>by have c:∀(x:Rx) (l:List Rx),cmpL (x::l) []=1:=λ_ _=>rfl;have d:∀(x:Rx) (l:List Rx),cmpL [] (x::l)=-1:=λ_ _=>rfl;rw[c,d];constructor<;>omega
 |[],e::m,k::j=>by have d:∀(x:Rx) (l:List Rx),cmpL [] (x::l)=-1:=λ_ _=>rfl;rw[d,d];constructor<;>omega
 |x::l,e::m,[]=>by have c:∀(x:Rx) (l:List Rx),cmpL (x::l) []=1:=λ_ _=>rfl;rw[c,c];constructor<;>omega
 |x::l,e::m,k::j=>y2 (wD x e k) (GU l m j)
end
def kO(x:Rx):List Rx->List Rx
 |[]=>[x]
 |c::p=>if br x c<0 then c::kO x p else x::c::p
def jW(l:List Rx):List Rx:=(l.foldl (λp c=>kO c p) []).reverse
def jG(p:Rx):List Rx->List Rx
 |[]=>[]
 |c::l=>if br c p==0 then jG c l else c::jG c l
def pB:List Rx->List Rx
 |[]=>[]
 |a::l=>a::jG a l
def AG{a b:Int}(h:cz a b=0):a=b:=by
 unfold cz at h;split at h
 .cases h
 .split at h
  .cases h
  .omega
def JM:∀{l:List Int},eo l=0->∀e∈l,e=0
 |[],_=>λe c=>by cases c
 |a::l,d=>by
  unfold eo at d;split at d
  .rename_i j;exact absurd d j
  .rename_i h;have h:a=0:=by simpa using h
   intro e c;rcases ay.1 c with rfl|c
   .exact h
   .exact JM d e c
def ME{a b:UInt8}(h:(a.toNat:Int)=b.toNat):a=b:=UInt8.toNat_inj.1 (by omega)
mutual
def cmp_eq:∀a b:Rx,br a b=0->a=b
 |.mk w lo q l,.mk x y u n,c=>by rw[rr]at c;have c:=JM c;have d:=AG (c _ (oI ..));have e:=ME (AG (c _ (eb _ (oI ..))));have h:=ME (AG (c _ (eb _ (eb _ (oI ..)))));have j:=GY l n (c _ (eb _ (eb _ (eb _ (oI ..)))));simp only[Rx.k,Rx.lo,Rx.hi]at d e h;rw[d,e,h,j]
def GY:∀l m:List Rx,cmpL l m=0->l=m
 |[],[],_=>rfl
 |[],_::_,c=>by unfold cmpL at c;cases c
 |_::_,[],c=>by unfold cmpL at c;cases c
 |a::l,b::m,c=>by
  unfold cmpL at c;split at c
  .rename_i e;exact absurd c e
  .rename_i d;rw[cmp_eq a b (by simpa using d),GY l m c]
end
def AJ(a:Rx):br a a=0:=by have:=rs a a;omega
def pA{a b:Rx}:(br a b==0)=true↔a=b:=⟨λc=>cmp_eq a b (eq_of_beq c),λc=>by subst c;rw[AJ];rfl⟩
def tJ{a b:Rx}:br a b=0↔a=b:=⟨cmp_eq a b,λc=>by subst c;exact AJ a⟩
def GX{a b:Rx}:(!(br a b==0))=true↔a≠b:=by rw[Bool.not_eq_true',<-i4,not_congr pA]
abbrev iK(l:List Rx):Prop:=l.Pairwise λa b=>br a b<0
abbrev mM(l:List Rx):Prop:=l.Pairwise λa b=>br a b<=0
def iK.nodup{l:List Rx}(h:iK l):l.Nodup:=List.nodup_iff_pairwise_ne.2 (h.imp λ{a b} d c=>by subst c;rw[AJ]at d;omega)
def iK.FF{l:List Rx}(h:iK l):mM l:=h.imp λ{a b} c=>by omega
def FG{l m:List Rx}(c:mM l)(d:mM m)(h:l.Perm m):l=m:=List.Perm.eq_of_pairwise (λa b _ _ e j=>cmp_eq a b (by have:=rs a b;omega)) c d h
def Rf{l m:List Rx}(c:iK l)(d:iK m)(h:∀t,t∈l↔t∈m):l=m:=FG c.FF d.FF ((List.perm_ext_iff_of_nodup c.nodup d.nodup).2 h)
def BB(x:Rx):∀p:List Rx,(kO x p).Perm (x::p)
 |[]=>.refl _
 |c::p=>by
  unfold kO;split
  .exact ((BB x p).cons c).trans (.swap x c p)
  .exact .refl _
def Ir(x:Rx):∀{p:List Rx},p.Pairwise (λa b=>br b a<=0)->(kO x p).Pairwise λa b=>br b a<=0
 |[],_=>by unfold kO;simp
 |e::p,h=>by
  have d:=List.pairwise_cons.1 h;unfold kO;split
  .rename_i k;refine List.pairwise_cons.2 ⟨λt c=>?_,Ir x d.2⟩;rcases ay.1 ((BB x p).mem_iff.1 c)with rfl|c
   .omega
   .exact d.1 t c
  .rename_i k;have j:br e x<=0:=by have:=rs x e;omega
   refine List.pairwise_cons.2 ⟨λt c=>?_,h⟩;rcases ay.1 c with rfl|c
   .exact j
   .exact (wD t e x).le (d.1 t c) j
def Em(l:List Rx):(jW l).Perm l:=by
 have:∀(l p:List Rx),(l.foldl (λp e=>kO e p) p).Perm (l++p):=by
  intro l;induction l with
  |nil=>intro p;exact .refl _
  |cons a l d=>
   intro p;rw[List.foldl_cons];exact(d _).trans (((BB a p).append_left l).trans List.perm_middle)
 unfold jW;have c:=this l [];rw[List.append_nil]at c;exact(List.reverse_perm _).trans c
def El(l:List Rx):mM (jW l):=by
 have:∀(l p:List Rx),p.Pairwise (λa b=>br b a<=0)->(l.foldl (λp e=>kO e p) p).Pairwise λa b=>br b a<=0:=by
  intro l;induction l with
  |nil=>intro p c;exact c
  |cons a l d=>intro p c;exact d _ (Ir a c)
 unfold jW;exact List.pairwise_reverse.2 (this l [] .nil)
def UC{l m:List Rx}(h:mM m)(c:m.Perm l):m=jW l:=FG h (El l) (c.trans (Em l).symm)
def AL{t:Rx}:∀{l:List Rx} {p:Rx},(t=p\/t∈jG p l)↔(t=p\/t∈l)
 |[],p=>by unfold jG;simp
 |d::l,p=>by
  unfold jG;split
  .rename_i c;have e:d=p:=pA.1 c;subst e;rw[AL,ay];constructor
   .rintro (c|c)<;>simp[c]
   .rintro (c|c|c)<;>simp[c]
  .rw [ay,ay];have:=AL (t:=t) (l:=l) (p:=d);constructor
   .rintro (c|c)
    .exact .inl c
    .exact .inr (this.1 c)
   .rintro (c|c)
    .exact .inl c
    .exact .inr (this.2 c)
def AK:∀{l:List Rx} {p:Rx},mM (p::l)->iK (p::jG p l)
 |[],p,_=>by unfold jG;simp
 |c::l,p,q=>by
  obtain⟨u,j⟩:=List.pairwise_cons.1 q;unfold jG;split
  .rename_i h;have d:c=p:=pA.1 h;subst d;exact AK j
  .rename_i h;have n:br p c<0:=by have w:=u c (by simp);have x:=rs c p;have y:br c p≠0:=λd=>h (by rw[d];rfl);omega
   have k:=AK j;refine List.pairwise_cons.2 ⟨λt e=>?_,k⟩;rcases ay.1 e with rfl|e
   .exact n
   .exact (wD p c t).lt n (by have:=(List.pairwise_cons.1 k).1 t e;omega)
def PB{l:List Rx}(h:mM l):iK (pB l):=by
 cases l with
 |nil=>exact .nil
 |cons a l=>exact AK h
def PC{t:Rx}{l:List Rx}:t∈pB l↔t∈l:=by
 cases l with
 |nil=>exact Iff.rfl
 |cons a l=>show t∈a::jG a l↔_;rw[ay,ay];exact AL
def sE(l:List Rx):List Rx:=pB (jW l)
def Li(l:List Rx):iK (sE l):=PB (El l)
def Lj{t:Rx}{l:List Rx}:t∈sE l↔t∈l:=by unfold sE;rw[PC,(Em l).mem_iff]
def ko(r:Rx):List Rx->List Rx
 |[]=>[r]
 |c::p=>if br c r<0 then c::ko r p else if br c r=0 then c::p else r::c::p
def DO{t r:Rx}:∀{p:List Rx},t∈ko r p↔t=r\/t∈p
 |[]=>by unfold ko;simp
 |h::p=>by
  unfold ko;split
  .rw [ay,DO,ay];constructor
   .rintro (c|c|c)<;>simp[c]
   .rintro (c|c|c)<;>simp[c]
  .split
   .rename_i e;have d:=cmp_eq h r e;subst d;simp
   .simp
def Ki{r:Rx}:∀{p:List Rx},iK p->iK (ko r p)
 |[],_=>by unfold ko;simp
 |e::p,d=>by
  obtain⟨h,n⟩:=List.pairwise_cons.1 d;unfold ko;split
  .rename_i k;refine List.pairwise_cons.2 ⟨λt c=>?_,Ki n⟩;rcases DO.1 c with rfl|c
   .exact k
   .exact h t c
  .split
   .exact d
   .rename_i k q;have j:br r e<0:=by have:=rs r e;omega
    refine List.pairwise_cons.2 ⟨λt c=>?_,d⟩;rcases ay.1 c with rfl|c
    .exact j
    .exact (wD r e t).lt j (by have:=h t c;omega)
def gR(k:Int):List Rx->List Rx->List Rx
 |out,[]=>out
 |out,t::l=>gR k (if k=3 then out++[t]else ko t out) l
def JP:∀(l out:List Rx),gR 3 out l=out++l
 |[],out=>by unfold gR;simp
 |t::l,out=>by unfold gR;rw[JP l,aA rfl];simp
def JQ{k:Int}(d:k≠3):∀(l:List Rx) {out:List Rx},iK out->iK (gR k out l)
 |[],_,c=>c
 |t::l,out,c=>by unfold gR;rw[aq d];exact JQ d l (Ki c)
def JR{k:Int}(d:k≠3){t:Rx}:∀(l:List Rx) {out:List Rx},t∈gR k out l↔t∈out\/t∈l
 |[],out=>by unfold gR;simp
 |a::l,out=>by
  unfold gR;rw[aq d,JR d l,DO,ay];constructor
  .rintro ((c|c)|c)<;>simp[c]
  .rintro (c|c|c)<;>simp[c]
def Tm(k:Int)(l:List Rx):gR k [] l=if k=3 then l else sE l:=by
 split
 .rename_i c;subst c;rw[JP];rfl
 .rename_i c;exact Rf (JQ c l .nil) (Li l) λt=>by rw[JR c,Lj];simp
def ms(μ:Rx->Nat):List Rx->Nat
 |[]=>0
 |a::l=>μ a+ms μ l
section
variable {μ:Rx->Nat}
def Ji:∀l m:List Rx,ms μ (l++m)=ms μ l+ms μ m
 |[],m=>by simp[ms]
 |a::l,m=>by show μ a+ms μ (l++m)=μ a+ms μ l+ms μ m;rw[Ji l m];omega
def Sj{l m:List Rx}(h:l.Perm m):ms μ l=ms μ m:=by
 induction h with
 |nil=>rfl
 |cons c _ k=>show μ c+_=μ c+_;rw[k]
 |swap c d l=>show μ d+(μ c+_)=μ c+(μ d+_);omega
 |trans _ _ e j=>rw[e,j]
end
mutual
def du:Rx->Nat|.mk _ _ _ l=>max 1 (xe l)
def xe:List Rx->Nat
 |[]=>0
 |a::l=>du a+xe l
end
def I':∀l:List Rx,xe l=ms du l
 |[]=>rfl
 |a::l=>by unfold xe;rw[I' l];rfl
def p9(k:Int)(lo hi:UInt8)(l:List Rx):du (.mk k lo hi l)=max 1 (ms du l):=by unfold du;rw[I']
mutual
def m'(N:Nat):Rx->Prop|.mk k _ _ l=>pP N l/\(k=4\/k=5->ms du l<=N)
def pP(N:Nat):List Rx->Prop
 |[]=>True
 |a::l=>m' N a/\pP N l
end
mutual
def Be{N:Nat}:∀c:Rx,du c<=N->m' N c
 |.mk h lo e l,d=>by rw[p9]at d;unfold m';exact⟨HV l (by omega),λ_=>by omega⟩
def HV{N:Nat}:∀l:List Rx,ms du l<=N->pP N l
 |[],_=>by unfold pP;trivial
 |a::l,c=>by have c:du a+ms du l<=N:=c;unfold pP;exact⟨Be a (by omega),HV l (by omega)⟩
end
set_option maxRecDepth 100000
set_option maxHeartbeats 2000000
abbrev I3:ByteArray:=ByteArray.mk #[0,1,2,2,3,3,3,3,4,4,4,4,4,4,4,4,5,5,5,5,5,5,5,5,5,5,5,5,5,5,5,5,6,6,6,6,6,6,6,6,6,6,6,6,6,6,6,6,6,6,6,6,6,6,6,6,6,6,6,6,6,6,6,6,7,7,7,7,7,7,7,7,7,7,7,7,7,7,7,7,7,7,7,7,7,7,7,7,7,7,7,7,7,7,7,7,7,7,7,7,7,7,7,7,7,7,7,7,7,7,7,7,7,7,7,7,7,7,7,7,7,7,7,7,7,7,7,7,8,8,8,8,8,8,8,8,8,8,8,8,8,8,8,8,8,8,8,8,8,8,8,8,8,8,8,8,8,8,8,8,8,8,8,8,8,8,8,8,8,8,8,8,8,8,8,8,8,8,8,8,8,8,8,8,8,8,8,8,8,8,8,8,8,8,8,8,8,8,8,8,8,8,8,8,8,8,8,8,8,8,8,8,8,8,8,8,8,8,8,8,8,8,8,8,8,8,8,8,8,8,8,8,8,8,8,8,8,8,8,8,8,8,8,8,8,8,8,8,8,8,8,8,8,8,8,8]
namespace mn
noncomputable abbrev X:Fx:=⟨V,Tryz.f125,[],[]⟩
abbrev P0:Ps:=[(0,.v [.U]),(2,.v [.I])]
abbrev S2(d e:Int)(w:C)(R:aa):Prop:=
 (0:Int)<=(ad .u8 d)/\∃c:UInt8,I3[ae (ad .u8 d)]? =some c/\R (U (.i (ad .i64 (e+(ad .i64 ((c.toNat:Nat):Int)))))) w
noncomputable def a1:=aC X [] (ai [4]) P0 S2
abbrev S1(c d:Int)(w:C)(R:aa):Prop:=
 Y (af (c>=256)) (S2 (Int.fdiv c (2^(8))) (ad .i64 (d+8)) w R) (S2 c d w R)
noncomputable def aX:=aC X [a1] (ai [3]) P0 S1
abbrev S0(c d:Int)(w:C)(R:aa):Prop:=
 Y (af (c>=65536)) (S1 (Int.fdiv c (2^(16))) (ad .i64 (d+16)) w R) (S1 c d w R)
noncomputable def aT:=aC X [aX,a1] (ai [2]) P0 S0
def ok(c:Int)(w:C)(R:aa)(h:Y (af (c>=4294967296)) (S0 (Int.fdiv c (2^(32))) 32 w R) (S0 c 0 w R)):ah V xK #[.u c] w R:=aM X [aT,aX,a1] h
end mn
namespace Je
noncomputable abbrev X:Fx:=⟨V,Tryz.f189,[],[]⟩
def ok(c:Int)(w:C)(R:aa)(h:en xK #[.u c] w λd e=>R (U (.i d)) e):ah V CF #[.u c] w R:=aM X [] h
end Je
namespace k1
noncomputable abbrev X:Fx:=⟨V,Tryz.f198,[(4,ls [0,1,2,3,4,5,6,7,8,9,10,11,12,13,14,15,16]),(6,ls [0,1,2,3,4,5,6,7,8,9,10,11,12,13,14,15,16,17])],[]⟩
abbrev P0:Ps:=[(0,.v [.s]),(1,.v [.I]),(2,.v [.I]),(3,.v [.g dR 0 0]),(8,.v [.I])]
def L0(e:J)(c d h:Int)(w:C)(R:aa):Prop:=bz P0 0 (X.Sem (ai [0,1,1])) e c d h w R
noncomputable def az:=bK X (ai [0,1,1]) P0 L0
abbrev P1:Ps:=[(0,.v [.s]),(1,.v [.I]),(2,.v [.I]),(3,.v [.g dR 0 0]),(8,.v [.I]),(9,.v [.I])]
def L1(e:J)(c d h j:Int)(w:C)(R:aa):Prop:=bz P1 0 (X.Sem (ai [0,1,1,2,1,2,1])) e c d h j w R
noncomputable def bx:=bK X (ai [0,1,1,2,1,2,1]) P1 L1
abbrev S2(e:J)(c d h:Int)(w:C)(R:aa):Prop:=
 L0 e c d (ad .i64 (h+1)) w R
noncomputable def a1:=aC X [bx,az] (ai [2,2,1]) P0 S2
def j3:∀(d:J) (e j k c:Int) (w:C) (R:aa) (h:dM w λn=>Y (af (c>e)) (aw d c λx=>bH n (x.add (ae c *4)) λy z A B=>aw d (ad .i64 (c - 1)) λD=>bH n (D.add (ae (ad .i64 (c - 1)) *4)) λE F G H=>en dR #[.agg #[.i y,.int .u8 z,.int .u8 A,B.v],.agg #[.i E,.int .u8 F,.int .u8 G,H.v]] n λt32 u=>Y (af (t32<0)) (dM u λq=>aw d (ad .i64 (c - 1)) λI=>bH q (I.add (ae (ad .i64 (c - 1)) *4)) λK L M N=>aw d c λO=>bH q (O.add (ae c *4)) λP Q S T=>aw d c λW=>g8 q (W.add (ae c *4)) (.i K) (.int .u8 L) (.int .u8 M) (N.v) λw7=>aw d (ad .i64 (c - 1)) λZ=>g8 w7 (Z.add (ae (ad .i64 (c - 1)) *4)) (.i P) (.int .u8 Q) (.int .u8 S) (T.v) λab=>L1 d e j k (ad .i64 (c - 1)) ab R) (S2 d e j k u R)) (S2 d e j k n R)),L1 d e j k c w R:=mp (bL (X:=X) [a1,bx,az] (ai [0,1,1,2,1,2,1]) P1)
def cf:∀(j:J) (e d c:Int) (w:C) (R:aa) (h:Y (af (c<d)) (L1 j e d c c w R) (R (U (.tuple #[])) w)),L0 j e d c w R:=mp (bL (X:=X) [a1,bx,az] (ai [0,1,1]) P0)
def ok(e:J)(c d:Int)(w:C)(R:aa)(h:L0 e c d (ad .i64 (c+1)) w R):ah V CY #[e.v,.i c,.i d,.func (.func dR) #[] #[]] w R:=aM X [a1,bx,az] h
end k1
namespace yO
noncomputable abbrev X:Fx:=⟨V,Tryz.f188,[(17,ls [0,1,2,3,4,5,6,7,8,9,10,11,12,13,14,15,16])],[]⟩
abbrev P0:Ps:=[(0,.v [.s]),(1,.v [.I]),(2,.v [.I]),(3,.v [.I]),(4,.v [.g dR 0 0]),(10,.v [.b]),(11,.v [.b])]
def L0(e:J)(c d h:Int)(j k:Bool)(w:C)(R:aa):Prop:=bz P0 0 (X.Sem (ai [0,1,2])) e c d h j k w R
noncomputable def az:=bK X (ai [0,1,2]) P0 L0
abbrev P1:Ps:=[(0,.v [.s]),(1,.v [.I]),(2,.v [.I]),(3,.v [.I]),(4,.v [.g dR 0 0]),(10,.v [.b]),(11,.v [.b]),(16,.v [.I])]
abbrev S9(c:J)(h j d:Int)(n q:Bool)(e:Int)(w:C)(R:aa):Prop:=
 e0 x4 #[c.v,.i h,.i e,.i d,.func (.func dR) #[] #[]] w λk=>L0 c (ad .i64 (e+1)) j d n q k R
noncomputable def hO:=aC X [az] (ai [1,1,13,3,2]) P1 S9
abbrev q4(c:J)(h j d:Int)(n q:Bool)(e:Int)(w:C)(R:aa):Prop:=
 e0 x4 #[c.v,.i (ad .i64 (e+1)),.i j,.i d,.func (.func dR) #[] #[]] w λk=>L0 c h e d n q k R
noncomputable def iy:=aC X [hO,az] (ai [15,3,2]) P1 q4
abbrev P2:Ps:=[(0,.v [.s]),(1,.v [.I]),(2,.v [.I]),(3,.v [.I]),(4,.v [.g dR 0 0]),(11,.v [.b]),(16,.v [.I]),(18,.v [.I]),(19,.v [.I]),(20,.v [.I])]
abbrev S8(h:J)(c d k:Int)(u:Bool)(n j q e:Int)(w:C)(R:aa):Prop:=
 Y (af (j<q)) (S9 h c d k (af (j>=e)) u n w R) (q4 h c d k (af (q>=e)) u n w R)
noncomputable def e1:=aC X [iy,hO,az] (ai [12,3,2]) P2 S8
abbrev P3:Ps:=[(0,.v [.s]),(1,.v [.I]),(2,.v [.I]),(3,.v [.I]),(4,.v [.g dR 0 0]),(11,.v [.b]),(12,.v [.I]),(16,.v [.I]),(18,.v [.I]),(19,.v [.I])]
abbrev S7(e:J)(c d k:Int)(u:Bool)(j n h q:Int)(w:C)(R:aa):Prop:=
 S8 e c d k u n h q (ad .i64 (Int.tdiv j 8)) w R
noncomputable def dH:=aC X [e1,iy,hO,az] (ai [11,3,2]) P3 S7
abbrev P4:Ps:=[(0,.v [.s]),(1,.v [.I]),(2,.v [.I]),(3,.v [.I]),(4,.v [.g dR 0 0]),(12,.v [.I]),(13,.v [.I])]
abbrev S6(h:J)(c d k j n:Int)(w:C)(R:aa):Prop:=
 Pg Sr #[h.v,.i c,.i d,.i n,.func (.func dR) #[] #[]] w λe q u=>S7 h c d k q j e (ad .i64 (e - c)) (ad .i64 (d - e)) u R
noncomputable def df:=aC X [dH,e1,iy,hO,az] (ai [8,3,2]) P4 S6
abbrev P5:Ps:=[(0,.v [.s]),(1,.v [.I]),(2,.v [.I]),(3,.v [.I]),(4,.v [.g dR 0 0]),(10,.v [.b]),(11,.v [.b]),(12,.v [.I]),(13,.v [.I])]
abbrev S5(d:J)(c h k:Int)(I K:Bool)(n e:Int)(w:C)(R:aa):Prop:=
 dM w λj=>Y (af (c>0)) (aw d (ad .i64 (c - 1)) λu=>bH j (u.add (ae (ad .i64 (c - 1)) *4)) λx y z A=>aw d e λB=>bH j (B.add (ae e *4)) λD E F G=>en dR #[.agg #[.i x,.int .u8 y,.int .u8 z,A.v],.agg #[.i D,.int .u8 E,.int .u8 F,G.v]] j λt94 q=>Y (!(af (t94<0))) (en Su #[d.v,.i c,.i h,.i e,.func (.func dR) #[] #[]] q λt103 H=>L0 d t103 h k I K H R) (S6 d c h k n e q R)) (S6 d c h k n e j R)
noncomputable def cw:=aC X [df,dH,e1,iy,hO,az] (ai [7,3,2]) P5 S5
abbrev P6:Ps:=[(0,.v [.s]),(1,.v [.I]),(2,.v [.I]),(3,.v [.I]),(4,.v [.g dR 0 0]),(10,.v [.b]),(11,.v [.b]),(12,.v [.I]),(13,.v [.I]),(14,.v [.I])]
abbrev S4(e:J)(c d n:Int)(h j:Bool)(k q x:Int)(w:C)(R:aa):Prop:=
 Y h (Y j (Y (x==1) (gL Sq #[e.v,.i c,.i d,.func (.func dR) #[] #[]] w λt80 u=>Y t80 (R (U (.tuple #[])) u) (S5 e c d n h j k q u R)) (S5 e c d n h j k q w R)) (S5 e c d n h j k q w R)) (S5 e c d n h j k q w R)
noncomputable def bq:=aC X [cw,df,dH,e1,iy,hO,az] (ai [6,3,2]) P6 S4
abbrev S3(e:J)(c d j:Int)(n q:Bool)(h k:Int)(w:C)(R:aa):Prop:=
 S4 e c d j n q h k 1 w R
noncomputable def a7:=aC X [bq,cw,df,dH,e1,iy,hO,az] (ai [2,1,1,1,5,3,2]) P5 S3
abbrev P7:Ps:=[(0,.v [.s]),(1,.v [.I]),(2,.v [.I]),(3,.v [.I]),(4,.v [.g dR 0 0]),(10,.v [.b]),(11,.v [.b]),(12,.v [.I])]
abbrev S2(e:J)(c d j:Int)(u x:Bool)(h:Int)(w:C)(R:aa):Prop:=
 Pe Sn #[e.v,.i c,.i d,.func (.func dR) #[] #[]] w λk n q=>Y (n==2) (e0 Sw #[e.v,.i c,.i d,.func (.func dR) #[] #[]] q λy=>S3 e c d j u x h (ad .i64 ((ad .i64 (d - 1)) - (ad .i64 (k - c)))) y R) (S4 e c d j u x h k n q R)
noncomputable def a1:=aC X [a7,bq,cw,df,dH,e1,iy,hO,az] (ai [4,3,2]) P7 S2
abbrev S1(e:J)(c d j:Int)(k n:Bool)(h:Int)(w:C)(R:aa):Prop:=
 Y (af (h<=12)) (e0 CY #[e.v,.i c,.i d,.func (.func dR) #[] #[]] w λq=>R (U (.tuple #[])) q) (Y (j==0) (e0 So #[e.v,.i c,.i d,.func (.func dR) #[] #[]] w λu=>R (U (.tuple #[])) u) (Y (!k) (e0 Sm #[e.v,.i c,.i d,.func (.func dR) #[] #[]] w λx=>S2 e c d (ad .i64 (j - 1)) k n h x R) (S2 e c d j k n h w R)))
noncomputable def aX:=aC X [a1,a7,bq,cw,df,dH,e1,iy,hO,az] (ai [1,3,2]) P7 S1
def cf:∀(e:J) (c d j:Int) (k n:Bool) (w:C) (R:aa) (h:S1 e c d j k n (ad .i64 (d - c)) w R),L0 e c d j k n w R:=mp (bL (X:=X) [aX,a1,a7,bq,cw,df,dH,e1,iy,hO,az] (ai [0,1,2]) P0)
def ok(e:J)(c d j:Int)(w:C)(R:aa)(h:L0 e c d j true true w R):ah V x4 #[e.v,.i c,.i d,.i j,.func (.func dR) #[] #[]] w R:=aM X [aX,a1,a7,bq,cw,df,dH,e1,iy,hO,az] h
end yO
namespace Ls
noncomputable abbrev X:Fx:=⟨V,Tryz.f174,[],[]⟩
def ok(c:J)(w:C)(R:aa)(h:en CF #[.u (ad .u64 ((c.n:Nat):Int))] w λt11 d=>e0 x4 #[c.v,.i 0,.i ((c.n:Nat):Int),.i t11,.func (.func dR) #[] #[]] d λe=>R (U (.tuple #[])) e):ah V CX #[c.v,.func (.func dR) #[] #[]] w R:=aM X [] h
end Ls
def g1(x:I):List I->List I
 |[]=>[x]
 |c::p=>if br x.rx c.rx<0 then c::g1 x p else x::c::p
def fG(l:List I):List I:=(l.foldl (λp c=>g1 c p) []).reverse
def BA(x:I):∀p,(g1 x p).length=p.length+1
 |[]=>rfl
 |c::p=>by
  unfold g1;split
  .simp [BA x p]
  .simp
def UB(l:List I)(x:I):fG (l++[x])=(g1 x (fG l).reverse).reverse:=by
 unfold fG
 grind
def Ip{x t:I}:∀{p:List I},t∈g1 x p↔t=x\/t∈p
 |[]=>by unfold g1;simp
 |c::p=>by
  unfold g1;split
  .rw [ay,Ip,ay]
   grind
  .simp
def Uz{t:I}{l:List I}:t∈fG l↔t∈l:=by
 have:∀(l p:List I),t∈l.foldl (λp d=>g1 d p) p↔t∈l\/t∈p:=by
  intro l;induction l with
  |nil=>grind
  |cons a l c=>
   intro p;rw[List.foldl_cons,c,Ip,ay]
   grind
 unfold fG
 grind
def LA(l:List I):(fG l).length=l.length:=by
 have:∀(l p:List I),(l.foldl (λp d=>g1 d p) p).length=l.length+p.length:=by
  intro l;induction l with
  |nil=>grind
  |cons a l c=>
   intro p;rw[List.foldl_cons,c,BA,List.length_cons];omega
 unfold fG
 grind
def Is(x:I):∀p:List I,(g1 x p).map I.rx=kO x.rx (p.map I.rx)
 |[]=>rfl
 |c::p=>by
  unfold g1;rw[kY];unfold kO;split
  .rw [kY,Is x p]
  .rfl
def UD(l:List I):(fG l).map I.rx=jW (l.map I.rx):=by
 have:∀(l p:List I),(l.foldl (λp c=>g1 c p) p).map I.rx=(l.map I.rx).foldl (λp c=>kO c p) (p.map I.rx):=by
  intro l;induction l with
  |nil=>grind
  |cons a l d=>
   intro p;rw[List.foldl_cons,d,Is];rfl
 unfold fG jW;rw[List.map_reverse,this];rfl
def Iq(x:I):∀p:List I,(g1 x p).Perm (x::p)
 |[]=>.refl _
 |c::p=>by
  unfold g1;split
  .exact ((Iq x p).cons c).trans (.swap x c p)
  .exact .refl _
def UA(l:List I):(fG l).Perm l:=by
 have:∀(l p:List I),(l.foldl (λp e=>g1 e p) p).Perm (l++p):=by
  intro l;induction l with
  |nil=>intro p;exact .refl _
  |cons a l d=>
   intro p;rw[List.foldl_cons];exact(d _).trans (((Iq a p).append_left l).trans List.perm_middle)
 unfold fG;have c:=this l [];rw[List.append_nil]at c;exact(List.reverse_perm _).trans c
def Uy(l:List I):mM ((fG l).map I.rx):=by rw[UD];exact El _
def Vb{l m:List I}(h:l.Perm m):I.bc l=I.bc m:=by
 induction h with
 |nil=>rfl
 |cons c _ e=>show c.sz+_=c.sz+_;rw[e]
 |swap c d l=>show d.sz+(c.sz+_)=c.sz+(d.sz+_);omega
 |trans _ _ j k=>omega
def U7{α:Type}(A c:List α)(y x:α)(j:Nat)(d:j=A.length+1):((A++y::x::c).set j y).set (j - 1) x=A++x::y::c:=by subst d;rw[List.set_append_right _ _ (by omega),Nat.add_sub_cancel,List.set_append_right _ _ (by omega)];simp
def OG(s:J)(l:List I)(w:C)(hl:I.bc l<=1000000)(ho:aG w aV 4 s (l.flatMap I.c))(pl:I.Ps w l)(hd:∀e∈aO s,e∉I.bm l)(A X j:List I)(u:l=A++X++j)(b:Nat)(hb:b=A.length+X.length):
  ah V CY #[s.v,.i (A.length:Int),.i (b:Int),.func (.func dR) #[] #[]] w λr B=>(r=U (.tuple #[])/\aG B aV 4 s ((A++fG X++j).flatMap I.c))/\Fr (·∈aO s) w B:=by
 have ll:=I.fI l;have lX:A.length+X.length+j.length=l.length:=by grind
 have L:Z (·∈aO s) w w [.row aV 4 s (l.flatMap I.c)] [.trees l]:=BR _ ho (by intro ai u;simp only[ay,aW,a3]at u;subst u;exact⟨pl,λe K hm=>hd e K (a4.1 hm)⟩)
 have kt:∀t∈l,t.sz<=1000000:=λt z=>bB (I.eG z) hl;have mA:∀t∈X,t∈l:=λt z=>by grind
 let F:aa:=λr B=>(r=U (.tuple #[])/\aG B aV 4 s ((A++fG X++j).flatMap I.c))/\Fr (·∈aO s) w B
 have outer:∀(d i:Nat) (D:C),A.length+i+d=b->Z (·∈aO s) w D [.row aV 4 s ((A++fG (X.take i)++(X.drop i++j)).flatMap I.c)] [.trees l]->
   k1.L0 s (A.length:Int) (b:Int) ((A.length+i:Nat):Int) D F:=by
  intro d;induction d with
  |zero=>
   intro i D hi M;refine k1.cf _ _ _ _ _ _ (bb (a2 (by omega)) ⟨⟨rfl,?_⟩,M.fr⟩);have:=M.get 0;rw[g6 (by omega),c9 (by omega),List.nil_append]at this;exact this
  |succ d al=>
   intro i D hi M;refine k1.cf _ _ _ _ _ _ (a8 (a0 (by omega)) ?_);have W:X[i]? =some (X[i]'(by omega)):=a9 (by omega);have ab:=dZ (l:=X) (i:=i) (by omega);generalize X[i]'(by omega)=e at W ab;have hS:fG (X.take (i+1))=(g1 e (fG (X.take i)).reverse).reverse:=by rw[eI,W,Option.toList_some,UB]
   have K:e∈l:=mA e (aE W);have next:∀(k:C),Z (·∈aO s) w k [.row aV 4 s ((A++fG (X.take (i+1))++(X.drop (i+1)++j)).flatMap I.c)] [.trees l]->k1.S2 s (A.length:Int) (b:Int) ((A.length+i:Nat):Int) k F:=by
    intro k q;show k1.L0 _ _ _ _ _ _;rw[bA _ (by omega)]
    grind
   have inner:∀(p:Nat) (P Q:List I) (k:C),P.length=p->(g1 e P.reverse).reverse++Q=fG (X.take (i+1))->(∀t∈P,t∈l)->Z (·∈aO s) w k [.row aV 4 s ((A++P++e::(Q++(X.drop (i+1)++j))).flatMap I.c)] [.trees l]->
     k1.L1 s (A.length:Int) (b:Int) ((A.length+i:Nat):Int) ((A.length+p:Nat):Int) k F:=by
    intro p;induction p with
    |zero=>
     intro P Q k hp x S q;have:P=[]:=List.length_eq_zero_iff.1 hp;subst this;refine k1.j3 _ _ _ _ _ _ _ (q.dr λE n=>bb (a2 (by omega)) (next E ?_));have ak:e::Q=fG (X.take (i+1)):=x
     grind
    |succ p ag=>
     intro P Q k hp x S q;obtain⟨h,y,rfl⟩:∃h y,P=h++[y]:=⟨P.dropLast,P.getLast (λaj=>by grind),(List.dropLast_concat_getLast _).symm⟩;have af:h.length=p:=by grind
     have hy:y∈l:=S y (by simp);have eA:A++(h++[y])++e::(Q++(X.drop (i+1)++j))=(A++h)++y::e::(Q++(X.drop (i+1)++j)):=by simp
     rw[eA]at q;have lA:(A++h).length=A.length+p:=by grind
     have gy:((A++h)++y::e::(Q++(X.drop (i+1)++j)))[A.length+p]? =some y:=by rw[<-lA,List.getElem?_append_right (b' _)];simp
     have O:((A++h)++y::e::(Q++(X.drop (i+1)++j)))[A.length+(p+1)]? =some e:=by rw[<-Nat.add_assoc,<-lA,List.getElem?_append_right (Nat.le_succ _)];simp
     have hlen:((A++h)++y::e::(Q++(X.drop (i+1)++j))).length<=1000000:=by have h1:=congrArg List.length x;rw[LA,List.length_append,List.length_reverse,BA,List.length_reverse]at h1;simp only[List.length_append,List.length_cons,g4,List.length_drop,List.length_nil]at h1 ⊢;omega
     have ae:=(dh.1 O).1;have G:ad .i64 (((A.length+(p+1):Nat):Int) - 1)=((A.length+p:Nat):Int):=by rw[Bx (by omega) (by omega)];rfl
     have H:g1 e (h++[y]).reverse=if br e.rx y.rx<0 then y::g1 e h.reverse else e::y::h.reverse:=by rw[List.reverse_append];rfl
     refine k1.j3 _ _ _ _ _ _ _ (q.dr λE n=>a8 (a0 (by omega)) ?_);refine n.el 0 (A.length+(p+1)) rfl O (n.el 0 (A.length+p) G gy ?_);refine n.call (FR e y E (kt e K) ((show I.Ps E l from n.getD 0).mem K) ((show I.Ps E l from n.getD 0).mem hy)) ?_;rintro _ w4 rfl Y;refine⟨_,rfl,aQ (λT=>Y.dr λw5 N=>?_) (λT=>next w4 ?_)⟩
     .refine N.el 0 (A.length+p) G gy (N.el 0 (A.length+(p+1)) rfl O (N.AV 0 (A.length+(p+1)) (t:=y) rfl ae λw6 H6=>?_));refine H6.AV 0 (A.length+p) (t:=e) (ts:=((A++h)++y::e::(Q++(X.drop (i+1)++j))).set (A.length+(p+1)) y) G (by grind) λw7 H7=>?_;rw[G];rw[aA T]at H;refine ag h (y::Q) w7 af ?_ (λt z=>S t (by grind)) ?_
      .rw [<-x,H];simp
      .have e3:=U7 (A++h) (Q++(X.drop (i+1)++j)) y e (A.length+(p+1)) (by omega)
       grind
     .rw [aq T]at H;rw[<-x,H];simpa using Y
   have ac:(fG (X.take i)).length=i:=by rw[LA,g4];omega
   refine inner i (fG (X.take i)) [] D ac ?_ (λt z=>mA t (List.mem_of_mem_take (Uz.1 z))) ?_
   .grind
   grind
 refine k1.ok _ _ _ w _ ?_;show k1.L0 _ _ _ _ _ F;rw[bA _ (by omega)];cases X with
 |nil=>
  refine k1.cf _ _ _ _ _ _ (bb (a2 (by grind)) ⟨⟨rfl,?_⟩,Fr.refl _ _⟩);have:=L.get 0;rw[u]at this;exact this
 |cons a X=>
  refine outer (b - (A.length+1)) 1 w (by grind) ?_;rw[show l.flatMap I.c=(A++fG ((a::X).take 1)++((a::X).drop 1++j)).flatMap I.c from by rw[u];simp[fG,g1]]at L;exact L
def Vn{t:ByteArray}{m:Nat}{K:UInt8->Prop}(h:Nat.beq t.size 256=true)(d:m<256)(c:∀b,K b):∃b:UInt8,t[m]? =some b/\K b:=by rw[ez]at h;exact⟨t[m]'(by omega),getElem?_pos t m (by omega),c _⟩
def Ob(x:Int)(w:C):ah V CF #[.u x] w λr c=>(∃t:Int,r=U (.i t))/\aj w c:=by
 have j:∀(x n:Int),mn.S2 x n w λr c=>(∃t:Int,r=U (.i t))/\aj w c:=by
  intro x n;have d:0<=ad .u8 x/\ad .u8 x<256:=by rw[IntKind.wrap_u8];omega
  obtain⟨m,q⟩:=Int.eq_ofNat_of_zero_le d.1;refine⟨d.1,?_⟩;have k:m<256:=by omega
  refine Vn (by kernel_rfl) (by rw[q];exact k) λb=>⟨⟨_,rfl⟩,Fr.refl _ _⟩
 have h:∀(x n:Int),mn.S1 x n w λr c=>(∃t:Int,r=U (.i t))/\aj w c:=λx n=>aQ (λ_=>j _ _) (λ_=>j _ _);have e:∀(x n:Int),mn.S0 x n w λr c=>(∃t:Int,r=U (.i t))/\aj w c:=λx n=>aQ (λ_=>h _ _) (λ_=>h _ _);refine Je.ok _ w _ ((mn.ok _ w _ (aQ (λ_=>e _ _) (λ_=>e _ _))).mono ?_);rintro _ y ⟨⟨t,rfl⟩,f⟩;exact⟨t,rfl,⟨t,rfl⟩,f⟩
def q6(n:Nat):Prop:=∀(s:J) (l:List I) (w:C),l.length<=n->I.bc l<=1000000->aG w aV 4 s (l.flatMap I.c)->I.Ps w l->(∀e∈aO s,e∉I.bm l)->
 ah V CX #[s.v,.func (.func dR) #[] #[]] w λr d=>(∃m:List I,r=U (.tuple #[])/\m.Perm l/\mM (m.map I.rx)/\aG d aV 4 s (m.flatMap I.c))/\Fr (·∈aO s) w d
def hN(p:I):List I->List I
 |[]=>[]
 |c::l=>if br c.rx p.rx==0 then hN c l else c::hN c l
def j':List I->List I
 |[]=>[]
 |a::l=>a::hN a l
def G4(l:List I)(i:Nat):(l.flatMap I.c).take (i *4)=(l.take i).flatMap I.c:=by
 have e:=I.ee (l.take i);by_cases d:i<=l.length
 .conv=>lhs;rw[<-DQ i l,ea]
  grind
 .rw [g6 (by rw[I.ee];omega),g6 (l:=l) (by omega)]
def Ha(l:List I)(i:Nat)(h:i<=l.length):(l.flatMap I.c).drop (i *4)=(l.drop i).flatMap I.c:=by
 have d:=I.ee (l.take i);rw[g4,Nat.min_eq_left h]at d;conv=>lhs;rw[<-DQ i l,ea]
 grind
def PK{w:C}{s:J}{l m:List I}(h:aG w aV 4 s (l.flatMap I.c))(i:Nat)(hi:i<=l.length)(B:l.take i=m){K:C->Prop}{R:aa}{w0:C}(A:Fr (·∈aO s) w0 w)(z:∀r j,ti s m r w0 j->Fr (·∈aO s) w0 j->R r j):
  (0:Int)<=(i:Int)/\(i:Int)<=((s.n:Nat):Int)/\∃(k:C),a' V (Builtin.clear_ #[cE] i1 #[.slice (if s.c=(ae (i:Int))then s.a else s.a.map (·.add ((ae (i:Int)) *4))) (s.n - (ae (i:Int))) (s.c - (ae (i:Int)))]) w=.ok (.tuple #[]) k/\
   (0:Int)<=(i:Int)/\(i:Int)<=((s.c:Nat):Int)/\R (U (.slice (if s.c=0 then s.a else s.a.map (·.add (0 *4))) ((ae (i:Int)) - 0) (s.c - 0))) k:=by
 have H:=I.cu h.bh;have G:=h.cap;obtain⟨E,u,x,y⟩:=G5 (ty:=i1) pH M1 rfl h i (by omega);refine⟨by omega,by omega,E,u,by omega,by omega,z _ _ ⟨⟨if s.c=0 then s.a else s.a.map (·.add (0 *4)),i - 0,s.c - 0⟩,rfl,?_,λF e=>?_⟩ (A.trans y λF _ q=>q)⟩
 .rw [<-B,<-G4];exact x
 .simp only[aO]at e ⊢;split at e
  .rename_i p d;split at d
   .grind
   .cases D:s.a with
    |none=>grind
    |some L=>
     rw[D]at d;simp only[Option.map_some,fb]at d;subst d;rw[iM]at e;exact e
  grind
section
variable {M:Nat->Prop} {w0 w:C} {L D:List En}
def _root_.Go.W.Z.AX(H:Z M w0 w L D)(i k b:Nat){s:J}{ts:List I}{t:I}{X:Int}{K:Int->Int->Int->J->Prop}(u:X=(k:Int))(x:ts[b+k]? =some t)(h:K t.k t.lo.toNat t.hi.toNat t.s)(hi:L[i]? =some (.row aV 4 s (ts.flatMap I.c)):=by rfl):
  (0:Int)<=X/\X<((s.n - b:Nat):Int)/\cd (if s.c=b then s.a else s.a.map (·.add (b *4))) λp=>∃a b d:Int,∃e:J,w.cell? ((p.add (ae X *4)).add 0)=some (.i a)/\w.cell? ((p.add (ae X *4)).add 1)=some (.int .u8 b)/\w.cell? ((p.add (ae X *4)).add 2)=some (.int .u8 d)/\w.cell? ((p.add (ae X *4)).add 3)=some e.v/\K a b d e:=by subst u;have j:aG w aV 4 s (ts.flatMap I.c):=H.get i hi;have z:=I.cu j.bh;have y:=(dh.1 x).1;have q:=j.bh.sub b s.n (by omega) (b' _);rw[g6 (by rw[I.ee];omega),Ha _ _ (by omega)]at q;refine⟨by omega,by omega,I.di (s:=mH 4 s b s.n) q (i:=k) (t:=t) (by grind) λp A d=>⟨_,_,_,_,d.c0,d.c1,d.c2,d.c3,h⟩⟩
end
def N6(s:J)(l:List I)(w:C)(hl:I.bc l<=1000000)(ho:aG w aV 4 s (l.flatMap I.c))(pl:I.Ps w l)(hd:∀x∈aO s,x∉I.bm l):
  ah V CT #[s.v,.func (.func kj) #[] #[]] w λr E=>ti s (j' l) r w E/\Fr (·∈aO s) w E:=by
 have nr:=I.cu ho.bh;have ll:=I.fI l;have kt:∀t∈l,t.sz<=1000000:=λt Y=>bB (I.eG Y) hl;have ac:Z (·∈aO s) w w [.row aV 4 s (l.flatMap I.c)] [.trees l]:=BR _ ho (by intro ag he;simp only[ay,aW,a3]at he;subst he;exact⟨pl,λx G O=>hd x G (a4.1 O)⟩)
 let P:aa:=λr E=>ti s (j' l) r w E/\Fr (·∈aO s) w E
 have ak:∀(d k b m:Nat) (cur:List I) (p:I) (z:C),b+m+d=l.length->1<=m->1<=b->k<b+m->cur.length=l.length->cur.drop (b+m - 1)=l.drop (b+m - 1)->l[b+m - 1]? =some p->cur.take k++hN p (l.drop (b+m))=j' l->
   Z (·∈aO s) w z [.row aV 4 s (cur.flatMap I.c)] [.trees l]->
   mF.L2 s (k:Int) ⟨(if s.c=b then s.a else s.a.map (·.add (b *4))),(s.n - b),(s.c - b)⟩ (m:Int) z P:=by
  intro d;induction d with
  |zero=>
   intro k b m cur p z hb O ae T hc N D e q;refine mF.tf _ _ _ _ _ _ (bb (a2 ?_) ?_)
   .grind
   rw[c9 (by omega)]at e;have W:cur.take k=j' l:=by rw[<-e];simp[hN]
   exact PK (K:=λ_=>True) (q.get 0) k (by omega) W q.fr λr E B F=>⟨B,F⟩
  |succ d ab=>
   intro k b m cur p z hb O ae T hc N D e q;have y:l[b+m]? =some (l[b+m]'(by omega)):=a9 (by omega);have u:=dZ (l:=l) (i:=b+m) (by omega);generalize l[b+m]'(by omega)=x at y u;have af:cur[b+m]? =some x:=by
    have:(cur.drop (b+m - 1))[1]? =(l.drop (b+m - 1))[1]?:=by rw[N]
    grind
   have ai:cur[b+(m - 1)]? =some p:=by
    have:(cur.drop (b+m - 1))[0]? =(l.drop (b+m - 1))[0]?:=by rw[N]
    rw[List.getElem?_drop,List.getElem?_drop,Nat.add_zero]at this
    grind
   have aj:cur.drop (b+m)=l.drop (b+m):=by
    have:(cur.drop (b+m - 1)).drop 1=(l.drop (b+m - 1)).drop 1:=by rw[N]
    rw[sv,sv,show b+m - 1+1=b+m by omega]at this;omega
   have L:=aE y;have mp:=aE D;have Q:ad .i64 ((m:Int) - 1)=((m - 1:Nat):Int):=Bx O (by omega);rw[u]at e;have S:hN p (x::l.drop (b+m+1))=if br x.rx p.rx==0 then hN x (l.drop (b+m+1))else x::hN x (l.drop (b+m+1)):=rfl;rw[S]at e;have next:∀(H:Nat) (A:List I) (j:C),H<b+(m+1)->A.length=l.length->A.drop (b+m)=l.drop (b+m)->A.take H++hN x (l.drop (b+m+1))=j' l->Z (·∈aO s) w j [.row aV 4 s (A.flatMap I.c)] [.trees l]->
     mF.S3 s (H:Int) ⟨(if s.c=b then s.a else s.a.map (·.add (b *4))),(s.n - b),(s.c - b)⟩ (m:Int) j P:=by intro H A j B F h3 h4 h;show mF.L2 _ _ _ _ _ _;rw[bA _ (by omega)];exact ab H b (m+1) A x j (by omega) (by omega) ae B F (by grind) (by grind) (by omega) h
   refine mF.tf _ _ _ _ _ _ (a8 (a0 ?_) (q.dr λj h=>?_))
   .show (m:Int)<((s.n - b:Nat):Int);omega
   refine h.AX 0 m b rfl af (h.AX 0 (m - 1) b Q ai ?_);refine h.call (tA x p j (kt x L) ((show I.Ps j l from h.getD 0).mem L) ((show I.Ps j l from h.getD 0).mem mp)) ?_;rintro _ w3 rfl M;refine⟨_,rfl,eJ (λhf=>?_) (λY=>?_)⟩
   .refine M.AX 0 m b rfl af (M.AV 0 k (t:=x) (ts:=cur) rfl (by omega) λw4 H4=>?_);rw[aq (by grind)]at e;rw[bA _ (by omega)];refine next (k+1) (cur.set k x) w4 (by omega) (by grind) ?_ ?_ H4
    .rw [List.drop_set_of_lt (by omega)];omega
    .rw [Me (by omega),List.append_assoc];exact e
   grind
 have loop:∀(d k:Nat) (p:I) (z:C),k+d=l.length->1<=k->l[k - 1]? =some p->l.take k++hN p (l.drop k)=j' l->Z (·∈aO s) w z [.row aV 4 s (l.flatMap I.c)] [.trees l]->
   mF.L0 s (k:Int) z P:=by
  intro d;induction d with
  |zero=>
   intro k p z T B D e q;refine mF.cf _ _ _ _ (bb (a2 (by omega)) ⟨⟨s,rfl,?_,λx G=>G⟩,q.fr⟩);rw[c9 (by omega),g6 (by omega)]at e;have W:l=j' l:=by rw[<-e];simp[hN]
   rw[<-W];exact q.get 0
  |succ d ab=>
   intro k p z T B D e q;have y:l[k]? =some (l[k]'(by omega)):=a9 (by omega);have u:=dZ (l:=l) (i:=k) (by omega);generalize l[k]'(by omega)=x at y u;have L:=aE y;have mp:=aE D;have Q:ad .i64 ((k:Int) - 1)=((k - 1:Nat):Int):=Bx B (by omega);rw[u]at e;have S:hN p (x::l.drop (k+1))=if br x.rx p.rx==0 then hN x (l.drop (k+1))else x::hN x (l.drop (k+1)):=rfl;rw[S]at e;refine mF.cf _ _ _ _ (a8 (a0 (by omega)) (q.dr λj h=>?_));refine h.el 0 k rfl y (h.el 0 (k - 1) Q D ?_);refine h.call (tA x p j (kt x L) ((show I.Ps j l from h.getD 0).mem L) ((show I.Ps j l from h.getD 0).mem mp)) ?_;rintro _ w3 rfl M;refine⟨_,rfl,cK (λY=>⟨by omega,by omega,?_⟩) (λhf=>?_)⟩
   .grind
   .rw [aq (by grind)]at e;rw[bA _ (by omega)];refine ab (k+1) x w3 (by omega) (by omega) (by grind) ?_ M
    grind
 refine mF.ok _ w _ (aQ (λF=>⟨⟨s,rfl,?_,λx G=>G⟩,ac.fr⟩) (λF=>?_))
 .have ag:j' l=l:=by
   cases l with
   |nil=>rfl
   |cons a l=>
    cases l with
    |nil=>rfl
    |cons b l=>grind
  grind
 .have y:l[0]? =some (l[0]'(by omega)):=a9 (by omega);have u:=dZ (l:=l) (i:=0) (by omega);generalize l[0]'(by omega)=x at y u;refine loop (l.length - 1) 1 x w (by omega) (by omega) y ?_ ac;rw[List.drop_zero]at u;rw[u];rfl
def gM(k:Int)(l:List Rx)(u:Rx):List Rx:=(l.flatMap λc=>if c.k=k then c.l else[c]).filter λt=>!(br t u==0)
def rK(k:Int)(u:Rx):List Rx->Rx
 |[]=>u
 |[a]=>a
 |l=>.mk k 0 0 l
def gB(k:Int)(l:List Rx)(u c:Rx):Rx:=if(gM k l u).any (λt=>br t c==0)then c else rK k u (if k=3 then gM k l u else pB (jW (gM k l u)))
def sg(k:Int)(l:List Rx):Nat:=(l.flatMap λc=>if c.k=k then c.l else[c]).length
def mg:Rx:=.mk 1 0 0 []
def eH:Rx:=.mk 6 0 0 [fx]
def kv(lo hi:UInt8)(l:List Rx):Rx:=match l with
 |[]=>fx
 |c::d=>if c.k=0\/c.k=1 then mg else if c.k=7\/br c eH=0 then c else .mk 7 lo hi (c::d)
def oB(lo hi:UInt8)(l:List Rx):Rx:=match l with
 |[]=>fx
 |c::e=>if c.k=6 then(match c.l with |[]=>fx|d::_=>d)else .mk 6 lo hi (c::e)
def hq:Rx->Rx
 |.mk c lo d l=>if c=3 then gB 3 l mg fx else if c=4 then gB 4 l fx eH else if c=5 then gB 5 l eH fx else if c=6 then oB lo d l else if c=7 then kv lo d l else .mk c lo d l
def jJ:Rx->Bool
 |.mk c _ _ l=>af (0<=c)&&af (c<8)&&(match l with
  |[]=>c !=6&&c !=7
  |d::_=>!(c==6&&d.k==6&&d.l.isEmpty))
def kr(t:I):t.rx.k=t.k:=by rw[I.e9];rfl
def vm(t:I):t.rx.l=t.l.map I.rx:=by rw[I.e9,<-I.fy];rfl
def ue(x u:I):(ga x u).map I.rx=gM x.k (I.au x.l) u.rx:=by
 unfold ga gM;rw[I.fy];generalize x.l=l;induction l with
 |nil=>rfl
 |cons a l d=>
  rw[kY,dT,dT,List.filter_append,List.filter_append,List.map_append,d];congr 1;have c:(eV x a).map I.rx=if a.rx.k=x.k then a.rx.l else[a.rx]:=by
   unfold eV;rw[kr,vm]
   grind
  rw[<-c,List.filter_map];rfl
def AN:∀(l:List I) (p:I),(hN p l).map I.rx=jG p.rx (l.map I.rx)
 |[],p=>rfl
 |c::l,p=>by
  unfold hN;rw[kY];unfold jG;split
  .exact AN l c
  .rw [kY,AN l c]
def PF(l:List I):(j' l).map I.rx=pB (l.map I.rx):=by
 cases l with
 |nil=>rfl
 |cons a l=>show a.rx::(hN a l).map I.rx=_;rw[AN];rfl
def AM{t:I}:∀{l:List I} {p:I},t∈hN p l->t∈l
 |[],p,c=>c
 |d::l,p,c=>by
  unfold hN at c;split at c
  .exact eb _ (AM c)
  .rcases ay.1 c with rfl|c
   .simp
   .exact eb _ (AM c)
def PD{t:I}{l:List I}(h:t∈j' l):t∈l:=by
 cases l with
 |nil=>exact h
 |cons a l=>
  rcases ay.1 h with rfl|h
  .simp
  .exact eb _ (AM h)
def NH(l:List I)(c:I):l.any (λt=>br t.rx c.rx==0)=(l.map I.rx).any λt=>br t c.rx==0:=by grind
def fX(c:List Nat)(w:C)(x:Rx)(r:cQ)(w':C):Prop:=∃t:I,r=U t.v/\t.rx=x/\t.P w'/\∀b∈t.fp,w.heap.size<=b\/b∈c
def OJ{N:Nat}(hS:q6 N)(hN:N<=1000000)(x u d:I)(B q:Nat)(w:C)(h:x.k≠3->sg x.k (I.au x.l)<=N)(hx:x.sz<=1000000)(px:x.P w)(pu:u.P w)(pz:d.P w)(hu:w.heap[B]? =some (.cells u.c.toArray aV (0,0)))(hz:w.heap[q]? =some (.cells d.c.toArray aV (0,0))):
  ah V uO #[x.v,.pointer (some (ag B)),.pointer (some (ag q))] w λr w'=>fX (x.fp++(u.fp++d.fp)) w (gB x.k (I.au x.l) u.rx d.rx) r w'/\aj w w':=by
 have H0:Z F0 w w [] [.tree x,.tree u,.tree d,dW B u,dW q d]:=bN _ (by
  intro ac E;simp only[ay,aW,a3]at E;rcases E with rfl|rfl|rfl|rfl|rfl
  .exact px
  .exact pu
  .exact pz
  .exact hu
  .exact hz)
 have W:=Sub.ga x u;have am:=Va x u;have al:=I.fI (ga x u);have kt:∀t∈ga x u,t.sz<=1000000:=λt y=>by have:=I.eG y;omega
 have an:(ga x u).length<=sg x.k (I.au x.l):=by have Q:=congrArg List.length (ue x u);rw[List.length_map]at Q;rw[Q];exact List.length_filter_le ..
 refine DW.aB _ _ _ _ _ _ w _ (H0.aN λH w1 H1=>H1.aN λK w2 D=>⟨_,_,_,u.s,D.fh 3 0,D.fh 3 1,D.fh 3 2,D.fh 3 3,D.jF (OC x u w2 hx (D.getD 0) (D.getD 1)) ?_⟩);rintro _ w3 ⟨z,rfl,o1,n1⟩ H3 F3;have G:=F3.own (.row aV 4 z ((ga x u).flatMap I.c)) o1 n1;have aa:∀w':C,x.P w'->I.Ps w' (ga x u):=λw' h=>W.Ps h;refine⟨z,rfl,G.ax (N8 z (ga x u) ⟨xT,#[],#[.pointer (some (ag q))]⟩ (λt=>br t.rx d.rx==0) [.tree x,.tree d,dW q d] w3 (by omega) (G.get 2:aG _ _ _ _ _).bh (by
  intro ac E;simp only[ay,aW,a3]at E;rcases E with rfl|rfl|rfl
  .exact G.getD 0
  .exact G.getD 2
  .exact G.getD 4) (by kernel_rfl) (λw' t y F=>OF t d q w' (kt t y) ((aa w' (F.getD 1)).mem y) (F.getD 2) (F.getD 3))) ?_⟩
 rintro _ w4 rfl n;have ea:(ga x u).any (λt=>br t.rx d.rx==0)=(gM x.k (I.au x.l) u.rx).any λt=>br t d.rx==0:=by rw[NH,ue]
 refine⟨_,rfl,cK (λy=>⟨_,_,_,d.s,n.fh 4 0,n.fh 4 1,n.fh 4 2,n.fh 4 3,n.ak λw8 j=>⟨⟨d,rfl,?_,j.getD 2,λb e=>.inr (by grind)⟩,j.fr⟩⟩) (λhf=>?_)⟩
 .have ao:=ea▸y;unfold gB
  grind
 have ai:=ea▸hf;have fin:∀(Y:J) (ks:List I) (w':C),(∀t∈ks,t∈ga x u)->ks.map I.rx=(if x.k=3 then gM x.k (I.au x.l) u.rx else pB (jW (gM x.k (I.au x.l) u.rx)))->Z F0 w w' [.g H,.g K,.row aV 4 Y (ks.flatMap I.c)] [.tree x,.tree u,.tree d,dW B u,dW q d]->
   DW.aS (ag B) H x.k x.lo.toNat x.hi.toNat x.s K 0 0 0 ⟨none,0,0⟩ Y w' λr w'=>fX (x.fp++(u.fp++d.fp)) w (gB x.k (I.au x.l) u.rx d.rx) r w'/\aj w w':=by
  intro Y ks w' L E A;have S:Sub x ks:=W.sub L;have nr:=I.cu (A.get 2:aG _ _ _ _ _).bh;have ej:gB x.k (I.au x.l) u.rx d.rx=rK x.k u.rx (ks.map I.rx):=by
   unfold gB
   grind
  refine aJ (λh0=>⟨_,_,_,u.s,A.fh 3 0,A.fh 3 1,A.fh 3 2,A.fh 3 3,A.ak λw8 j=>⟨⟨u,rfl,?_,j.getD 1,λb e=>.inr (by grind)⟩,j.fr⟩⟩) (λh0=>aJ (λQ=>?_) (λQ=>A.ak λw8 j=>⟨⟨.mk x.k 0 0 Y ks,rfl,?_,?_,λb e=>?_⟩,j.fr⟩))
  .have:ks=[]:=List.length_eq_zero_iff.1 (by omega);rw[ej,this];rfl
  .obtain ⟨a,rfl⟩:=List.length_eq_one_iff.1 (show ks.length=1 by omega);refine A.el 2 0 rfl (t:=a) rfl (A.ak λw8 j=>⟨⟨a,rfl,?_,S.P _ (j.getD 0) a (by simp),λb e=>.inr (by simp[S.fp a (by simp) b e])⟩,j.fr⟩);rw[ej];rfl
  .rw [ej];unfold I.rx;rw[I.fy];cases ks with
   |nil=>grind
   |cons a ks=>
    cases ks with
    |nil=>grind
    |cons b ks=>rfl
  .unfold I.P;exact⟨(j.get 2:aG _ _ _ _ _).bh,S.Ps (j.getD 0)⟩
  .unfold I.fp at e;rcases a6.1 e with e|e
   .exact .inl ((j.new _ (aE (i:=2) rfl) b (gi e)).resolve_right id)
   .exact .inr (by simp[S.bm e])
 have eo:∀w':C,Z F0 w w' [.g H,.g K,.row aV 4 z ((ga x u).flatMap I.c)] [.tree x,.tree u,.tree d,dW B u,dW q d]->∀M∈aO z,M∉I.bm (ga x u):=λw' F M hy hm=>F.off 2 0 rfl rfl M hy (a4.2 (W.bm hm));refine cD (λL=>?_) (λL=>fin z (ga x u) w4 (λ_ h=>h) (by rw[aA L,ue]) n);refine n.Au 2 rfl (hS z (ga x u) w4 (by omega) (by omega) (n.get 2) (aa w4 (n.getD 0)) (eo w4 n)) ?_;rintro _ w5 ⟨m,rfl,T,ae,o5⟩ hH;have O:Z F0 w w5 [.g H,.g K,.row aV 4 z (m.flatMap I.c)] [.tree x,.tree u,.tree d,dW B u,dW q d]:=hH (.row aV 4 z (m.flatMap I.c)) o5 λb e=>.inl e;have ab:Sub x m:=W.sub λt y=>T.mem_iff.1 y;refine⟨rfl,O.Au 2 rfl (N6 z m w5 (by rw[Vb T];omega) (O.get 2) (ab.Ps (O.getD 0)) (λM hy hm=>O.off 2 0 rfl rfl M hy (a4.2 (ab.bm hm)))) ?_⟩;rintro _ w6 ⟨s2,rfl,o6,n6⟩ ad;have H7:Z F0 w w6 [.g H,.g K,.row aV 4 s2 ((j' m).flatMap I.c)] [.tree x,.tree u,.tree d,dW B u,dW q d]:=ad (.row aV 4 s2 ((j' m).flatMap I.c)) o6 λb e=>.inl (n6 b e);have af:m.map I.rx=jW ((ga x u).map I.rx):=UC ae (T.map _);exact⟨s2,rfl,fin s2 (j' m) w6 (λt y=>T.mem_iff.1 (PD y)) (by rw[aq L,PF,af,ue]) H7⟩
def iV{w:C}{x t:I}(j:x.P w){k:Nat}{X:Int}{K:Int->Int->Int->J->Prop}(n:X=(k:Int))(e:x.l[k]? =some t)(h:K t.k t.lo.toNat t.hi.toNat t.s):
  aw x.s X λp=>∃a b c:Int,∃d:J,w.cell? ((p.add (ae X *4)).add 0)=some (.i a)/\w.cell? ((p.add (ae X *4)).add 1)=some (.int .u8 b)/\w.cell? ((p.add (ae X *4)).add 2)=some (.int .u8 c)/\w.cell? ((p.add (ae X *4)).add 3)=some d.v/\K a b c d:=by subst n;have u:=I.cu j.parts.1;have q:=(dh.1 e).1;exact⟨by omega,by omega,I.di j.parts.1 e λp y c=>⟨_,_,_,_,c.c0,c.c1,c.c2,c.c3,h⟩⟩
def OO(x:I)(w:C)(L:x.P w)(B:x.k=6)(d:jJ x.rx=true):ah V r2 #[x.v] w λr M=>fX x.fp w (oB x.lo x.hi (I.au x.l)) r M/\aj w M:=by
 have nr:=I.cu L.parts.1;rw[I.e9]at d;cases D:x.l with
 |nil=>rw[D,B]at d;simp[jJ,I.au]at d
 |cons c K=>
  have z:x.l[0]? =some c:=by grind
  have E:c∈x.l:=aE z;have h:I.au (c::K)=c.rx::I.au K:=rfl;refine KC.aB _ _ _ _ w _ ((gE L).aN λW w1 N=>N.aN λY S q=>?_);have F:x.P S:=q.getD 0;have n2:0<x.s.n:=by grind
  refine⟨by omega,by omega,I.di F.parts.1 z λp Q u=>⟨c.k,u.c0,aJ (λj=>?_) (λj=>q.ak λaa G=>⟨⟨x,rfl,?_,G.getD 0,λb y=>.inr y⟩,G.fr⟩)⟩⟩
  .refine ⟨by omega,by omega,I.di F.parts.1 z λp Q u=>⟨c.s,u.c3,?_⟩⟩;cases J:c.l with
   |nil=>
    rw[D,h]at d;have O:c.rx.l.isEmpty=true:=by rw[vm,J];rfl
    simp[jJ,B,kr,j,O]at d
   |cons e Z=>
    have A:c.l[0]? =some e:=by grind
    refine iV (F.parts.2.mem E) rfl A (q.ak λT H=>⟨⟨e,rfl,?_,((show x.P T from H.getD 0).parts.2.mem E).parts.2.mem (aE A),λb y=>.inr (I.gb.2 (.inr (I.bX.2 ⟨c,E,I.gb.2 (.inr (I.bX.2 ⟨e,aE A,y⟩))⟩)))⟩,H.fr⟩);rw[h];show e.rx=if c.rx.k=6 then _ else _;rw[aA (by rw[kr,j]),vm,J];rfl
  .rw [h];show x.rx=if c.rx.k=6 then _ else _;rw[aq (by rw[kr];exact j),I.e9,B,D,h]
def OZ(x m v:I)(q y:Nat)(w:C)(hx:x.sz<=1000000)(px:x.P w)(pm:m.P w)(pv:v.P w)(hm:w.heap[q]? =some (.cells m.c.toArray aV (0,0)))(hv:w.heap[y]? =some (.cells v.c.toArray aV (0,0)))(em:m.rx=mg)(ev:v.rx=eH)(W:x.k=7)(H:jJ x.rx=true):
  ah V r3 #[x.v,.pointer (some (ag q)),.pointer (some (ag y))] w λr e=>fX (x.fp++(m.fp++v.fp)) w (kv x.lo x.hi (I.au x.l)) r e/\aj w e:=by
 have nr:=I.cu px.parts.1;rw[I.e9]at H;cases Y:x.l with
 |nil=>rw[Y,W]at H;simp[jJ,I.au]at H
 |cons c E=>
  have T:x.l[0]? =some c:=by grind
  have F:c∈x.l:=aE T;have B:I.au (c::E)=c.rx::I.au E:=rfl;have H0:Z F0 w w [] [.tree x,.tree m,.tree v,dW q m,dW y v]:=bN _ (by
   intro ac S;simp only[ay,aW,a3]at S;rcases S with rfl|rfl|rfl|rfl|rfl
   .exact px
   .exact pm
   .exact pv
   .exact hm
   .exact hv)
  refine yC.aB _ _ _ _ _ _ w _ (H0.aN λM w1 H1=>H1.aN λA w2 J=>?_);have n2:0<x.s.n:=by grind
  have sc:c.sz<=1000000:=by have:=I.eG F;have:=I.h2 x;omega
  have fc:∀b∈c.fp,b∈x.fp:=λb D=>I.gb.2 (.inr (I.bX.2 ⟨c,F,D⟩));refine iV (show x.P w2 from J.getD 0) rfl T (J.aN λG w3 z=>?_);have ab:c.k=0\/c.k=1->∀e:C,Z F0 w e [.g M,.g A,.g G] [.tree x,.tree m,.tree v,dW q m,dW y v]->yC.aS (ag q) A 0 0 0 ⟨none,0,0⟩ e λr e=>fX (x.fp++(m.fp++v.fp)) w (kv x.lo x.hi (I.au (c::E))) r e/\aj w e:=λu e j=>
   ⟨_,_,_,m.s,j.fh 3 0,j.fh 3 1,j.fh 3 2,j.fh 3 3,j.ak λh d=>⟨⟨m,rfl,by
    rw[em,B];show _=if c.rx.k=0\/c.rx.k=1 then _ else _;rw[kr,aA u],d.getD 1,λb D=>.inr (by grind)⟩,d.fr⟩⟩
  have aa:¬(c.k=0\/c.k=1)->(c.k=7\/br c.rx eH=0)->∀e:C,Z F0 w e [.g M,.g A,.g G] [.tree x,.tree m,.tree v,dW q m,dW y v]->yC.aZ A 0 0 0 ⟨none,0,0⟩ G c.k c.lo.toNat c.hi.toNat c.s e λr e=>fX (x.fp++(m.fp++v.fp)) w (kv x.lo x.hi (I.au (c::E))) r e/\aj w e:=λhn u e j=>
   j.ak λh d=>⟨⟨c,rfl,by
    rw[B];show _=if c.rx.k=0\/c.rx.k=1 then _ else if c.rx.k=7\/br c.rx eH=0 then _ else _;rw[kr,aq hn,aA u],(show x.P h from d.getD 0).parts.2.mem F,λb D=>.inr (by grind)⟩,d.fr⟩
  refine aJ (λN=>z.ak λh d=>ab (.inl N) h d) (λN=>aJ (λO=>z.ak λh d=>ab (.inr O) h d) (λO=>aJ (λQ=>z.ak λh d=>aa (by omega) (.inl Q) h d) (λQ=>z.ak λh d=>⟨_,_,_,v.s,d.fh 4 0,d.fh 4 1,d.fh 4 2,d.fh 4 3,?_⟩)));refine d.ax (tA c v h sc ((show x.P h from d.getD 0).parts.2.mem F) (d.getD 2)) ?_;rintro _ w5 rfl K;rw[ev];refine⟨_,rfl,aJ (λu=>aa (by omega) (.inr u) w5 K) (λu=>K.ak λw6 L=>⟨⟨x,rfl,?_,L.getD 0,λb D=>.inr (by grind)⟩,L.fr⟩)⟩;rw[B];show x.rx=if c.rx.k=0\/c.rx.k=1 then _ else if c.rx.k=7\/br c.rx eH=0 then _ else _;rw[kr,aq (by omega),aq (by omega),I.e9,W,Y,B]
structure Fm where
 m:Nat
 es:Array MapEntry
 clock:Nat
 ms:List (Int×ab)
 cs:List (Nat×I)
 s:J
def ch:I:=.mk 0 0 0 ⟨none,0,0⟩ []
def ft:I:=.mk 1 0 0 ⟨none,0,0⟩ []
def Fm.ev(F:Fm):I:=.mk 6 0 0 F.s [ch]
def _root_.Go.W.En.fm(F:Fm):En:=.all (.ob F.m (.map F.es F.clock)::.tree F.ev::F.cs.map λp=>dW p.1 p.2)
def rU(a b:Nat):ab:=.func (.func uO) #[] #[.pointer (some (ag a)),.pointer (some (ag b))]
def ij:ab:=.func (.func uN) #[] #[]
def q0(cs:List (Nat×I))(e:I)(k:Int)(v:ab):Prop:=
 ((k=0\/k=1\/k=2)/\v=ij)\/(∃c d a b,((k=3/\c=ft/\d=ch)\/(k=4/\c=ch/\d=e)\/(k=5/\c=e/\d=ch))/\v=rU a b/\(a,c)∈cs/\(b,d)∈cs)\/
 (k=6/\v=.func (.func r2) #[] #[])\/∃a b,k=7/\v=.func (.func r3) #[] #[.pointer (some (ag a)),.pointer (some (ag b))]/\(a,ft)∈cs/\(b,e)∈cs
structure Fm.Ok(F:Fm):Prop where
 ms:q3 .i64 F.es F.ms
 all:∀k:Int,0<=k->k<8->∃v,kh F.ms k=some v/\q0 F.cs F.ev k v
section
variable {F:Fm} {w:C}
def Qt(h:(En.fm F).P w):w.heap[F.m]? =some (.map F.es F.clock):=h (.ob F.m (.map F.es F.clock)) (by simp)
def Bi(h:(En.fm F).P w):F.ev.P w:=h (.tree F.ev) (by simp)
def wU(h:(En.fm F).P w){a:Nat}{u:I}(d:(a,u)∈F.cs):w.heap[a]? =some (.cells u.c.toArray aV (0,0)):=h (dW a u) (eb _ (eb _ (dv.2 ⟨(a,u),d,rfl⟩)))
def Bj{b:Nat}(h:b∈F.ev.fp):b∈(En.fm F).fp:=a4.2 (cj.2 ⟨.tree F.ev,by simp,a4.2 h⟩)
def jQ(w:C):ch.P w:=JA w
def wI(w:C):ft.P w:=by unfold ft I.P I.Ps;exact⟨bF.nil 4 w,trivial⟩
def jR{b:Nat}(h:b∈ch.fp):False:=Jz h
def wJ{b:Nat}(h:b∈ft.fp):False:=by unfold ft I.fp I.bm at h;simp[En.bh]at h
def fX.sub{c d:List Nat}{x:Rx}{r:cQ}{w':C}(h:fX c w x r w')(u:∀b∈c,b∈d):fX d w x r w':=by obtain⟨t,e,j,k,n⟩:=h;exact⟨t,e,j,k,λb q=>(n b q).imp id (u b)⟩
def Jh:zO V i2 bp lV .i64 .nilFunc:=⟨by kernel_rfl,by kernel_rfl,by kernel_rfl⟩
end
def R4{P:aR}{T A q:aF}{kd:IntKind}{n:ab}(d:zO P T A q kd n){w:C}{e:Nat}{es:Array MapEntry}{clock:Nat}{ms:List (Int×ab)}(y:w.heap[e]? =some (.map es clock))(z:q3 kd es ms)(k:Int):(Instr.lookup T (.map (some e)) (.int kd k) false).run P w=.ok ((kh ms k).getD n) w:=by
 have u:=Bf (k:=k) (i:=0) z;have x:(getObj e).run P w=.ok (.map es clock) w:=by simp[getObj,a',y]
 have c:=Jf (ms:=ms) (k:=k) (i:=0);unfold Instr.lookup Instr.findKey;simp only[Sem.run_bind,run_underlying d.hT,Result.andThen_ok,x,Sem.run_pure,GI d.hk,run_underlying d.hk,u];cases h:((ms.findIdx? λp=>p.1==k).bind λj=>(ms[j]?).map λp=>(0+j,p.2))with
 |none=>rw[h]at c;simp[<-c,M2 d.hz]
 |some B=>rw[h]at c;simp[<-c]
def Ox{N:Nat}(Y:q6 N)(W:N<=1000000){F:Fm}(M:F.Ok){w:C}(h:(En.fm F).P w)(k:Int)(S:0<=k)(T:k<8):
  ∃f:Fv,(Instr.lookup i2 (.map (some F.m)) (.i k) false).run V w=.ok f.v w/\gx V f.n=true/\∀(x:I) (w':C),(En.fm F).P w'->x.P w'->x.k=k->(x.k=4\/x.k=5->sg x.k (I.au x.l)<=N)->x.sz<=1000000->jJ x.rx=true->
   ah V f.n (f.bs++#[x.v]++f.cs) w' λr O=>fX (x.fp++(En.fm F).fp) w' (hq x.rx) r O/\aj w' O:=by
 have mo:=Jh;obtain⟨v,hv,Z⟩:=M.all k S T;have u:=R4 mo (Qt h) M.ms k;rw[hv,Option.getD_some]at u;have E:∀x:I,hq x.rx=if x.k=3 then gB 3 (I.au x.l) mg fx else if x.k=4 then gB 4 (I.au x.l) fx eH else if x.k=5 then gB 5 (I.au x.l) eH fx else if x.k=6 then oB x.lo x.hi (I.au x.l)else if x.k=7 then kv x.lo x.hi (I.au x.l)else x.rx:=λx=>by rw[I.e9];rfl
 rcases Z with⟨q,rfl⟩|⟨H,K,a,b,q,rfl,G,B⟩|⟨rfl,rfl⟩|⟨a,b,rfl,rfl,G,B⟩
 .refine ⟨⟨uN,#[],#[]⟩,u,by kernel_rfl,λx w' e j d D z A=>((OE x w' j).mono ?_)⟩;rintro _ J ⟨rfl,f⟩;refine⟨⟨x,rfl,?_,j.ct f,λb B=>.inr (by grind)⟩,f⟩
  grind
 .refine ⟨⟨uO,#[],#[.pointer (some (ag a)),.pointer (some (ag b))]⟩,u,by kernel_rfl,λx w' e j d D z A=>?_⟩;have pu:H.P w':=by
   rcases q with⟨_,rfl,_⟩|⟨_,rfl,_⟩|⟨_,rfl,_⟩
   .exact wI w'
   .exact jQ w'
   .exact Bi e
  have pz:K.P w':=by
   rcases q with⟨_,_,rfl⟩|⟨_,_,rfl⟩|⟨_,_,rfl⟩
   .exact jQ w'
   .exact Bi e
   .exact jQ w'
  refine(OJ Y W x H K a b w' (λh3=>D (by omega)) z j pu pz (wU e G) (wU e B)).mono ?_;rintro r J ⟨y,f⟩;refine⟨?_,f⟩;have Q:hq x.rx=gB x.k (I.au x.l) H.rx K.rx:=by
   rw[E];rcases q with⟨rfl,rfl,rfl⟩|⟨rfl,rfl,rfl⟩|⟨rfl,rfl,rfl⟩
   .rw [aA d,d];rfl
   .rw [aq (by omega),aA d,d];rfl
   .rw [aq (by omega),aq (by omega),aA d,d];rfl
  rw[Q];refine y.sub λL c=>?_;rcases a6.1 c with c|c
  .grind
  .rcases a6.1 c with c|c
   .rcases q with⟨_,rfl,_⟩|⟨_,rfl,_⟩|⟨_,rfl,_⟩
    .exact (wJ c).elim
    .exact (jR c).elim
    .exact ef _ (Bj c)
   .rcases q with⟨_,_,rfl⟩|⟨_,_,rfl⟩|⟨_,_,rfl⟩
    .exact (jR c).elim
    .exact ef _ (Bj c)
    .exact (jR c).elim
 .refine ⟨⟨r2,#[],#[]⟩,u,by kernel_rfl,λx w' e j d D z A=>((OO x w' j d A).mono ?_)⟩;rintro r J ⟨y,f⟩;refine⟨?_,f⟩;rw[E,aq (by omega),aq (by omega),aq (by omega),aA d];exact y.sub λL c=>by grind
 .refine ⟨⟨r3,#[],#[.pointer (some (ag a)),.pointer (some (ag b))]⟩,u,by kernel_rfl,λx w' e j d D z A=>((OZ x ft F.ev a b w' z j (wI w') (Bi e) (wU e G) (wU e B) rfl rfl d A).mono ?_)⟩;rintro r J ⟨y,f⟩;refine⟨?_,f⟩;rw[E,aq (by omega),aq (by omega),aq (by omega),aq (by omega),aA d];refine y.sub λL c=>?_;rcases a6.1 c with c|c
  .grind
  .rcases a6.1 c with c|c
   .exact (wJ c).elim
   .exact ef _ (Bj c)
namespace Ky
noncomputable def C0:Code:=(Tryz.f150.body).getD .skip
noncomputable def C1:=C0.sn
noncomputable def C2:=C1.sn
noncomputable def C3:=C2.sn
noncomputable def C4:=C3.sn
noncomputable def C5:=C4.sn
noncomputable def C6:=C5.sn
def ok(w:C)(R:aa)(h:aK w (.cells #[.i 0,.int .u8 0,.int .u8 0,.slice none 0 0] aV) λe=>
 aK e (.cells #[.i 0,.int .u8 0,.int .u8 0,.slice none 0 0] aV) λB=>
 g8 B (nb w) (.i 0) (.int .u8 0) (.int .u8 0) (.slice none 0 0) λD=>ao D (nb e) (.i 1) λF=>
 ao F ((nb e).add 1) (.int .u8 0) λG=>
 ao G ((nb e).add 2) (.int .u8 0) λH=>
 ao H ((nb e).add 3) (.slice none 0 0) λj=>
 bH j (nb w) λn q u x=>aK j (.cells #[.i n,.int .u8 q,.int .u8 u,x.v] aV) λk=>
 aK k (.cells #[.i 0,.int .u8 0,.int .u8 0,.slice none 0 0] aV) λz=>
 g8 z (nb k) (.i 6) (.int .u8 0) (.int .u8 0) (.slice (some (nb j)) 1 1) λA=>vq V C5 (λE w=>kq V Tryz.f150 E w (λv=>R (U v) w)) [(5,.func (.func xS) #[] #[]),(4,.func (.func uN) #[] #[]),(3,.pointer (some (nb k))),(10,.agg #[.i 6,.int .u8 0,.int .u8 0,.slice (some (nb j)) 1 1]),(9,.slice (some (nb j)) 1 1),(8,.agg #[.i n,.int .u8 q,.int .u8 u,x.v]),(2,.pointer (some (nb e))),(1,.pointer (some (nb w))),(7,.agg #[.i 1,.int .u8 0,.int .u8 0,.slice none 0 0]),(6,.agg #[.i 0,.int .u8 0,.int .u8 0,.slice none 0 0]),(0,.map none)] A):ah V CO #[] w R:=
 tD (R:=R) (fn:=Tryz.f150) (c:=C0) (args:=[]) (by kernel_rfl) (by kernel_rfl) (by kernel_rfl) (sr C0 (show(λ(E:Env) (w:C)=>dJ V C0 (λE w=>dJ V C1 (λE w=>dJ V C2 (λE w=>dJ V C3 (λE w=>dJ V C4 (λE w=>vq V C5 (λE w=>kq V Tryz.f150 E w (λv=>R (U v) w)) E w) E w) E w) E w) E w) E w) (ke 0 []) w from mp h) λ_ _ d=>(sr C1 d λ_ _ d=>(sr C2 d λ_ _ d=>(sr C3 d λ_ _ d=>(sr C4 d λ_ _ d=>(si C5 (by kernel_rfl) d λ_ _ d=>(rt C6 λa y=>vh y d)))))))
end Ky
def Nh{M:Nat->Prop}{w0 w:C}{L e D:List En}(H:Z M w0 w L D)(h:L.Perm e):Z M w0 w e D:=
 ⟨H.fr,λc d=>H.own c (h.mem_iff.2 d),H.rd,λc d=>H.new c (h.mem_iff.2 d),(h.flatMap_right (·.fp)).nodup_iff.1 H.nd,λc d b k j n=>H.dj c d b k j (h.mem_iff.2 n)⟩
def eK{L:Nat->Bool}{i j:Nat}(h:j≠i):dn L i j=L j:=by
 have:Nat.beq j i=false:=by rw[<-i4,ez];exact h
 grind
def yI{L:Nat->Bool}{i:Nat}:dn L i i=true:=by simp[dn]
def TZ{P:aR}{fn:Func}{E:Env}{w:C}{K:ab->Prop}{t:Nat}{v:ab}(c:fn.results.toList=[.tmp t])(d:E.get? t=some v)(h:K v):kq P fn E w K:=by unfold kq;rw[c];unfold qv;rw[d];exact h
def wS:List (Op×Option Nat×aF×List Nat):=[
 (.makeMap i2 none,some 11,i2,[]),
 (.move (.tmp 4),some 12,lV,[]),
 (.insert i2 (.tmp 11) (.const (.int .i64 0)) (.tmp 12),none,i1,[0,1]),
 (.move (.tmp 4),some 13,lV,[]),
 (.insert i2 (.tmp 11) (.const (.int .i64 1)) (.tmp 13),none,i1,[0,3]),
 (.move (.tmp 4),some 14,lV,[]),
 (.insert i2 (.tmp 11) (.const (.int .i64 2)) (.tmp 14),none,i1,[0,5]),
 (.move (.tmp 5),some 15,EL,[]),
 (.load aV (.tmp 2),some 16,aV,[]),
 (.load aV (.tmp 1),some 17,aV,[]),
 (.call ⟨.value (.tmp 15),#[.tmp 16,.tmp 17],#[aV,aV]⟩,some 18,lV,[7,8,9]),
 (.insert i2 (.tmp 11) (.const (.int .i64 3)) (.tmp 18),none,i1,[0,10]),
 (.move (.tmp 5),some 19,EL,[]),
 (.load aV (.tmp 1),some 20,aV,[]),
 (.load aV (.tmp 3),some 21,aV,[]),
 (.call ⟨.value (.tmp 19),#[.tmp 20,.tmp 21],#[aV,aV]⟩,some 22,lV,[12,13,14,10]),
 (.insert i2 (.tmp 11) (.const (.int .i64 4)) (.tmp 22),none,i1,[0,15]),
 (.move (.tmp 5),some 23,EL,[]),
 (.load aV (.tmp 3),some 24,aV,[]),
 (.load aV (.tmp 1),some 25,aV,[]),
 (.call ⟨.value (.tmp 23),#[.tmp 24,.tmp 25],#[aV,aV]⟩,some 26,lV,[17,18,19,15]),
 (.insert i2 (.tmp 11) (.const (.int .i64 5)) (.tmp 26),none,i1,[0,20]),
 (.insert i2 (.tmp 11) (.const (.int .i64 6)) (.func r2),none,i1,[0]),
 (.makeFunc (.func r3) #[] #[.tmp 2,.tmp 3],some 27,lV,[]),
 (.insert i2 (.tmp 11) (.const (.int .i64 7)) (.tmp 27),none,i1,[0,23]),
 (.move (.tmp 11),some 28,i2,[0,1,2,3,4,5,6,7,8,9,10,11,12,13,14,15,16,17,18,19,20,21,22,23,24]),
 (.assign (.tmp 28),some 0,i2,[25,20,0,1,2,3,4,5,6,7,8,9,10,11,12,13,14,15,16,17,18,19,20,21,22,23,24,25])]
abbrev ptr(b:Nat):ab:=.pointer (some (ag b))
abbrev jZ:ab:=.func (.func xS) #[] #[]
abbrev yV(a b:Nat):ab:=.func (.func r3) #[] #[ptr a,ptr b]
abbrev fg(s:J):I:=.mk 6 0 0 s [ch]
def cc(h c d:Nat)(e:I):List (Nat×Nat×ab):=[(0,1,ptr h),(0,2,ptr c),(0,3,ptr d),(0,4,ij),(0,5,jZ),(2,12,ij),(4,13,ij),(6,14,ij),(8,15,jZ),(9,16,ft.v),(10,17,ch.v),(13,19,jZ),(14,20,ch.v),(15,21,e.v),(18,23,jZ),(19,24,e.v),(20,25,ch.v),(24,27,yV c d)]
def eD:List (Nat×Int):=[(2,0),(4,1),(6,2),(11,3),(16,4),(21,5),(22,6),(24,7)]
def hv(c:I):List (Nat×Nat×I×I):=[(10,18,ft,ch),(15,22,ch,c),(20,26,c,ch)]
def Joined(d:I)(cs:List (Nat×I))(L:Nat->Bool)(E:Env):Prop:=∀c∈hv d,L c.1=true->∃a b,E.get? c.2.1=some (rU a b)/\(a,c.2.2.1)∈cs/\(b,c.2.2.2)∈cs
def vY(e:I)(cs:List (Nat×I))(L:Nat->Bool)(E:Env)(mp:List En):Prop:=(L 0=false/\mp=[]/\(∀c∈eD,L c.1=false)/\L 25=false/\L 26=false)\/
 (L 0=true/\∃(m:Nat) (es:Array MapEntry) (clock:Nat) (ms:List (Int×ab)),mp=[.ob m (.map es clock)]/\E.get? 11=some (.map (some m))/\q3 .i64 es ms/\(∀d v,kh ms d=some v->q0 cs e d v)/\(∀c∈eD,(kh ms c.2).isSome=L c.1)/\
  (L 25=true->E.get? 28=some (.map (some m)))/\(L 26=true->E.get? 0=some (.map (some m))))
abbrev n9(d e h:Nat)(s:J):List En:=[dW d ch,dW e ft,.row aV 4 s ch.c,dW h (fg s)]
structure FJ(w0:C)(b1 b2 b4:Nat)(s:J)(L:Nat->Bool)(E:Env)(w:C):Prop where
 st:mQ (cc b1 b2 b4 (fg s)) L E
 hp:∃(mp X:List En) (cs:List (Nat×I)),Z F0 w0 w (mp++(n9 b1 b2 b4 s++X)) []/\(∀p∈cs,dW p.1 p.2∈n9 b1 b2 b4 s++X)/\(b2,ft)∈cs/\(b4,fg s)∈cs/\Joined (fg s) cs L E/\vY (fg s) cs L E mp
def q0.mono{cs q:List (Nat×I)}{u:I}{k:Int}{v:ab}(h:q0 cs u k v)(c:∀p∈cs,p∈q):q0 q u k v:=by
 rcases h with h|⟨w,x,a,b,d,e,j,n⟩|h|⟨a,b,d,e,j,n⟩
 .exact .inl h
 .exact .inr (.inl ⟨w,x,a,b,d,e,c _ j,c _ n⟩)
 .exact .inr (.inr (.inl h))
 .exact .inr (.inr (.inr ⟨a,b,d,e,c _ j,c _ n⟩))
def Jg(ms:List (Int×ab))(k c:Int)(v:ab):kh (ms++[(k,v)]) c=(kh ms c).or (if k=c then some v else none):=by
 unfold kh
 grind
section
variable {w0 w:C} {b1 b2 b4:Nat} {s:J} {L:Nat->Bool} {E:Env}
def vY.cA{q:I}{cs n:List (Nat×I)}{mp:List En}(h:vY q cs L E mp)(F:∀p∈cs,p∈n)(i d:Nat)(v:ab)(hi:∀G∈[0,25,26,2,4,6,11,16,21,22,24],G≠i)(k:∀t∈[11,28,0],d≠t):vY q n (dn L i) (E.put (some d) v) mp:=by
 have N:∀c∈eD,dn L i c.1=L c.1:=λc e=>eK (hi _ (by simp only[eD,ay,aW,a3]at e;rcases e with rfl|rfl|rfl|rfl|rfl|rfl|rfl|rfl<;>simp));have O:dn L i 0=L 0:=eK (hi 0 (by simp));have J:dn L i 25=L 25:=eK (hi 25 (by simp));have K:dn L i 26=L 26:=eK (hi 26 (by simp));rcases h with⟨z,j,u,w,x⟩|⟨z,m,y,clock,ms,j,u,w,x,M,A,B⟩
 .exact .inl ⟨by grind,j,λc e=>by grind,by grind,by grind⟩
 .refine .inr ⟨by grind,m,y,clock,ms,j,?_,w,λH v D=>(x H v D).mono F,λc e=>by grind,λh=>?_,λh=>?_⟩
  .rw [hr (k 11 (by simp)),u]
  .rw [hr (k 28 (by simp)),A (J▸h)]
  .rw [hr (k 0 (by simp)),B (K▸h)]
def FJ.stat(h:FJ w0 b1 b2 b4 s L E w)(i d:Nat)(v:ab)(y:∀c∈cc b1 b2 b4 (fg s),c.1=i+1->c=(i+1,d,v))(z:∀c∈cc b1 b2 b4 (fg s),c.2.1=d->c.1=i+1)(hi:∀n∈[0,25,26,2,4,6,11,16,21,22,24],n≠i)(j:∀n∈[10,15,20],n≠i)(D:∀t∈[11,28,0],d≠t)(e:∀t∈[18,22,26],d≠t):FJ w0 b1 b2 b4 s (dn L i) (E.put (some d) v) w:=by
 obtain⟨mp,X,x,u,B,G,I,F,H⟩:=h.hp;refine⟨h.st.fill y z,mp,X,x,u,B,G,I,λc k A=>?_,H.cA (λ_ h=>h) i d v hi D⟩;have q:dn L i c.1=L c.1/\d≠c.2.1:=by
  simp only[hv,ay,aW,a3]at k;rcases k with rfl|rfl|rfl
  .exact ⟨eK (j 10 (by simp)),e 18 (by simp)⟩
  .exact ⟨eK (j 15 (by simp)),e 22 (by simp)⟩
  .exact ⟨eK (j 20 (by simp)),e 26 (by simp)⟩
 rw[hr q.2];exact F c k (q.1▸A)
def FJ.ins(h:FJ w0 b1 b2 b4 s L E w)(i:Nat)(k:Int)(v:ab)(e:(i,k)∈eD)(Z:L 0=true)(hi:L i=false)(ac:∀j,(b2,ft)∈j->(b4,fg s)∈j->Joined (fg s) j L E->q0 j (fg s) k v):
  ∃m,E.get? 11=some (.map (some m))/\∃q,(Instr.mapUpdate i2 (.map (some m)) (.i k) v).run V w=.ok () q/\FJ w0 b1 b2 b4 s (dn L i) (E.put none undef) q:=by
 obtain⟨mp,X,j,y,J,O,K,M,P⟩:=h.hp;rcases P with⟨aa,_⟩|⟨_,m,Y,clock,ms,rfl,z,D,h4,A,F,G⟩
 .grind
 have B:kh ms k=none:=by have:=A _ e;rw[hi]at this;simpa using this
 obtain⟨q,x,Q,S,T,W,r5⟩:=Se Jh (y.ob (b:=m) 0 rfl) D k v B;refine⟨m,z,q,Q,h.st.pass ?_ (λ_ _=>by simp),[.ob m (.map x (clock+1))],X,j,y.g' 0 (.ob m (.map x (clock+1))) rfl (W.mono λad _ u=>by simp[En.ob,u]) S (λb I=>.inl I),J,O,K,λd c H=>?_,.inr ⟨?_,m,x,clock+1,ms++[(k,v)],rfl,z,T,λk' v' N=>?_,λd c=>?_,λh=>?_,λh=>?_⟩⟩
 .intro d c;simp only[eD,ay,aW,a3,eX]at e;simp only[cc,ay,aW,a3]at c
  (repeat' rcases c with rfl|c)<;>(try subst c)<;>simp only<;>omega
 .have u:dn L i d.1=L d.1:=eK (by
   simp only[eD,ay,aW,a3,eX]at e;simp only[hv,ay,aW,a3]at c
   grind)
  exact M d c (u▸H)
 .grind
 .rw [Jg]at N
  grind
 .rw [Jg];by_cases n:d.1=i
  .have:d.2=k:=by simp only[eD,ay,aW,a3,eX]at e;simp only[eD,ay,aW,a3]at c;rcases c with rfl|rfl|rfl|rfl|rfl|rfl|rfl|rfl<;>simp only at n ⊢<;>omega
   rw[n,yI,this,B,aA rfl];rfl
  .have:k≠d.2:=by simp only[eD,ay,aW,a3,eX]at e;simp only[eD,ay,aW,a3]at c;rcases c with rfl|rfl|rfl|rfl|rfl|rfl|rfl|rfl<;>simp only at n ⊢<;>omega
   rw[eK n,aq this,<-A d c];simp
 .exact F (by rwa[eK (by simp only[eD,ay,aW,a3,eX]at e;omega)]at h)
 .exact G (by rwa[eK (by simp only[eD,ay,aW,a3,eX]at e;omega)]at h)
def FJ.call(h:FJ w0 b1 b2 b4 s L E w)(i d:Nat)(u j:I)(x:(i,d,u,j)∈hv (fg s)):ah V xS #[u.v,j.v] w λn N=>∃v,n=U v/\FJ w0 b1 b2 b4 s (dn L i) (E.put (some d) v) N:=by
 obtain⟨mp,X,B,y,Q,W,S,G,J⟩:=h.hp;have T:(i=10/\d=18)\/(i=15/\d=22)\/(i=20/\d=26):=by simp only[hv,ay,aW,a3,eX]at x;omega
 refine KA.ok _ _ _ _ _ _ _ _ w _ (y.nw λk Z z=>z.nw λw2 aa A=>⟨rU w.heap.size k.heap.size,rfl,h.st.pass ?_ ?_,mp,X++[dW w.heap.size u,dW k.heap.size j],(w.heap.size,u)::(k.heap.size,j)::B,?_,?_,by grind,by grind,λe c F=>?_,J.cA (λp Y=>by grind) i d _ ?_ ?_⟩)
 .intro e c;simp only[cc,ay,aW,a3]at c
  (repeat' rcases c with rfl|c)<;>(try subst c)<;>simp only<;>omega
 .intro e c q;have q:d=e.2.1:=fV q;simp only[cc,ay,aW,a3]at c
  (repeat' rcases c with rfl|c)<;>(try subst c)<;>simp only at q<;>omega
 .have n:mp++(n9 b1 b2 b4 s++(X++[dW w.heap.size u,dW k.heap.size j]))=mp++(n9 b1 b2 b4 s++X)++[dW w.heap.size u]++[dW k.heap.size j]:=by simp
  rw[n];exact A
 .grind
 .by_cases M:e.1=i
  .have:e=(i,d,u,j):=by
    simp only[hv,ay,aW,a3,eX]at x;simp only[hv,ay,aW,a3]at c
    grind
   subst this;exact⟨_,_,nf,by simp,by simp⟩
  .have K:d≠e.2.1:=by
    simp only[hv,ay,aW,a3]at c
    grind
   obtain⟨a,b,D,O,P⟩:=G e c (by rwa[eK M]at F);exact⟨a,b,by rw[hr K,D],by grind,by grind⟩
 .intro ab H;simp only[ay,aW,a3]at H;omega
 grind
def FJ.Sg(h:FJ w0 b1 b2 b4 s L E w)(H:L 0=false):FJ w0 b1 b2 b4 s (dn L 0) (E.put (some 11) (.map (some w.heap.size))) (w.alloc (.map #[] 0)):=by
 obtain⟨mp,X,n,k,z,F,A,B,G⟩:=h.hp;rcases G with⟨_,rfl,q,u,x⟩|⟨I,_⟩
 .refine ⟨h.st.pass ?_ ?_,[.ob w.heap.size (.map #[] 0)],X,n,Nh (k.alloc (.map #[] 0)) ?_,z,F,A,λd c y=>?_,.inr ⟨yI,w.heap.size,#[],0,[],rfl,nf,rfl,λJ v D=>by simp[kh]at D,λd c=>?_,λh=>?_,λh=>?_⟩⟩
  .intro d c;simp only[cc,ay,aW,a3]at c
   (repeat' rcases c with rfl|c)<;>(try subst c)<;>simp
  .intro d c e;have e:11=d.2.1:=fV e;simp only[cc,ay,aW,a3]at c
   (repeat' rcases c with rfl|c)<;>(try subst c)<;>simp at e
  .exact List.perm_append_comm
  .have j:dn L 0 d.1=L d.1/\11≠d.2.1:=by simp only[hv,ay,aW,a3]at c;rcases c with rfl|rfl|rfl<;>exact⟨eK (by simp),by simp⟩
   rw[hr j.2];exact B d c (j.1▸y)
  .rw [eK (by
    simp only[eD,ay,aW,a3]at c
    grind),q d c]
   simp[kh]
  .rw [eK (by decide),u]at h;cases h
  .rw [eK (by decide),x]at h;cases h
 grind
def FJ.Sa(h:FJ w0 b1 b2 b4 s L E w)(J:L 0=true):∃m,E.get? 11=some (.map (some m))/\FJ w0 b1 b2 b4 s (dn L 25) (E.put (some 28) (.map (some m))) w:=by
 obtain⟨mp,X,u,q,D,H,F,G,I⟩:=h.hp;rcases I with⟨K,_⟩|⟨_,m,k,clock,ms,rfl,n,x,y,z,M,A⟩
 .grind
 refine⟨m,n,h.st.pass ?_ ?_,[.ob m (.map k clock)],X,u,q,D,H,F,λd c B=>?_,.inr ⟨by grind,m,k,clock,ms,rfl,by rw[hr (by decide),n],x,y,λd c=>?_,λ_=>nf,λh=>?_⟩⟩
 .intro d c;simp only[cc,ay,aW,a3]at c
  (repeat' rcases c with rfl|c)<;>(try subst c)<;>simp
 .intro d c e;have e:28=d.2.1:=fV e;simp only[cc,ay,aW,a3]at c
  (repeat' rcases c with rfl|c)<;>(try subst c)<;>simp at e
 .have j:dn L 25 d.1=L d.1/\28≠d.2.1:=by simp only[hv,ay,aW,a3]at c;rcases c with rfl|rfl|rfl<;>exact⟨eK (by simp),by simp⟩
  rw[hr j.2];exact G d c (j.1▸B)
 .rw [eK (by
   simp only[eD,ay,aW,a3]at c
   grind),z d c]
 .rw [hr (by decide)];exact A (by rwa[eK (by decide)]at h)
def FJ.Sb(h:FJ w0 b1 b2 b4 s L E w)(K:L 0=true)(x:L 25=true):∃m,E.get? 28=some (.map (some m))/\FJ w0 b1 b2 b4 s (dn L 26) (E.put (some 0) (.map (some m))) w:=by
 obtain⟨mp,X,q,n,F,I,G,H,J⟩:=h.hp;rcases J with⟨M,_⟩|⟨_,m,k,clock,ms,rfl,u,y,z,A,B,N⟩
 .grind
 refine⟨m,B x,h.st.pass ?_ ?_,[.ob m (.map k clock)],X,q,n,F,I,G,λd c D=>?_,.inr ⟨by grind,m,k,clock,ms,rfl,by rw[hr (by decide),u],y,z,λd c=>?_,λh=>?_,λ_=>nf⟩⟩
 .intro d c;simp only[cc,ay,aW,a3]at c
  (repeat' rcases c with rfl|c)<;>(try subst c)<;>simp
 .intro d c e;have e:0=d.2.1:=fV e;simp only[cc,ay,aW,a3]at c
  (repeat' rcases c with rfl|c)<;>(try subst c)<;>simp at e
 .have j:dn L 26 d.1=L d.1/\0≠d.2.1:=by simp only[hv,ay,aW,a3]at c;rcases c with rfl|rfl|rfl<;>exact⟨eK (by simp),by simp⟩
  rw[hr j.2];exact H d c (j.1▸D)
 .rw [eK (by
   simp only[eD,ay,aW,a3]at c
   grind),A d c]
 .rw [hr (by decide)]
  grind
def FJ.ld(h:FJ w0 b1 b2 b4 s L E w){u:I}{b:Nat}(y:dW b u∈n9 b1 b2 b4 s){K:ab->Prop}(H:K u.v):lC V aV (ag b) w λv _=>K v:=by
 obtain⟨mp,X,F,x,_⟩:=h.hp;have d:w.heap[b]? =some (.cells u.c.toArray aV (0,0)):=x.own (dW b u) (ef _ (List.mem_append_left _ y));have z:=cellAt (p:=ag b) (i:=0) (v:=.int .i64 u.k) d rfl rfl;have A:=cellAt (p:=ag b) (i:=1) (v:=.int .u8 (u.lo.toNat:Int)) d rfl rfl;have B:=cellAt (p:=ag b) (i:=2) (v:=.int .u8 (u.hi.toNat:Int)) d rfl rfl;have D:=cellAt (p:=ag b) (i:=3) (v:=u.s.v) d rfl rfl;have G:(lC V aV (ag b) w λv _=>K v)=(∃e:Int,∃j:Int,∃n:Int,∃q:J,w.cell? ((ag b).add 0)=some (.int .i64 e)/\w.cell? ((ag b).add 1)=some (.int .u8 j)/\w.cell? ((ag b).add 2)=some (.int .u8 n)/\w.cell? ((ag b).add 3)=some q.v/\K (.agg #[.int .i64 e,.int .u8 j,.int .u8 n,q.v])):=by kernel_rfl
 grind
end
def Qu(w:C)(F E A:Nat)(s:J):allI (th V (FJ w F E A s)) wS 0:=
 ⟨λq n x o h j y k e c=>UQ h (by rw[j];exact c.Sg k),
  λq n x o h j y k e c=>lQ (.inl h) (c.st.get (i:=0) (d:=4) (v:=ij) (by simp[cc]) rfl) (by rw[j];exact c.stat 1 12 (ij) (by simp[cc]) (by simp[cc]) (by simp) (by simp) (by simp) (by simp)),
  λq n x o h j y k e c=>by obtain⟨m,B,z,D,G⟩:=c.ins 2 0 (ij) (by simp[eD]) (e 0 (by simp)) k (λH L N I=>.inl ⟨.inl rfl,rfl⟩);exact oR h B rfl (c.st.get (i:=2) (d:=12) (v:=ij) (by simp[cc]) (e 1 (by simp))) ⟨z,D,by grind⟩,
  λq n x o h j y k e c=>lQ (.inl h) (c.st.get (i:=0) (d:=4) (v:=ij) (by simp[cc]) rfl) (by rw[j];exact c.stat 3 13 (ij) (by simp[cc]) (by simp[cc]) (by simp) (by simp) (by simp) (by simp)),
  λq n x o h j y k e c=>by obtain⟨m,B,z,D,G⟩:=c.ins 4 1 (ij) (by simp[eD]) (e 0 (by simp)) k (λH L N I=>.inl ⟨.inr (.inl rfl),rfl⟩);exact oR h B rfl (c.st.get (i:=4) (d:=13) (v:=ij) (by simp[cc]) (e 3 (by simp))) ⟨z,D,by grind⟩,
  λq n x o h j y k e c=>lQ (.inl h) (c.st.get (i:=0) (d:=4) (v:=ij) (by simp[cc]) rfl) (by rw[j];exact c.stat 5 14 (ij) (by simp[cc]) (by simp[cc]) (by simp) (by simp) (by simp) (by simp)),
  λq n x o h j y k e c=>by obtain⟨m,B,z,D,G⟩:=c.ins 6 2 (ij) (by simp[eD]) (e 0 (by simp)) k (λH L N I=>.inl ⟨.inr (.inr rfl),rfl⟩);exact oR h B rfl (c.st.get (i:=6) (d:=14) (v:=ij) (by simp[cc]) (e 5 (by simp))) ⟨z,D,by grind⟩,
  λq n x o h j y k e c=>lQ (.inl h) (c.st.get (i:=0) (d:=5) (v:=jZ) (by simp[cc]) rfl) (by rw[j];exact c.stat 7 15 (jZ) (by simp[cc]) (by simp[cc]) (by simp) (by simp) (by simp) (by simp)),
  λq n x o h j y k e c=>oS h (c.st.get (i:=0) (d:=2) (v:=ptr E) (by simp[cc]) rfl) (c.ld (u:=ft) (b:=E) (aE (i:=1) rfl) (K:=λv=>FJ w F E A s (dn q 8) (n.put o.dst v) x) (by rw[j];exact c.stat 8 16 ((ft).v) (by simp[cc]) (by simp[cc]) (by simp) (by simp) (by simp) (by simp))),
  λq n x o h j y k e c=>oS h (c.st.get (i:=0) (d:=1) (v:=ptr F) (by simp[cc]) rfl) (c.ld (u:=ch) (b:=F) (aE (i:=0) rfl) (K:=λv=>FJ w F E A s (dn q 9) (n.put o.dst v) x) (by rw[j];exact c.stat 9 17 ((ch).v) (by simp[cc]) (by simp[cc]) (by simp) (by simp) (by simp) (by simp))),
  λq n x o h j y k e c=>by refine Et h (c.st.get (i:=8) (d:=15) (v:=jZ) (by simp[cc]) (e 7 (by simp))) (c.st.get (i:=9) (d:=16) (v:=(ft).v) (by simp[cc]) (e 8 (by simp))) (c.st.get (i:=10) (d:=17) (v:=(ch).v) (by simp[cc]) (e 9 (by simp))) (by kernel_rfl) ((c.call 10 18 (ft) (ch) (by simp[hv])).mono ?_);rintro ab z ⟨v,W,G⟩;rw[y,show zeroOf V lV=.nilFunc from by kernel_rfl];exact⟨v,W,by grind⟩,
  λq n x o h j y k e c=>by
   obtain⟨mp,X,H,aa,hc,hm,ac,Y,ad⟩:=c.hp;obtain⟨a,b,M,_,_⟩:=Y (10,18,ft,ch) (by simp[hv]) (e 10 (by simp));obtain⟨m,B,z,D,G⟩:=c.ins 11 3 (rU a b) (by simp[eD]) (e 0 (by simp)) k (λH L N I=>by obtain⟨O,P,Q,S,T⟩:=I (10,18,ft,ch) (by simp[hv]) (e 10 (by simp));exact .inr (.inl ⟨ft,ch,O,P,.inl ⟨rfl,rfl,rfl⟩,fV (M.symm.trans Q),S,T⟩))
   exact oR h B rfl M ⟨z,D,by grind⟩,
  λq n x o h j y k e c=>lQ (.inl h) (c.st.get (i:=0) (d:=5) (v:=jZ) (by simp[cc]) rfl) (by rw[j];exact c.stat 12 19 (jZ) (by simp[cc]) (by simp[cc]) (by simp) (by simp) (by simp) (by simp)),
  λq n x o h j y k e c=>oS h (c.st.get (i:=0) (d:=1) (v:=ptr F) (by simp[cc]) rfl) (c.ld (u:=ch) (b:=F) (aE (i:=0) rfl) (K:=λv=>FJ w F E A s (dn q 13) (n.put o.dst v) x) (by rw[j];exact c.stat 13 20 ((ch).v) (by simp[cc]) (by simp[cc]) (by simp) (by simp) (by simp) (by simp))),
  λq n x o h j y k e c=>oS h (c.st.get (i:=0) (d:=3) (v:=ptr A) (by simp[cc]) rfl) (c.ld (u:=fg s) (b:=A) (aE (i:=3) rfl) (K:=λv=>FJ w F E A s (dn q 14) (n.put o.dst v) x) (by rw[j];exact c.stat 14 21 ((fg s).v) (by simp[cc]) (by simp[cc]) (by simp) (by simp) (by simp) (by simp))),
  λq n x o h j y k e c=>by refine Et h (c.st.get (i:=13) (d:=19) (v:=jZ) (by simp[cc]) (e 12 (by simp))) (c.st.get (i:=14) (d:=20) (v:=(ch).v) (by simp[cc]) (e 13 (by simp))) (c.st.get (i:=15) (d:=21) (v:=(fg s).v) (by simp[cc]) (e 14 (by simp))) (by kernel_rfl) ((c.call 15 22 (ch) (fg s) (by simp[hv])).mono ?_);rintro ab z ⟨v,W,G⟩;rw[y,show zeroOf V lV=.nilFunc from by kernel_rfl];exact⟨v,W,by grind⟩,
  λq n x o h j y k e c=>by
   obtain⟨mp,X,H,aa,hc,hm,ac,Y,ad⟩:=c.hp;obtain⟨a,b,M,_,_⟩:=Y (15,22,ch,fg s) (by simp[hv]) (e 15 (by simp));obtain⟨m,B,z,D,G⟩:=c.ins 16 4 (rU a b) (by simp[eD]) (e 0 (by simp)) k (λH L N I=>by obtain⟨O,P,Q,S,T⟩:=I (15,22,ch,fg s) (by simp[hv]) (e 15 (by simp));exact .inr (.inl ⟨ch,fg s,O,P,.inr (.inl ⟨rfl,rfl,rfl⟩),fV (M.symm.trans Q),S,T⟩))
   exact oR h B rfl M ⟨z,D,by grind⟩,
  λq n x o h j y k e c=>lQ (.inl h) (c.st.get (i:=0) (d:=5) (v:=jZ) (by simp[cc]) rfl) (by rw[j];exact c.stat 17 23 (jZ) (by simp[cc]) (by simp[cc]) (by simp) (by simp) (by simp) (by simp)),
  λq n x o h j y k e c=>oS h (c.st.get (i:=0) (d:=3) (v:=ptr A) (by simp[cc]) rfl) (c.ld (u:=fg s) (b:=A) (aE (i:=3) rfl) (K:=λv=>FJ w F E A s (dn q 18) (n.put o.dst v) x) (by rw[j];exact c.stat 18 24 ((fg s).v) (by simp[cc]) (by simp[cc]) (by simp) (by simp) (by simp) (by simp))),
  λq n x o h j y k e c=>oS h (c.st.get (i:=0) (d:=1) (v:=ptr F) (by simp[cc]) rfl) (c.ld (u:=ch) (b:=F) (aE (i:=0) rfl) (K:=λv=>FJ w F E A s (dn q 19) (n.put o.dst v) x) (by rw[j];exact c.stat 19 25 ((ch).v) (by simp[cc]) (by simp[cc]) (by simp) (by simp) (by simp) (by simp))),
  λq n x o h j y k e c=>by refine Et h (c.st.get (i:=18) (d:=23) (v:=jZ) (by simp[cc]) (e 17 (by simp))) (c.st.get (i:=19) (d:=24) (v:=(fg s).v) (by simp[cc]) (e 18 (by simp))) (c.st.get (i:=20) (d:=25) (v:=(ch).v) (by simp[cc]) (e 19 (by simp))) (by kernel_rfl) ((c.call 20 26 (fg s) (ch) (by simp[hv])).mono ?_);rintro ab z ⟨v,W,G⟩;rw[y,show zeroOf V lV=.nilFunc from by kernel_rfl];exact⟨v,W,by grind⟩,
  λq n x o h j y k e c=>by
   obtain⟨mp,X,H,aa,hc,hm,ac,Y,ad⟩:=c.hp;obtain⟨a,b,M,_,_⟩:=Y (20,26,fg s,ch) (by simp[hv]) (e 20 (by simp));obtain⟨m,B,z,D,G⟩:=c.ins 21 5 (rU a b) (by simp[eD]) (e 0 (by simp)) k (λH L N I=>by obtain⟨O,P,Q,S,T⟩:=I (20,26,fg s,ch) (by simp[hv]) (e 20 (by simp));exact .inr (.inl ⟨fg s,ch,O,P,.inr (.inr ⟨rfl,rfl,rfl⟩),fV (M.symm.trans Q),S,T⟩))
   exact oR h B rfl M ⟨z,D,by grind⟩,
  λq n x o h j y k e c=>by obtain⟨m,B,z,D,G⟩:=c.ins 22 6 (.func (.func r2) #[] #[]) (by simp[eD]) (e 0 (by simp)) k (λH L N I=>.inr (.inr (.inl ⟨rfl,rfl⟩)));exact oR h B rfl rfl ⟨z,D,by grind⟩,
  λq n x o h j y k e c=>UP h (c.st.get (i:=0) (d:=2) (v:=ptr E) (by simp[cc]) rfl) (c.st.get (i:=0) (d:=3) (v:=ptr A) (by simp[cc]) rfl) (by rw[j];exact c.stat 23 27 (yV E A) (by simp[cc]) (by simp[cc]) (by simp) (by simp) (by simp) (by simp)),
  λq n x o h j y k e c=>by obtain⟨m,B,z,D,G⟩:=c.ins 24 7 (yV E A) (by simp[eD]) (e 0 (by simp)) k (λH L N I=>.inr (.inr (.inr ⟨E,A,rfl,rfl,L,N⟩)));exact oR h B rfl (c.st.get (i:=24) (d:=27) (v:=yV E A) (by simp[cc]) (e 23 (by simp))) ⟨z,D,by grind⟩,
  λq n x o h j y k e c=>by obtain⟨m,Z,G⟩:=c.Sa (e 0 (by simp));exact lQ (.inl h) Z (by grind),
  λq n x o h j y k e c=>by obtain⟨m,Z,G⟩:=c.Sb (e 0 (by simp)) (e 25 (by simp));exact lQ (.inr h) Z (by grind),trivial⟩
def Qv{w j:C}{h d e:Nat}{s:J}{E:Env}(H:Z F0 w j (n9 h d e s) [])(k:E.get? 1=some (ptr h))(n:E.get? 2=some (ptr d))(q:E.get? 3=some (ptr e))(u:E.get? 4=some ij)(x:E.get? 5=some jZ):FJ w h d e s (λ_=>false) E j.drew:=by
 refine⟨λA c z=>?_,[],[],[(d,ft),(e,fg s)],by simpa using H.drew,?_,by simp,by simp,λA c y=>(by cases y),.inl ⟨rfl,rfl,λ_ _=>rfl,rfl,rfl⟩⟩
 .simp only[cc,ay,aW,a3]at c
  (repeat' rcases c with rfl|c)<;>(try subst c)<;>first |exact k|exact n|exact q|exact u|exact x|cases z
 grind
def Qs{w n:C}{y z A:Nat}{s:J}{L:Nat->Bool}{E:Env}(F:∀i,i<wS.length->L i=true)(T:FJ w y z A s L E n):∃u:Fm,E.get? 0=some (.map (some u.m))/\u.Ok/\(En.fm u).P n/\(∀b∈(En.fm u).fp,w.heap.size<=b)/\aj w n:=by
 have hlen:wS.length=27:=rfl;obtain⟨mp,X,B,j,Z,hm,ae,hj,ab⟩:=T.hp;rcases ab with⟨ad,_⟩|⟨_,m,D,clock,ms,rfl,h2,N,O,Q,h6,S⟩
 .grind
 have mem:∀p∈B,dW p.1 p.2∈[En.ob m (.map D clock)]++(n9 y z A s++X):=λp q=>ef _ (Z p q);have ac:aG n aV 4 s ch.c:=j.get (e:=.row aV 4 s ch.c) 3 rfl;refine⟨⟨m,D,clock,ms,B,s⟩,S (F 26 (by omega)),⟨N,λh h0 h8=>?_⟩,λM d=>?_,λb W=>?_,j.fr⟩
 .have aa:∃i,(i,h)∈eD/\i<27:=by
   have:h=0\/h=1\/h=2\/h=3\/h=4\/h=5\/h=6\/h=7:=by omega
   rcases this with rfl|rfl|rfl|rfl|rfl|rfl|rfl|rfl
   .exact ⟨2,by simp[eD],by omega⟩
   .exact ⟨4,by simp[eD],by omega⟩
   .exact ⟨6,by simp[eD],by omega⟩
   .exact ⟨11,by simp[eD],by omega⟩
   .exact ⟨16,by simp[eD],by omega⟩
   .exact ⟨21,by simp[eD],by omega⟩
   .exact ⟨22,by simp[eD],by omega⟩
   .exact ⟨24,by simp[eD],by omega⟩
  obtain⟨i,hi,af⟩:=aa;have G:=Q _ hi;rw[F i (by omega)]at G;obtain⟨v,K⟩:=Option.isSome_iff_exists.1 G;exact⟨v,K,O h v K⟩
 .rcases ay.1 d with rfl|d
  .exact j.own _ (by simp)
  rcases ay.1 d with rfl|d
  .show I.P n (fg s);unfold I.P I.Ps I.Ps;exact⟨ac.bh,jQ n,trivial⟩
  .obtain ⟨p,q,rfl⟩:=dv.1 d;exact j.own _ (mem p q)
 .obtain ⟨M,d,x⟩:=cj.1 (a4.1 W);rcases ay.1 d with rfl|d
  .exact (j.new _ (aE (i:=0) rfl) b x).resolve_right id
  rcases ay.1 d with rfl|d
  .have k:b∈(fg s).fp:=a4.1 x;unfold I.fp at k;rcases a6.1 k with k|k
   .exact (j.new _ (aE (i:=3) rfl) b (gi k)).resolve_right id
   .obtain ⟨t,H,Y⟩:=I.bX.1 k;simp at H;subst H;exact(jR Y).elim
  .obtain ⟨p,q,rfl⟩:=dv.1 d;exact(j.new _ (mem p q) b x).resolve_right id
def OD(w:C):ah V CO #[] w λr h=>(∃d:Fm,r=U (.map (some d.m))/\d.Ok/\(En.fm d).P h/\∀b∈(En.fm d).fp,w.heap.size<=b)/\aj w h:=by refine Ky.ok w _ ((bN [] (by simp)).nw λj _ u=>u.nw λM _ A=>A.jt 0 rfl λS B=>B.jt 1 rfl λk e=>⟨0,0,0,⟨none,0,0⟩,e.ld 0 0,e.ld 0 1,e.ld 0 2,e.ld 0 3,e.cB (n:=1) (sz:=4) (cs:=ch.c) rfl (by decide) λq x=>x.nw λQ _ y=>y.jt 3 rfl λL z=>?_⟩);have D:Z F0 w L (n9 w.heap.size j.heap.size q.heap.size ⟨some (ag k.heap.size),1,1⟩) []:=z;refine Bz wS (by kernel_rfl) (FJ w w.heap.size j.heap.size q.heap.size ⟨some (ag k.heap.size),1,1⟩) (Qv D rfl rfl rfl rfl rfl) (Qu _ _ _ _ _) λO N M K J=>?_;obtain⟨d,E,F,G,H,I⟩:=Qs K J;exact TZ (by kernel_rfl) E ⟨⟨d,rfl,F,G,H⟩,I⟩
section
variable {M:Nat->Prop} {w0 w:C} {L D:List En}
def _root_.Go.W.Z.NI(H:Z M w0 w L D)(i:Nat){P:aR}{t ty e:aF}{E:ab}{sz bytes:Nat}(j:gJ P t e E sz bytes){T:aF}{s:J}{xs:List ab}{news:Array ab}{A:C->Prop}{K:J->C->Prop}(hi:L[i]? =some (.row e sz s xs))(u:∀c,Z M w0 c L D->A c)(x:∀d c,Z M w0 c (L.set i (.row e sz d (xs++news.toList))) D->K d c)(y:(s.n+1) *bytes<=140737488355328)(z:news.size=sz:=by rfl)(q:∀B∈news.toList,B.oneCell'=true:=by simp[Value.oneCell']):
  aK w (.cells news T) λh=>A h/\∃d c,(bg #[t,t] ty #[s.v,.slice (some (Addr.mk w.heap.size 0 none)) 1 1]).run P h=.ok d.v c/\K d c:=
 ⟨u _ (H.ct (Fr.alloc _ _ _)),H.tm i j hi (λd c k _ _=>x d c k) y z q⟩
end
mutual
def dN:Rx->Rx|.mk k lo hi l=>hq (.mk k lo hi (e7 l))
def e7:List Rx->List Rx
 |[]=>[]
 |a::l=>dN a::e7 l
end
def Qi(N:Nat):Rx->Bool|.mk k _ _ l=>af (k=4\/k=5->sg k l<=N)
def ql(N:Nat)(y:Rx):Bool:=jJ y&&af (y.sz<=1000000)&&Qi N y
mutual
def n8(N:Nat):Rx->Bool|.mk k lo hi l=>pQ N l&&ql N (.mk k lo hi (e7 l))
def pQ(N:Nat):List Rx->Bool
 |[]=>true
 |a::l=>n8 N a&&pQ N l
end
def HY{N:Nat}:∀{l:List Rx} {a:Rx},pQ N l=true->a∈l->n8 N a=true
 |b::l,a,c,d=>by
  unfold pQ at c;rw[bC]at c;rcases ay.1 d with rfl|d
  .exact c.1
  .exact HY c.2 d
def qj:∀l:List Rx,e7 l=l.map dN
 |[]=>rfl
 |a::l=>by unfold e7;rw[qj l];rfl
def JB{M:Nat->Prop}{w0 w:C}{L D:List En}(H:Z M w0 w L D):Z M w0 w L (D++[.trees []]):=
 H.gv (.trees []) (Fr.refl _ _) (by show I.Ps w [];unfold I.Ps;trivial) (λb c=>by have:=a4.1 c;unfold I.bm at this;cases this)
def rN{acc:List I}{t:I}{Q:Nat->Prop}(h:∀b∈I.bm acc,Q b)(j:∀b∈t.fp,Q b):∀b∈I.bm (acc++[t]),Q b:=by
 intro b e;obtain⟨k,c,d⟩:=I.bX.1 e;rcases a6.1 c with c|c
 .exact h b (I.bX.2 ⟨k,c,d⟩)
 .simp at c;rw[c]at d;exact j b d
abbrev Nl(N:Nat)(F:Fm)(n:Nat):Prop:=∀(x:I) (w:C),x.sz<=n->n8 N x.rx=true->(En.fm F).P w->x.P w->ah V uP #[.map (some F.m),x.v] w λr c=>fX (x.fp++(En.fm F).fp) w (dN x.rx) r c/\aj w c
def Gl{N:Nat}(hS:q6 N)(hN:N+1<=1000000){F:Fm}(hF:F.Ok):∀Q:Nat,Q<=1000000->Nl N F Q
 |0,_=>λe y ad _ _ _=>absurd ad (by have:=I.k4 e;omega)
 |Q+1,hn=>λe y ad aa pF px=>by
  have ih:=Gl hS hN hF Q (by omega);have hs:=I.h2 e;have hl:=I.fI e.l;have nr:=I.cu px.parts.1;have ab:pQ N (I.au e.l)=true/\ql N (.mk e.k e.lo e.hi (e7 (I.au e.l)))=true:=by
   rw[I.e9]at aa;unfold n8 at aa
   rwa[bC]at aa
  have ae:0<=e.k/\e.k<8:=by have:=ab.2;unfold ql jJ at this;simp only[bC,decide_eq_true_eq]at this;exact this.1.1.1
  have loop:∀(d i:Nat) (acc:List I) (j:J) (B D A:Nat) (x:C),i+d=e.l.length->I.au acc=e7 (I.au (e.l.take i))->(∀b∈I.bm acc,y.heap.size<=b\/b∈e.fp++(En.fm F).fp)->
    Z F0 y x [.c B e.c aV,.c D [.int .i64 0,.int .u8 0,.int .u8 0,.slice none 0 0] aV,.c A [.int .i64 e.k,.int .u8 (e.lo.toNat:Int),.int .u8 (e.hi.toNat:Int),j.v] aV,.row aV 4 j (acc.flatMap I.c)] [.tree e,.fm F,.trees acc]->
    vd.L0 (some F.m) (ag B) (ag D) (ag A) e.s ((e.s.n:Nat):Int) (i:Int) x λr w'=>fX (e.fp++(En.fm F).fp) y (dN e.rx) r w'/\aj y w':=by
   intro d;induction d with
   |zero=>
    intro i acc j B D A x ao w hf q;rw[g6 (by omega)]at w;obtain⟨f,f1,f2,f3⟩:=Ox hS (by omega) hF (q.getD 1) e.k ae.1 ae.2;have ap:∀b∈(I.row j acc).fp,y.heap.size<=b:=λb h=>(q.new _ (aE (i:=3) rfl) b (gi h)).resolve_right id;have K:Z F0 y x [.c B e.c aV,.c D [.int .i64 0,.int .u8 0,.int .u8 0,.slice none 0 0] aV,.c A [.int .i64 e.k,.int .u8 (e.lo.toNat:Int),.int .u8 (e.hi.toNat:Int),j.v] aV] [.tree e,.fm F,.trees acc,I.row j acc,.tree (.mk e.k e.lo e.hi j acc)]:=q.qw 3 2 e.k e.lo e.hi;have av:(I.mk e.k e.lo e.hi j acc).P x:=K.getD 4;have W:(I.mk e.k e.lo e.hi j acc).rx=.mk e.k e.lo e.hi (e7 (I.au e.l)):=by unfold I.rx;rw[w]
    have H:=ab.2;unfold ql at H;simp only[bC,decide_eq_true_eq]at H;have aq:(I.mk e.k e.lo e.hi j acc).sz<=1000000:=by have G:=I.eF (I.mk e.k e.lo e.hi j acc);rw[W]at G;rw[<-G];exact H.1.2
    have an:e.k=4\/e.k=5->sg e.k (I.au acc)<=N:=λhk=>by rw[w];exact hC H.2 hk
    have am:dN e.rx=hq (I.mk e.k e.lo e.hi j acc).rx:=by rw[W,I.e9];unfold dN;rfl
    refine vd.cf _ _ _ _ _ _ _ _ _ (bb (a2 (by omega)) ⟨e.k,q.ld 0 0,f,f1,_,_,_,j,q.ld 2 0,q.ld 2 1,q.ld 2 2,q.ld 2 3,?_⟩);rw[f2];refine(show cF true _ from ?_);refine(f3 (.mk e.k e.lo e.hi j acc) x (q.getD 1) av rfl an aq (by rw[W];exact H.1.1)).mono ?_;rintro _ w2 ⟨⟨t,rfl,ht,pt,E⟩,Y⟩;have T:=K.gv (.tree t) Y pt (λb h=>by
     rcases E b (a4.1 h)with h|h
     .exact .inl h
     .rcases a6.1 h with h|h
      .exact .inr (.inr ⟨_,aE (i:=4) rfl,a4.2 h⟩)
      .exact .inr (.inr ⟨_,aE (i:=1) rfl,h⟩))
    refine⟨_,_,_,t.s,rfl,T.jt 1 rfl λw3 z=>⟨_,_,_,t.s,z.ld 1 0,z.ld 1 1,z.ld 1 2,z.ld 1 3,⟨t,rfl,by rw[am];exact ht,z.getD 5,λb h=>?_⟩,z.fr⟩⟩;rcases E b h with h|h
    .exact .inl (bB q.fr.size h)
    .rcases a6.1 h with h|h
     .unfold I.fp at h;rcases a6.1 h with h|h
      .exact .inl (ap b h)
      .exact hf b h
     .exact .inr (ef _ h)
   |succ d ar=>
    intro i acc j B D A x ao w hf q;have M:e.l[i]? =some (e.l[i]'(by omega)):=a9 (by omega);generalize e.l[i]'(by omega)=a at M;have O:=aE M;have aB:=I.eG O;have fa:n8 N a.rx=true:=HY ab.1 (by rw[I.fy];exact dv.2 ⟨a,O,rfl⟩);have ac:∀b∈a.fp,b∈e.fp:=λb h=>I.gb.2 (.inr (I.bX.2 ⟨a,O,h⟩));refine vd.cf _ _ _ _ _ _ _ _ _ (a8 (a0 (by omega)) (iV (show e.P x from q.getD 0) rfl M (q.nw λw8 _ H8=>H8.jt 4 rfl λaC ah=>ah.dr λaf u=>⟨j,u.ld 2 3,a.k,a.lo.toNat,a.hi.toNat,a.s,u.ld 4 0,u.ld 4 1,u.ld 4 2,u.ld 4 3,?_⟩)));refine(ih a af (by omega) fa (u.getD 1) ((show e.P af from u.getD 0).parts.2.mem O)).mono ?_;rintro _ aD ⟨⟨t,rfl,ht,pt,E⟩,Y⟩;have S:=u.gv (.tree t) Y pt (λb h=>by
     rcases E b (a4.1 h)with h|h
     .exact .inl h
     .rcases a6.1 h with h|h
      .exact .inr (.inr ⟨_,aE (i:=0) rfl,a4.2 (ac b h)⟩)
      .exact .inr (.inr ⟨_,aE (i:=1) rfl,h⟩))
    have az:acc.length=i:=by have G:=congrArg List.length w;rw[I.fy,qj,I.fy]at G;simp only[List.length_map,g4]at G;omega
    have aA:=I.cu (S.get 3:aG _ _ _ _ _).bh;refine⟨_,_,_,t.s,rfl,S.ld 2 3,S.NI 3 pH (xs:=acc.flatMap I.c) rfl (λw' K=>K.ld 2 3) (λs' aF ai=>ai.st 2 3 rfl λaw ak=>?_) (by omega)⟩;rw[bA _ (by omega)];have al:=(ak.qA 2 3).take 4;refine ar (i+1) (acc++[t]) s' B D A aw (by omega) ?_ (rN hf λb h=>?_) ?_
    .rw [jm,w,eI,M,Option.toList_some,jm,qj,qj,List.map_append];show _++[t.rx]=_;rw[ht];rfl
    .rcases E b h with h|h
     .exact .inl (bB u.fr.size h)
     .rcases a6.1 h with h|h
      .exact .inr (List.mem_append_left _ (ac b h))
      .exact .inr (ef _ h)
    .rw [lr];exact al.forget _ (by simp)
  refine vd.ok _ _ _ _ _ y _ ((bN [.tree e,.fm F] (by
   intro ax w;simp only[ay,aW,a3]at w;rcases w with rfl|rfl
   .exact px
   .exact pF)).nw λx _ H1=>H1.nw λw2 _ L=>⟨e.k,L.ld 0 0,e.lo.toNat,L.ld 0 1,e.hi.toNat,L.ld 0 2,L.nw λw3 _ T=>T.jt 2 rfl λw7 H7=>⟨e.s,H7.ld 0 3,?_⟩⟩)
  exact loop e.l.length 0 [] ⟨none,0,0⟩ _ _ _ w7 (by omega) rfl (λb h=>by unfold I.bm at h;cases h) (JB (H7.gP aV 4))
def ON{N:Nat}(j:q6 N)(e:N+1<=1000000){F:Fm}(d:F.Ok)(x:I)(w:C)(h:x.sz<=1000000)(k:n8 N x.rx=true)(n:(En.fm F).P w)(q:x.P w):ah V uP #[.map (some F.m),x.v] w λr c=>fX (x.fp++(En.fm F).fp) w (dN x.rx) r c/\aj w c:=
 Gl j e d 1000000 (b' _) x w h k n q
section
variable {M:Nat->Prop} {w0 w:C} {L D:List En} {bs:List Nat}
def _root_.Go.W.Z.px(H:Z M w0 w L D){P:aR}{g:FuncId}{args:Array ab}{K:aa}{c:List Nat}{x:Rx}(q:ah P g args w λr w'=>fX c w x r w'/\aj w w')(hold:∀b∈c,∃g∈D,b∈g.fp)(u:∀(t:I) (w':C),t.rx=x->Z M w0 w' L (D++[.tree t])->(∀b∈t.fp,w.heap.size<=b\/b∈c)->K (U t.v) w'):cV bs P g args w K:=
 h7 (q.mono λr w' ⟨⟨t,h,j,k,d⟩,f⟩=>⟨f,by
  subst h;exact u t w' j (H.gv (.tree t) f k λb n=>(d b (a4.1 n)).imp id λe=>.inr (hold b e)) d⟩)
end
namespace mh
noncomputable abbrev X:Fx:=⟨V,Tryz.f112,[(6,ls [0,1,2,3,4,5,6,7,8]),(8,ls [0,1,2,3,4,5,6,7,8]),(13,ls [0,1,2,3,4,5,6,7,8,9,10,11])],[2,3]⟩
abbrev P0:Ps:=[(2,.l [.I,.Y,.Y,.s] aL),(3,.l [.I,.Y,.Y,.s] aL),(5,.v [.s]),(6,.v [.s]),(7,.v [.I])]
def aH(c:Nat)(d e h:Int)(j:J)(k:Nat)(n q u:Int)(x z A:J)(y:Int)(w:C)(R:aa):Prop:=bz P0 0 (X.Sem (ai [0,1,1,1,3])) c d e h j k n q u x z A y w R
noncomputable def az:=bK X (ai [0,1,1,1,3]) P0 aH
abbrev P1:Ps:=[(2,.l [.I,.Y,.Y,.s] aL),(3,.l [.I,.Y,.Y,.s] aL),(8,.v [.I])]
def bO(c:Nat)(d e h:Int)(j:J)(k:Nat)(n q u:Int)(x:J)(y:Int)(w:C)(R:aa):Prop:=bz P1 0 (X.Sem (ai [0,1,1,1,4])) c d e h j k n q u x y w R
noncomputable def bx:=bK X (ai [0,1,1,1,4]) P1 bO
abbrev P2:Ps:=[(2,.l [.I,.Y,.Y,.s] aL),(3,.l [.I,.Y,.Y,.s] aL)]
abbrev aY(e:Nat)(h j k:Int)(c:J)(q:Nat)(u x y:Int)(d:J)(w:C)(R:aa):Prop:=
 Y (af (((c.n:Nat):Int)<((d.n:Nat):Int))) (R (U (.i (-1))) w) (Y (af (((c.n:Nat):Int)>((d.n:Nat):Int))) (R (U (.i 1)) w) (R (U (.i 0)) w))
noncomputable def a1:=aC X [bx,az] (ai [5]) P2 aY
def eh:∀(d:Nat) (q u x:Int) (e:J) (j:Nat) (y z A:Int) (k:J) (c:Int) (w:C) (R:aa) (h:Y (af (c<((e.n:Nat):Int))) (Y (af (c<((k.n:Nat):Int))) (aw e c λE=>loc [d,j] w λB=>bH B (E.add (ae c *4)) λF G H I=>aw k c λK=>bH B (K.add (ae c *4)) λL M N O=>bG [d,j] nk #[.agg #[.i F,.int .u8 G,.int .u8 H,I.v],.agg #[.i L,.int .u8 M,.int .u8 N,O.v]] B λt74 D=>Y (t74 !=0) (R (U (.i t74)) D) (bO d q u x e j y z A k (ad .i64 (c+1)) D R)) (aY d q u x e j y z A k w R)) (aY d q u x e j y z A k w R)),bO d q u x e j y z A k c w R:=mp (bL (X:=X) [a1,bx,az] (ai [0,1,1,1,4]) P1)
def bD:∀(d:Nat) (u x y:Int) (z:J) (e:Nat) (A B D:Int) (E n q:J) (c:Int) (w:C) (R:aa) (h:Y (af (c<3)) (aw n c λF=>loc [d,e] w λj=>∃t35:Int,j.cell? (F.add (ae c *1))=some (.i t35)/\
 aw q c λG=>∃t39:Int,j.cell? (G.add (ae c *1))=some (.i t39)/\
 Y (af (t35<t39)) (R (U (.i (-1))) j) (aw n c λH=>loc [d,e] j λk=>∃t44:Int,k.cell? (H.add (ae c *1))=some (.i t44)/\
 aw q c λI=>∃t48:Int,k.cell? (I.add (ae c *1))=some (.i t48)/\
 Y (af (t44>t48)) (R (U (.i 1)) k) (aH d u x y z e A B D E n q (ad .i64 (c+1)) k R))) (bO d u x y z e A B D E 0 w R)),aH d u x y z e A B D E n q c w R:=mp (bL (X:=X) [a1,bx,az] (ai [0,1,1,1,3]) P0)
def aB(c d e:Int)(q:J)(j k n:Int)(u:J)(w:C)(R:aa)(h:aP [] w λx B=>
 aP [x] B λA y=>
 aK y (.cells #[.i c,.i (ad .i64 d),.i (ad .i64 e)] bp) λz=>
 aK z (.cells #[.i j,.i (ad .i64 k),.i (ad .i64 n)] bp) λD=>
 aH x c d e q A j k n u ⟨some (nb y),3,3⟩ ⟨some (nb z),3,3⟩ 0 D R):ah V nk #[.agg #[.i c,.int .u8 d,.int .u8 e,q.v],.agg #[.i j,.int .u8 k,.int .u8 n,u.v]] w R:=aM X [a1,bx,az] h
end mh
def jT{p:Addr}{K:Addr->Prop}(h:K p):cd (some p) K:=h
def AD{x y:Int}(l:List Int)(h:x<y):eo (cz x y::l)=-1:=by unfold eo cz;simp[h]
def AB{x y:Int}(l:List Int)(h:y<x):eo (cz x y::l)=1:=by unfold eo cz;rw[aq (show ¬x<y by omega),aA h];simp
def AA{x y:Int}(l:List Int)(c:¬x<y)(d:¬y<x):eo (cz x y::l)=eo l:=by
 conv=>lhs;unfold eo cz
 rw[aq c,aq d];simp
abbrev Nq(n:Nat):Prop:=∀(a b:I) (w:C),a.sz<=n->a.P w->b.P w->ah V nk #[a.v,b.v] w λr c=>r=U (.int .i64 (br a.rx b.rx))/\aj w c
def Gr:∀S:Nat,S<=1000000->Nq S
 |0,_=>λa b z e _ _=>absurd e (by have:=I.k4 a;omega)
 |S+1,hn=>λa b z e pa pb=>by
  have ih:=Gr S (by omega);have hs:=I.h2 a;have hl:=I.fI a.l;have na:=I.cu pa.parts.1;have an:=I.cu pb.parts.1;have u:br a.rx b.rx=if eo [cz a.k b.k,cz a.lo.toNat b.lo.toNat,cz a.hi.toNat b.hi.toNat]≠0 then eo [cz a.k b.k,cz a.lo.toNat b.lo.toNat,cz a.hi.toNat b.hi.toNat]else cmpL (I.au a.l) (I.au b.l):=by rw[I.e9 a,I.e9 b];unfold br;rfl
  have al:∀(d i:Nat) (n q:Nat) (G:C),i+d=a.l.length->i<=b.l.length->cmpL (I.au (a.l.drop i)) (I.au (b.l.drop i))=br a.rx b.rx->Z F0 z G [.g n,.g q] [.tree a,.tree b]->
    mh.bO n a.k a.lo.toNat a.hi.toNat a.s q b.k b.lo.toNat b.hi.toNat b.s (i:Int) G λr K=>r=U (.int .i64 (br a.rx b.rx))/\aj z K:=by
   intro d;induction d with
   |zero=>
    intro i n q G ac ah h A;rw[c9 (by omega:a.l.length<=i)]at h;refine mh.eh _ _ _ _ _ _ _ _ _ _ _ _ _ (bb (a2 (by omega)) (aQ (λe=>⟨?_,A.fr⟩) (λe=>aQ (λj=>?_) (λj=>⟨?_,A.fr⟩))))
    .rw [dZ (by omega:i<b.l.length)]at h;rw[<-h];rfl
    .omega
    .rw [c9 (by omega:b.l.length<=i)]at h;rw[<-h];rfl
   |succ d ai=>
    intro i n q G ac ah h A;have J:a.l[i]? =some (a.l[i]'(by omega)):=a9 (by omega);rw[dZ (by omega:i<a.l.length)]at h;generalize a.l[i]'(by omega)=x at J h;have ap:=I.eG (aE J);refine mh.eh _ _ _ _ _ _ _ _ _ _ _ _ _ (a8 (a0 (by omega)) (aQ (λae=>⟨by omega,by omega,?_⟩) (λam=>aQ (λe=>?_) (λe=>aQ (λj=>⟨?_,A.fr⟩) (λj=>?_)))))
    .have aa:b.l[i]? =some (b.l[i]'(by omega)):=a9 (by omega);rw[dZ (by omega:i<b.l.length)]at h;generalize b.l[i]'(by omega)=y at aa h;refine I.di (show a.P G from A.getD 0).parts.1 J λp hp _=>A.ak λw B=>?_;have c:=I.again (show a.P w from B.getD 0).parts.1 J hp;refine⟨_,_,_,_,c.c0,c.c1,c.c2,c.c3,by omega,by omega,I.di (show b.P w from B.getD 1).parts.1 aa λao hq Q=>⟨_,_,_,_,Q.c0,Q.c1,Q.c2,Q.c3,B.ax (ih x y w (by omega) ((show a.P w from B.getD 0).parts.2.get J) ((show b.P w from B.getD 1).parts.2.get aa)) ?_⟩⟩;rintro _ T rfl D;have e2:cmpL (I.au (x::a.l.drop (i+1))) (I.au (y::b.l.drop (i+1)))=if br x.rx y.rx≠0 then br x.rx y.rx else cmpL (I.au (a.l.drop (i+1))) (I.au (b.l.drop (i+1))):=rfl;rw[e2]at h;refine⟨_,rfl,cD (λY=>⟨?_,D.fr⟩) (λY=>?_)⟩
     .rw [aA Y]at h;rw[h]
     .rw [aq (by simpa using Y)]at h;rw[bA _ (by omega)];exact ai (i+1) n q T (by omega) (by omega) h D
    .omega
    .rw [c9 (by omega:b.l.length<=i)]at h;rw[<-h];rfl
    .omega
  have W:∀(c:UInt8),ad .i64 (c.toNat:Int)=(c.toNat:Int):=λc=>bf _ (by have:=c.toNat_lt;omega);refine mh.aB _ _ _ _ _ _ _ _ z _ ((bN [.tree a,.tree b] (by
   intro u h;simp only[ay,aW,a3]at h;rcases h with rfl|rfl
   .exact pa
   .exact pb)).aN λn G H1=>H1.aN λq L H2=>H2.nw λw _ B=>B.nw λT _ D=>?_)
  have D:Z F0 z T [.g n,.g q,.c L.heap.size [.int .i64 a.k,.int .i64 (ad .i64 (a.lo.toNat:Int)),.int .i64 (ad .i64 (a.hi.toNat:Int))] bp,.c w.heap.size [.int .i64 b.k,.int .i64 (ad .i64 (b.lo.toNat:Int)),.int .i64 (ad .i64 (b.hi.toNat:Int))] bp] [.tree a,.tree b]:=D;rw[W,W,W,W]at D;have step:∀(i:Nat) (x y:Int) (M:C),i<3->([.int .i64 a.k,.int .i64 (a.lo.toNat:Int),.int .i64 (a.hi.toNat:Int)]:List ab)[i]? =some (.int .i64 x)->([.int .i64 b.k,.int .i64 (b.lo.toNat:Int),.int .i64 (b.hi.toNat:Int)]:List ab)[i]? =some (.int .i64 y)->
    Z F0 z M [.g n,.g q,.c L.heap.size [.int .i64 a.k,.int .i64 (a.lo.toNat:Int),.int .i64 (a.hi.toNat:Int)] bp,.c w.heap.size [.int .i64 b.k,.int .i64 (b.lo.toNat:Int),.int .i64 (b.hi.toNat:Int)] bp] [.tree a,.tree b]->
    (x<y->br a.rx b.rx=-1)->(y<x->br a.rx b.rx=1)->
    (¬x<y->¬y<x->∀N,Z F0 z N [.g n,.g q,.c L.heap.size [.int .i64 a.k,.int .i64 (a.lo.toNat:Int),.int .i64 (a.hi.toNat:Int)] bp,.c w.heap.size [.int .i64 b.k,.int .i64 (b.lo.toNat:Int),.int .i64 (b.hi.toNat:Int)] bp] [.tree a,.tree b]->mh.aH n a.k a.lo.toNat a.hi.toNat a.s q b.k b.lo.toNat b.hi.toNat b.s ⟨some (ag L.heap.size),3,3⟩ ⟨some (ag w.heap.size),3,3⟩ ((i+1:Nat):Int) N λr K=>r=U (.int .i64 (br a.rx b.rx))/\aj z K)->
    mh.aH n a.k a.lo.toNat a.hi.toNat a.s q b.k b.lo.toNat b.hi.toNat b.s ⟨some (ag L.heap.size),3,3⟩ ⟨some (ag w.heap.size),3,3⟩ (i:Int) M λr K=>r=U (.int .i64 (br a.rx b.rx))/\aj z K:=by
   intro i x y M ac hx hy A ae af hk;have O:((i:Nat):Int)<((3:Nat):Int):=by omega
   refine mh.bD _ _ _ _ _ _ _ _ _ _ _ _ _ _ _ (a8 (a0 (by omega)) ⟨by omega,O,jT (A.ak λN E=>⟨x,?_,by omega,O,jT ⟨y,?_,aQ (λe=>⟨by rw[ae e],E.fr⟩) (λe=>⟨by omega,O,jT (E.ak λw7 F=>⟨x,?_,by omega,O,jT ⟨y,?_,aQ (λj=>⟨by rw[af j],F.fr⟩) (λj=>?_)⟩⟩)⟩)⟩⟩)⟩)
   .rw [bT,Nat.mul_one];exact E.ld 2 i rfl hx
   .rw [bT,Nat.mul_one];exact E.ld 3 i rfl hy
   .rw [bT,Nat.mul_one];exact F.ld 2 i rfl hx
   .rw [bT,Nat.mul_one];exact F.ld 3 i rfl hy
   .rw [show ad .i64 ((i:Int)+1)=((i+1:Nat):Int)by rw[bf _ (by omega)];omega];exact hk e j w7 F
  show mh.aH _ _ _ _ _ _ _ _ _ _ _ _ ((0:Nat):Int) _ _;refine step 0 _ _ T (by omega) rfl rfl D (λe=>by rw[u,AD _ e];rfl) (λe=>by rw[u,AB _ e];rfl) (λH j M H5=>?_);rw[AA _ H j]at u;refine step 1 _ _ M (by omega) rfl rfl H5 (λe=>by rw[u,AD _ e];rfl) (λe=>by rw[u,AB _ e];rfl) (λH j N E=>?_);rw[AA _ H j]at u;refine step 2 _ _ N (by omega) rfl rfl E (λe=>by rw[u,AD _ e];rfl) (λe=>by rw[u,AB _ e];rfl) (λH j w7 F=>?_);rw[AA _ H j]at u;refine mh.bD _ _ _ _ _ _ _ _ _ _ _ _ _ _ _ (bb rfl (al a.l.length 0 n q w7 (by omega) (by omega) ?_ (F.take 2)));rw[u];rfl
def pq(a b:I)(w:C)(h:a.sz<=1000000)(c:a.P w)(d:b.P w):ah V nk #[a.v,b.v] w λr e=>r=U (.int .i64 (br a.rx b.rx))/\aj w e:=Gr 1000000 (b' _) a b w h c d
namespace rB
noncomputable abbrev X:Fx:=⟨V,Tryz.f107,[],[1]⟩
abbrev P0:Ps:=[(1,.l [.I,.Y,.Y,.s] aL),(3,.v [.I]),(4,.v [.I])]
def aH(e:Nat)(h j k:Int)(n:J)(d c:Int)(w:C)(R:aa):Prop:=bz P0 0 (X.Sem (ai [0,1,1,1,2])) e h j k n d c w R
noncomputable def az:=bK X (ai [0,1,1,1,2]) P0 aH
abbrev aZ(e:Nat)(h j k:Int)(n:J)(d c:Int)(w:C)(R:aa):Prop:=
 aH e h j k n d (ad .i64 (c+1)) w R
noncomputable def aX:=aC X [az] (ai [2,2,1,1,2]) P0 aZ
def bD:∀(j:Nat) (k q u:Int) (d:J) (e c:Int) (w:C) (R:aa) (h:Y (af (c<((d.n:Nat):Int))) (aw d c λx=>bH w (x.add (ae c *4)) λy z A B=>bG [j] p' #[.agg #[.i y,.int .u8 z,.int .u8 A,B.v]] w λt18 D=>aZ j k q u d (ad .i64 (e+t18)) c D R) (R (U (.i e)) w)),aH j k q u d e c w R:=mp (bL (X:=X) [aX,az] (ai [0,1,1,1,2]) P0)
def aB(c d e:Int)(j:J)(w:C)(R:aa)(h:aP [] w λk n=>
 aH k c d e j 1 0 n R):ah V p' #[.agg #[.i c,.int .u8 d,.int .u8 e,j.v]] w R:=aM X [aX,az] h
end rB
namespace rC
noncomputable abbrev X:Fx:=⟨V,Tryz.f133,[(3,ls [0,1,2,3,4,5,6,7,8,9,10,11,12,13,14,15,16,17,18,19,20,21,22,23,24,25,26,27,28,29])],[1]⟩
abbrev P0:Ps:=[]
abbrev aS(w:C)(R:aa):Prop:=
 R (U (.bool false)) w
noncomputable def aT:=aC X [] (ai [0,1,1,1,3]) P0 aS
abbrev aZ(w:C)(R:aa):Prop:=
 R (U (.bool false)) w
noncomputable def aX:=aC X [aT] (ai [0,1,1,1,4]) P0 aZ
abbrev P1:Ps:=[(1,.l [.I,.Y,.Y,.s] aL),(5,.v [.I])]
def fW(d:Nat)(e h j:Int)(k:J)(c:Int)(w:C)(R:aa):Prop:=bz P1 0 (X.Sem (ai [0,1,1,1,5])) d e h j k c w R
noncomputable def i':=bK X (ai [0,1,1,1,5]) P1 fW
def l7:∀(e:Nat) (j k q:Int) (d:J) (c:Int) (w:C) (R:aa) (h:Y (af (c<((d.n:Nat):Int))) (aw d c λx=>bH w (x.add (ae c *4)) λy z A B=>bP [e] xn #[.agg #[.i y,.int .u8 z,.int .u8 A,B.v]] w λt66 u=>Y (!t66) (R (U (.bool false)) u) (fW e j k q d (ad .i64 (c+1)) u R)) (R (U (.bool true)) w)),fW e j k q d c w R:=mp (bL (X:=X) [i',aX,aT] (ai [0,1,1,1,5]) P1)
abbrev P2:Ps:=[(1,.l [.I,.Y,.Y,.s] aL)]
abbrev aY(c:Nat)(d e h:Int)(j:J)(w:C)(R:aa):Prop:=
 fW c d e h j 0 w R
noncomputable def a1:=aC X [i',aX,aT] (ai [5]) P2 aY
def aB(c q j:Int)(k:J)(w:C)(R:aa)(h:aP [] w λe x=>
 aK x (.cells #[.i 0,.i 0,.i 0,.i 64,.i 64,.i 64,.i 1,.i 1] bp) λy=>
 aK y (.cells #[.i 0,.i 0,.i 0,.i 0,.i 0,.i 0,.i 1,.i 1] bp) λu=>
 Y (af (c<0)) (loc [e] u λd=>aS d R) (Y (af (c>7)) (loc [e] u λd=>aS d R) ((0:Int)<=c/\c<((8:Nat):Int)/\cd (some (nb y)) λz=>loc [e] u λd=>∃t25:Int,d.cell? (z.add (ae c *1))=some (.i t25)/\
 Y (af (((k.n:Nat):Int)<t25)) (aS d R) ((0:Int)<=c/\c<((8:Nat):Int)/\cd (some (nb x)) λA=>∃t36:Int,d.cell? (A.add (ae c *1))=some (.i t36)/\
 Y (af (((k.n:Nat):Int)>t36)) (aS d R) (Y (af (q>j)) (aZ d R) (Y (c !=2) (Y (af (j>0)) (aZ d R) (aY e c q j k d R)) (aY e c q j k d R))))))):ah V xn #[.agg #[.i c,.int .u8 q,.int .u8 j,k.v]] w R:=aM X [a1,i',aX,aT] h
end rC
namespace Hq
noncomputable abbrev X:Fx:=⟨V,Tryz.f108,[],[1]⟩
def aB(c d e:Int)(j:J)(w:C)(R:aa)(h:aP [] w λk y=>
 bG [k] p' #[.agg #[.i c,.int .u8 d,.int .u8 e,j.v]] y λu n=>Y (af (u>64)) (R (U (.i 4)) n) (bP [k] xn #[.agg #[.i c,.int .u8 d,.int .u8 e,j.v]] n λx q=>Y (!x) (R (U (.i 1)) q) (R (U (.i 0)) q))):ah V Cd #[.agg #[.i c,.int .u8 d,.int .u8 e,j.v]] w R:=aM X [] h
end Hq
abbrev Nj(n:Nat):Prop:=∀(x:I) (w:C),x.sz<=n->x.P w->ah V p' #[x.v] w λr c=>r=U (.int .i64 (x.sz:Int))/\aj w c
def F3:∀q:Nat,q<=1000000->Nj q
 |0,_=>λc u x _=>absurd x (by have:=I.k4 c;omega)
 |q+1,M=>λc u x z=>by
  have F:=F3 q (by omega);have N:=I.h2 c;have L:=I.fI c.l;have O:=I.cu z.parts.1;have loop:∀(d i m h:Nat) (e:C),i+d=c.l.length->m+I.bc (c.l.drop i)=c.sz->Z F0 u e [.g h] [.tree c]->rB.aH h c.k c.lo.toNat c.hi.toNat c.s (m:Int) (i:Int) e λr H=>r=U (.int .i64 (c.sz:Int))/\aj u H:=by
   intro d;induction d with
   |zero=>
    intro i m h e E j n;rw[c9 (by omega)]at j;refine rB.bD _ _ _ _ _ _ _ _ _ (bb (a2 (by omega)) ⟨?_,n.fr⟩);have:m=c.sz:=j;rw[this]
   |succ d G=>
    intro i m h e E j n;have w:c.l[i]? =some (c.l[i]'(by omega)):=a9 (by omega);rw[dZ (by omega)]at j;generalize c.l[i]'(by omega)=a at w j;have K:m+(a.sz+I.bc (c.l.drop (i+1)))=c.sz:=j;have y:=aE w;have Q:=I.eG y;refine rB.bD _ _ _ _ _ _ _ _ _ (a8 (a0 (by omega)) (iV (show c.P e from n.getD 0) rfl w (n.ax (F a e (by omega) ((show c.P e from n.getD 0).parts.2.mem y)) ?_)));rintro _ J rfl B;refine⟨_,rfl,?_⟩;show rB.aH _ _ _ _ _ _ _ _ _;rw[bA _ (by omega),bf _ (by omega)];have D:((m:Int)+(a.sz:Int))=((m+a.sz:Nat):Int):=by omega
    rw[D];exact G (i+1) (m+a.sz) h J (by omega) (by omega) B
  exact rB.aB _ _ _ _ u _ ((gE z).aN λh e A=>loop c.l.length 0 1 h e (by omega) (by rw[List.drop_zero];omega) A)
def Af(x:I)(w:C)(h:x.sz<=1000000)(c:x.P w):ah V p' #[x.v] w λr d=>r=U (.int .i64 (x.sz:Int))/\aj w d:=F3 1000000 (b' _) x w h c
def w5(k:Nat):Int:=if 6<=k then 1 else 0
def xi(k:Nat):Int:=if k<3 then 0 else if k<6 then 64 else 1
def RK{k:Nat}(h:k<8):([.i 0,.i 0,.i 0,.i 0,.i 0,.i 0,.i 1,.i 1]:List ab)[k]? =some (.i (w5 k)):=by
 have:k=0\/k=1\/k=2\/k=3\/k=4\/k=5\/k=6\/k=7:=by omega
 rcases this with rfl|rfl|rfl|rfl|rfl|rfl|rfl|rfl<;>rfl
def Si{k:Nat}(h:k<8):([.i 0,.i 0,.i 0,.i 64,.i 64,.i 64,.i 1,.i 1]:List ab)[k]? =some (.i (xi k)):=by
 have:k=0\/k=1\/k=2\/k=3\/k=4\/k=5\/k=6\/k=7:=by omega
 rcases this with rfl|rfl|rfl|rfl|rfl|rfl|rfl|rfl<;>rfl
abbrev Nc(n:Nat):Prop:=∀(x:I) (w:C),x.sz<=n->x.P w->ah V xn #[x.v] w λr c=>r=U (.bool (cM x.rx))/\aj w c
def Gi:∀M:Nat,M<=64->Nc M
 |0,_=>λe D q _=>absurd q (by have:=I.k4 e;omega)
 |M+1,hn=>λe D q px=>by
  have ih:=Gi M (by omega);have hs:=I.h2 e;have hl:=I.fI e.l;have nr:=I.cu px.parts.1;have Q:(I.au e.l).length=e.s.n:=by rw[I.fy];simp[nr]
  have ee:(I.au e.l).isEmpty=af (e.s.n=0):=by rw[<-Q,Bool.eq_iff_iff];simp
  have w:cM e.rx=(!(e.k !=2&&(e.lo !=0||e.hi !=0))&&(if e.k=0\/e.k=1 then(I.au e.l).isEmpty else if e.k=2 then(I.au e.l).isEmpty&&af (e.lo.toNat<=e.hi.toNat)else if e.k=3\/e.k=4\/e.k=5 then dX (I.au e.l)else if e.k=6\/e.k=7 then(I.au e.l).length==1&&dX (I.au e.l)else false)):=by rw[I.e9];unfold cM;rfl
  rw[ee,Q]at w;have z8:∀Y:UInt8,(Y !=0)=af (Y.toNat≠0):=λY=>by rw[Bool.eq_iff_iff];simp only[bne_iff_ne,ne_eq,decide_eq_true_eq];exact not_congr ⟨λq=>by rw[q];rfl,λq=>UInt8.toNat_inj.1 (by simpa using q)⟩
  rw[z8,z8]at w;have bad:∀{h:Nat} {w':C},cM e.rx=false->Z F0 D w' [.g h,.c (0:Nat) [] bp] []->True:=λ_ _=>trivial
  let R:aa:=λr w'=>r=U (.bool (cM e.rx))/\aj D w'
  have loop:cM e.rx=dX (I.au e.l)->∀(d i h:Nat) (j:C),i+d=e.l.length->dX (I.au (e.l.drop i))=dX (I.au e.l)->Z F0 D j [.g h] [.tree e]->rC.fW h e.k e.lo.toNat e.hi.toNat e.s (i:Int) j R:=by
   intro K d;induction d with
   |zero=>
    intro i h j ae F G;rw[c9 (by omega)]at F;refine rC.l7 _ _ _ _ _ _ _ _ (bb (a2 (by omega)) ⟨?_,G.fr⟩);rw[K,<-F];rfl
   |succ d ai=>
    intro i h j ae F G;have W:e.l[i]? =some (e.l[i]'(by omega)):=a9 (by omega);rw[dZ (by omega)]at F;generalize e.l[i]'(by omega)=a at W F;have ma:=aE W;have am:=I.eG ma;have S:(cM a.rx&&dX (I.au (e.l.drop (i+1))))=dX (I.au e.l):=F;refine rC.l7 _ _ _ _ _ _ _ _ (a8 (a0 (by omega)) (iV (show e.P j from G.getD 0) rfl W (G.ax (ih a j (by omega) ((show e.P j from G.getD 0).parts.2.mem ma)) ?_)));rintro _ E rfl H;refine⟨_,rfl,eJ (λT=>⟨?_,H.fr⟩) (λht=>?_)⟩
    .rw [K,<-S,T];rfl
    .rw [bA _ (by omega)];rw[ht,Bool.true_and]at S;exact ai (i+1) h E (by omega) S H
  refine rC.aB _ _ _ _ D _ ((gE px).aN λh j H1=>H1.nw λE _ H=>H.nw λw3 _ N=>?_);have no:∀w':C,Z F0 D w' [.g h,.c j.heap.size [.i 0,.i 0,.i 0,.i 64,.i 64,.i 64,.i 1,.i 1] bp,.c E.heap.size [.i 0,.i 0,.i 0,.i 0,.i 0,.i 0,.i 1,.i 1] bp] [.tree e]->cM e.rx=false->(Ending.returned (.bool false)=U (.bool (cM e.rx))/\aj D w'):=λw' H' T=>⟨by rw[T],H'.fr⟩;refine aQ (λk0=>Z.ak N (λy u=>no y u ?_) (by simp)) (λk0=>aQ (λk7=>Z.ak N (λy u=>no y u ?_) (by simp)) (λk7=>?_))
  .rw [w,aq (by omega),aq (by omega),aq (by omega),aq (by omega),Bool.and_false]
  .rw [w,aq (by omega),aq (by omega),aq (by omega),aq (by omega),Bool.and_false]
  obtain⟨z,hk⟩:=Int.eq_ofNat_of_zero_le (by omega:0<=e.k);have ab:z<8:=by omega
  refine⟨by omega,by show e.k<((8:Nat):Int);omega,(show cd (some (nb E)) _ from Z.ak N (λy u=>⟨w5 z,?_,?_⟩) (by simp))⟩
  .have:=Z.ld (L:=[.g h,.c j.heap.size [.i 0,.i 0,.i 0,.i 64,.i 64,.i 64,.i 1,.i 1] bp,.c E.heap.size [.i 0,.i 0,.i 0,.i 0,.i 0,.i 0,.i 1,.i 1] bp]) u 2 z rfl (RK ab);rw[hk,bT,Nat.mul_one];exact this
  refine aQ (λB=>no y u ?_) (λB=>⟨by omega,by show e.k<((8:Nat):Int);omega,(show cd (some (nb j)) _ from⟨xi z,?_,?_⟩)⟩)
  .unfold w5 at B;rw[w,aq (by split at B<;>omega),aq (by split at B<;>omega),aq (by split at B<;>omega)];split
   .rename_i al;have:(e.s.n==1)=false:=by rw[beq_eq_false_iff_ne];split at B<;>omega
    rw[this];simp
   .simp
  .have:=Z.ld (L:=[.g h,.c j.heap.size [.i 0,.i 0,.i 0,.i 64,.i 64,.i 64,.i 1,.i 1] bp,.c E.heap.size [.i 0,.i 0,.i 0,.i 0,.i 0,.i 0,.i 1,.i 1] bp]) u 1 z rfl (Si ab);rw[hk,bT,Nat.mul_one];exact this
  refine aQ (λA=>no y u ?_) (λA=>?_)
  .unfold xi at A;by_cases x:z<3
   .rw [aA x]at A;have ah:af (e.s.n=0)=false:=a2 (by omega);rw[w,ah];split
    .simp
    .split
     .simp
     .omega
   .rw [aq x]at A;by_cases k5:z<6
    .rw [aA k5]at A;omega
    .rw [aq k5]at A;have:(e.s.n==1)=false:=by rw[beq_eq_false_iff_ne];omega
     rw[w,this,aq (by omega),aq (by omega),aq (by omega),aA (by omega)];simp
  have J:(z<3->e.s.n=0)/\(6<=z->e.s.n=1):=by
   unfold w5 at B;unfold xi at A;refine⟨λq=>?_,λq=>?_⟩
   .rw [aA q]at A;omega
   .rw [aA q]at B;rw[aq (by omega),aq (by omega)]at A;omega
  have H5:Z F0 D y [.g h] [.tree e]:=Z.take (L:=[.g h,.c j.heap.size [.i 0,.i 0,.i 0,.i 64,.i 64,.i 64,.i 1,.i 1] bp,.c E.heap.size [.i 0,.i 0,.i 0,.i 0,.i 0,.i 0,.i 1,.i 1] bp]) u 1;have ac:z<3->dX (I.au e.l)=true:=λq=>by
   have h0:(I.au e.l).length=0:=by rw[Q,J.1 q]
   rw[List.length_eq_zero_iff.1 h0];rfl
  have go:cM e.rx=dX (I.au e.l)->rC.aY h e.k e.lo.toNat e.hi.toNat e.s y R:=λK=>loop K e.l.length 0 h y (by omega) (by simp) H5;refine aQ (λag=>no y u ?_) (λag=>cD (λx=>aQ (λad=>no y u ?_) (λad=>go ?_)) (λx=>go ?_))
  .rw [w];by_cases x:e.k=2
   .rw [aq (by omega),aA x,a2 (show ¬e.lo.toNat<=e.hi.toNat by omega)];simp
   .have:(e.k !=2&&(af (e.lo.toNat≠0)||af (e.hi.toNat≠0)))=true:=by rw[a0 (show e.lo.toNat≠0 by omega)];simp[x]
    rw[this];rfl
  .have:(e.k !=2&&(af (e.lo.toNat≠0)||af (e.hi.toNat≠0)))=true:=by rw[a0 (show e.hi.toNat≠0 by omega)];simp[x]
   rw[w,this];rfl
  .have O:(e.k !=2&&(af (e.lo.toNat≠0)||af (e.hi.toNat≠0)))=false:=by rw[a2 (show ¬e.lo.toNat≠0 by omega),a2 (show ¬e.hi.toNat≠0 by omega)];simp
   rw[w,O];by_cases c1:e.k=0\/e.k=1
   .rw [aA c1,ac (by omega),a0 (J.1 (by omega))];rfl
   .rw [aq c1,aq x];by_cases c3:e.k=3\/e.k=4\/e.k=5
    .rw [aA c3];simp
    .rw [aq c3,aA (by omega),J.2 (by omega)];simp
  .have O:(e.k !=2&&(af (e.lo.toNat≠0)||af (e.hi.toNat≠0)))=false:=by rw[x];rfl
   rw[w,O,aq (by omega),aA x,ac (by omega),a0 (J.1 (by omega)),a0 (show e.lo.toNat<=e.hi.toNat by omega)];rfl
def OW(x:I)(w:C)(h:x.sz<=1000000)(n:x.P w):ah V Cd #[x.v] w λr q=>r=U (.int .i64 (jv x.rx))/\aj w q:=by
 refine Hq.aB _ _ _ _ w _ ((gE n).aN λz u e=>e.ax (Af x u h (e.getD 0)) ?_);rintro _ y rfl c;refine⟨_,rfl,aQ (λk=>⟨?_,c.fr⟩) (λk=>c.ax (Gi 64 (b' _) x y (by omega) (c.getD 0)) ?_)⟩
 .unfold jv;rw[I.eF,aA (by omega)]
 rintro _ A rfl j;refine⟨_,rfl,eJ (λd=>⟨?_,j.fr⟩) (λd=>⟨?_,j.fr⟩)⟩
 .unfold jv;rw[I.eF,aq (by omega),d];rfl
 .unfold jv;rw[I.eF,aq (by omega),d];rfl
def EU{x:Rx}(h:jv x=0):cM x=true/\x.sz<=64:=by
 unfold jv at h;split at h
 .cases h
 .split at h
  .rename_i c;exact⟨c,by omega⟩
  .cases h
def Ie:∀{l:List Rx} {a:Rx},dX l=true->a∈l->cM a=true
 |b::l,a,e,d=>by
  have c:(cM b&&dX l)=true:=e;rw[bC]at c;rcases ay.1 d with rfl|d
  .exact c.1
  .exact Ie c.2 d
namespace Hn
noncomputable abbrev X:Fx:=⟨V,Tryz.f73,[],[0]⟩
def aB(w:C)(R:aa)(h:aP [] w λd c=>
 aK c (.cells #[.i 0,.int .u8 0,.int .u8 0,.slice none 0 0] aL) λe=>
 loc [d] e λj=>R (U (.agg #[.i 6,.int .u8 0,.int .u8 0,.slice (some (nb c)) 1 1])) j):ah V mr #[] w R:=aM X [] h
end Hn
namespace n3
noncomputable abbrev X:Fx:=⟨V,Tryz.f113,[(2,ls [0,1,2,3,4,5,6,7,8,9,10,11,12]),(4,ls [0,1,2,3,4,5,6,7,8,9,10,11,12]),(7,(.sq [0,1,2,3,5] (.fork (ls [4,6,7,8]) (ls [6,4,7,8]))))],[3]⟩
abbrev P0:Ps:=[(0,.v [.s]),(3,.l [.I,.Y,.Y,.s] aL),(5,.v [.I])]
def aH(d:J)(e:Nat)(h j k:Int)(n:J)(c:Int)(w:C)(R:aa):Prop:=bz P0 0 (X.Sem (ai [0,2,2])) d e h j k n c w R
noncomputable def az:=bK X (ai [0,2,2]) P0 aH
abbrev P1:Ps:=[(0,.v [.s]),(5,.v [.I]),(6,.v [.s])]
abbrev be(e:J)(d:Int)(j:J)(w:C)(R:aa):Prop:=
 (0:Int)<=d/\d<=((e.n:Nat):Int)/\∃(t48:J) (h:C),a' V (bg #[bI,bI] bI #[j.v,.slice (if e.c=(ae d)then e.a else e.a.map (·.add ((ae d) *4))) (e.n - (ae d)) (e.c - (ae d))]) w=.ok (t48.v) h/\R (U (t48.v)) h
noncomputable def a7:=aC X [az] (ai [6]) P1 be
abbrev aY(d:J)(h:Nat)(x y z:Int)(A:J)(e:Int)(w:C)(R:aa):Prop:=
 (0:Int)<=e/\e<=((d.c:Nat):Int)/\((loc [h] w λj=>∃(t40:J) (k:C),a' V (bg #[bI,bI] bI #[.slice none 0 0,.slice (if d.c=0 then d.a else d.a.map (·.add (0 *4))) ((ae e) - 0) (d.c - 0)]) j=.ok (t40.v) k/\kept [h] j k/\aK k (.cells #[.i x,.int .u8 y,.int .u8 z,A.v] aL) λE=>
 ∃(t43:J) (q:C),a' V (bg #[bI,bI] bI #[t40.v,.slice (some (nb k)) 1 1]) E=.ok (t43.v) q/\kept [h] E q/\be d e t43 q R)/\(loc [h] w λj=>aK j (.cells #[.i x,.int .u8 y,.int .u8 z,A.v] aL) λF=>
 ∃(B:J) (n:C),a' V (bg #[bI,bI] bI #[.slice none 0 0,.slice (if d.c=0 then d.a else d.a.map (·.add (0 *4))) ((ae e) - 0) (d.c - 0)]) F=.ok (B.v) n/\kept [h] F n/\∃(D:J) (u:C),a' V (bg #[bI,bI] bI #[B.v,.slice (some (nb j)) 1 1]) n=.ok (D.v) u/\kept [h] n u/\be d e D u R))
noncomputable def a1:=aC X [a7,az] (ai [4]) P0 aY
abbrev aZ(d:J)(e:Nat)(j k q:Int)(u:J)(c:Int)(w:C)(R:aa):Prop:=
 Y (af (c<((d.n:Nat):Int))) (aw d c λy=>loc [e] w λh=>bH h (y.add (ae c *4)) λz A B D=>bG [e] nk #[.agg #[.i z,.int .u8 A,.int .u8 B,D.v],.agg #[.i j,.int .u8 k,.int .u8 q,u.v]] h λt32 x=>Y (t32==0) (R (U (d.v)) x) (aY d e j k q u c x R)) (loc [e] w λh=>aY d e j k q u c h R)
noncomputable def aX:=aC X [a1,a7,az] (ai [3]) P0 aZ
def bD:∀(e:J) (d:Nat) (j k q:Int) (u:J) (c:Int) (w:C) (R:aa) (h:Y (af (c<((e.n:Nat):Int))) (aw e c λz=>loc [d] w λx=>bH x (z.add (ae c *4)) λA B D E=>bG [d] nk #[.agg #[.i A,.int .u8 B,.int .u8 D,E.v],.agg #[.i j,.int .u8 k,.int .u8 q,u.v]] x λt17 y=>Y (af (t17<0)) (aH e d j k q u (ad .i64 (c+1)) y R) (aZ e d j k q u c y R)) (loc [d] w λx=>aZ e d j k q u c x R)),aH e d j k q u c w R:=mp (bL (X:=X) [aX,a1,a7,az] (ai [0,2,2]) P0)
def aB(c:J)(d e j:Int)(k:J)(w:C)(R:aa)(h:aP [] w λn q=>
 aH c n d e j k 0 q R):ah V Cg #[c.v,.agg #[.i d,.int .u8 e,.int .u8 j,k.v]] w R:=aM X [aX,a1,a7,az] h
end n3
namespace hU
noncomputable abbrev X:Fx:=⟨V,Tryz.f91,[(9,ls [0,1,2,3,4,5,6,7,8,9,10,11,12]),(25,ls [0,1,2,3,4,5,6]),(27,ls [0,1,2,3,4,5,6])],[4,5,8,9]⟩
abbrev P0:Ps:=[(1,.v [.s]),(4,.l [.I,.Y,.Y,.s] aL)]
abbrev aS(c:J)(t4:Nat)(q u x:Int)(y:J)(w:C)(R:aa):Prop:=
 aw c 0 λd=>bH w (d.add (ae 0 *4)) λe h j k=>loc [t4] w λn=>R (U (.agg #[.i e,.int .u8 h,.int .u8 j,k.v])) n
noncomputable def aT:=aC X [] (ai [0,1,1,1,1,1,1,1,3]) P0 aS
abbrev P1:Ps:=[(0,.v [.I]),(1,.v [.s]),(4,.l [.I,.Y,.Y,.s] aL),(5,.l [.I,.Y,.Y,.s] aL),(6,.v [.s]),(7,.v [.I])]
def bO(u:Int)(q:J)(t4:Nat)(x y z:Int)(A:J)(c:Nat)(d e h:Int)(j k:J)(n:Int)(w:C)(R:aa):Prop:=bz P1 0 (X.Sem (ai [0,1,1,1,5])) u q t4 x y z A c d e h j k n w R
noncomputable def bx:=bK X (ai [0,1,1,1,5]) P1 bO
abbrev aY(u:Int)(q:J)(t4:Nat)(x y z:Int)(A:J)(c:Nat)(d e h:Int)(j k:J)(n:Int)(w:C)(R:aa):Prop:=
 bO u q t4 x y z A c d e h j k (ad .i64 (n+1)) w R
noncomputable def a1:=aC X [bx,aT] (ai [2,2,1,1,5]) P1 aY
abbrev P2:Ps:=[(0,.v [.I]),(4,.l [.I,.Y,.Y,.s] aL),(6,.v [.s]),(8,.l [.I,.Y,.Y,.s] aL),(9,.l [.I,.Y,.Y,.s] aL),(10,.v [.s]),(11,.v [.I])]
def fW(q:Int)(t4:Nat)(D E F:Int)(G k:J)(u:Nat)(x y z:Int)(A:J)(c:Nat)(d e h:Int)(j B:J)(n:Int)(w:C)(R:aa):Prop:=bz P2 0 (X.Sem (ai [0,1,1,1,9])) q t4 D E F G k u x y z A c d e h j B n w R
noncomputable def i':=bK X (ai [0,1,1,1,9]) P2 fW
abbrev cq(q:Int)(t4:Nat)(D E F:Int)(G k:J)(u:Nat)(x y z:Int)(A:J)(c:Nat)(d e h:Int)(j B:J)(n:Int)(w:C)(R:aa):Prop:=
 fW q t4 D E F G k u x y z A c d e h j B (ad .i64 (n+1)) w R
noncomputable def bq:=aC X [i',a1,bx,aT] (ai [2,2,1,1,9]) P2 cq
def l7:∀(z:Int) (t4:Nat) (G H I:Int) (K j:J) (d:Nat) (A B D:Int) (E:J) (c:Nat) (q u x:Int) (y k:J) (e:Int) (w:C) (R:aa) (h:Y (af (e<((j.n:Nat):Int))) (aw j e λQ=>loc [t4,d,c] w λM=>bH M (Q.add (ae e *4)) λS T W Z=>bG [t4,d,c] nk #[.agg #[.i S,.int .u8 T,.int .u8 W,Z.v],.agg #[.i q,.int .u8 u,.int .u8 x,y.v]] M λt108 N=>Y (t108==0) (loc [t4,d,c] N λaB=>R (U (.agg #[.i q,.int .u8 u,.int .u8 x,y.v])) aB) (aw j e λab=>loc [t4,d,c] N λO=>bH O (ab.add (ae e *4)) λac ad ag ah=>bG [t4,d,c] nk #[.agg #[.i ac,.int .u8 ad,.int .u8 ag,ah.v],.agg #[.i A,.int .u8 B,.int .u8 D,E.v]] O λt116 F=>Y (t116==0) (cq z t4 G H I K j d A B D E c q u x y k e F R) (Y (z==3) (aw j e λaj=>bH F (aj.add (ae e *4)) λak al am an=>aK F (.cells #[.i ak,.int .u8 al,.int .u8 am,an.v] aL) λP=>
 ∃(t126:J) (L:C),a' V (bg #[bI,bI] bI #[k.v,.slice (some (nb F)) 1 1]) P=.ok (t126.v) L/\kept [t4,d,c] P L/\cq z t4 G H I K j d A B D E c q u x y t126 e L R) (aw j e λao=>bH F (ao.add (ae e *4)) λap aq ar au=>iv [t4,d,c] Cg #[k.v,.agg #[.i ap,.int .u8 aq,.int .u8 ar,au.v]] F λt132 aC=>cq z t4 G H I K j d A B D E c q u x y t132 e aC R)))) (Y (((k.n:Nat):Int)==0) (loc [t4,d,c] w λaD=>R (U (.agg #[.i A,.int .u8 B,.int .u8 D,E.v])) aD) (Y (((k.n:Nat):Int)==1) (aw k 0 λav=>bH w (av.add (ae 0 *4)) λax ay az aA=>loc [t4,d,c] w λaE=>R (U (.agg #[.i ax,.int .u8 ay,.int .u8 az,aA.v])) aE) (loc [t4,d,c] w λaF=>R (U (.agg #[.i z,.int .u8 0,.int .u8 0,k.v])) aF)))),fW z t4 G H I K j d A B D E c q u x y k e w R:=mp (bL (X:=X) [bq,i',a1,bx,aT] (ai [0,1,1,1,9]) P2)
def eh:∀(c:Int) (j:J) (t4:Nat) (A B D:Int) (E:J) (e:Nat) (k q u:Int) (x z:J) (d:Int) (w:C) (R:aa) (h:Y (af (d<((j.n:Nat):Int))) (aw j d λN=>∃t64:Int,w.cell? ((N.add (ae d *4)).add 0)=some (.i t64)/\
 Y (t64==c) (aw j d λO=>∃t72:J,w.cell? ((O.add (ae d *4)).add 3)=some (t72.v)/\
 ∃(t73:J) (F:C),a' V (bg #[bI,bI] bI #[z.v,t72.v]) w=.ok (t73.v) F/\kept [t4,e] w F/\aY c j t4 A B D E e k q u x t73 d F R) (aw j d λP=>bH w (P.add (ae d *4)) λQ S T W=>aK w (.cells #[.i Q,.int .u8 S,.int .u8 T,W.v] aL) λI=>
 ∃(t80:J) (G:C),a' V (bg #[bI,bI] bI #[z.v,.slice (some (nb w)) 1 1]) I=.ok (t80.v) G/\kept [t4,e] I G/\aY c j t4 A B D E e k q u x t80 d G R)) (aK w (.cells #[.i 1,.int .u8 0,.int .u8 0,.slice none 0 0,.i 0,.int .u8 0,.int .u8 0,.slice none 0 0,.i k,.int .u8 q,.int .u8 u,x.v] aL) λK=>
 (0:Int)<=(ad .i64 (c - 3))/\(ad .i64 (c - 3))<((3:Nat):Int)/\cd (some (nb w)) λZ=>bH K (Z.add (ae (ad .i64 (c - 3)) *4)) λab ac ag ah=>aP [t4,e] K λy ao=>
 loc [t4,e,y] ao λL=>aK L (.cells #[.i 0,.int .u8 0,.int .u8 0,.slice none 0 0,.i k,.int .u8 q,.int .u8 u,x.v,.i 0,.int .u8 0,.int .u8 0,.slice none 0 0] aL) λM=>
 (0:Int)<=(ad .i64 (c - 3))/\(ad .i64 (c - 3))<((3:Nat):Int)/\cd (some (nb L)) λaj=>bH M (aj.add (ae (ad .i64 (c - 3)) *4)) λak al am an=>aP [t4,e,y] M λH ap=>
 loc [t4,e,y,H] ap λaq=>fW c t4 A B D E z y ab ac ag ah H ak al am an ⟨none,0,0⟩ 0 aq R)),bO c j t4 A B D E e k q u x z d w R:=mp (bL (X:=X) [bq,i',a1,bx,aT] (ai [0,1,1,1,5]) P1)
def aB(k:Int)(d:J)(w:C)(R:aa)(h:aP [] w λc S=>
 eT [c] mr #[] S λu x y z w2=>aP [c] w2 λj q=>
 Y (k==6) (aw d 0 λB=>loc [c,j] q λe=>∃t18:Int,e.cell? ((B.add (ae 0 *4)).add 0)=some (.i t18)/\
 Y (t18==6) (aw d 0 λD=>∃t23:J,e.cell? ((D.add (ae 0 *4)).add 3)=some (t23.v)/\
 aw t23 0 λE=>bH e (E.add (ae 0 *4)) λF G H I=>loc [c,j] e λT=>R (U (.agg #[.i F,.int .u8 G,.int .u8 H,I.v])) T) (loc [c,j] e λW=>R (U (.agg #[.i 6,.int .u8 0,.int .u8 0,d.v])) W)) (Y (k==7) (aw d 0 λK=>loc [c,j] q λe=>∃t33:Int,e.cell? ((K.add (ae 0 *4)).add 0)=some (.i t33)/\
 Y (af (t33<2)) (loc [c,j] e λZ=>R (U (.agg #[.i 1,.int .u8 0,.int .u8 0,.slice none 0 0])) Z) (aw d 0 λL=>loc [c,j] e λn=>∃t39:Int,n.cell? ((L.add (ae 0 *4)).add 0)=some (.i t39)/\
 Y (t39==7) (aS d c 0 0 0 ⟨none,0,0⟩ n R) (aw d 0 λM=>bH n (M.add (ae 0 *4)) λN O P Q=>bG [c,j] nk #[.agg #[.i N,.int .u8 O,.int .u8 P,Q.v],.agg #[.i u,.int .u8 x,.int .u8 y,z.v]] n λt46 A=>Y (t46==0) (aS d c 0 0 0 ⟨none,0,0⟩ A R) (loc [c,j] A λab=>R (U (.agg #[.i 7,.int .u8 0,.int .u8 0,d.v])) ab)))) (loc [c,j] q λe=>bO k d c 0 0 0 ⟨none,0,0⟩ j u x y z ⟨none,0,0⟩ 0 e R))):ah V Cf #[.i k,d.v] w R:=aM X [bq,i',a1,bx,aT] h
end hU
namespace tZ
noncomputable abbrev X:Fx:=⟨V,Tryz.f75,[],[1,2]⟩
abbrev P0:Ps:=[(1,.l [.I,.Y,.Y,.s] aL),(2,.l [.I,.Y,.Y,.s] aL),(3,.v [.s]),(4,.v [.I])]
def aH(e:Nat)(h j k:Int)(n:J)(t2:Nat)(q u x:Int)(y d:J)(c:Int)(w:C)(R:aa):Prop:=bz P0 0 (X.Sem (ai [0,1,1,1,3])) e h j k n t2 q u x y d c w R
noncomputable def az:=bK X (ai [0,1,1,1,3]) P0 aH
def bD:∀(c:Nat) (k u x:Int) (e:J) (t2:Nat) (y z A:Int) (B j:J) (d:Int) (w:C) (R:aa) (h:Y (af (d<((e.n:Nat):Int))) (aw e d λF=>bH w (F.add (ae d *4)) λG H I K=>eT [c,t2] qd #[.agg #[.i G,.int .u8 H,.int .u8 I,K.v]] w λL M N O D=>aK D (.cells #[.i L,.int .u8 M,.int .u8 N,O.v] aL) λE=>
 ∃(t24:J) (q:C),a' V (bg #[bI,bI] bI #[j.v,.slice (some (nb D)) 1 1]) E=.ok (t24.v) q/\kept [c,t2] E q/\aH c k u x e t2 y z A B t24 (ad .i64 (d+1)) q R) (eT [c,t2] Cf #[.i k,j.v] w λP Q S T W=>loc [c,t2] W λZ=>R (U (.agg #[.i P,.int .u8 Q,.int .u8 S,T.v])) Z)),aH c k u x e t2 y z A B j d w R:=mp (bL (X:=X) [az] (ai [0,1,1,1,3]) P0)
def aB(c e j:Int)(k:J)(w:C)(R:aa)(h:aP [] w λd u=>
 aP [d] u λn q=>
 Y (af (c<3)) (loc [d,n] q λx=>R (U (.agg #[.i c,.int .u8 e,.int .u8 j,k.v])) x) (aH d c e j k n 0 0 0 ⟨none,0,0⟩ ⟨none,0,0⟩ 0 q R)):ah V qd #[.agg #[.i c,.int .u8 e,.int .u8 j,k.v]] w R:=aM X [az] h
end tZ
namespace Hs
noncomputable abbrev X:Fx:=⟨V,Tryz.f109,[],[1,2]⟩
def aB(e j k:Int)(n:J)(w:C)(R:aa)(h:aP [] w λc x=>
 aP [c] x λd z=>
 bG [c,d] p' #[.agg #[.i e,.int .u8 j,.int .u8 k,n.v]] z λu q=>Y (af (u>64)) (loc [c,d] q λA=>R (U (.tuple #[.agg #[.i 0,.int .u8 0,.int .u8 0,.slice none 0 0],.i 4])) A) (loc [c,d] q λy=>R (U (.tuple #[.agg #[.i e,.int .u8 j,.int .u8 k,n.v],.i 0])) y)):ah V Ce #[.agg #[.i e,.int .u8 j,.int .u8 k,n.v]] w R:=aM X [] h
end Hs
namespace Ho
noncomputable abbrev X:Fx:=⟨V,Tryz.f86,[],[1,2]⟩
def aB(e j k:Int)(n:J)(w:C)(R:aa)(h:aP [] w λc H=>
 aP [c] H λd K=>
 bG [c,d] Cd #[.agg #[.i e,.int .u8 j,.int .u8 k,n.v]] K λq u=>Y (q !=0) (loc [c,d] u λL=>R (U (.tuple #[.agg #[.i 0,.int .u8 0,.int .u8 0,.slice none 0 0],.i q])) L) (eT [c,d] qd #[.agg #[.i e,.int .u8 j,.int .u8 k,n.v]] u λx y z A M=>tE [c,d] Ce #[.agg #[.i x,.int .u8 y,.int .u8 z,A.v]] M λB D E F G N=>loc [c,d] N λI=>R (U (.tuple #[.agg #[.i B,.int .u8 D,.int .u8 E,F.v],.i G])) I)):ah V B' #[.agg #[.i e,.int .u8 j,.int .u8 k,n.v]] w R:=aM X [] h
end Ho
end Go.Proofs.YthkcmmldhceegaaGreatDoor
