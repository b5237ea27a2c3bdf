import Derived.Test.YtkbmpalepmakmaaGreatDoorSpG
import Derived.Test.YtkbmpalepmakmaaGreatDoorOW
import Derived.Test.YtkbmpalepmakmaaGreatDoorN6
import Derived.Lib.LaidTab
import Derived.Lib.LaidU8
import Derived.LaidByTextLater
import Derived.MakeChecks
import Derived.FnData
import Derived.OpenShut
import Derived.Test.YtkbmpalepmakmaaGreatDoorRows
set_option linter.unusedVariables false
set_option maxRecDepth 100000
set_option maxHeartbeats 1000000
set_option linter.defProp false
noncomputable section
namespace Go.Proofs.YtkbmpalepmakmaaGreatDoor
open Go renaming World->I,Calls->ah,Program->au,Value->V
open _root_.Int renaming toNat->aY
open _root_.Nat renaming le_refl->bz
open Go.Proofs.Tryz renaming prog->U
open Go.Ending renaming returned->ab
open List renaming mem_cons->aF,not_mem_nil->aW,mem_of_getElem?->ay,getElem?_eq_getElem->a0,getElem?_eq_some_iff->cP,mem_flatMap->b',mem_map->dn,length_append->bM,length_cons->cD,length_nil->gX,mem_of_mem_take->qj,getElem?_append_left->s6,append_assoc->dS,mem_iff_getElem?->iq,getElem?_map->s7,append_nil->df
open Go Go.W
def ho.st{w w':I}{e:Nat}{l:List Nd}{own:List Nat}(A:ho w e l own)(k:∀b∈own,b<w.heap.size->w'.heap[b]? =w.heap[b]?):ho w' e l own:=by obtain⟨s,mp,H,y,q,z,x,j,G,D,B,C⟩:=A;exact⟨s,mp,H,y,q,z,x,j,G,λd h=>d.st w w' (λb E F=>k b (by rw[j];exact b'.2 ⟨d,h,E⟩) F) (D d h),B,C⟩
def ho.lt{w:I}{h:Nat}{l:List Nd}{own:List Nat}(j:ho w h l own):∀b∈own,b<w.heap.size:=by obtain⟨s,mp,F,A,y,B,z,x,E,k,C,D⟩:=j;intro b d;rw[x]at d;obtain⟨e,q,d⟩:=b'.1 d;exact e.lt w (k e q) b d
def _root_.Go.W.En.bu(j:Nat)(own:List Nat)(l:List Nd):En:=⟨mz own,λh=>ho h j l own,λh q k e=>e.st λb d=>k b (aU.2 d),λh e b d=>e.lt b (aU.1 d),rf _⟩
def Jw(w:I)(d:Nat)(own:List Nat)(l:List Nd)(b:Nat):¬(En.bu d own l).P ({w with heap:=Array.replicate (b+1) (.map #[] 0)}):=by rintro⟨s,mp,C,q,j,x,k,B,A,h,y,z⟩;have e:=h _ (ay (i:=0) rfl);exact zG w d _ tE b e
section
variable {M:Nat->Prop} {w0 w:I} {L D:List En} {bs:List Nat}
def _root_.Go.W.O.Wx(H:O M w0 w L D)(i:Nat){d:Nat}{own:List Nat}{l h:List Nd}{w':I}(hi:L[i]? =some (.bu d own l))(j:rH w d own h w'):∃e,O M w0 w' (L.set i (.bu d e h)) D/\ho w' d h e:=by obtain⟨e,r,f,o⟩:=j;exact⟨e,H.fy i (.bu d e h) hi (f.mono λx _ q=>aU.2 q) r (λb k=>(o b (aU.1 k)).imp aU.2 id),r⟩
def _root_.Go.W.O.Du(H:O M w0 w L D)(i:Nat){e:Nat}{own:List Nat}{l k:List Nd}{P:au}{g:FuncId}{args:Array V}{A:Ending->Prop}{K:aC}(hi:L[i]? =some (.bu e own l))(B:ah P g args w λr d=>A r/\rH w e own k d)(C:∀r d h,A r->O M w0 d (L.set i (.bu e h k)) D->K r d)(z:∀b∈bs,En.g b∈L:=by simp):e8 bs P g args w K:=
 ⟨(·∈own),λb y E=>u0 H hi (Jw w e own l) (z b y) (aU.2 E),B.mono λr d ⟨x,j⟩=>by obtain⟨_,_,f,_⟩:=id j;obtain⟨h,q,_⟩:=H.Wx i hi j;exact⟨f,C r d h x q⟩⟩
end
def ho.nil(w:I):rH w (w.heap.size+2) [] [] ((((w.alloc (.map #[] 0)).alloc (.map #[] 0)).alloc (.cells #[.slice none 0 0,.map (some w.heap.size),.map (some (w.heap.size+1))] tE))):=by
 have k:(w.alloc (.map #[] 0)).heap.size=w.heap.size+1:=size_alloc _ _;have y:((w.alloc (.map #[] 0)).alloc (.map #[] 0)).heap.size=w.heap.size+2:=by rw[size_alloc,k]
 have q:(w.alloc (.map #[] 0)).heap[w.heap.size]? =some (.map #[] 0):=m8 w _;have x:=(Fr.alloc F0 (w.alloc (.map #[] 0)) (.map #[] 0)).at q id;have j:=m8 (w.alloc (.map #[] 0)) (.map #[] 0);rw[k]at j;have d:=Fr.alloc F0 ((w.alloc (.map #[] 0)).alloc (.map #[] 0)) (.cells #[.slice none 0 0,.map (some w.heap.size),.map (some (w.heap.size+1))] tE);have c:=m8 ((w.alloc (.map #[] 0)).alloc (.map #[] 0)) (.cells #[.slice none 0 0,.map (some w.heap.size),.map (some (w.heap.size+1))] tE);rw[y]at c;have f:af w (((w.alloc (.map #[] 0)).alloc (.map #[] 0)).alloc (.cells #[.slice none 0 0,.map (some w.heap.size),.map (some (w.heap.size+1))] tE)):=((Fr.alloc F0 w _).gq (Fr.alloc F0 _ _)).gq d;refine⟨_,⟨⟨none,0,0⟩,w.heap.size,w.heap.size+1,#[],0,#[],0,rfl,?_,λA h=>?_,rfl,rfl⟩,f.A5,λz e=>?_⟩
 .show ([w.heap.size+2]++([]++([w.heap.size]++([w.heap.size+1]++[])))).Nodup;simp
 .simp only[aF,aW,a2]at h;rcases h with rfl|rfl|rfl|rfl
  .exact c
  .exact aJ.nil _ _ _
  .exact d.at x id
  .exact d.at j id
 .have e:z∈[w.heap.size+2]++([]++([w.heap.size]++([w.heap.size+1]++[]))):=e;simp at e;right;omega
def Co{g:List Nx}(j:Vg g):∀i e,g[i]? =some e->e∉g.take i:=by
 induction j with
 |nil=>intro i e d;simp at d
 |@snoc g n w x k q=>
  intro i e d;rcases Nat.lt_or_ge i g.length with h|h
  .rw [s6 h]at d;rw[List.take_append_of_le_length io];exact q i e d
  .rw [List.getElem?_append_right h]at d;have:i - g.length=0:=by have:=(cP.1 d).1;simp at this;omega
   rw[this]at d;simp at d;subst d;rw[show i=g.length by omega,List.take_left];exact k
def U5{g:List Nx}(e:Vg g){i:Nat}{d:Nx}(hd:g[i]? =some d)(w:d.op=0):ga (g.take i) d.tx=none:=by
 cases z:ga (g.take i) d.tx with
 |none=>rfl
 |some s=>
  obtain⟨j,h,k,q,_⟩:=Cn z;obtain⟨A,x⟩:=iq.1 (qj h);have y:=e.vars j (qj h) k d (ay hd) w q;have:=var_eq (e.ti A j x) (e.ti i d hd) k w q y;exact absurd (this▸h) (Co e i d hd)
def Wj{w:I}{s:Sl}{l:List Nd}(M:GP w s l)(P:Vg (xs l))(N:∀e∈xs l,nQ e)(hl:l.length<=100000):
  ah U PZ #[.agg #[s.v]] w λr C=>(∃h own,r=ab (.pointer (some (aa h)))/\ho C h l own/\∀z∈own,w.heap.size<=z)/\af w C:=by
 have hn:=gz M;have Q:O F0 w w [] [.gr s l]:=bZ _ (by intro K B;simp only[aF,aW,a2]at B;subst B;exact bd.2 M)
 have loop:∀(m i y h:Nat) (own:List Nat) (j:I),i+m=l.length->O F0 w j [.g y,.bu h own (l.take i)] [.gr s l]->
   yI.aX (aa h) s (s.n:Int) (i:Int) j λr C=>(∃h own,r=ab (.pointer (some (aa h)))/\ho C h l own/\∀z∈own,w.heap.size<=z)/\af w C:=by
  intro m;induction m with
  |zero=>
   intro i y h own j Z q;refine yI.bR (aT (a7 io) ⟨⟨h,own,rfl,?_,λz J=>(q.new _ (ay (i:=1) rfl) z (aU.2 J)).resolve_right id⟩,q.fr⟩);have:=q.get 1;rw[List.take_of_length_le io]at this;exact this
  |succ m ih=>
   intro i y h own j Z q;have A:l[i]? =some (l[i]'io):=a0 io;generalize l[i]'io=e at A;refine yI.bR (aR (a6 io) (eJ (bd.1 (q.getD 0)) rfl A λp hp c=>⟨e.x.op,e.ks,e.x.n,e.x.m,e.x.u,e.x.tx,e.x.st.k,e.x.st.n,e.x.st.x,c.c0,c.c1,c.c2,c.c3,c.c4,c.c5,c.c6,c.c7,c.c8,q.aw λb5 w2 E=>E.ae λw3 D=>?_⟩));have H:=ay A;have L:=pa A;have F:xs (l.take i)=(xs l).take i:=by simp[xs,List.map_take]
   have W:l.take (i+1)=l.take i++[e]:=by rw[List.take_add_one,A];rfl
   refine D.Du 1 rfl (Jj (l:=l.take i) (d:=e) (D.get 1) ((bd.1 (D.getD 0)).2 e H) (λb G hm=>D.dj (.gr s l) us b (n0.2 (.inr ⟨e,H,G⟩)) (.bu h own (l.take i)) us (aU.2 hm)) (N _ (dn.2 ⟨e,H,rfl⟩)) (λK B=>(N K (by rw[F]at B;exact qj B)).u.1) (by rw[List.length_take];omega) (by rw[F];exact Co P i e.x L) (λY=>by rw[F];exact U5 P L Y)) ?_;rintro _ w4 ac rfl S;refine⟨_,rfl,?_⟩;rw[bt _ io];refine ih (i+1) y h ac w4 io ?_;rw[W];exact S.take 2
 refine yI.aq (Q.aw λy j q=>?_);obtain⟨own,r,f,o⟩:=ho.nil j;have E:=(q.fresh (f.mono λz _ J=>by cases J)).own (.bu (j.heap.size+2) own []) r (λb G=>(o b (aU.1 G)).resolve_left us);have T:((j.alloc (.map #[] 0)).alloc (.map #[] 0)).heap.size=j.heap.size+2:=by rw[size_alloc,size_alloc]
 have:=loop l.length 0 y (j.heap.size+2) own _ io E;have s1:(j.alloc (.map #[] 0)).heap.size=j.heap.size+1:=size_alloc _ _;rw[<-T,<-s1]at this;exact this
set_option maxHeartbeats 2000000
structure Vu(c:Nat)(d:Nx):Prop where
 sp:zd c d
 wd:nQ d
 tl:d.tx.size<=1000
def ed.gd{g:List Nx}(h:ed g)(G:g.length<=1000):∀e∈g,Vu 3 e:=by
 intro e j;have d:=h.nd e j;obtain⟨i,x⟩:=iq.1 j;have F:=(cP.1 x).1;have k:=h.vg.kids x;have J:=Ck.1 (h.vg.val e j);have H:e.tx.size<=100:=by
  by_cases w:e.op=33
  .obtain ⟨q,k⟩:=d.re w;rw[k,bC];have:=aeC q;omega
  .have:=d.tx w;omega
 have z:=d.xW;have A:=d.xX;have B:=d.kl;have C:=d.n;have D:=d.m;have E:=d.u;exact⟨d.sp,⟨⟨io,io⟩,λq y=>by have:=k q y;exact⟨io,io⟩,io,⟨io,io⟩,⟨io,io⟩,⟨io,io⟩,io,⟨io,io⟩,⟨io,io⟩,⟨io,io⟩⟩,io⟩
def fS(n:Nx)(to:List Int):Nx:={n with kids:=n.kids.map λd=>to.getD d.toNat 0}
def n4:List Nx->List Int->List Nx->List Nx×List Int×Int
 |g,to,[]=>(g,to,0)
 |g,to,n::r=>if(a3 g (fS n to)).2.2≠0 then([],[],(a3 g (fS n to)).2.2)else n4 (a3 g (fS n to)).1 (to++[(a3 g (fS n to)).2.1]) r
def MA(g:List Nx)(to:List Int)(n:Nx)(r:List Nx):n4 g to (n::r)=if(a3 g (fS n to)).2.2≠0 then([],[],(a3 g (fS n to)).2.2)else n4 (a3 g (fS n to)).1 (to++[(a3 g (fS n to)).2.1]) r:=rfl
def aaT{n:Nx}{to j:List Int}(e:∀d∈n.kids,0<=d/\d<(to.length:Int)):fS n (to++j)=fS n to:=by unfold fS;congr 1;refine List.map_congr_left λd h=>?_;have:=e d h;simp only[List.getD_eq_getElem?_getD];rw[s6 io]
def aaW{n:Nx}{to:List Int}(d:MdN n):MdN (fS n to):=⟨d.xW,d.xX,by have:=d.kl;simpa[fS]using this,d.n,d.m,d.u,d.tx,d.re,d.li⟩
def Zo{g:List Nx}(q:Vg g){k:Nat}{x:Nx}(h:g[k]? =some x):eo x g 0=some k:=by
 cases w:eo x g 0 with
 |none=>exact absurd (ay h) (sB w)
 |some j=>
  have d:=(q4 w).2;rw[Nat.sub_zero]at d;rcases Nat.lt_trichotomy j k with e|rfl|e
  .exact absurd (ay (i:=j) (by rw[List.getElem?_take,ag e];exact d)) (Co q k x h)
  .rfl
  .exact absurd (ay (i:=k) (by rw[List.getElem?_take,ag e];exact h)) (Co q j x d)
def jJ(i:Nat):List Int:=(List.range i).map λk:Nat=>(k:Int)
def aaV{n:Nx}{i:Nat}(e:∀d∈n.kids,0<=d/\d<(i:Int)):fS n (jJ i)=n:=by
 have:n.kids.map (λd=>(jJ i).getD d.toNat 0)=n.kids:=by
  conv=>rhs;rw[<-List.map_id n.kids]
  refine List.map_congr_left λd h=>?_;have:=e d h;rw[List.getD_eq_getElem?_getD,jJ,s7,List.getElem?_range io];simp;omega
 unfold fS;rw[this]
def V0{g:List Nx}(e:Vg g){i:Nat}{d:Nx}(hd:g[i]? =some d):a3 g d=(g,(i:Int),0):=by
 have h:=e.ok i d hd;have y:bo g d=(d.st,0):=by have:=TU (g:=g.take i) (r:=g.drop i) (n:=d) (by rw[h]) λw j x k q=>e.vars j (List.mem_of_mem_drop x) k d (ay hd) w q;rw[List.take_append_drop,h]at this;exact this
 unfold a3;rw[y,ad (λe=>e rfl)];have z:dc d d.st=d:=rfl;rw[z,Zo e hd]
def MF{g:List Nx}(e:Vg g):∀(m i:Nat),i+m<=g.length->n4 g (jJ i) ((g.drop i).take m)=(g,jJ (i+m),0)
 |0,i,_=>by rw[List.take_zero];rfl
 |m+1,i,k=>by
  have h:g[i]? =some (g[i]'io):=a0 io;rw[List.drop_eq_getElem_cons io,List.take_succ_cons,MA];generalize g[i]'io=d at h;rw[aaV (e.kids h),V0 e h,ad (λe=>e rfl)];have j:jJ i++[(i:Int)]=jJ (i+1):=by simp[jJ,List.range_succ]
  rw[j,MF e m (i+1) io,show i+1+m=i+(m+1)by omega]
section
variable {M:Nat->Prop} {w0 w:I} {L D:List En} {bs:List Nat}
def _root_.Go.W.O.ND(H:O M w0 w L D){P:au}{t e:TypeId}{j:V}{sz bytes:Nat}(k:gg P t e j sz bytes)(n:Nat)(d:n *bytes<=140737488355328){K:Sl->I->Prop}(q:∀s w',s.n=n->O M w0 w' (L++[.row e sz s (madeCells j.cells (n *sz)).toList]) D->K s w')(x:∀b∈bs,En.g b∈L:=by simp):
  ∃(s:Sl) (w':I),Sem.run P (Instr.makeSlice t (.i (n:Int)) (.i (n:Int))) w=.ok s.v w'/\kept bs w w'/\K s w':=by obtain⟨w',y,z,h⟩:=FC k w n d;exact⟨⟨some (aa w.heap.size),n,n⟩,w',y,λb d=>h.cv b (H.own _ (x b d)) id,q _ w' rfl (H.G' h z (by intro b d;simp[aG]at d;omega))⟩
end
def Nt(n:Nat):(madeCells (Value.int .i64 0).cells (n *1)).toList=(List.replicate n (0:Int)).map bX:=by rw[Ns _ _ rfl,List.map_replicate];rfl
def QM{w:I}{s:Sl}{l:List Int}(d:aJ w bF 1 s (l.map bX))(e:0<l.length):∃p,s.a=some p:=by
 have:=(lO d).cell (a0 e) rfl (K:=λk=>s.a=some k) (λp h _=>h);cases j:s.a with
 |none=>rw[j]at this;exact this.elim
 |some p=>exact⟨p,rfl⟩
def aaU{n:Nx}{to:List Int}{i:Nat}{k:Int}(d:n.kids[i]? =some k)(e:0<=k/\k<(to.length:Int)):∃t,to[k.toNat]? =some t/\(fS n to).kids[i]? =some t:=by refine⟨to[k.toNat]'io,a0 io,?_⟩;show(n.kids.map _)[i]? =_;rw[s7,d,Option.map_some,List.getD_eq_getElem?_getD,a0 io];rfl
def aeq{w:I}{d:Nd}{ts:Sl}{to:List Int}(hd:d.P w)(M:bJ w ts to)(hk:∀z∈d.x.kids,0<=z/\z<(to.length:Int))(hl:d.x.kids.length<=1000):
  ah U PY #[d.v,ts.v] w λr A=>IX w (·=fS d.x to) r A/\af w A:=by
 have aa:=bJ.len hd;have ap:=bJ.len M;have an:(fS d.x to).kids.length=d.x.kids.length:=by simp[fS]
 refine yH.aq ((M8 (a:=bE d) (b:=.rd ts (to.map bX)) hd M).aw λG w1 N=>N.aw λH w2 Q=>?_);rw[aa];refine Q.ND pK d.x.kids.length io λC w3 am F=>?_;rw[Nt]at F;have loop:∀(m i:Nat) (K:List Int) (y:I),i+m=d.x.kids.length->K.length=d.x.kids.length->(∀e,e<i->K[e]? =(fS d.x to).kids[e]?)->O F0 w y [.g G,.g H,jI C K] [bE d,.rd ts (to.map bX)]->
   yH.aX ts G d.x.op d.ks d.x.n d.x.m d.x.u d.x.tx d.x.st.k d.x.st.n d.x.st.x H 0 ⟨none,0,0⟩ 0 0 0 (ByteArray.mk #[]) 0 0 0 C (d.x.kids.length:Int) (i:Int) y λr A=>IX w (·=fS d.x to) r A/\af w A:=by
  intro m;induction m with
  |zero=>
   intro i K y hi J D h;refine yH.bR (aT (a7 io) (h.ae λE q=>⟨⟨⟨fS d.x to,C⟩,rfl,rfl,?_,?_⟩,q.fr⟩))
   .have S:K=(fS d.x to).kids:=List.ext_getElem? λe=>by
     rcases Nat.lt_or_ge e i with j|j
     .exact D e j
     .rw [List.getElem?_eq_none io,List.getElem?_eq_none io]
    show bJ E C (fS d.x to).kids;rw[<-S];exact lO (q.get 2)
   .exact rn λb W=>(q.new _ (ay (i:=2) rfl) b W).resolve_right id
  |succ m ih=>
   intro i K y hi J D h;have B:d.x.kids[i]? =some (d.x.kids[i]'io):=a0 io;generalize d.x.kids[i]'io=z at B;have ac:=hk z (ay B);obtain⟨t,ad,ag⟩:=aaU B ac;obtain⟨p,L⟩:=QM (h.get 2) io;have aj:=oW (h.get 2);refine yH.bR (aR (a6 io) ⟨io,io,(show bJ y d.ks d.x.kids from h.getD 0).cell B io λar hq Y=>⟨z,Y,io,io,(show bJ y ts to from h.getD 1).cell ad rfl λq2 ao Z=>⟨t,Z,io,io,?_⟩⟩⟩);rw[L];refine xY (h.qn 2 (aY (i:Int) *1) rfl L (by simp;omega) λE q=>?_);rw[bt _ io];have T:aY (i:Int) *1=i:=io
   rw[T]at q;refine ih (i+1) (K.set i t) E io (by rw[List.length_set];exact J) (λe ai=>?_) (by rw[jI,List.map_set];exact q);rcases Nat.lt_or_ge e i with j|j
   .rw [List.getElem?_set_ne io];exact D e j
   .rw [show e=i by omega,List.getElem?_set_self io];exact ag.symm
 exact loop d.x.kids.length 0 _ w3 io us (λe j=>absurd j io) F
def mT(l:List Nd)(d:Nd):List Nd:=if(bo (xs l) d.x).2≠0\/4096<=l.length\/dc d.x (bo (xs l) d.x).1∈xs l then l else l++[⟨dc d.x (bo (xs l) d.x).1,d.ks⟩]
def Df{l:List Nd}{d:Nd}(e:(a3 (xs l) d.x).2.2=0):xs (mT l d)=(a3 (xs l) d.x).1:=by
 have q:(xs l).length=l.length:=by simp[xs]
 unfold a3 at e ⊢;unfold mT;split at e
 .rename_i h;exact absurd e h
 rename_i h;rw[ad h];cases j:eo (dc d.x (bo (xs l) d.x).1) (xs l) 0 with
 |some i=>rw[ag (.inr (.inr (ay (q4 j).2)))]
 |none=>
  rw[j]at e;dsimp only at e ⊢;split at e
  .cases e
  rename_i k;rw[ad k,ad (by
   rintro(e|e|e)
   .exact h e
   .omega
   .exact sB j e)]
  simp[xs]
def VT{l:List Nd}{d e:Nd}(h:e∈mT l d):e∈l\/(e.ks=d.ks/\e.x.kids=d.x.kids):=by
 unfold mT at h;split at h
 .exact .inl h
 .rcases List.mem_append.1 h with h|h
  .exact .inl h
  .simp only[aF,aW,a2]at h;subst h;exact .inr ⟨rfl,rfl⟩
def VS(l:List Nd)(d:Nd):∃r,mT l d=l++r:=by
 unfold mT;split
 .exact ⟨[],us⟩
 .exact ⟨_,rfl⟩
def Wg{w:I}{y:Nat}{l:List Nd}{own:List Nat}{d:Nd}(F:ho w y l own)(hP:∀e∈d::l,e.P w)(hk:cJ.P w)(af:∀e∈d::l,∀b∈(bE e).fp,b∉own)(an:∀b∈cJ.fp,b∉own)(ao:kz d.x)(W:nQ d.x)(N:Vg (xs l))(hu:∀e∈xs l,0<=e.u)(hl:l.length<=10000):
  ah U PI #[.pointer (some (aa y)),d.v] w λr w'=>r=ab (.tuple #[.i (a3 (xs l) d.x).2.1,.i (a3 (xs l) d.x).2.2])/\rH w y own (mT l d) w':=by
 have ax:(xs l).length=l.length:=by simp[xs]
 have J:O (·∈own) w w [.bu y own l] [.all ((d::l).map bE),cJ]:=O.og _ _ (by
  intro e j;simp only[aF,aW,a2]at j;subst j;exact⟨F,λb q=>aU.1 q⟩) (by
  simp only[List.flatMap_cons,List.flatMap_nil,df];exact rf own) (by
  intro e j;simp only[aF,aW,a2]at j;have no:∀{b:Nat},b∉own->∀e'∈[En.bu y own l],b∉e'.fp:=λq e' ai hm=>by simp only[aF,aW,a2]at ai;subst ai;exact q (aU.1 hm)
  rcases j with rfl|rfl
  .refine ⟨λe j=>?_,λb q=>no ?_⟩
   .obtain ⟨a,M,rfl⟩:=dn.1 j;exact hP a M
   .obtain ⟨e,j,q⟩:=b'.1 (aU.1 q);obtain⟨a,M,rfl⟩:=dn.1 j;exact af a M b q
  .exact ⟨hk,λb q=>no (an b q)⟩)
 have E:∀{T:I} {L:List En},O (·∈own) w T L [.all ((d::l).map bE),cJ]->∀e∈d::l,e.P T:=λJ e j=>(show ∀C∈(d::l).map bE,C.P _ from J.getD 0) (bE e) (dn.2 ⟨e,j,rfl⟩);refine Uu.aq (J.aw λb3 T D=>D.av (Wk (own:=own) (D.get 0) (λe j=>E D e (by simp[j])) (E D d us) (D.getD 1) ao io N.val) ?_);rintro _ w2 rfl H2;refine⟨_,_,_,_,rfl,H2.aw λb6 w3 Y=>cq (λB=>Y.ae λw4 z=>⟨?_,own,?_,z.fr,λC h=>.inl h⟩) (λB=>Y.ae λw4 z=>?_)⟩
 .unfold a3;rw[ag B]
 .unfold mT;rw[ag (.inl B)];exact z.get 0
 have aC:=Ck.1 (TV N.val B);have ar:bo (xs l) d.x=((bo (xs l) d.x).1,0):=by rw[<-B]
 have h:a3 (xs l) d.x=match eo (dc d.x (bo (xs l) d.x).1) (xs l) 0 with
   |some i=>(xs l,(i:Int),0)
   |none=>if 4096<=(xs l).length then([],0,4)else(xs l++[dc d.x (bo (xs l) d.x).1],((xs l).length:Int),0):=by unfold a3;rw[ad io];try rfl
 have G:mT l d=if 4096<=l.length\/dc d.x (bo (xs l) d.x).1∈xs l then l else l++[⟨dc d.x (bo (xs l) d.x).1,d.ks⟩]:=by unfold mT;simp only[B,ne_eq,not_true_eq_false,false_or]
 generalize(bo (xs l) d.x).1=s at *
 let e:Nd:=⟨dc d.x s,d.ks⟩
 have Z:nQ e.x:=⟨W.op,W.ks,W.kl,W.n,W.m,W.u,W.tx,⟨by show _<=s.k;omega,by show s.k<=_;omega⟩,⟨by show _<=s.n;omega,by show s.n<=_;omega⟩,⟨by show _<=s.x;omega,by show s.x<=_;omega⟩⟩;refine z.av (Wh (d:=e) (own:=own) (z.get 0) (E z d us) Z hu) ?_;rintro _ w5 rfl A;refine⟨_,_,rfl,?_⟩;have am:e.x=dc d.x s:=rfl;rw[am];unfold qX;cases H:eo (dc d.x s) (xs l) 0 with
 |some i=>
  rw[H]at h;refine aR rfl ⟨by rw[h],own,?_,A.fr,λC h=>.inl h⟩;rw[G,ag (.inr (ay (q4 H).2))];exact A.get 0
 |none=>
  rw[H]at h;dsimp only at h;have Q:=sB H;have S:ho w5 y l own:=A.get 0;obtain⟨sl,mp,mv,aA,c1,aB,c2,_,_,ac,_,_⟩:=id S;have ap:aJ w5 bP 9 sl (l.flatMap Nd.c):=ac _ (ay (i:=1) rfl);have hn:sl.n=l.length:=Nd.cw ap.a9;refine aT rfl ⟨sl,cellAt (p:=aa y) (ac _ (ay (i:=0) rfl)) rfl rfl,aS (λh4=>⟨?_,own,?_,A.fr,λC h=>.inl h⟩) (λh4=>?_)⟩
  .rw [h,ag io]
  .rw [G,ag (.inl io)];exact S
  rw[ad io]at h;rw[ad (by rintro(F|F);omega;exact Q F)]at G;have hv:Vg (xs l++[dc d.x s]):=.snoc N (Ao ar) Q;refine A.Du 0 rfl (Jj (d:=e) S (E A d us) (λb q=>af d us b q) Z hu io Q (λaj=>?_)) ?_
  .have:=U5 hv (i:=(xs l).length) (d:=dc d.x s) us aj
   rwa[List.take_left]at this
  .rintro _ w6 az rfl K;refine⟨_,rfl,by rw[h,ax],az,?_,K.fr,λC h=>(K.new _ (ay (i:=0) rfl) C (aU.2 h)).symm⟩;rw[G];exact K.get 0
def uw(s:Sl):Sl:=⟨if s.n=0 then s.a else s.a.map (·.add (0 *9)),s.n - 0,s.n - 0⟩
def Kf{w:I}{s:Sl}{vs:List V}(d:bA 9 w s vs):bA 9 w (uw s) vs/\aG (uw s)=aG s:=by
 have e:(uw s).a=s.a:=by
  show(if s.n=0 then s.a else s.a.map (·.add (0 *9)))=s.a;split
  .rfl
  .cases s.a with
   |none=>rfl
   |some p=>rw[Nat.zero_mul,Option.map_some,iV]
 refine⟨⟨d.1,bz _,λh=>by have:=d.2.2.1 (by rw[<-e];exact h);exact⟨this.1,this.1⟩,λi v q=>?_⟩,by unfold aG;rw[e]⟩;obtain⟨p,k,j⟩:=d.2.2.2 i v q;exact⟨p,by rw[e];exact k,j⟩
def aej(s:Sl)(e:s.n<=s.c)(w:I):ah U Pm #[s.v] w λr d=>r=ab (uw s).v/\af w d:=
 TG.ok ⟨io,io,io,io,rfl,Fr.refl _ _⟩
def ael{w:I}{j:Nat}{l x r:List Nd}{own:List Nat}{k:Sl}(H:ho w j l own)(C:GP w k x)(e:l=x++r):
  ah U PK #[.pointer (some (aa j)),.agg #[k.v]] w λr D=>(∃z:Sl,r=ab (.agg #[z.v])/\bA 9 D z (l.flatMap Nd.c)/\∀b∈(En.a9 9 z (l.flatMap Nd.c)).fp,b∈own\/b∈(En.gr k x).fp)/\af w D:=by
 obtain⟨s,mp,P,ad,Z,ag,c2,L,_,B,_,_⟩:=H;have y:aJ w bP 9 s (l.flatMap Nd.c):=B _ (ay (i:=1) rfl);have K:s.n=l.length:=Nd.cw y.a9;have gn:=gz C;have J:s.n<=s.c:=y.a9.2.1;have E:O F0 w w [] [.c j [s.v,.map (some mp),.map (some P)] tE,.row bP 9 s (l.flatMap Nd.c),.gr k x]:=bZ _ (by
  intro ac e;simp only[aF,aW,a2]at e;rcases e with rfl|rfl|rfl
  .exact B _ (ay (i:=0) rfl)
  .exact y
  .exact bd.2 C)
 refine Uw.aq (E.aw λW w1 F=>F.aw λY w2 G=>G.ae λS q=>⟨s,cellAt (p:=aa j) (q.getD 0) rfl rfl,ax (λN=>q.ae λT h=>?_) (λN=>⟨s,cellAt (p:=aa j) (q.getD 0) rfl rfl,q.av (aej s J S) ?_⟩)⟩)
 .have M:r=[]:=by rw[e,bM]at K;exact List.length_eq_zero_iff.1 io
  subst M;rw[df]at e;subst e;exact⟨⟨k,rfl,(bd.1 (h.getD 2)).1,λb d=>.inr (n0.2 (.inl d))⟩,h.fr⟩
 .rintro _ T rfl h;obtain⟨q1,Q⟩:=Kf (h.getD 1:aJ _ _ _ _ _).a9;refine⟨_,rfl,h.ae λw5 A=>⟨⟨uw s,rfl,(Kf (A.getD 1:aJ _ _ _ _ _).a9).1,λb d=>.inl ?_⟩,A.fr⟩⟩;have d:b∈(if l.flatMap Nd.c=[]then[]else aG (uw s)):=d;rw[Q]at d;split at d
  .cases d
  .rw [L];exact b'.2 ⟨_,ay (i:=1) rfl,d⟩
def wk(w:I)(d:Nat->Prop)(j:List Nx×List Int×Int)(y t:Sl)(w':I):Prop:=GR w d j.1 y w'/\bJ w' t j.2.1/\∀b∈(En.rd t (j.2.1.map bX)).fp,w.heap.size<=b
def wk.err(w w':I)(d:Nat->Prop)(e:Int):wk w d ([],[],e) ⟨none,0,0⟩ ⟨none,0,0⟩ w':=⟨GR.nil _ _ _,Rd.nil _,λb h=>by cases h⟩
def afe{d:Nx}{to:List Int}(e:nQ d)(k:∀t∈to,cE t):nQ (fS d to):=⟨e.op,λq j=>by
 obtain⟨a,_,rfl⟩:=dn.1 j;rw[List.getD_eq_getElem?_getD];cases h:to[a.toNat]? with
 |none=>exact⟨dl,dl⟩
 |some t=>exact k t (ay h),by have:=e.kl;simpa[fS]using this,e.n,e.m,e.u,e.tx,e.sk,e.sn,e.sx⟩
def aef{w:I}{C H:Sl}{y q:List Nd}(hg:GP w C y)(hh:GP w H q)(hk:cJ.P w)(mg:ed (xs y))(mh:ed (xs q))(l1:y.length<=1000)(l2:q.length<=1000):
  ah U PD #[.agg #[C.v],.agg #[H.v]] w λr w'=>(∃J t:Sl,r=ab (.tuple #[.agg #[J.v],t.v,.i (n4 (xs y) [] (xs q)).2.2])/\wk w (·∈(En.gr C y).fp) (n4 (xs y) [] (xs q)) J t w')/\af w w':=by
 have gn:=gz hg;have hn:=gz hh;have ba:(xs q).length=q.length:=by simp[xs]
 have a8:(xs y).length=y.length:=by simp[xs]
 have aH:O F0 w w [] [.gr C y,.gr H q,cJ]:=bZ _ (by
  intro e he;simp only[aF,aW,a2]at he;rcases he with rfl|rfl|rfl
  .exact bd.2 hg
  .exact bd.2 hh
  .exact hk)
 have loop:∀(m i F S G D:Nat) (own:List Nat) (lb:List Nd) (to:List Int) (ts:Sl) (E:List En) (w1:I),i+m=q.length->ed (xs lb)->lb.length<=1000+i->(∃r,lb=y++r)->to.length=i->(∀t∈to,0<=t/\t<=10000)->(∀e∈lb,e∈y\/bE e∈E)->(∀e∈E,∀b∈e.fp,w.heap.size<=b)->
   n4 (xs lb) to ((xs q).drop i)=n4 (xs y) [] (xs q)->O F0 w w1 [.g F,.g S,.g G,.bu D own lb,jI ts (to++List.replicate m 0)] ([.gr C y,.gr H q,cJ]++E)->
   yF.aX F C G ⟨none,0,0⟩ (some (aa D)) ts H (H.n:Int) (i:Int) w1 λr w'=>(∃J t:Sl,r=ab (.tuple #[.agg #[J.v],t.v,.i (n4 (xs y) [] (xs q)).2.2])/\wk w (·∈(En.gr C y).fp) (n4 (xs y) [] (xs q)) J t w')/\af w w':=by
  intro m;induction m with
  |zero=>
   intro i F S G D own lb to ts E w1 hi mb aO ao aj ap Z an K M;obtain⟨r,hr⟩:=ao;rw[List.drop_of_length_le io]at K;rw[<-K];refine yF.bR (aT (a7 io) (M.av (ael (M.get 3) (bd.1 (M.getD 0)) hr) ?_));rintro _ w2 ⟨J,rfl,hy,hf⟩ N;refine⟨_,rfl,λw3 f=>?_⟩;have B:=N.ghost f us;have aS:∀b∈(En.a9 9 J (lb.flatMap Nd.c)).fp,b∉[F,G]:=λb j hm=>by
    have hg:En.g b∈[En.g F,.g S,.g G,.bu D own lb,jI ts (to++List.replicate 0 0)]:=by simp only[aF,aW,a2]at hm;rcases hm with rfl|rfl<;>simp
    rcases hf b j with h|h
    .exact u0 N (i:=3) rfl (Jw w2 D own lb) hg (aU.2 h)
    .exact N.dj (.gr C y) us b h (.g b) hg (by simp[En.g])
   have a4:bA 9 w3 J (lb.flatMap Nd.c):=(En.a9 9 J (lb.flatMap Nd.c)).st w2 w3 (λb j hl=>f.cv b hl (aS b j)) hy;have ai:aJ w3 bF 1 ts ((to++List.replicate 0 0).map bX):=B.get 4;have aQ:∀b∈aG ts,w.heap.size<=b:=λb j=>(B.new _ (ay (i:=4) rfl) b j).resolve_right id;refine⟨⟨J,ts,rfl,⟨⟨lb,rfl,⟨a4,λa A=>?_⟩,λb j=>?_⟩⟩,?_,rn aQ⟩,B.fr⟩
   .rcases Z a A with h|h
    .exact (bd.1 (B.getD 0)).2 a h
    .exact B.rd (bE a) (by simp[h])
   .rcases n0.1 j with j|⟨a,A,j⟩
    .rcases hf b j with h|h
     .exact .inr ((N.new _ (ay (i:=3) rfl) b (aU.2 h)).resolve_right id)
     .exact .inl h
    .rcases Z a A with h|h
     .exact .inl (n0.2 (.inr ⟨a,h,j⟩))
     .exact .inr (an _ h b j)
   .rw [List.replicate_zero,df]at ai;exact lO ai
  |succ m ih=>
   intro i F S G D own lb to ts E w1 hi mb aO ao aj ap Z an K M;have gt:q[i]? =some (q[i]'io):=a0 io;have ar:(xs q).drop i=(q[i]'io).x::(xs q).drop (i+1):=by rw[List.drop_eq_getElem_cons (by omega:i<(xs q).length)];simp[xs]
   generalize q[i]'io=z at gt ar;have aK:=ay gt;have gx:=pa gt;have md:MdN z.x:=mh.nd z.x (ay gx);have aA:=mh.vg.kids gx;have a5:=(mh.gd io z.x (ay gx)).wd;rw[ar,MA]at K;refine yF.bR (aR (a6 io) (eJ (bd.1 (M.getD 1)) rfl gt λp hp c=>⟨z.x.op,z.ks,z.x.n,z.x.m,z.x.u,z.x.tx,z.x.st.k,z.x.st.n,z.x.st.x,c.c0,c.c1,c.c2,c.c3,c.c4,c.c5,c.c6,c.c7,c.c8,M.aw λaI w2 N=>N.ae λw3 B=>?_⟩));refine B.g5 (aeq ((bd.1 (B.getD 1)).2 z aK) (lO (B.get 4)) (λam hk=>by have:=aA am hk;rw[bM,aj];omega) (by have:=md.kl;omega)) ?_;rintro _ w4 ⟨e,rfl,ac,az,ax⟩ _ F4;have ac:e.x=fS z.x to:=ac.trans (aaT λam hk=>by have:=aA am hk;omega);have Q:=F4.rd (bE e) az ax;have me:MdN e.x:=ac▸aaW md;have a1:∀t∈to,cE t:=λt ht=>by have:=ap t ht;exact⟨io,io⟩
   have P4:∀a∈e::lb,a.P w4/\∃L∈([En.gr C y,.gr H q,cJ]++E)++[bE e],∀b∈(bE a).fp,b∈L.fp:=λa A=>by
    rcases aF.1 A with rfl|A
    .exact ⟨az,_,List.mem_append_right _ us,λb j=>j⟩
    .rcases Z a A with h|h
     .exact ⟨(bd.1 (Q.getD 0)).2 a h,.gr C y,us,λb j=>n0.2 (.inr ⟨a,h,j⟩)⟩
     .exact ⟨Q.rd (bE a) (by simp[h]),bE a,by simp[h],λb j=>j⟩
   have aB:∀L∈([En.gr C y,.gr H q,cJ]++E)++[bE e],∀b∈L.fp,b∉own:=λL hx b j hm=>Q.dj L hx b j _ (ay (i:=3) rfl) (aU.2 hm);have hu:∀a∈xs lb,0<=a.u:=λa A=>(mb.nd a A).u.1;refine⟨e.x.op,e.ks,e.x.n,e.x.m,e.x.u,e.x.tx,e.x.st.k,e.x.st.n,e.x.st.x,rfl,?_⟩;refine Q.Du 3 rfl (Wg (d:=e) (Q.get 3) (λa A=>(P4 a A).1) (Q.getD 2) (λa A b j=>by obtain⟨_,L,hx,aZ⟩:=P4 a A;exact aB L hx b (aZ b j)) (aB cJ us) (me.sp.tok io) (ac▸afe a5 a1) mb.vg hu io) ?_
   rintro _ w5 aC rfl W;rw[<-ac]at K;refine⟨_,_,rfl,cq (λT=>W.ae λw6 Y=>?_) (λT=>?_)⟩
   .rw [ag T]at K;rw[<-K];exact⟨⟨⟨none,0,0⟩,⟨none,0,0⟩,rfl,wk.err _ _ _ _⟩,Y.fr⟩
   rw[ad (λh=>h T)]at K;obtain⟨_,am,aL,aM,_⟩:=oB T;have hlen:=I5 (xs lb) e.x;have aN:=(cP.1 aM).1;simp only[xs,List.length_map]at hlen aN;obtain⟨bc,hq⟩:=QM (W.get 4) (by simp;omega);have ai:=oW (W.get 4);rw[bM,List.length_replicate,aj]at ai;refine⟨io,io,?_⟩;rw[hq];refine xY (W.qn 4 (aY (i:Int) *1) rfl hq (by simp;omega) λw6 Y=>?_);rw[bt _ io];have e1:aY (i:Int) *1=i:=io
   rw[e1]at Y;have e2:((to++List.replicate (m+1) 0).map bX).set i (bX (a3 (xs lb) e.x).2.1)=((to++[(a3 (xs lb) e.x).2.1])++List.replicate m 0).map bX:=by rw[<-List.map_set,List.replicate_succ,List.set_append,ad io,show i - to.length=0 by omega,List.set_cons_zero,dS];rfl
   have Y:O F0 w w6 [.g F,.g S,.g G,.bu D aC (mT lb e),jI ts ((to++[(a3 (xs lb) e.x).2.1])++List.replicate m 0),.g aI] ([.gr C y,.gr H q,cJ]++E++[bE e]):=by rw[show jI ts ((to++[(a3 (xs lb) e.x).2.1])++List.replicate m 0)=.row bF 1 ts (((to++List.replicate (m+1) 0).map bX).set i (bX (a3 (xs lb) e.x).2.1))by rw[e2]];exact Y
   rw[dS [En.gr C y,.gr H q,cJ] E [bE e]]at Y;obtain⟨r,hr⟩:=ao;obtain⟨r2,aV⟩:=VS lb e;refine ih (i+1) F S G D aC (mT lb e) (to++[(a3 (xs lb) e.x).2.1]) ts (E++[bE e]) w6 io (by rw[Df T];exact zn mb me T) ?_ ⟨r++r2,by rw[aV,hr,dS]⟩ (by simp[aj]) (λt ht=>?_) (λa A=>?_) (λL hx b j=>?_) (by rw[Df T];exact K) (Y.take 5)
   .have:=congrArg List.length (Df T);simp only[xs,List.length_map]at this;omega
   .rcases List.mem_append.1 ht with h|h
    .exact ap t h
    .simp only[aF,aW,a2]at h;rw[h,aL];omega
   .rcases VT A with h|⟨h1,h2⟩
    .exact (Z a h).imp id λh=>List.mem_append_left _ h
    .refine .inr (List.mem_append_right _ ?_);show bE a∈[bE e];unfold bE;rw[h1,h2];simp
   .rcases List.mem_append.1 hx with h|h
    .exact an L h b j
    .simp only[aF,aW,a2]at h;subst h;exact Nat.le_trans B.fr.size (ax b j)
 refine yF.aq (aH.aw λF w1 M=>M.aw λS w2 N=>N.aw λG w3 B=>?_);refine B.g5 (Wj (bd.1 (B.getD 0)) mg.vg (λz hd=>(mg.gd io z hd).wd) io) ?_;rintro _ w4 ⟨D,own,rfl,hr,hf⟩ _ F4;have Q:=F4.own (.bu D own y) hr (λb j=>hf b (aU.1 j));refine⟨_,rfl,?_⟩;rw[hn];refine Q.ND pK q.length io λts w5 ai W=>?_;rw[Nt]at W;have:=loop q.length 0 F S G D own y [] ts [] w5 io mg io ⟨[],us⟩ rfl us (λe he=>.inl he) us (by rw[List.drop_zero]) (by rw[df];exact W);rw[hn]at this;exact this
def Wl(l:List UInt8):ByteArray.mk l.toArray=ba l:=rfl
def Ju:∀(l:List Nd) (i j:Nat) (d:Nd),l[j]? =some d->d.x.st=aZ 1->((i+j:Nat):Int)∈fo l i
 |[],_,_,_,e,_=>by cases e
 |k::l,i,0,d,e,h=>by rw[List.getElem?_cons_zero]at e;cases e;unfold fo;rw[ag h];exact List.mem_cons_self
 |k::l,i,j+1,d,e,h=>by
  rw[List.getElem?_cons_succ]at e;have:=Ju l (i+1) j d e h;rw[show i+1+j=i+(j+1)by omega]at this;unfold fo;split
  .exact List.mem_cons_of_mem _ this
  .exact this
def acd{bs:List Nat}{K:aC}{w:I}{X Y:List UInt8}(e:X=Y)(d:e8 bs U q8 #[.string (ba Y)] w K):e8 bs U q8 #[.string (ba X)] w K:=e▸d
def ace{K:aC}{w:I}{X Y:List UInt8}(e:X=Y)(d:ah U q8 #[.string (ba Y)] w K):ah U q8 #[.string (ba X)] w K:=e▸d
def ae7{kind:Int}{l:List Nd}(k:ed (xs l))(e:VZ kind l)(q:l.length<=23):IS kind l:=⟨k,q,e.1,λh j w=>by
 obtain⟨i,d⟩:=iq.1 j;have x:=(cP.1 d).1;have y:(xs l).length=l.length:=by simp[xs]
 exact(e.2.2 i io).2 h d,λi d=>by have:=(e.2.2 i d).1;omega,e.2.1⟩
def T4(kind:Int):∀d∈xs (cW kind),d.op=0/\(bl d.tx).length=1:=by unfold cW;split<;>split<;>decide
def Nu{kind:Int}{l:List Nd}(k:ed (xs l))(j:VZ kind l)(C:l.length<=(cW kind).length+8){i:Nat}(hi:i<l.length):(eY (i+1) (xs l) i).length<=8015:=by
 have D:(xs l).length=l.length:=by simp[xs]
 have E:(xs (cW kind)).length=(cW kind).length:=by simp[xs]
 obtain⟨r,x⟩:=j.2.1;have e:(xs l)[i]? =some ((xs l)[i]'io):=a0 io;have:=(Nb k.vg k.nd (λd e y=>by
  obtain⟨q,h⟩:=iq.1 e;have:=(cP.1 h).1;exact(j.2.2 q io).2 d h) (s:=(cW kind).length) (λq d h B=>by rw[x,s6 io]at h;exact(T4 kind d (ay h)).1) (λd e w=>(T4 kind d (j.1 d e w)).2) io (i+1) i _ (Nat.lt_succ_self _) e).1
 have A:=(B3 8 (bz _) (i+1 - (cW kind).length) io).1;have z:gk 8=16:=dl
 have F:=(j.2.2 i hi).1;unfold fb at this;omega
namespace IQ
def aaG{w:I}{ls:Sl}{ns:List Int}{kind x y:Int}(bv:∀x∈ns,cE x)(br:ns.length<=9223372036854775807)(hr:bJ w ls ns)(bn:cE kind)(hx:cE x)(aI:cE y)(hk:cJ.P w):
  ah U FH #[ls.v,.i kind,.i x,.i y] w λr w'=>r=ab (.bool true)/\af w w':=by
 have aQ:O F0 w w [] [cJ,.rd ls (ns.map bX)]:=bZ _ (by
  intro ad he;simp only[aF,aW,a2]at he;rcases he with rfl|rfl
  .exact hk
  .exact hr)
 refine pL.aq (aQ.call (jC kind 3 w io bn) ?_);rintro _ w1 rfl H1;refine⟨_,rfl,H1.wO (WK (H1.getD 1) bv br (fP kind 3) 8 io) ?_⟩;generalize fP kind 3=kd;rintro _ w2 ⟨gs,l,rfl,h,bW,b0,hP,bq,L,aH⟩ _ F2;have H2:=(F2.rd (.gr gs l) (bd.2 hP) bq).forget [cJ,.gr gs l] us;have b9:(xs l).length=l.length:=by simp[xs]
 have N:=aaJ h L io;have hG:=ae7 h L io;have bV:gs.n=l.length:=gz hP;refine⟨gs,rfl,H2.wO (Wz (bd.1 (H2.getD 1)) (by unfold eG;omega)) ?_⟩;rintro _ w3 ⟨C,rfl,hB,a9⟩ _ F3;have H3:=F3.rd (.rd C ((fo l 0).map bX)) hB (rn a9);have H3:O F0 w w3 [] [cJ,.gr gs l,.rd C ((fo l 0).map bX)]:=H3;have bT:C.n=(fo l 0).length:=bJ.len hB;have bR:1<=(fo l 0).length:=by
  obtain⟨r,hr⟩:=L.2.1;have H:(xs l)[2]? =some (ot [99] (aZ 1)):=by rw[hr];refine Ab ?_;unfold cW;split<;>split<;>rfl
  have H:(l.map Nd.x)[2]? =some (ot [99] (aZ 1)):=H;rw[s7]at H;obtain⟨A,hd,bm⟩:=Option.map_eq_some_iff.1 H;have:=Ju l 0 2 A hd (by rw[bm];rfl);exact List.length_pos_of_mem this
 have bS:(fo l 0).length<=l.length:=by
  have:∀(l:List Nd) (i:Nat),(fo l i).length<=l.length:=by
   intro l;induction l with
   |nil=>intro i;exact bz _
   |cons A l ih=>
    intro i;have:=ih (i+1);unfold fo;split<;>simp only[cD]<;>omega
  exact this l 0
 have pick:∀(z:Int),cE z->∃u i:Nat,fP z (C.n:Int)=(u:Int)/\u<C.n/\(fo l 0)[u]? =some (i:Int)/\i<l.length/\eF (xs l) i:=λz cd=>by
  have b6:=ly z (C.n:Int) io;obtain⟨u,hu⟩:∃u:Nat,fP z (C.n:Int)=(u:Int):=⟨(fP z (C.n:Int)).toNat,io⟩;have ar:u<(fo l 0).length:=io
  have ao:(fo l 0)[u]? =some ((fo l 0)[u]'ar):=a0 ar;obtain⟨j,A,Z,e2,e3⟩:=Jv l 0 _ (ay ao);rw[Z,Nat.zero_add]at ao;exact⟨u,j,hu,io,ao,(cP.1 e2).1,A.x,pa e2,e3⟩
 refine⟨C,rfl,H3.call (jC x (C.n:Int) w3 io hx) ?_⟩;obtain⟨u,i,hu,ar,bB,aC,bi⟩:=pick x hx;obtain⟨v,j,hv,b8,bD,aG,bj⟩:=pick y aI;rintro _ w4 rfl H4;rw[hu];have a5:bJ w4 C (fo l 0):=H4.getD 2;refine⟨_,rfl,io,io,a5.cell bB io λp hp H=>⟨(i:Int),H,H4.call (Dz N (i+1) i (Nat.lt_succ_self _) io w4 (bd.1 (H4.getD 1))) ?_⟩⟩;rintro _ w5 rfl H5;refine⟨_,rfl,H5.call (jC y (C.n:Int) w5 io aI) ?_⟩;rintro _ w6 rfl H6;rw[hv];have a8:bJ w6 C (fo l 0):=H6.getD 2;refine⟨_,rfl,io,io,a8.cell bD io λp hp H=>⟨(j:Int),H,H6.call (Dz N (j+1) j (Nat.lt_succ_self _) io w6 (bd.1 (H6.getD 1))) ?_⟩⟩;rintro _ w7 rfl H7;have be:∀A∈xs l,A.tx.size<=64:=λA hd=>by
  have J:=h.nd A hd;by_cases aA:A.op=33
  .have:=GC (.inr (J.re aA));omega
  .have:=J.tx aA;omega
 refine⟨_,rfl,H7.call (WE (bd.1 (H7.getD 1)) io h.vg.val be) ?_⟩;rintro _ w8 rfl H8;rw[X4 hG];have H8:=H8.forget [cJ] us;have aa:=abN kd;have b4:(pH (xs (cW kd))).length<=400:=by unfold qd at aa;simp only[Bool.and_eq_true]at aa;exact Nat.le_of_ble_eq_true aa.1.2
 have la:=Nu h L aH aC;have lb:=Nu h L aH aG;have xa:=Gz h.vg (i+1) i (Nat.lt_succ_self _) io;have xb:=Gz h.vg (j+1) j (Nat.lt_succ_self _) io;obtain⟨x1,x2⟩:=aeL aa xa xb;obtain⟨e,k,mG,gG,bF,bG⟩:=aaF aa (T2 kd) h io L.1 bi bj (L.2.2 i aC).1 (L.2.2 j aG).1;have h5:∀{K:List TK} {s:List UInt8} {T:List aN},tokens s=.ok T->T.map kt=K->(∀t,(5,t)∈K->(5,t)∈bY (i+1) (xs l) i\/(5,t)∈bY (j+1) (xs l) j)->oz 12 T:=λ{K s T} N hK h5=>RG (B8 N) λt ht an=>by have J:kt t∈K:=hK▸dn.2 ⟨t,ht,rfl⟩;unfold kt at J;rw[an]at J;have:∃A∈xs l,(A.op=2\/A.op=33)/\t.text=bl A.tx:=(h5 _ J).elim (Ib _ _ _) (Ib _ _ _);obtain⟨A,hd,ho,ad⟩:=this;rw[ad];obtain⟨q,hq⟩:=iq.1 hd;exact aaN (h.nd A hd) (tH h.vg hq).re ho
 have d5:∀t,(5,t)∉hy (xs (cW kd)):=λt d=>by
  have hs:∀z:aM,(5,t)∉ey z:=λz d=>by unfold ey at d;split at d<;>simp at d
  unfold hy at d;obtain⟨A,_,d⟩:=b'.1 d;unfold nX at d;simp[hs]at d
 have m5:∀t,(5,t)∉mw:=λt J=>by
  have:mw.all (λbE=>decide (bE.1≠5))=true:=dl
  have:=List.all_eq_true.1 this _ J;simp at this
 have k1:∀t z,(5,t)∈(hy (xs (cW kd))++mw++np (bY (i+1) (xs l) i) (bY (j+1) (xs l) j))++[(6,z)]->(5,t)∈bY (i+1) (xs l) i\/(5,t)∈bY (j+1) (xs l) j:=λt z d=>by
  simp[d5,m5,np,jr,de]at d;rcases d with d|d|d|d
  .exact .inl d
  .exact .inr d
  .exact .inl d
  .exact .inr d
 have k2:∀t z,(5,t)∈(hy (xs (cW kd))++rB (bY (i+1) (xs l) i) (bY (j+1) (xs l) j))++[(6,z)]->(5,t)∈bY (i+1) (xs l) i\/(5,t)∈bY (j+1) (xs l) j:=λt z d=>by
  simp[d5,rB,jr,de]at d
  grind
 generalize bY (i+1) (xs l) i=KA at *;generalize bY (j+1) (xs l) j=KB at *;generalize eY (i+1) (xs l) i=E at *;generalize eY (j+1) (xs l) j=B at *;generalize pH (xs (cW kd))=D at *;have bo:(qt D E B).length<=65000:=by
  have:xz.length<=130/\zi.length<=20/\zj.length<=20/\zk.length<=20:=dl
  unfold qt;simp only[bM,cD,gX];omega
 have bp:(tv D E B).length<=65000:=by
  have:nT.length<=20/\zy.length<=20/\zA.length<=20/\zB.length<=20:=dl
  unfold tv;simp only[bM,cD,gX];omega
 have aJ:∀{s:List UInt8} {K:List TK},cL s K->s.length<=65000->(∀t z,(5,t)∈K++[(6,z)]->(5,t)∈KA\/(5,t)∈KB)->(∀T t,T.map kt=K++[(6,t)]->∃y,hf T (T.length+1) kh=.ok y/\y.s.g=e/\y.cs=k)->
   ∃y,kY s=.ok y/\y.s.g=e/\y.cs=k/\∀T,tokens s=.ok T->oz 12 T:=λ{s K} hx hl an bA=>by
  obtain⟨E,hA,a4⟩:=hx.lf;have ap:=of_lex hA io;have aB:(E++[(⟨6,[],s.length⟩:aN)]).map kt=K++[(6,[])]:=by rw[List.map_append,a4];rfl
  obtain⟨y,y1,y2,y3⟩:=bA _ _ aB;refine⟨y,?_,y2,y3,λT N=>?_⟩
  .unfold kY;rw[ap];exact y1
  .rw [ap]at N;cases N;exact h5 ap aB (λt=>an t _)
 obtain⟨y1,p1,g1,c1,t1⟩:=aJ x1 bo k1 bF;obtain⟨y2,p2,g2,c2,t2⟩:=aJ x2 bp k2 bG;have Z:bl (ba (qt D E B))=qt D E B:=rfl;have bU:k.length<=100000:=by rw[<-c1];exact aaH p1 io
 have bk:∀c∈k,nJ e c:=by have:=(ab7 (R:=λ_=>True) p1 λT _ t _ _ _=>trivial).2.1;rw[g1,c1]at this;exact this
 obtain⟨bO,bP⟩:=gG;have gN:∀{q:Sl} {F:List Nd} {c1:Sl} {w9:I},xs F=e->(mA q F c1 k).P w9->q.n=e.length/\F.length=e.length/\c1.n=k.length:=λ{q F c1 w9} hx hP=>by
  have h1:=gz (o0 hP).1;have h2:F.length=e.length:=by rw[<-hx];simp[xs]
  exact⟨io,h2,zQ (o0 hP).2⟩
 refine⟨_,rfl,?_⟩;show pL.aV (ba E) (ba B) (ba D) (ba xz) w8 _;dsimp only[pL.aV,ai];simp only[Wl,cg];have ce:xz.length<=130:=dl
 repeat (refine⟨ov (by simp only[bC,bM,cD,gX];omega) (by simp only[bC,cD,gX];omega),?_⟩)
 refine ace (Y:=qt D E B) (by simp[qt,zi,zj,zk]) ((RB H8 us (s:=ba (qt D E B)) (by rw[bC];omega) t1 p1).mono ?_);rintro _ w9 ⟨q1,F,S,rfl,ag,H9⟩;rw[g1]at ag;rw[c1]at H9;refine⟨q1,S,_,_,rfl,H9.aw λb1 ci aS=>?_⟩;repeat (refine⟨ov (by simp only[bC,bM,cD,gX];omega) (by simp only[bC,cD,gX];omega),?_⟩)
 refine aS.ae λck aU=>acd (Y:=tv D E B) (by simp[tv,nT,zy,zA,zB]) (acb aU us (s:=ba (tv D E B)) (by rw[bC];omega) t2 p2 λq2 l2 W cl aj az=>?_);rw[g2]at aj;rw[c2]at az;refine⟨q2,W,_,_,rfl,az.aw λb2 cn aX=>cq (λd=>absurd rfl d) (λ_=>cq (λd=>absurd rfl d) (λ_=>aX.ae λaK G=>?_))⟩;have G:O F0 w aK [.g b1,.g b2] [cJ,mA q1 F S k,mA q2 l2 W k]:=G;obtain⟨n1,n2,n3⟩:=gN ag (G.getD 1);obtain⟨ch,n5,n6⟩:=gN aj (G.getD 2);show pL.bL b1 q1 S 0 b2 q2 W aK _;dsimp only[pL.bL,ai];have hj:n4 (xs F) [] (xs l2)=(e,jJ e.length,0):=by have:=MF mG.vg e.length 0 io;rw[List.drop_zero,List.take_length,Nat.zero_add]at this;rw[ag,aj];exact this
 refine cq (λd=>absurd rfl d) (λ_=>cq (λd=>absurd io d) (λ_=>?_));refine G.g5 (aef (o0 (G.getD 1)).1 (o0 (G.getD 2)).1 (G.getD 0) (by rw[ag];exact mG) (by rw[aj];exact mG) io io) ?_;rw[hj];rintro _ aL ⟨y',t,rfl,⟨hJ,bb,bc⟩⟩ _ aO;have ac:=aO.rd (.rd t ((jJ e.length).map bX)) bb bc;have ac:O F0 w aL [.g b1,.g b2] [cJ,mA q1 F S k,mA q2 l2 W k,.rd t ((jJ e.length).map bX)]:=ac;have cc:y'.n=e.length:=by obtain⟨lj,Z,e2,_⟩:=hJ;have:=gz e2;have Z:xs lj=e:=Z;rw[this,<-Z];simp[xs]
 have b7:t.n=e.length:=by have:=bJ.len (show bJ aL t (jJ e.length)from ac.getD 3);rw[this];simp[jJ]
 refine⟨y',t,_,rfl,ac.aw λb3 co a1=>cq (λd=>absurd rfl d) (λ_=>cq (λd=>absurd io d) (λ_=>cq (λd=>absurd io d) (λ_=>a1.ae λbN a3=>?_)))⟩;have loop:∀(m i:Nat) (am:I),i+m=k.length->O F0 w am [.g b1,.g b2] [cJ,mA q1 F S k,mA q2 l2 W k,.rd t ((jJ e.length).map bX)]->pL.CR b1 q1 S b2 q2 W t (i:Int) am λr w'=>r=ab (.bool true)/\af w w':=by
  intro m;induction m with
  |zero=>
   intro i am hi Q;refine pL.IL (aT (a7 io) (Q.av (Xe (Q.getD 0)) ?_));rintro _ ax rfl M;exact⟨_,rfl,rfl,M.fr⟩
  |succ m ih=>
   intro i am hi Q;have h:k[i]? =some (k[i]'io):=a0 io;generalize k[i]'io=c at h;obtain⟨o1,o2,_⟩:=bk c (ay h);obtain⟨q,hq⟩:∃q:Nat,c.nd=(q:Int):=⟨c.nd.toNat,io⟩;have bx:q<e.length:=by rcases o2 with d|d<;>omega
   have bu:(jJ e.length)[q]? =some (q:Int):=by simp[jJ,bx]
   refine pL.IL (aR (a6 io) ⟨io,io,zP (o0 (Q.getD 2)).2 h λp hp ad=>⟨(q:Int),by have:=ad.c5;rw[hq]at this;exact this,aT (a7 io) (aT (a7 io) ⟨io,io,zP (o0 (Q.getD 1)).2 h λp' bw _=>Q.ae λax M=>⟨_,(Kl (o0 (M.getD 1)).2 h bw).c1,io,io,zP (o0 (M.getD 2)).2 h λp2 _ e2=>⟨_,e2.c1,aT us ⟨io,io,(show bJ ax t (jJ e.length)from M.getD 3).cell bu (by rw[Int.toNat_natCast]) λp3 _ bg=>⟨_,bg,io,io,zP (o0 (M.getD 1)).2 h λp4 _ e4=>⟨_,e4.c5,cq (λd=>absurd hq.symm d) (λ_=>?_)⟩⟩⟩⟩⟩⟩)⟩⟩);rw[bt _ io];exact ih (i+1) ax io M
 exact loop k.length 0 bN io (a3.take 2)
end IQ
def ae2{P:au}{W:I}{n:String}{g m:Nat}{cs:Array V}{vs:List V}(h:P.globalNamed n=some g)(q:W.var? P n=some cs)(e:cs.toList=vs)(k:m=vs.length):Rd W ⟨some (aa g),m,m⟩ vs:=by refine Hj k (bz _) (λd=>by cases d) λi v j=>⟨aa g,rfl,?_⟩;rw[show(aa g).add i=⟨g,i,none⟩from I6 g i,World.var?_cell h q i,<-j,<-e,Array.getElem?_toList]
def aci{W:I}(j:laidMetH U [("math/bits.deBruijn32tab",Rows.laid_math_bits_deBruijn32tab),("math/bits.deBruijn64tab",Rows.laid_math_bits_deBruijn64tab),("internal/strconv.uint64pow10",Rows.laid_internal_strconv_uint64pow10),("strconv.ErrRange",Rows.laid_strconv_ErrRange),("strconv.ErrSyntax",Rows.laid_strconv_ErrSyntax),("enthymeme/term.kidCounts",Rows.laid_enthymeme_term_kidCounts)] W):cJ.P W:=by rw[MakeChecks.laidMetH_plain _ _ _ (by kernel_rfl)]at j;obtain⟨g,t,x,fuel,p,h,k,q,w⟩:=Lib.laidMet.reads j (n:="enthymeme/term.kidCounts") (d:=Lib.tabData .i64 Aj) (.tail _ (.tail _ (.tail _ (.tail _ (.tail _ (.head _))))));obtain rfl:=Option.some.inj ((show Tryz.prog.globalNamed "enthymeme/term.kidCounts"=some 0 by kernel_rfl).symm.trans h);obtain rfl:=Option.some.inj ((show(Tryz.prog.globals[0]?).map (·.type)=some aeO by kernel_rfl).symm.trans k);exact ae2 h q (Lib.cells_of_tab (e:=bF) (n:=35) (by kernel_rfl) (by kernel_rfl) (by kernel_rfl) (by kernel_rfl) w) rfl
def parseMacros_walk(W:I)(h:laidMetH U [("math/bits.deBruijn32tab",Rows.laid_math_bits_deBruijn32tab),("math/bits.deBruijn64tab",Rows.laid_math_bits_deBruijn64tab),("internal/strconv.uint64pow10",Rows.laid_internal_strconv_uint64pow10),("strconv.ErrRange",Rows.laid_strconv_ErrRange),("strconv.ErrSyntax",Rows.laid_strconv_ErrSyntax),("enthymeme/term.kidCounts",Rows.laid_enthymeme_term_kidCounts)] W)(ls:Sl)(d x1 e:Int)(w0:ArgNums W ls)(x:cE d)(y:cE x1)(z:cE e):
  ah U FH #[ls.v,.i d,.i x1,.i e] W λr w=>r=ab (.bool true)/\af W w:=by have j:=aci h;obtain⟨B,k,A,q⟩:=w0;exact IQ.aaG q io k x y z j
end Go.Proofs.YtkbmpalepmakmaaGreatDoor
end
