import Derived.Test.YtnaglpcbkhjpnaaGreatDoorU
import Derived.Test.YtnaglpcbkhjpnaaGreatDoorW
set_option linter.unusedVariables false
set_option linter.defProp false
set_option maxRecDepth 100000
namespace Go.Proofs.YtnaglpcbkhjpnaaGreatDoor
open Go renaming World->J,Calls->aj,Program->aH,Value->aa,TypeId->aC,Ending->cE
open Go.IntKind renaming wrap->ah
open _root_.Int renaming toNat->a5,toNat_natCast->bo
open Go.IntWalk renaming i64_in->aN
open _root_.Bool renaming and_eq_true->bH,not_eq_true->jB
open _root_.Nat renaming le_refl->bm,le_trans->bz,zero_le->dI,mul_le_mul_right->pS,beq_eq->eO
open _root_.Prod.mk renaming injEq->eW
open _root_.Option.some renaming inj->e5,injEq->fq
open _root_.Array renaming replicate->hR
open Go.Proofs.Tryz renaming prog->V
open _root_.Decidable renaming decide->au
open Go.Ending renaming returned->ae
open List renaming mem_append->aW,mem_cons->aq,not_mem_nil->aL,mem_of_getElem?->aG,getElem?_eq_getElem->a',getElem?_eq_some_iff->cV,mem_append_left->bG,mem_append_right->dL,mem_flatMap->bX,mem_map->bK,length_cons->bI,append_assoc->cN,length_take->eT,flatMap_append->de,flatMap_cons->cU,mem_iff_getElem?->hO,mem_cons_of_mem->fF,mem_cons_self->oy,take_append_drop->np,drop_eq_getElem_cons->dw,take_add_one->dM,map_cons->hn,drop_drop->qL,getElem?_set_self->kq,drop_of_length_le->du,take_of_length_le->eh
open Go Go.W
def G9(n:Nat)(h:n<18446744073709551616)(r:List UInt8):g8 ⟨eF n++r,0⟩=(n,⟨r,0⟩):=by unfold g8;rw[ag ws,Ko 9 0 n r rfl (by simpa using h) co]
def lV(n:Int)(h:aX n)(r:List UInt8):bT ⟨cd n++r,0⟩=(n,⟨r,0⟩):=by unfold bT cd;rw[G9 _ (Cp n h.1 h.2),afS]
def Sz(n:Nat)(h:n<18446744073709551616)(r:List UInt8)(d:n<=r.length):nq ⟨eF n++r,0⟩=(n,⟨r,0⟩):=by unfold nq;rw[G9 n h];simp only[];rw[ag ws,ag co]
def Bi(b:List UInt8)(h:b.length<18446744073709551616)(r:List UInt8):fZ ⟨ea b++r,0⟩=(b,⟨r,0⟩):=by unfold fZ ea;rw[cN,Sz _ h _ ws];simp
def SC:∀(l:List Int) (r:List UInt8),(∀d∈l,aX d)->gL l.length ⟨l.flatMap cd++r,0⟩=(l,⟨r,0⟩)
 |[],r,_=>rfl
 |d::l,r,h=>by simp only[bI,gL,cU,cN];rw[lV d (h d ws),];simp only[];rw[ag ws,SC l r λk j=>h k (by simp[j])];simp
def z1(n:Nat):1<=(eF n).length:=by
 have:=Zy n;cases d:eF n with
 |nil=>exact absurd d this
 |cons=>simp
def LN:∀(l:List Int),l.length<=(l.flatMap cd).length
 |[]=>ws
 |d::l=>by have j:=z1 (zz d);have h:=LN l;have:(cd d).length=(eF (zz d)).length:=rfl;simp at h ⊢;omega
def vw(l:List Int)(h:l.length<18446744073709551616)(hi:∀d∈l,aX d)(r:List UInt8):gp ⟨dS l++r,0⟩=(l,⟨r,0⟩):=by unfold gp dS;rw[cN,Sz _ h _ (by have:=LN l;simp at this ⊢;omega)];simp only[];rw[ag ws,SC l r hi]
def Z0{w0 w Y:J}{own:List Nat}(F:af w0 w)(n:∀d∈own,w0.heap.size<=d)(f:Fr (·∈own) w Y):af w0 Y:=F.VE f n
def acd{w0 w:J}{own j:List Nat}(F:af w0 w)(n:∀d∈own,w0.heap.size<=d)(o:∀d∈j,d∈own\/w.heap.size<=d):∀d∈j,w0.heap.size<=d:=λd k=>by
 rcases o d k with h|h
 .grind
 .exact bz F.size h
def SB(st:RS):(nq st).1<=st.bs.length/\(nq st).2.bs.length<=st.bs.length:=by
 have d:=Bj (st:=st) (bm _);unfold nq;by_cases h:(g8 st).2.err≠0
 .simp only[av h];exact⟨dI _,d⟩
 .simp only[ag h];by_cases j:(g8 st).2.bs.length<(g8 st).1
  .simp only[av j];exact⟨dI _,d⟩
  .simp only[ag j];exact⟨co,d⟩
def SD:∀(n:Nat) (st:RS),(gL n st).1.length<=n/\∀h∈(gL n st).1,aX h
 |0,st=>⟨bm _,by simp[gL]⟩
 |n+1,st=>by
  simp only[gL];by_cases k:(bT st).2.err≠0
  .simp only[av k];exact⟨ws,ws⟩
  .simp only[ag k];by_cases j:(gL n (bT st).2).2.err≠0
   .simp only[av j];exact⟨ws,ws⟩
   .simp only[ag j];have q:=SD n (bT st).2;refine⟨by simp;exact q.1,λh d=>?_⟩;rcases aq.1 d with rfl|d
    .exact VM _ (vy st)
    .exact q.2 h d
end Go.Proofs.YtnaglpcbkhjpnaaGreatDoor
namespace Go.W
open Go renaming World->J,Calls->aj,Program->aH,Value->aa,TypeId->aC,Ending->cE
open Go.IntKind renaming wrap->ah
open _root_.Int renaming toNat->a5,toNat_natCast->bo
open Go.IntWalk renaming i64_in->aN
open _root_.Bool renaming and_eq_true->bH,not_eq_true->jB
open _root_.Nat renaming le_refl->bm,le_trans->bz,zero_le->dI,mul_le_mul_right->pS,beq_eq->eO
open _root_.Prod.mk renaming injEq->eW
open _root_.Option.some renaming inj->e5,injEq->fq
open _root_.Array renaming replicate->hR
open Go.Proofs.Tryz renaming prog->V
open _root_.Decidable renaming decide->au
open Go.Ending renaming returned->ae
open List renaming mem_append->aW,mem_cons->aq,not_mem_nil->aL,mem_of_getElem?->aG,getElem?_eq_getElem->a',getElem?_eq_some_iff->cV,mem_append_left->bG,mem_append_right->dL,mem_flatMap->bX,mem_map->bK,length_cons->bI,append_assoc->cN,length_take->eT,flatMap_append->de,flatMap_cons->cU,mem_iff_getElem?->hO,mem_cons_of_mem->fF,mem_cons_self->oy,take_append_drop->np,drop_eq_getElem_cons->dw,take_add_one->dM,map_cons->hn,drop_drop->qL,getElem?_set_self->kq,drop_of_length_le->du,take_of_length_le->eh
def GN{w:J}{e:aC}{sz:Nat}{s:Sl}{vs:List aa}(h:aF w e sz s vs)(i:Nat)(hi:i<vs.length)(v:aa):
  ∃p,s.a=some p/\p.block∈ax s/\(w.cell? (p.add i)).isSome=true/\w.frozen? (p.add i)=false/\aF (w.setCell (p.add i) v) e sz s (vs.set i v)/\Fr (·∈ax s) w (w.setCell (p.add i) v):=by
 have B:=h.len;rcases h.cases with⟨rfl,rfl⟩|⟨g,cur,d,j,k,x,y,z⟩
 .simp at hi
 .have C:s.n *sz<=s.c *sz:=pS _ k;have A:i<cur.size:=co
  have q:g∈ax s:=by simp[ax,d]
  refine⟨⟨g,0,none⟩,d,q,?_,frozenAt (p:=⟨g,0,none⟩) j,?_,Fr.set _ _ _ (by rw[jG];exact q)⟩
  .rw [cellAt (p:=⟨g,0,none⟩) (v:=cur[i]) j rfl (by simp[A])];rfl
  .refine ⟨by simpa using h.1,.inr ⟨g,s.c,cur.setIfInBounds i v,?_,dI _,?_,k,x,by simpa using y,?_⟩⟩
   .obtain ⟨a,n,c⟩:=s;simp only at d;subst d;rfl
   .have:=setAt (p:=⟨g,0,none⟩) (i:=i) (v:=v) j rfl;simpa using this
   .rw [Array.toList_setIfInBounds,List.take_set,z]
section
variable {M:Nat->Prop} {w0 w:J} {L D:List En} {bs:List Nat}
def LH.Ac(H:LH M w0 w L D){i:Nat}{e:aC}{sz:Nat}{s:Sl}{xs:List aa}(hi:L[i]? =some (.row e sz s xs)){b:Nat}(y:En.g b∈L):b∉ax s:=λk=>by
 obtain⟨A,d⟩:=hO.1 y;by_cases j:i=A
 .subst j;rw[hi]at d;have q:En.row e sz s xs=En.g b:=e5 d;have x:(En.row e sz s xs).P=(En.g b).P:=by rw[q]
  have h:(En.g b).P ({w with heap:=hR (b+1) (.map #[] 0)}):=by show b<_;simp
  rw[<-x]at h;obtain⟨B,f,z⟩:=(aF.row (show aF ({w with heap:=hR (b+1) (.map #[] 0)}) e sz s xs from h)).v3 b k;simp at z
 .exact n4 H.nd hi d j b k (by simp[En.g])
def LH.oJ(H:LH M w0 w L D)(i a c:Nat){e:aC}{sz:Nat}{s:Sl}{xs:List aa}{v:aa}{p:Addr}{K:J->Prop}(hi:L[i]? =some (.row e sz s xs))(A:s.a=some p)(y:a+c<xs.length)(x:∀j,LH M w0 j (L.set i (.row e sz s (xs.set (a+c) v))) D->K j)(bF:∀b∈bs,En.g b∈L:=by simp):aS w ((p.add a).add c) v λk=>kept bs w k/\K k:=by obtain⟨G,h,F,B,C,E,q⟩:=GN (H.get i hi) (a+c) y v;rw[A]at h;cases h;rw[add_add];refine⟨B,C,λb d=>?_,x _ (H.ha i (.row e sz s (xs.set (a+c) v)) hi q E (λb d=>.inl d))⟩;exact q.cC b (H.own _ (bF b d)) λz=>H.Ac hi (bF b d) z
end
def i4:List Bool->List En->List En
 |true::m,a::l=>a::i4 m l
 |false::m,_::l=>i4 m l
 |_,_=>[]
def vJ:∀(m:List Bool) (l:List En),(i4 m l).Sublist l
 |[],l=>by unfold i4;exact List.nil_sublist _
 |true::m,[]=>by unfold i4;exact List.nil_sublist _
 |false::m,[]=>by unfold i4;exact List.nil_sublist _
 |true::m,a::l=>by unfold i4;exact(vJ m l).cons_cons a
 |false::m,a::l=>by unfold i4;exact(vJ m l).cons a
def afd{α β:Type}{f:α->List β}{l m:List α}(h:l.Sublist m):(l.flatMap f).Sublist (m.flatMap f):=by
 induction h with
 |slnil=>exact List.Sublist.refl _
 |cons a _ d=>rw[cU];exact d.trans (List.sublist_append_right _ _)
 |cons_cons a _ d=>rw[cU,cU];exact(List.Sublist.refl _).append d
def LH.i4{M:Nat->Prop}{w0 w:J}{L D:List En}(H:LH M w0 w L D)(m:List Bool):LH M w0 w (i4 m L) D:=
 ⟨H.fr,λe d=>H.own e ((vJ m L).subset d),H.rd,λe d=>H.new e ((vJ m L).subset d),(afd (vJ m L)).nodup H.nd,λe d b j h k=>H.dj e d b j h ((vJ m L).subset k)⟩
def gq{s:Sl}{vs:List aa}{n:Nat}(h:∀b∈ax s,n<=b):∀b∈(En.rd s vs).fp,n<=b:=λb d=>by
 have:b∈(if vs=[]then[]else ax s):=d;split at this
 .cases this
 .exact h b this
def o'{M:Nat->Prop}{w0 w:J}{L D:List En}(H:LH M w0 w L D){i:Nat}{e:En}(hi:L[i]? =some e)(x:∀(b:Nat),¬e.P ({w with heap:=hR (b+1) (.map #[] 0)})){b:Nat}(k:En.g b∈L):b∉e.fp:=by
 obtain⟨y,d⟩:=hO.1 k;by_cases h:i=y
 .subst h;rw[hi]at d;have j:e=En.g b:=e5 d;exfalso;refine x b ?_;rw[j];show b<_;simp
 .intro q;exact n4 H.nd hi d h b q (by simp[En.g])
section
variable {M:Nat->Prop} {w0 w:J} {L D:List En} {bs:List Nat}
def LH.pG(H:LH M w0 w L D)(i j:Nat){e:aC}{sz:Nat}{s:Sl}{xs:List aa}{v:aa}{p:Addr}{K:J->Prop}(hi:L[i]? =some (.row e sz s xs))(B:s.a=some p)(z:j<xs.length)(y:∀k,LH M w0 k (L.set i (.row e sz s (xs.set j v))) D->K k)(bF:∀b∈bs,En.g b∈L:=by simp):aS w (p.add j) v λq=>kept bs w q/\K q:=by obtain⟨I,h,G,C,E,F,x⟩:=GN (H.get i hi) j z v;rw[B]at h;cases h;refine⟨C,E,λb d=>?_,y _ (H.ha i (.row e sz s (xs.set j v)) hi x F (λb d=>.inl d))⟩;exact x.cC b (H.own _ (bF b d)) λA=>H.Ac hi (bF b d) A
end
def qF{p:Addr}{K:Addr->Prop}(h:K p):dV (some p) K:=h
def Ho{w:J}{e:aC}{s:Sl}{vs:List aa}(h:aF w e 1 s vs){X:Int}{i:Nat}(d:X=(i:Int)){v:aa}(hi:vs[i]? =some v){K:Addr->Prop}(j:∀p,s.a=some p->w.cell? (p.add (a5 X *1))=some v->K p):
  fo s X K:=by have q:=h.len;have k:=(cV.1 hi).1;subst d;exact⟨co,co,Rd.get h.gK (i:=i) (v:=v) hi ws j⟩
def UE{w:J}{p:Addr}{v:aa}{K:J->Prop}(h:aS w p v λd=>kept [] w d/\K d):aS w p v K:=⟨h.1,h.2.1,h.2.2.2⟩
end Go.W
namespace Go.Proofs.YtnaglpcbkhjpnaaGreatDoor
open Go renaming World->J,Calls->aj,Program->aH,Value->aa,TypeId->aC,Ending->cE
open Go.IntKind renaming wrap->ah
open _root_.Int renaming toNat->a5,toNat_natCast->bo
open Go.IntWalk renaming i64_in->aN
open _root_.Bool renaming and_eq_true->bH,not_eq_true->jB
open _root_.Nat renaming le_refl->bm,le_trans->bz,zero_le->dI,mul_le_mul_right->pS,beq_eq->eO
open _root_.Prod.mk renaming injEq->eW
open _root_.Option.some renaming inj->e5,injEq->fq
open _root_.Array renaming replicate->hR
open Go.Proofs.Tryz renaming prog->V
open _root_.Decidable renaming decide->au
open Go.Ending renaming returned->ae
open List renaming mem_append->aW,mem_cons->aq,not_mem_nil->aL,mem_of_getElem?->aG,getElem?_eq_getElem->a',getElem?_eq_some_iff->cV,mem_append_left->bG,mem_append_right->dL,mem_flatMap->bX,mem_map->bK,length_cons->bI,append_assoc->cN,length_take->eT,flatMap_append->de,flatMap_cons->cU,mem_iff_getElem?->hO,mem_cons_of_mem->fF,mem_cons_self->oy,take_append_drop->np,drop_eq_getElem_cons->dw,take_add_one->dM,map_cons->hn,drop_drop->qL,getElem?_set_self->kq,drop_of_length_le->du,take_of_length_le->eh
open Go Go.W
def bN{w:J}(D:List En)(h:∀e∈D,e.P w):LH F0 w w [] D:=LH.start D h
inductive Rx where
 |mk (k:Int) (lo hi:UInt8) (l:List Rx)
inductive I where
 |mk (k:Int) (lo hi:UInt8) (s:Sl) (l:List I)
namespace I
def k:I->Int|.mk k _ _ _ _=>k
def lo:I->UInt8|.mk _ lo _ _ _=>lo
def hi:I->UInt8|.mk _ _ hi _ _=>hi
def s:I->Sl|.mk _ _ _ s _=>s
def l:I->List I|.mk _ _ _ _ l=>l
mutual
def rx:I->Rx|.mk k lo hi _ l=>.mk k lo hi (aw l)
def aw:List I->List Rx
 |[]=>[]
 |t::l=>t.rx::aw l
end
mutual
def sz:I->Nat|.mk _ _ _ _ l=>1+a7 l
def a7:List I->Nat
 |[]=>0
 |t::l=>t.sz+a7 l
end
def c(t:I):List aa:=[.int .i64 t.k,.int .u8 (t.lo.toNat:Int),.int .u8 (t.hi.toNat:Int),t.s.v]
abbrev v(t:I):aa:=.agg #[.int .i64 t.k,.int .u8 (t.lo.toNat:Int),.int .u8 (t.hi.toNat:Int),t.s.v]
abbrev row(s:Sl)(l:List I):En:=.bd 4 s (l.flatMap c)
mutual
def P(w:J):I->Prop|.mk _ _ _ s l=>bL 4 w s (l.flatMap c)/\Ps w l
def Ps(w:J):List I->Prop
 |[]=>True
 |t::l=>P w t/\Ps w l
end
mutual
def fp:I->List Nat|.mk _ _ _ s l=>(row s l).fp++be l
def be:List I->List Nat
 |[]=>[]
 |t::l=>fp t++be l
end
def ka(t:I):(c t).length=4:=rfl
def e7(l:List I):(l.flatMap c).length=l.length *4:=qn c 4 ka l
def cH{w:J}{s:Sl}{l:List I}(h:bL 4 w s (l.flatMap c)):s.n=l.length:=by have:=h.1;rw[e7]at this;omega
def fP:∀l:List I,aw l=l.map rx
 |[]=>rfl
 |t::l=>by unfold aw;rw[fP l];rfl
mutual
def cC{w Y:J}:∀(t:I),(∀b∈t.fp,b<w.heap.size->Y.heap[b]? =w.heap[b]?)->P w t->P Y t
 |.mk k lo hi s l,d,j=>by unfold fp at d;unfold P at j ⊢;exact⟨(row s l).st w Y (λb h=>d b (bG _ h)) j.1,keeps l (λb h=>d b (dL _ h)) j.2⟩
def keeps{w Y:J}:∀(l:List I),(∀b∈be l,b<w.heap.size->Y.heap[b]? =w.heap[b]?)->Ps w l->Ps Y l
 |[],_,_=>by unfold Ps;trivial
 |t::l,d,j=>by unfold be at d;unfold Ps at j ⊢;exact⟨cC t (λb h=>d b (bG _ h)) j.1,keeps l (λb h=>d b (dL _ h)) j.2⟩
end
mutual
def lt{w:J}:∀(t:I),P w t->∀b∈t.fp,b<w.heap.size
 |.mk k lo hi s l,h,b,d=>by
  unfold fp at d;unfold P at h;rcases aW.1 d with d|d
  .exact (row s l).lt w h.1 b d
  .exact FG l h.2 b d
def FG{w:J}:∀(l:List I),Ps w l->∀b∈be l,b<w.heap.size
 |[],_,b,d=>by unfold be at d;cases d
 |t::l,h,b,d=>by
  unfold be at d;unfold Ps at h;rcases aW.1 d with d|d
  .exact lt t h.1 b d
  .exact FG l h.2 b d
end
def P.br{w Y:J}{t:I}(h:P w t)(f:af w Y):P Y t:=cC t (λb _ d=>f.cC b d id) h
def Ps.br{w Y:J}{l:List I}(h:Ps w l)(f:af w Y):Ps Y l:=keeps l (λb _ d=>f.cC b d id) h
def Ps.get{w:J}:∀{l:List I},Ps w l->∀{i:Nat} {t:I},l[i]? =some t->P w t
 |[],_,i,t,d=>by simp at d
 |a::l,h,0,t,d=>by unfold Ps at h;simp at d;subst d;exact h.1
 |a::l,h,i+1,t,d=>by unfold Ps at h;exact Ps.get h.2 (by simpa using d)
def Ps.mem{w:J}{l:List I}(h:Ps w l){t:I}(d:t∈l):P w t:=by obtain⟨i,hi⟩:=hO.1 d;exact h.get hi
def i0{w:J}:∀{l:List I},(∀t∈l,P w t)->Ps w l
 |[],_=>by unfold Ps;trivial
 |t::l,d=>by unfold Ps;exact⟨d t ws,i0 λj h=>d j (by simp[h])⟩
def bZ:∀{l:List I} {b:Nat},b∈be l↔∃t∈l,b∈t.fp
 |[],b=>by unfold be;simp
 |t::l,b=>by unfold be;rw[aW,bZ];simp
def eH:∀{l:List I} {t:I},t∈l->t.sz<=a7 l
 |a::l,t,d=>by
  unfold a7;rcases aq.1 d with rfl|d
  .omega
  .have:=eH d;omega
def mO(t:I):1<=t.sz:=by cases t;unfold sz;omega
def fR:∀l:List I,l.length<=a7 l
 |[]=>ws
 |t::l=>by have:=fR l;have:=mO t;unfold a7;simp only[bI];omega
def P.parts{w:J}{t:I}(h:P w t):bL 4 w t.s (t.l.flatMap c)/\Ps w t.l:=by cases t;unfold P at h;exact h
def gG{t:I}{b:Nat}:b∈t.fp↔b∈(row t.s t.l).fp\/b∈be t.l:=by cases t;unfold fp;exact aW
def iI(t:I):t.sz=1+a7 t.l:=by cases t;rfl
def fx(t:I):t.rx=.mk t.k t.lo t.hi (aw t.l):=by cases t;rfl
structure ga(w:J)(p:Addr)(i:Nat)(t:I):Prop where
 c0:w.cell? ((p.add (i *4)).add 0)=some (.int .i64 t.k)
 c1:w.cell? ((p.add (i *4)).add 1)=some (.int .u8 (t.lo.toNat:Int))
 c2:w.cell? ((p.add (i *4)).add 2)=some (.int .u8 (t.hi.toNat:Int))
 c3:w.cell? ((p.add (i *4)).add 3)=some t.s.v
def dy{w:J}{s:Sl}{l:List I}(h:bL 4 w s (l.flatMap c)){i:Nat}{t:I}(hi:l[i]? =some t){K:Addr->Prop}(j:∀p,s.a=some p->ga w p i t->K p):dV s.a K:=
 fg.elem (f:=c) (sz:=4) ka co h.2.2 hi λp k d=>j p k ⟨d 0 _ rfl,d 1 _ rfl,d 2 _ rfl,d 3 _ rfl⟩
def again{w:J}{s:Sl}{l:List I}(h:bL 4 w s (l.flatMap c)){i:Nat}{t:I}(hi:l[i]? =some t){p:Addr}(z:s.a=some p):ga w p i t:=by have k:=dy h hi (K:=λj=>∃q,s.a=some q/\ga w q i t) (λj d y=>⟨j,d,y⟩);rw[z]at k;obtain⟨j,d,x⟩:=k;cases d;exact x
end I
def _root_.Go.W.En.tree(t:I):En:=⟨kp t.fp,λj=>t.P j,λj q k h=>I.cC t (λb d=>k b (a0.2 d)) h,λj h b d=>I.lt t h b (a0.1 d),pn _⟩
def _root_.Go.W.En.trees(l:List I):En:=⟨kp (I.be l),λj=>I.Ps j l,λj q k h=>I.keeps l (λb d=>k b (a0.2 d)) h,λj h b d=>I.FG l h b (a0.1 d),pn _⟩
namespace Rx
def k:Rx->Int|.mk k _ _ _=>k
def lo:Rx->UInt8|.mk _ lo _ _=>lo
def hi:Rx->UInt8|.mk _ _ hi _=>hi
def l:Rx->List Rx|.mk _ _ _ l=>l
mutual
def sz:Rx->Nat|.mk _ _ _ l=>1+a7 l
def a7:List Rx->Nat
 |[]=>0
 |t::l=>t.sz+a7 l
end
end Rx
mutual
def I.eU:∀t:I,t.rx.sz=t.sz
 |.mk h lo d s l=>by unfold I.rx Rx.sz I.sz;rw[I.yy l]
def I.yy:∀l:List I,Rx.a7 (I.aw l)=I.a7 l
 |[]=>rfl
 |t::l=>by unfold I.aw Rx.a7 I.a7;rw[I.eU t,I.yy l]
end
set_option maxRecDepth 100000
set_option maxHeartbeats 2000000
namespace D8
def ok:=az (ay V Tryz.f263 [] []) ab8 [.I]
end D8
namespace D7
def ok:=az (ay V Tryz.f264 [] []) ab7 [.Y]
end D7
namespace J'
def ok:=az (ay V Tryz.f248 [] []) NR [.I,.I]
end J'
namespace J9
def ok:=az (ay V Tryz.f249 [] []) NQ [.Y,.Y]
end J9
namespace w4
noncomputable def L0:=bg (ay V Tryz.f247 [] []) [0,1,1,1,2] [(3,.v [.I]),(6,.v [.s]),(7,.v [.I]),(8,.v [.I])]
noncomputable abbrev t1:=bf L0
def bC:=bj t1 L0
def ok:=az t1 FP [.s]
end w4
namespace SO
def aD:=az (ay V Tryz.f233 [(1,ls [0,1,2,3,5,6,7,8,10,11,12,13,4,9,14,15,16,17])] [2,3]) cz [.a 4,.I,.Y,.Y,.s,.a 4,.I,.Y,.Y,.s]
end SO
namespace yD
noncomputable def a8:=bg (ay V Tryz.f250 [] [8,9]) [0,1,1,1,1] [(0,.v [.s]),(1,.v [.s]),(2,.v [.g cz 0 0]),(11,.v [.s]),(12,.v [.I]),(13,.v [.I])]
noncomputable abbrev t1:=bf a8
def bJ:=bj t1 a8
def aD:=az t1 PR [.s,.s,.g cz 0 0]
end yD
namespace SU
def aD:=az (ay V Tryz.f231 [] [2,3]) sv [.a 4,.I,.Y,.Y,.s,.a 4,.I,.Y,.Y,.s]
end SU
def cP(a b:Int):Int:=if a<b then -1 else if b<a then 1 else 0
def eG:List Int->Int
 |[]=>0
 |c::l=>if c≠0 then c else eG l
def Yk(a b:Int)(w:J):aj V NR #[.int .i64 a,.int .i64 b] w λr q=>r=ae (.int .i64 (cP a b))/\af w q:=by
 refine J'.ok _ _ w _ (D8.ok _ _ _ ⟨_,rfl,D8.ok _ _ _ ⟨_,rfl,?_⟩⟩);have j:(a !=a)=false:=ws
 have k:(b !=b)=false:=ws
 rw[j,k];refine aP rfl (aP rfl (aE (λd=>⟨?_,Fr.refl _ _⟩) (λd=>aE (λh=>⟨?_,Fr.refl _ _⟩) (λh=>⟨?_,Fr.refl _ _⟩))))
 .unfold cP;rw[av d]
 .unfold cP;rw[ag d,av h]
 .unfold cP;rw[ag d,ag h]
def JN(a b:Int)(w:J):aj V NQ #[.int .u8 a,.int .u8 b] w λr q=>r=ae (.int .i64 (cP a b))/\af w q:=by
 refine J9.ok _ _ w _ (D7.ok _ _ _ ⟨_,rfl,D7.ok _ _ _ ⟨_,rfl,?_⟩⟩);have j:(a !=a)=false:=ws
 have k:(b !=b)=false:=ws
 rw[j,k];refine aP rfl (aP rfl (aE (λd=>⟨?_,Fr.refl _ _⟩) (λd=>aE (λh=>⟨?_,Fr.refl _ _⟩) (λh=>⟨?_,Fr.refl _ _⟩))))
 .unfold cP;rw[av d]
 .unfold cP;rw[ag d,av h]
 .unfold cP;rw[ag d,ag h]
def acO{w:J}{s:Sl}{l:List Int}(h:bq w s l)(B:l.length<=1000000):aj V FP #[s.v] w λr q=>r=ae (.int .i64 (eG l))/\af w q:=by
 refine w4.ok _ w _ ?_;have C:=bq.len h;have loop:∀(d i:Nat),i+d=l.length->eG (l.drop i)=eG l->w4.L0 0 s (s.n:Int) (i:Int) w λr q=>r=ae (.int .i64 (eG l))/\af w q:=by
  intro d;induction d with
  |zero=>
   intro i y j;rw[du co]at j;exact w4.bC _ _ _ _ _ _ (aP (aV co) ⟨by rw[<-j];rfl,Fr.refl _ _⟩)
  |succ d A=>
   intro i y j;have x:l[i]? =some (l[i]'co):=a' co;rw[dw co]at j;generalize l[i]'co=c at x j;refine w4.bC _ _ _ _ _ _ (aM (aQ co) ⟨co,co,bq.cell h x ws λp _ z=>⟨c,z,dA (λk=>?_) (λk=>?_)⟩⟩)
   .refine ⟨?_,Fr.refl _ _⟩;rw[<-j];unfold eG;rw[av k]
   .rw [bb _ co];refine A (i+1) co ?_;rw[<-j];conv=>rhs;unfold eG
    rw[ag (by simpa using k)]
 exact loop l.length 0 co ws
def acD(w:J)(l:List Int)(n:Nat)(d:n=l.length):bq (w.alloc (.cells (l.map aY).toArray b')) ⟨some (ab w.heap.size),n,n⟩ l:=
 ⟨by simp[d],bm _,(Row.made w b' n n (l.map aY)).uu⟩
section
variable {M:Nat->Prop} {w0 w:J} {L D:List En} {bs:List Nat}
def _root_.Go.W.LH.or(H:LH M w0 w L D){l:List Int}{n:Nat}{K:aJ}(q:n=l.length)(k:l.length<=1000000)(j:∀d,LH M w0 d L D->K (ae (.int .i64 (eG l))) d):
  dz w (.cells (l.map aY).toArray b') λy=>eJ bs V FP #[.slice (some (Addr.mk w.heap.size 0 none)) n n] y K:=
 (H.br (Fr.alloc _ _ _)).aA (acO (s:=⟨some (ab w.heap.size),n,n⟩) (acD w l n q) k) λ_ d x h=>x▸j d h
end
mutual
def bc:Rx->Rx->Int
 |.mk h lo d l,b=>if eG [cP h b.k,cP lo.toNat b.lo.toNat,cP d.toNat b.hi.toNat]≠0 then eG [cP h b.k,cP lo.toNat b.lo.toNat,cP d.toNat b.hi.toNat]else cmpL l b.l
def cmpL:List Rx->List Rx->Int
 |[],[]=>0
 |[],_::_=>-1
 |_::_,[]=>1
 |a::l,b::m=>if bc a b≠0 then bc a b else cmpL l m
end
abbrev IB(n:Nat):Prop:=∀(a b:I) (w:J),a.sz<=n->a.P w->b.P w->aj V cz #[a.v,b.v] w λr d=>r=ae (.int .i64 (bc a.rx b.rx))/\af w d
def XI(n:Nat)(hn:n<=1000000)(U:IB n)(j lb:List I)(k q:Sl)(w:J)(H:bL 4 w k (j.flatMap I.c))(K:bL 4 w q (lb.flatMap I.c))(Y:I.Ps w j)(Z:I.Ps w lb)(hs:I.a7 j<=n):
  aj V PR #[k.v,q.v,.func (.func cz) #[] #[]] w λr F=>r=ae (.int .i64 (cmpL (I.aw j) (I.aw lb)))/\af w F:=by
 have na:=I.cH H;have nb:=I.cH K;have hl:=I.fR j;have loop:∀(d i:Nat) (B:J),i+d=j.length->i<=lb.length->cmpL (I.aw (j.drop i)) (I.aw (lb.drop i))=cmpL (I.aw j) (I.aw lb)->LH F0 w B [] [I.row k j,I.row q lb,.trees j,.trees lb]->
   yD.a8 k q k (k.n:Int) (i:Int) B λr F=>r=ae (.int .i64 (cmpL (I.aw j) (I.aw lb)))/\af w F:=by
  intro d;induction d with
  |zero=>
   intro i B P Q h x;rw[du co]at h;refine yD.bJ _ _ _ _ _ _ _ (aP (aV co) (aE (λN=>⟨?_,x.fr⟩) (λN=>⟨?_,x.fr⟩)))
   .rw [dw co]at h;rw[<-h];rfl
   .rw [du co]at h;rw[<-h];rfl
  |succ d W=>
   intro i B P Q h x;have z:j[i]? =some (j[i]'co):=a' co;rw[dw co]at h;generalize j[i]'co=a at z h;refine yD.bJ _ _ _ _ _ _ _ (aM (aQ co) ⟨co,co,?_⟩);refine I.dy (x.getD 0) z λp hp c=>⟨_,_,_,_,c.c0,c.c1,c.c2,c.c3,x.aK λb8 w2 C=>aE (λO=>C.ai λw3 y=>⟨?_,y.fr⟩) (λS=>⟨co,co,?_⟩)⟩
   .have aa:(q.n:Int)<=(i:Int):=O;rw[du (by omega:lb.length<=i)]at h;rw[<-h];rfl
   .have ab:¬(q.n:Int)<=(i:Int):=S;have A:lb[i]? =some (lb[i]'co):=a' co;rw[dw (by omega:i<lb.length)]at h;generalize lb[i]'co=b at A h;refine I.dy (C.getD 1) A λac T _=>C.ai λw3 y=>?_;have c:=I.again (y.getD 1) A T;refine⟨_,_,_,_,c.c0,c.c1,c.c2,c.c3,y.aK λb9 w4 L=>L.ai λw5 D=>?_⟩;have ad:=I.eH (aG z);refine D.aA (U a b w5 co (I.Ps.get (D.getD 2) z) (I.Ps.get (D.getD 3) A)) ?_;rintro _ w6 rfl G;have M:cmpL (I.aw (a::j.drop (i+1))) (I.aw (b::lb.drop (i+1)))=if bc a.rx b.rx≠0 then bc a.rx b.rx else cmpL (I.aw (j.drop (i+1))) (I.aw (lb.drop (i+1))):=rfl;rw[M]at h;refine⟨_,rfl,dA (λE=>⟨?_,G.fr⟩) (λE=>?_)⟩
    .rw [av E]at h;rw[h]
    .rw [ag (by simpa using E)]at h;rw[bb _ co];exact W (i+1) w6 co co h (G.take 0)
 exact yD.aD _ _ w _ (loop j.length 0 w co co ws (bN _ (by
  intro e h;simp only[aq,aL,aR]at h;rcases h with rfl|rfl|rfl|rfl
  .exact H
  .exact K
  .exact Y
  .exact Z)))
def Je:∀n:Nat,n<=1000000->IB n
 |0,_=>λa b B q _ _=>absurd q (by have:=I.mO a;omega)
 |n+1,W=>λa b B q x z=>by
  have L:=Je n co;have Y:=I.iI a;have T:=x.parts;have U:=z.parts;refine SO.aD _ _ _ _ _ _ _ _ B _ ((bN [.tree a,.tree b] (by
   intro e w;simp only[aq,aL,aR]at w;rcases w with rfl|rfl
   .exact x
   .exact z)).aK λQ Z C=>C.aK λS w2 D=>D.ai λM E=>E.aA (Yk _ _ M) ?_)
  rintro _ N rfl F;refine⟨_,rfl,F.aA (JN _ _ N) ?_⟩;rintro _ O rfl G;refine⟨_,rfl,G.aA (JN _ _ O) ?_⟩;rintro _ w6 rfl H;refine⟨_,rfl,H.or (l:=[cP a.k b.k,cP a.lo.toNat b.lo.toNat,cP a.hi.toNat b.hi.toNat]) rfl ws λj d=>?_⟩;have e:bc a.rx b.rx=if eG [cP a.k b.k,cP a.lo.toNat b.lo.toNat,cP a.hi.toNat b.hi.toNat]≠0 then eG [cP a.k b.k,cP a.lo.toNat b.lo.toNat,cP a.hi.toNat b.hi.toNat]else cmpL (I.aw a.l) (I.aw b.l):=by rw[I.fx a,I.fx b];unfold bc;rfl
  refine⟨_,rfl,dA (λh=>⟨?_,d.fr⟩) (λh=>?_)⟩
  .rw [e,av h]
  .have y:a.P j:=d.getD 0;have A:b.P j:=d.getD 1;refine d.aA (XI n co L a.l b.l a.s b.s j y.parts.1 A.parts.1 y.parts.2 A.parts.2 co) ?_;rintro _ w8 rfl K;refine⟨_,rfl,?_,K.fr⟩;rw[e,ag (by simpa using h)]
def zB(a b:I)(w:J)(h:a.sz<=1000000)(d:a.P w)(j:b.P w):aj V cz #[a.v,b.v] w λr k=>r=ae (.int .i64 (bc a.rx b.rx))/\af w k:=Je 1000000 (bm _) a b w h d j
def wQ(a b:I)(w:J)(h:a.sz<=1000000)(x:a.P w)(y:b.P w):aj V sv #[a.v,b.v] w λr z=>r=ae (.bool (bc a.rx b.rx==0))/\af w z:=by
 refine SU.aD _ _ _ _ _ _ _ _ w _ ((bN [.tree a,.tree b] (by
  intro e j;simp only[aq,aL,aR]at j;rcases j with rfl|rfl
  .exact x
  .exact y)).aK λB D k=>k.aK λC A d=>d.aA (zB a b A h (d.getD 0) (d.getD 1)) ?_)
 rintro _ E rfl q;exact⟨_,rfl,rfl,q.fr⟩
namespace ym
noncomputable def cv:=bg (ay V Tryz.f222 [] [2]) [0,1,1,1,2] [(1,.v [.I]),(2,.l [.I,.Y,.Y,.s] aZ),(5,.v [.I])]
noncomputable abbrev t1:=bf cv
noncomputable abbrev cb:=ak t1 [3] [(1,.v [.I])]
noncomputable abbrev t2:=ao cb
def dO:=bj t2 cv
noncomputable abbrev bD:=ak t2 [2] [(1,.v [.I]),(2,.l [.I,.Y,.Y,.s] aZ)]
noncomputable abbrev t3:=ao bD
def aD:=az t3 PB [.a 4,.I,.Y,.Y,.s,.I]
end ym
namespace To
def aD:=az (ay V Tryz.f204 [] [1]) Gk [.a 4,.I,.Y,.Y,.s]
end To
namespace nt
abbrev P0:Ps:=[]
noncomputable abbrev bD:=ak (ay V Tryz.f223 [] [1,4]) [0,1,1,1,1] P0
noncomputable abbrev t1:=ao bD
abbrev P1:Ps:=[(1,.l [.I,.Y,.Y,.s] aZ)]
noncomputable abbrev cb:=ak t1 [0,1,1,1,1,1,2] P1
noncomputable abbrev t2:=ao cb
noncomputable def lA:=bg t2 [0,1,1,1,3] [(52,.v [.s]),(53,.v [.I]),(54,.v [.I])]
noncomputable abbrev t3:=bf lA
def oS:=bj t3 lA
noncomputable abbrev fU:=ak t3 [3] P1
noncomputable abbrev t4:=ao fU
noncomputable abbrev nR:=ak t4 [0,1,7,1,1,1,2] P1
noncomputable abbrev t5:=ao nR
noncomputable abbrev rH:=ak t5 [8,1,1,1,2] P0
noncomputable abbrev t6:=ao rH
abbrev P2:Ps:=[(1,.l [.I,.Y,.Y,.s] aZ),(19,.v [.I])]
noncomputable abbrev hW:=ak t6 [6,1,1,1,2] P2
noncomputable abbrev t7:=ao hW
noncomputable abbrev cX:=ak t7 [2,1,1,1,2] P2
noncomputable abbrev t8:=ao cX
noncomputable abbrev bW:=ak t8 [2] P1
noncomputable abbrev t9:=ao bW
def aD:=az t9 PK [.a 4,.I,.Y,.Y,.s]
end nt
namespace SR
def aD:=az (ay V Tryz.f205 [] [1]) Px [.a 4,.I,.Y,.Y,.s]
end SR
namespace yl
noncomputable def a8:=bg (ay V Tryz.f224 [] [1,2,5]) [0,1,1,1,2] [(1,.l [.I,.Y,.Y,.s] aZ),(2,.l [.I,.Y,.Y,.s] aZ),(3,.v [.s]),(7,.v [.s]),(8,.v [.I]),(9,.v [.I])]
noncomputable abbrev t1:=bf a8
def bJ:=bj t1 a8
def aD:=az t1 Gb [.a 4,.I,.Y,.Y,.s]
end yl
namespace Te
def aD:=az (ay V Tryz.f206 [] [1,2]) PI [.a 4,.I,.Y,.Y,.s]
end Te
def g4{w:J}{t:I}(h:t.P w):LH F0 w w [] [.tree t]:=bN _ (by intro e d;simp only[aq,aL,aR]at d;subst d;exact h)
def gb(w:J)(x:Rx)(r:cE)(Y:J):Prop:=∃t:I,r=ae t.v/\t.rx=x/\t.P Y/\∀b∈t.fp,w.heap.size<=b
section
variable {M:Nat->Prop} {w0 w:J} {L D:List En} {bs:List Nat}
def _root_.Go.W.LH.s5(H:LH M w0 w L D)(i j:Nat){U:List I}{t:I}(hi:D[i]? =some (.trees U):=by rfl)(k:D[j]? =some (.tree t):=by rfl):LH M w0 w L (D++[.trees (U++[t])]):=by
 refine H.gz _ (Fr.refl _ _) (I.i0 λq d=>?_) λb x=>.inr (.inr ?_)
 .rcases aW.1 d with d|d
  .exact I.Ps.mem (H.getD i hi) d
  .simp at d;subst d;exact H.getD j k
 .obtain ⟨q,d,h⟩:=I.bZ.1 (a0.1 x);rcases aW.1 d with d|d
  .exact ⟨_,aG hi,a0.2 (I.bZ.2 ⟨q,d,h⟩)⟩
  .simp at d;rw[d]at h;exact⟨_,aG k,a0.2 h⟩
def gM{e:aC}{s:Sl}{vs:List aa}{b:Nat}(h:b∈(En.bd 4 s vs).fp):b∈(En.row e 4 s vs).fp:=by
 have:b∈(if vs=[]then[]else ax s):=h;split at this
 .grind
 .exact this
def _root_.Go.W.LH.sX(H:LH M w0 w L D)(i j:Nat){e:aC}{s:Sl}{U:List I}(k:Int)(lo hi:UInt8)(q:L[i]? =some (.row e 4 s (U.flatMap I.c)):=by rfl)(x:D[j]? =some (.trees U):=by rfl):LH M w0 w (L.eraseIdx i) (D++[I.row s U]++[.tree (.mk k lo hi s U)]):=by
 have y:=H.freeze i (I.row s U) q (aF.bd (H.get i q)) λb h=>gM h;refine y.gz _ (Fr.refl _ _) ?_ λb h=>.inr (.inr ?_)
 .show I.P w _;unfold I.P;exact⟨aF.bd (H.get i q),H.getD j x⟩
 .have d:=a0.1 h;unfold I.fp at d;rcases aW.1 d with d|d
  .grind
  .exact ⟨_,bG _ (aG x),a0.2 d⟩
end
def uj(l:List I):∀u∈l.flatMap I.c,u.oneCell'=true:=λu h=>by obtain⟨e,_,d⟩:=bX.1 h;simp only[I.c,aq,aL,aR]at d;rcases d with rfl|rfl|rfl|rfl<;>rfl
def rZ:gW V i' aZ (.agg #[.int .i64 0,.int .u8 0,.int .u8 0,.slice none 0 0]) 4 40:=⟨by kernel_rfl,by kernel_rfl,rfl,md,md⟩
def m5(l:List I)(t:I):(l++[t]).flatMap I.c=l.flatMap I.c++t.c:=ws
def ku(l m:List I):I.aw (l++m)=I.aw l++I.aw m:=by simp[I.fP]
def vR:∀(l m:List I),I.a7 (l++m)=I.a7 l+I.a7 m
 |[],m=>by simp[I.a7]
 |t::l,m=>by show t.sz+I.a7 (l++m)=t.sz+I.a7 l+I.a7 m;rw[vR l m];omega
def BS(l:List I)(i:Nat):I.a7 (l.take i)<=I.a7 l:=by have:=vR (l.take i) (l.drop i);rw[np]at this;omega
abbrev Wn(n:Nat):Prop:=∀(t:I) (x:Nat) (w:J),t.sz<=n->x<=1000000->t.P w->aj V PB #[t.v,.int .i64 (x:Int)] w λr d=>r=ae (.int .i64 (max ((x:Int) - t.sz) (-1)))/\af w d
def Jp:∀n:Nat,n<=1000000->Wn n
 |0,_=>λt x z A _ _=>absurd A (by have:=I.mO t;omega)
 |n+1,U=>λt x z A Z O=>by
  have L:=Jp n co;have Y:=I.iI t;have T:=I.fR t.l;have loop:∀(d i:Nat) (y:Int) (b2:Nat) (h:J),i+d=t.l.length->-1<=y->y<=1000000->max (y - I.a7 (t.l.drop i)) (-1)=max ((x:Int) - t.sz) (-1)->LH F0 z h [.g b2] [.tree t]->
    ym.cv y b2 t.k t.lo.toNat t.hi.toNat t.s (i:Int) h λr Q=>r=ae (.int .i64 (max ((x:Int) - t.sz) (-1)))/\af z Q:=by
   intro d;induction d with
   |zero=>
    intro i y b2 h F G K q j;have N:=I.cH (show t.P h from j.getD 0).parts.1;rw[du co]at q;refine ym.dO _ _ _ _ _ _ _ _ _ (aP (aV co) ⟨?_,j.fr⟩);rw[<-q];congr 2;simp only[I.a7];omega
   |succ d M=>
    intro i y b2 h F G K q j;have N:=I.cH (show t.P h from j.getD 0).parts.1;have w:t.l[i]? =some (t.l[i]'co):=a' co;rw[dw co]at q;generalize t.l[i]'co=a at w q;have aa:=I.eH (aG w);unfold I.a7 at q;refine ym.dO _ _ _ _ _ _ _ _ _ (aM (aQ co) (aE (λB=>⟨co,co,?_⟩) (λB=>⟨?_,j.fr⟩)))
    .have C:t.P h:=j.getD 0;refine I.dy C.parts.1 w λp W c=>⟨_,_,_,_,c.c0,c.c1,c.c2,c.c3,?_⟩;have H:0<=y:=B;obtain⟨m,rfl⟩:=Int.eq_ofNat_of_zero_le H;refine j.aA (L a m h co co (C.parts.2.get w)) ?_;rintro _ S rfl E;refine⟨_,rfl,?_⟩;rw[bb _ co];refine M (i+1) _ b2 S co co co ?_ E;omega
    grind
  have e:ah .i64 ((x:Int) - 1)=(x:Int) - 1:=aN _ co;refine ym.aD _ _ _ _ _ z _ ((g4 O).aK λb2 h D=>?_);rw[e];refine loop t.l.length 0 _ b2 h co co co ?_ D
  grind
def DW(t:I)(w:J)(h:t.sz<=1000000)(k:t.P w):aj V Gk #[t.v] w λr q=>r=ae (.bool (au (64<t.sz)))/\af w q:=by
 refine To.aD _ _ _ _ w _ ((g4 k).aK λy x d=>d.aA (Jp 1000000 (bm _) t 64 x h co (d.getD 0)) ?_);rintro _ z rfl j;refine⟨_,rfl,?_,j.fr⟩;congr 2
 grind
mutual
def db:Rx->Bool
 |.mk d lo h l=>!(d !=2&&(lo !=0||h !=0))&&(if d=0\/d=1 then l.isEmpty else if d=2 then l.isEmpty&&au (lo.toNat<=h.toNat)else if d=3\/d=4\/d=5 then eo l else if d=6\/d=7 then l.length==1&&eo l else false)
def eo:List Rx->Bool
 |[]=>true
 |t::l=>db t&&eo l
end
abbrev WA(n:Nat):Prop:=∀(t:I) (w:J),t.sz<=n->t.P w->aj V PK #[t.v] w λr d=>r=ae (.bool (db t.rx))/\af w d
def Es(l:List I):(I.aw l).isEmpty=((l.length:Int)==0):=by
 rw[I.fP];cases l with
 |nil=>rfl
 |cons a l=>
  grind
def JD:∀n:Nat,n<=1000000->WA n
 |0,_=>λt w S _=>absurd S (by have:=I.mO t;omega)
 |n+1,D=>λt w S pt=>by
  have ih:=JD n co;have hs:=I.iI t;have hl:=I.fR t.l;have L:=I.cH pt.parts.1;have loop:∀(b:Bool),db t.rx=(b&&eo (I.aw t.l))->b=true->∀(d i:Nat) (j:J),i+d=t.l.length->eo (I.aw (t.l.drop i))=eo (I.aw t.l)->LH F0 w j [] [.tree t]->
    nt.lA t.s (t.s.n:Int) (i:Int) j λr q=>r=ae (.bool (db t.rx))/\af w q:=by
   intro b y aa d;subst aa;rw[Bool.true_and]at y;induction d with
   |zero=>
    intro i j ac z B;rw[du co]at z;refine nt.oS _ _ _ _ _ (aP (aV co) ⟨?_,B.fr⟩);rw[y,<-z];rfl
   |succ d ag=>
    intro i j ac z B;have C:t.l[i]? =some (t.l[i]'co):=a' co;rw[dw co]at z;generalize t.l[i]'co=a at C z;have aj:=I.eH (aG C);have T:(db a.rx&&eo (I.aw (t.l.drop (i+1))))=eo (I.aw t.l):=z;have ah:t.P j:=B.getD 0;refine nt.oS _ _ _ _ _ (aM (aQ co) ⟨co,co,?_⟩);refine I.dy ah.parts.1 C λp hp c=>⟨_,_,_,_,c.c0,c.c1,c.c2,c.c3,B.aK λb4 w2 H2=>H2.ai λw3 N=>N.aA (ih a w3 co ((show t.P w3 from N.getD 0).parts.2.get C)) ?_⟩;rintro _ w4 rfl O;refine⟨_,rfl,dW (λhf=>⟨?_,O.fr⟩) (λht=>?_)⟩
    .grind
    .rw [bb _ co];rw[ht,Bool.true_and]at T;exact ag (i+1) w4 co T (O.take 0)
  have er:=I.fx t;have nz:∀A:UInt8,((A.toNat:Int) !=0)=(A !=0):=λA=>by
   by_cases U:A=0
   .subst U;rfl
   .have K:(A !=0)=true:=by grind
    rw[K];have:A.toNat≠0:=λh0=>U (UInt8.toNat_inj.1 (by grind))
    grind
  refine nt.aD _ _ _ _ w _ ((g4 pt).aK λx j M=>?_);have out:∀b:Bool,db t.rx=b->(Ending.returned (.bool b)=ae (.bool (db t.rx))/\af w j):=λb y=>⟨by rw[y],M.fr⟩;have G:db t.rx=eo (I.aw t.l)->nt.fU x t.k t.lo.toNat t.hi.toNat t.s j λr q=>r=ae (.bool (db t.rx))/\af w q:=λy=>loop true (by grind) rfl t.l.length 0 j co ws (M.take 0);have s1:(t.k !=2&&(t.lo !=0||t.hi !=0))=false->nt.bW x t.k t.lo.toNat t.hi.toNat t.s j λr q=>r=ae (.bool (db t.rx))/\af w q:=by
   intro h0;have eg:db t.rx=(if t.k=0\/t.k=1 then(I.aw t.l).isEmpty else if t.k=2 then(I.aw t.l).isEmpty&&au (t.lo.toNat<=t.hi.toNat)else if t.k=3\/t.k=4\/t.k=5 then eo (I.aw t.l)else if t.k=6\/t.k=7 then(I.aw t.l).length==1&&eo (I.aw t.l)else false):=by
    rw[er];unfold db
    grind
   have s2:t.k=0\/t.k=1->nt.cb x t.k t.lo.toNat t.hi.toNat t.s j λr q=>r=ae (.bool (db t.rx))/\af w q:=λh=>out _ (by rw[eg,av h,Es,L]);have s7:t.k=6\/t.k=7->nt.nR x t.k t.lo.toNat t.hi.toNat t.s j λr q=>r=ae (.bool (db t.rx))/\af w q:=λh=>by
    have e7:db t.rx=((I.aw t.l).length==1&&eo (I.aw t.l)):=by grind
    have el:(I.aw t.l).length=t.s.n:=by rw[I.fP];grind
    refine dA (λK=>out false ?_) (λK=>G ?_)
    .grind
    grind
   have s6:t.k≠0->t.k≠1->t.k≠2->t.k≠3->t.k≠4->t.k≠5->nt.hW x t.k t.lo.toNat t.hi.toNat t.s t.k j λr q=>r=ae (.bool (db t.rx))/\af w q:=λE F W Y Z k5=>
    aO (λh=>aM (by grind) (s7 (.inl h))) (λk6=>aO (λh=>s7 (.inr h)) (λk7=>out false (by grind)))
   have H:t.k=3\/t.k=4\/t.k=5->db t.rx=eo (I.aw t.l):=λh=>by grind
   have s3:t.k≠0->t.k≠1->nt.cX x t.k t.lo.toNat t.hi.toNat t.s t.k j λr q=>r=ae (.bool (db t.rx))/\af w q:=λE F=>
    aO (λh=>by
     have Q:db t.rx=((I.aw t.l).isEmpty&&au (t.lo.toNat<=t.hi.toNat)):=by grind
     refine bP (λD=>out _ ?_) (λD=>out false ?_)
     .rw [Q,Es,<-L,D,Bool.true_and]
      grind
     .rw [Q,Es,<-L,D];rfl)
    (λW=>aO (λh=>aM (by grind) (G (H (.inl h)))) (λY=>aO (λh=>aM (by grind) (G (H (.inr (.inl h))))) (λZ=>aO (λh=>G (H (.inr (.inr h)))) (λk5=>s6 E F W Y Z k5))))
   exact aO (λh=>aM (by grind) (s2 (.inl h))) (λE=>aO (λh=>s2 (.inr h)) (λF=>s3 E F))
  have bad:(t.k !=2&&(t.lo !=0||t.hi !=0))=true->db t.rx=false:=λy=>by
   rw[er];unfold db
   grind
  refine bP (λh2=>bP (λad=>out false (bad ?_)) (λad=>bP (λab=>out false (bad ?_)) (λab=>s1 ?_))) (λh2=>s1 ?_)
  .grind
  .grind
  .grind
  grind
def kB(x:Rx):Int:=if 64<x.sz then 4 else if db x then 0 else 1
def Jl(t:I)(w:J)(h:t.sz<=1000000)(y:t.P w):aj V Px #[t.v] w λr z=>r=ae (.int .i64 (kB t.rx))/\af w z:=by
 refine SR.aD _ _ _ _ w _ ((g4 y).aK λC A q=>q.aA (DW t A h (q.getD 0)) ?_);rintro _ B rfl j;refine⟨_,rfl,aE (λd=>⟨?_,j.fr⟩) (λd=>j.aA (JD 1000000 (bm _) t B h (j.getD 0)) ?_)⟩
 .unfold kB;rw[I.eU,av d]
 rintro _ D rfl x;refine⟨_,rfl,dW (λk=>⟨?_,x.fr⟩) (λk=>⟨?_,x.fr⟩)⟩
 .unfold kB;rw[I.eU,ag d,k];rfl
 .unfold kB;rw[I.eU,ag d,k];rfl
abbrev Wo(n:Nat):Prop:=∀(t:I) (w:J),t.sz<=n->t.P w->aj V Gb #[t.v] w λr d=>gb w t.rx r d/\af w d
def Jo:∀n:Nat,n<=1000000->Wo n
 |0,_=>λt x G _=>absurd G (by have:=I.mO t;omega)
 |n+1,hn=>λt x G L=>by
  have Z:=Jo n co;have hs:=I.iI t;have hl:=I.fR t.l;have nr:=I.cH L.parts.1;have loop:∀(d i:Nat) (ks:List I) (sl:Sl) (q b2:Nat) (y:J),i+d=t.l.length->ks.length=i->I.aw ks=I.aw (t.l.take i)->(∀b∈I.be ks,x.heap.size<=b)->LH F0 x y [.g q,.g b2,.row aZ 4 sl (ks.flatMap I.c)] [.tree t,.trees ks]->
    yl.a8 q t.k t.lo.toNat t.hi.toNat t.s b2 0 0 0 ⟨none,0,0⟩ sl t.s (t.s.n:Int) (i:Int) y λr M=>gb x t.rx r M/\af x M:=by
   intro d;induction d with
   |zero=>
    intro i ks sl q b2 y U W H K B;refine yl.bJ _ _ _ _ _ _ _ _ _ _ _ _ _ _ _ _ (aP (aV co) (B.ai λD j=>⟨⟨.mk t.k t.lo t.hi sl ks,rfl,?_,?_,λb h=>?_⟩,j.fr⟩))
    .rw [I.fx t];unfold I.rx
     grind
    .unfold I.P;exact⟨aF.bd (j.get 2),j.getD 1⟩
    .unfold I.fp at h;rcases aW.1 h with h|h
     .exact (j.new _ (aG (i:=2) rfl) b (gM h)).resolve_right id
     grind
   |succ d aa=>
    intro i ks sl q b2 y U W H K B;have A:t.l[i]? =some (t.l[i]'co):=a' co;generalize t.l[i]'co=a at A;have ad:=I.eH (aG A);have ab:t.P y:=B.getD 0;refine yl.bJ _ _ _ _ _ _ _ _ _ _ _ _ _ _ _ _ (aM (aQ co) ⟨co,co,?_⟩);refine I.dy ab.parts.1 A λp hp c=>⟨_,_,_,_,c.c0,c.c1,c.c2,c.c3,B.aK λb5 D j=>j.ai λN z=>z.kc (Z a N co ((show t.P N from z.getD 0).parts.2.get A)) ?_⟩;rintro _ w4 ⟨u,rfl,Y,pu,F⟩ _ O;have C:=O.rd (.tree u) pu λb h=>F b (a0.1 h);have ac:=I.cH (C.get 2:aF _ _ _ _ _).bd;refine⟨_,_,_,_,rfl,C.jh 2 rZ rfl (λs' w5 S=>?_) co⟩;have T:=(S.s5 1 2).take 3;rw[bb _ co];refine aa (i+1) (ks++[u]) s' q b2 w5 co (by grind) ?_ ?_ ?_
    .rw [ku,H,dM,A,ku];simp[I.aw,Y]
    .intro b h;obtain⟨t',w,E⟩:=I.bZ.1 h;rcases aW.1 w with w|w
     .exact K b (I.bZ.2 ⟨t',w,E⟩)
     .simp at w;rw[w]at E;exact bz z.fr.size (F b E)
    .rw [m5];exact T.forget _ ws
  refine yl.aD _ _ _ _ x _ ((g4 L).aK λq y Q=>Q.aK λb2 D j=>?_);have z:=j.fN aZ 4;have C:=z.gz (.trees []) (Fr.refl _ _) (by show I.Ps D [];unfold I.Ps;trivial) (λb h=>by
   have:=a0.1 h;unfold I.be at this
   grind)
  exact loop t.l.length 0 [] ⟨none,0,0⟩ q b2 D co rfl rfl (λb h=>by unfold I.be at h;cases h) C
def X8(t:I)(w:J)(h:t.sz<=1000000)(j:t.P w):aj V Gb #[t.v] w λr d=>gb w t.rx r d/\af w d:=Jo 1000000 (bm _) t w h j
def fO:Rx:=.mk 0 0 0 []
def qz(x:Rx):Int:=if 64<x.sz then 4 else 0
def qA(x:Rx):Rx:=if 64<x.sz then fO else x
def IQ(w:J)(x:Rx)(c:Int)(r:cE)(Y:J):Prop:=∃t:I,r=ae (.tuple #[t.v,.int .i64 c])/\t.rx=x/\t.P Y/\∀b∈t.fp,w.heap.size<=b
def Rj(w:J):(I.mk 0 0 0 ⟨none,0,0⟩ []).P w:=by unfold I.P I.Ps;exact⟨bL.nil 4 w,trivial⟩
def Ri{b:Nat}(h:b∈(I.mk 0 0 0 ⟨none,0,0⟩ []).fp):False:=by unfold I.fp I.be at h;simp[En.bd]at h
def Yo(t:I)(w:J)(h:t.sz<=1000000)(E:t.P w):aj V PI #[t.v] w λr A=>IQ w (qA t.rx) (qz t.rx) r A/\af w A:=by
 refine Te.aD _ _ _ _ w _ ((g4 E).aK λL N C=>C.aK λM G x=>x.aA (DW t G h (x.getD 0)) ?_);rintro _ H rfl k;refine⟨_,rfl,aE (λj=>k.ai λK q=>⟨⟨.mk 0 0 0 ⟨none,0,0⟩ [],?_,?_,Rj _,λb d=>(Ri d).elim⟩,q.fr⟩) (λj=>k.kc (X8 t H h (k.getD 0)) ?_)⟩
 .unfold qz;rw[I.eU,av j];rfl
 .unfold qA;rw[I.eU,av j];rfl
 rintro _ K ⟨u,rfl,D,F,z⟩ _ B;have q:=B.rd (.tree u) F λb d=>z b (a0.1 d);refine⟨_,_,_,_,rfl,q.ai λO y=>⟨⟨u,?_,?_,y.getD 1,λb d=>bz k.fr.size (z b d)⟩,y.fr⟩⟩
 .unfold qz;rw[I.eU,ag j]
 .unfold qA;rw[I.eU,ag j,D]
namespace SV
def aD:=az (ay V Tryz.f243 [] [2]) u' [.a 4,.I,.Y,.Y,.s,.r]
end SV
namespace yE
noncomputable def L0:=bg (ay V Tryz.f244 [] []) [0,1,1,1,1] [(0,.v [.s]),(1,.v [.f]),(7,.v [.I]),(8,.v [.I])]
noncomputable abbrev t1:=bf L0
def bC:=bj t1 L0
def ok:=az t1 PV [.s,.f]
end yE
namespace Ud
def ok:=az (ay V Tryz.f229 [] []) PT [.s,.f]
end Ud
namespace s4
abbrev P0:Ps:=[(0,.v [.s]),(1,.v [.g u' 0 1,.r]),(5,.v [.I]),(6,.v [.I])]
noncomputable def a8:=bg (ay V Tryz.f242 [] [7]) [0,1,1,1,3] P0
noncomputable abbrev t1:=bf a8
noncomputable abbrev bW:=ak t1 [2,2,1,1,3] P0
noncomputable abbrev t2:=ao bW
def bJ:=bj t2 a8
def aD:=az t2 PU [.s,.g u' 0 1,.r]
end s4
namespace oH
noncomputable def L0:=bg (ay V Tryz.f234 [(6,lr 11),(11,lr 12)] []) [0,1,1,1,2] [(0,.v [.s]),(1,.v [.g sv 0 0]),(5,.v [.I])]
noncomputable abbrev t1:=bf L0
abbrev P0:Ps:=[(0,.v [.s]),(1,.v [.g sv 0 0]),(5,.v [.I]),(6,.v [.s]),(7,.v [.I])]
noncomputable def L2:=bg t1 [0,1,1,1,1,1,1,2,1,2,1,1,2] P0
noncomputable abbrev t2:=bf L2
noncomputable abbrev S3:=ak t2 [2,2,1,1,1,1,1,2,1,2,1,1,2] P0
noncomputable abbrev t3:=ao S3
def j5:=bj t3 L2
noncomputable abbrev S1:=ak t3 [1,1,1,2,1,2,1,1,2] [(0,.v [.s]),(1,.v [.g sv 0 0]),(5,.v [.I]),(6,.v [.s])]
noncomputable abbrev t4:=ao S1
def bC:=bj t4 L0
def ok:=az t4 PQ [.s,.g sv 0 0]
end oH
namespace sV
abbrev P0:Ps:=[(2,.l [.I,.Y,.Y,.s] aZ),(3,.v [.r]),(5,.v [.s]),(9,.v [.s]),(10,.v [.I]),(11,.v [.I])]
noncomputable def a8:=bg (ay V Tryz.f228 [] [2,7]) [0,1,1,1,2] P0
noncomputable abbrev t1:=bf a8
noncomputable abbrev bW:=ak t1 [3,2,1,1,2] P0
noncomputable abbrev t2:=ao bW
def bJ:=bj t2 a8
def aD:=az t2 PC [.a 4,.I,.Y,.Y,.s,.a 4,.I,.Y,.Y,.s]
end sV
namespace SY
def aD:=az (ay V Tryz.f225 [] [1,2]) x5 [.a 4,.I,.Y,.Y,.s]
end SY
namespace SZ
def ok:=az (ay V Tryz.f226 [] []) AL [.a 4,.I,.Y,.Y,.s,.a 4,.I,.Y,.Y,.s]
end SZ
namespace He
noncomputable abbrev bD:=ak (ay V Tryz.f227 [] [3,4]) [4] [(1,.v [.r]),(3,.l [.I,.Y,.Y,.s] aZ),(4,.l [.I,.Y,.Y,.s] aZ),(5,.v [.s])]
noncomputable abbrev t1:=ao bD
def aD:=az t1 AM [.a 4,.I,.Y,.Y,.s,.r,.r]
end He
namespace S'
def aD:=az (ay V Tryz.f230 [] [2]) Gc [.a 4,.I,.Y,.Y,.s,.r]
end S'
namespace Ta
def aD:=az (ay V Tryz.f235 [] [1,2]) va [.a 4,.I,.Y,.Y,.s]
end Ta
namespace Bp
noncomputable abbrev bD:=ak (ay V Tryz.f236 [] [3,4,5]) [0,1,1,1,2] [(1,.v [.r]),(4,.l [.I,.Y,.Y,.s] aZ)]
noncomputable abbrev t1:=ao bD
noncomputable abbrev bW:=ak t1 [0,1,1,1,3] [(4,.l [.I,.Y,.Y,.s] aZ),(5,.l [.I,.Y,.Y,.s] aZ)]
noncomputable abbrev t2:=ao bW
def aD:=az t2 vb [.a 4,.I,.Y,.Y,.s,.r,.r]
end Bp
namespace yo
noncomputable def L0:=bg (ay V Tryz.f207 [(5,lr 9)] []) [0,1,1,1,2] [(0,.v [.m]),(3,.v [.r]),(4,.v [.r]),(5,.v [.r]),(16,.v [.s]),(17,.v [.I]),(18,.v [.I])]
noncomputable abbrev t1:=bf L0
def bC:=bj t1 L0
def ok:=az t1 Ge [.m,.a 4,.I,.Y,.Y,.s]
end yo
def aej{w:J}{g:Nat}{cur:Array aa}{t:aC}(d:w.heap[g]? =some (.cells cur t (0,0)))(vs:Array aa):w.setRow g vs=w.putObj g (.cells vs t (0,0)):=by
 unfold World.setRow World.putObj;congr 1
 grind
def IW(g k:Nat):(⟨g,0,none⟩:Addr).add k=⟨g,k,none⟩:=by
 unfold Addr.add
 grind
def Kk{P:aH}{t ty e:aC}{z:aa}{sz bytes:Nat}(x:gW P t e z sz bytes)(h1:∀u∈z.cells.toList,u.oneCell'=true)(af:z.cells.size=sz){w:J}{s:Sl}{vs:List aa}(h:aF w e sz s vs)(l:Nat)(E:l<=s.n):
  ∃Y,(Builtin.clear_ #[t] ty #[.slice (if s.c=l then s.a else s.a.map (·.add (l *sz))) (s.n - l) (s.c - l)]).run P w=.ok (.tuple #[]) Y/\
   aF Y e sz ⟨if s.c=0 then s.a else s.a.map (·.add (0 *sz)),l - 0,s.c - 0⟩ (vs.take (l *sz))/\Fr (·∈ax s) w Y:=by
 have hlen:=h.len;obtain⟨L,d,j⟩:=s;simp only at E hlen;have ac:∀y:Option Addr,(if j=0 then y else y.map (·.add (0 *sz)))=y:=λy=>by
  split
  .rfl
  .cases y with
   |none=>rfl
   |some p=>rw[Nat.zero_mul,Option.map_some,jg]
 rw[ac,Nat.sub_zero,Nat.sub_zero];have G:∀(Y:J) (g:Nat) (q:Array aa),L=some ⟨g,0,none⟩->d<=j->j<=maxLen->Y.heap[g]? =some (.cells q e (0,0))->q.size=j *sz->q.toList.take (l *sz)=vs.take (l *sz)->aF Y e sz ⟨L,l,j⟩ (vs.take (l *sz)):=by intro Y g q B am S k K ad;subst B;have M:l *sz<=d *sz:=pS _ E;refine⟨by grind,.inr ⟨g,j,q,rfl,dI _,k,by grind,S,K,ad⟩⟩
 rcases h.cases with⟨hs,rfl⟩|⟨g,cur,B,k,A,D,H,O⟩
 .cases hs;have:l=0:=co
  subst this;refine⟨w,?_,?_,Fr.refl _ _⟩
  .simp [Builtin.clear_,run_underlying x.ht]
  grind
 .simp only at B A D H O;subst B;have M:l *sz<=d *sz:=pS _ E;have e2:d *sz<=j *sz:=pS _ A;have ae:cur.toList.take (l *sz)=vs.take (l *sz):=by grind
  by_cases Z:d - l=0
  .refine ⟨w,?_,G w g cur rfl A D k H ae,Fr.refl _ _⟩;rw[Z];by_cases C:j=l
   .simp [Builtin.clear_,run_underlying x.ht,C]
   .simp [Builtin.clear_,run_underlying x.ht,C]
  .have C:j≠l:=co
   obtain⟨inf,U,hz,K,ai⟩:=info_parts x.hi;have ag:(zeroValue e).run P w=.ok z w:=by simp[zeroValue,typeInfo,U,hz]
   have al:(Builtin.zeroCells z.cells (d - l)).toList.length=(d - l) *sz:=by simp[Builtin.zeroCells,af]
   have ab:∀v∈(Builtin.zeroCells z.cells (d - l)).toList,v.oneCell'=true:=by
    intro v F;unfold Builtin.zeroCells at F;rw[Array.toList_map,bK]at F;obtain⟨ah,hj,rfl⟩:=F;by_cases N:0<z.cells.size
    .have ak:ah%z.cells.size<z.cells.size:=Nat.mod_lt _ N
     grind
    grind
   have aj:(d - l) *sz=d *sz - l *sz:=Nat.sub_mul _ _ _;have T:l *sz+0+(Builtin.zeroCells z.cells (d - l)).toList.length<=cur.size:=co
   have I:=run_storeCells_at (P:=P) g (l *sz) e (Builtin.zeroCells z.cells (d - l)).toList 0 cur w k T ab;refine⟨_,?_,G _ g (cur.toList.take (l *sz+0)++(Builtin.zeroCells z.cells (d - l)).toList++cur.toList.drop (l *sz+0+(Builtin.zeroCells z.cells (d - l)).toList.length)).toArray rfl A D (setRow_heap w g cur _ e _ k) ?_ ?_,?_⟩
   .obtain ⟨m,W⟩:∃m,d - l=m+1:=⟨d - l - 1,co⟩;have Q:(⟨g,0,none⟩:Addr).add (l *sz)=⟨g,l *sz,none⟩:=IW g (l *sz);rw[W]at I ⊢;simp[Builtin.clear_,run_underlying x.ht,C,Q,ag,I]
   .grind
   .grind
   .rw [aej k];exact(Fr.put w g _).mono λan _ e=>by simp[ax,e]
def Wd:∀u∈(Value.agg #[.int .i64 0,.int .u8 0,.int .u8 0,.slice none 0 0]).cells.toList,u.oneCell'=true:=by intro u d;simp only[Value.cells,aq,aL,aR]at d;rcases d with rfl|rfl|rfl|rfl<;>rfl
def ZR{l:List I}{k:Nat}{t:I}(q:k<l.length):((((l.flatMap I.c).set (k *4+0) (.int .i64 t.k)).set (k *4+1) (.int .u8 (t.lo.toNat:Int))).set (k *4+2) (.int .u8 (t.hi.toNat:Int))).set (k *4+3) t.s.v=(l.set k t).flatMap I.c:=by
 induction l generalizing k with
 |nil=>grind
 |cons a l j=>
  cases k with
  |zero=>simp[I.c]
  |succ k=>
   have h:k<l.length:=by grind
   have e:∀d,(k+1) *4+d=(k *4+d)+4:=λd=>co
   rw[e 0,e 1,e 2,e 3,cU,List.set_cons_succ,cU,<-j h];simp[I.c]
section
variable {M:Nat->Prop} {w0 w:J} {L D:List En} {bs:List Nat}
def _root_.Go.W.LH.US(H:LH M w0 w L D)(i k:Nat){s:Sl}{U:List I}{t:I}{p:Addr}{K:J->Prop}(hi:L[i]? =some (.row aZ 4 s (U.flatMap I.c)))(z:s.a=some p)(hk:k<U.length)(hK:∀Y,LH M w0 Y (L.set i (.row aZ 4 s ((U.set k t).flatMap I.c))) D->K Y)(bF:∀b∈bs,En.g b∈L:=by simp):
  aS w (p.add (k *4)) (.int .i64 t.k) λd=>kept bs w d/\aS d ((p.add (k *4)).add 1) (.int .u8 (t.lo.toNat:Int)) λh=>kept bs d h/\aS h ((p.add (k *4)).add 2) (.int .u8 (t.hi.toNat:Int)) λj=>kept bs h j/\aS j ((p.add (k *4)).add 3) t.s.v λx=>kept bs j x/\K x:=by
 have hlen:(U.flatMap I.c).length=U.length *4:=I.e7 U;have A:=(cV.1 hi).1;have E:∀{e:En} {b:Nat},(∀(d:J) (y:Nat),¬e.P ({d with heap:=hR (y+1) (.map #[] 0)}:J))->En.g b∈L->En.g b∈L.set i e:=by
  intro e b ad q;obtain⟨T,Q⟩:=hO.1 q;by_cases ab:i=T
  .subst ab;rw[hi]at Q;exfalso;have e1:En.row aZ 4 s (U.flatMap I.c)=En.g b:=e5 Q;have O:(En.g b).P ({w with heap:=hR (b+1) (.map #[] 0)}):=by show b<_;simp
   rw[<-e1]at O;by_cases S:ax s=[]
   .have:s.a=none:=by unfold ax at S;grind
    grind
   .obtain ⟨ac,C⟩:=List.exists_mem_of_ne_nil _ S;obtain⟨cs,f,hc⟩:=(aF.row (show aF ({w with heap:=hR (b+1) (.map #[] 0)}) aZ 4 s _ from O)).v3 ac C
    grind
  .refine aG (i:=T) ?_
   grind
 have B:∀(vs:List aa) (d:J) (y:Nat),¬(En.row aZ 4 s vs).P ({d with heap:=hR (y+1) (.map #[] 0)}:J):=by
  intro vs d y h0;have C:p.block∈ax s:=by simp[ax,z]
  obtain⟨cs,f,hc⟩:=(aF.row (show aF ({d with heap:=hR (y+1) (.map #[] 0)}) aZ 4 s vs from h0)).v3 _ C
  grind
 have N:=H.oJ (bs:=bs) i (k *4) 0 (v:=.int .i64 t.k) (p:=p) (K:=λd=>aS d ((p.add (k *4)).add 1) (.int .u8 (t.lo.toNat:Int)) λh=>kept bs d h/\aS h ((p.add (k *4)).add 2) (.int .u8 (t.hi.toNat:Int)) λj=>kept bs h j/\aS j ((p.add (k *4)).add 3) t.s.v λx=>kept bs j x/\K x) hi z co (λd Z=>?_) bF
 .rw [jg]at N;exact N
 refine Z.oJ (bs:=bs) i (k *4) 1 (by rw[kq A]) z (by grind) (λh F=>?_) (λb q=>E (B _) (bF b q));rw[List.set_set]at F;refine F.oJ (bs:=bs) i (k *4) 2 (by rw[kq A]) z (by grind) (λj G=>?_) (λb q=>E (B _) (bF b q));rw[List.set_set]at G;refine G.oJ (bs:=bs) i (k *4) 3 (by rw[kq A]) z (by grind) (λx H4=>?_) (λb q=>E (B _) (bF b q));rw[List.set_set,ZR hk]at H4
 grind
def _root_.Go.W.LH.ae9(H:LH M w0 w L D)(i k:Nat){s:Sl}{U:List I}{t:I}{p:Addr}{K:J->Prop}(hi:L[i]? =some (.row aZ 4 s (U.flatMap I.c)))(q:s.a=some p)(j:k<U.length)(h:∀d,LH M w0 d (L.set i (.row aZ 4 s ((U.set k t).flatMap I.c))) D->K d):
  aS w (p.add (k *4)) (.int .i64 t.k) λx=>aS x ((p.add (k *4)).add 1) (.int .u8 (t.lo.toNat:Int)) λy=>aS y ((p.add (k *4)).add 2) (.int .u8 (t.hi.toNat:Int)) λz=>aS z ((p.add (k *4)).add 3) t.s.v K:=by
 have A:=H.US (bs:=[]) (K:=K) i k hi q j h ws
 grind
end
def GM{w:J}{s:Sl}{l:List I}(h:aF w aZ 4 s (l.flatMap I.c)){i:Nat}{t:I}(hi:l[i]? =some t){K:Addr->Prop}(d:∀p,s.a=some p->I.ga w p i t->K p):dV s.a K:=I.dy h.bd hi d
section
variable {M:Nat->Prop} {w0 w:J} {L D:List En}
def _root_.Go.W.LH.el(H:LH M w0 w L D)(i k:Nat){s:Sl}{U:List I}{t:I}{X:Int}{K:Int->Int->Int->Sl->Prop}(x:X=(k:Int))(j:U[k]? =some t)(h:K t.k t.lo.toNat t.hi.toNat t.s)(hi:L[i]? =some (.row aZ 4 s (U.flatMap I.c)):=by rfl):
  fo s X λp=>∃a b c:Int,∃d:Sl,w.cell? ((p.add (a5 X *4)).add 0)=some (.i a)/\w.cell? ((p.add (a5 X *4)).add 1)=some (.int .u8 b)/\w.cell? ((p.add (a5 X *4)).add 2)=some (.int .u8 c)/\w.cell? ((p.add (a5 X *4)).add 3)=some d.v/\K a b c d:=by subst x;have q:aF w aZ 4 s (U.flatMap I.c):=H.get i hi;have z:=I.cH q.bd;have y:=(cV.1 j).1;exact⟨co,co,GM q j λp A c=>⟨_,_,_,_,c.c0,c.c1,c.c2,c.c3,h⟩⟩
def _root_.Go.W.LH.xf(H:LH M w0 w L D)(i k:Nat){s:Sl}{U:List I}{t:I}{X:Int}{K:J->Prop}(x:X=(k:Int))(d:k<U.length)(q:∀j,LH M w0 j (L.set i (.row aZ 4 s ((U.set k t).flatMap I.c))) D->K j)(hi:L[i]? =some (.row aZ 4 s (U.flatMap I.c)):=by rfl):
  fo s X λp=>aS w (p.add (a5 X *4)) (.i t.k) λA=>aS A ((p.add (a5 X *4)).add 1) (.int .u8 (t.lo.toNat:Int)) λB=>aS B ((p.add (a5 X *4)).add 2) (.int .u8 (t.hi.toNat:Int)) λC=>aS C ((p.add (a5 X *4)).add 3) t.s.v K:=by subst x;have h:aF w aZ 4 s (U.flatMap I.c):=H.get i hi;have E:=I.cH h.bd;have y:U[k]? =some U[k]:=a' d;exact⟨co,co,GM h y λp z c=>H.ae9 i k hi z d q⟩
end
def E8{j:Nat}(d:1<=j)(h:j<=1000000000):ah .i64 ((j:Int) - 1)=((j - 1:Nat):Int):=by rw[aN _ co];omega
abbrev ej(b:Nat)(u:I):En:=.c b u.c aZ
def Ng{w:J}{k u:I}{b:Nat}(j:k.P w)(q:u.P w)(h:w.heap[b]? =some (.cells u.c.toArray aZ (0,0))):LH F0 w w [] [.tree k,.tree u,ej b u]:=bN _ (by
 intro e d;simp only[aq,aL,aR]at d;rcases d with rfl|rfl|rfl
 .exact j
 .exact q
 .exact h)
def Ju(k u:I)(b:Nat)(w:J)(h:k.sz<=1000000)(x:k.P w)(y:u.P w)(q:w.heap[b]? =some (.cells u.c.toArray aZ (0,0))):aj V u' #[k.v,.pointer (some (ab b))] w λr z=>r=ae (.bool (bc k.rx u.rx==0))/\af w z:=by refine SV.aD _ _ _ _ _ w _ ((Ng x y q).aK λB A d=>⟨_,_,_,u.s,d.fE 2 0,d.fE 2 1,d.fE 2 2,d.fE 2 3,d.aA (wQ k u A h (d.getD 0) (d.getD 1)) ?_⟩);rintro _ C rfl j;exact⟨_,rfl,rfl,j.fr⟩
def Yh(k u:I)(b:Nat)(w:J)(h:k.sz<=1000000)(x:k.P w)(y:u.P w)(q:w.heap[b]? =some (.cells u.c.toArray aZ (0,0))):aj V Gc #[k.v,.pointer (some (ab b))] w λr z=>r=ae (.bool (bc k.rx u.rx==0))/\af w z:=by refine S'.aD _ _ _ _ _ w _ ((Ng x y q).aK λB A d=>⟨_,_,_,u.s,d.fE 2 0,d.fE 2 1,d.fE 2 2,d.fE 2 3,d.aA (wQ k u A h (d.getD 0) (d.getD 1)) ?_⟩);rintro _ C rfl j;exact⟨_,rfl,rfl,j.fr⟩
def Yg(k:I)(w:J)(q:k.P w):aj V x5 #[k.v] w λr x=>r=ae k.v/\af w x:=by refine SY.aD _ _ _ _ w _ ((g4 q).aK λy A d=>d.aK λz B h=>h.ai λC j=>⟨rfl,j.fr⟩)
def mA(d:I->Bool):List I->Nat->Int
 |[],_=>-1
 |a::l,i=>if d a then(i:Int)else mA d l (i+1)
def Mg(d:I->Bool):∀(l:List I) (i:Nat),au (mA d l i>=0)=l.any d
 |[],i=>rfl
 |a::l,i=>by
  unfold mA;rw[List.any_cons];cases h:d a with
  |true=>simp
  |false=>simpa using Mg d l (i+1)
def Jf(s:Sl)(l:List I)(f:Fv)(j:I->Bool)(D:List En)(w:J)(M:l.length<=1000000)(B:bL 4 w s (l.flatMap I.c))(L:∀e∈D,e.P w)(E:hG V f.n=true)(F:∀q t,t∈l->LH F0 w q [] (I.row s l::D)->aj V f.n (f.bs++#[t.v]++f.cs) q λr K=>r=ae (.bool (j t))/\af q K):
  aj V PV #[s.v,f.v] w λr q=>r=ae (.int .i64 (mA j l 0))/\af w q:=by
 have Q:=I.cH B;have loop:∀(d i:Nat) (z:J),i+d=l.length->mA j (l.drop i) i=mA j l 0->LH F0 w z [] (I.row s l::D)->yE.L0 s f (s.n:Int) (i:Int) z λr q=>r=ae (.int .i64 (mA j l 0))/\af w q:=by
  intro d;induction d with
  |zero=>
   intro i z G h y;rw[du co]at h;exact yE.bC _ _ _ _ _ _ (aP (aV co) ⟨by rw[<-h];rfl,y.fr⟩)
  |succ d O=>
   intro i z G h y;have A:l[i]? =some (l[i]'co):=a' co;rw[dw (by omega:i<l.length)]at h;generalize l[i]'co=x at A h;refine yE.bC _ _ _ _ _ _ (aM (aQ co) ⟨co,co,I.dy (y.getD 0) A λp N c=>⟨x.k,x.lo.toNat,x.hi.toNat,x.s,c.c0,c.c1,c.c2,c.c3,?_⟩⟩);rw[E];refine(show cS true _ from ?_);refine y.call (F z x (aG A) y) ?_;rintro _ S rfl C;have h:(if j x then(i:Int)else mA j (l.drop (i+1)) (i+1))=mA j l 0:=h;refine⟨_,rfl,bP (λH=>⟨?_,C.fr⟩) (λH=>?_)⟩
   .grind
   .rw [ag (by grind)]at h;rw[bb _ co]
    grind
 refine yE.ok _ _ w _ (loop l.length 0 w co ws (bN _ (λe h=>?_)));rcases aq.1 h with rfl|h
 .exact B
 grind
def XJ(s:Sl)(l:List I)(f:Fv)(h:I->Bool)(D:List En)(w:J)(y:l.length<=1000000)(z:bL 4 w s (l.flatMap I.c))(k:∀e∈D,e.P w)(q:hG V f.n=true)(x:∀d t,t∈l->LH F0 w d [] (I.row s l::D)->aj V f.n (f.bs++#[t.v]++f.cs) d λr A=>r=ae (.bool (h t))/\af d A):
  aj V PT #[s.v,f.v] w λr d=>r=ae (.bool (l.any h))/\af w d:=by refine Ud.ok _ _ w _ ((Jf s l f h D w y z k q x).mono ?_);rintro _ B ⟨rfl,j⟩;refine⟨_,rfl,?_,j⟩;rw[Mg]
def Mh(d:I->Bool):∀(l:List I) (k:Nat),(mA d l k=-1/\∀t∈l,d t=false)\/∃m a,l[m]? =some a/\d a=true/\mA d l k=((k+m:Nat):Int)/\∀t∈l.take m,d t=false
 |[],k=>.inl ⟨rfl,ws⟩
 |a::l,k=>by
  unfold mA;cases y:d a with
  |true=>grind
  |false=>
   rcases Mh d l (k+1)with⟨j,h⟩|⟨m,q,j,h,w,x⟩
   .grind
   .refine .inr ⟨m+1,q,by grind,h,?_,?_⟩
    .grind
    grind
section
variable {M:Nat->Prop} {w0 w:J} {L D:List En} {bs:List Nat}
def _root_.Go.W.LH.DX(H:LH M w0 w L D)(i:Nat){P:aH}{g:FuncId}{args:Array aa}{A K:aJ}{e:aC}{sz:Nat}{s:Sl}{xs:List aa}(hi:L[i]? =some (.row e sz s xs))(q:aj P g args w λr d=>A r d/\Fr (·∈ax s) w d)(z:∀r d,A r d->(∀h:En,h.P d->(∀b∈h.fp,b∈ax s\/w.heap.size<=b)->LH M w0 d (L.set i h) D)->K r d)(bF:∀b∈bs,En.g b∈L:=by simp):eJ bs P g args w K:=
 ⟨(·∈ax s),λb k=>H.Ac hi (bF b k),q.mono λr d ⟨j,f⟩=>⟨f,z r d j λh x y=>H.ha i h hi f x y⟩⟩
def _root_.Go.W.LH.off(H:LH M w0 w L D)(i j:Nat){e:aC}{sz:Nat}{s:Sl}{xs:List aa}{d:En}(hi:L[i]? =some (.row e sz s xs):=by rfl)(q:D[j]? =some d:=by rfl):∀h∈ax s,h∉d.fp:=λh x k=>
 H.dj d (aG q) h k _ (aG hi) x
end
def wF(s:Sl)(l:List I)(r:cE)(w Y:J):Prop:=∃d:Sl,r=ae d.v/\aF Y aZ 4 d (l.flatMap I.c)/\∀h∈ax d,h∈ax s
def As{w:J}{s:Sl}{l:List I}(D:List En)(q:aF w aZ 4 s (l.flatMap I.c))(h:∀e∈D,e.P w/\∀y∈ax s,y∉e.fp):LH (·∈ax s) w w [.row aZ 4 s (l.flatMap I.c)] D:=
 LH.s9 _ _ (by
  intro e d;simp only[aq,aL,aR]at d;subst d;exact⟨q,λb j=>j⟩) (by
  simp only[cU,List.flatMap_nil,List.append_nil];exact(En.row aZ 4 s (l.flatMap I.c)).nd) (λe d=>⟨(h e d).1,λb j z k=>by simp only[aq,aL,aR]at k;subst k;exact λx=>(h e d).2 b x j⟩)
def Vh{α:Type}{l:List α}{i:Nat}{a:α}(h:i<l.length):(l.set i a).take (i+1)=l.take i++[a]:=by rw[dM,kq h,List.take_set_of_le (bm _)];rfl
def XK(s:Sl)(l:List I)(u:I)(b:Nat)(w:J)(hl:I.a7 l<=1000000)(M:aF w aZ 4 s (l.flatMap I.c))(pl:I.Ps w l)(pu:u.P w)(hb:w.heap[b]? =some (.cells u.c.toArray aZ (0,0)))(K:∀q∈ax s,q∉I.be l/\q∉u.fp/\q≠b):
  aj V PU #[s.v,.func (.func u') #[] #[.pointer (some (ab b))]] w λr y=>wF s (l.filter λt=>!(bc t.rx u.rx==0)) r w y/\Fr (·∈ax s) w y:=by
 have nr:=I.cH M.bd;have ll:=I.fR l;have kt:∀t∈l,t.sz<=1000000:=λt A=>bz (I.eH A) hl;have N:LH (·∈ax s) w w [.row aZ 4 s (l.flatMap I.c)] [.trees l,.tree u,ej b u]:=As _ M (by
  intro e W;simp only[aq,aL,aR]at W;rcases W with rfl|rfl|rfl
  .exact ⟨pl,λq h B=>(K q h).1 (a0.1 B)⟩
  .exact ⟨pu,λq h B=>(K q h).2.1 (a0.1 B)⟩
  .exact ⟨hb,λq h B=>(K q h).2.2 (by simpa[ej,En.c,En.ob]using B)⟩)
 have loop:∀(d i j:Nat) (cur:List I) (C:J),j+d=l.length->i<j->cur.length=l.length->cur.drop j=l.drop j->cur.take i=(l.take j).filter (λt=>!(bc t.rx u.rx==0))->LH (·∈ax s) w C [.row aZ 4 s (cur.flatMap I.c)] [.trees l,.tree u,ej b u]->
   s4.a8 s (ab b) (i:Int) (j:Int) C λr y=>wF s (l.filter λt=>!(bc t.rx u.rx==0)) r w y/\Fr (·∈ax s) w y:=by
  intro d;induction d with
  |zero=>
   intro i j cur C hj ad T F Y x;refine s4.bJ _ _ _ _ _ _ (aP (aV co) ⟨co,co,?_⟩);have ag:=(x.get 0:aF _ _ _ _ _).cap;obtain⟨w2,D,Q,H⟩:=Kk (ty:=lj) rZ Wd rfl (x.get 0) i co;refine⟨w2,D,co,co,⟨⟨if s.c=0 then s.a else s.a.map (·.add (0 *4)),i - 0,s.c - 0⟩,rfl,?_,λq h=>?_⟩,x.fr.trans H λq _ aa=>aa⟩
   .have e:(cur.flatMap I.c).take (i *4)=(l.filter λt=>!(bc t.rx u.rx==0)).flatMap I.c:=by
     have e1:(cur.flatMap I.c).take (i *4)=(cur.take i).flatMap I.c:=by
      have:=I.e7 (cur.take i);conv=>lhs;rw[<-np i cur,de]
      grind
     grind
    grind
   .simp only[ax]at h ⊢;split at h
    .rename_i p z;split at z
     .omega
     .cases af:s.a with
      |none=>grind
      |some ak=>
       rw[af]at z;simp only[Option.map_some,fq]at z;subst z;rw[jG]at h;exact h
    grind
  |succ d Z=>
   intro i j cur C hj ad T F Y x;have L:l[j]? =some (l[j]'co):=a' co;generalize ah:l[j]'co=a at L;have ac:cur[j]? =some a:=by
    have:(cur.drop j)[0]? =(l.drop j)[0]?:=by rw[F]
    grind
   have S:=aG L;have ae:l.take (j+1)=l.take j++[a]:=by rw[dM,L];rfl
   refine s4.bJ _ _ _ _ _ _ (aM (aQ co) ⟨co,co,GM (x.get 0) ac λp z c=>⟨a.k,a.lo.toNat,a.hi.toNat,a.s,c.c0,c.c1,c.c2,c.c3,?_⟩⟩);refine x.aK (λb7 w2 H2=>H2.ai λw3 E=>?_);refine E.aA (Ju a u b w3 (kt a S) ((show I.Ps w3 l from E.getD 0).mem S) (E.getD 1) (E.getD 2)) ?_;rintro _ w4 rfl O;refine⟨_,rfl,dW (λhf=>⟨co,co,?_⟩) (λA=>?_)⟩
   .rw [z];refine(show dV (some p) _ from ?_);refine O.US 0 i (t:=a) (U:=cur) rfl z co (λw5 H5=>?_);show s4.a8 _ _ _ _ _ _;rw[bb _ co,bb _ co];refine Z (i+1) (j+1) (cur.set i a) w5 co co (by grind) ?_ ?_ (H5.take 1)
    .rw [List.drop_set_of_lt co,<-qL,F,qL]
    .rw [Vh co,Y,ae,List.filter_append]
     grind
   .show s4.a8 _ _ _ _ _ _;rw[bb _ co];refine Z i (j+1) cur w4 co co T ?_ ?_ (O.take 1)
    .rw [<-qL,F,qL]
    grind
 refine s4.aD _ _ w _ ?_;have hI:=Jf s l ⟨u',#[],#[.pointer (some (ab b))]⟩ (λt=>bc t.rx u.rx==0) [.trees l,.tree u,ej b u] w co M.bd (N.rd) (by kernel_rfl) (λy t A G=>Ju t u b y (kt t A) ((show I.Ps y l from G.getD 1).mem A) (G.getD 2) (G.getD 3));refine N.call hI ?_;rintro _ C rfl x;rcases Mh (λt=>bc t.rx u.rx==0) l 0 with⟨D,Q⟩|⟨m,a,D,Q,H,h4⟩
 .refine ⟨_,rfl,aM (by grind) ⟨⟨s,rfl,?_,λq h=>h⟩,x.fr⟩⟩;rw[List.filter_eq_self.2 (λt A=>by grind)];exact x.get 0
 .have B:m<l.length:=(cV.1 D).1;refine⟨_,rfl,aP (by grind) ?_⟩;rw[H,Nat.zero_add,bb _ co];refine loop (l.length - (m+1)) m (m+1) l C co co rfl rfl ?_ x;rw[dM,D,List.filter_append,List.filter_eq_self.2 (λt A=>by grind)]
  grind
def fj(x k:I):List I:=if k.k=x.k then k.l else[k]
def Fu(u t:I):Bool:=!(bc t.rx u.rx==0)
def gF(x u:I):List I:=(x.l.flatMap (fj x)).filter (Fu u)
structure Sub(x:I)(l:List I):Prop where
 P:∀w:J,x.P w->∀t∈l,t.P w
 fp:∀t∈l,∀b∈t.fp,b∈x.fp
def Sub.part{x t:I}(h:t∈x.l):Sub x [t]:=⟨λw k q d=>by
  simp at d;subst d;exact k.parts.2.mem h,λq d b j=>by simp at d;subst d;exact I.gG.2 (.inr (I.bZ.2 ⟨_,h,j⟩))⟩
def Sub.open{x k:I}(h:k∈x.l):Sub x (fj x k):=by
 unfold fj;split
 .exact ⟨λw q t d=>((q.parts.2.mem h).parts.2).mem d,λt d b j=>I.gG.2 (.inr (I.bZ.2 ⟨k,h,I.gG.2 (.inr (I.bZ.2 ⟨t,d,j⟩))⟩))⟩
 .exact .part h
def Sub.flat{x:I}{l:List I}(h:∀j∈l,j∈x.l):Sub x (l.flatMap (fj x)):=⟨λw q t d=>by
  obtain⟨j,k,d⟩:=bX.1 d;exact(Sub.open (h j k)).P w q t d,λt d=>by obtain⟨j,k,d⟩:=bX.1 d;exact(Sub.open (h j k)).fp t d⟩
def Sub.sub{x:I}{l m:List I}(h:Sub x l)(j:∀t∈m,t∈l):Sub x m:=⟨λq k t d=>h.P q k t (j t d),λt d=>h.fp t (j t d)⟩
def Sub.Ps{x:I}{l:List I}(h:Sub x l){w:J}(d:x.P w):I.Ps w l:=I.i0 (h.P w d)
def Sub.be{x:I}{l:List I}(h:Sub x l){b:Nat}(d:b∈I.be l):b∈x.fp:=by obtain⟨t,j,d⟩:=I.bZ.1 d;exact h.fp t j b d
def Sub.gF(x u:I):Sub x (gF x u):=(Sub.flat (λ_ d=>d)).sub λ_ d=>(List.mem_filter.1 d).1
def vS(x:I):∀l:List I,I.a7 (l.flatMap (fj x))<=I.a7 l
 |[]=>bm _
 |d::l=>by
  have h:I.a7 (fj x d)<=d.sz:=by
   unfold fj;split
   .rw [I.iI d];omega
   .simp [I.a7]
  rw[cU,vR];have:=vS x l;show _<=d.sz+I.a7 l;omega
def U9(d:I->Bool):∀l:List I,I.a7 (l.filter d)<=I.a7 l
 |[]=>bm _
 |h::l=>by
  have:=U9 d l;rw[List.filter_cons];split
  .unfold I.a7;omega
  .show _<=h.sz+I.a7 l;omega
def afi(x u:I):I.a7 (gF x u)+1<=x.sz:=by have d:=U9 (Fu u) (x.l.flatMap (fj x));have h:=vS x x.l;rw[I.iI x];unfold gF;omega
def Dc(w:J)(l:List I)(r:cE)(Y:J):Prop:=∃d:Sl,r=ae d.v/\aF Y aZ 4 d (l.flatMap I.c)/\∀h∈ax d,w.heap.size<=h
def Ye(x u:I)(w:J)(h:x.sz<=1000000)(W:x.P w)(pu:u.P w):aj V PC #[x.v,u.v] w λr Y=>Dc w (gF x u) r Y/\af w Y:=by
 have hs:=I.iI x;have hl:=I.fR x.l;have nr:=I.cH W.parts.1;have loop:∀(d i:Nat) (acc:List I) (sl:Sl) (b2 B:Nat) (z:J),i+d=x.l.length->acc=(x.l.take i).flatMap (fj x)->LH F0 w z [.g b2,.c B u.c aZ,.row aZ 4 sl (acc.flatMap I.c)] [.tree x,.tree u]->
   sV.a8 b2 x.k x.lo.toNat x.hi.toNat x.s (ab B) sl x.s (x.s.n:Int) (i:Int) z λr Y=>Dc w (gF x u) r Y/\af w Y:=by
  intro d;induction d with
  |zero=>
   intro i acc sl b2 B z aa C q;have S:Sub x acc:=by rw[C];exact Sub.flat λam D=>List.mem_of_mem_take D
   have ad:I.a7 acc<=I.a7 x.l:=by rw[C,eh co];exact vS x x.l
   refine sV.bJ _ _ _ _ _ _ _ _ _ _ _ _ (aP (aV co) ?_);refine q.DX 2 rfl (XK sl acc u B z co (q.get 2) (S.Ps (q.getD 0)) (q.getD 1) (q.ob 1) (λQ L=>⟨λy=>q.off 2 0 rfl rfl Q L (a0.2 (S.be y)),λy=>q.off 2 1 rfl rfl Q L (a0.2 y),λy=>?_⟩)) ?_
   .exact n4 q.nd (i:=2) rfl (j:=1) rfl co Q L (by simp[En.c,En.ob,y])
   rintro _ M ⟨s',rfl,K,hb⟩ hH;have A:=hH (.row aZ 4 s' ((acc.filter (Fu u)).flatMap I.c)) K λb H=>.inl (hb b H);refine⟨s',rfl,⟨s',rfl,?_,λb H=>(A.new _ (aG (i:=2) rfl) b H).resolve_right id⟩,A.fr⟩;rw[C,eh co]at K;exact K
  |succ d al=>
   intro i acc sl b2 B z aa C q;have F:x.l[i]? =some (x.l[i]'co):=a' co;generalize x.l[i]'co=a at F;have y:=aG F;have ae:x.P z:=q.getD 0;have ao:=I.eH y;have ad:I.a7 acc<=I.a7 x.l:=by
    have h1:=vS x (x.l.take i);have h2:=BS x.l i
    grind
   have ah:acc++fj x a=(x.l.take (i+1)).flatMap (fj x):=by rw[dM,F,de,C];simp
   have an:=I.cH (q.get 2:aF _ _ _ _ _).bd;have ac:=I.fR acc;have tail:∀(s':Sl) (Y:J),LH F0 w Y [.g b2,.c B u.c aZ,.row aZ 4 s' ((acc++fj x a).flatMap I.c)] [.tree x,.tree u]->sV.bW b2 x.k x.lo.toNat x.hi.toNat x.s (ab B) s' x.s (x.s.n:Int) (i:Int) Y λr Y=>Dc w (gF x u) r Y/\af w Y:=by
    intro s' Y H';show sV.a8 _ _ _ _ _ _ _ _ _ _ _ _;rw[bb _ co]
    grind
   refine sV.bJ _ _ _ _ _ _ _ _ _ _ _ _ (aM (aQ co) ⟨co,co,I.dy ae.parts.1 F λp hp c=>⟨_,_,_,_,c.c0,c.c1,c.c2,c.c3,?_⟩⟩);refine q.aK λb7 M A=>aO (λD=>A.ai λN E=>?_) (λD=>A.ai λN E=>?_)
   .have U:a.P N:=(show x.P N from E.getD 0).parts.2.mem y;have na:=I.cH U.parts.1;have ac:=I.fR a.l;have ak:=I.iI a;refine E.dm 2 rZ (xs:=acc.flatMap I.c) (src:=a.s) (news:=a.l.flatMap I.c) rfl U.parts.1 (uj _) co (λs' O G=>?_);refine tail s' O ?_;have e:fj x a=a.l:=av D;rw[e,de];exact G.take 3
   .refine E.jh 2 rZ (xs:=acc.flatMap I.c) rfl (λs' O G=>?_) co;refine tail s' O ?_;have e:fj x a=[a]:=ag D;rw[e,m5];exact G.take 3
 refine sV.aD _ _ _ _ _ _ _ _ w _ ((bN [.tree x,.tree u] (by
  intro e T;simp only[aq,aL,aR]at T;rcases T with rfl|rfl
  .exact W
  .exact pu)).aK λb2 z Z=>Z.nw λM _ A=>?_)
 exact loop x.l.length 0 [] ⟨none,0,0⟩ b2 z.heap.size M co rfl (A.fN aZ 4)
def D4(a b:Int):cP b a=-cP a b:=by
 have s:∀a b:Int,(cP a b=-1/\a<b)\/(cP a b=1/\b<a)\/(cP a b=0/\a=b):=λa b=>by
  unfold cP;split
  .exact .inl ⟨rfl,co⟩
  .split
   .exact .inr (.inl ⟨rfl,co⟩)
   .exact .inr (.inr ⟨rfl,co⟩)
 rcases s a b with d|d|d<;>rcases s b a with h|h|h<;>omega
def GK(c d:Int)(l m:List Int)(h:d=-c)(j:eG m=-eG l):eG (d::m)=-eG (c::l):=by
 show(if d≠0 then d else eG m)=-(if c≠0 then c else eG l);split
 .rw [av co];exact h
 .rw [ag co];exact j
def yb(c:Int):eG [c]=c:=by show(if c≠0 then c else 0)=c;split<;>omega
def uq(k:Int)(lo hi:UInt8)(l:List Rx)(b:Rx):bc (.mk k lo hi l) b=eG [cP k b.k,cP lo.toNat b.lo.toNat,cP hi.toNat b.hi.toNat,cmpL l b.l]:=by
 unfold bc;generalize cP k b.k=c0;generalize cP lo.toNat b.lo.toNat=c1;generalize cP hi.toNat b.hi.toNat=c2;generalize cmpL l b.l=c3;simp only[eG];by_cases d:c0=0
 .by_cases h:c1=0
  .by_cases j:c2=0
   .by_cases q:c3=0<;>simp[d,h,j,q]
   .simp [d,h,j]
  .simp [d,h]
 .simp [d]
mutual
def ke:∀a b:Rx,bc b a=-bc a b
 |.mk k lo h l,.mk q w j d=>by rw[uq,uq];exact GK _ _ _ _ (D4 _ _) (GK _ _ _ _ (D4 _ _) (GK _ _ _ _ (D4 _ _) (by rw[yb,yb];exact J7 l d)))
def J7:∀a b:List Rx,cmpL b a=-cmpL a b
 |[],[]=>by unfold cmpL;rfl
 |[],_::_=>by unfold cmpL;rfl
 |_::_,[]=>by unfold cmpL;rfl
 |d::l,h::m=>by
  have j:=ke d h;have k:=J7 l m;show(if bc h d≠0 then bc h d else cmpL m l)=-(if bc d h≠0 then bc d h else cmpL l m);split
  .rw [av co];exact j
  .rw [ag co];exact k
end
structure rJ(x y z:Int):Prop where
 le:x<=0->y<=0->z<=0
 lt:x<0->y<=0->z<0
 lt':x<=0->y<0->z<0
 eq:x=0->y=0->z=0
def D5(a b c:Int):rJ (cP a b) (cP b c) (cP a c):=by
 have s:∀a b:Int,(cP a b=-1/\a<b)\/(cP a b=1/\b<a)\/(cP a b=0/\a=b):=λa b=>by
  unfold cP;split
  .exact .inl ⟨rfl,co⟩
  .split
   .exact .inr (.inl ⟨rfl,co⟩)
   .exact .inr (.inr ⟨rfl,co⟩)
 rcases s a b with d|d|d<;>rcases s b c with h|h|h<;>rcases s a c with j|j|j<;>constructor<;>omega
def BZ{x y z B C D:Int}(h:rJ x y z)(K:rJ B C D):rJ (if x≠0 then x else B) (if y≠0 then y else C) (if z≠0 then z else D):=by
 obtain⟨L,k,w,E⟩:=h;obtain⟨F,G,H,I⟩:=K;by_cases A:x=0
 .by_cases q:y=0
  .have M:=E A q;rw[ag co,ag co,ag co];exact⟨F,G,H,I⟩
  .rw [ag (by omega:¬x≠0),av q];constructor
   .intro d j;have:=w co co;rw[av co];omega
   .intro d j;have:=w co co;rw[av co];omega
   .intro d j;have:=w co co;rw[av co];omega
   .intro d j;omega
 .rw [av A];by_cases q:y=0
  .rw [ag (by omega:¬y≠0)];constructor
   .intro d j;have:=k co co;rw[av co];omega
   .intro d j;have:=k co co;rw[av co];omega
   .intro d j;have:=k co co;rw[av co];omega
   .intro d j;omega
  .rw [av q];constructor
   .intro d j;have:=k co co;rw[av co];omega
   .intro d j;have:=k co co;rw[av co];omega
   .intro d j;have:=k co co;rw[av co];omega
   .intro d j;omega
mutual
def w3:∀a b c:Rx,rJ (bc a b) (bc b c) (bc a c)
 |.mk w lo j l,.mk x z k d,.mk y A q h=>by
  rw[uq,uq,uq];have:=J8 l d h;exact BZ (D5 _ _ _) (BZ (D5 _ _ _) (BZ (D5 _ _ _) (by show rJ (eG [cmpL l d]) (eG [cmpL d h]) (eG [cmpL l h]);rw[yb,yb,yb];exact this)))
def J8:∀a b c:List Rx,rJ (cmpL a b) (cmpL b c) (cmpL a c)
 |[],[],[]=>by unfold cmpL;constructor<;>omega
 |[],[],_::_=>by unfold cmpL;constructor<;>omega
 |[],_::_,[]=>by unfold cmpL;constructor<;>omega
 |_::_,[],[]=>by unfold cmpL;constructor<;>omega
 |_::_,[],_::_=>by have d:∀(x:Rx) (l:List Rx),cmpL (x::l) []=1:=λ_ _=>rfl;have h:∀(x:Rx) (l:List Rx),cmpL [] (x::l)=-1:=λ_ _=>rfl;rw[d,h];constructor<;>omega
 |[],j::m,k::n=>by have h:∀(x:Rx) (l:List Rx),cmpL [] (x::l)=-1:=λ_ _=>rfl;rw[h,h];constructor<;>omega
 |x::l,j::m,[]=>by have d:∀(x:Rx) (l:List Rx),cmpL (x::l) []=1:=λ_ _=>rfl;rw[d,d];constructor<;>omega
 |x::l,j::m,k::n=>BZ (w3 x j k) (J8 l m n)
end
def mB(x:Rx):List Rx->List Rx
 |[]=>[x]
 |d::p=>if bc x d<0 then d::mB x p else x::d::p
def lf(l:List Rx):List Rx:=(l.foldl (λp d=>mB d p) []).reverse
def kP(p:Rx):List Rx->List Rx
 |[]=>[]
 |d::l=>if bc d p==0 then kP d l else d::kP d l
def rW:List Rx->List Rx
 |[]=>[]
 |a::l=>a::kP a l
def D6{a b:Int}(h:cP a b=0):a=b:=by
 unfold cP at h;split at h
 .cases h
 .split at h
  .cases h
  .omega
def RJ:∀{l:List Int},eG l=0->∀j∈l,j=0
 |[],_=>λj d=>by cases d
 |a::l,h=>by
  unfold eG at h;split at h
  .rename_i q;exact absurd h q
  .rename_i k;have k:a=0:=by simpa using k
   intro j d;rcases aq.1 d with rfl|d
   .exact k
   .exact RJ h j d
def VK{a b:UInt8}(h:(a.toNat:Int)=b.toNat):a=b:=UInt8.toNat_inj.1 co
mutual
def cmp_eq:∀a b:Rx,bc a b=0->a=b
 |.mk A lo y l,.mk B C z x,d=>by rw[uq]at d;have d:=RJ d;have h:=D6 (d _ (oy ..));have j:=VK (D6 (d _ (fF _ (oy ..))));have q:=VK (D6 (d _ (fF _ (fF _ (oy ..)))));have w:=Kb l x (d _ (fF _ (fF _ (fF _ (oy ..)))));simp only[Rx.k,Rx.lo,Rx.hi]at h j q;rw[h,j,q,w]
def Kb:∀l m:List Rx,cmpL l m=0->l=m
 |[],[],_=>rfl
 |[],_::_,d=>by unfold cmpL at d;cases d
 |_::_,[],d=>by unfold cmpL at d;cases d
 |a::l,b::m,d=>by
  unfold cmpL at d;split at d
  .rename_i j;exact absurd d j
  .rename_i h;rw[cmp_eq a b (by simpa using h),Kb l m d]
end
def D9(a:Rx):bc a a=0:=by have:=ke a a;omega
def rV{a b:Rx}:(bc a b==0)=true↔a=b:=⟨λd=>cmp_eq a b (eq_of_beq d),λd=>by subst d;rw[D9];rfl⟩
def w5{a b:Rx}:bc a b=0↔a=b:=⟨cmp_eq a b,λd=>by subst d;exact D9 a⟩
def Ka{a b:Rx}:(!(bc a b==0))=true↔a≠b:=by rw[Bool.not_eq_true',<-jB,not_congr rV]
abbrev jD(l:List Rx):Prop:=l.Pairwise λa b=>bc a b<0
abbrev ln(l:List Rx):Prop:=l.Pairwise λa b=>bc a b<=0
def jD.nodup{l:List Rx}(h:jD l):l.Nodup:=List.nodup_iff_pairwise_ne.2 (h.imp λ{a b} d e=>by subst e;rw[D9]at d;omega)
def jD.I4{l:List Rx}(h:jD l):ln l:=h.imp λ{a b} d=>co
def I5{l m:List Rx}(d:ln l)(j:ln m)(h:l.Perm m):l=m:=List.Perm.eq_of_pairwise (λa b _ _ k q=>cmp_eq a b (by have:=ke a b;omega)) d j h
def aaG{l m:List Rx}(d:jD l)(j:jD m)(h:∀t,t∈l↔t∈m):l=m:=I5 d.I4 j.I4 ((List.perm_ext_iff_of_nodup d.nodup j.nodup).2 h)
def Fg(x:Rx):∀p:List Rx,(mB x p).Perm (x::p)
 |[]=>.refl _
 |d::p=>by
  unfold mB;split
  .exact ((Fg x p).cons d).trans (.swap x d p)
  .exact .refl _
def Mr(x:Rx):∀{p:List Rx},p.Pairwise (λa b=>bc b a<=0)->(mB x p).Pairwise λa b=>bc b a<=0
 |[],_=>by unfold mB;simp
 |j::p,k=>by
  have h:=List.pairwise_cons.1 k;unfold mB;split
  .rename_i w;refine List.pairwise_cons.2 ⟨λt d=>?_,Mr x h.2⟩;rcases aq.1 ((Fg x p).mem_iff.1 d)with rfl|d
   .omega
   .exact h.1 t d
  .rename_i w;have q:bc j x<=0:=by have:=ke x j;omega
   refine List.pairwise_cons.2 ⟨λt d=>?_,k⟩;rcases aq.1 d with rfl|d
   .exact q
   .exact (w3 t j x).le (h.1 t d) q
def HJ(l:List Rx):(lf l).Perm l:=by
 have:∀(l p:List Rx),(l.foldl (λp j=>mB j p) p).Perm (l++p):=by
  intro l;induction l with
  |nil=>intro p;exact .refl _
  |cons a l h=>
   intro p;rw[List.foldl_cons];exact(h _).trans (((Fg a p).append_left l).trans List.perm_middle)
 unfold lf;have d:=this l [];rw[List.append_nil]at d;exact(List.reverse_perm _).trans d
def HH(l:List Rx):ln (lf l):=by
 have:∀(l p:List Rx),p.Pairwise (λa b=>bc b a<=0)->(l.foldl (λp j=>mB j p) p).Pairwise λa b=>bc b a<=0:=by
  intro l;induction l with
  |nil=>intro p d;exact d
  |cons a l h=>intro p d;exact h _ (Mr a d)
 unfold lf;exact List.pairwise_reverse.2 (this l [] .nil)
def aez{l m:List Rx}(h:ln m)(d:m.Perm l):m=lf l:=I5 h (HH l) (d.trans (HJ l).symm)
def Ea{t:Rx}:∀{l:List Rx} {p:Rx},(t=p\/t∈kP p l)↔(t=p\/t∈l)
 |[],p=>by unfold kP;simp
 |h::l,p=>by
  unfold kP;split
  .rename_i d;have e:h=p:=rV.1 d;subst e;rw[Ea,aq];constructor
   .rintro (d|d)<;>simp[d]
   .rintro (d|d|d)<;>simp[d]
  .rw [aq,aq];have:=Ea (t:=t) (l:=l) (p:=h);constructor
   .rintro (d|d)
    .exact .inl d
    .exact .inr (this.1 d)
   .rintro (d|d)
    .exact .inl d
    .exact .inr (this.2 d)
def D':∀{l:List Rx} {p:Rx},ln (p::l)->jD (p::kP p l)
 |[],p,_=>by unfold kP;simp
 |d::l,p,x=>by
  obtain⟨y,k⟩:=List.pairwise_cons.1 x;unfold kP;split
  .rename_i j;have e:d=p:=rV.1 j;subst e;exact D' k
  .rename_i j;have w:bc p d<0:=by have z:=y d ws;have A:=ke d p;have B:bc d p≠0:=λe=>j (by rw[e];rfl);omega
   have q:=D' k;refine List.pairwise_cons.2 ⟨λt h=>?_,q⟩;rcases aq.1 h with rfl|h
   .exact w
   .exact (w3 p d t).lt w (by have:=(List.pairwise_cons.1 q).1 t h;omega)
def Y5{l:List Rx}(h:ln l):jD (rW l):=by
 cases l with
 |nil=>exact .nil
 |cons a l=>exact D' h
def Y6{t:Rx}{l:List Rx}:t∈rW l↔t∈l:=by
 cases l with
 |nil=>exact Iff.rfl
 |cons a l=>show t∈a::kP a l↔_;rw[aq,aq];exact Ea
def vH(l:List Rx):List Rx:=rW (lf l)
def T2(l:List Rx):jD (vH l):=Y5 (HH l)
def T3{t:Rx}{l:List Rx}:t∈vH l↔t∈l:=by unfold vH;rw[Y6,(HJ l).mem_iff]
def lT(r:Rx):List Rx->List Rx
 |[]=>[r]
 |d::p=>if bc d r<0 then d::lT r p else if bc d r=0 then d::p else r::d::p
def G1{t r:Rx}:∀{p:List Rx},t∈lT r p↔t=r\/t∈p
 |[]=>by unfold lT;simp
 |j::p=>by
  unfold lT;split
  .rw [aq,G1,aq];constructor
   .rintro (d|d|d)<;>simp[d]
   .rintro (d|d|d)<;>simp[d]
  .split
   .rename_i h;have e:=cmp_eq j r h;subst e;simp
   .simp
def Sm{r:Rx}:∀{p:List Rx},jD p->jD (lT r p)
 |[],_=>by unfold lT;simp
 |j::p,h=>by
  obtain⟨k,x⟩:=List.pairwise_cons.1 h;unfold lT;split
  .rename_i w;refine List.pairwise_cons.2 ⟨λt d=>?_,Sm x⟩;rcases G1.1 d with rfl|d
   .exact w
   .exact k t d
  .split
   .exact h
   .rename_i w y;have q:bc r j<0:=by have:=ke r j;omega
    refine List.pairwise_cons.2 ⟨λt d=>?_,h⟩;rcases aq.1 d with rfl|d
    .exact q
    .exact (w3 r j t).lt q (by have:=k t d;omega)
def hj(k:Int):List Rx->List Rx->List Rx
 |out,[]=>out
 |out,t::l=>hj k (if k=3 then out++[t]else lT t out) l
def RM:∀(l out:List Rx),hj 3 out l=out++l
 |[],out=>by unfold hj;simp
 |t::l,out=>by unfold hj;rw[RM l,av rfl];simp
def RN{k:Int}(h:k≠3):∀(l:List Rx) {out:List Rx},jD out->jD (hj k out l)
 |[],_,d=>d
 |t::l,out,d=>by unfold hj;rw[ag h];exact RN h l (Sm d)
def RO{k:Int}(h:k≠3){t:Rx}:∀(l:List Rx) {out:List Rx},t∈hj k out l↔t∈out\/t∈l
 |[],out=>by unfold hj;simp
 |a::l,out=>by
  unfold hj;rw[ag h,RO h l,G1,aq];constructor
  .rintro ((d|d)|d)<;>simp[d]
  .rintro (d|d|d)<;>simp[d]
def acP(k:Int)(l:List Rx):hj k [] l=if k=3 then l else vH l:=by
 split
 .rename_i d;subst d;rw[RM];rfl
 .rename_i d;exact aaG (RN d l .nil) (T2 l) λt=>by rw[RO d,T3];simp
def ms(μ:Rx->Nat):List Rx->Nat
 |[]=>0
 |a::l=>μ a+ms μ l
section
variable {μ:Rx->Nat}
def NI:∀l m:List Rx,ms μ (l++m)=ms μ l+ms μ m
 |[],m=>by simp[ms]
 |a::l,m=>by show μ a+ms μ (l++m)=μ a+ms μ l+ms μ m;rw[NI l m];omega
def ab4{l m:List Rx}(h:l.Perm m):ms μ l=ms μ m:=by
 induction h with
 |nil=>rfl
 |cons d _ w=>show μ d+_=μ d+_;rw[w]
 |swap d j l=>show μ j+(μ d+_)=μ d+(μ j+_);omega
 |trans _ _ k q=>rw[k,q]
end
mutual
def dK:Rx->Nat|.mk _ _ _ l=>max 1 (Az l)
def Az:List Rx->Nat
 |[]=>0
 |a::l=>dK a+Az l
end
def Nu:∀l:List Rx,Az l=ms dK l
 |[]=>rfl
 |a::l=>by unfold Az;rw[Nu l];rfl
def su(k:Int)(lo hi:UInt8)(l:List Rx):dK (.mk k lo hi l)=max 1 (ms dK l):=by unfold dK;rw[Nu]
mutual
def o7(N:Nat):Rx->Prop|.mk k _ _ l=>r5 N l/\(k=4\/k=5->ms dK l<=N)
def r5(N:Nat):List Rx->Prop
 |[]=>True
 |a::l=>o7 N a/\r5 N l
end
mutual
def EL{N:Nat}:∀d:Rx,dK d<=N->o7 N d
 |.mk k lo j l,h=>by rw[su]at h;unfold o7;exact⟨LB l co,λ_=>co⟩
def LB{N:Nat}:∀l:List Rx,ms dK l<=N->r5 N l
 |[],_=>by unfold r5;trivial
 |a::l,d=>by have d:dK a+ms dK l<=N:=d;unfold r5;exact⟨EL a co,LB l co⟩
end
abbrev abG:ByteArray:=ByteArray.mk #[0,1,2,2,3,3,3,3,4,4,4,4,4,4,4,4,5,5,5,5,5,5,5,5,5,5,5,5,5,5,5,5,6,6,6,6,6,6,6,6,6,6,6,6,6,6,6,6,6,6,6,6,6,6,6,6,6,6,6,6,6,6,6,6,7,7,7,7,7,7,7,7,7,7,7,7,7,7,7,7,7,7,7,7,7,7,7,7,7,7,7,7,7,7,7,7,7,7,7,7,7,7,7,7,7,7,7,7,7,7,7,7,7,7,7,7,7,7,7,7,7,7,7,7,7,7,7,7,8,8,8,8,8,8,8,8,8,8,8,8,8,8,8,8,8,8,8,8,8,8,8,8,8,8,8,8,8,8,8,8,8,8,8,8,8,8,8,8,8,8,8,8,8,8,8,8,8,8,8,8,8,8,8,8,8,8,8,8,8,8,8,8,8,8,8,8,8,8,8,8,8,8,8,8,8,8,8,8,8,8,8,8,8,8,8,8,8,8,8,8,8,8,8,8,8,8,8,8,8,8,8,8,8,8,8,8,8,8,8,8,8,8,8,8,8,8,8,8,8,8,8,8,8,8,8,8]
namespace k1
abbrev P0:Ps:=[(0,.v [.U]),(2,.v [.I])]
noncomputable abbrev S2:=ak (ay V Tryz.f170 [] []) [4] P0
noncomputable abbrev t1:=ao S2
noncomputable abbrev S1:=ak t1 [3] P0
noncomputable abbrev t2:=ao S1
noncomputable abbrev S0:=ak t2 [2] P0
noncomputable abbrev t3:=ao S0
def ok:=az t3 Pf [.U]
end k1
namespace FK
def ok:=az (ay V Tryz.f246 [] []) F5 [.U]
end FK
namespace mN
abbrev P0:Ps:=[(0,.v [.s]),(1,.v [.I]),(2,.v [.I]),(3,.v [.g cz 0 0]),(8,.v [.I])]
noncomputable def L0:=bg (ay V Tryz.f254 [(4,lr 17),(6,lr 18)] []) [0,1,1] P0
noncomputable abbrev t1:=bf L0
noncomputable def L1:=bg t1 [0,1,1,2,1,2,1] [(0,.v [.s]),(1,.v [.I]),(2,.v [.I]),(3,.v [.g cz 0 0]),(8,.v [.I]),(9,.v [.I])]
noncomputable abbrev t2:=bf L1
noncomputable abbrev S2:=ak t2 [2,2,1] P0
noncomputable abbrev t3:=ao S2
def fH:=bj t3 L1
def bC:=bj t3 L0
def ok:=az t3 Gl [.s,.I,.I,.g cz 0 0]
end mN
namespace Ui
def ok:=az (ay V Tryz.f270 [(1,lr 11)] []) P8 [.s,.I,.I,.r,.g cz 0 0]
end Ui
namespace Ug
def ok:=az (ay V Tryz.f269 [] []) P7 [.s,.I,.I,.I,.r,.g cz 0 0]
end Ug
namespace BF
noncomputable abbrev S5:=ak (ay V Tryz.f257 [] []) [7] [(11,.v [.r]),(13,.v [.I])]
noncomputable abbrev t1:=ao S5
noncomputable abbrev S4:=ak t1 [1,1,1,1,6] [(0,.v [.s]),(3,.v [.g cz 0 0]),(11,.v [.r]),(12,.v [.I]),(13,.v [.I]),(14,.v [.I])]
noncomputable abbrev t2:=ao S4
noncomputable abbrev S3:=ak t2 [6] [(0,.v [.s]),(3,.v [.g cz 0 0]),(10,.v [.I]),(11,.v [.r]),(12,.v [.I]),(13,.v [.I]),(14,.v [.I])]
noncomputable abbrev t3:=ao S3
noncomputable abbrev S2:=ak t3 [5] [(0,.v [.s]),(1,.v [.I]),(3,.v [.g cz 0 0]),(10,.v [.I]),(11,.v [.r]),(12,.v [.I]),(13,.v [.I])]
noncomputable abbrev t4:=ao S2
noncomputable abbrev S1:=ak t4 [4] [(0,.v [.s]),(1,.v [.I]),(3,.v [.g cz 0 0]),(10,.v [.I]),(11,.v [.r]),(12,.v [.I])]
noncomputable abbrev t5:=ao S1
noncomputable abbrev S0:=ak t5 [2] [(0,.v [.s]),(1,.v [.I]),(3,.v [.g cz 0 0]),(10,.v [.I])]
noncomputable abbrev t6:=ao S0
def ok:=az t6 PY [.s,.I,.I,.g cz 0 0]
end BF
namespace jT
abbrev P0:Ps:=[(0,.v [.s]),(1,.v [.I]),(2,.v [.I]),(3,.v [.g cz 0 0]),(9,.v [.I]),(10,.v [.I])]
noncomputable def L1:=bg (ay V Tryz.f259 [(5,lr 18),(11,lr 18),(16,lr 13),(17,lr 18),(22,lr 13),(23,lr 18)] []) [0,1,1,1,2] P0
noncomputable abbrev t1:=bf L1
noncomputable def L2:=bg t1 [0,4,1,2,1,1,2] P0
noncomputable abbrev t2:=bf L2
noncomputable def L4:=bg t2 [0,1,1,1,1,1,4,2,1,2,1,1,2] [(0,.v [.s]),(1,.v [.I]),(2,.v [.I]),(3,.v [.g cz 0 0]),(9,.v [.I]),(10,.v [.I]),(11,.v [.I])]
noncomputable abbrev t3:=bf L4
noncomputable def L6:=bg t3 [0,1,1,1,6,2,1,2,1,1,2] [(0,.v [.s]),(1,.v [.I]),(2,.v [.I]),(3,.v [.g cz 0 0]),(9,.v [.I]),(10,.v [.I]),(12,.v [.I])]
noncomputable abbrev t4:=bf L6
noncomputable abbrev S7:=ak t4 [2,2,1,1,2] P0
noncomputable abbrev t5:=ao S7
def CR:=bj t5 L6
noncomputable abbrev S5:=ak t5 [5,2,1,2,1,1,2] P0
noncomputable abbrev t6:=ao S5
def rC:=bj t6 L4
noncomputable abbrev S3:=ak t6 [1,2,1,2,1,1,2] P0
noncomputable abbrev t7:=ao S3
def j5:=bj t7 L2
def fH:=bj t7 L1
noncomputable abbrev S0:=ak t7 [2] [(0,.v [.s]),(1,.v [.I]),(2,.v [.I]),(3,.v [.g cz 0 0]),(9,.v [.I])]
noncomputable abbrev t8:=ao S0
def ok:=az t8 P9 [.s,.I,.I,.g cz 0 0]
end jT
namespace jU
abbrev P0:Ps:=[(0,.v [.s]),(1,.v [.I]),(4,.v [.g cz 0 0]),(12,.v [.I]),(13,.v [.I])]
noncomputable def L0:=bg (ay V Tryz.f261 [(1,lr 16),(3,lr 16),(5,lr 17),(8,lr 16),(10,lr 16),(13,lr 16),(15,lr 17),(18,lr 16),(21,lr 16)] []) [0,2,3] P0
noncomputable abbrev t1:=bf L0
noncomputable def L1:=bg t1 [0,2,4] P0
noncomputable abbrev t2:=bf L1
noncomputable def L4:=bg t2 [0,2,9] P0
noncomputable abbrev t3:=bf L4
noncomputable def L5:=bg t3 [0,6,9] P0
noncomputable abbrev t4:=bf L5
noncomputable def L6:=bg t4 [0,2,1,4,9] P0
noncomputable abbrev t5:=bf L6
noncomputable abbrev S8:=ak t5 [5,4,9] P0
noncomputable abbrev t6:=ao S8
noncomputable abbrev S7:=ak t6 [2,4,9] P0
noncomputable abbrev t7:=ao S7
def CR:=bj t7 L6
def Wt:=bj t7 L5
def rC:=bj t7 L4
noncomputable abbrev S3:=ak t7 [8] P0
noncomputable abbrev t8:=ao S3
noncomputable abbrev S2:=ak t8 [5] P0
noncomputable abbrev t9:=ao S2
def fH:=bj t9 L1
def bC:=bj t9 L0
def ok:=az t9 P' [.s,.I,.I,.I,.g cz 0 0]
end jU
namespace nu
noncomputable def L0:=bg (ay V Tryz.f245 [(17,lr 17)] []) [0,1,2] [(0,.v [.s]),(1,.v [.I]),(2,.v [.I]),(3,.v [.I]),(4,.v [.g cz 0 0]),(10,.v [.b]),(11,.v [.b])]
noncomputable abbrev t1:=bf L0
abbrev P0:Ps:=[(0,.v [.s]),(1,.v [.I]),(2,.v [.I]),(3,.v [.I]),(4,.v [.g cz 0 0]),(10,.v [.b]),(11,.v [.b]),(16,.v [.I])]
noncomputable abbrev S9:=ak t1 [1,1,13,3,2] P0
noncomputable abbrev t2:=ao S9
noncomputable abbrev p':=ak t2 [15,3,2] P0
noncomputable abbrev t3:=ao p'
noncomputable abbrev S8:=ak t3 [12,3,2] [(0,.v [.s]),(1,.v [.I]),(2,.v [.I]),(3,.v [.I]),(4,.v [.g cz 0 0]),(11,.v [.b]),(16,.v [.I]),(18,.v [.I]),(19,.v [.I]),(20,.v [.I])]
noncomputable abbrev t4:=ao S8
noncomputable abbrev S7:=ak t4 [11,3,2] [(0,.v [.s]),(1,.v [.I]),(2,.v [.I]),(3,.v [.I]),(4,.v [.g cz 0 0]),(11,.v [.b]),(12,.v [.I]),(16,.v [.I]),(18,.v [.I]),(19,.v [.I])]
noncomputable abbrev t5:=ao S7
noncomputable abbrev S6:=ak t5 [8,3,2] [(0,.v [.s]),(1,.v [.I]),(2,.v [.I]),(3,.v [.I]),(4,.v [.g cz 0 0]),(12,.v [.I]),(13,.v [.I])]
noncomputable abbrev t6:=ao S6
abbrev P1:Ps:=[(0,.v [.s]),(1,.v [.I]),(2,.v [.I]),(3,.v [.I]),(4,.v [.g cz 0 0]),(10,.v [.b]),(11,.v [.b]),(12,.v [.I]),(13,.v [.I])]
noncomputable abbrev S5:=ak t6 [7,3,2] P1
noncomputable abbrev t7:=ao S5
noncomputable abbrev S4:=ak t7 [6,3,2] [(0,.v [.s]),(1,.v [.I]),(2,.v [.I]),(3,.v [.I]),(4,.v [.g cz 0 0]),(10,.v [.b]),(11,.v [.b]),(12,.v [.I]),(13,.v [.I]),(14,.v [.I])]
noncomputable abbrev t8:=ao S4
noncomputable abbrev S3:=ak t8 [2,1,1,1,5,3,2] P1
noncomputable abbrev t9:=ao S3
abbrev P2:Ps:=[(0,.v [.s]),(1,.v [.I]),(2,.v [.I]),(3,.v [.I]),(4,.v [.g cz 0 0]),(10,.v [.b]),(11,.v [.b]),(12,.v [.I])]
noncomputable abbrev S2:=ak t9 [4,3,2] P2
noncomputable abbrev t10:=ao S2
noncomputable abbrev S1:=ak t10 [1,3,2] P2
noncomputable abbrev t11:=ao S1
def bC:=bj t11 L0
def ok:=az t11 ab' [.s,.I,.I,.I,.g cz 0 0]
end nu
namespace Ue
def ok:=az (ay V Tryz.f232 [] []) PW [.s,.g cz 0 0]
end Ue
def hM(x:I):List I->List I
 |[]=>[x]
 |d::p=>if bc x.rx d.rx<0 then d::hM x p else x::d::p
def gu(l:List I):List I:=(l.foldl (λp d=>hM d p) []).reverse
def Ff(x:I):∀p,(hM x p).length=p.length+1
 |[]=>rfl
 |d::p=>by
  unfold hM;split
  .simp [Ff x p]
  .simp
def aey(l:List I)(x:I):gu (l++[x])=(hM x (gu l).reverse).reverse:=by
 unfold gu
 grind
def Mp{x t:I}:∀{p:List I},t∈hM x p↔t=x\/t∈p
 |[]=>by unfold hM;simp
 |d::p=>by
  unfold hM;split
  .rw [aq,Mp,aq]
   grind
  .simp
def aew{t:I}{l:List I}:t∈gu l↔t∈l:=by
 have:∀(l p:List I),t∈l.foldl (λp h=>hM h p) p↔t∈l\/t∈p:=by
  intro l;induction l with
  |nil=>grind
  |cons a l d=>
   intro p;rw[List.foldl_cons,d,Mp,aq]
   grind
 unfold gu
 grind
def Uo(l:List I):(gu l).length=l.length:=by
 have:∀(l p:List I),(l.foldl (λp h=>hM h p) p).length=l.length+p.length:=by
  intro l;induction l with
  |nil=>grind
  |cons a l d=>
   intro p;rw[List.foldl_cons,d,Ff,bI];omega
 unfold gu
 grind
def Ms(x:I):∀p:List I,(hM x p).map I.rx=mB x.rx (p.map I.rx)
 |[]=>rfl
 |d::p=>by
  unfold hM;rw[hn];unfold mB;split
  .rw [hn,Ms x p]
  .rfl
def aeA(l:List I):(gu l).map I.rx=lf (l.map I.rx):=by
 have:∀(l p:List I),(l.foldl (λp d=>hM d p) p).map I.rx=(l.map I.rx).foldl (λp d=>mB d p) (p.map I.rx):=by
  intro l;induction l with
  |nil=>grind
  |cons a l h=>
   intro p;rw[List.foldl_cons,h,Ms];rfl
 unfold gu lf;rw[List.map_reverse,this];rfl
def Mq(x:I):∀p:List I,(hM x p).Perm (x::p)
 |[]=>.refl _
 |d::p=>by
  unfold hM;split
  .exact ((Mq x p).cons d).trans (.swap x d p)
  .exact .refl _
def aex(l:List I):(gu l).Perm l:=by
 have:∀(l p:List I),(l.foldl (λp j=>hM j p) p).Perm (l++p):=by
  intro l;induction l with
  |nil=>intro p;exact .refl _
  |cons a l h=>
   intro p;rw[List.foldl_cons];exact(h _).trans (((Mq a p).append_left l).trans List.perm_middle)
 unfold gu;have d:=this l [];rw[List.append_nil]at d;exact(List.reverse_perm _).trans d
def aev(l:List I):ln ((gu l).map I.rx):=by rw[aeA];exact HH _
def H0{l m:List I}(h:l.Perm m):I.a7 l=I.a7 m:=by
 induction h with
 |nil=>rfl
 |cons d _ k=>show d.sz+_=d.sz+_;rw[k]
 |swap d j l=>show j.sz+(d.sz+_)=d.sz+(j.sz+_);omega
 |trans _ _ q w=>omega
def afe{α:Type}(A B:List α)(y x:α)(j:Nat)(d:j=A.length+1):((A++y::x::B).set j y).set (j - 1) x=A++x::y::B:=by subst d;rw[List.set_append_right _ _ co,Nat.add_sub_cancel,List.set_append_right _ _ co];simp
def Yj(s:Sl)(l:List I)(w:J)(hl:I.a7 l<=1000000)(ho:aF w aZ 4 s (l.flatMap I.c))(pl:I.Ps w l)(hd:∀h∈ax s,h∉I.be l)(A X Z:List I)(z:l=A++X++Z)(b:Nat)(hb:b=A.length+X.length):
  aj V Gl #[s.v,.i (A.length:Int),.i (b:Int),.func (.func cz) #[] #[]] w λr D=>(r=ae (.tuple #[])/\aF D aZ 4 s ((A++gu X++Z).flatMap I.c))/\Fr (·∈ax s) w D:=by
 have ll:=I.fR l;have lX:A.length+X.length+Z.length=l.length:=by grind
 have M:LH (·∈ax s) w w [.row aZ 4 s (l.flatMap I.c)] [.trees l]:=As _ ho (by intro e z;simp only[aq,aL,aR]at z;subst z;exact⟨pl,λh L hm=>hd h L (a0.1 hm)⟩)
 have kt:∀t∈l,t.sz<=1000000:=λt C=>bz (I.eH C) hl;have mA:∀t∈X,t∈l:=λt C=>by grind
 let G:aJ:=λr D=>(r=ae (.tuple #[])/\aF D aZ 4 s ((A++gu X++Z).flatMap I.c))/\Fr (·∈ax s) w D
 have outer:∀(d i:Nat) (E:J),A.length+i+d=b->LH (·∈ax s) w E [.row aZ 4 s ((A++gu (X.take i)++(X.drop i++Z)).flatMap I.c)] [.trees l]->
   mN.L0 s (A.length:Int) (b:Int) ((A.length+i:Nat):Int) E G:=by
  intro d;induction d with
  |zero=>
   intro i E hi N;refine mN.bC _ _ _ _ _ _ (aP (aV co) ⟨⟨rfl,?_⟩,N.fr⟩);have:=N.get 0;rw[eh co,du co,List.nil_append]at this;exact this
  |succ d al=>
   intro i E hi N;refine mN.bC _ _ _ _ _ _ (aM (aQ co) ?_);have Y:X[i]? =some (X[i]'co):=a' co;have aa:=dw (l:=X) (i:=i) co;generalize X[i]'co=h at Y aa;have hS:gu (X.take (i+1))=(hM h (gu (X.take i)).reverse).reverse:=by rw[dM,Y,Option.toList_some,aey]
   have L:h∈l:=mA h (aG Y);have next:∀(k:J),LH (·∈ax s) w k [.row aZ 4 s ((A++gu (X.take (i+1))++(X.drop (i+1)++Z)).flatMap I.c)] [.trees l]->mN.S2 s (A.length:Int) (b:Int) ((A.length+i:Nat):Int) k G:=by
    intro k x;show mN.L0 _ _ _ _ _ _;rw[bb _ co]
    grind
   have inner:∀(p:Nat) (P Q:List I) (k:J),P.length=p->(hM h P.reverse).reverse++Q=gu (X.take (i+1))->(∀t∈P,t∈l)->LH (·∈ax s) w k [.row aZ 4 s ((A++P++h::(Q++(X.drop (i+1)++Z))).flatMap I.c)] [.trees l]->
     mN.L1 s (A.length:Int) (b:Int) ((A.length+i:Nat):Int) ((A.length+p:Nat):Int) k G:=by
    intro p;induction p with
    |zero=>
     intro P Q k hp B T x;have:P=[]:=List.length_eq_zero_iff.1 hp;subst this;refine mN.fH _ _ _ _ _ _ _ (x.dr λF q=>aP (aV co) (next F ?_));have ak:h::Q=gu (X.take (i+1)):=B
     grind
    |succ p af=>
     intro P Q k hp B T x;obtain⟨j,y,rfl⟩:∃j y,P=j++[y]:=⟨P.dropLast,P.getLast (λai=>by grind),(List.dropLast_concat_getLast _).symm⟩;have ad:j.length=p:=by grind
     have hy:y∈l:=T y ws;have eA:A++(j++[y])++h::(Q++(X.drop (i+1)++Z))=(A++j)++y::h::(Q++(X.drop (i+1)++Z)):=ws
     rw[eA]at x;have lA:(A++j).length=A.length+p:=by grind
     have gy:((A++j)++y::h::(Q++(X.drop (i+1)++Z)))[A.length+p]? =some y:=by rw[<-lA,List.getElem?_append_right (bm _)];simp
     have S:((A++j)++y::h::(Q++(X.drop (i+1)++Z)))[A.length+(p+1)]? =some h:=by rw[<-Nat.add_assoc,<-lA,List.getElem?_append_right (Nat.le_succ _)];simp
     have hlen:((A++j)++y::h::(Q++(X.drop (i+1)++Z))).length<=1000000:=by have h1:=congrArg List.length B;rw[Uo,List.length_append,List.length_reverse,Ff,List.length_reverse]at h1;simp only[List.length_append,bI,eT,List.length_drop,List.length_nil]at h1 ⊢;omega
     have ac:=(cV.1 S).1;have H:ah .i64 (((A.length+(p+1):Nat):Int) - 1)=((A.length+p:Nat):Int):=by rw[E8 co co];rfl
     have K:hM h (j++[y]).reverse=if bc h.rx y.rx<0 then y::hM h j.reverse else h::y::j.reverse:=by rw[List.reverse_append];rfl
     refine mN.fH _ _ _ _ _ _ _ (x.dr λF q=>aM (aQ co) ?_);refine q.el 0 (A.length+(p+1)) rfl S (q.el 0 (A.length+p) H gy ?_);refine q.call (zB h y F (kt h L) ((show I.Ps F l from q.getD 0).mem L) ((show I.Ps F l from q.getD 0).mem hy)) ?_;rintro _ w4 rfl H4;refine⟨_,rfl,aE (λW=>H4.dr λw5 O=>?_) (λW=>next w4 ?_)⟩
     .refine O.el 0 (A.length+p) H gy (O.el 0 (A.length+(p+1)) rfl S (O.xf 0 (A.length+(p+1)) (t:=y) rfl ac λw6 H6=>?_));refine H6.xf 0 (A.length+p) (t:=h) (U:=((A++j)++y::h::(Q++(X.drop (i+1)++Z))).set (A.length+(p+1)) y) H (by grind) λw7 H7=>?_;rw[H];rw[av W]at K;refine af j (y::Q) w7 ad ?_ (λt C=>T t (by grind)) ?_
      .rw [<-B,K];simp
      .have e3:=afe (A++j) (Q++(X.drop (i+1)++Z)) y h (A.length+(p+1)) co
       grind
     .rw [ag W]at K;rw[<-B,K];simpa using H4
   have ab:(gu (X.take i)).length=i:=by rw[Uo,eT];omega
   refine inner i (gu (X.take i)) [] E ab ?_ (λt C=>mA t (List.mem_of_mem_take (aew.1 C))) ?_
   .grind
   grind
 refine mN.ok _ _ _ w _ ?_;show mN.L0 _ _ _ _ _ G;rw[bb _ co];cases X with
 |nil=>
  refine mN.bC _ _ _ _ _ _ (aP (aV (by grind)) ⟨⟨rfl,?_⟩,Fr.refl _ _⟩);have:=M.get 0;rw[z]at this;exact this
 |cons a X=>
  refine outer (b - (A.length+1)) 1 w (by grind) ?_;rw[show l.flatMap I.c=(A++gu ((a::X).take 1)++((a::X).drop 1++Z)).flatMap I.c from by rw[z];simp[gu,hM]]at M;exact M
def afv{t:ByteArray}{m:Nat}{K:UInt8->Prop}(h:Nat.beq t.size 256=true)(j:m<256)(d:∀b,K b):∃b:UInt8,t[m]? =some b/\K b:=by rw[eO]at h;exact⟨t[m]'co,getElem?_pos t m co,d _⟩
def XP(x:Int)(w:J):aj V F5 #[.u x] w λr d=>(∃t:Int,r=ae (.i t))/\af w d:=by
 have q:∀(x n:Int),k1.S2 x n w λr d=>(∃t:Int,r=ae (.i t))/\af w d:=by
  intro x n;have h:0<=ah .u8 x/\ah .u8 x<256:=by rw[IntKind.wrap_u8];omega
  obtain⟨m,z⟩:=Int.eq_ofNat_of_zero_le h.1;refine⟨h.1,?_⟩;have y:m<256:=co
  refine afv (by kernel_rfl) (by rw[z];exact y) λb=>⟨⟨_,rfl⟩,Fr.refl _ _⟩
 have k:∀(x n:Int),k1.S1 x n w λr d=>(∃t:Int,r=ae (.i t))/\af w d:=λx n=>aE (λ_=>q _ _) (λ_=>q _ _);have j:∀(x n:Int),k1.S0 x n w λr d=>(∃t:Int,r=ae (.i t))/\af w d:=λx n=>aE (λ_=>k _ _) (λ_=>k _ _);refine FK.ok _ w _ ((k1.ok _ w _ (aE (λ_=>j _ _) (λ_=>j _ _))).mono ?_);rintro _ A ⟨⟨t,rfl⟩,f⟩;exact⟨t,rfl,⟨t,rfl⟩,f⟩
def tT(n:Nat):Prop:=∀(s:Sl) (l:List I) (w:J),l.length<=n->I.a7 l<=1000000->aF w aZ 4 s (l.flatMap I.c)->I.Ps w l->(∀h∈ax s,h∉I.be l)->
 aj V PW #[s.v,.func (.func cz) #[] #[]] w λr d=>(∃m:List I,r=ae (.tuple #[])/\m.Perm l/\ln (m.map I.rx)/\aF d aZ 4 s (m.flatMap I.c))/\Fr (·∈ax s) w d
def ix(p:I):List I->List I
 |[]=>[]
 |d::l=>if bc d.rx p.rx==0 then ix d l else d::ix d l
def lG:List I->List I
 |[]=>[]
 |a::l=>a::ix a l
def Kj(l:List I)(i:Nat):(l.flatMap I.c).take (i *4)=(l.take i).flatMap I.c:=by
 have h:=I.e7 (l.take i);by_cases d:i<=l.length
 .conv=>lhs;rw[<-np i l,de]
  grind
 .rw [eh (by rw[I.e7];omega),eh (l:=l) co]
def Kt(l:List I)(i:Nat)(h:i<=l.length):(l.flatMap I.c).drop (i *4)=(l.drop i).flatMap I.c:=by
 have d:=I.e7 (l.take i);rw[eT,Nat.min_eq_left h]at d;conv=>lhs;rw[<-np i l,de]
 grind
def Ze{w:J}{s:Sl}{l m:List I}(j:aF w aZ 4 s (l.flatMap I.c))(i:Nat)(hi:i<=l.length)(D:l.take i=m){K:J->Prop}{R:aJ}{w0:J}(C:Fr (·∈ax s) w0 w)(B:∀r k,wF s m r w0 k->Fr (·∈ax s) w0 k->R r k):
  (0:Int)<=(i:Int)/\(i:Int)<=(s.n:Int)/\∃(q:J),Sem.run V (Builtin.clear_ #[i'] lj #[.slice (if s.c=(a5 (i:Int))then s.a else s.a.map (·.add ((a5 (i:Int)) *4))) (s.n - (a5 (i:Int))) (s.c - (a5 (i:Int)))]) w=.ok (.tuple #[]) q/\
   (0:Int)<=(i:Int)/\(i:Int)<=(s.c:Int)/\R (ae (.slice (if s.c=0 then s.a else s.a.map (·.add (0 *4))) ((a5 (i:Int)) - 0) (s.c - 0))) q:=by
 have L:=I.cH j.bd;have H:=j.cap;obtain⟨F,y,z,A⟩:=Kk (ty:=lj) rZ Wd rfl j i co;refine⟨co,co,F,y,co,co,B _ _ ⟨⟨if s.c=0 then s.a else s.a.map (·.add (0 *4)),i - 0,s.c - 0⟩,rfl,?_,λG h=>?_⟩ (C.trans A λG _ x=>x)⟩
 .rw [<-D,<-Kj];exact z
 .simp only[ax]at h ⊢;split at h
  .rename_i p d;split at d
   .grind
   .cases E:s.a with
    |none=>grind
    |some M=>
     rw[E]at d;simp only[Option.map_some,fq]at d;subst d;rw[jG]at h;exact h
  grind
section
variable {M:Nat->Prop} {w0 w:J} {L D:List En}
def _root_.Go.W.LH.Er(H:LH M w0 w L D)(i k b:Nat){s:Sl}{U:List I}{t:I}{X:Int}{K:Int->Int->Int->Sl->Prop}(x:X=(k:Int))(y:U[b+k]? =some t)(h:K t.k t.lo.toNat t.hi.toNat t.s)(hi:L[i]? =some (.row aZ 4 s (U.flatMap I.c)):=by rfl):
  (0:Int)<=X/\X<((s.n - b:Nat):Int)/\dV (if s.c=b then s.a else s.a.map (·.add (b *4))) λp=>∃a b c:Int,∃d:Sl,w.cell? ((p.add (a5 X *4)).add 0)=some (.i a)/\w.cell? ((p.add (a5 X *4)).add 1)=some (.int .u8 b)/\w.cell? ((p.add (a5 X *4)).add 2)=some (.int .u8 c)/\w.cell? ((p.add (a5 X *4)).add 3)=some d.v/\K a b c d:=by subst x;have j:aF w aZ 4 s (U.flatMap I.c):=H.get i hi;have A:=I.cH j.bd;have z:=(cV.1 y).1;have q:=j.bd.sub b s.n co (bm _);rw[eh (by rw[I.e7];omega),Kt _ _ co]at q;refine⟨co,co,I.dy (s:=nA 4 s b s.n) q (i:=k) (t:=t) (by grind) λp B c=>⟨_,_,_,_,c.c0,c.c1,c.c2,c.c3,h⟩⟩
end
def XH(s:Sl)(l:List I)(w:J)(hl:I.a7 l<=1000000)(ho:aF w aZ 4 s (l.flatMap I.c))(pl:I.Ps w l)(hd:∀x∈ax s,x∉I.be l):
  aj V PQ #[s.v,.func (.func sv) #[] #[]] w λr F=>wF s (lG l) r w F/\Fr (·∈ax s) w F:=by
 have nr:=I.cH ho.bd;have ll:=I.fR l;have kt:∀t∈l,t.sz<=1000000:=λt Z=>bz (I.eH Z) hl;have ab:LH (·∈ax s) w w [.row aZ 4 s (l.flatMap I.c)] [.trees l]:=As _ ho (by intro e he;simp only[aq,aL,aR]at he;subst he;exact⟨pl,λx H P=>hd x H (a0.1 P)⟩)
 let Q:aJ:=λr F=>wF s (lG l) r w F/\Fr (·∈ax s) w F
 have ai:∀(d k b m:Nat) (cur:List I) (p:I) (B:J),b+m+d=l.length->1<=m->1<=b->k<b+m->cur.length=l.length->cur.drop (b+m - 1)=l.drop (b+m - 1)->l[b+m - 1]? =some p->cur.take k++ix p (l.drop (b+m))=lG l->
   LH (·∈ax s) w B [.row aZ 4 s (cur.flatMap I.c)] [.trees l]->
   oH.L2 s (k:Int) ⟨(if s.c=b then s.a else s.a.map (·.add (b *4))),(s.n - b),(s.c - b)⟩ (m:Int) B Q:=by
  intro d;induction d with
  |zero=>
   intro k b m cur p B hb P ac W hc O E h y;refine oH.j5 _ _ _ _ _ _ (aP (aV ?_) ?_)
   .grind
   rw[du co]at h;have Y:cur.take k=lG l:=by rw[<-h];simp[ix]
   exact Ze (K:=λ_=>True) (y.get 0) k co Y y.fr λr F D G=>⟨D,G⟩
  |succ d aa=>
   intro k b m cur p B hb P ac W hc O E h y;have A:l[b+m]? =some (l[b+m]'co):=a' co;have z:=dw (l:=l) (i:=b+m) co;generalize l[b+m]'co=x at A z;have ad:cur[b+m]? =some x:=by
    have:(cur.drop (b+m - 1))[1]? =(l.drop (b+m - 1))[1]?:=by rw[O]
    grind
   have ae:cur[b+(m - 1)]? =some p:=by
    have:(cur.drop (b+m - 1))[0]? =(l.drop (b+m - 1))[0]?:=by rw[O]
    rw[List.getElem?_drop,List.getElem?_drop,Nat.add_zero]at this
    grind
   have af:cur.drop (b+m)=l.drop (b+m):=by
    have:(cur.drop (b+m - 1)).drop 1=(l.drop (b+m - 1)).drop 1:=by rw[O]
    rw[qL,qL,show b+m - 1+1=b+m by omega]at this;omega
   have M:=aG A;have mp:=aG E;have S:ah .i64 ((m:Int) - 1)=((m - 1:Nat):Int):=E8 P co;rw[z]at h;have T:ix p (x::l.drop (b+m+1))=if bc x.rx p.rx==0 then ix x (l.drop (b+m+1))else x::ix x (l.drop (b+m+1)):=rfl;rw[T]at h;have next:∀(L:Nat) (C:List I) (q:J),L<b+(m+1)->C.length=l.length->C.drop (b+m)=l.drop (b+m)->C.take L++ix x (l.drop (b+m+1))=lG l->LH (·∈ax s) w q [.row aZ 4 s (C.flatMap I.c)] [.trees l]->
     oH.S3 s (L:Int) ⟨(if s.c=b then s.a else s.a.map (·.add (b *4))),(s.n - b),(s.c - b)⟩ (m:Int) q Q:=by intro L C q D G h3 h4 j;show oH.L2 _ _ _ _ _ _;rw[bb _ co];exact aa L b (m+1) C x q co co ac D G (by grind) (by grind) co j
   refine oH.j5 _ _ _ _ _ _ (aM (aQ ?_) (y.dr λq j=>?_))
   .show (m:Int)<((s.n - b:Nat):Int);omega
   refine j.Er 0 m b rfl ad (j.Er 0 (m - 1) b S ae ?_);refine j.call (wQ x p q (kt x M) ((show I.Ps q l from j.getD 0).mem M) ((show I.Ps q l from j.getD 0).mem mp)) ?_;rintro _ w3 rfl N;refine⟨_,rfl,dW (λhf=>?_) (λZ=>?_)⟩
   .refine N.Er 0 m b rfl ad (N.xf 0 k (t:=x) (U:=cur) rfl co λw4 H4=>?_);rw[ag (by grind)]at h;rw[bb _ co];refine next (k+1) (cur.set k x) w4 co (by grind) ?_ ?_ H4
    .rw [List.drop_set_of_lt co];omega
    .rw [Vh co,cN];exact h
   grind
 have loop:∀(d k:Nat) (p:I) (B:J),k+d=l.length->1<=k->l[k - 1]? =some p->l.take k++ix p (l.drop k)=lG l->LH (·∈ax s) w B [.row aZ 4 s (l.flatMap I.c)] [.trees l]->
   oH.L0 s (k:Int) B Q:=by
  intro d;induction d with
  |zero=>
   intro k p B W D E h y;refine oH.bC _ _ _ _ (aP (aV co) ⟨⟨s,rfl,?_,λx H=>H⟩,y.fr⟩);rw[du co,eh co]at h;have Y:l=lG l:=by rw[<-h];simp[ix]
   rw[<-Y];exact y.get 0
  |succ d aa=>
   intro k p B W D E h y;have A:l[k]? =some (l[k]'co):=a' co;have z:=dw (l:=l) (i:=k) co;generalize l[k]'co=x at A z;have M:=aG A;have mp:=aG E;have S:ah .i64 ((k:Int) - 1)=((k - 1:Nat):Int):=E8 D co;rw[z]at h;have T:ix p (x::l.drop (k+1))=if bc x.rx p.rx==0 then ix x (l.drop (k+1))else x::ix x (l.drop (k+1)):=rfl;rw[T]at h;refine oH.bC _ _ _ _ (aM (aQ co) (y.dr λq j=>?_));refine j.el 0 k rfl A (j.el 0 (k - 1) S E ?_);refine j.call (wQ x p q (kt x M) ((show I.Ps q l from j.getD 0).mem M) ((show I.Ps q l from j.getD 0).mem mp)) ?_;rintro _ w3 rfl N;refine⟨_,rfl,bP (λZ=>⟨co,co,?_⟩) (λhf=>?_)⟩
   .grind
   .rw [ag (by grind)]at h;rw[bb _ co];refine aa (k+1) x w3 co co (by grind) ?_ N
    grind
 refine oH.ok _ w _ (aE (λG=>⟨⟨s,rfl,?_,λx H=>H⟩,ab.fr⟩) (λG=>?_))
 .have e:lG l=l:=by
   cases l with
   |nil=>rfl
   |cons a l=>
    cases l with
    |nil=>rfl
    |cons b l=>grind
  grind
 .have A:l[0]? =some (l[0]'co):=a' co;have z:=dw (l:=l) (i:=0) co;generalize l[0]'co=x at A z;refine loop (l.length - 1) 1 x w co co A ?_ ab;rw[List.drop_zero]at z;rw[z];rfl
def hg(k:Int)(l:List Rx)(u:Rx):List Rx:=(l.flatMap λc=>if c.k=k then c.l else[c]).filter λt=>!(bc t u==0)
def uQ(k:Int)(u:Rx):List Rx->Rx
 |[]=>u
 |[a]=>a
 |l=>.mk k 0 0 l
def g2(k:Int)(l:List Rx)(u z:Rx):Rx:=if(hg k l u).any (λt=>bc t z==0)then z else uQ k u (if k=3 then hg k l u else rW (lf (hg k l u)))
def vl(k:Int)(l:List Rx):Nat:=(l.flatMap λc=>if c.k=k then c.l else[c]).length
def n7:Rx:=.mk 1 0 0 []
def eX:Rx:=.mk 6 0 0 [fO]
def mc(lo hi:UInt8)(l:List Rx):Rx:=match l with
 |[]=>fO
 |c::d=>if c.k=0\/c.k=1 then n7 else if c.k=7\/bc c eX=0 then c else .mk 7 lo hi (c::d)
def qE(lo hi:UInt8)(l:List Rx):Rx:=match l with
 |[]=>fO
 |c::h=>if c.k=6 then(match c.l with |[]=>fO|d::_=>d)else .mk 6 lo hi (c::h)
def hZ:Rx->Rx
 |.mk d lo h l=>if d=3 then g2 3 l n7 fO else if d=4 then g2 4 l fO eX else if d=5 then g2 5 l eX fO else if d=6 then qE lo h l else if d=7 then mc lo h l else .mk d lo h l
def kT:Rx->Bool
 |.mk d _ _ l=>au (0<=d)&&au (d<8)&&(match l with
  |[]=>d !=6&&d !=7
  |c::_=>!(d==6&&c.k==6&&c.l.isEmpty))
def lY(t:I):t.rx.k=t.k:=by rw[I.fx];rfl
def yx(t:I):t.rx.l=t.l.map I.rx:=by rw[I.fx,<-I.fP];rfl
def xH(x u:I):(gF x u).map I.rx=hg x.k (I.aw x.l) u.rx:=by
 unfold gF hg;rw[I.fP];generalize x.l=l;induction l with
 |nil=>rfl
 |cons a l d=>
  rw[hn,cU,cU,List.filter_append,List.filter_append,List.map_append,d];congr 1;have e:(fj x a).map I.rx=if a.rx.k=x.k then a.rx.l else[a.rx]:=by
   unfold fj;rw[lY,yx]
   grind
  rw[<-e,List.filter_map];rfl
def Ec:∀(l:List I) (p:I),(ix p l).map I.rx=kP p.rx (l.map I.rx)
 |[],p=>rfl
 |d::l,p=>by
  unfold ix;rw[hn];unfold kP;split
  .exact Ec l d
  .rw [hn,Ec l d]
def Y8(l:List I):(lG l).map I.rx=rW (l.map I.rx):=by
 cases l with
 |nil=>rfl
 |cons a l=>show a.rx::(ix a l).map I.rx=_;rw[Ec];rfl
def Eb{t:I}:∀{l:List I} {p:I},t∈ix p l->t∈l
 |[],p,d=>d
 |h::l,p,d=>by
  unfold ix at d;split at d
  .exact fF _ (Eb d)
  .rcases aq.1 d with rfl|d
   .simp
   .exact fF _ (Eb d)
def Y7{t:I}{l:List I}(h:t∈lG l):t∈l:=by
 cases l with
 |nil=>exact h
 |cons a l=>
  rcases aq.1 h with rfl|h
  .simp
  .exact fF _ (Eb h)
def W0(l:List I)(z:I):l.any (λt=>bc t.rx z.rx==0)=(l.map I.rx).any λt=>bc t z.rx==0:=by grind
def gy(d:List Nat)(w:J)(x:Rx)(r:cE)(Y:J):Prop:=∃t:I,r=ae t.v/\t.rx=x/\t.P Y/\∀b∈t.fp,w.heap.size<=b\/b∈d
def Ym{N:Nat}(hS:tT N)(hN:N<=1000000)(x u z:I)(D y:Nat)(w:J)(h:x.k≠3->vl x.k (I.aw x.l)<=N)(hx:x.sz<=1000000)(px:x.P w)(pu:u.P w)(pz:z.P w)(hu:w.heap[D]? =some (.cells u.c.toArray aZ (0,0)))(hz:w.heap[y]? =some (.cells z.c.toArray aZ (0,0))):
  aj V AM #[x.v,.pointer (some (ab D)),.pointer (some (ab y))] w λr Y=>gy (x.fp++(u.fp++z.fp)) w (g2 x.k (I.aw x.l) u.rx z.rx) r Y/\af w Y:=by
 have ae:LH F0 w w [] [.tree x,.tree u,.tree z,ej D u,ej y z]:=bN _ (by
  intro e F;simp only[aq,aL,aR]at F;rcases F with rfl|rfl|rfl|rfl|rfl
  .exact px
  .exact pu
  .exact pz
  .exact hu
  .exact hz)
 have W:=Sub.gF x u;have ao:=afi x u;have an:=I.fR (gF x u);have kt:∀t∈gF x u,t.sz<=1000000:=λt A=>by have:=I.eH A;omega
 have ap:(gF x u).length<=vl x.k (I.aw x.l):=by have S:=congrArg List.length (xH x u);rw[List.length_map]at S;rw[S];exact List.length_filter_le ..
 refine He.aD _ _ _ _ _ _ w _ (ae.aK λK w1 H1=>H1.aK λL w2 E=>⟨_,_,_,u.s,E.fE 3 0,E.fE 3 1,E.fE 3 2,E.fE 3 3,E.kc (Ye x u w2 hx (E.getD 0) (E.getD 1)) ?_⟩);rintro _ w3 ⟨B,rfl,o1,n1⟩ H3 F3;have H:=F3.own (.row aZ 4 B ((gF x u).flatMap I.c)) o1 n1;have ac:∀Y:J,x.P Y->I.Ps Y (gF x u):=λY h=>W.Ps h;refine⟨B,rfl,H.aA (XJ B (gF x u) ⟨Gc,#[],#[.pointer (some (ab y))]⟩ (λt=>bc t.rx z.rx==0) [.tree x,.tree z,ej y z] w3 co (H.get 2:aF _ _ _ _ _).bd (by
  intro e F;simp only[aq,aL,aR]at F;rcases F with rfl|rfl|rfl
  .exact H.getD 0
  .exact H.getD 2
  .exact H.getD 4) (by kernel_rfl) (λY t A G=>Yh t z y Y (kt t A) ((ac Y (G.getD 1)).mem A) (G.getD 2) (G.getD 3))) ?_⟩
 rintro _ w4 rfl q;have ea:(gF x u).any (λt=>bc t.rx z.rx==0)=(hg x.k (I.aw x.l) u.rx).any λt=>bc t z.rx==0:=by rw[W0,xH]
 refine⟨_,rfl,bP (λA=>⟨_,_,_,z.s,q.fE 4 0,q.fE 4 1,q.fE 4 2,q.fE 4 3,q.ai λw8 j=>⟨⟨z,rfl,?_,j.getD 2,λb d=>.inr (by grind)⟩,j.fr⟩⟩) (λhf=>?_)⟩
 .have ar:=ea▸A;unfold g2
  grind
 have am:=ea▸hf;have fin:∀(s':Sl) (ks:List I) (Y:J),(∀t∈ks,t∈gF x u)->ks.map I.rx=(if x.k=3 then hg x.k (I.aw x.l) u.rx else rW (lf (hg x.k (I.aw x.l) u.rx)))->LH F0 w Y [.g K,.g L,.row aZ 4 s' (ks.flatMap I.c)] [.tree x,.tree u,.tree z,ej D u,ej y z]->
   He.bD (ab D) K x.k x.lo.toNat x.hi.toNat x.s L 0 0 0 ⟨none,0,0⟩ s' Y λr Y=>gy (x.fp++(u.fp++z.fp)) w (g2 x.k (I.aw x.l) u.rx z.rx) r Y/\af w Y:=by
  intro s' ks Y M F C;have T:Sub x ks:=W.sub M;have nr:=I.cH (C.get 2:aF _ _ _ _ _).bd;have aa:g2 x.k (I.aw x.l) u.rx z.rx=uQ x.k u.rx (ks.map I.rx):=by
   unfold g2
   grind
  refine aO (λh0=>⟨_,_,_,u.s,C.fE 3 0,C.fE 3 1,C.fE 3 2,C.fE 3 3,C.ai λw8 j=>⟨⟨u,rfl,?_,j.getD 1,λb d=>.inr (by grind)⟩,j.fr⟩⟩) (λh0=>aO (λS=>?_) (λS=>C.ai λw8 j=>⟨⟨.mk x.k 0 0 s' ks,rfl,?_,?_,λb d=>?_⟩,j.fr⟩))
  .have:ks=[]:=List.length_eq_zero_iff.1 co;rw[aa,this];rfl
  .obtain ⟨a,rfl⟩:=List.length_eq_one_iff.1 (show ks.length=1 by omega);refine C.el 2 0 rfl (t:=a) rfl (C.ai λw8 j=>⟨⟨a,rfl,?_,T.P _ (j.getD 0) a ws,λb d=>.inr (by simp[T.fp a ws b d])⟩,j.fr⟩);rw[aa];rfl
  .rw [aa];unfold I.rx;rw[I.fP];cases ks with
   |nil=>grind
   |cons a ks=>
    cases ks with
    |nil=>grind
    |cons b ks=>rfl
  .unfold I.P;exact⟨(j.get 2:aF _ _ _ _ _).bd,T.Ps (j.getD 0)⟩
  .unfold I.fp at d;rcases aW.1 d with d|d
   .exact .inl ((j.new _ (aG (i:=2) rfl) b (gM d)).resolve_right id)
   .exact .inr (by simp[T.be d])
 have eo:∀Y:J,LH F0 w Y [.g K,.g L,.row aZ 4 B ((gF x u).flatMap I.c)] [.tree x,.tree u,.tree z,ej D u,ej y z]->∀O∈ax B,O∉I.be (gF x u):=λY G O hy hm=>G.off 2 0 rfl rfl O hy (a0.2 (W.be hm));refine dA (λM=>?_) (λM=>fin B (gF x u) w4 (λ_ h=>h) (by rw[av M,xH]) q);refine q.DX 2 rfl (hS B (gF x u) w4 co co (q.get 2) (ac w4 (q.getD 0)) (eo w4 q)) ?_;rintro _ w5 ⟨m,rfl,U,ak,o5⟩ hH;have Q:LH F0 w w5 [.g K,.g L,.row aZ 4 B (m.flatMap I.c)] [.tree x,.tree u,.tree z,ej D u,ej y z]:=hH (.row aZ 4 B (m.flatMap I.c)) o5 λb d=>.inl d;have ad:Sub x m:=W.sub λt A=>U.mem_iff.1 A;refine⟨rfl,Q.DX 2 rfl (XH B m w5 (by rw[H0 U];omega) (Q.get 2) (ad.Ps (Q.getD 0)) (λO hy hm=>Q.off 2 0 rfl rfl O hy (a0.2 (ad.be hm)))) ?_⟩;rintro _ w6 ⟨Z,rfl,o6,n6⟩ ah;have H7:LH F0 w w6 [.g K,.g L,.row aZ 4 Z ((lG m).flatMap I.c)] [.tree x,.tree u,.tree z,ej D u,ej y z]:=ah (.row aZ 4 Z ((lG m).flatMap I.c)) o6 λb d=>.inl (n6 b d);have al:m.map I.rx=lf ((gF x u).map I.rx):=aez ak (U.map _);exact⟨Z,rfl,fin Z (lG m) w6 (λt A=>U.mem_iff.1 (Y7 A)) (by rw[ag M,Y8,al,xH]) H7⟩
def iZ{w:J}{x t:I}(q:x.P w){k:Nat}{X:Int}{K:Int->Int->Int->Sl->Prop}(y:X=(k:Int))(j:x.l[k]? =some t)(h:K t.k t.lo.toNat t.hi.toNat t.s):
  fo x.s X λp=>∃a b c:Int,∃d:Sl,w.cell? ((p.add (a5 X *4)).add 0)=some (.i a)/\w.cell? ((p.add (a5 X *4)).add 1)=some (.int .u8 b)/\w.cell? ((p.add (a5 X *4)).add 2)=some (.int .u8 c)/\w.cell? ((p.add (a5 X *4)).add 3)=some d.v/\K a b c d:=by subst y;have A:=I.cH q.parts.1;have z:=(cV.1 j).1;exact⟨co,co,I.dy q.parts.1 j λp B c=>⟨_,_,_,_,c.c0,c.c1,c.c2,c.c3,h⟩⟩
def Yr(x:I)(w:J)(N:x.P w)(D:x.k=6)(d:kT x.rx=true):aj V va #[x.v] w λr O=>gy x.fp w (qE x.lo x.hi (I.aw x.l)) r O/\af w O:=by
 have nr:=I.cH N.parts.1;rw[I.fx]at d;cases E:x.l with
 |nil=>rw[E,D]at d;simp[kT,I.aw]at d
 |cons c M=>
  have B:x.l[0]? =some c:=by grind
  have F:c∈x.l:=aG B;have j:I.aw (c::M)=c.rx::I.aw M:=rfl;refine Ta.aD _ _ _ _ w _ ((g4 N).aK λY w1 Q=>Q.aK λZ U y=>?_);have G:x.P U:=y.getD 0;have n2:0<x.s.n:=by grind
  refine⟨co,co,I.dy G.parts.1 B λp T z=>⟨c.k,z.c0,aO (λq=>?_) (λq=>y.ai λaa H=>⟨⟨x,rfl,?_,H.getD 0,λb A=>.inr A⟩,H.fr⟩)⟩⟩
  .refine ⟨co,co,I.dy G.parts.1 B λp T z=>⟨c.s,z.c3,?_⟩⟩;cases L:c.l with
   |nil=>
    rw[E,j]at d;have S:c.rx.l.isEmpty=true:=by rw[yx,L];rfl
    simp[kT,D,lY,q,S]at d
   |cons h l2=>
    have C:c.l[0]? =some h:=by grind
    refine iZ (G.parts.2.mem F) rfl C (y.ai λW K=>⟨⟨h,rfl,?_,((show x.P W from K.getD 0).parts.2.mem F).parts.2.mem (aG C),λb A=>.inr (I.gG.2 (.inr (I.bZ.2 ⟨c,F,I.gG.2 (.inr (I.bZ.2 ⟨h,aG C,A⟩))⟩)))⟩,K.fr⟩);rw[j];show h.rx=if c.rx.k=6 then _ else _;rw[av (by rw[lY,q]),yx,L];rfl
  .rw [j];show x.rx=if c.rx.k=6 then _ else _;rw[ag (by rw[lY];exact q),I.fx,D,E,j]
def YD(x m v:I)(y A:Nat)(w:J)(hx:x.sz<=1000000)(px:x.P w)(pm:m.P w)(pv:v.P w)(hm:w.heap[y]? =some (.cells m.c.toArray aZ (0,0)))(hv:w.heap[A]? =some (.cells v.c.toArray aZ (0,0)))(em:m.rx=n7)(ev:v.rx=eX)(Y:x.k=7)(K:kT x.rx=true):
  aj V vb #[x.v,.pointer (some (ab y)),.pointer (some (ab A))] w λr h=>gy (x.fp++(m.fp++v.fp)) w (mc x.lo x.hi (I.aw x.l)) r h/\af w h:=by
 have nr:=I.cH px.parts.1;rw[I.fx]at K;cases Z:x.l with
 |nil=>rw[Z,Y]at K;simp[kT,I.aw]at K
 |cons c F=>
  have W:x.l[0]? =some c:=by grind
  have G:c∈x.l:=aG W;have D:I.aw (c::F)=c.rx::I.aw F:=rfl;have H0:LH F0 w w [] [.tree x,.tree m,.tree v,ej y m,ej A v]:=bN _ (by
   intro e U;simp only[aq,aL,aR]at U;rcases U with rfl|rfl|rfl|rfl|rfl
   .exact px
   .exact pm
   .exact pv
   .exact hm
   .exact hv)
  refine Bp.aD _ _ _ _ _ _ w _ (H0.aK λO w1 H1=>H1.aK λC w2 L=>?_);have n2:0<x.s.n:=by grind
  have sc:c.sz<=1000000:=by have:=I.eH G;have:=I.iI x;omega
  have fc:∀b∈c.fp,b∈x.fp:=λb E=>I.gG.2 (.inr (I.bZ.2 ⟨c,G,E⟩));refine iZ (show x.P w2 from L.getD 0) rfl W (L.aK λH w3 B=>?_);have ac:c.k=0\/c.k=1->∀h:J,LH F0 w h [.g O,.g C,.g H] [.tree x,.tree m,.tree v,ej y m,ej A v]->Bp.bD (ab y) C 0 0 0 ⟨none,0,0⟩ h λr h=>gy (x.fp++(m.fp++v.fp)) w (mc x.lo x.hi (I.aw (c::F))) r h/\af w h:=λz h q=>
   ⟨_,_,_,m.s,q.fE 3 0,q.fE 3 1,q.fE 3 2,q.fE 3 3,q.ai λj d=>⟨⟨m,rfl,by
    rw[em,D];show _=if c.rx.k=0\/c.rx.k=1 then _ else _;rw[lY,av z],d.getD 1,λb E=>.inr (by grind)⟩,d.fr⟩⟩
  have aa:¬(c.k=0\/c.k=1)->(c.k=7\/bc c.rx eX=0)->∀h:J,LH F0 w h [.g O,.g C,.g H] [.tree x,.tree m,.tree v,ej y m,ej A v]->Bp.bW C 0 0 0 ⟨none,0,0⟩ H c.k c.lo.toNat c.hi.toNat c.s h λr h=>gy (x.fp++(m.fp++v.fp)) w (mc x.lo x.hi (I.aw (c::F))) r h/\af w h:=λhn z h q=>
   q.ai λj d=>⟨⟨c,rfl,by
    rw[D];show _=if c.rx.k=0\/c.rx.k=1 then _ else if c.rx.k=7\/bc c.rx eX=0 then _ else _;rw[lY,ag hn,av z],(show x.P j from d.getD 0).parts.2.mem G,λb E=>.inr (by grind)⟩,d.fr⟩
  refine aO (λQ=>B.ai λj d=>ac (.inl Q) j d) (λQ=>aO (λS=>B.ai λj d=>ac (.inr S) j d) (λS=>aO (λT=>B.ai λj d=>aa co (.inl T) j d) (λT=>B.ai λj d=>⟨_,_,_,v.s,d.fE 4 0,d.fE 4 1,d.fE 4 2,d.fE 4 3,?_⟩)));refine d.aA (wQ c v j sc ((show x.P j from d.getD 0).parts.2.mem G) (d.getD 2)) ?_;rintro _ w5 rfl M;rw[ev];refine⟨_,rfl,aO (λz=>aa co (.inr z) w5 M) (λz=>M.ai λw6 N=>⟨⟨x,rfl,?_,N.getD 0,λb E=>.inr (by grind)⟩,N.fr⟩)⟩;rw[D];show x.rx=if c.rx.k=0\/c.rx.k=1 then _ else if c.rx.k=7\/bc c.rx eX=0 then _ else _;rw[lY,ag co,ag co,I.fx,Y,Z,D]
structure Fm where
 m:Nat
 es:Array MapEntry
 clock:Nat
 ms:List (Int×aa)
 cs:List (Nat×I)
 s:Sl
def cw:I:=.mk 0 0 0 ⟨none,0,0⟩ []
def fJ:I:=.mk 1 0 0 ⟨none,0,0⟩ []
def Fm.ev(F:Fm):I:=.mk 6 0 0 F.s [cw]
def _root_.Go.W.En.fm(F:Fm):En:=.all (.ob F.m (.map F.es F.clock)::.tree F.ev::F.cs.map λp=>ej p.1 p.2)
def u3(a b:Nat):aa:=.func (.func AM) #[] #[.pointer (some (ab a)),.pointer (some (ab b))]
def i3:aa:=.func (.func x5) #[] #[]
def tJ(cs:List (Nat×I))(h:I)(k:Int)(v:aa):Prop:=
 ((k=0\/k=1\/k=2)/\v=i3)\/(∃u d a b,((k=3/\u=fJ/\d=cw)\/(k=4/\u=cw/\d=h)\/(k=5/\u=h/\d=cw))/\v=u3 a b/\(a,u)∈cs/\(b,d)∈cs)\/
 (k=6/\v=.func (.func va) #[] #[])\/∃a b,k=7/\v=.func (.func vb) #[] #[.pointer (some (ab a)),.pointer (some (ab b))]/\(a,fJ)∈cs/\(b,h)∈cs
structure Fm.Ok(F:Fm):Prop where
 ms:tN .i64 F.es F.ms
 all:∀k:Int,0<=k->k<8->∃v,lO F.ms k=some v/\tJ F.cs F.ev k v
section
variable {F:Fm} {w:J}
def ZU(h:(En.fm F).P w):w.heap[F.m]? =some (.map F.es F.clock):=h (.ob F.m (.map F.es F.clock)) ws
def EP(h:(En.fm F).P w):F.ev.P w:=h (.tree F.ev) ws
def Aa(h:(En.fm F).P w){a:Nat}{u:I}(d:(a,u)∈F.cs):w.heap[a]? =some (.cells u.c.toArray aZ (0,0)):=h (ej a u) (fF _ (fF _ (bK.2 ⟨(a,u),d,rfl⟩)))
def ER{b:Nat}(h:b∈F.ev.fp):b∈(En.fm F).fp:=a0.2 (bX.2 ⟨.tree F.ev,ws,a0.2 h⟩)
def k4(w:J):cw.P w:=Rj w
def zV(w:J):fJ.P w:=by unfold fJ I.P I.Ps;exact⟨bL.nil 4 w,trivial⟩
def k5{b:Nat}(h:b∈cw.fp):False:=Ri h
def zW{b:Nat}(h:b∈fJ.fp):False:=by unfold fJ I.fp I.be at h;simp[En.bd]at h
def gy.sub{d j:List Nat}{x:Rx}{r:cE}{Y:J}(h:gy d w x r Y)(B:∀b∈d,b∈j):gy j w x r Y:=by obtain⟨t,k,q,y,z⟩:=h;exact⟨t,k,q,y,λb A=>(z b A).imp id (B b)⟩
def NH:CU V kA b' nD .i64 .nilFunc:=⟨by kernel_rfl,by kernel_rfl,by kernel_rfl⟩
end
def abN{P:aH}{T E y:aC}{kd:IntKind}{z:aa}(h:CU P T E y kd z){w:J}{j:Nat}{es:Array MapEntry}{clock:Nat}{ms:List (Int×aa)}(C:w.heap[j]? =some (.map es clock))(D:tN kd es ms)(k:Int):(Instr.lookup T (.map (some j)) (.int kd k) false).run P w=.ok ((lO ms k).getD z) w:=by
 have A:=EM (k:=k) (i:=0) D;have B:(getObj j).run P w=.ok (.map es clock) w:=by simp[getObj,Sem.run,C]
 have d:=ND (ms:=ms) (k:=k) (i:=0);unfold Instr.lookup Instr.findKey;simp only[Sem.run_bind,run_underlying h.hT,Result.andThen_ok,B,Sem.run_pure,JY h.hk,run_underlying h.hk,A];cases q:((ms.findIdx? λp=>p.1==k).bind λx=>(ms[x]?).map λp=>(0+x,p.2))with
 |none=>rw[q]at d;simp[<-d,We h.hz]
 |some F=>rw[q]at d;simp[<-d]
def X'{N:Nat}(W:tT N)(U:N<=1000000){F:Fm}(O:F.Ok){w:J}(h:(En.fm F).P w)(k:Int)(S:0<=k)(T:k<8):
  ∃f:Fv,(Instr.lookup kA (.map (some F.m)) (.i k) false).run V w=.ok f.v w/\hG V f.n=true/\∀(x:I) (Y:J),(En.fm F).P Y->x.P Y->x.k=k->(x.k=4\/x.k=5->vl x.k (I.aw x.l)<=N)->x.sz<=1000000->kT x.rx=true->
   aj V f.n (f.bs++#[x.v]++f.cs) Y λr Q=>gy (x.fp++(En.fm F).fp) Y (hZ x.rx) r Q/\af Y Q:=by
 have mo:=NH;obtain⟨v,hv,Z⟩:=O.all k S T;have A:=abN mo (ZU h) O.ms k;rw[hv,Option.getD_some]at A;have H:∀x:I,hZ x.rx=if x.k=3 then g2 3 (I.aw x.l) n7 fO else if x.k=4 then g2 4 (I.aw x.l) fO eX else if x.k=5 then g2 5 (I.aw x.l) eX fO else if x.k=6 then qE x.lo x.hi (I.aw x.l)else if x.k=7 then mc x.lo x.hi (I.aw x.l)else x.rx:=λx=>by rw[I.fx];rfl
 rcases Z with⟨z,rfl⟩|⟨u,M,a,b,z,rfl,K,E⟩|⟨rfl,rfl⟩|⟨a,b,rfl,rfl,K,E⟩
 .refine ⟨⟨x5,#[],#[]⟩,A,by kernel_rfl,λx Y q y j G C D=>((Yg x Y y).mono ?_)⟩;rintro _ L ⟨rfl,f⟩;refine⟨⟨x,rfl,?_,y.br f,λb E=>.inr (by grind)⟩,f⟩
  grind
 .refine ⟨⟨AM,#[],#[.pointer (some (ab a)),.pointer (some (ab b))]⟩,A,by kernel_rfl,λx Y q y j G C D=>?_⟩;have pu:u.P Y:=by
   rcases z with⟨_,rfl,_⟩|⟨_,rfl,_⟩|⟨_,rfl,_⟩
   .exact zV Y
   .exact k4 Y
   .exact EP q
  have pz:M.P Y:=by
   rcases z with⟨_,_,rfl⟩|⟨_,_,rfl⟩|⟨_,_,rfl⟩
   .exact k4 Y
   .exact EP q
   .exact k4 Y
  refine(Ym W U x u M a b Y (λh3=>G co) C y pu pz (Aa q K) (Aa q E)).mono ?_;rintro r L ⟨B,f⟩;refine⟨?_,f⟩;have e:hZ x.rx=g2 x.k (I.aw x.l) u.rx M.rx:=by
   rw[H];rcases z with⟨rfl,rfl,rfl⟩|⟨rfl,rfl,rfl⟩|⟨rfl,rfl,rfl⟩
   .rw [av j,j];rfl
   .rw [ag co,av j,j];rfl
   .rw [ag co,ag co,av j,j];rfl
  rw[e];refine B.sub λc d=>?_;rcases aW.1 d with d|d
  .grind
  .rcases aW.1 d with d|d
   .rcases z with⟨_,rfl,_⟩|⟨_,rfl,_⟩|⟨_,rfl,_⟩
    .exact (zW d).elim
    .exact (k5 d).elim
    .exact dL _ (ER d)
   .rcases z with⟨_,_,rfl⟩|⟨_,_,rfl⟩|⟨_,_,rfl⟩
    .exact (k5 d).elim
    .exact dL _ (ER d)
    .exact (k5 d).elim
 .refine ⟨⟨va,#[],#[]⟩,A,by kernel_rfl,λx Y q y j G C D=>((Yr x Y y j D).mono ?_)⟩;rintro r L ⟨B,f⟩;refine⟨?_,f⟩;rw[H,ag co,ag co,ag co,av j];exact B.sub λc d=>by grind
 .refine ⟨⟨vb,#[],#[.pointer (some (ab a)),.pointer (some (ab b))]⟩,A,by kernel_rfl,λx Y q y j G C D=>((YD x fJ F.ev a b Y C y (zV Y) (EP q) (Aa q K) (Aa q E) rfl rfl j D).mono ?_)⟩;rintro r L ⟨B,f⟩;refine⟨?_,f⟩;rw[H,ag co,ag co,ag co,ag co,av j];refine B.sub λc d=>?_;rcases aW.1 d with d|d
  .grind
  .rcases aW.1 d with d|d
   .exact (zW d).elim
   .exact dL _ (ER d)
namespace SW
noncomputable def C0:Code:=(Tryz.f208.body).getD .skip
noncomputable def C1:=C0.sn
noncomputable def C2:=C1.sn
noncomputable def C3:=C2.sn
noncomputable def C4:=C3.sn
noncomputable def C5:=C4.sn
noncomputable def C6:=C5.sn
def ok(w:J)(R:aJ)(h:dz w (.cells #[.i 0,.int .u8 0,.int .u8 0,.slice none 0 0] aZ) λj=>
 dz j (.cells #[.i 0,.int .u8 0,.int .u8 0,.slice none 0 0] aZ) λF=>
 ma F (nb w) (.i 0) (.int .u8 0) (.int .u8 0) (.slice none 0 0) λG=>aS G (nb j) (.i 1) λH=>
 aS H ((nb j).add 1) (.int .u8 0) λI=>
 aS I ((nb j).add 2) (.int .u8 0) λK=>
 aS K ((nb j).add 3) (.slice none 0 0) λk=>
 gi k (nb w) λx y z A=>dz k (.cells #[.i x,.int .u8 y,.int .u8 z,A.v] aZ) λq=>
 dz q (.cells #[.i 0,.int .u8 0,.int .u8 0,.slice none 0 0] aZ) λC=>
 ma C (nb q) (.i 6) (.int .u8 0) (.int .u8 0) (.slice (some (nb k)) 1 1) λD=>yA V C5 (λE w=>lW V Tryz.f208 E w (λv=>R (ae v) w)) [(5,.func (.func AL) #[] #[]),(4,.func (.func x5) #[] #[]),(3,.pointer (some (nb q))),(10,.agg #[.i 6,.int .u8 0,.int .u8 0,.slice (some (nb k)) 1 1]),(9,.slice (some (nb k)) 1 1),(8,.agg #[.i x,.int .u8 y,.int .u8 z,A.v]),(2,.pointer (some (nb j))),(1,.pointer (some (nb w))),(7,.agg #[.i 1,.int .u8 0,.int .u8 0,.slice none 0 0]),(6,.agg #[.i 0,.int .u8 0,.int .u8 0,.slice none 0 0]),(0,.map none)] D):aj V PD #[] w R:=
 wW (R:=R) (fn:=Tryz.f208) (c:=C0) (args:=[]) (by kernel_rfl) (by kernel_rfl) (by kernel_rfl) (sr C0 (show(λ(E:Env) (w:J)=>dY V C0 (λE w=>dY V C1 (λE w=>dY V C2 (λE w=>dY V C3 (λE w=>dY V C4 (λE w=>yA V C5 (λE w=>lW V Tryz.f208 E w (λv=>R (ae v) w)) E w) E w) E w) E w) E w) E w) (kS 0 []) w from mp h) λ_ _ d=>(sr C1 d λ_ _ d=>(sr C2 d λ_ _ d=>(sr C3 d λ_ _ d=>(sr C4 d λ_ _ d=>(si C5 (by kernel_rfl) d λ_ _ d=>(rt C6 λa B=>yq B d)))))))
end SW
def Wu{M:Nat->Prop}{w0 w:J}{L L' D:List En}(H:LH M w0 w L D)(h:L.Perm L'):LH M w0 w L' D:=
 ⟨H.fr,λe d=>H.own e (h.mem_iff.2 d),H.rd,λe d=>H.new e (h.mem_iff.2 d),(h.flatMap_right (·.fp)).nodup_iff.1 H.nd,λe d b k j q=>H.dj e d b k j (h.mem_iff.2 q)⟩
def e0{L:Nat->Bool}{i j:Nat}(h:j≠i):dC L i j=L j:=by
 have:Nat.beq j i=false:=by rw[<-jB,eO];exact h
 grind
def Bz{L:Nat->Bool}{i:Nat}:dC L i i=true:=by simp[dC]
def adO{P:aH}{fn:Func}{E:Env}{w:J}{K:aa->Prop}{t:Nat}{v:aa}(d:fn.results.toList=[.tmp t])(j:E.get? t=some v)(h:K v):lW P fn E w K:=by unfold lW;rw[d];unfold sW;rw[j];exact h
def z':List (Op×Option Nat×aC×List Nat):=[
 (.makeMap kA none,some 11,kA,[]),
 (.move (.tmp 4),some 12,nD,[]),
 (.insert kA (.tmp 11) (.const (.int .i64 0)) (.tmp 12),none,lj,[0,1]),
 (.move (.tmp 4),some 13,nD,[]),
 (.insert kA (.tmp 11) (.const (.int .i64 1)) (.tmp 13),none,lj,[0,3]),
 (.move (.tmp 4),some 14,nD,[]),
 (.insert kA (.tmp 11) (.const (.int .i64 2)) (.tmp 14),none,lj,[0,5]),
 (.move (.tmp 5),some 15,If,[]),
 (.load aZ (.tmp 2),some 16,aZ,[]),
 (.load aZ (.tmp 1),some 17,aZ,[]),
 (.call ⟨.value (.tmp 15),#[.tmp 16,.tmp 17],#[aZ,aZ]⟩,some 18,nD,[7,8,9]),
 (.insert kA (.tmp 11) (.const (.int .i64 3)) (.tmp 18),none,lj,[0,10]),
 (.move (.tmp 5),some 19,If,[]),
 (.load aZ (.tmp 1),some 20,aZ,[]),
 (.load aZ (.tmp 3),some 21,aZ,[]),
 (.call ⟨.value (.tmp 19),#[.tmp 20,.tmp 21],#[aZ,aZ]⟩,some 22,nD,[12,13,14,10]),
 (.insert kA (.tmp 11) (.const (.int .i64 4)) (.tmp 22),none,lj,[0,15]),
 (.move (.tmp 5),some 23,If,[]),
 (.load aZ (.tmp 3),some 24,aZ,[]),
 (.load aZ (.tmp 1),some 25,aZ,[]),
 (.call ⟨.value (.tmp 23),#[.tmp 24,.tmp 25],#[aZ,aZ]⟩,some 26,nD,[17,18,19,15]),
 (.insert kA (.tmp 11) (.const (.int .i64 5)) (.tmp 26),none,lj,[0,20]),
 (.insert kA (.tmp 11) (.const (.int .i64 6)) (.func va),none,lj,[0]),
 (.makeFunc (.func vb) #[] #[.tmp 2,.tmp 3],some 27,nD,[]),
 (.insert kA (.tmp 11) (.const (.int .i64 7)) (.tmp 27),none,lj,[0,23]),
 (.move (.tmp 11),some 28,kA,[0,1,2,3,4,5,6,7,8,9,10,11,12,13,14,15,16,17,18,19,20,21,22,23,24]),
 (.assign (.tmp 28),some 0,kA,[25,20,0,1,2,3,4,5,6,7,8,9,10,11,12,13,14,15,16,17,18,19,20,21,22,23,24,25])]
abbrev ptr(b:Nat):aa:=.pointer (some (ab b))
abbrev lh:aa:=.func (.func AL) #[] #[]
abbrev BN(a b:Nat):aa:=.func (.func vb) #[] #[ptr a,ptr b]
abbrev fD(s:Sl):I:=.mk 6 0 0 s [cw]
def cr(j b2 d:Nat)(h:I):List (Nat×Nat×aa):=[(0,1,ptr j),(0,2,ptr b2),(0,3,ptr d),(0,4,i3),(0,5,lh),(2,12,i3),(4,13,i3),(6,14,i3),(8,15,lh),(9,16,fJ.v),(10,17,cw.v),(13,19,lh),(14,20,cw.v),(15,21,h.v),(18,23,lh),(19,24,h.v),(20,25,cw.v),(24,27,BN b2 d)]
def eR:List (Nat×Int):=[(2,0),(4,1),(6,2),(11,3),(16,4),(21,5),(22,6),(24,7)]
def h5(d:I):List (Nat×Nat×I×I):=[(10,18,fJ,cw),(15,22,cw,d),(20,26,d,cw)]
def Joined(h:I)(cs:List (Nat×I))(L:Nat->Bool)(E:Env):Prop:=∀d∈h5 h,L d.1=true->∃a b,E.get? d.2.1=some (u3 a b)/\(a,d.2.2.1)∈cs/\(b,d.2.2.2)∈cs
def zd(j:I)(cs:List (Nat×I))(L:Nat->Bool)(E:Env)(mp:List En):Prop:=(L 0=false/\mp=[]/\(∀d∈eR,L d.1=false)/\L 25=false/\L 26=false)\/
 (L 0=true/\∃(m:Nat) (es:Array MapEntry) (clock:Nat) (ms:List (Int×aa)),mp=[.ob m (.map es clock)]/\E.get? 11=some (.map (some m))/\tN .i64 es ms/\(∀h v,lO ms h=some v->tJ cs j h v)/\(∀d∈eR,(lO ms d.2).isSome=L d.1)/\
  (L 25=true->E.get? 28=some (.map (some m)))/\(L 26=true->E.get? 0=some (.map (some m))))
abbrev qo(d b2 h:Nat)(s:Sl):List En:=[ej d cw,ej b2 fJ,.row aZ 4 s cw.c,ej h (fD s)]
structure FJ(w0:J)(b1 b2 b4:Nat)(s:Sl)(L:Nat->Bool)(E:Env)(w:J):Prop where
 st:oQ (cr b1 b2 b4 (fD s)) L E
 hp:∃(mp X:List En) (cs:List (Nat×I)),LH F0 w0 w (mp++(qo b1 b2 b4 s++X)) []/\(∀p∈cs,ej p.1 p.2∈qo b1 b2 b4 s++X)/\(b2,fJ)∈cs/\(b4,fD s)∈cs/\Joined (fD s) cs L E/\zd (fD s) cs L E mp
def tJ.mono{cs y:List (Nat×I)}{z:I}{k:Int}{v:aa}(h:tJ cs z k v)(d:∀p∈cs,p∈y):tJ y z k v:=by
 rcases h with h|⟨u,A,a,b,j,q,w,x⟩|h|⟨a,b,j,q,w,x⟩
 .exact .inl h
 .exact .inr (.inl ⟨u,A,a,b,j,q,d _ w,d _ x⟩)
 .exact .inr (.inr (.inl h))
 .exact .inr (.inr (.inr ⟨a,b,j,q,d _ w,d _ x⟩))
def NG(ms:List (Int×aa))(k d:Int)(v:aa):lO (ms++[(k,v)]) d=(lO ms d).or (if k=d then some v else none):=by
 unfold lO
 grind
section
variable {w0 w:J} {b1 b2 b4:Nat} {s:Sl} {L:Nat->Bool} {E:Env}
def zd.cC{y:I}{cs x:List (Nat×I)}{mp:List En}(h:zd y cs L E mp)(K:∀p∈cs,p∈x)(i d:Nat)(v:aa)(hi:∀M∈[0,25,26,2,4,6,11,16,21,22,24],M≠i)(w:∀t∈[11,28,0],d≠t):zd y x (dC L i) (E.put (some d) v) mp:=by
 have S:∀j∈eR,dC L i j.1=L j.1:=λj k=>e0 (hi _ (by simp only[eR,aq,aL,aR]at k;rcases k with rfl|rfl|rfl|rfl|rfl|rfl|rfl|rfl<;>simp));have T:dC L i 0=L 0:=e0 (hi 0 ws);have O:dC L i 25=L 25:=e0 (hi 25 ws);have P:dC L i 26=L 26:=e0 (hi 26 ws);rcases h with⟨D,q,z,A,B⟩|⟨D,m,C,clock,ms,q,z,A,B,Q,F,G⟩
 .exact .inl ⟨by grind,q,λj k=>by grind,by grind,by grind⟩
 .refine .inr ⟨by grind,m,C,clock,ms,q,?_,A,λN v H=>(B N v H).mono K,λj k=>by grind,λh=>?_,λh=>?_⟩
  .rw [h0 (w 11 ws),z]
  .rw [h0 (w 28 ws),F (O▸h)]
  .rw [h0 (w 0 ws),G (P▸h)]
def FJ.stat(h:FJ w0 b1 b2 b4 s L E w)(i d:Nat)(v:aa)(B:∀j∈cr b1 b2 b4 (fD s),j.1=i+1->j=(i+1,d,v))(C:∀j∈cr b1 b2 b4 (fD s),j.2.1=d->j.1=i+1)(hi:∀y∈[0,25,26,2,4,6,11,16,21,22,24],y≠i)(q:∀y∈[10,15,20],y≠i)(G:∀t∈[11,28,0],d≠t)(k:∀t∈[18,22,26],d≠t):FJ w0 b1 b2 b4 s (dC L i) (E.put (some d) v) w:=by
 obtain⟨mp,X,A,z,F,I,M,H,K⟩:=h.hp;refine⟨h.st.fill B C,mp,X,A,z,F,I,M,λj x D=>?_,K.cC (λ_ h=>h) i d v hi G⟩;have e:dC L i j.1=L j.1/\d≠j.2.1:=by
  simp only[h5,aq,aL,aR]at x;rcases x with rfl|rfl|rfl
  .exact ⟨e0 (q 10 ws),k 18 ws⟩
  .exact ⟨e0 (q 15 ws),k 22 ws⟩
  .exact ⟨e0 (q 20 ws),k 26 ws⟩
 rw[h0 e.2];exact H j x (e.1▸D)
def FJ.ins(h:FJ w0 b1 b2 b4 s L E w)(i:Nat)(k:Int)(v:aa)(q:(i,k)∈eR)(h0:L 0=true)(hi:L i=false)(hv:∀x,(b2,fJ)∈x->(b4,fD s)∈x->Joined (fD s) x L E->tJ x (fD s) k v):
  ∃m,E.get? 11=some (.map (some m))/\∃z,(Instr.mapUpdate kA (.map (some m)) (.i k) v).run V w=.ok () z/\FJ w0 b1 b2 b4 s (dC L i) (E.put none undef) z:=by
 obtain⟨mp,X,x,B,N,S,O,P,T⟩:=h.hp;rcases T with⟨ab,_⟩|⟨_,m,es,clock,ms,rfl,C,G,h4,D,H,I⟩
 .grind
 have F:lO ms k=none:=by have:=D _ q;rw[hi]at this;simpa using this
 obtain⟨z,A,U,W,Y,Z,r5⟩:=abZ NH (B.ob (b:=m) 0 rfl) G k v F;refine⟨m,C,z,U,h.st.pass ?_ (λ_ _=>ws),[.ob m (.map A (clock+1))],X,x,B.ha 0 (.ob m (.map A (clock+1))) rfl (Z.mono λac _ e=>by simp[En.ob,e]) W (λb M=>.inl M),N,S,O,λj d K=>?_,.inr ⟨?_,m,A,clock+1,ms++[(k,v)],rfl,C,Y,λk' v' Q=>?_,λj d=>?_,λh=>?_,λh=>?_⟩⟩
 .intro j d;simp only[eR,aq,aL,aR,eW]at q;simp only[cr,aq,aL,aR]at d
  (repeat' rcases d with rfl|d)<;>(try subst d)<;>simp only<;>omega
 .have e:dC L i j.1=L j.1:=e0 (by
   simp only[eR,aq,aL,aR,eW]at q;simp only[h5,aq,aL,aR]at d
   grind)
  exact P j d (e▸K)
 .grind
 .rw [NG]at Q
  grind
 .rw [NG];by_cases y:j.1=i
  .have:j.2=k:=by simp only[eR,aq,aL,aR,eW]at q;simp only[eR,aq,aL,aR]at d;rcases d with rfl|rfl|rfl|rfl|rfl|rfl|rfl|rfl<;>simp only at y ⊢<;>omega
   rw[y,Bz,this,F,av rfl];rfl
  .have:k≠j.2:=by simp only[eR,aq,aL,aR,eW]at q;simp only[eR,aq,aL,aR]at d;rcases d with rfl|rfl|rfl|rfl|rfl|rfl|rfl|rfl<;>simp only at y ⊢<;>omega
   rw[e0 y,ag this,<-D j d];simp
 .exact H (by rwa[e0 (by simp only[eR,aq,aL,aR,eW]at q;omega)]at h)
 .exact I (by rwa[e0 (by simp only[eR,aq,aL,aR,eW]at q;omega)]at h)
def FJ.call(h:FJ w0 b1 b2 b4 s L E w)(i d:Nat)(u z:I)(y:(i,d,u,z)∈h5 (fD s)):aj V AL #[u.v,z.v] w λe P=>∃v,e=ae v/\FJ w0 b1 b2 b4 s (dC L i) (E.put (some d) v) P:=by
 obtain⟨mp,X,D,A,T,Y,U,H,M⟩:=h.hp;have W:(i=10/\d=18)\/(i=15/\d=22)\/(i=20/\d=26):=by simp only[h5,aq,aL,aR,eW]at y;omega
 refine SZ.ok _ _ _ _ _ _ _ _ w _ (A.nw λq aa B=>B.nw λw2 ab C=>⟨u3 w.heap.size q.heap.size,rfl,h.st.pass ?_ ?_,mp,X++[ej w.heap.size u,ej q.heap.size z],(w.heap.size,u)::(q.heap.size,z)::D,?_,?_,by grind,by grind,λk j G=>?_,M.cC (λp Z=>by grind) i d _ ?_ ?_⟩)
 .intro k j;simp only[cr,aq,aL,aR]at j
  (repeat' rcases j with rfl|j)<;>(try subst j)<;>simp only<;>omega
 .intro k j x;have x:d=k.2.1:=e5 x;simp only[cr,aq,aL,aR]at j
  (repeat' rcases j with rfl|j)<;>(try subst j)<;>simp only at x<;>omega
 .have e:mp++(qo b1 b2 b4 s++(X++[ej w.heap.size u,ej q.heap.size z]))=mp++(qo b1 b2 b4 s++X)++[ej w.heap.size u]++[ej q.heap.size z]:=ws
  rw[e];exact C
 .grind
 .by_cases O:k.1=i
  .have:k=(i,d,u,z):=by
    simp only[h5,aq,aL,aR,eW]at y;simp only[h5,aq,aL,aR]at j
    grind
   subst this;exact⟨_,_,o9,ws,ws⟩
  .have N:d≠k.2.1:=by
    simp only[h5,aq,aL,aR]at j
    grind
   obtain⟨a,b,F,Q,S⟩:=H k j (by rwa[e0 O]at G);exact⟨a,b,by rw[h0 N,F],by grind,by grind⟩
 .intro ac K;simp only[aq,aL,aR]at K;omega
 grind
def FJ.AD(h:FJ w0 b1 b2 b4 s L E w)(K:L 0=false):FJ w0 b1 b2 b4 s (dC L 0) (E.put (some 11) (.map (some w.heap.size))) (w.alloc (.map #[] 0)):=by
 obtain⟨mp,X,x,q,C,H,D,F,I⟩:=h.hp;rcases I with⟨_,rfl,y,z,A⟩|⟨M,_⟩
 .refine ⟨h.st.pass ?_ ?_,[.ob w.heap.size (.map #[] 0)],X,x,Wu (q.alloc (.map #[] 0)) ?_,C,H,D,λj d B=>?_,.inr ⟨Bz,w.heap.size,#[],0,[],rfl,o9,rfl,λN v G=>by simp[lO]at G,λj d=>?_,λh=>?_,λh=>?_⟩⟩
  .intro j d;simp only[cr,aq,aL,aR]at d
   (repeat' rcases d with rfl|d)<;>(try subst d)<;>simp
  .intro j d k;have k:11=j.2.1:=e5 k;simp only[cr,aq,aL,aR]at d
   (repeat' rcases d with rfl|d)<;>(try subst d)<;>simp at k
  .exact List.perm_append_comm
  .have e:dC L 0 j.1=L j.1/\11≠j.2.1:=by simp only[h5,aq,aL,aR]at d;rcases d with rfl|rfl|rfl<;>exact⟨e0 ws,ws⟩
   rw[h0 e.2];exact F j d (e.1▸B)
  .rw [e0 (by
    simp only[eR,aq,aL,aR]at d
    grind),y j d]
   simp[lO]
  .rw [e0 md,z]at h;cases h
  .rw [e0 md,A]at h;cases h
 grind
def FJ.m25(h:FJ w0 b1 b2 b4 s L E w)(N:L 0=true):∃m,E.get? 11=some (.map (some m))/\FJ w0 b1 b2 b4 s (dC L 25) (E.put (some 28) (.map (some m))) w:=by
 obtain⟨mp,X,z,y,G,K,H,I,M⟩:=h.hp;rcases M with⟨O,_⟩|⟨_,m,q,clock,ms,rfl,x,A,B,C,P,D⟩
 .grind
 refine⟨m,x,h.st.pass ?_ ?_,[.ob m (.map q clock)],X,z,y,G,K,H,λj d F=>?_,.inr ⟨by grind,m,q,clock,ms,rfl,by rw[h0 md,x],A,B,λj d=>?_,λ_=>o9,λh=>?_⟩⟩
 .intro j d;simp only[cr,aq,aL,aR]at d
  (repeat' rcases d with rfl|d)<;>(try subst d)<;>simp
 .intro j d k;have k:28=j.2.1:=e5 k;simp only[cr,aq,aL,aR]at d
  (repeat' rcases d with rfl|d)<;>(try subst d)<;>simp at k
 .have e:dC L 25 j.1=L j.1/\28≠j.2.1:=by simp only[h5,aq,aL,aR]at d;rcases d with rfl|rfl|rfl<;>exact⟨e0 ws,ws⟩
  rw[h0 e.2];exact I j d (e.1▸F)
 .rw [e0 (by
   simp only[eR,aq,aL,aR]at d
   grind),C j d]
 .rw [h0 md];exact D (by rwa[e0 md]at h)
def FJ.m26(h:FJ w0 b1 b2 b4 s L E w)(O:L 0=true)(A:L 25=true):∃m,E.get? 28=some (.map (some m))/\FJ w0 b1 b2 b4 s (dC L 26) (E.put (some 0) (.map (some m))) w:=by
 obtain⟨mp,X,y,x,H,M,I,K,N⟩:=h.hp;rcases N with⟨P,_⟩|⟨_,m,q,clock,ms,rfl,z,B,C,D,F,Q⟩
 .grind
 refine⟨m,F A,h.st.pass ?_ ?_,[.ob m (.map q clock)],X,y,x,H,M,I,λj d G=>?_,.inr ⟨by grind,m,q,clock,ms,rfl,by rw[h0 md,z],B,C,λj d=>?_,λh=>?_,λ_=>o9⟩⟩
 .intro j d;simp only[cr,aq,aL,aR]at d
  (repeat' rcases d with rfl|d)<;>(try subst d)<;>simp
 .intro j d k;have k:0=j.2.1:=e5 k;simp only[cr,aq,aL,aR]at d
  (repeat' rcases d with rfl|d)<;>(try subst d)<;>simp at k
 .have e:dC L 26 j.1=L j.1/\0≠j.2.1:=by simp only[h5,aq,aL,aR]at d;rcases d with rfl|rfl|rfl<;>exact⟨e0 ws,ws⟩
  rw[h0 e.2];exact K j d (e.1▸G)
 .rw [e0 (by
   simp only[eR,aq,aL,aR]at d
   grind),D j d]
 .rw [h0 md]
  grind
def FJ.ld(h:FJ w0 b1 b2 b4 s L E w){u:I}{b:Nat}(A:ej b u∈qo b1 b2 b4 s){K:aa->Prop}(H:K u.v):nc V aZ (ab b) w λv _=>K v:=by
 obtain⟨mp,X,G,z,_⟩:=h.hp;have d:w.heap[b]? =some (.cells u.c.toArray aZ (0,0)):=z.own (ej b u) (dL _ (bG _ A));have B:=cellAt (p:=ab b) (i:=0) (v:=.int .i64 u.k) d rfl rfl;have C:=cellAt (p:=ab b) (i:=1) (v:=.int .u8 (u.lo.toNat:Int)) d rfl rfl;have D:=cellAt (p:=ab b) (i:=2) (v:=.int .u8 (u.hi.toNat:Int)) d rfl rfl;have F:=cellAt (p:=ab b) (i:=3) (v:=u.s.v) d rfl rfl;have e:(nc V aZ (ab b) w λv _=>K v)=(∃j:Int,∃q:Int,∃x:Int,∃y:Sl,w.cell? ((ab b).add 0)=some (.int .i64 j)/\w.cell? ((ab b).add 1)=some (.int .u8 q)/\w.cell? ((ab b).add 2)=some (.int .u8 x)/\w.cell? ((ab b).add 3)=some y.v/\K (.agg #[.int .i64 j,.int .u8 q,.int .u8 x,y.v])):=by kernel_rfl
 grind
end
def ZV(w:J)(G b2 D:Nat)(s:Sl):allI (wE V (FJ w G b2 D s)) z' 0:=
 ⟨λz y A o k q B x j h=>aeN k (by rw[q];exact h.AD x),
  λz y A o k q B x j h=>ny (.inl k) (h.st.get (i:=0) (d:=4) (v:=i3) (by simp[cr]) rfl) (by rw[q];exact h.stat 1 12 (i3) (by simp[cr]) (by simp[cr]) ws ws ws ws),
  λz y A o k q B x j h=>by obtain⟨m,E,C,F,H⟩:=h.ins 2 0 (i3) (by simp[eR]) (j 0 ws) x (λI M O L=>.inl ⟨.inl rfl,rfl⟩);exact qX k E rfl (h.st.get (i:=2) (d:=12) (v:=i3) (by simp[cr]) (j 1 ws)) ⟨C,F,by grind⟩,
  λz y A o k q B x j h=>ny (.inl k) (h.st.get (i:=0) (d:=4) (v:=i3) (by simp[cr]) rfl) (by rw[q];exact h.stat 3 13 (i3) (by simp[cr]) (by simp[cr]) ws ws ws ws),
  λz y A o k q B x j h=>by obtain⟨m,E,C,F,H⟩:=h.ins 4 1 (i3) (by simp[eR]) (j 0 ws) x (λI M O L=>.inl ⟨.inr (.inl rfl),rfl⟩);exact qX k E rfl (h.st.get (i:=4) (d:=13) (v:=i3) (by simp[cr]) (j 3 ws)) ⟨C,F,by grind⟩,
  λz y A o k q B x j h=>ny (.inl k) (h.st.get (i:=0) (d:=4) (v:=i3) (by simp[cr]) rfl) (by rw[q];exact h.stat 5 14 (i3) (by simp[cr]) (by simp[cr]) ws ws ws ws),
  λz y A o k q B x j h=>by obtain⟨m,E,C,F,H⟩:=h.ins 6 2 (i3) (by simp[eR]) (j 0 ws) x (λI M O L=>.inl ⟨.inr (.inr rfl),rfl⟩);exact qX k E rfl (h.st.get (i:=6) (d:=14) (v:=i3) (by simp[cr]) (j 5 ws)) ⟨C,F,by grind⟩,
  λz y A o k q B x j h=>ny (.inl k) (h.st.get (i:=0) (d:=5) (v:=lh) (by simp[cr]) rfl) (by rw[q];exact h.stat 7 15 (lh) (by simp[cr]) (by simp[cr]) ws ws ws ws),
  λz y A o k q B x j h=>qY k (h.st.get (i:=0) (d:=2) (v:=ptr b2) (by simp[cr]) rfl) (h.ld (u:=fJ) (b:=b2) (aG (i:=1) rfl) (K:=λv=>FJ w G b2 D s (dC z 8) (y.put o.dst v) A) (by rw[q];exact h.stat 8 16 ((fJ).v) (by simp[cr]) (by simp[cr]) ws ws ws ws)),
  λz y A o k q B x j h=>qY k (h.st.get (i:=0) (d:=1) (v:=ptr G) (by simp[cr]) rfl) (h.ld (u:=cw) (b:=G) (aG (i:=0) rfl) (K:=λv=>FJ w G b2 D s (dC z 9) (y.put o.dst v) A) (by rw[q];exact h.stat 9 17 ((cw).v) (by simp[cr]) (by simp[cr]) ws ws ws ws)),
  λz y A o k q B x j h=>by refine HP k (h.st.get (i:=8) (d:=15) (v:=lh) (by simp[cr]) (j 7 ws)) (h.st.get (i:=9) (d:=16) (v:=(fJ).v) (by simp[cr]) (j 8 ws)) (h.st.get (i:=10) (d:=17) (v:=(cw).v) (by simp[cr]) (j 9 ws)) (by kernel_rfl) ((h.call 10 18 (fJ) (cw) (by simp[h5])).mono ?_);rintro e C ⟨v,W,H⟩;rw[B,show zeroOf V nD=.nilFunc from by kernel_rfl];exact⟨v,W,by grind⟩,
  λz y A o k q B x j h=>by
   obtain⟨mp,X,I,aa,hc,hm,ab,Y,ac⟩:=h.hp;obtain⟨a,b,N,_,_⟩:=Y (10,18,fJ,cw) (by simp[h5]) (j 10 ws);obtain⟨m,E,C,F,H⟩:=h.ins 11 3 (u3 a b) (by simp[eR]) (j 0 ws) x (λI M O L=>by obtain⟨P,Q,S,T,U⟩:=L (10,18,fJ,cw) (by simp[h5]) (j 10 ws);exact .inr (.inl ⟨fJ,cw,P,Q,.inl ⟨rfl,rfl,rfl⟩,e5 (N.symm.trans S),T,U⟩))
   exact qX k E rfl N ⟨C,F,by grind⟩,
  λz y A o k q B x j h=>ny (.inl k) (h.st.get (i:=0) (d:=5) (v:=lh) (by simp[cr]) rfl) (by rw[q];exact h.stat 12 19 (lh) (by simp[cr]) (by simp[cr]) ws ws ws ws),
  λz y A o k q B x j h=>qY k (h.st.get (i:=0) (d:=1) (v:=ptr G) (by simp[cr]) rfl) (h.ld (u:=cw) (b:=G) (aG (i:=0) rfl) (K:=λv=>FJ w G b2 D s (dC z 13) (y.put o.dst v) A) (by rw[q];exact h.stat 13 20 ((cw).v) (by simp[cr]) (by simp[cr]) ws ws ws ws)),
  λz y A o k q B x j h=>qY k (h.st.get (i:=0) (d:=3) (v:=ptr D) (by simp[cr]) rfl) (h.ld (u:=fD s) (b:=D) (aG (i:=3) rfl) (K:=λv=>FJ w G b2 D s (dC z 14) (y.put o.dst v) A) (by rw[q];exact h.stat 14 21 ((fD s).v) (by simp[cr]) (by simp[cr]) ws ws ws ws)),
  λz y A o k q B x j h=>by refine HP k (h.st.get (i:=13) (d:=19) (v:=lh) (by simp[cr]) (j 12 ws)) (h.st.get (i:=14) (d:=20) (v:=(cw).v) (by simp[cr]) (j 13 ws)) (h.st.get (i:=15) (d:=21) (v:=(fD s).v) (by simp[cr]) (j 14 ws)) (by kernel_rfl) ((h.call 15 22 (cw) (fD s) (by simp[h5])).mono ?_);rintro e C ⟨v,W,H⟩;rw[B,show zeroOf V nD=.nilFunc from by kernel_rfl];exact⟨v,W,by grind⟩,
  λz y A o k q B x j h=>by
   obtain⟨mp,X,I,aa,hc,hm,ab,Y,ac⟩:=h.hp;obtain⟨a,b,N,_,_⟩:=Y (15,22,cw,fD s) (by simp[h5]) (j 15 ws);obtain⟨m,E,C,F,H⟩:=h.ins 16 4 (u3 a b) (by simp[eR]) (j 0 ws) x (λI M O L=>by obtain⟨P,Q,S,T,U⟩:=L (15,22,cw,fD s) (by simp[h5]) (j 15 ws);exact .inr (.inl ⟨cw,fD s,P,Q,.inr (.inl ⟨rfl,rfl,rfl⟩),e5 (N.symm.trans S),T,U⟩))
   exact qX k E rfl N ⟨C,F,by grind⟩,
  λz y A o k q B x j h=>ny (.inl k) (h.st.get (i:=0) (d:=5) (v:=lh) (by simp[cr]) rfl) (by rw[q];exact h.stat 17 23 (lh) (by simp[cr]) (by simp[cr]) ws ws ws ws),
  λz y A o k q B x j h=>qY k (h.st.get (i:=0) (d:=3) (v:=ptr D) (by simp[cr]) rfl) (h.ld (u:=fD s) (b:=D) (aG (i:=3) rfl) (K:=λv=>FJ w G b2 D s (dC z 18) (y.put o.dst v) A) (by rw[q];exact h.stat 18 24 ((fD s).v) (by simp[cr]) (by simp[cr]) ws ws ws ws)),
  λz y A o k q B x j h=>qY k (h.st.get (i:=0) (d:=1) (v:=ptr G) (by simp[cr]) rfl) (h.ld (u:=cw) (b:=G) (aG (i:=0) rfl) (K:=λv=>FJ w G b2 D s (dC z 19) (y.put o.dst v) A) (by rw[q];exact h.stat 19 25 ((cw).v) (by simp[cr]) (by simp[cr]) ws ws ws ws)),
  λz y A o k q B x j h=>by refine HP k (h.st.get (i:=18) (d:=23) (v:=lh) (by simp[cr]) (j 17 ws)) (h.st.get (i:=19) (d:=24) (v:=(fD s).v) (by simp[cr]) (j 18 ws)) (h.st.get (i:=20) (d:=25) (v:=(cw).v) (by simp[cr]) (j 19 ws)) (by kernel_rfl) ((h.call 20 26 (fD s) (cw) (by simp[h5])).mono ?_);rintro e C ⟨v,W,H⟩;rw[B,show zeroOf V nD=.nilFunc from by kernel_rfl];exact⟨v,W,by grind⟩,
  λz y A o k q B x j h=>by
   obtain⟨mp,X,I,aa,hc,hm,ab,Y,ac⟩:=h.hp;obtain⟨a,b,N,_,_⟩:=Y (20,26,fD s,cw) (by simp[h5]) (j 20 ws);obtain⟨m,E,C,F,H⟩:=h.ins 21 5 (u3 a b) (by simp[eR]) (j 0 ws) x (λI M O L=>by obtain⟨P,Q,S,T,U⟩:=L (20,26,fD s,cw) (by simp[h5]) (j 20 ws);exact .inr (.inl ⟨fD s,cw,P,Q,.inr (.inr ⟨rfl,rfl,rfl⟩),e5 (N.symm.trans S),T,U⟩))
   exact qX k E rfl N ⟨C,F,by grind⟩,
  λz y A o k q B x j h=>by obtain⟨m,E,C,F,H⟩:=h.ins 22 6 (.func (.func va) #[] #[]) (by simp[eR]) (j 0 ws) x (λI M O L=>.inr (.inr (.inl ⟨rfl,rfl⟩)));exact qX k E rfl rfl ⟨C,F,by grind⟩,
  λz y A o k q B x j h=>aeM k (h.st.get (i:=0) (d:=2) (v:=ptr b2) (by simp[cr]) rfl) (h.st.get (i:=0) (d:=3) (v:=ptr D) (by simp[cr]) rfl) (by rw[q];exact h.stat 23 27 (BN b2 D) (by simp[cr]) (by simp[cr]) ws ws ws ws),
  λz y A o k q B x j h=>by obtain⟨m,E,C,F,H⟩:=h.ins 24 7 (BN b2 D) (by simp[eR]) (j 0 ws) x (λI M O L=>.inr (.inr (.inr ⟨b2,D,rfl,rfl,M,O⟩)));exact qX k E rfl (h.st.get (i:=24) (d:=27) (v:=BN b2 D) (by simp[cr]) (j 23 ws)) ⟨C,F,by grind⟩,
  λz y A o k q B x j h=>by obtain⟨m,Z,H⟩:=h.m25 (j 0 ws);exact ny (.inl k) Z (by grind),
  λz y A o k q B x j h=>by obtain⟨m,Z,H⟩:=h.m26 (j 0 ws) (j 25 ws);exact ny (.inr k) Z (by grind),trivial⟩
def ZW{w k:J}{j b2 h:Nat}{s:Sl}{E:Env}(H:LH F0 w k (qo j b2 h s) [])(q:E.get? 1=some (ptr j))(x:E.get? 2=some (ptr b2))(y:E.get? 3=some (ptr h))(z:E.get? 4=some i3)(A:E.get? 5=some lh):FJ w j b2 h s (λ_=>false) E k.drew:=by
 refine⟨λD d C=>?_,[],[],[(b2,fJ),(h,fD s)],by simpa using H.drew,?_,ws,ws,λD d B=>(by cases B),.inl ⟨rfl,rfl,λ_ _=>rfl,rfl,rfl⟩⟩
 .simp only[cr,aq,aL,aR]at d
  (repeat' rcases d with rfl|d)<;>(try subst d)<;>first |exact q|exact x|exact y|exact z|exact A|cases C
 grind
def ZT{w q:J}{A b2 B:Nat}{s:Sl}{L:Nat->Bool}{E:Env}(F:∀i,i<z'.length->L i=true)(S:FJ w A b2 B s L E q):∃y:Fm,E.get? 0=some (.map (some y.m))/\y.Ok/\(En.fm y).P q/\(∀b∈(En.fm y).fp,w.heap.size<=b)/\af w q:=by
 have hlen:z'.length=27:=rfl;obtain⟨mp,X,C,j,W,hm,ad,hj,aa⟩:=S.hp;rcases aa with⟨ac,_⟩|⟨_,m,D,clock,ms,rfl,h2,M,N,O,h6,Q⟩
 .grind
 have mem:∀p∈C,ej p.1 p.2∈[En.ob m (.map D clock)]++(qo A b2 B s++X):=λp x=>dL _ (W p x);have ab:aF q aZ 4 s cw.c:=j.get (e:=.row aZ 4 s cw.c) 3 rfl;refine⟨⟨m,D,clock,ms,C,s⟩,Q (F 26 co),⟨M,λh h0 h8=>?_⟩,λe d=>?_,λb T=>?_,j.fr⟩
 .have Z:∃i,(i,h)∈eR/\i<27:=by
   have:h=0\/h=1\/h=2\/h=3\/h=4\/h=5\/h=6\/h=7:=co
   rcases this with rfl|rfl|rfl|rfl|rfl|rfl|rfl|rfl
   .exact ⟨2,by simp[eR],co⟩
   .exact ⟨4,by simp[eR],co⟩
   .exact ⟨6,by simp[eR],co⟩
   .exact ⟨11,by simp[eR],co⟩
   .exact ⟨16,by simp[eR],co⟩
   .exact ⟨21,by simp[eR],co⟩
   .exact ⟨22,by simp[eR],co⟩
   .exact ⟨24,by simp[eR],co⟩
  obtain⟨i,Y,ae⟩:=Z;have G:=O _ Y;rw[F i co]at G;obtain⟨v,K⟩:=Option.isSome_iff_exists.1 G;exact⟨v,K,N h v K⟩
 .rcases aq.1 d with rfl|d
  .exact j.own _ ws
  rcases aq.1 d with rfl|d
  .show I.P q (fD s);unfold I.P I.Ps I.Ps;exact⟨ab.bd,k4 q,trivial⟩
  .obtain ⟨p,x,rfl⟩:=bK.1 d;exact j.own _ (mem p x)
 .obtain ⟨e,d,z⟩:=bX.1 (a0.1 T);rcases aq.1 d with rfl|d
  .exact (j.new _ (aG (i:=0) rfl) b z).resolve_right id
  rcases aq.1 d with rfl|d
  .have k:b∈(fD s).fp:=a0.1 z;unfold I.fp at k;rcases aW.1 k with k|k
   .exact (j.new _ (aG (i:=3) rfl) b (gM k)).resolve_right id
   .obtain ⟨t,H,U⟩:=I.bZ.1 k;simp at H;subst H;exact(k5 U).elim
  .obtain ⟨p,x,rfl⟩:=bK.1 d;exact(j.new _ (mem p x) b z).resolve_right id
def Yf(w:J):aj V PD #[] w λr j=>(∃d:Fm,r=ae (.map (some d.m))/\d.Ok/\(En.fm d).P j/\∀b∈(En.fm d).fp,w.heap.size<=b)/\af w j:=by refine SW.ok w _ ((bN [] ws).nw λk _ y=>y.nw λO _ C=>C.kz 0 rfl λU D=>D.kz 1 rfl λq h=>⟨0,0,0,⟨none,0,0⟩,h.ld 0 0,h.ld 0 1,h.ld 0 2,h.ld 0 3,h.cZ (n:=1) (sz:=4) (cs:=cw.c) rfl md λx z=>z.nw λT _ A=>A.kz 3 rfl λN B=>?_⟩);have E:LH F0 w N (qo w.heap.size k.heap.size x.heap.size ⟨some (ab q.heap.size),1,1⟩) []:=B;refine Fe z' (by kernel_rfl) (FJ w w.heap.size k.heap.size x.heap.size ⟨some (ab q.heap.size),1,1⟩) (ZW E rfl rfl rfl rfl rfl) (ZV _ _ _ _ _) λS Q O M L=>?_;obtain⟨d,F,G,H,I,K⟩:=ZT M L;exact adO (by kernel_rfl) F ⟨⟨d,rfl,G,H,I⟩,K⟩
section
variable {M:Nat->Prop} {w0 w:J} {L D:List En}
def _root_.Go.W.LH.W2(H:LH M w0 w L D)(i:Nat){P:aH}{t ty e:aC}{z:aa}{sz bytes:Nat}(k:gW P t e z sz bytes){T:aC}{s:Sl}{xs:List aa}{news:Array aa}{A:J->Prop}{K:Sl->J->Prop}(hi:L[i]? =some (.row e sz s xs))(y:∀d,LH M w0 d L D->A d)(B:∀h d,LH M w0 d (L.set i (.row e sz h (xs++news.toList))) D->K h d)(C:(s.n+1) *bytes<=140737488355328)(E:news.size=sz:=by rfl)(x:∀u∈news.toList,u.oneCell'=true:=by simp[Value.oneCell']):
  dz w (.cells news T) λj=>A j/\∃h d,(Builtin.append_ #[t,t] ty #[s.v,.slice (some (Addr.mk w.heap.size 0 none)) 1 1]).run P j=.ok h.v d/\K h d:=
 ⟨y _ (H.br (Fr.alloc _ _ _)),H.qd i k hi (λh d q _ _=>B h d q) C E x⟩
end
mutual
def ec:Rx->Rx|.mk k lo hi l=>hZ (.mk k lo hi (fw l))
def fw:List Rx->List Rx
 |[]=>[]
 |a::l=>ec a::fw l
end
def ZK(N:Nat):Rx->Bool|.mk k _ _ l=>au (k=4\/k=5->vl k l<=N)
def sH(N:Nat)(y:Rx):Bool:=kT y&&au (y.sz<=1000000)&&ZK N y
mutual
def qm(N:Nat):Rx->Bool|.mk k lo hi l=>r6 N l&&sH N (.mk k lo hi (fw l))
def r6(N:Nat):List Rx->Bool
 |[]=>true
 |a::l=>qm N a&&r6 N l
end
def LI{N:Nat}:∀{l:List Rx} {a:Rx},r6 N l=true->a∈l->qm N a=true
 |b::l,a,d,h=>by
  unfold r6 at d;rw[bH]at d;rcases aq.1 h with rfl|h
  .exact d.1
  .exact LI d.2 h
def sF:∀l:List Rx,fw l=l.map ec
 |[]=>rfl
 |a::l=>by unfold fw;rw[sF l];rfl
def Rk{M:Nat->Prop}{w0 w:J}{L D:List En}(H:LH M w0 w L D):LH M w0 w L (D++[.trees []]):=
 H.gz (.trees []) (Fr.refl _ _) (by show I.Ps w [];unfold I.Ps;trivial) (λb d=>by have:=a0.1 d;unfold I.be at this;cases this)
def uR{acc:List I}{t:I}{Q:Nat->Prop}(h:∀b∈I.be acc,Q b)(q:∀b∈t.fp,Q b):∀b∈I.be (acc++[t]),Q b:=by
 intro b k;obtain⟨u,d,j⟩:=I.bZ.1 k;rcases aW.1 d with d|d
 .exact h b (I.bZ.2 ⟨u,d,j⟩)
 .simp at d;rw[d]at j;exact q b j
abbrev Wx(N:Nat)(F:Fm)(n:Nat):Prop:=∀(x:I) (w:J),x.sz<=n->qm N x.rx=true->(En.fm F).P w->x.P w->aj V Ge #[.map (some F.m),x.v] w λr d=>gy (x.fp++(En.fm F).fp) w (ec x.rx) r d/\af w d
def JA{N:Nat}(hS:tT N)(hN:N+1<=1000000){F:Fm}(hF:F.Ok):∀n:Nat,n<=1000000->Wx N F n
 |0,_=>λh z ac _ _ _=>absurd ac (by have:=I.mO h;omega)
 |n+1,hn=>λh z ac Y pF px=>by
  have ih:=JA hS hN hF n co;have hs:=I.iI h;have hl:=I.fR h.l;have nr:=I.cH px.parts.1;have Z:r6 N (I.aw h.l)=true/\sH N (.mk h.k h.lo h.hi (fw (I.aw h.l)))=true:=by
   rw[I.fx]at Y;unfold qm at Y
   rwa[bH]at Y
  have ad:0<=h.k/\h.k<8:=by have:=Z.2;unfold sH kT at this;simp only[bH,decide_eq_true_eq]at this;exact this.1.1.1
  have loop:∀(d i:Nat) (acc:List I) (sl:Sl) (C D B:Nat) (y:J),i+d=h.l.length->I.aw acc=fw (I.aw (h.l.take i))->(∀b∈I.be acc,z.heap.size<=b\/b∈h.fp++(En.fm F).fp)->
    LH F0 z y [.c C h.c aZ,.c D [.int .i64 0,.int .u8 0,.int .u8 0,.slice none 0 0] aZ,.c B [.int .i64 h.k,.int .u8 (h.lo.toNat:Int),.int .u8 (h.hi.toNat:Int),sl.v] aZ,.row aZ 4 sl (acc.flatMap I.c)] [.tree h,.fm F,.trees acc]->
    yo.L0 (some F.m) (ab C) (ab D) (ab B) h.s (h.s.n:Int) (i:Int) y λr w'=>gy (h.fp++(En.fm F).fp) z (ec h.rx) r w'/\af z w':=by
   intro d;induction d with
   |zero=>
    intro i acc sl C D B y am x W q;rw[eh co]at x;obtain⟨f,f1,f2,f3⟩:=X' hS co hF (q.getD 1) h.k ad.1 ad.2;have an:∀b∈(I.row sl acc).fp,z.heap.size<=b:=λb j=>(q.new _ (aG (i:=3) rfl) b (gM j)).resolve_right id;have K:LH F0 z y [.c C h.c aZ,.c D [.int .i64 0,.int .u8 0,.int .u8 0,.slice none 0 0] aZ,.c B [.int .i64 h.k,.int .u8 (h.lo.toNat:Int),.int .u8 (h.hi.toNat:Int),sl.v] aZ] [.tree h,.fm F,.trees acc,I.row sl acc,.tree (.mk h.k h.lo h.hi sl acc)]:=q.sX 3 2 h.k h.lo h.hi;have ar:(I.mk h.k h.lo h.hi sl acc).P y:=K.getD 4;have T:(I.mk h.k h.lo h.hi sl acc).rx=.mk h.k h.lo h.hi (fw (I.aw h.l)):=by unfold I.rx;rw[x]
    have H:=Z.2;unfold sH at H;simp only[bH,decide_eq_true_eq]at H;have ao:(I.mk h.k h.lo h.hi sl acc).sz<=1000000:=by have G:=I.eU (I.mk h.k h.lo h.hi sl acc);rw[T]at G;rw[<-G];exact H.1.2
    have al:h.k=4\/h.k=5->vl h.k (I.aw acc)<=N:=λhk=>by rw[x];exact eP H.2 hk
    have ak:ec h.rx=hZ (I.mk h.k h.lo h.hi sl acc).rx:=by rw[T,I.fx];unfold ec;rfl
    refine yo.bC _ _ _ _ _ _ _ _ _ (aP (aV co) ⟨h.k,q.ld 0 0,f,f1,_,_,_,sl,q.ld 2 0,q.ld 2 1,q.ld 2 2,q.ld 2 3,?_⟩);rw[f2];refine(show cS true _ from ?_);refine(f3 (.mk h.k h.lo h.hi sl acc) y (q.getD 1) ar rfl al ao (by rw[T];exact H.1.1)).mono ?_;rintro _ w2 ⟨⟨t,rfl,ht,pt,E⟩,U⟩;have S:=K.gz (.tree t) U pt (λb j=>by
     rcases E b (a0.1 j)with j|j
     .exact .inl j
     .rcases aW.1 j with j|j
      .exact .inr (.inr ⟨_,aG (i:=4) rfl,a0.2 j⟩)
      .exact .inr (.inr ⟨_,aG (i:=1) rfl,j⟩))
    refine⟨_,_,_,t.s,rfl,S.kz 1 rfl λw3 A=>⟨_,_,_,t.s,A.ld 1 0,A.ld 1 1,A.ld 1 2,A.ld 1 3,⟨t,rfl,by rw[ak];exact ht,A.getD 5,λb j=>?_⟩,A.fr⟩⟩;rcases E b j with j|j
    .exact .inl (bz q.fr.size j)
    .rcases aW.1 j with j|j
     .unfold I.fp at j;rcases aW.1 j with j|j
      .exact .inl (an b j)
      .exact W b j
     .exact .inr (dL _ j)
   |succ d ap=>
    intro i acc sl C D B y am x W q;have M:h.l[i]? =some (h.l[i]'co):=a' co;generalize h.l[i]'co=a at M;have O:=aG M;have ay:=I.eH O;have fa:qm N a.rx=true:=LI Z.1 (by rw[I.fP];exact bK.2 ⟨a,O,rfl⟩);have aa:∀b∈a.fp,b∈h.fp:=λb j=>I.gG.2 (.inr (I.bZ.2 ⟨a,O,j⟩));refine yo.bC _ _ _ _ _ _ _ _ _ (aM (aQ co) (iZ (show h.P y from q.getD 0) rfl M (q.nw λw8 _ H8=>H8.kz 4 rfl λaz ag=>ag.dr λae w=>⟨sl,w.ld 2 3,a.k,a.lo.toNat,a.hi.toNat,a.s,w.ld 4 0,w.ld 4 1,w.ld 4 2,w.ld 4 3,?_⟩)));refine(ih a ae co fa (w.getD 1) ((show h.P ae from w.getD 0).parts.2.mem O)).mono ?_;rintro _ aA ⟨⟨t,rfl,ht,pt,E⟩,U⟩;have Q:=w.gz (.tree t) U pt (λb j=>by
     rcases E b (a0.1 j)with j|j
     .exact .inl j
     .rcases aW.1 j with j|j
      .exact .inr (.inr ⟨_,aG (i:=0) rfl,a0.2 (aa b j)⟩)
      .exact .inr (.inr ⟨_,aG (i:=1) rfl,j⟩))
    have av:acc.length=i:=by have G:=congrArg List.length x;rw[I.fP,sF,I.fP]at G;simp only[List.length_map,eT]at G;omega
    have ax:=I.cH (Q.get 3:aF _ _ _ _ _).bd;refine⟨_,_,_,t.s,rfl,Q.ld 2 3,Q.W2 3 rZ (xs:=acc.flatMap I.c) rfl (λw' K=>K.ld 2 3) (λs' aB ah=>ah.st 2 3 rfl λau ai=>?_) co⟩;rw[bb _ co];have aj:=(ai.s5 2 3).take 4;refine ap (i+1) (acc++[t]) s' C D B au co ?_ (uR W λb j=>?_) ?_
    .rw [ku,x,dM,M,Option.toList_some,ku,sF,sF,List.map_append];show _++[t.rx]=_;rw[ht];rfl
    .rcases E b j with j|j
     .exact .inl (bz w.fr.size j)
     .rcases aW.1 j with j|j
      .exact .inr (bG _ (aa b j))
      .exact .inr (dL _ j)
    .rw [m5];exact aj.forget _ ws
  refine yo.ok _ _ _ _ _ z _ ((bN [.tree h,.fm F] (by
   intro e x;simp only[aq,aL,aR]at x;rcases x with rfl|rfl
   .exact px
   .exact pF)).nw λy _ H1=>H1.nw λw2 _ L=>⟨h.k,L.ld 0 0,h.lo.toNat,L.ld 0 1,h.hi.toNat,L.ld 0 2,L.nw λw3 _ S=>S.kz 2 rfl λw7 H7=>⟨h.s,H7.ld 0 3,?_⟩⟩)
  exact loop h.l.length 0 [] ⟨none,0,0⟩ _ _ _ w7 co rfl (λb j=>by unfold I.be at j;cases j) (Rk (H7.fN aZ 4))
def Yq{N:Nat}(q:tT N)(k:N+1<=1000000){F:Fm}(j:F.Ok)(x:I)(w:J)(h:x.sz<=1000000)(y:qm N x.rx=true)(z:(En.fm F).P w)(A:x.P w):aj V Ge #[.map (some F.m),x.v] w λr d=>gy (x.fp++(En.fm F).fp) w (ec x.rx) r d/\af w d:=
 JA q k j 1000000 (bm _) x w h y z A
section
variable {M:Nat->Prop} {w0 w:J} {L D:List En} {bs:List Nat}
def _root_.Go.W.LH.rT(H:LH M w0 w L D){P:aH}{g:FuncId}{args:Array aa}{K:aJ}{d:List Nat}{x:Rx}(A:aj P g args w λr Y=>gy d w x r Y/\af w Y)(hold:∀b∈d,∃g∈D,b∈g.fp)(B:∀(t:I) (Y:J),t.rx=x->LH M w0 Y L (D++[.tree t])->(∀b∈t.fp,w.heap.size<=b\/b∈d)->K (ae t.v) Y):eJ bs P g args w K:=
 hF (A.mono λr Y ⟨⟨t,k,q,y,h⟩,f⟩=>⟨f,by
  subst k;exact B t Y q (H.gz (.tree t) f y λb z=>(h b (a0.1 z)).imp id λj=>.inr (hold b j)) h⟩)
end
namespace n8
noncomputable def a8:=bg (ay V Tryz.f139 [(6,lr 9),(8,lr 9),(13,lr 12)] [2,3]) [0,1,1,1,3] [(2,.l [.I,.Y,.Y,.s] aT),(3,.l [.I,.Y,.Y,.s] aT),(5,.v [.s]),(6,.v [.s]),(7,.v [.I])]
noncomputable abbrev t1:=bf a8
noncomputable def cv:=bg t1 [0,1,1,1,4] [(2,.l [.I,.Y,.Y,.s] aT),(3,.l [.I,.Y,.Y,.s] aT),(8,.v [.I])]
noncomputable abbrev t2:=bf cv
noncomputable abbrev cb:=ak t2 [5] [(2,.l [.I,.Y,.Y,.s] aT),(3,.l [.I,.Y,.Y,.s] aT)]
noncomputable abbrev t3:=ao cb
def dO:=bj t3 cv
def bJ:=bj t3 a8
def aD:=az t3 FT [.a 4,.I,.Y,.Y,.s,.a 4,.I,.Y,.Y,.s]
end n8
def k8{p:Addr}{K:Addr->Prop}(h:K p):dV (some p) K:=h
def D3{x y:Int}(l:List Int)(h:x<y):eG (cP x y::l)=-1:=by unfold eG cP;simp[h]
def D2{x y:Int}(l:List Int)(h:y<x):eG (cP x y::l)=1:=by unfold eG cP;rw[ag (show ¬x<y by omega),av h];simp
def D0{x y:Int}(l:List Int)(d:¬x<y)(h:¬y<x):eG (cP x y::l)=eG l:=by
 conv=>lhs;unfold eG cP
 rw[ag d,ag h];simp
abbrev WC(n:Nat):Prop:=∀(a b:I) (w:J),a.sz<=n->a.P w->b.P w->aj V FT #[a.v,b.v] w λr d=>r=ae (.int .i64 (bc a.rx b.rx))/\af w d
def JG:∀n:Nat,n<=1000000->WC n
 |0,_=>λa b A h _ _=>absurd h (by have:=I.mO a;omega)
 |n+1,hn=>λa b A h pa pb=>by
  have ih:=JG n co;have hs:=I.iI a;have hl:=I.fR a.l;have na:=I.cH pa.parts.1;have ao:=I.cH pb.parts.1;have e:bc a.rx b.rx=if eG [cP a.k b.k,cP a.lo.toNat b.lo.toNat,cP a.hi.toNat b.hi.toNat]≠0 then eG [cP a.k b.k,cP a.lo.toNat b.lo.toNat,cP a.hi.toNat b.hi.toNat]else cmpL (I.aw a.l) (I.aw b.l):=by rw[I.fx a,I.fx b];unfold bc;rfl
  have am:∀(d i:Nat) (b2 w:Nat) (G:J),i+d=a.l.length->i<=b.l.length->cmpL (I.aw (a.l.drop i)) (I.aw (b.l.drop i))=bc a.rx b.rx->LH F0 A G [.g b2,.g w] [.tree a,.tree b]->
    n8.cv b2 a.k a.lo.toNat a.hi.toNat a.s w b.k b.lo.toNat b.hi.toNat b.s (i:Int) G λr L=>r=ae (.int .i64 (bc a.rx b.rx))/\af A L:=by
   intro d;induction d with
   |zero=>
    intro i b2 w G ac ak j B;rw[du (by omega:a.l.length<=i)]at j;refine n8.dO _ _ _ _ _ _ _ _ _ _ _ _ _ (aP (aV co) (aE (λh=>⟨?_,B.fr⟩) (λh=>aE (λq=>?_) (λq=>⟨?_,B.fr⟩))))
    .rw [dw (by omega:i<b.l.length)]at j;rw[<-j];rfl
    .omega
    .rw [du (by omega:b.l.length<=i)]at j;rw[<-j];rfl
   |succ d al=>
    intro i b2 w G ac ak j B;have K:a.l[i]? =some (a.l[i]'co):=a' co;rw[dw (by omega:i<a.l.length)]at j;generalize a.l[i]'co=x at K j;have ar:=I.eH (aG K);refine n8.dO _ _ _ _ _ _ _ _ _ _ _ _ _ (aM (aQ co) (aE (λad=>⟨co,co,?_⟩) (λan=>aE (λh=>?_) (λh=>aE (λq=>⟨?_,B.fr⟩) (λq=>?_)))))
    .have Y:b.l[i]? =some (b.l[i]'co):=a' co;rw[dw (by omega:i<b.l.length)]at j;generalize b.l[i]'co=y at Y j;refine I.dy (show a.P G from B.getD 0).parts.1 K λp hp _=>B.ai λz C=>?_;have c:=I.again (show a.P z from C.getD 0).parts.1 K hp;refine⟨_,_,_,_,c.c0,c.c1,c.c2,c.c3,co,co,I.dy (show b.P z from C.getD 1).parts.1 Y λap hq S=>⟨_,_,_,_,S.c0,S.c1,S.c2,S.c3,C.aA (ih x y z co ((show a.P z from C.getD 0).parts.2.get K) ((show b.P z from C.getD 1).parts.2.get Y)) ?_⟩⟩;rintro _ T rfl D;have e2:cmpL (I.aw (x::a.l.drop (i+1))) (I.aw (y::b.l.drop (i+1)))=if bc x.rx y.rx≠0 then bc x.rx y.rx else cmpL (I.aw (a.l.drop (i+1))) (I.aw (b.l.drop (i+1))):=rfl;rw[e2]at j;refine⟨_,rfl,dA (λW=>⟨?_,D.fr⟩) (λW=>?_)⟩
     .rw [av W]at j;rw[j]
     .rw [ag (by simpa using W)]at j;rw[bb _ co];exact al (i+1) b2 w T co co j D
    .omega
    .rw [du (by omega:b.l.length<=i)]at j;rw[<-j];rfl
    .omega
  have U:∀(c:UInt8),ah .i64 (c.toNat:Int)=(c.toNat:Int):=λc=>aN _ (by have:=c.toNat_lt;omega);refine n8.aD _ _ _ _ _ _ _ _ A _ ((bN [.tree a,.tree b] (by
   intro e j;simp only[aq,aL,aR]at j;rcases j with rfl|rfl
   .exact pa
   .exact pb)).aK λb2 G H1=>H1.aK λw M H2=>H2.nw λz _ C=>C.nw λT _ D=>?_)
  have D:LH F0 A T [.g b2,.g w,.c M.heap.size [.int .i64 a.k,.int .i64 (ah .i64 (a.lo.toNat:Int)),.int .i64 (ah .i64 (a.hi.toNat:Int))] b',.c z.heap.size [.int .i64 b.k,.int .i64 (ah .i64 (b.lo.toNat:Int)),.int .i64 (ah .i64 (b.hi.toNat:Int))] b'] [.tree a,.tree b]:=D;rw[U,U,U,U]at D;have step:∀(i:Nat) (x y:Int) (N:J),i<3->([.int .i64 a.k,.int .i64 (a.lo.toNat:Int),.int .i64 (a.hi.toNat:Int)]:List aa)[i]? =some (.int .i64 x)->([.int .i64 b.k,.int .i64 (b.lo.toNat:Int),.int .i64 (b.hi.toNat:Int)]:List aa)[i]? =some (.int .i64 y)->
    LH F0 A N [.g b2,.g w,.c M.heap.size [.int .i64 a.k,.int .i64 (a.lo.toNat:Int),.int .i64 (a.hi.toNat:Int)] b',.c z.heap.size [.int .i64 b.k,.int .i64 (b.lo.toNat:Int),.int .i64 (b.hi.toNat:Int)] b'] [.tree a,.tree b]->
    (x<y->bc a.rx b.rx=-1)->(y<x->bc a.rx b.rx=1)->
    (¬x<y->¬y<x->∀O,LH F0 A O [.g b2,.g w,.c M.heap.size [.int .i64 a.k,.int .i64 (a.lo.toNat:Int),.int .i64 (a.hi.toNat:Int)] b',.c z.heap.size [.int .i64 b.k,.int .i64 (b.lo.toNat:Int),.int .i64 (b.hi.toNat:Int)] b'] [.tree a,.tree b]->n8.a8 b2 a.k a.lo.toNat a.hi.toNat a.s w b.k b.lo.toNat b.hi.toNat b.s ⟨some (ab M.heap.size),3,3⟩ ⟨some (ab z.heap.size),3,3⟩ ((i+1:Nat):Int) O λr L=>r=ae (.int .i64 (bc a.rx b.rx))/\af A L)->
    n8.a8 b2 a.k a.lo.toNat a.hi.toNat a.s w b.k b.lo.toNat b.hi.toNat b.s ⟨some (ab M.heap.size),3,3⟩ ⟨some (ab z.heap.size),3,3⟩ (i:Int) N λr L=>r=ae (.int .i64 (bc a.rx b.rx))/\af A L:=by
   intro i x y N ac hx hy B ad aj hk;have Q:(i:Int)<((3:Nat):Int):=co
   refine n8.bJ _ _ _ _ _ _ _ _ _ _ _ _ _ _ _ (aM (aQ co) ⟨co,Q,k8 (B.ai λO E=>⟨x,?_,co,Q,k8 ⟨y,?_,aE (λh=>⟨by rw[ad h],E.fr⟩) (λh=>⟨co,Q,k8 (E.ai λZ F=>⟨x,?_,co,Q,k8 ⟨y,?_,aE (λq=>⟨by rw[aj q],F.fr⟩) (λq=>?_)⟩⟩)⟩)⟩⟩)⟩)
   .rw [bo,Nat.mul_one];exact E.ld 2 i rfl hx
   .rw [bo,Nat.mul_one];exact E.ld 3 i rfl hy
   .rw [bo,Nat.mul_one];exact F.ld 2 i rfl hx
   .rw [bo,Nat.mul_one];exact F.ld 3 i rfl hy
   .rw [show ah .i64 ((i:Int)+1)=((i+1:Nat):Int)by rw[aN _ co];omega];exact hk h q Z F
  show n8.a8 _ _ _ _ _ _ _ _ _ _ _ _ ((0:Nat):Int) _ _;refine step 0 _ _ T co rfl rfl D (λh=>by rw[e,D3 _ h];rfl) (λh=>by rw[e,D2 _ h];rfl) (λH q N H5=>?_);rw[D0 _ H q]at e;refine step 1 _ _ N co rfl rfl H5 (λh=>by rw[e,D3 _ h];rfl) (λh=>by rw[e,D2 _ h];rfl) (λH q O E=>?_);rw[D0 _ H q]at e;refine step 2 _ _ O co rfl rfl E (λh=>by rw[e,D3 _ h];rfl) (λh=>by rw[e,D2 _ h];rfl) (λH q Z F=>?_);rw[D0 _ H q]at e;refine n8.bJ _ _ _ _ _ _ _ _ _ _ _ _ _ _ _ (aP rfl (am a.l.length 0 b2 w Z co co ?_ (F.take 2)));rw[e];rfl
def rP(a b:I)(w:J)(h:a.sz<=1000000)(d:a.P w)(j:b.P w):aj V FT #[a.v,b.v] w λr k=>r=ae (.int .i64 (bc a.rx b.rx))/\af w k:=JG 1000000 (bm _) a b w h d j
namespace uI
abbrev P0:Ps:=[(1,.l [.I,.Y,.Y,.s] aT),(3,.v [.I]),(4,.v [.I])]
noncomputable def a8:=bg (ay V Tryz.f146 [] [1]) [0,1,1,1,2] P0
noncomputable abbrev t1:=bf a8
noncomputable abbrev bW:=ak t1 [2,2,1,1,2] P0
noncomputable abbrev t2:=ao bW
def bJ:=bj t2 a8
def aD:=az t2 FU [.a 4,.I,.Y,.Y,.s]
end uI
namespace uJ
abbrev P0:Ps:=[]
noncomputable abbrev bD:=ak (ay V Tryz.f178 [(3,lr 30)] [1]) [0,1,1,1,3] P0
noncomputable abbrev t1:=ao bD
noncomputable abbrev bW:=ak t1 [0,1,1,1,4] P0
noncomputable abbrev t2:=ao bW
noncomputable def ly:=bg t2 [0,1,1,1,5] [(1,.l [.I,.Y,.Y,.s] aT),(5,.v [.I])]
noncomputable abbrev t3:=bf ly
def rA:=bj t3 ly
noncomputable abbrev cb:=ak t3 [5] [(1,.l [.I,.Y,.Y,.s] aT)]
noncomputable abbrev t4:=ao cb
def aD:=az t4 Oa [.a 4,.I,.Y,.Y,.s]
end uJ
namespace KO
def aD:=az (ay V Tryz.f147 [] [1]) N7 [.a 4,.I,.Y,.Y,.s]
end KO
abbrev Ww(n:Nat):Prop:=∀(x:I) (w:J),x.sz<=n->x.P w->aj V FU #[x.v] w λr d=>r=ae (.int .i64 (x.sz:Int))/\af w d
def Ji:∀n:Nat,n<=1000000->Ww n
 |0,_=>λh y A _=>absurd A (by have:=I.mO h;omega)
 |n+1,O=>λh y A C=>by
  have G:=Ji n co;have Q:=I.iI h;have N:=I.fR h.l;have S:=I.cH C.parts.1;have loop:∀(d i m q:Nat) (j:J),i+d=h.l.length->m+I.a7 (h.l.drop i)=h.sz->LH F0 y j [.g q] [.tree h]->uI.a8 q h.k h.lo.toNat h.hi.toNat h.s (m:Int) (i:Int) j λr K=>r=ae (.int .i64 (h.sz:Int))/\af y K:=by
   intro d;induction d with
   |zero=>
    intro i m q j F w x;rw[du co]at w;refine uI.bJ _ _ _ _ _ _ _ _ _ (aP (aV co) ⟨?_,x.fr⟩);have:m=h.sz:=w;rw[this]
   |succ d H=>
    intro i m q j F w x;have z:h.l[i]? =some (h.l[i]'co):=a' co;rw[dw co]at w;generalize h.l[i]'co=a at z w;have M:m+(a.sz+I.a7 (h.l.drop (i+1)))=h.sz:=w;have B:=aG z;have T:=I.eH B;refine uI.bJ _ _ _ _ _ _ _ _ _ (aM (aQ co) (iZ (show h.P j from x.getD 0) rfl z (x.aA (G a j co ((show h.P j from x.getD 0).parts.2.mem B)) ?_)));rintro _ L rfl E;refine⟨_,rfl,?_⟩;show uI.a8 _ _ _ _ _ _ _ _ _;rw[bb _ co,aN _ co];have e:((m:Int)+(a.sz:Int))=((m+a.sz:Nat):Int):=co
    rw[e];exact H (i+1) (m+a.sz) q L co co E
  exact uI.aD _ _ _ _ y _ ((g4 C).aK λq j D=>loop h.l.length 0 1 q j co (by rw[List.drop_zero];omega) D)
def DD(x:I)(w:J)(h:x.sz<=1000000)(d:x.P w):aj V FU #[x.v] w λr j=>r=ae (.int .i64 (x.sz:Int))/\af w j:=Ji 1000000 (bm _) x w h d
def An(k:Nat):Int:=if 6<=k then 1 else 0
def AF(k:Nat):Int:=if k<3 then 0 else if k<6 then 64 else 1
def abe{k:Nat}(h:k<8):([.i 0,.i 0,.i 0,.i 0,.i 0,.i 0,.i 1,.i 1]:List aa)[k]? =some (.i (An k)):=by
 have:k=0\/k=1\/k=2\/k=3\/k=4\/k=5\/k=6\/k=7:=co
 rcases this with rfl|rfl|rfl|rfl|rfl|rfl|rfl|rfl<;>rfl
def ab3{k:Nat}(h:k<8):([.i 0,.i 0,.i 0,.i 64,.i 64,.i 64,.i 1,.i 1]:List aa)[k]? =some (.i (AF k)):=by
 have:k=0\/k=1\/k=2\/k=3\/k=4\/k=5\/k=6\/k=7:=co
 rcases this with rfl|rfl|rfl|rfl|rfl|rfl|rfl|rfl<;>rfl
abbrev Wq(n:Nat):Prop:=∀(x:I) (w:J),x.sz<=n->x.P w->aj V Oa #[x.v] w λr d=>r=ae (.bool (db x.rx))/\af w d
def Jw:∀n:Nat,n<=64->Wq n
 |0,_=>λh E w _=>absurd w (by have:=I.mO h;omega)
 |n+1,hn=>λh E w px=>by
  have ih:=Jw n co;have hs:=I.iI h;have hl:=I.fR h.l;have nr:=I.cH px.parts.1;have S:(I.aw h.l).length=h.s.n:=by rw[I.fP];simp[nr]
  have ee:(I.aw h.l).isEmpty=au (h.s.n=0):=by rw[<-S,Bool.eq_iff_iff];simp
  have y:db h.rx=(!(h.k !=2&&(h.lo !=0||h.hi !=0))&&(if h.k=0\/h.k=1 then(I.aw h.l).isEmpty else if h.k=2 then(I.aw h.l).isEmpty&&au (h.lo.toNat<=h.hi.toNat)else if h.k=3\/h.k=4\/h.k=5 then eo (I.aw h.l)else if h.k=6\/h.k=7 then(I.aw h.l).length==1&&eo (I.aw h.l)else false)):=by rw[I.fx];unfold db;rfl
  rw[ee,S]at y;have z8:∀u:UInt8,(u !=0)=au (u.toNat≠0):=λu=>by rw[Bool.eq_iff_iff];simp only[bne_iff_ne,ne_eq,decide_eq_true_eq];exact not_congr ⟨λw=>by rw[w];rfl,λw=>UInt8.toNat_inj.1 (by simpa using w)⟩
  rw[z8,z8]at y;have bad:∀{j:Nat} {Y:J},db h.rx=false->LH F0 E Y [.g j,.c (0:Nat) [] b'] []->True:=λ_ _=>trivial
  let Z:aJ:=λr Y=>r=ae (.bool (db h.rx))/\af E Y
  have loop:db h.rx=eo (I.aw h.l)->∀(d i j:Nat) (q:J),i+d=h.l.length->eo (I.aw (h.l.drop i))=eo (I.aw h.l)->LH F0 E q [.g j] [.tree h]->uJ.ly j h.k h.lo.toNat h.hi.toNat h.s (i:Int) q Z:=by
   intro N d;induction d with
   |zero=>
    intro i j q ad G H;rw[du co]at G;refine uJ.rA _ _ _ _ _ _ _ _ (aP (aV co) ⟨?_,H.fr⟩);rw[N,<-G];rfl
   |succ d ak=>
    intro i j q ad G H;have W:h.l[i]? =some (h.l[i]'co):=a' co;rw[dw co]at G;generalize h.l[i]'co=a at W G;have ma:=aG W;have am:=I.eH ma;have T:(db a.rx&&eo (I.aw (h.l.drop (i+1))))=eo (I.aw h.l):=G;refine uJ.rA _ _ _ _ _ _ _ _ (aM (aQ co) (iZ (show h.P q from H.getD 0) rfl W (H.aA (ih a q co ((show h.P q from H.getD 0).parts.2.mem ma)) ?_)));rintro _ F rfl K;refine⟨_,rfl,dW (λU=>⟨?_,K.fr⟩) (λht=>?_)⟩
    .rw [N,<-T,U];rfl
    .rw [bb _ co];rw[ht,Bool.true_and]at T;exact ak (i+1) j F co T K
  refine uJ.aD _ _ _ _ E _ ((g4 px).aK λj q H1=>H1.nw λF _ K=>K.nw λw3 _ O=>?_);have no:∀Y:J,LH F0 E Y [.g j,.c q.heap.size [.i 0,.i 0,.i 0,.i 64,.i 64,.i 64,.i 1,.i 1] b',.c F.heap.size [.i 0,.i 0,.i 0,.i 0,.i 0,.i 0,.i 1,.i 1] b'] [.tree h]->db h.rx=false->(Ending.returned (.bool false)=ae (.bool (db h.rx))/\af E Y):=λY H' U=>⟨by rw[U],H'.fr⟩;refine aE (λk0=>LH.ai O (λA x=>no A x ?_) ws) (λk0=>aE (λk7=>LH.ai O (λA x=>no A x ?_) ws) (λk7=>?_))
  .rw [y,ag co,ag co,ag co,ag co,Bool.and_false]
  .rw [y,ag co,ag co,ag co,ag co,Bool.and_false]
  obtain⟨B,hk⟩:=Int.eq_ofNat_of_zero_le (by omega:0<=h.k);have aa:B<8:=co
  refine⟨co,by show h.k<((8:Nat):Int);omega,(show dV (some (nb F)) _ from LH.ai O (λA x=>⟨An B,?_,?_⟩) ws)⟩
  .have:=LH.ld (L:=[.g j,.c q.heap.size [.i 0,.i 0,.i 0,.i 64,.i 64,.i 64,.i 1,.i 1] b',.c F.heap.size [.i 0,.i 0,.i 0,.i 0,.i 0,.i 0,.i 1,.i 1] b']) x 2 B rfl (abe aa);rw[hk,bo,Nat.mul_one];exact this
  refine aE (λD=>no A x ?_) (λD=>⟨co,by show h.k<((8:Nat):Int);omega,(show dV (some (nb q)) _ from⟨AF B,?_,?_⟩)⟩)
  .unfold An at D;rw[y,ag (by split at D<;>omega),ag (by split at D<;>omega),ag (by split at D<;>omega)];split
   .rename_i al;have:(h.s.n==1)=false:=by rw[beq_eq_false_iff_ne];split at D<;>omega
    rw[this];simp
   .simp
  .have:=LH.ld (L:=[.g j,.c q.heap.size [.i 0,.i 0,.i 0,.i 64,.i 64,.i 64,.i 1,.i 1] b',.c F.heap.size [.i 0,.i 0,.i 0,.i 0,.i 0,.i 0,.i 1,.i 1] b']) x 1 B rfl (ab3 aa);rw[hk,bo,Nat.mul_one];exact this
  refine aE (λC=>no A x ?_) (λC=>?_)
  .unfold AF at C;by_cases z:B<3
   .rw [av z]at C;have aj:au (h.s.n=0)=false:=aV co;rw[y,aj];split
    .simp
    .split
     .simp
     .omega
   .rw [ag z]at C;by_cases k5:B<6
    .rw [av k5]at C;omega
    .rw [ag k5]at C;have:(h.s.n==1)=false:=by rw[beq_eq_false_iff_ne];omega
     rw[y,this,ag co,ag co,ag co,av co];simp
  have M:(B<3->h.s.n=0)/\(6<=B->h.s.n=1):=by
   unfold An at D;unfold AF at C;refine⟨λw=>?_,λw=>?_⟩
   .rw [av w]at C;omega
   .rw [av w]at D;rw[ag co,ag co]at C;omega
  have H5:LH F0 E A [.g j] [.tree h]:=LH.take (L:=[.g j,.c q.heap.size [.i 0,.i 0,.i 0,.i 64,.i 64,.i 64,.i 1,.i 1] b',.c F.heap.size [.i 0,.i 0,.i 0,.i 0,.i 0,.i 0,.i 1,.i 1] b']) x 1;have ab:B<3->eo (I.aw h.l)=true:=λw=>by
   have h0:(I.aw h.l).length=0:=by rw[S,M.1 w]
   rw[List.length_eq_zero_iff.1 h0];rfl
  have go:db h.rx=eo (I.aw h.l)->uJ.cb j h.k h.lo.toNat h.hi.toNat h.s A Z:=λN=>loop N h.l.length 0 j A co ws H5;refine aE (λah=>no A x ?_) (λah=>dA (λz=>aE (λac=>no A x ?_) (λac=>go ?_)) (λz=>go ?_))
  .rw [y];by_cases z:h.k=2
   .rw [ag co,av z,aV (show ¬h.lo.toNat<=h.hi.toNat by omega)];simp
   .have:(h.k !=2&&(au (h.lo.toNat≠0)||au (h.hi.toNat≠0)))=true:=by rw[aQ (show h.lo.toNat≠0 by omega)];simp[z]
    rw[this];rfl
  .have:(h.k !=2&&(au (h.lo.toNat≠0)||au (h.hi.toNat≠0)))=true:=by rw[aQ (show h.hi.toNat≠0 by omega)];simp[z]
   rw[y,this];rfl
  .have Q:(h.k !=2&&(au (h.lo.toNat≠0)||au (h.hi.toNat≠0)))=false:=by rw[aV (show ¬h.lo.toNat≠0 by omega),aV (show ¬h.hi.toNat≠0 by omega)];simp
   rw[y,Q];by_cases c1:h.k=0\/h.k=1
   .rw [av c1,ab co,aQ (M.1 co)];rfl
   .rw [ag c1,ag z];by_cases c3:h.k=3\/h.k=4\/h.k=5
    .rw [av c3];simp
    .rw [ag c3,av co,M.2 co];simp
  .have Q:(h.k !=2&&(au (h.lo.toNat≠0)||au (h.hi.toNat≠0)))=false:=by rw[z];rfl
   rw[y,Q,ag co,av z,ab co,aQ (M.1 co),aQ (show h.lo.toNat<=h.hi.toNat by omega)];rfl
def YA(x:I)(w:J)(h:x.sz<=1000000)(z:x.P w):aj V N7 #[x.v] w λr A=>r=ae (.int .i64 (kB x.rx))/\af w A:=by
 refine KO.aD _ _ _ _ w _ ((g4 z).aK λD B k=>k.aA (DD x B h (k.getD 0)) ?_);rintro _ C rfl d;refine⟨_,rfl,aE (λy=>⟨?_,d.fr⟩) (λy=>d.aA (Jw 64 (bm _) x C co (d.getD 0)) ?_)⟩
 .unfold kB;rw[I.eU,av co]
 rintro _ E rfl q;refine⟨_,rfl,dW (λj=>⟨?_,q.fr⟩) (λj=>⟨?_,q.fr⟩)⟩
 .unfold kB;rw[I.eU,ag co,j];rfl
 .unfold kB;rw[I.eU,ag co,j];rfl
def Im{x:Rx}(h:kB x=0):db x=true/\x.sz<=64:=by
 unfold kB at h;split at h
 .cases h
 .split at h
  .rename_i d;exact⟨d,co⟩
  .cases h
def L8:∀{l:List Rx} {a:Rx},eo l=true->a∈l->db a=true
 |b::l,a,j,h=>by
  have d:(db b&&eo l)=true:=j;rw[bH]at d;rcases aq.1 h with rfl|h
  .exact d.1
  .exact L8 d.2 h
namespace KL
def aD:=az (ay V Tryz.f81 [] [0]) pg []
end KL
namespace qk
abbrev P0:Ps:=[(0,.v [.s]),(3,.l [.I,.Y,.Y,.s] aT),(5,.v [.I])]
noncomputable def a8:=bg (ay V Tryz.f140 [(2,lr 13),(4,lr 13),(7,(.sq [0,1,2,3,5] (.fork (ls [4,6,7,8]) (ls [6,4,7,8]))))] [3]) [0,2,2] P0
noncomputable abbrev t1:=bf a8
noncomputable abbrev cX:=ak t1 [6] [(0,.v [.s]),(5,.v [.I]),(6,.v [.s])]
noncomputable abbrev t2:=ao cX
noncomputable abbrev cb:=ak t2 [4] P0
noncomputable abbrev t3:=ao cb
noncomputable abbrev bW:=ak t3 [3] P0
noncomputable abbrev t4:=ao bW
def bJ:=bj t4 a8
def aD:=az t4 Og [.s,.a 4,.I,.Y,.Y,.s]
end qk
namespace iA
noncomputable abbrev bD:=ak (ay V Tryz.f111 [(9,lr 13),(25,lr 7),(27,lr 7)] [4,5,8,9]) [0,1,1,1,1,1,1,1,3] [(1,.v [.s]),(4,.l [.I,.Y,.Y,.s] aT)]
noncomputable abbrev t1:=ao bD
abbrev P0:Ps:=[(0,.v [.I]),(1,.v [.s]),(4,.l [.I,.Y,.Y,.s] aT),(5,.l [.I,.Y,.Y,.s] aT),(6,.v [.s]),(7,.v [.I])]
noncomputable def cv:=bg t1 [0,1,1,1,5] P0
noncomputable abbrev t2:=bf cv
noncomputable abbrev cb:=ak t2 [2,2,1,1,5] P0
noncomputable abbrev t3:=ao cb
abbrev P1:Ps:=[(0,.v [.I]),(4,.l [.I,.Y,.Y,.s] aT),(6,.v [.s]),(8,.l [.I,.Y,.Y,.s] aT),(9,.l [.I,.Y,.Y,.s] aT),(10,.v [.s]),(11,.v [.I])]
noncomputable def ly:=bg t3 [0,1,1,1,9] P1
noncomputable abbrev t4:=bf ly
noncomputable abbrev fU:=ak t4 [2,2,1,1,9] P1
noncomputable abbrev t5:=ao fU
def rA:=bj t5 ly
def dO:=bj t5 cv
def aD:=az t5 Od [.I,.s]
end iA
namespace xv
noncomputable def a8:=bg (ay V Tryz.f83 [] [1,2]) [0,1,1,1,3] [(1,.l [.I,.Y,.Y,.s] aT),(2,.l [.I,.Y,.Y,.s] aT),(3,.v [.s]),(4,.v [.I])]
noncomputable abbrev t1:=bf a8
def bJ:=bj t1 a8
def aD:=az t1 x3 [.a 4,.I,.Y,.Y,.s]
end xv
namespace KR
def aD:=az (ay V Tryz.f148 [] [1,2]) N' [.a 4,.I,.Y,.Y,.s]
end KR
namespace KM
def aD:=az (ay V Tryz.f116 [] [1,2]) N3 [.a 4,.I,.Y,.Y,.s]
end KM
end Go.Proofs.YtnaglpcbkhjpnaaGreatDoor
