import Derived.Test.YthhmdddomhknaaaGreatDoorU
import Derived.Test.YthhmdddomhknaaaGreatDoorW
set_option linter.unusedVariables false
set_option linter.defProp false
set_option maxRecDepth 100000
namespace Go.Proofs.YthhmdddomhknaaaGreatDoor
open Go renaming World->J,Calls->ai,Program->aE,Value->aa,TypeId->aC,Ending->ch
open Go.IntKind renaming wrap->aj
open _root_.Int renaming toNat->aV,toNat_natCast->bH
open Go.IntWalk renaming i64_in->aQ
open _root_.Bool renaming and_eq_true->bq,not_eq_true->iR
open _root_.Nat renaming le_refl->bm,le_trans->a6,zero_le->dv,mul_le_mul_right->oG,beq_eq->ep
open _root_.Prod.mk renaming injEq->eC
open _root_.Option.some renaming inj->fe,injEq->eI
open _root_.Array renaming replicate->g'
open Go.Proofs.Tryz renaming prog->Y
open _root_.Decidable renaming decide->ak
open Go.Ending renaming returned->ae
open List renaming mem_append->aY,mem_cons->au,not_mem_nil->aO,mem_of_getElem?->aD,getElem?_eq_getElem->a4,getElem?_eq_some_iff->cz,mem_append_left->bK,mem_append_right->dV,mem_flatMap->bS,mem_map->bZ,length_cons->dE,append_assoc->cp,length_take->gJ,flatMap_append->dt,flatMap_cons->cV,mem_iff_getElem?->g7,mem_cons_of_mem->e8,mem_cons_self->kf,take_append_drop->lO,drop_eq_getElem_cons->dz,take_add_one->eA,map_cons->lM,drop_drop->pf,getElem?_set_self->jF,drop_of_length_le->cU,take_of_length_le->fQ
open Go Go.W
def D'{st:RS}(h:(eS st).2.err=0):st.err=0/\st.U=dT (eS st).1++(eS st).2.U:=by
 unfold eS at h ⊢;by_cases d:st.err≠0
 .rw [aq d]at h;exact absurd h d
 .rw [af d]at h ⊢;refine⟨by simpa using d,?_⟩;cases e:iJ 0 st.U with
  |more=>rw[e]at h;cases h
  |form=>rw[e]at h;cases h
  |ok n r=>exact(xL 9 0 _ _ _ rfl e).1
def kU{st:RS}(h:(a3 st).2.err=0):st.err=0/\st.U=bt (a3 st).1++(a3 st).2.U:=by have:=D' (st:=st) h;unfold a3 bt;simp only[abA];exact this
def OE{st:RS}(h:(hV st).2.err=0):st.err=0/\st.U=dT (hV st).1++(hV st).2.U/\(hV st).1<=(hV st).2.U.length:=by
 unfold hV at h ⊢;by_cases d:(eS st).2.err≠0
 .simp only[aq d]at h;exact absurd h d
 .simp only[af d]at h ⊢;by_cases e:(eS st).2.U.length<(eS st).1
  .simp only[aq e]at h;cases h
  .simp only[af e]at h ⊢;have:=D' h;exact⟨this.1,this.2,by omega⟩
def y9{st:RS}(h:(bX st).2.err=0):st.err=0/\st.U=df (bX st).1++(bX st).2.U:=by
 unfold bX at h ⊢;by_cases d:(hV st).2.err≠0
 .simp only[aq d]at h;exact absurd h d
 .simp only[af d]at h ⊢;obtain⟨e,j,k⟩:=OE (st:=st) (by simpa using d);refine⟨e,?_⟩;unfold df;rw[gJ,Nat.min_eq_left k,cp,lO];exact j
def OH:∀(n:Nat) (st:RS),(eQ n st).2.err=0->st.err=0/\st.U=(eQ n st).1.flatMap bt++(eQ n st).2.U/\(eQ n st).1.length=n
 |0,st,d=>⟨d,rfl,rfl⟩
 |n+1,st,d=>by
  simp only[eQ]at d ⊢;by_cases h:(a3 st).2.err≠0
  .simp only[aq h]at d;exact absurd d h
  .simp only[af h]at d ⊢;by_cases e:(eQ n (a3 st).2).2.err≠0
   .simp only[aq e]at d;exact absurd d e
   .simp only[af e]at d ⊢;obtain⟨j,k,q⟩:=OH n _ d;obtain⟨w,x⟩:=kU (st:=st) j;refine⟨w,?_,by simp[q]⟩;rw[cV,cp,<-k];exact x
def th{st:RS}(h:(cI st).2.err=0):st.err=0/\st.U=cH (cI st).1++(cI st).2.U:=by
 unfold cI at h ⊢;by_cases d:(hV st).2.err≠0
 .simp only[aq d]at h;exact absurd h d
 .simp only[af d]at h ⊢;obtain⟨k,q,x⟩:=OE (st:=st) (by simpa using d);obtain⟨w,e,j⟩:=OH _ _ h;refine⟨k,?_⟩;unfold cH;rw[j,cp,<-e];exact q
def OG(st:RS):(hV st).1<=st.U.length/\(hV st).2.U.length<=st.U.length:=by
 have d:=za (st:=st) (bm _);unfold hV;by_cases e:(eS st).2.err≠0
 .simp only[aq e];exact⟨dv _,d⟩
 .simp only[af e];by_cases h:(eS st).2.U.length<(eS st).1
  .simp only[aq h];exact⟨dv _,d⟩
  .simp only[af h];exact⟨by omega,d⟩
def OJ:∀(n:Nat) (st:RS),(eQ n st).1.length<=n/\∀e∈(eQ n st).1,a7 e
 |0,st=>⟨bm _,by simp[eQ]⟩
 |n+1,st=>by
  simp only[eQ];by_cases j:(a3 st).2.err≠0
  .simp only[aq j];exact⟨by simp,by simp⟩
  .simp only[af j];by_cases h:(eQ n (a3 st).2).2.err≠0
   .simp only[aq h];exact⟨by simp,by simp⟩
   .simp only[af h];have k:=OJ n (a3 st).2;refine⟨by simp;exact k.1,λe d=>?_⟩;rcases au.1 d with rfl|d
    .exact Rv _ (tm st)
    .exact k.2 e d
end Go.Proofs.YthhmdddomhknaaaGreatDoor
namespace Go.W
open Go renaming World->J,Calls->ai,Program->aE,Value->aa,TypeId->aC,Ending->ch
open Go.IntKind renaming wrap->aj
open _root_.Int renaming toNat->aV,toNat_natCast->bH
open Go.IntWalk renaming i64_in->aQ
open _root_.Bool renaming and_eq_true->bq,not_eq_true->iR
open _root_.Nat renaming le_refl->bm,le_trans->a6,zero_le->dv,mul_le_mul_right->oG,beq_eq->ep
open _root_.Prod.mk renaming injEq->eC
open _root_.Option.some renaming inj->fe,injEq->eI
open _root_.Array renaming replicate->g'
open Go.Proofs.Tryz renaming prog->Y
open _root_.Decidable renaming decide->ak
open Go.Ending renaming returned->ae
open List renaming mem_append->aY,mem_cons->au,not_mem_nil->aO,mem_of_getElem?->aD,getElem?_eq_getElem->a4,getElem?_eq_some_iff->cz,mem_append_left->bK,mem_append_right->dV,mem_flatMap->bS,mem_map->bZ,length_cons->dE,append_assoc->cp,length_take->gJ,flatMap_append->dt,flatMap_cons->cV,mem_iff_getElem?->g7,mem_cons_of_mem->e8,mem_cons_self->kf,take_append_drop->lO,drop_eq_getElem_cons->dz,take_add_one->eA,map_cons->lM,drop_drop->pf,getElem?_set_self->jF,drop_of_length_le->cU,take_of_length_le->fQ
def yZ{w:J}{e:aC}{sz:Nat}{s:Sl}{vs:List aa}(h:aK w e sz s vs)(i:Nat)(V:i<vs.length)(v:aa):
  ∃p,s.a=some p/\p.block∈ax s/\(w.cell? (p.add i)).isSome=true/\w.frozen? (p.add i)=false/\aK (w.setCell (p.add i) v) e sz s (vs.set i v)/\Fr (·∈ax s) w (w.setCell (p.add i) v):=by
 have B:=h.len;rcases h.cases with⟨rfl,rfl⟩|⟨g,cur,d,j,k,x,y,z⟩
 .simp at V
 .have C:s.n *sz<=s.c *sz:=oG _ k;have A:i<cur.size:=by omega
  have q:g∈ax s:=by simp[ax,d]
  refine⟨⟨g,0,none⟩,d,q,?_,frozenAt (p:=⟨g,0,none⟩) j,?_,Fr.set _ _ _ (by rw[iX];exact q)⟩
  .rw [cellAt (p:=⟨g,0,none⟩) (v:=cur[i]) j rfl (by simp[A])];rfl
  .refine ⟨by simpa using h.1,.inr ⟨g,s.c,cur.setIfInBounds i v,?_,dv _,?_,k,x,by simpa using y,?_⟩⟩
   .obtain ⟨a,n,c⟩:=s;simp only at d;subst d;rfl
   .have:=setAt (p:=⟨g,0,none⟩) (i:=i) (v:=v) j rfl;simpa using this
   .rw [Array.toList_setIfInBounds,List.take_set,z]
section
variable {M:Nat->Prop} {w0 w:J} {L D:List En} {U:List Nat}
def LH.x8(H:LH M w0 w L D){i:Nat}{e:aC}{sz:Nat}{s:Sl}{xs:List aa}(V:L[i]? =some (.row e sz s xs)){b:Nat}(y:En.g b∈L):b∉ax s:=λk=>by
 obtain⟨A,d⟩:=g7.1 y;by_cases j:i=A
 .subst j;rw[V]at d;have q:En.row e sz s xs=En.g b:=fe d;have x:(En.row e sz s xs).P=(En.g b).P:=by rw[q]
  have h:(En.g b).P ({w with heap:=g' (b+1) (.map #[] 0)}):=by show b<_;simp
  rw[<-x]at h;obtain⟨B,f,z⟩:=(aK.row (show aK ({w with heap:=g' (b+1) (.map #[] 0)}) e sz s xs from h)).tW b k;simp at z
 .exact mf H.nd V d j b k (by simp[En.g])
def LH.ou(H:LH M w0 w L D)(i a c:Nat){e:aC}{sz:Nat}{s:Sl}{xs:List aa}{v:aa}{p:Addr}{K:J->Prop}(V:L[i]? =some (.row e sz s xs))(A:s.a=some p)(y:a+c<xs.length)(x:∀j,LH M w0 j (L.set i (.row e sz s (xs.set (a+c) v))) D->K j)(bp:∀b∈U,En.g b∈L:=by simp):aP w ((p.add a).add c) v λk=>kept U w k/\K k:=by obtain⟨G,h,F,B,C,E,q⟩:=yZ (H.get i V) (a+c) y v;rw[A]at h;cases h;rw[add_add];refine⟨B,C,λb d=>?_,x _ (H.gv i (.row e sz s (xs.set (a+c) v)) V q E (λb d=>.inl d))⟩;exact q.cb b (H.own _ (bp b d)) λz=>H.x8 V (bp b d) z
end
def iQ:List Bool->List En->List En
 |true::m,a::l=>a::iQ m l
 |false::m,_::l=>iQ m l
 |_,_=>[]
def tD:∀(m:List Bool) (l:List En),(iQ m l).Sublist l
 |[],l=>by unfold iQ;exact List.nil_sublist _
 |true::m,[]=>by unfold iQ;exact List.nil_sublist _
 |false::m,[]=>by unfold iQ;exact List.nil_sublist _
 |true::m,a::l=>by unfold iQ;exact(tD m l).cons_cons a
 |false::m,a::l=>by unfold iQ;exact(tD m l).cons a
def aaE{α β:Type}{f:α->List β}{l m:List α}(h:l.Sublist m):(l.flatMap f).Sublist (m.flatMap f):=by
 induction h with
 |slnil=>exact List.Sublist.refl _
 |cons a _ d=>rw[cV];exact d.trans (List.sublist_append_right _ _)
 |cons_cons a _ d=>rw[cV,cV];exact(List.Sublist.refl _).append d
def LH.iQ{M:Nat->Prop}{w0 w:J}{L D:List En}(H:LH M w0 w L D)(m:List Bool):LH M w0 w (iQ m L) D:=
 ⟨H.fr,λd e=>H.own d ((tD m L).subset e),H.rd,λd e=>H.new d ((tD m L).subset e),(aaE (tD m L)).nodup H.nd,λd e b j h k=>H.dj d e b j h ((tD m L).subset k)⟩
def gU{s:Sl}{vs:List aa}{n:Nat}(h:∀b∈ax s,n<=b):∀b∈(En.rd s vs).fp,n<=b:=λb d=>by
 have:b∈(if vs=[]then[]else ax s):=d;split at this
 .cases this
 .exact h b this
def nY{M:Nat->Prop}{w0 w:J}{L D:List En}(H:LH M w0 w L D){i:Nat}{e:En}(V:L[i]? =some e)(x:∀(b:Nat),¬e.P ({w with heap:=g' (b+1) (.map #[] 0)})){b:Nat}(k:En.g b∈L):b∉e.fp:=by
 obtain⟨y,d⟩:=g7.1 k;by_cases h:i=y
 .subst h;rw[V]at d;have j:e=En.g b:=fe d;exfalso;refine x b ?_;rw[j];show b<_;simp
 .intro q;exact mf H.nd V d h b q (by simp[En.g])
section
variable {M:Nat->Prop} {w0 w:J} {L D:List En} {U:List Nat}
def LH.q5(H:LH M w0 w L D)(i j:Nat){e:aC}{sz:Nat}{s:Sl}{xs:List aa}{v:aa}{p:Addr}{K:J->Prop}(V:L[i]? =some (.row e sz s xs))(B:s.a=some p)(z:j<xs.length)(y:∀k,LH M w0 k (L.set i (.row e sz s (xs.set j v))) D->K k)(bp:∀b∈U,En.g b∈L:=by simp):aP w (p.add j) v λq=>kept U w q/\K q:=by obtain⟨I,h,G,C,E,F,x⟩:=yZ (H.get i V) j z v;rw[B]at h;cases h;refine⟨C,E,λb d=>?_,y _ (H.gv i (.row e sz s (xs.set j v)) V x F (λb d=>.inl d))⟩;exact x.cb b (H.own _ (bp b d)) λA=>H.x8 V (bp b d) A
end
def qS{p:Addr}{K:Addr->Prop}(h:K p):dM (some p) K:=h
end Go.W
namespace Go.Proofs.YthhmdddomhknaaaGreatDoor
open Go renaming World->J,Calls->ai,Program->aE,Value->aa,TypeId->aC,Ending->ch
open Go.IntKind renaming wrap->aj
open _root_.Int renaming toNat->aV,toNat_natCast->bH
open Go.IntWalk renaming i64_in->aQ
open _root_.Bool renaming and_eq_true->bq,not_eq_true->iR
open _root_.Nat renaming le_refl->bm,le_trans->a6,zero_le->dv,mul_le_mul_right->oG,beq_eq->ep
open _root_.Prod.mk renaming injEq->eC
open _root_.Option.some renaming inj->fe,injEq->eI
open _root_.Array renaming replicate->g'
open Go.Proofs.Tryz renaming prog->Y
open _root_.Decidable renaming decide->ak
open Go.Ending renaming returned->ae
open List renaming mem_append->aY,mem_cons->au,not_mem_nil->aO,mem_of_getElem?->aD,getElem?_eq_getElem->a4,getElem?_eq_some_iff->cz,mem_append_left->bK,mem_append_right->dV,mem_flatMap->bS,mem_map->bZ,length_cons->dE,append_assoc->cp,length_take->gJ,flatMap_append->dt,flatMap_cons->cV,mem_iff_getElem?->g7,mem_cons_of_mem->e8,mem_cons_self->kf,take_append_drop->lO,drop_eq_getElem_cons->dz,take_add_one->eA,map_cons->lM,drop_drop->pf,getElem?_set_self->jF,drop_of_length_le->cU,take_of_length_le->fQ
open Go Go.W
def bI{w:J}(D:List En)(h:∀d∈D,d.P w):LH F0 w w [] D:=LH.start D h
inductive Rx where
 |mk (k:Int) (lo V:UInt8) (l:List Rx)
inductive I where
 |mk (k:Int) (lo V:UInt8) (s:Sl) (l:List I)
namespace I
def k:I->Int|.mk k _ _ _ _=>k
def lo:I->UInt8|.mk _ lo _ _ _=>lo
def V:I->UInt8|.mk _ _ V _ _=>V
def s:I->Sl|.mk _ _ _ s _=>s
def l:I->List I|.mk _ _ _ _ l=>l
mutual
def rx:I->Rx|.mk k lo V _ l=>.mk k lo V (ao l)
def ao:List I->List Rx
 |[]=>[]
 |t::l=>t.rx::ao l
end
mutual
def sz:I->Nat|.mk _ _ _ _ l=>1+a0 l
def a0:List I->Nat
 |[]=>0
 |t::l=>t.sz+a0 l
end
def c(t:I):List aa:=[.int .i64 t.k,.int .u8 (t.lo.toNat:Int),.int .u8 (t.V.toNat:Int),t.s.v]
abbrev v(t:I):aa:=.agg #[.int .i64 t.k,.int .u8 (t.lo.toNat:Int),.int .u8 (t.V.toNat:Int),t.s.v]
abbrev row(s:Sl)(l:List I):En:=.bd 4 s (l.flatMap c)
mutual
def P(w:J):I->Prop|.mk _ _ _ s l=>bx 4 w s (l.flatMap c)/\Ps w l
def Ps(w:J):List I->Prop
 |[]=>True
 |t::l=>P w t/\Ps w l
end
mutual
def fp:I->List Nat|.mk _ _ _ s l=>(row s l).fp++a8 l
def a8:List I->List Nat
 |[]=>[]
 |t::l=>fp t++a8 l
end
def jq(t:I):(c t).length=4:=rfl
def eW(l:List I):(l.flatMap c).length=l.length *4:=oX c 4 jq l
def cr{w:J}{s:Sl}{l:List I}(h:bx 4 w s (l.flatMap c)):s.n=l.length:=by have:=h.1;rw[eW]at this;omega
def fu:∀l:List I,ao l=l.map rx
 |[]=>rfl
 |t::l=>by unfold ao;rw[fu l];rfl
mutual
def cb{w w':J}:∀(t:I),(∀b∈t.fp,b<w.heap.size->w'.heap[b]? =w.heap[b]?)->P w t->P w' t
 |.mk k lo V s l,d,h=>by unfold fp at d;unfold P at h ⊢;exact⟨(row s l).st w w' (λb e=>d b (bK _ e)) h.1,keeps l (λb e=>d b (dV _ e)) h.2⟩
def keeps{w w':J}:∀(l:List I),(∀b∈a8 l,b<w.heap.size->w'.heap[b]? =w.heap[b]?)->Ps w l->Ps w' l
 |[],_,_=>by unfold Ps;trivial
 |t::l,d,h=>by unfold a8 at d;unfold Ps at h ⊢;exact⟨cb t (λb e=>d b (bK _ e)) h.1,keeps l (λb e=>d b (dV _ e)) h.2⟩
end
mutual
def lt{w:J}:∀(t:I),P w t->∀b∈t.fp,b<w.heap.size
 |.mk k lo V s l,e,b,d=>by
  unfold fp at d;unfold P at e;rcases aY.1 d with d|d
  .exact (row s l).lt w e.1 b d
  .exact CE l e.2 b d
def CE{w:J}:∀(l:List I),Ps w l->∀b∈a8 l,b<w.heap.size
 |[],_,b,d=>by unfold a8 at d;cases d
 |t::l,e,b,d=>by
  unfold a8 at d;unfold Ps at e;rcases aY.1 d with d|d
  .exact lt t e.1 b d
  .exact CE l e.2 b d
end
def P.br{w w':J}{t:I}(h:P w t)(f:ag w w'):P w' t:=cb t (λb _ d=>f.cb b d id) h
def Ps.br{w w':J}{l:List I}(h:Ps w l)(f:ag w w'):Ps w' l:=keeps l (λb _ d=>f.cb b d id) h
def Ps.get{w:J}:∀{l:List I},Ps w l->∀{i:Nat} {t:I},l[i]? =some t->P w t
 |[],_,i,t,d=>by simp at d
 |a::l,e,0,t,d=>by unfold Ps at e;simp at d;subst d;exact e.1
 |a::l,e,i+1,t,d=>by unfold Ps at e;exact Ps.get e.2 (by simpa using d)
def Ps.mem{w:J}{l:List I}(h:Ps w l){t:I}(d:t∈l):P w t:=by obtain⟨i,V⟩:=g7.1 d;exact h.get V
def ir{w:J}:∀{l:List I},(∀t∈l,P w t)->Ps w l
 |[],_=>by unfold Ps;trivial
 |t::l,d=>by unfold Ps;exact⟨d t (by simp),ir λh e=>d h (by simp[e])⟩
def bJ:∀{l:List I} {b:Nat},b∈a8 l↔∃t∈l,b∈t.fp
 |[],b=>by unfold a8;simp
 |t::l,b=>by unfold a8;rw[aY,bJ];simp
def eh:∀{l:List I} {t:I},t∈l->t.sz<=a0 l
 |a::l,t,d=>by
  unfold a0;rcases au.1 d with rfl|d
  .omega
  .have:=eh d;omega
def lS(t:I):1<=t.sz:=by cases t;unfold sz;omega
def fv:∀l:List I,l.length<=a0 l
 |[]=>by simp
 |t::l=>by have:=fv l;have:=lS t;unfold a0;simp only[dE];omega
def P.parts{w:J}{t:I}(h:P w t):bx 4 w t.s (t.l.flatMap c)/\Ps w t.l:=by cases t;unfold P at h;exact h
def gh{t:I}{b:Nat}:b∈t.fp↔b∈(row t.s t.l).fp\/b∈a8 t.l:=by cases t;unfold fp;exact aY
def hW(t:I):t.sz=1+a0 t.l:=by cases t;rfl
def e1(t:I):t.rx=.mk t.k t.lo t.V (ao t.l):=by cases t;rfl
structure fH(w:J)(p:Addr)(i:Nat)(t:I):Prop where
 c0:w.cell? ((p.add (i *4)).add 0)=some (.int .i64 t.k)
 c1:w.cell? ((p.add (i *4)).add 1)=some (.int .u8 (t.lo.toNat:Int))
 c2:w.cell? ((p.add (i *4)).add 2)=some (.int .u8 (t.V.toNat:Int))
 c3:w.cell? ((p.add (i *4)).add 3)=some t.s.v
def dd{w:J}{s:Sl}{l:List I}(h:bx 4 w s (l.flatMap c)){i:Nat}{t:I}(V:l[i]? =some t){K:Addr->Prop}(e:∀p,s.a=some p->fH w p i t->K p):dM s.a K:=
 eV.elem (f:=c) (sz:=4) jq (by omega) h.2.2 V λp j d=>e p j ⟨d 0 _ rfl,d 1 _ rfl,d 2 _ rfl,d 3 _ rfl⟩
def again{w:J}{s:Sl}{l:List I}(h:bx 4 w s (l.flatMap c)){i:Nat}{t:I}(V:l[i]? =some t){p:Addr}(y:s.a=some p):fH w p i t:=by have j:=dd h V (K:=λe=>∃k,s.a=some k/\fH w k i t) (λe d x=>⟨e,d,x⟩);rw[y]at j;obtain⟨e,d,q⟩:=j;cases d;exact q
end I
def _root_.Go.W.En.tree(t:I):En:=⟨jC t.fp,λh=>t.P h,λh k j e=>I.cb t (λb d=>j b (aM.2 d)) e,λh e b d=>I.lt t e b (aM.1 d),n9 _⟩
def _root_.Go.W.En.trees(l:List I):En:=⟨jC (I.a8 l),λh=>I.Ps h l,λh k j e=>I.keeps l (λb d=>j b (aM.2 d)) e,λh e b d=>I.CE l e b (aM.1 d),n9 _⟩
namespace Rx
def k:Rx->Int|.mk k _ _ _=>k
def lo:Rx->UInt8|.mk _ lo _ _=>lo
def V:Rx->UInt8|.mk _ _ V _=>V
def l:Rx->List Rx|.mk _ _ _ l=>l
mutual
def sz:Rx->Nat|.mk _ _ _ l=>1+a0 l
def a0:List Rx->Nat
 |[]=>0
 |t::l=>t.sz+a0 l
end
end Rx
mutual
def I.eB:∀t:I,t.rx.sz=t.sz
 |.mk e lo d s l=>by unfold I.rx Rx.sz I.sz;rw[I.wu l]
def I.wu:∀l:List I,Rx.a0 (I.ao l)=I.a0 l
 |[]=>rfl
 |t::l=>by unfold I.ao Rx.a0 I.a0;rw[I.eB t,I.wu l]
end
set_option maxRecDepth 100000
set_option maxHeartbeats 2000000
namespace Bs
noncomputable abbrev t0:=az Y Tryz.f226 [] []
def ok:=aA t0 XQ [.I]
end Bs
namespace Br
noncomputable abbrev t0:=az Y Tryz.f227 [] []
def ok:=aA t0 XP [.Y]
end Br
namespace Hq
noncomputable abbrev t0:=az Y Tryz.f211 [] []
def ok:=aA t0 Kk [.I,.I]
end Hq
namespace Hp
noncomputable abbrev t0:=az Y Tryz.f212 [] []
def ok:=aA t0 Kj [.Y,.Y]
end Hp
namespace uU
noncomputable abbrev t0:=az Y Tryz.f210 [] []
noncomputable def L0:=bf t0 [0,1,1,1,2] [(3,.v [.I]),(6,.v [.s]),(7,.v [.I]),(8,.v [.I])]
noncomputable abbrev t1:=be L0
def bC:=bg t1 L0
def ok:=aA t1 CL [.s]
end uU
namespace OY
noncomputable abbrev t0:=az Y Tryz.f195 [(1,ls [0,1,2,3,5,6,7,8,10,11,12,13,4,9,14,15,16,17])] [2,3]
def aB:=aA t0 cd [.a 4,.I,.Y,.Y,.s,.a 4,.I,.Y,.Y,.s]
end OY
namespace wz
noncomputable abbrev t0:=az Y Tryz.f213 [] [8,9]
noncomputable def a2:=bf t0 [0,1,1,1,1] [(0,.v [.s]),(1,.v [.s]),(2,.v [.g cd 0 0]),(11,.v [.s]),(12,.v [.I]),(13,.v [.I])]
noncomputable abbrev t1:=be a2
def bw:=bg t1 a2
def aB:=aA t1 Mj [.s,.s,.g cd 0 0]
end wz
namespace O3
noncomputable abbrev t0:=az Y Tryz.f193 [] [2,3]
def aB:=aA t0 qH [.a 4,.I,.Y,.Y,.s,.a 4,.I,.Y,.Y,.s]
end O3
def cy(a b:Int):Int:=if a<b then -1 else if b<a then 1 else 0
def ef:List Int->Int
 |[]=>0
 |c::l=>if c≠0 then c else ef l
def Ua(a b:Int)(w:J):ai Y Kk #[.int .i64 a,.int .i64 b] w λr k=>r=ae (.int .i64 (cy a b))/\ag w k:=by
 refine Hq.ok _ _ w _ (Bs.ok _ _ _ ⟨_,rfl,Bs.ok _ _ _ ⟨_,rfl,?_⟩⟩);have h:(a !=a)=false:=by simp
 have j:(b !=b)=false:=by simp
 rw[h,j];refine aZ rfl (aZ rfl (aF (λd=>⟨?_,Fr.refl _ _⟩) (λd=>aF (λe=>⟨?_,Fr.refl _ _⟩) (λe=>⟨?_,Fr.refl _ _⟩))))
 .unfold cy;rw[aq d]
 .unfold cy;rw[af d,aq e]
 .unfold cy;rw[af d,af e]
def G4(a b:Int)(w:J):ai Y Kj #[.int .u8 a,.int .u8 b] w λr k=>r=ae (.int .i64 (cy a b))/\ag w k:=by
 refine Hp.ok _ _ w _ (Br.ok _ _ _ ⟨_,rfl,Br.ok _ _ _ ⟨_,rfl,?_⟩⟩);have h:(a !=a)=false:=by simp
 have j:(b !=b)=false:=by simp
 rw[h,j];refine aZ rfl (aZ rfl (aF (λd=>⟨?_,Fr.refl _ _⟩) (λd=>aF (λe=>⟨?_,Fr.refl _ _⟩) (λe=>⟨?_,Fr.refl _ _⟩))))
 .unfold cy;rw[aq d]
 .unfold cy;rw[af d,aq e]
 .unfold cy;rw[af d,af e]
def Yt{w:J}{s:Sl}{l:List Int}(h:bo w s l)(A:l.length<=1000000):ai Y CL #[s.v] w λr k=>r=ae (.int .i64 (ef l))/\ag w k:=by
 refine uU.ok _ w _ ?_;have B:=bo.len h;have loop:∀(d i:Nat),i+d=l.length->ef (l.drop i)=ef l->uU.L0 0 s ((s.n:Nat):Int) (i:Int) w λr k=>r=ae (.int .i64 (ef l))/\ag w k:=by
  intro d;induction d with
  |zero=>
   intro i x e;rw[cU (by omega)]at e;exact uU.bC _ _ _ _ _ _ (aZ (aW (by omega)) ⟨by rw[<-e];rfl,Fr.refl _ _⟩)
  |succ d z=>
   intro i x e;have q:l[i]? =some (l[i]'(by omega)):=a4 (by omega);rw[dz (by omega)]at e;generalize l[i]'(by omega)=c at q e;refine uU.bC _ _ _ _ _ _ (a1 (aS (by omega)) ⟨by omega,by omega,bo.cell h q (by simp) λp _ y=>⟨c,y,di (λj=>?_) (λj=>?_)⟩⟩)
   .refine ⟨?_,Fr.refl _ _⟩;rw[<-e];unfold ef;rw[aq j]
   .rw [bb _ (by omega)];refine z (i+1) (by omega) ?_;rw[<-e];conv=>rhs;unfold ef
    rw[af (by simpa using j)]
 exact loop l.length 0 (by omega) (by simp)
def Yg(w:J)(l:List Int)(n:Nat)(d:n=l.length):bo (w.alloc (.cells (l.map a').toArray bN)) ⟨some (ab w.heap.size),n,n⟩ l:=
 ⟨by simp[d],bm _,(Row.made w bN n n (l.map a')).r'⟩
section
variable {M:Nat->Prop} {w0 w:J} {L D:List En} {U:List Nat}
def _root_.Go.W.LH.or(H:LH M w0 w L D){l:List Int}{n:Nat}{K:aH}(k:n=l.length)(j:l.length<=1000000)(h:∀d,LH M w0 d L D->K (ae (.int .i64 (ef l))) d):
  c9 w (.cells (l.map a').toArray bN) λx=>ee U Y CL #[.slice (some (Addr.mk w.heap.size 0 none)) n n] x K:=
 (H.br (Fr.alloc _ _ _)).aw (Yt (s:=⟨some (ab w.heap.size),n,n⟩) (Yg w l n k) j) λ_ d q e=>q▸h d e
end
mutual
def a5:Rx->Rx->Int
 |.mk e lo d l,b=>if ef [cy e b.k,cy lo.toNat b.lo.toNat,cy d.toNat b.V.toNat]≠0 then ef [cy e b.k,cy lo.toNat b.lo.toNat,cy d.toNat b.V.toNat]else cmpL l b.l
def cmpL:List Rx->List Rx->Int
 |[],[]=>0
 |[],_::_=>-1
 |_::_,[]=>1
 |a::l,b::m=>if a5 a b≠0 then a5 a b else cmpL l m
end
abbrev FO(n:Nat):Prop:=∀(a b:I) (w:J),a.sz<=n->a.P w->b.P w->ai Y cd #[a.v,b.v] w λr d=>r=ae (.int .i64 (a5 a.rx b.rx))/\ag w d
def TB(n:Nat)(hn:n<=1000000)(T:FO n)(h lb:List I)(j k:Sl)(w:J)(G:bx 4 w j (h.flatMap I.c))(H:bx 4 w k (lb.flatMap I.c))(V:I.Ps w h)(W:I.Ps w lb)(hs:I.a0 h<=n):
  ai Y Mj #[j.v,k.v,.func (.func cd) #[] #[]] w λr E=>r=ae (.int .i64 (cmpL (I.ao h) (I.ao lb)))/\ag w E:=by
 have na:=I.cr G;have nb:=I.cr H;have hl:=I.fv h;have loop:∀(d i:Nat) (A:J),i+d=h.length->i<=lb.length->cmpL (I.ao (h.drop i)) (I.ao (lb.drop i))=cmpL (I.ao h) (I.ao lb)->LH F0 w A [] [I.row j h,I.row k lb,.trees h,.trees lb]->
   wz.a2 j k j ((j.n:Nat):Int) (i:Int) A λr E=>r=ae (.int .i64 (cmpL (I.ao h) (I.ao lb)))/\ag w E:=by
  intro d;induction d with
  |zero=>
   intro i A O P e q;rw[cU (by omega)]at e;refine wz.bw _ _ _ _ _ _ _ (aZ (aW (by omega)) (aF (λM=>⟨?_,q.fr⟩) (λM=>⟨?_,q.fr⟩)))
   .rw [dz (by omega)]at e;rw[<-e];rfl
   .rw [cU (by omega)]at e;rw[<-e];rfl
  |succ d U=>
   intro i A O P e q;have y:h[i]? =some (h[i]'(by omega)):=a4 (by omega);rw[dz (by omega)]at e;generalize h[i]'(by omega)=a at y e;refine wz.bw _ _ _ _ _ _ _ (a1 (aS (by omega)) ⟨by omega,by omega,?_⟩);refine I.dd (q.getD 0) y λp hp c=>⟨_,_,_,_,c.c0,c.c1,c.c2,c.c3,q.aG λb8 w2 B=>aF (λN=>B.ah λZ x=>⟨?_,x.fr⟩) (λQ=>⟨by omega,by omega,?_⟩)⟩
   .have ab:((k.n:Nat):Int)<=(i:Int):=N;rw[cU (by omega:lb.length<=i)]at e;rw[<-e];rfl
   .have ac:¬((k.n:Nat):Int)<=(i:Int):=Q;have z:lb[i]? =some (lb[i]'(by omega)):=a4 (by omega);rw[dz (by omega:i<lb.length)]at e;generalize lb[i]'(by omega)=b at z e;refine I.dd (B.getD 1) z λad S _=>B.ah λZ x=>?_;have c:=I.again (x.getD 1) z S;refine⟨_,_,_,_,c.c0,c.c1,c.c2,c.c3,x.aG λb9 w4 K=>K.ah λw5 C=>?_⟩;have aj:=I.eh (aD y);refine C.aw (T a b w5 (by omega) (I.Ps.get (C.getD 2) y) (I.Ps.get (C.getD 3) z)) ?_;rintro _ w6 rfl F;have L:cmpL (I.ao (a::h.drop (i+1))) (I.ao (b::lb.drop (i+1)))=if a5 a.rx b.rx≠0 then a5 a.rx b.rx else cmpL (I.ao (h.drop (i+1))) (I.ao (lb.drop (i+1))):=rfl;rw[L]at e;refine⟨_,rfl,di (λD=>⟨?_,F.fr⟩) (λD=>?_)⟩
    .rw [aq D]at e;rw[e]
    .rw [af (by simpa using D)]at e;rw[bb _ (by omega)];exact U (i+1) w6 (by omega) (by omega) e (F.take 0)
 exact wz.aB _ _ w _ (loop h.length 0 w (by omega) (by omega) (by simp) (bI _ (by
  intro aa e;simp only[au,aO,aR]at e;rcases e with rfl|rfl|rfl|rfl
  .exact G
  .exact H
  .exact V
  .exact W)))
def Gu:∀n:Nat,n<=1000000->FO n
 |0,_=>λa b B q _ _=>absurd q (by have:=I.lS a;omega)
 |n+1,W=>λa b B q x z=>by
  have L:=Gu n (by omega);have Z:=I.hW a;have T:=x.parts;have U:=z.parts;refine OY.aB _ _ _ _ _ _ _ _ B _ ((bI [.tree a,.tree b] (by
   intro e w;simp only[au,aO,aR]at w;rcases w with rfl|rfl
   .exact x
   .exact z)).aG λQ w1 C=>C.aG λS w2 D=>D.ah λM E=>E.aw (Ua _ _ M) ?_)
  rintro _ N rfl F;refine⟨_,rfl,F.aw (G4 _ _ N) ?_⟩;rintro _ O rfl G;refine⟨_,rfl,G.aw (G4 _ _ O) ?_⟩;rintro _ w6 rfl H;refine⟨_,rfl,H.or (l:=[cy a.k b.k,cy a.lo.toNat b.lo.toNat,cy a.V.toNat b.V.toNat]) rfl (by simp) λj d=>?_⟩;have e:a5 a.rx b.rx=if ef [cy a.k b.k,cy a.lo.toNat b.lo.toNat,cy a.V.toNat b.V.toNat]≠0 then ef [cy a.k b.k,cy a.lo.toNat b.lo.toNat,cy a.V.toNat b.V.toNat]else cmpL (I.ao a.l) (I.ao b.l):=by rw[I.e1 a,I.e1 b];unfold a5;rfl
  refine⟨_,rfl,di (λh=>⟨?_,d.fr⟩) (λh=>?_)⟩
  .rw [e,aq h]
  .have y:a.P j:=d.getD 0;have A:b.P j:=d.getD 1;refine d.aw (TB n (by omega) L a.l b.l a.s b.s j y.parts.1 A.parts.1 y.parts.2 A.parts.2 (by omega)) ?_;rintro _ w8 rfl K;refine⟨_,rfl,?_,K.fr⟩;rw[e,af (by simpa using h)]
def xz(a b:I)(w:J)(h:a.sz<=1000000)(d:a.P w)(e:b.P w):ai Y cd #[a.v,b.v] w λr j=>r=ae (.int .i64 (a5 a.rx b.rx))/\ag w j:=Gu 1000000 (bm _) a b w h d e
def uM(a b:I)(w:J)(h:a.sz<=1000000)(q:a.P w)(x:b.P w):ai Y qH #[a.v,b.v] w λr y=>r=ae (.bool (a5 a.rx b.rx==0))/\ag w y:=by
 refine O3.aB _ _ _ _ _ _ _ _ w _ ((bI [.tree a,.tree b] (by
  intro C e;simp only[au,aO,aR]at e;rcases e with rfl|rfl
  .exact q
  .exact x)).aG λA D j=>j.aG λB z d=>d.aw (xz a b z h (d.getD 0) (d.getD 1)) ?_)
 rintro _ E rfl k;exact⟨_,rfl,rfl,k.fr⟩
namespace wb
noncomputable abbrev t0:=az Y Tryz.f184 [] [2]
noncomputable def cm:=bf t0 [0,1,1,1,2] [(1,.v [.I]),(2,.l [.I,.Y,.Y,.s] aT),(5,.v [.I])]
noncomputable abbrev t1:=be cm
noncomputable abbrev bV:=av t1 [3] [(1,.v [.I])]
noncomputable abbrev t2:=ay bV
def dB:=bg t2 cm
noncomputable abbrev bn:=av t2 [2] [(1,.v [.I]),(2,.l [.I,.Y,.Y,.s] aT)]
noncomputable abbrev t3:=ay bn
def aB:=aA t3 L3 [.a 4,.I,.Y,.Y,.s,.I]
end wb
namespace Pm
noncomputable abbrev t0:=az Y Tryz.f168 [] [1]
def aB:=aA t0 Di [.a 4,.I,.Y,.Y,.s]
end Pm
namespace mw
noncomputable abbrev t0:=az Y Tryz.f185 [] [1,4]
abbrev P0:Ps:=[]
noncomputable abbrev bn:=av t0 [0,1,1,1,1] P0
noncomputable abbrev t1:=ay bn
abbrev P1:Ps:=[(1,.l [.I,.Y,.Y,.s] aT)]
noncomputable abbrev bV:=av t1 [0,1,1,1,1,1,2] P1
noncomputable abbrev t2:=ay bV
noncomputable def kA:=bf t2 [0,1,1,1,3] [(52,.v [.s]),(53,.v [.I]),(54,.v [.I])]
noncomputable abbrev t3:=be kA
def nI:=bg t3 kA
noncomputable abbrev fK:=av t3 [3] P1
noncomputable abbrev t4:=ay fK
noncomputable abbrev mP:=av t4 [0,1,7,1,1,1,2] P1
noncomputable abbrev t5:=ay mP
noncomputable abbrev p0:=av t5 [8,1,1,1,2] P0
noncomputable abbrev t6:=ay p0
abbrev P2:Ps:=[(1,.l [.I,.Y,.Y,.s] aT),(19,.v [.I])]
noncomputable abbrev iV:=av t6 [6,1,1,1,2] P2
noncomputable abbrev t7:=ay iV
noncomputable abbrev cM:=av t7 [2,1,1,1,2] P2
noncomputable abbrev t8:=ay cM
noncomputable abbrev bM:=av t8 [2] P1
noncomputable abbrev t9:=ay bM
def aB:=aA t9 Md [.a 4,.I,.Y,.Y,.s]
end mw
namespace O1
noncomputable abbrev t0:=az Y Tryz.f169 [] [1]
def aB:=aA t0 LW [.a 4,.I,.Y,.Y,.s]
end O1
namespace wa
noncomputable abbrev t0:=az Y Tryz.f186 [] [1,2,5]
noncomputable def a2:=bf t0 [0,1,1,1,2] [(1,.l [.I,.Y,.Y,.s] aT),(2,.l [.I,.Y,.Y,.s] aT),(3,.v [.s]),(7,.v [.s]),(8,.v [.I]),(9,.v [.I])]
noncomputable abbrev t1:=be a2
def bw:=bg t1 a2
def aB:=aA t1 CZ [.a 4,.I,.Y,.Y,.s]
end wa
namespace Pc
noncomputable abbrev t0:=az Y Tryz.f170 [] [1,2]
def aB:=aA t0 Mb [.a 4,.I,.Y,.Y,.s]
end Pc
def gG{w:J}{t:I}(h:t.P w):LH F0 w w [] [.tree t]:=bI _ (by intro e d;simp only[au,aO,aR]at d;subst d;exact h)
def fJ(w:J)(x:Rx)(r:ch)(w':J):Prop:=∃t:I,r=ae t.v/\t.rx=x/\t.P w'/\∀b∈t.fp,w.heap.size<=b
section
variable {M:Nat->Prop} {w0 w:J} {L D:List En} {U:List Nat}
def _root_.Go.W.LH.q4(H:LH M w0 w L D)(i j:Nat){O:List I}{t:I}(V:D[i]? =some (.trees O):=by rfl)(h:D[j]? =some (.tree t):=by rfl):LH M w0 w L (D++[.trees (O++[t])]):=by
 refine H.gy _ (Fr.refl _ _) (I.ir λk d=>?_) λb q=>.inr (.inr ?_)
 .rcases aY.1 d with d|d
  .exact I.Ps.mem (H.getD i V) d
  .simp at d;subst d;exact H.getD j h
 .obtain ⟨k,d,e⟩:=I.bJ.1 (aM.1 q);rcases aY.1 d with d|d
  .exact ⟨_,aD V,aM.2 (I.bJ.2 ⟨k,d,e⟩)⟩
  .simp at d;rw[d]at e;exact⟨_,aD h,aM.2 e⟩
def gk{e:aC}{s:Sl}{vs:List aa}{b:Nat}(h:b∈(En.bd 4 s vs).fp):b∈(En.row e 4 s vs).fp:=by
 have:b∈(if vs=[]then[]else ax s):=h;split at this
 .grind
 .exact this
def _root_.Go.W.LH.q0(H:LH M w0 w L D)(i j:Nat){e:aC}{s:Sl}{O:List I}(k:Int)(lo V:UInt8)(q:L[i]? =some (.row e 4 s (O.flatMap I.c)):=by rfl)(x:D[j]? =some (.trees O):=by rfl):LH M w0 w (L.eraseIdx i) (D++[I.row s O]++[.tree (.mk k lo V s O)]):=by
 have y:=H.freeze i (I.row s O) q (aK.bd (H.get i q)) λb h=>gk h;refine y.gy _ (Fr.refl _ _) ?_ λb h=>.inr (.inr ?_)
 .show I.P w _;unfold I.P;exact⟨aK.bd (H.get i q),H.getD j x⟩
 .have d:=aM.1 h;unfold I.fp at d;rcases aY.1 d with d|d
  .grind
  .exact ⟨_,bK _ (aD x),aM.2 d⟩
end
def r4(l:List I):∀u∈l.flatMap I.c,u.oneCell'=true:=λu e=>by obtain⟨h,_,d⟩:=bS.1 e;simp only[I.c,au,aO,aR]at d;rcases d with rfl|rfl|rfl|rfl<;>rfl
def qq:g0 Y iy aT (.agg #[.int .i64 0,.int .u8 0,.int .u8 0,.slice none 0 0]) 4 40:=⟨by kernel_rfl,by kernel_rfl,rfl,by decide,by decide⟩
def me(l:List I)(t:I):(l++[t]).flatMap I.c=l.flatMap I.c++t.c:=by simp
def jH(l m:List I):I.ao (l++m)=I.ao l++I.ao m:=by simp[I.fu]
def tO:∀(l m:List I),I.a0 (l++m)=I.a0 l+I.a0 m
 |[],m=>by simp[I.a0]
 |t::l,m=>by show t.sz+I.a0 (l++m)=t.sz+I.a0 l+I.a0 m;rw[tO l m];omega
def zy(l:List I)(i:Nat):I.a0 (l.take i)<=I.a0 l:=by have:=tO (l.take i) (l.drop i);rw[lO]at this;omega
abbrev R'(n:Nat):Prop:=∀(t:I) (x:Nat) (w:J),t.sz<=n->x<=1000000->t.P w->ai Y L3 #[t.v,.int .i64 (x:Int)] w λr d=>r=ae (.int .i64 (max ((x:Int) - t.sz) (-1)))/\ag w d
def GF:∀n:Nat,n<=1000000->R' n
 |0,_=>λt x z A _ _=>absurd A (by have:=I.lS t;omega)
 |n+1,W=>λt x z A hx Q=>by
  have M:=GF n (by omega);have hs:=I.hW t;have U:=I.fv t.l;have loop:∀(d i:Nat) (y:Int) (j:Nat) (e:J),i+d=t.l.length->-1<=y->y<=1000000->max (y - I.a0 (t.l.drop i)) (-1)=max ((x:Int) - t.sz) (-1)->LH F0 z e [.g j] [.tree t]->
    wb.cm y j t.k t.lo.toNat t.V.toNat t.s (i:Int) e λr S=>r=ae (.int .i64 (max ((x:Int) - t.sz) (-1)))/\ag z S:=by
   intro d;induction d with
   |zero=>
    intro i y j e G H L q h;have O:=I.cr (show t.P e from h.getD 0).parts.1;rw[cU (by omega)]at q;refine wb.dB _ _ _ _ _ _ _ _ _ (aZ (aW (by omega)) ⟨?_,h.fr⟩);rw[<-q];congr 2;simp only[I.a0];omega
   |succ d N=>
    intro i y j e G H L q h;have O:=I.cr (show t.P e from h.getD 0).parts.1;have w:t.l[i]? =some (t.l[i]'(by omega)):=a4 (by omega);rw[dz (by omega)]at q;generalize t.l[i]'(by omega)=a at w q;have aa:=I.eh (aD w);unfold I.a0 at q;refine wb.dB _ _ _ _ _ _ _ _ _ (a1 (aS (by omega)) (aF (λB=>⟨by omega,by omega,?_⟩) (λB=>⟨?_,h.fr⟩)))
    .have C:t.P e:=h.getD 0;refine I.dd C.parts.1 w λp Z c=>⟨_,_,_,_,c.c0,c.c1,c.c2,c.c3,?_⟩;have K:0<=y:=B;obtain⟨m,rfl⟩:=Int.eq_ofNat_of_zero_le K;refine h.aw (M a m e (by omega) (by omega) (C.parts.2.get w)) ?_;rintro _ T rfl E;refine⟨_,rfl,?_⟩;rw[bb _ (by omega)];refine N (i+1) _ j T (by omega) (by omega) (by omega) ?_ E;omega
    grind
  have F:aj .i64 ((x:Int) - 1)=(x:Int) - 1:=aQ _ (by omega);refine wb.aB _ _ _ _ _ z _ ((gG Q).aG λj e D=>?_);rw[F];refine loop t.l.length 0 _ j e (by omega) (by omega) (by omega) ?_ D
  grind
def Bh(t:I)(w:J)(h:t.sz<=1000000)(j:t.P w):ai Y Di #[t.v] w λr k=>r=ae (.bool (ak (64<t.sz)))/\ag w k:=by
 refine Pm.aB _ _ _ _ w _ ((gG j).aG λx q d=>d.aw (GF 1000000 (bm _) t 64 q h (by omega) (d.getD 0)) ?_);rintro _ y rfl e;refine⟨_,rfl,?_,e.fr⟩;congr 2
 grind
mutual
def cK:Rx->Bool
 |.mk d lo e l=>!(d !=2&&(lo !=0||e !=0))&&(if d=0\/d=1 then l.isEmpty else if d=2 then l.isEmpty&&ak (lo.toNat<=e.toNat)else if d=3\/d=4\/d=5 then dU l else if d=6\/d=7 then l.length==1&&dU l else false)
def dU:List Rx->Bool
 |[]=>true
 |t::l=>cK t&&dU l
end
abbrev Sr(n:Nat):Prop:=∀(t:I) (w:J),t.sz<=n->t.P w->ai Y Md #[t.v] w λr d=>r=ae (.bool (cK t.rx))/\ag w d
def BJ(l:List I):(I.ao l).isEmpty=(((l.length:Nat):Int)==0):=by
 rw[I.fu];cases l with
 |nil=>rfl
 |cons a l=>
  grind
def GV:∀n:Nat,n<=1000000->Sr n
 |0,_=>λt q Q _=>absurd Q (by have:=I.lS t;omega)
 |n+1,C=>λt q Q pt=>by
  have ih:=GV n (by omega);have hs:=I.hW t;have hl:=I.fv t.l;have K:=I.cr pt.parts.1;have loop:∀(b:Bool),cK t.rx=(b&&dU (I.ao t.l))->b=true->∀(d i:Nat) (h:J),i+d=t.l.length->dU (I.ao (t.l.drop i))=dU (I.ao t.l)->LH F0 q h [] [.tree t]->
    mw.kA t.s ((t.s.n:Nat):Int) (i:Int) h λr j=>r=ae (.bool (cK t.rx))/\ag q j:=by
   intro b x aa d;subst aa;rw[Bool.true_and]at x;induction d with
   |zero=>
    intro i h hi y A;rw[cU (by omega)]at y;refine mw.nI _ _ _ _ _ (aZ (aW (by omega)) ⟨?_,A.fr⟩);rw[x,<-y];rfl
   |succ d ad=>
    intro i h hi y A;have B:t.l[i]? =some (t.l[i]'(by omega)):=a4 (by omega);rw[dz (by omega)]at y;generalize t.l[i]'(by omega)=a at B y;have ai:=I.eh (aD B);have S:(cK a.rx&&dU (I.ao (t.l.drop (i+1))))=dU (I.ao t.l):=y;have af:t.P h:=A.getD 0;refine mw.nI _ _ _ _ _ (a1 (aS (by omega)) ⟨by omega,by omega,?_⟩);refine I.dd af.parts.1 B λp hp c=>⟨_,_,_,_,c.c0,c.c1,c.c2,c.c3,A.aG λb4 w2 H2=>H2.ah λw3 M=>M.aw (ih a w3 (by omega) ((show t.P w3 from M.getD 0).parts.2.get B)) ?_⟩;rintro _ w4 rfl N;refine⟨_,rfl,dN (λhf=>⟨?_,N.fr⟩) (λht=>?_)⟩
    .grind
    .rw [bb _ (by omega)];rw[ht,Bool.true_and]at S;exact ad (i+1) w4 (by omega) S (N.take 0)
  have er:=I.e1 t;have nz:∀z:UInt8,(((z.toNat:Nat):Int) !=0)=(z !=0):=λz=>by
   by_cases T:z=0
   .subst T;rfl
   .have H:(z !=0)=true:=by grind
    rw[H];have:z.toNat≠0:=λh0=>T (UInt8.toNat_inj.1 (by grind))
    grind
  refine mw.aB _ _ _ _ q _ ((gG pt).aG λw h L=>?_);have out:∀b:Bool,cK t.rx=b->(Ending.returned (.bool b)=ae (.bool (cK t.rx))/\ag q h):=λb x=>⟨by rw[x],L.fr⟩;have F:cK t.rx=dU (I.ao t.l)->mw.fK w t.k t.lo.toNat t.V.toNat t.s h λr j=>r=ae (.bool (cK t.rx))/\ag q j:=λx=>loop true (by grind) rfl t.l.length 0 h (by omega) (by simp) (L.take 0);have s1:(t.k !=2&&(t.lo !=0||t.V !=0))=false->mw.bM w t.k t.lo.toNat t.V.toNat t.s h λr j=>r=ae (.bool (cK t.rx))/\ag q j:=by
   intro h0;have eg:cK t.rx=(if t.k=0\/t.k=1 then(I.ao t.l).isEmpty else if t.k=2 then(I.ao t.l).isEmpty&&ak (t.lo.toNat<=t.V.toNat)else if t.k=3\/t.k=4\/t.k=5 then dU (I.ao t.l)else if t.k=6\/t.k=7 then(I.ao t.l).length==1&&dU (I.ao t.l)else false):=by
    rw[er];unfold cK
    grind
   have s2:t.k=0\/t.k=1->mw.bV w t.k t.lo.toNat t.V.toNat t.s h λr j=>r=ae (.bool (cK t.rx))/\ag q j:=λe=>out _ (by rw[eg,aq e,BJ,K]);have s7:t.k=6\/t.k=7->mw.mP w t.k t.lo.toNat t.V.toNat t.s h λr j=>r=ae (.bool (cK t.rx))/\ag q j:=λe=>by
    have e7:cK t.rx=((I.ao t.l).length==1&&dU (I.ao t.l)):=by grind
    have el:(I.ao t.l).length=t.s.n:=by rw[I.fu];grind
    refine di (λH=>out false ?_) (λH=>F ?_)
    .grind
    grind
   have s6:t.k≠0->t.k≠1->t.k≠2->t.k≠3->t.k≠4->t.k≠5->mw.iV w t.k t.lo.toNat t.V.toNat t.s t.k h λr j=>r=ae (.bool (cK t.rx))/\ag q j:=λD E U W Z k5=>
    aL (λe=>a1 (by grind) (s7 (.inl e))) (λk6=>aL (λe=>s7 (.inr e)) (λk7=>out false (by grind)))
   have G:t.k=3\/t.k=4\/t.k=5->cK t.rx=dU (I.ao t.l):=λe=>by grind
   have s3:t.k≠0->t.k≠1->mw.cM w t.k t.lo.toNat t.V.toNat t.s t.k h λr j=>r=ae (.bool (cK t.rx))/\ag q j:=λD E=>
    aL (λe=>by
     have O:cK t.rx=((I.ao t.l).isEmpty&&ak (t.lo.toNat<=t.V.toNat)):=by grind
     refine bB (λC=>out _ ?_) (λC=>out false ?_)
     .rw [O,BJ,<-K,C,Bool.true_and]
      grind
     .rw [O,BJ,<-K,C];rfl)
    (λU=>aL (λe=>a1 (by grind) (F (G (.inl e)))) (λW=>aL (λe=>a1 (by grind) (F (G (.inr (.inl e))))) (λZ=>aL (λe=>F (G (.inr (.inr e)))) (λk5=>s6 D E U W Z k5))))
   exact aL (λe=>a1 (by grind) (s2 (.inl e))) (λD=>aL (λe=>s2 (.inr e)) (λE=>s3 D E))
  have bad:(t.k !=2&&(t.lo !=0||t.V !=0))=true->cK t.rx=false:=λx=>by
   rw[er];unfold cK
   grind
  refine bB (λh2=>bB (λac=>out false (bad ?_)) (λac=>bB (λab=>out false (bad ?_)) (λab=>s1 ?_))) (λh2=>s1 ?_)
  .grind
  .grind
  .grind
  grind
def jN(x:Rx):Int:=if 64<x.sz then 4 else if cK x then 0 else 1
def GA(t:I)(w:J)(h:t.sz<=1000000)(x:t.P w):ai Y LW #[t.v] w λr y=>r=ae (.int .i64 (jN t.rx))/\ag w y:=by
 refine O1.aB _ _ _ _ w _ ((gG x).aG λB z k=>k.aw (Bh t z h (k.getD 0)) ?_);rintro _ A rfl e;refine⟨_,rfl,aF (λd=>⟨?_,e.fr⟩) (λd=>e.aw (GV 1000000 (bm _) t A h (e.getD 0)) ?_)⟩
 .unfold jN;rw[I.eB,aq d]
 rintro _ C rfl q;refine⟨_,rfl,dN (λj=>⟨?_,q.fr⟩) (λj=>⟨?_,q.fr⟩)⟩
 .unfold jN;rw[I.eB,af d,j];rfl
 .unfold jN;rw[I.eB,af d,j];rfl
abbrev Sa(n:Nat):Prop:=∀(t:I) (w:J),t.sz<=n->t.P w->ai Y CZ #[t.v] w λr d=>fJ w t.rx r d/\ag w d
def GD:∀n:Nat,n<=1000000->Sa n
 |0,_=>λt x G _=>absurd G (by have:=I.lS t;omega)
 |n+1,hn=>λt x G L=>by
  have ih:=GD n (by omega);have hs:=I.hW t;have hl:=I.fv t.l;have nr:=I.cr L.parts.1;have loop:∀(d i:Nat) (ks:List I) (sl:Sl) (j q:Nat) (y:J),i+d=t.l.length->ks.length=i->I.ao ks=I.ao (t.l.take i)->(∀b∈I.a8 ks,x.heap.size<=b)->LH F0 x y [.g j,.g q,.row aT 4 sl (ks.flatMap I.c)] [.tree t,.trees ks]->
    wa.a2 j t.k t.lo.toNat t.V.toNat t.s q 0 0 0 ⟨none,0,0⟩ sl t.s ((t.s.n:Nat):Int) (i:Int) y λr M=>fJ x t.rx r M/\ag x M:=by
   intro d;induction d with
   |zero=>
    intro i ks sl j q y U W H K B;refine wa.bw _ _ _ _ _ _ _ _ _ _ _ _ _ _ _ _ (aZ (aW (by omega)) (B.ah λD h=>⟨⟨.mk t.k t.lo t.V sl ks,rfl,?_,?_,λb e=>?_⟩,h.fr⟩))
    .rw [I.e1 t];unfold I.rx
     grind
    .unfold I.P;exact⟨aK.bd (h.get 2),h.getD 1⟩
    .unfold I.fp at e;rcases aY.1 e with e|e
     .exact (h.new _ (aD (i:=2) rfl) b (gk e)).resolve_right id
     grind
   |succ d aa=>
    intro i ks sl j q y U W H K B;have A:t.l[i]? =some (t.l[i]'(by omega)):=a4 (by omega);generalize t.l[i]'(by omega)=a at A;have ad:=I.eh (aD A);have ab:t.P y:=B.getD 0;refine wa.bw _ _ _ _ _ _ _ _ _ _ _ _ _ _ _ _ (a1 (aS (by omega)) ⟨by omega,by omega,?_⟩);refine I.dd ab.parts.1 A λp hp c=>⟨_,_,_,_,c.c0,c.c1,c.c2,c.c3,B.aG λb5 D h=>h.ah λN z=>z.iZ (ih a N (by omega) ((show t.P N from z.getD 0).parts.2.get A)) ?_⟩;rintro _ w4 ⟨u,rfl,Z,pu,F⟩ _ O;have C:=O.rd (.tree u) pu λb e=>F b (aM.1 e);have ac:=I.cr (C.get 2:aK _ _ _ _ _).bd;refine⟨_,_,_,_,rfl,C.h7 2 qq rfl (λs' w5 S=>?_) (by omega)⟩;have T:=(S.q4 1 2).take 3;rw[bb _ (by omega)];refine aa (i+1) (ks++[u]) s' j q w5 (by omega) (by grind) ?_ ?_ ?_
    .rw [jH,H,eA,A,jH];simp[I.ao,Z]
    .intro b e;obtain⟨t',w,E⟩:=I.bJ.1 e;rcases aY.1 w with w|w
     .exact K b (I.bJ.2 ⟨t',w,E⟩)
     .simp at w;rw[w]at E;exact a6 z.fr.size (F b E)
    .rw [me];exact T.forget _ (by simp)
  refine wa.aB _ _ _ _ x _ ((gG L).aG λj y Q=>Q.aG λq D h=>?_);have z:=h.hR aT 4;have C:=z.gy (.trees []) (Fr.refl _ _) (by show I.Ps D [];unfold I.Ps;trivial) (λb e=>by
   have:=aM.1 e;unfold I.a8 at this
   grind)
  exact loop t.l.length 0 [] ⟨none,0,0⟩ j q D (by omega) rfl rfl (λb e=>by unfold I.a8 at e;cases e) C
def TY(t:I)(w:J)(h:t.sz<=1000000)(e:t.P w):ai Y CZ #[t.v] w λr d=>fJ w t.rx r d/\ag w d:=GD 1000000 (bm _) t w h e
def fq:Rx:=.mk 0 0 0 []
def o6(x:Rx):Int:=if 64<x.sz then 4 else 0
def o7(x:Rx):Rx:=if 64<x.sz then fq else x
def F6(w:J)(x:Rx)(c:Int)(r:ch)(w':J):Prop:=∃t:I,r=ae (.tuple #[t.v,.int .i64 c])/\t.rx=x/\t.P w'/\∀b∈t.fp,w.heap.size<=b
def Nr(w:J):(I.mk 0 0 0 ⟨none,0,0⟩ []).P w:=by unfold I.P I.Ps;exact⟨bx.nil 4 w,trivial⟩
def Nq{b:Nat}(h:b∈(I.mk 0 0 0 ⟨none,0,0⟩ []).fp):False:=by unfold I.fp I.a8 at h;simp[En.bd]at h
def Ue(t:I)(w:J)(h:t.sz<=1000000)(D:t.P w):ai Y Mb #[t.v] w λr z=>F6 w (o7 t.rx) (o6 t.rx) r z/\ag w z:=by
 refine Pc.aB _ _ _ _ w _ ((gG D).aG λK M B=>B.aG λL F q=>q.aw (Bh t F h (q.getD 0)) ?_);rintro _ G rfl j;refine⟨_,rfl,aF (λe=>j.ah λH k=>⟨⟨.mk 0 0 0 ⟨none,0,0⟩ [],?_,?_,Nr _,λb d=>(Nq d).elim⟩,k.fr⟩) (λe=>j.iZ (TY t G h (j.getD 0)) ?_)⟩
 .unfold o6;rw[I.eB,aq e];rfl
 .unfold o7;rw[I.eB,aq e];rfl
 rintro _ H ⟨u,rfl,C,E,y⟩ _ A;have k:=A.rd (.tree u) E λb d=>y b (aM.1 d);refine⟨_,_,_,_,rfl,k.ah λN x=>⟨⟨u,?_,?_,x.getD 1,λb d=>a6 j.fr.size (y b d)⟩,x.fr⟩⟩
 .unfold o6;rw[I.eB,af e]
 .unfold o7;rw[I.eB,af e,C]
namespace O4
noncomputable abbrev t0:=az Y Tryz.f206 [] [2]
def aB:=aA t0 sS [.a 4,.I,.Y,.Y,.s,.r]
end O4
namespace wA
noncomputable abbrev t0:=az Y Tryz.f207 [] []
noncomputable def L0:=bf t0 [0,1,1,1,1] [(0,.v [.s]),(1,.v [.f]),(7,.v [.I]),(8,.v [.I])]
noncomputable abbrev t1:=be L0
def bC:=bg t1 L0
def ok:=aA t1 Mm [.s,.f]
end wA
namespace P8
noncomputable abbrev t0:=az Y Tryz.f191 [] []
def ok:=aA t0 Mk [.s,.f]
end P8
namespace q3
noncomputable abbrev t0:=az Y Tryz.f205 [] [7]
abbrev P0:Ps:=[(0,.v [.s]),(1,.v [.g sS 0 1,.r]),(5,.v [.I]),(6,.v [.I])]
noncomputable def a2:=bf t0 [0,1,1,1,3] P0
noncomputable abbrev t1:=be a2
noncomputable abbrev bM:=av t1 [2,2,1,1,3] P0
noncomputable abbrev t2:=ay bM
def bw:=bg t2 a2
def aB:=aA t2 Ml [.s,.g sS 0 1,.r]
end q3
namespace nu
noncomputable abbrev t0:=az Y Tryz.f196 [(6,ls [0,1,2,3,4,5,6,7,8,9,10]),(11,ls [0,1,2,3,4,5,6,7,8,9,10,11])] []
noncomputable def L0:=bf t0 [0,1,1,1,2] [(0,.v [.s]),(1,.v [.g qH 0 0]),(5,.v [.I])]
noncomputable abbrev t1:=be L0
abbrev P0:Ps:=[(0,.v [.s]),(1,.v [.g qH 0 0]),(5,.v [.I]),(6,.v [.s]),(7,.v [.I])]
noncomputable def L2:=bf t1 [0,1,1,1,1,1,1,2,1,2,1,1,2] P0
noncomputable abbrev t2:=be L2
noncomputable abbrev S3:=av t2 [2,2,1,1,1,1,1,2,1,2,1,1,2] P0
noncomputable abbrev t3:=ay S3
def k9:=bg t3 L2
noncomputable abbrev S1:=av t3 [1,1,1,2,1,2,1,1,2] [(0,.v [.s]),(1,.v [.g qH 0 0]),(5,.v [.I]),(6,.v [.s])]
noncomputable abbrev t4:=ay S1
def bC:=bg t4 L0
def ok:=aA t4 Mi [.s,.g qH 0 0]
end nu
namespace qY
noncomputable abbrev t0:=az Y Tryz.f190 [] [2,7]
abbrev P0:Ps:=[(2,.l [.I,.Y,.Y,.s] aT),(3,.v [.r]),(5,.v [.s]),(9,.v [.s]),(10,.v [.I]),(11,.v [.I])]
noncomputable def a2:=bf t0 [0,1,1,1,2] P0
noncomputable abbrev t1:=be a2
noncomputable abbrev bM:=av t1 [3,2,1,1,2] P0
noncomputable abbrev t2:=ay bM
def bw:=bg t2 a2
def aB:=aA t2 L7 [.a 4,.I,.Y,.Y,.s,.a 4,.I,.Y,.Y,.s]
end qY
namespace O6
noncomputable abbrev t0:=az Y Tryz.f187 [] [1,2]
def aB:=aA t0 vO [.a 4,.I,.Y,.Y,.s]
end O6
namespace O7
noncomputable abbrev t0:=az Y Tryz.f188 [] []
def ok:=aA t0 yA [.a 4,.I,.Y,.Y,.s,.a 4,.I,.Y,.Y,.s]
end O7
namespace Eh
noncomputable abbrev t0:=az Y Tryz.f189 [] [3,4]
noncomputable abbrev bn:=av t0 [4] [(1,.v [.r]),(3,.l [.I,.Y,.Y,.s] aT),(4,.l [.I,.Y,.Y,.s] aT),(5,.v [.s])]
noncomputable abbrev t1:=ay bn
def aB:=aA t1 yB [.a 4,.I,.Y,.Y,.s,.r,.r]
end Eh
namespace O8
noncomputable abbrev t0:=az Y Tryz.f192 [] [2]
def aB:=aA t0 C' [.a 4,.I,.Y,.Y,.s,.r]
end O8
namespace O9
noncomputable abbrev t0:=az Y Tryz.f197 [] [1,2]
def aB:=aA t0 sT [.a 4,.I,.Y,.Y,.s]
end O9
namespace ze
noncomputable abbrev t0:=az Y Tryz.f198 [] [3,4,5]
noncomputable abbrev bn:=av t0 [0,1,1,1,2] [(1,.v [.r]),(4,.l [.I,.Y,.Y,.s] aT)]
noncomputable abbrev t1:=ay bn
noncomputable abbrev bM:=av t1 [0,1,1,1,3] [(4,.l [.I,.Y,.Y,.s] aT),(5,.l [.I,.Y,.Y,.s] aT)]
noncomputable abbrev t2:=ay bM
def aB:=aA t2 sU [.a 4,.I,.Y,.Y,.s,.r,.r]
end ze
namespace we
noncomputable abbrev t0:=az Y Tryz.f171 [(5,ls [0,1,2,3,4,5,6,7,8])] []
noncomputable def L0:=bf t0 [0,1,1,1,2] [(0,.v [.m]),(3,.v [.r]),(4,.v [.r]),(5,.v [.r]),(16,.v [.s]),(17,.v [.I]),(18,.v [.I])]
noncomputable abbrev t1:=be L0
def bC:=bg t1 L0
def ok:=aA t1 Db [.m,.a 4,.I,.Y,.Y,.s]
end we
def ZT{w:J}{g:Nat}{cur:Array aa}{t:aC}(d:w.heap[g]? =some (.cells cur t (0,0)))(vs:Array aa):w.setRow g vs=w.putObj g (.cells vs t (0,0)):=by
 unfold World.setRow World.putObj;congr 1
 grind
def Gb(g k:Nat):(⟨g,0,none⟩:Addr).add k=⟨g,k,none⟩:=by
 unfold Addr.add
 grind
def Hz{P:aE}{t ty e:aC}{z:aa}{sz bytes:Nat}(x:g0 P t e z sz bytes)(h1:∀u∈z.cells.toList,u.oneCell'=true)(af:z.cells.size=sz){w:J}{s:Sl}{vs:List aa}(h:aK w e sz s vs)(l:Nat)(E:l<=s.n):
  ∃w',(Builtin.clear_ #[t] ty #[.slice (if s.c=l then s.a else s.a.map (·.add (l *sz))) (s.n - l) (s.c - l)]).run P w=.ok (.tuple #[]) w'/\
   aK w' e sz ⟨if s.c=0 then s.a else s.a.map (·.add (0 *sz)),l - 0,s.c - 0⟩ (vs.take (l *sz))/\Fr (·∈ax s) w w':=by
 have hlen:=h.len;obtain⟨L,d,j⟩:=s;simp only at E hlen;have ac:∀y:Option Addr,(if j=0 then y else y.map (·.add (0 *sz)))=y:=λy=>by
  split
  .rfl
  .cases y with
   |none=>rfl
   |some p=>rw[Nat.zero_mul,Option.map_some,iW]
 rw[ac,Nat.sub_zero,Nat.sub_zero];have G:∀(w':J) (g:Nat) (q:Array aa),L=some ⟨g,0,none⟩->d<=j->j<=maxLen->w'.heap[g]? =some (.cells q e (0,0))->q.size=j *sz->q.toList.take (l *sz)=vs.take (l *sz)->aK w' e sz ⟨L,l,j⟩ (vs.take (l *sz)):=by intro w' g q B am S k K ad;subst B;have M:l *sz<=d *sz:=oG _ E;refine⟨by grind,.inr ⟨g,j,q,rfl,dv _,k,by grind,S,K,ad⟩⟩
 rcases h.cases with⟨hs,rfl⟩|⟨g,cur,B,k,A,D,H,O⟩
 .cases hs;have:l=0:=by omega
  subst this;refine⟨w,?_,?_,Fr.refl _ _⟩
  .simp [Builtin.clear_,run_underlying x.ht]
  grind
 .simp only at B A D H O;subst B;have M:l *sz<=d *sz:=oG _ E;have e2:d *sz<=j *sz:=oG _ A;have ae:cur.toList.take (l *sz)=vs.take (l *sz):=by grind
  by_cases Z:d - l=0
  .refine ⟨w,?_,G w g cur rfl A D k H ae,Fr.refl _ _⟩;rw[Z];by_cases C:j=l
   .simp [Builtin.clear_,run_underlying x.ht,C]
   .simp [Builtin.clear_,run_underlying x.ht,C]
  .have C:j≠l:=by omega
   obtain⟨inf,U,hz,K,ai⟩:=info_parts x.V;have ag:(zeroValue e).run P w=.ok z w:=by simp[zeroValue,typeInfo,U,hz]
   have al:(Builtin.zeroCells z.cells (d - l)).toList.length=(d - l) *sz:=by simp[Builtin.zeroCells,af]
   have ab:∀v∈(Builtin.zeroCells z.cells (d - l)).toList,v.oneCell'=true:=by
    intro v F;unfold Builtin.zeroCells at F;rw[Array.toList_map,bZ]at F;obtain⟨ah,hj,rfl⟩:=F;by_cases N:0<z.cells.size
    .have ak:ah%z.cells.size<z.cells.size:=Nat.mod_lt _ N
     grind
    grind
   have aj:(d - l) *sz=d *sz - l *sz:=Nat.sub_mul _ _ _;have T:l *sz+0+(Builtin.zeroCells z.cells (d - l)).toList.length<=cur.size:=by omega
   have I:=run_storeCells_at (P:=P) g (l *sz) e (Builtin.zeroCells z.cells (d - l)).toList 0 cur w k T ab;refine⟨_,?_,G _ g (cur.toList.take (l *sz+0)++(Builtin.zeroCells z.cells (d - l)).toList++cur.toList.drop (l *sz+0+(Builtin.zeroCells z.cells (d - l)).toList.length)).toArray rfl A D (setRow_heap w g cur _ e _ k) ?_ ?_,?_⟩
   .obtain ⟨m,W⟩:∃m,d - l=m+1:=⟨d - l - 1,by omega⟩;have Q:(⟨g,0,none⟩:Addr).add (l *sz)=⟨g,l *sz,none⟩:=Gb g (l *sz);rw[W]at I ⊢;simp[Builtin.clear_,run_underlying x.ht,C,Q,ag,I]
   .grind
   .grind
   .rw [ZT k];exact(Fr.put w g _).mono λan _ e=>by simp[ax,e]
def R1:∀u∈(Value.agg #[.int .i64 0,.int .u8 0,.int .u8 0,.slice none 0 0]).cells.toList,u.oneCell'=true:=by intro u d;simp only[Value.cells,au,aO,aR]at d;rcases d with rfl|rfl|rfl|rfl<;>rfl
def VG{l:List I}{k:Nat}{t:I}(q:k<l.length):((((l.flatMap I.c).set (k *4+0) (.int .i64 t.k)).set (k *4+1) (.int .u8 (t.lo.toNat:Int))).set (k *4+2) (.int .u8 (t.V.toNat:Int))).set (k *4+3) t.s.v=(l.set k t).flatMap I.c:=by
 induction l generalizing k with
 |nil=>grind
 |cons a l j=>
  cases k with
  |zero=>simp[I.c]
  |succ k=>
   have h:k<l.length:=by grind
   have d:∀e,(k+1) *4+e=(k *4+e)+4:=λe=>by omega
   rw[d 0,d 1,d 2,d 3,cV,List.set_cons_succ,cV,<-j h];simp[I.c]
section
variable {M:Nat->Prop} {w0 w:J} {L D:List En} {U:List Nat}
def _root_.Go.W.LH.QD(H:LH M w0 w L D)(i k:Nat){s:Sl}{O:List I}{t:I}{p:Addr}{K:J->Prop}(V:L[i]? =some (.row aT 4 s (O.flatMap I.c)))(z:s.a=some p)(hk:k<O.length)(hK:∀w',LH M w0 w' (L.set i (.row aT 4 s ((O.set k t).flatMap I.c))) D->K w')(bp:∀b∈U,En.g b∈L:=by simp):
  aP w (p.add (k *4)) (.int .i64 t.k) λd=>kept U w d/\aP d ((p.add (k *4)).add 1) (.int .u8 (t.lo.toNat:Int)) λh=>kept U d h/\aP h ((p.add (k *4)).add 2) (.int .u8 (t.V.toNat:Int)) λj=>kept U h j/\aP j ((p.add (k *4)).add 3) t.s.v λx=>kept U j x/\K x:=by
 have hlen:(O.flatMap I.c).length=O.length *4:=I.eW O;have A:=(cz.1 V).1;have E:∀{e:En} {b:Nat},(∀(d:J) (y:Nat),¬e.P ({d with heap:=g' (y+1) (.map #[] 0)}:J))->En.g b∈L->En.g b∈L.set i e:=by
  intro e b ad q;obtain⟨Z,S⟩:=g7.1 q;by_cases ab:i=Z
  .subst ab;rw[V]at S;exfalso;have e1:En.row aT 4 s (O.flatMap I.c)=En.g b:=fe S;have Q:(En.g b).P ({w with heap:=g' (b+1) (.map #[] 0)}):=by show b<_;simp
   rw[<-e1]at Q;by_cases T:ax s=[]
   .have:s.a=none:=by unfold ax at T;grind
    grind
   .obtain ⟨ac,C⟩:=List.exists_mem_of_ne_nil _ T;obtain⟨cs,f,hc⟩:=(aK.row (show aK ({w with heap:=g' (b+1) (.map #[] 0)}) aT 4 s _ from Q)).tW ac C
    grind
  .refine aD (i:=Z) ?_
   grind
 have B:∀(vs:List aa) (d:J) (y:Nat),¬(En.row aT 4 s vs).P ({d with heap:=g' (y+1) (.map #[] 0)}:J):=by
  intro vs d y h0;have C:p.block∈ax s:=by simp[ax,z]
  obtain⟨cs,f,hc⟩:=(aK.row (show aK ({d with heap:=g' (y+1) (.map #[] 0)}) aT 4 s vs from h0)).tW _ C
  grind
 have N:=H.ou (U:=U) i (k *4) 0 (v:=.int .i64 t.k) (p:=p) (K:=λd=>aP d ((p.add (k *4)).add 1) (.int .u8 (t.lo.toNat:Int)) λh=>kept U d h/\aP h ((p.add (k *4)).add 2) (.int .u8 (t.V.toNat:Int)) λj=>kept U h j/\aP j ((p.add (k *4)).add 3) t.s.v λx=>kept U j x/\K x) V z (by omega) (λd H1=>?_) bp
 .rw [iW]at N;exact N
 refine H1.ou (U:=U) i (k *4) 1 (by rw[jF A]) z (by grind) (λh F=>?_) (λb q=>E (B _) (bp b q));rw[List.set_set]at F;refine F.ou (U:=U) i (k *4) 2 (by rw[jF A]) z (by grind) (λj G=>?_) (λb q=>E (B _) (bp b q));rw[List.set_set]at G;refine G.ou (U:=U) i (k *4) 3 (by rw[jF A]) z (by grind) (λx H4=>?_) (λb q=>E (B _) (bp b q));rw[List.set_set,VG hk]at H4
 grind
def _root_.Go.W.LH.aaA(H:LH M w0 w L D)(i k:Nat){s:Sl}{O:List I}{t:I}{p:Addr}{K:J->Prop}(V:L[i]? =some (.row aT 4 s (O.flatMap I.c)))(j:s.a=some p)(h:k<O.length)(e:∀d,LH M w0 d (L.set i (.row aT 4 s ((O.set k t).flatMap I.c))) D->K d):
  aP w (p.add (k *4)) (.int .i64 t.k) λq=>aP q ((p.add (k *4)).add 1) (.int .u8 (t.lo.toNat:Int)) λx=>aP x ((p.add (k *4)).add 2) (.int .u8 (t.V.toNat:Int)) λy=>aP y ((p.add (k *4)).add 3) t.s.v K:=by
 have z:=H.QD (U:=[]) (K:=K) i k V j h e (by simp)
 grind
end
def DI{w:J}{s:Sl}{l:List I}(h:aK w aT 4 s (l.flatMap I.c)){i:Nat}{t:I}(V:l[i]? =some t){K:Addr->Prop}(d:∀p,s.a=some p->I.fH w p i t->K p):dM s.a K:=I.dd h.bd V d
section
variable {M:Nat->Prop} {w0 w:J} {L D:List En}
def _root_.Go.W.LH.el(H:LH M w0 w L D)(i k:Nat){s:Sl}{O:List I}{t:I}{X:Int}{K:Int->Int->Int->Sl->Prop}(q:X=(k:Int))(e:O[k]? =some t)(h:K t.k t.lo.toNat t.V.toNat t.s)(V:L[i]? =some (.row aT 4 s (O.flatMap I.c)):=by rfl):
  fb s X λp=>∃a b c:Int,∃d:Sl,w.cell? ((p.add (aV X *4)).add 0)=some (.i a)/\w.cell? ((p.add (aV X *4)).add 1)=some (.int .u8 b)/\w.cell? ((p.add (aV X *4)).add 2)=some (.int .u8 c)/\w.cell? ((p.add (aV X *4)).add 3)=some d.v/\K a b c d:=by subst q;have j:aK w aT 4 s (O.flatMap I.c):=H.get i V;have y:=I.cr j.bd;have x:=(cz.1 e).1;exact⟨by omega,by omega,DI j e λp z c=>⟨_,_,_,_,c.c0,c.c1,c.c2,c.c3,h⟩⟩
def _root_.Go.W.LH.u3(H:LH M w0 w L D)(i k:Nat){s:Sl}{O:List I}{t:I}{X:Int}{K:J->Prop}(q:X=(k:Int))(d:k<O.length)(j:∀h,LH M w0 h (L.set i (.row aT 4 s ((O.set k t).flatMap I.c))) D->K h)(V:L[i]? =some (.row aT 4 s (O.flatMap I.c)):=by rfl):
  fb s X λp=>aP w (p.add (aV X *4)) (.i t.k) λz=>aP z ((p.add (aV X *4)).add 1) (.int .u8 (t.lo.toNat:Int)) λA=>aP A ((p.add (aV X *4)).add 2) (.int .u8 (t.V.toNat:Int)) λB=>aP B ((p.add (aV X *4)).add 3) t.s.v K:=by subst q;have e:aK w aT 4 s (O.flatMap I.c):=H.get i V;have C:=I.cr e.bd;have x:O[k]? =some O[k]:=a4 d;exact⟨by omega,by omega,DI e x λp y c=>H.aaA i k V y d j⟩
end
def Cj{j:Nat}(d:1<=j)(e:j<=1000000000):aj .i64 ((j:Int) - 1)=((j - 1:Nat):Int):=by rw[aQ _ (by omega)];omega
abbrev dS(b:Nat)(u:I):En:=.c b u.c aT
def JS{w:J}{k u:I}{b:Nat}(h:k.P w)(j:u.P w)(e:w.heap[b]? =some (.cells u.c.toArray aT (0,0))):LH F0 w w [] [.tree k,.tree u,dS b u]:=bI _ (by
 intro q d;simp only[au,aO,aR]at d;rcases d with rfl|rfl|rfl
 .exact h
 .exact j
 .exact e)
def GK(k u:I)(b:Nat)(w:J)(h:k.sz<=1000000)(q:k.P w)(x:u.P w)(j:w.heap[b]? =some (.cells u.c.toArray aT (0,0))):ai Y sS #[k.v,.pointer (some (ab b))] w λr y=>r=ae (.bool (a5 k.rx u.rx==0))/\ag w y:=by refine O4.aB _ _ _ _ _ w _ ((JS q x j).aG λA z d=>⟨_,_,_,u.s,d.e7 2 0,d.e7 2 1,d.e7 2 2,d.e7 2 3,d.aw (uM k u z h (d.getD 0) (d.getD 1)) ?_⟩);rintro _ B rfl e;exact⟨_,rfl,rfl,e.fr⟩
def T8(k u:I)(b:Nat)(w:J)(h:k.sz<=1000000)(q:k.P w)(x:u.P w)(j:w.heap[b]? =some (.cells u.c.toArray aT (0,0))):ai Y C' #[k.v,.pointer (some (ab b))] w λr y=>r=ae (.bool (a5 k.rx u.rx==0))/\ag w y:=by refine O8.aB _ _ _ _ _ w _ ((JS q x j).aG λA z d=>⟨_,_,_,u.s,d.e7 2 0,d.e7 2 1,d.e7 2 2,d.e7 2 3,d.aw (uM k u z h (d.getD 0) (d.getD 1)) ?_⟩);rintro _ B rfl e;exact⟨_,rfl,rfl,e.fr⟩
def T7(k:I)(w:J)(j:k.P w):ai Y vO #[k.v] w λr q=>r=ae k.v/\ag w q:=by refine O6.aB _ _ _ _ w _ ((gG j).aG λx z d=>d.aG λy A e=>e.ah λB h=>⟨rfl,h.fr⟩)
def lA(d:I->Bool):List I->Nat->Int
 |[],_=>-1
 |a::l,i=>if d a then(i:Int)else lA d l (i+1)
def I6(d:I->Bool):∀(l:List I) (i:Nat),ak (lA d l i>=0)=l.any d
 |[],i=>rfl
 |a::l,i=>by
  unfold lA;rw[List.any_cons];cases e:d a with
  |true=>simp
  |false=>simpa using I6 d l (i+1)
def Gv(s:Sl)(l:List I)(f:Fv)(h:I->Bool)(D:List En)(w:J)(M:l.length<=1000000)(B:bx 4 w s (l.flatMap I.c))(L:∀A∈D,A.P w)(E:g3 Y f.n=true)(F:∀j t,t∈l->LH F0 w j [] (I.row s l::D)->ai Y f.n (f.U++#[t.v]++f.cs) j λr K=>r=ae (.bool (h t))/\ag j K):
  ai Y Mm #[s.v,f.v] w λr j=>r=ae (.int .i64 (lA h l 0))/\ag w j:=by
 have Q:=I.cr B;have loop:∀(d i:Nat) (y:J),i+d=l.length->lA h (l.drop i) i=lA h l 0->LH F0 w y [] (I.row s l::D)->wA.L0 s f ((s.n:Nat):Int) (i:Int) y λr j=>r=ae (.int .i64 (lA h l 0))/\ag w j:=by
  intro d;induction d with
  |zero=>
   intro i y G e q;rw[cU (by omega)]at e;exact wA.bC _ _ _ _ _ _ (aZ (aW (by omega)) ⟨by rw[<-e];rfl,q.fr⟩)
  |succ d O=>
   intro i y G e q;have z:l[i]? =some (l[i]'(by omega)):=a4 (by omega);rw[dz (by omega:i<l.length)]at e;generalize l[i]'(by omega)=x at z e;refine wA.bC _ _ _ _ _ _ (a1 (aS (by omega)) ⟨by omega,by omega,I.dd (q.getD 0) z λp N c=>⟨x.k,x.lo.toNat,x.V.toNat,x.s,c.c0,c.c1,c.c2,c.c3,?_⟩⟩);rw[E];refine(show cF true _ from ?_);refine q.call (F y x (aD z) q) ?_;rintro _ S rfl C;have e:(if h x then(i:Int)else lA h (l.drop (i+1)) (i+1))=lA h l 0:=e;refine⟨_,rfl,bB (λH=>⟨?_,C.fr⟩) (λH=>?_)⟩
   .grind
   .rw [af (by grind)]at e;rw[bb _ (by omega)]
    grind
 refine wA.ok _ _ w _ (loop l.length 0 w (by omega) (by simp) (bI _ (λA e=>?_)));rcases au.1 e with rfl|e
 .exact B
 grind
def TC(s:Sl)(l:List I)(f:Fv)(e:I->Bool)(D:List En)(w:J)(y:l.length<=1000000)(z:bx 4 w s (l.flatMap I.c))(k:∀h∈D,h.P w)(q:g3 Y f.n=true)(x:∀d t,t∈l->LH F0 w d [] (I.row s l::D)->ai Y f.n (f.U++#[t.v]++f.cs) d λr A=>r=ae (.bool (e t))/\ag d A):
  ai Y Mk #[s.v,f.v] w λr d=>r=ae (.bool (l.any e))/\ag w d:=by refine P8.ok _ _ w _ ((Gv s l f e D w y z k q x).mono ?_);rintro _ B ⟨rfl,j⟩;refine⟨_,rfl,?_,j⟩;rw[I6]
def I7(d:I->Bool):∀(l:List I) (k:Nat),(lA d l k=-1/\∀t∈l,d t=false)\/∃m a,l[m]? =some a/\d a=true/\lA d l k=((k+m:Nat):Int)/\∀t∈l.take m,d t=false
 |[],k=>.inl ⟨rfl,by simp⟩
 |a::l,k=>by
  unfold lA;cases x:d a with
  |true=>grind
  |false=>
   rcases I7 d l (k+1)with⟨h,e⟩|⟨m,j,h,e,q,w⟩
   .grind
   .refine .inr ⟨m+1,j,by grind,e,?_,?_⟩
    .grind
    grind
section
variable {M:Nat->Prop} {w0 w:J} {L D:List En} {U:List Nat}
def _root_.Go.W.LH.Bi(H:LH M w0 w L D)(i:Nat){P:aE}{g:FuncId}{args:Array aa}{A K:aH}{e:aC}{sz:Nat}{s:Sl}{xs:List aa}(V:L[i]? =some (.row e sz s xs))(q:ai P g args w λr d=>A r d/\Fr (·∈ax s) w d)(z:∀r d,A r d->(∀h:En,h.P d->(∀b∈h.fp,b∈ax s\/w.heap.size<=b)->LH M w0 d (L.set i h) D)->K r d)(bp:∀b∈U,En.g b∈L:=by simp):ee U P g args w K:=
 ⟨(·∈ax s),λb k=>H.x8 V (bp b k),q.mono λr d ⟨j,f⟩=>⟨f,z r d j λh x y=>H.gv i h V f x y⟩⟩
def _root_.Go.W.LH.off(H:LH M w0 w L D)(i j:Nat){e:aC}{sz:Nat}{s:Sl}{xs:List aa}{d:En}(V:L[i]? =some (.row e sz s xs):=by rfl)(q:D[j]? =some d:=by rfl):∀h∈ax s,h∉d.fp:=λh x k=>
 H.dj d (aD q) h k _ (aD V) x
end
def uA(s:Sl)(l:List I)(r:ch)(w w':J):Prop:=∃d:Sl,r=ae d.v/\aK w' aT 4 d (l.flatMap I.c)/\∀e∈ax d,e∈ax s
def yl{w:J}{s:Sl}{l:List I}(D:List En)(q:aK w aT 4 s (l.flatMap I.c))(h:∀d∈D,d.P w/\∀y∈ax s,y∉d.fp):LH (·∈ax s) w w [.row aT 4 s (l.flatMap I.c)] D:=
 LH.tK _ _ (by
  intro d e;simp only[au,aO,aR]at e;subst e;exact⟨q,λb j=>j⟩) (by
  simp only[cV,List.flatMap_nil,List.append_nil];exact(En.row aT 4 s (l.flatMap I.c)).nd) (λd e=>⟨(h d e).1,λb j z k=>by simp only[au,aO,aR]at k;subst k;exact λx=>(h d e).2 b x j⟩)
def QR{α:Type}{l:List α}{i:Nat}{a:α}(h:i<l.length):(l.set i a).take (i+1)=l.take i++[a]:=by rw[eA,jF h,List.take_set_of_le (bm _)];rfl
def TD(s:Sl)(l:List I)(u:I)(b:Nat)(w:J)(hl:I.a0 l<=1000000)(L:aK w aT 4 s (l.flatMap I.c))(pl:I.Ps w l)(pu:u.P w)(hb:w.heap[b]? =some (.cells u.c.toArray aT (0,0)))(H:∀h∈ax s,h∉I.a8 l/\h∉u.fp/\h≠b):
  ai Y Ml #[s.v,.func (.func sS) #[] #[.pointer (some (ab b))]] w λr x=>uA s (l.filter λt=>!(a5 t.rx u.rx==0)) r w x/\Fr (·∈ax s) w x:=by
 have nr:=I.cr L.bd;have ll:=I.fv l;have kt:∀t∈l,t.sz<=1000000:=λt z=>a6 (I.eh z) hl;have M:LH (·∈ax s) w w [.row aT 4 s (l.flatMap I.c)] [.trees l,.tree u,dS b u]:=yl _ L (by
  intro aa U;simp only[au,aO,aR]at U;rcases U with rfl|rfl|rfl
  .exact ⟨pl,λh e A=>(H h e).1 (aM.1 A)⟩
  .exact ⟨pu,λh e A=>(H h e).2.1 (aM.1 A)⟩
  .exact ⟨hb,λh e A=>(H h e).2.2 (by simpa[dS,En.c,En.ob]using A)⟩)
 have loop:∀(d i j:Nat) (cur:List I) (B:J),j+d=l.length->i<j->cur.length=l.length->cur.drop j=l.drop j->cur.take i=(l.take j).filter (λt=>!(a5 t.rx u.rx==0))->LH (·∈ax s) w B [.row aT 4 s (cur.flatMap I.c)] [.trees l,.tree u,dS b u]->
   q3.a2 s (ab b) (i:Int) (j:Int) B λr x=>uA s (l.filter λt=>!(a5 t.rx u.rx==0)) r w x/\Fr (·∈ax s) w x:=by
  intro d;induction d with
  |zero=>
   intro i j cur B hj ae T E W q;refine q3.bw _ _ _ _ _ _ (aZ (aW (by omega)) ⟨by omega,by omega,?_⟩);have aj:=(q.get 0:aK _ _ _ _ _).cap;obtain⟨w2,C,Q,G⟩:=Hz (ty:=kq) qq R1 rfl (q.get 0) i (by omega);refine⟨w2,C,by omega,by omega,⟨⟨if s.c=0 then s.a else s.a.map (·.add (0 *4)),i - 0,s.c - 0⟩,rfl,?_,λh e=>?_⟩,q.fr.trans G λh _ ac=>ac⟩
   .have aa:(cur.flatMap I.c).take (i *4)=(l.filter λt=>!(a5 t.rx u.rx==0)).flatMap I.c:=by
     have e1:(cur.flatMap I.c).take (i *4)=(cur.take i).flatMap I.c:=by
      have:=I.eW (cur.take i);conv=>lhs;rw[<-lO i cur,dt]
      grind
     grind
    grind
   .simp only[ax]at e ⊢;split at e
    .rename_i p y;split at y
     .omega
     .cases ag:s.a with
      |none=>grind
      |some al=>
       rw[ag]at y;simp only[Option.map_some,eI]at y;subst y;rw[iX]at e;exact e
    grind
  |succ d Z=>
   intro i j cur B hj ae T E W q;have K:l[j]? =some (l[j]'(by omega)):=a4 (by omega);generalize ak:l[j]'(by omega)=a at K;have ad:cur[j]? =some a:=by
    have:(cur.drop j)[0]? =(l.drop j)[0]?:=by rw[E]
    grind
   have S:=aD K;have af:l.take (j+1)=l.take j++[a]:=by rw[eA,K];rfl
   refine q3.bw _ _ _ _ _ _ (a1 (aS (by omega)) ⟨by omega,by omega,DI (q.get 0) ad λp y c=>⟨a.k,a.lo.toNat,a.V.toNat,a.s,c.c0,c.c1,c.c2,c.c3,?_⟩⟩);refine q.aG (λb7 w2 H2=>H2.ah λw3 D=>?_);refine D.aw (GK a u b w3 (kt a S) ((show I.Ps w3 l from D.getD 0).mem S) (D.getD 1) (D.getD 2)) ?_;rintro _ w4 rfl N;refine⟨_,rfl,dN (λhf=>⟨by omega,by omega,?_⟩) (λz=>?_)⟩
   .rw [y];refine(show dM (some p) _ from ?_);refine N.QD 0 i (t:=a) (O:=cur) rfl y (by omega) (λw5 H5=>?_);show q3.a2 _ _ _ _ _ _;rw[bb _ (by omega),bb _ (by omega)];refine Z (i+1) (j+1) (cur.set i a) w5 (by omega) (by omega) (by grind) ?_ ?_ (H5.take 1)
    .rw [List.drop_set_of_lt (by omega),<-pf,E,pf]
    .rw [QR (by omega),W,af,List.filter_append]
     grind
   .show q3.a2 _ _ _ _ _ _;rw[bb _ (by omega)];refine Z i (j+1) cur w4 (by omega) (by omega) T ?_ ?_ (N.take 1)
    .rw [<-pf,E,pf]
    grind
 refine q3.aB _ _ w _ ?_;have hI:=Gv s l ⟨sS,#[],#[.pointer (some (ab b))]⟩ (λt=>a5 t.rx u.rx==0) [.trees l,.tree u,dS b u] w (by omega) L.bd (M.rd) (by kernel_rfl) (λx t z F=>GK t u b x (kt t z) ((show I.Ps x l from F.getD 1).mem z) (F.getD 2) (F.getD 3));refine M.call hI ?_;rintro _ B rfl q;rcases I7 (λt=>a5 t.rx u.rx==0) l 0 with⟨C,Q⟩|⟨m,a,C,Q,G,h4⟩
 .refine ⟨_,rfl,a1 (by grind) ⟨⟨s,rfl,?_,λh e=>e⟩,q.fr⟩⟩;rw[List.filter_eq_self.2 (λt z=>by grind)];exact q.get 0
 .have A:m<l.length:=(cz.1 C).1;refine⟨_,rfl,aZ (by grind) ?_⟩;rw[G,Nat.zero_add,bb _ (by omega)];refine loop (l.length - (m+1)) m (m+1) l B (by omega) (by omega) rfl rfl ?_ q;rw[eA,C,List.filter_append,List.filter_eq_self.2 (λt z=>by grind)]
  grind
def eO(x k:I):List I:=if k.k=x.k then k.l else[k]
def Cw(u t:I):Bool:=!(a5 t.rx u.rx==0)
def gg(x u:I):List I:=(x.l.flatMap (eO x)).filter (Cw u)
structure Sub(x:I)(l:List I):Prop where
 P:∀w:J,x.P w->∀t∈l,t.P w
 fp:∀t∈l,∀b∈t.fp,b∈x.fp
def Sub.part{x t:I}(h:t∈x.l):Sub x [t]:=⟨λq j k d=>by
  simp at d;subst d;exact j.parts.2.mem h,λk d b e=>by simp at d;subst d;exact I.gh.2 (.inr (I.bJ.2 ⟨_,h,e⟩))⟩
def Sub.open{x k:I}(h:k∈x.l):Sub x (eO x k):=by
 unfold eO;split
 .exact ⟨λq j t d=>((j.parts.2.mem h).parts.2).mem d,λt d b e=>I.gh.2 (.inr (I.bJ.2 ⟨k,h,I.gh.2 (.inr (I.bJ.2 ⟨t,d,e⟩))⟩))⟩
 .exact .part h
def Sub.flat{x:I}{l:List I}(h:∀e∈l,e∈x.l):Sub x (l.flatMap (eO x)):=⟨λq k t d=>by
  obtain⟨e,j,d⟩:=bS.1 d;exact(Sub.open (h e j)).P q k t d,λt d=>by obtain⟨e,j,d⟩:=bS.1 d;exact(Sub.open (h e j)).fp t d⟩
def Sub.sub{x:I}{l m:List I}(h:Sub x l)(e:∀t∈m,t∈l):Sub x m:=⟨λk j t d=>h.P k j t (e t d),λt d=>h.fp t (e t d)⟩
def Sub.Ps{x:I}{l:List I}(h:Sub x l){w:J}(d:x.P w):I.Ps w l:=I.ir (h.P w d)
def Sub.a8{x:I}{l:List I}(h:Sub x l){b:Nat}(d:b∈I.a8 l):b∈x.fp:=by obtain⟨t,e,d⟩:=I.bJ.1 d;exact h.fp t e b d
def Sub.gg(x u:I):Sub x (gg x u):=(Sub.flat (λ_ d=>d)).sub λ_ d=>(List.mem_filter.1 d).1
def tP(x:I):∀l:List I,I.a0 (l.flatMap (eO x))<=I.a0 l
 |[]=>bm _
 |d::l=>by
  have e:I.a0 (eO x d)<=d.sz:=by
   unfold eO;split
   .rw [I.hW d];omega
   .simp [I.a0]
  rw[cV,tO];have:=tP x l;show _<=d.sz+I.a0 l;omega
def QJ(d:I->Bool):∀l:List I,I.a0 (l.filter d)<=I.a0 l
 |[]=>bm _
 |e::l=>by
  have:=QJ d l;rw[List.filter_cons];split
  .unfold I.a0;omega
  .show _<=e.sz+I.a0 l;omega
def aaJ(x u:I):I.a0 (gg x u)+1<=x.sz:=by have d:=QJ (Cw u) (x.l.flatMap (eO x));have e:=tP x x.l;rw[I.hW x];unfold gg;omega
def AK(w:J)(l:List I)(r:ch)(w':J):Prop:=∃d:Sl,r=ae d.v/\aK w' aT 4 d (l.flatMap I.c)/\∀e∈ax d,w.heap.size<=e
def T5(x u:I)(w:J)(h:x.sz<=1000000)(Z:x.P w)(pu:u.P w):ai Y L7 #[x.v,u.v] w λr w'=>AK w (gg x u) r w'/\ag w w':=by
 have hs:=I.hW x;have hl:=I.fv x.l;have nr:=I.cr Z.parts.1;have loop:∀(d i:Nat) (acc:List I) (sl:Sl) (q B:Nat) (z:J),i+d=x.l.length->acc=(x.l.take i).flatMap (eO x)->LH F0 w z [.g q,.c B u.c aT,.row aT 4 sl (acc.flatMap I.c)] [.tree x,.tree u]->
   qY.a2 q x.k x.lo.toNat x.V.toNat x.s (ab B) sl x.s ((x.s.n:Nat):Int) (i:Int) z λr w'=>AK w (gg x u) r w'/\ag w w':=by
  intro d;induction d with
  |zero=>
   intro i acc sl q B z hi C e;have T:Sub x acc:=by rw[C];exact Sub.flat λal D=>List.mem_of_mem_take D
   have ac:I.a0 acc<=I.a0 x.l:=by rw[C,fQ (by omega)];exact tP x x.l
   refine qY.bw _ _ _ _ _ _ _ _ _ _ _ _ (aZ (aW (by omega)) ?_);refine e.Bi 2 rfl (TD sl acc u B z (by omega) (e.get 2) (T.Ps (e.getD 0)) (e.getD 1) (e.ob 1) (λS M=>⟨λy=>e.off 2 0 rfl rfl S M (aM.2 (T.a8 y)),λy=>e.off 2 1 rfl rfl S M (aM.2 y),λy=>?_⟩)) ?_
   .exact mf e.nd (i:=2) rfl (j:=1) rfl (by omega) S M (by simp[En.c,En.ob,y])
   rintro _ N ⟨s',rfl,L,hb⟩ hH;have A:=hH (.row aT 4 s' ((acc.filter (Cw u)).flatMap I.c)) L λb K=>.inl (hb b K);refine⟨s',rfl,⟨s',rfl,?_,λb K=>(A.new _ (aD (i:=2) rfl) b K).resolve_right id⟩,A.fr⟩;rw[C,fQ (by omega)]at L;exact L
  |succ d ak=>
   intro i acc sl q B z hi C e;have G:x.l[i]? =some (x.l[i]'(by omega)):=a4 (by omega);generalize x.l[i]'(by omega)=a at G;have y:=aD G;have ad:x.P z:=e.getD 0;have an:=I.eh y;have ac:I.a0 acc<=I.a0 x.l:=by
    have h1:=tP x (x.l.take i);have h2:=zy x.l i
    grind
   have ae:acc++eO x a=(x.l.take (i+1)).flatMap (eO x):=by rw[eA,G,dt,C];simp
   have am:=I.cr (e.get 2:aK _ _ _ _ _).bd;have aa:=I.fv acc;have tail:∀(s':Sl) (w':J),LH F0 w w' [.g q,.c B u.c aT,.row aT 4 s' ((acc++eO x a).flatMap I.c)] [.tree x,.tree u]->qY.bM q x.k x.lo.toNat x.V.toNat x.s (ab B) s' x.s ((x.s.n:Nat):Int) (i:Int) w' λr w'=>AK w (gg x u) r w'/\ag w w':=by
    intro s' w' H';show qY.a2 _ _ _ _ _ _ _ _ _ _ _ _;rw[bb _ (by omega)]
    grind
   refine qY.bw _ _ _ _ _ _ _ _ _ _ _ _ (a1 (aS (by omega)) ⟨by omega,by omega,I.dd ad.parts.1 G λp hp c=>⟨_,_,_,_,c.c0,c.c1,c.c2,c.c3,?_⟩⟩);refine e.aG λb7 N A=>aL (λD=>A.ah λO E=>?_) (λD=>A.ah λO E=>?_)
   .have W:a.P O:=(show x.P O from E.getD 0).parts.2.mem y;have na:=I.cr W.parts.1;have aa:=I.fv a.l;have aj:=I.hW a;refine E.dc 2 qq (xs:=acc.flatMap I.c) (src:=a.s) (news:=a.l.flatMap I.c) rfl W.parts.1 (r4 _) (by omega) (λs' Q H=>?_);refine tail s' Q ?_;have F:eO x a=a.l:=aq D;rw[F,dt];exact H.take 3
   .refine E.h7 2 qq (xs:=acc.flatMap I.c) rfl (λs' Q H=>?_) (by omega);refine tail s' Q ?_;have F:eO x a=[a]:=af D;rw[F,me];exact H.take 3
 refine qY.aB _ _ _ _ _ _ _ _ w _ ((bI [.tree x,.tree u] (by
  intro F U;simp only[au,aO,aR]at U;rcases U with rfl|rfl
  .exact Z
  .exact pu)).aG λq z H1=>H1.nw λN _ A=>?_)
 exact loop x.l.length 0 [] ⟨none,0,0⟩ q z.heap.size N (by omega) rfl (A.hR aT 4)
def Bo(a b:Int):cy b a=-cy a b:=by
 have s:∀a b:Int,(cy a b=-1/\a<b)\/(cy a b=1/\b<a)\/(cy a b=0/\a=b):=λa b=>by
  unfold cy;split
  .exact .inl ⟨rfl,by omega⟩
  .split
   .exact .inr (.inl ⟨rfl,by omega⟩)
   .exact .inr (.inr ⟨rfl,by omega⟩)
 rcases s a b with d|d|d<;>rcases s b a with e|e|e<;>omega
def DF(c d:Int)(l m:List Int)(h:d=-c)(e:ef m=-ef l):ef (d::m)=-ef (c::l):=by
 show(if d≠0 then d else ef m)=-(if c≠0 then c else ef l);split
 .rw [aq (by omega)];exact h
 .rw [af (by omega)];exact e
def vV(c:Int):ef [c]=c:=by show(if c≠0 then c else 0)=c;split<;>omega
def r8(k:Int)(lo V:UInt8)(l:List Rx)(b:Rx):a5 (.mk k lo V l) b=ef [cy k b.k,cy lo.toNat b.lo.toNat,cy V.toNat b.V.toNat,cmpL l b.l]:=by
 unfold a5;generalize cy k b.k=c0;generalize cy lo.toNat b.lo.toNat=c1;generalize cy V.toNat b.V.toNat=c2;generalize cmpL l b.l=c3;simp only[ef];by_cases d:c0=0
 .by_cases e:c1=0
  .by_cases h:c2=0
   .by_cases j:c3=0<;>simp[d,e,h,j]
   .simp [d,e,h]
  .simp [d,e]
 .simp [d]
mutual
def jr:∀a b:Rx,a5 b a=-a5 a b
 |.mk j lo e l,.mk k q h d=>by rw[r8,r8];exact DF _ _ _ _ (Bo _ _) (DF _ _ _ _ (Bo _ _) (DF _ _ _ _ (Bo _ _) (by rw[vV,vV];exact Hn l d)))
def Hn:∀a b:List Rx,cmpL b a=-cmpL a b
 |[],[]=>by unfold cmpL;rfl
 |[],_::_=>by unfold cmpL;rfl
 |_::_,[]=>by unfold cmpL;rfl
 |d::l,e::m=>by
  have h:=jr d e;have j:=Hn l m;show(if a5 e d≠0 then a5 e d else cmpL m l)=-(if a5 d e≠0 then a5 d e else cmpL l m);split
  .rw [aq (by omega)];exact h
  .rw [af (by omega)];exact j
end
structure p'(x y z:Int):Prop where
 le:x<=0->y<=0->z<=0
 lt:x<0->y<=0->z<0
 lt':x<=0->y<0->z<0
 eq:x=0->y=0->z=0
def Bp(a b c:Int):p' (cy a b) (cy b c) (cy a c):=by
 have s:∀a b:Int,(cy a b=-1/\a<b)\/(cy a b=1/\b<a)\/(cy a b=0/\a=b):=λa b=>by
  unfold cy;split
  .exact .inl ⟨rfl,by omega⟩
  .split
   .exact .inr (.inl ⟨rfl,by omega⟩)
   .exact .inr (.inr ⟨rfl,by omega⟩)
 rcases s a b with d|d|d<;>rcases s b c with e|e|e<;>rcases s a c with h|h|h<;>constructor<;>omega
def zG{x y z A B C:Int}(h:p' x y z)(I:p' A B C):p' (if x≠0 then x else A) (if y≠0 then y else B) (if z≠0 then z else C):=by
 obtain⟨K,j,q,D⟩:=h;obtain⟨E,F,G,H⟩:=I;by_cases w:x=0
 .by_cases k:y=0
  .have L:=D w k;rw[af (by omega),af (by omega),af (by omega)];exact⟨E,F,G,H⟩
  .rw [af (by omega:¬x≠0),aq k];constructor
   .intro d e;have:=q (by omega) (by omega);rw[aq (by omega)];omega
   .intro d e;have:=q (by omega) (by omega);rw[aq (by omega)];omega
   .intro d e;have:=q (by omega) (by omega);rw[aq (by omega)];omega
   .intro d e;omega
 .rw [aq w];by_cases k:y=0
  .rw [af (by omega:¬y≠0)];constructor
   .intro d e;have:=j (by omega) (by omega);rw[aq (by omega)];omega
   .intro d e;have:=j (by omega) (by omega);rw[aq (by omega)];omega
   .intro d e;have:=j (by omega) (by omega);rw[aq (by omega)];omega
   .intro d e;omega
  .rw [aq k];constructor
   .intro d e;have:=j (by omega) (by omega);rw[aq (by omega)];omega
   .intro d e;have:=j (by omega) (by omega);rw[aq (by omega)];omega
   .intro d e;have:=j (by omega) (by omega);rw[aq (by omega)];omega
   .intro d e;omega
mutual
def uT:∀a b c:Rx,p' (a5 a b) (a5 b c) (a5 a c)
 |.mk q lo h l,.mk w y j d,.mk x z k e=>by
  rw[r8,r8,r8];have:=Ho l d e;exact zG (Bp _ _ _) (zG (Bp _ _ _) (zG (Bp _ _ _) (by show p' (ef [cmpL l d]) (ef [cmpL d e]) (ef [cmpL l e]);rw[vV,vV,vV];exact this)))
def Ho:∀a b c:List Rx,p' (cmpL a b) (cmpL b c) (cmpL a c)
 |[],[],[]=>by unfold cmpL;constructor<;>omega
 |[],[],_::_=>by unfold cmpL;constructor<;>omega
 |[],_::_,[]=>by unfold cmpL;constructor<;>omega
 |_::_,[],[]=>by unfold cmpL;constructor<;>omega
 |_::_,[],_::_=>by have d:∀(x:Rx) (l:List Rx),cmpL (x::l) []=1:=λ_ _=>rfl;have e:∀(x:Rx) (l:List Rx),cmpL [] (x::l)=-1:=λ_ _=>rfl;rw[d,e];constructor<;>omega
 |[],h::m,j::n=>by have e:∀(x:Rx) (l:List Rx),cmpL [] (x::l)=-1:=λ_ _=>rfl;rw[e,e];constructor<;>omega
 |x::l,h::m,[]=>by have d:∀(x:Rx) (l:List Rx),cmpL (x::l) []=1:=λ_ _=>rfl;rw[d,d];constructor<;>omega
 |x::l,h::m,j::n=>zG (uT x h j) (Ho l m n)
end
def lB(x:Rx):List Rx->List Rx
 |[]=>[x]
 |d::p=>if a5 x d<0 then d::lB x p else x::d::p
def kn(l:List Rx):List Rx:=(l.foldl (λp d=>lB d p) []).reverse
def jX(p:Rx):List Rx->List Rx
 |[]=>[]
 |d::l=>if a5 d p==0 then jX d l else d::jX d l
def qo:List Rx->List Rx
 |[]=>[]
 |a::l=>a::jX a l
def Bq{a b:Int}(h:cy a b=0):a=b:=by
 unfold cy at h;split at h
 .cases h
 .split at h
  .cases h
  .omega
def NJ:∀{l:List Int},ef l=0->∀h∈l,h=0
 |[],_=>λh d=>by cases d
 |a::l,e=>by
  unfold ef at e;split at e
  .rename_i k;exact absurd e k
  .rename_i j;have j:a=0:=by simpa using j
   intro h d;rcases au.1 d with rfl|d
   .exact j
   .exact NJ e h d
def Ru{a b:UInt8}(h:(a.toNat:Int)=b.toNat):a=b:=UInt8.toNat_inj.1 (by omega)
mutual
def cmp_eq:∀a b:Rx,a5 a b=0->a=b
 |.mk z lo x l,.mk A B y w,d=>by rw[r8]at d;have d:=NJ d;have e:=Bq (d _ (kf ..));have h:=Ru (Bq (d _ (e8 _ (kf ..))));have j:=Ru (Bq (d _ (e8 _ (e8 _ (kf ..)))));have q:=Hs l w (d _ (e8 _ (e8 _ (e8 _ (kf ..)))));simp only[Rx.k,Rx.lo,Rx.V]at e h j;rw[e,h,j,q]
def Hs:∀l m:List Rx,cmpL l m=0->l=m
 |[],[],_=>rfl
 |[],_::_,d=>by unfold cmpL at d;cases d
 |_::_,[],d=>by unfold cmpL at d;cases d
 |a::l,b::m,d=>by
  unfold cmpL at d;split at d
  .rename_i h;exact absurd d h
  .rename_i e;rw[cmp_eq a b (by simpa using e),Hs l m d]
end
def Bt(a:Rx):a5 a a=0:=by have:=jr a a;omega
def qn{a b:Rx}:(a5 a b==0)=true↔a=b:=⟨λd=>cmp_eq a b (eq_of_beq d),λd=>by subst d;rw[Bt];rfl⟩
def uV{a b:Rx}:a5 a b=0↔a=b:=⟨cmp_eq a b,λd=>by subst d;exact Bt a⟩
def Hr{a b:Rx}:(!(a5 a b==0))=true↔a≠b:=by rw[Bool.not_eq_true',<-iR,not_congr qn]
abbrev iT(l:List Rx):Prop:=l.Pairwise λa b=>a5 a b<0
abbrev ku(l:List Rx):Prop:=l.Pairwise λa b=>a5 a b<=0
def iT.nodup{l:List Rx}(h:iT l):l.Nodup:=List.nodup_iff_pairwise_ne.2 (h.imp λ{a b} e d=>by subst d;rw[Bt]at e;omega)
def iT.Gj{l:List Rx}(h:iT l):ku l:=h.imp λ{a b} d=>by omega
def Gk{l m:List Rx}(d:ku l)(e:ku m)(h:l.Perm m):l=m:=List.Perm.eq_of_pairwise (λa b _ _ j k=>cmp_eq a b (by have:=jr a b;omega)) d e h
def Wp{l m:List Rx}(d:iT l)(e:iT m)(h:∀t,t∈l↔t∈m):l=m:=Gk d.Gj e.Gj ((List.perm_ext_iff_of_nodup d.nodup e.nodup).2 h)
def Co(x:Rx):∀p:List Rx,(lB x p).Perm (x::p)
 |[]=>.refl _
 |d::p=>by
  unfold lB;split
  .exact ((Co x p).cons d).trans (.swap x d p)
  .exact .refl _
def Jc(x:Rx):∀{p:List Rx},p.Pairwise (λa b=>a5 b a<=0)->(lB x p).Pairwise λa b=>a5 b a<=0
 |[],_=>by unfold lB;simp
 |h::p,j=>by
  have e:=List.pairwise_cons.1 j;unfold lB;split
  .rename_i q;refine List.pairwise_cons.2 ⟨λt d=>?_,Jc x e.2⟩;rcases au.1 ((Co x p).mem_iff.1 d)with rfl|d
   .omega
   .exact e.1 t d
  .rename_i q;have k:a5 h x<=0:=by have:=jr x h;omega
   refine List.pairwise_cons.2 ⟨λt d=>?_,j⟩;rcases au.1 d with rfl|d
   .exact k
   .exact (uT t h x).le (e.1 t d) k
def EL(l:List Rx):(kn l).Perm l:=by
 have:∀(l p:List Rx),(l.foldl (λp h=>lB h p) p).Perm (l++p):=by
  intro l;induction l with
  |nil=>intro p;exact .refl _
  |cons a l e=>
   intro p;rw[List.foldl_cons];exact(e _).trans (((Co a p).append_left l).trans List.perm_middle)
 unfold kn;have d:=this l [];rw[List.append_nil]at d;exact(List.reverse_perm _).trans d
def EK(l:List Rx):ku (kn l):=by
 have:∀(l p:List Rx),p.Pairwise (λa b=>a5 b a<=0)->(l.foldl (λp h=>lB h p) p).Pairwise λa b=>a5 b a<=0:=by
  intro l;induction l with
  |nil=>intro p d;exact d
  |cons a l e=>intro p d;exact e _ (Jc a d)
 unfold kn;exact List.pairwise_reverse.2 (this l [] .nil)
def Z8{l m:List Rx}(h:ku m)(d:m.Perm l):m=kn l:=Gk h (EK l) (d.trans (EL l).symm)
def Bv{t:Rx}:∀{l:List Rx} {p:Rx},(t=p\/t∈jX p l)↔(t=p\/t∈l)
 |[],p=>by unfold jX;simp
 |e::l,p=>by
  unfold jX;split
  .rename_i d;have h:e=p:=qn.1 d;subst h;rw[Bv,au];constructor
   .rintro (d|d)<;>simp[d]
   .rintro (d|d|d)<;>simp[d]
  .rw [au,au];have:=Bv (t:=t) (l:=l) (p:=e);constructor
   .rintro (d|d)
    .exact .inl d
    .exact .inr (this.1 d)
   .rintro (d|d)
    .exact .inl d
    .exact .inr (this.2 d)
def Bu:∀{l:List Rx} {p:Rx},ku (p::l)->iT (p::jX p l)
 |[],p,_=>by unfold jX;simp
 |d::l,p,x=>by
  obtain⟨y,k⟩:=List.pairwise_cons.1 x;unfold jX;split
  .rename_i j;have e:d=p:=qn.1 j;subst e;exact Bu k
  .rename_i j;have w:a5 p d<0:=by have z:=y d (by simp);have A:=jr d p;have B:a5 d p≠0:=λe=>j (by rw[e];rfl);omega
   have q:=Bu k;refine List.pairwise_cons.2 ⟨λt h=>?_,q⟩;rcases au.1 h with rfl|h
   .exact w
   .exact (uT p d t).lt w (by have:=(List.pairwise_cons.1 q).1 t h;omega)
def UR{l:List Rx}(h:ku l):iT (qo l):=by
 cases l with
 |nil=>exact .nil
 |cons a l=>exact Bu h
def US{t:Rx}{l:List Rx}:t∈qo l↔t∈l:=by
 cases l with
 |nil=>exact Iff.rfl
 |cons a l=>show t∈a::jX a l↔_;rw[au,au];exact Bv
def tB(l:List Rx):List Rx:=qo (kn l)
def PV(l:List Rx):iT (tB l):=UR (EK l)
def PW{t:Rx}{l:List Rx}:t∈tB l↔t∈l:=by unfold tB;rw[US,(EL l).mem_iff]
def kT(r:Rx):List Rx->List Rx
 |[]=>[r]
 |d::p=>if a5 d r<0 then d::kT r p else if a5 d r=0 then d::p else r::d::p
def DY{t r:Rx}:∀{p:List Rx},t∈kT r p↔t=r\/t∈p
 |[]=>by unfold kT;simp
 |j::p=>by
  unfold kT;split
  .rw [au,DY,au];constructor
   .rintro (d|d|d)<;>simp[d]
   .rintro (d|d|d)<;>simp[d]
  .split
   .rename_i h;have e:=cmp_eq j r h;subst e;simp
   .simp
def Oo{r:Rx}:∀{p:List Rx},iT p->iT (kT r p)
 |[],_=>by unfold kT;simp
 |h::p,e=>by
  obtain⟨j,w⟩:=List.pairwise_cons.1 e;unfold kT;split
  .rename_i q;refine List.pairwise_cons.2 ⟨λt d=>?_,Oo w⟩;rcases DY.1 d with rfl|d
   .exact q
   .exact j t d
  .split
   .exact e
   .rename_i q x;have k:a5 r h<0:=by have:=jr r h;omega
    refine List.pairwise_cons.2 ⟨λt d=>?_,e⟩;rcases au.1 d with rfl|d
    .exact k
    .exact (uT r h t).lt k (by have:=j t d;omega)
def gP(k:Int):List Rx->List Rx->List Rx
 |out,[]=>out
 |out,t::l=>gP k (if k=3 then out++[t]else kT t out) l
def NM:∀(l out:List Rx),gP 3 out l=out++l
 |[],out=>by unfold gP;simp
 |t::l,out=>by unfold gP;rw[NM l,aq rfl];simp
def NN{k:Int}(e:k≠3):∀(l:List Rx) {out:List Rx},iT out->iT (gP k out l)
 |[],_,d=>d
 |t::l,out,d=>by unfold gP;rw[af e];exact NN e l (Oo d)
def NO{k:Int}(e:k≠3){t:Rx}:∀(l:List Rx) {out:List Rx},t∈gP k out l↔t∈out\/t∈l
 |[],out=>by unfold gP;simp
 |a::l,out=>by
  unfold gP;rw[af e,NO e l,DY,au];constructor
  .rintro ((d|d)|d)<;>simp[d]
  .rintro (d|d|d)<;>simp[d]
def Yu(k:Int)(l:List Rx):gP k [] l=if k=3 then l else tB l:=by
 split
 .rename_i d;subst d;rw[NM];rfl
 .rename_i d;exact Wp (NN d l .nil) (PV l) λt=>by rw[NO d,PW];simp
def ms(μ:Rx->Nat):List Rx->Nat
 |[]=>0
 |a::l=>μ a+ms μ l
section
variable {μ:Rx->Nat}
def Ka:∀l m:List Rx,ms μ (l++m)=ms μ l+ms μ m
 |[],m=>by simp[ms]
 |a::l,m=>by show μ a+ms μ (l++m)=μ a+ms μ l+ms μ m;rw[Ka l m];omega
def XM{l m:List Rx}(h:l.Perm m):ms μ l=ms μ m:=by
 induction h with
 |nil=>rfl
 |cons d _ q=>show μ d+_=μ d+_;rw[q]
 |swap d e l=>show μ e+(μ d+_)=μ d+(μ e+_);omega
 |trans _ _ j k=>rw[j,k]
end
mutual
def dx:Rx->Nat|.mk _ _ _ l=>max 1 (yr l)
def yr:List Rx->Nat
 |[]=>0
 |a::l=>dx a+yr l
end
def J2:∀l:List Rx,yr l=ms dx l
 |[]=>rfl
 |a::l=>by unfold yr;rw[J2 l];rfl
def qG(k:Int)(lo V:UInt8)(l:List Rx):dx (.mk k lo V l)=max 1 (ms dx l):=by unfold dx;rw[J2]
mutual
def nV(N:Nat):Rx->Prop|.mk k _ _ l=>qw N l/\(k=4\/k=5->ms dx l<=N)
def qw(N:Nat):List Rx->Prop
 |[]=>True
 |a::l=>nV N a/\qw N l
end
mutual
def B1{N:Nat}:∀d:Rx,dx d<=N->nV N d
 |.mk j lo h l,e=>by rw[qG]at e;unfold nV;exact⟨ID l (by omega),λ_=>by omega⟩
def ID{N:Nat}:∀l:List Rx,ms dx l<=N->qw N l
 |[],_=>by unfold qw;trivial
 |a::l,d=>by have d:dx a+ms dx l<=N:=d;unfold qw;exact⟨B1 a (by omega),ID l (by omega)⟩
end
abbrev Xm:ByteArray:=ByteArray.mk #[0,1,2,2,3,3,3,3,4,4,4,4,4,4,4,4,5,5,5,5,5,5,5,5,5,5,5,5,5,5,5,5,6,6,6,6,6,6,6,6,6,6,6,6,6,6,6,6,6,6,6,6,6,6,6,6,6,6,6,6,6,6,6,6,7,7,7,7,7,7,7,7,7,7,7,7,7,7,7,7,7,7,7,7,7,7,7,7,7,7,7,7,7,7,7,7,7,7,7,7,7,7,7,7,7,7,7,7,7,7,7,7,7,7,7,7,7,7,7,7,7,7,7,7,7,7,7,7,8,8,8,8,8,8,8,8,8,8,8,8,8,8,8,8,8,8,8,8,8,8,8,8,8,8,8,8,8,8,8,8,8,8,8,8,8,8,8,8,8,8,8,8,8,8,8,8,8,8,8,8,8,8,8,8,8,8,8,8,8,8,8,8,8,8,8,8,8,8,8,8,8,8,8,8,8,8,8,8,8,8,8,8,8,8,8,8,8,8,8,8,8,8,8,8,8,8,8,8,8,8,8,8,8,8,8,8,8,8,8,8,8,8,8,8,8,8,8,8,8,8,8,8,8,8,8,8]
namespace j7
noncomputable abbrev t0:=az Y Tryz.f149 [] []
abbrev P0:Ps:=[(0,.v [.U]),(2,.v [.I])]
noncomputable abbrev S2:=av t0 [4] P0
noncomputable abbrev t1:=ay S2
noncomputable abbrev S1:=av t1 [3] P0
noncomputable abbrev t2:=ay S1
noncomputable abbrev S0:=av t2 [2] P0
noncomputable abbrev t3:=ay S0
def ok:=aA t3 Ly [.U]
end j7
namespace CH
noncomputable abbrev t0:=az Y Tryz.f209 [] []
def ok:=aA t0 CW [.U]
end CH
namespace lR
noncomputable abbrev t0:=az Y Tryz.f217 [(4,ls [0,1,2,3,4,5,6,7,8,9,10,11,12,13,14,15,16]),(6,ls [0,1,2,3,4,5,6,7,8,9,10,11,12,13,14,15,16,17])] []
abbrev P0:Ps:=[(0,.v [.s]),(1,.v [.I]),(2,.v [.I]),(3,.v [.g cd 0 0]),(8,.v [.I])]
noncomputable def L0:=bf t0 [0,1,1] P0
noncomputable abbrev t1:=be L0
noncomputable def L1:=bf t1 [0,1,1,2,1,2,1] [(0,.v [.s]),(1,.v [.I]),(2,.v [.I]),(3,.v [.g cd 0 0]),(8,.v [.I]),(9,.v [.I])]
noncomputable abbrev t2:=be L1
noncomputable abbrev S2:=av t2 [2,2,1] P0
noncomputable abbrev t3:=ay S2
def fI:=bg t3 L1
def bC:=bg t3 L0
def ok:=aA t3 Dj [.s,.I,.I,.g cd 0 0]
end lR
namespace Qc
noncomputable abbrev t0:=az Y Tryz.f234 [(1,ls [0,1,2,3,4,5,6,7,8,9,10])] []
def ok:=aA t0 Mt [.s,.I,.I,.r,.g cd 0 0]
end Qc
namespace Qa
noncomputable abbrev t0:=az Y Tryz.f233 [] []
def ok:=aA t0 Ms [.s,.I,.I,.I,.r,.g cd 0 0]
end Qa
namespace zs
noncomputable abbrev t0:=az Y Tryz.f220 [] []
noncomputable abbrev S5:=av t0 [7] [(11,.v [.r]),(13,.v [.I])]
noncomputable abbrev t1:=ay S5
noncomputable abbrev S4:=av t1 [1,1,1,1,6] [(0,.v [.s]),(3,.v [.g cd 0 0]),(11,.v [.r]),(12,.v [.I]),(13,.v [.I]),(14,.v [.I])]
noncomputable abbrev t2:=ay S4
noncomputable abbrev S3:=av t2 [6] [(0,.v [.s]),(3,.v [.g cd 0 0]),(10,.v [.I]),(11,.v [.r]),(12,.v [.I]),(13,.v [.I]),(14,.v [.I])]
noncomputable abbrev t3:=ay S3
noncomputable abbrev S2:=av t3 [5] [(0,.v [.s]),(1,.v [.I]),(3,.v [.g cd 0 0]),(10,.v [.I]),(11,.v [.r]),(12,.v [.I]),(13,.v [.I])]
noncomputable abbrev t4:=ay S2
noncomputable abbrev S1:=av t4 [4] [(0,.v [.s]),(1,.v [.I]),(3,.v [.g cd 0 0]),(10,.v [.I]),(11,.v [.r]),(12,.v [.I])]
noncomputable abbrev t5:=ay S1
noncomputable abbrev S0:=av t5 [2] [(0,.v [.s]),(1,.v [.I]),(3,.v [.g cd 0 0]),(10,.v [.I])]
noncomputable abbrev t6:=ay S0
def ok:=aA t6 Mp [.s,.I,.I,.g cd 0 0]
end zs
namespace je
noncomputable abbrev t0:=az Y Tryz.f222 [(5,ls [0,1,2,3,4,5,6,7,8,9,10,11,12,13,14,15,16,17]),(11,ls [0,1,2,3,4,5,6,7,8,9,10,11,12,13,14,15,16,17]),(16,ls [0,1,2,3,4,5,6,7,8,9,10,11,12]),(17,ls [0,1,2,3,4,5,6,7,8,9,10,11,12,13,14,15,16,17]),(22,ls [0,1,2,3,4,5,6,7,8,9,10,11,12]),(23,ls [0,1,2,3,4,5,6,7,8,9,10,11,12,13,14,15,16,17])] []
abbrev P0:Ps:=[(0,.v [.s]),(1,.v [.I]),(2,.v [.I]),(3,.v [.g cd 0 0]),(9,.v [.I]),(10,.v [.I])]
noncomputable def L1:=bf t0 [0,1,1,1,2] P0
noncomputable abbrev t1:=be L1
noncomputable def L2:=bf t1 [0,4,1,2,1,1,2] P0
noncomputable abbrev t2:=be L2
noncomputable def L4:=bf t2 [0,1,1,1,1,1,4,2,1,2,1,1,2] [(0,.v [.s]),(1,.v [.I]),(2,.v [.I]),(3,.v [.g cd 0 0]),(9,.v [.I]),(10,.v [.I]),(11,.v [.I])]
noncomputable abbrev t3:=be L4
noncomputable def L6:=bf t3 [0,1,1,1,6,2,1,2,1,1,2] [(0,.v [.s]),(1,.v [.I]),(2,.v [.I]),(3,.v [.g cd 0 0]),(9,.v [.I]),(10,.v [.I]),(12,.v [.I])]
noncomputable abbrev t4:=be L6
noncomputable abbrev S7:=av t4 [2,2,1,1,2] P0
noncomputable abbrev t5:=ay S7
def Aw:=bg t5 L6
noncomputable abbrev S5:=av t5 [5,2,1,2,1,1,2] P0
noncomputable abbrev t6:=ay S5
def w9:=bg t6 L4
noncomputable abbrev S3:=av t6 [1,2,1,2,1,1,2] P0
noncomputable abbrev t7:=ay S3
def k9:=bg t7 L2
def fI:=bg t7 L1
noncomputable abbrev S0:=av t7 [2] [(0,.v [.s]),(1,.v [.I]),(2,.v [.I]),(3,.v [.g cd 0 0]),(9,.v [.I])]
noncomputable abbrev t8:=ay S0
def ok:=aA t8 Mu [.s,.I,.I,.g cd 0 0]
end je
namespace jf
noncomputable abbrev t0:=az Y Tryz.f224 [(1,ls [0,1,2,3,4,5,6,7,8,9,10,11,12,13,14,15]),(3,ls [0,1,2,3,4,5,6,7,8,9,10,11,12,13,14,15]),(5,ls [0,1,2,3,4,5,6,7,8,9,10,11,12,13,14,15,16]),(8,ls [0,1,2,3,4,5,6,7,8,9,10,11,12,13,14,15]),(10,ls [0,1,2,3,4,5,6,7,8,9,10,11,12,13,14,15]),(13,ls [0,1,2,3,4,5,6,7,8,9,10,11,12,13,14,15]),(15,ls [0,1,2,3,4,5,6,7,8,9,10,11,12,13,14,15,16]),(18,ls [0,1,2,3,4,5,6,7,8,9,10,11,12,13,14,15]),(21,ls [0,1,2,3,4,5,6,7,8,9,10,11,12,13,14,15])] []
abbrev P0:Ps:=[(0,.v [.s]),(1,.v [.I]),(4,.v [.g cd 0 0]),(12,.v [.I]),(13,.v [.I])]
noncomputable def L0:=bf t0 [0,2,3] P0
noncomputable abbrev t1:=be L0
noncomputable def L1:=bf t1 [0,2,4] P0
noncomputable abbrev t2:=be L1
noncomputable def L4:=bf t2 [0,2,9] P0
noncomputable abbrev t3:=be L4
noncomputable def L5:=bf t3 [0,6,9] P0
noncomputable abbrev t4:=be L5
noncomputable def L6:=bf t4 [0,2,1,4,9] P0
noncomputable abbrev t5:=be L6
noncomputable abbrev S8:=av t5 [5,4,9] P0
noncomputable abbrev t6:=ay S8
noncomputable abbrev S7:=av t6 [2,4,9] P0
noncomputable abbrev t7:=ay S7
def Aw:=bg t7 L6
def Sf:=bg t7 L5
def w9:=bg t7 L4
noncomputable abbrev S3:=av t7 [8] P0
noncomputable abbrev t8:=ay S3
noncomputable abbrev S2:=av t8 [5] P0
noncomputable abbrev t9:=ay S2
def fI:=bg t9 L1
def bC:=bg t9 L0
def ok:=aA t9 Mv [.s,.I,.I,.I,.g cd 0 0]
end jf
namespace mx
noncomputable abbrev t0:=az Y Tryz.f208 [(17,ls [0,1,2,3,4,5,6,7,8,9,10,11,12,13,14,15,16])] []
noncomputable def L0:=bf t0 [0,1,2] [(0,.v [.s]),(1,.v [.I]),(2,.v [.I]),(3,.v [.I]),(4,.v [.g cd 0 0]),(10,.v [.b]),(11,.v [.b])]
noncomputable abbrev t1:=be L0
abbrev P0:Ps:=[(0,.v [.s]),(1,.v [.I]),(2,.v [.I]),(3,.v [.I]),(4,.v [.g cd 0 0]),(10,.v [.b]),(11,.v [.b]),(16,.v [.I])]
noncomputable abbrev S9:=av t1 [1,1,13,3,2] P0
noncomputable abbrev t2:=ay S9
noncomputable abbrev xh:=av t2 [15,3,2] P0
noncomputable abbrev t3:=ay xh
noncomputable abbrev S8:=av t3 [12,3,2] [(0,.v [.s]),(1,.v [.I]),(2,.v [.I]),(3,.v [.I]),(4,.v [.g cd 0 0]),(11,.v [.b]),(16,.v [.I]),(18,.v [.I]),(19,.v [.I]),(20,.v [.I])]
noncomputable abbrev t4:=ay S8
noncomputable abbrev S7:=av t4 [11,3,2] [(0,.v [.s]),(1,.v [.I]),(2,.v [.I]),(3,.v [.I]),(4,.v [.g cd 0 0]),(11,.v [.b]),(12,.v [.I]),(16,.v [.I]),(18,.v [.I]),(19,.v [.I])]
noncomputable abbrev t5:=ay S7
noncomputable abbrev S6:=av t5 [8,3,2] [(0,.v [.s]),(1,.v [.I]),(2,.v [.I]),(3,.v [.I]),(4,.v [.g cd 0 0]),(12,.v [.I]),(13,.v [.I])]
noncomputable abbrev t6:=ay S6
abbrev P1:Ps:=[(0,.v [.s]),(1,.v [.I]),(2,.v [.I]),(3,.v [.I]),(4,.v [.g cd 0 0]),(10,.v [.b]),(11,.v [.b]),(12,.v [.I]),(13,.v [.I])]
noncomputable abbrev S5:=av t6 [7,3,2] P1
noncomputable abbrev t7:=ay S5
noncomputable abbrev S4:=av t7 [6,3,2] [(0,.v [.s]),(1,.v [.I]),(2,.v [.I]),(3,.v [.I]),(4,.v [.g cd 0 0]),(10,.v [.b]),(11,.v [.b]),(12,.v [.I]),(13,.v [.I]),(14,.v [.I])]
noncomputable abbrev t8:=ay S4
noncomputable abbrev S3:=av t8 [2,1,1,1,5,3,2] P1
noncomputable abbrev t9:=ay S3
abbrev P2:Ps:=[(0,.v [.s]),(1,.v [.I]),(2,.v [.I]),(3,.v [.I]),(4,.v [.g cd 0 0]),(10,.v [.b]),(11,.v [.b]),(12,.v [.I])]
noncomputable abbrev S2:=av t9 [4,3,2] P2
noncomputable abbrev t10:=ay S2
noncomputable abbrev S1:=av t10 [1,3,2] P2
noncomputable abbrev t11:=ay S1
def bC:=bg t11 L0
def ok:=aA t11 XS [.s,.I,.I,.I,.g cd 0 0]
end mx
namespace P9
noncomputable abbrev t0:=az Y Tryz.f194 [] []
def ok:=aA t0 Mn [.s,.g cd 0 0]
end P9
def g6(x:I):List I->List I
 |[]=>[x]
 |d::p=>if a5 x.rx d.rx<0 then d::g6 x p else x::d::p
def fU(l:List I):List I:=(l.foldl (λp d=>g6 d p) []).reverse
def Cn(x:I):∀p,(g6 x p).length=p.length+1
 |[]=>rfl
 |d::p=>by
  unfold g6;split
  .simp [Cn x p]
  .simp
def Z7(l:List I)(x:I):fU (l++[x])=(g6 x (fU l).reverse).reverse:=by
 unfold fU
 grind
def Ja{x t:I}:∀{p:List I},t∈g6 x p↔t=x\/t∈p
 |[]=>by unfold g6;simp
 |d::p=>by
  unfold g6;split
  .rw [au,Ja,au]
   grind
  .simp
def Z5{t:I}{l:List I}:t∈fU l↔t∈l:=by
 have:∀(l p:List I),t∈l.foldl (λp e=>g6 e p) p↔t∈l\/t∈p:=by
  intro l;induction l with
  |nil=>grind
  |cons a l d=>
   intro p;rw[List.foldl_cons,d,Ja,au]
   grind
 unfold fU
 grind
def Qi(l:List I):(fU l).length=l.length:=by
 have:∀(l p:List I),(l.foldl (λp e=>g6 e p) p).length=l.length+p.length:=by
  intro l;induction l with
  |nil=>grind
  |cons a l d=>
   intro p;rw[List.foldl_cons,d,Cn,dE];omega
 unfold fU
 grind
def Jd(x:I):∀p:List I,(g6 x p).map I.rx=lB x.rx (p.map I.rx)
 |[]=>rfl
 |d::p=>by
  unfold g6;rw[lM];unfold lB;split
  .rw [lM,Jd x p]
  .rfl
def Z9(l:List I):(fU l).map I.rx=kn (l.map I.rx):=by
 have:∀(l p:List I),(l.foldl (λp d=>g6 d p) p).map I.rx=(l.map I.rx).foldl (λp d=>lB d p) (p.map I.rx):=by
  intro l;induction l with
  |nil=>grind
  |cons a l e=>
   intro p;rw[List.foldl_cons,e,Jd];rfl
 unfold fU kn;rw[List.map_reverse,this];rfl
def Jb(x:I):∀p:List I,(g6 x p).Perm (x::p)
 |[]=>.refl _
 |d::p=>by
  unfold g6;split
  .exact ((Jb x p).cons d).trans (.swap x d p)
  .exact .refl _
def Z6(l:List I):(fU l).Perm l:=by
 have:∀(l p:List I),(l.foldl (λp h=>g6 h p) p).Perm (l++p):=by
  intro l;induction l with
  |nil=>intro p;exact .refl _
  |cons a l e=>
   intro p;rw[List.foldl_cons];exact(e _).trans (((Jb a p).append_left l).trans List.perm_middle)
 unfold fU;have d:=this l [];rw[List.append_nil]at d;exact(List.reverse_perm _).trans d
def Z4(l:List I):ku ((fU l).map I.rx):=by rw[Z9];exact EK _
def E1{l m:List I}(h:l.Perm m):I.a0 l=I.a0 m:=by
 induction h with
 |nil=>rfl
 |cons d _ j=>show d.sz+_=d.sz+_;rw[j]
 |swap d e l=>show e.sz+(d.sz+_)=d.sz+(e.sz+_);omega
 |trans _ _ k q=>omega
def aaF{α:Type}(A B:List α)(y x:α)(j:Nat)(d:j=A.length+1):((A++y::x::B).set j y).set (j - 1) x=A++x::y::B:=by subst d;rw[List.set_append_right _ _ (by omega),Nat.add_sub_cancel,List.set_append_right _ _ (by omega)];simp
def T'(s:Sl)(l:List I)(w:J)(hl:I.a0 l<=1000000)(ho:aK w aT 4 s (l.flatMap I.c))(pl:I.Ps w l)(hd:∀e∈ax s,e∉I.a8 l)(A X Z:List I)(x:l=A++X++Z)(b:Nat)(hb:b=A.length+X.length):
  ai Y Dj #[s.v,.i (A.length:Int),.i (b:Int),.func (.func cd) #[] #[]] w λr C=>(r=ae (.tuple #[])/\aK C aT 4 s ((A++fU X++Z).flatMap I.c))/\Fr (·∈ax s) w C:=by
 have ll:=I.fv l;have lX:A.length+X.length+Z.length=l.length:=by grind
 have L:LH (·∈ax s) w w [.row aT 4 s (l.flatMap I.c)] [.trees l]:=yl _ ho (by intro ak x;simp only[au,aO,aR]at x;subst x;exact⟨pl,λe K hm=>hd e K (aM.1 hm)⟩)
 have kt:∀t∈l,t.sz<=1000000:=λt B=>a6 (I.eh B) hl;have mA:∀t∈X,t∈l:=λt B=>by grind
 let F:aH:=λr C=>(r=ae (.tuple #[])/\aK C aT 4 s ((A++fU X++Z).flatMap I.c))/\Fr (·∈ax s) w C
 have outer:∀(d i:Nat) (D:J),A.length+i+d=b->LH (·∈ax s) w D [.row aT 4 s ((A++fU (X.take i)++(X.drop i++Z)).flatMap I.c)] [.trees l]->
   lR.L0 s (A.length:Int) (b:Int) ((A.length+i:Nat):Int) D F:=by
  intro d;induction d with
  |zero=>
   intro i D hi M;refine lR.bC _ _ _ _ _ _ (aZ (aW (by omega)) ⟨⟨rfl,?_⟩,M.fr⟩);have:=M.get 0;rw[fQ (by omega),cU (by omega),List.nil_append]at this;exact this
  |succ d an=>
   intro i D hi M;refine lR.bC _ _ _ _ _ _ (a1 (aS (by omega)) ?_);have V:X[i]? =some (X[i]'(by omega)):=a4 (by omega);have ab:=dz (l:=X) (i:=i) (by omega);generalize X[i]'(by omega)=e at V ab;have hS:fU (X.take (i+1))=(g6 e (fU (X.take i)).reverse).reverse:=by rw[eA,V,Option.toList_some,Z7]
   have K:e∈l:=mA e (aD V);have next:∀(j:J),LH (·∈ax s) w j [.row aT 4 s ((A++fU (X.take (i+1))++(X.drop (i+1)++Z)).flatMap I.c)] [.trees l]->lR.S2 s (A.length:Int) (b:Int) ((A.length+i:Nat):Int) j F:=by
    intro j q;show lR.L0 _ _ _ _ _ _;rw[bb _ (by omega)]
    grind
   have inner:∀(p:Nat) (P Q:List I) (j:J),P.length=p->(g6 e P.reverse).reverse++Q=fU (X.take (i+1))->(∀t∈P,t∈l)->LH (·∈ax s) w j [.row aT 4 s ((A++P++e::(Q++(X.drop (i+1)++Z))).flatMap I.c)] [.trees l]->
     lR.L1 s (A.length:Int) (b:Int) ((A.length+i:Nat):Int) ((A.length+p:Nat):Int) j F:=by
    intro p;induction p with
    |zero=>
     intro P Q j hp z T q;have:P=[]:=List.length_eq_zero_iff.1 hp;subst this;refine lR.fI _ _ _ _ _ _ _ (q.dr λE k=>aZ (aW (by omega)) (next E ?_));have am:e::Q=fU (X.take (i+1)):=z
     grind
    |succ p ah=>
     intro P Q j hp z T q;obtain⟨h,y,rfl⟩:∃h y,P=h++[y]:=⟨P.dropLast,P.getLast (λal=>by grind),(List.dropLast_concat_getLast _).symm⟩;have ag:h.length=p:=by grind
     have hy:y∈l:=T y (by simp);have aa:A++(h++[y])++e::(Q++(X.drop (i+1)++Z))=(A++h)++y::e::(Q++(X.drop (i+1)++Z)):=by simp
     rw[aa]at q;have lA:(A++h).length=A.length+p:=by grind
     have gy:((A++h)++y::e::(Q++(X.drop (i+1)++Z)))[A.length+p]? =some y:=by rw[<-lA,List.getElem?_append_right (bm _)];simp
     have S:((A++h)++y::e::(Q++(X.drop (i+1)++Z)))[A.length+(p+1)]? =some e:=by rw[<-Nat.add_assoc,<-lA,List.getElem?_append_right (Nat.le_succ _)];simp
     have hlen:((A++h)++y::e::(Q++(X.drop (i+1)++Z))).length<=1000000:=by have h1:=congrArg List.length z;rw[Qi,List.length_append,List.length_reverse,Cn,List.length_reverse]at h1;simp only[List.length_append,dE,gJ,List.length_drop,List.length_nil]at h1 ⊢;omega
     have ad:=(cz.1 S).1;have G:aj .i64 (((A.length+(p+1):Nat):Int) - 1)=((A.length+p:Nat):Int):=by rw[Cj (by omega) (by omega)];rfl
     have H:g6 e (h++[y]).reverse=if a5 e.rx y.rx<0 then y::g6 e h.reverse else e::y::h.reverse:=by rw[List.reverse_append];rfl
     refine lR.fI _ _ _ _ _ _ _ (q.dr λE k=>a1 (aS (by omega)) ?_);refine k.el 0 (A.length+(p+1)) rfl S (k.el 0 (A.length+p) G gy ?_);refine k.call (xz e y E (kt e K) ((show I.Ps E l from k.getD 0).mem K) ((show I.Ps E l from k.getD 0).mem hy)) ?_;rintro _ w4 rfl W;refine⟨_,rfl,aF (λU=>W.dr λw5 N=>?_) (λU=>next w4 ?_)⟩
     .refine N.el 0 (A.length+p) G gy (N.el 0 (A.length+(p+1)) rfl S (N.u3 0 (A.length+(p+1)) (t:=y) rfl ad λw6 H6=>?_));refine H6.u3 0 (A.length+p) (t:=e) (O:=((A++h)++y::e::(Q++(X.drop (i+1)++Z))).set (A.length+(p+1)) y) G (by grind) λw7 H7=>?_;rw[G];rw[aq U]at H;refine ah h (y::Q) w7 ag ?_ (λt B=>T t (by grind)) ?_
      .rw [<-z,H];simp
      .have e3:=aaF (A++h) (Q++(X.drop (i+1)++Z)) y e (A.length+(p+1)) (by omega)
       grind
     .rw [af U]at H;rw[<-z,H];simpa using W
   have ac:(fU (X.take i)).length=i:=by rw[Qi,gJ];omega
   refine inner i (fU (X.take i)) [] D ac ?_ (λt B=>mA t (List.mem_of_mem_take (Z5.1 B))) ?_
   .grind
   grind
 refine lR.ok _ _ _ w _ ?_;show lR.L0 _ _ _ _ _ F;rw[bb _ (by omega)];cases X with
 |nil=>
  refine lR.bC _ _ _ _ _ _ (aZ (aW (by grind)) ⟨⟨rfl,?_⟩,Fr.refl _ _⟩);have:=L.get 0;rw[x]at this;exact this
 |cons a X=>
  refine outer (b - (A.length+1)) 1 w (by grind) ?_;rw[show l.flatMap I.c=(A++fU ((a::X).take 1)++((a::X).drop 1++Z)).flatMap I.c from by rw[x];simp[fU,g6]]at L;exact L
def aaW{t:ByteArray}{m:Nat}{K:UInt8->Prop}(h:Nat.beq t.size 256=true)(e:m<256)(d:∀b,K b):∃b:UInt8,t[m]? =some b/\K b:=by rw[ep]at h;exact⟨t[m]'(by omega),getElem?_pos t m (by omega),d _⟩
def TI(x:Int)(w:J):ai Y CW #[.u x] w λr d=>(∃t:Int,r=ae (.i t))/\ag w d:=by
 have k:∀(x n:Int),j7.S2 x n w λr d=>(∃t:Int,r=ae (.i t))/\ag w d:=by
  intro x n;have e:0<=aj .u8 x/\aj .u8 x<256:=by rw[IntKind.wrap_u8];omega
  obtain⟨m,y⟩:=Int.eq_ofNat_of_zero_le e.1;refine⟨e.1,?_⟩;have q:m<256:=by omega
  refine aaW (by kernel_rfl) (by rw[y];exact q) λb=>⟨⟨_,rfl⟩,Fr.refl _ _⟩
 have j:∀(x n:Int),j7.S1 x n w λr d=>(∃t:Int,r=ae (.i t))/\ag w d:=λx n=>aF (λ_=>k _ _) (λ_=>k _ _);have h:∀(x n:Int),j7.S0 x n w λr d=>(∃t:Int,r=ae (.i t))/\ag w d:=λx n=>aF (λ_=>j _ _) (λ_=>j _ _);refine CH.ok _ w _ ((j7.ok _ w _ (aF (λ_=>h _ _) (λ_=>h _ _))).mono ?_);rintro _ z ⟨⟨t,rfl⟩,f⟩;exact⟨t,rfl,⟨t,rfl⟩,f⟩
def rQ(n:Nat):Prop:=∀(s:Sl) (l:List I) (w:J),l.length<=n->I.a0 l<=1000000->aK w aT 4 s (l.flatMap I.c)->I.Ps w l->(∀e∈ax s,e∉I.a8 l)->
 ai Y Mn #[s.v,.func (.func cd) #[] #[]] w λr d=>(∃m:List I,r=ae (.tuple #[])/\m.Perm l/\ku (m.map I.rx)/\aK d aT 4 s (m.flatMap I.c))/\Fr (·∈ax s) w d
def hL(p:I):List I->List I
 |[]=>[]
 |d::l=>if a5 d.rx p.rx==0 then hL d l else d::hL d l
def kF:List I->List I
 |[]=>[]
 |a::l=>a::hL a l
def Hy(l:List I)(i:Nat):(l.flatMap I.c).take (i *4)=(l.take i).flatMap I.c:=by
 have e:=I.eW (l.take i);by_cases d:i<=l.length
 .conv=>lhs;rw[<-lO i l,dt]
  grind
 .rw [fQ (by rw[I.eW];omega),fQ (l:=l) (by omega)]
def HG(l:List I)(i:Nat)(h:i<=l.length):(l.flatMap I.c).drop (i *4)=(l.drop i).flatMap I.c:=by
 have d:=I.eW (l.take i);rw[gJ,Nat.min_eq_left h]at d;conv=>lhs;rw[<-lO i l,dt]
 grind
def U0{w:J}{s:Sl}{l m:List I}(h:aK w aT 4 s (l.flatMap I.c))(i:Nat)(V:i<=l.length)(C:l.take i=m){K:J->Prop}{R:aH}{w0:J}(B:Fr (·∈ax s) w0 w)(A:∀r j,uA s m r w0 j->Fr (·∈ax s) w0 j->R r j):
  (0:Int)<=(i:Int)/\(i:Int)<=((s.n:Nat):Int)/\∃(k:J),Sem.run Y (Builtin.clear_ #[iy] kq #[.slice (if s.c=(aV (i:Int))then s.a else s.a.map (·.add ((aV (i:Int)) *4))) (s.n - (aV (i:Int))) (s.c - (aV (i:Int)))]) w=.ok (.tuple #[]) k/\
   (0:Int)<=(i:Int)/\(i:Int)<=((s.c:Nat):Int)/\R (ae (.slice (if s.c=0 then s.a else s.a.map (·.add (0 *4))) ((aV (i:Int)) - 0) (s.c - 0))) k:=by
 have H:=I.cr h.bd;have G:=h.cap;obtain⟨E,x,y,z⟩:=Hz (ty:=kq) qq R1 rfl h i (by omega);refine⟨by omega,by omega,E,x,by omega,by omega,A _ _ ⟨⟨if s.c=0 then s.a else s.a.map (·.add (0 *4)),i - 0,s.c - 0⟩,rfl,?_,λF e=>?_⟩ (B.trans z λF _ q=>q)⟩
 .rw [<-C,<-Hy];exact y
 .simp only[ax]at e ⊢;split at e
  .rename_i p d;split at d
   .grind
   .cases D:s.a with
    |none=>grind
    |some L=>
     rw[D]at d;simp only[Option.map_some,eI]at d;subst d;rw[iX]at e;exact e
  grind
section
variable {M:Nat->Prop} {w0 w:J} {L D:List En}
def _root_.Go.W.LH.BH(H:LH M w0 w L D)(i k b:Nat){s:Sl}{O:List I}{t:I}{X:Int}{K:Int->Int->Int->Sl->Prop}(q:X=(k:Int))(x:O[b+k]? =some t)(h:K t.k t.lo.toNat t.V.toNat t.s)(V:L[i]? =some (.row aT 4 s (O.flatMap I.c)):=by rfl):
  (0:Int)<=X/\X<((s.n - b:Nat):Int)/\dM (if s.c=b then s.a else s.a.map (·.add (b *4))) λp=>∃a b c:Int,∃d:Sl,w.cell? ((p.add (aV X *4)).add 0)=some (.i a)/\w.cell? ((p.add (aV X *4)).add 1)=some (.int .u8 b)/\w.cell? ((p.add (aV X *4)).add 2)=some (.int .u8 c)/\w.cell? ((p.add (aV X *4)).add 3)=some d.v/\K a b c d:=by subst q;have e:aK w aT 4 s (O.flatMap I.c):=H.get i V;have z:=I.cr e.bd;have y:=(cz.1 x).1;have j:=e.bd.sub b s.n (by omega) (bm _);rw[fQ (by rw[I.eW];omega),HG _ _ (by omega)]at j;refine⟨by omega,by omega,I.dd (s:=ov 4 s b s.n) j (i:=k) (t:=t) (by grind) λp A c=>⟨_,_,_,_,c.c0,c.c1,c.c2,c.c3,h⟩⟩
end
def TA(s:Sl)(l:List I)(w:J)(hl:I.a0 l<=1000000)(ho:aK w aT 4 s (l.flatMap I.c))(pl:I.Ps w l)(hd:∀x∈ax s,x∉I.a8 l):
  ai Y Mi #[s.v,.func (.func qH) #[] #[]] w λr E=>uA s (kF l) r w E/\Fr (·∈ax s) w E:=by
 have nr:=I.cr ho.bd;have ll:=I.fv l;have kt:∀t∈l,t.sz<=1000000:=λt W=>a6 (I.eh W) hl;have aa:LH (·∈ax s) w w [.row aT 4 s (l.flatMap I.c)] [.trees l]:=yl _ ho (by intro ad he;simp only[au,aO,aR]at he;subst he;exact⟨pl,λx G P=>hd x G (aM.1 P)⟩)
 let Q:aH:=λr E=>uA s (kF l) r w E/\Fr (·∈ax s) w E
 have ah:∀(d k b m:Nat) (cur:List I) (p:I) (A:J),b+m+d=l.length->1<=m->1<=b->k<b+m->cur.length=l.length->cur.drop (b+m - 1)=l.drop (b+m - 1)->l[b+m - 1]? =some p->cur.take k++hL p (l.drop (b+m))=kF l->
   LH (·∈ax s) w A [.row aT 4 s (cur.flatMap I.c)] [.trees l]->
   nu.L2 s (k:Int) ⟨(if s.c=b then s.a else s.a.map (·.add (b *4))),(s.n - b),(s.c - b)⟩ (m:Int) A Q:=by
  intro d;induction d with
  |zero=>
   intro k b m cur p A hb P ab U hc N D e q;refine nu.k9 _ _ _ _ _ _ (aZ (aW ?_) ?_)
   .grind
   rw[cU (by omega)]at e;have V:cur.take k=kF l:=by rw[<-e];simp[hL]
   exact U0 (K:=λ_=>True) (q.get 0) k (by omega) V q.fr λr E C F=>⟨C,F⟩
  |succ d Z=>
   intro k b m cur p A hb P ab U hc N D e q;have z:l[b+m]? =some (l[b+m]'(by omega)):=a4 (by omega);have y:=dz (l:=l) (i:=b+m) (by omega);generalize l[b+m]'(by omega)=x at z y;have ac:cur[b+m]? =some x:=by
    have:(cur.drop (b+m - 1))[1]? =(l.drop (b+m - 1))[1]?:=by rw[N]
    grind
   have ae:cur[b+(m - 1)]? =some p:=by
    have:(cur.drop (b+m - 1))[0]? =(l.drop (b+m - 1))[0]?:=by rw[N]
    rw[List.getElem?_drop,List.getElem?_drop,Nat.add_zero]at this
    grind
   have ag:cur.drop (b+m)=l.drop (b+m):=by
    have:(cur.drop (b+m - 1)).drop 1=(l.drop (b+m - 1)).drop 1:=by rw[N]
    rw[pf,pf,show b+m - 1+1=b+m by omega]at this;omega
   have L:=aD z;have mp:=aD D;have S:aj .i64 ((m:Int) - 1)=((m - 1:Nat):Int):=Cj P (by omega);rw[y]at e;have T:hL p (x::l.drop (b+m+1))=if a5 x.rx p.rx==0 then hL x (l.drop (b+m+1))else x::hL x (l.drop (b+m+1)):=rfl;rw[T]at e;have next:∀(H:Nat) (B:List I) (j:J),H<b+(m+1)->B.length=l.length->B.drop (b+m)=l.drop (b+m)->B.take H++hL x (l.drop (b+m+1))=kF l->LH (·∈ax s) w j [.row aT 4 s (B.flatMap I.c)] [.trees l]->
     nu.S3 s (H:Int) ⟨(if s.c=b then s.a else s.a.map (·.add (b *4))),(s.n - b),(s.c - b)⟩ (m:Int) j Q:=by intro H B j C F h3 h4 h;show nu.L2 _ _ _ _ _ _;rw[bb _ (by omega)];exact Z H b (m+1) B x j (by omega) (by omega) ab C F (by grind) (by grind) (by omega) h
   refine nu.k9 _ _ _ _ _ _ (a1 (aS ?_) (q.dr λj h=>?_))
   .show (m:Int)<((s.n - b:Nat):Int);omega
   refine h.BH 0 m b rfl ac (h.BH 0 (m - 1) b S ae ?_);refine h.call (uM x p j (kt x L) ((show I.Ps j l from h.getD 0).mem L) ((show I.Ps j l from h.getD 0).mem mp)) ?_;rintro _ w3 rfl M;refine⟨_,rfl,dN (λhf=>?_) (λW=>?_)⟩
   .refine M.BH 0 m b rfl ac (M.u3 0 k (t:=x) (O:=cur) rfl (by omega) λw4 H4=>?_);rw[af (by grind)]at e;rw[bb _ (by omega)];refine next (k+1) (cur.set k x) w4 (by omega) (by grind) ?_ ?_ H4
    .rw [List.drop_set_of_lt (by omega)];omega
    .rw [QR (by omega),cp];exact e
   grind
 have loop:∀(d k:Nat) (p:I) (A:J),k+d=l.length->1<=k->l[k - 1]? =some p->l.take k++hL p (l.drop k)=kF l->LH (·∈ax s) w A [.row aT 4 s (l.flatMap I.c)] [.trees l]->
   nu.L0 s (k:Int) A Q:=by
  intro d;induction d with
  |zero=>
   intro k p A U C D e q;refine nu.bC _ _ _ _ (aZ (aW (by omega)) ⟨⟨s,rfl,?_,λx G=>G⟩,q.fr⟩);rw[cU (by omega),fQ (by omega)]at e;have V:l=kF l:=by rw[<-e];simp[hL]
   rw[<-V];exact q.get 0
  |succ d Z=>
   intro k p A U C D e q;have z:l[k]? =some (l[k]'(by omega)):=a4 (by omega);have y:=dz (l:=l) (i:=k) (by omega);generalize l[k]'(by omega)=x at z y;have L:=aD z;have mp:=aD D;have S:aj .i64 ((k:Int) - 1)=((k - 1:Nat):Int):=Cj C (by omega);rw[y]at e;have T:hL p (x::l.drop (k+1))=if a5 x.rx p.rx==0 then hL x (l.drop (k+1))else x::hL x (l.drop (k+1)):=rfl;rw[T]at e;refine nu.bC _ _ _ _ (a1 (aS (by omega)) (q.dr λj h=>?_));refine h.el 0 k rfl z (h.el 0 (k - 1) S D ?_);refine h.call (uM x p j (kt x L) ((show I.Ps j l from h.getD 0).mem L) ((show I.Ps j l from h.getD 0).mem mp)) ?_;rintro _ w3 rfl M;refine⟨_,rfl,bB (λW=>⟨by omega,by omega,?_⟩) (λhf=>?_)⟩
   .grind
   .rw [af (by grind)]at e;rw[bb _ (by omega)];refine Z (k+1) x w3 (by omega) (by omega) (by grind) ?_ M
    grind
 refine nu.ok _ w _ (aF (λF=>⟨⟨s,rfl,?_,λx G=>G⟩,aa.fr⟩) (λF=>?_))
 .have ad:kF l=l:=by
   cases l with
   |nil=>rfl
   |cons a l=>
    cases l with
    |nil=>rfl
    |cons b l=>grind
  grind
 .have z:l[0]? =some (l[0]'(by omega)):=a4 (by omega);have y:=dz (l:=l) (i:=0) (by omega);generalize l[0]'(by omega)=x at z y;refine loop (l.length - 1) 1 x w (by omega) (by omega) z ?_ aa;rw[List.drop_zero]at y;rw[y];rfl
def gO(k:Int)(l:List Rx)(u:Rx):List Rx:=(l.flatMap λc=>if c.k=k then c.l else[c]).filter λt=>!(a5 t u==0)
def sE(k:Int)(u:Rx):List Rx->Rx
 |[]=>u
 |[a]=>a
 |l=>.mk k 0 0 l
def gD(k:Int)(l:List Rx)(u z:Rx):Rx:=if(gO k l u).any (λt=>a5 t z==0)then z else sE k u (if k=3 then gO k l u else qo (kn (gO k l u)))
def s5(k:Int)(l:List Rx):Nat:=(l.flatMap λc=>if c.k=k then c.l else[c]).length
def mY:Rx:=.mk 1 0 0 []
def eD:Rx:=.mk 6 0 0 [fq]
def kZ(lo V:UInt8)(l:List Rx):Rx:=match l with
 |[]=>fq
 |c::d=>if c.k=0\/c.k=1 then mY else if c.k=7\/a5 c eD=0 then c else .mk 7 lo V (c::d)
def o'(lo V:UInt8)(l:List Rx):Rx:=match l with
 |[]=>fq
 |c::e=>if c.k=6 then(match c.l with |[]=>fq|d::_=>d)else .mk 6 lo V (c::e)
def hh:Rx->Rx
 |.mk d lo e l=>if d=3 then gD 3 l mY fq else if d=4 then gD 4 l fq eD else if d=5 then gD 5 l eD fq else if d=6 then o' lo e l else if d=7 then kZ lo e l else .mk d lo e l
def j1:Rx->Bool
 |.mk d _ _ l=>ak (0<=d)&&ak (d<8)&&(match l with
  |[]=>d !=6&&d !=7
  |c::_=>!(d==6&&c.k==6&&c.l.isEmpty))
def kW(t:I):t.rx.k=t.k:=by rw[I.e1];rfl
def wt(t:I):t.rx.l=t.l.map I.rx:=by rw[I.e1,<-I.fu];rfl
def vt(x u:I):(gg x u).map I.rx=gO x.k (I.ao x.l) u.rx:=by
 unfold gg gO;rw[I.fu];generalize x.l=l;induction l with
 |nil=>rfl
 |cons a l e=>
  rw[lM,cV,cV,List.filter_append,List.filter_append,List.map_append,e];congr 1;have d:(eO x a).map I.rx=if a.rx.k=x.k then a.rx.l else[a.rx]:=by
   unfold eO;rw[kW,wt]
   grind
  rw[<-d,List.filter_map];rfl
def Bx:∀(l:List I) (p:I),(hL p l).map I.rx=jX p.rx (l.map I.rx)
 |[],p=>rfl
 |d::l,p=>by
  unfold hL;rw[lM];unfold jX;split
  .exact Bx l d
  .rw [lM,Bx l d]
def UU(l:List I):(kF l).map I.rx=qo (l.map I.rx):=by
 cases l with
 |nil=>rfl
 |cons a l=>show a.rx::(hL a l).map I.rx=_;rw[Bx];rfl
def Bw{t:I}:∀{l:List I} {p:I},t∈hL p l->t∈l
 |[],p,d=>d
 |e::l,p,d=>by
  unfold hL at d;split at d
  .exact e8 _ (Bw d)
  .rcases au.1 d with rfl|d
   .simp
   .exact e8 _ (Bw d)
def UT{t:I}{l:List I}(h:t∈kF l):t∈l:=by
 cases l with
 |nil=>exact h
 |cons a l=>
  rcases au.1 h with rfl|h
  .simp
  .exact e8 _ (Bw h)
def SO(l:List I)(z:I):l.any (λt=>a5 t.rx z.rx==0)=(l.map I.rx).any λt=>a5 t z.rx==0:=by grind
def fZ(d:List Nat)(w:J)(x:Rx)(r:ch)(w':J):Prop:=∃t:I,r=ae t.v/\t.rx=x/\t.P w'/\∀b∈t.fp,w.heap.size<=b\/b∈d
def Uc{N:Nat}(hS:rQ N)(hN:N<=1000000)(x u z:I)(C q:Nat)(w:J)(h:x.k≠3->s5 x.k (I.ao x.l)<=N)(hx:x.sz<=1000000)(px:x.P w)(pu:u.P w)(pz:z.P w)(hu:w.heap[C]? =some (.cells u.c.toArray aT (0,0)))(hz:w.heap[q]? =some (.cells z.c.toArray aT (0,0))):
  ai Y yB #[x.v,.pointer (some (ab C)),.pointer (some (ab q))] w λr w'=>fZ (x.fp++(u.fp++z.fp)) w (gD x.k (I.ao x.l) u.rx z.rx) r w'/\ag w w':=by
 have H0:LH F0 w w [] [.tree x,.tree u,.tree z,dS C u,dS q z]:=bI _ (by
  intro ad E;simp only[au,aO,aR]at E;rcases E with rfl|rfl|rfl|rfl|rfl
  .exact px
  .exact pu
  .exact pz
  .exact hu
  .exact hz)
 have U:=Sub.gg x u;have an:=aaJ x u;have am:=I.fv (gg x u);have kt:∀t∈gg x u,t.sz<=1000000:=λt y=>by have:=I.eh y;omega
 have ap:(gg x u).length<=s5 x.k (I.ao x.l):=by have Q:=congrArg List.length (vt x u);rw[List.length_map]at Q;rw[Q];exact List.length_filter_le ..
 refine Eh.aB _ _ _ _ _ _ w _ (H0.aG λH w1 H1=>H1.aG λK w2 D=>⟨_,_,_,u.s,D.e7 3 0,D.e7 3 1,D.e7 3 2,D.e7 3 3,D.iZ (T5 x u w2 hx (D.getD 0) (D.getD 1)) ?_⟩);rintro _ w3 ⟨A,rfl,o1,n1⟩ H3 F3;have G:=F3.own (.row aT 4 A ((gg x u).flatMap I.c)) o1 n1;have aa:∀w':J,x.P w'->I.Ps w' (gg x u):=λw' h=>U.Ps h;refine⟨A,rfl,G.aw (TC A (gg x u) ⟨C',#[],#[.pointer (some (ab q))]⟩ (λt=>a5 t.rx z.rx==0) [.tree x,.tree z,dS q z] w3 (by omega) (G.get 2:aK _ _ _ _ _).bd (by
  intro ad E;simp only[au,aO,aR]at E;rcases E with rfl|rfl|rfl
  .exact G.getD 0
  .exact G.getD 2
  .exact G.getD 4) (by kernel_rfl) (λw' t y F=>T8 t z q w' (kt t y) ((aa w' (F.getD 1)).mem y) (F.getD 2) (F.getD 3))) ?_⟩
 rintro _ Z rfl j;have ea:(gg x u).any (λt=>a5 t.rx z.rx==0)=(gO x.k (I.ao x.l) u.rx).any λt=>a5 t z.rx==0:=by rw[SO,vt]
 refine⟨_,rfl,bB (λy=>⟨_,_,_,z.s,j.e7 4 0,j.e7 4 1,j.e7 4 2,j.e7 4 3,j.ah λw8 e=>⟨⟨z,rfl,?_,e.getD 2,λb d=>.inr (by grind)⟩,e.fr⟩⟩) (λhf=>?_)⟩
 .have ar:=ea▸y;unfold gD
  grind
 have al:=ea▸hf;have fin:∀(s':Sl) (ks:List I) (w':J),(∀t∈ks,t∈gg x u)->ks.map I.rx=(if x.k=3 then gO x.k (I.ao x.l) u.rx else qo (kn (gO x.k (I.ao x.l) u.rx)))->LH F0 w w' [.g H,.g K,.row aT 4 s' (ks.flatMap I.c)] [.tree x,.tree u,.tree z,dS C u,dS q z]->
   Eh.bn (ab C) H x.k x.lo.toNat x.V.toNat x.s K 0 0 0 ⟨none,0,0⟩ s' w' λr w'=>fZ (x.fp++(u.fp++z.fp)) w (gD x.k (I.ao x.l) u.rx z.rx) r w'/\ag w w':=by
  intro s' ks w' L E B;have S:Sub x ks:=U.sub L;have nr:=I.cr (B.get 2:aK _ _ _ _ _).bd;have ej:gD x.k (I.ao x.l) u.rx z.rx=sE x.k u.rx (ks.map I.rx):=by
   unfold gD
   grind
  refine aL (λh0=>⟨_,_,_,u.s,B.e7 3 0,B.e7 3 1,B.e7 3 2,B.e7 3 3,B.ah λw8 e=>⟨⟨u,rfl,?_,e.getD 1,λb d=>.inr (by grind)⟩,e.fr⟩⟩) (λh0=>aL (λQ=>?_) (λQ=>B.ah λw8 e=>⟨⟨.mk x.k 0 0 s' ks,rfl,?_,?_,λb d=>?_⟩,e.fr⟩))
  .have:ks=[]:=List.length_eq_zero_iff.1 (by omega);rw[ej,this];rfl
  .obtain ⟨a,rfl⟩:=List.length_eq_one_iff.1 (show ks.length=1 by omega);refine B.el 2 0 rfl (t:=a) rfl (B.ah λw8 e=>⟨⟨a,rfl,?_,S.P _ (e.getD 0) a (by simp),λb d=>.inr (by simp[S.fp a (by simp) b d])⟩,e.fr⟩);rw[ej];rfl
  .rw [ej];unfold I.rx;rw[I.fu];cases ks with
   |nil=>grind
   |cons a ks=>
    cases ks with
    |nil=>grind
    |cons b ks=>rfl
  .unfold I.P;exact⟨(e.get 2:aK _ _ _ _ _).bd,S.Ps (e.getD 0)⟩
  .unfold I.fp at d;rcases aY.1 d with d|d
   .exact .inl ((e.new _ (aD (i:=2) rfl) b (gk d)).resolve_right id)
   .exact .inr (by simp[S.a8 d])
 have eo:∀w':J,LH F0 w w' [.g H,.g K,.row aT 4 A ((gg x u).flatMap I.c)] [.tree x,.tree u,.tree z,dS C u,dS q z]->∀M∈ax A,M∉I.a8 (gg x u):=λw' F M hy hm=>F.off 2 0 rfl rfl M hy (aM.2 (U.a8 hm));refine di (λL=>?_) (λL=>fin A (gg x u) Z (λ_ h=>h) (by rw[aq L,vt]) j);refine j.Bi 2 rfl (hS A (gg x u) Z (by omega) (by omega) (j.get 2) (aa Z (j.getD 0)) (eo Z j)) ?_;rintro _ w5 ⟨m,rfl,T,aj,o5⟩ hH;have O:LH F0 w w5 [.g H,.g K,.row aT 4 A (m.flatMap I.c)] [.tree x,.tree u,.tree z,dS C u,dS q z]:=hH (.row aT 4 A (m.flatMap I.c)) o5 λb d=>.inl d;have ac:Sub x m:=U.sub λt y=>T.mem_iff.1 y;refine⟨rfl,O.Bi 2 rfl (TA A m w5 (by rw[E1 T];omega) (O.get 2) (ac.Ps (O.getD 0)) (λM hy hm=>O.off 2 0 rfl rfl M hy (aM.2 (ac.a8 hm)))) ?_⟩;rintro _ w6 ⟨W,rfl,o6,n6⟩ ae;have H7:LH F0 w w6 [.g H,.g K,.row aT 4 W ((kF m).flatMap I.c)] [.tree x,.tree u,.tree z,dS C u,dS q z]:=ae (.row aT 4 W ((kF m).flatMap I.c)) o6 λb d=>.inl (n6 b d);have ak:m.map I.rx=kn ((gg x u).map I.rx):=Z8 aj (T.map _);exact⟨W,rfl,fin W (kF m) w6 (λt y=>T.mem_iff.1 (UT y)) (by rw[af L,UU,ak,vt]) H7⟩
def iq{w:J}{x t:I}(j:x.P w){k:Nat}{X:Int}{K:Int->Int->Int->Sl->Prop}(q:X=(k:Int))(e:x.l[k]? =some t)(h:K t.k t.lo.toNat t.V.toNat t.s):
  fb x.s X λp=>∃a b c:Int,∃d:Sl,w.cell? ((p.add (aV X *4)).add 0)=some (.i a)/\w.cell? ((p.add (aV X *4)).add 1)=some (.int .u8 b)/\w.cell? ((p.add (aV X *4)).add 2)=some (.int .u8 c)/\w.cell? ((p.add (aV X *4)).add 3)=some d.v/\K a b c d:=by subst q;have z:=I.cr j.parts.1;have y:=(cz.1 e).1;exact⟨by omega,by omega,I.dd j.parts.1 e λp A c=>⟨_,_,_,_,c.c0,c.c1,c.c2,c.c3,h⟩⟩
def Ui(x:I)(w:J)(M:x.P w)(C:x.k=6)(d:j1 x.rx=true):ai Y sT #[x.v] w λr N=>fZ x.fp w (o' x.lo x.V (I.ao x.l)) r N/\ag w N:=by
 have nr:=I.cr M.parts.1;rw[I.e1]at d;cases D:x.l with
 |nil=>rw[D,C]at d;simp[j1,I.ao]at d
 |cons c L=>
  have A:x.l[0]? =some c:=by grind
  have E:c∈x.l:=aD A;have h:I.ao (c::L)=c.rx::I.ao L:=rfl;refine O9.aB _ _ _ _ w _ ((gG M).aG λW w1 O=>O.aG λZ T q=>?_);have F:x.P T:=q.getD 0;have n2:0<x.s.n:=by grind
  refine⟨by omega,by omega,I.dd F.parts.1 A λp S y=>⟨c.k,y.c0,aL (λj=>?_) (λj=>q.ah λaa G=>⟨⟨x,rfl,?_,G.getD 0,λb z=>.inr z⟩,G.fr⟩)⟩⟩
  .refine ⟨by omega,by omega,I.dd F.parts.1 A λp S y=>⟨c.s,y.c3,?_⟩⟩;cases K:c.l with
   |nil=>
    rw[D,h]at d;have Q:c.rx.l.isEmpty=true:=by rw[wt,K];rfl
    simp[j1,C,kW,j,Q]at d
   |cons e l2=>
    have B:c.l[0]? =some e:=by grind
    refine iq (F.parts.2.mem E) rfl B (q.ah λU H=>⟨⟨e,rfl,?_,((show x.P U from H.getD 0).parts.2.mem E).parts.2.mem (aD B),λb z=>.inr (I.gh.2 (.inr (I.bJ.2 ⟨c,E,I.gh.2 (.inr (I.bJ.2 ⟨e,aD B,z⟩))⟩)))⟩,H.fr⟩);rw[h];show e.rx=if c.rx.k=6 then _ else _;rw[aq (by rw[kW,j]),wt,K];rfl
  .rw [h];show x.rx=if c.rx.k=6 then _ else _;rw[af (by rw[kW];exact j),I.e1,C,D,h]
def Us(x m v:I)(q z:Nat)(w:J)(hx:x.sz<=1000000)(px:x.P w)(pm:m.P w)(pv:v.P w)(hm:w.heap[q]? =some (.cells m.c.toArray aT (0,0)))(hv:w.heap[z]? =some (.cells v.c.toArray aT (0,0)))(em:m.rx=mY)(ev:v.rx=eD)(W:x.k=7)(H:j1 x.rx=true):
  ai Y sU #[x.v,.pointer (some (ab q)),.pointer (some (ab z))] w λr e=>fZ (x.fp++(m.fp++v.fp)) w (kZ x.lo x.V (I.ao x.l)) r e/\ag w e:=by
 have nr:=I.cr px.parts.1;rw[I.e1]at H;cases Z:x.l with
 |nil=>rw[Z,W]at H;simp[j1,I.ao]at H
 |cons c E=>
  have U:x.l[0]? =some c:=by grind
  have F:c∈x.l:=aD U;have C:I.ao (c::E)=c.rx::I.ao E:=rfl;have H0:LH F0 w w [] [.tree x,.tree m,.tree v,dS q m,dS z v]:=bI _ (by
   intro ad T;simp only[au,aO,aR]at T;rcases T with rfl|rfl|rfl|rfl|rfl
   .exact px
   .exact pm
   .exact pv
   .exact hm
   .exact hv)
  refine ze.aB _ _ _ _ _ _ w _ (H0.aG λN w1 H1=>H1.aG λB w2 K=>?_);have n2:0<x.s.n:=by grind
  have sc:c.sz<=1000000:=by have:=I.eh F;have:=I.hW x;omega
  have fc:∀b∈c.fp,b∈x.fp:=λb D=>I.gh.2 (.inr (I.bJ.2 ⟨c,F,D⟩));refine iq (show x.P w2 from K.getD 0) rfl U (K.aG λG w3 A=>?_);have ac:c.k=0\/c.k=1->∀e:J,LH F0 w e [.g N,.g B,.g G] [.tree x,.tree m,.tree v,dS q m,dS z v]->ze.bn (ab q) B 0 0 0 ⟨none,0,0⟩ e λr e=>fZ (x.fp++(m.fp++v.fp)) w (kZ x.lo x.V (I.ao (c::E))) r e/\ag w e:=λy e j=>
   ⟨_,_,_,m.s,j.e7 3 0,j.e7 3 1,j.e7 3 2,j.e7 3 3,j.ah λh d=>⟨⟨m,rfl,by
    rw[em,C];show _=if c.rx.k=0\/c.rx.k=1 then _ else _;rw[kW,aq y],d.getD 1,λb D=>.inr (by grind)⟩,d.fr⟩⟩
  have aa:¬(c.k=0\/c.k=1)->(c.k=7\/a5 c.rx eD=0)->∀e:J,LH F0 w e [.g N,.g B,.g G] [.tree x,.tree m,.tree v,dS q m,dS z v]->ze.bM B 0 0 0 ⟨none,0,0⟩ G c.k c.lo.toNat c.V.toNat c.s e λr e=>fZ (x.fp++(m.fp++v.fp)) w (kZ x.lo x.V (I.ao (c::E))) r e/\ag w e:=λhn y e j=>
   j.ah λh d=>⟨⟨c,rfl,by
    rw[C];show _=if c.rx.k=0\/c.rx.k=1 then _ else if c.rx.k=7\/a5 c.rx eD=0 then _ else _;rw[kW,af hn,aq y],(show x.P h from d.getD 0).parts.2.mem F,λb D=>.inr (by grind)⟩,d.fr⟩
  refine aL (λO=>A.ah λh d=>ac (.inl O) h d) (λO=>aL (λQ=>A.ah λh d=>ac (.inr Q) h d) (λQ=>aL (λS=>A.ah λh d=>aa (by omega) (.inl S) h d) (λS=>A.ah λh d=>⟨_,_,_,v.s,d.e7 4 0,d.e7 4 1,d.e7 4 2,d.e7 4 3,?_⟩)));refine d.aw (uM c v h sc ((show x.P h from d.getD 0).parts.2.mem F) (d.getD 2)) ?_;rintro _ w5 rfl L;rw[ev];refine⟨_,rfl,aL (λy=>aa (by omega) (.inr y) w5 L) (λy=>L.ah λw6 M=>⟨⟨x,rfl,?_,M.getD 0,λb D=>.inr (by grind)⟩,M.fr⟩)⟩;rw[C];show x.rx=if c.rx.k=0\/c.rx.k=1 then _ else if c.rx.k=7\/a5 c.rx eD=0 then _ else _;rw[kW,af (by omega),af (by omega),I.e1,W,Z,C]
structure Fm where
 m:Nat
 es:Array MapEntry
 clock:Nat
 ms:List (Int×aa)
 cs:List (Nat×I)
 s:Sl
def b3:I:=.mk 0 0 0 ⟨none,0,0⟩ []
def fi:I:=.mk 1 0 0 ⟨none,0,0⟩ []
def Fm.ev(F:Fm):I:=.mk 6 0 0 F.s [b3]
def _root_.Go.W.En.fm(F:Fm):En:=.all (.ob F.m (.map F.es F.clock)::.tree F.ev::F.cs.map λp=>dS p.1 p.2)
def sN(a b:Nat):aa:=.func (.func yB) #[] #[.pointer (some (ab a)),.pointer (some (ab b))]
def iu:aa:=.func (.func vO) #[] #[]
def rI(cs:List (Nat×I))(e:I)(k:Int)(v:aa):Prop:=
 ((k=0\/k=1\/k=2)/\v=iu)\/(∃u d a b,((k=3/\u=fi/\d=b3)\/(k=4/\u=b3/\d=e)\/(k=5/\u=e/\d=b3))/\v=sN a b/\(a,u)∈cs/\(b,d)∈cs)\/
 (k=6/\v=.func (.func sT) #[] #[])\/∃a b,k=7/\v=.func (.func sU) #[] #[.pointer (some (ab a)),.pointer (some (ab b))]/\(a,fi)∈cs/\(b,e)∈cs
structure Fm.Ok(F:Fm):Prop where
 ms:rN .i64 F.es F.ms
 all:∀k:Int,0<=k->k<8->∃v,kP F.ms k=some v/\rI F.cs F.ev k v
section
variable {F:Fm} {w:J}
def VJ(h:(En.fm F).P w):w.heap[F.m]? =some (.map F.es F.clock):=h (.ob F.m (.map F.es F.clock)) (by simp)
def B5(h:(En.fm F).P w):F.ev.P w:=h (.tree F.ev) (by simp)
def x7(h:(En.fm F).P w){a:Nat}{u:I}(d:(a,u)∈F.cs):w.heap[a]? =some (.cells u.c.toArray aT (0,0)):=h (dS a u) (e8 _ (e8 _ (bZ.2 ⟨(a,u),d,rfl⟩)))
def B6{b:Nat}(h:b∈F.ev.fp):b∈(En.fm F).fp:=aM.2 (bS.2 ⟨.tree F.ev,by simp,aM.2 h⟩)
def j9(w:J):b3.P w:=Nr w
def xR(w:J):fi.P w:=by unfold fi I.P I.Ps;exact⟨bx.nil 4 w,trivial⟩
def j'{b:Nat}(h:b∈b3.fp):False:=Nq h
def xS{b:Nat}(h:b∈fi.fp):False:=by unfold fi I.fp I.a8 at h;simp[En.bd]at h
def fZ.sub{d e:List Nat}{x:Rx}{r:ch}{w':J}(h:fZ d w x r w')(A:∀b∈d,b∈e):fZ e w x r w':=by obtain⟨t,j,k,q,y⟩:=h;exact⟨t,j,k,q,λb z=>(y b z).imp id (A b)⟩
def J':AA Y jM bN mD .i64 .nilFunc:=⟨by kernel_rfl,by kernel_rfl,by kernel_rfl⟩
end
def Xr{P:aE}{T D x:aC}{kd:IntKind}{z:aa}(e:AA P T D x kd z){w:J}{h:Nat}{es:Array MapEntry}{clock:Nat}{ms:List (Int×aa)}(B:w.heap[h]? =some (.map es clock))(C:rN kd es ms)(k:Int):(Instr.lookup T (.map (some h)) (.int kd k) false).run P w=.ok ((kP ms k).getD z) w:=by
 have y:=B2 (k:=k) (i:=0) C;have A:(getObj h).run P w=.ok (.map es clock) w:=by simp[getObj,Sem.run,B]
 have d:=J8 (ms:=ms) (k:=k) (i:=0);unfold Instr.lookup Instr.findKey;simp only[Sem.run_bind,run_underlying e.hT,Result.andThen_ok,A,Sem.run_pure,He e.hk,run_underlying e.hk,y];cases j:((ms.findIdx? λp=>p.1==k).bind λq=>(ms[q]?).map λp=>(0+q,p.2))with
 |none=>rw[j]at d;simp[<-d,R2 e.hz]
 |some E=>rw[j]at d;simp[<-d]
def T0{N:Nat}(Z:rQ N)(W:N<=1000000){F:Fm}(M:F.Ok){w:J}(h:(En.fm F).P w)(k:Int)(S:0<=k)(T:k<8):
  ∃f:Fv,(Instr.lookup jM (.map (some F.m)) (.i k) false).run Y w=.ok f.v w/\g3 Y f.n=true/\∀(x:I) (w':J),(En.fm F).P w'->x.P w'->x.k=k->(x.k=4\/x.k=5->s5 x.k (I.ao x.l)<=N)->x.sz<=1000000->j1 x.rx=true->
   ai Y f.n (f.U++#[x.v]++f.cs) w' λr O=>fZ (x.fp++(En.fm F).fp) w' (hh x.rx) r O/\ag w' O:=by
 have mo:=J';obtain⟨v,hv,hg⟩:=M.all k S T;have z:=Xr mo (VJ h) M.ms k;rw[hv,Option.getD_some]at z;have G:∀x:I,hh x.rx=if x.k=3 then gD 3 (I.ao x.l) mY fq else if x.k=4 then gD 4 (I.ao x.l) fq eD else if x.k=5 then gD 5 (I.ao x.l) eD fq else if x.k=6 then o' x.lo x.V (I.ao x.l)else if x.k=7 then kZ x.lo x.V (I.ao x.l)else x.rx:=λx=>by rw[I.e1];rfl
 rcases hg with⟨y,rfl⟩|⟨u,L,a,b,y,rfl,H,D⟩|⟨rfl,rfl⟩|⟨a,b,rfl,rfl,H,D⟩
 .refine ⟨⟨vO,#[],#[]⟩,z,by kernel_rfl,λx w' j q e E B C=>((T7 x w' q).mono ?_)⟩;rintro _ K ⟨rfl,f⟩;refine⟨⟨x,rfl,?_,q.br f,λb D=>.inr (by grind)⟩,f⟩
  grind
 .refine ⟨⟨yB,#[],#[.pointer (some (ab a)),.pointer (some (ab b))]⟩,z,by kernel_rfl,λx w' j q e E B C=>?_⟩;have pu:u.P w':=by
   rcases y with⟨_,rfl,_⟩|⟨_,rfl,_⟩|⟨_,rfl,_⟩
   .exact xR w'
   .exact j9 w'
   .exact B5 j
  have pz:L.P w':=by
   rcases y with⟨_,_,rfl⟩|⟨_,_,rfl⟩|⟨_,_,rfl⟩
   .exact j9 w'
   .exact B5 j
   .exact j9 w'
  refine(Uc Z W x u L a b w' (λh3=>E (by omega)) B q pu pz (x7 j H) (x7 j D)).mono ?_;rintro r K ⟨A,f⟩;refine⟨?_,f⟩;have Q:hh x.rx=gD x.k (I.ao x.l) u.rx L.rx:=by
   rw[G];rcases y with⟨rfl,rfl,rfl⟩|⟨rfl,rfl,rfl⟩|⟨rfl,rfl,rfl⟩
   .rw [aq e,e];rfl
   .rw [af (by omega),aq e,e];rfl
   .rw [af (by omega),af (by omega),aq e,e];rfl
  rw[Q];refine A.sub λc d=>?_;rcases aY.1 d with d|d
  .grind
  .rcases aY.1 d with d|d
   .rcases y with⟨_,rfl,_⟩|⟨_,rfl,_⟩|⟨_,rfl,_⟩
    .exact (xS d).elim
    .exact (j' d).elim
    .exact dV _ (B6 d)
   .rcases y with⟨_,_,rfl⟩|⟨_,_,rfl⟩|⟨_,_,rfl⟩
    .exact (j' d).elim
    .exact dV _ (B6 d)
    .exact (j' d).elim
 .refine ⟨⟨sT,#[],#[]⟩,z,by kernel_rfl,λx w' j q e E B C=>((Ui x w' q e C).mono ?_)⟩;rintro r K ⟨A,f⟩;refine⟨?_,f⟩;rw[G,af (by omega),af (by omega),af (by omega),aq e];exact A.sub λc d=>by grind
 .refine ⟨⟨sU,#[],#[.pointer (some (ab a)),.pointer (some (ab b))]⟩,z,by kernel_rfl,λx w' j q e E B C=>((Us x fi F.ev a b w' B q (xR w') (B5 j) (x7 j H) (x7 j D) rfl rfl e C).mono ?_)⟩;rintro r K ⟨A,f⟩;refine⟨?_,f⟩;rw[G,af (by omega),af (by omega),af (by omega),af (by omega),aq e];refine A.sub λc d=>?_;rcases aY.1 d with d|d
  .grind
  .rcases aY.1 d with d|d
   .exact (xS d).elim
   .exact dV _ (B6 d)
namespace O5
noncomputable def C0:Code:=(Tryz.f172.body).getD .skip
noncomputable def C1:=C0.sn
noncomputable def C2:=C1.sn
noncomputable def C3:=C2.sn
noncomputable def C4:=C3.sn
noncomputable def C5:=C4.sn
noncomputable def C6:=C5.sn
def ok(w:J)(R:aH)(h:c9 w (.cells #[.i 0,.int .u8 0,.int .u8 0,.slice none 0 0] aT) λe=>
 c9 e (.cells #[.i 0,.int .u8 0,.int .u8 0,.slice none 0 0] aT) λD=>
 kY D (nb w) (.i 0) (.int .u8 0) (.int .u8 0) (.slice none 0 0) λF=>aP F (nb e) (.i 1) λG=>
 aP G ((nb e).add 1) (.int .u8 0) λH=>
 aP H ((nb e).add 2) (.int .u8 0) λI=>
 aP I ((nb e).add 3) (.slice none 0 0) λj=>
 fM j (nb w) λq x y z=>c9 j (.cells #[.i q,.int .u8 x,.int .u8 y,z.v] aT) λk=>
 c9 k (.cells #[.i 0,.int .u8 0,.int .u8 0,.slice none 0 0] aT) λB=>
 kY B (nb k) (.i 6) (.int .u8 0) (.int .u8 0) (.slice (some (nb j)) 1 1) λC=>wx Y C5 (λE w=>kV Y Tryz.f172 E w (λv=>R (ae v) w)) [(5,.func (.func yA) #[] #[]),(4,.func (.func vO) #[] #[]),(3,.pointer (some (nb k))),(10,.agg #[.i 6,.int .u8 0,.int .u8 0,.slice (some (nb j)) 1 1]),(9,.slice (some (nb j)) 1 1),(8,.agg #[.i q,.int .u8 x,.int .u8 y,z.v]),(2,.pointer (some (nb e))),(1,.pointer (some (nb w))),(7,.agg #[.i 1,.int .u8 0,.int .u8 0,.slice none 0 0]),(6,.agg #[.i 0,.int .u8 0,.int .u8 0,.slice none 0 0]),(0,.map none)] C):ai Y L8 #[] w R:=
 uQ (R:=R) (fn:=Tryz.f172) (c:=C0) (args:=[]) (by kernel_rfl) (by kernel_rfl) (by kernel_rfl) (sr C0 (show(λ(E:Env) (w:J)=>dJ Y C0 (λE w=>dJ Y C1 (λE w=>dJ Y C2 (λE w=>dJ Y C3 (λE w=>dJ Y C4 (λE w=>wx Y C5 (λE w=>kV Y Tryz.f172 E w (λv=>R (ae v) w)) E w) E w) E w) E w) E w) E w) (j0 0 []) w from mp h) λ_ _ d=>(sr C1 d λ_ _ d=>(sr C2 d λ_ _ d=>(sr C3 d λ_ _ d=>(sr C4 d λ_ _ d=>(si C5 (by kernel_rfl) d λ_ _ d=>(rt C6 λa A=>wh A d)))))))
end O5
def Si{M:Nat->Prop}{w0 w:J}{L j D:List En}(H:LH M w0 w L D)(h:L.Perm j):LH M w0 w j D:=
 ⟨H.fr,λd e=>H.own d (h.mem_iff.2 e),H.rd,λd e=>H.new d (h.mem_iff.2 e),(h.flatMap_right (·.fp)).nodup_iff.1 H.nd,λd e b q k x=>H.dj d e b q k (h.mem_iff.2 x)⟩
def eE{L:Nat->Bool}{i j:Nat}(h:j≠i):dk L i j=L j:=by
 have:Nat.beq j i=false:=by rw[<-iR,ep];exact h
 grind
def zm{L:Nat->Bool}{i:Nat}:dk L i i=true:=by simp[dk]
def Zt{P:aE}{fn:Func}{E:Env}{w:J}{K:aa->Prop}{t:Nat}{v:aa}(d:fn.results.toList=[.tmp t])(e:E.get? t=some v)(h:K v):kV P fn E w K:=by unfold kV;rw[d];unfold qZ;rw[e];exact h
def x6:List (Op×Option Nat×aC×List Nat):=[
 (.makeMap jM none,some 11,jM,[]),
 (.move (.tmp 4),some 12,mD,[]),
 (.insert jM (.tmp 11) (.const (.int .i64 0)) (.tmp 12),none,kq,[0,1]),
 (.move (.tmp 4),some 13,mD,[]),
 (.insert jM (.tmp 11) (.const (.int .i64 1)) (.tmp 13),none,kq,[0,3]),
 (.move (.tmp 4),some 14,mD,[]),
 (.insert jM (.tmp 11) (.const (.int .i64 2)) (.tmp 14),none,kq,[0,5]),
 (.move (.tmp 5),some 15,Fg,[]),
 (.load aT (.tmp 2),some 16,aT,[]),
 (.load aT (.tmp 1),some 17,aT,[]),
 (.call ⟨.value (.tmp 15),#[.tmp 16,.tmp 17],#[aT,aT]⟩,some 18,mD,[7,8,9]),
 (.insert jM (.tmp 11) (.const (.int .i64 3)) (.tmp 18),none,kq,[0,10]),
 (.move (.tmp 5),some 19,Fg,[]),
 (.load aT (.tmp 1),some 20,aT,[]),
 (.load aT (.tmp 3),some 21,aT,[]),
 (.call ⟨.value (.tmp 19),#[.tmp 20,.tmp 21],#[aT,aT]⟩,some 22,mD,[12,13,14,10]),
 (.insert jM (.tmp 11) (.const (.int .i64 4)) (.tmp 22),none,kq,[0,15]),
 (.move (.tmp 5),some 23,Fg,[]),
 (.load aT (.tmp 3),some 24,aT,[]),
 (.load aT (.tmp 1),some 25,aT,[]),
 (.call ⟨.value (.tmp 23),#[.tmp 24,.tmp 25],#[aT,aT]⟩,some 26,mD,[17,18,19,15]),
 (.insert jM (.tmp 11) (.const (.int .i64 5)) (.tmp 26),none,kq,[0,20]),
 (.insert jM (.tmp 11) (.const (.int .i64 6)) (.func sT),none,kq,[0]),
 (.makeFunc (.func sU) #[] #[.tmp 2,.tmp 3],some 27,mD,[]),
 (.insert jM (.tmp 11) (.const (.int .i64 7)) (.tmp 27),none,kq,[0,23]),
 (.move (.tmp 11),some 28,jM,[0,1,2,3,4,5,6,7,8,9,10,11,12,13,14,15,16,17,18,19,20,21,22,23,24]),
 (.assign (.tmp 28),some 0,jM,[25,20,0,1,2,3,4,5,6,7,8,9,10,11,12,13,14,15,16,17,18,19,20,21,22,23,24,25])]
abbrev ptr(b:Nat):aa:=.pointer (some (ab b))
abbrev kp:aa:=.func (.func yA) #[] #[]
abbrev zw(a b:Nat):aa:=.func (.func sU) #[] #[ptr a,ptr b]
abbrev e6(s:Sl):I:=.mk 6 0 0 s [b3]
def bW(j d e:Nat)(h:I):List (Nat×Nat×aa):=[(0,1,ptr j),(0,2,ptr d),(0,3,ptr e),(0,4,iu),(0,5,kp),(2,12,iu),(4,13,iu),(6,14,iu),(8,15,kp),(9,16,fi.v),(10,17,b3.v),(13,19,kp),(14,20,b3.v),(15,21,h.v),(18,23,kp),(19,24,h.v),(20,25,b3.v),(24,27,zw d e)]
def ew:List (Nat×Int):=[(2,0),(4,1),(6,2),(11,3),(16,4),(21,5),(22,6),(24,7)]
def ho(d:I):List (Nat×Nat×I×I):=[(10,18,fi,b3),(15,22,b3,d),(20,26,d,b3)]
def Joined(e:I)(cs:List (Nat×I))(L:Nat->Bool)(E:Env):Prop:=∀d∈ho e,L d.1=true->∃a b,E.get? d.2.1=some (sN a b)/\(a,d.2.2.1)∈cs/\(b,d.2.2.2)∈cs
def xc(h:I)(cs:List (Nat×I))(L:Nat->Bool)(E:Env)(mp:List En):Prop:=(L 0=false/\mp=[]/\(∀d∈ew,L d.1=false)/\L 25=false/\L 26=false)\/
 (L 0=true/\∃(m:Nat) (es:Array MapEntry) (clock:Nat) (ms:List (Int×aa)),mp=[.ob m (.map es clock)]/\E.get? 11=some (.map (some m))/\rN .i64 es ms/\(∀e v,kP ms e=some v->rI cs h e v)/\(∀d∈ew,(kP ms d.2).isSome=L d.1)/\
  (L 25=true->E.get? 28=some (.map (some m)))/\(L 26=true->E.get? 0=some (.map (some m))))
abbrev oY(d e h:Nat)(s:Sl):List En:=[dS d b3,dS e fi,.row aT 4 s b3.c,dS h (e6 s)]
structure FJ(w0:J)(b1 b2 b4:Nat)(s:Sl)(L:Nat->Bool)(E:Env)(w:J):Prop where
 st:nG (bW b1 b2 b4 (e6 s)) L E
 hp:∃(mp X:List En) (cs:List (Nat×I)),LH F0 w0 w (mp++(oY b1 b2 b4 s++X)) []/\(∀p∈cs,dS p.1 p.2∈oY b1 b2 b4 s++X)/\(b2,fi)∈cs/\(b4,e6 s)∈cs/\Joined (e6 s) cs L E/\xc (e6 s) cs L E mp
def rI.mono{cs x:List (Nat×I)}{y:I}{k:Int}{v:aa}(h:rI cs y k v)(d:∀p∈cs,p∈x):rI x y k v:=by
 rcases h with h|⟨u,z,a,b,e,j,q,w⟩|h|⟨a,b,e,j,q,w⟩
 .exact .inl h
 .exact .inr (.inl ⟨u,z,a,b,e,j,d _ q,d _ w⟩)
 .exact .inr (.inr (.inl h))
 .exact .inr (.inr (.inr ⟨a,b,e,j,d _ q,d _ w⟩))
def J9(ms:List (Int×aa))(k d:Int)(v:aa):kP (ms++[(k,v)]) d=(kP ms d).or (if k=d then some v else none):=by
 unfold kP
 grind
section
variable {w0 w:J} {b1 b2 b4:Nat} {s:Sl} {L:Nat->Bool} {E:Env}
def xc.cb{x:I}{cs w:List (Nat×I)}{mp:List En}(h:xc x cs L E mp)(H:∀p∈cs,p∈w)(i d:Nat)(v:aa)(V:∀K∈[0,25,26,2,4,6,11,16,21,22,24],K≠i)(q:∀t∈[11,28,0],d≠t):xc x w (dk L i) (E.put (some d) v) mp:=by
 have Q:∀e∈ew,dk L i e.1=L e.1:=λe j=>eE (V _ (by simp only[ew,au,aO,aR]at j;rcases j with rfl|rfl|rfl|rfl|rfl|rfl|rfl|rfl<;>simp));have S:dk L i 0=L 0:=eE (V 0 (by simp));have N:dk L i 25=L 25:=eE (V 25 (by simp));have O:dk L i 26=L 26:=eE (V 26 (by simp));rcases h with⟨C,k,y,z,A⟩|⟨C,m,B,clock,ms,k,y,z,A,P,D,F⟩
 .exact .inl ⟨by grind,k,λe j=>by grind,by grind,by grind⟩
 .refine .inr ⟨by grind,m,B,clock,ms,k,?_,z,λM v G=>(A M v G).mono H,λe j=>by grind,λh=>?_,λh=>?_⟩
  .rw [hj (q 11 (by simp)),y]
  .rw [hj (q 28 (by simp)),D (N▸h)]
  .rw [hj (q 0 (by simp)),F (O▸h)]
def FJ.stat(h:FJ w0 b1 b2 b4 s L E w)(i d:Nat)(v:aa)(B:∀e∈bW b1 b2 b4 (e6 s),e.1=i+1->e=(i+1,d,v))(C:∀e∈bW b1 b2 b4 (e6 s),e.2.1=d->e.1=i+1)(V:∀x∈[0,25,26,2,4,6,11,16,21,22,24],x≠i)(k:∀x∈[10,15,20],x≠i)(G:∀t∈[11,28,0],d≠t)(j:∀t∈[18,22,26],d≠t):FJ w0 b1 b2 b4 s (dk L i) (E.put (some d) v) w:=by
 obtain⟨mp,X,A,z,F,I,M,H,K⟩:=h.hp;refine⟨h.st.fill B C,mp,X,A,z,F,I,M,λe q D=>?_,K.cb (λ_ h=>h) i d v V G⟩;have y:dk L i e.1=L e.1/\d≠e.2.1:=by
  simp only[ho,au,aO,aR]at q;rcases q with rfl|rfl|rfl
  .exact ⟨eE (k 10 (by simp)),j 18 (by simp)⟩
  .exact ⟨eE (k 15 (by simp)),j 22 (by simp)⟩
  .exact ⟨eE (k 20 (by simp)),j 26 (by simp)⟩
 rw[hj y.2];exact H e q (y.1▸D)
def FJ.ins(h:FJ w0 b1 b2 b4 s L E w)(i:Nat)(k:Int)(v:aa)(j:(i,k)∈ew)(h0:L 0=true)(V:L i=false)(hv:∀q,(b2,fi)∈q->(b4,e6 s)∈q->Joined (e6 s) q L E->rI q (e6 s) k v):
  ∃m,E.get? 11=some (.map (some m))/\∃y,(Instr.mapUpdate jM (.map (some m)) (.i k) v).run Y w=.ok () y/\FJ w0 b1 b2 b4 s (dk L i) (E.put none undef) y:=by
 obtain⟨mp,X,q,B,N,S,O,P,T⟩:=h.hp;rcases T with⟨ab,_⟩|⟨_,m,es,clock,ms,rfl,C,G,h4,D,H,I⟩
 .grind
 have F:kP ms k=none:=by have:=D _ j;rw[V]at this;simpa using this
 obtain⟨y,A,U,W,Z,r4,r5⟩:=XH J' (B.ob (b:=m) 0 rfl) G k v F;refine⟨m,C,y,U,h.st.pass ?_ (λ_ _=>by simp),[.ob m (.map A (clock+1))],X,q,B.gv 0 (.ob m (.map A (clock+1))) rfl (r4.mono λac _ z=>by simp[En.ob,z]) W (λb M=>.inl M),N,S,O,λe d K=>?_,.inr ⟨?_,m,A,clock+1,ms++[(k,v)],rfl,C,Z,λk' v' Q=>?_,λe d=>?_,λh=>?_,λh=>?_⟩⟩
 .intro e d;simp only[ew,au,aO,aR,eC]at j;simp only[bW,au,aO,aR]at d
  (repeat' rcases d with rfl|d)<;>(try subst d)<;>simp only<;>omega
 .have z:dk L i e.1=L e.1:=eE (by
   simp only[ew,au,aO,aR,eC]at j;simp only[ho,au,aO,aR]at d
   grind)
  exact P e d (z▸K)
 .grind
 .rw [J9]at Q
  grind
 .rw [J9];by_cases x:e.1=i
  .have:e.2=k:=by simp only[ew,au,aO,aR,eC]at j;simp only[ew,au,aO,aR]at d;rcases d with rfl|rfl|rfl|rfl|rfl|rfl|rfl|rfl<;>simp only at x ⊢<;>omega
   rw[x,zm,this,F,aq rfl];rfl
  .have:k≠e.2:=by simp only[ew,au,aO,aR,eC]at j;simp only[ew,au,aO,aR]at d;rcases d with rfl|rfl|rfl|rfl|rfl|rfl|rfl|rfl<;>simp only at x ⊢<;>omega
   rw[eE x,af this,<-D e d];simp
 .exact H (by rwa[eE (by simp only[ew,au,aO,aR,eC]at j;omega)]at h)
 .exact I (by rwa[eE (by simp only[ew,au,aO,aR,eC]at j;omega)]at h)
def FJ.call(h:FJ w0 b1 b2 b4 s L E w)(i d:Nat)(u z:I)(y:(i,d,u,z)∈ho (e6 s)):ai Y yA #[u.v,z.v] w λq P=>∃v,q=ae v/\FJ w0 b1 b2 b4 s (dk L i) (E.put (some d) v) P:=by
 obtain⟨mp,X,D,A,T,W,U,H,M⟩:=h.hp;have V:(i=10/\d=18)\/(i=15/\d=22)\/(i=20/\d=26):=by simp only[ho,au,aO,aR,eC]at y;omega
 refine O7.ok _ _ _ _ _ _ _ _ w _ (A.nw λk aa B=>B.nw λw2 ab C=>⟨sN w.heap.size k.heap.size,rfl,h.st.pass ?_ ?_,mp,X++[dS w.heap.size u,dS k.heap.size z],(w.heap.size,u)::(k.heap.size,z)::D,?_,?_,by grind,by grind,λj e G=>?_,M.cb (λp Z=>by grind) i d _ ?_ ?_⟩)
 .intro j e;simp only[bW,au,aO,aR]at e
  (repeat' rcases e with rfl|e)<;>(try subst e)<;>simp only<;>omega
 .intro j e x;have x:d=j.2.1:=fe x;simp only[bW,au,aO,aR]at e
  (repeat' rcases e with rfl|e)<;>(try subst e)<;>simp only at x<;>omega
 .have q:mp++(oY b1 b2 b4 s++(X++[dS w.heap.size u,dS k.heap.size z]))=mp++(oY b1 b2 b4 s++X)++[dS w.heap.size u]++[dS k.heap.size z]:=by simp
  rw[q];exact C
 .grind
 .by_cases O:j.1=i
  .have:j=(i,d,u,z):=by
    simp only[ho,au,aO,aR,eC]at y;simp only[ho,au,aO,aR]at e
    grind
   subst this;exact⟨_,_,nX,by simp,by simp⟩
  .have N:d≠j.2.1:=by
    simp only[ho,au,aO,aR]at e
    grind
   obtain⟨a,b,F,Q,S⟩:=H j e (by rwa[eE O]at G);exact⟨a,b,by rw[hj N,F],by grind,by grind⟩
 .intro ac K;simp only[au,aO,aR]at K;omega
 grind
def FJ.CJ(h:FJ w0 b1 b2 b4 s L E w)(K:L 0=false):FJ w0 b1 b2 b4 s (dk L 0) (E.put (some 11) (.map (some w.heap.size))) (w.alloc (.map #[] 0)):=by
 obtain⟨mp,X,x,q,C,H,D,F,I⟩:=h.hp;rcases I with⟨_,rfl,y,z,A⟩|⟨M,_⟩
 .refine ⟨h.st.pass ?_ ?_,[.ob w.heap.size (.map #[] 0)],X,x,Si (q.alloc (.map #[] 0)) ?_,C,H,D,λe d B=>?_,.inr ⟨zm,w.heap.size,#[],0,[],rfl,nX,rfl,λN v G=>by simp[kP]at G,λe d=>?_,λh=>?_,λh=>?_⟩⟩
  .intro e d;simp only[bW,au,aO,aR]at d
   (repeat' rcases d with rfl|d)<;>(try subst d)<;>simp
  .intro e d j;have j:11=e.2.1:=fe j;simp only[bW,au,aO,aR]at d
   (repeat' rcases d with rfl|d)<;>(try subst d)<;>simp at j
  .exact List.perm_append_comm
  .have k:dk L 0 e.1=L e.1/\11≠e.2.1:=by simp only[ho,au,aO,aR]at d;rcases d with rfl|rfl|rfl<;>exact⟨eE (by simp),by simp⟩
   rw[hj k.2];exact F e d (k.1▸B)
  .rw [eE (by
    simp only[ew,au,aO,aR]at d
    grind),y e d]
   simp[kP]
  .rw [eE (by decide),z]at h;cases h
  .rw [eE (by decide),A]at h;cases h
 grind
def FJ.XF(h:FJ w0 b1 b2 b4 s L E w)(N:L 0=true):∃m,E.get? 11=some (.map (some m))/\FJ w0 b1 b2 b4 s (dk L 25) (E.put (some 28) (.map (some m))) w:=by
 obtain⟨mp,X,z,y,G,K,H,I,M⟩:=h.hp;rcases M with⟨O,_⟩|⟨_,m,q,clock,ms,rfl,x,A,B,C,P,D⟩
 .grind
 refine⟨m,x,h.st.pass ?_ ?_,[.ob m (.map q clock)],X,z,y,G,K,H,λe d F=>?_,.inr ⟨by grind,m,q,clock,ms,rfl,by rw[hj (by decide),x],A,B,λe d=>?_,λ_=>nX,λh=>?_⟩⟩
 .intro e d;simp only[bW,au,aO,aR]at d
  (repeat' rcases d with rfl|d)<;>(try subst d)<;>simp
 .intro e d j;have j:28=e.2.1:=fe j;simp only[bW,au,aO,aR]at d
  (repeat' rcases d with rfl|d)<;>(try subst d)<;>simp at j
 .have k:dk L 25 e.1=L e.1/\28≠e.2.1:=by simp only[ho,au,aO,aR]at d;rcases d with rfl|rfl|rfl<;>exact⟨eE (by simp),by simp⟩
  rw[hj k.2];exact I e d (k.1▸F)
 .rw [eE (by
   simp only[ew,au,aO,aR]at d
   grind),C e d]
 .rw [hj (by decide)];exact D (by rwa[eE (by decide)]at h)
def FJ.XG(h:FJ w0 b1 b2 b4 s L E w)(O:L 0=true)(A:L 25=true):∃m,E.get? 28=some (.map (some m))/\FJ w0 b1 b2 b4 s (dk L 26) (E.put (some 0) (.map (some m))) w:=by
 obtain⟨mp,X,y,x,H,M,I,K,N⟩:=h.hp;rcases N with⟨P,_⟩|⟨_,m,q,clock,ms,rfl,z,B,C,D,F,Q⟩
 .grind
 refine⟨m,F A,h.st.pass ?_ ?_,[.ob m (.map q clock)],X,y,x,H,M,I,λe d G=>?_,.inr ⟨by grind,m,q,clock,ms,rfl,by rw[hj (by decide),z],B,C,λe d=>?_,λh=>?_,λ_=>nX⟩⟩
 .intro e d;simp only[bW,au,aO,aR]at d
  (repeat' rcases d with rfl|d)<;>(try subst d)<;>simp
 .intro e d j;have j:0=e.2.1:=fe j;simp only[bW,au,aO,aR]at d
  (repeat' rcases d with rfl|d)<;>(try subst d)<;>simp at j
 .have k:dk L 26 e.1=L e.1/\0≠e.2.1:=by simp only[ho,au,aO,aR]at d;rcases d with rfl|rfl|rfl<;>exact⟨eE (by simp),by simp⟩
  rw[hj k.2];exact K e d (k.1▸G)
 .rw [eE (by
   simp only[ew,au,aO,aR]at d
   grind),D e d]
 .rw [hj (by decide)]
  grind
def FJ.ld(h:FJ w0 b1 b2 b4 s L E w){u:I}{b:Nat}(z:dS b u∈oY b1 b2 b4 s){K:aa->Prop}(H:K u.v):mj Y aT (ab b) w λv _=>K v:=by
 obtain⟨mp,X,F,y,_⟩:=h.hp;have d:w.heap[b]? =some (.cells u.c.toArray aT (0,0)):=y.own (dS b u) (dV _ (bK _ z));have A:=cellAt (p:=ab b) (i:=0) (v:=.int .i64 u.k) d rfl rfl;have B:=cellAt (p:=ab b) (i:=1) (v:=.int .u8 (u.lo.toNat:Int)) d rfl rfl;have C:=cellAt (p:=ab b) (i:=2) (v:=.int .u8 (u.V.toNat:Int)) d rfl rfl;have D:=cellAt (p:=ab b) (i:=3) (v:=u.s.v) d rfl rfl;have G:(mj Y aT (ab b) w λv _=>K v)=(∃e:Int,∃j:Int,∃q:Int,∃x:Sl,w.cell? ((ab b).add 0)=some (.int .i64 e)/\w.cell? ((ab b).add 1)=some (.int .u8 j)/\w.cell? ((ab b).add 2)=some (.int .u8 q)/\w.cell? ((ab b).add 3)=some x.v/\K (.agg #[.int .i64 e,.int .u8 j,.int .u8 q,x.v])):=by kernel_rfl
 grind
end
def VK(w:J)(G F C:Nat)(s:Sl):allI (uz Y (FJ w G F C s)) x6 0:=
 ⟨λy x z o j k A q h e=>aak j (by rw[k];exact e.CJ q),
  λy x z o j k A q h e=>my (.inl j) (e.st.get (i:=0) (d:=4) (v:=iu) (by simp[bW]) rfl) (by rw[k];exact e.stat 1 12 (iu) (by simp[bW]) (by simp[bW]) (by simp) (by simp) (by simp) (by simp)),
  λy x z o j k A q h e=>by obtain⟨m,D,B,E,H⟩:=e.ins 2 0 (iu) (by simp[ew]) (h 0 (by simp)) q (λI M O L=>.inl ⟨.inl rfl,rfl⟩);exact pB j D rfl (e.st.get (i:=2) (d:=12) (v:=iu) (by simp[bW]) (h 1 (by simp))) ⟨B,E,by grind⟩,
  λy x z o j k A q h e=>my (.inl j) (e.st.get (i:=0) (d:=4) (v:=iu) (by simp[bW]) rfl) (by rw[k];exact e.stat 3 13 (iu) (by simp[bW]) (by simp[bW]) (by simp) (by simp) (by simp) (by simp)),
  λy x z o j k A q h e=>by obtain⟨m,D,B,E,H⟩:=e.ins 4 1 (iu) (by simp[ew]) (h 0 (by simp)) q (λI M O L=>.inl ⟨.inr (.inl rfl),rfl⟩);exact pB j D rfl (e.st.get (i:=4) (d:=13) (v:=iu) (by simp[bW]) (h 3 (by simp))) ⟨B,E,by grind⟩,
  λy x z o j k A q h e=>my (.inl j) (e.st.get (i:=0) (d:=4) (v:=iu) (by simp[bW]) rfl) (by rw[k];exact e.stat 5 14 (iu) (by simp[bW]) (by simp[bW]) (by simp) (by simp) (by simp) (by simp)),
  λy x z o j k A q h e=>by obtain⟨m,D,B,E,H⟩:=e.ins 6 2 (iu) (by simp[ew]) (h 0 (by simp)) q (λI M O L=>.inl ⟨.inr (.inr rfl),rfl⟩);exact pB j D rfl (e.st.get (i:=6) (d:=14) (v:=iu) (by simp[bW]) (h 5 (by simp))) ⟨B,E,by grind⟩,
  λy x z o j k A q h e=>my (.inl j) (e.st.get (i:=0) (d:=5) (v:=kp) (by simp[bW]) rfl) (by rw[k];exact e.stat 7 15 (kp) (by simp[bW]) (by simp[bW]) (by simp) (by simp) (by simp) (by simp)),
  λy x z o j k A q h e=>pC j (e.st.get (i:=0) (d:=2) (v:=ptr F) (by simp[bW]) rfl) (e.ld (u:=fi) (b:=F) (aD (i:=1) rfl) (K:=λv=>FJ w G F C s (dk y 8) (x.put o.dst v) z) (by rw[k];exact e.stat 8 16 ((fi).v) (by simp[bW]) (by simp[bW]) (by simp) (by simp) (by simp) (by simp))),
  λy x z o j k A q h e=>pC j (e.st.get (i:=0) (d:=1) (v:=ptr G) (by simp[bW]) rfl) (e.ld (u:=b3) (b:=G) (aD (i:=0) rfl) (K:=λv=>FJ w G F C s (dk y 9) (x.put o.dst v) z) (by rw[k];exact e.stat 9 17 ((b3).v) (by simp[bW]) (by simp[bW]) (by simp) (by simp) (by simp) (by simp))),
  λy x z o j k A q h e=>by refine ES j (e.st.get (i:=8) (d:=15) (v:=kp) (by simp[bW]) (h 7 (by simp))) (e.st.get (i:=9) (d:=16) (v:=(fi).v) (by simp[bW]) (h 8 (by simp))) (e.st.get (i:=10) (d:=17) (v:=(b3).v) (by simp[bW]) (h 9 (by simp))) (by kernel_rfl) ((e.call 10 18 (fi) (b3) (by simp[ho])).mono ?_);rintro ab B ⟨v,V,H⟩;rw[A,show zeroOf Y mD=.nilFunc from by kernel_rfl];exact⟨v,V,by grind⟩,
  λy x z o j k A q h e=>by
   obtain⟨mp,X,I,aa,hc,hm,ac,W,ad⟩:=e.hp;obtain⟨a,b,N,_,_⟩:=W (10,18,fi,b3) (by simp[ho]) (h 10 (by simp));obtain⟨m,D,B,E,H⟩:=e.ins 11 3 (sN a b) (by simp[ew]) (h 0 (by simp)) q (λI M O L=>by obtain⟨P,Q,S,T,U⟩:=L (10,18,fi,b3) (by simp[ho]) (h 10 (by simp));exact .inr (.inl ⟨fi,b3,P,Q,.inl ⟨rfl,rfl,rfl⟩,fe (N.symm.trans S),T,U⟩))
   exact pB j D rfl N ⟨B,E,by grind⟩,
  λy x z o j k A q h e=>my (.inl j) (e.st.get (i:=0) (d:=5) (v:=kp) (by simp[bW]) rfl) (by rw[k];exact e.stat 12 19 (kp) (by simp[bW]) (by simp[bW]) (by simp) (by simp) (by simp) (by simp)),
  λy x z o j k A q h e=>pC j (e.st.get (i:=0) (d:=1) (v:=ptr G) (by simp[bW]) rfl) (e.ld (u:=b3) (b:=G) (aD (i:=0) rfl) (K:=λv=>FJ w G F C s (dk y 13) (x.put o.dst v) z) (by rw[k];exact e.stat 13 20 ((b3).v) (by simp[bW]) (by simp[bW]) (by simp) (by simp) (by simp) (by simp))),
  λy x z o j k A q h e=>pC j (e.st.get (i:=0) (d:=3) (v:=ptr C) (by simp[bW]) rfl) (e.ld (u:=e6 s) (b:=C) (aD (i:=3) rfl) (K:=λv=>FJ w G F C s (dk y 14) (x.put o.dst v) z) (by rw[k];exact e.stat 14 21 ((e6 s).v) (by simp[bW]) (by simp[bW]) (by simp) (by simp) (by simp) (by simp))),
  λy x z o j k A q h e=>by refine ES j (e.st.get (i:=13) (d:=19) (v:=kp) (by simp[bW]) (h 12 (by simp))) (e.st.get (i:=14) (d:=20) (v:=(b3).v) (by simp[bW]) (h 13 (by simp))) (e.st.get (i:=15) (d:=21) (v:=(e6 s).v) (by simp[bW]) (h 14 (by simp))) (by kernel_rfl) ((e.call 15 22 (b3) (e6 s) (by simp[ho])).mono ?_);rintro ab B ⟨v,V,H⟩;rw[A,show zeroOf Y mD=.nilFunc from by kernel_rfl];exact⟨v,V,by grind⟩,
  λy x z o j k A q h e=>by
   obtain⟨mp,X,I,aa,hc,hm,ac,W,ad⟩:=e.hp;obtain⟨a,b,N,_,_⟩:=W (15,22,b3,e6 s) (by simp[ho]) (h 15 (by simp));obtain⟨m,D,B,E,H⟩:=e.ins 16 4 (sN a b) (by simp[ew]) (h 0 (by simp)) q (λI M O L=>by obtain⟨P,Q,S,T,U⟩:=L (15,22,b3,e6 s) (by simp[ho]) (h 15 (by simp));exact .inr (.inl ⟨b3,e6 s,P,Q,.inr (.inl ⟨rfl,rfl,rfl⟩),fe (N.symm.trans S),T,U⟩))
   exact pB j D rfl N ⟨B,E,by grind⟩,
  λy x z o j k A q h e=>my (.inl j) (e.st.get (i:=0) (d:=5) (v:=kp) (by simp[bW]) rfl) (by rw[k];exact e.stat 17 23 (kp) (by simp[bW]) (by simp[bW]) (by simp) (by simp) (by simp) (by simp)),
  λy x z o j k A q h e=>pC j (e.st.get (i:=0) (d:=3) (v:=ptr C) (by simp[bW]) rfl) (e.ld (u:=e6 s) (b:=C) (aD (i:=3) rfl) (K:=λv=>FJ w G F C s (dk y 18) (x.put o.dst v) z) (by rw[k];exact e.stat 18 24 ((e6 s).v) (by simp[bW]) (by simp[bW]) (by simp) (by simp) (by simp) (by simp))),
  λy x z o j k A q h e=>pC j (e.st.get (i:=0) (d:=1) (v:=ptr G) (by simp[bW]) rfl) (e.ld (u:=b3) (b:=G) (aD (i:=0) rfl) (K:=λv=>FJ w G F C s (dk y 19) (x.put o.dst v) z) (by rw[k];exact e.stat 19 25 ((b3).v) (by simp[bW]) (by simp[bW]) (by simp) (by simp) (by simp) (by simp))),
  λy x z o j k A q h e=>by refine ES j (e.st.get (i:=18) (d:=23) (v:=kp) (by simp[bW]) (h 17 (by simp))) (e.st.get (i:=19) (d:=24) (v:=(e6 s).v) (by simp[bW]) (h 18 (by simp))) (e.st.get (i:=20) (d:=25) (v:=(b3).v) (by simp[bW]) (h 19 (by simp))) (by kernel_rfl) ((e.call 20 26 (e6 s) (b3) (by simp[ho])).mono ?_);rintro ab B ⟨v,V,H⟩;rw[A,show zeroOf Y mD=.nilFunc from by kernel_rfl];exact⟨v,V,by grind⟩,
  λy x z o j k A q h e=>by
   obtain⟨mp,X,I,aa,hc,hm,ac,W,ad⟩:=e.hp;obtain⟨a,b,N,_,_⟩:=W (20,26,e6 s,b3) (by simp[ho]) (h 20 (by simp));obtain⟨m,D,B,E,H⟩:=e.ins 21 5 (sN a b) (by simp[ew]) (h 0 (by simp)) q (λI M O L=>by obtain⟨P,Q,S,T,U⟩:=L (20,26,e6 s,b3) (by simp[ho]) (h 20 (by simp));exact .inr (.inl ⟨e6 s,b3,P,Q,.inr (.inr ⟨rfl,rfl,rfl⟩),fe (N.symm.trans S),T,U⟩))
   exact pB j D rfl N ⟨B,E,by grind⟩,
  λy x z o j k A q h e=>by obtain⟨m,D,B,E,H⟩:=e.ins 22 6 (.func (.func sT) #[] #[]) (by simp[ew]) (h 0 (by simp)) q (λI M O L=>.inr (.inr (.inl ⟨rfl,rfl⟩)));exact pB j D rfl rfl ⟨B,E,by grind⟩,
  λy x z o j k A q h e=>aaj j (e.st.get (i:=0) (d:=2) (v:=ptr F) (by simp[bW]) rfl) (e.st.get (i:=0) (d:=3) (v:=ptr C) (by simp[bW]) rfl) (by rw[k];exact e.stat 23 27 (zw F C) (by simp[bW]) (by simp[bW]) (by simp) (by simp) (by simp) (by simp)),
  λy x z o j k A q h e=>by obtain⟨m,D,B,E,H⟩:=e.ins 24 7 (zw F C) (by simp[ew]) (h 0 (by simp)) q (λI M O L=>.inr (.inr (.inr ⟨F,C,rfl,rfl,M,O⟩)));exact pB j D rfl (e.st.get (i:=24) (d:=27) (v:=zw F C) (by simp[bW]) (h 23 (by simp))) ⟨B,E,by grind⟩,
  λy x z o j k A q h e=>by obtain⟨m,Z,H⟩:=e.XF (h 0 (by simp));exact my (.inl j) Z (by grind),
  λy x z o j k A q h e=>by obtain⟨m,Z,H⟩:=e.XG (h 0 (by simp)) (h 25 (by simp));exact my (.inr j) Z (by grind),trivial⟩
def VL{w k:J}{j e h:Nat}{s:Sl}{E:Env}(H:LH F0 w k (oY j e h s) [])(q:E.get? 1=some (ptr j))(x:E.get? 2=some (ptr e))(y:E.get? 3=some (ptr h))(z:E.get? 4=some iu)(A:E.get? 5=some kp):FJ w j e h s (λ_=>false) E k.drew:=by
 refine⟨λD d C=>?_,[],[],[(e,fi),(h,e6 s)],by simpa using H.drew,?_,by simp,by simp,λD d B=>(by cases B),.inl ⟨rfl,rfl,λ_ _=>rfl,rfl,rfl⟩⟩
 .simp only[bW,au,aO,aR]at d
  (repeat' rcases d with rfl|d)<;>(try subst d)<;>first |exact q|exact x|exact y|exact z|exact A|cases C
 grind
def VI{w q:J}{A B C:Nat}{s:Sl}{L:Nat->Bool}{E:Env}(G:∀i,i<x6.length->L i=true)(U:FJ w A B C s L E q):∃y:Fm,E.get? 0=some (.map (some y.m))/\y.Ok/\(En.fm y).P q/\(∀b∈(En.fm y).fp,w.heap.size<=b)/\ag w q:=by
 have hlen:x6.length=27:=rfl;obtain⟨mp,X,D,j,Z,hm,ae,hj,ab⟩:=U.hp;rcases ab with⟨ad,_⟩|⟨_,m,F,clock,ms,rfl,h2,O,Q,S,h6,T⟩
 .grind
 have mem:∀p∈D,dS p.1 p.2∈[En.ob m (.map F clock)]++(oY A B C s++X):=λp x=>dV _ (Z p x);have ac:aK q aT 4 s b3.c:=j.get (e:=.row aT 4 s b3.c) 3 rfl;refine⟨⟨m,F,clock,ms,D,s⟩,T (G 26 (by omega)),⟨O,λh h0 h8=>?_⟩,λN d=>?_,λb V=>?_,j.fr⟩
 .have aa:∃i,(i,h)∈ew/\i<27:=by
   have:h=0\/h=1\/h=2\/h=3\/h=4\/h=5\/h=6\/h=7:=by omega
   rcases this with rfl|rfl|rfl|rfl|rfl|rfl|rfl|rfl
   .exact ⟨2,by simp[ew],by omega⟩
   .exact ⟨4,by simp[ew],by omega⟩
   .exact ⟨6,by simp[ew],by omega⟩
   .exact ⟨11,by simp[ew],by omega⟩
   .exact ⟨16,by simp[ew],by omega⟩
   .exact ⟨21,by simp[ew],by omega⟩
   .exact ⟨22,by simp[ew],by omega⟩
   .exact ⟨24,by simp[ew],by omega⟩
  obtain⟨i,hi,af⟩:=aa;have H:=S _ hi;rw[G i (by omega)]at H;obtain⟨v,M⟩:=Option.isSome_iff_exists.1 H;exact⟨v,M,Q h v M⟩
 .rcases au.1 d with rfl|d
  .exact j.own _ (by simp)
  rcases au.1 d with rfl|d
  .show I.P q (e6 s);unfold I.P I.Ps I.Ps;exact⟨ac.bd,j9 q,trivial⟩
  .obtain ⟨p,x,rfl⟩:=bZ.1 d;exact j.own _ (mem p x)
 .obtain ⟨N,d,z⟩:=bS.1 (aM.1 V);rcases au.1 d with rfl|d
  .exact (j.new _ (aD (i:=0) rfl) b z).resolve_right id
  rcases au.1 d with rfl|d
  .have k:b∈(e6 s).fp:=aM.1 z;unfold I.fp at k;rcases aY.1 k with k|k
   .exact (j.new _ (aD (i:=3) rfl) b (gk k)).resolve_right id
   .obtain ⟨t,K,W⟩:=I.bJ.1 k;simp at K;subst K;exact(j' W).elim
  .obtain ⟨p,x,rfl⟩:=bZ.1 d;exact(j.new _ (mem p x) b z).resolve_right id
def T6(w:J):ai Y L8 #[] w λr h=>(∃d:Fm,r=ae (.map (some d.m))/\d.Ok/\(En.fm d).P h/\∀b∈(En.fm d).fp,w.heap.size<=b)/\ag w h:=by refine O5.ok w _ ((bI [] (by simp)).nw λj _ x=>x.nw λN _ B=>B.jL 0 rfl λT C=>C.jL 1 rfl λk e=>⟨0,0,0,⟨none,0,0⟩,e.ld 0 0,e.ld 0 1,e.ld 0 2,e.ld 0 3,e.cN (n:=1) (sz:=4) (cs:=b3.c) rfl (by decide) λq y=>y.nw λS _ z=>z.jL 3 rfl λM A=>?_⟩);have D:LH F0 w M (oY w.heap.size j.heap.size q.heap.size ⟨some (ab k.heap.size),1,1⟩) []:=A;refine Cm x6 (by kernel_rfl) (FJ w w.heap.size j.heap.size q.heap.size ⟨some (ab k.heap.size),1,1⟩) (VL D rfl rfl rfl rfl rfl) (VK _ _ _ _ _) λQ O N L K=>?_;obtain⟨d,E,F,G,H,I⟩:=VI L K;exact Zt (by kernel_rfl) E ⟨⟨d,rfl,F,G,H⟩,I⟩
section
variable {M:Nat->Prop} {w0 w:J} {L D:List En}
def _root_.Go.W.LH.SP(H:LH M w0 w L D)(i:Nat){P:aE}{t ty e:aC}{z:aa}{sz bytes:Nat}(k:g0 P t e z sz bytes){T:aC}{s:Sl}{xs:List aa}{news:Array aa}{A:J->Prop}{K:Sl->J->Prop}(V:L[i]? =some (.row e sz s xs))(y:∀d,LH M w0 d L D->A d)(B:∀h d,LH M w0 d (L.set i (.row e sz h (xs++news.toList))) D->K h d)(C:(s.n+1) *bytes<=140737488355328)(E:news.size=sz:=by rfl)(x:∀u∈news.toList,u.oneCell'=true:=by simp[Value.oneCell']):
  c9 w (.cells news T) λj=>A j/\∃h d,(Builtin.append_ #[t,t] ty #[s.v,.slice (some (Addr.mk w.heap.size 0 none)) 1 1]).run P j=.ok h.v d/\K h d:=
 ⟨y _ (H.br (Fr.alloc _ _ _)),H.uE i k V (λh d q _ _=>B h d q) C E x⟩
end
mutual
def dL:Rx->Rx|.mk k lo V l=>hh (.mk k lo V (e0 l))
def e0:List Rx->List Rx
 |[]=>[]
 |a::l=>dL a::e0 l
end
def Vy(N:Nat):Rx->Bool|.mk k _ _ l=>ak (k=4\/k=5->s5 k l<=N)
def qP(N:Nat)(y:Rx):Bool:=j1 y&&ak (y.sz<=1000000)&&Vy N y
mutual
def oW(N:Nat):Rx->Bool|.mk k lo V l=>qx N l&&qP N (.mk k lo V (e0 l))
def qx(N:Nat):List Rx->Bool
 |[]=>true
 |a::l=>oW N a&&qx N l
end
def IH{N:Nat}:∀{l:List Rx} {a:Rx},qx N l=true->a∈l->oW N a=true
 |b::l,a,d,e=>by
  unfold qx at d;rw[bq]at d;rcases au.1 e with rfl|e
  .exact d.1
  .exact IH d.2 e
def qN:∀l:List Rx,e0 l=l.map dL
 |[]=>rfl
 |a::l=>by unfold e0;rw[qN l];rfl
def Ns{M:Nat->Prop}{w0 w:J}{L D:List En}(H:LH M w0 w L D):LH M w0 w L (D++[.trees []]):=
 H.gy (.trees []) (Fr.refl _ _) (by show I.Ps w [];unfold I.Ps;trivial) (λb d=>by have:=aM.1 d;unfold I.a8 at this;cases this)
def sF{acc:List I}{t:I}{Q:Nat->Prop}(h:∀b∈I.a8 acc,Q b)(k:∀b∈t.fp,Q b):∀b∈I.a8 (acc++[t]),Q b:=by
 intro b j;obtain⟨u,d,e⟩:=I.bJ.1 j;rcases aY.1 d with d|d
 .exact h b (I.bJ.2 ⟨u,d,e⟩)
 .simp at d;rw[d]at e;exact k b e
abbrev Sm(N:Nat)(F:Fm)(n:Nat):Prop:=∀(x:I) (w:J),x.sz<=n->oW N x.rx=true->(En.fm F).P w->x.P w->ai Y Db #[.map (some F.m),x.v] w λr d=>fZ (x.fp++(En.fm F).fp) w (dL x.rx) r d/\ag w d
def GQ{N:Nat}(hS:rQ N)(hN:N+1<=1000000){F:Fm}(hF:F.Ok):∀n:Nat,n<=1000000->Sm N F n
 |0,_=>λe y ac _ _ _=>absurd ac (by have:=I.lS e;omega)
 |n+1,hn=>λe y ac W pF px=>by
  have ih:=GQ hS hN hF n (by omega);have hs:=I.hW e;have hl:=I.fv e.l;have nr:=I.cr px.parts.1;have Z:qx N (I.ao e.l)=true/\qP N (.mk e.k e.lo e.V (e0 (I.ao e.l)))=true:=by
   rw[I.e1]at W;unfold oW at W
   rwa[bq]at W
  have ad:0<=e.k/\e.k<8:=by have:=Z.2;unfold qP j1 at this;simp only[bq,decide_eq_true_eq]at this;exact this.1.1.1
  have loop:∀(d i:Nat) (acc:List I) (sl:Sl) (B C A:Nat) (x:J),i+d=e.l.length->I.ao acc=e0 (I.ao (e.l.take i))->(∀b∈I.a8 acc,y.heap.size<=b\/b∈e.fp++(En.fm F).fp)->
    LH F0 y x [.c B e.c aT,.c C [.int .i64 0,.int .u8 0,.int .u8 0,.slice none 0 0] aT,.c A [.int .i64 e.k,.int .u8 (e.lo.toNat:Int),.int .u8 (e.V.toNat:Int),sl.v] aT,.row aT 4 sl (acc.flatMap I.c)] [.tree e,.fm F,.trees acc]->
    we.L0 (some F.m) (ab B) (ab C) (ab A) e.s ((e.s.n:Nat):Int) (i:Int) x λr w'=>fZ (e.fp++(En.fm F).fp) y (dL e.rx) r w'/\ag y w':=by
   intro d;induction d with
   |zero=>
    intro i acc sl B C A x hi w U j;rw[fQ (by omega)]at w;obtain⟨f,f1,f2,f3⟩:=T0 hS (by omega) hF (j.getD 1) e.k ad.1 ad.2;have am:∀b∈(I.row sl acc).fp,y.heap.size<=b:=λb h=>(j.new _ (aD (i:=3) rfl) b (gk h)).resolve_right id;have H:LH F0 y x [.c B e.c aT,.c C [.int .i64 0,.int .u8 0,.int .u8 0,.slice none 0 0] aT,.c A [.int .i64 e.k,.int .u8 (e.lo.toNat:Int),.int .u8 (e.V.toNat:Int),sl.v] aT] [.tree e,.fm F,.trees acc,I.row sl acc,.tree (.mk e.k e.lo e.V sl acc)]:=j.q0 3 2 e.k e.lo e.V;have aq:(I.mk e.k e.lo e.V sl acc).P x:=H.getD 4;have S:(I.mk e.k e.lo e.V sl acc).rx=.mk e.k e.lo e.V (e0 (I.ao e.l)):=by unfold I.rx;rw[w]
    have G:=Z.2;unfold qP at G;simp only[bq,decide_eq_true_eq]at G;have an:(I.mk e.k e.lo e.V sl acc).sz<=1000000:=by have E:=I.eB (I.mk e.k e.lo e.V sl acc);rw[S]at E;rw[<-E];exact G.1.2
    have al:e.k=4\/e.k=5->s5 e.k (I.ao acc)<=N:=λhk=>by rw[w];exact eH G.2 hk
    have ak:dL e.rx=hh (I.mk e.k e.lo e.V sl acc).rx:=by rw[S,I.e1];unfold dL;rfl
    refine we.bC _ _ _ _ _ _ _ _ _ (aZ (aW (by omega)) ⟨e.k,j.ld 0 0,f,f1,_,_,_,sl,j.ld 2 0,j.ld 2 1,j.ld 2 2,j.ld 2 3,?_⟩);rw[f2];refine(show cF true _ from ?_);refine(f3 (.mk e.k e.lo e.V sl acc) x (j.getD 1) aq rfl al an (by rw[S];exact G.1.1)).mono ?_;rintro _ w2 ⟨⟨t,rfl,ht,pt,D⟩,T⟩;have Q:=H.gy (.tree t) T pt (λb h=>by
     rcases D b (aM.1 h)with h|h
     .exact .inl h
     .rcases aY.1 h with h|h
      .exact .inr (.inr ⟨_,aD (i:=4) rfl,aM.2 h⟩)
      .exact .inr (.inr ⟨_,aD (i:=1) rfl,h⟩))
    refine⟨_,_,_,t.s,rfl,Q.jL 1 rfl λw3 z=>⟨_,_,_,t.s,z.ld 1 0,z.ld 1 1,z.ld 1 2,z.ld 1 3,⟨t,rfl,by rw[ak];exact ht,z.getD 5,λb h=>?_⟩,z.fr⟩⟩;rcases D b h with h|h
    .exact .inl (a6 j.fr.size h)
    .rcases aY.1 h with h|h
     .unfold I.fp at h;rcases aY.1 h with h|h
      .exact .inl (am b h)
      .exact U b h
     .exact .inr (dV _ h)
   |succ d ap=>
    intro i acc sl B C A x hi w U j;have L:e.l[i]? =some (e.l[i]'(by omega)):=a4 (by omega);generalize e.l[i]'(by omega)=a at L;have M:=aD L;have ay:=I.eh M;have fa:oW N a.rx=true:=IH Z.1 (by rw[I.fu];exact bZ.2 ⟨a,M,rfl⟩);have aa:∀b∈a.fp,b∈e.fp:=λb h=>I.gh.2 (.inr (I.bJ.2 ⟨a,M,h⟩));refine we.bC _ _ _ _ _ _ _ _ _ (a1 (aS (by omega)) (iq (show e.P x from j.getD 0) rfl L (j.nw λw8 _ H8=>H8.jL 4 rfl λaz af=>af.dr λae q=>⟨sl,q.ld 2 3,a.k,a.lo.toNat,a.V.toNat,a.s,q.ld 4 0,q.ld 4 1,q.ld 4 2,q.ld 4 3,?_⟩)));refine(ih a ae (by omega) fa (q.getD 1) ((show e.P ae from q.getD 0).parts.2.mem M)).mono ?_;rintro _ aA ⟨⟨t,rfl,ht,pt,D⟩,T⟩;have O:=q.gy (.tree t) T pt (λb h=>by
     rcases D b (aM.1 h)with h|h
     .exact .inl h
     .rcases aY.1 h with h|h
      .exact .inr (.inr ⟨_,aD (i:=0) rfl,aM.2 (aa b h)⟩)
      .exact .inr (.inr ⟨_,aD (i:=1) rfl,h⟩))
    have aw:acc.length=i:=by have E:=congrArg List.length w;rw[I.fu,qN,I.fu]at E;simp only[List.length_map,gJ]at E;omega
    have ax:=I.cr (O.get 3:aK _ _ _ _ _).bd;refine⟨_,_,_,t.s,rfl,O.ld 2 3,O.SP 3 qq (xs:=acc.flatMap I.c) rfl (λw' H=>H.ld 2 3) (λs' aB ah=>ah.st 2 3 rfl λar ai=>?_) (by omega)⟩;rw[bb _ (by omega)];have aj:=(ai.q4 2 3).take 4;refine ap (i+1) (acc++[t]) s' B C A ar (by omega) ?_ (sF U λb h=>?_) ?_
    .rw [jH,w,eA,L,Option.toList_some,jH,qN,qN,List.map_append];show _++[t.rx]=_;rw[ht];rfl
    .rcases D b h with h|h
     .exact .inl (a6 q.fr.size h)
     .rcases aY.1 h with h|h
      .exact .inr (bK _ (aa b h))
      .exact .inr (dV _ h)
    .rw [me];exact aj.forget _ (by simp)
  refine we.ok _ _ _ _ _ y _ ((bI [.tree e,.fm F] (by
   intro av w;simp only[au,aO,aR]at w;rcases w with rfl|rfl
   .exact px
   .exact pF)).nw λx _ H1=>H1.nw λw2 _ K=>⟨e.k,K.ld 0 0,e.lo.toNat,K.ld 0 1,e.V.toNat,K.ld 0 2,K.nw λw3 _ Q=>Q.jL 2 rfl λw7 H7=>⟨e.s,H7.ld 0 3,?_⟩⟩)
  exact loop e.l.length 0 [] ⟨none,0,0⟩ _ _ _ w7 (by omega) rfl (λb h=>by unfold I.a8 at h;cases h) (Ns (H7.hR aT 4))
def Uh{N:Nat}(k:rQ N)(j:N+1<=1000000){F:Fm}(e:F.Ok)(x:I)(w:J)(h:x.sz<=1000000)(q:oW N x.rx=true)(y:(En.fm F).P w)(z:x.P w):ai Y Db #[.map (some F.m),x.v] w λr d=>fZ (x.fp++(En.fm F).fp) w (dL x.rx) r d/\ag w d:=
 GQ k j e 1000000 (bm _) x w h q y z
section
variable {M:Nat->Prop} {w0 w:J} {L D:List En} {U:List Nat}
def _root_.Go.W.LH.ql(H:LH M w0 w L D){P:aE}{g:FuncId}{args:Array aa}{K:aH}{d:List Nat}{x:Rx}(z:ai P g args w λr w'=>fZ d w x r w'/\ag w w')(hold:∀b∈d,∃g∈D,b∈g.fp)(A:∀(t:I) (w':J),t.rx=x->LH M w0 w' L (D++[.tree t])->(∀b∈t.fp,w.heap.size<=b\/b∈d)->K (ae t.v) w'):ee U P g args w K:=
 gN (z.mono λr w' ⟨⟨t,j,k,q,e⟩,f⟩=>⟨f,by
  subst j;exact A t w' k (H.gy (.tree t) f q λb y=>(e b (aM.1 y)).imp id λh=>.inr (hold b h)) e⟩)
end
namespace m0
noncomputable abbrev t0:=az Y Tryz.f113 [(6,ls [0,1,2,3,4,5,6,7,8]),(8,ls [0,1,2,3,4,5,6,7,8]),(13,ls [0,1,2,3,4,5,6,7,8,9,10,11])] [2,3]
noncomputable def a2:=bf t0 [0,1,1,1,3] [(2,.l [.I,.Y,.Y,.s] aN),(3,.l [.I,.Y,.Y,.s] aN),(5,.v [.s]),(6,.v [.s]),(7,.v [.I])]
noncomputable abbrev t1:=be a2
noncomputable def cm:=bf t1 [0,1,1,1,4] [(2,.l [.I,.Y,.Y,.s] aN),(3,.l [.I,.Y,.Y,.s] aN),(8,.v [.I])]
noncomputable abbrev t2:=be cm
noncomputable abbrev bV:=av t2 [5] [(2,.l [.I,.Y,.Y,.s] aN),(3,.l [.I,.Y,.Y,.s] aN)]
noncomputable abbrev t3:=ay bV
def dB:=bg t3 cm
def bw:=bg t3 a2
def aB:=aA t3 CO [.a 4,.I,.Y,.Y,.s,.a 4,.I,.Y,.Y,.s]
end m0
def ka{p:Addr}{K:Addr->Prop}(h:K p):dM (some p) K:=h
def Bn{x y:Int}(l:List Int)(h:x<y):ef (cy x y::l)=-1:=by unfold ef cy;simp[h]
def Bm{x y:Int}(l:List Int)(h:y<x):ef (cy x y::l)=1:=by unfold ef cy;rw[af (show ¬x<y by omega),aq h];simp
def Bl{x y:Int}(l:List Int)(d:¬x<y)(e:¬y<x):ef (cy x y::l)=ef l:=by
 conv=>lhs;unfold ef cy
 rw[af d,af e];simp
abbrev Sw(n:Nat):Prop:=∀(a b:I) (w:J),a.sz<=n->a.P w->b.P w->ai Y CO #[a.v,b.v] w λr d=>r=ae (.int .i64 (a5 a.rx b.rx))/\ag w d
def GX:∀n:Nat,n<=1000000->Sw n
 |0,_=>λa b B e _ _=>absurd e (by have:=I.lS a;omega)
 |n+1,hn=>λa b B e pa pb=>by
  have ih:=GX n (by omega);have hs:=I.hW a;have hl:=I.fv a.l;have na:=I.cr pa.parts.1;have ap:=I.cr pb.parts.1;have z:a5 a.rx b.rx=if ef [cy a.k b.k,cy a.lo.toNat b.lo.toNat,cy a.V.toNat b.V.toNat]≠0 then ef [cy a.k b.k,cy a.lo.toNat b.lo.toNat,cy a.V.toNat b.V.toNat]else cmpL (I.ao a.l) (I.ao b.l):=by rw[I.e1 a,I.e1 b];unfold a5;rfl
  have am:∀(d i:Nat) (q w:Nat) (H:J),i+d=a.l.length->i<=b.l.length->cmpL (I.ao (a.l.drop i)) (I.ao (b.l.drop i))=a5 a.rx b.rx->LH F0 B H [.g q,.g w] [.tree a,.tree b]->
    m0.cm q a.k a.lo.toNat a.V.toNat a.s w b.k b.lo.toNat b.V.toNat b.s (i:Int) H λr M=>r=ae (.int .i64 (a5 a.rx b.rx))/\ag B M:=by
   intro d;induction d with
   |zero=>
    intro i q w H hi ak h C;rw[cU (by omega:a.l.length<=i)]at h;refine m0.dB _ _ _ _ _ _ _ _ _ _ _ _ _ (aZ (aW (by omega)) (aF (λe=>⟨?_,C.fr⟩) (λe=>aF (λj=>?_) (λj=>⟨?_,C.fr⟩))))
    .rw [dz (by omega:i<b.l.length)]at h;rw[<-h];rfl
    .omega
    .rw [cU (by omega:b.l.length<=i)]at h;rw[<-h];rfl
   |succ d al=>
    intro i q w H hi ak h C;have L:a.l[i]? =some (a.l[i]'(by omega)):=a4 (by omega);rw[dz (by omega:i<a.l.length)]at h;generalize a.l[i]'(by omega)=x at L h;have av:=I.eh (aD L);refine m0.dB _ _ _ _ _ _ _ _ _ _ _ _ _ (a1 (aS (by omega)) (aF (λad=>⟨by omega,by omega,?_⟩) (λan=>aF (λe=>?_) (λe=>aF (λj=>⟨?_,C.fr⟩) (λj=>?_)))))
    .have ac:b.l[i]? =some (b.l[i]'(by omega)):=a4 (by omega);rw[dz (by omega:i<b.l.length)]at h;generalize b.l[i]'(by omega)=y at ac h;refine I.dd (show a.P H from C.getD 0).parts.1 L λp hp _=>C.ah λA D=>?_;have c:=I.again (show a.P A from D.getD 0).parts.1 L hp;refine⟨_,_,_,_,c.c0,c.c1,c.c2,c.c3,by omega,by omega,I.dd (show b.P A from D.getD 1).parts.1 ac λar hq T=>⟨_,_,_,_,T.c0,T.c1,T.c2,T.c3,D.aw (ih x y A (by omega) ((show a.P A from D.getD 0).parts.2.get L) ((show b.P A from D.getD 1).parts.2.get ac)) ?_⟩⟩;rintro _ U rfl E;have e2:cmpL (I.ao (x::a.l.drop (i+1))) (I.ao (y::b.l.drop (i+1)))=if a5 x.rx y.rx≠0 then a5 x.rx y.rx else cmpL (I.ao (a.l.drop (i+1))) (I.ao (b.l.drop (i+1))):=rfl;rw[e2]at h;refine⟨_,rfl,di (λZ=>⟨?_,E.fr⟩) (λZ=>?_)⟩
     .rw [aq Z]at h;rw[h]
     .rw [af (by simpa using Z)]at h;rw[bb _ (by omega)];exact al (i+1) q w U (by omega) (by omega) h E
    .omega
    .rw [cU (by omega:b.l.length<=i)]at h;rw[<-h];rfl
    .omega
  have W:∀(c:UInt8),aj .i64 (c.toNat:Int)=(c.toNat:Int):=λc=>aQ _ (by have:=c.toNat_lt;omega);refine m0.aB _ _ _ _ _ _ _ _ B _ ((bI [.tree a,.tree b] (by
   intro z h;simp only[au,aO,aR]at h;rcases h with rfl|rfl
   .exact pa
   .exact pb)).aG λq H H1=>H1.aG λw N H2=>H2.nw λA _ D=>D.nw λU _ E=>?_)
  have E:LH F0 B U [.g q,.g w,.c N.heap.size [.int .i64 a.k,.int .i64 (aj .i64 (a.lo.toNat:Int)),.int .i64 (aj .i64 (a.V.toNat:Int))] bN,.c A.heap.size [.int .i64 b.k,.int .i64 (aj .i64 (b.lo.toNat:Int)),.int .i64 (aj .i64 (b.V.toNat:Int))] bN] [.tree a,.tree b]:=E;rw[W,W,W,W]at E;have step:∀(i:Nat) (x y:Int) (O:J),i<3->([.int .i64 a.k,.int .i64 (a.lo.toNat:Int),.int .i64 (a.V.toNat:Int)]:List aa)[i]? =some (.int .i64 x)->([.int .i64 b.k,.int .i64 (b.lo.toNat:Int),.int .i64 (b.V.toNat:Int)]:List aa)[i]? =some (.int .i64 y)->
    LH F0 B O [.g q,.g w,.c N.heap.size [.int .i64 a.k,.int .i64 (a.lo.toNat:Int),.int .i64 (a.V.toNat:Int)] bN,.c A.heap.size [.int .i64 b.k,.int .i64 (b.lo.toNat:Int),.int .i64 (b.V.toNat:Int)] bN] [.tree a,.tree b]->
    (x<y->a5 a.rx b.rx=-1)->(y<x->a5 a.rx b.rx=1)->
    (¬x<y->¬y<x->∀Q,LH F0 B Q [.g q,.g w,.c N.heap.size [.int .i64 a.k,.int .i64 (a.lo.toNat:Int),.int .i64 (a.V.toNat:Int)] bN,.c A.heap.size [.int .i64 b.k,.int .i64 (b.lo.toNat:Int),.int .i64 (b.V.toNat:Int)] bN] [.tree a,.tree b]->m0.a2 q a.k a.lo.toNat a.V.toNat a.s w b.k b.lo.toNat b.V.toNat b.s ⟨some (ab N.heap.size),3,3⟩ ⟨some (ab A.heap.size),3,3⟩ ((i+1:Nat):Int) Q λr M=>r=ae (.int .i64 (a5 a.rx b.rx))/\ag B M)->
    m0.a2 q a.k a.lo.toNat a.V.toNat a.s w b.k b.lo.toNat b.V.toNat b.s ⟨some (ab N.heap.size),3,3⟩ ⟨some (ab A.heap.size),3,3⟩ (i:Int) O λr M=>r=ae (.int .i64 (a5 a.rx b.rx))/\ag B M:=by
   intro i x y O hi hx hy C ad ai hk;have S:((i:Nat):Int)<((3:Nat):Int):=by omega
   refine m0.bw _ _ _ _ _ _ _ _ _ _ _ _ _ _ _ (a1 (aS (by omega)) ⟨by omega,S,ka (C.ah λQ F=>⟨x,?_,by omega,S,ka ⟨y,?_,aF (λe=>⟨by rw[ad e],F.fr⟩) (λe=>⟨by omega,S,ka (F.ah λw7 G=>⟨x,?_,by omega,S,ka ⟨y,?_,aF (λj=>⟨by rw[ai j],G.fr⟩) (λj=>?_)⟩⟩)⟩)⟩⟩)⟩)
   .rw [bH,Nat.mul_one];exact F.ld 2 i rfl hx
   .rw [bH,Nat.mul_one];exact F.ld 3 i rfl hy
   .rw [bH,Nat.mul_one];exact G.ld 2 i rfl hx
   .rw [bH,Nat.mul_one];exact G.ld 3 i rfl hy
   .rw [show aj .i64 ((i:Int)+1)=((i+1:Nat):Int)by rw[aQ _ (by omega)];omega];exact hk e j w7 G
  show m0.a2 _ _ _ _ _ _ _ _ _ _ _ _ ((0:Nat):Int) _ _;refine step 0 _ _ U (by omega) rfl rfl E (λe=>by rw[z,Bn _ e];rfl) (λe=>by rw[z,Bm _ e];rfl) (λK j O H5=>?_);rw[Bl _ K j]at z;refine step 1 _ _ O (by omega) rfl rfl H5 (λe=>by rw[z,Bn _ e];rfl) (λe=>by rw[z,Bm _ e];rfl) (λK j Q F=>?_);rw[Bl _ K j]at z;refine step 2 _ _ Q (by omega) rfl rfl F (λe=>by rw[z,Bn _ e];rfl) (λe=>by rw[z,Bm _ e];rfl) (λK j w7 G=>?_);rw[Bl _ K j]at z;refine m0.bw _ _ _ _ _ _ _ _ _ _ _ _ _ _ _ (aZ rfl (am a.l.length 0 q w w7 (by omega) (by omega) ?_ (G.take 2)));rw[z];rfl
def qh(a b:I)(w:J)(h:a.sz<=1000000)(d:a.P w)(e:b.P w):ai Y CO #[a.v,b.v] w λr j=>r=ae (.int .i64 (a5 a.rx b.rx))/\ag w j:=GX 1000000 (bm _) a b w h d e
namespace sw
noncomputable abbrev t0:=az Y Tryz.f120 [] [1]
abbrev P0:Ps:=[(1,.l [.I,.Y,.Y,.s] aN),(3,.v [.I]),(4,.v [.I])]
noncomputable def a2:=bf t0 [0,1,1,1,2] P0
noncomputable abbrev t1:=be a2
noncomputable abbrev bM:=av t1 [2,2,1,1,2] P0
noncomputable abbrev t2:=ay bM
def bw:=bg t2 a2
def aB:=aA t2 CP [.a 4,.I,.Y,.Y,.s]
end sw
namespace sy
noncomputable abbrev t0:=az Y Tryz.f137 [(3,ls [0,1,2,3,4,5,6,7,8,9,10,11,12,13,14,15,16,17,18,19,20,21,22,23,24,25,26,27,28,29])] [1]
abbrev P0:Ps:=[]
noncomputable abbrev bn:=av t0 [0,1,1,1,3] P0
noncomputable abbrev t1:=ay bn
noncomputable abbrev bM:=av t1 [0,1,1,1,4] P0
noncomputable abbrev t2:=ay bM
noncomputable def kz:=bf t2 [0,1,1,1,5] [(1,.l [.I,.Y,.Y,.s] aN),(5,.v [.I])]
noncomputable abbrev t3:=be kz
def pW:=bg t3 kz
noncomputable abbrev bV:=av t3 [5] [(1,.l [.I,.Y,.Y,.s] aN)]
noncomputable abbrev t4:=ay bV
def aB:=aA t4 KF [.a 4,.I,.Y,.Y,.s]
end sy
namespace H4
noncomputable abbrev t0:=az Y Tryz.f121 [] [1]
def aB:=aA t0 KB [.a 4,.I,.Y,.Y,.s]
end H4
abbrev Sk(n:Nat):Prop:=∀(x:I) (w:J),x.sz<=n->x.P w->ai Y CP #[x.v] w λr d=>r=ae (.int .i64 (x.sz:Int))/\ag w d
def Gy:∀n:Nat,n<=1000000->Sk n
 |0,_=>λe x z _=>absurd z (by have:=I.lS e;omega)
 |n+1,O=>λe x z B=>by
  have G:=Gy n (by omega);have Q:=I.hW e;have N:=I.fv e.l;have S:=I.cr B.parts.1;have loop:∀(d i m j:Nat) (h:J),i+d=e.l.length->m+I.a0 (e.l.drop i)=e.sz->LH F0 x h [.g j] [.tree e]->sw.a2 j e.k e.lo.toNat e.V.toNat e.s (m:Int) (i:Int) h λr K=>r=ae (.int .i64 (e.sz:Int))/\ag x K:=by
   intro d;induction d with
   |zero=>
    intro i m j h F q w;rw[cU (by omega)]at q;refine sw.bw _ _ _ _ _ _ _ _ _ (aZ (aW (by omega)) ⟨?_,w.fr⟩);have:m=e.sz:=q;rw[this]
   |succ d H=>
    intro i m j h F q w;have y:e.l[i]? =some (e.l[i]'(by omega)):=a4 (by omega);rw[dz (by omega)]at q;generalize e.l[i]'(by omega)=a at y q;have M:m+(a.sz+I.a0 (e.l.drop (i+1)))=e.sz:=q;have A:=aD y;have T:=I.eh A;refine sw.bw _ _ _ _ _ _ _ _ _ (a1 (aS (by omega)) (iq (show e.P h from w.getD 0) rfl y (w.aw (G a h (by omega) ((show e.P h from w.getD 0).parts.2.mem A)) ?_)));rintro _ L rfl D;refine⟨_,rfl,?_⟩;show sw.a2 _ _ _ _ _ _ _ _ _;rw[bb _ (by omega),aQ _ (by omega)];have E:((m:Int)+(a.sz:Int))=((m+a.sz:Nat):Int):=by omega
    rw[E];exact H (i+1) (m+a.sz) j L (by omega) (by omega) D
  exact sw.aB _ _ _ _ x _ ((gG B).aG λj h C=>loop e.l.length 0 1 j h (by omega) (by rw[List.drop_zero];omega) C)
def A5(x:I)(w:J)(h:x.sz<=1000000)(d:x.P w):ai Y CP #[x.v] w λr e=>r=ae (.int .i64 (x.sz:Int))/\ag w e:=Gy 1000000 (bm _) x w h d
def yg(k:Nat):Int:=if 6<=k then 1 else 0
def yv(k:Nat):Int:=if k<3 then 0 else if k<6 then 64 else 1
def WU{k:Nat}(h:k<8):([.i 0,.i 0,.i 0,.i 0,.i 0,.i 0,.i 1,.i 1]:List aa)[k]? =some (.i (yg k)):=by
 have:k=0\/k=1\/k=2\/k=3\/k=4\/k=5\/k=6\/k=7:=by omega
 rcases this with rfl|rfl|rfl|rfl|rfl|rfl|rfl|rfl<;>rfl
def XL{k:Nat}(h:k<8):([.i 0,.i 0,.i 0,.i 64,.i 64,.i 64,.i 1,.i 1]:List aa)[k]? =some (.i (yv k)):=by
 have:k=0\/k=1\/k=2\/k=3\/k=4\/k=5\/k=6\/k=7:=by omega
 rcases this with rfl|rfl|rfl|rfl|rfl|rfl|rfl|rfl<;>rfl
abbrev Sc(n:Nat):Prop:=∀(x:I) (w:J),x.sz<=n->x.P w->ai Y KF #[x.v] w λr d=>r=ae (.bool (cK x.rx))/\ag w d
def GM:∀n:Nat,n<=64->Sc n
 |0,_=>λe D q _=>absurd q (by have:=I.lS e;omega)
 |n+1,hn=>λe D q px=>by
  have ih:=GM n (by omega);have hs:=I.hW e;have hl:=I.fv e.l;have nr:=I.cr px.parts.1;have Q:(I.ao e.l).length=e.s.n:=by rw[I.fu];simp[nr]
  have ee:(I.ao e.l).isEmpty=ak (e.s.n=0):=by rw[<-Q,Bool.eq_iff_iff];simp
  have x:cK e.rx=(!(e.k !=2&&(e.lo !=0||e.V !=0))&&(if e.k=0\/e.k=1 then(I.ao e.l).isEmpty else if e.k=2 then(I.ao e.l).isEmpty&&ak (e.lo.toNat<=e.V.toNat)else if e.k=3\/e.k=4\/e.k=5 then dU (I.ao e.l)else if e.k=6\/e.k=7 then(I.ao e.l).length==1&&dU (I.ao e.l)else false)):=by rw[I.e1];unfold cK;rfl
  rw[ee,Q]at x;have z8:∀u:UInt8,(u !=0)=ak (u.toNat≠0):=λu=>by rw[Bool.eq_iff_iff];simp only[bne_iff_ne,ne_eq,decide_eq_true_eq];exact not_congr ⟨λq=>by rw[q];rfl,λq=>UInt8.toNat_inj.1 (by simpa using q)⟩
  rw[z8,z8]at x;have bad:∀{h:Nat} {w':J},cK e.rx=false->LH F0 D w' [.g h,.c (0:Nat) [] bN] []->True:=λ_ _=>trivial
  let W:aH:=λr w'=>r=ae (.bool (cK e.rx))/\ag D w'
  have loop:cK e.rx=dU (I.ao e.l)->∀(d i h:Nat) (j:J),i+d=e.l.length->dU (I.ao (e.l.drop i))=dU (I.ao e.l)->LH F0 D j [.g h] [.tree e]->sy.kz h e.k e.lo.toNat e.V.toNat e.s (i:Int) j W:=by
   intro M d;induction d with
   |zero=>
    intro i h j hi F G;rw[cU (by omega)]at F;refine sy.pW _ _ _ _ _ _ _ _ (aZ (aW (by omega)) ⟨?_,G.fr⟩);rw[M,<-F];rfl
   |succ d aj=>
    intro i h j hi F G;have U:e.l[i]? =some (e.l[i]'(by omega)):=a4 (by omega);rw[dz (by omega)]at F;generalize e.l[i]'(by omega)=a at U F;have ma:=aD U;have am:=I.eh ma;have S:(cK a.rx&&dU (I.ao (e.l.drop (i+1))))=dU (I.ao e.l):=F;refine sy.pW _ _ _ _ _ _ _ _ (a1 (aS (by omega)) (iq (show e.P j from G.getD 0) rfl U (G.aw (ih a j (by omega) ((show e.P j from G.getD 0).parts.2.mem ma)) ?_)));rintro _ E rfl H;refine⟨_,rfl,dN (λT=>⟨?_,H.fr⟩) (λht=>?_)⟩
    .rw [M,<-S,T];rfl
    .rw [bb _ (by omega)];rw[ht,Bool.true_and]at S;exact aj (i+1) h E (by omega) S H
  refine sy.aB _ _ _ _ D _ ((gG px).aG λh j H1=>H1.nw λE _ H=>H.nw λw3 _ N=>?_);have no:∀w':J,LH F0 D w' [.g h,.c j.heap.size [.i 0,.i 0,.i 0,.i 64,.i 64,.i 64,.i 1,.i 1] bN,.c E.heap.size [.i 0,.i 0,.i 0,.i 0,.i 0,.i 0,.i 1,.i 1] bN] [.tree e]->cK e.rx=false->(Ending.returned (.bool false)=ae (.bool (cK e.rx))/\ag D w'):=λw' H' T=>⟨by rw[T],H'.fr⟩;refine aF (λk0=>LH.ah N (λz w=>no z w ?_) (by simp)) (λk0=>aF (λk7=>LH.ah N (λz w=>no z w ?_) (by simp)) (λk7=>?_))
  .rw [x,af (by omega),af (by omega),af (by omega),af (by omega),Bool.and_false]
  .rw [x,af (by omega),af (by omega),af (by omega),af (by omega),Bool.and_false]
  obtain⟨A,hk⟩:=Int.eq_ofNat_of_zero_le (by omega:0<=e.k);have aa:A<8:=by omega
  refine⟨by omega,by show e.k<((8:Nat):Int);omega,(show dM (some (nb E)) _ from LH.ah N (λz w=>⟨yg A,?_,?_⟩) (by simp))⟩
  .have:=LH.ld (L:=[.g h,.c j.heap.size [.i 0,.i 0,.i 0,.i 64,.i 64,.i 64,.i 1,.i 1] bN,.c E.heap.size [.i 0,.i 0,.i 0,.i 0,.i 0,.i 0,.i 1,.i 1] bN]) w 2 A rfl (WU aa);rw[hk,bH,Nat.mul_one];exact this
  refine aF (λC=>no z w ?_) (λC=>⟨by omega,by show e.k<((8:Nat):Int);omega,(show dM (some (nb j)) _ from⟨yv A,?_,?_⟩)⟩)
  .unfold yg at C;rw[x,af (by split at C<;>omega),af (by split at C<;>omega),af (by split at C<;>omega)];split
   .rename_i al;have:(e.s.n==1)=false:=by rw[beq_eq_false_iff_ne];split at C<;>omega
    rw[this];simp
   .simp
  .have:=LH.ld (L:=[.g h,.c j.heap.size [.i 0,.i 0,.i 0,.i 64,.i 64,.i 64,.i 1,.i 1] bN,.c E.heap.size [.i 0,.i 0,.i 0,.i 0,.i 0,.i 0,.i 1,.i 1] bN]) w 1 A rfl (XL aa);rw[hk,bH,Nat.mul_one];exact this
  refine aF (λB=>no z w ?_) (λB=>?_)
  .unfold yv at B;by_cases y:A<3
   .rw [aq y]at B;have ai:ak (e.s.n=0)=false:=aW (by omega);rw[x,ai];split
    .simp
    .split
     .simp
     .omega
   .rw [af y]at B;by_cases k5:A<6
    .rw [aq k5]at B;omega
    .rw [af k5]at B;have:(e.s.n==1)=false:=by rw[beq_eq_false_iff_ne];omega
     rw[x,this,af (by omega),af (by omega),af (by omega),aq (by omega)];simp
  have K:(A<3->e.s.n=0)/\(6<=A->e.s.n=1):=by
   unfold yg at C;unfold yv at B;refine⟨λq=>?_,λq=>?_⟩
   .rw [aq q]at B;omega
   .rw [aq q]at C;rw[af (by omega),af (by omega)]at B;omega
  have H5:LH F0 D z [.g h] [.tree e]:=LH.take (L:=[.g h,.c j.heap.size [.i 0,.i 0,.i 0,.i 64,.i 64,.i 64,.i 1,.i 1] bN,.c E.heap.size [.i 0,.i 0,.i 0,.i 0,.i 0,.i 0,.i 1,.i 1] bN]) w 1;have ab:A<3->dU (I.ao e.l)=true:=λq=>by
   have h0:(I.ao e.l).length=0:=by rw[Q,K.1 q]
   rw[List.length_eq_zero_iff.1 h0];rfl
  have go:cK e.rx=dU (I.ao e.l)->sy.bV h e.k e.lo.toNat e.V.toNat e.s z W:=λM=>loop M e.l.length 0 h z (by omega) (by simp) H5;refine aF (λad=>no z w ?_) (λad=>di (λy=>aF (λac=>no z w ?_) (λac=>go ?_)) (λy=>go ?_))
  .rw [x];by_cases y:e.k=2
   .rw [af (by omega),aq y,aW (show ¬e.lo.toNat<=e.V.toNat by omega)];simp
   .have:(e.k !=2&&(ak (e.lo.toNat≠0)||ak (e.V.toNat≠0)))=true:=by rw[aS (show e.lo.toNat≠0 by omega)];simp[y]
    rw[this];rfl
  .have:(e.k !=2&&(ak (e.lo.toNat≠0)||ak (e.V.toNat≠0)))=true:=by rw[aS (show e.V.toNat≠0 by omega)];simp[y]
   rw[x,this];rfl
  .have O:(e.k !=2&&(ak (e.lo.toNat≠0)||ak (e.V.toNat≠0)))=false:=by rw[aW (show ¬e.lo.toNat≠0 by omega),aW (show ¬e.V.toNat≠0 by omega)];simp
   rw[x,O];by_cases Z:e.k=0\/e.k=1
   .rw [aq Z,ab (by omega),aS (K.1 (by omega))];rfl
   .rw [af Z,af y];by_cases c3:e.k=3\/e.k=4\/e.k=5
    .rw [aq c3];simp
    .rw [af c3,aq (by omega),K.2 (by omega)];simp
  .have O:(e.k !=2&&(ak (e.lo.toNat≠0)||ak (e.V.toNat≠0)))=false:=by rw[y];rfl
   rw[x,O,af (by omega),aq y,ab (by omega),aS (K.1 (by omega)),aS (show e.lo.toNat<=e.V.toNat by omega)];rfl
def Up(x:I)(w:J)(h:x.sz<=1000000)(y:x.P w):ai Y KB #[x.v] w λr z=>r=ae (.int .i64 (jN x.rx))/\ag w z:=by
 refine H4.aB _ _ _ _ w _ ((gG y).aG λC A j=>j.aw (A5 x A h (j.getD 0)) ?_);rintro _ B rfl d;refine⟨_,rfl,aF (λq=>⟨?_,d.fr⟩) (λq=>d.aw (GM 64 (bm _) x B (by omega) (d.getD 0)) ?_)⟩
 .unfold jN;rw[I.eB,aq (by omega)]
 rintro _ D rfl k;refine⟨_,rfl,dN (λe=>⟨?_,k.fr⟩) (λe=>⟨?_,k.fr⟩)⟩
 .unfold jN;rw[I.eB,af (by omega),e];rfl
 .unfold jN;rw[I.eB,af (by omega),e];rfl
def Fs{x:Rx}(h:jN x=0):cK x=true/\x.sz<=64:=by
 unfold jN at h;split at h
 .cases h
 .split at h
  .rename_i d;exact⟨d,by omega⟩
  .cases h
def I0:∀{l:List Rx} {a:Rx},dU l=true->a∈l->cK a=true
 |b::l,a,h,e=>by
  have d:(cK b&&dU l)=true:=h;rw[bq]at d;rcases au.1 e with rfl|e
  .exact d.1
  .exact I0 d.2 e
namespace H0
noncomputable abbrev t0:=az Y Tryz.f74 [] [0]
def aB:=aA t0 n5 []
end H0
namespace oU
noncomputable abbrev t0:=az Y Tryz.f114 [(2,ls [0,1,2,3,4,5,6,7,8,9,10,11,12]),(4,ls [0,1,2,3,4,5,6,7,8,9,10,11,12]),(7,(.sq [0,1,2,3,5] (.fork (ls [4,6,7,8]) (ls [6,4,7,8]))))] [3]
abbrev P0:Ps:=[(0,.v [.s]),(3,.l [.I,.Y,.Y,.s] aN),(5,.v [.I])]
noncomputable def a2:=bf t0 [0,2,2] P0
noncomputable abbrev t1:=be a2
noncomputable abbrev cM:=av t1 [6] [(0,.v [.s]),(5,.v [.I]),(6,.v [.s])]
noncomputable abbrev t2:=ay cM
noncomputable abbrev bV:=av t2 [4] P0
noncomputable abbrev t3:=ay bV
noncomputable abbrev bM:=av t3 [3] P0
noncomputable abbrev t4:=ay bM
def bw:=bg t4 a2
def aB:=aA t4 KK [.s,.a 4,.I,.Y,.Y,.s]
end oU
namespace hN
noncomputable abbrev t0:=az Y Tryz.f98 [(9,ls [0,1,2,3,4,5,6,7,8,9,10,11,12]),(25,ls [0,1,2,3,4,5,6]),(27,ls [0,1,2,3,4,5,6])] [4,5,8,9]
noncomputable abbrev bn:=av t0 [0,1,1,1,1,1,1,1,3] [(1,.v [.s]),(4,.l [.I,.Y,.Y,.s] aN)]
noncomputable abbrev t1:=ay bn
abbrev P0:Ps:=[(0,.v [.I]),(1,.v [.s]),(4,.l [.I,.Y,.Y,.s] aN),(5,.l [.I,.Y,.Y,.s] aN),(6,.v [.s]),(7,.v [.I])]
noncomputable def cm:=bf t1 [0,1,1,1,5] P0
noncomputable abbrev t2:=be cm
noncomputable abbrev bV:=av t2 [2,2,1,1,5] P0
noncomputable abbrev t3:=ay bV
abbrev P1:Ps:=[(0,.v [.I]),(4,.l [.I,.Y,.Y,.s] aN),(6,.v [.s]),(8,.l [.I,.Y,.Y,.s] aN),(9,.l [.I,.Y,.Y,.s] aN),(10,.v [.s]),(11,.v [.I])]
noncomputable def kz:=bf t3 [0,1,1,1,9] P1
noncomputable abbrev t4:=be kz
noncomputable abbrev fK:=av t4 [2,2,1,1,9] P1
noncomputable abbrev t5:=ay fK
def pW:=bg t5 kz
def dB:=bg t5 cm
def aB:=aA t5 KH [.I,.s]
end hN
namespace vh
noncomputable abbrev t0:=az Y Tryz.f76 [] [1,2]
noncomputable def a2:=bf t0 [0,1,1,1,3] [(1,.l [.I,.Y,.Y,.s] aN),(2,.l [.I,.Y,.Y,.s] aN),(3,.v [.s]),(4,.v [.I])]
noncomputable abbrev t1:=be a2
def bw:=bg t1 a2
def aB:=aA t1 vM [.a 4,.I,.Y,.Y,.s]
end vh
namespace H6
noncomputable abbrev t0:=az Y Tryz.f122 [] [1,2]
def aB:=aA t0 KE [.a 4,.I,.Y,.Y,.s]
end H6
namespace H2
noncomputable abbrev t0:=az Y Tryz.f103 [] [1,2]
def aB:=aA t0 Kx [.a 4,.I,.Y,.Y,.s]
end H2
end Go.Proofs.YthhmdddomhknaaaGreatDoor
