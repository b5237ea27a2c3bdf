import Derived.Test.YthaledkcjibmfaaGreatDoorU
import Derived.Test.YthaledkcjibmfaaGreatDoorW
set_option linter.unusedVariables false
set_option linter.defProp false
set_option maxRecDepth 100000
namespace Go.Proofs.YthaledkcjibmfaaGreatDoor
open Go renaming World->J,Calls->ak,Program->aF,Value->ab,TypeId->aC,Ending->cr
open Go.IntKind renaming wrap->ao
open _root_.Int renaming toNat->aZ,toNat_natCast->bF
open Go.IntWalk renaming i64_in->aS
open _root_.Bool renaming and_eq_true->bf,not_eq_true->iN
open _root_.Nat renaming le_refl->bg,le_trans->a8,zero_le->dn,mul_le_mul_right->nr,beq_eq->ep
open _root_.Prod.mk renaming injEq->eu
open _root_.Option.some renaming inj->e3,injEq->eH
open _root_.Array renaming replicate->g4
open Go.Proofs.Tryz renaming prog->aa
open _root_.Decidable renaming decide->aq
open Go.Ending renaming returned->ag
open List renaming mem_append->aX,mem_cons->av,not_mem_nil->aR,mem_of_getElem?->aE,getElem?_eq_getElem->a6,getElem?_eq_some_iff->bO,mem_append_left->bt,mem_append_right->di,mem_flatMap->bA,mem_map->ch,length_append->a7,length_cons->db,append_assoc->cp,length_take->eA,flatMap_append->cy,flatMap_cons->b',mem_iff_getElem?->fQ,mem_cons_of_mem->dS,mem_cons_self->j5,length_set->i3,take_append_drop->lu,drop_eq_getElem_cons->dy,append_nil->dt,take_add_one->ej,map_cons->lq,drop_drop->o7,getElem?_drop->jv,getElem?_set_self->ic,drop_of_length_le->dC,take_of_length_le->eZ,length_reverse->vR
open Go Go.W
def DF(n:Nat)(h:n<18446744073709551616)(r:List UInt8):eS ⟨dU n++r,0⟩=(n,⟨r,0⟩):=by unfold eS;rw[af (by simp),G8 9 0 n r rfl (by simpa using h) (by omega)]
def lB(n:Int)(h:a5 n)(r:List UInt8):be ⟨bL n++r,0⟩=(n,⟨r,0⟩):=by unfold be bL;rw[DF _ (zM n h.1 h.2),aao]
def NQ(n:Nat)(h:n<18446744073709551616)(r:List UInt8)(d:n<=r.length):hO ⟨dU n++r,0⟩=(n,⟨r,0⟩):=by unfold hO;rw[DF n h];simp only[];rw[af (by simp),af (by omega)]
def yT(b:List UInt8)(h:b.length<18446744073709551616)(r:List UInt8):dc ⟨dJ b++r,0⟩=(b,⟨r,0⟩):=by unfold dc dJ;rw[cp,NQ _ h _ (by simp)];simp
def NT:∀(l:List Int) (r:List UInt8),(∀d∈l,a5 d)->eQ l.length ⟨l.flatMap bL++r,0⟩=(l,⟨r,0⟩)
 |[],r,_=>rfl
 |d::l,r,e=>by simp only[db,eQ,b',cp];rw[lB d (e d (by simp)),];simp only[];rw[af (by simp),NT l r λj h=>e j (by simp[h])];simp
def xG(n:Nat):1<=(dU n).length:=by
 have:=UC n;cases d:dU n with
 |nil=>exact absurd d this
 |cons=>simp
def If:∀(l:List Int),l.length<=(l.flatMap bL).length
 |[]=>by simp
 |d::l=>by have h:=xG (zz d);have e:=If l;have:(bL d).length=(dU (zz d)).length:=rfl;simp at e ⊢;omega
def s6(l:List Int)(h:l.length<18446744073709551616)(U:∀d∈l,a5 d)(r:List UInt8):cK ⟨cG l++r,0⟩=(l,⟨r,0⟩):=by unfold cK cG;rw[cp,NQ _ h _ (by have:=If l;simp at this ⊢;omega)];simp only[];rw[af (by simp),NT l r U]
def U4{w0 w Y:J}{own:List Nat}(F:ah w0 w)(n:∀d∈own,w0.heap.size<=d)(f:Fr (·∈own) w Y):ah w0 Y:=F.trn f n
def W2{w0 w:J}{own h:List Nat}(F:ah w0 w)(n:∀d∈own,w0.heap.size<=d)(o:∀d∈h,d∈own\/w.heap.size<=d):∀d∈h,w0.heap.size<=d:=λd j=>by
 rcases o d j with e|e
 .exact n d e
 .exact a8 F.size e
def DD{st:RS}(h:(eS st).2.err=0):st.err=0/\st.V=dU (eS st).1++(eS st).2.V:=by
 unfold eS at h ⊢;by_cases d:st.err≠0
 .rw [aj d]at h;exact absurd h d
 .rw [af d]at h ⊢;refine⟨by simpa using d,?_⟩;cases e:iF 0 st.V with
  |more=>rw[e]at h;cases h
  |form=>rw[e]at h;cases h
  |ok n r=>exact(xx 9 0 _ _ _ rfl e).1
def lA{st:RS}(h:(be st).2.err=0):st.err=0/\st.V=bL (be st).1++(be st).2.V:=by have:=DD (st:=st) h;unfold be bL;simp only[aaK];exact this
def NP{st:RS}(h:(hO st).2.err=0):st.err=0/\st.V=dU (hO st).1++(hO st).2.V/\(hO st).1<=(hO st).2.V.length:=by
 unfold hO at h ⊢;by_cases d:(eS st).2.err≠0
 .simp only[aj d]at h;exact absurd h d
 .simp only[af d]at h ⊢;by_cases e:(eS st).2.V.length<(eS st).1
  .simp only[aj e]at h;cases h
  .simp only[af e]at h ⊢;have:=DD h;exact⟨this.1,this.2,by omega⟩
def DC{st:RS}(h:(dc st).2.err=0):st.err=0/\st.V=dJ (dc st).1++(dc st).2.V:=by
 unfold dc at h ⊢;by_cases d:(hO st).2.err≠0
 .simp only[aj d]at h;exact absurd h d
 .simp only[af d]at h ⊢;obtain⟨e,j,k⟩:=NP (st:=st) (by simpa using d);refine⟨e,?_⟩;unfold dJ;rw[eA,Nat.min_eq_left k,cp,lu];exact j
def NS:∀(n:Nat) (st:RS),(eQ n st).2.err=0->st.err=0/\st.V=(eQ n st).1.flatMap bL++(eQ n st).2.V/\(eQ n st).1.length=n
 |0,st,d=>⟨d,rfl,rfl⟩
 |n+1,st,d=>by
  simp only[eQ]at d ⊢;by_cases h:(be st).2.err≠0
  .simp only[aj h]at d;exact absurd d h
  .simp only[af h]at d ⊢;by_cases e:(eQ n (be st).2).2.err≠0
   .simp only[aj e]at d;exact absurd d e
   .simp only[af e]at d ⊢;obtain⟨j,k,q⟩:=NS n _ d;obtain⟨w,x⟩:=lA (st:=st) j;refine⟨w,?_,by simp[q]⟩;rw[b',cp,<-k];exact x
def s5{st:RS}(h:(cK st).2.err=0):st.err=0/\st.V=cG (cK st).1++(cK st).2.V:=by
 unfold cK at h ⊢;by_cases d:(hO st).2.err≠0
 .simp only[aj d]at h;exact absurd h d
 .simp only[af d]at h ⊢;obtain⟨k,q,x⟩:=NP (st:=st) (by simpa using d);obtain⟨w,e,j⟩:=NS _ _ h;refine⟨k,?_⟩;unfold cG;rw[j,cp,<-e];exact q
def NR(st:RS):(hO st).1<=st.V.length/\(hO st).2.V.length<=st.V.length:=by
 have d:=yV (st:=st) (bg _);unfold hO;by_cases e:(eS st).2.err≠0
 .simp only[aj e];exact⟨dn _,d⟩
 .simp only[af e];by_cases h:(eS st).2.V.length<(eS st).1
  .simp only[aj h];exact⟨dn _,d⟩
  .simp only[af h];exact⟨by omega,d⟩
def NU:∀(n:Nat) (st:RS),(eQ n st).1.length<=n/\∀e∈(eQ n st).1,a5 e
 |0,st=>⟨bg _,by simp[eQ]⟩
 |n+1,st=>by
  simp only[eQ];by_cases j:(be st).2.err≠0
  .simp only[aj j];exact⟨by simp,by simp⟩
  .simp only[af j];by_cases h:(eQ n (be st).2).2.err≠0
   .simp only[aj h];exact⟨by simp,by simp⟩
   .simp only[af h];have k:=NU n (be st).2;refine⟨by simp;exact k.1,λe d=>?_⟩;rcases av.1 d with rfl|d
    .exact Qy _ (s8 st)
    .exact k.2 e d
end Go.Proofs.YthaledkcjibmfaaGreatDoor
namespace Go.W
open Go renaming World->J,Calls->ak,Program->aF,Value->ab,TypeId->aC,Ending->cr
open Go.IntKind renaming wrap->ao
open _root_.Int renaming toNat->aZ,toNat_natCast->bF
open Go.IntWalk renaming i64_in->aS
open _root_.Bool renaming and_eq_true->bf,not_eq_true->iN
open _root_.Nat renaming le_refl->bg,le_trans->a8,zero_le->dn,mul_le_mul_right->nr,beq_eq->ep
open _root_.Prod.mk renaming injEq->eu
open _root_.Option.some renaming inj->e3,injEq->eH
open _root_.Array renaming replicate->g4
open Go.Proofs.Tryz renaming prog->aa
open _root_.Decidable renaming decide->aq
open Go.Ending renaming returned->ag
open List renaming mem_append->aX,mem_cons->av,not_mem_nil->aR,mem_of_getElem?->aE,getElem?_eq_getElem->a6,getElem?_eq_some_iff->bO,mem_append_left->bt,mem_append_right->di,mem_flatMap->bA,mem_map->ch,length_append->a7,length_cons->db,append_assoc->cp,length_take->eA,flatMap_append->cy,flatMap_cons->b',mem_iff_getElem?->fQ,mem_cons_of_mem->dS,mem_cons_self->j5,length_set->i3,take_append_drop->lu,drop_eq_getElem_cons->dy,append_nil->dt,take_add_one->ej,map_cons->lq,drop_drop->o7,getElem?_drop->jv,getElem?_set_self->ic,drop_of_length_le->dC,take_of_length_le->eZ,length_reverse->vR
def yH{w:J}{e:aC}{sz:Nat}{s:Sl}{vs:List ab}(h:aK w e sz s vs)(i:Nat)(U:i<vs.length)(v:ab):
  ∃p,s.a=some p/\p.block∈aw s/\(w.cell? (p.add i)).isSome=true/\w.frozen? (p.add i)=false/\aK (w.setCell (p.add i) v) e sz s (vs.set i v)/\Fr (·∈aw s) w (w.setCell (p.add i) v):=by
 have B:=h.len;rcases h.cases with⟨rfl,rfl⟩|⟨g,cur,d,j,k,x,y,z⟩
 .simp at U
 .have C:s.n *sz<=s.c *sz:=nr _ k;have A:i<cur.size:=by omega
  have q:g∈aw s:=by simp[aw,d]
  refine⟨⟨g,0,none⟩,d,q,?_,frozenAt (p:=⟨g,0,none⟩) j,?_,Fr.set _ _ _ (by rw[iz];exact q)⟩
  .rw [cellAt (p:=⟨g,0,none⟩) (v:=cur[i]) j rfl (by simp[A])];rfl
  .refine ⟨by simpa using h.1,.inr ⟨g,s.c,cur.setIfInBounds i v,?_,dn _,?_,k,x,by simpa using y,?_⟩⟩
   .obtain ⟨a,n,c⟩:=s;simp only at d;subst d;rfl
   .have:=setAt (p:=⟨g,0,none⟩) (i:=i) (v:=v) j rfl;simpa using this
   .rw [Array.toList_setIfInBounds,List.take_set,z]
section
variable {M:Nat->Prop} {w0 w:J} {L D:List En} {V:List Nat}
def LH.vi(H:LH M w0 w L D){i:Nat}{e:aC}{sz:Nat}{s:Sl}{xs:List ab}(U:L[i]? =some (.row e sz s xs)){b:Nat}(y:En.g b∈L):b∉aw s:=λk=>by
 obtain⟨A,d⟩:=fQ.1 y;by_cases j:i=A
 .subst j;rw[U]at d;have q:En.row e sz s xs=En.g b:=e3 d;have x:(En.row e sz s xs).P=(En.g b).P:=by rw[q]
  have h:(En.g b).P ({w with heap:=g4 (b+1) (.map #[] 0)}):=by show b<_;simp
  rw[<-x]at h;obtain⟨B,f,z⟩:=(aK.row (show aK ({w with heap:=g4 (b+1) (.map #[] 0)}) e sz s xs from h)).tL b k;simp at z
 .exact mL H.nd U d j b k (by simp[En.g])
def LH.oc(H:LH M w0 w L D)(i a c:Nat){e:aC}{sz:Nat}{s:Sl}{xs:List ab}{v:ab}{p:Addr}{K:J->Prop}(U:L[i]? =some (.row e sz s xs))(A:s.a=some p)(y:a+c<xs.length)(x:∀j,LH M w0 j (L.set i (.row e sz s (xs.set (a+c) v))) D->K j)(br:∀b∈V,En.g b∈L:=by simp):aQ w ((p.add a).add c) v λk=>kept V w k/\K k:=by obtain⟨G,h,F,B,C,E,q⟩:=yH (H.get i U) (a+c) y v;rw[A]at h;cases h;rw[add_add];refine⟨B,C,λb d=>?_,x _ (H.gu i (.row e sz s (xs.set (a+c) v)) U q E (λb d=>.inl d))⟩;exact q.cb b (H.own _ (br b d)) λz=>H.vi U (br b d) z
end
def ih:List Bool->List En->List En
 |true::m,a::l=>a::ih m l
 |false::m,_::l=>ih m l
 |_,_=>[]
def tm:∀(m:List Bool) (l:List En),(ih m l).Sublist l
 |[],l=>by unfold ih;exact List.nil_sublist _
 |true::m,[]=>by unfold ih;exact List.nil_sublist _
 |false::m,[]=>by unfold ih;exact List.nil_sublist _
 |true::m,a::l=>by unfold ih;exact(tm m l).cons_cons a
 |false::m,a::l=>by unfold ih;exact(tm m l).cons a
def ZQ{α β:Type}{f:α->List β}{l m:List α}(h:l.Sublist m):(l.flatMap f).Sublist (m.flatMap f):=by
 induction h with
 |slnil=>exact List.Sublist.refl _
 |cons a _ d=>rw[b'];exact d.trans (List.sublist_append_right _ _)
 |cons_cons a _ d=>rw[b',b'];exact(List.Sublist.refl _).append d
def LH.ih{M:Nat->Prop}{w0 w:J}{L D:List En}(H:LH M w0 w L D)(m:List Bool):LH M w0 w (ih m L) D:=
 ⟨H.fr,λd e=>H.own d ((tm m L).subset e),H.rd,λd e=>H.new d ((tm m L).subset e),(ZQ (tm m L)).nodup H.nd,λd e b j h k=>H.dj d e b j h ((tm m L).subset k)⟩
def hn{s:Sl}{vs:List ab}{n:Nat}(h:∀b∈aw s,n<=b):∀b∈(En.rd s vs).fp,n<=b:=λb d=>by
 have:b∈(if vs=[]then[]else aw s):=d;split at this
 .cases this
 .exact h b this
def nN{M:Nat->Prop}{w0 w:J}{L D:List En}(H:LH M w0 w L D){i:Nat}{e:En}(U:L[i]? =some e)(x:∀(b:Nat),¬e.P ({w with heap:=g4 (b+1) (.map #[] 0)})){b:Nat}(k:En.g b∈L):b∉e.fp:=by
 obtain⟨y,d⟩:=fQ.1 k;by_cases h:i=y
 .subst h;rw[U]at d;have j:e=En.g b:=e3 d;exfalso;refine x b ?_;rw[j];show b<_;simp
 .intro q;exact mL H.nd U d h b q (by simp[En.g])
section
variable {M:Nat->Prop} {w0 w:J} {L D:List En} {V:List Nat}
def LH.qY(H:LH M w0 w L D)(i j:Nat){e:aC}{sz:Nat}{s:Sl}{xs:List ab}{v:ab}{p:Addr}{K:J->Prop}(U:L[i]? =some (.row e sz s xs))(B:s.a=some p)(z:j<xs.length)(y:∀k,LH M w0 k (L.set i (.row e sz s (xs.set j v))) D->K k)(br:∀b∈V,En.g b∈L:=by simp):aQ w (p.add j) v λq=>kept V w q/\K q:=by obtain⟨I,h,G,C,E,F,x⟩:=yH (H.get i U) j z v;rw[B]at h;cases h;refine⟨C,E,λb d=>?_,y _ (H.gu i (.row e sz s (xs.set j v)) U x F (λb d=>.inl d))⟩;exact x.cb b (H.own _ (br b d)) λA=>H.vi U (br b d) A
end
def qL{p:Addr}{K:Addr->Prop}(h:K p):dM (some p) K:=h
end Go.W
namespace Go.Proofs.YthaledkcjibmfaaGreatDoor
open Go renaming World->J,Calls->ak,Program->aF,Value->ab,TypeId->aC,Ending->cr
open Go.IntKind renaming wrap->ao
open _root_.Int renaming toNat->aZ,toNat_natCast->bF
open Go.IntWalk renaming i64_in->aS
open _root_.Bool renaming and_eq_true->bf,not_eq_true->iN
open _root_.Nat renaming le_refl->bg,le_trans->a8,zero_le->dn,mul_le_mul_right->nr,beq_eq->ep
open _root_.Prod.mk renaming injEq->eu
open _root_.Option.some renaming inj->e3,injEq->eH
open _root_.Array renaming replicate->g4
open Go.Proofs.Tryz renaming prog->aa
open _root_.Decidable renaming decide->aq
open Go.Ending renaming returned->ag
open List renaming mem_append->aX,mem_cons->av,not_mem_nil->aR,mem_of_getElem?->aE,getElem?_eq_getElem->a6,getElem?_eq_some_iff->bO,mem_append_left->bt,mem_append_right->di,mem_flatMap->bA,mem_map->ch,length_append->a7,length_cons->db,append_assoc->cp,length_take->eA,flatMap_append->cy,flatMap_cons->b',mem_iff_getElem?->fQ,mem_cons_of_mem->dS,mem_cons_self->j5,length_set->i3,take_append_drop->lu,drop_eq_getElem_cons->dy,append_nil->dt,take_add_one->ej,map_cons->lq,drop_drop->o7,getElem?_drop->jv,getElem?_set_self->ic,drop_of_length_le->dC,take_of_length_le->eZ,length_reverse->vR
open Go Go.W
def bP{w:J}(D:List En)(h:∀d∈D,d.P w):LH F0 w w [] D:=LH.start D h
inductive Rx where
 |mk (k:Int) (lo U:UInt8) (l:List Rx)
inductive I where
 |mk (k:Int) (lo U:UInt8) (s:Sl) (l:List I)
namespace I
def k:I->Int|.mk k _ _ _ _=>k
def lo:I->UInt8|.mk _ lo _ _ _=>lo
def U:I->UInt8|.mk _ _ U _ _=>U
def s:I->Sl|.mk _ _ _ s _=>s
def l:I->List I|.mk _ _ _ _ l=>l
mutual
def rx:I->Rx|.mk k lo U _ l=>.mk k lo U (au l)
def au:List I->List Rx
 |[]=>[]
 |t::l=>t.rx::au l
end
mutual
def sz:I->Nat|.mk _ _ _ _ l=>1+aY l
def aY:List I->Nat
 |[]=>0
 |t::l=>t.sz+aY l
end
def c(t:I):List ab:=[.int .i64 t.k,.int .u8 (t.lo.toNat:Int),.int .u8 (t.U.toNat:Int),t.s.v]
abbrev v(t:I):ab:=.agg #[.int .i64 t.k,.int .u8 (t.lo.toNat:Int),.int .u8 (t.U.toNat:Int),t.s.v]
abbrev row(s:Sl)(l:List I):En:=.bc 4 s (l.flatMap c)
mutual
def P(w:J):I->Prop|.mk _ _ _ s l=>bx 4 w s (l.flatMap c)/\Ps w l
def Ps(w:J):List I->Prop
 |[]=>True
 |t::l=>P w t/\Ps w l
end
mutual
def fp:I->List Nat|.mk _ _ _ s l=>(row s l).fp++a9 l
def a9:List I->List Nat
 |[]=>[]
 |t::l=>fp t++a9 l
end
def jj(t:I):(c t).length=4:=rfl
def eW(l:List I):(l.flatMap c).length=l.length *4:=oO c 4 jj l
def cm{w:J}{s:Sl}{l:List I}(h:bx 4 w s (l.flatMap c)):s.n=l.length:=by have:=h.1;rw[eW]at this;omega
def fk:∀l:List I,au l=l.map rx
 |[]=>rfl
 |t::l=>by unfold au;rw[fk l];rfl
mutual
def cb{w Y:J}:∀(t:I),(∀b∈t.fp,b<w.heap.size->Y.heap[b]? =w.heap[b]?)->P w t->P Y t
 |.mk k lo U s l,d,h=>by unfold fp at d;unfold P at h ⊢;exact⟨(row s l).st w Y (λb e=>d b (bt _ e)) h.1,keeps l (λb e=>d b (di _ e)) h.2⟩
def keeps{w Y:J}:∀(l:List I),(∀b∈a9 l,b<w.heap.size->Y.heap[b]? =w.heap[b]?)->Ps w l->Ps Y l
 |[],_,_=>by unfold Ps;trivial
 |t::l,d,h=>by unfold a9 at d;unfold Ps at h ⊢;exact⟨cb t (λb e=>d b (bt _ e)) h.1,keeps l (λb e=>d b (di _ e)) h.2⟩
end
mutual
def lt{w:J}:∀(t:I),P w t->∀b∈t.fp,b<w.heap.size
 |.mk k lo U s l,e,b,d=>by
  unfold fp at d;unfold P at e;rcases aX.1 d with d|d
  .exact (row s l).lt w e.1 b d
  .exact Ch l e.2 b d
def Ch{w:J}:∀(l:List I),Ps w l->∀b∈a9 l,b<w.heap.size
 |[],_,b,d=>by unfold a9 at d;cases d
 |t::l,e,b,d=>by
  unfold a9 at d;unfold Ps at e;rcases aX.1 d with d|d
  .exact lt t e.1 b d
  .exact Ch l e.2 b d
end
def P.bw{w Y:J}{t:I}(h:P w t)(f:ah w Y):P Y t:=cb t (λb _ d=>f.cb b d id) h
def Ps.bw{w Y:J}{l:List I}(h:Ps w l)(f:ah w Y):Ps Y l:=keeps l (λb _ d=>f.cb b d id) h
def Ps.get{w:J}:∀{l:List I},Ps w l->∀{i:Nat} {t:I},l[i]? =some t->P w t
 |[],_,i,t,d=>by simp at d
 |a::l,e,0,t,d=>by unfold Ps at e;simp at d;subst d;exact e.1
 |a::l,e,i+1,t,d=>by unfold Ps at e;exact Ps.get e.2 (by simpa using d)
def Ps.mem{w:J}{l:List I}(h:Ps w l){t:I}(d:t∈l):P w t:=by obtain⟨i,U⟩:=fQ.1 d;exact h.get U
def ib{w:J}:∀{l:List I},(∀t∈l,P w t)->Ps w l
 |[],_=>by unfold Ps;trivial
 |t::l,d=>by unfold Ps;exact⟨d t (by simp),ib λh e=>d h (by simp[e])⟩
def bM:∀{l:List I} {b:Nat},b∈a9 l↔∃t∈l,b∈t.fp
 |[],b=>by unfold a9;simp
 |t::l,b=>by unfold a9;rw[aX,bM];simp
def eg:∀{l:List I} {t:I},t∈l->t.sz<=aY l
 |a::l,t,d=>by
  unfold aY;rcases av.1 d with rfl|d
  .omega
  .have:=eg d;omega
def lH(t:I):1<=t.sz:=by cases t;unfold sz;omega
def fq:∀l:List I,l.length<=aY l
 |[]=>by simp
 |t::l=>by have:=fq l;have:=lH t;unfold aY;simp only[db];omega
def P.parts{w:J}{t:I}(h:P w t):bx 4 w t.s (t.l.flatMap c)/\Ps w t.l:=by cases t;unfold P at h;exact h
def gb{t:I}{b:Nat}:b∈t.fp↔b∈(row t.s t.l).fp\/b∈a9 t.l:=by cases t;unfold fp;exact aX
def hQ(t:I):t.sz=1+aY t.l:=by cases t;rfl
def e0(t:I):t.rx=.mk t.k t.lo t.U (au t.l):=by cases t;rfl
structure fI(w:J)(p:Addr)(i:Nat)(t:I):Prop where
 c0:w.cell? ((p.add (i *4)).add 0)=some (.int .i64 t.k)
 c1:w.cell? ((p.add (i *4)).add 1)=some (.int .u8 (t.lo.toNat:Int))
 c2:w.cell? ((p.add (i *4)).add 2)=some (.int .u8 (t.U.toNat:Int))
 c3:w.cell? ((p.add (i *4)).add 3)=some t.s.v
def de{w:J}{s:Sl}{l:List I}(h:bx 4 w s (l.flatMap c)){i:Nat}{t:I}(U:l[i]? =some t){K:Addr->Prop}(e:∀p,s.a=some p->fI w p i t->K p):dM s.a K:=
 eV.elem (f:=c) (sz:=4) jj (by omega) h.2.2 U λp j d=>e p j ⟨d 0 _ rfl,d 1 _ rfl,d 2 _ rfl,d 3 _ rfl⟩
def again{w:J}{s:Sl}{l:List I}(h:bx 4 w s (l.flatMap c)){i:Nat}{t:I}(U:l[i]? =some t){p:Addr}(y:s.a=some p):fI w p i t:=by have j:=de h U (K:=λe=>∃k,s.a=some k/\fI w k i t) (λe d x=>⟨e,d,x⟩);rw[y]at j;obtain⟨e,d,q⟩:=j;cases d;exact q
end I
def _root_.Go.W.En.tree(t:I):En:=⟨ju t.fp,λh=>t.P h,λh k j e=>I.cb t (λb d=>j b (aO.2 d)) e,λh e b d=>I.lt t e b (aO.1 d),nX _⟩
def _root_.Go.W.En.trees(l:List I):En:=⟨ju (I.a9 l),λh=>I.Ps h l,λh k j e=>I.keeps l (λb d=>j b (aO.2 d)) e,λh e b d=>I.Ch l e b (aO.1 d),nX _⟩
namespace Rx
def k:Rx->Int|.mk k _ _ _=>k
def lo:Rx->UInt8|.mk _ lo _ _=>lo
def U:Rx->UInt8|.mk _ _ U _=>U
def l:Rx->List Rx|.mk _ _ _ l=>l
mutual
def sz:Rx->Nat|.mk _ _ _ l=>1+aY l
def aY:List Rx->Nat
 |[]=>0
 |t::l=>t.sz+aY l
end
end Rx
mutual
def I.eB:∀t:I,t.rx.sz=t.sz
 |.mk e lo d s l=>by unfold I.rx Rx.sz I.sz;rw[I.v' l]
def I.v':∀l:List I,Rx.aY (I.au l)=I.aY l
 |[]=>rfl
 |t::l=>by unfold I.au Rx.aY I.aY;rw[I.eB t,I.v' l]
end
set_option maxRecDepth 100000
set_option maxHeartbeats 2000000
namespace A9
noncomputable abbrev t0:=aA aa Tryz.f222 [] []
def ok:=aB t0 WX [.I]
end A9
namespace A8
noncomputable abbrev t0:=aA aa Tryz.f223 [] []
def ok:=aB t0 WW [.Y]
end A8
namespace GW
noncomputable abbrev t0:=aA aa Tryz.f206 [] []
def ok:=aB t0 JQ [.I,.I]
end GW
namespace GV
noncomputable abbrev t0:=aA aa Tryz.f207 [] []
def ok:=aB t0 JP [.Y,.Y]
end GV
namespace uJ
noncomputable abbrev t0:=aA aa Tryz.f205 [] []
noncomputable def L0:=bj t0 [0,1,1,1,2] [(3,.v [.I]),(6,.v [.s]),(7,.v [.I]),(8,.v [.I])]
noncomputable abbrev t1:=bh L0
def bE:=bm t1 L0
def ok:=aB t1 Co [.s]
end uJ
namespace N6
noncomputable abbrev t0:=aA aa Tryz.f186 [(1,ls [0,1,2,3,5,6,7,8,10,11,12,13,4,9,14,15,16,17])] [2,3]
def aD:=aB t0 cd [.a 4,.I,.Y,.Y,.s,.a 4,.I,.Y,.Y,.s]
end N6
namespace we
noncomputable abbrev t0:=aA aa Tryz.f208 [] [8,9]
noncomputable def a2:=bj t0 [0,1,1,1,1] [(0,.v [.s]),(1,.v [.s]),(2,.v [.g cd 0 0]),(11,.v [.s]),(12,.v [.I]),(13,.v [.I])]
noncomputable abbrev t1:=bh a2
def bB:=bm t1 a2
def aD:=aB t1 LG [.s,.s,.g cd 0 0]
end we
namespace Oa
noncomputable abbrev t0:=aA aa Tryz.f184 [] [2,3]
def aD:=aB t0 qA [.a 4,.I,.Y,.Y,.s,.a 4,.I,.Y,.Y,.s]
end Oa
def cw(a b:Int):Int:=if a<b then -1 else if b<a then 1 else 0
def ef:List Int->Int
 |[]=>0
 |c::l=>if c≠0 then c else ef l
def Tn(a b:Int)(w:J):ak aa JQ #[.int .i64 a,.int .i64 b] w λr k=>r=ag (.int .i64 (cw a b))/\ah w k:=by
 refine GW.ok _ _ w _ (A9.ok _ _ _ ⟨_,rfl,A9.ok _ _ _ ⟨_,rfl,?_⟩⟩);have h:(a !=a)=false:=by simp
 have j:(b !=b)=false:=by simp
 rw[h,j];refine a1 rfl (a1 rfl (aG (λd=>⟨?_,Fr.refl _ _⟩) (λd=>aG (λe=>⟨?_,Fr.refl _ _⟩) (λe=>⟨?_,Fr.refl _ _⟩))))
 .unfold cw;rw[aj d]
 .unfold cw;rw[af d,aj e]
 .unfold cw;rw[af d,af e]
def Gv(a b:Int)(w:J):ak aa JP #[.int .u8 a,.int .u8 b] w λr k=>r=ag (.int .i64 (cw a b))/\ah w k:=by
 refine GV.ok _ _ w _ (A8.ok _ _ _ ⟨_,rfl,A8.ok _ _ _ ⟨_,rfl,?_⟩⟩);have h:(a !=a)=false:=by simp
 have j:(b !=b)=false:=by simp
 rw[h,j];refine a1 rfl (a1 rfl (aG (λd=>⟨?_,Fr.refl _ _⟩) (λd=>aG (λe=>⟨?_,Fr.refl _ _⟩) (λe=>⟨?_,Fr.refl _ _⟩))))
 .unfold cw;rw[aj d]
 .unfold cw;rw[af d,aj e]
 .unfold cw;rw[af d,af e]
def XF{w:J}{s:Sl}{l:List Int}(h:bp w s l)(A:l.length<=1000000):ak aa Co #[s.v] w λr k=>r=ag (.int .i64 (ef l))/\ah w k:=by
 refine uJ.ok _ w _ ?_;have B:=bp.len h;have loop:∀(d i:Nat),i+d=l.length->ef (l.drop i)=ef l->uJ.L0 0 s ((s.n:Nat):Int) (i:Int) w λr k=>r=ag (.int .i64 (ef l))/\ah w k:=by
  intro d;induction d with
  |zero=>
   intro i x e;rw[dC (by omega)]at e;exact uJ.bE _ _ _ _ _ _ (a1 (aV (by omega)) ⟨by rw[<-e];rfl,Fr.refl _ _⟩)
  |succ d z=>
   intro i x e;have q:l[i]? =some (l[i]'(by omega)):=a6 (by omega);rw[dy (by omega)]at e;generalize l[i]'(by omega)=c at q e;refine uJ.bE _ _ _ _ _ _ (a3 (aP (by omega)) ⟨by omega,by omega,bp.cell h q (by simp) λp _ y=>⟨c,y,dv (λj=>?_) (λj=>?_)⟩⟩)
   .refine ⟨?_,Fr.refl _ _⟩;rw[<-e];unfold ef;rw[aj j]
   .rw [bd _ (by omega)];refine z (i+1) (by omega) ?_;rw[<-e];conv=>rhs;unfold ef
    rw[af (by simpa using j)]
 exact loop l.length 0 (by omega) (by simp)
def Xr(w:J)(l:List Int)(n:Nat)(d:n=l.length):bp (w.alloc (.cells (l.map a').toArray bR)) ⟨some (ae w.heap.size),n,n⟩ l:=
 ⟨by simp[d],bg _,(Row.made w bR n n (l.map a')).r1⟩
section
variable {M:Nat->Prop} {w0 w:J} {L D:List En} {V:List Nat}
def _root_.Go.W.LH.or(H:LH M w0 w L D){l:List Int}{n:Nat}{K:aH}(k:n=l.length)(j:l.length<=1000000)(h:∀d,LH M w0 d L D->K (ag (.int .i64 (ef l))) d):
  cZ w (.cells (l.map a').toArray bR) λx=>ee V aa Co #[.slice (some (Addr.mk w.heap.size 0 none)) n n] x K:=
 (H.bw (Fr.alloc _ _ _)).ay (XF (s:=⟨some (ae w.heap.size),n,n⟩) (Xr w l n k) j) λ_ d q e=>q▸h d e
end
mutual
def a4:Rx->Rx->Int
 |.mk e lo d l,b=>if ef [cw e b.k,cw lo.toNat b.lo.toNat,cw d.toNat b.U.toNat]≠0 then ef [cw e b.k,cw lo.toNat b.lo.toNat,cw d.toNat b.U.toNat]else cmpL l b.l
def cmpL:List Rx->List Rx->Int
 |[],[]=>0
 |[],_::_=>-1
 |_::_,[]=>1
 |a::l,b::m=>if a4 a b≠0 then a4 a b else cmpL l m
end
abbrev Ff(n:Nat):Prop:=∀(a b:I) (w:J),a.sz<=n->a.P w->b.P w->ak aa cd #[a.v,b.v] w λr d=>r=ag (.int .i64 (a4 a.rx b.rx))/\ah w d
def SC(n:Nat)(hn:n<=1000000)(T:Ff n)(h lb:List I)(j k:Sl)(w:J)(G:bx 4 w j (h.flatMap I.c))(H:bx 4 w k (lb.flatMap I.c))(V:I.Ps w h)(W:I.Ps w lb)(hs:I.aY h<=n):
  ak aa LG #[j.v,k.v,.func (.func cd) #[] #[]] w λr E=>r=ag (.int .i64 (cmpL (I.au h) (I.au lb)))/\ah w E:=by
 have na:=I.cm G;have nb:=I.cm H;have hl:=I.fq h;have loop:∀(d i:Nat) (A:J),i+d=h.length->i<=lb.length->cmpL (I.au (h.drop i)) (I.au (lb.drop i))=cmpL (I.au h) (I.au lb)->LH F0 w A [] [I.row j h,I.row k lb,.trees h,.trees lb]->
   we.a2 j k j ((j.n:Nat):Int) (i:Int) A λr E=>r=ag (.int .i64 (cmpL (I.au h) (I.au lb)))/\ah w E:=by
  intro d;induction d with
  |zero=>
   intro i A O P e q;rw[dC (by omega)]at e;refine we.bB _ _ _ _ _ _ _ (a1 (aV (by omega)) (aG (λM=>⟨?_,q.fr⟩) (λM=>⟨?_,q.fr⟩)))
   .rw [dy (by omega)]at e;rw[<-e];rfl
   .rw [dC (by omega)]at e;rw[<-e];rfl
  |succ d U=>
   intro i A O P e q;have y:h[i]? =some (h[i]'(by omega)):=a6 (by omega);rw[dy (by omega)]at e;generalize h[i]'(by omega)=a at y e;refine we.bB _ _ _ _ _ _ _ (a3 (aP (by omega)) ⟨by omega,by omega,?_⟩);refine I.de (q.getD 0) y λp hp c=>⟨_,_,_,_,c.c0,c.c1,c.c2,c.c3,q.aJ λb8 w2 B=>aG (λN=>B.ai λY x=>⟨?_,x.fr⟩) (λQ=>⟨by omega,by omega,?_⟩)⟩
   .have ac:((k.n:Nat):Int)<=(i:Int):=N;rw[dC (by omega:lb.length<=i)]at e;rw[<-e];rfl
   .have ad:¬((k.n:Nat):Int)<=(i:Int):=Q;have z:lb[i]? =some (lb[i]'(by omega)):=a6 (by omega);rw[dy (by omega:i<lb.length)]at e;generalize lb[i]'(by omega)=b at z e;refine I.de (B.getD 1) z λae S _=>B.ai λY x=>?_;have c:=I.again (x.getD 1) z S;refine⟨_,_,_,_,c.c0,c.c1,c.c2,c.c3,x.aJ λb9 w4 K=>K.ai λZ C=>?_⟩;have al:=I.eg (aE y);refine C.ay (T a b Z (by omega) (I.Ps.get (C.getD 2) y) (I.Ps.get (C.getD 3) z)) ?_;rintro _ w6 rfl F;have L:cmpL (I.au (a::h.drop (i+1))) (I.au (b::lb.drop (i+1)))=if a4 a.rx b.rx≠0 then a4 a.rx b.rx else cmpL (I.au (h.drop (i+1))) (I.au (lb.drop (i+1))):=rfl;rw[L]at e;refine⟨_,rfl,dv (λD=>⟨?_,F.fr⟩) (λD=>?_)⟩
    .rw [aj D]at e;rw[e]
    .rw [af (by simpa using D)]at e;rw[bd _ (by omega)];exact U (i+1) w6 (by omega) (by omega) e (F.take 0)
 exact we.aD _ _ w _ (loop h.length 0 w (by omega) (by omega) (by simp) (bP _ (by
  intro ab e;simp only[av,aR,aT]at e;rcases e with rfl|rfl|rfl|rfl
  .exact G
  .exact H
  .exact V
  .exact W)))
def FZ:∀n:Nat,n<=1000000->Ff n
 |0,_=>λa b B q _ _=>absurd q (by have:=I.lH a;omega)
 |n+1,W=>λa b B q x z=>by
  have L:=FZ n (by omega);have Y:=I.hQ a;have T:=x.parts;have V:=z.parts;refine N6.aD _ _ _ _ _ _ _ _ B _ ((bP [.tree a,.tree b] (by
   intro e w;simp only[av,aR,aT]at w;rcases w with rfl|rfl
   .exact x
   .exact z)).aJ λQ Z C=>C.aJ λS w2 D=>D.ai λM E=>E.ay (Tn _ _ M) ?_)
  rintro _ N rfl F;refine⟨_,rfl,F.ay (Gv _ _ N) ?_⟩;rintro _ O rfl G;refine⟨_,rfl,G.ay (Gv _ _ O) ?_⟩;rintro _ w6 rfl H;refine⟨_,rfl,H.or (l:=[cw a.k b.k,cw a.lo.toNat b.lo.toNat,cw a.U.toNat b.U.toNat]) rfl (by simp) λj d=>?_⟩;have e:a4 a.rx b.rx=if ef [cw a.k b.k,cw a.lo.toNat b.lo.toNat,cw a.U.toNat b.U.toNat]≠0 then ef [cw a.k b.k,cw a.lo.toNat b.lo.toNat,cw a.U.toNat b.U.toNat]else cmpL (I.au a.l) (I.au b.l):=by rw[I.e0 a,I.e0 b];unfold a4;rfl
  refine⟨_,rfl,dv (λh=>⟨?_,d.fr⟩) (λh=>?_)⟩
  .rw [e,aj h]
  .have y:a.P j:=d.getD 0;have A:b.P j:=d.getD 1;refine d.ay (SC n (by omega) L a.l b.l a.s b.s j y.parts.1 A.parts.1 y.parts.2 A.parts.2 (by omega)) ?_;rintro _ w8 rfl K;refine⟨_,rfl,?_,K.fr⟩;rw[e,af (by simpa using h)]
def xj(a b:I)(w:J)(h:a.sz<=1000000)(d:a.P w)(e:b.P w):ak aa cd #[a.v,b.v] w λr j=>r=ag (.int .i64 (a4 a.rx b.rx))/\ah w j:=FZ 1000000 (bg _) a b w h d e
def uC(a b:I)(w:J)(h:a.sz<=1000000)(q:a.P w)(x:b.P w):ak aa qA #[a.v,b.v] w λr y=>r=ag (.bool (a4 a.rx b.rx==0))/\ah w y:=by
 refine Oa.aD _ _ _ _ _ _ _ _ w _ ((bP [.tree a,.tree b] (by
  intro C e;simp only[av,aR,aT]at e;rcases e with rfl|rfl
  .exact q
  .exact x)).aJ λA D j=>j.aJ λB z d=>d.ay (xj a b z h (d.getD 0) (d.getD 1)) ?_)
 rintro _ E rfl k;exact⟨_,rfl,rfl,k.fr⟩
namespace vV
noncomputable abbrev t0:=aA aa Tryz.f175 [] [2]
noncomputable def ct:=bj t0 [0,1,1,1,2] [(1,.v [.I]),(2,.l [.I,.Y,.Y,.s] aW),(5,.v [.I])]
noncomputable abbrev t1:=bh ct
noncomputable abbrev bU:=ax t1 [3] [(1,.v [.I])]
noncomputable abbrev t2:=az bU
def dX:=bm t2 ct
noncomputable abbrev bq:=ax t2 [2] [(1,.v [.I]),(2,.l [.I,.Y,.Y,.s] aW)]
noncomputable abbrev t3:=az bq
def aD:=aB t3 Ln [.a 4,.I,.Y,.Y,.s,.I]
end vV
namespace Oz
noncomputable abbrev t0:=aA aa Tryz.f152 [] [1]
def aD:=aB t0 CL [.a 4,.I,.Y,.Y,.s]
end Oz
namespace me
noncomputable abbrev t0:=aA aa Tryz.f176 [] [1,4]
abbrev P0:Ps:=[]
noncomputable abbrev bq:=ax t0 [0,1,1,1,1] P0
noncomputable abbrev t1:=az bq
abbrev P1:Ps:=[(1,.l [.I,.Y,.Y,.s] aW)]
noncomputable abbrev bU:=ax t1 [0,1,1,1,1,1,2] P1
noncomputable abbrev t2:=az bU
noncomputable def kj:=bj t2 [0,1,1,1,3] [(52,.v [.s]),(53,.v [.I]),(54,.v [.I])]
noncomputable abbrev t3:=bh kj
def nA:=bm t3 kj
noncomputable abbrev gI:=ax t3 [3] P1
noncomputable abbrev t4:=az gI
noncomputable abbrev mD:=ax t4 [0,1,7,1,1,1,2] P1
noncomputable abbrev t5:=az mD
noncomputable abbrev pT:=ax t5 [8,1,1,1,2] P0
noncomputable abbrev t6:=az pT
abbrev P2:Ps:=[(1,.l [.I,.Y,.Y,.s] aW),(19,.v [.I])]
noncomputable abbrev hC:=ax t6 [6,1,1,1,2] P2
noncomputable abbrev t7:=az hC
noncomputable abbrev cJ:=ax t7 [2,1,1,1,2] P2
noncomputable abbrev t8:=az cJ
noncomputable abbrev bT:=ax t8 [2] P1
noncomputable abbrev t9:=az bT
def aD:=aB t9 Ly [.a 4,.I,.Y,.Y,.s]
end me
namespace N9
noncomputable abbrev t0:=aA aa Tryz.f153 [] [1]
def aD:=aB t0 Li [.a 4,.I,.Y,.Y,.s]
end N9
namespace vU
noncomputable abbrev t0:=aA aa Tryz.f177 [] [1,2,5]
noncomputable def a2:=bj t0 [0,1,1,1,2] [(1,.l [.I,.Y,.Y,.s] aW),(2,.l [.I,.Y,.Y,.s] aW),(3,.v [.s]),(7,.v [.s]),(8,.v [.I]),(9,.v [.I])]
noncomputable abbrev t1:=bh a2
def bB:=bm t1 a2
def aD:=aB t1 CC [.a 4,.I,.Y,.Y,.s]
end vU
namespace Om
noncomputable abbrev t0:=aA aa Tryz.f154 [] [1,2]
def aD:=aB t0 Lu [.a 4,.I,.Y,.Y,.s]
end Om
def gE{w:J}{t:I}(h:t.P w):LH F0 w w [] [.tree t]:=bP _ (by intro e d;simp only[av,aR,aT]at d;subst d;exact h)
def fK(w:J)(x:Rx)(r:cr)(Y:J):Prop:=∃t:I,r=ag t.v/\t.rx=x/\t.P Y/\∀b∈t.fp,w.heap.size<=b
section
variable {M:Nat->Prop} {w0 w:J} {L D:List En} {V:List Nat}
def _root_.Go.W.LH.qX(H:LH M w0 w L D)(i j:Nat){O:List I}{t:I}(U:D[i]? =some (.trees O):=by rfl)(h:D[j]? =some (.tree t):=by rfl):LH M w0 w L (D++[.trees (O++[t])]):=by
 refine H.gx _ (Fr.refl _ _) (I.ib λk d=>?_) λb q=>.inr (.inr ?_)
 .rcases aX.1 d with d|d
  .exact I.Ps.mem (H.getD i U) d
  .simp at d;subst d;exact H.getD j h
 .obtain ⟨k,d,e⟩:=I.bM.1 (aO.1 q);rcases aX.1 d with d|d
  .exact ⟨_,aE U,aO.2 (I.bM.2 ⟨k,d,e⟩)⟩
  .simp at d;rw[d]at e;exact⟨_,aE h,aO.2 e⟩
def gi{e:aC}{s:Sl}{vs:List ab}{b:Nat}(h:b∈(En.bc 4 s vs).fp):b∈(En.row e 4 s vs).fp:=by
 have:b∈(if vs=[]then[]else aw s):=h;split at this
 .cases this
 .exact this
def _root_.Go.W.LH.qS(H:LH M w0 w L D)(i j:Nat){e:aC}{s:Sl}{O:List I}(k:Int)(lo U:UInt8)(q:L[i]? =some (.row e 4 s (O.flatMap I.c)):=by rfl)(x:D[j]? =some (.trees O):=by rfl):LH M w0 w (L.eraseIdx i) (D++[I.row s O]++[.tree (.mk k lo U s O)]):=by
 have y:=H.freeze i (I.row s O) q (aK.bc (H.get i q)) λb h=>gi h;refine y.gx _ (Fr.refl _ _) ?_ λb h=>.inr (.inr ?_)
 .show I.P w _;unfold I.P;exact⟨aK.bc (H.get i q),H.getD j x⟩
 .have d:=aO.1 h;unfold I.fp at d;rcases aX.1 d with d|d
  .exact ⟨_,di _ (by simp),d⟩
  .exact ⟨_,bt _ (aE x),aO.2 d⟩
end
def rV(l:List I):∀u∈l.flatMap I.c,u.oneCell'=true:=λu e=>by obtain⟨h,_,d⟩:=bA.1 e;simp only[I.c,av,aR,aT]at d;rcases d with rfl|rfl|rfl|rfl<;>rfl
def qk:gU aa ir aW (.agg #[.int .i64 0,.int .u8 0,.int .u8 0,.slice none 0 0]) 4 40:=⟨by kernel_rfl,by kernel_rfl,rfl,by decide,by decide⟩
def k2(l:List I)(t:I):(l++[t]).flatMap I.c=l.flatMap I.c++t.c:=by simp
def jz(l m:List I):I.au (l++m)=I.au l++I.au m:=by simp[I.fk]
def tD:∀(l m:List I),I.aY (l++m)=I.aY l+I.aY m
 |[],m=>by simp[I.aY]
 |t::l,m=>by show t.sz+I.aY (l++m)=t.sz+I.aY l+I.aY m;rw[tD l m];omega
def zi(l:List I)(i:Nat):I.aY (l.take i)<=I.aY l:=by have:=tD (l.take i) (l.drop i);rw[lu]at this;omega
abbrev Rl(n:Nat):Prop:=∀(t:I) (x:Nat) (w:J),t.sz<=n->x<=1000000->t.P w->ak aa Ln #[t.v,.int .i64 (x:Int)] w λr d=>r=ag (.int .i64 (max ((x:Int) - t.sz) (-1)))/\ah w d
def F':∀n:Nat,n<=1000000->Rl n
 |0,_=>λt x z B _ _=>absurd B (by have:=I.lH t;omega)
 |n+1,Y=>λt x z B hx S=>by
  have N:=F' n (by omega);have K:=I.hQ t;have W:=I.fq t.l;have loop:∀(d i:Nat) (y:Int) (q:Nat) (e:J),i+d=t.l.length->-1<=y->y<=1000000->max (y - I.aY (t.l.drop i)) (-1)=max ((x:Int) - t.sz) (-1)->LH F0 z e [.g q] [.tree t]->
    vV.ct y q t.k t.lo.toNat t.U.toNat t.s (i:Int) e λr T=>r=ag (.int .i64 (max ((x:Int) - t.sz) (-1)))/\ah z T:=by
   intro d;induction d with
   |zero=>
    intro i y q e H L M h j;have Q:=I.cm (show t.P e from j.getD 0).parts.1;rw[dC (by omega)]at h;refine vV.dX _ _ _ _ _ _ _ _ _ (a1 (aV (by omega)) ⟨?_,j.fr⟩);rw[<-h];congr 2;simp only[I.aY];omega
   |succ d O=>
    intro i y q e H L M h j;have Q:=I.cm (show t.P e from j.getD 0).parts.1;have w:t.l[i]? =some (t.l[i]'(by omega)):=a6 (by omega);rw[dy (by omega)]at h;generalize t.l[i]'(by omega)=a at w h;have aa:=I.eg (aE w);unfold I.aY at h;refine vV.dX _ _ _ _ _ _ _ _ _ (a3 (aP (by omega)) (aG (λA=>⟨by omega,by omega,?_⟩) (λA=>⟨?_,j.fr⟩)))
    .have D:t.P e:=j.getD 0;refine I.de D.parts.1 w λp Z c=>⟨_,_,_,_,c.c0,c.c1,c.c2,c.c3,?_⟩;have C:0<=y:=A;obtain⟨m,rfl⟩:=Int.eq_ofNat_of_zero_le C;refine j.ay (N a m e (by omega) (by omega) (D.parts.2.get w)) ?_;rintro _ V rfl F;refine⟨_,rfl,?_⟩;rw[bd _ (by omega)];refine O (i+1) _ q V (by omega) (by omega) (by omega) ?_ F;rw[<-h];omega
    .have C:¬0<=y:=A;rw[<-h];have:y=-1:=by omega
     subst this;congr 2;omega
  have G:ao .i64 ((x:Int) - 1)=(x:Int) - 1:=aS _ (by omega);refine vV.aD _ _ _ _ _ z _ ((gE S).aJ λq e E=>?_);rw[G];refine loop t.l.length 0 _ q e (by omega) (by omega) (by omega) ?_ E;rw[List.drop_zero,K];omega
def AX(t:I)(w:J)(h:t.sz<=1000000)(j:t.P w):ak aa CL #[t.v] w λr k=>r=ag (.bool (aq (64<t.sz)))/\ah w k:=by refine Oz.aD _ _ _ _ w _ ((gE j).aJ λx q d=>d.ay (F' 1000000 (bg _) t 64 q h (by omega) (d.getD 0)) ?_);rintro _ y rfl e;refine⟨_,rfl,?_,e.fr⟩;congr 2;exact decide_eq_decide.2 (by omega)
mutual
def cN:Rx->Bool
 |.mk d lo e l=>!(d !=2&&(lo !=0||e !=0))&&(if d=0\/d=1 then l.isEmpty else if d=2 then l.isEmpty&&aq (lo.toNat<=e.toNat)else if d=3\/d=4\/d=5 then dV l else if d=6\/d=7 then l.length==1&&dV l else false)
def dV:List Rx->Bool
 |[]=>true
 |t::l=>cN t&&dV l
end
abbrev RB(n:Nat):Prop:=∀(t:I) (w:J),t.sz<=n->t.P w->ak aa Ly #[t.v] w λr d=>r=ag (.bool (cN t.rx))/\ah w d
def Bq(l:List I):(I.au l).isEmpty=(((l.length:Nat):Int)==0):=by
 rw[I.fk];cases l with
 |nil=>rfl
 |cons a l=>
  simp;omega
def Gm:∀n:Nat,n<=1000000->RB n
 |0,_=>λt q aa _=>absurd aa (by have:=I.lH t;omega)
 |n+1,E=>λt q aa pt=>by
  have ih:=Gm n (by omega);have hs:=I.hQ t;have hl:=I.fq t.l;have H:=I.cm pt.parts.1;have loop:∀(b:Bool),cN t.rx=(b&&dV (I.au t.l))->b=true->∀(d i:Nat) (h:J),i+d=t.l.length->dV (I.au (t.l.drop i))=dV (I.au t.l)->LH F0 q h [] [.tree t]->
    me.kj t.s ((t.s.n:Nat):Int) (i:Int) h λr j=>r=ag (.bool (cN t.rx))/\ah q j:=by
   intro b w ab d;subst ab;rw[Bool.true_and]at w;induction d with
   |zero=>
    intro i h hi y B;rw[dC (by omega)]at y;refine me.nA _ _ _ _ _ (a1 (aV (by omega)) ⟨?_,B.fr⟩);rw[w,<-y];rfl
   |succ d ac=>
    intro i h hi y B;have D:t.l[i]? =some (t.l[i]'(by omega)):=a6 (by omega);rw[dy (by omega)]at y;generalize t.l[i]'(by omega)=a at D y;have ae:=I.eg (aE D);have Q:(cN a.rx&&dV (I.au (t.l.drop (i+1))))=dV (I.au t.l):=y;have ad:t.P h:=B.getD 0;refine me.nA _ _ _ _ _ (a3 (aP (by omega)) ⟨by omega,by omega,?_⟩);refine I.de ad.parts.1 D λp hp c=>⟨_,_,_,_,c.c0,c.c1,c.c2,c.c3,B.aJ λb4 w2 H2=>H2.ai λw3 Y=>Y.ay (ih a w3 (by omega) ((show t.P w3 from Y.getD 0).parts.2.get D)) ?_⟩;rintro _ w4 rfl Z;refine⟨_,rfl,dN (λhf=>⟨?_,Z.fr⟩) (λht=>?_)⟩
    .rw [w,<-Q,hf];rfl
    .rw [bd _ (by omega)];rw[ht,Bool.true_and]at Q;exact ac (i+1) w4 (by omega) Q (Z.take 0)
  have er:=I.e0 t;have K:∀z:UInt8,(((z.toNat:Nat):Int) !=0)=(z !=0):=λz=>by
   by_cases V:z=0
   .subst V;rfl
   .have O:(z !=0)=true:=by simpa using V
    rw[O];have:z.toNat≠0:=λN=>V (UInt8.toNat_inj.1 (by simpa using N));simp;omega
  refine me.aD _ _ _ _ q _ ((gE pt).aJ λx h W=>?_);have out:∀b:Bool,cN t.rx=b->(Ending.returned (.bool b)=ag (.bool (cN t.rx))/\ah q h):=λb w=>⟨by rw[w],W.fr⟩;have L:cN t.rx=dV (I.au t.l)->me.gI x t.k t.lo.toNat t.U.toNat t.s h λr j=>r=ag (.bool (cN t.rx))/\ah q j:=λw=>loop true (by rw[w];rfl) rfl t.l.length 0 h (by omega) (by simp) (W.take 0);have s1:(t.k !=2&&(t.lo !=0||t.U !=0))=false->me.bT x t.k t.lo.toNat t.U.toNat t.s h λr j=>r=ag (.bool (cN t.rx))/\ah q j:=by
   intro N;have A:cN t.rx=(if t.k=0\/t.k=1 then(I.au t.l).isEmpty else if t.k=2 then(I.au t.l).isEmpty&&aq (t.lo.toNat<=t.U.toNat)else if t.k=3\/t.k=4\/t.k=5 then dV (I.au t.l)else if t.k=6\/t.k=7 then(I.au t.l).length==1&&dV (I.au t.l)else false):=by rw[er];unfold cN;rw[N];rfl
   have s2:t.k=0\/t.k=1->me.bU x t.k t.lo.toNat t.U.toNat t.s h λr j=>r=ag (.bool (cN t.rx))/\ah q j:=λe=>out _ (by rw[A,aj e,Bq,H]);have s7:t.k=6\/t.k=7->me.mD x t.k t.lo.toNat t.U.toNat t.s h λr j=>r=ag (.bool (cN t.rx))/\ah q j:=λe=>by
    have e7:cN t.rx=((I.au t.l).length==1&&dV (I.au t.l)):=by rw[A,af (by omega),af (by omega),af (by omega),aj e]
    have el:(I.au t.l).length=t.s.n:=by rw[I.fk];simp[H]
    refine dv (λO=>out false ?_) (λO=>L ?_)
    .rw [e7,el];have:(t.s.n==1)=false:=by simp;omega
     rw[this];rfl
    .rw [e7,el];have:(t.s.n==1)=true:=by simp;omega
     rw[this];rfl
   have s6:t.k≠0->t.k≠1->t.k≠2->t.k≠3->t.k≠4->t.k≠5->me.hC x t.k t.lo.toNat t.U.toNat t.s t.k h λr j=>r=ag (.bool (cN t.rx))/\ah q j:=λF G k2 k3 k4 k5=>
    aL (λe=>a3 (by simp[e]) (s7 (.inl e))) (λk6=>aL (λe=>s7 (.inr e)) (λk7=>out false (by rw[A,af (by omega),af (by omega),af (by omega),af (by omega)])))
   have M:t.k=3\/t.k=4\/t.k=5->cN t.rx=dV (I.au t.l):=λe=>by rw[A,af (by omega),af (by omega),aj e]
   have s3:t.k≠0->t.k≠1->me.cJ x t.k t.lo.toNat t.U.toNat t.s t.k h λr j=>r=ag (.bool (cN t.rx))/\ah q j:=λF G=>
    aL (λe=>by
     have e2:cN t.rx=((I.au t.l).isEmpty&&aq (t.lo.toNat<=t.U.toNat)):=by rw[A,af (by omega),aj e]
     refine bD (λE=>out _ ?_) (λE=>out false ?_)
     .rw [e2,Bq,<-H,E,Bool.true_and];exact decide_eq_decide.2 (by omega)
     .rw [e2,Bq,<-H,E];rfl)
    (λk2=>aL (λe=>a3 (by simp[e]) (L (M (.inl e)))) (λk3=>aL (λe=>a3 (by simp[e]) (L (M (.inr (.inl e))))) (λk4=>aL (λe=>L (M (.inr (.inr e)))) (λk5=>s6 F G k2 k3 k4 k5))))
   exact aL (λe=>a3 (by simp[e]) (s2 (.inl e))) (λF=>aL (λe=>s2 (.inr e)) (λG=>s3 F G))
  have bad:(t.k !=2&&(t.lo !=0||t.U !=0))=true->cN t.rx=false:=λw=>by rw[er];unfold cN;rw[w];rfl
  refine bD (λC=>bD (λT=>out false (bad ?_)) (λT=>bD (λS=>out false (bad ?_)) (λS=>s1 ?_))) (λC=>s1 ?_)
  .rw [C,<-K,T];rfl
  .rw [C,<-K t.U,S];simp
  .rw [<-K,<-K,T,S];simp
  .rw [C];rfl
def jF(x:Rx):Int:=if 64<x.sz then 4 else if cN x then 0 else 1
def F6(t:I)(w:J)(h:t.sz<=1000000)(x:t.P w):ak aa Li #[t.v] w λr y=>r=ag (.int .i64 (jF t.rx))/\ah w y:=by
 refine N9.aD _ _ _ _ w _ ((gE x).aJ λB z k=>k.ay (AX t z h (k.getD 0)) ?_);rintro _ A rfl e;refine⟨_,rfl,aG (λd=>⟨?_,e.fr⟩) (λd=>e.ay (Gm 1000000 (bg _) t A h (e.getD 0)) ?_)⟩
 .unfold jF;rw[I.eB,aj d]
 rintro _ C rfl q;refine⟨_,rfl,dN (λj=>⟨?_,q.fr⟩) (λj=>⟨?_,q.fr⟩)⟩
 .unfold jF;rw[I.eB,af d,j];rfl
 .unfold jF;rw[I.eB,af d,j];rfl
abbrev Rm(n:Nat):Prop:=∀(t:I) (w:J),t.sz<=n->t.P w->ak aa CC #[t.v] w λr d=>fK w t.rx r d/\ah w d
def F9:∀n:Nat,n<=1000000->Rm n
 |0,_=>λt x K _=>absurd K (by have:=I.lH t;omega)
 |n+1,hn=>λt x K M=>by
  have Z:=F9 n (by omega);have hs:=I.hQ t;have hl:=I.fq t.l;have nr:=I.cm M.parts.1;have loop:∀(d i:Nat) (ks:List I) (sl:Sl) (j q:Nat) (y:J),i+d=t.l.length->ks.length=i->I.au ks=I.au (t.l.take i)->(∀b∈I.a9 ks,x.heap.size<=b)->LH F0 x y [.g j,.g q,.row aW 4 sl (ks.flatMap I.c)] [.tree t,.trees ks]->
    vU.a2 j t.k t.lo.toNat t.U.toNat t.s q 0 0 0 ⟨none,0,0⟩ sl t.s ((t.s.n:Nat):Int) (i:Int) y λr N=>fK x t.rx r N/\ah x N:=by
   intro d;induction d with
   |zero=>
    intro i ks sl j q y W L F G B;refine vU.bB _ _ _ _ _ _ _ _ _ _ _ _ _ _ _ _ (a1 (aV (by omega)) (B.ai λD h=>⟨⟨.mk t.k t.lo t.U sl ks,rfl,?_,?_,λb e=>?_⟩,h.fr⟩))
    .rw [I.e0 t];unfold I.rx;rw[F,eZ (by omega)]
    .unfold I.P;exact⟨aK.bc (h.get 2),h.getD 1⟩
    .unfold I.fp at e;rcases aX.1 e with e|e
     .exact (h.new _ (aE (i:=2) rfl) b (gi e)).resolve_right id
     .exact G b e
   |succ d aa=>
    intro i ks sl j q y W L F G B;have A:t.l[i]? =some (t.l[i]'(by omega)):=a6 (by omega);generalize t.l[i]'(by omega)=a at A;have ad:=I.eg (aE A);have ab:t.P y:=B.getD 0;refine vU.bB _ _ _ _ _ _ _ _ _ _ _ _ _ _ _ _ (a3 (aP (by omega)) ⟨by omega,by omega,?_⟩);refine I.de ab.parts.1 A λp hp c=>⟨_,_,_,_,c.c0,c.c1,c.c2,c.c3,B.aJ λb5 D h=>h.ai λO z=>z.hD (Z a O (by omega) ((show t.P O from z.getD 0).parts.2.get A)) ?_⟩;rintro _ w4 ⟨u,rfl,Y,pu,H⟩ _ Q;have C:=Q.rd (.tree u) pu λb e=>H b (aO.1 e);have ac:=I.cm (C.get 2:aK _ _ _ _ _).bc;refine⟨_,_,_,_,rfl,C.iA 2 qk rfl (λs' w5 T=>?_) (by omega)⟩;have V:=(T.qX 1 2).take 3;rw[bd _ (by omega)];refine aa (i+1) (ks++[u]) s' j q w5 (by omega) (by simp[L]) ?_ ?_ ?_
    .rw [jz,F,ej,A,jz];simp[I.au,Y]
    .intro b e;obtain⟨t',w,E⟩:=I.bM.1 e;rcases aX.1 w with w|w
     .exact G b (I.bM.2 ⟨t',w,E⟩)
     .simp at w;rw[w]at E;exact a8 z.fr.size (H b E)
    .rw [k2];exact V.forget _ (by simp)
  refine vU.aD _ _ _ _ x _ ((gE M).aJ λj y S=>S.aJ λq D h=>?_);have z:=h.h7 aW 4;have C:=z.gx (.trees []) (Fr.refl _ _) (by show I.Ps D [];unfold I.Ps;trivial) (λb e=>by have:=aO.1 e;unfold I.a9 at this;cases this)
  exact loop t.l.length 0 [] ⟨none,0,0⟩ j q D (by omega) rfl rfl (λb e=>by unfold I.a9 at e;cases e) C
def Ta(t:I)(w:J)(h:t.sz<=1000000)(e:t.P w):ak aa CC #[t.v] w λr d=>fK w t.rx r d/\ah w d:=F9 1000000 (bg _) t w h e
def fh:Rx:=.mk 0 0 0 []
def oX(x:Rx):Int:=if 64<x.sz then 4 else 0
def oY(x:Rx):Rx:=if 64<x.sz then fh else x
def Fu(w:J)(x:Rx)(c:Int)(r:cr)(Y:J):Prop:=∃t:I,r=ag (.tuple #[t.v,.int .i64 c])/\t.rx=x/\t.P Y/\∀b∈t.fp,w.heap.size<=b
def MV(w:J):(I.mk 0 0 0 ⟨none,0,0⟩ []).P w:=by unfold I.P I.Ps;exact⟨bx.nil 4 w,trivial⟩
def MU{b:Nat}(h:b∈(I.mk 0 0 0 ⟨none,0,0⟩ []).fp):False:=by unfold I.fp I.a9 at h;simp[En.bc]at h
def Ts(t:I)(w:J)(h:t.sz<=1000000)(D:t.P w):ak aa Lu #[t.v] w λr z=>Fu w (oY t.rx) (oX t.rx) r z/\ah w z:=by
 refine Om.aD _ _ _ _ w _ ((gE D).aJ λK M B=>B.aJ λL F q=>q.ay (AX t F h (q.getD 0)) ?_);rintro _ G rfl j;refine⟨_,rfl,aG (λe=>j.ai λH k=>⟨⟨.mk 0 0 0 ⟨none,0,0⟩ [],?_,?_,MV _,λb d=>(MU d).elim⟩,k.fr⟩) (λe=>j.hD (Ta t G h (j.getD 0)) ?_)⟩
 .unfold oX;rw[I.eB,aj e];rfl
 .unfold oY;rw[I.eB,aj e];rfl
 rintro _ H ⟨u,rfl,C,E,y⟩ _ A;have k:=A.rd (.tree u) E λb d=>y b (aO.1 d);refine⟨_,_,_,_,rfl,k.ai λN x=>⟨⟨u,?_,?_,x.getD 1,λb d=>a8 j.fr.size (y b d)⟩,x.fr⟩⟩
 .unfold oX;rw[I.eB,af e]
 .unfold oY;rw[I.eB,af e,C]
namespace Ob
noncomputable abbrev t0:=aA aa Tryz.f201 [] [2]
def aD:=aB t0 sK [.a 4,.I,.Y,.Y,.s,.r]
end Ob
namespace wg
noncomputable abbrev t0:=aA aa Tryz.f202 [] []
noncomputable def L0:=bj t0 [0,1,1,1,1] [(0,.v [.s]),(1,.v [.f]),(7,.v [.I]),(8,.v [.I])]
noncomputable abbrev t1:=bh L0
def bE:=bm t1 L0
def ok:=aB t1 LK [.s,.f]
end wg
namespace Pb
noncomputable abbrev t0:=aA aa Tryz.f182 [] []
def ok:=aB t0 LI [.s,.f]
end Pb
namespace qW
noncomputable abbrev t0:=aA aa Tryz.f200 [] [7]
abbrev P0:Ps:=[(0,.v [.s]),(1,.v [.g sK 0 1,.r]),(5,.v [.I]),(6,.v [.I])]
noncomputable def a2:=bj t0 [0,1,1,1,3] P0
noncomputable abbrev t1:=bh a2
noncomputable abbrev bT:=ax t1 [2,2,1,1,3] P0
noncomputable abbrev t2:=az bT
def bB:=bm t2 a2
def aD:=aB t2 LJ [.s,.g sK 0 1,.r]
end qW
namespace mf
noncomputable abbrev t0:=aA aa Tryz.f187 [(6,ls [0,1,2,3,4,5,6,7,8,9,10]),(11,ls [0,1,2,3,4,5,6,7,8,9,10,11])] []
noncomputable def L0:=bj t0 [0,1,1,1,2] [(0,.v [.s]),(1,.v [.g qA 0 0]),(5,.v [.I])]
noncomputable abbrev t1:=bh L0
abbrev P0:Ps:=[(0,.v [.s]),(1,.v [.g qA 0 0]),(5,.v [.I]),(6,.v [.s]),(7,.v [.I])]
noncomputable def L2:=bj t1 [0,1,1,1,1,1,1,2,1,2,1,1,2] P0
noncomputable abbrev t2:=bh L2
noncomputable abbrev S3:=ax t2 [2,2,1,1,1,1,1,2,1,2,1,1,2] P0
noncomputable abbrev t3:=az S3
def kU:=bm t3 L2
noncomputable abbrev S1:=ax t3 [1,1,1,2,1,2,1,1,2] [(0,.v [.s]),(1,.v [.g qA 0 0]),(5,.v [.I]),(6,.v [.s])]
noncomputable abbrev t4:=az S1
def bE:=bm t4 L0
def ok:=aB t4 LF [.s,.g qA 0 0]
end mf
namespace qQ
noncomputable abbrev t0:=aA aa Tryz.f181 [] [2,7]
abbrev P0:Ps:=[(2,.l [.I,.Y,.Y,.s] aW),(3,.v [.r]),(5,.v [.s]),(9,.v [.s]),(10,.v [.I]),(11,.v [.I])]
noncomputable def a2:=bj t0 [0,1,1,1,2] P0
noncomputable abbrev t1:=bh a2
noncomputable abbrev bT:=ax t1 [3,2,1,1,2] P0
noncomputable abbrev t2:=az bT
def bB:=bm t2 a2
def aD:=aB t2 Lo [.a 4,.I,.Y,.Y,.s,.a 4,.I,.Y,.Y,.s]
end qQ
namespace Oe
noncomputable abbrev t0:=aA aa Tryz.f178 [] [1,2]
def aD:=aB t0 vC [.a 4,.I,.Y,.Y,.s]
end Oe
namespace Of
noncomputable abbrev t0:=aA aa Tryz.f179 [] []
def ok:=aB t0 yi [.a 4,.I,.Y,.Y,.s,.a 4,.I,.Y,.Y,.s]
end Of
namespace DQ
noncomputable abbrev t0:=aA aa Tryz.f180 [] [3,4]
noncomputable abbrev bq:=ax t0 [4] [(1,.v [.r]),(3,.l [.I,.Y,.Y,.s] aW),(4,.l [.I,.Y,.Y,.s] aW),(5,.v [.s])]
noncomputable abbrev t1:=az bq
def aD:=aB t1 yj [.a 4,.I,.Y,.Y,.s,.r,.r]
end DQ
namespace Og
noncomputable abbrev t0:=aA aa Tryz.f183 [] [2]
def aD:=aB t0 CD [.a 4,.I,.Y,.Y,.s,.r]
end Og
namespace Oh
noncomputable abbrev t0:=aA aa Tryz.f188 [] [1,2]
def aD:=aB t0 sL [.a 4,.I,.Y,.Y,.s]
end Oh
namespace yZ
noncomputable abbrev t0:=aA aa Tryz.f189 [] [3,4,5]
noncomputable abbrev bq:=ax t0 [0,1,1,1,2] [(1,.v [.r]),(4,.l [.I,.Y,.Y,.s] aW)]
noncomputable abbrev t1:=az bq
noncomputable abbrev bT:=ax t1 [0,1,1,1,3] [(4,.l [.I,.Y,.Y,.s] aW),(5,.l [.I,.Y,.Y,.s] aW)]
noncomputable abbrev t2:=az bT
def aD:=aB t2 sM [.a 4,.I,.Y,.Y,.s,.r,.r]
end yZ
namespace vX
noncomputable abbrev t0:=aA aa Tryz.f155 [(5,ls [0,1,2,3,4,5,6,7,8])] []
noncomputable def L0:=bj t0 [0,1,1,1,2] [(0,.v [.m]),(3,.v [.r]),(4,.v [.r]),(5,.v [.r]),(16,.v [.s]),(17,.v [.I]),(18,.v [.I])]
noncomputable abbrev t1:=bh L0
def bE:=bm t1 L0
def ok:=aB t1 CF [.m,.a 4,.I,.Y,.Y,.s]
end vX
def Y3{w:J}{g:Nat}{cur:Array ab}{t:aC}(d:w.heap[g]? =some (.cells cur t (0,0)))(vs:Array ab):w.setRow g vs=w.putObj g (.cells vs t (0,0)):=by
 unfold World.setRow World.putObj;congr 1;apply Array.ext_getElem?;intro i;rw[Array.getElem?_modify,Array.getElem?_setIfInBounds];by_cases e:g=i
 .subst e;have:=lt_of_heap d;simp[this,(Array.getElem?_eq_some_iff.1 d).2]
 .simp [e]
def FC(g k:Nat):(⟨g,0,none⟩:Addr).add k=⟨g,k,none⟩:=by unfold Addr.add;split<;>simp_all
def G5{P:aF}{t ty e:aC}{z:ab}{sz bytes:Nat}(x:gU P t e z sz bytes)(Z:∀u∈z.cells.toList,u.oneCell'=true)(ah:z.cells.size=sz){w:J}{s:Sl}{vs:List ab}(h:aK w e sz s vs)(l:Nat)(H:l<=s.n):
  ∃Y,(Builtin.clear_ #[t] ty #[.slice (if s.c=l then s.a else s.a.map (·.add (l *sz))) (s.n - l) (s.c - l)]).run P w=.ok (.tuple #[]) Y/\
   aK Y e sz ⟨if s.c=0 then s.a else s.a.map (·.add (0 *sz)),l - 0,s.c - 0⟩ (vs.take (l *sz))/\Fr (·∈aw s) w Y:=by
 have hlen:=h.len;obtain⟨S,d,j⟩:=s;simp only at H hlen;have af:∀B:Option Addr,(if j=0 then B else B.map (·.add (0 *sz)))=B:=λB=>by
  split
  .rfl
  .cases B with
   |none=>rfl
   |some p=>rw[Nat.zero_mul,Option.map_some,iS]
 rw[af,Nat.sub_zero,Nat.sub_zero];have K:∀(Y:J) (g:Nat) (q:Array ab),S=some ⟨g,0,none⟩->d<=j->j<=maxLen->Y.heap[g]? =some (.cells q e (0,0))->q.size=j *sz->q.toList.take (l *sz)=vs.take (l *sz)->aK Y e sz ⟨S,l,j⟩ (vs.take (l *sz)):=by intro Y g q E an hc k O ag;subst E;have C:l *sz<=d *sz:=nr _ H;refine⟨by rw[eA,hlen,Nat.min_eq_left C],.inr ⟨g,j,q,rfl,dn _,k,by show l<=j;omega,hc,O,ag⟩⟩
 rcases h.cases with⟨hs,rfl⟩|⟨g,cur,E,k,D,G,A,L⟩
 .cases hs;have:l=0:=by omega
  subst this;refine⟨w,?_,?_,Fr.refl _ _⟩
  .simp [Builtin.clear_,run_underlying x.ht]
  .simpa using aK.nil w e sz
 .simp only at E D G A L;subst E;have C:l *sz<=d *sz:=nr _ H;have T:d *sz<=j *sz:=nr _ D;have Q:cur.toList.take (l *sz)=vs.take (l *sz):=by rw[<-L,List.take_take,Nat.min_eq_left C]
  by_cases hn:d - l=0
  .refine ⟨w,?_,K w g cur rfl D G k A Q,Fr.refl _ _⟩;rw[hn];by_cases F:j=l
   .simp [Builtin.clear_,run_underlying x.ht,F]
   .simp [Builtin.clear_,run_underlying x.ht,F]
  .have F:j≠l:=by omega
   obtain⟨inf,hi,hz,O,al⟩:=info_parts x.U;have ai:(zeroValue e).run P w=.ok z w:=by simp[zeroValue,typeInfo,hi,hz]
   have M:(Builtin.zeroCells z.cells (d - l)).toList.length=(d - l) *sz:=by simp[Builtin.zeroCells,ah]
   have ae:∀v∈(Builtin.zeroCells z.cells (d - l)).toList,v.oneCell'=true:=by
    intro v I;unfold Builtin.zeroCells at I;rw[Array.toList_map,ch]at I;obtain⟨aj,hj,rfl⟩:=I;by_cases V:0<z.cells.size
    .have ad:aj%z.cells.size<z.cells.size:=Nat.mod_lt _ V;rw[getElem!_pos z.cells _ ad];exact Z _ (by simp)
    .have W:z.cells.size=0:=by omega
     simp[W]at hj
   have am:(d - l) *sz=d *sz - l *sz:=Nat.sub_mul _ _ _;have ac:l *sz+0+(Builtin.zeroCells z.cells (d - l)).toList.length<=cur.size:=by rw[M,A];omega
   have N:=run_storeCells_at (P:=P) g (l *sz) e (Builtin.zeroCells z.cells (d - l)).toList 0 cur w k ac ae;refine⟨_,?_,K _ g (cur.toList.take (l *sz+0)++(Builtin.zeroCells z.cells (d - l)).toList++cur.toList.drop (l *sz+0+(Builtin.zeroCells z.cells (d - l)).toList.length)).toArray rfl D G (setRow_heap w g cur _ e _ k) ?_ ?_,?_⟩
   .obtain ⟨m,hm⟩:∃m,d - l=m+1:=⟨d - l - 1,by omega⟩;have aa:(⟨g,0,none⟩:Addr).add (l *sz)=⟨g,l *sz,none⟩:=FC g (l *sz);rw[hm]at N ⊢;simp[Builtin.clear_,run_underlying x.ht,F,aa,ai,N]
   .simp only[List.size_toArray,a7,eA,List.length_drop,M,Array.length_toList,A];generalize(d - l) *sz=ak at *;generalize d *sz=y at *;generalize j *sz=u at *;generalize l *sz=v at *;omega
   .simp only[cp,Nat.add_zero];rw[List.take_append_of_le_length (by rw[eA,Array.length_toList,A];exact Nat.le_min.2 ⟨bg _,a8 C T⟩),List.take_take,Nat.min_self]
    exact Q
   .rw [Y3 k];exact(Fr.put w g _).mono λak _ e=>by simp[aw,e]
def Rb:∀u∈(Value.agg #[.int .i64 0,.int .u8 0,.int .u8 0,.slice none 0 0]).cells.toList,u.oneCell'=true:=by intro u d;simp only[Value.cells,av,aR,aT]at d;rcases d with rfl|rfl|rfl|rfl<;>rfl
def UW{l:List I}{k:Nat}{t:I}(h:k<l.length):((((l.flatMap I.c).set (k *4+0) (.int .i64 t.k)).set (k *4+1) (.int .u8 (t.lo.toNat:Int))).set (k *4+2) (.int .u8 (t.U.toNat:Int))).set (k *4+3) t.s.v=(l.set k t).flatMap I.c:=by
 induction l generalizing k with
 |nil=>simp at h
 |cons a l q=>
  cases k with
  |zero=>simp[I.c]
  |succ k=>
   have j:k<l.length:=by simpa using h
   have d:∀e,(k+1) *4+e=(k *4+e)+4:=λe=>by omega
   rw[d 0,d 1,d 2,d 3,b',List.set_cons_succ,b',<-q j];simp[I.c]
section
variable {M:Nat->Prop} {w0 w:J} {L D:List En} {V:List Nat}
def _root_.Go.W.LH.PK(H:LH M w0 w L D)(i k:Nat){s:Sl}{O:List I}{t:I}{p:Addr}{K:J->Prop}(U:L[i]? =some (.row aW 4 s (O.flatMap I.c)))(z:s.a=some p)(hk:k<O.length)(hK:∀w',LH M w0 w' (L.set i (.row aW 4 s ((O.set k t).flatMap I.c))) D->K w')(br:∀b∈V,En.g b∈L:=by simp):
  aQ w (p.add (k *4)) (.int .i64 t.k) λd=>kept V w d/\aQ d ((p.add (k *4)).add 1) (.int .u8 (t.lo.toNat:Int)) λh=>kept V d h/\aQ h ((p.add (k *4)).add 2) (.int .u8 (t.U.toNat:Int)) λj=>kept V h j/\aQ j ((p.add (k *4)).add 3) t.s.v λy=>kept V j y/\K y:=by
 have hlen:(O.flatMap I.c).length=O.length *4:=I.eW O;have B:=(bO.1 U).1;have N:∀{e:En} {b:Nat},(∀(d:J) (A:Nat),¬e.P ({d with heap:=g4 (A+1) (.map #[] 0)}:J))->En.g b∈L->En.g b∈L.set i e:=by
  intro e b ae q;obtain⟨ac,C⟩:=fQ.1 q;by_cases aa:i=ac
  .subst aa;rw[U]at C;exfalso;have e1:En.row aW 4 s (O.flatMap I.c)=En.g b:=e3 C;have Z:(En.g b).P ({w with heap:=g4 (b+1) (.map #[] 0)}):=by show b<_;simp
   rw[<-e1]at Z;by_cases F:aw s=[]
   .have:s.a=none:=by unfold aw at F;split at F<;>simp_all
    rw[z]at this;cases this
   .obtain ⟨ad,G⟩:=List.exists_mem_of_ne_nil _ F;obtain⟨cs,f,x⟩:=(aK.row (show aK ({w with heap:=g4 (b+1) (.map #[] 0)}) aW 4 s _ from Z)).tL ad G;rw[Array.getElem?_replicate]at x;split at x<;>cases x
  .refine aE (i:=ac) ?_;rw[List.getElem?_set_ne aa];exact C
 have E:∀(vs:List ab) (d:J) (A:Nat),¬(En.row aW 4 s vs).P ({d with heap:=g4 (A+1) (.map #[] 0)}:J):=by
  intro vs d A h0;have G:p.block∈aw s:=by simp[aw,z]
  obtain⟨cs,f,x⟩:=(aK.row (show aK ({d with heap:=g4 (A+1) (.map #[] 0)}) aW 4 s vs from h0)).tL _ G;rw[Array.getElem?_replicate]at x;split at x<;>cases x
 have Y:=H.oc (V:=V) i (k *4) 0 (v:=.int .i64 t.k) (p:=p) (K:=λd=>aQ d ((p.add (k *4)).add 1) (.int .u8 (t.lo.toNat:Int)) λh=>kept V d h/\aQ h ((p.add (k *4)).add 2) (.int .u8 (t.U.toNat:Int)) λj=>kept V h j/\aQ j ((p.add (k *4)).add 3) t.s.v λy=>kept V j y/\K y) U z (by rw[hlen];omega) (λd H1=>?_) br
 .rw [iS]at Y;exact Y
 refine H1.oc (V:=V) i (k *4) 1 (by rw[ic B]) z (by rw[i3,hlen];omega) (λh Q=>?_) (λb q=>N (E _) (br b q));rw[List.set_set]at Q;refine Q.oc (V:=V) i (k *4) 2 (by rw[ic B]) z (by simp only[i3,hlen];omega) (λj S=>?_) (λb q=>N (E _) (br b q));rw[List.set_set]at S;refine S.oc (V:=V) i (k *4) 3 (by rw[ic B]) z (by simp only[i3,hlen];omega) (λy T=>?_) (λb q=>N (E _) (br b q));rw[List.set_set,UW hk]at T;exact hK y T
def _root_.Go.W.LH.ZL(H:LH M w0 w L D)(i k:Nat){s:Sl}{O:List I}{t:I}{p:Addr}{K:J->Prop}(U:L[i]? =some (.row aW 4 s (O.flatMap I.c)))(q:s.a=some p)(j:k<O.length)(h:∀e,LH M w0 e (L.set i (.row aW 4 s ((O.set k t).flatMap I.c))) D->K e):
  aQ w (p.add (k *4)) (.int .i64 t.k) λx=>aQ x ((p.add (k *4)).add 1) (.int .u8 (t.lo.toNat:Int)) λy=>aQ y ((p.add (k *4)).add 2) (.int .u8 (t.U.toNat:Int)) λz=>aQ z ((p.add (k *4)).add 3) t.s.v K:=by have d:=H.PK (V:=[]) (K:=K) i k U q j h (by simp);exact⟨d.1,d.2.1,d.2.2.2.1,d.2.2.2.2.1,d.2.2.2.2.2.2.1,d.2.2.2.2.2.2.2.1,d.2.2.2.2.2.2.2.2.2.1,d.2.2.2.2.2.2.2.2.2.2.1,d.2.2.2.2.2.2.2.2.2.2.2.2⟩
end
def Di{w:J}{s:Sl}{l:List I}(h:aK w aW 4 s (l.flatMap I.c)){i:Nat}{t:I}(U:l[i]? =some t){K:Addr->Prop}(d:∀p,s.a=some p->I.fI w p i t->K p):dM s.a K:=I.de h.bc U d
section
variable {M:Nat->Prop} {w0 w:J} {L D:List En}
def _root_.Go.W.LH.el(H:LH M w0 w L D)(i k:Nat){s:Sl}{O:List I}{t:I}{X:Int}{K:Int->Int->Int->Sl->Prop}(q:X=(k:Int))(e:O[k]? =some t)(h:K t.k t.lo.toNat t.U.toNat t.s)(U:L[i]? =some (.row aW 4 s (O.flatMap I.c)):=by rfl):
  e8 s X λp=>∃a b c:Int,∃d:Sl,w.cell? ((p.add (aZ X *4)).add 0)=some (.i a)/\w.cell? ((p.add (aZ X *4)).add 1)=some (.int .u8 b)/\w.cell? ((p.add (aZ X *4)).add 2)=some (.int .u8 c)/\w.cell? ((p.add (aZ X *4)).add 3)=some d.v/\K a b c d:=by subst q;have j:aK w aW 4 s (O.flatMap I.c):=H.get i U;have y:=I.cm j.bc;have x:=(bO.1 e).1;exact⟨by omega,by omega,Di j e λp z c=>⟨_,_,_,_,c.c0,c.c1,c.c2,c.c3,h⟩⟩
def _root_.Go.W.LH.uR(H:LH M w0 w L D)(i k:Nat){s:Sl}{O:List I}{t:I}{X:Int}{K:J->Prop}(q:X=(k:Int))(d:k<O.length)(j:∀h,LH M w0 h (L.set i (.row aW 4 s ((O.set k t).flatMap I.c))) D->K h)(U:L[i]? =some (.row aW 4 s (O.flatMap I.c)):=by rfl):
  e8 s X λp=>aQ w (p.add (aZ X *4)) (.i t.k) λz=>aQ z ((p.add (aZ X *4)).add 1) (.int .u8 (t.lo.toNat:Int)) λA=>aQ A ((p.add (aZ X *4)).add 2) (.int .u8 (t.U.toNat:Int)) λB=>aQ B ((p.add (aZ X *4)).add 3) t.s.v K:=by subst q;have e:aK w aW 4 s (O.flatMap I.c):=H.get i U;have C:=I.cm e.bc;have x:O[k]? =some O[k]:=a6 d;exact⟨by omega,by omega,Di e x λp y c=>H.ZL i k U y d j⟩
end
def B0{j:Nat}(d:1<=j)(e:j<=1000000000):ao .i64 ((j:Int) - 1)=((j - 1:Nat):Int):=by rw[aS _ (by omega)];omega
abbrev dT(b:Nat)(u:I):En:=.c b u.c aW
def Jl{w:J}{k u:I}{b:Nat}(h:k.P w)(j:u.P w)(e:w.heap[b]? =some (.cells u.c.toArray aW (0,0))):LH F0 w w [] [.tree k,.tree u,dT b u]:=bP _ (by
 intro q d;simp only[av,aR,aT]at d;rcases d with rfl|rfl|rfl
 .exact h
 .exact j
 .exact e)
def Ge(k u:I)(b:Nat)(w:J)(h:k.sz<=1000000)(q:k.P w)(x:u.P w)(j:w.heap[b]? =some (.cells u.c.toArray aW (0,0))):ak aa sK #[k.v,.pointer (some (ae b))] w λr y=>r=ag (.bool (a4 k.rx u.rx==0))/\ah w y:=by refine Ob.aD _ _ _ _ _ w _ ((Jl q x j).aJ λA z d=>⟨_,_,_,u.s,d.e6 2 0,d.e6 2 1,d.e6 2 2,d.e6 2 3,d.ay (uC k u z h (d.getD 0) (d.getD 1)) ?_⟩);rintro _ B rfl e;exact⟨_,rfl,rfl,e.fr⟩
def Tl(k u:I)(b:Nat)(w:J)(h:k.sz<=1000000)(q:k.P w)(x:u.P w)(j:w.heap[b]? =some (.cells u.c.toArray aW (0,0))):ak aa CD #[k.v,.pointer (some (ae b))] w λr y=>r=ag (.bool (a4 k.rx u.rx==0))/\ah w y:=by refine Og.aD _ _ _ _ _ w _ ((Jl q x j).aJ λA z d=>⟨_,_,_,u.s,d.e6 2 0,d.e6 2 1,d.e6 2 2,d.e6 2 3,d.ay (uC k u z h (d.getD 0) (d.getD 1)) ?_⟩);rintro _ B rfl e;exact⟨_,rfl,rfl,e.fr⟩
def Tj(k:I)(w:J)(j:k.P w):ak aa vC #[k.v] w λr q=>r=ag k.v/\ah w q:=by refine Oe.aD _ _ _ _ w _ ((gE j).aJ λx z d=>d.aJ λy A e=>e.ai λB h=>⟨rfl,h.fr⟩)
def k'(d:I->Bool):List I->Nat->Int
 |[],_=>-1
 |a::l,i=>if d a then(i:Int)else k' d l (i+1)
def Iy(d:I->Bool):∀(l:List I) (i:Nat),aq (k' d l i>=0)=l.any d
 |[],i=>rfl
 |a::l,i=>by
  unfold k';rw[List.any_cons];cases e:d a with
  |true=>simp
  |false=>simpa using Iy d l (i+1)
def F1(s:Sl)(l:List I)(f:Fv)(h:I->Bool)(D:List En)(w:J)(O:l.length<=1000000)(E:bx 4 w s (l.flatMap I.c))(F:∀z∈D,z.P w)(G:gW aa f.n=true)(H:∀j t,t∈l->LH F0 w j [] (I.row s l::D)->ak aa f.n (f.V++#[t.v]++f.cs) j λr M=>r=ag (.bool (h t))/\ah j M):
  ak aa LK #[s.v,f.v] w λr j=>r=ag (.int .i64 (k' h l 0))/\ah w j:=by
 have S:=I.cm E;have loop:∀(d i:Nat) (y:J),i+d=l.length->k' h (l.drop i) i=k' h l 0->LH F0 w y [] (I.row s l::D)->wg.L0 s f ((s.n:Nat):Int) (i:Int) y λr j=>r=ag (.int .i64 (k' h l 0))/\ah w j:=by
  intro d;induction d with
  |zero=>
   intro i y K e q;rw[dC (by omega)]at e;exact wg.bE _ _ _ _ _ _ (a1 (aV (by omega)) ⟨by rw[<-e];rfl,q.fr⟩)
  |succ d L=>
   intro i y K e q;have A:l[i]? =some (l[i]'(by omega)):=a6 (by omega);rw[dy (by omega:i<l.length)]at e;generalize l[i]'(by omega)=x at A e;refine wg.bE _ _ _ _ _ _ (a3 (aP (by omega)) ⟨by omega,by omega,I.de (q.getD 0) A λp Q c=>⟨x.k,x.lo.toNat,x.U.toNat,x.s,c.c0,c.c1,c.c2,c.c3,?_⟩⟩);rw[G];refine(show cE true _ from ?_);refine q.call (H y x (aE A) q) ?_;rintro _ N rfl C;have e:(if h x then(i:Int)else k' h (l.drop (i+1)) (i+1))=k' h l 0:=e;refine⟨_,rfl,bD (λB=>⟨?_,C.fr⟩) (λB=>?_)⟩
   .rw [aj B]at e;rw[e]
   .rw [af (by rw[B];simp)]at e;rw[bd _ (by omega)];exact L (i+1) N (by omega) e C
 refine wg.ok _ _ w _ (loop l.length 0 w (by omega) (by simp) (bP _ (λz e=>?_)));rcases av.1 e with rfl|e
 .exact E
 .exact F z e
def SD(s:Sl)(l:List I)(f:Fv)(e:I->Bool)(D:List En)(w:J)(y:l.length<=1000000)(z:bx 4 w s (l.flatMap I.c))(k:∀h∈D,h.P w)(q:gW aa f.n=true)(x:∀d t,t∈l->LH F0 w d [] (I.row s l::D)->ak aa f.n (f.V++#[t.v]++f.cs) d λr A=>r=ag (.bool (e t))/\ah d A):
  ak aa LI #[s.v,f.v] w λr d=>r=ag (.bool (l.any e))/\ah w d:=by refine Pb.ok _ _ w _ ((F1 s l f e D w y z k q x).mono ?_);rintro _ B ⟨rfl,j⟩;refine⟨_,rfl,?_,j⟩;rw[Iy]
def Iz(d:I->Bool):∀(l:List I) (k:Nat),(k' d l k=-1/\∀t∈l,d t=false)\/∃m a,l[m]? =some a/\d a=true/\k' d l k=((k+m:Nat):Int)/\∀t∈l.take m,d t=false
 |[],k=>.inl ⟨rfl,by simp⟩
 |a::l,k=>by
  unfold k';cases j:d a with
  |true=>exact .inr ⟨0,a,rfl,j,by simp,by simp⟩
  |false=>
   rcases Iz d l (k+1)with⟨e,h⟩|⟨m,x,e,h,q,w⟩
   .exact .inl ⟨by simpa using e,by simpa[j]using h⟩
   .refine .inr ⟨m+1,x,by simpa using e,h,?_,?_⟩
    .simp only[q,Bool.false_eq_true,if_false];omega
    .simp only[List.take_succ_cons,av,forall_eq_or_imp];exact⟨j,w⟩
section
variable {M:Nat->Prop} {w0 w:J} {L D:List En} {V:List Nat}
def _root_.Go.W.LH.AZ(H:LH M w0 w L D)(i:Nat){P:aF}{g:FuncId}{args:Array ab}{A K:aH}{e:aC}{sz:Nat}{s:Sl}{xs:List ab}(U:L[i]? =some (.row e sz s xs))(q:ak P g args w λr d=>A r d/\Fr (·∈aw s) w d)(z:∀r d,A r d->(∀h:En,h.P d->(∀b∈h.fp,b∈aw s\/w.heap.size<=b)->LH M w0 d (L.set i h) D)->K r d)(br:∀b∈V,En.g b∈L:=by simp):ee V P g args w K:=
 ⟨(·∈aw s),λb k=>H.vi U (br b k),q.mono λr d ⟨j,f⟩=>⟨f,z r d j λh x y=>H.gu i h U f x y⟩⟩
def _root_.Go.W.LH.off(H:LH M w0 w L D)(i j:Nat){e:aC}{sz:Nat}{s:Sl}{xs:List ab}{d:En}(U:L[i]? =some (.row e sz s xs):=by rfl)(q:D[j]? =some d:=by rfl):∀h∈aw s,h∉d.fp:=λh x k=>
 H.dj d (aE q) h k _ (aE U) x
end
def um(s:Sl)(l:List I)(r:cr)(w Y:J):Prop:=∃d:Sl,r=ag d.v/\aK Y aW 4 d (l.flatMap I.c)/\∀e∈aw d,e∈aw s
def x4{w:J}{s:Sl}{l:List I}(D:List En)(q:aK w aW 4 s (l.flatMap I.c))(h:∀d∈D,d.P w/\∀y∈aw s,y∉d.fp):LH (·∈aw s) w w [.row aW 4 s (l.flatMap I.c)] D:=
 LH.tz _ _ (by
  intro d e;simp only[av,aR,aT]at e;subst e;exact⟨q,λb j=>j⟩) (by
  simp only[b',List.flatMap_nil,dt];exact(En.row aW 4 s (l.flatMap I.c)).nd) (λd e=>⟨(h d e).1,λb j z k=>by simp only[av,aR,aT]at k;subst k;exact λx=>(h d e).2 b x j⟩)
def P5{α:Type}{l:List α}{i:Nat}{a:α}(h:i<l.length):(l.set i a).take (i+1)=l.take i++[a]:=by rw[ej,ic h,List.take_set_of_le (bg _)];rfl
def SE(s:Sl)(l:List I)(u:I)(b:Nat)(w:J)(hl:I.aY l<=1000000)(Q:aK w aW 4 s (l.flatMap I.c))(pl:I.Ps w l)(pu:u.P w)(hb:w.heap[b]? =some (.cells u.c.toArray aW (0,0)))(N:∀h∈aw s,h∉I.a9 l/\h∉u.fp/\h≠b):
  ak aa LJ #[s.v,.func (.func sK) #[] #[.pointer (some (ae b))]] w λr z=>um s (l.filter λt=>!(a4 t.rx u.rx==0)) r w z/\Fr (·∈aw s) w z:=by
 have nr:=I.cm Q.bc;have ll:=I.fq l;have kt:∀t∈l,t.sz<=1000000:=λt y=>a8 (I.eg y) hl;have S:LH (·∈aw s) w w [.row aW 4 s (l.flatMap I.c)] [.trees l,.tree u,dT b u]:=x4 _ Q (by
  intro V Y;simp only[av,aR,aT]at Y;rcases Y with rfl|rfl|rfl
  .exact ⟨pl,λh e B=>(N h e).1 (aO.1 B)⟩
  .exact ⟨pu,λh e B=>(N h e).2.1 (aO.1 B)⟩
  .exact ⟨hb,λh e B=>(N h e).2.2 (by simpa[dT,En.c,En.ob]using B)⟩)
 have loop:∀(d i j:Nat) (cur:List I) (C:J),j+d=l.length->i<j->cur.length=l.length->cur.drop j=l.drop j->cur.take i=(l.take j).filter (λt=>!(a4 t.rx u.rx==0))->LH (·∈aw s) w C [.row aW 4 s (cur.flatMap I.c)] [.trees l,.tree u,dT b u]->
   qW.a2 s (ae b) (i:Int) (j:Int) C λr z=>um s (l.filter λt=>!(a4 t.rx u.rx==0)) r w z/\Fr (·∈aw s) w z:=by
  intro d;induction d with
  |zero=>
   intro i j cur C hj ag M G K q;refine qW.bB _ _ _ _ _ _ (a1 (aV (by omega)) ⟨by omega,by omega,?_⟩);have ah:=(q.get 0:aK _ _ _ _ _).cap;obtain⟨w2,A,D,F⟩:=G5 (ty:=j') qk Rb rfl (q.get 0) i (by omega);refine⟨w2,A,by omega,by omega,⟨⟨if s.c=0 then s.a else s.a.map (·.add (0 *4)),i - 0,s.c - 0⟩,rfl,?_,λh e=>?_⟩,q.fr.trans F λh _ ad=>ad⟩
   .have V:(cur.flatMap I.c).take (i *4)=(l.filter λt=>!(a4 t.rx u.rx==0)).flatMap I.c:=by
     have e1:(cur.flatMap I.c).take (i *4)=(cur.take i).flatMap I.c:=by
      have:=I.eW (cur.take i);conv=>lhs;rw[<-lu i cur,cy]
      rw[List.take_append_of_le_length (by rw[this,eA];omega),eZ (by rw[this,eA];omega)]
     rw[e1,K,eZ (by omega)]
    rw[<-V];exact D
   .simp only[aw]at e ⊢;split at e
    .rename_i p x;split at x
     .rw [x];exact e
     .cases ab:s.a with
      |none=>rw[ab]at x;cases x
      |some al=>
       rw[ab]at x;simp only[Option.map_some,eH]at x;subst x;rw[iz]at e;exact e
    .cases e
  |succ d ac=>
   intro i j cur C hj ag M G K q;have H:l[j]? =some (l[j]'(by omega)):=a6 (by omega);generalize aj:l[j]'(by omega)=a at H;have af:cur[j]? =some a:=by
    have:(cur.drop j)[0]? =(l.drop j)[0]?:=by rw[G]
    simpa[jv,H]using this
   have W:=aE H;have Z:l.take (j+1)=l.take j++[a]:=by rw[ej,H];rfl
   refine qW.bB _ _ _ _ _ _ (a3 (aP (by omega)) ⟨by omega,by omega,Di (q.get 0) af λp x c=>⟨a.k,a.lo.toNat,a.U.toNat,a.s,c.c0,c.c1,c.c2,c.c3,?_⟩⟩);refine q.aJ (λb7 w2 H2=>H2.ai λw3 E=>?_);refine E.ay (Ge a u b w3 (kt a W) ((show I.Ps w3 l from E.getD 0).mem W) (E.getD 1) (E.getD 2)) ?_;rintro _ w4 rfl T;refine⟨_,rfl,dN (λhf=>⟨by omega,by omega,?_⟩) (λy=>?_)⟩
   .rw [x];refine(show dM (some p) _ from ?_);refine T.PK 0 i (t:=a) (O:=cur) rfl x (by omega) (λw5 H5=>?_);show qW.a2 _ _ _ _ _ _;rw[bd _ (by omega),bd _ (by omega)];refine ac (i+1) (j+1) (cur.set i a) w5 (by omega) (by omega) (by simpa using M) ?_ ?_ (H5.take 1)
    .rw [List.drop_set_of_lt (by omega),<-o7,G,o7]
    .rw [P5 (by omega),K,Z,List.filter_append];simp[hf]
   .show qW.a2 _ _ _ _ _ _;rw[bd _ (by omega)];refine ac i (j+1) cur w4 (by omega) (by omega) M ?_ ?_ (T.take 1)
    .rw [<-o7,G,o7]
    .rw [K,Z,List.filter_append];simp[y]
 refine qW.aD _ _ w _ ?_;have hI:=F1 s l ⟨sK,#[],#[.pointer (some (ae b))]⟩ (λt=>a4 t.rx u.rx==0) [.trees l,.tree u,dT b u] w (by omega) Q.bc (S.rd) (by kernel_rfl) (λz t y L=>Ge t u b z (kt t y) ((show I.Ps z l from L.getD 1).mem y) (L.getD 2) (L.getD 3));refine S.call hI ?_;rintro _ C rfl q;rcases Iz (λt=>a4 t.rx u.rx==0) l 0 with⟨A,D⟩|⟨m,a,A,D,F,h4⟩
 .refine ⟨_,rfl,a3 (by rw[A];rfl) ⟨⟨s,rfl,?_,λh e=>e⟩,q.fr⟩⟩;rw[List.filter_eq_self.2 (λt y=>by rw[D t y];rfl)];exact q.get 0
 .have B:m<l.length:=(bO.1 A).1;refine⟨_,rfl,a1 (by rw[F];exact beq_eq_false_iff_ne.2 (by omega)) ?_⟩;rw[F,Nat.zero_add,bd _ (by omega)];refine loop (l.length - (m+1)) m (m+1) l C (by omega) (by omega) rfl rfl ?_ q;rw[ej,A,List.filter_append,List.filter_eq_self.2 (λt y=>by rw[h4 t y];rfl)];simp only[Option.toList_some,List.filter_cons,D];simp
def eP(x k:I):List I:=if k.k=x.k then k.l else[k]
def Cc(u t:I):Bool:=!(a4 t.rx u.rx==0)
def ga(x u:I):List I:=(x.l.flatMap (eP x)).filter (Cc u)
structure Sub(x:I)(l:List I):Prop where
 P:∀w:J,x.P w->∀t∈l,t.P w
 fp:∀t∈l,∀b∈t.fp,b∈x.fp
def Sub.part{x t:I}(h:t∈x.l):Sub x [t]:=⟨λq j k d=>by
  simp at d;subst d;exact j.parts.2.mem h,λk d b e=>by simp at d;subst d;exact I.gb.2 (.inr (I.bM.2 ⟨_,h,e⟩))⟩
def Sub.open{x k:I}(h:k∈x.l):Sub x (eP x k):=by
 unfold eP;split
 .exact ⟨λq j t d=>((j.parts.2.mem h).parts.2).mem d,λt d b e=>I.gb.2 (.inr (I.bM.2 ⟨k,h,I.gb.2 (.inr (I.bM.2 ⟨t,d,e⟩))⟩))⟩
 .exact .part h
def Sub.flat{x:I}{l:List I}(h:∀e∈l,e∈x.l):Sub x (l.flatMap (eP x)):=⟨λq k t d=>by
  obtain⟨e,j,d⟩:=bA.1 d;exact(Sub.open (h e j)).P q k t d,λt d=>by obtain⟨e,j,d⟩:=bA.1 d;exact(Sub.open (h e j)).fp t d⟩
def Sub.sub{x:I}{l m:List I}(h:Sub x l)(e:∀t∈m,t∈l):Sub x m:=⟨λk j t d=>h.P k j t (e t d),λt d=>h.fp t (e t d)⟩
def Sub.Ps{x:I}{l:List I}(h:Sub x l){w:J}(d:x.P w):I.Ps w l:=I.ib (h.P w d)
def Sub.a9{x:I}{l:List I}(h:Sub x l){b:Nat}(d:b∈I.a9 l):b∈x.fp:=by obtain⟨t,e,d⟩:=I.bM.1 d;exact h.fp t e b d
def Sub.ga(x u:I):Sub x (ga x u):=(Sub.flat (λ_ d=>d)).sub λ_ d=>(List.mem_filter.1 d).1
def tE(x:I):∀l:List I,I.aY (l.flatMap (eP x))<=I.aY l
 |[]=>bg _
 |d::l=>by
  have e:I.aY (eP x d)<=d.sz:=by
   unfold eP;split
   .rw [I.hQ d];omega
   .simp [I.aY]
  rw[b',tD];have:=tE x l;show _<=d.sz+I.aY l;omega
def PR(d:I->Bool):∀l:List I,I.aY (l.filter d)<=I.aY l
 |[]=>bg _
 |e::l=>by
  have:=PR d l;rw[List.filter_cons];split
  .unfold I.aY;omega
  .show _<=e.sz+I.aY l;omega
def ZV(x u:I):I.aY (ga x u)+1<=x.sz:=by have d:=PR (Cc u) (x.l.flatMap (eP x));have e:=tE x x.l;rw[I.hQ x];unfold ga;omega
def Ao(w:J)(l:List I)(r:cr)(Y:J):Prop:=∃d:Sl,r=ag d.v/\aK Y aW 4 d (l.flatMap I.c)/\∀e∈aw d,w.heap.size<=e
def Th(x u:I)(w:J)(h:x.sz<=1000000)(Z:x.P w)(pu:u.P w):ak aa Lo #[x.v,u.v] w λr Y=>Ao w (ga x u) r Y/\ah w Y:=by
 have hs:=I.hQ x;have hl:=I.fq x.l;have nr:=I.cm Z.parts.1;have loop:∀(d i:Nat) (acc:List I) (sl:Sl) (q y:Nat) (A:J),i+d=x.l.length->acc=(x.l.take i).flatMap (eP x)->LH F0 w A [.g q,.c y u.c aW,.row aW 4 sl (acc.flatMap I.c)] [.tree x,.tree u]->
   qQ.a2 q x.k x.lo.toNat x.U.toNat x.s (ae y) sl x.s ((x.s.n:Nat):Int) (i:Int) A λr Y=>Ao w (ga x u) r Y/\ah w Y:=by
  intro d;induction d with
  |zero=>
   intro i acc sl q y A hi C e;have T:Sub x acc:=by rw[C];exact Sub.flat λan D=>List.mem_of_mem_take D
   have ad:I.aY acc<=I.aY x.l:=by rw[C,eZ (by omega)];exact tE x x.l
   refine qQ.bB _ _ _ _ _ _ _ _ _ _ _ _ (a1 (aV (by omega)) ?_);refine e.AZ 2 rfl (SE sl acc u y A (by omega) (e.get 2) (T.Ps (e.getD 0)) (e.getD 1) (e.ob 1) (λS M=>⟨λz=>e.off 2 0 rfl rfl S M (aO.2 (T.a9 z)),λz=>e.off 2 1 rfl rfl S M (aO.2 z),λz=>?_⟩)) ?_
   .exact mL e.nd (i:=2) rfl (j:=1) rfl (by omega) S M (by simp[En.c,En.ob,z])
   rintro _ N ⟨s',rfl,L,hb⟩ hH;have B:=hH (.row aW 4 s' ((acc.filter (Cc u)).flatMap I.c)) L λb K=>.inl (hb b K);refine⟨s',rfl,⟨s',rfl,?_,λb K=>(B.new _ (aE (i:=2) rfl) b K).resolve_right id⟩,B.fr⟩;rw[C,eZ (by omega)]at L;exact L
  |succ d ag=>
   intro i acc sl q y A hi C e;have G:x.l[i]? =some (x.l[i]'(by omega)):=a6 (by omega);generalize x.l[i]'(by omega)=a at G;have z:=aE G;have al:x.P A:=e.getD 0;have ap:=I.eg z;have ad:I.aY acc<=I.aY x.l:=by have h1:=tE x (x.l.take i);have h2:=zi x.l i;rw[C];omega
   have ac:acc++eP x a=(x.l.take (i+1)).flatMap (eP x):=by rw[ej,G,cy,C];simp
   have ao:=I.cm (e.get 2:aK _ _ _ _ _).bc;have ab:=I.fq acc;have tail:∀(s':Sl) (Y:J),LH F0 w Y [.g q,.c y u.c aW,.row aW 4 s' ((acc++eP x a).flatMap I.c)] [.tree x,.tree u]->qQ.bT q x.k x.lo.toNat x.U.toNat x.s (ae y) s' x.s ((x.s.n:Nat):Int) (i:Int) Y λr Y=>Ao w (ga x u) r Y/\ah w Y:=by intro s' Y H';show qQ.a2 _ _ _ _ _ _ _ _ _ _ _ _;rw[bd _ (by omega)];exact ag (i+1) _ s' q y Y (by omega) ac H'
   refine qQ.bB _ _ _ _ _ _ _ _ _ _ _ _ (a3 (aP (by omega)) ⟨by omega,by omega,I.de al.parts.1 G λp hp c=>⟨_,_,_,_,c.c0,c.c1,c.c2,c.c3,?_⟩⟩);refine e.aJ λb7 N B=>aL (λD=>B.ai λO E=>?_) (λD=>B.ai λO E=>?_)
   .have W:a.P O:=(show x.P O from E.getD 0).parts.2.mem z;have na:=I.cm W.parts.1;have ab:=I.fq a.l;have am:=I.hQ a;refine E.dd 2 qk (xs:=acc.flatMap I.c) (src:=a.s) (news:=a.l.flatMap I.c) rfl W.parts.1 (rV _) (by omega) (λs' Q H=>?_);refine tail s' Q ?_;have F:eP x a=a.l:=aj D;rw[F,cy];exact H.take 3
   .refine E.iA 2 qk (xs:=acc.flatMap I.c) rfl (λs' Q H=>?_) (by omega);refine tail s' Q ?_;have F:eP x a=[a]:=af D;rw[F,k2];exact H.take 3
 refine qQ.aD _ _ _ _ _ _ _ _ w _ ((bP [.tree x,.tree u] (by
  intro F V;simp only[av,aR,aT]at V;rcases V with rfl|rfl
  .exact Z
  .exact pu)).aJ λq A H1=>H1.nw λN _ B=>?_)
 exact loop x.l.length 0 [] ⟨none,0,0⟩ q A.heap.size N (by omega) rfl (B.h7 aW 4)
def A5(a b:Int):cw b a=-cw a b:=by
 have s:∀a b:Int,(cw a b=-1/\a<b)\/(cw a b=1/\b<a)\/(cw a b=0/\a=b):=λa b=>by
  unfold cw;split
  .exact .inl ⟨rfl,by omega⟩
  .split
   .exact .inr (.inl ⟨rfl,by omega⟩)
   .exact .inr (.inr ⟨rfl,by omega⟩)
 rcases s a b with d|d|d<;>rcases s b a with e|e|e<;>omega
def Df(c d:Int)(l m:List Int)(h:d=-c)(e:ef m=-ef l):ef (d::m)=-ef (c::l):=by
 show(if d≠0 then d else ef m)=-(if c≠0 then c else ef l);split
 .rw [aj (by omega)];exact h
 .rw [af (by omega)];exact e
def vK(c:Int):ef [c]=c:=by show(if c≠0 then c else 0)=c;split<;>omega
def rZ(k:Int)(lo U:UInt8)(l:List Rx)(b:Rx):a4 (.mk k lo U l) b=ef [cw k b.k,cw lo.toNat b.lo.toNat,cw U.toNat b.U.toNat,cmpL l b.l]:=by
 unfold a4;generalize cw k b.k=c0;generalize cw lo.toNat b.lo.toNat=c1;generalize cw U.toNat b.U.toNat=c2;generalize cmpL l b.l=c3;simp only[ef];by_cases d:c0=0
 .by_cases e:c1=0
  .by_cases h:c2=0
   .by_cases j:c3=0<;>simp[d,e,h,j]
   .simp [d,e,h]
  .simp [d,e]
 .simp [d]
mutual
def jk:∀a b:Rx,a4 b a=-a4 a b
 |.mk j lo e l,.mk k q h d=>by rw[rZ,rZ];exact Df _ _ _ _ (A5 _ _) (Df _ _ _ _ (A5 _ _) (Df _ _ _ _ (A5 _ _) (by rw[vK,vK];exact GS l d)))
def GS:∀a b:List Rx,cmpL b a=-cmpL a b
 |[],[]=>by unfold cmpL;rfl
 |[],_::_=>by unfold cmpL;rfl
 |_::_,[]=>by unfold cmpL;rfl
 |d::l,e::m=>by
  have h:=jk d e;have j:=GS l m;show(if a4 e d≠0 then a4 e d else cmpL m l)=-(if a4 d e≠0 then a4 d e else cmpL l m);split
  .rw [aj (by omega)];exact h
  .rw [af (by omega)];exact j
end
structure pW(x y z:Int):Prop where
 le:x<=0->y<=0->z<=0
 lt:x<0->y<=0->z<0
 lt':x<=0->y<0->z<0
 eq:x=0->y=0->z=0
def A6(a b c:Int):pW (cw a b) (cw b c) (cw a c):=by
 have s:∀a b:Int,(cw a b=-1/\a<b)\/(cw a b=1/\b<a)\/(cw a b=0/\a=b):=λa b=>by
  unfold cw;split
  .exact .inl ⟨rfl,by omega⟩
  .split
   .exact .inr (.inl ⟨rfl,by omega⟩)
   .exact .inr (.inr ⟨rfl,by omega⟩)
 rcases s a b with d|d|d<;>rcases s b c with e|e|e<;>rcases s a c with h|h|h<;>constructor<;>omega
def zp{x y z A B C:Int}(h:pW x y z)(I:pW A B C):pW (if x≠0 then x else A) (if y≠0 then y else B) (if z≠0 then z else C):=by
 obtain⟨K,j,q,D⟩:=h;obtain⟨E,F,G,H⟩:=I;by_cases w:x=0
 .by_cases k:y=0
  .have L:=D w k;rw[af (by omega),af (by omega),af (by omega)];exact⟨E,F,G,H⟩
  .rw [af (by omega:¬x≠0),aj k];constructor
   .intro d e;have:=q (by omega) (by omega);rw[aj (by omega)];omega
   .intro d e;have:=q (by omega) (by omega);rw[aj (by omega)];omega
   .intro d e;have:=q (by omega) (by omega);rw[aj (by omega)];omega
   .intro d e;omega
 .rw [aj w];by_cases k:y=0
  .rw [af (by omega:¬y≠0)];constructor
   .intro d e;have:=j (by omega) (by omega);rw[aj (by omega)];omega
   .intro d e;have:=j (by omega) (by omega);rw[aj (by omega)];omega
   .intro d e;have:=j (by omega) (by omega);rw[aj (by omega)];omega
   .intro d e;omega
  .rw [aj k];constructor
   .intro d e;have:=j (by omega) (by omega);rw[aj (by omega)];omega
   .intro d e;have:=j (by omega) (by omega);rw[aj (by omega)];omega
   .intro d e;have:=j (by omega) (by omega);rw[aj (by omega)];omega
   .intro d e;omega
mutual
def uI:∀a b c:Rx,pW (a4 a b) (a4 b c) (a4 a c)
 |.mk q lo h l,.mk w y j d,.mk x z k e=>by
  rw[rZ,rZ,rZ];have:=GU l d e;exact zp (A6 _ _ _) (zp (A6 _ _ _) (zp (A6 _ _ _) (by show pW (ef [cmpL l d]) (ef [cmpL d e]) (ef [cmpL l e]);rw[vK,vK,vK];exact this)))
def GU:∀a b c:List Rx,pW (cmpL a b) (cmpL b c) (cmpL a c)
 |[],[],[]=>by unfold cmpL;constructor<;>omega
 |[],[],_::_=>by unfold cmpL;constructor<;>omega
 |[],_::_,[]=>by unfold cmpL;constructor<;>omega
 |_::_,[],[]=>by unfold cmpL;constructor<;>omega
 |_::_,[],_::_=>by have d:∀(x:Rx) (l:List Rx),cmpL (x::l) []=1:=λ_ _=>rfl;have e:∀(x:Rx) (l:List Rx),cmpL [] (x::l)=-1:=λ_ _=>rfl;rw[d,e];constructor<;>omega
 |[],h::m,j::n=>by have e:∀(x:Rx) (l:List Rx),cmpL [] (x::l)=-1:=λ_ _=>rfl;rw[e,e];constructor<;>omega
 |x::l,h::m,[]=>by have d:∀(x:Rx) (l:List Rx),cmpL (x::l) []=1:=λ_ _=>rfl;rw[d,d];constructor<;>omega
 |x::l,h::m,j::n=>zp (uI x h j) (GU l m n)
end
def lf(x:Rx):List Rx->List Rx
 |[]=>[x]
 |d::p=>if a4 x d<0 then d::lf x p else x::d::p
def j7(l:List Rx):List Rx:=(l.foldl (λp d=>lf d p) []).reverse
def jQ(p:Rx):List Rx->List Rx
 |[]=>[]
 |d::l=>if a4 d p==0 then jQ d l else d::jQ d l
def qi:List Rx->List Rx
 |[]=>[]
 |a::l=>a::jQ a l
def A7{a b:Int}(h:cw a b=0):a=b:=by
 unfold cw at h;split at h
 .cases h
 .split at h
  .cases h
  .omega
def M9:∀{l:List Int},ef l=0->∀h∈l,h=0
 |[],_=>λh d=>by cases d
 |a::l,e=>by
  unfold ef at e;split at e
  .rename_i k;exact absurd e k
  .rename_i j;have j:a=0:=by simpa using j
   intro h d;rcases av.1 d with rfl|d
   .exact j
   .exact M9 e h d
def Qx{a b:UInt8}(h:(a.toNat:Int)=b.toNat):a=b:=UInt8.toNat_inj.1 (by omega)
mutual
def cmp_eq:∀a b:Rx,a4 a b=0->a=b
 |.mk z lo x l,.mk A B y w,d=>by rw[rZ]at d;have d:=M9 d;have e:=A7 (d _ (j5 ..));have h:=Qx (A7 (d _ (dS _ (j5 ..))));have j:=Qx (A7 (d _ (dS _ (dS _ (j5 ..)))));have q:=GY l w (d _ (dS _ (dS _ (dS _ (j5 ..)))));simp only[Rx.k,Rx.lo,Rx.U]at e h j;rw[e,h,j,q]
def GY:∀l m:List Rx,cmpL l m=0->l=m
 |[],[],_=>rfl
 |[],_::_,d=>by unfold cmpL at d;cases d
 |_::_,[],d=>by unfold cmpL at d;cases d
 |a::l,b::m,d=>by
  unfold cmpL at d;split at d
  .rename_i h;exact absurd d h
  .rename_i e;rw[cmp_eq a b (by simpa using e),GY l m d]
end
def A'(a:Rx):a4 a a=0:=by have:=jk a a;omega
def qh{a b:Rx}:(a4 a b==0)=true↔a=b:=⟨λd=>cmp_eq a b (eq_of_beq d),λd=>by subst d;rw[A'];rfl⟩
def uK{a b:Rx}:a4 a b=0↔a=b:=⟨cmp_eq a b,λd=>by subst d;exact A' a⟩
def GX{a b:Rx}:(!(a4 a b==0))=true↔a≠b:=by rw[Bool.not_eq_true',<-iN,not_congr qh]
abbrev iP(l:List Rx):Prop:=l.Pairwise λa b=>a4 a b<0
abbrev ka(l:List Rx):Prop:=l.Pairwise λa b=>a4 a b<=0
def iP.nodup{l:List Rx}(h:iP l):l.Nodup:=List.nodup_iff_pairwise_ne.2 (h.imp λ{a b} e d=>by subst d;rw[A']at e;omega)
def iP.FL{l:List Rx}(h:iP l):ka l:=h.imp λ{a b} d=>by omega
def FN{l m:List Rx}(d:ka l)(e:ka m)(h:l.Perm m):l=m:=List.Perm.eq_of_pairwise (λa b _ _ j k=>cmp_eq a b (by have:=jk a b;omega)) d e h
def VF{l m:List Rx}(d:iP l)(e:iP m)(h:∀t,t∈l↔t∈m):l=m:=FN d.FL e.FL ((List.perm_ext_iff_of_nodup d.nodup e.nodup).2 h)
def B5(x:Rx):∀p:List Rx,(lf x p).Perm (x::p)
 |[]=>.refl _
 |d::p=>by
  unfold lf;split
  .exact ((B5 x p).cons d).trans (.swap x d p)
  .exact .refl _
def IF(x:Rx):∀{p:List Rx},p.Pairwise (λa b=>a4 b a<=0)->(lf x p).Pairwise λa b=>a4 b a<=0
 |[],_=>by unfold lf;simp
 |h::p,j=>by
  have e:=List.pairwise_cons.1 j;unfold lf;split
  .rename_i q;refine List.pairwise_cons.2 ⟨λt d=>?_,IF x e.2⟩;rcases av.1 ((B5 x p).mem_iff.1 d)with rfl|d
   .omega
   .exact e.1 t d
  .rename_i q;have k:a4 h x<=0:=by have:=jk x h;omega
   refine List.pairwise_cons.2 ⟨λt d=>?_,j⟩;rcases av.1 d with rfl|d
   .exact k
   .exact (uI t h x).le (e.1 t d) k
def Ej(l:List Rx):(j7 l).Perm l:=by
 have:∀(l p:List Rx),(l.foldl (λp h=>lf h p) p).Perm (l++p):=by
  intro l;induction l with
  |nil=>intro p;exact .refl _
  |cons a l e=>
   intro p;rw[List.foldl_cons];exact(e _).trans (((B5 a p).append_left l).trans List.perm_middle)
 unfold j7;have d:=this l [];rw[dt]at d;exact(List.reverse_perm _).trans d
def Ei(l:List Rx):ka (j7 l):=by
 have:∀(l p:List Rx),p.Pairwise (λa b=>a4 b a<=0)->(l.foldl (λp h=>lf h p) p).Pairwise λa b=>a4 b a<=0:=by
  intro l;induction l with
  |nil=>intro p d;exact d
  |cons a l e=>intro p d;exact e _ (IF a d)
 unfold j7;exact List.pairwise_reverse.2 (this l [] .nil)
def Zh{l m:List Rx}(h:ka m)(d:m.Perm l):m=j7 l:=FN h (Ei l) (d.trans (Ej l).symm)
def Bb{t:Rx}:∀{l:List Rx} {p:Rx},(t=p\/t∈jQ p l)↔(t=p\/t∈l)
 |[],p=>by unfold jQ;simp
 |e::l,p=>by
  unfold jQ;split
  .rename_i d;have h:e=p:=qh.1 d;subst h;rw[Bb,av];constructor
   .rintro (d|d)<;>simp[d]
   .rintro (d|d|d)<;>simp[d]
  .rw [av,av];have:=Bb (t:=t) (l:=l) (p:=e);constructor
   .rintro (d|d)
    .exact .inl d
    .exact .inr (this.1 d)
   .rintro (d|d)
    .exact .inl d
    .exact .inr (this.2 d)
def Ba:∀{l:List Rx} {p:Rx},ka (p::l)->iP (p::jQ p l)
 |[],p,_=>by unfold jQ;simp
 |d::l,p,x=>by
  obtain⟨y,k⟩:=List.pairwise_cons.1 x;unfold jQ;split
  .rename_i j;have e:d=p:=qh.1 j;subst e;exact Ba k
  .rename_i j;have w:a4 p d<0:=by have z:=y d (by simp);have A:=jk d p;have B:a4 d p≠0:=λe=>j (by rw[e];rfl);omega
   have q:=Ba k;refine List.pairwise_cons.2 ⟨λt h=>?_,q⟩;rcases av.1 h with rfl|h
   .exact w
   .exact (uI p d t).lt w (by have:=(List.pairwise_cons.1 q).1 t h;omega)
def T7{l:List Rx}(h:ka l):iP (qi l):=by
 cases l with
 |nil=>exact .nil
 |cons a l=>exact Ba h
def T8{t:Rx}{l:List Rx}:t∈qi l↔t∈l:=by
 cases l with
 |nil=>exact Iff.rfl
 |cons a l=>show t∈a::jQ a l↔_;rw[av,av];exact Bb
def tj(l:List Rx):List Rx:=qi (j7 l)
def O3(l:List Rx):iP (tj l):=T7 (Ei l)
def O4{t:Rx}{l:List Rx}:t∈tj l↔t∈l:=by unfold tj;rw[T8,(Ej l).mem_iff]
def kF(r:Rx):List Rx->List Rx
 |[]=>[r]
 |d::p=>if a4 d r<0 then d::kF r p else if a4 d r=0 then d::p else r::d::p
def Du{t r:Rx}:∀{p:List Rx},t∈kF r p↔t=r\/t∈p
 |[]=>by unfold kF;simp
 |j::p=>by
  unfold kF;split
  .rw [av,Du,av];constructor
   .rintro (d|d|d)<;>simp[d]
   .rintro (d|d|d)<;>simp[d]
  .split
   .rename_i h;have e:=cmp_eq j r h;subst e;simp
   .simp
def NH{r:Rx}:∀{p:List Rx},iP p->iP (kF r p)
 |[],_=>by unfold kF;simp
 |h::p,e=>by
  obtain⟨j,w⟩:=List.pairwise_cons.1 e;unfold kF;split
  .rename_i q;refine List.pairwise_cons.2 ⟨λt d=>?_,NH w⟩;rcases Du.1 d with rfl|d
   .exact q
   .exact j t d
  .split
   .exact e
   .rename_i q x;have k:a4 r h<0:=by have:=jk r h;omega
    refine List.pairwise_cons.2 ⟨λt d=>?_,e⟩;rcases av.1 d with rfl|d
    .exact k
    .exact (uI r h t).lt k (by have:=j t d;omega)
def gM(k:Int):List Rx->List Rx->List Rx
 |out,[]=>out
 |out,t::l=>gM k (if k=3 then out++[t]else kF t out) l
def Nb:∀(l out:List Rx),gM 3 out l=out++l
 |[],out=>by unfold gM;simp
 |t::l,out=>by unfold gM;rw[Nb l,aj rfl];simp
def Nc{k:Int}(e:k≠3):∀(l:List Rx) {out:List Rx},iP out->iP (gM k out l)
 |[],_,d=>d
 |t::l,out,d=>by unfold gM;rw[af e];exact Nc e l (NH d)
def Ng{k:Int}(e:k≠3){t:Rx}:∀(l:List Rx) {out:List Rx},t∈gM k out l↔t∈out\/t∈l
 |[],out=>by unfold gM;simp
 |a::l,out=>by
  unfold gM;rw[af e,Ng e l,Du,av];constructor
  .rintro ((d|d)|d)<;>simp[d]
  .rintro (d|d|d)<;>simp[d]
def XG(k:Int)(l:List Rx):gM k [] l=if k=3 then l else tj l:=by
 split
 .rename_i d;subst d;rw[Nb];rfl
 .rename_i d;exact VF (Nc d l .nil) (O3 l) λt=>by rw[Ng d,O4];simp
def ms(μ:Rx->Nat):List Rx->Nat
 |[]=>0
 |a::l=>μ a+ms μ l
section
variable {μ:Rx->Nat}
def JH:∀l m:List Rx,ms μ (l++m)=ms μ l+ms μ m
 |[],m=>by simp[ms]
 |a::l,m=>by show μ a+ms μ (l++m)=μ a+ms μ l+ms μ m;rw[JH l m];omega
def WT{l m:List Rx}(h:l.Perm m):ms μ l=ms μ m:=by
 induction h with
 |nil=>rfl
 |cons d _ q=>show μ d+_=μ d+_;rw[q]
 |swap d e l=>show μ e+(μ d+_)=μ d+(μ e+_);omega
 |trans _ _ j k=>rw[j,k]
end
mutual
def dx:Rx->Nat|.mk _ _ _ l=>max 1 (x' l)
def x':List Rx->Nat
 |[]=>0
 |a::l=>dx a+x' l
end
def Jw:∀l:List Rx,x' l=ms dx l
 |[]=>rfl
 |a::l=>by unfold x';rw[Jw l];rfl
def oZ(k:Int)(lo U:UInt8)(l:List Rx):dx (.mk k lo U l)=max 1 (ms dx l):=by unfold dx;rw[Jw]
mutual
def nK(N:Nat):Rx->Prop|.mk k _ _ l=>qp N l/\(k=4\/k=5->ms dx l<=N)
def qp(N:Nat):List Rx->Prop
 |[]=>True
 |a::l=>nK N a/\qp N l
end
mutual
def BH{N:Nat}:∀d:Rx,dx d<=N->nK N d
 |.mk j lo h l,e=>by rw[oZ]at e;unfold nK;exact⟨H6 l (by omega),λ_=>by omega⟩
def H6{N:Nat}:∀l:List Rx,ms dx l<=N->qp N l
 |[],_=>by unfold qp;trivial
 |a::l,d=>by have d:dx a+ms dx l<=N:=d;unfold qp;exact⟨BH a (by omega),H6 l (by omega)⟩
end
abbrev Wt:ByteArray:=ByteArray.mk #[0,1,2,2,3,3,3,3,4,4,4,4,4,4,4,4,5,5,5,5,5,5,5,5,5,5,5,5,5,5,5,5,6,6,6,6,6,6,6,6,6,6,6,6,6,6,6,6,6,6,6,6,6,6,6,6,6,6,6,6,6,6,6,6,7,7,7,7,7,7,7,7,7,7,7,7,7,7,7,7,7,7,7,7,7,7,7,7,7,7,7,7,7,7,7,7,7,7,7,7,7,7,7,7,7,7,7,7,7,7,7,7,7,7,7,7,7,7,7,7,7,7,7,7,7,7,7,7,8,8,8,8,8,8,8,8,8,8,8,8,8,8,8,8,8,8,8,8,8,8,8,8,8,8,8,8,8,8,8,8,8,8,8,8,8,8,8,8,8,8,8,8,8,8,8,8,8,8,8,8,8,8,8,8,8,8,8,8,8,8,8,8,8,8,8,8,8,8,8,8,8,8,8,8,8,8,8,8,8,8,8,8,8,8,8,8,8,8,8,8,8,8,8,8,8,8,8,8,8,8,8,8,8,8,8,8,8,8,8,8,8,8,8,8,8,8,8,8,8,8,8,8,8,8,8,8]
namespace j0
noncomputable abbrev t0:=aA aa Tryz.f159 [] []
abbrev P0:Ps:=[(0,.v [.U]),(2,.v [.I])]
noncomputable abbrev S2:=ax t0 [4] P0
noncomputable abbrev t1:=az S2
noncomputable abbrev S1:=ax t1 [3] P0
noncomputable abbrev t2:=az S1
noncomputable abbrev S0:=ax t2 [2] P0
noncomputable abbrev t3:=az S0
def ok:=aB t3 KY [.U]
end j0
namespace Ck
noncomputable abbrev t0:=aA aa Tryz.f204 [] []
def ok:=aB t0 CA [.U]
end Ck
namespace lG
noncomputable abbrev t0:=aA aa Tryz.f213 [(4,ls [0,1,2,3,4,5,6,7,8,9,10,11,12,13,14,15,16]),(6,ls [0,1,2,3,4,5,6,7,8,9,10,11,12,13,14,15,16,17])] []
abbrev P0:Ps:=[(0,.v [.s]),(1,.v [.I]),(2,.v [.I]),(3,.v [.g cd 0 0]),(8,.v [.I])]
noncomputable def L0:=bj t0 [0,1,1] P0
noncomputable abbrev t1:=bh L0
noncomputable def L1:=bj t1 [0,1,1,2,1,2,1] [(0,.v [.s]),(1,.v [.I]),(2,.v [.I]),(3,.v [.g cd 0 0]),(8,.v [.I]),(9,.v [.I])]
noncomputable abbrev t2:=bh L1
noncomputable abbrev S2:=ax t2 [2,2,1] P0
noncomputable abbrev t3:=az S2
def fJ:=bm t3 L1
def bE:=bm t3 L0
def ok:=aB t3 CM [.s,.I,.I,.g cd 0 0]
end lG
namespace Pg
noncomputable abbrev t0:=aA aa Tryz.f231 [(1,ls [0,1,2,3,4,5,6,7,8,9,10])] []
def ok:=aB t0 LS [.s,.I,.I,.r,.g cd 0 0]
end Pg
namespace Pe
noncomputable abbrev t0:=aA aa Tryz.f230 [] []
def ok:=aB t0 LR [.s,.I,.I,.I,.r,.g cd 0 0]
end Pe
namespace zc
noncomputable abbrev t0:=aA aa Tryz.f216 [] []
noncomputable abbrev S5:=ax t0 [7] [(11,.v [.r]),(13,.v [.I])]
noncomputable abbrev t1:=az S5
noncomputable abbrev S4:=ax t1 [1,1,1,1,6] [(0,.v [.s]),(3,.v [.g cd 0 0]),(11,.v [.r]),(12,.v [.I]),(13,.v [.I]),(14,.v [.I])]
noncomputable abbrev t2:=az S4
noncomputable abbrev S3:=ax t2 [6] [(0,.v [.s]),(3,.v [.g cd 0 0]),(10,.v [.I]),(11,.v [.r]),(12,.v [.I]),(13,.v [.I]),(14,.v [.I])]
noncomputable abbrev t3:=az S3
noncomputable abbrev S2:=ax t3 [5] [(0,.v [.s]),(1,.v [.I]),(3,.v [.g cd 0 0]),(10,.v [.I]),(11,.v [.r]),(12,.v [.I]),(13,.v [.I])]
noncomputable abbrev t4:=az S2
noncomputable abbrev S1:=ax t4 [4] [(0,.v [.s]),(1,.v [.I]),(3,.v [.g cd 0 0]),(10,.v [.I]),(11,.v [.r]),(12,.v [.I])]
noncomputable abbrev t5:=az S1
noncomputable abbrev S0:=ax t5 [2] [(0,.v [.s]),(1,.v [.I]),(3,.v [.g cd 0 0]),(10,.v [.I])]
noncomputable abbrev t6:=az S0
def ok:=aB t6 LN [.s,.I,.I,.g cd 0 0]
end zc
namespace i5
noncomputable abbrev t0:=aA aa Tryz.f218 [(5,ls [0,1,2,3,4,5,6,7,8,9,10,11,12,13,14,15,16,17]),(11,ls [0,1,2,3,4,5,6,7,8,9,10,11,12,13,14,15,16,17]),(16,ls [0,1,2,3,4,5,6,7,8,9,10,11,12]),(17,ls [0,1,2,3,4,5,6,7,8,9,10,11,12,13,14,15,16,17]),(22,ls [0,1,2,3,4,5,6,7,8,9,10,11,12]),(23,ls [0,1,2,3,4,5,6,7,8,9,10,11,12,13,14,15,16,17])] []
abbrev P0:Ps:=[(0,.v [.s]),(1,.v [.I]),(2,.v [.I]),(3,.v [.g cd 0 0]),(9,.v [.I]),(10,.v [.I])]
noncomputable def L1:=bj t0 [0,1,1,1,2] P0
noncomputable abbrev t1:=bh L1
noncomputable def L2:=bj t1 [0,4,1,2,1,1,2] P0
noncomputable abbrev t2:=bh L2
noncomputable def L4:=bj t2 [0,1,1,1,1,1,4,2,1,2,1,1,2] [(0,.v [.s]),(1,.v [.I]),(2,.v [.I]),(3,.v [.g cd 0 0]),(9,.v [.I]),(10,.v [.I]),(11,.v [.I])]
noncomputable abbrev t3:=bh L4
noncomputable def L6:=bj t3 [0,1,1,1,6,2,1,2,1,1,2] [(0,.v [.s]),(1,.v [.I]),(2,.v [.I]),(3,.v [.g cd 0 0]),(9,.v [.I]),(10,.v [.I]),(12,.v [.I])]
noncomputable abbrev t4:=bh L6
noncomputable abbrev S7:=ax t4 [2,2,1,1,2] P0
noncomputable abbrev t5:=az S7
def Ac:=bm t5 L6
noncomputable abbrev S5:=ax t5 [5,2,1,2,1,1,2] P0
noncomputable abbrev t6:=az S5
def wS:=bm t6 L4
noncomputable abbrev S3:=ax t6 [1,2,1,2,1,1,2] P0
noncomputable abbrev t7:=az S3
def kU:=bm t7 L2
def fJ:=bm t7 L1
noncomputable abbrev S0:=ax t7 [2] [(0,.v [.s]),(1,.v [.I]),(2,.v [.I]),(3,.v [.g cd 0 0]),(9,.v [.I])]
noncomputable abbrev t8:=az S0
def ok:=aB t8 LU [.s,.I,.I,.g cd 0 0]
end i5
namespace i9
noncomputable abbrev t0:=aA aa Tryz.f220 [(1,ls [0,1,2,3,4,5,6,7,8,9,10,11,12,13,14,15]),(3,ls [0,1,2,3,4,5,6,7,8,9,10,11,12,13,14,15]),(5,ls [0,1,2,3,4,5,6,7,8,9,10,11,12,13,14,15,16]),(8,ls [0,1,2,3,4,5,6,7,8,9,10,11,12,13,14,15]),(10,ls [0,1,2,3,4,5,6,7,8,9,10,11,12,13,14,15]),(13,ls [0,1,2,3,4,5,6,7,8,9,10,11,12,13,14,15]),(15,ls [0,1,2,3,4,5,6,7,8,9,10,11,12,13,14,15,16]),(18,ls [0,1,2,3,4,5,6,7,8,9,10,11,12,13,14,15]),(21,ls [0,1,2,3,4,5,6,7,8,9,10,11,12,13,14,15])] []
abbrev P0:Ps:=[(0,.v [.s]),(1,.v [.I]),(4,.v [.g cd 0 0]),(12,.v [.I]),(13,.v [.I])]
noncomputable def L0:=bj t0 [0,2,3] P0
noncomputable abbrev t1:=bh L0
noncomputable def L1:=bj t1 [0,2,4] P0
noncomputable abbrev t2:=bh L1
noncomputable def L4:=bj t2 [0,2,9] P0
noncomputable abbrev t3:=bh L4
noncomputable def L5:=bj t3 [0,6,9] P0
noncomputable abbrev t4:=bh L5
noncomputable def L6:=bj t4 [0,2,1,4,9] P0
noncomputable abbrev t5:=bh L6
noncomputable abbrev S8:=ax t5 [5,4,9] P0
noncomputable abbrev t6:=az S8
noncomputable abbrev S7:=ax t6 [2,4,9] P0
noncomputable abbrev t7:=az S7
def Ac:=bm t7 L6
def Rs:=bm t7 L5
def wS:=bm t7 L4
noncomputable abbrev S3:=ax t7 [8] P0
noncomputable abbrev t8:=az S3
noncomputable abbrev S2:=ax t8 [5] P0
noncomputable abbrev t9:=az S2
def fJ:=bm t9 L1
def bE:=bm t9 L0
def ok:=aB t9 LV [.s,.I,.I,.I,.g cd 0 0]
end i9
namespace mg
noncomputable abbrev t0:=aA aa Tryz.f203 [(17,ls [0,1,2,3,4,5,6,7,8,9,10,11,12,13,14,15,16])] []
noncomputable def L0:=bj t0 [0,1,2] [(0,.v [.s]),(1,.v [.I]),(2,.v [.I]),(3,.v [.I]),(4,.v [.g cd 0 0]),(10,.v [.b]),(11,.v [.b])]
noncomputable abbrev t1:=bh L0
abbrev P0:Ps:=[(0,.v [.s]),(1,.v [.I]),(2,.v [.I]),(3,.v [.I]),(4,.v [.g cd 0 0]),(10,.v [.b]),(11,.v [.b]),(16,.v [.I])]
noncomputable abbrev S9:=ax t1 [1,1,13,3,2] P0
noncomputable abbrev t2:=az S9
noncomputable abbrev wZ:=ax t2 [15,3,2] P0
noncomputable abbrev t3:=az wZ
noncomputable abbrev S8:=ax t3 [12,3,2] [(0,.v [.s]),(1,.v [.I]),(2,.v [.I]),(3,.v [.I]),(4,.v [.g cd 0 0]),(11,.v [.b]),(16,.v [.I]),(18,.v [.I]),(19,.v [.I]),(20,.v [.I])]
noncomputable abbrev t4:=az S8
noncomputable abbrev S7:=ax t4 [11,3,2] [(0,.v [.s]),(1,.v [.I]),(2,.v [.I]),(3,.v [.I]),(4,.v [.g cd 0 0]),(11,.v [.b]),(12,.v [.I]),(16,.v [.I]),(18,.v [.I]),(19,.v [.I])]
noncomputable abbrev t5:=az S7
noncomputable abbrev S6:=ax t5 [8,3,2] [(0,.v [.s]),(1,.v [.I]),(2,.v [.I]),(3,.v [.I]),(4,.v [.g cd 0 0]),(12,.v [.I]),(13,.v [.I])]
noncomputable abbrev t6:=az S6
abbrev P1:Ps:=[(0,.v [.s]),(1,.v [.I]),(2,.v [.I]),(3,.v [.I]),(4,.v [.g cd 0 0]),(10,.v [.b]),(11,.v [.b]),(12,.v [.I]),(13,.v [.I])]
noncomputable abbrev S5:=ax t6 [7,3,2] P1
noncomputable abbrev t7:=az S5
noncomputable abbrev S4:=ax t7 [6,3,2] [(0,.v [.s]),(1,.v [.I]),(2,.v [.I]),(3,.v [.I]),(4,.v [.g cd 0 0]),(10,.v [.b]),(11,.v [.b]),(12,.v [.I]),(13,.v [.I]),(14,.v [.I])]
noncomputable abbrev t8:=az S4
noncomputable abbrev S3:=ax t8 [2,1,1,1,5,3,2] P1
noncomputable abbrev t9:=az S3
abbrev P2:Ps:=[(0,.v [.s]),(1,.v [.I]),(2,.v [.I]),(3,.v [.I]),(4,.v [.g cd 0 0]),(10,.v [.b]),(11,.v [.b]),(12,.v [.I])]
noncomputable abbrev S2:=ax t9 [4,3,2] P2
noncomputable abbrev t10:=az S2
noncomputable abbrev S1:=ax t10 [1,3,2] P2
noncomputable abbrev t11:=az S1
def bE:=bm t11 L0
def ok:=aB t11 WZ [.s,.I,.I,.I,.g cd 0 0]
end mg
namespace Pc
noncomputable abbrev t0:=aA aa Tryz.f185 [] []
def ok:=aB t0 LL [.s,.g cd 0 0]
end Pc
def g0(x:I):List I->List I
 |[]=>[x]
 |d::p=>if a4 x.rx d.rx<0 then d::g0 x p else x::d::p
def fT(l:List I):List I:=(l.foldl (λp d=>g0 d p) []).reverse
def B4(x:I):∀p,(g0 x p).length=p.length+1
 |[]=>rfl
 |d::p=>by
  unfold g0;split
  .simp [B4 x p]
  .simp
def Zg(l:List I)(x:I):fT (l++[x])=(g0 x (fT l).reverse).reverse:=by unfold fT;rw[List.foldl_append,List.reverse_reverse];rfl
def ID{x t:I}:∀{p:List I},t∈g0 x p↔t=x\/t∈p
 |[]=>by unfold g0;simp
 |e::p=>by
  unfold g0;split
  .rw [av,ID,av];constructor
   .rintro (d|d|d)<;>simp[d]
   .rintro (d|d|d)<;>simp[d]
  .simp
def Ze{t:I}{l:List I}:t∈fT l↔t∈l:=by
 have:∀(l p:List I),t∈l.foldl (λp h=>g0 h p) p↔t∈l\/t∈p:=by
  intro l;induction l with
  |nil=>intro p;simp
  |cons a l e=>
   intro p;rw[List.foldl_cons,e,ID,av];constructor
   .rintro (d|d|d)<;>simp[d]
   .rintro ((d|d)|d)<;>simp[d]
 unfold fT;rw[List.mem_reverse,this];simp
def Pn(l:List I):(fT l).length=l.length:=by
 have:∀(l p:List I),(l.foldl (λp e=>g0 e p) p).length=l.length+p.length:=by
  intro l;induction l with
  |nil=>intro p;simp
  |cons a l d=>
   intro p;rw[List.foldl_cons,d,B4,db];omega
 unfold fT;rw[vR,this];rfl
def IG(x:I):∀p:List I,(g0 x p).map I.rx=lf x.rx (p.map I.rx)
 |[]=>rfl
 |d::p=>by
  unfold g0;rw[lq];unfold lf;split
  .rw [lq,IG x p]
  .rfl
def Zi(l:List I):(fT l).map I.rx=j7 (l.map I.rx):=by
 have:∀(l p:List I),(l.foldl (λp d=>g0 d p) p).map I.rx=(l.map I.rx).foldl (λp d=>lf d p) (p.map I.rx):=by
  intro l;induction l with
  |nil=>intro p;rfl
  |cons a l e=>
   intro p;rw[List.foldl_cons,e,IG];rfl
 unfold fT j7;rw[List.map_reverse,this];rfl
def IE(x:I):∀p:List I,(g0 x p).Perm (x::p)
 |[]=>.refl _
 |d::p=>by
  unfold g0;split
  .exact ((IE x p).cons d).trans (.swap x d p)
  .exact .refl _
def Zf(l:List I):(fT l).Perm l:=by
 have:∀(l p:List I),(l.foldl (λp h=>g0 h p) p).Perm (l++p):=by
  intro l;induction l with
  |nil=>intro p;exact .refl _
  |cons a l e=>
   intro p;rw[List.foldl_cons];exact(e _).trans (((IE a p).append_left l).trans List.perm_middle)
 unfold fT;have d:=this l [];rw[dt]at d;exact(List.reverse_perm _).trans d
def Zd(l:List I):ka ((fT l).map I.rx):=by rw[Zi];exact Ei _
def Ey{l m:List I}(h:l.Perm m):I.aY l=I.aY m:=by
 induction h with
 |nil=>rfl
 |cons d _ q=>show d.sz+_=d.sz+_;rw[q]
 |swap d e l=>show e.sz+(d.sz+_)=d.sz+(e.sz+_);omega
 |trans _ _ j k=>rw[j,k]
def ZR{α:Type}(A B:List α)(y x:α)(j:Nat)(d:j=A.length+1):((A++y::x::B).set j y).set (j - 1) x=A++x::y::B:=by subst d;rw[List.set_append_right _ _ (by omega),Nat.add_sub_cancel,List.set_append_right _ _ (by omega)];simp
def Tm(s:Sl)(l:List I)(w:J)(hl:I.aY l<=1000000)(ho:aK w aW 4 s (l.flatMap I.c))(pl:I.Ps w l)(hd:∀e∈aw s,e∉I.a9 l)(A X Z:List I)(q:l=A++X++Z)(b:Nat)(hb:b=A.length+X.length):
  ak aa CM #[s.v,.i (A.length:Int),.i (b:Int),.func (.func cd) #[] #[]] w λr E=>(r=ag (.tuple #[])/\aK E aW 4 s ((A++fT X++Z).flatMap I.c))/\Fr (·∈aw s) w E:=by
 have ll:=I.fq l;have lX:A.length+X.length+Z.length=l.length:=by rw[q];simp[Nat.add_assoc]
 have N:LH (·∈aw s) w w [.row aW 4 s (l.flatMap I.c)] [.trees l]:=x4 _ ho (by intro ap q;simp only[av,aR,aT]at q;subst q;exact⟨pl,λe M hm=>hd e M (aO.1 hm)⟩)
 have kt:∀t∈l,t.sz<=1000000:=λt x=>a8 (I.eg x) hl;have mA:∀t∈X,t∈l:=λt x=>by rw[q];simp[x]
 let H:aH:=λr E=>(r=ag (.tuple #[])/\aK E aW 4 s ((A++fT X++Z).flatMap I.c))/\Fr (·∈aw s) w E
 have outer:∀(d i:Nat) (F:J),A.length+i+d=b->LH (·∈aw s) w F [.row aW 4 s ((A++fT (X.take i)++(X.drop i++Z)).flatMap I.c)] [.trees l]->
   lG.L0 s (A.length:Int) (b:Int) ((A.length+i:Nat):Int) F H:=by
  intro d;induction d with
  |zero=>
   intro i F hi B;refine lG.bE _ _ _ _ _ _ (a1 (aV (by omega)) ⟨⟨rfl,?_⟩,B.fr⟩);have:=B.get 0;rw[eZ (by omega),dC (by omega),List.nil_append]at this;exact this
  |succ d am=>
   intro i F hi B;refine lG.bE _ _ _ _ _ _ (a3 (aP (by omega)) ?_);have W:X[i]? =some (X[i]'(by omega)):=a6 (by omega);have ab:=dy (l:=X) (i:=i) (by omega);generalize X[i]'(by omega)=e at W ab;have hS:fT (X.take (i+1))=(g0 e (fT (X.take i)).reverse).reverse:=by rw[ej,W,Option.toList_some,Zg]
   have M:e∈l:=mA e (aE W);have next:∀(j:J),LH (·∈aw s) w j [.row aW 4 s ((A++fT (X.take (i+1))++(X.drop (i+1)++Z)).flatMap I.c)] [.trees l]->lG.S2 s (A.length:Int) (b:Int) ((A.length+i:Nat):Int) j H:=by intro j z;show lG.L0 _ _ _ _ _ _;rw[bd _ (by omega)];exact am (i+1) j (by omega) z
   have inner:∀(p:Nat) (P Q:List I) (j:J),P.length=p->(g0 e P.reverse).reverse++Q=fT (X.take (i+1))->(∀t∈P,t∈l)->LH (·∈aw s) w j [.row aW 4 s ((A++P++e::(Q++(X.drop (i+1)++Z))).flatMap I.c)] [.trees l]->
     lG.L1 s (A.length:Int) (b:Int) ((A.length+i:Nat):Int) ((A.length+p:Nat):Int) j H:=by
    intro p;induction p with
    |zero=>
     intro P Q j C D U z;have:P=[]:=List.length_eq_zero_iff.1 C;subst this;refine lG.fJ _ _ _ _ _ _ _ (z.dr λG k=>a1 (aV (by omega)) (next G ?_));have al:e::Q=fT (X.take (i+1)):=D;rw[<-al];simpa using k
    |succ p an=>
     intro P Q j C D U z;obtain⟨h,y,rfl⟩:∃h y,P=h++[y]:=⟨P.dropLast,P.getLast (λae=>by rw[ae]at C;cases C),(List.dropLast_concat_getLast _).symm⟩;have ac:h.length=p:=by simpa using C
     have hy:y∈l:=U y (by simp);have ad:A++(h++[y])++e::(Q++(X.drop (i+1)++Z))=(A++h)++y::e::(Q++(X.drop (i+1)++Z)):=by simp
     rw[ad]at z;have Y:(A++h).length=A.length+p:=by simp[ac]
     have gy:((A++h)++y::e::(Q++(X.drop (i+1)++Z)))[A.length+p]? =some y:=by rw[<-Y,List.getElem?_append_right (bg _)];simp
     have T:((A++h)++y::e::(Q++(X.drop (i+1)++Z)))[A.length+(p+1)]? =some e:=by rw[<-Nat.add_assoc,<-Y,List.getElem?_append_right (Nat.le_succ _)];simp
     have hlen:((A++h)++y::e::(Q++(X.drop (i+1)++Z))).length<=1000000:=by have h1:=congrArg List.length D;rw[Pn,a7,vR,B4,vR]at h1;simp only[a7,db,eA,List.length_drop,List.length_nil]at h1 ⊢;omega
     have ai:=(bO.1 T).1;have K:ao .i64 (((A.length+(p+1):Nat):Int) - 1)=((A.length+p:Nat):Int):=by rw[B0 (by omega) (by omega)];rfl
     have L:g0 e (h++[y]).reverse=if a4 e.rx y.rx<0 then y::g0 e h.reverse else e::y::h.reverse:=by rw[List.reverse_append];rfl
     refine lG.fJ _ _ _ _ _ _ _ (z.dr λG k=>a3 (aP (by omega)) ?_);refine k.el 0 (A.length+(p+1)) rfl T (k.el 0 (A.length+p) K gy ?_);refine k.call (xj e y G (kt e M) ((show I.Ps G l from k.getD 0).mem M) ((show I.Ps G l from k.getD 0).mem hy)) ?_;rintro _ w4 rfl H4;refine⟨_,rfl,aG (λV=>H4.dr λw5 S=>?_) (λV=>next w4 ?_)⟩
     .refine S.el 0 (A.length+p) K gy (S.el 0 (A.length+(p+1)) rfl T (S.uR 0 (A.length+(p+1)) (t:=y) rfl ai λw6 H6=>?_));refine H6.uR 0 (A.length+p) (t:=e) (O:=((A++h)++y::e::(Q++(X.drop (i+1)++Z))).set (A.length+(p+1)) y) K (by rw[i3];omega) λw7 H7=>?_;rw[K];rw[aj V]at L;refine an h (y::Q) w7 ac ?_ (λt x=>U t (by simp[x])) ?_
      .rw [<-D,L];simp
      .have e3:=ZR (A++h) (Q++(X.drop (i+1)++Z)) y e (A.length+(p+1)) (by rw[Y];rfl);rw[show A.length+(p+1) - 1=A.length+p by omega]at e3;have H8:LH (·∈aw s) w w7 [.row aW 4 s (((((A++h)++y::e::(Q++(X.drop (i+1)++Z))).set (A.length+(p+1)) y).set (A.length+p) e).flatMap I.c)] [.trees l]:=H7;rw[e3]at H8;exact H8
     .rw [af V]at L;rw[<-D,L];simpa using H4
   have ah:(fT (X.take i)).length=i:=by rw[Pn,eA];omega
   refine inner i (fT (X.take i)) [] F ah ?_ (λt x=>mA t (List.mem_of_mem_take (Ze.1 x))) ?_
   .rw [dt,hS]
   .rw [ab]at B;simpa using B
 refine lG.ok _ _ _ w _ ?_;show lG.L0 _ _ _ _ _ H;rw[bd _ (by omega)];cases X with
 |nil=>
  refine lG.bE _ _ _ _ _ _ (a1 (aV (by simp at hb;omega)) ⟨⟨rfl,?_⟩,Fr.refl _ _⟩);have:=N.get 0;rw[q]at this;exact this
 |cons a X=>
  refine outer (b - (A.length+1)) 1 w (by simp at hb;omega) ?_;rw[show l.flatMap I.c=(A++fT ((a::X).take 1)++((a::X).drop 1++Z)).flatMap I.c from by rw[q];simp[fT,g0]]at N;exact N
def Z7{t:ByteArray}{m:Nat}{K:UInt8->Prop}(h:Nat.beq t.size 256=true)(e:m<256)(d:∀b,K b):∃b:UInt8,t[m]? =some b/\K b:=by rw[ep]at h;exact⟨t[m]'(by omega),getElem?_pos t m (by omega),d _⟩
def SK(x:Int)(w:J):ak aa CA #[.u x] w λr d=>(∃t:Int,r=ag (.i t))/\ah w d:=by
 have k:∀(x n:Int),j0.S2 x n w λr d=>(∃t:Int,r=ag (.i t))/\ah w d:=by
  intro x n;have e:0<=ao .u8 x/\ao .u8 x<256:=by rw[IntKind.wrap_u8];omega
  obtain⟨m,y⟩:=Int.eq_ofNat_of_zero_le e.1;refine⟨e.1,?_⟩;have q:m<256:=by omega
  refine Z7 (by kernel_rfl) (by rw[y];exact q) λb=>⟨⟨_,rfl⟩,Fr.refl _ _⟩
 have j:∀(x n:Int),j0.S1 x n w λr d=>(∃t:Int,r=ag (.i t))/\ah w d:=λx n=>aG (λ_=>k _ _) (λ_=>k _ _);have h:∀(x n:Int),j0.S0 x n w λr d=>(∃t:Int,r=ag (.i t))/\ah w d:=λx n=>aG (λ_=>j _ _) (λ_=>j _ _);refine Ck.ok _ w _ ((j0.ok _ w _ (aG (λ_=>h _ _) (λ_=>h _ _))).mono ?_);rintro _ z ⟨⟨t,rfl⟩,f⟩;exact⟨t,rfl,⟨t,rfl⟩,f⟩
def rG(n:Nat):Prop:=∀(s:Sl) (l:List I) (w:J),l.length<=n->I.aY l<=1000000->aK w aW 4 s (l.flatMap I.c)->I.Ps w l->(∀e∈aw s,e∉I.a9 l)->
 ak aa LL #[s.v,.func (.func cd) #[] #[]] w λr d=>(∃m:List I,r=ag (.tuple #[])/\m.Perm l/\ka (m.map I.rx)/\aK d aW 4 s (m.flatMap I.c))/\Fr (·∈aw s) w d
def hF(p:I):List I->List I
 |[]=>[]
 |d::l=>if a4 d.rx p.rx==0 then hF d l else d::hF d l
def kp:List I->List I
 |[]=>[]
 |a::l=>a::hF a l
def G4(l:List I)(i:Nat):(l.flatMap I.c).take (i *4)=(l.take i).flatMap I.c:=by
 have d:=I.eW (l.take i);by_cases e:i<=l.length
 .conv=>lhs;rw[<-lu i l,cy]
  rw[List.take_append_of_le_length (by rw[d,eA];omega),eZ (by rw[d,eA];omega)]
 .rw [eZ (by rw[I.eW];omega),eZ (l:=l) (by omega)]
def Hc(l:List I)(i:Nat)(h:i<=l.length):(l.flatMap I.c).drop (i *4)=(l.drop i).flatMap I.c:=by
 have d:=I.eW (l.take i);rw[eA,Nat.min_eq_left h]at d;conv=>lhs;rw[<-lu i l,cy]
 rw[List.drop_append_of_le_length (by omega),dC (by omega),List.nil_append]
def Uf{w:J}{s:Sl}{l m:List I}(h:aK w aW 4 s (l.flatMap I.c))(i:Nat)(U:i<=l.length)(D:l.take i=m){K:J->Prop}{R:aH}{w0:J}(C:Fr (·∈aw s) w0 w)(B:∀r j,um s m r w0 j->Fr (·∈aw s) w0 j->R r j):
  (0:Int)<=(i:Int)/\(i:Int)<=((s.n:Nat):Int)/\∃(q:J),Sem.run aa (Builtin.clear_ #[ir] j' #[.slice (if s.c=(aZ (i:Int))then s.a else s.a.map (·.add ((aZ (i:Int)) *4))) (s.n - (aZ (i:Int))) (s.c - (aZ (i:Int)))]) w=.ok (.tuple #[]) q/\
   (0:Int)<=(i:Int)/\(i:Int)<=((s.c:Nat):Int)/\R (ag (.slice (if s.c=0 then s.a else s.a.map (·.add (0 *4))) ((aZ (i:Int)) - 0) (s.c - 0))) q:=by
 have H:=I.cm h.bc;have G:=h.cap;obtain⟨E,y,z,A⟩:=G5 (ty:=j') qk Rb rfl h i (by omega);refine⟨by omega,by omega,E,y,by omega,by omega,B _ _ ⟨⟨if s.c=0 then s.a else s.a.map (·.add (0 *4)),i - 0,s.c - 0⟩,rfl,?_,λF e=>?_⟩ (C.trans A λF _ x=>x)⟩
 .rw [<-D,<-G4];exact z
 .simp only[aw]at e ⊢;split at e
  .rename_i p d;split at d
   .rw [d];exact e
   .cases k:s.a with
    |none=>rw[k]at d;cases d
    |some L=>
     rw[k]at d;simp only[Option.map_some,eH]at d;subst d;rw[iz]at e;exact e
  .cases e
section
variable {M:Nat->Prop} {w0 w:J} {L D:List En}
def _root_.Go.W.LH.Bo(H:LH M w0 w L D)(i k b:Nat){s:Sl}{O:List I}{t:I}{X:Int}{K:Int->Int->Int->Sl->Prop}(x:X=(k:Int))(e:O[b+k]? =some t)(h:K t.k t.lo.toNat t.U.toNat t.s)(U:L[i]? =some (.row aW 4 s (O.flatMap I.c)):=by rfl):
  (0:Int)<=X/\X<((s.n - b:Nat):Int)/\dM (if s.c=b then s.a else s.a.map (·.add (b *4))) λp=>∃a b c:Int,∃d:Sl,w.cell? ((p.add (aZ X *4)).add 0)=some (.i a)/\w.cell? ((p.add (aZ X *4)).add 1)=some (.int .u8 b)/\w.cell? ((p.add (aZ X *4)).add 2)=some (.int .u8 c)/\w.cell? ((p.add (aZ X *4)).add 3)=some d.v/\K a b c d:=by subst x;have j:aK w aW 4 s (O.flatMap I.c):=H.get i U;have z:=I.cm j.bc;have y:=(bO.1 e).1;have q:=j.bc.sub b s.n (by omega) (bg _);rw[eZ (by rw[I.eW];omega),Hc _ _ (by omega)]at q;refine⟨by omega,by omega,I.de (s:=od 4 s b s.n) q (i:=k) (t:=t) (by rw[jv];exact e) λp A c=>⟨_,_,_,_,c.c0,c.c1,c.c2,c.c3,h⟩⟩
end
def SB(s:Sl)(l:List I)(w:J)(hl:I.aY l<=1000000)(ho:aK w aW 4 s (l.flatMap I.c))(pl:I.Ps w l)(hd:∀x∈aw s,x∉I.a9 l):
  ak aa LF #[s.v,.func (.func qA) #[] #[]] w λr F=>um s (kp l) r w F/\Fr (·∈aw s) w F:=by
 have nr:=I.cm ho.bc;have ll:=I.fq l;have kt:∀t∈l,t.sz<=1000000:=λt H=>a8 (I.eg H) hl;have ad:LH (·∈aw s) w w [.row aW 4 s (l.flatMap I.c)] [.trees l]:=x4 _ ho (by intro ae he;simp only[av,aR,aT]at he;subst he;exact⟨pl,λx L Q=>hd x L (aO.1 Q)⟩)
 let T:aH:=λr F=>um s (kp l) r w F/\Fr (·∈aw s) w F
 have am:∀(d k b m:Nat) (cur:List I) (p:I) (A:J),b+m+d=l.length->1<=m->1<=b->k<b+m->cur.length=l.length->cur.drop (b+m - 1)=l.drop (b+m - 1)->l[b+m - 1]? =some p->cur.take k++hF p (l.drop (b+m))=kp l->
   LH (·∈aw s) w A [.row aW 4 s (cur.flatMap I.c)] [.trees l]->
   mf.L2 s (k:Int) ⟨(if s.c=b then s.a else s.a.map (·.add (b *4))),(s.n - b),(s.c - b)⟩ (m:Int) A T:=by
  intro d;induction d with
  |zero=>
   intro k b m cur p A hb Q ag Z W P C e y;refine mf.kU _ _ _ _ _ _ (a1 (aV ?_) ?_)
   .show ¬(m:Int)<((s.n - b:Nat):Int);omega
   rw[dC (by omega)]at e;have ab:cur.take k=kp l:=by rw[<-e];simp[hF]
   exact Uf (K:=λ_=>True) (y.get 0) k (by omega) ab y.fr λr F B G=>⟨B,G⟩
  |succ d ac=>
   intro k b m cur p A hb Q ag Z W P C e y;have h:l[b+m]? =some (l[b+m]'(by omega)):=a6 (by omega);have z:=dy (l:=l) (i:=b+m) (by omega);generalize l[b+m]'(by omega)=x at h z;have ai:cur[b+m]? =some x:=by
    have:(cur.drop (b+m - 1))[1]? =(l.drop (b+m - 1))[1]?:=by rw[P]
    rw[jv,jv,show b+m - 1+1=b+m by omega]at this;rw[this];exact h
   have al:cur[b+(m - 1)]? =some p:=by
    have:(cur.drop (b+m - 1))[0]? =(l.drop (b+m - 1))[0]?:=by rw[P]
    rw[jv,jv,Nat.add_zero]at this;rw[show b+(m - 1)=b+m - 1 by omega,this];exact C
   have ah:cur.drop (b+m)=l.drop (b+m):=by
    have:(cur.drop (b+m - 1)).drop 1=(l.drop (b+m - 1)).drop 1:=by rw[P]
    rw[o7,o7,show b+m - 1+1=b+m by omega]at this;exact this
   have N:=aE h;have mp:=aE C;have U:ao .i64 ((m:Int) - 1)=((m - 1:Nat):Int):=B0 Q (by omega);rw[z]at e;have V:hF p (x::l.drop (b+m+1))=if a4 x.rx p.rx==0 then hF x (l.drop (b+m+1))else x::hF x (l.drop (b+m+1)):=rfl;rw[V]at e;have next:∀(M:Nat) (E:List I) (q:J),M<b+(m+1)->E.length=l.length->E.drop (b+m)=l.drop (b+m)->E.take M++hF x (l.drop (b+m+1))=kp l->LH (·∈aw s) w q [.row aW 4 s (E.flatMap I.c)] [.trees l]->
     mf.S3 s (M:Int) ⟨(if s.c=b then s.a else s.a.map (·.add (b *4))),(s.n - b),(s.c - b)⟩ (m:Int) q T:=by intro M E q B G h3 h4 j;show mf.L2 _ _ _ _ _ _;rw[bd _ (by omega)];exact ac M b (m+1) E x q (by omega) (by omega) ag B G (by rw[show b+(m+1) - 1=b+m by omega];exact h3) (by rw[show b+(m+1) - 1=b+m by omega];exact h) (by rw[show b+(m+1)=b+m+1 by omega];exact h4) j
   refine mf.kU _ _ _ _ _ _ (a3 (aP ?_) (y.dr λq j=>?_))
   .show (m:Int)<((s.n - b:Nat):Int);omega
   refine j.Bo 0 m b rfl ai (j.Bo 0 (m - 1) b U al ?_);refine j.call (uC x p q (kt x N) ((show I.Ps q l from j.getD 0).mem N) ((show I.Ps q l from j.getD 0).mem mp)) ?_;rintro _ S rfl D;refine⟨_,rfl,dN (λY=>?_) (λH=>?_)⟩
   .refine D.Bo 0 m b rfl ai (D.uR 0 k (t:=x) (O:=cur) rfl (by omega) λw4 H4=>?_);rw[af (by rw[Y];simp)]at e;rw[bd _ (by omega)];refine next (k+1) (cur.set k x) w4 (by omega) (by simpa using W) ?_ ?_ H4
    .rw [List.drop_set_of_lt (by omega)];exact ah
    .rw [P5 (by omega),cp];exact e
   .rw [aj H]at e;exact next k cur S (by omega) W ah e D
 have loop:∀(d k:Nat) (p:I) (A:J),k+d=l.length->1<=k->l[k - 1]? =some p->l.take k++hF p (l.drop k)=kp l->LH (·∈aw s) w A [.row aW 4 s (l.flatMap I.c)] [.trees l]->
   mf.L0 s (k:Int) A T:=by
  intro d;induction d with
  |zero=>
   intro k p A Z B C e y;refine mf.bE _ _ _ _ (a1 (aV (by omega)) ⟨⟨s,rfl,?_,λx L=>L⟩,y.fr⟩);rw[dC (by omega),eZ (by omega)]at e;have ab:l=kp l:=by rw[<-e];simp[hF]
   rw[<-ab];exact y.get 0
  |succ d ac=>
   intro k p A Z B C e y;have h:l[k]? =some (l[k]'(by omega)):=a6 (by omega);have z:=dy (l:=l) (i:=k) (by omega);generalize l[k]'(by omega)=x at h z;have N:=aE h;have mp:=aE C;have U:ao .i64 ((k:Int) - 1)=((k - 1:Nat):Int):=B0 B (by omega);rw[z]at e;have V:hF p (x::l.drop (k+1))=if a4 x.rx p.rx==0 then hF x (l.drop (k+1))else x::hF x (l.drop (k+1)):=rfl;rw[V]at e;refine mf.bE _ _ _ _ (a3 (aP (by omega)) (y.dr λq j=>?_));refine j.el 0 k rfl h (j.el 0 (k - 1) U C ?_);refine j.call (uC x p q (kt x N) ((show I.Ps q l from j.getD 0).mem N) ((show I.Ps q l from j.getD 0).mem mp)) ?_;rintro _ S rfl D;refine⟨_,rfl,bD (λH=>⟨by omega,by omega,?_⟩) (λY=>?_)⟩
   .rw [aj H]at e;show mf.L2 _ _ _ _ _ _;exact am d k k 1 l x S (by omega) (by omega) B (by omega) rfl rfl (by rw[Nat.add_sub_cancel];exact h) e D
   .rw [af (by rw[Y];simp)]at e;rw[bd _ (by omega)];refine ac (k+1) x S (by omega) (by omega) (by rw[Nat.add_sub_cancel];exact h) ?_ D;rw[ej,h,cp];exact e
 refine mf.ok _ w _ (aG (λG=>⟨⟨s,rfl,?_,λx L=>L⟩,ad.fr⟩) (λG=>?_))
 .have ae:kp l=l:=by
   cases l with
   |nil=>rfl
   |cons a l=>
    cases l with
    |nil=>rfl
    |cons b l=>simp at nr;omega
  rw[ae];exact ho
 .have h:l[0]? =some (l[0]'(by omega)):=a6 (by omega);have z:=dy (l:=l) (i:=0) (by omega);generalize l[0]'(by omega)=x at h z;refine loop (l.length - 1) 1 x w (by omega) (by omega) h ?_ ad;rw[List.drop_zero]at z;rw[z];rfl
def gK(k:Int)(l:List Rx)(u:Rx):List Rx:=(l.flatMap λc=>if c.k=k then c.l else[c]).filter λt=>!(a4 t u==0)
def su(k:Int)(u:Rx):List Rx->Rx
 |[]=>u
 |[a]=>a
 |l=>.mk k 0 0 l
def gC(k:Int)(l:List Rx)(u z:Rx):Rx:=if(gK k l u).any (λt=>a4 t z==0)then z else su k u (if k=3 then gK k l u else qi (j7 (gK k l u)))
def sS(k:Int)(l:List Rx):Nat:=(l.flatMap λc=>if c.k=k then c.l else[c]).length
def mO:Rx:=.mk 1 0 0 []
def eD:Rx:=.mk 6 0 0 [fh]
def kK(lo U:UInt8)(l:List Rx):Rx:=match l with
 |[]=>fh
 |c::d=>if c.k=0\/c.k=1 then mO else if c.k=7\/a4 c eD=0 then c else .mk 7 lo U (c::d)
def o2(lo U:UInt8)(l:List Rx):Rx:=match l with
 |[]=>fh
 |c::e=>if c.k=6 then(match c.l with |[]=>fh|d::_=>d)else .mk 6 lo U (c::e)
def hd:Rx->Rx
 |.mk d lo e l=>if d=3 then gC 3 l mO fh else if d=4 then gC 4 l fh eD else if d=5 then gC 5 l eD fh else if d=6 then o2 lo e l else if d=7 then kK lo e l else .mk d lo e l
def jU:Rx->Bool
 |.mk d _ _ l=>aq (0<=d)&&aq (d<8)&&(match l with
  |[]=>d !=6&&d !=7
  |c::_=>!(d==6&&c.k==6&&c.l.isEmpty))
def kH(t:I):t.rx.k=t.k:=by rw[I.e0];rfl
def v9(t:I):t.rx.l=t.l.map I.rx:=by rw[I.e0,<-I.fk];rfl
def ve(x u:I):(ga x u).map I.rx=gK x.k (I.au x.l) u.rx:=by
 unfold ga gK;rw[I.fk];generalize x.l=l;induction l with
 |nil=>rfl
 |cons a l e=>
  rw[lq,b',b',List.filter_append,List.filter_append,List.map_append,e];congr 1;have d:(eP x a).map I.rx=if a.rx.k=x.k then a.rx.l else[a.rx]:=by unfold eP;rw[kH,v9];split<;>simp
  rw[<-d,List.filter_map];rfl
def Bd:∀(l:List I) (p:I),(hF p l).map I.rx=jQ p.rx (l.map I.rx)
 |[],p=>rfl
 |d::l,p=>by
  unfold hF;rw[lq];unfold jQ;split
  .exact Bd l d
  .rw [lq,Bd l d]
def Ua(l:List I):(kp l).map I.rx=qi (l.map I.rx):=by
 cases l with
 |nil=>rfl
 |cons a l=>show a.rx::(hF a l).map I.rx=_;rw[Bd];rfl
def Bc{t:I}:∀{l:List I} {p:I},t∈hF p l->t∈l
 |[],p,d=>d
 |e::l,p,d=>by
  unfold hF at d;split at d
  .exact dS _ (Bc d)
  .rcases av.1 d with rfl|d
   .simp
   .exact dS _ (Bc d)
def T'{t:I}{l:List I}(h:t∈kp l):t∈l:=by
 cases l with
 |nil=>exact h
 |cons a l=>
  rcases av.1 h with rfl|h
  .simp
  .exact dS _ (Bc h)
def RT(l:List I)(z:I):l.any (λt=>a4 t.rx z.rx==0)=(l.map I.rx).any λt=>a4 t z.rx==0:=by rw[List.any_map];rfl
def fY(d:List Nat)(w:J)(x:Rx)(r:cr)(Y:J):Prop:=∃t:I,r=ag t.v/\t.rx=x/\t.P Y/\∀b∈t.fp,w.heap.size<=b\/b∈d
def Tp{N:Nat}(hS:rG N)(hN:N<=1000000)(x u z:I)(C q:Nat)(w:J)(h:x.k≠3->sS x.k (I.au x.l)<=N)(hx:x.sz<=1000000)(px:x.P w)(pu:u.P w)(pz:z.P w)(hu:w.heap[C]? =some (.cells u.c.toArray aW (0,0)))(hz:w.heap[q]? =some (.cells z.c.toArray aW (0,0))):
  ak aa yj #[x.v,.pointer (some (ae C)),.pointer (some (ae q))] w λr Y=>fY (x.fp++(u.fp++z.fp)) w (gC x.k (I.au x.l) u.rx z.rx) r Y/\ah w Y:=by
 have H0:LH F0 w w [] [.tree x,.tree u,.tree z,dT C u,dT q z]:=bP _ (by
  intro ad E;simp only[av,aR,aT]at E;rcases E with rfl|rfl|rfl|rfl|rfl
  .exact px
  .exact pu
  .exact pz
  .exact hu
  .exact hz)
 have V:=Sub.ga x u;have aq:=ZV x u;have ap:=I.fq (ga x u);have kt:∀t∈ga x u,t.sz<=1000000:=λt y=>by have:=I.eg y;omega
 have ar:(ga x u).length<=sS x.k (I.au x.l):=by have Q:=congrArg List.length (ve x u);rw[List.length_map]at Q;rw[Q];exact List.length_filter_le ..
 refine DQ.aD _ _ _ _ _ _ w _ (H0.aJ λK w1 H1=>H1.aJ λL w2 D=>⟨_,_,_,u.s,D.e6 3 0,D.e6 3 1,D.e6 3 2,D.e6 3 3,D.hD (Th x u w2 hx (D.getD 0) (D.getD 1)) ?_⟩);rintro _ w3 ⟨A,rfl,o1,n1⟩ H3 F3;have H:=F3.own (.row aW 4 A ((ga x u).flatMap I.c)) o1 n1;have ab:∀Y:J,x.P Y->I.Ps Y (ga x u):=λY h=>V.Ps h;refine⟨A,rfl,H.ay (SD A (ga x u) ⟨CD,#[],#[.pointer (some (ae q))]⟩ (λt=>a4 t.rx z.rx==0) [.tree x,.tree z,dT q z] w3 (by omega) (H.get 2:aK _ _ _ _ _).bc (by
  intro ad E;simp only[av,aR,aT]at E;rcases E with rfl|rfl|rfl
  .exact H.getD 0
  .exact H.getD 2
  .exact H.getD 4) (by kernel_rfl) (λY t y G=>Tl t z q Y (kt t y) ((ab Y (G.getD 1)).mem y) (G.getD 2) (G.getD 3))) ?_⟩
 rintro _ Z rfl j;have ea:(ga x u).any (λt=>a4 t.rx z.rx==0)=(gK x.k (I.au x.l) u.rx).any λt=>a4 t z.rx==0:=by rw[RT,ve]
 refine⟨_,rfl,bD (λy=>⟨_,_,_,z.s,j.e6 4 0,j.e6 4 1,j.e6 4 2,j.e6 4 3,j.ai λw8 e=>⟨⟨z,rfl,?_,e.getD 2,λb d=>.inr (by simp[d])⟩,e.fr⟩⟩) (λhf=>?_)⟩
 .have ao:=ea▸y;unfold gC;rw[aj ao]
 have al:=ea▸hf;have fin:∀(s':Sl) (ks:List I) (Y:J),(∀t∈ks,t∈ga x u)->ks.map I.rx=(if x.k=3 then gK x.k (I.au x.l) u.rx else qi (j7 (gK x.k (I.au x.l) u.rx)))->LH F0 w Y [.g K,.g L,.row aW 4 s' (ks.flatMap I.c)] [.tree x,.tree u,.tree z,dT C u,dT q z]->
   DQ.bq (ae C) K x.k x.lo.toNat x.U.toNat x.s L 0 0 0 ⟨none,0,0⟩ s' Y λr Y=>fY (x.fp++(u.fp++z.fp)) w (gC x.k (I.au x.l) u.rx z.rx) r Y/\ah w Y:=by
  intro s' ks Y F E B;have S:Sub x ks:=V.sub F;have nr:=I.cm (B.get 2:aK _ _ _ _ _).bc;have ej:gC x.k (I.au x.l) u.rx z.rx=su x.k u.rx (ks.map I.rx):=by unfold gC;rw[af (by rw[al];simp),E]
  refine aL (λh0=>⟨_,_,_,u.s,B.e6 3 0,B.e6 3 1,B.e6 3 2,B.e6 3 3,B.ai λw8 e=>⟨⟨u,rfl,?_,e.getD 1,λb d=>.inr (by simp[d])⟩,e.fr⟩⟩) (λh0=>aL (λQ=>?_) (λQ=>B.ai λw8 e=>⟨⟨.mk x.k 0 0 s' ks,rfl,?_,?_,λb d=>?_⟩,e.fr⟩))
  .have:ks=[]:=List.length_eq_zero_iff.1 (by omega);rw[ej,this];rfl
  .obtain ⟨a,rfl⟩:=List.length_eq_one_iff.1 (show ks.length=1 by omega);refine B.el 2 0 rfl (t:=a) rfl (B.ai λw8 e=>⟨⟨a,rfl,?_,S.P _ (e.getD 0) a (by simp),λb d=>.inr (by simp[S.fp a (by simp) b d])⟩,e.fr⟩);rw[ej];rfl
  .rw [ej];unfold I.rx;rw[I.fk];cases ks with
   |nil=>simp at nr;omega
   |cons a ks=>
    cases ks with
    |nil=>simp at nr;omega
    |cons b ks=>rfl
  .unfold I.P;exact⟨(e.get 2:aK _ _ _ _ _).bc,S.Ps (e.getD 0)⟩
  .unfold I.fp at d;rcases aX.1 d with d|d
   .exact .inl ((e.new _ (aE (i:=2) rfl) b (gi d)).resolve_right id)
   .exact .inr (by simp[S.a9 d])
 have eo:∀Y:J,LH F0 w Y [.g K,.g L,.row aW 4 A ((ga x u).flatMap I.c)] [.tree x,.tree u,.tree z,dT C u,dT q z]->∀M∈aw A,M∉I.a9 (ga x u):=λY G M hy hm=>G.off 2 0 rfl rfl M hy (aO.2 (V.a9 hm));refine dv (λF=>?_) (λF=>fin A (ga x u) Z (λ_ h=>h) (by rw[aj F,ve]) j);refine j.AZ 2 rfl (hS A (ga x u) Z (by have:=h F;omega) (by omega) (j.get 2) (ab Z (j.getD 0)) (eo Z j)) ?_;rintro _ w5 ⟨m,rfl,T,am,o5⟩ hH;have O:LH F0 w w5 [.g K,.g L,.row aW 4 A (m.flatMap I.c)] [.tree x,.tree u,.tree z,dT C u,dT q z]:=hH (.row aW 4 A (m.flatMap I.c)) o5 λb d=>.inl d;have ac:Sub x m:=V.sub λt y=>T.mem_iff.1 y;refine⟨rfl,O.AZ 2 rfl (SB A m w5 (by rw[Ey T];omega) (O.get 2) (ac.Ps (O.getD 0)) (λM hy hm=>O.off 2 0 rfl rfl M hy (aO.2 (ac.a9 hm)))) ?_⟩;rintro _ w6 ⟨W,rfl,o6,n6⟩ ag;have H7:LH F0 w w6 [.g K,.g L,.row aW 4 W ((kp m).flatMap I.c)] [.tree x,.tree u,.tree z,dT C u,dT q z]:=ag (.row aW 4 W ((kp m).flatMap I.c)) o6 λb d=>.inl (n6 b d);have an:m.map I.rx=j7 ((ga x u).map I.rx):=Zh am (T.map _);exact⟨W,rfl,fin W (kp m) w6 (λt y=>T.mem_iff.1 (T' y)) (by rw[af F,Ua,an,ve]) H7⟩
def ia{w:J}{x t:I}(j:x.P w){k:Nat}{X:Int}{K:Int->Int->Int->Sl->Prop}(q:X=(k:Int))(e:x.l[k]? =some t)(h:K t.k t.lo.toNat t.U.toNat t.s):
  e8 x.s X λp=>∃a b c:Int,∃d:Sl,w.cell? ((p.add (aZ X *4)).add 0)=some (.i a)/\w.cell? ((p.add (aZ X *4)).add 1)=some (.int .u8 b)/\w.cell? ((p.add (aZ X *4)).add 2)=some (.int .u8 c)/\w.cell? ((p.add (aZ X *4)).add 3)=some d.v/\K a b c d:=by subst q;have z:=I.cm j.parts.1;have y:=(bO.1 e).1;exact⟨by omega,by omega,I.de j.parts.1 e λp A c=>⟨_,_,_,_,c.c0,c.c1,c.c2,c.c3,h⟩⟩
def Tw(x:I)(w:J)(N:x.P w)(E:x.k=6)(e:jU x.rx=true):ak aa sL #[x.v] w λr O=>fY x.fp w (o2 x.lo x.U (I.au x.l)) r O/\ah w O:=by
 have M:=I.cm N.parts.1;rw[I.e0]at e;cases d:x.l with
 |nil=>rw[d,E]at e;simp[jU,I.au]at e
 |cons c L=>
  have C:x.l[0]? =some c:=by rw[d];rfl
  have F:c∈x.l:=aE C;have j:I.au (c::L)=c.rx::I.au L:=rfl;refine Oh.aD _ _ _ _ w _ ((gE N).aJ λY w1 Q=>Q.aJ λZ V y=>?_);have G:x.P V:=y.getD 0;have n2:0<x.s.n:=by rw[d]at M;simp at M;omega
  refine⟨by omega,by omega,I.de G.parts.1 C λp T z=>⟨c.k,z.c0,aL (λq=>?_) (λq=>y.ai λab H=>⟨⟨x,rfl,?_,H.getD 0,λb A=>.inr A⟩,H.fr⟩)⟩⟩
  .refine ⟨by omega,by omega,I.de G.parts.1 C λp T z=>⟨c.s,z.c3,?_⟩⟩;cases B:c.l with
   |nil=>
    rw[d,j]at e;have S:c.rx.l.isEmpty=true:=by rw[v9,B];rfl
    simp[jU,E,kH,q,S]at e
   |cons h l2=>
    have D:c.l[0]? =some h:=by rw[B];rfl
    refine ia (G.parts.2.mem F) rfl D (y.ai λW K=>⟨⟨h,rfl,?_,((show x.P W from K.getD 0).parts.2.mem F).parts.2.mem (aE D),λb A=>.inr (I.gb.2 (.inr (I.bM.2 ⟨c,F,I.gb.2 (.inr (I.bM.2 ⟨h,aE D,A⟩))⟩)))⟩,K.fr⟩);rw[j];show h.rx=if c.rx.k=6 then _ else _;rw[aj (by rw[kH,q]),v9,B];rfl
  .rw [j];show x.rx=if c.rx.k=6 then _ else _;rw[af (by rw[kH];exact q),I.e0,E,d,j]
def TG(x m v:I)(z A:Nat)(w:J)(hx:x.sz<=1000000)(px:x.P w)(pm:m.P w)(pv:v.P w)(hm:w.heap[z]? =some (.cells m.c.toArray aW (0,0)))(hv:w.heap[A]? =some (.cells v.c.toArray aW (0,0)))(em:m.rx=mO)(ev:v.rx=eD)(Z:x.k=7)(M:jU x.rx=true):
  ak aa sM #[x.v,.pointer (some (ae z)),.pointer (some (ae A))] w λr e=>fY (x.fp++(m.fp++v.fp)) w (kK x.lo x.U (I.au x.l)) r e/\ah w e:=by
 have nr:=I.cm px.parts.1;rw[I.e0]at M;cases E:x.l with
 |nil=>rw[E,Z]at M;simp[jU,I.au]at M
 |cons c F=>
  have Y:x.l[0]? =some c:=by rw[E];rfl
  have G:c∈x.l:=aE Y;have D:I.au (c::F)=c.rx::I.au F:=rfl;have H0:LH F0 w w [] [.tree x,.tree m,.tree v,dT z m,dT A v]:=bP _ (by
   intro ad W;simp only[av,aR,aT]at W;rcases W with rfl|rfl|rfl|rfl|rfl
   .exact px
   .exact pm
   .exact pv
   .exact hm
   .exact hv)
  refine yZ.aD _ _ _ _ _ _ w _ (H0.aJ λS w1 H1=>H1.aJ λC w2 N=>?_);have n2:0<x.s.n:=by rw[E]at nr;simp at nr;omega
  have sc:c.sz<=1000000:=by have:=I.eg G;have:=I.hQ x;omega
  have fc:∀b∈c.fp,b∈x.fp:=λb q=>I.gb.2 (.inr (I.bM.2 ⟨c,G,q⟩));refine ia (show x.P w2 from N.getD 0) rfl Y (N.aJ λH w3 B=>?_);have ac:c.k=0\/c.k=1->∀e:J,LH F0 w e [.g S,.g C,.g H] [.tree x,.tree m,.tree v,dT z m,dT A v]->yZ.bq (ae z) C 0 0 0 ⟨none,0,0⟩ e λr e=>fY (x.fp++(m.fp++v.fp)) w (kK x.lo x.U (I.au (c::F))) r e/\ah w e:=λy e j=>
   ⟨_,_,_,m.s,j.e6 3 0,j.e6 3 1,j.e6 3 2,j.e6 3 3,j.ai λh d=>⟨⟨m,rfl,by
    rw[em,D];show _=if c.rx.k=0\/c.rx.k=1 then _ else _;rw[kH,aj y],d.getD 1,λb q=>.inr (by simp[q])⟩,d.fr⟩⟩
  have ab:¬(c.k=0\/c.k=1)->(c.k=7\/a4 c.rx eD=0)->∀e:J,LH F0 w e [.g S,.g C,.g H] [.tree x,.tree m,.tree v,dT z m,dT A v]->yZ.bT C 0 0 0 ⟨none,0,0⟩ H c.k c.lo.toNat c.U.toNat c.s e λr e=>fY (x.fp++(m.fp++v.fp)) w (kK x.lo x.U (I.au (c::F))) r e/\ah w e:=λhn y e j=>
   j.ai λh d=>⟨⟨c,rfl,by
    rw[D];show _=if c.rx.k=0\/c.rx.k=1 then _ else if c.rx.k=7\/a4 c.rx eD=0 then _ else _;rw[kH,af hn,aj y],(show x.P h from d.getD 0).parts.2.mem G,λb q=>.inr (by simp[fc b q])⟩,d.fr⟩
  refine aL (λT=>B.ai λh d=>ac (.inl T) h d) (λT=>aL (λV=>B.ai λh d=>ac (.inr V) h d) (λV=>aL (λL=>B.ai λh d=>ab (by omega) (.inl L) h d) (λL=>B.ai λh d=>⟨_,_,_,v.s,d.e6 4 0,d.e6 4 1,d.e6 4 2,d.e6 4 3,?_⟩)));refine d.ay (uC c v h sc ((show x.P h from d.getD 0).parts.2.mem G) (d.getD 2)) ?_;rintro _ w5 rfl O;rw[ev];refine⟨_,rfl,aL (λy=>ab (by omega) (.inr y) w5 O) (λy=>O.ai λw6 Q=>⟨⟨x,rfl,?_,Q.getD 0,λb q=>.inr (by simp[q])⟩,Q.fr⟩)⟩;rw[D];show x.rx=if c.rx.k=0\/c.rx.k=1 then _ else if c.rx.k=7\/a4 c.rx eD=0 then _ else _;rw[kH,af (by omega),af (by
   rintro(K|K)
   .exact L K
   .exact y K),I.e0,Z,E,D]
structure Fm where
 m:Nat
 es:Array MapEntry
 clock:Nat
 ms:List (Int×ab)
 cs:List (Nat×I)
 s:Sl
def b3:I:=.mk 0 0 0 ⟨none,0,0⟩ []
def fb:I:=.mk 1 0 0 ⟨none,0,0⟩ []
def Fm.ev(F:Fm):I:=.mk 6 0 0 F.s [b3]
def _root_.Go.W.En.fm(F:Fm):En:=.all (.ob F.m (.map F.es F.clock)::.tree F.ev::F.cs.map λp=>dT p.1 p.2)
def sF(a b:Nat):ab:=.func (.func yj) #[] #[.pointer (some (ae a)),.pointer (some (ae b))]
def ie:ab:=.func (.func vC) #[] #[]
def rz(cs:List (Nat×I))(e:I)(k:Int)(v:ab):Prop:=
 ((k=0\/k=1\/k=2)/\v=ie)\/(∃u d a b,((k=3/\u=fb/\d=b3)\/(k=4/\u=b3/\d=e)\/(k=5/\u=e/\d=b3))/\v=sF a b/\(a,u)∈cs/\(b,d)∈cs)\/
 (k=6/\v=.func (.func sL) #[] #[])\/∃a b,k=7/\v=.func (.func sM) #[] #[.pointer (some (ae a)),.pointer (some (ae b))]/\(a,fb)∈cs/\(b,e)∈cs
structure Fm.Ok(F:Fm):Prop where
 ms:rD .i64 F.es F.ms
 all:∀k:Int,0<=k->k<8->∃v,kA F.ms k=some v/\rz F.cs F.ev k v
section
variable {F:Fm} {w:J}
def UZ(h:(En.fm F).P w):w.heap[F.m]? =some (.map F.es F.clock):=h (.ob F.m (.map F.es F.clock)) (by simp)
def BM(h:(En.fm F).P w):F.ev.P w:=h (.tree F.ev) (by simp)
def xP(h:(En.fm F).P w){a:Nat}{u:I}(d:(a,u)∈F.cs):w.heap[a]? =some (.cells u.c.toArray aW (0,0)):=h (dT a u) (dS _ (dS _ (ch.2 ⟨(a,u),d,rfl⟩)))
def BN{b:Nat}(h:b∈F.ev.fp):b∈(En.fm F).fp:=aO.2 (bA.2 ⟨.tree F.ev,by simp,aO.2 h⟩)
def j2(w:J):b3.P w:=MV w
def xC(w:J):fb.P w:=by unfold fb I.P I.Ps;exact⟨bx.nil 4 w,trivial⟩
def j3{b:Nat}(h:b∈b3.fp):False:=MU h
def xD{b:Nat}(h:b∈fb.fp):False:=by unfold fb I.fp I.a9 at h;simp[En.bc]at h
def fY.sub{d e:List Nat}{x:Rx}{r:cr}{Y:J}(h:fY d w x r Y)(A:∀b∈d,b∈e):fY e w x r Y:=by obtain⟨t,j,k,q,y⟩:=h;exact⟨t,j,k,q,λb z=>(y b z).imp id (A b)⟩
def JG:Af aa jE bR mn .i64 .nilFunc:=⟨by kernel_rfl,by kernel_rfl,by kernel_rfl⟩
end
def Wy{P:aF}{T D x:aC}{kd:IntKind}{z:ab}(e:Af P T D x kd z){w:J}{h:Nat}{es:Array MapEntry}{clock:Nat}{ms:List (Int×ab)}(B:w.heap[h]? =some (.map es clock))(C:rD kd es ms)(k:Int):(Instr.lookup T (.map (some h)) (.int kd k) false).run P w=.ok ((kA ms k).getD z) w:=by
 have y:=BI (k:=k) (i:=0) C;have A:(getObj h).run P w=.ok (.map es clock) w:=by simp[getObj,Sem.run,B]
 have d:=JE (ms:=ms) (k:=k) (i:=0);unfold Instr.lookup Instr.findKey;simp only[Sem.run_bind,run_underlying e.hT,Result.andThen_ok,A,Sem.run_pure,GH e.hk,run_underlying e.hk,y];cases j:((ms.findIdx? λp=>p.1==k).bind λq=>(ms[q]?).map λp=>(0+q,p.2))with
 |none=>rw[j]at d;simp[<-d,Rc e.hz]
 |some E=>rw[j]at d;simp[<-d]
def Tc{N:Nat}(Z:rG N)(W:N<=1000000){F:Fm}(M:F.Ok){w:J}(h:(En.fm F).P w)(k:Int)(S:0<=k)(T:k<8):
  ∃f:Fv,(Instr.lookup jE (.map (some F.m)) (.i k) false).run aa w=.ok f.v w/\gW aa f.n=true/\∀(x:I) (Y:J),(En.fm F).P Y->x.P Y->x.k=k->(x.k=4\/x.k=5->sS x.k (I.au x.l)<=N)->x.sz<=1000000->jU x.rx=true->
   ak aa f.n (f.V++#[x.v]++f.cs) Y λr O=>fY (x.fp++(En.fm F).fp) Y (hd x.rx) r O/\ah Y O:=by
 have mo:=JG;obtain⟨v,hv,hg⟩:=M.all k S T;have A:=Wy mo (UZ h) M.ms k;rw[hv,Option.getD_some]at A;have E:∀x:I,hd x.rx=if x.k=3 then gC 3 (I.au x.l) mO fh else if x.k=4 then gC 4 (I.au x.l) fh eD else if x.k=5 then gC 5 (I.au x.l) eD fh else if x.k=6 then o2 x.lo x.U (I.au x.l)else if x.k=7 then kK x.lo x.U (I.au x.l)else x.rx:=λx=>by rw[I.e0];rfl
 rcases hg with⟨y,rfl⟩|⟨u,L,a,b,y,rfl,H,z⟩|⟨rfl,rfl⟩|⟨a,b,rfl,rfl,H,z⟩
 .refine ⟨⟨vC,#[],#[]⟩,A,by kernel_rfl,λx Y j q e G C D=>((Tj x Y q).mono ?_)⟩;rintro _ K ⟨rfl,f⟩;refine⟨⟨x,rfl,?_,q.bw f,λb z=>.inr (by simp[z])⟩,f⟩;rw[E,af (by omega),af (by omega),af (by omega),af (by omega),af (by omega)]
 .refine ⟨⟨yj,#[],#[.pointer (some (ae a)),.pointer (some (ae b))]⟩,A,by kernel_rfl,λx Y j q e G C D=>?_⟩;have pu:u.P Y:=by
   rcases y with⟨_,rfl,_⟩|⟨_,rfl,_⟩|⟨_,rfl,_⟩
   .exact xC Y
   .exact j2 Y
   .exact BM j
  have pz:L.P Y:=by
   rcases y with⟨_,_,rfl⟩|⟨_,_,rfl⟩|⟨_,_,rfl⟩
   .exact j2 Y
   .exact BM j
   .exact j2 Y
  refine(Tp Z W x u L a b Y (λh3=>G (by rcases y with⟨rfl,_⟩|⟨rfl,_⟩|⟨rfl,_⟩<;>omega)) C q pu pz (xP j H) (xP j z)).mono ?_;rintro r K ⟨B,f⟩;refine⟨?_,f⟩;have Q:hd x.rx=gC x.k (I.au x.l) u.rx L.rx:=by
   rw[E];rcases y with⟨rfl,rfl,rfl⟩|⟨rfl,rfl,rfl⟩|⟨rfl,rfl,rfl⟩
   .rw [aj e,e];rfl
   .rw [af (by omega),aj e,e];rfl
   .rw [af (by omega),af (by omega),aj e,e];rfl
  rw[Q];refine B.sub λc d=>?_;rcases aX.1 d with d|d
  .simp [d]
  .rcases aX.1 d with d|d
   .rcases y with⟨_,rfl,_⟩|⟨_,rfl,_⟩|⟨_,rfl,_⟩
    .exact (xD d).elim
    .exact (j3 d).elim
    .exact di _ (BN d)
   .rcases y with⟨_,_,rfl⟩|⟨_,_,rfl⟩|⟨_,_,rfl⟩
    .exact (j3 d).elim
    .exact di _ (BN d)
    .exact (j3 d).elim
 .refine ⟨⟨sL,#[],#[]⟩,A,by kernel_rfl,λx Y j q e G C D=>((Tw x Y q e D).mono ?_)⟩;rintro r K ⟨B,f⟩;refine⟨?_,f⟩;rw[E,af (by omega),af (by omega),af (by omega),aj e];exact B.sub λc d=>by simp[d]
 .refine ⟨⟨sM,#[],#[.pointer (some (ae a)),.pointer (some (ae b))]⟩,A,by kernel_rfl,λx Y j q e G C D=>((TG x fb F.ev a b Y C q (xC Y) (BM j) (xP j H) (xP j z) rfl rfl e D).mono ?_)⟩;rintro r K ⟨B,f⟩;refine⟨?_,f⟩;rw[E,af (by omega),af (by omega),af (by omega),af (by omega),aj e];refine B.sub λc d=>?_;rcases aX.1 d with d|d
  .simp [d]
  .rcases aX.1 d with d|d
   .exact (xD d).elim
   .exact di _ (BN d)
namespace Od
noncomputable def C0:Code:=(Tryz.f156.body).getD .skip
noncomputable def C1:=C0.sn
noncomputable def C2:=C1.sn
noncomputable def C3:=C2.sn
noncomputable def C4:=C3.sn
noncomputable def C5:=C4.sn
noncomputable def C6:=C5.sn
def ok(w:J)(R:aH)(h:cZ w (.cells #[.i 0,.int .u8 0,.int .u8 0,.slice none 0 0] aW) λe=>
 cZ e (.cells #[.i 0,.int .u8 0,.int .u8 0,.slice none 0 0] aW) λD=>
 kJ D (nb w) (.i 0) (.int .u8 0) (.int .u8 0) (.slice none 0 0) λF=>aQ F (nb e) (.i 1) λG=>
 aQ G ((nb e).add 1) (.int .u8 0) λH=>
 aQ H ((nb e).add 2) (.int .u8 0) λI=>
 aQ I ((nb e).add 3) (.slice none 0 0) λj=>
 fM j (nb w) λq x y z=>cZ j (.cells #[.i q,.int .u8 x,.int .u8 y,z.v] aW) λk=>
 cZ k (.cells #[.i 0,.int .u8 0,.int .u8 0,.slice none 0 0] aW) λB=>
 kJ B (nb k) (.i 6) (.int .u8 0) (.int .u8 0) (.slice (some (nb j)) 1 1) λC=>wb aa C5 (λE w=>kG aa Tryz.f156 E w (λv=>R (ag v) w)) [(5,.func (.func yi) #[] #[]),(4,.func (.func vC) #[] #[]),(3,.pointer (some (nb k))),(10,.agg #[.i 6,.int .u8 0,.int .u8 0,.slice (some (nb j)) 1 1]),(9,.slice (some (nb j)) 1 1),(8,.agg #[.i q,.int .u8 x,.int .u8 y,z.v]),(2,.pointer (some (nb e))),(1,.pointer (some (nb w))),(7,.agg #[.i 1,.int .u8 0,.int .u8 0,.slice none 0 0]),(6,.agg #[.i 0,.int .u8 0,.int .u8 0,.slice none 0 0]),(0,.map none)] C):ak aa Lq #[] w R:=
 uF (R:=R) (fn:=Tryz.f156) (c:=C0) (args:=[]) (by kernel_rfl) (by kernel_rfl) (by kernel_rfl) (sr C0 (show(λ(E:Env) (w:J)=>dH aa C0 (λE w=>dH aa C1 (λE w=>dH aa C2 (λE w=>dH aa C3 (λE w=>dH aa C4 (λE w=>wb aa C5 (λE w=>kG aa Tryz.f156 E w (λv=>R (ag v) w)) E w) E w) E w) E w) E w) E w) (jT 0 []) w from mp h) λ_ _ d=>(sr C1 d λ_ _ d=>(sr C2 d λ_ _ d=>(sr C3 d λ_ _ d=>(sr C4 d λ_ _ d=>(si C5 (by kernel_rfl) d λ_ _ d=>(rt C6 λa A=>vZ A d)))))))
end Od
def Ru{M:Nat->Prop}{w0 w:J}{L j D:List En}(H:LH M w0 w L D)(h:L.Perm j):LH M w0 w j D:=
 ⟨H.fr,λd e=>H.own d (h.mem_iff.2 e),H.rd,λd e=>H.new d (h.mem_iff.2 e),(h.flatMap_right (·.fp)).nodup_iff.1 H.nd,λd e b q k x=>H.dj d e b q k (h.mem_iff.2 x)⟩
def dz{L:Nat->Bool}{i j:Nat}(h:j≠i):cP L i j=L j:=by
 have:Nat.beq j i=false:=by rw[<-iN,ep];exact h
 simp[cP,this]
def y7{L:Nat->Bool}{i:Nat}:cP L i i=true:=by simp[cP]
def YD{P:aF}{fn:Func}{E:Env}{w:J}{K:ab->Prop}{t:Nat}{v:ab}(d:fn.results.toList=[.tmp t])(e:E.get? t=some v)(h:K v):kG P fn E w K:=by unfold kG;rw[d];unfold qR;rw[e];exact h
def xO:List (Op×Option Nat×aC×List Nat):=[
 (.makeMap jE none,some 11,jE,[]),
 (.move (.tmp 4),some 12,mn,[]),
 (.insert jE (.tmp 11) (.const (.int .i64 0)) (.tmp 12),none,j',[0,1]),
 (.move (.tmp 4),some 13,mn,[]),
 (.insert jE (.tmp 11) (.const (.int .i64 1)) (.tmp 13),none,j',[0,3]),
 (.move (.tmp 4),some 14,mn,[]),
 (.insert jE (.tmp 11) (.const (.int .i64 2)) (.tmp 14),none,j',[0,5]),
 (.move (.tmp 5),some 15,EL,[]),
 (.load aW (.tmp 2),some 16,aW,[]),
 (.load aW (.tmp 1),some 17,aW,[]),
 (.call ⟨.value (.tmp 15),#[.tmp 16,.tmp 17],#[aW,aW]⟩,some 18,mn,[7,8,9]),
 (.insert jE (.tmp 11) (.const (.int .i64 3)) (.tmp 18),none,j',[0,10]),
 (.move (.tmp 5),some 19,EL,[]),
 (.load aW (.tmp 1),some 20,aW,[]),
 (.load aW (.tmp 3),some 21,aW,[]),
 (.call ⟨.value (.tmp 19),#[.tmp 20,.tmp 21],#[aW,aW]⟩,some 22,mn,[12,13,14,10]),
 (.insert jE (.tmp 11) (.const (.int .i64 4)) (.tmp 22),none,j',[0,15]),
 (.move (.tmp 5),some 23,EL,[]),
 (.load aW (.tmp 3),some 24,aW,[]),
 (.load aW (.tmp 1),some 25,aW,[]),
 (.call ⟨.value (.tmp 23),#[.tmp 24,.tmp 25],#[aW,aW]⟩,some 26,mn,[17,18,19,15]),
 (.insert jE (.tmp 11) (.const (.int .i64 5)) (.tmp 26),none,j',[0,20]),
 (.insert jE (.tmp 11) (.const (.int .i64 6)) (.func sL),none,j',[0]),
 (.makeFunc (.func sM) #[] #[.tmp 2,.tmp 3],some 27,mn,[]),
 (.insert jE (.tmp 11) (.const (.int .i64 7)) (.tmp 27),none,j',[0,23]),
 (.move (.tmp 11),some 28,jE,[0,1,2,3,4,5,6,7,8,9,10,11,12,13,14,15,16,17,18,19,20,21,22,23,24]),
 (.assign (.tmp 28),some 0,jE,[25,20,0,1,2,3,4,5,6,7,8,9,10,11,12,13,14,15,16,17,18,19,20,21,22,23,24,25])]
abbrev ptr(b:Nat):ab:=.pointer (some (ae b))
abbrev j9:ab:=.func (.func yi) #[] #[]
abbrev zg(a b:Nat):ab:=.func (.func sM) #[] #[ptr a,ptr b]
abbrev e5(s:Sl):I:=.mk 6 0 0 s [b3]
def bX(j d e:Nat)(h:I):List (Nat×Nat×ab):=[(0,1,ptr j),(0,2,ptr d),(0,3,ptr e),(0,4,ie),(0,5,j9),(2,12,ie),(4,13,ie),(6,14,ie),(8,15,j9),(9,16,fb.v),(10,17,b3.v),(13,19,j9),(14,20,b3.v),(15,21,h.v),(18,23,j9),(19,24,h.v),(20,25,b3.v),(24,27,zg d e)]
def ei:List (Nat×Int):=[(2,0),(4,1),(6,2),(11,3),(16,4),(21,5),(22,6),(24,7)]
def hh(d:I):List (Nat×Nat×I×I):=[(10,18,fb,b3),(15,22,b3,d),(20,26,d,b3)]
def Joined(e:I)(cs:List (Nat×I))(L:Nat->Bool)(E:Env):Prop:=∀d∈hh e,L d.1=true->∃a b,E.get? d.2.1=some (sF a b)/\(a,d.2.2.1)∈cs/\(b,d.2.2.2)∈cs
def wV(h:I)(cs:List (Nat×I))(L:Nat->Bool)(E:Env)(mp:List En):Prop:=(L 0=false/\mp=[]/\(∀d∈ei,L d.1=false)/\L 25=false/\L 26=false)\/
 (L 0=true/\∃(m:Nat) (es:Array MapEntry) (clock:Nat) (ms:List (Int×ab)),mp=[.ob m (.map es clock)]/\E.get? 11=some (.map (some m))/\rD .i64 es ms/\(∀e v,kA ms e=some v->rz cs h e v)/\(∀d∈ei,(kA ms d.2).isSome=L d.1)/\
  (L 25=true->E.get? 28=some (.map (some m)))/\(L 26=true->E.get? 0=some (.map (some m))))
abbrev oP(d e h:Nat)(s:Sl):List En:=[dT d b3,dT e fb,.row aW 4 s b3.c,dT h (e5 s)]
structure FJ(w0:J)(b1 b2 b4:Nat)(s:Sl)(L:Nat->Bool)(E:Env)(w:J):Prop where
 st:ny (bX b1 b2 b4 (e5 s)) L E
 hp:∃(mp X:List En) (cs:List (Nat×I)),LH F0 w0 w (mp++(oP b1 b2 b4 s++X)) []/\(∀p∈cs,dT p.1 p.2∈oP b1 b2 b4 s++X)/\(b2,fb)∈cs/\(b4,e5 s)∈cs/\Joined (e5 s) cs L E/\wV (e5 s) cs L E mp
def rz.mono{cs x:List (Nat×I)}{y:I}{k:Int}{v:ab}(h:rz cs y k v)(d:∀p∈cs,p∈x):rz x y k v:=by
 rcases h with h|⟨u,z,a,b,e,j,q,w⟩|h|⟨a,b,e,j,q,w⟩
 .exact .inl h
 .exact .inr (.inl ⟨u,z,a,b,e,j,d _ q,d _ w⟩)
 .exact .inr (.inr (.inl h))
 .exact .inr (.inr (.inr ⟨a,b,e,j,d _ q,d _ w⟩))
def JF(ms:List (Int×ab))(k d:Int)(v:ab):kA (ms++[(k,v)]) d=(kA ms d).or (if k=d then some v else none):=by
 unfold kA;rw[List.find?_append];cases h:ms.find? (λp=>p.1==d)with
 |some p=>rfl
 |none=>
  by_cases e:k=d
  .simp [e]
  .simp [e]
section
variable {w0 w:J} {b1 b2 b4:Nat} {s:Sl} {L:Nat->Bool} {E:Env}
def wV.cb{B:I}{cs A:List (Nat×I)}{mp:List En}(h:wV B cs L E mp)(P:∀p∈cs,p∈A)(i d:Nat)(v:ab)(U:∀Q∈[0,25,26,2,4,6,11,16,21,22,24],Q≠i)(z:∀t∈[11,28,0],d≠t):wV B A (cP L i) (E.put (some d) v) mp:=by
 have C:∀e∈ei,cP L i e.1=L e.1:=λe j=>dz (U _ (by simp only[ei,av,aR,aT]at j;rcases j with rfl|rfl|rfl|rfl|rfl|rfl|rfl|rfl<;>simp));have D:cP L i 0=L 0:=dz (U 0 (by simp));have F:cP L i 25=L 25:=dz (U 25 (by simp));have G:cP L i 26=L 26:=dz (U 26 (by simp));rcases h with⟨k,q,w,x,y⟩|⟨k,m,H,clock,ms,q,w,x,y,K,M,N⟩
 .exact .inl ⟨by rw[D,k],q,λe j=>by rw[C e j,w e j],by rw[F,x],by rw[G,y]⟩
 .refine .inr ⟨by rw[D,k],m,H,clock,ms,q,?_,x,λS v O=>(y S v O).mono P,λe j=>by rw[C e j,K e j],λh=>?_,λh=>?_⟩
  .rw [hf (z 11 (by simp)),w]
  .rw [hf (z 28 (by simp)),M (F▸h)]
  .rw [hf (z 0 (by simp)),N (G▸h)]
def FJ.stat(h:FJ w0 b1 b2 b4 s L E w)(i d:Nat)(v:ab)(B:∀e∈bX b1 b2 b4 (e5 s),e.1=i+1->e=(i+1,d,v))(C:∀e∈bX b1 b2 b4 (e5 s),e.2.1=d->e.1=i+1)(U:∀x∈[0,25,26,2,4,6,11,16,21,22,24],x≠i)(k:∀x∈[10,15,20],x≠i)(G:∀t∈[11,28,0],d≠t)(j:∀t∈[18,22,26],d≠t):FJ w0 b1 b2 b4 s (cP L i) (E.put (some d) v) w:=by
 obtain⟨mp,X,A,z,F,I,M,H,K⟩:=h.hp;refine⟨h.st.fill B C,mp,X,A,z,F,I,M,λe q D=>?_,K.cb (λ_ h=>h) i d v U G⟩;have y:cP L i e.1=L e.1/\d≠e.2.1:=by
  simp only[hh,av,aR,aT]at q;rcases q with rfl|rfl|rfl
  .exact ⟨dz (k 10 (by simp)),j 18 (by simp)⟩
  .exact ⟨dz (k 15 (by simp)),j 22 (by simp)⟩
  .exact ⟨dz (k 20 (by simp)),j 26 (by simp)⟩
 rw[hf y.2];exact H e q (y.1▸D)
def FJ.ins(h:FJ w0 b1 b2 b4 s L E w)(i:Nat)(k:Int)(v:ab)(j:(i,k)∈ei)(F:L 0=true)(U:L i=false)(hv:∀q,(b2,fb)∈q->(b4,e5 s)∈q->Joined (e5 s) q L E->rz q (e5 s) k v):
  ∃m,E.get? 11=some (.map (some m))/\∃z,(Instr.mapUpdate jE (.map (some m)) (.i k) v).run aa w=.ok () z/\FJ w0 b1 b2 b4 s (cP L i) (E.put none undef) z:=by
 obtain⟨mp,X,q,D,Z,O,K,M,ac⟩:=h.hp;rcases ac with⟨G,_⟩|⟨_,m,es,clock,ms,rfl,H,Q,S,I,T,V⟩
 .rw [F]at G;cases G
 have C:kA ms k=none:=by have:=I _ j;rw[U]at this;simpa using this
 obtain⟨z,B,r1,r2,r3,r4,r5⟩:=WN JG (D.ob (b:=m) 0 rfl) Q k v C;refine⟨m,H,z,r1,h.st.pass ?_ (λ_ _=>by simp),[.ob m (.map B (clock+1))],X,q,D.gu 0 (.ob m (.map B (clock+1))) rfl (r4.mono λad _ A=>by simp[En.ob,A]) r2 (λb Y=>.inl Y),Z,O,K,λe d W=>?_,.inr ⟨?_,m,B,clock+1,ms++[(k,v)],rfl,H,r3,λP v' x=>?_,λe d=>?_,λh=>?_,λh=>?_⟩⟩
 .intro e d;simp only[ei,av,aR,aT,eu]at j;simp only[bX,av,aR,aT]at d
  (repeat' rcases d with rfl|d)<;>(try subst d)<;>simp only<;>omega
 .have A:cP L i e.1=L e.1:=dz (by simp only[ei,av,aR,aT,eu]at j;simp only[hh,av,aR,aT]at d;rcases d with rfl|rfl|rfl<;>simp only<;>omega)
  exact M e d (A▸W)
 .rw [dz (by simp only[ei,av,aR,aT,eu]at j;omega),F]
 .rw [JF]at x;by_cases N:k=P
  .subst N;rw[C]at x;simp at x;subst x;exact hv q O K M
  .rw [af N]at x;simp at x;exact S P v' x
 .rw [JF];by_cases y:e.1=i
  .have:e.2=k:=by simp only[ei,av,aR,aT,eu]at j;simp only[ei,av,aR,aT]at d;rcases d with rfl|rfl|rfl|rfl|rfl|rfl|rfl|rfl<;>simp only at y ⊢<;>omega
   rw[y,y7,this,C,aj rfl];rfl
  .have:k≠e.2:=by simp only[ei,av,aR,aT,eu]at j;simp only[ei,av,aR,aT]at d;rcases d with rfl|rfl|rfl|rfl|rfl|rfl|rfl|rfl<;>simp only at y ⊢<;>omega
   rw[dz y,af this,<-I e d];simp
 .exact T (by rwa[dz (by simp only[ei,av,aR,aT,eu]at j;omega)]at h)
 .exact V (by rwa[dz (by simp only[ei,av,aR,aT,eu]at j;omega)]at h)
def FJ.call(h:FJ w0 b1 b2 b4 s L E w)(i d:Nat)(u z:I)(C:(i,d,u,z)∈hh (e5 s)):ak aa yi #[u.v,z.v] w λy Y=>∃v,y=ag v/\FJ w0 b1 b2 b4 s (cP L i) (E.put (some d) v) Y:=by
 obtain⟨mp,X,H,D,P,T,Q,S,U⟩:=h.hp;have Z:(i=10/\d=18)\/(i=15/\d=22)\/(i=20/\d=26):=by simp only[hh,av,aR,aT,eu]at C;omega
 refine Of.ok _ _ _ _ _ _ _ _ w _ (D.nw λq ab F=>F.nw λw2 ac G=>⟨sF w.heap.size q.heap.size,rfl,h.st.pass ?_ ?_,mp,X++[dT w.heap.size u,dT q.heap.size z],(w.heap.size,u)::(q.heap.size,z)::H,?_,?_,by simp[T],by simp[Q],λk e O=>?_,U.cb (λp j=>by simp[j]) i d _ ?_ ?_⟩)
 .intro k e;simp only[bX,av,aR,aT]at e
  (repeat' rcases e with rfl|e)<;>(try subst e)<;>simp only<;>omega
 .intro k e A;have A:d=k.2.1:=e3 A;simp only[bX,av,aR,aT]at e
  (repeat' rcases e with rfl|e)<;>(try subst e)<;>simp only at A<;>omega
 .have y:mp++(oP b1 b2 b4 s++(X++[dT w.heap.size u,dT q.heap.size z]))=mp++(oP b1 b2 b4 s++X)++[dT w.heap.size u]++[dT q.heap.size z]:=by simp
  rw[y];exact G
 .intro p j;rcases av.1 j with rfl|j
  .simp
  rcases av.1 j with rfl|j
  .simp
  rw[<-cp];exact bt _ (P p j)
 .by_cases x:k.1=i
  .have:k=(i,d,u,z):=by simp only[hh,av,aR,aT,eu]at C;simp only[hh,av,aR,aT]at e;rcases e with rfl|rfl|rfl<;>simp only at x<;>rcases C with⟨rfl,rfl,rfl,rfl⟩|⟨rfl,rfl,rfl,rfl⟩|⟨rfl,rfl,rfl,rfl⟩<;>first |rfl|(exact absurd x (by decide))
   subst this;exact⟨_,_,nM,by simp,by simp⟩
  .have V:d≠k.2.1:=by simp only[hh,av,aR,aT]at e;rcases e with rfl|rfl|rfl<;>simp only at x ⊢<;>omega
   obtain⟨a,b,K,M,N⟩:=S k e (by rwa[dz x]at O);exact⟨a,b,by rw[hf V,K],by simp[M],by simp[N]⟩
 .intro W B;simp only[av,aR,aT]at B;omega
 .intro W B;simp only[av,aR,aT]at B;omega
def FJ.Cm(h:FJ w0 b1 b2 b4 s L E w)(z:L 0=false):FJ w0 b1 b2 b4 s (cP L 0) (E.put (some 11) (.map (some w.heap.size))) (w.alloc (.map #[] 0)):=by
 obtain⟨mp,X,y,x,F,K,G,H,M⟩:=h.hp;rcases M with⟨_,rfl,A,B,C⟩|⟨q,_⟩
 .refine ⟨h.st.pass ?_ ?_,[.ob w.heap.size (.map #[] 0)],X,y,Ru (x.alloc (.map #[] 0)) ?_,F,K,G,λe d D=>?_,.inr ⟨y7,w.heap.size,#[],0,[],rfl,nM,rfl,λN v I=>by simp[kA]at I,λe d=>?_,λh=>?_,λh=>?_⟩⟩
  .intro e d;simp only[bX,av,aR,aT]at d
   (repeat' rcases d with rfl|d)<;>(try subst d)<;>simp
  .intro e d j;have j:11=e.2.1:=e3 j;simp only[bX,av,aR,aT]at d
   (repeat' rcases d with rfl|d)<;>(try subst d)<;>simp at j
  .exact List.perm_append_comm
  .have k:cP L 0 e.1=L e.1/\11≠e.2.1:=by simp only[hh,av,aR,aT]at d;rcases d with rfl|rfl|rfl<;>exact⟨dz (by simp),by simp⟩
   rw[hf k.2];exact H e d (k.1▸D)
  .rw [dz (by simp only[ei,av,aR,aT]at d;rcases d with rfl|rfl|rfl|rfl|rfl|rfl|rfl|rfl<;>decide),A e d]
   simp[kA]
  .rw [dz (by decide),B]at h;cases h
  .rw [dz (by decide),C]at h;cases h
 .rw [z]at q;cases q
def FJ.WL(h:FJ w0 b1 b2 b4 s L E w)(x:L 0=true):∃m,E.get? 11=some (.map (some m))/\FJ w0 b1 b2 b4 s (cP L 25) (E.put (some 28) (.map (some m))) w:=by
 obtain⟨mp,X,B,A,I,N,K,M,O⟩:=h.hp;rcases O with⟨y,_⟩|⟨_,m,q,clock,ms,rfl,z,C,D,F,P,G⟩
 .rw [x]at y;cases y
 refine⟨m,z,h.st.pass ?_ ?_,[.ob m (.map q clock)],X,B,A,I,N,K,λe d H=>?_,.inr ⟨by rw[dz (by decide),x],m,q,clock,ms,rfl,by rw[hf (by decide),z],C,D,λe d=>?_,λ_=>nM,λh=>?_⟩⟩
 .intro e d;simp only[bX,av,aR,aT]at d
  (repeat' rcases d with rfl|d)<;>(try subst d)<;>simp
 .intro e d j;have j:28=e.2.1:=e3 j;simp only[bX,av,aR,aT]at d
  (repeat' rcases d with rfl|d)<;>(try subst d)<;>simp at j
 .have k:cP L 25 e.1=L e.1/\28≠e.2.1:=by simp only[hh,av,aR,aT]at d;rcases d with rfl|rfl|rfl<;>exact⟨dz (by simp),by simp⟩
  rw[hf k.2];exact M e d (k.1▸H)
 .rw [dz (by simp only[ei,av,aR,aT]at d;rcases d with rfl|rfl|rfl|rfl|rfl|rfl|rfl|rfl<;>decide),F e d]
 .rw [hf (by decide)];exact G (by rwa[dz (by decide)]at h)
def FJ.WM(h:FJ w0 b1 b2 b4 s L E w)(x:L 0=true)(z:L 25=true):∃m,E.get? 28=some (.map (some m))/\FJ w0 b1 b2 b4 s (cP L 26) (E.put (some 0) (.map (some m))) w:=by
 obtain⟨mp,X,C,B,K,O,M,N,P⟩:=h.hp;rcases P with⟨y,_⟩|⟨_,m,q,clock,ms,rfl,D,F,G,H,A,Q⟩
 .rw [x]at y;cases y
 refine⟨m,A z,h.st.pass ?_ ?_,[.ob m (.map q clock)],X,C,B,K,O,M,λe d I=>?_,.inr ⟨by rw[dz (by decide),x],m,q,clock,ms,rfl,by rw[hf (by decide),D],F,G,λe d=>?_,λh=>?_,λ_=>nM⟩⟩
 .intro e d;simp only[bX,av,aR,aT]at d
  (repeat' rcases d with rfl|d)<;>(try subst d)<;>simp
 .intro e d j;have j:0=e.2.1:=e3 j;simp only[bX,av,aR,aT]at d
  (repeat' rcases d with rfl|d)<;>(try subst d)<;>simp at j
 .have k:cP L 26 e.1=L e.1/\0≠e.2.1:=by simp only[hh,av,aR,aT]at d;rcases d with rfl|rfl|rfl<;>exact⟨dz (by simp),by simp⟩
  rw[hf k.2];exact N e d (k.1▸I)
 .rw [dz (by simp only[ei,av,aR,aT]at d;rcases d with rfl|rfl|rfl|rfl|rfl|rfl|rfl|rfl<;>decide),H e d]
 .rw [hf (by decide)];exact A z
def FJ.ld(h:FJ w0 b1 b2 b4 s L E w){u:I}{b:Nat}(G:dT b u∈oP b1 b2 b4 s){K:ab->Prop}(F:K u.v):l6 aa aW (ae b) w λv _=>K v:=by
 obtain⟨mp,X,H,y,_⟩:=h.hp;have d:w.heap[b]? =some (.cells u.c.toArray aW (0,0)):=y.own (dT b u) (di _ (bt _ G));have z:=cellAt (p:=ae b) (i:=0) (v:=.int .i64 u.k) d rfl rfl;have A:=cellAt (p:=ae b) (i:=1) (v:=.int .u8 (u.lo.toNat:Int)) d rfl rfl;have B:=cellAt (p:=ae b) (i:=2) (v:=.int .u8 (u.U.toNat:Int)) d rfl rfl;have C:=cellAt (p:=ae b) (i:=3) (v:=u.s.v) d rfl rfl;have D:(l6 aa aW (ae b) w λv _=>K v)=(∃e:Int,∃j:Int,∃q:Int,∃x:Sl,w.cell? ((ae b).add 0)=some (.int .i64 e)/\w.cell? ((ae b).add 1)=some (.int .u8 j)/\w.cell? ((ae b).add 2)=some (.int .u8 q)/\w.cell? ((ae b).add 3)=some x.v/\K (.agg #[.int .i64 e,.int .u8 j,.int .u8 q,x.v])):=by kernel_rfl
 rw[D];exact⟨_,_,_,u.s,z,A,B,C,F⟩
end
def U0(w:J)(H G D:Nat)(s:Sl):allI (uk aa (FJ w H G D s)) xO 0:=
 ⟨λy x z o k j A q h e=>Zw k (by rw[j];exact e.Cm q),
  λy x z o k j A q h e=>mh (.inl k) (e.st.get (i:=0) (d:=4) (v:=ie) (by simp[bX]) rfl) (by rw[j];exact e.stat 1 12 (ie) (by simp[bX]) (by simp[bX]) (by simp) (by simp) (by simp) (by simp)),
  λy x z o k j A q h e=>by obtain⟨m,E,C,F,B⟩:=e.ins 2 0 (ie) (by simp[ei]) (h 0 (by simp)) q (λI M O L=>.inl ⟨.inl rfl,rfl⟩);exact pn k E rfl (e.st.get (i:=2) (d:=12) (v:=ie) (by simp[bX]) (h 1 (by simp))) ⟨C,F,by rw[j];exact B⟩,
  λy x z o k j A q h e=>mh (.inl k) (e.st.get (i:=0) (d:=4) (v:=ie) (by simp[bX]) rfl) (by rw[j];exact e.stat 3 13 (ie) (by simp[bX]) (by simp[bX]) (by simp) (by simp) (by simp) (by simp)),
  λy x z o k j A q h e=>by obtain⟨m,E,C,F,B⟩:=e.ins 4 1 (ie) (by simp[ei]) (h 0 (by simp)) q (λI M O L=>.inl ⟨.inr (.inl rfl),rfl⟩);exact pn k E rfl (e.st.get (i:=4) (d:=13) (v:=ie) (by simp[bX]) (h 3 (by simp))) ⟨C,F,by rw[j];exact B⟩,
  λy x z o k j A q h e=>mh (.inl k) (e.st.get (i:=0) (d:=4) (v:=ie) (by simp[bX]) rfl) (by rw[j];exact e.stat 5 14 (ie) (by simp[bX]) (by simp[bX]) (by simp) (by simp) (by simp) (by simp)),
  λy x z o k j A q h e=>by obtain⟨m,E,C,F,B⟩:=e.ins 6 2 (ie) (by simp[ei]) (h 0 (by simp)) q (λI M O L=>.inl ⟨.inr (.inr rfl),rfl⟩);exact pn k E rfl (e.st.get (i:=6) (d:=14) (v:=ie) (by simp[bX]) (h 5 (by simp))) ⟨C,F,by rw[j];exact B⟩,
  λy x z o k j A q h e=>mh (.inl k) (e.st.get (i:=0) (d:=5) (v:=j9) (by simp[bX]) rfl) (by rw[j];exact e.stat 7 15 (j9) (by simp[bX]) (by simp[bX]) (by simp) (by simp) (by simp) (by simp)),
  λy x z o k j A q h e=>po k (e.st.get (i:=0) (d:=2) (v:=ptr G) (by simp[bX]) rfl) (e.ld (u:=fb) (b:=G) (aE (i:=1) rfl) (K:=λv=>FJ w H G D s (cP y 8) (x.put o.dst v) z) (by rw[j];exact e.stat 8 16 ((fb).v) (by simp[bX]) (by simp[bX]) (by simp) (by simp) (by simp) (by simp))),
  λy x z o k j A q h e=>po k (e.st.get (i:=0) (d:=1) (v:=ptr H) (by simp[bX]) rfl) (e.ld (u:=b3) (b:=H) (aE (i:=0) rfl) (K:=λv=>FJ w H G D s (cP y 9) (x.put o.dst v) z) (by rw[j];exact e.stat 9 17 ((b3).v) (by simp[bX]) (by simp[bX]) (by simp) (by simp) (by simp) (by simp))),
  λy x z o k j A q h e=>by refine Er k (e.st.get (i:=8) (d:=15) (v:=j9) (by simp[bX]) (h 7 (by simp))) (e.st.get (i:=9) (d:=16) (v:=(fb).v) (by simp[bX]) (h 8 (by simp))) (e.st.get (i:=10) (d:=17) (v:=(b3).v) (by simp[bX]) (h 9 (by simp))) (by kernel_rfl) ((e.call 10 18 (fb) (b3) (by simp[hh])).mono ?_);rintro ab C ⟨v,V,B⟩;rw[A,show zeroOf aa mn=.nilFunc from by kernel_rfl];exact⟨v,V,by rw[j];exact B⟩,
  λy x z o k j A q h e=>by
   obtain⟨mp,X,I,Z,hc,hm,ac,W,ad⟩:=e.hp;obtain⟨a,b,N,_,_⟩:=W (10,18,fb,b3) (by simp[hh]) (h 10 (by simp));obtain⟨m,E,C,F,B⟩:=e.ins 11 3 (sF a b) (by simp[ei]) (h 0 (by simp)) q (λI M O L=>by obtain⟨P,Q,S,T,U⟩:=L (10,18,fb,b3) (by simp[hh]) (h 10 (by simp));exact .inr (.inl ⟨fb,b3,P,Q,.inl ⟨rfl,rfl,rfl⟩,e3 (N.symm.trans S),T,U⟩))
   exact pn k E rfl N ⟨C,F,by rw[j];exact B⟩,
  λy x z o k j A q h e=>mh (.inl k) (e.st.get (i:=0) (d:=5) (v:=j9) (by simp[bX]) rfl) (by rw[j];exact e.stat 12 19 (j9) (by simp[bX]) (by simp[bX]) (by simp) (by simp) (by simp) (by simp)),
  λy x z o k j A q h e=>po k (e.st.get (i:=0) (d:=1) (v:=ptr H) (by simp[bX]) rfl) (e.ld (u:=b3) (b:=H) (aE (i:=0) rfl) (K:=λv=>FJ w H G D s (cP y 13) (x.put o.dst v) z) (by rw[j];exact e.stat 13 20 ((b3).v) (by simp[bX]) (by simp[bX]) (by simp) (by simp) (by simp) (by simp))),
  λy x z o k j A q h e=>po k (e.st.get (i:=0) (d:=3) (v:=ptr D) (by simp[bX]) rfl) (e.ld (u:=e5 s) (b:=D) (aE (i:=3) rfl) (K:=λv=>FJ w H G D s (cP y 14) (x.put o.dst v) z) (by rw[j];exact e.stat 14 21 ((e5 s).v) (by simp[bX]) (by simp[bX]) (by simp) (by simp) (by simp) (by simp))),
  λy x z o k j A q h e=>by refine Er k (e.st.get (i:=13) (d:=19) (v:=j9) (by simp[bX]) (h 12 (by simp))) (e.st.get (i:=14) (d:=20) (v:=(b3).v) (by simp[bX]) (h 13 (by simp))) (e.st.get (i:=15) (d:=21) (v:=(e5 s).v) (by simp[bX]) (h 14 (by simp))) (by kernel_rfl) ((e.call 15 22 (b3) (e5 s) (by simp[hh])).mono ?_);rintro ab C ⟨v,V,B⟩;rw[A,show zeroOf aa mn=.nilFunc from by kernel_rfl];exact⟨v,V,by rw[j];exact B⟩,
  λy x z o k j A q h e=>by
   obtain⟨mp,X,I,Z,hc,hm,ac,W,ad⟩:=e.hp;obtain⟨a,b,N,_,_⟩:=W (15,22,b3,e5 s) (by simp[hh]) (h 15 (by simp));obtain⟨m,E,C,F,B⟩:=e.ins 16 4 (sF a b) (by simp[ei]) (h 0 (by simp)) q (λI M O L=>by obtain⟨P,Q,S,T,U⟩:=L (15,22,b3,e5 s) (by simp[hh]) (h 15 (by simp));exact .inr (.inl ⟨b3,e5 s,P,Q,.inr (.inl ⟨rfl,rfl,rfl⟩),e3 (N.symm.trans S),T,U⟩))
   exact pn k E rfl N ⟨C,F,by rw[j];exact B⟩,
  λy x z o k j A q h e=>mh (.inl k) (e.st.get (i:=0) (d:=5) (v:=j9) (by simp[bX]) rfl) (by rw[j];exact e.stat 17 23 (j9) (by simp[bX]) (by simp[bX]) (by simp) (by simp) (by simp) (by simp)),
  λy x z o k j A q h e=>po k (e.st.get (i:=0) (d:=3) (v:=ptr D) (by simp[bX]) rfl) (e.ld (u:=e5 s) (b:=D) (aE (i:=3) rfl) (K:=λv=>FJ w H G D s (cP y 18) (x.put o.dst v) z) (by rw[j];exact e.stat 18 24 ((e5 s).v) (by simp[bX]) (by simp[bX]) (by simp) (by simp) (by simp) (by simp))),
  λy x z o k j A q h e=>po k (e.st.get (i:=0) (d:=1) (v:=ptr H) (by simp[bX]) rfl) (e.ld (u:=b3) (b:=H) (aE (i:=0) rfl) (K:=λv=>FJ w H G D s (cP y 19) (x.put o.dst v) z) (by rw[j];exact e.stat 19 25 ((b3).v) (by simp[bX]) (by simp[bX]) (by simp) (by simp) (by simp) (by simp))),
  λy x z o k j A q h e=>by refine Er k (e.st.get (i:=18) (d:=23) (v:=j9) (by simp[bX]) (h 17 (by simp))) (e.st.get (i:=19) (d:=24) (v:=(e5 s).v) (by simp[bX]) (h 18 (by simp))) (e.st.get (i:=20) (d:=25) (v:=(b3).v) (by simp[bX]) (h 19 (by simp))) (by kernel_rfl) ((e.call 20 26 (e5 s) (b3) (by simp[hh])).mono ?_);rintro ab C ⟨v,V,B⟩;rw[A,show zeroOf aa mn=.nilFunc from by kernel_rfl];exact⟨v,V,by rw[j];exact B⟩,
  λy x z o k j A q h e=>by
   obtain⟨mp,X,I,Z,hc,hm,ac,W,ad⟩:=e.hp;obtain⟨a,b,N,_,_⟩:=W (20,26,e5 s,b3) (by simp[hh]) (h 20 (by simp));obtain⟨m,E,C,F,B⟩:=e.ins 21 5 (sF a b) (by simp[ei]) (h 0 (by simp)) q (λI M O L=>by obtain⟨P,Q,S,T,U⟩:=L (20,26,e5 s,b3) (by simp[hh]) (h 20 (by simp));exact .inr (.inl ⟨e5 s,b3,P,Q,.inr (.inr ⟨rfl,rfl,rfl⟩),e3 (N.symm.trans S),T,U⟩))
   exact pn k E rfl N ⟨C,F,by rw[j];exact B⟩,
  λy x z o k j A q h e=>by obtain⟨m,E,C,F,B⟩:=e.ins 22 6 (.func (.func sL) #[] #[]) (by simp[ei]) (h 0 (by simp)) q (λI M O L=>.inr (.inr (.inl ⟨rfl,rfl⟩)));exact pn k E rfl rfl ⟨C,F,by rw[j];exact B⟩,
  λy x z o k j A q h e=>Zv k (e.st.get (i:=0) (d:=2) (v:=ptr G) (by simp[bX]) rfl) (e.st.get (i:=0) (d:=3) (v:=ptr D) (by simp[bX]) rfl) (by rw[j];exact e.stat 23 27 (zg G D) (by simp[bX]) (by simp[bX]) (by simp) (by simp) (by simp) (by simp)),
  λy x z o k j A q h e=>by obtain⟨m,E,C,F,B⟩:=e.ins 24 7 (zg G D) (by simp[ei]) (h 0 (by simp)) q (λI M O L=>.inr (.inr (.inr ⟨G,D,rfl,rfl,M,O⟩)));exact pn k E rfl (e.st.get (i:=24) (d:=27) (v:=zg G D) (by simp[bX]) (h 23 (by simp))) ⟨C,F,by rw[j];exact B⟩,
  λy x z o k j A q h e=>by obtain⟨m,Y,B⟩:=e.WL (h 0 (by simp));exact mh (.inl k) Y (by rw[j];exact B),
  λy x z o k j A q h e=>by obtain⟨m,Y,B⟩:=e.WM (h 0 (by simp)) (h 25 (by simp));exact mh (.inr k) Y (by rw[j];exact B),trivial⟩
def U1{w q:J}{j e h:Nat}{s:Sl}{E:Env}(H:LH F0 w q (oP j e h s) [])(x:E.get? 1=some (ptr j))(y:E.get? 2=some (ptr e))(z:E.get? 3=some (ptr h))(A:E.get? 4=some ie)(B:E.get? 5=some j9):FJ w j e h s (λ_=>false) E q.drew:=by
 refine⟨λF d D=>?_,[],[],[(e,fb),(h,e5 s)],by simpa using H.drew,?_,by simp,by simp,λF d C=>(by cases C),.inl ⟨rfl,rfl,λ_ _=>rfl,rfl,rfl⟩⟩
 .simp only[bX,av,aR,aT]at d
  (repeat' rcases d with rfl|d)<;>(try subst d)<;>first |exact x|exact y|exact z|exact A|exact B|cases D
 .intro p k;simp only[av,aR,aT]at k;rcases k with rfl|rfl<;>simp
def UY{w q:J}{B C D:Nat}{s:Sl}{L:Nat->Bool}{E:Env}(z:∀i,i<xO.length->L i=true)(V:FJ w B C D s L E q):∃y:Fm,E.get? 0=some (.map (some y.m))/\y.Ok/\(En.fm y).P q/\(∀b∈(En.fm y).fp,w.heap.size<=b)/\ah w q:=by
 have hlen:xO.length=27:=rfl;obtain⟨mp,X,F,j,Z,hm,ad,hj,ab⟩:=V.hp;rcases ab with⟨H,_⟩|⟨_,m,G,clock,ms,rfl,h2,Q,S,T,h6,U⟩
 .rw [z 0 (by omega)]at H;cases H
 have mem:∀p∈F,dT p.1 p.2∈[En.ob m (.map G clock)]++(oP B C D s++X):=λp x=>di _ (Z p x);have ac:aK q aW 4 s b3.c:=j.get (e:=.row aW 4 s b3.c) 3 rfl;refine⟨⟨m,G,clock,ms,F,s⟩,U (z 26 (by omega)),⟨Q,λh h0 h8=>?_⟩,λO d=>?_,λb W=>?_,j.fr⟩
 .have aa:∃i,(i,h)∈ei/\i<27:=by
   have:h=0\/h=1\/h=2\/h=3\/h=4\/h=5\/h=6\/h=7:=by omega
   rcases this with rfl|rfl|rfl|rfl|rfl|rfl|rfl|rfl
   .exact ⟨2,by simp[ei],by omega⟩
   .exact ⟨4,by simp[ei],by omega⟩
   .exact ⟨6,by simp[ei],by omega⟩
   .exact ⟨11,by simp[ei],by omega⟩
   .exact ⟨16,by simp[ei],by omega⟩
   .exact ⟨21,by simp[ei],by omega⟩
   .exact ⟨22,by simp[ei],by omega⟩
   .exact ⟨24,by simp[ei],by omega⟩
  obtain⟨i,hi,ae⟩:=aa;have K:=T _ hi;rw[z i (by omega)]at K;obtain⟨v,N⟩:=Option.isSome_iff_exists.1 K;exact⟨v,N,S h v N⟩
 .rcases av.1 d with rfl|d
  .exact j.own _ (by simp)
  rcases av.1 d with rfl|d
  .show I.P q (e5 s);unfold I.P I.Ps I.Ps;exact⟨ac.bc,j2 q,trivial⟩
  .obtain ⟨p,x,rfl⟩:=ch.1 d;exact j.own _ (mem p x)
 .obtain ⟨O,d,A⟩:=bA.1 (aO.1 W);rcases av.1 d with rfl|d
  .exact (j.new _ (aE (i:=0) rfl) b A).resolve_right id
  rcases av.1 d with rfl|d
  .have k:b∈(e5 s).fp:=aO.1 A;unfold I.fp at k;rcases aX.1 k with k|k
   .exact (j.new _ (aE (i:=3) rfl) b (gi k)).resolve_right id
   .obtain ⟨t,M,Y⟩:=I.bM.1 k;simp at M;subst M;exact(j3 Y).elim
  .obtain ⟨p,x,rfl⟩:=ch.1 d;exact(j.new _ (mem p x) b A).resolve_right id
def Ti(w:J):ak aa Lq #[] w λr h=>(∃d:Fm,r=ag (.map (some d.m))/\d.Ok/\(En.fm d).P h/\∀b∈(En.fm d).fp,w.heap.size<=b)/\ah w h:=by refine Od.ok w _ ((bP [] (by simp)).nw λj _ x=>x.nw λN _ B=>B.jD 0 rfl λT C=>C.jD 1 rfl λk e=>⟨0,0,0,⟨none,0,0⟩,e.ld 0 0,e.ld 0 1,e.ld 0 2,e.ld 0 3,e.cR (n:=1) (sz:=4) (cs:=b3.c) rfl (by decide) λq y=>y.nw λS _ z=>z.jD 3 rfl λM A=>?_⟩);have D:LH F0 w M (oP w.heap.size j.heap.size q.heap.size ⟨some (ae k.heap.size),1,1⟩) []:=A;refine B3 xO (by kernel_rfl) (FJ w w.heap.size j.heap.size q.heap.size ⟨some (ae k.heap.size),1,1⟩) (U1 D rfl rfl rfl rfl rfl) (U0 _ _ _ _ _) λQ O N L K=>?_;obtain⟨d,E,F,G,H,I⟩:=UY L K;exact YD (by kernel_rfl) E ⟨⟨d,rfl,F,G,H⟩,I⟩
section
variable {M:Nat->Prop} {w0 w:J} {L D:List En}
def _root_.Go.W.LH.RV(H:LH M w0 w L D)(i:Nat){P:aF}{t ty e:aC}{z:ab}{sz bytes:Nat}(k:gU P t e z sz bytes){T:aC}{s:Sl}{xs:List ab}{news:Array ab}{A:J->Prop}{K:Sl->J->Prop}(U:L[i]? =some (.row e sz s xs))(y:∀d,LH M w0 d L D->A d)(B:∀h d,LH M w0 d (L.set i (.row e sz h (xs++news.toList))) D->K h d)(C:(s.n+1) *bytes<=140737488355328)(E:news.size=sz:=by rfl)(x:∀u∈news.toList,u.oneCell'=true:=by simp[Value.oneCell']):
  cZ w (.cells news T) λj=>A j/\∃h d,(Builtin.append_ #[t,t] ty #[s.v,.slice (some (Addr.mk w.heap.size 0 none)) 1 1]).run P j=.ok h.v d/\K h d:=
 ⟨y _ (H.bw (Fr.alloc _ _ _)),H.uu i k U (λh d q _ _=>B h d q) C E x⟩
end
mutual
def dL:Rx->Rx|.mk k lo U l=>hd (.mk k lo U (eO l))
def eO:List Rx->List Rx
 |[]=>[]
 |a::l=>dL a::eO l
end
def UN(N:Nat):Rx->Bool|.mk k _ _ l=>aq (k=4\/k=5->sS k l<=N)
def qI(N:Nat)(y:Rx):Bool:=jU y&&aq (y.sz<=1000000)&&UN N y
mutual
def oN(N:Nat):Rx->Bool|.mk k lo U l=>qq N l&&qI N (.mk k lo U (eO l))
def qq(N:Nat):List Rx->Bool
 |[]=>true
 |a::l=>oN N a&&qq N l
end
def H'{N:Nat}:∀{l:List Rx} {a:Rx},qq N l=true->a∈l->oN N a=true
 |b::l,a,d,e=>by
  unfold qq at d;rw[bf]at d;rcases av.1 e with rfl|e
  .exact d.1
  .exact H' d.2 e
def qG:∀l:List Rx,eO l=l.map dL
 |[]=>rfl
 |a::l=>by unfold eO;rw[qG l];rfl
def MW{M:Nat->Prop}{w0 w:J}{L D:List En}(H:LH M w0 w L D):LH M w0 w L (D++[.trees []]):=
 H.gx (.trees []) (Fr.refl _ _) (by show I.Ps w [];unfold I.Ps;trivial) (λb d=>by have:=aO.1 d;unfold I.a9 at this;cases this)
def sv{acc:List I}{t:I}{Q:Nat->Prop}(h:∀b∈I.a9 acc,Q b)(k:∀b∈t.fp,Q b):∀b∈I.a9 (acc++[t]),Q b:=by
 intro b j;obtain⟨u,d,e⟩:=I.bM.1 j;rcases aX.1 d with d|d
 .exact h b (I.bM.2 ⟨u,d,e⟩)
 .simp at d;rw[d]at e;exact k b e
abbrev Ry(N:Nat)(F:Fm)(n:Nat):Prop:=∀(x:I) (w:J),x.sz<=n->oN N x.rx=true->(En.fm F).P w->x.P w->ak aa CF #[.map (some F.m),x.v] w λr d=>fY (x.fp++(En.fm F).fp) w (dL x.rx) r d/\ah w d
def Gj{N:Nat}(hS:rG N)(hN:N+1<=1000000){F:Fm}(hF:F.Ok):∀n:Nat,n<=1000000->Ry N F n
 |0,_=>λe y ab _ _ _=>absurd ab (by have:=I.lH e;omega)
 |n+1,hn=>λe y ab W pF px=>by
  have ih:=Gj hS hN hF n (by omega);have hs:=I.hQ e;have hl:=I.fq e.l;have nr:=I.cm px.parts.1;have Y:qq N (I.au e.l)=true/\qI N (.mk e.k e.lo e.U (eO (I.au e.l)))=true:=by
   rw[I.e0]at W;unfold oN at W
   rwa[bf]at W
  have ac:0<=e.k/\e.k<8:=by have:=Y.2;unfold qI jU at this;simp only[bf,decide_eq_true_eq]at this;exact this.1.1.1
  have loop:∀(d i:Nat) (acc:List I) (sl:Sl) (B C A:Nat) (x:J),i+d=e.l.length->I.au acc=eO (I.au (e.l.take i))->(∀b∈I.a9 acc,y.heap.size<=b\/b∈e.fp++(En.fm F).fp)->
    LH F0 y x [.c B e.c aW,.c C [.int .i64 0,.int .u8 0,.int .u8 0,.slice none 0 0] aW,.c A [.int .i64 e.k,.int .u8 (e.lo.toNat:Int),.int .u8 (e.U.toNat:Int),sl.v] aW,.row aW 4 sl (acc.flatMap I.c)] [.tree e,.fm F,.trees acc]->
    vX.L0 (some F.m) (ae B) (ae C) (ae A) e.s ((e.s.n:Nat):Int) (i:Int) x λr w'=>fY (e.fp++(En.fm F).fp) y (dL e.rx) r w'/\ah y w':=by
   intro d;induction d with
   |zero=>
    intro i acc sl B C A x hi w V j;rw[eZ (by omega)]at w;obtain⟨f,f1,f2,f3⟩:=Tc hS (by omega) hF (j.getD 1) e.k ac.1 ac.2;have am:∀b∈(I.row sl acc).fp,y.heap.size<=b:=λb h=>(j.new _ (aE (i:=3) rfl) b (gi h)).resolve_right id;have H:LH F0 y x [.c B e.c aW,.c C [.int .i64 0,.int .u8 0,.int .u8 0,.slice none 0 0] aW,.c A [.int .i64 e.k,.int .u8 (e.lo.toNat:Int),.int .u8 (e.U.toNat:Int),sl.v] aW] [.tree e,.fm F,.trees acc,I.row sl acc,.tree (.mk e.k e.lo e.U sl acc)]:=j.qS 3 2 e.k e.lo e.U;have ap:(I.mk e.k e.lo e.U sl acc).P x:=H.getD 4;have S:(I.mk e.k e.lo e.U sl acc).rx=.mk e.k e.lo e.U (eO (I.au e.l)):=by unfold I.rx;rw[w]
    have G:=Y.2;unfold qI at G;simp only[bf,decide_eq_true_eq]at G;have an:(I.mk e.k e.lo e.U sl acc).sz<=1000000:=by have E:=I.eB (I.mk e.k e.lo e.U sl acc);rw[S]at E;rw[<-E];exact G.1.2
    have al:e.k=4\/e.k=5->sS e.k (I.au acc)<=N:=λhk=>by rw[w];exact ew G.2 hk
    have ak:dL e.rx=hd (I.mk e.k e.lo e.U sl acc).rx:=by rw[S,I.e0];unfold dL;rfl
    refine vX.bE _ _ _ _ _ _ _ _ _ (a1 (aV (by omega)) ⟨e.k,j.ld 0 0,f,f1,_,_,_,sl,j.ld 2 0,j.ld 2 1,j.ld 2 2,j.ld 2 3,?_⟩);rw[f2];refine(show cE true _ from ?_);refine(f3 (.mk e.k e.lo e.U sl acc) x (j.getD 1) ap rfl al an (by rw[S];exact G.1.1)).mono ?_;rintro _ w2 ⟨⟨t,rfl,Z,pt,D⟩,T⟩;have Q:=H.gx (.tree t) T pt (λb h=>by
     rcases D b (aO.1 h)with h|h
     .exact .inl h
     .rcases aX.1 h with h|h
      .exact .inr (.inr ⟨_,aE (i:=4) rfl,aO.2 h⟩)
      .exact .inr (.inr ⟨_,aE (i:=1) rfl,h⟩))
    refine⟨_,_,_,t.s,rfl,Q.jD 1 rfl λw3 z=>⟨_,_,_,t.s,z.ld 1 0,z.ld 1 1,z.ld 1 2,z.ld 1 3,⟨t,rfl,by rw[ak];exact Z,z.getD 5,λb h=>?_⟩,z.fr⟩⟩;rcases D b h with h|h
    .exact .inl (a8 j.fr.size h)
    .rcases aX.1 h with h|h
     .unfold I.fp at h;rcases aX.1 h with h|h
      .exact .inl (am b h)
      .exact V b h
     .exact .inr (di _ h)
   |succ d ao=>
    intro i acc sl B C A x hi w V j;have L:e.l[i]? =some (e.l[i]'(by omega)):=a6 (by omega);generalize e.l[i]'(by omega)=a at L;have M:=aE L;have ay:=I.eg M;have fa:oN N a.rx=true:=H' Y.1 (by rw[I.fk];exact ch.2 ⟨a,M,rfl⟩);have aa:∀b∈a.fp,b∈e.fp:=λb h=>I.gb.2 (.inr (I.bM.2 ⟨a,M,h⟩));refine vX.bE _ _ _ _ _ _ _ _ _ (a3 (aP (by omega)) (ia (show e.P x from j.getD 0) rfl L (j.nw λw8 _ H8=>H8.jD 4 rfl λaz af=>af.dr λad q=>⟨sl,q.ld 2 3,a.k,a.lo.toNat,a.U.toNat,a.s,q.ld 4 0,q.ld 4 1,q.ld 4 2,q.ld 4 3,?_⟩)));refine(ih a ad (by omega) fa (q.getD 1) ((show e.P ad from q.getD 0).parts.2.mem M)).mono ?_;rintro _ aA ⟨⟨t,rfl,Z,pt,D⟩,T⟩;have O:=q.gx (.tree t) T pt (λb h=>by
     rcases D b (aO.1 h)with h|h
     .exact .inl h
     .rcases aX.1 h with h|h
      .exact .inr (.inr ⟨_,aE (i:=0) rfl,aO.2 (aa b h)⟩)
      .exact .inr (.inr ⟨_,aE (i:=1) rfl,h⟩))
    have aw:acc.length=i:=by have E:=congrArg List.length w;rw[I.fk,qG,I.fk]at E;simp only[List.length_map,eA]at E;omega
    have ax:=I.cm (O.get 3:aK _ _ _ _ _).bc;refine⟨_,_,_,t.s,rfl,O.ld 2 3,O.RV 3 qk (xs:=acc.flatMap I.c) rfl (λw' H=>H.ld 2 3) (λs' aB ag=>ag.st 2 3 rfl λaq ai=>?_) (by omega)⟩;rw[bd _ (by omega)];have aj:=(ai.qX 2 3).take 4;refine ao (i+1) (acc++[t]) s' B C A aq (by omega) ?_ (sv V λb h=>?_) ?_
    .rw [jz,w,ej,L,Option.toList_some,jz,qG,qG,List.map_append];show _++[t.rx]=_;rw[Z];rfl
    .rcases D b h with h|h
     .exact .inl (a8 q.fr.size h)
     .rcases aX.1 h with h|h
      .exact .inr (bt _ (aa b h))
      .exact .inr (di _ h)
    .rw [k2];exact aj.forget _ (by simp)
  refine vX.ok _ _ _ _ _ y _ ((bP [.tree e,.fm F] (by
   intro ar w;simp only[av,aR,aT]at w;rcases w with rfl|rfl
   .exact px
   .exact pF)).nw λx _ H1=>H1.nw λw2 _ K=>⟨e.k,K.ld 0 0,e.lo.toNat,K.ld 0 1,e.U.toNat,K.ld 0 2,K.nw λw3 _ Q=>Q.jD 2 rfl λw7 H7=>⟨e.s,H7.ld 0 3,?_⟩⟩)
  exact loop e.l.length 0 [] ⟨none,0,0⟩ _ _ _ w7 (by omega) rfl (λb h=>by unfold I.a9 at h;cases h) (MW (H7.h7 aW 4))
def Tv{N:Nat}(k:rG N)(j:N+1<=1000000){F:Fm}(e:F.Ok)(x:I)(w:J)(h:x.sz<=1000000)(q:oN N x.rx=true)(y:(En.fm F).P w)(z:x.P w):ak aa CF #[.map (some F.m),x.v] w λr d=>fY (x.fp++(En.fm F).fp) w (dL x.rx) r d/\ah w d:=
 Gj k j e 1000000 (bg _) x w h q y z
section
variable {M:Nat->Prop} {w0 w:J} {L D:List En} {V:List Nat}
def _root_.Go.W.LH.qf(H:LH M w0 w L D){P:aF}{g:FuncId}{args:Array ab}{K:aH}{d:List Nat}{x:Rx}(z:ak P g args w λr Y=>fY d w x r Y/\ah w Y)(hold:∀b∈d,∃g∈D,b∈g.fp)(A:∀(t:I) (Y:J),t.rx=x->LH M w0 Y L (D++[.tree t])->(∀b∈t.fp,w.heap.size<=b\/b∈d)->K (ag t.v) Y):ee V P g args w K:=
 ha (z.mono λr Y ⟨⟨t,j,k,q,e⟩,f⟩=>⟨f,by
  subst j;exact A t Y k (H.gx (.tree t) f q λb y=>(e b (aO.1 y)).imp id λh=>.inr (hold b h)) e⟩)
end
namespace mQ
noncomputable abbrev t0:=aA aa Tryz.f126 [(6,ls [0,1,2,3,4,5,6,7,8]),(8,ls [0,1,2,3,4,5,6,7,8]),(13,ls [0,1,2,3,4,5,6,7,8,9,10,11])] [2,3]
noncomputable def a2:=bj t0 [0,1,1,1,3] [(2,.l [.I,.Y,.Y,.s] aN),(3,.l [.I,.Y,.Y,.s] aN),(5,.v [.s]),(6,.v [.s]),(7,.v [.I])]
noncomputable abbrev t1:=bh a2
noncomputable def ct:=bj t1 [0,1,1,1,4] [(2,.l [.I,.Y,.Y,.s] aN),(3,.l [.I,.Y,.Y,.s] aN),(8,.v [.I])]
noncomputable abbrev t2:=bh ct
noncomputable abbrev bU:=ax t2 [5] [(2,.l [.I,.Y,.Y,.s] aN),(3,.l [.I,.Y,.Y,.s] aN)]
noncomputable abbrev t3:=az bU
def dX:=bm t3 ct
def bB:=bm t3 a2
def aD:=aB t3 Cr [.a 4,.I,.Y,.Y,.s,.a 4,.I,.Y,.Y,.s]
end mQ
def j4{p:Addr}{K:Addr->Prop}(h:K p):dM (some p) K:=h
def A4{x y:Int}(l:List Int)(h:x<y):ef (cw x y::l)=-1:=by unfold ef cw;simp[h]
def A3{x y:Int}(l:List Int)(h:y<x):ef (cw x y::l)=1:=by unfold ef cw;rw[af (show ¬x<y by omega),aj h];simp
def A2{x y:Int}(l:List Int)(d:¬x<y)(e:¬y<x):ef (cw x y::l)=ef l:=by
 conv=>lhs;unfold ef cw
 rw[af d,af e];simp
abbrev RD(n:Nat):Prop:=∀(a b:I) (w:J),a.sz<=n->a.P w->b.P w->ak aa Cr #[a.v,b.v] w λr d=>r=ag (.int .i64 (a4 a.rx b.rx))/\ah w d
def Gp:∀n:Nat,n<=1000000->RD n
 |0,_=>λa b B e _ _=>absurd e (by have:=I.lH a;omega)
 |n+1,hn=>λa b B e pa pb=>by
  have ih:=Gp n (by omega);have hs:=I.hQ a;have hl:=I.fq a.l;have na:=I.cm pa.parts.1;have an:=I.cm pb.parts.1;have z:a4 a.rx b.rx=if ef [cw a.k b.k,cw a.lo.toNat b.lo.toNat,cw a.U.toNat b.U.toNat]≠0 then ef [cw a.k b.k,cw a.lo.toNat b.lo.toNat,cw a.U.toNat b.U.toNat]else cmpL (I.au a.l) (I.au b.l):=by rw[I.e0 a,I.e0 b];unfold a4;rfl
  have al:∀(d i:Nat) (q w:Nat) (H:J),i+d=a.l.length->i<=b.l.length->cmpL (I.au (a.l.drop i)) (I.au (b.l.drop i))=a4 a.rx b.rx->LH F0 B H [.g q,.g w] [.tree a,.tree b]->
    mQ.ct q a.k a.lo.toNat a.U.toNat a.s w b.k b.lo.toNat b.U.toNat b.s (i:Int) H λr M=>r=ag (.int .i64 (a4 a.rx b.rx))/\ah B M:=by
   intro d;induction d with
   |zero=>
    intro i q w H hi ad h C;rw[dC (by omega:a.l.length<=i)]at h;refine mQ.dX _ _ _ _ _ _ _ _ _ _ _ _ _ (a1 (aV (by omega)) (aG (λe=>⟨?_,C.fr⟩) (λe=>aG (λj=>?_) (λj=>⟨?_,C.fr⟩))))
    .rw [dy (by omega:i<b.l.length)]at h;rw[<-h];rfl
    .omega
    .rw [dC (by omega:b.l.length<=i)]at h;rw[<-h];rfl
   |succ d ak=>
    intro i q w H hi ad h C;have L:a.l[i]? =some (a.l[i]'(by omega)):=a6 (by omega);rw[dy (by omega:i<a.l.length)]at h;generalize a.l[i]'(by omega)=x at L h;have aq:=I.eg (aE L);refine mQ.dX _ _ _ _ _ _ _ _ _ _ _ _ _ (a3 (aP (by omega)) (aG (λaa=>⟨by omega,by omega,?_⟩) (λam=>aG (λe=>?_) (λe=>aG (λj=>⟨?_,C.fr⟩) (λj=>?_)))))
    .have Z:b.l[i]? =some (b.l[i]'(by omega)):=a6 (by omega);rw[dy (by omega:i<b.l.length)]at h;generalize b.l[i]'(by omega)=y at Z h;refine I.de (show a.P H from C.getD 0).parts.1 L λp hp _=>C.ai λA D=>?_;have c:=I.again (show a.P A from D.getD 0).parts.1 L hp;refine⟨_,_,_,_,c.c0,c.c1,c.c2,c.c3,by omega,by omega,I.de (show b.P A from D.getD 1).parts.1 Z λap hq T=>⟨_,_,_,_,T.c0,T.c1,T.c2,T.c3,D.ay (ih x y A (by omega) ((show a.P A from D.getD 0).parts.2.get L) ((show b.P A from D.getD 1).parts.2.get Z)) ?_⟩⟩;rintro _ V rfl E;have e2:cmpL (I.au (x::a.l.drop (i+1))) (I.au (y::b.l.drop (i+1)))=if a4 x.rx y.rx≠0 then a4 x.rx y.rx else cmpL (I.au (a.l.drop (i+1))) (I.au (b.l.drop (i+1))):=rfl;rw[e2]at h;refine⟨_,rfl,dv (λY=>⟨?_,E.fr⟩) (λY=>?_)⟩
     .rw [aj Y]at h;rw[h]
     .rw [af (by simpa using Y)]at h;rw[bd _ (by omega)];exact ak (i+1) q w V (by omega) (by omega) h E
    .omega
    .rw [dC (by omega:b.l.length<=i)]at h;rw[<-h];rfl
    .omega
  have W:∀(c:UInt8),ao .i64 (c.toNat:Int)=(c.toNat:Int):=λc=>aS _ (by have:=c.toNat_lt;omega);refine mQ.aD _ _ _ _ _ _ _ _ B _ ((bP [.tree a,.tree b] (by
   intro z h;simp only[av,aR,aT]at h;rcases h with rfl|rfl
   .exact pa
   .exact pb)).aJ λq H H1=>H1.aJ λw N H2=>H2.nw λA _ D=>D.nw λV _ E=>?_)
  have E:LH F0 B V [.g q,.g w,.c N.heap.size [.int .i64 a.k,.int .i64 (ao .i64 (a.lo.toNat:Int)),.int .i64 (ao .i64 (a.U.toNat:Int))] bR,.c A.heap.size [.int .i64 b.k,.int .i64 (ao .i64 (b.lo.toNat:Int)),.int .i64 (ao .i64 (b.U.toNat:Int))] bR] [.tree a,.tree b]:=E;rw[W,W,W,W]at E;have step:∀(i:Nat) (x y:Int) (O:J),i<3->([.int .i64 a.k,.int .i64 (a.lo.toNat:Int),.int .i64 (a.U.toNat:Int)]:List ab)[i]? =some (.int .i64 x)->([.int .i64 b.k,.int .i64 (b.lo.toNat:Int),.int .i64 (b.U.toNat:Int)]:List ab)[i]? =some (.int .i64 y)->
    LH F0 B O [.g q,.g w,.c N.heap.size [.int .i64 a.k,.int .i64 (a.lo.toNat:Int),.int .i64 (a.U.toNat:Int)] bR,.c A.heap.size [.int .i64 b.k,.int .i64 (b.lo.toNat:Int),.int .i64 (b.U.toNat:Int)] bR] [.tree a,.tree b]->
    (x<y->a4 a.rx b.rx=-1)->(y<x->a4 a.rx b.rx=1)->
    (¬x<y->¬y<x->∀Q,LH F0 B Q [.g q,.g w,.c N.heap.size [.int .i64 a.k,.int .i64 (a.lo.toNat:Int),.int .i64 (a.U.toNat:Int)] bR,.c A.heap.size [.int .i64 b.k,.int .i64 (b.lo.toNat:Int),.int .i64 (b.U.toNat:Int)] bR] [.tree a,.tree b]->mQ.a2 q a.k a.lo.toNat a.U.toNat a.s w b.k b.lo.toNat b.U.toNat b.s ⟨some (ae N.heap.size),3,3⟩ ⟨some (ae A.heap.size),3,3⟩ ((i+1:Nat):Int) Q λr M=>r=ag (.int .i64 (a4 a.rx b.rx))/\ah B M)->
    mQ.a2 q a.k a.lo.toNat a.U.toNat a.s w b.k b.lo.toNat b.U.toNat b.s ⟨some (ae N.heap.size),3,3⟩ ⟨some (ae A.heap.size),3,3⟩ (i:Int) O λr M=>r=ag (.int .i64 (a4 a.rx b.rx))/\ah B M:=by
   intro i x y O hi hx hy C aa ac hk;have S:((i:Nat):Int)<((3:Nat):Int):=by omega
   refine mQ.bB _ _ _ _ _ _ _ _ _ _ _ _ _ _ _ (a3 (aP (by omega)) ⟨by omega,S,j4 (C.ai λQ F=>⟨x,?_,by omega,S,j4 ⟨y,?_,aG (λe=>⟨by rw[aa e],F.fr⟩) (λe=>⟨by omega,S,j4 (F.ai λw7 G=>⟨x,?_,by omega,S,j4 ⟨y,?_,aG (λj=>⟨by rw[ac j],G.fr⟩) (λj=>?_)⟩⟩)⟩)⟩⟩)⟩)
   .rw [bF,Nat.mul_one];exact F.ld 2 i rfl hx
   .rw [bF,Nat.mul_one];exact F.ld 3 i rfl hy
   .rw [bF,Nat.mul_one];exact G.ld 2 i rfl hx
   .rw [bF,Nat.mul_one];exact G.ld 3 i rfl hy
   .rw [show ao .i64 ((i:Int)+1)=((i+1:Nat):Int)by rw[aS _ (by omega)];omega];exact hk e j w7 G
  show mQ.a2 _ _ _ _ _ _ _ _ _ _ _ _ ((0:Nat):Int) _ _;refine step 0 _ _ V (by omega) rfl rfl E (λe=>by rw[z,A4 _ e];rfl) (λe=>by rw[z,A3 _ e];rfl) (λK j O H5=>?_);rw[A2 _ K j]at z;refine step 1 _ _ O (by omega) rfl rfl H5 (λe=>by rw[z,A4 _ e];rfl) (λe=>by rw[z,A3 _ e];rfl) (λK j Q F=>?_);rw[A2 _ K j]at z;refine step 2 _ _ Q (by omega) rfl rfl F (λe=>by rw[z,A4 _ e];rfl) (λe=>by rw[z,A3 _ e];rfl) (λK j w7 G=>?_);rw[A2 _ K j]at z;refine mQ.bB _ _ _ _ _ _ _ _ _ _ _ _ _ _ _ (a1 rfl (al a.l.length 0 q w w7 (by omega) (by omega) ?_ (G.take 2)));rw[z];rfl
def qb(a b:I)(w:J)(h:a.sz<=1000000)(d:a.P w)(e:b.P w):ak aa Cr #[a.v,b.v] w λr j=>r=ag (.int .i64 (a4 a.rx b.rx))/\ah w j:=Gp 1000000 (bg _) a b w h d e
namespace sc
noncomputable abbrev t0:=aA aa Tryz.f133 [] [1]
abbrev P0:Ps:=[(1,.l [.I,.Y,.Y,.s] aN),(3,.v [.I]),(4,.v [.I])]
noncomputable def a2:=bj t0 [0,1,1,1,2] P0
noncomputable abbrev t1:=bh a2
noncomputable abbrev bT:=ax t1 [2,2,1,1,2] P0
noncomputable abbrev t2:=az bT
def bB:=bm t2 a2
def aD:=aB t2 Cs [.a 4,.I,.Y,.Y,.s]
end sc
namespace se
noncomputable abbrev t0:=aA aa Tryz.f147 [(3,ls [0,1,2,3,4,5,6,7,8,9,10,11,12,13,14,15,16,17,18,19,20,21,22,23,24,25,26,27,28,29])] [1]
abbrev P0:Ps:=[]
noncomputable abbrev bq:=ax t0 [0,1,1,1,3] P0
noncomputable abbrev t1:=az bq
noncomputable abbrev bT:=ax t1 [0,1,1,1,4] P0
noncomputable abbrev t2:=az bT
noncomputable def kg:=bj t2 [0,1,1,1,5] [(1,.l [.I,.Y,.Y,.s] aN),(5,.v [.I])]
noncomputable abbrev t3:=bh kg
def pO:=bm t3 kg
noncomputable abbrev bU:=ax t3 [5] [(1,.l [.I,.Y,.Y,.s] aN)]
noncomputable abbrev t4:=az bU
def aD:=aB t4 Ka [.a 4,.I,.Y,.Y,.s]
end se
namespace Hw
noncomputable abbrev t0:=aA aa Tryz.f134 [] [1]
def aD:=aB t0 J7 [.a 4,.I,.Y,.Y,.s]
end Hw
abbrev Rw(n:Nat):Prop:=∀(x:I) (w:J),x.sz<=n->x.P w->ak aa Cs #[x.v] w λr d=>r=ag (.int .i64 (x.sz:Int))/\ah w d
def F4:∀n:Nat,n<=1000000->Rw n
 |0,_=>λe x z _=>absurd z (by have:=I.lH e;omega)
 |n+1,O=>λe x z B=>by
  have G:=F4 n (by omega);have Q:=I.hQ e;have N:=I.fq e.l;have S:=I.cm B.parts.1;have loop:∀(d i m j:Nat) (h:J),i+d=e.l.length->m+I.aY (e.l.drop i)=e.sz->LH F0 x h [.g j] [.tree e]->sc.a2 j e.k e.lo.toNat e.U.toNat e.s (m:Int) (i:Int) h λr K=>r=ag (.int .i64 (e.sz:Int))/\ah x K:=by
   intro d;induction d with
   |zero=>
    intro i m j h F q w;rw[dC (by omega)]at q;refine sc.bB _ _ _ _ _ _ _ _ _ (a1 (aV (by omega)) ⟨?_,w.fr⟩);have:m=e.sz:=q;rw[this]
   |succ d H=>
    intro i m j h F q w;have y:e.l[i]? =some (e.l[i]'(by omega)):=a6 (by omega);rw[dy (by omega)]at q;generalize e.l[i]'(by omega)=a at y q;have M:m+(a.sz+I.aY (e.l.drop (i+1)))=e.sz:=q;have A:=aE y;have T:=I.eg A;refine sc.bB _ _ _ _ _ _ _ _ _ (a3 (aP (by omega)) (ia (show e.P h from w.getD 0) rfl y (w.ay (G a h (by omega) ((show e.P h from w.getD 0).parts.2.mem A)) ?_)));rintro _ L rfl D;refine⟨_,rfl,?_⟩;show sc.a2 _ _ _ _ _ _ _ _ _;rw[bd _ (by omega),aS _ (by omega)];have E:((m:Int)+(a.sz:Int))=((m+a.sz:Nat):Int):=by omega
    rw[E];exact H (i+1) (m+a.sz) j L (by omega) (by omega) D
  exact sc.aD _ _ _ _ x _ ((gE B).aJ λj h C=>loop e.l.length 0 1 j h (by omega) (by rw[List.drop_zero];omega) C)
def AK(x:I)(w:J)(h:x.sz<=1000000)(d:x.P w):ak aa Cs #[x.v] w λr e=>r=ag (.int .i64 (x.sz:Int))/\ah w e:=F4 1000000 (bg _) x w h d
def xY(k:Nat):Int:=if 6<=k then 1 else 0
def yd(k:Nat):Int:=if k<3 then 0 else if k<6 then 64 else 1
def V7{k:Nat}(h:k<8):([.i 0,.i 0,.i 0,.i 0,.i 0,.i 0,.i 1,.i 1]:List ab)[k]? =some (.i (xY k)):=by
 have:k=0\/k=1\/k=2\/k=3\/k=4\/k=5\/k=6\/k=7:=by omega
 rcases this with rfl|rfl|rfl|rfl|rfl|rfl|rfl|rfl<;>rfl
def WS{k:Nat}(h:k<8):([.i 0,.i 0,.i 0,.i 64,.i 64,.i 64,.i 1,.i 1]:List ab)[k]? =some (.i (yd k)):=by
 have:k=0\/k=1\/k=2\/k=3\/k=4\/k=5\/k=6\/k=7:=by omega
 rcases this with rfl|rfl|rfl|rfl|rfl|rfl|rfl|rfl<;>rfl
abbrev Rp(n:Nat):Prop:=∀(x:I) (w:J),x.sz<=n->x.P w->ak aa Ka #[x.v] w λr d=>r=ag (.bool (cN x.rx))/\ah w d
def Gg:∀n:Nat,n<=64->Rp n
 |0,_=>λe D q _=>absurd q (by have:=I.lH e;omega)
 |n+1,hn=>λe D q px=>by
  have ih:=Gg n (by omega);have hs:=I.hQ e;have hl:=I.fq e.l;have nr:=I.cm px.parts.1;have Q:(I.au e.l).length=e.s.n:=by rw[I.fk];simp[nr]
  have ee:(I.au e.l).isEmpty=aq (e.s.n=0):=by rw[<-Q,Bool.eq_iff_iff];simp
  have x:cN e.rx=(!(e.k !=2&&(e.lo !=0||e.U !=0))&&(if e.k=0\/e.k=1 then(I.au e.l).isEmpty else if e.k=2 then(I.au e.l).isEmpty&&aq (e.lo.toNat<=e.U.toNat)else if e.k=3\/e.k=4\/e.k=5 then dV (I.au e.l)else if e.k=6\/e.k=7 then(I.au e.l).length==1&&dV (I.au e.l)else false)):=by rw[I.e0];unfold cN;rfl
  rw[ee,Q]at x;have z8:∀u:UInt8,(u !=0)=aq (u.toNat≠0):=λu=>by rw[Bool.eq_iff_iff];simp only[bne_iff_ne,ne_eq,decide_eq_true_eq];exact not_congr ⟨λq=>by rw[q];rfl,λq=>UInt8.toNat_inj.1 (by simpa using q)⟩
  rw[z8,z8]at x;have bad:∀{h:Nat} {Y:J},cN e.rx=false->LH F0 D Y [.g h,.c (0:Nat) [] bR] []->True:=λ_ _=>trivial
  let W:aH:=λr Y=>r=ag (.bool (cN e.rx))/\ah D Y
  have loop:cN e.rx=dV (I.au e.l)->∀(d i h:Nat) (j:J),i+d=e.l.length->dV (I.au (e.l.drop i))=dV (I.au e.l)->LH F0 D j [.g h] [.tree e]->se.kg h e.k e.lo.toNat e.U.toNat e.s (i:Int) j W:=by
   intro M d;induction d with
   |zero=>
    intro i h j hi F G;rw[dC (by omega)]at F;refine se.pO _ _ _ _ _ _ _ _ (a1 (aV (by omega)) ⟨?_,G.fr⟩);rw[M,<-F];rfl
   |succ d ak=>
    intro i h j hi F G;have V:e.l[i]? =some (e.l[i]'(by omega)):=a6 (by omega);rw[dy (by omega)]at F;generalize e.l[i]'(by omega)=a at V F;have ma:=aE V;have am:=I.eg ma;have S:(cN a.rx&&dV (I.au (e.l.drop (i+1))))=dV (I.au e.l):=F;refine se.pO _ _ _ _ _ _ _ _ (a3 (aP (by omega)) (ia (show e.P j from G.getD 0) rfl V (G.ay (ih a j (by omega) ((show e.P j from G.getD 0).parts.2.mem ma)) ?_)));rintro _ E rfl H;refine⟨_,rfl,dN (λT=>⟨?_,H.fr⟩) (λht=>?_)⟩
    .rw [M,<-S,T];rfl
    .rw [bd _ (by omega)];rw[ht,Bool.true_and]at S;exact ak (i+1) h E (by omega) S H
  refine se.aD _ _ _ _ D _ ((gE px).aJ λh j H1=>H1.nw λE _ H=>H.nw λw3 _ N=>?_);have no:∀Y:J,LH F0 D Y [.g h,.c j.heap.size [.i 0,.i 0,.i 0,.i 64,.i 64,.i 64,.i 1,.i 1] bR,.c E.heap.size [.i 0,.i 0,.i 0,.i 0,.i 0,.i 0,.i 1,.i 1] bR] [.tree e]->cN e.rx=false->(Ending.returned (.bool false)=ag (.bool (cN e.rx))/\ah D Y):=λY H' T=>⟨by rw[T],H'.fr⟩;refine aG (λk0=>LH.ai N (λz w=>no z w ?_) (by simp)) (λk0=>aG (λk7=>LH.ai N (λz w=>no z w ?_) (by simp)) (λk7=>?_))
  .rw [x,af (by omega),af (by omega),af (by omega),af (by omega),Bool.and_false]
  .rw [x,af (by omega),af (by omega),af (by omega),af (by omega),Bool.and_false]
  obtain⟨A,hk⟩:=Int.eq_ofNat_of_zero_le (by omega:0<=e.k);have aa:A<8:=by omega
  refine⟨by omega,by show e.k<((8:Nat):Int);omega,(show dM (some (nb E)) _ from LH.ai N (λz w=>⟨xY A,?_,?_⟩) (by simp))⟩
  .have:=LH.ld (L:=[.g h,.c j.heap.size [.i 0,.i 0,.i 0,.i 64,.i 64,.i 64,.i 1,.i 1] bR,.c E.heap.size [.i 0,.i 0,.i 0,.i 0,.i 0,.i 0,.i 1,.i 1] bR]) w 2 A rfl (V7 aa);rw[hk,bF,Nat.mul_one];exact this
  refine aG (λC=>no z w ?_) (λC=>⟨by omega,by show e.k<((8:Nat):Int);omega,(show dM (some (nb j)) _ from⟨yd A,?_,?_⟩)⟩)
  .unfold xY at C;rw[x,af (by split at C<;>omega),af (by split at C<;>omega),af (by split at C<;>omega)];split
   .rename_i al;have:(e.s.n==1)=false:=by rw[beq_eq_false_iff_ne];split at C<;>omega
    rw[this];simp
   .simp
  .have:=LH.ld (L:=[.g h,.c j.heap.size [.i 0,.i 0,.i 0,.i 64,.i 64,.i 64,.i 1,.i 1] bR,.c E.heap.size [.i 0,.i 0,.i 0,.i 0,.i 0,.i 0,.i 1,.i 1] bR]) w 1 A rfl (WS aa);rw[hk,bF,Nat.mul_one];exact this
  refine aG (λB=>no z w ?_) (λB=>?_)
  .unfold yd at B;by_cases y:A<3
   .rw [aj y]at B;have ae:aq (e.s.n=0)=false:=aV (by omega);rw[x,ae];split
    .simp
    .split
     .simp
     .omega
   .rw [af y]at B;by_cases k5:A<6
    .rw [aj k5]at B;omega
    .rw [af k5]at B;have:(e.s.n==1)=false:=by rw[beq_eq_false_iff_ne];omega
     rw[x,this,af (by omega),af (by omega),af (by omega),aj (by omega)];simp
  have K:(A<3->e.s.n=0)/\(6<=A->e.s.n=1):=by
   unfold xY at C;unfold yd at B;refine⟨λq=>?_,λq=>?_⟩
   .rw [aj q]at B;omega
   .rw [aj q]at C;rw[af (by omega),af (by omega)]at B;omega
  have H5:LH F0 D z [.g h] [.tree e]:=LH.take (L:=[.g h,.c j.heap.size [.i 0,.i 0,.i 0,.i 64,.i 64,.i 64,.i 1,.i 1] bR,.c E.heap.size [.i 0,.i 0,.i 0,.i 0,.i 0,.i 0,.i 1,.i 1] bR]) w 1;have ab:A<3->dV (I.au e.l)=true:=λq=>by
   have h0:(I.au e.l).length=0:=by rw[Q,K.1 q]
   rw[List.length_eq_zero_iff.1 h0];rfl
  have go:cN e.rx=dV (I.au e.l)->se.bU h e.k e.lo.toNat e.U.toNat e.s z W:=λM=>loop M e.l.length 0 h z (by omega) (by simp) H5;refine aG (λad=>no z w ?_) (λad=>dv (λy=>aG (λac=>no z w ?_) (λac=>go ?_)) (λy=>go ?_))
  .rw [x];by_cases y:e.k=2
   .rw [af (by omega),aj y,aV (show ¬e.lo.toNat<=e.U.toNat by omega)];simp
   .have:(e.k !=2&&(aq (e.lo.toNat≠0)||aq (e.U.toNat≠0)))=true:=by rw[aP (show e.lo.toNat≠0 by omega)];simp[y]
    rw[this];rfl
  .have:(e.k !=2&&(aq (e.lo.toNat≠0)||aq (e.U.toNat≠0)))=true:=by rw[aP (show e.U.toNat≠0 by omega)];simp[y]
   rw[x,this];rfl
  .have O:(e.k !=2&&(aq (e.lo.toNat≠0)||aq (e.U.toNat≠0)))=false:=by rw[aV (show ¬e.lo.toNat≠0 by omega),aV (show ¬e.U.toNat≠0 by omega)];simp
   rw[x,O];by_cases Z:e.k=0\/e.k=1
   .rw [aj Z,ab (by omega),aP (K.1 (by omega))];rfl
   .rw [af Z,af y];by_cases c3:e.k=3\/e.k=4\/e.k=5
    .rw [aj c3];simp
    .rw [af c3,aj (by omega),K.2 (by omega)];simp
  .have O:(e.k !=2&&(aq (e.lo.toNat≠0)||aq (e.U.toNat≠0)))=false:=by rw[y];rfl
   rw[x,O,af (by omega),aj y,ab (by omega),aP (K.1 (by omega)),aP (show e.lo.toNat<=e.U.toNat by omega)];rfl
def TD(x:I)(w:J)(h:x.sz<=1000000)(y:x.P w):ak aa J7 #[x.v] w λr z=>r=ag (.int .i64 (jF x.rx))/\ah w z:=by
 refine Hw.aD _ _ _ _ w _ ((gE y).aJ λC A j=>j.ay (AK x A h (j.getD 0)) ?_);rintro _ B rfl d;refine⟨_,rfl,aG (λq=>⟨?_,d.fr⟩) (λq=>d.ay (Gg 64 (bg _) x B (by omega) (d.getD 0)) ?_)⟩
 .unfold jF;rw[I.eB,aj (by omega)]
 rintro _ D rfl k;refine⟨_,rfl,dN (λe=>⟨?_,k.fr⟩) (λe=>⟨?_,k.fr⟩)⟩
 .unfold jF;rw[I.eB,af (by omega),e];rfl
 .unfold jF;rw[I.eB,af (by omega),e];rfl
def EU{x:Rx}(h:jF x=0):cN x=true/\x.sz<=64:=by
 unfold jF at h;split at h
 .cases h
 .split at h
  .rename_i d;exact⟨d,by omega⟩
  .cases h
def Is:∀{l:List Rx} {a:Rx},dV l=true->a∈l->cN a=true
 |b::l,a,h,e=>by
  have d:(cN b&&dV l)=true:=h;rw[bf]at d;rcases av.1 e with rfl|e
  .exact d.1
  .exact Is d.2 e
namespace Ht
noncomputable abbrev t0:=aA aa Tryz.f82 [] [0]
def aD:=aB t0 nT []
end Ht
namespace oL
noncomputable abbrev t0:=aA aa Tryz.f127 [(2,ls [0,1,2,3,4,5,6,7,8,9,10,11,12]),(4,ls [0,1,2,3,4,5,6,7,8,9,10,11,12]),(7,(.sq [0,1,2,3,5] (.fork (ls [4,6,7,8]) (ls [6,4,7,8]))))] [3]
abbrev P0:Ps:=[(0,.v [.s]),(3,.l [.I,.Y,.Y,.s] aN),(5,.v [.I])]
noncomputable def a2:=bj t0 [0,2,2] P0
noncomputable abbrev t1:=bh a2
noncomputable abbrev cJ:=ax t1 [6] [(0,.v [.s]),(5,.v [.I]),(6,.v [.s])]
noncomputable abbrev t2:=az cJ
noncomputable abbrev bU:=ax t2 [4] P0
noncomputable abbrev t3:=az bU
noncomputable abbrev bT:=ax t3 [3] P0
noncomputable abbrev t4:=az bT
def bB:=bm t4 a2
def aD:=aB t4 Kf [.s,.a 4,.I,.Y,.Y,.s]
end oL
namespace hH
noncomputable abbrev t0:=aA aa Tryz.f105 [(9,ls [0,1,2,3,4,5,6,7,8,9,10,11,12]),(25,ls [0,1,2,3,4,5,6]),(27,ls [0,1,2,3,4,5,6])] [4,5,8,9]
noncomputable abbrev bq:=ax t0 [0,1,1,1,1,1,1,1,3] [(1,.v [.s]),(4,.l [.I,.Y,.Y,.s] aN)]
noncomputable abbrev t1:=az bq
abbrev P0:Ps:=[(0,.v [.I]),(1,.v [.s]),(4,.l [.I,.Y,.Y,.s] aN),(5,.l [.I,.Y,.Y,.s] aN),(6,.v [.s]),(7,.v [.I])]
noncomputable def ct:=bj t1 [0,1,1,1,5] P0
noncomputable abbrev t2:=bh ct
noncomputable abbrev bU:=ax t2 [2,2,1,1,5] P0
noncomputable abbrev t3:=az bU
abbrev P1:Ps:=[(0,.v [.I]),(4,.l [.I,.Y,.Y,.s] aN),(6,.v [.s]),(8,.l [.I,.Y,.Y,.s] aN),(9,.l [.I,.Y,.Y,.s] aN),(10,.v [.s]),(11,.v [.I])]
noncomputable def kg:=bj t3 [0,1,1,1,9] P1
noncomputable abbrev t4:=bh kg
noncomputable abbrev gI:=ax t4 [2,2,1,1,9] P1
noncomputable abbrev t5:=az gI
def pO:=bm t5 kg
def dX:=bm t5 ct
def aD:=aB t5 Kc [.I,.s]
end hH
namespace u4
noncomputable abbrev t0:=aA aa Tryz.f84 [] [1,2]
noncomputable def a2:=bj t0 [0,1,1,1,3] [(1,.l [.I,.Y,.Y,.s] aN),(2,.l [.I,.Y,.Y,.s] aN),(3,.v [.s]),(4,.v [.I])]
noncomputable abbrev t1:=bh a2
def bB:=bm t1 a2
def aD:=aB t1 vA [.a 4,.I,.Y,.Y,.s]
end u4
namespace Hy
noncomputable abbrev t0:=aA aa Tryz.f135 [] [1,2]
def aD:=aB t0 J' [.a 4,.I,.Y,.Y,.s]
end Hy
namespace Hu
noncomputable abbrev t0:=aA aa Tryz.f110 [] [1,2]
def aD:=aB t0 J3 [.a 4,.I,.Y,.Y,.s]
end Hu
end Go.Proofs.YthaledkcjibmfaaGreatDoor
