import Derived.Test.YtnaglpcbkhjpnabGreatDoorU
import Derived.Test.YtnaglpcbkhjpnabGreatDoorW
set_option linter.unusedVariables false
set_option linter.defProp false
set_option maxRecDepth 100000
noncomputable section
namespace Go.Proofs.YtnaglpcbkhjpnabGreatDoor
open Go renaming World->J,Calls->ai,Program->aJ,Value->aa,TypeId->aE,Ending->bW
open Go.IntKind renaming wrap->aj
open _root_.Int renaming toNat->a0,toNat_natCast->bB
open Go.IntWalk renaming i64_in->aQ
open _root_.Bool renaming and_eq_true->bH,not_eq_true->jI
open _root_.Nat renaming le_refl->br,le_trans->bb,zero_le->dW,mul_le_mul_right->qe,beq_eq->eS
open _root_.Prod.mk renaming injEq->eZ
open _root_.Option.some renaming inj->fb,injEq->fy
open _root_.Array renaming replicate->h4
open Go.Proofs.Tryz renaming prog->V
open _root_.Decidable renaming decide->av
open Go.Ending renaming returned->ae
open List renaming mem_append->aX,mem_cons->aq,not_mem_nil->aL,mem_of_getElem?->aD,getElem?_eq_getElem->a',getElem?_eq_some_iff->cX,mem_append_left->bV,mem_append_right->eD,mem_flatMap->cc,mem_map->bS,length_cons->bR,append_assoc->ck,length_take->f',flatMap_append->cW,flatMap_cons->cH,mem_iff_getElem?->hJ,mem_cons_of_mem->e6,mem_cons_self->oL,take_append_drop->mU,drop_eq_getElem_cons->dz,take_add_one->dV,map_cons->jf,drop_drop->q1,getElem?_set_self->kv,drop_of_length_le->c9,take_of_length_le->eO
open Go Go.W
def Hm(n:Nat)(h:n<18446744073709551616)(r:List UInt8):ft ⟨ew n++r,0⟩=(n,⟨r,0⟩):=by unfold ft;rw[ag ws,KH 9 0 n r rfl (by simpa using h) co]
def mc(n:Int)(h:aY n)(r:List UInt8):bd ⟨bJ n++r,0⟩=(n,⟨r,0⟩):=by unfold bd bJ;rw[Hm _ (Cz n h.1 h.2),agW]
def Tv(n:Nat)(h:n<18446744073709551616)(r:List UInt8)(d:n<=r.length):iQ ⟨ew n++r,0⟩=(n,⟨r,0⟩):=by unfold iQ;rw[Hm n h];simp only[];rw[ag ws,ag co]
def Bv(b:List UInt8)(h:b.length<18446744073709551616)(r:List UInt8):cA ⟨dF b++r,0⟩=(b,⟨r,0⟩):=by unfold cA dF;rw[ck,Tv _ h _ ws];simp
def Ty:∀(l:List Int) (r:List UInt8),(∀d∈l,aY d)->fo l.length ⟨l.flatMap bJ++r,0⟩=(l,⟨r,0⟩)
 |[],r,_=>rfl
 |d::l,r,h=>by simp only[bR,fo,cH,ck];rw[mc d (h d ws),];simp only[];rw[ag ws,Ty l r λk j=>h k (by simp[j])];simp
def Ab(n:Nat):1<=(ew n).length:=by
 have:=aau n;cases d:ew n with
 |nil=>exact absurd d this
 |cons=>simp
def Mg:∀(l:List Int),l.length<=(l.flatMap bJ).length
 |[]=>ws
 |d::l=>by have j:=Ab (zz d);have h:=Mg l;have:(bJ d).length=(ew (zz d)).length:=rfl;simp at h ⊢;omega
def vE(l:List Int)(h:l.length<18446744073709551616)(hi:∀d∈l,aY d)(r:List UInt8):c' ⟨cY l++r,0⟩=(l,⟨r,0⟩):=by unfold c' cY;rw[ck,Tv _ h _ (by have:=Mg l;simp at this ⊢;omega)];simp only[];rw[ag ws,Ty l r hi]
def aaW{w0 w Y:J}{own:List Nat}(F:af w0 w)(n:∀d∈own,w0.heap.size<=d)(f:Fr (·∈own) w Y):af w0 Y:=F.Wv f n
def adf{w0 w:J}{own j:List Nat}(F:af w0 w)(n:∀d∈own,w0.heap.size<=d)(o:∀d∈j,d∈own\/w.heap.size<=d):∀d∈j,w0.heap.size<=d:=λd k=>by
 rcases o d k with h|h
 .grind
 .exact bb F.size h
def Hl{st:RS}(h:(ft st).2.err=0):st.err=0/\st.U=ew (ft st).1++(ft st).2.U:=by
 unfold ft at h ⊢;by_cases d:st.err≠0
 .rw [au d]at h;exact absurd h d
 .rw [ag d]at h ⊢;refine⟨by simpa using d,?_⟩;cases j:jy 0 st.U with
  |more=>rw[j]at h;cases h
  |form=>rw[j]at h;cases h
  |ok n r=>exact(z0 9 0 _ _ _ rfl j).1
def ma{st:RS}(h:(bd st).2.err=0):st.err=0/\st.U=bJ (bd st).1++(bd st).2.U:=by have:=Hl (st:=st) h;unfold bd bJ;simp only[ahk];exact this
def Tu{st:RS}(h:(iQ st).2.err=0):st.err=0/\st.U=ew (iQ st).1++(iQ st).2.U/\(iQ st).1<=(iQ st).2.U.length:=by
 unfold iQ at h ⊢;by_cases d:(ft st).2.err≠0
 .simp only[au d]at h;exact absurd h d
 .simp only[ag d]at h ⊢;by_cases j:(ft st).2.U.length<(ft st).1
  .simp only[au j]at h;cases h
  .simp only[ag j]at h ⊢;have:=Hl h;exact⟨this.1,this.2,co⟩
def Bu{st:RS}(h:(cA st).2.err=0):st.err=0/\st.U=dF (cA st).1++(cA st).2.U:=by
 unfold cA at h ⊢;by_cases d:(iQ st).2.err≠0
 .simp only[au d]at h;exact absurd h d
 .simp only[ag d]at h ⊢;obtain⟨j,k,q⟩:=Tu (st:=st) (by simpa using d);refine⟨j,?_⟩;unfold dF;rw[f',Nat.min_eq_left q,ck,mU];exact k
def Tx:∀(n:Nat) (st:RS),(fo n st).2.err=0->st.err=0/\st.U=(fo n st).1.flatMap bJ++(fo n st).2.U/\(fo n st).1.length=n
 |0,st,d=>⟨d,rfl,rfl⟩
 |n+1,st,d=>by
  simp only[fo]at d ⊢;by_cases j:(bd st).2.err≠0
  .simp only[au j]at d;exact absurd d j
  .simp only[ag j]at d ⊢;by_cases h:(fo n (bd st).2).2.err≠0
   .simp only[au h]at d;exact absurd d h
   .simp only[ag h]at d ⊢;obtain⟨k,q,w⟩:=Tx n _ d;obtain⟨x,y⟩:=ma (st:=st) k;refine⟨x,?_,by simp[w]⟩;rw[cH,ck,<-q];exact y
def vD{st:RS}(h:(c' st).2.err=0):st.err=0/\st.U=cY (c' st).1++(c' st).2.U:=by
 unfold c' at h ⊢;by_cases d:(iQ st).2.err≠0
 .simp only[au d]at h;exact absurd h d
 .simp only[ag d]at h ⊢;obtain⟨q,w,y⟩:=Tu (st:=st) (by simpa using d);obtain⟨x,j,k⟩:=Tx _ _ h;refine⟨q,?_⟩;unfold cY;rw[k,ck,<-j];exact w
def Tw(st:RS):(iQ st).1<=st.U.length/\(iQ st).2.U.length<=st.U.length:=by
 have d:=Bw (st:=st) (br _);unfold iQ;by_cases h:(ft st).2.err≠0
 .simp only[au h];exact⟨dW _,d⟩
 .simp only[ag h];by_cases j:(ft st).2.U.length<(ft st).1
  .simp only[au j];exact⟨dW _,d⟩
  .simp only[ag j];exact⟨co,d⟩
def Tz:∀(n:Nat) (st:RS),(fo n st).1.length<=n/\∀h∈(fo n st).1,aY h
 |0,st=>⟨br _,by simp[fo]⟩
 |n+1,st=>by
  simp only[fo];by_cases k:(bd st).2.err≠0
  .simp only[au k];exact⟨ws,ws⟩
  .simp only[ag k];by_cases j:(fo n (bd st).2).2.err≠0
   .simp only[au j];exact⟨ws,ws⟩
   .simp only[ag j];have q:=Tz n (bd st).2;refine⟨by simp;exact q.1,λh d=>?_⟩;rcases aq.1 d with rfl|d
    .exact WD _ (vH st)
    .exact q.2 h d
end Go.Proofs.YtnaglpcbkhjpnabGreatDoor
namespace Go.W
open Go renaming World->J,Calls->ai,Program->aJ,Value->aa,TypeId->aE,Ending->bW
open Go.IntKind renaming wrap->aj
open _root_.Int renaming toNat->a0,toNat_natCast->bB
open Go.IntWalk renaming i64_in->aQ
open _root_.Bool renaming and_eq_true->bH,not_eq_true->jI
open _root_.Nat renaming le_refl->br,le_trans->bb,zero_le->dW,mul_le_mul_right->qe,beq_eq->eS
open _root_.Prod.mk renaming injEq->eZ
open _root_.Option.some renaming inj->fb,injEq->fy
open _root_.Array renaming replicate->h4
open Go.Proofs.Tryz renaming prog->V
open _root_.Decidable renaming decide->av
open Go.Ending renaming returned->ae
open List renaming mem_append->aX,mem_cons->aq,not_mem_nil->aL,mem_of_getElem?->aD,getElem?_eq_getElem->a',getElem?_eq_some_iff->cX,mem_append_left->bV,mem_append_right->eD,mem_flatMap->cc,mem_map->bS,length_cons->bR,append_assoc->ck,length_take->f',flatMap_append->cW,flatMap_cons->cH,mem_iff_getElem?->hJ,mem_cons_of_mem->e6,mem_cons_self->oL,take_append_drop->mU,drop_eq_getElem_cons->dz,take_add_one->dV,map_cons->jf,drop_drop->q1,getElem?_set_self->kv,drop_of_length_le->c9,take_of_length_le->eO
def G1{w:J}{e:aE}{sz:Nat}{s:Sl}{vs:List aa}(h:aG w e sz s vs)(i:Nat)(hi:i<vs.length)(v:aa):
  ∃p,s.a=some p/\p.block∈az s/\(w.cell? (p.add i)).isSome=true/\w.frozen? (p.add i)=false/\aG (w.setCell (p.add i) v) e sz s (vs.set i v)/\Fr (·∈az s) w (w.setCell (p.add i) v):=by
 have B:=h.len;rcases h.cases with⟨rfl,rfl⟩|⟨g,cur,d,j,k,x,y,z⟩
 .simp at hi
 .have C:s.n *sz<=s.c *sz:=qe _ k;have A:i<cur.size:=co
  have q:g∈az s:=by simp[az,d]
  refine⟨⟨g,0,none⟩,d,q,?_,frozenAt (p:=⟨g,0,none⟩) j,?_,Fr.set _ _ _ (by rw[jO];exact q)⟩
  .rw [cellAt (p:=⟨g,0,none⟩) (v:=cur[i]) j rfl (by simp[A])];rfl
  .refine ⟨by simpa using h.1,.inr ⟨g,s.c,cur.setIfInBounds i v,?_,dW _,?_,k,x,by simpa using y,?_⟩⟩
   .obtain ⟨a,n,c⟩:=s;simp only at d;subst d;rfl
   .have:=setAt (p:=⟨g,0,none⟩) (i:=i) (v:=v) j rfl;simpa using this
   .rw [Array.toList_setIfInBounds,List.take_set,z]
section
variable {M:Nat->Prop} {w0 w:J} {L D:List En} {U:List Nat}
def LH.Ao(H:LH M w0 w L D){i:Nat}{e:aE}{sz:Nat}{s:Sl}{xs:List aa}(hi:L[i]? =some (.row e sz s xs)){b:Nat}(y:En.g b∈L):b∉az s:=λk=>by
 obtain⟨A,d⟩:=hJ.1 y;by_cases j:i=A
 .subst j;rw[hi]at d;have q:En.row e sz s xs=En.g b:=fb d;have x:(En.row e sz s xs).P=(En.g b).P:=by rw[q]
  have h:(En.g b).P ({w with heap:=h4 (b+1) (.map #[] 0)}):=by show b<_;simp
  rw[<-x]at h;obtain⟨B,f,z⟩:=(aG.row (show aG ({w with heap:=h4 (b+1) (.map #[] 0)}) e sz s xs from h)).wh b k;simp at z
 .exact mE H.nd hi d j b k (by simp[En.g])
def LH.oV(H:LH M w0 w L D)(i a c:Nat){e:aE}{sz:Nat}{s:Sl}{xs:List aa}{v:aa}{p:Addr}{K:J->Prop}(hi:L[i]? =some (.row e sz s xs))(A:s.a=some p)(y:a+c<xs.length)(x:∀j,LH M w0 j (L.set i (.row e sz s (xs.set (a+c) v))) D->K j)(bG:∀b∈U,En.g b∈L:=by simp):aS w ((p.add a).add c) v λk=>kept U w k/\K k:=by obtain⟨G,h,F,B,C,E,q⟩:=G1 (H.get i hi) (a+c) y v;rw[A]at h;cases h;rw[add_add];refine⟨B,C,λb d=>?_,x _ (H.g4 i (.row e sz s (xs.set (a+c) v)) hi q E (λb d=>.inl d))⟩;exact q.cB b (H.own _ (bG b d)) λz=>H.Ao hi (bG b d) z
end
def jh:List Bool->List En->List En
 |true::m,a::l=>a::jh m l
 |false::m,_::l=>jh m l
 |_,_=>[]
def vS:∀(m:List Bool) (l:List En),(jh m l).Sublist l
 |[],l=>by unfold jh;exact List.nil_sublist _
 |true::m,[]=>by unfold jh;exact List.nil_sublist _
 |false::m,[]=>by unfold jh;exact List.nil_sublist _
 |true::m,a::l=>by unfold jh;exact(vS m l).cons_cons a
 |false::m,a::l=>by unfold jh;exact(vS m l).cons a
def agj{α β:Type}{f:α->List β}{l m:List α}(h:l.Sublist m):(l.flatMap f).Sublist (m.flatMap f):=by
 induction h with
 |slnil=>exact List.Sublist.refl _
 |cons a _ d=>rw[cH];exact d.trans (List.sublist_append_right _ _)
 |cons_cons a _ d=>rw[cH,cH];exact(List.Sublist.refl _).append d
def LH.jh{M:Nat->Prop}{w0 w:J}{L D:List En}(H:LH M w0 w L D)(m:List Bool):LH M w0 w (jh m L) D:=
 ⟨H.fr,λe d=>H.own e ((vS m L).subset d),H.rd,λe d=>H.new e ((vS m L).subset d),(agj (vS m L)).nodup H.nd,λe d b j h k=>H.dj e d b j h ((vS m L).subset k)⟩
def eP{s:Sl}{vs:List aa}{n:Nat}(h:∀b∈az s,n<=b):∀b∈(En.rd s vs).fp,n<=b:=λb d=>by
 have:b∈(if vs=[]then[]else az s):=d;split at this
 .cases this
 .exact h b this
def ou{M:Nat->Prop}{w0 w:J}{L D:List En}(H:LH M w0 w L D){i:Nat}{e:En}(hi:L[i]? =some e)(x:∀(b:Nat),¬e.P ({w with heap:=h4 (b+1) (.map #[] 0)})){b:Nat}(k:En.g b∈L):b∉e.fp:=by
 obtain⟨y,d⟩:=hJ.1 k;by_cases h:i=y
 .subst h;rw[hi]at d;have j:e=En.g b:=fb d;exfalso;refine x b ?_;rw[j];show b<_;simp
 .intro q;exact mE H.nd hi d h b q (by simp[En.g])
section
variable {M:Nat->Prop} {w0 w:J} {L D:List En} {U:List Nat}
def LH.pU(H:LH M w0 w L D)(i j:Nat){e:aE}{sz:Nat}{s:Sl}{xs:List aa}{v:aa}{p:Addr}{K:J->Prop}(hi:L[i]? =some (.row e sz s xs))(B:s.a=some p)(z:j<xs.length)(y:∀k,LH M w0 k (L.set i (.row e sz s (xs.set j v))) D->K k)(bG:∀b∈U,En.g b∈L:=by simp):aS w (p.add j) v λq=>kept U w q/\K q:=by obtain⟨I,h,G,C,E,F,x⟩:=G1 (H.get i hi) j z v;rw[B]at h;cases h;refine⟨C,E,λb d=>?_,y _ (H.g4 i (.row e sz s (xs.set j v)) hi x F (λb d=>.inl d))⟩;exact x.cB b (H.own _ (bG b d)) λA=>H.Ao hi (bG b d) A
end
def qV{p:Addr}{K:Addr->Prop}(h:K p):eh (some p) K:=h
def HD{w:J}{e:aE}{s:Sl}{vs:List aa}(h:aG w e 1 s vs){X:Int}{i:Nat}(d:X=(i:Int)){v:aa}(hi:vs[i]? =some v){K:Addr->Prop}(j:∀p,s.a=some p->w.cell? (p.add (a0 X *1))=some v->K p):
  fx s X K:=by have q:=h.len;have k:=(cX.1 hi).1;subst d;exact⟨co,co,Rd.get h.hq (i:=i) (v:=v) hi ws j⟩
def Vu{w:J}{p:Addr}{v:aa}{K:J->Prop}(h:aS w p v λd=>kept [] w d/\K d):aS w p v K:=⟨h.1,h.2.1,h.2.2.2⟩
end Go.W
namespace Go.Proofs.YtnaglpcbkhjpnabGreatDoor
open Go renaming World->J,Calls->ai,Program->aJ,Value->aa,TypeId->aE,Ending->bW
open Go.IntKind renaming wrap->aj
open _root_.Int renaming toNat->a0,toNat_natCast->bB
open Go.IntWalk renaming i64_in->aQ
open _root_.Bool renaming and_eq_true->bH,not_eq_true->jI
open _root_.Nat renaming le_refl->br,le_trans->bb,zero_le->dW,mul_le_mul_right->qe,beq_eq->eS
open _root_.Prod.mk renaming injEq->eZ
open _root_.Option.some renaming inj->fb,injEq->fy
open _root_.Array renaming replicate->h4
open Go.Proofs.Tryz renaming prog->V
open _root_.Decidable renaming decide->av
open Go.Ending renaming returned->ae
open List renaming mem_append->aX,mem_cons->aq,not_mem_nil->aL,mem_of_getElem?->aD,getElem?_eq_getElem->a',getElem?_eq_some_iff->cX,mem_append_left->bV,mem_append_right->eD,mem_flatMap->cc,mem_map->bS,length_cons->bR,append_assoc->ck,length_take->f',flatMap_append->cW,flatMap_cons->cH,mem_iff_getElem?->hJ,mem_cons_of_mem->e6,mem_cons_self->oL,take_append_drop->mU,drop_eq_getElem_cons->dz,take_add_one->dV,map_cons->jf,drop_drop->q1,getElem?_set_self->kv,drop_of_length_le->c9,take_of_length_le->eO
open Go Go.W
def bK{w:J}(D:List En)(h:∀e∈D,e.P w):LH F0 w w [] D:=LH.start D h
inductive Rx where
 |mk (k:Int) (lo hi:UInt8) (l:List Rx)
inductive I where
 |mk (k:Int) (lo hi:UInt8) (s:Sl) (l:List I)
namespace I
def k:I->Int|.mk k _ _ _ _=>k
def lo:I->UInt8|.mk _ lo _ _ _=>lo
def hi:I->UInt8|.mk _ _ hi _ _=>hi
def s:I->Sl|.mk _ _ _ s _=>s
def l:I->List I|.mk _ _ _ _ l=>l
mutual
def rx:I->Rx|.mk k lo hi _ l=>.mk k lo hi (aw l)
def aw:List I->List Rx
 |[]=>[]
 |t::l=>t.rx::aw l
end
mutual
def sz:I->Nat|.mk _ _ _ _ l=>1+a9 l
def a9:List I->Nat
 |[]=>0
 |t::l=>t.sz+a9 l
end
def c(t:I):List aa:=[.int .i64 t.k,.int .u8 (t.lo.toNat:Int),.int .u8 (t.hi.toNat:Int),t.s.v]
abbrev v(t:I):aa:=.agg #[.int .i64 t.k,.int .u8 (t.lo.toNat:Int),.int .u8 (t.hi.toNat:Int),t.s.v]
abbrev row(s:Sl)(l:List I):En:=.bf 4 s (l.flatMap c)
mutual
def P(w:J):I->Prop|.mk _ _ _ s l=>bN 4 w s (l.flatMap c)/\Ps w l
def Ps(w:J):List I->Prop
 |[]=>True
 |t::l=>P w t/\Ps w l
end
mutual
def fp:I->List Nat|.mk _ _ _ s l=>(row s l).fp++bj l
def bj:List I->List Nat
 |[]=>[]
 |t::l=>fp t++bj l
end
def ke(t:I):(c t).length=4:=rfl
def e1(l:List I):(l.flatMap c).length=l.length *4:=qE c 4 ke l
def cI{w:J}{s:Sl}{l:List I}(h:bN 4 w s (l.flatMap c)):s.n=l.length:=by have:=h.1;rw[e1]at this;omega
def gb:∀l:List I,aw l=l.map rx
 |[]=>rfl
 |t::l=>by unfold aw;rw[gb l];rfl
mutual
def cB{w Y:J}:∀(t:I),(∀b∈t.fp,b<w.heap.size->Y.heap[b]? =w.heap[b]?)->P w t->P Y t
 |.mk k lo hi s l,d,j=>by unfold fp at d;unfold P at j ⊢;exact⟨(row s l).st w Y (λb h=>d b (bV _ h)) j.1,keeps l (λb h=>d b (eD _ h)) j.2⟩
def keeps{w Y:J}:∀(l:List I),(∀b∈bj l,b<w.heap.size->Y.heap[b]? =w.heap[b]?)->Ps w l->Ps Y l
 |[],_,_=>by unfold Ps;trivial
 |t::l,d,j=>by unfold bj at d;unfold Ps at j ⊢;exact⟨cB t (λb h=>d b (bV _ h)) j.1,keeps l (λb h=>d b (eD _ h)) j.2⟩
end
mutual
def lt{w:J}:∀(t:I),P w t->∀b∈t.fp,b<w.heap.size
 |.mk k lo hi s l,h,b,d=>by
  unfold fp at d;unfold P at h;rcases aX.1 d with d|d
  .exact (row s l).lt w h.1 b d
  .exact FV l h.2 b d
def FV{w:J}:∀(l:List I),Ps w l->∀b∈bj l,b<w.heap.size
 |[],_,b,d=>by unfold bj at d;cases d
 |t::l,h,b,d=>by
  unfold bj at d;unfold Ps at h;rcases aX.1 d with d|d
  .exact lt t h.1 b d
  .exact FV l h.2 b d
end
def P.bz{w Y:J}{t:I}(h:P w t)(f:af w Y):P Y t:=cB t (λb _ d=>f.cB b d id) h
def Ps.bz{w Y:J}{l:List I}(h:Ps w l)(f:af w Y):Ps Y l:=keeps l (λb _ d=>f.cB b d id) h
def Ps.get{w:J}:∀{l:List I},Ps w l->∀{i:Nat} {t:I},l[i]? =some t->P w t
 |[],_,i,t,d=>by simp at d
 |a::l,h,0,t,d=>by unfold Ps at h;simp at d;subst d;exact h.1
 |a::l,h,i+1,t,d=>by unfold Ps at h;exact Ps.get h.2 (by simpa using d)
def Ps.mem{w:J}{l:List I}(h:Ps w l){t:I}(d:t∈l):P w t:=by obtain⟨i,hi⟩:=hJ.1 d;exact h.get hi
def jd{w:J}:∀{l:List I},(∀t∈l,P w t)->Ps w l
 |[],_=>by unfold Ps;trivial
 |t::l,d=>by unfold Ps;exact⟨d t ws,jd λj h=>d j (by simp[h])⟩
def b':∀{l:List I} {b:Nat},b∈bj l↔∃t∈l,b∈t.fp
 |[],b=>by unfold bj;simp
 |t::l,b=>by unfold bj;rw[aX,b'];simp
def eK:∀{l:List I} {t:I},t∈l->t.sz<=a9 l
 |a::l,t,d=>by
  unfold a9;rcases aq.1 d with rfl|d
  .omega
  .have:=eK d;omega
def m3(t:I):1<=t.sz:=by cases t;unfold sz;omega
def gh:∀l:List I,l.length<=a9 l
 |[]=>ws
 |t::l=>by have:=gh l;have:=m3 t;unfold a9;simp only[bR];omega
def P.parts{w:J}{t:I}(h:P w t):bN 4 w t.s (t.l.flatMap c)/\Ps w t.l:=by cases t;unfold P at h;exact h
def gU{t:I}{b:Nat}:b∈t.fp↔b∈(row t.s t.l).fp\/b∈bj t.l:=by cases t;unfold fp;exact aX
def iR(t:I):t.sz=1+a9 t.l:=by cases t;rfl
def fF(t:I):t.rx=.mk t.k t.lo t.hi (aw t.l):=by cases t;rfl
structure gy(w:J)(p:Addr)(i:Nat)(t:I):Prop where
 c0:w.cell? ((p.add (i *4)).add 0)=some (.int .i64 t.k)
 c1:w.cell? ((p.add (i *4)).add 1)=some (.int .u8 (t.lo.toNat:Int))
 c2:w.cell? ((p.add (i *4)).add 2)=some (.int .u8 (t.hi.toNat:Int))
 c3:w.cell? ((p.add (i *4)).add 3)=some t.s.v
def dE{w:J}{s:Sl}{l:List I}(h:bN 4 w s (l.flatMap c)){i:Nat}{t:I}(hi:l[i]? =some t){K:Addr->Prop}(j:∀p,s.a=some p->gy w p i t->K p):eh s.a K:=
 fN.elem (f:=c) (sz:=4) ke co h.2.2 hi λp k d=>j p k ⟨d 0 _ rfl,d 1 _ rfl,d 2 _ rfl,d 3 _ rfl⟩
def again{w:J}{s:Sl}{l:List I}(h:bN 4 w s (l.flatMap c)){i:Nat}{t:I}(hi:l[i]? =some t){p:Addr}(z:s.a=some p):gy w p i t:=by have k:=dE h hi (K:=λj=>∃q,s.a=some q/\gy w q i t) (λj d y=>⟨j,d,y⟩);rw[z]at k;obtain⟨j,d,x⟩:=k;cases d;exact x
end I
def _root_.Go.W.En.tree(t:I):En:=⟨kp t.fp,λj=>t.P j,λj q k h=>I.cB t (λb d=>k b (aT.2 d)) h,λj h b d=>I.lt t h b (aT.1 d),pH _⟩
def _root_.Go.W.En.trees(l:List I):En:=⟨kp (I.bj l),λj=>I.Ps j l,λj q k h=>I.keeps l (λb d=>k b (aT.2 d)) h,λj h b d=>I.FV l h b (aT.1 d),pH _⟩
namespace Rx
def k:Rx->Int|.mk k _ _ _=>k
def lo:Rx->UInt8|.mk _ lo _ _=>lo
def hi:Rx->UInt8|.mk _ _ hi _=>hi
def l:Rx->List Rx|.mk _ _ _ l=>l
mutual
def sz:Rx->Nat|.mk _ _ _ l=>1+a9 l
def a9:List Rx->Nat
 |[]=>0
 |t::l=>t.sz+a9 l
end
end Rx
mutual
def I.eX:∀t:I,t.rx.sz=t.sz
 |.mk h lo d s l=>by unfold I.rx Rx.sz I.sz;rw[I.yN l]
def I.yN:∀l:List I,Rx.a9 (I.aw l)=I.a9 l
 |[]=>rfl
 |t::l=>by unfold I.aw Rx.a9 I.a9;rw[I.eX t,I.yN l]
end
set_option maxRecDepth 100000
set_option maxHeartbeats 2000000
namespace Ei
def ok:=ay (ax V Tryz.f274 [] []) ac9 [.I]
end Ei
namespace Eh
def ok:=ay (ax V Tryz.f275 [] []) ac8 [.Y]
end Eh
namespace Ks
def ok:=ay (ax V Tryz.f259 [] []) N8 [.I,.I]
end Ks
namespace Kr
def ok:=ay (ax V Tryz.f260 [] []) N7 [.Y,.Y]
end Kr
namespace xi
def L0:=bh (ax V Tryz.f258 [] []) [0,1,1,1,2] [(3,.I),(6,.s),(7,.I),(8,.I)]
abbrev t1:=bg L0
def bE:=bm t1 L0
def ok:=ay t1 F5 [.s]
end xi
namespace TO
def aC:=ay (ax V Tryz.f244 [(1,ls [0,1,2,3,5,6,7,8,10,11,12,13,4,9,14,15,16,17])] [2,3]) cE [.a 4,.I,.Y,.Y,.s,.a 4,.I,.Y,.Y,.s]
end TO
namespace yS
def a6:=bh (ax V Tryz.f261 [] [8,9]) [0,1,1,1,1] [(0,.s),(1,.s),(2,.v [.g cE 0 0]),(11,.s),(12,.I),(13,.I)]
abbrev t1:=bg a6
def bD:=bm t1 a6
def aC:=ay t1 Qo [.s,.s,.g cE 0 0]
end yS
namespace TU
def aC:=ay (ax V Tryz.f242 [] [2,3]) sH [.a 4,.I,.Y,.Y,.s,.a 4,.I,.Y,.Y,.s]
end TU
def cO(a b:Int):Int:=if a<b then -1 else if b<a then 1 else 0
def eI:List Int->Int
 |[]=>0
 |c::l=>if c≠0 then c else eI l
def Zf(a b:Int)(w:J):ai V N8 #[.int .i64 a,.int .i64 b] w λr q=>r=ae (.int .i64 (cO a b))/\af w q:=by
 refine Ks.ok (Ei.ok ⟨_,rfl,Ei.ok ⟨_,rfl,?_⟩⟩);have j:(a !=a)=false:=ws
 have k:(b !=b)=false:=ws
 rw[j,k];refine aN rfl (aN rfl (aF (λd=>⟨?_,Fr.refl _ _⟩) (λd=>aF (λh=>⟨?_,Fr.refl _ _⟩) (λh=>⟨?_,Fr.refl _ _⟩))))
 .unfold cO;rw[au d]
 .unfold cO;rw[ag d,au h]
 .unfold cO;rw[ag d,ag h]
def J6(a b:Int)(w:J):ai V N7 #[.int .u8 a,.int .u8 b] w λr q=>r=ae (.int .i64 (cO a b))/\af w q:=by
 refine Kr.ok (Eh.ok ⟨_,rfl,Eh.ok ⟨_,rfl,?_⟩⟩);have j:(a !=a)=false:=ws
 have k:(b !=b)=false:=ws
 rw[j,k];refine aN rfl (aN rfl (aF (λd=>⟨?_,Fr.refl _ _⟩) (λd=>aF (λh=>⟨?_,Fr.refl _ _⟩) (λh=>⟨?_,Fr.refl _ _⟩))))
 .unfold cO;rw[au d]
 .unfold cO;rw[ag d,au h]
 .unfold cO;rw[ag d,ag h]
def adP{w:J}{s:Sl}{l:List Int}(h:bx w s l)(B:l.length<=1000000):ai V F5 #[s.v] w λr q=>r=ae (.int .i64 (eI l))/\af w q:=by
 refine xi.ok ?_;have C:=bx.len h;have loop:∀(d i:Nat),i+d=l.length->eI (l.drop i)=eI l->xi.L0 0 s (s.n:Int) (i:Int) w λr q=>r=ae (.int .i64 (eI l))/\af w q:=by
  intro d;induction d with
  |zero=>
   intro i y j;rw[c9 co]at j;exact xi.bE (aN (aW co) ⟨by rw[<-j];rfl,Fr.refl _ _⟩)
  |succ d A=>
   intro i y j;have x:l[i]? =some (l[i]'co):=a' co;rw[dz co]at j;generalize l[i]'co=c at x j;refine xi.bE (aM (aR co) ⟨co,co,bx.cell h x ws λp _ z=>⟨c,z,dA (λk=>?_) (λk=>?_)⟩⟩)
   .refine ⟨?_,Fr.refl _ _⟩;rw[<-j];unfold eI;rw[au k]
   .rw [bc _ co];refine A (i+1) co ?_;rw[<-j];conv=>rhs;unfold eI
    rw[ag (by simpa using k)]
 exact loop l.length 0 co ws
def adD(w:J)(l:List Int)(n:Nat)(d:n=l.length):bx (w.alloc (.cells (l.map a5).toArray cb)) ⟨some (ab w.heap.size),n,n⟩ l:=
 ⟨by simp[d],br _,(Row.made w cb n n (l.map a5)).uz⟩
section
variable {M:Nat->Prop} {w0 w:J} {L D:List En} {U:List Nat}
def _root_.Go.W.LH.or(H:LH M w0 w L D){l:List Int}{n:Nat}{K:aK}(q:n=l.length)(k:l.length<=1000000)(j:∀d,LH M w0 d L D->K (ae (.int .i64 (eI l))) d):
  dG w (.cells (l.map a5).toArray cb) λy=>ep U V F5 #[.slice (some (Addr.mk w.heap.size 0 none)) n n] y K:=
 (H.bz (Fr.alloc _ _ _)).aA (adP (s:=⟨some (ab w.heap.size),n,n⟩) (adD w l n q) k) λ_ d x h=>x▸j d h
end
mutual
def be:Rx->Rx->Int
 |.mk h lo d l,b=>if eI [cO h b.k,cO lo.toNat b.lo.toNat,cO d.toNat b.hi.toNat]≠0 then eI [cO h b.k,cO lo.toNat b.lo.toNat,cO d.toNat b.hi.toNat]else cmpL l b.l
def cmpL:List Rx->List Rx->Int
 |[],[]=>0
 |[],_::_=>-1
 |_::_,[]=>1
 |a::l,b::m=>if be a b≠0 then be a b else cmpL l m
end
abbrev IV(n:Nat):Prop:=∀(a b:I) (w:J),a.sz<=n->a.P w->b.P w->ai V cE #[a.v,b.v] w λr d=>r=ae (.int .i64 (be a.rx b.rx))/\af w d
def YC(n:Nat)(hn:n<=1000000)(U:IV n)(j lb:List I)(k q:Sl)(w:J)(H:bN 4 w k (j.flatMap I.c))(K:bN 4 w q (lb.flatMap I.c))(Y:I.Ps w j)(Z:I.Ps w lb)(hs:I.a9 j<=n):
  ai V Qo #[k.v,q.v,.func (.func cE) #[] #[]] w λr F=>r=ae (.int .i64 (cmpL (I.aw j) (I.aw lb)))/\af w F:=by
 have na:=I.cI H;have nb:=I.cI K;have hl:=I.gh j;have loop:∀(d i:Nat) (B:J),i+d=j.length->i<=lb.length->cmpL (I.aw (j.drop i)) (I.aw (lb.drop i))=cmpL (I.aw j) (I.aw lb)->LH F0 w B [] [I.row k j,I.row q lb,.trees j,.trees lb]->
   yS.a6 k q k (k.n:Int) (i:Int) B λr F=>r=ae (.int .i64 (cmpL (I.aw j) (I.aw lb)))/\af w F:=by
  intro d;induction d with
  |zero=>
   intro i B P Q h x;rw[c9 co]at h;refine yS.bD (aN (aW co) (aF (λN=>⟨?_,x.fr⟩) (λN=>⟨?_,x.fr⟩)))
   .rw [dz co]at h;rw[<-h];rfl
   .rw [c9 co]at h;rw[<-h];rfl
  |succ d W=>
   intro i B P Q h x;have z:j[i]? =some (j[i]'co):=a' co;rw[dz co]at h;generalize j[i]'co=a at z h;refine yS.bD (aM (aR co) ⟨co,co,?_⟩);refine I.dE (x.getD 0) z λp hp c=>⟨_,_,_,_,c.c0,c.c1,c.c2,c.c3,x.aH λb8 w2 C=>aF (λO=>C.ah λw3 y=>⟨?_,y.fr⟩) (λS=>⟨co,co,?_⟩)⟩
   .have aa:(q.n:Int)<=(i:Int):=O;rw[c9 (by omega:lb.length<=i)]at h;rw[<-h];rfl
   .have ab:¬(q.n:Int)<=(i:Int):=S;have A:lb[i]? =some (lb[i]'co):=a' co;rw[dz (by omega:i<lb.length)]at h;generalize lb[i]'co=b at A h;refine I.dE (C.getD 1) A λac T _=>C.ah λw3 y=>?_;have c:=I.again (y.getD 1) A T;refine⟨_,_,_,_,c.c0,c.c1,c.c2,c.c3,y.aH λb9 w4 L=>L.ah λw5 D=>?_⟩;have ad:=I.eK (aD z);refine D.aA (U a b w5 co (I.Ps.get (D.getD 2) z) (I.Ps.get (D.getD 3) A)) ?_;rintro _ w6 rfl G;have M:cmpL (I.aw (a::j.drop (i+1))) (I.aw (b::lb.drop (i+1)))=if be a.rx b.rx≠0 then be a.rx b.rx else cmpL (I.aw (j.drop (i+1))) (I.aw (lb.drop (i+1))):=rfl;rw[M]at h;refine⟨_,rfl,dA (λE=>⟨?_,G.fr⟩) (λE=>?_)⟩
    .rw [au E]at h;rw[h]
    .rw [ag (by simpa using E)]at h;rw[bc _ co];exact W (i+1) w6 co co h (G.take 0)
 exact yS.aC (loop j.length 0 w co co ws (bK _ (by
  intro e h;simp only[aq,aL,aO]at h;rcases h with rfl|rfl|rfl|rfl
  .exact H
  .exact K
  .exact Y
  .exact Z)))
def Jy:∀n:Nat,n<=1000000->IV n
 |0,_=>λa b L q _ _=>absurd q (by have:=I.m3 a;omega)
 |n+1,W=>λa b L q x z=>by
  have K:=Jy n co;have Y:=I.iR a;have T:=x.parts;have U:=z.parts;refine TO.aC ((bK [.tree a,.tree b] (by
   intro e w;simp only[aq,aL,aO]at w;rcases w with rfl|rfl
   .exact x
   .exact z)).aH λQ Z B=>B.aH λS w2 C=>C.ah λM D=>D.aA (Zf _ _ M) ?_)
  rintro _ N rfl E;refine⟨_,rfl,E.aA (J6 _ _ N) ?_⟩;rintro _ O rfl F;refine⟨_,rfl,F.aA (J6 _ _ O) ?_⟩;rintro _ w6 rfl G;refine⟨_,rfl,G.or (l:=[cO a.k b.k,cO a.lo.toNat b.lo.toNat,cO a.hi.toNat b.hi.toNat]) rfl ws λj d=>?_⟩;have e:be a.rx b.rx=if eI [cO a.k b.k,cO a.lo.toNat b.lo.toNat,cO a.hi.toNat b.hi.toNat]≠0 then eI [cO a.k b.k,cO a.lo.toNat b.lo.toNat,cO a.hi.toNat b.hi.toNat]else cmpL (I.aw a.l) (I.aw b.l):=by rw[I.fF a,I.fF b];unfold be;rfl
  refine⟨_,rfl,dA (λh=>⟨?_,d.fr⟩) (λh=>?_)⟩
  .rw [e,au h]
  .have y:a.P j:=d.getD 0;have A:b.P j:=d.getD 1;refine d.aA (YC n co K a.l b.l a.s b.s j y.parts.1 A.parts.1 y.parts.2 A.parts.2 co) ?_;rintro _ w8 rfl H;refine⟨_,rfl,?_,H.fr⟩;rw[e,ag (by simpa using h)]
def zN(a b:I)(w:J)(h:a.sz<=1000000)(d:a.P w)(j:b.P w):ai V cE #[a.v,b.v] w λr k=>r=ae (.int .i64 (be a.rx b.rx))/\af w k:=Jy 1000000 (br _) a b w h d j
def w7(a b:I)(w:J)(h:a.sz<=1000000)(x:a.P w)(y:b.P w):ai V sH #[a.v,b.v] w λr z=>r=ae (.bool (be a.rx b.rx==0))/\af w z:=by
 refine TU.aC ((bK [.tree a,.tree b] (by
  intro e j;simp only[aq,aL,aO]at j;rcases j with rfl|rfl
  .exact x
  .exact y)).aH λB D k=>k.aH λC A d=>d.aA (zN a b A h (d.getD 0) (d.getD 1)) ?_)
 rintro _ E rfl q;exact⟨_,rfl,rfl,q.fr⟩
namespace yB
def cy:=bh (ax V Tryz.f233 [] [2]) [0,1,1,1,2] [(1,.I),(2,.l [.I,.Y,.Y,.s] aZ),(5,.I)]
abbrev t1:=bg cy
abbrev cd:=ak t1 [3] [(1,.I)]
abbrev t2:=ao cd
def dH:=bm t2 cy
abbrev bt:=ak t2 [2] [(1,.I),(2,.l [.I,.Y,.Y,.s] aZ)]
abbrev t3:=ao bt
def aC:=ay t3 Qa [.a 4,.I,.Y,.Y,.s,.I]
end yB
namespace Ud
def aC:=ay (ax V Tryz.f211 [] [1]) Gw [.a 4,.I,.Y,.Y,.s]
end Ud
namespace nJ
abbrev P0:Ps:=[]
abbrev bt:=ak (ax V Tryz.f234 [] [1,4]) [0,1,1,1,1] P0
abbrev t1:=ao bt
abbrev P1:Ps:=[(1,.l [.I,.Y,.Y,.s] aZ)]
abbrev cd:=ak t1 [0,1,1,1,1,1,2] P1
abbrev t2:=ao cd
def lC:=bh t2 [0,1,1,1,3] [(52,.s),(53,.I),(54,.I)]
abbrev t3:=bg lC
def o5:=bm t3 lC
abbrev hx:=ak t3 [3] P1
abbrev t4:=ao hx
abbrev n3:=ak t4 [0,1,7,1,1,1,2] P1
abbrev t5:=ao n3
abbrev rQ:=ak t5 [8,1,1,1,2] P0
abbrev t6:=ao rQ
abbrev P2:Ps:=[(1,.l [.I,.Y,.Y,.s] aZ),(19,.I)]
abbrev jN:=ak t6 [6,1,1,1,2] P2
abbrev t7:=ao jN
abbrev dc:=ak t7 [2,1,1,1,2] P2
abbrev t8:=ao dc
abbrev b3:=ak t8 [2] P1
abbrev t9:=ao b3
def aC:=ay t9 Qi [.a 4,.I,.Y,.Y,.s]
end nJ
namespace TR
def aC:=ay (ax V Tryz.f212 [] [1]) P7 [.a 4,.I,.Y,.Y,.s]
end TR
namespace yA
def a6:=bh (ax V Tryz.f235 [] [1,2,5]) [0,1,1,1,2] [(1,.l [.I,.Y,.Y,.s] aZ),(2,.l [.I,.Y,.Y,.s] aZ),(3,.s),(7,.s),(8,.I),(9,.I)]
abbrev t1:=bg a6
def bD:=bm t1 a6
def aC:=ay t1 Gm [.a 4,.I,.Y,.Y,.s]
end yA
namespace T4
def aC:=ay (ax V Tryz.f213 [] [1,2]) Qg [.a 4,.I,.Y,.Y,.s]
end T4
def hj{w:J}{t:I}(h:t.P w):LH F0 w w [] [.tree t]:=bK _ (by intro e d;simp only[aq,aL,aO]at d;subst d;exact h)
def gz(w:J)(x:Rx)(r:bW)(Y:J):Prop:=∃t:I,r=ae t.v/\t.rx=x/\t.P Y/\∀b∈t.fp,w.heap.size<=b
section
variable {M:Nat->Prop} {w0 w:J} {L D:List En} {U:List Nat}
def _root_.Go.W.LH.td(H:LH M w0 w L D)(i j:Nat){O:List I}{t:I}(hi:D[i]? =some (.trees O):=by rfl)(k:D[j]? =some (.tree t):=by rfl):LH M w0 w L (D++[.trees (O++[t])]):=by
 refine H.gP _ (Fr.refl _ _) (I.jd λq d=>?_) λb x=>.inr (.inr ?_)
 .rcases aX.1 d with d|d
  .exact I.Ps.mem (H.getD i hi) d
  .simp at d;subst d;exact H.getD j k
 .obtain ⟨q,d,h⟩:=I.b'.1 (aT.1 x);rcases aX.1 d with d|d
  .exact ⟨_,aD hi,aT.2 (I.b'.2 ⟨q,d,h⟩)⟩
  .simp at d;rw[d]at h;exact⟨_,aD k,aT.2 h⟩
def gY{e:aE}{s:Sl}{vs:List aa}{b:Nat}(h:b∈(En.bf 4 s vs).fp):b∈(En.row e 4 s vs).fp:=by
 have:b∈(if vs=[]then[]else az s):=h;split at this
 .grind
 .exact this
def _root_.Go.W.LH.s8(H:LH M w0 w L D)(i j:Nat){e:aE}{s:Sl}{O:List I}(k:Int)(lo hi:UInt8)(q:L[i]? =some (.row e 4 s (O.flatMap I.c)):=by rfl)(x:D[j]? =some (.trees O):=by rfl):LH M w0 w (L.eraseIdx i) (D++[I.row s O]++[.tree (.mk k lo hi s O)]):=by
 have y:=H.freeze i (I.row s O) q (aG.bf (H.get i q)) λb h=>gY h;refine y.gP _ (Fr.refl _ _) ?_ λb h=>.inr (.inr ?_)
 .show I.P w _;unfold I.P;exact⟨aG.bf (H.get i q),H.getD j x⟩
 .have d:=aT.1 h;unfold I.fp at d;rcases aX.1 d with d|d
  .grind
  .exact ⟨_,bV _ (aD x),aT.2 d⟩
end
def ur(l:List I):∀u∈l.flatMap I.c,u.oneCell'=true:=λu h=>by obtain⟨e,_,d⟩:=cc.1 h;simp only[I.c,aq,aL,aO]at d;rcases d with rfl|rfl|rfl|rfl<;>rfl
def r8:g7 V jk aZ (.agg #[.int .i64 0,.int .u8 0,.int .u8 0,.slice none 0 0]) 4 40:=⟨by kernel_rfl,by kernel_rfl,rfl,md,md⟩
def nr(l:List I)(t:I):(l++[t]).flatMap I.c=l.flatMap I.c++t.c:=ws
def kA(l m:List I):I.aw (l++m)=I.aw l++I.aw m:=by simp[I.gb]
def v5:∀(l m:List I),I.a9 (l++m)=I.a9 l+I.a9 m
 |[],m=>by simp[I.a9]
 |t::l,m=>by show t.sz+I.a9 (l++m)=t.sz+I.a9 l+I.a9 m;rw[v5 l m];omega
def B1(l:List I)(i:Nat):I.a9 (l.take i)<=I.a9 l:=by have:=v5 (l.take i) (l.drop i);rw[mU]at this;omega
abbrev Xk(n:Nat):Prop:=∀(t:I) (x:Nat) (w:J),t.sz<=n->x<=1000000->t.P w->ai V Qa #[t.v,.int .i64 (x:Int)] w λr d=>r=ae (.int .i64 (max ((x:Int) - t.sz) (-1)))/\af w d
def JI:∀n:Nat,n<=1000000->Xk n
 |0,_=>λt x z A _ _=>absurd A (by have:=I.m3 t;omega)
 |n+1,U=>λt x z A Z O=>by
  have L:=JI n co;have Y:=I.iR t;have T:=I.gh t.l;have loop:∀(d i:Nat) (y:Int) (b2:Nat) (h:J),i+d=t.l.length->-1<=y->y<=1000000->max (y - I.a9 (t.l.drop i)) (-1)=max ((x:Int) - t.sz) (-1)->LH F0 z h [.g b2] [.tree t]->
    yB.cy y b2 t.k t.lo.toNat t.hi.toNat t.s (i:Int) h λr Q=>r=ae (.int .i64 (max ((x:Int) - t.sz) (-1)))/\af z Q:=by
   intro d;induction d with
   |zero=>
    intro i y b2 h F G K q j;have N:=I.cI (show t.P h from j.getD 0).parts.1;rw[c9 co]at q;refine yB.dH (aN (aW co) ⟨?_,j.fr⟩);rw[<-q];congr 2;simp only[I.a9];omega
   |succ d M=>
    intro i y b2 h F G K q j;have N:=I.cI (show t.P h from j.getD 0).parts.1;have w:t.l[i]? =some (t.l[i]'co):=a' co;rw[dz co]at q;generalize t.l[i]'co=a at w q;have aa:=I.eK (aD w);unfold I.a9 at q;refine yB.dH (aM (aR co) (aF (λB=>⟨co,co,?_⟩) (λB=>⟨?_,j.fr⟩)))
    .have C:t.P h:=j.getD 0;refine I.dE C.parts.1 w λp W c=>⟨_,_,_,_,c.c0,c.c1,c.c2,c.c3,?_⟩;have H:0<=y:=B;obtain⟨m,rfl⟩:=Int.eq_ofNat_of_zero_le H;refine j.aA (L a m h co co (C.parts.2.get w)) ?_;rintro _ S rfl E;refine⟨_,rfl,?_⟩;rw[bc _ co];refine M (i+1) _ b2 S co co co ?_ E;omega
    grind
  have e:aj .i64 ((x:Int) - 1)=(x:Int) - 1:=aQ _ co;refine yB.aC ((hj O).aH λb2 h D=>?_);rw[e];refine loop t.l.length 0 _ b2 h co co co ?_ D
  grind
def D7(t:I)(w:J)(h:t.sz<=1000000)(k:t.P w):ai V Gw #[t.v] w λr q=>r=ae (.bool (av (64<t.sz)))/\af w q:=by
 refine Ud.aC ((hj k).aH λy x d=>d.aA (JI 1000000 (br _) t 64 x h co (d.getD 0)) ?_);rintro _ z rfl j;refine⟨_,rfl,?_,j.fr⟩;congr 2
 grind
mutual
def de:Rx->Bool
 |.mk d lo h l=>!(d !=2&&(lo !=0||h !=0))&&(if d=0\/d=1 then l.isEmpty else if d=2 then l.isEmpty&&av (lo.toNat<=h.toNat)else if d=3\/d=4\/d=5 then ey l else if d=6\/d=7 then l.length==1&&ey l else false)
def ey:List Rx->Bool
 |[]=>true
 |t::l=>de t&&ey l
end
abbrev XA(n:Nat):Prop:=∀(t:I) (w:J),t.sz<=n->t.P w->ai V Qi #[t.v] w λr d=>r=ae (.bool (de t.rx))/\af w d
def ED(l:List I):(I.aw l).isEmpty=((l.length:Int)==0):=by
 rw[I.gb];cases l with
 |nil=>rfl
 |cons a l=>
  grind
def JW:∀n:Nat,n<=1000000->XA n
 |0,_=>λt w S _=>absurd S (by have:=I.m3 t;omega)
 |n+1,D=>λt w S pt=>by
  have ih:=JW n co;have hs:=I.iR t;have hl:=I.gh t.l;have L:=I.cI pt.parts.1;have loop:∀(b:Bool),de t.rx=(b&&ey (I.aw t.l))->b=true->∀(d i:Nat) (j:J),i+d=t.l.length->ey (I.aw (t.l.drop i))=ey (I.aw t.l)->LH F0 w j [] [.tree t]->
    nJ.lC t.s (t.s.n:Int) (i:Int) j λr q=>r=ae (.bool (de t.rx))/\af w q:=by
   intro b y aa d;subst aa;rw[Bool.true_and]at y;induction d with
   |zero=>
    intro i j ac z B;rw[c9 co]at z;refine nJ.o5 (aN (aW co) ⟨?_,B.fr⟩);rw[y,<-z];rfl
   |succ d ag=>
    intro i j ac z B;have C:t.l[i]? =some (t.l[i]'co):=a' co;rw[dz co]at z;generalize t.l[i]'co=a at C z;have aj:=I.eK (aD C);have T:(de a.rx&&ey (I.aw (t.l.drop (i+1))))=ey (I.aw t.l):=z;have ai:t.P j:=B.getD 0;refine nJ.o5 (aM (aR co) ⟨co,co,?_⟩);refine I.dE ai.parts.1 C λp hp c=>⟨_,_,_,_,c.c0,c.c1,c.c2,c.c3,B.aH λb4 w2 H2=>H2.ah λw3 N=>N.aA (ih a w3 co ((show t.P w3 from N.getD 0).parts.2.get C)) ?_⟩;rintro _ w4 rfl O;refine⟨_,rfl,eb (λhf=>⟨?_,O.fr⟩) (λht=>?_)⟩
    .grind
    .rw [bc _ co];rw[ht,Bool.true_and]at T;exact ag (i+1) w4 co T (O.take 0)
  have er:=I.fF t;have nz:∀A:UInt8,((A.toNat:Int) !=0)=(A !=0):=λA=>by
   by_cases U:A=0
   .subst U;rfl
   .have K:(A !=0)=true:=by grind
    rw[K];have:A.toNat≠0:=λh0=>U (UInt8.toNat_inj.1 (by grind))
    grind
  refine nJ.aC ((hj pt).aH λx j M=>?_);have out:∀b:Bool,de t.rx=b->(Ending.returned (.bool b)=ae (.bool (de t.rx))/\af w j):=λb y=>⟨by rw[y],M.fr⟩;have G:de t.rx=ey (I.aw t.l)->nJ.hx x t.k t.lo.toNat t.hi.toNat t.s j λr q=>r=ae (.bool (de t.rx))/\af w q:=λy=>loop true (by grind) rfl t.l.length 0 j co ws (M.take 0);have s1:(t.k !=2&&(t.lo !=0||t.hi !=0))=false->nJ.b3 x t.k t.lo.toNat t.hi.toNat t.s j λr q=>r=ae (.bool (de t.rx))/\af w q:=by
   intro h0;have eg:de t.rx=(if t.k=0\/t.k=1 then(I.aw t.l).isEmpty else if t.k=2 then(I.aw t.l).isEmpty&&av (t.lo.toNat<=t.hi.toNat)else if t.k=3\/t.k=4\/t.k=5 then ey (I.aw t.l)else if t.k=6\/t.k=7 then(I.aw t.l).length==1&&ey (I.aw t.l)else false):=by
    rw[er];unfold de
    grind
   have s2:t.k=0\/t.k=1->nJ.cd x t.k t.lo.toNat t.hi.toNat t.s j λr q=>r=ae (.bool (de t.rx))/\af w q:=λh=>out _ (by rw[eg,au h,ED,L]);have s7:t.k=6\/t.k=7->nJ.n3 x t.k t.lo.toNat t.hi.toNat t.s j λr q=>r=ae (.bool (de t.rx))/\af w q:=λh=>by
    have e7:de t.rx=((I.aw t.l).length==1&&ey (I.aw t.l)):=by grind
    have el:(I.aw t.l).length=t.s.n:=by rw[I.gb];grind
    refine dA (λK=>out false ?_) (λK=>G ?_)
    .grind
    grind
   have s6:t.k≠0->t.k≠1->t.k≠2->t.k≠3->t.k≠4->t.k≠5->nJ.jN x t.k t.lo.toNat t.hi.toNat t.s t.k j λr q=>r=ae (.bool (de t.rx))/\af w q:=λE F W Y Z k5=>
    aP (λh=>aM (by grind) (s7 (.inl h))) (λk6=>aP (λh=>s7 (.inr h)) (λk7=>out false (by grind)))
   have H:t.k=3\/t.k=4\/t.k=5->de t.rx=ey (I.aw t.l):=λh=>by grind
   have s3:t.k≠0->t.k≠1->nJ.dc x t.k t.lo.toNat t.hi.toNat t.s t.k j λr q=>r=ae (.bool (de t.rx))/\af w q:=λE F=>
    aP (λh=>by
     have Q:de t.rx=((I.aw t.l).isEmpty&&av (t.lo.toNat<=t.hi.toNat)):=by grind
     refine bT (λD=>out _ ?_) (λD=>out false ?_)
     .rw [Q,ED,<-L,D,Bool.true_and]
      grind
     .rw [Q,ED,<-L,D];rfl)
    (λW=>aP (λh=>aM (by grind) (G (H (.inl h)))) (λY=>aP (λh=>aM (by grind) (G (H (.inr (.inl h))))) (λZ=>aP (λh=>G (H (.inr (.inr h)))) (λk5=>s6 E F W Y Z k5))))
   exact aP (λh=>aM (by grind) (s2 (.inl h))) (λE=>aP (λh=>s2 (.inr h)) (λF=>s3 E F))
  have bad:(t.k !=2&&(t.lo !=0||t.hi !=0))=true->de t.rx=false:=λy=>by
   rw[er];unfold de
   grind
  refine bT (λh2=>bT (λad=>out false (bad ?_)) (λad=>bT (λab=>out false (bad ?_)) (λab=>s1 ?_))) (λh2=>s1 ?_)
  .grind
  .grind
  .grind
  grind
def kF(x:Rx):Int:=if 64<x.sz then 4 else if de x then 0 else 1
def JE(t:I)(w:J)(h:t.sz<=1000000)(y:t.P w):ai V P7 #[t.v] w λr z=>r=ae (.int .i64 (kF t.rx))/\af w z:=by
 refine TR.aC ((hj y).aH λC A q=>q.aA (D7 t A h (q.getD 0)) ?_);rintro _ B rfl j;refine⟨_,rfl,aF (λd=>⟨?_,j.fr⟩) (λd=>j.aA (JW 1000000 (br _) t B h (j.getD 0)) ?_)⟩
 .unfold kF;rw[I.eX,au d]
 rintro _ D rfl x;refine⟨_,rfl,eb (λk=>⟨?_,x.fr⟩) (λk=>⟨?_,x.fr⟩)⟩
 .unfold kF;rw[I.eX,ag d,k];rfl
 .unfold kF;rw[I.eX,ag d,k];rfl
abbrev Xl(n:Nat):Prop:=∀(t:I) (w:J),t.sz<=n->t.P w->ai V Gm #[t.v] w λr d=>gz w t.rx r d/\af w d
def JH:∀n:Nat,n<=1000000->Xl n
 |0,_=>λt A G _=>absurd G (by have:=I.m3 t;omega)
 |n+1,hn=>λt A G L=>by
  have Z:=JH n co;have hs:=I.iR t;have hl:=I.gh t.l;have ad:=I.cI L.parts.1;have loop:∀(d i:Nat) (ks:List I) (sl:Sl) (q b2:Nat) (x:J),i+d=t.l.length->ks.length=i->I.aw ks=I.aw (t.l.take i)->(∀b∈I.bj ks,A.heap.size<=b)->LH F0 A x [.g q,.g b2,.row aZ 4 sl (ks.flatMap I.c)] [.tree t,.trees ks]->
    yA.a6 q t.k t.lo.toNat t.hi.toNat t.s b2 0 0 0 ⟨none,0,0⟩ sl t.s (t.s.n:Int) (i:Int) x λr M=>gz A t.rx r M/\af A M:=by
   intro d;induction d with
   |zero=>
    intro i ks sl q b2 x U W H K B;refine yA.bD (aN (aW co) (B.ah λD j=>⟨⟨.mk t.k t.lo t.hi sl ks,rfl,?_,?_,λb h=>?_⟩,j.fr⟩))
    .rw [I.fF t];unfold I.rx
     grind
    .unfold I.P;exact⟨aG.bf (j.get 2),j.getD 1⟩
    .unfold I.fp at h;rcases aX.1 h with h|h
     .exact (j.new _ (aD (i:=2) rfl) b (gY h)).resolve_right id
     grind
   |succ d aa=>
    intro i ks sl q b2 x U W H K B;have z:t.l[i]? =some (t.l[i]'co):=a' co;generalize t.l[i]'co=a at z;have ae:=I.eK (aD z);have ab:t.P x:=B.getD 0;refine yA.bD (aM (aR co) ⟨co,co,?_⟩);refine I.dE ab.parts.1 z λp hp c=>⟨_,_,_,_,c.c0,c.c1,c.c2,c.c3,B.aH λb5 D j=>j.ah λN y=>y.iF (Z a N co ((show t.P N from y.getD 0).parts.2.get z)) ?_⟩;rintro _ w4 ⟨u,rfl,Y,pu,F⟩ _ O;have C:=O.rd (.tree u) pu λb h=>F b (aT.1 h);have ac:=I.cI (C.get 2:aG _ _ _ _ _).bf;refine⟨_,_,_,_,rfl,C.iD 2 r8 rfl (λs' w5 S=>?_) co⟩;have T:=(S.td 1 2).take 3;rw[bc _ co];refine aa (i+1) (ks++[u]) s' q b2 w5 co (by grind) ?_ ?_ ?_
    .rw [kA,H,dV,z,kA];simp[I.aw,Y]
    .intro b h;obtain⟨t',w,E⟩:=I.b'.1 h;rcases aX.1 w with w|w
     .exact K b (I.b'.2 ⟨t',w,E⟩)
     .simp at w;rw[w]at E;exact bb y.fr.size (F b E)
    .rw [nr];exact T.forget _ ws
  refine yA.aC ((hj L).aH λq x Q=>Q.aH λb2 D j=>?_);have y:=j.fY aZ 4;have C:=y.gP (.trees []) (Fr.refl _ _) (by show I.Ps D [];unfold I.Ps;trivial) (λb h=>by
   have:=aT.1 h;unfold I.bj at this
   grind)
  exact loop t.l.length 0 [] ⟨none,0,0⟩ q b2 D co rfl rfl (λb h=>by unfold I.bj at h;cases h) C
def Y3(t:I)(w:J)(h:t.sz<=1000000)(j:t.P w):ai V Gm #[t.v] w λr d=>gz w t.rx r d/\af w d:=JH 1000000 (br _) t w h j
def fZ:Rx:=.mk 0 0 0 []
def qP(x:Rx):Int:=if 64<x.sz then 4 else 0
def qQ(x:Rx):Rx:=if 64<x.sz then fZ else x
def I'(w:J)(x:Rx)(c:Int)(r:bW)(Y:J):Prop:=∃t:I,r=ae (.tuple #[t.v,.int .i64 c])/\t.rx=x/\t.P Y/\∀b∈t.fp,w.heap.size<=b
def RP(w:J):(I.mk 0 0 0 ⟨none,0,0⟩ []).P w:=by unfold I.P I.Ps;exact⟨bN.nil 4 w,trivial⟩
def RO{b:Nat}(h:b∈(I.mk 0 0 0 ⟨none,0,0⟩ []).fp):False:=by unfold I.fp I.bj at h;simp[En.bf]at h
def Zj(t:I)(w:J)(h:t.sz<=1000000)(E:t.P w):ai V Qg #[t.v] w λr A=>I' w (qQ t.rx) (qP t.rx) r A/\af w A:=by
 refine T4.aC ((hj E).aH λL N C=>C.aH λM G x=>x.aA (D7 t G h (x.getD 0)) ?_);rintro _ H rfl k;refine⟨_,rfl,aF (λj=>k.ah λK q=>⟨⟨.mk 0 0 0 ⟨none,0,0⟩ [],?_,?_,RP _,λb d=>(RO d).elim⟩,q.fr⟩) (λj=>k.iF (Y3 t H h (k.getD 0)) ?_)⟩
 .unfold qP;rw[I.eX,au j];rfl
 .unfold qQ;rw[I.eX,au j];rfl
 rintro _ K ⟨u,rfl,D,F,z⟩ _ B;have q:=B.rd (.tree u) F λb d=>z b (aT.1 d);refine⟨_,_,_,_,rfl,q.ah λO y=>⟨⟨u,?_,?_,y.getD 1,λb d=>bb k.fr.size (z b d)⟩,y.fr⟩⟩
 .unfold qP;rw[I.eX,ag j]
 .unfold qQ;rw[I.eX,ag j,D]
namespace TV
def aC:=ay (ax V Tryz.f254 [] [2]) vd [.a 4,.I,.Y,.Y,.s,.r]
end TV
namespace yT
def L0:=bh (ax V Tryz.f255 [] []) [0,1,1,1,1] [(0,.s),(1,.f),(7,.I),(8,.I)]
abbrev t1:=bg L0
def bE:=bm t1 L0
def ok:=ay t1 Qr [.s,.f]
end yT
namespace U1
def ok:=ay (ax V Tryz.f240 [] []) Qp [.s,.f]
end U1
namespace tc
abbrev P0:Ps:=[(0,.s),(1,.v [.g vd 0 1,.r]),(5,.I),(6,.I)]
def a6:=bh (ax V Tryz.f253 [] [7]) [0,1,1,1,3] P0
abbrev t1:=bg a6
abbrev b3:=ak t1 [2,2,1,1,3] P0
abbrev t2:=ao b3
def bD:=bm t2 a6
def aC:=ay t2 Qq [.s,.g vd 0 1,.r]
end tc
namespace oT
def L0:=bh (ax V Tryz.f245 [(6,lr 11),(11,lr 12)] []) [0,1,1,1,2] [(0,.s),(1,.v [.g sH 0 0]),(5,.I)]
abbrev t1:=bg L0
abbrev P0:Ps:=[(0,.s),(1,.v [.g sH 0 0]),(5,.I),(6,.s),(7,.I)]
def L2:=bh t1 [0,1,1,1,1,1,1,2,1,2,1,1,2] P0
abbrev t2:=bg L2
abbrev S3:=ak t2 [2,2,1,1,1,1,1,2,1,2,1,1,2] P0
abbrev t3:=ao S3
def j7:=bm t3 L2
abbrev S1:=ak t3 [1,1,1,2,1,2,1,1,2] [(0,.s),(1,.v [.g sH 0 0]),(5,.I),(6,.s)]
abbrev t4:=ao S1
def bE:=bm t4 L0
def ok:=ay t4 Qn [.s,.g sH 0 0]
end oT
namespace s6
abbrev P0:Ps:=[(2,.l [.I,.Y,.Y,.s] aZ),(3,.r),(5,.s),(9,.s),(10,.I),(11,.I)]
def a6:=bh (ax V Tryz.f239 [] [2,7]) [0,1,1,1,2] P0
abbrev t1:=bg a6
abbrev b3:=ak t1 [3,2,1,1,2] P0
abbrev t2:=ao b3
def bD:=bm t2 a6
def aC:=ay t2 Qb [.a 4,.I,.Y,.Y,.s,.a 4,.I,.Y,.Y,.s]
end s6
namespace TX
def aC:=ay (ax V Tryz.f236 [] [1,2]) yf [.a 4,.I,.Y,.Y,.s]
end TX
namespace TY
def ok:=ay (ax V Tryz.f237 [] []) AW [.a 4,.I,.Y,.Y,.s,.a 4,.I,.Y,.Y,.s]
end TY
namespace Ht
abbrev bt:=ak (ax V Tryz.f238 [] [3,4]) [4] [(1,.r),(3,.l [.I,.Y,.Y,.s] aZ),(4,.l [.I,.Y,.Y,.s] aZ),(5,.s)]
abbrev t1:=ao bt
def aC:=ay t1 AX [.a 4,.I,.Y,.Y,.s,.r,.r]
end Ht
namespace TZ
def aC:=ay (ax V Tryz.f241 [] [2]) Gn [.a 4,.I,.Y,.Y,.s,.r]
end TZ
namespace T0
def aC:=ay (ax V Tryz.f246 [] [1,2]) ve [.a 4,.I,.Y,.Y,.s]
end T0
namespace BC
abbrev bt:=ak (ax V Tryz.f247 [] [3,4,5]) [0,1,1,1,2] [(1,.r),(4,.l [.I,.Y,.Y,.s] aZ)]
abbrev t1:=ao bt
abbrev b3:=ak t1 [0,1,1,1,3] [(4,.l [.I,.Y,.Y,.s] aZ),(5,.l [.I,.Y,.Y,.s] aZ)]
abbrev t2:=ao b3
def aC:=ay t2 vf [.a 4,.I,.Y,.Y,.s,.r,.r]
end BC
namespace yD
def L0:=bh (ax V Tryz.f214 [(5,lr 9)] []) [0,1,1,1,2] [(0,.m),(3,.r),(4,.r),(5,.r),(16,.s),(17,.I),(18,.I)]
abbrev t1:=bg L0
def bE:=bm t1 L0
def ok:=ay t1 Gq [.m,.a 4,.I,.Y,.Y,.s]
end yD
def afr{w:J}{g:Nat}{cur:Array aa}{t:aE}(d:w.heap[g]? =some (.cells cur t (0,0)))(vs:Array aa):w.setRow g vs=w.putObj g (.cells vs t (0,0)):=by
 unfold World.setRow World.putObj;congr 1
 grind
def Je(g k:Nat):(⟨g,0,none⟩:Addr).add k=⟨g,k,none⟩:=by
 unfold Addr.add
 grind
def KD{P:aJ}{t ty e:aE}{z:aa}{sz bytes:Nat}(x:g7 P t e z sz bytes)(h1:∀u∈z.cells.toList,u.oneCell'=true)(af:z.cells.size=sz){w:J}{s:Sl}{vs:List aa}(h:aG w e sz s vs)(l:Nat)(E:l<=s.n):
  ∃Y,(Builtin.clear_ #[t] ty #[.slice (if s.c=l then s.a else s.a.map (·.add (l *sz))) (s.n - l) (s.c - l)]).run P w=.ok (.tuple #[]) Y/\
   aG Y e sz ⟨if s.c=0 then s.a else s.a.map (·.add (0 *sz)),l - 0,s.c - 0⟩ (vs.take (l *sz))/\Fr (·∈az s) w Y:=by
 have hlen:=h.len;obtain⟨L,d,j⟩:=s;simp only at E hlen;have ac:∀y:Option Addr,(if j=0 then y else y.map (·.add (0 *sz)))=y:=λy=>by
  split
  .rfl
  .cases y with
   |none=>rfl
   |some p=>rw[Nat.zero_mul,Option.map_some,jq]
 rw[ac,Nat.sub_zero,Nat.sub_zero];have G:∀(Y:J) (g:Nat) (q:Array aa),L=some ⟨g,0,none⟩->d<=j->j<=maxLen->Y.heap[g]? =some (.cells q e (0,0))->q.size=j *sz->q.toList.take (l *sz)=vs.take (l *sz)->aG Y e sz ⟨L,l,j⟩ (vs.take (l *sz)):=by intro Y g q B am S k K ad;subst B;have M:l *sz<=d *sz:=qe _ E;refine⟨by grind,.inr ⟨g,j,q,rfl,dW _,k,by grind,S,K,ad⟩⟩
 rcases h.cases with⟨hs,rfl⟩|⟨g,cur,B,k,A,D,H,O⟩
 .cases hs;have:l=0:=co
  subst this;refine⟨w,?_,?_,Fr.refl _ _⟩
  .simp [Builtin.clear_,run_underlying x.ht]
  grind
 .simp only at B A D H O;subst B;have M:l *sz<=d *sz:=qe _ E;have e2:d *sz<=j *sz:=qe _ A;have ae:cur.toList.take (l *sz)=vs.take (l *sz):=by grind
  by_cases Z:d - l=0
  .refine ⟨w,?_,G w g cur rfl A D k H ae,Fr.refl _ _⟩;rw[Z];by_cases C:j=l
   .simp [Builtin.clear_,run_underlying x.ht,C]
   .simp [Builtin.clear_,run_underlying x.ht,C]
  .have C:j≠l:=co
   obtain⟨inf,U,hz,K,ai⟩:=info_parts x.hi;have ag:(zeroValue e).run P w=.ok z w:=by simp[zeroValue,typeInfo,U,hz]
   have al:(Builtin.zeroCells z.cells (d - l)).toList.length=(d - l) *sz:=by simp[Builtin.zeroCells,af]
   have ab:∀v∈(Builtin.zeroCells z.cells (d - l)).toList,v.oneCell'=true:=by
    intro v F;unfold Builtin.zeroCells at F;rw[Array.toList_map,bS]at F;obtain⟨ah,hj,rfl⟩:=F;by_cases N:0<z.cells.size
    .have ak:ah%z.cells.size<z.cells.size:=Nat.mod_lt _ N
     grind
    grind
   have aj:(d - l) *sz=d *sz - l *sz:=Nat.sub_mul _ _ _;have T:l *sz+0+(Builtin.zeroCells z.cells (d - l)).toList.length<=cur.size:=co
   have I:=run_storeCells_at (P:=P) g (l *sz) e (Builtin.zeroCells z.cells (d - l)).toList 0 cur w k T ab;refine⟨_,?_,G _ g (cur.toList.take (l *sz+0)++(Builtin.zeroCells z.cells (d - l)).toList++cur.toList.drop (l *sz+0+(Builtin.zeroCells z.cells (d - l)).toList.length)).toArray rfl A D (setRow_heap w g cur _ e _ k) ?_ ?_,?_⟩
   .obtain ⟨m,W⟩:∃m,d - l=m+1:=⟨d - l - 1,co⟩;have Q:(⟨g,0,none⟩:Addr).add (l *sz)=⟨g,l *sz,none⟩:=Je g (l *sz);rw[W]at I ⊢;simp[Builtin.clear_,run_underlying x.ht,C,Q,ag,I]
   .grind
   .grind
   .rw [afr k];exact(Fr.put w g _).mono λan _ e=>by simp[az,e]
def W8:∀u∈(Value.agg #[.int .i64 0,.int .u8 0,.int .u8 0,.slice none 0 0]).cells.toList,u.oneCell'=true:=by intro u d;simp only[Value.cells,aq,aL,aO]at d;rcases d with rfl|rfl|rfl|rfl<;>rfl
def aaN{l:List I}{k:Nat}{t:I}(q:k<l.length):((((l.flatMap I.c).set (k *4+0) (.int .i64 t.k)).set (k *4+1) (.int .u8 (t.lo.toNat:Int))).set (k *4+2) (.int .u8 (t.hi.toNat:Int))).set (k *4+3) t.s.v=(l.set k t).flatMap I.c:=by
 induction l generalizing k with
 |nil=>grind
 |cons a l j=>
  cases k with
  |zero=>simp[I.c]
  |succ k=>
   have h:k<l.length:=by grind
   have e:∀d,(k+1) *4+d=(k *4+d)+4:=λd=>co
   rw[e 0,e 1,e 2,e 3,cH,List.set_cons_succ,cH,<-j h];simp[I.c]
section
variable {M:Nat->Prop} {w0 w:J} {L D:List En} {U:List Nat}
def _root_.Go.W.LH.VJ(H:LH M w0 w L D)(i k:Nat){s:Sl}{O:List I}{t:I}{p:Addr}{K:J->Prop}(hi:L[i]? =some (.row aZ 4 s (O.flatMap I.c)))(z:s.a=some p)(hk:k<O.length)(hK:∀Z,LH M w0 Z (L.set i (.row aZ 4 s ((O.set k t).flatMap I.c))) D->K Z)(bG:∀b∈U,En.g b∈L:=by simp):
  aS w (p.add (k *4)) (.int .i64 t.k) λd=>kept U w d/\aS d ((p.add (k *4)).add 1) (.int .u8 (t.lo.toNat:Int)) λh=>kept U d h/\aS h ((p.add (k *4)).add 2) (.int .u8 (t.hi.toNat:Int)) λj=>kept U h j/\aS j ((p.add (k *4)).add 3) t.s.v λx=>kept U j x/\K x:=by
 have hlen:(O.flatMap I.c).length=O.length *4:=I.e1 O;have A:=(cX.1 hi).1;have E:∀{e:En} {b:Nat},(∀(d:J) (y:Nat),¬e.P ({d with heap:=h4 (y+1) (.map #[] 0)}:J))->En.g b∈L->En.g b∈L.set i e:=by
  intro e b ae q;obtain⟨Y,S⟩:=hJ.1 q;by_cases ac:i=Y
  .subst ac;rw[hi]at S;exfalso;have ab:En.row aZ 4 s (O.flatMap I.c)=En.g b:=fb S;have Q:(En.g b).P ({w with heap:=h4 (b+1) (.map #[] 0)}):=by show b<_;simp
   rw[<-ab]at Q;by_cases T:az s=[]
   .have:s.a=none:=by unfold az at T;grind
    grind
   .obtain ⟨ad,C⟩:=List.exists_mem_of_ne_nil _ T;obtain⟨cs,f,hc⟩:=(aG.row (show aG ({w with heap:=h4 (b+1) (.map #[] 0)}) aZ 4 s _ from Q)).wh ad C
    grind
  .refine aD (i:=Y) ?_
   grind
 have B:∀(vs:List aa) (d:J) (y:Nat),¬(En.row aZ 4 s vs).P ({d with heap:=h4 (y+1) (.map #[] 0)}:J):=by
  intro vs d y h0;have C:p.block∈az s:=by simp[az,z]
  obtain⟨cs,f,hc⟩:=(aG.row (show aG ({d with heap:=h4 (y+1) (.map #[] 0)}) aZ 4 s vs from h0)).wh _ C
  grind
 have N:=H.oV (U:=U) i (k *4) 0 (v:=.int .i64 t.k) (p:=p) (K:=λd=>aS d ((p.add (k *4)).add 1) (.int .u8 (t.lo.toNat:Int)) λh=>kept U d h/\aS h ((p.add (k *4)).add 2) (.int .u8 (t.hi.toNat:Int)) λj=>kept U h j/\aS j ((p.add (k *4)).add 3) t.s.v λx=>kept U j x/\K x) hi z co (λd H1=>?_) bG
 .rw [jq]at N;exact N
 refine H1.oV (U:=U) i (k *4) 1 (by rw[kv A]) z (by grind) (λh F=>?_) (λb q=>E (B _) (bG b q));rw[List.set_set]at F;refine F.oV (U:=U) i (k *4) 2 (by rw[kv A]) z (by grind) (λj G=>?_) (λb q=>E (B _) (bG b q));rw[List.set_set]at G;refine G.oV (U:=U) i (k *4) 3 (by rw[kv A]) z (by grind) (λx H4=>?_) (λb q=>E (B _) (bG b q));rw[List.set_set,aaN hk]at H4
 grind
def _root_.Go.W.LH.agd(H:LH M w0 w L D)(i k:Nat){s:Sl}{O:List I}{t:I}{p:Addr}{K:J->Prop}(hi:L[i]? =some (.row aZ 4 s (O.flatMap I.c)))(q:s.a=some p)(j:k<O.length)(h:∀d,LH M w0 d (L.set i (.row aZ 4 s ((O.set k t).flatMap I.c))) D->K d):
  aS w (p.add (k *4)) (.int .i64 t.k) λx=>aS x ((p.add (k *4)).add 1) (.int .u8 (t.lo.toNat:Int)) λy=>aS y ((p.add (k *4)).add 2) (.int .u8 (t.hi.toNat:Int)) λz=>aS z ((p.add (k *4)).add 3) t.s.v K:=by
 have A:=H.VJ (U:=[]) (K:=K) i k hi q j h ws
 grind
end
def G0{w:J}{s:Sl}{l:List I}(h:aG w aZ 4 s (l.flatMap I.c)){i:Nat}{t:I}(hi:l[i]? =some t){K:Addr->Prop}(d:∀p,s.a=some p->I.gy w p i t->K p):eh s.a K:=I.dE h.bf hi d
section
variable {M:Nat->Prop} {w0 w:J} {L D:List En}
def _root_.Go.W.LH.el(H:LH M w0 w L D)(i k:Nat){s:Sl}{O:List I}{t:I}{X:Int}{K:Int->Int->Int->Sl->Prop}(x:X=(k:Int))(j:O[k]? =some t)(h:K t.k t.lo.toNat t.hi.toNat t.s)(hi:L[i]? =some (.row aZ 4 s (O.flatMap I.c)):=by rfl):
  fx s X λp=>∃a b c:Int,∃d:Sl,w.cell? ((p.add (a0 X *4)).add 0)=some (.i a)/\w.cell? ((p.add (a0 X *4)).add 1)=some (.int .u8 b)/\w.cell? ((p.add (a0 X *4)).add 2)=some (.int .u8 c)/\w.cell? ((p.add (a0 X *4)).add 3)=some d.v/\K a b c d:=by subst x;have q:aG w aZ 4 s (O.flatMap I.c):=H.get i hi;have z:=I.cI q.bf;have y:=(cX.1 j).1;exact⟨co,co,G0 q j λp A c=>⟨_,_,_,_,c.c0,c.c1,c.c2,c.c3,h⟩⟩
def _root_.Go.W.LH.xu(H:LH M w0 w L D)(i k:Nat){s:Sl}{O:List I}{t:I}{X:Int}{K:J->Prop}(x:X=(k:Int))(d:k<O.length)(q:∀j,LH M w0 j (L.set i (.row aZ 4 s ((O.set k t).flatMap I.c))) D->K j)(hi:L[i]? =some (.row aZ 4 s (O.flatMap I.c)):=by rfl):
  fx s X λp=>aS w (p.add (a0 X *4)) (.i t.k) λA=>aS A ((p.add (a0 X *4)).add 1) (.int .u8 (t.lo.toNat:Int)) λB=>aS B ((p.add (a0 X *4)).add 2) (.int .u8 (t.hi.toNat:Int)) λC=>aS C ((p.add (a0 X *4)).add 3) t.s.v K:=by subst x;have h:aG w aZ 4 s (O.flatMap I.c):=H.get i hi;have E:=I.cI h.bf;have y:O[k]? =some O[k]:=a' d;exact⟨co,co,G0 h y λp z c=>H.agd i k hi z d q⟩
end
def Fk{j:Nat}(d:1<=j)(h:j<=1000000000):aj .i64 ((j:Int) - 1)=((j - 1:Nat):Int):=by rw[aQ _ co];omega
abbrev eu(b:Nat)(u:I):En:=.c b u.c aZ
def NA{w:J}{k u:I}{b:Nat}(j:k.P w)(q:u.P w)(h:w.heap[b]? =some (.cells u.c.toArray aZ (0,0))):LH F0 w w [] [.tree k,.tree u,eu b u]:=bK _ (by
 intro e d;simp only[aq,aL,aO]at d;rcases d with rfl|rfl|rfl
 .exact j
 .exact q
 .exact h)
def JN(k u:I)(b:Nat)(w:J)(h:k.sz<=1000000)(x:k.P w)(y:u.P w)(q:w.heap[b]? =some (.cells u.c.toArray aZ (0,0))):ai V vd #[k.v,.pointer (some (ab b))] w λr z=>r=ae (.bool (be k.rx u.rx==0))/\af w z:=by refine TV.aC ((NA x y q).aH λB A d=>⟨_,_,_,u.s,d.fJ 2 0,d.fJ 2 1,d.fJ 2 2,d.fJ 2 3,d.aA (w7 k u A h (d.getD 0) (d.getD 1)) ?_⟩);rintro _ C rfl j;exact⟨_,rfl,rfl,j.fr⟩
def Zc(k u:I)(b:Nat)(w:J)(h:k.sz<=1000000)(x:k.P w)(y:u.P w)(q:w.heap[b]? =some (.cells u.c.toArray aZ (0,0))):ai V Gn #[k.v,.pointer (some (ab b))] w λr z=>r=ae (.bool (be k.rx u.rx==0))/\af w z:=by refine TZ.aC ((NA x y q).aH λB A d=>⟨_,_,_,u.s,d.fJ 2 0,d.fJ 2 1,d.fJ 2 2,d.fJ 2 3,d.aA (w7 k u A h (d.getD 0) (d.getD 1)) ?_⟩);rintro _ C rfl j;exact⟨_,rfl,rfl,j.fr⟩
def Zb(k:I)(w:J)(q:k.P w):ai V yf #[k.v] w λr x=>r=ae k.v/\af w x:=by refine TX.aC ((hj q).aH λy A d=>d.aH λz B h=>h.ah λC j=>⟨rfl,j.fr⟩)
def mJ(d:I->Bool):List I->Nat->Int
 |[],_=>-1
 |a::l,i=>if d a then(i:Int)else mJ d l (i+1)
def My(d:I->Bool):∀(l:List I) (i:Nat),av (mJ d l i>=0)=l.any d
 |[],i=>rfl
 |a::l,i=>by
  unfold mJ;rw[List.any_cons];cases h:d a with
  |true=>simp
  |false=>simpa using My d l (i+1)
def Jz(s:Sl)(l:List I)(f:Fv)(j:I->Bool)(D:List En)(w:J)(M:l.length<=1000000)(B:bN 4 w s (l.flatMap I.c))(L:∀e∈D,e.P w)(E:hS V f.n=true)(F:∀q t,t∈l->LH F0 w q [] (I.row s l::D)->ai V f.n (f.U++#[t.v]++f.cs) q λr K=>r=ae (.bool (j t))/\af q K):
  ai V Qr #[s.v,f.v] w λr q=>r=ae (.int .i64 (mJ j l 0))/\af w q:=by
 have Q:=I.cI B;have loop:∀(d i:Nat) (z:J),i+d=l.length->mJ j (l.drop i) i=mJ j l 0->LH F0 w z [] (I.row s l::D)->yT.L0 s f (s.n:Int) (i:Int) z λr q=>r=ae (.int .i64 (mJ j l 0))/\af w q:=by
  intro d;induction d with
  |zero=>
   intro i z G h y;rw[c9 co]at h;exact yT.bE (aN (aW co) ⟨by rw[<-h];rfl,y.fr⟩)
  |succ d O=>
   intro i z G h y;have A:l[i]? =some (l[i]'co):=a' co;rw[dz (by omega:i<l.length)]at h;generalize l[i]'co=x at A h;refine yT.bE (aM (aR co) ⟨co,co,I.dE (y.getD 0) A λp N c=>⟨x.k,x.lo.toNat,x.hi.toNat,x.s,c.c0,c.c1,c.c2,c.c3,?_⟩⟩);rw[E];refine(show cS true _ from ?_);refine y.call (F z x (aD A) y) ?_;rintro _ S rfl C;have h:(if j x then(i:Int)else mJ j (l.drop (i+1)) (i+1))=mJ j l 0:=h;refine⟨_,rfl,bT (λH=>⟨?_,C.fr⟩) (λH=>?_)⟩
   .grind
   .rw [ag (by grind)]at h;rw[bc _ co]
    grind
 refine yT.ok (loop l.length 0 w co ws (bK _ (λe h=>?_)));rcases aq.1 h with rfl|h
 .exact B
 grind
def YD(s:Sl)(l:List I)(f:Fv)(h:I->Bool)(D:List En)(w:J)(y:l.length<=1000000)(z:bN 4 w s (l.flatMap I.c))(k:∀e∈D,e.P w)(q:hS V f.n=true)(x:∀d t,t∈l->LH F0 w d [] (I.row s l::D)->ai V f.n (f.U++#[t.v]++f.cs) d λr A=>r=ae (.bool (h t))/\af d A):
  ai V Qp #[s.v,f.v] w λr d=>r=ae (.bool (l.any h))/\af w d:=by refine U1.ok ((Jz s l f h D w y z k q x).mono ?_);rintro _ B ⟨rfl,j⟩;refine⟨_,rfl,?_,j⟩;rw[My]
def Mz(d:I->Bool):∀(l:List I) (k:Nat),(mJ d l k=-1/\∀t∈l,d t=false)\/∃m a,l[m]? =some a/\d a=true/\mJ d l k=((k+m:Nat):Int)/\∀t∈l.take m,d t=false
 |[],k=>.inl ⟨rfl,ws⟩
 |a::l,k=>by
  unfold mJ;cases y:d a with
  |true=>grind
  |false=>
   rcases Mz d l (k+1)with⟨j,h⟩|⟨m,q,j,h,w,x⟩
   .grind
   .refine .inr ⟨m+1,q,by grind,h,?_,?_⟩
    .grind
    grind
section
variable {M:Nat->Prop} {w0 w:J} {L D:List En} {U:List Nat}
def _root_.Go.W.LH.D9(H:LH M w0 w L D)(i:Nat){P:aJ}{g:FuncId}{args:Array aa}{A K:aK}{e:aE}{sz:Nat}{s:Sl}{xs:List aa}(hi:L[i]? =some (.row e sz s xs))(q:ai P g args w λr d=>A r d/\Fr (·∈az s) w d)(z:∀r d,A r d->(∀h:En,h.P d->(∀b∈h.fp,b∈az s\/w.heap.size<=b)->LH M w0 d (L.set i h) D)->K r d)(bG:∀b∈U,En.g b∈L:=by simp):ep U P g args w K:=
 ⟨(·∈az s),λb k=>H.Ao hi (bG b k),q.mono λr d ⟨j,f⟩=>⟨f,z r d j λh x y=>H.g4 i h hi f x y⟩⟩
def _root_.Go.W.LH.off(H:LH M w0 w L D)(i j:Nat){e:aE}{sz:Nat}{s:Sl}{xs:List aa}{d:En}(hi:L[i]? =some (.row e sz s xs):=by rfl)(q:D[j]? =some d:=by rfl):∀h∈az s,h∉d.fp:=λh x k=>
 H.dj d (aD q) h k _ (aD hi) x
end
def wR(s:Sl)(l:List I)(r:bW)(w Y:J):Prop:=∃d:Sl,r=ae d.v/\aG Y aZ 4 d (l.flatMap I.c)/\∀h∈az d,h∈az s
def AG{w:J}{s:Sl}{l:List I}(D:List En)(q:aG w aZ 4 s (l.flatMap I.c))(h:∀e∈D,e.P w/\∀y∈az s,y∉e.fp):LH (·∈az s) w w [.row aZ 4 s (l.flatMap I.c)] D:=
 LH.th _ _ (by
  intro e d;simp only[aq,aL,aO]at d;subst d;exact⟨q,λb j=>j⟩) (by
  simp only[cH,List.flatMap_nil,List.append_nil];exact(En.row aZ 4 s (l.flatMap I.c)).nd) (λe d=>⟨(h e d).1,λb j z k=>by simp only[aq,aL,aO]at k;subst k;exact λx=>(h e d).2 b x j⟩)
def V9{α:Type}{l:List α}{i:Nat}{a:α}(h:i<l.length):(l.set i a).take (i+1)=l.take i++[a]:=by rw[dV,kv h,List.take_set_of_le (br _)];rfl
def YE(s:Sl)(l:List I)(u:I)(b:Nat)(w:J)(hl:I.a9 l<=1000000)(M:aG w aZ 4 s (l.flatMap I.c))(pl:I.Ps w l)(pu:u.P w)(hb:w.heap[b]? =some (.cells u.c.toArray aZ (0,0)))(K:∀q∈az s,q∉I.bj l/\q∉u.fp/\q≠b):
  ai V Qq #[s.v,.func (.func vd) #[] #[.pointer (some (ab b))]] w λr y=>wR s (l.filter λt=>!(be t.rx u.rx==0)) r w y/\Fr (·∈az s) w y:=by
 have nr:=I.cI M.bf;have al:=I.gh l;have kt:∀t∈l,t.sz<=1000000:=λt A=>bb (I.eK A) hl;have N:LH (·∈az s) w w [.row aZ 4 s (l.flatMap I.c)] [.trees l,.tree u,eu b u]:=AG _ M (by
  intro e W;simp only[aq,aL,aO]at W;rcases W with rfl|rfl|rfl
  .exact ⟨pl,λq h B=>(K q h).1 (aT.1 B)⟩
  .exact ⟨pu,λq h B=>(K q h).2.1 (aT.1 B)⟩
  .exact ⟨hb,λq h B=>(K q h).2.2 (by simpa[eu,En.c,En.ob]using B)⟩)
 have loop:∀(d i j:Nat) (cur:List I) (C:J),j+d=l.length->i<j->cur.length=l.length->cur.drop j=l.drop j->cur.take i=(l.take j).filter (λt=>!(be t.rx u.rx==0))->LH (·∈az s) w C [.row aZ 4 s (cur.flatMap I.c)] [.trees l,.tree u,eu b u]->
   tc.a6 s (ab b) (i:Int) (j:Int) C λr y=>wR s (l.filter λt=>!(be t.rx u.rx==0)) r w y/\Fr (·∈az s) w y:=by
  intro d;induction d with
  |zero=>
   intro i j cur C hj ad U F Y x;refine tc.bD (aN (aW co) ⟨co,co,?_⟩);have aj:=(x.get 0:aG _ _ _ _ _).cap;obtain⟨w2,D,S,H⟩:=KD (ty:=ll) r8 W8 rfl (x.get 0) i co;refine⟨w2,D,co,co,⟨⟨if s.c=0 then s.a else s.a.map (·.add (0 *4)),i - 0,s.c - 0⟩,rfl,?_,λq h=>?_⟩,x.fr.trans H λq _ aa=>aa⟩
   .have e:(cur.flatMap I.c).take (i *4)=(l.filter λt=>!(be t.rx u.rx==0)).flatMap I.c:=by
     have ag:(cur.flatMap I.c).take (i *4)=(cur.take i).flatMap I.c:=by
      have:=I.e1 (cur.take i);conv=>lhs;rw[<-mU i cur,cW]
      grind
     grind
    grind
   .simp only[az]at h ⊢;split at h
    .rename_i p z;split at z
     .omega
     .cases af:s.a with
      |none=>grind
      |some am=>
       rw[af]at z;simp only[Option.map_some,fy]at z;subst z;rw[jO]at h;exact h
    grind
  |succ d Z=>
   intro i j cur C hj ad U F Y x;have L:l[j]? =some (l[j]'co):=a' co;generalize ak:l[j]'co=a at L;have ac:cur[j]? =some a:=by
    have:(cur.drop j)[0]? =(l.drop j)[0]?:=by rw[F]
    grind
   have T:=aD L;have ae:l.take (j+1)=l.take j++[a]:=by rw[dV,L];rfl
   refine tc.bD (aM (aR co) ⟨co,co,G0 (x.get 0) ac λp z c=>⟨a.k,a.lo.toNat,a.hi.toNat,a.s,c.c0,c.c1,c.c2,c.c3,?_⟩⟩);refine x.aH (λb7 w2 H2=>H2.ah λw3 E=>?_);refine E.aA (JN a u b w3 (kt a T) ((show I.Ps w3 l from E.getD 0).mem T) (E.getD 1) (E.getD 2)) ?_;rintro _ w4 rfl Q;refine⟨_,rfl,eb (λhf=>⟨co,co,?_⟩) (λA=>?_)⟩
   .rw [z];refine(show eh (some p) _ from ?_);refine Q.VJ 0 i (t:=a) (O:=cur) rfl z co (λw5 H5=>?_);show tc.a6 _ _ _ _ _ _;rw[bc _ co,bc _ co];refine Z (i+1) (j+1) (cur.set i a) w5 co co (by grind) ?_ ?_ (H5.take 1)
    .rw [List.drop_set_of_lt co,<-q1,F,q1]
    .rw [V9 co,Y,ae,List.filter_append]
     grind
   .show tc.a6 _ _ _ _ _ _;rw[bc _ co];refine Z i (j+1) cur w4 co co U ?_ ?_ (Q.take 1)
    .rw [<-q1,F,q1]
    grind
 refine tc.aC ?_;have hI:=Jz s l ⟨vd,#[],#[.pointer (some (ab b))]⟩ (λt=>be t.rx u.rx==0) [.trees l,.tree u,eu b u] w co M.bf (N.rd) (by kernel_rfl) (λy t A G=>JN t u b y (kt t A) ((show I.Ps y l from G.getD 1).mem A) (G.getD 2) (G.getD 3));refine N.call hI ?_;rintro _ C rfl x;rcases Mz (λt=>be t.rx u.rx==0) l 0 with⟨D,S⟩|⟨m,a,D,S,H,h4⟩
 .refine ⟨_,rfl,aM (by grind) ⟨⟨s,rfl,?_,λq h=>h⟩,x.fr⟩⟩;rw[List.filter_eq_self.2 (λt A=>by grind)];exact x.get 0
 .have B:m<l.length:=(cX.1 D).1;refine⟨_,rfl,aN (by grind) ?_⟩;rw[H,Nat.zero_add,bc _ co];refine loop (l.length - (m+1)) m (m+1) l C co co rfl rfl ?_ x;rw[dV,D,List.filter_append,List.filter_eq_self.2 (λt A=>by grind)]
  grind
def fk(x k:I):List I:=if k.k=x.k then k.l else[k]
def FG(u t:I):Bool:=!(be t.rx u.rx==0)
def gT(x u:I):List I:=(x.l.flatMap (fk x)).filter (FG u)
structure Sub(x:I)(l:List I):Prop where
 P:∀w:J,x.P w->∀t∈l,t.P w
 fp:∀t∈l,∀b∈t.fp,b∈x.fp
def Sub.part{x t:I}(h:t∈x.l):Sub x [t]:=⟨λw k q d=>by
  simp at d;subst d;exact k.parts.2.mem h,λq d b j=>by simp at d;subst d;exact I.gU.2 (.inr (I.b'.2 ⟨_,h,j⟩))⟩
def Sub.open{x k:I}(h:k∈x.l):Sub x (fk x k):=by
 unfold fk;split
 .exact ⟨λw q t d=>((q.parts.2.mem h).parts.2).mem d,λt d b j=>I.gU.2 (.inr (I.b'.2 ⟨k,h,I.gU.2 (.inr (I.b'.2 ⟨t,d,j⟩))⟩))⟩
 .exact .part h
def Sub.flat{x:I}{l:List I}(h:∀j∈l,j∈x.l):Sub x (l.flatMap (fk x)):=⟨λw q t d=>by
  obtain⟨j,k,d⟩:=cc.1 d;exact(Sub.open (h j k)).P w q t d,λt d=>by obtain⟨j,k,d⟩:=cc.1 d;exact(Sub.open (h j k)).fp t d⟩
def Sub.sub{x:I}{l m:List I}(h:Sub x l)(j:∀t∈m,t∈l):Sub x m:=⟨λq k t d=>h.P q k t (j t d),λt d=>h.fp t (j t d)⟩
def Sub.Ps{x:I}{l:List I}(h:Sub x l){w:J}(d:x.P w):I.Ps w l:=I.jd (h.P w d)
def Sub.bj{x:I}{l:List I}(h:Sub x l){b:Nat}(d:b∈I.bj l):b∈x.fp:=by obtain⟨t,j,d⟩:=I.b'.1 d;exact h.fp t j b d
def Sub.gT(x u:I):Sub x (gT x u):=(Sub.flat (λ_ d=>d)).sub λ_ d=>(List.mem_filter.1 d).1
def v7(x:I):∀l:List I,I.a9 (l.flatMap (fk x))<=I.a9 l
 |[]=>br _
 |d::l=>by
  have h:I.a9 (fk x d)<=d.sz:=by
   unfold fk;split
   .rw [I.iR d];omega
   .simp [I.a9]
  rw[cH,v5];have:=v7 x l;show _<=d.sz+I.a9 l;omega
def VZ(d:I->Bool):∀l:List I,I.a9 (l.filter d)<=I.a9 l
 |[]=>br _
 |h::l=>by
  have:=VZ d l;rw[List.filter_cons];split
  .unfold I.a9;omega
  .show _<=h.sz+I.a9 l;omega
def ago(x u:I):I.a9 (gT x u)+1<=x.sz:=by have d:=VZ (FG u) (x.l.flatMap (fk x));have h:=v7 x x.l;rw[I.iR x];unfold gT;omega
def Dp(w:J)(l:List I)(r:bW)(Y:J):Prop:=∃d:Sl,r=ae d.v/\aG Y aZ 4 d (l.flatMap I.c)/\∀h∈az d,w.heap.size<=h
def Y'(x u:I)(w:J)(h:x.sz<=1000000)(W:x.P w)(pu:u.P w):ai V Qb #[x.v,u.v] w λr Y=>Dp w (gT x u) r Y/\af w Y:=by
 have hs:=I.iR x;have hl:=I.gh x.l;have an:=I.cI W.parts.1;have loop:∀(d i:Nat) (acc:List I) (sl:Sl) (b2 B:Nat) (z:J),i+d=x.l.length->acc=(x.l.take i).flatMap (fk x)->LH F0 w z [.g b2,.c B u.c aZ,.row aZ 4 sl (acc.flatMap I.c)] [.tree x,.tree u]->
   s6.a6 b2 x.k x.lo.toNat x.hi.toNat x.s (ab B) sl x.s (x.s.n:Int) (i:Int) z λr Y=>Dp w (gT x u) r Y/\af w Y:=by
  intro d;induction d with
  |zero=>
   intro i acc sl b2 B z aa C q;have S:Sub x acc:=by rw[C];exact Sub.flat λam D=>List.mem_of_mem_take D
   have ad:I.a9 acc<=I.a9 x.l:=by rw[C,eO co];exact v7 x x.l
   refine s6.bD (aN (aW co) ?_);refine q.D9 2 rfl (YE sl acc u B z co (q.get 2) (S.Ps (q.getD 0)) (q.getD 1) (q.ob 1) (λQ L=>⟨λy=>q.off 2 0 rfl rfl Q L (aT.2 (S.bj y)),λy=>q.off 2 1 rfl rfl Q L (aT.2 y),λy=>?_⟩)) ?_
   .exact mE q.nd (i:=2) rfl (j:=1) rfl co Q L (by simp[En.c,En.ob,y])
   rintro _ M ⟨s',rfl,K,hb⟩ hH;have A:=hH (.row aZ 4 s' ((acc.filter (FG u)).flatMap I.c)) K λb H=>.inl (hb b H);refine⟨s',rfl,⟨s',rfl,?_,λb H=>(A.new _ (aD (i:=2) rfl) b H).resolve_right id⟩,A.fr⟩;rw[C,eO co]at K;exact K
  |succ d al=>
   intro i acc sl b2 B z aa C q;have F:x.l[i]? =some (x.l[i]'co):=a' co;generalize x.l[i]'co=a at F;have y:=aD F;have ae:x.P z:=q.getD 0;have ap:=I.eK y;have ad:I.a9 acc<=I.a9 x.l:=by
    have h1:=v7 x (x.l.take i);have h2:=B1 x.l i
    grind
   have aj:acc++fk x a=(x.l.take (i+1)).flatMap (fk x):=by rw[dV,F,cW,C];simp
   have ao:=I.cI (q.get 2:aG _ _ _ _ _).bf;have ac:=I.gh acc;have tail:∀(s':Sl) (Y:J),LH F0 w Y [.g b2,.c B u.c aZ,.row aZ 4 s' ((acc++fk x a).flatMap I.c)] [.tree x,.tree u]->s6.b3 b2 x.k x.lo.toNat x.hi.toNat x.s (ab B) s' x.s (x.s.n:Int) (i:Int) Y λr Y=>Dp w (gT x u) r Y/\af w Y:=by
    intro s' Y H';show s6.a6 _ _ _ _ _ _ _ _ _ _ _ _;rw[bc _ co]
    grind
   refine s6.bD (aM (aR co) ⟨co,co,I.dE ae.parts.1 F λp hp c=>⟨_,_,_,_,c.c0,c.c1,c.c2,c.c3,?_⟩⟩);refine q.aH λb7 M A=>aP (λD=>A.ah λN E=>?_) (λD=>A.ah λN E=>?_)
   .have U:a.P N:=(show x.P N from E.getD 0).parts.2.mem y;have na:=I.cI U.parts.1;have ac:=I.gh a.l;have ak:=I.iR a;refine E.dp 2 r8 (xs:=acc.flatMap I.c) (src:=a.s) (news:=a.l.flatMap I.c) rfl U.parts.1 (ur _) co (λs' O G=>?_);refine tail s' O ?_;have e:fk x a=a.l:=au D;rw[e,cW];exact G.take 3
   .refine E.iD 2 r8 (xs:=acc.flatMap I.c) rfl (λs' O G=>?_) co;refine tail s' O ?_;have e:fk x a=[a]:=ag D;rw[e,nr];exact G.take 3
 refine s6.aC ((bK [.tree x,.tree u] (by
  intro e T;simp only[aq,aL,aO]at T;rcases T with rfl|rfl
  .exact W
  .exact pu)).aH λb2 z Z=>Z.nw λM _ A=>?_)
 exact loop x.l.length 0 [] ⟨none,0,0⟩ b2 z.heap.size M co rfl (A.fY aZ 4)
def Ee(a b:Int):cO b a=-cO a b:=by
 have s:∀a b:Int,(cO a b=-1/\a<b)\/(cO a b=1/\b<a)\/(cO a b=0/\a=b):=λa b=>by
  unfold cO;split
  .exact .inl ⟨rfl,co⟩
  .split
   .exact .inr (.inl ⟨rfl,co⟩)
   .exact .inr (.inr ⟨rfl,co⟩)
 rcases s a b with d|d|d<;>rcases s b a with h|h|h<;>omega
def GY(c d:Int)(l m:List Int)(h:d=-c)(j:eI m=-eI l):eI (d::m)=-eI (c::l):=by
 show(if d≠0 then d else eI m)=-(if c≠0 then c else eI l);split
 .rw [au co];exact h
 .rw [ag co];exact j
def yn(c:Int):eI [c]=c:=by show(if c≠0 then c else 0)=c;split<;>omega
def ux(k:Int)(lo hi:UInt8)(l:List Rx)(b:Rx):be (.mk k lo hi l) b=eI [cO k b.k,cO lo.toNat b.lo.toNat,cO hi.toNat b.hi.toNat,cmpL l b.l]:=by
 unfold be;generalize cO k b.k=c0;generalize cO lo.toNat b.lo.toNat=c1;generalize cO hi.toNat b.hi.toNat=c2;generalize cmpL l b.l=c3;simp only[eI];by_cases d:c0=0
 .by_cases h:c1=0
  .by_cases j:c2=0
   .by_cases q:c3=0<;>simp[d,h,j,q]
   .simp [d,h,j]
  .simp [d,h]
 .simp [d]
mutual
def kf:∀a b:Rx,be b a=-be a b
 |.mk k lo h l,.mk q w j d=>by rw[ux,ux];exact GY _ _ _ _ (Ee _ _) (GY _ _ _ _ (Ee _ _) (GY _ _ _ _ (Ee _ _) (by rw[yn,yn];exact Kp l d)))
def Kp:∀a b:List Rx,cmpL b a=-cmpL a b
 |[],[]=>by unfold cmpL;rfl
 |[],_::_=>by unfold cmpL;rfl
 |_::_,[]=>by unfold cmpL;rfl
 |d::l,h::m=>by
  have j:=kf d h;have k:=Kp l m;show(if be h d≠0 then be h d else cmpL m l)=-(if be d h≠0 then be d h else cmpL l m);split
  .rw [au co];exact j
  .rw [ag co];exact k
end
structure rS(x y z:Int):Prop where
 le:x<=0->y<=0->z<=0
 lt:x<0->y<=0->z<0
 lt':x<=0->y<0->z<0
 eq:x=0->y=0->z=0
def Ef(a b c:Int):rS (cO a b) (cO b c) (cO a c):=by
 have s:∀a b:Int,(cO a b=-1/\a<b)\/(cO a b=1/\b<a)\/(cO a b=0/\a=b):=λa b=>by
  unfold cO;split
  .exact .inl ⟨rfl,co⟩
  .split
   .exact .inr (.inl ⟨rfl,co⟩)
   .exact .inr (.inr ⟨rfl,co⟩)
 rcases s a b with d|d|d<;>rcases s b c with h|h|h<;>rcases s a c with j|j|j<;>constructor<;>omega
def B8{x y z B C D:Int}(h:rS x y z)(K:rS B C D):rS (if x≠0 then x else B) (if y≠0 then y else C) (if z≠0 then z else D):=by
 obtain⟨L,k,w,E⟩:=h;obtain⟨F,G,H,I⟩:=K;by_cases A:x=0
 .by_cases q:y=0
  .have M:=E A q;rw[ag co,ag co,ag co];exact⟨F,G,H,I⟩
  .rw [ag (by omega:¬x≠0),au q];constructor
   .intro d j;have:=w co co;rw[au co];omega
   .intro d j;have:=w co co;rw[au co];omega
   .intro d j;have:=w co co;rw[au co];omega
   .intro d j;omega
 .rw [au A];by_cases q:y=0
  .rw [ag (by omega:¬y≠0)];constructor
   .intro d j;have:=k co co;rw[au co];omega
   .intro d j;have:=k co co;rw[au co];omega
   .intro d j;have:=k co co;rw[au co];omega
   .intro d j;omega
  .rw [au q];constructor
   .intro d j;have:=k co co;rw[au co];omega
   .intro d j;have:=k co co;rw[au co];omega
   .intro d j;have:=k co co;rw[au co];omega
   .intro d j;omega
mutual
def xh:∀a b c:Rx,rS (be a b) (be b c) (be a c)
 |.mk w lo j l,.mk x z k d,.mk y A q h=>by
  rw[ux,ux,ux];have:=Kq l d h;exact B8 (Ef _ _ _) (B8 (Ef _ _ _) (B8 (Ef _ _ _) (by show rS (eI [cmpL l d]) (eI [cmpL d h]) (eI [cmpL l h]);rw[yn,yn,yn];exact this)))
def Kq:∀a b c:List Rx,rS (cmpL a b) (cmpL b c) (cmpL a c)
 |[],[],[]=>by unfold cmpL;constructor<;>omega
 |[],[],_::_=>by unfold cmpL;constructor<;>omega
 |[],_::_,[]=>by unfold cmpL;constructor<;>omega
 |_::_,[],[]=>by unfold cmpL;constructor<;>omega
 |_::_,[],_::_=>by have d:∀(x:Rx) (l:List Rx),cmpL (x::l) []=1:=λ_ _=>rfl;have h:∀(x:Rx) (l:List Rx),cmpL [] (x::l)=-1:=λ_ _=>rfl;rw[d,h];constructor<;>omega
 |[],j::m,k::n=>by have h:∀(x:Rx) (l:List Rx),cmpL [] (x::l)=-1:=λ_ _=>rfl;rw[h,h];constructor<;>omega
 |x::l,j::m,[]=>by have d:∀(x:Rx) (l:List Rx),cmpL (x::l) []=1:=λ_ _=>rfl;rw[d,d];constructor<;>omega
 |x::l,j::m,k::n=>B8 (xh x j k) (Kq l m n)
end
def mK(x:Rx):List Rx->List Rx
 |[]=>[x]
 |d::p=>if be x d<0 then d::mK x p else x::d::p
def lg(l:List Rx):List Rx:=(l.foldl (λp d=>mK d p) []).reverse
def kS(p:Rx):List Rx->List Rx
 |[]=>[]
 |d::l=>if be d p==0 then kS d l else d::kS d l
def r5:List Rx->List Rx
 |[]=>[]
 |a::l=>a::kS a l
def Eg{a b:Int}(h:cO a b=0):a=b:=by
 unfold cO at h;split at h
 .cases h
 .split at h
  .cases h
  .omega
def Sd:∀{l:List Int},eI l=0->∀j∈l,j=0
 |[],_=>λj d=>by cases d
 |a::l,h=>by
  unfold eI at h;split at h
  .rename_i q;exact absurd h q
  .rename_i k;have k:a=0:=by simpa using k
   intro j d;rcases aq.1 d with rfl|d
   .exact k
   .exact Sd h j d
def WB{a b:UInt8}(h:(a.toNat:Int)=b.toNat):a=b:=UInt8.toNat_inj.1 co
mutual
def cmp_eq:∀a b:Rx,be a b=0->a=b
 |.mk A lo y l,.mk B C z x,d=>by rw[ux]at d;have d:=Sd d;have h:=Eg (d _ (oL ..));have j:=WB (Eg (d _ (e6 _ (oL ..))));have q:=WB (Eg (d _ (e6 _ (e6 _ (oL ..)))));have w:=Ku l x (d _ (e6 _ (e6 _ (e6 _ (oL ..)))));simp only[Rx.k,Rx.lo,Rx.hi]at h j q;rw[h,j,q,w]
def Ku:∀l m:List Rx,cmpL l m=0->l=m
 |[],[],_=>rfl
 |[],_::_,d=>by unfold cmpL at d;cases d
 |_::_,[],d=>by unfold cmpL at d;cases d
 |a::l,b::m,d=>by
  unfold cmpL at d;split at d
  .rename_i j;exact absurd d j
  .rename_i h;rw[cmp_eq a b (by simpa using h),Ku l m d]
end
def Ej(a:Rx):be a a=0:=by have:=kf a a;omega
def r4{a b:Rx}:(be a b==0)=true↔a=b:=⟨λd=>cmp_eq a b (eq_of_beq d),λd=>by subst d;rw[Ej];rfl⟩
def xj{a b:Rx}:be a b=0↔a=b:=⟨cmp_eq a b,λd=>by subst d;exact Ej a⟩
def Kt{a b:Rx}:(!(be a b==0))=true↔a≠b:=by rw[Bool.not_eq_true',<-jI,not_congr r4]
abbrev jK(l:List Rx):Prop:=l.Pairwise λa b=>be a b<0
abbrev lq(l:List Rx):Prop:=l.Pairwise λa b=>be a b<=0
def jK.nodup{l:List Rx}(h:jK l):l.Nodup:=List.nodup_iff_pairwise_ne.2 (h.imp λ{a b} d e=>by subst e;rw[Ej]at d;omega)
def jK.Jm{l:List Rx}(h:jK l):lq l:=h.imp λ{a b} d=>co
def Jn{l m:List Rx}(d:lq l)(j:lq m)(h:l.Perm m):l=m:=List.Perm.eq_of_pairwise (λa b _ _ k q=>cmp_eq a b (by have:=kf a b;omega)) d j h
def abF{l m:List Rx}(d:jK l)(j:jK m)(h:∀t,t∈l↔t∈m):l=m:=Jn d.Jm j.Jm ((List.perm_ext_iff_of_nodup d.nodup j.nodup).2 h)
def Ft(x:Rx):∀p:List Rx,(mK x p).Perm (x::p)
 |[]=>.refl _
 |d::p=>by
  unfold mK;split
  .exact ((Ft x p).cons d).trans (.swap x d p)
  .exact .refl _
def MJ(x:Rx):∀{p:List Rx},p.Pairwise (λa b=>be b a<=0)->(mK x p).Pairwise λa b=>be b a<=0
 |[],_=>by unfold mK;simp
 |j::p,k=>by
  have h:=List.pairwise_cons.1 k;unfold mK;split
  .rename_i w;refine List.pairwise_cons.2 ⟨λt d=>?_,MJ x h.2⟩;rcases aq.1 ((Ft x p).mem_iff.1 d)with rfl|d
   .omega
   .exact h.1 t d
  .rename_i w;have q:be j x<=0:=by have:=kf x j;omega
   refine List.pairwise_cons.2 ⟨λt d=>?_,k⟩;rcases aq.1 d with rfl|d
   .exact q
   .exact (xh t j x).le (h.1 t d) q
def HZ(l:List Rx):(lg l).Perm l:=by
 have:∀(l p:List Rx),(l.foldl (λp j=>mK j p) p).Perm (l++p):=by
  intro l;induction l with
  |nil=>intro p;exact .refl _
  |cons a l h=>
   intro p;rw[List.foldl_cons];exact(h _).trans (((Ft a p).append_left l).trans List.perm_middle)
 unfold lg;have d:=this l [];rw[List.append_nil]at d;exact(List.reverse_perm _).trans d
def HY(l:List Rx):lq (lg l):=by
 have:∀(l p:List Rx),p.Pairwise (λa b=>be b a<=0)->(l.foldl (λp j=>mK j p) p).Pairwise λa b=>be b a<=0:=by
  intro l;induction l with
  |nil=>intro p d;exact d
  |cons a l h=>intro p d;exact h _ (MJ a d)
 unfold lg;exact List.pairwise_reverse.2 (this l [] .nil)
def afH{l m:List Rx}(h:lq m)(d:m.Perm l):m=lg l:=Jn h (HY l) (d.trans (HZ l).symm)
def El{t:Rx}:∀{l:List Rx} {p:Rx},(t=p\/t∈kS p l)↔(t=p\/t∈l)
 |[],p=>by unfold kS;simp
 |h::l,p=>by
  unfold kS;split
  .rename_i d;have e:h=p:=r4.1 d;subst e;rw[El,aq];constructor
   .rintro (d|d)<;>simp[d]
   .rintro (d|d|d)<;>simp[d]
  .rw [aq,aq];have:=El (t:=t) (l:=l) (p:=h);constructor
   .rintro (d|d)
    .exact .inl d
    .exact .inr (this.1 d)
   .rintro (d|d)
    .exact .inl d
    .exact .inr (this.2 d)
def Ek:∀{l:List Rx} {p:Rx},lq (p::l)->jK (p::kS p l)
 |[],p,_=>by unfold kS;simp
 |d::l,p,x=>by
  obtain⟨y,k⟩:=List.pairwise_cons.1 x;unfold kS;split
  .rename_i j;have e:d=p:=r4.1 j;subst e;exact Ek k
  .rename_i j;have w:be p d<0:=by have z:=y d ws;have A:=kf d p;have B:be d p≠0:=λe=>j (by rw[e];rfl);omega
   have q:=Ek k;refine List.pairwise_cons.2 ⟨λt h=>?_,q⟩;rcases aq.1 h with rfl|h
   .exact w
   .exact (xh p d t).lt w (by have:=(List.pairwise_cons.1 q).1 t h;omega)
def ZZ{l:List Rx}(h:lq l):jK (r5 l):=by
 cases l with
 |nil=>exact .nil
 |cons a l=>exact Ek h
def Z0{t:Rx}{l:List Rx}:t∈r5 l↔t∈l:=by
 cases l with
 |nil=>exact Iff.rfl
 |cons a l=>show t∈a::kS a l↔_;rw[aq,aq];exact El
def vQ(l:List Rx):List Rx:=r5 (lg l)
def UP(l:List Rx):jK (vQ l):=ZZ (HY l)
def UQ{t:Rx}{l:List Rx}:t∈vQ l↔t∈l:=by unfold vQ;rw[Z0,(HZ l).mem_iff]
def lX(r:Rx):List Rx->List Rx
 |[]=>[r]
 |d::p=>if be d r<0 then d::lX r p else if be d r=0 then d::p else r::d::p
def Hb{t r:Rx}:∀{p:List Rx},t∈lX r p↔t=r\/t∈p
 |[]=>by unfold lX;simp
 |j::p=>by
  unfold lX;split
  .rw [aq,Hb,aq];constructor
   .rintro (d|d|d)<;>simp[d]
   .rintro (d|d|d)<;>simp[d]
  .split
   .rename_i h;have e:=cmp_eq j r h;subst e;simp
   .simp
def Tf{r:Rx}:∀{p:List Rx},jK p->jK (lX r p)
 |[],_=>by unfold lX;simp
 |j::p,h=>by
  obtain⟨k,x⟩:=List.pairwise_cons.1 h;unfold lX;split
  .rename_i w;refine List.pairwise_cons.2 ⟨λt d=>?_,Tf x⟩;rcases Hb.1 d with rfl|d
   .exact w
   .exact k t d
  .split
   .exact h
   .rename_i w y;have q:be r j<0:=by have:=kf r j;omega
    refine List.pairwise_cons.2 ⟨λt d=>?_,h⟩;rcases aq.1 d with rfl|d
    .exact q
    .exact (xh r j t).lt q (by have:=k t d;omega)
def hG(k:Int):List Rx->List Rx->List Rx
 |out,[]=>out
 |out,t::l=>hG k (if k=3 then out++[t]else lX t out) l
def Si:∀(l out:List Rx),hG 3 out l=out++l
 |[],out=>by unfold hG;simp
 |t::l,out=>by unfold hG;rw[Si l,au rfl];simp
def Sj{k:Int}(h:k≠3):∀(l:List Rx) {out:List Rx},jK out->jK (hG k out l)
 |[],_,d=>d
 |t::l,out,d=>by unfold hG;rw[ag h];exact Sj h l (Tf d)
def Sk{k:Int}(h:k≠3){t:Rx}:∀(l:List Rx) {out:List Rx},t∈hG k out l↔t∈out\/t∈l
 |[],out=>by unfold hG;simp
 |a::l,out=>by
  unfold hG;rw[ag h,Sk h l,Hb,aq];constructor
  .rintro ((d|d)|d)<;>simp[d]
  .rintro (d|d|d)<;>simp[d]
def adQ(k:Int)(l:List Rx):hG k [] l=if k=3 then l else vQ l:=by
 split
 .rename_i d;subst d;rw[Si];rfl
 .rename_i d;exact abF (Sj d l .nil) (UP l) λt=>by rw[Sk d,UQ];simp
def ms(μ:Rx->Nat):List Rx->Nat
 |[]=>0
 |a::l=>μ a+ms μ l
section
variable {μ:Rx->Nat}
def NZ:∀l m:List Rx,ms μ (l++m)=ms μ l+ms μ m
 |[],m=>by simp[ms]
 |a::l,m=>by show μ a+ms μ (l++m)=μ a+ms μ l+ms μ m;rw[NZ l m];omega
def ac5{l m:List Rx}(h:l.Perm m):ms μ l=ms μ m:=by
 induction h with
 |nil=>rfl
 |cons d _ w=>show μ d+_=μ d+_;rw[w]
 |swap d j l=>show μ j+(μ d+_)=μ d+(μ j+_);omega
 |trans _ _ k q=>rw[k,q]
end
mutual
def dU:Rx->Nat|.mk _ _ _ l=>max 1 (AM l)
def AM:List Rx->Nat
 |[]=>0
 |a::l=>dU a+AM l
end
def NO:∀l:List Rx,AM l=ms dU l
 |[]=>rfl
 |a::l=>by unfold AM;rw[NO l];rfl
def sG(k:Int)(lo hi:UInt8)(l:List Rx):dU (.mk k lo hi l)=max 1 (ms dU l):=by unfold dU;rw[NO]
mutual
def pr(N:Nat):Rx->Prop|.mk k _ _ l=>sh N l/\(k=4\/k=5->ms dU l<=N)
def sh(N:Nat):List Rx->Prop
 |[]=>True
 |a::l=>pr N a/\sh N l
end
mutual
def EX{N:Nat}:∀d:Rx,dU d<=N->pr N d
 |.mk k lo j l,h=>by rw[sG]at h;unfold pr;exact⟨LZ l co,λ_=>co⟩
def LZ{N:Nat}:∀l:List Rx,ms dU l<=N->sh N l
 |[],_=>by unfold sh;trivial
 |a::l,d=>by have d:dU a+ms dU l<=N:=d;unfold sh;exact⟨EX a co,LZ l co⟩
end
abbrev acJ:ByteArray:=ByteArray.mk #[0,1,2,2,3,3,3,3,4,4,4,4,4,4,4,4,5,5,5,5,5,5,5,5,5,5,5,5,5,5,5,5,6,6,6,6,6,6,6,6,6,6,6,6,6,6,6,6,6,6,6,6,6,6,6,6,6,6,6,6,6,6,6,6,7,7,7,7,7,7,7,7,7,7,7,7,7,7,7,7,7,7,7,7,7,7,7,7,7,7,7,7,7,7,7,7,7,7,7,7,7,7,7,7,7,7,7,7,7,7,7,7,7,7,7,7,7,7,7,7,7,7,7,7,7,7,7,7,8,8,8,8,8,8,8,8,8,8,8,8,8,8,8,8,8,8,8,8,8,8,8,8,8,8,8,8,8,8,8,8,8,8,8,8,8,8,8,8,8,8,8,8,8,8,8,8,8,8,8,8,8,8,8,8,8,8,8,8,8,8,8,8,8,8,8,8,8,8,8,8,8,8,8,8,8,8,8,8,8,8,8,8,8,8,8,8,8,8,8,8,8,8,8,8,8,8,8,8,8,8,8,8,8,8,8,8,8,8,8,8,8,8,8,8,8,8,8,8,8,8,8,8,8,8,8,8]
namespace k2
abbrev P0:Ps:=[(0,.U),(2,.I)]
abbrev S2:=ak (ax V Tryz.f171 [] []) [4] P0
abbrev t1:=ao S2
abbrev S1:=ak t1 [3] P0
abbrev t2:=ao S1
abbrev S0:=ak t2 [2] P0
abbrev t3:=ao S0
def ok:=ay t3 PA [.U]
end k2
namespace F1
def ok:=ay (ax V Tryz.f257 [] []) Gf [.U]
end F1
namespace mY
abbrev P0:Ps:=[(0,.s),(1,.I),(2,.I),(3,.v [.g cE 0 0]),(8,.I)]
def L0:=bh (ax V Tryz.f265 [(4,lr 17),(6,lr 18)] []) [0,1,1] P0
abbrev t1:=bg L0
def L1:=bh t1 [0,1,1,2,1,2,1] [(0,.s),(1,.I),(2,.I),(3,.v [.g cE 0 0]),(8,.I),(9,.I)]
abbrev t2:=bg L1
abbrev S2:=ak t2 [2,2,1] P0
abbrev t3:=ao S2
def fO:=bm t3 L1
def bE:=bm t3 L0
def ok:=ay t3 Gx [.s,.I,.I,.g cE 0 0]
end mY
namespace U6
def ok:=ay (ax V Tryz.f281 [(1,lr 11)] []) Qy [.s,.I,.I,.r,.g cE 0 0]
end U6
namespace U4
def ok:=ay (ax V Tryz.f280 [] []) Qx [.s,.I,.I,.I,.r,.g cE 0 0]
end U4
namespace BS
abbrev S5:=ak (ax V Tryz.f268 [] []) [7] [(11,.r),(13,.I)]
abbrev t1:=ao S5
abbrev S4:=ak t1 [1,1,1,1,6] [(0,.s),(3,.v [.g cE 0 0]),(11,.r),(12,.I),(13,.I),(14,.I)]
abbrev t2:=ao S4
abbrev S3:=ak t2 [6] [(0,.s),(3,.v [.g cE 0 0]),(10,.I),(11,.r),(12,.I),(13,.I),(14,.I)]
abbrev t3:=ao S3
abbrev S2:=ak t3 [5] [(0,.s),(1,.I),(3,.v [.g cE 0 0]),(10,.I),(11,.r),(12,.I),(13,.I)]
abbrev t4:=ao S2
abbrev S1:=ak t4 [4] [(0,.s),(1,.I),(3,.v [.g cE 0 0]),(10,.I),(11,.r),(12,.I)]
abbrev t5:=ao S1
abbrev S0:=ak t5 [2] [(0,.s),(1,.I),(3,.v [.g cE 0 0]),(10,.I)]
abbrev t6:=ao S0
def ok:=ay t6 Qu [.s,.I,.I,.g cE 0 0]
end BS
namespace jY
abbrev P0:Ps:=[(0,.s),(1,.I),(2,.I),(3,.v [.g cE 0 0]),(9,.I),(10,.I)]
def L1:=bh (ax V Tryz.f270 [(5,lr 18),(11,lr 18),(16,lr 13),(17,lr 18),(22,lr 13),(23,lr 18)] []) [0,1,1,1,2] P0
abbrev t1:=bg L1
def L2:=bh t1 [0,4,1,2,1,1,2] P0
abbrev t2:=bg L2
def L4:=bh t2 [0,1,1,1,1,1,4,2,1,2,1,1,2] [(0,.s),(1,.I),(2,.I),(3,.v [.g cE 0 0]),(9,.I),(10,.I),(11,.I)]
abbrev t3:=bg L4
def L6:=bh t3 [0,1,1,1,6,2,1,2,1,1,2] [(0,.s),(1,.I),(2,.I),(3,.v [.g cE 0 0]),(9,.I),(10,.I),(12,.I)]
abbrev t4:=bg L6
abbrev S7:=ak t4 [2,2,1,1,2] P0
abbrev t5:=ao S7
def C':=bm t5 L6
abbrev S5:=ak t5 [5,2,1,2,1,1,2] P0
abbrev t6:=ao S5
def rL:=bm t6 L4
abbrev S3:=ak t6 [1,2,1,2,1,1,2] P0
abbrev t7:=ao S3
def j7:=bm t7 L2
def fO:=bm t7 L1
abbrev S0:=ak t7 [2] [(0,.s),(1,.I),(2,.I),(3,.v [.g cE 0 0]),(9,.I)]
abbrev t8:=ao S0
def ok:=ay t8 Qz [.s,.I,.I,.g cE 0 0]
end jY
namespace jZ
abbrev P0:Ps:=[(0,.s),(1,.I),(4,.v [.g cE 0 0]),(12,.I),(13,.I)]
def L0:=bh (ax V Tryz.f272 [(1,lr 16),(3,lr 16),(5,lr 17),(8,lr 16),(10,lr 16),(13,lr 16),(15,lr 17),(18,lr 16),(21,lr 16)] []) [0,2,3] P0
abbrev t1:=bg L0
def L1:=bh t1 [0,2,4] P0
abbrev t2:=bg L1
def L4:=bh t2 [0,2,9] P0
abbrev t3:=bg L4
def L5:=bh t3 [0,6,9] P0
abbrev t4:=bg L5
def L6:=bh t4 [0,2,1,4,9] P0
abbrev t5:=bg L6
abbrev S8:=ak t5 [5,4,9] P0
abbrev t6:=ao S8
abbrev S7:=ak t6 [2,4,9] P0
abbrev t7:=ao S7
def C':=bm t7 L6
def Xt:=bm t7 L5
def rL:=bm t7 L4
abbrev S3:=ak t7 [8] P0
abbrev t8:=ao S3
abbrev S2:=ak t8 [5] P0
abbrev t9:=ao S2
def fO:=bm t9 L1
def bE:=bm t9 L0
def ok:=ay t9 QA [.s,.I,.I,.I,.g cE 0 0]
end jZ
namespace nK
def L0:=bh (ax V Tryz.f256 [(17,lr 17)] []) [0,1,2] [(0,.s),(1,.I),(2,.I),(3,.I),(4,.v [.g cE 0 0]),(10,.b),(11,.b)]
abbrev t1:=bg L0
abbrev P0:Ps:=[(0,.s),(1,.I),(2,.I),(3,.I),(4,.v [.g cE 0 0]),(10,.b),(11,.b),(16,.I)]
abbrev S9:=ak t1 [1,1,13,3,2] P0
abbrev t2:=ao S9
abbrev qq:=ak t2 [15,3,2] P0
abbrev t3:=ao qq
abbrev S8:=ak t3 [12,3,2] [(0,.s),(1,.I),(2,.I),(3,.I),(4,.v [.g cE 0 0]),(11,.b),(16,.I),(18,.I),(19,.I),(20,.I)]
abbrev t4:=ao S8
abbrev S7:=ak t4 [11,3,2] [(0,.s),(1,.I),(2,.I),(3,.I),(4,.v [.g cE 0 0]),(11,.b),(12,.I),(16,.I),(18,.I),(19,.I)]
abbrev t5:=ao S7
abbrev S6:=ak t5 [8,3,2] [(0,.s),(1,.I),(2,.I),(3,.I),(4,.v [.g cE 0 0]),(12,.I),(13,.I)]
abbrev t6:=ao S6
abbrev P1:Ps:=[(0,.s),(1,.I),(2,.I),(3,.I),(4,.v [.g cE 0 0]),(10,.b),(11,.b),(12,.I),(13,.I)]
abbrev S5:=ak t6 [7,3,2] P1
abbrev t7:=ao S5
abbrev S4:=ak t7 [6,3,2] [(0,.s),(1,.I),(2,.I),(3,.I),(4,.v [.g cE 0 0]),(10,.b),(11,.b),(12,.I),(13,.I),(14,.I)]
abbrev t8:=ao S4
abbrev S3:=ak t8 [2,1,1,1,5,3,2] P1
abbrev t9:=ao S3
abbrev P2:Ps:=[(0,.s),(1,.I),(2,.I),(3,.I),(4,.v [.g cE 0 0]),(10,.b),(11,.b),(12,.I)]
abbrev S2:=ak t9 [4,3,2] P2
abbrev t10:=ao S2
abbrev S1:=ak t10 [1,3,2] P2
abbrev t11:=ao S1
def bE:=bm t11 L0
def ok:=ay t11 ada [.s,.I,.I,.I,.g cE 0 0]
end nK
namespace U2
def ok:=ay (ax V Tryz.f243 [] []) Qs [.s,.g cE 0 0]
end U2
def hX(x:I):List I->List I
 |[]=>[x]
 |d::p=>if be x.rx d.rx<0 then d::hX x p else x::d::p
def gJ(l:List I):List I:=(l.foldl (λp d=>hX d p) []).reverse
def Fs(x:I):∀p,(hX x p).length=p.length+1
 |[]=>rfl
 |d::p=>by
  unfold hX;split
  .simp [Fs x p]
  .simp
def afG(l:List I)(x:I):gJ (l++[x])=(hX x (gJ l).reverse).reverse:=by
 unfold gJ
 grind
def MH{x t:I}:∀{p:List I},t∈hX x p↔t=x\/t∈p
 |[]=>by unfold hX;simp
 |d::p=>by
  unfold hX;split
  .rw [aq,MH,aq]
   grind
  .simp
def afE{t:I}{l:List I}:t∈gJ l↔t∈l:=by
 have:∀(l p:List I),t∈l.foldl (λp h=>hX h p) p↔t∈l\/t∈p:=by
  intro l;induction l with
  |nil=>grind
  |cons a l d=>
   intro p;rw[List.foldl_cons,d,MH,aq]
   grind
 unfold gJ
 grind
def Vb(l:List I):(gJ l).length=l.length:=by
 have:∀(l p:List I),(l.foldl (λp h=>hX h p) p).length=l.length+p.length:=by
  intro l;induction l with
  |nil=>grind
  |cons a l d=>
   intro p;rw[List.foldl_cons,d,Fs,bR];omega
 unfold gJ
 grind
def MK(x:I):∀p:List I,(hX x p).map I.rx=mK x.rx (p.map I.rx)
 |[]=>rfl
 |d::p=>by
  unfold hX;rw[jf];unfold mK;split
  .rw [jf,MK x p]
  .rfl
def afI(l:List I):(gJ l).map I.rx=lg (l.map I.rx):=by
 have:∀(l p:List I),(l.foldl (λp d=>hX d p) p).map I.rx=(l.map I.rx).foldl (λp d=>mK d p) (p.map I.rx):=by
  intro l;induction l with
  |nil=>grind
  |cons a l h=>
   intro p;rw[List.foldl_cons,h,MK];rfl
 unfold gJ lg;rw[List.map_reverse,this];rfl
def MI(x:I):∀p:List I,(hX x p).Perm (x::p)
 |[]=>.refl _
 |d::p=>by
  unfold hX;split
  .exact ((MI x p).cons d).trans (.swap x d p)
  .exact .refl _
def afF(l:List I):(gJ l).Perm l:=by
 have:∀(l p:List I),(l.foldl (λp j=>hX j p) p).Perm (l++p):=by
  intro l;induction l with
  |nil=>intro p;exact .refl _
  |cons a l h=>
   intro p;rw[List.foldl_cons];exact(h _).trans (((MI a p).append_left l).trans List.perm_middle)
 unfold gJ;have d:=this l [];rw[List.append_nil]at d;exact(List.reverse_perm _).trans d
def afD(l:List I):lq ((gJ l).map I.rx):=by rw[afI];exact HY _
def If{l m:List I}(h:l.Perm m):I.a9 l=I.a9 m:=by
 induction h with
 |nil=>rfl
 |cons d _ k=>show d.sz+_=d.sz+_;rw[k]
 |swap d j l=>show j.sz+(d.sz+_)=d.sz+(j.sz+_);omega
 |trans _ _ q w=>omega
def agk{α:Type}(A B:List α)(y x:α)(j:Nat)(d:j=A.length+1):((A++y::x::B).set j y).set (j - 1) x=A++x::y::B:=by subst d;rw[List.set_append_right _ _ co,Nat.add_sub_cancel,List.set_append_right _ _ co];simp
def Ze(s:Sl)(l:List I)(w:J)(hl:I.a9 l<=1000000)(ho:aG w aZ 4 s (l.flatMap I.c))(pl:I.Ps w l)(hd:∀h∈az s,h∉I.bj l)(A X Z:List I)(z:l=A++X++Z)(b:Nat)(hb:b=A.length+X.length):
  ai V Gx #[s.v,.i (A.length:Int),.i (b:Int),.func (.func cE) #[] #[]] w λr D=>(r=ae (.tuple #[])/\aG D aZ 4 s ((A++gJ X++Z).flatMap I.c))/\Fr (·∈az s) w D:=by
 have ll:=I.gh l;have lX:A.length+X.length+Z.length=l.length:=by grind
 have M:LH (·∈az s) w w [.row aZ 4 s (l.flatMap I.c)] [.trees l]:=AG _ ho (by intro e z;simp only[aq,aL,aO]at z;subst z;exact⟨pl,λh L hm=>hd h L (aT.1 hm)⟩)
 have kt:∀t∈l,t.sz<=1000000:=λt C=>bb (I.eK C) hl;have mA:∀t∈X,t∈l:=λt C=>by grind
 let G:aK:=λr D=>(r=ae (.tuple #[])/\aG D aZ 4 s ((A++gJ X++Z).flatMap I.c))/\Fr (·∈az s) w D
 have outer:∀(d i:Nat) (E:J),A.length+i+d=b->LH (·∈az s) w E [.row aZ 4 s ((A++gJ (X.take i)++(X.drop i++Z)).flatMap I.c)] [.trees l]->
   mY.L0 s (A.length:Int) (b:Int) ((A.length+i:Nat):Int) E G:=by
  intro d;induction d with
  |zero=>
   intro i E hi N;refine mY.bE (aN (aW co) ⟨⟨rfl,?_⟩,N.fr⟩);have:=N.get 0;rw[eO co,c9 co,List.nil_append]at this;exact this
  |succ d al=>
   intro i E hi N;refine mY.bE (aM (aR co) ?_);have Y:X[i]? =some (X[i]'co):=a' co;have aa:=dz (l:=X) (i:=i) co;generalize X[i]'co=h at Y aa;have hS:gJ (X.take (i+1))=(hX h (gJ (X.take i)).reverse).reverse:=by rw[dV,Y,Option.toList_some,afG]
   have L:h∈l:=mA h (aD Y);have next:∀(k:J),LH (·∈az s) w k [.row aZ 4 s ((A++gJ (X.take (i+1))++(X.drop (i+1)++Z)).flatMap I.c)] [.trees l]->mY.S2 s (A.length:Int) (b:Int) ((A.length+i:Nat):Int) k G:=by
    intro k x;show mY.L0 _ _ _ _ _ _;rw[bc _ co]
    grind
   have inner:∀(p:Nat) (P Q:List I) (k:J),P.length=p->(hX h P.reverse).reverse++Q=gJ (X.take (i+1))->(∀t∈P,t∈l)->LH (·∈az s) w k [.row aZ 4 s ((A++P++h::(Q++(X.drop (i+1)++Z))).flatMap I.c)] [.trees l]->
     mY.L1 s (A.length:Int) (b:Int) ((A.length+i:Nat):Int) ((A.length+p:Nat):Int) k G:=by
    intro p;induction p with
    |zero=>
     intro P Q k hp B U x;have:P=[]:=List.length_eq_zero_iff.1 hp;subst this;refine mY.fO (x.dr λF q=>aN (aW co) (next F ?_));have ak:h::Q=gJ (X.take (i+1)):=B
     grind
    |succ p af=>
     intro P Q k hp B U x;obtain⟨j,y,rfl⟩:∃j y,P=j++[y]:=⟨P.dropLast,P.getLast (λah=>by grind),(List.dropLast_concat_getLast _).symm⟩;have ad:j.length=p:=by grind
     have hy:y∈l:=U y ws;have eA:A++(j++[y])++h::(Q++(X.drop (i+1)++Z))=(A++j)++y::h::(Q++(X.drop (i+1)++Z)):=ws
     rw[eA]at x;have lA:(A++j).length=A.length+p:=by grind
     have gy:((A++j)++y::h::(Q++(X.drop (i+1)++Z)))[A.length+p]? =some y:=by rw[<-lA,List.getElem?_append_right (br _)];simp
     have T:((A++j)++y::h::(Q++(X.drop (i+1)++Z)))[A.length+(p+1)]? =some h:=by rw[<-Nat.add_assoc,<-lA,List.getElem?_append_right (Nat.le_succ _)];simp
     have hlen:((A++j)++y::h::(Q++(X.drop (i+1)++Z))).length<=1000000:=by have h1:=congrArg List.length B;rw[Vb,List.length_append,List.length_reverse,Fs,List.length_reverse]at h1;simp only[List.length_append,bR,f',List.length_drop,List.length_nil]at h1 ⊢;omega
     have ac:=(cX.1 T).1;have H:aj .i64 (((A.length+(p+1):Nat):Int) - 1)=((A.length+p:Nat):Int):=by rw[Fk co co];rfl
     have K:hX h (j++[y]).reverse=if be h.rx y.rx<0 then y::hX h j.reverse else h::y::j.reverse:=by rw[List.reverse_append];rfl
     refine mY.fO (x.dr λF q=>aM (aR co) ?_);refine q.el 0 (A.length+(p+1)) rfl T (q.el 0 (A.length+p) H gy ?_);refine q.call (zN h y F (kt h L) ((show I.Ps F l from q.getD 0).mem L) ((show I.Ps F l from q.getD 0).mem hy)) ?_;rintro _ w4 rfl H4;refine⟨_,rfl,aF (λW=>H4.dr λw5 S=>?_) (λW=>next w4 ?_)⟩
     .refine S.el 0 (A.length+p) H gy (S.el 0 (A.length+(p+1)) rfl T (S.xu 0 (A.length+(p+1)) (t:=y) rfl ac λw6 H6=>?_));refine H6.xu 0 (A.length+p) (t:=h) (O:=((A++j)++y::h::(Q++(X.drop (i+1)++Z))).set (A.length+(p+1)) y) H (by grind) λw7 H7=>?_;rw[H];rw[au W]at K;refine af j (y::Q) w7 ad ?_ (λt C=>U t (by grind)) ?_
      .rw [<-B,K];simp
      .have e3:=agk (A++j) (Q++(X.drop (i+1)++Z)) y h (A.length+(p+1)) co
       grind
     .rw [ag W]at K;rw[<-B,K];simpa using H4
   have ab:(gJ (X.take i)).length=i:=by rw[Vb,f'];omega
   refine inner i (gJ (X.take i)) [] E ab ?_ (λt C=>mA t (List.mem_of_mem_take (afE.1 C))) ?_
   .grind
   grind
 refine mY.ok ?_;show mY.L0 _ _ _ _ _ G;rw[bc _ co];cases X with
 |nil=>
  refine mY.bE (aN (aW (by grind)) ⟨⟨rfl,?_⟩,Fr.refl _ _⟩);have:=M.get 0;rw[z]at this;exact this
 |cons a X=>
  refine outer (b - (A.length+1)) 1 w (by grind) ?_;rw[show l.flatMap I.c=(A++gJ ((a::X).take 1)++((a::X).drop 1++Z)).flatMap I.c from by rw[z];simp[gJ,hX]]at M;exact M
def agz{t:ByteArray}{m:Nat}{K:UInt8->Prop}(h:Nat.beq t.size 256=true)(j:m<256)(d:∀b,K b):∃b:UInt8,t[m]? =some b/\K b:=by rw[eS]at h;exact⟨t[m]'co,getElem?_pos t m co,d _⟩
def YJ(x:Int)(w:J):ai V Gf #[.u x] w λr d=>(∃t:Int,r=ae (.i t))/\af w d:=by
 have q:∀(x n:Int),k2.S2 x n w λr d=>(∃t:Int,r=ae (.i t))/\af w d:=by
  intro x n;have h:0<=aj .u8 x/\aj .u8 x<256:=by rw[IntKind.wrap_u8];omega
  obtain⟨m,z⟩:=Int.eq_ofNat_of_zero_le h.1;refine⟨h.1,?_⟩;have y:m<256:=co
  refine agz (by kernel_rfl) (by rw[z];exact y) λb=>⟨⟨_,rfl⟩,Fr.refl _ _⟩
 have k:∀(x n:Int),k2.S1 x n w λr d=>(∃t:Int,r=ae (.i t))/\af w d:=λx n=>aF (λ_=>q _ _) (λ_=>q _ _);have j:∀(x n:Int),k2.S0 x n w λr d=>(∃t:Int,r=ae (.i t))/\af w d:=λx n=>aF (λ_=>k _ _) (λ_=>k _ _);refine F1.ok ((k2.ok (aF (λ_=>j _ _) (λ_=>j _ _))).mono ?_);rintro _ A ⟨⟨t,rfl⟩,f⟩;exact⟨t,rfl,⟨t,rfl⟩,f⟩
def tY(n:Nat):Prop:=∀(s:Sl) (l:List I) (w:J),l.length<=n->I.a9 l<=1000000->aG w aZ 4 s (l.flatMap I.c)->I.Ps w l->(∀h∈az s,h∉I.bj l)->
 ai V Qs #[s.v,.func (.func cE) #[] #[]] w λr d=>(∃m:List I,r=ae (.tuple #[])/\m.Perm l/\lq (m.map I.rx)/\aG d aZ 4 s (m.flatMap I.c))/\Fr (·∈az s) w d
def iG(p:I):List I->List I
 |[]=>[]
 |d::l=>if be d.rx p.rx==0 then iG d l else d::iG d l
def lI:List I->List I
 |[]=>[]
 |a::l=>a::iG a l
def KC(l:List I)(i:Nat):(l.flatMap I.c).take (i *4)=(l.take i).flatMap I.c:=by
 have h:=I.e1 (l.take i);by_cases d:i<=l.length
 .conv=>lhs;rw[<-mU i l,cW]
  grind
 .rw [eO (by rw[I.e1];omega),eO (l:=l) co]
def KM(l:List I)(i:Nat)(h:i<=l.length):(l.flatMap I.c).drop (i *4)=(l.drop i).flatMap I.c:=by
 have d:=I.e1 (l.take i);rw[f',Nat.min_eq_left h]at d;conv=>lhs;rw[<-mU i l,cW]
 grind
def Z9{w:J}{s:Sl}{l m:List I}(j:aG w aZ 4 s (l.flatMap I.c))(i:Nat)(hi:i<=l.length)(D:l.take i=m){K:J->Prop}{R:aK}{w0:J}(C:Fr (·∈az s) w0 w)(B:∀r k,wR s m r w0 k->Fr (·∈az s) w0 k->R r k):
  (0:Int)<=(i:Int)/\(i:Int)<=(s.n:Int)/\∃(q:J),Sem.run V (Builtin.clear_ #[jk] ll #[.slice (if s.c=(a0 (i:Int))then s.a else s.a.map (·.add ((a0 (i:Int)) *4))) (s.n - (a0 (i:Int))) (s.c - (a0 (i:Int)))]) w=.ok (.tuple #[]) q/\
   (0:Int)<=(i:Int)/\(i:Int)<=(s.c:Int)/\R (ae (.slice (if s.c=0 then s.a else s.a.map (·.add (0 *4))) ((a0 (i:Int)) - 0) (s.c - 0))) q:=by
 have L:=I.cI j.bf;have H:=j.cap;obtain⟨F,y,z,A⟩:=KD (ty:=ll) r8 W8 rfl j i co;refine⟨co,co,F,y,co,co,B _ _ ⟨⟨if s.c=0 then s.a else s.a.map (·.add (0 *4)),i - 0,s.c - 0⟩,rfl,?_,λG h=>?_⟩ (C.trans A λG _ x=>x)⟩
 .rw [<-D,<-KC];exact z
 .simp only[az]at h ⊢;split at h
  .rename_i p d;split at d
   .grind
   .cases E:s.a with
    |none=>grind
    |some M=>
     rw[E]at d;simp only[Option.map_some,fy]at d;subst d;rw[jO]at h;exact h
  grind
section
variable {M:Nat->Prop} {w0 w:J} {L D:List En}
def _root_.Go.W.LH.EC(H:LH M w0 w L D)(i k b:Nat){s:Sl}{O:List I}{t:I}{X:Int}{K:Int->Int->Int->Sl->Prop}(x:X=(k:Int))(y:O[b+k]? =some t)(h:K t.k t.lo.toNat t.hi.toNat t.s)(hi:L[i]? =some (.row aZ 4 s (O.flatMap I.c)):=by rfl):
  (0:Int)<=X/\X<((s.n - b:Nat):Int)/\eh (if s.c=b then s.a else s.a.map (·.add (b *4))) λp=>∃a b c:Int,∃d:Sl,w.cell? ((p.add (a0 X *4)).add 0)=some (.i a)/\w.cell? ((p.add (a0 X *4)).add 1)=some (.int .u8 b)/\w.cell? ((p.add (a0 X *4)).add 2)=some (.int .u8 c)/\w.cell? ((p.add (a0 X *4)).add 3)=some d.v/\K a b c d:=by subst x;have j:aG w aZ 4 s (O.flatMap I.c):=H.get i hi;have A:=I.cI j.bf;have z:=(cX.1 y).1;have q:=j.bf.sub b s.n co (br _);rw[eO (by rw[I.e1];omega),KM _ _ co]at q;refine⟨co,co,I.dE (s:=pW 4 s b s.n) q (i:=k) (t:=t) (by grind) λp B c=>⟨_,_,_,_,c.c0,c.c1,c.c2,c.c3,h⟩⟩
end
def YB(s:Sl)(l:List I)(w:J)(hl:I.a9 l<=1000000)(ho:aG w aZ 4 s (l.flatMap I.c))(pl:I.Ps w l)(hd:∀x∈az s,x∉I.bj l):
  ai V Qn #[s.v,.func (.func sH) #[] #[]] w λr F=>wR s (lI l) r w F/\Fr (·∈az s) w F:=by
 have nr:=I.cI ho.bf;have ll:=I.gh l;have kt:∀t∈l,t.sz<=1000000:=λt Z=>bb (I.eK Z) hl;have ab:LH (·∈az s) w w [.row aZ 4 s (l.flatMap I.c)] [.trees l]:=AG _ ho (by intro e he;simp only[aq,aL,aO]at he;subst he;exact⟨pl,λx H Q=>hd x H (aT.1 Q)⟩)
 let S:aK:=λr F=>wR s (lI l) r w F/\Fr (·∈az s) w F
 have ah:∀(d k b m:Nat) (cur:List I) (p:I) (B:J),b+m+d=l.length->1<=m->1<=b->k<b+m->cur.length=l.length->cur.drop (b+m - 1)=l.drop (b+m - 1)->l[b+m - 1]? =some p->cur.take k++iG p (l.drop (b+m))=lI l->
   LH (·∈az s) w B [.row aZ 4 s (cur.flatMap I.c)] [.trees l]->
   oT.L2 s (k:Int) ⟨(if s.c=b then s.a else s.a.map (·.add (b *4))),(s.n - b),(s.c - b)⟩ (m:Int) B S:=by
  intro d;induction d with
  |zero=>
   intro k b m cur p B hb Q ac W hc P E h y;refine oT.j7 (aN (aW ?_) ?_)
   .grind
   rw[c9 co]at h;have Y:cur.take k=lI l:=by rw[<-h];simp[iG]
   exact Z9 (K:=λ_=>True) (y.get 0) k co Y y.fr λr F D G=>⟨D,G⟩
  |succ d aa=>
   intro k b m cur p B hb Q ac W hc P E h y;have A:l[b+m]? =some (l[b+m]'co):=a' co;have z:=dz (l:=l) (i:=b+m) co;generalize l[b+m]'co=x at A z;have ad:cur[b+m]? =some x:=by
    have:(cur.drop (b+m - 1))[1]? =(l.drop (b+m - 1))[1]?:=by rw[P]
    grind
   have ae:cur[b+(m - 1)]? =some p:=by
    have:(cur.drop (b+m - 1))[0]? =(l.drop (b+m - 1))[0]?:=by rw[P]
    rw[List.getElem?_drop,List.getElem?_drop,Nat.add_zero]at this
    grind
   have af:cur.drop (b+m)=l.drop (b+m):=by
    have:(cur.drop (b+m - 1)).drop 1=(l.drop (b+m - 1)).drop 1:=by rw[P]
    rw[q1,q1,show b+m - 1+1=b+m by omega]at this;omega
   have M:=aD A;have mp:=aD E;have T:aj .i64 ((m:Int) - 1)=((m - 1:Nat):Int):=Fk Q co;rw[z]at h;have U:iG p (x::l.drop (b+m+1))=if be x.rx p.rx==0 then iG x (l.drop (b+m+1))else x::iG x (l.drop (b+m+1)):=rfl;rw[U]at h;have next:∀(L:Nat) (C:List I) (q:J),L<b+(m+1)->C.length=l.length->C.drop (b+m)=l.drop (b+m)->C.take L++iG x (l.drop (b+m+1))=lI l->LH (·∈az s) w q [.row aZ 4 s (C.flatMap I.c)] [.trees l]->
     oT.S3 s (L:Int) ⟨(if s.c=b then s.a else s.a.map (·.add (b *4))),(s.n - b),(s.c - b)⟩ (m:Int) q S:=by intro L C q D G h3 h4 j;show oT.L2 _ _ _ _ _ _;rw[bc _ co];exact aa L b (m+1) C x q co co ac D G (by grind) (by grind) co j
   refine oT.j7 (aM (aR ?_) (y.dr λq j=>?_))
   .show (m:Int)<((s.n - b:Nat):Int);omega
   refine j.EC 0 m b rfl ad (j.EC 0 (m - 1) b T ae ?_);refine j.call (w7 x p q (kt x M) ((show I.Ps q l from j.getD 0).mem M) ((show I.Ps q l from j.getD 0).mem mp)) ?_;rintro _ w3 rfl N;refine⟨_,rfl,eb (λhf=>?_) (λZ=>?_)⟩
   .refine N.EC 0 m b rfl ad (N.xu 0 k (t:=x) (O:=cur) rfl co λw4 H4=>?_);rw[ag (by grind)]at h;rw[bc _ co];refine next (k+1) (cur.set k x) w4 co (by grind) ?_ ?_ H4
    .rw [List.drop_set_of_lt co];omega
    .rw [V9 co,ck];exact h
   grind
 have loop:∀(d k:Nat) (p:I) (B:J),k+d=l.length->1<=k->l[k - 1]? =some p->l.take k++iG p (l.drop k)=lI l->LH (·∈az s) w B [.row aZ 4 s (l.flatMap I.c)] [.trees l]->
   oT.L0 s (k:Int) B S:=by
  intro d;induction d with
  |zero=>
   intro k p B W D E h y;refine oT.bE (aN (aW co) ⟨⟨s,rfl,?_,λx H=>H⟩,y.fr⟩);rw[c9 co,eO co]at h;have Y:l=lI l:=by rw[<-h];simp[iG]
   rw[<-Y];exact y.get 0
  |succ d aa=>
   intro k p B W D E h y;have A:l[k]? =some (l[k]'co):=a' co;have z:=dz (l:=l) (i:=k) co;generalize l[k]'co=x at A z;have M:=aD A;have mp:=aD E;have T:aj .i64 ((k:Int) - 1)=((k - 1:Nat):Int):=Fk D co;rw[z]at h;have U:iG p (x::l.drop (k+1))=if be x.rx p.rx==0 then iG x (l.drop (k+1))else x::iG x (l.drop (k+1)):=rfl;rw[U]at h;refine oT.bE (aM (aR co) (y.dr λq j=>?_));refine j.el 0 k rfl A (j.el 0 (k - 1) T E ?_);refine j.call (w7 x p q (kt x M) ((show I.Ps q l from j.getD 0).mem M) ((show I.Ps q l from j.getD 0).mem mp)) ?_;rintro _ w3 rfl N;refine⟨_,rfl,bT (λZ=>⟨co,co,?_⟩) (λhf=>?_)⟩
   .grind
   .rw [ag (by grind)]at h;rw[bc _ co];refine aa (k+1) x w3 co co (by grind) ?_ N
    grind
 refine oT.ok (aF (λG=>⟨⟨s,rfl,?_,λx H=>H⟩,ab.fr⟩) (λG=>?_))
 .have e:lI l=l:=by
   cases l with
   |nil=>rfl
   |cons a l=>
    cases l with
    |nil=>rfl
    |cons b l=>grind
  grind
 .have A:l[0]? =some (l[0]'co):=a' co;have z:=dz (l:=l) (i:=0) co;generalize l[0]'co=x at A z;refine loop (l.length - 1) 1 x w co co A ?_ ab;rw[List.drop_zero]at z;rw[z];rfl
def hD(k:Int)(l:List Rx)(u:Rx):List Rx:=(l.flatMap λc=>if c.k=k then c.l else[c]).filter λt=>!(be t u==0)
def uU(k:Int)(u:Rx):List Rx->Rx
 |[]=>u
 |[a]=>a
 |l=>.mk k 0 0 l
def hf(k:Int)(l:List Rx)(u z:Rx):Rx:=if(hD k l u).any (λt=>be t z==0)then z else uU k u (if k=3 then hD k l u else r5 (lg (hD k l u)))
def vp(k:Int)(l:List Rx):Nat:=(l.flatMap λc=>if c.k=k then c.l else[c]).length
def oi:Rx:=.mk 1 0 0 []
def e2:Rx:=.mk 6 0 0 [fZ]
def mj(lo hi:UInt8)(l:List Rx):Rx:=match l with
 |[]=>fZ
 |c::d=>if c.k=0\/c.k=1 then oi else if c.k=7\/be c e2=0 then c else .mk 7 lo hi (c::d)
def qU(lo hi:UInt8)(l:List Rx):Rx:=match l with
 |[]=>fZ
 |c::h=>if c.k=6 then(match c.l with |[]=>fZ|d::_=>d)else .mk 6 lo hi (c::h)
def ib:Rx->Rx
 |.mk d lo h l=>if d=3 then hf 3 l oi fZ else if d=4 then hf 4 l fZ e2 else if d=5 then hf 5 l e2 fZ else if d=6 then qU lo h l else if d=7 then mj lo h l else .mk d lo h l
def kW:Rx->Bool
 |.mk d _ _ l=>av (0<=d)&&av (d<8)&&(match l with
  |[]=>d !=6&&d !=7
  |c::_=>!(d==6&&c.k==6&&c.l.isEmpty))
def mg(t:I):t.rx.k=t.k:=by rw[I.fF];rfl
def yM(t:I):t.rx.l=t.l.map I.rx:=by rw[I.fF,<-I.gb];rfl
def xS(x u:I):(gT x u).map I.rx=hD x.k (I.aw x.l) u.rx:=by
 unfold gT hD;rw[I.gb];generalize x.l=l;induction l with
 |nil=>rfl
 |cons a l d=>
  rw[jf,cH,cH,List.filter_append,List.filter_append,List.map_append,d];congr 1;have e:(fk x a).map I.rx=if a.rx.k=x.k then a.rx.l else[a.rx]:=by
   unfold fk;rw[mg,yM]
   grind
  rw[<-e,List.filter_map];rfl
def Eo:∀(l:List I) (p:I),(iG p l).map I.rx=kS p.rx (l.map I.rx)
 |[],p=>rfl
 |d::l,p=>by
  unfold iG;rw[jf];unfold kS;split
  .exact Eo l d
  .rw [jf,Eo l d]
def Z2(l:List I):(lI l).map I.rx=r5 (l.map I.rx):=by
 cases l with
 |nil=>rfl
 |cons a l=>show a.rx::(iG a l).map I.rx=_;rw[Eo];rfl
def Em{t:I}:∀{l:List I} {p:I},t∈iG p l->t∈l
 |[],p,d=>d
 |h::l,p,d=>by
  unfold iG at d;split at d
  .exact e6 _ (Em d)
  .rcases aq.1 d with rfl|d
   .simp
   .exact e6 _ (Em d)
def Z1{t:I}{l:List I}(h:t∈lI l):t∈l:=by
 cases l with
 |nil=>exact h
 |cons a l=>
  rcases aq.1 h with rfl|h
  .simp
  .exact e6 _ (Em h)
def XY(l:List I)(z:I):l.any (λt=>be t.rx z.rx==0)=(l.map I.rx).any λt=>be t z.rx==0:=by grind
def gO(d:List Nat)(w:J)(x:Rx)(r:bW)(Y:J):Prop:=∃t:I,r=ae t.v/\t.rx=x/\t.P Y/\∀b∈t.fp,w.heap.size<=b\/b∈d
def Zh{N:Nat}(hS:tY N)(hN:N<=1000000)(x u z:I)(D y:Nat)(w:J)(h:x.k≠3->vp x.k (I.aw x.l)<=N)(hx:x.sz<=1000000)(px:x.P w)(pu:u.P w)(pz:z.P w)(hu:w.heap[D]? =some (.cells u.c.toArray aZ (0,0)))(hz:w.heap[y]? =some (.cells z.c.toArray aZ (0,0))):
  ai V AX #[x.v,.pointer (some (ab D)),.pointer (some (ab y))] w λr Y=>gO (x.fp++(u.fp++z.fp)) w (hf x.k (I.aw x.l) u.rx z.rx) r Y/\af w Y:=by
 have H0:LH F0 w w [] [.tree x,.tree u,.tree z,eu D u,eu y z]:=bK _ (by
  intro e F;simp only[aq,aL,aO]at F;rcases F with rfl|rfl|rfl|rfl|rfl
  .exact px
  .exact pu
  .exact pz
  .exact hu
  .exact hz)
 have W:=Sub.gT x u;have an:=ago x u;have am:=I.gh (gT x u);have kt:∀t∈gT x u,t.sz<=1000000:=λt A=>by have:=I.eK A;omega
 have ao:(gT x u).length<=vp x.k (I.aw x.l):=by have S:=congrArg List.length (xS x u);rw[List.length_map]at S;rw[S];exact List.length_filter_le ..
 refine Ht.aC (H0.aH λK w1 H1=>H1.aH λL w2 E=>⟨_,_,_,u.s,E.fJ 3 0,E.fJ 3 1,E.fJ 3 2,E.fJ 3 3,E.iF (Y' x u w2 hx (E.getD 0) (E.getD 1)) ?_⟩);rintro _ w3 ⟨B,rfl,o1,n1⟩ H3 F3;have H:=F3.own (.row aZ 4 B ((gT x u).flatMap I.c)) o1 n1;have aa:∀Y:J,x.P Y->I.Ps Y (gT x u):=λY h=>W.Ps h;refine⟨B,rfl,H.aA (YD B (gT x u) ⟨Gn,#[],#[.pointer (some (ab y))]⟩ (λt=>be t.rx z.rx==0) [.tree x,.tree z,eu y z] w3 co (H.get 2:aG _ _ _ _ _).bf (by
  intro e F;simp only[aq,aL,aO]at F;rcases F with rfl|rfl|rfl
  .exact H.getD 0
  .exact H.getD 2
  .exact H.getD 4) (by kernel_rfl) (λY t A G=>Zc t z y Y (kt t A) ((aa Y (G.getD 1)).mem A) (G.getD 2) (G.getD 3))) ?_⟩
 rintro _ w4 rfl q;have ea:(gT x u).any (λt=>be t.rx z.rx==0)=(hD x.k (I.aw x.l) u.rx).any λt=>be t z.rx==0:=by rw[XY,xS]
 refine⟨_,rfl,bT (λA=>⟨_,_,_,z.s,q.fJ 4 0,q.fJ 4 1,q.fJ 4 2,q.fJ 4 3,q.ah λw8 j=>⟨⟨z,rfl,?_,j.getD 2,λb d=>.inr (by grind)⟩,j.fr⟩⟩) (λae=>?_)⟩
 .have ap:=ea▸A;unfold hf
  grind
 have al:=ea▸ae;have fin:∀(s':Sl) (ks:List I) (Y:J),(∀t∈ks,t∈gT x u)->ks.map I.rx=(if x.k=3 then hD x.k (I.aw x.l) u.rx else r5 (lg (hD x.k (I.aw x.l) u.rx)))->LH F0 w Y [.g K,.g L,.row aZ 4 s' (ks.flatMap I.c)] [.tree x,.tree u,.tree z,eu D u,eu y z]->
   Ht.bt (ab D) K x.k x.lo.toNat x.hi.toNat x.s L 0 0 0 ⟨none,0,0⟩ s' Y λr Y=>gO (x.fp++(u.fp++z.fp)) w (hf x.k (I.aw x.l) u.rx z.rx) r Y/\af w Y:=by
  intro s' ks Y M F C;have T:Sub x ks:=W.sub M;have nr:=I.cI (C.get 2:aG _ _ _ _ _).bf;have ej:hf x.k (I.aw x.l) u.rx z.rx=uU x.k u.rx (ks.map I.rx):=by
   unfold hf
   grind
  refine aP (λh0=>⟨_,_,_,u.s,C.fJ 3 0,C.fJ 3 1,C.fJ 3 2,C.fJ 3 3,C.ah λw8 j=>⟨⟨u,rfl,?_,j.getD 1,λb d=>.inr (by grind)⟩,j.fr⟩⟩) (λh0=>aP (λS=>?_) (λS=>C.ah λw8 j=>⟨⟨.mk x.k 0 0 s' ks,rfl,?_,?_,λb d=>?_⟩,j.fr⟩))
  .have:ks=[]:=List.length_eq_zero_iff.1 co;rw[ej,this];rfl
  .obtain ⟨a,rfl⟩:=List.length_eq_one_iff.1 (show ks.length=1 by omega);refine C.el 2 0 rfl (t:=a) rfl (C.ah λw8 j=>⟨⟨a,rfl,?_,T.P _ (j.getD 0) a ws,λb d=>.inr (by simp[T.fp a ws b d])⟩,j.fr⟩);rw[ej];rfl
  .rw [ej];unfold I.rx;rw[I.gb];cases ks with
   |nil=>grind
   |cons a ks=>
    cases ks with
    |nil=>grind
    |cons b ks=>rfl
  .unfold I.P;exact⟨(j.get 2:aG _ _ _ _ _).bf,T.Ps (j.getD 0)⟩
  .unfold I.fp at d;rcases aX.1 d with d|d
   .exact .inl ((j.new _ (aD (i:=2) rfl) b (gY d)).resolve_right id)
   .exact .inr (by simp[T.bj d])
 have eo:∀Y:J,LH F0 w Y [.g K,.g L,.row aZ 4 B ((gT x u).flatMap I.c)] [.tree x,.tree u,.tree z,eu D u,eu y z]->∀O∈az B,O∉I.bj (gT x u):=λY G O hy hm=>G.off 2 0 rfl rfl O hy (aT.2 (W.bj hm));refine dA (λM=>?_) (λM=>fin B (gT x u) w4 (λ_ h=>h) (by rw[au M,xS]) q);refine q.D9 2 rfl (hS B (gT x u) w4 co co (q.get 2) (aa w4 (q.getD 0)) (eo w4 q)) ?_;rintro _ w5 ⟨m,rfl,U,aj,o5⟩ hH;have Q:LH F0 w w5 [.g K,.g L,.row aZ 4 B (m.flatMap I.c)] [.tree x,.tree u,.tree z,eu D u,eu y z]:=hH (.row aZ 4 B (m.flatMap I.c)) o5 λb d=>.inl d;have ac:Sub x m:=W.sub λt A=>U.mem_iff.1 A;refine⟨rfl,Q.D9 2 rfl (YB B m w5 (by rw[If U];omega) (Q.get 2) (ac.Ps (Q.getD 0)) (λO hy hm=>Q.off 2 0 rfl rfl O hy (aT.2 (ac.bj hm)))) ?_⟩;rintro _ w6 ⟨Z,rfl,o6,n6⟩ ad;have H7:LH F0 w w6 [.g K,.g L,.row aZ 4 Z ((lI m).flatMap I.c)] [.tree x,.tree u,.tree z,eu D u,eu y z]:=ad (.row aZ 4 Z ((lI m).flatMap I.c)) o6 λb d=>.inl (n6 b d);have ak:m.map I.rx=lg ((gT x u).map I.rx):=afH aj (U.map _);exact⟨Z,rfl,fin Z (lI m) w6 (λt A=>U.mem_iff.1 (Z1 A)) (by rw[ag M,Z2,ak,xS]) H7⟩
def jc{w:J}{x t:I}(q:x.P w){k:Nat}{X:Int}{K:Int->Int->Int->Sl->Prop}(y:X=(k:Int))(j:x.l[k]? =some t)(h:K t.k t.lo.toNat t.hi.toNat t.s):
  fx x.s X λp=>∃a b c:Int,∃d:Sl,w.cell? ((p.add (a0 X *4)).add 0)=some (.i a)/\w.cell? ((p.add (a0 X *4)).add 1)=some (.int .u8 b)/\w.cell? ((p.add (a0 X *4)).add 2)=some (.int .u8 c)/\w.cell? ((p.add (a0 X *4)).add 3)=some d.v/\K a b c d:=by subst y;have A:=I.cI q.parts.1;have z:=(cX.1 j).1;exact⟨co,co,I.dE q.parts.1 j λp B c=>⟨_,_,_,_,c.c0,c.c1,c.c2,c.c3,h⟩⟩
def Zn(x:I)(w:J)(N:x.P w)(D:x.k=6)(d:kW x.rx=true):ai V ve #[x.v] w λr O=>gO x.fp w (qU x.lo x.hi (I.aw x.l)) r O/\af w O:=by
 have nr:=I.cI N.parts.1;rw[I.fF]at d;cases E:x.l with
 |nil=>rw[E,D]at d;simp[kW,I.aw]at d
 |cons c M=>
  have B:x.l[0]? =some c:=by grind
  have F:c∈x.l:=aD B;have j:I.aw (c::M)=c.rx::I.aw M:=rfl;refine T0.aC ((hj N).aH λY w1 Q=>Q.aH λZ U y=>?_);have G:x.P U:=y.getD 0;have n2:0<x.s.n:=by grind
  refine⟨co,co,I.dE G.parts.1 B λp T z=>⟨c.k,z.c0,aP (λq=>?_) (λq=>y.ah λaa H=>⟨⟨x,rfl,?_,H.getD 0,λb A=>.inr A⟩,H.fr⟩)⟩⟩
  .refine ⟨co,co,I.dE G.parts.1 B λp T z=>⟨c.s,z.c3,?_⟩⟩;cases L:c.l with
   |nil=>
    rw[E,j]at d;have S:c.rx.l.isEmpty=true:=by rw[yM,L];rfl
    simp[kW,D,mg,q,S]at d
   |cons h l2=>
    have C:c.l[0]? =some h:=by grind
    refine jc (G.parts.2.mem F) rfl C (y.ah λW K=>⟨⟨h,rfl,?_,((show x.P W from K.getD 0).parts.2.mem F).parts.2.mem (aD C),λb A=>.inr (I.gU.2 (.inr (I.b'.2 ⟨c,F,I.gU.2 (.inr (I.b'.2 ⟨h,aD C,A⟩))⟩)))⟩,K.fr⟩);rw[j];show h.rx=if c.rx.k=6 then _ else _;rw[au (by rw[mg,q]),yM,L];rfl
  .rw [j];show x.rx=if c.rx.k=6 then _ else _;rw[ag (by rw[mg];exact q),I.fF,D,E,j]
def Zz(x m v:I)(y A:Nat)(w:J)(hx:x.sz<=1000000)(px:x.P w)(pm:m.P w)(pv:v.P w)(hm:w.heap[y]? =some (.cells m.c.toArray aZ (0,0)))(hv:w.heap[A]? =some (.cells v.c.toArray aZ (0,0)))(em:m.rx=oi)(ev:v.rx=e2)(Y:x.k=7)(K:kW x.rx=true):
  ai V vf #[x.v,.pointer (some (ab y)),.pointer (some (ab A))] w λr h=>gO (x.fp++(m.fp++v.fp)) w (mj x.lo x.hi (I.aw x.l)) r h/\af w h:=by
 have nr:=I.cI px.parts.1;rw[I.fF]at K;cases Z:x.l with
 |nil=>rw[Z,Y]at K;simp[kW,I.aw]at K
 |cons c F=>
  have W:x.l[0]? =some c:=by grind
  have G:c∈x.l:=aD W;have D:I.aw (c::F)=c.rx::I.aw F:=rfl;have H0:LH F0 w w [] [.tree x,.tree m,.tree v,eu y m,eu A v]:=bK _ (by
   intro e U;simp only[aq,aL,aO]at U;rcases U with rfl|rfl|rfl|rfl|rfl
   .exact px
   .exact pm
   .exact pv
   .exact hm
   .exact hv)
  refine BC.aC (H0.aH λO w1 H1=>H1.aH λC w2 L=>?_);have n2:0<x.s.n:=by grind
  have sc:c.sz<=1000000:=by have:=I.eK G;have:=I.iR x;omega
  have fc:∀b∈c.fp,b∈x.fp:=λb E=>I.gU.2 (.inr (I.b'.2 ⟨c,G,E⟩));refine jc (show x.P w2 from L.getD 0) rfl W (L.aH λH w3 B=>?_);have ac:c.k=0\/c.k=1->∀h:J,LH F0 w h [.g O,.g C,.g H] [.tree x,.tree m,.tree v,eu y m,eu A v]->BC.bt (ab y) C 0 0 0 ⟨none,0,0⟩ h λr h=>gO (x.fp++(m.fp++v.fp)) w (mj x.lo x.hi (I.aw (c::F))) r h/\af w h:=λz h q=>
   ⟨_,_,_,m.s,q.fJ 3 0,q.fJ 3 1,q.fJ 3 2,q.fJ 3 3,q.ah λj d=>⟨⟨m,rfl,by
    rw[em,D];show _=if c.rx.k=0\/c.rx.k=1 then _ else _;rw[mg,au z],d.getD 1,λb E=>.inr (by grind)⟩,d.fr⟩⟩
  have aa:¬(c.k=0\/c.k=1)->(c.k=7\/be c.rx e2=0)->∀h:J,LH F0 w h [.g O,.g C,.g H] [.tree x,.tree m,.tree v,eu y m,eu A v]->BC.b3 C 0 0 0 ⟨none,0,0⟩ H c.k c.lo.toNat c.hi.toNat c.s h λr h=>gO (x.fp++(m.fp++v.fp)) w (mj x.lo x.hi (I.aw (c::F))) r h/\af w h:=λhn z h q=>
   q.ah λj d=>⟨⟨c,rfl,by
    rw[D];show _=if c.rx.k=0\/c.rx.k=1 then _ else if c.rx.k=7\/be c.rx e2=0 then _ else _;rw[mg,ag hn,au z],(show x.P j from d.getD 0).parts.2.mem G,λb E=>.inr (by grind)⟩,d.fr⟩
  refine aP (λQ=>B.ah λj d=>ac (.inl Q) j d) (λQ=>aP (λS=>B.ah λj d=>ac (.inr S) j d) (λS=>aP (λT=>B.ah λj d=>aa co (.inl T) j d) (λT=>B.ah λj d=>⟨_,_,_,v.s,d.fJ 4 0,d.fJ 4 1,d.fJ 4 2,d.fJ 4 3,?_⟩)));refine d.aA (w7 c v j sc ((show x.P j from d.getD 0).parts.2.mem G) (d.getD 2)) ?_;rintro _ w5 rfl M;rw[ev];refine⟨_,rfl,aP (λz=>aa co (.inr z) w5 M) (λz=>M.ah λw6 N=>⟨⟨x,rfl,?_,N.getD 0,λb E=>.inr (by grind)⟩,N.fr⟩)⟩;rw[D];show x.rx=if c.rx.k=0\/c.rx.k=1 then _ else if c.rx.k=7\/be c.rx e2=0 then _ else _;rw[mg,ag co,ag co,I.fF,Y,Z,D]
structure Fm where
 m:Nat
 es:Array MapEntry
 clock:Nat
 ms:List (Int×aa)
 cs:List (Nat×I)
 s:Sl
def cC:I:=.mk 0 0 0 ⟨none,0,0⟩ []
def fS:I:=.mk 1 0 0 ⟨none,0,0⟩ []
def Fm.ev(F:Fm):I:=.mk 6 0 0 F.s [cC]
def _root_.Go.W.En.fm(F:Fm):En:=.all (.ob F.m (.map F.es F.clock)::.tree F.ev::F.cs.map λp=>eu p.1 p.2)
def u7(a b:Nat):aa:=.func (.func AX) #[] #[.pointer (some (ab a)),.pointer (some (ab b))]
def jg:aa:=.func (.func yf) #[] #[]
def tQ(cs:List (Nat×I))(h:I)(k:Int)(v:aa):Prop:=
 ((k=0\/k=1\/k=2)/\v=jg)\/(∃u d a b,((k=3/\u=fS/\d=cC)\/(k=4/\u=cC/\d=h)\/(k=5/\u=h/\d=cC))/\v=u7 a b/\(a,u)∈cs/\(b,d)∈cs)\/
 (k=6/\v=.func (.func ve) #[] #[])\/∃a b,k=7/\v=.func (.func vf) #[] #[.pointer (some (ab a)),.pointer (some (ab b))]/\(a,fS)∈cs/\(b,h)∈cs
structure Fm.Ok(F:Fm):Prop where
 ms:tT .i64 F.es F.ms
 all:∀k:Int,0<=k->k<8->∃v,lR F.ms k=some v/\tQ F.cs F.ev k v
section
variable {F:Fm} {w:J}
def aaQ(h:(En.fm F).P w):w.heap[F.m]? =some (.map F.es F.clock):=h (.ob F.m (.map F.es F.clock)) ws
def E2(h:(En.fm F).P w):F.ev.P w:=h (.tree F.ev) ws
def Am(h:(En.fm F).P w){a:Nat}{u:I}(d:(a,u)∈F.cs):w.heap[a]? =some (.cells u.c.toArray aZ (0,0)):=h (eu a u) (e6 _ (e6 _ (bS.2 ⟨(a,u),d,rfl⟩)))
def E3{b:Nat}(h:b∈F.ev.fp):b∈(En.fm F).fp:=aT.2 (cc.2 ⟨.tree F.ev,ws,aT.2 h⟩)
def k5(w:J):cC.P w:=RP w
def z8(w:J):fS.P w:=by unfold fS I.P I.Ps;exact⟨bN.nil 4 w,trivial⟩
def k6{b:Nat}(h:b∈cC.fp):False:=RO h
def z9{b:Nat}(h:b∈fS.fp):False:=by unfold fS I.fp I.bj at h;simp[En.bf]at h
def gO.sub{d j:List Nat}{x:Rx}{r:bW}{Y:J}(h:gO d w x r Y)(B:∀b∈d,b∈j):gO j w x r Y:=by obtain⟨t,k,q,y,z⟩:=h;exact⟨t,k,q,y,λb A=>(z b A).imp id (B b)⟩
def NY:Dc V kE cb nP .i64 .nilFunc:=⟨by kernel_rfl,by kernel_rfl,by kernel_rfl⟩
end
def acP{P:aJ}{T E y:aE}{kd:IntKind}{z:aa}(h:Dc P T E y kd z){w:J}{j:Nat}{es:Array MapEntry}{clock:Nat}{ms:List (Int×aa)}(C:w.heap[j]? =some (.map es clock))(D:tT kd es ms)(k:Int):(Instr.lookup T (.map (some j)) (.int kd k) false).run P w=.ok ((lR ms k).getD z) w:=by
 have A:=EY (k:=k) (i:=0) D;have B:(getObj j).run P w=.ok (.map es clock) w:=by simp[getObj,Sem.run,C]
 have d:=NW (ms:=ms) (k:=k) (i:=0);unfold Instr.lookup Instr.findKey;simp only[Sem.run_bind,run_underlying h.hT,Result.andThen_ok,B,Sem.run_pure,Kf h.hk,run_underlying h.hk,A];cases q:((ms.findIdx? λp=>p.1==k).bind λx=>(ms[x]?).map λp=>(0+x,p.2))with
 |none=>rw[q]at d;simp[<-d,W9 h.hz]
 |some F=>rw[q]at d;simp[<-d]
def Y5{N:Nat}(Z:tY N)(W:N<=1000000){F:Fm}(O:F.Ok){w:J}(h:(En.fm F).P w)(k:Int)(S:0<=k)(T:k<8):
  ∃f:Fv,(Instr.lookup kE (.map (some F.m)) (.i k) false).run V w=.ok f.v w/\hS V f.n=true/\∀(x:I) (Y:J),(En.fm F).P Y->x.P Y->x.k=k->(x.k=4\/x.k=5->vp x.k (I.aw x.l)<=N)->x.sz<=1000000->kW x.rx=true->
   ai V f.n (f.U++#[x.v]++f.cs) Y λr Q=>gO (x.fp++(En.fm F).fp) Y (ib x.rx) r Q/\af Y Q:=by
 have mo:=NY;obtain⟨v,hv,hg⟩:=O.all k S T;have A:=acP mo (aaQ h) O.ms k;rw[hv,Option.getD_some]at A;have H:∀x:I,ib x.rx=if x.k=3 then hf 3 (I.aw x.l) oi fZ else if x.k=4 then hf 4 (I.aw x.l) fZ e2 else if x.k=5 then hf 5 (I.aw x.l) e2 fZ else if x.k=6 then qU x.lo x.hi (I.aw x.l)else if x.k=7 then mj x.lo x.hi (I.aw x.l)else x.rx:=λx=>by rw[I.fF];rfl
 rcases hg with⟨z,rfl⟩|⟨u,M,a,b,z,rfl,K,E⟩|⟨rfl,rfl⟩|⟨a,b,rfl,rfl,K,E⟩
 .refine ⟨⟨yf,#[],#[]⟩,A,by kernel_rfl,λx Y q y j G C D=>((Zb x Y y).mono ?_)⟩;rintro _ L ⟨rfl,f⟩;refine⟨⟨x,rfl,?_,y.bz f,λb E=>.inr (by grind)⟩,f⟩
  grind
 .refine ⟨⟨AX,#[],#[.pointer (some (ab a)),.pointer (some (ab b))]⟩,A,by kernel_rfl,λx Y q y j G C D=>?_⟩;have pu:u.P Y:=by
   rcases z with⟨_,rfl,_⟩|⟨_,rfl,_⟩|⟨_,rfl,_⟩
   .exact z8 Y
   .exact k5 Y
   .exact E2 q
  have pz:M.P Y:=by
   rcases z with⟨_,_,rfl⟩|⟨_,_,rfl⟩|⟨_,_,rfl⟩
   .exact k5 Y
   .exact E2 q
   .exact k5 Y
  refine(Zh Z W x u M a b Y (λh3=>G co) C y pu pz (Am q K) (Am q E)).mono ?_;rintro r L ⟨B,f⟩;refine⟨?_,f⟩;have e:ib x.rx=hf x.k (I.aw x.l) u.rx M.rx:=by
   rw[H];rcases z with⟨rfl,rfl,rfl⟩|⟨rfl,rfl,rfl⟩|⟨rfl,rfl,rfl⟩
   .rw [au j,j];rfl
   .rw [ag co,au j,j];rfl
   .rw [ag co,ag co,au j,j];rfl
  rw[e];refine B.sub λc d=>?_;rcases aX.1 d with d|d
  .grind
  .rcases aX.1 d with d|d
   .rcases z with⟨_,rfl,_⟩|⟨_,rfl,_⟩|⟨_,rfl,_⟩
    .exact (z9 d).elim
    .exact (k6 d).elim
    .exact eD _ (E3 d)
   .rcases z with⟨_,_,rfl⟩|⟨_,_,rfl⟩|⟨_,_,rfl⟩
    .exact (k6 d).elim
    .exact eD _ (E3 d)
    .exact (k6 d).elim
 .refine ⟨⟨ve,#[],#[]⟩,A,by kernel_rfl,λx Y q y j G C D=>((Zn x Y y j D).mono ?_)⟩;rintro r L ⟨B,f⟩;refine⟨?_,f⟩;rw[H,ag co,ag co,ag co,au j];exact B.sub λc d=>by grind
 .refine ⟨⟨vf,#[],#[.pointer (some (ab a)),.pointer (some (ab b))]⟩,A,by kernel_rfl,λx Y q y j G C D=>((Zz x fS F.ev a b Y C y (z8 Y) (E2 q) (Am q K) (Am q E) rfl rfl j D).mono ?_)⟩;rintro r L ⟨B,f⟩;refine⟨?_,f⟩;rw[H,ag co,ag co,ag co,ag co,au j];refine B.sub λc d=>?_;rcases aX.1 d with d|d
  .grind
  .rcases aX.1 d with d|d
   .exact (z9 d).elim
   .exact eD _ (E3 d)
namespace TW
noncomputable def C0:Code:=(Tryz.f215.body).getD .skip
noncomputable def C1:=C0.sn
noncomputable def C2:=C1.sn
noncomputable def C3:=C2.sn
noncomputable def C4:=C3.sn
noncomputable def C5:=C4.sn
noncomputable def C6:=C5.sn
def ok(w:J)(R:aK)(h:dG w (.cells #[.i 0,.int .u8 0,.int .u8 0,.slice none 0 0] aZ) λj=>
 dG j (.cells #[.i 0,.int .u8 0,.int .u8 0,.slice none 0 0] aZ) λF=>
 mi F (nb w) (.i 0) (.int .u8 0) (.int .u8 0) (.slice none 0 0) λG=>aS G (nb j) (.i 1) λH=>
 aS H ((nb j).add 1) (.int .u8 0) λI=>
 aS I ((nb j).add 2) (.int .u8 0) λK=>
 aS K ((nb j).add 3) (.slice none 0 0) λk=>
 gC k (nb w) λx y z A=>dG k (.cells #[.i x,.int .u8 y,.int .u8 z,A.v] aZ) λq=>
 dG q (.cells #[.i 0,.int .u8 0,.int .u8 0,.slice none 0 0] aZ) λC=>
 mi C (nb q) (.i 6) (.int .u8 0) (.int .u8 0) (.slice (some (nb k)) 1 1) λD=>yP V C5 (λE w=>me V Tryz.f215 E w (λv=>R (ae v) w)) [(5,.func (.func AW) #[] #[]),(4,.func (.func yf) #[] #[]),(3,.pointer (some (nb q))),(10,.agg #[.i 6,.int .u8 0,.int .u8 0,.slice (some (nb k)) 1 1]),(9,.slice (some (nb k)) 1 1),(8,.agg #[.i x,.int .u8 y,.int .u8 z,A.v]),(2,.pointer (some (nb j))),(1,.pointer (some (nb w))),(7,.agg #[.i 1,.int .u8 0,.int .u8 0,.slice none 0 0]),(6,.agg #[.i 0,.int .u8 0,.int .u8 0,.slice none 0 0]),(0,.map none)] D):ai V Qc #[] w R:=
 xc (R:=R) (fn:=Tryz.f215) (c:=C0) (args:=[]) (by kernel_rfl) (by kernel_rfl) (by kernel_rfl) (sr C0 (show(λ(E:Env) (w:J)=>ed V C0 (λE w=>ed V C1 (λE w=>ed V C2 (λE w=>ed V C3 (λE w=>ed V C4 (λE w=>yP V C5 (λE w=>me V Tryz.f215 E w (λv=>R (ae v) w)) E w) E w) E w) E w) E w) E w) (kV 0 []) w from mp h) λ_ _ d=>(sr C1 d λ_ _ d=>(sr C2 d λ_ _ d=>(sr C3 d λ_ _ d=>(sr C4 d λ_ _ d=>(si C5 (by kernel_rfl) d λ_ _ d=>(rt C6 λa B=>yF B d)))))))
end TW
def Xu{M:Nat->Prop}{w0 w:J}{L L' D:List En}(H:LH M w0 w L D)(h:L.Perm L'):LH M w0 w L' D:=
 ⟨H.fr,λe d=>H.own e (h.mem_iff.2 d),H.rd,λe d=>H.new e (h.mem_iff.2 d),(h.flatMap_right (·.fp)).nodup_iff.1 H.nd,λe d b k j q=>H.dj e d b k j (h.mem_iff.2 q)⟩
def e7{L:Nat->Bool}{i j:Nat}(h:j≠i):dL L i j=L j:=by
 have:Nat.beq j i=false:=by rw[<-jI,eS];exact h
 grind
def BM{L:Nat->Bool}{i:Nat}:dL L i i=true:=by simp[dL]
def aeX{P:aJ}{fn:Func}{E:Env}{w:J}{K:aa->Prop}{t:Nat}{v:aa}(d:fn.results.toList=[.tmp t])(j:E.get? t=some v)(h:K v):me P fn E w K:=by unfold me;rw[d];unfold s7;rw[j];exact h
def Al:List (Op×Option Nat×aE×List Nat):=[
 (.makeMap kE none,some 11,kE,[]),
 (.move (.tmp 4),some 12,nP,[]),
 (.insert kE (.tmp 11) (.const (.int .i64 0)) (.tmp 12),none,ll,[0,1]),
 (.move (.tmp 4),some 13,nP,[]),
 (.insert kE (.tmp 11) (.const (.int .i64 1)) (.tmp 13),none,ll,[0,3]),
 (.move (.tmp 4),some 14,nP,[]),
 (.insert kE (.tmp 11) (.const (.int .i64 2)) (.tmp 14),none,ll,[0,5]),
 (.move (.tmp 5),some 15,Iu,[]),
 (.load aZ (.tmp 2),some 16,aZ,[]),
 (.load aZ (.tmp 1),some 17,aZ,[]),
 (.call ⟨.value (.tmp 15),#[.tmp 16,.tmp 17],#[aZ,aZ]⟩,some 18,nP,[7,8,9]),
 (.insert kE (.tmp 11) (.const (.int .i64 3)) (.tmp 18),none,ll,[0,10]),
 (.move (.tmp 5),some 19,Iu,[]),
 (.load aZ (.tmp 1),some 20,aZ,[]),
 (.load aZ (.tmp 3),some 21,aZ,[]),
 (.call ⟨.value (.tmp 19),#[.tmp 20,.tmp 21],#[aZ,aZ]⟩,some 22,nP,[12,13,14,10]),
 (.insert kE (.tmp 11) (.const (.int .i64 4)) (.tmp 22),none,ll,[0,15]),
 (.move (.tmp 5),some 23,Iu,[]),
 (.load aZ (.tmp 3),some 24,aZ,[]),
 (.load aZ (.tmp 1),some 25,aZ,[]),
 (.call ⟨.value (.tmp 23),#[.tmp 24,.tmp 25],#[aZ,aZ]⟩,some 26,nP,[17,18,19,15]),
 (.insert kE (.tmp 11) (.const (.int .i64 5)) (.tmp 26),none,ll,[0,20]),
 (.insert kE (.tmp 11) (.const (.int .i64 6)) (.func ve),none,ll,[0]),
 (.makeFunc (.func vf) #[] #[.tmp 2,.tmp 3],some 27,nP,[]),
 (.insert kE (.tmp 11) (.const (.int .i64 7)) (.tmp 27),none,ll,[0,23]),
 (.move (.tmp 11),some 28,kE,[0,1,2,3,4,5,6,7,8,9,10,11,12,13,14,15,16,17,18,19,20,21,22,23,24]),
 (.assign (.tmp 28),some 0,kE,[25,20,0,1,2,3,4,5,6,7,8,9,10,11,12,13,14,15,16,17,18,19,20,21,22,23,24,25])]
abbrev ptr(b:Nat):aa:=.pointer (some (ab b))
abbrev lj:aa:=.func (.func AW) #[] #[]
abbrev BY(a b:Nat):aa:=.func (.func vf) #[] #[ptr a,ptr b]
abbrev fI(s:Sl):I:=.mk 6 0 0 s [cC]
def cz(j b2 d:Nat)(h:I):List (Nat×Nat×aa):=[(0,1,ptr j),(0,2,ptr b2),(0,3,ptr d),(0,4,jg),(0,5,lj),(2,12,jg),(4,13,jg),(6,14,jg),(8,15,lj),(9,16,fS.v),(10,17,cC.v),(13,19,lj),(14,20,cC.v),(15,21,h.v),(18,23,lj),(19,24,h.v),(20,25,cC.v),(24,27,BY b2 d)]
def eV:List (Nat×Int):=[(2,0),(4,1),(6,2),(11,3),(16,4),(21,5),(22,6),(24,7)]
def ih(d:I):List (Nat×Nat×I×I):=[(10,18,fS,cC),(15,22,cC,d),(20,26,d,cC)]
def Joined(h:I)(cs:List (Nat×I))(L:Nat->Bool)(E:Env):Prop:=∀d∈ih h,L d.1=true->∃a b,E.get? d.2.1=some (u7 a b)/\(a,d.2.2.1)∈cs/\(b,d.2.2.2)∈cs
def zs(j:I)(cs:List (Nat×I))(L:Nat->Bool)(E:Env)(mp:List En):Prop:=(L 0=false/\mp=[]/\(∀d∈eV,L d.1=false)/\L 25=false/\L 26=false)\/
 (L 0=true/\∃(m:Nat) (es:Array MapEntry) (clock:Nat) (ms:List (Int×aa)),mp=[.ob m (.map es clock)]/\E.get? 11=some (.map (some m))/\tT .i64 es ms/\(∀h v,lR ms h=some v->tQ cs j h v)/\(∀d∈eV,(lR ms d.2).isSome=L d.1)/\
  (L 25=true->E.get? 28=some (.map (some m)))/\(L 26=true->E.get? 0=some (.map (some m))))
abbrev qF(d b2 h:Nat)(s:Sl):List En:=[eu d cC,eu b2 fS,.row aZ 4 s cC.c,eu h (fI s)]
structure FJ(w0:J)(b1 b2 b4:Nat)(s:Sl)(L:Nat->Bool)(E:Env)(w:J):Prop where
 st:o3 (cz b1 b2 b4 (fI s)) L E
 hp:∃(mp X:List En) (cs:List (Nat×I)),LH F0 w0 w (mp++(qF b1 b2 b4 s++X)) []/\(∀p∈cs,eu p.1 p.2∈qF b1 b2 b4 s++X)/\(b2,fS)∈cs/\(b4,fI s)∈cs/\Joined (fI s) cs L E/\zs (fI s) cs L E mp
def tQ.mono{cs y:List (Nat×I)}{z:I}{k:Int}{v:aa}(h:tQ cs z k v)(d:∀p∈cs,p∈y):tQ y z k v:=by
 rcases h with h|⟨u,A,a,b,j,q,w,x⟩|h|⟨a,b,j,q,w,x⟩
 .exact .inl h
 .exact .inr (.inl ⟨u,A,a,b,j,q,d _ w,d _ x⟩)
 .exact .inr (.inr (.inl h))
 .exact .inr (.inr (.inr ⟨a,b,j,q,d _ w,d _ x⟩))
def NX(ms:List (Int×aa))(k d:Int)(v:aa):lR (ms++[(k,v)]) d=(lR ms d).or (if k=d then some v else none):=by
 unfold lR
 grind
section
variable {w0 w:J} {b1 b2 b4:Nat} {s:Sl} {L:Nat->Bool} {E:Env}
def zs.cB{y:I}{cs x:List (Nat×I)}{mp:List En}(h:zs y cs L E mp)(K:∀p∈cs,p∈x)(i d:Nat)(v:aa)(hi:∀M∈[0,25,26,2,4,6,11,16,21,22,24],M≠i)(w:∀t∈[11,28,0],d≠t):zs y x (dL L i) (E.put (some d) v) mp:=by
 have S:∀j∈eV,dL L i j.1=L j.1:=λj k=>e7 (hi _ (by simp only[eV,aq,aL,aO]at k;rcases k with rfl|rfl|rfl|rfl|rfl|rfl|rfl|rfl<;>simp));have T:dL L i 0=L 0:=e7 (hi 0 ws);have O:dL L i 25=L 25:=e7 (hi 25 ws);have P:dL L i 26=L 26:=e7 (hi 26 ws);rcases h with⟨D,q,z,A,B⟩|⟨D,m,C,clock,ms,q,z,A,B,Q,F,G⟩
 .exact .inl ⟨by grind,q,λj k=>by grind,by grind,by grind⟩
 .refine .inr ⟨by grind,m,C,clock,ms,q,?_,A,λN v H=>(B N v H).mono K,λj k=>by grind,λh=>?_,λh=>?_⟩
  .rw [ic (w 11 ws),z]
  .rw [ic (w 28 ws),F (O▸h)]
  .rw [ic (w 0 ws),G (P▸h)]
def FJ.stat(h:FJ w0 b1 b2 b4 s L E w)(i d:Nat)(v:aa)(B:∀j∈cz b1 b2 b4 (fI s),j.1=i+1->j=(i+1,d,v))(C:∀j∈cz b1 b2 b4 (fI s),j.2.1=d->j.1=i+1)(hi:∀y∈[0,25,26,2,4,6,11,16,21,22,24],y≠i)(q:∀y∈[10,15,20],y≠i)(G:∀t∈[11,28,0],d≠t)(k:∀t∈[18,22,26],d≠t):FJ w0 b1 b2 b4 s (dL L i) (E.put (some d) v) w:=by
 obtain⟨mp,X,A,z,F,I,M,H,K⟩:=h.hp;refine⟨h.st.fill B C,mp,X,A,z,F,I,M,λj x D=>?_,K.cB (λ_ h=>h) i d v hi G⟩;have e:dL L i j.1=L j.1/\d≠j.2.1:=by
  simp only[ih,aq,aL,aO]at x;rcases x with rfl|rfl|rfl
  .exact ⟨e7 (q 10 ws),k 18 ws⟩
  .exact ⟨e7 (q 15 ws),k 22 ws⟩
  .exact ⟨e7 (q 20 ws),k 26 ws⟩
 rw[ic e.2];exact H j x (e.1▸D)
def FJ.ins(h:FJ w0 b1 b2 b4 s L E w)(i:Nat)(k:Int)(v:aa)(q:(i,k)∈eV)(h0:L 0=true)(hi:L i=false)(hv:∀x,(b2,fS)∈x->(b4,fI s)∈x->Joined (fI s) x L E->tQ x (fI s) k v):
  ∃m,E.get? 11=some (.map (some m))/\∃z,(Instr.mapUpdate kE (.map (some m)) (.i k) v).run V w=.ok () z/\FJ w0 b1 b2 b4 s (dL L i) (E.put none undef) z:=by
 obtain⟨mp,X,x,B,N,S,O,P,T⟩:=h.hp;rcases T with⟨ab,_⟩|⟨_,m,es,clock,ms,rfl,C,G,h4,D,H,I⟩
 .grind
 have F:lR ms k=none:=by have:=D _ q;rw[hi]at this;simpa using this
 obtain⟨z,A,U,W,Y,Z,r5⟩:=ac1 NY (B.ob (b:=m) 0 rfl) G k v F;refine⟨m,C,z,U,h.st.pass ?_ (λ_ _=>ws),[.ob m (.map A (clock+1))],X,x,B.g4 0 (.ob m (.map A (clock+1))) rfl (Z.mono λac _ e=>by simp[En.ob,e]) W (λb M=>.inl M),N,S,O,λj d K=>?_,.inr ⟨?_,m,A,clock+1,ms++[(k,v)],rfl,C,Y,λk' v' Q=>?_,λj d=>?_,λh=>?_,λh=>?_⟩⟩
 .intro j d;simp only[eV,aq,aL,aO,eZ]at q;simp only[cz,aq,aL,aO]at d
  (repeat' rcases d with rfl|d)<;>(try subst d)<;>simp only<;>omega
 .have e:dL L i j.1=L j.1:=e7 (by
   simp only[eV,aq,aL,aO,eZ]at q;simp only[ih,aq,aL,aO]at d
   grind)
  exact P j d (e▸K)
 .grind
 .rw [NX]at Q
  grind
 .rw [NX];by_cases y:j.1=i
  .have:j.2=k:=by simp only[eV,aq,aL,aO,eZ]at q;simp only[eV,aq,aL,aO]at d;rcases d with rfl|rfl|rfl|rfl|rfl|rfl|rfl|rfl<;>simp only at y ⊢<;>omega
   rw[y,BM,this,F,au rfl];rfl
  .have:k≠j.2:=by simp only[eV,aq,aL,aO,eZ]at q;simp only[eV,aq,aL,aO]at d;rcases d with rfl|rfl|rfl|rfl|rfl|rfl|rfl|rfl<;>simp only at y ⊢<;>omega
   rw[e7 y,ag this,<-D j d];simp
 .exact H (by rwa[e7 (by simp only[eV,aq,aL,aO,eZ]at q;omega)]at h)
 .exact I (by rwa[e7 (by simp only[eV,aq,aL,aO,eZ]at q;omega)]at h)
def FJ.call(h:FJ w0 b1 b2 b4 s L E w)(i d:Nat)(u z:I)(y:(i,d,u,z)∈ih (fI s)):ai V AW #[u.v,z.v] w λe P=>∃v,e=ae v/\FJ w0 b1 b2 b4 s (dL L i) (E.put (some d) v) P:=by
 obtain⟨mp,X,D,A,T,Y,U,H,M⟩:=h.hp;have W:(i=10/\d=18)\/(i=15/\d=22)\/(i=20/\d=26):=by simp only[ih,aq,aL,aO,eZ]at y;omega
 refine TY.ok (A.nw λq aa B=>B.nw λw2 ab C=>⟨u7 w.heap.size q.heap.size,rfl,h.st.pass ?_ ?_,mp,X++[eu w.heap.size u,eu q.heap.size z],(w.heap.size,u)::(q.heap.size,z)::D,?_,?_,by grind,by grind,λk j G=>?_,M.cB (λp Z=>by grind) i d _ ?_ ?_⟩)
 .intro k j;simp only[cz,aq,aL,aO]at j
  (repeat' rcases j with rfl|j)<;>(try subst j)<;>simp only<;>omega
 .intro k j x;have x:d=k.2.1:=fb x;simp only[cz,aq,aL,aO]at j
  (repeat' rcases j with rfl|j)<;>(try subst j)<;>simp only at x<;>omega
 .have e:mp++(qF b1 b2 b4 s++(X++[eu w.heap.size u,eu q.heap.size z]))=mp++(qF b1 b2 b4 s++X)++[eu w.heap.size u]++[eu q.heap.size z]:=ws
  rw[e];exact C
 .grind
 .by_cases O:k.1=i
  .have:k=(i,d,u,z):=by
    simp only[ih,aq,aL,aO,eZ]at y;simp only[ih,aq,aL,aO]at j
    grind
   subst this;exact⟨_,_,px,ws,ws⟩
  .have N:d≠k.2.1:=by
    simp only[ih,aq,aL,aO]at j
    grind
   obtain⟨a,b,F,Q,S⟩:=H k j (by rwa[e7 O]at G);exact⟨a,b,by rw[ic N,F],by grind,by grind⟩
 .intro ac K;simp only[aq,aL,aO]at K;omega
 grind
def FJ.x'(h:FJ w0 b1 b2 b4 s L E w)(K:L 0=false):FJ w0 b1 b2 b4 s (dL L 0) (E.put (some 11) (.map (some w.heap.size))) (w.alloc (.map #[] 0)):=by
 obtain⟨mp,X,x,q,C,H,D,F,I⟩:=h.hp;rcases I with⟨_,rfl,y,z,A⟩|⟨M,_⟩
 .refine ⟨h.st.pass ?_ ?_,[.ob w.heap.size (.map #[] 0)],X,x,Xu (q.alloc (.map #[] 0)) ?_,C,H,D,λj d B=>?_,.inr ⟨BM,w.heap.size,#[],0,[],rfl,px,rfl,λN v G=>by simp[lR]at G,λj d=>?_,λh=>?_,λh=>?_⟩⟩
  .intro j d;simp only[cz,aq,aL,aO]at d
   (repeat' rcases d with rfl|d)<;>(try subst d)<;>simp
  .intro j d k;have k:11=j.2.1:=fb k;simp only[cz,aq,aL,aO]at d
   (repeat' rcases d with rfl|d)<;>(try subst d)<;>simp at k
  .exact List.perm_append_comm
  .have e:dL L 0 j.1=L j.1/\11≠j.2.1:=by simp only[ih,aq,aL,aO]at d;rcases d with rfl|rfl|rfl<;>exact⟨e7 ws,ws⟩
   rw[ic e.2];exact F j d (e.1▸B)
  .rw [e7 (by
    simp only[eV,aq,aL,aO]at d
    grind),y j d]
   simp[lR]
  .rw [e7 md,z]at h;cases h
  .rw [e7 md,A]at h;cases h
 grind
def FJ.m25(h:FJ w0 b1 b2 b4 s L E w)(N:L 0=true):∃m,E.get? 11=some (.map (some m))/\FJ w0 b1 b2 b4 s (dL L 25) (E.put (some 28) (.map (some m))) w:=by
 obtain⟨mp,X,z,y,G,K,H,I,M⟩:=h.hp;rcases M with⟨O,_⟩|⟨_,m,q,clock,ms,rfl,x,A,B,C,P,D⟩
 .grind
 refine⟨m,x,h.st.pass ?_ ?_,[.ob m (.map q clock)],X,z,y,G,K,H,λj d F=>?_,.inr ⟨by grind,m,q,clock,ms,rfl,by rw[ic md,x],A,B,λj d=>?_,λ_=>px,λh=>?_⟩⟩
 .intro j d;simp only[cz,aq,aL,aO]at d
  (repeat' rcases d with rfl|d)<;>(try subst d)<;>simp
 .intro j d k;have k:28=j.2.1:=fb k;simp only[cz,aq,aL,aO]at d
  (repeat' rcases d with rfl|d)<;>(try subst d)<;>simp at k
 .have e:dL L 25 j.1=L j.1/\28≠j.2.1:=by simp only[ih,aq,aL,aO]at d;rcases d with rfl|rfl|rfl<;>exact⟨e7 ws,ws⟩
  rw[ic e.2];exact I j d (e.1▸F)
 .rw [e7 (by
   simp only[eV,aq,aL,aO]at d
   grind),C j d]
 .rw [ic md];exact D (by rwa[e7 md]at h)
def FJ.m26(h:FJ w0 b1 b2 b4 s L E w)(O:L 0=true)(A:L 25=true):∃m,E.get? 28=some (.map (some m))/\FJ w0 b1 b2 b4 s (dL L 26) (E.put (some 0) (.map (some m))) w:=by
 obtain⟨mp,X,y,x,H,M,I,K,N⟩:=h.hp;rcases N with⟨P,_⟩|⟨_,m,q,clock,ms,rfl,z,B,C,D,F,Q⟩
 .grind
 refine⟨m,F A,h.st.pass ?_ ?_,[.ob m (.map q clock)],X,y,x,H,M,I,λj d G=>?_,.inr ⟨by grind,m,q,clock,ms,rfl,by rw[ic md,z],B,C,λj d=>?_,λh=>?_,λ_=>px⟩⟩
 .intro j d;simp only[cz,aq,aL,aO]at d
  (repeat' rcases d with rfl|d)<;>(try subst d)<;>simp
 .intro j d k;have k:0=j.2.1:=fb k;simp only[cz,aq,aL,aO]at d
  (repeat' rcases d with rfl|d)<;>(try subst d)<;>simp at k
 .have e:dL L 26 j.1=L j.1/\0≠j.2.1:=by simp only[ih,aq,aL,aO]at d;rcases d with rfl|rfl|rfl<;>exact⟨e7 ws,ws⟩
  rw[ic e.2];exact K j d (e.1▸G)
 .rw [e7 (by
   simp only[eV,aq,aL,aO]at d
   grind),D j d]
 .rw [ic md]
  grind
def FJ.ld(h:FJ w0 b1 b2 b4 s L E w){u:I}{b:Nat}(A:eu b u∈qF b1 b2 b4 s){K:aa->Prop}(H:K u.v):nC V aZ (ab b) w λv _=>K v:=by
 obtain⟨mp,X,G,z,_⟩:=h.hp;have d:w.heap[b]? =some (.cells u.c.toArray aZ (0,0)):=z.own (eu b u) (eD _ (bV _ A));have B:=cellAt (p:=ab b) (i:=0) (v:=.int .i64 u.k) d rfl rfl;have C:=cellAt (p:=ab b) (i:=1) (v:=.int .u8 (u.lo.toNat:Int)) d rfl rfl;have D:=cellAt (p:=ab b) (i:=2) (v:=.int .u8 (u.hi.toNat:Int)) d rfl rfl;have F:=cellAt (p:=ab b) (i:=3) (v:=u.s.v) d rfl rfl;have e:(nC V aZ (ab b) w λv _=>K v)=(∃j:Int,∃q:Int,∃x:Int,∃y:Sl,w.cell? ((ab b).add 0)=some (.int .i64 j)/\w.cell? ((ab b).add 1)=some (.int .u8 q)/\w.cell? ((ab b).add 2)=some (.int .u8 x)/\w.cell? ((ab b).add 3)=some y.v/\K (.agg #[.int .i64 j,.int .u8 q,.int .u8 x,y.v])):=by kernel_rfl
 grind
end
def aaR(w:J)(G b2 D:Nat)(s:Sl):allI (wQ V (FJ w G b2 D s)) Al 0:=
 ⟨λz y A o k q B x j h=>afU k (by rw[q];exact h.x' x),
  λz y A o k q B x j h=>nL (.inl k) (h.st.get (i:=0) (d:=4) (v:=jg) (by simp[cz]) rfl) (by rw[q];exact h.stat 1 12 (jg) (by simp[cz]) (by simp[cz]) ws ws ws ws),
  λz y A o k q B x j h=>by obtain⟨m,E,C,F,H⟩:=h.ins 2 0 (jg) (by simp[eV]) (j 0 ws) x (λI M O L=>.inl ⟨.inl rfl,rfl⟩);exact rf k E rfl (h.st.get (i:=2) (d:=12) (v:=jg) (by simp[cz]) (j 1 ws)) ⟨C,F,by grind⟩,
  λz y A o k q B x j h=>nL (.inl k) (h.st.get (i:=0) (d:=4) (v:=jg) (by simp[cz]) rfl) (by rw[q];exact h.stat 3 13 (jg) (by simp[cz]) (by simp[cz]) ws ws ws ws),
  λz y A o k q B x j h=>by obtain⟨m,E,C,F,H⟩:=h.ins 4 1 (jg) (by simp[eV]) (j 0 ws) x (λI M O L=>.inl ⟨.inr (.inl rfl),rfl⟩);exact rf k E rfl (h.st.get (i:=4) (d:=13) (v:=jg) (by simp[cz]) (j 3 ws)) ⟨C,F,by grind⟩,
  λz y A o k q B x j h=>nL (.inl k) (h.st.get (i:=0) (d:=4) (v:=jg) (by simp[cz]) rfl) (by rw[q];exact h.stat 5 14 (jg) (by simp[cz]) (by simp[cz]) ws ws ws ws),
  λz y A o k q B x j h=>by obtain⟨m,E,C,F,H⟩:=h.ins 6 2 (jg) (by simp[eV]) (j 0 ws) x (λI M O L=>.inl ⟨.inr (.inr rfl),rfl⟩);exact rf k E rfl (h.st.get (i:=6) (d:=14) (v:=jg) (by simp[cz]) (j 5 ws)) ⟨C,F,by grind⟩,
  λz y A o k q B x j h=>nL (.inl k) (h.st.get (i:=0) (d:=5) (v:=lj) (by simp[cz]) rfl) (by rw[q];exact h.stat 7 15 (lj) (by simp[cz]) (by simp[cz]) ws ws ws ws),
  λz y A o k q B x j h=>rh k (h.st.get (i:=0) (d:=2) (v:=ptr b2) (by simp[cz]) rfl) (h.ld (u:=fS) (b:=b2) (aD (i:=1) rfl) (K:=λv=>FJ w G b2 D s (dL z 8) (y.put o.dst v) A) (by rw[q];exact h.stat 8 16 ((fS).v) (by simp[cz]) (by simp[cz]) ws ws ws ws)),
  λz y A o k q B x j h=>rh k (h.st.get (i:=0) (d:=1) (v:=ptr G) (by simp[cz]) rfl) (h.ld (u:=cC) (b:=G) (aD (i:=0) rfl) (K:=λv=>FJ w G b2 D s (dL z 9) (y.put o.dst v) A) (by rw[q];exact h.stat 9 17 ((cC).v) (by simp[cz]) (by simp[cz]) ws ws ws ws)),
  λz y A o k q B x j h=>by refine H6 k (h.st.get (i:=8) (d:=15) (v:=lj) (by simp[cz]) (j 7 ws)) (h.st.get (i:=9) (d:=16) (v:=(fS).v) (by simp[cz]) (j 8 ws)) (h.st.get (i:=10) (d:=17) (v:=(cC).v) (by simp[cz]) (j 9 ws)) (by kernel_rfl) ((h.call 10 18 (fS) (cC) (by simp[ih])).mono ?_);rintro e C ⟨v,W,H⟩;rw[B,show zeroOf V nP=.nilFunc from by kernel_rfl];exact⟨v,W,by grind⟩,
  λz y A o k q B x j h=>by
   obtain⟨mp,X,I,aa,hc,hm,ab,Y,ac⟩:=h.hp;obtain⟨a,b,N,_,_⟩:=Y (10,18,fS,cC) (by simp[ih]) (j 10 ws);obtain⟨m,E,C,F,H⟩:=h.ins 11 3 (u7 a b) (by simp[eV]) (j 0 ws) x (λI M O L=>by obtain⟨P,Q,S,T,U⟩:=L (10,18,fS,cC) (by simp[ih]) (j 10 ws);exact .inr (.inl ⟨fS,cC,P,Q,.inl ⟨rfl,rfl,rfl⟩,fb (N.symm.trans S),T,U⟩))
   exact rf k E rfl N ⟨C,F,by grind⟩,
  λz y A o k q B x j h=>nL (.inl k) (h.st.get (i:=0) (d:=5) (v:=lj) (by simp[cz]) rfl) (by rw[q];exact h.stat 12 19 (lj) (by simp[cz]) (by simp[cz]) ws ws ws ws),
  λz y A o k q B x j h=>rh k (h.st.get (i:=0) (d:=1) (v:=ptr G) (by simp[cz]) rfl) (h.ld (u:=cC) (b:=G) (aD (i:=0) rfl) (K:=λv=>FJ w G b2 D s (dL z 13) (y.put o.dst v) A) (by rw[q];exact h.stat 13 20 ((cC).v) (by simp[cz]) (by simp[cz]) ws ws ws ws)),
  λz y A o k q B x j h=>rh k (h.st.get (i:=0) (d:=3) (v:=ptr D) (by simp[cz]) rfl) (h.ld (u:=fI s) (b:=D) (aD (i:=3) rfl) (K:=λv=>FJ w G b2 D s (dL z 14) (y.put o.dst v) A) (by rw[q];exact h.stat 14 21 ((fI s).v) (by simp[cz]) (by simp[cz]) ws ws ws ws)),
  λz y A o k q B x j h=>by refine H6 k (h.st.get (i:=13) (d:=19) (v:=lj) (by simp[cz]) (j 12 ws)) (h.st.get (i:=14) (d:=20) (v:=(cC).v) (by simp[cz]) (j 13 ws)) (h.st.get (i:=15) (d:=21) (v:=(fI s).v) (by simp[cz]) (j 14 ws)) (by kernel_rfl) ((h.call 15 22 (cC) (fI s) (by simp[ih])).mono ?_);rintro e C ⟨v,W,H⟩;rw[B,show zeroOf V nP=.nilFunc from by kernel_rfl];exact⟨v,W,by grind⟩,
  λz y A o k q B x j h=>by
   obtain⟨mp,X,I,aa,hc,hm,ab,Y,ac⟩:=h.hp;obtain⟨a,b,N,_,_⟩:=Y (15,22,cC,fI s) (by simp[ih]) (j 15 ws);obtain⟨m,E,C,F,H⟩:=h.ins 16 4 (u7 a b) (by simp[eV]) (j 0 ws) x (λI M O L=>by obtain⟨P,Q,S,T,U⟩:=L (15,22,cC,fI s) (by simp[ih]) (j 15 ws);exact .inr (.inl ⟨cC,fI s,P,Q,.inr (.inl ⟨rfl,rfl,rfl⟩),fb (N.symm.trans S),T,U⟩))
   exact rf k E rfl N ⟨C,F,by grind⟩,
  λz y A o k q B x j h=>nL (.inl k) (h.st.get (i:=0) (d:=5) (v:=lj) (by simp[cz]) rfl) (by rw[q];exact h.stat 17 23 (lj) (by simp[cz]) (by simp[cz]) ws ws ws ws),
  λz y A o k q B x j h=>rh k (h.st.get (i:=0) (d:=3) (v:=ptr D) (by simp[cz]) rfl) (h.ld (u:=fI s) (b:=D) (aD (i:=3) rfl) (K:=λv=>FJ w G b2 D s (dL z 18) (y.put o.dst v) A) (by rw[q];exact h.stat 18 24 ((fI s).v) (by simp[cz]) (by simp[cz]) ws ws ws ws)),
  λz y A o k q B x j h=>rh k (h.st.get (i:=0) (d:=1) (v:=ptr G) (by simp[cz]) rfl) (h.ld (u:=cC) (b:=G) (aD (i:=0) rfl) (K:=λv=>FJ w G b2 D s (dL z 19) (y.put o.dst v) A) (by rw[q];exact h.stat 19 25 ((cC).v) (by simp[cz]) (by simp[cz]) ws ws ws ws)),
  λz y A o k q B x j h=>by refine H6 k (h.st.get (i:=18) (d:=23) (v:=lj) (by simp[cz]) (j 17 ws)) (h.st.get (i:=19) (d:=24) (v:=(fI s).v) (by simp[cz]) (j 18 ws)) (h.st.get (i:=20) (d:=25) (v:=(cC).v) (by simp[cz]) (j 19 ws)) (by kernel_rfl) ((h.call 20 26 (fI s) (cC) (by simp[ih])).mono ?_);rintro e C ⟨v,W,H⟩;rw[B,show zeroOf V nP=.nilFunc from by kernel_rfl];exact⟨v,W,by grind⟩,
  λz y A o k q B x j h=>by
   obtain⟨mp,X,I,aa,hc,hm,ab,Y,ac⟩:=h.hp;obtain⟨a,b,N,_,_⟩:=Y (20,26,fI s,cC) (by simp[ih]) (j 20 ws);obtain⟨m,E,C,F,H⟩:=h.ins 21 5 (u7 a b) (by simp[eV]) (j 0 ws) x (λI M O L=>by obtain⟨P,Q,S,T,U⟩:=L (20,26,fI s,cC) (by simp[ih]) (j 20 ws);exact .inr (.inl ⟨fI s,cC,P,Q,.inr (.inr ⟨rfl,rfl,rfl⟩),fb (N.symm.trans S),T,U⟩))
   exact rf k E rfl N ⟨C,F,by grind⟩,
  λz y A o k q B x j h=>by obtain⟨m,E,C,F,H⟩:=h.ins 22 6 (.func (.func ve) #[] #[]) (by simp[eV]) (j 0 ws) x (λI M O L=>.inr (.inr (.inl ⟨rfl,rfl⟩)));exact rf k E rfl rfl ⟨C,F,by grind⟩,
  λz y A o k q B x j h=>afT k (h.st.get (i:=0) (d:=2) (v:=ptr b2) (by simp[cz]) rfl) (h.st.get (i:=0) (d:=3) (v:=ptr D) (by simp[cz]) rfl) (by rw[q];exact h.stat 23 27 (BY b2 D) (by simp[cz]) (by simp[cz]) ws ws ws ws),
  λz y A o k q B x j h=>by obtain⟨m,E,C,F,H⟩:=h.ins 24 7 (BY b2 D) (by simp[eV]) (j 0 ws) x (λI M O L=>.inr (.inr (.inr ⟨b2,D,rfl,rfl,M,O⟩)));exact rf k E rfl (h.st.get (i:=24) (d:=27) (v:=BY b2 D) (by simp[cz]) (j 23 ws)) ⟨C,F,by grind⟩,
  λz y A o k q B x j h=>by obtain⟨m,Z,H⟩:=h.m25 (j 0 ws);exact nL (.inl k) Z (by grind),
  λz y A o k q B x j h=>by obtain⟨m,Z,H⟩:=h.m26 (j 0 ws) (j 25 ws);exact nL (.inr k) Z (by grind),trivial⟩
def aaS{w k:J}{j b2 h:Nat}{s:Sl}{E:Env}(H:LH F0 w k (qF j b2 h s) [])(q:E.get? 1=some (ptr j))(x:E.get? 2=some (ptr b2))(y:E.get? 3=some (ptr h))(z:E.get? 4=some jg)(A:E.get? 5=some lj):FJ w j b2 h s (λ_=>false) E k.drew:=by
 refine⟨λD d C=>?_,[],[],[(b2,fS),(h,fI s)],by simpa using H.drew,?_,ws,ws,λD d B=>(by cases B),.inl ⟨rfl,rfl,λ_ _=>rfl,rfl,rfl⟩⟩
 .simp only[cz,aq,aL,aO]at d
  (repeat' rcases d with rfl|d)<;>(try subst d)<;>first |exact q|exact x|exact y|exact z|exact A|cases C
 grind
def aaP{w q:J}{A b2 B:Nat}{s:Sl}{L:Nat->Bool}{E:Env}(F:∀i,i<Al.length->L i=true)(S:FJ w A b2 B s L E q):∃y:Fm,E.get? 0=some (.map (some y.m))/\y.Ok/\(En.fm y).P q/\(∀b∈(En.fm y).fp,w.heap.size<=b)/\af w q:=by
 have hlen:Al.length=27:=rfl;obtain⟨mp,X,C,j,W,hm,ad,hj,aa⟩:=S.hp;rcases aa with⟨ac,_⟩|⟨_,m,D,clock,ms,rfl,h2,M,N,O,h6,Q⟩
 .grind
 have mem:∀p∈C,eu p.1 p.2∈[En.ob m (.map D clock)]++(qF A b2 B s++X):=λp x=>eD _ (W p x);have ab:aG q aZ 4 s cC.c:=j.get (e:=.row aZ 4 s cC.c) 3 rfl;refine⟨⟨m,D,clock,ms,C,s⟩,Q (F 26 co),⟨M,λh h0 h8=>?_⟩,λe d=>?_,λb T=>?_,j.fr⟩
 .have Z:∃i,(i,h)∈eV/\i<27:=by
   have:h=0\/h=1\/h=2\/h=3\/h=4\/h=5\/h=6\/h=7:=co
   rcases this with rfl|rfl|rfl|rfl|rfl|rfl|rfl|rfl
   .exact ⟨2,by simp[eV],co⟩
   .exact ⟨4,by simp[eV],co⟩
   .exact ⟨6,by simp[eV],co⟩
   .exact ⟨11,by simp[eV],co⟩
   .exact ⟨16,by simp[eV],co⟩
   .exact ⟨21,by simp[eV],co⟩
   .exact ⟨22,by simp[eV],co⟩
   .exact ⟨24,by simp[eV],co⟩
  obtain⟨i,Y,ae⟩:=Z;have G:=O _ Y;rw[F i co]at G;obtain⟨v,K⟩:=Option.isSome_iff_exists.1 G;exact⟨v,K,N h v K⟩
 .rcases aq.1 d with rfl|d
  .exact j.own _ ws
  rcases aq.1 d with rfl|d
  .show I.P q (fI s);unfold I.P I.Ps I.Ps;exact⟨ab.bf,k5 q,trivial⟩
  .obtain ⟨p,x,rfl⟩:=bS.1 d;exact j.own _ (mem p x)
 .obtain ⟨e,d,z⟩:=cc.1 (aT.1 T);rcases aq.1 d with rfl|d
  .exact (j.new _ (aD (i:=0) rfl) b z).resolve_right id
  rcases aq.1 d with rfl|d
  .have k:b∈(fI s).fp:=aT.1 z;unfold I.fp at k;rcases aX.1 k with k|k
   .exact (j.new _ (aD (i:=3) rfl) b (gY k)).resolve_right id
   .obtain ⟨t,H,U⟩:=I.b'.1 k;simp at H;subst H;exact(k6 U).elim
  .obtain ⟨p,x,rfl⟩:=bS.1 d;exact(j.new _ (mem p x) b z).resolve_right id
def Za(w:J):ai V Qc #[] w λr j=>(∃d:Fm,r=ae (.map (some d.m))/\d.Ok/\(En.fm d).P j/\∀b∈(En.fm d).fp,w.heap.size<=b)/\af w j:=by refine TW.ok w _ ((bK [] ws).nw λk _ y=>y.nw λO _ C=>C.kD 0 rfl λU D=>D.kD 1 rfl λq h=>⟨0,0,0,⟨none,0,0⟩,h.ld 0 0,h.ld 0 1,h.ld 0 2,h.ld 0 3,h.cZ (n:=1) (sz:=4) (cs:=cC.c) rfl md λx z=>z.nw λT _ A=>A.kD 3 rfl λN B=>?_⟩);have E:LH F0 w N (qF w.heap.size k.heap.size x.heap.size ⟨some (ab q.heap.size),1,1⟩) []:=B;refine Fq Al (by kernel_rfl) (FJ w w.heap.size k.heap.size x.heap.size ⟨some (ab q.heap.size),1,1⟩) (aaS E rfl rfl rfl rfl rfl) (aaR _ _ _ _ _) λS Q O M L=>?_;obtain⟨d,F,G,H,I,K⟩:=aaP M L;exact aeX (by kernel_rfl) F ⟨⟨d,rfl,G,H,I⟩,K⟩
section
variable {M:Nat->Prop} {w0 w:J} {L D:List En}
def _root_.Go.W.LH.XZ(H:LH M w0 w L D)(i:Nat){P:aJ}{t ty e:aE}{z:aa}{sz bytes:Nat}(k:g7 P t e z sz bytes){T:aE}{s:Sl}{xs:List aa}{news:Array aa}{A:J->Prop}{K:Sl->J->Prop}(hi:L[i]? =some (.row e sz s xs))(y:∀d,LH M w0 d L D->A d)(B:∀h d,LH M w0 d (L.set i (.row e sz h (xs++news.toList))) D->K h d)(C:(s.n+1) *bytes<=140737488355328)(E:news.size=sz:=by rfl)(x:∀u∈news.toList,u.oneCell'=true:=by simp[Value.oneCell']):
  dG w (.cells news T) λj=>A j/\∃h d,(Builtin.append_ #[t,t] ty #[s.v,.slice (some (Addr.mk w.heap.size 0 none)) 1 1]).run P j=.ok h.v d/\K h d:=
 ⟨y _ (H.bz (Fr.alloc _ _ _)),H.uf i k hi (λh d q _ _=>B h d q) C E x⟩
end
mutual
def eg:Rx->Rx|.mk k lo hi l=>ib (.mk k lo hi (fE l))
def fE:List Rx->List Rx
 |[]=>[]
 |a::l=>eg a::fE l
end
def aaG(N:Nat):Rx->Bool|.mk k _ _ l=>av (k=4\/k=5->vp k l<=N)
def sR(N:Nat)(y:Rx):Bool:=kW y&&av (y.sz<=1000000)&&aaG N y
mutual
def qD(N:Nat):Rx->Bool|.mk k lo hi l=>sj N l&&sR N (.mk k lo hi (fE l))
def sj(N:Nat):List Rx->Bool
 |[]=>true
 |a::l=>qD N a&&sj N l
end
def Ma{N:Nat}:∀{l:List Rx} {a:Rx},sj N l=true->a∈l->qD N a=true
 |b::l,a,d,h=>by
  unfold sj at d;rw[bH]at d;rcases aq.1 h with rfl|h
  .exact d.1
  .exact Ma d.2 h
def sP:∀l:List Rx,fE l=l.map eg
 |[]=>rfl
 |a::l=>by unfold fE;rw[sP l];rfl
def RQ{M:Nat->Prop}{w0 w:J}{L D:List En}(H:LH M w0 w L D):LH M w0 w L (D++[.trees []]):=
 H.gP (.trees []) (Fr.refl _ _) (by show I.Ps w [];unfold I.Ps;trivial) (λb d=>by have:=aT.1 d;unfold I.bj at this;cases this)
def uV{acc:List I}{t:I}{Q:Nat->Prop}(h:∀b∈I.bj acc,Q b)(q:∀b∈t.fp,Q b):∀b∈I.bj (acc++[t]),Q b:=by
 intro b k;obtain⟨u,d,j⟩:=I.b'.1 k;rcases aX.1 d with d|d
 .exact h b (I.b'.2 ⟨u,d,j⟩)
 .simp at d;rw[d]at j;exact q b j
abbrev Xx(N:Nat)(F:Fm)(n:Nat):Prop:=∀(x:I) (w:J),x.sz<=n->qD N x.rx=true->(En.fm F).P w->x.P w->ai V Gq #[.map (some F.m),x.v] w λr d=>gO (x.fp++(En.fm F).fp) w (eg x.rx) r d/\af w d
def JS{N:Nat}(hS:tY N)(hN:N+1<=1000000){F:Fm}(hF:F.Ok):∀n:Nat,n<=1000000->Xx N F n
 |0,_=>λh z ac _ _ _=>absurd ac (by have:=I.m3 h;omega)
 |n+1,hn=>λh z ac Y pF px=>by
  have ih:=JS hS hN hF n co;have hs:=I.iR h;have hl:=I.gh h.l;have ax:=I.cI px.parts.1;have Z:sj N (I.aw h.l)=true/\sR N (.mk h.k h.lo h.hi (fE (I.aw h.l)))=true:=by
   rw[I.fF]at Y;unfold qD at Y
   rwa[bH]at Y
  have ad:0<=h.k/\h.k<8:=by have:=Z.2;unfold sR kW at this;simp only[bH,decide_eq_true_eq]at this;exact this.1.1.1
  have loop:∀(d i:Nat) (acc:List I) (sl:Sl) (C D B:Nat) (y:J),i+d=h.l.length->I.aw acc=fE (I.aw (h.l.take i))->(∀b∈I.bj acc,z.heap.size<=b\/b∈h.fp++(En.fm F).fp)->
    LH F0 z y [.c C h.c aZ,.c D [.int .i64 0,.int .u8 0,.int .u8 0,.slice none 0 0] aZ,.c B [.int .i64 h.k,.int .u8 (h.lo.toNat:Int),.int .u8 (h.hi.toNat:Int),sl.v] aZ,.row aZ 4 sl (acc.flatMap I.c)] [.tree h,.fm F,.trees acc]->
    yD.L0 (some F.m) (ab C) (ab D) (ab B) h.s (h.s.n:Int) (i:Int) y λr w'=>gO (h.fp++(En.fm F).fp) z (eg h.rx) r w'/\af z w':=by
   intro d;induction d with
   |zero=>
    intro i acc sl C D B y am x W q;rw[eO co]at x;obtain⟨f,f1,f2,f3⟩:=Y5 hS co hF (q.getD 1) h.k ad.1 ad.2;have an:∀b∈(I.row sl acc).fp,z.heap.size<=b:=λb j=>(q.new _ (aD (i:=3) rfl) b (gY j)).resolve_right id;have K:LH F0 z y [.c C h.c aZ,.c D [.int .i64 0,.int .u8 0,.int .u8 0,.slice none 0 0] aZ,.c B [.int .i64 h.k,.int .u8 (h.lo.toNat:Int),.int .u8 (h.hi.toNat:Int),sl.v] aZ] [.tree h,.fm F,.trees acc,I.row sl acc,.tree (.mk h.k h.lo h.hi sl acc)]:=q.s8 3 2 h.k h.lo h.hi;have ar:(I.mk h.k h.lo h.hi sl acc).P y:=K.getD 4;have T:(I.mk h.k h.lo h.hi sl acc).rx=.mk h.k h.lo h.hi (fE (I.aw h.l)):=by unfold I.rx;rw[x]
    have H:=Z.2;unfold sR at H;simp only[bH,decide_eq_true_eq]at H;have ao:(I.mk h.k h.lo h.hi sl acc).sz<=1000000:=by have G:=I.eX (I.mk h.k h.lo h.hi sl acc);rw[T]at G;rw[<-G];exact H.1.2
    have al:h.k=4\/h.k=5->vp h.k (I.aw acc)<=N:=λhk=>by rw[x];exact eT H.2 hk
    have ak:eg h.rx=ib (I.mk h.k h.lo h.hi sl acc).rx:=by rw[T,I.fF];unfold eg;rfl
    refine yD.bE (aN (aW co) ⟨h.k,q.ld 0 0,f,f1,_,_,_,sl,q.ld 2 0,q.ld 2 1,q.ld 2 2,q.ld 2 3,?_⟩);rw[f2];refine(show cS true _ from ?_);refine(f3 (.mk h.k h.lo h.hi sl acc) y (q.getD 1) ar rfl al ao (by rw[T];exact H.1.1)).mono ?_;rintro _ w2 ⟨⟨t,rfl,ht,pt,E⟩,U⟩;have S:=K.gP (.tree t) U pt (λb j=>by
     rcases E b (aT.1 j)with j|j
     .exact .inl j
     .rcases aX.1 j with j|j
      .exact .inr (.inr ⟨_,aD (i:=4) rfl,aT.2 j⟩)
      .exact .inr (.inr ⟨_,aD (i:=1) rfl,j⟩))
    refine⟨_,_,_,t.s,rfl,S.kD 1 rfl λw3 A=>⟨_,_,_,t.s,A.ld 1 0,A.ld 1 1,A.ld 1 2,A.ld 1 3,⟨t,rfl,by rw[ak];exact ht,A.getD 5,λb j=>?_⟩,A.fr⟩⟩;rcases E b j with j|j
    .exact .inl (bb q.fr.size j)
    .rcases aX.1 j with j|j
     .unfold I.fp at j;rcases aX.1 j with j|j
      .exact .inl (an b j)
      .exact W b j
     .exact .inr (eD _ j)
   |succ d ap=>
    intro i acc sl C D B y am x W q;have M:h.l[i]? =some (h.l[i]'co):=a' co;generalize h.l[i]'co=a at M;have O:=aD M;have az:=I.eK O;have fa:qD N a.rx=true:=Ma Z.1 (by rw[I.gb];exact bS.2 ⟨a,O,rfl⟩);have aa:∀b∈a.fp,b∈h.fp:=λb j=>I.gU.2 (.inr (I.b'.2 ⟨a,O,j⟩));refine yD.bE (aM (aR co) (jc (show h.P y from q.getD 0) rfl M (q.nw λw8 _ H8=>H8.kD 4 rfl λaA ag=>ag.dr λae w=>⟨sl,w.ld 2 3,a.k,a.lo.toNat,a.hi.toNat,a.s,w.ld 4 0,w.ld 4 1,w.ld 4 2,w.ld 4 3,?_⟩)));refine(ih a ae co fa (w.getD 1) ((show h.P ae from w.getD 0).parts.2.mem O)).mono ?_;rintro _ aB ⟨⟨t,rfl,ht,pt,E⟩,U⟩;have Q:=w.gP (.tree t) U pt (λb j=>by
     rcases E b (aT.1 j)with j|j
     .exact .inl j
     .rcases aX.1 j with j|j
      .exact .inr (.inr ⟨_,aD (i:=0) rfl,aT.2 (aa b j)⟩)
      .exact .inr (.inr ⟨_,aD (i:=1) rfl,j⟩))
    have av:acc.length=i:=by have G:=congrArg List.length x;rw[I.gb,sP,I.gb]at G;simp only[List.length_map,f']at G;omega
    have ay:=I.cI (Q.get 3:aG _ _ _ _ _).bf;refine⟨_,_,_,t.s,rfl,Q.ld 2 3,Q.XZ 3 r8 (xs:=acc.flatMap I.c) rfl (λw' K=>K.ld 2 3) (λs' aC ah=>ah.st 2 3 rfl λau ai=>?_) co⟩;rw[bc _ co];have aj:=(ai.td 2 3).take 4;refine ap (i+1) (acc++[t]) s' C D B au co ?_ (uV W λb j=>?_) ?_
    .rw [kA,x,dV,M,Option.toList_some,kA,sP,sP,List.map_append];show _++[t.rx]=_;rw[ht];rfl
    .rcases E b j with j|j
     .exact .inl (bb w.fr.size j)
     .rcases aX.1 j with j|j
      .exact .inr (bV _ (aa b j))
      .exact .inr (eD _ j)
    .rw [nr];exact aj.forget _ ws
  refine yD.ok ((bK [.tree h,.fm F] (by
   intro e x;simp only[aq,aL,aO]at x;rcases x with rfl|rfl
   .exact px
   .exact pF)).nw λy _ H1=>H1.nw λw2 _ L=>⟨h.k,L.ld 0 0,h.lo.toNat,L.ld 0 1,h.hi.toNat,L.ld 0 2,L.nw λw3 _ S=>S.kD 2 rfl λw7 H7=>⟨h.s,H7.ld 0 3,?_⟩⟩)
  exact loop h.l.length 0 [] ⟨none,0,0⟩ _ _ _ w7 co rfl (λb j=>by unfold I.bj at j;cases j) (RQ (H7.fY aZ 4))
def Zm{N:Nat}(q:tY N)(k:N+1<=1000000){F:Fm}(j:F.Ok)(x:I)(w:J)(h:x.sz<=1000000)(y:qD N x.rx=true)(z:(En.fm F).P w)(A:x.P w):ai V Gq #[.map (some F.m),x.v] w λr d=>gO (x.fp++(En.fm F).fp) w (eg x.rx) r d/\af w d:=
 JS q k j 1000000 (br _) x w h y z A
section
variable {M:Nat->Prop} {w0 w:J} {L D:List En} {U:List Nat}
def _root_.Go.W.LH.r2(H:LH M w0 w L D){P:aJ}{g:FuncId}{args:Array aa}{K:aK}{d:List Nat}{x:Rx}(A:ai P g args w λr Y=>gO d w x r Y/\af w Y)(hold:∀b∈d,∃g∈D,b∈g.fp)(B:∀(t:I) (Y:J),t.rx=x->LH M w0 Y L (D++[.tree t])->(∀b∈t.fp,w.heap.size<=b\/b∈d)->K (ae t.v) Y):ep U P g args w K:=
 gn (A.mono λr Y ⟨⟨t,k,q,y,h⟩,f⟩=>⟨f,by
  subst k;exact B t Y q (H.gP (.tree t) f y λb z=>(h b (aT.1 z)).imp id λj=>.inr (hold b j)) h⟩)
end
namespace om
def a6:=bh (ax V Tryz.f150 [(6,lr 9),(8,lr 9),(13,lr 12)] [2,3]) [0,1,1,1,3] [(2,.l [.I,.Y,.Y,.s] aV),(3,.l [.I,.Y,.Y,.s] aV),(5,.s),(6,.s),(7,.I)]
abbrev t1:=bg a6
def cy:=bh t1 [0,1,1,1,4] [(2,.l [.I,.Y,.Y,.s] aV),(3,.l [.I,.Y,.Y,.s] aV),(8,.I)]
abbrev t2:=bg cy
abbrev cd:=ak t2 [5] [(2,.l [.I,.Y,.Y,.s] aV),(3,.l [.I,.Y,.Y,.s] aV)]
abbrev t3:=ao cd
def dH:=bm t3 cy
def bD:=bm t3 a6
def aC:=ay t3 F7 [.a 4,.I,.Y,.Y,.s,.a 4,.I,.Y,.Y,.s]
end om
def k8{p:Addr}{K:Addr->Prop}(h:K p):eh (some p) K:=h
def Ed{x y:Int}(l:List Int)(h:x<y):eI (cO x y::l)=-1:=by unfold eI cO;simp[h]
def Ec{x y:Int}(l:List Int)(h:y<x):eI (cO x y::l)=1:=by unfold eI cO;rw[ag (show ¬x<y by omega),au h];simp
def Eb{x y:Int}(l:List Int)(d:¬x<y)(h:¬y<x):eI (cO x y::l)=eI l:=by
 conv=>lhs;unfold eI cO
 rw[ag d,ag h];simp
abbrev XC(n:Nat):Prop:=∀(a b:I) (w:J),a.sz<=n->a.P w->b.P w->ai V F7 #[a.v,b.v] w λr d=>r=ae (.int .i64 (be a.rx b.rx))/\af w d
def JZ:∀n:Nat,n<=1000000->XC n
 |0,_=>λa b B h _ _=>absurd h (by have:=I.m3 a;omega)
 |n+1,hn=>λa b B h pa pb=>by
  have ih:=JZ n co;have hs:=I.iR a;have hl:=I.gh a.l;have na:=I.cI pa.parts.1;have ao:=I.cI pb.parts.1;have e:be a.rx b.rx=if eI [cO a.k b.k,cO a.lo.toNat b.lo.toNat,cO a.hi.toNat b.hi.toNat]≠0 then eI [cO a.k b.k,cO a.lo.toNat b.lo.toNat,cO a.hi.toNat b.hi.toNat]else cmpL (I.aw a.l) (I.aw b.l):=by rw[I.fF a,I.fF b];unfold be;rfl
  have am:∀(d i:Nat) (b2 w:Nat) (G:J),i+d=a.l.length->i<=b.l.length->cmpL (I.aw (a.l.drop i)) (I.aw (b.l.drop i))=be a.rx b.rx->LH F0 B G [.g b2,.g w] [.tree a,.tree b]->
    om.cy b2 a.k a.lo.toNat a.hi.toNat a.s w b.k b.lo.toNat b.hi.toNat b.s (i:Int) G λr L=>r=ae (.int .i64 (be a.rx b.rx))/\af B L:=by
   intro d;induction d with
   |zero=>
    intro i b2 w G ac ak j A;rw[c9 (by omega:a.l.length<=i)]at j;refine om.dH (aN (aW co) (aF (λh=>⟨?_,A.fr⟩) (λh=>aF (λq=>?_) (λq=>⟨?_,A.fr⟩))))
    .rw [dz (by omega:i<b.l.length)]at j;rw[<-j];rfl
    .omega
    .rw [c9 (by omega:b.l.length<=i)]at j;rw[<-j];rfl
   |succ d al=>
    intro i b2 w G ac ak j A;have K:a.l[i]? =some (a.l[i]'co):=a' co;rw[dz (by omega:i<a.l.length)]at j;generalize a.l[i]'co=x at K j;have ar:=I.eK (aD K);refine om.dH (aM (aR co) (aF (λad=>⟨co,co,?_⟩) (λan=>aF (λh=>?_) (λh=>aF (λq=>⟨?_,A.fr⟩) (λq=>?_)))))
    .have Y:b.l[i]? =some (b.l[i]'co):=a' co;rw[dz (by omega:i<b.l.length)]at j;generalize b.l[i]'co=y at Y j;refine I.dE (show a.P G from A.getD 0).parts.1 K λp hp _=>A.ah λz C=>?_;have c:=I.again (show a.P z from C.getD 0).parts.1 K hp;refine⟨_,_,_,_,c.c0,c.c1,c.c2,c.c3,co,co,I.dE (show b.P z from C.getD 1).parts.1 Y λap hq S=>⟨_,_,_,_,S.c0,S.c1,S.c2,S.c3,C.aA (ih x y z co ((show a.P z from C.getD 0).parts.2.get K) ((show b.P z from C.getD 1).parts.2.get Y)) ?_⟩⟩;rintro _ T rfl D;have e2:cmpL (I.aw (x::a.l.drop (i+1))) (I.aw (y::b.l.drop (i+1)))=if be x.rx y.rx≠0 then be x.rx y.rx else cmpL (I.aw (a.l.drop (i+1))) (I.aw (b.l.drop (i+1))):=rfl;rw[e2]at j;refine⟨_,rfl,dA (λW=>⟨?_,D.fr⟩) (λW=>?_)⟩
     .rw [au W]at j;rw[j]
     .rw [ag (by simpa using W)]at j;rw[bc _ co];exact al (i+1) b2 w T co co j D
    .omega
    .rw [c9 (by omega:b.l.length<=i)]at j;rw[<-j];rfl
    .omega
  have U:∀(c:UInt8),aj .i64 (c.toNat:Int)=(c.toNat:Int):=λc=>aQ _ (by have:=c.toNat_lt;omega);refine om.aC ((bK [.tree a,.tree b] (by
   intro e j;simp only[aq,aL,aO]at j;rcases j with rfl|rfl
   .exact pa
   .exact pb)).aH λb2 G H1=>H1.aH λw M H2=>H2.nw λz _ C=>C.nw λT _ D=>?_)
  have D:LH F0 B T [.g b2,.g w,.c M.heap.size [.int .i64 a.k,.int .i64 (aj .i64 (a.lo.toNat:Int)),.int .i64 (aj .i64 (a.hi.toNat:Int))] cb,.c z.heap.size [.int .i64 b.k,.int .i64 (aj .i64 (b.lo.toNat:Int)),.int .i64 (aj .i64 (b.hi.toNat:Int))] cb] [.tree a,.tree b]:=D;rw[U,U,U,U]at D;have step:∀(i:Nat) (x y:Int) (N:J),i<3->([.int .i64 a.k,.int .i64 (a.lo.toNat:Int),.int .i64 (a.hi.toNat:Int)]:List aa)[i]? =some (.int .i64 x)->([.int .i64 b.k,.int .i64 (b.lo.toNat:Int),.int .i64 (b.hi.toNat:Int)]:List aa)[i]? =some (.int .i64 y)->
    LH F0 B N [.g b2,.g w,.c M.heap.size [.int .i64 a.k,.int .i64 (a.lo.toNat:Int),.int .i64 (a.hi.toNat:Int)] cb,.c z.heap.size [.int .i64 b.k,.int .i64 (b.lo.toNat:Int),.int .i64 (b.hi.toNat:Int)] cb] [.tree a,.tree b]->
    (x<y->be a.rx b.rx=-1)->(y<x->be a.rx b.rx=1)->
    (¬x<y->¬y<x->∀O,LH F0 B O [.g b2,.g w,.c M.heap.size [.int .i64 a.k,.int .i64 (a.lo.toNat:Int),.int .i64 (a.hi.toNat:Int)] cb,.c z.heap.size [.int .i64 b.k,.int .i64 (b.lo.toNat:Int),.int .i64 (b.hi.toNat:Int)] cb] [.tree a,.tree b]->om.a6 b2 a.k a.lo.toNat a.hi.toNat a.s w b.k b.lo.toNat b.hi.toNat b.s ⟨some (ab M.heap.size),3,3⟩ ⟨some (ab z.heap.size),3,3⟩ ((i+1:Nat):Int) O λr L=>r=ae (.int .i64 (be a.rx b.rx))/\af B L)->
    om.a6 b2 a.k a.lo.toNat a.hi.toNat a.s w b.k b.lo.toNat b.hi.toNat b.s ⟨some (ab M.heap.size),3,3⟩ ⟨some (ab z.heap.size),3,3⟩ (i:Int) N λr L=>r=ae (.int .i64 (be a.rx b.rx))/\af B L:=by
   intro i x y N ac hx hy A ad ai hk;have Q:(i:Int)<((3:Nat):Int):=co
   refine om.bD (aM (aR co) ⟨co,Q,k8 (A.ah λO E=>⟨x,?_,co,Q,k8 ⟨y,?_,aF (λh=>⟨by rw[ad h],E.fr⟩) (λh=>⟨co,Q,k8 (E.ah λZ F=>⟨x,?_,co,Q,k8 ⟨y,?_,aF (λq=>⟨by rw[ai q],F.fr⟩) (λq=>?_)⟩⟩)⟩)⟩⟩)⟩)
   .rw [bB,Nat.mul_one];exact E.ld 2 i rfl hx
   .rw [bB,Nat.mul_one];exact E.ld 3 i rfl hy
   .rw [bB,Nat.mul_one];exact F.ld 2 i rfl hx
   .rw [bB,Nat.mul_one];exact F.ld 3 i rfl hy
   .rw [show aj .i64 ((i:Int)+1)=((i+1:Nat):Int)by rw[aQ _ co];omega];exact hk h q Z F
  show om.a6 _ _ _ _ _ _ _ _ _ _ _ _ ((0:Nat):Int) _ _;refine step 0 _ _ T co rfl rfl D (λh=>by rw[e,Ed _ h];rfl) (λh=>by rw[e,Ec _ h];rfl) (λH q N H5=>?_);rw[Eb _ H q]at e;refine step 1 _ _ N co rfl rfl H5 (λh=>by rw[e,Ed _ h];rfl) (λh=>by rw[e,Ec _ h];rfl) (λH q O E=>?_);rw[Eb _ H q]at e;refine step 2 _ _ O co rfl rfl E (λh=>by rw[e,Ed _ h];rfl) (λh=>by rw[e,Ec _ h];rfl) (λH q Z F=>?_);rw[Eb _ H q]at e;refine om.bD (aN rfl (am a.l.length 0 b2 w Z co co ?_ (F.take 2)));rw[e];rfl
def rY(a b:I)(w:J)(h:a.sz<=1000000)(d:a.P w)(j:b.P w):ai V F7 #[a.v,b.v] w λr k=>r=ae (.int .i64 (be a.rx b.rx))/\af w k:=JZ 1000000 (br _) a b w h d j
namespace uM
abbrev P0:Ps:=[(1,.l [.I,.Y,.Y,.s] aV),(3,.I),(4,.I)]
def a6:=bh (ax V Tryz.f157 [] [1]) [0,1,1,1,2] P0
abbrev t1:=bg a6
abbrev b3:=ak t1 [2,2,1,1,2] P0
abbrev t2:=ao b3
def bD:=bm t2 a6
def aC:=ay t2 F8 [.a 4,.I,.Y,.Y,.s]
end uM
namespace uN
abbrev P0:Ps:=[]
abbrev bt:=ak (ax V Tryz.f189 [(3,lr 30)] [1]) [0,1,1,1,3] P0
abbrev t1:=ao bt
abbrev b3:=ak t1 [0,1,1,1,4] P0
abbrev t2:=ao b3
def lB:=bh t2 [0,1,1,1,5] [(1,.l [.I,.Y,.Y,.s] aV),(5,.I)]
abbrev t3:=bg lB
def rJ:=bm t3 lB
abbrev cd:=ak t3 [5] [(1,.l [.I,.Y,.Y,.s] aV)]
abbrev t4:=ao cd
def aC:=ay t4 Oy [.a 4,.I,.Y,.Y,.s]
end uN
namespace La
def aC:=ay (ax V Tryz.f158 [] [1]) Ot [.a 4,.I,.Y,.Y,.s]
end La
abbrev Xw(n:Nat):Prop:=∀(x:I) (w:J),x.sz<=n->x.P w->ai V F8 #[x.v] w λr d=>r=ae (.int .i64 (x.sz:Int))/\af w d
def JC:∀n:Nat,n<=1000000->Xw n
 |0,_=>λh z A _=>absurd A (by have:=I.m3 h;omega)
 |n+1,O=>λh z A C=>by
  have G:=JC n co;have Q:=I.iR h;have N:=I.gh h.l;have S:=I.cI C.parts.1;have loop:∀(d i m q:Nat) (j:J),i+d=h.l.length->m+I.a9 (h.l.drop i)=h.sz->LH F0 z j [.g q] [.tree h]->uM.a6 q h.k h.lo.toNat h.hi.toNat h.s (m:Int) (i:Int) j λr K=>r=ae (.int .i64 (h.sz:Int))/\af z K:=by
   intro d;induction d with
   |zero=>
    intro i m q j F w x;rw[c9 co]at w;refine uM.bD (aN (aW co) ⟨?_,x.fr⟩);have:m=h.sz:=w;rw[this]
   |succ d H=>
    intro i m q j F w x;have y:h.l[i]? =some (h.l[i]'co):=a' co;rw[dz co]at w;generalize h.l[i]'co=a at y w;have M:m+(a.sz+I.a9 (h.l.drop (i+1)))=h.sz:=w;have B:=aD y;have T:=I.eK B;refine uM.bD (aM (aR co) (jc (show h.P j from x.getD 0) rfl y (x.aA (G a j co ((show h.P j from x.getD 0).parts.2.mem B)) ?_)));rintro _ L rfl E;refine⟨_,rfl,?_⟩;show uM.a6 _ _ _ _ _ _ _ _ _;rw[bc _ co,aQ _ co];have e:((m:Int)+(a.sz:Int))=((m+a.sz:Nat):Int):=co
    rw[e];exact H (i+1) (m+a.sz) q L co co E
  exact uM.aC ((hj C).aH λq j D=>loop h.l.length 0 1 q j co (by rw[List.drop_zero];omega) D)
def DS(x:I)(w:J)(h:x.sz<=1000000)(d:x.P w):ai V F8 #[x.v] w λr j=>r=ae (.int .i64 (x.sz:Int))/\af w j:=JC 1000000 (br _) x w h d
def Az(k:Nat):Int:=if 6<=k then 1 else 0
def AQ(k:Nat):Int:=if k<3 then 0 else if k<6 then 64 else 1
def acd{k:Nat}(h:k<8):([.i 0,.i 0,.i 0,.i 0,.i 0,.i 0,.i 1,.i 1]:List aa)[k]? =some (.i (Az k)):=by
 have:k=0\/k=1\/k=2\/k=3\/k=4\/k=5\/k=6\/k=7:=co
 rcases this with rfl|rfl|rfl|rfl|rfl|rfl|rfl|rfl<;>rfl
def ac4{k:Nat}(h:k<8):([.i 0,.i 0,.i 0,.i 64,.i 64,.i 64,.i 1,.i 1]:List aa)[k]? =some (.i (AQ k)):=by
 have:k=0\/k=1\/k=2\/k=3\/k=4\/k=5\/k=6\/k=7:=co
 rcases this with rfl|rfl|rfl|rfl|rfl|rfl|rfl|rfl<;>rfl
abbrev Xo(n:Nat):Prop:=∀(x:I) (w:J),x.sz<=n->x.P w->ai V Oy #[x.v] w λr d=>r=ae (.bool (de x.rx))/\af w d
def JP:∀n:Nat,n<=64->Xo n
 |0,_=>λh E w _=>absurd w (by have:=I.m3 h;omega)
 |n+1,hn=>λh E w px=>by
  have ih:=JP n co;have hs:=I.iR h;have hl:=I.gh h.l;have nr:=I.cI px.parts.1;have S:(I.aw h.l).length=h.s.n:=by rw[I.gb];simp[nr]
  have ee:(I.aw h.l).isEmpty=av (h.s.n=0):=by rw[<-S,Bool.eq_iff_iff];simp
  have y:de h.rx=(!(h.k !=2&&(h.lo !=0||h.hi !=0))&&(if h.k=0\/h.k=1 then(I.aw h.l).isEmpty else if h.k=2 then(I.aw h.l).isEmpty&&av (h.lo.toNat<=h.hi.toNat)else if h.k=3\/h.k=4\/h.k=5 then ey (I.aw h.l)else if h.k=6\/h.k=7 then(I.aw h.l).length==1&&ey (I.aw h.l)else false)):=by rw[I.fF];unfold de;rfl
  rw[ee,S]at y;have z8:∀u:UInt8,(u !=0)=av (u.toNat≠0):=λu=>by rw[Bool.eq_iff_iff];simp only[bne_iff_ne,ne_eq,decide_eq_true_eq];exact not_congr ⟨λw=>by rw[w];rfl,λw=>UInt8.toNat_inj.1 (by simpa using w)⟩
  rw[z8,z8]at y;have bad:∀{j:Nat} {Y:J},de h.rx=false->LH F0 E Y [.g j,.c (0:Nat) [] cb] []->True:=λ_ _=>trivial
  let Z:aK:=λr Y=>r=ae (.bool (de h.rx))/\af E Y
  have loop:de h.rx=ey (I.aw h.l)->∀(d i j:Nat) (q:J),i+d=h.l.length->ey (I.aw (h.l.drop i))=ey (I.aw h.l)->LH F0 E q [.g j] [.tree h]->uN.lB j h.k h.lo.toNat h.hi.toNat h.s (i:Int) q Z:=by
   intro N d;induction d with
   |zero=>
    intro i j q ad G H;rw[c9 co]at G;refine uN.rJ (aN (aW co) ⟨?_,H.fr⟩);rw[N,<-G];rfl
   |succ d ak=>
    intro i j q ad G H;have W:h.l[i]? =some (h.l[i]'co):=a' co;rw[dz co]at G;generalize h.l[i]'co=a at W G;have ma:=aD W;have am:=I.eK ma;have T:(de a.rx&&ey (I.aw (h.l.drop (i+1))))=ey (I.aw h.l):=G;refine uN.rJ (aM (aR co) (jc (show h.P q from H.getD 0) rfl W (H.aA (ih a q co ((show h.P q from H.getD 0).parts.2.mem ma)) ?_)));rintro _ F rfl K;refine⟨_,rfl,eb (λU=>⟨?_,K.fr⟩) (λht=>?_)⟩
    .rw [N,<-T,U];rfl
    .rw [bc _ co];rw[ht,Bool.true_and]at T;exact ak (i+1) j F co T K
  refine uN.aC ((hj px).aH λj q H1=>H1.nw λF _ K=>K.nw λw3 _ O=>?_);have no:∀Y:J,LH F0 E Y [.g j,.c q.heap.size [.i 0,.i 0,.i 0,.i 64,.i 64,.i 64,.i 1,.i 1] cb,.c F.heap.size [.i 0,.i 0,.i 0,.i 0,.i 0,.i 0,.i 1,.i 1] cb] [.tree h]->de h.rx=false->(Ending.returned (.bool false)=ae (.bool (de h.rx))/\af E Y):=λY H' U=>⟨by rw[U],H'.fr⟩;refine aF (λk0=>LH.ah O (λA x=>no A x ?_) ws) (λk0=>aF (λk7=>LH.ah O (λA x=>no A x ?_) ws) (λk7=>?_))
  .rw [y,ag co,ag co,ag co,ag co,Bool.and_false]
  .rw [y,ag co,ag co,ag co,ag co,Bool.and_false]
  obtain⟨B,hk⟩:=Int.eq_ofNat_of_zero_le (by omega:0<=h.k);have aa:B<8:=co
  refine⟨co,by show h.k<((8:Nat):Int);omega,(show eh (some (nb F)) _ from LH.ah O (λA x=>⟨Az B,?_,?_⟩) ws)⟩
  .have:=LH.ld (L:=[.g j,.c q.heap.size [.i 0,.i 0,.i 0,.i 64,.i 64,.i 64,.i 1,.i 1] cb,.c F.heap.size [.i 0,.i 0,.i 0,.i 0,.i 0,.i 0,.i 1,.i 1] cb]) x 2 B rfl (acd aa);rw[hk,bB,Nat.mul_one];exact this
  refine aF (λD=>no A x ?_) (λD=>⟨co,by show h.k<((8:Nat):Int);omega,(show eh (some (nb q)) _ from⟨AQ B,?_,?_⟩)⟩)
  .unfold Az at D;rw[y,ag (by split at D<;>omega),ag (by split at D<;>omega),ag (by split at D<;>omega)];split
   .rename_i al;have:(h.s.n==1)=false:=by rw[beq_eq_false_iff_ne];split at D<;>omega
    rw[this];simp
   .simp
  .have:=LH.ld (L:=[.g j,.c q.heap.size [.i 0,.i 0,.i 0,.i 64,.i 64,.i 64,.i 1,.i 1] cb,.c F.heap.size [.i 0,.i 0,.i 0,.i 0,.i 0,.i 0,.i 1,.i 1] cb]) x 1 B rfl (ac4 aa);rw[hk,bB,Nat.mul_one];exact this
  refine aF (λC=>no A x ?_) (λC=>?_)
  .unfold AQ at C;by_cases z:B<3
   .rw [au z]at C;have aj:av (h.s.n=0)=false:=aW co;rw[y,aj];split
    .simp
    .split
     .simp
     .omega
   .rw [ag z]at C;by_cases k5:B<6
    .rw [au k5]at C;omega
    .rw [ag k5]at C;have:(h.s.n==1)=false:=by rw[beq_eq_false_iff_ne];omega
     rw[y,this,ag co,ag co,ag co,au co];simp
  have M:(B<3->h.s.n=0)/\(6<=B->h.s.n=1):=by
   unfold Az at D;unfold AQ at C;refine⟨λw=>?_,λw=>?_⟩
   .rw [au w]at C;omega
   .rw [au w]at D;rw[ag co,ag co]at C;omega
  have H5:LH F0 E A [.g j] [.tree h]:=LH.take (L:=[.g j,.c q.heap.size [.i 0,.i 0,.i 0,.i 64,.i 64,.i 64,.i 1,.i 1] cb,.c F.heap.size [.i 0,.i 0,.i 0,.i 0,.i 0,.i 0,.i 1,.i 1] cb]) x 1;have ab:B<3->ey (I.aw h.l)=true:=λw=>by
   have h0:(I.aw h.l).length=0:=by rw[S,M.1 w]
   rw[List.length_eq_zero_iff.1 h0];rfl
  have go:de h.rx=ey (I.aw h.l)->uN.cd j h.k h.lo.toNat h.hi.toNat h.s A Z:=λN=>loop N h.l.length 0 j A co ws H5;refine aF (λai=>no A x ?_) (λai=>dA (λz=>aF (λac=>no A x ?_) (λac=>go ?_)) (λz=>go ?_))
  .rw [y];by_cases z:h.k=2
   .rw [ag co,au z,aW (show ¬h.lo.toNat<=h.hi.toNat by omega)];simp
   .have:(h.k !=2&&(av (h.lo.toNat≠0)||av (h.hi.toNat≠0)))=true:=by rw[aR (show h.lo.toNat≠0 by omega)];simp[z]
    rw[this];rfl
  .have:(h.k !=2&&(av (h.lo.toNat≠0)||av (h.hi.toNat≠0)))=true:=by rw[aR (show h.hi.toNat≠0 by omega)];simp[z]
   rw[y,this];rfl
  .have Q:(h.k !=2&&(av (h.lo.toNat≠0)||av (h.hi.toNat≠0)))=false:=by rw[aW (show ¬h.lo.toNat≠0 by omega),aW (show ¬h.hi.toNat≠0 by omega)];simp
   rw[y,Q];by_cases c1:h.k=0\/h.k=1
   .rw [au c1,ab co,aR (M.1 co)];rfl
   .rw [ag c1,ag z];by_cases c3:h.k=3\/h.k=4\/h.k=5
    .rw [au c3];simp
    .rw [ag c3,au co,M.2 co];simp
  .have Q:(h.k !=2&&(av (h.lo.toNat≠0)||av (h.hi.toNat≠0)))=false:=by rw[z];rfl
   rw[y,Q,ag co,au z,ab co,aR (M.1 co),aR (show h.lo.toNat<=h.hi.toNat by omega)];rfl
def Zw(x:I)(w:J)(h:x.sz<=1000000)(z:x.P w):ai V Ot #[x.v] w λr A=>r=ae (.int .i64 (kF x.rx))/\af w A:=by
 refine La.aC ((hj z).aH λD B k=>k.aA (DS x B h (k.getD 0)) ?_);rintro _ C rfl d;refine⟨_,rfl,aF (λy=>⟨?_,d.fr⟩) (λy=>d.aA (JP 64 (br _) x C co (d.getD 0)) ?_)⟩
 .unfold kF;rw[I.eX,au co]
 rintro _ E rfl q;refine⟨_,rfl,eb (λj=>⟨?_,q.fr⟩) (λj=>⟨?_,q.fr⟩)⟩
 .unfold kF;rw[I.eX,ag co,j];rfl
 .unfold kF;rw[I.eX,ag co,j];rfl
def IC{x:Rx}(h:kF x=0):de x=true/\x.sz<=64:=by
 unfold kF at h;split at h
 .cases h
 .split at h
  .rename_i d;exact⟨d,co⟩
  .cases h
def Mr:∀{l:List Rx} {a:Rx},ey l=true->a∈l->de a=true
 |b::l,a,j,h=>by
  have d:(de b&&ey l)=true:=j;rw[bH]at d;rcases aq.1 h with rfl|h
  .exact d.1
  .exact Mr d.2 h
namespace K6
def aC:=ay (ax V Tryz.f99 [] [0]) pD []
end K6
namespace qB
abbrev P0:Ps:=[(0,.s),(3,.l [.I,.Y,.Y,.s] aV),(5,.I)]
def a6:=bh (ax V Tryz.f151 [(2,lr 13),(4,lr 13),(7,(.sq [0,1,2,3,5] (.fork (ls [4,6,7,8]) (ls [6,4,7,8]))))] [3]) [0,2,2] P0
abbrev t1:=bg a6
abbrev dc:=ak t1 [6] [(0,.s),(5,.I),(6,.s)]
abbrev t2:=ao dc
abbrev cd:=ak t2 [4] P0
abbrev t3:=ao cd
abbrev b3:=ak t3 [3] P0
abbrev t4:=ao b3
def bD:=bm t4 a6
def aC:=ay t4 OD [.s,.a 4,.I,.Y,.Y,.s]
end qB
namespace iJ
abbrev bt:=ak (ax V Tryz.f125 [(9,lr 13),(25,lr 7),(27,lr 7)] [4,5,8,9]) [0,1,1,1,1,1,1,1,3] [(1,.s),(4,.l [.I,.Y,.Y,.s] aV)]
abbrev t1:=ao bt
abbrev P0:Ps:=[(0,.I),(1,.s),(4,.l [.I,.Y,.Y,.s] aV),(5,.l [.I,.Y,.Y,.s] aV),(6,.s),(7,.I)]
def cy:=bh t1 [0,1,1,1,5] P0
abbrev t2:=bg cy
abbrev cd:=ak t2 [2,2,1,1,5] P0
abbrev t3:=ao cd
abbrev P1:Ps:=[(0,.I),(4,.l [.I,.Y,.Y,.s] aV),(6,.s),(8,.l [.I,.Y,.Y,.s] aV),(9,.l [.I,.Y,.Y,.s] aV),(10,.s),(11,.I)]
def lB:=bh t3 [0,1,1,1,9] P1
abbrev t4:=bg lB
abbrev hx:=ak t4 [2,2,1,1,9] P1
abbrev t5:=ao hx
def rJ:=bm t5 lB
def dH:=bm t5 cy
def aC:=ay t5 OA [.I,.s]
end iJ
namespace xG
def a6:=bh (ax V Tryz.f101 [] [1,2]) [0,1,1,1,3] [(1,.l [.I,.Y,.Y,.s] aV),(2,.l [.I,.Y,.Y,.s] aV),(3,.s),(4,.I)]
abbrev t1:=bg a6
def bD:=bm t1 a6
def aC:=ay t1 yd [.a 4,.I,.Y,.Y,.s]
end xG
namespace Lc
def aC:=ay (ax V Tryz.f159 [] [1,2]) Ox [.a 4,.I,.Y,.Y,.s]
end Lc
namespace K7
def aC:=ay (ax V Tryz.f130 [] [1,2]) Om [.a 4,.I,.Y,.Y,.s]
end K7
end Go.Proofs.YtnaglpcbkhjpnabGreatDoor
end
