import Derived.Test.YtocpddmpfbfdbaaGreatDoorU
set_option linter.unusedVariables false
set_option linter.defProp false
namespace Go.Proofs.YtocpddmpfbfdbaaGreatDoor
open Go renaming World->I,Calls->ai,Program->aM,Value->ae,TypeId->aG
open Go.IntKind renaming wrap->ab
open _root_.Int renaming toNat->ag,tdiv->cz,toNat_natCast->dJ
open Go.IntWalk renaming i64_in->a4
open Go.Builtin renaming append_->bb
open Go.Sem renaming run->a6
open _root_.Bool renaming and_eq_true->bn,not_eq_true->ju
open _root_.Nat renaming le_refl->bB,le_trans->bH,beq_eq->ek
open _root_.Prod.mk renaming injEq->ee
open _root_.Option.some renaming inj->fQ,injEq->eT
open Go.Proofs.Tryz renaming prog->U
open _root_.Decidable renaming decide->ah
open Go.Ending renaming returned->V
open List renaming mem_append->a5,mem_cons->aB,not_mem_nil->a1,mem_of_getElem?->aI,getElem?_eq_getElem->bc,getElem?_eq_some_iff->cD,mem_append_left->cW,mem_append_right->eP,mem_flatMap->ch,mem_map->cQ,append_assoc->cN,length_take->dL,flatMap_append->dh,flatMap_cons->cO,mem_cons_of_mem->ec,mem_cons_self->ov,drop_eq_getElem_cons->dq,append_nil->fI,take_add_one->gC,map_append->ke,map_cons->kf,getElem?_drop->lD,drop_of_length_le->dt,take_of_length_le->e1,length_reverse->Dd
open Go Go.W
def kI (x:Rx):List Rx->List Rx
 |[]=>[x]
 |c::p=>if a8 x c<0 then c::kI x p else x::c::p
def jV (l:List Rx):List Rx:=(l.foldl (λp c=>kI c p) []).reverse
def jH (p:Rx):List Rx->List Rx
 |[]=>[]
 |c::l=>if a8 c p==0 then jH c l else c::jH c l
def pd:List Rx->List Rx
 |[]=>[]
 |a::l=>a::jH a l
def z9 {a b:Int} (c:cv a b=0):a=b:=by
 unfold cv at c;split at c
 .cases c
 .split at c
  .cases c
  .omega
def IX:∀{l:List Int},dU l=0->∀e∈l,e=0
 |[],_=>λe c=>by cases c
 |a::l,d=>by
  unfold dU at d;split at d
  .rename_i j;exact absurd d j
  .rename_i h;have h:a=0:=by simpa using h
   intro e c;rcases aB.1 c with rfl|c
   .exact h
   .exact IX d e c
def LX {a b:UInt8} (c:(a.toNat:Int)=b.toNat):a=b:=UInt8.toNat_inj.1 (by omega)
mutual
def cmp_eq:∀a b:Rx,a8 a b=0->a=b
 |.mk w lo q l,.mk x y u n,c=>by rw [qS] at c;have c:=IX c;have d:=z9 (c _ (ov ..));have e:=LX (z9 (c _ (ec _ (ov ..))));have h:=LX (z9 (c _ (ec _ (ec _ (ov ..)))));have j:=Gc l n (c _ (ec _ (ec _ (ec _ (ov ..)))));simp only [Rx.k,Rx.lo,Rx.hi] at d e h;rw [d,e,h,j]
def Gc:∀l m:List Rx,cmpL l m=0->l=m
 |[],[],_=>rfl
 |[],_::_,c=>by unfold cmpL at c;cases c
 |_::_,[],c=>by unfold cmpL at c;cases c
 |a::l,b::m,c=>by
  unfold cmpL at c;split at c
  .rename_i e;exact absurd c e
  .rename_i d;rw [cmp_eq a b (by simpa using d),Gc l m c]
end
def Ac (a:Rx):a8 a a=0:=by have:=i7 a a;omega
def pc {a b:Rx}:(a8 a b==0)=true↔a=b:=⟨λc=>cmp_eq a b (eq_of_beq c),λc=>by subst c;rw [Ac];rfl⟩
def qT {a b:Rx}:a8 a b=0↔a=b:=⟨cmp_eq a b,λc=>by subst c;exact Ac a⟩
def Ab {a b:Rx}:(!(a8 a b==0))=true↔a≠b:=by rw [Bool.not_eq_true',<-ju,not_congr pc]
abbrev h4 (l:List Rx):Prop:=l.Pairwise λa b=>a8 a b<0
abbrev jY (l:List Rx):Prop:=l.Pairwise λa b=>a8 a b<=0
def h4.nodup {l:List Rx} (d:h4 l):l.Nodup:=List.nodup_iff_pairwise_ne.2 (d.imp λ{a b} e c=>by subst c;rw [Ac] at e;omega)
def h4.E2 {l:List Rx} (c:h4 l):jY l:=c.imp λ{a b} d=>by omega
def E3 {l m:List Rx} (d:jY l) (e:jY m) (c:l.Perm m):l=m:=List.Perm.eq_of_pairwise (λa b _ _ h j=>cmp_eq a b (by have:=i7 a b;omega)) d e c
def HL {l m:List Rx} (c:h4 l) (d:h4 m) (e:∀t,t∈l↔t∈m):l=m:=E3 c.E2 d.E2 ((List.perm_ext_iff_of_nodup c.nodup d.nodup).2 e)
def A1 (x:Rx):∀p:List Rx,(kI x p).Perm (x::p)
 |[]=>.refl _
 |c::p=>by
  unfold kI;split
  .exact ((A1 x p).cons c).trans (.swap x c p)
  .exact .refl _
def HO (x:Rx):∀{p:List Rx},p.Pairwise (λa b=>a8 b a<=0)->(kI x p).Pairwise λa b=>a8 b a<=0
 |[],_=>by unfold kI;simp
 |e::p,h=>by
  have d:=List.pairwise_cons.1 h;unfold kI;split
  .rename_i k;refine List.pairwise_cons.2 ⟨λt c=>?_,HO x d.2⟩;rcases aB.1 ((A1 x p).mem_iff.1 c) with rfl|c
   .omega
   .exact d.1 t c
  .rename_i k;have j:a8 e x<=0:=by have:=i7 x e;omega
   refine List.pairwise_cons.2 ⟨λt c=>?_,h⟩;rcases aB.1 c with rfl|c
   .exact j
   .exact (sT t e x).le (d.1 t c) j
def DP (l:List Rx):(jV l).Perm l:=by
 have:∀(l p:List Rx),(l.foldl (λp e=>kI e p) p).Perm (l++p):=by
  intro l;induction l with
  |nil=>intro p;exact .refl _
  |cons a l d=>
   intro p;rw [List.foldl_cons];exact (d _).trans (((A1 a p).append_left l).trans List.perm_middle)
 unfold jV;have c:=this l [];rw [fI] at c;exact (List.reverse_perm _).trans c
def DO (l:List Rx):jY (jV l):=by
 have:∀(l p:List Rx),p.Pairwise (λa b=>a8 b a<=0)->(l.foldl (λp e=>kI e p) p).Pairwise λa b=>a8 b a<=0:=by
  intro l;induction l with
  |nil=>intro p c;exact c
  |cons a l d=>intro p c;exact d _ (HO a c)
 unfold jV;exact List.pairwise_reverse.2 (this l [] .nil)
def T8 {l m:List Rx} (c:jY m) (d:m.Perm l):m=jV l:=E3 c (DO l) (d.trans (DP l).symm)
def Af {t:Rx}:∀{l:List Rx} {p:Rx},(t=p\/t∈jH p l)↔(t=p\/t∈l)
 |[],p=>by unfold jH;simp
 |d::l,p=>by
  unfold jH;split
  .rename_i c;have e:d=p:=pc.1 c;subst e;rw [Af,aB];constructor
   .rintro (c|c)<;>simp [c]
   .rintro (c|c|c)<;>simp [c]
  .rw [aB,aB];have:=Af (t:=t) (l:=l) (p:=d);constructor
   .rintro (c|c)
    .exact .inl c
    .exact .inr (this.1 c)
   .rintro (c|c)
    .exact .inl c
    .exact .inr (this.2 c)
def Ae:∀{l:List Rx} {p:Rx},jY (p::l)->h4 (p::jH p l)
 |[],p,_=>by unfold jH;simp
 |c::l,p,q=>by
  obtain ⟨u,j⟩:=List.pairwise_cons.1 q;unfold jH;split
  .rename_i h;have d:c=p:=pc.1 h;subst d;exact Ae j
  .rename_i h;have n:a8 p c<0:=by have w:=u c (by simp);have x:=i7 c p;have y:a8 c p≠0:=λd=>h (by rw [d];rfl);omega
   have k:=Ae j;refine List.pairwise_cons.2 ⟨λt e=>?_,k⟩;rcases aB.1 e with rfl|e
   .exact n
   .exact (sT p c t).lt n (by have:=(List.pairwise_cons.1 k).1 t e;omega)
def OY {l:List Rx} (c:jY l):h4 (pd l):=by
 cases l with
 |nil=>exact .nil
 |cons a l=>exact Ae c
def OZ {t:Rx} {l:List Rx}:t∈pd l↔t∈l:=by
 cases l with
 |nil=>exact Iff.rfl
 |cons a l=>show t∈a::jH a l↔_;rw [aB,aB];exact Af
def pX (l:List Rx):List Rx:=pd (jV l)
def DG (l:List Rx):h4 (pX l):=OY (DO l)
def DH {t:Rx} {l:List Rx}:t∈pX l↔t∈l:=by unfold pX;rw [OZ,(DP l).mem_iff]
def TY {l:List Rx} (c:h4 l):pX l=l:=HL (DG l) c λt=>DH
def kb (r:Rx):List Rx->List Rx
 |[]=>[r]
 |c::p=>if a8 c r<0 then c::kb r p else if a8 c r=0 then c::p else r::c::p
def Da {t r:Rx}:∀{p:List Rx},t∈kb r p↔t=r\/t∈p
 |[]=>by unfold kb;simp
 |h::p=>by
  unfold kb;split
  .rw [aB,Da,aB];constructor
   .rintro (c|c|c)<;>simp [c]
   .rintro (c|c|c)<;>simp [c]
  .split
   .rename_i e;have d:=cmp_eq h r e;subst d;simp
   .simp
def Jk {r:Rx}:∀{p:List Rx},h4 p->h4 (kb r p)
 |[],_=>by unfold kb;simp
 |e::p,d=>by
  obtain ⟨h,n⟩:=List.pairwise_cons.1 d;unfold kb;split
  .rename_i k;refine List.pairwise_cons.2 ⟨λt c=>?_,Jk n⟩;rcases Da.1 c with rfl|c
   .exact k
   .exact h t c
  .split
   .exact d
   .rename_i k q;have j:a8 r e<0:=by have:=i7 r e;omega
    refine List.pairwise_cons.2 ⟨λt c=>?_,d⟩;rcases aB.1 c with rfl|c
    .exact j
    .exact (sT r e t).lt j (by have:=h t c;omega)
def gA (k:Int):List Rx->List Rx->List Rx
 |out,[]=>out
 |out,t::l=>gA k (if k=3 then out++[t] else kb t out) l
def I1:∀(l out:List Rx),gA 3 out l=out++l
 |[],out=>by unfold gA;simp
 |t::l,out=>by unfold gA;rw [I1 l,aq rfl];simp
def I2 {k:Int} (d:k≠3):∀(l:List Rx) {out:List Rx},h4 out->h4 (gA k out l)
 |[],_,c=>c
 |t::l,out,c=>by unfold gA;rw [af d];exact I2 d l (Jk c)
def I3 {k:Int} (d:k≠3) {t:Rx}:∀(l:List Rx) {out:List Rx},t∈gA k out l↔t∈out\/t∈l
 |[],out=>by unfold gA;simp
 |a::l,out=>by
  unfold gA;rw [af d,I3 d l,Da,aB];constructor
  .rintro ((c|c)|c)<;>simp [c]
  .rintro (c|c|c)<;>simp [c]
def Sk (k:Int) (l:List Rx):gA k [] l=if k=3 then l else pX l:=by
 split
 .rename_i c;subst c;rw [I1];rfl
 .rename_i c;exact HL (I2 c l .nil) (DG l) λt=>by rw [I3 c,DH];simp
def ms (μ:Rx->Nat):List Rx->Nat
 |[]=>0
 |a::l=>μ a+ms μ l
section
variable {μ:Rx->Nat}
def Iq:∀l m:List Rx,ms μ (l++m)=ms μ l+ms μ m
 |[],m=>by simp [ms]
 |a::l,m=>by show μ a+ms μ (l++m)=μ a+ms μ l+ms μ m;rw [Iq l m];omega
def RD {l m:List Rx} (e:l.Perm m):ms μ l=ms μ m:=by
 induction e with
 |nil=>rfl
 |cons c _ k=>show μ c+_=μ c+_;rw [k]
 |swap c d l=>show μ d+(μ c+_)=μ c+(μ d+_);omega
 |trans _ _ h j=>rw [h,j]
end
mutual
def de:Rx->Nat|.mk _ _ _ l=>max 1 (wV l)
def wV:List Rx->Nat
 |[]=>0
 |a::l=>de a+wV l
end
def Ii:∀l:List Rx,wV l=ms de l
 |[]=>rfl
 |a::l=>by unfold wV;rw [Ii l];rfl
def oa (k:Int) (lo hi:UInt8) (l:List Rx):de (.mk k lo hi l)=max 1 (ms de l):=by unfold de;rw [Ii]
mutual
def m4 (N:Nat):Rx->Prop|.mk k _ _ l=>pn N l/\(k=4\/k=5->ms de l<=N)
def pn (N:Nat):List Rx->Prop
 |[]=>True
 |a::l=>m4 N a/\pn N l
end
mutual
def AE {N:Nat}:∀c:Rx,de c<=N->m4 N c
 |.mk h lo e l,d=>by rw [oa] at d;unfold m4;exact ⟨He l (by omega),λ_=>by omega⟩
def He {N:Nat}:∀l:List Rx,ms de l<=N->pn N l
 |[],_=>by unfold pn;trivial
 |a::l,c=>by have c:de a+ms de l<=N:=c;unfold pn;exact ⟨AE a (by omega),He l (by omega)⟩
end
set_option maxRecDepth 100000
set_option maxHeartbeats 2000000
namespace m8
noncomputable abbrev X:Fx:=⟨U,Tryz.f192,[],[]⟩
abbrev P0:Ps:=[(0,.v [.U]),(2,.v [.I])]
abbrev S2 (d e:Int) (w:I) (R:aa):Prop:=
 (0:Int)<=(ab .u8 d)/\∃c:UInt8,(ByteArray.mk #[0,1,2,2,3,3,3,3,4,4,4,4,4,4,4,4,5,5,5,5,5,5,5,5,5,5,5,5,5,5,5,5,6,6,6,6,6,6,6,6,6,6,6,6,6,6,6,6,6,6,6,6,6,6,6,6,6,6,6,6,6,6,6,6,7,7,7,7,7,7,7,7,7,7,7,7,7,7,7,7,7,7,7,7,7,7,7,7,7,7,7,7,7,7,7,7,7,7,7,7,7,7,7,7,7,7,7,7,7,7,7,7,7,7,7,7,7,7,7,7,7,7,7,7,7,7,7,7,8,8,8,8,8,8,8,8,8,8,8,8,8,8,8,8,8,8,8,8,8,8,8,8,8,8,8,8,8,8,8,8,8,8,8,8,8,8,8,8,8,8,8,8,8,8,8,8,8,8,8,8,8,8,8,8,8,8,8,8,8,8,8,8,8,8,8,8,8,8,8,8,8,8,8,8,8,8,8,8,8,8,8,8,8,8,8,8,8,8,8,8,8,8,8,8,8,8,8,8,8,8,8,8,8,8,8,8,8,8,8,8,8,8,8,8,8,8,8,8,8,8,8,8,8,8,8,8])[ag (ab .u8 d)]? =some c/\R (V (.i (ab .i64 (e+(ab .i64 ((c.toNat:Nat):Int)))))) w
noncomputable def bm:=aC X [] (ak [4]) P0 S2::[]
abbrev S1 (c d:Int) (w:I) (R:aa):Prop:=
 Y (ah (c>=256)) (S2 (Int.fdiv c (2^(8))) (ab .i64 (d+8)) w R) (S2 c d w R)
noncomputable def bg:=aC X bm (ak [3]) P0 S1::bm
abbrev S0 (c d:Int) (w:I) (R:aa):Prop:=
 Y (ah (c>=65536)) (S1 (Int.fdiv c (2^(16))) (ab .i64 (d+16)) w R) (S1 c d w R)
noncomputable def bf:=aC X bg (ak [2]) P0 S0::bg
def ok (c:Int) (w:I) (R:aa) (d:Y (ah (c>=4294967296)) (S0 (Int.fdiv c (2^(32))) 32 w R) (S0 c 0 w R)):ai U Iu #[.u c] w R:=aE X bf d
end m8
namespace Bi
noncomputable abbrev X:Fx:=⟨U,Tryz.f174,[],[]⟩
def ok (c:Int) (w:I) (R:aa) (d:di Iu #[.u c] w λe h=>R (V (.i e)) h):ai U tT #[.u c] w R:=aE X [] d
end Bi
namespace kP
noncomputable abbrev X:Fx:=⟨U,Tryz.f183,[(4,ls [0,1,2,3,4,5,6,7,8,9,10,11,12,13,14,15,16]),(6,ls [0,1,2,3,4,5,6,7,8,9,10,11,12,13,14,15,16,17])],[]⟩
abbrev P0:Ps:=[(0,.v [.s]),(1,.v [.I]),(2,.v [.I]),(3,.v [.g bj 0 0]),(8,.v [.I])]
def L0 (e:O) (c d h:Int) (w:I) (R:aa):Prop:=br P0 0 (X.Sem (ak [0,1,1])) e c d h w R
noncomputable def aZ:=bD X (ak [0,1,1]) P0 L0::[]
abbrev P1:Ps:=[(0,.v [.s]),(1,.v [.I]),(2,.v [.I]),(3,.v [.g bj 0 0]),(8,.v [.I]),(9,.v [.I])]
def L1 (e:O) (c d h j:Int) (w:I) (R:aa):Prop:=br P1 0 (X.Sem (ak [0,1,1,2,1,2,1])) e c d h j w R
noncomputable def cC:=bD X (ak [0,1,1,2,1,2,1]) P1 L1::aZ
abbrev S2 (e:O) (c d h:Int) (w:I) (R:aa):Prop:=
 L0 e c d (ab .i64 (h+1)) w R
noncomputable def bm:=aC X cC (ak [2,2,1]) P0 S2::cC
def fC:∀(d:O) (e h j c:Int) (w:I) (R:aa) (ac:bY w λk=>Y (ah (c>e)) (aw d c λu=>aV k (u.add (ag c *4)) λx y z A=>aw d (ab .i64 (c - 1)) λB=>aV k (B.add (ag (ab .i64 (c - 1)) *4)) λC D E F=>di bj #[.agg #[.i x,.int .u8 y,.int .u8 z,A.v],.agg #[.i C,.int .u8 D,.int .u8 E,F.v]] k λt32 q=>Y (ah (t32<0)) (bY q λn=>aw d (ab .i64 (c - 1)) λG=>aV n (G.add (ag (ab .i64 (c - 1)) *4)) λH J K L=>aw d c λM=>aV n (M.add (ag c *4)) λN P Q S=>aw d c λT=>cJ n (T.add (ag c *4)) (.i H) (.int .u8 J) (.int .u8 K) (L.v) λw7=>aw d (ab .i64 (c - 1)) λW=>cJ w7 (W.add (ag (ab .i64 (c - 1)) *4)) (.i N) (.int .u8 P) (.int .u8 Q) (S.v) λZ=>L1 d e h j (ab .i64 (c - 1)) Z R) (S2 d e h j q R)) (S2 d e h j k R)),L1 d e h j c w R:=mp (bF (X:=X) bm (ak [0,1,1,2,1,2,1]) P1)
def b5:∀(h:O) (e d c:Int) (w:I) (R:aa) (j:Y (ah (c<d)) (L1 h e d c c w R) (R (V (.tuple #[])) w)),L0 h e d c w R:=mp (bF (X:=X) bm (ak [0,1,1]) P0)
def ok (e:O) (c d:Int) (w:I) (R:aa) (h:L0 e c d (ab .i64 (c+1)) w R):ai U xE #[e.v,.i c,.i d,.func (.func bj) #[] #[]] w R:=aE X bm h
end kP
namespace KN
noncomputable abbrev X:Fx:=⟨U,Tryz.f201,[(1,ls [0,1,2,3,4,5,6,7,8,9,10])],[]⟩
def ok (e:O) (c d:Int) (h:Addr) (w:I) (R:aa) (n:bY w λj=>aw e d λq=>aV j (q.add (ag d *4)) λu x y z=>aw e c λA=>aV j (A.add (ag c *4)) λB C D E=>di bj #[.agg #[.i u,.int .u8 x,.int .u8 y,z.v],.agg #[.i B,.int .u8 C,.int .u8 D,E.v]] j λt21 k=>Y (ah (t21<0)) (∃t25:Int,k.cell? h=some (.i t25)/\
 av k h (.i (ab .i64 (t25+1))) λF=>
 R (V (.tuple #[.i d,.i c])) F) (R (V (.tuple #[.i c,.i d])) k)):ai U ud #[e.v,.i c,.i d,.pointer (some h),.func (.func bj) #[] #[]] w R:=aE X [] n
end KN
namespace KL
noncomputable abbrev X:Fx:=⟨U,Tryz.f200,[],[]⟩
def ok (c:O) (e h j:Int) (d:Addr) (w:I) (R:aa) (k:v5 ud #[c.v,.i e,.i h,.pointer (some d),.func (.func bj) #[] #[]] w λn q y=>v5 ud #[c.v,.i q,.i j,.pointer (some d),.func (.func bj) #[] #[]] y λu B z=>v5 ud #[c.v,.i n,.i u,.pointer (some d),.func (.func bj) #[] #[]] z λC x A=>R (V (.i x)) A):ai U xF #[c.v,.i e,.i h,.i j,.pointer (some d),.func (.func bj) #[] #[]] w R:=aE X [] k
end KL
namespace yx
noncomputable abbrev X:Fx:=⟨U,Tryz.f186,[],[]⟩
abbrev S5 (d:Addr) (c:Int) (w:I) (R:aa):Prop:=
 ∃t55:Int,w.cell? d=some (.i t55)/\
 Y (t55==0) (R (V (.tuple #[.i c,.i 1])) w) (Y (t55==12) (R (V (.tuple #[.i c,.i 2])) w) (R (V (.tuple #[.i c,.i 0])) w))
noncomputable def eY:=aC X [] (ak [7]) [(11,.v [.r]),(13,.v [.I])] S5::[]
abbrev S4 (d:O) (c:Addr) (e h j:Int) (w:I) (R:aa):Prop:=
 di xF #[d.v,.i e,.i h,.i j,.pointer (some c),.func (.func bj) #[] #[]] w λt54 k=>S5 c t54 k R
noncomputable def cZ:=aC X eY (ak [1,1,1,1,6]) [(0,.v [.s]),(3,.v [.g bj 0 0]),(11,.v [.r]),(12,.v [.I]),(13,.v [.I]),(14,.v [.I])] S4::eY
abbrev S3 (d:O) (k:Int) (c:Addr) (h e j:Int) (w:I) (R:aa):Prop:=
 Y (ah (k>=8)) (Y (ah (k>=50)) (di uc #[d.v,.i h,.pointer (some c),.func (.func bj) #[] #[]] w λt40 n=>di uc #[d.v,.i e,.pointer (some c),.func (.func bj) #[] #[]] n λt44 q=>di uc #[d.v,.i j,.pointer (some c),.func (.func bj) #[] #[]] q λt48 u=>S4 d c t40 t44 t48 u R) (S4 d c h e j w R)) (S5 c e w R)
noncomputable def bt:=aC X cZ (ak [6]) [(0,.v [.s]),(3,.v [.g bj 0 0]),(10,.v [.I]),(11,.v [.r]),(12,.v [.I]),(13,.v [.I]),(14,.v [.I])] S3::cZ
abbrev S2 (e:O) (d c:Int) (k:Addr) (h j:Int) (w:I) (R:aa):Prop:=
 S3 e c k h j (ab .i64 (d+(ab .i64 ((ab .i64 (cz c 4)) *3)))) w R
noncomputable def bm:=aC X bt (ak [5]) [(0,.v [.s]),(1,.v [.I]),(3,.v [.g bj 0 0]),(10,.v [.I]),(11,.v [.r]),(12,.v [.I]),(13,.v [.I])] S2::bt
abbrev S1 (e:O) (c d:Int) (j:Addr) (h:Int) (w:I) (R:aa):Prop:=
 S2 e c d j h (ab .i64 (c+(ab .i64 ((ab .i64 (cz d 4)) *2)))) w R
noncomputable def bg:=aC X bm (ak [4]) [(0,.v [.s]),(1,.v [.I]),(3,.v [.g bj 0 0]),(10,.v [.I]),(11,.v [.r]),(12,.v [.I])] S1::bm
abbrev S0 (e:O) (c d:Int) (w:I) (R:aa):Prop:=
 aN w (.cells #[.i 0] bX) λh=>
 S1 e c d (nb w) (ab .i64 (c+(ab .i64 ((ab .i64 (cz d 4)) *1)))) h R
noncomputable def bf:=aC X bg (ak [2]) [(0,.v [.s]),(1,.v [.I]),(3,.v [.g bj 0 0]),(10,.v [.I])] S0::bg
def ok (e:O) (c d:Int) (w:I) (R:aa) (h:S0 e c (ab .i64 (d - c)) w R):ai U Ca #[e.v,.i c,.i d,.func (.func bj) #[] #[]] w R:=aE X bf h
end yx
namespace iR
noncomputable abbrev X:Fx:=⟨U,Tryz.f188,[(5,ls [0,1,2,3,4,5,6,7,8,9,10,11,12,13,14,15,16,17]),(11,ls [0,1,2,3,4,5,6,7,8,9,10,11,12,13,14,15,16,17]),(16,ls [0,1,2,3,4,5,6,7,8,9,10,11,12]),(17,ls [0,1,2,3,4,5,6,7,8,9,10,11,12,13,14,15,16,17]),(22,ls [0,1,2,3,4,5,6,7,8,9,10,11,12]),(23,ls [0,1,2,3,4,5,6,7,8,9,10,11,12,13,14,15,16,17])],[]⟩
abbrev P0:Ps:=[(0,.v [.s]),(1,.v [.I]),(2,.v [.I]),(3,.v [.g bj 0 0]),(9,.v [.I]),(10,.v [.I])]
def L1 (e:O) (c d h j:Int) (w:I) (R:aa):Prop:=br P0 0 (X.Sem (ak [0,1,1,1,2])) e c d h j w R
noncomputable def cC:=bD X (ak [0,1,1,1,2]) P0 L1::[]
def L2 (e:O) (c d h j:Int) (w:I) (R:aa):Prop:=br P0 0 (X.Sem (ak [0,4,1,2,1,1,2])) e c d h j w R
noncomputable def hJ:=bD X (ak [0,4,1,2,1,1,2]) P0 L2::cC
abbrev P1:Ps:=[(0,.v [.s]),(1,.v [.I]),(2,.v [.I]),(3,.v [.g bj 0 0]),(9,.v [.I]),(10,.v [.I]),(11,.v [.I])]
def L4 (e:O) (c d h j k:Int) (w:I) (R:aa):Prop:=br P1 0 (X.Sem (ak [0,1,1,1,1,1,4,2,1,2,1,1,2])) e c d h j k w R
noncomputable def Ak:=bD X (ak [0,1,1,1,1,1,4,2,1,2,1,1,2]) P1 L4::hJ
abbrev P2:Ps:=[(0,.v [.s]),(1,.v [.I]),(2,.v [.I]),(3,.v [.g bj 0 0]),(9,.v [.I]),(10,.v [.I]),(12,.v [.I])]
def L6 (e:O) (c d h j k:Int) (w:I) (R:aa):Prop:=br P2 0 (X.Sem (ak [0,1,1,1,6,2,1,2,1,1,2])) e c d h j k w R
noncomputable def sY:=bD X (ak [0,1,1,1,6,2,1,2,1,1,2]) P2 L6::Ak
abbrev S7 (e:O) (c d h j:Int) (w:I) (R:aa):Prop:=
 L1 e c d h (ab .i64 (j+1)) w R
noncomputable def gG:=aC X sY (ak [2,2,1,1,2]) P0 S7::sY
def qz:∀(d:O) (h e j k c:Int) (w:I) (R:aa) (ad:Y (ah (c<e)) (bY w λn=>aw d c λx=>aV n (x.add (ag c *4)) λy z A B=>aw d (ab .i64 (c - 1)) λC=>aV n (C.add (ag (ab .i64 (c - 1)) *4)) λD E F G=>di bj #[.agg #[.i y,.int .u8 z,.int .u8 A,B.v],.agg #[.i D,.int .u8 E,.int .u8 F,G.v]] n λt122 u=>Y (!(ah (t122<0))) (S7 d h e j k u R) (bY u λq=>aw d (ab .i64 (c - 1)) λH=>aV q (H.add (ag (ab .i64 (c - 1)) *4)) λJ K L M=>aw d c λN=>aV q (N.add (ag c *4)) λP Q S T=>aw d c λW=>cJ q (W.add (ag c *4)) (.i J) (.int .u8 K) (.int .u8 L) (M.v) λw7=>aw d (ab .i64 (c - 1)) λZ=>cJ w7 (Z.add (ag (ab .i64 (c - 1)) *4)) (.i P) (.int .u8 Q) (.int .u8 S) (T.v) λac=>L6 d h e j k (ab .i64 (c+1)) ac R)) (S7 d h e j k w R)),L6 d h e j k c w R:=mp (bF (X:=X) gG (ak [0,1,1,1,6,2,1,2,1,1,2]) P2)
abbrev S5 (h:O) (e d c j:Int) (w:I) (R:aa):Prop:=
 Y (ah ((ab .i64 (d - c))>=2)) (L6 h e d c j (ab .i64 (c+1)) w R) (S7 h e d c j w R)
noncomputable def eY:=aC X gG (ak [5,2,1,2,1,1,2]) P0 S5::gG
def vz:∀(d:O) (e h j k c:Int) (w:I) (R:aa) (ae:Y (ah (c>=1)) (bY w λn=>aw d c λy=>aV n (y.add (ag c *4)) λz A B C=>aw d (ab .i64 (c - 1)) λD=>aV n (D.add (ag (ab .i64 (c - 1)) *4)) λE F G H=>di bj #[.agg #[.i z,.int .u8 A,.int .u8 B,C.v],.agg #[.i E,.int .u8 F,.int .u8 G,H.v]] n λt82 u=>Y (!(ah (t82<0))) (S5 d e h j k u R) (bY u λq=>aw d (ab .i64 (c - 1)) λJ=>aV q (J.add (ag (ab .i64 (c - 1)) *4)) λK L M N=>aw d c λP=>aV q (P.add (ag c *4)) λQ S T W=>aw d c λZ=>cJ q (Z.add (ag c *4)) (.i K) (.int .u8 L) (.int .u8 M) (N.v) λac=>aw d (ab .i64 (c - 1)) λx=>cJ ac (x.add (ag (ab .i64 (c - 1)) *4)) (.i Q) (.int .u8 S) (.int .u8 T) (W.v) λad=>L4 d e h j k (ab .i64 (c - 1)) ad R)) (S5 d e h j k w R)),L4 d e h j k c w R:=mp (bF (X:=X) eY (ak [0,1,1,1,1,1,4,2,1,2,1,1,2]) P1)
abbrev S3 (d:O) (e h c k:Int) (w:I) (R:aa):Prop:=
 Y (c==h) (R (V (.bool true)) w) (Y (ah ((ab .i64 (h - e))<50)) (R (V (.bool false)) w) (bY w λj=>aw d (ab .i64 (c - 1)) λq=>aV j (q.add (ag (ab .i64 (c - 1)) *4)) λu x y z=>aw d c λA=>aV j (A.add (ag c *4)) λB C D E=>aw d c λF=>cJ j (F.add (ag c *4)) (.i u) (.int .u8 x) (.int .u8 y) (z.v) λH=>aw d (ab .i64 (c - 1)) λG=>cJ H (G.add (ag (ab .i64 (c - 1)) *4)) (.i B) (.int .u8 C) (.int .u8 D) (E.v) λn=>Y (ah ((ab .i64 (c - e))>=2)) (L4 d e h c k (ab .i64 (c - 1)) n R) (S5 d e h c k n R)))
noncomputable def bt:=aC X eY (ak [1,2,1,2,1,1,2]) P0 S3::eY
def mO:∀(d:O) (h e c j:Int) (w:I) (R:aa) (F:bY w λk=>Y (ah (c<e)) (aw d c λq=>aV k (q.add (ag c *4)) λu x y z=>aw d (ab .i64 (c - 1)) λA=>aV k (A.add (ag (ab .i64 (c - 1)) *4)) λB C D E=>di bj #[.agg #[.i u,.int .u8 x,.int .u8 y,z.v],.agg #[.i B,.int .u8 C,.int .u8 D,E.v]] k λt33 n=>Y (!(ah (t33<0))) (L2 d h e (ab .i64 (c+1)) j n R) (S3 d h e c j n R)) (S3 d h e c j k R)),L2 d h e c j w R:=mp (bF (X:=X) bt (ak [0,4,1,2,1,1,2]) P0)
def fC:∀(h:O) (d e j c:Int) (w:I) (R:aa) (k:Y (ah (c<5)) (L2 h d e j c w R) (R (V (.bool false)) w)),L1 h d e j c w R:=mp (bF (X:=X) bt (ak [0,1,1,1,2]) P0)
abbrev S0 (e:O) (c d h:Int) (w:I) (R:aa):Prop:=
 L1 e c d h 0 w R
noncomputable def bf:=aC X bt (ak [2]) [(0,.v [.s]),(1,.v [.I]),(2,.v [.I]),(3,.v [.g bj 0 0]),(9,.v [.I])] S0::bt
def ok (e:O) (c d:Int) (w:I) (R:aa) (h:S0 e c d (ab .i64 (c+1)) w R):ai U Cc #[e.v,.i c,.i d,.func (.func bj) #[] #[]] w R:=aE X bf h
end iR
namespace iS
noncomputable abbrev X:Fx:=⟨U,Tryz.f190,[(1,ls [0,1,2,3,4,5,6,7,8,9,10,11,12,13,14,15]),(3,ls [0,1,2,3,4,5,6,7,8,9,10,11,12,13,14,15]),(5,ls [0,1,2,3,4,5,6,7,8,9,10,11,12,13,14,15,16]),(8,ls [0,1,2,3,4,5,6,7,8,9,10,11,12,13,14,15]),(10,ls [0,1,2,3,4,5,6,7,8,9,10,11,12,13,14,15]),(13,ls [0,1,2,3,4,5,6,7,8,9,10,11,12,13,14,15]),(15,ls [0,1,2,3,4,5,6,7,8,9,10,11,12,13,14,15,16]),(18,ls [0,1,2,3,4,5,6,7,8,9,10,11,12,13,14,15]),(21,ls [0,1,2,3,4,5,6,7,8,9,10,11,12,13,14,15])],[]⟩
abbrev P0:Ps:=[(0,.v [.s]),(1,.v [.I]),(4,.v [.g bj 0 0]),(12,.v [.I]),(13,.v [.I])]
def L0 (d:O) (c e h:Int) (w:I) (R:aa):Prop:=br P0 0 (X.Sem (ak [0,2,3])) d c e h w R
noncomputable def aZ:=bD X (ak [0,2,3]) P0 L0::[]
def L1 (d:O) (c e h:Int) (w:I) (R:aa):Prop:=br P0 0 (X.Sem (ak [0,2,4])) d c e h w R
noncomputable def cC:=bD X (ak [0,2,4]) P0 L1::aZ
def L4 (d:O) (c e h:Int) (w:I) (R:aa):Prop:=br P0 0 (X.Sem (ak [0,2,9])) d c e h w R
noncomputable def Ak:=bD X (ak [0,2,9]) P0 L4::cC
def L5 (d:O) (c e h:Int) (w:I) (R:aa):Prop:=br P0 0 (X.Sem (ak [0,6,9])) d c e h w R
noncomputable def lh:=bD X (ak [0,6,9]) P0 L5::Ak
def L6 (d:O) (c e h:Int) (w:I) (R:aa):Prop:=br P0 0 (X.Sem (ak [0,2,1,4,9])) d c e h w R
noncomputable def sY:=bD X (ak [0,2,1,4,9]) P0 L6::lh
abbrev S8 (d:O) (c e h:Int) (w:I) (R:aa):Prop:=
 L4 d c e (ab .i64 (h - 1)) w R
noncomputable def lj:=aC X sY (ak [5,4,9]) P0 S8::sY
abbrev S7 (d:O) (h e c:Int) (w:I) (R:aa):Prop:=
 Y (ah (e>c)) (bY w λj=>aw d h λG=>aV j (G.add (ag h *4)) λH J K L=>aw d c λM=>aV j (M.add (ag c *4)) λN P Q S=>aw d c λT=>cJ j (T.add (ag c *4)) (.i H) (.int .u8 J) (.int .u8 K) (L.v) λw5=>aw d h λW=>cJ w5 (W.add (ag h *4)) (.i N) (.int .u8 P) (.int .u8 Q) (S.v) λw9=>R (V (.tuple #[.i c,.bool false])) w9) (bY w λk=>aw d c λn=>aV k (n.add (ag c *4)) λq u x y=>aw d e λz=>aV k (z.add (ag e *4)) λA B C D=>aw d e λE=>cJ k (E.add (ag e *4)) (.i q) (.int .u8 u) (.int .u8 x) (y.v) λZ=>aw d c λF=>cJ Z (F.add (ag c *4)) (.i A) (.int .u8 B) (.int .u8 C) (D.v) λac=>S8 d h (ab .i64 (e+1)) c ac R)
noncomputable def gG:=aC X lj (ak [2,4,9]) P0 S7::lj
def qz:∀(e:O) (d h c:Int) (w:I) (R:aa) (E:bY w λj=>Y (ah (h<=c)) (aw e c λn=>aV j (n.add (ag c *4)) λq u x y=>aw e d λz=>aV j (z.add (ag d *4)) λA B C D=>di bj #[.agg #[.i q,.int .u8 u,.int .u8 x,y.v],.agg #[.i A,.int .u8 B,.int .u8 C,D.v]] j λt136 k=>Y (!(ah (t136<0))) (L6 e d h (ab .i64 (c - 1)) k R) (S7 e d h c k R)) (S7 e d h c j R)),L6 e d h c w R:=mp (bF (X:=X) gG (ak [0,2,1,4,9]) P0)
def MO:∀(e:O) (d c h:Int) (w:I) (R:aa) (E:bY w λj=>Y (ah (c<=h)) (aw e c λn=>aV j (n.add (ag c *4)) λq u x y=>aw e d λz=>aV j (z.add (ag d *4)) λA B C D=>di bj #[.agg #[.i q,.int .u8 u,.int .u8 x,y.v],.agg #[.i A,.int .u8 B,.int .u8 C,D.v]] j λt118 k=>Y (ah (t118<0)) (L5 e d (ab .i64 (c+1)) h k R) (L6 e d c h k R)) (L6 e d c h j R)),L5 e d c h w R:=mp (bF (X:=X) gG (ak [0,6,9]) P0)
def vz:∀(d:O) (c e h:Int) (w:I) (R:aa) (j:L5 d c e h w R),L4 d c e h w R:=mp (bF (X:=X) gG (ak [0,2,9]) P0)
abbrev S3 (d:O) (c e h:Int) (w:I) (R:aa):Prop:=
 L4 d c e (ab .i64 (h - 1)) w R
noncomputable def bt:=aC X gG (ak [8]) P0 S3::gG
abbrev S2 (d:O) (h e c:Int) (w:I) (R:aa):Prop:=
 Y (ah (e>c)) (bY w λj=>aw d h λq=>aV j (q.add (ag h *4)) λu x y z=>aw d c λA=>aV j (A.add (ag c *4)) λB C D E=>aw d c λF=>cJ j (F.add (ag c *4)) (.i u) (.int .u8 x) (.int .u8 y) (z.v) λw5=>aw d h λG=>cJ w5 (G.add (ag h *4)) (.i B) (.int .u8 C) (.int .u8 D) (E.v) λw9=>R (V (.tuple #[.i c,.bool true])) w9) (bY w λk=>aw d c λH=>aV k (H.add (ag c *4)) λJ K L M=>aw d e λN=>aV k (N.add (ag e *4)) λP Q S T=>aw d e λW=>cJ k (W.add (ag e *4)) (.i J) (.int .u8 K) (.int .u8 L) (M.v) λZ=>aw d c λn=>cJ Z (n.add (ag c *4)) (.i P) (.int .u8 Q) (.int .u8 S) (T.v) λac=>S3 d h (ab .i64 (e+1)) c ac R)
noncomputable def bm:=aC X bt (ak [5]) P0 S2::bt
def fC:∀(e:O) (d h c:Int) (w:I) (R:aa) (E:bY w λj=>Y (ah (h<=c)) (aw e c λn=>aV j (n.add (ag c *4)) λq u x y=>aw e d λz=>aV j (z.add (ag d *4)) λA B C D=>di bj #[.agg #[.i q,.int .u8 u,.int .u8 x,y.v],.agg #[.i A,.int .u8 B,.int .u8 C,D.v]] j λt63 k=>Y (!(ah (t63<0))) (L1 e d h (ab .i64 (c - 1)) k R) (S2 e d h c k R)) (S2 e d h c j R)),L1 e d h c w R:=mp (bF (X:=X) bm (ak [0,2,4]) P0)
def b5:∀(e:O) (d c h:Int) (w:I) (R:aa) (E:bY w λj=>Y (ah (c<=h)) (aw e c λn=>aV j (n.add (ag c *4)) λq u x y=>aw e d λz=>aV j (z.add (ag d *4)) λA B C D=>di bj #[.agg #[.i q,.int .u8 u,.int .u8 x,y.v],.agg #[.i A,.int .u8 B,.int .u8 C,D.v]] j λt45 k=>Y (ah (t45<0)) (L0 e d (ab .i64 (c+1)) h k R) (L1 e d c h k R)) (L1 e d c h j R)),L0 e d c h w R:=mp (bF (X:=X) bm (ak [0,2,3]) P0)
def ok (d:O) (c j e:Int) (w:I) (R:aa) (k:bY w λh=>aw d e λn=>aV h (n.add (ag e *4)) λq u x y=>aw d c λz=>aV h (z.add (ag c *4)) λA B C D=>aw d c λE=>cJ h (E.add (ag c *4)) (.i q) (.int .u8 u) (.int .u8 x) (y.v) λG=>aw d e λF=>cJ G (F.add (ag e *4)) (.i A) (.int .u8 B) (.int .u8 C) (D.v) λH=>L0 d c (ab .i64 (c+1)) (ab .i64 (j - 1)) H R):ai U Cd #[d.v,.i c,.i j,.i e,.func (.func bj) #[] #[]] w R:=aE X bm k
end iS
namespace my
noncomputable abbrev X:Fx:=⟨U,Tryz.f173,[(17,ls [0,1,2,3,4,5,6,7,8,9,10,11,12,13,14,15,16])],[]⟩
abbrev P0:Ps:=[(0,.v [.s]),(1,.v [.I]),(2,.v [.I]),(3,.v [.I]),(4,.v [.g bj 0 0]),(10,.v [.b]),(11,.v [.b])]
def L0 (e:O) (c d h:Int) (j k:Bool) (w:I) (R:aa):Prop:=br P0 0 (X.Sem (ak [0,1,2])) e c d h j k w R
noncomputable def aZ:=bD X (ak [0,1,2]) P0 L0::[]
abbrev P1:Ps:=[(0,.v [.s]),(1,.v [.I]),(2,.v [.I]),(3,.v [.I]),(4,.v [.g bj 0 0]),(10,.v [.b]),(11,.v [.b]),(16,.v [.I])]
abbrev S9 (c:O) (h j d:Int) (n q:Bool) (e:Int) (w:I) (R:aa):Prop:=
 eX xH #[c.v,.i h,.i e,.i d,.func (.func bj) #[] #[]] w λk=>L0 c (ab .i64 (e+1)) j d n q k R
noncomputable def we:=aC X aZ (ak [1,1,13,3,2]) P1 S9::aZ
abbrev qG (c:O) (h j d:Int) (n q:Bool) (e:Int) (w:I) (R:aa):Prop:=
 eX xH #[c.v,.i (ab .i64 (e+1)),.i j,.i d,.func (.func bj) #[] #[]] w λk=>L0 c h e d n q k R
noncomputable def Gp:=aC X we (ak [15,3,2]) P1 qG::we
abbrev S8 (h:O) (c d k:Int) (u:Bool) (n j q e:Int) (w:I) (R:aa):Prop:=
 Y (ah (j<q)) (S9 h c d k (ah (j>=e)) u n w R) (qG h c d k (ah (q>=e)) u n w R)
noncomputable def lj:=aC X Gp (ak [12,3,2]) [(0,.v [.s]),(1,.v [.I]),(2,.v [.I]),(3,.v [.I]),(4,.v [.g bj 0 0]),(11,.v [.b]),(16,.v [.I]),(18,.v [.I]),(19,.v [.I]),(20,.v [.I])] S8::Gp
abbrev S7 (e:O) (c d k:Int) (u:Bool) (j n h q:Int) (w:I) (R:aa):Prop:=
 S8 e c d k u n h q (ab .i64 (cz j 8)) w R
noncomputable def gG:=aC X lj (ak [11,3,2]) [(0,.v [.s]),(1,.v [.I]),(2,.v [.I]),(3,.v [.I]),(4,.v [.g bj 0 0]),(11,.v [.b]),(12,.v [.I]),(16,.v [.I]),(18,.v [.I]),(19,.v [.I])] S7::lj
abbrev S6 (h:O) (c d k j n:Int) (w:I) (R:aa):Prop:=
 OH Cd #[h.v,.i c,.i d,.i n,.func (.func bj) #[] #[]] w λe q u=>S7 h c d k q j e (ab .i64 (e - c)) (ab .i64 (d - e)) u R
noncomputable def hh:=aC X gG (ak [8,3,2]) [(0,.v [.s]),(1,.v [.I]),(2,.v [.I]),(3,.v [.I]),(4,.v [.g bj 0 0]),(12,.v [.I]),(13,.v [.I])] S6::gG
abbrev P5:Ps:=[(0,.v [.s]),(1,.v [.I]),(2,.v [.I]),(3,.v [.I]),(4,.v [.g bj 0 0]),(10,.v [.b]),(11,.v [.b]),(12,.v [.I]),(13,.v [.I])]
abbrev S5 (d:O) (c h k:Int) (H J:Bool) (n e:Int) (w:I) (R:aa):Prop:=
 bY w λj=>Y (ah (c>0)) (aw d (ab .i64 (c - 1)) λu=>aV j (u.add (ag (ab .i64 (c - 1)) *4)) λx y z A=>aw d e λB=>aV j (B.add (ag e *4)) λC D E F=>di bj #[.agg #[.i x,.int .u8 y,.int .u8 z,A.v],.agg #[.i C,.int .u8 D,.int .u8 E,F.v]] j λt94 q=>Y (!(ah (t94<0))) (di Ce #[d.v,.i c,.i h,.i e,.func (.func bj) #[] #[]] q λt103 G=>L0 d t103 h k H J G R) (S6 d c h k n e q R)) (S6 d c h k n e j R)
noncomputable def eY:=aC X hh (ak [7,3,2]) P5 S5::hh
abbrev S4 (e:O) (c d n:Int) (h j:Bool) (k q x:Int) (w:I) (R:aa):Prop:=
 Y h (Y j (Y (x==1) (gk Cc #[e.v,.i c,.i d,.func (.func bj) #[] #[]] w λt80 u=>Y t80 (R (V (.tuple #[])) u) (S5 e c d n h j k q u R)) (S5 e c d n h j k q w R)) (S5 e c d n h j k q w R)) (S5 e c d n h j k q w R)
noncomputable def cZ:=aC X eY (ak [6,3,2]) [(0,.v [.s]),(1,.v [.I]),(2,.v [.I]),(3,.v [.I]),(4,.v [.g bj 0 0]),(10,.v [.b]),(11,.v [.b]),(12,.v [.I]),(13,.v [.I]),(14,.v [.I])] S4::eY
abbrev S3 (e:O) (c d j:Int) (n q:Bool) (h k:Int) (w:I) (R:aa):Prop:=
 S4 e c d j n q h k 1 w R
noncomputable def bt:=aC X cZ (ak [2,1,1,1,5,3,2]) P5 S3::cZ
abbrev P7:Ps:=[(0,.v [.s]),(1,.v [.I]),(2,.v [.I]),(3,.v [.I]),(4,.v [.g bj 0 0]),(10,.v [.b]),(11,.v [.b]),(12,.v [.I])]
abbrev S2 (e:O) (c d j:Int) (u x:Bool) (h:Int) (w:I) (R:aa):Prop:=
 v5 Ca #[e.v,.i c,.i d,.func (.func bj) #[] #[]] w λk n q=>Y (n==2) (eX Cf #[e.v,.i c,.i d,.func (.func bj) #[] #[]] q λy=>S3 e c d j u x h (ab .i64 ((ab .i64 (d - 1)) - (ab .i64 (k - c)))) y R) (S4 e c d j u x h k n q R)
noncomputable def bm:=aC X bt (ak [4,3,2]) P7 S2::bt
abbrev S1 (e:O) (c d j:Int) (k n:Bool) (h:Int) (w:I) (R:aa):Prop:=
 Y (ah (h<=12)) (eX xE #[e.v,.i c,.i d,.func (.func bj) #[] #[]] w λq=>R (V (.tuple #[])) q) (Y (j==0) (eX Cb #[e.v,.i c,.i d,.func (.func bj) #[] #[]] w λu=>R (V (.tuple #[])) u) (Y (!k) (eX B' #[e.v,.i c,.i d,.func (.func bj) #[] #[]] w λx=>S2 e c d (ab .i64 (j - 1)) k n h x R) (S2 e c d j k n h w R)))
noncomputable def bg:=aC X bm (ak [1,3,2]) P7 S1::bm
def b5:∀(e:O) (c d h:Int) (j k:Bool) (w:I) (R:aa) (n:S1 e c d h j k (ab .i64 (d - c)) w R),L0 e c d h j k w R:=mp (bF (X:=X) bg (ak [0,1,2]) P0)
def ok (e:O) (c d h:Int) (w:I) (R:aa) (j:L0 e c d h true true w R):ai U xH #[e.v,.i c,.i d,.i h,.func (.func bj) #[] #[]] w R:=aE X bg j
end my
namespace KJ
noncomputable abbrev X:Fx:=⟨U,Tryz.f159,[],[]⟩
def ok (c:O) (w:I) (R:aa) (d:di tT #[.u (ab .u64 ((c.n:Nat):Int))] w λt11 e=>eX xH #[c.v,.i 0,.i ((c.n:Nat):Int),.i t11,.func (.func bj) #[] #[]] e λh=>R (V (.tuple #[])) h):ai U B9 #[c.v,.func (.func bj) #[] #[]] w R:=aE X [] d
end KJ
def gK (x:J):List J->List J
 |[]=>[x]
 |c::p=>if a8 x.rx c.rx<0 then c::gK x p else x::c::p
def fO (l:List J):List J:=(l.foldl (λp c=>gK c p) []).reverse
def A0 (x:J):∀p,(gK x p).length=p.length+1
 |[]=>rfl
 |c::p=>by
  unfold gK;split
  .simp [A0 x p]
  .simp
def T7 (l:List J) (x:J):fO (l++[x])=(gK x (fO l).reverse).reverse:=by unfold fO;rw [List.foldl_append,List.reverse_reverse];rfl
def HM {x t:J}:∀{p:List J},t∈gK x p↔t=x\/t∈p
 |[]=>by unfold gK;simp
 |d::p=>by
  unfold gK;split
  .rw [aB,HM,aB];constructor
   .rintro (c|c|c)<;>simp [c]
   .rintro (c|c|c)<;>simp [c]
  .simp
def T5 {t:J} {l:List J}:t∈fO l↔t∈l:=by
 have:∀(l p:List J),t∈l.foldl (λp e=>gK e p) p↔t∈l\/t∈p:=by
  intro l;induction l with
  |nil=>intro p;simp
  |cons a l d=>
   intro p;rw [List.foldl_cons,d,HM,aB];constructor
   .rintro (c|c|c)<;>simp [c]
   .rintro ((c|c)|c)<;>simp [c]
 unfold fO;rw [List.mem_reverse,this];simp
def KR (l:List J):(fO l).length=l.length:=by
 have:∀(l p:List J),(l.foldl (λp d=>gK d p) p).length=l.length+p.length:=by
  intro l;induction l with
  |nil=>intro p;simp
  |cons a l c=>
   intro p;rw [List.foldl_cons,c,A0,List.length_cons];omega
 unfold fO;rw [Dd,this];rfl
def HP (x:J):∀p:List J,(gK x p).map J.rx=kI x.rx (p.map J.rx)
 |[]=>rfl
 |c::p=>by
  unfold gK;rw [kf];unfold kI;split
  .rw [kf,HP x p]
  .rfl
def T' (l:List J):(fO l).map J.rx=jV (l.map J.rx):=by
 have:∀(l p:List J),(l.foldl (λp c=>gK c p) p).map J.rx=(l.map J.rx).foldl (λp c=>kI c p) (p.map J.rx):=by
  intro l;induction l with
  |nil=>intro p;rfl
  |cons a l d=>
   intro p;rw [List.foldl_cons,d,HP];rfl
 unfold fO jV;rw [List.map_reverse,this];rfl
def HN (x:J):∀p:List J,(gK x p).Perm (x::p)
 |[]=>.refl _
 |c::p=>by
  unfold gK;split
  .exact ((HN x p).cons c).trans (.swap x c p)
  .exact .refl _
def T6 (l:List J):(fO l).Perm l:=by
 have:∀(l p:List J),(l.foldl (λp e=>gK e p) p).Perm (l++p):=by
  intro l;induction l with
  |nil=>intro p;exact .refl _
  |cons a l d=>
   intro p;rw [List.foldl_cons];exact (d _).trans (((HN a p).append_left l).trans List.perm_middle)
 unfold fO;have c:=this l [];rw [fI] at c;exact (List.reverse_perm _).trans c
def T4 (l:List J):jY ((fO l).map J.rx):=by rw [T'];exact DO _
def D0 {l m:List J} (e:l.Perm m):J.aU l=J.aU m:=by
 induction e with
 |nil=>rfl
 |cons c _ k=>show c.sz+_=c.sz+_;rw [k]
 |swap c d l=>show d.sz+(c.sz+_)=c.sz+(d.sz+_);omega
 |trans _ _ h j=>rw [h,j]
def Uy {α:Type} (A B:List α) (y x:α) (j:Nat) (c:j=A.length+1):((A++y::x::B).set j y).set (j - 1) x=A++x::y::B:=by subst c;rw [List.set_append_right _ _ (by omega),Nat.add_sub_cancel,List.set_append_right _ _ (by omega)];simp
def N7 (s:O) (l:List J) (w:I) (hl:J.aU l<=1000000) (ho:aS w aK 4 s (l.flatMap J.c)) (pl:J.Ps w l) (hd:∀e∈ay s,e∉J.a' l) (A X Z:List J) (n:l=A++X++Z) (b:Nat) (hb:b=A.length+X.length):
  ai U xE #[s.v,.i (A.length:Int),.i (b:Int),.func (.func bj) #[] #[]] w λr C=>(r=V (.tuple #[])/\aS C aK 4 s ((A++fO X++Z).flatMap J.c))/\Fr (·∈ay s) w C:=by
 have ll:=J.fi l;have lX:A.length+X.length+Z.length=l.length:=by rw [n];simp [Nat.add_assoc]
 have L:LH (·∈ay s) w w [.row aK 4 s (l.flatMap J.c)] [.trees l]:=wP _ ho (by intro am n;simp only [aB,a1,a7] at n;subst n;exact ⟨pl,λe K hm=>hd e K (aT.1 hm)⟩)
 have kt:∀t∈l,t.sz<=1000000:=λt q=>bH (J.dV q) hl;have mA:∀t∈X,t∈l:=λt q=>by rw [n];simp [q]
 let F:aa:=λr C=>(r=V (.tuple #[])/\aS C aK 4 s ((A++fO X++Z).flatMap J.c))/\Fr (·∈ay s) w C
 have outer:∀(d i:Nat) (D:I),A.length+i+d=b->LH (·∈ay s) w D [.row aK 4 s ((A++fO (X.take i)++(X.drop i++Z)).flatMap J.c)] [.trees l]->
   kP.L0 s (A.length:Int) (b:Int) ((A.length+i:Nat):Int) D F:=by
  intro d;induction d with
  |zero=>
   intro i D hi x;refine kP.b5 _ _ _ _ _ _ (a9 (a0 (by omega)) ⟨⟨rfl,?_⟩,x.fr⟩);have:=x.get 0;rw [e1 (by omega),dt (by omega),List.nil_append] at this;exact this
  |succ d ak=>
   intro i D hi x;refine kP.b5 _ _ _ _ _ _ (bd (aW (by omega)) ?_);have W:X[i]? =some (X[i]'(by omega)):=bc (by omega);have ac:=dq (l:=X) (i:=i) (by omega);generalize X[i]'(by omega)=e at W ac;have hS:fO (X.take (i+1))=(gK e (fO (X.take i)).reverse).reverse:=by rw [gC,W,Option.toList_some,T7]
   have K:e∈l:=mA e (aI W);have next:∀(j:I),LH (·∈ay s) w j [.row aK 4 s ((A++fO (X.take (i+1))++(X.drop (i+1)++Z)).flatMap J.c)] [.trees l]->kP.S2 s (A.length:Int) (b:Int) ((A.length+i:Nat):Int) j F:=by intro j u;show kP.L0 _ _ _ _ _ _;rw [bw _ (by omega)];exact ak (i+1) j (by omega) u
   have inner:∀(p:Nat) (P Q:List J) (j:I),P.length=p->(gK e P.reverse).reverse++Q=fO (X.take (i+1))->(∀t∈P,t∈l)->LH (·∈ay s) w j [.row aK 4 s ((A++P++e::(Q++(X.drop (i+1)++Z))).flatMap J.c)] [.trees l]->
     kP.L1 s (A.length:Int) (b:Int) ((A.length+i:Nat):Int) ((A.length+p:Nat):Int) j F:=by
    intro p;induction p with
    |zero=>
     intro P Q j z B S u;have:P=[]:=List.length_eq_zero_iff.1 z;subst this;refine kP.fC _ _ _ _ _ _ _ (u.dr λE k=>a9 (a0 (by omega)) (next E ?_));have aj:e::Q=fO (X.take (i+1)):=B;rw [<-aj];simpa using k
    |succ p al=>
     intro P Q j z B S u;obtain ⟨h,y,rfl⟩:∃h y,P=h++[y]:=⟨P.dropLast,P.getLast (λae=>by rw [ae] at z;cases z),(List.dropLast_concat_getLast _).symm⟩;have ad:h.length=p:=by simpa using z
     have hy:y∈l:=S y (by simp);have eA:A++(h++[y])++e::(Q++(X.drop (i+1)++Z))=(A++h)++y::e::(Q++(X.drop (i+1)++Z)):=by simp
     rw [eA] at u;have Y:(A++h).length=A.length+p:=by simp [ad]
     have gy:((A++h)++y::e::(Q++(X.drop (i+1)++Z)))[A.length+p]? =some y:=by rw [<-Y,List.getElem?_append_right (bB _)];simp
     have N:((A++h)++y::e::(Q++(X.drop (i+1)++Z)))[A.length+(p+1)]? =some e:=by rw [<-Nat.add_assoc,<-Y,List.getElem?_append_right (Nat.le_succ _)];simp
     have hlen:((A++h)++y::e::(Q++(X.drop (i+1)++Z))).length<=1000000:=by have h1:=congrArg List.length B;rw [KR,List.length_append,Dd,A0,Dd] at h1;simp only [List.length_append,List.length_cons,dL,List.length_drop,List.length_nil] at h1 ⊢;omega
     have ah:=(cD.1 N).1;have G:ab .i64 (((A.length+(p+1):Nat):Int) - 1)=((A.length+p:Nat):Int):=by rw [AX (by omega) (by omega)];rfl
     have H:gK e (h++[y]).reverse=if a8 e.rx y.rx<0 then y::gK e h.reverse else e::y::h.reverse:=by rw [List.reverse_append];rfl
     refine kP.fC _ _ _ _ _ _ _ (u.dr λE k=>bd (aW (by omega)) ?_);refine k.el 0 (A.length+(p+1)) rfl N (k.el 0 (A.length+p) G gy ?_);refine k.call (vT e y E (kt e K) ((show J.Ps E l from k.getD 0).mem K) ((show J.Ps E l from k.getD 0).mem hy)) ?_;rintro _ w4 rfl H4;refine ⟨_,rfl,aR (λT=>H4.dr λw5 M=>?_) (λT=>next w4 ?_)⟩
     .refine M.el 0 (A.length+p) G gy (M.el 0 (A.length+(p+1)) rfl N (M.sZ 0 (A.length+(p+1)) (t:=y) rfl ah λw6 H6=>?_));refine H6.sZ 0 (A.length+p) (t:=e) (ts:=((A++h)++y::e::(Q++(X.drop (i+1)++Z))).set (A.length+(p+1)) y) G (by rw [List.length_set];omega) λw7 H7=>?_;rw [G];rw [aq T] at H;refine al h (y::Q) w7 ad ?_ (λt q=>S t (by simp [q])) ?_
      .rw [<-B,H];simp
      .have e3:=Uy (A++h) (Q++(X.drop (i+1)++Z)) y e (A.length+(p+1)) (by rw [Y];rfl);rw [show A.length+(p+1) - 1=A.length+p by omega] at e3;have H8:LH (·∈ay s) w w7 [.row aK 4 s (((((A++h)++y::e::(Q++(X.drop (i+1)++Z))).set (A.length+(p+1)) y).set (A.length+p) e).flatMap J.c)] [.trees l]:=H7;rw [e3] at H8;exact H8
     .rw [af T] at H;rw [<-B,H];simpa using H4
   have ag:(fO (X.take i)).length=i:=by rw [KR,dL];omega
   refine inner i (fO (X.take i)) [] D ag ?_ (λt q=>mA t (List.mem_of_mem_take (T5.1 q))) ?_
   .rw [fI,hS]
   .rw [ac] at x;simpa using x
 refine kP.ok _ _ _ w _ ?_;show kP.L0 _ _ _ _ _ F;rw [bw _ (by omega)];cases X with
 |nil=>
  refine kP.b5 _ _ _ _ _ _ (a9 (a0 (by simp at hb;omega)) ⟨⟨rfl,?_⟩,Fr.refl _ _⟩);have:=L.get 0;rw [n] at this;exact this
 |cons a X=>
  refine outer (b - (A.length+1)) 1 w (by simp at hb;omega) ?_;rw [show l.flatMap J.c=(A++fO ((a::X).take 1)++((a::X).drop 1++Z)).flatMap J.c from by rw [n];simp [fO,gK]] at L;exact L
def UP {t:ByteArray} {m:Nat} {K:UInt8->Prop} (c:Nat.beq t.size 256=true) (e:m<256) (d:∀b,K b):∃b:UInt8,t[m]? =some b/\K b:=by rw [ek] at c;exact ⟨t[m]'(by omega),getElem?_pos t m (by omega),d _⟩
def NK (x:Int) (w:I):ai U tT #[.u x] w λr c=>(∃t:Int,r=V (.i t))/\ao w c:=by
 have j:∀(x n:Int),m8.S2 x n w λr c=>(∃t:Int,r=V (.i t))/\ao w c:=by
  intro x n;have d:0<=ab .u8 x/\ab .u8 x<256:=by rw [IntKind.wrap_u8];omega
  obtain ⟨m,q⟩:=Int.eq_ofNat_of_zero_le d.1;refine ⟨d.1,?_⟩;have k:m<256:=by omega
  refine UP (by kernel_rfl) (by rw [q];exact k) λb=>⟨⟨_,rfl⟩,Fr.refl _ _⟩
 have h:∀(x n:Int),m8.S1 x n w λr c=>(∃t:Int,r=V (.i t))/\ao w c:=λx n=>aR (λ_=>j _ _) (λ_=>j _ _);have e:∀(x n:Int),m8.S0 x n w λr c=>(∃t:Int,r=V (.i t))/\ao w c:=λx n=>aR (λ_=>h _ _) (λ_=>h _ _);refine Bi.ok _ w _ ((m8.ok _ w _ (aR (λ_=>e _ _) (λ_=>e _ _))).mono ?_);rintro _ y ⟨⟨t,rfl⟩,f⟩;exact ⟨t,rfl,⟨t,rfl⟩,f⟩
def qH (n:Nat):Prop:=∀(s:O) (l:List J) (w:I),l.length<=n->J.aU l<=1000000->aS w aK 4 s (l.flatMap J.c)->J.Ps w l->(∀e∈ay s,e∉J.a' l)->
 ai U B9 #[s.v,.func (.func bj) #[] #[]] w λr d=>(∃m:List J,r=V (.tuple #[])/\m.Perm l/\jY (m.map J.rx)/\aS d aK 4 s (m.flatMap J.c))/\Fr (·∈ay s) w d
def hg (p:J):List J->List J
 |[]=>[]
 |c::l=>if a8 c.rx p.rx==0 then hg c l else c::hg c l
def j4:List J->List J
 |[]=>[]
 |a::l=>a::hg a l
def Gi (l:List J) (i:Nat):(l.flatMap J.c).take (i *4)=(l.take i).flatMap J.c:=by
 have d:=J.gl (l.take i);by_cases e:i<=l.length
 .conv=>lhs;rw [<-List.take_append_drop i l,dh]
  rw [List.take_append_of_le_length (by rw [d,dL];omega),e1 (by rw [d,dL];omega)]
 .rw [e1 (by rw [J.gl];omega),e1 (l:=l) (by omega)]
def Gn (l:List J) (i:Nat) (d:i<=l.length):(l.flatMap J.c).drop (i *4)=(l.drop i).flatMap J.c:=by
 have e:=J.gl (l.take i);rw [dL,Nat.min_eq_left d] at e;conv=>lhs;rw [<-List.take_append_drop i l,dh]
 rw [List.drop_append_of_le_length (by omega),dt (by omega),List.nil_append]
def O8 {w:I} {s:O} {l m:List J} (h:aS w aK 4 s (l.flatMap J.c)) (i:Nat) (hi:i<=l.length) (C:l.take i=m) {K:I->Prop} {R:aa} {w0:I} (B:Fr (·∈ay s) w0 w)
  (A:∀r j,sE s m r w0 j->Fr (·∈ay s) w0 j->R r j):
  (0:Int)<=(i:Int)/\(i:Int)<=((s.n:Nat):Int)/\∃(q:I),a6 U (Builtin.clear_ #[cw] kn #[.slice (if s.c=(ag (i:Int)) then s.a else s.a.map (·.add ((ag (i:Int)) *4))) (s.n - (ag (i:Int))) (s.c - (ag (i:Int)))]) w=.ok (.tuple #[]) q/\
   (0:Int)<=(i:Int)/\(i:Int)<=((s.c:Nat):Int)/\R (V (.slice (if s.c=0 then s.a else s.a.map (·.add (0 *4))) ((ag (i:Int)) - 0) (s.c - 0))) q:=by
 have G:=J.cj h.bz;have F:=h.cap;obtain ⟨D,x,y,z⟩:=Gj (ty:=kn) pf MC rfl h i (by omega);refine ⟨by omega,by omega,D,x,by omega,by omega,A _ _ ⟨⟨if s.c=0 then s.a else s.a.map (·.add (0 *4)),i - 0,s.c - 0⟩,rfl,?_,λE e=>?_⟩ (B.trans z λE _ u=>u)⟩
 .rw [<-C,<-Gi];exact y
 .simp only [ay] at e ⊢;split at e
  .rename_i p d;split at d
   .rw [d];exact e
   .cases k:s.a with
    |none=>rw [k] at d;cases d
    |some H=>
     rw [k] at d;simp only [Option.map_some,eT] at d;subst d;rw [iF] at e;exact e
  .cases e
section
variable {M:Nat->Prop} {w0 w:I} {L D:List En}
def _root_.Go.W.LH.Am (H:LH M w0 w L D) (i k b:Nat) {s:O} {ts:List J} {t:J} {X:Int} {K:Int->Int->Int->O->Prop} (x:X=(k:Int)) (h:ts[b+k]? =some t) (u:K t.k t.lo.toNat t.hi.toNat t.s) (hi:L[i]? =some (.row aK 4 s (ts.flatMap J.c)):=by rfl):
  (0:Int)<=X/\X<((s.n - b:Nat):Int)/\ct (if s.c=b then s.a else s.a.map (·.add (b *4))) λp=>∃a b d:Int,∃e:O,w.cell? ((p.add (ag X *4)).add 0)=some (.i a)/\w.cell? ((p.add (ag X *4)).add 1)=some (.int .u8 b)/\w.cell? ((p.add (ag X *4)).add 2)=some (.int .u8 d)/\w.cell? ((p.add (ag X *4)).add 3)=some e.v/\K a b d e:=by subst x;have j:aS w aK 4 s (ts.flatMap J.c):=H.get i hi;have z:=J.cj j.bz;have y:=(cD.1 h).1;have q:=j.bz.sub b s.n (by omega) (bB _);rw [e1 (by rw [J.gl];omega),Gn _ _ (by omega)] at q;refine ⟨by omega,by omega,J.cY (s:=mz 4 s b s.n) q (i:=k) (t:=t) (by rw [lD];exact h) λp A d=>⟨_,_,_,_,d.c0,d.c1,d.c2,d.c3,u⟩⟩
end
def ND (s:O) (l:List J) (w:I) (hl:J.aU l<=1000000) (ho:aS w aK 4 s (l.flatMap J.c)) (pl:J.Ps w l) (hd:∀x∈ay s,x∉J.a' l):
  ai U B4 #[s.v,.func (.func j') #[] #[]] w λr E=>sE s (j4 l) r w E/\Fr (·∈ay s) w E:=by
 have nr:=J.cj ho.bz;have ll:=J.fi l;have kt:∀t∈l,t.sz<=1000000:=λt G=>bH (J.dV G) hl;have ae:LH (·∈ay s) w w [.row aK 4 s (l.flatMap J.c)] [.trees l]:=wP _ ho (by intro ag he;simp only [aB,a1,a7] at he;subst he;exact ⟨pl,λx H P=>hd x H (aT.1 P)⟩)
 let S:aa:=λr E=>sE s (j4 l) r w E/\Fr (·∈ay s) w E
 have am:∀(d k b m:Nat) (cur:List J) (p:J) (z:I),b+m+d=l.length->1<=m->1<=b->k<b+m->cur.length=l.length->cur.drop (b+m - 1)=l.drop (b+m - 1)->l[b+m - 1]? =some p->cur.take k++hg p (l.drop (b+m))=j4 l->
   LH (·∈ay s) w z [.row aK 4 s (cur.flatMap J.c)] [.trees l]->
   lH.L2 s (k:Int) ⟨(if s.c=b then s.a else s.a.map (·.add (b *4))),(s.n - b),(s.c - b)⟩ (m:Int) z S:=by
  intro d;induction d with
  |zero=>
   intro k b m cur p z hb P ah hk Y N B e u;refine lH.mO _ _ _ _ _ _ (a9 (a0 ?_) ?_)
   .show ¬(m:Int)<((s.n - b:Nat):Int);omega
   rw [dt (by omega)] at e;have ac:cur.take k=j4 l:=by rw [<-e];simp [hg]
   exact O8 (K:=λ_=>True) (u.get 0) k (by omega) ac u.fr λr E A F=>⟨A,F⟩
  |succ d ad=>
   intro k b m cur p z hb P ah hk Y N B e u;have h:l[b+m]? =some (l[b+m]'(by omega)):=bc (by omega);have y:=dq (l:=l) (i:=b+m) (by omega);generalize l[b+m]'(by omega)=x at h y;have ak:cur[b+m]? =some x:=by
    have:(cur.drop (b+m - 1))[1]? =(l.drop (b+m - 1))[1]?:=by rw [N]
    rw [lD,lD,show b+m - 1+1=b+m by omega] at this;rw [this];exact h
   have al:cur[b+(m - 1)]? =some p:=by
    have:(cur.drop (b+m - 1))[0]? =(l.drop (b+m - 1))[0]?:=by rw [N]
    rw [lD,lD,Nat.add_zero] at this;rw [show b+(m - 1)=b+m - 1 by omega,this];exact B
   have aj:cur.drop (b+m)=l.drop (b+m):=by
    have:(cur.drop (b+m - 1)).drop 1=(l.drop (b+m - 1)).drop 1:=by rw [N]
    rw [List.drop_drop,List.drop_drop,show b+m - 1+1=b+m by omega] at this;exact this
   have M:=aI h;have mp:=aI B;have T:ab .i64 ((m:Int) - 1)=((m - 1:Nat):Int):=AX P (by omega);rw [y] at e;have W:hg p (x::l.drop (b+m+1))=if a8 x.rx p.rx==0 then hg x (l.drop (b+m+1)) else x::hg x (l.drop (b+m+1)):=rfl;rw [W] at e;have next:∀(L:Nat) (D:List J) (q:I),L<b+(m+1)->D.length=l.length->D.drop (b+m)=l.drop (b+m)->D.take L++hg x (l.drop (b+m+1))=j4 l->LH (·∈ay s) w q [.row aK 4 s (D.flatMap J.c)] [.trees l]->
     lH.S3 s (L:Int) ⟨(if s.c=b then s.a else s.a.map (·.add (b *4))),(s.n - b),(s.c - b)⟩ (m:Int) q S:=by intro L D q A F h3 h4 j;show lH.L2 _ _ _ _ _ _;rw [bw _ (by omega)];exact ad L b (m+1) D x q (by omega) (by omega) ah A F (by rw [show b+(m+1) - 1=b+m by omega];exact h3) (by rw [show b+(m+1) - 1=b+m by omega];exact h) (by rw [show b+(m+1)=b+m+1 by omega];exact h4) j
   refine lH.mO _ _ _ _ _ _ (bd (aW ?_) (u.dr λq j=>?_))
   .show (m:Int)<((s.n - b:Nat):Int);omega
   refine j.Am 0 m b rfl ak (j.Am 0 (m - 1) b T al ?_);refine j.call (sM x p q (kt x M) ((show J.Ps q l from j.getD 0).mem M) ((show J.Ps q l from j.getD 0).mem mp)) ?_;rintro _ Q rfl C;refine ⟨_,rfl,dM (λZ=>?_) (λG=>?_)⟩
   .refine C.Am 0 m b rfl ak (C.sZ 0 k (t:=x) (ts:=cur) rfl (by omega) λw4 H4=>?_);rw [af (by rw [Z];simp)] at e;rw [bw _ (by omega)];refine next (k+1) (cur.set k x) w4 (by omega) (by simpa using Y) ?_ ?_ H4
    .rw [List.drop_set_of_lt (by omega)];exact aj
    .rw [Ln (by omega),cN];exact e
   .rw [aq G] at e;exact next k cur Q (by omega) Y aj e C
 have loop:∀(d k:Nat) (p:J) (z:I),k+d=l.length->1<=k->l[k - 1]? =some p->l.take k++hg p (l.drop k)=j4 l->LH (·∈ay s) w z [.row aK 4 s (l.flatMap J.c)] [.trees l]->
   lH.L0 s (k:Int) z S:=by
  intro d;induction d with
  |zero=>
   intro k p z hk A B e u;refine lH.b5 _ _ _ _ (a9 (a0 (by omega)) ⟨⟨s,rfl,?_,λx H=>H⟩,u.fr⟩);rw [dt (by omega),e1 (by omega)] at e;have ac:l=j4 l:=by rw [<-e];simp [hg]
   rw [<-ac];exact u.get 0
  |succ d ad=>
   intro k p z hk A B e u;have h:l[k]? =some (l[k]'(by omega)):=bc (by omega);have y:=dq (l:=l) (i:=k) (by omega);generalize l[k]'(by omega)=x at h y;have M:=aI h;have mp:=aI B;have T:ab .i64 ((k:Int) - 1)=((k - 1:Nat):Int):=AX A (by omega);rw [y] at e;have W:hg p (x::l.drop (k+1))=if a8 x.rx p.rx==0 then hg x (l.drop (k+1)) else x::hg x (l.drop (k+1)):=rfl;rw [W] at e;refine lH.b5 _ _ _ _ (bd (aW (by omega)) (u.dr λq j=>?_));refine j.el 0 k rfl h (j.el 0 (k - 1) T B ?_);refine j.call (sM x p q (kt x M) ((show J.Ps q l from j.getD 0).mem M) ((show J.Ps q l from j.getD 0).mem mp)) ?_;rintro _ Q rfl C;refine ⟨_,rfl,bE (λG=>⟨by omega,by omega,?_⟩) (λZ=>?_)⟩
   .rw [aq G] at e;show lH.L2 _ _ _ _ _ _;exact am d k k 1 l x Q (by omega) (by omega) A (by omega) rfl rfl (by rw [Nat.add_sub_cancel];exact h) e C
   .rw [af (by rw [Z];simp)] at e;rw [bw _ (by omega)];refine ad (k+1) x Q (by omega) (by omega) (by rw [Nat.add_sub_cancel];exact h) ?_ C;rw [gC,h,cN];exact e
 refine lH.ok _ w _ (aR (λF=>⟨⟨s,rfl,?_,λx H=>H⟩,ae.fr⟩) (λF=>?_))
 .have ag:j4 l=l:=by
   cases l with
   |nil=>rfl
   |cons a l=>
    cases l with
    |nil=>rfl
    |cons b l=>simp at nr;omega
  rw [ag];exact ho
 .have h:l[0]? =some (l[0]'(by omega)):=bc (by omega);have y:=dq (l:=l) (i:=0) (by omega);generalize l[0]'(by omega)=x at h y;refine loop (l.length - 1) 1 x w (by omega) (by omega) h ?_ ae;rw [List.drop_zero] at y;rw [y];rfl
def fE (k:Int) (l:List Rx) (u:Rx):List Rx:=(l.flatMap λc=>if c.k=k then c.l else [c]).filter λt=>!(a8 t u==0)
def ra (k:Int) (u:Rx):List Rx->Rx
 |[]=>u
 |[a]=>a
 |l=>.mk k 0 0 l
def gm (k:Int) (l:List Rx) (u z:Rx):Rx:=if (fE k l u).any (λt=>a8 t z==0) then z else ra k u (if k=3 then fE k l u else pd (jV (fE k l u)))
def rM (k:Int) (l:List Rx):Nat:=(l.flatMap λc=>if c.k=k then c.l else [c]).length
def l2:Rx:=.mk 1 0 0 []
def eg:Rx:=.mk 6 0 0 [fg]
def jr (lo hi:UInt8) (l:List Rx):Rx:=match l with
 |[]=>fg
 |c::d=>if c.k=0\/c.k=1 then l2 else if c.k=7\/a8 c eg=0 then c else .mk 7 lo hi (c::d)
def mm (lo hi:UInt8) (l:List Rx):Rx:=match l with
 |[]=>fg
 |c::e=>if c.k=6 then (match c.l with |[]=>fg|d::_=>d) else .mk 6 lo hi (c::e)
def g4:Rx->Rx
 |.mk c lo d l=>if c=3 then gm 3 l l2 fg else if c=4 then gm 4 l fg eg else if c=5 then gm 5 l eg fg else if c=6 then mm lo d l else if c=7 then jr lo d l else .mk c lo d l
def jK:Rx->Bool
 |.mk c _ _ l=>ah (0<=c)&&ah (c<8)&&(match l with
  |[]=>c !=6&&c !=7
  |d::_=>!(c==6&&d.k==6&&d.l.isEmpty))
def kg (t:J):t.rx.k=t.k:=by rw [J.eQ];rfl
def uO (t:J):t.rx.l=t.l.map J.rx:=by rw [J.eQ,<-J.fh];rfl
def tn (x u:J):(fW x u).map J.rx=fE x.k (J.ax x.l) u.rx:=by
 unfold fW fE;rw [J.fh];generalize x.l=l;induction l with
 |nil=>rfl
 |cons a l d=>
  rw [kf,cO,cO,List.filter_append,List.filter_append,ke,d];congr 1;have c:(eC x a).map J.rx=if a.rx.k=x.k then a.rx.l else [a.rx]:=by unfold eC;rw [kg,uO];split<;>simp
  rw [<-c,List.filter_map];rfl
def Ai:∀(l:List J) (p:J),(hg p l).map J.rx=jH p.rx (l.map J.rx)
 |[],p=>rfl
 |c::l,p=>by
  unfold hg;rw [kf];unfold jH;split
  .exact Ai l c
  .rw [kf,Ai l c]
def O1 (l:List J):(j4 l).map J.rx=pd (l.map J.rx):=by
 cases l with
 |nil=>rfl
 |cons a l=>show a.rx::(hg a l).map J.rx=_;rw [Ai];rfl
def Ah {t:J}:∀{l:List J} {p:J},t∈hg p l->t∈l
 |[],p,c=>c
 |d::l,p,c=>by
  unfold hg at c;split at c
  .exact ec _ (Ah c)
  .rcases aB.1 c with rfl|c
   .simp
   .exact ec _ (Ah c)
def O0 {t:J} {l:List J} (c:t∈j4 l):t∈l:=by
 cases l with
 |nil=>exact c
 |cons a l=>
  rcases aB.1 c with rfl|c
  .simp
  .exact ec _ (Ah c)
def M' (l:List J) (z:J):l.any (λt=>a8 t.rx z.rx==0)=(l.map J.rx).any λt=>a8 t z.rx==0:=by rw [List.any_map];rfl
def fR (c:List Nat) (w:I) (x:Rx) (r:Ending) (w':I):Prop:=∃t:J,r=V t.v/\t.rx=x/\t.P w'/\∀b∈t.fp,w.heap.size<=b\/b∈c
def N' {N:Nat} (hS:qH N) (hN:N<=1000000) (x u z:J) (A j:Nat) (w:I) (K:x.k≠3->rM x.k (J.ax x.l)<=N) (hx:x.sz<=1000000) (px:x.P w) (pu:u.P w) (pz:z.P w) (hu:w.heap[A]? =some (.cells u.c.toArray aK (0,0))) (hz:w.heap[j]? =some (.cells z.c.toArray aK (0,0))):
  ai U tZ #[x.v,.pointer (some (aj A)),.pointer (some (aj j))] w λr w'=>fR (x.fp++(u.fp++z.fp)) w (gm x.k (J.ax x.l) u.rx z.rx) r w'/\ao w w':=by
 have H0:LH F0 w w [] [.tree x,.tree u,.tree z,dE A u,dE j z]:=bZ _ (by
  intro ac C;simp only [aB,a1,a7] at C;rcases C with rfl|rfl|rfl|rfl|rfl
  .exact px
  .exact pu
  .exact pz
  .exact hu
  .exact hz)
 have W:=Sub.fW x u;have am:=UA x u;have al:=J.fi (fW x u);have kt:∀t∈fW x u,t.sz<=1000000:=λt n=>by have:=J.dV n;omega
 have an:(fW x u).length<=rM x.k (J.ax x.l):=by have Q:=congrArg List.length (tn x u);rw [List.length_map] at Q;rw [Q];exact List.length_filter_le ..
 refine Dn.aD _ _ _ _ _ _ w _ (H0.aL λG w1 H1=>H1.aL λH w2 B=>⟨_,_,_,u.s,B.eh 3 0,B.eh 3 1,B.eh 3 2,B.eh 3 3,B.jF (N3 x u w2 hx (B.getD 0) (B.getD 1)) ?_⟩);rintro _ w3 ⟨q,rfl,o1,n1⟩ H3 F3;have F:=F3.own (.row aK 4 q ((fW x u).flatMap J.c)) o1 n1;have aa:∀w':I,x.P w'->J.Ps w' (fW x u):=λw' K=>W.Ps K;refine ⟨q,rfl,F.aA (NH q (fW x u) ⟨xv,#[],#[.pointer (some (aj j))]⟩ (λt=>a8 t.rx z.rx==0) [.tree x,.tree z,dE j z] w3 (by omega) (F.get 2:aS _ _ _ _ _).bz (by
  intro ac C;simp only [aB,a1,a7] at C;rcases C with rfl|rfl|rfl
  .exact F.getD 0
  .exact F.getD 2
  .exact F.getD 4) (by kernel_rfl) (λw' t n E=>N6 t z j w' (kt t n) ((aa w' (E.getD 1)).mem n) (E.getD 2) (E.getD 3))) ?_⟩
 rintro _ Z rfl h;have ea:(fW x u).any (λt=>a8 t.rx z.rx==0)=(fE x.k (J.ax x.l) u.rx).any λt=>a8 t z.rx==0:=by rw [M',tn]
 refine ⟨_,rfl,bE (λn=>⟨_,_,_,z.s,h.eh 4 0,h.eh 4 1,h.eh 4 2,h.eh 4 3,h.au λw8 e=>⟨⟨z,rfl,?_,e.getD 2,λb d=>.inr (by simp [d])⟩,e.fr⟩⟩) (λhf=>?_)⟩
 .have ak:=ea▸n;unfold gm;rw [aq ak]
 have ae:=ea▸hf;have fin:∀(s':O) (ks:List J) (w':I),(∀t∈ks,t∈fW x u)->ks.map J.rx=(if x.k=3 then fE x.k (J.ax x.l) u.rx else pd (jV (fE x.k (J.ax x.l) u.rx)))->LH F0 w w' [.g G,.g H,.row aK 4 s' (ks.flatMap J.c)] [.tree x,.tree u,.tree z,dE A u,dE j z]->
   Dn.aQ (aj A) G x.k x.lo.toNat x.hi.toNat x.s H 0 0 0 ⟨none,0,0⟩ s' w' λr w'=>fR (x.fp++(u.fp++z.fp)) w (gm x.k (J.ax x.l) u.rx z.rx) r w'/\ao w w':=by
  intro s' ks w' D C y;have S:Sub x ks:=W.sub D;have nr:=J.cj (y.get 2:aS _ _ _ _ _).bz;have ej:gm x.k (J.ax x.l) u.rx z.rx=ra x.k u.rx (ks.map J.rx):=by unfold gm;rw [af (by rw [ae];simp),C]
  refine aO (λh0=>⟨_,_,_,u.s,y.eh 3 0,y.eh 3 1,y.eh 3 2,y.eh 3 3,y.au λw8 e=>⟨⟨u,rfl,?_,e.getD 1,λb d=>.inr (by simp [d])⟩,e.fr⟩⟩) (λh0=>aO (λQ=>?_) (λQ=>y.au λw8 e=>⟨⟨.mk x.k 0 0 s' ks,rfl,?_,?_,λb d=>?_⟩,e.fr⟩))
  .have:ks=[]:=List.length_eq_zero_iff.1 (by omega);rw [ej,this];rfl
  .obtain ⟨a,rfl⟩:=List.length_eq_one_iff.1 (show ks.length=1 by omega);refine y.el 2 0 rfl (t:=a) rfl (y.au λw8 e=>⟨⟨a,rfl,?_,S.P _ (e.getD 0) a (by simp),λb d=>.inr (by simp [S.fp a (by simp) b d])⟩,e.fr⟩);rw [ej];rfl
  .rw [ej];unfold J.rx;rw [J.fh];cases ks with
   |nil=>simp at nr;omega
   |cons a ks=>
    cases ks with
    |nil=>simp at nr;omega
    |cons b ks=>rfl
  .unfold J.P;exact ⟨(e.get 2:aS _ _ _ _ _).bz,S.Ps (e.getD 0)⟩
  .unfold J.fp at d;rcases a5.1 d with d|d
   .exact .inl ((e.new _ (aI (i:=2) rfl) b (gb d)).resolve_right id)
   .exact .inr (by simp [S.a' d])
 have eo:∀w':I,LH F0 w w' [.g G,.g H,.row aK 4 q ((fW x u).flatMap J.c)] [.tree x,.tree u,.tree z,dE A u,dE j z]->∀L∈ay q,L∉J.a' (fW x u):=λw' E L hy hm=>E.off 2 0 rfl rfl L hy (aT.2 (W.a' hm));refine dG (λD=>?_) (λD=>fin q (fW x u) Z (λ_ K=>K) (by rw [aq D,tn]) h);refine h.zY 2 rfl (hS q (fW x u) Z (by have:=K D;omega) (by omega) (h.get 2) (aa Z (h.getD 0)) (eo Z h)) ?_;rintro _ w5 ⟨m,rfl,T,ag,o5⟩ hH;have M:LH F0 w w5 [.g G,.g H,.row aK 4 q (m.flatMap J.c)] [.tree x,.tree u,.tree z,dE A u,dE j z]:=hH (.row aK 4 q (m.flatMap J.c)) o5 λb d=>.inl d;have ab:Sub x m:=W.sub λt n=>T.mem_iff.1 n;refine ⟨rfl,M.zY 2 rfl (ND q m w5 (by rw [D0 T];omega) (M.get 2) (ab.Ps (M.getD 0)) (λL hy hm=>M.off 2 0 rfl rfl L hy (aT.2 (ab.a' hm)))) ?_⟩;rintro _ w6 ⟨Y,rfl,o6,n6⟩ ad;have H7:LH F0 w w6 [.g G,.g H,.row aK 4 Y ((j4 m).flatMap J.c)] [.tree x,.tree u,.tree z,dE A u,dE j z]:=ad (.row aK 4 Y ((j4 m).flatMap J.c)) o6 λb d=>.inl (n6 b d);have ah:m.map J.rx=jV ((fW x u).map J.rx):=T8 ag (T.map _);exact ⟨Y,rfl,fin Y (j4 m) w6 (λt n=>T.mem_iff.1 (O0 n)) (by rw [af D,O1,ah,tn]) H7⟩
def hR {w:I} {x t:J} (h:x.P w) {k:Nat} {X:Int} {K:Int->Int->Int->O->Prop} (n:X=(k:Int)) (e:x.l[k]? =some t) (j:K t.k t.lo.toNat t.hi.toNat t.s):
  aw x.s X λp=>∃a b c:Int,∃d:O,w.cell? ((p.add (ag X *4)).add 0)=some (.i a)/\w.cell? ((p.add (ag X *4)).add 1)=some (.int .u8 b)/\w.cell? ((p.add (ag X *4)).add 2)=some (.int .u8 c)/\w.cell? ((p.add (ag X *4)).add 3)=some d.v/\K a b c d:=by subst n;have u:=J.cj h.parts.1;have q:=(cD.1 e).1;exact ⟨by omega,by omega,J.cY h.parts.1 e λp y c=>⟨_,_,_,_,c.c0,c.c1,c.c2,c.c3,j⟩⟩
def Of (x:J) (w:I) (M:x.P w) (D:x.k=6) (e:jK x.rx=true):ai U rB #[x.v] w λr N=>fR x.fp w (mm x.lo x.hi (J.ax x.l)) r N/\ao w N:=by
 have L:=J.cj M.parts.1;rw [J.eQ] at e;cases d:x.l with
 |nil=>rw [d,D] at e;simp [jK,J.ax] at e
 |cons c K=>
  have B:x.l[0]? =some c:=by rw [d];rfl
  have E:c∈x.l:=aI B;have j:J.ax (c::K)=c.rx::J.ax K:=rfl;refine JW.aD _ _ _ _ w _ ((gq M).aL λY w1 O=>O.aL λZ T u=>?_);have F:x.P T:=u.getD 0;have n2:0<x.s.n:=by rw [d] at L;simp at L;omega
  refine ⟨by omega,by omega,J.cY F.parts.1 B λp S y=>⟨c.k,y.c0,aO (λq=>?_) (λq=>u.au λaa G=>⟨⟨x,rfl,?_,G.getD 0,λb z=>.inr z⟩,G.fr⟩)⟩⟩
  .refine ⟨by omega,by omega,J.cY F.parts.1 B λp S y=>⟨c.s,y.c3,?_⟩⟩;cases A:c.l with
   |nil=>
    rw [d,j] at e;have Q:c.rx.l.isEmpty=true:=by rw [uO,A];rfl
    simp [jK,D,kg,q,Q] at e
   |cons h l2=>
    have C:c.l[0]? =some h:=by rw [A];rfl
    refine hR (F.parts.2.mem E) rfl C (u.au λW H=>⟨⟨h,rfl,?_,((show x.P W from H.getD 0).parts.2.mem E).parts.2.mem (aI C),λb z=>.inr (J.fX.2 (.inr (J.bR.2 ⟨c,E,J.fX.2 (.inr (J.bR.2 ⟨h,aI C,z⟩))⟩)))⟩,H.fr⟩);rw [j];show h.rx=if c.rx.k=6 then _ else _;rw [aq (by rw [kg,q]),uO,A];rfl
  .rw [j];show x.rx=if c.rx.k=6 then _ else _;rw [af (by rw [kg];exact q),J.eQ,D,d,j]
def Ou (x m v:J) (y z:Nat) (w:I) (hx:x.sz<=1000000) (px:x.P w) (pm:m.P w) (pv:v.P w) (hm:w.heap[y]? =some (.cells m.c.toArray aK (0,0))) (hv:w.heap[z]? =some (.cells v.c.toArray aK (0,0))) (em:m.rx=l2) (ev:v.rx=eg) (Z:x.k=7) (L:jK x.rx=true):
  ai U rC #[x.v,.pointer (some (aj y)),.pointer (some (aj z))] w λr e=>fR (x.fp++(m.fp++v.fp)) w (jr x.lo x.hi (J.ax x.l)) r e/\ao w e:=by
 have nr:=J.cj px.parts.1;rw [J.eQ] at L;cases D:x.l with
 |nil=>rw [D,Z] at L;simp [jK,J.ax] at L
 |cons c E=>
  have Y:x.l[0]? =some c:=by rw [D];rfl
  have F:c∈x.l:=aI Y;have C:J.ax (c::E)=c.rx::J.ax E:=rfl;have H0:LH F0 w w [] [.tree x,.tree m,.tree v,dE y m,dE z v]:=bZ _ (by
   intro ac W;simp only [aB,a1,a7] at W;rcases W with rfl|rfl|rfl|rfl|rfl
   .exact px
   .exact pm
   .exact pv
   .exact hm
   .exact hv)
  refine yo.aD _ _ _ _ _ _ w _ (H0.aL λQ w1 H1=>H1.aL λB w2 M=>?_);have n2:0<x.s.n:=by rw [D] at nr;simp at nr;omega
  have sc:c.sz<=1000000:=by have:=J.dV F;have:=J.hC x;omega
  have fc:∀b∈c.fp,b∈x.fp:=λb q=>J.fX.2 (.inr (J.bR.2 ⟨c,F,q⟩));refine hR (show x.P w2 from M.getD 0) rfl Y (M.aL λG w3 A=>?_);have ab:c.k=0\/c.k=1->∀e:I,LH F0 w e [.g Q,.g B,.g G] [.tree x,.tree m,.tree v,dE y m,dE z v]->yo.aQ (aj y) B 0 0 0 ⟨none,0,0⟩ e λr e=>fR (x.fp++(m.fp++v.fp)) w (jr x.lo x.hi (J.ax (c::E))) r e/\ao w e:=λu e j=>
   ⟨_,_,_,m.s,j.eh 3 0,j.eh 3 1,j.eh 3 2,j.eh 3 3,j.au λh d=>⟨⟨m,rfl,by
    rw [em,C];show _=if c.rx.k=0\/c.rx.k=1 then _ else _;rw [kg,aq u],d.getD 1,λb q=>.inr (by simp [q])⟩,d.fr⟩⟩
  have aa:¬(c.k=0\/c.k=1)->(c.k=7\/a8 c.rx eg=0)->∀e:I,LH F0 w e [.g Q,.g B,.g G] [.tree x,.tree m,.tree v,dE y m,dE z v]->yo.a2 B 0 0 0 ⟨none,0,0⟩ G c.k c.lo.toNat c.hi.toNat c.s e λr e=>fR (x.fp++(m.fp++v.fp)) w (jr x.lo x.hi (J.ax (c::E))) r e/\ao w e:=λhn u e j=>
   j.au λh d=>⟨⟨c,rfl,by
    rw [C];show _=if c.rx.k=0\/c.rx.k=1 then _ else if c.rx.k=7\/a8 c.rx eg=0 then _ else _;rw [kg,af hn,aq u],(show x.P h from d.getD 0).parts.2.mem F,λb q=>.inr (by simp [fc b q])⟩,d.fr⟩
  refine aO (λS=>A.au λh d=>ab (.inl S) h d) (λS=>aO (λT=>A.au λh d=>ab (.inr T) h d) (λT=>aO (λK=>A.au λh d=>aa (by omega) (.inl K) h d) (λK=>A.au λh d=>⟨_,_,_,v.s,d.eh 4 0,d.eh 4 1,d.eh 4 2,d.eh 4 3,?_⟩)));refine d.aA (sM c v h sc ((show x.P h from d.getD 0).parts.2.mem F) (d.getD 2)) ?_;rintro _ w5 rfl N;rw [ev];refine ⟨_,rfl,aO (λu=>aa (by omega) (.inr u) w5 N) (λu=>N.au λw6 O=>⟨⟨x,rfl,?_,O.getD 0,λb q=>.inr (by simp [q])⟩,O.fr⟩)⟩;rw [C];show x.rx=if c.rx.k=0\/c.rx.k=1 then _ else if c.rx.k=7\/a8 c.rx eg=0 then _ else _;rw [kg,af (by omega),af (by
   rintro (H|H)
   .exact K H
   .exact u H),J.eQ,Z,D,C]
structure Fm where
 m:Nat
 es:Array MapEntry
 clock:Nat
 ms:List (Int×ae)
 cs:List (Nat×J)
 s:O
def cb:J:=.mk 0 0 0 ⟨none,0,0⟩ []
def e8:J:=.mk 1 0 0 ⟨none,0,0⟩ []
def Fm.ev (F:Fm):J:=.mk 6 0 0 F.s [cb]
def _root_.Go.W.En.fm (F:Fm):En:=.all (.ob F.m (.map F.es F.clock)::.tree F.ev::F.cs.map λp=>dE p.1 p.2)
def rq (a b:Nat):ae:=.func (.func tZ) #[] #[.pointer (some (aj a)),.pointer (some (aj b))]
def hX:ae:=.func (.func tY) #[] #[]
def qx (cs:List (Nat×J)) (e:J) (k:Int) (v:ae):Prop:=
 ((k=0\/k=1\/k=2)/\v=hX)\/(∃c d a b,((k=3/\c=e8/\d=cb)\/(k=4/\c=cb/\d=e)\/(k=5/\c=e/\d=cb))/\v=rq a b/\(a,c)∈cs/\(b,d)∈cs)\/
 (k=6/\v=.func (.func rB) #[] #[])\/∃a b,k=7/\v=.func (.func rC) #[] #[.pointer (some (aj a)),.pointer (some (aj b))]/\(a,e8)∈cs/\(b,e)∈cs
structure Fm.Ok (F:Fm):Prop where
 ms:qB .i64 F.es F.ms
 all:∀k:Int,0<=k->k<8->∃v,j9 F.ms k=some v/\qx F.cs F.ev k v
section
variable {F:Fm} {w:I}
def PQ (c:(En.fm F).P w):w.heap[F.m]? =some (.map F.es F.clock):=c (.ob F.m (.map F.es F.clock)) (by simp)
def AI (c:(En.fm F).P w):F.ev.P w:=c (.tree F.ev) (by simp)
def wC (d:(En.fm F).P w) {a:Nat} {u:J} (e:(a,u)∈F.cs):w.heap[a]? =some (.cells u.c.toArray aK (0,0)):=d (dE a u) (ec _ (ec _ (cQ.2 ⟨(a,u),e,rfl⟩)))
def AJ {b:Nat} (c:b∈F.ev.fp):b∈(En.fm F).fp:=aT.2 (ch.2 ⟨.tree F.ev,by simp,aT.2 c⟩)
def jQ (w:I):cb.P w:=II w
def wi (w:I):e8.P w:=by unfold e8 J.P J.Ps;exact ⟨bL.nil 4 w,trivial⟩
def jR {b:Nat} (c:b∈cb.fp):False:=IG c
def wj {b:Nat} (c:b∈e8.fp):False:=by unfold e8 J.fp J.a' at c;simp [En.bz] at c
def fR.sub {c d:List Nat} {x:Rx} {r:Ending} {w':I} (e:fR c w x r w') (u:∀b∈c,b∈d):fR d w x r w':=by obtain ⟨t,h,j,k,n⟩:=e;exact ⟨t,h,j,k,λb q=>(n b q).imp id (u b)⟩
def Ip:zf U iW bX lL .i64 .nilFunc:=⟨by kernel_rfl,by kernel_rfl,by kernel_rfl⟩
end
def Ro {P:aM} {T A n:aG} {kd:IntKind} {z:ae} (d:zf P T A n kd z) {w:I} {e:Nat} {es:Array MapEntry} {clock:Nat} {ms:List (Int×ae)}
  (x:w.heap[e]? =some (.map es clock)) (y:qB kd es ms) (k:Int):(Instr.lookup T (.map (some e)) (.int kd k) false).run P w=.ok ((j9 ms k).getD z) w:=by
 have q:=AF (k:=k) (i:=0) y;have u:(getObj e).run P w=.ok (.map es clock) w:=by simp [getObj,a6,x]
 have c:=Im (ms:=ms) (k:=k) (i:=0);unfold Instr.lookup Instr.findKey;simp only [Sem.run_bind,run_underlying d.hT,Result.andThen_ok,u,Sem.run_pure,F1 d.hk,run_underlying d.hk,q];cases h:((ms.findIdx? λp=>p.1==k).bind λj=>(ms[j]?).map λp=>(0+j,p.2)) with
 |none=>rw [h] at c;simp [<-c,MD d.hz]
 |some B=>rw [h] at c;simp [<-c]
def NY {N:Nat} (Y:qH N) (W:N<=1000000) {F:Fm} (L:F.Ok) {w:I} (Q:(En.fm F).P w) (k:Int) (S:0<=k) (T:k<8):
  ∃f:Fv,(Instr.lookup iW (.map (some F.m)) (.i k) false).run U w=.ok f.v w/\gF U f.n=true/\∀(x:J) (w':I),(En.fm F).P w'->x.P w'->x.k=k->(x.k=4\/x.k=5->rM x.k (J.ax x.l)<=N)->x.sz<=1000000->jK x.rx=true->
   ai U f.n (f.bs++#[x.v]++f.cs) w' λr M=>fR (x.fp++(En.fm F).fp) w' (g4 x.rx) r M/\ao w' M:=by
 have mo:=Ip;obtain ⟨v,hv,Z⟩:=L.all k S T;have u:=Ro mo (PQ Q) L.ms k;rw [hv,Option.getD_some] at u;have B:∀x:J,g4 x.rx=if x.k=3 then gm 3 (J.ax x.l) l2 fg else if x.k=4 then gm 4 (J.ax x.l) fg eg else if x.k=5 then gm 5 (J.ax x.l) eg fg else if x.k=6 then mm x.lo x.hi (J.ax x.l) else if x.k=7 then jr x.lo x.hi (J.ax x.l) else x.rx:=λx=>by rw [J.eQ];rfl
 rcases Z with ⟨j,rfl⟩|⟨E,H,a,b,j,rfl,D,q⟩|⟨rfl,rfl⟩|⟨a,b,rfl,rfl,D,q⟩
 .refine ⟨⟨tY,#[],#[]⟩,u,by kernel_rfl,λx w' e h d C z A=>((N5 x w' h).mono ?_)⟩;rintro _ G ⟨rfl,f⟩;refine ⟨⟨x,rfl,?_,h.bA f,λb q=>.inr (by simp [q])⟩,f⟩;rw [B,af (by omega),af (by omega),af (by omega),af (by omega),af (by omega)]
 .refine ⟨⟨tZ,#[],#[.pointer (some (aj a)),.pointer (some (aj b))]⟩,u,by kernel_rfl,λx w' e h d C z A=>?_⟩;have pu:E.P w':=by
   rcases j with ⟨_,rfl,_⟩|⟨_,rfl,_⟩|⟨_,rfl,_⟩
   .exact wi w'
   .exact jQ w'
   .exact AI e
  have pz:H.P w':=by
   rcases j with ⟨_,_,rfl⟩|⟨_,_,rfl⟩|⟨_,_,rfl⟩
   .exact jQ w'
   .exact AI e
   .exact jQ w'
  refine (N' Y W x E H a b w' (λh3=>C (by rcases j with ⟨rfl,_⟩|⟨rfl,_⟩|⟨rfl,_⟩<;>omega)) z h pu pz (wC e D) (wC e q)).mono ?_;rintro r G ⟨y,f⟩;refine ⟨?_,f⟩;have O:g4 x.rx=gm x.k (J.ax x.l) E.rx H.rx:=by
   rw [B];rcases j with ⟨rfl,rfl,rfl⟩|⟨rfl,rfl,rfl⟩|⟨rfl,rfl,rfl⟩
   .rw [aq d,d];rfl
   .rw [af (by omega),aq d,d];rfl
   .rw [af (by omega),af (by omega),aq d,d];rfl
  rw [O];refine y.sub λK c=>?_;rcases a5.1 c with c|c
  .simp [c]
  .rcases a5.1 c with c|c
   .rcases j with ⟨_,rfl,_⟩|⟨_,rfl,_⟩|⟨_,rfl,_⟩
    .exact (wj c).elim
    .exact (jR c).elim
    .exact eP _ (AJ c)
   .rcases j with ⟨_,_,rfl⟩|⟨_,_,rfl⟩|⟨_,_,rfl⟩
    .exact (jR c).elim
    .exact eP _ (AJ c)
    .exact (jR c).elim
 .refine ⟨⟨rB,#[],#[]⟩,u,by kernel_rfl,λx w' e h d C z A=>((Of x w' h d A).mono ?_)⟩;rintro r G ⟨y,f⟩;refine ⟨?_,f⟩;rw [B,af (by omega),af (by omega),af (by omega),aq d];exact y.sub λK c=>by simp [c]
 .refine ⟨⟨rC,#[],#[.pointer (some (aj a)),.pointer (some (aj b))]⟩,u,by kernel_rfl,λx w' e h d C z A=>((Ou x e8 F.ev a b w' z h (wi w') (AI e) (wC e D) (wC e q) rfl rfl d A).mono ?_)⟩;rintro r G ⟨y,f⟩;refine ⟨?_,f⟩;rw [B,af (by omega),af (by omega),af (by omega),af (by omega),aq d];refine y.sub λK c=>?_;rcases a5.1 c with c|c
  .simp [c]
  .rcases a5.1 c with c|c
   .exact (wj c).elim
   .exact eP _ (AJ c)
namespace JR
noncomputable def C0:Code:=(Tryz.f135.body).getD .skip
noncomputable def C1:=C0.sn
noncomputable def C2:=C1.sn
noncomputable def C3:=C2.sn
noncomputable def C4:=C3.sn
noncomputable def C5:=C4.sn
noncomputable def C6:=C5.sn
def ok (w:I) (R:aa) (x:aN w (.cells #[.i 0,.int .u8 0,.int .u8 0,.slice none 0 0] aK) λe=>
 aN e (.cells #[.i 0,.int .u8 0,.int .u8 0,.slice none 0 0] aK) λB=>
 cJ B (nb w) (.i 0) (.int .u8 0) (.int .u8 0) (.slice none 0 0) λC=>av C (nb e) (.i 1) λD=>
 av D ((nb e).add 1) (.int .u8 0) λF=>
 av F ((nb e).add 2) (.int .u8 0) λG=>
 av G ((nb e).add 3) (.slice none 0 0) λh=>
 aV h (nb w) λk n q u=>aN h (.cells #[.i k,.int .u8 n,.int .u8 q,u.v] aK) λj=>
 aN j (.cells #[.i 0,.int .u8 0,.int .u8 0,.slice none 0 0] aK) λz=>
 cJ z (nb j) (.i 6) (.int .u8 0) (.int .u8 0) (.slice (some (nb h)) 1 1) λA=>uR U C5 (λE w=>jU U Tryz.f135 E w (λv=>R (V v) w)) [(5,.func (.func xu) #[] #[]),(4,.func (.func tY) #[] #[]),(3,.pointer (some (nb j))),(10,.agg #[.i 6,.int .u8 0,.int .u8 0,.slice (some (nb h)) 1 1]),(9,.slice (some (nb h)) 1 1),(8,.agg #[.i k,.int .u8 n,.int .u8 q,u.v]),(2,.pointer (some (nb e))),(1,.pointer (some (nb w))),(7,.agg #[.i 1,.int .u8 0,.int .u8 0,.slice none 0 0]),(6,.agg #[.i 0,.int .u8 0,.int .u8 0,.slice none 0 0]),(0,.map none)] A):ai U BZ #[] w R:=
 sQ (R:=R) (fn:=Tryz.f135) (c:=C0) (args:=[]) (by kernel_rfl) (by kernel_rfl) (by kernel_rfl) (sr C0 (show (λ(E:Env) (w:I)=>dN U C0 (λE w=>dN U C1 (λE w=>dN U C2 (λE w=>dN U C3 (λE w=>dN U C4 (λE w=>uR U C5 (λE w=>jU U Tryz.f135 E w (λv=>R (V v) w)) E w) E w) E w) E w) E w) E w) (ja 0 []) w from mp x) λ_ _ d=>(sr C1 d λ_ _ d=>(sr C2 d λ_ _ d=>(sr C3 d λ_ _ d=>(sr C4 d λ_ _ d=>(si C5 (by kernel_rfl) d λ_ _ d=>(rt C6 λa y=>rU y d)))))))
end JR
def MP {M:Nat->Prop} {w0 w:I} {L h D:List En} (H:LH M w0 w L D) (e:L.Perm h):LH M w0 w h D:=
 ⟨H.fr,λc d=>H.own c (e.mem_iff.2 d),H.rd,λc d=>H.new c (e.mem_iff.2 d),(e.flatMap_right (·.fp)).nodup_iff.1 H.nd,λc d b k j n=>H.dj c d b k j (e.mem_iff.2 n)⟩
def gh {L:Nat->Bool} {i j:Nat} (c:j≠i):dc L i j=L j:=by
 have:Nat.beq j i=false:=by rw [<-ju,ek];exact c
 simp [dc,this]
def Kz {L:Nat->Bool} {i:Nat}:dc L i i=true:=by simp [dc]
def Tt {P:aM} {fn:Func} {E:Env} {w:I} {K:ae->Prop} {t:Nat} {v:ae} (d:fn.results.toList=[.tmp t]) (e:E.get? t=some v) (c:K v):jU P fn E w K:=by unfold jU;rw [d];unfold pR;rw [e];exact c
def wB:List (Op×Option Nat×aG×List Nat):=[
 (.makeMap iW none,some 11,iW,[]),
 (.move (.tmp 4),some 12,lL,[]),
 (.insert iW (.tmp 11) (.const (.int .i64 0)) (.tmp 12),none,kn,[0,1]),
 (.move (.tmp 4),some 13,lL,[]),
 (.insert iW (.tmp 11) (.const (.int .i64 1)) (.tmp 13),none,kn,[0,3]),
 (.move (.tmp 4),some 14,lL,[]),
 (.insert iW (.tmp 11) (.const (.int .i64 2)) (.tmp 14),none,kn,[0,5]),
 (.move (.tmp 5),some 15,Eh,[]),
 (.load aK (.tmp 2),some 16,aK,[]),
 (.load aK (.tmp 1),some 17,aK,[]),
 (.call ⟨.value (.tmp 15),#[.tmp 16,.tmp 17],#[aK,aK]⟩,some 18,lL,[7,8,9]),
 (.insert iW (.tmp 11) (.const (.int .i64 3)) (.tmp 18),none,kn,[0,10]),
 (.move (.tmp 5),some 19,Eh,[]),
 (.load aK (.tmp 1),some 20,aK,[]),
 (.load aK (.tmp 3),some 21,aK,[]),
 (.call ⟨.value (.tmp 19),#[.tmp 20,.tmp 21],#[aK,aK]⟩,some 22,lL,[12,13,14,10]),
 (.insert iW (.tmp 11) (.const (.int .i64 4)) (.tmp 22),none,kn,[0,15]),
 (.move (.tmp 5),some 23,Eh,[]),
 (.load aK (.tmp 3),some 24,aK,[]),
 (.load aK (.tmp 1),some 25,aK,[]),
 (.call ⟨.value (.tmp 23),#[.tmp 24,.tmp 25],#[aK,aK]⟩,some 26,lL,[17,18,19,15]),
 (.insert iW (.tmp 11) (.const (.int .i64 5)) (.tmp 26),none,kn,[0,20]),
 (.insert iW (.tmp 11) (.const (.int .i64 6)) (.func rB),none,kn,[0]),
 (.makeFunc (.func rC) #[] #[.tmp 2,.tmp 3],some 27,lL,[]),
 (.insert iW (.tmp 11) (.const (.int .i64 7)) (.tmp 27),none,kn,[0,23]),
 (.move (.tmp 11),some 28,iW,[0,1,2,3,4,5,6,7,8,9,10,11,12,13,14,15,16,17,18,19,20,21,22,23,24]),
 (.assign (.tmp 28),some 0,iW,[25,20,0,1,2,3,4,5,6,7,8,9,10,11,12,13,14,15,16,17,18,19,20,21,22,23,24,25])]
abbrev ptr (b:Nat):ae:=.pointer (some (aj b))
abbrev jX:ae:=.func (.func xu) #[] #[]
abbrev yA (a b:Nat):ae:=.func (.func rC) #[] #[ptr a,ptr b]
abbrev eZ (s:O):J:=.mk 6 0 0 s [cb]
def b7 (h c d:Nat) (e:J):List (Nat×Nat×ae):=[(0,1,ptr h),(0,2,ptr c),(0,3,ptr d),(0,4,hX),(0,5,jX),(2,12,hX),(4,13,hX),(6,14,hX),(8,15,jX),(9,16,e8.v),(10,17,cb.v),(13,19,jX),(14,20,cb.v),(15,21,e.v),(18,23,jX),(19,24,e.v),(20,25,cb.v),(24,27,yA c d)]
def dX:List (Nat×Int):=[(2,0),(4,1),(6,2),(11,3),(16,4),(21,5),(22,6),(24,7)]
def g5 (c:J):List (Nat×Nat×J×J):=[(10,18,e8,cb),(15,22,cb,c),(20,26,c,cb)]
def Joined (d:J) (cs:List (Nat×J)) (L:Nat->Bool) (E:Env):Prop:=∀c∈g5 d,L c.1=true->∃a b,E.get? c.2.1=some (rq a b)/\(a,c.2.2.1)∈cs/\(b,c.2.2.2)∈cs
def vA (e:J) (cs:List (Nat×J)) (L:Nat->Bool) (E:Env) (mp:List En):Prop:=(L 0=false/\mp=[]/\(∀c∈dX,L c.1=false)/\L 25=false/\L 26=false)\/
 (L 0=true/\∃(m:Nat) (es:Array MapEntry) (clock:Nat) (ms:List (Int×ae)),mp=[.ob m (.map es clock)]/\E.get? 11=some (.map (some m))/\qB .i64 es ms/\(∀d v,j9 ms d=some v->qx cs e d v)/\(∀c∈dX,(j9 ms c.2).isSome=L c.1)/\
  (L 25=true->E.get? 28=some (.map (some m)))/\(L 26=true->E.get? 0=some (.map (some m))))
abbrev n2 (d e h:Nat) (s:O):List En:=[dE d cb,dE e e8,.row aK 4 s cb.c,dE h (eZ s)]
structure FJ (w0:I) (b1 b2 b4:Nat) (s:O) (L:Nat->Bool) (E:Env) (w:I):Prop where
 st:mL (b7 b1 b2 b4 (eZ s)) L E
 hp:∃(mp X:List En) (cs:List (Nat×J)),LH F0 w0 w (mp++(n2 b1 b2 b4 s++X)) []/\(∀p∈cs,dE p.1 p.2∈n2 b1 b2 b4 s++X)/\(b2,e8)∈cs/\(b4,eZ s)∈cs/\Joined (eZ s) cs L E/\vA (eZ s) cs L E mp
def qx.mono {cs q:List (Nat×J)} {u:J} {k:Int} {v:ae} (c:qx cs u k v) (d:∀p∈cs,p∈q):qx q u k v:=by
 rcases c with c|⟨w,x,a,b,e,h,j,n⟩|c|⟨a,b,e,h,j,n⟩
 .exact .inl c
 .exact .inr (.inl ⟨w,x,a,b,e,h,d _ j,d _ n⟩)
 .exact .inr (.inr (.inl c))
 .exact .inr (.inr (.inr ⟨a,b,e,h,d _ j,d _ n⟩))
def Io (ms:List (Int×ae)) (k c:Int) (v:ae):j9 (ms++[(k,v)]) c=(j9 ms c).or (if k=c then some v else none):=by
 unfold j9;rw [List.find?_append];cases e:ms.find? (λp=>p.1==c) with
 |some p=>rfl
 |none=>
  by_cases d:k=c
  .simp [d]
  .simp [d]
section
variable {w0 w:I} {b1 b2 b4:Nat} {s:O} {L:Nat->Bool} {E:Env}
def vA.ck {y:J} {cs x:List (Nat×J)} {mp:List En} (h:vA y cs L E mp) (M:∀p∈cs,p∈x) (i d:Nat) (v:ae) (hi:∀N∈[0,25,26,2,4,6,11,16,21,22,24],N≠i) (w:∀t∈[11,28,0],d≠t):vA y x (dc L i) (E.put (some d) v) mp:=by
 have z:∀c∈dX,dc L i c.1=L c.1:=λc e=>gh (hi _ (by simp only [dX,aB,a1,a7] at e;rcases e with rfl|rfl|rfl|rfl|rfl|rfl|rfl|rfl<;>simp));have A:dc L i 0=L 0:=gh (hi 0 (by simp));have B:dc L i 25=L 25:=gh (hi 25 (by simp));have C:dc L i 26=L 26:=gh (hi 26 (by simp));rcases h with ⟨j,k,n,q,u⟩|⟨j,m,D,clock,ms,k,n,q,u,F,G,H⟩
 .exact .inl ⟨by rw [A,j],k,λc e=>by rw [z c e,n c e],by rw [B,q],by rw [C,u]⟩
 .refine .inr ⟨by rw [A,j],m,D,clock,ms,k,?_,q,λO v K=>(u O v K).mono M,λc e=>by rw [z c e,F c e],λh=>?_,λh=>?_⟩
  .rw [im (w 11 (by simp)),n]
  .rw [im (w 28 (by simp)),G (B▸h)]
  .rw [im (w 0 (by simp)),H (C▸h)]
def FJ.stat (e:FJ w0 b1 b2 b4 s L E w) (i d:Nat) (v:ae) (y:∀c∈b7 b1 b2 b4 (eZ s),c.1=i+1->c=(i+1,d,v)) (z:∀c∈b7 b1 b2 b4 (eZ s),c.2.1=d->c.1=i+1)
  (hi:∀n∈[0,25,26,2,4,6,11,16,21,22,24],n≠i) (j:∀n∈[10,15,20],n≠i) (C:∀t∈[11,28,0],d≠t) (h:∀t∈[18,22,26],d≠t):FJ w0 b1 b2 b4 s (dc L i) (E.put (some d) v) w:=by
 obtain ⟨mp,X,x,u,B,F,H,D,G⟩:=e.hp;refine ⟨e.st.fill y z,mp,X,x,u,B,F,H,λc k A=>?_,G.ck (λ_ e=>e) i d v hi C⟩;have q:dc L i c.1=L c.1/\d≠c.2.1:=by
  simp only [g5,aB,a1,a7] at k;rcases k with rfl|rfl|rfl
  .exact ⟨gh (j 10 (by simp)),h 18 (by simp)⟩
  .exact ⟨gh (j 15 (by simp)),h 22 (by simp)⟩
  .exact ⟨gh (j 20 (by simp)),h 26 (by simp)⟩
 rw [im q.2];exact D c k (q.1▸A)
def FJ.ins (n:FJ w0 b1 b2 b4 s L E w) (i:Nat) (k:Int) (v:ae) (e:(i,k)∈dX) (B:L 0=true) (hi:L i=false) (Z:∀h,(b2,e8)∈h->(b4,eZ s)∈h->Joined (eZ s) h L E->qx h (eZ s) k v):
  ∃m,E.get? 11=some (.map (some m))/\∃u,(Instr.mapUpdate iW (.map (some m)) (.i k) v).run U w=.ok () u/\FJ w0 b1 b2 b4 s (dc L i) (E.put none undef) u:=by
 obtain ⟨mp,X,h,A,W,K,G,H,Y⟩:=n.hp;rcases Y with ⟨C,_⟩|⟨_,m,es,clock,ms,rfl,D,N,O,F,P,Q⟩
 .rw [B] at C;cases C
 have z:j9 ms k=none:=by have:=F _ e;rw [hi] at this;simpa using this
 obtain ⟨u,y,r1,r2,r3,r4,r5⟩:=Ry Ip (A.ob (b:=m) 0 rfl) N k v z;refine ⟨m,D,u,r1,n.st.pass ?_ (λ_ _=>by simp),[.ob m (.map y (clock+1))],X,h,A.g9 0 (.ob m (.map y (clock+1))) rfl (r4.mono λaa _ x=>by simp [En.ob,x]) r2 (λb T=>.inl T),W,K,G,λd c S=>?_,.inr ⟨?_,m,y,clock+1,ms++[(k,v)],rfl,D,r3,λM v' j=>?_,λd c=>?_,λn=>?_,λn=>?_⟩⟩
 .intro d c;simp only [dX,aB,a1,a7,ee] at e;simp only [b7,aB,a1,a7] at c
  (repeat' rcases c with rfl|c)<;>(try subst c)<;>simp only<;>omega
 .have x:dc L i d.1=L d.1:=gh (by simp only [dX,aB,a1,a7,ee] at e;simp only [g5,aB,a1,a7] at c;rcases c with rfl|rfl|rfl<;>simp only<;>omega)
  exact H d c (x▸S)
 .rw [gh (by simp only [dX,aB,a1,a7,ee] at e;omega),B]
 .rw [Io] at j;by_cases J:k=M
  .subst J;rw [z] at j;simp at j;subst j;exact Z h K G H
  .rw [af J] at j;simp at j;exact O M v' j
 .rw [Io];by_cases q:d.1=i
  .have:d.2=k:=by simp only [dX,aB,a1,a7,ee] at e;simp only [dX,aB,a1,a7] at c;rcases c with rfl|rfl|rfl|rfl|rfl|rfl|rfl|rfl<;>simp only at q ⊢<;>omega
   rw [q,Kz,this,z,aq rfl];rfl
  .have:k≠d.2:=by simp only [dX,aB,a1,a7,ee] at e;simp only [dX,aB,a1,a7] at c;rcases c with rfl|rfl|rfl|rfl|rfl|rfl|rfl|rfl<;>simp only at q ⊢<;>omega
   rw [gh q,af this,<-F d c];simp
 .exact P (by rwa [gh (by simp only [dX,aB,a1,a7,ee] at e;omega)] at n)
 .exact Q (by rwa [gh (by simp only [dX,aB,a1,a7,ee] at e;omega)] at n)
def FJ.call (A:FJ w0 b1 b2 b4 s L E w) (i d:Nat) (u z:J) (y:(i,d,u,z)∈g5 (eZ s)):ai U xu #[u.v,z.v] w λn Y=>∃v,n=V v/\FJ w0 b1 b2 b4 s (dc L i) (E.put (some d) v) Y:=by
 obtain ⟨mp,X,F,B,N,Q,O,P,S⟩:=A.hp;have Z:(i=10/\d=18)\/(i=15/\d=22)\/(i=20/\d=26):=by simp only [g5,aB,a1,a7,ee] at y;omega
 refine JU.ok _ _ _ _ _ _ _ _ w _ (B.nw λj aa C=>C.nw λw2 ab D=>⟨rq w.heap.size j.heap.size,rfl,A.st.pass ?_ ?_,mp,X++[dE w.heap.size u,dE j.heap.size z],(w.heap.size,u)::(j.heap.size,z)::F,?_,?_,by simp [Q],by simp [O],λh c M=>?_,S.ck (λp e=>by simp [e]) i d _ ?_ ?_⟩)
 .intro h c;simp only [b7,aB,a1,a7] at c
  (repeat' rcases c with rfl|c)<;>(try subst c)<;>simp only<;>omega
 .intro h c q;have q:d=h.2.1:=fQ q;simp only [b7,aB,a1,a7] at c
  (repeat' rcases c with rfl|c)<;>(try subst c)<;>simp only at q<;>omega
 .have n:mp++(n2 b1 b2 b4 s++(X++[dE w.heap.size u,dE j.heap.size z]))=mp++(n2 b1 b2 b4 s++X)++[dE w.heap.size u]++[dE j.heap.size z]:=by simp
  rw [n];exact D
 .intro p e;rcases aB.1 e with rfl|e
  .simp
  rcases aB.1 e with rfl|e
  .simp
  rw [<-cN];exact cW _ (N p e)
 .by_cases k:h.1=i
  .have:h=(i,d,u,z):=by simp only [g5,aB,a1,a7,ee] at y;simp only [g5,aB,a1,a7] at c;rcases c with rfl|rfl|rfl<;>simp only at k<;>rcases y with ⟨rfl,rfl,rfl,rfl⟩|⟨rfl,rfl,rfl,rfl⟩|⟨rfl,rfl,rfl,rfl⟩<;>first |rfl|(exact absurd k (by decide))
   subst this;exact ⟨_,_,rk,by simp,by simp⟩
  .have T:d≠h.2.1:=by simp only [g5,aB,a1,a7] at c;rcases c with rfl|rfl|rfl<;>simp only at k ⊢<;>omega
   obtain ⟨a,b,G,H,K⟩:=P h c (by rwa [gh k] at M);exact ⟨a,b,by rw [im T,G],by simp [H],by simp [K]⟩
 .intro W x;simp only [aB,a1,a7] at x;omega
 .intro W x;simp only [aB,a1,a7] at x;omega
def FJ.RB (e:FJ w0 b1 b2 b4 s L E w) (u:L 0=false):FJ w0 b1 b2 b4 s (dc L 0) (E.put (some 11) (.map (some w.heap.size))) (w.alloc (.map #[] 0)):=by
 obtain ⟨mp,X,q,n,B,G,C,D,H⟩:=e.hp;rcases H with ⟨_,rfl,x,y,z⟩|⟨k,_⟩
 .refine ⟨e.st.pass ?_ ?_,[.ob w.heap.size (.map #[] 0)],X,q,MP (n.alloc (.map #[] 0)) ?_,B,G,C,λd c A=>?_,.inr ⟨Kz,w.heap.size,#[],0,[],rfl,rk,rfl,λJ v F=>by simp [j9] at F,λd c=>?_,λe=>?_,λe=>?_⟩⟩
  .intro d c;simp only [b7,aB,a1,a7] at c
   (repeat' rcases c with rfl|c)<;>(try subst c)<;>simp
  .intro d c h;have h:11=d.2.1:=fQ h;simp only [b7,aB,a1,a7] at c
   (repeat' rcases c with rfl|c)<;>(try subst c)<;>simp at h
  .exact List.perm_append_comm
  .have j:dc L 0 d.1=L d.1/\11≠d.2.1:=by simp only [g5,aB,a1,a7] at c;rcases c with rfl|rfl|rfl<;>exact ⟨gh (by simp),by simp⟩
   rw [im j.2];exact D d c (j.1▸A)
  .rw [gh (by simp only [dX,aB,a1,a7] at c;rcases c with rfl|rfl|rfl|rfl|rfl|rfl|rfl|rfl<;>decide),x d c]
   simp [j9]
  .rw [gh (by decide),y] at e;cases e
  .rw [gh (by decide),z] at e;cases e
 .rw [u] at k;cases k
def FJ.Rs (e:FJ w0 b1 b2 b4 s L E w) (n:L 0=true):∃m,E.get? 11=some (.map (some m))/\FJ w0 b1 b2 b4 s (dc L 25) (E.put (some 28) (.map (some m))) w:=by
 obtain ⟨mp,X,y,x,F,J,G,H,K⟩:=e.hp;rcases K with ⟨q,_⟩|⟨_,m,k,clock,ms,rfl,u,z,A,B,M,C⟩
 .rw [n] at q;cases q
 refine ⟨m,u,e.st.pass ?_ ?_,[.ob m (.map k clock)],X,y,x,F,J,G,λd c D=>?_,.inr ⟨by rw [gh (by decide),n],m,k,clock,ms,rfl,by rw [im (by decide),u],z,A,λd c=>?_,λ_=>rk,λe=>?_⟩⟩
 .intro d c;simp only [b7,aB,a1,a7] at c
  (repeat' rcases c with rfl|c)<;>(try subst c)<;>simp
 .intro d c h;have h:28=d.2.1:=fQ h;simp only [b7,aB,a1,a7] at c
  (repeat' rcases c with rfl|c)<;>(try subst c)<;>simp at h
 .have j:dc L 25 d.1=L d.1/\28≠d.2.1:=by simp only [g5,aB,a1,a7] at c;rcases c with rfl|rfl|rfl<;>exact ⟨gh (by simp),by simp⟩
  rw [im j.2];exact H d c (j.1▸D)
 .rw [gh (by simp only [dX,aB,a1,a7] at c;rcases c with rfl|rfl|rfl|rfl|rfl|rfl|rfl|rfl<;>decide),B d c]
 .rw [im (by decide)];exact C (by rwa [gh (by decide)] at e)
def FJ.Ru (e:FJ w0 b1 b2 b4 s L E w) (n:L 0=true) (u:L 25=true):∃m,E.get? 28=some (.map (some m))/\FJ w0 b1 b2 b4 s (dc L 26) (E.put (some 0) (.map (some m))) w:=by
 obtain ⟨mp,X,z,y,G,K,H,J,M⟩:=e.hp;rcases M with ⟨q,_⟩|⟨_,m,k,clock,ms,rfl,A,B,C,D,x,N⟩
 .rw [n] at q;cases q
 refine ⟨m,x u,e.st.pass ?_ ?_,[.ob m (.map k clock)],X,z,y,G,K,H,λd c F=>?_,.inr ⟨by rw [gh (by decide),n],m,k,clock,ms,rfl,by rw [im (by decide),A],B,C,λd c=>?_,λe=>?_,λ_=>rk⟩⟩
 .intro d c;simp only [b7,aB,a1,a7] at c
  (repeat' rcases c with rfl|c)<;>(try subst c)<;>simp
 .intro d c h;have h:0=d.2.1:=fQ h;simp only [b7,aB,a1,a7] at c
  (repeat' rcases c with rfl|c)<;>(try subst c)<;>simp at h
 .have j:dc L 26 d.1=L d.1/\0≠d.2.1:=by simp only [g5,aB,a1,a7] at c;rcases c with rfl|rfl|rfl<;>exact ⟨gh (by simp),by simp⟩
  rw [im j.2];exact J d c (j.1▸F)
 .rw [gh (by simp only [dX,aB,a1,a7] at c;rcases c with rfl|rfl|rfl|rfl|rfl|rfl|rfl|rfl<;>decide),D d c]
 .rw [im (by decide)];exact x u
def FJ.ld (C:FJ w0 b1 b2 b4 s L E w) {u:J} {b:Nat} (F:dE b u∈n2 b1 b2 b4 s) {K:ae->Prop} (D:K u.v):ma U aK (aj b) w λv _=>K v:=by
 obtain ⟨mp,X,G,q,_⟩:=C.hp;have d:w.heap[b]? =some (.cells u.c.toArray aK (0,0)):=q.own (dE b u) (eP _ (cW _ F));have x:=cellAt (p:=aj b) (i:=0) (v:=.int .i64 u.k) d rfl rfl;have y:=cellAt (p:=aj b) (i:=1) (v:=.int .u8 (u.lo.toNat:Int)) d rfl rfl;have z:=cellAt (p:=aj b) (i:=2) (v:=.int .u8 (u.hi.toNat:Int)) d rfl rfl;have A:=cellAt (p:=aj b) (i:=3) (v:=u.s.v) d rfl rfl;have B:(ma U aK (aj b) w λv _=>K v)=(∃e:Int,∃h:Int,∃j:Int,∃n:O,w.cell? ((aj b).add 0)=some (.int .i64 e)/\w.cell? ((aj b).add 1)=some (.int .u8 h)/\w.cell? ((aj b).add 2)=some (.int .u8 j)/\w.cell? ((aj b).add 3)=some n.v/\K (.agg #[.int .i64 e,.int .u8 h,.int .u8 j,n.v])):=by kernel_rfl
 rw [B];exact ⟨_,_,_,u.s,x,y,z,A,D⟩
end
def PR (w:I) (F E B:Nat) (s:O):allI (vC U (FJ w F E B s)) wB 0:=
 ⟨λq n x o j h y k e c=>Uj j (by rw [h];exact c.RB k),
  λq n x o j h y k e c=>nA (.inl j) (c.st.get (i:=0) (d:=4) (v:=hX) (by simp [b7]) rfl) (by rw [h];exact c.stat 1 12 (hX) (by simp [b7]) (by simp [b7]) (by simp) (by simp) (by simp) (by simp)),
  λq n x o j h y k e c=>by obtain ⟨m,C,A,D,z⟩:=c.ins 2 0 (hX) (by simp [dX]) (e 0 (by simp)) k (λG J M H=>.inl ⟨.inl rfl,rfl⟩);exact oG j C rfl (c.st.get (i:=2) (d:=12) (v:=hX) (by simp [b7]) (e 1 (by simp))) ⟨A,D,by rw [h];exact z⟩,
  λq n x o j h y k e c=>nA (.inl j) (c.st.get (i:=0) (d:=4) (v:=hX) (by simp [b7]) rfl) (by rw [h];exact c.stat 3 13 (hX) (by simp [b7]) (by simp [b7]) (by simp) (by simp) (by simp) (by simp)),
  λq n x o j h y k e c=>by obtain ⟨m,C,A,D,z⟩:=c.ins 4 1 (hX) (by simp [dX]) (e 0 (by simp)) k (λG J M H=>.inl ⟨.inr (.inl rfl),rfl⟩);exact oG j C rfl (c.st.get (i:=4) (d:=13) (v:=hX) (by simp [b7]) (e 3 (by simp))) ⟨A,D,by rw [h];exact z⟩,
  λq n x o j h y k e c=>nA (.inl j) (c.st.get (i:=0) (d:=4) (v:=hX) (by simp [b7]) rfl) (by rw [h];exact c.stat 5 14 (hX) (by simp [b7]) (by simp [b7]) (by simp) (by simp) (by simp) (by simp)),
  λq n x o j h y k e c=>by obtain ⟨m,C,A,D,z⟩:=c.ins 6 2 (hX) (by simp [dX]) (e 0 (by simp)) k (λG J M H=>.inl ⟨.inr (.inr rfl),rfl⟩);exact oG j C rfl (c.st.get (i:=6) (d:=14) (v:=hX) (by simp [b7]) (e 5 (by simp))) ⟨A,D,by rw [h];exact z⟩,
  λq n x o j h y k e c=>nA (.inl j) (c.st.get (i:=0) (d:=5) (v:=jX) (by simp [b7]) rfl) (by rw [h];exact c.stat 7 15 (jX) (by simp [b7]) (by simp [b7]) (by simp) (by simp) (by simp) (by simp)),
  λq n x o j h y k e c=>qb j (c.st.get (i:=0) (d:=2) (v:=ptr E) (by simp [b7]) rfl) (c.ld (u:=e8) (b:=E) (aI (i:=1) rfl) (K:=λv=>FJ w F E B s (dc q 8) (n.put o.dst v) x) (by rw [h];exact c.stat 8 16 ((e8).v) (by simp [b7]) (by simp [b7]) (by simp) (by simp) (by simp) (by simp))),
  λq n x o j h y k e c=>qb j (c.st.get (i:=0) (d:=1) (v:=ptr F) (by simp [b7]) rfl) (c.ld (u:=cb) (b:=F) (aI (i:=0) rfl) (K:=λv=>FJ w F E B s (dc q 9) (n.put o.dst v) x) (by rw [h];exact c.stat 9 17 ((cb).v) (by simp [b7]) (by simp [b7]) (by simp) (by simp) (by simp) (by simp))),
  λq n x o j h y k e c=>by refine DV j (c.st.get (i:=8) (d:=15) (v:=jX) (by simp [b7]) (e 7 (by simp))) (c.st.get (i:=9) (d:=16) (v:=(e8).v) (by simp [b7]) (e 8 (by simp))) (c.st.get (i:=10) (d:=17) (v:=(cb).v) (by simp [b7]) (e 9 (by simp))) (by kernel_rfl) ((c.call 10 18 (e8) (cb) (by simp [g5])).mono ?_);rintro ab A ⟨v,W,z⟩;rw [y,show zeroOf U lL=.nilFunc from by kernel_rfl];exact ⟨v,W,by rw [h];exact z⟩,
  λq n x o j h y k e c=>by
   obtain ⟨mp,X,G,aa,hc,hm,ac,Y,ad⟩:=c.hp;obtain ⟨a,b,L,_,_⟩:=Y (10,18,e8,cb) (by simp [g5]) (e 10 (by simp));obtain ⟨m,C,A,D,z⟩:=c.ins 11 3 (rq a b) (by simp [dX]) (e 0 (by simp)) k (λG J M H=>by obtain ⟨N,P,Q,S,T⟩:=H (10,18,e8,cb) (by simp [g5]) (e 10 (by simp));exact .inr (.inl ⟨e8,cb,N,P,.inl ⟨rfl,rfl,rfl⟩,fQ (L.symm.trans Q),S,T⟩))
   exact oG j C rfl L ⟨A,D,by rw [h];exact z⟩,
  λq n x o j h y k e c=>nA (.inl j) (c.st.get (i:=0) (d:=5) (v:=jX) (by simp [b7]) rfl) (by rw [h];exact c.stat 12 19 (jX) (by simp [b7]) (by simp [b7]) (by simp) (by simp) (by simp) (by simp)),
  λq n x o j h y k e c=>qb j (c.st.get (i:=0) (d:=1) (v:=ptr F) (by simp [b7]) rfl) (c.ld (u:=cb) (b:=F) (aI (i:=0) rfl) (K:=λv=>FJ w F E B s (dc q 13) (n.put o.dst v) x) (by rw [h];exact c.stat 13 20 ((cb).v) (by simp [b7]) (by simp [b7]) (by simp) (by simp) (by simp) (by simp))),
  λq n x o j h y k e c=>qb j (c.st.get (i:=0) (d:=3) (v:=ptr B) (by simp [b7]) rfl) (c.ld (u:=eZ s) (b:=B) (aI (i:=3) rfl) (K:=λv=>FJ w F E B s (dc q 14) (n.put o.dst v) x) (by rw [h];exact c.stat 14 21 ((eZ s).v) (by simp [b7]) (by simp [b7]) (by simp) (by simp) (by simp) (by simp))),
  λq n x o j h y k e c=>by refine DV j (c.st.get (i:=13) (d:=19) (v:=jX) (by simp [b7]) (e 12 (by simp))) (c.st.get (i:=14) (d:=20) (v:=(cb).v) (by simp [b7]) (e 13 (by simp))) (c.st.get (i:=15) (d:=21) (v:=(eZ s).v) (by simp [b7]) (e 14 (by simp))) (by kernel_rfl) ((c.call 15 22 (cb) (eZ s) (by simp [g5])).mono ?_);rintro ab A ⟨v,W,z⟩;rw [y,show zeroOf U lL=.nilFunc from by kernel_rfl];exact ⟨v,W,by rw [h];exact z⟩,
  λq n x o j h y k e c=>by
   obtain ⟨mp,X,G,aa,hc,hm,ac,Y,ad⟩:=c.hp;obtain ⟨a,b,L,_,_⟩:=Y (15,22,cb,eZ s) (by simp [g5]) (e 15 (by simp));obtain ⟨m,C,A,D,z⟩:=c.ins 16 4 (rq a b) (by simp [dX]) (e 0 (by simp)) k (λG J M H=>by obtain ⟨N,P,Q,S,T⟩:=H (15,22,cb,eZ s) (by simp [g5]) (e 15 (by simp));exact .inr (.inl ⟨cb,eZ s,N,P,.inr (.inl ⟨rfl,rfl,rfl⟩),fQ (L.symm.trans Q),S,T⟩))
   exact oG j C rfl L ⟨A,D,by rw [h];exact z⟩,
  λq n x o j h y k e c=>nA (.inl j) (c.st.get (i:=0) (d:=5) (v:=jX) (by simp [b7]) rfl) (by rw [h];exact c.stat 17 23 (jX) (by simp [b7]) (by simp [b7]) (by simp) (by simp) (by simp) (by simp)),
  λq n x o j h y k e c=>qb j (c.st.get (i:=0) (d:=3) (v:=ptr B) (by simp [b7]) rfl) (c.ld (u:=eZ s) (b:=B) (aI (i:=3) rfl) (K:=λv=>FJ w F E B s (dc q 18) (n.put o.dst v) x) (by rw [h];exact c.stat 18 24 ((eZ s).v) (by simp [b7]) (by simp [b7]) (by simp) (by simp) (by simp) (by simp))),
  λq n x o j h y k e c=>qb j (c.st.get (i:=0) (d:=1) (v:=ptr F) (by simp [b7]) rfl) (c.ld (u:=cb) (b:=F) (aI (i:=0) rfl) (K:=λv=>FJ w F E B s (dc q 19) (n.put o.dst v) x) (by rw [h];exact c.stat 19 25 ((cb).v) (by simp [b7]) (by simp [b7]) (by simp) (by simp) (by simp) (by simp))),
  λq n x o j h y k e c=>by refine DV j (c.st.get (i:=18) (d:=23) (v:=jX) (by simp [b7]) (e 17 (by simp))) (c.st.get (i:=19) (d:=24) (v:=(eZ s).v) (by simp [b7]) (e 18 (by simp))) (c.st.get (i:=20) (d:=25) (v:=(cb).v) (by simp [b7]) (e 19 (by simp))) (by kernel_rfl) ((c.call 20 26 (eZ s) (cb) (by simp [g5])).mono ?_);rintro ab A ⟨v,W,z⟩;rw [y,show zeroOf U lL=.nilFunc from by kernel_rfl];exact ⟨v,W,by rw [h];exact z⟩,
  λq n x o j h y k e c=>by
   obtain ⟨mp,X,G,aa,hc,hm,ac,Y,ad⟩:=c.hp;obtain ⟨a,b,L,_,_⟩:=Y (20,26,eZ s,cb) (by simp [g5]) (e 20 (by simp));obtain ⟨m,C,A,D,z⟩:=c.ins 21 5 (rq a b) (by simp [dX]) (e 0 (by simp)) k (λG J M H=>by obtain ⟨N,P,Q,S,T⟩:=H (20,26,eZ s,cb) (by simp [g5]) (e 20 (by simp));exact .inr (.inl ⟨eZ s,cb,N,P,.inr (.inr ⟨rfl,rfl,rfl⟩),fQ (L.symm.trans Q),S,T⟩))
   exact oG j C rfl L ⟨A,D,by rw [h];exact z⟩,
  λq n x o j h y k e c=>by obtain ⟨m,C,A,D,z⟩:=c.ins 22 6 (.func (.func rB) #[] #[]) (by simp [dX]) (e 0 (by simp)) k (λG J M H=>.inr (.inr (.inl ⟨rfl,rfl⟩)));exact oG j C rfl rfl ⟨A,D,by rw [h];exact z⟩,
  λq n x o j h y k e c=>Ui j (c.st.get (i:=0) (d:=2) (v:=ptr E) (by simp [b7]) rfl) (c.st.get (i:=0) (d:=3) (v:=ptr B) (by simp [b7]) rfl) (by rw [h];exact c.stat 23 27 (yA E B) (by simp [b7]) (by simp [b7]) (by simp) (by simp) (by simp) (by simp)),
  λq n x o j h y k e c=>by obtain ⟨m,C,A,D,z⟩:=c.ins 24 7 (yA E B) (by simp [dX]) (e 0 (by simp)) k (λG J M H=>.inr (.inr (.inr ⟨E,B,rfl,rfl,J,M⟩)));exact oG j C rfl (c.st.get (i:=24) (d:=27) (v:=yA E B) (by simp [b7]) (e 23 (by simp))) ⟨A,D,by rw [h];exact z⟩,
  λq n x o j h y k e c=>by obtain ⟨m,Z,z⟩:=c.Rs (e 0 (by simp));exact nA (.inl j) Z (by rw [h];exact z),
  λq n x o j h y k e c=>by obtain ⟨m,Z,z⟩:=c.Ru (e 0 (by simp)) (e 25 (by simp));exact nA (.inr j) Z (by rw [h];exact z),trivial⟩
def PT {w k:I} {h d e:Nat} {s:O} {E:Env} (H:LH F0 w k (n2 h d e s) []) (n:E.get? 1=some (ptr h)) (q:E.get? 2=some (ptr d)) (u:E.get? 3=some (ptr e)) (x:E.get? 4=some hX) (y:E.get? 5=some jX):FJ w h d e s (λ_=>false) E k.drew:=by
 refine ⟨λB c A=>?_,[],[],[(d,e8),(e,eZ s)],by simpa using H.drew,?_,by simp,by simp,λB c z=>(by cases z),.inl ⟨rfl,rfl,λ_ _=>rfl,rfl,rfl⟩⟩
 .simp only [b7,aB,a1,a7] at c
  (repeat' rcases c with rfl|c)<;>(try subst c)<;>first |exact n|exact q|exact u|exact x|exact y|cases A
 .intro p j;simp only [aB,a1,a7] at j;rcases j with rfl|rfl<;>simp
def PO {w n:I} {z A B:Nat} {s:O} {L:Nat->Bool} {E:Env} (x:∀i,i<wB.length->L i=true) (W:FJ w z A B s L E n):∃u:Fm,E.get? 0=some (.map (some u.m))/\u.Ok/\(En.fm u).P n/\(∀b∈(En.fm u).fp,w.heap.size<=b)/\ao w n:=by
 have hlen:wB.length=27:=rfl;obtain ⟨mp,X,C,j,hc,hm,ad,hj,ab⟩:=W.hp;rcases ab with ⟨F,_⟩|⟨_,m,D,clock,ms,rfl,h2,N,Q,S,h6,T⟩
 .rw [x 0 (by omega)] at F;cases F
 have mem:∀p∈C,dE p.1 p.2∈[En.ob m (.map D clock)]++(n2 z A B s++X):=λp q=>eP _ (hc p q);have ac:aS n aK 4 s cb.c:=j.get (e:=.row aK 4 s cb.c) 3 rfl;refine ⟨⟨m,D,clock,ms,C,s⟩,T (x 26 (by omega)),⟨N,λh h0 h8=>?_⟩,λM d=>?_,λb Y=>?_,j.fr⟩
 .have aa:∃i,(i,h)∈dX/\i<27:=by
   have:h=0\/h=1\/h=2\/h=3\/h=4\/h=5\/h=6\/h=7:=by omega
   rcases this with rfl|rfl|rfl|rfl|rfl|rfl|rfl|rfl
   .exact ⟨2,by simp [dX],by omega⟩
   .exact ⟨4,by simp [dX],by omega⟩
   .exact ⟨6,by simp [dX],by omega⟩
   .exact ⟨11,by simp [dX],by omega⟩
   .exact ⟨16,by simp [dX],by omega⟩
   .exact ⟨21,by simp [dX],by omega⟩
   .exact ⟨22,by simp [dX],by omega⟩
   .exact ⟨24,by simp [dX],by omega⟩
  obtain ⟨i,hi,ae⟩:=aa;have G:=S _ hi;rw [x i (by omega)] at G;obtain ⟨v,K⟩:=Option.isSome_iff_exists.1 G;exact ⟨v,K,Q h v K⟩
 .rcases aB.1 d with rfl|d
  .exact j.own _ (by simp)
  rcases aB.1 d with rfl|d
  .show J.P n (eZ s);unfold J.P J.Ps J.Ps;exact ⟨ac.bz,jQ n,trivial⟩
  .obtain ⟨p,q,rfl⟩:=cQ.1 d;exact j.own _ (mem p q)
 .obtain ⟨M,d,y⟩:=ch.1 (aT.1 Y);rcases aB.1 d with rfl|d
  .exact (j.new _ (aI (i:=0) rfl) b y).resolve_right id
  rcases aB.1 d with rfl|d
  .have k:b∈(eZ s).fp:=aT.1 y;unfold J.fp at k;rcases a5.1 k with k|k
   .exact (j.new _ (aI (i:=3) rfl) b (gb k)).resolve_right id
   .obtain ⟨t,H,Z⟩:=J.bR.1 k;simp at H;subst H;exact (jR Z).elim
  .obtain ⟨p,q,rfl⟩:=cQ.1 d;exact (j.new _ (mem p q) b y).resolve_right id
def N4 (w:I):ai U BZ #[] w λr h=>(∃d:Fm,r=V (.map (some d.m))/\d.Ok/\(En.fm d).P h/\∀b∈(En.fm d).fp,w.heap.size<=b)/\ao w h:=by refine JR.ok w _ ((bZ [] (by simp)).nw λj _ u=>u.nw λM _ A=>A.jq 0 rfl λS B=>B.jq 1 rfl λk e=>⟨0,0,0,⟨none,0,0⟩,e.ld 0 0,e.ld 0 1,e.ld 0 2,e.ld 0 3,e.eb (n:=1) (sz:=4) (cs:=cb.c) rfl (by decide) λq x=>x.nw λQ _ y=>y.jq 3 rfl λL z=>?_⟩);have C:LH F0 w L (n2 w.heap.size j.heap.size q.heap.size ⟨some (aj k.heap.size),1,1⟩) []:=z;refine HJ wB (by kernel_rfl) (FJ w w.heap.size j.heap.size q.heap.size ⟨some (aj k.heap.size),1,1⟩) (PT C rfl rfl rfl rfl rfl) (PR _ _ _ _ _) λO N M K J=>?_;obtain ⟨d,D,E,F,G,H⟩:=PO K J;exact Tt (by kernel_rfl) D ⟨⟨d,rfl,E,F,G⟩,H⟩
section
variable {M:Nat->Prop} {w0 w:I} {L D:List En}
def _root_.Go.W.LH.Na (H:LH M w0 w L D) (i:Nat) {P:aM} {t ty e:aG} {z:ae} {sz bytes:Nat} (j:gy P t e z sz bytes) {T:aG} {s:O} {xs:List ae} {news:Array ae} {A:I->Prop} {K:O->I->Prop}
  (hi:L[i]? =some (.row e sz s xs)) (u:∀c,LH M w0 c L D->A c) (x:∀d c,LH M w0 c (L.set i (.row e sz d (xs++news.toList))) D->K d c) (y:(s.n+1) *bytes<=140737488355328) (B:news.size=sz:=by rfl) (q:∀C∈news.toList,C.oneCell'=true:=by simp [Value.oneCell']):
  aN w (.cells news T) λh=>A h/\∃d c,(bb #[t,t] ty #[s.v,.slice (some (Addr.mk w.heap.size 0 none)) 1 1]).run P h=.ok d.v c/\K d c:=
 ⟨u _ (H.bA (Fr.alloc _ _ _)),H.zq i j hi (λd c k _ _=>x d c k) y B q⟩
end
mutual
def dg:Rx->Rx|.mk k lo hi l=>g4 (.mk k lo hi (ej l))
def ej:List Rx->List Rx
 |[]=>[]
 |a::l=>dg a::ej l
end
def PD (N:Nat):Rx->Bool|.mk k _ _ l=>ah (k=4\/k=5->rM k l<=N)
def pJ (N:Nat) (y:Rx):Bool:=jK y&&ah (y.sz<=1000000)&&PD N y
mutual
def n0 (N:Nat):Rx->Bool|.mk k lo hi l=>po N l&&pJ N (.mk k lo hi (ej l))
def po (N:Nat):List Rx->Bool
 |[]=>true
 |a::l=>n0 N a&&po N l
end
def Hi {N:Nat}:∀{l:List Rx} {a:Rx},po N l=true->a∈l->n0 N a=true
 |b::l,a,c,d=>by
  unfold po at c;rw [bn] at c;rcases aB.1 d with rfl|d
  .exact c.1
  .exact Hi c.2 d
def pH:∀l:List Rx,ej l=l.map dg
 |[]=>rfl
 |a::l=>by unfold ej;rw [pH l];rfl
def IJ {M:Nat->Prop} {w0 w:I} {L D:List En} (H:LH M w0 w L D):LH M w0 w L (D++[.trees []]):=
 H.fo (.trees []) (Fr.refl _ _) (by show J.Ps w [];unfold J.Ps;trivial) (λb c=>by have:=aT.1 c;unfold J.a' at this;cases this)
def rh {acc:List J} {t:J} {Q:Nat->Prop} (e:∀b∈J.a' acc,Q b) (j:∀b∈t.fp,Q b):∀b∈J.a' (acc++[t]),Q b:=by
 intro b h;obtain ⟨k,c,d⟩:=J.bR.1 h;rcases a5.1 c with c|c
 .exact e b (J.bR.2 ⟨k,c,d⟩)
 .simp at c;rw [c] at d;exact j b d
abbrev MS (N:Nat) (F:Fm) (n:Nat):Prop:=∀(x:J) (w:I),x.sz<=n->n0 N x.rx=true->(En.fm F).P w->x.P w->ai U t' #[.map (some F.m),x.v] w λr c=>fR (x.fp++(En.fm F).fp) w (dg x.rx) r c/\ao w c
def FB {N:Nat} (hS:qH N) (hN:N+1<=1000000) {F:Fm} (hF:F.Ok):∀Q:Nat,Q<=1000000->MS N F Q
 |0,_=>λe y ad _ _ _=>absurd ad (by have:=J.kS e;omega)
 |Q+1,hn=>λe y ad aa pF px=>by
  have ih:=FB hS hN hF Q (by omega);have hs:=J.hC e;have hl:=J.fi e.l;have nr:=J.cj px.parts.1;have ab:po N (J.ax e.l)=true/\pJ N (.mk e.k e.lo e.hi (ej (J.ax e.l)))=true:=by
   rw [J.eQ] at aa;unfold n0 at aa
   rwa [bn] at aa
  have ae:0<=e.k/\e.k<8:=by have:=ab.2;unfold pJ jK at this;simp only [bn,decide_eq_true_eq] at this;exact this.1.1.1
  have loop:∀(d i:Nat) (acc:List J) (j:O) (B C A:Nat) (x:I),i+d=e.l.length->J.ax acc=ej (J.ax (e.l.take i))->(∀b∈J.a' acc,y.heap.size<=b\/b∈e.fp++(En.fm F).fp)->
    LH F0 y x [.c B e.c aK,.c C [.int .i64 0,.int .u8 0,.int .u8 0,.slice none 0 0] aK,.c A [.int .i64 e.k,.int .u8 (e.lo.toNat:Int),.int .u8 (e.hi.toNat:Int),j.v] aK,.row aK 4 j (acc.flatMap J.c)] [.tree e,.fm F,.trees acc]->
    uF.L0 (some F.m) (aj B) (aj C) (aj A) e.s ((e.s.n:Nat):Int) (i:Int) x λr w'=>fR (e.fp++(En.fm F).fp) y (dg e.rx) r w'/\ao y w':=by
   intro d;induction d with
   |zero=>
    intro i acc j B C A x an w Z q;rw [e1 (by omega)] at w;obtain ⟨f,f1,f2,f3⟩:=NY hS (by omega) hF (q.getD 1) e.k ae.1 ae.2;have ap:∀b∈(J.row j acc).fp,y.heap.size<=b:=λb h=>(q.new _ (aI (i:=3) rfl) b (gb h)).resolve_right id;have H:LH F0 y x [.c B e.c aK,.c C [.int .i64 0,.int .u8 0,.int .u8 0,.slice none 0 0] aK,.c A [.int .i64 e.k,.int .u8 (e.lo.toNat:Int),.int .u8 (e.hi.toNat:Int),j.v] aK] [.tree e,.fm F,.trees acc,J.row j acc,.tree (.mk e.k e.lo e.hi j acc)]:=q.pS 3 2 e.k e.lo e.hi;have au:(J.mk e.k e.lo e.hi j acc).P x:=H.getD 4;have W:(J.mk e.k e.lo e.hi j acc).rx=.mk e.k e.lo e.hi (ej (J.ax e.l)):=by unfold J.rx;rw [w]
    have G:=ab.2;unfold pJ at G;simp only [bn,decide_eq_true_eq] at G;have aq:(J.mk e.k e.lo e.hi j acc).sz<=1000000:=by have E:=J.ed (J.mk e.k e.lo e.hi j acc);rw [W] at E;rw [<-E];exact G.1.2
    have am:e.k=4\/e.k=5->rM e.k (J.ax acc)<=N:=λhk=>by rw [w];exact ef G.2 hk
    have al:dg e.rx=g4 (J.mk e.k e.lo e.hi j acc).rx:=by rw [W,J.eQ];unfold dg;rfl
    refine uF.b5 _ _ _ _ _ _ _ _ _ (a9 (a0 (by omega)) ⟨e.k,q.ld 0 0,f,f1,_,_,_,j,q.ld 2 0,q.ld 2 1,q.ld 2 2,q.ld 2 3,?_⟩);rw [f2];refine (show cH true _ from ?_);refine (f3 (.mk e.k e.lo e.hi j acc) x (q.getD 1) au rfl am aq (by rw [W];exact G.1.1)).mono ?_;rintro _ w2 ⟨⟨t,rfl,ht,pt,D⟩,Y⟩;have T:=H.fo (.tree t) Y pt (λb h=>by
     rcases D b (aT.1 h) with h|h
     .exact .inl h
     .rcases a5.1 h with h|h
      .exact .inr (.inr ⟨_,aI (i:=4) rfl,aT.2 h⟩)
      .exact .inr (.inr ⟨_,aI (i:=1) rfl,h⟩))
    refine ⟨_,_,_,t.s,rfl,T.jq 1 rfl λw3 z=>⟨_,_,_,t.s,z.ld 1 0,z.ld 1 1,z.ld 1 2,z.ld 1 3,⟨t,rfl,by rw [al];exact ht,z.getD 5,λb h=>?_⟩,z.fr⟩⟩;rcases D b h with h|h
    .exact .inl (bH q.fr.size h)
    .rcases a5.1 h with h|h
     .unfold J.fp at h;rcases a5.1 h with h|h
      .exact .inl (ap b h)
      .exact Z b h
     .exact .inr (eP _ h)
   |succ d ar=>
    intro i acc j B C A x an w Z q;have L:e.l[i]? =some (e.l[i]'(by omega)):=bc (by omega);generalize e.l[i]'(by omega)=a at L;have M:=aI L;have aA:=J.dV M;have fa:n0 N a.rx=true:=Hi ab.1 (by rw [J.fh];exact cQ.2 ⟨a,M,rfl⟩);have ac:∀b∈a.fp,b∈e.fp:=λb h=>J.fX.2 (.inr (J.bR.2 ⟨a,M,h⟩));refine uF.b5 _ _ _ _ _ _ _ _ _ (bd (aW (by omega)) (hR (show e.P x from q.getD 0) rfl L (q.nw λw8 _ H8=>H8.jq 4 rfl λaC ag=>ag.dr λaf u=>⟨j,u.ld 2 3,a.k,a.lo.toNat,a.hi.toNat,a.s,u.ld 4 0,u.ld 4 1,u.ld 4 2,u.ld 4 3,?_⟩)));refine (ih a af (by omega) fa (u.getD 1) ((show e.P af from u.getD 0).parts.2.mem M)).mono ?_;rintro _ aD ⟨⟨t,rfl,ht,pt,D⟩,Y⟩;have S:=u.fo (.tree t) Y pt (λb h=>by
     rcases D b (aT.1 h) with h|h
     .exact .inl h
     .rcases a5.1 h with h|h
      .exact .inr (.inr ⟨_,aI (i:=0) rfl,aT.2 (ac b h)⟩)
      .exact .inr (.inr ⟨_,aI (i:=1) rfl,h⟩))
    have ay:acc.length=i:=by have E:=congrArg List.length w;rw [J.fh,pH,J.fh] at E;simp only [List.length_map,dL] at E;omega
    have az:=J.cj (S.get 3:aS _ _ _ _ _).bz;refine ⟨_,_,_,t.s,rfl,S.ld 2 3,S.Na 3 pf (xs:=acc.flatMap J.c) rfl (λw' H=>H.ld 2 3) (λs' aE ah=>ah.st 2 3 rfl λav ai=>?_) (by omega)⟩;rw [bw _ (by omega)];have ak:=(ai.p9 2 3).take 4;refine ar (i+1) (acc++[t]) s' B C A av (by omega) ?_ (rh Z λb h=>?_) ?_
    .rw [jm,w,gC,L,Option.toList_some,jm,pH,pH,ke];show _++[t.rx]=_;rw [ht];rfl
    .rcases D b h with h|h
     .exact .inl (bH u.fr.size h)
     .rcases a5.1 h with h|h
      .exact .inr (cW _ (ac b h))
      .exact .inr (eP _ h)
    .rw [kD];exact ak.forget _ (by simp)
  refine uF.ok _ _ _ _ _ y _ ((bZ [.tree e,.fm F] (by
   intro aw w;simp only [aB,a1,a7] at w;rcases w with rfl|rfl
   .exact px
   .exact pF)).nw λx _ H1=>H1.nw λw2 _ K=>⟨e.k,K.ld 0 0,e.lo.toNat,K.ld 0 1,e.hi.toNat,K.ld 0 2,K.nw λw3 _ T=>T.jq 2 rfl λw7 H7=>⟨e.s,H7.ld 0 3,?_⟩⟩)
  exact loop e.l.length 0 [] ⟨none,0,0⟩ _ _ _ w7 (by omega) rfl (λb h=>by unfold J.a' at h;cases h) (IJ (H7.jP aK 4))
def Oe {N:Nat} (j:qH N) (h:N+1<=1000000) {F:Fm} (e:F.Ok) (x:J) (w:I) (d:x.sz<=1000000) (k:n0 N x.rx=true) (n:(En.fm F).P w) (q:x.P w):ai U t' #[.map (some F.m),x.v] w λr c=>fR (x.fp++(En.fm F).fp) w (dg x.rx) r c/\ao w c:=
 FB j h e 1000000 (bB _) x w d k n q
section
variable {M:Nat->Prop} {w0 w:I} {L D:List En} {bs:List Nat}
def _root_.Go.W.LH.pa (H:LH M w0 w L D) {P:aM} {g:FuncId} {args:Array ae} {K:aa} {c:List Nat} {x:Rx} (q:ai P g args w λr w'=>fR c w x r w'/\ao w w') (hold:∀b∈c,∃g∈D,b∈g.fp)
  (u:∀(t:J) (w':I),t.rx=x->LH M w0 w' L (D++[.tree t])->(∀b∈t.fp,w.heap.size<=b\/b∈c)->K (V t.v) w'):cU bs P g args w K:=
 iH (q.mono λr w' ⟨⟨t,h,j,k,d⟩,f⟩=>⟨f,by
  subst h;exact u t w' j (H.fo (.tree t) f k λb n=>(d b (aT.1 n)).imp id λe=>.inr (hold b e)) d⟩)
end
namespace l3
noncomputable abbrev X:Fx:=⟨U,Tryz.f114,[(6,ls [0,1,2,3,4,5,6,7,8]),(8,ls [0,1,2,3,4,5,6,7,8]),(13,ls [0,1,2,3,4,5,6,7,8,9,10,11])],[2,3]⟩
abbrev P0:Ps:=[(2,.l [.I,.Y,.Y,.s] aF),(3,.l [.I,.Y,.Y,.s] aF),(5,.v [.s]),(6,.v [.s]),(7,.v [.I])]
def aP (c:Nat) (d e h:Int) (j:O) (k:Nat) (n q u:Int) (x z A:O) (y:Int) (w:I) (R:aa):Prop:=br P0 0 (X.Sem (ak [0,1,1,1,3])) c d e h j k n q u x z A y w R
noncomputable def aZ:=bD X (ak [0,1,1,1,3]) P0 aP::[]
abbrev P1:Ps:=[(2,.l [.I,.Y,.Y,.s] aF),(3,.l [.I,.Y,.Y,.s] aF),(8,.v [.I])]
def b6 (c:Nat) (d e h:Int) (j:O) (k:Nat) (n q u:Int) (x:O) (y:Int) (w:I) (R:aa):Prop:=br P1 0 (X.Sem (ak [0,1,1,1,4])) c d e h j k n q u x y w R
noncomputable def cC:=bD X (ak [0,1,1,1,4]) P1 b6::aZ
abbrev aY (e:Nat) (h j k:Int) (c:O) (q:Nat) (u x y:Int) (d:O) (w:I) (R:aa):Prop:=
 Y (ah (((c.n:Nat):Int)<((d.n:Nat):Int))) (R (V (.i (-1))) w) (Y (ah (((c.n:Nat):Int)>((d.n:Nat):Int))) (R (V (.i 1)) w) (R (V (.i 0)) w))
noncomputable def bm:=aC X cC (ak [5]) [(2,.l [.I,.Y,.Y,.s] aF),(3,.l [.I,.Y,.Y,.s] aF)] aY::cC
def eV:∀(d:Nat) (k q u:Int) (e:O) (h:Nat) (x y z:Int) (j:O) (c:Int) (w:I) (R:aa) (N:Y (ah (c<((e.n:Nat):Int))) (Y (ah (c<((j.n:Nat):Int))) (aw e c λC=>loc [d,h] w λA=>aV A (C.add (ag c *4)) λD E F G=>aw j c λH=>aV A (H.add (ag c *4)) λJ K L M=>b0 [d,h] na #[.agg #[.i D,.int .u8 E,.int .u8 F,G.v],.agg #[.i J,.int .u8 K,.int .u8 L,M.v]] A λt74 B=>Y (t74 !=0) (R (V (.i t74)) B) (b6 d k q u e h x y z j (ab .i64 (c+1)) B R)) (aY d k q u e h x y z j w R)) (aY d k q u e h x y z j w R)),b6 d k q u e h x y z j c w R:=mp (bF (X:=X) bm (ak [0,1,1,1,4]) P1)
def bW:∀(d:Nat) (q u x:Int) (y:O) (e:Nat) (z A B:Int) (C k n:O) (c:Int) (w:I) (R:aa) (H:Y (ah (c<3)) (aw k c λD=>loc [d,e] w λh=>∃t35:Int,h.cell? (D.add (ag c *1))=some (.i t35)/\
 aw n c λE=>∃t39:Int,h.cell? (E.add (ag c *1))=some (.i t39)/\
 Y (ah (t35<t39)) (R (V (.i (-1))) h) (aw k c λF=>loc [d,e] h λj=>∃t44:Int,j.cell? (F.add (ag c *1))=some (.i t44)/\
 aw n c λG=>∃t48:Int,j.cell? (G.add (ag c *1))=some (.i t48)/\
 Y (ah (t44>t48)) (R (V (.i 1)) j) (aP d q u x y e z A B C k n (ab .i64 (c+1)) j R))) (b6 d q u x y e z A B C 0 w R)),aP d q u x y e z A B C k n c w R:=mp (bF (X:=X) bm (ak [0,1,1,1,3]) P0)
def aD (c d e:Int) (n:O) (h j k:Int) (q:O) (w:I) (R:aa) (A:aJ [] w λu B=>
 aJ [u] B λz x=>
 aN x (.cells #[.i c,.i (ab .i64 d),.i (ab .i64 e)] bX) λy=>
 aN y (.cells #[.i h,.i (ab .i64 j),.i (ab .i64 k)] bX) λC=>
 aP u c d e n z h j k q ⟨some (nb x),3,3⟩ ⟨some (nb y),3,3⟩ 0 C R):ai U na #[.agg #[.i c,.int .u8 d,.int .u8 e,n.v],.agg #[.i h,.int .u8 j,.int .u8 k,q.v]] w R:=aE X bm A
end l3
def jS {p:Addr} {K:Addr->Prop} (c:K p):ct (some p) K:=c
def z6 {x y:Int} (l:List Int) (c:x<y):dU (cv x y::l)=-1:=by unfold dU cv;simp [c]
def z5 {x y:Int} (l:List Int) (c:y<x):dU (cv x y::l)=1:=by unfold dU cv;rw [af (show ¬x<y by omega),aq c];simp
def z3 {x y:Int} (l:List Int) (c:¬x<y) (d:¬y<x):dU (cv x y::l)=dU l:=by
 conv=>lhs;unfold dU cv
 rw [af c,af d];simp
abbrev MX (n:Nat):Prop:=∀(a b:J) (w:I),a.sz<=n->a.P w->b.P w->ai U na #[a.v,b.v] w λr c=>r=V (.int .i64 (a8 a.rx b.rx))/\ao w c
def FF:∀S:Nat,S<=1000000->MX S
 |0,_=>λa b z e _ _=>absurd e (by have:=J.kS a;omega)
 |S+1,hn=>λa b z e pa pb=>by
  have ih:=FF S (by omega);have hs:=J.hC a;have hl:=J.fi a.l;have na:=J.cj pa.parts.1;have al:=J.cj pb.parts.1;have u:a8 a.rx b.rx=if dU [cv a.k b.k,cv a.lo.toNat b.lo.toNat,cv a.hi.toNat b.hi.toNat]≠0 then dU [cv a.k b.k,cv a.lo.toNat b.lo.toNat,cv a.hi.toNat b.hi.toNat] else cmpL (J.ax a.l) (J.ax b.l):=by rw [J.eQ a,J.eQ b];unfold a8;rfl
  have ai:∀(d i:Nat) (n q:Nat) (F:I),i+d=a.l.length->i<=b.l.length->cmpL (J.ax (a.l.drop i)) (J.ax (b.l.drop i))=a8 a.rx b.rx->LH F0 z F [.g n,.g q] [.tree a,.tree b]->
    l3.b6 n a.k a.lo.toNat a.hi.toNat a.s q b.k b.lo.toNat b.hi.toNat b.s (i:Int) F λr K=>r=V (.int .i64 (a8 a.rx b.rx))/\ao z K:=by
   intro d;induction d with
   |zero=>
    intro i n q F aa ag h A;rw [dt (by omega:a.l.length<=i)] at h;refine l3.eV _ _ _ _ _ _ _ _ _ _ _ _ _ (a9 (a0 (by omega)) (aR (λe=>⟨?_,A.fr⟩) (λe=>aR (λj=>?_) (λj=>⟨?_,A.fr⟩))))
    .rw [dq (by omega:i<b.l.length)] at h;rw [<-h];rfl
    .omega
    .rw [dt (by omega:b.l.length<=i)] at h;rw [<-h];rfl
   |succ d ah=>
    intro i n q F aa ag h A;have H:a.l[i]? =some (a.l[i]'(by omega)):=bc (by omega);rw [dq (by omega:i<a.l.length)] at h;generalize a.l[i]'(by omega)=x at H h;have an:=J.dV (aI H);refine l3.eV _ _ _ _ _ _ _ _ _ _ _ _ _ (bd (aW (by omega)) (aR (λac=>⟨by omega,by omega,?_⟩) (λak=>aR (λe=>?_) (λe=>aR (λj=>⟨?_,A.fr⟩) (λj=>?_)))))
    .have Z:b.l[i]? =some (b.l[i]'(by omega)):=bc (by omega);rw [dq (by omega:i<b.l.length)] at h;generalize b.l[i]'(by omega)=y at Z h;refine J.cY (show a.P F from A.getD 0).parts.1 H λp hp _=>A.au λw B=>?_;have c:=J.again (show a.P w from B.getD 0).parts.1 H hp;refine ⟨_,_,_,_,c.c0,c.c1,c.c2,c.c3,by omega,by omega,J.cY (show b.P w from B.getD 1).parts.1 Z λam hq Q=>⟨_,_,_,_,Q.c0,Q.c1,Q.c2,Q.c3,B.aA (ih x y w (by omega) ((show a.P w from B.getD 0).parts.2.get H) ((show b.P w from B.getD 1).parts.2.get Z)) ?_⟩⟩;rintro _ T rfl C;have e2:cmpL (J.ax (x::a.l.drop (i+1))) (J.ax (y::b.l.drop (i+1)))=if a8 x.rx y.rx≠0 then a8 x.rx y.rx else cmpL (J.ax (a.l.drop (i+1))) (J.ax (b.l.drop (i+1))):=rfl;rw [e2] at h;refine ⟨_,rfl,dG (λY=>⟨?_,C.fr⟩) (λY=>?_)⟩
     .rw [aq Y] at h;rw [h]
     .rw [af (by simpa using Y)] at h;rw [bw _ (by omega)];exact ah (i+1) n q T (by omega) (by omega) h C
    .omega
    .rw [dt (by omega:b.l.length<=i)] at h;rw [<-h];rfl
    .omega
  have W:∀(c:UInt8),ab .i64 (c.toNat:Int)=(c.toNat:Int):=λc=>a4 _ (by have:=c.toNat_lt;omega);refine l3.aD _ _ _ _ _ _ _ _ z _ ((bZ [.tree a,.tree b] (by
   intro u h;simp only [aB,a1,a7] at h;rcases h with rfl|rfl
   .exact pa
   .exact pb)).aL λn F H1=>H1.aL λq L H2=>H2.nw λw _ B=>B.nw λT _ C=>?_)
  have C:LH F0 z T [.g n,.g q,.c L.heap.size [.int .i64 a.k,.int .i64 (ab .i64 (a.lo.toNat:Int)),.int .i64 (ab .i64 (a.hi.toNat:Int))] bX,.c w.heap.size [.int .i64 b.k,.int .i64 (ab .i64 (b.lo.toNat:Int)),.int .i64 (ab .i64 (b.hi.toNat:Int))] bX] [.tree a,.tree b]:=C;rw [W,W,W,W] at C;have step:∀(i:Nat) (x y:Int) (M:I),i<3->([.int .i64 a.k,.int .i64 (a.lo.toNat:Int),.int .i64 (a.hi.toNat:Int)]:List ae)[i]? =some (.int .i64 x)->([.int .i64 b.k,.int .i64 (b.lo.toNat:Int),.int .i64 (b.hi.toNat:Int)]:List ae)[i]? =some (.int .i64 y)->
    LH F0 z M [.g n,.g q,.c L.heap.size [.int .i64 a.k,.int .i64 (a.lo.toNat:Int),.int .i64 (a.hi.toNat:Int)] bX,.c w.heap.size [.int .i64 b.k,.int .i64 (b.lo.toNat:Int),.int .i64 (b.hi.toNat:Int)] bX] [.tree a,.tree b]->
    (x<y->a8 a.rx b.rx=-1)->(y<x->a8 a.rx b.rx=1)->
    (¬x<y->¬y<x->∀N,LH F0 z N [.g n,.g q,.c L.heap.size [.int .i64 a.k,.int .i64 (a.lo.toNat:Int),.int .i64 (a.hi.toNat:Int)] bX,.c w.heap.size [.int .i64 b.k,.int .i64 (b.lo.toNat:Int),.int .i64 (b.hi.toNat:Int)] bX] [.tree a,.tree b]->l3.aP n a.k a.lo.toNat a.hi.toNat a.s q b.k b.lo.toNat b.hi.toNat b.s ⟨some (aj L.heap.size),3,3⟩ ⟨some (aj w.heap.size),3,3⟩ ((i+1:Nat):Int) N λr K=>r=V (.int .i64 (a8 a.rx b.rx))/\ao z K)->
    l3.aP n a.k a.lo.toNat a.hi.toNat a.s q b.k b.lo.toNat b.hi.toNat b.s ⟨some (aj L.heap.size),3,3⟩ ⟨some (aj w.heap.size),3,3⟩ (i:Int) M λr K=>r=V (.int .i64 (a8 a.rx b.rx))/\ao z K:=by
   intro i x y M aa hx hy A ac ad hk;have O:((i:Nat):Int)<((3:Nat):Int):=by omega
   refine l3.bW _ _ _ _ _ _ _ _ _ _ _ _ _ _ _ (bd (aW (by omega)) ⟨by omega,O,jS (A.au λN D=>⟨x,?_,by omega,O,jS ⟨y,?_,aR (λe=>⟨by rw [ac e],D.fr⟩) (λe=>⟨by omega,O,jS (D.au λw7 E=>⟨x,?_,by omega,O,jS ⟨y,?_,aR (λj=>⟨by rw [ad j],E.fr⟩) (λj=>?_)⟩⟩)⟩)⟩⟩)⟩)
   .rw [dJ,Nat.mul_one];exact D.ld 2 i rfl hx
   .rw [dJ,Nat.mul_one];exact D.ld 3 i rfl hy
   .rw [dJ,Nat.mul_one];exact E.ld 2 i rfl hx
   .rw [dJ,Nat.mul_one];exact E.ld 3 i rfl hy
   .rw [show ab .i64 ((i:Int)+1)=((i+1:Nat):Int) by rw [a4 _ (by omega)];omega];exact hk e j w7 E
  show l3.aP _ _ _ _ _ _ _ _ _ _ _ _ ((0:Nat):Int) _ _;refine step 0 _ _ T (by omega) rfl rfl C (λe=>by rw [u,z6 _ e];rfl) (λe=>by rw [u,z5 _ e];rfl) (λG j M H5=>?_);rw [z3 _ G j] at u;refine step 1 _ _ M (by omega) rfl rfl H5 (λe=>by rw [u,z6 _ e];rfl) (λe=>by rw [u,z5 _ e];rfl) (λG j N D=>?_);rw [z3 _ G j] at u;refine step 2 _ _ N (by omega) rfl rfl D (λe=>by rw [u,z6 _ e];rfl) (λe=>by rw [u,z5 _ e];rfl) (λG j w7 E=>?_);rw [z3 _ G j] at u;refine l3.bW _ _ _ _ _ _ _ _ _ _ _ _ _ _ _ (a9 rfl (ai a.l.length 0 n q w7 (by omega) (by omega) ?_ (E.take 2)));rw [u];rfl
def o6 (a b:J) (w:I) (c:a.sz<=1000000) (d:a.P w) (e:b.P w):ai U na #[a.v,b.v] w λr h=>r=V (.int .i64 (a8 a.rx b.rx))/\ao w h:=FF 1000000 (bB _) a b w c d e
namespace q3
noncomputable abbrev X:Fx:=⟨U,Tryz.f98,[],[1]⟩
abbrev P0:Ps:=[(1,.l [.I,.Y,.Y,.s] aF),(3,.v [.I]),(4,.v [.I])]
def aP (e:Nat) (h j k:Int) (n:O) (d c:Int) (w:I) (R:aa):Prop:=br P0 0 (X.Sem (ak [0,1,1,1,2])) e h j k n d c w R
noncomputable def aZ:=bD X (ak [0,1,1,1,2]) P0 aP::[]
abbrev a2 (e:Nat) (h j k:Int) (n:O) (d c:Int) (w:I) (R:aa):Prop:=
 aP e h j k n d (ab .i64 (c+1)) w R
noncomputable def bg:=aC X aZ (ak [2,2,1,1,2]) P0 a2::aZ
def bW:∀(h:Nat) (j k q:Int) (d:O) (e c:Int) (w:I) (R:aa) (C:Y (ah (c<((d.n:Nat):Int))) (aw d c λu=>aV w (u.add (ag c *4)) λx y z A=>b0 [h] px #[.agg #[.i x,.int .u8 y,.int .u8 z,A.v]] w λt18 B=>a2 h j k q d (ab .i64 (e+t18)) c B R) (R (V (.i e)) w)),aP h j k q d e c w R:=mp (bF (X:=X) bg (ak [0,1,1,1,2]) P0)
def aD (c d e:Int) (h:O) (w:I) (R:aa) (k:aJ [] w λj n=>
 aP j c d e h 1 0 n R):ai U px #[.agg #[.i c,.int .u8 d,.int .u8 e,h.v]] w R:=aE X bg k
end q3
namespace q4
noncomputable abbrev X:Fx:=⟨U,Tryz.f120,[(3,ls [0,1,2,3,4,5,6,7,8,9,10,11,12,13,14,15,16,17,18,19,20,21,22,23,24,25,26,27,28,29])],[1]⟩
abbrev P0:Ps:=[]
abbrev aQ (w:I) (R:aa):Prop:=
 R (V (.bool false)) w
noncomputable def bf:=aC X [] (ak [0,1,1,1,3]) P0 aQ::[]
abbrev a2 (w:I) (R:aa):Prop:=
 R (V (.bool false)) w
noncomputable def bg:=aC X bf (ak [0,1,1,1,4]) P0 a2::bf
abbrev P1:Ps:=[(1,.l [.I,.Y,.Y,.s] aF),(5,.v [.I])]
def h5 (d:Nat) (e h j:Int) (k:O) (c:Int) (w:I) (R:aa):Prop:=br P1 0 (X.Sem (ak [0,1,1,1,5])) d e h j k c w R
noncomputable def qX:=bD X (ak [0,1,1,1,5]) P1 h5::bg
def oV:∀(e:Nat) (h j k:Int) (d:O) (c:Int) (w:I) (R:aa) (B:Y (ah (c<((d.n:Nat):Int))) (aw d c λu=>aV w (u.add (ag c *4)) λx y z A=>bM [e] xa #[.agg #[.i x,.int .u8 y,.int .u8 z,A.v]] w λt66 q=>Y (!t66) (R (V (.bool false)) q) (h5 e h j k d (ab .i64 (c+1)) q R)) (R (V (.bool true)) w)),h5 e h j k d c w R:=mp (bF (X:=X) qX (ak [0,1,1,1,5]) P1)
abbrev aY (c:Nat) (d e h:Int) (j:O) (w:I) (R:aa):Prop:=
 h5 c d e h j 0 w R
noncomputable def bm:=aC X qX (ak [5]) [(1,.l [.I,.Y,.Y,.s] aF)] aY::qX
def aD (c k h:Int) (j:O) (w:I) (R:aa) (y:aJ [] w λe u=>
 aN u (.cells #[.i 0,.i 0,.i 0,.i 64,.i 64,.i 64,.i 1,.i 1] bX) λx=>
 aN x (.cells #[.i 0,.i 0,.i 0,.i 0,.i 0,.i 0,.i 1,.i 1] bX) λq=>
 Y (ah (c<0)) (loc [e] q λd=>aQ d R) (Y (ah (c>7)) (loc [e] q λd=>aQ d R) ((0:Int)<=c/\c<((8:Nat):Int)/\ct (some (nb x)) λz=>loc [e] q λd=>∃t25:Int,d.cell? (z.add (ag c *1))=some (.i t25)/\
 Y (ah (((j.n:Nat):Int)<t25)) (aQ d R) ((0:Int)<=c/\c<((8:Nat):Int)/\ct (some (nb u)) λA=>∃t36:Int,d.cell? (A.add (ag c *1))=some (.i t36)/\
 Y (ah (((j.n:Nat):Int)>t36)) (aQ d R) (Y (ah (k>h)) (a2 d R) (Y (c !=2) (Y (ah (h>0)) (a2 d R) (aY e c k h j d R)) (aY e c k h j d R))))))):ai U xa #[.agg #[.i c,.int .u8 k,.int .u8 h,j.v]] w R:=aE X bm y
end q4
namespace GM
noncomputable abbrev X:Fx:=⟨U,Tryz.f99,[],[1]⟩
def aD (c d e:Int) (h:O) (w:I) (R:aa) (q:aJ [] w λj y=>
 b0 [j] px #[.agg #[.i c,.int .u8 d,.int .u8 e,h.v]] y λu k=>Y (ah (u>64)) (R (V (.i 4)) k) (bM [j] xa #[.agg #[.i c,.int .u8 d,.int .u8 e,h.v]] k λx n=>Y (!x) (R (V (.i 1)) n) (R (V (.i 0)) n))):ai U Bz #[.agg #[.i c,.int .u8 d,.int .u8 e,h.v]] w R:=aE X [] q
end GM
abbrev MR (n:Nat):Prop:=∀(x:J) (w:I),x.sz<=n->x.P w->ai U px #[x.v] w λr c=>r=V (.int .i64 (x.sz:Int))/\ao w c
def Fi:∀q:Nat,q<=1000000->MR q
 |0,_=>λc u x _=>absurd x (by have:=J.kS c;omega)
 |q+1,M=>λc u x z=>by
  have E:=Fi q (by omega);have N:=J.hC c;have L:=J.fi c.l;have O:=J.cj z.parts.1;have loop:∀(d i m h:Nat) (e:I),i+d=c.l.length->m+J.aU (c.l.drop i)=c.sz->LH F0 u e [.g h] [.tree c]->q3.aP h c.k c.lo.toNat c.hi.toNat c.s (m:Int) (i:Int) e λr G=>r=V (.int .i64 (c.sz:Int))/\ao u G:=by
   intro d;induction d with
   |zero=>
    intro i m h e D j n;rw [dt (by omega)] at j;refine q3.bW _ _ _ _ _ _ _ _ _ (a9 (a0 (by omega)) ⟨?_,n.fr⟩);have:m=c.sz:=j;rw [this]
   |succ d F=>
    intro i m h e D j n;have w:c.l[i]? =some (c.l[i]'(by omega)):=bc (by omega);rw [dq (by omega)] at j;generalize c.l[i]'(by omega)=a at w j;have K:m+(a.sz+J.aU (c.l.drop (i+1)))=c.sz:=j;have y:=aI w;have Q:=J.dV y;refine q3.bW _ _ _ _ _ _ _ _ _ (bd (aW (by omega)) (hR (show c.P e from n.getD 0) rfl w (n.aA (E a e (by omega) ((show c.P e from n.getD 0).parts.2.mem y)) ?_)));rintro _ H rfl B;refine ⟨_,rfl,?_⟩;show q3.aP _ _ _ _ _ _ _ _ _;rw [bw _ (by omega),a4 _ (by omega)];have C:((m:Int)+(a.sz:Int))=((m+a.sz:Nat):Int):=by omega
    rw [C];exact F (i+1) (m+a.sz) h H (by omega) (by omega) B
  exact q3.aD _ _ _ _ u _ ((gq z).aL λh e A=>loop c.l.length 0 1 h e (by omega) (by rw [List.drop_zero];omega) A)
def zH (x:J) (w:I) (c:x.sz<=1000000) (d:x.P w):ai U px #[x.v] w λr e=>r=V (.int .i64 (x.sz:Int))/\ao w e:=Fi 1000000 (bB _) x w c d
def wN (k:Nat):Int:=if 6<=k then 1 else 0
def w4 (k:Nat):Int:=if k<3 then 0 else if k<6 then 64 else 1
def QV {k:Nat} (c:k<8):([.i 0,.i 0,.i 0,.i 0,.i 0,.i 0,.i 1,.i 1]:List ae)[k]? =some (.i (wN k)):=by
 have:k=0\/k=1\/k=2\/k=3\/k=4\/k=5\/k=6\/k=7:=by omega
 rcases this with rfl|rfl|rfl|rfl|rfl|rfl|rfl|rfl<;>rfl
def RC {k:Nat} (c:k<8):([.i 0,.i 0,.i 0,.i 64,.i 64,.i 64,.i 1,.i 1]:List ae)[k]? =some (.i (w4 k)):=by
 have:k=0\/k=1\/k=2\/k=3\/k=4\/k=5\/k=6\/k=7:=by omega
 rcases this with rfl|rfl|rfl|rfl|rfl|rfl|rfl|rfl<;>rfl
abbrev MI (n:Nat):Prop:=∀(x:J) (w:I),x.sz<=n->x.P w->ai U xa #[x.v] w λr c=>r=V (.bool (cq x.rx))/\ao w c
def Fy:∀M:Nat,M<=64->MI M
 |0,_=>λe C q _=>absurd q (by have:=J.kS e;omega)
 |M+1,hn=>λe C q px=>by
  have ih:=Fy M (by omega);have hs:=J.hC e;have hl:=J.fi e.l;have nr:=J.cj px.parts.1;have Q:(J.ax e.l).length=e.s.n:=by rw [J.fh];simp [nr]
  have ee:(J.ax e.l).isEmpty=ah (e.s.n=0):=by rw [<-Q,Bool.eq_iff_iff];simp
  have w:cq e.rx=(!(e.k !=2&&(e.lo !=0||e.hi !=0))&&(if e.k=0\/e.k=1 then (J.ax e.l).isEmpty else if e.k=2 then (J.ax e.l).isEmpty&&ah (e.lo.toNat<=e.hi.toNat) else if e.k=3\/e.k=4\/e.k=5 then dk (J.ax e.l) else if e.k=6\/e.k=7 then (J.ax e.l).length==1&&dk (J.ax e.l) else false)):=by rw [J.eQ];unfold cq;rfl
  rw [ee,Q] at w;have z8:∀Y:UInt8,(Y !=0)=ah (Y.toNat≠0):=λY=>by rw [Bool.eq_iff_iff];simp only [bne_iff_ne,ne_eq,decide_eq_true_eq];exact not_congr ⟨λq=>by rw [q];rfl,λq=>UInt8.toNat_inj.1 (by simpa using q)⟩
  rw [z8,z8] at w;have bad:∀{h:Nat} {w':I},cq e.rx=false->LH F0 C w' [.g h,.c (0:Nat) [] bX] []->True:=λ_ _=>trivial
  let Z:aa:=λr w'=>r=V (.bool (cq e.rx))/\ao C w'
  have loop:cq e.rx=dk (J.ax e.l)->∀(d i h:Nat) (j:I),i+d=e.l.length->dk (J.ax (e.l.drop i))=dk (J.ax e.l)->LH F0 C j [.g h] [.tree e]->q4.h5 h e.k e.lo.toNat e.hi.toNat e.s (i:Int) j Z:=by
   intro K d;induction d with
   |zero=>
    intro i h j ae E F;rw [dt (by omega)] at E;refine q4.oV _ _ _ _ _ _ _ _ (a9 (a0 (by omega)) ⟨?_,F.fr⟩);rw [K,<-E];rfl
   |succ d aj=>
    intro i h j ae E F;have W:e.l[i]? =some (e.l[i]'(by omega)):=bc (by omega);rw [dq (by omega)] at E;generalize e.l[i]'(by omega)=a at W E;have ma:=aI W;have al:=J.dV ma;have S:(cq a.rx&&dk (J.ax (e.l.drop (i+1))))=dk (J.ax e.l):=E;refine q4.oV _ _ _ _ _ _ _ _ (bd (aW (by omega)) (hR (show e.P j from F.getD 0) rfl W (F.aA (ih a j (by omega) ((show e.P j from F.getD 0).parts.2.mem ma)) ?_)));rintro _ D rfl G;refine ⟨_,rfl,dM (λT=>⟨?_,G.fr⟩) (λht=>?_)⟩
    .rw [K,<-S,T];rfl
    .rw [bw _ (by omega)];rw [ht,Bool.true_and] at S;exact aj (i+1) h D (by omega) S G
  refine q4.aD _ _ _ _ C _ ((gq px).aL λh j H1=>H1.nw λD _ G=>G.nw λw3 _ N=>?_);have no:∀w':I,LH F0 C w' [.g h,.c j.heap.size [.i 0,.i 0,.i 0,.i 64,.i 64,.i 64,.i 1,.i 1] bX,.c D.heap.size [.i 0,.i 0,.i 0,.i 0,.i 0,.i 0,.i 1,.i 1] bX] [.tree e]->cq e.rx=false->(Ending.returned (.bool false)=V (.bool (cq e.rx))/\ao C w'):=λw' H' T=>⟨by rw [T],H'.fr⟩;refine aR (λk0=>LH.au N (λy u=>no y u ?_) (by simp)) (λk0=>aR (λk7=>LH.au N (λy u=>no y u ?_) (by simp)) (λk7=>?_))
  .rw [w,af (by omega),af (by omega),af (by omega),af (by omega),Bool.and_false]
  .rw [w,af (by omega),af (by omega),af (by omega),af (by omega),Bool.and_false]
  obtain ⟨z,hk⟩:=Int.eq_ofNat_of_zero_le (by omega:0<=e.k);have ab:z<8:=by omega
  refine ⟨by omega,by show e.k<((8:Nat):Int);omega,(show ct (some (nb D)) _ from LH.au N (λy u=>⟨wN z,?_,?_⟩) (by simp))⟩
  .have:=LH.ld (L:=[.g h,.c j.heap.size [.i 0,.i 0,.i 0,.i 64,.i 64,.i 64,.i 1,.i 1] bX,.c D.heap.size [.i 0,.i 0,.i 0,.i 0,.i 0,.i 0,.i 1,.i 1] bX]) u 2 z rfl (QV ab);rw [hk,dJ,Nat.mul_one];exact this
  refine aR (λB=>no y u ?_) (λB=>⟨by omega,by show e.k<((8:Nat):Int);omega,(show ct (some (nb j)) _ from ⟨w4 z,?_,?_⟩)⟩)
  .unfold wN at B;rw [w,af (by split at B<;>omega),af (by split at B<;>omega),af (by split at B<;>omega)];split
   .rename_i ak;have:(e.s.n==1)=false:=by rw [beq_eq_false_iff_ne];split at B<;>omega
    rw [this];simp
   .simp
  .have:=LH.ld (L:=[.g h,.c j.heap.size [.i 0,.i 0,.i 0,.i 64,.i 64,.i 64,.i 1,.i 1] bX,.c D.heap.size [.i 0,.i 0,.i 0,.i 0,.i 0,.i 0,.i 1,.i 1] bX]) u 1 z rfl (RC ab);rw [hk,dJ,Nat.mul_one];exact this
  refine aR (λA=>no y u ?_) (λA=>?_)
  .unfold w4 at A;by_cases x:z<3
   .rw [aq x] at A;have ai:ah (e.s.n=0)=false:=a0 (by omega);rw [w,ai];split
    .simp
    .split
     .simp
     .omega
   .rw [af x] at A;by_cases k5:z<6
    .rw [aq k5] at A;omega
    .rw [af k5] at A;have:(e.s.n==1)=false:=by rw [beq_eq_false_iff_ne];omega
     rw [w,this,af (by omega),af (by omega),af (by omega),aq (by omega)];simp
  have H:(z<3->e.s.n=0)/\(6<=z->e.s.n=1):=by
   unfold wN at B;unfold w4 at A;refine ⟨λq=>?_,λq=>?_⟩
   .rw [aq q] at A;omega
   .rw [aq q] at B;rw [af (by omega),af (by omega)] at A;omega
  have H5:LH F0 C y [.g h] [.tree e]:=LH.take (L:=[.g h,.c j.heap.size [.i 0,.i 0,.i 0,.i 64,.i 64,.i 64,.i 1,.i 1] bX,.c D.heap.size [.i 0,.i 0,.i 0,.i 0,.i 0,.i 0,.i 1,.i 1] bX]) u 1;have ac:z<3->dk (J.ax e.l)=true:=λq=>by
   have h0:(J.ax e.l).length=0:=by rw [Q,H.1 q]
   rw [List.length_eq_zero_iff.1 h0];rfl
  have go:cq e.rx=dk (J.ax e.l)->q4.aY h e.k e.lo.toNat e.hi.toNat e.s y Z:=λK=>loop K e.l.length 0 h y (by omega) (by simp) H5;refine aR (λag=>no y u ?_) (λag=>dG (λx=>aR (λad=>no y u ?_) (λad=>go ?_)) (λx=>go ?_))
  .rw [w];by_cases x:e.k=2
   .rw [af (by omega),aq x,a0 (show ¬e.lo.toNat<=e.hi.toNat by omega)];simp
   .have:(e.k !=2&&(ah (e.lo.toNat≠0)||ah (e.hi.toNat≠0)))=true:=by rw [aW (show e.lo.toNat≠0 by omega)];simp [x]
    rw [this];rfl
  .have:(e.k !=2&&(ah (e.lo.toNat≠0)||ah (e.hi.toNat≠0)))=true:=by rw [aW (show e.hi.toNat≠0 by omega)];simp [x]
   rw [w,this];rfl
  .have O:(e.k !=2&&(ah (e.lo.toNat≠0)||ah (e.hi.toNat≠0)))=false:=by rw [a0 (show ¬e.lo.toNat≠0 by omega),a0 (show ¬e.hi.toNat≠0 by omega)];simp
   rw [w,O];by_cases c1:e.k=0\/e.k=1
   .rw [aq c1,ac (by omega),aW (H.1 (by omega))];rfl
   .rw [af c1,af x];by_cases c3:e.k=3\/e.k=4\/e.k=5
    .rw [aq c3];simp
    .rw [af c3,aq (by omega),H.2 (by omega)];simp
  .have O:(e.k !=2&&(ah (e.lo.toNat≠0)||ah (e.hi.toNat≠0)))=false:=by rw [x];rfl
   rw [w,O,af (by omega),aq x,ac (by omega),aW (H.1 (by omega)),aW (show e.lo.toNat<=e.hi.toNat by omega)];rfl
def Oo (x:J) (w:I) (j:x.sz<=1000000) (n:x.P w):ai U Bz #[x.v] w λr q=>r=V (.int .i64 (iY x.rx))/\ao w q:=by
 refine GM.aD _ _ _ _ w _ ((gq n).aL λz u e=>e.aA (zH x u j (e.getD 0)) ?_);rintro _ y rfl c;refine ⟨_,rfl,aR (λk=>⟨?_,c.fr⟩) (λk=>c.aA (Fy 64 (bB _) x y (by omega) (c.getD 0)) ?_)⟩
 .unfold iY;rw [J.ed,aq (by omega)]
 rintro _ A rfl h;refine ⟨_,rfl,dM (λd=>⟨?_,h.fr⟩) (λd=>⟨?_,h.fr⟩)⟩
 .unfold iY;rw [J.ed,af (by omega),d];rfl
 .unfold iY;rw [J.ed,af (by omega),d];rfl
def vl {x:Rx} (c:iY x=0):cq x=true/\x.sz<=64:=by
 unfold iY at c;split at c
 .cases c
 .split at c
  .rename_i d;exact ⟨d,by omega⟩
  .cases c
def AQ:∀{l:List Rx} {a:Rx},dk l=true->a∈l->cq a=true
 |b::l,a,e,d=>by
  have c:(cq b&&dk l)=true:=e;rw [bn] at c;rcases aB.1 d with rfl|d
  .exact c.1
  .exact AQ c.2 d
namespace GJ
noncomputable abbrev X:Fx:=⟨U,Tryz.f71,[],[0]⟩
def aD (w:I) (R:aa) (e:aJ [] w λd c=>
 aN c (.cells #[.i 0,.int .u8 0,.int .u8 0,.slice none 0 0] aF) λh=>
 loc [d] h λj=>R (V (.agg #[.i 6,.int .u8 0,.int .u8 0,.slice (some (nb c)) 1 1])) j):ai U mg #[] w R:=aE X [] e
end GJ
namespace nY
noncomputable abbrev X:Fx:=⟨U,Tryz.f115,[(2,ls [0,1,2,3,4,5,6,7,8,9,10,11,12]),(4,ls [0,1,2,3,4,5,6,7,8,9,10,11,12]),(7,(.sq [0,1,2,3,5] (.fork (ls [4,6,7,8]) (ls [6,4,7,8]))))],[3]⟩
abbrev P0:Ps:=[(0,.v [.s]),(3,.l [.I,.Y,.Y,.s] aF),(5,.v [.I])]
def aP (d:O) (e:Nat) (h j k:Int) (n:O) (c:Int) (w:I) (R:aa):Prop:=br P0 0 (X.Sem (ak [0,2,2])) d e h j k n c w R
noncomputable def aZ:=bD X (ak [0,2,2]) P0 aP::[]
abbrev bh (e:O) (d:Int) (j:O) (w:I) (R:aa):Prop:=
 (0:Int)<=d/\d<=((e.n:Nat):Int)/\∃(t48:O) (h:I),a6 U (bb #[bG,bG] bG #[j.v,.slice (if e.c=(ag d) then e.a else e.a.map (·.add ((ag d) *4))) (e.n - (ag d)) (e.c - (ag d))]) w=.ok (t48.v) h/\R (V (t48.v)) h
noncomputable def bt:=aC X aZ (ak [6]) [(0,.v [.s]),(5,.v [.I]),(6,.v [.s])] bh::aZ
abbrev aY (d:O) (h:Nat) (x y z:Int) (A:O) (e:Int) (w:I) (R:aa):Prop:=
 (0:Int)<=e/\e<=((d.c:Nat):Int)/\((loc [h] w λj=>∃(t40:O) (k:I),a6 U (bb #[bG,bG] bG #[.slice none 0 0,.slice (if d.c=0 then d.a else d.a.map (·.add (0 *4))) ((ag e) - 0) (d.c - 0)]) j=.ok (t40.v) k/\kept [h] j k/\aN k (.cells #[.i x,.int .u8 y,.int .u8 z,A.v] aF) λD=>
 ∃(t43:O) (q:I),a6 U (bb #[bG,bG] bG #[t40.v,.slice (some (nb k)) 1 1]) D=.ok (t43.v) q/\kept [h] D q/\bh d e t43 q R)/\(loc [h] w λj=>aN j (.cells #[.i x,.int .u8 y,.int .u8 z,A.v] aF) λE=>
 ∃(B:O) (n:I),a6 U (bb #[bG,bG] bG #[.slice none 0 0,.slice (if d.c=0 then d.a else d.a.map (·.add (0 *4))) ((ag e) - 0) (d.c - 0)]) E=.ok (B.v) n/\kept [h] E n/\∃(C:O) (u:I),a6 U (bb #[bG,bG] bG #[B.v,.slice (some (nb j)) 1 1]) n=.ok (C.v) u/\kept [h] n u/\bh d e C u R))
noncomputable def bm:=aC X bt (ak [4]) P0 aY::bt
abbrev a2 (d:O) (e:Nat) (j k q:Int) (u:O) (c:Int) (w:I) (R:aa):Prop:=
 Y (ah (c<((d.n:Nat):Int))) (aw d c λy=>loc [e] w λh=>aV h (y.add (ag c *4)) λz A B C=>b0 [e] na #[.agg #[.i z,.int .u8 A,.int .u8 B,C.v],.agg #[.i j,.int .u8 k,.int .u8 q,u.v]] h λt32 x=>Y (t32==0) (R (V (d.v)) x) (aY d e j k q u c x R)) (loc [e] w λh=>aY d e j k q u c h R)
noncomputable def bg:=aC X bm (ak [3]) P0 a2::bm
def bW:∀(e:O) (d:Nat) (h j k:Int) (q:O) (c:Int) (w:I) (R:aa) (D:Y (ah (c<((e.n:Nat):Int))) (aw e c λy=>loc [d] w λu=>aV u (y.add (ag c *4)) λz A B C=>b0 [d] na #[.agg #[.i z,.int .u8 A,.int .u8 B,C.v],.agg #[.i h,.int .u8 j,.int .u8 k,q.v]] u λt17 x=>Y (ah (t17<0)) (aP e d h j k q (ab .i64 (c+1)) x R) (a2 e d h j k q c x R)) (loc [d] w λu=>a2 e d h j k q c u R)),aP e d h j k q c w R:=mp (bF (X:=X) bg (ak [0,2,2]) P0)
def aD (c:O) (d e h:Int) (j:O) (w:I) (R:aa) (n:aJ [] w λk q=>
 aP c k d e h j 0 q R):ai U BC #[c.v,.agg #[.i d,.int .u8 e,.int .u8 h,j.v]] w R:=aE X bg n
end nY
namespace hq
noncomputable abbrev X:Fx:=⟨U,Tryz.f92,[(9,ls [0,1,2,3,4,5,6,7,8,9,10,11,12]),(25,ls [0,1,2,3,4,5,6]),(27,ls [0,1,2,3,4,5,6])],[4,5,8,9]⟩
abbrev aQ (c:O) (t4:Nat) (q u x:Int) (y:O) (w:I) (R:aa):Prop:=
 aw c 0 λd=>aV w (d.add (ag 0 *4)) λe h j k=>loc [t4] w λn=>R (V (.agg #[.i e,.int .u8 h,.int .u8 j,k.v])) n
noncomputable def bf:=aC X [] (ak [0,1,1,1,1,1,1,1,3]) [(1,.v [.s]),(4,.l [.I,.Y,.Y,.s] aF)] aQ::[]
abbrev P1:Ps:=[(0,.v [.I]),(1,.v [.s]),(4,.l [.I,.Y,.Y,.s] aF),(5,.l [.I,.Y,.Y,.s] aF),(6,.v [.s]),(7,.v [.I])]
def b6 (u:Int) (q:O) (t4:Nat) (x y z:Int) (A:O) (c:Nat) (d e h:Int) (j k:O) (n:Int) (w:I) (R:aa):Prop:=br P1 0 (X.Sem (ak [0,1,1,1,5])) u q t4 x y z A c d e h j k n w R
noncomputable def cC:=bD X (ak [0,1,1,1,5]) P1 b6::bf
abbrev aY (u:Int) (q:O) (t4:Nat) (x y z:Int) (A:O) (c:Nat) (d e h:Int) (j k:O) (n:Int) (w:I) (R:aa):Prop:=
 b6 u q t4 x y z A c d e h j k (ab .i64 (n+1)) w R
noncomputable def bm:=aC X cC (ak [2,2,1,1,5]) P1 aY::cC
abbrev P2:Ps:=[(0,.v [.I]),(4,.l [.I,.Y,.Y,.s] aF),(6,.v [.s]),(8,.l [.I,.Y,.Y,.s] aF),(9,.l [.I,.Y,.Y,.s] aF),(10,.v [.s]),(11,.v [.I])]
def h5 (q:Int) (t4:Nat) (C D E:Int) (F k:O) (u:Nat) (x y z:Int) (A:O) (c:Nat) (d e h:Int) (j B:O) (n:Int) (w:I) (R:aa):Prop:=br P2 0 (X.Sem (ak [0,1,1,1,9])) q t4 C D E F k u x y z A c d e h j B n w R
noncomputable def qX:=bD X (ak [0,1,1,1,9]) P2 h5::bm
abbrev cB (q:Int) (t4:Nat) (C D E:Int) (F k:O) (u:Nat) (x y z:Int) (A:O) (c:Nat) (d e h:Int) (j B:O) (n:Int) (w:I) (R:aa):Prop:=
 h5 q t4 C D E F k u x y z A c d e h j B (ab .i64 (n+1)) w R
noncomputable def cZ:=aC X qX (ak [2,2,1,1,9]) P2 cB::qX
def oV:∀(y:Int) (t4:Nat) (E F G:Int) (H h:O) (d:Nat) (z A B:Int) (C:O) (c:Nat) (k q u:Int) (x j:O) (e:Int) (w:I) (R:aa) (aG:Y (ah (e<((h.n:Nat):Int))) (aw h e λP=>loc [t4,d,c] w λK=>aV K (P.add (ag e *4)) λQ S T W=>b0 [t4,d,c] na #[.agg #[.i Q,.int .u8 S,.int .u8 T,W.v],.agg #[.i k,.int .u8 q,.int .u8 u,x.v]] K λt108 L=>Y (t108==0) (loc [t4,d,c] L λaA=>R (V (.agg #[.i k,.int .u8 q,.int .u8 u,x.v])) aA) (aw h e λZ=>loc [t4,d,c] L λM=>aV M (Z.add (ag e *4)) λab ac ad ae=>b0 [t4,d,c] na #[.agg #[.i ab,.int .u8 ac,.int .u8 ad,ae.v],.agg #[.i z,.int .u8 A,.int .u8 B,C.v]] M λt116 D=>Y (t116==0) (cB y t4 E F G H h d z A B C c k q u x j e D R) (Y (y==3) (aw h e λaf=>aV D (af.add (ag e *4)) λai aj al am=>aN D (.cells #[.i ai,.int .u8 aj,.int .u8 al,am.v] aF) λN=>
 ∃(t126:O) (J:I),a6 U (bb #[bG,bG] bG #[j.v,.slice (some (nb D)) 1 1]) N=.ok (t126.v) J/\kept [t4,d,c] N J/\cB y t4 E F G H h d z A B C c k q u x t126 e J R) (aw h e λan=>aV D (an.add (ag e *4)) λao ap aq ar=>fU [t4,d,c] BC #[j.v,.agg #[.i ao,.int .u8 ap,.int .u8 aq,ar.v]] D λt132 aB=>cB y t4 E F G H h d z A B C c k q u x t132 e aB R)))) (Y (((j.n:Nat):Int)==0) (loc [t4,d,c] w λaC=>R (V (.agg #[.i z,.int .u8 A,.int .u8 B,C.v])) aC) (Y (((j.n:Nat):Int)==1) (aw j 0 λau=>aV w (au.add (ag 0 *4)) λav ax ay az=>loc [t4,d,c] w λaD=>R (V (.agg #[.i av,.int .u8 ax,.int .u8 ay,az.v])) aD) (loc [t4,d,c] w λaE=>R (V (.agg #[.i y,.int .u8 0,.int .u8 0,j.v])) aE)))),h5 y t4 E F G H h d z A B C c k q u x j e w R:=mp (bF (X:=X) cZ (ak [0,1,1,1,9]) P2)
def eV:∀(c:Int) (h:O) (t4:Nat) (z A B:Int) (C:O) (e:Nat) (j k q:Int) (u y:O) (d:Int) (w:I) (R:aa) (aq:Y (ah (d<((h.n:Nat):Int))) (aw h d λL=>∃t64:Int,w.cell? ((L.add (ag d *4)).add 0)=some (.i t64)/\
 Y (t64==c) (aw h d λM=>∃t72:O,w.cell? ((M.add (ag d *4)).add 3)=some (t72.v)/\
 ∃(t73:O) (D:I),a6 U (bb #[bG,bG] bG #[y.v,t72.v]) w=.ok (t73.v) D/\kept [t4,e] w D/\aY c h t4 z A B C e j k q u t73 d D R) (aw h d λN=>aV w (N.add (ag d *4)) λP Q S T=>aN w (.cells #[.i P,.int .u8 Q,.int .u8 S,T.v] aF) λG=>
 ∃(t80:O) (E:I),a6 U (bb #[bG,bG] bG #[y.v,.slice (some (nb w)) 1 1]) G=.ok (t80.v) E/\kept [t4,e] G E/\aY c h t4 z A B C e j k q u t80 d E R)) (aN w (.cells #[.i 1,.int .u8 0,.int .u8 0,.slice none 0 0,.i 0,.int .u8 0,.int .u8 0,.slice none 0 0,.i j,.int .u8 k,.int .u8 q,u.v] aF) λH=>
 (0:Int)<=(ab .i64 (c - 3))/\(ab .i64 (c - 3))<((3:Nat):Int)/\ct (some (nb w)) λW=>aV H (W.add (ag (ab .i64 (c - 3)) *4)) λZ ac ad ae=>aJ [t4,e] H λx an=>
 loc [t4,e,x] an λJ=>aN J (.cells #[.i 0,.int .u8 0,.int .u8 0,.slice none 0 0,.i j,.int .u8 k,.int .u8 q,u.v,.i 0,.int .u8 0,.int .u8 0,.slice none 0 0] aF) λK=>
 (0:Int)<=(ab .i64 (c - 3))/\(ab .i64 (c - 3))<((3:Nat):Int)/\ct (some (nb J)) λaf=>aV K (af.add (ag (ab .i64 (c - 3)) *4)) λai aj al am=>aJ [t4,e,x] K λF ao=>
 loc [t4,e,x,F] ao λap=>h5 c t4 z A B C y x Z ac ad ae F ai aj al am ⟨none,0,0⟩ 0 ap R)),b6 c h t4 z A B C e j k q u y d w R:=mp (bF (X:=X) cZ (ak [0,1,1,1,5]) P1)
def aD (j:Int) (d:O) (w:I) (R:aa) (A:aJ [] w λc S=>
 ez [c] mg #[] S λq u x y w2=>aJ [c] w2 λh n=>
 Y (j==6) (aw d 0 λB=>loc [c,h] n λe=>∃t18:Int,e.cell? ((B.add (ag 0 *4)).add 0)=some (.i t18)/\
 Y (t18==6) (aw d 0 λC=>∃t23:O,e.cell? ((C.add (ag 0 *4)).add 3)=some (t23.v)/\
 aw t23 0 λD=>aV e (D.add (ag 0 *4)) λE F G H=>loc [c,h] e λT=>R (V (.agg #[.i E,.int .u8 F,.int .u8 G,H.v])) T) (loc [c,h] e λW=>R (V (.agg #[.i 6,.int .u8 0,.int .u8 0,d.v])) W)) (Y (j==7) (aw d 0 λJ=>loc [c,h] n λe=>∃t33:Int,e.cell? ((J.add (ag 0 *4)).add 0)=some (.i t33)/\
 Y (ah (t33<2)) (loc [c,h] e λZ=>R (V (.agg #[.i 1,.int .u8 0,.int .u8 0,.slice none 0 0])) Z) (aw d 0 λK=>loc [c,h] e λk=>∃t39:Int,k.cell? ((K.add (ag 0 *4)).add 0)=some (.i t39)/\
 Y (t39==7) (aQ d c 0 0 0 ⟨none,0,0⟩ k R) (aw d 0 λL=>aV k (L.add (ag 0 *4)) λM N P Q=>b0 [c,h] na #[.agg #[.i M,.int .u8 N,.int .u8 P,Q.v],.agg #[.i q,.int .u8 u,.int .u8 x,y.v]] k λt46 z=>Y (t46==0) (aQ d c 0 0 0 ⟨none,0,0⟩ z R) (loc [c,h] z λab=>R (V (.agg #[.i 7,.int .u8 0,.int .u8 0,d.v])) ab)))) (loc [c,h] n λe=>b6 j d c 0 0 0 ⟨none,0,0⟩ h q u x y ⟨none,0,0⟩ 0 e R))):ai U BB #[.i j,d.v] w R:=aE X cZ A
end hq
namespace td
noncomputable abbrev X:Fx:=⟨U,Tryz.f73,[],[1,2]⟩
abbrev P0:Ps:=[(1,.l [.I,.Y,.Y,.s] aF),(2,.l [.I,.Y,.Y,.s] aF),(3,.v [.s]),(4,.v [.I])]
def aP (e:Nat) (h j k:Int) (n:O) (t2:Nat) (q u x:Int) (y d:O) (c:Int) (w:I) (R:aa):Prop:=br P0 0 (X.Sem (ak [0,1,1,1,3])) e h j k n t2 q u x y d c w R
noncomputable def aZ:=bD X (ak [0,1,1,1,3]) P0 aP
def bW:∀(c:Nat) (j q u:Int) (e:O) (t2:Nat) (x y z:Int) (A h:O) (d:Int) (w:I) (R:aa) (Z:Y (ah (d<((e.n:Nat):Int))) (aw e d λD=>aV w (D.add (ag d *4)) λE F G H=>ez [c,t2] pC #[.agg #[.i E,.int .u8 F,.int .u8 G,H.v]] w λJ K L M B=>aN B (.cells #[.i J,.int .u8 K,.int .u8 L,M.v] aF) λC=>
 ∃(t24:O) (k:I),a6 U (bb #[bG,bG] bG #[h.v,.slice (some (nb B)) 1 1]) C=.ok (t24.v) k/\kept [c,t2] C k/\aP c j q u e t2 x y z A t24 (ab .i64 (d+1)) k R) (ez [c,t2] BB #[.i j,h.v] w λN P Q S T=>loc [c,t2] T λW=>R (V (.agg #[.i N,.int .u8 P,.int .u8 Q,S.v])) W)),aP c j q u e t2 x y z A h d w R:=mp (bF (X:=X) [aZ] (ak [0,1,1,1,3]) P0)
def aD (c e h:Int) (j:O) (w:I) (R:aa) (q:aJ [] w λd u=>
 aJ [d] u λk n=>
 Y (ah (c<3)) (loc [d,k] n λx=>R (V (.agg #[.i c,.int .u8 e,.int .u8 h,j.v])) x) (aP d c e h j k 0 0 0 ⟨none,0,0⟩ ⟨none,0,0⟩ 0 n R)):ai U pC #[.agg #[.i c,.int .u8 e,.int .u8 h,j.v]] w R:=aE X [aZ] q
end td
namespace GO
noncomputable abbrev X:Fx:=⟨U,Tryz.f100,[],[1,2]⟩
def aD (e h j:Int) (k:O) (w:I) (R:aa) (q:aJ [] w λc x=>
 aJ [c] x λd z=>
 b0 [c,d] px #[.agg #[.i e,.int .u8 h,.int .u8 j,k.v]] z λu n=>Y (ah (u>64)) (loc [c,d] n λA=>R (V (.tuple #[.agg #[.i 0,.int .u8 0,.int .u8 0,.slice none 0 0],.i 4])) A) (loc [c,d] n λy=>R (V (.tuple #[.agg #[.i e,.int .u8 h,.int .u8 j,k.v],.i 0])) y)):ai U BA #[.agg #[.i e,.int .u8 h,.int .u8 j,k.v]] w R:=aE X [] q
end GO
namespace GK
noncomputable abbrev X:Fx:=⟨U,Tryz.f81,[],[1,2]⟩
def aD (e h j:Int) (k:O) (w:I) (R:aa) (u:aJ [] w λc G=>
 aJ [c] G λd J=>
 b0 [c,d] Bz #[.agg #[.i e,.int .u8 h,.int .u8 j,k.v]] J λn q=>Y (n !=0) (loc [c,d] q λK=>R (V (.tuple #[.agg #[.i 0,.int .u8 0,.int .u8 0,.slice none 0 0],.i n])) K) (ez [c,d] pC #[.agg #[.i e,.int .u8 h,.int .u8 j,k.v]] q λx y z A L=>sR [c,d] BA #[.agg #[.i x,.int .u8 y,.int .u8 z,A.v]] L λB C D E F M=>loc [c,d] M λH=>R (V (.tuple #[.agg #[.i B,.int .u8 C,.int .u8 D,E.v],.i F])) H)):ai U Bv #[.agg #[.i e,.int .u8 h,.int .u8 j,k.v]] w R:=aE X [] u
end GK
def j5:gy U bG aF (.agg #[.int .i64 0,.int .u8 0,.int .u8 0,.slice none 0 0]) 4 40:=⟨by kernel_rfl,by kernel_rfl,rfl,by decide,by decide⟩
def zK (w:I):ai U mg #[] w λr h=>fD w eg r h/\ao w h:=by
 refine GJ.aD w _ ((bZ [] (by simp)).aL λb u j=>j.eb (n:=1) (sz:=4) (cs:=cb.c) rfl (by decide) λy k=>k.au λx e=>⟨⟨.mk 6 0 0 ⟨some (aj u.heap.size),1,1⟩ [cb],rfl,rfl,?_,λq d=>?_⟩,e.fr⟩)
 .unfold J.P J.Ps J.Ps;exact ⟨(e.get 1:aS _ _ _ _ _).bz,jQ x,trivial⟩
 .unfold J.fp J.a' J.a' at d;rcases a5.1 d with d|d
  .exact (e.new _ (aI (i:=1) rfl) q (gb d)).resolve_right id
  .rcases a5.1 d with d|d
   .exact (jR d).elim
   .cases d
def gB (r:J):List J->List J
 |[]=>[r]
 |c::p=>if a8 c.rx r.rx<0 then c::gB r p else if a8 c.rx r.rx=0 then c::p else r::c::p
def Jl (r:J):∀l:List J,(gB r l).map J.rx=kb r.rx (l.map J.rx)
 |[]=>rfl
 |c::p=>by
  unfold gB;rw [kf];unfold kb;split
  .rw [kf,Jl r p]
  .split<;>rfl
def yd {t r:J}:∀{p:List J},t∈gB r p->t=r\/t∈p
 |[],c=>by unfold gB at c;simpa using c
 |d::p,c=>by
  unfold gB at c;split at c
  .rcases aB.1 c with rfl|c
   .simp
   .rcases yd c with c|c<;>simp [c]
  .split at c
   .exact .inr c
   .rcases aB.1 c with rfl|c
    .simp
    .exact .inr c
def Jj (r:J):∀l:List J,J.aU (gB r l)<=r.sz+J.aU l
 |[]=>by show r.sz+0<=r.sz+0;omega
 |c::p=>by
  unfold gB;split
  .have:=Jj r p;show c.sz+J.aU (gB r p)<=r.sz+(c.sz+J.aU p);omega
  .split
   .show c.sz+J.aU p<=r.sz+(c.sz+J.aU p);omega
   .exact bB _
def Ji {r:J}:∀{l:List J} {k:Nat},k<=l.length->(∀j t,j<k->l[j]? =some t->a8 t.rx r.rx<0)->(∀t,l[k]? =some t->¬a8 t.rx r.rx<0)->
  (∀t,l[k]? =some t->a8 t.rx r.rx=0->gB r l=l)/\((∀t,l[k]? =some t->a8 t.rx r.rx≠0)->gB r l=l.take k++r::l.drop k)
 |[],k,u,e,h=>⟨λt c=>by simp at c,λ_=>by simp [gB]⟩
 |n::p,0,u,e,h=>by
  have:=h n rfl;unfold gB;rw [af this];refine ⟨λt c q=>?_,λc=>?_⟩
  .cases c;rw [aq q]
  .rw [af (c n rfl)];rfl
 |n::p,k+1,u,e,h=>by have x:=e 0 n (by omega) rfl;have w:=Ji (r:=r) (l:=p) (k:=k) (by simpa using u) (λj t y d=>e (j+1) t (by omega) (by simpa using d)) (λt d=>h t (by simpa using d));unfold gB;rw [aq x];refine ⟨λt c q=>by rw [w.1 t (by simpa using c) q],λc=>by rw [w.2 λt d=>c t (by simpa using d)];rfl⟩
def JG {w:I} {s:O} {l:List J} (d:bL 4 w s (l.flatMap J.c)) (a b:Nat) (e:a<=b) (h:b<=l.length):bL 4 w (mz 4 s a b) (((l.take b).drop a).flatMap J.c):=by have j:=J.cj d;have:=d.sub a b e (by omega);rw [Gi,Gn _ _ (by rw [dL];omega)] at this;exact this
abbrev bO (s:O) (l:List J):J:=.mk 0 0 0 s l
def EM (c:List Nat) (w:I) (l:List J) (r:Ending) (w':I):Prop:=∃s:O,r=V s.v/\(bO s l).P w'/\∀b∈(bO s l).fp,w.heap.size<=b\/b∈c
def dd {w:I} {s:O} {l:List J}:(bO s l).P w↔bL 4 w s (l.flatMap J.c)/\J.Ps w l:=by unfold bO J.P;exact Iff.rfl
def kK {s:O} {l:List J} {b:Nat}:b∈(bO s l).fp↔b∈(J.row s l).fp\/b∈J.a' l:=by unfold bO J.fp;exact a5
def Og (s:O) (l:List J) (r:J) (w:I) (hl:J.aU l<=100000) (hr:r.sz<=100000) (px:(bO s l).P w) (pr:r.P w):
  ai U BC #[s.v,r.v] w λW y=>EM ((bO s l).fp++r.fp) w (gB r l) W y/\ao w y:=by
 have nr:=J.cj (dd.1 px).1;have ll:=J.fi l
 let R:aa:=λW y=>EM ((bO s l).fp++r.fp) w (gB r l) W y/\ao w y
 have fin:∀(k:Nat) (sl:O) (L:List En) (i:Nat) (e:I),k<=l.length->gB r l=l.take k++r::l.drop k->L[i]? =some (.row aF 4 sl ((l.take k++[r]).flatMap J.c))->LH F0 w e L [.tree (bO s l),.tree r]->
   nY.bh s (k:Int) sl e R:=by
  intro k sl L i e A T ad j;have ap:(bO s l).P e:=j.getD 0;have Y:=JG (dd.1 ap).1 k l.length A (bB _);rw [List.take_length] at Y;have am:aS e aF 4 sl ((l.take k++[r]).flatMap J.c):=j.get i ad;have ac:=J.cj am.bz;have av:(l.take k++[r]).length=k+1:=by simp [dL];omega
  refine ⟨by omega,by omega,?_⟩;obtain ⟨C,y,M,h2,h3⟩:=j.j0 (bs:=[]) i (ty:=bG) (K:=λC y=>∃L',L'[i]? =some (.row aF 4 C ((gB r l).flatMap J.c))/\LH F0 w y L' [.tree (bO s l),.tree r]) j5 (src:=mz 4 s k l.length) (news:=(l.drop k).flatMap J.c) ad Y (qP _) (by show (sl.n+(l.length - k)) *40<=_;omega) (λC y H'=>⟨_,by
   rw [List.getElem?_set_self (cD.1 ad).1,<-dh,T,cN];rfl,H'⟩)
  obtain ⟨L',Z,G⟩:=h3;have e1:(ag (k:Int))=k:=rfl;refine ⟨C,y,by rw [e1,nr];exact M,⟨C,rfl,dd.2 ⟨(G.get i Z:aS _ _ _ _ _).bz,J.hS λt B=>?_⟩,λb N=>?_⟩,G.fr⟩
  .rcases yd B with rfl|B
   .exact G.getD 1
   .exact (dd.1 (G.getD 0)).2.mem B
  .rcases kK.1 N with N|N
   .exact .inl ((G.new _ (aI Z) b (gb N)).resolve_right id)
   .obtain ⟨t,B,ah⟩:=J.bR.1 N;rcases yd B with rfl|B
    .exact .inr (eP _ ah)
    .exact .inr (cW _ (kK.2 (.inr (J.bR.2 ⟨t,B,ah⟩))))
 have s2:∀(k:Nat) (h:Nat) (e:I),k<=l.length->gB r l=l.take k++r::l.drop k->LH F0 w e [.g h] [.tree (bO s l),.tree r]->nY.aY s h r.k r.lo.toNat r.hi.toNat r.s (k:Int) e R:=by
  intro k h e A T j;have ar:s.n<=s.c:=(dd.1 (show (bO s l).P e from j.getD 0)).1.2.1;have ak:∀y:I,(bO s l).P y->bL 4 y (mz 4 s 0 k) ((l.take k).flatMap J.c):=λy af=>JG (dd.1 af).1 0 k (by omega) A;have e1:(ag (k:Int))=k:=rfl;refine ⟨by omega,by omega,j.au λz q=>?_,j.au λz q=>?_⟩
  .refine (q.jP aF 4).j0 1 j5 (s:=⟨none,0,0⟩) (xs:=[]) (src:=mz 4 s 0 k) (news:=(l.take k).flatMap J.c) rfl (ak z (q.getD 0)) (qP _) (by show (0+(k - 0)) *40<=_;omega) (λC Q u=>?_);have u:LH F0 w Q [.g h,.row aF 4 C ((l.take k).flatMap J.c)] [.tree (bO s l),.tree r]:=u;have ac:=J.cj (u.get 1:aS _ _ _ _ _).bz;rw [dL] at ac;refine u.i5 1 j5 (xs:=(l.take k).flatMap J.c) rfl (λae w4 S=>?_) (by omega);refine fin k ae _ 1 w4 A T ?_ S;show some _=some _;rw [kD];rfl
  .refine q.eb (n:=1) (sz:=4) (cs:=r.c) rfl (by decide) λQ u=>?_;refine (u.jP aF 4).j0 2 j5 (s:=⟨none,0,0⟩) (xs:=[]) (src:=mz 4 s 0 k) (news:=(l.take k).flatMap J.c) rfl (ak Q (u.getD 0)) (qP _) (by show (0+(k - 0)) *40<=_;omega) (λC w4 S=>?_);have S:LH F0 w w4 [.g h,.row aF 4 ⟨some (aj z.heap.size),1,1⟩ r.c,.row aF 4 C ((l.take k).flatMap J.c)] [.tree (bO s l),.tree r]:=S;have ac:=J.cj (S.get 2:aS _ _ _ _ _).bz;rw [dL] at ac;refine S.j0 2 j5 (xs:=(l.take k).flatMap J.c) (src:=⟨some (aj z.heap.size),1,1⟩) (news:=r.c) rfl (S.get 1:aS _ _ _ _ _).bz (λaq hu=>qP [r] aq (by simpa using hu)) (by show (C.n+1) *40<=_;omega) (λae w5 H5=>?_);refine fin k ae _ 2 w5 A T ?_ H5;show some _=some _;rw [kD]
 have s1:∀(k:Nat) (h:Nat) (e:I),k<=l.length->(∀F t,F<k->l[F]? =some t->a8 t.rx r.rx<0)->(∀t,l[k]? =some t->¬a8 t.rx r.rx<0)->LH F0 w e [.g h] [.tree (bO s l),.tree r]->nY.a2 s h r.k r.lo.toNat r.hi.toNat r.s (k:Int) e R:=by
  intro k h e A M h2 j;obtain ⟨Z,G⟩:=Ji A M h2;refine aR (λal=>?_) (λal=>j.au λz q=>s2 k h z A (G λt B=>by have:=(cD.1 B).1;omega) q);have x:l[k]? =some l[k]:=bc (by omega);generalize l[k]'(by omega)=t at x;have mt:=aI x;refine ⟨by omega,by omega,J.cY (dd.1 (show (bO s l).P e from j.getD 0)).1 x λp Y _=>j.au λz q=>?_⟩;have ab:(bO s l).P z:=q.getD 0;have D:=J.again (dd.1 ab).1 x Y;refine ⟨_,_,_,_,D.c0,D.c1,D.c2,D.c3,q.aA (o6 t r z (by have:=J.dV mt;omega) ((dd.1 ab).2.mem mt) (q.getD 1)) ?_⟩;rintro _ Q rfl u;refine ⟨_,rfl,aO (λH=>⟨⟨s,rfl,?_,λb N=>.inr ?_⟩,u.fr⟩) (λH=>s2 k h Q A (G λt' E=>by rw [x] at E;cases E;exact H) u)⟩
  .rw [Z t x H];exact u.getD 0
  .rw [Z t x H] at N;exact cW _ N
 have loop:∀(d k:Nat) (h:Nat) (e:I),k+d=l.length->(∀F t,F<k->l[F]? =some t->a8 t.rx r.rx<0)->LH F0 w e [.g h] [.tree (bO s l),.tree r]->nY.aP s h r.k r.lo.toNat r.hi.toNat r.s (k:Int) e R:=by
  intro d;induction d with
  |zero=>
   intro k h e A M j;exact nY.bW _ _ _ _ _ _ _ _ _ (a9 (a0 (by omega)) (j.au λz q=>s1 k h z (by omega) M (λt B=>by have:=(cD.1 B).1;omega) q))
  |succ d an=>
   intro k h e A M j;have x:l[k]? =some l[k]:=bc (by omega);generalize l[k]'(by omega)=t at x;have mt:=aI x;refine nY.bW _ _ _ _ _ _ _ _ _ (bd (aW (by omega)) ⟨by omega,by omega,J.cY (dd.1 (show (bO s l).P e from j.getD 0)).1 x λp Y _=>j.au λz q=>?_⟩);have ab:(bO s l).P z:=q.getD 0;have D:=J.again (dd.1 ab).1 x Y;refine ⟨_,_,_,_,D.c0,D.c1,D.c2,D.c3,q.aA (o6 t r z (by have:=J.dV mt;omega) ((dd.1 ab).2.mem mt) (q.getD 1)) ?_⟩;rintro _ Q rfl u;refine ⟨_,rfl,aR (λH=>?_) (λH=>s1 k h Q (by omega) M (λt' E=>by rw [x] at E;cases E;exact H) u)⟩;rw [bw _ (by omega)];refine an (k+1) h Q (by omega) (λF t' hq E=>?_) u;by_cases W:F=k
   .subst W;rw [x] at E;cases E;exact H
   .exact M F t' (by omega) E
 exact nY.aD _ _ _ _ _ w _ ((bZ [.tree (bO s l),.tree r] (by
  intro W T;simp only [aB,a1,a7] at T;rcases T with rfl|rfl
  .exact px
  .exact pr)).aL λh e H1=>loop l.length 0 h e (by omega) (λF t af=>by omega) H1)
def CU (k:Int) (t:Rx):∀(l out:List Rx),gA k out (l++[t])=if k=3 then gA k out l++[t] else kb t (gA k out l)
 |[],out=>by show gA k (if k=3 then out++[t] else kb t out) []=_;unfold gA;rfl
 |a::l,out=>by show gA k (if k=3 then out++[a] else kb a out) (l++[t])=_;rw [CU k t l];rfl
def U7 (x c:J) (n:x.k=3\/x.k=4\/x.k=5) (e:c.rx=eg):∃(j:Nat) (u z:J),ab .i64 (x.k - 3)=(j:Int)/\j<3/\[e8,cb,c][j]? =some u/\[cb,c,cb][j]? =some z/\(u=e8\/u=cb\/u=c)/\(z=cb\/z=c)/\u.rx≠z.rx/\
  g4 (.mk x.k 0 0 (J.ax x.l))=gm x.k (J.ax x.l) u.rx z.rx:=by
 rcases n with h|h|h<;>rw [h]
 .exact ⟨0,e8,cb,by decide,by decide,rfl,rfl,.inl rfl,.inl rfl,(by intro d;cases d),rfl⟩
 .exact ⟨1,cb,c,by decide,by decide,rfl,rfl,.inr (.inl rfl),.inr rfl,(by rw [e];intro d;cases d),by rw [e];rfl⟩
 .exact ⟨2,c,cb,by decide,by decide,rfl,rfl,.inr (.inr rfl),.inl rfl,(by rw [e];intro d;cases d),by rw [e];rfl⟩
section
variable {x ev u z:J} {sf:O} {w:I} {b4 b8 b9:Nat}
def Tv (hx:x.sz<=10000) (a3:ev.rx=eg) (aE:∀b∈ev.fp,w.heap.size<=b) (hu:u=e8\/u=cb\/u=ev) (aB:z=cb\/z=ev) (aL:u.rx≠z.rx) (ay:g4 (.mk x.k 0 0 (J.ax x.l))=gm x.k (J.ax x.l) u.rx z.rx) {q:I}
  (H:LH F0 w q [.g b4,.g b8,.g b9] [.tree x,.tree ev,.tree (bO sf (x.l.flatMap (eC x)))]):
  hq.h5 x.k b4 0 0 0 ⟨none,0,0⟩ sf b8 u.k u.lo.toNat u.hi.toNat u.s b9 z.k z.lo.toNat z.hi.toNat z.s ⟨none,0,0⟩ 0 q λr A=>fR x.fp w (g4 (.mk x.k 0 0 (J.ax x.l))) r A/\ao w A:=by
 let R:aa:=λr A=>fR x.fp w (g4 (.mk x.k 0 0 (J.ax x.l))) r A/\ao w A
 have az:Sub x (x.l.flatMap (eC x)):=Sub.flat λ_ ac=>ac;have aJ:J.aU (x.l.flatMap (eC x))<=J.aU x.l:=r7 x x.l;have ai:((x.l.flatMap (eC x)).map J.rx).filter (λt=>!(a8 t u.rx==0))=fE x.k (J.ax x.l) u.rx:=by rw [<-tn];unfold fW;rw [List.filter_map];rfl
 generalize x.l.flatMap (eC x)=fl at H az aJ ai;have ap:=az;have a6:=J.hC x;have a4:J.aU fl<=10000:=by omega
 have a7:=J.fi fl;have nr:sf.n=fl.length:=J.cj (dd.1 (show (bO sf fl).P q from H.getD 2)).1;have ar:∀A,ev.P A->u.P A:=λA ac=>by
  rcases hu with rfl|rfl|rfl
  .exact wi A
  .exact jQ A
  .exact ac
 have al:∀A,ev.P A->z.P A:=λA ac=>by
  rcases aB with rfl|rfl
  .exact jQ A
  .exact ac
 have aK:∀b∈u.fp,w.heap.size<=b:=λb e=>by
  rcases hu with rfl|rfl|rfl
  .exact (wj e).elim
  .exact (jR e).elim
  .exact aE b e
 have aC:∀b∈z.fp,w.heap.size<=b:=λb e=>by
  rcases aB with rfl|rfl
  .exact (jR e).elim
  .exact aE b e
 have av:∀t∈fl,t.rx=z.rx->g4 (.mk x.k 0 0 (J.ax x.l))=z.rx:=λt ht ad=>by rw [ay];unfold gm;rw [aq];rw [List.any_eq_true];refine ⟨t.rx,?_,pc.2 ad⟩;rw [<-ai,List.mem_filter];exact ⟨cQ.2 ⟨t,ht,rfl⟩,Ab.2 (ad▸λac=>aL ac.symm)⟩
 have aH:(∀t∈fl,t.rx≠z.rx)->g4 (.mk x.k 0 0 (J.ax x.l))=ra x.k u.rx (gA x.k [] ((fl.map J.rx).filter λt=>!(a8 t u.rx==0))):=λac=>by
  rw [ay,Sk,ai];unfold gm;rw [af]
  .rfl
  .rw [List.any_eq_true];rintro ⟨t,ht,he⟩;rw [<-ai,List.mem_filter] at ht;obtain ⟨K,j,rfl⟩:=cQ.1 ht.1;exact ac K j (pc.1 he)
 have fin:∀(h:List J) (y:O) (L D:List En) (q:I),(∀t∈fl,t.rx≠z.rx)->h.map J.rx=gA x.k [] ((fl.map J.rx).filter λt=>!(a8 t u.rx==0))->(∀t∈h,t∈fl)->LH F0 w q L (.tree x::.tree ev::D)->(∀b∈[b4,b8,b9],En.g b∈L)->(∀A,LH F0 w A L (.tree x::.tree ev::D)->bL 4 A y (h.flatMap J.c)/\∀b∈(J.row y h).fp,w.heap.size<=b\/b∈x.fp)->
   Y (((y.n:Nat):Int)==0) (loc [b4,b8,b9] q λaZ=>R (V u.v) aZ) (Y (((y.n:Nat):Int)==1) (aw y 0 λp=>aV q (p.add (ag 0 *4)) λa b E d=>loc [b4,b8,b9] q λa1=>R (V (.agg #[.i a,.int .u8 b,.int .u8 E,d.v])) a1) (loc [b4,b8,b9] q λa2=>R (V (.agg #[.i x.k,.int .u8 0,.int .u8 0,y.v])) a2)):=by
  intro h y L D q S G Q H e an;have hr:=an q H;have aG:=J.cj hr.1;have ej:=aH S;rw [<-G] at ej;have aj:Sub x h:=ap.sub Q;refine aO (λh0=>H.au (λM B=>⟨⟨u,rfl,?_,ar M (B.getD 1),λb e=>.inl (aK b e)⟩,B.fr⟩) e) (λh0=>aO (λh1=>?_) (λh1=>H.au (λM B=>⟨⟨.mk x.k 0 0 y h,rfl,?_,?_,λb e=>?_⟩,B.fr⟩) e))
  .have:h=[]:=List.length_eq_zero_iff.1 (by omega);rw [ej,this];rfl
  .obtain ⟨a,rfl⟩:=List.length_eq_one_iff.1 (show h.length=1 by omega);refine ⟨by omega,by omega,J.cY hr.1 (i:=0) (t:=a) rfl λp T E=>⟨_,_,_,_,E.c0,E.c1,E.c2,E.c3,H.au (λM B=>⟨⟨a,rfl,?_,aj.P _ (B.getD 0) a (by simp),λb e=>.inr (aj.fp a (by simp) b e)⟩,B.fr⟩) e⟩⟩;rw [ej];rfl
  .rw [ej];unfold J.rx;rw [J.fh];cases h with
   |nil=>simp at aG;omega
   |cons a ks=>
    cases ks with
    |nil=>simp at aG;omega
    |cons b ks=>rfl
  .unfold J.P;exact ⟨(an M B).1,aj.Ps (B.getD 0)⟩
  .unfold J.fp at e;rcases a5.1 e with e|e
   .exact (an M B).2 b e
   .exact .inr (aj.a' e)
 have aM:x.k=3->∀(d i:Nat) (y:O) (h:List J) (q:I),i+d=fl.length->(∀t∈fl.take i,t.rx≠z.rx)->h.map J.rx=gA x.k [] (((fl.take i).map J.rx).filter λt=>!(a8 t u.rx==0))->(∀t∈h,t∈fl)->J.aU h<=J.aU (fl.take i)->
   LH F0 w q [.g b4,.g b8,.g b9,.row aF 4 y (h.flatMap J.c)] [.tree x,.tree ev,.tree (bO sf fl)]->hq.h5 x.k b4 0 0 0 ⟨none,0,0⟩ sf b8 u.k u.lo.toNat u.hi.toNat u.s b9 z.k z.lo.toNat z.hi.toNat z.s y (i:Int) q R:=by
  intro hk d;induction d with
  |zero=>
   intro i y h q am S G Q hs H;rw [e1 (by omega)] at S G;refine hq.oV _ _ _ _ _ _ _ _ _ _ _ _ _ _ _ _ _ _ _ _ _ (a9 (a0 (by omega)) ?_);exact fin h y _ _ q S G Q H (by simp) (λA H'=>⟨(H'.get 3:aS _ _ _ _ _).bz,λb e=>.inl ((H'.new _ (aI (i:=3) rfl) b (gb e)).resolve_right id)⟩)
  |succ d ah=>
   intro i y h q am S G Q hs H;have C:fl[i]? =some fl[i]:=bc (by omega);generalize fl[i]'(by omega)=t at C;have F:=aI C;have aY:=J.dV F;have ab:fl.take (i+1)=fl.take i++[t]:=by rw [gC,C];rfl
   have aR:J.aU (fl.take (i+1))=J.aU (fl.take i)+t.sz:=by rw [ab,r6];rfl
   have aX:=yD fl (i+1);refine hq.oV _ _ _ _ _ _ _ _ _ _ _ _ _ _ _ _ _ _ _ _ _ (bd (aW (by omega)) ⟨by omega,by omega,J.cY (dd.1 (show (bO sf fl).P q from H.getD 2)).1 C λp T _=>H.au λM B=>?_⟩);have p2:(bO sf fl).P M:=B.getD 2;have W:=J.again (dd.1 p2).1 C T;refine ⟨_,_,_,_,W.c0,W.c1,W.c2,W.c3,B.aA (o6 t z M (by omega) ((dd.1 p2).2.mem F) (al M (B.getD 1))) ?_⟩;rintro _ w3 rfl H3;refine ⟨_,rfl,aO (λh0=>H3.au λw4 H4=>⟨⟨z,rfl,?_,al w4 (H4.getD 1),λb e=>.inl (aC b e)⟩,H4.fr⟩) (λh0=>?_)⟩
   .exact (av t F (qT.1 h0)).symm
   refine ⟨by omega,by omega,J.cY (dd.1 (show (bO sf fl).P w3 from H3.getD 2)).1 C λp T _=>H3.au λw5 H5=>?_⟩;have p5:(bO sf fl).P w5:=H5.getD 2;have Z:=J.again (dd.1 p5).1 C T;refine ⟨_,_,_,_,Z.c0,Z.c1,Z.c2,Z.c3,H5.aA (o6 t u w5 (by omega) ((dd.1 p5).2.mem F) (ar w5 (H5.getD 1))) ?_⟩;rintro _ w6 rfl N;have ae:∀K∈fl.take (i+1),K.rx≠z.rx:=λK j=>by
    rw [ab] at j;rcases a5.1 j with j|j
    .exact S K j
    .simp at j;subst j;exact λad=>h0 (qT.2 ad)
   refine ⟨_,rfl,aO (λh1=>?_) (λh1=>bd (beq_iff_eq.2 hk) ?_)⟩
   .show hq.h5 _ _ _ _ _ _ _ _ _ _ _ _ _ _ _ _ _ _ _ _ _;rw [bw _ (by omega)];refine ah (i+1) y h w6 (by omega) ae ?_ Q (by omega) N;rw [ab,ke,List.filter_append,G];have e0:([t].map J.rx).filter (λt=>!(a8 t u.rx==0))=[]:=by show [t.rx].filter _=[];rw [List.filter_cons_of_neg (by rw [h1];simp)];rfl
    rw [e0,fI]
   .have ef:((fl.take (i+1)).map J.rx).filter (λt=>!(a8 t u.rx==0))=(((fl.take i).map J.rx).filter λt=>!(a8 t u.rx==0))++[t.rx]:=by rw [ab,ke,List.filter_append];congr 1;show [t.rx].filter _=[t.rx];rw [List.filter_cons_of_pos (by simpa using h1)];rfl
    refine ⟨by omega,by omega,J.cY (dd.1 (show (bO sf fl).P w6 from N.getD 2)).1 C λp T E=>⟨_,_,_,_,E.c0,E.c1,E.c2,E.c3,?_⟩⟩;have bb:=J.cj (N.get 3:aS _ _ _ _ _).bz;have ba:=J.fi h;refine N.i5 3 j5 (xs:=h.flatMap J.c) rfl (λs' w7 H7=>?_) (by omega);show hq.h5 _ _ _ _ _ _ _ _ _ _ _ _ _ _ _ _ _ _ _ _ _;rw [bw _ (by omega)];refine ah (i+1) s' (h++[t]) w7 (by omega) ae ?_ (λK j=>?_) (by rw [r6];show _+(t.sz+0)<=_;omega) ?_
    .rw [ef,CU,aq hk,ke,G];rfl
    .rcases a5.1 j with j|j
     .exact Q K j
     .simp at j;subst j;exact F
    .rw [kD];exact H7
 have aN:x.k≠3->∀(d i:Nat) (y:O) (h:List J) (q:I),i+d=fl.length->(∀t∈fl.take i,t.rx≠z.rx)->h.map J.rx=gA x.k [] (((fl.take i).map J.rx).filter λt=>!(a8 t u.rx==0))->(∀t∈h,t∈fl)->J.aU h<=J.aU (fl.take i)->(∀b∈(bO y h).fp,w.heap.size<=b\/b∈x.fp)->
   LH F0 w q [.g b4,.g b8,.g b9] [.tree x,.tree ev,.tree (bO sf fl),.tree (bO y h)]->hq.h5 x.k b4 0 0 0 ⟨none,0,0⟩ sf b8 u.k u.lo.toNat u.hi.toNat u.s b9 z.k z.lo.toNat z.hi.toNat z.s y (i:Int) q R:=by
  intro hk d;induction d with
  |zero=>
   intro i y h q am S G Q hs ak H;rw [e1 (by omega)] at S G;refine hq.oV _ _ _ _ _ _ _ _ _ _ _ _ _ _ _ _ _ _ _ _ _ (a9 (a0 (by omega)) ?_);exact fin h y _ _ q S G Q H (by simp) (λA H'=>⟨(dd.1 (show (bO y h).P A from H'.getD 3)).1,λb e=>ak b (kK.2 (.inl e))⟩)
  |succ d ah=>
   intro i y h q am S G Q hs ak H;have C:fl[i]? =some fl[i]:=bc (by omega);generalize fl[i]'(by omega)=t at C;have F:=aI C;have aY:=J.dV F;have ab:fl.take (i+1)=fl.take i++[t]:=by rw [gC,C];rfl
   have aR:J.aU (fl.take (i+1))=J.aU (fl.take i)+t.sz:=by rw [ab,r6];rfl
   have aX:=yD fl (i+1);refine hq.oV _ _ _ _ _ _ _ _ _ _ _ _ _ _ _ _ _ _ _ _ _ (bd (aW (by omega)) ⟨by omega,by omega,J.cY (dd.1 (show (bO sf fl).P q from H.getD 2)).1 C λp T _=>H.au λM B=>?_⟩);have p2:(bO sf fl).P M:=B.getD 2;have W:=J.again (dd.1 p2).1 C T;refine ⟨_,_,_,_,W.c0,W.c1,W.c2,W.c3,B.aA (o6 t z M (by omega) ((dd.1 p2).2.mem F) (al M (B.getD 1))) ?_⟩;rintro _ w3 rfl H3;refine ⟨_,rfl,aO (λh0=>H3.au λw4 H4=>⟨⟨z,rfl,?_,al w4 (H4.getD 1),λb e=>.inl (aC b e)⟩,H4.fr⟩) (λh0=>?_)⟩
   .exact (av t F (qT.1 h0)).symm
   refine ⟨by omega,by omega,J.cY (dd.1 (show (bO sf fl).P w3 from H3.getD 2)).1 C λp T _=>H3.au λw5 H5=>?_⟩;have p5:(bO sf fl).P w5:=H5.getD 2;have Z:=J.again (dd.1 p5).1 C T;refine ⟨_,_,_,_,Z.c0,Z.c1,Z.c2,Z.c3,H5.aA (o6 t u w5 (by omega) ((dd.1 p5).2.mem F) (ar w5 (H5.getD 1))) ?_⟩;rintro _ w6 rfl N;have ae:∀K∈fl.take (i+1),K.rx≠z.rx:=λK j=>by
    rw [ab] at j;rcases a5.1 j with j|j
    .exact S K j
    .simp at j;subst j;exact λad=>h0 (qT.2 ad)
   refine ⟨_,rfl,aO (λh1=>?_) (λh1=>a9 (by simpa using hk) ?_)⟩
   .show hq.h5 _ _ _ _ _ _ _ _ _ _ _ _ _ _ _ _ _ _ _ _ _;rw [bw _ (by omega)];refine ah (i+1) y h w6 (by omega) ae ?_ Q (by omega) ak N;rw [ab,ke,List.filter_append,G];have e0:([t].map J.rx).filter (λt=>!(a8 t u.rx==0))=[]:=by show [t.rx].filter _=[];rw [List.filter_cons_of_neg (by rw [h1];simp)];rfl
    rw [e0,fI]
   .have ef:((fl.take (i+1)).map J.rx).filter (λt=>!(a8 t u.rx==0))=(((fl.take i).map J.rx).filter λt=>!(a8 t u.rx==0))++[t.rx]:=by rw [ab,ke,List.filter_append];congr 1;show [t.rx].filter _=[t.rx];rw [List.filter_cons_of_pos (by simpa using h1)];rfl
    refine ⟨by omega,by omega,J.cY (dd.1 (show (bO sf fl).P w6 from N.getD 2)).1 C λp T E=>⟨_,_,_,_,E.c0,E.c1,E.c2,E.c3,?_⟩⟩;refine iH ((Og y h t w6 (by omega) (by omega) (N.getD 3) ((dd.1 (show (bO sf fl).P w6 from N.getD 2)).2.mem F)).mono ?_);rintro _ w7 ⟨⟨s',rfl,aQ,aD⟩,f7⟩;refine ⟨f7,?_⟩;have aP:∀b∈(bO s' (gB t h)).fp,w.heap.size<=b\/b∈x.fp:=λb e=>by
     rcases aD b e with e|e
     .exact .inl (bH N.fr.size e)
     .rcases a5.1 e with e|e
      .exact ak b e
      .exact .inr (ap.fp t F b e)
    have H8:LH F0 w w7 [.g b4,.g b8,.g b9] [.tree x,.tree ev,.tree (bO sf fl),.tree (bO y h),.tree (bO s' (gB t h))]:=N.fo _ f7 aQ λb e=>by
     rcases aD b (aT.1 e) with e|e
     .exact .inl e
     .rcases a5.1 e with e|e
      .exact .inr (.inr ⟨_,aI (i:=3) rfl,aT.2 e⟩)
      .exact .inr (.inr ⟨_,aI (i:=0) rfl,aT.2 (ap.fp t F b e)⟩)
    refine ⟨s',rfl,?_⟩;show hq.h5 _ _ _ _ _ _ _ _ _ _ _ _ _ _ _ _ _ _ _ _ _;rw [bw _ (by omega)];refine ah (i+1) s' (gB t h) w7 (by omega) ae ?_ (λK j=>?_) (by have:=Jj t h;omega) aP (H8.forget _ (by simp))
    .rw [ef,CU,af hk,Jl,G]
    .rcases yd j with rfl|j
     .exact F
     .exact Q K j
 by_cases hk:x.k=3
 .exact aM hk fl.length 0 ⟨none,0,0⟩ [] q (by omega) (by simp) (by simp [gA]) (by simp) (by simp [J.aU]) (H.jP aF 4)
 .refine aN hk fl.length 0 ⟨none,0,0⟩ [] q (by omega) (by simp) (by simp [gA]) (by simp) (by simp [J.aU]) (λb e=>?_) (H.fo (.tree (bO ⟨none,0,0⟩ [])) (Fr.refl _ _) (dd.2 ⟨bL.nil 4 q,by unfold J.Ps;trivial⟩) λb e=>?_)
  .rcases kK.1 e with e|e
   .simp [J.row,En.bz] at e
   .unfold J.a' at e;cases e
  .rcases kK.1 (aT.1 e) with e|e
   .simp [J.row,En.bz] at e
   .unfold J.a' at e;cases e
end
def Oq (x:J) (hk:3<=x.k/\x.k<=7) (hx:x.sz<=10000) (M:jK (.mk x.k 0 0 (J.ax x.l))=true) (az:∀c∈x.l,0<=c.k) (w:I) (px:x.P w):
  ai U BB #[.i x.k,x.s.v] w λr w'=>fR x.fp w (g4 (.mk x.k 0 0 (J.ax x.l))) r w'/\ao w w':=by
 have nr:=J.cj px.parts.1;have aV:=J.hC x;have aM:=J.fi x.l;refine hq.aD _ _ w _ ((gq px).aL λG F H1=>H1.jF (zK F) ?_);rintro _ w2 ⟨j,rfl,ah,aH,an⟩ H2 F2;have H3:LH F0 w w2 [.g G] [.tree x,.tree j]:=F2.rd (.tree j) aH λb h=>an b (aT.1 h);have aG:∀b∈j.fp,w.heap.size<=b:=λb h=>bH H1.fr.size (an b h);have pc:∀{w':I} {c:J},x.P w'->x.l[0]? =some c->c.P w':=λS e=>S.parts.2.mem (aI e);have fc:∀{c:J},x.l[0]? =some c->∀b∈c.fp,b∈x.fp:=λe b h=>J.fX.2 (.inr (J.bR.2 ⟨_,aI e,h⟩));refine ⟨_,_,_,j.s,rfl,H3.aL λK w3 C=>aO (λh6=>?_) (λh6=>aO (λh7=>?_) (λh7=>C.au λL A=>?_))⟩
 .
  cases E:x.l with
  |nil=>rw [E,h6] at M;simp [jK,J.ax] at M
  |cons c B=>
   have e:x.l[0]? =some c:=by rw [E];rfl
   have n2:0<x.s.n:=by rw [E] at nr;simp at nr;omega
   have Z:J.ax (c::B)=c.rx::J.ax B:=rfl;have ef:g4 (.mk x.k 0 0 (J.ax (c::B)))=mm 0 0 (c.rx::J.ax B):=by rw [h6];rfl
   rw [ef];refine ⟨by omega,by omega,J.cY (show x.P w3 from C.getD 0).parts.1 e λp z _=>C.au λw5 A=>?_⟩;have N:x.P w5:=A.getD 0;have u:=J.again N.parts.1 e z;refine ⟨c.k,u.c0,aO (λaa=>⟨by omega,by omega,J.cY N.parts.1 e λp z u=>⟨c.s,u.c3,?_⟩⟩) (λaa=>A.au λy q=>⟨⟨.mk 6 0 0 x.s x.l,rfl,?_,?_,λb h=>.inr ?_⟩,q.fr⟩)⟩
   .cases ag:c.l with
    |nil=>
     rw [E,Z] at M;have e2:c.rx.l.isEmpty=true:=by rw [uO,ag];rfl
     simp [jK,h6,kg,aa,e2] at M
    |cons d aZ=>
     have ak:c.l[0]? =some d:=by rw [ag];rfl
     refine hR (pc N e) rfl ak (A.au λy q=>⟨⟨d,rfl,?_,(pc (q.getD 0) e).parts.2.mem (aI ak),λb h=>.inr (fc e b (J.fX.2 (.inr (J.bR.2 ⟨d,aI ak,h⟩))))⟩,q.fr⟩);show d.rx=if c.rx.k=6 then _ else _;rw [aq (by rw [kg,aa]),uO,ag];rfl
   .show Rx.mk 6 0 0 (J.ax x.l)=if c.rx.k=6 then _ else _;rw [af (by rw [kg];exact aa),E,Z]
   .unfold J.P;exact (show x.P y from q.getD 0).parts
   .unfold J.fp at h;exact J.fX.2 (a5.1 h)
 .
  cases E:x.l with
  |nil=>rw [E,h7] at M;simp [jK,J.ax] at M
  |cons c B=>
   have e:x.l[0]? =some c:=by rw [E];rfl
   have n2:0<x.s.n:=by rw [E] at nr;simp at nr;omega
   have Z:J.ax (c::B)=c.rx::J.ax B:=rfl;have ef:g4 (.mk x.k 0 0 (J.ax (c::B)))=jr 0 0 (c.rx::J.ax B):=by rw [h7];rfl
   rw [ef];have ad:jr 0 0 (c.rx::J.ax B)=if c.k=0\/c.k=1 then l2 else if c.k=7\/a8 c.rx eg=0 then c.rx else .mk 7 0 0 (c.rx::J.ax B):=by unfold jr;simp only [kg]
   have aJ:c.sz<=1000000:=by have:=J.dV (aI e);omega
   have s0:∀(y:I),¬(c.k=0\/c.k=1)->(c.k=7\/a8 c.rx eg=0)->LH F0 w y [.g G,.g K] [.tree x,.tree j]->hq.aQ x.s G 0 0 0 ⟨none,0,0⟩ y λr w'=>fR x.fp w (jr 0 0 (c.rx::J.ax B)) r w'/\ao w w':=by intro y h1 h2 q;refine ⟨by omega,by omega,J.cY (show x.P y from q.getD 0).parts.1 e λp z u=>⟨_,_,_,_,u.c0,u.c1,u.c2,u.c3,(q.take 1).au λw7 D=>⟨⟨c,rfl,?_,pc (D.getD 0) e,λb h=>.inr (fc e b h)⟩,D.fr⟩⟩⟩;rw [ad,af h1,aq h2]
   refine ⟨by omega,by omega,J.cY (show x.P w3 from C.getD 0).parts.1 e λp z _=>C.au λw5 A=>?_⟩;have N:x.P w5:=A.getD 0;have u:=J.again N.parts.1 e z;have aK:0<=c.k:=az c (aI e);refine ⟨c.k,u.c0,aR (λh2=>A.au λy q=>⟨⟨e8,rfl,?_,wi y,λb h=>(wj h).elim⟩,q.fr⟩) (λh2=>?_)⟩
   .rw [ad,aq (by omega)];rfl
   refine ⟨by omega,by omega,J.cY N.parts.1 e λp z _=>A.au λy q=>?_⟩;have al:x.P y:=q.getD 0;have u:=J.again al.parts.1 e z;refine ⟨c.k,u.c0,aO (λae=>s0 y (by omega) (.inl ae) q) (λae=>⟨by omega,by omega,J.cY al.parts.1 e λp z u=>⟨_,_,_,_,u.c0,u.c1,u.c2,u.c3,q.aA (o6 c j y aJ (pc al e) (q.getD 1)) ?_⟩⟩)⟩;rintro _ w7 rfl D;rw [ah];refine ⟨_,rfl,aO (λh0=>s0 w7 (by omega) (.inr h0) D) (λh0=>D.au λw8 Y=>⟨⟨.mk 7 0 0 x.s x.l,rfl,?_,?_,λb h=>.inr ?_⟩,Y.fr⟩)⟩
   .show Rx.mk 7 0 0 (J.ax x.l)=_;rw [ad,af (by omega),af (λS=>S.elim ae h0),E,Z]
   .unfold J.P;exact (show x.P w8 from Y.getD 0).parts
   .unfold J.fp at h;exact J.fX.2 (a5.1 h)
 .
  have ap:x.k=3\/x.k=4\/x.k=5:=by omega
  obtain ⟨aX,a3,a4,ew,hj,gu,gz,hu,aC,aB,ar⟩:=U7 x j ap ah;have loop:∀(d i:Nat) (acc:List J) (W:O) (F:I),i+d=x.l.length->acc=(x.l.take i).flatMap (eC x)->LH F0 w F [.g G,.g K,.row aF 4 W (acc.flatMap J.c)] [.tree x,.tree j]->
    hq.b6 x.k x.s G 0 0 0 ⟨none,0,0⟩ K j.k j.lo.toNat j.hi.toNat j.s W (i:Int) F λr w'=>fR x.fp w (g4 (.mk x.k 0 0 (J.ax x.l))) r w'/\ao w w':=by
   intro d;induction d with
   |zero=>
    intro i acc W F av T H;rw [e1 (by omega)] at T;subst T;have am:Sub x (x.l.flatMap (eC x)):=Sub.flat λ_ S=>S;have Q:=(H.fo (.trees (x.l.flatMap (eC x))) (Fr.refl _ _) (am.Ps (H.getD 0)) (λb h=>.inr (.inr ⟨_,aI (i:=0) rfl,aT.2 (am.a' (aT.1 h))⟩))).pS 2 2 0 0 0;have Q:LH F0 w F [.g G,.g K] [.tree x,.tree j,.tree (bO W (x.l.flatMap (eC x)))]:=Q.forget _ (by simp);refine hq.eV _ _ _ _ _ _ _ _ _ _ _ _ _ _ _ _ (a9 (a0 (by omega)) ?_);refine Q.eb (n:=3) (sz:=4) (cs:=[e8,cb,j].flatMap J.c) rfl (by decide) λw2 H2=>?_;rw [ew];refine ⟨by omega,by omega,J.cY (s:=⟨some (aj F.heap.size),3,3⟩) (l:=[e8,cb,j]) (H2.get 2:aS _ _ _ _ _).bz gu λp z c=>⟨_,_,_,_,c.c0,c.c1,c.c2,c.c3,H2.aL λb8 w3 H3=>H3.au λL C=>C.eb (n:=3) (sz:=4) (cs:=[cb,j,cb].flatMap J.c) rfl (by decide) λw5 A=>⟨by omega,by omega,J.cY (s:=⟨some (aj L.heap.size),3,3⟩) (l:=[cb,j,cb]) (A.get 4:aS _ _ _ _ _).bz gz λp z c=>⟨_,_,_,_,c.c0,c.c1,c.c2,c.c3,A.aL λb9 y q=>q.au λw7 D=>?_⟩⟩⟩⟩;have Y:=((D.freeze 1 (.g K) rfl (D.get 1) λb h=>h).freeze 1 _ rfl (D.get 2) λb h=>h).freeze 2 _ rfl (D.get 4) λb h=>h;exact Tv hx ah aG hu aC aB ar (Y.forget _ (by simp))
   |succ d aE=>
    intro i acc W F av T H;have e:x.l[i]? =some (x.l[i]'(by omega)):=bc (by omega);generalize x.l[i]'(by omega)=a at e;have hm:=aI e;have ab:x.P F:=H.getD 0;have a2:=J.dV hm;have aP:J.aU acc<=J.aU x.l:=by have h1:=r7 x (x.l.take i);have h2:=yD x.l i;rw [T];omega
    have ay:acc++eC x a=(x.l.take (i+1)).flatMap (eC x):=by rw [gC,e,dh,T];simp
    have a1:=J.cj (H.get 2:aS _ _ _ _ _).bz;have aw:=J.fi acc;have tail:∀(s':O) (w':I),LH F0 w w' [.g G,.g K,.row aF 4 s' ((acc++eC x a).flatMap J.c)] [.tree x,.tree j]->hq.aY x.k x.s G 0 0 0 ⟨none,0,0⟩ K j.k j.lo.toNat j.hi.toNat j.s s' (i:Int) w' λr w'=>fR x.fp w (g4 (.mk x.k 0 0 (J.ax x.l))) r w'/\ao w w':=by intro s' w' Q;show hq.b6 _ _ _ _ _ _ _ _ _ _ _ _ _ _ _ _;rw [bw _ (by omega)];exact aE (i+1) _ s' w' (by omega) ay Q
    refine hq.eV _ _ _ _ _ _ _ _ _ _ _ _ _ _ _ _ (bd (aW (by omega)) ⟨by omega,by omega,J.cY ab.parts.1 e λp z c=>⟨a.k,c.c0,aO (λhk=>?_) (λhk=>?_)⟩⟩)
    .have pa:a.P F:=ab.parts.2.mem hm;have na:=J.cj pa.parts.1;have aw:=J.fi a.l;have aN:=J.hC a;refine ⟨by omega,by omega,J.cY ab.parts.1 e λp z c=>⟨a.s,c.c3,?_⟩⟩;refine H.j0 2 j5 (xs:=acc.flatMap J.c) (src:=a.s) (news:=a.l.flatMap J.c) rfl pa.parts.1 (qP _) (by omega) (λs' L C=>?_);refine tail s' L ?_;have ac:eC x a=a.l:=aq hk;rw [ac,dh];exact C
    .refine ⟨by omega,by omega,J.cY ab.parts.1 e λp z c=>⟨_,_,_,_,c.c0,c.c1,c.c2,c.c3,?_⟩⟩;refine H.i5 2 j5 (xs:=acc.flatMap J.c) rfl (λs' L C=>?_) (by omega);refine tail s' L ?_;have ac:eC x a=[a]:=af hk;rw [ac,kD];exact C
  exact loop x.l.length 0 [] ⟨none,0,0⟩ L (by omega) rfl (A.jP aF 4)
def uX (k:Int):Rx:=if k=3 then l2 else if k=4 then fg else eg
def zX (k:Int):Rx:=if k=4 then eg else fg
mutual
def NF:Rx->Prop
 |.mk c lo e l=>ku l/\(c≠2->lo=0/\e=0)/\(((c=0\/c=1)/\l=[])\/(c=2/\l=[]/\lo.toNat<=e.toNat)\/
   ((c=3\/c=4\/c=5)/\2<=l.length/\(c≠3->h4 l)/\∀t∈l,t.k≠c/\t≠uX c/\t≠zX c)\/
   (c=6/\∃d,l=[d]/\d.k≠6)\/(c=7/\∃d,l=[d]/\d.k≠0/\d.k≠1/\d.k≠7/\d≠eg))
def ku:List Rx->Prop
 |[]=>True
 |a::l=>NF a/\ku l
end
def sC:∀{l:List Rx},ku l↔∀t∈l,NF t
 |[]=>by unfold ku;simp
 |a::l=>by unfold ku;rw [sC];simp
def pF:NF fg:=by unfold fg NF ku;simp
def CC:NF l2:=by unfold l2 NF ku;simp
def Iy:NF eg:=by unfold eg NF ku ku;refine ⟨⟨pF,trivial⟩,by simp,.inr (.inr (.inr (.inl ⟨rfl,fg,rfl,by decide⟩)))⟩
def RM (k:Int):NF (uX k):=by
 unfold uX;split
 .exact CC
 .split
  .exact pF
  .exact Iy
def RN (k:Int):NF (zX k):=by
 unfold zX;split
 .exact Iy
 .exact pF
def Iz {x:Rx} (c:NF x):∀t∈x.l,NF t:=by cases x;unfold NF at c;exact sC.1 c.1
def RJ {x:Rx} {k:Int} (j:k=3\/k=4\/k=5) (c:NF x) (d:x.k=k):2<=x.l.length/\(k≠3->h4 x.l)/\∀t∈x.l,t.k≠k/\t≠uX k/\t≠zX k:=by
 cases x with
 |mk e lo h l=>
  have d:e=k:=d;subst d;unfold NF at c;obtain ⟨-,-,c|c|c|c|c⟩:=c
  .omega
  .omega
  .exact c.2
  .omega
  .omega
def PI {k:Int} {l:List Rx} {u t:Rx}:t∈fE k l u↔(∃c∈l,if c.k=k then t∈c.l else t=c)/\t≠u:=by
 unfold fE;rw [List.mem_filter,ch,Ab];refine and_congr ⟨λ⟨c,h,e⟩=>⟨c,h,?_⟩,λ⟨c,h,e⟩=>⟨c,h,?_⟩⟩ Iff.rfl
 .split at e
  .rename_i d;rw [aq d];exact e
  .rename_i d;rw [af d];simpa using e
 .split at e
  .rename_i d;rw [aq d];exact e
  .rename_i d;rw [af d];simpa using e
def PK {k:Int} (q:k=3\/k=4\/k=5) {l:List Rx} (h:∀c∈l,NF c) {t:Rx} (u:t∈fE k l (uX k)):NF t/\t.k≠k/\t≠uX k:=by
 obtain ⟨⟨c,j,d⟩,n⟩:=PI.1 u;split at d
 .rename_i e;exact ⟨Iz (h c j) t d,((RJ q (h c j) e).2.2 t d).1,n⟩
 .rename_i e;subst d;exact ⟨h t j,e,n⟩
def jT (k:Int) (l:List Rx):List Rx:=if k=3 then fE k l (uX k) else pX (fE k l (uX k))
def Tq {k:Int} {l:List Rx} {t:Rx}:t∈jT k l↔t∈fE k l (uX k):=by
 unfold jT;split
 .exact Iff.rfl
 .exact DH
def HY (k:Int) (l:List Rx):((fE k l (uX k)).any λt=>a8 t (zX k)==0)=true↔zX k∈fE k l (uX k):=by
 rw [List.any_eq_true];constructor
 .rintro ⟨t,d,c⟩;rw [pc.1 c] at d;exact d
 .exact λc=>⟨_,c,pc.2 rfl⟩
def HZ {k:Int} {l:List Rx} (c:zX k∈fE k l (uX k)):gm k l (uX k) (zX k)=zX k:=by unfold gm;rw [aq ((HY k l).2 c)]
def A5 {k:Int} {l:List Rx} (c:¬zX k∈fE k l (uX k)):gm k l (uX k) (zX k)=ra k (uX k) (jT k l):=by unfold gm;rw [af (λd=>c ((HY k l).1 d))];rfl
def QB {k:Int} (q:k=3\/k=4\/k=5) {l:List Rx} (x:∀u∈l,NF u):NF (gm k l (uX k) (zX k)):=by
 by_cases j:zX k∈fE k l (uX k)
 .rw [HZ j];exact RN k
 .rw [A5 j];have d:∀t∈jT k l,NF t/\t.k≠k/\t≠uX k/\t≠zX k:=λt c=>by have c:=Tq.1 c;obtain ⟨e,z,h⟩:=PK q x c;exact ⟨e,z,h,λw=>j (w▸c)⟩
  have n:k≠3->h4 (jT k l):=λh=>by unfold jT;rw [af h];exact DG _
  generalize jT k l=m at d n;unfold ra;split
  .exact RM k
  .exact (d _ (by simp)).1
  .rename_i y e;unfold NF;refine ⟨sC.2 λt c=>(d t c).1,λ_=>⟨rfl,rfl⟩,.inr (.inr (.inl ⟨q,?_,n,λt c=>(d t c).2⟩))⟩;cases m with
   |nil=>exact absurd rfl y
   |cons a m=>
    cases m with
    |nil=>exact absurd rfl (e a)
    |cons b m=>simp
def wE {k:Int} (c:k=3\/k=4\/k=5) (lo hi:UInt8) (l:List Rx):g4 (.mk k lo hi l)=gm k l (uX k) (zX k):=by rcases c with rfl|rfl|rfl<;>rfl
def R3 {c:Rx} (e:NF c):NF (mm 0 0 [c]):=by
 unfold mm;simp only;split
 .rename_i d;split
  .exact pF
  .rename_i j m k;exact Iz e j (by rw [k];simp)
 .rename_i d;unfold NF;exact ⟨sC.2 λt h=>by (simp at h;subst h;exact e),λ_=>⟨rfl,rfl⟩,.inr (.inr (.inr (.inl ⟨rfl,c,rfl,d⟩)))⟩
def Uk {c:Rx} (d:NF c):NF (jr 0 0 [c]):=by
 unfold jr;simp only;split
 .exact CC
 .rename_i e;split
  .exact d
  .rename_i h;unfold NF;exact ⟨sC.2 λt j=>by (simp at j;subst j;exact d),λ_=>⟨rfl,rfl⟩,.inr (.inr (.inr (.inr ⟨rfl,c,rfl,λd=>e (.inl d),λd=>e (.inr d),λd=>h (.inl d),λd=>h (.inr (qT.2 d))⟩)))⟩
def l6 {k:Int} {lo hi:UInt8} {l:List Rx} (h:cq (.mk k lo hi l)=true):dk l=true/\(k≠2->lo=0/\hi=0)/\(((k=0\/k=1)/\l=[])\/(k=2/\l=[]/\lo.toNat<=hi.toNat)\/(k=3\/k=4\/k=5)\/((k=6\/k=7)/\∃n,l=[n])):=by
 unfold cq at h;rw [bn] at h;obtain ⟨j,c⟩:=h;have e:k≠2->lo=0/\hi=0:=λd=>by
  have q:(k !=2)=true:=by simpa using d
  rw [q,Bool.true_and,Bool.not_eq_true',Bool.or_eq_false_iff] at j;simpa using j
 split at c
 .rename_i d;have:l=[]:=by simpa using c
  subst this;exact ⟨rfl,e,.inl ⟨d,rfl⟩⟩
 .split at c
  .rename_i d;simp only [bn,decide_eq_true_eq] at c;have:l=[]:=by simpa using c.1
   subst this;exact ⟨rfl,e,.inr (.inl ⟨d,rfl,c.2⟩)⟩
  .split at c
   .rename_i d;exact ⟨c,e,.inr (.inr (.inl d))⟩
   .split at c
    .rename_i d;simp only [bn] at c;exact ⟨c.2,e,.inr (.inr (.inr ⟨d,List.length_eq_one_iff.1 (eq_of_beq c.1)⟩))⟩
    .cases c
def RL {lo hi:UInt8} (c:lo.toNat<=hi.toNat):NF (.mk 2 lo hi []):=by unfold NF ku;exact ⟨trivial,λc=>absurd rfl c,.inr (.inl ⟨rfl,rfl,c⟩)⟩
mutual
def CF:∀j:Rx,cq j=true->NF (dg j)
 |.mk y lo x l,n=>by
  obtain ⟨q,d,u⟩:=l6 n;have h:=CI l q;unfold dg;rcases u with ⟨c,rfl⟩|⟨rfl,rfl,w⟩|c|⟨c,k,rfl⟩
  .obtain ⟨rfl,rfl⟩:=d (by omega);rcases c with rfl|rfl
   .exact pF
   .exact CC
  .exact RL w
  .rw [wE c];exact QB c h
  .obtain ⟨rfl,rfl⟩:=d (by omega);have e:NF (dg k):=h _ (by unfold ej;simp);rcases c with rfl|rfl
   .exact R3 e
   .exact Uk e
def CI:∀l:List Rx,dk l=true->∀t∈ej l,NF t
 |[],_=>λt c=>by unfold ej at c;cases c
 |a::l,d=>λt c=>by
  unfold dk at d;rw [bn] at d;unfold ej at c;rcases aB.1 c with rfl|c
  .exact CF a d.1
  .exact CI l d.2 t c
end
def PJ {k:Int} {l:List Rx} {u:Rx} (d:∀t∈l,t.k≠k/\t≠u):fE k l u=l:=by
 unfold fE;have h:(l.flatMap λc=>if c.k=k then c.l else [c])=l:=by
  induction l with
  |nil=>rfl
  |cons a l j=>
   rw [cO,j λt e=>d t (ec _ e),af (d a (by simp)).1];rfl
 rw [h,List.filter_eq_self];exact λt e=>Ab.2 (d t e).2
mutual
def IA:∀q:Rx,NF q->dg q=q
 |.mk n lo w l,c=>by
  unfold NF at c;obtain ⟨e,A,h⟩:=c;have G:=IB l e;unfold dg;rw [G];rcases h with ⟨j,rfl⟩|⟨rfl,rfl,H⟩|⟨j,x,E,k⟩|⟨rfl,d,rfl,C⟩|⟨rfl,d,rfl,z,e,B,D⟩
  .rcases j with rfl|rfl<;>rfl
  .rfl
  .obtain ⟨rfl,rfl⟩:=A (by omega);have u:fE n l (uX n)=l:=PJ λt y=>⟨(k t y).1,(k t y).2.1⟩;rw [wE j,A5 (λF=>(k _ (u▸F)).2.2 rfl)];have er:jT n l=l:=by
    unfold jT;rw [u];split
    .rfl
    .rename_i h;exact TY (E h)
   rw [er];cases l with
   |nil=>simp at x
   |cons a l=>
    cases l with
    |nil=>simp at x
    |cons b l=>rfl
  .show mm lo w [d]=_;unfold mm;simp only;rw [af C]
  .show jr lo w [d]=_;unfold jr;simp only;rw [af λc=>c.elim z e,af λc=>c.elim B λc=>D (qT.1 c)]
def IB:∀l:List Rx,ku l->ej l=l
 |[],_=>rfl
 |a::l,c=>by unfold ku at c;unfold ej;rw [IA a c.1,IB l c.2]
end
section
variable {μ:Rx->Nat}
def Is (p:Rx->Bool):∀l:List Rx,ms μ (l.filter p)<=ms μ l
 |[]=>bB _
 |a::l=>by
  have c:=Is p l;rw [List.filter_cons];split
  .show μ a+_<=μ a+_;omega
  .show _<=μ a+_;omega
def tK:∀{l:List Rx} {a:Rx},a∈l->μ a<=ms μ l
 |b::l,a,c=>by
  rcases aB.1 c with rfl|c
  .show μ a<=μ a+_;omega
  .have:=tK c;show μ a<=μ b+_;omega
def tJ (c:∀d,1<=μ d):∀l:List Rx,l.length<=ms μ l
 |[]=>bB _
 |a::l=>by have:=tJ c l;have:=c a;show l.length+1<=μ a+ms μ l;omega
def Ir:∀(l:List Rx) (p:Rx),ms μ (jH p l)<=ms μ l
 |[],p=>bB _
 |c::l,p=>by
  have:=Ir l c;unfold jH;split
  .show _<=μ c+ms μ l;omega
  .show μ c+_<=μ c+ms μ l;omega
def RE (l:List Rx):ms μ (pX l)<=ms μ l:=by
 have c:ms μ (pd (jV l))<=ms μ (jV l):=by
  cases jV l with
  |nil=>exact bB _
  |cons a m=>have:=Ir (μ:=μ) m a;show μ a+_<=μ a+_;omega
 rw [<-RD (DP l)];exact c
def Bj (d:∀e,ms μ e.l<=μ e) (k:Int):∀l:List Rx,ms μ (l.flatMap λc=>if c.k=k then c.l else [c])<=ms μ l
 |[]=>bB _
 |c::l=>by
  have j:=Bj d k l;have h:=d c;rw [cO,Iq];show _<=μ c+ms μ l;split
  .omega
  .show (μ c+0)+_<=_;omega
def It (e:∀d,ms μ d.l<=μ d) (k:Int) (l:List Rx):ms μ (jT k l)<=ms μ l:=by
 have c:ms μ (fE k l (uX k))<=ms μ l:=bH (Is _ _) (Bj e k l);unfold jT;split
 .exact c
 .exact bH (RE _) c
end
def DZ:∀l:List Rx,Rx.aU l=ms Rx.sz l
 |[]=>rfl
 |a::l=>by unfold Rx.aU;rw [DZ l];rfl
def kR (k:Int) (lo hi:UInt8) (l:List Rx):(Rx.mk k lo hi l).sz=1+ms Rx.sz l:=by unfold Rx.sz;rw [DZ]
def La (x:Rx):ms Rx.sz x.l<=x.sz:=by cases x;rw [kR];simp only [Rx.l];omega
def r5 (x:Rx):1<=x.sz:=by cases x;rw [kR];omega
def Bf (x:Rx):ms de x.l<=de x:=by cases x;rw [oa];simp only [Rx.l];omega
def Rp (x:Rx):1<=de x:=by cases x;rw [oa];omega
mutual
def Bg:∀c:Rx,de c<=c.sz
 |.mk e lo d l=>by rw [oa,kR];have:=Ij l;omega
def Ij:∀l:List Rx,ms de l<=ms Rx.sz l
 |[]=>bB _
 |a::l=>by have c:=Bg a;have d:=Ij l;show de a+ms de l<=a.sz+ms Rx.sz l;omega
end
def H0 {k:Int} {l:List Rx} {P:Rx->Prop} (j:P (zX k)) (h:P (uX k)) (d:∀a,a∈jT k l->P a) (e:P (.mk k 0 0 (jT k l))):P (gm k l (uX k) (zX k)):=by
 by_cases c:zX k∈fE k l (uX k)
 .rw [HZ c];exact j
 .rw [A5 c];generalize n:jT k l=m at d e;unfold ra;split
  .exact h
  .exact d _ (by simp)
  .exact e
def L8 (k:Int):(uX k).sz<=2/\(zX k).sz<=2/\de (uX k)=1/\de (zX k)=1:=by
 unfold uX zX;refine ⟨?_,?_,?_,?_⟩
 .split
  .decide
  .split<;>decide
 .split<;>decide
 .split
  .decide
  .split<;>decide
 .split<;>decide
def IU {k:Int} {c:Rx} (u:k=6\/k=7) {P:Rx->Prop} (h:P fg) (j:P l2) (n:P c) (q:∀d∈c.l,P d) (e:P (.mk k 0 0 [c])):P (g4 (.mk k 0 0 [c])):=by
 rcases u with rfl|rfl
 .show P (mm 0 0 [c]);unfold mm;simp only;split
  .split
   .exact h
   .rename_i d m w;exact q d (by rw [w];simp)
  .exact e
 .show P (jr 0 0 [c]);unfold jr;simp only;split
  .exact j
  .split
   .exact n
   .exact e
mutual
def CG:∀j:Rx,cq j=true->(dg j).sz<=2 *j.sz
 |.mk e lo q l,w=>by
  obtain ⟨x,n,y⟩:=l6 w;have h:=xY l x;have B:=kR e lo q l;rw [B];unfold dg;rcases y with ⟨d,rfl⟩|⟨rfl,rfl,D⟩|d|⟨d,c,rfl⟩
  .obtain ⟨rfl,rfl⟩:=n (by omega);rcases d with rfl|rfl<;>decide
  .show (Rx.mk 2 lo q []).sz<=_;rw [kR];simp only [ms];omega
  .rw [wE d];have E:=It (μ:=Rx.sz) La e (ej l);obtain ⟨F,G,-,-⟩:=L8 e;refine H0 (P:=λk=>k.sz<=2 *(1+ms Rx.sz l)) (by omega) (by omega) (λa z=>?_) ?_
   .have:=tK (μ:=Rx.sz) z;omega
   .show (Rx.mk e 0 0 _).sz<=_;rw [kR];omega
  .obtain ⟨rfl,rfl⟩:=n (by omega);have u:ej [c]=[dg c]:=rfl;rw [u] at h ⊢;have h:(dg c).sz+0<=2 *(c.sz+0):=h;show _<=2 *(1+(c.sz+0));refine IU (P:=λk=>k.sz<=2 *(1+(c.sz+0))) d (by show (1:Nat)<=_;omega) (by show (1:Nat)<=_;omega) (by omega) (λC A=>?_) ?_
   .have:=tK (μ:=Rx.sz) A;have:=La (dg c);omega
   .show (Rx.mk e 0 0 _).sz<=_;rw [kR];simp only [ms];omega
def xY:∀l:List Rx,dk l=true->ms Rx.sz (ej l)<=2 *ms Rx.sz l
 |[],_=>bB _
 |a::l,c=>by unfold dk at c;rw [bn] at c;have d:=CG a c.1;have e:=xY l c.2;show (dg a).sz+ms Rx.sz (ej l)<=2 *(a.sz+ms Rx.sz l);omega
end
mutual
def R1:∀j:Rx,cq j=true->de (dg j)<=de j
 |.mk e lo q l,w=>by
  obtain ⟨x,n,y⟩:=l6 w;have h:=CH l x;have B:=oa e lo q l;rw [B];unfold dg;rcases y with ⟨d,rfl⟩|⟨rfl,rfl,D⟩|d|⟨d,c,rfl⟩
  .obtain ⟨rfl,rfl⟩:=n (by omega);rcases d with rfl|rfl<;>decide
  .show de (Rx.mk 2 lo q [])<=_;rw [oa];simp only [ms];omega
  .rw [wE d];have E:=It (μ:=de) Bf e (ej l);obtain ⟨-,-,F,G⟩:=L8 e;refine H0 (P:=λk=>de k<=max 1 (ms de l)) (by omega) (by omega) (λa z=>?_) ?_
   .have:=tK (μ:=de) z;omega
   .show de (Rx.mk e 0 0 _)<=_;rw [oa];omega
  .obtain ⟨rfl,rfl⟩:=n (by omega);have u:ej [c]=[dg c]:=rfl;rw [u] at h ⊢;have h:de (dg c)+0<=de c+0:=h;show _<=max 1 (de c+0);refine IU (P:=λk=>de k<=max 1 (de c+0)) d (by show (1:Nat)<=_;omega) (by show (1:Nat)<=_;omega) (by omega) (λC A=>?_) ?_
   .have:=tK (μ:=de) A;have:=Bf (dg c);omega
   .show de (Rx.mk e 0 0 _)<=_;rw [oa];simp only [ms];omega
def CH:∀l:List Rx,dk l=true->ms de (ej l)<=ms de l
 |[],_=>bB _
 |a::l,c=>by unfold dk at c;rw [bn] at c;have d:=R1 a c.1;have e:=CH l c.2;show de (dg a)+ms de (ej l)<=de a+ms de l;omega
end
def Hp {N:Nat} {k:Int} {lo hi:UInt8} {l:List Rx} (e:cq (.mk k lo hi l)=true) (B:(Rx.mk k lo hi l).sz<=10000) (n:m4 N (.mk k lo hi l)):pJ N (.mk k lo hi (ej l))=true:=by
 obtain ⟨h,G,w⟩:=l6 e;have O:=xY l h;have M:=CH l h;rw [kR] at B;unfold m4 at n;unfold pJ;rw [bn,bn];refine ⟨⟨?_,aW (by rw [kR];omega)⟩,?_⟩
 .unfold jK;rw [bn,bn];refine ⟨⟨aW (by omega),aW (by omega)⟩,?_⟩;rcases w with ⟨d,rfl⟩|⟨d,rfl,L⟩|d|⟨d,c,rfl⟩
  .show (k !=6&&k !=7)=true;rcases d with rfl|rfl<;>rfl
  .subst d;rfl
  .cases ej l with
   |nil=>rcases d with rfl|rfl|rfl<;>rfl
   |cons a m=>rcases d with rfl|rfl|rfl<;>rfl
  .show (!(k==6&&(dg c).k==6&&(dg c).l.isEmpty))=true;have y:cq c=true:=by unfold dk at h;rw [bn] at h;exact h.1
   have j:=CF c y;generalize dg c=E at j;cases E with
   |mk q D A C=>
    by_cases u:q=6
    .unfold NF at j;obtain ⟨-,-,e|e|e|⟨_,F,z,_⟩|e⟩:=j
     .omega
     .omega
     .omega
     .rw [z];simp [Rx.l]
     .omega
    .have:(Rx.k (.mk q D A C)==6)=false:=by simpa [Rx.k] using u
     rw [this];simp
 .show ah (k=4\/k=5->rM k (ej l)<=N)=true;refine aW λx=>?_;have H:=tJ Rp ((ej l).flatMap λc=>if c.k=k then c.l else [c]);have J:=Bj (μ:=de) Bf k (ej l);have K:=n.2 x;show ((ej l).flatMap λc=>if c.k=k then c.l else [c]).length<=N;omega
mutual
def Hj {N:Nat}:∀c:Rx,cq c=true->c.sz<=10000->m4 N c->n0 N c=true
 |.mk n lo k l,e,h,d=>by obtain ⟨j,-,-⟩:=l6 e;unfold n0;rw [Hp e h d,Bool.and_true];rw [kR] at h;unfold m4 at d;exact Hk l j (by omega) d.1
def Hk {N:Nat}:∀l:List Rx,dk l=true->ms Rx.sz l<=10000->pn N l->po N l=true
 |[],_,_,_=>rfl
 |a::l,c,e,d=>by unfold dk at c;rw [bn] at c;unfold pn at d;have e:a.sz+ms Rx.sz l<=10000:=e;unfold po;rw [Hj a c.1 (by omega) d.1,Hk l c.2 (by omega) d.2];rfl
end
namespace JL
noncomputable abbrev X:Fx:=⟨U,Tryz.f122,[(4,ls [1,0,2,3,4,5,6,7])],[1,2]⟩
def aD (e h j:Int) (k:O) (w:I) (R:aa) (u:aJ [] w λc G=>
 aJ [c] G λd L=>
 b0 [c,d] xq #[.agg #[.i e,.int .u8 h,.int .u8 j,k.v]] L λn q=>Y (n !=0) (loc [c,d] q λM=>R (V (.tuple #[.agg #[.i 0,.int .u8 0,.int .u8 0,.slice none 0 0],.i n])) M) (loc [c,d] q λN=>OR [c,d] BZ #[] N λt11 P=>ez [c,d] t' #[.map t11,.agg #[.i e,.int .u8 h,.int .u8 j,k.v]] P λx y z A H=>sR [c,d] B0 #[.agg #[.i x,.int .u8 y,.int .u8 z,A.v]] H λB C D E F J=>loc [c,d] J λK=>R (V (.tuple #[.agg #[.i B,.int .u8 C,.int .u8 D,E.v],.i F])) K)):ai U xp #[.agg #[.i e,.int .u8 h,.int .u8 j,k.v]] w R:=aE X [] u
end JL
end Go.Proofs.YtocpddmpfbfdbaaGreatDoor
