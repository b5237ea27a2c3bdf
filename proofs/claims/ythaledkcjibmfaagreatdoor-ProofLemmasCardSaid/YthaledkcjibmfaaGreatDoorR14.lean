import Derived.Test.YthaledkcjibmfaaGreatDoorG9
import Derived.Test.YthaledkcjibmfaaGreatDoorWN
import Derived.Test.YthaledkcjibmfaaGreatDoorU
import Derived.Test.YthaledkcjibmfaaGreatDoorW
import Derived.MapKept
set_option linter.unusedVariables false
set_option linter.defProp false
set_option maxRecDepth 100000
namespace Go.Proofs.YthaledkcjibmfaaGreatDoor
open Go renaming World->J,Calls->ak,Program->aF,Value->ab,TypeId->aC,Ending->cr,LoopState->jH
open Go.IntKind renaming wrap->ao
open _root_.Int renaming toNat->aZ,tdiv->bN,tmod->bY,toNat_natCast->bF
open _root_.ByteArray renaming mk->bJ
open Go.IntWalk renaming i64_in->aS
open Go.Builtin renaming append_->dW
open Go.Sem renaming run->kQ
open _root_.Bool renaming and_eq_true->bf
open _root_.Nat renaming le_refl->bg,le_trans->a8,zero_le->dn,beq->bQ
open _root_.UInt8 renaming ofNat->cI
open _root_.Prod.mk renaming injEq->eu
open _root_.Option.some renaming injEq->eH
open Go.Proofs.Tryz renaming prog->aa
open _root_.Decidable renaming decide->aq
open Go.Ending renaming returned->ag
open List renaming mem_append->aX,mem_cons->av,not_mem_nil->aR,mem_of_getElem?->aE,getElem?_eq_getElem->a6,getElem?_eq_some_iff->bO,mem_map->ch,length_append->a7,append_assoc->cp,length_drop->yQ,mem_cons_of_mem->dS,mem_cons_self->j5,drop_eq_getElem_cons->dy,nil_append->lr,cons_append->i2,drop_of_length_le->dC
open Go Go.W
def O':List UInt8:=[40,41,44,124,38,33,42]
def eK(l:List UInt8)(i:Nat):Tk×Nat:=
 if 0<=Go.Lib.indexByte O' (l.getD i 0)then(⟨l.getD i 0,0,0,[],i⟩,1)
 else if jB (l.getD i 0)=true then(⟨119,0,0,(l.drop i).takeWhile jB,i⟩,((l.drop i).takeWhile jB).length)
 else if l.getD i 0=91 then
  match jO l (i+1)with
  |none=>(⟨63,0,0,[],i⟩,1)
  |some (lo,m)=>
   if i+1+m<l.length/\l.getD (i+1+m) 0=45 then
    match jO l (i+1+m+1)with
    |none=>(⟨63,0,0,[],i⟩,1)
    |some (e,d)=>if i+1+m+(1+d)<l.length/\l.getD (i+1+m+(1+d)) 0=93/\lo.toNat<=e.toNat then(⟨114,lo,e,[],i⟩,1+m+(1+d)+1)else(⟨63,0,0,[],i⟩,1)
   else(⟨63,0,0,[],i⟩,1)
 else match jO l i with
  |some (b,n)=>(⟨114,b,b,[],i⟩,n)
  |none=>(⟨63,0,0,[],i⟩,1)
def zn(x:Tk×Nat):ab:=.tuple #[x.1.v,.int .i64 (x.2:Int)]
def AI{l:List UInt8}{i:Nat}{b:UInt8}{n:Nat}(h:jO l i=some (b,n)):(n=3\/n=4)/\i+n<=l.length:=by
 unfold jO at h;split at h
 .cases h;rename_i d;omega
 .split at h
  .cases h;rename_i d;omega
  .cases h
def P4:∀(l:List UInt8) (m:Nat) (p:UInt8->Bool),m<=l.length->(∀h<m,p (l.getD h 0)=true)->(m<l.length->p (l.getD m 0)=false)->(l.takeWhile p)=l.take m
 |[],m,p,d,_,_=>by simp
 |c::l,0,p,d,_,e=>by have:p c=false:=e (by simp);simp[this]
 |c::l,m+1,p,d,j,e=>by have q:p c=true:=j 0 (by omega);rw[List.takeWhile_cons,aj q,List.take_succ_cons,P4 l m p (by simpa using d) (λh w=>by simpa using j (h+1) (by omega)) (λk=>by simpa using e (by simpa using k))]
def Io(l:List UInt8)(i k:Nat):(l.drop i).getD k 0=l.getD (i+k) 0:=by rw[List.getD_eq_getElem?_getD,List.getD_eq_getElem?_getD,List.getElem?_drop]
def TJ(s:ByteArray)(hs:s.size<=900000)(i:Nat)(U:i<s.size)(w:J):ak aa CK #[.string s,.int .i64 (i:Int)] w λr Y=>r=ag (zn (eK (bl s) i))/\ah w Y:=by
 have hl:(bl s).length=s.size:=dP s;refine td.aD _ _ w _ ((bP [] (λ_ k=>by cases k)).aJ (V:=[]) (λh w1 S=>⟨by omega,_,kI (i:=i) U,?_⟩) (by simp));have S:LH F0 w w1 [.g h] []:=S;have bad:∀Y,LH F0 w Y [.g h] []->eK (bl s) i=(⟨63,0,0,[],i⟩,1)->∀(F G H:Int) (I:ByteArray) (K:Int),td.gI (i:Int) h F G H I K Y λr Y=>r=ag (zn (eK (bl s) i))/\ah w Y:=λY Q he _ _ _ _ _=>Q.ai (V:=[h]) (λZ A=>⟨by rw[he];rfl,A.fr⟩) (by simp);refine S.ay (D9 _ _ _) ?_;rintro _ w2 rfl H2;refine⟨_,rfl,?_⟩;show bn (aq (Go.Lib.indexByte O' _>=0)) _ _;refine aG (λx=>H2.ai (V:=[h]) (λZ A=>⟨?_,A.fr⟩) (by simp)) (λx=>H2.ay (xn _ _) ?_)
 .unfold eK;rw[aj x];rfl
 rintro _ Z rfl A;refine⟨_,rfl,bD (λP=>?_) (λP=>jd (n:=91) (by omega) (λD:(bl s).getD i 0=91=>?_) (λD:(bl s).getD i 0≠91=>?_))⟩
 .
  have loop:∀(n j:Nat) (Y:J),s.size - j<n->i<=j->j<=s.size->(∀z,i<=z->z<j->jB ((bl s).getD z 0)=true)->LH F0 w Y [.g h] []->∀(F G H:Int) (I:ByteArray) (K:Int),td.ct s (i:Int) h F G H I K (j:Int) Y λr Y=>r=ag (zn (eK (bl s) i))/\ah w Y:=by
   intro n;induction n with
   |zero=>intro j Y k;omega
   |succ n ih=>
    intro j Y hn az hj ad ab F G H I K;have done:(j<s.size->jB ((bl s).getD j 0)=false)->∀Y,LH F0 w Y [.g h] []->td.bU s (i:Int) h F G H I K (j:Int) Y λr Y=>r=ag (zn (eK (bl s) i))/\ah w Y:=λax Y Q=>by
     refine⟨by omega,by omega,by omega,by omega,Q.ai (V:=[h]) (λy e=>⟨?_,e.fr⟩) (by simp)⟩;have ap:((bl s).drop i).takeWhile jB=((bl s).drop i).take (j - i):=by
      refine P4 _ _ _ (by rw[yQ];omega) (λz hk=>?_) (λk=>?_)
      .rw [Io];exact ad _ (by omega) (by omega)
      .rw [Io,show i+(j - i)=j by omega];refine ax ?_;rw[yQ]at k;omega
     have an:(((bl s).drop i).take (j - i)).length=j - i:=by rw[List.length_take,yQ];omega
     have am:s.extract (aZ (i:Int)) (aZ (j:Int))=ba (((bl s).drop i).take (j - i)):=by
      have:bl (s.extract i j)=((bl s).drop i).take (j - i):=by unfold bl;rw[ByteArray.data_extract,Array.toList_extract,List.extract_eq_take_drop]
      rw[bF,bF,<-this,lX]
     have ew:ao .i64 ((j:Int) - (i:Int))=((j - i:Nat):Int):=by rw[aS _ (by omega)];omega
     rw[am,ew];unfold eK;rw[af x,aj P,ap,an];rfl
    refine td.dX _ _ _ _ _ _ _ _ _ _ _ (aG (λk=>⟨by omega,_,kI (i:=j) (by omega),ab.ay (xn _ _) ?_⟩) (λk=>done (λC=>by omega) Y ab));rintro _ y rfl e;refine⟨_,rfl,bD (λq=>?_) (λq=>done (λ_=>q) y e)⟩;rw[show ao .i64 ((j:Int)+1)=((j+1:Nat):Int)by rw[aS _ (by omega)];omega];refine ih (j+1) y (by omega) (by omega) (by omega) (λz h1 h2=>?_) e _ _ _ _ _;by_cases hk:z=j
    .subst hk;exact q
    .exact ad z h1 (by omega)
  exact loop (s.size+1) i Z (by omega) (bg _) (by omega) (λz h1 h2=>by omega) A _ _ _ _ _
 .have E:¬jB ((bl s).getD i 0)=true:=by rw[P];simp
  rw[show ao .i64 ((i:Int)+1)=((i+1:Nat):Int)by rw[aS _ (by omega)];omega];refine A.ay (AN s (i+1) (by omega) _) ?_;rintro _ N rfl B;cases q:jO (bl s) (i+1)with
  |none=>
   refine⟨0,0,false,rfl,a3 rfl (bad N B ?_ _ _ _ _ _)⟩;unfold eK;rw[af x,af E,aj D,q]
  |some M=>
   obtain⟨lo,m⟩:=M;obtain⟨hm,aB⟩:=AI q;refine⟨lo.toNat,m,true,rfl,?_⟩;try dsimp only
   rw[show ao .i64 (((i+1:Nat):Int)+(m:Int))=((i+1+m:Nat):Int)by rw[aS _ (by omega)];omega];have ae:¬(i+1+m<(bl s).length/\(bl s).getD (i+1+m) 0=45)->eK (bl s) i=(⟨63,0,0,[],i⟩,1):=λk=>by unfold eK;rw[af x,af E,aj D,q];exact af k
   refine a1 rfl (aG (λk=>bad N B (ae (λC=>by omega)) _ _ _ _ _) (λk=>⟨by omega,_,kI (i:=i+1+m) (by omega),?_⟩));refine bD (λL=>bad N B (ae (λC=>?_)) _ _ _ _ _) (λau=>?_)
   .rw [C.2]at L;exact absurd L (by decide)
   have ac:(bl s).getD (i+1+m) 0=45:=by
    have al:(((bl s).getD (i+1+m) 0).toNat:Int)=45:=by simpa using au
    have:((bl s).getD (i+1+m) 0).toNat=(45:UInt8).toNat:=by show _=45;omega
    exact UInt8.toNat_inj.1 this
   rw[show ao .i64 (((i+1+m:Nat):Int)+1)=((i+1+m+1:Nat):Int)by rw[aS _ (by omega)];omega];refine B.ay (AN s (i+1+m+1) (by omega) _) ?_;rintro _ y rfl e;cases T:jO (bl s) (i+1+m+1)with
   |none=>
    refine⟨0,0,false,rfl,a3 rfl (bad y e ?_ _ _ _ _ _)⟩;unfold eK;rw[af x,af E,aj D,q];refine(aj ⟨by omega,ac⟩).trans ?_;rw[T]
   |some M=>
    obtain⟨W,d⟩:=M;obtain⟨aA,aC⟩:=AI T;refine⟨W.toNat,d,true,rfl,?_⟩;try dsimp only
    rw[show ao .i64 (((i+1+m:Nat):Int)+ao .i64 (1+(d:Int)))=((i+1+m+(1+d):Nat):Int)by rw[aS (1+(d:Int)) (by omega),aS _ (by omega)];omega];have O:eK (bl s) i=if i+1+m+(1+d)<(bl s).length/\(bl s).getD (i+1+m+(1+d)) 0=93/\lo.toNat<=W.toNat then(⟨114,lo,W,[],i⟩,1+m+(1+d)+1)else(⟨63,0,0,[],i⟩,1):=by unfold eK;rw[af x,af E,aj D,q];refine(aj ⟨by omega,ac⟩).trans ?_;rw[T]
    refine a1 rfl (aG (λk=>bad y e (O.trans (af λC=>by omega)) _ _ _ _ _) (λk=>⟨by omega,_,kI (i:=i+1+m+(1+d)) (by omega),?_⟩));refine bD (λL=>bad y e (O.trans (af λC=>?_)) _ _ _ _ _) (λav=>?_)
    .rw [C.2.1]at L;exact absurd L (by decide)
    have ar:(bl s).getD (i+1+m+(1+d)) 0=93:=by
     have al:(((bl s).getD (i+1+m+(1+d)) 0).toNat:Int)=93:=by simpa using av
     have:((bl s).getD (i+1+m+(1+d)) 0).toNat=(93:UInt8).toNat:=by show _=93;omega
     exact UInt8.toNat_inj.1 this
    refine aG (λaw=>bad y e (O.trans (af λC=>by omega)) _ _ _ _ _) (λaw=>e.ai (V:=[h]) (λw6 H6=>⟨?_,H6.fr⟩) (by simp));rw[O,aj ⟨by omega,ar,by omega⟩];rw[show ao .i64 (ao .i64 (((i+1+m+(1+d):Nat):Int)+1) - (i:Int))=((1+m+(1+d)+1:Nat):Int)by rw[aS (((i+1+m+(1+d):Nat):Int)+1) (by omega),aS _ (by omega)];omega];rfl
 .have E:¬jB ((bl s).getD i 0)=true:=by rw[P];simp
  refine A.ay (AN s i (by omega) _) ?_;rintro _ N rfl B;cases q:jO (bl s) i with
  |none=>
   refine⟨0,0,false,rfl,a1 rfl (bad N B ?_ _ _ _ _ _)⟩;unfold eK;rw[af x,af E,af D,q]
  |some M=>
   obtain⟨b,n⟩:=M;refine⟨b.toNat,n,true,rfl,a3 rfl (B.ai (V:=[h]) (λy e=>⟨?_,e.fr⟩) (by simp))⟩;unfold eK;rw[af x,af E,af D,q];rfl
structure Inv(S:SX)(m:Nat):Prop where
 lo:S.lo.length<=m
 sl:∀f∈S.lo,Small f m
 tp:Small S.tp m
 s1:S.st=1->0<=S.tp.k/\S.lo≠[]
 s2:S.st=2->0<=S.wd
def Small.mono{f:FX}{m n:Nat}(h:Small f m)(d:m<=n):Small f n:=⟨a8 h.n' d,a8 h.ar d,a8 h.al d,a8 h.an d,a8 h.ca d⟩
def Ef(k:Int)(m:Nat):Small (kB k) m:=⟨dn _,dn _,dn _,dn _,dn _⟩
def wi{f:FX}{m:Nat}(h:Small f m)(x:Rx):Small (iB f x) m:=⟨h.n',h.ar,h.al,h.an,h.ca⟩
def B8{t:Tk}{S q:SX}{m:Nat}(x:S.lo.length<=m)(j:∀f∈S.lo,Small f (m+1))(e:Small S.tp (m+1))(y:S.tp.n<=m)(h:fB t S=some q):Inv q (m+1):=by
 have w:∀f∈S.lo++[S.tp],Small f (m+1):=λf k=>by
  rcases aX.1 k with k|k
  .exact j f k
  .simp at k;subst k;exact e
 unfold fB at h;split at h
 .cases h;exact⟨by show S.lo.length<=_;omega,j,⟨by show S.tp.n+1<=_;omega,e.ar,e.al,e.an,e.ca⟩,λd=>(by simp at d),λd=>(by simp at d)⟩
 .split at h
  .cases h;exact⟨by simp;omega,w,Ef _ _,λd=>(by simp at d),λd=>(by simp at d)⟩
  .split at h
   .cases h;exact⟨by show S.lo.length<=_;omega,j,wi e _,λd=>(by simp at d),λd=>(by simp at d)⟩
   .split at h
    .split at h
     .cases h;exact⟨by show S.lo.length<=_;omega,j,wi e _,λd=>(by simp at d),λd=>(by simp at d)⟩
     .split at h
      .cases h;exact⟨by show S.lo.length<=_;omega,j,wi e _,λd=>(by simp at d),λd=>(by simp at d)⟩
      .split at h
       .cases h;exact⟨by show S.lo.length<=_;omega,j,e,λd=>(by simp at d),λ_=>by show(0:Int)<=4;decide⟩
       .split at h
        .cases h;exact⟨by show S.lo.length<=_;omega,j,e,λd=>(by simp at d),λ_=>by show(0:Int)<=5;decide⟩
        .split at h
         .cases h;exact⟨by show S.lo.length<=_;omega,j,e,λd=>(by simp at d),λ_=>by show(0:Int)<=3;decide⟩
         .cases h
    .cases h
def GO{S j:SX}{l:List Rx}{m:Nat}(e:Inv S m)(h:k0 S l=some j):Inv j (m+1):=by
 unfold k0 at h;rcases qE S.lo with d|⟨a,g,d⟩
 .rw [d]at h;simp at h
 .rw [d]at h;simp at h;subst h;have k:=e.lo;rw[d]at k;simp at k;exact⟨by show a.length<=_;omega,λf q=>(e.sl f (by rw[d];simp[q])).mono (by omega),wi ((e.sl g (by rw[d];simp)).mono (by omega)) _,λd=>(by simp at d),λd=>(by simp at d)⟩
def BG{s':Sl}{t:Tk}{S y:SX}{m:Nat}(e:Inv S m)(h:fA s' t S=some y):Inv y (m+1):=by
 have x:=e.lo;have k:∀f∈S.lo,Small f (m+1):=λf q=>(e.sl f q).mono (by omega);have j:Small S.tp (m+1):=e.tp.mono (by omega);have z:=e.tp.n';unfold fA at h;split at h
 .rename_i w;split at h
  .cases h;refine⟨by simp;omega,λf q=>?_,Ef _ _,λ_=>⟨e.s2 w,by simp⟩,λd=>(by simp at d)⟩;rcases aX.1 q with q|q
   .exact k f q
   .simp at q;subst q;exact j
  .cases h
 .rename_i w;split at h
  .split at h
   .exact GO e h
   .exact B8 x k j z h
  .rename_i A;split at h
   .exact B8 x k j z h
   .split at h
    .cases h;exact⟨by show S.lo.length<=_;omega,k,wi j _,λd=>absurd d A,λd=>absurd d w⟩
    .split at h
     .cases h;refine⟨by show S.lo.length<=_;omega,k,⟨dn _,j.ar,j.al,?_,dn _⟩,λd=>(by simp at d),λd=>(by simp at d)⟩;have:=e.tp.an;show(S.tp.an++[_]).length<=_;simp;omega
     .split at h
      .cases h;refine⟨by show S.lo.length<=_;omega,k,⟨dn _,j.ar,?_,dn _,dn _⟩,λd=>(by simp at d),λd=>(by simp at d)⟩;have:=e.tp.al;show(S.tp.al++[_]).length<=_;simp;omega
      .split at h
       .split at h
        .cases h
        .cases h;refine⟨by show S.lo.length<=_;omega,k,⟨dn _,?_,dn _,dn _,dn _⟩,λd=>(by simp at d),λd=>(by simp at d)⟩;have:=e.tp.ar;show(S.tp.ar.2++[_]).length<=_;simp;omega
       .split at h
        .split at h
         .cases h
         .exact GO e h
        .split at h
         .split at h
          .cases h;exact⟨by omega,k,j,e.s1,e.s2⟩
          .cases h
         .refine B8 (S:=⟨S.lo,iU S.tp,S.st,S.wd⟩) x k ⟨dn _,j.ar,j.al,j.an,?_⟩ (dn _) h;have:=e.tp.ca;show(S.tp.ca++[_]).length<=_;simp;omega
def UK{s':Sl}{t:Tk}{S:SX}(h:t.k=63):fA s' t S=none:=by
 have it:∀S,fB t S=none:=λS=>by unfold fB;rw[h];rfl
 unfold fA;rw[it,it,h];split
 .rfl
 .split
  .rfl
  .split
   .rfl
   .rfl
def jc(l:List UInt8):Nat->Nat->List Tk
 |0,_=>[]
 |n+1,i=>if i<l.length then(if l.getD i 0=32 then jc l n (i+1)else(eK l i).1::jc l n (i+(eK l i).2))else[⟨36,0,0,[],l.length⟩]
def pS:List Tk->SX->Int⊕SX->Prop
 |[],d,r=>r=.inr d
 |t::j,d,r=>∃h,(fA h t d=none/\r=.inl t.a)\/∃e,fA h t d=some e/\pS j e r
def Qp{l:List UInt8}{i:Nat}(U:i<l.length):1<=(eK l i).2/\i+(eK l i).2<=l.length:=by
 unfold eK;split
 .simp;omega
 .split
  .rename_i d;have e:(l.drop i)=l.getD i 0::l.drop (i+1):=by rw[dy U,List.getD_eq_getElem?_getD,a6 U];rfl
   have k:1<=((l.drop i).takeWhile jB).length:=by rw[e,List.takeWhile_cons,aj d];simp
   have h:((l.drop i).takeWhile jB).length<=(l.drop i).length:=(List.takeWhile_prefix (p:=jB) (l:=l.drop i)).length_le;rw[yQ]at h;simp only;omega
  .split
   .split
    .simp;omega
    .split
     .split
      .simp;omega
      .split
       .rename_i d;simp only;omega
       .simp;omega
     .simp;omega
   .split
    .rename_i j;have:=AI j;simp only;omega
    .simp;omega
abbrev EF(t:Tk):List ab:=[.int .u8 (t.k.toNat:Int),.int .u8 (t.lo.toNat:Int),.int .u8 (t.U.toNat:Int),.string (ba t.s),.int .i64 t.a]
def r':En:=⟨[],λ_=>True,λ_ _ _ d=>d,λ_ _ b e=>by simp at e,by simp⟩
abbrev lQ(t2 t3 t4 D l_ V:Nat)(s:ByteArray)(d e:ab)(o:Obj):List En:=[.c t2 [.int .i64 0,.int .u8 0,.int .u8 0,.slice none 0 0] aW,.c t3 [d] bR,.c t4 [e] Qs,.ob D (.deferred (some [])),.ob l_ o,.c V [.string s] fW]
def PS(w0 w:J)(rb:Nat)(G:List En)(S:SX):Prop:=∃(sl:Sl) (d:List FM) (f:FM) (O:List I) (p:Addr),d.map FM.x=S.lo/\f.x=S.tp/\(∀g∈d++[f],∀t∈g.O,t∈O)/\sl.a=some p/\(∀b∈I.a9 O,w0.heap.size<=b)/\SF F0 w0 w rb sl S.st S.wd d f G O
def PE(w0 w:J)(rb:Nat)(G:List En):Prop:=∃(sl:Sl) (d:List FM) (f:FM) (O:List I) (st e:Int),SF F0 w0 w rb sl st e d f G O
section
variable {s:ByteArray} {w0:J} {rb t2 t3 t4 D l_ V:Nat} {o_:jH->Option Code->Obj}
abbrev Fi(s:ByteArray)(rb t2 t3 t4 l_ V:Nat)(o_:jH->Option Code->Obj):Prop:=
 ∀(j k q:Int) (w:ByteArray) (x:Int) (d:J) (e:Bool->J->Prop),d.heap[l_]? =some (o_ .ready none)->DP.zN l_ o_ s (ae t2) (ae t3) (ae t4) (ae rb) (ae V) j k q w x d (λy z=>∃h:Bool,y=ag (.bool h)/\e h z)->W.tU aa l_ #[.agg #[.int .u8 j,.int .u8 k,.int .u8 q,.string w,.int .i64 x]] d e
def Nk(hY:Fi s rb t2 t3 t4 l_ V o_){S:SX}{m:Nat}(y:Inv S m)(hm:m<=900000)(t:Tk){e:En}{w:J}(H:PS w0 w rb (lQ t2 t3 t4 D l_ V s (.int .i64 0) (.int .i64 0) (o_ .ready none)++[e]) S){K:Bool->J->Prop}(ae:∀k h,fA h t S=none->PE w0 k rb (lQ t2 t3 t4 D l_ V s (.int .i64 t.a) (.int .i64 2) (o_ .done (some .ret))++[e])->K false k)(af:∀k h E,fA h t S=some E->PS w0 k rb (lQ t2 t3 t4 D l_ V s (.int .i64 0) (.int .i64 0) (o_ .ready none)++[e]) E->K true k):W.tU aa l_ #[t.v] w K:=by
 obtain⟨lo,aj,st,wd⟩:=S;obtain⟨sl,G,f,ts,p,z,A,h3,h4,hb,H⟩:=H;have z:G.map FM.x=lo:=z;have A:f.x=aj:=A;subst z A;refine hY _ _ _ _ _ w K (H.ob 7) ?_;refine H.nw λw1 _ O=>O.Pq 10 rfl λw2 P=>P.pu 7 rfl λw3 d=>⟨_,_,_,_,_,d.ld 10 0,d.ld 10 1,d.ld 10 2,d.ld 10 3,d.ld 10 4,?_⟩;have Q:SF F0 w0 w3 rb sl st wd G f (lQ t2 t3 t4 D l_ V s (.int .i64 0) (.int .i64 0) (o_ .busy none)++[e,.c w.heap.size (EF t) nn]) ts:=d;refine Q.xv h3 h4 (λal ah=>Td ah (a8 y.lo (by omega)) (y.tp.mono (by omega)) y.s1 t) ?_;rintro r w4 L I F p4 ai ak M am ab ac Z ⟨h,ag⟩ B;rcases ag with⟨hn,rfl⟩|⟨hs,rfl⟩
 .refine ⟨false,rfl,a3 rfl ?_⟩;refine B.dr λN q=>⟨t.a,q.ld 10 4,q.jD 3 rfl λw6 C=>⟨C.ld 10 4,C.jC 4 rfl λw7 T=>T.jC 5 rfl λw8 U=>U.pu 7 rfl λw9 Y=>⟨false,rfl,ae w9 h hn ⟨L,I,F,M,ai,ak,?_⟩⟩⟩⟩;exact Y.take 10
 .refine ⟨true,rfl,a1 rfl (B.pu 7 rfl λN q=>⟨true,rfl,af N h _ hs ⟨L,I,F,M,p4,rfl,rfl,ab,ac,λb ad=>?_,q.take 10⟩⟩)⟩;rcases Z b ad with j|j|j
  .exact hb b j
  .exact j
  .exact j.elim
def Rz(w0:J)(rb t2 t3 t4 D l_ V:Nat)(s:ByteArray)(o_:jH->Option Code->Obj)(Y:J):Int⊕SX->Prop
 |.inl a=>PE w0 Y rb (lQ t2 t3 t4 D l_ V s (.int .i64 a) (.int .i64 2) (o_ .done (some .ret)))
 |.inr d=>PS w0 Y rb (lQ t2 t3 t4 D l_ V s (.int .i64 0) (.int .i64 0) (o_ .ready none)) d
def XO(hs:s.size<=4096)(hY:Fi s rb t2 t3 t4 l_ V o_)(R:aH):∀(n i m:Nat) (S:SX) (w:J),s.size - i<n->i<=s.size->Inv S m->m+n<=900000->
  PS w0 w rb (lQ t2 t3 t4 D l_ V s (.int .i64 0) (.int .i64 0) (o_ .ready none)) S->
  (∀G res,pS (jc (bl s) n i) S res->Rz w0 rb t2 t3 t4 D l_ V s o_ G res->R (ag (.tuple #[])) G)->y0.L0 l_ (ae V) (i:Int) w R:=by
 intro n;induction n with
 |zero=>intro i m S w ad;omega
 |succ n ih=>
  intro i m S w hn hi I hm hP x;have hl:(bl s).length=s.size:=dP s;have al:=hP;obtain⟨sl,N,f,ts,p,ah,ai,h3,h4,K,C⟩:=al;refine y0.bE _ _ _ _ _ ⟨s,C.jZ 8,aG (λad=>⟨s,C.jZ 8,by omega,_,kI (i:=i) (by omega),jd (n:=32) (by omega) (λT:(bl s).getD i 0=32=>?_) (λT:(bl s).getD i 0≠32=>⟨s,C.jZ 8,C.call (TJ s (by omega) i (by omega) w) ?_⟩)⟩) (λad=>⟨s,C.jZ 8,?_⟩)⟩
  .rw [show ao .i64 ((i:Int)+1)=((i+1:Nat):Int)by rw[aS _ (by omega)];omega];refine ih (i+1) m S w (by omega) (by omega) I (by omega) hP (λG res Z U=>x G res ?_ U);unfold jc;rw[aj (by omega),aj T];exact Z
  .rintro _ w1 rfl L;have am:=Qp (l:=bl s) (i:=i) (by omega);have M:jc (bl s) (n+1) i=(eK (bl s) i).1::jc (bl s) n (i+(eK (bl s) i).2):=by rw[jc,aj (by omega),af T]
   rw[M]at x;refine⟨_,_,_,_,_,_,rfl,L.nw λw2 _ H2=>H2.Pq 9 rfl λw7 E=>⟨_,_,_,_,_,E.ld 9 0,E.ld 9 1,E.ld 9 2,E.ld 9 3,E.ld 9 4,?_⟩⟩;have ak:SF F0 w0 w7 rb sl S.st S.wd N f (lQ t2 t3 t4 D l_ V s (.int .i64 0) (.int .i64 0) (o_ .ready none)++[.c w1.heap.size (EF (eK (bl s) i).1) nn]) ts:=E;refine Nk hY I (by omega) (eK (bl s) i).1 (e:=.c w1.heap.size (EF (eK (bl s) i).1) nn) ⟨sl,N,f,ts,p,ah,ai,h3,h4,K,ak⟩ (λB y Y q=>a3 rfl (x B (.inl (eK (bl s) i).1.a) ⟨y,.inl ⟨Y,rfl⟩⟩ ?_)) (λB y H F q=>a1 rfl ?_)
   .obtain ⟨z,j,h,A,ab,ac,d⟩:=q;exact⟨z,j,h,A,ab,ac,d.take 9⟩
   .obtain ⟨z,j,h,A,p8,W,aa,O,P,Q,d⟩:=q;refine⟨_,d.ld 9 0,jd (n:=63) (by omega) (λhk:(eK (bl s) i).1.k=63=>?_) (λhk=>?_)⟩
    .rw [UK hk]at F;cases F
    .rw [show ao .i64 ((i:Int)+((eK (bl s) i).2:Int))=((i+(eK (bl s) i).2:Nat):Int)by rw[aS _ (by omega)];omega];refine ih (i+(eK (bl s) i).2) (m+1) H B (by omega) (by omega) (BG I F) (by omega) ⟨z,j,h,A,p8,W,aa,O,P,Q,d.take 9⟩ (λG res Z U=>x G res ⟨y,.inr ⟨H,F,Z⟩⟩ U)
  .have M:jc (bl s) (n+1) i=[⟨36,0,0,[],(bl s).length⟩]:=by rw[jc,af (by omega)]
   rw[M,hl]at x;have L:=C.push r' (Fr.refl _ _) trivial (λb K=>by cases K);refine Nk hY I (by omega) ⟨36,0,0,[],(s.size:Int)⟩ (e:=r') ⟨sl,N,f,ts,p,ah,ai,h3,h4,K,L⟩ (λB y Y q=>x B (.inl (s.size:Int)) ⟨y,.inl ⟨Y,rfl⟩⟩ ?_) (λB y H F q=>x B (.inr H) ⟨y,.inr ⟨H,F,rfl⟩⟩ ?_)
   .obtain ⟨z,j,h,A,ab,ac,d⟩:=q;exact⟨z,j,h,A,ab,ac,d.take 9⟩
   .obtain ⟨z,j,h,A,p8,W,aa,O,P,Q,d⟩:=q;exact⟨z,j,h,A,p8,W,aa,O,P,Q,d.take 9⟩
end
def qV:∀(a b:List Rx),Rx.aY (a++b)=Rx.aY a+Rx.aY b
 |[],b=>by simp[Rx.aY]
 |d::a,b=>by have:=qV a b;show d.sz+Rx.aY (a++b)=(d.sz+Rx.aY a)+Rx.aY b;omega
def oe(x:Rx):Rx.aY [x]=x.sz:=by simp[Rx.aY]
def Db(k:Int)(l:List Rx):(n0 k l).sz<=1+Rx.aY l:=by
 unfold n0;split
 .rw [oe];omega
 .unfold Rx.sz;omega
def CW:∀(n:Nat) (r:Rx),(m3 n r).sz=n+r.sz
 |0,r=>by unfold m3;omega
 |n+1,r=>by unfold m3;rw[CW n];unfold Rx.sz;rw[oe];cases r;simp only[Rx.sz];omega
def fz(f:FX):Nat:=Rx.aY f.ar.2+Rx.aY f.al+Rx.aY f.an+Rx.aY f.ca+f.n
def lz:List FX->Nat
 |[]=>0
 |f::l=>fz f+lz l
def ya:∀(a b:List FX),lz (a++b)=lz a+lz b
 |[],b=>by simp[lz]
 |d::a,b=>by have:=ya a b;show fz d+lz (a++b)=(fz d+lz a)+lz b;omega
def pz(S:SX):Nat:=lz S.lo+fz S.tp+(if S.st=0\/S.st=1\/S.st=2 then 0 else S.tp.la.sz)
def Dv(S:SX):pz S<=lz S.lo+fz S.tp+S.tp.la.sz:=by unfold pz;split<;>omega
def X5(S:SX):lz S.lo+fz S.tp<=pz S:=by unfold pz;omega
def n3{S:SX}(h:S.st=0\/S.st=1\/S.st=2):pz S=lz S.lo+fz S.tp:=by unfold pz;rw[aj h];omega
def NJ{S:SX}(h:¬(S.st=0\/S.st=1\/S.st=2)):pz S=lz S.lo+fz S.tp+S.tp.la.sz:=by unfold pz;rw[af h]
def VG(f:FX):fz (iU f)=fz f+f.la.sz:=by unfold fz iU;simp only[qV,oe,CW];omega
def O0(f:FX):fz (jS f)<=fz f+f.la.sz+1:=by have d:=Db 3 (f.ca++[m3 f.n f.la]);simp only[qV,oe,CW]at d;show Rx.aY f.ar.2+Rx.aY f.al+Rx.aY (f.an++[n0 3 (f.ca++[m3 f.n f.la])])+Rx.aY []+0<=_;unfold fz;simp only[qV,oe,Rx.aY];omega
def G2(f:FX):Rx.aY f.ar.2+Rx.aY (jR f).al<=fz f+f.la.sz+2:=by have e:=Db 5 (jS f).an;have h:=O0 f;have d:fz (jS f)=Rx.aY f.ar.2+Rx.aY f.al+Rx.aY (jS f).an+0+0:=rfl;show Rx.aY f.ar.2+Rx.aY (f.al++[n0 5 (jS f).an])<=_;simp only[qV,oe];omega
def Uc(f:FX):fz (jR f)<=fz f+f.la.sz+2:=by have:=G2 f;show Rx.aY f.ar.2+Rx.aY (jR f).al+Rx.aY []+Rx.aY []+0<=_;simp only[Rx.aY];omega
def BF(f:FX):Rx.aY f.ar.2+(eM f).sz<=fz f+f.la.sz+3:=by have d:=Db 4 (jR f).al;have:=G2 f;show _+(n0 4 (jR f).al).sz<=_;omega
def B9{t:Tk}{S e:SX}(h:fB t S=some e):pz e<=lz S.lo+fz S.tp+1:=by
 have leaf:∀(k:Int) (a b:UInt8),(Rx.mk k a b []).sz=1:=λk a b=>by unfold Rx.sz;simp[Rx.aY]
 unfold fB at h;split at h
 .cases h;rw[n3 (.inl rfl)];show lz S.lo+(Rx.aY S.tp.ar.2+Rx.aY S.tp.al+Rx.aY S.tp.an+Rx.aY S.tp.ca+(S.tp.n+1))<=_;unfold fz;omega
 .split at h
  .cases h;rw[n3 (.inl rfl)];show lz (S.lo++[S.tp])+fz (kB (-1))<=_;rw[ya];have:fz (kB (-1))=0:=rfl;simp only[lz];omega
  .have d:∀(k:Int) (a b:UInt8),pz ⟨S.lo,iB S.tp (.mk k a b []),3,S.wd⟩<=lz S.lo+fz S.tp+1:=λk a b=>by refine a8 (Dv _) ?_;show lz S.lo+fz S.tp+(Rx.mk k a b []).sz<=_;rw[leaf];exact bg _
   split at h
   .cases h;exact d _ _ _
   .split at h
    .split at h
     .cases h;exact d _ _ _
     .split at h
      .cases h;exact d _ _ _
      .split at h
       .cases h;rw[n3 (.inr (.inr rfl))];show lz S.lo+fz S.tp<=_;omega
       .split at h
        .cases h;rw[n3 (.inr (.inr rfl))];show lz S.lo+fz S.tp<=_;omega
        .split at h
         .cases h;rw[n3 (.inr (.inr rfl))];show lz S.lo+fz S.tp<=_;omega
         .cases h
    .cases h
def GQ{S e:SX}{l:List Rx}(h:k0 S l=some e):pz e<=lz S.lo+Rx.aY l+1:=by
 unfold k0 at h;rcases qE S.lo with d|⟨a,g,d⟩
 .rw [d]at h;simp at h
 .rw [d]at h ⊢;simp at h;subst h;refine a8 (Dv _) ?_;show lz a+fz g+(l1 S.tp.k l).sz<=_;rw[ya];have:(l1 S.tp.k l).sz<=Rx.aY l+1:=by
   unfold l1;split
   .cases l with
    |nil=>exact(by show fh.sz<=_;unfold fh Rx.sz;simp[Rx.aY])
    |cons j l=>show j.sz<=_;unfold Rx.aY;omega
   .unfold Rx.sz;omega
  simp only[lz];omega
def UM{s':Sl}{t:Tk}{S e:SX}(h:fA s' t S=some e):pz e<=pz S+4:=by
 have x:=X5 S;unfold fA at h;split at h
 .split at h
  .cases h;rw[n3 (.inr (.inl rfl))];show lz (S.lo++[S.tp])+fz (kB S.wd)<=_;rw[ya];have:fz (kB S.wd)=0:=rfl;simp only[lz];omega
  .cases h
 .rename_i w;split at h
  .split at h
   .have:=GQ h;simp only[Rx.aY]at this;omega
   .have:=B9 h;omega
  .rename_i q;split at h
   .have:=B9 h;omega
   .rename_i k;have y:=NJ (S:=S) (by rintro(d|d|d)<;>contradiction);split at h
    .cases h;refine a8 (Dv _) ?_;show lz S.lo+fz S.tp+(Rx.mk 7 0 0 [S.tp.la]).sz<=_;have:(Rx.mk 7 0 0 [S.tp.la]).sz=1+S.tp.la.sz:=by show 1+Rx.aY [S.tp.la]=_;rw[oe]
     omega
    .split at h
     .cases h;rw[n3 (.inl rfl)];show lz S.lo+fz (jS S.tp)<=_;have:=O0 S.tp;omega
     .split at h
      .cases h;rw[n3 (.inl rfl)];show lz S.lo+fz (jR S.tp)<=_;have:=Uc S.tp;omega
      .split at h
       .split at h
        .cases h
        .cases h;rw[n3 (.inl rfl)];show lz S.lo+(Rx.aY (S.tp.ar.2++[eM S.tp])+Rx.aY []+Rx.aY []+Rx.aY []+0)<=_;have:=BF S.tp;simp only[qV,oe,Rx.aY];omega
       .split at h
        .split at h
         .cases h
         .have j:=GQ h;have:=BF S.tp;simp only[qV,oe]at j;omega
        .split at h
         .split at h
          .cases h;omega
          .cases h
         .have j:=B9 h;have:=VG S.tp;have d:lz (SX.mk S.lo (iU S.tp) S.st S.wd).lo+fz (SX.mk S.lo (iU S.tp) S.st S.wd).tp=lz S.lo+fz (iU S.tp):=rfl;omega
def UL{s':Sl}{a:Int}{S d:SX}(h:fA s' ⟨36,0,0,[],a⟩ S=some d):d=S/\¬(S.st=0\/S.st=1\/S.st=2):=by
 have it:∀S,fB ⟨36,0,0,[],a⟩ S=none:=λS=>rfl;unfold fA at h;rw[it]at h;split at h
 .cases h
 .split at h
  .cases h
  .split at h
   .cases h
   .refine ⟨?_,by rintro(j|j|j)<;>contradiction⟩;have e:(if S.lo=[]then some S else none)=some d:=h;split at e
    .cases e;rfl
    .cases e
def D7(l:List UInt8):∀(n i:Nat) (S d:SX),l.length - i<n->pS (jc l n i) S (.inr d)->(eM d.tp).sz<=pz S+4 *n+4
 |0,i,S,d,z,_=>by omega
 |n+1,i,S,d,z,e=>by
  unfold jc at e;split at e
  .split at e
   .have:=D7 l n (i+1) S d (by omega) e;omega
   .rename_i A _;have C:=Qp A;obtain⟨B,⟨_,q⟩|⟨h,j,k⟩⟩:=e
    .cases q
    .have:=D7 l n (i+(eK l i).2) h d (by omega) k;have:=UM j;omega
  .obtain ⟨B,⟨_,q⟩|⟨h,j,k⟩⟩:=e
   .cases q
   .have w:d=h:=by have:Sum.inr d=(Sum.inr h:Int⊕SX):=k;cases this;rfl
    obtain⟨x,y⟩:=UL j;subst w x;have:=NJ y;have:=BF d.tp;omega
def Wk{M:Nat->Prop}{w0 w:J}{L D:List En}(H:LH M w0 w L D)(is k:List Nat)(A:is.Perm k)(x:k.map (λd=>L.getD d r')=L):LH M w0 w (is.map λd=>L.getD d r') D:=by
 have j:(is.map λd=>L.getD d r').Perm L:=by
  have:=A.map (λd=>L.getD d r')
  rwa[x]at this
 exact⟨H.fr,λe h=>H.own e (j.mem_iff.1 h),H.rd,λe h=>H.new e (j.mem_iff.1 h),((j.flatMap_right _).nodup_iff).2 H.nd,λe h b y q z=>H.dj e h b y q (j.mem_iff.1 z)⟩
def Yh{d:J}{l:Nat}{o:jH->Option Code->Obj}{N:J->Prop}{X:Nat->J->Prop}{T:J->Prop}(h:ln d l (o .ready none) (o .exhausted none) N):wY d l o N X T:=.inl h
def Yi{d:J}{l:Nat}{o:jH->Option Code->Obj}{N:J->Prop}{X:Nat->J->Prop}{T:J->Prop}(h:ln d l (o .done (some .ret)) (o .exhausted (some .ret)) T):wY d l o N X T:=.inr (.inr h)
def Jc{b:Nat}(h:b∈I.a9 [.mk 0 0 0 ⟨none,0,0⟩ []]):False:=by have:=xX (O:=[]) (k:=0) (lo:=0) (U:=0) (b:=b) h;unfold I.a9 at this;cases this
def tC:SX:=⟨[],kB (-1),0,0⟩
def IQ:Inv tC 0:=by
 refine⟨bg _,λf e=>?_,Ef _ _,λd=>?_,λd=>?_⟩
 .cases e
 .have:(0:Int)=1:=d;omega
 .have:(0:Int)=2:=d;omega
def D6(l:List UInt8):∀(n i m:Nat) (S d:SX),Inv S m->pS (jc l n i) S (.inr d)->Inv d (m+n)
 |0,i,m,S,d,j,e=>by have q:(Sum.inr d:Int⊕SX)=.inr S:=e;cases q;exact j
 |n+1,i,m,S,d,j,e=>by
  have A:∀{S:SX} {a b:Nat},Inv S a->a<=b->Inv S b:=λh y=>⟨a8 h.lo y,λf B=>(h.sl f B).mono y,h.tp.mono y,h.s1,h.s2⟩;unfold jc at e;split at e
  .split at e
   .exact A (D6 l n _ m S d j e) (by omega)
   .obtain ⟨C,⟨_,z⟩|⟨k,w,x⟩⟩:=e
    .cases z
    .exact A (D6 l n _ (m+1) k d (BG j w) x) (by omega)
  .obtain ⟨C,⟨_,z⟩|⟨k,w,x⟩⟩:=e
   .cases z
   .have q:(Sum.inr d:Int⊕SX)=.inr k:=x;cases q;exact A (BG j w) (by omega)
def RA(w:J)(s:ByteArray):aH:=λr e=>ah w e/\
 ((4096<s.size/\r=ag (.tuple #[.agg #[.int .i64 0,.int .u8 0,.int .u8 0,.slice none 0 0],.int .i64 4096,.int .i64 4]))\/
  (s.size<=4096/\∃res,pS (jc (bl s) (s.size+1) 0) tC res/\((∃a,res=.inl a/\r=ag (.tuple #[.agg #[.int .i64 0,.int .u8 0,.int .u8 0,.slice none 0 0],.int .i64 a,.int .i64 2]))\/
   ∃d,res=.inr d/\((64<(eM d.tp).sz/\r=ag (.tuple #[.agg #[.int .i64 0,.int .u8 0,.int .u8 0,.slice none 0 0],.int .i64 (s.size:Int),.int .i64 4]))\/
    ((eM d.tp).sz<=64/\∃t:I,r=ag (.tuple #[t.v,.int .i64 0,.int .i64 0])/\t.rx=eM d.tp/\t.P e/\∀b∈t.fp,w.heap.size<=b)))))
def SS(s:ByteArray)(w:J):ak aa Lg #[.string s] w (RA w s):=by
 refine DP.ok _ w _ ((bP [] (λ_ x=>by cases x)).nw λN _ H1=>H1.nw λS _ H2=>H2.nw λw3 _ H3=>aG (λx=>?_) (λx=>?_))
 .refine H3.jD 0 rfl λw4 H4=>H4.jC 1 rfl λw5 Y=>Y.jC 2 rfl λw6 q=>⟨_,_,_,⟨none,0,0⟩,q.ld 0 0,q.ld 0 1,q.ld 0 2,q.ld 0 3,_,q.jZ 1,_,q.jZ 2,q.fr,.inl ⟨by omega,rfl⟩⟩
 have L:s.size<=4096:=by omega
 have hl:(bl s).length=s.size:=dP s;refine H3.cR (e:=hR) (sz:=10) (n:=1) (cs:=(iJ (-1)).c) rfl (by decide) λQ ah=>ah.nw λaq _ U=>?_;refine U.jC 4 rfl λar y=>y.st 4 1 rfl λaf E=>E.st 4 2 rfl λB F=>?_;refine Oy.ok _ B _ (F.nw λh _ k=>⟨_,rfl,?_⟩);show ∀A:jH->Option Code->Obj,_;intro A hY;have e1:(h.alloc (.deferred (some []))).heap.size=h.heap.size+1:=size_alloc _ _;have HG:=(k.alloc (.deferred (some []))).alloc (A .ready none);rw[e1]at HG;have hP:(En.rows (([]++[iJ (-1)]:List FM).flatMap FM.rows)).P ((h.alloc (.deferred (some []))).alloc (A .ready none)):=by refine⟨λap K=>?_,by decide⟩;have K:ap∈[((⟨none,0,0⟩,[]):dY),(⟨none,0,0⟩,[]),(⟨none,0,0⟩,[]),(⟨none,0,0⟩,[])]:=K;simp only[av,aR,aT,or_self]at K;subst K;exact aK.nil _ _ _
 have Ha:=(HG.push (.rows (([]++[iJ (-1)]:List FM).flatMap FM.rows)) (Fr.refl _ _) hP (λb j=>by
  have j:=aO.1 j;have j:b∈([]:List Nat):=j;cases j)).gx (.trees [.mk 0 0 0 ⟨none,0,0⟩ []]) (Fr.refl _ _) (I.ib λt M=>by
   simp at M;subst M;show I.P _ _;unfold I.P I.Ps;exact⟨bx.nil 4 _,trivial⟩) (λb j=>by exact(Jc (aO.1 j)).elim)
 have Hb:=Wk Ha [4,3,8,0,1,2,6,7,5] [0,1,2,3,4,5,6,7,8] (by decide) rfl;have HS:SF F0 w ((h.alloc (.deferred (some []))).alloc (A .ready none)) Q.heap.size ⟨some (ae w3.heap.size),1,1⟩ 0 0 [] (iJ (-1)) (lQ w.heap.size N.heap.size S.heap.size h.heap.size (h.heap.size+1) B.heap.size s (.int .i64 0) (.int .i64 0) (A .ready none)) [.mk 0 0 0 ⟨none,0,0⟩ []]:=Hb;refine y0.ok _ _ _ _ (XO (w0:=w) (rb:=Q.heap.size) (t2:=w.heap.size) (t3:=N.heap.size) (t4:=S.heap.size) (D:=h.heap.size) (l_:=h.heap.size+1) (V:=B.heap.size) L hY _ (s.size+1) 0 0 tC _ (by omega) (by omega) IQ (by omega)
  ⟨_,[],iJ (-1),_,_,rfl,rfl,λg hg t M=>?_,rfl,λb j=>?_,HS⟩ (λw' res G he=>⟨⟨_,rfl⟩,?_⟩))
 .simp at hg;subst hg;simpa[FM.O,iJ]using M
 .exact (Jc j).elim
 cases res with
 |inl a=>
  obtain⟨sl,H,f,ts,st,aL,T⟩:=he;refine Yi (T.pu 7 rfl λaq U=>U.pu 6 rfl λh k=>⟨_,_,_,⟨none,0,0⟩,k.ld 3 0,k.ld 3 1,k.ld 3 2,k.ld 3 3,_,k.jZ 4,_,k.jZ 5,k.fr,.inr ⟨L,_,G,.inl ⟨a,rfl,rfl⟩⟩⟩)
 |inr z=>
  obtain⟨sl,H,f,ts,p,an,ac,h3,h4,j,T⟩:=he;have hI:=D6 _ _ _ _ _ _ IQ G;have ao:=D7 _ _ _ _ _ (by omega) G;rw[show pz tC=0 from rfl]at ao;have am:H.length<=1000000:=by have:=hI.lo;rw[<-an]at this;simp at this;omega
  refine Yh (T.pu 7 rfl λw5 Y=>?_);have ab:SF F0 w w5 Q.heap.size sl z.st z.wd H f (lQ w.heap.size N.heap.size S.heap.size h.heap.size (h.heap.size+1) B.heap.size s (.int .i64 0) (.int .i64 0) (A .exhausted none)) ts:=Y;refine ab.call (xo ab h4 am) ?_;rintro _ w6 rfl q;have ai:SF F0 w w6 Q.heap.size sl z.st z.wd H f (lQ w.heap.size N.heap.size S.heap.size h.heap.size (h.heap.size+1) B.heap.size s (.int .i64 0) (.int .i64 0) (A .exhausted none)) ts:=q;refine⟨_,rfl,ai.xv h3 h4 (λaF s1=>xk s1 (by rw[ac];exact hI.tp.mono (by omega))) ?_⟩;rintro r w7 aH aw f3 p3 aI aM ad aJ ax ay aj ⟨aC,aA,aB,rfl,rfl,u,Z,rfl,hx⟩ H7;rw[ac]at hx;have aE:u.sz=(eM z.tp).sz:=by rw[<-hx,I.eB]
  refine⟨_,_,_,u.s,rfl,H7.nw λw8 _ H8=>H8.jD 9 rfl λw9 C=>⟨_,_,_,u.s,C.ld 9 0,C.ld 9 1,C.ld 9 2,C.ld 9 3,C.call (AX u w9 (by omega) ((show I.Ps w9 ad from C.getD 0).mem Z)) ?_⟩⟩;rintro _ ar rfl y;refine⟨_,rfl,aG (λaz=>?_) (λaD=>?_)⟩
  .refine y.jD 3 rfl λaf E=>E.jC 4 rfl λB F=>F.jC 5 rfl λau W=>W.pu 6 rfl λag d=>⟨_,_,_,⟨none,0,0⟩,d.ld 3 0,d.ld 3 1,d.ld 3 2,d.ld 3 3,_,d.jZ 4,_,d.jZ 5,d.fr,.inr ⟨L,_,G,.inr ⟨z,rfl,.inl ⟨by omega,rfl⟩⟩⟩⟩
  .refine ⟨_,_,_,u.s,y.ld 9 0,y.ld 9 1,y.ld 9 2,y.ld 9 3,y.jD 3 rfl λaf E=>E.jC 4 rfl λB F=>F.jC 5 rfl λau W=>W.pu 6 rfl λag d=>⟨_,_,_,u.s,d.ld 3 0,d.ld 3 1,d.ld 3 2,d.ld 3 3,_,d.jZ 4,_,d.jZ 5,d.fr,.inr ⟨L,_,G,.inr ⟨z,rfl,.inr ⟨by omega,u,rfl,hx,(show I.Ps ag ad from d.getD 0).mem Z,λb al=>?_⟩⟩⟩⟩⟩;rcases aj b (I.bM.2 ⟨u,Z,al⟩)with x|x|x
   .exact j b x
   .exact x
   .exact x.elim
def E6:Sl:=⟨none,0,0⟩
def er(f:FX):FX:=⟨f.k,(E6,f.ar.2),f.al,f.an,f.ca,f.n,f.la⟩
def fe(S:SX):SX:=⟨S.lo.map er,er S.tp,S.st,S.wd⟩
def B7(t:Tk)(S:SX):(fB t S).map fe=fB t (fe S):=by
 have d:er (kB (-1))=kB (-1):=rfl;have e:(S.lo++[S.tp]).map er=S.lo.map er++[er S.tp]:=by simp
 unfold fB;split
 .rfl
 .split
  .simp only[Option.map_some,fe,d,e]
  .split
   .rfl
   .split
    .split
     .rfl
     .split
      .rfl
      .split
       .rfl
       .split
        .rfl
        .split<;>rfl
    .rfl
def GN(S:SX)(l:List Rx):(k0 S l).map fe=k0 (fe S) l:=by
 unfold k0;rcases qE S.lo with d|⟨a,g,d⟩
 .simp [d,fe]
 .have e:(fe S).lo=a.map er++[er g]:=by simp[fe,d]
  rw[d,e];simp[fe];rfl
def H5(s':Sl)(t:Tk)(S:SX):(fA s' t S).map fe=fA E6 t (fe S):=by
 have q:(S.lo++[S.tp]).map er=S.lo.map er++[er S.tp]:=by simp
 have h:(fe S).st=S.st:=rfl;have j:(fe S).tp.k=S.tp.k:=rfl;unfold fA;rw[h,j];by_cases e:S.st=2
 .rw [aj e,aj e];split
  .show some (fe ⟨S.lo++[S.tp],kB S.wd,1,S.wd⟩)=some ⟨S.lo.map er++[er S.tp],kB S.wd,1,S.wd⟩;rw[<-q];rfl
  .rfl
 rw[af e,af e];split
 .split
  .exact GN S []
  .exact B7 t S
 .split
  .exact B7 t S
  .split
   .rfl
   .split
    .rfl
    .split
     .rfl
     .split
      .split<;>rfl
      .split
       .by_cases d:S.lo=[]
        .rw [aj d,aj (show(fe S).lo=[]by simp[fe,d])];rfl
        .rw [af d,af (show ¬(fe S).lo=[]by simp[fe,d])];exact GN S _
       .split
        .by_cases d:S.lo=[]
         .rw [aj d,aj (show(fe S).lo=[]by simp[fe,d])];rfl
         .rw [af d,af (show ¬(fe S).lo=[]by simp[fe,d])];rfl
        .exact B7 t ⟨S.lo,iU S.tp,S.st,S.wd⟩
def v7:List Tk->SX->Int⊕SX
 |[],d=>.inr d
 |t::h,d=>match fA E6 t d with
  |none=>.inl t.a
  |some e=>v7 h e
def HS:Int⊕SX->Int⊕SX
 |.inl a=>.inl a
 |.inr d=>.inr (fe d)
def OQ:∀(O:List Tk) (S:SX) (r:Int⊕SX),pS O S r->HS r=v7 O (fe S)
 |[],S,r,d=>by have d:r=.inr S:=d;subst d;rfl
 |t::O,S,r,d=>by
  obtain⟨j,⟨e,h⟩|⟨k,e,h⟩⟩:=d
  .subst h;have:=H5 j t S;rw[e]at this;unfold v7;rw[<-this];rfl
  .have:=H5 j t S;rw[e]at this;unfold v7;rw[<-this];exact OQ O k r h
def tH(l:List UInt8):Int⊕SX:=v7 (jc l (l.length+1) 0) tC
def aad{s:ByteArray}{r:Int⊕SX}(h:pS (jc (bl s) (s.size+1) 0) tC r):HS r=tH (bl s):=by have:=OQ _ _ _ h;rw[this];unfold tH;rw[dP];rfl
def HZ(S:SX):eM (fe S).tp=eM S.tp:=rfl
def lit(c:UInt8):Rx:=.mk 2 c c []
def kC(t:BL):Bool:=bif Nat.blt 4096 t.length then false else match tH t with
 |.inl _=>false
 |.inr d=>bif Nat.blt 64 (eM d.tp).sz then false else
  if nW (eM d.tp)=0 then(if jF (iK (eM d.tp))=0 then cO 0 (iK (eM d.tp)) (bb (iK (eM d.tp)))==t else false)else false
structure bo where
 k:Int
 n:Int
 x:Int
deriving DecidableEq
structure Nx where
 op:Int
 kids:List Int
 n:Int
 m:Int
 u:Int
 tx:ByteArray
 st:bo
deriving DecidableEq
def cY:bo:=⟨0,0,0⟩
def bz(n:Int):bo:=⟨0,n,0⟩
def eT(n:Int):bo:=⟨1,n,0⟩
def bW(s:bo):Bool:=(s.k==0&&aq (1<=s.n)&&aq (s.n<=64)&&s.x==0)||(s.k==1&&aq (0<=s.n)&&aq (s.n<=64)&&s.x==0)||(s.k==2&&aq (1<=s.n)&&aq (s.n<=64)&&aq (1<=s.x)&&aq (s.x<=16))||(s.k==3&&aq (0<=s.n)&&aq (s.n<=64)&&aq (1<=s.x)&&aq (s.x<=16))
def gP(s:bo):Int:=if bW s then 0 else 9
def ec(s:bo):Bool:=s.k==2||s.k==3
def cU(op:Int):Int:=if op<0\/34<op then -1 else if op<=3 then 0 else if op=4\/op=5\/op=21\/op=22\/op=23\/op=27\/op=28\/op=33\/op=34 then 1 else if op=19\/op=25\/op=30\/op=32 then 3 else 2
def oR(op:Int):Bool:=op==21||op==22||op==23||op==28
def oS(op:Int):Bool:=op==0||op==2||op==33
def i0(n:Nx):Bool:=(oR n.op||n.n==0)&&(n.op==21||n.m==0)&&(n.op==1||n.u==0)&&(oS n.op||aq (n.tx=ba []))
def ff(g:List Nx)(k:Int):Bool:=aq (0<=k)&&aq (k<(g.length:Int))
def eN(c:UInt8):Bool:=aq (97<=c.toNat)&&aq (c.toNat<=122)
def cQ(c:UInt8):Bool:=eN c||(aq (48<=c.toNat)&&aq (c.toNat<=57))||c==45
def gg(l:List UInt8):Bool:=match l with
 |[]=>false
 |c::m=>aq (m.length<=15)&&eN c&&m.all cQ
def jG:List Nx->ByteArray->Option bo
 |[],_=>none
 |d::g,t=>if d.op=0/\d.tx=t then some d.st else jG g t
def q2(g:List Nx)(n:Nx):Bool:=match jG g n.tx with
 |some s=>!decide (s=n.st)
 |none=>false
def kZ(u n:Int):Bool:=aq (n<64)&&aq (2^n.toNat<=u)
def cB(g:List Nx)(n:Nx):bo×Int:=
 if n.op=2 then(if 64<n.tx.size then(cY,5)else(eT n.tx.size,0))else
 if n.op=0/\gg (bl n.tx)=false then(cY,6)else
 if bW n.st=false then(cY,9)else
 if n.op=1/\n.st.k≠0\/n.op=3/\ec n.st=false then(cY,9)else
 if n.op=1/\kZ n.u n.st.n=true then(cY,5)else
 if n.op=0/\q2 g n=true then(cY,8)else(n.st,0)
def hG(s:bo):bo:=if s.k=2 then bz s.n else eT s.n
def df(op:Int)(x y z:bo):Bool:=
 if op=4\/op=5\/op=21\/op=22\/op=23 then x.k==0 else
 if op=18 then aq (x=y)||(x.k==1&&y.k==1)else
 if op=19 then aq (x=bz 1)&&(aq (y=z)||(y.k==1&&z.k==1))else
 if op=20 then x.k==0&&y.k==0 else
 if op=24 then ec x&&aq (y=bz x.x)else
 if op=25 then ec x&&aq (y=bz x.x)&&(aq (z=hG x)||(x.k==3&&z.k==1&&aq (z.n<=x.n)))else
 if op=26 then ec x&&aq (x=y)else
 if op=27\/op=28\/op=33 then x.k==1 else
 if op=29\/op=31 then x.k==1&&y.k==1 else
 if op=30 then x.k==1&&aq (y=bz 7)&&aq (z=bz 7)else
 if op=32 then x.k==1&&y.k==1&&z.k==1 else
 if op=34 then aq (x=bz 8)else x.k==0&&aq (x=y)
def ho(n:Nx)(x y z:bo):bo:=
 if n.op=16\/n.op=17\/n.op=18\/n.op=33 then bz 1 else
 if n.op=19 then(if y.k=1 then eT (if y.n<z.n then z.n else y.n)else y)else
 if n.op=20 then bz (x.n+y.n)else
 if n.op=21 then bz (n.n - n.m+1)else
 if n.op=22\/n.op=23 then bz (x.n+n.n)else
 if n.op=24 then hG x else
 if n.op=26 then bz x.x else
 if n.op=27\/n.op=31 then bz 7 else
 if n.op=28 then bz 8 else
 if n.op=29 then eT (x.n+y.n)else
 if n.op=32 then eT (x.n+z.n)else
 if n.op=34 then eT 1 else x
def jy(n:Nx)(x y z:bo):Bool:=
 if n.op=20\/n.op=29 then aq (x.n+y.n<=64)else
 if n.op=21 then aq (0<=n.m)&&aq (n.m<=n.n)&&aq (n.n<x.n)else
 if n.op=22\/n.op=23 then aq (1<=n.n)&&aq (n.n<=64 - x.n)else
 if n.op=28 then aq (0<=n.n)&&aq (n.n<=63)else
 if n.op=32 then aq (x.n+z.n<=64)else true
def bK(g:List Nx)(n:Nx)(i:Nat):bo:=match n.kids[i]? with
 |some e=>match g[e.toNat]? with
  |some d=>d.st
  |none=>cY
 |none=>cY
def mJ(t:ByteArray):Bool:=kC (bl t)
def cq(g:List Nx)(n:Nx):bo×Int:=
 if(cU n.op==(n.kids.length:Int)&&n.kids.all (ff g)&&i0 n)=false then(cY,1)else
 if n.op<=3 then cB g n else
 if df n.op (bK g n 0) (bK g n 1) (bK g n 2)=false then(cY,9)else
 if jy n (bK g n 0) (bK g n 1) (bK g n 2)=false then(cY,5)else
 if n.op=33/\mJ n.tx=false then(cY,2)else(ho n (bK g n 0) (bK g n 1) (bK g n 2),0)
def gH(n:Nx)(s:bo):Nx:={n with st:=s}
def hg(n:Nx):List Nx->Nat->Option Nat
 |[],_=>none
 |d::g,i=>if d=n then some i else hg n g (i+1)
def gV(g:List Nx)(n:Nx):List Nx×Int×Int:=
 if(cq g n).2≠0 then([],0,(cq g n).2)else
 match hg (gH n (cq g n).1) g 0 with
 |some i=>(g,i,0)
 |none=>if 4096<=g.length then([],0,4)else(g++[gH n (cq g n).1],g.length,0)
inductive Vg:List Nx->Prop
 |nil:Vg []
 |snoc {g:List Nx} {n:Nx}:Vg g->cq g n=(n.st,0)->n∉g->Vg (g++[n])
structure Nd where
 x:Nx
 ks:Sl
abbrev dO(s:bo):ab:=.agg #[.i s.k,.i s.n,.i s.x]
namespace Nd
def c(d:Nd):List ab:=[.i d.x.op,d.ks.v,.i d.x.n,.i d.x.m,.u d.x.u,.string d.x.tx,.i d.x.st.k,.i d.x.st.n,.i d.x.st.x]
abbrev v(d:Nd):ab:=.agg #[.i d.x.op,d.ks.v,.i d.x.n,.i d.x.m,.u d.x.u,.string d.x.tx,.i d.x.st.k,.i d.x.st.n,.i d.x.st.x]
def jj(d:Nd):(c d).length=9:=rfl
def eW(l:List Nd):(l.flatMap c).length=l.length *9:=oO c 9 jj l
abbrev P(w:J)(d:Nd):Prop:=bp w d.ks d.x.kids
structure fI(w:J)(p:Addr)(i:Nat)(d:Nd):Prop where
 c0:w.cell? ((p.add (i *9)).add 0)=some (.i d.x.op)
 c1:w.cell? ((p.add (i *9)).add 1)=some d.ks.v
 c2:w.cell? ((p.add (i *9)).add 2)=some (.i d.x.n)
 c3:w.cell? ((p.add (i *9)).add 3)=some (.i d.x.m)
 c4:w.cell? ((p.add (i *9)).add 4)=some (.u d.x.u)
 c5:w.cell? ((p.add (i *9)).add 5)=some (.string d.x.tx)
 c6:w.cell? ((p.add (i *9)).add 6)=some (.i d.x.st.k)
 c7:w.cell? ((p.add (i *9)).add 7)=some (.i d.x.st.n)
 c8:w.cell? ((p.add (i *9)).add 8)=some (.i d.x.st.x)
def cm{w:J}{s:Sl}{l:List Nd}(h:bx 9 w s (l.flatMap c)):s.n=l.length:=by have:=h.1;rw[eW]at this;omega
def de{w:J}{s:Sl}{l:List Nd}(h:bx 9 w s (l.flatMap c)){i:Nat}{d:Nd}(U:l[i]? =some d){K:Addr->Prop}(j:∀p,s.a=some p->fI w p i d->K p):dM s.a K:=
 eV.elem (f:=c) (sz:=9) jj (by omega) h.2.2 U λp k e=>j p k ⟨e 0 _ rfl,e 1 _ rfl,e 2 _ rfl,e 3 _ rfl,e 4 _ rfl,e 5 _ rfl,e 6 _ rfl,e 7 _ rfl,e 8 _ rfl⟩
def again{w:J}{s:Sl}{l:List Nd}(h:bx 9 w s (l.flatMap c)){i:Nat}{d:Nd}(U:l[i]? =some d){p:Addr}(z:s.a=some p):fI w p i d:=by have k:=de h U (K:=λj=>∃q,s.a=some q/\fI w q i d) (λj e y=>⟨j,e,y⟩);rw[z]at k;obtain⟨j,e,x⟩:=k;cases e;exact x
end Nd
abbrev xs(l:List Nd):List Nx:=l.map Nd.x
def GP(w:J)(s:Sl)(l:List Nd):Prop:=bx 9 w s (l.flatMap Nd.c)/\∀d∈l,d.P w
abbrev cX(d:Nd):En:=.rd d.ks (d.x.kids.map a')
def _root_.Go.W.En.gr(s:Sl)(l:List Nd):En:=.all (.bc 9 s (l.flatMap Nd.c)::l.map cX)
def bV{w:J}{s:Sl}{l:List Nd}:(En.gr s l).P w↔GP w s l:=by
 constructor
 .exact λd=>⟨d (.bc 9 s (l.flatMap Nd.c)) (by simp),λe h=>d (cX e) (dS _ (ch.2 ⟨e,h,rfl⟩))⟩
 .intro d k j;rcases av.1 j with rfl|j
  .exact d.1
  .obtain ⟨e,h,rfl⟩:=ch.1 j;exact d.2 e h
def l4{s:Sl}{l:List Nd}{b:Nat}:b∈(En.gr s l).fp↔b∈(En.bc 9 s (l.flatMap Nd.c)).fp\/∃e∈l,b∈(cX e).fp:=by
 unfold En.gr En.all;rw[aO,List.mem_flatMap];constructor
 .rintro ⟨k,j,d⟩;rcases av.1 j with rfl|j
  .exact .inl d
  .obtain ⟨e,h,rfl⟩:=ch.1 j;exact .inr ⟨e,h,d⟩
 .rintro (d|⟨e,h,d⟩)
  .exact ⟨_,j5 ..,d⟩
  .exact ⟨_,dS _ (ch.2 ⟨e,h,rfl⟩),d⟩
def gZ{w:J}{s:Sl}{l:List Nd}(h:GP w s l):s.n=l.length:=Nd.cm h.1
def hM{w:J}{s:Sl}{l:List Nd}(h:GP w s l){i:Nat}{d:Nd}{X:Int}(e:X=(i:Int))(U:l[i]? =some d){K:Addr->Prop}(j:∀p,s.a=some p->Nd.fI w p (aZ X) d->K p):e8 s X K:=by have q:=gZ h;have k:=(bO.1 U).1;subst e;exact⟨by omega,by omega,Nd.de h.1 U j⟩
def tT{l:List Nd}{i:Nat}{d:Nd}(h:l[i]? =some d):(xs l)[i]? =some d.x:=by simp[xs,h]
namespace Nd
def fI.s0{w:J}{p:Addr}{i:Nat}{d:Nd}(h:fI w p i d):w.cell? (((p.add (i *9)).add 6).add 0)=some (.i d.x.st.k):=by rw[add_add];exact h.c6
def fI.s1{w:J}{p:Addr}{i:Nat}{d:Nd}(h:fI w p i d):w.cell? (((p.add (i *9)).add 6).add 1)=some (.i d.x.st.n):=by rw[add_add];exact h.c7
def fI.s2{w:J}{p:Addr}{i:Nat}{d:Nd}(h:fI w p i d):w.cell? (((p.add (i *9)).add 6).add 2)=some (.i d.x.st.x):=by rw[add_add];exact h.c8
end Nd
def BW{w:J}{s:Sl}{l:List Nd}(h:GP w s l){i:Nat}{d:Nd}(U:l[i]? =some d){p:Addr}(j:s.a=some p){X:Int}(e:X=(i:Int)):Nd.fI w p (aZ X) d:=by subst e;exact Nd.again h.1 U j
def gn(s:bo):List ab:=[.i s.k,.i s.n,.i s.x]
def Pp(l:List bo):(l.flatMap gn).length=l.length *3:=oO gn 3 (λ_=>rfl) l
structure Ap(w:J)(p:Addr)(i:Nat)(s:bo):Prop where
 c0:w.cell? ((p.add (i *3)).add 0)=some (.i s.k)
 c1:w.cell? ((p.add (i *3)).add 1)=some (.i s.n)
 c2:w.cell? ((p.add (i *3)).add 2)=some (.i s.x)
def Zo{w:J}{s:Sl}{l:List bo}(h:bx 3 w s (l.flatMap gn)):s.n=l.length:=by have:=h.1;rw[Pp]at this;omega
def ek{w:J}{s:Sl}{l:List bo}(h:bx 3 w s (l.flatMap gn)){i:Nat}{x:bo}{X:Int}(e:X=(i:Int))(U:l[i]? =some x){K:Addr->Prop}(j:∀p,s.a=some p->Ap w p (aZ X) x->K p):e8 s X K:=by have y:=Zo h;have q:=(bO.1 U).1;subst e;exact⟨by omega,by omega,eV.elem (f:=gn) (sz:=3) (λ_=>rfl) (by omega) h.2.2 U λp k d=>j p k ⟨d 0 _ rfl,d 1 _ rfl,d 2 _ rfl⟩⟩
def fU{w:J}{s:Sl}{l:List bo}(h:bx 3 w s (l.flatMap gn)){i:Nat}{x:bo}{X:Int}(y:X=(i:Int))(U:l[i]? =some x){p:Addr}(A:s.a=some p):Ap w p (aZ X) x:=by have j:=(ek h y U (K:=λe=>∃k,s.a=some k/\Ap w k (aZ X) x) (λe d z=>⟨e,d,z⟩)).2.2;rw[A]at j;obtain⟨e,d,q⟩:=j;cases d;exact q
def j8(a b:bo):((a.k==b.k)&&((a.n==b.n)&&((a.x==b.x)&&true)))=aq (a=b):=by cases a;cases b;simp only[bo.mk.injEq,Bool.and_true,Bool.decide_and];rfl
def zq(a b:ByteArray):(a.toList==b.toList)=aq (a=b):=by
 rw[ByteArray.toList_eq,ByteArray.toList_eq];have d:(a.data.toList=b.data.toList)↔a=b:=⟨λd=>ByteArray.ext (Array.toList_inj.1 d),λd=>by rw[d]⟩;rw[<-decide_eq_decide.2 d];cases e:aq (a.data.toList=b.data.toList)with
 |true=>rw[ew e];simp
 |false=>exact beq_eq_false_iff_ne.2 (g5 e)
section
variable {A B:Prop}
def Eb{a b:ByteArray}(d:a=b->A)(e:a≠b->B):bn (a.toList==b.toList) A B:=by rw[zq];exact aG d e
def nh{a b:bo}(d:a=b->A)(e:a≠b->B):bn ((a.k==b.k)&&((a.n==b.n)&&((a.x==b.x)&&true))) A B:=by rw[j8];exact aG d e
def y6{a b:bo}(e:a≠b->A)(h:a=b->B):bn (!((a.k==b.k)&&((a.n==b.n)&&((a.x==b.x)&&true)))) A B:=by rw[j8];exact dN (λd=>e (g5 d)) (λd=>h (ew d))
def Ea{s:bo}(e:bW s=false->A)(h:bW s=true->B):bn (gP s !=0) A B:=by
 unfold gP;cases d:bW s with
 |true=>exact a1 rfl (h d)
 |false=>exact a3 rfl (e d)
end
set_option maxRecDepth 100000
set_option maxHeartbeats 2000000
namespace Hx
noncomputable abbrev t0:=aA aa Tryz.f125 [] []
def ok:=aB t0 J9 [.I]
end Hx
namespace HB
noncomputable abbrev t0:=aA aa Tryz.f124 [] []
def ok:=aB t0 Ke [.Y]
end HB
namespace uZ
noncomputable abbrev t0:=aA aa Tryz.f193 [] []
noncomputable def L0:=bj t0 [0,1,1,1,1] [(0,.v [.Y]),(3,.v [.I])]
noncomputable abbrev t1:=bh L0
def bE:=bm t1 L0
def ok:=aB t1 Kd [.Y]
end uZ
namespace uY
noncomputable abbrev t0:=aA aa Tryz.f163 [(4,ls [0,1,2,3,6,7,8,9,4,5,10,11,12,13,14])] []
noncomputable abbrev S1:=ax t0 [3] []
noncomputable abbrev t1:=az S1
noncomputable abbrev S0:=ax t1 [2] [(0,.v [.st]),(1,.v [.I])]
noncomputable abbrev t2:=az S0
def ok:=aB t2 J8 [.st,.I]
end uY
namespace sh
noncomputable abbrev t0:=aA aa Tryz.f143 [] [4]
abbrev P0:Ps:=[(4,.l [.I,.Y,.Y,.s] aN)]
noncomputable abbrev bT:=ax t0 [0,1,1,1,6] P0
noncomputable abbrev t1:=az bT
noncomputable abbrev cJ:=ax t1 [0,1,1,1,9] P0
noncomputable abbrev t2:=az cJ
noncomputable abbrev bU:=ax t2 [9] [(0,.v [.st]),(1,.v [.I]),(4,.l [.I,.Y,.Y,.s] aN),(8,.v [.Y]),(11,.v [.Y]),(12,.v [.I]),(13,.v [.I])]
noncomputable abbrev t3:=az bU
noncomputable abbrev bq:=ax t3 [6] [(0,.v [.st]),(1,.v [.I]),(4,.l [.I,.Y,.Y,.s] aN),(8,.v [.Y]),(9,.v [.I]),(10,.v [.I])]
noncomputable abbrev t4:=az bq
def aD:=aB t4 Kg [.st,.I]
end sh
namespace jl
noncomputable abbrev t0:=aA aa Tryz.f130 [(11,ls [0,1,2,3,4,5,6,7,8,9,10,11,12])] [5]
noncomputable def a2:=bj t0 [0,1,1,1,2] [(0,.v [.st]),(3,.v [.s]),(4,.v [.I])]
noncomputable abbrev t1:=bh a2
abbrev P0:Ps:=[(0,.v [.st]),(3,.v [.s]),(4,.v [.I]),(5,.l [.I,.Y,.Y,.s] aN),(6,.v [.I])]
noncomputable def ct:=bj t1 [0,1,1,1,1,1,2,1,1,2,1,1,2] P0
noncomputable abbrev t2:=bh ct
noncomputable abbrev bU:=ax t2 [3,1,1,2,1,1,2] P0
noncomputable abbrev t3:=az bU
def dX:=bm t3 ct
def bB:=bm t3 a2
def aD:=aB t3 J6 [.st]
end jl
namespace HE
noncomputable abbrev t0:=aA aa Tryz.f165 [(3,ls [0,1,2,3,4,5,6,7,8,9,10,11])] []
def ok:=aB t0 Kk [.r]
end HE
namespace HF
noncomputable abbrev t0:=aA aa Tryz.f145 [] []
noncomputable abbrev S0:=ax t0 [3] []
noncomputable abbrev t1:=az S0
def ok:=aB t1 Kl [.r,.st]
end HF
namespace HD
noncomputable abbrev t0:=aA aa Tryz.f132 [] []
def ok:=aB t0 Kj [.r,.st]
end HD
namespace Hz
noncomputable abbrev t0:=aA aa Tryz.f146 [] [4]
def aD:=aB t0 vz [.I,.s]
end Hz
namespace HC
noncomputable abbrev t0:=aA aa Tryz.f195 [] []
def ok:=aB t0 Ki [.r]
end HC
namespace u1
noncomputable abbrev t0:=aA aa Tryz.f131 [] [2]
noncomputable def a2:=bj t0 [0,2,2] [(0,.v [.r]),(2,.l [.I,.Y,.Y,.s] aN),(3,.v [.s])]
noncomputable abbrev t1:=bh a2
def bB:=bm t1 a2
def aD:=aB t1 Cv [.r]
end u1
namespace u0
noncomputable abbrev t0:=aA aa Tryz.f144 [] [2]
noncomputable def a2:=bj t0 [0,2,2] [(0,.v [.r]),(2,.l [.I,.Y,.Y,.s] aN),(3,.v [.s])]
noncomputable abbrev t1:=bh a2
def bB:=bm t1 a2
def aD:=aB t1 yf [.r]
end u0
namespace u3
noncomputable abbrev t0:=aA aa Tryz.f164 [] [2]
noncomputable def a2:=bj t0 [0,2,2] [(0,.v [.r]),(2,.l [.I,.Y,.Y,.s] aN),(3,.v [.s])]
noncomputable abbrev t1:=bh a2
def bB:=bm t1 a2
def aD:=aB t1 yh [.r]
end u3
namespace xH
noncomputable abbrev t0:=aA aa Tryz.f194 [] [2,4]
noncomputable def a2:=bj t0 [0,2,4] [(0,.v [.r]),(2,.l [.I,.Y,.Y,.s] aN),(4,.l [.I,.Y,.Y,.s] aN)]
noncomputable abbrev t1:=bh a2
def bB:=bm t1 a2
def aD:=aB t1 yg [.r]
end xH
namespace nJ
noncomputable abbrev t0:=aA aa Tryz.f210 [(1,ls [0,1,2,3,4,5,6,7,8,9,10,11,12,13,14,15,16,17,18,19]),(3,ls [0,1,2,3,4,5,6,7,8,9,10,11,12]),(8,ls [0,1,2,3,5,6,7,8,4,9,10])] [2,5,6]
abbrev P0:Ps:=[(0,.v [.r]),(2,.l [.I,.Y,.Y,.s] aN),(3,.v [.s]),(4,.v [.I])]
noncomputable def ct:=bj t0 [0,1,1,1,3] P0
noncomputable abbrev t1:=bh ct
noncomputable abbrev bU:=ax t1 [2,2,1,1,3] P0
noncomputable abbrev t2:=az bU
noncomputable abbrev cJ:=ax t2 [4,2,1,2,1,1,3] [(2,.l [.I,.Y,.Y,.s] aN),(5,.l [.I,.Y,.Y,.s] aN)]
noncomputable abbrev t3:=az cJ
def dX:=bm t3 ct
noncomputable abbrev bq:=ax t3 [2] [(0,.v [.r]),(2,.l [.I,.Y,.Y,.s] aN)]
noncomputable abbrev t4:=az bq
def aD:=aB t4 Cu [.r]
end nJ
namespace u2
noncomputable abbrev t0:=aA aa Tryz.f224 [] []
noncomputable abbrev S0:=ax t0 [0,1,1,1,3] []
noncomputable abbrev t1:=az S0
noncomputable def L1:=bj t1 [0,2,5] [(0,.v [.r]),(4,.v [.s])]
noncomputable abbrev t2:=bh L1
def fJ:=bm t2 L1
def ok:=aB t2 Cw [.r]
end u2
namespace Hv
noncomputable abbrev t0:=aA aa Tryz.f109 [(7,ls [0,1,2,3,4,5,6,7,8,9,10,11,12,13,14])] [2,6]
def aD:=aB t0 J4 [.st]
end Hv
namespace Hr
noncomputable abbrev t0:=aA aa Tryz.f103 [] []
def ok:=aB t0 J1 [.Y]
end Hr
namespace Bt
noncomputable abbrev t0:=aA aa Tryz.f102 [] [1]
noncomputable abbrev bq:=ax t0 [0,1,1,1,2] []
noncomputable abbrev t1:=az bq
def aD:=aB t1 Ct [.a 4,.I,.Y,.Y,.s]
end Bt
namespace HA
noncomputable abbrev t0:=aA aa Tryz.f104 [] []
def ok:=aB t0 Kb [.Y]
end HA
namespace k7
noncomputable abbrev t0:=aA aa Tryz.f83 [(11,ls [0,1,5,6,2,3,4,7,8,9,10])] [2]
noncomputable abbrev bq:=ax t0 [2,1,1,1,3] [(2,.l [.I,.Y,.Y,.s] aN),(5,.v [.st])]
noncomputable abbrev t1:=az bq
abbrev P0:Ps:=[(2,.l [.I,.Y,.Y,.s] aN),(6,.v [.st]),(7,.v [.I]),(8,.v [.st]),(9,.v [.I])]
noncomputable def ct:=bj t1 [0,1,1,1,7] P0
noncomputable abbrev t2:=bh ct
noncomputable abbrev cJ:=ax t2 [2,2,1,1,7] P0
noncomputable abbrev t3:=az cJ
noncomputable abbrev bU:=ax t3 [2,2,1,2,1,1,7] [(2,.l [.I,.Y,.Y,.s] aN),(6,.v [.st]),(7,.v [.I]),(8,.v [.st]),(9,.v [.I]),(10,.v [.st])]
noncomputable abbrev t4:=az bU
def dX:=bm t4 ct
def aD:=aB t4 o0 [.a 4,.I,.Y,.Y,.s,.I]
end k7
namespace UF
noncomputable def C0:Code:=(Tryz.f63.body).getD .skip
noncomputable def C1:=C0.sn
noncomputable def C2:=C1.sn
noncomputable def C3:=C2.sn
noncomputable def C4:=C3.sn
noncomputable def C5:=C4.sn
noncomputable def C6:=C5.sn
noncomputable def C7:=C6.sn
noncomputable def C8:=C7.sn
abbrev Q0(R:aH):hx:=(bodyPost aa Tryz.f63 R)
noncomputable def C9:=C8.sn
abbrev S0(d:Int)(e:Sl)(w:J)(R:aH):Prop:=
 (0:Int)<=(bY (ao .i64 (bN d 216)) 8)/\(bY (ao .i64 (bN d 216)) 8)<((e.n:Nat):Int)/\dM e.a λh=>fM w (h.add (aZ (bY (ao .i64 (bN d 216)) 8) *4)) λj k q x=>xp vA #[.agg #[.i j,.int .u8 k,.int .u8 q,x.v]] w λy z A B C=>Gx o0 #[.agg #[.i y,.int .u8 z,.int .u8 A,B.v],.i 0] C λt86 D=>R (ag (.string t86)) D
def z8(E:Env)(w:J)(R:aH):Prop:=W.asInt .i64 (Env.get? E 3) λe=>W.asSlice (Env.get? E 9) λd=>S0 e d w R
end UF
namespace Hs
noncomputable abbrev t0:=aA aa Tryz.f90 [] [3,6]
def aD:=aB t0 J2 [.st]
end Hs
namespace HJ
noncomputable abbrev t0:=aA aa Tryz.f61 [] [2]
def aD:=aB t0 Ko [.I]
end HJ
namespace HN
noncomputable abbrev t0:=aA aa Tryz.f62 [] [2]
def aD:=aB t0 Ky [.I]
end HN
namespace HO
noncomputable abbrev t0:=aA aa Tryz.f106 [] []
def ok:=aB t0 KB [.s,.I]
end HO
namespace HL
noncomputable abbrev t0:=aA aa Tryz.f64 [] []
abbrev P0:Ps:=[]
noncomputable abbrev S0:=ax t0 [0,1,1,1,1] P0
noncomputable abbrev t1:=az S0
noncomputable abbrev S1:=ax t1 [0,1,1,1,1,1,3] P0
noncomputable abbrev t2:=az S1
noncomputable abbrev S3:=ax t2 [0,1,3,1,1,1,3] P0
noncomputable abbrev t3:=az S3
noncomputable abbrev S4:=ax t3 [4] P0
noncomputable abbrev t4:=az S4
noncomputable abbrev S2:=ax t4 [2,1,1,1,3] [(11,.v [.I])]
noncomputable abbrev t5:=az S2
def ok:=aB t5 Ks [.I]
end HL
namespace l3
noncomputable abbrev t0:=aA aa Tryz.f107 [] []
noncomputable abbrev S0:=ax t0 [0,1,1,1,1] []
noncomputable abbrev t1:=az S0
abbrev P0:Ps:=[(0,.v [.st]),(3,.v [.I])]
noncomputable def L1:=bj t1 [0,1,1,1,2] P0
noncomputable abbrev t2:=bh L1
noncomputable abbrev S4:=ax t2 [2,2,1,1,2] P0
noncomputable abbrev t3:=az S4
noncomputable abbrev S3:=ax t3 [2,2,1,2,1,1,2] [(0,.v [.st]),(3,.v [.I]),(4,.v [.b]),(5,.v [.b])]
noncomputable abbrev t4:=az S3
noncomputable abbrev S2:=ax t4 [1,2,1,2,1,1,2] [(0,.v [.st]),(3,.v [.I]),(4,.v [.b])]
noncomputable abbrev t5:=az S2
def fJ:=bm t5 L1
def ok:=aB t5 Ku [.st]
end l3
namespace HG
noncomputable abbrev t0:=aA aa Tryz.f129 [] []
def ok:=aB t0 vB [.I,.I,.I]
end HG
namespace qm
noncomputable abbrev t0:=aA aa Tryz.f108 [] [1]
noncomputable abbrev bq:=ax t0 [3] [(3,.v [.b])]
noncomputable abbrev t1:=az bq
def aD:=aB t1 Km [.a 3,.I,.I,.I]
end qm
namespace u7
noncomputable abbrev t0:=aA aa Tryz.f86 [(1,ls [0,1,3,4,5,2,6])] [3]
noncomputable def a2:=bj t0 [0,1,1,1,2] [(0,.v [.s]),(3,.l [.I,.s,.I,.I,.U,.st,.I,.I,.I] cA),(5,.v [.I])]
noncomputable abbrev t1:=bh a2
abbrev P0:Ps:=[]
noncomputable abbrev bT:=ax t1 [0,1,1,2,1,2,1,1,2] P0
noncomputable abbrev t2:=az bT
noncomputable abbrev bU:=ax t2 [0,1,1,1,5] P0
noncomputable abbrev t3:=az bU
noncomputable abbrev cJ:=ax t3 [6] P0
noncomputable abbrev t4:=az cJ
def bB:=bm t4 a2
def aD:=aB t4 Kz [.s,.a 9,.I,.s,.I,.I,.U,.st,.I,.I,.I]
end u7
namespace jm
noncomputable abbrev t0:=aA aa Tryz.f87 [(19,ls [0,1,2,3,4,5,6,7,8,9,10,11,12,13,14,15,16,17,18,19,20,21,22,23,24,25,26,27,28,29,30])] [3,4]
noncomputable abbrev bU:=ax t0 [0,1,1,1,7] [(4,.l [.I,.I,.I] cg)]
noncomputable abbrev t1:=az bU
abbrev P0:Ps:=[(0,.v [.s]),(3,.l [.I,.s,.I,.I,.U,.st,.I,.I,.I] cA),(4,.l [.I,.I,.I] cg),(9,.v [.I])]
noncomputable def kj:=bj t1 [0,1,1,1,9] P0
noncomputable abbrev t2:=bh kj
noncomputable abbrev hC:=ax t2 [2,2,1,1,9] P0
noncomputable abbrev t3:=az hC
def nA:=bm t3 kj
abbrev P1:Ps:=[(0,.v [.s]),(3,.l [.I,.s,.I,.I,.U,.st,.I,.I,.I] cA),(4,.l [.I,.I,.I] cg)]
noncomputable abbrev gI:=ax t3 [9] P1
noncomputable abbrev t4:=az gI
noncomputable abbrev cJ:=ax t4 [8] P1
noncomputable abbrev t5:=az cJ
noncomputable abbrev bT:=ax t5 [7] [(0,.v [.s]),(3,.l [.I,.s,.I,.I,.U,.st,.I,.I,.I] cA),(4,.l [.I,.I,.I] cg),(8,.v [.b])]
noncomputable abbrev t6:=az bT
noncomputable abbrev bq:=ax t6 [3] [(0,.v [.s]),(3,.l [.I,.s,.I,.I,.U,.st,.I,.I,.I] cA),(4,.l [.I,.I,.I] cg),(6,.v [.b])]
noncomputable abbrev t7:=az bq
def aD:=aB t7 KC [.s,.a 9,.I,.s,.I,.I,.U,.st,.I,.I,.I]
end jm
namespace HK
noncomputable abbrev t0:=aA aa Tryz.f85 [] [1,2]
def aD:=aB t0 Kp [.a 3,.I,.I,.I]
end HK
namespace Bu
noncomputable abbrev t0:=aA aa Tryz.f88 [(13,ls [0,1,2,3,4,5,6,7,8,9,10,11,12,13,14,15]),(15,ls [0,1,2,3,4,5,6,7,8,9,10,11,12,13,14,15,16,17,18,19,20,21,22,23,24,25,26]),(19,ls [0,1,2,3,4,5,6,7,8,9,10]),(21,ls [0,1,2,3,4,5,6,7,8,9,10]),(23,ls [0,1,2,3,4,5,6,7,8,9,10,11,12,13,14,15,16,17,18,19,20,21,22,23,24,25,26,27]),(25,ls [0,1,2,3,4,5,6,7,8]),(34,ls [0,1,2,3,4,5,6,7,8,9,10,11,12,13,14,15]),(38,ls [0,1,2,3]),(39,ls [0,1,2,3,4,5,6,7,8])] [5]
noncomputable abbrev bT:=ax t0 [0,1,1,1,1,1,5] [(6,.v [.b])]
noncomputable abbrev t1:=az bT
noncomputable abbrev cJ:=ax t1 [0,1,1,2,11,1,1,1,5] []
noncomputable abbrev t2:=az cJ
noncomputable abbrev gI:=ax t2 [0,1,15,1,1,1,5] [(7,.v [.b])]
noncomputable abbrev t3:=az gI
noncomputable abbrev hC:=ax t3 [0,1,17,1,1,1,5] [(1,.v [.s]),(7,.v [.b])]
noncomputable abbrev t4:=az hC
abbrev P0:Ps:=[(1,.v [.s]),(5,.l [.I,.I,.I] cg),(6,.v [.b]),(7,.v [.b]),(26,.v [.I])]
noncomputable abbrev mD:=ax t4 [18,1,1,1,5] P0
noncomputable abbrev t5:=az mD
noncomputable abbrev jM:=ax t5 [16,1,1,1,5] P0
noncomputable abbrev t6:=az jM
noncomputable abbrev bU:=ax t6 [2,1,1,1,5] [(1,.v [.s]),(5,.l [.I,.I,.I] cg),(6,.v [.b]),(7,.v [.b]),(8,.v [.b]),(26,.v [.I])]
noncomputable abbrev t7:=az bU
noncomputable abbrev bq:=ax t7 [5] [(0,.v [.I]),(1,.v [.s]),(5,.l [.I,.I,.I] cg),(6,.v [.b]),(7,.v [.b]),(8,.v [.b])]
noncomputable abbrev t8:=az bq
def aD:=aB t8 KA [.I,.s]
end Bu
namespace xI
noncomputable abbrev t0:=aA aa Tryz.f89 [(10,ls [0,1,2,3,4,5,6,7,8,9,10,11]),(13,ls [0,1,2,3,4,5,6,8,9,10,11,12,13,14,15,7,16,17]),(15,ls [0,1,2,3,4,5,7,8,9,6,10,11,12,13,14,15,16,17,18,19,20,21,22,23,24,25]),(18,ls [0,1,2,3,4,6,7,8,5,9,10,11,12,13,14,15,16,17,18]),(27,ls [1,2,3,0,4,5,6,7,8,9,10]),(29,ls [0,1,2,3,4,5,6,8,9,10,11,12,13,14,15,7,16,17]),(31,ls [0,1,2,3,4,5,6,8,9,10,11,12,13,14,15,7,16,17])] [2,4,6]
abbrev P0:Ps:=[(4,.l [.I,.I,.I] cg)]
noncomputable abbrev bq:=ax t0 [0,1,1,1,1,1,2] P0
noncomputable abbrev t1:=az bq
noncomputable abbrev bU:=ax t1 [0,1,9,1,1,1,2] [(2,.l [.I,.s,.I,.I,.U,.st,.I,.I,.I] cA),(4,.l [.I,.I,.I] cg),(6,.l [.I,.I,.I] cg)]
noncomputable abbrev t2:=az bU
noncomputable abbrev gI:=ax t2 [0,1,15,1,1,1,2] P0
noncomputable abbrev t3:=az gI
abbrev P1:Ps:=[(1,.v [.s]),(2,.l [.I,.s,.I,.I,.U,.st,.I,.I,.I] cA),(4,.l [.I,.I,.I] cg),(6,.l [.I,.I,.I] cg),(11,.v [.I])]
noncomputable abbrev jM:=ax t3 [16,1,1,1,2] P1
noncomputable abbrev t4:=az jM
noncomputable abbrev cJ:=ax t4 [10,1,1,1,2] P1
noncomputable abbrev t5:=az cJ
noncomputable abbrev bT:=ax t5 [2,1,1,1,2] P1
noncomputable abbrev t6:=az bT
def aD:=aB t6 KE [.a 9,.I,.s,.I,.I,.U,.st,.I,.I,.I,.s]
end xI
namespace sj
noncomputable abbrev t0:=aA aa Tryz.f67 [] [3,4,10]
noncomputable def a2:=bj t0 [0,1,1,1,5] [(0,.v [.s]),(3,.l [.I,.s,.I,.I,.U,.st,.I,.I,.I] cA),(4,.l [.I,.I,.I] cg),(7,.v [.s]),(8,.v [.I])]
noncomputable abbrev t1:=bh a2
noncomputable abbrev bT:=ax t1 [11] [(4,.l [.I,.I,.I] cg),(10,.l [.I,.I,.I] cg),(12,.v [.b])]
noncomputable abbrev t2:=az bT
def bB:=bm t2 a2
def aD:=aB t2 Kx [.s,.a 9,.I,.s,.I,.I,.U,.st,.I,.I,.I]
end sj
namespace HM
noncomputable abbrev t0:=aA aa Tryz.f91 [] [2,3]
def aD:=aB t0 Kw [.a 9,.I,.s,.I,.I,.U,.st,.I,.I,.I,.a 9,.I,.s,.I,.I,.U,.st,.I,.I,.I]
end HM
namespace u6
noncomputable abbrev t0:=aA aa Tryz.f68 [(7,ls [0,1,2,3,4,5,6])] [3,5]
noncomputable def ct:=bj t0 [0,1,1,1,3] [(0,.v [.s]),(3,.l [.I,.s,.I,.I,.U,.st,.I,.I,.I] cA),(7,.v [.I])]
noncomputable abbrev t1:=bh ct
def dX:=bm t1 ct
noncomputable abbrev bq:=ax t1 [3] [(0,.v [.s]),(3,.l [.I,.s,.I,.I,.U,.st,.I,.I,.I] cA)]
noncomputable abbrev t2:=az bq
def aD:=aB t2 Kr [.s,.a 9,.I,.s,.I,.I,.U,.st,.I,.I,.I]
end u6
namespace HH
noncomputable abbrev t0:=aA aa Tryz.f38 [(10,(.sq [1,3,6,7] (.fork (.sq [0] (.fork (ls [2,4,5,8,9,10]) (ls [4,2,5,8,9,10]))) (ls [4,0,2,5,8,9,10]))))] [3,7]
def aD:=aB t0 Kn [.s,.a 9,.I,.s,.I,.I,.U,.st,.I,.I,.I]
end HH
namespace Bv
noncomputable abbrev t0:=aA aa Tryz.f36 [] []
noncomputable abbrev S1:=ax t0 [4] [(3,.v [.s])]
noncomputable abbrev t1:=az S1
noncomputable abbrev S0:=ax t1 [3] [(0,.v [.I]),(3,.v [.s])]
noncomputable abbrev t2:=az S0
def ok:=aB t2 KG [.I]
end Bv
namespace qn
noncomputable abbrev t0:=aA aa Tryz.f65 [(5,ls [0,1,2,3,4,5,6])] [4]
abbrev P0:Ps:=[(0,.v [.s]),(2,.v [.I]),(4,.l [.I,.I,.I] cg),(7,.v [.s]),(8,.v [.I])]
noncomputable def a2:=bj t0 [0,1,1,1,2] P0
noncomputable abbrev t1:=bh a2
noncomputable abbrev bT:=ax t1 [2,2,1,1,2] P0
noncomputable abbrev t2:=az bT
def bB:=bm t2 a2
def aD:=aB t2 Kt [.s,.a 3,.I,.I,.I,.I]
end qn
namespace Bw
noncomputable abbrev t0:=aA aa Tryz.f66 [] [10,11]
noncomputable abbrev bq:=ax t0 [0,1,11,1,1,1,2] [(4,.v [.I]),(10,.l [.I,.I,.I] cg)]
noncomputable abbrev t1:=az bq
noncomputable abbrev bT:=ax t1 [3] [(10,.l [.I,.I,.I] cg),(11,.l [.I,.I,.I] cg)]
noncomputable abbrev t2:=az bT
def aD:=aB t2 KH [.s,.I,.I,.I,.I]
end Bw
namespace iG
noncomputable abbrev t0:=aA aa Tryz.f37 [(38,ls [0,1,2,3,4,5,6,7,8,9,10,11,12])] [8,10,16]
noncomputable def kj:=bj t0 [0,1,1,1,8] [(0,.v [.s]),(2,.v [.I]),(3,.v [.I]),(8,.l [.I,.s,.I,.I,.U,.st,.I,.I,.I] cA),(10,.l [.I,.s,.I,.I,.U,.st,.I,.I,.I] cA),(11,.v [.I]),(13,.v [.I]),(14,.v [.I])]
noncomputable abbrev t1:=bh kj
noncomputable abbrev mD:=ax t1 [2,2,1,2,1,1,8] [(0,.v [.s]),(2,.v [.I]),(3,.v [.I]),(8,.l [.I,.s,.I,.I,.U,.st,.I,.I,.I] cA),(10,.l [.I,.s,.I,.I,.U,.st,.I,.I,.I] cA),(11,.v [.I]),(13,.v [.I]),(14,.v [.I]),(15,.v [.I])]
noncomputable abbrev t2:=az mD
noncomputable abbrev hC:=ax t2 [2,1,1,1,1,2,1,2,1,1,8] [(0,.v [.s]),(2,.v [.I]),(3,.v [.I]),(8,.l [.I,.s,.I,.I,.U,.st,.I,.I,.I] cA),(10,.l [.I,.s,.I,.I,.U,.st,.I,.I,.I] cA),(11,.v [.I]),(13,.v [.I]),(14,.v [.I]),(16,.l [.I,.I,.I] cg)]
noncomputable abbrev t3:=az hC
def nA:=bm t3 kj
noncomputable abbrev gI:=ax t3 [8] [(0,.v [.s]),(2,.v [.I]),(3,.v [.I]),(8,.l [.I,.s,.I,.I,.U,.st,.I,.I,.I] cA),(10,.l [.I,.s,.I,.I,.U,.st,.I,.I,.I] cA),(11,.v [.I]),(13,.v [.I])]
noncomputable abbrev t4:=az gI
noncomputable abbrev cJ:=ax t4 [7] [(0,.v [.s]),(1,.v [.I]),(2,.v [.I]),(3,.v [.I]),(8,.l [.I,.s,.I,.I,.U,.st,.I,.I,.I] cA),(10,.l [.I,.s,.I,.I,.U,.st,.I,.I,.I] cA),(11,.v [.I]),(13,.v [.I])]
noncomputable abbrev t5:=az cJ
abbrev P0:Ps:=[(0,.v [.s]),(1,.v [.I]),(2,.v [.I]),(3,.v [.I]),(8,.l [.I,.s,.I,.I,.U,.st,.I,.I,.I] cA),(10,.l [.I,.s,.I,.I,.U,.st,.I,.I,.I] cA),(11,.v [.I])]
noncomputable abbrev bU:=ax t5 [5] P0
noncomputable abbrev t6:=az bU
abbrev P1:Ps:=[(0,.v [.s]),(1,.v [.I]),(2,.v [.I]),(3,.v [.I]),(8,.l [.I,.s,.I,.I,.U,.st,.I,.I,.I] cA),(10,.l [.I,.s,.I,.I,.U,.st,.I,.I,.I] cA),(11,.v [.I]),(12,.v [.I])]
noncomputable abbrev bT:=ax t6 [2,1,1,1,1,1,4] P1
noncomputable abbrev t7:=az bT
noncomputable abbrev bq:=ax t7 [1,1,1,1,1,1,4] P1
noncomputable abbrev t8:=az bq
noncomputable abbrev pT:=ax t8 [0,1,9,1,1,1,4] P0
noncomputable abbrev t9:=az pT
noncomputable abbrev RG:=ax t9 [10,1,1,1,4] [(0,.v [.s]),(1,.v [.I]),(2,.v [.I]),(3,.v [.I]),(8,.l [.I,.s,.I,.I,.U,.st,.I,.I,.I] cA),(10,.l [.I,.s,.I,.I,.U,.st,.I,.I,.I] cA),(11,.v [.I]),(32,.v [.I])]
noncomputable abbrev t10:=az RG
def aD:=aB t10 KD [.s,.I,.I,.I]
end iG
namespace sm
noncomputable abbrev t0:=aA aa Tryz.f40 [] []
abbrev P0:Ps:=[(0,.v [.s]),(1,.v [.I]),(5,.v [.I]),(6,.v [.I])]
noncomputable def L0:=bj t0 [0,1,1,1,2] P0
noncomputable abbrev t1:=bh L0
noncomputable abbrev S1:=ax t1 [2,2,1,1,2] P0
noncomputable abbrev t2:=az S1
def bE:=bm t2 L0
def ok:=aB t2 KF [.s,.I]
end sm
namespace HP
noncomputable abbrev t0:=aA aa Tryz.f39 [] [3]
def aD:=aB t0 KI [.I,.a 3,.I,.I,.I]
end HP
namespace mR
noncomputable abbrev t0:=aA aa Tryz.f16 [(5,(.sq [0,1,2,3,4,5,6,7,8,9,10,11,12,13,14] (.fork (ls [15,16,17]) (ls [16,15,17]))))] [9]
abbrev P0:Ps:=[(0,.v [.s]),(1,.v [.I]),(2,.v [.I]),(7,.v [.s]),(8,.v [.I])]
noncomputable def a2:=bj t0 [0,1,1,1,2] P0
noncomputable abbrev t1:=bh a2
noncomputable abbrev bU:=ax t1 [2,2,1,1,2] P0
noncomputable abbrev t2:=az bU
noncomputable abbrev bT:=ax t2 [1,2,1,2,1,1,2] [(0,.v [.s]),(1,.v [.I]),(2,.v [.I]),(7,.v [.s]),(8,.v [.I]),(9,.l [.I,.s,.I,.I,.U,.st,.I,.I,.I] cA)]
noncomputable abbrev t3:=az bT
noncomputable abbrev cJ:=ax t3 [3] [(7,.v [.s])]
noncomputable abbrev t4:=az cJ
def bB:=bm t4 a2
def aD:=aB t4 Cy [.s,.I,.I]
end mR
def fa(n:Int)(w:J):ak aa Ko #[.i n] w λr h=>r=ag (dO (bz n))/\ah w h:=
 HJ.aD _ w _ ((bP [] (by simp)).aJ λb j d=>d.ai λk e=>⟨rfl,e.fr⟩)
def nD(n:Int)(w:J):ak aa Ky #[.i n] w λr h=>r=ag (dO (eT n))/\ah w h:=
 HN.aD _ w _ ((bP [] (by simp)).aJ λb j d=>d.ai λk e=>⟨rfl,e.fr⟩)
def Dy(s:bo)(w:J):ak aa Kp #[dO s] w λr x=>r=ag (dO (hG s))/\ah w x:=by
 refine HK.aD _ _ _ w _ ((bP [] (by simp)).aJ λb B q=>q.aJ λA k j=>aL (λh=>j.ay (fa s.n k) ?_) (λh=>j.ay (nD s.n k) ?_))
 .rintro _ y rfl d;exact⟨_,_,_,rfl,d.ai λz e=>⟨by unfold hG;rw[aj h],e.fr⟩⟩
 .rintro _ y rfl d;exact⟨_,_,_,rfl,d.ai λz e=>⟨by unfold hG;rw[af h],e.fr⟩⟩
def sP{op:Int}(d:0<=op)(e:op<=34):op=0\/op=1\/op=2\/op=3\/op=4\/op=5\/op=6\/op=7\/op=8\/op=9\/op=10\/op=11\/op=12\/op=13\/op=14\/op=15\/op=16\/op=17\/op=18\/op=19\/op=20\/op=21\/op=22\/op=23\/op=24\/op=25\/op=26\/op=27\/op=28\/op=29\/op=30\/op=31\/op=32\/op=33\/op=34:=by omega
def F3(op:Int)(w:J):ak aa Ks #[.i op] w λr h=>r=ag (.i (cU op))/\ah w h:=by
 refine HL.ok op w _ ?_;by_cases d:op<0
 .exact a3 (aP d) ⟨by unfold cU;rw[aj (.inl d)],Fr.refl _ _⟩
 refine a1 (aV d) ?_;by_cases e:op>34
 .exact a3 (aP e) ⟨by unfold cU;rw[aj (.inr e)],Fr.refl _ _⟩
 refine a1 (aV e) ?_;rcases sP (by omega) (by omega:op<=34)with rfl|rfl|rfl|rfl|rfl|rfl|rfl|rfl|rfl|rfl|rfl|rfl|rfl|rfl|rfl|rfl|rfl|rfl|rfl|rfl|rfl|rfl|rfl|rfl|rfl|rfl|rfl|rfl|rfl|rfl|rfl|rfl|rfl|rfl|rfl<;>exact⟨rfl,Fr.refl _ _⟩
def Iq{s:ByteArray}{i:Nat}(h:i<s.size):s[i]? =some (gQ (bl s) i):=by
 have e:i<(bl s).length:=h;have d:gQ (bl s) i=(bl s)[i]:=by unfold gQ;rw[List.getD_eq_getElem?_getD,a6 e];rfl
 rw[d,getElem?_pos s i h];rfl
def l9(c:UInt8)(m:List UInt8):gg (c::m)=(aq (m.length<=15)&&eN c&&m.all cQ):=rfl
def SQ(s:ByteArray)(w:J):ak aa Ku #[.string s] w λr h=>r=ag (.bool (gg (bl s)))/\ah w h:=by
 have z:(bl s).length=s.size:=dP s;have no:gg (bl s)=false->(Ending.returned (.bool false)=ag (.bool (gg (bl s)))/\ah w w):=λe=>⟨by rw[e],Fr.refl _ _⟩;cases A:bl s with
 |nil=>
  have C:s.size=0:=by rw[<-z,A];rfl
  exact l3.ok s w _ (a3 (aP (by omega)) ⟨rfl,Fr.refl _ _⟩)
 |cons c m=>
  have P:s.size=m.length+1:=by rw[<-z,A];rfl
  rw[A]at no;have K:gQ (bl s) 0=c:=by rw[A];rfl
  have C:s[aZ 0]? =some c:=by rw[<-K];exact Iq (by omega)
  refine l3.ok s w _ (a1 (aV (by omega)) (aG (λe=>no ?_) (λe=>⟨by omega,c,C,aG (λM=>no ?_) (λM=>⟨by omega,c,C,aG (λF=>no ?_) (λF=>?_)⟩)⟩)))
  .rw [l9,aV (by omega)];rfl
  .rw [l9];unfold eN;rw[aV (show ¬97<=c.toNat by omega)];simp
  .rw [l9];unfold eN;rw[aV (show ¬c.toNat<=122 by omega)];simp
  have H:gg (c::m)=m.all cQ:=by rw[l9];unfold eN;rw[aP (show m.length<=15 by omega),aP (show 97<=c.toNat by omega),aP (show c.toNat<=122 by omega)];simp
  have I:gg (c::m)=(bl s).all cQ:=by rw[H,A,List.all_cons];unfold cQ eN;rw[aP (show 97<=c.toNat by omega),aP (show c.toNat<=122 by omega)];simp
  rw[I];have loop:∀(d i:Nat),i+d=s.size->(bl s).all cQ=((bl s).drop i).all cQ->l3.L1 s (i:Int) w λr h=>r=ag (.bool ((bl s).all cQ))/\ah w h:=by
   intro d;induction d with
   |zero=>
    intro i N j;rw[dC (by omega)]at j;exact l3.fJ _ _ _ _ (a1 (aV (by omega)) ⟨by rw[j];rfl,Fr.refl _ _⟩)
   |succ d O=>
    intro i N j;have k:=Iq (show i<s.size by omega);rw[dy (by omega:i<(bl s).length),List.all_cons,show(bl s)[i]'(by omega)=gQ (bl s) i by unfold gQ;rw[List.getD_eq_getElem?_getD,a6 (by omega:i<(bl s).length)];rfl]at j;generalize gQ (bl s) i=x at k j;have go:cQ x=true->l3.S4 s (i:Int) w λr h=>r=ag (.bool ((bl s).all cQ))/\ah w h:=λe=>by show l3.L1 s (ao .i64 ((i:Int)+1)) w _;rw[bd _ (by omega)];exact O (i+1) (by omega) (by rw[j,e,Bool.true_and])
    have stop:cQ x=false->(Ending.returned (.bool false)=ag (.bool ((bl s).all cQ))/\ah w w):=λe=>⟨by rw[j,e,Bool.false_and],Fr.refl _ _⟩;have G:eN x=false->∀o:Bool,o=((aq (48<=x.toNat)&&aq (x.toNat<=57))||x==45)->l3.S3 s (i:Int) false o w λr h=>r=ag (.bool ((bl s).all cQ))/\ah w h:=λq o B=>by
     refine a3 rfl (dN (λe=>stop ?_) (λe=>go ?_))
     .unfold cQ;rw[q,Bool.false_or,<-B,e]
     .unfold cQ;rw[q,Bool.false_or,<-B,e]
    have E:((((x.toNat:Nat):Int)==45):Bool)=(x==45):=by
     by_cases e:x=45
     .subst e;rfl
     .rw [beq_eq_false_iff_ne.2 e,beq_eq_false_iff_ne];intro F;exact e (UInt8.toNat_inj.1 (by have:((45:UInt8).toNat:Int)=45:=rfl;omega))
    have y:((i:Int)).toNat=i:=bF i;have D:∀l:Bool,l=eN x->l3.S2 s (i:Int) l w λr h=>r=ag (.bool ((bl s).all cQ))/\ah w h:=λl z=>by
     have fin:∀o:Bool,o=((aq (48<=x.toNat)&&aq (x.toNat<=57))||x==45)->l3.S3 s (i:Int) l o w λr h=>r=ag (.bool ((bl s).all cQ))/\ah w h:=λo B=>by
      cases q:eN x with
      |true=>rw[z,q];exact a1 rfl (go (by unfold cQ;rw[q];rfl))
      |false=>rw[z,q];exact G q o B
     refine⟨by omega,x,by rw[y];exact k,aG (λe=>⟨by omega,x,by rw[y];exact k,aG (λL=>fin true ?_) (λL=>⟨by omega,x,by rw[y];exact k,?_⟩)⟩) (λe=>⟨by omega,x,by rw[y];exact k,?_⟩)⟩
     .rw [aP (show 48<=x.toNat by omega),aP (show x.toNat<=57 by omega)];rfl
     .rw [E];exact fin _ (by rw[aV (show ¬x.toNat<=57 by omega)];simp)
     .rw [E];exact fin _ (by rw[aV (show ¬48<=x.toNat by omega)];simp)
    refine l3.fJ _ _ _ _ (a3 (aP (by omega)) ⟨by omega,x,by rw[y];exact k,aG (λe=>⟨by omega,x,by rw[y];exact k,D _ ?_⟩) (λe=>D _ ?_)⟩)
    .unfold eN;rw[aP (show 97<=x.toNat by omega),Bool.true_and];exact decide_eq_decide.2 (by omega)
    .unfold eN;rw[aV (show ¬97<=x.toNat by omega),Bool.false_and]
  exact loop s.size 0 (by omega) (by simp)
def DB(n lo U:Int)(w:J):ak aa vB #[.int .i64 n,.int .i64 lo,.int .i64 U] w λr h=>r=ag (.bool (aq (lo<=n/\n<=U)))/\ah w h:=by
 refine HG.ok _ _ _ w _ (aG (λd=>⟨?_,Fr.refl _ _⟩) (λd=>⟨?_,Fr.refl _ _⟩))
 .have:(lo<=n/\n<=U)↔n<=U:=⟨λd=>d.2,λe=>⟨d,e⟩⟩;simp only[this]
 .rw [aV (by omega)]
def Yd(s:bo)(w:J):ak aa Km #[dO s] w λr h=>r=ag (.int .i64 (gP s))/\ah w h:=by
 refine qm.aD _ _ _ w _ ((bP [] (by simp)).aJ λA y z=>?_);have fin:∀{d:J} {L:List En} (b:Bool),b=bW s->LH F0 w d L []->qm.bq b d λr h=>r=ag (.int .i64 (gP s))/\ah w h:=by
  rintro d L b rfl F;refine dN (λe=>⟨?_,F.fr⟩) (λe=>⟨?_,F.fr⟩)
  .unfold gP;rw[af (by simp[e])]
  .unfold gP;rw[aj e]
 have plain:∀lo:Int,(bW s=(aq (lo<=s.n/\s.n<=64)&&(s.x==0)))->ee [A] aa vB #[.int .i64 s.n,.int .i64 lo,.int .i64 64] y λq d=>∃t10:Bool,q=ag (.bool t10)/\bn t10 (qm.bq (s.x==0) d λr h=>r=ag (.int .i64 (gP s))/\ah w h) (qm.bq false d λr h=>r=ag (.int .i64 (gP s))/\ah w h):=by
  intro lo k;refine z.ay (DB _ _ _ y) ?_;rintro _ d rfl j;refine⟨_,rfl,bD (λe=>fin _ ?_ j) (λe=>fin _ ?_ j)⟩
  .rw [k,e];rfl
  .rw [k,e];rfl
 have array:∀lo:Int,(bW s=(aq (lo<=s.n/\s.n<=64)&&aq (1<=s.x/\s.x<=16)))->ee [A] aa vB #[.int .i64 s.n,.int .i64 lo,.int .i64 64] y λq d=>∃t10:Bool,q=ag (.bool t10)/\bn t10 (ee [A] aa vB #[.int .i64 s.x,.int .i64 1,.int .i64 16] d λq H=>∃t34:Bool,q=ag (.bool t34)/\qm.bq t34 H λr h=>r=ag (.int .i64 (gP s))/\ah w h) (qm.bq false d λr h=>r=ag (.int .i64 (gP s))/\ah w h):=by
  intro lo k;refine z.ay (DB _ _ _ y) ?_;rintro _ d rfl j;refine⟨_,rfl,bD (λe=>j.ay (DB _ _ _ d) ?_) (λe=>fin _ ?_ j)⟩
  .rintro _ I rfl G;exact⟨_,rfl,fin _ (by rw[k,e];rfl) G⟩
  .rw [k,e];rfl
 refine aL (λB=>plain 1 ?_) (λB=>aL (λC=>plain 0 ?_) (λC=>aL (λD=>array 1 ?_) (λD=>aL (λE=>array 0 ?_) (λE=>fin _ ?_ z))))
 .unfold bW;simp[B]
 .unfold bW;simp[C]
 .unfold bW;simp[D,Bool.and_assoc]
 .unfold bW;simp[E,Bool.and_assoc]
 .unfold bW;simp[B,C,D,E]
section
variable {M:Nat->Prop} {w0 w:J} {L D:List En} {V:List Nat}
def xm(w:J)(e:Nat)(vs:List ab)(ty:aC)(b:Nat):¬(En.c e vs ty).P ({w with heap:=Array.replicate (b+1) (.map #[] 0)}):=by intro d;have d:({w with heap:=Array.replicate (b+1) (.map #[] 0)}:J).heap[e]? =some (.cells vs.toArray ty (0,0)):=d;simp[Array.getElem?_replicate]at d
def qa{d:Nat}{vs:List ab}{ty:aC}{b:Nat}:b∈(En.c d vs ty).fp↔b=d:=by simp[En.c,En.ob]
def _root_.Go.W.LH.zw{e:Nat}{vs:List ab}{ty:aC}(H:LH M w0 w (.c e vs ty::L) D){Y:J}(f:Fr (·=e) w Y){y:List ab}(h:Y.heap[e]? =some (.cells y.toArray ty (0,0))):
  LH M w0 Y (.c e y ty::L) D/\∀k:En,k.P Y->(∀b∈k.fp,w.heap.size<=b)->LH M w0 Y (.c e y ty::L) (D++[k]):=by
 have j:LH M w0 Y (.c e y ty::L) D:=H.TT 0 f h;refine⟨j,λk C E=>⟨j.fr,j.own,λz d=>?_,j.new,j.nd,λz d b B A x q=>?_⟩⟩
 .rcases aX.1 d with d|d
  .exact j.rd z d
  .simp at d;subst d;exact C
 .rcases aX.1 d with d|d
  .exact j.dj z d b B A x q
  .simp at d;subst d;have F:=E b B;have G:b<w.heap.size:=by
    rcases av.1 x with rfl|x
    .have q:=qa.1 q;have:=(En.c e vs ty).lt w (H.get 0) e (qa.2 rfl);omega
    .exact A.lt w (H.own A (dS _ x)) b q
   omega
def _root_.Go.W.LH.qe{e:Nat}{vs:List ab}{ty:aC}(H:LH M w0 w (.c e vs ty::L) D){P:aF}{g:FuncId}{args:Array ab}{A:aH}{j:List ab}{K:aH}(x:ak P g args w λr d=>(A r d/\d.heap[e]? =some (.cells j.toArray ty (0,0)))/\Fr (·=e) w d)(y:∀r d,A r d->LH M w0 d (.c e j ty::L) D->(∀h:En,h.P d->(∀b∈h.fp,w.heap.size<=b)->LH M w0 d (.c e j ty::L) (D++[h]))->K r d):ak P g args w K:=
 x.mono λr d ⟨⟨q,k⟩,f⟩=>y r d q (H.zw f k).1 (H.zw f k).2
def _root_.Go.W.LH.hY{e:Nat}{vs:List ab}{ty:aC}(H:LH M w0 w (.c e vs ty::L) D){P:aF}{g:FuncId}{args:Array ab}{A:aH}{j:List ab}{K:aH}(y:ak P g args w λr d=>(A r d/\d.heap[e]? =some (.cells j.toArray ty (0,0)))/\Fr (·=e) w d)(z:∀r d,A r d->LH M w0 d (.c e j ty::L) D->(∀h:En,h.P d->(∀b∈h.fp,w.heap.size<=b)->LH M w0 d (.c e j ty::L) (D++[h]))->K r d)(br:∀b∈V,En.g b∈(En.c e vs ty::L):=by simp):ee V P g args w K:=
 ⟨(·=e),λb x B=>nN H (i:=0) rfl (xm w e vs ty) (br b x) (by rw[B];exact qa.2 rfl),y.mono λr d ⟨⟨q,k⟩,f⟩=>⟨f,z r d q (H.zw f k).1 (H.zw f k).2⟩⟩
end
def gk{s:ByteArray}{i:Nat}(h:i<s.size):s[i]? =some (gQ (bl s) i):=by rw[getElem?_pos s i h];unfold gQ;rw[List.getD_eq_getElem?_getD,a6 (show i<(bl s).length by rw[dP];exact h)];rfl
def wH{x:UInt8}{n:Nat}{A B:Prop}(k:n<256)(h:(x==cI n)=true->A)(j:(x==cI n)=false->B):bn (((x.toNat:Nat):Int)==(n:Int)) A B:=by
 have d:x.toNat=n↔x=cI n:=by rw[<-UInt8.toNat_inj,UInt8.toNat_ofNat'];omega
 refine aL (λe=>h (by rw[beq_iff_eq,<-d];omega)) (λe=>j (by rw[beq_eq_false_iff_ne,Ne,<-d];omega))
def wG{x:UInt8}{n:Nat}{A B:Prop}(k:n<256)(h:(x==cI n)=false->A)(j:(x==cI n)=true->B):bn (((x.toNat:Nat):Int) !=(n:Int)) A B:=by
 have d:x.toNat=n↔x=cI n:=by rw[<-UInt8.toNat_inj,UInt8.toNat_ofNat'];omega
 refine dv (λe=>h (by rw[beq_eq_false_iff_ne,Ne,<-d];omega)) (λe=>j (by rw[beq_iff_eq,<-d];omega))
def FE{p:UInt8->Prop}(h:∀d:Fin 256,p (cI d.val))(c:UInt8):p c:=by have:=h ⟨c.toNat,c.toNat_lt⟩;simpa using this
def Un:∀n:Fin 16,(bJ #[48,49,50,51,52,53,54,55,56,57,97,98,99,100,101,102])[n.val]? =some (h0 n.val):=by decide+kernel
def AV(n:Nat)(h:n<16)(w:J):ak aa J9 #[.i (n:Int)] w λr d=>r=ag (.int .u8 ((h0 n).toNat:Int))/\ah w d:=
 Hx.ok _ w _ ⟨by omega,_,Un ⟨n,h⟩,rfl,Fr.refl _ _⟩
def Gr(c:UInt8)(w:J):ak aa Ke #[.int .u8 (c.toNat:Int)] w λr x=>r=ag (.bool (m5 c))/\ah w x:=by
 refine HB.ok _ w _ (aG (λk=>aG (λq=>wG (n:=39) (by omega) (λd=>⟨?_,Fr.refl _ _⟩) (λd=>⟨?_,Fr.refl _ _⟩)) (λq=>⟨?_,Fr.refl _ _⟩)) (λk=>⟨?_,Fr.refl _ _⟩))
 .have e:(((c.toNat:Nat):Int) !=92)= !(c==92):=by
   have:=@wG c 92 (((((c.toNat:Nat):Int) !=92)=true)/\(c==92)=false) (((((c.toNat:Nat):Int) !=92)=false)/\(c==92)=true);cases j:(((c.toNat:Nat):Int) !=92)with
   |true=>
    have h:c≠92:=λe=>by subst e;exact absurd j (by decide)
    rw[beq_eq_false_iff_ne.2 h];rfl
   |false=>
    have h:c=92:=by rw[<-UInt8.toNat_inj];have:=(bne_eq_false_iff_eq.1 j);show c.toNat=92;omega
    subst h;rfl
  rw[e];unfold m5;rw[aP (show 32<=c.toNat by omega),aP (show c.toNat<=126 by omega)];have d:(c==39)=false:=d;rw[d];rfl
 .have d:(c==39)=true:=d;unfold m5;rw[d];simp
 .unfold m5;rw[aV (show ¬c.toNat<=126 by omega)];simp
 .unfold m5;rw[aV (show ¬32<=c.toNat by omega)];simp
def Xn:∀n:Fin 16,gh (h0 n.val)=(n.val:Int):=by decide+kernel
def Xp:∀d:Fin 256,gh (cI d.val)=-1\/∃n:Fin 16,h0 n.val=cI d.val:=by decide+kernel
def Xo:∀d:Fin 256,gh (cI d.val)<16:=by decide+kernel
def xl(c:UInt8)(w:J):ak aa Kd #[.int .u8 (c.toNat:Int)] w λr x=>r=ag (.int .i64 (gh c))/\ah w x:=by
 have loop:∀(d i:Nat) (j:J),i+d=16->(∀h,h<i->h0 h≠c)->ah w j->uZ.L0 c.toNat (i:Int) j λr x=>r=ag (.int .i64 (gh c))/\ah w x:=by
  intro d;induction d with
  |zero=>
   intro i j z q f;refine uZ.bE _ _ _ _ (a1 (aV (by omega)) ⟨?_,f⟩);have:=FE (p:=λc=>gh c=-1\/∃n:Fin 16,h0 n.val=c) Xp c;rcases this with e|⟨n,e⟩
   .rw [e]
   .exact absurd e (q n.val (by omega))
  |succ d B=>
   intro i j z q f;refine uZ.bE _ _ _ _ (a3 (aP (by omega)) ((AV i (by omega) j).mono ?_));rintro _ C ⟨rfl,y⟩;refine⟨_,rfl,aL (λe=>⟨?_,f.dD y⟩) (λe=>?_)⟩
   .have k:h0 i=c:=by rw[<-UInt8.toNat_inj];omega
    have:=Xn ⟨i,by omega⟩;rw[<-k];rw[this]
   .rw [bd _ (by omega)];refine B (i+1) C (by omega) (λh D=>?_) (f.dD y);by_cases A:h=i
    .subst A;intro k;subst k;exact e rfl
    .exact q h (by omega)
 exact uZ.ok _ w _ (loop 16 0 w (by omega) (λh e=>by omega) (Fr.refl _ _))
def yJ(x:UInt8×Nat):cr:=ag (.tuple #[.int .u8 (x.1.toNat:Int),.i (x.2:Int)])
def Xq:∀d e:Fin 16,ao .u8 (ao .i64 ((ao .i64 (16 *(d.val:Int)))+(e.val:Int)))=((cI ((16 *(d.val:Int)+(e.val:Int)).toNat)).toNat:Int):=by decide+kernel
def M2{c:UInt8}(h:0<=gh c):∃d:Fin 16,gh c=(d.val:Int):=by have:=FE (p:=λc=>gh c<16) Xo c;exact⟨⟨(gh c).toNat,by omega⟩,by show gh c=(((gh c).toNat:Nat):Int);omega⟩
def AU(s:ByteArray)(i:Nat)(U:i<=1000000)(w:J):ak aa J8 #[.string s,.i (i:Int)] w λr d=>r=yJ (g' (bl s) i)/\ah w d:=by
 have A:ao .i64 ((i:Int)+1)=((i+1:Nat):Int):=by rw[aS _ (by omega)];omega
 have B:ao .i64 ((i:Int)+2)=((i+2:Nat):Int):=by rw[aS _ (by omega)];omega
 have C:ao .i64 ((i:Int)+3)=((i+3:Nat):Int):=by rw[aS _ (by omega)];omega
 have F:ao .i64 ((i:Int)+4)=((i+4:Nat):Int):=by rw[aS _ (by omega)];omega
 have V:(bl s).length=s.size:=dP s;have no:∀d,ah w d->g' (bl s) i=(0,0)->uY.S1 d (λr d=>r=yJ (g' (bl s) i)/\ah w d):=λd f x=>⟨by rw[x];rfl,f⟩;have st:∀d,ah w d->(aq (i+3<=(bl s).length)&&gQ (bl s) i==39&&gQ (bl s) (i+2)==39&&m5 (gQ (bl s) (i+1)))=false->uY.S0 s (i:Int) d (λr d=>r=yJ (g' (bl s) i)/\ah w d):=by
  intro d f E;have k:(aq (i+4<=(bl s).length)&&gQ (bl s) i==92&&gQ (bl s) (i+1)==120&&aq (0<=gh (gQ (bl s) (i+2)))&&aq (0<=gh (gQ (bl s) (i+3))))=false->∀d,ah w d->uY.S1 d (λr d=>r=yJ (g' (bl s) i)/\ah w d):=λx d f=>no d f (by unfold g';rw[E,x];rfl)
  show bn _ _ _;rw[F,C,B,A];refine aG (λM=>⟨by omega,_,gk (i:=i) (by omega),wH (n:=92) (by omega) (λe=>⟨by omega,_,gk (i:=i+1) (by omega),wH (n:=120) (by omega) (λh=>⟨by omega,_,gk (i:=i+2) (by omega),(xl _ d).mono ?_⟩) (λh=>?_)⟩) (λe=>?_)⟩) (λM=>?_)
  rotate_left
  .exact k (by have h:(gQ (bl s) (i+1)==120)=false:=h;rw[h];simp) d f
  .exact k (by have e:(gQ (bl s) i==92)=false:=e;rw[e];simp) d f
  .exact k (by rw[aV (show ¬i+4<=(bl s).length by omega)];simp) d f
  rintro _ q ⟨rfl,j⟩;refine⟨_,rfl,aG (λN=>⟨by omega,_,gk (i:=i+3) (by omega),(xl _ q).mono ?_⟩) (λN=>k (by rw[aV (show ¬0<=gh (gQ (bl s) (i+2))by omega)];simp) q (f.dD j))⟩;rintro _ z ⟨rfl,D⟩;refine⟨_,rfl,aG (λP=>?_) (λP=>k (by rw[aV (show ¬0<=gh (gQ (bl s) (i+3))by omega)];simp) z ((f.dD j).dD D))⟩;have H:ah w z.drew:=((f.dD j).dD D).dD (Fr.drew _ _);refine(show k4 z _ from ?_);refine⟨by omega,_,gk (i:=i+2) (by omega),by omega,_,gk (i:=i+3) (by omega),(xl _ _).mono ?_⟩;rintro _ W ⟨rfl,I⟩;refine⟨_,rfl,(xl _ _).mono ?_⟩;rintro _ Y ⟨rfl,K⟩;refine⟨_,rfl,?_,(H.dD I).dD K⟩;have e:(gQ (bl s) i==92)=true:=e;have h:(gQ (bl s) (i+1)==120)=true:=h;have G:g' (bl s) i=(cI ((16 *gh (gQ (bl s) (i+2))+gh (gQ (bl s) (i+3))).toNat),4):=by unfold g';rw[E,e,h,aP (show i+4<=(bl s).length by omega),aP (show 0<=gh (gQ (bl s) (i+2))by omega),aP (show 0<=gh (gQ (bl s) (i+3))by omega)];rfl
  rw[G];obtain⟨S,O⟩:=M2 (c:=gQ (bl s) (i+2)) (by omega);obtain⟨T,Q⟩:=M2 (c:=gQ (bl s) (i+3)) (by omega);rw[O,Q,Xq S T];rfl
 refine uY.ok _ _ w _ ?_;rw[C,B,A];refine aG (λL=>⟨by omega,_,gk (i:=i) (by omega),wH (n:=39) (by omega) (λe=>⟨by omega,_,gk (i:=i+2) (by omega),wH (n:=39) (by omega) (λh=>⟨by omega,_,gk (i:=i+1) (by omega),(Gr _ w).mono ?_⟩) (λh=>?_)⟩) (λe=>?_)⟩) (λL=>?_)
 rotate_left
 .exact st w (Fr.refl _ _) (by have h:(gQ (bl s) (i+2)==39)=false:=h;rw[h];simp)
 .exact st w (Fr.refl _ _) (by have e:(gQ (bl s) i==39)=false:=e;rw[e];simp)
 .exact st w (Fr.refl _ _) (by rw[aV (show ¬i+3<=(bl s).length by omega)];simp)
 rintro _ q ⟨rfl,j⟩;refine⟨_,rfl,bD (λy=>⟨by omega,_,gk (i:=i+1) (by omega),?_,j⟩) (λy=>st q j (by rw[y];simp))⟩;have e:(gQ (bl s) i==39)=true:=e;have h:(gQ (bl s) (i+2)==39)=true:=h;unfold g';rw[e,h,y,aP (show i+3<=(bl s).length by omega)];rfl
def AH(s:BL)(i:Nat):(g' s i).2<=4/\(0<(g' s i).2->i+(g' s i).2<=s.length):=by
 unfold g';split
 .rename_i d;simp only[bf,decide_eq_true_eq]at d;exact⟨by simp,λ_=>d.1.1.1⟩
 .split
  .rename_i d;simp only[bf,decide_eq_true_eq]at d;exact⟨by simp,λ_=>d.1.1.1.1⟩
  .exact ⟨by simp,λd=>by simp at d⟩
def D0(g:An):cr:=ag (.tuple #[.agg #[.i (g.k:Int),.int .u8 (g.lo.toNat:Int),.int .u8 (g.U.toNat:Int),.slice none 0 0],.i (g.n:Int)])
def NN(s:BL)(i:Nat):i+(jx s i).n<=s.length\/(jx s i).n=0:=by
 unfold jx;simp only;have d:=AH s i;split
 .rename_i e;exact .inl (d.2 e)
 .split
  .exact .inr rfl
  .split
   .exact .inr rfl
   .split
    .exact .inr rfl
    .rename_i h;simp only[not_or]at h;left;show i+(_+1 - i)<=s.length;omega
def TB(s:ByteArray)(W:s.size<=100000)(i:Nat)(U:i<s.size)(w:J):ak aa Kg #[.string s,.i (i:Int)] w λr Y=>r=D0 (jx (bl s) i)/\ah w Y:=by
 have V:(bl s).length=s.size:=dP s;refine sh.aD _ _ w _ ((bP [] (by simp)).aJ λb S G=>G.ay (AU s i (by omega) S) ?_);rintro _ T rfl B;refine⟨_,_,rfl,aG (λP=>B.ai λk e=>⟨?_,e.fr⟩) (λP=>⟨by omega,_,gk (i:=i) U,wG (n:=91) (by omega) (λj=>B.ai λk e=>⟨?_,e.fr⟩) (λj=>?_)⟩)⟩
 .unfold jx;simp only;rw[aj (by omega)];rfl
 .have j:(gQ (bl s) i==91)=false:=j;unfold jx;simp only;rw[af (by omega),aj (beq_eq_false_iff_ne.1 j)];rfl
 have j:gQ (bl s) i=91:=eq_of_beq j;rw[bd _ (by omega)];refine B.ay (AU s (i+1) (by omega) T) ?_;rintro _ k rfl e;have I:=AH (bl s) (i+1);have bad:∀(Y:J),LH F0 w Y [.g b] []->jx (bl s) i=qF->sh.bT b 0 0 0 ⟨none,0,0⟩ Y λr Y=>r=D0 (jx (bl s) i)/\ah w Y:=λY z F=>z.ai λQ A=>⟨by rw[F];rfl,A.fr⟩;have y:∀(Y:J),LH F0 w Y [.g b] []->jx (bl s) i=qF->sh.cJ b 0 0 0 ⟨none,0,0⟩ Y λr Y=>r=D0 (jx (bl s) i)/\ah w Y:=λY z F=>z.ai λQ A=>⟨by rw[F];rfl,A.fr⟩;have d:jx (bl s) i=(let a:=g' (bl s) (i+1)
   let dash:=i+1+a.2
   if a.2=0\/(bl s).length<=dash\/gQ (bl s) dash≠45 then qF else
   let c:=g' (bl s) (dash+1)
   let fin:=dash+1+c.2
   if c.2=0\/(bl s).length<=fin\/gQ (bl s) fin≠93\/c.1.toNat<a.1.toNat then qF else⟨2,a.1,c.1,fin+1 - i⟩):=by
  conv=>lhs;unfold jx
  simp only;rw[af (by omega),af (by rw[j];simp)]
 simp only at d;generalize g' (bl s) (i+1)=a at I d;refine⟨_,_,rfl,?_⟩;have M:ao .i64 (((i+1:Nat):Int)+(a.2:Int))=((i+1+a.2:Nat):Int):=by rw[aS _ (by omega)];omega
 show sh.bq s (i:Int) b 0 0 0 ⟨none,0,0⟩ (a.1.toNat:Int) (a.2:Int) (ao .i64 (((i+1:Nat):Int)+(a.2:Int))) k _;rw[M];refine aL (λC=>bad k e (by rw[d,aj (.inl (by omega))])) (λC=>aG (λD=>bad k e (by rw[d,aj (.inr (.inl (by omega)))])) (λD=>⟨by omega,_,gk (i:=i+1+a.2) (by omega),wG (n:=45) (by omega) (λh=>bad k e (by rw[d,aj (.inr (.inr (beq_eq_false_iff_ne.1 h)))])) (λh=>?_)⟩));have h:gQ (bl s) (i+1+a.2)=45:=eq_of_beq h;rw[af (by rw[h];simp;omega)]at d;rw[bd _ (by omega)];refine e.ay (AU s (i+1+a.2+1) (by omega) k) ?_;rintro _ x rfl q;have K:=AH (bl s) (i+1+a.2+1);generalize g' (bl s) (i+1+a.2+1)=c at K d;refine⟨_,_,rfl,?_⟩;have O:ao .i64 (((i+1+a.2+1:Nat):Int)+(c.2:Int))=((i+1+a.2+1+c.2:Nat):Int):=by rw[aS _ (by omega)];omega
 show sh.bU s (i:Int) b 0 0 0 ⟨none,0,0⟩ (a.1.toNat:Int) (c.1.toNat:Int) (c.2:Int) (ao .i64 (((i+1+a.2+1:Nat):Int)+(c.2:Int))) x _;rw[O];refine aL (λC=>y x q (by rw[d,aj (.inl (by omega))])) (λC=>aG (λD=>y x q (by rw[d,aj (.inr (.inl (by omega)))])) (λD=>⟨by omega,_,gk (i:=i+1+a.2+1+c.2) (by omega),wG (n:=93) (by omega) (λh=>y x q (by rw[d,aj (.inr (.inr (.inl (beq_eq_false_iff_ne.1 h))))])) (λE=>aG (λL=>y x q (by rw[d,aj (.inr (.inr (.inr (by omega))))])) (λL=>q.ai λZ H=>⟨?_,H.fr⟩))⟩));have E:gQ (bl s) (i+1+a.2+1+c.2)=93:=eq_of_beq E;rw[d,af (by rw[E];simp;omega)];have N:ao .i64 ((ao .i64 (((i+1+a.2+1+c.2:Nat):Int)+1)) - (i:Int))=((i+1+a.2+1+c.2+1 - i:Nat):Int):=by rw[bd _ (by omega),aS _ (by omega)];omega
 rw[N];rfl
def dA.c(t:dA):List ab:=[.string (ba t.tx),.i (t.at_:Int),.i (t.k:Int),.int .u8 (t.lo.toNat:Int),.int .u8 (t.U.toNat:Int),.slice none 0 0]
def Qm(t:dA):t.c.length=6:=rfl
def Qn(l:List dA)(t:dA):l.flatMap dA.c++t.c=(l++[t]).flatMap dA.c:=by simp
def wz{w:J}{s:Sl}{l:List dA}(h:bx 6 w s (l.flatMap dA.c)):s.n=l.length:=by have:=h.1;rw[oO dA.c 6 Qm]at this;omega
def Hf:gU aa zs oj (.agg #[.s0,.i 0,.i 0,.int .u8 0,.int .u8 0,.slice none 0 0]) 6 64:=⟨by kernel_rfl,by kernel_rfl,rfl,by decide,by decide⟩
def Fw(w:J)(l:List dA)(r:cr)(Y:J):Prop:=∃d:Sl,r=ag d.v/\aK Y oj 6 d (l.flatMap dA.c)/\∀e∈aw d,w.heap.size<=e
def Sd(s:ByteArray)(i j:Nat):s.extract i j=ba (((bl s).take j).drop i):=by
 have:bl (s.extract i j)=((bl s).take j).drop i:=by unfold bl;rw[ByteArray.data_extract,Array.toList_extract,List.extract_eq_take_drop];rw[List.drop_take]
 rw[<-this,lX]
def Jp(c:UInt8){A B:Prop}(e:ez c=true->A)(d:ez c=false->B):bn (aq (((c.toNat:Nat):Int)>=97)) (bn (aq (((c.toNat:Nat):Int)<=122)) A B) B:=
 aG (λh=>aG (λj=>e (by unfold ez;rw[aP (show 97<=c.toNat by omega),aP (show c.toNat<=122 by omega)];rfl)) (λj=>d (by unfold ez;rw[aV (show ¬c.toNat<=122 by omega)];simp))) (λh=>d (by unfold ez;rw[aV (show ¬97<=c.toNat by omega)];simp))
def ON(s:BL)(i:Nat):∀(f n:Nat),i+n<=s.length->n<=nc s i f n/\i+nc s i f n<=s.length
 |0,n,d=>⟨bg _,d⟩
 |f+1,n,d=>by
  unfold nc;split
  .rename_i e;simp only[bf,decide_eq_true_eq]at e;have:=ON s i f (n+1) (by omega);exact⟨by omega,this.2⟩
  .exact ⟨bg _,d⟩
def SY(s:ByteArray)(hs:s.size<=100000)(w:J):ak aa J6 #[.string s] w λr H=>Fw w (mm (bl s)) r H/\ah w H:=by
 have hl:(bl s).length=s.size:=dP s
 let q:aH:=λr H=>Fw w (mm (bl s)) r H/\ah w H
 have fin:∀(acc:List dA) (sl:Sl) (j:J),acc.length<=s.size->mm (bl s)=acc++[⟨[],(bl s).length,0,0,0⟩]->LH F0 w j [.row oj 6 sl (acc.flatMap dA.c)] []->
   cZ j (.cells #[.s0,.i ((s.size:Nat):Int),.i 0,.int .u8 0,.int .u8 0,.slice none 0 0] oj) λw7=>
 ∃(t81:Sl) (V:J),kQ aa (dW #[zs,zs] zs #[sl.v,.slice (some (nb j)) 1 1]) w7=.ok (t81.v) V/\q (ag (t81.v)) V:=by intro acc sl j ha h B;have ad:=wz (B.get 0:aK _ _ _ _ _).bc;refine B.uu 0 Hf rfl (λP w2 D _ _=>⟨⟨P,rfl,?_,λae hx=>(D.new _ (aE (i:=0) rfl) ae hx).resolve_right id⟩,D.fr⟩) (by omega);rw[h,<-Qn];exact D.get 0
 have loop:∀(f i:Nat) (acc:List dA) (sl:Sl) (j:J),s.size<f+i->i<=s.size->acc.length<=i->mm (bl s)=acc++og (bl s) f i->LH F0 w j [.row oj 6 sl (acc.flatMap dA.c)] []->jl.a2 s sl (i:Int) j q:=by
  intro f;induction f with
  |zero=>intro i acc sl j hf hi;omega
  |succ f Q=>
   intro i acc sl j hf hi al h B;refine jl.bB _ _ _ _ _ (aG (λab=>⟨by omega,_,gk (i:=i) (by omega),?_⟩) (λab=>fin acc sl j (by omega) (by rw[h];unfold og;rw[aj (by omega)]) B))
   unfold og at h;rw[af (by omega)]at h;refine wH (n:=32) (by omega) (λz=>?_) (λz=>?_)
   .have z:gQ (bl s) i=32:=eq_of_beq z;rw[aj z]at h;rw[bd _ (by omega)];exact Q (i+1) acc sl j (by omega) (by omega) (by omega) h B
   have z:gQ (bl s) i≠32:=beq_eq_false_iff_ne.1 z;rw[af z]at h;simp only at h;refine B.call (TB s hs i (by omega) j) ?_;rintro _ w2 rfl D;have C:=NN (bl s) i;generalize jx (bl s) i=g at h C;refine⟨_,_,_,⟨none,0,0⟩,_,rfl,D.aJ λb w3 I=>?_⟩;have I:LH F0 w w3 [.row oj 6 sl (acc.flatMap dA.c),.g b] []:=I;have one:∀(n:Nat) (A:J),1<=n->i+n<=s.size->mm (bl s)=acc++⟨((bl s).take (i+n)).drop i,i,g.k,g.lo,g.U⟩::og (bl s) f (i+n)->LH F0 w A [.row oj 6 sl (acc.flatMap dA.c),.g b] []->
     jl.bU s sl (i:Int) b (g.k:Int) (g.lo.toNat:Int) (g.U.toNat:Int) ⟨none,0,0⟩ (n:Int) A q:=by
    intro n A L K N E;show(0:Int)<=_/\_;have F:ao .i64 ((i:Int)+(n:Int))=((i+n:Nat):Int):=by rw[aS _ (by omega)];omega
    rw[F,bF,bF,Sd];refine⟨by omega,by omega,by omega,by omega,E.ai λd x=>?_⟩;have ad:=wz (x.get 0:aK _ _ _ _ _).bc;refine x.iA 0 Hf rfl (λP w6 W=>?_) (by omega);refine Q (i+n) (acc++[⟨((bl s).take (i+n)).drop i,i,g.k,g.lo,g.U⟩]) P w6 (by omega) (by omega) (by simp;omega) (by rw[N];simp) ?_;rw[<-Qn];exact W.take 1
   refine aL (λM=>I.ai λA E=>?_) (λM=>I.ai λA E=>one g.n A (by omega) (by omega) (by rw[h,af (by omega)]) E);have M:g.n=0:=by omega
   rw[aj M]at h;have word:∀(e n:Nat) (d:J),s.size<=e+(i+n)->1<=n->i+n<=s.size->nc (bl s) i (bl s).length 1=nc (bl s) i e n->LH F0 w d [.row oj 6 sl (acc.flatMap dA.c),.g b] []->
     jl.ct s sl (i:Int) b (g.k:Int) (g.lo.toNat:Int) (g.U.toNat:Int) ⟨none,0,0⟩ (n:Int) d q:=by
    intro e;induction e with
    |zero=>
     intro n d N L K C x;have stop:jl.bU s sl (i:Int) b (g.k:Int) (g.lo.toNat:Int) (g.U.toNat:Int) ⟨none,0,0⟩ (n:Int) d q:=one n d L K (by rw[h,C];rfl) x;have F:ao .i64 ((i:Int)+(n:Int))=((i+n:Nat):Int):=by rw[aS _ (by omega)];omega
     refine jl.dX _ _ _ _ _ _ _ _ _ _ _ ?_;rw[F];refine⟨by omega,_,gk (i:=i) (by omega),bD (λ_=>⟨by omega,_,gk (i:=i) (by omega),bD (λ_=>a1 (aV (by omega)) stop) (λ_=>stop)⟩) (λ_=>stop)⟩
    |succ e ac=>
     intro n d N L K C x;have F:ao .i64 ((i:Int)+(n:Int))=((i+n:Nat):Int):=by rw[aS _ (by omega)];omega
     have stop:(ez (gQ (bl s) i)&&aq (i+n<(bl s).length)&&ez (gQ (bl s) (i+n)))=false->jl.bU s sl (i:Int) b (g.k:Int) (g.lo.toNat:Int) (g.U.toNat:Int) ⟨none,0,0⟩ (n:Int) d q:=λy=>one n d L K (by
      rw[h,C];conv=>lhs;unfold nc
      rw[y];rfl) x
     refine jl.dX _ _ _ _ _ _ _ _ _ _ _ ?_;rw[F];refine⟨by omega,_,gk (i:=i) (by omega),?_⟩;have go:ez (gQ (bl s) i)=true->bn (aq (((i+n:Nat):Int)<((s.size:Nat):Int))) ((0:Int)<=((i+n:Nat):Int)/\∃S:UInt8,s[aZ ((i+n:Nat):Int)]? =some S/\bn (aq (((S.toNat:Nat):Int)>=97)) ((0:Int)<=((i+n:Nat):Int)/\∃T:UInt8,s[aZ ((i+n:Nat):Int)]? =some T/\bn (aq (((T.toNat:Nat):Int)<=122)) (jl.ct s sl (i:Int) b (g.k:Int) (g.lo.toNat:Int) (g.U.toNat:Int) ⟨none,0,0⟩ (ao .i64 ((n:Int)+1)) d q) (jl.bU s sl (i:Int) b (g.k:Int) (g.lo.toNat:Int) (g.U.toNat:Int) ⟨none,0,0⟩ (n:Int) d q)) (jl.bU s sl (i:Int) b (g.k:Int) (g.lo.toNat:Int) (g.U.toNat:Int) ⟨none,0,0⟩ (n:Int) d q)) (jl.bU s sl (i:Int) b (g.k:Int) (g.lo.toNat:Int) (g.U.toNat:Int) ⟨none,0,0⟩ (n:Int) d q):=by
      intro Y;refine aG (λZ=>⟨by omega,_,gk (i:=i+n) (by omega),?_⟩) (λZ=>stop (by rw[aV (show ¬i+n<(bl s).length by omega)];simp));have key:ez (gQ (bl s) (i+n))=true->jl.ct s sl (i:Int) b (g.k:Int) (g.lo.toNat:Int) (g.U.toNat:Int) ⟨none,0,0⟩ (ao .i64 ((n:Int)+1)) d q:=λG=>by
       rw[bd _ (by omega)];refine ac (n+1) d (by omega) (by omega) (by omega) ?_ x;rw[C];conv=>lhs;unfold nc
       rw[Y,G,aP (show i+n<(bl s).length by omega)];rfl
      have O:ez (gQ (bl s) (i+n))=false->_:=λG=>stop (by rw[G];simp);have y:=Jp (gQ (bl s) (i+n)) key O;exact OY y (λy=>⟨by omega,_,gk (i:=i+n) (by omega),y⟩) id
     have O:ez (gQ (bl s) i)=false->_:=λG=>stop (by rw[G];simp);exact OY (Jp (gQ (bl s) i) go O) (λy=>⟨by omega,_,gk (i:=i) (by omega),y⟩) id
   exact word (bl s).length 1 A (by omega) (by omega) (by omega) rfl E
 refine jl.aD _ w _ ?_;exact loop (s.size+1) 0 [] ⟨none,0,0⟩ w (by omega) (by omega) (by simp) (by unfold mm;rw[hl];rfl) ((bP [] (by simp)).h7 oj 6)
abbrev NO(s:Sl)(st:bH):List ab:=[s.v,.i (st.1:Int),.bool st.2]
abbrev cT(d:Nat)(s:Sl)(st:bH):En:=.c d (NO s st) Qt
abbrev cW(s:Sl)(l:List dA):En:=.bc 6 s (l.flatMap dA.c)
abbrev SA(e:Nat)(s:Sl)(w:J)(A:aH)(st:bH):aH:=λr d=>(A r d/\d.heap[e]? =some (.cells (NO s st).toArray Qt (0,0)))/\Fr (·=e) w d
abbrev iw(d:Nat)(s:Sl)(l:List dA)(st:bH)(w:J):Prop:=LH (·=d) w w [cT d s st] [cW s l]
def _root_.Go.W.LH.fR{M:Nat->Prop}{w0 w:J}{L D:List En}{h:Nat}{s:Sl}{l:List dA}{st:bH}(H:LH M w0 w (cT h s st::L) (cW s l::D)):iw h s l st w:=
 LH.tz _ _ (by
  intro k d;simp only[av,aR,aT]at d;subst d;exact⟨H.get 0,λb e=>qa.1 e⟩) (by
  simp only[List.flatMap_cons,List.flatMap_nil,List.append_nil];exact(cT h s st).nd) (by
  intro k d;simp only[av,aR,aT]at d;subst d;exact⟨H.getD 0,λb e q j=>by simp only[av,aR,aT]at j;subst j;exact H.dj _ j5 b e _ j5⟩)
structure FA(w:J)(p:Addr)(i:Nat)(t:dA):Prop where
 c0:w.cell? ((p.add (i *6)).add 0)=some (.string (ba t.tx))
 c1:w.cell? ((p.add (i *6)).add 1)=some (.i (t.at_:Int))
 c2:w.cell? ((p.add (i *6)).add 2)=some (.i (t.k:Int))
 c3:w.cell? ((p.add (i *6)).add 3)=some (.int .u8 (t.lo.toNat:Int))
 c4:w.cell? ((p.add (i *6)).add 4)=some (.int .u8 (t.U.toNat:Int))
 c5:w.cell? ((p.add (i *6)).add 5)=some (.slice none 0 0)
def wA{w:J}{s:Sl}{l:List dA}(h:bx 6 w s (l.flatMap dA.c)){i:Nat}(U:i<l.length){K:Addr->Prop}(j:∀p,s.a=some p->FA w p i (ft l i)->K p):dM s.a K:=by
 have e:l[i]? =some (ft l i):=by unfold ft;rw[List.getD_eq_getElem?_getD,a6 U];rfl
 exact eV.elem (f:=dA.c) (sz:=6) Qm (by omega) h.2.2 e λp k d=>j p k ⟨d 0 _ rfl,d 1 _ rfl,d 2 _ rfl,d 3 _ rfl,d 4 _ rfl,d 5 _ rfl⟩
def iQ(l:List dA):Prop:=0<l.length/\(ft l (l.length - 1)).tx=[]/\(ft l (l.length - 1)).k=0
section
variable {pb:Nat} {s:Sl} {l:List dA} {st:bH} {w:J}
def AW(H:iw pb s l st w)(U:st.1<l.length):ak aa Kk #[.pointer (some (ae pb))] w λr q=>r=ag (.string (ba (e1 l st)))/\ah w q:=by
 have k:st.2=true->e1 l st=[32]:=λe=>by unfold e1;rw[e];rfl
 have j:st.2=false->e1 l st=(ft l st.1).tx:=λe=>by unfold e1;rw[e];rfl
 generalize e1 l st=u at k j;refine HE.ok _ w _ ⟨st.2,H.ld 0 2,bD (λh=>⟨?_,Fr.refl _ _⟩) (λh=>?_)⟩
 .rw [k h];rfl
 rw[j h];have d:LH (·=pb) w w.drew [cT pb s st] [cW s l]:=H.drew;have x:=wz (d.getD 0:bx _ _ _ _);refine⟨s,d.ld 0 0,_,d.ld 0 1,by omega,by omega,wA (d.getD 0) U λp y c=>⟨ba (ft l st.1).tx,?_,rfl,Fr.drew _ _⟩⟩;rw[bF];exact c.c0
def rR(a b:BL):((ba a).toList==(ba b).toList)=(a==b):=by rw[ByteArray.toList_eq,ByteArray.toList_eq];rfl
def I7(j:iQ l)(U:st.1<l.length)(k:e1 l st≠[])(h:st.2=false):st.1+1<l.length:=by
 rcases Nat.lt_or_ge (st.1+1) l.length with d|d
 .exact d
 .exfalso;apply k;have e:st.1=l.length - 1:=by omega
  unfold e1;rw[h,e];exact j.2.1
def q1(k:iQ l)(U:st.1<l.length)(u:BL)(q:u≠[32]):(eJ l u st).2.1<l.length:=by
 unfold eJ;cases d:e1 l st==u with
 |false=>exact U
 |true=>
  have d:=eq_of_beq d;cases j:u.isEmpty with
  |true=>exact U
  |false=>
   show st.1+1<l.length;refine I7 k U (λe=>?_) ?_
   .rw [e]at d;subst d;cases j
   .cases h:st.2 with
    |false=>rfl
    |true=>
     exfalso;apply q;rw[<-d];unfold e1;rw[h];rfl
def qc(H:iw pb s l st w)(U:st.1<l.length)(q:l.length<=1000000)(u:BL):ak aa Kl #[.pointer (some (ae pb)),.string (ba u)] w (SA pb s w (λr _=>r=ag (.bool (eJ l u st).1)) (eJ l u st).2):=by
 refine HF.ok _ _ w _ (H.call (AW H U) ?_);rintro _ x rfl e;refine⟨_,rfl,?_⟩;try dsimp only
 rw[rR];have k:((ba u).toList==(bJ #[]).toList)=u.isEmpty:=by have:bJ #[]=ba []:=rfl;rw[this,rR];cases u<;>rfl
 rw[k];refine dN (λd=>⟨⟨?_,?_⟩,e.fr⟩) (λd=>dN (λh=>⟨_,e.ld 0 1,?_⟩) (λh=>⟨⟨?_,?_⟩,e.fr⟩))
 .unfold eJ;rw[d];rfl
 .have:(eJ l u st).2=st:=by unfold eJ;rw[d];rfl
  rw[this];exact e.get 0
 .rw [bd _ (by omega)];refine e.st 0 1 rfl λy j=>⟨⟨?_,?_⟩,j.fr⟩
  .unfold eJ;rw[d];rfl
  .have:(eJ l u st).2=(st.1+1,st.2):=by unfold eJ;rw[d,h];rfl
   rw[this];exact j.get 0
 .unfold eJ;rw[d];rfl
 .have:(eJ l u st).2=st:=by unfold eJ;rw[d,h];rfl
  rw[this];exact e.get 0
def MK(u:BL):j1 l u st=bif (eJ l u st).1 then(eJ l u st).2 else((eJ l u st).2.1,true):=by unfold j1;generalize eJ l u st=x;obtain⟨b,d⟩:=x;cases b<;>rfl
def vG(d:iQ l)(U:st.1<l.length)(u:BL)(e:u≠[32]):(j1 l u st).1<l.length:=by rw[MK];have:=q1 d U u e;cases(eJ l u st).1<;>exact this
def uD(H:iw pb s l st w)(U:st.1<l.length)(j:l.length<=1000000)(u:BL):ak aa Kj #[.pointer (some (ae pb)),.string (ba u)] w (SA pb s w (λr _=>r=ag (.tuple #[])) (j1 l u st)):=by
 refine HD.ok _ _ w _ (H.qe (qc H U j u) ?_);rintro _ k rfl d _;rw[MK];refine⟨_,rfl,dN (λe=>d.st 0 2 rfl λq h=>⟨⟨rfl,?_⟩,h.fr⟩) (λe=>⟨⟨rfl,?_⟩,d.fr⟩)⟩
 .rw [e];exact h.get 0
 .rw [e];exact d.get 0
def S'(H:iw pb s l st w)(U:st.1<l.length):ak aa Ki #[.pointer (some (ae pb))] w λr z=>r=ag (.bool (xg l st))/\ah w z:=by refine HC.ok _ w _ ((AW H U).mono ?_);rintro _ A ⟨rfl,e⟩;have h:=H.bw e;refine⟨_,rfl,st.2,h.ld 0 2,?_⟩;have d:∀u:List UInt8,((ba (e1 l st)).toList==(ba u).toList)=(e1 l st==u):=λu=>rR _ _;have j:=d [];have k:=d [41];have q:=d [44];have x:=d [124];have y:=d [38];unfold xg;show bn _ (bn (!((ba (e1 l st)).toList==(ba []).toList)) (bn (!((ba (e1 l st)).toList==(ba [41]).toList)) (bn (!((ba (e1 l st)).toList==(ba [44]).toList)) (bn (!((ba (e1 l st)).toList==(ba [124]).toList)) (Ending.returned (.bool (!((ba (e1 l st)).toList==(ba [38]).toList)))=_/\ah w A) _) _) _) _) _;rw[j,k,q,x,y];cases st.2<;>cases e1 l st==[]<;>cases e1 l st==[41]<;>cases e1 l st==[44]<;>cases e1 l st==[124]<;>first |exact⟨rfl,e⟩|skip
end
def AP(k:Int)(s:Sl)(l:List I)(w:J)(h:(bI s l).P w):ak aa vz #[.i k,s.v] w λr y=>fY (bI s l).fp w (qt k (I.au l)) r y/\ah w y:=by
 have d:=I.cm (dw.1 h).1;refine Hz.aD _ _ w _ ((gE h).aJ λb A j=>aL (λz=>?_) (λz=>j.ai λx e=>⟨⟨.mk k 0 0 s l,rfl,?_,?_,λb q=>.inr q⟩,e.fr⟩))
 .match l,d with
  |[],d=>simp at d;omega
  |a::b::m,d=>simp at d;omega
  |[a],d=>
   refine⟨by omega,by omega,I.de (dw.1 (show(bI s [a]).P A from j.getD 0)).1 (i:=0) rfl λp B c=>⟨_,_,_,_,c.c0,c.c1,c.c2,c.c3,j.ai λx e=>⟨⟨a,rfl,rfl,?_,λb q=>.inr ?_⟩,e.fr⟩⟩⟩
   .exact (dw.1 (show(bI s [a]).P x from e.getD 0)).2.mem (by simp)
   .exact lk.2 (.inr (I.bM.2 ⟨a,by simp,q⟩))
 .show Rx.mk k 0 0 (I.au l)=_
  match l,d with
  |[],d=>rfl
  |[a],d=>simp at d;omega
  |a::b::m,d=>rfl
 .have:=dw.1 (show(bI s l).P x from e.getD 0);unfold I.P;exact this
structure lV(s:Sl)(l:List dA)(n:Nat):Prop where
 expr:∀(pb:Nat) (st:bH) (w:J) (x:Rx) (fV:bH),ku l n st=some (x,fV)->st.1<l.length->iw pb s l st w->ak aa Cv #[.pointer (some (ae pb))] w (SA pb s w (λr Y=>fK w x r Y/\fV.1<l.length) fV)
 G1:∀(pb:Nat) (st:bH) (w:J) (x:Rx) (fV:bH),nG l n st=some (x,fV)->st.1<l.length->iw pb s l st w->ak aa yf #[.pointer (some (ae pb))] w (SA pb s w (λr Y=>fK w x r Y/\fV.1<l.length) fV)
 seq:∀(pb:Nat) (st:bH) (w:J) (x:Rx) (fV:bH),n7 l n st=some (x,fV)->st.1<l.length->iw pb s l st w->ak aa yh #[.pointer (some (ae pb))] w (SA pb s w (λr Y=>fK w x r Y/\fV.1<l.length) fV)
 item:∀(pb:Nat) (st:bH) (w:J) (x:Rx) (fV:bH),l5 l n st=some (x,fV)->st.1<l.length->iw pb s l st w->ak aa yg #[.pointer (some (ae pb))] w (SA pb s w (λr Y=>fK w x r Y/\fV.1<l.length) fV)
 atom:∀(pb:Nat) (st:bH) (w:J) (x:Rx) (fV:bH),p0 l n st=some (x,fV)->st.1<l.length->iw pb s l st w->ak aa Cu #[.pointer (some (ae pb))] w (SA pb s w (λr Y=>fK w x r Y/\fV.1<l.length) fV)
 kids:∀(pb:Nat) (st:bH) (w:J) (m:List Rx) (fV:bH),qv l n st=some (m,fV)->st.1<l.length->iw pb s l st w->ak aa Cw #[.pointer (some (ae pb))] w (SA pb s w (λr Y=>(∃(sl:Sl) (a:List I),r=ag sl.v/\I.au a=m/\(bI sl a).P Y/\∀b∈(bI sl a).fp,w.heap.size<=b)/\fV.1<l.length) fV)
def yG{M:Nat->Prop}{w0 w:J}{L D:List En}{d:Nat}{s:Sl}{st:bH}(H:LH M w0 w (cT d s st::L) D)(i:Nat){e:En}(U:L[i]? =some e){b:Nat}(k:b∈e.fp):b≠d:=λh=>
 mL H.nd (i:=i+1) (by simpa using U) (j:=0) rfl (by omega) b k (qa.2 h)
def _root_.Go.W.LH.uM{M:Nat->Prop}{w0 w:J}{L D:List En}(H:LH M w0 w L D)(j:Nat){t:I}(h:D[j]? =some (.tree t):=by rfl):LH M w0 w L (D++[.trees [t]]):=by
 refine H.gx _ (Fr.refl _ _) (I.ib λq d=>?_) λb k=>.inr (.inr ?_)
 .simp at d;subst d;exact H.getD j h
 .obtain ⟨q,d,e⟩:=I.bM.1 (aO.1 k);simp at d;rw[d]at e;exact⟨_,aE h,aO.2 e⟩
section
variable {s:Sl} {l:List dA} {n:Nat}
def H0(U:iQ l)(T:l.length<=1000000)(V:∀m,m<=n->lV s l m)(d:Nat)(w:J)(x:Rx)(y:bH):∀(f:Nat),f<=n->∀(acc:List I) (sl:Sl) (h:Nat) (H:J) (st:bH),rL l f (I.au acc) st=some (x,y)->st.1<l.length->acc.length+f<=1000000->(∀b∈I.a9 acc,w.heap.size<=b)->
  LH (·=d) w H [cT d s st,.g h,.row aN 4 sl (acc.flatMap I.c)] [cW s l,.trees acc]->
  u1.a2 (ae d) h 0 0 0 ⟨none,0,0⟩ sl H (SA d s w (λr E=>fK w x r E/\y.1<l.length) y)
 |0,_=>λacc sl h H st z=>by unfold rL at z;cases z
 |f+1,hf=>λacc sl h H st z S ar Q K=>by
  have av:=I.cm (K.get 2:aK _ _ _ _ _).bc;unfold rL at z;have fin:∀(k:J) (j:bH),j.1<l.length->some (qt 4 (I.au acc),j)=some (x,y)->LH (·=d) w k [cT d s j,.g h,.row aN 4 sl (acc.flatMap I.c)] [cW s l,.trees acc]->
    rX [h] vz #[.i 4,sl.v] k λal am an ao w8=>loc [h] w8 λap=>SA d s w (λr E=>fK w x r E/\y.1<l.length) y (ag (.agg #[.i al,.int .u8 am,.int .u8 an,ao.v])) ap:=by
   intro k j N A q;simp only[eH,eu]at A;obtain⟨rfl,rfl⟩:=A;have ac:∀b∈(bI sl acc).fp,w.heap.size<=b:=λb e=>by
    rcases lk.1 e with e|e
    .exact (q.new _ (aE (i:=2) rfl) b (gi e)).resolve_right (yG q 1 rfl (gi e))
    .exact Q b e
   have L:LH (·=d) w k [cT d s j,.g h] [cW s l,.trees acc,I.row sl acc,.tree (bI sl acc)]:=q.qS 2 1 0 0 0;refine L.qf (AP 4 sl acc k (L.getD 3)) (λb e=>⟨_,aE (i:=3) rfl,aO.2 e⟩) λt Y D B ft=>?_;refine⟨_,_,_,t.s,rfl,B.ai λw4 C=>⟨⟨⟨⟨t,rfl,D,C.getD 4,λb e=>?_⟩,N⟩,C.get 0⟩,C.fr⟩⟩;rcases ft b e with e|e
   .exact a8 L.fr.size e
   .exact ac b e
  have more:∀(k:J) (j:bH),j.1<l.length->(match nG l f j with
   |some (a,st)=>rL l f (I.au acc++[a]) st
   |none=>none)=some (x,y)->LH (·=d) w k [cT d s j,.g h,.row aN 4 sl (acc.flatMap I.c)] [cW s l,.trees acc]->
    rX [h] yf #[.pointer (some (ae d))] k λaf ah aj ak F=>cZ F (.cells #[.i af,.int .u8 ah,.int .u8 aj,ak.v] aN) λZ=>
     ∃(t13:Sl) (O:J),kQ aa (dW #[dk,dk] dk #[sl.v,.slice (some (nb F)) 1 1]) Z=.ok (t13.v) O/\kept [h] Z O/\u1.a2 (ae d) h 0 0 0 ⟨none,0,0⟩ t13 O (SA d s w (λr E=>fK w x r E/\y.1<l.length) y):=by
   intro k j N A q;cases M:nG l f j with
   |none=>rw[M]at A;cases A
   |some aq=>
    obtain⟨a,G⟩:=aq;rw[M]at A;refine q.hY ((V f (by omega)).G1 d j k a G M N q.fR) ?_;rintro _ Y ⟨⟨u,rfl,hu,pu,P⟩,ab⟩ _ F3;have B:=F3 (.tree u) pu λb e=>P b (aO.1 e);have B:LH (·=d) w Y [cT d s G,.g h,.row aN 4 sl (acc.flatMap I.c)] [cW s l,.trees acc,.tree u]:=B;refine⟨_,_,_,u.s,rfl,B.iA 2 kr (xs:=acc.flatMap I.c) rfl (λW F C=>?_) (by omega)⟩;have H6:LH (·=d) w F [cT d s G,.g h,.row aN 4 W ((acc++[u]).flatMap I.c)] [cW s l,.trees (acc++[u])]:=by rw[k2];exact(C.qX 1 2).forget _ (by simp)
    refine H0 U T V d w x y f (by omega) (acc++[u]) W h F G ?_ ab (by simp;omega) (sv Q λb e=>a8 q.fr.size (P b e)) H6;rw[jz];have:I.au [u]=[a]:=by simp[I.au,hu]
    rw[this];exact A
  refine u1.bB _ _ _ _ _ _ _ _ _ (K.hY (qc K.fR S T [124]) ?_);have D:=q1 U S [124] (by decide);rintro _ k rfl q _;refine⟨_,rfl,?_⟩;cases hq:eJ l [124] st with
  |mk ad j=>
   rw[hq]at z q D;cases ad with
   |true=>exact more k j D z q
   |false=>exact fin k j D z q
def UH(Q:iQ l)(P:l.length<=1000000)(Y:n<=100000)(D:∀m,m<=n->lV s l m)(d:Nat)(st:bH)(w:J)(x:Rx)(q:bH)(j:ku l (n+1) st=some (x,q))(U:st.1<l.length)(H:iw d s l st w):
  ak aa Cv #[.pointer (some (ae d))] w (SA d s w (λr V=>fK w x r V/\q.1<l.length) q):=by
 unfold ku at j;cases A:nG l n st with
 |none=>rw[A]at j;cases j
 |some W=>
  obtain⟨a,y⟩:=W;rw[A]at j;refine u1.aD _ w _ (H.aJ λk E h=>?_);have h:LH (·=d) w E [cT d s st,.g k] [cW s l]:=h;refine h.hY ((D n (bg _)).G1 d st E a y A U h.fR) ?_;rintro _ F ⟨⟨u,rfl,S,T,B⟩,O⟩ _ K;have z:=K (.tree u) T λb e=>B b (aO.1 e);have z:LH (·=d) w F [cT d s y,.g k] [cW s l,.tree u]:=z;refine⟨_,_,_,u.s,rfl,z.cR (n:=1) (sz:=4) (cs:=u.c) rfl (by decide) λG L=>?_⟩;have M:LH (·=d) w G [cT d s y,.g k,.row aN 4 ⟨some (ae F.heap.size),1,1⟩ ([u].flatMap I.c)] [cW s l,.trees [u]]:=by
   have N:[u].flatMap I.c=u.c:=by simp
   rw[N];exact(L.uM 1).forget _ (by simp)
  refine H0 Q P D d w x q n (bg _) [u] _ k G y ?_ O (by simp;omega) (λb e=>?_) M
  .have:I.au [u]=[a]:=by simp[I.au,S]
   rw[this];exact j
  .obtain ⟨t,C,e⟩:=I.bM.1 e;simp at C;rw[C]at e;exact a8 h.fr.size (B b e)
def G3(U:iQ l)(T:l.length<=1000000)(V:∀m,m<=n->lV s l m)(d:Nat)(w:J)(x:Rx)(y:bH):∀(f:Nat),f<=n->∀(acc:List I) (sl:Sl) (h:Nat) (H:J) (st:bH),rO l f (I.au acc) st=some (x,y)->st.1<l.length->acc.length+f<=1000000->(∀b∈I.a9 acc,w.heap.size<=b)->
  LH (·=d) w H [cT d s st,.g h,.row aN 4 sl (acc.flatMap I.c)] [cW s l,.trees acc]->
  u0.a2 (ae d) h 0 0 0 ⟨none,0,0⟩ sl H (SA d s w (λr E=>fK w x r E/\y.1<l.length) y)
 |0,_=>λacc sl h H st z=>by unfold rO at z;cases z
 |f+1,hf=>λacc sl h H st z S ar Q K=>by
  have av:=I.cm (K.get 2:aK _ _ _ _ _).bc;unfold rO at z;have fin:∀(k:J) (j:bH),j.1<l.length->some (qt 5 (I.au acc),j)=some (x,y)->LH (·=d) w k [cT d s j,.g h,.row aN 4 sl (acc.flatMap I.c)] [cW s l,.trees acc]->
    rX [h] vz #[.i 5,sl.v] k λal am an ao w8=>loc [h] w8 λap=>SA d s w (λr E=>fK w x r E/\y.1<l.length) y (ag (.agg #[.i al,.int .u8 am,.int .u8 an,ao.v])) ap:=by
   intro k j N A q;simp only[eH,eu]at A;obtain⟨rfl,rfl⟩:=A;have ac:∀b∈(bI sl acc).fp,w.heap.size<=b:=λb e=>by
    rcases lk.1 e with e|e
    .exact (q.new _ (aE (i:=2) rfl) b (gi e)).resolve_right (yG q 1 rfl (gi e))
    .exact Q b e
   have L:LH (·=d) w k [cT d s j,.g h] [cW s l,.trees acc,I.row sl acc,.tree (bI sl acc)]:=q.qS 2 1 0 0 0;refine L.qf (AP 5 sl acc k (L.getD 3)) (λb e=>⟨_,aE (i:=3) rfl,aO.2 e⟩) λt Y D B ft=>?_;refine⟨_,_,_,t.s,rfl,B.ai λw4 C=>⟨⟨⟨⟨t,rfl,D,C.getD 4,λb e=>?_⟩,N⟩,C.get 0⟩,C.fr⟩⟩;rcases ft b e with e|e
   .exact a8 L.fr.size e
   .exact ac b e
  have more:∀(k:J) (j:bH),j.1<l.length->(match n7 l f j with
   |some (a,st)=>rO l f (I.au acc++[a]) st
   |none=>none)=some (x,y)->LH (·=d) w k [cT d s j,.g h,.row aN 4 sl (acc.flatMap I.c)] [cW s l,.trees acc]->
    rX [h] yh #[.pointer (some (ae d))] k λaf ah aj ak F=>cZ F (.cells #[.i af,.int .u8 ah,.int .u8 aj,ak.v] aN) λZ=>
     ∃(t13:Sl) (O:J),kQ aa (dW #[dk,dk] dk #[sl.v,.slice (some (nb F)) 1 1]) Z=.ok (t13.v) O/\kept [h] Z O/\u0.a2 (ae d) h 0 0 0 ⟨none,0,0⟩ t13 O (SA d s w (λr E=>fK w x r E/\y.1<l.length) y):=by
   intro k j N A q;cases M:n7 l f j with
   |none=>rw[M]at A;cases A
   |some aq=>
    obtain⟨a,G⟩:=aq;rw[M]at A;refine q.hY ((V f (by omega)).seq d j k a G M N q.fR) ?_;rintro _ Y ⟨⟨u,rfl,hu,pu,P⟩,ab⟩ _ F3;have B:=F3 (.tree u) pu λb e=>P b (aO.1 e);have B:LH (·=d) w Y [cT d s G,.g h,.row aN 4 sl (acc.flatMap I.c)] [cW s l,.trees acc,.tree u]:=B;refine⟨_,_,_,u.s,rfl,B.iA 2 kr (xs:=acc.flatMap I.c) rfl (λW F C=>?_) (by omega)⟩;have H6:LH (·=d) w F [cT d s G,.g h,.row aN 4 W ((acc++[u]).flatMap I.c)] [cW s l,.trees (acc++[u])]:=by rw[k2];exact(C.qX 1 2).forget _ (by simp)
    refine G3 U T V d w x y f (by omega) (acc++[u]) W h F G ?_ ab (by simp;omega) (sv Q λb e=>a8 q.fr.size (P b e)) H6;rw[jz];have:I.au [u]=[a]:=by simp[I.au,hu]
    rw[this];exact A
  refine u0.bB _ _ _ _ _ _ _ _ _ (K.hY (qc K.fR S T [38]) ?_);have D:=q1 U S [38] (by decide);rintro _ k rfl q _;refine⟨_,rfl,?_⟩;cases hq:eJ l [38] st with
  |mk ad j=>
   rw[hq]at z q D;cases ad with
   |true=>exact more k j D z q
   |false=>exact fin k j D z q
def Ud(Q:iQ l)(P:l.length<=1000000)(Y:n<=100000)(D:∀m,m<=n->lV s l m)(d:Nat)(st:bH)(w:J)(x:Rx)(q:bH)(j:nG l (n+1) st=some (x,q))(U:st.1<l.length)(H:iw d s l st w):
  ak aa yf #[.pointer (some (ae d))] w (SA d s w (λr V=>fK w x r V/\q.1<l.length) q):=by
 unfold nG at j;cases A:n7 l n st with
 |none=>rw[A]at j;cases j
 |some W=>
  obtain⟨a,y⟩:=W;rw[A]at j;refine u0.aD _ w _ (H.aJ λk E h=>?_);have h:LH (·=d) w E [cT d s st,.g k] [cW s l]:=h;refine h.hY ((D n (bg _)).seq d st E a y A U h.fR) ?_;rintro _ F ⟨⟨u,rfl,S,T,B⟩,O⟩ _ K;have z:=K (.tree u) T λb e=>B b (aO.1 e);have z:LH (·=d) w F [cT d s y,.g k] [cW s l,.tree u]:=z;refine⟨_,_,_,u.s,rfl,z.cR (n:=1) (sz:=4) (cs:=u.c) rfl (by decide) λG L=>?_⟩;have M:LH (·=d) w G [cT d s y,.g k,.row aN 4 ⟨some (ae F.heap.size),1,1⟩ ([u].flatMap I.c)] [cW s l,.trees [u]]:=by
   have N:[u].flatMap I.c=u.c:=by simp
   rw[N];exact(L.uM 1).forget _ (by simp)
  refine G3 Q P D d w x q n (bg _) [u] _ k G y ?_ O (by simp;omega) (λb e=>?_) M
  .have:I.au [u]=[a]:=by simp[I.au,S]
   rw[this];exact j
  .obtain ⟨t,C,e⟩:=I.bM.1 e;simp at C;rw[C]at e;exact a8 h.fr.size (B b e)
def O1(af:iQ l)(ac:l.length<=1000000)(T:∀m,m<=n->lV s l m)(d:Nat)(w:J)(x:Rx)(y:bH):∀(f:Nat),f<=n->∀(acc:List I) (sl:Sl) (h:Nat) (G:J) (st:bH),sE l f (I.au acc) st=some (x,y)->st.1<l.length->acc.length+f<=1000000->(∀b∈I.a9 acc,w.heap.size<=b)->
  LH (·=d) w G [cT d s st,.g h,.row aN 4 sl (acc.flatMap I.c)] [cW s l,.trees acc]->
  u3.a2 (ae d) h 0 0 0 ⟨none,0,0⟩ sl G (SA d s w (λr D=>fK w x r D/\y.1<l.length) y)
 |0,_=>λacc sl h G st z=>by unfold sE at z;cases z
 |f+1,hf=>λacc sl h G st z M av Q H=>by
  have aw:=I.cm (H.get 2:aK _ _ _ _ _).bc;unfold sE at z;have fin:∀(j:J) (k:bH),k.1<l.length->some (qt 3 (I.au acc),k)=some (x,y)->LH (·=d) w j [cT d s k,.g h,.row aN 4 sl (acc.flatMap I.c)] [cW s l,.trees acc]->
    rX [h] vz #[.i 3,sl.v] j λam an ao ap w8=>loc [h] w8 λaq=>SA d s w (λr D=>fK w x r D/\y.1<l.length) y (ag (.agg #[.i am,.int .u8 an,.int .u8 ao,ap.v])) aq:=by
   intro j k N A q;simp only[eH,eu]at A;obtain⟨rfl,rfl⟩:=A;have ad:∀b∈(bI sl acc).fp,w.heap.size<=b:=λb e=>by
    rcases lk.1 e with e|e
    .exact (q.new _ (aE (i:=2) rfl) b (gi e)).resolve_right (yG q 1 rfl (gi e))
    .exact Q b e
   have K:LH (·=d) w j [cT d s k,.g h] [cW s l,.trees acc,I.row sl acc,.tree (bI sl acc)]:=q.qS 2 1 0 0 0;refine K.qf (AP 3 sl acc j (K.getD 3)) (λb e=>⟨_,aE (i:=3) rfl,aO.2 e⟩) λt V ht B ft=>?_;refine⟨_,_,_,t.s,rfl,B.ai λw4 C=>⟨⟨⟨⟨t,rfl,ht,C.getD 4,λb e=>?_⟩,N⟩,C.get 0⟩,C.fr⟩⟩;rcases ft b e with e|e
   .exact a8 K.fr.size e
   .exact ad b e
  have more:∀(j:J) (k:bH),k.1<l.length->(match l5 l f k with
   |some (a,st)=>sE l f (I.au acc++[a]) st
   |none=>none)=some (x,y)->LH (·=d) w j [cT d s k,.g h,.row aN 4 sl (acc.flatMap I.c)] [cW s l,.trees acc]->
    rX [h] yg #[.pointer (some (ae d))] j λah aj ak al E=>cZ E (.cells #[.i ah,.int .u8 aj,.int .u8 ak,al.v] aN) λW=>
     ∃(t13:Sl) (O:J),kQ aa (dW #[dk,dk] dk #[sl.v,.slice (some (nb E)) 1 1]) W=.ok (t13.v) O/\kept [h] W O/\u3.a2 (ae d) h 0 0 0 ⟨none,0,0⟩ t13 O (SA d s w (λr D=>fK w x r D/\y.1<l.length) y):=by
   intro j k N A q;cases L:l5 l f k with
   |none=>rw[L]at A;cases A
   |some ar=>
    obtain⟨a,F⟩:=ar;rw[L]at A;refine q.hY ((T f (by omega)).item d k j a F L N q.fR) ?_;rintro _ V ⟨⟨u,rfl,hu,pu,P⟩,ab⟩ _ Y;have B:=Y (.tree u) pu λb e=>P b (aO.1 e);have B:LH (·=d) w V [cT d s F,.g h,.row aN 4 sl (acc.flatMap I.c)] [cW s l,.trees acc,.tree u]:=B;refine⟨_,_,_,u.s,rfl,B.iA 2 kr (xs:=acc.flatMap I.c) rfl (λU E C=>?_) (by omega)⟩;have Z:LH (·=d) w E [cT d s F,.g h,.row aN 4 U ((acc++[u]).flatMap I.c)] [cW s l,.trees (acc++[u])]:=by rw[k2];exact(C.qX 1 2).forget _ (by simp)
    refine O1 af ac T d w x y f (by omega) (acc++[u]) U h E F ?_ ab (by simp;omega) (sv Q λb e=>a8 q.fr.size (P b e)) Z;rw[jz];have:I.au [u]=[a]:=by simp[I.au,hu]
    rw[this];exact A
  refine u3.bB _ _ _ _ _ _ _ _ _ (H.ay (S' H.fR M) ?_);rintro _ j rfl q;refine⟨_,rfl,?_⟩;cases S:xg l st with
  |true=>rw[S]at z;exact more j st M z q
  |false=>rw[S]at z;exact fin j st M z q
def Y2(Q:iQ l)(P:l.length<=1000000)(Y:n<=100000)(D:∀m,m<=n->lV s l m)(d:Nat)(st:bH)(w:J)(x:Rx)(q:bH)(j:n7 l (n+1) st=some (x,q))(U:st.1<l.length)(H:iw d s l st w):
  ak aa yh #[.pointer (some (ae d))] w (SA d s w (λr V=>fK w x r V/\q.1<l.length) q):=by
 unfold n7 at j;cases A:l5 l n st with
 |none=>rw[A]at j;cases j
 |some W=>
  obtain⟨a,y⟩:=W;rw[A]at j;refine u3.aD _ w _ (H.aJ λk E h=>?_);have h:LH (·=d) w E [cT d s st,.g k] [cW s l]:=h;refine h.hY ((D n (bg _)).item d st E a y A U h.fR) ?_;rintro _ F ⟨⟨u,rfl,S,T,B⟩,O⟩ _ K;have z:=K (.tree u) T λb e=>B b (aO.1 e);have z:LH (·=d) w F [cT d s y,.g k] [cW s l,.tree u]:=z;refine⟨_,_,_,u.s,rfl,z.cR (n:=1) (sz:=4) (cs:=u.c) rfl (by decide) λG L=>?_⟩;have M:LH (·=d) w G [cT d s y,.g k,.row aN 4 ⟨some (ae F.heap.size),1,1⟩ ([u].flatMap I.c)] [cW s l,.trees [u]]:=by
   have N:[u].flatMap I.c=u.c:=by simp
   rw[N];exact(L.uM 1).forget _ (by simp)
  refine O1 Q P D d w x q n (bg _) [u] _ k G y ?_ O (by simp;omega) (λb e=>?_) M
  .have:I.au [u]=[a]:=by simp[I.au,S]
   rw[this];exact j
  .obtain ⟨t,C,e⟩:=I.bM.1 e;simp at C;rw[C]at e;exact a8 h.fr.size (B b e)
end
def _root_.Go.W.LH.PJ{M:Nat->Prop}{w0 w:J}{L D:List En}{V:List Nat}(H:LH M w0 w L D)(i j:Nat){b:Nat}{vs:List ab}{T:aC}{v:ab}{K:J->Prop}(U:L[i]? =some (.c b vs T))(x:∀k,LH M w0 k (L.set i (.c b (vs.set j v) T)) D->K k)(h:j<vs.length:=by simp)(br:∀b∈V,En.g b∈L:=by simp):aQ w ((ae b).add j) v λq=>kept V w q/\K q:=by obtain⟨z,A,B⟩:=H.set (v:=v) i j U h;obtain⟨_,_,_,C⟩:=tk (H.ob i U) j (by simpa using h) v;refine⟨z,A,λd e=>?_,x _ B⟩;refine C.cb d (H.own _ (br d e)) λy=>nN H U (xm w b vs T) (br d e) ?_;rw[y];exact qa.2 rfl
def _root_.Go.W.LH.one{M:Nat->Prop}{w0 w:J}{L D:List En}(H:LH M w0 w L D)(i j:Nat){e:aC}{sl:Sl}{u:I}(k:Int)(lo U:UInt8)(x:L[i]? =some (.row e 4 sl u.c):=by rfl)(y:D[j]? =some (.tree u):=by rfl):LH M w0 w (L.eraseIdx i) (D++[.tree (.mk k lo U sl [u])]):=by
 have h:=H.uM j y;have e:[u].flatMap I.c=u.c:=by simp
 have q:=h.qS i D.length k lo U (s:=sl) (O:=[u]) (by rw[e];exact x) (by simp);exact q.forget _ (λz d=>by
  simp only[aX,av,aR,aT]at d ⊢;rcases d with d|d
  .exact .inl (.inl (.inl d))
  .exact .inr d)
def Da{w:J}{sl:Sl}{u:I}{k:Int}{lo U:UInt8}(h:∀b∈aw sl,w.heap.size<=b)(j:∀b∈u.fp,w.heap.size<=b):∀b∈(I.mk k lo U sl [u]).fp,w.heap.size<=b:=λb d=>by
 unfold I.fp at d;rcases aX.1 d with d|d
 .exact ta h b d
 .obtain ⟨t,e,d⟩:=I.bM.1 d;simp at e;rw[e]at d;exact j b d
section
variable {s:Sl} {l:List dA} {n:Nat}
def IU(H:iQ l)(G:l.length<=1000000)(e:Nat)(w:J)(x:Rx)(A:bH):∀(f:Nat) (u:I) (h j:Nat) (B:J) (st:bH),wj l f u.rx st=some (x,A)->st.1<l.length->(∀b∈u.fp,w.heap.size<=b)->
  LH (·=e) w B [cT e s st,.g h,.g j] [cW s l,.tree u]->
  xH.a2 (ae e) h 0 0 0 ⟨none,0,0⟩ j u.k (u.lo.toNat:Int) (u.U.toNat:Int) u.s B (SA e s w (λr S=>fK w x r S/\A.1<l.length) A)
 |0,u,h,j,B,st,d,_,_,_=>by unfold wj at d;cases d
 |f+1,u,h,j,B,st,d,F,E,C=>by
  unfold wj at d;refine xH.bB _ _ _ _ _ _ _ _ _ _ _ _ _ (C.hY (qc C.fR F G [42]) ?_);have y:=q1 H F [42] (by decide);rintro _ L rfl z _;refine⟨_,rfl,?_⟩;cases P:eJ l [42] st with
  |mk Q K=>
   rw[P]at d z y;cases Q with
   |true=>
    dsimp only at d y;refine a3 rfl ?_;refine z.cR (n:=1) (sz:=4) (cs:=u.c) rfl (by decide) λT q=>q.ai λM N=>?_;have O:LH (·=e) w M [cT e s K,.g h,.g j] [cW s l,.tree (.mk 7 0 0 ⟨some (ae L.heap.size),1,1⟩ [u])]:=(N.one 3 1 7 0 0).forget _ (by simp);refine IU H G e w x A f (.mk 7 0 0 ⟨some (ae L.heap.size),1,1⟩ [u]) h j M K d y (Da (λb D=>?_) E) O;simp only[aw,av,aR,aT]at D;rw[D];exact z.fr.size
   |false=>
    dsimp only at d y;simp only[eH,eu]at d;obtain⟨d,rfl⟩:=d;refine a1 rfl ?_;exact z.ai λT q=>⟨⟨⟨⟨u,rfl,d,q.getD 1,E⟩,y⟩,q.get 0⟩,q.fr⟩
def VH(T:iQ l)(S:l.length<=1000000)(V:lV s l n)(h:Nat)(st:bH)(w:J)(x:Rx)(C:bH)(d:l5 l (n+1) st=some (x,C))(U:st.1<l.length)(H:iw h s l st w):
  ak aa yg #[.pointer (some (ae h))] w (SA h s w (λr w'=>fK w x r w'/\C.1<l.length) C):=by
 unfold l5 at d;refine xH.aD _ w _ (H.aJ λK w1 A=>?_);have A:LH (·=h) w w1 [cT h s st,.g K] [cW s l]:=A;refine A.hY (qc A.fR U S [33]) ?_;have y:=q1 T U [33] (by decide);rintro _ W rfl j _;refine⟨_,rfl,?_⟩;cases Z:eJ l [33] st with
 |mk ab D=>
  rw[Z]at d j y;cases ab with
  |true=>
   dsimp only at d y;cases k:l5 l n D with
   |none=>rw[k]at d;cases d
   |some Q=>
    obtain⟨a,z⟩:=Q;rw[k]at d;simp only[eH,eu]at d;obtain⟨d,rfl⟩:=d;refine a3 rfl ?_;refine j.hY (V.item h D W a z k y j.fR) ?_;rintro _ O ⟨⟨u,rfl,M,N,q⟩,L⟩ _ E;have B:=E (.tree u) N λb e=>q b (aO.1 e);refine⟨_,_,_,u.s,rfl,B.cR (n:=1) (sz:=4) (cs:=u.c) rfl (by decide) λw4 F=>F.ai λP G=>?_⟩;have I:LH (·=h) w P [cT h s z,.g K] [cW s l,.tree (.mk 6 0 0 ⟨some (ae O.heap.size),1,1⟩ [u])]:=(G.one 2 1 6 0 0).forget _ (by simp);refine⟨⟨⟨⟨.mk 6 0 0 ⟨some (ae O.heap.size),1,1⟩ [u],rfl,?_,I.getD 1,Da (λb e=>?_) (λb e=>a8 j.fr.size (q b e))⟩,L⟩,I.get 0⟩,I.fr⟩
    .rw [<-d,<-M];rfl
    .simp only[aw,av,aR,aT]at e;rw[e];exact B.fr.size
  |false=>
   dsimp only at d y;cases k:p0 l n D with
   |none=>rw[k]at d;cases d
   |some Q=>
    obtain⟨a,z⟩:=Q;rw[k]at d;refine a1 rfl ?_;refine j.hY (V.atom h D W a z k y j.fR) ?_;rintro _ O ⟨⟨u,rfl,M,N,q⟩,L⟩ _ E;have B:=E (.tree u) N λb e=>q b (aO.1 e);refine⟨_,_,_,u.s,rfl,B.aJ λY w4 F=>F.ai λP G=>?_⟩;exact IU T S h w x C n u K Y P z (by rw[M];exact d) L (λb e=>a8 j.fr.size (q b e)) G
def I5(E:iQ l)(D:l.length<=1000000)(K:∀m,m<=n->lV s l m)(h:Nat)(w:J)(m:List Rx)(x:bH):∀(f:Nat),f<=n->∀(acc:List I) (sl:Sl) (z:J) (st:bH),vx l f (I.au acc) st=some (m,x)->st.1<l.length->acc.length+f<=1000000->(∀b∈I.a9 acc,w.heap.size<=b)->
  LH (·=h) w z [cT h s st,.row aN 4 sl (acc.flatMap I.c)] [cW s l,.trees acc]->
  u2.L1 (ae h) sl z (SA h s w (λr w'=>(∃(sl:Sl) (a:List I),r=ag sl.v/\I.au a=m/\(bI sl a).P w'/\∀b∈(bI sl a).fp,w.heap.size<=b)/\x.1<l.length) x)
 |0,_=>λacc sl z st d=>by unfold vx at d;cases d
 |f+1,hf=>λacc sl z st d H ab G A=>by
  have ac:=I.cm (A.get 1:aK _ _ _ _ _).bc;unfold vx at d;refine u2.fJ _ _ _ _ (A.qe (qc A.fR H D [44]) ?_);have q:=q1 E H [44] (by decide);rintro _ w2 rfl j _;refine⟨_,rfl,?_⟩;cases V:eJ l [44] st with
  |mk Z M=>
   rw[V]at d j q;cases Z with
   |true=>
    dsimp only at d q;cases C:ku l f M with
    |none=>rw[C]at d;cases d
    |some aa=>
     obtain⟨a,y⟩:=aa;rw[C]at d;refine a3 rfl ?_;refine j.qe ((K f (by omega)).expr h M w2 a y C q j.fR) ?_;rintro _ N ⟨⟨u,rfl,W,Y,F⟩,U⟩ _ Q;have B:=Q (.tree u) Y λb e=>F b (aO.1 e);have B:LH (·=h) w N [cT h s y,.row aN 4 sl (acc.flatMap I.c)] [cW s l,.trees acc,.tree u]:=B;refine⟨_,_,_,u.s,rfl,B.uu 1 kr (xs:=acc.flatMap I.c) rfl (λL O S _ _=>?_) (by omega)⟩;have T:LH (·=h) w O [cT h s y,.row aN 4 L ((acc++[u]).flatMap I.c)] [cW s l,.trees (acc++[u])]:=by rw[k2];exact(S.qX 1 2).forget _ (by simp)
     refine I5 E D K h w m x f (by omega) (acc++[u]) L O y ?_ U (by simp;omega) (sv G λb e=>a8 j.fr.size (F b e)) T;rw[jz];have:I.au [u]=[a]:=by simp[I.au,W]
     rw[this];exact d
   |false=>
    dsimp only at d q;simp only[eH,eu]at d;obtain⟨rfl,rfl⟩:=d;refine a1 rfl ?_;refine j.qe (uD j.fR q D [41]) ?_;rintro _ N rfl k _;refine⟨rfl,⟨⟨⟨sl,acc,rfl,rfl,dw.2 ⟨(k.get 1:aK _ _ _ _ _).bc,k.getD 1⟩,λb e=>?_⟩,vG E q [41] (by decide)⟩,k.get 0⟩,k.fr⟩;rcases lk.1 e with e|e
    .exact (k.new _ (aE (i:=1) rfl) b (gi e)).resolve_right (yG k 0 rfl (gi e))
    .exact G b e
def VW(B:iQ l)(A:l.length<=1000000)(hn:n<=100000)(L:∀m,m<=n->lV s l m)(h:Nat)(st:bH)(w:J)(m:List Rx)(q:bH)(e:qv l (n+1) st=some (m,q))(U:st.1<l.length)(H:iw h s l st w):
  ak aa Cw #[.pointer (some (ae h))] w (SA h s w (λr D=>(∃(sl:Sl) (a:List I),r=ag sl.v/\I.au a=m/\(bI sl a).P D/\∀b∈(bI sl a).fp,w.heap.size<=b)/\q.1<l.length) q):=by
 unfold qv at e;refine u2.ok _ w _ (H.qe (uD H U A [40]) ?_);have K:=vG B U [40] (by decide);rintro _ w1 rfl F _;refine⟨rfl,F.qe (qc F.fR K A [41]) ?_⟩;have x:=q1 B K [41] (by decide);rintro _ E rfl j _;cases Y:eJ l [41] (j1 l [40] st)with
 |mk M y=>
  rw[Y]at e j x;have none_:some (([]:List Rx),y)=some (m,q)->u2.S0 E (SA h s w (λr D=>(∃(sl:Sl) (a:List I),r=ag sl.v/\I.au a=m/\(bI sl a).P D/\∀b∈(bI sl a).fp,w.heap.size<=b)/\q.1<l.length) q):=by
   intro e;simp only[eH,eu]at e;obtain⟨rfl,rfl⟩:=e;refine⟨⟨⟨⟨⟨none,0,0⟩,[],rfl,rfl,dw.2 ⟨bx.nil 4 E,by unfold I.Ps;trivial⟩,λb d=>?_⟩,x⟩,j.get 0⟩,j.fr⟩;rcases lk.1 d with d|d
   .simp [I.row,En.bc]at d
   .unfold I.a9 at d;cases d
  refine⟨_,rfl,y.2,j.ld 0 2,bD (λd=>none_ (by simpa[d]using e)) (λd=>bD (λk=>none_ (by have k:M=true:=k;simpa[k]using e)) (λk=>?_))⟩
  have k:M=false:=k;simp only[d,k,Bool.or_false,cond_false]at e;cases z:ku l n y with
  |none=>rw[z]at e;cases e
  |some ab=>
   obtain⟨a,C⟩:=ab;rw[z]at e;refine j.qe ((L n (bg _)).expr h y E a C z x j.fR) ?_;rintro _ w3 ⟨⟨u,rfl,Z,pu,G⟩,W⟩ _ O;have Q:=O (.tree u) pu λb d=>G b (aO.1 d);refine⟨_,_,_,u.s,rfl,Q.cR (n:=1) (sz:=4) (cs:=u.c) rfl (by decide) λN S=>?_⟩;have T:LH (·=h) w N [cT h s C,.row aN 4 ⟨some (ae w3.heap.size),1,1⟩ ([u].flatMap I.c)] [cW s l,.trees [u]]:=by
    have V:[u].flatMap I.c=u.c:=by simp
    rw[V];exact(S.uM 1).forget _ (by simp)
   refine I5 B A L h w m q n (bg _) [u] _ N C ?_ W (by simp;omega) (λb d=>?_) T
   .have:I.au [u]=[a]:=by simp[I.au,Z]
    rw[this];exact e
   .obtain ⟨t,x,d⟩:=I.bM.1 d;simp at x;rw[x]at d;exact a8 j.fr.size (G b d)
end
def tS:List ab:=[.string (ba (mu 0)),.string (ba (mu 1)),.string (ba (mu 2)),.string (ba (mu 3)),.string (ba (mu 4)),.string (ba (mu 5))]
def QX{k:Nat}(h:k<6):tS[k]? =some (.string (ba (mu k))):=by
 have:k=0\/k=1\/k=2\/k=3\/k=4\/k=5:=by omega
 rcases this with rfl|rfl|rfl|rfl|rfl|rfl<;>rfl
def QV{k:Nat}(h:k<6)(d:k≠2):mu k≠[]/\mu k≠[32]:=by
 have:k=0\/k=1\/k=2\/k=3\/k=4\/k=5:=by omega
 rcases this with rfl|rfl|rfl|rfl|rfl|rfl<;>first |exact absurd rfl d|exact⟨by decide,by decide⟩
def l7(k:Int)(lo U:UInt8):I:=.mk k lo U ⟨none,0,0⟩ []
def qx(k:Int)(lo U:UInt8)(w:J):(l7 k lo U).P w:=by unfold l7 I.P I.Ps;exact⟨bx.nil 4 w,trivial⟩
def qy{k:Int}{lo U:UInt8}{b:Nat}:¬b∈(l7 k lo U).fp:=λd=>by
 unfold l7 I.fp I.a9 at d;rcases aX.1 d with d|d
 .simp [I.row,En.bc]at d
 .cases d
section
variable {s:Sl} {l:List dA} {n:Nat}
def R2(W:iQ l)(al:l.length<=1000000)(ih:lV s l n)(j:Nat)(st:bH)(w:J)(x:Rx)(K:bH)(d:p0 l (n+1) st=some (x,K))(U:st.1<l.length)(H:iw j s l st w):
  ak aa Cu #[.pointer (some (ae j))] w (SA j s w (λr w'=>fK w x r w'/\K.1<l.length) K):=by
 let R:aH:=SA j s w (λr w'=>fK w x r w'/\K.1<l.length) K
 have loop:∀(f k:Nat) (q C:Nat) (D:J),f+k=6->kN l st 6 0=kN l st f k->(match kN l st 6 0 with
   |some k=>bif Nat.ble k 2 then some (Rx.mk k 0 0 [],(st.1+1,st.2))else match qv l n (st.1+1,st.2)with
    |some (m,st)=>some (Rx.mk k 0 0 m,st)
    |none=>none
   |none=>let st:=j1 l [40] st
    bif st.2 then some (fh,st)else match ku l n st with
    |some (a,st)=>some (a,j1 l [41] st)
    |none=>none)=some (x,K)->LH (·=j) w D [cT j s st,.g q,.c C tS fW] [cW s l]->
   nJ.ct (ae j) q 0 0 0 ⟨none,0,0⟩ ⟨some (ae C),6,6⟩ (k:Int) D R:=by
  intro f;induction f with
  |zero=>
   intro k q C D hk Z d E;have e0:kN l st 0 k=none:=by unfold kN;rfl
   rw[Z,e0]at d;dsimp only at d;have af:=vG W U [40] (by decide);refine nJ.dX _ _ _ _ _ _ _ _ _ _ (a1 (aV (by omega)) (E.hY (uD E.fR U al [40]) ?_));rintro _ y rfl e _;generalize j1 l [40] st=Em at d af e;refine⟨rfl,Em.2,e.ld 0 2,bD (λh=>?_) (λh=>?_)⟩
   .rw [h]at d;simp only[cond_true,eH,eu]at d;obtain⟨rfl,rfl⟩:=d;exact e.ai λS z=>⟨⟨⟨⟨b3,rfl,rfl,j2 _,λb h=>(j3 h).elim⟩,af⟩,z.get 0⟩,z.fr⟩
   .rw [h]at d;dsimp only[cond_false]at d;cases G:ku l n Em with
    |none=>rw[G]at d;cases d
    |some ag=>
     obtain⟨a,ab⟩:=ag;rw[G]at d;simp only[eH,eu]at d;obtain⟨rfl,rfl⟩:=d;refine e.hY (ih.expr j Em y a ab G af e.fR) ?_;rintro _ S ⟨⟨u,rfl,hu,pu,fu⟩,V⟩ _ F3;have z:=F3 (.tree u) pu λb h=>fu b (aO.1 h);refine⟨_,_,_,u.s,rfl,z.aJ λb6 w4 A=>A.ai λw5 B=>?_⟩;have B:LH (·=j) w w5 (cT j s ab::[.g q,.c C tS fW,.g b6]) [cW s l,.tree u]:=B;refine B.hY (uD B.fR V al [41]) ?_;rintro _ w6 rfl H6 _;exact⟨rfl,H6.ai λw7 L=>⟨⟨⟨⟨u,rfl,hu,L.getD 1,λb h=>a8 e.fr.size (fu b h)⟩,vG W V [41] (by decide)⟩,L.get 0⟩,L.fr⟩⟩
  |succ f aw=>
   intro k q C D hk Z d E;have next:kN l st (f+1) k=kN l st f (k+1)->∀y,LH (·=j) w y [cT j s st,.g q,.c C tS fW] [cW s l]->nJ.bU (ae j) q 0 0 0 ⟨none,0,0⟩ ⟨some (ae C),6,6⟩ (k:Int) y R:=by intro Q y e;show nJ.ct _ _ _ _ _ _ _ _ _ _;rw[bd _ (by omega)];exact aw (k+1) q C y (by omega) (by rw[Z,Q]) d e
   refine nJ.dX _ _ _ _ _ _ _ _ _ _ (a3 (aP (by omega)) (aL (λO=>E.ai λy e=>next (by
    have:k=2:=by omega
    subst this;conv=>lhs;unfold kN
    rfl) y e) (λO=>⟨by omega,by show(k:Int)<((6:Nat):Int);omega,?_⟩)))
   have O:k≠2:=by omega
   have ah:bQ k 2=false:=by
    cases F:bQ k 2 with
    |false=>rfl
    |true=>exact absurd (Nat.eq_of_beq_eq_true F) O
   refine j4 (E.ai λy e=>?_);rw[bF,Nat.mul_one];refine⟨ba (mu k),e.ld 2 k rfl (QX (by omega)),e.ay (AW e.fR U) ?_⟩;rintro _ S rfl z;refine⟨_,rfl,z.ld 2 k rfl (QX (by omega)),?_⟩;rw[rR];refine dN (λY=>next (by
    conv=>lhs;unfold kN
    rw[ah,Y];rfl) S z) (λY=>?_)
   have am:=eq_of_beq Y;have av:kN l st 6 0=some k:=by
    rw[Z];conv=>lhs;unfold kN
    rw[ah,Y];rfl
   rw[av]at d;dsimp only at d;have T:st.1+1<l.length:=by
    refine I7 W U (by rw[am];exact(QV (by omega) O).1) ?_;cases h:st.2 with
    |false=>rfl
    |true=>
     exfalso;refine(QV (k:=k) (by omega) O).2 ?_;rw[<-am];unfold e1;rw[h];rfl
   refine⟨(st.1:Int),z.ld 0 1,?_⟩;rw[bd _ (by omega)];refine z.PJ 0 1 rfl λw4 A=>?_;have A:LH (·=j) w w4 [cT j s (st.1+1,st.2),.g q,.c C tS fW] [cW s l]:=A;refine A.aJ λb5 w5 B=>aG (λau=>?_) (λau=>?_)
   .have ad:Nat.ble k 2=false:=by
     cases F:Nat.ble k 2 with
     |false=>rfl
     |true=>have:=Nat.le_of_ble_eq_true F;omega
    rw[ad]at d;dsimp only[cond_false]at d;cases G:qv l n (st.1+1,st.2)with
    |none=>rw[G]at d;cases d
    |some ag=>
     obtain⟨m,ab⟩:=ag;rw[G]at d;simp only[eH,eu]at d;obtain⟨Q,rfl⟩:=d;refine B.ai λw9 N=>?_;have N:LH (·=j) w w9 (cT j s (st.1+1,st.2)::[.g q,.c C tS fW,.g b5]) [cW s l]:=N;refine N.hY (ih.kids j (st.1+1,st.2) w9 m ab G T N.fR) ?_;rintro _ aA ⟨⟨sl,a,rfl,ha,pa,fa⟩,V⟩ _ an;have ap:=an (.tree (bI sl a)) pa λb h=>fa b (aO.1 h);refine⟨sl,rfl,ap.ai λaB aq=>aq.ai λaz ac=>?_⟩;refine⟨⟨⟨⟨.mk k 0 0 sl a,rfl,?_,?_,λb h=>?_⟩,V⟩,ac.get 0⟩,ac.fr⟩
     .rw [<-Q,<-ha];rfl
     .have:=dw.1 (show(bI sl a).P az from ac.getD 1);unfold I.P;exact this
     .refine a8 N.fr.size (fa b ?_);unfold I.fp at h;unfold bI I.fp;exact h
   .have ad:Nat.ble k 2=true:=Nat.ble_eq_true_of_le (by omega);rw[ad]at d;simp only[cond_true,eH,eu]at d;obtain⟨Q,rfl⟩:=d;refine B.ai λw6 H6=>H6.ai λw7 L=>⟨⟨⟨⟨l7 k 0 0,rfl,?_,qx _ _ _ _,λb h=>(qy h).elim⟩,T⟩,L.get 0⟩,L.fr⟩;rw[<-Q];rfl
 have s0:∀(q:Nat) (D:J),(!st.2&&bQ (ft l st.1).k 2)=false->LH (·=j) w D [cT j s st,.g q] [cW s l]->nJ.bq (ae j) q 0 0 0 ⟨none,0,0⟩ D R:=by
  intro q D hq E;unfold p0 at d;rw[hq]at d;dsimp only[cond_false]at d;try dsimp only[nJ.bq,ax]
  refine E.nw λy _ e=>?_;exact loop 6 0 q D.heap.size y (by omega) rfl d e
 refine nJ.aD _ w _ (H.aJ λq D E=>E.ai λy e=>⟨st.2,e.ld 0 2,dN (λh=>?_) (λh=>s0 q y (by rw[h];rfl) e)⟩);have hn:=wz (e.getD 0:bx _ _ _ _);refine⟨s,e.ld 0 0,(st.1:Int),e.ld 0 1,by omega,by omega,wA (e.getD 0) U λp hp c=>⟨((ft l st.1).k:Int),?_,aL (λM=>?_) (λM=>s0 q y (by
  have:bQ (ft l st.1).k 2=false:=by
   cases F:bQ (ft l st.1).k 2 with
   |false=>rfl
   |true=>have:=Nat.eq_of_beq_eq_true F;omega
  rw[this];simp) e)⟩⟩
 .rw [bF,iS];exact c.c2
 have M:(ft l st.1).k=2:=by omega
 have T:st.1+1<l.length:=by
  rcases Nat.lt_or_ge (st.1+1) l.length with F|F
  .exact F
  .exfalso;have ar:st.1=l.length - 1:=by omega
   rw[ar,W.2.2]at M;cases M
 refine⟨(st.1:Int),e.ld 0 1,?_⟩;rw[bd _ (by omega)];refine e.PJ 0 1 rfl λS z=>?_;have z:LH (·=j) w S [cT j s (st.1+1,st.2),.g q] [cW s l]:=z;refine z.ai λw4 A=>⟨s,A.ld 0 0,((st.1+1:Nat):Int),A.ld 0 1,?_⟩;have em:ao .i64 (((st.1+1:Nat):Int) - 1)=(st.1:Int):=by rw[aS _ (by omega)];omega
 rw[em];unfold p0 at d;rw[h,M]at d;have d:some (Rx.mk 2 (ft l st.1).lo (ft l st.1).U [],(st.1+1,false))=some (x,K):=d;simp only[eH,eu]at d;obtain⟨d,aj⟩:=d;refine⟨by omega,by omega,wA (A.getD 0) U λp hp c=>⟨2,(ft l st.1).lo.toNat,(ft l st.1).U.toNat,⟨none,0,0⟩,?_,?_,?_,?_,A.ai λw5 B=>⟨⟨⟨⟨l7 2 (ft l st.1).lo (ft l st.1).U,rfl,d,qx _ _ _ _,λb h=>(qy h).elim⟩,by rw[<-aj];exact T⟩,?_⟩,B.fr⟩⟩⟩
 .rw [bF,iS,c.c2,M];rfl
 .rw [bF,add_add];exact c.c3
 .rw [bF,add_add];exact c.c4
 .rw [bF,add_add];exact c.c5
 .have:=B.get 0;rw[<-aj,<-h];exact this
def M4(y:iQ l)(x:l.length<=1000000):∀n:Nat,n<=100000->∀m,m<=n->lV s l m
 |0,_=>λm B=>by
  have:m=0:=by omega
  subst this;exact⟨λe st j k h d=>(by unfold ku at d;cases d),λe st j k h d=>(by unfold nG at d;cases d),λe st j k h d=>(by unfold n7 at d;cases d),λe st j k h d=>(by unfold l5 at d;cases d),λe st j k h d=>(by unfold p0 at d;cases d),λe st j k h d=>(by unfold qv at d;cases d)⟩
 |n+1,C=>λm B=>by
  have z:=M4 y x n (by omega);rcases Nat.lt_or_ge m (n+1)with A|A
  .exact z m (by omega)
  have:m=n+1:=by omega
  subst this;exact⟨λe st j k h d w q=>UH y x (by omega) z e st j k h d w q,λe st j k h d w q=>Ud y x (by omega) z e st j k h d w q,λe st j k h d w q=>Y2 y x (by omega) z e st j k h d w q,λe st j k h d w q=>VH y x (z n (bg _)) e st j k h d w q,λe st j k h d w q=>R2 y x (z n (bg _)) e st j k h d w q,λe st j k h d w q=>VW y x (by omega) z e st j k h d w q⟩
end
def _root_.Go.W.LH.perm{M:Nat->Prop}{w0 w:J}{L j D:List En}(H:LH M w0 w L D)(h:L.Perm j):LH M w0 w j D:=
 ⟨H.fr,λd e=>H.own d (h.mem_iff.2 e),H.rd,λd e=>H.new d (h.mem_iff.2 e),(h.flatMap_right (·.fp)).nodup_iff.1 H.nd,λd e b q k x=>H.dj d e b q k (h.mem_iff.2 x)⟩
def EG(s:BL):∀(f i:Nat),s.length<f+i->∃init,og s f i=init++[⟨[],s.length,0,0,0⟩]/\init.length+i<=max i s.length
 |0,i,h=>⟨[],rfl,by simp;omega⟩
 |f+1,i,h=>by
  unfold og;split
  .exact ⟨[],rfl,by simp;omega⟩
  .split
   .obtain ⟨init,d,j⟩:=EG s f (i+1) (by omega);exact⟨init,d,by omega⟩
   .simp only;have q:=NN s i;have w:=ON s i s.length 1 (by omega);generalize jx s i=g at q;generalize nc s i s.length 1=e at w;have k:1<=(if g.n=0 then e else g.n)/\i+(if g.n=0 then e else g.n)<=s.length:=by split<;>omega
    generalize(if g.n=0 then e else g.n)=n at k;obtain⟨init,d,j⟩:=EG s f (i+n) (by omega);exact⟨_::init,by rw[d];rfl,by simp only[List.length_cons];omega⟩
def aac(s:BL):iQ (mm s)/\(mm s).length<=s.length+1:=by
 obtain⟨init,j,k⟩:=EG s (s.length+1) 0 (by omega);have h:mm s=init++[⟨[],s.length,0,0,0⟩]:=j;rw[h];have d:(init++[(⟨[],s.length,0,0,0⟩:dA)]).length=init.length+1:=by simp
 have e:ft (init++[(⟨[],s.length,0,0,0⟩:dA)]) init.length=⟨[],s.length,0,0,0⟩:=by unfold ft;simp[List.getD_eq_getElem?_getD]
 refine⟨⟨by omega,?_,?_⟩,by omega⟩
 .rw [d,Nat.add_sub_cancel,e]
 .rw [d,Nat.add_sub_cancel,e]
def RE(w:J)(x:Rx)(a:Nat)(e:Int)(r:cr)(Y:J):Prop:=∃t:I,r=ag (.tuple #[t.v,.i (a:Int),.i e])/\t.rx=x/\t.P Y/\∀b∈t.fp,w.heap.size<=b
def TA(s:ByteArray)(hs:s.size<=100000)(x:Rx)(a:Nat)(e:Int)(d:sR (bl s)=some (x,a,e))(w:J):ak aa J4 #[.string s] w λr Z=>RE w x a e r Z/\ah w Z:=by
 have hl:(bl s).length=s.size:=dP s;obtain⟨C,hlen⟩:=aac (bl s);unfold sR at d;refine Hv.aD _ w _ ((bP [] (by simp)).aJ λS w1 O=>aG (λh=>O.ai λw2 H2=>?_) (λh=>O.hD (SY s hs w1) ?_))
 .rw [aj (by omega)]at d;simp only[eH,eu]at d;obtain⟨rfl,rfl,rfl⟩:=d;exact⟨⟨b3,rfl,rfl,j2 _,λb h=>(j3 h).elim⟩,H2.fr⟩
 rw[af (by omega)]at d;generalize mm (bl s)=l at d C hlen;dsimp only at d;rintro _ N ⟨j,rfl,ho,hf⟩ _ F6;have H6:=F6.rd (cW j l) ho.bc (ta hf);cases H:ku l 1000 (0,false)with
 |none=>rw[H]at d;cases d
 |some an=>
  obtain⟨Y,M⟩:=an;rw[H]at d;dsimp only at d;refine⟨j,rfl,H6.nw λw7 _ y=>?_⟩;have y:LH F0 w w7 (cT N.heap.size j (0,false)::[.g S]) [cW j l]:=y.perm (List.Perm.swap _ _ _);refine y.hY ((M4 C (by omega) 1000 (by omega) 1000 (bg _)).expr N.heap.size (0,false) w7 Y M H C.1 y.fR) ?_;rintro _ w8 ⟨⟨u,rfl,W,pu,T⟩,U⟩ _ F8;have H8:=F8 (.tree u) pu λb h=>T b (aO.1 h);refine⟨_,_,_,u.s,rfl,H8.aJ λb6 w9 H9=>H9.ai λag z=>?_⟩;have z:LH F0 w ag (cT N.heap.size j M::[.g S,.g b6]) [cW j l,.tree u]:=z;refine z.hY (uD z.fR U (by omega) []) ?_;have G:=vG C U [] (by decide);rintro _ ab rfl k _;generalize j1 l [] M=qY at d G k;refine⟨rfl,qY.2,k.ld 0 2,bD (λE=>k.ai λap q=>?_) (λE=>?_)⟩
  .rw [aj E]at d;simp only[eH,eu]at d;obtain⟨rfl,rfl,rfl⟩:=d;have hn:=wz (q.getD 0:bx _ _ _ _);refine⟨j,q.ld 0 0,(qY.1:Int),q.ld 0 1,by omega,by omega,wA (q.getD 0) G λp hp c=>⟨((ft l qY.1).at_:Int),?_,q.ai λal A=>⟨?_,A.ld 0 1,A.ld 0 0,⟨b3,rfl,rfl,j2 _,λb h=>(j3 h).elim⟩,A.fr⟩⟩⟩
   .rw [bF];exact c.c1
   .rw [bF];have:=wA (A.getD 0) G (K:=λD=>∃L,j.a=some L/\D=L/\FA al L qY.1 (ft l qY.1)) (λD V F=>⟨D,V,rfl,F⟩);rw[hp]at this;obtain⟨D,V,rfl,F⟩:=this;exact F.c1
  .rw [af (by rw[E];simp)]at d;have ae:u.P ab:=k.getD 1;have ao:Y.sz=u.sz:=by rw[<-W,I.eB]
   by_cases ad:u.sz<=1000000
   .rw [af (by omega)]at d;refine k.ay (AK u ab ad ae) ?_;rintro _ aq rfl Q;refine⟨_,rfl,aG (λac=>Q.ai λam B=>?_) (λac=>Q.ai λam B=>?_)⟩
    .rw [aj (by omega)]at d;simp only[eH,eu]at d;obtain⟨rfl,rfl,rfl⟩:=d;exact⟨⟨b3,rfl,rfl,j2 _,λb h=>(j3 h).elim⟩,B.fr⟩
    .rw [af (by omega)]at d;simp only[eH,eu]at d;obtain⟨rfl,rfl,rfl⟩:=d;exact⟨⟨u,rfl,W,B.getD 1,λb h=>a8 y.fr.size (T b h)⟩,B.fr⟩
   .rw [aj (by omega)]at d;cases d
def dF(a b:BL):ba a++ba b=ba (a++b):=by apply ByteArray.ext;rw[ByteArray.data_append];simp[ba]
def rT{w:J}{b n:Nat}{cs:List ab}{T:aC}(h:w.heap[b]? =some (.cells cs.toArray T (0,0)))(e:n=cs.length):Rd w ⟨some (ae b),n,n⟩ cs:=
 vT (s:=⟨some (ae b),n,n⟩) e (bg _) (λh=>by cases h) λi v d=>⟨ae b,rfl,cellAt (p:=ae b) h rfl (by simpa using d)⟩
def Gq(c:UInt8)(w:J):ak aa Kb #[.int .u8 (c.toNat:Int)] w λr e=>r=ag (.bool (ez c))/\ah w e:=by
 refine HA.ok _ w _ (aG (λd=>⟨?_,Fr.refl _ _⟩) (λd=>⟨?_,Fr.refl _ _⟩))
 .unfold ez;rw[aP (show 97<=c.toNat by omega),Bool.true_and,show aq ((c.toNat:Int)<=122)=aq (c.toNat<=122)from decide_eq_decide.2 (by omega)]
 .unfold ez;rw[aV (show ¬97<=c.toNat by omega),Bool.false_and]
def AS(c:UInt8)(w:J):ak aa J1 #[.int .u8 (c.toNat:Int)] w λr F=>r=ag (.string (ba (dB c)))/\ah w F:=by
 have K:=c.toNat_lt;have z:LH F0 w w [] []:=bP [] (by simp);refine Hr.ok _ w _ (z.call (Gr c w) ?_);rintro _ y rfl x;refine⟨_,rfl,bD (λk=>?_) (λk=>?_)⟩
 .refine x.nY (λq _ d h=>?_);have I:((39:UInt8).toNat:Int)=39:=rfl;have e:Bytes q ⟨some (ae y.heap.size),3,3⟩ [39,c,39]:=rT (T:=cL) h rfl;have j:=lZ e;refine⟨ba [39,c,39],j,?_,d.fr⟩;unfold dB;rw[aj k]
 .have C:ao .i64 (c.toNat:Int)=(c.toNat:Int):=aS _ (by omega);have D:ao .i64 (bN (c.toNat:Int) 16)=((c.toNat / 16:Nat):Int):=by rw[Int.tdiv_eq_ediv_of_nonneg (by omega),aS _ (by omega)];omega
  have E:bY (c.toNat:Int) 16=((c.toNat%16:Nat):Int):=by rw[Int.tmod_eq_emod_of_nonneg (by omega)];omega
  rw[C,D,E];refine x.call (AV (c.toNat / 16) (by omega) y) ?_;rintro _ q rfl d;refine⟨_,rfl,d.call (AV (c.toNat%16) (by omega) q) ?_⟩;rintro _ G rfl A;refine⟨_,rfl,A.nY (λH _ B h=>?_)⟩;have e:Bytes H ⟨some (ae G.heap.size),4,4⟩ [92,120,h0 (c.toNat / 16),h0 (c.toNat%16)]:=rT (T:=cL) h rfl;have j:=lZ e;refine⟨ba [92,120,h0 (c.toNat / 16),h0 (c.toNat%16)],j,?_,B.fr⟩;unfold dB;rw[af (by rw[k];simp)]
abbrev ll(s:Sl)(l:List Nd)(d:Nd):List En:=[.gr s l,cX d]
def vr{w:J}{s:Sl}{l:List Nd}{d:Nd}(h:GP w s l)(j:d.P w):LH F0 w w [] (ll s l d):=bP _ (by
 intro k e;simp only[av,aR,aT]at e;rcases e with rfl|rfl
 .exact bV.2 h
 .exact j)
def SH{w:J}{s:Sl}{l:List Int}(h:bp w s l)(B:l.length<=1000000000000)(n:Int):ak aa JS #[s.v,.i n] w λr k=>r=ag (.bool (aq (n∈l)))/\ah w k:=by
 have C:=bp.len h;have loop:∀(d i:Nat),i+d=l.length->(n∈l↔n∈l.drop i)->uT.L0 s n (i:Int) w λr k=>r=ag (.bool (aq (n∈l)))/\ah w k:=by
  intro d;induction d with
  |zero=>
   intro i z e;rw[dC (by omega)]at e;exact uT.bE _ _ _ _ _ (a1 (aV (by omega)) ⟨by rw[aV (λh=>by have:=e.1 h;simp at this)],Fr.refl _ _⟩)
  |succ d A=>
   intro i z e;have q:l[i]? =some (l[i]'(by omega)):=a6 (by omega);rw[dy (by omega:i<l.length),av]at e;generalize l[i]'(by omega)=x at q e;refine uT.bE _ _ _ _ _ (a3 (aP (by omega)) ⟨by omega,by omega,h.cell q (by omega) λp D y=>⟨x,y,aL (λj=>⟨?_,Fr.refl _ _⟩) (λj=>?_)⟩⟩)
   .rw [aP (e.2 (.inl j.symm))]
   .rw [bd _ (by omega)];exact A (i+1) (by omega) (e.trans ⟨λh=>h.resolve_left (λh=>j h.symm),.inr⟩)
 exact uT.ok _ _ w _ (loop l.length 0 (by omega) (by simp))
def Gh{w:J}{s:Sl}{l:List Int}(h:bp w s l)(d:l.length<=1000000000000)(n:Int):ak aa KB #[s.v,.i n] w λr e=>r=ag (.bool (aq (n∈l)))/\ah w e:=by refine HO.ok _ _ w _ ((SH h d n).mono ?_);rintro _ j ⟨rfl,f⟩;exact⟨_,rfl,rfl,f⟩
def AE{w:J}{b n:Nat}{l:List Int}{T:aC}(h:w.heap[b]? =some (.cells (l.map a').toArray T (0,0)))(d:n=l.length):bp w ⟨some (ae b),n,n⟩ l:=
 rT h (by simpa using d)
def e4:Nat:=1000000000
def H9(op:Int):(aq (op∈[(21:Int),22,23,28])=oR op)/\(aq (op∈[(0:Int),2,33])=oS op):=by
 constructor
 .unfold oR;by_cases d:op=21
  .subst d;rfl
  by_cases e:op=22
  .subst e;rfl
  by_cases h:op=23
  .subst h;rfl
  by_cases j:op=28
  .subst j;rfl
  simp[d,e,h,j]
 .unfold oS;by_cases d:op=0
  .subst d;rfl
  by_cases e:op=2
  .subst e;rfl
  by_cases h:op=33
  .subst h;rfl
  simp[d,e,h]
def Uy(t:ByteArray):(t.toList==(bJ #[]).toList)=aq (t=ba []):=zq _ _
def Xz{n:Nx}{A B:Prop}(h:bn (i0 n) B A):∀a b:Bool,a=oR n.op->b=oS n.op->
  let e:=bn (!b) (bn (!(n.tx.toList==(bJ #[]).toList)) A B) B
  let j:=bn (n.op !=1) (bn (n.u !=0) A e) e
  let d:=bn (n.op !=21) (bn (n.m !=0) A j) j
  bn (!a) (bn (n.n !=0) A d) d:=by rintro a b rfl rfl;dsimp only;rw[Uy];unfold i0 at h;have k:(n.op !=1)= !(n.op==1):=rfl;have q:(n.op !=21)= !(n.op==21):=rfl;have w:(n.n !=0)= !(n.n==0):=rfl;have x:(n.m !=0)= !(n.m==0):=rfl;have y:(n.u !=0)= !(n.u==0):=rfl;rw[k,q,w,x,y];generalize(n.op==1)=p1 at *;generalize(n.op==21)=p2 at *;generalize(n.n==0)=p3 at *;generalize(n.m==0)=p4 at *;generalize(n.u==0)=p5 at *;generalize aq (n.tx=ba [])=p6 at *;generalize oR n.op=p7 at *;generalize oS n.op=p8 at *;cases p1<;>cases p2<;>cases p3<;>cases p4<;>cases p5<;>cases p6<;>cases p7<;>cases p8<;>exact h
def mU(g:List Nx)(n:Nx):Int:=if(cU n.op==(n.kids.length:Int)&&n.kids.all (ff g)&&i0 n)=true then 0 else 1
def Tf{w:J}{s:Sl}{l:List Nd}{d:Nd}(h:GP w s l)(G:d.P w)(hk:d.x.kids.length<=e4):ak aa Kz #[s.v,d.v] w λr D=>r=ag (.i (mU (xs l) d.x))/\ah w D:=by
 have hn:=gZ h;have I:d.ks.n=d.x.kids.length:=bp.len G;have M:(xs l).length=l.length:=by simp[xs]
 unfold e4 at hk;have loop:∀(m i:Nat) (j:Nat) (e:J),i+m=d.x.kids.length->(cU d.x.op==(d.x.kids.length:Int))=true->(d.x.kids.all (ff (xs l))=(d.x.kids.drop i).all (ff (xs l)))->LH F0 w e [.g j] (ll s l d)->
   u7.a2 s j d.x.op d.ks d.x.n d.x.m d.x.u d.x.tx d.x.st.k d.x.st.n d.x.st.x (i:Int) e λr D=>r=ag (.i (mU (xs l) d.x))/\ah w D:=by
  intro m;induction m with
  |zero=>
   intro i j e Z C q y;rw[dC (by omega)]at q;refine u7.bB _ _ _ _ _ _ _ _ _ _ _ _ _ _ (a1 (aV (by omega)) (y.nw λN _ z=>z.ay (Gh (l:=[21,22,23,28]) (AE (n:=4) (z.ob 1) rfl) (by decide) d.x.op) ?_));rintro _ O rfl A;refine⟨_,rfl,A.nw λw4 _ E=>E.ay (Gh (l:=[0,2,33]) (AE (n:=3) (E.ob 2) rfl) (by decide) d.x.op) ?_⟩;rintro _ w5 rfl F;refine⟨_,rfl,?_⟩;have H:∀b:Bool,i0 d.x=b->mU (xs l) d.x=if b=true then 0 else 1:=λb U=>by unfold mU;rw[C,q,U];rfl
   exact Xz (n:=d.x) (bD (λh=>⟨by rw[H _ h];rfl,F.fr⟩) (λh=>⟨by rw[H _ h];rfl,F.fr⟩)) _ _ (H9 d.x.op).1 (H9 d.x.op).2
  |succ m ih=>
   intro i j e Z C q y;have B:d.x.kids[i]? =some (d.x.kids[i]'(by omega)):=a6 (by omega);rw[dy (by omega:i<d.x.kids.length),List.all_cons]at q;generalize d.x.kids[i]'(by omega)=x at B q;have bad:ff (xs l) x=false->(Ending.returned (.i 1)=ag (.i (mU (xs l) d.x))/\ah w e):=λhx=>⟨by unfold mU;rw[q,hx];simp,y.fr⟩;have K:bp e d.ks d.x.kids:=y.getD 1;refine u7.bB _ _ _ _ _ _ _ _ _ _ _ _ _ _ (a3 (aP (by omega)) ⟨by omega,by omega,K.cell B (by omega) λp hp V=>⟨x,V,aG (λS=>bad ?_) (λS=>⟨by omega,by omega,K.cell B (by omega) λp' ab W=>⟨x,W,aG (λT=>bad ?_) (λT=>?_)⟩⟩)⟩⟩)
   .unfold ff;rw[aV (by omega)];rfl
   .unfold ff;rw[aV (show ¬x<((xs l).length:Int)by rw[M];omega)];simp
   .rw [bd _ (by omega)];refine ih (i+1) j e (by omega) C ?_ y;rw[q];unfold ff;rw[aP (show 0<=x by omega),aP (show x<((xs l).length:Int)by rw[M];omega)];rfl
 refine u7.aD _ _ _ _ _ _ _ _ _ _ w _ ((vr h G).aJ λj e Q=>Q.ai λN z=>z.ay (F3 d.x.op N) ?_);rintro _ O rfl A;refine⟨_,rfl,dv (λL=>⟨?_,A.fr⟩) (λY=>?_)⟩
 .unfold mU;rw[beq_eq_false_iff_ne.2 (by rw[I]at L;exact L)];rfl
 .exact loop d.x.kids.length 0 j O (by omega) (by rw[Y,I];simp) (by simp) A
def w8(g:List Nx):Prop:=∀d∈g,d.op=0->∀e∈g,e.op=0->d.tx=e.tx->d.st=e.st
def tG(n d:Nx):Bool:=aq (d.op=0/\d.tx=n.tx/\d.st≠n.st)
def EW{t:ByteArray}{s:bo}:∀{g:List Nx},jG g t=some s->∃e∈g,e.op=0/\e.tx=t/\e.st=s
 |e::g,d=>by
  unfold jG at d;split at d
  .rename_i h;exact⟨e,by simp,h.1,h.2,Option.some.inj d⟩
  .obtain ⟨j,k,d⟩:=EW d;exact⟨j,dS _ k,d⟩
def QB{t:ByteArray}:∀{g:List Nx},jG g t=none->∀d∈g,d.op=0->d.tx≠t
 |a::g,e,d,h,j,k=>by
  unfold jG at e;split at e
  .cases e
  .rename_i q;rcases av.1 h with rfl|h
   .exact q ⟨j,k⟩
   .exact QB e d h j k
def Qr{g:List Nx}(A:w8 g)(n:Nx):q2 g n=g.any (tG n):=by
 unfold q2;cases q:jG g n.tx with
 |none=>
  symm;rw[List.any_eq_false];intro e h d;have d:=ew d;exact QB q e h d.1 d.2.1
 |some s=>
  obtain⟨e,h,w,x,y⟩:=EW q;by_cases j:s=n.st
  .simp only[j,decide_true,Bool.not_true];symm;rw[List.any_eq_false];intro k z d;have d:=ew d;exact d.2.2 ((A k z d.1 e h w (d.2.1.trans x.symm)).trans (y.trans j))
  .simp only[j,decide_false,Bool.not_false];symm;rw[List.any_eq_true];exact⟨e,h,aP ⟨w,x,λk=>j (y.symm.trans k)⟩⟩
def XX(n:Int)(h:0<=n)(j:n<64):ao .u64 (1 *2^(min (aZ n) (IntKind.bits .u64)))=((2^n.toNat:Nat):Int):=by
 have d:min (aZ n) (IntKind.bits .u64)=n.toNat:=by show min n.toNat 64=_;omega
 have e:(2:Nat)^n.toNat<=2^63:=Nat.pow_le_pow_right (by omega) (by omega);rw[d,Int.one_mul,show((2:Int)^n.toNat)=((2^n.toNat:Nat):Int)from by rw[Int.natCast_pow];rfl];generalize(2:Nat)^n.toNat=m at e;exact IntWalk.u64_in _ (by omega)
abbrev gm(x:bo×Int):cr:=ag (.tuple #[dO x.1,.i x.2])
def tN{s:bo}(h:bW s=true)(d:s.k=0):1<=s.n/\s.n<=64/\s.x=0:=by unfold bW at h;simp[d]at h;omega
def lK{s:bo}(h:bW s=true):0<=s.n/\s.n<=64/\0<=s.x/\s.x<=16/\0<=s.k/\s.k<=3:=by unfold bW at h;simp at h;omega
def Tq{w:J}{s:Sl}{l:List Nd}{d:Nd}(h:GP w s l)(hd:d.P w)(hl:l.length<=e4)(h0:0<=d.x.op)(W:d.x.op<=3)(hv:w8 (xs l)):ak aa KC #[s.v,d.v] w λr q=>r=gm (cB (xs l) d.x)/\ah w q:=by
 have hn:=gZ h;have ar:(xs l).length=l.length:=by simp[xs]
 unfold e4 at hl;have e0:d.x.op=0\/d.x.op=1\/d.x.op=2\/d.x.op=3:=by omega
 refine jm.aD _ _ _ _ _ _ _ _ _ _ w _ ((vr h hd).aJ λB w1 H1=>H1.aJ λz w2 U=>aL (λV=>?_) (λV=>?_))
 .refine aG (λhs=>U.ai λM H=>⟨?_,H.fr⟩) (λhs=>U.ay (nD _ w2) ?_)
  .unfold cB;rw[aj V,aj (by omega)];rfl
  .rintro _ M rfl H;refine⟨_,_,_,rfl,H.ai λY N=>⟨?_,N.fr⟩⟩;unfold cB;rw[aj V,af (by omega)]
 have F:cB (xs l) d.x=if d.x.op=0/\gg (bl d.x.tx)=false then(cY,6)else
   if bW d.x.st=false then(cY,9)else
   if d.x.op=1/\d.x.st.k≠0\/d.x.op=3/\ec d.x.st=false then(cY,9)else
   if d.x.op=1/\kZ d.x.u d.x.st.n=true then(cY,5)else
   if d.x.op=0/\(xs l).any (tG d.x)=true then(cY,8)else(d.x.st,0):=by unfold cB;rw[af V,Qr hv]
 have S0:∀(nm:Bool) (M:J),nm=(!decide (d.x.op=0)||gg (bl d.x.tx))->LH F0 w M [.g B,.g z] (ll s l d)->jm.bq s B d.x.op d.ks d.x.n d.x.m d.x.u d.x.tx d.x.st.k d.x.st.n d.x.st.x z 0 0 0 nm M λr q=>r=gm (cB (xs l) d.x)/\ah w q:=by
  intro nm M O H;refine dN (λK=>H.ai λY N=>⟨?_,N.fr⟩) (λE=>?_)
  .rw [K]at O;have O:=O.symm;simp only[Bool.or_eq_false_iff,Bool.not_eq_false',decide_eq_true_eq]at O;rw[F,aj O];rfl
  have am:¬(d.x.op=0/\gg (bl d.x.tx)=false):=λhc=>by rw[E,hc.2,aP hc.1]at O;simp at O
  rw[af am]at F;refine H.ay (Yd d.x.st M) ?_;rintro _ Y rfl N;refine⟨_,rfl,Ea (λK=>N.ai λj A=>⟨?_,A.fr⟩) (λE=>?_)⟩
  .rw [F,aj K];unfold gP;rw[K];rfl
  rw[af (by rw[E];simp)]at F;have loop:∀(m i:Nat) (j:J),i+m=l.length->cB (xs l) d.x=(if d.x.op=0/\((xs l).drop i).any (tG d.x)=true then(cY,8)else(d.x.st,0))->LH F0 w j [.g B,.g z] (ll s l d)->
    jm.kj s B d.x.op d.ks d.x.n d.x.m d.x.u d.x.tx d.x.st.k d.x.st.n d.x.st.x z 0 0 0 (i:Int) j λr q=>r=gm (cB (xs l) d.x)/\ah w q:=by
   intro m;induction m with
   |zero=>
    intro i j hi G A;rw[dC (by omega)]at G;refine jm.nA _ _ _ _ _ _ _ _ _ _ _ _ _ _ _ _ _ _ (a1 (aV (by omega)) (A.ai λC y=>⟨?_,y.fr⟩));rw[G,af (by simp)]
   |succ m ih=>
    intro i j hi G A;have T:l[i]? =some (l[i]'(by omega)):=a6 (by omega);have hx:(xs l).drop i=(l[i]'(by omega)).x::(xs l).drop (i+1):=by rw[dy (by omega:i<(xs l).length)];simp[xs]
    rw[hx,List.any_cons]at G;generalize l[i]'(by omega)=e at T G;have next:∀C,LH F0 w C [.g B,.g z] (ll s l d)->(d.x.op=0->tG d.x e.x=false)->jm.hC s B d.x.op d.ks d.x.n d.x.m d.x.u d.x.tx d.x.st.k d.x.st.n d.x.st.x z 0 0 0 (i:Int) C λr q=>r=gm (cB (xs l) d.x)/\ah w q:=by
     intro C y E;show jm.kj s B d.x.op d.ks d.x.n d.x.m d.x.u d.x.tx d.x.st.k d.x.st.n d.x.st.x z 0 0 0 (ao .i64 ((i:Int)+1)) C _;rw[bd _ (by omega)];refine ih (i+1) C (by omega) ?_ y;rw[G];by_cases Q:d.x.op=0
     .rw [E Q,Bool.false_or]
     .rw [af (λh=>Q h.1),af (λh=>Q h.1)]
    have G5:GP j s l:=bV.1 (A.getD 0);refine jm.nA _ _ _ _ _ _ _ _ _ _ _ _ _ _ _ _ _ _ (a3 (aP (by omega)) (aL (λQ=>?_) (λQ=>A.ai λC y=>next C y (λh=>absurd h Q))));refine hM G5 rfl T λp hp _=>A.ai λC y=>?_;have c6:=BW (bV.1 (y.getD 0)) T hp (rfl:((i:Int))=(i:Int));refine⟨_,c6.c0,aL (λS=>?_) (λS=>next C y λ_=>aV λh=>S h.1)⟩;refine hM (bV.1 (y.getD 0)) rfl T λp1 ap al=>⟨_,al.c5,Eb (λE=>?_) (λE=>next C y λ_=>aV λh=>E h.2.1)⟩;refine hM (bV.1 (y.getD 0)) rfl T λp2 aq ab=>⟨_,_,_,ab.s0,ab.s1,ab.s2,y6 (λK=>y.ai λw7 H7=>⟨?_,H7.fr⟩) (λan=>next C y λ_=>aV λh=>h.2.2 an)⟩;rw[G,aj ⟨Q,by rw[show tG d.x e.x=true from aP ⟨S,E,K⟩];rfl⟩];rfl
  have Z:∀j:J,cB (xs l) d.x=(if d.x.op=0/\(xs l).any (tG d.x)=true then(cY,8)else(d.x.st,0))->LH F0 w j [.g B,.g z] (ll s l d)->
    jm.gI s B d.x.op d.ks d.x.n d.x.m d.x.u d.x.tx d.x.st.k d.x.st.n d.x.st.x z 0 0 0 j λr q=>r=gm (cB (xs l) d.x)/\ah w q:=λj G A=>loop l.length 0 j (by omega) G A
  have S1:∀(a:Bool) (j:J),a=ec d.x.st->LH F0 w j [.g B,.g z] (ll s l d)->jm.bT s B d.x.op d.ks d.x.n d.x.m d.x.u d.x.tx d.x.st.k d.x.st.n d.x.st.x z 0 0 0 a j λr q=>r=gm (cB (xs l) d.x)/\ah w q:=by
   rintro a j rfl A;have bad:(d.x.op=1/\d.x.st.k≠0\/d.x.op=3/\ec d.x.st=false)->jm.bU z 0 0 0 j λr q=>r=gm (cB (xs l) d.x)/\ah w q:=λD=>A.ai λC y=>⟨by rw[F,aj D];rfl,y.fr⟩;have S3:¬(d.x.op=1/\d.x.st.k≠0\/d.x.op=3/\ec d.x.st=false)->jm.cJ s B d.x.op d.ks d.x.n d.x.m d.x.u d.x.tx d.x.st.k d.x.st.n d.x.st.x z 0 0 0 j λr q=>r=gm (cB (xs l) d.x)/\ah w q:=λD=>by
    rw[af D]at F;refine aL (λI=>?_) (λI=>Z j (by rw[F,af (λh=>I h.1)]) A);have L:d.x.st.k=0:=by
     rcases Int.decEq d.x.st.k 0 with h|h
     .exact absurd (.inl ⟨I,h⟩) D
     .exact h
    obtain⟨v1,v2,_⟩:=tN E L;have ew:ao .u64 d.x.st.n=d.x.st.n:=IntWalk.u64_in _ (by omega);refine aG (λac=>⟨by rw[ew];omega,?_⟩) (λac=>Z j (by rw[F,af];rintro⟨_,D⟩;unfold kZ at D;rw[aV (by omega)]at D;cases D) A);rw[ew,XX _ (by omega) ac];have hp:((2^d.x.st.n.toNat:Nat):Int)=(2:Int)^d.x.st.n.toNat:=by rw[Int.natCast_pow];rfl
    rw[hp];refine aG (λae=>A.ai λC y=>⟨?_,y.fr⟩) (λae=>Z j ?_ A)
    .rw [F,aj ⟨I,by unfold kZ;rw[aP ac,aP ae];rfl⟩];rfl
    .rw [F,af];rintro⟨_,D⟩;unfold kZ at D;rw[aV (by omega:¬(2:Int)^d.x.st.n.toNat<=d.x.u),Bool.and_false]at D;cases D
   have ag:¬(d.x.op=1/\d.x.st.k≠0)->bn (d.x.op==3) (bn (!ec d.x.st) (jm.bU z 0 0 0 j λr q=>r=gm (cB (xs l) d.x)/\ah w q) (jm.cJ s B d.x.op d.ks d.x.n d.x.m d.x.u d.x.tx d.x.st.k d.x.st.n d.x.st.x z 0 0 0 j λr q=>r=gm (cB (xs l) d.x)/\ah w q)) (jm.cJ s B d.x.op d.ks d.x.n d.x.m d.x.u d.x.tx d.x.st.k d.x.st.n d.x.st.x z 0 0 0 j λr q=>r=gm (cB (xs l) d.x)/\ah w q):=λL=>
    aL (λW=>dN (λK=>bad (.inr ⟨W,K⟩)) (λE=>S3 (by rintro(h|h);exact L h;rw[E]at h;cases h.2))) (λW=>S3 (by rintro(h|h);exact L h;exact W h.1))
   exact aL (λI=>dv (λL=>bad (.inl ⟨I,L⟩)) (λL=>ag (λh=>h.2 L))) (λI=>ag (λh=>I h.1))
  refine aL (λad=>S1 true Y ?_ N) (λad=>S1 _ Y ?_ N)
  .unfold ec;rw[ad];rfl
  .unfold ec;rw[beq_eq_false_iff_ne.2 ad];rfl
 refine dv (λS=>S0 true w2 ?_ U) (λS=>U.ay (SQ d.x.tx w2) ?_)
 .rw [aV S];rfl
 .rintro _ M rfl H;exact⟨_,rfl,S0 _ M (by rw[aP S];rfl) H⟩
def zx{s:bo}(h:(s.k=0/\1<=s.n/\s.n<=64/\s.x=0)\/(s.k=1/\0<=s.n/\s.n<=64/\s.x=0)\/(s.k=2/\1<=s.n/\s.n<=64/\1<=s.x/\s.x<=16)\/(s.k=3/\0<=s.n/\s.n<=64/\1<=s.x/\s.x<=16)):bW s=true:=by unfold bW;rcases h with⟨d,e,j,q⟩|⟨d,e,j,q⟩|⟨d,e,j,q,w⟩|⟨d,e,j,q,w⟩<;>simp[d,e,j,q]<;>simp[w]
def EV{s:bo}:bW s=true↔(s.k=0/\1<=s.n/\s.n<=64/\s.x=0)\/(s.k=1/\0<=s.n/\s.n<=64/\s.x=0)\/(s.k=2/\1<=s.n/\s.n<=64/\1<=s.x/\s.x<=16)\/(s.k=3/\0<=s.n/\s.n<=64/\1<=s.x/\s.x<=16):=by refine⟨λd=>?_,zx⟩;unfold bW at d;simp only[Bool.or_eq_true,bf,beq_iff_eq,decide_eq_true_eq]at d;omega
structure rI(g:List Nx)(n:Nx):Prop where
 kl:cU n.op=(n.kids.length:Int)
 ki:∀k∈n.kids,0<=k/\k<(g.length:Int)
 ok:i0 n=true
def El{g:List Nx}{n:Nx}(h:(cq g n).2=0):rI g n:=by
 unfold cq at h;split at h
 .cases h
 .rename_i d;simp only[Bool.and_eq_false_iff,not_or,Bool.not_eq_false,beq_iff_eq]at d;refine⟨d.1.1,λj e=>?_,d.2⟩;have:=List.all_eq_true.1 d.1.2 j e;unfold ff at this;simpa using this
def V2{g:List Nx}{n:Nx}(k:∀h∈g,bW h.st=true)(j:∀e∈n.kids,0<=e/\e<(g.length:Int)){i:Nat}(U:i<n.kids.length):bW (bK g n i)=true:=by
 have q:=j _ (List.getElem_mem U);unfold bK;rw[a6 U];dsimp only;have d:(n.kids[i]).toNat<g.length:=by omega
 rw[a6 d];exact k _ (List.getElem_mem d)
def Ux{x:bo}(h:bW x=true)(d:ec x=true):bW (hG x)=true:=by
 rw[EV]at h;unfold ec at d;simp only[Bool.or_eq_true,beq_iff_eq]at d;unfold hG;refine zx ?_;split
 .show (0=0/\1<=x.n/\x.n<=64/\0=0)\/_;left;omega
 .right;left;show(1:Int)=1/\0<=x.n/\x.n<=64/\(0:Int)=0;omega
def nC{n:Int}(d:1<=n)(e:n<=64):bW (bz n)=true:=zx (.inl ⟨rfl,d,e,rfl⟩)
def wq{n:Int}(d:0<=n)(e:n<=64):bW (eT n)=true:=zx (.inr (.inl ⟨rfl,d,e,rfl⟩))
def Zn{g:List Nx}{n:Nx}(U:∀M∈g,bW M.st=true)(h:(cq g n).2=0):bW (cq g n).1=true:=by
 have D:=El h;have C:∀i:Nat,(i:Int)<cU n.op->bW (bK g n i)=true:=λi V=>V2 U D.ki (by have:=D.kl;omega);unfold cq at h ⊢;split at h
 .cases h
 rename_i G;rw[af G];split at h
 .rename_i F;rw[aj F];unfold cB at h ⊢;split at h
  .rename_i w;rw[aj w];split at h
   .cases h
   .rename_i T;rw[af T];exact wq (by omega) (by omega)
  .rename_i w;rw[af w];split at h
   .cases h
   rename_i N;rw[af N];split at h
   .cases h
   rename_i j;rw[af j];split at h
   .cases h
   rename_i P;rw[af P];split at h
   .cases h
   rename_i Q;rw[af Q];split at h
   .cases h
   rename_i S;rw[af S];simpa using j
 rename_i F;rw[af F];split at h
 .cases h
 rename_i d;rw[af d];split at h
 .cases h
 rename_i e;rw[af e];split at h
 .cases h
 rename_i H;rw[af H];simp only[Bool.not_eq_false]at d e;have O:n.op<=34:=by
  rcases Int.lt_or_le 34 n.op with h|h
  .have:=D.kl;unfold cU at this;rw[aj (.inr h)]at this;omega
  .exact h
 generalize I:bK g n 0=x at *;generalize K:bK g n 1=y at *;generalize L:bK g n 2=z at *;have q:bW x=true:=by rw[<-I];exact C 0 (by unfold cU;repeat' split<;>omega)
 have A:2<=cU n.op->bW y=true:=λh=>by rw[<-K];exact C 1 (by omega)
 have E:cU n.op=3->bW z=true:=λh=>by rw[<-L];exact C 2 (by omega)
 obtain⟨op,kids,B,m,u,W,st⟩:=n;simp only at *;clear I K L C D G H;rcases sP (by omega) O with rfl|rfl|rfl|rfl|rfl|rfl|rfl|rfl|rfl|rfl|rfl|rfl|rfl|rfl|rfl|rfl|rfl|rfl|rfl|rfl|rfl|rfl|rfl|rfl|rfl|rfl|rfl|rfl|rfl|rfl|rfl|rfl|rfl|rfl|rfl
 iterate 4 omega
 all_goals first |(have A:=A (by decide))|skip
 all_goals first |(have E:=E (by decide))|skip
 iterate 12 exact q
 iterate 3 exact nC (by omega) (by omega)
 .show bW (if y.k=1 then eT (if y.n<z.n then z.n else y.n)else y)=true;split
  .rename_i C;have d:(aq (x=bz 1)&&(aq (y=z)||(y.k==1&&z.k==1)))=true:=d;have j:=lK A;have w:=lK E;exact wq (by split<;>omega) (by split<;>omega)
  .exact A
 .have d:(x.k==0&&y.k==0)=true:=d;have e:aq (x.n+y.n<=64)=true:=e;simp only[bf,beq_iff_eq]at d;have j:=tN q d.1;have w:=tN A d.2;exact nC (by omega) (ew e)
 .have d:(x.k==0)=true:=d;have e:(aq (0<=m)&&aq (m<=B)&&aq (B<x.n))=true:=e;simp only[bf,decide_eq_true_eq]at e;have j:=tN q (eq_of_beq d);show bW (bz (B - m+1))=true;exact nC (by omega) (by omega)
 iterate 2
  .have d:(x.k==0)=true:=d;have e:(aq (1<=B)&&aq (B<=64 - x.n))=true:=e;simp only[bf,decide_eq_true_eq]at e;have j:=tN q (eq_of_beq d);show bW (bz (x.n+B))=true;exact nC (by omega) (by omega)
 .have d:(ec x&&aq (y=bz x.x))=true:=d;simp only[bf]at d;exact Ux q d.1
 .exact q
 .have d:(ec x&&aq (x=y))=true:=d;simp only[bf]at d;have j:=d.1;unfold ec at j;simp only[Bool.or_eq_true,beq_iff_eq]at j;rw[EV]at q;exact nC (by omega) (by omega)
 .exact nC (by omega) (by omega)
 .exact nC (by omega) (by omega)
 .have e:aq (x.n+y.n<=64)=true:=e;have j:=lK q;have w:=lK A;exact wq (by omega) (ew e)
 .exact q
 .exact nC (by omega) (by omega)
 .have e:aq (x.n+z.n<=64)=true:=e;have j:=lK q;have w:=lK E;exact wq (by omega) (ew e)
 .exact nC (by omega) (by omega)
 .exact wq (by omega) (by omega)
def Vg.val{g:List Nx}(h:Vg g):∀e∈g,bW e.st=true:=by
 induction h with
 |nil=>simp
 |snoc q j w k=>
  intro e d;rcases aX.1 d with d|d
  .exact k e d
  .simp only[av,aR,aT]at d;subst d;have:=Zn k (by rw[j])
   rwa[j]at this
def var_eq{g D:List Nx}{a b:Nx}(h:rI g a)(F:rI D b)(e:a.op=0)(j:b.op=0)(H:a.tx=b.tx)(G:a.st=b.st):a=b:=by
 have k:∀{g:List Nx} {a:Nx},rI g a->a.op=0->a.kids=[]/\a.n=0/\a.m=0/\a.u=0:=by intro g a h e;have E:=h.kl;have d:=h.ok;rw[e]at E;unfold i0 at d;rw[e]at d;refine⟨List.eq_nil_of_length_eq_zero (by have:cU 0=0:=rfl;omega),?_⟩;have:oR 0=false:=rfl;rw[this]at d;simp at d;exact⟨d.1.1.1,d.1.1.2,d.1.2⟩
 obtain⟨q,w,x,y⟩:=k h e;obtain⟨z,A,B,C⟩:=k F j;cases a;cases b;simp only at *;subst e j H G q w x y z A B C;rfl
def Vg.ok{g:List Nx}(h:Vg g):∀i e,g[i]? =some e->cq (g.take i) e=(e.st,0):=by
 induction h with
 |nil=>intro i e d;simp at d
 |@snoc g n w k x q=>
  intro i e d;rcases Nat.lt_or_ge i g.length with j|j
  .rw [List.getElem?_append_left j]at d;rw[List.take_append_of_le_length (by omega)];exact q i e d
  .rw [List.getElem?_append_right j]at d;have:i - g.length=0:=by have:=(bO.1 d).1;simp at this;omega
   rw[this]at d;simp at d;subst d;rw[show i=g.length by omega,List.take_left];exact k
def Vg.Eh{g:List Nx}(h:Vg g):∀i d,g[i]? =some d->rI (g.take i) d:=λi d e=>El (by rw[h.ok i d e])
def Vg.kids{g:List Nx}(h:Vg g){i:Nat}{d:Nx}(j:g[i]? =some d):∀e∈d.kids,0<=e/\e<(i:Int):=λe q=>by have k:=(h.Eh i d j).ki e q;have w:=(bO.1 j).1;rw[List.length_take]at k;omega
def Vg.vars{g:List Nx}(h:Vg g):w8 g:=by
 induction h with
 |nil=>intro k e;cases e
 |@snoc g n B d C A=>
  have one:∀k∈g,k.op=0->n.op=0->k.tx=n.tx->k.st=n.st:=by
   intro k e w x q;have D:rI g n:=El (by rw[d]);unfold cq at d;split at d
   .simp at d
   rw[aj (by omega:n.op<=3)]at d;unfold cB at d;rw[af (by omega)]at d;split at d
   .simp at d
   split at d
   .simp at d
   split at d
   .simp at d
   split at d
   .simp at d
   split at d
   .simp at d
   rename_i y;simp only[x,true_and,Bool.not_eq_true]at y;rw[Qr A,List.any_eq_false]at y;rcases decEq k.st n.st with h|h
   .exact absurd (aP ⟨w,q,h⟩) (y k e)
   .exact h
  intro k e w z j x q;have e:=aX.1 e;have j:=aX.1 j;simp only[av,aR,aT]at e j;rcases e with e|e
  .rcases j with j|j
   .exact A k e w z j x q
   .rw [j]at q x ⊢;exact one k e w x q
  .rw [e]at q w ⊢;rcases j with j|j
   .exact (one z j x w q.symm).symm
   .rw [j]
def B1{n:Nx}:∀{g:List Nx} {i:Nat},hg n g i=none->n∉g
 |[],i,_=>by simp
 |j::g,i,d=>by
  unfold hg at d;split at d
  .cases d
  .rename_i h;simp only[av,not_or];exact⟨λe=>h e.symm,B1 d⟩
def xS{n:Nx}:∀{g:List Nx} {i k:Nat},hg n g i=some k->i<=k/\g[k - i]? =some n
 |h::g,i,k,d=>by
  unfold hg at d;split at d
  .rename_i e;cases d;simp[e]
  .have:=xS d;refine⟨by omega,?_⟩;rw[show k - i=(k - (i+1))+1 by omega];simpa using this.2
set_option maxHeartbeats 1000000
def eb(w:J)(p:Addr)(d:Nd):Prop:=∀i v,(Nd.c d)[i]? =some v->w.cell? (p.add i)=some v
def eb.st{w Y:J}{p:Addr}{d:Nd}(h:eb w p d)(q:p.block<w.heap.size->Y.heap[p.block]? =w.heap[p.block]?):eb Y p d:=λi v k=>by have e:=h i v k;have j:=nE e;rw[iz]at j;unfold World.cell? at e ⊢;rw[iz]at e ⊢;rw[q j];exact e
def eb.lt{w:J}{p:Addr}{d:Nd}(h:eb w p d):p.block<w.heap.size:=by
 have:=nE (h 0 _ rfl)
 rwa[iz]at this
def _root_.Go.W.En.iZ(p:Addr)(d:Nd):En:=⟨[p.block],λh=>eb h p d,λh q k e=>e.st (k p.block (by simp)),λh e b j=>by simp at j;subst j;exact eb.lt e,by simp⟩
def yo{w:J}{b:Nat}{d:Nd}{T:aC}(h:w.heap[b]? =some (.cells (Nd.c d).toArray T (0,0))):eb w (ae b) d:=λi v e=>cellAt (p:=ae b) h rfl (by simpa using e)
section
variable {w:J} {p:Addr} {d:Nd} (h:eb w p d)
include h
def eb.c0:w.cell? (p.add 0)=some (.i d.x.op):=h 0 _ rfl
def eb.c1:w.cell? (p.add 1)=some d.ks.v:=h 1 _ rfl
def eb.c2:w.cell? (p.add 2)=some (.i d.x.n):=h 2 _ rfl
def eb.c3:w.cell? (p.add 3)=some (.i d.x.m):=h 3 _ rfl
def eb.c4:w.cell? (p.add 4)=some (.u d.x.u):=h 4 _ rfl
def eb.c5:w.cell? (p.add 5)=some (.string d.x.tx):=h 5 _ rfl
def eb.s0:w.cell? ((p.add 6).add 0)=some (.i d.x.st.k):=by rw[add_add];exact h 6 _ rfl
def eb.s1:w.cell? ((p.add 6).add 1)=some (.i d.x.st.n):=by rw[add_add];exact h 7 _ rfl
def eb.s2:w.cell? ((p.add 6).add 2)=some (.i d.x.st.x):=by rw[add_add];exact h 8 _ rfl
end
def i'(n:Int)(w:J):ak aa Mf #[.i n] w λr h=>r=ag (dO (bz n))/\ah w h:=
 P'.aD _ w _ ((bP [] (by simp)).aJ λb j d=>d.ai λk e=>⟨rfl,e.fr⟩)
def tF(n:Int)(w:J):ak aa Mt #[.i n] w λr h=>r=ag (dO (eT n))/\ah w h:=
 Qh.aD _ w _ ((bP [] (by simp)).aJ λb j d=>d.ai λk e=>⟨rfl,e.fr⟩)
def q0(s:bo)(w:J):ak aa Mi #[dO s] w λr e=>r=ag (.bool (s.k==0))/\ah w e:=
 Qb.aD _ _ _ w _ ((bP [] (by simp)).aJ λb h d=>⟨rfl,d.fr⟩)
def ja(s:bo)(w:J):ak aa Mk #[dO s] w λr e=>r=ag (.bool (s.k==1))/\ah w e:=
 Qd.aD _ _ _ w _ ((bP [] (by simp)).aJ λb h d=>⟨rfl,d.fr⟩)
def EB(s:bo)(w:J):ak aa Mh #[dO s] w λr h=>r=ag (.bool (ec s))/\ah w h:=
 Qa.aD _ _ _ w _ ((bP [] (by simp)).aJ λb j e=>aL (λd=>⟨by unfold ec;rw[d];rfl,e.fr⟩) (λd=>⟨by unfold ec;rw[beq_eq_false_iff_ne.2 d];rfl,e.fr⟩))
def PV(x y:bo)(w:J):ak aa Mb #[dO x,dO y] w λr A=>r=ag (.bool (aq (x=y)||(x.k==1&&y.k==1)))/\ah w A:=by refine P6.aD _ _ _ _ _ _ w _ ((bP [] (by simp)).aJ λb E q=>q.aJ λD B h=>nh (a:=x) (b:=y) (λd=>⟨by rw[aP d];rfl,h.fr⟩) (λd=>h.ay (ja x B) ?_));rintro _ C rfl j;rw[aV d,Bool.false_or];refine⟨_,rfl,aL (λe=>j.ay (ja y C) ?_) (λe=>⟨by rw[beq_eq_false_iff_ne.2 e];rfl,j.fr⟩)⟩;rintro _ F rfl z;exact⟨_,rfl,by rw[e];rfl,z.fr⟩
def DT(d ranges:Bool):Int:=if d=true then(if ranges=true then 0 else 5)else 9
def Z3(s:bo)(k ranges:Bool)(w:J):ak aa yn #[dO s,.bool k,.bool ranges] w λr y=>r=gm (s,DT k ranges)/\ah w y:=by refine Qf.aD _ _ _ _ _ w _ ((bP [] (by simp)).aJ λb A x=>x.aJ λz B h=>dN (λe=>h.ai λq d=>⟨by rw[e];rfl,d.fr⟩) (λe=>dN (λj=>h.ai λq d=>⟨by rw[e,j];rfl,d.fr⟩) (λj=>h.ai λq d=>⟨by rw[e,j];rfl,d.fr⟩)))
def PU(s:bo)(w:J):ak aa Mv #[dO s] w λr y=>r=ag (.int .i64 (gP s))/\ah w y:=by
 refine zy.aD _ _ _ w _ ((bP [] (by simp)).aJ λG D F=>?_);have H:bW s=true->(Ending.returned (Value.int .i64 0)=ag (.int .i64 (gP s))/\ah w D):=λj=>⟨by unfold gP;rw[aj j],F.fr⟩;have bad:bW s=false->(Ending.returned (Value.int .i64 9)=ag (.int .i64 (gP s))/\ah w D):=λj=>⟨by unfold gP;rw[af (by simp[j])],F.fr⟩;have plain:∀least:Int,(∀e:least<=s.n,s.n<=64->s.x=0->bW s=true)->(¬(least<=s.n/\s.n<=64/\s.x=0)->bW s=false)->zy.bq G s.k s.n s.x least 64 false D λr y=>r=ag (.int .i64 (gP s))/\ah w y:=by intro least e d;exact aG (λj=>bad (d (by omega))) (λj=>aG (λE=>bad (d (by omega))) (λE=>a1 rfl (a3 rfl (dv (λh=>bad (d (λI=>h I.2.2))) (λh=>H (e (by omega) (by omega) h))))))
 have array:∀least:Int,(∀e:least<=s.n,s.n<=64->1<=s.x->s.x<=16->bW s=true)->(¬(least<=s.n/\s.n<=64/\1<=s.x/\s.x<=16)->bW s=false)->zy.bq G s.k s.n s.x least 64 true D λr y=>r=ag (.int .i64 (gP s))/\ah w y:=by intro least e d;exact aG (λj=>bad (d (by omega))) (λj=>aG (λE=>bad (d (by omega))) (λE=>a3 rfl (aG (λh=>bad (d (by omega))) (λh=>aG (λq=>bad (d (by omega))) (λq=>a1 rfl (H (e (by omega) (by omega) (by omega) (by omega))))))))
 refine aL (λz=>plain 1 (λe d h=>?_) (λj=>?_)) (λz=>aL (λA=>plain 0 (λe d h=>?_) (λj=>?_)) (λA=>aL (λB=>array 1 (λe d h q=>?_) (λj=>?_)) (λB=>aL (λC=>array 0 (λe d h q=>?_) (λj=>?_)) (λC=>bad ?_))))
 .unfold bW;simp[z,e,d,h]
 .unfold bW;rw[z];simp;omega
 .unfold bW;simp[A,e,d,h]
 .unfold bW;rw[A];simp;omega
 .unfold bW;simp[B,e,d,h,q]
 .unfold bW;rw[B];simp;omega
 .unfold bW;simp[C,e,d,h,q]
 .unfold bW;rw[C];simp;omega
 .unfold bW;simp[z,A,B,C]
def ZM{s:ByteArray}{i:Nat}(h:i<s.size):s[i]? =some (gQ (bl s) i):=by
 have e:i<(bl s).length:=h;have d:gQ (bl s) i=(bl s)[i]:=by unfold gQ;rw[List.getD_eq_getElem?_getD,a6 e];rfl
 rw[d,getElem?_pos s i h];rfl
def Z0(s:ByteArray)(w:J):ak aa Mj #[.string s] w λr j=>r=ag (.bool (gg (bl s)))/\ah w j:=by
 have h:(bl s).length=s.size:=dP s;have l9:∀(c:UInt8) (m:List UInt8),gg (c::m)=(aq (m.length<=15)&&eN c&&m.all cQ):=λ_ _=>rfl;cases y:bl s with
 |nil=>
  have k:s.size=0:=by rw[<-h,y];rfl
  exact nl.ok s w _ (a3 (aP (by omega)) ⟨rfl,Fr.refl _ _⟩)
 |cons c m=>
  have P:s.size=m.length+1:=by rw[<-h,y];rfl
  have F:gQ (bl s) 0=c:=by rw[y];rfl
  refine nl.ok s w _ (a1 (aV (by omega)) (aG (λe=>⟨?_,Fr.refl _ _⟩) (λe=>?_)))
  .rw [l9,aV (by omega)];rfl
  have I:gg (c::m)=(eN c&&m.all cQ):=by rw[l9,aP (by omega:m.length<=15),Bool.true_and]
  rw[I];have loop:∀(d i:Nat),i+d=s.size->(eN c&&m.all cQ)=(if i=0 then(eN c&&m.all cQ)else((bl s).drop i).all cQ)->nl.L1 s (i:Int) w λr j=>r=ag (.bool (eN c&&m.all cQ))/\ah w j:=by
   intro d;induction d with
   |zero=>
    intro i M q;rw[dC (by omega),af (by omega)]at q;exact nl.fJ _ _ _ _ (a1 (aV (by omega)) ⟨by rw[q];rfl,Fr.refl _ _⟩)
   |succ d O=>
    intro i M q;have G:=ZM (show i<s.size by omega);have H:(bl s).drop i=gQ (bl s) i::(bl s).drop (i+1):=by rw[dy (by omega:i<(bl s).length)];unfold gQ;rw[List.getD_eq_getElem?_getD,a6 (by omega:i<(bl s).length)];rfl
    have go:(if i=0 then eN (gQ (bl s) i)else cQ (gQ (bl s) i))=true->nl.S5 s (i:Int) w λr j=>r=ag (.bool (eN c&&m.all cQ))/\ah w j:=λe=>by
     show nl.L1 s (ao .i64 ((i:Int)+1)) w _;rw[bd _ (by omega)];refine O (i+1) (by omega) ?_;rw[af (by omega)];by_cases k:i=0
     .subst k;rw[aj rfl,F]at e;rw[e,Bool.true_and];rw[y];rfl
     .rw [af k]at e q;rw[q,H,List.all_cons,e,Bool.true_and]
    have stop:(if i=0 then eN (gQ (bl s) i)else cQ (gQ (bl s) i))=false->nl.S4 w λr j=>r=ag (.bool (eN c&&m.all cQ))/\ah w j:=λe=>by
     refine⟨?_,Fr.refl _ _⟩;by_cases k:i=0
     .subst k;rw[aj rfl,F]at e;rw[e,Bool.false_and]
     .rw [af k]at e q;rw[q,H,List.all_cons,e,Bool.false_and]
    generalize gQ (bl s) i=x at G go stop;have E:∀l:Bool,l=eN x->nl.S3 s (i:Int) ((x.toNat:Nat):Int) l w λr j=>r=ag (.bool (eN c&&m.all cQ))/\ah w j:=by
     intro l h;refine dN (λL=>?_) (λD=>go ?_)
     .rw [L]at h;refine aL (λk=>stop ?_) (λk=>?_)
      .rw [aj (by omega),<-h]
      have N:i≠0:=by omega
      rw[af N]at go stop;have z:cQ x=((aq (48<=x.toNat)&&aq (x.toNat<=57))||x==45):=by unfold cQ;rw[<-h,Bool.false_or]
      refine dv (λC=>aG (λB=>stop ?_) (λB=>aG (λK=>stop ?_) (λK=>go ?_))) (λC=>go ?_)
      .rw [z,aV (show ¬48<=x.toNat by omega)];have:(x==45)=false:=beq_eq_false_iff_ne.2 λA=>C (by subst A;rfl);rw[this];rfl
      .rw [z,aV (show ¬x.toNat<=57 by omega),Bool.and_false];have:(x==45)=false:=beq_eq_false_iff_ne.2 λA=>C (by subst A;rfl);rw[this];rfl
      .rw [z,aP (show 48<=x.toNat by omega),aP (show x.toNat<=57 by omega)];rfl
      .have:x=45:=UInt8.toNat_inj.1 (by have:((45:UInt8).toNat:Int)=45:=rfl;omega);rw[z,this];rfl
     .rw [D]at h;split
      .exact h.symm
      .unfold cQ;rw[<-h];rfl
    have D:((i:Int)).toNat=i:=bF i;refine nl.fJ _ _ _ _ (a3 (aP (by omega)) ⟨by omega,x,by rw[D];exact G,aG (λB=>E _ ?_) (λB=>E _ ?_)⟩)
    .unfold eN;rw[aP (show 97<=x.toNat by omega),Bool.true_and];exact decide_eq_decide.2 (by omega)
    .unfold eN;rw[aV (show ¬97<=x.toNat by omega),Bool.false_and]
  exact loop s.size 0 (by omega) (by rw[aj rfl])
def Uz(t:ByteArray):(t.toList==(bJ #[]).toList)=aq (t=ba []):=zq _ _
def ZZ{w:J}{p:Addr}{d:Nd}(h:eb w p d):ak aa Mg #[.pointer (some p)] w λr q=>r=ag (.bool (i0 d.x))/\ah w q:=by
 have C:∀a b c e:Bool,wx.S1 p a b c e w λr q=>r=ag (.bool ((a||d.x.n==0)&&(b||d.x.m==0)&&(c||d.x.u==0)&&(e||aq (d.x.tx=ba []))))/\ah w q:=by
  intro a b c e;cases a<;>cases b<;>cases c<;>cases e;all_goals repeat (first |refine a1 rfl ?_|refine a3 rfl ?_|refine⟨_,h.c2,aL (λj=>?_) (λj=>⟨by rw[beq_eq_false_iff_ne.2 j];simp,Fr.refl _ _⟩)⟩|refine⟨_,h.c3,aL (λk=>?_) (λk=>⟨by rw[beq_eq_false_iff_ne.2 k];simp,Fr.refl _ _⟩)⟩|refine⟨_,h.c4,aL (λz=>?_) (λz=>⟨by rw[beq_eq_false_iff_ne.2 z];simp,Fr.refl _ _⟩)⟩|refine⟨_,h.c5,?_,Fr.refl _ _⟩)
  all_goals first |exact⟨by simp[*],Fr.refl _ _⟩|(rw[Uz];simp[*])
 have fin:∀a b c e:Bool,a=oR d.x.op->b=(d.x.op==21)->c=(d.x.op==1)->e=oS d.x.op->wx.S1 p a b c e w λr q=>r=ag (.bool (i0 d.x))/\ah w q:=by rintro a b c e rfl rfl rfl rfl;exact C _ _ _ _
 have H:∀A:Int,d.x.op≠A->(d.x.op==A)=false:=λA G=>beq_eq_false_iff_ne.2 G;have D:∀e:Bool,e=oS d.x.op->wx.S2 p false false false e d.x.op w λr q=>r=ag (.bool (i0 d.x))/\ah w q:=by intro e y;refine aL (λE=>fin _ _ _ _ ?_ ?_ ?_ y) (λE=>aL (λj=>fin _ _ _ _ ?_ ?_ ?_ y) (λj=>aL (λk=>a3 (beq_iff_eq.2 k) (fin _ _ _ _ ?_ ?_ ?_ y)) (λk=>aL (λz=>a3 (beq_iff_eq.2 z) (fin _ _ _ _ ?_ ?_ ?_ y)) (λz=>aL (λF=>fin _ _ _ _ ?_ ?_ ?_ y) (λF=>fin _ _ _ _ ?_ ?_ ?_ y)))));all_goals first |(rw[‹d.x.op=_›];rfl)|(simp[oR, *])
 refine wx.ok p w _ ⟨_,h.c0,aL (λB=>a3 (beq_iff_eq.2 B) (fin _ _ _ _ ?_ ?_ ?_ ?_)) (λB=>aL (λj=>a3 (beq_iff_eq.2 j) (fin _ _ _ _ ?_ ?_ ?_ ?_)) (λj=>aL (λk=>fin _ _ _ _ ?_ ?_ ?_ ?_) (λk=>D _ ?_)))⟩;all_goals first |(rw[‹d.x.op=_›];rfl)|(unfold oS;simp[*])
def dq(n:Nx):List UInt8:=bL n.op++(cG n.kids++(bL n.n++(bL n.m++(dU n.u.toNat++(dJ (bl n.tx)++(bL n.st.k++(bL n.st.n++bL n.st.x)))))))
structure e9(x:Nx):Prop where
 op:a5 x.op
 ks:∀k∈x.kids,a5 k
 kl:x.kids.length<=1000000000
 n:a5 x.n
 m:a5 x.m
 u:0<=x.u/\x.u<18446744073709551616
 tx:x.tx.size<=1000000000
 sk:a5 x.st.k
 sn:a5 x.st.n
 sx:a5 x.st.x
def Xe{n:Nx}(W:e9 n):(dq n).length<=20000000000:=by have e:=dh _ W.op;have h:=mT _ W.ks;have j:=dh _ W.n;have k:=dh _ W.m;have q:=eI n.u.toNat (by have:=W.u;omega);have w:=dh _ W.sk;have x:=dh _ W.sn;have y:=dh _ W.sx;have z:=eI n.kids.length (by have:=W.kl;omega);have d:=eI (bl n.tx).length (by have:=W.tx;rw[dP];omega);have A:=W.kl;have B:=W.tx;have C:=dP n.tx;unfold dq cG dJ;simp only[a7];omega
def ot{P:aF}{f:FuncId}{args:Array ab}{w0 w:J}{e:Nat}{j:List Nat}{V k:List UInt8}(h:iy w0 e j V w)(A:∀own,fv w e V own->(∀x∈own,x∈j\/w0.heap.size<=x)->ak P f args w (lW w e own k)){K:J->Prop}(z:∀d,iy w0 e j k d->K d):
  ak P f args w λr d=>r=ag (.tuple #[])/\K d:=by obtain⟨own,C,B,q⟩:=h;refine(A own C q).mono ?_;rintro r d ⟨rfl,y⟩;exact⟨rfl,z d (iy.then B q y)⟩
def E2{w:J}{j:Nat}{V:List UInt8}{own:List Nat}(x:fv w j V own){s:Sl}{l:List Int}(e:bp w s l)(z:∀d∈(En.rd s (l.map a')).fp,d∉own)(U:∀d∈l,a5 d)(A:V.length+10 *l.length<=1000000000000):
  ak aa vF #[.pointer (some (ae j)),s.v] w (lW w j own (V++cG l)):=by
 by_cases k:l=[]
 .subst k;have B:s.n=0:=bp.len e;refine pC.ok _ _ w _ ?_;rw[B];refine(tO x 0 (by omega) (by omega)).mono ?_;rintro r C ⟨rfl,y⟩;refine⟨rfl,pC.bE _ _ _ _ _ _ (a1 (by decide) ⟨rfl,?_⟩)⟩;simpa[cG]using y
 .have q:(En.rd s (l.map a')).fp=aw s:=by show(if l.map a'=[]then[]else aw s)=_;rw[af (by simpa using k)]
  exact aas x e (λd h=>z d (q▸h)) (λd h=>(En.rd s (l.map a')).lt w e d (q▸h)) U A
def PX{w:J}{e:Nat}{V:List UInt8}{own:List Nat}(T:fv w e V own){p:Addr}{d:Nd}(K:eb w p d)(H:d.P w)(M:p.block∉own)(G:∀h∈(cX d).fp,h∉own)(W:e9 d.x)(I:V.length<=100000000000):
  ak aa Mu #[.pointer (some (ae e)),.pointer (some p)] w (lW w e own (V++dq d.x)):=by
 have at_:∀{k:List UInt8} {Y:J},iy w e own k Y->eb Y p d:=λ⟨_,_,f,_⟩=>K.st λO=>f.cb _ O M
 have Z:∀{k:List UInt8} {Y:J},iy w e own k Y->bp Y d.ks d.x.kids:=λ⟨_,_,f,_⟩=>(cX d).st w _ (λb N I=>f.cb _ I (G b N)) H;have k1:=dh _ W.op;have k2:=mT _ W.ks;have k3:=dh _ W.n;have k4:=dh _ W.m;have U:d.x.u=((d.x.u.toNat:Nat):Int):=by have:=W.u;omega
 have k5:=eI d.x.u.toNat (by have:=W.u;omega);have k6:=dh _ W.sk;have k7:=dh _ W.sn;have k9:=eI d.x.kids.length (by have:=W.kl;omega);have k0:=eI (bl d.x.tx).length (by have:=W.tx;rw[dP];omega);have m1:=W.kl;have m2:=W.tx;have m3:=dP d.x.tx;have lL:(cG d.x.kids).length<=10000000010:=by unfold cG;simp only[a7];omega
 have lR:(dJ (bl d.x.tx)).length<=1000000010:=by unfold dJ;simp only[a7];omega
 refine Qi.ok _ _ w _ ⟨_,K.c0,ot (iy.refl T) (λo r _=>lM r _ W.op (by omega)) λw1 j=>⟨_,(at_ j).c1,ot j (λo r S=>E2 r (Z j) (λh L Q=>?_) W.ks (by simp only[a7];omega)) λw2 q=>⟨_,(at_ q).c2,ot q (λo r _=>lM r _ W.n (by simp only[a7];omega)) λw3 y=>⟨_,(at_ y).c3,ot y (λo r _=>lM r _ W.m (by simp only[a7];omega)) λw4 z=>⟨_,(at_ z).c4,?_⟩⟩⟩⟩⟩
 .rcases S h Q with F|F
  .exact G h L F
  .have:=(cX d).lt w H h L;omega
 rw[U];refine ot z (λo r _=>tO r d.x.u.toNat (by have:=W.u;omega) (by simp only[a7];omega)) λw5 A=>⟨_,(at_ A).c5,ot A (λo r _=>aau r d.x.tx (by simp only[a7];omega)) λw6 B=>⟨_,(at_ B).s0,ot B (λo r _=>lM r _ W.sk (by simp only[a7];omega)) λw7 C=>⟨_,(at_ C).s1,ot C (λo r _=>lM r _ W.sn (by simp only[a7];omega)) λw8 D=>⟨_,(at_ D).s2,ot D (λo r _=>lM r _ W.sx (by simp only[a7];omega)) λw9 E=>⟨rfl,?_⟩⟩⟩⟩⟩;unfold dq;simp only[cp]at E;exact E
def PW{w:J}{p:Addr}{d:Nd}(j:eb w p d)(h:d.P w)(W:e9 d.x):
  ak aa Ml #[.pointer (some p)] w λr F=>r=ag (.string (ba (dq d.x)))/\ah w F:=by refine Qe.ok _ w _ ?_;have e:ah w (w.alloc (.cells #[.slice none 0 0] q3)):=Fr.alloc _ _ _;have lt:=Xe W;refine(PX (fv.new w) (j.st λC=>e.cb _ C id) ((cX d).st w _ (λb G B=>e.cb _ B id) h) (by have:=eb.lt j;simp;omega) (λy k=>by have:=(cX d).lt w h y k;simp;omega) W (by simp)).mono ?_;rintro r K ⟨rfl,I,q,z,H⟩;rw[lr]at q;refine⟨rfl,(E1 q (by omega)).mono ?_⟩;rintro r L ⟨s,rfl,E,A,_⟩;refine⟨s,rfl,_,lZ E.rd,rfl,?_⟩;exact(e.trans z λy k D=>by simp at D;omega).dD A
def zu{a b:Nat}(d:a<256)(e:b<256)(h:cI a=cI b):a=b:=by have:=congrArg UInt8.toNat h;simp at this;omega
def xF:∀(n m:Nat) (r s:List UInt8),dU n++r=dU m++s->n=m/\r=s:=by
 intro n;induction n using Nat.strongRecOn with
 |_ n k=>
  intro m r s d;by_cases h:n<128<;>by_cases e:m<128
  .rw [k6 h,k6 e]at d;simp only[i2,lr,List.cons.injEq]at d;exact⟨zu (by omega) (by omega) d.1,d.2⟩
  .rw [k6 h,l2 e]at d;simp only[i2,lr,List.cons.injEq]at d;have:=zu (by omega) (by omega) d.1;omega
  .rw [l2 h,k6 e]at d;simp only[i2,lr,List.cons.injEq]at d;have:=zu (by omega) (by omega) d.1;omega
  .rw [l2 h,l2 e]at d;simp only[i2,List.cons.injEq]at d;have q:=zu (by omega) (by omega) d.1;have j:=k (n / 128) (by omega) _ _ _ d.2;exact⟨by omega,j.2⟩
def aaJ{a b:Int}(h:zz a=zz b):a=b:=by unfold zz at h;split at h<;>split at h<;>omega
def ql{n m:Int}{r s:List UInt8}(h:bL n++r=bL m++s):n=m/\r=s:=by have:=xF _ _ _ _ h;exact⟨aaJ this.1,this.2⟩
def Ie:∀{a b:List Int} {r s:List UInt8},a.length=b.length->a.flatMap bL++r=b.flatMap bL++s->a=b/\r=s
 |[],[],_,_,_,e=>⟨rfl,e⟩
 |[],_::_,_,_,d,_=>by simp at d
 |_::_,[],_,_,d,_=>by simp at d
 |w::a,x::b,r,s,d,e=>by simp only[List.flatMap_cons,cp]at e;obtain⟨h,j⟩:=ql e;obtain⟨k,q⟩:=Ie (a:=a) (b:=b) (by simpa using d) j;exact⟨by rw[h,k],q⟩
def UA{a b:List Int}{r s:List UInt8}(h:cG a++r=cG b++s):a=b/\r=s:=by unfold cG at h;simp only[cp]at h;obtain⟨d,e⟩:=xF _ _ _ _ h;exact Ie d e
def UB{a b r s:List UInt8}(h:dJ a++r=dJ b++s):a=b/\r=s:=by unfold dJ at h;simp only[cp]at h;obtain⟨d,e⟩:=xF _ _ _ _ h;exact List.append_inj e d
def Xd{n m:Nx}(Y:0<=n.u)(W:0<=m.u)(h:dq n=dq m):n=m:=by
 unfold dq at h;obtain⟨d,h⟩:=ql h;obtain⟨e,h⟩:=UA h;obtain⟨j,h⟩:=ql h;obtain⟨k,h⟩:=ql h;obtain⟨B,h⟩:=xF _ _ _ _ h;obtain⟨q,h⟩:=UB h;obtain⟨w,h⟩:=ql h;obtain⟨x,h⟩:=ql h;have y:=(ql (r:=[]) (s:=[]) (by simpa using h)).1;have z:n.u=m.u:=by omega
 have A:n.tx=m.tx:=by
  have:=congrArg ba q
  rwa[lX,lX]at this
 obtain⟨C,D,E,F,G,H,⟨I,K,L⟩⟩:=n;obtain⟨M,N,O,P,Q,S,⟨T,U,V⟩⟩:=m;simp only at d e j k z A w x y;clear B q;subst d e j k z A w x y;rfl
def jX(n:Nx):ByteArray:=ba (dq n)
def VS{n m:Nx}(e:0<=n.u)(d:0<=m.u)(h:jX n=jX m):n=m:=by
 refine Xd e d ?_;have:=congrArg bl h;unfold jX at this
 rwa[mG,mG]at this
def jN(es:Array MapEntry)(ms:List (ByteArray×ab)):Prop:=es.toList.map (λd=>(d.key,d.val))=ms.map λp=>(Value.string p.1,p.2)
def jA(ms:List (ByteArray×ab))(k:ByteArray):Option ab:=(ms.find? λp=>aq (p.1=k)).map (·.2)
def Sf(a b:ByteArray):(a==b)=aq (b=a):=by
 cases d:aq (b=a)with
 |true=>rw[ew d];exact(Go.MapKept.bytes_beq _ _).2 rfl
 |false=>
  cases e:(a==b)with
  |false=>rfl
  |true=>exact absurd ((Go.MapKept.bytes_beq _ _).1 e).symm (g5 d)
def BJ{k:ByteArray}:∀{es:List MapEntry} {ms:List (ByteArray×ab)} {i:Nat},es.map (λh=>(h.key,h.val))=ms.map (λp=>(Value.string p.1,p.2))->
  Instr.findNow .string (.string k) es i=some ((ms.findIdx? λp=>aq (p.1=k)).bind λe=>(ms[e]?).map λp=>(i+e,p.2))
 |[],[],i,_=>rfl
 |[],_::_,_,d=>by simp at d
 |_::_,[],_,d=>by simp at d
 |h::es,p::ms,i,d=>by
  simp only[List.map_cons,List.cons.injEq,eu]at d;obtain⟨⟨w,x⟩,y⟩:=d;have z:=BJ (k:=k) (i:=i+1) y;unfold Instr.findNow;simp only[w,Instr.sameNow,Sf];by_cases j:p.1=k
  .have q:aq (p.1=k)=true:=aP j;simp[List.findIdx?_cons,j,x]
  .have q:aq (p.1=k)=false:=aV j;simp only[z,List.findIdx?_cons,q,Bool.false_eq_true,if_false];congr 1;cases A:ms.findIdx? (λp=>aq (p.1=k))with
   |none=>simp
   |some e=>simp[Nat.add_assoc,Nat.add_comm 1 e]
def O5{ms:List (ByteArray×ab)}{k:ByteArray}{i:Nat}:(((ms.findIdx? λp=>aq (p.1=k)).bind λd=>(ms[d]?).map λp=>(i+d,p.2)).map (·.2))=jA ms k:=by
 unfold jA;induction ms generalizing i with
 |nil=>rfl
 |cons p ms j=>
  by_cases e:p.1=k
  .simp [List.findIdx?_cons,e]
  .have h:aq (p.1=k)=false:=aV e;simp only[List.findIdx?_cons,h,Bool.false_eq_true,if_false,List.find?_cons];rw[<-j (i:=i+1)];cases q:ms.findIdx? (λp=>aq (p.1=k))with
   |none=>simp
   |some d=>simp[Function.comp_def]
structure w3(P:aF)(T kt et:aC)(z:ab):Prop where
 hT:P.underlying T=some (.map kt et)
 hk:P.underlying kt=some .string
 hz:(P.info? et).map (·.zero)=some (some z)
def GI{P:aF}{d:aC}(e:P.underlying d=some .string)(b:Bool)(k:ByteArray)(w:J):(Instr.checkKey b 10000 d (.string k)).run P w=.ok () w:=by unfold Instr.checkKey;simp[run_underlying e]
def Js{P:aF}{T D x:aC}{z:ab}(e:w3 P T D x z){w:J}{h:Nat}{es:Array MapEntry}{clock:Nat}{ms:List (ByteArray×ab)}(B:w.heap[h]? =some (.map es clock))(C:jN es ms)(k:ByteArray):
  (Instr.lookup T (.map (some h)) (.string k) true).run P w=.ok (.tuple #[(jA ms k).getD z,.bool (jA ms k).isSome]) w:=by
 have y:=BJ (k:=k) (i:=0) C;have A:(getObj h).run P w=.ok (.map es clock) w:=by simp[getObj,kQ,B]
 have d:=O5 (ms:=ms) (k:=k) (i:=0);unfold Instr.lookup Instr.findKey;simp only[Sem.run_bind,run_underlying e.hT,Result.andThen_ok,A,Sem.run_pure,GI e.hk,run_underlying e.hk,y];cases j:((ms.findIdx? λp=>aq (p.1=k)).bind λq=>(ms[q]?).map λp=>(0+q,p.2))with
 |none=>rw[j]at d;simp[<-d,Rc e.hz]
 |some E=>rw[j]at d;simp[<-d]
def Qz{P:aF}{T H B:aC}{z:ab}(q:w3 P T H B z){w:J}{d:Nat}{es:Array MapEntry}{clock:Nat}{ms:List (ByteArray×ab)}(h:w.heap[d]? =some (.map es clock))(j:jN es ms)(k:ByteArray)(v:ab)(F:jA ms k=none):
  ∃e x,(Instr.mapUpdate T (.map (some d)) (.string k) v).run P w=.ok () e/\e.heap[d]? =some (.map x (clock+1))/\jN x (ms++[(k,v)])/\Fr (λb=>b=d) w e/\e.heap.size=w.heap.size:=by
 have C:=BJ (k:=k) (i:=0) j;have D:(getObj d).run P w=.ok (.map es clock) w:=by simp[getObj,kQ,h]
 have y:=O5 (ms:=ms) (k:=k) (i:=0);have E:=lt_of_heap h;have G:((ms.findIdx? λp=>aq (p.1=k)).bind λA=>(ms[A]?).map λp=>(0+A,p.2))=none:=by rw[F]at y;simpa using y
 refine⟨{w with heap:=w.heap.setIfInBounds d (.map (es.push {key:=.string k,val:=v,born:=clock}) (clock+1))},es.push {key:=.string k,val:=v,born:=clock},?_,by simp[E],?_,Fr.setObj w d _ rfl,by simp⟩
 .unfold Instr.mapUpdate Instr.findKey;simp only[Sem.run_bind,run_underlying q.hT,Result.andThen_ok,D,GI q.hk,run_underlying q.hk,C,G];simp[setObj,kQ,h]
 .unfold jN at j ⊢;simp[j]
def iL:List Nx->Nat->List (ByteArray×ab)
 |[],_=>[]
 |d::g,i=>(jX d,.i (i:Int))::iL g (i+1)
def Nn(n:Nx):∀(g:List Nx) (i:Nat),iL (g++[n]) i=iL g i++[(jX n,.i ((i+g.length:Nat):Int))]
 |[],i=>by simp[iL]
 |d::g,i=>by have:=Nn n g (i+1);simp only[i2,iL,this,List.length_cons];rw[show i+1+g.length=i+(g.length+1)by omega]
def Dq{n:Nx}(q:0<=n.u):∀{g:List Nx} {i:Nat},(∀d∈g,0<=d.u)->jA (iL g i) (jX n)=(hg n g i).map λk:Nat=>.i (k:Int)
 |[],i,_=>rfl
 |d::g,i,j=>by
  have w:=Dq q (g:=g) (i:=i+1) λe x=>j e (by simp[x]);unfold jA at w ⊢;unfold iL hg;by_cases h:d=n
  .subst h;simp
  .have y:¬jX d=jX n:=λe=>h (VS (j d (by simp)) q e);rw[af h,List.find?_cons];simp only[aV y];exact w
def hS:List Nx->List (ByteArray×ab)
 |[]=>[]
 |d::g=>if d.op=0 then(d.tx,dO d.st)::hS g else hS g
def QC(n:Nx):∀(g:List Nx),hS (g++[n])=hS g++(if n.op=0 then[(n.tx,dO n.st)]else[])
 |[]=>by unfold hS;simp only[lr,hS]
 |d::g=>by have:=QC n g;simp only[i2,hS,this];split<;>simp
def EY(t:ByteArray):∀(g:List Nx),jA (hS g) t=(jG g t).map dO
 |[]=>rfl
 |k::g=>by
  have j:=EY t g;unfold jA at j ⊢;unfold hS jG;by_cases d:k.op=0
  .rw [aj d,List.find?_cons];by_cases e:k.tx=t
   .rw [aj ⟨d,e⟩];simp[e]
   .rw [af (λh=>e h.2)];simp only[aV e];exact j
  .rw [af d,af (λh=>d h.1)];exact j
end Go.Proofs.YthaledkcjibmfaaGreatDoor
