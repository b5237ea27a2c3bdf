import Derived.Test.YtocpddmpfbfdbaaGreatDoorGN
import Derived.Test.YtocpddmpfbfdbaaGreatDoorW
import Derived.Test.YtocpddmpfbfdbaaGreatDoorNO
import Derived.Test.YtocpddmpfbfdbaaGreatDoorU
set_option linter.unusedVariables false
set_option linter.defProp false
namespace Go.Proofs.YtocpddmpfbfdbaaGreatDoor
open Go renaming World->I,Calls->ai,Value->ae,TypeId->aG,LoopState->e4
open Go.IntKind renaming wrap->ab
open _root_.Int renaming toNat->ag,tdiv->cz,tmod->dP,toNat_natCast->dJ
open _root_.ByteArray renaming mk->az
open Go.IntWalk renaming i64_in->a4
open Go.Builtin renaming append_->bb
open Go.Sem renaming run->a6
open _root_.Bool renaming and_eq_true->bn
open _root_.Nat renaming le_refl->bB,le_trans->bH,zero_le->dv
open _root_.UInt8 renaming ofNat->cS
open _root_.Prod.mk renaming injEq->ee
open _root_.Option.some renaming injEq->eT
open Go.Proofs.Tryz renaming prog->U
open _root_.Decidable renaming decide->ah
open Go.Ending renaming returned->V
open List renaming mem_append->a5,mem_cons->aB,not_mem_nil->a1,mem_of_getElem?->aI,getElem?_eq_getElem->bc,mem_map->cQ,length_drop->iO,mem_cons_of_mem->ec,mem_cons_self->ov
open Go Go.W
def KF:List UInt8:=[40,41,44,124,38,33,42]
def ew (l:List UInt8) (i:Nat):Tk×Nat:=
 if 0<=Go.Lib.indexByte KF (l.getD i 0) then (⟨l.getD i 0,0,0,[],i⟩,1)
 else if jo (l.getD i 0)=true then (⟨119,0,0,(l.drop i).takeWhile jo,i⟩,((l.drop i).takeWhile jo).length)
 else if l.getD i 0=91 then
  match jE l (i+1) with
  |none=>(⟨63,0,0,[],i⟩,1)
  |some (lo,m)=>
   if i+1+m<l.length/\l.getD (i+1+m) 0=45 then
    match jE l (i+1+m+1) with
    |none=>(⟨63,0,0,[],i⟩,1)
    |some (d,c)=>if i+1+m+(1+c)<l.length/\l.getD (i+1+m+(1+c)) 0=93/\lo.toNat<=d.toNat then (⟨114,lo,d,[],i⟩,1+m+(1+c)+1) else (⟨63,0,0,[],i⟩,1)
   else (⟨63,0,0,[],i⟩,1)
 else match jE l i with
  |some (b,e)=>(⟨114,b,b,[],i⟩,e)
  |none=>(⟨63,0,0,[],i⟩,1)
def yH (x:Tk×Nat):ae:=.tuple #[x.1.v,.int .i64 (x.2:Int)]
def zD {l:List UInt8} {i:Nat} {b:UInt8} {n:Nat} (c:jE l i=some (b,n)):(n=3\/n=4)/\i+n<=l.length:=by
 unfold jE at c;split at c
 .cases c;rename_i d;omega
 .split at c
  .cases c;rename_i d;omega
  .cases c
def Lm:∀(l:List UInt8) (m:Nat) (p:UInt8->Bool),m<=l.length->(∀h<m,p (l.getD h 0)=true)->(m<l.length->p (l.getD m 0)=false)->(l.takeWhile p)=l.take m
 |[],m,p,d,_,_=>by simp
 |c::l,0,p,d,_,e=>by have:p c=false:=e (by simp);simp [this]
 |c::l,m+1,p,d,j,e=>by have n:p c=true:=j 0 (by omega);rw [List.takeWhile_cons,aq n,List.take_succ_cons,Lm l m p (by simpa using d) (λh q=>by simpa using j (h+1) (by omega)) (λk=>by simpa using e (by simpa using k))]
def Hs (l:List UInt8) (i k:Nat):(l.drop i).getD k 0=l.getD (i+k) 0:=by rw [List.getD_eq_getElem?_getD,List.getD_eq_getElem?_getD,List.getElem?_drop]
def Ox (s:ByteArray) (hs:s.size<=900000) (i:Nat) (hi:i<s.size) (w:I):ai U B2 #[.string s,.int .i64 (i:Int)] w λr w'=>r=V (yH (ew (bl s) i))/\ao w w':=by
 have hl:(bl s).length=s.size:=ep s;refine rT.aD _ _ w _ ((bZ [] (λ_ h=>by cases h)).aL (bs:=[]) (λe w1 P=>⟨by omega,_,kh (i:=i) hi,?_⟩) (by simp));have P:LH F0 w w1 [.g e] []:=P;have bad:∀w',LH F0 w w' [.g e] []->ew (bl s) i=(⟨63,0,0,[],i⟩,1)->∀(D E F:Int) (G:ByteArray) (H:Int),rT.cB (i:Int) e D E F G H w' λr w'=>r=V (yH (ew (bl s) i))/\ao w w':=λw' O he _ _ _ _ _=>O.au (bs:=[e]) (λT y=>⟨by rw [he];rfl,y.fr⟩) (by simp);refine P.aA (DD _ _ _) ?_;rintro _ w2 rfl Z;refine ⟨_,rfl,?_⟩;show Y (ah (Go.Lib.indexByte KF _>=0)) _ _;refine aR (λq=>Z.au (bs:=[e]) (λT y=>⟨?_,y.fr⟩) (by simp)) (λq=>Z.aA (vY _ _) ?_)
 .unfold ew;rw [aq q];rfl
 rintro _ T rfl y;refine ⟨_,rfl,bE (λN=>?_) (λN=>iX (n:=91) (by omega) (λB:(bl s).getD i 0=91=>?_) (λB:(bl s).getD i 0≠91=>?_))⟩
 .
  have loop:∀(n j:Nat) (w':I),s.size - j<n->i<=j->j<=s.size->(∀x,i<=x->x<j->jo ((bl s).getD x 0)=true)->LH F0 w w' [.g e] []->∀(D E F:Int) (G:ByteArray) (H:Int),rT.b6 s (i:Int) e D E F G H (j:Int) w' λr w'=>r=V (yH (ew (bl s) i))/\ao w w':=by
   intro n;induction n with
   |zero=>intro j w' h;omega
   |succ n ih=>
    intro j w' hn ax hj ac W D E F G H;have done:(j<s.size->jo ((bl s).getD j 0)=false)->∀w',LH F0 w w' [.g e] []->rT.aY s (i:Int) e D E F G H (j:Int) w' λr w'=>r=V (yH (ew (bl s) i))/\ao w w':=λaw w' O=>by
     refine ⟨by omega,by omega,by omega,by omega,O.au (bs:=[e]) (λu d=>⟨?_,d.fr⟩) (by simp)⟩;have al:((bl s).drop i).takeWhile jo=((bl s).drop i).take (j - i):=by
      refine Lm _ _ _ (by rw [iO];omega) (λx hk=>?_) (λh=>?_)
      .rw [Hs];exact ac _ (by omega) (by omega)
      .rw [Hs,show i+(j - i)=j by omega];refine aw ?_;rw [iO] at h;omega
     have ak:(((bl s).drop i).take (j - i)).length=j - i:=by rw [List.length_take,iO];omega
     have aj:s.extract (ag (i:Int)) (ag (j:Int))=ba (((bl s).drop i).take (j - i)):=by
      have:bl (s.extract i j)=((bl s).drop i).take (j - i):=by unfold bl;rw [ByteArray.data_extract,Array.toList_extract,List.extract_eq_take_drop]
      rw [dJ,dJ,<-this,o3]
     have am:ab .i64 ((j:Int) - (i:Int))=((j - i:Nat):Int):=by rw [a4 _ (by omega)];omega
     rw [aj,am];unfold ew;rw [af q,aq N,al,ak];rfl
    refine rT.eV _ _ _ _ _ _ _ _ _ _ _ (aR (λh=>⟨by omega,_,kh (i:=j) (by omega),W.aA (vY _ _) ?_⟩) (λh=>done (λA=>by omega) w' W));rintro _ u rfl d;refine ⟨_,rfl,bE (λk=>?_) (λk=>done (λ_=>k) u d)⟩;rw [show ab .i64 ((j:Int)+1)=((j+1:Nat):Int) by rw [a4 _ (by omega)];omega];refine ih (j+1) u (by omega) (by omega) (by omega) (λx h1 h2=>?_) d _ _ _ _ _;by_cases hk:x=j
    .subst hk;exact k
    .exact ac x h1 (by omega)
  exact loop (s.size+1) i T (by omega) (bB _) (by omega) (λx h1 h2=>by omega) y _ _ _ _ _
 .have C:¬jo ((bl s).getD i 0)=true:=by rw [N];simp
  rw [show ab .i64 ((i:Int)+1)=((i+1:Nat):Int) by rw [a4 _ (by omega)];omega];refine y.aA (zJ s (i+1) (by omega) _) ?_;rintro _ L rfl z;cases k:jE (bl s) (i+1) with
  |none=>
   refine ⟨0,0,false,rfl,bd rfl (bad L z ?_ _ _ _ _ _)⟩;unfold ew;rw [af q,af C,aq B,k]
  |some K=>
   obtain ⟨lo,m⟩:=K;obtain ⟨hm,az⟩:=zD k;refine ⟨lo.toNat,m,true,rfl,?_⟩;try dsimp only
   rw [show ab .i64 (((i+1:Nat):Int)+(m:Int))=((i+1+m:Nat):Int) by rw [a4 _ (by omega)];omega];have ad:¬(i+1+m<(bl s).length/\(bl s).getD (i+1+m) 0=45)->ew (bl s) i=(⟨63,0,0,[],i⟩,1):=λh=>by unfold ew;rw [af q,af C,aq B,k];exact af h
   refine a9 rfl (aR (λh=>bad L z (ad (λA=>by omega)) _ _ _ _ _) (λh=>⟨by omega,_,kh (i:=i+1+m) (by omega),?_⟩));refine bE (λJ=>bad L z (ad (λA=>?_)) _ _ _ _ _) (λap=>?_)
   .rw [A.2] at J;exact absurd J (by decide)
   have aa:(bl s).getD (i+1+m) 0=45:=by
    have ae:(((bl s).getD (i+1+m) 0).toNat:Int)=45:=by simpa using ap
    have:((bl s).getD (i+1+m) 0).toNat=(45:UInt8).toNat:=by show _=45;omega
    exact UInt8.toNat_inj.1 this
   rw [show ab .i64 (((i+1+m:Nat):Int)+1)=((i+1+m+1:Nat):Int) by rw [a4 _ (by omega)];omega];refine z.aA (zJ s (i+1+m+1) (by omega) _) ?_;rintro _ u rfl d;cases Q:jE (bl s) (i+1+m+1) with
   |none=>
    refine ⟨0,0,false,rfl,bd rfl (bad u d ?_ _ _ _ _ _)⟩;unfold ew;rw [af q,af C,aq B,k];refine (aq ⟨by omega,aa⟩).trans ?_;rw [Q]
   |some K=>
    obtain ⟨S,c⟩:=K;obtain ⟨ay,aB⟩:=zD Q;refine ⟨S.toNat,c,true,rfl,?_⟩;try dsimp only
    rw [show ab .i64 (((i+1+m:Nat):Int)+ab .i64 (1+(c:Int)))=((i+1+m+(1+c):Nat):Int) by rw [a4 (1+(c:Int)) (by omega),a4 _ (by omega)];omega];have M:ew (bl s) i=if i+1+m+(1+c)<(bl s).length/\(bl s).getD (i+1+m+(1+c)) 0=93/\lo.toNat<=S.toNat then (⟨114,lo,S,[],i⟩,1+m+(1+c)+1) else (⟨63,0,0,[],i⟩,1):=by unfold ew;rw [af q,af C,aq B,k];refine (aq ⟨by omega,aa⟩).trans ?_;rw [Q]
    refine a9 rfl (aR (λh=>bad u d (M.trans (af λA=>by omega)) _ _ _ _ _) (λh=>⟨by omega,_,kh (i:=i+1+m+(1+c)) (by omega),?_⟩));refine bE (λJ=>bad u d (M.trans (af λA=>?_)) _ _ _ _ _) (λar=>?_)
    .rw [A.2.1] at J;exact absurd J (by decide)
    have an:(bl s).getD (i+1+m+(1+c)) 0=93:=by
     have ae:(((bl s).getD (i+1+m+(1+c)) 0).toNat:Int)=93:=by simpa using ar
     have:((bl s).getD (i+1+m+(1+c)) 0).toNat=(93:UInt8).toNat:=by show _=93;omega
     exact UInt8.toNat_inj.1 this
    refine aR (λav=>bad u d (M.trans (af λA=>by omega)) _ _ _ _ _) (λav=>d.au (bs:=[e]) (λw6 H6=>⟨?_,H6.fr⟩) (by simp));rw [M,aq ⟨by omega,an,by omega⟩];rw [show ab .i64 (ab .i64 (((i+1+m+(1+c):Nat):Int)+1) - (i:Int))=((1+m+(1+c)+1:Nat):Int) by rw [a4 (((i+1+m+(1+c):Nat):Int)+1) (by omega),a4 _ (by omega)];omega];rfl
 .have C:¬jo ((bl s).getD i 0)=true:=by rw [N];simp
  refine y.aA (zJ s i (by omega) _) ?_;rintro _ L rfl z;cases k:jE (bl s) i with
  |none=>
   refine ⟨0,0,false,rfl,a9 rfl (bad L z ?_ _ _ _ _ _)⟩;unfold ew;rw [af q,af C,af B,k]
  |some K=>
   obtain ⟨b,n⟩:=K;refine ⟨b.toNat,n,true,rfl,bd rfl (z.au (bs:=[e]) (λu d=>⟨?_,d.fr⟩) (by simp))⟩;unfold ew;rw [af q,af C,af B,k];rfl
structure Inv (S:SX) (m:Nat):Prop where
 lo:S.lo.length<=m
 sl:∀f∈S.lo,Small f m
 tp:Small S.tp m
 s1:S.st=1->0<=S.tp.k/\S.lo≠[]
 s2:S.st=2->0<=S.wd
def Small.mono {f:FX} {m n:Nat} (c:Small f m) (d:m<=n):Small f n:=⟨bH c.n' d,bH c.ar d,bH c.al d,bH c.an d,bH c.ca d⟩
def DL (k:Int) (m:Nat):Small (ka k) m:=⟨dv _,dv _,dv _,dv _,dv _⟩
def uZ {f:FX} {m:Nat} (c:Small f m) (x:Rx):Small (h' f x) m:=⟨c.n',c.ar,c.al,c.an,c.ca⟩
def A3 {t:Tk} {S k:SX} {m:Nat} (u:S.lo.length<=m) (h:∀f∈S.lo,Small f (m+1)) (e:Small S.tp (m+1)) (w:S.tp.n<=m) (d:fv t S=some k):Inv k (m+1):=by
 have q:∀f∈S.lo++[S.tp],Small f (m+1):=λf j=>by
  rcases a5.1 j with j|j
  .exact h f j
  .simp at j;subst j;exact e
 unfold fv at d;split at d
 .cases d;exact ⟨by show S.lo.length<=_;omega,h,⟨by show S.tp.n+1<=_;omega,e.ar,e.al,e.an,e.ca⟩,λc=>(by simp at c),λc=>(by simp at c)⟩
 .split at d
  .cases d;exact ⟨by simp;omega,q,DL _ _,λc=>(by simp at c),λc=>(by simp at c)⟩
  .split at d
   .cases d;exact ⟨by show S.lo.length<=_;omega,h,uZ e _,λc=>(by simp at c),λc=>(by simp at c)⟩
   .split at d
    .split at d
     .cases d;exact ⟨by show S.lo.length<=_;omega,h,uZ e _,λc=>(by simp at c),λc=>(by simp at c)⟩
     .split at d
      .cases d;exact ⟨by show S.lo.length<=_;omega,h,uZ e _,λc=>(by simp at c),λc=>(by simp at c)⟩
      .split at d
       .cases d;exact ⟨by show S.lo.length<=_;omega,h,e,λc=>(by simp at c),λ_=>by show (0:Int)<=4;decide⟩
       .split at d
        .cases d;exact ⟨by show S.lo.length<=_;omega,h,e,λc=>(by simp at c),λ_=>by show (0:Int)<=5;decide⟩
        .split at d
         .cases d;exact ⟨by show S.lo.length<=_;omega,h,e,λc=>(by simp at c),λ_=>by show (0:Int)<=3;decide⟩
         .cases d
    .cases d
def F6 {S h:SX} {l:List Rx} {m:Nat} (e:Inv S m) (d:kB S l=some h):Inv h (m+1):=by
 unfold kB at d;rcases pG S.lo with c|⟨a,g,c⟩
 .rw [c] at d;simp at d
 .rw [c] at d;simp at d;subst d;have j:=e.lo;rw [c] at j;simp at j;exact ⟨by show a.length<=_;omega,λf k=>(e.sl f (by rw [c];simp [k])).mono (by omega),uZ ((e.sl g (by rw [c];simp)).mono (by omega)) _,λc=>(by simp at c),λc=>(by simp at c)⟩
def AD {s':O} {t:Tk} {S u:SX} {m:Nat} (e:Inv S m) (c:ft s' t S=some u):Inv u (m+1):=by
 have q:=e.lo;have j:∀f∈S.lo,Small f (m+1):=λf k=>(e.sl f k).mono (by omega);have h:Small S.tp (m+1):=e.tp.mono (by omega);have w:=e.tp.n';unfold ft at c;split at c
 .rename_i n;split at c
  .cases c;refine ⟨by simp;omega,λf k=>?_,DL _ _,λ_=>⟨e.s2 n,by simp⟩,λd=>(by simp at d)⟩;rcases a5.1 k with k|k
   .exact j f k
   .simp at k;subst k;exact h
  .cases c
 .rename_i n;split at c
  .split at c
   .exact F6 e c
   .exact A3 q j h w c
  .rename_i x;split at c
   .exact A3 q j h w c
   .split at c
    .cases c;exact ⟨by show S.lo.length<=_;omega,j,uZ h _,λd=>absurd d x,λd=>absurd d n⟩
    .split at c
     .cases c;refine ⟨by show S.lo.length<=_;omega,j,⟨dv _,h.ar,h.al,?_,dv _⟩,λd=>(by simp at d),λd=>(by simp at d)⟩;have:=e.tp.an;show (S.tp.an++[_]).length<=_;simp;omega
     .split at c
      .cases c;refine ⟨by show S.lo.length<=_;omega,j,⟨dv _,h.ar,?_,dv _,dv _⟩,λd=>(by simp at d),λd=>(by simp at d)⟩;have:=e.tp.al;show (S.tp.al++[_]).length<=_;simp;omega
      .split at c
       .split at c
        .cases c
        .cases c;refine ⟨by show S.lo.length<=_;omega,j,⟨dv _,?_,dv _,dv _,dv _⟩,λd=>(by simp at d),λd=>(by simp at d)⟩;have:=e.tp.ar;show (S.tp.ar.2++[_]).length<=_;simp;omega
       .split at c
        .split at c
         .cases c
         .exact F6 e c
        .split at c
         .split at c
          .cases c;exact ⟨by omega,j,h,e.s1,e.s2⟩
          .cases c
         .refine A3 (S:=⟨S.lo,iI S.tp,S.st,S.wd⟩) q j ⟨dv _,h.ar,h.al,h.an,?_⟩ (dv _) c;have:=e.tp.ca;show (S.tp.ca++[_]).length<=_;simp;omega
def PA {s':O} {t:Tk} {S:SX} (c:t.k=63):ft s' t S=none:=by
 have it:∀S,fv t S=none:=λS=>by unfold fv;rw [c];rfl
 unfold ft;rw [it,it,c];split
 .rfl
 .split
  .rfl
  .split
   .rfl
   .rfl
def iV (l:List UInt8):Nat->Nat->List Tk
 |0,_=>[]
 |c+1,i=>if i<l.length then (if l.getD i 0=32 then iV l c (i+1) else (ew l i).1::iV l c (i+(ew l i).2)) else [⟨36,0,0,[],l.length⟩]
def oY:List Tk->SX->Int⊕SX->Prop
 |[],c,r=>r=.inr c
 |t::h,c,r=>∃e,(ft e t c=none/\r=.inl t.a)\/∃d,ft e t c=some d/\oY h d r
def LR {l:List UInt8} {i:Nat} (hi:i<l.length):1<=(ew l i).2/\i+(ew l i).2<=l.length:=by
 unfold ew;split
 .simp;omega
 .split
  .rename_i c;have d:(l.drop i)=l.getD i 0::l.drop (i+1):=by rw [List.drop_eq_getElem_cons hi,List.getD_eq_getElem?_getD,bc hi];rfl
   have j:1<=((l.drop i).takeWhile jo).length:=by rw [d,List.takeWhile_cons,aq c];simp
   have e:((l.drop i).takeWhile jo).length<=(l.drop i).length:=(List.takeWhile_prefix (p:=jo) (l:=l.drop i)).length_le;rw [iO] at e;simp only;omega
  .split
   .split
    .simp;omega
    .split
     .split
      .simp;omega
      .split
       .rename_i c;simp only;omega
       .simp;omega
     .simp;omega
   .split
    .rename_i h;have:=zD h;simp only;omega
    .simp;omega
abbrev Ea (t:Tk):List ae:=[.int .u8 (t.k.toNat:Int),.int .u8 (t.lo.toNat:Int),.int .u8 (t.hi.toNat:Int),.string (ba t.s),.int .i64 t.a]
def q0:En:=⟨[],λ_=>True,λ_ _ _ c=>c,λ_ _ b d=>by simp at d,by simp⟩
abbrev k0 (t2 t3 t4 D l_ bs:Nat) (s:ByteArray) (d e:ae) (o:Obj):List En:=[.c t2 [.int .i64 0,.int .u8 0,.int .u8 0,.slice none 0 0] aK,.c t3 [d] bX,.c t4 [e] LV,.ob D (.deferred (some [])),.ob l_ o,.c bs [.string s] dy]
def PS (w0 w:I) (rb:Nat) (G:List En) (S:SX):Prop:=∃(d:O) (c:List FM) (f:FM) (ts:List J) (p:Addr),c.map FM.x=S.lo/\f.x=S.tp/\(∀g∈c++[f],∀t∈g.ts,t∈ts)/\d.a=some p/\(∀b∈J.a' ts,w0.heap.size<=b)/\SF F0 w0 w rb d S.st S.wd c f G ts
def PE (w0 w:I) (rb:Nat) (G:List En):Prop:=∃(d:O) (c:List FM) (f:FM) (ts:List J) (st e:Int),SF F0 w0 w rb d st e c f G ts
section
variable {s:ByteArray} {w0:I} {rb t2 t3 t4 D l_ bs:Nat} {o_:e4->Option Code->Obj}
abbrev EC (s:ByteArray) (rb t2 t3 t4 l_ bs:Nat) (o_:e4->Option Code->Obj):Prop:=
 ∀(h j k:Int) (n:ByteArray) (q:Int) (c:I) (d:Bool->I->Prop),c.heap[l_]? =some (o_ .ready none)->Dm.mF l_ o_ s (aj t2) (aj t3) (aj t4) (aj rb) (aj bs) h j k n q c (λu w=>∃e:Bool,u=V (.bool e)/\d e w)->W.kY U l_ #[.agg #[.int .u8 h,.int .u8 j,.int .u8 k,.string n,.int .i64 q]] c d
def I7 (hY:EC s rb t2 t3 t4 l_ bs o_) {S:SX} {m:Nat} (q:Inv S m) (hm:m<=900000) (t:Tk) {e:En} {w:I} (H:PS w0 w rb (k0 t2 t3 t4 D l_ bs s (.int .i64 0) (.int .i64 0) (o_ .ready none)++[e]) S) {K:Bool->I->Prop}
  (ad:∀k h,ft h t S=none->PE w0 k rb (k0 t2 t3 t4 D l_ bs s (.int .i64 t.a) (.int .i64 2) (o_ .done (some .ret))++[e])->K false k)
  (ae:∀k h B,ft h t S=some B->PS w0 k rb (k0 t2 t3 t4 D l_ bs s (.int .i64 0) (.int .i64 0) (o_ .ready none)++[e]) B->K true k):W.kY U l_ #[t.v] w K:=by
 obtain ⟨lo,ai,st,wd⟩:=S;obtain ⟨sl,E,f,ts,p,u,y,Z,h4,hb,H⟩:=H;have u:E.map FM.x=lo:=u;have y:f.x=ai:=y;subst u y;refine hY _ _ _ _ _ w K (H.ob 7) ?_;refine H.nw λw1 _ M=>M.KU 10 rfl λw2 N=>N.pu 7 rfl λw3 d=>⟨_,_,_,_,_,d.ld 10 0,d.ld 10 1,d.ld 10 2,d.ld 10 3,d.ld 10 4,?_⟩;have O:SF F0 w0 w3 rb sl st wd E f (k0 t2 t3 t4 D l_ bs s (.int .i64 0) (.int .i64 0) (o_ .busy none)++[e,.c w.heap.size (Ea t) mB]) ts:=d;refine O.wa Z h4 (λak ag=>NZ ag (bH q.lo (by omega)) (q.tp.mono (by omega)) q.s1 t) ?_;rintro r w4 G F C p4 ah aj J al aa ab Y ⟨h,af⟩ z;rcases af with ⟨hn,rfl⟩|⟨hs,rfl⟩
 .refine ⟨false,rfl,bd rfl ?_⟩;refine z.dr λL n=>⟨t.a,n.ld 10 4,n.jq 3 rfl λw6 A=>⟨A.ld 10 4,A.kQ 4 rfl λw7 P=>P.kQ 5 rfl λw8 Q=>Q.pu 7 rfl λw9 T=>⟨false,rfl,ad w9 h hn ⟨G,F,C,J,ah,aj,?_⟩⟩⟩⟩;exact T.take 10
 .refine ⟨true,rfl,a9 rfl (z.pu 7 rfl λL n=>⟨true,rfl,ae L h _ hs ⟨G,F,C,J,p4,rfl,rfl,aa,ab,λb ac=>?_,n.take 10⟩⟩)⟩;rcases Y b ac with j|j|j
  .exact hb b j
  .exact j
  .exact j.elim
def MT (w0:I) (rb t2 t3 t4 D l_ bs:Nat) (s:ByteArray) (o_:e4->Option Code->Obj) (w':I):Int⊕SX->Prop
 |.inl a=>PE w0 w' rb (k0 t2 t3 t4 D l_ bs s (.int .i64 a) (.int .i64 2) (o_ .done (some .ret)))
 |.inr c=>PS w0 w' rb (k0 t2 t3 t4 D l_ bs s (.int .i64 0) (.int .i64 0) (o_ .ready none)) c
def Sn (hs:s.size<=4096) (hY:EC s rb t2 t3 t4 l_ bs o_) (R:aa):∀(n i m:Nat) (S:SX) (w:I),s.size - i<n->i<=s.size->Inv S m->m+n<=900000->
  PS w0 w rb (k0 t2 t3 t4 D l_ bs s (.int .i64 0) (.int .i64 0) (o_ .ready none)) S->
  (∀F res,oY (iV (bl s) n i) S res->MT w0 rb t2 t3 t4 D l_ bs s o_ F res->R (V (.tuple #[])) F)->yp.L0 l_ (aj bs) (i:Int) w R:=by
 intro n;induction n with
 |zero=>intro i m S w ag;omega
 |succ n ih=>
  intro i m S w hn hi H hm hP u;have hl:(bl s).length=s.size:=ep s;have al:=hP;obtain ⟨sl,M,f,ts,p,ah,ai,h3,h4,J,B⟩:=al;refine yp.b5 _ _ _ _ _ ⟨s,B.jN 8,aR (λag=>⟨s,B.jN 8,by omega,_,kh (i:=i) (by omega),iX (n:=32) (by omega) (λQ:(bl s).getD i 0=32=>?_) (λQ:(bl s).getD i 0≠32=>⟨s,B.jN 8,B.call (Ox s (by omega) i (by omega) w) ?_⟩)⟩) (λag=>⟨s,B.jN 8,?_⟩)⟩
  .rw [show ab .i64 ((i:Int)+1)=((i+1:Nat):Int) by rw [a4 _ (by omega)];omega];refine ih (i+1) m S w (by omega) (by omega) H (by omega) hP (λF res Z T=>u F res ?_ T);unfold iV;rw [aq (by omega),aq Q];exact Z
  .rintro _ w1 rfl K;have am:=LR (l:=bl s) (i:=i) (by omega);have L:iV (bl s) (n+1) i=(ew (bl s) i).1::iV (bl s) n (i+(ew (bl s) i).2):=by rw [iV,aq (by omega),af Q]
   rw [L] at u;refine ⟨_,_,_,_,_,_,rfl,K.nw λw2 _ H2=>H2.KU 9 rfl λw7 C=>⟨_,_,_,_,_,C.ld 9 0,C.ld 9 1,C.ld 9 2,C.ld 9 3,C.ld 9 4,?_⟩⟩;have ak:SF F0 w0 w7 rb sl S.st S.wd M f (k0 t2 t3 t4 D l_ bs s (.int .i64 0) (.int .i64 0) (o_ .ready none)++[.c w1.heap.size (Ea (ew (bl s) i).1) mB]) ts:=C;refine I7 hY H (by omega) (ew (bl s) i).1 (e:=.c w1.heap.size (Ea (ew (bl s) i).1) mB) ⟨sl,M,f,ts,p,ah,ai,h3,h4,J,ak⟩ (λA x Y q=>bd rfl (u A (.inl (ew (bl s) i).1.a) ⟨x,.inl ⟨Y,rfl⟩⟩ ?_)) (λA x G E q=>a9 rfl ?_)
   .obtain ⟨y,j,h,z,ad,ae,d⟩:=q;exact ⟨y,j,h,z,ad,ae,d.take 9⟩
   .obtain ⟨y,j,h,z,p8,W,ac,N,O,P,d⟩:=q;refine ⟨_,d.ld 9 0,iX (n:=63) (by omega) (λhk:(ew (bl s) i).1.k=63=>?_) (λhk=>?_)⟩
    .rw [PA hk] at E;cases E
    .rw [show ab .i64 ((i:Int)+((ew (bl s) i).2:Int))=((i+(ew (bl s) i).2:Nat):Int) by rw [a4 _ (by omega)];omega];refine ih (i+(ew (bl s) i).2) (m+1) G A (by omega) (by omega) (AD H E) (by omega) ⟨y,j,h,z,p8,W,ac,N,O,P,d.take 9⟩ (λF res Z T=>u F res ⟨x,.inr ⟨G,E,Z⟩⟩ T)
  .have L:iV (bl s) (n+1) i=[⟨36,0,0,[],(bl s).length⟩]:=by rw [iV,af (by omega)]
   rw [L,hl] at u;have K:=B.push q0 (Fr.refl _ _) trivial (λb J=>by cases J);refine I7 hY H (by omega) ⟨36,0,0,[],(s.size:Int)⟩ (e:=q0) ⟨sl,M,f,ts,p,ah,ai,h3,h4,J,K⟩ (λA x Y q=>u A (.inl (s.size:Int)) ⟨x,.inl ⟨Y,rfl⟩⟩ ?_) (λA x G E q=>u A (.inr G) ⟨x,.inr ⟨G,E,rfl⟩⟩ ?_)
   .obtain ⟨y,j,h,z,ad,ae,d⟩:=q;exact ⟨y,j,h,z,ad,ae,d.take 9⟩
   .obtain ⟨y,j,h,z,p8,W,ac,N,O,P,d⟩:=q;exact ⟨y,j,h,z,p8,W,ac,N,O,P,d.take 9⟩
end
def pV:∀(a b:List Rx),Rx.aU (a++b)=Rx.aU a+Rx.aU b
 |[],b=>by simp [Rx.aU]
 |c::a,b=>by have:=pV a b;show c.sz+Rx.aU (a++b)=(c.sz+Rx.aU a)+Rx.aU b;omega
def nD (x:Rx):Rx.aU [x]=x.sz:=by simp [Rx.aU]
def CP (k:Int) (l:List Rx):(nm k l).sz<=1+Rx.aU l:=by
 unfold nm;split
 .rw [nD];omega
 .unfold Rx.sz;omega
def CJ:∀(n:Nat) (r:Rx),(ml n r).sz=n+r.sz
 |0,r=>by unfold ml;omega
 |n+1,r=>by unfold ml;rw [CJ n];unfold Rx.sz;rw [nD];cases r;simp only [Rx.sz];omega
def fz (f:FX):Nat:=Rx.aU f.ar.2+Rx.aU f.al+Rx.aU f.an+Rx.aU f.ca+f.n
def lz:List FX->Nat
 |[]=>0
 |f::l=>fz f+lz l
def wX:∀(a b:List FX),lz (a++b)=lz a+lz b
 |[],b=>by simp [lz]
 |c::a,b=>by have:=wX a b;show fz c+lz (a++b)=(fz c+lz a)+lz b;omega
def pz (S:SX):Nat:=lz S.lo+fz S.tp+(if S.st=0\/S.st=1\/S.st=2 then 0 else S.tp.la.sz)
def Db (S:SX):pz S<=lz S.lo+fz S.tp+S.tp.la.sz:=by unfold pz;split<;>omega
def SE (S:SX):lz S.lo+fz S.tp<=pz S:=by unfold pz;omega
def np {S:SX} (c:S.st=0\/S.st=1\/S.st=2):pz S=lz S.lo+fz S.tp:=by unfold pz;rw [aq c];omega
def Jm {S:SX} (c:¬(S.st=0\/S.st=1\/S.st=2)):pz S=lz S.lo+fz S.tp+S.tp.la.sz:=by unfold pz;rw [af c]
def Qz (f:FX):fz (iI f)=fz f+f.la.sz:=by unfold fz iI;simp only [pV,nD,CJ];omega
def Kx (f:FX):fz (jJ f)<=fz f+f.la.sz+1:=by have c:=CP 3 (f.ca++[ml f.n f.la]);simp only [pV,nD,CJ] at c;show Rx.aU f.ar.2+Rx.aU f.al+Rx.aU (f.an++[nm 3 (f.ca++[ml f.n f.la])])+Rx.aU []+0<=_;unfold fz;simp only [pV,nD,Rx.aU];omega
def Gg (f:FX):Rx.aU f.ar.2+Rx.aU (jI f).al<=fz f+f.la.sz+2:=by have d:=CP 5 (jJ f).an;have e:=Kx f;have c:fz (jJ f)=Rx.aU f.ar.2+Rx.aU f.al+Rx.aU (jJ f).an+0+0:=rfl;show Rx.aU f.ar.2+Rx.aU (f.al++[nm 5 (jJ f).an])<=_;simp only [pV,nD];omega
def O3 (f:FX):fz (jI f)<=fz f+f.la.sz+2:=by have:=Gg f;show Rx.aU f.ar.2+Rx.aU (jI f).al+Rx.aU []+Rx.aU []+0<=_;simp only [Rx.aU];omega
def AA (f:FX):Rx.aU f.ar.2+(eu f).sz<=fz f+f.la.sz+3:=by have c:=CP 4 (jI f).al;have:=Gg f;show _+(nm 4 (jI f).al).sz<=_;omega
def A4 {t:Tk} {S e:SX} (c:fv t S=some e):pz e<=lz S.lo+fz S.tp+1:=by
 have leaf:∀(k:Int) (a b:UInt8),(Rx.mk k a b []).sz=1:=λk a b=>by unfold Rx.sz;simp [Rx.aU]
 unfold fv at c;split at c
 .cases c;rw [np (.inl rfl)];show lz S.lo+(Rx.aU S.tp.ar.2+Rx.aU S.tp.al+Rx.aU S.tp.an+Rx.aU S.tp.ca+(S.tp.n+1))<=_;unfold fz;omega
 .split at c
  .cases c;rw [np (.inl rfl)];show lz (S.lo++[S.tp])+fz (ka (-1))<=_;rw [wX];have:fz (ka (-1))=0:=rfl;simp only [lz];omega
  .have d:∀(k:Int) (a b:UInt8),pz ⟨S.lo,h' S.tp (.mk k a b []),3,S.wd⟩<=lz S.lo+fz S.tp+1:=λk a b=>by refine bH (Db _) ?_;show lz S.lo+fz S.tp+(Rx.mk k a b []).sz<=_;rw [leaf];exact bB _
   split at c
   .cases c;exact d _ _ _
   .split at c
    .split at c
     .cases c;exact d _ _ _
     .split at c
      .cases c;exact d _ _ _
      .split at c
       .cases c;rw [np (.inr (.inr rfl))];show lz S.lo+fz S.tp<=_;omega
       .split at c
        .cases c;rw [np (.inr (.inr rfl))];show lz S.lo+fz S.tp<=_;omega
        .split at c
         .cases c;rw [np (.inr (.inr rfl))];show lz S.lo+fz S.tp<=_;omega
         .cases c
    .cases c
def F7 {S e:SX} {l:List Rx} (c:kB S l=some e):pz e<=lz S.lo+Rx.aU l+1:=by
 unfold kB at c;rcases pG S.lo with d|⟨a,g,d⟩
 .rw [d] at c;simp at c
 .rw [d] at c ⊢;simp at c;subst c;refine bH (Db _) ?_;show lz a+fz g+(lg S.tp.k l).sz<=_;rw [wX];have:(lg S.tp.k l).sz<=Rx.aU l+1:=by
   unfold lg;split
   .cases l with
    |nil=>exact (by show fg.sz<=_;unfold fg Rx.sz;simp [Rx.aU])
    |cons h l=>show h.sz<=_;unfold Rx.aU;omega
   .unfold Rx.sz;omega
  simp only [lz];omega
def PC {s':O} {t:Tk} {S e:SX} (c:ft s' t S=some e):pz e<=pz S+4:=by
 have q:=SE S;unfold ft at c;split at c
 .split at c
  .cases c;rw [np (.inr (.inl rfl))];show lz (S.lo++[S.tp])+fz (ka S.wd)<=_;rw [wX];have:fz (ka S.wd)=0:=rfl;simp only [lz];omega
  .cases c
 .rename_i n;split at c
  .split at c
   .have:=F7 c;simp only [Rx.aU] at this;omega
   .have:=A4 c;omega
  .rename_i k;split at c
   .have:=A4 c;omega
   .rename_i j;have u:=Jm (S:=S) (by rintro (d|d|d)<;>contradiction);split at c
    .cases c;refine bH (Db _) ?_;show lz S.lo+fz S.tp+(Rx.mk 7 0 0 [S.tp.la]).sz<=_;have:(Rx.mk 7 0 0 [S.tp.la]).sz=1+S.tp.la.sz:=by show 1+Rx.aU [S.tp.la]=_;rw [nD]
     omega
    .split at c
     .cases c;rw [np (.inl rfl)];show lz S.lo+fz (jJ S.tp)<=_;have:=Kx S.tp;omega
     .split at c
      .cases c;rw [np (.inl rfl)];show lz S.lo+fz (jI S.tp)<=_;have:=O3 S.tp;omega
      .split at c
       .split at c
        .cases c
        .cases c;rw [np (.inl rfl)];show lz S.lo+(Rx.aU (S.tp.ar.2++[eu S.tp])+Rx.aU []+Rx.aU []+Rx.aU []+0)<=_;have:=AA S.tp;simp only [pV,nD,Rx.aU];omega
       .split at c
        .split at c
         .cases c
         .have h:=F7 c;have:=AA S.tp;simp only [pV,nD] at h;omega
        .split at c
         .split at c
          .cases c;omega
          .cases c
         .have h:=A4 c;have:=Qz S.tp;have d:lz (SX.mk S.lo (iI S.tp) S.st S.wd).lo+fz (SX.mk S.lo (iI S.tp) S.st S.wd).tp=lz S.lo+fz (iI S.tp):=rfl;omega
def PB {s':O} {a:Int} {S d:SX} (c:ft s' ⟨36,0,0,[],a⟩ S=some d):d=S/\¬(S.st=0\/S.st=1\/S.st=2):=by
 have it:∀S,fv ⟨36,0,0,[],a⟩ S=none:=λS=>rfl;unfold ft at c;rw [it] at c;split at c
 .cases c
 .split at c
  .cases c
  .split at c
   .cases c
   .refine ⟨?_,by rintro (h|h|h)<;>contradiction⟩;have e:(if S.lo=[] then some S else none)=some d:=c;split at e
    .cases e;rfl
    .cases e
def DB (l:List UInt8):∀(n i:Nat) (S c:SX),l.length - i<n->oY (iV l n i) S (.inr c)->(eu c.tp).sz<=pz S+4 *n+4
 |0,i,S,c,x,_=>by omega
 |n+1,i,S,c,x,d=>by
  unfold iV at d;split at d
  .split at d
   .have:=DB l n (i+1) S c (by omega) d;omega
   .rename_i y _;have A:=LR y;obtain ⟨z,⟨_,k⟩|⟨e,h,j⟩⟩:=d
    .cases k
    .have:=DB l n (i+(ew l i).2) e c (by omega) j;have:=PC h;omega
  .obtain ⟨z,⟨_,k⟩|⟨e,h,j⟩⟩:=d
   .cases k
   .have q:c=e:=by have:Sum.inr c=(Sum.inr e:Int⊕SX):=j;cases this;rfl
    obtain ⟨u,w⟩:=PB h;subst q u;have:=Jm w;have:=AA c.tp;omega
def Rb {M:Nat->Prop} {w0 w:I} {L D:List En} (H:LH M w0 w L D) (is j:List Nat) (x:is.Perm j) (n:j.map (λc=>L.getD c q0)=L):LH M w0 w (is.map λc=>L.getD c q0) D:=by
 have h:(is.map λc=>L.getD c q0).Perm L:=by
  have:=x.map (λc=>L.getD c q0)
  rwa [n] at this
 exact ⟨H.fr,λd e=>H.own d (h.mem_iff.1 e),H.rd,λd e=>H.new d (h.mem_iff.1 e),((h.flatMap_right _).nodup_iff).2 H.nd,λd e b q k u=>H.dj d e b q k (h.mem_iff.1 u)⟩
def SW {c:I} {l:Nat} {o:e4->Option Code->Obj} {N:I->Prop} {X:Nat->I->Prop} {T:I->Prop} (d:g6 c l (o .ready none) (o .exhausted none) N):qE c l o N X T:=.inl d
def SY {c:I} {l:Nat} {o:e4->Option Code->Obj} {N:I->Prop} {X:Nat->I->Prop} {T:I->Prop} (d:g6 c l (o .done (some .ret)) (o .exhausted (some .ret)) T):qE c l o N X T:=.inr (.inr d)
def H9 {b:Nat} (c:b∈J.a' [.mk 0 0 0 ⟨none,0,0⟩ []]):False:=by have:=wM (ts:=[]) (k:=0) (lo:=0) (hi:=0) (b:=b) c;unfold J.a' at this;cases this
def r4:SX:=⟨[],ka (-1),0,0⟩
def HS:Inv r4 0:=by
 refine ⟨bB _,λf d=>?_,DL _ _,λc=>?_,λc=>?_⟩
 .cases d
 .have:(0:Int)=1:=c;omega
 .have:(0:Int)=2:=c;omega
def DA (l:List UInt8):∀(n i m:Nat) (S c:SX),Inv S m->oY (iV l n i) S (.inr c)->Inv c (m+n)
 |0,i,m,S,c,h,d=>by have k:(Sum.inr c:Int⊕SX)=.inr S:=d;cases k;exact h
 |n+1,i,m,S,c,h,d=>by
  have y:∀{S:SX} {a b:Nat},Inv S a->a<=b->Inv S b:=λe w=>⟨bH e.lo w,λf z=>(e.sl f z).mono w,e.tp.mono w,e.s1,e.s2⟩;unfold iV at d;split at d
  .split at d
   .exact y (DA l n _ m S c h d) (by omega)
   .obtain ⟨A,⟨_,x⟩|⟨j,q,u⟩⟩:=d
    .cases x
    .exact y (DA l n _ (m+1) j c (AD h q) u) (by omega)
  .obtain ⟨A,⟨_,x⟩|⟨j,q,u⟩⟩:=d
   .cases x
   .have k:(Sum.inr c:Int⊕SX)=.inr j:=u;cases k;exact y (AD h q) (by omega)
def MU (w:I) (s:ByteArray):aa:=λr d=>ao w d/\
 ((4096<s.size/\r=V (.tuple #[.agg #[.int .i64 0,.int .u8 0,.int .u8 0,.slice none 0 0],.int .i64 4096,.int .i64 4]))\/
  (s.size<=4096/\∃res,oY (iV (bl s) (s.size+1) 0) r4 res/\((∃a,res=.inl a/\r=V (.tuple #[.agg #[.int .i64 0,.int .u8 0,.int .u8 0,.slice none 0 0],.int .i64 a,.int .i64 2]))\/
   ∃c,res=.inr c/\((64<(eu c.tp).sz/\r=V (.tuple #[.agg #[.int .i64 0,.int .u8 0,.int .u8 0,.slice none 0 0],.int .i64 (s.size:Int),.int .i64 4]))\/
    ((eu c.tp).sz<=64/\∃t:J,r=V (.tuple #[t.v,.int .i64 0,.int .i64 0])/\t.rx=eu c.tp/\t.P d/\∀b∈t.fp,w.heap.size<=b)))))
def NQ (s:ByteArray) (w:I):ai U BV #[.string s] w (MU w s):=by
 refine Dm.ok _ w _ ((bZ [] (λ_ u=>by cases u)).nw λN _ H1=>H1.nw λQ _ H2=>H2.nw λw3 _ H3=>aR (λu=>?_) (λu=>?_))
 .refine H3.jq 0 rfl λw4 H4=>H4.kQ 1 rfl λw5 Y=>Y.kQ 2 rfl λw6 q=>⟨_,_,_,⟨none,0,0⟩,q.ld 0 0,q.ld 0 1,q.ld 0 2,q.ld 0 3,_,q.jN 1,_,q.jN 2,q.fr,.inl ⟨by omega,rfl⟩⟩
 have L:s.size<=4096:=by omega
 have hl:(bl s).length=s.size:=ep s;refine H3.eb (e:=g8) (sz:=10) (n:=1) (cs:=(iq (-1)).c) rfl (by decide) λO ag=>ag.nw λar _ T=>?_;refine T.kQ 4 rfl λau x=>x.st 4 1 rfl λae E=>E.st 4 2 rfl λB F=>?_;refine J8.ok _ B _ (F.nw λh _ k=>⟨_,rfl,?_⟩);show ∀A:e4->Option Code->Obj,_;intro A hY;have e1:(h.alloc (.deferred (some []))).heap.size=h.heap.size+1:=size_alloc _ _;have HG:=(k.alloc (.deferred (some []))).alloc (A .ready none);rw [e1] at HG;have hP:(En.rows (([]++[iq (-1)]:List FM).flatMap FM.rows)).P ((h.alloc (.deferred (some []))).alloc (A .ready none)):=by refine ⟨λaq K=>?_,by decide⟩;have K:aq∈[((⟨none,0,0⟩,[]):dK),(⟨none,0,0⟩,[]),(⟨none,0,0⟩,[]),(⟨none,0,0⟩,[])]:=K;simp only [aB,a1,a7,or_self] at K;subst K;exact aS.nil _ _ _
 have Ha:=(HG.push (.rows (([]++[iq (-1)]:List FM).flatMap FM.rows)) (Fr.refl _ _) hP (λb j=>by
  have j:=aT.1 j;have j:b∈([]:List Nat):=j;cases j)).fo (.trees [.mk 0 0 0 ⟨none,0,0⟩ []]) (Fr.refl _ _) (J.hS λt M=>by
   simp at M;subst M;show J.P _ _;unfold J.P J.Ps;exact ⟨bL.nil 4 _,trivial⟩) (λb j=>by exact (H9 (aT.1 j)).elim)
 have Hb:=Rb Ha [4,3,8,0,1,2,6,7,5] [0,1,2,3,4,5,6,7,8] (by decide) rfl;have ak:SF F0 w ((h.alloc (.deferred (some []))).alloc (A .ready none)) O.heap.size ⟨some (aj w3.heap.size),1,1⟩ 0 0 [] (iq (-1)) (k0 w.heap.size N.heap.size Q.heap.size h.heap.size (h.heap.size+1) B.heap.size s (.int .i64 0) (.int .i64 0) (A .ready none)) [.mk 0 0 0 ⟨none,0,0⟩ []]:=Hb;refine yp.ok _ _ _ _ (Sn (w0:=w) (rb:=O.heap.size) (t2:=w.heap.size) (t3:=N.heap.size) (t4:=Q.heap.size) (D:=h.heap.size) (l_:=h.heap.size+1) (bs:=B.heap.size) L hY _ (s.size+1) 0 0 r4 _ (by omega) (by omega) HS (by omega)
  ⟨_,[],iq (-1),_,_,rfl,rfl,λg hg t M=>?_,rfl,λb j=>?_,ak⟩ (λw' res G he=>⟨⟨_,rfl⟩,?_⟩))
 .simp at hg;subst hg;simpa [FM.ts,iq] using M
 .exact (H9 j).elim
 cases res with
 |inl a=>
  obtain ⟨sl,H,f,aa,st,aK,S⟩:=he;refine SY (S.pu 7 rfl λar T=>T.pu 6 rfl λh k=>⟨_,_,_,⟨none,0,0⟩,k.ld 3 0,k.ld 3 1,k.ld 3 2,k.ld 3 3,_,k.jN 4,_,k.jN 5,k.fr,.inr ⟨L,_,G,.inl ⟨a,rfl,rfl⟩⟩⟩)
 |inr z=>
  obtain ⟨sl,H,f,aa,p,ao,ac,h3,h4,j,S⟩:=he;have hI:=DA _ _ _ _ _ _ HS G;have ap:=DB _ _ _ _ _ (by omega) G;rw [show pz r4=0 from rfl] at ap;have an:H.length<=1000000:=by have:=hI.lo;rw [<-ao] at this;simp at this;omega
  refine SW (S.pu 7 rfl λw5 Y=>?_);have ab:SF F0 w w5 O.heap.size sl z.st z.wd H f (k0 w.heap.size N.heap.size Q.heap.size h.heap.size (h.heap.size+1) B.heap.size s (.int .i64 0) (.int .i64 0) (A .exhausted none)) aa:=Y;refine ab.call (vZ ab h4 an) ?_;rintro _ w6 rfl q;have ah:SF F0 w w6 O.heap.size sl z.st z.wd H f (k0 w.heap.size N.heap.size Q.heap.size h.heap.size (h.heap.size+1) B.heap.size s (.int .i64 0) (.int .i64 0) (A .exhausted none)) aa:=q;refine ⟨_,rfl,ah.wa h3 h4 (λaG s1=>vV s1 (by rw [ac];exact hI.tp.mono (by omega))) ?_⟩;rintro r w7 aH aw f3 p3 aI aL ad aJ ax ay al ⟨aD,aA,aC,rfl,rfl,y,Z,rfl,hx⟩ H7;rw [ac] at hx;have aF:y.sz=(eu z.tp).sz:=by rw [<-hx,J.ed]
  refine ⟨_,_,_,y.s,rfl,H7.nw λw8 _ H8=>H8.jq 9 rfl λw9 C=>⟨_,_,_,y.s,C.ld 9 0,C.ld 9 1,C.ld 9 2,C.ld 9 3,C.call (zU y w9 (by omega) ((show J.Ps w9 ad from C.getD 0).mem Z)) ?_⟩⟩;rintro _ au rfl x;refine ⟨_,rfl,aR (λaz=>?_) (λaE=>?_)⟩
  .refine x.jq 3 rfl λae E=>E.kQ 4 rfl λB F=>F.kQ 5 rfl λav W=>W.pu 6 rfl λaf d=>⟨_,_,_,⟨none,0,0⟩,d.ld 3 0,d.ld 3 1,d.ld 3 2,d.ld 3 3,_,d.jN 4,_,d.jN 5,d.fr,.inr ⟨L,_,G,.inr ⟨z,rfl,.inl ⟨by omega,rfl⟩⟩⟩⟩
  .refine ⟨_,_,_,y.s,x.ld 9 0,x.ld 9 1,x.ld 9 2,x.ld 9 3,x.jq 3 rfl λae E=>E.kQ 4 rfl λB F=>F.kQ 5 rfl λav W=>W.pu 6 rfl λaf d=>⟨_,_,_,y.s,d.ld 3 0,d.ld 3 1,d.ld 3 2,d.ld 3 3,_,d.jN 4,_,d.jN 5,d.fr,.inr ⟨L,_,G,.inr ⟨z,rfl,.inr ⟨by omega,y,rfl,hx,(show J.Ps af ad from d.getD 0).mem Z,λb am=>?_⟩⟩⟩⟩⟩;rcases al b (J.bR.2 ⟨y,Z,am⟩) with u|u|u
   .exact j b u
   .exact u
   .exact u.elim
def Ew:O:=⟨none,0,0⟩
def er (f:FX):FX:=⟨f.k,(Ew,f.ar.2),f.al,f.an,f.ca,f.n,f.la⟩
def e9 (S:SX):SX:=⟨S.lo.map er,er S.tp,S.st,S.wd⟩
def A2 (t:Tk) (S:SX):(fv t S).map e9=fv t (e9 S):=by
 have c:er (ka (-1))=ka (-1):=rfl;have d:(S.lo++[S.tp]).map er=S.lo.map er++[er S.tp]:=by simp
 unfold fv;split
 .rfl
 .split
  .simp only [Option.map_some,e9,c,d]
  .split
   .rfl
   .split
    .split
     .rfl
     .split
      .rfl
      .split
       .rfl
       .split
        .rfl
        .split<;>rfl
    .rfl
def F5 (S:SX) (l:List Rx):(kB S l).map e9=kB (e9 S) l:=by
 unfold kB;rcases pG S.lo with c|⟨a,g,c⟩
 .simp [c,e9]
 .have d:(e9 S).lo=a.map er++[er g]:=by simp [e9,c]
  rw [c,d];simp [e9];rfl
def Hd (s':O) (t:Tk) (S:SX):(ft s' t S).map e9=ft Ew t (e9 S):=by
 have j:(S.lo++[S.tp]).map er=S.lo.map er++[er S.tp]:=by simp
 have e:(e9 S).st=S.st:=rfl;have h:(e9 S).tp.k=S.tp.k:=rfl;unfold ft;rw [e,h];by_cases d:S.st=2
 .rw [aq d,aq d];split
  .show some (e9 ⟨S.lo++[S.tp],ka S.wd,1,S.wd⟩)=some ⟨S.lo.map er++[er S.tp],ka S.wd,1,S.wd⟩;rw [<-j];rfl
  .rfl
 rw [af d,af d];split
 .split
  .exact F5 S []
  .exact A2 t S
 .split
  .exact A2 t S
  .split
   .rfl
   .split
    .rfl
    .split
     .rfl
     .split
      .split<;>rfl
      .split
       .by_cases c:S.lo=[]
        .rw [aq c,aq (show (e9 S).lo=[] by simp [e9,c])];rfl
        .rw [af c,af (show ¬(e9 S).lo=[] by simp [e9,c])];exact F5 S _
       .split
        .by_cases c:S.lo=[]
         .rw [aq c,aq (show (e9 S).lo=[] by simp [e9,c])];rfl
         .rw [af c,af (show ¬(e9 S).lo=[] by simp [e9,c])];rfl
        .exact A2 t ⟨S.lo,iI S.tp,S.st,S.wd⟩
def uM:List Tk->SX->Int⊕SX
 |[],c=>.inr c
 |t::e,c=>match ft Ew t c with
  |none=>.inl t.a
  |some d=>uM e d
def G8:Int⊕SX->Int⊕SX
 |.inl a=>.inl a
 |.inr c=>.inr (e9 c)
def Kp:∀(ts:List Tk) (S:SX) (r:Int⊕SX),oY ts S r->G8 r=uM ts (e9 S)
 |[],S,r,c=>by have c:r=.inr S:=c;subst c;rfl
 |t::ts,S,r,c=>by
  obtain ⟨h,⟨d,e⟩|⟨j,d,e⟩⟩:=c
  .subst e;have:=Hd h t S;rw [d] at this;unfold uM;rw [<-this];rfl
  .have:=Hd h t S;rw [d] at this;unfold uM;rw [<-this];exact Kp ts j r e
def qg (l:List UInt8):Int⊕SX:=uM (iV l (l.length+1) 0) r4
def UZ {s:ByteArray} {r:Int⊕SX} (c:oY (iV (bl s) (s.size+1) 0) r4 r):G8 r=qg (bl s):=by have:=Kp _ _ _ c;rw [this];unfold qg;rw [ep];rfl
def Hb (S:SX):eu (e9 S).tp=eu S.tp:=rfl
def ji (t:BL):Bool:=bif Nat.blt 4096 t.length then false else match qg t with
 |.inl _=>false
 |.inr c=>bif Nat.blt 64 (eu c.tp).sz then false else
  if kL (eu c.tp)=0 then (if iY (ff (eu c.tp))=0 then cg 0 (ff (eu c.tp)) (a3 (ff (eu c.tp)))==t else false) else false
structure bq where
 k:Int
 n:Int
 x:Int
deriving DecidableEq
structure Nx where
 op:Int
 kids:List Int
 n:Int
 m:Int
 u:Int
 tx:ByteArray
 st:bq
deriving DecidableEq
def cF:bq:=⟨0,0,0⟩
def bI (n:Int):bq:=⟨0,n,0⟩
def eH (n:Int):bq:=⟨1,n,0⟩
def bT (s:bq):Bool:=(s.k==0&&ah (1<=s.n)&&ah (s.n<=64)&&s.x==0)||(s.k==1&&ah (0<=s.n)&&ah (s.n<=64)&&s.x==0)||(s.k==2&&ah (1<=s.n)&&ah (s.n<=64)&&ah (1<=s.x)&&ah (s.x<=16))||(s.k==3&&ah (0<=s.n)&&ah (s.n<=64)&&ah (1<=s.x)&&ah (s.x<=16))
def gD (s:bq):Int:=if bT s then 0 else 9
def dR (s:bq):Bool:=s.k==2||s.k==3
def cM (op:Int):Int:=if op<0\/34<op then -1 else if op<=3 then 0 else if op=4\/op=5\/op=21\/op=22\/op=23\/op=27\/op=28\/op=33\/op=34 then 1 else if op=19\/op=25\/op=30\/op=32 then 3 else 2
def n6 (op:Int):Bool:=op==21||op==22||op==23||op==28
def n7 (op:Int):Bool:=op==0||op==2||op==33
def iN (n:Nx):Bool:=(n6 n.op||n.n==0)&&(n.op==21||n.m==0)&&(n.op==1||n.u==0)&&(n7 n.op||ah (n.tx=ba []))
def fc (g:List Nx) (k:Int):Bool:=ah (0<=k)&&ah (k<(g.length:Int))
def fF (c:UInt8):Bool:=ah (97<=c.toNat)&&ah (c.toNat<=122)
def ei (c:UInt8):Bool:=fF c||(ah (48<=c.toNat)&&ah (c.toNat<=57))||c==45
def jO (l:List UInt8):Bool:=match l with
 |[]=>false
 |c::m=>ah (m.length<=15)&&fF c&&m.all ei
def hD:List Nx->ByteArray->Option bq
 |[],_=>none
 |c::g,t=>if c.op=0/\c.tx=t then some c.st else hD g t
def qf (g:List Nx) (n:Nx):Bool:=match hD g n.tx with
 |some s=>!decide (s=n.st)
 |none=>false
def mU (u:Int) (n:Int):Bool:=ah (n<64)&&ah (2^n.toNat<=u)
def cy (g:List Nx) (n:Nx):bq×Int:=
 if n.op=2 then (if 64<n.tx.size then (cF,5) else (eH n.tx.size,0)) else
 if n.op=0/\jO (bl n.tx)=false then (cF,6) else
 if bT n.st=false then (cF,9) else
 if n.op=1/\n.st.k≠0\/n.op=3/\dR n.st=false then (cF,9) else
 if n.op=1/\mU n.u n.st.n=true then (cF,5) else
 if n.op=0/\qf g n=true then (cF,8) else (n.st,0)
def hj (s:bq):bq:=if s.k=2 then bI s.n else eH s.n
def c9 (op:Int) (x y z:bq):Bool:=
 if op=4\/op=5\/op=21\/op=22\/op=23 then x.k==0 else
 if op=18 then ah (x=y)||(x.k==1&&y.k==1) else
 if op=19 then ah (x=bI 1)&&(ah (y=z)||(y.k==1&&z.k==1)) else
 if op=20 then x.k==0&&y.k==0 else
 if op=24 then dR x&&ah (y=bI x.x) else
 if op=25 then dR x&&ah (y=bI x.x)&&(ah (z=hj x)||(x.k==3&&z.k==1&&ah (z.n<=x.n))) else
 if op=26 then dR x&&ah (x=y) else
 if op=27\/op=28\/op=33 then x.k==1 else
 if op=29\/op=31 then x.k==1&&y.k==1 else
 if op=30 then x.k==1&&ah (y=bI 7)&&ah (z=bI 7) else
 if op=32 then x.k==1&&y.k==1&&z.k==1 else
 if op=34 then ah (x=bI 8) else x.k==0&&ah (x=y)
def g7 (n:Nx) (x y z:bq):bq:=
 if n.op=16\/n.op=17\/n.op=18\/n.op=33 then bI 1 else
 if n.op=19 then (if y.k=1 then eH (if y.n<z.n then z.n else y.n) else y) else
 if n.op=20 then bI (x.n+y.n) else
 if n.op=21 then bI (n.n - n.m+1) else
 if n.op=22\/n.op=23 then bI (x.n+n.n) else
 if n.op=24 then hj x else
 if n.op=26 then bI x.x else
 if n.op=27\/n.op=31 then bI 7 else
 if n.op=28 then bI 8 else
 if n.op=29 then eH (x.n+y.n) else
 if n.op=32 then eH (x.n+z.n) else
 if n.op=34 then eH 1 else x
def jl (n:Nx) (x y z:bq):Bool:=
 if n.op=20\/n.op=29 then ah (x.n+y.n<=64) else
 if n.op=21 then ah (0<=n.m)&&ah (n.m<=n.n)&&ah (n.n<x.n) else
 if n.op=22\/n.op=23 then ah (1<=n.n)&&ah (n.n<=64 - x.n) else
 if n.op=28 then ah (0<=n.n)&&ah (n.n<=63) else
 if n.op=32 then ah (x.n+z.n<=64) else true
def bP (g:List Nx) (n:Nx) (i:Nat):bq:=match n.kids[i]? with
 |some d=>match g[d.toNat]? with
  |some c=>c.st
  |none=>cF
 |none=>cF
def jG (t:ByteArray):Bool:=ji (bl t)
def bU (g:List Nx) (n:Nx):bq×Int:=
 if (cM n.op==(n.kids.length:Int)&&n.kids.all (fc g)&&iN n)=false then (cF,1) else
 if n.op<=3 then cy g n else
 if c9 n.op (bP g n 0) (bP g n 1) (bP g n 2)=false then (cF,9) else
 if jl n (bP g n 0) (bP g n 1) (bP g n 2)=false then (cF,5) else
 if n.op=33/\jG n.tx=false then (cF,2) else (g7 n (bP g n 0) (bP g n 1) (bP g n 2),0)
def eS (n:Nx) (s:bq):Nx:={n with st:=s}
def eB (n:Nx):List Nx->Nat->Option Nat
 |[],_=>none
 |c::g,i=>if c=n then some i else eB n g (i+1)
def eo (g:List Nx) (n:Nx):List Nx×Int×Int:=
 if (bU g n).2≠0 then ([],0,(bU g n).2) else
 match eB (eS n (bU g n).1) g 0 with
 |some i=>(g,i,0)
 |none=>if 4096<=g.length then ([],0,4) else (g++[eS n (bU g n).1],g.length,0)
inductive Vg:List Nx->Prop
 |nil:Vg []
 |snoc {g:List Nx} {n:Nx}:Vg g->bU g n=(n.st,0)->n∉g->Vg (g++[n])
structure Nd where
 x:Nx
 ks:O
abbrev dx (s:bq):ae:=.agg #[.i s.k,.i s.n,.i s.x]
namespace Nd
def c (d:Nd):List ae:=[.i d.x.op,d.ks.v,.i d.x.n,.i d.x.m,.u d.x.u,.string d.x.tx,.i d.x.st.k,.i d.x.st.n,.i d.x.st.x]
abbrev v (d:Nd):ae:=.agg #[.i d.x.op,d.ks.v,.i d.x.n,.i d.x.m,.u d.x.u,.string d.x.tx,.i d.x.st.k,.i d.x.st.n,.i d.x.st.x]
def mX (d:Nd):(c d).length=9:=rfl
def gl (l:List Nd):(l.flatMap c).length=l.length *9:=rf c 9 mX l
abbrev P (w:I) (d:Nd):Prop:=bS w d.ks d.x.kids
structure iB (w:I) (p:Addr) (i:Nat) (d:Nd):Prop where
 c0:w.cell? ((p.add (i *9)).add 0)=some (.i d.x.op)
 c1:w.cell? ((p.add (i *9)).add 1)=some d.ks.v
 c2:w.cell? ((p.add (i *9)).add 2)=some (.i d.x.n)
 c3:w.cell? ((p.add (i *9)).add 3)=some (.i d.x.m)
 c4:w.cell? ((p.add (i *9)).add 4)=some (.u d.x.u)
 c5:w.cell? ((p.add (i *9)).add 5)=some (.string d.x.tx)
 c6:w.cell? ((p.add (i *9)).add 6)=some (.i d.x.st.k)
 c7:w.cell? ((p.add (i *9)).add 7)=some (.i d.x.st.n)
 c8:w.cell? ((p.add (i *9)).add 8)=some (.i d.x.st.x)
def cj {w:I} {s:O} {l:List Nd} (d:bL 9 w s (l.flatMap c)):s.n=l.length:=by have:=d.1;rw [gl] at this;omega
def cY {w:I} {s:O} {l:List Nd} (h:bL 9 w s (l.flatMap c)) {i:Nat} {d:Nd} (hi:l[i]? =some d) {K:Addr->Prop} (j:∀p,s.a=some p->iB w p i d->K p):ct s.a K:=
 fB.elem (f:=c) (sz:=9) mX (by omega) h.2.2 hi λp k e=>j p k ⟨e 0 _ rfl,e 1 _ rfl,e 2 _ rfl,e 3 _ rfl,e 4 _ rfl,e 5 _ rfl,e 6 _ rfl,e 7 _ rfl,e 8 _ rfl⟩
def again {w:I} {s:O} {l:List Nd} (q:bL 9 w s (l.flatMap c)) {i:Nat} {d:Nd} (hi:l[i]? =some d) {p:Addr} (x:s.a=some p):iB w p i d:=by have j:=cY q hi (K:=λh=>∃k,s.a=some k/\iB w k i d) (λh e u=>⟨h,e,u⟩);rw [x] at j;obtain ⟨h,e,n⟩:=j;cases e;exact n
end Nd
abbrev xs (l:List Nd):List Nx:=l.map Nd.x
def GP (w:I) (s:O) (l:List Nd):Prop:=bL 9 w s (l.flatMap Nd.c)/\∀d∈l,d.P w
abbrev cc (d:Nd):En:=.rd d.ks (d.x.kids.map dp)
def _root_.Go.W.En.gr (s:O) (l:List Nd):En:=.all (.bz 9 s (l.flatMap Nd.c)::l.map cc)
def be {w:I} {s:O} {l:List Nd}:(En.gr s l).P w↔GP w s l:=by
 constructor
 .exact λd=>⟨d (.bz 9 s (l.flatMap Nd.c)) (by simp),λe h=>d (cc e) (ec _ (cQ.2 ⟨e,h,rfl⟩))⟩
 .intro d k j;rcases aB.1 j with rfl|j
  .exact d.1
  .obtain ⟨e,h,rfl⟩:=cQ.1 j;exact d.2 e h
def j7 {s:O} {l:List Nd} {b:Nat}:b∈(En.gr s l).fp↔b∈(En.bz 9 s (l.flatMap Nd.c)).fp\/∃e∈l,b∈(cc e).fp:=by
 unfold En.gr En.all;rw [aT,List.mem_flatMap];constructor
 .rintro ⟨k,j,d⟩;rcases aB.1 j with rfl|j
  .exact .inl d
  .obtain ⟨e,h,rfl⟩:=cQ.1 j;exact .inr ⟨e,h,d⟩
 .rintro (d|⟨e,h,d⟩)
  .exact ⟨_,ov ..,d⟩
  .exact ⟨_,ec _ (cQ.2 ⟨e,h,rfl⟩),d⟩
def fu {w:I} {s:O} {l:List Nd} (c:GP w s l):s.n=l.length:=Nd.cj c.1
def fa {w:I} {s:O} {l:List Nd} (c:GP w s l) {i:Nat} {d:Nd} {X:Int} (e:X=(i:Int)) (hi:l[i]? =some d) {K:Addr->Prop} (h:∀p,s.a=some p->Nd.iB w p (ag X) d->K p):aw s X K:=by have k:=fu c;have j:=(List.getElem?_eq_some_iff.1 hi).1;subst e;exact ⟨by omega,by omega,Nd.cY c.1 hi h⟩
def nK {l:List Nd} {i:Nat} {d:Nd} (c:l[i]? =some d):(xs l)[i]? =some d.x:=by simp [xs,c]
namespace Nd
def iB.s0 {w:I} {p:Addr} {i:Nat} {d:Nd} (c:iB w p i d):w.cell? (((p.add (i *9)).add 6).add 0)=some (.i d.x.st.k):=by rw [add_add];exact c.c6
def iB.s1 {w:I} {p:Addr} {i:Nat} {d:Nd} (c:iB w p i d):w.cell? (((p.add (i *9)).add 6).add 1)=some (.i d.x.st.n):=by rw [add_add];exact c.c7
def iB.s2 {w:I} {p:Addr} {i:Nat} {d:Nd} (c:iB w p i d):w.cell? (((p.add (i *9)).add 6).add 2)=some (.i d.x.st.x):=by rw [add_add];exact c.c8
end Nd
def rl {w:I} {s:O} {l:List Nd} (c:GP w s l) {i:Nat} {d:Nd} (hi:l[i]? =some d) {p:Addr} (h:s.a=some p) {X:Int} (e:X=(i:Int)):Nd.iB w p (ag X) d:=by subst e;exact Nd.again c.1 hi h
def gi (s:bq):List ae:=[.i s.k,.i s.n,.i s.x]
def KS (l:List bq):(l.flatMap gi).length=l.length *3:=rf gi 3 (λ_=>rfl) l
structure zn (w:I) (p:Addr) (i:Nat) (s:bq):Prop where
 c0:w.cell? ((p.add (i *3)).add 0)=some (.i s.k)
 c1:w.cell? ((p.add (i *3)).add 1)=some (.i s.n)
 c2:w.cell? ((p.add (i *3)).add 2)=some (.i s.x)
def Uf {w:I} {s:O} {l:List bq} (c:bL 3 w s (l.flatMap gi)):s.n=l.length:=by have:=c.1;rw [KS] at this;omega
def dY {w:I} {s:O} {l:List bq} (d:bL 3 w s (l.flatMap gi)) {i:Nat} {x:bq} {X:Int} (e:X=(i:Int)) (hi:l[i]? =some x) {K:Addr->Prop} (h:∀p,s.a=some p->zn w p (ag X) x->K p):aw s X K:=by have n:=Uf d;have k:=(List.getElem?_eq_some_iff.1 hi).1;subst e;exact ⟨by omega,by omega,fB.elem (f:=gi) (sz:=3) (λ_=>rfl) (by omega) d.2.2 hi λp j c=>h p j ⟨c 0 _ rfl,c 1 _ rfl,c 2 _ rfl⟩⟩
def fP {w:I} {s:O} {l:List bq} (k:bL 3 w s (l.flatMap gi)) {i:Nat} {x:bq} {X:Int} (n:X=(i:Int)) (hi:l[i]? =some x) {p:Addr} (u:s.a=some p):zn w p (ag X) x:=by have e:=(dY k n hi (K:=λd=>∃h,s.a=some h/\zn w h (ag X) x) (λd c q=>⟨d,c,q⟩)).2.2;rw [u] at e;obtain ⟨d,c,j⟩:=e;cases c;exact j
def jW (a b:bq):((a.k==b.k)&&((a.n==b.n)&&((a.x==b.x)&&true)))=ah (a=b):=by cases a;cases b;simp only [bq.mk.injEq,Bool.and_true,Bool.decide_and];rfl
def yK (a b:ByteArray):(a.toList==b.toList)=ah (a=b):=by
 rw [ByteArray.toList_eq,ByteArray.toList_eq];have c:(a.data.toList=b.data.toList)↔a=b:=⟨λc=>ByteArray.ext (Array.toList_inj.1 c),λc=>by rw [c]⟩;rw [<-decide_eq_decide.2 c];cases d:ah (a.data.toList=b.data.toList) with
 |true=>rw [ef d];simp
 |false=>exact beq_eq_false_iff_ne.2 (gS d)
section
variable {A B:Prop}
def DF {a b:ByteArray} (c:a=b->A) (d:a≠b->B):Y (a.toList==b.toList) A B:=by rw [yK];exact aR c d
def lF {a b:bq} (c:a=b->A) (d:a≠b->B):Y ((a.k==b.k)&&((a.n==b.n)&&((a.x==b.x)&&true))) A B:=by rw [jW];exact aR c d
def uQ {a b:bq} (d:a≠b->A) (e:a=b->B):Y (!((a.k==b.k)&&((a.n==b.n)&&((a.x==b.x)&&true)))) A B:=by rw [jW];exact dM (λc=>d (gS c)) (λc=>e (ef c))
def DE {s:bq} (d:bT s=false->A) (e:bT s=true->B):Y (gD s !=0) A B:=by
 unfold gD;cases c:bT s with
 |true=>exact a9 rfl (e c)
 |false=>exact bd rfl (d c)
end
set_option maxRecDepth 100000
set_option maxHeartbeats 2000000
namespace GN
noncomputable abbrev X:Fx:=⟨U,Tryz.f113,[],[]⟩
def ok (c:Int) (w:I) (R:aa) (e:(0:Int)<=c/\∃d:UInt8,(az #[48,49,50,51,52,53,54,55,56,57,97,98,99,100,101,102])[ag c]? =some d/\R (V (.int .u8 ((d.toNat:Nat):Int))) w):ai U tP #[.i c] w R:=aE X [] e
end GN
namespace GU
noncomputable abbrev X:Fx:=⟨U,Tryz.f112,[],[]⟩
def ok (c:Int) (w:I) (R:aa) (d:Y (ah (c>=32)) (Y (ah (c<=126)) (Y (c !=39) (R (V (.bool (c !=92))) w) (R (V (.bool false)) w)) (R (V (.bool false)) w)) (R (V (.bool false)) w)):ai U xc #[.int .u8 c] w R:=aE X [] d
end GU
namespace s7
noncomputable abbrev X:Fx:=⟨U,Tryz.f137,[],[]⟩
abbrev P0:Ps:=[(0,.v [.Y]),(3,.v [.I])]
def L0 (c d:Int) (w:I) (R:aa):Prop:=br P0 0 (X.Sem (ak [0,1,1,1,1])) c d w R
noncomputable def aZ:=bD X (ak [0,1,1,1,1]) P0 L0
def b5:∀(d c:Int) (w:I) (R:aa) (j:Y (ah (c<16)) (v3 tP #[.i c] w λh e=>Y (h==d) (R (V (.i c)) e) (L0 d (ab .i64 (c+1)) e R)) (R (V (.i (-1))) w)),L0 d c w R:=mp (bF (X:=X) [aZ] (ak [0,1,1,1,1]) P0)
def ok (c:Int) (w:I) (R:aa) (d:L0 c 0 w R):ai U rv #[.int .u8 c] w R:=aE X [aZ] d
end s7
namespace s6
noncomputable abbrev X:Fx:=⟨U,Tryz.f124,[(4,ls [0,1,2,3,6,7,8,9,4,5,10,11,12,13,14])],[]⟩
abbrev S1 (w:I) (R:aa):Prop:=
 R (V (.tuple #[.int .u8 0,.i 0])) w
noncomputable def bg:=aC X [] (ak [3]) [] S1::[]
abbrev S0 (d:ByteArray) (c:Int) (w:I) (R:aa):Prop:=
 Y (ah ((ab .i64 (c+4))<=((d.size:Nat):Int))) ((0:Int)<=c/\∃e:UInt8,d[ag c]? =some e/\Y (((e.toNat:Nat):Int)==92) ((0:Int)<=(ab .i64 (c+1))/\∃h:UInt8,d[ag (ab .i64 (c+1))]? =some h/\Y (((h.toNat:Nat):Int)==120) ((0:Int)<=(ab .i64 (c+2))/\∃j:UInt8,d[ag (ab .i64 (c+2))]? =some j/\di rv #[.int .u8 ((j.toNat:Nat):Int)] w λt58 u=>Y (ah (t58>=0)) ((0:Int)<=(ab .i64 (c+3))/\∃k:UInt8,d[ag (ab .i64 (c+3))]? =some k/\di rv #[.int .u8 ((k.toNat:Nat):Int)] u λt66 x=>Y (ah (t66>=0)) (bY x λy=>(0:Int)<=(ab .i64 (c+2))/\∃n:UInt8,d[ag (ab .i64 (c+2))]? =some n/\(0:Int)<=(ab .i64 (c+3))/\∃q:UInt8,d[ag (ab .i64 (c+3))]? =some q/\di rv #[.int .u8 ((n.toNat:Nat):Int)] y λt73 z=>di rv #[.int .u8 ((q.toNat:Nat):Int)] z λt79 A=>R (V (.tuple #[.int .u8 (ab .u8 (ab .i64 ((ab .i64 (16 *t73))+t79))),.i 4])) A) (S1 x R)) (S1 u R)) (S1 w R)) (S1 w R)) (S1 w R)
noncomputable def bf:=aC X bg (ak [2]) [(0,.v [.st]),(1,.v [.I])] S0::bg
def ok (d:ByteArray) (c:Int) (w:I) (R:aa) (q:Y (ah ((ab .i64 (c+3))<=((d.size:Nat):Int))) ((0:Int)<=c/\∃e:UInt8,d[ag c]? =some e/\Y (((e.toNat:Nat):Int)==39) ((0:Int)<=(ab .i64 (c+2))/\∃h:UInt8,d[ag (ab .i64 (c+2))]? =some h/\Y (((h.toNat:Nat):Int)==39) ((0:Int)<=(ab .i64 (c+1))/\∃j:UInt8,d[ag (ab .i64 (c+1))]? =some j/\gk xc #[.int .u8 ((j.toNat:Nat):Int)] w λt29 n=>Y t29 ((0:Int)<=(ab .i64 (c+1))/\∃k:UInt8,d[ag (ab .i64 (c+1))]? =some k/\R (V (.tuple #[.int .u8 ((k.toNat:Nat):Int),.i 3])) n) (S0 d c n R)) (S0 d c w R)) (S0 d c w R)) (S0 d c w R)):ai U tO #[.string d,.i c] w R:=aE X bf q
end s6
namespace q5
noncomputable abbrev X:Fx:=⟨U,Tryz.f116,[],[4]⟩
abbrev P0:Ps:=[(4,.l [.I,.Y,.Y,.s] aF)]
abbrev a2 (t4:Nat) (d e h:Int) (j:O) (w:I) (R:aa):Prop:=
 loc [t4] w λc=>R (V (.tuple #[.agg #[.i 0,.int .u8 0,.int .u8 0,.slice none 0 0],.i 0])) c
noncomputable def bg:=aC X [] (ak [0,1,1,1,6]) P0 a2::[]
abbrev bh (t4:Nat) (d e h:Int) (j:O) (w:I) (R:aa):Prop:=
 loc [t4] w λc=>R (V (.tuple #[.agg #[.i 0,.int .u8 0,.int .u8 0,.slice none 0 0],.i 0])) c
noncomputable def bt:=aC X bg (ak [0,1,1,1,9]) P0 bh::bg
abbrev aY (q:ByteArray) (x:Int) (t4:Nat) (d e h:Int) (j:O) (n k y c:Int) (w:I) (R:aa):Prop:=
 Y (y==0) (bh t4 d e h j w R) (Y (ah (c>=((q.size:Nat):Int))) (bh t4 d e h j w R) ((0:Int)<=c/\∃u:UInt8,q[ag c]? =some u/\Y (((u.toNat:Nat):Int) !=93) (bh t4 d e h j w R) (Y (ah (n>k)) (bh t4 d e h j w R) (loc [t4] w λz=>R (V (.tuple #[.agg #[.i 2,.int .u8 n,.int .u8 k,.slice none 0 0],.i (ab .i64 ((ab .i64 (c+1)) - x))])) z))))
noncomputable def bm:=aC X bt (ak [9]) [(0,.v [.st]),(1,.v [.I]),(4,.l [.I,.Y,.Y,.s] aF),(8,.v [.Y]),(11,.v [.Y]),(12,.v [.I]),(13,.v [.I])] aY::bt
abbrev aQ (d:ByteArray) (u:Int) (t4:Nat) (e h j:Int) (k:O) (y x c:Int) (w:I) (R:aa):Prop:=
 Y (x==0) (a2 t4 e h j k w R) (Y (ah (c>=((d.size:Nat):Int))) (a2 t4 e h j k w R) ((0:Int)<=c/\∃n:UInt8,d[ag c]? =some n/\Y (((n.toNat:Nat):Int) !=45) (a2 t4 e h j k w R) (z0 [t4] tO #[.string d,.i (ab .i64 (c+1))] w λz q A=>aY d u t4 e h j k y z q (ab .i64 ((ab .i64 (c+1))+q)) A R)))
noncomputable def bf:=aC X bm (ak [6]) [(0,.v [.st]),(1,.v [.I]),(4,.l [.I,.Y,.Y,.s] aF),(8,.v [.Y]),(9,.v [.I]),(10,.v [.I])] aQ::bm
def aD (e:ByteArray) (c:Int) (w:I) (R:aa) (u:aJ [] w λd y=>
 z0 [d] tO #[.string e,.i c] y λj k h=>Y (ah (k>0)) (loc [d] h λB=>R (V (.tuple #[.agg #[.i 2,.int .u8 j,.int .u8 j,.slice none 0 0],.i k])) B) ((0:Int)<=c/\∃n:UInt8,e[ag c]? =some n/\Y (((n.toNat:Nat):Int) !=91) (loc [d] h λz=>R (V (.tuple #[.agg #[.i 0,.int .u8 0,.int .u8 0,.slice none 0 0],.i 0])) z) (z0 [d] tO #[.string e,.i (ab .i64 (c+1))] h λx q A=>aQ e c d 0 0 0 ⟨none,0,0⟩ x q (ab .i64 ((ab .i64 (c+1))+q)) A R))):ai U BD #[.string e,.i c] w R:=aE X bf u
end q5
namespace i9
noncomputable abbrev X:Fx:=⟨U,Tryz.f95,[(11,ls [0,1,2,3,4,5,6,7,8,9,10,11,12])],[5]⟩
abbrev P0:Ps:=[(0,.v [.st]),(3,.v [.s]),(4,.v [.I])]
def aP (e:ByteArray) (d:O) (c:Int) (w:I) (R:aa):Prop:=br P0 0 (X.Sem (ak [0,1,1,1,2])) e d c w R
noncomputable def aZ:=bD X (ak [0,1,1,1,2]) P0 aP::[]
abbrev P1:Ps:=[(0,.v [.st]),(3,.v [.s]),(4,.v [.I]),(5,.l [.I,.Y,.Y,.s] aF),(6,.v [.I])]
def b6 (u:ByteArray) (e:O) (c:Int) (h:Nat) (j k n:Int) (q:O) (d:Int) (w:I) (R:aa):Prop:=br P1 0 (X.Sem (ak [0,1,1,1,1,1,2,1,1,2,1,1,2])) u e c h j k n q d w R
noncomputable def cC:=bD X (ak [0,1,1,1,1,1,2,1,1,2,1,1,2]) P1 b6::aZ
abbrev aY (e:ByteArray) (q:O) (c:Int) (j:Nat) (u x y:Int) (z:O) (d:Int) (w:I) (R:aa):Prop:=
 (0:Int)<=(ab .i64 (c+d))/\(ab .i64 (c+d))<=((e.size:Nat):Int)/\(0:Int)<=c/\c<=(((ag (ab .i64 (c+d))):Nat):Int)/\loc [j] w λk=>aN k (.cells #[.string (e.extract (ag c) (ag (ab .i64 (c+d)))),.i c,.i u,.int .u8 x,.int .u8 y,z.v] lK) λn=>
 ∃(t72:O) (h:I),a6 U (bb #[mC,mC] mC #[q.v,.slice (some (nb k)) 1 1]) n=.ok (t72.v) h/\kept [j] n h/\aP e t72 (ab .i64 (c+d)) h R
noncomputable def bm:=aC X cC (ak [3,1,1,2,1,1,2]) P1 aY::cC
def eV:∀(e:ByteArray) (h:O) (c:Int) (j:Nat) (k n q:Int) (u:O) (d:Int) (w:I) (R:aa) (B:(0:Int)<=c/\∃x:UInt8,e[ag c]? =some x/\Y (ah (((x.toNat:Nat):Int)>=97)) ((0:Int)<=c/\∃y:UInt8,e[ag c]? =some y/\Y (ah (((y.toNat:Nat):Int)<=122)) (Y (ah ((ab .i64 (c+d))<((e.size:Nat):Int))) ((0:Int)<=(ab .i64 (c+d))/\∃z:UInt8,e[ag (ab .i64 (c+d))]? =some z/\Y (ah (((z.toNat:Nat):Int)>=97)) ((0:Int)<=(ab .i64 (c+d))/\∃A:UInt8,e[ag (ab .i64 (c+d))]? =some A/\Y (ah (((A.toNat:Nat):Int)<=122)) (b6 e h c j k n q u (ab .i64 (d+1)) w R) (aY e h c j k n q u d w R)) (aY e h c j k n q u d w R)) (aY e h c j k n q u d w R)) (aY e h c j k n q u d w R)) (aY e h c j k n q u d w R)),b6 e h c j k n q u d w R:=mp (bF (X:=X) bm (ak [0,1,1,1,1,1,2,1,1,2,1,1,2]) P1)
def bW:∀(d:ByteArray) (e:O) (c:Int) (w:I) (R:aa) (D:Y (ah (c<((d.size:Nat):Int))) ((0:Int)<=c/\∃k:UInt8,d[ag c]? =some k/\Y (((k.toNat:Nat):Int)==32) (aP d e (ab .i64 (c+1)) w R) (OC BD #[.string d,.i c] w λn q u x y B=>aJ [] B λh z=>
 Y (y==0) (loc [h] z λj=>b6 d e c h n q u x 1 j R) (loc [h] z λj=>aY d e c h n q u x y j R))) (aN w (.cells #[.s0,.i ((d.size:Nat):Int),.i 0,.int .u8 0,.int .u8 0,.slice none 0 0] lK) λC=>
 ∃(t81:O) (A:I),a6 U (bb #[mC,mC] mC #[e.v,.slice (some (nb w)) 1 1]) C=.ok (t81.v) A/\R (V (t81.v)) A)),aP d e c w R:=mp (bF (X:=X) bm (ak [0,1,1,1,2]) P0)
def aD (c:ByteArray) (w:I) (R:aa) (d:aP c ⟨none,0,0⟩ 0 w R):ai U By #[.string c] w R:=aE X bm d
end i9
namespace GX
noncomputable abbrev X:Fx:=⟨U,Tryz.f126,[(3,ls [0,1,2,3,4,5,6,7,8,9,10,11])],[]⟩
def ok (c:Addr) (w:I) (R:aa) (h:∃e:Bool,w.cell? (c.add 2)=some (.bool e)/\
 Y e (R (V (.string (az #[32]))) w) (bY w λd=>∃t10:O,d.cell? (c.add 0)=some (t10.v)/\
 ∃t14:Int,d.cell? (c.add 1)=some (.i t14)/\
 aw t10 t14 λj=>∃t17:ByteArray,d.cell? ((j.add (ag t14 *6)).add 0)=some (.string t17)/\
 R (V (.string t17)) d)):ai U tQ #[.pointer (some c)] w R:=aE X [] h
end GX
namespace GY
noncomputable abbrev X:Fx:=⟨U,Tryz.f118,[],[]⟩
abbrev S0 (w:I) (R:aa):Prop:=
 R (V (.bool true)) w
noncomputable def bf:=aC X [] (ak [3]) [] S0
def ok (c:Addr) (e:ByteArray) (w:I) (R:aa) (h:qQ tQ #[.pointer (some c)] w λj d=>Y (!(j.toList==e.toList)) (R (V (.bool false)) d) (Y (!(e.toList==(az #[]).toList)) (∃t14:Int,d.cell? (c.add 1)=some (.i t14)/\
 av d (c.add 1) (.i (ab .i64 (t14+1))) λk=>
 S0 k R) (S0 d R))):ai U nc #[.pointer (some c),.string e] w R:=aE X [bf] h
end GY
namespace GW
noncomputable abbrev X:Fx:=⟨U,Tryz.f97,[],[]⟩
def ok (c:Addr) (d:ByteArray) (w:I) (R:aa) (h:gk nc #[.pointer (some c),.string d] w λj e=>Y (!j) (av e (c.add 2) (.bool true) λk=>
 R (V (.tuple #[])) k) (R (V (.tuple #[])) e)):ai U pB #[.pointer (some c),.string d] w R:=aE X [] h
end GW
namespace GQ
noncomputable abbrev X:Fx:=⟨U,Tryz.f119,[],[4]⟩
def aD (h:Int) (c:O) (w:I) (R:aa) (j:aJ [] w λe d=>
 Y (((c.n:Nat):Int)==1) (aw c 0 λy=>aV d (y.add (ag 0 *4)) λk q u x=>loc [e] d λz=>R (V (.agg #[.i k,.int .u8 q,.int .u8 u,x.v])) z) (loc [e] d λA=>R (V (.agg #[.i h,.int .u8 0,.int .u8 0,c.v])) A)):ai U od #[.i h,c.v] w R:=aE X [] j
end GQ
namespace GV
noncomputable abbrev X:Fx:=⟨U,Tryz.f139,[],[]⟩
def ok (e:Addr) (w:I) (R:aa) (j:qQ tQ #[.pointer (some e)] w λd c=>∃h:Bool,c.cell? (e.add 2)=some (.bool h)/\
 Y (!h) (Y (!(d.toList==(az #[]).toList)) (Y (!(d.toList==(az #[41]).toList)) (Y (!(d.toList==(az #[44]).toList)) (Y (!(d.toList==(az #[124]).toList)) (R (V (.bool (!(d.toList==(az #[38]).toList)))) c) (R (V (.bool false)) c)) (R (V (.bool false)) c)) (R (V (.bool false)) c)) (R (V (.bool false)) c)) (R (V (.bool false)) c)):ai U BE #[.pointer (some e)] w R:=aE X [] j
end GV
namespace s9
noncomputable abbrev X:Fx:=⟨U,Tryz.f96,[],[2]⟩
abbrev P0:Ps:=[(0,.v [.r]),(2,.l [.I,.Y,.Y,.s] aF),(3,.v [.s])]
def aP (d:Addr) (t2:Nat) (e h j:Int) (k c:O) (w:I) (R:aa):Prop:=br P0 0 (X.Sem (ak [0,2,2])) d t2 e h j k c w R
noncomputable def aZ:=bD X (ak [0,2,2]) P0 aP
def bW:∀(c:Addr) (t2:Nat) (h j k:Int) (n d:O) (w:I) (R:aa) (K:bM [t2] nc #[.pointer (some c),.string (az #[124])] w λG q=>Y G (ez [t2] ry #[.pointer (some c)] q λy z A B u=>aN u (.cells #[.i y,.int .u8 z,.int .u8 A,B.v] aF) λx=>
 ∃(t13:O) (e:I),a6 U (bb #[bG,bG] bG #[d.v,.slice (some (nb u)) 1 1]) x=.ok (t13.v) e/\kept [t2] x e/\aP c t2 h j k n t13 e R) (ez [t2] od #[.i 4,d.v] q λC D E F J=>loc [t2] J λH=>R (V (.agg #[.i C,.int .u8 D,.int .u8 E,F.v])) H)),aP c t2 h j k n d w R:=mp (bF (X:=X) [aZ] (ak [0,2,2]) P0)
def aD (c:Addr) (w:I) (R:aa) (h:aJ [] w λd u=>
 ez [d] ry #[.pointer (some c)] u λj k n q e=>aN e (.cells #[.i j,.int .u8 k,.int .u8 n,q.v] aF) λx=>
 aP c d 0 0 0 ⟨none,0,0⟩ ⟨some (nb e),1,1⟩ x R):ai U py #[.pointer (some c)] w R:=aE X [aZ] h
end s9
namespace s8
noncomputable abbrev X:Fx:=⟨U,Tryz.f117,[],[2]⟩
abbrev P0:Ps:=[(0,.v [.r]),(2,.l [.I,.Y,.Y,.s] aF),(3,.v [.s])]
def aP (d:Addr) (t2:Nat) (e h j:Int) (k c:O) (w:I) (R:aa):Prop:=br P0 0 (X.Sem (ak [0,2,2])) d t2 e h j k c w R
noncomputable def aZ:=bD X (ak [0,2,2]) P0 aP
def bW:∀(c:Addr) (t2:Nat) (h j k:Int) (n d:O) (w:I) (R:aa) (K:bM [t2] nc #[.pointer (some c),.string (az #[38])] w λG q=>Y G (ez [t2] rz #[.pointer (some c)] q λy z A B u=>aN u (.cells #[.i y,.int .u8 z,.int .u8 A,B.v] aF) λx=>
 ∃(t13:O) (e:I),a6 U (bb #[bG,bG] bG #[d.v,.slice (some (nb u)) 1 1]) x=.ok (t13.v) e/\kept [t2] x e/\aP c t2 h j k n t13 e R) (ez [t2] od #[.i 5,d.v] q λC D E F J=>loc [t2] J λH=>R (V (.agg #[.i C,.int .u8 D,.int .u8 E,F.v])) H)),aP c t2 h j k n d w R:=mp (bF (X:=X) [aZ] (ak [0,2,2]) P0)
def aD (c:Addr) (w:I) (R:aa) (h:aJ [] w λd u=>
 ez [d] rz #[.pointer (some c)] u λj k n q e=>aN e (.cells #[.i j,.int .u8 k,.int .u8 n,q.v] aF) λx=>
 aP c d 0 0 0 ⟨none,0,0⟩ ⟨some (nb e),1,1⟩ x R):ai U ry #[.pointer (some c)] w R:=aE X [aZ] h
end s8
namespace tc
noncomputable abbrev X:Fx:=⟨U,Tryz.f125,[],[2]⟩
abbrev P0:Ps:=[(0,.v [.r]),(2,.l [.I,.Y,.Y,.s] aF),(3,.v [.s])]
def aP (d:Addr) (t2:Nat) (e h j:Int) (k c:O) (w:I) (R:aa):Prop:=br P0 0 (X.Sem (ak [0,2,2])) d t2 e h j k c w R
noncomputable def aZ:=bD X (ak [0,2,2]) P0 aP
def bW:∀(c:Addr) (t2:Nat) (h j k:Int) (n d:O) (w:I) (R:aa) (K:bM [t2] BE #[.pointer (some c)] w λG q=>Y G (ez [t2] pA #[.pointer (some c)] q λy z A B u=>aN u (.cells #[.i y,.int .u8 z,.int .u8 A,B.v] aF) λx=>
 ∃(t13:O) (e:I),a6 U (bb #[bG,bG] bG #[d.v,.slice (some (nb u)) 1 1]) x=.ok (t13.v) e/\kept [t2] x e/\aP c t2 h j k n t13 e R) (ez [t2] od #[.i 3,d.v] q λC D E F J=>loc [t2] J λH=>R (V (.agg #[.i C,.int .u8 D,.int .u8 E,F.v])) H)),aP c t2 h j k n d w R:=mp (bF (X:=X) [aZ] (ak [0,2,2]) P0)
def aD (c:Addr) (w:I) (R:aa) (h:aJ [] w λd u=>
 ez [d] pA #[.pointer (some c)] u λj k n q e=>aN e (.cells #[.i j,.int .u8 k,.int .u8 n,q.v] aF) λx=>
 aP c d 0 0 0 ⟨none,0,0⟩ ⟨some (nb e),1,1⟩ x R):ai U rz #[.pointer (some c)] w R:=aE X [aZ] h
end tc
namespace wq
noncomputable abbrev X:Fx:=⟨U,Tryz.f138,[],[2,4]⟩
abbrev P0:Ps:=[(0,.v [.r]),(2,.l [.I,.Y,.Y,.s] aF),(4,.l [.I,.Y,.Y,.s] aF)]
def aP (c:Addr) (t2:Nat) (n q u:Int) (x:O) (d:Nat) (e h j:Int) (k:O) (w:I) (R:aa):Prop:=br P0 0 (X.Sem (ak [0,2,4])) c t2 n q u x d e h j k w R
noncomputable def aZ:=bD X (ak [0,2,4]) P0 aP
def bW:∀(d:Addr) (t2:Nat) (q u x:Int) (y:O) (c:Nat) (e h j:Int) (k:O) (w:I) (R:aa) (C:bM [t2,c] nc #[.pointer (some d),.string (az #[42])] w λt15 n=>Y t15 (aN n (.cells #[.i e,.int .u8 h,.int .u8 j,k.v] aF) λz=>
 loc [t2,c] z λA=>aP d t2 q u x y c 7 0 0 ⟨some (nb n),1,1⟩ A R) (loc [t2,c] n λB=>R (V (.agg #[.i e,.int .u8 h,.int .u8 j,k.v])) B)),aP d t2 q u x y c e h j k w R:=mp (bF (X:=X) [aZ] (ak [0,2,4]) P0)
def aD (d:Addr) (w:I) (R:aa) (k:aJ [] w λc D=>
 bM [c] nc #[.pointer (some d),.string (az #[33])] D λy h=>Y y (ez [c] pA #[.pointer (some d)] h λz A B C j=>aN j (.cells #[.i z,.int .u8 A,.int .u8 B,C.v] aF) λG=>
 loc [c] G λH=>R (V (.agg #[.i 6,.int .u8 0,.int .u8 0,.slice (some (nb j)) 1 1])) H) (ez [c] xd #[.pointer (some d)] h λn q u x J=>aJ [c] J λe E=>
 loc [c,e] E λF=>aP d c 0 0 0 ⟨none,0,0⟩ e n q u x F R)):ai U pA #[.pointer (some d)] w R:=aE X [aZ] k
end wq
namespace nZ
noncomputable abbrev X:Fx:=⟨U,Tryz.f165,[(1,ls [0,1,2,3,4,5,6,7,8,9,10,11,12,13,14,15,16,17,18,19]),(3,ls [0,1,2,3,4,5,6,7,8,9,10,11,12]),(8,ls [0,1,2,3,5,6,7,8,4,9,10])],[2,5,6]⟩
abbrev P0:Ps:=[(0,.v [.r]),(2,.l [.I,.Y,.Y,.s] aF),(3,.v [.s]),(4,.v [.I])]
def b6 (d:Addr) (t2:Nat) (e h j:Int) (k n:O) (c:Int) (w:I) (R:aa):Prop:=br P0 0 (X.Sem (ak [0,1,1,1,3])) d t2 e h j k n c w R
noncomputable def cC:=bD X (ak [0,1,1,1,3]) P0 b6::[]
abbrev aY (d:Addr) (t2:Nat) (e h j:Int) (k n:O) (c:Int) (w:I) (R:aa):Prop:=
 b6 d t2 e h j k n (ab .i64 (c+1)) w R
noncomputable def bm:=aC X cC (ak [2,2,1,1,3]) P0 aY::cC
abbrev bh (t2:Nat) (n q u:Int) (x:O) (c:Nat) (d e h:Int) (j:O) (w:I) (R:aa):Prop:=
 loc [t2,c] w λk=>R (V (.agg #[.i d,.int .u8 e,.int .u8 h,j.v])) k
noncomputable def bt:=aC X bm (ak [4,2,1,2,1,1,3]) [(2,.l [.I,.Y,.Y,.s] aF),(5,.l [.I,.Y,.Y,.s] aF)] bh::bm
def eV:∀(d:Addr) (t2:Nat) (h j k:Int) (n x:O) (c:Int) (w:I) (R:aa) (T:Y (ah (c<6)) (Y (c==2) (loc [t2] w λu=>aY d t2 h j k n x c u R) (aw x c λB=>loc [t2] w λu=>∃t59:ByteArray,u.cell? (B.add (ag c *1))=some (.string t59)/\
 fT [t2] tQ #[.pointer (some d)] u λt55 q=>q.cell? (B.add (ag c *1))=some (.string t59)/\Y (!(t55.toList==t59.toList)) (aY d t2 h j k n x c q R) (∃t65:Int,q.cell? (d.add 1)=some (.i t65)/\
 av q (d.add 1) (.i (ab .i64 (t65+1))) λC=>kept [t2] q C/\
 aJ [t2] C λe D=>
 Y (ah (c>2)) (loc [t2,e] D λA=>fU [t2,e] xe #[.pointer (some d)] A λt74 J=>loc [t2,e] J λK=>bh t2 h j k n e c 0 0 t74 K R) (loc [t2,e] D λA=>bh t2 h j k n e c 0 0 ⟨none,0,0⟩ A R)))) (lZ [t2] pB #[.pointer (some d),.string (az #[40])] w λz=>∃t82:Bool,z.cell? (d.add 2)=some (.bool t82)/\
 Y t82 (loc [t2] z λL=>R (V (.agg #[.i 0,.int .u8 0,.int .u8 0,.slice none 0 0])) L) (ez [t2] py #[.pointer (some d)] z λE F G H M=>aJ [t2] M λy N=>
 loc [t2,y] N λP=>lZ [t2,y] pB #[.pointer (some d),.string (az #[41])] P λQ=>loc [t2,y] Q λS=>R (V (.agg #[.i E,.int .u8 F,.int .u8 G,H.v])) S))),b6 d t2 h j k n x c w R:=mp (bF (X:=X) bt (ak [0,1,1,1,3]) P0)
abbrev aQ (c:Addr) (t2:Nat) (d e h:Int) (j:O) (w:I) (R:aa):Prop:=
 aN w (.cells #[.string (az #[110,111,110,101]),.string (az #[101,109,112,116,121]),.s0,.string (az #[99,97,116]),.string (az #[97,108,116]),.string (az #[97,108,108])] dy) λk=>
 b6 c t2 d e h j ⟨some (nb w),6,6⟩ 0 k R
noncomputable def bf:=aC X bt (ak [2]) [(0,.v [.r]),(2,.l [.I,.Y,.Y,.s] aF)] aQ::bt
def aD (c:Addr) (w:I) (R:aa) (k:aJ [] w λe A=>
 loc [e] A λd=>∃t10:Bool,d.cell? (c.add 2)=some (.bool t10)/\
 Y (!t10) (∃t16:O,d.cell? (c.add 0)=some (t16.v)/\
 ∃t20:Int,d.cell? (c.add 1)=some (.i t20)/\
 aw t16 t20 λn=>∃t24:Int,d.cell? (((n.add (ag t20 *6)).add 2).add 0)=some (.i t24)/\
 Y (t24==2) (∃t30:Int,d.cell? (c.add 1)=some (.i t30)/\
 av d (c.add 1) (.i (ab .i64 (t30+1))) λj=>kept [e] d j/\
 loc [e] j λh=>∃t37:O,h.cell? (c.add 0)=some (t37.v)/\
 ∃t41:Int,h.cell? (c.add 1)=some (.i t41)/\
 aw t37 (ab .i64 (t41 - 1)) λq=>aV h ((q.add (ag (ab .i64 (t41 - 1)) *6)).add 2) λu x y z=>loc [e] h λB=>R (V (.agg #[.i u,.int .u8 x,.int .u8 y,z.v])) B) (aQ c e 0 0 0 ⟨none,0,0⟩ d R)) (aQ c e 0 0 0 ⟨none,0,0⟩ d R)):ai U xd #[.pointer (some c)] w R:=aE X bf k
end nZ
namespace ta
noncomputable abbrev X:Fx:=⟨U,Tryz.f180,[],[]⟩
abbrev S0 (w:I) (R:aa):Prop:=
 R (V (.slice none 0 0)) w
noncomputable def bf:=aC X [] (ak [0,1,1,1,3]) [] S0::[]
abbrev P1:Ps:=[(0,.v [.r]),(4,.v [.s])]
def L1 (d:Addr) (c:O) (w:I) (R:aa):Prop:=br P1 0 (X.Sem (ak [0,2,5])) d c w R
noncomputable def cC:=bD X (ak [0,2,5]) P1 L1::bf
def fC:∀(c:Addr) (d:O) (w:I) (R:aa) (z:gk nc #[.pointer (some c),.string (az #[44])] w λt20 e=>Y t20 (k' py #[.pointer (some c)] e λk n q u h=>aN h (.cells #[.i k,.int .u8 n,.int .u8 q,u.v] aF) λx=>
 ∃(t25:O) (j:I),a6 U (bb #[bG,bG] bG #[d.v,.slice (some (nb h)) 1 1]) x=.ok (t25.v) j/\L1 c t25 j R) (eX pB #[.pointer (some c),.string (az #[41])] e λy=>R (V (d.v)) y)),L1 c d w R:=mp (bF (X:=X) cC (ak [0,2,5]) P1)
def ok (c:Addr) (w:I) (R:aa) (h:eX pB #[.pointer (some c),.string (az #[40])] w λx=>gk nc #[.pointer (some c),.string (az #[41])] x λu d=>∃t12:Bool,d.cell? (c.add 2)=some (.bool t12)/\
 Y t12 (S0 d R) (Y u (S0 d R) (k' py #[.pointer (some c)] d λj k n q e=>aN e (.cells #[.i j,.int .u8 k,.int .u8 n,q.v] aF) λy=>
 L1 c ⟨some (nb e),1,1⟩ y R))):ai U xe #[.pointer (some c)] w R:=aE X cC h
end ta
namespace GL
noncomputable abbrev X:Fx:=⟨U,Tryz.f80,[(7,ls [0,1,2,3,4,5,6,7,8,9,10,11,12,13,14])],[2,6]⟩
def aD (h:ByteArray) (w:I) (R:aa) (C:aJ [] w λc A=>
 Y (ah (((h.size:Nat):Int)>4096)) (loc [c] A λG=>R (V (.tuple #[.agg #[.i 0,.int .u8 0,.int .u8 0,.slice none 0 0],.i 4096,.i 4])) G) (fU [c] By #[.string h] A λt12 d=>aN d (.cells #[t12.v,.i 0,.bool false] Eg) λH=>
 ez [c] py #[.pointer (some (nb d))] H λq u x y J=>aJ [c] J λe K=>
 loc [c,e] K λD=>lZ [c,e] pB #[.pointer (some (nb d)),.s0] D λn=>∃t22:Bool,n.cell? ((nb d).add 2)=some (.bool t22)/\
 Y t22 (loc [c,e] n λj=>∃t27:O,j.cell? ((nb d).add 0)=some (t27.v)/\
 ∃t31:Int,j.cell? ((nb d).add 1)=some (.i t31)/\
 aw t27 t31 λz=>∃t34:Int,j.cell? ((z.add (ag t31 *6)).add 1)=some (.i t34)/\
 loc [c,e] j λk=>k.cell? ((z.add (ag t31 *6)).add 1)=some (.i t34)/\k.cell? ((nb d).add 1)=some (.i t31)/\k.cell? ((nb d).add 0)=some (t27.v)/\R (V (.tuple #[.agg #[.i 0,.int .u8 0,.int .u8 0,.slice none 0 0],.i t34,.i 2])) k) (b0 [c,e] px #[.agg #[.i q,.int .u8 u,.int .u8 x,y.v]] n λt36 B=>Y (ah (t36>64)) (loc [c,e] B λE=>R (V (.tuple #[.agg #[.i 0,.int .u8 0,.int .u8 0,.slice none 0 0],.i ((h.size:Nat):Int),.i 4])) E) (loc [c,e] B λF=>R (V (.tuple #[.agg #[.i q,.int .u8 u,.int .u8 x,y.v],.i 0,.i 0])) F)))):ai U Bw #[.string h] w R:=aE X [] C
end GL
namespace GH
noncomputable abbrev X:Fx:=⟨U,Tryz.f90,[],[]⟩
def ok (c:Int) (w:I) (R:aa) (n:gk xc #[.int .u8 c] w λq d=>Y q (aN d (.cells #[.int .u8 39,.int .u8 c,.int .u8 39] b') λe=>
 ∃j:ByteArray,a6 U (Go.convert aH dy (.slice (some (nb d)) 3 3)) e=.ok (.string j) e/\R (V (.string j)) e) (v3 tP #[.i (ab .i64 (cz (ab .i64 c) 16))] d λt11 u=>v3 tP #[.i (dP (ab .i64 c) 16)] u λt15 k=>aN k (.cells #[.int .u8 92,.int .u8 120,.int .u8 t11,.int .u8 t15] b') λh=>
 ∃t17:ByteArray,a6 U (Go.convert aH dy (.slice (some (nb k)) 4 4)) h=.ok (.string t17) h/\R (V (.string t17)) h)):ai U tL #[.int .u8 c] w R:=aE X [] n
end GH
namespace Aq
noncomputable abbrev X:Fx:=⟨U,Tryz.f89,[],[1]⟩
abbrev aQ (w:I) (R:aa):Prop:=
 R (V (.i 4)) w
noncomputable def bf:=aC X [] (ak [0,1,1,1,2]) [] aQ
def aD (c k q:Int) (e:O) (w:I) (R:aa) (j:aJ [] w λx d=>
 Y (c==6) (R (V (.i 3)) d) (Y (ah (c<3)) (aQ d R) (Y (c==7) (aQ d R) (Y (ah (((e.n:Nat):Int)<2)) (aQ d R) (aN d (.cells #[.i 2,.i 0,.i 1] bX) λh=>
 (0:Int)<=(ab .i64 (c - 3))/\(ab .i64 (c - 3))<((3:Nat):Int)/\ct (some (nb d)) λu=>∃t25:Int,h.cell? (u.add (ag (ab .i64 (c - 3)) *1))=some (.i t25)/\
 R (V (.i t25)) h))))):ai U tM #[.agg #[.i c,.int .u8 k,.int .u8 q,e.v]] w R:=aE X [bf] j
end Aq
namespace GS
noncomputable abbrev X:Fx:=⟨U,Tryz.f91,[],[]⟩
def ok (c:Int) (w:I) (R:aa) (d:Y (ah (c>=97)) (R (V (.bool (ah (c<=122)))) w) (R (V (.bool false)) w)):ai U xb #[.int .u8 c] w R:=aE X [] d
end GS
namespace ll
noncomputable abbrev X:Fx:=⟨U,Tryz.f72,[(11,ls [0,1,5,6,2,3,4,7,8,9,10])],[2]⟩
abbrev aQ (j:Nat) (d k n:Int) (q:O) (c:ByteArray) (w:I) (R:aa):Prop:=
 aN w (.cells #[.string (az #[99,97,116,40]),.string (az #[97,108,116,40]),.string (az #[97,108,108,40])] dy) λe=>
 (0:Int)<=(ab .i64 (d - 3))/\(ab .i64 (d - 3))<((3:Nat):Int)/\ct (some (nb w)) λh=>∃t79:ByteArray,e.cell? (h.add (ag (ab .i64 (d - 3)) *1))=some (.string t79)/\
 ¬(((t79.size+c.size:Nat):Int)>IntKind.i64.max)/\¬((((t79++c).size+(az #[41]).size:Nat):Int)>IntKind.i64.max)/\R (V (.string ((t79++c)++(az #[41])))) e
noncomputable def bf:=aC X [] (ak [2,1,1,1,3]) [(2,.l [.I,.Y,.Y,.s] aF),(5,.v [.st])] aQ::[]
abbrev P1:Ps:=[(2,.l [.I,.Y,.Y,.s] aF),(6,.v [.st]),(7,.v [.I]),(8,.v [.st]),(9,.v [.I])]
def b6 (h:Nat) (j k n:Int) (q:O) (u:ByteArray) (e:Int) (d:ByteArray) (c:Int) (w:I) (R:aa):Prop:=br P1 0 (X.Sem (ak [0,1,1,1,7])) h j k n q u e d c w R
noncomputable def cC:=bD X (ak [0,1,1,1,7]) P1 b6::bf
abbrev bh (h:Nat) (j k n:Int) (q:O) (u:ByteArray) (e:Int) (d:ByteArray) (c:Int) (w:I) (R:aa):Prop:=
 b6 h j k n q u e d (ab .i64 (c+1)) w R
noncomputable def bt:=aC X cC (ak [2,2,1,1,7]) P1 bh::cC
abbrev aY (k:Nat) (n q u:Int) (x:O) (c:ByteArray) (j:Int) (d:ByteArray) (h:Int) (e:ByteArray) (w:I) (R:aa):Prop:=
 ¬(((d.size+c.size:Nat):Int)>IntKind.i64.max)/\¬((((d++c).size+e.size:Nat):Int)>IntKind.i64.max)/\bh k n q u x c j ((d++c)++e) h w R
noncomputable def bm:=aC X bt (ak [2,2,1,2,1,1,7]) [(2,.l [.I,.Y,.Y,.s] aF),(6,.v [.st]),(7,.v [.I]),(8,.v [.st]),(9,.v [.I]),(10,.v [.st])] aY::bt
def eV:∀(e:Nat) (k q u:Int) (h:O) (x:ByteArray) (j:Int) (c:ByteArray) (d:Int) (w:I) (R:aa) (J:Y (ah (d<((h.n:Nat):Int))) (aw h d λD=>aV w (D.add (ag d *4)) λE F G H=>fT [e] jg #[.agg #[.i E,.int .u8 F,.int .u8 G,H.v],.i (ab .i64 (j+1))] w λt112 A=>Y (k==3) ((0:Int)<=(ab .i64 (((c.size:Nat):Int) - 1))/\∃y:UInt8,c[ag (ab .i64 (((c.size:Nat):Int) - 1))]? =some y/\bM [e] xb #[.int .u8 ((y.toNat:Nat):Int)] A λt122 B=>Y t122 ((0:Int)<=0/\∃z:UInt8,t112[ag 0]? =some z/\bM [e] xb #[.int .u8 ((z.toNat:Nat):Int)] B λt127 C=>Y t127 (¬(((c.size+(az #[32]).size:Nat):Int)>IntKind.i64.max)/\aY e k q u h x j (c++(az #[32])) d t112 C R) (aY e k q u h x j c d t112 C R)) (aY e k q u h x j c d t112 B R)) (aY e k q u h x j c d t112 A R)) (R (V (.string c)) w)),b6 e k q u h x j c d w R:=mp (bF (X:=X) bm (ak [0,1,1,1,7]) P1)
def aD (c j k:Int) (h:O) (q:Int) (w:I) (R:aa) (y:aJ [] w λd w1=>
 b0 [d] tM #[.agg #[.i c,.int .u8 j,.int .u8 k,h.v]] w1 λt12 e=>Y (ah (t12<q)) (fT [d] jg #[.agg #[.i c,.int .u8 j,.int .u8 k,h.v],.i 0] e λt16 w3=>¬((((az #[40]).size+t16.size:Nat):Int)>IntKind.i64.max)/\¬(((((az #[40])++t16).size+(az #[41]).size:Nat):Int)>IntKind.i64.max)/\R (V (.string (((az #[40])++t16)++(az #[41])))) w3) (Y (c==0) (R (V (.string (az #[110,111,110,101]))) e) (Y (c==1) (R (V (.string (az #[101,109,112,116,121]))) e) (Y (c==2) (Y (j==k) (fT [d] tL #[.int .u8 j] e λt34 w4=>R (V (.string t34)) w4) (loc [d] e λw5=>fT [d] tL #[.int .u8 j] w5 λt37 w6=>¬((((az #[91]).size+t37.size:Nat):Int)>IntKind.i64.max)/\¬(((((az #[91])++t37).size+(az #[45]).size:Nat):Int)>IntKind.i64.max)/\fT [d] tL #[.int .u8 k] w6 λt42 w7=>¬((((((az #[91])++t37)++(az #[45])).size+t42.size:Nat):Int)>IntKind.i64.max)/\¬(((((((az #[91])++t37)++(az #[45]))++t42).size+(az #[93]).size:Nat):Int)>IntKind.i64.max)/\R (V (.string (((((az #[91])++t37)++(az #[45]))++t42)++(az #[93])))) w7)) (Y (c==6) (aw h 0 λz=>aV e (z.add (ag 0 *4)) λA B C D=>fT [d] jg #[.agg #[.i A,.int .u8 B,.int .u8 C,D.v],.i 3] e λt51 w8=>¬((((az #[33]).size+t51.size:Nat):Int)>IntKind.i64.max)/\R (V (.string ((az #[33])++t51))) w8) (Y (c==7) (aw h 0 λE=>aV e (E.add (ag 0 *4)) λF G H J=>fT [d] jg #[.agg #[.i F,.int .u8 G,.int .u8 H,J.v],.i 4] e λt59 w9=>¬(((t59.size+(az #[42]).size:Nat):Int)>IntKind.i64.max)/\R (V (.string (t59++(az #[42])))) w9) (Y (ah (((h.n:Nat):Int)<2)) (Y (((h.n:Nat):Int)==1) (aw h 0 λK=>aV e (K.add (ag 0 *4)) λL M N P=>fT [d] jg #[.agg #[.i L,.int .u8 M,.int .u8 N,P.v],.i 0] e λt73 ad=>aQ d c j k h t73 ad R) (aQ d c j k h (az #[]) e R)) (aN e (.cells #[.s0,.string (az #[124]),.string (az #[38])] dy) λu=>
 (0:Int)<=(ab .i64 (c - 3))/\(ab .i64 (c - 3))<((3:Nat):Int)/\ct (some (nb e)) λQ=>∃t88:ByteArray,u.cell? (Q.add (ag (ab .i64 (c - 3)) *1))=some (.string t88)/\
 b0 [d] tM #[.agg #[.i c,.int .u8 j,.int .u8 k,h.v]] u λt90 x=>aw h 0 λS=>aV x (S.add (ag 0 *4)) λT W Z ac=>fT [d] jg #[.agg #[.i T,.int .u8 W,.int .u8 Z,ac.v],.i (ab .i64 (t90+1))] x λt97 ae=>b6 d c j k h t88 t90 t97 1 ae R)))))))):ai U jg #[.agg #[.i c,.int .u8 j,.int .u8 k,h.v],.i q] w R:=aE X bm y
end ll
namespace Pw
noncomputable def C0:Code:=(Tryz.f44.body).getD .skip
noncomputable def C1:=C0.sn
noncomputable def C2:=C1.sn
noncomputable def C3:=C2.sn
noncomputable def C4:=C3.sn
noncomputable def C5:=C4.sn
noncomputable def C6:=C5.sn
noncomputable def C7:=C6.sn
noncomputable def C8:=C7.sn
abbrev Q0 (R:aa):e5:=(bodyPost U Tryz.f44 R)
noncomputable def C9:=C8.sn
abbrev S0 (c:Int) (d:O) (w:I) (R:aa):Prop:=
 (0:Int)<=(dP (ab .i64 (cz c 216)) 8)/\(dP (ab .i64 (cz c 216)) 8)<((d.n:Nat):Int)/\ct d.a λe=>aV w (e.add (ag (dP (ab .i64 (cz c 216)) 8) *4)) λh j k q=>k' pC #[.agg #[.i h,.int .u8 j,.int .u8 k,q.v]] w λu x y z A=>qQ jg #[.agg #[.i u,.int .u8 x,.int .u8 y,z.v],.i 0] A λt86 B=>R (V (.string t86)) B
def mM (E:Env) (w:I) (R:aa):Prop:=W.asInt .i64 (Env.get? E 3) λd=>W.asSlice (Env.get? E 9) λc=>S0 d c w R
end Pw
namespace GI
noncomputable abbrev X:Fx:=⟨U,Tryz.f66,[],[3,6]⟩
def aD (e:ByteArray) (w:I) (R:aa) (q:FO Bw #[.string e] w λu x y z K A G=>aJ [] G λc k=>
 Y (A !=0) (loc [c] k λj=>R (V (.bool false)) j) (loc [c] k λj=>sR [c] Bv #[.agg #[.i u,.int .u8 x,.int .u8 y,z.v]] j λB C D E F J=>aJ [c] J λd n=>
 Y (F==0) (loc [c,d] n λh=>fT [c,d] jg #[.agg #[.i B,.int .u8 C,.int .u8 D,E.v],.i 0] h λt25 H=>R (V (.bool (t25.toList==e.toList))) H) (loc [c,d] n λh=>R (V (.bool false)) h))):ai U Bu #[.string e] w R:=aE X [] q
end GI
namespace G1
noncomputable abbrev X:Fx:=⟨U,Tryz.f42,[],[2]⟩
def aD (c:Int) (w:I) (R:aa) (e:aJ [] w λd h=>
 loc [d] h λj=>R (V (.agg #[.i 0,.i c,.i 0])) j):ai U e0 #[.i c] w R:=aE X [] e
end G1
namespace G5
noncomputable abbrev X:Fx:=⟨U,Tryz.f43,[],[2]⟩
def aD (c:Int) (w:I) (R:aa) (e:aJ [] w λd h=>
 loc [d] h λj=>R (V (.agg #[.i 1,.i c,.i 0])) j):ai U lB #[.i c] w R:=aE X [] e
end G5
namespace G6
noncomputable abbrev X:Fx:=⟨U,Tryz.f77,[],[]⟩
def ok (c:O) (d:Int) (w:I) (R:aa) (e:gk Bp #[c.v,.i d] w λh j=>R (V (.bool h)) j):ai U xj #[c.v,.i d] w R:=aE X [] e
end G6
namespace G3
noncomputable abbrev X:Fx:=⟨U,Tryz.f45,[],[]⟩
abbrev P0:Ps:=[]
abbrev S0 (w:I) (R:aa):Prop:=
 R (V (.i (-1))) w
noncomputable def bf:=aC X [] (ak [0,1,1,1,1]) P0 S0::[]
abbrev S1 (w:I) (R:aa):Prop:=
 R (V (.i 1)) w
noncomputable def bg:=aC X bf (ak [0,1,1,1,1,1,3]) P0 S1::bf
abbrev S3 (w:I) (R:aa):Prop:=
 R (V (.i 3)) w
noncomputable def bt:=aC X bg (ak [0,1,3,1,1,1,3]) P0 S3::bg
abbrev S4 (w:I) (R:aa):Prop:=
 R (V (.i 2)) w
noncomputable def cZ:=aC X bt (ak [4]) P0 S4::bt
abbrev S2 (t11:Int) (w:I) (R:aa):Prop:=
 Y (t11==19) (Y (t11==19) (S3 w R) (S4 w R)) (Y (t11==25) (Y (t11==25) (S3 w R) (S4 w R)) (Y (t11==30) (Y (t11==30) (S3 w R) (S4 w R)) (Y (t11==32) (S3 w R) (S4 w R))))
noncomputable def bm:=aC X cZ (ak [2,1,1,1,3]) [(11,.v [.I])] S2::cZ
def ok (c:Int) (w:I) (R:aa) (d:Y (ah (c<0)) (S0 w R) (Y (ah (c>34)) (S0 w R) (Y (ah (c<=3)) (R (V (.i 0)) w) (Y (c==4) (Y (c==4) (S1 w R) (S2 c w R)) (Y (c==5) (Y (c==5) (S1 w R) (S2 c w R)) (Y (c==21) (Y (c==21) (S1 w R) (S2 c w R)) (Y (c==22) (Y (c==22) (S1 w R) (S2 c w R)) (Y (c==23) (Y (c==23) (S1 w R) (S2 c w R)) (Y (c==27) (Y (c==27) (S1 w R) (S2 c w R)) (Y (c==28) (Y (c==28) (S1 w R) (S2 c w R)) (Y (c==33) (Y (c==33) (S1 w R) (S2 c w R)) (Y (c==34) (S1 w R) (S2 c w R))))))))))))):ai U xg #[.i c] w R:=aE X bm d
end G3
namespace ln
noncomputable abbrev X:Fx:=⟨U,Tryz.f78,[],[]⟩
abbrev S0 (w:I) (R:aa):Prop:=
 R (V (.bool false)) w
noncomputable def bf:=aC X [] (ak [0,1,1,1,1]) [] S0::[]
abbrev P1:Ps:=[(0,.v [.st]),(3,.v [.I])]
def L1 (d:ByteArray) (c:Int) (w:I) (R:aa):Prop:=br P1 0 (X.Sem (ak [0,1,1,1,2])) d c w R
noncomputable def cC:=bD X (ak [0,1,1,1,2]) P1 L1::bf
abbrev S4 (d:ByteArray) (c:Int) (w:I) (R:aa):Prop:=
 L1 d (ab .i64 (c+1)) w R
noncomputable def cZ:=aC X cC (ak [2,2,1,1,2]) P1 S4::cC
abbrev S3 (d:ByteArray) (c:Int) (e h:Bool) (w:I) (R:aa):Prop:=
 Y (!e) (Y (!h) (R (V (.bool false)) w) (S4 d c w R)) (S4 d c w R)
noncomputable def bt:=aC X cZ (ak [2,2,1,2,1,1,2]) [(0,.v [.st]),(3,.v [.I]),(4,.v [.b]),(5,.v [.b])] S3::cZ
abbrev S2 (d:ByteArray) (c:Int) (e:Bool) (w:I) (R:aa):Prop:=
 (0:Int)<=c/\∃h:UInt8,d[ag c]? =some h/\Y (ah (((h.toNat:Nat):Int)>=48)) ((0:Int)<=c/\∃j:UInt8,d[ag c]? =some j/\Y (ah (((j.toNat:Nat):Int)<=57)) (S3 d c e true w R) ((0:Int)<=c/\∃k:UInt8,d[ag c]? =some k/\S3 d c e (((k.toNat:Nat):Int)==45) w R)) ((0:Int)<=c/\∃n:UInt8,d[ag c]? =some n/\S3 d c e (((n.toNat:Nat):Int)==45) w R)
noncomputable def bm:=aC X bt (ak [1,2,1,2,1,1,2]) [(0,.v [.st]),(3,.v [.I]),(4,.v [.b])] S2::bt
def fC:∀(d:ByteArray) (c:Int) (w:I) (R:aa) (j:Y (ah (c<((d.size:Nat):Int))) ((0:Int)<=c/\∃e:UInt8,d[ag c]? =some e/\Y (ah (((e.toNat:Nat):Int)>=97)) ((0:Int)<=c/\∃h:UInt8,d[ag c]? =some h/\S2 d c (ah (((h.toNat:Nat):Int)<=122)) w R) (S2 d c false w R)) (R (V (.bool true)) w)),L1 d c w R:=mp (bF (X:=X) bm (ak [0,1,1,1,2]) P1)
def ok (c:ByteArray) (w:I) (R:aa) (h:Y (ah (((c.size:Nat):Int)<1)) (S0 w R) (Y (ah (((c.size:Nat):Int)>16)) (S0 w R) ((0:Int)<=0/\∃d:UInt8,c[ag 0]? =some d/\Y (ah (((d.toNat:Nat):Int)<97)) (S0 w R) ((0:Int)<=0/\∃e:UInt8,c[ag 0]? =some e/\Y (ah (((e.toNat:Nat):Int)>122)) (S0 w R) (L1 c 0 w R))))):ai U BI #[.string c] w R:=aE X bm h
end ln
namespace GZ
noncomputable abbrev X:Fx:=⟨U,Tryz.f94,[],[]⟩
def ok (c e d:Int) (w:I) (R:aa) (h:Y (ah (c>=e)) (R (V (.bool (ah (c<=d)))) w) (R (V (.bool false)) w)):ai U lA #[.i c,.i e,.i d] w R:=aE X [] h
end GZ
namespace ph
noncomputable abbrev X:Fx:=⟨U,Tryz.f79,[],[1]⟩
abbrev aQ (c:Bool) (w:I) (R:aa):Prop:=
 Y (!c) (R (V (.i 9)) w) (R (V (.i 0)) w)
noncomputable def bf:=aC X [] (ak [3]) [(3,.v [.b])] aQ
def aD (d e h:Int) (w:I) (R:aa) (x:aJ [] w λc j=>
 Y (d==0) (bM [c] lA #[.i e,.i 1,.i 64] j λt10 k=>Y t10 (aQ (h==0) k R) (aQ false k R)) (Y (d==1) (bM [c] lA #[.i e,.i 0,.i 64] j λt20 n=>Y t20 (aQ (h==0) n R) (aQ false n R)) (Y (d==2) (bM [c] lA #[.i e,.i 1,.i 64] j λt30 q=>Y t30 (bM [c] lA #[.i h,.i 1,.i 16] q λt34 y=>aQ t34 y R) (aQ false q R)) (Y (d==3) (bM [c] lA #[.i e,.i 0,.i 64] j λt40 u=>Y t40 (bM [c] lA #[.i h,.i 1,.i 16] u λt44 z=>aQ t44 z R) (aQ false u R)) (aQ false j R))))):ai U BF #[.agg #[.i d,.i e,.i h]] w R:=aE X [bf] x
end ph
namespace th
noncomputable abbrev X:Fx:=⟨U,Tryz.f62,[(1,ls [0,1,3,4,5,2,6])],[3]⟩
abbrev P0:Ps:=[(0,.v [.s]),(3,.l [.I,.s,.I,.I,.U,.st,.I,.I,.I] bC),(5,.v [.I])]
def aP (c:O) (e:Nat) (h:Int) (j:O) (k n q:Int) (u:ByteArray) (x y z d:Int) (w:I) (R:aa):Prop:=br P0 0 (X.Sem (ak [0,1,1,1,2])) c e h j k n q u x y z d w R
noncomputable def aZ:=bD X (ak [0,1,1,1,2]) P0 aP::[]
abbrev P1:Ps:=[]
abbrev a2 (w:I) (R:aa):Prop:=
 R (V (.i 1)) w
noncomputable def bg:=aC X aZ (ak [0,1,1,2,1,2,1,1,2]) P1 a2::aZ
abbrev aY (w:I) (R:aa):Prop:=
 R (V (.i 1)) w
noncomputable def bm:=aC X bg (ak [0,1,1,1,5]) P1 aY::bg
abbrev bh (w:I) (R:aa):Prop:=
 R (V (.i 0)) w
noncomputable def bt:=aC X bm (ak [6]) P1 bh::bm
def bW:∀(x:O) (q:Nat) (d:Int) (k:O) (y u j:Int) (e:ByteArray) (z A B h:Int) (w:I) (R:aa) (H:Y (ah (h<((k.n:Nat):Int))) (aw k h λD=>∃t26:Int,w.cell? (D.add (ag h *1))=some (.i t26)/\
 Y (ah (t26<0)) (a2 w R) (aw k h λE=>∃t33:Int,w.cell? (E.add (ag h *1))=some (.i t33)/\
 Y (ah (t33>=((x.n:Nat):Int))) (a2 w R) (aP x q d k y u j e z A B (ab .i64 (h+1)) w R))) (aN w (.cells #[.i 21,.i 22,.i 23,.i 28] bX) λF=>
 bM [q] xj #[.slice (some (nb w)) 4 4,.i d] F λt41 C=>aN C (.cells #[.i 0,.i 2,.i 33] bX) λG=>
 bM [q] xj #[.slice (some (nb C)) 3 3,.i d] G λt45 c=>Y (!t41) (Y (y !=0) (aY c R) (Y (d !=21) (Y (u !=0) (aY c R) (Y (d !=1) (Y (j !=0) (aY c R) (Y (!t45) (Y (!(e.toList==(az #[]).toList)) (aY c R) (bh c R)) (bh c R))) (Y (!t45) (Y (!(e.toList==(az #[]).toList)) (aY c R) (bh c R)) (bh c R)))) (Y (d !=1) (Y (j !=0) (aY c R) (Y (!t45) (Y (!(e.toList==(az #[]).toList)) (aY c R) (bh c R)) (bh c R))) (Y (!t45) (Y (!(e.toList==(az #[]).toList)) (aY c R) (bh c R)) (bh c R))))) (Y (d !=21) (Y (u !=0) (aY c R) (Y (d !=1) (Y (j !=0) (aY c R) (Y (!t45) (Y (!(e.toList==(az #[]).toList)) (aY c R) (bh c R)) (bh c R))) (Y (!t45) (Y (!(e.toList==(az #[]).toList)) (aY c R) (bh c R)) (bh c R)))) (Y (d !=1) (Y (j !=0) (aY c R) (Y (!t45) (Y (!(e.toList==(az #[]).toList)) (aY c R) (bh c R)) (bh c R))) (Y (!t45) (Y (!(e.toList==(az #[]).toList)) (aY c R) (bh c R)) (bh c R)))))),aP x q d k y u j e z A B h w R:=mp (bF (X:=X) bt (ak [0,1,1,1,2]) P0)
def aD (h:O) (d:Int) (e:O) (j k q:Int) (x:ByteArray) (y z A:Int) (w:I) (R:aa) (C:aJ [] w λc D=>
 loc [c] D λE=>b0 [c] xg #[.i d] E λt10 B=>Y (t10 !=((e.n:Nat):Int)) (R (V (.i 1)) B) (aP h c d e j k q x y z A 0 B R)):ai U BM #[h.v,.agg #[.i d,e.v,.i j,.i k,.u q,.string x,.i y,.i z,.i A]] w R:=aE X bt C
end th
namespace i'
noncomputable abbrev X:Fx:=⟨U,Tryz.f63,[(19,ls [0,1,2,3,4,5,6,7,8,9,10,11,12,13,14,15,16,17,18,19,20,21,22,23,24,25,26,27,28,29,30])],[3,4]⟩
abbrev aY (t4:Nat) (d e h:Int) (w:I) (R:aa):Prop:=
 loc [t4] w λc=>R (V (.tuple #[.agg #[.i 0,.i 0,.i 0],.i 9])) c
noncomputable def bm:=aC X [] (ak [0,1,1,1,7]) [(4,.l [.I,.I,.I] b3)] aY::[]
abbrev P1:Ps:=[(0,.v [.s]),(3,.l [.I,.s,.I,.I,.U,.st,.I,.I,.I] bC),(4,.l [.I,.I,.I] b3),(9,.v [.I])]
def hc (c:O) (e:Nat) (h:Int) (j:O) (k n q:Int) (u:ByteArray) (x y z:Int) (t4:Nat) (A B C d:Int) (w:I) (R:aa):Prop:=br P1 0 (X.Sem (ak [0,1,1,1,9])) c e h j k n q u x y z t4 A B C d w R
noncomputable def lh:=bD X (ak [0,1,1,1,9]) P1 hc::bm
abbrev fj (c:O) (e:Nat) (h:Int) (j:O) (k n q:Int) (u:ByteArray) (x y z:Int) (t4:Nat) (A B C d:Int) (w:I) (R:aa):Prop:=
 hc c e h j k n q u x y z t4 A B C (ab .i64 (d+1)) w R
noncomputable def hh:=aC X lh (ak [2,2,1,1,9]) P1 fj::lh
def mP:∀(d:O) (e:Nat) (u:Int) (y:O) (z A B:Int) (x:ByteArray) (j k q:Int) (t4:Nat) (C D E c:Int) (w:I) (R:aa) (P:Y (ah (c<((d.n:Nat):Int))) (Y (u==0) (aw d c λF=>loc [e,t4] w λh=>∃t103:Int,h.cell? ((F.add (ag c *9)).add 0)=some (.i t103)/\
 Y (t103==0) (aw d c λG=>∃t111:ByteArray,h.cell? ((G.add (ag c *9)).add 5)=some (.string t111)/\
 Y (t111.toList==x.toList) (aw d c λH=>cr h ((H.add (ag c *9)).add 6) λJ K L=>Y (!((J==j)&&((K==k)&&((L==q)&&true)))) (loc [e,t4] h λM=>R (V (.tuple #[.agg #[.i 0,.i 0,.i 0],.i 8])) M) (fj d e u y z A B x j k q t4 C D E c h R)) (fj d e u y z A B x j k q t4 C D E c h R)) (fj d e u y z A B x j k q t4 C D E c h R)) (loc [e,t4] w λh=>fj d e u y z A B x j k q t4 C D E c h R)) (loc [e,t4] w λN=>R (V (.tuple #[.agg #[.i j,.i k,.i q],.i 0])) N)),hc d e u y z A B x j k q t4 C D E c w R:=mp (bF (X:=X) hh (ak [0,1,1,1,9]) P1)
abbrev P2:Ps:=[(0,.v [.s]),(3,.l [.I,.s,.I,.I,.U,.st,.I,.I,.I] bC),(4,.l [.I,.I,.I] b3)]
abbrev cB (c:O) (d:Nat) (e:Int) (h:O) (j k n:Int) (q:ByteArray) (u x y:Int) (t4:Nat) (z A B:Int) (w:I) (R:aa):Prop:=
 hc c d e h j k n q u x y t4 z A B 0 w R
noncomputable def cZ:=aC X hh (ak [9]) P2 cB::hh
abbrev bh (j:O) (d:Nat) (e:Int) (k:O) (n q h:Int) (u:ByteArray) (x c y:Int) (t4:Nat) (z A B:Int) (w:I) (R:aa):Prop:=
 Y (e==1) (Y (ah (c<64)) (¬(ab .u64 c)<0/\Y (ah (h>=(ab .u64 (1 *2^(min (ag (ab .u64 c)) (IntKind.bits .u64)))))) (loc [d,t4] w λC=>R (V (.tuple #[.agg #[.i 0,.i 0,.i 0],.i 5])) C) (cB j d e k n q h u x c y t4 z A B w R)) (cB j d e k n q h u x c y t4 z A B w R)) (cB j d e k n q h u x c y t4 z A B w R)
noncomputable def bt:=aC X cZ (ak [8]) P2 bh::cZ
abbrev a2 (k:O) (n:Nat) (c:Int) (q:O) (u x y:Int) (z:ByteArray) (j A B:Int) (t4:Nat) (d e h:Int) (C:Bool) (w:I) (R:aa):Prop:=
 Y (c==1) (Y (j !=0) (aY t4 d e h w R) (Y (c==3) (Y (!C) (aY t4 d e h w R) (bh k n c q u x y z j A B t4 d e h w R)) (bh k n c q u x y z j A B t4 d e h w R))) (Y (c==3) (Y (!C) (aY t4 d e h w R) (bh k n c q u x y z j A B t4 d e h w R)) (bh k n c q u x y z j A B t4 d e h w R))
noncomputable def bg:=aC X bt (ak [7]) [(0,.v [.s]),(3,.l [.I,.s,.I,.I,.U,.st,.I,.I,.I] bC),(4,.l [.I,.I,.I] b3),(8,.v [.b])] a2::bt
abbrev aQ (k:O) (c:Nat) (n:Int) (q:O) (u x y:Int) (z:ByteArray) (d e h:Int) (t4:Nat) (A B C:Int) (D:Bool) (w:I) (R:aa):Prop:=
 Y (!D) (loc [c,t4] w λE=>R (V (.tuple #[.agg #[.i 0,.i 0,.i 0],.i 6])) E) (b0 [c,t4] BF #[.agg #[.i d,.i e,.i h]] w λt35 j=>Y (t35 !=0) (loc [c,t4] j λF=>R (V (.tuple #[.agg #[.i 0,.i 0,.i 0],.i t35])) F) (Y (d==2) (a2 k c n q u x y z d e h t4 A B C true j R) (a2 k c n q u x y z d e h t4 A B C (d==3) j R)))
noncomputable def bf:=aC X bg (ak [3]) [(0,.v [.s]),(3,.l [.I,.s,.I,.I,.U,.st,.I,.I,.I] bC),(4,.l [.I,.I,.I] b3),(6,.v [.b])] aQ::bg
def aD (k:O) (h:Int) (n:O) (q x y:Int) (e:ByteArray) (z A B:Int) (w:I) (R:aa) (C:aJ [] w λc G=>
 aJ [c] G λd j=>
 Y (h==2) (Y (ah (((e.size:Nat):Int)>64)) (loc [c,d] j λJ=>R (V (.tuple #[.agg #[.i 0,.i 0,.i 0],.i 5])) J) (cA [c,d] lB #[.i ((e.size:Nat):Int)] j λD E F K=>loc [c,d] K λL=>R (V (.tuple #[.agg #[.i D,.i E,.i F],.i 0])) L)) (Y (h !=0) (aQ k c h n q x y e z A B d 0 0 0 true j R) (bM [c,d] BI #[.string e] j λt28 H=>aQ k c h n q x y e z A B d 0 0 0 t28 H R))):ai U BO #[k.v,.agg #[.i h,n.v,.i q,.i x,.u y,.string e,.i z,.i A,.i B]] w R:=aE X bf C
end i'
namespace G2
noncomputable abbrev X:Fx:=⟨U,Tryz.f74,[],[1,2]⟩
def aD (h e n:Int) (w:I) (R:aa) (k:aJ [] w λc B=>
 aJ [c] B λd j=>
 Y (h==2) (cA [c,d] e0 #[.i e] j λy z A D=>loc [c,d] D λE=>R (V (.agg #[.i y,.i z,.i A])) E) (cA [c,d] lB #[.i e] j λq u x F=>loc [c,d] F λC=>R (V (.agg #[.i q,.i u,.i x])) C)):ai U tR #[.agg #[.i h,.i e,.i n]] w R:=aE X [] k
end G2
namespace Ar
noncomputable abbrev X:Fx:=⟨U,Tryz.f64,[(13,ls [0,1,2,3,4,5,6,7,8,9,10,11,12,13,14,15]),(15,ls [0,1,2,3,4,5,6,7,8,9,10,11,12,13,14,15,16,17,18,19,20,21,22,23,24,25,26]),(19,ls [0,1,2,3,4,5,6,7,8,9,10]),(21,ls [0,1,2,3,4,5,6,7,8,9,10]),(23,ls [0,1,2,3,4,5,6,7,8,9,10,11,12,13,14,15,16,17,18,19,20,21,22,23,24,25,26,27]),(25,ls [0,1,2,3,4,5,6,7,8]),(34,ls [0,1,2,3,4,5,6,7,8,9,10,11,12,13,14,15]),(38,ls [0,1,2,3]),(39,ls [0,1,2,3,4,5,6,7,8])],[5]⟩
abbrev a2 (c:Bool) (w:I) (R:aa):Prop:=
 R (V (.bool c)) w
noncomputable def bg:=aC X [] (ak [0,1,1,1,1,1,5]) [(6,.v [.b])] a2::[]
abbrev bh (w:I) (R:aa):Prop:=
 R (V (.bool false)) w
noncomputable def bt:=aC X bg (ak [0,1,1,2,11,1,1,1,5]) [] bh::bg
abbrev cB (c:Bool) (w:I) (R:aa):Prop:=
 R (V (.bool c)) w
noncomputable def cZ:=aC X bt (ak [0,1,15,1,1,1,5]) [(7,.v [.b])] cB::bt
abbrev fj (c:O) (d:Bool) (w:I) (R:aa):Prop:=
 Y d (aw c 1 λe=>∃t164:Int,w.cell? ((e.add (ag 1 *3)).add 0)=some (.i t164)/\
 R (V (.bool (t164==1))) w) (R (V (.bool false)) w)
noncomputable def hh:=aC X cZ (ak [0,1,17,1,1,1,5]) [(1,.v [.s]),(7,.v [.b])] fj::cZ
abbrev P4:Ps:=[(1,.v [.s]),(5,.l [.I,.I,.I] b3),(6,.v [.b]),(7,.v [.b]),(26,.v [.I])]
abbrev jz (d:O) (c:Nat) (D E F:Int) (G k:Bool) (t26:Int) (w:I) (R:aa):Prop:=
 Y (t26==30) (Y k (aw d 1 λn=>loc [c] w λe=>cr e (n.add (ag 1 *3)) λq u x=>cA [c] e0 #[.i 7] e λH J K h=>tt h (n.add (ag 1 *3)) (.i q) (.i u) (.i x) λ_=>Y ((q==H)&&((u==J)&&((x==K)&&true))) (aw d 2 λy=>cr h (y.add (ag 2 *3)) λz A B=>cA [c] e0 #[.i 7] h λL M N C=>tt C (y.add (ag 2 *3)) (.i z) (.i A) (.i B) λ_=>R (V (.bool ((z==L)&&((A==M)&&((B==N)&&true))))) C) (R (V (.bool false)) h)) (loc [c] w λe=>R (V (.bool false)) e)) (Y (t26==32) (Y k (aw d 1 λP=>∃t191:Int,w.cell? ((P.add (ag 1 *3)).add 0)=some (.i t191)/\
 Y (t191==1) (aw d 2 λQ=>∃t198:Int,w.cell? ((Q.add (ag 2 *3)).add 0)=some (.i t198)/\
 R (V (.bool (t198==1))) w) (R (V (.bool false)) w)) (R (V (.bool false)) w)) (Y (t26==34) (loc [c] w λw4=>cA [c] e0 #[.i 8] w4 λS T W w5=>R (V (.bool ((D==S)&&((E==T)&&((F==W)&&true))))) w5) (Y G (aw d 1 λZ=>loc [c] w λj=>cr j (Z.add (ag 1 *3)) λab ac ad=>R (V (.bool ((D==ab)&&((E==ac)&&((F==ad)&&true))))) j) (loc [c] w λj=>R (V (.bool false)) j))))
noncomputable def gG:=aC X hh (ak [18,1,1,1,5]) P4 jz::hh
abbrev gZ (c:O) (h:Nat) (j k n:Int) (e d:Bool) (t26:Int) (w:I) (R:aa):Prop:=
 Y (t26==29) (Y (t26==29) (fj c d w R) (jz c h j k n e d t26 w R)) (Y (t26==31) (fj c d w R) (jz c h j k n e d t26 w R))
noncomputable def eY:=aC X gG (ak [16,1,1,1,5]) P4 gZ::gG
abbrev aY (c:O) (d:Nat) (j k e:Int) (x n B:Bool) (t26:Int) (w:I) (R:aa):Prop:=
 Y (t26==18) (aw c 1 λan=>loc [d] w λu=>cr u (an.add (ag 1 *3)) λao ap aq=>Y ((j==ao)&&((k==ap)&&((e==aq)&&true))) (R (V (.bool true)) u) (Y n (aw c 1 λar=>∃t47:Int,u.cell? ((ar.add (ag 1 *3)).add 0)=some (.i t47)/\
 R (V (.bool (t47==1))) u) (R (V (.bool false)) u))) (Y (t26==19) (loc [d] w λw2=>cA [d] e0 #[.i 1] w2 λau av ax h=>Y ((j==au)&&((k==av)&&((e==ax)&&true))) (aw c 1 λay=>cr h (ay.add (ag 1 *3)) λaz aA aB=>aw c 2 λaC=>cr h (aC.add (ag 2 *3)) λaD aE aF=>Y ((az==aD)&&((aA==aE)&&((aB==aF)&&true))) (R (V (.bool true)) h) (aw c 1 λaG=>∃t68:Int,h.cell? ((aG.add (ag 1 *3)).add 0)=some (.i t68)/\
 Y (t68==1) (aw c 2 λaH=>∃t74:Int,h.cell? ((aH.add (ag 2 *3)).add 0)=some (.i t74)/\
 R (V (.bool (t74==1))) h) (R (V (.bool false)) h))) (R (V (.bool false)) h)) (Y (t26==20) (Y x (aw c 1 λaI=>∃t86:Int,w.cell? ((aI.add (ag 1 *3)).add 0)=some (.i t86)/\
 R (V (.bool (t86==0))) w) (R (V (.bool false)) w)) (Y (t26==24) (Y B (aw c 1 λM=>loc [d] w λz=>cr z (M.add (ag 1 *3)) λN P Q=>cA [d] e0 #[.i e] z λaJ aK aL S=>tt S (M.add (ag 1 *3)) (.i N) (.i P) (.i Q) λ_=>R (V (.bool ((N==aJ)&&((P==aK)&&((Q==aL)&&true))))) S) (loc [d] w λz=>R (V (.bool false)) z)) (Y (t26==25) (Y (!B) (loc [d] w λA=>bh A R) (aw c 1 λD=>loc [d] w λA=>cr A (D.add (ag 1 *3)) λE F G=>cA [d] e0 #[.i e] A λW Z ab C=>tt C (D.add (ag 1 *3)) (.i E) (.i F) (.i G) λ_=>Y (!((E==W)&&((F==Z)&&((G==ab)&&true)))) (bh C R) (aw c 2 λH=>loc [d] C λT=>cr T (H.add (ag 2 *3)) λJ K L=>cA [d] tR #[.agg #[.i j,.i k,.i e]] T λac ad ae q=>tt q (H.add (ag 2 *3)) (.i J) (.i K) (.i L) λ_=>Y ((J==ac)&&((K==ad)&&((L==ae)&&true))) (R (V (.bool true)) q) (Y (j==3) (aw c 2 λaf=>∃t128:Int,q.cell? ((af.add (ag 2 *3)).add 0)=some (.i t128)/\
 Y (t128==1) (aw c 2 λai=>∃t135:Int,q.cell? ((ai.add (ag 2 *3)).add 1)=some (.i t135)/\
 R (V (.bool (ah (t135<=k)))) q) (R (V (.bool false)) q)) (R (V (.bool false)) q))))) (Y (t26==26) (Y B (aw c 1 λaj=>loc [d] w λy=>cr y (aj.add (ag 1 *3)) λak al am=>R (V (.bool ((j==ak)&&((k==al)&&((e==am)&&true))))) y) (loc [d] w λy=>R (V (.bool false)) y)) (Y (t26==27) (Y (t26==27) (cB n w R) (gZ c d j k e x n t26 w R)) (Y (t26==28) (Y (t26==28) (cB n w R) (gZ c d j k e x n t26 w R)) (Y (t26==33) (cB n w R) (gZ c d j k e x n t26 w R)))))))))
noncomputable def bm:=aC X eY (ak [2,1,1,1,5]) [(1,.v [.s]),(5,.l [.I,.I,.I] b3),(6,.v [.b]),(7,.v [.b]),(8,.v [.b]),(26,.v [.I])] aY::eY
abbrev aQ (c:Int) (h:O) (k:Nat) (n q u:Int) (d j e:Bool) (w:I) (R:aa):Prop:=
 Y (c==4) (Y (c==4) (a2 d w R) (aY h k n q u d j e c w R)) (Y (c==5) (Y (c==5) (a2 d w R) (aY h k n q u d j e c w R)) (Y (c==21) (Y (c==21) (a2 d w R) (aY h k n q u d j e c w R)) (Y (c==22) (Y (c==22) (a2 d w R) (aY h k n q u d j e c w R)) (Y (c==23) (a2 d w R) (aY h k n q u d j e c w R)))))
noncomputable def bf:=aC X bm (ak [5]) [(0,.v [.I]),(1,.v [.s]),(5,.l [.I,.I,.I] b3),(6,.v [.b]),(7,.v [.b]),(8,.v [.b])] aQ::bm
def aD (h:Int) (e:O) (w:I) (R:aa) (u:aw e 0 λx=>cr w (x.add (ag 0 *3)) λc k n=>aJ [] w λd q=>
 Y (c==2) (loc [d] q λj=>aQ h e d c k n (c==0) (c==1) true j R) (loc [d] q λj=>aQ h e d c k n (c==0) (c==1) (c==3) j R)):ai U BN #[.i h,e.v] w R:=aE X bf u
end Ar
namespace wt
noncomputable abbrev X:Fx:=⟨U,Tryz.f65,[(10,ls [0,1,2,3,4,5,6,7,8,9,10,11]),(13,ls [0,1,2,3,4,5,6,8,9,10,11,12,13,14,15,7,16,17]),(15,ls [0,1,2,3,4,5,7,8,9,6,10,11,12,13,14,15,16,17,18,19,20,21,22,23,24,25]),(18,ls [0,1,2,3,4,6,7,8,5,9,10,11,12,13,14,15,16,17,18]),(27,ls [1,2,3,0,4,5,6,7,8,9,10]),(29,ls [0,1,2,3,4,5,6,8,9,10,11,12,13,14,15,7,16,17]),(31,ls [0,1,2,3,4,5,6,8,9,10,11,12,13,14,15,7,16,17])],[2,4,6]⟩
abbrev P0:Ps:=[(4,.l [.I,.I,.I] b3)]
abbrev aQ (t4:Nat) (k n q:Int) (w:I) (R:aa):Prop:=
 cA [t4] e0 #[.i 1] w λc d e h=>loc [t4] h λj=>R (V (.tuple #[.agg #[.i c,.i d,.i e],.bool true])) j
noncomputable def bf:=aC X [] (ak [0,1,1,1,1,1,2]) P0 aQ::[]
abbrev aY (c:Nat) (z:Int) (A:O) (e B C:Int) (D:ByteArray) (E F G:Int) (t4:Nat) (H J K:Int) (d:Nat) (L q M:Int) (w:I) (R:aa):Prop:=
 loc [c,t4,d] w λu=>cA [c,t4,d] e0 #[.i (ab .i64 (q+e))] u λh j k n=>Y (ah (e>=1)) (loc [c,t4,d] n λx=>R (V (.tuple #[.agg #[.i h,.i j,.i k],.bool (ah (e<=(ab .i64 (64 - q))))])) x) (loc [c,t4,d] n λy=>R (V (.tuple #[.agg #[.i h,.i j,.i k],.bool false])) y)
noncomputable def bm:=aC X bf (ak [0,1,9,1,1,1,2]) [(2,.l [.I,.s,.I,.I,.U,.st,.I,.I,.I] bC),(4,.l [.I,.I,.I] b3),(6,.l [.I,.I,.I] b3)] aY::bf
abbrev cB (t4:Nat) (k n q:Int) (w:I) (R:aa):Prop:=
 cA [t4] e0 #[.i 7] w λc d e h=>loc [t4] h λj=>R (V (.tuple #[.agg #[.i c,.i d,.i e],.bool true])) j
noncomputable def cZ:=aC X bm (ak [0,1,15,1,1,1,2]) P0 cB::bm
abbrev P2:Ps:=[(1,.v [.s]),(2,.l [.I,.s,.I,.I,.U,.st,.I,.I,.I] bC),(4,.l [.I,.I,.I] b3),(6,.l [.I,.I,.I] b3),(11,.v [.I])]
abbrev gZ (h:O) (c:Nat) (af:Int) (ai:O) (u aj ak:Int) (al:ByteArray) (am an ao:Int) (t4:Nat) (ap aq ar:Int) (d:Nat) (ad e ae t11:Int) (w:I) (R:aa):Prop:=
 Y (t11==28) (loc [c,t4,d] w λT=>cA [c,t4,d] e0 #[.i 8] T λx y z E=>Y (ah (u>=0)) (loc [c,t4,d] E λw5=>R (V (.tuple #[.agg #[.i x,.i y,.i z],.bool (ah (u<=63))])) w5) (loc [c,t4,d] E λw8=>R (V (.tuple #[.agg #[.i x,.i y,.i z],.bool false])) w8)) (Y (t11==29) (aw h 1 λF=>loc [c,t4,d] w λq=>∃t133:Int,q.cell? ((F.add (ag 1 *3)).add 1)=some (.i t133)/\
 aw h 1 λj=>∃t141:Int,q.cell? ((j.add (ag 1 *3)).add 1)=some (.i t141)/\
 cA [c,t4,d] lB #[.i (ab .i64 (e+t133))] q λG H J A=>A.cell? ((j.add (ag 1 *3)).add 1)=some (.i t141)/\loc [c,t4,d] A λB=>B.cell? ((j.add (ag 1 *3)).add 1)=some (.i t141)/\R (V (.tuple #[.agg #[.i G,.i H,.i J],.bool (ah ((ab .i64 (e+t141))<=64))])) B) (Y (t11==32) (aw h 2 λK=>loc [c,t4,d] w λn=>∃t151:Int,n.cell? ((K.add (ag 2 *3)).add 1)=some (.i t151)/\
 aw h 2 λk=>∃t159:Int,n.cell? ((k.add (ag 2 *3)).add 1)=some (.i t159)/\
 cA [c,t4,d] lB #[.i (ab .i64 (e+t151))] n λL M N C=>C.cell? ((k.add (ag 2 *3)).add 1)=some (.i t159)/\loc [c,t4,d] C λD=>D.cell? ((k.add (ag 2 *3)).add 1)=some (.i t159)/\R (V (.tuple #[.agg #[.i L,.i M,.i N],.bool (ah ((ab .i64 (e+t159))<=64))])) D) (Y (t11==34) (cA [c,t4,d] lB #[.i 1] w λP Q S W=>loc [c,t4,d] W λZ=>R (V (.tuple #[.agg #[.i P,.i Q,.i S],.bool true])) Z) (loc [c,t4,d] w λac=>R (V (.tuple #[.agg #[.i ad,.i e,.i ae],.bool true])) ac))))
noncomputable def eY:=aC X cZ (ak [16,1,1,1,2]) P2 gZ::cZ
abbrev bh (u:O) (c:Nat) (x:Int) (y:O) (z A B:Int) (C:ByteArray) (D E F:Int) (t4:Nat) (e h j:Int) (d:Nat) (n q k t11:Int) (w:I) (R:aa):Prop:=
 Y (t11==24) (cA [c,t4,d] tR #[.agg #[.i n,.i q,.i k]] w λG H J N=>loc [c,t4,d] N λP=>R (V (.tuple #[.agg #[.i G,.i H,.i J],.bool true])) P) (Y (t11==26) (cA [c,t4,d] e0 #[.i k] w λK L M Q=>loc [c,t4,d] Q λS=>R (V (.tuple #[.agg #[.i K,.i L,.i M],.bool true])) S) (Y (t11==27) (Y (t11==27) (cB t4 e h j w R) (gZ u c x y z A B C D E F t4 e h j d n q k t11 w R)) (Y (t11==31) (cB t4 e h j w R) (gZ u c x y z A B C D E F t4 e h j d n q k t11 w R))))
noncomputable def bt:=aC X eY (ak [10,1,1,1,2]) P2 bh::eY
abbrev a2 (e:O) (c:Nat) (n:Int) (q:O) (h j u:Int) (x:ByteArray) (y z A:Int) (t4:Nat) (B C D:Int) (d:Nat) (E k F t11:Int) (w:I) (R:aa):Prop:=
 Y (t11==19) (aw e 1 λS=>∃t23:Int,w.cell? ((S.add (ag 1 *3)).add 0)=some (.i t23)/\
 Y (t23==1) (aw e 1 λT=>loc [c,t4,d] w λL=>∃t28:Int,L.cell? ((T.add (ag 1 *3)).add 1)=some (.i t28)/\
 aw e 2 λW=>∃t32:Int,L.cell? ((W.add (ag 2 *3)).add 1)=some (.i t32)/\
 cA [c,t4,d] lB #[.i (if t28<t32 then t32 else t28)] L λZ ac ad w2=>loc [c,t4,d] w2 λw5=>R (V (.tuple #[.agg #[.i Z,.i ac,.i ad],.bool true])) w5) (aw e 1 λae=>cr w (ae.add (ag 1 *3)) λaf ai aj=>loc [c,t4,d] w λw8=>R (V (.tuple #[.agg #[.i af,.i ai,.i aj],.bool true])) w8)) (Y (t11==20) (aw e 1 λak=>loc [c,t4,d] w λN=>∃t45:Int,N.cell? ((ak.add (ag 1 *3)).add 1)=some (.i t45)/\
 aw e 1 λG=>∃t53:Int,N.cell? ((G.add (ag 1 *3)).add 1)=some (.i t53)/\
 cA [c,t4,d] e0 #[.i (ab .i64 (k+t45))] N λal am an P=>P.cell? ((G.add (ag 1 *3)).add 1)=some (.i t53)/\loc [c,t4,d] P λQ=>Q.cell? ((G.add (ag 1 *3)).add 1)=some (.i t53)/\R (V (.tuple #[.agg #[.i al,.i am,.i an],.bool (ah ((ab .i64 (k+t53))<=64))])) Q) (Y (t11==21) (loc [c,t4,d] w λao=>cA [c,t4,d] e0 #[.i (ab .i64 ((ab .i64 (h - j))+1))] ao λH J K M=>Y (ah (j>=0)) (Y (ah (j<=h)) (loc [c,t4,d] M λap=>R (V (.tuple #[.agg #[.i H,.i J,.i K],.bool (ah (h<k))])) ap) (loc [c,t4,d] M λaq=>R (V (.tuple #[.agg #[.i H,.i J,.i K],.bool false])) aq)) (loc [c,t4,d] M λar=>R (V (.tuple #[.agg #[.i H,.i J,.i K],.bool false])) ar)) (Y (t11==22) (Y (t11==22) (aY c n q h j u x y z A t4 B C D d E k F w R) (bh e c n q h j u x y z A t4 B C D d E k F t11 w R)) (Y (t11==23) (aY c n q h j u x y z A t4 B C D d E k F w R) (bh e c n q h j u x y z A t4 B C D d E k F t11 w R)))))
noncomputable def bg:=aC X bt (ak [2,1,1,1,2]) P2 a2::bt
def aD (d:Int) (q:O) (x y z:Int) (A:ByteArray) (B C D:Int) (n:O) (w:I) (R:aa) (J:aJ [] w λh L=>
 aJ [h] L λc H=>
 aw n 0 λK=>cr H (K.add (ag 0 *3)) λE F G=>aJ [h,c] H λj k=>
 Y (d==16) (Y (d==16) (loc [h,c,j] k λe=>aQ c 0 0 0 e R) (loc [h,c,j] k λe=>a2 n h d q x y z A B C D c 0 0 0 j E F G d e R)) (Y (d==17) (Y (d==17) (loc [h,c,j] k λe=>aQ c 0 0 0 e R) (loc [h,c,j] k λe=>a2 n h d q x y z A B C D c 0 0 0 j E F G d e R)) (Y (d==18) (Y (d==18) (loc [h,c,j] k λe=>aQ c 0 0 0 e R) (loc [h,c,j] k λe=>a2 n h d q x y z A B C D c 0 0 0 j E F G d e R)) (Y (d==33) (loc [h,c,j] k λe=>aQ c 0 0 0 e R) (loc [h,c,j] k λe=>a2 n h d q x y z A B C D c 0 0 0 j E F G d e R))))):ai U BP #[.agg #[.i d,q.v,.i x,.i y,.u z,.string A,.i B,.i C,.i D],n.v] w R:=aE X bg J
end wt
namespace q6
noncomputable abbrev X:Fx:=⟨U,Tryz.f38,[],[3,4,10]⟩
abbrev P0:Ps:=[(0,.v [.s]),(3,.l [.I,.s,.I,.I,.U,.st,.I,.I,.I] bC),(4,.l [.I,.I,.I] b3),(7,.v [.s]),(8,.v [.I])]
def aP (c:O) (h:Nat) (j:Int) (k:O) (n q u:Int) (x:ByteArray) (y z A:Int) (t4:Nat) (B C D:Int) (e:O) (d:Int) (w:I) (R:aa):Prop:=br P0 0 (X.Sem (ak [0,1,1,1,5])) c h j k n q u x y z A t4 B C D e d w R
noncomputable def aZ:=bD X (ak [0,1,1,1,5]) P0 aP::[]
abbrev a2 (t4:Nat) (q u x:Int) (c:Nat) (e h j:Int) (d:Bool) (w:I) (R:aa):Prop:=
 Y (!d) (loc [t4,c] w λk=>R (V (.tuple #[.agg #[.i 0,.i 0,.i 0],.i 2])) k) (loc [t4,c] w λn=>R (V (.tuple #[.agg #[.i e,.i h,.i j],.i 0])) n)
noncomputable def bg:=aC X aZ (ak [11]) [(4,.l [.I,.I,.I] b3),(10,.l [.I,.I,.I] b3),(12,.v [.b])] a2::aZ
def bW:∀(A:O) (c:Nat) (h:Int) (j:O) (B C D:Int) (q:ByteArray) (E F G:Int) (t4:Nat) (x y z:Int) (k:O) (e:Int) (w:I) (R:aa) (al:Y (ah (e<((j.n:Nat):Int))) (aw j e λS=>∃t42:Int,w.cell? (S.add (ag e *1))=some (.i t42)/\
 aw A t42 λT=>cr w ((T.add (ag t42 *9)).add 6) λW Z ac=>aN w (.cells #[.i W,.i Z,.i ac] b3) λP=>
 ∃(t47:O) (H:I),a6 U (bb #[yL,yL] yL #[k.v,.slice (some (nb w)) 1 1]) P=.ok (t47.v) H/\kept [c,t4] P H/\aP A c h j B C D q E F G t4 x y z t47 (ab .i64 (e+1)) H R) (bM [c,t4] BN #[.i h,k.v] w λt51 Q=>Y (!t51) (loc [c,t4] Q λae=>R (V (.tuple #[.agg #[.i 0,.i 0,.i 0],.i 9])) ae) (OS [c,t4] BP #[.agg #[.i h,j.v,.i B,.i C,.u D,.string q,.i E,.i F,.i G],k.v] Q λL M N ad af=>aJ [c,t4] af λd J=>
 Y (!ad) (loc [c,t4,d] J λai=>R (V (.tuple #[.agg #[.i 0,.i 0,.i 0],.i 5])) ai) (Y (h !=33) (loc [c,t4,d] J λK=>a2 t4 x y z d L M N true K R) (loc [c,t4,d] J λK=>bM [c,t4,d] Bu #[.string q] K λt70 aj=>a2 t4 x y z d L M N t70 aj R))))),aP A c h j B C D q E F G t4 x y z k e w R:=mp (bF (X:=X) bg (ak [0,1,1,1,5]) P0)
def aD (h:O) (j:Int) (e:O) (k q x:Int) (y:ByteArray) (z A B:Int) (w:I) (R:aa) (D:aJ [] w λc J=>
 aJ [c] J λd L=>
 b0 [c,d] BM #[h.v,.agg #[.i j,e.v,.i k,.i q,.u x,.string y,.i z,.i A,.i B]] L λt15 C=>Y (t15 !=0) (loc [c,d] C λM=>R (V (.tuple #[.agg #[.i 0,.i 0,.i 0],.i t15])) M) (Y (((e.n:Nat):Int)==0) (cE [c,d] BO #[h.v,.agg #[.i j,e.v,.i k,.i q,.u x,.string y,.i z,.i A,.i B]] C λE F G H N=>loc [c,d] N λK=>R (V (.tuple #[.agg #[.i E,.i F,.i G],.i H])) K) (aP h c j e k q x y z A B d 0 0 0 ⟨none,0,0⟩ 0 C R))):ai U rA #[h.v,.agg #[.i j,e.v,.i k,.i q,.u x,.string y,.i z,.i A,.i B]] w R:=aE X bg D
end q6
namespace G4
noncomputable abbrev X:Fx:=⟨U,Tryz.f35,[],[2,3]⟩
def aD (d:Int) (e:O) (h j k:Int) (n:ByteArray) (q x y z:Int) (A:O) (B C D:Int) (E:ByteArray) (F G H:Int) (w:I) (R:aa) (L:aJ [] w λJ M=>
 aJ [J] M λK c=>
 Y (d==z) (Y (h==B) (Y (j==C) (Y (k==D) (Y (n.toList==E.toList) (Y ((q==F)&&((x==G)&&((y==H)&&true))) (bM [J,K] Bq #[e.v,A.v] c λt50 N=>R (V (.bool t50)) N) (R (V (.bool false)) c)) (R (V (.bool false)) c)) (R (V (.bool false)) c)) (R (V (.bool false)) c)) (R (V (.bool false)) c)) (R (V (.bool false)) c)):ai U xi #[.agg #[.i d,e.v,.i h,.i j,.u k,.string n,.i q,.i x,.i y],.agg #[.i z,A.v,.i B,.i C,.u D,.string E,.i F,.i G,.i H]] w R:=aE X [] L
end G4
namespace tf
noncomputable abbrev X:Fx:=⟨U,Tryz.f39,[(7,ls [0,1,2,3,4,5,6])],[3,5]⟩
abbrev P0:Ps:=[(0,.v [.s]),(3,.l [.I,.s,.I,.I,.U,.st,.I,.I,.I] bC),(7,.v [.I])]
def b6 (c:O) (e:Nat) (h:Int) (j:O) (k n q:Int) (u:ByteArray) (x y z d:Int) (w:I) (R:aa):Prop:=br P0 0 (X.Sem (ak [0,1,1,1,3])) c e h j k n q u x y z d w R
noncomputable def cC:=bD X (ak [0,1,1,1,3]) P0 b6::[]
def eV:∀(d:O) (e:Nat) (h:Int) (j:O) (k q x:Int) (y:ByteArray) (z A B c:Int) (w:I) (R:aa) (Q:Y (ah (c<((d.n:Nat):Int))) (aw d c λE=>loc [e] w λC=>lu C (E.add (ag c *9)) λF G H J K L M N P=>bM [e] xi #[.agg #[.i F,G.v,.i H,.i J,.u K,.string L,.i M,.i N,.i P],.agg #[.i h,j.v,.i k,.i q,.u x,.string y,.i z,.i A,.i B]] C λt30 D=>Y t30 (R (V (.i c)) D) (b6 d e h j k q x y z A B (ab .i64 (c+1)) D R)) (R (V (.i (-1))) w)),b6 d e h j k q x y z A B c w R:=mp (bF (X:=X) cC (ak [0,1,1,1,3]) P0)
abbrev aQ (c:O) (d:Nat) (e:Int) (h:O) (j k n:Int) (q:ByteArray) (u x y:Int) (w:I) (R:aa):Prop:=
 b6 c d e h j k n q u x y 0 w R
noncomputable def bf:=aC X cC (ak [3]) [(0,.v [.s]),(3,.l [.I,.s,.I,.I,.U,.st,.I,.I,.I] bC)] aQ::cC
def aD (d:O) (e:Int) (h:O) (j k n:Int) (q:ByteArray) (x y z:Int) (w:I) (R:aa) (C:aJ [] w λc H=>
 cE [c] rA #[d.v,.agg #[.i e,h.v,.i j,.i k,.u n,.string q,.i x,.i y,.i z]] H λD E F G J=>aJ [c] J λA B=>
 Y (G==0) (loc [c,A] B λL=>aQ d c e h j k n q D E F L R) (loc [c,A] B λK=>aQ d c e h j k n q x y z K R)):ai U xf #[d.v,.agg #[.i e,h.v,.i j,.i k,.u n,.string q,.i x,.i y,.i z]] w R:=aE X bf C
end tf
namespace G0
noncomputable abbrev X:Fx:=⟨U,Tryz.f19,[(10,(.sq [1,3,6,7] (.fork (.sq [0] (.fork (ls [2,4,5,8,9,10]) (ls [4,2,5,8,9,10]))) (ls [4,0,2,5,8,9,10]))))],[3,7]⟩
def aD (e:O) (h:Int) (j:O) (k q x:Int) (y:ByteArray) (M N P:Int) (w:I) (R:aa) (af:aJ [] w λc w1=>
 cE [c] rA #[e.v,.agg #[.i h,j.v,.i k,.i q,.u x,.string y,.i M,.i N,.i P]] w1 λA B C Q w2=>aJ [c] w2 λd w3=>
 Y (Q !=0) (loc [c,d] w3 λw6=>R (V (.tuple #[.slice none 0 0,.i 0,.i Q])) w6) (loc [c,d] w3 λw9=>b0 [c,d] xf #[e.v,.agg #[.i h,j.v,.i k,.i q,.u x,.string y,.i A,.i B,.i C]] w9 λt23 D=>Y (ah (t23>=0)) (R (V (.tuple #[e.v,.i t23,.i 0])) D) (Y (ah (((e.n:Nat):Int)>=4096)) (R (V (.tuple #[.slice none 0 0,.i 0,.i 4])) D) (((loc [c,d] D λz=>aN z (.cells #[] bC) λE=>
 ((∃(t33:O) (F:I),a6 U (bb #[dZ,dZ] dZ #[.slice (some (nb z)) 0 0,e.v]) E=.ok (t33.v) F/\kept [c,d] E F/\aN F (.cells #[.i h,j.v,.i k,.i q,.u x,.string y,.i A,.i B,.i C] bC) λab=>
 ∃(t36:O) (J:I),a6 U (bb #[dZ,dZ] dZ #[t33.v,.slice (some (nb F)) 1 1]) ab=.ok (t36.v) J/\kept [c,d] ab J/\R (V (.tuple #[t36.v,.i ((e.n:Nat):Int),.i 0])) J)/\(aN E (.cells #[.i h,j.v,.i k,.i q,.u x,.string y,.i A,.i B,.i C] bC) λac=>
 ∃(S:O) (G:I),a6 U (bb #[dZ,dZ] dZ #[.slice (some (nb z)) 0 0,e.v]) ac=.ok (S.v) G/\kept [c,d] ac G/\∃(W:O) (K:I),a6 U (bb #[dZ,dZ] dZ #[S.v,.slice (some (nb E)) 1 1]) G=.ok (W.v) K/\kept [c,d] G K/\R (V (.tuple #[W.v,.i ((e.n:Nat):Int),.i 0])) K)))/\(loc [c,d] D λz=>aN z (.cells #[.i h,j.v,.i k,.i q,.u x,.string y,.i A,.i B,.i C] bC) λad=>
 aN ad (.cells #[] bC) λae=>
 ∃(T:O) (H:I),a6 U (bb #[dZ,dZ] dZ #[.slice (some (nb ad)) 0 0,e.v]) ae=.ok (T.v) H/\kept [c,d] ae H/\∃(Z:O) (L:I),a6 U (bb #[dZ,dZ] dZ #[T.v,.slice (some (nb z)) 1 1]) H=.ok (Z.v) L/\kept [c,d] H L/\R (V (.tuple #[Z.v,.i ((e.n:Nat):Int),.i 0])) L)))))):ai U BG #[e.v,.agg #[.i h,j.v,.i k,.i q,.u x,.string y,.i M,.i N,.i P]] w R:=aE X [] af
end G0
namespace As
noncomputable abbrev X:Fx:=⟨U,Tryz.f17,[],[]⟩
abbrev S1 (c:O) (w:I) (R:aa):Prop:=
 R (V (c.v)) w
noncomputable def bg:=aC X [] (ak [4]) [(3,.v [.s])] S1::[]
abbrev S0 (h:Int) (c:O) (w:I) (R:aa):Prop:=
 Y (ah (h>1)) (o8 lB #[.i 2] w λj k n C=>o8 lB #[.i 1] C λq x y D=>o8 e0 #[.i 7] D λz A B d=>aN d (.cells #[.i 0,.slice none 0 0,.i 0,.i 0,.u 0,.string (az #[115]),.i j,.i k,.i n,.i 0,.slice none 0 0,.i 0,.i 0,.u 0,.string (az #[116]),.i q,.i x,.i y,.i 0,.slice none 0 0,.i 0,.i 0,.u 0,.string (az #[105]),.i z,.i A,.i B,.i 0,.slice none 0 0,.i 0,.i 0,.u 0,.string (az #[122]),.i 3,.i 1,.i 1] bC) λE=>
 ∃(t34:O) (e:I),a6 U (bb #[dZ,dZ] dZ #[c.v,.slice (some (nb d)) 4 4]) E=.ok (t34.v) e/\S1 t34 e R) (S1 c w R)
noncomputable def bf:=aC X bg (ak [3]) [(0,.v [.I]),(3,.v [.s])] S0::bg
def ok (c:Int) (w:I) (R:aa) (j:o8 e0 #[.i 2] w λx y z G=>o8 e0 #[.i 2] G λA B C H=>o8 e0 #[.i 1] H λD E F J=>o8 e0 #[.i 3] J λk n q d=>aN d (.cells #[.i 0,.slice none 0 0,.i 0,.i 0,.u 0,.string (az #[97]),.i x,.i y,.i z,.i 0,.slice none 0 0,.i 0,.i 0,.u 0,.string (az #[98]),.i A,.i B,.i C,.i 0,.slice none 0 0,.i 0,.i 0,.u 0,.string (az #[99]),.i D,.i E,.i F,.i 0,.slice none 0 0,.i 0,.i 0,.u 0,.string (az #[100]),.i k,.i n,.i q] bC) λe=>
 Y (ah (c>0)) (aN e (.cells #[.i 0,.slice none 0 0,.i 0,.i 0,.u 0,.string (az #[109]),.i 2,.i 2,.i 1,.i 0,.slice none 0 0,.i 0,.i 0,.u 0,.string (az #[110]),.i 2,.i 2,.i 1] bC) λK=>
 ∃(t21:O) (h:I),a6 U (bb #[dZ,dZ] dZ #[.slice (some (nb d)) 4 4,.slice (some (nb e)) 2 2]) K=.ok (t21.v) h/\S0 c t21 h R) (S0 c ⟨some (nb d),4,4⟩ e R)):ai U BQ #[.i c] w R:=aE X bf j
end As
namespace pj
noncomputable abbrev X:Fx:=⟨U,Tryz.f46,[(5,ls [0,1,2,3,4,5,6])],[4]⟩
abbrev P0:Ps:=[(0,.v [.s]),(2,.v [.I]),(4,.l [.I,.I,.I] b3),(7,.v [.s]),(8,.v [.I])]
def aP (c:O) (h:Int) (j:Nat) (k n q:Int) (e:O) (d:Int) (w:I) (R:aa):Prop:=br P0 0 (X.Sem (ak [0,1,1,1,2])) c h j k n q e d w R
noncomputable def aZ:=bD X (ak [0,1,1,1,2]) P0 aP::[]
abbrev a2 (c:O) (h:Int) (j:Nat) (k n q:Int) (e:O) (d:Int) (w:I) (R:aa):Prop:=
 aP c h j k n q e (ab .i64 (d+1)) w R
noncomputable def bg:=aC X aZ (ak [2,2,1,1,2]) P0 a2::aZ
def bW:∀(h:O) (j:Int) (e:Nat) (k q u:Int) (d:O) (c:Int) (w:I) (R:aa) (G:Y (ah (c<((h.n:Nat):Int))) (aw h c λB=>loc [e] w λx=>cr x ((B.add (ag c *9)).add 6) λC D E=>Y ((C==k)&&((D==q)&&((E==u)&&true))) (aN x (.cells #[.i c] bX) λz=>
 ∃(t25:O) (y:I),a6 U (bb #[eI,eI] eI #[d.v,.slice (some (nb x)) 1 1]) z=.ok (t25.v) y/\kept [e] z y/\a2 h j e k q u t25 c y R) (a2 h j e k q u d c x R)) (Y (((d.n:Nat):Int)==0) (R (V (.i (-1))) w) (b0 [e] gL #[.i j,.i ((d.n:Nat):Int)] w λt33 A=>aw d t33 λF=>∃t35:Int,A.cell? (F.add (ag t33 *1))=some (.i t35)/\
 R (V (.i t35)) A))),aP h j e k q u d c w R:=mp (bF (X:=X) bg (ak [0,1,1,1,2]) P0)
def aD (c:O) (e h j d:Int) (w:I) (R:aa) (n:aJ [] w λk q=>
 aP c d k e h j ⟨none,0,0⟩ 0 q R):ai U tS #[c.v,.agg #[.i e,.i h,.i j],.i d] w R:=aE X bg n
end pj
namespace At
noncomputable abbrev X:Fx:=⟨U,Tryz.f47,[],[10,11]⟩
abbrev aQ (c:Int) (t10:Nat) (q u x:Int) (w:I) (R:aa):Prop:=
 b0 [t10] gL #[.i c,.i 3] w λt56 j=>cA [t10] lB #[.i t56] j λd e h k=>loc [t10] k λn=>R (V (.agg #[.i d,.i e,.i h])) n
noncomputable def bf:=aC X [] (ak [0,1,11,1,1,1,2]) [(4,.v [.I]),(10,.l [.I,.I,.I] b3)] aQ::[]
abbrev a2 (t10:Nat) (k n q:Int) (d:Nat) (e h j:Int) (w:I) (R:aa):Prop:=
 loc [t10,d] w λc=>R (V (.agg #[.i e,.i h,.i j])) c
noncomputable def bg:=aC X bf (ak [3]) [(10,.l [.I,.I,.I] b3),(11,.l [.I,.I,.I] b3)] a2::bf
def aD (u:O) (j z A k:Int) (w:I) (R:aa) (D:aJ [] w λc B=>
 aw u z λE=>cr B ((E.add (ag z *9)).add 6) λx y q=>aJ [c] B λd h=>
 Y (j==19) (loc [c,d] h λe=>b0 [c,d] gL #[.i k,.i ((u.n:Nat):Int)] e λt24 C=>aw u t24 λF=>cr C ((F.add (ag t24 *9)).add 6) λG H J=>loc [c,d] C λw9=>R (V (.agg #[.i G,.i H,.i J])) w9) (Y (j==20) (loc [c,d] h λe=>b0 [c,d] gL #[.i k,.i 3] e λt31 aj=>cA [c,d] e0 #[.i (ab .i64 (1+t31))] aj λK L M ak=>loc [c,d] ak λal=>R (V (.agg #[.i K,.i L,.i M])) al) (Y (j==24) (loc [c,d] h λe=>cA [c,d] e0 #[.i q] e λN P Q am=>loc [c,d] am λan=>R (V (.agg #[.i N,.i P,.i Q])) an) (Y (j==25) (Y (A==1) (loc [c,d] h λe=>cA [c,d] e0 #[.i q] e λS T W ao=>loc [c,d] ao λap=>R (V (.agg #[.i S,.i T,.i W])) ap) (loc [c,d] h λe=>cA [c,d] tR #[.agg #[.i x,.i y,.i q]] e λZ ac ad aq=>loc [c,d] aq λar=>R (V (.agg #[.i Z,.i ac,.i ad])) ar)) (Y (j==30) (loc [c,d] h λe=>cA [c,d] e0 #[.i 7] e λae af ah au=>loc [c,d] au λav=>R (V (.agg #[.i ae,.i af,.i ah])) av) (Y (j==29) (Y (j==29) (loc [c,d] h λe=>aQ k c 0 0 0 e R) (loc [c,d] h λe=>a2 c 0 0 0 d x y q e R)) (Y (j==31) (Y (j==31) (loc [c,d] h λe=>aQ k c 0 0 0 e R) (loc [c,d] h λe=>a2 c 0 0 0 d x y q e R)) (Y (j==32) (loc [c,d] h λe=>aQ k c 0 0 0 e R) (loc [c,d] h λe=>a2 c 0 0 0 d x y q e R))))))))):ai U BR #[u.v,.i j,.i z,.i A,.i k] w R:=aE X bg D
end At
namespace il
noncomputable abbrev X:Fx:=⟨U,Tryz.f18,[(38,ls [0,1,2,3,4,5,6,7,8,9,10,11,12])],[8,10,16]⟩
abbrev P0:Ps:=[(0,.v [.s]),(2,.v [.I]),(3,.v [.I]),(8,.l [.I,.s,.I,.I,.U,.st,.I,.I,.I] bC),(10,.l [.I,.s,.I,.I,.U,.st,.I,.I,.I] bC),(11,.v [.I]),(13,.v [.I]),(14,.v [.I])]
def hc (c:O) (h e:Int) (D:Nat) (E:Int) (F:O) (G H J:Int) (K:ByteArray) (L M N:Int) (k:Nat) (n:Int) (q:O) (u x y:Int) (z:ByteArray) (A B C P j d:Int) (w:I) (R:aa):Prop:=br P0 0 (X.Sem (ak [0,1,1,1,8])) c h e D E F G H J K L M N k n q u x y z A B C P j d w R
noncomputable def lh:=bD X (ak [0,1,1,1,8]) P0 hc::[]
abbrev jz (k:O) (x q:Int) (d:Nat) (J:Int) (K:O) (L M N:Int) (P:ByteArray) (Q S T:Int) (c:Nat) (z:Int) (A:O) (B C D:Int) (E:ByteArray) (F G H ac y n h:Int) (w:I) (R:aa):Prop:=
 Y (ah (h<0)) (loc [d,c] w λZ=>R (V (.agg #[.i (-1),.slice none 0 0,.i 0,.i 0,.u 0,.s0,.i 0,.i 0,.i 0])) Z) (aN w (.cells #[.i h] bX) λj=>
 ∃(t177:O) (e:I),a6 U (bb #[eI,eI] eI #[A.v,.slice (some (nb w)) 1 1]) j=.ok (t177.v) e/\kept [d,c] j e/\loc [d,c] e λW=>hc k x q d J K L M N P Q S T c z t177 B C D E F G H ac y (ab .i64 (n+1)) W R)
noncomputable def gG:=aC X lh (ak [2,2,1,2,1,1,8]) [(0,.v [.s]),(2,.v [.I]),(3,.v [.I]),(8,.l [.I,.s,.I,.I,.U,.st,.I,.I,.I] bC),(10,.l [.I,.s,.I,.I,.U,.st,.I,.I,.I] bC),(11,.v [.I]),(13,.v [.I]),(14,.v [.I]),(15,.v [.I])] jz::lh
abbrev fj (h:O) (k j:Int) (e:Nat) (J:Int) (K:O) (L M N:Int) (P:ByteArray) (Q S T:Int) (d:Nat) (u:Int) (x:O) (y z A:Int) (B:ByteArray) (C D E Z q c:Int) (n:Nat) (F G H:Int) (w:I) (R:aa):Prop:=
 (ab .i64 (1+(ab .i64 (5 *c))))≠0/\loc [e,d,n] w λW=>b0 [e,d,n] tS #[h.v,.agg #[.i F,.i G,.i H],.i (ab .i64 ((ab .i64 (cz j (ab .i64 (1+(ab .i64 (5 *c))))))+(ab .i64 (c *k))))] W λt169 Y=>jz h k j e J K L M N P Q S T d u x y z A B C D E Z q c t169 Y R
noncomputable def hh:=aC X gG (ak [2,1,1,1,1,2,1,2,1,1,8]) [(0,.v [.s]),(2,.v [.I]),(3,.v [.I]),(8,.l [.I,.s,.I,.I,.U,.st,.I,.I,.I] bC),(10,.l [.I,.s,.I,.I,.U,.st,.I,.I,.I] bC),(11,.v [.I]),(13,.v [.I]),(14,.v [.I]),(16,.l [.I,.I,.I] b3)] fj::gG
def mP:∀(k:O) (x H:Int) (d:Nat) (J:Int) (K:O) (L M N:Int) (P:ByteArray) (Q S T:Int) (c:Nat) (j:Int) (n:O) (z A B:Int) (C:ByteArray) (D E F h y e:Int) (w:I) (R:aa) (am:Y (ah (e<y)) (Y (ah (e>0)) (Y (ah (h>=0)) (cA [d,c] BR #[k.v,.i j,.i h,.i e,.i x] w λZ ab ac w1=>aJ [d,c] w1 λq W=>
 Y (j==19) (Y (e==2) (aw n 1 λad=>loc [d,c,q] W λG=>∃t154:Int,G.cell? (ad.add (ag 1 *1))=some (.i t154)/\
 aw k t154 λae=>cr G ((ae.add (ag t154 *9)).add 6) λaf ai aj=>loc [d,c,q] G λw8=>fj k x H d J K L M N P Q S T c j n z A B C D E F h y e q af ai aj w8 R) (loc [d,c,q] W λG=>fj k x H d J K L M N P Q S T c j n z A B C D E F h y e q Z ab ac G R)) (loc [d,c,q] W λG=>fj k x H d J K L M N P Q S T c j n z A B C D E F h y e q Z ab ac G R)) (jz k x H d J K L M N P Q S T c j n z A B C D E F h y e h w R)) (jz k x H d J K L M N P Q S T c j n z A B C D E F h y e h w R)) (loc [d,c] w λal=>R (V (.agg #[.i j,n.v,.i z,.i A,.u B,.string C,.i D,.i E,.i F])) al)),hc k x H d J K L M N P Q S T c j n z A B C D E F h y e w R:=mp (bF (X:=X) hh (ak [0,1,1,1,8]) P0)
abbrev cB (c:O) (e d:Int) (C:Nat) (D:Int) (E:O) (F G H:Int) (J:ByteArray) (K L M:Int) (j:Nat) (k:Int) (n:O) (q u x:Int) (y:ByteArray) (z A B N h:Int) (w:I) (R:aa):Prop:=
 hc c e d C D E F G H J K L M j k n q u x y z A B N h 0 w R
noncomputable def cZ:=aC X hh (ak [8]) [(0,.v [.s]),(2,.v [.I]),(3,.v [.I]),(8,.l [.I,.s,.I,.I,.U,.st,.I,.I,.I] bC),(10,.l [.I,.s,.I,.I,.U,.st,.I,.I,.I] bC),(11,.v [.I]),(13,.v [.I])] cB::hh
abbrev bh (e:O) (N k j:Int) (d:Nat) (D:Int) (E:O) (F G H:Int) (J:ByteArray) (K L M:Int) (c:Nat) (h:Int) (q:O) (u x y:Int) (z:ByteArray) (A B C Z n:Int) (w:I) (R:aa):Prop:=
 Y (h==34) (cA [d,c] e0 #[.i 8] w λP Q S T=>b0 [d,c] tS #[e.v,.agg #[.i P,.i Q,.i S],.i (ab .i64 (cz N 64))] T λt123 W=>cB e k j d D E F G H J K L M c h q u x y z A B C t123 n W R) (cB e k j d D E F G H J K L M c h q u x y z A B C Z n w R)
noncomputable def bt:=aC X cZ (ak [7]) [(0,.v [.s]),(1,.v [.I]),(2,.v [.I]),(3,.v [.I]),(8,.l [.I,.s,.I,.I,.U,.st,.I,.I,.I] bC),(10,.l [.I,.s,.I,.I,.U,.st,.I,.I,.I] bC),(11,.v [.I]),(13,.v [.I])] bh::cZ
abbrev P5:Ps:=[(0,.v [.s]),(1,.v [.I]),(2,.v [.I]),(3,.v [.I]),(8,.l [.I,.s,.I,.I,.U,.st,.I,.I,.I] bC),(10,.l [.I,.s,.I,.I,.U,.st,.I,.I,.I] bC),(11,.v [.I])]
abbrev aY (h:O) (j n k:Int) (d:Nat) (D:Int) (E:O) (F G H:Int) (J:ByteArray) (K L M:Int) (c:Nat) (e:Int) (q:O) (u x y:Int) (z:ByteArray) (A B C Z:Int) (w:I) (R:aa):Prop:=
 b0 [d,c] xg #[.i e] w λt107 N=>Y (e==19) (cA [d,c] e0 #[.i 1] N λP Q S T=>b0 [d,c] tS #[h.v,.agg #[.i P,.i Q,.i S],.i (ab .i64 (cz j 64))] T λt115 W=>bh h j n k d D E F G H J K L M c e q u x y z A B C t115 t107 W R) (bh h j n k d D E F G H J K L M c e q u x y z A B C Z t107 N R)
noncomputable def bm:=aC X bt (ak [5]) P5 aY::bt
abbrev P6:Ps:=[(0,.v [.s]),(1,.v [.I]),(2,.v [.I]),(3,.v [.I]),(8,.l [.I,.s,.I,.I,.U,.st,.I,.I,.I] bC),(10,.l [.I,.s,.I,.I,.U,.st,.I,.I,.I] bC),(11,.v [.I]),(12,.v [.I])]
abbrev a2 (j:O) (n k h:Int) (d:Nat) (D:Int) (E:O) (F G H:Int) (J:ByteArray) (K L M:Int) (c:Nat) (q:Int) (u:O) (x y W:Int) (z:ByteArray) (Y Z ac T e:Int) (w:I) (R:aa):Prop:=
 cA [d,c] e0 #[.i e] w λA B C N=>¬(ab .u64 (if 3<e then 3 else e))<0/\loc [d,c] N λP=>b0 [d,c] gL #[.i h,.i (ab .i64 (1 *2^(min (ag (ab .u64 (if 3<e then 3 else e))) (IntKind.bits .i64))))] P λt49 Q=>loc [d,c] Q λS=>aY j n k h d D E F G H J K L M c q u x y (ab .u64 t49) z A B C T S R
noncomputable def bg:=aC X bm (ak [2,1,1,1,1,1,4]) P6 a2::bm
abbrev aQ (d:O) (h e c:Int) (C:Nat) (D:Int) (E:O) (F G H:Int) (J:ByteArray) (K L M:Int) (j:Nat) (k:Int) (n:O) (q u x:Int) (y:ByteArray) (z A B N P:Int) (w:I) (R:aa):Prop:=
 Y ((dP c 7)==0) (a2 d h e c C D E F G H J K L M j k n q u x y z A B N 7 w R) (a2 d h e c C D E F G H J K L M j k n q u x y z A B N P w R)
noncomputable def bf:=aC X bg (ak [1,1,1,1,1,1,4]) P6 aQ::bg
abbrev nO (h:O) (k e j:Int) (d:Nat) (C:Int) (D:O) (E F G:Int) (H:ByteArray) (J K L:Int) (c:Nat) (n:Int) (q:O) (Q u x:Int) (y:ByteArray) (z A B P:Int) (w:I) (R:aa):Prop:=
 b0 [d,c] gL #[.i e,.i 2] w λt92 M=>loc [d,c] M λN=>aY h k e j d C D E F G H J K L c n q (ab .i64 (1+t92)) u x y z A B P N R
noncomputable def lj:=aC X bf (ak [0,1,9,1,1,1,4]) P5 nO::bf
abbrev zm (h:O) (k e j:Int) (d:Nat) (B:Int) (C:O) (D E F:Int) (G:ByteArray) (H J K:Int) (c:Nat) (n:Int) (q:O) (M u x:Int) (N:ByteArray) (y z A L t32:Int) (w:I) (R:aa):Prop:=
 Y (t32==28) (b0 [d,c] gL #[.i e,.i 3] w λt98 P=>loc [d,c] P λQ=>aY h k e j d B C D E F G H J K c n q t98 u x N y z A L Q R) (Y (t32==33) (fT [d,c] Bx #[.i e] w λt103 S=>loc [d,c] S λT=>aY h k e j d B C D E F G H J K c n q M u x t103 y z A L T R) (aY h k e j d B C D E F G H J K c n q M u x N y z A L w R))
noncomputable def we:=aC X lj (ak [10,1,1,1,4]) [(0,.v [.s]),(1,.v [.I]),(2,.v [.I]),(3,.v [.I]),(8,.l [.I,.s,.I,.I,.U,.st,.I,.I,.I] bC),(10,.l [.I,.s,.I,.I,.U,.st,.I,.I,.I] bC),(11,.v [.I]),(32,.v [.I])] zm::lj
def aD (h:O) (j e q:Int) (w:I) (R:aa) (A:aJ [] w λc u=>
 aN u (.cells #[.i 4,.i 5,.i 6,.i 7,.i 8,.i 9,.i 10,.i 11,.i 12,.i 13,.i 14,.i 15,.i 16,.i 17,.i 18,.i 19,.i 20,.i 21,.i 22,.i 23,.i 24,.i 25,.i 26,.i 27,.i 28,.i 29,.i 30,.i 31,.i 32,.i 33,.i 34,.i 1,.i 2,.i 3,.i 18,.i 18,.i 16,.i 6,.i 24,.i 25] bX) λP=>
 b0 [c] gL #[.i j,.i ((40:Nat):Int)] P λt22 z=>(0:Int)<=t22/\t22<((40:Nat):Int)/\ct (some (nb u)) λB=>∃t24:Int,z.cell? (B.add (ag t22 *1))=some (.i t24)/\
 aJ [c] z λd w4=>
 loc [c,d] w4 λJ=>b0 [c,d] gL #[.i (ab .i64 (cz j 64)),.i ((h.n:Nat):Int)] J λt30 k=>Y (t24==1) (b0 [c,d] gL #[.i e,.i 3] k λt36 K=>aQ h j e q c 0 ⟨none,0,0⟩ 0 0 0 (az #[]) 0 0 0 d t24 ⟨none,0,0⟩ 0 0 0 (az #[]) 0 0 0 t30 (ab .i64 (1+t36)) K R) (Y (t24==2) (aN k (.cells #[.s0,.string (az #[97]),.string (az #[97,98]),.string (az #[98]),.string (az #[0]),.string (az #[97,97])] dy) λL=>
 b0 [c,d] gL #[.i e,.i 6] L λt56 x=>(0:Int)<=t56/\t56<((6:Nat):Int)/\ct (some (nb k)) λC=>∃t58:ByteArray,x.cell? (C.add (ag t56 *1))=some (.string t58)/\
 loc [c,d] x λM=>aY h j e q c 0 ⟨none,0,0⟩ 0 0 0 (az #[]) 0 0 0 d t24 ⟨none,0,0⟩ 0 0 0 t58 0 0 0 t30 M R) (Y (t24==3) (aN k (.cells #[.i 2,.i 2,.i 1,.i 3,.i 1,.i 1] b3) λN=>
 b0 [c,d] gL #[.i e,.i 2] N λt66 y=>(0:Int)<=t66/\t66<((2:Nat):Int)/\ct (some (nb k)) λD=>cr y (D.add (ag t66 *3)) λE F G=>loc [c,d] y λQ=>aY h j e q c 0 ⟨none,0,0⟩ 0 0 0 (az #[]) 0 0 0 d t24 ⟨none,0,0⟩ 0 0 0 (az #[]) E F G t30 Q R) (Y (t24==21) (aw h t30 λH=>∃t78:Int,k.cell? (((H.add (ag t30 *9)).add 6).add 1)=some (.i t78)/\
 b0 [c,d] gL #[.i e,.i (if 1<t78 then t78 else 1)] k λt80 S=>loc [c,d] S λT=>b0 [c,d] gL #[.i q,.i (ab .i64 (t80+1))] T λt86 W=>loc [c,d] W λZ=>aY h j e q c 0 ⟨none,0,0⟩ 0 0 0 (az #[]) 0 0 0 d t24 ⟨none,0,0⟩ t80 t86 0 (az #[]) 0 0 0 t30 Z R) (Y (t24==22) (Y (t24==22) (nO h j e q c 0 ⟨none,0,0⟩ 0 0 0 (az #[]) 0 0 0 d t24 ⟨none,0,0⟩ 0 0 0 (az #[]) 0 0 0 t30 k R) (zm h j e q c 0 ⟨none,0,0⟩ 0 0 0 (az #[]) 0 0 0 d t24 ⟨none,0,0⟩ 0 0 0 (az #[]) 0 0 0 t30 t24 k R)) (Y (t24==23) (nO h j e q c 0 ⟨none,0,0⟩ 0 0 0 (az #[]) 0 0 0 d t24 ⟨none,0,0⟩ 0 0 0 (az #[]) 0 0 0 t30 k R) (zm h j e q c 0 ⟨none,0,0⟩ 0 0 0 (az #[]) 0 0 0 d t24 ⟨none,0,0⟩ 0 0 0 (az #[]) 0 0 0 t30 t24 k R))))))):ai U xk #[h.v,.i j,.i e,.i q] w R:=aE X we A
end il
namespace q8
noncomputable abbrev X:Fx:=⟨U,Tryz.f21,[],[]⟩
abbrev P0:Ps:=[(0,.v [.s]),(1,.v [.I]),(5,.v [.I]),(6,.v [.I])]
def L0 (c:O) (d h e:Int) (w:I) (R:aa):Prop:=br P0 0 (X.Sem (ak [0,1,1,1,2])) c d h e w R
noncomputable def aZ:=bD X (ak [0,1,1,1,2]) P0 L0::[]
abbrev S1 (c:O) (d h e:Int) (w:I) (R:aa):Prop:=
 L0 c d h (ab .i64 (e+1)) w R
noncomputable def bg:=aC X aZ (ak [2,2,1,1,2]) P0 S1::aZ
def b5:∀(d:O) (c h e:Int) (w:I) (R:aa) (x:aw d c λj=>∃t12:O,w.cell? ((j.add (ag c *9)).add 1)=some (t12.v)/\
 Y (ah (e<((t12.n:Nat):Int))) (aw d c λk=>∃t23:O,w.cell? ((k.add (ag c *9)).add 1)=some (t23.v)/\
 aw t23 e λq=>∃t26:Int,w.cell? (q.add (ag e *1))=some (.i t26)/\
 di xl #[d.v,.i t26] w λt27 u=>S1 d c (ab .i64 (h+t27)) e u R) (R (V (.i h)) w)),L0 d c h e w R:=mp (bF (X:=X) bg (ak [0,1,1,1,2]) P0)
def ok (c:O) (d:Int) (w:I) (R:aa) (e:L0 c d 1 0 w R):ai U xl #[c.v,.i d] w R:=aE X bg e
end q8
namespace G7
noncomputable abbrev X:Fx:=⟨U,Tryz.f20,[],[3]⟩
def aD (c e j k:Int) (w:I) (R:aa) (h:aJ [] w λn d=>
 Y (e==0) (R (V (.bool true)) d) (Y (ah (c>0)) (Y (e==2) (R (V (.bool true)) d) (R (V (.bool (ah (c>1)))) d)) (R (V (.bool (ah (c>1)))) d))):ai U BS #[.i c,.agg #[.i e,.i j,.i k]] w R:=aE X [] h
end G7
namespace l4
noncomputable abbrev X:Fx:=⟨U,Tryz.f4,[(5,(.sq [0,1,2,3,4,5,6,7,8,9,10,11,12,13,14] (.fork (ls [15,16,17]) (ls [16,15,17]))))],[9]⟩
abbrev P0:Ps:=[(0,.v [.s]),(1,.v [.I]),(2,.v [.I]),(7,.v [.s]),(8,.v [.I])]
def aP (h:O) (e j:Int) (c:O) (d:Int) (w:I) (R:aa):Prop:=br P0 0 (X.Sem (ak [0,1,1,1,2])) h e j c d w R
noncomputable def aZ:=bD X (ak [0,1,1,1,2]) P0 aP::[]
abbrev aY (h:O) (e j:Int) (c:O) (d:Int) (w:I) (R:aa):Prop:=
 aP h e j c (ab .i64 (d+3)) w R
noncomputable def bm:=aC X aZ (ak [2,2,1,1,2]) P0 aY::aZ
abbrev a2 (h:O) (c j:Int) (d:O) (e:Int) (x:Nat) (A:Int) (B:O) (C D E:Int) (F:ByteArray) (G H J:Int) (w:I) (R:aa):Prop:=
 OT [x] BG #[d.v,.agg #[.i A,B.v,.i C,.i D,.u E,.string F,.i G,.i H,.i J]] w λn k K y=>Y (K==0) (aw n k λL=>cr y ((L.add (ag k *9)).add 6) λM N P=>bM [x] BS #[.i c,.agg #[.i M,.i N,.i P]] y λt60 q=>Y t60 (aw n k λQ=>∃t68:Int,q.cell? (((Q.add (ag k *9)).add 6).add 1)=some (.i t68)/\
 Y (ah (t68<=16)) (b0 [x] xl #[n.v,.i k] q λt74 z=>Y (ah (t74<=400)) (aY h c j n e z R) (aY h c j d e z R)) (aY h c j d e q R)) (aY h c j d e q R)) (aY h c j d e y R)
noncomputable def bg:=aC X bm (ak [1,2,1,2,1,1,2]) [(0,.v [.s]),(1,.v [.I]),(2,.v [.I]),(7,.v [.s]),(8,.v [.I]),(9,.l [.I,.s,.I,.I,.U,.st,.I,.I,.I] bC)] a2::bm
abbrev bh (c:O) (w:I) (R:aa):Prop:=
 R (V (c.v)) w
noncomputable def bt:=aC X bg (ak [3]) [(7,.v [.s])] bh::bg
def bW:∀(e:O) (u j:Int) (d:O) (c:Int) (w:I) (R:aa) (af:Y (ah ((ab .i64 (c+2))<((e.n:Nat):Int))) (Y (ah (c<(ab .i64 (3 *j)))) (bY w λh=>aw e c λy=>∃t32:Int,h.cell? (y.add (ag c *1))=some (.i t32)/\
 aw e (ab .i64 (c+1)) λz=>∃t37:Int,h.cell? (z.add (ag (ab .i64 (c+1)) *1))=some (.i t37)/\
 aw e (ab .i64 (c+2)) λA=>∃t42:Int,h.cell? (A.add (ag (ab .i64 (c+2)) *1))=some (.i t42)/\
 ((OE xk #[d.v,.i t32,.i t37,.i t42] h λB C D E F G H J K w3=>aJ [] w3 λx w4=>
 loc [x] w4 λac=>a2 e u j d c x B C D E F G H J K ac R)/\(aJ [] h λq k=>
 k.cell? (A.add (ag (ab .i64 (c+2)) *1))=some (.i t42)/\k.cell? (z.add (ag (ab .i64 (c+1)) *1))=some (.i t37)/\k.cell? (y.add (ag c *1))=some (.i t32)/\OU [q] xk #[d.v,.i t32,.i t37,.i t42] k λL M N P Q S T W Z ad=>loc [q] ad λae=>a2 e u j d c q L M N P Q S T W Z ae R))) (bh d w R)) (bh d w R)),aP e u j d c w R:=mp (bF (X:=X) bt (ak [0,1,1,1,2]) P0)
def aD (d:O) (c e:Int) (w:I) (R:aa) (h:kA BQ #[.i c] w λt14 j=>aP d c e t14 0 j R):ai U xh #[d.v,.i c,.i e] w R:=aE X bt h
end l4
def e7 (n:Int) (w:I):ai U e0 #[.i n] w λr e=>r=V (dx (bI n))/\ao w e:=
 G1.aD _ w _ ((bZ [] (by simp)).aL λb h c=>c.au λj d=>⟨rfl,d.fr⟩)
def mW (n:Int) (w:I):ai U lB #[.i n] w λr e=>r=V (dx (eH n))/\ao w e:=
 G5.aD _ w _ ((bZ [] (by simp)).aL λb h c=>c.au λj d=>⟨rfl,d.fr⟩)
def Df (s:bq) (w:I):ai U tR #[dx s] w λr q=>r=V (dx (hj s))/\ao w q:=by
 refine G2.aD _ _ _ w _ ((bZ [] (by simp)).aL λb z k=>k.aL λy j h=>aO (λe=>h.aA (e7 s.n j) ?_) (λe=>h.aA (mW s.n j) ?_))
 .rintro _ u rfl c;exact ⟨_,_,_,rfl,c.au λx d=>⟨by unfold hj;rw [aq e],d.fr⟩⟩
 .rintro _ u rfl c;exact ⟨_,_,_,rfl,c.au λx d=>⟨by unfold hj;rw [af e],d.fr⟩⟩
def rK {op:Int} (c:0<=op) (d:op<=34):op=0\/op=1\/op=2\/op=3\/op=4\/op=5\/op=6\/op=7\/op=8\/op=9\/op=10\/op=11\/op=12\/op=13\/op=14\/op=15\/op=16\/op=17\/op=18\/op=19\/op=20\/op=21\/op=22\/op=23\/op=24\/op=25\/op=26\/op=27\/op=28\/op=29\/op=30\/op=31\/op=32\/op=33\/op=34:=by omega
def Fh (op:Int) (w:I):ai U xg #[.i op] w λr e=>r=V (.i (cM op))/\ao w e:=by
 refine G3.ok op w _ ?_;by_cases c:op<0
 .exact bd (aW c) ⟨by unfold cM;rw [aq (.inl c)],Fr.refl _ _⟩
 refine a9 (a0 c) ?_;by_cases d:op>34
 .exact bd (aW d) ⟨by unfold cM;rw [aq (.inr d)],Fr.refl _ _⟩
 refine a9 (a0 d) ?_;rcases rK (by omega) (by omega:op<=34) with rfl|rfl|rfl|rfl|rfl|rfl|rfl|rfl|rfl|rfl|rfl|rfl|rfl|rfl|rfl|rfl|rfl|rfl|rfl|rfl|rfl|rfl|rfl|rfl|rfl|rfl|rfl|rfl|rfl|rfl|rfl|rfl|rfl|rfl|rfl<;>exact ⟨rfl,Fr.refl _ _⟩
def Hu {s:ByteArray} {i:Nat} (c:i<s.size):s[i]? =some (gQ (bl s) i):=by
 have e:i<(bl s).length:=c;have d:gQ (bl s) i=(bl s)[i]:=by unfold gQ;rw [List.getD_eq_getElem?_getD,bc e];rfl
 rw [d,getElem?_pos s i c];rfl
def pE (c:UInt8) (m:List UInt8):jO (c::m)=(ah (m.length<=15)&&fF c&&m.all ei):=rfl
def NO (s:ByteArray) (w:I):ai U BI #[.string s] w λr h=>r=V (.bool (jO (bl s)))/\ao w h:=by
 have u:(bl s).length=s.size:=ep s;have no:jO (bl s)=false->(Ending.returned (.bool false)=V (.bool (jO (bl s)))/\ao w w):=λe=>⟨by rw [e],Fr.refl _ _⟩;cases y:bl s with
 |nil=>
  have A:s.size=0:=by rw [<-u,y];rfl
  exact ln.ok s w _ (bd (aW (by omega)) ⟨rfl,Fr.refl _ _⟩)
 |cons c m=>
  have N:s.size=m.length+1:=by rw [<-u,y];rfl
  rw [y] at no;have H:gQ (bl s) 0=c:=by rw [y];rfl
  have A:s[ag 0]? =some c:=by rw [<-H];exact Hu (by omega)
  refine ln.ok s w _ (a9 (a0 (by omega)) (aR (λe=>no ?_) (λe=>⟨by omega,c,A,aR (λK=>no ?_) (λK=>⟨by omega,c,A,aR (λD=>no ?_) (λD=>?_)⟩)⟩)))
  .rw [pE,a0 (by omega)];rfl
  .rw [pE];unfold fF;rw [a0 (show ¬97<=c.toNat by omega)];simp
  .rw [pE];unfold fF;rw [a0 (show ¬c.toNat<=122 by omega)];simp
  have F:jO (c::m)=m.all ei:=by rw [pE];unfold fF;rw [aW (show m.length<=15 by omega),aW (show 97<=c.toNat by omega),aW (show c.toNat<=122 by omega)];simp
  have G:jO (c::m)=(bl s).all ei:=by rw [F,y,List.all_cons];unfold ei fF;rw [aW (show 97<=c.toNat by omega),aW (show c.toNat<=122 by omega)];simp
  rw [G];have loop:∀(d i:Nat),i+d=s.size->(bl s).all ei=((bl s).drop i).all ei->ln.L1 s (i:Int) w λr h=>r=V (.bool ((bl s).all ei))/\ao w h:=by
   intro d;induction d with
   |zero=>
    intro i L j;rw [List.drop_of_length_le (by omega)] at j;exact ln.fC _ _ _ _ (a9 (a0 (by omega)) ⟨by rw [j];rfl,Fr.refl _ _⟩)
   |succ d M=>
    intro i L j;have k:=Hu (show i<s.size by omega);rw [List.drop_eq_getElem_cons (by omega:i<(bl s).length),List.all_cons,show (bl s)[i]'(by omega)=gQ (bl s) i by unfold gQ;rw [List.getD_eq_getElem?_getD,bc (by omega:i<(bl s).length)];rfl] at j;generalize gQ (bl s) i=x at k j;have go:ei x=true->ln.S4 s (i:Int) w λr h=>r=V (.bool ((bl s).all ei))/\ao w h:=λe=>by show ln.L1 s (ab .i64 ((i:Int)+1)) w _;rw [bw _ (by omega)];exact M (i+1) (by omega) (by rw [j,e,Bool.true_and])
    have stop:ei x=false->(Ending.returned (.bool false)=V (.bool ((bl s).all ei))/\ao w w):=λe=>⟨by rw [j,e,Bool.false_and],Fr.refl _ _⟩;have E:fF x=false->∀o:Bool,o=((ah (48<=x.toNat)&&ah (x.toNat<=57))||x==45)->ln.S3 s (i:Int) false o w λr h=>r=V (.bool ((bl s).all ei))/\ao w h:=λn o z=>by
     refine bd rfl (dM (λe=>stop ?_) (λe=>go ?_))
     .unfold ei;rw [n,Bool.false_or,<-z,e]
     .unfold ei;rw [n,Bool.false_or,<-z,e]
    have C:((((x.toNat:Nat):Int)==45):Bool)=(x==45):=by
     by_cases e:x=45
     .subst e;rfl
     .rw [beq_eq_false_iff_ne.2 e,beq_eq_false_iff_ne];intro D;exact e (UInt8.toNat_inj.1 (by have:((45:UInt8).toNat:Int)=45:=rfl;omega))
    have q:((i:Int)).toNat=i:=dJ i;have B:∀l:Bool,l=fF x->ln.S2 s (i:Int) l w λr h=>r=V (.bool ((bl s).all ei))/\ao w h:=λl u=>by
     have fin:∀o:Bool,o=((ah (48<=x.toNat)&&ah (x.toNat<=57))||x==45)->ln.S3 s (i:Int) l o w λr h=>r=V (.bool ((bl s).all ei))/\ao w h:=λo z=>by
      cases n:fF x with
      |true=>rw [u,n];exact a9 rfl (go (by unfold ei;rw [n];rfl))
      |false=>rw [u,n];exact E n o z
     refine ⟨by omega,x,by rw [q];exact k,aR (λe=>⟨by omega,x,by rw [q];exact k,aR (λJ=>fin true ?_) (λJ=>⟨by omega,x,by rw [q];exact k,?_⟩)⟩) (λe=>⟨by omega,x,by rw [q];exact k,?_⟩)⟩
     .rw [aW (show 48<=x.toNat by omega),aW (show x.toNat<=57 by omega)];rfl
     .rw [C];exact fin _ (by rw [a0 (show ¬x.toNat<=57 by omega)];simp)
     .rw [C];exact fin _ (by rw [a0 (show ¬48<=x.toNat by omega)];simp)
    refine ln.fC _ _ _ _ (bd (aW (by omega)) ⟨by omega,x,by rw [q];exact k,aR (λe=>⟨by omega,x,by rw [q];exact k,B _ ?_⟩) (λe=>B _ ?_)⟩)
    .unfold fF;rw [aW (show 97<=x.toNat by omega),Bool.true_and];exact decide_eq_decide.2 (by omega)
    .unfold fF;rw [a0 (show ¬97<=x.toNat by omega),Bool.false_and]
  exact loop s.size 0 (by omega) (by simp)
def Dg (n lo hi:Int) (w:I):ai U lA #[.int .i64 n,.int .i64 lo,.int .i64 hi] w λr e=>r=V (.bool (ah (lo<=n/\n<=hi)))/\ao w e:=by
 refine GZ.ok _ _ _ w _ (aR (λc=>⟨?_,Fr.refl _ _⟩) (λc=>⟨?_,Fr.refl _ _⟩))
 .have:(lo<=n/\n<=hi)↔n<=hi:=⟨λc=>c.2,λd=>⟨c,d⟩⟩;simp only [this]
 .rw [a0 (by omega)]
def SP (s:bq) (w:I):ai U BF #[dx s] w λr e=>r=V (.int .i64 (gD s))/\ao w e:=by
 refine ph.aD _ _ _ w _ ((bZ [] (by simp)).aL λy q u=>?_);have fin:∀{c:I} {L:List En} (b:Bool),b=bT s->LH F0 w c L []->ph.aQ b c λr e=>r=V (.int .i64 (gD s))/\ao w e:=by
  rintro c L b rfl D;refine dM (λd=>⟨?_,D.fr⟩) (λd=>⟨?_,D.fr⟩)
  .unfold gD;rw [af (by simp [d])]
  .unfold gD;rw [aq d]
 have plain:∀lo:Int,(bT s=(ah (lo<=s.n/\s.n<=64)&&(s.x==0)))->cU [y] U lA #[.int .i64 s.n,.int .i64 lo,.int .i64 64] q λk c=>∃t10:Bool,k=V (.bool t10)/\Y t10 (ph.aQ (s.x==0) c λr e=>r=V (.int .i64 (gD s))/\ao w e) (ph.aQ false c λr e=>r=V (.int .i64 (gD s))/\ao w e):=by
  intro lo j;refine u.aA (Dg _ _ _ q) ?_;rintro _ c rfl h;refine ⟨_,rfl,bE (λd=>fin _ ?_ h) (λd=>fin _ ?_ h)⟩
  .rw [j,d];rfl
  .rw [j,d];rfl
 have array:∀lo:Int,(bT s=(ah (lo<=s.n/\s.n<=64)&&ah (1<=s.x/\s.x<=16)))->cU [y] U lA #[.int .i64 s.n,.int .i64 lo,.int .i64 64] q λk c=>∃t10:Bool,k=V (.bool t10)/\Y t10 (cU [y] U lA #[.int .i64 s.x,.int .i64 1,.int .i64 16] c λk F=>∃t34:Bool,k=V (.bool t34)/\ph.aQ t34 F λr e=>r=V (.int .i64 (gD s))/\ao w e) (ph.aQ false c λr e=>r=V (.int .i64 (gD s))/\ao w e):=by
  intro lo j;refine u.aA (Dg _ _ _ q) ?_;rintro _ c rfl h;refine ⟨_,rfl,bE (λd=>h.aA (Dg _ _ _ c) ?_) (λd=>fin _ ?_ h)⟩
  .rintro _ G rfl E;exact ⟨_,rfl,fin _ (by rw [j,d];rfl) E⟩
  .rw [j,d];rfl
 refine aO (λz=>plain 1 ?_) (λz=>aO (λA=>plain 0 ?_) (λA=>aO (λB=>array 1 ?_) (λB=>aO (λC=>array 0 ?_) (λC=>fin _ ?_ u))))
 .unfold bT;simp [z]
 .unfold bT;simp [A]
 .unfold bT;simp [B,Bool.and_assoc]
 .unfold bT;simp [C,Bool.and_assoc]
 .unfold bT;simp [z,A,B,C]
section
variable {M:Nat->Prop} {w0 w:I} {L D:List En} {bs:List Nat}
def vX (w:I) (e:Nat) (vs:List ae) (ty:aG) (b:Nat):¬(En.c e vs ty).P ({w with heap:=Array.replicate (b+1) (.map #[] 0)}):=by intro d;have d:({w with heap:=Array.replicate (b+1) (.map #[] 0)}:I).heap[e]? =some (.cells vs.toArray ty (0,0)):=d;simp [Array.getElem?_replicate] at d
def o5 {d:Nat} {vs:List ae} {ty:aG} {b:Nat}:b∈(En.c d vs ty).fp↔b=d:=by simp [En.c,En.ob]
def _root_.Go.W.LH.yQ {e:Nat} {vs:List ae} {ty:aG} (H:LH M w0 w (.c e vs ty::L) D) {w':I} (f:Fr (·=e) w w') {q:List ae} (z:w'.heap[e]? =some (.cells q.toArray ty (0,0))):
  LH M w0 w' (.c e q ty::L) D/\∀j:En,j.P w'->(∀b∈j.fp,w.heap.size<=b)->LH M w0 w' (.c e q ty::L) (D++[j]):=by
 have h:LH M w0 w' (.c e q ty::L) D:=H.OK 0 f z;refine ⟨h,λj A B=>⟨h.fr,h.own,λu d=>?_,h.new,h.nd,λu d b y x n k=>?_⟩⟩
 .rcases a5.1 d with d|d
  .exact h.rd u d
  .simp at d;subst d;exact A
 .rcases a5.1 d with d|d
  .exact h.dj u d b y x n k
  .simp at d;subst d;have C:=B b y;have E:b<w.heap.size:=by
    rcases aB.1 n with rfl|n
    .have k:=o5.1 k;have:=(En.c e vs ty).lt w (H.get 0) e (o5.2 rfl);omega
    .exact x.lt w (H.own x (ec _ n)) b k
   omega
def _root_.Go.W.LH.o9 {e:Nat} {vs:List ae} {ty:aG} (H:LH M w0 w (.c e vs ty::L) D) {P:Program} {g:FuncId} {args:Array ae} {A:aa} {j:List ae} {K:aa} (q:ai P g args w λr d=>(A r d/\d.heap[e]? =some (.cells j.toArray ty (0,0)))/\Fr (·=e) w d)
  (u:∀r d,A r d->LH M w0 d (.c e j ty::L) D->(∀h:En,h.P d->(∀b∈h.fp,w.heap.size<=b)->LH M w0 d (.c e j ty::L) (D++[h]))->K r d):ai P g args w K:=
 q.mono λr d ⟨⟨n,k⟩,f⟩=>u r d n (H.yQ f k).1 (H.yQ f k).2
def _root_.Go.W.LH.hH {e:Nat} {vs:List ae} {ty:aG} (H:LH M w0 w (.c e vs ty::L) D) {P:Program} {g:FuncId} {args:Array ae} {A:aa} {j:List ae} {K:aa} (x:ai P g args w λr d=>(A r d/\d.heap[e]? =some (.cells j.toArray ty (0,0)))/\Fr (·=e) w d)
  (y:∀r d,A r d->LH M w0 d (.c e j ty::L) D->(∀h:En,h.P d->(∀b∈h.fp,w.heap.size<=b)->LH M w0 d (.c e j ty::L) (D++[h]))->K r d) (u:∀b∈bs,En.g b∈(En.c e vs ty::L):=by simp):cU bs P g args w K:=
 ⟨(·=e),λb q z=>n5 H (i:=0) rfl (vX w e vs ty) (u b q) (by rw [z];exact o5.2 rfl),x.mono λr d ⟨⟨n,k⟩,f⟩=>⟨f,y r d n (H.yQ f k).1 (H.yQ f k).2⟩⟩
end
def gg {s:ByteArray} {i:Nat} (c:i<s.size):s[i]? =some (gQ (bl s) i):=by rw [getElem?_pos s i c];unfold gQ;rw [List.getD_eq_getElem?_getD,bc (show i<(bl s).length by rw [ep];exact c)];rfl
def vk {x:UInt8} {n:Nat} {A B:Prop} (j:n<256) (e:(x==cS n)=true->A) (h:(x==cS n)=false->B):Y (((x.toNat:Nat):Int)==(n:Int)) A B:=by
 have c:x.toNat=n↔x=cS n:=by rw [<-UInt8.toNat_inj,UInt8.toNat_ofNat'];omega
 refine aO (λd=>e (by rw [beq_iff_eq,<-c];omega)) (λd=>h (by rw [beq_eq_false_iff_ne,Ne,<-c];omega))
def vj {x:UInt8} {n:Nat} {A B:Prop} (j:n<256) (e:(x==cS n)=false->A) (h:(x==cS n)=true->B):Y (((x.toNat:Nat):Int) !=(n:Int)) A B:=by
 have c:x.toNat=n↔x=cS n:=by rw [<-UInt8.toNat_inj,UInt8.toNat_ofNat'];omega
 refine dG (λd=>e (by rw [beq_eq_false_iff_ne,Ne,<-c];omega)) (λd=>h (by rw [beq_iff_eq,<-c];omega))
def EV {p:UInt8->Prop} (d:∀e:Fin 256,p (cS e.val)) (c:UInt8):p c:=by have:=d ⟨c.toNat,c.toNat_lt⟩;simpa using this
def Pb:∀c:Fin 16,(az #[48,49,50,51,52,53,54,55,56,57,97,98,99,100,101,102])[c.val]? =some (eL c.val):=by decide+kernel
def zR (n:Nat) (c:n<16) (w:I):ai U tP #[.i (n:Int)] w λr d=>r=V (.int .u8 ((eL n).toNat:Int))/\ao w d:=
 GN.ok _ w _ ⟨by omega,_,Pb ⟨n,c⟩,rfl,Fr.refl _ _⟩
def FH (c:UInt8) (w:I):ai U xc #[.int .u8 (c.toNat:Int)] w λr u=>r=V (.bool (kN c))/\ao w u:=by
 refine GU.ok _ w _ (aR (λk=>aR (λq=>vj (n:=39) (by omega) (λd=>⟨?_,Fr.refl _ _⟩) (λd=>⟨?_,Fr.refl _ _⟩)) (λq=>⟨?_,Fr.refl _ _⟩)) (λk=>⟨?_,Fr.refl _ _⟩))
 .have e:(((c.toNat:Nat):Int) !=92)= !(c==92):=by
   have:=@vj c 92 (((((c.toNat:Nat):Int) !=92)=true)/\(c==92)=false) (((((c.toNat:Nat):Int) !=92)=false)/\(c==92)=true);cases j:(((c.toNat:Nat):Int) !=92) with
   |true=>
    have h:c≠92:=λe=>by subst e;exact absurd j (by decide)
    rw [beq_eq_false_iff_ne.2 h];rfl
   |false=>
    have h:c=92:=by rw [<-UInt8.toNat_inj];have:=(bne_eq_false_iff_eq.1 j);show c.toNat=92;omega
    subst h;rfl
  rw [e];unfold kN;rw [aW (show 32<=c.toNat by omega),aW (show c.toNat<=126 by omega)];have d:(c==39)=false:=d;rw [d];rfl
 .have d:(c==39)=true:=d;unfold kN;rw [d];simp
 .unfold kN;rw [a0 (show ¬c.toNat<=126 by omega)];simp
 .unfold kN;rw [a0 (show ¬32<=c.toNat by omega)];simp
def R5:∀c:Fin 16,eO (eL c.val)=(c.val:Int):=by decide+kernel
def R7:∀c:Fin 256,eO (cS c.val)=-1\/∃d:Fin 16,eL d.val=cS c.val:=by decide+kernel
def R6:∀c:Fin 256,eO (cS c.val)<16:=by decide+kernel
def vW (c:UInt8) (w:I):ai U rv #[.int .u8 (c.toNat:Int)] w λr u=>r=V (.int .i64 (eO c))/\ao w u:=by
 have loop:∀(d i:Nat) (j:I),i+d=16->(∀h,h<i->eL h≠c)->ao w j->s7.L0 c.toNat (i:Int) j λr u=>r=V (.int .i64 (eO c))/\ao w u:=by
  intro d;induction d with
  |zero=>
   intro i j y n f;refine s7.b5 _ _ _ _ (a9 (a0 (by omega)) ⟨?_,f⟩);have:=EV (p:=λc=>eO c=-1\/∃q:Fin 16,eL q.val=c) R7 c;rcases this with e|⟨q,e⟩
   .rw [e]
   .exact absurd e (n q.val (by omega))
  |succ d A=>
   intro i j y n f;refine s7.b5 _ _ _ _ (bd (aW (by omega)) ((zR i (by omega) j).mono ?_));rintro _ B ⟨rfl,x⟩;refine ⟨_,rfl,aO (λe=>⟨?_,f.cR x⟩) (λe=>?_)⟩
   .have k:eL i=c:=by rw [<-UInt8.toNat_inj];omega
    have:=R5 ⟨i,by omega⟩;rw [<-k];rw [this]
   .rw [bw _ (by omega)];refine A (i+1) B (by omega) (λh C=>?_) (f.cR x);by_cases z:h=i
    .subst z;intro k;subst k;exact e rfl
    .exact n h (by omega)
 exact s7.ok _ w _ (loop 16 0 w (by omega) (λh e=>by omega) (Fr.refl _ _))
def yc (x:UInt8×Nat):Ending:=V (.tuple #[.int .u8 (x.1.toNat:Int),.i (x.2:Int)])
def R8:∀c d:Fin 16,ab .u8 (ab .i64 ((ab .i64 (16 *(c.val:Int)))+(d.val:Int)))=((cS ((16 *(c.val:Int)+(d.val:Int)).toNat)).toNat:Int):=by decide+kernel
def IN {c:UInt8} (e:0<=eO c):∃d:Fin 16,eO c=(d.val:Int):=by have:=EV (p:=λc=>eO c<16) R6 c;exact ⟨⟨(eO c).toNat,by omega⟩,by show eO c=(((eO c).toNat:Nat):Int);omega⟩
def zQ (s:ByteArray) (i:Nat) (hi:i<=1000000) (w:I):ai U tO #[.string s,.i (i:Int)] w λr d=>r=yc (e6 (bl s) i)/\ao w d:=by
 have z:ab .i64 ((i:Int)+1)=((i+1:Nat):Int):=by rw [a4 _ (by omega)];omega
 have A:ab .i64 ((i:Int)+2)=((i+2:Nat):Int):=by rw [a4 _ (by omega)];omega
 have B:ab .i64 ((i:Int)+3)=((i+3:Nat):Int):=by rw [a4 _ (by omega)];omega
 have E:ab .i64 ((i:Int)+4)=((i+4:Nat):Int):=by rw [a4 _ (by omega)];omega
 have T:(bl s).length=s.size:=ep s;have no:∀d,ao w d->e6 (bl s) i=(0,0)->s6.S1 d (λr d=>r=yc (e6 (bl s) i)/\ao w d):=λd f u=>⟨by rw [u];rfl,f⟩;have st:∀d,ao w d->(ah (i+3<=(bl s).length)&&gQ (bl s) i==39&&gQ (bl s) (i+2)==39&&kN (gQ (bl s) (i+1)))=false->s6.S0 s (i:Int) d (λr d=>r=yc (e6 (bl s) i)/\ao w d):=by
  intro d f D;have k:(ah (i+4<=(bl s).length)&&gQ (bl s) i==92&&gQ (bl s) (i+1)==120&&ah (0<=eO (gQ (bl s) (i+2)))&&ah (0<=eO (gQ (bl s) (i+3))))=false->∀d,ao w d->s6.S1 d (λr d=>r=yc (e6 (bl s) i)/\ao w d):=λu d f=>no d f (by unfold e6;rw [D,u];rfl)
  show Y _ _ _;rw [E,B,A,z];refine aR (λL=>⟨by omega,_,gg (i:=i) (by omega),vk (n:=92) (by omega) (λe=>⟨by omega,_,gg (i:=i+1) (by omega),vk (n:=120) (by omega) (λh=>⟨by omega,_,gg (i:=i+2) (by omega),(vW _ d).mono ?_⟩) (λh=>?_)⟩) (λe=>?_)⟩) (λL=>?_)
  rotate_left
  .exact k (by have h:(gQ (bl s) (i+1)==120)=false:=h;rw [h];simp) d f
  .exact k (by have e:(gQ (bl s) i==92)=false:=e;rw [e];simp) d f
  .exact k (by rw [a0 (show ¬i+4<=(bl s).length by omega)];simp) d f
  rintro _ q ⟨rfl,j⟩;refine ⟨_,rfl,aR (λM=>⟨by omega,_,gg (i:=i+3) (by omega),(vW _ q).mono ?_⟩) (λM=>k (by rw [a0 (show ¬0<=eO (gQ (bl s) (i+2)) by omega)];simp) q (f.cR j))⟩;rintro _ y ⟨rfl,C⟩;refine ⟨_,rfl,aR (λO=>?_) (λO=>k (by rw [a0 (show ¬0<=eO (gQ (bl s) (i+3)) by omega)];simp) y ((f.cR j).cR C))⟩;have G:ao w y.drew:=((f.cR j).cR C).cR (Fr.drew _ _);refine (show bY y _ from ?_);refine ⟨by omega,_,gg (i:=i+2) (by omega),by omega,_,gg (i:=i+3) (by omega),(vW _ _).mono ?_⟩;rintro _ W ⟨rfl,H⟩;refine ⟨_,rfl,(vW _ _).mono ?_⟩;rintro _ Z ⟨rfl,J⟩;refine ⟨_,rfl,?_,(G.cR H).cR J⟩;have e:(gQ (bl s) i==92)=true:=e;have h:(gQ (bl s) (i+1)==120)=true:=h;have F:e6 (bl s) i=(cS ((16 *eO (gQ (bl s) (i+2))+eO (gQ (bl s) (i+3))).toNat),4):=by unfold e6;rw [D,e,h,aW (show i+4<=(bl s).length by omega),aW (show 0<=eO (gQ (bl s) (i+2)) by omega),aW (show 0<=eO (gQ (bl s) (i+3)) by omega)];rfl
  rw [F];obtain ⟨Q,N⟩:=IN (c:=gQ (bl s) (i+2)) (by omega);obtain ⟨S,P⟩:=IN (c:=gQ (bl s) (i+3)) (by omega);rw [N,P,R8 Q S];rfl
 refine s6.ok _ _ w _ ?_;rw [B,A,z];refine aR (λK=>⟨by omega,_,gg (i:=i) (by omega),vk (n:=39) (by omega) (λe=>⟨by omega,_,gg (i:=i+2) (by omega),vk (n:=39) (by omega) (λh=>⟨by omega,_,gg (i:=i+1) (by omega),(FH _ w).mono ?_⟩) (λh=>?_)⟩) (λe=>?_)⟩) (λK=>?_)
 rotate_left
 .exact st w (Fr.refl _ _) (by have h:(gQ (bl s) (i+2)==39)=false:=h;rw [h];simp)
 .exact st w (Fr.refl _ _) (by have e:(gQ (bl s) i==39)=false:=e;rw [e];simp)
 .exact st w (Fr.refl _ _) (by rw [a0 (show ¬i+3<=(bl s).length by omega)];simp)
 rintro _ q ⟨rfl,j⟩;refine ⟨_,rfl,bE (λx=>⟨by omega,_,gg (i:=i+1) (by omega),?_,j⟩) (λx=>st q j (by rw [x];simp))⟩;have e:(gQ (bl s) i==39)=true:=e;have h:(gQ (bl s) (i+2)==39)=true:=h;unfold e6;rw [e,h,x,aW (show i+3<=(bl s).length by omega)];rfl
def zB (s:BL) (i:Nat):(e6 s i).2<=4/\(0<(e6 s i).2->i+(e6 s i).2<=s.length):=by
 unfold e6;split
 .rename_i c;simp only [bn,decide_eq_true_eq] at c;exact ⟨by simp,λ_=>c.1.1.1⟩
 .split
  .rename_i c;simp only [bn,decide_eq_true_eq] at c;exact ⟨by simp,λ_=>c.1.1.1.1⟩
  .exact ⟨by simp,λc=>by simp at c⟩
def Dv (g:zk):Ending:=V (.tuple #[.agg #[.i (g.k:Int),.int .u8 (g.lo.toNat:Int),.int .u8 (g.hi.toNat:Int),.slice none 0 0],.i (g.n:Int)])
def Jq (s:BL) (i:Nat):i+(e2 s i).n<=s.length\/(e2 s i).n=0:=by
 unfold e2;simp only;have c:=zB s i;split
 .rename_i d;exact .inl (c.2 d)
 .split
  .exact .inr rfl
  .split
   .exact .inr rfl
   .split
    .exact .inr rfl
    .rename_i e;simp only [not_or] at e;left;show i+(_+1 - i)<=s.length;omega
def Om (s:ByteArray) (W:s.size<=100000) (i:Nat) (hi:i<s.size) (w:I):ai U BD #[.string s,.i (i:Int)] w λr w'=>r=Dv (e2 (bl s) i)/\ao w w':=by
 have T:(bl s).length=s.size:=ep s;refine q5.aD _ _ w _ ((bZ [] (by simp)).aL λb Q F=>F.aA (zQ s i (by omega) Q) ?_);rintro _ S rfl A;refine ⟨_,_,rfl,aR (λO=>A.au λk e=>⟨?_,e.fr⟩) (λO=>⟨by omega,_,gg (i:=i) hi,vj (n:=91) (by omega) (λj=>A.au λk e=>⟨?_,e.fr⟩) (λj=>?_)⟩)⟩
 .unfold e2;simp only;rw [aq (by omega)];rfl
 .have j:(gQ (bl s) i==91)=false:=j;unfold e2;simp only;rw [af (by omega),aq (beq_eq_false_iff_ne.1 j)];rfl
 have j:gQ (bl s) i=91:=eq_of_beq j;rw [bw _ (by omega)];refine A.aA (zQ s (i+1) (by omega) S) ?_;rintro _ k rfl e;have H:=zB (bl s) (i+1);have bad:∀(w':I),LH F0 w w' [.g b] []->e2 (bl s) i=mj->q5.a2 b 0 0 0 ⟨none,0,0⟩ w' λr w'=>r=Dv (e2 (bl s) i)/\ao w w':=λw' y E=>y.au λP z=>⟨by rw [E];rfl,z.fr⟩;have x:∀(w':I),LH F0 w w' [.g b] []->e2 (bl s) i=mj->q5.bh b 0 0 0 ⟨none,0,0⟩ w' λr w'=>r=Dv (e2 (bl s) i)/\ao w w':=λw' y E=>y.au λP z=>⟨by rw [E];rfl,z.fr⟩;have d:e2 (bl s) i=(let a:=e6 (bl s) (i+1)
   let dash:=i+1+a.2
   if a.2=0\/(bl s).length<=dash\/gQ (bl s) dash≠45 then mj else
   let c:=e6 (bl s) (dash+1)
   let fin:=dash+1+c.2
   if c.2=0\/(bl s).length<=fin\/gQ (bl s) fin≠93\/c.1.toNat<a.1.toNat then mj else ⟨2,a.1,c.1,fin+1 - i⟩):=by
  conv=>lhs;unfold e2
  simp only;rw [af (by omega),af (by rw [j];simp)]
 simp only at d;generalize e6 (bl s) (i+1)=a at H d;refine ⟨_,_,rfl,?_⟩;have L:ab .i64 (((i+1:Nat):Int)+(a.2:Int))=((i+1+a.2:Nat):Int):=by rw [a4 _ (by omega)];omega
 show q5.aQ s (i:Int) b 0 0 0 ⟨none,0,0⟩ (a.1.toNat:Int) (a.2:Int) (ab .i64 (((i+1:Nat):Int)+(a.2:Int))) k _;rw [L];refine aO (λB=>bad k e (by rw [d,aq (.inl (by omega))])) (λB=>aR (λC=>bad k e (by rw [d,aq (.inr (.inl (by omega)))])) (λC=>⟨by omega,_,gg (i:=i+1+a.2) (by omega),vj (n:=45) (by omega) (λh=>bad k e (by rw [d,aq (.inr (.inr (beq_eq_false_iff_ne.1 h)))])) (λh=>?_)⟩));have h:gQ (bl s) (i+1+a.2)=45:=eq_of_beq h;rw [af (by rw [h];simp;omega)] at d;rw [bw _ (by omega)];refine e.aA (zQ s (i+1+a.2+1) (by omega) k) ?_;rintro _ u rfl q;have J:=zB (bl s) (i+1+a.2+1);generalize e6 (bl s) (i+1+a.2+1)=c at J d;refine ⟨_,_,rfl,?_⟩;have N:ab .i64 (((i+1+a.2+1:Nat):Int)+(c.2:Int))=((i+1+a.2+1+c.2:Nat):Int):=by rw [a4 _ (by omega)];omega
 show q5.aY s (i:Int) b 0 0 0 ⟨none,0,0⟩ (a.1.toNat:Int) (c.1.toNat:Int) (c.2:Int) (ab .i64 (((i+1+a.2+1:Nat):Int)+(c.2:Int))) u _;rw [N];refine aO (λB=>x u q (by rw [d,aq (.inl (by omega))])) (λB=>aR (λC=>x u q (by rw [d,aq (.inr (.inl (by omega)))])) (λC=>⟨by omega,_,gg (i:=i+1+a.2+1+c.2) (by omega),vj (n:=93) (by omega) (λh=>x u q (by rw [d,aq (.inr (.inr (.inl (beq_eq_false_iff_ne.1 h))))])) (λD=>aR (λK=>x u q (by rw [d,aq (.inr (.inr (.inr (by omega))))])) (λK=>q.au λY G=>⟨?_,G.fr⟩))⟩));have D:gQ (bl s) (i+1+a.2+1+c.2)=93:=eq_of_beq D;rw [d,af (by rw [D];simp;omega)];have M:ab .i64 ((ab .i64 (((i+1+a.2+1+c.2:Nat):Int)+1)) - (i:Int))=((i+1+a.2+1+c.2+1 - i:Nat):Int):=by rw [bw _ (by omega),a4 _ (by omega)];omega
 rw [M];rfl
def bx.c (t:bx):List ae:=[.string (ba t.tx),.i (t.at_:Int),.i (t.k:Int),.int .u8 (t.lo.toNat:Int),.int .u8 (t.hi.toNat:Int),.slice none 0 0]
def LN (t:bx):t.c.length=6:=rfl
def LQ (l:List bx) (t:bx):l.flatMap bx.c++t.c=(l++[t]).flatMap bx.c:=by simp
def vb {w:I} {s:O} {l:List bx} (d:bL 6 w s (l.flatMap bx.c)):s.n=l.length:=by have:=d.1;rw [rf bx.c 6 LN] at this;omega
def Gs:gy U mC lK (.agg #[.s0,.i 0,.i 0,.int .u8 0,.int .u8 0,.slice none 0 0]) 6 64:=⟨by kernel_rfl,by kernel_rfl,rfl,by decide,by decide⟩
def EO (w:I) (l:List bx) (r:Ending) (w':I):Prop:=∃d:O,r=V d.v/\aS w' lK 6 d (l.flatMap bx.c)/\∀e∈ay d,w.heap.size<=e
def Nq (s:ByteArray) (i j:Nat):s.extract i j=ba (((bl s).take j).drop i):=by
 have:bl (s.extract i j)=((bl s).take j).drop i:=by unfold bl;rw [ByteArray.data_extract,Array.toList_extract,List.extract_eq_take_drop];rw [List.drop_take]
 rw [<-this,o3]
def If (c:UInt8) {A B:Prop} (e:cI c=true->A) (d:cI c=false->B):Y (ah (((c.toNat:Nat):Int)>=97)) (Y (ah (((c.toNat:Nat):Int)<=122)) A B) B:=
 aR (λh=>aR (λj=>e (by unfold cI;rw [aW (show 97<=c.toNat by omega),aW (show c.toNat<=122 by omega)];rfl)) (λj=>d (by unfold cI;rw [a0 (show ¬c.toNat<=122 by omega)];simp))) (λh=>d (by unfold cI;rw [a0 (show ¬97<=c.toNat by omega)];simp))
def Km (s:BL) (i:Nat):∀(f n:Nat),i+n<=s.length->n<=iu s i f n/\i+iu s i f n<=s.length
 |0,n,c=>⟨bB _,c⟩
 |f+1,n,c=>by
  unfold iu;split
  .rename_i d;simp only [bn,decide_eq_true_eq] at d;have:=Km s i f (n+1) (by omega);exact ⟨by omega,this.2⟩
  .exact ⟨bB _,c⟩
def NT (s:ByteArray) (hs:s.size<=100000) (w:I):ai U By #[.string s] w λr H=>EO w (km (bl s)) r H/\ao w H:=by
 have hl:(bl s).length=s.size:=ep s
 let u:aa:=λr H=>EO w (km (bl s)) r H/\ao w H
 have fin:∀(acc:List bx) (d:O) (q:I),acc.length<=s.size->km (bl s)=acc++[⟨[],(bl s).length,0,0,0⟩]->LH F0 w q [.row lK 6 d (acc.flatMap bx.c)] []->
   aN q (.cells #[.s0,.i ((s.size:Nat):Int),.i 0,.int .u8 0,.int .u8 0,.slice none 0 0] lK) λw7=>
 ∃(t81:O) (Z:I),a6 U (bb #[mC,mC] mC #[d.v,.slice (some (nb q)) 1 1]) w7=.ok (t81.v) Z/\u (V (t81.v)) Z:=by intro acc d q ha j B;have aj:=vb (B.get 0:aS _ _ _ _ _).bz;refine B.zq 0 Gs rfl (λQ w2 D _ _=>⟨⟨Q,rfl,?_,λak hx=>(D.new _ (aI (i:=0) rfl) ak hx).resolve_right id⟩,D.fr⟩) (by omega);rw [j,<-LQ];exact D.get 0
 have loop:∀(f i:Nat) (acc:List bx) (d:O) (q:I),s.size<f+i->i<=s.size->acc.length<=i->km (bl s)=acc++kj (bl s) f i->LH F0 w q [.row lK 6 d (acc.flatMap bx.c)] []->i9.aP s d (i:Int) q u:=by
  intro f;induction f with
  |zero=>intro i acc d q hf ac;omega
  |succ f S=>
   intro i acc d q hf ac al j B;refine i9.bW _ _ _ _ _ (aR (λad=>⟨by omega,_,gg (i:=i) (by omega),?_⟩) (λad=>fin acc d q (by omega) (by rw [j];unfold kj;rw [aq (by omega)]) B))
   unfold kj at j;rw [af (by omega)] at j;refine vk (n:=32) (by omega) (λz=>?_) (λz=>?_)
   .have z:gQ (bl s) i=32:=eq_of_beq z;rw [aq z] at j;rw [bw _ (by omega)];exact S (i+1) acc d q (by omega) (by omega) (by omega) j B
   have z:gQ (bl s) i≠32:=beq_eq_false_iff_ne.1 z;rw [af z] at j;simp only at j;refine B.call (Om s hs i (by omega) q) ?_;rintro _ w2 rfl D;have C:=Jq (bl s) i;generalize e2 (bl s) i=g at j C;refine ⟨_,_,_,⟨none,0,0⟩,_,rfl,D.aL λb w3 J=>?_⟩;have J:LH F0 w w3 [.row lK 6 d (acc.flatMap bx.c),.g b] []:=J;have one:∀(n:Nat) (A:I),1<=n->i+n<=s.size->km (bl s)=acc++⟨((bl s).take (i+n)).drop i,i,g.k,g.lo,g.hi⟩::kj (bl s) f (i+n)->LH F0 w A [.row lK 6 d (acc.flatMap bx.c),.g b] []->
     i9.aY s d (i:Int) b (g.k:Int) (g.lo.toNat:Int) (g.hi.toNat:Int) ⟨none,0,0⟩ (n:Int) A u:=by
    intro n A L K N E;show (0:Int)<=_/\_;have F:ab .i64 ((i:Int)+(n:Int))=((i+n:Nat):Int):=by rw [a4 _ (by omega)];omega
    rw [F,dJ,dJ,Nq];refine ⟨by omega,by omega,by omega,by omega,E.au λh x=>?_⟩;have aj:=vb (x.get 0:aS _ _ _ _ _).bz;refine x.i5 0 Gs rfl (λQ w6 H6=>?_) (by omega);refine S (i+n) (acc++[⟨((bl s).take (i+n)).drop i,i,g.k,g.lo,g.hi⟩]) Q w6 (by omega) (by omega) (by simp;omega) (by rw [N];simp) ?_;rw [<-LQ];exact H6.take 1
   refine aO (λM=>J.au λA E=>?_) (λM=>J.au λA E=>one g.n A (by omega) (by omega) (by rw [j,af (by omega)]) E);have M:g.n=0:=by omega
   rw [aq M] at j;have word:∀(e n:Nat) (h:I),s.size<=e+(i+n)->1<=n->i+n<=s.size->iu (bl s) i (bl s).length 1=iu (bl s) i e n->LH F0 w h [.row lK 6 d (acc.flatMap bx.c),.g b] []->
     i9.b6 s d (i:Int) b (g.k:Int) (g.lo.toNat:Int) (g.hi.toNat:Int) ⟨none,0,0⟩ (n:Int) h u:=by
    intro e;induction e with
    |zero=>
     intro n h N L K C x;have stop:i9.aY s d (i:Int) b (g.k:Int) (g.lo.toNat:Int) (g.hi.toNat:Int) ⟨none,0,0⟩ (n:Int) h u:=one n h L K (by rw [j,C];rfl) x;have F:ab .i64 ((i:Int)+(n:Int))=((i+n:Nat):Int):=by rw [a4 _ (by omega)];omega
     refine i9.eV _ _ _ _ _ _ _ _ _ _ _ ?_;rw [F];refine ⟨by omega,_,gg (i:=i) (by omega),bE (λ_=>⟨by omega,_,gg (i:=i) (by omega),bE (λ_=>a9 (a0 (by omega)) stop) (λ_=>stop)⟩) (λ_=>stop)⟩
    |succ e ae=>
     intro n h N L K C x;have F:ab .i64 ((i:Int)+(n:Int))=((i+n:Nat):Int):=by rw [a4 _ (by omega)];omega
     have stop:(cI (gQ (bl s) i)&&ah (i+n<(bl s).length)&&cI (gQ (bl s) (i+n)))=false->i9.aY s d (i:Int) b (g.k:Int) (g.lo.toNat:Int) (g.hi.toNat:Int) ⟨none,0,0⟩ (n:Int) h u:=λy=>one n h L K (by
      rw [j,C];conv=>lhs;unfold iu
      rw [y];rfl) x
     refine i9.eV _ _ _ _ _ _ _ _ _ _ _ ?_;rw [F];refine ⟨by omega,_,gg (i:=i) (by omega),?_⟩;have go:cI (gQ (bl s) i)=true->Y (ah (((i+n:Nat):Int)<((s.size:Nat):Int))) ((0:Int)<=((i+n:Nat):Int)/\∃T:UInt8,s[ag ((i+n:Nat):Int)]? =some T/\Y (ah (((T.toNat:Nat):Int)>=97)) ((0:Int)<=((i+n:Nat):Int)/\∃W:UInt8,s[ag ((i+n:Nat):Int)]? =some W/\Y (ah (((W.toNat:Nat):Int)<=122)) (i9.b6 s d (i:Int) b (g.k:Int) (g.lo.toNat:Int) (g.hi.toNat:Int) ⟨none,0,0⟩ (ab .i64 ((n:Int)+1)) h u) (i9.aY s d (i:Int) b (g.k:Int) (g.lo.toNat:Int) (g.hi.toNat:Int) ⟨none,0,0⟩ (n:Int) h u)) (i9.aY s d (i:Int) b (g.k:Int) (g.lo.toNat:Int) (g.hi.toNat:Int) ⟨none,0,0⟩ (n:Int) h u)) (i9.aY s d (i:Int) b (g.k:Int) (g.lo.toNat:Int) (g.hi.toNat:Int) ⟨none,0,0⟩ (n:Int) h u):=by
      intro h1;refine aR (λh2=>⟨by omega,_,gg (i:=i+n) (by omega),?_⟩) (λh2=>stop (by rw [a0 (show ¬i+n<(bl s).length by omega)];simp));have key:cI (gQ (bl s) (i+n))=true->i9.b6 s d (i:Int) b (g.k:Int) (g.lo.toNat:Int) (g.hi.toNat:Int) ⟨none,0,0⟩ (ab .i64 ((n:Int)+1)) h u:=λG=>by
       rw [bw _ (by omega)];refine ae (n+1) h (by omega) (by omega) (by omega) ?_ x;rw [C];conv=>lhs;unfold iu
       rw [h1,G,aW (show i+n<(bl s).length by omega)];rfl
      have P:cI (gQ (bl s) (i+n))=false->_:=λG=>stop (by rw [G];simp);have y:=If (gQ (bl s) (i+n)) key P;exact Ku y (λy=>⟨by omega,_,gg (i:=i+n) (by omega),y⟩) id
     have P:cI (gQ (bl s) i)=false->_:=λG=>stop (by rw [G];simp);exact Ku (If (gQ (bl s) i) go P) (λy=>⟨by omega,_,gg (i:=i) (by omega),y⟩) id
   exact word (bl s).length 1 A (by omega) (by omega) (by omega) rfl E
 refine i9.aD _ w _ ?_;exact loop (s.size+1) 0 [] ⟨none,0,0⟩ w (by omega) (by omega) (by simp) (by unfold km;rw [hl];rfl) ((bZ [] (by simp)).jP lK 6)
abbrev Js (s:O) (st:bN):List ae:=[s.v,.i (st.1:Int),.bool st.2]
abbrev cK (d:Nat) (s:O) (st:bN):En:=.c d (Js s st) Eg
abbrev cP (s:O) (l:List bx):En:=.bz 6 s (l.flatMap bx.c)
abbrev SA (d:Nat) (s:O) (w:I) (A:aa) (st:bN):aa:=λr c=>(A r c/\c.heap[d]? =some (.cells (Js s st).toArray Eg (0,0)))/\Fr (·=d) w c
abbrev h6 (c:Nat) (s:O) (l:List bx) (st:bN) (w:I):Prop:=LH (·=c) w w [cK c s st] [cP s l]
def _root_.Go.W.LH.fK {M:Nat->Prop} {w0 w:I} {L D:List En} {e:Nat} {s:O} {l:List bx} {st:bN} (H:LH M w0 w (cK e s st::L) (cP s l::D)):h6 e s l st w:=
 LH.u1 _ _ (by
  intro j c;simp only [aB,a1,a7] at c;subst c;exact ⟨H.get 0,λb d=>o5.1 d⟩) (by
  simp only [List.flatMap_cons,List.flatMap_nil,List.append_nil];exact (cK e s st).nd) (by
  intro j c;simp only [aB,a1,a7] at c;subst c;exact ⟨H.getD 0,λb d k h=>by simp only [aB,a1,a7] at h;subst h;exact H.dj _ ov b d _ ov⟩)
structure ES (w:I) (p:Addr) (i:Nat) (t:bx):Prop where
 c0:w.cell? ((p.add (i *6)).add 0)=some (.string (ba t.tx))
 c1:w.cell? ((p.add (i *6)).add 1)=some (.i (t.at_:Int))
 c2:w.cell? ((p.add (i *6)).add 2)=some (.i (t.k:Int))
 c3:w.cell? ((p.add (i *6)).add 3)=some (.int .u8 (t.lo.toNat:Int))
 c4:w.cell? ((p.add (i *6)).add 4)=some (.int .u8 (t.hi.toNat:Int))
 c5:w.cell? ((p.add (i *6)).add 5)=some (.slice none 0 0)
def vc {w:I} {s:O} {l:List bx} (e:bL 6 w s (l.flatMap bx.c)) {i:Nat} (hi:i<l.length) {K:Addr->Prop} (j:∀p,s.a=some p->ES w p i (dI l i)->K p):ct s.a K:=by
 have h:l[i]? =some (dI l i):=by unfold dI;rw [List.getD_eq_getElem?_getD,bc hi];rfl
 exact fB.elem (f:=bx.c) (sz:=6) LN (by omega) e.2.2 h λp k d=>j p k ⟨d 0 _ rfl,d 1 _ rfl,d 2 _ rfl,d 3 _ rfl,d 4 _ rfl,d 5 _ rfl⟩
def iE (l:List bx):Prop:=0<l.length/\(dI l (l.length - 1)).tx=[]/\(dI l (l.length - 1)).k=0
section
variable {pb:Nat} {s:O} {l:List bx} {st:bN} {w:I}
def zS (H:h6 pb s l st w) (hi:st.1<l.length):ai U tQ #[.pointer (some (aj pb))] w λr n=>r=V (.string (ba (eG l st)))/\ao w n:=by
 have j:st.2=true->eG l st=[32]:=λd=>by unfold eG;rw [d];rfl
 have h:st.2=false->eG l st=(dI l st.1).tx:=λd=>by unfold eG;rw [d];rfl
 generalize eG l st=u at j h;refine GX.ok _ w _ ⟨st.2,H.ld 0 2,bE (λe=>⟨?_,Fr.refl _ _⟩) (λe=>?_)⟩
 .rw [j e];rfl
 rw [h e];have c:LH (·=pb) w w.drew [cK pb s st] [cP s l]:=H.drew;have q:=vb (c.getD 0:bL _ _ _ _);refine ⟨s,c.ld 0 0,_,c.ld 0 1,by omega,by omega,vc (c.getD 0) hi λp x k=>⟨ba (dI l st.1).tx,?_,rfl,Fr.drew _ _⟩⟩;rw [dJ];exact k.c0
def qN (a b:BL):((ba a).toList==(ba b).toList)=(a==b):=by rw [ByteArray.toList_eq,ByteArray.toList_eq];rfl
def H4 (h:iE l) (hi:st.1<l.length) (j:eG l st≠[]) (e:st.2=false):st.1+1<l.length:=by
 rcases Nat.lt_or_ge (st.1+1) l.length with c|c
 .exact c
 .exfalso;apply j;have d:st.1=l.length - 1:=by omega
  unfold eG;rw [e,d];exact h.2.1
def qd (j:iE l) (hi:st.1<l.length) (u:BL) (k:u≠[32]):(dH l u st).2.1<l.length:=by
 unfold dH;cases c:eG l st==u with
 |false=>exact hi
 |true=>
  have c:=eq_of_beq c;cases h:u.isEmpty with
  |true=>exact hi
  |false=>
   show st.1+1<l.length;refine H4 j hi (λd=>?_) ?_
   .rw [d] at c;subst c;cases h
   .cases e:st.2 with
    |false=>rfl
    |true=>
     exfalso;apply k;rw [<-c];unfold eG;rw [e];rfl
def o7 (H:h6 pb s l st w) (hi:st.1<l.length) (k:l.length<=1000000) (u:BL):ai U nc #[.pointer (some (aj pb)),.string (ba u)] w (SA pb s w (λr _=>r=V (.bool (dH l u st).1)) (dH l u st).2):=by
 refine GY.ok _ _ w _ (H.call (zS H hi) ?_);rintro _ n rfl d;refine ⟨_,rfl,?_⟩;dsimp only;rw [qN];have j:((ba u).toList==(az #[]).toList)=u.isEmpty:=by have:az #[]=ba []:=rfl;rw [this,qN];cases u<;>rfl
 rw [j];refine dM (λc=>⟨⟨?_,?_⟩,d.fr⟩) (λc=>dM (λe=>⟨_,d.ld 0 1,?_⟩) (λe=>⟨⟨?_,?_⟩,d.fr⟩))
 .unfold dH;rw [c];rfl
 .have:(dH l u st).2=st:=by unfold dH;rw [c];rfl
  rw [this];exact d.get 0
 .rw [bw _ (by omega)];refine d.st 0 1 rfl λq h=>⟨⟨?_,?_⟩,h.fr⟩
  .unfold dH;rw [c];rfl
  .have:(dH l u st).2=(st.1+1,st.2):=by unfold dH;rw [c,e];rfl
   rw [this];exact h.get 0
 .unfold dH;rw [c];rfl
 .have:(dH l u st).2=st:=by unfold dH;rw [c,e];rfl
  rw [this];exact d.get 0
def Iw (u:BL):hx l u st=bif (dH l u st).1 then (dH l u st).2 else ((dH l u st).2.1,true):=by unfold hx;generalize dH l u st=x;obtain ⟨b,c⟩:=x;cases b<;>rfl
def uk (c:iE l) (hi:st.1<l.length) (u:BL) (d:u≠[32]):(hx l u st).1<l.length:=by rw [Iw];have:=qd c hi u d;cases (dH l u st).1<;>exact this
def sN (H:h6 pb s l st w) (hi:st.1<l.length) (h:l.length<=1000000) (u:BL):ai U pB #[.pointer (some (aj pb)),.string (ba u)] w (SA pb s w (λr _=>r=V (.tuple #[])) (hx l u st)):=by
 refine GW.ok _ _ w _ (H.o9 (o7 H hi h u) ?_);rintro _ j rfl c _;rw [Iw];refine ⟨_,rfl,dM (λd=>c.st 0 2 rfl λk e=>⟨⟨rfl,?_⟩,e.fr⟩) (λd=>⟨⟨rfl,?_⟩,c.fr⟩)⟩
 .rw [d];exact e.get 0
 .rw [d];exact c.get 0
def NV (H:h6 pb s l st w) (hi:st.1<l.length):ai U BE #[.pointer (some (aj pb))] w λr x=>r=V (.bool (mT l st))/\ao w x:=by refine GV.ok _ w _ ((zS H hi).mono ?_);rintro _ y ⟨rfl,e⟩;have h:=H.bA e;refine ⟨_,rfl,st.2,h.ld 0 2,?_⟩;have c:∀d:List UInt8,((ba (eG l st)).toList==(ba d).toList)=(eG l st==d):=λd=>qN _ _;have j:=c [];have k:=c [41];have n:=c [44];have q:=c [124];have u:=c [38];unfold mT;show Y _ (Y (!((ba (eG l st)).toList==(ba []).toList)) (Y (!((ba (eG l st)).toList==(ba [41]).toList)) (Y (!((ba (eG l st)).toList==(ba [44]).toList)) (Y (!((ba (eG l st)).toList==(ba [124]).toList)) (Ending.returned (.bool (!((ba (eG l st)).toList==(ba [38]).toList)))=_/\ao w y) _) _) _) _) _;rw [j,k,n,q,u];cases st.2<;>cases eG l st==[]<;>cases eG l st==[41]<;>cases eG l st==[44]<;>cases eG l st==[124]<;>first |exact ⟨rfl,e⟩|skip
end
def zL (k:Int) (s:O) (l:List J) (w:I) (q:(bO s l).P w):ai U od #[.i k,s.v] w λr u=>fR (bO s l).fp w (lq k (J.ax l)) r u/\ao w u:=by
 have c:=J.cj (dd.1 q).1;refine GQ.aD _ _ w _ ((gq q).aL λb y h=>aO (λx=>?_) (λx=>h.au λn d=>⟨⟨.mk k 0 0 s l,rfl,?_,?_,λb j=>.inr j⟩,d.fr⟩))
 .match l,c with
  |[],c=>simp at c;omega
  |a::b::m,c=>simp at c;omega
  |[a],c=>
   refine ⟨by omega,by omega,J.cY (dd.1 (show (bO s [a]).P y from h.getD 0)).1 (i:=0) rfl λp z e=>⟨_,_,_,_,e.c0,e.c1,e.c2,e.c3,h.au λn d=>⟨⟨a,rfl,rfl,?_,λb j=>.inr ?_⟩,d.fr⟩⟩⟩
   .exact (dd.1 (show (bO s [a]).P n from d.getD 0)).2.mem (by simp)
   .exact kK.2 (.inr (J.bR.2 ⟨a,by simp,j⟩))
 .show Rx.mk k 0 0 (J.ax l)=_
  match l,c with
  |[],c=>rfl
  |[a],c=>simp at c;omega
  |a::b::m,c=>rfl
 .have:=dd.1 (show (bO s l).P n from d.getD 0);unfold J.P;exact this
structure k5 (s:O) (l:List bx) (n:Nat):Prop where
 expr:∀(pb:Nat) (st:bN) (w:I) (x:Rx) (gw:bN),gI l n st=some (x,gw)->st.1<l.length->h6 pb s l st w->ai U py #[.pointer (some (aj pb))] w (SA pb s w (λr w'=>fD w x r w'/\gw.1<l.length) gw)
 Gf:∀(pb:Nat) (st:bN) (w:I) (x:Rx) (gw:bN),ie l n st=some (x,gw)->st.1<l.length->h6 pb s l st w->ai U ry #[.pointer (some (aj pb))] w (SA pb s w (λr w'=>fD w x r w'/\gw.1<l.length) gw)
 seq:∀(pb:Nat) (st:bN) (w:I) (x:Rx) (gw:bN),iv l n st=some (x,gw)->st.1<l.length->h6 pb s l st w->ai U rz #[.pointer (some (aj pb))] w (SA pb s w (λr w'=>fD w x r w'/\gw.1<l.length) gw)
 item:∀(pb:Nat) (st:bN) (w:I) (x:Rx) (gw:bN),fb l n st=some (x,gw)->st.1<l.length->h6 pb s l st w->ai U pA #[.pointer (some (aj pb))] w (SA pb s w (λr w'=>fD w x r w'/\gw.1<l.length) gw)
 atom:∀(pb:Nat) (st:bN) (w:I) (x:Rx) (gw:bN),k8 l n st=some (x,gw)->st.1<l.length->h6 pb s l st w->ai U xd #[.pointer (some (aj pb))] w (SA pb s w (λr w'=>fD w x r w'/\gw.1<l.length) gw)
 kids:∀(pb:Nat) (st:bN) (w:I) (m:List Rx) (gw:bN),j8 l n st=some (m,gw)->st.1<l.length->h6 pb s l st w->ai U xe #[.pointer (some (aj pb))] w (SA pb s w (λr w'=>(∃(sl:O) (a:List J),r=V sl.v/\J.ax a=m/\(bO sl a).P w'/\∀b∈(bO sl a).fp,w.heap.size<=b)/\gw.1<l.length) gw)
def yb {M:Nat->Prop} {w0 w:I} {L D:List En} {c:Nat} {s:O} {st:bN} (H:LH M w0 w (cK c s st::L) D) (i:Nat) {e:En} (hi:L[i]? =some e) {b:Nat} (h:b∈e.fp):b≠c:=λd=>
 m1 H.nd (i:=i+1) (by simpa using hi) (j:=0) rfl (by omega) b h (o5.2 d)
def _root_.Go.W.LH.sW {M:Nat->Prop} {w0 w:I} {L D:List En} (H:LH M w0 w L D) (j:Nat) {t:J} (e:D[j]? =some (.tree t):=by rfl):LH M w0 w L (D++[.trees [t]]):=by
 refine H.fo _ (Fr.refl _ _) (J.hS λk c=>?_) λb h=>.inr (.inr ?_)
 .simp at c;subst c;exact H.getD j e
 .obtain ⟨k,c,d⟩:=J.bR.1 (aT.1 h);simp at c;rw [c] at d;exact ⟨_,aI e,aT.2 d⟩
section
variable {s:O} {l:List bx} {n:Nat}
def Hc (Z:iE l) (Y:l.length<=1000000) (ih:∀m,m<=n->k5 s l m) (d:Nat) (w:I) (x:Rx) (y:bN):∀(f:Nat),f<=n->∀(acc:List J) (k:O) (h:Nat) (K:I) (st:bN),lU l f (J.ax acc) st=some (x,y)->st.1<l.length->acc.length+f<=1000000->(∀b∈J.a' acc,w.heap.size<=b)->
  LH (·=d) w K [cK d s st,.g h,.row aF 4 k (acc.flatMap J.c)] [cP s l,.trees acc]->
  s9.aP (aj d) h 0 0 0 ⟨none,0,0⟩ k K (SA d s w (λr F=>fD w x r F/\y.1<l.length) y)
 |0,_=>λacc k h K st z=>by unfold lU at z;cases z
 |f+1,hf=>λacc k h K st z W ao T L=>by
  have ap:=J.cj (L.get 2:aS _ _ _ _ _).bz;unfold lU at z;have fin:∀(q:I) (j:bN),j.1<l.length->some (lq 4 (J.ax acc),j)=some (x,y)->LH (·=d) w q [cK d s j,.g h,.row aF 4 k (acc.flatMap J.c)] [cP s l,.trees acc]->
    ez [h] od #[.i 4,k.v] q λah ai ak al w8=>loc [h] w8 λam=>SA d s w (λr F=>fD w x r F/\y.1<l.length) y (V (.agg #[.i ah,.int .u8 ai,.int .u8 ak,al.v])) am:=by
   intro q j P A u;simp only [eT,ee] at A;obtain ⟨rfl,rfl⟩:=A;have ab:∀b∈(bO k acc).fp,w.heap.size<=b:=λb e=>by
    rcases kK.1 e with e|e
    .exact (u.new _ (aI (i:=2) rfl) b (gb e)).resolve_right (yb u 1 rfl (gb e))
    .exact T b e
   have M:LH (·=d) w q [cK d s j,.g h] [cP s l,.trees acc,J.row k acc,.tree (bO k acc)]:=u.pS 2 1 0 0 0;refine M.pa (zL 4 k acc q (M.getD 3)) (λb e=>⟨_,aI (i:=3) rfl,aT.2 e⟩) λt w3 E C ft=>?_;refine ⟨_,_,_,t.s,rfl,C.au λw4 D=>⟨⟨⟨⟨t,rfl,E,D.getD 4,λb e=>?_⟩,P⟩,D.get 0⟩,D.fr⟩⟩;rcases ft b e with e|e
   .exact bH M.fr.size e
   .exact ab b e
  have more:∀(q:I) (j:bN),j.1<l.length->(match ie l f j with
   |some (a,st)=>lU l f (J.ax acc++[a]) st
   |none=>none)=some (x,y)->LH (·=d) w q [cK d s j,.g h,.row aF 4 k (acc.flatMap J.c)] [cP s l,.trees acc]->
    ez [h] ry #[.pointer (some (aj d))] q λad ae af ag G=>aN G (.cells #[.i ad,.int .u8 ae,.int .u8 af,ag.v] aF) λw6=>
     ∃(t13:O) (Q:I),a6 U (bb #[bG,bG] bG #[k.v,.slice (some (nb G)) 1 1]) w6=.ok (t13.v) Q/\kept [h] w6 Q/\s9.aP (aj d) h 0 0 0 ⟨none,0,0⟩ t13 Q (SA d s w (λr F=>fD w x r F/\y.1<l.length) y):=by
   intro q j P A u;cases N:ie l f j with
   |none=>rw [N] at A;cases A
   |some an=>
    obtain ⟨a,H⟩:=an;rw [N] at A;refine u.hH ((ih f (by omega)).Gf d j q a H N P u.fK) ?_;rintro _ w3 ⟨⟨B,rfl,hu,pu,S⟩,aa⟩ _ F3;have C:=F3 (.tree B) pu λb e=>S b (aT.1 e);have C:LH (·=d) w w3 [cK d s H,.g h,.row aF 4 k (acc.flatMap J.c)] [cP s l,.trees acc,.tree B]:=C;refine ⟨_,_,_,B.s,rfl,C.i5 2 j5 (xs:=acc.flatMap J.c) rfl (λs' G D=>?_) (by omega)⟩;have H6:LH (·=d) w G [cK d s H,.g h,.row aF 4 s' ((acc++[B]).flatMap J.c)] [cP s l,.trees (acc++[B])]:=by rw [kD];exact (D.p9 1 2).forget _ (by simp)
    refine Hc Z Y ih d w x y f (by omega) (acc++[B]) s' h G H ?_ aa (by simp;omega) (rh T λb e=>bH u.fr.size (S b e)) H6;rw [jm];have:J.ax [B]=[a]:=by simp [J.ax,hu]
    rw [this];exact A
  refine s9.bW _ _ _ _ _ _ _ _ _ (L.hH (o7 L.fK W Y [124]) ?_);have E:=qd Z W [124] (by decide);rintro _ q rfl u _;refine ⟨_,rfl,?_⟩;cases hq:dH l [124] st with
  |mk ac j=>
   rw [hq] at z u E;cases ac with
   |true=>exact more q j E z u
   |false=>exact fin q j E z u
def Py (Q:iE l) (P:l.length<=1000000) (Z:n<=100000) (D:∀m,m<=n->k5 s l m) (d:Nat) (st:bN) (w:I) (x:Rx) (u:bN) (k:gI l (n+1) st=some (x,u)) (hi:st.1<l.length) (H:h6 d s l st w):
  ai U py #[.pointer (some (aj d))] w (SA d s w (λr W=>fD w x r W/\u.1<l.length) u):=by
 unfold gI at k;cases A:ie l n st with
 |none=>rw [A] at k;cases k
 |some Y=>
  obtain ⟨a,y⟩:=Y;rw [A] at k;refine s9.aD _ w _ (H.aL λq E j=>?_);have j:LH (·=d) w E [cK d s st,.g q] [cP s l]:=j;refine j.hH ((D n (bB _)).Gf d st E a y A hi j.fK) ?_;rintro _ F ⟨⟨e,rfl,S,T,B⟩,O⟩ _ K;have z:=K (.tree e) T λb h=>B b (aT.1 h);have z:LH (·=d) w F [cK d s y,.g q] [cP s l,.tree e]:=z;refine ⟨_,_,_,e.s,rfl,z.eb (n:=1) (sz:=4) (cs:=e.c) rfl (by decide) λG L=>?_⟩;have M:LH (·=d) w G [cK d s y,.g q,.row aF 4 ⟨some (aj F.heap.size),1,1⟩ ([e].flatMap J.c)] [cP s l,.trees [e]]:=by
   have N:[e].flatMap J.c=e.c:=by simp
   rw [N];exact (L.sW 1).forget _ (by simp)
  refine Hc Q P D d w x u n (bB _) [e] _ q G y ?_ O (by simp;omega) (λb h=>?_) M
  .have:J.ax [e]=[a]:=by simp [J.ax,S]
   rw [this];exact k
  .obtain ⟨t,C,h⟩:=J.bR.1 h;simp at C;rw [C] at h;exact bH j.fr.size (B b h)
def Gh (Z:iE l) (Y:l.length<=1000000) (ih:∀m,m<=n->k5 s l m) (d:Nat) (w:I) (x:Rx) (y:bN):∀(f:Nat),f<=n->∀(acc:List J) (k:O) (h:Nat) (K:I) (st:bN),lV l f (J.ax acc) st=some (x,y)->st.1<l.length->acc.length+f<=1000000->(∀b∈J.a' acc,w.heap.size<=b)->
  LH (·=d) w K [cK d s st,.g h,.row aF 4 k (acc.flatMap J.c)] [cP s l,.trees acc]->
  s8.aP (aj d) h 0 0 0 ⟨none,0,0⟩ k K (SA d s w (λr F=>fD w x r F/\y.1<l.length) y)
 |0,_=>λacc k h K st z=>by unfold lV at z;cases z
 |f+1,hf=>λacc k h K st z W ao T L=>by
  have ap:=J.cj (L.get 2:aS _ _ _ _ _).bz;unfold lV at z;have fin:∀(q:I) (j:bN),j.1<l.length->some (lq 5 (J.ax acc),j)=some (x,y)->LH (·=d) w q [cK d s j,.g h,.row aF 4 k (acc.flatMap J.c)] [cP s l,.trees acc]->
    ez [h] od #[.i 5,k.v] q λah ai ak al w8=>loc [h] w8 λam=>SA d s w (λr F=>fD w x r F/\y.1<l.length) y (V (.agg #[.i ah,.int .u8 ai,.int .u8 ak,al.v])) am:=by
   intro q j P A u;simp only [eT,ee] at A;obtain ⟨rfl,rfl⟩:=A;have ab:∀b∈(bO k acc).fp,w.heap.size<=b:=λb e=>by
    rcases kK.1 e with e|e
    .exact (u.new _ (aI (i:=2) rfl) b (gb e)).resolve_right (yb u 1 rfl (gb e))
    .exact T b e
   have M:LH (·=d) w q [cK d s j,.g h] [cP s l,.trees acc,J.row k acc,.tree (bO k acc)]:=u.pS 2 1 0 0 0;refine M.pa (zL 5 k acc q (M.getD 3)) (λb e=>⟨_,aI (i:=3) rfl,aT.2 e⟩) λt w3 E C ft=>?_;refine ⟨_,_,_,t.s,rfl,C.au λw4 D=>⟨⟨⟨⟨t,rfl,E,D.getD 4,λb e=>?_⟩,P⟩,D.get 0⟩,D.fr⟩⟩;rcases ft b e with e|e
   .exact bH M.fr.size e
   .exact ab b e
  have more:∀(q:I) (j:bN),j.1<l.length->(match iv l f j with
   |some (a,st)=>lV l f (J.ax acc++[a]) st
   |none=>none)=some (x,y)->LH (·=d) w q [cK d s j,.g h,.row aF 4 k (acc.flatMap J.c)] [cP s l,.trees acc]->
    ez [h] rz #[.pointer (some (aj d))] q λad ae af ag G=>aN G (.cells #[.i ad,.int .u8 ae,.int .u8 af,ag.v] aF) λw6=>
     ∃(t13:O) (Q:I),a6 U (bb #[bG,bG] bG #[k.v,.slice (some (nb G)) 1 1]) w6=.ok (t13.v) Q/\kept [h] w6 Q/\s8.aP (aj d) h 0 0 0 ⟨none,0,0⟩ t13 Q (SA d s w (λr F=>fD w x r F/\y.1<l.length) y):=by
   intro q j P A u;cases N:iv l f j with
   |none=>rw [N] at A;cases A
   |some an=>
    obtain ⟨a,H⟩:=an;rw [N] at A;refine u.hH ((ih f (by omega)).seq d j q a H N P u.fK) ?_;rintro _ w3 ⟨⟨B,rfl,hu,pu,S⟩,aa⟩ _ F3;have C:=F3 (.tree B) pu λb e=>S b (aT.1 e);have C:LH (·=d) w w3 [cK d s H,.g h,.row aF 4 k (acc.flatMap J.c)] [cP s l,.trees acc,.tree B]:=C;refine ⟨_,_,_,B.s,rfl,C.i5 2 j5 (xs:=acc.flatMap J.c) rfl (λs' G D=>?_) (by omega)⟩;have H6:LH (·=d) w G [cK d s H,.g h,.row aF 4 s' ((acc++[B]).flatMap J.c)] [cP s l,.trees (acc++[B])]:=by rw [kD];exact (D.p9 1 2).forget _ (by simp)
    refine Gh Z Y ih d w x y f (by omega) (acc++[B]) s' h G H ?_ aa (by simp;omega) (rh T λb e=>bH u.fr.size (S b e)) H6;rw [jm];have:J.ax [B]=[a]:=by simp [J.ax,hu]
    rw [this];exact A
  refine s8.bW _ _ _ _ _ _ _ _ _ (L.hH (o7 L.fK W Y [38]) ?_);have E:=qd Z W [38] (by decide);rintro _ q rfl u _;refine ⟨_,rfl,?_⟩;cases hq:dH l [38] st with
  |mk ac j=>
   rw [hq] at z u E;cases ac with
   |true=>exact more q j E z u
   |false=>exact fin q j E z u
def O4 (Q:iE l) (P:l.length<=1000000) (Z:n<=100000) (D:∀m,m<=n->k5 s l m) (d:Nat) (st:bN) (w:I) (x:Rx) (u:bN) (k:ie l (n+1) st=some (x,u)) (hi:st.1<l.length) (H:h6 d s l st w):
  ai U ry #[.pointer (some (aj d))] w (SA d s w (λr W=>fD w x r W/\u.1<l.length) u):=by
 unfold ie at k;cases A:iv l n st with
 |none=>rw [A] at k;cases k
 |some Y=>
  obtain ⟨a,y⟩:=Y;rw [A] at k;refine s8.aD _ w _ (H.aL λq E j=>?_);have j:LH (·=d) w E [cK d s st,.g q] [cP s l]:=j;refine j.hH ((D n (bB _)).seq d st E a y A hi j.fK) ?_;rintro _ F ⟨⟨e,rfl,S,T,B⟩,O⟩ _ K;have z:=K (.tree e) T λb h=>B b (aT.1 h);have z:LH (·=d) w F [cK d s y,.g q] [cP s l,.tree e]:=z;refine ⟨_,_,_,e.s,rfl,z.eb (n:=1) (sz:=4) (cs:=e.c) rfl (by decide) λG L=>?_⟩;have M:LH (·=d) w G [cK d s y,.g q,.row aF 4 ⟨some (aj F.heap.size),1,1⟩ ([e].flatMap J.c)] [cP s l,.trees [e]]:=by
   have N:[e].flatMap J.c=e.c:=by simp
   rw [N];exact (L.sW 1).forget _ (by simp)
  refine Gh Q P D d w x u n (bB _) [e] _ q G y ?_ O (by simp;omega) (λb h=>?_) M
  .have:J.ax [e]=[a]:=by simp [J.ax,S]
   rw [this];exact k
  .obtain ⟨t,C,h⟩:=J.bR.1 h;simp at C;rw [C] at h;exact bH j.fr.size (B b h)
def Ky (ad:iE l) (ab:l.length<=1000000) (Y:∀m,m<=n->k5 s l m) (d:Nat) (w:I) (x:Rx) (y:bN):∀(f:Nat),f<=n->∀(acc:List J) (j:O) (h:Nat) (H:I) (st:bN),l9 l f (J.ax acc) st=some (x,y)->st.1<l.length->acc.length+f<=1000000->(∀b∈J.a' acc,w.heap.size<=b)->
  LH (·=d) w H [cK d s st,.g h,.row aF 4 j (acc.flatMap J.c)] [cP s l,.trees acc]->
  tc.aP (aj d) h 0 0 0 ⟨none,0,0⟩ j H (SA d s w (λr E=>fD w x r E/\y.1<l.length) y)
 |0,_=>λacc j h H st z=>by unfold l9 at z;cases z
 |f+1,hf=>λacc j h H st z N ap T K=>by
  have aq:=J.cj (K.get 2:aS _ _ _ _ _).bz;unfold l9 at z;have fin:∀(k:I) (q:bN),q.1<l.length->some (lq 3 (J.ax acc),q)=some (x,y)->LH (·=d) w k [cK d s q,.g h,.row aF 4 j (acc.flatMap J.c)] [cP s l,.trees acc]->
    ez [h] od #[.i 3,j.v] k λai ak al am w8=>loc [h] w8 λan=>SA d s w (λr E=>fD w x r E/\y.1<l.length) y (V (.agg #[.i ai,.int .u8 ak,.int .u8 al,am.v])) an:=by
   intro k q P A u;simp only [eT,ee] at A;obtain ⟨rfl,rfl⟩:=A;have ac:∀b∈(bO j acc).fp,w.heap.size<=b:=λb e=>by
    rcases kK.1 e with e|e
    .exact (u.new _ (aI (i:=2) rfl) b (gb e)).resolve_right (yb u 1 rfl (gb e))
    .exact T b e
   have L:LH (·=d) w k [cK d s q,.g h] [cP s l,.trees acc,J.row j acc,.tree (bO j acc)]:=u.pS 2 1 0 0 0;refine L.pa (zL 3 j acc k (L.getD 3)) (λb e=>⟨_,aI (i:=3) rfl,aT.2 e⟩) λt w3 ht C ft=>?_;refine ⟨_,_,_,t.s,rfl,C.au λw4 D=>⟨⟨⟨⟨t,rfl,ht,D.getD 4,λb e=>?_⟩,P⟩,D.get 0⟩,D.fr⟩⟩;rcases ft b e with e|e
   .exact bH L.fr.size e
   .exact ac b e
  have more:∀(k:I) (q:bN),q.1<l.length->(match fb l f q with
   |some (a,st)=>l9 l f (J.ax acc++[a]) st
   |none=>none)=some (x,y)->LH (·=d) w k [cK d s q,.g h,.row aF 4 j (acc.flatMap J.c)] [cP s l,.trees acc]->
    ez [h] pA #[.pointer (some (aj d))] k λae af ag ah F=>aN F (.cells #[.i ae,.int .u8 af,.int .u8 ag,ah.v] aF) λw6=>
     ∃(t13:O) (Q:I),a6 U (bb #[bG,bG] bG #[j.v,.slice (some (nb F)) 1 1]) w6=.ok (t13.v) Q/\kept [h] w6 Q/\tc.aP (aj d) h 0 0 0 ⟨none,0,0⟩ t13 Q (SA d s w (λr E=>fD w x r E/\y.1<l.length) y):=by
   intro k q P A u;cases M:fb l f q with
   |none=>rw [M] at A;cases A
   |some ao=>
    obtain ⟨a,G⟩:=ao;rw [M] at A;refine u.hH ((Y f (by omega)).item d q k a G M P u.fK) ?_;rintro _ w3 ⟨⟨B,rfl,hu,pu,S⟩,aa⟩ _ F3;have C:=F3 (.tree B) pu λb e=>S b (aT.1 e);have C:LH (·=d) w w3 [cK d s G,.g h,.row aF 4 j (acc.flatMap J.c)] [cP s l,.trees acc,.tree B]:=C;refine ⟨_,_,_,B.s,rfl,C.i5 2 j5 (xs:=acc.flatMap J.c) rfl (λZ F D=>?_) (by omega)⟩;have H6:LH (·=d) w F [cK d s G,.g h,.row aF 4 Z ((acc++[B]).flatMap J.c)] [cP s l,.trees (acc++[B])]:=by rw [kD];exact (D.p9 1 2).forget _ (by simp)
    refine Ky ad ab Y d w x y f (by omega) (acc++[B]) Z h F G ?_ aa (by simp;omega) (rh T λb e=>bH u.fr.size (S b e)) H6;rw [jm];have:J.ax [B]=[a]:=by simp [J.ax,hu]
    rw [this];exact A
  refine tc.bW _ _ _ _ _ _ _ _ _ (K.aA (NV K.fK N) ?_);rintro _ k rfl u;refine ⟨_,rfl,?_⟩;cases W:mT l st with
  |true=>rw [W] at z;exact more k st N z u
  |false=>rw [W] at z;exact fin k st N z u
def TX (Q:iE l) (P:l.length<=1000000) (Z:n<=100000) (D:∀m,m<=n->k5 s l m) (d:Nat) (st:bN) (w:I) (x:Rx) (u:bN) (k:iv l (n+1) st=some (x,u)) (hi:st.1<l.length) (H:h6 d s l st w):
  ai U rz #[.pointer (some (aj d))] w (SA d s w (λr W=>fD w x r W/\u.1<l.length) u):=by
 unfold iv at k;cases A:fb l n st with
 |none=>rw [A] at k;cases k
 |some Y=>
  obtain ⟨a,y⟩:=Y;rw [A] at k;refine tc.aD _ w _ (H.aL λq E j=>?_);have j:LH (·=d) w E [cK d s st,.g q] [cP s l]:=j;refine j.hH ((D n (bB _)).item d st E a y A hi j.fK) ?_;rintro _ F ⟨⟨e,rfl,S,T,B⟩,O⟩ _ K;have z:=K (.tree e) T λb h=>B b (aT.1 h);have z:LH (·=d) w F [cK d s y,.g q] [cP s l,.tree e]:=z;refine ⟨_,_,_,e.s,rfl,z.eb (n:=1) (sz:=4) (cs:=e.c) rfl (by decide) λG L=>?_⟩;have M:LH (·=d) w G [cK d s y,.g q,.row aF 4 ⟨some (aj F.heap.size),1,1⟩ ([e].flatMap J.c)] [cP s l,.trees [e]]:=by
   have N:[e].flatMap J.c=e.c:=by simp
   rw [N];exact (L.sW 1).forget _ (by simp)
  refine Ky Q P D d w x u n (bB _) [e] _ q G y ?_ O (by simp;omega) (λb h=>?_) M
  .have:J.ax [e]=[a]:=by simp [J.ax,S]
   rw [this];exact k
  .obtain ⟨t,C,h⟩:=J.bR.1 h;simp at C;rw [C] at h;exact bH j.fr.size (B b h)
end
end Go.Proofs.YtocpddmpfbfdbaaGreatDoor
